/- What the functions compute that FnTags reaches, and that they do; no condition. Printed by gen4.py. -/
import Derived.Test.YtcdojenmonmcfaaGreatFFnTagsTa
set_option linter.all false
set_option maxRecDepth 20000
namespace Go.Proofs.YtcdojenmonmcfaaGreat
open Go.Eng
noncomputable section
variable (K:Nat)
def Aut (K:Nat)(a0:C5)(a1:Int):Option ((List Int)):=((Ags K a0.fL a1).bind fun r1=>(bif (!r1)then some []else(if(0:Int)≤(a0.fL.length:Int)∧(a0.fL.length:Int)≤(a0.fL.length:Int)∧(1:Int)*(a0.fL.length:Int)≤281474976710656∧(a0.fL.length:Int)≤9223372036854775807 then((Akw K a0 ([a1]:List Int) (List.replicate (a0.fL.length:Int).toNat false)).bind fun r2=>(if r2.2.length=(List.replicate (a0.fL.length:Int).toNat false).length then some r2.1 else none))else none)))
def Bwo:=ct (fd Tryz.func138 ⟨[.v 32,.v 3],[.n 26 true],true⟩ (gC (A2z K) (gC (Bm3 K) gN))) (Aut K)
def Atq (K:Nat)(v2:List Az)(v3:Int)(v4:Int)(v5:Int)(v6:Int)(v7:Int)(v8:Int)(v9:Int)(v10:Int)(v11:List Int)(v12:List Int)(v13:List Int)(v14:List As)(v15:List Az)(v16:List Int)(r18:(List Int))(C1:(List Int)->(List Az)->Int->Int->Int->Int->Int->Int->Int->Int->(List Int)->(List Int)->(List Int)->(List As)->(List Az)->(List Int)->Option ((List Int))):Nat->(List Int)->Int->Int->Option ((List Int))
 |0,_,_,_=>none
 |n2+1,v19,v20,v21=>(bif (decide (v21<v20))then(if(0:Int)≤v21∧v21<(r18.length:Int)then((Aut K (C5.mk (Ea.mk v5 v6 v7 v8 v9 v10) (Dn.mk v11 v12 v13) v14 v15 v16) (gt r18 v21)).bind fun r22=>(if(v19++r22).length*8≤140737488355328∧(v19++r22).length≤maxLen then(Atq K v2 v3 v4 v5 v6 v7 v8 v9 v10 v11 v12 v13 v14 v15 v16 r18 C1 n2 (v19++r22) v20 (An6 .i64 v21 1))else none))else none)else(C1 v19 v2 v3 (An6 .i64 v4 1) v5 v6 v7 v8 v9 v10 v11 v12 v13 v14 v15 v16))
def Are (K:Nat):Nat->(List Int)->(List Az)->Int->Int->Int->Int->Int->Int->Int->Int->(List Int)->(List Int)->(List Int)->(List As)->(List Az)->(List Int)->Option ((List Int))
 |0,_,_,_,_,_,_,_,_,_,_,_,_,_,_,_,_=>none
 |n1+1,v1,v2,v3,v4,v5,v6,v7,v8,v9,v10,v11,v12,v13,v14,v15,v16=>(bif (decide (v4<v3))then(if(0:Int)≤v4∧v4<(v2.length:Int)then((Auj K ((gt v2 v4).Fi)).bind fun r17=>(if(v1++r17).length*8≤140737488355328∧(v1++r17).length≤maxLen then((Auq K v14 ((gt v2 v4).Ef)).bind fun r18=>(Atq K v2 v3 v4 v5 v6 v7 v8 v9 v10 v11 v12 v13 v14 v15 v16 r18 (Are K n1) K (v1++r17) (r18.length:Int) 0))else none))else none)else some v1)
def Avu (K:Nat)(a0:C5):Option ((List Int)):=(Are K K ([]:List Int) a0.fQ (a0.fQ.length:Int) 0 a0.fC.Ay a0.fC.G8 a0.fC.E6 a0.fC.Gu a0.fC.E7 a0.fC.G9 a0.fP.N7 a0.fP.Vi a0.fP.N8 a0.fL a0.fQ a0.Acy)
def Bm4:=fd Tryz.func56 ⟨[.v 32],[.n 26 true],true⟩ (gC (Bej K) (gC (Bm0 K) (gC (Bwo K) gN)))
def B0g:Ej:=⟨[(1,.p 101),(3,.o 1003 3 true),(10,.v 30),(11,.v 2),(12,.v 2),(25,.v 26),(26,.v 2),(27,.v 2)],[(101,.box [.v 2,.v 2,.v 2,.v 2,.v 2,.v 2,.v 22,.v 26,.v 26,.v 29,.v 30,.v 26])]⟩
def Bm5:Ej:=⟨[(1,.p 101),(3,.o 1003 3 true),(10,.v 30),(11,.v 2),(12,.v 2)],[(101,.box [.v 2,.v 2,.v 2,.v 2,.v 2,.v 2,.v 22,.v 26,.v 26,.v 29,.v 30,.v 26])]⟩
def Bcj:=fun(C58:CT Bm5 _)=>lp (Bm4 K) 29902 B0g [(58,ar Bm5 C58)] (fun n a b c d e f g h i j k l m o p q r s t=>Atq K b c d h i j k l m o p q r s t e C58 n a f g) (fun n=>kN)
def Bm6:=lp (Bm4 K) 58 Bm5 [] (Are K) (fun n=>(kC (Bcj K _ K) kN))
def Bwp:=ct (Bm4 K) (Avu K) (kC (Bm6 K K) kN)
def Az7 (K:Nat)(a0:List Int):Option (Bool):=((A45 K a0).bind fun r1=>(bif r1 then some true else((Ayv K a0).bind fun r2=>((A20 K r2.1 r2.2.1 r2.2.2).bind fun r3=>((Axv K r2.1 r2.2.1 r2.2.2).bind fun r4=>((Awd K a0).bind fun r5=>((A04 K r5.1 r5.2).bind fun r6=>((Atz K r5.1 r5.2).bind fun r7=>((Ard K r3.1 r4.1).bind fun r8=>(bif r8 then((Avs K r3.2 r4.2).bind fun r9=>(bif r9 then((Avs K r6.2 r7.2).bind fun r10=>(bif r10 then((Ard K r6.1 r5.1).bind fun r11=>(bif r11 then((Aus K r5.1 r5.2).bind fun r12=>((Az5 K r5.1 r5.2).bind fun r13=>((Akp K r12 r13).bind fun r14=>(bif (!r14)then some false else(bif (r3.2.W4 != 0)then((Ard K r3.1 r2.1).bind fun r15=>some r15)else((Aus K r3.1 r2.2.1).bind fun r16=>((Ay7 K r3.1 r2.2.1).bind fun r17=>((Avu K r17.1).bind fun r18=>((Avu K r3.1).bind fun r19=>((Aus K r2.1 r2.2.1).bind fun r20=>(bif ((r16.length:Int)==(An6 .i64 (r20.length:Int) 1))then(if(0:Int)≤(An7 .i64 (r16.length:Int) 1)∧(An7 .i64 (r16.length:Int) 1)<(r16.length:Int)then(bif ((gt r16 (An7 .i64 (r16.length:Int) 1))==r2.2.2)then(bif (r17.2.W4==0)then(bif (decide ((r18.length:Int)>(r19.length:Int)))then(if(0:Int)≤(r19.length:Int)∧(r19.length:Int)<(r18.length:Int)then some ((gt r18 (r19.length:Int))==r2.2.2)else none)else some false)else some false)else some false)else none)else some false)))))))))))else some false))else some false))else some false))else some false))))))))))
def Bwq:=ct (fd Tryz.func6 ⟨[.v 22],[.v 4],true⟩ (gC (B00 K) (gC (Bwb K) (gC (A72 K) (gC (Bwd K) (gC (Buu K) (gC (Bv2 K) (gC (Bk6 K) (gC (Bv4 K) (gC (Bv6 K) (gC (Bk8 K) (gC (Bwc K) (gC (Bwe K) (gC (Bwm K) (gC (Bwp K) gN)))))))))))))) [62,63,64,67,68,69,70,73,74,75,76,79,80,81,82,119,120,128,129,130,133,134,135,139,140,141] [] [(14,[.frz 21056,.frz 21057,.frz 21058,.frz 21059,.frz 21060,.frz 21061])]) (Az7 K)
end
end Go.Proofs.YtcdojenmonmcfaaGreat
