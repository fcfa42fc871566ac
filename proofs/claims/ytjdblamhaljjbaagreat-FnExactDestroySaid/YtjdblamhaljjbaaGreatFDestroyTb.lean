/- What the functions compute that FnExactDestroy reaches, and that they do; no condition. Printed by gen3.py. -/
import Derived.Test.YtjdblamhaljjbaaGreatFDestroyTa
set_option linter.all false
set_option maxRecDepth 20000
namespace Go.Proofs.YtjdblamhaljjbaaGreat
open Go.Eng
noncomputable section
def Amb (K:Nat)(a0:List Ax):Nat->Int->Int->Option (Int)
 |0,_,_=>none
 |n1+1,v1,v2=>(bif (decide (v2<(a0.length:Int)))then(if(0:Int)≤v2∧v2<(a0.length:Int)then(bif (((gt a0 v2).A5) != v1)then some (-1)else(if(0:Int)≤v2∧v2<(a0.length:Int)then(bif (((gt a0 v2).Bt) != (Aoa .i64 v1 1))then some (-1)else(if(0:Int)≤v2∧v2<(a0.length:Int)then((Alh K ((gt a0 v2).Dg) (Aoa .i64 (Aoa .i64 v1 1) 1)).bind fun r3=>(bif (decide (r3<0))then some (-1)else(if(0:Int)≤v2∧v2<(a0.length:Int)then((Alh K ((gt a0 v2).Ae) r3).bind fun r4=>(bif (decide (r4<0))then some (-1)else(if(0:Int)≤v2∧v2<(a0.length:Int)then(bif (((gt a0 v2).Gu) != r4)then some (-1)else(Amb K a0 n1 (Aoa .i64 r4 1) (Aoa .i64 v2 1)))else none)))else none)))else none))else none))else none)else some v1)
def Asy (K:Nat)(a0:List Ax)(a1:Int):Option (Int):=(Amb K a0 K a1 0)
def s_177:Sig:=⟨[.v 30,.v 3],[.v 3],true⟩
def Bus (K:Nat):Gb tyU:=⟨s_177,Asy K⟩
def Bmt (K:Nat):=xF s_177 [(98,Bbn K)] [] 58 [] [] [] [] [.tmp 4]
def A6a:E5:=⟨[(0,.v 30),(1,.v 2),(5,.v 2)],[]⟩
def A6b (K:Nat)(n:Nat)(q:PT A6a):Rt s_177:=Amb K q.1 n q.2.1 q.2.2.1
theorem Bmu (K:Nat):AtL (Bmt K) (fun n=>[]) [] (bd Tryz.f97) 26 (A6b K):=fun n q=>by kernel_rfl
theorem Bmv (K:Nat):XF [.tmp 4] s_177 58 [] (Bmt K):=xkF (gC (Bab K) gN) oN
theorem Bmw (K:Nat)(n:Nat):CF [.tmp 4] s_177 58 [] (bd Tryz.f97) [] 26 (ar A6a (A6b K n)):=
 Aeh (Bmv K) (Bmu K) (fun n=>kN) n
theorem Bx2 (K:Nat):OkF 97 (Bus K):=
 Aa6 (x:=Bmt K) (L:=[(26,ar A6a (A6b K K))]) (c0:=bd Tryz.f97) (Bmv K) (by intro a0 a1;show @Eq _ _ _;kernel_rfl) (kC (Bmw K K) kN) Tryz.func97 trivial
def Ar3 (K:Nat)(a0:Eb)(a1:Int):Option (Int):=((Axf K a0.fP a1).bind fun r1=>(bif (decide (r1<0))then some (-1)else((Atx K a0.fL r1).bind fun r2=>(bif (decide (r2<0))then some (-1)else((Asy K a0.fQ r2).bind fun r3=>(bif (decide (r3<0))then some (-1)else((Alh K a0.Pr r3).bind fun r4=>(bif (decide (r4<0))then some (-1)else some r4))))))))
def But:Sig:=⟨[.v 32,.v 3],[.v 3],true⟩
def Buu (K:Nat):Gb tyU:=⟨But,Ar3 K⟩
def B4m (K:Nat):=xF But [(95,Bup K),(96,Bur K),(97,Bus K),(98,Bbn K)] [] 30 [] [] [] [] [.tmp 4]
theorem Bx3 (K:Nat):OkF 35 (Buu K):=
 Aa6 (x:=B4m K) (L:=[]) (c0:=bd Tryz.f35) (xkF (gC (Bxz K) (gC (Bx1 K) (gC (Bx2 K) (gC (Bab K) gN)))) oN) (by intro a0 a1;show @Eq _ _ _;kernel_rfl) kN Tryz.func35 trivial
def Atf (K:Nat)(a0:Fh)(a1:Int):Option (Int):=((Ar2 K a0.fB a1).bind fun r1=>(bif (decide (r1<0))then some (-1)else some r1))
def Buv:Sig:=⟨[.v 69,.v 3],[.v 3],true⟩
def Buw (K:Nat):Gb tyU:=⟨Buv,Atf K⟩
def B4n (K:Nat):=xF Buv [(30,Bmb K)] [] 12 [] [] [] [] [.tmp 4]
theorem Bx4 (K:Nat):OkF 36 (Buw K):=
 Aa6 (x:=B4n K) (L:=[]) (c0:=bd Tryz.f36) (xkF (gC (Bmg K) gN) oN) (by intro a0 a1;show @Eq _ _ _;kernel_rfl) kN Tryz.func36 trivial
def Aqv (K:Nat)(a0:Ec)(a1:Dn):Option (Bool):=((Aqi K a0 1048576).bind fun r1=>(bif (decide (r1<0))then some true else((Axc K a0).bind fun r2=>((Asd K a1).bind fun r3=>((Avo K r2 r3).bind fun r4=>((Ari K a0).bind fun r5=>((Asd K a1).bind fun r6=>((Atb K r5 r6).bind fun r7=>((Aqn K r7.1 r4.1).bind fun r8=>(bif r8 then((Atv K r7.2 r4.2).bind fun r9=>(bif (!r9)then some false else((Ari K a0).bind fun r10=>((Aqn K r5 r10).bind fun r11=>(bif (!r11)then some false else((Ar1 K r5 1).bind fun r12=>(if r12.2.1.length=r5.fP.Fy.length∧r12.2.2.1.length=r5.fP.Hh.length∧r12.2.2.2.1.length=r5.fP.Fz.length∧r12.2.2.2.2.1.length=r5.fL.length∧r12.2.2.2.2.2.1.length=r5.fQ.length∧r12.2.2.2.2.2.2.length=r5.Pr.length then(bif (decide (r12.1<0))then some false else((Aqn K r7.1 r4.1).bind fun r13=>(bif r13 then((Atv K r7.2 r4.2).bind fun r14=>(bif (!r14)then some false else((Ar1 K r7.1 1).bind fun r15=>(if r15.2.1.length=r7.1.fP.Fy.length∧r15.2.2.1.length=r7.1.fP.Hh.length∧r15.2.2.2.1.length=r7.1.fP.Fz.length∧r15.2.2.2.2.1.length=r7.1.fL.length∧r15.2.2.2.2.2.1.length=r7.1.fQ.length∧r15.2.2.2.2.2.2.length=r7.1.Pr.length then((Avz K r7.2 r15.1).bind fun r16=>(if r16.2.length=r7.2.fB.length then((Ar3 K (Eb.mk r7.1.fC (Dw.mk r15.2.1 r15.2.2.1 r15.2.2.2.1) r15.2.2.2.2.1 r15.2.2.2.2.2.1 r15.2.2.2.2.2.2) 1).bind fun r17=>(bif (decide (r17<0))then some false else((Atf K (Fh.mk r7.2.W9 r7.2.fH r7.2.fR r16.2 r7.2.Xa r7.2.E9 r7.2.Ps) r17).bind fun r18=>(bif (decide (r18<0))then some false else(bif (r18 != r16.1)then some false else((Ari K a0).bind fun r19=>((Asd K a1).bind fun r20=>((Atb K r19 r20).bind fun r21=>((Aqn K r21.1 r4.1).bind fun r22=>(bif r22 then((Atv K r21.2 r4.2).bind fun r23=>(bif (!r23)then some false else((Ar3 K (Eb.mk r7.1.fC (Dw.mk r15.2.1 r15.2.2.1 r15.2.2.2.1) r15.2.2.2.2.1 r15.2.2.2.2.2.1 r15.2.2.2.2.2.2) 1).bind fun r24=>(bif (decide (r24<0))then some false else((Atf K (Fh.mk r7.2.W9 r7.2.fH r7.2.fR r16.2 r7.2.Xa r7.2.E9 r7.2.Ps) r24).bind fun r25=>(bif (decide (r25<0))then some false else(bif (r25 != r16.1)then some false else some true)))))))else some false))))))))))else none))else none))))else some false)))else none)))))))else some false))))))))))
def Bux:Sig:=⟨[.v 52,.v 53],[.v 4],true⟩
def B4o (K:Nat):Gb tyU:=⟨Bux,Aqv K⟩
def B4p (K:Nat):=xF Bux [(18,c_8 K),(20,By4 K),(21,By7 K),(23,Bt9 K),(28,Bul K),(33,Bue K),(34,Bun K),(35,Buu K),(36,Buw K),(41,B1y K),(42,Btu K)] [(23,[(20,B11 K)])] 120 [40,41,42,57,58,61,62,63,64,99,100,101] [] [] [] [.tmp 4]
theorem Bx5 (K:Nat):OkF 9 (B4o K):=
 Aa6 (x:=B4p K) (L:=[]) (c0:=bd Tryz.f9) (xkF (gC (B47 K) (gC (By5 K) (gC (By8 K) (gC (Bxq K) (gC (Bxx K) (gC (Bxs K) (gC (Bxy K) (gC (Bx3 K) (gC (Bx4 K) (gC (B1z K) (gC (Bxh K) gN))))))))))) (oC (gC (B12 K) gN) oN)) (by intro a0 a1;show @Eq _ _ _;kernel_rfl) kN Tryz.func9 trivial
end
end Go.Proofs.YtjdblamhaljjbaaGreat
