/- What the functions compute that FnUses reaches, and that they do; no condition. Printed by gen4.py. -/
import Derived.Test.YtcdojenmonmcfaaGreatFSrt
set_option linter.all false
set_option maxRecDepth 20000
namespace Go.Proofs.YtcdojenmonmcfaaGreat
open Go.Eng
noncomputable section
abbrev PT (h:Ei):Type:=Af tyU h.codes
abbrev Rt (s:Sig):Type:=Option (Aw tyU s.codes)
def FnP (R:Type):List TC->Type
 |[]=>R
 |c::l=>c.T tyU->FnP R l
noncomputable def unc{R:Type}:(l:List TC)->FnP R l->Af tyU l->R
 |[],f,_=>f
 |_::l,f,q=>unc l (f q.1) q.2
abbrev CT (h:Ei)(s:Sig):Type:=FnP (Rt s) h.codes
noncomputable abbrev ar{s:Sig}(h:Ei)(M:CT h s):SS Aj->Rt s:=arr tyU tab h (unc h.codes M)
abbrev OkF (f:FuncId)(c:Fg tyU):Prop:=Fg.Ok tyU Tryz.prog f c∧Eh Tryz.prog f
theorem Bzd:Tryz.prog.follows .mixedOrders=true:=by kernel_rfl
structure FD (f:FuncId)(s:Sig) where
 fn:Func
 hf:Tryz.prog.funcs[f]? =some fn
 G:List (Nat×Fg tyU)
 g: ∀f c,lk G f=some c->OkF f c
 O:List (Nat×List (Nat×Fg tyU))
 o: ∀d l,lk O d=some l-> ∀f c,lk l f=some c->OkF f c
 spl:List Nat
 js:List Nat
 pre:List (Nat×List Cmd)
 post:List (Nat×List Cmd)
noncomputable abbrev fo{f:FuncId}{fn:Func}(hf:Tryz.prog.funcs[f]? =some fn)(s:Sig){G:List (Nat×Fg tyU)}(g: ∀f c,lk G f=some c->OkF f c){O:List (Nat×List (Nat×Fg tyU))}(o: ∀d l,lk O d=some l-> ∀f c,lk l f=some c->OkF f c)(spl:List Nat:=[])(js:List Nat:=[])(pre:List (Nat×List Cmd):=[])(post:List (Nat×List Cmd):=[]):FD f s:=⟨fn,hf,G,g,O,o,spl,js,pre,post⟩
noncomputable abbrev fd{f:FuncId}{fn:Func}(hf:Tryz.prog.funcs[f]? =some fn)(s:Sig){G:List (Nat×Fg tyU)}(g: ∀f c,lk G f=some c->OkF f c)(spl:List Nat:=[])(js:List Nat:=[])(pre:List (Nat×List Cmd):=[])(post:List (Nat×List Cmd):=[]):FD f s:=⟨fn,hf,G,g,[],oN,spl,js,pre,post⟩
section
variable {f:FuncId} {s:Sig}
noncomputable abbrev FD.b (X:FD f s):Code:=X.fn.body.getD .skip
noncomputable def FD.x (X:FD f s)(L B:Λt tyU s):Ox tyU (Aw tyU s.codes):=⟨X.G,X.O,eqT eqs,X.fn.ntmps,X.spl,X.pre,X.post,X.js,L,B,Ae3 tyU tab s X.fn.results.toList⟩
abbrev CuX (X:FD f s):Λt tyU s->Nat->(SS Aj->Rt s)->Prop:=Cut tyU tab Tryz.prog X.fn.results.toList s X.fn.ntmps X.js X.b
abbrev CsX (X:FD f s):Λt tyU s->Λt tyU s->Prop:=Ve tyU tab Tryz.prog X.fn.results.toList s X.fn.ntmps X.js X.b
theorem xo (X:FD f s):XOk tyU tab Tryz.prog X.fn.results.toList s X.fn.ntmps X.js X.x:=xok Aql Bzd X.g X.o Apl
theorem lp (X:FD f s)(p:Nat)(h:Ei)(B:Λt tyU s)(M:Nat->CT h s){L:Nat->Λt tyU s}(hc: ∀n,CsX X ((p,ar h (M n))::B) (L n))(e: ∀n q,unc h.codes (M (n+1)) q=Ae1 tyU tab (X.x (L n) ((p,ar h (M n))::B)) X.b (2*p) (h.emb tyU q):=by intro n q;kernel_rfl)(hp:Nat.ble 1 p=true:=by rfl)(hk:Sg X.js X.b p=true:=by kernel_rfl)(e0: ∀q,unc h.codes (M 0) q=none:=by intro q;rfl)(n:Nat):CuX X B p (ar h (M n)):=Ame (M:=fun n=>unc h.codes (M n)) (xo X) hp hk e0 e hc n
theorem jn (X:FD f s)(p:Nat)(h:Ei)(B:Λt tyU s)(M:CT h s){L:Λt tyU s}(hc:CsX X B L)(e: ∀q,unc h.codes M q=Ae1 tyU tab (X.x L B) X.b (2*p+1) (h.emb tyU q):=by intro q;kernel_rfl)(hp:Nat.ble 1 p=true:=by rfl):CuX X B p (ar h M):=Amd (xo X) hp e hc
theorem up{X:FD f s}{B:Λt tyU s}{p x:Nat}{F G:SS Aj->Rt s}(h:CuX X B p F)(hn:Amf X.js X.b p x=true:=by kernel_rfl):CuX X ((x,G)::B) p F:=Aov hn h
theorem ct (X:FD f s)(m:V6 tyU s.ps (Rt s)){L:Λt tyU s}(hc:CsX X [] L:=by exact kN)(e:Uh tyU tab (X.x L []) X.b s.ps 0 [] [] m:=by(repeat intro _);show @Eq _ _ _;kernel_rfl)(hs:Wu tyU s.ps:=by(repeat (refine⟨fun _=>rfl,?_⟩));exact trivial)(h1:(X.fn.name== "runtime.NumGoroutine")=false:=by rfl)(h2:X.fn.body=some X.b:=by rfl)(h5:Nat.ble s.ps.length X.fn.ntmps=true:=by rfl)(h6:Nat.ble (Bf s.ps+1) 100=true:=by rfl)(h7:Nat.ble X.fn.results.toList.length 4=true:=by rfl):OkF f ⟨s,m⟩:=Aou (xo X) Apk e hc X.hf h1 h2 (Array.toArray_toList).symm rfl h5 h6 h7 hs
end
variable (K:Nat)
def A4r (K:Nat)(a0:List Int):Option (Bool):=some (decide ((a0.length:Int)>1048576))
def Bzf:=ct (fd Tryz.func8 ⟨[.v 22],[.v 4],true⟩ gN) (A4r K)
def Au1 (K:Nat)(a0:List Int):Nat->Int->Int->Option (D0)
 |0,_,_=>none
 |n1+1,v1,v2=>(bif (decide (v2<(a0.length:Int)))then(bif (decide (v2<4000))then(if(0:Int)≤v2∧v2<(a0.length:Int)then(Au1 K a0 n1 (An6 .i64 (An3 .i64 (An3 .i64 (An5 .i64 v1 137) (IntKind.i64.wrap (gt a0 v2))) 11) 1073741823) (An3 .i64 v2 1))else none)else some (D0.mk a0 0 v1))else some (D0.mk a0 0 v1))
def A0g (K:Nat)(a0:List Int):Option (D0):=(Au1 K a0 K (An3 .i64 161416 (a0.length:Int)) 0)
def X_1:=fd Tryz.func67 ⟨[.v 22],[.p 148 false],false⟩ gN [11,12]
def h_0:Ei:=⟨[(0,.v 22),(3,.v 2),(4,.v 2)],[]⟩
def Br7:=lp X_1 58 h_0 [] (fun n a=>Au1 K a n) (fun n=>kN)
def Bzg:=ct X_1 (A0g K) (kC (Br7 K K) kN)
def Aws (K:Nat)(v1:Int)(v2:List Int)(v3:Int)(v4:Int):Option (Int×D0):=some (v1,(D0.mk v2 v3 v4))
def Aqw (K:Nat)(a0:D0):Option (Int×D0):=(if(0:Int)≤33 then(if(0:Int)≤47 then(bif (decide (a0.fi<(a0.fb.length:Int)))then(if(0:Int)≤a0.fi∧a0.fi<(a0.fb.length:Int)then(Aws K (An6 .i64 (An3 .i64 (An6 .i64 (An7 .i64 (Alh .i64 (An3 .i64 (An5 .i64 a0.fh 6364136223846793005) 1442695040888963407) 33) (Alh .i64 (An3 .i64 (An5 .i64 a0.fh 6364136223846793005) 1442695040888963407) 47)) 255) (IntKind.i64.wrap (gt a0.fb a0.fi))) 255) a0.fb (An3 .i64 a0.fi 1) (An3 .i64 (An5 .i64 a0.fh 6364136223846793005) 1442695040888963407))else none)else(Aws K (An6 .i64 (An7 .i64 (Alh .i64 (An3 .i64 (An5 .i64 a0.fh 6364136223846793005) 1442695040888963407) 33) (Alh .i64 (An3 .i64 (An5 .i64 a0.fh 6364136223846793005) 1442695040888963407) 47)) 255) a0.fb a0.fi (An3 .i64 (An5 .i64 a0.fh 6364136223846793005) 1442695040888963407)))else none)else none)
def X_2:=fd Tryz.func148 ⟨[.b 148 false],[.v 3],false⟩ gN [] [15]
def h_1:Ei:=⟨[(3,.v 2)],[(1,.box [.v 22,.v 2,.v 2])]⟩
def Br8:=jn X_2 15 h_1 [] (Aws K) kN
def Bv4:=ct X_2 (Aqw K) (kC (Br8 K) kN)
def Ap (K:Nat)(a0:D0)(a1:Int):Option (Int×D0):=(bif (decide (a1≤0))then some (0,a0)else(bif (decide (a1≤256))then((Aqw K a0).bind fun r1=>(if a1≠(0:Int)then some ((Int.tmod r1.1 a1),r1.2)else none))else((Aqw K a0).bind fun r2=>((Aqw K r2.2).bind fun r3=>((Aqw K r3.2).bind fun r4=>(if a1≠(0:Int)then some ((Int.tmod (An3 .i64 (An3 .i64 (An5 .i64 r2.1 65536) (An5 .i64 r3.1 256)) r4.1) a1),r4.2)else none))))))
def A2g:=ct (fd Tryz.func66 ⟨[.b 148 false,.v 3],[.v 3],false⟩ (gC (Bv4 K) gN)) (Ap K)
def P2 (K:Nat)(a0:D0)(a1:List Int):Option (Int×D0×(List Int)):=((Ap K a0 (a1.length:Int)).bind fun r1=>(if(0:Int)≤r1.1∧r1.1<(a1.length:Int)then some ((gt a1 r1.1),r1.2,a1)else none))
def A7i:=ct (fd Tryz.func132 ⟨[.b 148 false,.w 26 true [(3,true)]],[.v 3],false⟩ (gC (A2g K) gN)) (P2 K)
def Awc (K:Nat)(a0:D0):Option (D9×D0):=((Ap K a0 11).bind fun r1=>((P2 K r1.2 ([8,8,9,12,16]:List Int)).bind fun r2=>(if r2.2.2.length=([8,8,9,12,16]:List Int).length then((Ap K r2.2.1 7).bind fun r3=>((Ap K r3.2 6).bind fun r4=>((P2 K r4.2 ([1,3,4,8,16]:List Int)).bind fun r5=>(if r5.2.2.length=([1,3,4,8,16]:List Int).length then((Ap K r5.2.1 4).bind fun r6=>some ((D9.mk (An3 .i64 2 r1.1) r2.1 (An3 .i64 2 r3.1) (An3 .i64 1 r4.1) r5.1 (An3 .i64 1 r6.1)),r6.2))else none))))else none)))
def Bv5:=ct (fd Tryz.func181 ⟨[.b 148 false],[.v 25],false⟩ (gC (A2g K) (gC (A7i K) gN))) (Awc K)
def Gy (K:Nat)(a0:Int)(a1:Int)(a2:Int):Option (Bool):=(bif (decide (a0≥a1))then some (decide (a0≤a2))else some false)
def A13:=ct (fd Tryz.func106 ⟨[.v 3,.v 3,.v 3],[.v 4],true⟩ gN [9,10]) (Gy K)
def Anf (K:Nat)(a0:D9):Option (Bool):=((Gy K a0.Ay 2 12).bind fun r1=>(bif r1 then((Gy K a0.G6 8 16).bind fun r2=>(bif r2 then((Gy K a0.E5 2 8).bind fun r3=>(bif r3 then((Gy K a0.Gs 1 8).bind fun r4=>(bif r4 then((Gy K a0.E6 1 16).bind fun r5=>(bif r5 then((Gy K a0.G7 1 4).bind fun r6=>some r6)else some false))else some false))else some false))else some false))else some false))
def Bbo:=ct (fd Tryz.func95 ⟨[.v 25],[.v 4],true⟩ (gC (A13 K) gN) [5,6,9,10,11,14,15,16,19,20,21,24,25,26]) (Anf K)
def Arb (K:Nat)(a0:D9):Option (Int):=((Anf K a0).bind fun r1=>(bif (!r1)then some 0 else some (An5 .i64 a0.Ay a0.G6)))
def Bob:=ct (fd Tryz.func190 ⟨[.v 25],[.v 3],true⟩ (gC (Bbo K) gN)) (Arb K)
def A2x (K:Nat)(a0:Int):Option ((List Int)):=((Gy K a0 0 4096).bind fun r1=>(bif (!r1)then some ([]:List Int)else(if(0:Int)≤a0∧a0≤a0∧(1:Int)*a0≤281474976710656∧a0≤9223372036854775807 then some (List.replicate a0.toNat 0)else none)))
def Bzh:=ct (fd Tryz.func189 ⟨[.v 3],[.n 22 true],true⟩ (gC (A13 K) gN)) (A2x K)
def Asm (K:Nat)(a0:D9):Nat->Int->Dm->Dm->Option (Dm)
 |0,_,_,_=>none
 |n1+1,v4,v5,v6=>(bif (decide (v4<a0.Ay))then(if(v5.Vg++([0]:List Int)).length*8≤140737488355328∧(v5.Vg++([0]:List Int)).length≤maxLen then(if(v5.N6++([(-1)]:List Int)).length*8≤140737488355328∧(v5.N6++([(-1)]:List Int)).length≤maxLen then(Asm K a0 n1 (An3 .i64 v4 1) (Dm.mk v5.N5 (v5.Vg++([0]:List Int)) (v5.N6++([(-1)]:List Int))) v6)else none)else none)else some v5)
def Ax1 (K:Nat)(a0:D9):Option (Dm):=((Anf K a0).bind fun r1=>(bif (!r1)then some (Dm.mk [] [] [])else((Arb K a0).bind fun r2=>((A2x K r2).bind fun r3=>(Asm K a0 K 0 (Dm.mk r3 [] []) (Dm.mk [] [] []))))))
def Bv6:=fd Tryz.func96 ⟨[.v 25],[.n 28 true],true⟩ (gC (Bbo K) (gC (Bzh K) (gC (Bob K) gN))) [] [] [(3,[.take 103 0 6648,.take 103 1 6649,.take 103 2 6650]),(8,[.take 103 1 6649]),(9,[.take 103 2 6650]),(10,[.take 103 0 6648,.take 103 1 6649,.take 103 2 6650])]
def h_2:Ei:=⟨[(1,.p 101),(2,.p 102),(3,.p 103),(4,.v 2)],[(103,.st 28 true),(102,.st 28 true),(101,.st 25 true)]⟩
def Bi0:=lp (Bv6 K) 250 h_2 [] (fun n a b c d=>Asm K d n a b c) (fun n=>kN)
def Bv7:=ct (Bv6 K) (Ax1 K) (kC (Bi0 K K) kN)
def Ak4 (K:Nat)(a0:Int):Option (As):=some (As.mk 0 a0 0 0 0 0 0 0 [] 0 0 [] [])
def Bbp:=ct (fd Tryz.func191 ⟨[.v 3],[.n 50 false],true⟩ gN) (Ak4 K)
def Ar0 (K:Nat)(a0:D9):Nat->(List As)->Int->Option ((List As))
 |0,_,_=>none
 |n1+1,v1,v2=>(bif (decide (v2<a0.E5))then((Anf K a0).bind fun r3=>(bif r3 then((Ak4 K 1).bind fun r4=>(if(v1++[r4]).length*152≤140737488355328∧(v1++[r4]).length≤maxLen then(Ar0 K a0 n1 (v1++[r4]) (An3 .i64 v2 1))else none))else some v1))else some v1)
def Az5 (K:Nat)(a0:D9):Option ((List As)):=(Ar0 K a0 K ([]:List As) 0)
def Bv8:=fd Tryz.func97 ⟨[.v 25],[.n 29 true],false⟩ (gC (Bbo K) (gC (Bbp K) gN)) [9,10] [] [] [(18,[.put 3018])]
def h_3:Ei:=⟨[(1,.p 101),(3,.o 1003 50 true),(4,.v 2)],[(101,.st 25 true)]⟩
def Boc:=lp (Bv8 K) 58 h_3 [] (fun n a b c=>Ar0 K c n a b) (fun n=>kN)
def Bv9:=ct (Bv8 K) (Az5 K) (kC (Boc K K) kN)
def Awt (K:Nat)(a0:D9):Option (C4):=((Anf K a0).bind fun r1=>(bif (!r1)then some (C4.mk (D9.mk 0 0 0 0 0 0) (Dm.mk [] [] []) [] [] [])else((Ax1 K a0).bind fun r2=>((Az5 K a0).bind fun r3=>some (C4.mk a0 r2 r3 [] [])))))
def Bwa:=ct (fd Tryz.func25 ⟨[.v 25],[.n 32 true],false⟩ (gC (Bbo K) (gC (Bv7 K) (gC (Bv9 K) gN)))) (Awt K)
def Ad6 (K:Nat)(a0:List As)(a1:Int):Option (Bool):=(bif (decide (a1≥1))then some (decide (a1≤(a0.length:Int)))else some false)
def A6m:=ct (fd Tryz.func213 ⟨[.v 29,.v 3],[.v 4],true⟩ gN [6,7]) (Ad6 K)
def Awd (K:Nat)(a0:List As):Nat->Int->(List Int)->Option ((List Int))
 |0,_,_=>none
 |n1+1,v1,v2=>((Ad6 K a0 (An3 .i64 v1 1)).bind fun r3=>(bif r3 then(bif (decide ((v2.length:Int)<(a0.length:Int)))then(if(v2++([v1]:List Int)).length*8≤140737488355328∧(v2++([v1]:List Int)).length≤maxLen then(if(0:Int)≤v1∧v1<(a0.length:Int)then(Awd K a0 n1 (An4 .i64 ((gt a0 v1).fUp) 1) (v2++([v1]:List Int)))else none)else none)else some v2)else some v2))
def Axt (K:Nat)(a0:List As)(a1:Int):Option ((List Int)):=(Awd K a0 K a1 ([]:List Int))
def Bwb:=fd Tryz.func123 ⟨[.v 29,.v 3],[.n 26 true],true⟩ (gC (A6m K) gN) [10,11]
def h_4:Ei:=⟨[(0,.v 29),(1,.v 2),(5,.o 1005 3 true)],[]⟩
def Bod:=lp (Bwb K) 28 h_4 [] (fun n a=>Awd K a n) (fun n=>kN)
def Bi1:=ct (Bwb K) (Axt K) (kC (Bod K K) kN)
def Ar1 (K:Nat)(a0:List As)(a1:Int):Option (Bool):=(if(0:Int)≤a1∧a1<(a0.length:Int)then((Ad6 K a0 ((gt a0 a1).fUp)).bind fun r1=>(bif r1 then(if(0:Int)≤(An4 .i64 ((gt a0 a1).fUp) 1)∧(An4 .i64 ((gt a0 a1).fUp) 1)<(a0.length:Int)then(bif (((gt a0 (An4 .i64 ((gt a0 a1).fUp) 1)).Vg)==1)then(if(0:Int)≤(An4 .i64 ((gt a0 a1).fUp) 1)∧(An4 .i64 ((gt a0 a1).fUp) 1)<(a0.length:Int)then(if(0:Int)≤a1∧a1<(a0.length:Int)then some (((gt a0 (An4 .i64 ((gt a0 a1).fUp) 1)).Sj)==((gt a0 a1).Sk))else none)else none)else some false)else none)else some false))else none)
def Bi2:=ct (fd Tryz.func206 ⟨[.v 29,.v 3],[.v 4],true⟩ (gC (A6m K) gN) [13,14,21,22,23]) (Ar1 K)
def Ax2 (K:Nat)(v2:Int)(C1:Int->Option (Bool)):Option (Bool):=(C1 (An3 .i64 v2 1))
def Asn (K:Nat)(a0:List As)(r1:(List Int)):Nat->Int->Option (Bool)
 |0,_=>none
 |n1+1,v2=>(bif (decide (v2<(r1.length:Int)))then(if(0:Int)≤v2∧v2<(r1.length:Int)then(if(0:Int)≤(gt r1 v2)∧(gt r1 v2)<(a0.length:Int)then(bif (((gt a0 (gt r1 v2)).Vg) != 1)then some false else(bif (decide ((An3 .i64 v2 1)<(r1.length:Int)))then(if(0:Int)≤v2∧v2<(r1.length:Int)then((Ar1 K a0 (gt r1 v2)).bind fun r3=>(bif (!r3)then some false else(Ax2 K v2 (Asn K a0 r1 n1))))else none)else(Ax2 K v2 (Asn K a0 r1 n1))))else none)else none)else(bif (decide ((r1.length:Int)>0))then(if(0:Int)≤(An4 .i64 (r1.length:Int) 1)∧(An4 .i64 (r1.length:Int) 1)<(r1.length:Int)then(if(0:Int)≤(gt r1 (An4 .i64 (r1.length:Int) 1))∧(gt r1 (An4 .i64 (r1.length:Int) 1))<(a0.length:Int)then some (((gt a0 (gt r1 (An4 .i64 (r1.length:Int) 1))).fUp)==0)else none)else none)else some false))
def Avt (K:Nat)(a0:List As)(a1:Int):Option (Bool):=((Axt K a0 a1).bind fun r1=>(Asn K a0 r1 K 0))
def Br9:=fd Tryz.func113 ⟨[.v 29,.v 3],[.v 4],true⟩ (gC (Bi1 K) (gC (Bi2 K) gN)) [24,25,30,31,43,44] [233]
def h_5:Ei:=⟨[(0,.v 29),(5,.v 26),(6,.v 2)],[]⟩
def Bi3:=fun(C58:CT h_5 _)=>jn (Br9 K) 233 h_5 [(58,ar h_5 C58)] (fun a b c=>Ax2 K c (C58 a b)) kN
def Boe:=lp (Br9 K) 58 h_5 [] (fun n a b=>Asn K a b n) (fun n=>(kC (Bi3 K _) kN))
def Bi4:=ct (Br9 K) (Avt K) (kC (Boe K K) kN)
def Aso (K:Nat)(v2:Int)(v3:Int)(v4:Int)(v5:Int)(v6:Int)(v7:Int)(v8:Int)(v9:List Int)(v10:List Int)(v11:List Int)(v12:List As)(v13:List Az)(v14:List Int)(C1:(List Int)->Int->Int->Int->Int->Int->Int->Int->(List Int)->(List Int)->(List Int)->(List As)->(List Az)->(List Int)->Option ((List Int)))(v16:List Int):Option ((List Int)):=(C1 v16 (An3 .i64 v2 1) v3 v4 v5 v6 v7 v8 v9 v10 v11 v12 v13 v14)
def Aq3 (K:Nat):Nat->(List Int)->Int->Int->Int->Int->Int->Int->Int->(List Int)->(List Int)->(List Int)->(List As)->(List Az)->(List Int)->Option ((List Int))
 |0,_,_,_,_,_,_,_,_,_,_,_,_,_,_=>none
 |n1+1,v1,v2,v3,v4,v5,v6,v7,v8,v9,v10,v11,v12,v13,v14=>(bif (decide (v2<(v12.length:Int)))then((Avt K v12 v2).bind fun r15=>(bif r15 then(if(v1++([v2]:List Int)).length*8≤140737488355328∧(v1++([v2]:List Int)).length≤maxLen then(Aso K v2 v3 v4 v5 v6 v7 v8 v9 v10 v11 v12 v13 v14 (Aq3 K n1) (v1++([v2]:List Int)))else none)else(Aso K v2 v3 v4 v5 v6 v7 v8 v9 v10 v11 v12 v13 v14 (Aq3 K n1) v1)))else some v1)
def Au2 (K:Nat)(a0:C4):Option ((List Int)):=(Aq3 K K ([]:List Int) 0 a0.fC.Ay a0.fC.G6 a0.fC.E5 a0.fC.Gs a0.fC.E6 a0.fC.G7 a0.fP.N5 a0.fP.Vg a0.fP.N6 a0.fL a0.fQ a0.Acw)
def Bsa:=fd Tryz.func31 ⟨[.v 32],[.n 26 true],true⟩ (gC (Bi4 K) gN) [] [233]
def h_6:Ei:=⟨[(1,.p 101),(3,.o 1003 3 true),(4,.v 2)],[(101,.box [.v 2,.v 2,.v 2,.v 2,.v 2,.v 2,.v 22,.v 26,.v 26,.v 29,.v 30,.v 26])]⟩
def Bi5:=fun(C58:CT h_6 _)=>jn (Bsa K) 233 h_6 [(58,ar h_6 C58)] (fun a b c d e f g h i j k l m o=>Aso K b c d e f g h i j k l m o C58 a) kN
def Bof:=lp (Bsa K) 58 h_6 [] (Aq3 K) (fun n=>(kC (Bi5 K _) kN))
def Bi6:=ct (Bsa K) (Au2 K) (kC (Bof K K) kN)
def Agm (K:Nat)(a0:D0)(a1:Int):Option (Bool×D0):=((Ap K a0 a1).bind fun r1=>some ((r1.1==0),r1.2))
def A5b:=ct (fd Tryz.func150 ⟨[.b 148 false,.v 3],[.v 4],false⟩ (gC (A2g K) gN)) (Agm K)
def At2 (K:Nat)(a0:D0):Option (Am×D0):=((Ap K a0 5).bind fun r1=>((Ap K r1.2 3).bind fun r2=>some ((Am.mk r1.1 (An3 .i64 1 r2.1)),r2.2)))
def Bqn:=ct (fd Tryz.func231 ⟨[.b 148 false],[.v 36],false⟩ (gC (A2g K) gN)) (At2 K)
def Asp (K:Nat)(a1:Int):Nat->(List Int)->Int->(List Int)->Int->Int->Option ((List Int)×D0)
 |0,_,_,_,_,_=>none
 |n1+1,v1,v2,v3,v4,v5=>(bif (decide (v2<a1))then((Aqw K (D0.mk v3 v4 v5)).bind fun r6=>(if(v1++([(IntKind.u8.wrap r6.1)]:List Int)).length*1≤140737488355328∧(v1++([(IntKind.u8.wrap r6.1)]:List Int)).length≤maxLen then(Asp K a1 n1 (v1++([(IntKind.u8.wrap r6.1)]:List Int)) (An3 .i64 v2 1) r6.2.fb r6.2.fi r6.2.fh)else none))else some (v1,(D0.mk v3 v4 v5)))
def Au3 (K:Nat)(a0:D0)(a1:Int):Option ((List Int)×D0):=(Asp K a1 K ([]:List Int) 0 a0.fb a0.fi a0.fh)
def Bwc:=fd Tryz.func141 ⟨[.b 148 false,.v 3],[.n 22 true],false⟩ (gC (Bv4 K) gN)
def h_7:Ei:=⟨[(0,.p 1),(1,.v 2),(5,.o 1005 5 true),(6,.v 2)],[(1,.box [.v 22,.v 2,.v 2])]⟩
def Bog:=lp (Bwc K) 58 h_7 [] (fun n a=>Asp K a n) (fun n=>kN)
def Bi7:=ct (Bwc K) (Au3 K) (kC (Bog K K) kN)
def Aly (K:Nat)(v6:List Int)(v7:Int)(v8:Int)(v9:Cm)(v10:Cm):Option (Cm×D0):=some (v9,(D0.mk v6 v7 v8))
def Aq4 (K:Nat)(v11:Int)(v12:Bool)(v13:List Int)(v14:Int)(v15:Int)(v16:Bq)(v17:Am)(v18:Cm)(v19:Cm):Option (Cm×D0):=(bif v12 then(Aly K v13 v14 v15 (Cm.mk v18.Ww v17 v18.fR v18.fN v18.fM v18.fB) v19)else(bif (v11==2)then((P2 K (D0.mk v13 v14 v15) ([1,2,3,5,8,9,17,20,0,201]:List Int)).bind fun r20=>(if r20.2.2.length=([1,2,3,5,8,9,17,20,0,201]:List Int).length then((P2 K r20.2.1 ([1,1,2,4,3]:List Int)).bind fun r21=>(if r21.2.2.length=([1,1,2,4,3]:List Int).length then(Aly K r21.2.1.fb r21.2.1.fi r21.2.1.fh (Cm.mk v18.Ww v17 v18.fR r20.1 r21.1 v18.fB) v19)else none))else none))else(bif (v11==3)then((Ap K (D0.mk v13 v14 v15) 4).bind fun r22=>((Ap K r22.2 5).bind fun r23=>(Aly K r23.2.fb r23.2.fi r23.2.fh (Cm.mk v18.Ww v18.fH v16 r22.1 r23.1 v18.fB) v19)))else(bif (v11==4)then((Ap K (D0.mk v13 v14 v15) 4).bind fun r24=>((Ap K r24.2 4).bind fun r25=>((Au3 K r25.2 r25.1).bind fun r26=>(Aly K r26.2.fb r26.2.fi r26.2.fh (Cm.mk v18.Ww v18.fH v16 r24.1 v18.fM r26.1) v19))))else(bif (v11==5)then((P2 K (D0.mk v13 v14 v15) ([1,7,255,256]:List Int)).bind fun r27=>(if r27.2.2.length=([1,7,255,256]:List Int).length then(Aly K r27.2.1.fb r27.2.1.fi r27.2.1.fh (Cm.mk v18.Ww v17 v18.fR r27.1 v18.fM v18.fB) v19)else none))else(Aly K v13 v14 v15 v18 v19))))))
def Au4 (K:Nat)(a0:D0):Option (Cm×D0):=((Ap K a0 9).bind fun r1=>((At2 K r1.2).bind fun r2=>((Ap K r2.2 2).bind fun r3=>((Ap K r3.2 3).bind fun r4=>(bif ((An3 .i64 1 r1.1)==1)then((Agm K r4.2 2).bind fun r5=>(bif r5.1 then(Aly K r5.2.fb r5.2.fi r5.2.fh (Cm.mk (An3 .i64 1 r1.1) r2.1 (Bq.mk (Am.mk 0 0) 0 0) 0 0 []) (Cm.mk 0 (Am.mk 0 0) (Bq.mk (Am.mk 0 0) 0 0) 0 0 []))else(Aly K r5.2.fb r5.2.fi r5.2.fh (Cm.mk (An3 .i64 1 r1.1) (Am.mk 0 0) (Bq.mk (Am.mk 0 0) 0 0) 0 0 []) (Cm.mk 0 (Am.mk 0 0) (Bq.mk (Am.mk 0 0) 0 0) 0 0 []))))else(bif ((An3 .i64 1 r1.1)==6)then(Aq4 K (An3 .i64 1 r1.1) ((An3 .i64 1 r1.1)==6) r4.2.fb r4.2.fi r4.2.fh (Bq.mk r2.1 r3.1 r4.1) r2.1 (Cm.mk (An3 .i64 1 r1.1) (Am.mk 0 0) (Bq.mk (Am.mk 0 0) 0 0) 0 0 []) (Cm.mk 0 (Am.mk 0 0) (Bq.mk (Am.mk 0 0) 0 0) 0 0 []))else(bif ((An3 .i64 1 r1.1)==7)then(Aq4 K (An3 .i64 1 r1.1) ((An3 .i64 1 r1.1)==7) r4.2.fb r4.2.fi r4.2.fh (Bq.mk r2.1 r3.1 r4.1) r2.1 (Cm.mk (An3 .i64 1 r1.1) (Am.mk 0 0) (Bq.mk (Am.mk 0 0) 0 0) 0 0 []) (Cm.mk 0 (Am.mk 0 0) (Bq.mk (Am.mk 0 0) 0 0) 0 0 []))else(Aq4 K (An3 .i64 1 r1.1) ((An3 .i64 1 r1.1)==8) r4.2.fb r4.2.fi r4.2.fh (Bq.mk r2.1 r3.1 r4.1) r2.1 (Cm.mk (An3 .i64 1 r1.1) (Am.mk 0 0) (Bq.mk (Am.mk 0 0) 0 0) 0 0 []) (Cm.mk 0 (Am.mk 0 0) (Bq.mk (Am.mk 0 0) 0 0) 0 0 [])))))))))
def Bsb:=fd Tryz.func151 ⟨[.b 148 false],[.n 40 true],false⟩ (gC (A2g K) (gC (A7i K) (gC (Bi7 K) (gC (A5b K) (gC (Bqn K) gN))))) [] [31,1003] [(27,[.take 103 9 6657])]
def h_8:Ei:=⟨[(2,.p 102),(3,.p 103)],[(1,.box [.v 22,.v 2,.v 2]),(103,.st 40 true),(102,.st 40 true)]⟩
def h_9:Ei:=⟨[(0,.p 1),(2,.p 102),(3,.p 103),(4,.p 104),(5,.p 105),(19,.v 2),(26,.v 4)],[(1,.box [.v 22,.v 2,.v 2]),(105,.st 38 true),(104,.st 36 true),(103,.st 40 true),(102,.st 40 true)]⟩
def Bfk:=jn (Bsb K) 31 h_8 [] (Aly K) kN
def Bgw:=jn (Bsb K) 1003 h_9 [] (Aq4 K) (kC (Bfk K) kN)
def Bwd:=ct (Bsb K) (Au4 K) (kC (Bfk K) (kC (Bgw K) kN))
def Ank (K:Nat)(a0:List As)(a1:Int):Option (Am):=((Gy K a1 0 (An4 .i64 (a0.length:Int) 1)).bind fun r1=>(bif (!r1)then some (Am.mk 0 0)else(if(0:Int)≤a1∧a1<(a0.length:Int)then some (Am.mk a1 ((gt a0 a1).C8))else none)))
def Bi8:=ct (fd Tryz.func152 ⟨[.v 29,.v 3],[.v 36],true⟩ (gC (A13 K) gN)) (Ank K)
def Asq (K:Nat)(r8:Am)(v27:List Int)(v28:List Int)(v29:List Int)(v30:List As)(v31:List Az)(v32:List Int)(v34:Int)(v36:List Int)(v37:Int)(v38:Int)(v47:Bool):Option (Cm×D0×(List Int)×(List Int)×(List Int)×(List As)×(List Az)×(List Int)):=(bif v47 then((Ap K (D0.mk v36 v37 v38) 256).bind fun r48=>some ((Cm.mk 5 r8 (Bq.mk (Am.mk 0 0) 0 0) r48.1 0 []),r48.2,v27,v28,v29,v30,v31,v32))else(bif (v34==13)then some ((Cm.mk 6 r8 (Bq.mk (Am.mk 0 0) 0 0) 0 0 []),(D0.mk v36 v37 v38),v27,v28,v29,v30,v31,v32)else(bif (v34==14)then some ((Cm.mk 7 r8 (Bq.mk (Am.mk 0 0) 0 0) 0 0 []),(D0.mk v36 v37 v38),v27,v28,v29,v30,v31,v32)else((Agm K (D0.mk v36 v37 v38) 6).bind fun r49=>(bif r49.1 then some ((Cm.mk 9 (Am.mk 0 0) (Bq.mk (Am.mk 0 0) 0 0) 0 0 []),r49.2,v27,v28,v29,v30,v31,v32)else some ((Cm.mk 8 r8 (Bq.mk (Am.mk 0 0) 0 0) 0 0 []),r49.2,v27,v28,v29,v30,v31,v32))))))
def Asr (K:Nat)(r8:Am)(v13:Bq)(v27:List Int)(v28:List Int)(v29:List Int)(v30:List As)(v31:List Az)(v32:List Int)(v34:Int)(v36:List Int)(v37:Int)(v38:Int)(v43:Bool):Option (Cm×D0×(List Int)×(List Int)×(List Int)×(List As)×(List Az)×(List Int)):=(bif v43 then((Ap K (D0.mk v36 v37 v38) 2).bind fun r44=>((Au3 K r44.2 (An3 .i64 1 r44.1)).bind fun r45=>some ((Cm.mk 4 (Am.mk 0 0) v13 0 0 r45.1),r45.2,v27,v28,v29,v30,v31,v32)))else(bif (v34==10)then((Ap K (D0.mk v36 v37 v38) 3).bind fun r46=>some ((Cm.mk 3 (Am.mk 0 0) v13 0 r46.1 []),r46.2,v27,v28,v29,v30,v31,v32))else(bif (v34==11)then(Asq K r8 v27 v28 v29 v30 v31 v32 v34 v36 v37 v38 (v34==11))else(Asq K r8 v27 v28 v29 v30 v31 v32 v34 v36 v37 v38 (v34==12)))))
def Aq5 (K:Nat)(r8:Am)(v13:Bq)(v16:Int)(v27:List Int)(v28:List Int)(v29:List Int)(v30:List As)(v31:List Az)(v32:List Int)(v34:Int)(v36:List Int)(v37:Int)(v38:Int)(v39:Bool):Option (Cm×D0×(List Int)×(List Int)×(List Int)×(List As)×(List Az)×(List Int)):=(bif v39 then((P2 K (D0.mk v36 v37 v38) ([1,2,3,4,5,8]:List Int)).bind fun r40=>(if r40.2.2.length=([1,2,3,4,5,8]:List Int).length then((P2 K r40.2.1 ([1,1,2,4]:List Int)).bind fun r41=>(if r41.2.2.length=([1,1,2,4]:List Int).length then some ((Cm.mk 2 r8 (Bq.mk (Am.mk 0 0) 0 0) r40.1 r41.1 []),r41.2.1,v27,v28,v29,v30,v31,v32)else none))else none))else(bif (v34==7)then((Ap K (D0.mk v36 v37 v38) v16).bind fun r42=>some ((Cm.mk 2 r8 (Bq.mk (Am.mk 0 0) 0 0) (An3 .i64 (An3 .i64 v16 1) r42.1) 1 []),r42.2,v27,v28,v29,v30,v31,v32))else(bif (v34==8)then(Asr K r8 v13 v27 v28 v29 v30 v31 v32 v34 v36 v37 v38 (v34==8))else(Asr K r8 v13 v27 v28 v29 v30 v31 v32 v34 v36 v37 v38 (v34==9)))))
def Aq6 (K:Nat)(r8:Am)(v13:Bq)(v16:Int)(v27:List Int)(v28:List Int)(v29:List Int)(v30:List As)(v31:List Az)(v32:List Int)(v34:Int)(v35:Bool)(v36:List Int)(v37:Int)(v38:Int):Option (Cm×D0×(List Int)×(List Int)×(List Int)×(List As)×(List Az)×(List Int)):=(bif v35 then some ((Cm.mk 1 r8 (Bq.mk (Am.mk 0 0) 0 0) 0 0 []),(D0.mk v36 v37 v38),v27,v28,v29,v30,v31,v32)else(bif (v34==3)then some ((Cm.mk 1 (Am.mk 0 0) (Bq.mk (Am.mk 0 0) 0 0) 0 0 []),(D0.mk v36 v37 v38),v27,v28,v29,v30,v31,v32)else(bif (v34==4)then(Aq5 K r8 v13 v16 v27 v28 v29 v30 v31 v32 v34 v36 v37 v38 (v34==4))else(bif (v34==5)then(Aq5 K r8 v13 v16 v27 v28 v29 v30 v31 v32 v34 v36 v37 v38 (v34==5))else(Aq5 K r8 v13 v16 v27 v28 v29 v30 v31 v32 v34 v36 v37 v38 (v34==6))))))
def Ass (K:Nat)(r8:Am)(v10:List Int)(v11:Int)(v12:Int)(v13:Bq)(v14:Cm)(v15:Int)(v16:Int)(v17:Int)(v18:Int)(v19:Int)(v20:Int)(v21:Nat)(v22:Nat)(v23:Nat)(v24:Nat)(v25:Nat)(v26:Nat)(v27:List Int)(v28:List Int)(v29:List Int)(v30:List As)(v31:List Az)(v32:List Int):Option (Cm×D0×(List Int)×(List Int)×(List Int)×(List As)×(List Az)×(List Int)):=((Ap K (D0.mk v10 v11 v12) 16).bind fun r33=>(bif (r33.1==0)then(Aq6 K r8 v13 v16 v27 v28 v29 v30 v31 v32 r33.1 (r33.1==0) r33.2.fb r33.2.fi r33.2.fh)else(bif (r33.1==1)then(Aq6 K r8 v13 v16 v27 v28 v29 v30 v31 v32 r33.1 (r33.1==1) r33.2.fb r33.2.fi r33.2.fh)else(Aq6 K r8 v13 v16 v27 v28 v29 v30 v31 v32 r33.1 (r33.1==2) r33.2.fb r33.2.fi r33.2.fh))))
def Ax3 (K:Nat)(a0:D0)(a1:C4):Option (Cm×D0×(List Int)×(List Int)×(List Int)×(List As)×(List Az)×(List Int)):=((Au2 K a1).bind fun r1=>(bif ((r1.length:Int)==0)then((Agm K a0 2).bind fun r2=>(bif r2.1 then some ((Cm.mk 1 (Am.mk 0 0) (Bq.mk (Am.mk 0 0) 0 0) 0 0 []),r2.2,a1.fP.N5,a1.fP.Vg,a1.fP.N6,a1.fL,a1.fQ,a1.Acw)else((Au4 K r2.2).bind fun r3=>some (r3.1,r3.2,a1.fP.N5,a1.fP.Vg,a1.fP.N6,a1.fL,a1.fQ,a1.Acw))))else((Agm K a0 10).bind fun r4=>(bif r4.1 then((Agm K r4.2 2).bind fun r5=>(bif r5.1 then some ((Cm.mk 1 (Am.mk 0 0) (Bq.mk (Am.mk 0 0) 0 0) 0 0 []),r5.2,a1.fP.N5,a1.fP.Vg,a1.fP.N6,a1.fL,a1.fQ,a1.Acw)else((Au4 K r5.2).bind fun r6=>some (r6.1,r6.2,a1.fP.N5,a1.fP.Vg,a1.fP.N6,a1.fL,a1.fQ,a1.Acw))))else((Ap K r4.2 (r1.length:Int)).bind fun r7=>(if(0:Int)≤r7.1∧r7.1<(r1.length:Int)then((Ank K a1.fL (gt r1 r7.1)).bind fun r8=>(if(0:Int)≤(gt r1 r7.1)∧(gt r1 r7.1)<(a1.fL.length:Int)then(if(0:Int)≤(gt r1 r7.1)∧(gt r1 r7.1)<(a1.fL.length:Int)then(if(0:Int)≤(gt r1 r7.1)∧(gt r1 r7.1)<(a1.fL.length:Int)then(bif (decide ((((gt a1.fL (gt r1 r7.1)).F4).length:Int)>0))then(if(0:Int)≤(gt r1 r7.1)∧(gt r1 r7.1)<(a1.fL.length:Int)then((Ap K r7.2 (((gt a1.fL (gt r1 r7.1)).F4).length:Int)).bind fun r9=>(Ass K r8 r9.2.fb r9.2.fi r9.2.fh (Bq.mk r8 ((gt a1.fL (gt r1 r7.1)).Sj) r9.1) (Cm.mk 0 (Am.mk 0 0) (Bq.mk (Am.mk 0 0) 0 0) 0 0 []) a1.fC.Ay a1.fC.G6 a1.fC.E5 a1.fC.Gs a1.fC.E6 a1.fC.G7 a1.fP.N5.length a1.fP.Vg.length a1.fP.N6.length a1.fL.length a1.fQ.length a1.Acw.length a1.fP.N5 a1.fP.Vg a1.fP.N6 a1.fL a1.fQ a1.Acw))else none)else(Ass K r8 r7.2.fb r7.2.fi r7.2.fh (Bq.mk r8 ((gt a1.fL (gt r1 r7.1)).Sj) 0) (Cm.mk 0 (Am.mk 0 0) (Bq.mk (Am.mk 0 0) 0 0) 0 0 []) a1.fC.Ay a1.fC.G6 a1.fC.E5 a1.fC.Gs a1.fC.E6 a1.fC.G7 a1.fP.N5.length a1.fP.Vg.length a1.fP.N6.length a1.fL.length a1.fQ.length a1.Acw.length a1.fP.N5 a1.fP.Vg a1.fP.N6 a1.fL a1.fQ a1.Acw))else none)else none)else none))else none))))))
def Bgx:=fd Tryz.func70 ⟨[.b 148 false,.w 32 false [(5,true),(3,true),(3,true),(50,true),(52,false),(3,true)]],[.n 40 true],false⟩ (gC (Bi6 K) (gC (A2g K) (gC (A7i K) (gC (Bi7 K) (gC (A5b K) (gC (Bwd K) (gC (Bi8 K) gN))))))) [13,14] [127,2042,32687,523007,8368127] [(9,[.opn 5 (.tmp 6),.takeE 5 11 40331])]
def Bzj:Ei:=⟨[(0,.p 1),(4,.p 104),(7,.p 107),(61,.v 2),(113,.v 4)],[(1,.box [.v 22,.v 2,.v 2]),(2,.rws 5 true),(3,.rws 3 true),(4,.rws 3 true),(5,.rws 50 true),(6,.rws 52 false),(7,.rws 3 true),(107,.st 36 true),(104,.st 40 true)]⟩
def Bzk:Ei:=⟨[(0,.p 1),(4,.p 104),(7,.p 107),(8,.p 108),(61,.v 2),(97,.v 4)],[(1,.box [.v 22,.v 2,.v 2]),(2,.rws 5 true),(3,.rws 3 true),(4,.rws 3 true),(5,.rws 50 true),(6,.rws 52 false),(7,.rws 3 true),(108,.st 38 true),(107,.st 36 true),(104,.st 40 true)]⟩
def Bzl:Ei:=⟨[(0,.p 1),(3,.p 103),(4,.p 104),(7,.p 107),(8,.p 108),(61,.v 2),(71,.v 4)],[(1,.box [.v 22,.v 2,.v 2]),(108,.st 38 true),(107,.st 36 true),(104,.st 40 true),(103,.ob [.v 2,.v 2,.v 2,.v 2,.v 2,.v 2,.O 2,.O 3,.O 4,.O 5,.O 6,.O 7]),(2,.rws 5 true),(3,.rws 3 true),(4,.rws 3 true),(5,.rws 50 true),(6,.rws 52 false),(7,.rws 3 true)]⟩
def Bzm:Ei:=⟨[(0,.p 1),(3,.p 103),(4,.p 104),(7,.p 107),(8,.p 108),(61,.v 2),(62,.v 4)],[(1,.box [.v 22,.v 2,.v 2]),(108,.st 38 true),(107,.st 36 true),(104,.st 40 true),(103,.ob [.v 2,.v 2,.v 2,.v 2,.v 2,.v 2,.O 2,.O 3,.O 4,.O 5,.O 6,.O 7]),(2,.rws 5 true),(3,.rws 3 true),(4,.rws 3 true),(5,.rws 50 true),(6,.rws 52 false),(7,.rws 3 true)]⟩
def Bzn:Ei:=⟨[(0,.p 1),(3,.p 103),(4,.p 104),(7,.p 107),(8,.p 108)],[(1,.box [.v 22,.v 2,.v 2]),(108,.st 38 true),(107,.st 36 true),(104,.st 40 true),(103,.ob [.v 2,.v 2,.v 2,.v 2,.v 2,.v 2,.O 2,.O 3,.O 4,.O 5,.O 6,.O 7]),(2,.rws 5 true),(3,.rws 3 true),(4,.rws 3 true),(5,.rws 50 true),(6,.rws 52 false),(7,.rws 3 true)]⟩
def A90:=jn (Bgx K) 8368127 Bzj [] (fun a b c d e f g h i j k l _=>Asq K l f g h i j k a c d e b) kN
def Bbq:=jn (Bgx K) 523007 Bzk [] (fun a b c d e f g h i j k l m _=>Asr K m l f g h i j k a c d e b) (kC (A90 K) kN)
def Bdh:=jn (Bgx K) 32687 Bzl [] (fun a b c d e f g _ _ j _ _ _ _ _ _ _ _ _ _ v w x y z a1=>Aq5 K g f j v w x y z a1 a c d e b) (kC (Bbq K) kN)
def Bgy:=jn (Bgx K) 2042 Bzm [] (fun a b c d e f g _ _ j _ _ _ _ _ _ _ _ _ _ v w x y z a1=>Aq6 K g f j v w x y z a1 a b c d e) (kC (Bdh K) kN)
def Bi9:=jn (Bgx K) 127 Bzn [] (fun a b c d e=>Ass K e a b c d) (kC (Bgy K) kN)
def Bwe:=ct (Bgx K) (Ax3 K) (kC (Bi9 K) kN)
def At3 (K:Nat)(a0:Am):Option (Bool):=(bif (decide (a0.Bk≥0))then some (decide (a0.C8≥1))else some false)
def Bqo:=ct (fd Tryz.func211 ⟨[.v 36],[.v 4],true⟩ gN [5,6]) (At3 K)
def Arc (K:Nat)(a0:List As)(a1:Am):Option (Int):=((Gy K a1.Bk 0 (An4 .i64 (a0.length:Int) 1)).bind fun r1=>(bif r1 then(if(0:Int)≤a1.Bk∧a1.Bk<(a0.length:Int)then(bif (((gt a0 a1.Bk).Vg) != 1)then some (-1)else(if(0:Int)≤a1.Bk∧a1.Bk<(a0.length:Int)then(bif (((gt a0 a1.Bk).C8) != a1.C8)then some (-1)else some a1.Bk)else none))else none)else some (-1)))
def Bja:=ct (fd Tryz.func212 ⟨[.v 29,.v 36],[.v 3],true⟩ (gC (A13 K) gN) [10,11,12,19,20,21]) (Arc K)
def Anl (K:Nat)(a0:C4)(a1:Am):Option (Int×Int):=((At3 K a1).bind fun r1=>(bif (!r1)then some ((-1),1)else((Arc K a0.fL a1).bind fun r2=>(bif (decide (r2<0))then some ((-1),2)else((Avt K a0.fL r2).bind fun r3=>(bif (!r3)then some ((-1),2)else some (r2,0)))))))
def A9c:=ct (fd Tryz.func121 ⟨[.v 32,.v 36],[.v 3,.v 3],true⟩ (gC (Bi4 K) (gC (Bqo K) (gC (Bja K) gN))) [15,16]) (Anl K)
def A0h (K:Nat)(a0:C4)(a1:Am):Option (Int×Int):=(bif ((a1.Bk==0)&&((a1.C8==0)&&true))then some ((-1),0)else((Anl K a0 a1).bind fun r1=>some (r1.1,r1.2)))
def Bwf:=ct (fd Tryz.func288 ⟨[.v 32,.v 36],[.v 3,.v 3],true⟩ (gC (A9c K) gN)) (A0h K)
def Awe (K:Nat)(a0:List As)(a1:Int):Option (Int):=((Axt K a0 a1).bind fun r1=>some (r1.length:Int))
def Bqp:=ct (fd Tryz.func221 ⟨[.v 29,.v 3],[.v 3],true⟩ (gC (Bi1 K) gN)) (Awe K)
def Ao7 (K:Nat)(a0:C4)(a1:Am):Option (Int):=((Arc K a0.fL a1).bind fun r1=>((Awe K a0.fL r1).bind fun r2=>some r2))
def A7j:=ct (fd Tryz.func133 ⟨[.v 32,.v 36],[.v 3],true⟩ (gC (Bja K) (gC (Bqp K) gN))) (Ao7 K)
def Am9 (K:Nat)(v2:Int)(v3:Int)(v4:Int)(v5:Int)(v6:Int)(v7:Int)(v8:Int)(v9:List Int)(v10:List Int)(v11:List Int)(v12:List As)(v13:List Az)(v14:List Int)(C1:Int->Int->Int->Int->Int->Int->Int->Int->(List Int)->(List Int)->(List Int)->(List As)->(List Az)->(List Int)->Option (Int))(v15:Int):Option (Int):=(C1 v15 (An3 .i64 v2 1) v3 v4 v5 v6 v7 v8 v9 v10 v11 v12 v13 v14)
def Aio (K:Nat):Nat->Int->Int->Int->Int->Int->Int->Int->Int->(List Int)->(List Int)->(List Int)->(List As)->(List Az)->(List Int)->Option (Int)
 |0,_,_,_,_,_,_,_,_,_,_,_,_,_,_=>none
 |n1+1,v1,v2,v3,v4,v5,v6,v7,v8,v9,v10,v11,v12,v13,v14=>(bif (decide (v2<(v12.length:Int)))then(if(0:Int)≤v2∧v2<(v12.length:Int)then(bif (((gt v12 v2).Vg)==0)then(Am9 K v2 v3 v4 v5 v6 v7 v8 v9 v10 v11 v12 v13 v14 (Aio K n1) (An3 .i64 v1 1))else((Avt K v12 v2).bind fun r16=>(bif r16 then(Am9 K v2 v3 v4 v5 v6 v7 v8 v9 v10 v11 v12 v13 v14 (Aio K n1) v1)else(if(0:Int)≤v2∧v2<(v12.length:Int)then(bif (((gt v12 v2).Vg) != 3)then(if(0:Int)≤v2∧v2<(v12.length:Int)then(bif (decide (((gt v12 v2).C8)<v8))then(Am9 K v2 v3 v4 v5 v6 v7 v8 v9 v10 v11 v12 v13 v14 (Aio K n1) (An3 .i64 v1 1))else(Am9 K v2 v3 v4 v5 v6 v7 v8 v9 v10 v11 v12 v13 v14 (Aio K n1) v1))else none)else(Am9 K v2 v3 v4 v5 v6 v7 v8 v9 v10 v11 v12 v13 v14 (Aio K n1) v1))else none))))else none)else some v1)
def Az6 (K:Nat)(a0:C4):Option (Int):=(Aio K K 0 0 a0.fC.Ay a0.fC.G6 a0.fC.E5 a0.fC.Gs a0.fC.E6 a0.fC.G7 a0.fP.N5 a0.fP.Vg a0.fP.N6 a0.fL a0.fQ a0.Acw)
def Bsc:=fd Tryz.func289 ⟨[.v 32],[.v 3],true⟩ (gC (Bi4 K) gN) [18,19,23,24,25,32,33,34] [233]
def Boh:Ei:=⟨[(1,.p 101),(3,.v 2),(4,.v 2)],[(101,.box [.v 2,.v 2,.v 2,.v 2,.v 2,.v 2,.v 22,.v 26,.v 26,.v 29,.v 30,.v 26])]⟩
def Bjb:=fun(C58:CT Boh _)=>jn (Bsc K) 233 Boh [(58,ar Boh C58)] (fun a b c d e f g h i j k l m o=>Am9 K b c d e f g h i j k l m o C58 a) kN
def Boi:=lp (Bsc K) 58 Boh [] (Aio K) (fun n=>(kC (Bjb K _) kN))
def Bwg:=ct (Bsc K) (Az6 K) (kC (Boi K K) kN)
def Ast (K:Nat)(v2:Int)(v3:List Int)(v4:List Int)(v5:List Int)(C1:(List Int)->Int->(List Int)->(List Int)->(List Int)->Option ((List Int)))(v6:List Int):Option ((List Int)):=(C1 v6 (An3 .i64 v2 1) v3 v4 v5)
def Al2 (K:Nat)(a1:Int):Nat->(List Int)->Int->(List Int)->(List Int)->(List Int)->Option ((List Int))
 |0,_,_,_,_,_=>none
 |n1+1,v1,v2,v3,v4,v5=>(bif (decide (v2<(v4.length:Int)))then(bif (decide (v2<(v5.length:Int)))then(if(0:Int)≤v2∧v2<(v4.length:Int)then(bif ((gt v4 v2)==1)then(if(0:Int)≤v2∧v2<(v5.length:Int)then(bif ((gt v5 v2)==a1)then(if(v1++([v2]:List Int)).length*8≤140737488355328∧(v1++([v2]:List Int)).length≤maxLen then(Ast K v2 v3 v4 v5 (Al2 K a1 n1) (v1++([v2]:List Int)))else none)else(Ast K v2 v3 v4 v5 (Al2 K a1 n1) v1))else none)else(Ast K v2 v3 v4 v5 (Al2 K a1 n1) v1))else none)else some v1)else some v1)
def Au5 (K:Nat)(a0:Dm)(a1:Int):Option ((List Int)):=(Al2 K a1 K ([]:List Int) 0 a0.N5 a0.Vg a0.N6)
def Bsd:=fd Tryz.func115 ⟨[.v 28,.v 3],[.n 26 true],true⟩ gN [12,13,27,28] [233]
def Boj:Ei:=⟨[(1,.v 2),(2,.p 102),(5,.o 1005 3 true),(6,.v 2)],[(102,.box [.v 22,.v 26,.v 26])]⟩
def Bjc:=fun(C58:CT Boj _)=>jn Bsd 233 Boj [(58,ar Boj C58)] (fun a b c d e f=>Ast K c d e f (C58 a) b) kN
def Bok:=lp Bsd 58 Boj [] (fun n a=>Al2 K a n) (fun n=>(kC (Bjc K _) kN))
def Bqq:=ct Bsd (Au5 K) (kC (Bok K K) kN)
def Aqb (K:Nat)(r1:(List Int)):Nat->Int->Int->Int->Int->Int->Int->Int->Int->(List Int)->(List Int)->(List Int)->(List As)->(List Az)->(List Int)->Option (Int)
 |0,_,_,_,_,_,_,_,_,_,_,_,_,_,_=>none
 |n1+1,v2,v3,v4,v5,v6,v7,v8,v9,v10,v11,v12,v13,v14,v15=>(bif (decide (v3<(r1.length:Int)))then(if(0:Int)≤v3∧v3<(r1.length:Int)then((Au5 K (Dm.mk v10 v11 v12) (gt r1 v3)).bind fun r16=>(Aqb K r1 n1 (An3 .i64 v2 (r16.length:Int)) (An3 .i64 v3 1) v4 v5 v6 v7 v8 v9 v10 v11 v12 v13 v14 v15))else none)else some v2)
def Az7 (K:Nat)(a0:C4):Option (Int):=((Au2 K a0).bind fun r1=>(Aqb K r1 K 0 0 a0.fC.Ay a0.fC.G6 a0.fC.E5 a0.fC.Gs a0.fC.E6 a0.fC.G7 a0.fP.N5 a0.fP.Vg a0.fP.N6 a0.fL a0.fQ a0.Acw))
def Bwh:=fd Tryz.func33 ⟨[.v 32],[.v 3],true⟩ (gC (Bi6 K) (gC (Bqq K) gN))
def Bzo:Ei:=⟨[(1,.p 101),(3,.v 2),(4,.v 26),(5,.v 2)],[(101,.box [.v 2,.v 2,.v 2,.v 2,.v 2,.v 2,.v 22,.v 26,.v 26,.v 29,.v 30,.v 26])]⟩
def Bjd:=lp (Bwh K) 122 Bzo [] (fun n a b=>Aqb K b n a) (fun n=>kN)
def Bwi:=ct (Bwh K) (Az7 K) (kC (Bjd K K) kN)
def Arq (K:Nat)(a0:C4)(a1:Int):Option (Bool):=(bif (decide (a1≥0))then(bif (decide (a1≤a0.fC.Ay))then((Az7 K a0).bind fun r1=>some (decide (r1≤(An4 .i64 a0.fC.Ay a1))))else some false)else some false)
def Bje:=ct (fd Tryz.func29 ⟨[.v 32,.v 3],[.v 4],true⟩ (gC (Bwi K) gN) [6,7,12,13,14]) (Arq K)
def Asi (K:Nat)(v2:Int)(C1:Int->Int->Option (Int))(v3:Int):Option (Int):=(C1 v3 (An3 .i64 v2 1))
def Aku (K:Nat)(a0:List As)(a1:Int):Nat->Int->Int->Option (Int)
 |0,_,_=>none
 |n1+1,v1,v2=>(bif (decide (v2<(a0.length:Int)))then(if(0:Int)≤v2∧v2<(a0.length:Int)then(bif (((gt a0 v2).Vg)==a1)then(Asi K v2 (Aku K a0 a1 n1) (An3 .i64 v1 1))else(Asi K v2 (Aku K a0 a1 n1) v1))else none)else some v1)
def Aqc (K:Nat)(a0:List As)(a1:Int):Option (Int):=(Aku K a0 a1 K 0 0)
def Bse:=fd Tryz.func202 ⟨[.v 29,.v 3],[.v 3],true⟩ gN [] [233]
def Bol:Ei:=⟨[(0,.v 29),(1,.v 2),(5,.v 2),(6,.v 2)],[]⟩
def Bjf:=fun(C58:CT Bol _)=>jn Bse 233 Bol [(58,ar Bol C58)] (fun a b c d=>Asi K d (C58 a b) c) kN
def Bom:=lp Bse 58 Bol [] (fun n a b=>Aku K a b n) (fun n=>(kC (Bjf K _) kN))
def Bqr:=ct Bse (Aqc K) (kC (Bom K K) kN)
def Arr (K:Nat)(a1:Int)(a2:Int):Nat->Int->(List Int)->(List Int)->(List Int)->Option (Bool)
 |0,_,_,_,_=>none
 |n1+1,v1,v2,v3,v4=>(bif (decide (v1<(An3 .i64 a1 a2)))then(if(0:Int)≤v1∧v1<(v3.length:Int)then(bif ((gt v3 v1) != 0)then some false else(Arr K a1 a2 n1 (An3 .i64 v1 1) v2 v3 v4))else none)else some true)
def Awf (K:Nat)(a0:Dm)(a1:Int)(a2:Int):Option (Bool):=(bif (decide (a1<0))then some false else(bif (decide (a2<1))then some false else(bif (decide (a1>(a0.Vg.length:Int)))then some false else(bif (decide (a2>(An4 .i64 (a0.Vg.length:Int) a1)))then some false else(Arr K a1 a2 K a1 a0.N5 a0.Vg a0.N6)))))
def Bwj:=fd Tryz.func311 ⟨[.v 28,.v 3,.v 3],[.v 4],true⟩ gN [9,10,12,13,14,19,20,21]
def Bzp:Ei:=⟨[(1,.v 2),(2,.v 2),(3,.p 103),(7,.v 2)],[(103,.box [.v 22,.v 26,.v 26])]⟩
def Bon:=lp Bwj 58 Bzp [] (fun n a b=>Arr K a b n) (fun n=>kN)
def Bqs:=ct Bwj (Awf K) (kC (Bon K K) kN)
def Ar2 (K:Nat)(a1:Int):Nat->Int->(List Int)->(List Int)->(List Int)->Option (Int)
 |0,_,_,_,_=>none
 |n1+1,v1,v2,v3,v4=>(bif (decide (v1<(v3.length:Int)))then((Awf K (Dm.mk v2 v3 v4) v1 a1).bind fun r5=>(bif r5 then some v1 else(Ar2 K a1 n1 (An3 .i64 v1 1) v2 v3 v4)))else some (-1))
def Awu (K:Nat)(a0:Dm)(a1:Int):Option (Int):=(Ar2 K a1 K 0 a0.N5 a0.Vg a0.N6)
def Bwk:=fd Tryz.func310 ⟨[.v 28,.v 3],[.v 3],true⟩ (gC (Bqs K) gN)
def Bzq:Ei:=⟨[(1,.v 2),(2,.p 102),(5,.v 2)],[(102,.box [.v 22,.v 26,.v 26])]⟩
def Boo:=lp (Bwk K) 26 Bzq [] (fun n a=>Ar2 K a n) (fun n=>kN)
def Bqt:=ct (Bwk K) (Awu K) (kC (Boo K K) kN)
def A14 (K:Nat)(a0:Az):Option (Int):=(bif (decide ((a0.Fh.length:Int)>0))then some 1 else(bif (decide ((a0.Ay.length:Int)>0))then some 2 else(bif (a0.Ee != 0)then some 3 else some 4)))
def Bwl:=ct (fd Tryz.func249 ⟨[.v 52],[.v 3],true⟩ gN) (A14 K)
def Azh (K:Nat)(a0:C4):Option (C4):=(if(0:Int)≤0∧0<(a0.fQ.length:Int)then(if(0:Int)≤(An4 .i64 (((gt a0.fQ 0).Fh).length:Int) 1)∧(An4 .i64 (((gt a0.fQ 0).Fh).length:Int) 1)<(((gt a0.fQ 0).Fh).length:Int)then(if(a0.Acw++([(gt ((gt a0.fQ 0).Fh) (An4 .i64 (((gt a0.fQ 0).Fh).length:Int) 1))]:List Int)).length*8≤140737488355328∧(a0.Acw++([(gt ((gt a0.fQ 0).Fh) (An4 .i64 (((gt a0.fQ 0).Fh).length:Int) 1))]:List Int)).length≤maxLen then(if(0:Int)≤0∧0≤(An4 .i64 (((gt a0.fQ 0).Fh).length:Int) 1)∧(An4 .i64 (((gt a0.fQ 0).Fh).length:Int) 1)≤(((gt a0.fQ 0).Fh).length:Int)then(if(([]:List Int)++((((gt a0.fQ 0).Fh).drop (0:Int).toNat).take ((An4 .i64 (((gt a0.fQ 0).Fh).length:Int) 1) - 0).toNat)).length*8≤140737488355328∧(([]:List Int)++((((gt a0.fQ 0).Fh).drop (0:Int).toNat).take ((An4 .i64 (((gt a0.fQ 0).Fh).length:Int) 1) - 0).toNat)).length≤maxLen then some (C4.mk a0.fC a0.fP a0.fL (a0.fQ.set (0:Int).toNat (Az.mk ((gt a0.fQ 0).Bk) ((gt a0.fQ 0).Ee) (([]:List Int)++((((gt a0.fQ 0).Fh).drop (0:Int).toNat).take ((An4 .i64 (((gt a0.fQ 0).Fh).length:Int) 1) - 0).toNat)) ((gt a0.fQ 0).Ay) ((gt a0.fQ 0).Wv))) (a0.Acw++([(gt ((gt a0.fQ 0).Fh) (An4 .i64 (((gt a0.fQ 0).Fh).length:Int) 1))]:List Int)))else none)else none)else none)else none)else none)
def Bwm:=ct (fd Tryz.func250 ⟨[.b 32 false],[],false⟩ gN [] [] [(0,[.take 1 10 5026]),(2,[.take 1 11 5027])]) (Azh K)
def Aqx (K:Nat)(a0:Dm):Option (Dm):=(if(([]:List Int)++a0.N5).length*1≤140737488355328∧(([]:List Int)++a0.N5).length≤maxLen then(if(([]:List Int)++a0.Vg).length*8≤140737488355328∧(([]:List Int)++a0.Vg).length≤maxLen then(if(([]:List Int)++a0.N6).length*8≤140737488355328∧(([]:List Int)++a0.N6).length≤maxLen then some (Dm.mk (([]:List Int)++a0.N5) (([]:List Int)++a0.Vg) (([]:List Int)++a0.N6))else none)else none)else none)
def Bfl:=ct (fd Tryz.func157 ⟨[.v 28],[.n 28 true],true⟩ gN) (Aqx K)
def Ars (K:Nat)(a0:List Int):Nat->Int->Option (Bool)
 |0,_=>none
 |n1+1,v1=>(bif (decide (v1<(a0.length:Int)))then(if(0:Int)≤v1∧v1<(a0.length:Int)then(bif ((gt a0 v1) != 0)then some false else(Ars K a0 n1 (An3 .i64 v1 1)))else none)else some true)
def Asd (K:Nat)(a0:List Int):Option (Bool):=(Ars K a0 K 0)
def Bwn:=fd Tryz.func192 ⟨[.v 22],[.v 4],true⟩ gN
def Bzr:Ei:=⟨[(0,.v 22),(3,.v 2)],[]⟩
def Bop:=lp Bwn 26 Bzr [] (fun n a=>Ars K a n) (fun n=>kN)
def Bfm:=ct Bwn (Asd K) (kC (Bop K K) kN)
def Awv (K:Nat)(v3:Int)(v4:List Int)(v5:List Int)(v6:List Int)(C1:Int->(List Int)->(List Int)->(List Int)->Option (Bool)):Option (Bool):=(C1 (An3 .i64 v3 1) v4 v5 v6)
def Art (K:Nat)(a0:D9)(v3:Int)(v4:List Int)(v5:List Int)(v6:List Int)(C1:Int->(List Int)->(List Int)->(List Int)->Option (Bool)):Option (Bool):=(if(0:Int)≤v3∧v3<(v5.length:Int)then(bif ((gt v5 v3)==0)then(if(0:Int)≤(An5 .i64 v3 a0.G6)∧(An5 .i64 v3 a0.G6)≤(An5 .i64 (An3 .i64 v3 1) a0.G6)∧(An5 .i64 (An3 .i64 v3 1) a0.G6)≤(v4.length:Int)then((Asd K ((v4.drop (An5 .i64 v3 a0.G6).toNat).take ((An5 .i64 (An3 .i64 v3 1) a0.G6) - (An5 .i64 v3 a0.G6)).toNat)).bind fun r9=>(bif (!r9)then some false else(Awv K v3 v4 v5 v6 (C1))))else none)else(Awv K v3 v4 v5 v6 (C1)))else none)
def Alw (K:Nat)(a0:D9):Nat->Int->(List Int)->(List Int)->(List Int)->Option (Bool)
 |0,_,_,_,_=>none
 |n1+1,v3,v4,v5,v6=>(bif (decide (v3<a0.Ay))then(if(0:Int)≤v3∧v3<(v5.length:Int)then((Gy K (gt v5 v3) 0 2).bind fun r7=>(bif (!r7)then some false else(if(0:Int)≤v3∧v3<(v5.length:Int)then(bif ((gt v5 v3)==1)then(if(0:Int)≤v3∧v3<(v6.length:Int)then((Gy K (gt v6 v3) 0 (An4 .i64 a0.E5 1)).bind fun r8=>(bif r8 then(if(0:Int)≤v3∧v3<(v5.length:Int)then(bif ((gt v5 v3) != 1)then(if(0:Int)≤v3∧v3<(v6.length:Int)then(bif ((gt v6 v3) != (-1))then some false else(Art K a0 v3 v4 v5 v6 (Alw K a0 n1)))else none)else(Art K a0 v3 v4 v5 v6 (Alw K a0 n1)))else none)else some false))else none)else(if(0:Int)≤v3∧v3<(v5.length:Int)then(bif ((gt v5 v3) != 1)then(if(0:Int)≤v3∧v3<(v6.length:Int)then(bif ((gt v6 v3) != (-1))then some false else(Art K a0 v3 v4 v5 v6 (Alw K a0 n1)))else none)else(Art K a0 v3 v4 v5 v6 (Alw K a0 n1)))else none))else none)))else none)else some true)
def Awg (K:Nat)(a0:D9)(a1:Dm):Option (Bool):=((Anf K a0).bind fun r1=>(bif r1 then((Arb K a0).bind fun r2=>(bif ((a1.N5.length:Int) != r2)then some false else(bif ((a1.Vg.length:Int) != a0.Ay)then some false else(bif ((a1.N6.length:Int) != a0.Ay)then some false else(Alw K a0 K 0 a1.N5 a1.Vg a1.N6)))))else some false))
def Boq:=fd Tryz.func98 ⟨[.v 25,.v 28],[.v 4],true⟩ (gC (Bbo K) (gC (A13 K) (gC (Bob K) (gC (Bfm K) gN)))) [7,8,9,15,16,17,23,24,25,51,52,61,62,63,64,70,71,85,86] [233,1865]
def Bdi:Ei:=⟨[(2,.p 102),(3,.p 103),(5,.v 2)],[(103,.box [.v 22,.v 26,.v 26]),(102,.st 25 true)]⟩
def Bjg:=fun(C58:CT Bdi _)=>jn (Boq K) 233 Bdi [(58,ar Bdi C58)] (fun a b c d e=>Awv K a b c d (fun v3 v4 v5 v6=>C58 v3 v4 v5 v6 e)) kN
def Bgz:=fun(C58:CT Bdi _)=>jn (Boq K) 1865 Bdi [(58,ar Bdi C58)] (fun a b c d e=>Art K e a b c d (fun v3 v4 v5 v6=>C58 v3 v4 v5 v6 e)) (kC (Bjg K _) kN)
def Bor:=lp (Boq K) 58 Bdi [] (fun n a b c d e=>Alw K e n a b c d) (fun n=>(kC (Bgz K _) kN))
def Bqu:=ct (Boq K) (Awg K) (kC (Bor K K) kN)
def A0i (K:Nat)(a0:Int)(a1:Int):Option (Int):=(bif (decide (a1<a0))then some a1 else some a0)
def Bwo:=ct (fd Tryz.func306 ⟨[.v 3,.v 3],[.v 3],true⟩ gN) (A0i K)
def Awh (K:Nat)(a0:List Int)(a1:Int)(a2:Int):Nat->(List Int)->Int->Option ((List Int))
 |0,_,_=>none
 |n1+1,v1,v2=>(bif (decide (v2<(a0.length:Int)))then(bif (decide ((An4 .i64 v2 a1)<a2))then(if(0:Int)≤v2∧v2<(v1.length:Int)then(Awh K a0 a1 a2 n1 (v1.set v2.toNat 0) (An3 .i64 v2 1))else none)else some v1)else some v1)
def A1s (K:Nat)(a0:List Int)(a1:Int)(a2:Int):Option ((List Int)):=(if(([]:List Int)++a0).length*1≤140737488355328∧(([]:List Int)++a0).length≤maxLen then(bif (decide (a1<0))then some (([]:List Int)++a0)else(bif (decide (a2<0))then some (([]:List Int)++a0)else(Awh K a0 a1 a2 K (([]:List Int)++a0) a1)))else none)
def Bwp:=fd Tryz.func307 ⟨[.v 22,.v 3,.v 3],[.n 22 true],true⟩ gN [13,14,23,24]
def Bzs:Ei:=⟨[(0,.v 22),(1,.v 2),(2,.v 2),(7,.o 1007 5 true),(8,.v 2)],[]⟩
def Bjh:=lp Bwp 122 Bzs [] (fun n a b c=>Awh K a b c n) (fun n=>kN)
def Bwq:=ct Bwp (A1s K) (kC (Bjh K K) kN)
def Aww (K:Nat)(a0:D9)(a1:Dm)(a2:Int)(a3:Int):Option (Dm×Bool):=((Aqx K a1).bind fun r1=>((Awg K a0 a1).bind fun r2=>(bif r2 then((Gy K a2 0 (An4 .i64 a0.Ay 1)).bind fun r3=>(bif r3 then(if(0:Int)≤a2∧a2<(a1.Vg.length:Int)then(bif ((gt a1.Vg a2) != 2)then some (r1,false)else((Gy K a3 0 (An4 .i64 a0.G6 1)).bind fun r4=>(bif (!r4)then some (r1,false)else((A0i K (An3 .i64 a3 a0.E6) a0.G6).bind fun r5=>((A1s K a1.N5 (An3 .i64 (An5 .i64 a2 a0.G6) a3) (An4 .i64 r5 a3)).bind fun r6=>(bif (decide (r5<a0.G6))then some ((Dm.mk r6 r1.Vg r1.N6),false)else(if(0:Int)≤(An5 .i64 a2 a0.G6)∧(An5 .i64 a2 a0.G6)≤(An5 .i64 (An3 .i64 a2 1) a0.G6)∧(An5 .i64 (An3 .i64 a2 1) a0.G6)≤(r6.length:Int)then((Asd K ((r6.drop (An5 .i64 a2 a0.G6).toNat).take ((An5 .i64 (An3 .i64 a2 1) a0.G6) - (An5 .i64 a2 a0.G6)).toNat)).bind fun r7=>(bif (!r7)then((Aqx K a1).bind fun r8=>some (r8,false))else(if(0:Int)≤a2∧a2<(r1.Vg.length:Int)then some ((Dm.mk r6 (r1.Vg.set a2.toNat 0) r1.N6),true)else none)))else none)))))))else none)else some (r1,false)))else some (r1,false))))
def Bwr:=ct (fd Tryz.func284 ⟨[.v 25,.v 28,.v 3,.v 3],[.n 28 true,.v 4],true⟩ (gC (Bqu K) (gC (A13 K) (gC (Bfl K) (gC (Bfm K) (gC (Bwo K) (gC (Bwq K) gN)))))) [16,17,18,23,24,25,26,32,33,34]) (Aww K)
def Ax4 (K:Nat)(a0:C4):Option (C4):=(if(0:Int)≤0∧0<(a0.fQ.length:Int)then(if(0:Int)≤0∧0<(((gt a0.fQ 0).Ay).length:Int)then((Aww K a0.fC a0.fP (gt ((gt a0.fQ 0).Ay) 0) ((gt a0.fQ 0).Wv)).bind fun r1=>(bif r1.2 then(if(0:Int)≤1∧1≤(((gt a0.fQ 0).Ay).length:Int)∧(((gt a0.fQ 0).Ay).length:Int)≤(((gt a0.fQ 0).Ay).length:Int)then(if(([]:List Int)++((((gt a0.fQ 0).Ay).drop (1:Int).toNat).take ((((gt a0.fQ 0).Ay).length:Int) - 1).toNat)).length*8≤140737488355328∧(([]:List Int)++((((gt a0.fQ 0).Ay).drop (1:Int).toNat).take ((((gt a0.fQ 0).Ay).length:Int) - 1).toNat)).length≤maxLen then some (C4.mk a0.fC r1.1 a0.fL (a0.fQ.set (0:Int).toNat (Az.mk ((gt a0.fQ 0).Bk) ((gt a0.fQ 0).Ee) ((gt a0.fQ 0).Fh) (([]:List Int)++((((gt a0.fQ 0).Ay).drop (1:Int).toNat).take ((((gt a0.fQ 0).Ay).length:Int) - 1).toNat)) 0)) a0.Acw)else none)else none)else some (C4.mk a0.fC r1.1 a0.fL (a0.fQ.set (0:Int).toNat (Az.mk ((gt a0.fQ 0).Bk) ((gt a0.fQ 0).Ee) ((gt a0.fQ 0).Fh) ((gt a0.fQ 0).Ay) (An3 .i64 ((gt a0.fQ 0).Wv) a0.fC.E6))) a0.Acw)))else none)else none)
def Bws:=ct (fd Tryz.func251 ⟨[.b 32 false],[],false⟩ (gC (Bwr K) gN) [] [] [(0,[.take 1 10 5026]),(1,[.take 1 6 5022,.take 1 7 5023,.take 1 8 5024])]) (Ax4 K)
def Ang (K:Nat)(a0:As):Option (As):=(if(([]:List Int)++a0.Ay).length*8≤140737488355328∧(([]:List Int)++a0.Ay).length≤maxLen then(if(([]:List Bc)++a0.F4).length*24≤140737488355328∧(([]:List Bc)++a0.F4).length≤maxLen then(if(([]:List Int)++a0.Fh).length*8≤140737488355328∧(([]:List Int)++a0.Fh).length≤maxLen then some (As.mk a0.Vg a0.C8 a0.Sj a0.fUp a0.Sk a0.Ee a0.Sl a0.Sm (([]:List Int)++a0.Ay) a0.Acv a0.Sn (([]:List Bc)++a0.F4) (([]:List Int)++a0.Fh))else none)else none)else none)
def A9d:=ct (fd Tryz.func233 ⟨[.v 50],[.n 50 false],true⟩ gN) (Ang K)
def Asu (K:Nat)(v3:Dm)(v4:Dm):Option (Dm):=some v3
def A0j (K:Nat)(a0:Dm)(a1:Int):Option (Dm):=((Aqx K a0).bind fun r1=>((Gy K a1 0 (An4 .i64 (a0.Vg.length:Int) 1)).bind fun r2=>(bif r2 then(bif (decide (a1<(a0.N6.length:Int)))then(if(0:Int)≤a1∧a1<(a0.Vg.length:Int)then(bif ((gt a0.Vg a1)==1)then(if(0:Int)≤a1∧a1<(r1.Vg.length:Int)then(if(0:Int)≤a1∧a1<(r1.N6.length:Int)then(Asu K (Dm.mk r1.N5 (r1.Vg.set a1.toNat 2) (r1.N6.set a1.toNat (-1))) (Dm.mk [] [] []))else none)else none)else(Asu K r1 (Dm.mk [] [] [])))else none)else(Asu K r1 (Dm.mk [] [] [])))else(Asu K r1 (Dm.mk [] [] [])))))
def Bwt:=fd Tryz.func234 ⟨[.v 28,.v 3],[.n 28 true],true⟩ (gC (A13 K) (gC (Bfl K) gN)) [13,14,19,20,21] [7] [(5,[.take 105 0 6680,.take 105 1 6681,.take 105 2 6682])]
def Bzt:Ei:=⟨[(4,.p 104),(5,.p 105)],[(105,.st 28 true),(104,.st 28 true)]⟩
def Bsf:=jn (Bwt K) 7 Bzt [] (Asu K) kN
def Bwu:=ct (Bwt K) (A0j K) (kC (Bsf K) kN)
def Akn (K:Nat)(a1:List Int):Nat->Int->Int->Int->Int->Int->Int->Int->(List Int)->(List Int)->(List Int)->(List As)->(List Az)->(List Int)->Option (C4)
 |0,_,_,_,_,_,_,_,_,_,_,_,_,_=>none
 |n1+1,v1,v2,v3,v4,v5,v6,v7,v8,v9,v10,v11,v12,v13=>(bif (decide (v1<(a1.length:Int)))then(if(0:Int)≤v1∧v1<(a1.length:Int)then((A0j K (Dm.mk v8 v9 v10) (gt a1 v1)).bind fun r14=>(Akn K a1 n1 (An3 .i64 v1 1) v2 v3 v4 v5 v6 v7 r14.N5 r14.Vg r14.N6 v11 v12 v13))else none)else some (C4.mk (D9.mk v2 v3 v4 v5 v6 v7) (Dm.mk v8 v9 v10) v11 v12 v13))
def Aqy (K:Nat)(a0:C4)(a1:List Int):Option (C4):=(Akn K a1 K 0 a0.fC.Ay a0.fC.G6 a0.fC.E5 a0.fC.Gs a0.fC.E6 a0.fC.G7 a0.fP.N5 a0.fP.Vg a0.fP.N6 a0.fL a0.fQ a0.Acw)
def Bwv:=fd Tryz.func161 ⟨[.b 32 false,.v 26],[],false⟩ (gC (Bwu K) gN) [] [] [(3,[.take 1 6 5022,.take 1 7 5023,.take 1 8 5024])]
def Bzu:Ei:=⟨[(0,.p 1),(1,.v 26),(4,.v 2)],[(1,.box [.v 2,.v 2,.v 2,.v 2,.v 2,.v 2,.T 5 true,.T 3 true,.T 3 true,.T 50 true,.T 52 false,.T 3 true])]⟩
def Bsg:=lp (Bwv K) 6 Bzu [] (fun n a=>Akn K a n) (fun n=>kN)
def Bji:=ct (Bwv K) (Aqy K) (kC (Bsg K K) kN)
def Azz (K:Nat)(a0:As):Option (As):=some (As.mk 2 a0.C8 0 0 0 0 0 0 [] 0 0 [] [])
def Bqv:=ct (fd Tryz.func163 ⟨[.v 50],[.n 50 false],true⟩ gN) (Azz K)
def Asv (K:Nat)(a0:As)(a1:Int):Option (Az):=(if(([]:List Int)++a0.Fh).length*8≤140737488355328∧(([]:List Int)++a0.Fh).length≤maxLen then(if(([]:List Int)++a0.Ay).length*8≤140737488355328∧(([]:List Int)++a0.Ay).length≤maxLen then some (Az.mk a1 a0.Ee (([]:List Int)++a0.Fh) (([]:List Int)++a0.Ay) 0)else none)else none)
def Bjj:=ct (fd Tryz.func160 ⟨[.v 50,.v 3],[.n 52 true],true⟩ gN) (Asv K)
def Az8 (K:Nat)(a0:As)(a1:Int):Option (Az):=(if(([]:List Int)++a0.Fh).length*8≤140737488355328∧(([]:List Int)++a0.Fh).length≤maxLen then(if(([]:List Int)++a0.Ay).length*8≤140737488355328∧(([]:List Int)++a0.Ay).length≤maxLen then some (Az.mk a1 a0.Ee (([]:List Int)++a0.Fh) (([]:List Int)++a0.Ay) 0)else none)else none)
def Bww:=ct (fd Tryz.func160 ⟨[.v 50,.v 3],[.v 52],false⟩ gN) (Az8 K)
def Asw (K:Nat)(r1:As)(v4:Int)(v5:Int)(v6:Int)(v7:Int)(v8:Int)(v9:Int)(v10:Int)(v11:List Int)(v12:List Int)(v13:List Int)(v14:List As)(v15:List Az)(v16:List Int):Option (C4):=((Aqy K (C4.mk (D9.mk v5 v6 v7 v8 v9 v10) (Dm.mk v11 v12 v13) v14 v15 v16) r1.Ay).bind fun r17=>((Azz K r1).bind fun r18=>(if(0:Int)≤v4∧v4<(r17.fL.length:Int)then((Az8 K r1 (An3 .i64 v4 1)).bind fun r19=>(if(([r19]:List Az)++r17.fQ).length*72≤140737488355328∧(([r19]:List Az)++r17.fQ).length≤maxLen then some (C4.mk r17.fC r17.fP (r17.fL.set v4.toNat r18) (([r19]:List Az)++r17.fQ) r17.Acw)else none))else none)))
def Ax5 (K:Nat)(a0:C4):Option (C4):=(if(0:Int)≤0∧0<(a0.fQ.length:Int)then(if(0:Int)≤(An4 .i64 ((gt a0.fQ 0).Ee) 1)∧(An4 .i64 ((gt a0.fQ 0).Ee) 1)<(a0.fL.length:Int)then(if(0:Int)≤(An4 .i64 ((gt a0.fQ 0).Ee) 1)∧(An4 .i64 ((gt a0.fQ 0).Ee) 1)<(a0.fL.length:Int)then((Ang K (gt a0.fL (An4 .i64 ((gt a0.fQ 0).Ee) 1))).bind fun r1=>(if(0:Int)≤0∧0<(a0.fQ.length:Int)then((Ad6 K a0.fL r1.Sl).bind fun r2=>(bif r2 then(if(0:Int)≤(An4 .i64 r1.Sl 1)∧(An4 .i64 r1.Sl 1)<(a0.fL.length:Int)then(Aqh (a0.fL.set (An4 .i64 r1.Sl 1).toNat (As.mk ((gt a0.fL (An4 .i64 r1.Sl 1)).Vg) ((gt a0.fL (An4 .i64 r1.Sl 1)).C8) ((gt a0.fL (An4 .i64 r1.Sl 1)).Sj) ((gt a0.fL (An4 .i64 r1.Sl 1)).fUp) ((gt a0.fL (An4 .i64 r1.Sl 1)).Sk) ((gt a0.fL (An4 .i64 r1.Sl 1)).Ee) ((gt a0.fL (An4 .i64 r1.Sl 1)).Sl) 0 ((gt a0.fL (An4 .i64 r1.Sl 1)).Ay) ((gt a0.fL (An4 .i64 r1.Sl 1)).Acv) ((gt a0.fL (An4 .i64 r1.Sl 1)).Sn) ((gt a0.fL (An4 .i64 r1.Sl 1)).F4) ((gt a0.fL (An4 .i64 r1.Sl 1)).Fh))) fun v3=>(Asw K r1 (An4 .i64 ((gt a0.fQ 0).Ee) 1) a0.fC.Ay a0.fC.G6 a0.fC.E5 a0.fC.Gs a0.fC.E6 a0.fC.G7 a0.fP.N5 a0.fP.Vg a0.fP.N6 v3 (a0.fQ.set (0:Int).toNat (Az.mk ((gt a0.fQ 0).Bk) r1.Sl ((gt a0.fQ 0).Fh) ((gt a0.fQ 0).Ay) ((gt a0.fQ 0).Wv))) a0.Acw))else none)else(Asw K r1 (An4 .i64 ((gt a0.fQ 0).Ee) 1) a0.fC.Ay a0.fC.G6 a0.fC.E5 a0.fC.Gs a0.fC.E6 a0.fC.G7 a0.fP.N5 a0.fP.Vg a0.fP.N6 a0.fL (a0.fQ.set (0:Int).toNat (Az.mk ((gt a0.fQ 0).Bk) r1.Sl ((gt a0.fQ 0).Fh) ((gt a0.fQ 0).Ay) ((gt a0.fQ 0).Wv))) a0.Acw)))else none))else none)else none)else none)
def Bwx:=fo Tryz.func252 ⟨[.b 32 false],[],false⟩ (gC (Bji K) (gC (Bqv K) (gC (A6m K) (gC (A9d K) gN)))) (oC (d:=60) (gC (Bww K) gN) oN) [] [15] [(0,[.take 1 10 5026]),(1,[.take 1 9 5025,.opn 5025 (.tmp 2),.takeE 5025 11 41611,.takeE 5025 12 41612]),(3,[.put 5025]),(5,[.take 103 8 6656,.frz 6656]),(6,[.take 1 9 5025,.take 103 11 6659,.take 103 12 6660]),(7,[.take 1 10 5026,.frz 6659,.frz 6660])]
def Bzv:Ei:=⟨[(0,.p 1),(2,.v 2),(3,.p 103)],[(1,.box [.v 2,.v 2,.v 2,.v 2,.v 2,.v 2,.T 5 true,.T 3 true,.T 3 true,.T 50 true,.T 52 false,.T 3 true]),(103,.st 50 false)]⟩
def Bos:=jn (Bwx K) 15 Bzv [] (fun a b c d e f g h i j k l m o=>Asw K o a b c d e f g h i j k l m) kN
def Bwy:=ct (Bwx K) (Ax5 K) (kC (Bos K) kN)
def Ard (K:Nat)(a0:List As):Nat->(List As)->Int->Option ((List As))
 |0,_,_=>none
 |n1+1,v1,v2=>(bif (decide (v2<(a0.length:Int)))then(if(0:Int)≤v2∧v2<(a0.length:Int)then((Ang K (gt a0 v2)).bind fun r3=>(if(v1++[r3]).length*152≤140737488355328∧(v1++[r3]).length≤maxLen then(Ard K a0 n1 (v1++[r3]) (An3 .i64 v2 1))else none))else none)else some v1)
def Att (K:Nat)(a0:List As):Option ((List As)):=(Ard K a0 K ([]:List As) 0)
def Bwz:=fd Tryz.func158 ⟨[.v 29],[.n 29 true],false⟩ (gC (A9d K) gN) (post:=[(20,[.put 3020])])
def Bzw:Ei:=⟨[(0,.v 29),(3,.o 1003 50 true),(4,.v 2)],[]⟩
def Bou:=lp (Bwz K) 58 Bzw [] (fun n a=>Ard K a n) (fun n=>kN)
def Bfn:=ct (Bwz K) (Att K) (kC (Bou K K) kN)
def Ax6 (K:Nat)(v3:List As):Option ((List As)):=some v3
def A0k (K:Nat)(a0:List As)(a1:Int)(a2:Int):Option ((List As)):=((Att K a0).bind fun r1=>((Gy K a1 0 (An4 .i64 (a0.length:Int) 1)).bind fun r2=>(bif (!r2)then some r1 else(if(0:Int)≤a1∧a1<(a0.length:Int)then(bif (decide (((gt a0 a1).C8)≥a2))then(if(0:Int)≤a1∧a1<(r1.length:Int)then(if(0:Int)≤a1∧a1<(a0.length:Int)then(if(0:Int)≤a1∧a1<(r1.length:Int)then(Ax6 K (r1.set a1.toNat (As.mk 3 ((gt a0 a1).C8) 0 0 0 0 0 0 [] 0 0 [] [])))else none)else none)else none)else(if(0:Int)≤a1∧a1<(a0.length:Int)then((Ak4 K (An3 .i64 ((gt a0 a1).C8) 1)).bind fun r4=>(if(0:Int)≤a1∧a1<(r1.length:Int)then(Ax6 K (r1.set a1.toNat r4))else none))else none))else none))))
def Bw0:=fd Tryz.func253 ⟨[.v 29,.v 3,.v 3],[.n 29 true],false⟩ (gC (A13 K) (gC (Bfn K) (gC (Bbp K) gN))) [] [15] [(5,[.opn 1007 (.tmp 1)])]
def Bw1:Ei:=⟨[(7,.o 1007 50 true)],[]⟩
def Bov:=jn (Bw0 K) 15 Bw1 [] (Ax6 K) kN
def Bw2:=ct (Bw0 K) (A0k K) (kC (Bov K) kN)
def Asx (K:Nat)(v6:Int)(v7:Int)(v8:Int)(v9:Int)(v10:Int)(v11:Int)(v12:List Int)(v13:List Int)(v14:List Int)(v15:List As)(v16:List Az)(v17:List Int):Option (C4):=(if(0:Int)≤1∧1≤(v16.length:Int)∧(v16.length:Int)≤(v16.length:Int)then(if(([]:List Az)++((v16.drop (1:Int).toNat).take ((v16.length:Int) - 1).toNat)).length*72≤140737488355328∧(([]:List Az)++((v16.drop (1:Int).toNat).take ((v16.length:Int) - 1).toNat)).length≤maxLen then some (C4.mk (D9.mk v6 v7 v8 v9 v10 v11) (Dm.mk v12 v13 v14) v15 (([]:List Az)++((v16.drop (1:Int).toNat).take ((v16.length:Int) - 1).toNat)) v17)else none)else none)
def Au6 (K:Nat)(a0:C4):Option (C4):=(if(0:Int)≤0∧0<(a0.fQ.length:Int)then((A14 K (gt a0.fQ 0)).bind fun r1=>(bif (r1==1)then((Azh K a0).bind fun r2=>some r2)else(bif (r1==2)then((Ax4 K a0).bind fun r3=>some r3)else(bif (r1==3)then((Ax5 K a0).bind fun r4=>some r4)else(if(0:Int)≤0∧0<(a0.fQ.length:Int)then(bif (((gt a0.fQ 0).Bk) != 0)then(if(0:Int)≤0∧0<(a0.fQ.length:Int)then((A0k K a0.fL (An4 .i64 ((gt a0.fQ 0).Bk) 1) a0.fC.G7).bind fun r5=>(Asx K a0.fC.Ay a0.fC.G6 a0.fC.E5 a0.fC.Gs a0.fC.E6 a0.fC.G7 a0.fP.N5 a0.fP.Vg a0.fP.N6 r5 a0.fQ a0.Acw))else none)else(Asx K a0.fC.Ay a0.fC.G6 a0.fC.E5 a0.fC.Gs a0.fC.E6 a0.fC.G7 a0.fP.N5 a0.fP.Vg a0.fP.N6 a0.fL a0.fQ a0.Acw))else none)))))else none)
def Bw3:=fd Tryz.func186 ⟨[.b 32 false],[],false⟩ (gC (Bwl K) (gC (Bwm K) (gC (Bws K) (gC (Bwy K) (gC (Bw2 K) gN))))) [] [447] [(0,[.take 1 10 5026]),(2,[.take 1 9 5025,.frz 5025]),(3,[.take 1 10 5026]),(5,[.put 1]),(7,[.put 1]),(9,[.put 1])] [(39,[.shal 3039])]
def Bzx:Ei:=⟨[(0,.p 1)],[(1,.box [.v 2,.v 2,.v 2,.v 2,.v 2,.v 2,.T 5 true,.T 3 true,.T 3 true,.T 50 true,.T 52 false,.T 3 true])]⟩
def Bjk:=jn (Bw3 K) 447 Bzx [] (Asx K) kN
def Bqw:=ct (Bw3 K) (Au6 K) (kC (Bjk K) kN)
def At4 (K:Nat)(v1:Int)(v2:Int)(v3:Int)(v4:Int)(v5:Int)(v6:Int)(v7:Int)(v8:List Int)(v9:List Int)(v10:List Int)(v11:List As)(v12:List Az)(v13:List Int)(C1:Int->Int->Int->Int->Int->Int->Int->(List Int)->(List Int)->(List Int)->(List As)->(List Az)->(List Int)->Option (Int×C4)):Option (Int×C4):=((Au6 K (C4.mk (D9.mk v2 v3 v4 v5 v6 v7) (Dm.mk v8 v9 v10) v11 v12 v13)).bind fun r15=>(C1 (An3 .i64 v1 1) r15.fC.Ay r15.fC.G6 r15.fC.E5 r15.fC.Gs r15.fC.E6 r15.fC.G7 r15.fP.N5 r15.fP.Vg r15.fP.N6 r15.fL r15.fQ r15.Acw))
def Aqm (K:Nat)(a1:Int)(a2:Int):Nat->Int->Int->Int->Int->Int->Int->Int->(List Int)->(List Int)->(List Int)->(List As)->(List Az)->(List Int)->Option (Int×C4)
 |0,_,_,_,_,_,_,_,_,_,_,_,_,_=>none
 |n1+1,v1,v2,v3,v4,v5,v6,v7,v8,v9,v10,v11,v12,v13=>(bif (decide ((v12.length:Int)>0))then((Aqc K v11 0).bind fun r14=>(bif (decide (r14<a1))then(At4 K v1 v2 v3 v4 v5 v6 v7 v8 v9 v10 v11 v12 v13 (Aqm K a1 a2 n1))else(bif (decide (a2>0))then((Awu K (Dm.mk v8 v9 v10) a2).bind fun r16=>(bif (decide (r16<0))then(At4 K v1 v2 v3 v4 v5 v6 v7 v8 v9 v10 v11 v12 v13 (Aqm K a1 a2 n1))else some (v1,(C4.mk (D9.mk v2 v3 v4 v5 v6 v7) (Dm.mk v8 v9 v10) v11 v12 v13))))else some (v1,(C4.mk (D9.mk v2 v3 v4 v5 v6 v7) (Dm.mk v8 v9 v10) v11 v12 v13)))))else some (v1,(C4.mk (D9.mk v2 v3 v4 v5 v6 v7) (Dm.mk v8 v9 v10) v11 v12 v13)))
def Awi (K:Nat)(a0:C4)(a1:Int)(a2:Int):Option (Int×C4):=(Aqm K a1 a2 K 0 a0.fC.Ay a0.fC.G6 a0.fC.E5 a0.fC.Gs a0.fC.E6 a0.fC.G7 a0.fP.N5 a0.fP.Vg a0.fP.N6 a0.fL a0.fQ a0.Acw)
def Bsh:=fd Tryz.func290 ⟨[.b 32 false,.v 3,.v 3],[.v 3],false⟩ (gC (Bqw K) (gC (Bqr K) (gC (Bqt K) gN))) [13,14,21,22,24,25] [56] [(2,[.take 1 10 5026,.take 1 9 5025,.take 1 6 5022,.take 1 7 5023,.take 1 8 5024])]
def Bow:Ei:=⟨[(0,.p 1),(1,.v 2),(2,.v 2),(7,.v 2)],[(1,.box [.v 2,.v 2,.v 2,.v 2,.v 2,.v 2,.T 5 true,.T 3 true,.T 3 true,.T 50 true,.T 52 false,.T 3 true])]⟩
def Box:=fun(C28:CT Bow _)=>jn (Bsh K) 56 Bow [(28,ar Bow C28)] (fun a b c d e f g h i j k l m o p=>At4 K c d e f g h i j k l m o p (C28 a b)) kN
def Boy:=lp (Bsh K) 28 Bow [] (fun n a b=>Aqm K a b n) (fun n=>(kC (Box K _) kN))
def Bjl:=ct (Bsh K) (Awi K) (kC (Boy K K) kN)
def Are (K:Nat)(a0:List As):Nat->Int->Option (Int)
 |0,_=>none
 |n1+1,v1=>(bif (decide (v1<(a0.length:Int)))then(if(0:Int)≤v1∧v1<(a0.length:Int)then(bif (((gt a0 v1).Vg)==0)then some v1 else(Are K a0 n1 (An3 .i64 v1 1)))else none)else some (-1))
def Ay6 (K:Nat)(a0:List As):Option (Int):=(Are K a0 K 0)
def Bw4:=fd Tryz.func291 ⟨[.v 29],[.v 3],true⟩ gN
def Bjm:Ei:=⟨[(0,.v 29),(3,.v 2)],[]⟩
def Boz:=lp Bw4 26 Bjm [] (fun n a=>Are K a n) (fun n=>kN)
def Bw5:=ct Bw4 (Ay6 K) (kC (Boz K K) kN)
def Arf (K:Nat):Nat->Int->(List Int)->(List Int)->(List Int)->Option (Int)
 |0,_,_,_,_=>none
 |n1+1,v1,v2,v3,v4=>(bif (decide (v1<(v3.length:Int)))then(if(0:Int)≤v1∧v1<(v3.length:Int)then(bif ((gt v3 v1)==0)then some v1 else(Arf K n1 (An3 .i64 v1 1) v2 v3 v4))else none)else some (-1))
def Avu (K:Nat)(a0:Dm):Option (Int):=(Arf K K 0 a0.N5 a0.Vg a0.N6)
def Bw6:=fd Tryz.func292 ⟨[.v 28],[.v 3],true⟩ gN
def Bzy:Ei:=⟨[(1,.p 101),(3,.v 2)],[(101,.box [.v 22,.v 26,.v 26])]⟩
def Bo0:=lp Bw6 26 Bzy [] (Arf K) (fun n=>kN)
def Bqx:=ct Bw6 (Avu K) (kC (Bo0 K K) kN)
def Asy (K:Nat)(a1:Int)(a2:Int)(a3:Int):Nat->Int->Dm->Dm->Option (Dm)
 |0,_,_,_=>none
 |n1+1,v3,v4,v5=>(bif (decide (v3<(An3 .i64 a1 a2)))then(if(0:Int)≤v3∧v3<(v4.Vg.length:Int)then(if(0:Int)≤v3∧v3<(v4.N6.length:Int)then(Asy K a1 a2 a3 n1 (An3 .i64 v3 1) (Dm.mk v4.N5 (v4.Vg.set v3.toNat 1) (v4.N6.set v3.toNat a3)) v5)else none)else none)else some v4)
def Arg (K:Nat)(a0:Dm)(a1:Int)(a2:Int)(a3:Int):Option (Dm):=((Aqx K a0).bind fun r1=>((Awf K a0 a1 a2).bind fun r2=>(bif r2 then(bif ((a0.N6.length:Int) != (a0.Vg.length:Int))then some r1 else(Asy K a1 a2 a3 K a1 r1 (Dm.mk [] [] [])))else some r1)))
def Bw7:=fd Tryz.func293 ⟨[.v 28,.v 3,.v 3,.v 3],[.n 28 true],true⟩ (gC (Bfl K) (gC (Bqs K) gN)) [16,17,18] [] [(7,[.take 109 1 6745]),(8,[.take 109 2 6746]),(9,[.take 109 0 6744,.take 109 1 6745,.take 109 2 6746])]
def Bzz:Ei:=⟨[(1,.v 2),(2,.v 2),(3,.v 2),(8,.p 108),(9,.p 109),(10,.v 2)],[(109,.st 28 true),(108,.st 28 true)]⟩
def Bjn:=lp (Bw7 K) 122 Bzz [] (fun n a b c=>Asy K a b c n) (fun n=>kN)
def Bjo:=ct (Bw7 K) (Arg K) (kC (Bjn K K) kN)
def A1t (K:Nat)(a0:As):Option (Bool):=(bif (a0.Sj==0)then(bif (a0.fUp==0)then(bif (a0.Sk==0)then(bif (a0.Ee==0)then(bif (a0.Sl==0)then(bif (a0.Sm==0)then(bif ((a0.Ay.length:Int)==0)then(bif (a0.Acv==0)then(bif (a0.Sn==0)then(bif ((a0.F4.length:Int)==0)then some ((a0.Fh.length:Int)==0)else some false)else some false)else some false)else some false)else some false)else some false)else some false)else some false)else some false)else some false)
def Bw8:=ct (fd Tryz.func194 ⟨[.v 50],[.v 4],true⟩ gN [5,6,9,10,11,14,15,16,19,20,21,24,25,26,29,30,31,35,36,37,40,41,42,45,46,47,51,52,53]) (A1t K)
def Au7 (K:Nat)(a0:List Int)(a1:Int):Nat->Int->Option (Bool)
 |0,_=>none
 |n1+1,v1=>(bif (decide (v1<(a0.length:Int)))then(if(0:Int)≤v1∧v1<(a0.length:Int)then(bif ((gt a0 v1)==a1)then some true else(Au7 K a0 a1 n1 (An3 .i64 v1 1)))else none)else some false)
def Ap5 (K:Nat)(a0:List Int)(a1:Int):Option (Bool):=(Au7 K a0 a1 K 0)
def Bw9:=fd Tryz.func122 ⟨[.v 26,.v 3],[.v 4],true⟩ gN
def Bz0:Ei:=⟨[(0,.v 26),(1,.v 2),(5,.v 2)],[]⟩
def Bo1:=lp Bw9 26 Bz0 [] (fun n a b=>Au7 K a b n) (fun n=>kN)
def Bbr:=ct Bw9 (Ap5 K) (kC (Bo1 K K) kN)
def Ao8 (K:Nat)(a0:D9):Nat->Int->Int->Int->Int->Int->Int->Int->Int->Int->(List Int)->Int->Int->(List Bc)->(List Int)->Option (Bool)
 |0,_,_,_,_,_,_,_,_,_,_,_,_,_,_=>none
 |n1+1,v1,v2,v3,v4,v5,v6,v7,v8,v9,v10,v11,v12,v13,v14=>(bif (decide (v1<(v10.length:Int)))then(if(0:Int)≤v1∧v1<(v10.length:Int)then((Gy K (gt v10 v1) 0 (An4 .i64 a0.Ay 1)).bind fun r15=>(bif r15 then(if(0:Int)≤0∧0≤v1∧v1≤(v10.length:Int)then(if(0:Int)≤v1∧v1<(v10.length:Int)then((Ap5 K ((v10.drop (0:Int).toNat).take (v1 - 0).toNat) (gt v10 v1)).bind fun r16=>(bif r16 then some false else(Ao8 K a0 n1 (An3 .i64 v1 1) v2 v3 v4 v5 v6 v7 v8 v9 v10 v11 v12 v13 v14)))else none)else none)else some false))else none)else(bif (v11==0)then some (v12==0)else((Ap5 K v10 (An4 .i64 v11 1)).bind fun r17=>(bif r17 then((Gy K v12 0 a0.G6).bind fun r18=>some r18)else some false))))
def Awx (K:Nat)(a0:D9)(a1:As):Option (Bool):=(Ao8 K a0 K 0 a1.Vg a1.C8 a1.Sj a1.fUp a1.Sk a1.Ee a1.Sl a1.Sm a1.Ay a1.Acv a1.Sn a1.F4 a1.Fh)
def Bxa:=fd Tryz.func195 ⟨[.v 25,.v 50],[.v 4],true⟩ (gC (A13 K) (gC (Bbr K) gN)) [21,22,23,46,47]
def Bjp:Ei:=⟨[(2,.p 102),(3,.p 103),(5,.v 2)],[(103,.box [.v 2,.v 2,.v 2,.v 2,.v 2,.v 2,.v 2,.v 2,.v 26,.v 2,.v 2,.v 48,.v 26]),(102,.st 25 true)]⟩
def Bo2:=lp (Bxa K) 26 Bjp [] (fun n a b c d e f g h i j k l m o p=>Ao8 K p n a b c d e f g h i j k l m o) (fun n=>kN)
def Bxb:=ct (Bxa K) (Awx K) (kC (Bo2 K K) kN)
def Ao9 (K:Nat)(a0:D9)(a1:Int):Option (Bool):=some (decide (a1>a0.G6))
def Bjq:=ct (fd Tryz.func257 ⟨[.v 25,.v 3],[.v 4],true⟩ gN) (Ao9 K)
def Ax7 (K:Nat)(a0:Int)(a1:Int):Option (Int):=((Gy K a0 0 1000000000).bind fun r1=>(bif r1 then((Gy K a1 1 1000000000).bind fun r2=>(bif (!r2)then some 0 else(if a1≠(0:Int)then some (Ali .i64 (An4 .i64 (An3 .i64 a0 a1) 1) a1)else none)))else some 0))
def Bxc:=ct (fd Tryz.func287 ⟨[.v 3,.v 3],[.v 3],true⟩ (gC (A13 K) gN) [6,7,8]) (Ax7 K)
def Al6 (K:Nat)(a0:D9)(a1:Int):Option (Int):=((Ax7 K a1 a0.G6).bind fun r1=>some r1)
def Bjr:=ct (fd Tryz.func258 ⟨[.v 25,.v 3],[.v 3],true⟩ (gC (Bxc K) gN)) (Al6 K)
def Asz (K:Nat)(a0:D9)(a1:Bc):Option (Bool):=((Arb K a0).bind fun r1=>(bif (r1==0)then some false else(bif (decide (a1.Ajk<1))then some false else(bif (decide (a1.fAt<0))then some false else(bif (decide (a1.fAt>r1))then some false else(bif (decide (a1.Ajk>(An4 .i64 r1 a1.fAt)))then some false else(bif (a1.Ajl==0)then(bif (decide (a1.Ajk≤a0.G6))then(if a0.G6≠(0:Int)then(if a0.G6≠(0:Int)then some ((Ali .i64 a1.fAt a0.G6)==(Ali .i64 (An4 .i64 (An3 .i64 a1.fAt a1.Ajk) 1) a0.G6))else none)else none)else some false)else((Ao9 K a0 a1.Ajk).bind fun r2=>(bif r2 then((Al6 K a0 a1.Ajk).bind fun r3=>(bif (a1.Ajl==r3)then(if a0.G6≠(0:Int)then some ((Int.tmod a1.fAt a0.G6)==0)else none)else some false))else some false)))))))))
def Bqy:=ct (fd Tryz.func196 ⟨[.v 25,.v 132],[.v 4],true⟩ (gC (Bob K) (gC (Bjq K) (gC (Bjr K) gN))) [9,10,13,14,15,18,19,20,24,25,26,42,43,63,64,71,72,73]) (Asz K)
def Aqn (K:Nat)(v23:List Int):Nat->Int->Option (Bool)
 |0,_=>none
 |n2+1,v25=>(bif (decide (v25<(v23.length:Int)))then(if(0:Int)≤v25∧v25<(v23.length:Int)then((Gy K (gt v23 v25) 0 255).bind fun r26=>(bif (!r26)then some false else(Aqn K v23 n2 (An3 .i64 v25 1))))else none)else some true)
def Apn (K:Nat)(a0:D9):Nat->Int->Int->Int->Int->Int->Int->Int->Int->Int->(List Int)->Int->Int->(List Bc)->(List Int)->Option (Bool)
 |0,_,_,_,_,_,_,_,_,_,_,_,_,_,_=>none
 |n1+1,v10,v11,v12,v13,v14,v15,v16,v17,v18,v19,v20,v21,v22,v23=>(bif (decide (v10<(v22.length:Int)))then(if(0:Int)≤v10∧v10<(v22.length:Int)then((Asz K a0 (gt v22 v10)).bind fun r24=>(bif (!r24)then some false else(Apn K a0 n1 (An3 .i64 v10 1) v11 v12 v13 v14 v15 v16 v17 v18 v19 v20 v21 v22 v23)))else none)else(Aqn K v23 K 0))
def Ap6 (K:Nat)(a0:D9)(a1:As):Option (Bool):=((Anf K a0).bind fun r1=>(bif r1 then((Gy K a1.Vg 0 3).bind fun r2=>(bif r2 then((Gy K a1.C8 1 a0.G7).bind fun r3=>(bif (!r3)then some false else(bif (a1.Vg != 1)then((A1t K a1).bind fun r4=>some r4)else(bif (decide (a1.Sj<0))then some false else(bif (decide (a1.Sk<0))then some false else((Gy K a1.fUp 0 a0.E5).bind fun r5=>(bif r5 then((Gy K a1.Ee 0 a0.E5).bind fun r6=>(bif r6 then((Gy K a1.Sl 0 a0.E5).bind fun r7=>(bif r7 then((Gy K a1.Sm 0 a0.E5).bind fun r8=>(bif r8 then((Awx K a0 a1).bind fun r9=>(bif r9 then(bif (decide ((a1.F4.length:Int)>12))then some false else(bif (decide ((a1.Fh.length:Int)>6))then some false else(Apn K a0 K 0 a1.Vg a1.C8 a1.Sj a1.fUp a1.Sk a1.Ee a1.Sl a1.Sm a1.Ay a1.Acv a1.Sn a1.F4 a1.Fh)))else some false))else some false))else some false))else some false))else some false)))))))else some false))else some false))
def Bsi:=fd Tryz.func100 ⟨[.v 25,.v 50],[.v 4],true⟩ (gC (Bbo K) (gC (A13 K) (gC (Bw8 K) (gC (Bxb K) (gC (Bqy K) gN))))) [8,9,10,13,14,15,16,31,32,35,36,37,42,43,44,45,50,51,52,53,58,59,60,61,66,67,68,69,72,73,74,75,79,80,81]
def Bz1:Ei:=⟨[(3,.p 103),(6,.v 2)],[(103,.box [.v 2,.v 2,.v 2,.v 2,.v 2,.v 2,.v 2,.v 2,.v 26,.v 2,.v 2,.v 48,.v 26])]⟩
def Bjs:=lp (Bsi K) 506 Bz1 [] (fun n a _ _ _ _ _ _ _ _ _ _ _ _ o=>Aqn K o n a) (fun n=>kN)
def Bjt:=lp (Bsi K) 250 Bjp [] (fun n a b c d e f g h i j k l m o p=>Apn K p n a b c d e f g h i j k l m o) (fun n=>(kC (up (Bjs K K)) kN))
def A9e:=ct (Bsi K) (Ap6 K) (kC (Bjt K K) kN)
def Aum (K:Nat)(a0:D9)(a1:As)(a2:Int):Option (As×Bool):=((Ang K a1).bind fun r1=>(bif (a1.Vg != 1)then some (r1,false)else((Gy K a2 0 (An4 .i64 a0.Ay 1)).bind fun r2=>(bif (!r2)then some (r1,false)else(if(r1.Ay++([a2]:List Int)).length*8≤140737488355328∧(r1.Ay++([a2]:List Int)).length≤maxLen then((Ap6 K a0 (As.mk r1.Vg r1.C8 r1.Sj r1.fUp r1.Sk r1.Ee r1.Sl r1.Sm (r1.Ay++([a2]:List Int)) (An3 .i64 a2 1) 0 r1.F4 r1.Fh)).bind fun r3=>(bif (!r3)then((Ang K a1).bind fun r4=>some (r4,false))else some ((As.mk r1.Vg r1.C8 r1.Sj r1.fUp r1.Sk r1.Ee r1.Sl r1.Sm (r1.Ay++([a2]:List Int)) (An3 .i64 a2 1) 0 r1.F4 r1.Fh),true)))else none)))))
def Bju:=ct (fd Tryz.func294 ⟨[.v 25,.v 50,.v 3],[.n 50 false,.v 4],true⟩ (gC (A9e K) (gC (A13 K) (gC (A9d K) gN))) [13,14]) (Aum K)
def Azi (K:Nat)(v11:List As):Option ((List As)):=some v11
def Axu (K:Nat)(a0:List As)(a1:Int)(a2:Int):Option ((List As)):=((Att K a0).bind fun r1=>((Ad6 K a0 (An3 .i64 a1 1)).bind fun r2=>(bif r2 then((Ad6 K a0 (An3 .i64 a2 1)).bind fun r3=>(bif r3 then(bif (a1==a2)then some r1 else(if(0:Int)≤a1∧a1<(a0.length:Int)then(if(0:Int)≤a2∧a2<(r1.length:Int)then(Aqh (r1.set a2.toNat (As.mk ((gt r1 a2).Vg) ((gt r1 a2).C8) ((gt r1 a2).Sj) (An3 .i64 a1 1) ((gt r1 a2).Sk) ((gt r1 a2).Ee) ((gt r1 a2).Sl) ((gt r1 a2).Sm) ((gt r1 a2).Ay) ((gt r1 a2).Acv) ((gt r1 a2).Sn) ((gt r1 a2).F4) ((gt r1 a2).Fh))) fun v4=>(if(0:Int)≤a1∧a1<(a0.length:Int)then(if(0:Int)≤a2∧a2<(v4.length:Int)then(Aqh (v4.set a2.toNat (As.mk ((gt v4 a2).Vg) ((gt v4 a2).C8) ((gt v4 a2).Sj) ((gt v4 a2).fUp) ((gt a0 a1).Sj) ((gt v4 a2).Ee) ((gt v4 a2).Sl) ((gt v4 a2).Sm) ((gt v4 a2).Ay) ((gt v4 a2).Acv) ((gt v4 a2).Sn) ((gt v4 a2).F4) ((gt v4 a2).Fh))) fun v5=>(if(0:Int)≤a2∧a2<(v5.length:Int)then(Aqh (v5.set a2.toNat (As.mk ((gt v5 a2).Vg) ((gt v5 a2).C8) ((gt v5 a2).Sj) ((gt v5 a2).fUp) ((gt v5 a2).Sk) ((gt v5 a2).Ee) ((gt a0 a1).Ee) ((gt v5 a2).Sm) ((gt v5 a2).Ay) ((gt v5 a2).Acv) ((gt v5 a2).Sn) ((gt v5 a2).F4) ((gt v5 a2).Fh))) fun v6=>(if(0:Int)≤a2∧a2<(v6.length:Int)then(Aqh (v6.set a2.toNat (As.mk ((gt v6 a2).Vg) ((gt v6 a2).C8) ((gt v6 a2).Sj) ((gt v6 a2).fUp) ((gt v6 a2).Sk) ((gt v6 a2).Ee) ((gt v6 a2).Sl) 0 ((gt v6 a2).Ay) ((gt v6 a2).Acv) ((gt v6 a2).Sn) ((gt v6 a2).F4) ((gt v6 a2).Fh))) fun v7=>(if(0:Int)≤a1∧a1<(v7.length:Int)then(Aqh (v7.set a1.toNat (As.mk ((gt v7 a1).Vg) ((gt v7 a1).C8) ((gt v7 a1).Sj) ((gt v7 a1).fUp) ((gt v7 a1).Sk) (An3 .i64 a2 1) ((gt v7 a1).Sl) ((gt v7 a1).Sm) ((gt v7 a1).Ay) ((gt v7 a1).Acv) ((gt v7 a1).Sn) ((gt v7 a1).F4) ((gt v7 a1).Fh))) fun v8=>((Ad6 K a0 ((gt a0 a1).Ee)).bind fun r9=>(bif r9 then(if(0:Int)≤(An4 .i64 ((gt a0 a1).Ee) 1)∧(An4 .i64 ((gt a0 a1).Ee) 1)<(v8.length:Int)then(Aqh (v8.set (An4 .i64 ((gt a0 a1).Ee) 1).toNat (As.mk ((gt v8 (An4 .i64 ((gt a0 a1).Ee) 1)).Vg) ((gt v8 (An4 .i64 ((gt a0 a1).Ee) 1)).C8) ((gt v8 (An4 .i64 ((gt a0 a1).Ee) 1)).Sj) ((gt v8 (An4 .i64 ((gt a0 a1).Ee) 1)).fUp) ((gt v8 (An4 .i64 ((gt a0 a1).Ee) 1)).Sk) ((gt v8 (An4 .i64 ((gt a0 a1).Ee) 1)).Ee) ((gt v8 (An4 .i64 ((gt a0 a1).Ee) 1)).Sl) (An3 .i64 a2 1) ((gt v8 (An4 .i64 ((gt a0 a1).Ee) 1)).Ay) ((gt v8 (An4 .i64 ((gt a0 a1).Ee) 1)).Acv) ((gt v8 (An4 .i64 ((gt a0 a1).Ee) 1)).Sn) ((gt v8 (An4 .i64 ((gt a0 a1).Ee) 1)).F4) ((gt v8 (An4 .i64 ((gt a0 a1).Ee) 1)).Fh))) fun v10=>(Azi K v10))else none)else(Azi K v8))))else none))else none))else none))else none)else none))else none)else none))else some r1))else some r1)))
def Bxd:=fd Tryz.func295 ⟨[.v 29,.v 3,.v 3],[.n 29 true],false⟩ (gC (Bfn K) (gC (A6m K) gN)) [14,15,16,20,21,22,23] [1023]
def Bg0:=jn (Bxd K) 1023 Bw1 [] (Azi K) kN
def Bxe:=ct (Bxd K) (Axu K) (kC (Bg0 K) kN)
def As0 (K:Nat)(a1:Int):Nat->Int->Int->Int->Int->Int->Int->Int->(List Int)->(List Int)->(List Int)->(List As)->(List Az)->(List Int)->Option (Int×C4)
 |0,_,_,_,_,_,_,_,_,_,_,_,_,_=>none
 |n1+1,v1,v2,v3,v4,v5,v6,v7,v8,v9,v10,v11,v12,v13=>(bif (decide (v1<a1))then(bif ((v12.length:Int)==0)then some (v1,(C4.mk (D9.mk v2 v3 v4 v5 v6 v7) (Dm.mk v8 v9 v10) v11 v12 v13))else((Au6 K (C4.mk (D9.mk v2 v3 v4 v5 v6 v7) (Dm.mk v8 v9 v10) v11 v12 v13)).bind fun r14=>(As0 K a1 n1 (An3 .i64 v1 1) r14.fC.Ay r14.fC.G6 r14.fC.E5 r14.fC.Gs r14.fC.E6 r14.fC.G7 r14.fP.N5 r14.fP.Vg r14.fP.N6 r14.fL r14.fQ r14.Acw)))else some (a1,(C4.mk (D9.mk v2 v3 v4 v5 v6 v7) (Dm.mk v8 v9 v10) v11 v12 v13)))
def Au8 (K:Nat)(a0:C4)(a1:Int):Option (Int×C4):=(As0 K a1 K 0 a0.fC.Ay a0.fC.G6 a0.fC.E5 a0.fC.Gs a0.fC.E6 a0.fC.G7 a0.fP.N5 a0.fP.Vg a0.fP.N6 a0.fL a0.fQ a0.Acw)
def Bxf:=fd Tryz.func265 ⟨[.b 32 false,.v 3],[.v 3],false⟩ (gC (Bqw K) gN) [] [] [(4,[.take 1 10 5026]),(6,[.put 1])]
def Bz2:Ei:=⟨[(0,.p 1),(1,.v 2),(5,.v 2)],[(1,.box [.v 2,.v 2,.v 2,.v 2,.v 2,.v 2,.T 5 true,.T 3 true,.T 3 true,.T 50 true,.T 52 false,.T 3 true])]⟩
def Bo3:=lp (Bxf K) 26 Bz2 [] (fun n a=>As0 K a n) (fun n=>kN)
def Bjv:=ct (Bxf K) (Au8 K) (kC (Bo3 K K) kN)
def As1 (K:Nat)(r19:Int)(v25:Int)(v26:Int)(v27:Int)(v28:Int)(v29:Int)(v30:Int)(v31:List Int)(v32:List Int)(v33:List Int)(v34:List As)(v35:List Az)(v36:List Int)(v37:Es):Option (Es×C4):=((Ank K v34 r19).bind fun r38=>((Au8 K (C4.mk (D9.mk v25 v26 v27 v28 v29 v30) (Dm.mk v31 v32 v33) v34 v35 v36) v28).bind fun r39=>some ((Es.mk v37.Wz r38 v37.fR v37.fB v37.W3 r39.1 v37.N7),r39.2)))
def Aod (K:Nat)(v3:Int)(v4:Int)(v5:Int)(v6:Int)(v7:Int)(v8:Int)(v9:Int)(v10:List Int)(v11:List Int)(v12:List Int)(v13:List As)(v14:List Az)(v15:List Int)(v16:Es)(v17:Es):Option (Es×C4):=(bif (v16.Wz != 0)then some (v16,(C4.mk (D9.mk v4 v5 v6 v7 v8 v9) (Dm.mk v10 v11 v12) v13 v14 v15))else((Awi K (C4.mk (D9.mk v4 v5 v6 v7 v8 v9) (Dm.mk v10 v11 v12) v13 v14 v15) 1 1).bind fun r18=>((Ay6 K r18.2.fL).bind fun r19=>((Avu K r18.2.fP).bind fun r20=>(bif (decide (r19<0))then some ((Es.mk 5 (Am.mk 0 0) (Bq.mk (Am.mk 0 0) 0 0) [] 0 0 0),r18.2)else(bif (decide (r20<0))then some ((Es.mk 5 (Am.mk 0 0) (Bq.mk (Am.mk 0 0) 0 0) [] 0 0 0),r18.2)else(if(0:Int)≤r19∧r19<(r18.2.fL.length:Int)then((Ak4 K ((gt r18.2.fL r19).C8)).bind fun r21=>((Arg K r18.2.fP r20 1 r19).bind fun r22=>((Aum K r18.2.fC (As.mk 1 r21.C8 r21.Sj r21.fUp r21.Sk r21.Ee r21.Sl r21.Sm r21.Ay r21.Acv r21.Sn r21.F4 r21.Fh) r20).bind fun r23=>(if(0:Int)≤r19∧r19<(r18.2.fL.length:Int)then(bif (decide (v3≥0))then((Axu K (r18.2.fL.set r19.toNat r23.1) v3 r19).bind fun r24=>(As1 K r19 r18.2.fC.Ay r18.2.fC.G6 r18.2.fC.E5 r18.2.fC.Gs r18.2.fC.E6 r18.2.fC.G7 r22.N5 r22.Vg r22.N6 r24 r18.2.fQ r18.2.Acw (Es.mk v16.Wz v16.fH v16.fR v16.fB v16.W3 v16.Gs r18.1)))else(As1 K r19 r18.2.fC.Ay r18.2.fC.G6 r18.2.fC.E5 r18.2.fC.Gs r18.2.fC.E6 r18.2.fC.G7 r22.N5 r22.Vg r22.N6 (r18.2.fL.set r19.toNat r23.1) r18.2.fQ r18.2.Acw (Es.mk v16.Wz v16.fH v16.fR v16.fB v16.W3 v16.Gs r18.1)))else none))))else none)))))))
def As2 (K:Nat)(v41:Int)(v42:Bool)(v43:Int)(v44:Int)(v45:Int)(v46:Int)(v47:Int)(v48:Int)(v49:List Int)(v50:List Int)(v51:List Int)(v52:List As)(v53:List Az)(v54:List Int)(v55:Es)(v56:Es):Option (Es×C4):=(bif v42 then(Aod K v41 v43 v44 v45 v46 v47 v48 v49 v50 v51 v52 v53 v54 (Es.mk 3 v55.fH v55.fR v55.fB v55.W3 v55.Gs v55.N7) v56)else((Az6 K (C4.mk (D9.mk v43 v44 v45 v46 v47 v48) (Dm.mk v49 v50 v51) v52 v53 v54)).bind fun r57=>(bif (r57==0)then(Aod K v41 v43 v44 v45 v46 v47 v48 v49 v50 v51 v52 v53 v54 (Es.mk 4 v55.fH v55.fR v55.fB v55.W3 v55.Gs v55.N7) v56)else((Arq K (C4.mk (D9.mk v43 v44 v45 v46 v47 v48) (Dm.mk v49 v50 v51) v52 v53 v54) 1).bind fun r58=>(bif (!r58)then(Aod K v41 v43 v44 v45 v46 v47 v48 v49 v50 v51 v52 v53 v54 (Es.mk 5 v55.fH v55.fR v55.fB v55.W3 v55.Gs v55.N7) v56)else(Aod K v41 v43 v44 v45 v46 v47 v48 v49 v50 v51 v52 v53 v54 v55 v56))))))
def Ax8 (K:Nat)(a0:C4)(a1:Am):Option (Es×C4):=((A0h K a0 a1).bind fun r1=>((Ao7 K a0 a1).bind fun r2=>(bif (r1.2 != 0)then(Aod K r1.1 a0.fC.Ay a0.fC.G6 a0.fC.E5 a0.fC.Gs a0.fC.E6 a0.fC.G7 a0.fP.N5 a0.fP.Vg a0.fP.N6 a0.fL a0.fQ a0.Acw (Es.mk r1.2 (Am.mk 0 0) (Bq.mk (Am.mk 0 0) 0 0) [] r2 0 0) (Es.mk 0 (Am.mk 0 0) (Bq.mk (Am.mk 0 0) 0 0) [] 0 0 0))else(bif (decide (r1.1≥0))then((Awe K a0.fL r1.1).bind fun r40=>(As2 K r1.1 (decide (r40≥4)) a0.fC.Ay a0.fC.G6 a0.fC.E5 a0.fC.Gs a0.fC.E6 a0.fC.G7 a0.fP.N5 a0.fP.Vg a0.fP.N6 a0.fL a0.fQ a0.Acw (Es.mk r1.2 (Am.mk 0 0) (Bq.mk (Am.mk 0 0) 0 0) [] r2 0 0) (Es.mk 0 (Am.mk 0 0) (Bq.mk (Am.mk 0 0) 0 0) [] 0 0 0)))else(As2 K r1.1 false a0.fC.Ay a0.fC.G6 a0.fC.E5 a0.fC.Gs a0.fC.E6 a0.fC.G7 a0.fP.N5 a0.fP.Vg a0.fP.N6 a0.fL a0.fQ a0.Acw (Es.mk r1.2 (Am.mk 0 0) (Bq.mk (Am.mk 0 0) 0 0) [] r2 0 0) (Es.mk 0 (Am.mk 0 0) (Bq.mk (Am.mk 0 0) 0 0) [] 0 0 0))))))
def Bo4:=fd Tryz.func263 ⟨[.b 32 false,.v 36],[.n 73 true],false⟩ (gC (Bje K) (gC (A7j K) (gC (Bi8 K) (gC (Bbp K) (gC (Bqp K) (gC (Bjv K) (gC (Bwf K) (gC (Bwg K) (gC (Bjl K) (gC (Bw5 K) (gC (Bqx K) (gC (Bjo K) (gC (Bju K) (gC (Bxe K) gN)))))))))))))) [31,32,74,75] [15,243,32767] [(1,[.take 1 6 5022,.take 1 7 5023,.take 1 8 5024,.take 1 9 5025,.take 1 10 5026,.take 1 11 5027]),(6,[.take 1 6 5022,.take 1 7 5023,.take 1 8 5024,.take 1 9 5025,.take 1 10 5026,.take 1 11 5027]),(11,[.take 107 7 6719]),(13,[.take 1 9 5025]),(14,[.take 1 6 5022,.take 1 7 5023,.take 1 8 5024]),(23,[.put 5025,.frz 5025]),(24,[.take 1 9 5025]),(25,[.put 1]),(26,[.take 107 7 6719])]
def Bz3:Ei:=⟨[(0,.p 1),(4,.p 104),(7,.p 107),(8,.v 2)],[(1,.box [.v 2,.v 2,.v 2,.v 2,.v 2,.v 2,.T 5 true,.T 3 true,.T 3 true,.T 50 true,.T 52 false,.T 3 true]),(107,.st 73 true),(104,.st 73 true)]⟩
def Bz4:Ei:=⟨[(0,.p 1),(4,.p 104),(5,.v 2),(7,.p 107)],[(1,.box [.v 2,.v 2,.v 2,.v 2,.v 2,.v 2,.T 5 true,.T 3 true,.T 3 true,.T 50 true,.T 52 false,.T 3 true]),(107,.st 73 true),(104,.st 73 true)]⟩
def Bz5:Ei:=⟨[(0,.p 1),(4,.p 104),(5,.v 2),(7,.p 107),(29,.v 4)],[(1,.box [.v 2,.v 2,.v 2,.v 2,.v 2,.v 2,.T 5 true,.T 3 true,.T 3 true,.T 50 true,.T 52 false,.T 3 true]),(107,.st 73 true),(104,.st 73 true)]⟩
def Bdj:=jn (Bo4 K) 32767 Bz3 [] (fun a b c d e f g h i j k l m o _=>As1 K a b c d e f g h i j k l m o) kN
def Bfo:=jn (Bo4 K) 15 Bz4 [] (Aod K) (kC (Bdj K) kN)
def Bjw:=jn (Bo4 K) 243 Bz5 [] (As2 K) (kC (Bfo K) kN)
def Bxg:=ct (Bo4 K) (Ax8 K) (kC (Bfo K) (kC (Bjw K) kN))
def Arh (K:Nat)(a0:Int):Option (Bool):=(bif (a0==1)then some true else(bif (a0==2)then some true else some (a0==4)))
def Bfp:=ct (fd Tryz.func296 ⟨[.v 3],[.v 4],true⟩ gN [4,5,7,8,9]) (Arh K)
def Ana (K:Nat)(a0:D9)(a2:Int)(a3:Int)(r6:Int):Nat->Int->As->As->Int->Int->Int->Int->Int->Int->Int->Int->(List Int)->Int->Int->(List Bc)->(List Int)->Option (As×Bool)
 |0,_,_,_,_,_,_,_,_,_,_,_,_,_,_,_,_=>none
 |n1+1,v7,v8,v9,v10,v11,v12,v13,v14,v15,v16,v17,v18,v19,v20,v21,v22=>(bif (decide (v7<r6))then(if(v8.Ay++([(An3 .i64 a2 v7)]:List Int)).length*8≤140737488355328∧(v8.Ay++([(An3 .i64 a2 v7)]:List Int)).length≤maxLen then(Ana K a0 a2 a3 r6 n1 (An3 .i64 v7 1) (As.mk v8.Vg v8.C8 v8.Sj v8.fUp v8.Sk v8.Ee v8.Sl v8.Sm (v8.Ay++([(An3 .i64 a2 v7)]:List Int)) v8.Acv v8.Sn v8.F4 v8.Fh) v9 v10 v11 v12 v13 v14 v15 v16 v17 v18 v19 v20 v21 v22)else none)else(if(v8.F4++([(Bc.mk (An5 .i64 a2 a0.G6) a3 r6)]:List Bc)).length*24≤140737488355328∧(v8.F4++([(Bc.mk (An5 .i64 a2 a0.G6) a3 r6)]:List Bc)).length≤maxLen then((Ap6 K a0 (As.mk v8.Vg v8.C8 v8.Sj v8.fUp v8.Sk v8.Ee v8.Sl v8.Sm v8.Ay v8.Acv v8.Sn (v8.F4++([(Bc.mk (An5 .i64 a2 a0.G6) a3 r6)]:List Bc)) v8.Fh)).bind fun r23=>(bif (!r23)then((Ang K (As.mk v10 v11 v12 v13 v14 v15 v16 v17 v18 v19 v20 v21 v22)).bind fun r24=>some (r24,false))else some ((As.mk v8.Vg v8.C8 v8.Sj v8.fUp v8.Sk v8.Ee v8.Sl v8.Sm v8.Ay v8.Acv v8.Sn (v8.F4++([(Bc.mk (An5 .i64 a2 a0.G6) a3 r6)]:List Bc)) v8.Fh),true)))else none))
def Aqo (K:Nat)(a0:D9)(a1:As)(a2:Int)(a3:Int):Option (As×Bool):=((Ang K a1).bind fun r1=>((Anf K a0).bind fun r2=>(bif r2 then(bif (a1.Vg != 1)then some (r1,false)else((Ao9 K a0 a3).bind fun r3=>(bif r3 then((Arb K a0).bind fun r4=>(bif (decide (a3>r4))then some (r1,false)else((Gy K a2 0 (An4 .i64 a0.Ay 1)).bind fun r5=>(bif (!r5)then some (r1,false)else((Al6 K a0 a3).bind fun r6=>(Ana K a0 a2 a3 r6 K 0 r1 (As.mk 0 0 0 0 0 0 0 0 [] 0 0 [] []) a1.Vg a1.C8 a1.Sj a1.fUp a1.Sk a1.Ee a1.Sl a1.Sm a1.Ay a1.Acv a1.Sn a1.F4 a1.Fh))))))else some (r1,false))))else some (r1,false))))
def Bxh:=fd Tryz.func309 ⟨[.v 25,.v 50,.v 3,.v 3],[.n 50 false,.v 4],true⟩ (gC (Bbo K) (gC (A9e K) (gC (A13 K) (gC (Bob K) (gC (A9d K) (gC (Bjq K) (gC (Bjr K) gN))))))) [16,17,18,21,22,23,26,27,28,29,33,34,35] [] [(8,[.take 110 8 6768]),(9,[.take 110 11 6771]),(10,[.take 110 8 6768,.take 110 12 6772])]
def Bz6:Ei:=⟨[(2,.v 2),(3,.v 2),(4,.p 104),(5,.p 105),(8,.p 108),(10,.p 110),(11,.v 2),(12,.v 2)],[(110,.st 50 false),(108,.st 50 false),(105,.box [.v 2,.v 2,.v 2,.v 2,.v 2,.v 2,.v 2,.v 2,.v 26,.v 2,.v 2,.v 48,.v 26]),(104,.st 25 true)]⟩
def Bjx:=lp (Bxh K) 250 Bz6 [] (fun n a b c d e f g h i j k l m o p q r s t u=>Ana K u a b c n d e f g h i j k l m o p q r s t) (fun n=>kN)
def Bqz:=ct (Bxh K) (Aqo K) (kC (Bjx K K) kN)
def Awy (K:Nat)(a0:C4)(a1:Int)(a2:Int)(a3:Es):Option (Es×C4):=((Al6 K a0.fC a2).bind fun r1=>((Arq K a0 r1).bind fun r2=>(bif (!r2)then some ((Es.mk 5 a3.fH a3.fR a3.fB a3.W3 a3.Gs a3.N7),a0)else((Awi K a0 0 r1).bind fun r3=>((Awu K r3.2.fP r1).bind fun r4=>(bif (decide (r4<0))then some ((Es.mk 6 a3.fH a3.fR a3.fB a3.W3 a3.Gs r3.1),r3.2)else((Arg K r3.2.fP r4 r1 a1).bind fun r5=>(if(0:Int)≤a1∧a1<(r3.2.fL.length:Int)then(if(0:Int)≤a1∧a1<(r3.2.fL.length:Int)then((Aqo K r3.2.fC (gt r3.2.fL a1) r4 a2).bind fun r6=>(if(0:Int)≤a1∧a1<(r3.2.fL.length:Int)then some ((Es.mk a3.Wz a3.fH a3.fR a3.fB a3.W3 a3.Gs r3.1),(C4.mk r3.2.fC r5 (r3.2.fL.set a1.toNat r6.1) r3.2.fQ r3.2.Acw))else none))else none)else none))))))))
def Bxi:=ct (fd Tryz.func297 ⟨[.b 32 false,.v 3,.v 3,.v 73],[.v 73],false⟩ (gC (Bje K) (gC (Bjr K) (gC (Bjl K) (gC (Bjo K) (gC (Bqz K) (gC (Bqt K) gN)))))) [] [] [(2,[.take 1 6 5022,.take 1 7 5023,.take 1 8 5024,.take 1 9 5025,.take 1 10 5026,.take 1 11 5027]),(5,[.put 1]),(6,[.take 1 6 5022,.take 1 7 5023,.take 1 8 5024]),(11,[.take 1 9 5025,.opn 5025 (.tmp 1),.takeE 5025 11 41611,.takeE 5025 12 41612])]) (Awy K)
def Ax9 (K:Nat)(a0:Int)(a1:Int):Option (Int):=((Gy K a0 0 1000000000).bind fun r1=>(bif r1 then((Arh K a1).bind fun r2=>(bif (!r2)then some 0 else(if a1≠(0:Int)then some (An5 .i64 (Ali .i64 (An4 .i64 (An3 .i64 a0 a1) 1) a1) a1)else none)))else some 0))
def Bxj:=ct (fd Tryz.func315 ⟨[.v 3,.v 3],[.v 3],true⟩ (gC (A13 K) (gC (Bfp K) gN)) [6,7,8]) (Ax9 K)
def Awj (K:Nat)(a0:D9)(a1:As)(a2:Int)(a3:Int):Option (Int×Bool):=((Ap6 K a0 a1).bind fun r1=>(bif r1 then(bif (a1.Acv==0)then some (0,false)else((Gy K a2 1 a0.G6).bind fun r2=>(bif r2 then((Arh K a3).bind fun r3=>(bif (!r3)then some (0,false)else((Ax9 K a1.Sn a3).bind fun r4=>(bif (decide ((An3 .i64 r4 a2)>a0.G6))then some (0,false)else some ((An3 .i64 (An5 .i64 (An4 .i64 a1.Acv 1) a0.G6) r4),true)))))else some (0,false))))else some (0,false)))
def Bq0:=ct (fd Tryz.func314 ⟨[.v 25,.v 50,.v 3,.v 3],[.v 3,.v 4],true⟩ (gC (A9e K) (gC (A13 K) (gC (Bfp K) (gC (Bxj K) gN)))) [13,14,15,18,19,20,24,25,26,27]) (Awj K)
def Aus (K:Nat)(a0:D9)(a1:As)(a2:Int)(a3:Int):Option (Bool):=((Awj K a0 a1 a2 a3).bind fun r1=>(bif r1.2 then some false else((Ap6 K a0 a1).bind fun r2=>(bif r2 then(bif (a1.Vg==1)then((Gy K a2 1 a0.G6).bind fun r3=>(bif r3 then((Arh K a3).bind fun r4=>some r4)else some false))else some false)else some false))))
def Bxk:=ct (fd Tryz.func312 ⟨[.v 25,.v 50,.v 3,.v 3],[.v 4],true⟩ (gC (A9e K) (gC (A13 K) (gC (Bfp K) (gC (Bq0 K) gN)))) [19,20,21,24,25,26,29,30,31,35,36,37]) (Aus K)
def At5 (K:Nat)(a0:D9)(a1:As)(a2:Int)(a3:Int):Option (As×Bool):=((Ang K a1).bind fun r1=>((Awj K a0 a1 a2 a3).bind fun r2=>(bif r2.2 then(bif (decide ((a1.F4.length:Int)≥12))then some (r1,false)else(if(r1.F4++([(Bc.mk r2.1 a2 0)]:List Bc)).length*24≤140737488355328∧(r1.F4++([(Bc.mk r2.1 a2 0)]:List Bc)).length≤maxLen then some ((As.mk r1.Vg r1.C8 r1.Sj r1.fUp r1.Sk r1.Ee r1.Sl r1.Sm r1.Ay r1.Acv (An3 .i64 (An4 .i64 r2.1 (An5 .i64 (An4 .i64 a1.Acv 1) a0.G6)) a2) (r1.F4++([(Bc.mk r2.1 a2 0)]:List Bc)) r1.Fh),true)else none))else some (r1,false))))
def Bq1:=ct (fd Tryz.func308 ⟨[.v 25,.v 50,.v 3,.v 3],[.n 50 false,.v 4],true⟩ (gC (A9d K) (gC (Bq0 K) gN)) [23,24,25]) (At5 K)
def Ar3 (K:Nat)(a1:Int)(a2:Int)(a3:Int)(v7:Int)(v8:Int)(v9:Int)(v10:Int)(v11:Int)(v12:Int)(v13:List Int)(v14:List Int)(v15:List Int)(v16:List As)(v17:List Az)(v18:List Int)(v19:Es)(v20:Int)(v21:Int)(v22:Int)(v23:Int)(v24:Int)(v25:Int)(v26:Int)(v27:List Int)(v28:Int)(v29:Int)(v30:Int):Option (Es×C4):=(if(0:Int)≤a1∧a1<(v16.length:Int)then(if(0:Int)≤a1∧a1<(v16.length:Int)then((At5 K (D9.mk v7 v8 v9 v10 v11 v12) (gt v16 a1) a2 a3).bind fun r31=>(if(0:Int)≤a1∧a1<(v16.length:Int)then some ((Es.mk v20 (Am.mk v21 v22) (Bq.mk (Am.mk v23 v24) v25 v26) v27 v28 v29 v30),(C4.mk (D9.mk v7 v8 v9 v10 v11 v12) (Dm.mk v13 v14 v15) (v16.set a1.toNat r31.1) v17 v18))else none))else none)else none)
def Awz (K:Nat)(a0:C4)(a1:Int)(a2:Int)(a3:Int)(a4:Es):Option (Es×C4):=(if(0:Int)≤a1∧a1<(a0.fL.length:Int)then(if(0:Int)≤a1∧a1<(a0.fL.length:Int)then((Aus K a0.fC (gt a0.fL a1) a2 a3).bind fun r1=>(bif r1 then((Arq K a0 1).bind fun r2=>(bif (!r2)then some ((Es.mk 5 a4.fH a4.fR a4.fB a4.W3 a4.Gs a4.N7),a0)else((Awi K a0 0 1).bind fun r3=>((Avu K r3.2.fP).bind fun r4=>(bif (decide (r4<0))then some ((Es.mk 5 a4.fH a4.fR a4.fB a4.W3 a4.Gs r3.1),r3.2)else((Arg K r3.2.fP r4 1 a1).bind fun r5=>(if(0:Int)≤a1∧a1<(r3.2.fL.length:Int)then(if(0:Int)≤a1∧a1<(r3.2.fL.length:Int)then((Aum K r3.2.fC (gt r3.2.fL a1) r4).bind fun r6=>(if(0:Int)≤a1∧a1<(r3.2.fL.length:Int)then(Ar3 K a1 a2 a3 r3.2.fC.Ay r3.2.fC.G6 r3.2.fC.E5 r3.2.fC.Gs r3.2.fC.E6 r3.2.fC.G7 r5.N5 r5.Vg r5.N6 (r3.2.fL.set a1.toNat r6.1) r3.2.fQ r3.2.Acw (Es.mk 0 (Am.mk 0 0) (Bq.mk (Am.mk 0 0) 0 0) [] 0 0 0) a4.Wz a4.fH.Bk a4.fH.C8 a4.fR.fH.Bk a4.fR.fH.C8 a4.fR.Sj a4.fR.fNo a4.fB a4.W3 a4.Gs r3.1)else none))else none)else none)))))))else(Ar3 K a1 a2 a3 a0.fC.Ay a0.fC.G6 a0.fC.E5 a0.fC.Gs a0.fC.E6 a0.fC.G7 a0.fP.N5 a0.fP.Vg a0.fP.N6 a0.fL a0.fQ a0.Acw (Es.mk 0 (Am.mk 0 0) (Bq.mk (Am.mk 0 0) 0 0) [] 0 0 0) a4.Wz a4.fH.Bk a4.fH.C8 a4.fR.fH.Bk a4.fR.fH.C8 a4.fR.Sj a4.fR.fNo a4.fB a4.W3 a4.Gs a4.N7)))else none)else none)
def Bxl:=fd Tryz.func298 ⟨[.b 32 false,.v 3,.v 3,.v 3,.v 73],[.v 73],false⟩ (gC (Bje K) (gC (Bjl K) (gC (Bqx K) (gC (Bjo K) (gC (Bju K) (gC (Bq1 K) (gC (Bxk K) gN))))))) [] [3] [(1,[.take 1 9 5025,.opn 5025 (.tmp 1),.takeE 5025 11 41611,.takeE 5025 12 41612]),(2,[.take 1 6 5022,.take 1 7 5023,.take 1 8 5024,.take 1 10 5026,.take 1 11 5027,.put 5025]),(5,[.put 1]),(6,[.take 1 6 5022,.take 1 7 5023,.take 1 8 5024]),(11,[.take 1 9 5025,.opn 5025 (.tmp 1),.takeE 5025 11 41611,.takeE 5025 12 41612]),(13,[.take 1 9 5025,.opn 5025 (.tmp 1),.takeE 5025 11 41611,.takeE 5025 12 41612])]
def Bz7:Ei:=⟨[(0,.p 1),(1,.v 2),(2,.v 2),(3,.v 2),(9,.p 109),(10,.p 110)],[(1,.box [.v 2,.v 2,.v 2,.v 2,.v 2,.v 2,.T 5 true,.T 3 true,.T 3 true,.T 50 true,.T 52 false,.T 3 true]),(110,.st 73 true),(109,.box [.v 2,.v 2,.v 2,.v 2,.v 2,.v 2,.v 2,.v 22,.v 2,.v 2,.v 2])]⟩
def Bsj:=jn (Bxl K) 3 Bz7 [] (Ar3 K) kN
def Bxm:=ct (Bxl K) (Awz K) (kC (Bsj K) kN)
def Ar4 (K:Nat)(a1:Am)(v5:Int)(v22:Int)(v23:Int)(v24:Int)(v25:Int)(v26:Int)(v27:Int)(v28:List Int)(v29:List Int)(v30:List Int)(v31:List As)(v32:List Az)(v33:List Int)(v34:Int)(v35:Int)(v36:Int)(v37:Int)(v38:Int)(v39:Int)(v40:Int)(v41:List Int)(v42:Int)(v43:Int)(v44:Int):Option (Es×C4):=(bif (v34 != 0)then some ((Es.mk v34 (Am.mk v35 v36) (Bq.mk (Am.mk v37 v38) v39 v40) v41 v42 v43 v44),(C4.mk (D9.mk v22 v23 v24 v25 v26 v27) (Dm.mk v28 v29 v30) v31 v32 v33))else(if(0:Int)≤v5∧v5<(v31.length:Int)then(if(0:Int)≤v5∧v5<(v31.length:Int)then(if(0:Int)≤v5∧v5<(v31.length:Int)then((Au8 K (C4.mk (D9.mk v22 v23 v24 v25 v26 v27) (Dm.mk v28 v29 v30) v31 v32 v33) v25).bind fun r45=>some ((Es.mk v34 (Am.mk v35 v36) (Bq.mk a1 ((gt v31 v5).Sj) (An4 .i64 (((gt v31 v5).F4).length:Int) 1)) v41 v42 r45.1 v44),r45.2))else none)else none)else none))
def Aqd (K:Nat)(a1:Am)(a2:Int)(a3:Int)(v5:Int)(v6:Int)(v7:Int)(v8:Int)(v9:Int)(v10:Int)(v11:Int)(v12:List Int)(v13:List Int)(v14:List Int)(v15:List As)(v16:List Az)(v17:List Int)(v18:Es)(v19:Es):Option (Es×C4):=(bif (v18.Wz != 0)then some (v18,(C4.mk (D9.mk v6 v7 v8 v9 v10 v11) (Dm.mk v12 v13 v14) v15 v16 v17))else((Ao9 K (D9.mk v6 v7 v8 v9 v10 v11) a2).bind fun r20=>(bif r20 then((Awy K (C4.mk (D9.mk v6 v7 v8 v9 v10 v11) (Dm.mk v12 v13 v14) v15 v16 v17) v5 a2 v18).bind fun r21=>(Ar4 K a1 v5 r21.2.fC.Ay r21.2.fC.G6 r21.2.fC.E5 r21.2.fC.Gs r21.2.fC.E6 r21.2.fC.G7 r21.2.fP.N5 r21.2.fP.Vg r21.2.fP.N6 r21.2.fL r21.2.fQ r21.2.Acw r21.1.Wz r21.1.fH.Bk r21.1.fH.C8 r21.1.fR.fH.Bk r21.1.fR.fH.C8 r21.1.fR.Sj r21.1.fR.fNo r21.1.fB r21.1.W3 r21.1.Gs r21.1.N7))else((Awz K (C4.mk (D9.mk v6 v7 v8 v9 v10 v11) (Dm.mk v12 v13 v14) v15 v16 v17) v5 a2 a3 v18).bind fun r46=>(Ar4 K a1 v5 r46.2.fC.Ay r46.2.fC.G6 r46.2.fC.E5 r46.2.fC.Gs r46.2.fC.E6 r46.2.fC.G7 r46.2.fP.N5 r46.2.fP.Vg r46.2.fP.N6 r46.2.fL r46.2.fQ r46.2.Acw r46.1.Wz r46.1.fH.Bk r46.1.fH.C8 r46.1.fR.fH.Bk r46.1.fR.fH.C8 r46.1.fR.Sj r46.1.fR.fNo r46.1.fB r46.1.W3 r46.1.Gs r46.1.N7)))))
def Aw0 (K:Nat)(a0:C4)(a1:Am)(a2:Int)(a3:Int):Option (Es×C4):=((Gy K a2 1 200).bind fun r1=>(bif r1 then((Arh K a3).bind fun r2=>(bif (!r2)then some ((Es.mk 1 (Am.mk 0 0) (Bq.mk (Am.mk 0 0) 0 0) [] 0 0 0),a0)else((Anl K a0 a1).bind fun r3=>((Ao7 K a0 a1).bind fun r4=>(bif (r3.2==0)then(if(0:Int)≤r3.1∧r3.1<(a0.fL.length:Int)then(if(0:Int)≤r3.1∧r3.1<(a0.fL.length:Int)then(bif (decide ((((gt a0.fL r3.1).F4).length:Int)≥12))then(Aqd K a1 a2 a3 r3.1 a0.fC.Ay a0.fC.G6 a0.fC.E5 a0.fC.Gs a0.fC.E6 a0.fC.G7 a0.fP.N5 a0.fP.Vg a0.fP.N6 a0.fL a0.fQ a0.Acw (Es.mk 8 (Am.mk 0 0) (Bq.mk (Am.mk 0 0) 0 0) [] r4 0 0) (Es.mk 0 (Am.mk 0 0) (Bq.mk (Am.mk 0 0) 0 0) [] 0 0 0))else(Aqd K a1 a2 a3 r3.1 a0.fC.Ay a0.fC.G6 a0.fC.E5 a0.fC.Gs a0.fC.E6 a0.fC.G7 a0.fP.N5 a0.fP.Vg a0.fP.N6 a0.fL a0.fQ a0.Acw (Es.mk r3.2 (Am.mk 0 0) (Bq.mk (Am.mk 0 0) 0 0) [] r4 0 0) (Es.mk 0 (Am.mk 0 0) (Bq.mk (Am.mk 0 0) 0 0) [] 0 0 0)))else none)else none)else(Aqd K a1 a2 a3 r3.1 a0.fC.Ay a0.fC.G6 a0.fC.E5 a0.fC.Gs a0.fC.E6 a0.fC.G7 a0.fP.N5 a0.fP.Vg a0.fP.N6 a0.fL a0.fQ a0.Acw (Es.mk r3.2 (Am.mk 0 0) (Bq.mk (Am.mk 0 0) 0 0) [] r4 0 0) (Es.mk 0 (Am.mk 0 0) (Bq.mk (Am.mk 0 0) 0 0) [] 0 0 0)))))))else some ((Es.mk 1 (Am.mk 0 0) (Bq.mk (Am.mk 0 0) 0 0) [] 0 0 0),a0)))
def Bsk:=fd Tryz.func264 ⟨[.b 32 false,.v 36,.v 3,.v 3],[.v 73],false⟩ (gC (A13 K) (gC (A9c K) (gC (A7j K) (gC (Bjq K) (gC (Bjv K) (gC (Bfp K) (gC (Bxi K) (gC (Bxm K) gN)))))))) [13,14,15,37,38] [31,127] [(3,[.take 1 6 5022,.take 1 7 5023,.take 1 8 5024,.take 1 9 5025,.take 1 10 5026,.take 1 11 5027]),(8,[.take 111 7 6783]),(10,[.take 111 7 6783,.frz 6783]),(11,[.take 111 7 6783,.frz 6783]),(14,[.take 1 9 5025,.opn 5025 (.tmp 9),.takeE 5025 11 41611]),(15,[.put 1])] [(43,[.opn 5025 (.tmp 43)]),(45,[.takeE 5025 11 41611])]
def Bz8:Ei:=⟨[(0,.p 1),(5,.p 105),(8,.p 108),(9,.v 2),(11,.p 111)],[(1,.box [.v 2,.v 2,.v 2,.v 2,.v 2,.v 2,.T 5 true,.T 3 true,.T 3 true,.T 50 true,.T 52 false,.T 3 true]),(111,.box [.v 2,.v 2,.v 2,.v 2,.v 2,.v 2,.v 2,.v 22,.v 2,.v 2,.v 2]),(108,.st 73 true),(105,.st 36 true)]⟩
def Bz9:Ei:=⟨[(0,.p 1),(2,.v 2),(3,.v 2),(5,.p 105),(8,.p 108),(9,.v 2),(11,.p 111)],[(1,.box [.v 2,.v 2,.v 2,.v 2,.v 2,.v 2,.T 5 true,.T 3 true,.T 3 true,.T 50 true,.T 52 false,.T 3 true]),(111,.st 73 true),(108,.st 73 true),(105,.st 36 true)]⟩
def Bjy:=jn (Bsk K) 127 Bz8 [] (fun a b c d e f g h i j k l m o p q r s t u v w x y _ a1=>Ar4 K a1 a b c d e f g h i j k l m o p q r s t u v w x y) kN
def Bo5:=jn (Bsk K) 31 Bz9 [] (fun a b c d e f g h i j k l m o p q r s=>Aqd K s a b c d e f g h i j k l m o p q r) (kC (Bjy K) kN)
def Bxn:=ct (Bsk K) (Aw0 K) (kC (Bo5 K) kN)
def Aya (K:Nat)(a0:As):Option (As):=((Ang K a0).bind fun r1=>some (As.mk r1.Vg r1.C8 (An3 .i64 a0.Sj 1) r1.fUp r1.Sk 0 r1.Sl r1.Sm ([]:List Int) 0 0 ([]:List Bc) ([]:List Int)))
def Bxo:=ct (fd Tryz.func164 ⟨[.v 50],[.n 50 false],true⟩ (gC (A9d K) gN)) (Aya K)
def Aut (K:Nat)(a0:C4)(a1:Int):Option (C4):=(if(0:Int)≤a1∧a1<(a0.fL.length:Int)then(if(0:Int)≤a1∧a1<(a0.fL.length:Int)then((Asv K (gt a0.fL a1) 0).bind fun r1=>(if(0:Int)≤a1∧a1<(a0.fL.length:Int)then((Aqy K a0 ((gt a0.fL a1).Ay)).bind fun r2=>(if(0:Int)≤a1∧a1<(r2.fL.length:Int)then(if(0:Int)≤a1∧a1<(r2.fL.length:Int)then((Aya K (gt r2.fL a1)).bind fun r3=>(if(0:Int)≤a1∧a1<(r2.fL.length:Int)then(if(r2.fQ++([r1]:List Az)).length*72≤140737488355328∧(r2.fQ++([r1]:List Az)).length≤maxLen then some (C4.mk r2.fC r2.fP (r2.fL.set a1.toNat r3) (r2.fQ++([r1]:List Az)) r2.Acw)else none)else none))else none)else none))else none))else none)else none)
def Bxp:=ct (fd Tryz.func84 ⟨[.b 32 false,.v 3],[],false⟩ (gC (Bjj K) (gC (Bji K) (gC (Bxo K) gN))) [] [] [(0,[.take 1 9 5025,.opn 5025 (.tmp 1),.takeE 5025 11 41611,.takeE 5025 12 41612]),(1,[.put 1,.take 1 9 5025]),(2,[.take 1 9 5025,.opn 5025 (.tmp 1),.takeE 5025 11 41611,.takeE 5025 12 41612]),(3,[.take 1 10 5026,.frz 20384,.frz 20385])] [(21,[.put 1])]) (Aut K)
def At6 (K:Nat)(a1:Int)(v21:List As):Option ((List As)):=(if(0:Int)≤a1∧a1<(v21.length:Int)then(Aqh (v21.set a1.toNat (As.mk ((gt v21 a1).Vg) ((gt v21 a1).C8) ((gt v21 a1).Sj) 0 ((gt v21 a1).Sk) ((gt v21 a1).Ee) ((gt v21 a1).Sl) ((gt v21 a1).Sm) ((gt v21 a1).Ay) ((gt v21 a1).Acv) ((gt v21 a1).Sn) ((gt v21 a1).F4) ((gt v21 a1).Fh))) fun v22=>(if(0:Int)≤a1∧a1<(v22.length:Int)then(Aqh (v22.set a1.toNat (As.mk ((gt v22 a1).Vg) ((gt v22 a1).C8) ((gt v22 a1).Sj) ((gt v22 a1).fUp) 0 ((gt v22 a1).Ee) ((gt v22 a1).Sl) ((gt v22 a1).Sm) ((gt v22 a1).Ay) ((gt v22 a1).Acv) ((gt v22 a1).Sn) ((gt v22 a1).F4) ((gt v22 a1).Fh))) fun v23=>(if(0:Int)≤a1∧a1<(v23.length:Int)then(Aqh (v23.set a1.toNat (As.mk ((gt v23 a1).Vg) ((gt v23 a1).C8) ((gt v23 a1).Sj) ((gt v23 a1).fUp) ((gt v23 a1).Sk) ((gt v23 a1).Ee) 0 ((gt v23 a1).Sm) ((gt v23 a1).Ay) ((gt v23 a1).Acv) ((gt v23 a1).Sn) ((gt v23 a1).F4) ((gt v23 a1).Fh))) fun v24=>(if(0:Int)≤a1∧a1<(v24.length:Int)then(Aqh (v24.set a1.toNat (As.mk ((gt v24 a1).Vg) ((gt v24 a1).C8) ((gt v24 a1).Sj) ((gt v24 a1).fUp) ((gt v24 a1).Sk) ((gt v24 a1).Ee) ((gt v24 a1).Sl) 0 ((gt v24 a1).Ay) ((gt v24 a1).Acv) ((gt v24 a1).Sn) ((gt v24 a1).F4) ((gt v24 a1).Fh))) fun v25=>some v25)else none))else none))else none))else none)
def Aru (K:Nat)(a0:List As)(a1:Int)(v5:List As)(v6:Int)(v7:Int)(v8:Int)(v9:Int)(v10:Int)(v11:Int)(v12:Int)(v13:Int)(v14:List Int)(v15:Int)(v16:Int)(v17:List Bc)(v18:List Int):Option ((List As)):=((Ad6 K a0 v12).bind fun r19=>(bif r19 then(if(0:Int)≤(An4 .i64 v12 1)∧(An4 .i64 v12 1)<(v5.length:Int)then(Aqh (v5.set (An4 .i64 v12 1).toNat (As.mk ((gt v5 (An4 .i64 v12 1)).Vg) ((gt v5 (An4 .i64 v12 1)).C8) ((gt v5 (An4 .i64 v12 1)).Sj) ((gt v5 (An4 .i64 v12 1)).fUp) ((gt v5 (An4 .i64 v12 1)).Sk) ((gt v5 (An4 .i64 v12 1)).Ee) ((gt v5 (An4 .i64 v12 1)).Sl) v13 ((gt v5 (An4 .i64 v12 1)).Ay) ((gt v5 (An4 .i64 v12 1)).Acv) ((gt v5 (An4 .i64 v12 1)).Sn) ((gt v5 (An4 .i64 v12 1)).F4) ((gt v5 (An4 .i64 v12 1)).Fh))) fun v20=>(At6 K a1 v20))else none)else(At6 K a1 v5)))
def Aqp (K:Nat)(a0:List As)(a1:Int)(r1:(List As))(v27:Bool)(v28:Int)(v29:Int)(v30:Int)(v31:Int)(v32:Int)(v33:Int)(v34:Int)(v35:Int)(v36:List Int)(v37:Int)(v38:Int)(v39:List Bc)(v40:List Int):Option ((List As)):=(bif v27 then(if(0:Int)≤(An4 .i64 v31 1)∧(An4 .i64 v31 1)<(r1.length:Int)then(Aqh (r1.set (An4 .i64 v31 1).toNat (As.mk ((gt r1 (An4 .i64 v31 1)).Vg) ((gt r1 (An4 .i64 v31 1)).C8) ((gt r1 (An4 .i64 v31 1)).Sj) ((gt r1 (An4 .i64 v31 1)).fUp) ((gt r1 (An4 .i64 v31 1)).Sk) v34 ((gt r1 (An4 .i64 v31 1)).Sl) ((gt r1 (An4 .i64 v31 1)).Sm) ((gt r1 (An4 .i64 v31 1)).Ay) ((gt r1 (An4 .i64 v31 1)).Acv) ((gt r1 (An4 .i64 v31 1)).Sn) ((gt r1 (An4 .i64 v31 1)).F4) ((gt r1 (An4 .i64 v31 1)).Fh))) fun v41=>(Aru K a0 a1 v41 v28 v29 v30 v31 v32 v33 v34 v35 v36 v37 v38 v39 v40))else none)else(Aru K a0 a1 r1 v28 v29 v30 v31 v32 v33 v34 v35 v36 v37 v38 v39 v40))
def Azj (K:Nat)(a0:List As)(a1:Int):Option ((List As)):=((Att K a0).bind fun r1=>((Ad6 K a0 (An3 .i64 a1 1)).bind fun r2=>(bif (!r2)then some r1 else(if(0:Int)≤a1∧a1<(a0.length:Int)then((Ad6 K a0 ((gt a0 a1).Sm)).bind fun r3=>(bif r3 then(if(0:Int)≤(An4 .i64 ((gt a0 a1).Sm) 1)∧(An4 .i64 ((gt a0 a1).Sm) 1)<(r1.length:Int)then(Aqh (r1.set (An4 .i64 ((gt a0 a1).Sm) 1).toNat (As.mk ((gt r1 (An4 .i64 ((gt a0 a1).Sm) 1)).Vg) ((gt r1 (An4 .i64 ((gt a0 a1).Sm) 1)).C8) ((gt r1 (An4 .i64 ((gt a0 a1).Sm) 1)).Sj) ((gt r1 (An4 .i64 ((gt a0 a1).Sm) 1)).fUp) ((gt r1 (An4 .i64 ((gt a0 a1).Sm) 1)).Sk) ((gt r1 (An4 .i64 ((gt a0 a1).Sm) 1)).Ee) ((gt a0 a1).Sl) ((gt r1 (An4 .i64 ((gt a0 a1).Sm) 1)).Sm) ((gt r1 (An4 .i64 ((gt a0 a1).Sm) 1)).Ay) ((gt r1 (An4 .i64 ((gt a0 a1).Sm) 1)).Acv) ((gt r1 (An4 .i64 ((gt a0 a1).Sm) 1)).Sn) ((gt r1 (An4 .i64 ((gt a0 a1).Sm) 1)).F4) ((gt r1 (An4 .i64 ((gt a0 a1).Sm) 1)).Fh))) fun v4=>(Aru K a0 a1 v4 ((gt a0 a1).Vg) ((gt a0 a1).C8) ((gt a0 a1).Sj) ((gt a0 a1).fUp) ((gt a0 a1).Sk) ((gt a0 a1).Ee) ((gt a0 a1).Sl) ((gt a0 a1).Sm) ((gt a0 a1).Ay) ((gt a0 a1).Acv) ((gt a0 a1).Sn) ((gt a0 a1).F4) ((gt a0 a1).Fh)))else none)else(bif (((gt a0 a1).Sm)==0)then((Ad6 K a0 ((gt a0 a1).fUp)).bind fun r26=>(bif r26 then(if(0:Int)≤(An4 .i64 ((gt a0 a1).fUp) 1)∧(An4 .i64 ((gt a0 a1).fUp) 1)<(a0.length:Int)then(Aqp K a0 a1 r1 (((gt a0 (An4 .i64 ((gt a0 a1).fUp) 1)).Ee)==(An3 .i64 a1 1)) ((gt a0 a1).Vg) ((gt a0 a1).C8) ((gt a0 a1).Sj) ((gt a0 a1).fUp) ((gt a0 a1).Sk) ((gt a0 a1).Ee) ((gt a0 a1).Sl) ((gt a0 a1).Sm) ((gt a0 a1).Ay) ((gt a0 a1).Acv) ((gt a0 a1).Sn) ((gt a0 a1).F4) ((gt a0 a1).Fh))else none)else(Aqp K a0 a1 r1 false ((gt a0 a1).Vg) ((gt a0 a1).C8) ((gt a0 a1).Sj) ((gt a0 a1).fUp) ((gt a0 a1).Sk) ((gt a0 a1).Ee) ((gt a0 a1).Sl) ((gt a0 a1).Sm) ((gt a0 a1).Ay) ((gt a0 a1).Acv) ((gt a0 a1).Sn) ((gt a0 a1).F4) ((gt a0 a1).Fh))))else(Aqp K a0 a1 r1 false ((gt a0 a1).Vg) ((gt a0 a1).C8) ((gt a0 a1).Sj) ((gt a0 a1).fUp) ((gt a0 a1).Sk) ((gt a0 a1).Ee) ((gt a0 a1).Sl) ((gt a0 a1).Sm) ((gt a0 a1).Ay) ((gt a0 a1).Acv) ((gt a0 a1).Sn) ((gt a0 a1).F4) ((gt a0 a1).Fh)))))else none))))
def Bo6:=fd Tryz.func162 ⟨[.v 29,.v 3],[.n 29 true],false⟩ (gC (Bfn K) (gC (A6m K) gN)) [35,36,40,41,42] [31,63,499]
def B0a:Ei:=⟨[(1,.v 2),(5,.o 1005 50 true)],[]⟩
def B0b:Ei:=⟨[(0,.v 29),(1,.v 2),(5,.o 1005 50 true),(6,.p 106)],[(106,.box [.v 2,.v 2,.v 2,.v 2,.v 2,.v 2,.v 2,.v 2,.v 26,.v 2,.v 2,.v 48,.v 26])]⟩
def B0c:Ei:=⟨[(0,.v 29),(1,.v 2),(5,.o 1005 50 true),(6,.p 106),(32,.v 4)],[(106,.box [.v 2,.v 2,.v 2,.v 2,.v 2,.v 2,.v 2,.v 2,.v 26,.v 2,.v 2,.v 48,.v 26])]⟩
def Bo7:=jn (Bo6 K) 63 B0a [] (At6 K) kN
def Bfq:=jn (Bo6 K) 31 B0b [] (Aru K) (kC (Bo7 K) kN)
def Bjz:=jn (Bo6 K) 499 B0c [] (Aqp K) (kC (Bfq K) kN)
def Bxq:=ct (Bo6 K) (Azj K) (kC (Bfq K) (kC (Bjz K) kN))
def Aw1 (K:Nat)(a0:C4)(a1:Int):Option (C4):=(if(0:Int)≤a1∧a1<(a0.fL.length:Int)then(if(0:Int)≤a1∧a1<(a0.fL.length:Int)then((Asv K (gt a0.fL a1) (An3 .i64 a1 1)).bind fun r1=>(if(0:Int)≤a1∧a1<(a0.fL.length:Int)then((Aqy K a0 ((gt a0.fL a1).Ay)).bind fun r2=>((Azj K r2.fL a1).bind fun r3=>(if(0:Int)≤a1∧a1<(r3.length:Int)then(if(0:Int)≤a1∧a1<(r3.length:Int)then((Azz K (gt r3 a1)).bind fun r4=>(if(0:Int)≤a1∧a1<(r3.length:Int)then(if(r2.fQ++([r1]:List Az)).length*72≤140737488355328∧(r2.fQ++([r1]:List Az)).length≤maxLen then some (C4.mk r2.fC r2.fP (r3.set a1.toNat r4) (r2.fQ++([r1]:List Az)) r2.Acw)else none)else none))else none)else none)))else none))else none)else none)
def Bxr:=ct (fd Tryz.func82 ⟨[.b 32 false,.v 3],[],false⟩ (gC (Bjj K) (gC (Bji K) (gC (Bxq K) (gC (Bqv K) gN)))) [] [] [(0,[.take 1 9 5025,.opn 5025 (.tmp 1),.takeE 5025 11 41611,.takeE 5025 12 41612]),(1,[.put 1,.take 1 9 5025]),(2,[.take 1 9 5025,.frz 5025]),(3,[.opn 3031 (.tmp 1),.takeE 3031 11 41995,.takeE 3031 12 41996]),(4,[.take 1 10 5026,.frz 20448,.frz 20449])] [(23,[.put 1])]) (Aw1 K)
def Ayb (K:Nat)(a0:Az):Option (Az):=(if(([]:List Int)++a0.Fh).length*8≤140737488355328∧(([]:List Int)++a0.Fh).length≤maxLen then(if(([]:List Int)++a0.Ay).length*8≤140737488355328∧(([]:List Int)++a0.Ay).length≤maxLen then some (Az.mk a0.Bk a0.Ee (([]:List Int)++a0.Fh) (([]:List Int)++a0.Ay) a0.Wv)else none)else none)
def Bxs:=ct (fd Tryz.func159 ⟨[.v 52],[.n 52 true],true⟩ gN) (Ayb K)
def Apx (K:Nat):Nat->Int->Int->Int->Int->Int->Int->Int->(List Int)->(List Int)->(List Int)->(List As)->(List Az)->(List Int)->C4->Int->Int->Int->Int->Int->Int->(List Int)->(List Int)->(List Int)->(List As)->(List Az)->(List Int)->Option (C4)
 |0,_,_,_,_,_,_,_,_,_,_,_,_,_,_,_,_,_,_,_,_,_,_,_,_,_,_=>none
 |n1+1,v3,v4,v5,v6,v7,v8,v9,v10,v11,v12,v13,v14,v15,v16,v17,v18,v19,v20,v21,v22,v23,v24,v25,v26,v27,v28=>(bif (decide (v3<(v27.length:Int)))then(if(0:Int)≤v3∧v3<(v27.length:Int)then((Ayb K (gt v27 v3)).bind fun r29=>(if(v14++[r29]).length*72≤140737488355328∧(v14++[r29]).length≤maxLen then(Apx K n1 (An3 .i64 v3 1) v4 v5 v6 v7 v8 v9 v10 v11 v12 v13 (v14++[r29]) v15 v16 v17 v18 v19 v20 v21 v22 v23 v24 v25 v26 v27 v28)else none))else none)else(if(([]:List Int)++v28).length*8≤140737488355328∧(([]:List Int)++v28).length≤maxLen then some (C4.mk (D9.mk v4 v5 v6 v7 v8 v9) (Dm.mk v10 v11 v12) v13 v14 (([]:List Int)++v28))else none))
def Ap8 (K:Nat)(a0:C4):Option (C4):=((Aqx K a0.fP).bind fun r1=>((Att K a0.fL).bind fun r2=>(Apx K K 0 a0.fC.Ay a0.fC.G6 a0.fC.E5 a0.fC.Gs a0.fC.E6 a0.fC.G7 r1.N5 r1.Vg r1.N6 r2 ([]:List Az) a0.Acw (C4.mk (D9.mk 0 0 0 0 0 0) (Dm.mk [] [] []) [] [] []) a0.fC.Ay a0.fC.G6 a0.fC.E5 a0.fC.Gs a0.fC.E6 a0.fC.G7 a0.fP.N5 a0.fP.Vg a0.fP.N6 a0.fL a0.fQ a0.Acw)))
def Bxt:=fd Tryz.func80 ⟨[.v 32],[.n 32 true],false⟩ (gC (Bfl K) (gC (Bfn K) (gC (Bxs K) gN))) [] [] [(9,[.take 103 10 6658]),(11,[.take 103 6 6654,.take 103 7 6655,.take 103 8 6656,.take 103 9 6657,.take 103 10 6658])] [(33,[.put 3033])]
def B0d:Ei:=⟨[(1,.p 101),(2,.p 102),(3,.p 103),(4,.v 2)],[(103,.box [.v 2,.v 2,.v 2,.v 2,.v 2,.v 2,.T 5 true,.T 3 true,.T 3 true,.T 50 true,.T 52 true,.v 26]),(102,.st 32 true),(101,.box [.v 2,.v 2,.v 2,.v 2,.v 2,.v 2,.v 22,.v 26,.v 26,.v 29,.v 30,.v 26])]⟩
def Bj0:=lp (Bxt K) 506 B0d [] (Apx K) (fun n=>kN)
def Bbs:=ct (Bxt K) (Ap8 K) (kC (Bj0 K K) kN)
def Ap7 (K:Nat)(a0:List As)(a1:Int):Option (Bool):=(bif (a1==0)then some true else((Ad6 K a0 a1).bind fun r1=>(bif r1 then(if(0:Int)≤(An4 .i64 a1 1)∧(An4 .i64 a1 1)<(a0.length:Int)then some (((gt a0 (An4 .i64 a1 1)).Vg)==1)else none)else some false)))
def Bxu:=ct (fd Tryz.func256 ⟨[.v 29,.v 3],[.v 4],true⟩ (gC (A6m K) gN) [6,7,10,11]) (Ap7 K)
def As3 (K:Nat)(a0:List As)(a1:Int):Option (Bool):=((Axt K a0 a1).bind fun r19=>(bif (decide ((r19.length:Int)≤4))then(if(0:Int)≤(An4 .i64 (r19.length:Int) 1)∧(An4 .i64 (r19.length:Int) 1)<(r19.length:Int)then((Ar1 K a0 (gt r19 (An4 .i64 (r19.length:Int) 1))).bind fun r20=>some (!r20))else none)else some false))
def Au9 (K:Nat)(a0:List As)(a1:Int)(v8:Int)(v12:Int):Option (Bool):=(bif (v12==0)then((Ar1 K a0 a1).bind fun r18=>(bif r18 then(if(0:Int)≤(An4 .i64 v8 1)∧(An4 .i64 v8 1)<(a0.length:Int)then(bif (((gt a0 (An4 .i64 v8 1)).Ee) != (An3 .i64 a1 1))then some false else(As3 K a0 a1))else none)else(As3 K a0 a1)))else(As3 K a0 a1))
def Ava (K:Nat)(a0:List As)(a1:Int)(v8:Int)(v12:Int):Option (Bool):=(bif (v12 != 0)then(if(0:Int)≤(An4 .i64 v12 1)∧(An4 .i64 v12 1)<(a0.length:Int)then(bif (((gt a0 (An4 .i64 v12 1)).Sl) != (An3 .i64 a1 1))then some false else(Au9 K a0 a1 v8 v12))else none)else(Au9 K a0 a1 v8 v12))
def Avb (K:Nat)(a0:List As)(a1:Int)(v8:Int)(v9:Int)(v11:Int)(v12:Int):Option (Bool):=(bif (v11 != 0)then(if(0:Int)≤(An4 .i64 v11 1)∧(An4 .i64 v11 1)<(a0.length:Int)then(bif (((gt a0 (An4 .i64 v11 1)).Sm) != (An3 .i64 a1 1))then some false else(bif (((gt a0 (An4 .i64 v11 1)).fUp) != v8)then some false else(bif (((gt a0 (An4 .i64 v11 1)).Sk) != v9)then some false else(Ava K a0 a1 v8 v12))))else none)else(Ava K a0 a1 v8 v12))
def Avc (K:Nat)(a0:List As)(a1:Int)(v5:Int)(v6:Int)(v7:Int)(v8:Int)(v9:Int)(v10:Int)(v11:Int)(v12:Int)(v13:List Int)(v14:Int)(v15:Int)(v16:List Bc)(v17:List Int):Option (Bool):=(bif (v10 != 0)then(if(0:Int)≤(An4 .i64 v10 1)∧(An4 .i64 v10 1)<(a0.length:Int)then(bif (((gt a0 (An4 .i64 v10 1)).Sm) != 0)then some false else(bif (((gt a0 (An4 .i64 v10 1)).fUp) != (An3 .i64 a1 1))then some false else(bif (((gt a0 (An4 .i64 v10 1)).Sk) != v7)then some false else(Avb K a0 a1 v8 v9 v11 v12))))else none)else(Avb K a0 a1 v8 v9 v11 v12))
def A0l (K:Nat)(a0:List As)(a1:Int):Option (Bool):=(if(0:Int)≤a1∧a1<(a0.length:Int)then(bif (((gt a0 a1).fUp) != 0)then((Ad6 K a0 ((gt a0 a1).fUp)).bind fun r1=>(bif r1 then((Ap7 K a0 ((gt a0 a1).Ee)).bind fun r2=>(bif r2 then((Ap7 K a0 ((gt a0 a1).Sl)).bind fun r3=>(bif r3 then((Ap7 K a0 ((gt a0 a1).Sm)).bind fun r4=>(bif (!r4)then some false else(Avc K a0 a1 ((gt a0 a1).Vg) ((gt a0 a1).C8) ((gt a0 a1).Sj) ((gt a0 a1).fUp) ((gt a0 a1).Sk) ((gt a0 a1).Ee) ((gt a0 a1).Sl) ((gt a0 a1).Sm) ((gt a0 a1).Ay) ((gt a0 a1).Acv) ((gt a0 a1).Sn) ((gt a0 a1).F4) ((gt a0 a1).Fh))))else some false))else some false))else some false))else((Ap7 K a0 ((gt a0 a1).Ee)).bind fun r21=>(bif r21 then((Ap7 K a0 ((gt a0 a1).Sl)).bind fun r22=>(bif r22 then((Ap7 K a0 ((gt a0 a1).Sm)).bind fun r23=>(bif (!r23)then some false else(Avc K a0 a1 ((gt a0 a1).Vg) ((gt a0 a1).C8) ((gt a0 a1).Sj) ((gt a0 a1).fUp) ((gt a0 a1).Sk) ((gt a0 a1).Ee) ((gt a0 a1).Sl) ((gt a0 a1).Sm) ((gt a0 a1).Ay) ((gt a0 a1).Acv) ((gt a0 a1).Sn) ((gt a0 a1).F4) ((gt a0 a1).Fh))))else some false))else some false)))else none)
def Bg1:=fd Tryz.func193 ⟨[.v 29,.v 3],[.v 4],true⟩ (gC (Bi1 K) (gC (Bi2 K) (gC (A6m K) (gC (Bxu K) gN)))) [15,16,20,21,22,23,27,28,29,30,34,35,36,37,55,56,61,62,63,83,84,89,90,91,100,101,115,116,119,120,121,138,139] [7,15,31,63,127]
def B0e:Ei:=⟨[(0,.v 29),(1,.v 2)],[]⟩
def Bbt:Ei:=⟨[(0,.v 29),(1,.v 2),(5,.p 105)],[(105,.box [.v 2,.v 2,.v 2,.v 2,.v 2,.v 2,.v 2,.v 2,.v 26,.v 2,.v 2,.v 48,.v 26])]⟩
def Bj1:=jn (Bg1 K) 127 B0e [] (As3 K) kN
def Bo8:=jn (Bg1 K) 63 Bbt [] (fun a b _ _ _ f _ _ _ j _ _ _ _ _=>Au9 K a b f j) (kC (Bj1 K) kN)
def Bo9:=jn (Bg1 K) 31 Bbt [] (fun a b _ _ _ f _ _ _ j _ _ _ _ _=>Ava K a b f j) (kC (Bo8 K) kN)
def Bpa:=jn (Bg1 K) 15 Bbt [] (fun a b _ _ _ f g _ i j _ _ _ _ _=>Avb K a b f g i j) (kC (Bo9 K) kN)
def Bsl:=jn (Bg1 K) 7 Bbt [] (Avc K) (kC (Bpa K) kN)
def Bxv:=ct (Bg1 K) (A0l K) (kC (Bsl K) kN)
def Aw2 (K:Nat)(v1:Int)(C1:Int->Option (Bool)):Option (Bool):=(C1 (An3 .i64 v1 1))
def Apo (K:Nat)(a0:List As):Nat->Int->Option (Bool)
 |0,_=>none
 |n1+1,v1=>(bif (decide (v1<(a0.length:Int)))then(if(0:Int)≤v1∧v1<(a0.length:Int)then(bif (((gt a0 v1).Vg)==1)then((A0l K a0 v1).bind fun r2=>(bif (!r2)then some false else(Aw2 K v1 (Apo K a0 n1))))else(Aw2 K v1 (Apo K a0 n1)))else none)else some true)
def Azk (K:Nat)(a0:List As):Option (Bool):=(Apo K a0 K 0)
def Bsm:=fd Tryz.func99 ⟨[.v 29],[.v 4],true⟩ (gC (Bxv K) gN) [15,16] [105]
def Bj2:=fun(C26:CT Bjm _)=>jn (Bsm K) 105 Bjm [(26,ar Bjm C26)] (fun a b=>Aw2 K b (C26 a)) kN
def Bpb:=lp (Bsm K) 26 Bjm [] (fun n a=>Apo K a n) (fun n=>(kC (Bj2 K _) kN))
def Bxw:=ct (Bsm K) (Azk K) (kC (Bpb K K) kN)
def Avv (K:Nat)(v2:Int)(v3:List Int)(v4:List Int)(v5:List Int)(C1:Int->Int->(List Int)->(List Int)->(List Int)->Option (Int))(v6:Int):Option (Int):=(C1 v6 (An3 .i64 v2 1) v3 v4 v5)
def Aop (K:Nat)(a1:Int):Nat->Int->Int->(List Int)->(List Int)->(List Int)->Option (Int)
 |0,_,_,_,_,_=>none
 |n1+1,v1,v2,v3,v4,v5=>(bif (decide (v2<(v4.length:Int)))then(if(0:Int)≤v2∧v2<(v4.length:Int)then(bif ((gt v4 v2)==a1)then(Avv K v2 v3 v4 v5 (Aop K a1 n1) (An3 .i64 v1 1))else(Avv K v2 v3 v4 v5 (Aop K a1 n1) v1))else none)else some v1)
def Ayc (K:Nat)(a0:Dm)(a1:Int):Option (Int):=(Aop K a1 K 0 0 a0.N5 a0.Vg a0.N6)
def Bsn:=fd Tryz.func201 ⟨[.v 28,.v 3],[.v 3],true⟩ gN [] [233]
def Bpc:Ei:=⟨[(1,.v 2),(2,.p 102),(5,.v 2),(6,.v 2)],[(102,.box [.v 22,.v 26,.v 26])]⟩
def Bj3:=fun(C58:CT Bpc _)=>jn Bsn 233 Bpc [(58,ar Bpc C58)] (fun a b c d e f=>Avv K c d e f (C58 a) b) kN
def Bpd:=lp Bsn 58 Bpc [] (fun n a=>Aop K a n) (fun n=>(kC (Bj3 K _) kN))
def Bxx:=ct Bsn (Ayc K) (kC (Bpd K K) kN)
def As4 (K:Nat)(a0:List As)(a1:Int):Option (Bool):=(if(0:Int)≤a1∧a1<(a0.length:Int)then(bif (((gt a0 a1).Vg)==1)then(if(0:Int)≤a1∧a1<(a0.length:Int)then(bif (((gt a0 a1).fUp) != 0)then((Ar1 K a0 a1).bind fun r1=>some (!r1))else some false)else none)else some false)else none)
def Bq2:=ct (fd Tryz.func200 ⟨[.v 29,.v 3],[.v 4],true⟩ (gC (Bi2 K) gN) [10,11,17,18,19]) (As4 K)
def At7 (K:Nat)(a0:List As):Nat->Int->(List Int)->Option ((List Int))
 |0,_,_=>none
 |n1+1,v1,v2=>((Ad6 K a0 v1).bind fun r3=>(bif r3 then(bif (decide ((v2.length:Int)<(a0.length:Int)))then(if(v2++([(An4 .i64 v1 1)]:List Int)).length*8≤140737488355328∧(v2++([(An4 .i64 v1 1)]:List Int)).length≤maxLen then(if(0:Int)≤(An4 .i64 v1 1)∧(An4 .i64 v1 1)<(a0.length:Int)then(At7 K a0 n1 ((gt a0 (An4 .i64 v1 1)).Sl) (v2++([(An4 .i64 v1 1)]:List Int)))else none)else none)else some v2)else some v2))
def Awk (K:Nat)(a0:List As)(a1:Int):Option ((List Int)):=(At7 K a0 K a1 ([]:List Int))
def Bxy:=fd Tryz.func199 ⟨[.v 29,.v 3],[.n 26 true],true⟩ (gC (A6m K) gN) [9,10]
def Bpe:=lp (Bxy K) 28 h_4 [] (fun n a=>At7 K a n) (fun n=>kN)
def Bq3:=ct (Bxy K) (Awk K) (kC (Bpe K K) kN)
def Ant (K:Nat)(v4:Int)(v15:List Az)(v20:List Int)(v21:Int)(C3:(List Int)->Int->Option (Bool)):Nat->Int->Option (Bool)
 |0,_=>none
 |n5+1,v22=>(if(0:Int)≤v4∧v4<(v15.length:Int)then(bif (decide (v22<(((gt v15 v4).Ay).length:Int)))then(if(0:Int)≤v21∧v21<(v15.length:Int)then(if(0:Int)≤v4∧v4<(v15.length:Int)then(if(0:Int)≤v22∧v22<(((gt v15 v4).Ay).length:Int)then((Ap5 K ((gt v15 v21).Ay) (gt ((gt v15 v4).Ay) v22)).bind fun r23=>(bif r23 then some false else(Ant K v4 v15 v20 v21 C3 n5 (An3 .i64 v22 1))))else none)else none)else none)else(C3 v20 (An3 .i64 v21 1)))else none)
def Ari (K:Nat)(v4:Int)(v15:List Az)(v20:List Int)(v21:Int)(C3:(List Int)->Int->Option (Bool)):Option (Bool):=(Ant K v4 v15 v20 v21 (C3) K 0)
def Ak5 (K:Nat)(v4:Int)(v5:Int)(v6:Int)(v7:Int)(v8:Int)(v9:Int)(v10:Int)(v11:List Int)(v12:List Int)(v13:List Int)(v14:List As)(v15:List Az)(v16:List Int)(v17:Int)(v18:Int)(C1:Int->Int->(List Int)->Int->Int->Int->Int->Int->Int->Int->(List Int)->(List Int)->(List Int)->(List As)->(List Az)->(List Int)->Option (Bool)):Nat->(List Int)->Int->Option (Bool)
 |0,_,_=>none
 |n3+1,v20,v21=>(bif (decide (v21<v4))then(if(0:Int)≤v4∧v4<(v15.length:Int)then(bif (((gt v15 v4).Bk) != 0)then(if(0:Int)≤v21∧v21<(v15.length:Int)then(if(0:Int)≤v4∧v4<(v15.length:Int)then(bif (((gt v15 v21).Bk)==((gt v15 v4).Bk))then some false else(Ari K v4 v15 v20 v21 (Ak5 K v4 v5 v6 v7 v8 v9 v10 v11 v12 v13 v14 v15 v16 v17 v18 C1 n3)))else none)else none)else(Ari K v4 v15 v20 v21 (Ak5 K v4 v5 v6 v7 v8 v9 v10 v11 v12 v13 v14 v15 v16 v17 v18 C1 n3)))else none)else(C1 v17 v18 v20 (An3 .i64 v4 1) v5 v6 v7 v8 v9 v10 v11 v12 v13 v14 v15 v16))
def Arj (K:Nat)(v3:List Int)(v4:Int)(v5:Int)(v6:Int)(v7:Int)(v8:Int)(v9:Int)(v10:Int)(v11:List Int)(v12:List Int)(v13:List Int)(v14:List As)(v15:List Az)(v16:List Int)(C1:Int->Int->(List Int)->Int->Int->Int->Int->Int->Int->Int->(List Int)->(List Int)->(List Int)->(List As)->(List Az)->(List Int)->Option (Bool))(v17:Int)(v18:Int):Option (Bool):=(if(0:Int)≤v4∧v4<(v15.length:Int)then((Awk K v14 ((gt v15 v4).Ee)).bind fun r19=>(if(v3++r19).length*8≤140737488355328∧(v3++r19).length≤maxLen then(Ak5 K v4 v5 v6 v7 v8 v9 v10 v11 v12 v13 v14 v15 v16 v17 v18 (C1) K (v3++r19) 0)else none))else none)
def Atu (K:Nat)(v25:Int)(C6:Int->Int->Option (Bool))(v27:Int):Option (Bool):=(C6 v27 (An3 .i64 v25 1))
def Ak6 (K:Nat)(v1:Int)(v2:Int)(v3:List Int)(v11:List Int)(v12:List Int)(v13:List Int)(v14:List As)(v24:Int):Nat->Int->Option (Bool)
 |0,_=>none
 |n8+1,v28=>(bif (decide (v28<(v3.length:Int)))then(if(0:Int)≤0∧0≤v28∧v28≤(v3.length:Int)then(if(0:Int)≤v28∧v28<(v3.length:Int)then((Ap5 K ((v3.drop (0:Int).toNat).take (v28 - 0).toNat) (gt v3 v28)).bind fun r29=>(bif r29 then some false else(Ak6 K v1 v2 v3 v11 v12 v13 v14 v24 n8 (An3 .i64 v28 1))))else none)else none)else((Ayc K (Dm.mk v11 v12 v13) 2).bind fun r30=>(bif (v1==r30)then((Aqc K v14 2).bind fun r31=>(bif (v2==r31)then some ((v3.length:Int)==v24)else some false))else some false)))
def Ag6 (K:Nat)(v1:Int)(v2:Int)(v3:List Int)(v11:List Int)(v12:List Int)(v13:List Int)(v14:List As):Nat->Int->Int->Option (Bool)
 |0,_,_=>none
 |n6+1,v24,v25=>(bif (decide (v25<(v14.length:Int)))then((As4 K v14 v25).bind fun r26=>(bif r26 then(Atu K v25 (Ag6 K v1 v2 v3 v11 v12 v13 v14 n6) (An3 .i64 v24 1))else(Atu K v25 (Ag6 K v1 v2 v3 v11 v12 v13 v14 n6) v24)))else(Ak6 K v1 v2 v3 v11 v12 v13 v14 v24 K 0))
def Ae0 (K:Nat):Nat->Int->Int->(List Int)->Int->Int->Int->Int->Int->Int->Int->(List Int)->(List Int)->(List Int)->(List As)->(List Az)->(List Int)->Option (Bool)
 |0,_,_,_,_,_,_,_,_,_,_,_,_,_,_,_,_=>none
 |n1+1,v1,v2,v3,v4,v5,v6,v7,v8,v9,v10,v11,v12,v13,v14,v15,v16=>(bif (decide (v4<(v15.length:Int)))then(if(0:Int)≤v4∧v4<(v15.length:Int)then(if(0:Int)≤v4∧v4<(v15.length:Int)then(bif (((gt v15 v4).Bk) != 0)then(Arj K v3 v4 v5 v6 v7 v8 v9 v10 v11 v12 v13 v14 v15 v16 (Ae0 K n1) (An3 .i64 v1 (((gt v15 v4).Ay).length:Int)) (An3 .i64 v2 1))else(Arj K v3 v4 v5 v6 v7 v8 v9 v10 v11 v12 v13 v14 v15 v16 (Ae0 K n1) (An3 .i64 v1 (((gt v15 v4).Ay).length:Int)) v2))else none)else none)else(Ag6 K v1 v2 v3 v11 v12 v13 v14 K 0 0))
def Avw (K:Nat)(a0:C4):Option (Bool):=(Ae0 K K 0 0 ([]:List Int) 0 a0.fC.Ay a0.fC.G6 a0.fC.E5 a0.fC.Gs a0.fC.E6 a0.fC.G7 a0.fP.N5 a0.fP.Vg a0.fP.N6 a0.fL a0.fQ a0.Acw)
def A91:=fd Tryz.func107 ⟨[.v 32],[.v 4],true⟩ (gC (Bbr K) (gC (Bq3 K) (gC (Bq2 K) (gC (Bxx K) (gC (Bqr K) gN))))) [60,61,134,135,140,141,142] [4073,8009,2050532]
def B0f:Ei:=⟨[(1,.p 101),(3,.v 2),(4,.v 2),(5,.o 1005 3 true),(6,.v 2),(7,.v 2),(8,.v 2)],[(101,.box [.v 2,.v 2,.v 2,.v 2,.v 2,.v 2,.v 22,.v 26,.v 26,.v 29,.v 30,.v 26])]⟩
def Bg2:Ei:=⟨[(1,.p 101),(3,.v 2),(4,.v 2),(5,.o 1005 3 true),(6,.v 2),(7,.v 2)],[(101,.box [.v 2,.v 2,.v 2,.v 2,.v 2,.v 2,.v 22,.v 26,.v 26,.v 29,.v 30,.v 26])]⟩
def A8t:Ei:=⟨[(1,.p 101),(3,.v 2),(4,.v 2),(5,.o 1005 3 true),(6,.v 2)],[(101,.box [.v 2,.v 2,.v 2,.v 2,.v 2,.v 2,.v 22,.v 26,.v 26,.v 29,.v 30,.v 26])]⟩
def Bpf:Ei:=⟨[(1,.p 101),(3,.v 2),(4,.v 2),(5,.o 1005 3 true),(9,.v 2),(10,.v 2)],[(101,.box [.v 2,.v 2,.v 2,.v 2,.v 2,.v 2,.v 22,.v 26,.v 26,.v 29,.v 30,.v 26])]⟩
def B0g:Ei:=⟨[(1,.p 101),(3,.v 2),(4,.v 2),(5,.o 1005 3 true),(9,.v 2),(11,.v 2)],[(101,.box [.v 2,.v 2,.v 2,.v 2,.v 2,.v 2,.v 22,.v 26,.v 26,.v 29,.v 30,.v 26])]⟩
def A8u:=fun(C250:CT A8t _) (C128158:CT Bg2 _)=>lp (A91 K) 16404262 B0f [(128158,ar Bg2 C128158),(250,ar A8t C250)] (fun n a b c d e f g h i j k l m o p q r s=>Ant K d r c e (fun v20 v21=>C128158 a b v20 d v21 g h i j k l m o p q r s) n f) (fun n=>kN)
def A92:=fun(C250:CT A8t _) (C128158:CT Bg2 _)=>jn (A91 K) 2050532 Bg2 [(128158,ar Bg2 C128158),(250,ar A8t C250)] (fun a b c d e f g h i j k l m o p q r=>Ari K d q c e (fun v20 v21=>C128158 a b v20 d v21 f g h i j k l m o p q r)) (kC (A8u K _ _ K) kN)
def Bbu:=fun(C250:CT A8t _)=>lp (A91 K) 128158 Bg2 [(250,ar A8t C250)] (fun n a b c d e f g h i j k l m o p q r=>Ak5 K d f g h i j k l m o p q r a b C250 n c e) (fun n=>(kC (A92 K _ _) kN))
def Bg3:=fun(C250:CT A8t _)=>jn (A91 K) 8009 A8t [(250,ar A8t C250)] (fun a b c d e f g h i j k l m o p q=>Arj K c d e f g h i j k l m o p q C250 a b) (kC (Bbu K _ K) kN)
def Bg4:=fun(C1018:CT Bpf _)=>jn (A91 K) 4073 Bpf [(1018,ar Bpf C1018)] (fun a b c d e f g h i j k l m o p q r=>Atu K e (fun v24 v25=>C1018 a b c v24 v25 f g h i j k l m o p q r) d) kN
def Bg5:=lp (A91 K) 2042 B0g [] (fun n a b c d e _ _ _ _ _ _ l m o p _ _=>Ak6 K a b c l m o p d n e) (fun n=>kN)
def Bg6:=lp (A91 K) 1018 Bpf [] (fun n a b c d e _ _ _ _ _ _ l m o p _ _=>Ag6 K a b c l m o p n d e) (fun n=>(kC (Bg4 K _) (kC (up (Bg5 K K)) kN)))
def Bj4:=lp (A91 K) 250 A8t [] (Ae0 K) (fun n=>(kC (Bg3 K _) (kC (up (Bg6 K K)) kN)))
def Bxz:=ct (A91 K) (Avw K) (kC (Bj4 K K) kN)
def Aoq (K:Nat)(a0:D9)(v8:List Int):Nat->Int->Option (Bool)
 |0,_=>none
 |n3+1,v12=>(bif (decide (v12<(v8.length:Int)))then(if(0:Int)≤v12∧v12<(v8.length:Int)then((Gy K (gt v8 v12) 0 (An4 .i64 a0.Ay 1)).bind fun r13=>(bif r13 then(if(0:Int)≤0∧0≤v12∧v12≤(v8.length:Int)then(if(0:Int)≤v12∧v12<(v8.length:Int)then((Ap5 K ((v8.drop (0:Int).toNat).take (v12 - 0).toNat) (gt v8 v12)).bind fun r14=>(bif r14 then some false else(Aoq K a0 v8 n3 (An3 .i64 v12 1))))else none)else none)else some false))else none)else some true)
def Apy (K:Nat)(a0:D9)(v7:List Int)(v8:List Int):Nat->Int->Option (Bool)
 |0,_=>none
 |n2+1,v10=>(bif (decide (v10<(v7.length:Int)))then(if(0:Int)≤v10∧v10<(v7.length:Int)then((Gy K (gt v7 v10) 0 255).bind fun r11=>(bif (!r11)then some false else(Apy K a0 v7 v8 n2 (An3 .i64 v10 1))))else none)else(Aoq K a0 v8 K 0))
def Avx (K:Nat)(a0:D9)(v5:Int)(v6:Int)(v7:List Int)(v8:List Int)(v9:Int):Option (Bool):=(Apy K a0 v7 v8 K 0)
def Ayd (K:Nat)(a0:D9)(a1:Az):Option (Bool):=((Anf K a0).bind fun r1=>(bif r1 then((Gy K a1.Bk 0 a0.E5).bind fun r2=>(bif r2 then((Gy K a1.Ee 0 a0.E5).bind fun r3=>(bif r3 then(bif (decide ((a1.Fh.length:Int)>6))then some false else((Gy K a1.Wv 0 (An4 .i64 a0.G6 1)).bind fun r4=>(bif r4 then(bif ((a1.Ay.length:Int)==0)then(bif (a1.Wv != 0)then some false else(Avx K a0 a1.Bk a1.Ee a1.Fh a1.Ay a1.Wv))else(Avx K a0 a1.Bk a1.Ee a1.Fh a1.Ay a1.Wv))else some false)))else some false))else some false))else some false))
def Bpg:=fd Tryz.func198 ⟨[.v 25,.v 52],[.v 4],true⟩ (gC (Bbo K) (gC (A13 K) (gC (Bbr K) gN))) [8,9,10,15,16,17,18,23,24,25,26,30,31,32,38,39,40,41,45,46,81,82,83] [3]
def B0h:Ei:=⟨[(2,.p 102),(3,.p 103),(6,.v 2)],[(103,.box [.v 2,.v 2,.v 26,.v 26,.v 2]),(102,.st 25 true)]⟩
def B0i:Ei:=⟨[(2,.p 102),(3,.p 103),(5,.v 2)],[(103,.box [.v 2,.v 2,.v 26,.v 26,.v 2]),(102,.st 25 true)]⟩
def B0j:Ei:=⟨[(2,.p 102),(3,.p 103)],[(103,.box [.v 2,.v 2,.v 26,.v 26,.v 2]),(102,.st 25 true)]⟩
def Bj5:=lp (Bpg K) 122 B0h [] (fun n a _ _ _ e _ g=>Aoq K g e n a) (fun n=>kN)
def Bph:=lp (Bpg K) 58 B0i [] (fun n a _ _ d e _ g=>Apy K g d e n a) (fun n=>(kC (up (Bj5 K K)) kN))
def Bso:=jn (Bpg K) 3 B0j [] (fun a b c d e f=>Avx K f a b c d e) (kC (Bph K K) kN)
def Bx0:=ct (Bpg K) (Ayd K) (kC (Bso K) kN)
def Aqe (K:Nat)(v17:List As)(r21:(List Int)):Nat->Int->Option (Bool)
 |0,_=>none
 |n4+1,v22=>(bif (decide (v22<(r21.length:Int)))then(if(0:Int)≤v22∧v22<(r21.length:Int)then((As4 K v17 (gt r21 v22)).bind fun r23=>(bif (!r23)then some false else(Aqe K v17 r21 n4 (An3 .i64 v22 1))))else none)else some true)
def Apa (K:Nat)(v4:Int)(v17:List As):Option (Bool):=((Awk K v17 v4).bind fun r21=>(Aqe K v17 r21 K 0))
def Ar5 (K:Nat)(v3:Int)(v4:Int)(v17:List As):Option (Bool):=(bif (v3 != 0)then(if(0:Int)≤(An4 .i64 v3 1)∧(An4 .i64 v3 1)<(v17.length:Int)then(bif (((gt v17 (An4 .i64 v3 1)).Vg) != 2)then some false else(bif (v4 != 0)then(if(0:Int)≤(An4 .i64 v4 1)∧(An4 .i64 v4 1)<(v17.length:Int)then(bif (((gt v17 (An4 .i64 v4 1)).Sm) != 0)then some false else(Apa K v4 v17))else none)else(Apa K v4 v17)))else none)else(bif (v4 != 0)then(if(0:Int)≤(An4 .i64 v4 1)∧(An4 .i64 v4 1)<(v17.length:Int)then(bif (((gt v17 (An4 .i64 v4 1)).Sm) != 0)then some false else(Apa K v4 v17))else none)else(Apa K v4 v17)))
def Apb (K:Nat):Nat->Int->Int->Int->(List Int)->(List Int)->Int->Int->Int->Int->Int->Int->Int->(List Int)->(List Int)->(List Int)->(List As)->(List Az)->(List Int)->Option (Bool)
 |0,_,_,_,_,_,_,_,_,_,_,_,_,_,_,_,_,_,_=>none
 |n1+1,v2,v3,v4,v5,v6,v7,v8,v9,v10,v11,v12,v13,v14,v15,v16,v17,v18,v19=>(bif (decide (v2<(v6.length:Int)))then(if(0:Int)≤v2∧v2<(v6.length:Int)then(if(0:Int)≤(gt v6 v2)∧(gt v6 v2)<(v15.length:Int)then(bif ((gt v15 (gt v6 v2)) != 2)then some false else(Apb K n1 (An3 .i64 v2 1) v3 v4 v5 v6 v7 v8 v9 v10 v11 v12 v13 v14 v15 v16 v17 v18 v19))else none)else none)else(bif (decide ((v6.length:Int)>0))then(if(0:Int)≤0∧0<(v6.length:Int)then(if(0:Int)≤0∧0<(v6.length:Int)then(if(0:Int)≤(An5 .i64 (gt v6 0) v9)∧(An5 .i64 (gt v6 0) v9)≤(An3 .i64 (An5 .i64 (gt v6 0) v9) v7)∧(An3 .i64 (An5 .i64 (gt v6 0) v9) v7)≤(v14.length:Int)then((Asd K ((v14.drop (An5 .i64 (gt v6 0) v9).toNat).take ((An3 .i64 (An5 .i64 (gt v6 0) v9) v7) - (An5 .i64 (gt v6 0) v9)).toNat)).bind fun r20=>(bif (!r20)then some false else(Ar5 K v3 v4 v17)))else none)else none)else none)else(Ar5 K v3 v4 v17)))
def Aw3 (K:Nat)(a0:C4)(a1:Int):Option (Bool):=(if(0:Int)≤a1∧a1<(a0.fQ.length:Int)then((Ayd K a0.fC (gt a0.fQ a1)).bind fun r1=>(bif (!r1)then some false else(Apb K K 0 ((gt a0.fQ a1).Bk) ((gt a0.fQ a1).Ee) ((gt a0.fQ a1).Fh) ((gt a0.fQ a1).Ay) ((gt a0.fQ a1).Wv) a0.fC.Ay a0.fC.G6 a0.fC.E5 a0.fC.Gs a0.fC.E6 a0.fC.G7 a0.fP.N5 a0.fP.Vg a0.fP.N6 a0.fL a0.fQ a0.Acw)))else none)
def Bj6:=fd Tryz.func105 ⟨[.v 32,.v 3],[.v 4],true⟩ (gC (Bfm K) (gC (Bx0 K) (gC (Bq3 K) (gC (Bq2 K) gN)))) [40,41,70,71,80,81,82,85,86] [31,63]
def B0k:Ei:=⟨[(2,.p 102),(7,.v 26),(8,.v 2)],[(102,.box [.v 2,.v 2,.v 2,.v 2,.v 2,.v 2,.v 22,.v 26,.v 26,.v 29,.v 30,.v 26])]⟩
def Bx1:Ei:=⟨[(2,.p 102),(5,.p 105)],[(105,.box [.v 2,.v 2,.v 26,.v 26,.v 2]),(102,.box [.v 2,.v 2,.v 2,.v 2,.v 2,.v 2,.v 22,.v 26,.v 26,.v 29,.v 30,.v 26])]⟩
def B0l:Ei:=⟨[(2,.p 102),(5,.p 105),(6,.v 2)],[(105,.box [.v 2,.v 2,.v 26,.v 26,.v 2]),(102,.box [.v 2,.v 2,.v 2,.v 2,.v 2,.v 2,.v 22,.v 26,.v 26,.v 29,.v 30,.v 26])]⟩
def Bg7:=lp (Bj6 K) 2042 B0k [] (fun n a b _ _ _ _ _ _ _ _ _ l _ _=>Aqe K l a n b) (fun n=>kN)
def Bpi:=jn (Bj6 K) 63 Bx1 [] (fun _ b _ _ _ _ _ _ _ _ _ _ _ _ p _ _=>Apa K b p) (kC (Bg7 K K) kN)
def Bpj:=jn (Bj6 K) 31 Bx1 [] (fun a b _ _ _ _ _ _ _ _ _ _ _ _ p _ _=>Ar5 K a b p) (kC (Bpi K) kN)
def Bj7:=lp (Bj6 K) 122 B0l [] (Apb K) (fun n=>(kC (up (Bpj K)) kN))
def Bx2:=ct (Bj6 K) (Aw3 K) (kC (Bj7 K K) kN)
def Anu (K:Nat)(a1:Int)(r1:(List Int)):Nat->Int->Int->Int->Int->Int->Int->Int->(List Int)->(List Int)->(List Int)->(List As)->(List Az)->(List Int)->Option (Bool)
 |0,_,_,_,_,_,_,_,_,_,_,_,_,_=>none
 |n1+1,v2,v3,v4,v5,v6,v7,v8,v9,v10,v11,v12,v13,v14=>(bif (decide (v2<(r1.length:Int)))then(if(0:Int)≤a1∧a1<(v12.length:Int)then(if(0:Int)≤v2∧v2<(r1.length:Int)then((Ap5 K ((gt v12 a1).Ay) (gt r1 v2)).bind fun r15=>(bif (!r15)then some false else(Anu K a1 r1 n1 (An3 .i64 v2 1) v3 v4 v5 v6 v7 v8 v9 v10 v11 v12 v13 v14)))else none)else none)else(if(0:Int)≤a1∧a1<(v12.length:Int)then some ((r1.length:Int)==(((gt v12 a1).Ay).length:Int))else none))
def Avy (K:Nat)(a0:C4)(a1:Int):Option (Bool):=((Au5 K a0.fP a1).bind fun r1=>(Anu K a1 r1 K 0 a0.fC.Ay a0.fC.G6 a0.fC.E5 a0.fC.Gs a0.fC.E6 a0.fC.G7 a0.fP.N5 a0.fP.Vg a0.fP.N6 a0.fL a0.fQ a0.Acw))
def Bx3:=fd Tryz.func101 ⟨[.v 32,.v 3],[.v 4],true⟩ (gC (Bqq K) (gC (Bbr K) gN))
def B0m:Ei:=⟨[(1,.v 2),(2,.p 102),(5,.v 26),(6,.v 2)],[(102,.box [.v 2,.v 2,.v 2,.v 2,.v 2,.v 2,.v 22,.v 26,.v 26,.v 29,.v 30,.v 26])]⟩
def Bpk:=lp (Bx3 K) 58 B0m [] (fun n a b=>Anu K a b n) (fun n=>kN)
def Bx4:=ct (Bx3 K) (Avy K) (kC (Bpk K K) kN)
def Apc (K:Nat)(a0:D9)(v1:Int)(v2:Int)(v3:Int)(v4:Int)(v5:Int)(v6:Int)(v7:Int)(v8:Int)(v9:Int)(v10:List Int)(v11:Int)(v12:Int)(v13:List Bc)(v14:List Int)(C1:Int->Int->Int->Int->Int->Int->Int->Int->Int->(List Int)->Int->Int->(List Bc)->(List Int)->Option (Bool)):Nat->Int->Bc->Option (Bool)
 |0,_,_=>none
 |n2+1,v16,v17=>(if a0.G6≠(0:Int)then(bif (decide (v16≤(Ali .i64 (An4 .i64 (An3 .i64 v17.fAt v17.Ajk) 1) a0.G6)))then((Ap5 K v10 v16).bind fun r18=>(bif (!r18)then some false else(Apc K a0 v1 v2 v3 v4 v5 v6 v7 v8 v9 v10 v11 v12 v13 v14 C1 n2 (An3 .i64 v16 1) v17)))else(C1 (An3 .i64 v1 1) v2 v3 v4 v5 v6 v7 v8 v9 v10 v11 v12 v13 v14))else none)
def Akx (K:Nat)(a0:D9):Nat->Int->Int->Int->Int->Int->Int->Int->Int->Int->(List Int)->Int->Int->(List Bc)->(List Int)->Option (Bool)
 |0,_,_,_,_,_,_,_,_,_,_,_,_,_,_=>none
 |n1+1,v1,v2,v3,v4,v5,v6,v7,v8,v9,v10,v11,v12,v13,v14=>(bif (decide (v1<(v13.length:Int)))then(if(0:Int)≤v1∧v1<(v13.length:Int)then((Asz K a0 (gt v13 v1)).bind fun r15=>(bif (!r15)then some false else(if a0.G6≠(0:Int)then(Apc K a0 v1 v2 v3 v4 v5 v6 v7 v8 v9 v10 v11 v12 v13 v14 (Akx K a0 n1) K (Ali .i64 ((gt v13 v1).fAt) a0.G6) (gt v13 v1))else none)))else none)else some true)
def Aw4 (K:Nat)(a0:D9)(a1:As):Option (Bool):=(Akx K a0 K 0 a1.Vg a1.C8 a1.Sj a1.fUp a1.Sk a1.Ee a1.Sl a1.Sm a1.Ay a1.Acv a1.Sn a1.F4 a1.Fh)
def Bsp:=fd Tryz.func102 ⟨[.v 25,.v 50],[.v 4],true⟩ (gC (Bbr K) (gC (Bqy K) gN))
def B0n:Ei:=⟨[(2,.p 102),(3,.p 103),(5,.v 2),(6,.p 106),(7,.v 2)],[(106,.st 132 true),(103,.box [.v 2,.v 2,.v 2,.v 2,.v 2,.v 2,.v 2,.v 2,.v 26,.v 2,.v 2,.v 48,.v 26]),(102,.st 25 true)]⟩
def Bg8:=fun(C26:CT Bjp _)=>lp (Bsp K) 6734 B0n [(26,ar Bjp C26)] (fun n a b c d e f g h i j k l m o p q r=>Apc K r a d e f g h i j k l m o p q (fun v1 v2 v3 v4 v5 v6 v7 v8 v9 v10 v11 v12 v13 v14=>C26 v1 v2 v3 v4 v5 v6 v7 v8 v9 v10 v11 v12 v13 v14 r) n b c) (fun n=>kN)
def Bpl:=lp (Bsp K) 26 Bjp [] (fun n a b c d e f g h i j k l m o p=>Akx K p n a b c d e f g h i j k l m o) (fun n=>(kC (Bg8 K _ K) kN))
def Bx5:=ct (Bsp K) (Aw4 K) (kC (Bpl K K) kN)
def A0m (K:Nat)(a0:Bc)(a1:Bc):Option (Bool):=(bif (decide (a0.Ajk<1))then some true else(bif (decide (a1.Ajk<1))then some true else(bif (decide (a0.fAt≤a1.fAt))then(bif (decide ((An4 .i64 a1.fAt a0.fAt)≥a0.Ajk))then some true else some (decide ((An4 .i64 a1.fAt a0.fAt)<0)))else(bif (decide ((An4 .i64 a0.fAt a1.fAt)≥a1.Ajk))then some true else some (decide ((An4 .i64 a0.fAt a1.fAt)<0))))))
def Bx6:=ct (fd Tryz.func197 ⟨[.v 132,.v 132],[.v 4],true⟩ gN [7,8,25,26,41,42]) (A0m K)
def Apd (K:Nat)(a0:List Bc)(v1:Int)(C1:Int->Option (Bool)):Nat->Int->Option (Bool)
 |0,_=>none
 |n2+1,v2=>(bif (decide (v2<v1))then(if(0:Int)≤v1∧v1<(a0.length:Int)then(if(0:Int)≤v2∧v2<(a0.length:Int)then((A0m K (gt a0 v1) (gt a0 v2)).bind fun r3=>(bif (!r3)then some false else(Apd K a0 v1 C1 n2 (An3 .i64 v2 1))))else none)else none)else(C1 (An3 .i64 v1 1)))
def Aky (K:Nat)(a0:List Bc):Nat->Int->Option (Bool)
 |0,_=>none
 |n1+1,v1=>(bif (decide (v1<(a0.length:Int)))then(Apd K a0 v1 (Aky K a0 n1) K 0)else some true)
def Aw5 (K:Nat)(a0:List Bc):Option (Bool):=(Aky K a0 K 0)
def Bj8:=fd Tryz.func103 ⟨[.v 48],[.v 4],true⟩ (gC (Bx6 K) gN)
def B0o:Ei:=⟨[(0,.v 48),(3,.v 2),(4,.v 2)],[]⟩
def Bsq:Ei:=⟨[(0,.v 48),(3,.v 2)],[]⟩
def Bdk:=fun(C26:CT Bsq _)=>lp (Bj8 K) 1682 B0o [(26,ar Bsq C26)] (fun n a b=>Apd K a b (C26 a) n) (fun n=>kN)
def Bj9:=lp (Bj8 K) 26 Bsq [] (fun n a=>Aky K a n) (fun n=>(kC (Bdk K _ K) kN))
def Bsr:=ct (Bj8 K) (Aw5 K) (kC (Bj9 K K) kN)
def Auu (K:Nat)(v1:Int)(v2:Int)(v3:Int)(v4:Int)(v5:Int)(v6:Int)(v7:Int)(v8:Int)(v9:Int)(v10:Int)(v11:Int)(v12:List Int)(v13:Int)(v14:Int)(v15:List Bc)(v16:List Int)(v17:Int)(v18:Int)(v19:Int)(v20:Int)(v21:Int)(v22:Int)(v23:List Int)(v24:List Int)(v25:List Int)(v26:List As)(v27:List Az)(v28:List Int)(C1:Int->Int->Int->Int->Int->Int->Int->Int->Int->Int->Int->(List Int)->Int->Int->(List Bc)->(List Int)->Int->Int->Int->Int->Int->Int->(List Int)->(List Int)->(List Int)->(List As)->(List Az)->(List Int)->Option (Bool)):Option (Bool):=(C1 v1 v2 (An3 .i64 v3 1) v4 v5 v6 v7 v8 v9 v10 v11 v12 v13 v14 v15 v16 v17 v18 v19 v20 v21 v22 v23 v24 v25 v26 v27 v28)
def Anb (K:Nat):Nat->Int->Int->Int->Int->Int->Int->Int->Int->Int->Int->Int->(List Int)->Int->Int->(List Bc)->(List Int)->Int->Int->Int->Int->Int->Int->(List Int)->(List Int)->(List Int)->(List As)->(List Az)->(List Int)->Option (Bool)
 |0,_,_,_,_,_,_,_,_,_,_,_,_,_,_,_,_,_,_,_,_,_,_,_,_,_,_,_,_=>none
 |n1+1,v1,v2,v3,v4,v5,v6,v7,v8,v9,v10,v11,v12,v13,v14,v15,v16,v17,v18,v19,v20,v21,v22,v23,v24,v25,v26,v27,v28=>(bif (decide (v3<(v15.length:Int)))then(if(0:Int)≤v3∧v3<(v15.length:Int)then(bif (decide (((gt v15 v3).fAt)<v2))then(bif (decide ((An3 .i64 ((gt v15 v3).fAt) ((gt v15 v3).Ajk))>v1))then some false else(Auu K v1 v2 v3 v4 v5 v6 v7 v8 v9 v10 v11 v12 v13 v14 v15 v16 v17 v18 v19 v20 v21 v22 v23 v24 v25 v26 v27 v28 (Anb K n1)))else(Auu K v1 v2 v3 v4 v5 v6 v7 v8 v9 v10 v11 v12 v13 v14 v15 v16 v17 v18 v19 v20 v21 v22 v23 v24 v25 v26 v27 v28 (Anb K n1)))else none)else(if(0:Int)≤v1∧v1≤v2∧v2≤(v23.length:Int)then((Asd K ((v23.drop v1.toNat).take (v2 - v1).toNat)).bind fun r29=>some r29)else none))
def Aw6 (K:Nat)(a0:C4)(a1:Int):Option (Bool):=(if(0:Int)≤a1∧a1<(a0.fL.length:Int)then(bif (((gt a0.fL a1).Acv)==0)then some true else(bif (decide ((An3 .i64 (An5 .i64 (An4 .i64 ((gt a0.fL a1).Acv) 1) a0.fC.G6) ((gt a0.fL a1).Sn))≥(An5 .i64 ((gt a0.fL a1).Acv) a0.fC.G6)))then some true else(Anb K K (An3 .i64 (An5 .i64 (An4 .i64 ((gt a0.fL a1).Acv) 1) a0.fC.G6) ((gt a0.fL a1).Sn)) (An5 .i64 ((gt a0.fL a1).Acv) a0.fC.G6) 0 ((gt a0.fL a1).Vg) ((gt a0.fL a1).C8) ((gt a0.fL a1).Sj) ((gt a0.fL a1).fUp) ((gt a0.fL a1).Sk) ((gt a0.fL a1).Ee) ((gt a0.fL a1).Sl) ((gt a0.fL a1).Sm) ((gt a0.fL a1).Ay) ((gt a0.fL a1).Acv) ((gt a0.fL a1).Sn) ((gt a0.fL a1).F4) ((gt a0.fL a1).Fh) a0.fC.Ay a0.fC.G6 a0.fC.E5 a0.fC.Gs a0.fC.E6 a0.fC.G7 a0.fP.N5 a0.fP.Vg a0.fP.N6 a0.fL a0.fQ a0.Acw)))else none)
def Bka:=fd Tryz.func104 ⟨[.v 32,.v 3],[.v 4],true⟩ (gC (Bfm K) gN) [33,34,54,55] [2025]
def Bpm:Ei:=⟨[(2,.p 102),(5,.p 105),(6,.v 2),(7,.v 2),(8,.v 2)],[(105,.box [.v 2,.v 2,.v 2,.v 2,.v 2,.v 2,.v 2,.v 2,.v 26,.v 2,.v 2,.v 48,.v 26]),(102,.box [.v 2,.v 2,.v 2,.v 2,.v 2,.v 2,.v 22,.v 26,.v 26,.v 29,.v 30,.v 26])]⟩
def Bdl:=fun(C506:CT Bpm _)=>jn (Bka K) 2025 Bpm [(506,ar Bpm C506)] (fun a b c d e f g h i j k l m o p q r s t u v w x y z a1 b1 c1=>Auu K a b c d e f g h i j k l m o p q r s t u v w x y z a1 b1 c1 C506) kN
def Bg9:=lp (Bka K) 506 Bpm [] (Anb K) (fun n=>(kC (Bdl K _) kN))
def Bss:=ct (Bka K) (Aw6 K) (kC (Bg9 K K) kN)
def Aor (K:Nat)(v4:Int)(v5:Int)(v6:Int)(v7:Int)(v8:Int)(v9:Int)(v10:List Int)(v11:List Int)(v12:List Int)(v13:List As)(v14:List Az)(v15:List Int):Nat->Int->Option (Bool)
 |0,_=>none
 |n3+1,v23=>(bif (decide (v23<(v15.length:Int)))then(if(0:Int)≤v23∧v23<(v15.length:Int)then((Gy K (gt v15 v23) 0 255).bind fun r24=>(bif (!r24)then some false else(Aor K v4 v5 v6 v7 v8 v9 v10 v11 v12 v13 v14 v15 n3 (An3 .i64 v23 1))))else none)else((Avw K (C4.mk (D9.mk v4 v5 v6 v7 v8 v9) (Dm.mk v10 v11 v12) v13 v14 v15)).bind fun r25=>some r25))
def Apz (K:Nat)(v4:Int)(v5:Int)(v6:Int)(v7:Int)(v8:Int)(v9:Int)(v10:List Int)(v11:List Int)(v12:List Int)(v13:List As)(v14:List Az)(v15:List Int):Nat->Int->Option (Bool)
 |0,_=>none
 |n2+1,v21=>(bif (decide (v21<(v14.length:Int)))then((Aw3 K (C4.mk (D9.mk v4 v5 v6 v7 v8 v9) (Dm.mk v10 v11 v12) v13 v14 v15) v21).bind fun r22=>(bif (!r22)then some false else(Apz K v4 v5 v6 v7 v8 v9 v10 v11 v12 v13 v14 v15 n2 (An3 .i64 v21 1))))else(Aor K v4 v5 v6 v7 v8 v9 v10 v11 v12 v13 v14 v15 K 0))
def Aos (K:Nat):Nat->Int->Int->Int->Int->Int->Int->Int->(List Int)->(List Int)->(List Int)->(List As)->(List Az)->(List Int)->Option (Bool)
 |0,_,_,_,_,_,_,_,_,_,_,_,_,_=>none
 |n1+1,v3,v4,v5,v6,v7,v8,v9,v10,v11,v12,v13,v14,v15=>(bif (decide (v3<(v13.length:Int)))then(if(0:Int)≤v3∧v3<(v13.length:Int)then((Ap6 K (D9.mk v4 v5 v6 v7 v8 v9) (gt v13 v3)).bind fun r16=>(bif r16 then((Avy K (C4.mk (D9.mk v4 v5 v6 v7 v8 v9) (Dm.mk v10 v11 v12) v13 v14 v15) v3).bind fun r17=>(bif r17 then(if(0:Int)≤v3∧v3<(v13.length:Int)then((Aw4 K (D9.mk v4 v5 v6 v7 v8 v9) (gt v13 v3)).bind fun r18=>(bif r18 then(if(0:Int)≤v3∧v3<(v13.length:Int)then((Aw5 K ((gt v13 v3).F4)).bind fun r19=>(bif r19 then((Aw6 K (C4.mk (D9.mk v4 v5 v6 v7 v8 v9) (Dm.mk v10 v11 v12) v13 v14 v15) v3).bind fun r20=>(bif (!r20)then some false else(Aos K n1 (An3 .i64 v3 1) v4 v5 v6 v7 v8 v9 v10 v11 v12 v13 v14 v15)))else some false))else none)else some false))else none)else some false))else some false))else none)else(Apz K v4 v5 v6 v7 v8 v9 v10 v11 v12 v13 v14 v15 K 0))
def Ark (K:Nat)(a0:C4):Option (Bool):=((Awg K a0.fC a0.fP).bind fun r1=>(bif r1 then(bif ((a0.fL.length:Int) != a0.fC.E5)then some false else((Azk K a0.fL).bind fun r2=>(bif (!r2)then some false else(Aos K K 0 a0.fC.Ay a0.fC.G6 a0.fC.E5 a0.fC.Gs a0.fC.E6 a0.fC.G7 a0.fP.N5 a0.fP.Vg a0.fP.N6 a0.fL a0.fQ a0.Acw))))else some false))
def Bfr:=fd Tryz.func26 ⟨[.v 32],[.v 4],true⟩ (gC (Bqu K) (gC (Bxw K) (gC (A9e K) (gC (Bx4 K) (gC (Bx5 K) (gC (Bsr K) (gC (Bss K) (gC (Bx2 K) (gC (A13 K) (gC (Bxz K) gN)))))))))) [10,11,12,19,20,21,41,42,43,46,47,48,49,57,58,59,60,67,68,69,70]
def B0p:Ei:=⟨[(1,.p 101),(5,.v 2)],[(101,.box [.v 2,.v 2,.v 2,.v 2,.v 2,.v 2,.v 22,.v 26,.v 26,.v 29,.v 30,.v 26])]⟩
def B0q:Ei:=⟨[(1,.p 101),(4,.v 2)],[(101,.box [.v 2,.v 2,.v 2,.v 2,.v 2,.v 2,.v 22,.v 26,.v 26,.v 29,.v 30,.v 26])]⟩
def B0r:Ei:=⟨[(1,.p 101),(3,.v 2)],[(101,.box [.v 2,.v 2,.v 2,.v 2,.v 2,.v 2,.v 22,.v 26,.v 26,.v 29,.v 30,.v 26])]⟩
def Bha:=lp (Bfr K) 250 B0p [] (fun n a b c d e f g h i j k l m=>Aor K b c d e f g h i j k l m n a) (fun n=>kN)
def Bhb:=lp (Bfr K) 122 B0q [] (fun n a b c d e f g h i j k l m=>Apz K b c d e f g h i j k l m n a) (fun n=>(kC (up (Bha K K)) kN))
def Bkb:=lp (Bfr K) 58 B0r [] (Aos K) (fun n=>(kC (up (Bhb K K)) kN))
def A93:=ct (Bfr K) (Ark K) (kC (Bkb K K) kN)
def Avz (K:Nat)(a0:Bq):Option (Bool):=((At3 K a0.fH).bind fun r1=>(bif r1 then(bif (decide (a0.Sj≥0))then some (decide (a0.fNo≥0))else some false)else some false))
def Bst:=ct (fd Tryz.func225 ⟨[.v 38],[.v 4],true⟩ (gC (Bqo K) gN) [5,6,9,10,11]) (Avz K)
def As5 (K:Nat)(a0:As)(a1:Bq):Option (Bc×Bool):=(bif (a0.Vg != 1)then some ((Bc.mk 0 0 0),false)else(bif (a0.Sj != a1.Sj)then some ((Bc.mk 0 0 0),false)else((Gy K a1.fNo 0 (An4 .i64 (a0.F4.length:Int) 1)).bind fun r1=>(bif (!r1)then some ((Bc.mk 0 0 0),false)else(if(0:Int)≤a1.fNo∧a1.fNo<(a0.F4.length:Int)then some ((gt a0.F4 a1.fNo),true)else none)))))
def Bsu:=ct (fd Tryz.func226 ⟨[.v 50,.v 38],[.v 132,.v 4],true⟩ (gC (A13 K) gN) [8,9,14,15,16]) (As5 K)
def Aow (K:Nat)(a0:C4)(a1:Bq):Option (Int×Bc×Int):=((Avz K a1).bind fun r1=>(bif (!r1)then some ((-1),(Bc.mk 0 0 0),1)else((Anl K a0 a1.fH).bind fun r2=>(bif (r2.2 != 0)then some ((-1),(Bc.mk 0 0 0),r2.2)else(if(0:Int)≤r2.1∧r2.1<(a0.fL.length:Int)then((As5 K (gt a0.fL r2.1) a1).bind fun r3=>(bif (!r3.2)then some ((-1),(Bc.mk 0 0 0),2)else some (r2.1,r3.1,0)))else none)))))
def Bdm:=ct (fd Tryz.func142 ⟨[.v 32,.v 38],[.v 3,.v 132,.v 3],true⟩ (gC (A9c K) (gC (Bst K) (gC (Bsu K) gN)))) (Aow K)
def Aye (K:Nat)(a0:Bc)(a1:Int)(a2:Int):Option (Bool):=(bif (decide (a1≥0))then(bif (decide (a2≥0))then(bif (decide (a1≤a0.Ajk))then(bif (decide (a2≤(An4 .i64 a0.Ajk a1)))then(bif (decide (a0.fAt<0))then some true else some (decide ((An3 .i64 a0.fAt a1)≥0)))else some false)else some false)else some false)else some false)
def Bkc:=ct (fd Tryz.func227 ⟨[.v 132,.v 3,.v 3],[.v 4],true⟩ gN [8,9,11,12,13,17,18,19,25,26,27,30,31]) (Aye K)
def Avd (K:Nat)(a0:List Int)(a1:Int)(a2:Int):Option (Bool):=(bif (decide (a1≥0))then(bif (decide (a2≥0))then(bif (decide (a1≤(a0.length:Int)))then some (decide (a2≤(An4 .i64 (a0.length:Int) a1)))else some false)else some false)else some false)
def Bkd:=ct (fd Tryz.func262 ⟨[.v 22,.v 3,.v 3],[.v 4],true⟩ gN [8,9,11,12,13,17,18,19]) (Avd K)
def A0n (K:Nat)(a0:List Int)(a1:Int)(a2:Int):Option ((List Int)×Bool):=((Avd K a0 a1 a2).bind fun r1=>(bif (!r1)then some (([]:List Int),false)else(if(0:Int)≤a1∧a1≤(An3 .i64 a1 a2)∧(An3 .i64 a1 a2)≤(a0.length:Int)then(if(([]:List Int)++((a0.drop a1.toNat).take ((An3 .i64 a1 a2) - a1).toNat)).length*1≤140737488355328∧(([]:List Int)++((a0.drop a1.toNat).take ((An3 .i64 a1 a2) - a1).toNat)).length≤maxLen then some ((([]:List Int)++((a0.drop a1.toNat).take ((An3 .i64 a1 a2) - a1).toNat)),true)else none)else none)))
def Bsv:=ct (fd Tryz.func229 ⟨[.v 22,.v 3,.v 3],[.n 22 true,.v 4],true⟩ (gC (Bkd K) gN)) (A0n K)
def Av0 (K:Nat)(a0:List Int)(a1:Bc)(a2:Int)(a3:Int):Option ((List Int)×Bool):=((Aye K a1 a2 a3).bind fun r1=>(bif (!r1)then some (([]:List Int),false)else((A0n K a0 (An3 .i64 a1.fAt a2) a3).bind fun r2=>some (r2.1,r2.2))))
def Bsw:=ct (fd Tryz.func144 ⟨[.v 22,.v 132,.v 3,.v 3],[.n 22 true,.v 4],true⟩ (gC (Bkc K) (gC (Bsv K) gN))) (Av0 K)
def Ato (K:Nat)(a0:C4)(a1:Bq)(a2:Int)(a3:Int):Option (C4×Es):=((Ap8 K a0).bind fun r1=>((Ark K a0).bind fun r2=>(bif (!r2)then some (r1,(Es.mk 1 (Am.mk 0 0) (Bq.mk (Am.mk 0 0) 0 0) [] 0 0 0))else((Aow K a0 a1).bind fun r3=>((Ao7 K a0 a1.fH).bind fun r4=>(bif (r3.2.2 != 0)then some (r1,(Es.mk r3.2.2 (Am.mk 0 0) (Bq.mk (Am.mk 0 0) 0 0) [] r4 0 0))else((Av0 K a0.fP.N5 r3.2.1 a2 a3).bind fun r5=>(bif (!r5.2)then some (r1,(Es.mk 7 (Am.mk 0 0) (Bq.mk (Am.mk 0 0) 0 0) [] r4 0 0))else some (r1,(Es.mk r3.2.2 (Am.mk 0 0) (Bq.mk (Am.mk 0 0) 0 0) r5.1 r4 0 0))))))))))
def Bdn:=ct (fd Tryz.func60 ⟨[.v 32,.v 38,.v 3,.v 3],[.n 32 true,.n 73 true],false⟩ (gC (A93 K) (gC (Bbs K) (gC (A7j K) (gC (Bdm K) (gC (Bsw K) gN))))) [] [] [(7,[.take 114 7 6831]),(11,[.take 114 7 6831])]) (Ato K)
def Ap9 (K:Nat)(a1:Int)(a2:List Int):Nat->(List Int)->Int->Option ((List Int)×Bool)
 |0,_,_=>none
 |n1+1,v2,v3=>(bif (decide (v3<(a2.length:Int)))then(if(0:Int)≤v3∧v3<(a2.length:Int)then(if(0:Int)≤(An3 .i64 a1 v3)∧(An3 .i64 a1 v3)<(v2.length:Int)then(Ap9 K a1 a2 n1 (v2.set (An3 .i64 a1 v3).toNat (gt a2 v3)) (An3 .i64 v3 1))else none)else none)else some (v2,true))
def A0o (K:Nat)(a0:List Int)(a1:Int)(a2:List Int):Option ((List Int)×Bool):=(if(([]:List Int)++a0).length*1≤140737488355328∧(([]:List Int)++a0).length≤maxLen then((Avd K a0 a1 (a2.length:Int)).bind fun r1=>(bif (!r1)then some ((([]:List Int)++a0),false)else(Ap9 K a1 a2 K (([]:List Int)++a0) 0)))else none)
def Bq4:=fd Tryz.func228 ⟨[.v 22,.v 3,.v 22],[.n 22 true,.v 4],true⟩ (gC (Bkd K) gN)
def B0s:Ei:=⟨[(1,.v 2),(2,.v 22),(8,.o 1008 5 true),(9,.v 2)],[]⟩
def Bhc:=lp (Bq4 K) 122 B0s [] (fun n a b=>Ap9 K a b n) (fun n=>kN)
def Bsx:=ct (Bq4 K) (A0o K) (kC (Bhc K K) kN)
def Auv (K:Nat)(a0:List Int)(a1:Bc)(a2:Int)(a3:List Int):Option ((List Int)×Bool):=((Aye K a1 a2 (a3.length:Int)).bind fun r1=>(bif (!r1)then(if(([]:List Int)++a0).length*1≤140737488355328∧(([]:List Int)++a0).length≤maxLen then some ((([]:List Int)++a0),false)else none)else((A0o K a0 (An3 .i64 a1.fAt a2) a3).bind fun r2=>some (r2.1,r2.2))))
def Bsy:=ct (fd Tryz.func143 ⟨[.v 22,.v 132,.v 3,.v 22],[.n 22 true,.v 4],true⟩ (gC (Bkc K) (gC (Bsx K) gN))) (Auv K)
def Atv (K:Nat)(a0:C4)(a1:Bq)(a2:Int)(a3:List Int):Option (C4×Es):=((Ap8 K a0).bind fun r1=>((Ark K a0).bind fun r2=>(bif (!r2)then some (r1,(Es.mk 1 (Am.mk 0 0) (Bq.mk (Am.mk 0 0) 0 0) [] 0 0 0))else((Aow K a0 a1).bind fun r3=>((Ao7 K a0 a1.fH).bind fun r4=>(bif (r3.2.2 != 0)then some (r1,(Es.mk r3.2.2 (Am.mk 0 0) (Bq.mk (Am.mk 0 0) 0 0) [] r4 0 0))else((Auv K a0.fP.N5 r3.2.1 a2 a3).bind fun r5=>(bif (!r5.2)then some (r1,(Es.mk 7 (Am.mk 0 0) (Bq.mk (Am.mk 0 0) 0 0) [] r4 0 0))else some ((C4.mk r1.fC (Dm.mk r5.1 r1.fP.Vg r1.fP.N6) r1.fL r1.fQ r1.Acw),(Es.mk r3.2.2 (Am.mk 0 0) (Bq.mk (Am.mk 0 0) 0 0) [] r4 0 0))))))))))
def Bke:=ct (fd Tryz.func58 ⟨[.v 32,.v 38,.v 3,.v 22],[.n 32 true,.n 73 true],false⟩ (gC (A93 K) (gC (Bbs K) (gC (A7j K) (gC (Bdm K) (gC (Bsy K) gN))))) [] [] [(7,[.take 114 7 6831]),(11,[.take 114 7 6831]),(13,[.take 114 7 6831])]) (Atv K)
def A0p (K:Nat)(v7:Es)(v10:C4):Option (C4×Es):=some (v10,v7)
def Ayf (K:Nat)(a2:Int)(r1:C4)(v6:Int)(v7:Es)(v8:Es)(v9:C4):Option (C4×Es):=(bif (v7.Wz==0)then(if(0:Int)≤v6∧v6<(r1.fL.length:Int)then(if(0:Int)≤v6∧v6<(r1.fL.length:Int)then(if(((gt r1.fL v6).Fh)++([a2]:List Int)).length*8≤140737488355328∧(((gt r1.fL v6).Fh)++([a2]:List Int)).length≤maxLen then(if(0:Int)≤v6∧v6<(r1.fL.length:Int)then(A0p K v7 (C4.mk r1.fC r1.fP (r1.fL.set v6.toNat (As.mk ((gt r1.fL v6).Vg) ((gt r1.fL v6).C8) ((gt r1.fL v6).Sj) ((gt r1.fL v6).fUp) ((gt r1.fL v6).Sk) ((gt r1.fL v6).Ee) ((gt r1.fL v6).Sl) ((gt r1.fL v6).Sm) ((gt r1.fL v6).Ay) ((gt r1.fL v6).Acv) ((gt r1.fL v6).Sn) ((gt r1.fL v6).F4) (((gt r1.fL v6).Fh)++([a2]:List Int)))) r1.fQ r1.Acw))else none)else none)else none)else none)else(A0p K v7 r1))
def A2y (K:Nat)(a0:C4)(a1:Am)(a2:Int):Option (C4×Es):=((Ap8 K a0).bind fun r1=>((Ark K a0).bind fun r2=>(bif r2 then((Gy K a2 0 255).bind fun r3=>(bif (!r3)then some (r1,(Es.mk 1 (Am.mk 0 0) (Bq.mk (Am.mk 0 0) 0 0) [] 0 0 0))else((Anl K a0 a1).bind fun r4=>((Ao7 K a0 a1).bind fun r5=>(bif (r4.2==0)then(if(0:Int)≤r4.1∧r4.1<(a0.fL.length:Int)then(bif (decide ((((gt a0.fL r4.1).Fh).length:Int)≥6))then(Ayf K a2 r1 r4.1 (Es.mk 8 (Am.mk 0 0) (Bq.mk (Am.mk 0 0) 0 0) [] r5 0 0) (Es.mk 0 (Am.mk 0 0) (Bq.mk (Am.mk 0 0) 0 0) [] 0 0 0) (C4.mk (D9.mk 0 0 0 0 0 0) (Dm.mk [] [] []) [] [] []))else(Ayf K a2 r1 r4.1 (Es.mk r4.2 (Am.mk 0 0) (Bq.mk (Am.mk 0 0) 0 0) [] r5 0 0) (Es.mk 0 (Am.mk 0 0) (Bq.mk (Am.mk 0 0) 0 0) [] 0 0 0) (C4.mk (D9.mk 0 0 0 0 0 0) (Dm.mk [] [] []) [] [] [])))else none)else(Ayf K a2 r1 r4.1 (Es.mk r4.2 (Am.mk 0 0) (Bq.mk (Am.mk 0 0) 0 0) [] r5 0 0) (Es.mk 0 (Am.mk 0 0) (Bq.mk (Am.mk 0 0) 0 0) [] 0 0 0) (C4.mk (D9.mk 0 0 0 0 0 0) (Dm.mk [] [] []) [] [] [])))))))else some (r1,(Es.mk 1 (Am.mk 0 0) (Bq.mk (Am.mk 0 0) 0 0) [] 0 0 0)))))
def Bkf:=fd Tryz.func49 ⟨[.v 32,.v 36,.v 3],[.n 32 true,.n 73 true],false⟩ (gC (A93 K) (gC (Bbs K) (gC (A13 K) (gC (A9c K) (gC (A7j K) gN))))) [15,16,17,36,37] [63,127] [(9,[.take 108 9 6737,.opn 6737 (.tmp 9),.takeE 6737 12 87180]),(10,[.take 108 6 6734,.take 108 7 6735,.take 108 8 6736,.take 108 9 6737,.take 108 10 6738,.take 108 11 6739,.take 111 7 6783])]
def B0t:Ei:=⟨[(6,.p 106),(7,.p 107),(8,.p 108),(11,.p 111)],[(111,.st 73 true),(108,.st 32 true),(107,.st 73 true),(106,.st 32 true)]⟩
def B0u:Ei:=⟨[(2,.v 2),(6,.p 106),(7,.p 107),(8,.p 108),(9,.v 2),(11,.p 111)],[(111,.st 73 true),(108,.st 32 true),(107,.st 73 true),(106,.st 32 true)]⟩
def Bhd:=jn (Bkf K) 127 B0t [] (fun a b _ _=>A0p K a b) kN
def Bkg:=jn (Bkf K) 63 B0u [] (fun a b c d=>Ayf K a d b c) (kC (Bhd K) kN)
def Bsz:=ct (Bkf K) (A2y K) (kC (Bkg K) kN)
def A08 (K:Nat)(a0:D9)(a1:As):Option (Int):=(bif (a1.Acv==0)then some 0 else((Ap6 K a0 a1).bind fun r1=>(bif (!r1)then some 0 else some (An4 .i64 a0.G6 a1.Sn))))
def Bs0:=ct (fd Tryz.func136 ⟨[.v 25,.v 50],[.v 3],true⟩ (gC (A9e K) gN) [7,8]) (A08 K)
def Ayg (K:Nat)(r1:C4)(v6:Es)(v7:Es)(v8:C4):Option (C4×Es):=some (r1,v6)
def A0q (K:Nat)(a0:C4)(a1:Am):Option (C4×Es):=((Ap8 K a0).bind fun r1=>((Ark K a0).bind fun r2=>(bif (!r2)then some (r1,(Es.mk 1 (Am.mk 0 0) (Bq.mk (Am.mk 0 0) 0 0) [] 0 0 0))else((Anl K a0 a1).bind fun r3=>((Ao7 K a0 a1).bind fun r4=>(bif (r3.2==0)then(if(0:Int)≤r3.1∧r3.1<(a0.fL.length:Int)then((A08 K a0.fC (gt a0.fL r3.1)).bind fun r5=>(Ayg K r1 (Es.mk r3.2 (Am.mk 0 0) (Bq.mk (Am.mk 0 0) 0 0) ([(IntKind.u8.wrap (((gt a0.fL r3.1).Ay).length:Int)),(IntKind.u8.wrap (((gt a0.fL r3.1).F4).length:Int)),(IntKind.u8.wrap (((gt a0.fL r3.1).Fh).length:Int)),(IntKind.u8.wrap r5)]:List Int) r4 0 0) (Es.mk 0 (Am.mk 0 0) (Bq.mk (Am.mk 0 0) 0 0) [] 0 0 0) (C4.mk (D9.mk 0 0 0 0 0 0) (Dm.mk [] [] []) [] [] [])))else none)else(Ayg K r1 (Es.mk r3.2 (Am.mk 0 0) (Bq.mk (Am.mk 0 0) 0 0) [] r4 0 0) (Es.mk 0 (Am.mk 0 0) (Bq.mk (Am.mk 0 0) 0 0) [] 0 0 0) (C4.mk (D9.mk 0 0 0 0 0 0) (Dm.mk [] [] []) [] [] []))))))))
def Bq5:=fd Tryz.func52 ⟨[.v 32,.v 36],[.n 32 true,.n 73 true],false⟩ (gC (A93 K) (gC (Bbs K) (gC (A9c K) (gC (A7j K) (gC (Bs0 K) gN))))) [] [63] [(9,[.take 106 6 6702,.take 106 7 6703,.take 106 8 6704,.take 106 9 6705,.take 106 10 6706,.take 106 11 6707,.take 109 7 6751])]
def B0v:Ei:=⟨[(4,.p 104),(5,.p 105),(6,.p 106),(9,.p 109)],[(109,.st 73 true),(106,.st 32 true),(105,.st 73 true),(104,.st 32 true)]⟩
def Bkh:=jn (Bq5 K) 63 B0v [] (fun a b=>Ayg K b a) kN
def Bs1:=ct (Bq5 K) (A0q K) (kC (Bkh K) kN)
def Azl (K:Nat)(a0:C4)(a1:Cm):Option (C4×Es):=(bif (a1.Ww==3)then((Ato K a0 a1.fR a1.fN a1.fM).bind fun r1=>some (r1.1,r1.2))else(bif (a1.Ww==4)then((Atv K a0 a1.fR a1.fN a1.fB).bind fun r2=>some (r2.1,r2.2))else(bif (a1.Ww==5)then((A2y K a0 a1.fH a1.fN).bind fun r3=>some (r3.1,r3.2))else(bif (a1.Ww==8)then((A0q K a0 a1.fH).bind fun r4=>some (r4.1,r4.2))else((Ap8 K a0).bind fun r5=>some (r5,(Es.mk 1 (Am.mk 0 0) (Bq.mk (Am.mk 0 0) 0 0) [] 0 0 0)))))))
def Bs2:=ct (fd Tryz.func266 ⟨[.v 32,.v 40],[.n 32 true,.n 73 true],false⟩ (gC (Bsz K) (gC (Bs1 K) (gC (Bke K) (gC (Bdn K) (gC (Bbs K) gN)))))) (Azl K)
def A09 (K:Nat)(v31:Int)(v32:Int)(v33:Int)(v34:Int)(v35:Int)(v36:Int)(v37:List Int)(v38:List Int)(v39:List Int)(v40:List As)(v41:List Az)(v42:List Int)(v43:Es):Option (Es×C4):=some (v43,(C4.mk (D9.mk v31 v32 v33 v34 v35 v36) (Dm.mk v37 v38 v39) v40 v41 v42))
def Ave (K:Nat)(v4:Bool)(v5:Int)(v6:Int)(v7:Int)(v8:Int)(v9:Int)(v10:Int)(v11:List Int)(v12:List Int)(v13:List Int)(v14:List As)(v15:List Az)(v16:List Int)(v17:Es)(v18:Int)(v19:Int)(v20:Int)(v21:Int)(v22:Int)(v23:Int)(v24:Int)(v25:Int)(v26:Int)(v27:List Int):Option (Es×C4):=(bif v4 then((Anl K (C4.mk (D9.mk v5 v6 v7 v8 v9 v10) (Dm.mk v11 v12 v13) v14 v15 v16) (Am.mk v19 v20)).bind fun r28=>((Ao7 K (C4.mk (D9.mk v5 v6 v7 v8 v9 v10) (Dm.mk v11 v12 v13) v14 v15 v16) (Am.mk v19 v20)).bind fun r29=>(bif (r28.2 != 0)then some ((Es.mk r28.2 (Am.mk 0 0) (Bq.mk (Am.mk 0 0) 0 0) [] r29 0 0),(C4.mk (D9.mk v5 v6 v7 v8 v9 v10) (Dm.mk v11 v12 v13) v14 v15 v16))else(bif (v18==6)then((Aut K (C4.mk (D9.mk v5 v6 v7 v8 v9 v10) (Dm.mk v11 v12 v13) v14 v15 v16) r28.1).bind fun r30=>(A09 K r30.fC.Ay r30.fC.G6 r30.fC.E5 r30.fC.Gs r30.fC.E6 r30.fC.G7 r30.fP.N5 r30.fP.Vg r30.fP.N6 r30.fL r30.fQ r30.Acw (Es.mk r28.2 (Am.mk 0 0) (Bq.mk (Am.mk 0 0) 0 0) [] r29 0 0)))else((Aw1 K (C4.mk (D9.mk v5 v6 v7 v8 v9 v10) (Dm.mk v11 v12 v13) v14 v15 v16) r28.1).bind fun r44=>(A09 K r44.fC.Ay r44.fC.G6 r44.fC.E5 r44.fC.Gs r44.fC.E6 r44.fC.G7 r44.fP.N5 r44.fP.Vg r44.fP.N6 r44.fL r44.fQ r44.Acw (Es.mk r28.2 (Am.mk 0 0) (Bq.mk (Am.mk 0 0) 0 0) [] r29 0 0)))))))else((Azl K (C4.mk (D9.mk v5 v6 v7 v8 v9 v10) (Dm.mk v11 v12 v13) v14 v15 v16) (Cm.mk v18 (Am.mk v19 v20) (Bq.mk (Am.mk v21 v22) v23 v24) v25 v26 v27)).bind fun r45=>some (r45.2,r45.1)))
def A0r (K:Nat)(a0:C4)(a1:Cm):Option (Es×C4):=(bif (a1.Ww==1)then((Ax8 K a0 a1.fH).bind fun r1=>some (r1.1,r1.2))else(bif (a1.Ww==2)then((Aw0 K a0 a1.fH a1.fN a1.fM).bind fun r2=>some (r2.1,r2.2))else(bif (a1.Ww==9)then((Au8 K a0 4000).bind fun r3=>some ((Es.mk 0 (Am.mk 0 0) (Bq.mk (Am.mk 0 0) 0 0) [] 0 0 r3.1),r3.2))else(bif (a1.Ww==6)then(Ave K (a1.Ww==6) a0.fC.Ay a0.fC.G6 a0.fC.E5 a0.fC.Gs a0.fC.E6 a0.fC.G7 a0.fP.N5 a0.fP.Vg a0.fP.N6 a0.fL a0.fQ a0.Acw (Es.mk 0 (Am.mk 0 0) (Bq.mk (Am.mk 0 0) 0 0) [] 0 0 0) a1.Ww a1.fH.Bk a1.fH.C8 a1.fR.fH.Bk a1.fR.fH.C8 a1.fR.Sj a1.fR.fNo a1.fN a1.fM a1.fB)else(Ave K (a1.Ww==7) a0.fC.Ay a0.fC.G6 a0.fC.E5 a0.fC.Gs a0.fC.E6 a0.fC.G7 a0.fP.N5 a0.fP.Vg a0.fP.N6 a0.fL a0.fQ a0.Acw (Es.mk 0 (Am.mk 0 0) (Bq.mk (Am.mk 0 0) 0 0) [] 0 0 0) a1.Ww a1.fH.Bk a1.fH.C8 a1.fR.fH.Bk a1.fR.fH.C8 a1.fR.Sj a1.fR.fNo a1.fN a1.fM a1.fB)))))
def Bki:=fd Tryz.func230 ⟨[.b 32 false,.v 40],[.v 73],false⟩ (gC (Bxr K) (gC (Bxp K) (gC (A9c K) (gC (A7j K) (gC (Bxg K) (gC (Bxn K) (gC (Bjv K) (gC (Bs2 K) gN)))))))) [] [1727,55287] [(10,[.take 1 6 5022,.take 1 7 5023,.take 1 8 5024,.take 1 9 5025,.take 1 10 5026,.take 1 11 5027]),(13,[.take 107 7 6719]),(15,[.put 1]),(16,[.put 1]),(17,[.take 107 7 6719]),(18,[.take 1 6 5022,.take 1 7 5023,.take 1 8 5024,.take 1 9 5025,.take 1 10 5026,.take 1 11 5027,.frz 5022,.frz 5023,.frz 5024,.frz 5025,.frz 5026,.frz 5027])]
def B0w:Ei:=⟨[(4,.p 104),(7,.p 107)],[(1,.box [.v 2,.v 2,.v 2,.v 2,.v 2,.v 2,.T 5 true,.T 3 true,.T 3 true,.T 50 true,.T 52 false,.T 3 true]),(107,.st 73 true),(104,.st 73 true)]⟩
def B0x:Ei:=⟨[(0,.p 1),(3,.p 103),(4,.p 104),(33,.v 4)],[(1,.box [.v 2,.v 2,.v 2,.v 2,.v 2,.v 2,.T 5 true,.T 3 true,.T 3 true,.T 50 true,.T 52 false,.T 3 true]),(104,.st 73 true),(103,.box [.v 2,.v 2,.v 2,.v 2,.v 2,.v 2,.v 2,.v 2,.v 2,.v 22])]⟩
def Bbv:=jn (Bki K) 55287 B0w [] (fun a b c d e f g h i j k l m _=>A09 K a b c d e f g h i j k l m) kN
def Bdo:=jn (Bki K) 1727 B0x [] (Ave K) (kC (Bbv K) kN)
def Bs3:=ct (Bki K) (A0r K) (kC (Bdo K) kN)
def At8 (K:Nat):Nat->(List Cm)->Int->(List Int)->Int->Int->C4->D9->C4->D9->Option (D9×(List Cm)×C4×D0)
 |0,_,_,_,_,_,_,_,_,_=>none
 |n1+1,v4,v5,v6,v7,v8,v9,v10,v11,v12=>(bif (decide (v5>0))then(bif (decide ((v4.length:Int)<200))then((Ax3 K (D0.mk v6 v7 v8) v9).bind fun r13=>(if r13.2.2.1.length=v9.fP.N5.length∧r13.2.2.2.1.length=v9.fP.Vg.length∧r13.2.2.2.2.1.length=v9.fP.N6.length∧r13.2.2.2.2.2.1.length=v9.fL.length∧r13.2.2.2.2.2.2.1.length=v9.fQ.length∧r13.2.2.2.2.2.2.2.length=v9.Acw.length then(if(v4++([r13.1]:List Cm)).length*96≤140737488355328∧(v4++([r13.1]:List Cm)).length≤maxLen then((A0r K (C4.mk v9.fC (Dm.mk r13.2.2.1 r13.2.2.2.1 r13.2.2.2.2.1) r13.2.2.2.2.2.1 r13.2.2.2.2.2.2.1 r13.2.2.2.2.2.2.2) r13.1).bind fun r14=>(At8 K n1 (v4++([r13.1]:List Cm)) (An4 .i64 v5 1) r13.2.1.fb r13.2.1.fi r13.2.1.fh r14.2 v10 v11 v12))else none)else none))else some (v10,v4,v9,(D0.mk v6 v7 v8)))else some (v10,v4,v9,(D0.mk v6 v7 v8)))
def Azm (K:Nat)(a0:D0)(a1:Int):Option (D9×(List Cm)×C4×D0):=((Awc K a0).bind fun r1=>((Awt K r1.1).bind fun r2=>((Ap K r1.2 a1).bind fun r3=>(At8 K K ([]:List Cm) (An3 .i64 4 r3.1) r3.2.fb r3.2.fi r3.2.fh r2 r1.1 (C4.mk (D9.mk 0 0 0 0 0 0) (Dm.mk [] [] []) [] [] []) (D9.mk 0 0 0 0 0 0)))))
def Bq6:=fd Tryz.func149 ⟨[.b 148 false,.v 3],[.v 25,.n 149 false,.n 32 false],false⟩ (gC (Bwa K) (gC (A2g K) (gC (Bwe K) (gC (Bv5 K) (gC (Bs3 K) gN))))) [22,23] [] [(4,[.put 108,.take 108 10 6738,.shal 6738,.put 108,.shal 1009]),(7,[.take 108 6 6734,.take 108 7 6735,.take 108 8 6736,.take 108 9 6737,.take 108 10 6738,.take 108 11 6739]),(9,[.put 108]),(10,[.take 108 6 6734,.take 108 7 6735,.take 108 8 6736,.take 108 9 6737,.take 108 10 6738,.take 108 11 6739])] [(32,[.frz 3032])]
def B0y:Ei:=⟨[(0,.p 1),(4,.p 104),(6,.p 106),(7,.p 107),(8,.p 108),(9,.o 1009 40 false),(10,.v 2)],[(1,.box [.v 22,.v 2,.v 2]),(108,.st 32 false),(107,.st 25 true),(106,.st 32 true),(104,.st 25 true)]⟩
def Bhe:=lp (Bq6 K) 250 B0y [] (At8 K) (fun n=>kN)
def Bs4:=ct (Bq6 K) (Azm K) (kC (Bhe K K) kN)
def Az9 (K:Nat)(a0:D0)(a1:Int):Option (C4×D0):=((Azm K a0 a1).bind fun r1=>some (r1.2.2.1,r1.2.2.2))
def Bs5:=ct (fd Tryz.func68 ⟨[.b 148 false,.v 3],[.n 32 false],false⟩ (gC (Bs4 K) gN)) (Az9 K)
def Ape (K:Nat)(v4:List Int)(v5:Int)(v6:Int)(v7:D9)(v8:D9):Option (D9×D0):=some (v7,(D0.mk v4 v5 v6))
def A0s (K:Nat)(a0:D0):Option (D9×D0):=((Awc K a0).bind fun r1=>((Ap K r1.2 14).bind fun r2=>(bif (r2.1==0)then((P2 K r2.2 ([1,2,12,13]:List Int)).bind fun r3=>(if r3.2.2.length=([1,2,12,13]:List Int).length then(Ape K r3.2.1.fb r3.2.1.fi r3.2.1.fh (D9.mk r3.1 r1.1.G6 r1.1.E5 r1.1.Gs r1.1.E6 r1.1.G7) (D9.mk 0 0 0 0 0 0))else none))else(bif (r2.1==1)then((P2 K r2.2 ([7,8,16,17]:List Int)).bind fun r9=>(if r9.2.2.length=([7,8,16,17]:List Int).length then(Ape K r9.2.1.fb r9.2.1.fi r9.2.1.fh (D9.mk r1.1.Ay r9.1 r1.1.E5 r1.1.Gs r1.1.E6 r1.1.G7) (D9.mk 0 0 0 0 0 0))else none))else(bif (r2.1==2)then((P2 K r2.2 ([1,8,9]:List Int)).bind fun r10=>(if r10.2.2.length=([1,8,9]:List Int).length then(Ape K r10.2.1.fb r10.2.1.fi r10.2.1.fh (D9.mk r1.1.Ay r1.1.G6 r10.1 r1.1.Gs r1.1.E6 r1.1.G7) (D9.mk 0 0 0 0 0 0))else none))else(bif (r2.1==3)then((P2 K r2.2 ([0,8,9]:List Int)).bind fun r11=>(if r11.2.2.length=([0,8,9]:List Int).length then(Ape K r11.2.1.fb r11.2.1.fi r11.2.1.fh (D9.mk r1.1.Ay r1.1.G6 r1.1.E5 r11.1 r1.1.E6 r1.1.G7) (D9.mk 0 0 0 0 0 0))else none))else(bif (r2.1==4)then((P2 K r2.2 ([0,17]:List Int)).bind fun r12=>(if r12.2.2.length=([0,17]:List Int).length then(Ape K r12.2.1.fb r12.2.1.fi r12.2.1.fh (D9.mk r1.1.Ay r1.1.G6 r1.1.E5 r1.1.Gs r12.1 r1.1.G7) (D9.mk 0 0 0 0 0 0))else none))else(bif (r2.1==5)then((P2 K r2.2 ([0,5]:List Int)).bind fun r13=>(if r13.2.2.length=([0,5]:List Int).length then(Ape K r13.2.1.fb r13.2.1.fi r13.2.1.fh (D9.mk r1.1.Ay r1.1.G6 r1.1.E5 r1.1.Gs r1.1.E6 r13.1) (D9.mk 0 0 0 0 0 0))else none))else(Ape K r2.2.fb r2.2.fi r2.2.fh r1.1 (D9.mk 0 0 0 0 0 0))))))))))
def Bq7:=fd Tryz.func90 ⟨[.b 148 false],[.v 25],false⟩ (gC (A2g K) (gC (A7i K) (gC (Bv5 K) gN))) [] [7]
def B0z:Ei:=⟨[(2,.p 102),(3,.p 103)],[(1,.box [.v 22,.v 2,.v 2]),(103,.st 25 true),(102,.st 25 true)]⟩
def Bpn:=jn (Bq7 K) 7 B0z [] (Ape K) kN
def Bs6:=ct (Bq7 K) (A0s K) (kC (Bpn K) kN)
def As6 (K:Nat)(a1:D9)(v4:List Int)(v5:Int)(v6:Int)(v7:Bc):Option (Bc×D0):=((Ap K (D0.mk v4 v5 v6) a1.Ay).bind fun r8=>((Ap K r8.2 a1.G6).bind fun r9=>((Ap K r9.2 (An4 .i64 a1.G6 r9.1)).bind fun r10=>some ((Bc.mk (An3 .i64 (An5 .i64 r8.1 a1.G6) r9.1) (An3 .i64 1 r10.1) 0),r10.2))))
def Ayh (K:Nat)(a0:D0)(a1:D9):Option (Bc×D0):=((Agm K a0 4).bind fun r1=>(bif r1.1 then(bif (decide (a1.Ay>2))then((Ap K r1.2 (An4 .i64 a1.Ay 1)).bind fun r2=>((Ap K r2.2 a1.G6).bind fun r3=>some ((Bc.mk (An5 .i64 a1.G6 r2.1) (An3 .i64 (An3 .i64 a1.G6 1) r3.1) 2),r3.2)))else(As6 K a1 r1.2.fb r1.2.fi r1.2.fh (Bc.mk 0 0 0)))else(As6 K a1 r1.2.fb r1.2.fi r1.2.fh (Bc.mk 0 0 0))))
def Bq8:=fd Tryz.func285 ⟨[.b 148 false,.v 25],[.v 132],false⟩ (gC (A2g K) (gC (A5b K) gN)) [8,9] [3]
def B00:Ei:=⟨[(0,.p 1),(3,.p 103),(4,.p 104)],[(1,.box [.v 22,.v 2,.v 2]),(104,.st 132 true),(103,.st 25 true)]⟩
def Bpo:=jn (Bq8 K) 3 B00 [] (fun a b c d e=>As6 K e a b c d) kN
def Bs7:=ct (Bq8 K) (Ayh K) (kC (Bpo K) kN)
def At9 (K:Nat):Nat->Int->(List Int)->Int->Int->As->Option (As×D0)
 |0,_,_,_,_,_=>none
 |n4+1,v25,v26,v27,v28,v29=>(bif (decide (v25>0))then((Ap K (D0.mk v26 v27 v28) 256).bind fun r30=>(if(v29.Fh++([r30.1]:List Int)).length*8≤140737488355328∧(v29.Fh++([r30.1]:List Int)).length≤maxLen then(At9 K n4 (An4 .i64 v25 1) r30.2.fb r30.2.fi r30.2.fh (As.mk v29.Vg v29.C8 v29.Sj v29.fUp v29.Sk v29.Ee v29.Sl v29.Sm v29.Ay v29.Acv v29.Sn v29.F4 (v29.Fh++([r30.1]:List Int))))else none))else some (v29,(D0.mk v26 v27 v28)))
def Aua (K:Nat)(a1:D9):Nat->Int->(List Int)->Int->Int->As->Option (As×D0)
 |0,_,_,_,_,_=>none
 |n3+1,v18,v19,v20,v21,v22=>(bif (decide (v18>0))then((Ayh K (D0.mk v19 v20 v21) a1).bind fun r23=>(if(v22.F4++([r23.1]:List Bc)).length*24≤140737488355328∧(v22.F4++([r23.1]:List Bc)).length≤maxLen then(Aua K a1 n3 (An4 .i64 v18 1) r23.2.fb r23.2.fi r23.2.fh (As.mk v22.Vg v22.C8 v22.Sj v22.fUp v22.Sk v22.Ee v22.Sl v22.Sm v22.Ay v22.Acv v22.Sn (v22.F4++([r23.1]:List Bc)) v22.Fh))else none))else((Ap K (D0.mk v19 v20 v21) 3).bind fun r24=>(At9 K K r24.1 r24.2.fb r24.2.fi r24.2.fh v22)))
def Aub (K:Nat)(a1:D9)(v13:List Int)(v14:Int)(v15:Int)(v16:As):Option (As×D0):=((Ap K (D0.mk v13 v14 v15) 3).bind fun r17=>(Aua K a1 K r17.1 r17.2.fb r17.2.fi r17.2.fh v16))
def Auc (K:Nat)(a1:D9):Nat->Int->(List Int)->Int->Int->As->As->Option (As×D0)
 |0,_,_,_,_,_,_=>none
 |n1+1,v6,v7,v8,v9,v10,v11=>(bif (decide (v6>0))then(if(v10.Ay++([(An4 .i64 v6 1)]:List Int)).length*8≤140737488355328∧(v10.Ay++([(An4 .i64 v6 1)]:List Int)).length≤maxLen then(Auc K a1 n1 (An4 .i64 v6 1) v7 v8 v9 (As.mk v10.Vg v10.C8 v10.Sj v10.fUp v10.Sk v10.Ee v10.Sl v10.Sm (v10.Ay++([(An4 .i64 v6 1)]:List Int)) v10.Acv v10.Sn v10.F4 v10.Fh) v11)else none)else(bif (decide ((v10.Ay.length:Int)>0))then(if(0:Int)≤0∧0<(v10.Ay.length:Int)then((Ap K (D0.mk v7 v8 v9) (An3 .i64 a1.G6 1)).bind fun r12=>(Aub K a1 r12.2.fb r12.2.fi r12.2.fh (As.mk v10.Vg v10.C8 v10.Sj v10.fUp v10.Sk v10.Ee v10.Sl v10.Sm v10.Ay (An3 .i64 (gt v10.Ay 0) 1) r12.1 v10.F4 v10.Fh)))else none)else(Aub K a1 v7 v8 v9 v10)))
def Azn (K:Nat)(a0:D0)(a1:D9):Option (As×D0):=((Ap K a0 a1.G7).bind fun r1=>((Ak4 K (An3 .i64 1 r1.1)).bind fun r2=>((Ap K r1.2 4).bind fun r3=>(bif (r3.1 != 1)then some ((As.mk r3.1 r2.C8 r2.Sj r2.fUp r2.Sk r2.Ee r2.Sl r2.Sm r2.Ay r2.Acv r2.Sn r2.F4 r2.Fh),r3.2)else((Ap K r3.2 3).bind fun r4=>((Ap K r4.2 3).bind fun r5=>(Auc K a1 K r5.1 r5.2.fb r5.2.fi r5.2.fh (As.mk r3.1 r2.C8 r4.1 r2.fUp r2.Sk r2.Ee r2.Sl r2.Sm r2.Ay r2.Acv r2.Sn r2.F4 r2.Fh) (As.mk 0 0 0 0 0 0 0 0 [] 0 0 [] []))))))))
def Bbw:=fd Tryz.func254 ⟨[.b 148 false,.v 25],[.n 50 false],false⟩ (gC (A2g K) (gC (Bbp K) (gC (Bs7 K) gN))) [] [127] [(9,[.take 105 8 6688]),(10,[.take 105 8 6688]),(17,[.take 105 11 6691]),(21,[.take 105 12 6692]),(22,[.take 105 8 6688,.take 105 11 6691,.take 105 12 6692])]
def B01:Ei:=⟨[(0,.p 1),(4,.p 104),(5,.p 105),(9,.v 2)],[(1,.box [.v 22,.v 2,.v 2]),(105,.st 50 false),(104,.st 50 false)]⟩
def Bx7:Ei:=⟨[(0,.p 1),(3,.p 103),(4,.p 104),(5,.p 105),(7,.v 2)],[(1,.box [.v 22,.v 2,.v 2]),(105,.st 50 false),(104,.st 50 false),(103,.st 25 true)]⟩
def B02:Ei:=⟨[(0,.p 1),(3,.p 103),(4,.p 104),(5,.p 105)],[(1,.box [.v 22,.v 2,.v 2]),(105,.st 50 false),(104,.st 50 false),(103,.st 25 true)]⟩
def B03:Ei:=⟨[(0,.p 1),(3,.p 103),(4,.p 104),(5,.p 105),(6,.v 2)],[(1,.box [.v 22,.v 2,.v 2]),(105,.st 50 false),(104,.st 50 false),(103,.st 25 true)]⟩
def Bdp:=lp (Bbw K) 4090 B01 [] (fun n a b c d e _=>At9 K n a b c d e) (fun n=>kN)
def Bdq:=lp (Bbw K) 2042 Bx7 [] (fun n a b c d e _ g=>Aua K g n a b c d e) (fun n=>(kC (up (Bdp K K)) kN))
def Bhf:=jn (Bbw K) 127 B02 [] (fun a b c d _ f=>Aub K f a b c d) (kC (Bdq K K) kN)
def Bhg:=lp (Bbw K) 506 B03 [] (fun n a b c d e f g=>Auc K g n a b c d e f) (fun n=>(kC (up (Bhf K)) kN))
def Bs8:=ct (Bbw K) (Azn K) (kC (Bhg K K) kN)
def Ak7 (K:Nat)(v4:List Int)(v5:Int)(v6:Int)(v7:As)(v8:As):Option (As×D0):=some (v7,(D0.mk v4 v5 v6))
def A0t (K:Nat)(a0:D0)(a1:D9):Option (As×D0):=((Azn K a0 a1).bind fun r1=>((Ap K r1.2 14).bind fun r2=>(bif (r2.1==0)then((Ap K r2.2 6).bind fun r3=>(Ak7 K r3.2.fb r3.2.fi r3.2.fh (As.mk (An4 .i64 r3.1 1) r1.1.C8 r1.1.Sj r1.1.fUp r1.1.Sk r1.1.Ee r1.1.Sl r1.1.Sm r1.1.Ay r1.1.Acv r1.1.Sn r1.1.F4 r1.1.Fh) (As.mk 0 0 0 0 0 0 0 0 [] 0 0 [] [])))else(bif (r2.1==1)then((P2 K r2.2 ([0,4,5]:List Int)).bind fun r9=>(if r9.2.2.length=([0,4,5]:List Int).length then(Ak7 K r9.2.1.fb r9.2.1.fi r9.2.1.fh (As.mk r1.1.Vg r9.1 r1.1.Sj r1.1.fUp r1.1.Sk r1.1.Ee r1.1.Sl r1.1.Sm r1.1.Ay r1.1.Acv r1.1.Sn r1.1.F4 r1.1.Fh) (As.mk 0 0 0 0 0 0 0 0 [] 0 0 [] []))else none))else(bif (r2.1==2)then((P2 K r2.2 ([(-1),1,8,9]:List Int)).bind fun r10=>(if r10.2.2.length=([(-1),1,8,9]:List Int).length then(Ak7 K r10.2.1.fb r10.2.1.fi r10.2.1.fh (As.mk r1.1.Vg r1.1.C8 r1.1.Sj r10.1 r1.1.Sk r1.1.Ee r1.1.Sl r1.1.Sm r1.1.Ay r1.1.Acv r1.1.Sn r1.1.F4 r1.1.Fh) (As.mk 0 0 0 0 0 0 0 0 [] 0 0 [] []))else none))else(bif (r2.1==3)then((P2 K r2.2 ([0,12,(-1)]:List Int)).bind fun r11=>(if r11.2.2.length=([0,12,(-1)]:List Int).length then(if(r1.1.Ay++([r11.1]:List Int)).length*8≤140737488355328∧(r1.1.Ay++([r11.1]:List Int)).length≤maxLen then(Ak7 K r11.2.1.fb r11.2.1.fi r11.2.1.fh (As.mk r1.1.Vg r1.1.C8 r1.1.Sj r1.1.fUp r1.1.Sk r1.1.Ee r1.1.Sl r1.1.Sm (r1.1.Ay++([r11.1]:List Int)) r1.1.Acv r1.1.Sn r1.1.F4 r1.1.Fh) (As.mk 0 0 0 0 0 0 0 0 [] 0 0 [] []))else none)else none))else(bif (r2.1==4)then((Ap K r2.2 4).bind fun r12=>(Ak7 K r12.2.fb r12.2.fi r12.2.fh (As.mk r1.1.Vg r1.1.C8 r1.1.Sj r1.1.fUp r1.1.Sk r1.1.Ee r1.1.Sl r1.1.Sm r1.1.Ay r12.1 r1.1.Sn r1.1.F4 r1.1.Fh) (As.mk 0 0 0 0 0 0 0 0 [] 0 0 [] [])))else(bif (r2.1==5)then((P2 K r2.2 ([0,8,17,(-1)]:List Int)).bind fun r13=>(if r13.2.2.length=([0,8,17,(-1)]:List Int).length then(Ak7 K r13.2.1.fb r13.2.1.fi r13.2.1.fh (As.mk r1.1.Vg r1.1.C8 r1.1.Sj r1.1.fUp r1.1.Sk r1.1.Ee r1.1.Sl r1.1.Sm r1.1.Ay r1.1.Acv r13.1 r1.1.F4 r1.1.Fh) (As.mk 0 0 0 0 0 0 0 0 [] 0 0 [] []))else none))else(bif (r2.1==6)then((P2 K r2.2 ([255,256,(-1)]:List Int)).bind fun r14=>(if r14.2.2.length=([255,256,(-1)]:List Int).length then(if(r1.1.Fh++([r14.1]:List Int)).length*8≤140737488355328∧(r1.1.Fh++([r14.1]:List Int)).length≤maxLen then(Ak7 K r14.2.1.fb r14.2.1.fi r14.2.1.fh (As.mk r1.1.Vg r1.1.C8 r1.1.Sj r1.1.fUp r1.1.Sk r1.1.Ee r1.1.Sl r1.1.Sm r1.1.Ay r1.1.Acv r1.1.Sn r1.1.F4 (r1.1.Fh++([r14.1]:List Int))) (As.mk 0 0 0 0 0 0 0 0 [] 0 0 [] []))else none)else none))else(bif (r2.1==7)then((Ap K r2.2 100).bind fun r15=>((Ap K r15.2 20).bind fun r16=>((Ap K r16.2 3).bind fun r17=>(if(r1.1.F4++([(Bc.mk r15.1 r16.1 r17.1)]:List Bc)).length*24≤140737488355328∧(r1.1.F4++([(Bc.mk r15.1 r16.1 r17.1)]:List Bc)).length≤maxLen then(Ak7 K r17.2.fb r17.2.fi r17.2.fh (As.mk r1.1.Vg r1.1.C8 r1.1.Sj r1.1.fUp r1.1.Sk r1.1.Ee r1.1.Sl r1.1.Sm r1.1.Ay r1.1.Acv r1.1.Sn (r1.1.F4++([(Bc.mk r15.1 r16.1 r17.1)]:List Bc)) r1.1.Fh) (As.mk 0 0 0 0 0 0 0 0 [] 0 0 [] []))else none))))else(Ak7 K r2.2.fb r2.2.fi r2.2.fh r1.1 (As.mk 0 0 0 0 0 0 0 0 [] 0 0 [] []))))))))))))
def Bq9:=fd Tryz.func187 ⟨[.b 148 false,.v 25],[.n 50 false],false⟩ (gC (A2g K) (gC (A7i K) (gC (Bs8 K) gN))) [] [7] [(19,[.take 105 8 6688,.take 105 11 6691,.take 105 12 6692])]
def B04:Ei:=⟨[(4,.p 104),(5,.p 105)],[(1,.box [.v 22,.v 2,.v 2]),(105,.st 50 false),(104,.st 50 false)]⟩
def Bpp:=jn (Bq9 K) 7 B04 [] (Ak7 K) kN
def Bs9:=ct (Bq9 K) (A0t K) (kC (Bpp K) kN)
def As7 (K:Nat):Nat->Int->(List Int)->Int->Int->As->Option (As×D0)
 |0,_,_,_,_,_=>none
 |n3+1,v23,v24,v25,v26,v27=>(bif (decide (v23>0))then((Ap K (D0.mk v24 v25 v26) 256).bind fun r28=>(if(v27.Fh++([r28.1]:List Int)).length*8≤140737488355328∧(v27.Fh++([r28.1]:List Int)).length≤maxLen then(As7 K n3 (An4 .i64 v23 1) r28.2.fb r28.2.fi r28.2.fh (As.mk v27.Vg v27.C8 v27.Sj v27.fUp v27.Sk v27.Ee v27.Sl v27.Sm v27.Ay v27.Acv v27.Sn v27.F4 (v27.Fh++([r28.1]:List Int))))else none))else some (v27,(D0.mk v24 v25 v26)))
def As8 (K:Nat)(v18:List Int)(v19:Int)(v20:Int)(v21:As):Option (As×D0):=((Ap K (D0.mk v18 v19 v20) 3).bind fun r22=>(As7 K K r22.1 r22.2.fb r22.2.fi r22.2.fh v21))
def As9 (K:Nat)(a1:D9):Nat->Int->(List Int)->Int->Int->As->As->Option (As×D0)
 |0,_,_,_,_,_,_=>none
 |n1+1,v7,v8,v9,v10,v11,v12=>(bif (decide (v7>0))then((Ap K (D0.mk v8 v9 v10) 5).bind fun r13=>((P2 K r13.2 ([1,2,4]:List Int)).bind fun r14=>(if r14.2.2.length=([1,2,4]:List Int).length then((At5 K a1 v11 (An3 .i64 1 r13.1) r14.1).bind fun r15=>(As9 K a1 n1 (An4 .i64 v7 1) r14.2.1.fb r14.2.1.fi r14.2.1.fh r15.1 v12))else none)))else((Agm K (D0.mk v8 v9 v10) 3).bind fun r16=>(bif r16.1 then((Aqo K a1 v11 2 (An3 .i64 a1.G6 1)).bind fun r17=>(As8 K r16.2.fb r16.2.fi r16.2.fh r17.1))else(As8 K r16.2.fb r16.2.fi r16.2.fh v11))))
def Ayi (K:Nat)(a0:D0)(a1:D9):Option (As×D0):=((Ap K a0 a1.G7).bind fun r1=>((Ak4 K (An3 .i64 1 r1.1)).bind fun r2=>((Ap K r1.2 2).bind fun r3=>((Ap K r3.2 2).bind fun r4=>((Aum K a1 (As.mk 1 r2.C8 r3.1 r2.fUp r2.Sk r2.Ee r2.Sl r2.Sm r2.Ay r2.Acv r2.Sn r2.F4 r2.Fh) r4.1).bind fun r5=>((Ap K r4.2 4).bind fun r6=>(As9 K a1 K r6.1 r6.2.fb r6.2.fi r6.2.fh r5.1 (As.mk 0 0 0 0 0 0 0 0 [] 0 0 [] []))))))))
def Bfs:=fd Tryz.func286 ⟨[.b 148 false,.v 25],[.n 50 false],false⟩ (gC (A2g K) (gC (A7i K) (gC (A5b K) (gC (Bbp K) (gC (Bju K) (gC (Bq1 K) (gC (Bqz K) gN))))))) [] [255] [(9,[.take 105 8 6688,.take 105 11 6691,.take 105 12 6692]),(11,[.take 105 8 6688,.take 105 11 6691,.take 105 12 6692]),(15,[.take 105 12 6692]),(16,[.take 105 8 6688,.take 105 11 6691,.take 105 12 6692])]
def B05:Ei:=⟨[(0,.p 1),(4,.p 104),(5,.p 105),(8,.v 2)],[(1,.box [.v 22,.v 2,.v 2]),(105,.st 50 false),(104,.st 50 false)]⟩
def B06:Ei:=⟨[(0,.p 1),(4,.p 104),(5,.p 105)],[(1,.box [.v 22,.v 2,.v 2]),(105,.st 50 false),(104,.st 50 false)]⟩
def Bdr:=lp (Bfs K) 4090 B05 [] (fun n a b c d e _=>As7 K n a b c d e) (fun n=>kN)
def Bhh:=jn (Bfs K) 255 B06 [] (fun a b c d _=>As8 K a b c d) (kC (Bdr K K) kN)
def Bds:=lp (Bfs K) 1018 Bx7 [] (fun n a b c d e f g=>As9 K g n a b c d e f) (fun n=>(kC (up (Bhh K)) kN))
def Bta:=ct (Bfs K) (Ayi K) (kC (Bds K K) kN)
def Av1 (K:Nat)(v12:List Int)(v13:Int)(v14:Int)(v15:Az):Option (Az×D0):=some (v15,(D0.mk v12 v13 v14))
def Ata (K:Nat)(v6:List Int)(v7:Int)(v8:Int)(v9:Az)(v10:Az):Option (Az×D0):=((Agm K (D0.mk v6 v7 v8) 4).bind fun r11=>(bif r11.1 then(Av1 K r11.2.fb r11.2.fi r11.2.fh (Az.mk v9.Bk v9.Ee ([]:List Int) ([]:List Int) 0))else(Av1 K r11.2.fb r11.2.fi r11.2.fh v9)))
def Ayj (K:Nat)(a0:D0)(a1:D9):Option (Az×D0):=((Ayi K a0 a1).bind fun r1=>((Ap K r1.2 (An3 .i64 a1.E5 1)).bind fun r2=>((Asv K r1.1 r2.1).bind fun r3=>((Ap K r2.2 3).bind fun r4=>(bif (decide ((r3.Ay.length:Int)>0))then((Ap K r4.2 a1.G6).bind fun r5=>(Ata K r5.2.fb r5.2.fi r5.2.fh (Az.mk r3.Bk r4.1 r3.Fh r3.Ay r5.1) (Az.mk 0 0 [] [] 0)))else(Ata K r4.2.fb r4.2.fi r4.2.fh (Az.mk r3.Bk r4.1 r3.Fh r3.Ay r3.Wv) (Az.mk 0 0 [] [] 0)))))))
def Bkj:=fd Tryz.func255 ⟨[.b 148 false,.v 25],[.n 52 true],false⟩ (gC (A2g K) (gC (A5b K) (gC (Bjj K) (gC (Bta K) gN)))) [] [15,31] [(9,[.take 105 2 6682,.take 105 3 6683])]
def Bx8:Ei:=⟨[(4,.p 104),(5,.p 105)],[(1,.box [.v 22,.v 2,.v 2]),(105,.st 52 true),(104,.st 52 true)]⟩
def B07:Ei:=⟨[(0,.p 1),(4,.p 104),(5,.p 105)],[(1,.box [.v 22,.v 2,.v 2]),(105,.st 52 true),(104,.st 52 true)]⟩
def Bkk:=jn (Bkj K) 31 Bx8 [] (fun a b c d _=>Av1 K a b c d) kN
def Bkl:=jn (Bkj K) 15 B07 [] (Ata K) (kC (Bkk K) kN)
def Btb:=ct (Bkj K) (Ayj K) (kC (Bkl K) kN)
def App (K:Nat)(v4:List Int)(v5:Int)(v6:Int)(v7:Az)(v8:Az):Option (Az×D0):=some (v7,(D0.mk v4 v5 v6))
def Azo (K:Nat)(a0:D0)(a1:D9):Option (Az×D0):=((Ayj K a0 a1).bind fun r1=>((Ap K r1.2 10).bind fun r2=>(bif (r2.1==0)then((P2 K r2.2 ([(-1),0,8,9]:List Int)).bind fun r3=>(if r3.2.2.length=([(-1),0,8,9]:List Int).length then(App K r3.2.1.fb r3.2.1.fi r3.2.1.fh (Az.mk r3.1 r1.1.Ee r1.1.Fh r1.1.Ay r1.1.Wv) (Az.mk 0 0 [] [] 0))else none))else(bif (r2.1==1)then((P2 K r2.2 ([(-1),9,0]:List Int)).bind fun r9=>(if r9.2.2.length=([(-1),9,0]:List Int).length then(App K r9.2.1.fb r9.2.1.fi r9.2.1.fh (Az.mk r1.1.Bk r9.1 r1.1.Fh r1.1.Ay r1.1.Wv) (Az.mk 0 0 [] [] 0))else none))else(bif (r2.1==2)then((P2 K r2.2 ([(-1),0,8,16]:List Int)).bind fun r10=>(if r10.2.2.length=([(-1),0,8,16]:List Int).length then(App K r10.2.1.fb r10.2.1.fi r10.2.1.fh (Az.mk r1.1.Bk r1.1.Ee r1.1.Fh r1.1.Ay r10.1) (Az.mk 0 0 [] [] 0))else none))else(bif (r2.1==3)then((P2 K r2.2 ([(-1),255,256]:List Int)).bind fun r11=>(if r11.2.2.length=([(-1),255,256]:List Int).length then(if(r1.1.Fh++([r11.1]:List Int)).length*8≤140737488355328∧(r1.1.Fh++([r11.1]:List Int)).length≤maxLen then(App K r11.2.1.fb r11.2.1.fi r11.2.1.fh (Az.mk r1.1.Bk r1.1.Ee (r1.1.Fh++([r11.1]:List Int)) r1.1.Ay r1.1.Wv) (Az.mk 0 0 [] [] 0))else none)else none))else(bif (r2.1==4)then((P2 K r2.2 ([(-1),0,12]:List Int)).bind fun r12=>(if r12.2.2.length=([(-1),0,12]:List Int).length then(if(r1.1.Ay++([r12.1]:List Int)).length*8≤140737488355328∧(r1.1.Ay++([r12.1]:List Int)).length≤maxLen then(App K r12.2.1.fb r12.2.1.fi r12.2.1.fh (Az.mk r1.1.Bk r1.1.Ee r1.1.Fh (r1.1.Ay++([r12.1]:List Int)) r1.1.Wv) (Az.mk 0 0 [] [] 0))else none)else none))else(App K r2.2.fb r2.2.fi r2.2.fh r1.1 (Az.mk 0 0 [] [] 0)))))))))
def Bra:=fd Tryz.func188 ⟨[.b 148 false,.v 25],[.n 52 true],false⟩ (gC (A2g K) (gC (A7i K) (gC (Btb K) gN))) [] [7] [(13,[.take 105 2 6682,.take 105 3 6683])]
def Bpq:=jn (Bra K) 7 Bx8 [] (App K) kN
def Btc:=ct (Bra K) (Azo K) (kC (Bpq K) kN)
def Aa2 (K:Nat)(v5:List Int)(v6:Int)(v7:Int)(v8:Int)(v9:Int)(v10:Int)(v11:Int)(v12:Int)(v13:Int)(v14:List Int)(v15:List Int)(v16:List Int)(v17:List As)(v18:List Az)(v19:List Int)(v20:Int)(v21:Int)(v22:Int)(v23:Int)(v24:Int)(v25:Int)(v26:List Int)(v27:List Int)(v28:List Int)(v29:List As)(v30:List Az)(v31:List Int):Option (C4×D0):=some ((C4.mk (D9.mk v8 v9 v10 v11 v12 v13) (Dm.mk v14 v15 v16) v17 v18 v19),(D0.mk v5 v6 v7))
def Azp (K:Nat)(a0:D0)(a1:Int):Option (C4×D0):=((Az9 K a0 a1).bind fun r1=>((Ap K r1.2 (r1.1.fL.length:Int)).bind fun r2=>((Ap K r2.2 40).bind fun r3=>(bif (r3.1==0)then((A0s K r3.2).bind fun r4=>(Aa2 K r4.2.fb r4.2.fi r4.2.fh r4.1.Ay r4.1.G6 r4.1.E5 r4.1.Gs r4.1.E6 r4.1.G7 r1.1.fP.N5 r1.1.fP.Vg r1.1.fP.N6 r1.1.fL r1.1.fQ r1.1.Acw 0 0 0 0 0 0 [] [] [] [] [] []))else(bif (r3.1==1)then((Ap K r3.2 (r1.1.fP.Vg.length:Int)).bind fun r32=>((Ap K r32.2 4).bind fun r33=>(if(0:Int)≤r32.1∧r32.1<(r1.1.fP.Vg.length:Int)then(Aa2 K r33.2.fb r33.2.fi r33.2.fh r1.1.fC.Ay r1.1.fC.G6 r1.1.fC.E5 r1.1.fC.Gs r1.1.fC.E6 r1.1.fC.G7 r1.1.fP.N5 (r1.1.fP.Vg.set r32.1.toNat r33.1) r1.1.fP.N6 r1.1.fL r1.1.fQ r1.1.Acw 0 0 0 0 0 0 [] [] [] [] [] [])else none)))else(bif (r3.1==2)then((Ap K r3.2 (r1.1.fP.N5.length:Int)).bind fun r34=>(if(0:Int)≤r34.1∧r34.1<(r1.1.fP.N5.length:Int)then(Aa2 K r34.2.fb r34.2.fi r34.2.fh r1.1.fC.Ay r1.1.fC.G6 r1.1.fC.E5 r1.1.fC.Gs r1.1.fC.E6 r1.1.fC.G7 (r1.1.fP.N5.set r34.1.toNat 9) r1.1.fP.Vg r1.1.fP.N6 r1.1.fL r1.1.fQ r1.1.Acw 0 0 0 0 0 0 [] [] [] [] [] [])else none))else(bif (r3.1==3)then((A0t K r3.2 r1.1.fC).bind fun r35=>(if(0:Int)≤r2.1∧r2.1<(r1.1.fL.length:Int)then(Aa2 K r35.2.fb r35.2.fi r35.2.fh r1.1.fC.Ay r1.1.fC.G6 r1.1.fC.E5 r1.1.fC.Gs r1.1.fC.E6 r1.1.fC.G7 r1.1.fP.N5 r1.1.fP.Vg r1.1.fP.N6 (r1.1.fL.set r2.1.toNat r35.1) r1.1.fQ r1.1.Acw 0 0 0 0 0 0 [] [] [] [] [] [])else none))else(bif (r3.1==4)then((Ap K r3.2 4).bind fun r36=>(if(0:Int)≤r2.1∧r2.1<(r1.1.fL.length:Int)then(Aqh (r1.1.fL.set r2.1.toNat (As.mk r36.1 ((gt r1.1.fL r2.1).C8) ((gt r1.1.fL r2.1).Sj) ((gt r1.1.fL r2.1).fUp) ((gt r1.1.fL r2.1).Sk) ((gt r1.1.fL r2.1).Ee) ((gt r1.1.fL r2.1).Sl) ((gt r1.1.fL r2.1).Sm) ((gt r1.1.fL r2.1).Ay) ((gt r1.1.fL r2.1).Acv) ((gt r1.1.fL r2.1).Sn) ((gt r1.1.fL r2.1).F4) ((gt r1.1.fL r2.1).Fh))) fun v37=>(Aa2 K r36.2.fb r36.2.fi r36.2.fh r1.1.fC.Ay r1.1.fC.G6 r1.1.fC.E5 r1.1.fC.Gs r1.1.fC.E6 r1.1.fC.G7 r1.1.fP.N5 r1.1.fP.Vg r1.1.fP.N6 v37 r1.1.fQ r1.1.Acw 0 0 0 0 0 0 [] [] [] [] [] []))else none))else(bif (r3.1==5)then((Ap K r3.2 4).bind fun r38=>(if(0:Int)≤r2.1∧r2.1<(r1.1.fL.length:Int)then(Aqh (r1.1.fL.set r2.1.toNat (As.mk ((gt r1.1.fL r2.1).Vg) ((gt r1.1.fL r2.1).C8) ((gt r1.1.fL r2.1).Sj) r38.1 ((gt r1.1.fL r2.1).Sk) ((gt r1.1.fL r2.1).Ee) ((gt r1.1.fL r2.1).Sl) ((gt r1.1.fL r2.1).Sm) ((gt r1.1.fL r2.1).Ay) ((gt r1.1.fL r2.1).Acv) ((gt r1.1.fL r2.1).Sn) ((gt r1.1.fL r2.1).F4) ((gt r1.1.fL r2.1).Fh))) fun v39=>(Aa2 K r38.2.fb r38.2.fi r38.2.fh r1.1.fC.Ay r1.1.fC.G6 r1.1.fC.E5 r1.1.fC.Gs r1.1.fC.E6 r1.1.fC.G7 r1.1.fP.N5 r1.1.fP.Vg r1.1.fP.N6 v39 r1.1.fQ r1.1.Acw 0 0 0 0 0 0 [] [] [] [] [] []))else none))else(bif (r3.1==6)then(if(0:Int)≤r2.1∧r2.1<(r1.1.fL.length:Int)then(if(0:Int)≤r2.1∧r2.1<(r1.1.fL.length:Int)then(Aqh (r1.1.fL.set r2.1.toNat (As.mk ((gt r1.1.fL r2.1).Vg) ((gt r1.1.fL r2.1).C8) (An3 .i64 ((gt r1.1.fL r2.1).Sj) 1) ((gt r1.1.fL r2.1).fUp) ((gt r1.1.fL r2.1).Sk) ((gt r1.1.fL r2.1).Ee) ((gt r1.1.fL r2.1).Sl) ((gt r1.1.fL r2.1).Sm) ((gt r1.1.fL r2.1).Ay) ((gt r1.1.fL r2.1).Acv) ((gt r1.1.fL r2.1).Sn) ((gt r1.1.fL r2.1).F4) ((gt r1.1.fL r2.1).Fh))) fun v40=>(Aa2 K r3.2.fb r3.2.fi r3.2.fh r1.1.fC.Ay r1.1.fC.G6 r1.1.fC.E5 r1.1.fC.Gs r1.1.fC.E6 r1.1.fC.G7 r1.1.fP.N5 r1.1.fP.Vg r1.1.fP.N6 v40 r1.1.fQ r1.1.Acw 0 0 0 0 0 0 [] [] [] [] [] []))else none)else none)else(bif (r3.1==7)then((Azo K r3.2 r1.1.fC).bind fun r41=>(if(r1.1.fQ++[r41.1]).length*72≤140737488355328∧(r1.1.fQ++[r41.1]).length≤maxLen then(Aa2 K r41.2.fb r41.2.fi r41.2.fh r1.1.fC.Ay r1.1.fC.G6 r1.1.fC.E5 r1.1.fC.Gs r1.1.fC.E6 r1.1.fC.G7 r1.1.fP.N5 r1.1.fP.Vg r1.1.fP.N6 r1.1.fL (r1.1.fQ++[r41.1]) r1.1.Acw 0 0 0 0 0 0 [] [] [] [] [] [])else none))else(bif (r3.1==8)then(bif (decide ((r1.1.fQ.length:Int)>0))then(if(0:Int)≤1∧1≤(r1.1.fQ.length:Int)∧(r1.1.fQ.length:Int)≤(r1.1.fQ.length:Int)then(Aa2 K r3.2.fb r3.2.fi r3.2.fh r1.1.fC.Ay r1.1.fC.G6 r1.1.fC.E5 r1.1.fC.Gs r1.1.fC.E6 r1.1.fC.G7 r1.1.fP.N5 r1.1.fP.Vg r1.1.fP.N6 r1.1.fL ((r1.1.fQ.drop (1:Int).toNat).take ((r1.1.fQ.length:Int) - 1).toNat) r1.1.Acw 0 0 0 0 0 0 [] [] [] [] [] [])else none)else(Aa2 K r3.2.fb r3.2.fi r3.2.fh r1.1.fC.Ay r1.1.fC.G6 r1.1.fC.E5 r1.1.fC.Gs r1.1.fC.E6 r1.1.fC.G7 r1.1.fP.N5 r1.1.fP.Vg r1.1.fP.N6 r1.1.fL r1.1.fQ r1.1.Acw 0 0 0 0 0 0 [] [] [] [] [] []))else(bif (r3.1==9)then((P2 K r3.2 ([0,255,256,(-1)]:List Int)).bind fun r42=>(if r42.2.2.length=([0,255,256,(-1)]:List Int).length then(if(r1.1.Acw++([r42.1]:List Int)).length*8≤140737488355328∧(r1.1.Acw++([r42.1]:List Int)).length≤maxLen then(Aa2 K r42.2.1.fb r42.2.1.fi r42.2.1.fh r1.1.fC.Ay r1.1.fC.G6 r1.1.fC.E5 r1.1.fC.Gs r1.1.fC.E6 r1.1.fC.G7 r1.1.fP.N5 r1.1.fP.Vg r1.1.fP.N6 r1.1.fL r1.1.fQ (r1.1.Acw++([r42.1]:List Int)) 0 0 0 0 0 0 [] [] [] [] [] [])else none)else none))else(bif (r3.1==10)then(if(0:Int)≤r2.1∧r2.1<(r1.1.fL.length:Int)then(if(0:Int)≤r2.1∧r2.1<(r1.1.fL.length:Int)then((Ap K r3.2 60).bind fun r43=>(if(((gt r1.1.fL r2.1).F4)++([(Bc.mk r43.1 2 0)]:List Bc)).length*24≤140737488355328∧(((gt r1.1.fL r2.1).F4)++([(Bc.mk r43.1 2 0)]:List Bc)).length≤maxLen then(if(0:Int)≤r2.1∧r2.1<(r1.1.fL.length:Int)then(Aa2 K r43.2.fb r43.2.fi r43.2.fh r1.1.fC.Ay r1.1.fC.G6 r1.1.fC.E5 r1.1.fC.Gs r1.1.fC.E6 r1.1.fC.G7 r1.1.fP.N5 r1.1.fP.Vg r1.1.fP.N6 (r1.1.fL.set r2.1.toNat (As.mk ((gt r1.1.fL r2.1).Vg) ((gt r1.1.fL r2.1).C8) ((gt r1.1.fL r2.1).Sj) ((gt r1.1.fL r2.1).fUp) ((gt r1.1.fL r2.1).Sk) ((gt r1.1.fL r2.1).Ee) ((gt r1.1.fL r2.1).Sl) ((gt r1.1.fL r2.1).Sm) ((gt r1.1.fL r2.1).Ay) ((gt r1.1.fL r2.1).Acv) ((gt r1.1.fL r2.1).Sn) (((gt r1.1.fL r2.1).F4)++([(Bc.mk r43.1 2 0)]:List Bc)) ((gt r1.1.fL r2.1).Fh))) r1.1.fQ r1.1.Acw 0 0 0 0 0 0 [] [] [] [] [] [])else none)else none))else none)else none)else(bif (r3.1==11)then((Ap K r3.2 4).bind fun r44=>(if(0:Int)≤r2.1∧r2.1<(r1.1.fL.length:Int)then(Aqh (r1.1.fL.set r2.1.toNat (As.mk ((gt r1.1.fL r2.1).Vg) ((gt r1.1.fL r2.1).C8) ((gt r1.1.fL r2.1).Sj) ((gt r1.1.fL r2.1).fUp) ((gt r1.1.fL r2.1).Sk) ((gt r1.1.fL r2.1).Ee) r44.1 ((gt r1.1.fL r2.1).Sm) ((gt r1.1.fL r2.1).Ay) ((gt r1.1.fL r2.1).Acv) ((gt r1.1.fL r2.1).Sn) ((gt r1.1.fL r2.1).F4) ((gt r1.1.fL r2.1).Fh))) fun v45=>(Aa2 K r44.2.fb r44.2.fi r44.2.fh r1.1.fC.Ay r1.1.fC.G6 r1.1.fC.E5 r1.1.fC.Gs r1.1.fC.E6 r1.1.fC.G7 r1.1.fP.N5 r1.1.fP.Vg r1.1.fP.N6 v45 r1.1.fQ r1.1.Acw 0 0 0 0 0 0 [] [] [] [] [] []))else none))else(bif (r3.1==12)then(bif (decide ((r1.1.fQ.length:Int)>0))then((Ap K r3.2 9).bind fun r46=>(if(0:Int)≤0∧0<(r1.1.fQ.length:Int)then(Aa2 K r46.2.fb r46.2.fi r46.2.fh r1.1.fC.Ay r1.1.fC.G6 r1.1.fC.E5 r1.1.fC.Gs r1.1.fC.E6 r1.1.fC.G7 r1.1.fP.N5 r1.1.fP.Vg r1.1.fP.N6 r1.1.fL (r1.1.fQ.set (0:Int).toNat (Az.mk ((gt r1.1.fQ 0).Bk) ((gt r1.1.fQ 0).Ee) ((gt r1.1.fQ 0).Fh) ((gt r1.1.fQ 0).Ay) r46.1)) r1.1.Acw 0 0 0 0 0 0 [] [] [] [] [] [])else none))else(Aa2 K r3.2.fb r3.2.fi r3.2.fh r1.1.fC.Ay r1.1.fC.G6 r1.1.fC.E5 r1.1.fC.Gs r1.1.fC.E6 r1.1.fC.G7 r1.1.fP.N5 r1.1.fP.Vg r1.1.fP.N6 r1.1.fL r1.1.fQ r1.1.Acw 0 0 0 0 0 0 [] [] [] [] [] []))else(Aa2 K r3.2.fb r3.2.fi r3.2.fh r1.1.fC.Ay r1.1.fC.G6 r1.1.fC.E5 r1.1.fC.Gs r1.1.fC.E6 r1.1.fC.G7 r1.1.fP.N5 r1.1.fP.Vg r1.1.fP.N6 r1.1.fL r1.1.fQ r1.1.Acw 0 0 0 0 0 0 [] [] [] [] [] [])))))))))))))))))
def Brb:=fd Tryz.func94 ⟨[.b 148 false,.v 3],[.v 32],false⟩ (gC (A2g K) (gC (Bs5 K) (gC (Bs6 K) (gC (A7i K) (gC (Bs9 K) (gC (Btc K) gN)))))) [] [15] [(29,[.opn 20387 (.tmp 6),.takeE 20387 11 64779])] [(104,[.put 3104,.shal 3104]),(114,[.frzT 114])]
def B08:Ei:=⟨[(4,.p 104),(5,.p 105)],[(1,.box [.v 22,.v 2,.v 2]),(105,.box [.v 2,.v 2,.v 2,.v 2,.v 2,.v 2,.v 22,.v 26,.v 26,.v 29,.v 30,.v 26]),(104,.box [.v 2,.v 2,.v 2,.v 2,.v 2,.v 2,.v 22,.v 26,.v 26,.v 29,.v 30,.v 26])]⟩
def Bkm:=jn (Brb K) 15 B08 [] (Aa2 K) kN
def Btd:=ct (Brb K) (Azp K) (kC (Bkm K) kN)
def Avf (K:Nat)(a0:List Int)(a1:Int):Option (D0×C4):=((A0g K a0).bind fun r1=>((Azp K r1 a1).bind fun r2=>some (r2.2,r2.1)))
def Bkn:=ct (fd Tryz.func65 ⟨[.v 22,.v 3],[.p 148 false,.v 32],false⟩ (gC (Bzg K) (gC (Btd K) gN))) (Avf K)
def Avg (K:Nat)(v4:List Int)(v5:Int)(v6:Int)(v7:Am)(v8:Am):Option (Am×D0):=some (v7,(D0.mk v4 v5 v6))
def Ayk (K:Nat)(a0:D0):Option (Am×D0):=((At2 K a0).bind fun r1=>((Ap K r1.2 8).bind fun r2=>(bif (r2.1==0)then((P2 K r2.2 ([(-1),1000000000,9]:List Int)).bind fun r3=>(if r3.2.2.length=([(-1),1000000000,9]:List Int).length then(Avg K r3.2.1.fb r3.2.1.fi r3.2.1.fh (Am.mk r3.1 r1.1.C8) (Am.mk 0 0))else none))else(bif (r2.1==1)then((P2 K r2.2 ([0,(-1),5]:List Int)).bind fun r9=>(if r9.2.2.length=([0,(-1),5]:List Int).length then(Avg K r9.2.1.fb r9.2.1.fi r9.2.1.fh (Am.mk r1.1.Bk r9.1) (Am.mk 0 0))else none))else(Avg K r2.2.fb r2.2.fi r2.2.fh r1.1 (Am.mk 0 0))))))
def Brc:=fd Tryz.func207 ⟨[.b 148 false],[.v 36],false⟩ (gC (A2g K) (gC (A7i K) (gC (Bqn K) gN))) [] [7]
def B09:Ei:=⟨[(2,.p 102),(3,.p 103)],[(1,.box [.v 22,.v 2,.v 2]),(103,.st 36 true),(102,.st 36 true)]⟩
def Bpr:=jn (Brc K) 7 B09 [] (Avg K) kN
def Bte:=ct (Brc K) (Ayk K) (kC (Bpr K) kN)
def Atw (K:Nat)(v16:List Int)(v17:Int)(v18:Int)(v19:Am):Option (Am×D0):=some (v19,(D0.mk v16 v17 v18))
def Ap0 (K:Nat)(v10:List Int)(v11:Int)(v12:Int)(v13:Am)(v14:Am):Option (Am×D0):=((Agm K (D0.mk v10 v11 v12) 10).bind fun r15=>(bif r15.1 then(Atw K r15.2.fb r15.2.fi r15.2.fh (Am.mk v13.Bk (An3 .i64 v13.C8 1)))else(Atw K r15.2.fb r15.2.fi r15.2.fh v13)))
def Av2 (K:Nat)(a0:D0)(a1:C4):Option (Am×D0):=(bif ((a1.fL.length:Int)==0)then((Ayk K a0).bind fun r1=>some (r1.1,r1.2))else((Agm K a0 6).bind fun r2=>(bif r2.1 then((Ayk K r2.2).bind fun r3=>some (r3.1,r3.2))else((Ap K r2.2 (a1.fL.length:Int)).bind fun r4=>((Ank K a1.fL r4.1).bind fun r5=>((Au2 K a1).bind fun r6=>(bif (decide ((r6.length:Int)>0))then((Agm K r4.2 4).bind fun r7=>(bif (!r7.1)then((Ap K r7.2 (r6.length:Int)).bind fun r8=>(if(0:Int)≤r8.1∧r8.1<(r6.length:Int)then((Ank K a1.fL (gt r6 r8.1)).bind fun r9=>(Ap0 K r8.2.fb r8.2.fi r8.2.fh r9 (Am.mk 0 0)))else none))else(Ap0 K r7.2.fb r7.2.fi r7.2.fh r5 (Am.mk 0 0))))else(Ap0 K r4.2.fb r4.2.fi r4.2.fh r5 (Am.mk 0 0)))))))))
def Bko:=fd Tryz.func117 ⟨[.b 148 false,.v 32],[.v 36],false⟩ (gC (Bi6 K) (gC (A2g K) (gC (A5b K) (gC (Bi8 K) (gC (Bte K) gN))))) [10,11,29,30] [31,63]
def B1a:Ei:=⟨[(4,.p 104),(5,.p 105)],[(1,.box [.v 22,.v 2,.v 2]),(105,.st 36 true),(104,.st 36 true)]⟩
def B1b:Ei:=⟨[(0,.p 1),(4,.p 104),(5,.p 105)],[(1,.box [.v 22,.v 2,.v 2]),(105,.st 36 true),(104,.st 36 true)]⟩
def Bkp:=jn (Bko K) 63 B1a [] (fun a b c d _=>Atw K a b c d) kN
def Bkq:=jn (Bko K) 31 B1b [] (Ap0 K) (kC (Bkp K) kN)
def Btf:=ct (Bko K) (Av2 K) (kC (Bkq K) kN)
def Arv (K:Nat)(v6:List Int)(v7:Int)(v8:Int)(v9:Bq)(v10:Bq):Option (Bq×D0):=some (v9,(D0.mk v6 v7 v8))
def Awl (K:Nat)(a0:D0)(a1:C4):Option (Bq×D0):=((Av2 K a0 a1).bind fun r1=>((Ap K r1.2 3).bind fun r2=>((Arc K a1.fL r1.1).bind fun r3=>(bif (decide (r3≥0))then((Agm K r2.2 6).bind fun r4=>(bif (!r4.1)then(if(0:Int)≤r3∧r3<(a1.fL.length:Int)then(if(0:Int)≤r3∧r3<(a1.fL.length:Int)then(bif (decide ((((gt a1.fL r3).F4).length:Int)>0))then((Ap K r4.2 (((gt a1.fL r3).F4).length:Int)).bind fun r5=>(Arv K r5.2.fb r5.2.fi r5.2.fh (Bq.mk r1.1 ((gt a1.fL r3).Sj) r5.1) (Bq.mk (Am.mk 0 0) 0 0)))else(Arv K r4.2.fb r4.2.fi r4.2.fh (Bq.mk r1.1 ((gt a1.fL r3).Sj) r2.1) (Bq.mk (Am.mk 0 0) 0 0)))else none)else none)else(Arv K r4.2.fb r4.2.fi r4.2.fh (Bq.mk r1.1 0 r2.1) (Bq.mk (Am.mk 0 0) 0 0))))else(Arv K r2.2.fb r2.2.fi r2.2.fh (Bq.mk r1.1 0 r2.1) (Bq.mk (Am.mk 0 0) 0 0))))))
def Brd:=fd Tryz.func139 ⟨[.b 148 false,.v 32],[.v 38],false⟩ (gC (A2g K) (gC (Btf K) (gC (A5b K) (gC (Bja K) gN)))) [21,22] [31]
def B1c:Ei:=⟨[(4,.p 104),(6,.p 106)],[(1,.box [.v 22,.v 2,.v 2]),(106,.st 38 true),(104,.st 38 true)]⟩
def Bkr:=jn (Brd K) 31 B1c [] (Arv K) kN
def Bks:=ct (Brd K) (Awl K) (kC (Bkr K) kN)
def A2z (K:Nat)(a0:D0):Option (Int×D0):=((P2 K a0 ([(-1),0,1,2,255,256,65535,2147483647,2147483648,4294967295,4294967296,(-2147483648),9223372036854775807,(-9223372036854775808)]:List Int)).bind fun r1=>(if r1.2.2.length=([(-1),0,1,2,255,256,65535,2147483647,2147483648,4294967295,4294967296,(-2147483648),9223372036854775807,(-9223372036854775808)]:List Int).length then some (r1.1,r1.2.1)else none))
def Btg:=ct (fd Tryz.func261 ⟨[.b 148 false],[.v 3],false⟩ (gC (A7i K) gN)) (A2z K)
def A0u (K:Nat)(a0:D0):Option (Int×D0):=((Agm K a0 2).bind fun r1=>(bif r1.1 then((A2z K r1.2).bind fun r2=>some (r2.1,r2.2))else((P2 K r1.2 ([(-1),1000000000,1000000001]:List Int)).bind fun r3=>(if r3.2.2.length=([(-1),1000000000,1000000001]:List Int).length then some (r3.1,r3.2.1)else none))))
def Bth:=ct (fd Tryz.func224 ⟨[.b 148 false],[.v 3],false⟩ (gC (A7i K) (gC (A5b K) (gC (Btg K) gN)))) (A0u K)
def Aun (K:Nat)(a0:D0)(a1:Int):Option (Int×D0):=((Agm K a0 8).bind fun r1=>(bif r1.1 then((A0u K r1.2).bind fun r2=>some (r2.1,r2.2))else((Ap K r1.2 (An3 .i64 a1 2)).bind fun r3=>some (r3.1,r3.2))))
def Bkt:=ct (fd Tryz.func140 ⟨[.b 148 false,.v 3],[.v 3],false⟩ (gC (A2g K) (gC (A5b K) (gC (Bth K) gN)))) (Aun K)
def Av3 (K:Nat)(a0:List Int):Option (C4×Bq×Int×(List Int)):=((Avf K a0 40).bind fun r1=>((Awl K r1.1 r1.2).bind fun r2=>((Aun K r2.2 3).bind fun r3=>((Ap K r3.2 4).bind fun r4=>((Au3 K r4.2 r4.1).bind fun r5=>some (r1.2,r2.1,r3.1,r5.1))))))
def Bti:=ct (fd Tryz.func57 ⟨[.v 22],[.v 32,.v 38,.v 3,.n 22 true],false⟩ (gC (Bkn K) (gC (A2g K) (gC (Bks K) (gC (Bkt K) (gC (Bi7 K) gN)))))) (Av3 K)
def Wy (K:Nat)(a0:Int)(a1:Int)(a2:Int):Option (Bool):=(bif (decide (a0≥a1))then some (decide (a0≤a2))else some false)
def A15:=ct (fd Tryz.func116 ⟨[.v 3,.v 3,.v 3],[.v 4],true⟩ gN [9,10]) (Wy K)
def Auo (K:Nat)(a0:D9):Option (Bool):=((Wy K a0.Ay 2 12).bind fun r1=>(bif r1 then((Wy K a0.G6 8 16).bind fun r2=>(bif r2 then((Wy K a0.E5 2 8).bind fun r3=>(bif r3 then((Wy K a0.Gs 1 8).bind fun r4=>(bif r4 then((Wy K a0.E6 1 16).bind fun r5=>(bif r5 then((Wy K a0.G7 1 4).bind fun r6=>some r6)else some false))else some false))else some false))else some false))else some false))
def A94:=ct (fd Tryz.func34 ⟨[.v 25],[.v 4],true⟩ (gC (A15 K) gN) [5,6,9,10,11,14,15,16,19,20,21,24,25,26]) (Auo K)
def Ayl (K:Nat)(a0:D9):Option (Int):=((Auo K a0).bind fun r1=>(bif (!r1)then some 0 else some (An5 .i64 a0.Ay a0.G6)))
def Bku:=ct (fd Tryz.func165 ⟨[.v 25],[.v 3],true⟩ (gC (A94 K) gN)) (Ayl K)
def Ar6 (K:Nat)(a0:Dm)(a1:D9)(a2:Int):Option ((List Int)):=(if(0:Int)≤(An5 .i64 a2 a1.G6)∧(An5 .i64 a2 a1.G6)≤(An5 .i64 (An3 .i64 a2 1) a1.G6)∧(An5 .i64 (An3 .i64 a2 1) a1.G6)≤(a0.N5.length:Int)then some ((a0.N5.drop (An5 .i64 a2 a1.G6).toNat).take ((An5 .i64 (An3 .i64 a2 1) a1.G6) - (An5 .i64 a2 a1.G6)).toNat)else none)
def Bkv:=ct (fd Tryz.func167 ⟨[.v 28,.v 25,.v 3],[.v 22],false⟩ gN) (Ar6 K)
def A0a (K:Nat)(a0:Int):Option (Bool):=some (a0 != 0)
def Btj:=ct (fd Tryz.func236 ⟨[.v 5],[.v 4],true⟩ gN) (A0a K)
def Ags (K:Nat)(a0:List Int):Nat->Int->Int->Option (Int)
 |0,_,_=>none
 |n1+1,v1,v2=>(bif (decide (v2<v1))then(if(0:Int)≤v2∧v2<(a0.length:Int)then((A0a K (gt a0 v2)).bind fun r3=>(bif r3 then some v2 else(Ags K a0 n1 v1 (An3 .i64 v2 1))))else none)else some (-1))
def Amg (K:Nat)(a0:List Int):Option (Int):=(Ags K a0 K (a0.length:Int) 0)
def Bre:=fd Tryz.func268 ⟨[.v 22,.f 236 [] []],[.v 3],true⟩ (gC (Btj K) gN)
def B1d:Ei:=⟨[(0,.v 22),(1,.f 236 [] []),(7,.v 2),(8,.v 2)],[]⟩
def Bkw:=lp (Bre K) 26 B1d [] (fun n a=>Ags K a n) (fun n=>kN)
def Btk:=ct (Bre K) (Amg K) (kC (Bkw K K) kN)
def Akv (K:Nat)(a0:List Int):Option (Bool):=((Amg K a0).bind fun r1=>some (decide (r1≥0)))
def Btl:=ct (fd Tryz.func235 ⟨[.v 22,.f 236 [] []],[.v 4],true⟩ (gC (Btk K) gN)) (Akv K)
def Aup (K:Nat)(a0:List Int):Option (Bool):=((Akv K a0).bind fun r1=>some (!r1))
def Bdt:=ct (fd Tryz.func166 ⟨[.v 22],[.v 4],true⟩ (gC (Btl K) gN)) (Aup K)
def Aw7 (K:Nat)(v3:List Int)(v4:Int)(v6:List Int)(v7:List Int)(v8:List Int)(v12:Int)(C1:(List Int)->Int->Int->(List Int)->(List Int)->(List Int)->Option (Bool))(v16:Bool):Option (Bool):=(bif v16 then some false else(C1 v3 v4 (An3 .i64 v12 1) v6 v7 v8))
def Aqq (K:Nat)(a0:D9)(v3:List Int)(v4:Int)(v5:Int)(v6:List Int)(v7:List Int)(v8:List Int)(C1:(List Int)->Int->Int->(List Int)->(List Int)->(List Int)->Option (Bool))(v11:Int)(v12:Int)(v13:Bool):Option (Bool):=(bif v13 then some false else(bif (v11==0)then((Ar6 K (Dm.mk v6 v7 v8) a0 v5).bind fun r14=>((Aup K r14).bind fun r15=>(Aw7 K v3 v4 v6 v7 v8 v12 (C1) (!r15))))else(Aw7 K v3 v4 v6 v7 v8 v12 (C1) false)))
def Ako (K:Nat)(a0:D9):Nat->(List Int)->Int->Int->(List Int)->(List Int)->(List Int)->Option (Bool)
 |0,_,_,_,_,_,_=>none
 |n1+1,v3,v4,v5,v6,v7,v8=>(bif (decide (v5<v4))then(if(0:Int)≤v5∧v5<(v3.length:Int)then((Wy K (gt v3 v5) 0 2).bind fun r9=>(bif (!r9)then some false else(bif ((gt v3 v5)==1)then(if(0:Int)≤v5∧v5<(v8.length:Int)then((Wy K (gt v8 v5) 0 (An4 .i64 a0.E5 1)).bind fun r10=>(bif r10 then(bif ((gt v3 v5) != 1)then(if(0:Int)≤v5∧v5<(v8.length:Int)then(Aqq K a0 v3 v4 v5 v6 v7 v8 (Ako K a0 n1) (gt v3 v5) v5 ((gt v8 v5) != (-1)))else none)else(Aqq K a0 v3 v4 v5 v6 v7 v8 (Ako K a0 n1) (gt v3 v5) v5 false))else(Aqq K a0 v3 v4 v5 v6 v7 v8 (Ako K a0 n1) (gt v3 v5) v5 true)))else none)else(bif ((gt v3 v5) != 1)then(if(0:Int)≤v5∧v5<(v8.length:Int)then(Aqq K a0 v3 v4 v5 v6 v7 v8 (Ako K a0 n1) (gt v3 v5) v5 ((gt v8 v5) != (-1)))else none)else(Aqq K a0 v3 v4 v5 v6 v7 v8 (Ako K a0 n1) (gt v3 v5) v5 false)))))else none)else some true)
def Azq (K:Nat)(a0:D9)(a1:Dm):Option (Bool):=((Auo K a0).bind fun r1=>(bif r1 then((Ayl K a0).bind fun r2=>(bif ((a1.N5.length:Int) != r2)then some false else(bif ((a1.Vg.length:Int) != a0.Ay)then some false else(bif ((a1.N6.length:Int) != a0.Ay)then some false else(Ako K a0 K a1.Vg (a1.Vg.length:Int) 0 a1.N5 a1.Vg a1.N6)))))else some false))
def Bft:=fd Tryz.func85 ⟨[.v 25,.v 28],[.v 4],true⟩ (gC (A94 K) (gC (A15 K) (gC (Bku K) (gC (Bdt K) (gC (Bkv K) gN))))) [8,9,10,16,17,18,24,25,26,48,49,58,59,60,61,63,64,75,76] [29899,119599]
def B1e:Ei:=⟨[(2,.p 102),(3,.p 103),(35,.v 26),(36,.v 2),(37,.v 2),(73,.v 4)],[(103,.box [.v 22,.v 26,.v 26]),(102,.st 25 true)]⟩
def B1f:Ei:=⟨[(2,.p 102),(3,.p 103),(5,.v 2),(6,.v 2),(35,.v 26),(36,.v 2),(37,.v 2),(46,.v 4)],[(103,.box [.v 22,.v 26,.v 26]),(102,.st 25 true)]⟩
def Bkx:Ei:=⟨[(2,.p 102),(3,.p 103),(35,.v 26),(36,.v 2),(37,.v 2)],[(103,.box [.v 22,.v 26,.v 26]),(102,.st 25 true)]⟩
def A95:=fun(C58:CT Bkx _)=>jn (Bft K) 119599 B1e [(58,ar Bkx C58)] (fun a b c d e f g h=>Aw7 K a b e f g c (fun v3 v4 v5 v6 v7 v8=>C58 v3 v4 v5 v6 v7 v8 h) d) kN
def Bbx:=fun(C58:CT Bkx _)=>jn (Bft K) 29899 B1f [(58,ar Bkx C58)] (fun a b c d e f g h i j=>Aqq K j c d a g h i (fun v3 v4 v5 v6 v7 v8=>C58 v3 v4 v5 v6 v7 v8 j) b e f) (kC (A95 K _) kN)
def Bky:=lp (Bft K) 58 Bkx [] (fun n a b c d e f g=>Ako K g n a b c d e f) (fun n=>(kC (Bbx K _) kN))
def Btm:=ct (Bft K) (Azq K) (kC (Bky K K) kN)
def Agn (K:Nat)(a0:List Int):Option ((List Int)):=(bif a0.isEmpty then Aii (some []) ((if(([]:List Int)++a0).length*8≤140737488355328∧(([]:List Int)++a0).length≤maxLen then some (([]:List Int)++a0)else none))else(if(([]:List Int)++a0).length*8≤140737488355328∧(([]:List Int)++a0).length≤maxLen then some (([]:List Int)++a0)else none))
def A7k:=ct (fd Tryz.func131 ⟨[.v 26],[.n 26 true],true⟩ gN) (Agn K)
def Aiq (K:Nat)(a0:List Int)(a1:List Int):Nat->Int->Int->Option (Bool)
 |0,_,_=>none
 |n1+1,v1,v2=>(bif (decide (v2<v1))then(if(0:Int)≤v2∧v2<(a0.length:Int)then(if(0:Int)≤v2∧v2<(a1.length:Int)then(bif ((gt a0 v2) != (gt a1 v2))then some false else(Aiq K a0 a1 n1 v1 (An3 .i64 v2 1)))else none)else none)else some true)
def Aiw (K:Nat)(a0:List Int)(a1:List Int):Option (Bool):=(bif ((a0.length:Int) != (a1.length:Int))then some false else(Aiq K a0 a1 K (a0.length:Int) 0))
def Brf:=fd Tryz.func112 ⟨[.v 26,.v 26],[.v 4],true⟩ gN
def B1g:Ei:=⟨[(0,.v 26),(1,.v 26),(12,.v 2),(13,.v 2)],[]⟩
def Bkz:=lp Brf 58 B1g [] (fun n a b=>Aiq K a b n) (fun n=>kN)
def Bk0:=ct Brf (Aiw K) (kC (Bkz K K) kN)
def Ao4 (K:Nat)(a0:List Bc)(a1:List Bc):Nat->Int->Int->Option (Bool)
 |0,_,_=>none
 |n1+1,v1,v2=>(bif (decide (v2<v1))then(if(0:Int)≤v2∧v2<(a0.length:Int)then(if(0:Int)≤v2∧v2<(a1.length:Int)then(bif (!((((gt a0 v2).fAt)==((gt a1 v2).fAt))&&((((gt a0 v2).Ajk)==((gt a1 v2).Ajk))&&((((gt a0 v2).Ajl)==((gt a1 v2).Ajl))&&true))))then some false else(Ao4 K a0 a1 n1 v1 (An3 .i64 v2 1)))else none)else none)else some true)
def Am5 (K:Nat)(a0:List Bc)(a1:List Bc):Option (Bool):=(bif ((a0.length:Int) != (a1.length:Int))then some false else(Ao4 K a0 a1 K (a0.length:Int) 0))
def Brg:=fd Tryz.func259 ⟨[.v 48,.v 48],[.v 4],true⟩ gN
def B1h:Ei:=⟨[(0,.v 48),(1,.v 48),(12,.v 2),(13,.v 2)],[]⟩
def Bk1:=lp Brg 58 B1h [] (fun n a b=>Ao4 K a b n) (fun n=>kN)
def Btn:=ct Brg (Am5 K) (kC (Bk1 K K) kN)
def A0b (K:Nat)(a0:As)(a1:As):Option (Bool):=(bif (a0.Vg==a1.Vg)then(bif (a0.C8==a1.C8)then(bif (a0.Sj==a1.Sj)then(bif (a0.fUp==a1.fUp)then(bif (a0.Sk==a1.Sk)then(bif (a0.Ee==a1.Ee)then(bif (a0.Sl==a1.Sl)then(bif (a0.Sm==a1.Sm)then((Aiw K a0.Ay a1.Ay).bind fun r1=>(bif r1 then(bif (a0.Acv==a1.Acv)then(bif (a0.Sn==a1.Sn)then((Am5 K a0.F4 a1.F4).bind fun r2=>(bif r2 then((Aiw K a0.Fh a1.Fh).bind fun r3=>some r3)else some false))else some false)else some false)else some false))else some false)else some false)else some false)else some false)else some false)else some false)else some false)else some false)
def Bto:=ct (fd Tryz.func205 ⟨[.v 50,.v 50],[.v 4],true⟩ (gC (Bk0 K) (gC (Btn K) gN)) [9,10,15,16,17,22,23,24,29,30,31,36,37,38,43,44,45,50,51,52,57,58,59,64,65,66,71,72,73,78,79,80,85,86,87]) (A0b K)
def A1u (K:Nat)(a0:As):Option (Bool):=((A0b K a0 (As.mk a0.Vg a0.C8 0 0 0 0 0 0 ([]:List Int) 0 0 ([]:List Bc) ([]:List Int))).bind fun r1=>some r1)
def Btp:=ct (fd Tryz.func239 ⟨[.v 50],[.v 4],true⟩ (gC (Bto K) gN)) (A1u K)
def Aox (K:Nat)(a0:List Int)(a1:Int):Nat->Int->Int->Option (Int)
 |0,_,_=>none
 |n1+1,v1,v2=>(bif (decide (v2<v1))then(if(0:Int)≤v2∧v2<(a0.length:Int)then(bif (a1==(gt a0 v2))then some v2 else(Aox K a0 a1 n1 v1 (An3 .i64 v2 1)))else none)else some (-1))
def Axm (K:Nat)(a0:List Int)(a1:Int):Option (Int):=(Aox K a0 a1 K (a0.length:Int) 0)
def Brh:=fd Tryz.func210 ⟨[.v 26,.v 3],[.v 3],true⟩ gN
def Bx9:Ei:=⟨[(0,.v 26),(1,.v 2),(7,.v 2),(8,.v 2)],[]⟩
def Bk2:=lp Brh 26 Bx9 [] (fun n a b=>Aox K a b n) (fun n=>kN)
def Btq:=ct Brh (Axm K) (kC (Bk2 K K) kN)
def Anc (K:Nat)(a0:List Int)(a1:Int):Option (Bool):=((Axm K a0 a1).bind fun r1=>some (decide (r1≥0)))
def Bdu:=ct (fd Tryz.func119 ⟨[.v 26,.v 3],[.v 4],true⟩ (gC (Btq K) gN)) (Anc K)
def Apf (K:Nat)(a0:D9)(a1:List Int):Nat->(List Int)->Int->Int->Option (Bool)
 |0,_,_,_=>none
 |n1+1,v1,v2,v3=>(bif (decide (v3<v2))then(if(0:Int)≤v3∧v3<(v1.length:Int)then((Wy K (gt v1 v3) 0 (An4 .i64 a0.Ay 1)).bind fun r4=>(bif r4 then(if(0:Int)≤0∧0≤v3∧v3≤(a1.length:Int)then((Anc K ((a1.drop (0:Int).toNat).take (v3 - 0).toNat) (gt v1 v3)).bind fun r5=>(bif r5 then some false else(Apf K a0 a1 n1 v1 v2 (An3 .i64 v3 1))))else none)else some false))else none)else some true)
def Aud (K:Nat)(a0:D9)(a1:List Int):Option (Bool):=(Apf K a0 a1 K a1 (a1.length:Int) 0)
def Bri:=fd Tryz.func240 ⟨[.v 25,.v 26],[.v 4],true⟩ (gC (A15 K) (gC (Bdu K) gN)) [18,19,20]
def Bya:Ei:=⟨[(1,.v 26),(2,.p 102),(7,.v 26),(8,.v 2),(9,.v 2)],[(102,.st 25 true)]⟩
def Bk3:=lp (Bri K) 26 Bya [] (fun n a b c d e=>Apf K e a n b c d) (fun n=>kN)
def Bk4:=ct (Bri K) (Aud K) (kC (Bk3 K K) kN)
def Auw (K:Nat)(a0:Int):Option (Bool):=((Wy K a0 0 255).bind fun r1=>some (!r1))
def Btr:=ct (fd Tryz.func180 ⟨[.v 3],[.v 4],true⟩ (gC (A15 K) gN)) (Auw K)
def Agq (K:Nat)(a0:List Int):Nat->Int->Int->Option (Int)
 |0,_,_=>none
 |n1+1,v1,v2=>(bif (decide (v2<v1))then(if(0:Int)≤v2∧v2<(a0.length:Int)then((Auw K (gt a0 v2)).bind fun r3=>(bif r3 then some v2 else(Agq K a0 n1 v1 (An3 .i64 v2 1))))else none)else some (-1))
def Ak8 (K:Nat)(a0:List Int):Option (Int):=(Agq K a0 K (a0.length:Int) 0)
def Brj:=fd Tryz.func247 ⟨[.v 26,.f 180 [] []],[.v 3],true⟩ (gC (Btr K) gN)
def Byb:Ei:=⟨[(0,.v 26),(1,.f 180 [] []),(7,.v 2),(8,.v 2)],[]⟩
def Bk5:=lp (Brj K) 26 Byb [] (fun n a=>Agq K a n) (fun n=>kN)
def Bts:=ct (Brj K) (Ak8 K) (kC (Bk5 K K) kN)
def Akp (K:Nat)(a0:List Int):Option (Bool):=((Ak8 K a0).bind fun r1=>some (decide (r1≥0)))
def Btt:=ct (fd Tryz.func179 ⟨[.v 26,.f 180 [] []],[.v 4],true⟩ (gC (Bts K) gN)) (Akp K)
def Arw (K:Nat)(a0:List Int):Option (Bool):=((Akp K a0).bind fun r1=>some (!r1))
def Bdv:=ct (fd Tryz.func89 ⟨[.v 26],[.v 4],true⟩ (gC (Btt K) gN)) (Arw K)
def A3h (K:Nat)(a0:D9)(a1:Int):Option (Bool):=some (decide (a1>a0.G6))
def Btu:=ct (fd Tryz.func280 ⟨[.v 25,.v 3],[.v 4],true⟩ gN) (A3h K)
def A3i (K:Nat)(a0:Int)(a1:Int):Option (Int):=((Wy K a0 0 1000000000).bind fun r1=>(bif r1 then((Wy K a1 1 1000000000).bind fun r2=>(bif (!r2)then some 0 else(if a1≠(0:Int)then some (Ali .i64 (An4 .i64 (An3 .i64 a0 a1) 1) a1)else none)))else some 0))
def Btv:=ct (fd Tryz.func305 ⟨[.v 3,.v 3],[.v 3],true⟩ (gC (A15 K) gN) [6,7,8]) (A3i K)
def A2h (K:Nat)(a0:D9)(a1:Int):Option (Int):=((A3i K a1 a0.G6).bind fun r1=>some r1)
def Btw:=ct (fd Tryz.func281 ⟨[.v 25,.v 3],[.v 3],true⟩ (gC (Btv K) gN)) (A2h K)
def Atb (K:Nat)(a0:D9)(a1:Bc):Option (Bool):=((Ayl K a0).bind fun r1=>(bif (decide (a1.Ajk≤0))then some false else(bif (decide (a1.fAt<0))then some false else(bif (decide (a1.Ajk>r1))then some false else(bif (decide (a1.fAt>(An4 .i64 r1 a1.Ajk)))then some false else(bif (a1.Ajl==0)then(bif (decide (a1.Ajk≤a0.G6))then(if a0.G6≠(0:Int)then(if a0.G6≠(0:Int)then some ((Ali .i64 a1.fAt a0.G6)==(Ali .i64 (An4 .i64 (An3 .i64 a1.fAt a1.Ajk) 1) a0.G6))else none)else none)else some false)else((A3h K a0 a1.Ajk).bind fun r2=>(bif r2 then((A2h K a0 a1.Ajk).bind fun r3=>(bif (a1.Ajl==r3)then(if a0.G6≠(0:Int)then some ((Int.tmod a1.fAt a0.G6)==0)else none)else some false))else some false))))))))
def Bk6:=ct (fd Tryz.func242 ⟨[.v 25,.v 132],[.v 4],true⟩ (gC (Bku K) (gC (Btu K) (gC (Btw K) gN))) [10,11,14,15,16,20,21,22,38,39,59,60,67,68,69]) (Atb K)
def Aw8 (K:Nat)(a0:Bc)(a1:D9):Option (Bool):=((Atb K a1 a0).bind fun r1=>some (!r1))
def Btx:=ct (fd Tryz.func241 ⟨[.v 132,.r 25],[.v 4],true⟩ (gC (Bk6 K) gN)) (Aw8 K)
def Aeo (K:Nat)(a0:List Bc)(a1_0:D9):Nat->Int->Int->Option (Int)
 |0,_,_=>none
 |n1+1,v1,v2=>(bif (decide (v2<v1))then(if(0:Int)≤v2∧v2<(a0.length:Int)then((Aw8 K (gt a0 v2) a1_0).bind fun r3=>(bif r3 then some v2 else(Aeo K a0 a1_0 n1 v1 (An3 .i64 v2 1))))else none)else some (-1))
def Ao5 (K:Nat)(a0:List Bc)(a1_0:D9):Option (Int):=(Aeo K a0 a1_0 K (a0.length:Int) 0)
def Brk:=fd Tryz.func245 ⟨[.v 48,.f 241 [] [25]],[.v 3],true⟩ (gC (Btx K) gN)
def Byc:Ei:=⟨[(0,.v 48),(1,.f 241 [] [25]),(7,.v 2),(8,.v 2)],[]⟩
def Bk7:=lp (Brk K) 26 Byc [] (fun n a b=>Aeo K a b n) (fun n=>kN)
def Bty:=ct (Brk K) (Ao5 K) (kC (Bk7 K K) kN)
def Ag7 (K:Nat)(a0:List Bc)(a1_0:D9):Option (Bool):=((Ao5 K a0 a1_0).bind fun r1=>some (decide (r1≥0)))
def Btz:=ct (fd Tryz.func172 ⟨[.v 48,.f 241 [] [25]],[.v 4],true⟩ (gC (Bty K) gN)) (Ag7 K)
def Aqr (K:Nat)(a0:D9)(v19:List Bc)(v20:List Int):Option (Bool):=(bif (decide ((v19.length:Int)≤12))then(bif (decide ((v20.length:Int)≤6))then((Arw K v20).bind fun r25=>(bif r25 then((Ag7 K v19 a0).bind fun r26=>some (!r26))else some false))else some false)else some false)
def Apq (K:Nat)(a0:D9):Nat->(List Int)->Int->Int->Int->Int->Int->Int->Int->Int->Int->Int->(List Int)->Int->Int->(List Bc)->(List Int)->Option (Bool)
 |0,_,_,_,_,_,_,_,_,_,_,_,_,_,_,_,_=>none
 |n1+1,v5,v6,v7,v8,v9,v10,v11,v12,v13,v14,v15,v16,v17,v18,v19,v20=>(bif (decide (v7<v6))then(if(0:Int)≤v7∧v7<(v5.length:Int)then((Wy K (gt v5 v7) 0 a0.E5).bind fun r21=>(bif (!r21)then some false else(Apq K a0 n1 v5 v6 (An3 .i64 v7 1) v8 v9 v10 v11 v12 v13 v14 v15 v16 v17 v18 v19 v20)))else none)else(bif (decide (v10<0))then some false else(bif (decide (v12<0))then some false else((Aud K a0 v16).bind fun r22=>(bif r22 then(bif (v17 != 0)then((Anc K v16 (An4 .i64 v17 1)).bind fun r23=>(bif r23 then((Wy K v18 0 a0.G6).bind fun r24=>(bif r24 then(bif (v17==0)then(bif (v18 != 0)then some false else(Aqr K a0 v19 v20))else(Aqr K a0 v19 v20))else some false))else some false))else((Wy K v18 0 a0.G6).bind fun r27=>(bif r27 then(bif (v17==0)then(bif (v18 != 0)then some false else(Aqr K a0 v19 v20))else(Aqr K a0 v19 v20))else some false)))else some false)))))
def Azr (K:Nat)(a0:D9)(a1:As):Option (Bool):=((Auo K a0).bind fun r1=>(bif r1 then((Wy K a1.Vg 0 3).bind fun r2=>(bif r2 then((Wy K a1.C8 1 a0.G7).bind fun r3=>(bif (!r3)then some false else(bif (a1.Vg != 1)then((A1u K a1).bind fun r4=>some r4)else(Apq K a0 K ([a1.fUp,a1.Ee,a1.Sl,a1.Sm]:List Int) (([a1.fUp,a1.Ee,a1.Sl,a1.Sm]:List Int).length:Int) 0 a1.Vg a1.C8 a1.Sj a1.fUp a1.Sk a1.Ee a1.Sl a1.Sm a1.Ay a1.Acv a1.Sn a1.F4 a1.Fh))))else some false))else some false))
def Bk8:=fd Tryz.func169 ⟨[.v 25,.v 50],[.v 4],true⟩ (gC (A94 K) (gC (Bdv K) (gC (A15 K) (gC (Bdu K) (gC (Btz K) (gC (Btp K) (gC (Bk4 K) gN))))))) [8,9,10,13,14,15,16,51,52,55,56,57,61,62,63,64,67,68,74,75,76,77,78,83,84,85,86,89,90,99,100,104,105,106,109,110,111] [31] [(13,[.frzB 102 25])]
def Byd:Ei:=⟨[(2,.p 102),(3,.p 103)],[(103,.box [.v 2,.v 2,.v 2,.v 2,.v 2,.v 2,.v 2,.v 2,.v 26,.v 2,.v 2,.v 48,.v 26]),(102,.st 25 true)]⟩
def Bye:Ei:=⟨[(2,.p 102),(3,.p 103),(37,.v 26),(38,.v 2),(39,.v 2)],[(103,.box [.v 2,.v 2,.v 2,.v 2,.v 2,.v 2,.v 2,.v 2,.v 26,.v 2,.v 2,.v 48,.v 26]),(102,.st 25 true)]⟩
def Bk9:=jn (Bk8 K) 31 Byd [] (fun _ _ _ _ _ _ _ _ _ _ _ l m o=>Aqr K o l m) kN
def Bhi:=lp (Bk8 K) 122 Bye [] (fun n a b c d e f g h i j k l m o p q r=>Apq K r n a b c d e f g h i j k l m o p q) (fun n=>(kC (up (Bk9 K)) kN))
def Bt0:=ct (Bk8 K) (Azr K) (kC (Bhi K K) kN)
def Atc (K:Nat)(v2:Int)(v3:Int)(v4:List Int)(v5:List Int)(v6:List Int)(C1:(List Int)->Int->Int->(List Int)->(List Int)->(List Int)->Option ((List Int)))(v7:List Int):Option ((List Int)):=(C1 v7 v2 (An3 .i64 v3 1) v4 v5 v6)
def Am3 (K:Nat)(a1:Int):Nat->(List Int)->Int->Int->(List Int)->(List Int)->(List Int)->Option ((List Int))
 |0,_,_,_,_,_,_=>none
 |n1+1,v1,v2,v3,v4,v5,v6=>(bif (decide (v3<v2))then(if(0:Int)≤v3∧v3<(v5.length:Int)then(bif ((gt v5 v3)==1)then(if(0:Int)≤v3∧v3<(v6.length:Int)then(bif ((gt v6 v3)==a1)then(if(v1++([v3]:List Int)).length*8≤140737488355328∧(v1++([v3]:List Int)).length≤maxLen then(Atc K v2 v3 v4 v5 v6 (Am3 K a1 n1) (v1++([v3]:List Int)))else none)else(Atc K v2 v3 v4 v5 v6 (Am3 K a1 n1) v1))else none)else(Atc K v2 v3 v4 v5 v6 (Am3 K a1 n1) v1))else none)else some v1)
def Aym (K:Nat)(a0:Dm)(a1:Int):Option ((List Int)):=(Am3 K a1 K ([]:List Int) (Zw (a0.Vg.length:Int) (a0.N6.length:Int)) 0 a0.N5 a0.Vg a0.N6)
def Bla:=fd Tryz.func114 ⟨[.v 28,.v 3],[.n 26 true],true⟩ gN [23,24] [467]
def Bfu:Ei:=⟨[(1,.v 2),(2,.p 102),(5,.o 1005 3 true),(14,.v 2),(15,.v 2)],[(102,.box [.v 22,.v 26,.v 26])]⟩
def Bhj:=fun(C58:CT Bfu _)=>jn Bla 467 Bfu [(58,ar Bfu C58)] (fun a b c d e f g=>Atc K c d e f g (C58 a) b) kN
def Blb:=lp Bla 58 Bfu [] (fun n a=>Am3 K a n) (fun n=>(kC (Bhj K _) kN))
def Bt1:=ct Bla (Aym K) (kC (Blb K K) kN)
def Am7 (K:Nat)(a0:Bc)(a1:D9)(a2:As):Nat->Int->Option (Bool)
 |0,_=>none
 |n1+1,v2=>(if a1.G6≠(0:Int)then(bif (decide (v2≤(Ali .i64 (An4 .i64 (An3 .i64 a0.fAt a0.Ajk) 1) a1.G6)))then((Anc K a2.Ay v2).bind fun r3=>(bif (!r3)then some true else(Am7 K a0 a1 a2 n1 (An3 .i64 v2 1))))else some false)else none)
def Ar7 (K:Nat)(a0:Bc)(a1:D9)(a2:As):Option (Bool):=((Atb K a1 a0).bind fun r1=>(bif (!r1)then some true else(if a1.G6≠(0:Int)then(Am7 K a0 a1 a2 K (Ali .i64 a0.fAt a1.G6))else none)))
def Brl:=fd Tryz.func243 ⟨[.v 132,.r 25,.r 50],[.v 4],true⟩ (gC (Bdu K) (gC (Bk6 K) gN))
def Byf:Ei:=⟨[(1,.r 25),(2,.r 50),(3,.p 103),(5,.v 2)],[(103,.st 132 true)]⟩
def Blc:=lp (Brl K) 58 Byf [] (fun n a b c d=>Am7 K d a b n c) (fun n=>kN)
def Bt2:=ct (Brl K) (Ar7 K) (kC (Blc K K) kN)
def Ad2 (K:Nat)(a0:List Bc)(a1_0:D9)(a1_1:As):Nat->Int->Int->Option (Int)
 |0,_,_=>none
 |n1+1,v1,v2=>(bif (decide (v2<v1))then(if(0:Int)≤v2∧v2<(a0.length:Int)then((Ar7 K (gt a0 v2) a1_0 a1_1).bind fun r3=>(bif r3 then some v2 else(Ad2 K a0 a1_0 a1_1 n1 v1 (An3 .i64 v2 1))))else none)else some (-1))
def Ano (K:Nat)(a0:List Bc)(a1_0:D9)(a1_1:As):Option (Int):=(Ad2 K a0 a1_0 a1_1 K (a0.length:Int) 0)
def Brm:=fd Tryz.func245 ⟨[.v 48,.f 243 [] [25,50]],[.v 3],true⟩ (gC (Bt2 K) gN)
def Byg:Ei:=⟨[(0,.v 48),(1,.f 243 [] [25,50]),(7,.v 2),(8,.v 2)],[]⟩
def Bld:=lp (Brm K) 26 Byg [] (fun n a b c=>Ad2 K a b c n) (fun n=>kN)
def Bt3:=ct (Brm K) (Ano K) (kC (Bld K K) kN)
def Agu (K:Nat)(a0:List Bc)(a1_0:D9)(a1_1:As):Option (Bool):=((Ano K a0 a1_0 a1_1).bind fun r1=>some (decide (r1≥0)))
def Bt4:=ct (fd Tryz.func172 ⟨[.v 48,.f 243 [] [25,50]],[.v 4],true⟩ (gC (Bt3 K) gN)) (Agu K)
def Aw9 (K:Nat)(a0:D9)(a1:As):Option (Bool):=((Agu K a1.F4 a0 a1).bind fun r1=>some (!r1))
def Bt5:=ct (fd Tryz.func170 ⟨[.v 25,.v 50],[.v 4],true⟩ (gC (Bt4 K) gN) [] [] [(1,[.frzB 102 25,.frzB 103 50])]) (Aw9 K)
def Ayn (K:Nat)(v1:Bc)(v2:Bc):Option (Bool):=some (decide ((An4 .u64 (IntKind.u64.wrap v1.fAt) (IntKind.u64.wrap v2.fAt))≥(IntKind.u64.wrap v2.Ajk)))
def Ayo (K:Nat)(a0:Bc)(a1:Bc):Option (Bool):=(bif (decide (a0.Ajk≤0))then some true else(bif (decide (a1.Ajk≤0))then some true else(bif (decide (a0.fAt>a1.fAt))then(Ayn K a0 a1)else(Ayn K a1 a0))))
def Brn:=fd Tryz.func174 ⟨[.v 132,.v 132],[.v 4],true⟩ gN [7,8] [7]
def Byh:Ei:=⟨[(2,.p 102),(3,.p 103)],[(103,.st 132 true),(102,.st 132 true)]⟩
def Bps:=jn Brn 7 Byh [] (Ayn K) kN
def Ble:=ct Brn (Ayo K) (kC (Bps K) kN)
def Aux (K:Nat)(a0:Bc)(a1:Bc):Option (Bool):=((Ayo K a0 a1).bind fun r1=>some (!r1))
def Bt6:=ct (fd Tryz.func244 ⟨[.v 132,.r 132],[.v 4],true⟩ (gC (Ble K) gN)) (Aux K)
def Ad3 (K:Nat)(a0:List Bc)(a1_0:Bc):Nat->Int->Int->Option (Int)
 |0,_,_=>none
 |n1+1,v1,v2=>(bif (decide (v2<v1))then(if(0:Int)≤v2∧v2<(a0.length:Int)then((Aux K (gt a0 v2) a1_0).bind fun r3=>(bif r3 then some v2 else(Ad3 K a0 a1_0 n1 v1 (An3 .i64 v2 1))))else none)else some (-1))
def Anr (K:Nat)(a0:List Bc)(a1_0:Bc):Option (Int):=(Ad3 K a0 a1_0 K (a0.length:Int) 0)
def Bro:=fd Tryz.func245 ⟨[.v 48,.f 244 [] [132]],[.v 3],true⟩ (gC (Bt6 K) gN)
def Byi:Ei:=⟨[(0,.v 48),(1,.f 244 [] [132]),(7,.v 2),(8,.v 2)],[]⟩
def Blf:=lp (Bro K) 26 Byi [] (fun n a b=>Ad3 K a b n) (fun n=>kN)
def Bt7:=ct (Bro K) (Anr K) (kC (Blf K K) kN)
def Agw (K:Nat)(a0:List Bc)(a1_0:Bc):Option (Bool):=((Anr K a0 a1_0).bind fun r1=>some (decide (r1≥0)))
def Bt8:=ct (fd Tryz.func172 ⟨[.v 48,.f 244 [] [132]],[.v 4],true⟩ (gC (Bt7 K) gN)) (Agw K)
def Apg (K:Nat)(a0:List Bc):Nat->(List Bc)->Int->Int->Option (Bool)
 |0,_,_,_=>none
 |n1+1,v1,v2,v3=>(bif (decide (v3<v2))then(if(0:Int)≤v3∧v3<(v1.length:Int)then(if(0:Int)≤0∧0≤v3∧v3≤(a0.length:Int)then((Agw K ((a0.drop (0:Int).toNat).take (v3 - 0).toNat) (gt v1 v3)).bind fun r4=>(bif r4 then some false else(Apg K a0 n1 v1 v2 (An3 .i64 v3 1))))else none)else none)else some true)
def Axa (K:Nat)(a0:List Bc):Option (Bool):=(Apg K a0 K a0 (a0.length:Int) 0)
def Brp:=fd Tryz.func171 ⟨[.v 48],[.v 4],true⟩ (gC (Bt8 K) gN) [] [] [(4,[.frzB 104 132])]
def Byj:Ei:=⟨[(0,.v 48),(5,.v 48),(6,.v 2),(7,.v 2)],[]⟩
def Blg:=lp (Brp K) 26 Byj [] (fun n a=>Apg K a n) (fun n=>kN)
def Bt9:=ct (Brp K) (Axa K) (kC (Blg K K) kN)
def Aqs (K:Nat)(a0:Bc)(a1:Bc):Option (Bool):=((Ayo K a0 a1).bind fun r1=>some (!r1))
def Bua:=ct (fd Tryz.func173 ⟨[.v 132,.r 132],[.v 4],true⟩ (gC (Ble K) gN)) (Aqs K)
def Aas (K:Nat)(a0:List Bc)(a1_0:Bc):Nat->Int->Int->Option (Int)
 |0,_,_=>none
 |n1+1,v1,v2=>(bif (decide (v2<v1))then(if(0:Int)≤v2∧v2<(a0.length:Int)then((Aqs K (gt a0 v2) a1_0).bind fun r3=>(bif r3 then some v2 else(Aas K a0 a1_0 n1 v1 (An3 .i64 v2 1))))else none)else some (-1))
def Ak9 (K:Nat)(a0:List Bc)(a1_0:Bc):Option (Int):=(Aas K a0 a1_0 K (a0.length:Int) 0)
def Brq:=fd Tryz.func245 ⟨[.v 48,.f 173 [] [132]],[.v 3],true⟩ (gC (Bua K) gN)
def Byk:Ei:=⟨[(0,.v 48),(1,.f 173 [] [132]),(7,.v 2),(8,.v 2)],[]⟩
def Blh:=lp (Brq K) 26 Byk [] (fun n a b=>Aas K a b n) (fun n=>kN)
def Bub:=ct (Brq K) (Ak9 K) (kC (Blh K K) kN)
def Ae5 (K:Nat)(a0:List Bc)(a1_0:Bc):Option (Bool):=((Ak9 K a0 a1_0).bind fun r1=>some (decide (r1≥0)))
def Buc:=ct (fd Tryz.func172 ⟨[.v 48,.f 173 [] [132]],[.v 4],true⟩ (gC (Bub K) gN)) (Ae5 K)
def Aqt (K:Nat)(v1:List As)(v2:Int)(v3:Int)(v4:Int)(v5:Int)(v6:Int)(v7:Int)(v8:Int)(v9:Int)(v10:List Int)(v11:List Int)(v12:List Int)(v13:List As)(v14:List Az)(v15:List Int)(C1:(List As)->Int->Int->Int->Int->Int->Int->Int->Int->(List Int)->(List Int)->(List Int)->(List As)->(List Az)->(List Int)->Option (Bool)):Option (Bool):=(C1 v1 v2 (An3 .i64 v3 1) v4 v5 v6 v7 v8 v9 v10 v11 v12 v13 v14 v15)
def Agy (K:Nat):Nat->(List As)->Int->Int->Int->Int->Int->Int->Int->Int->(List Int)->(List Int)->(List Int)->(List As)->(List Az)->(List Int)->Option (Bool)
 |0,_,_,_,_,_,_,_,_,_,_,_,_,_,_,_=>none
 |n1+1,v1,v2,v3,v4,v5,v6,v7,v8,v9,v10,v11,v12,v13,v14,v15=>(bif (decide (v3<v2))then(if(0:Int)≤v3∧v3<(v1.length:Int)then((Agn K ((gt v1 v3).Ay)).bind fun r16=>((Eb K r16).bind fun r17=>(if r17.length=r16.length then((Azr K (D9.mk v4 v5 v6 v7 v8 v9) (gt v1 v3)).bind fun r18=>(bif r18 then((Aym K (Dm.mk v10 v11 v12) v3).bind fun r19=>((Aiw K r17 r19).bind fun r20=>(bif r20 then((Aw9 K (D9.mk v4 v5 v6 v7 v8 v9) (gt v1 v3)).bind fun r21=>(bif r21 then((Axa K ((gt v1 v3).F4)).bind fun r22=>(bif (!r22)then some false else(bif (((gt v1 v3).Acv)==0)then(Aqt K v1 v2 v3 v4 v5 v6 v7 v8 v9 v10 v11 v12 v13 v14 v15 (Agy K n1))else(if(0:Int)≤((Bc.mk (An3 .i64 (An5 .i64 (An4 .i64 ((gt v1 v3).Acv) 1) v5) ((gt v1 v3).Sn)) (An4 .i64 v5 ((gt v1 v3).Sn)) 0).fAt)∧((Bc.mk (An3 .i64 (An5 .i64 (An4 .i64 ((gt v1 v3).Acv) 1) v5) ((gt v1 v3).Sn)) (An4 .i64 v5 ((gt v1 v3).Sn)) 0).fAt)≤(An3 .i64 ((Bc.mk (An3 .i64 (An5 .i64 (An4 .i64 ((gt v1 v3).Acv) 1) v5) ((gt v1 v3).Sn)) (An4 .i64 v5 ((gt v1 v3).Sn)) 0).fAt) ((Bc.mk (An3 .i64 (An5 .i64 (An4 .i64 ((gt v1 v3).Acv) 1) v5) ((gt v1 v3).Sn)) (An4 .i64 v5 ((gt v1 v3).Sn)) 0).Ajk))∧(An3 .i64 ((Bc.mk (An3 .i64 (An5 .i64 (An4 .i64 ((gt v1 v3).Acv) 1) v5) ((gt v1 v3).Sn)) (An4 .i64 v5 ((gt v1 v3).Sn)) 0).fAt) ((Bc.mk (An3 .i64 (An5 .i64 (An4 .i64 ((gt v1 v3).Acv) 1) v5) ((gt v1 v3).Sn)) (An4 .i64 v5 ((gt v1 v3).Sn)) 0).Ajk))≤(v10.length:Int)then((Aup K ((v10.drop ((Bc.mk (An3 .i64 (An5 .i64 (An4 .i64 ((gt v1 v3).Acv) 1) v5) ((gt v1 v3).Sn)) (An4 .i64 v5 ((gt v1 v3).Sn)) 0).fAt).toNat).take ((An3 .i64 ((Bc.mk (An3 .i64 (An5 .i64 (An4 .i64 ((gt v1 v3).Acv) 1) v5) ((gt v1 v3).Sn)) (An4 .i64 v5 ((gt v1 v3).Sn)) 0).fAt) ((Bc.mk (An3 .i64 (An5 .i64 (An4 .i64 ((gt v1 v3).Acv) 1) v5) ((gt v1 v3).Sn)) (An4 .i64 v5 ((gt v1 v3).Sn)) 0).Ajk)) - ((Bc.mk (An3 .i64 (An5 .i64 (An4 .i64 ((gt v1 v3).Acv) 1) v5) ((gt v1 v3).Sn)) (An4 .i64 v5 ((gt v1 v3).Sn)) 0).fAt)).toNat)).bind fun r23=>(bif r23 then((Ae5 K ((gt v1 v3).F4) (Bc.mk (An3 .i64 (An5 .i64 (An4 .i64 ((gt v1 v3).Acv) 1) v5) ((gt v1 v3).Sn)) (An4 .i64 v5 ((gt v1 v3).Sn)) 0)).bind fun r24=>(bif r24 then some false else(Aqt K v1 v2 v3 v4 v5 v6 v7 v8 v9 v10 v11 v12 v13 v14 v15 (Agy K n1))))else some false))else none))))else some false))else some false)))else some false))else none)))else none)else some true)
def Ar8 (K:Nat)(a0:C4):Option (Bool):=(Agy K K a0.fL (a0.fL.length:Int) 0 a0.fC.Ay a0.fC.G6 a0.fC.E5 a0.fC.Gs a0.fC.E6 a0.fC.G7 a0.fP.N5 a0.fP.Vg a0.fP.N6 a0.fL a0.fQ a0.Acw)
def Bli:=fd Tryz.func86 ⟨[.v 32],[.v 4],true⟩ (gC (Bk0 K) (gC (Bt1 K) (gC (A7k K) (gC (Bdt K) (gC (Vq K) (gC (Bt0 K) (gC (Bt5 K) (gC (Bt9 K) (gC (Buc K) gN))))))))) [23,24,25,31,32,33,34,38,39,40,41,78,79,80] [211] [(10,[.frzB 106 132])]
def Bfv:Ei:=⟨[(1,.p 101),(8,.v 29),(9,.v 2),(10,.v 2)],[(101,.box [.v 2,.v 2,.v 2,.v 2,.v 2,.v 2,.v 22,.v 26,.v 26,.v 29,.v 30,.v 26])]⟩
def Bhk:=fun(C26:CT Bfv _)=>jn (Bli K) 211 Bfv [(26,ar Bfv C26)] (fun a b c d e f g h i j k l m o p=>Aqt K a b c d e f g h i j k l m o p C26) kN
def Blj:=lp (Bli K) 26 Bfv [] (Agy K) (fun n=>(kC (Bhk K _) kN))
def Bud:=ct (Bli K) (Ar8 K) (kC (Blj K K) kN)
def Anh (K:Nat)(a0:List As)(a1:Int):Option (Bool):=((Wy K a1 0 (An4 .i64 (a0.length:Int) 1)).bind fun r1=>some r1)
def A4s:=ct (fd Tryz.func75 ⟨[.v 29,.v 3],[.v 4],true⟩ (gC (A15 K) gN)) (Anh K)
def Auq (K:Nat)(a0:List As)(a1:Int):Option (Bool):=(bif (a1==0)then some true else((Anh K a0 (An4 .i64 a1 1)).bind fun r1=>(bif r1 then(if(0:Int)≤(An4 .i64 a1 1)∧(An4 .i64 a1 1)<(a0.length:Int)then some (((gt a0 (An4 .i64 a1 1)).Vg)==1)else none)else some false)))
def Bue:=ct (fd Tryz.func246 ⟨[.v 29,.v 3],[.v 4],true⟩ (gC (A4s K) gN) [6,7,11,12]) (Auq K)
def Aq7 (K:Nat)(a0:List As)(a1:Int):Option (Bool):=(if(0:Int)≤a1∧a1<(a0.length:Int)then((Anh K a0 (An4 .i64 ((gt a0 a1).fUp) 1)).bind fun r1=>(bif r1 then(if(0:Int)≤(An4 .i64 ((gt a0 a1).fUp) 1)∧(An4 .i64 ((gt a0 a1).fUp) 1)<(a0.length:Int)then(bif (((gt a0 (An4 .i64 ((gt a0 a1).fUp) 1)).Vg)==1)then(if(0:Int)≤(An4 .i64 ((gt a0 a1).fUp) 1)∧(An4 .i64 ((gt a0 a1).fUp) 1)<(a0.length:Int)then(if(0:Int)≤a1∧a1<(a0.length:Int)then some (((gt a0 (An4 .i64 ((gt a0 a1).fUp) 1)).Sj)==((gt a0 a1).Sk))else none)else none)else some false)else none)else some false))else none)
def Bdw:=ct (fd Tryz.func176 ⟨[.v 29,.v 3],[.v 4],true⟩ (gC (A4s K) gN) [14,15,21,22,23]) (Aq7 K)
def Atd (K:Nat)(a0:List As)(a1:Int)(v8:Int)(v12:Int):Option (Bool):=(bif (v12 != 0)then some true else((Aq7 K a0 a1).bind fun r18=>(bif r18 then(if(0:Int)≤(An4 .i64 v8 1)∧(An4 .i64 v8 1)<(a0.length:Int)then some (((gt a0 (An4 .i64 v8 1)).Ee)==(An3 .i64 a1 1))else none)else some true)))
def Ate (K:Nat)(a0:List As)(a1:Int)(v8:Int)(v12:Int):Option (Bool):=(bif (v12 != 0)then(if(0:Int)≤(An4 .i64 v12 1)∧(An4 .i64 v12 1)<(a0.length:Int)then(bif (((gt a0 (An4 .i64 v12 1)).Sl) != (An3 .i64 a1 1))then some false else(Atd K a0 a1 v8 v12))else none)else(Atd K a0 a1 v8 v12))
def Atf (K:Nat)(a0:List As)(a1:Int)(v8:Int)(v9:Int)(v11:Int)(v12:Int):Option (Bool):=(bif (v11 != 0)then(if(0:Int)≤(An4 .i64 v11 1)∧(An4 .i64 v11 1)<(a0.length:Int)then(bif (((gt a0 (An4 .i64 v11 1)).Sm) != (An3 .i64 a1 1))then some false else(bif (((gt a0 (An4 .i64 v11 1)).fUp) != v8)then some false else(bif (((gt a0 (An4 .i64 v11 1)).Sk) != v9)then some false else(Ate K a0 a1 v8 v12))))else none)else(Ate K a0 a1 v8 v12))
def Atg (K:Nat)(a0:List As)(a1:Int)(v5:Int)(v6:Int)(v7:Int)(v8:Int)(v9:Int)(v10:Int)(v11:Int)(v12:Int)(v13:List Int)(v14:Int)(v15:Int)(v16:List Bc)(v17:List Int):Option (Bool):=(bif (v10 != 0)then(if(0:Int)≤(An4 .i64 v10 1)∧(An4 .i64 v10 1)<(a0.length:Int)then(bif (((gt a0 (An4 .i64 v10 1)).Sm) != 0)then some false else(bif (((gt a0 (An4 .i64 v10 1)).fUp) != (An3 .i64 a1 1))then some false else(bif (((gt a0 (An4 .i64 v10 1)).Sk) != v7)then some false else(Atf K a0 a1 v8 v9 v11 v12))))else none)else(Atf K a0 a1 v8 v9 v11 v12))
def Ayp (K:Nat)(a0:List As)(a1:Int):Option (Bool):=(if(0:Int)≤a1∧a1<(a0.length:Int)then((Auq K a0 ((gt a0 a1).Ee)).bind fun r1=>(bif r1 then((Auq K a0 ((gt a0 a1).Sl)).bind fun r2=>(bif r2 then((Auq K a0 ((gt a0 a1).Sm)).bind fun r3=>(bif r3 then(bif (((gt a0 a1).fUp) != 0)then((Anh K a0 (An4 .i64 ((gt a0 a1).fUp) 1)).bind fun r4=>(bif (!r4)then some false else(Atg K a0 a1 ((gt a0 a1).Vg) ((gt a0 a1).C8) ((gt a0 a1).Sj) ((gt a0 a1).fUp) ((gt a0 a1).Sk) ((gt a0 a1).Ee) ((gt a0 a1).Sl) ((gt a0 a1).Sm) ((gt a0 a1).Ay) ((gt a0 a1).Acv) ((gt a0 a1).Sn) ((gt a0 a1).F4) ((gt a0 a1).Fh))))else(Atg K a0 a1 ((gt a0 a1).Vg) ((gt a0 a1).C8) ((gt a0 a1).Sj) ((gt a0 a1).fUp) ((gt a0 a1).Sk) ((gt a0 a1).Ee) ((gt a0 a1).Sl) ((gt a0 a1).Sm) ((gt a0 a1).Ay) ((gt a0 a1).Acv) ((gt a0 a1).Sn) ((gt a0 a1).F4) ((gt a0 a1).Fh)))else some false))else some false))else some false))else none)
def Bby:=fd Tryz.func175 ⟨[.v 29,.v 3],[.v 4],true⟩ (gC (A4s K) (gC (Bdw K) (gC (Bue K) gN))) [15,16,17,21,22,23,24,28,29,30,31,34,35,55,56,61,62,63,83,84,89,90,91,100,101,115,116,119,120,121,122] [7,15,31,63]
def Bll:=jn (Bby K) 63 Bbt [] (fun a b _ _ _ f _ _ _ j _ _ _ _ _=>Atd K a b f j) kN
def Blm:=jn (Bby K) 31 Bbt [] (fun a b _ _ _ f _ _ _ j _ _ _ _ _=>Ate K a b f j) (kC (Bll K) kN)
def Bln:=jn (Bby K) 15 Bbt [] (fun a b _ _ _ f g _ i j _ _ _ _ _=>Atf K a b f g i j) (kC (Blm K) kN)
def Bpt:=jn (Bby K) 7 Bbt [] (Atg K) (kC (Bln K) kN)
def Buf:=ct (Bby K) (Ayp K) (kC (Bpt K) kN)
def Awm (K:Nat)(a0:List As):Nat->Int->(List Int)->Option ((List Int))
 |0,_,_=>none
 |n1+1,v1,v2=>((Anh K a0 v1).bind fun r3=>(bif r3 then(bif (decide ((v2.length:Int)<(a0.length:Int)))then(if(v2++([v1]:List Int)).length*8≤140737488355328∧(v2++([v1]:List Int)).length≤maxLen then(if(0:Int)≤v1∧v1<(a0.length:Int)then(Awm K a0 n1 (An4 .i64 ((gt a0 v1).fUp) 1) (v2++([v1]:List Int)))else none)else none)else some v2)else some v2))
def Axv (K:Nat)(a0:List As)(a1:Int):Option ((List Int)):=(Awm K a0 K a1 ([]:List Int))
def Brr:=fd Tryz.func120 ⟨[.v 29,.v 3],[.n 26 true],true⟩ (gC (A4s K) gN) [9,10]
def Blo:=lp (Brr K) 28 h_4 [] (fun n a=>Awm K a n) (fun n=>kN)
def Bdx:=ct (Brr K) (Axv K) (kC (Blo K K) kN)
def Axb (K:Nat)(v1:List As)(v2:Int)(v3:Int)(C1:(List As)->Int->Int->Option (Bool)):Option (Bool):=(C1 v1 v2 (An3 .i64 v3 1))
def Apr (K:Nat)(a0:List As):Nat->(List As)->Int->Int->Option (Bool)
 |0,_,_,_=>none
 |n1+1,v1,v2,v3=>(bif (decide (v3<v2))then(if(0:Int)≤v3∧v3<(v1.length:Int)then(bif (((gt v1 v3).Vg) != 1)then(Axb K v1 v2 v3 (Apr K a0 n1))else((Ayp K a0 v3).bind fun r4=>(bif (!r4)then some false else((Axv K a0 v3).bind fun r5=>(bif (decide ((r5.length:Int)>4))then some false else(if(0:Int)≤(An4 .i64 (r5.length:Int) 1)∧(An4 .i64 (r5.length:Int) 1)<(r5.length:Int)then((Aq7 K a0 (gt r5 (An4 .i64 (r5.length:Int) 1))).bind fun r6=>(bif r6 then some false else(Axb K v1 v2 v3 (Apr K a0 n1))))else none))))))else none)else some true)
def Azs (K:Nat)(a0:List As):Option (Bool):=(Apr K a0 K a0 (a0.length:Int) 0)
def Blp:=fd Tryz.func87 ⟨[.v 29],[.v 4],true⟩ (gC (Bdx K) (gC (Buf K) (gC (Bdw K) gN))) [25,26] [211]
def Bfw:Ei:=⟨[(0,.v 29),(6,.v 29),(7,.v 2),(8,.v 2)],[]⟩
def Bhl:=fun(C26:CT Bfw _)=>jn (Blp K) 211 Bfw [(26,ar Bfw C26)] (fun a b c d=>Axb K b c d (C26 a)) kN
def Blq:=lp (Blp K) 26 Bfw [] (fun n a=>Apr K a n) (fun n=>(kC (Bhl K _) kN))
def Bug:=ct (Blp K) (Azs K) (kC (Blq K K) kN)
def Arx (K:Nat)(a0:List As)(a1:Int):Option (Bool):=(if(0:Int)≤a1∧a1<(a0.length:Int)then(bif (((gt a0 a1).Vg)==1)then(if(0:Int)≤a1∧a1<(a0.length:Int)then(bif (((gt a0 a1).fUp) != 0)then((Aq7 K a0 a1).bind fun r1=>some (!r1))else some false)else none)else some false)else none)
def Buh:=ct (fd Tryz.func178 ⟨[.v 29,.v 3],[.v 4],true⟩ (gC (Bdw K) gN) [10,11,17,18,19]) (Arx K)
def Ayq (K:Nat)(a0:D9)(a1:Az):Option (Bool):=((Auo K a0).bind fun r1=>(bif r1 then((Wy K a1.Bk 0 a0.E5).bind fun r2=>(bif r2 then((Wy K a1.Ee 0 a0.E5).bind fun r3=>(bif r3 then(bif (decide ((a1.Fh.length:Int)≤6))then((Arw K a1.Fh).bind fun r4=>(bif r4 then((Aud K a0 a1.Ay).bind fun r5=>(bif r5 then((Wy K a1.Wv 0 (An4 .i64 a0.G6 1)).bind fun r6=>(bif r6 then(bif (decide ((a1.Ay.length:Int)>0))then some true else some (a1.Wv==0))else some false))else some false))else some false))else some false)else some false))else some false))else some false))
def Bui:=ct (fd Tryz.func177 ⟨[.v 25,.v 52],[.v 4],true⟩ (gC (A94 K) (gC (Bdv K) (gC (A15 K) (gC (Bk4 K) gN)))) [6,7,12,13,14,19,20,21,25,26,27,30,31,32,36,37,38,44,45,46,50,51]) (Ayq K)
def Aue (K:Nat)(a0:List As):Nat->(List Int)->Int->Option ((List Int))
 |0,_,_=>none
 |n1+1,v1,v2=>((Anh K a0 v2).bind fun r3=>(bif r3 then(bif (decide ((v1.length:Int)<(a0.length:Int)))then(if(v1++([v2]:List Int)).length*8≤140737488355328∧(v1++([v2]:List Int)).length≤maxLen then(if(0:Int)≤v2∧v2<(a0.length:Int)then(Aue K a0 n1 (v1++([v2]:List Int)) (An4 .i64 ((gt a0 v2).Sl) 1))else none)else none)else some v1)else some v1))
def Azt (K:Nat)(a0:List As)(a1:Int):Option ((List Int)):=(Aue K a0 K ([]:List Int) (An4 .i64 a1 1))
def Brs:=fd Tryz.func124 ⟨[.v 29,.v 3],[.n 26 true],true⟩ (gC (A4s K) gN) [12,13]
def Byl:Ei:=⟨[(0,.v 29),(5,.o 1005 3 true),(6,.v 2)],[]⟩
def Blr:=lp (Brs K) 58 Byl [] (fun n a=>Aue K a n) (fun n=>kN)
def Buj:=ct (Brs K) (Azt K) (kC (Blr K K) kN)
def Aiy (K:Nat)(v4:List Az)(v5:Int)(v6:Int)(v7:Int)(v8:Int)(v9:Int)(v10:Int)(v11:Int)(v12:Int)(v13:List Int)(v14:List Int)(v15:List Int)(v16:List As)(v17:List Az)(v18:List Int)(v27:List Int)(v31:List Int)(r32:(List Int))(C1:(List Int)->(List Int)->(List Int)->(List Az)->Int->Int->Int->Int->Int->Int->Int->Int->(List Int)->(List Int)->(List Int)->(List As)->(List Az)->(List Int)->Option (Bool)):Nat->(List Int)->Int->Int->Option (Bool)
 |0,_,_,_=>none
 |n6+1,v33,v34,v35=>(bif (decide (v35<v34))then(if(0:Int)≤v35∧v35<(r32.length:Int)then(if(0:Int)≤(gt r32 v35)∧(gt r32 v35)<(v33.length:Int)then(if(0:Int)≤(gt r32 v35)∧(gt r32 v35)<(v33.length:Int)then((Arx K v16 (gt r32 v35)).bind fun r36=>(bif (!r36)then some false else(Aiy K v4 v5 v6 v7 v8 v9 v10 v11 v12 v13 v14 v15 v16 v17 v18 v27 v31 r32 C1 n6 (v33.set (gt r32 v35).toNat (An3 .i64 (gt v33 (gt r32 v35)) 1)) v34 (An3 .i64 v35 1))))else none)else none)else none)else(C1 v27 v31 v33 v4 v5 (An3 .i64 v6 1) v7 v8 v9 v10 v11 v12 v13 v14 v15 v16 v17 v18))
def Aph (K:Nat)(v3:List Int)(v4:List Az)(v5:Int)(v6:Int)(v7:Int)(v8:Int)(v9:Int)(v10:Int)(v11:Int)(v12:Int)(v13:List Int)(v14:List Int)(v15:List Int)(v16:List As)(v17:List Az)(v18:List Int)(v23:Int)(v27:List Int)(v31:List Int)(C1:(List Int)->(List Int)->(List Int)->(List Az)->Int->Int->Int->Int->Int->Int->Int->Int->(List Int)->(List Int)->(List Int)->(List As)->(List Az)->(List Int)->Option (Bool)):Option (Bool):=((Azt K v16 v23).bind fun r32=>(Aiy K v4 v5 v6 v7 v8 v9 v10 v11 v12 v13 v14 v15 v16 v17 v18 v27 v31 r32 (C1) K v3 (r32.length:Int) 0))
def Api (K:Nat)(v3:List Int)(v4:List Az)(v5:Int)(v6:Int)(v7:Int)(v8:Int)(v9:Int)(v10:Int)(v11:Int)(v12:Int)(v13:List Int)(v14:List Int)(v15:List Int)(v16:List As)(v17:List Az)(v18:List Int)(v23:Int)(v27:List Int)(C1:(List Int)->(List Int)->(List Int)->(List Az)->Int->Int->Int->Int->Int->Int->Int->Int->(List Int)->(List Int)->(List Int)->(List As)->(List Az)->(List Int)->Option (Bool))(v31:List Int):Option (Bool):=(bif (decide (v23>0))then(if(0:Int)≤(An4 .i64 v23 1)∧(An4 .i64 v23 1)<(v16.length:Int)then(bif (((gt v16 (An4 .i64 v23 1)).Sm) != 0)then some false else(Aph K v3 v4 v5 v6 v7 v8 v9 v10 v11 v12 v13 v14 v15 v16 v17 v18 v23 v27 v31 (C1)))else none)else(Aph K v3 v4 v5 v6 v7 v8 v9 v10 v11 v12 v13 v14 v15 v16 v17 v18 v23 v27 v31 (C1)))
def Ai9 (K:Nat)(v2:List Int)(v3:List Int)(v4:List Az)(v5:Int)(v6:Int)(v7:Int)(v8:Int)(v9:Int)(v10:Int)(v11:Int)(v12:Int)(v13:List Int)(v14:List Int)(v15:List Int)(v16:List As)(v17:List Az)(v18:List Int)(v22:Int)(v23:Int)(v25:List Int)(C1:(List Int)->(List Int)->(List Int)->(List Az)->Int->Int->Int->Int->Int->Int->Int->Int->(List Int)->(List Int)->(List Int)->(List As)->(List Az)->(List Int)->Option (Bool)):Nat->(List Int)->Int->Int->(List Int)->Option (Bool)
 |0,_,_,_,_=>none
 |n3+1,v27,v28,v29,v30=>(bif (decide (v29<v28))then(if(0:Int)≤v29∧v29<(v25.length:Int)then(if(0:Int)≤(gt v25 v29)∧(gt v25 v29)<(v27.length:Int)then(if(0:Int)≤(gt v25 v29)∧(gt v25 v29)<(v27.length:Int)then(if(0:Int)≤(gt v25 v29)∧(gt v25 v29)<(v14.length:Int)then(bif ((gt v14 (gt v25 v29)) != 2)then some false else(Ai9 K v2 v3 v4 v5 v6 v7 v8 v9 v10 v11 v12 v13 v14 v15 v16 v17 v18 v22 v23 v25 C1 n3 (v27.set (gt v25 v29).toNat (An3 .i64 (gt v27 (gt v25 v29)) 1)) v28 (An3 .i64 v29 1) v30))else none)else none)else none)else none)else(bif (decide (v22>0))then(if(0:Int)≤(An4 .i64 v22 1)∧(An4 .i64 v22 1)<(v2.length:Int)then(if(0:Int)≤(An4 .i64 v22 1)∧(An4 .i64 v22 1)<(v2.length:Int)then(if(0:Int)≤(An4 .i64 v22 1)∧(An4 .i64 v22 1)<(v16.length:Int)then(bif (((gt v16 (An4 .i64 v22 1)).Vg) != 2)then some false else(Api K v3 v4 v5 v6 v7 v8 v9 v10 v11 v12 v13 v14 v15 v16 v17 v18 v23 v27 (C1) (v2.set (An4 .i64 v22 1).toNat (An3 .i64 (gt v2 (An4 .i64 v22 1)) 1))))else none)else none)else none)else(Api K v3 v4 v5 v6 v7 v8 v9 v10 v11 v12 v13 v14 v15 v16 v17 v18 v23 v27 (C1) v2)))
def Apj (K:Nat)(v1:List Int)(v2:List Int)(v3:List Int)(v4:List Az)(v5:Int)(v6:Int)(v7:Int)(v8:Int)(v9:Int)(v10:Int)(v11:Int)(v12:Int)(v13:List Int)(v14:List Int)(v15:List Int)(v16:List As)(v17:List Az)(v18:List Int)(C1:(List Int)->(List Int)->(List Int)->(List Az)->Int->Int->Int->Int->Int->Int->Int->Int->(List Int)->(List Int)->(List Int)->(List As)->(List Az)->(List Int)->Option (Bool))(v22:Int)(v23:Int)(v24:List Int)(v25:List Int)(v26:Int):Option (Bool):=(Ai9 K v2 v3 v4 v5 v6 v7 v8 v9 v10 v11 v12 v13 v14 v15 v16 v17 v18 v22 v23 v25 (C1) K v1 (v25.length:Int) 0 v25)
def Aqu (K:Nat)(v37:Int)(v38:Int)(v39:List Int)(C7:Int->Int->(List Int)->Option (Bool)):Option (Bool):=(C7 v37 (An3 .i64 v38 1) v39)
def Ak2 (K:Nat)(v40:Int)(v41:Int)(v42:List As)(C9:Int->Int->(List As)->Option (Bool)):Option (Bool):=(C9 v40 (An3 .i64 v41 1) v42)
def Aba (K:Nat)(v2:List Int)(v3:List Int)(v16:List As):Nat->Int->Int->(List As)->Option (Bool)
 |0,_,_,_=>none
 |n9+1,v40,v41,v42=>(bif (decide (v41<v40))then(if(0:Int)≤v41∧v41<(v16.length:Int)then(bif (((gt v16 v41).Vg)==2)then(if(0:Int)≤v41∧v41<(v2.length:Int)then(bif ((gt v2 v41) != 1)then some false else((Arx K v42 v41).bind fun r43=>(bif r43 then(if(0:Int)≤v41∧v41<(v3.length:Int)then(bif ((gt v3 v41) != 1)then some false else(Ak2 K v40 v41 v42 (Aba K v2 v3 v16 n9)))else none)else(Ak2 K v40 v41 v42 (Aba K v2 v3 v16 n9)))))else none)else((Arx K v42 v41).bind fun r44=>(bif r44 then(if(0:Int)≤v41∧v41<(v3.length:Int)then(bif ((gt v3 v41) != 1)then some false else(Ak2 K v40 v41 v42 (Aba K v2 v3 v16 n9)))else none)else(Ak2 K v40 v41 v42 (Aba K v2 v3 v16 n9)))))else none)else some true)
def Agl (K:Nat)(v1:List Int)(v2:List Int)(v3:List Int)(v14:List Int)(v16:List As):Nat->Int->Int->(List Int)->Option (Bool)
 |0,_,_,_=>none
 |n7+1,v37,v38,v39=>(bif (decide (v38<v37))then(if(0:Int)≤v38∧v38<(v14.length:Int)then(bif ((gt v14 v38)==2)then(if(0:Int)≤v38∧v38<(v1.length:Int)then(bif ((gt v1 v38) != 1)then some false else(Aqu K v37 v38 v39 (Agl K v1 v2 v3 v14 v16 n7)))else none)else(Aqu K v37 v38 v39 (Agl K v1 v2 v3 v14 v16 n7)))else none)else(Aba K v2 v3 v16 K (v16.length:Int) 0 v16))
def Ht (K:Nat):Nat->(List Int)->(List Int)->(List Int)->(List Az)->Int->Int->Int->Int->Int->Int->Int->Int->(List Int)->(List Int)->(List Int)->(List As)->(List Az)->(List Int)->Option (Bool)
 |0,_,_,_,_,_,_,_,_,_,_,_,_,_,_,_,_,_,_=>none
 |n1+1,v1,v2,v3,v4,v5,v6,v7,v8,v9,v10,v11,v12,v13,v14,v15,v16,v17,v18=>(bif (decide (v6<v5))then(if(0:Int)≤v6∧v6<(v4.length:Int)then((Ayq K (D9.mk v7 v8 v9 v10 v11 v12) (gt v4 v6)).bind fun r19=>(bif r19 then(bif (decide ((((gt v4 v6).Ay).length:Int)>0))then(if(0:Int)≤0∧0<(((gt v4 v6).Ay).length:Int)then((Ar6 K (Dm.mk v13 v14 v15) (D9.mk v7 v8 v9 v10 v11 v12) (gt ((gt v4 v6).Ay) 0)).bind fun r20=>(if(0:Int)≤0∧0≤((gt v4 v6).Wv)∧((gt v4 v6).Wv)≤(r20.length:Int)then((Aup K ((r20.drop (0:Int).toNat).take (((gt v4 v6).Wv) - 0).toNat)).bind fun r21=>(bif (!r21)then some false else(Apj K v1 v2 v3 v4 v5 v6 v7 v8 v9 v10 v11 v12 v13 v14 v15 v16 v17 v18 (Ht K n1) ((gt v4 v6).Bk) ((gt v4 v6).Ee) ((gt v4 v6).Fh) ((gt v4 v6).Ay) ((gt v4 v6).Wv))))else none))else none)else(Apj K v1 v2 v3 v4 v5 v6 v7 v8 v9 v10 v11 v12 v13 v14 v15 v16 v17 v18 (Ht K n1) ((gt v4 v6).Bk) ((gt v4 v6).Ee) ((gt v4 v6).Fh) ((gt v4 v6).Ay) ((gt v4 v6).Wv)))else some false))else none)else(Agl K v1 v2 v3 v14 v16 K (v14.length:Int) 0 v14))
def Ar9 (K:Nat)(a0:C4):Option (Bool):=(if(0:Int)≤a0.fC.Ay∧a0.fC.Ay≤a0.fC.Ay∧(8:Int)*a0.fC.Ay≤281474976710656∧a0.fC.Ay≤9223372036854775807 then(if(0:Int)≤a0.fC.E5∧a0.fC.E5≤a0.fC.E5∧(8:Int)*a0.fC.E5≤281474976710656∧a0.fC.E5≤9223372036854775807 then(if(0:Int)≤a0.fC.E5∧a0.fC.E5≤a0.fC.E5∧(8:Int)*a0.fC.E5≤281474976710656∧a0.fC.E5≤9223372036854775807 then(Ht K K (List.replicate a0.fC.Ay.toNat 0) (List.replicate a0.fC.E5.toNat 0) (List.replicate a0.fC.E5.toNat 0) a0.fQ (a0.fQ.length:Int) 0 a0.fC.Ay a0.fC.G6 a0.fC.E5 a0.fC.Gs a0.fC.E6 a0.fC.G7 a0.fP.N5 a0.fP.Vg a0.fP.N6 a0.fL a0.fQ a0.Acw)else none)else none)else none)
def A3j:=fd Tryz.func88 ⟨[.v 32],[.v 4],true⟩ (gC (Buj K) (gC (Bdt K) (gC (Bkv K) (gC (Bui K) (gC (Buh K) gN))))) [38,39,40,44,45,105,106,150,151,169,170,175,176,177,181,182] [979,2003,3737,14951,29903]
def Bym:Ei:=⟨[(1,.p 101),(3,.o 1003 3 true),(4,.o 1004 3 true),(5,.o 1005 3 true),(29,.v 30),(30,.v 2),(31,.v 2),(121,.v 26),(122,.v 2),(123,.v 2)],[(101,.box [.v 2,.v 2,.v 2,.v 2,.v 2,.v 2,.v 22,.v 26,.v 26,.v 29,.v 30,.v 26])]⟩
def Bls:Ei:=⟨[(1,.p 101),(3,.o 1003 3 true),(4,.o 1004 3 true),(5,.o 1005 3 true),(7,.p 107),(29,.v 30),(30,.v 2),(31,.v 2)],[(107,.box [.v 2,.v 2,.v 26,.v 26,.v 2]),(101,.box [.v 2,.v 2,.v 2,.v 2,.v 2,.v 2,.v 22,.v 26,.v 26,.v 29,.v 30,.v 26])]⟩
def Byn:Ei:=⟨[(1,.p 101),(3,.o 1003 3 true),(4,.o 1004 3 true),(5,.o 1005 3 true),(7,.p 107),(29,.v 30),(30,.v 2),(31,.v 2),(63,.v 26),(64,.v 2),(65,.v 2)],[(107,.box [.v 2,.v 2,.v 26,.v 26,.v 2]),(101,.box [.v 2,.v 2,.v 2,.v 2,.v 2,.v 2,.v 22,.v 26,.v 26,.v 29,.v 30,.v 26])]⟩
def Bfx:Ei:=⟨[(1,.p 101),(3,.o 1003 3 true),(4,.o 1004 3 true),(5,.o 1005 3 true),(142,.v 26),(143,.v 2),(144,.v 2)],[(101,.box [.v 2,.v 2,.v 2,.v 2,.v 2,.v 2,.v 22,.v 26,.v 26,.v 29,.v 30,.v 26])]⟩
def Bfy:Ei:=⟨[(1,.p 101),(4,.o 1004 3 true),(5,.o 1005 3 true),(160,.v 29),(161,.v 2),(162,.v 2)],[(101,.box [.v 2,.v 2,.v 2,.v 2,.v 2,.v 2,.v 22,.v 26,.v 26,.v 29,.v 30,.v 26])]⟩
def A3k:Ei:=⟨[(1,.p 101),(3,.o 1003 3 true),(4,.o 1004 3 true),(5,.o 1005 3 true),(29,.v 30),(30,.v 2),(31,.v 2)],[(101,.box [.v 2,.v 2,.v 2,.v 2,.v 2,.v 2,.v 22,.v 26,.v 26,.v 29,.v 30,.v 26])]⟩
def A96:=fun(C58:CT A3k _)=>lp (A3j K) 239230 Bym [(58,ar A3k C58)] (fun n a b c d e f g h i j k l m o p q r s t u v=>Aiy K d e f j k l m o p q r s t u v a b g C58 n c h i) (fun n=>kN)
def Bbz:=fun(C58:CT A3k _)=>jn (A3j K) 29903 Bls [(58,ar A3k C58)] (fun a b c d e f _ h _ _ _ l m o p q r s t u v w x=>Aph K c d e f l m o p q r s t u v w x h a b C58) (kC (A96 K _ K) kN)
def Bb0:=fun(C58:CT A3k _)=>jn (A3j K) 14951 Bls [(58,ar A3k C58)] (fun a b c d e f _ h _ _ _ l m o p q r s t u v w x=>Api K c d e f l m o p q r s t u v w x h a C58 b) (kC (Bbz K _) kN)
def Bb1:=fun(C58:CT A3k _)=>lp (A3j K) 59802 Byn [(58,ar A3k C58)] (fun n a b c d e f g h i j k _ m _ p q r s t u v w x y z a1=>Ai9 K b c d e f p q r s t u v w x y z a1 j k g C58 n a h i m) (fun n=>(kC (up (Bb0 K _)) kN))
def Bdy:=fun(C58:CT A3k _)=>jn (A3j K) 3737 Bls [(58,ar A3k C58)] (fun a b c d e f g h i j k l m o p q r s t u v w x=>Apj K a b c d e f l m o p q r s t u v w x C58 g h i j k) (kC (Bb1 K _ K) kN)
def Bhm:=fun(C122:CT Bfx _)=>jn (A3j K) 979 Bfx [(122,ar Bfx C122)] (fun a b c d e f g h i j k l m o p q r s=>Aqu K e f o (fun v37 v38 v39=>C122 a b c d v37 v38 g h i j k l m v39 p q r s)) kN
def Bdz:=fun(C250:CT Bfy _)=>jn (A3j K) 2003 Bfy [(250,ar Bfy C250)] (fun a b c d e f g h i j k l m o p q r=>Ak2 K d e p (fun v40 v41 v42=>C250 a b c v40 v41 f g h i j k l m o v42 q r)) kN
def Bhn:=lp (A3j K) 250 Bfy [] (fun n a b c d e _ _ _ _ _ _ _ _ _ p _ _=>Aba K a b c n d e p) (fun n=>(kC (Bdz K _) kN))
def Bho:=lp (A3j K) 122 Bfx [] (fun n a b c d e f _ _ _ _ _ _ _ o _ q _ _=>Agl K a b c d q n e f o) (fun n=>(kC (Bhm K _) (kC (up (Bhn K K)) kN)))
def Blt:=lp (A3j K) 58 A3k [] (Ht K) (fun n=>(kC (Bdy K _) (kC (up (Bho K K)) kN)))
def Buk:=ct (A3j K) (Ar9 K) (kC (Blt K K) kN)
def Avh (K:Nat)(a0:C4):Option (Bool):=((Azq K a0.fC a0.fP).bind fun r1=>(bif r1 then(bif ((a0.fL.length:Int)==a0.fC.E5)then((Ar8 K a0).bind fun r2=>(bif r2 then((Azs K a0.fL).bind fun r3=>(bif r3 then((Ar9 K a0).bind fun r4=>(bif r4 then((Arw K a0.Acw).bind fun r5=>some r5)else some false))else some false))else some false))else some false)else some false))
def Blu:=ct (fd Tryz.func19 ⟨[.v 32],[.v 4],true⟩ (gC (Btm K) (gC (Bud K) (gC (Bug K) (gC (Buk K) (gC (Bdv K) gN))))) [7,8,15,16,17,19,20,21,24,25,26,28,29,30]) (Avh K)
def Am8 (K:Nat)(a0:List Int):Option ((List Int)):=(bif a0.isEmpty then Aii (some []) ((if(([]:List Int)++a0).length*1≤140737488355328∧(([]:List Int)++a0).length≤maxLen then some (([]:List Int)++a0)else none))else(if(([]:List Int)++a0).length*1≤140737488355328∧(([]:List Int)++a0).length≤maxLen then some (([]:List Int)++a0)else none))
def A97:=ct (fd Tryz.func219 ⟨[.v 22],[.n 22 true],true⟩ gN) (Am8 K)
def Axc (K:Nat)(a0:Dm):Option (Dm):=((Am8 K a0.N5).bind fun r1=>((Agn K a0.Vg).bind fun r2=>((Agn K a0.N6).bind fun r3=>some (Dm.mk r1 r2 r3))))
def Bul:=ct (fd Tryz.func153 ⟨[.v 28],[.n 28 true],true⟩ (gC (A7k K) (gC (A97 K) gN))) (Axc K)
def Apt (K:Nat)(a0:List Bc):Option ((List Bc)):=(bif a0.isEmpty then Aii (some []) ((if(([]:List Bc)++a0).length*24≤140737488355328∧(([]:List Bc)++a0).length≤maxLen then some (([]:List Bc)++a0)else none))else(if(([]:List Bc)++a0).length*24≤140737488355328∧(([]:List Bc)++a0).length≤maxLen then some (([]:List Bc)++a0)else none))
def Bum:=ct (fd Tryz.func267 ⟨[.v 48],[.n 48 true],true⟩ gN) (Apt K)
def Axd (K:Nat)(a0:As):Option (As):=((Agn K a0.Ay).bind fun r1=>((Apt K a0.F4).bind fun r2=>((Agn K a0.Fh).bind fun r3=>some (As.mk a0.Vg a0.C8 a0.Sj a0.fUp a0.Sk a0.Ee a0.Sl a0.Sm r1 a0.Acv a0.Sn r2 r3))))
def Bun:=ct (fd Tryz.func232 ⟨[.v 50],[.n 50 false],true⟩ (gC (A7k K) (gC (Bum K) gN))) (Axd K)
def Anv (K:Nat)(a0:List As):Nat->(List As)->Int->Int->Option ((List As))
 |0,_,_,_=>none
 |n1+1,v1,v2,v3=>(bif (decide (v3<v2))then(if(0:Int)≤v3∧v3<(a0.length:Int)then((Axd K (gt a0 v3)).bind fun r4=>(if(v1++[r4]).length*152≤140737488355328∧(v1++[r4]).length≤maxLen then(Anv K a0 n1 (v1++[r4]) v2 (An3 .i64 v3 1))else none))else none)else some v1)
def Av4 (K:Nat)(a0:List As):Option ((List As)):=(Anv K a0 K ([]:List As) (a0.length:Int) 0)
def Brt:=fd Tryz.func154 ⟨[.v 29],[.n 29 true],false⟩ (gC (Bun K) gN) (post:=[(16,[.put 3016])])
def Byo:Ei:=⟨[(3,.o 1003 50 true),(7,.v 29),(8,.v 2),(9,.v 2)],[]⟩
def Blv:=lp (Brt K) 58 Byo [] (fun n a b=>Anv K b n a) (fun n=>kN)
def Buo:=ct (Brt K) (Av4 K) (kC (Blv K K) kN)
def Av5 (K:Nat)(a0:Az):Option (Az):=((Agn K a0.Fh).bind fun r1=>((Agn K a0.Ay).bind fun r2=>some (Az.mk a0.Bk a0.Ee r1 r2 a0.Wv)))
def Bup:=ct (fd Tryz.func155 ⟨[.v 52],[.n 52 true],true⟩ (gC (A7k K) gN)) (Av5 K)
def Anw (K:Nat):Nat->(List Az)->Int->Int->C4->C4->Option (C4)
 |0,_,_,_,_,_=>none
 |n1+1,v4,v5,v6,v7,v8=>(bif (decide (v6<v5))then(if(0:Int)≤v6∧v6<(v4.length:Int)then((Av5 K (gt v4 v6)).bind fun r9=>(if(v7.fQ.length+1)*72≤140737488355328∧v7.fQ.length+1≤maxLen then(Anw K n1 v4 v5 (An3 .i64 v6 1) (C4.mk v7.fC v7.fP v7.fL ((v7.fQ++[(default:Az)]).set (v7.fQ.length:Int).toNat r9) v7.Acw) v8)else none))else none)else some v7)
def Aq8 (K:Nat)(a0:C4):Option (C4):=((Axc K a0.fP).bind fun r1=>((Av4 K a0.fL).bind fun r2=>((Agn K a0.Acw).bind fun r3=>(Anw K K a0.fQ (a0.fQ.length:Int) 0 (C4.mk a0.fC r1 r2 [] r3) (C4.mk (D9.mk 0 0 0 0 0 0) (Dm.mk [] [] []) [] [] [])))))
def Bru:=fd Tryz.func74 ⟨[.v 32],[.n 32 true],false⟩ (gC (A7k K) (gC (Bul K) (gC (Buo K) (gC (Bup K) gN)))) [] [] [(5,[.take 103 10 6658]),(7,[.take 103 6 6654,.take 103 7 6655,.take 103 8 6656,.take 103 9 6657,.take 103 10 6658,.take 103 11 6659])]
def Byp:Ei:=⟨[(2,.p 102),(3,.p 103),(19,.v 30),(20,.v 2),(21,.v 2)],[(103,.st 32 true),(102,.st 32 true)]⟩
def Blw:=lp (Bru K) 58 Byp [] (Anw K) (fun n=>kN)
def Bd0:=ct (Bru K) (Aq8 K) (kC (Blw K K) kN)
def Arl (K:Nat)(a0:C4)(a1:Int):Option (C4×Es):=((Aq8 K a0).bind fun r1=>some (r1,(Es.mk a1 (Am.mk 0 0) (Bq.mk (Am.mk 0 0) 0 0) [] 0 0 0)))
def Blx:=ct (fd Tryz.func126 ⟨[.v 32,.v 3],[.n 32 true,.n 73 true],false⟩ (gC (Bd0 K) gN)) (Arl K)
def Avi (K:Nat)(a0:List As)(a1:Am):Option (Int):=((Anh K a0 a1.Bk).bind fun r1=>(bif r1 then(if(0:Int)≤a1.Bk∧a1.Bk<(a0.length:Int)then(bif (((gt a0 a1.Bk).Vg) != 1)then some (-1)else(if(0:Int)≤a1.Bk∧a1.Bk<(a0.length:Int)then(bif (((gt a0 a1.Bk).C8) != a1.C8)then some (-1)else some a1.Bk)else none))else none)else some (-1)))
def Bly:=ct (fd Tryz.func209 ⟨[.v 29,.v 36],[.v 3],true⟩ (gC (A4s K) gN) [8,9,10,17,18,19]) (Avi K)
def A16 (K:Nat)(a0:List As)(a1:Int):Option (Int):=((Axv K a0 a1).bind fun r1=>some (r1.length:Int))
def Buq:=ct (fd Tryz.func214 ⟨[.v 29,.v 3],[.v 3],true⟩ (gC (Bdx K) gN)) (A16 K)
def Awn (K:Nat)(a0:C4)(a1:Am):Option (Int):=((Avi K a0.fL a1).bind fun r1=>((A16 K a0.fL r1).bind fun r2=>some r2))
def Blz:=ct (fd Tryz.func127 ⟨[.v 32,.v 36],[.v 3],true⟩ (gC (Bly K) (gC (Buq K) gN))) (Awn K)
def Auf (K:Nat)(a0:Am):Option (Bool):=(bif (decide (a0.Bk≥0))then some (decide (a0.C8≥1))else some false)
def Bl0:=ct (fd Tryz.func208 ⟨[.v 36],[.v 4],true⟩ gN [5,6]) (Auf K)
def A0v (K:Nat)(a0:Bq):Option (Bool):=((Auf K a0.fH).bind fun r1=>(bif r1 then(bif (decide (a0.Sj≥0))then some (decide (a0.fNo≥0))else some false)else some false))
def Bur:=ct (fd Tryz.func215 ⟨[.v 38],[.v 4],true⟩ (gC (Bl0 K) gN) [5,6,9,10,11]) (A0v K)
def Ayr (K:Nat)(v2:List Int)(v3:Int)(v4:Int)(C1:(List Int)->Int->Int->Option (Bool)):Option (Bool):=(C1 v2 v3 (An3 .i64 v4 1))
def Ath (K:Nat)(a0:List As)(r1:(List Int)):Nat->(List Int)->Int->Int->Option (Bool)
 |0,_,_,_=>none
 |n1+1,v2,v3,v4=>(bif (decide (v4<v3))then(if(0:Int)≤v4∧v4<(v2.length:Int)then(if(0:Int)≤(gt v2 v4)∧(gt v2 v4)<(a0.length:Int)then(bif (((gt a0 (gt v2 v4)).Vg) != 1)then some false else(bif (decide ((An3 .i64 v4 1)<(r1.length:Int)))then(if(0:Int)≤(gt v2 v4)∧(gt v2 v4)<(a0.length:Int)then(if(0:Int)≤(An3 .i64 v4 1)∧(An3 .i64 v4 1)<(r1.length:Int)then(if(0:Int)≤(gt r1 (An3 .i64 v4 1))∧(gt r1 (An3 .i64 v4 1))<(a0.length:Int)then(bif (((gt a0 (gt v2 v4)).Sk) != ((gt a0 (gt r1 (An3 .i64 v4 1))).Sj))then some false else(Ayr K v2 v3 v4 (Ath K a0 r1 n1)))else none)else none)else none)else(Ayr K v2 v3 v4 (Ath K a0 r1 n1))))else none)else none)else(bif (decide ((r1.length:Int)>0))then(if(0:Int)≤(An4 .i64 (r1.length:Int) 1)∧(An4 .i64 (r1.length:Int) 1)<(r1.length:Int)then(if(0:Int)≤(gt r1 (An4 .i64 (r1.length:Int) 1))∧(gt r1 (An4 .i64 (r1.length:Int) 1))<(a0.length:Int)then some (((gt a0 (gt r1 (An4 .i64 (r1.length:Int) 1))).fUp)==0)else none)else none)else some false))
def Ays (K:Nat)(a0:List As)(a1:Int):Option (Bool):=((Axv K a0 a1).bind fun r1=>(Ath K a0 r1 K r1 (r1.length:Int) 0))
def Bl1:=fd Tryz.func71 ⟨[.v 29,.v 3],[.v 4],true⟩ (gC (Bdx K) gN) [28,29,49,50] [467]
def Bfz:Ei:=⟨[(0,.v 29),(5,.v 26),(11,.v 26),(12,.v 2),(13,.v 2)],[]⟩
def Bhp:=fun(C58:CT Bfz _)=>jn (Bl1 K) 467 Bfz [(58,ar Bfz C58)] (fun a b c d e=>Ayr K c d e (C58 a b)) kN
def Bl2:=lp (Bl1 K) 58 Bfz [] (fun n a b=>Ath K a b n) (fun n=>(kC (Bhp K _) kN))
def Bl3:=ct (Bl1 K) (Ays K) (kC (Bl2 K K) kN)
def Aug (K:Nat)(a0:C4)(a1:Am):Option (Int×Int):=((Auf K a1).bind fun r1=>(bif (!r1)then some ((-1),1)else((Avi K a0.fL a1).bind fun r2=>(bif (decide (r2<0))then some ((-1),2)else((Ays K a0.fL r2).bind fun r3=>(bif (!r3)then some ((-1),2)else some (r2,0)))))))
def Bl4:=ct (fd Tryz.func118 ⟨[.v 32,.v 36],[.v 3,.v 3],true⟩ (gC (Bl3 K) (gC (Bl0 K) (gC (Bly K) gN))) [15,16]) (Aug K)
def Avj (K:Nat)(a0:As)(a1:Bq):Option (Bc×Bool):=(bif (a0.Vg != 1)then some ((Bc.mk 0 0 0),false)else(bif (a0.Sj != a1.Sj)then some ((Bc.mk 0 0 0),false)else((Wy K a1.fNo 0 (An4 .i64 (a0.F4.length:Int) 1)).bind fun r1=>(bif (!r1)then some ((Bc.mk 0 0 0),false)else(if(0:Int)≤a1.fNo∧a1.fNo<(a0.F4.length:Int)then some ((gt a0.F4 a1.fNo),true)else none)))))
def Bus:=ct (fd Tryz.func216 ⟨[.v 50,.v 38],[.v 132,.v 4],true⟩ (gC (A15 K) gN) [8,9,14,15,16]) (Avj K)
def Abh (K:Nat)(a0:C4)(a1:Bq):Option (Int×Bc×Int):=((A0v K a1).bind fun r1=>(bif (!r1)then some ((-1),(Bc.mk 0 0 0),1)else((Aug K a0 a1.fH).bind fun r2=>(bif (r2.2 != 0)then some ((-1),(Bc.mk 0 0 0),r2.2)else(if(0:Int)≤r2.1∧r2.1<(a0.fL.length:Int)then((Avj K (gt a0.fL r2.1) a1).bind fun r3=>(bif (!r3.2)then some ((-1),(Bc.mk 0 0 0),2)else some (r2.1,r3.1,0)))else none)))))
def Bd1:=ct (fd Tryz.func128 ⟨[.v 32,.v 38],[.v 3,.v 132,.v 3],true⟩ (gC (Bl4 K) (gC (Bur K) (gC (Bus K) gN)))) (Abh K)
def Ay7 (K:Nat)(a0:Int)(a1:Int)(a2:Int):Option (Bool):=(bif (decide (a2≥0))then(bif (decide (a2≤a0))then((Wy K a1 0 (An4 .i64 a0 a2)).bind fun r1=>some r1)else some false)else some false)
def Bd2:=ct (fd Tryz.func260 ⟨[.v 3,.v 3,.v 3],[.v 4],true⟩ (gC (A15 K) gN) [8,9,12,13,14]) (Ay7 K)
def Avk (K:Nat)(a0:List Int)(a1:Bc)(a2:Int)(a3:Int):Option (Int×Bool):=(bif (decide (a2<0))then some (0,false)else(bif (decide (a3<0))then some (0,false)else(bif (decide (a3>a1.Ajk))then some (0,false)else(bif (decide (a2>(An4 .i64 a1.Ajk a3)))then some (0,false)else(bif (decide ((An3 .i64 a1.fAt a2)<0))then some (0,false)else((Ay7 K (a0.length:Int) (An3 .i64 a1.fAt a2) a3).bind fun r1=>some ((An3 .i64 a1.fAt a2),r1)))))))
def Bl5:=ct (fd Tryz.func217 ⟨[.v 22,.v 132,.v 3,.v 3],[.v 3,.v 4],true⟩ (gC (Bd2 K) gN) [12,13,15,16,17,21,22,23]) (Avk K)
def A0w (K:Nat)(a0:List Int)(a1:Int)(a2:List Int):Option ((List Int)×Bool):=((Am8 K a0).bind fun r1=>((Ay7 K (a0.length:Int) a1 (a2.length:Int)).bind fun r2=>(bif (!r2)then some (r1,false)else(if(0:Int)≤a1∧a1≤(r1.length:Int)∧(r1.length:Int)≤(r1.length:Int)then some ((r1.take a1.toNat++a2.take (Nat.min a2.length (((r1.length:Int) - a1).toNat))++r1.drop (a1.toNat+(Nat.min a2.length (((r1.length:Int) - a1).toNat)))),true)else none))))
def But:=ct (fd Tryz.func220 ⟨[.v 22,.v 3,.v 22],[.n 22 true,.v 4],true⟩ (gC (A97 K) (gC (Bd2 K) gN))) (A0w K)
def Auy (K:Nat)(a0:List Int)(a1:Bc)(a2:Int)(a3:List Int):Option ((List Int)×Bool):=((Avk K a0 a1 a2 (a3.length:Int)).bind fun r1=>(bif (!r1.2)then((Am8 K a0).bind fun r2=>some (r2,false))else((A0w K a0 r1.1 a3).bind fun r3=>some (r3.1,r3.2))))
def Buu:=ct (fd Tryz.func130 ⟨[.v 22,.v 132,.v 3,.v 22],[.n 22 true,.v 4],true⟩ (gC (Bl5 K) (gC (A97 K) (gC (But K) gN)))) (Auy K)
def Avl (K:Nat)(v7:Es)(v8:C4)(v9:Es)(v10:C4):Option (C4×Es):=some (v8,v7)
def A0x (K:Nat)(a0:C4)(a1:Bq)(a2:Int)(a3:List Int):Option (C4×Es):=((Avh K a0).bind fun r1=>(bif (!r1)then((Arl K a0 1).bind fun r2=>some (r2.1,r2.2))else((Aq8 K a0).bind fun r3=>((Awn K a0 a1.fH).bind fun r4=>((Abh K a0 a1).bind fun r5=>(bif (r5.2.2==0)then((Auy K a0.fP.N5 r5.2.1 a2 a3).bind fun r6=>(bif (!r6.2)then(Avl K (Es.mk 7 (Am.mk 0 0) (Bq.mk (Am.mk 0 0) 0 0) [] r4 0 0) (C4.mk r3.fC (Dm.mk r6.1 r3.fP.Vg r3.fP.N6) r3.fL r3.fQ r3.Acw) (Es.mk 0 (Am.mk 0 0) (Bq.mk (Am.mk 0 0) 0 0) [] 0 0 0) (C4.mk (D9.mk 0 0 0 0 0 0) (Dm.mk [] [] []) [] [] []))else(Avl K (Es.mk r5.2.2 (Am.mk 0 0) (Bq.mk (Am.mk 0 0) 0 0) [] r4 0 0) (C4.mk r3.fC (Dm.mk r6.1 r3.fP.Vg r3.fP.N6) r3.fL r3.fQ r3.Acw) (Es.mk 0 (Am.mk 0 0) (Bq.mk (Am.mk 0 0) 0 0) [] 0 0 0) (C4.mk (D9.mk 0 0 0 0 0 0) (Dm.mk [] [] []) [] [] []))))else(Avl K (Es.mk r5.2.2 (Am.mk 0 0) (Bq.mk (Am.mk 0 0) 0 0) [] r4 0 0) r3 (Es.mk 0 (Am.mk 0 0) (Bq.mk (Am.mk 0 0) 0 0) [] 0 0 0) (C4.mk (D9.mk 0 0 0 0 0 0) (Dm.mk [] [] []) [] [] []))))))))
def Brv:=fd Tryz.func45 ⟨[.v 32,.v 38,.v 3,.v 22],[.n 32 true,.n 73 true],false⟩ (gC (Blu K) (gC (Bd0 K) (gC (Blx K) (gC (Blz K) (gC (Bd1 K) (gC (Buu K) gN)))))) [] [63] [(11,[.take 110 6 6766,.take 110 7 6767,.take 110 8 6768,.take 110 9 6769,.take 110 10 6770,.take 110 11 6771,.take 111 7 6783])]
def Byq:Ei:=⟨[(8,.p 108),(9,.p 109),(10,.p 110),(11,.p 111)],[(111,.st 73 true),(110,.st 32 true),(109,.st 73 true),(108,.st 32 true)]⟩
def Bl6:=jn (Brv K) 63 Byq [] (Avl K) kN
def Buv:=ct (Brv K) (A0x K) (kC (Bl6 K) kN)
def Axe (K:Nat)(a0:List Int):Option (C4×Bq×Int×Int):=((Avf K a0 40).bind fun r1=>((Awl K r1.1 r1.2).bind fun r2=>((Aun K r2.2 3).bind fun r3=>((Aun K r3.2 3).bind fun r4=>some (r1.2,r2.1,r3.1,r4.1)))))
def Buw:=ct (fd Tryz.func59 ⟨[.v 22],[.v 32,.v 38,.v 3,.v 3],false⟩ (gC (Bkn K) (gC (Bks K) (gC (Bkt K) gN)))) (Axe K)
def A0y (K:Nat)(a0:List Int)(a1:Int)(a2:Int):Option ((List Int)×Bool):=((Ay7 K (a0.length:Int) a1 a2).bind fun r1=>(bif (!r1)then some ([],false)else(if(0:Int)≤a1∧a1≤(An3 .i64 a1 a2)∧(An3 .i64 a1 a2)≤(a0.length:Int)then((Am8 K ((a0.drop a1.toNat).take ((An3 .i64 a1 a2) - a1).toNat)).bind fun r2=>some (r2,true))else none)))
def Bux:=ct (fd Tryz.func218 ⟨[.v 22,.v 3,.v 3],[.n 22 true,.v 4],true⟩ (gC (A97 K) (gC (Bd2 K) gN))) (A0y K)
def Av6 (K:Nat)(a0:List Int)(a1:Bc)(a2:Int)(a3:Int):Option ((List Int)×Bool):=((Avk K a0 a1 a2 a3).bind fun r1=>(bif (!r1.2)then some ([],false)else((A0y K a0 r1.1 a3).bind fun r2=>some (r2.1,r2.2))))
def Buy:=ct (fd Tryz.func129 ⟨[.v 22,.v 132,.v 3,.v 3],[.n 22 true,.v 4],true⟩ (gC (Bl5 K) (gC (Bux K) gN))) (Av6 K)
def Ase (K:Nat)(v6:Es)(v7:Es)(v8:C4)(v9:Int)(v10:Int)(v11:Int)(v12:Int)(v13:Int)(v14:Int)(v15:List Int)(v16:List Int)(v17:List Int)(v18:List As)(v19:List Az)(v20:List Int):Option (C4×Es):=((Aq8 K (C4.mk (D9.mk v9 v10 v11 v12 v13 v14) (Dm.mk v15 v16 v17) v18 v19 v20)).bind fun r21=>some (r21,v6))
def Aqz (K:Nat)(a0:C4)(a1:Bq)(a2:Int)(a3:Int):Option (C4×Es):=((Avh K a0).bind fun r1=>(bif (!r1)then((Arl K a0 1).bind fun r2=>some (r2.1,r2.2))else((Awn K a0 a1.fH).bind fun r3=>((Abh K a0 a1).bind fun r4=>(bif (r4.2.2==0)then((Av6 K a0.fP.N5 r4.2.1 a2 a3).bind fun r5=>(bif (!r5.2)then(Ase K (Es.mk 7 (Am.mk 0 0) (Bq.mk (Am.mk 0 0) 0 0) r5.1 r3 0 0) (Es.mk 0 (Am.mk 0 0) (Bq.mk (Am.mk 0 0) 0 0) [] 0 0 0) (C4.mk (D9.mk 0 0 0 0 0 0) (Dm.mk [] [] []) [] [] []) a0.fC.Ay a0.fC.G6 a0.fC.E5 a0.fC.Gs a0.fC.E6 a0.fC.G7 a0.fP.N5 a0.fP.Vg a0.fP.N6 a0.fL a0.fQ a0.Acw)else(Ase K (Es.mk r4.2.2 (Am.mk 0 0) (Bq.mk (Am.mk 0 0) 0 0) r5.1 r3 0 0) (Es.mk 0 (Am.mk 0 0) (Bq.mk (Am.mk 0 0) 0 0) [] 0 0 0) (C4.mk (D9.mk 0 0 0 0 0 0) (Dm.mk [] [] []) [] [] []) a0.fC.Ay a0.fC.G6 a0.fC.E5 a0.fC.Gs a0.fC.E6 a0.fC.G7 a0.fP.N5 a0.fP.Vg a0.fP.N6 a0.fL a0.fQ a0.Acw)))else(Ase K (Es.mk r4.2.2 (Am.mk 0 0) (Bq.mk (Am.mk 0 0) 0 0) [] r3 0 0) (Es.mk 0 (Am.mk 0 0) (Bq.mk (Am.mk 0 0) 0 0) [] 0 0 0) (C4.mk (D9.mk 0 0 0 0 0 0) (Dm.mk [] [] []) [] [] []) a0.fC.Ay a0.fC.G6 a0.fC.E5 a0.fC.Gs a0.fC.E6 a0.fC.G7 a0.fP.N5 a0.fP.Vg a0.fP.N6 a0.fL a0.fQ a0.Acw))))))
def Brw:=fd Tryz.func44 ⟨[.v 32,.v 38,.v 3,.v 3],[.n 32 true,.n 73 true],false⟩ (gC (Blu K) (gC (Bd0 K) (gC (Blx K) (gC (Blz K) (gC (Bd1 K) (gC (Buy K) gN)))))) [] [63] [(11,[.take 110 7 6767])]
def Byr:Ei:=⟨[(4,.p 104),(8,.p 108),(9,.p 109),(10,.p 110)],[(110,.st 73 true),(109,.st 73 true),(108,.st 32 true),(104,.box [.v 2,.v 2,.v 2,.v 2,.v 2,.v 2,.v 22,.v 26,.v 26,.v 29,.v 30,.v 26])]⟩
def Bl7:=jn (Brw K) 63 Byr [] (Ase K) kN
def Bl8:=ct (Brw K) (Aqz K) (kC (Bl7 K) kN)
def Azu (K:Nat)(a0:List Int)(a1:List Int):Nat->Int->Option (Bool)
 |0,_=>none
 |n1+1,v1=>(bif (decide (v1<(a0.length:Int)))then(if(0:Int)≤v1∧v1<(a0.length:Int)then(if(0:Int)≤v1∧v1<(a1.length:Int)then(bif ((gt a0 v1) != (gt a1 v1))then some false else(Azu K a0 a1 n1 (An3 .i64 v1 1)))else none)else none)else some true)
def Atp (K:Nat)(a0:List Int)(a1:List Int):Option (Bool):=(bif ((a0.length:Int) != (a1.length:Int))then some false else(Azu K a0 a1 K 0))
def Brx:=fd Tryz.func61 ⟨[.v 22,.v 22],[.v 4],true⟩ gN
def Bys:Ei:=⟨[(0,.v 22),(1,.v 22),(5,.v 2)],[]⟩
def Bl9:=lp Brx 58 Bys [] (fun n a b=>Azu K a b n) (fun n=>kN)
def Bd3:=ct Brx (Atp K) (kC (Bl9 K K) kN)
def Auz (K:Nat)(a0:List Int)(a1:List Int):Nat->Int->Option (Bool)
 |0,_=>none
 |n1+1,v1=>(bif (decide (v1<(a0.length:Int)))then(if(0:Int)≤v1∧v1<(a0.length:Int)then(if(0:Int)≤v1∧v1<(a1.length:Int)then(bif ((gt a0 v1) != (gt a1 v1))then some false else(Auz K a0 a1 n1 (An3 .i64 v1 1)))else none)else none)else some true)
def Alx (K:Nat)(a0:List Int)(a1:List Int):Option (Bool):=(bif ((a0.length:Int) != (a1.length:Int))then some false else(Auz K a0 a1 K 0))
def Bry:=fd Tryz.func30 ⟨[.v 26,.v 26],[.v 4],true⟩ gN
def Byt:Ei:=⟨[(0,.v 26),(1,.v 26),(5,.v 2)],[]⟩
def Bma:=lp Bry 58 Byt [] (fun n a b=>Auz K a b n) (fun n=>kN)
def A98:=ct Bry (Alx K) (kC (Bma K K) kN)
def Axf (K:Nat)(a0:Dm)(a1:Dm):Option (Bool):=((Atp K a0.N5 a1.N5).bind fun r1=>(bif r1 then((Alx K a0.Vg a1.Vg).bind fun r2=>(bif r2 then((Alx K a0.N6 a1.N6).bind fun r3=>some r3)else some false))else some false))
def Buz:=ct (fd Tryz.func72 ⟨[.v 28,.v 28],[.v 4],true⟩ (gC (A98 K) (gC (Bd3 K) gN)) [9,10,15,16,17]) (Axf K)
def Aqf (K:Nat):Nat->Int->Int->Int->Int->Int->Int->Int->Int->Int->(List Int)->Int->Int->(List Bc)->(List Int)->Int->Int->Int->Int->Int->Int->Int->Int->(List Int)->Int->Int->(List Bc)->(List Int)->Option (Bool)
 |0,_,_,_,_,_,_,_,_,_,_,_,_,_,_,_,_,_,_,_,_,_,_,_,_,_,_,_=>none
 |n1+1,v3,v4,v5,v6,v7,v8,v9,v10,v11,v12,v13,v14,v15,v16,v17,v18,v19,v20,v21,v22,v23,v24,v25,v26,v27,v28,v29=>(bif (decide (v3<(v28.length:Int)))then(if(0:Int)≤v3∧v3<(v28.length:Int)then(if(0:Int)≤v3∧v3<(v15.length:Int)then(bif (!((((gt v28 v3).fAt)==((gt v15 v3).fAt))&&((((gt v28 v3).Ajk)==((gt v15 v3).Ajk))&&((((gt v28 v3).Ajl)==((gt v15 v3).Ajl))&&true))))then some false else(Aqf K n1 (An3 .i64 v3 1) v4 v5 v6 v7 v8 v9 v10 v11 v12 v13 v14 v15 v16 v17 v18 v19 v20 v21 v22 v23 v24 v25 v26 v27 v28 v29))else none)else none)else some true)
def Axg (K:Nat)(a0:As)(a1:As):Option (Bool):=(bif (a0.Vg != a1.Vg)then some false else(bif (a0.C8 != a1.C8)then some false else(bif (a0.Sj != a1.Sj)then some false else(bif (a0.fUp != a1.fUp)then some false else(bif (a0.Sk != a1.Sk)then some false else(bif (a0.Ee != a1.Ee)then some false else(bif (a0.Sl != a1.Sl)then some false else(bif (a0.Sm != a1.Sm)then some false else((Alx K a0.Ay a1.Ay).bind fun r1=>(bif r1 then(bif (a0.Acv != a1.Acv)then some false else(bif (a0.Sn != a1.Sn)then some false else(bif ((a0.F4.length:Int) != (a1.F4.length:Int))then some false else((Alx K a0.Fh a1.Fh).bind fun r2=>(bif (!r2)then some false else(Aqf K K 0 a1.Vg a1.C8 a1.Sj a1.fUp a1.Sk a1.Ee a1.Sl a1.Sm a1.Ay a1.Acv a1.Sn a1.F4 a1.Fh a0.Vg a0.C8 a0.Sj a0.fUp a0.Sk a0.Ee a0.Sl a0.Sm a0.Ay a0.Acv a0.Sn a0.F4 a0.Fh))))))else some false))))))))))
def Brz:=fd Tryz.func147 ⟨[.v 50,.v 50],[.v 4],true⟩ (gC (A98 K) gN) [10,11,16,17,18,23,24,25,30,31,32,37,38,39,44,45,46,51,52,53,58,59,60,65,66,67,68,73,74,75,80,81,82,89,90,91]
def Byu:Ei:=⟨[(2,.p 102),(3,.p 103),(5,.v 2)],[(103,.box [.v 2,.v 2,.v 2,.v 2,.v 2,.v 2,.v 2,.v 2,.v 26,.v 2,.v 2,.v 48,.v 26]),(102,.box [.v 2,.v 2,.v 2,.v 2,.v 2,.v 2,.v 2,.v 2,.v 26,.v 2,.v 2,.v 48,.v 26])]⟩
def Bmb:=lp (Brz K) 58 Byu [] (Aqf K) (fun n=>kN)
def Bu0:=ct (Brz K) (Axg K) (kC (Bmb K K) kN)
def Ap1 (K:Nat)(a0:List As)(a1:List As):Nat->Int->Option (Bool)
 |0,_=>none
 |n1+1,v1=>(bif (decide (v1<(a0.length:Int)))then(if(0:Int)≤v1∧v1<(a0.length:Int)then(if(0:Int)≤v1∧v1<(a1.length:Int)then((Axg K (gt a0 v1) (gt a1 v1)).bind fun r2=>(bif (!r2)then some false else(Ap1 K a0 a1 n1 (An3 .i64 v1 1))))else none)else none)else some true)
def Ati (K:Nat)(a0:List As)(a1:List As):Option (Bool):=(bif ((a0.length:Int) != (a1.length:Int))then some false else(Ap1 K a0 a1 K 0))
def Br0:=fd Tryz.func64 ⟨[.v 29,.v 29],[.v 4],true⟩ (gC (Bu0 K) gN)
def Byv:Ei:=⟨[(0,.v 29),(1,.v 29),(5,.v 2)],[]⟩
def Bmc:=lp (Br0 K) 58 Byv [] (fun n a b=>Ap1 K a b n) (fun n=>kN)
def Bmd:=ct (Br0 K) (Ati K) (kC (Bmc K K) kN)
def Av7 (K:Nat)(a0:Az)(a1:Az):Option (Bool):=(bif (a0.Bk==a1.Bk)then(bif (a0.Ee==a1.Ee)then((Alx K a0.Fh a1.Fh).bind fun r1=>(bif r1 then((Alx K a0.Ay a1.Ay).bind fun r2=>(bif r2 then some (a0.Wv==a1.Wv)else some false))else some false))else some false)else some false)
def Bu1:=ct (fd Tryz.func73 ⟨[.v 52,.v 52],[.v 4],true⟩ (gC (A98 K) gN) [9,10,15,16,17,22,23,24,29,30,31]) (Av7 K)
def Ap2 (K:Nat):Nat->Int->Int->Int->Int->Int->Int->Int->(List Int)->(List Int)->(List Int)->(List As)->(List Az)->(List Int)->Int->Int->Int->Int->Int->Int->(List Int)->(List Int)->(List Int)->(List As)->(List Az)->(List Int)->Option (Bool)
 |0,_,_,_,_,_,_,_,_,_,_,_,_,_,_,_,_,_,_,_,_,_,_,_,_,_=>none
 |n1+1,v4,v5,v6,v7,v8,v9,v10,v11,v12,v13,v14,v15,v16,v17,v18,v19,v20,v21,v22,v23,v24,v25,v26,v27,v28=>(bif (decide (v4<(v27.length:Int)))then(if(0:Int)≤v4∧v4<(v27.length:Int)then(if(0:Int)≤v4∧v4<(v15.length:Int)then((Av7 K (gt v27 v4) (gt v15 v4)).bind fun r29=>(bif (!r29)then some false else(Ap2 K n1 (An3 .i64 v4 1) v5 v6 v7 v8 v9 v10 v11 v12 v13 v14 v15 v16 v17 v18 v19 v20 v21 v22 v23 v24 v25 v26 v27 v28)))else none)else none)else some true)
def Aq9 (K:Nat)(a0:C4)(a1:C4):Option (Bool):=(bif (!((a0.fC.Ay==a1.fC.Ay)&&((a0.fC.G6==a1.fC.G6)&&((a0.fC.E5==a1.fC.E5)&&((a0.fC.Gs==a1.fC.Gs)&&((a0.fC.E6==a1.fC.E6)&&((a0.fC.G7==a1.fC.G7)&&true)))))))then some false else((Axf K a0.fP a1.fP).bind fun r1=>(bif r1 then((Ati K a0.fL a1.fL).bind fun r2=>(bif r2 then(bif ((a0.fQ.length:Int) != (a1.fQ.length:Int))then some false else((Alx K a0.Acw a1.Acw).bind fun r3=>(bif (!r3)then some false else(Ap2 K K 0 a1.fC.Ay a1.fC.G6 a1.fC.E5 a1.fC.Gs a1.fC.E6 a1.fC.G7 a1.fP.N5 a1.fP.Vg a1.fP.N6 a1.fL a1.fQ a1.Acw a0.fC.Ay a0.fC.G6 a0.fC.E5 a0.fC.Gs a0.fC.E6 a0.fC.G7 a0.fP.N5 a0.fP.Vg a0.fP.N6 a0.fL a0.fQ a0.Acw))))else some false))else some false)))
def Br1:=fd Tryz.func13 ⟨[.v 32,.v 32],[.v 4],true⟩ (gC (A98 K) (gC (Bmd K) (gC (Buz K) (gC (Bu1 K) gN)))) [10,11,16,17,18,19,24,25,26,27,34,35,36]
def Byw:Ei:=⟨[(2,.p 102),(3,.p 103),(5,.v 2)],[(103,.box [.v 2,.v 2,.v 2,.v 2,.v 2,.v 2,.v 22,.v 26,.v 26,.v 29,.v 30,.v 26]),(102,.box [.v 2,.v 2,.v 2,.v 2,.v 2,.v 2,.v 22,.v 26,.v 26,.v 29,.v 30,.v 26])]⟩
def Bme:=lp (Br1 K) 58 Byw [] (Ap2 K) (fun n=>kN)
def Bu2:=ct (Br1 K) (Aq9 K) (kC (Bme K K) kN)
def Avm (K:Nat)(a0:Es)(a1:Es):Option (Bool):=(bif (a0.Wz==a1.Wz)then(bif ((a0.fH.Bk==a1.fH.Bk)&&((a0.fH.C8==a1.fH.C8)&&true))then(bif (((a0.fR.fH.Bk==a1.fR.fH.Bk)&&((a0.fR.fH.C8==a1.fR.fH.C8)&&true))&&((a0.fR.Sj==a1.fR.Sj)&&((a0.fR.fNo==a1.fR.fNo)&&true)))then((Atp K a0.fB a1.fB).bind fun r1=>(bif r1 then(bif (a0.W3==a1.W3)then(bif (a0.Gs==a1.Gs)then some (a0.N7==a1.N7)else some false)else some false)else some false))else some false)else some false)else some false)
def Bu3:=ct (fd Tryz.func53 ⟨[.v 73,.v 73],[.v 4],true⟩ (gC (Bd3 K) gN) [9,10,15,16,17,22,23,24,29,30,31,36,37,38,43,44,45]) (Avm K)
def Azv (K:Nat)(a0:C4)(a1:Bq):Option (Int):=((Abh K a0 a1).bind fun r1=>some r1.2.1.Ajk)
def Bu4:=ct (fd Tryz.func145 ⟨[.v 32,.v 38],[.v 3],true⟩ (gC (Bd1 K) gN)) (Azv K)
def Akq (K:Nat)(a0:C4)(a1:Bq):Option ((List Int)):=((Azv K a0 a1).bind fun r1=>((Aqz K a0 a1 0 r1).bind fun r2=>some r2.2.fB))
def Bu5:=ct (fd Tryz.func62 ⟨[.v 32,.v 38],[.n 22 true],true⟩ (gC (Bl8 K) (gC (Bu4 K) gN))) (Akq K)
def A17 (K:Nat)(a0:C4)(a1:Bq):Option (Int):=((Aow K a0 a1).bind fun r1=>some r1.2.1.Ajk)
def Bu6:=ct (fd Tryz.func146 ⟨[.v 32,.v 38],[.v 3],true⟩ (gC (Bdm K) gN)) (A17 K)
def Ayt (K:Nat)(a0:C4)(a1:Bq):Option ((List Int)):=((A17 K a0 a1).bind fun r1=>((Ato K a0 a1 0 r1).bind fun r2=>(if(([]:List Int)++r2.2.fB).length*1≤140737488355328∧(([]:List Int)++r2.2.fB).length≤maxLen then some (([]:List Int)++r2.2.fB)else none)))
def Bu7:=ct (fd Tryz.func63 ⟨[.v 32,.v 38],[.n 22 true],true⟩ (gC (Bdn K) (gC (Bu6 K) gN))) (Ayt K)
def Atj (K:Nat)(v2:Int)(v3:Int)(v4:Int)(v5:Int)(v6:Int)(v7:Int)(v8:Int)(v9:Int)(v10:List Int)(v11:List Int)(v12:List Int)(v13:List As)(v14:List Az)(v15:List Int)(C1:(List Int)->Int->Int->Int->Int->Int->Int->Int->Int->(List Int)->(List Int)->(List Int)->(List As)->(List Az)->(List Int)->Option ((List Int)))(v17:List Int):Option ((List Int)):=(C1 v17 v2 (An3 .i64 v3 1) v4 v5 v6 v7 v8 v9 v10 v11 v12 v13 v14 v15)
def Ara (K:Nat):Nat->(List Int)->Int->Int->Int->Int->Int->Int->Int->Int->(List Int)->(List Int)->(List Int)->(List As)->(List Az)->(List Int)->Option ((List Int))
 |0,_,_,_,_,_,_,_,_,_,_,_,_,_,_,_=>none
 |n1+1,v1,v2,v3,v4,v5,v6,v7,v8,v9,v10,v11,v12,v13,v14,v15=>(bif (decide (v3<v2))then((Ays K v13 v3).bind fun r16=>(bif r16 then(if(v1++([v3]:List Int)).length*8≤140737488355328∧(v1++([v3]:List Int)).length≤maxLen then(Atj K v2 v3 v4 v5 v6 v7 v8 v9 v10 v11 v12 v13 v14 v15 (Ara K n1) (v1++([v3]:List Int)))else none)else(Atj K v2 v3 v4 v5 v6 v7 v8 v9 v10 v11 v12 v13 v14 v15 (Ara K n1) v1)))else some v1)
def A1a (K:Nat)(a0:C4):Option ((List Int)):=(Ara K K ([]:List Int) (a0.fL.length:Int) 0 a0.fC.Ay a0.fC.G6 a0.fC.E5 a0.fC.Gs a0.fC.E6 a0.fC.G7 a0.fP.N5 a0.fP.Vg a0.fP.N6 a0.fL a0.fQ a0.Acw)
def Bmf:=fd Tryz.func12 ⟨[.v 32],[.n 26 true],true⟩ (gC (Bl3 K) gN) [] [467]
def Bf0:Ei:=⟨[(1,.p 101),(3,.o 1003 3 true),(8,.v 2),(9,.v 2)],[(101,.box [.v 2,.v 2,.v 2,.v 2,.v 2,.v 2,.v 22,.v 26,.v 26,.v 29,.v 30,.v 26])]⟩
def Bhq:=fun(C58:CT Bf0 _)=>jn (Bmf K) 467 Bf0 [(58,ar Bf0 C58)] (fun a b c d e f g h i j k l m o p=>Atj K b c d e f g h i j k l m o p C58 a) kN
def Bmg:=lp (Bmf K) 58 Bf0 [] (Ara K) (fun n=>(kC (Bhq K _) kN))
def Bu8:=ct (Bmf K) (A1a K) (kC (Bmg K K) kN)
def Axh (K:Nat)(a0:List As)(a1:Int):Option (Am):=((Anh K a0 a1).bind fun r1=>(bif (!r1)then some (Am.mk 0 0)else(if(0:Int)≤a1∧a1<(a0.length:Int)then some (Am.mk a1 ((gt a0 a1).C8))else none)))
def Bu9:=ct (fd Tryz.func40 ⟨[.v 29,.v 3],[.v 36],true⟩ (gC (A4s K) gN)) (Axh K)
def Asa (K:Nat)(a1:Am):Nat->(List Bq)->Int->Int->Int->Int->Int->Int->Int->Int->Int->(List Int)->(List Int)->(List Int)->(List As)->(List Az)->(List Int)->Option ((List Bq))
 |0,_,_,_,_,_,_,_,_,_,_,_,_,_,_,_,_=>none
 |n1+1,v2,v3,v4,v5,v6,v7,v8,v9,v10,v11,v12,v13,v14,v15,v16,v17=>(bif (decide (v5<v4))then(if(0:Int)≤v3∧v3<(v15.length:Int)then(if(v2++([(Bq.mk a1 ((gt v15 v3).Sj) v5)]:List Bq)).length*32≤140737488355328∧(v2++([(Bq.mk a1 ((gt v15 v3).Sj) v5)]:List Bq)).length≤maxLen then(Asa K a1 n1 (v2++([(Bq.mk a1 ((gt v15 v3).Sj) v5)]:List Bq)) v3 v4 (An3 .i64 v5 1) v6 v7 v8 v9 v10 v11 v12 v13 v14 v15 v16 v17)else none)else none)else some v2)
def Auh (K:Nat)(a0:C4)(a1:Am):Option ((List Bq)):=((Aug K a0 a1).bind fun r1=>(bif (r1.2 != 0)then some ([]:List Bq)else(if(0:Int)≤r1.1∧r1.1<(a0.fL.length:Int)then(Asa K a1 K ([]:List Bq) r1.1 (((gt a0.fL r1.1).F4).length:Int) 0 a0.fC.Ay a0.fC.G6 a0.fC.E5 a0.fC.Gs a0.fC.E6 a0.fC.G7 a0.fP.N5 a0.fP.Vg a0.fP.N6 a0.fL a0.fQ a0.Acw)else none)))
def Br2:=fd Tryz.func41 ⟨[.v 32,.v 36],[.n 68 true],true⟩ (gC (Bl4 K) gN)
def Byx:Ei:=⟨[(2,.p 102),(3,.p 103),(5,.o 1005 38 true),(6,.v 2),(25,.v 2),(26,.v 2)],[(103,.st 36 true),(102,.box [.v 2,.v 2,.v 2,.v 2,.v 2,.v 2,.v 22,.v 26,.v 26,.v 29,.v 30,.v 26])]⟩
def Bhr:=lp (Br2 K) 250 Byx [] (fun n a b c d e=>Asa K e n a b c d) (fun n=>kN)
def Bva:=ct (Br2 K) (Auh K) (kC (Bhr K K) kN)
def Aui (K:Nat)(v48:Int)(C2:Int->Option (Bool)):Option (Bool):=(C2 (An3 .i64 v48 1))
def Ary (K:Nat)(v20:Int)(v21:Int)(v22:Int)(v23:Int)(v24:Int)(v25:Int)(v26:Int)(v27:List Int)(v28:List Int)(v29:List Int)(v30:List As)(v31:List Az)(v32:List Int)(v33:Bq)(v34:Int)(v35:Int)(v36:Int)(v37:Int)(v38:Int)(v39:Int)(v40:List Int)(v41:List Int)(v42:List Int)(v43:List As)(v44:List Az)(v45:List Int)(r47:(List Bq))(C1:Int->Int->Int->Int->Int->Int->Int->(List Int)->(List Int)->(List Int)->(List As)->(List Az)->(List Int)->Bq->Int->Int->Int->Int->Int->Int->(List Int)->(List Int)->(List Int)->(List As)->(List Az)->(List Int)->Option (Bool)):Nat->Int->Option (Bool)
 |0,_=>none
 |n2+1,v48=>(bif (decide (v48<(r47.length:Int)))then(if(0:Int)≤v48∧v48<(r47.length:Int)then(bif (!((((((gt r47 v48).fH).Bk)==v33.fH.Bk)&&(((((gt r47 v48).fH).C8)==v33.fH.C8)&&true))&&((((gt r47 v48).Sj)==v33.Sj)&&((((gt r47 v48).fNo)==v33.fNo)&&true))))then(if(0:Int)≤v48∧v48<(r47.length:Int)then((Akq K (C4.mk (D9.mk v21 v22 v23 v24 v25 v26) (Dm.mk v27 v28 v29) v30 v31 v32) (Bq.mk ((gt r47 v48).fH) ((gt r47 v48).Sj) ((gt r47 v48).fNo))).bind fun r49=>(if(0:Int)≤v48∧v48<(r47.length:Int)then((Akq K (C4.mk (D9.mk v34 v35 v36 v37 v38 v39) (Dm.mk v40 v41 v42) v43 v44 v45) (Bq.mk ((gt r47 v48).fH) ((gt r47 v48).Sj) ((gt r47 v48).fNo))).bind fun r50=>((Atp K r49 r50).bind fun r51=>(bif (!r51)then some false else(Aui K v48 (Ary K v20 v21 v22 v23 v24 v25 v26 v27 v28 v29 v30 v31 v32 v33 v34 v35 v36 v37 v38 v39 v40 v41 v42 v43 v44 v45 r47 C1 n2)))))else none))else none)else(Aui K v48 (Ary K v20 v21 v22 v23 v24 v25 v26 v27 v28 v29 v30 v31 v32 v33 v34 v35 v36 v37 v38 v39 v40 v41 v42 v43 v44 v45 r47 C1 n2)))else none)else(C1 (An3 .i64 v20 1) v21 v22 v23 v24 v25 v26 v27 v28 v29 v30 v31 v32 v33 v34 v35 v36 v37 v38 v39 v40 v41 v42 v43 v44 v45))
def Arz (K:Nat)(r19:(List Int)):Nat->Int->Int->Int->Int->Int->Int->Int->(List Int)->(List Int)->(List Int)->(List As)->(List Az)->(List Int)->Bq->Int->Int->Int->Int->Int->Int->(List Int)->(List Int)->(List Int)->(List As)->(List Az)->(List Int)->Option (Bool)
 |0,_,_,_,_,_,_,_,_,_,_,_,_,_,_,_,_,_,_,_,_,_,_,_,_,_,_=>none
 |n1+1,v20,v21,v22,v23,v24,v25,v26,v27,v28,v29,v30,v31,v32,v33,v34,v35,v36,v37,v38,v39,v40,v41,v42,v43,v44,v45=>(bif (decide (v20<(r19.length:Int)))then(if(0:Int)≤v20∧v20<(r19.length:Int)then((Axh K v43 (gt r19 v20)).bind fun r46=>((Auh K (C4.mk (D9.mk v34 v35 v36 v37 v38 v39) (Dm.mk v40 v41 v42) v43 v44 v45) r46).bind fun r47=>(Ary K v20 v21 v22 v23 v24 v25 v26 v27 v28 v29 v30 v31 v32 v33 v34 v35 v36 v37 v38 v39 v40 v41 v42 v43 v44 v45 r47 (Arz K r19 n1) K 0)))else none)else some true)
def Azw (K:Nat)(a0:List Int):Option (Bool):=((A4r K a0).bind fun r1=>(bif r1 then some true else((Av3 K a0).bind fun r2=>((A0x K r2.1 r2.2.1 r2.2.2.1 r2.2.2.2).bind fun r3=>((Atv K r2.1 r2.2.1 r2.2.2.1 r2.2.2.2).bind fun r4=>((Axe K a0).bind fun r5=>((Aqz K r5.1 r5.2.1 r5.2.2.1 r5.2.2.2).bind fun r6=>((Ato K r5.1 r5.2.1 r5.2.2.1 r5.2.2.2).bind fun r7=>((Aq9 K r3.1 r4.1).bind fun r8=>(bif r8 then((Avm K r3.2 r4.2).bind fun r9=>(bif r9 then((Avm K r6.2 r7.2).bind fun r10=>(bif r10 then((Aq9 K r6.1 r5.1).bind fun r11=>(bif r11 then((Akq K r5.1 r5.2.1).bind fun r12=>((Ayt K r5.1 r5.2.1).bind fun r13=>((Atp K r12 r13).bind fun r14=>(bif (!r14)then some false else(bif (r3.2.Wz != 0)then((Aq9 K r3.1 r2.1).bind fun r15=>some r15)else((Aqz K r3.1 r2.2.1 r2.2.2.1 (r2.2.2.2.length:Int)).bind fun r16=>(bif (r16.2.Wz != 0)then some false else((Atp K r16.2.fB r2.2.2.2).bind fun r17=>(bif r17 then((Ati K r3.1.fL r2.1.fL).bind fun r18=>(bif (!r18)then some false else((A1a K r2.1).bind fun r19=>(Arz K r19 K 0 r3.1.fC.Ay r3.1.fC.G6 r3.1.fC.E5 r3.1.fC.Gs r3.1.fC.E6 r3.1.fC.G7 r3.1.fP.N5 r3.1.fP.Vg r3.1.fP.N6 r3.1.fL r3.1.fQ r3.1.Acw r2.2.1 r2.1.fC.Ay r2.1.fC.G6 r2.1.fC.E5 r2.1.fC.Gs r2.1.fC.E6 r2.1.fC.G7 r2.1.fP.N5 r2.1.fP.Vg r2.1.fP.N6 r2.1.fL r2.1.fQ r2.1.Acw))))else some false)))))))))else some false))else some false))else some false))else some false))))))))))
def Bf1:=fd Tryz.func7 ⟨[.v 22],[.v 4],true⟩ (gC (Bzf K) (gC (Bu8 K) (gC (Bu2 K) (gC (Bu9 K) (gC (Bva K) (gC (Bl8 K) (gC (Buv K) (gC (Bu3 K) (gC (Bti K) (gC (Bke K) (gC (Buw K) (gC (Bdn K) (gC (Bd3 K) (gC (Bu5 K) (gC (Bu7 K) (gC (Bmd K) gN)))))))))))))))) [75,76,77,80,81,82,83,86,87,88,89,92,93,94,95,122,123,127,128,129,130,166,167] [67105945] [(4,[.frz 3029]),(13,[.frz 21248,.frz 21249,.frz 21250,.frz 21251,.frz 21252,.frz 21253])]
def Bf2:Ei:=⟨[(3,.p 103),(4,.p 104),(7,.p 107),(21,.v 26),(22,.v 2),(23,.v 68),(24,.v 2)],[(107,.box [.v 2,.v 2,.v 2,.v 2,.v 2,.v 2,.v 22,.v 26,.v 26,.v 29,.v 30,.v 26]),(104,.st 38 true),(103,.box [.v 2,.v 2,.v 2,.v 2,.v 2,.v 2,.v 22,.v 26,.v 26,.v 29,.v 30,.v 26])]⟩
end
end Go.Proofs.YtcdojenmonmcfaaGreat
