/- What the functions compute that FnStales reaches, and that they do; no condition. Printed by gen4.py. -/
import Derived.Test.YtcdojenmonmcfaaGreatFSrt
set_option linter.all false
set_option maxRecDepth 20000
namespace Go.Proofs.YtcdojenmonmcfaaGreat
open Go.Eng
noncomputable section
abbrev PT (h:Ej):Type:=Af tyU h.codes
abbrev Rt (s:Sig):Type:=Option (Aw tyU s.codes)
def FnP (R:Type):List TC->Type
 |[]=>R
 |c::l=>c.T tyU->FnP R l
noncomputable def unc{R:Type}:(l:List TC)->FnP R l->Af tyU l->R
 |[],f,_=>f
 |_::l,f,q=>unc l (f q.1) q.2
abbrev CT (h:Ej)(s:Sig):Type:=FnP (Rt s) h.codes
noncomputable abbrev ar{s:Sig}(h:Ej)(M:CT h s):SS Aj->Rt s:=arr tyU tab h (unc h.codes M)
abbrev OkF (f:FuncId)(c:Fh tyU):Prop:=Fh.Ok tyU Tryz.prog f c∧Ei Tryz.prog f
theorem Byr:Tryz.prog.follows .mixedOrders=true:=by kernel_rfl
structure FD (f:FuncId)(s:Sig) where
 fn:Func
 hf:Tryz.prog.funcs[f]? =some fn
 G:List (Nat×Fh tyU)
 g: ∀f c,lk G f=some c->OkF f c
 O:List (Nat×List (Nat×Fh tyU))
 o: ∀d l,lk O d=some l-> ∀f c,lk l f=some c->OkF f c
 spl:List Nat
 js:List Nat
 pre:List (Nat×List Cmd)
 post:List (Nat×List Cmd)
noncomputable abbrev fo{f:FuncId}{fn:Func}(hf:Tryz.prog.funcs[f]? =some fn)(s:Sig){G:List (Nat×Fh tyU)}(g: ∀f c,lk G f=some c->OkF f c){O:List (Nat×List (Nat×Fh tyU))}(o: ∀d l,lk O d=some l-> ∀f c,lk l f=some c->OkF f c)(spl:List Nat:=[])(js:List Nat:=[])(pre:List (Nat×List Cmd):=[])(post:List (Nat×List Cmd):=[]):FD f s:=⟨fn,hf,G,g,O,o,spl,js,pre,post⟩
noncomputable abbrev fd{f:FuncId}{fn:Func}(hf:Tryz.prog.funcs[f]? =some fn)(s:Sig){G:List (Nat×Fh tyU)}(g: ∀f c,lk G f=some c->OkF f c)(spl:List Nat:=[])(js:List Nat:=[])(pre:List (Nat×List Cmd):=[])(post:List (Nat×List Cmd):=[]):FD f s:=⟨fn,hf,G,g,[],oN,spl,js,pre,post⟩
section
variable {f:FuncId} {s:Sig}
noncomputable abbrev FD.b (X:FD f s):Code:=X.fn.body.getD .skip
noncomputable def FD.x (X:FD f s)(L B:Λt tyU s):Ox tyU (Aw tyU s.codes):=⟨X.G,X.O,eqT eqs,X.fn.ntmps,X.spl,X.pre,X.post,X.js,L,B,Ae5 tyU tab s X.fn.results.toList⟩
abbrev CuX (X:FD f s):Λt tyU s->Nat->(SS Aj->Rt s)->Prop:=Cut tyU tab Tryz.prog X.fn.results.toList s X.fn.ntmps X.js X.b
abbrev CsX (X:FD f s):Λt tyU s->Λt tyU s->Prop:=Vg tyU tab Tryz.prog X.fn.results.toList s X.fn.ntmps X.js X.b
theorem xo (X:FD f s):XOk tyU tab Tryz.prog X.fn.results.toList s X.fn.ntmps X.js X.x:=xok Aqo Byr X.g X.o Apo
theorem lp (X:FD f s)(p:Nat)(h:Ej)(B:Λt tyU s)(M:Nat->CT h s){L:Nat->Λt tyU s}(hc: ∀n,CsX X ((p,ar h (M n))::B) (L n))(e: ∀n q,unc h.codes (M (n+1)) q=Ae3 tyU tab (X.x (L n) ((p,ar h (M n))::B)) X.b (2*p) (h.emb tyU q):=by intro n q;kernel_rfl)(hp:Nat.ble 1 p=true:=by rfl)(hk:Sj X.js X.b p=true:=by kernel_rfl)(e0: ∀q,unc h.codes (M 0) q=none:=by intro q;rfl)(n:Nat):CuX X B p (ar h (M n)):=Amh (M:=fun n=>unc h.codes (M n)) (xo X) hp hk e0 e hc n
theorem jn (X:FD f s)(p:Nat)(h:Ej)(B:Λt tyU s)(M:CT h s){L:Λt tyU s}(hc:CsX X B L)(e: ∀q,unc h.codes M q=Ae3 tyU tab (X.x L B) X.b (2*p+1) (h.emb tyU q):=by intro q;kernel_rfl)(hp:Nat.ble 1 p=true:=by rfl):CuX X B p (ar h M):=Amg (xo X) hp e hc
theorem up{X:FD f s}{B:Λt tyU s}{p x:Nat}{F G:SS Aj->Rt s}(h:CuX X B p F)(hn:Ami X.js X.b p x=true:=by kernel_rfl):CuX X ((x,G)::B) p F:=Aoy hn h
theorem ct (X:FD f s)(m:V8 tyU s.ps (Rt s)){L:Λt tyU s}(hc:CsX X [] L:=by exact kN)(e:Uj tyU tab (X.x L []) X.b s.ps 0 [] [] m:=by(repeat intro _);show @Eq _ _ _;kernel_rfl)(hs:Ww tyU s.ps:=by(repeat (refine⟨fun _=>rfl,?_⟩));exact trivial)(h1:(X.fn.name== "runtime.NumGoroutine")=false:=by rfl)(h2:X.fn.body=some X.b:=by rfl)(h5:Nat.ble s.ps.length X.fn.ntmps=true:=by rfl)(h6:Nat.ble (Bg s.ps+1) 100=true:=by rfl)(h7:Nat.ble X.fn.results.toList.length 4=true:=by rfl):OkF f ⟨s,m⟩:=Aox (xo X) Apn e hc X.hf h1 h2 (Array.toArray_toList).symm rfl h5 h6 h7 hs
end
variable (K:Nat)
def A4a (K:Nat)(a0:List Int):Option (Bool):=some (decide ((a0.length:Int)>1048576))
def Byt:=ct (fd Tryz.func8 ⟨[.v 22],[.v 4],true⟩ gN) (A4a K)
def Aux (K:Nat)(a0:List Int):Nat->Int->Int->Option (D1)
 |0,_,_=>none
 |n1+1,v1,v2=>(bif (decide (v2<(a0.length:Int)))then(bif (decide (v2<4000))then(if(0:Int)≤v2∧v2<(a0.length:Int)then(Aux K a0 n1 (An9 .i64 (An6 .i64 (An6 .i64 (An8 .i64 v1 137) (IntKind.i64.wrap (gt a0 v2))) 11) 1073741823) (An6 .i64 v2 1))else none)else some (D1.mk a0 0 v1))else some (D1.mk a0 0 v1))
def Axg (K:Nat)(a0:List Int):Option (D1):=(Aux K a0 K (An6 .i64 161416 (a0.length:Int)) 0)
def X_1:=fd Tryz.func67 ⟨[.v 22],[.p 148 false],false⟩ gN [11,12]
def h_0:Ej:=⟨[(0,.v 22),(3,.v 2),(4,.v 2)],[]⟩
def Brh:=lp X_1 58 h_0 [] (fun n a=>Aux K a n) (fun n=>kN)
def Bvh:=ct X_1 (Axg K) (kC (Brh K K) kN)
def Av1 (K:Nat)(a0:List Int)(a1:Int):Option (Int):=(if 12≠(0:Int)then(bif (decide ((An6 .i64 3 (Alk .i64 (a0.length:Int) 12))>a1))then some a1 else some (An6 .i64 3 (Alk .i64 (a0.length:Int) 12)))else none)
def Byu:=ct (fd Tryz.func69 ⟨[.v 22,.v 3],[.v 3],true⟩ gN) (Av1 K)
def Awi (K:Nat)(v1:Int)(v2:List Int)(v3:Int)(v4:Int):Option (Int×D1):=some (v1,(D1.mk v2 v3 v4))
def Aqw (K:Nat)(a0:D1):Option (Int×D1):=(if(0:Int)≤33 then(if(0:Int)≤47 then(bif (decide (a0.fi<(a0.fb.length:Int)))then(if(0:Int)≤a0.fi∧a0.fi<(a0.fb.length:Int)then(Awi K (An9 .i64 (An6 .i64 (An9 .i64 (Aoa .i64 (Alj .i64 (An6 .i64 (An8 .i64 a0.fh 6364136223846793005) 1442695040888963407) 33) (Alj .i64 (An6 .i64 (An8 .i64 a0.fh 6364136223846793005) 1442695040888963407) 47)) 255) (IntKind.i64.wrap (gt a0.fb a0.fi))) 255) a0.fb (An6 .i64 a0.fi 1) (An6 .i64 (An8 .i64 a0.fh 6364136223846793005) 1442695040888963407))else none)else(Awi K (An9 .i64 (Aoa .i64 (Alj .i64 (An6 .i64 (An8 .i64 a0.fh 6364136223846793005) 1442695040888963407) 33) (Alj .i64 (An6 .i64 (An8 .i64 a0.fh 6364136223846793005) 1442695040888963407) 47)) 255) a0.fb a0.fi (An6 .i64 (An8 .i64 a0.fh 6364136223846793005) 1442695040888963407)))else none)else none)
def X_3:=fd Tryz.func148 ⟨[.b 148 false],[.v 3],false⟩ gN [] [15]
def h_1:Ej:=⟨[(3,.v 2)],[(1,.box [.v 22,.v 2,.v 2])]⟩
def Bri:=jn X_3 15 h_1 [] (Awi K) kN
def Bvi:=ct X_3 (Aqw K) (kC (Bri K) kN)
def Ap (K:Nat)(a0:D1)(a1:Int):Option (Int×D1):=(bif (decide (a1≤0))then some (0,a0)else(bif (decide (a1≤256))then((Aqw K a0).bind fun r1=>(if a1≠(0:Int)then some ((Int.tmod r1.1 a1),r1.2)else none))else((Aqw K a0).bind fun r2=>((Aqw K r2.2).bind fun r3=>((Aqw K r3.2).bind fun r4=>(if a1≠(0:Int)then some ((Int.tmod (An6 .i64 (An6 .i64 (An8 .i64 r2.1 65536) (An8 .i64 r3.1 256)) r4.1) a1),r4.2)else none))))))
def A2x:=ct (fd Tryz.func66 ⟨[.b 148 false,.v 3],[.v 3],false⟩ (gC (Bvi K) gN)) (Ap K)
def P2 (K:Nat)(a0:D1)(a1:List Int):Option (Int×D1×(List Int)):=((Ap K a0 (a1.length:Int)).bind fun r1=>(if(0:Int)≤r1.1∧r1.1<(a1.length:Int)then some ((gt a1 r1.1),r1.2,a1)else none))
def A9i:=ct (fd Tryz.func132 ⟨[.b 148 false,.w 26 true [(3,true)]],[.v 3],false⟩ (gC (A2x K) gN)) (P2 K)
def Av2 (K:Nat)(a0:D1):Option (Ea×D1):=((Ap K a0 11).bind fun r1=>((P2 K r1.2 ([8,8,9,12,16]:List Int)).bind fun r2=>(if r2.2.2.length=([8,8,9,12,16]:List Int).length then((Ap K r2.2.1 7).bind fun r3=>((Ap K r3.2 6).bind fun r4=>((P2 K r4.2 ([1,3,4,8,16]:List Int)).bind fun r5=>(if r5.2.2.length=([1,3,4,8,16]:List Int).length then((Ap K r5.2.1 4).bind fun r6=>some ((Ea.mk (An6 .i64 2 r1.1) r2.1 (An6 .i64 2 r3.1) (An6 .i64 1 r4.1) r5.1 (An6 .i64 1 r6.1)),r6.2))else none))))else none)))
def Bvj:=ct (fd Tryz.func181 ⟨[.b 148 false],[.v 25],false⟩ (gC (A2x K) (gC (A9i K) gN))) (Av2 K)
def Gx (K:Nat)(a0:Int)(a1:Int)(a2:Int):Option (Bool):=(bif (decide (a0≥a1))then some (decide (a0≤a2))else some false)
def A1m:=ct (fd Tryz.func106 ⟨[.v 3,.v 3,.v 3],[.v 4],true⟩ gN [9,10]) (Gx K)
def Anb (K:Nat)(a0:Ea):Option (Bool):=((Gx K a0.Ay 2 12).bind fun r1=>(bif r1 then((Gx K a0.G8 8 16).bind fun r2=>(bif r2 then((Gx K a0.E6 2 8).bind fun r3=>(bif r3 then((Gx K a0.Gu 1 8).bind fun r4=>(bif r4 then((Gx K a0.E7 1 16).bind fun r5=>(bif r5 then((Gx K a0.G9 1 4).bind fun r6=>some r6)else some false))else some false))else some false))else some false))else some false))
def Ba7:=ct (fd Tryz.func95 ⟨[.v 25],[.v 4],true⟩ (gC (A1m K) gN) [5,6,9,10,11,14,15,16,19,20,21,24,25,26]) (Anb K)
def Aq8 (K:Nat)(a0:Ea):Option (Int):=((Anb K a0).bind fun r1=>(bif (!r1)then some 0 else some (An8 .i64 a0.Ay a0.G8)))
def Bnc:=ct (fd Tryz.func190 ⟨[.v 25],[.v 3],true⟩ (gC (Ba7 K) gN)) (Aq8 K)
def A2e (K:Nat)(a0:Int):Option ((List Int)):=((Gx K a0 0 4096).bind fun r1=>(bif (!r1)then some ([]:List Int)else(if(0:Int)≤a0∧a0≤a0∧(1:Int)*a0≤281474976710656∧a0≤9223372036854775807 then some (List.replicate a0.toNat 0)else none)))
def Bvk:=ct (fd Tryz.func189 ⟨[.v 3],[.n 22 true],true⟩ (gC (A1m K) gN)) (A2e K)
def Asg (K:Nat)(a0:Ea):Nat->Int->Dn->Dn->Option (Dn)
 |0,_,_,_=>none
 |n1+1,v4,v5,v6=>(bif (decide (v4<a0.Ay))then(if(v5.Vi++([0]:List Int)).length*8≤140737488355328∧(v5.Vi++([0]:List Int)).length≤maxLen then(if(v5.N8++([(-1)]:List Int)).length*8≤140737488355328∧(v5.N8++([(-1)]:List Int)).length≤maxLen then(Asg K a0 n1 (An6 .i64 v4 1) (Dn.mk v5.N7 (v5.Vi++([0]:List Int)) (v5.N8++([(-1)]:List Int))) v6)else none)else none)else some v5)
def Axh (K:Nat)(a0:Ea):Option (Dn):=((Anb K a0).bind fun r1=>(bif (!r1)then some (Dn.mk [] [] [])else((Aq8 K a0).bind fun r2=>((A2e K r2).bind fun r3=>(Asg K a0 K 0 (Dn.mk r3 [] []) (Dn.mk [] [] []))))))
def Bvl:=fd Tryz.func96 ⟨[.v 25],[.n 28 true],true⟩ (gC (Ba7 K) (gC (Bvk K) (gC (Bnc K) gN))) [] [] [(3,[.take 103 0 6648,.take 103 1 6649,.take 103 2 6650]),(8,[.take 103 1 6649]),(9,[.take 103 2 6650]),(10,[.take 103 0 6648,.take 103 1 6649,.take 103 2 6650])]
def h_2:Ej:=⟨[(1,.p 101),(2,.p 102),(3,.p 103),(4,.v 2)],[(103,.st 28 true),(102,.st 28 true),(101,.st 25 true)]⟩
def Bh7:=lp (Bvl K) 250 h_2 [] (fun n a b c d=>Asg K d n a b c) (fun n=>kN)
def Bvm:=ct (Bvl K) (Axh K) (kC (Bh7 K K) kN)
def Aky (K:Nat)(a0:Int):Option (As):=some (As.mk 0 a0 0 0 0 0 0 0 [] 0 0 [] [])
def Ba8:=ct (fd Tryz.func191 ⟨[.v 3],[.n 50 false],true⟩ gN) (Aky K)
def Arv (K:Nat)(a0:Ea):Nat->(List As)->Int->Option ((List As))
 |0,_,_=>none
 |n1+1,v1,v2=>(bif (decide (v2<a0.E6))then((Anb K a0).bind fun r3=>(bif r3 then((Aky K 1).bind fun r4=>(if(v1++[r4]).length*152≤140737488355328∧(v1++[r4]).length≤maxLen then(Arv K a0 n1 (v1++[r4]) (An6 .i64 v2 1))else none))else some v1))else some v1)
def Azm (K:Nat)(a0:Ea):Option ((List As)):=(Arv K a0 K ([]:List As) 0)
def Bvn:=fd Tryz.func97 ⟨[.v 25],[.n 29 true],false⟩ (gC (Ba7 K) (gC (Ba8 K) gN)) [9,10] [] [] [(18,[.put 3018])]
def h_3:Ej:=⟨[(1,.p 101),(3,.o 1003 50 true),(4,.v 2)],[(101,.st 25 true)]⟩
def Bnd:=lp (Bvn K) 58 h_3 [] (fun n a b c=>Arv K c n a b) (fun n=>kN)
def Bvo:=ct (Bvn K) (Azm K) (kC (Bnd K K) kN)
def Awj (K:Nat)(a0:Ea):Option (C5):=((Anb K a0).bind fun r1=>(bif (!r1)then some (C5.mk (Ea.mk 0 0 0 0 0 0) (Dn.mk [] [] []) [] [] [])else((Axh K a0).bind fun r2=>((Azm K a0).bind fun r3=>some (C5.mk a0 r2 r3 [] [])))))
def Bvp:=ct (fd Tryz.func25 ⟨[.v 25],[.n 32 true],false⟩ (gC (Ba7 K) (gC (Bvm K) (gC (Bvo K) gN)))) (Awj K)
def Ad7 (K:Nat)(a0:List As)(a1:Int):Option (Bool):=(bif (decide (a1≥1))then some (decide (a1≤(a0.length:Int)))else some false)
def A54:=ct (fd Tryz.func213 ⟨[.v 29,.v 3],[.v 4],true⟩ gN [6,7]) (Ad7 K)
def Av3 (K:Nat)(a0:List As):Nat->Int->(List Int)->Option ((List Int))
 |0,_,_=>none
 |n1+1,v1,v2=>((Ad7 K a0 (An6 .i64 v1 1)).bind fun r3=>(bif r3 then(bif (decide ((v2.length:Int)<(a0.length:Int)))then(if(v2++([v1]:List Int)).length*8≤140737488355328∧(v2++([v1]:List Int)).length≤maxLen then(if(0:Int)≤v1∧v1<(a0.length:Int)then(Av3 K a0 n1 (An7 .i64 ((gt a0 v1).fUp) 1) (v2++([v1]:List Int)))else none)else none)else some v2)else some v2))
def Auy (K:Nat)(a0:List As)(a1:Int):Option ((List Int)):=(Av3 K a0 K a1 ([]:List Int))
def Bvq:=fd Tryz.func123 ⟨[.v 29,.v 3],[.n 26 true],true⟩ (gC (A54 K) gN) [10,11]
def h_4:Ej:=⟨[(0,.v 29),(1,.v 2),(5,.o 1005 3 true)],[]⟩
def Bne:=lp (Bvq K) 28 h_4 [] (fun n a=>Av3 K a n) (fun n=>kN)
def Bey:=ct (Bvq K) (Auy K) (kC (Bne K K) kN)
def Arw (K:Nat)(a0:List As)(a1:Int):Option (Bool):=(if(0:Int)≤a1∧a1<(a0.length:Int)then((Ad7 K a0 ((gt a0 a1).fUp)).bind fun r1=>(bif r1 then(if(0:Int)≤(An7 .i64 ((gt a0 a1).fUp) 1)∧(An7 .i64 ((gt a0 a1).fUp) 1)<(a0.length:Int)then(bif (((gt a0 (An7 .i64 ((gt a0 a1).fUp) 1)).Vi)==1)then(if(0:Int)≤(An7 .i64 ((gt a0 a1).fUp) 1)∧(An7 .i64 ((gt a0 a1).fUp) 1)<(a0.length:Int)then(if(0:Int)≤a1∧a1<(a0.length:Int)then some (((gt a0 (An7 .i64 ((gt a0 a1).fUp) 1)).Sl)==((gt a0 a1).Sm))else none)else none)else some false)else none)else some false))else none)
def Bh8:=ct (fd Tryz.func206 ⟨[.v 29,.v 3],[.v 4],true⟩ (gC (A54 K) gN) [13,14,21,22,23]) (Arw K)
def Axi (K:Nat)(v2:Int)(C1:Int->Option (Bool)):Option (Bool):=(C1 (An6 .i64 v2 1))
def Ash (K:Nat)(a0:List As)(r1:(List Int)):Nat->Int->Option (Bool)
 |0,_=>none
 |n1+1,v2=>(bif (decide (v2<(r1.length:Int)))then(if(0:Int)≤v2∧v2<(r1.length:Int)then(if(0:Int)≤(gt r1 v2)∧(gt r1 v2)<(a0.length:Int)then(bif (((gt a0 (gt r1 v2)).Vi) != 1)then some false else(bif (decide ((An6 .i64 v2 1)<(r1.length:Int)))then(if(0:Int)≤v2∧v2<(r1.length:Int)then((Arw K a0 (gt r1 v2)).bind fun r3=>(bif (!r3)then some false else(Axi K v2 (Ash K a0 r1 n1))))else none)else(Axi K v2 (Ash K a0 r1 n1))))else none)else none)else(bif (decide ((r1.length:Int)>0))then(if(0:Int)≤(An7 .i64 (r1.length:Int) 1)∧(An7 .i64 (r1.length:Int) 1)<(r1.length:Int)then(if(0:Int)≤(gt r1 (An7 .i64 (r1.length:Int) 1))∧(gt r1 (An7 .i64 (r1.length:Int) 1))<(a0.length:Int)then some (((gt a0 (gt r1 (An7 .i64 (r1.length:Int) 1))).fUp)==0)else none)else none)else some false))
def Avo (K:Nat)(a0:List As)(a1:Int):Option (Bool):=((Auy K a0 a1).bind fun r1=>(Ash K a0 r1 K 0))
def Brj:=fd Tryz.func113 ⟨[.v 29,.v 3],[.v 4],true⟩ (gC (Bey K) (gC (Bh8 K) gN)) [24,25,30,31,43,44] [233]
def h_5:Ej:=⟨[(0,.v 29),(5,.v 26),(6,.v 2)],[]⟩
def Bh9:=fun(C58:CT h_5 _)=>jn (Brj K) 233 h_5 [(58,ar h_5 C58)] (fun a b c=>Axi K c (C58 a b)) kN
def Bnf:=lp (Brj K) 58 h_5 [] (fun n a b=>Ash K a b n) (fun n=>(kC (Bh9 K _) kN))
def Bia:=ct (Brj K) (Avo K) (kC (Bnf K K) kN)
def Asi (K:Nat)(v2:Int)(v3:Int)(v4:Int)(v5:Int)(v6:Int)(v7:Int)(v8:Int)(v9:List Int)(v10:List Int)(v11:List Int)(v12:List As)(v13:List Az)(v14:List Int)(C1:(List Int)->Int->Int->Int->Int->Int->Int->Int->(List Int)->(List Int)->(List Int)->(List As)->(List Az)->(List Int)->Option ((List Int)))(v16:List Int):Option ((List Int)):=(C1 v16 (An6 .i64 v2 1) v3 v4 v5 v6 v7 v8 v9 v10 v11 v12 v13 v14)
def Aq2 (K:Nat):Nat->(List Int)->Int->Int->Int->Int->Int->Int->Int->(List Int)->(List Int)->(List Int)->(List As)->(List Az)->(List Int)->Option ((List Int))
 |0,_,_,_,_,_,_,_,_,_,_,_,_,_,_=>none
 |n1+1,v1,v2,v3,v4,v5,v6,v7,v8,v9,v10,v11,v12,v13,v14=>(bif (decide (v2<(v12.length:Int)))then((Avo K v12 v2).bind fun r15=>(bif r15 then(if(v1++([v2]:List Int)).length*8≤140737488355328∧(v1++([v2]:List Int)).length≤maxLen then(Asi K v2 v3 v4 v5 v6 v7 v8 v9 v10 v11 v12 v13 v14 (Aq2 K n1) (v1++([v2]:List Int)))else none)else(Asi K v2 v3 v4 v5 v6 v7 v8 v9 v10 v11 v12 v13 v14 (Aq2 K n1) v1)))else some v1)
def Auz (K:Nat)(a0:C5):Option ((List Int)):=(Aq2 K K ([]:List Int) 0 a0.fC.Ay a0.fC.G8 a0.fC.E6 a0.fC.Gu a0.fC.E7 a0.fC.G9 a0.fP.N7 a0.fP.Vi a0.fP.N8 a0.fL a0.fQ a0.Acy)
def Brk:=fd Tryz.func31 ⟨[.v 32],[.n 26 true],true⟩ (gC (Bia K) gN) [] [233]
def h_6:Ej:=⟨[(1,.p 101),(3,.o 1003 3 true),(4,.v 2)],[(101,.box [.v 2,.v 2,.v 2,.v 2,.v 2,.v 2,.v 22,.v 26,.v 26,.v 29,.v 30,.v 26])]⟩
def Bib:=fun(C58:CT h_6 _)=>jn (Brk K) 233 h_6 [(58,ar h_6 C58)] (fun a b c d e f g h i j k l m o=>Asi K b c d e f g h i j k l m o C58 a) kN
def Bng:=lp (Brk K) 58 h_6 [] (Aq2 K) (fun n=>(kC (Bib K _) kN))
def Bic:=ct (Brk K) (Auz K) (kC (Bng K K) kN)
def Ahh (K:Nat)(a0:D1)(a1:Int):Option (Bool×D1):=((Ap K a0 a1).bind fun r1=>some ((r1.1==0),r1.2))
def A8v:=ct (fd Tryz.func150 ⟨[.b 148 false,.v 3],[.v 4],false⟩ (gC (A2x K) gN)) (Ahh K)
def Atv (K:Nat)(a0:D1):Option (An×D1):=((Ap K a0 5).bind fun r1=>((Ap K r1.2 3).bind fun r2=>some ((An.mk r1.1 (An6 .i64 1 r2.1)),r2.2)))
def Bpv:=ct (fd Tryz.func231 ⟨[.b 148 false],[.v 36],false⟩ (gC (A2x K) gN)) (Atv K)
def Asj (K:Nat)(a1:Int):Nat->(List Int)->Int->(List Int)->Int->Int->Option ((List Int)×D1)
 |0,_,_,_,_,_=>none
 |n1+1,v1,v2,v3,v4,v5=>(bif (decide (v2<a1))then((Aqw K (D1.mk v3 v4 v5)).bind fun r6=>(if(v1++([(IntKind.u8.wrap r6.1)]:List Int)).length*1≤140737488355328∧(v1++([(IntKind.u8.wrap r6.1)]:List Int)).length≤maxLen then(Asj K a1 n1 (v1++([(IntKind.u8.wrap r6.1)]:List Int)) (An6 .i64 v2 1) r6.2.fb r6.2.fi r6.2.fh)else none))else some (v1,(D1.mk v3 v4 v5)))
def Axj (K:Nat)(a0:D1)(a1:Int):Option ((List Int)×D1):=(Asj K a1 K ([]:List Int) 0 a0.fb a0.fi a0.fh)
def Bvr:=fd Tryz.func141 ⟨[.b 148 false,.v 3],[.n 22 true],false⟩ (gC (Bvi K) gN)
def h_7:Ej:=⟨[(0,.p 1),(1,.v 2),(5,.o 1005 5 true),(6,.v 2)],[(1,.box [.v 22,.v 2,.v 2])]⟩
def Bnh:=lp (Bvr K) 58 h_7 [] (fun n a=>Asj K a n) (fun n=>kN)
def Bpw:=ct (Bvr K) (Axj K) (kC (Bnh K K) kN)
def Alx (K:Nat)(v6:List Int)(v7:Int)(v8:Int)(v9:Co)(v10:Co):Option (Co×D1):=some (v9,(D1.mk v6 v7 v8))
def Aq3 (K:Nat)(v11:Int)(v12:Bool)(v13:List Int)(v14:Int)(v15:Int)(v16:Br)(v17:An)(v18:Co)(v19:Co):Option (Co×D1):=(bif v12 then(Alx K v13 v14 v15 (Co.mk v18.W3 v17 v18.fR v18.fN v18.fM v18.fB) v19)else(bif (v11==2)then((P2 K (D1.mk v13 v14 v15) ([1,2,3,5,8,9,17,20,0,201]:List Int)).bind fun r20=>(if r20.2.2.length=([1,2,3,5,8,9,17,20,0,201]:List Int).length then((P2 K r20.2.1 ([1,1,2,4,3]:List Int)).bind fun r21=>(if r21.2.2.length=([1,1,2,4,3]:List Int).length then(Alx K r21.2.1.fb r21.2.1.fi r21.2.1.fh (Co.mk v18.W3 v17 v18.fR r20.1 r21.1 v18.fB) v19)else none))else none))else(bif (v11==3)then((Ap K (D1.mk v13 v14 v15) 4).bind fun r22=>((Ap K r22.2 5).bind fun r23=>(Alx K r23.2.fb r23.2.fi r23.2.fh (Co.mk v18.W3 v18.fH v16 r22.1 r23.1 v18.fB) v19)))else(bif (v11==4)then((Ap K (D1.mk v13 v14 v15) 4).bind fun r24=>((Ap K r24.2 4).bind fun r25=>((Axj K r25.2 r25.1).bind fun r26=>(Alx K r26.2.fb r26.2.fi r26.2.fh (Co.mk v18.W3 v18.fH v16 r24.1 v18.fM r26.1) v19))))else(bif (v11==5)then((P2 K (D1.mk v13 v14 v15) ([1,7,255,256]:List Int)).bind fun r27=>(if r27.2.2.length=([1,7,255,256]:List Int).length then(Alx K r27.2.1.fb r27.2.1.fi r27.2.1.fh (Co.mk v18.W3 v17 v18.fR r27.1 v18.fM v18.fB) v19)else none))else(Alx K v13 v14 v15 v18 v19))))))
def Au0 (K:Nat)(a0:D1):Option (Co×D1):=((Ap K a0 9).bind fun r1=>((Atv K r1.2).bind fun r2=>((Ap K r2.2 2).bind fun r3=>((Ap K r3.2 3).bind fun r4=>(bif ((An6 .i64 1 r1.1)==1)then((Ahh K r4.2 2).bind fun r5=>(bif r5.1 then(Alx K r5.2.fb r5.2.fi r5.2.fh (Co.mk (An6 .i64 1 r1.1) r2.1 (Br.mk (An.mk 0 0) 0 0) 0 0 []) (Co.mk 0 (An.mk 0 0) (Br.mk (An.mk 0 0) 0 0) 0 0 []))else(Alx K r5.2.fb r5.2.fi r5.2.fh (Co.mk (An6 .i64 1 r1.1) (An.mk 0 0) (Br.mk (An.mk 0 0) 0 0) 0 0 []) (Co.mk 0 (An.mk 0 0) (Br.mk (An.mk 0 0) 0 0) 0 0 []))))else(bif ((An6 .i64 1 r1.1)==6)then(Aq3 K (An6 .i64 1 r1.1) ((An6 .i64 1 r1.1)==6) r4.2.fb r4.2.fi r4.2.fh (Br.mk r2.1 r3.1 r4.1) r2.1 (Co.mk (An6 .i64 1 r1.1) (An.mk 0 0) (Br.mk (An.mk 0 0) 0 0) 0 0 []) (Co.mk 0 (An.mk 0 0) (Br.mk (An.mk 0 0) 0 0) 0 0 []))else(bif ((An6 .i64 1 r1.1)==7)then(Aq3 K (An6 .i64 1 r1.1) ((An6 .i64 1 r1.1)==7) r4.2.fb r4.2.fi r4.2.fh (Br.mk r2.1 r3.1 r4.1) r2.1 (Co.mk (An6 .i64 1 r1.1) (An.mk 0 0) (Br.mk (An.mk 0 0) 0 0) 0 0 []) (Co.mk 0 (An.mk 0 0) (Br.mk (An.mk 0 0) 0 0) 0 0 []))else(Aq3 K (An6 .i64 1 r1.1) ((An6 .i64 1 r1.1)==8) r4.2.fb r4.2.fi r4.2.fh (Br.mk r2.1 r3.1 r4.1) r2.1 (Co.mk (An6 .i64 1 r1.1) (An.mk 0 0) (Br.mk (An.mk 0 0) 0 0) 0 0 []) (Co.mk 0 (An.mk 0 0) (Br.mk (An.mk 0 0) 0 0) 0 0 [])))))))))
def Brl:=fd Tryz.func151 ⟨[.b 148 false],[.n 40 true],false⟩ (gC (A2x K) (gC (A9i K) (gC (Bpw K) (gC (A8v K) (gC (Bpv K) gN))))) [] [31,1003] [(27,[.take 103 9 6657])]
def h_8:Ej:=⟨[(2,.p 102),(3,.p 103)],[(1,.box [.v 22,.v 2,.v 2]),(103,.st 40 true),(102,.st 40 true)]⟩
def h_9:Ej:=⟨[(0,.p 1),(2,.p 102),(3,.p 103),(4,.p 104),(5,.p 105),(19,.v 2),(26,.v 4)],[(1,.box [.v 22,.v 2,.v 2]),(105,.st 38 true),(104,.st 36 true),(103,.st 40 true),(102,.st 40 true)]⟩
def Bez:=jn (Brl K) 31 h_8 [] (Alx K) kN
def Bf1:=jn (Brl K) 1003 h_9 [] (Aq3 K) (kC (Bez K) kN)
def Bvs:=ct (Brl K) (Au0 K) (kC (Bez K) (kC (Bf1 K) kN))
def Ang (K:Nat)(a0:List As)(a1:Int):Option (An):=((Gx K a1 0 (An7 .i64 (a0.length:Int) 1)).bind fun r1=>(bif (!r1)then some (An.mk 0 0)else(if(0:Int)≤a1∧a1<(a0.length:Int)then some (An.mk a1 ((gt a0 a1).C9))else none)))
def Bid:=ct (fd Tryz.func152 ⟨[.v 29,.v 3],[.v 36],true⟩ (gC (A1m K) gN)) (Ang K)
def Asl (K:Nat)(r8:An)(v27:List Int)(v28:List Int)(v29:List Int)(v30:List As)(v31:List Az)(v32:List Int)(v34:Int)(v36:List Int)(v37:Int)(v38:Int)(v47:Bool):Option (Co×D1×(List Int)×(List Int)×(List Int)×(List As)×(List Az)×(List Int)):=(bif v47 then((Ap K (D1.mk v36 v37 v38) 256).bind fun r48=>some ((Co.mk 5 r8 (Br.mk (An.mk 0 0) 0 0) r48.1 0 []),r48.2,v27,v28,v29,v30,v31,v32))else(bif (v34==13)then some ((Co.mk 6 r8 (Br.mk (An.mk 0 0) 0 0) 0 0 []),(D1.mk v36 v37 v38),v27,v28,v29,v30,v31,v32)else(bif (v34==14)then some ((Co.mk 7 r8 (Br.mk (An.mk 0 0) 0 0) 0 0 []),(D1.mk v36 v37 v38),v27,v28,v29,v30,v31,v32)else((Ahh K (D1.mk v36 v37 v38) 6).bind fun r49=>(bif r49.1 then some ((Co.mk 9 (An.mk 0 0) (Br.mk (An.mk 0 0) 0 0) 0 0 []),r49.2,v27,v28,v29,v30,v31,v32)else some ((Co.mk 8 r8 (Br.mk (An.mk 0 0) 0 0) 0 0 []),r49.2,v27,v28,v29,v30,v31,v32))))))
def Asm (K:Nat)(r8:An)(v13:Br)(v27:List Int)(v28:List Int)(v29:List Int)(v30:List As)(v31:List Az)(v32:List Int)(v34:Int)(v36:List Int)(v37:Int)(v38:Int)(v43:Bool):Option (Co×D1×(List Int)×(List Int)×(List Int)×(List As)×(List Az)×(List Int)):=(bif v43 then((Ap K (D1.mk v36 v37 v38) 2).bind fun r44=>((Axj K r44.2 (An6 .i64 1 r44.1)).bind fun r45=>some ((Co.mk 4 (An.mk 0 0) v13 0 0 r45.1),r45.2,v27,v28,v29,v30,v31,v32)))else(bif (v34==10)then((Ap K (D1.mk v36 v37 v38) 3).bind fun r46=>some ((Co.mk 3 (An.mk 0 0) v13 0 r46.1 []),r46.2,v27,v28,v29,v30,v31,v32))else(bif (v34==11)then(Asl K r8 v27 v28 v29 v30 v31 v32 v34 v36 v37 v38 (v34==11))else(Asl K r8 v27 v28 v29 v30 v31 v32 v34 v36 v37 v38 (v34==12)))))
def Aq4 (K:Nat)(r8:An)(v13:Br)(v16:Int)(v27:List Int)(v28:List Int)(v29:List Int)(v30:List As)(v31:List Az)(v32:List Int)(v34:Int)(v36:List Int)(v37:Int)(v38:Int)(v39:Bool):Option (Co×D1×(List Int)×(List Int)×(List Int)×(List As)×(List Az)×(List Int)):=(bif v39 then((P2 K (D1.mk v36 v37 v38) ([1,2,3,4,5,8]:List Int)).bind fun r40=>(if r40.2.2.length=([1,2,3,4,5,8]:List Int).length then((P2 K r40.2.1 ([1,1,2,4]:List Int)).bind fun r41=>(if r41.2.2.length=([1,1,2,4]:List Int).length then some ((Co.mk 2 r8 (Br.mk (An.mk 0 0) 0 0) r40.1 r41.1 []),r41.2.1,v27,v28,v29,v30,v31,v32)else none))else none))else(bif (v34==7)then((Ap K (D1.mk v36 v37 v38) v16).bind fun r42=>some ((Co.mk 2 r8 (Br.mk (An.mk 0 0) 0 0) (An6 .i64 (An6 .i64 v16 1) r42.1) 1 []),r42.2,v27,v28,v29,v30,v31,v32))else(bif (v34==8)then(Asm K r8 v13 v27 v28 v29 v30 v31 v32 v34 v36 v37 v38 (v34==8))else(Asm K r8 v13 v27 v28 v29 v30 v31 v32 v34 v36 v37 v38 (v34==9)))))
def Aq5 (K:Nat)(r8:An)(v13:Br)(v16:Int)(v27:List Int)(v28:List Int)(v29:List Int)(v30:List As)(v31:List Az)(v32:List Int)(v34:Int)(v35:Bool)(v36:List Int)(v37:Int)(v38:Int):Option (Co×D1×(List Int)×(List Int)×(List Int)×(List As)×(List Az)×(List Int)):=(bif v35 then some ((Co.mk 1 r8 (Br.mk (An.mk 0 0) 0 0) 0 0 []),(D1.mk v36 v37 v38),v27,v28,v29,v30,v31,v32)else(bif (v34==3)then some ((Co.mk 1 (An.mk 0 0) (Br.mk (An.mk 0 0) 0 0) 0 0 []),(D1.mk v36 v37 v38),v27,v28,v29,v30,v31,v32)else(bif (v34==4)then(Aq4 K r8 v13 v16 v27 v28 v29 v30 v31 v32 v34 v36 v37 v38 (v34==4))else(bif (v34==5)then(Aq4 K r8 v13 v16 v27 v28 v29 v30 v31 v32 v34 v36 v37 v38 (v34==5))else(Aq4 K r8 v13 v16 v27 v28 v29 v30 v31 v32 v34 v36 v37 v38 (v34==6))))))
def Asn (K:Nat)(r8:An)(v10:List Int)(v11:Int)(v12:Int)(v13:Br)(v14:Co)(v15:Int)(v16:Int)(v17:Int)(v18:Int)(v19:Int)(v20:Int)(v21:Nat)(v22:Nat)(v23:Nat)(v24:Nat)(v25:Nat)(v26:Nat)(v27:List Int)(v28:List Int)(v29:List Int)(v30:List As)(v31:List Az)(v32:List Int):Option (Co×D1×(List Int)×(List Int)×(List Int)×(List As)×(List Az)×(List Int)):=((Ap K (D1.mk v10 v11 v12) 16).bind fun r33=>(bif (r33.1==0)then(Aq5 K r8 v13 v16 v27 v28 v29 v30 v31 v32 r33.1 (r33.1==0) r33.2.fb r33.2.fi r33.2.fh)else(bif (r33.1==1)then(Aq5 K r8 v13 v16 v27 v28 v29 v30 v31 v32 r33.1 (r33.1==1) r33.2.fb r33.2.fi r33.2.fh)else(Aq5 K r8 v13 v16 v27 v28 v29 v30 v31 v32 r33.1 (r33.1==2) r33.2.fb r33.2.fi r33.2.fh))))
def Au1 (K:Nat)(a0:D1)(a1:C5):Option (Co×D1×(List Int)×(List Int)×(List Int)×(List As)×(List Az)×(List Int)):=((Auz K a1).bind fun r1=>(bif ((r1.length:Int)==0)then((Ahh K a0 2).bind fun r2=>(bif r2.1 then some ((Co.mk 1 (An.mk 0 0) (Br.mk (An.mk 0 0) 0 0) 0 0 []),r2.2,a1.fP.N7,a1.fP.Vi,a1.fP.N8,a1.fL,a1.fQ,a1.Acy)else((Au0 K r2.2).bind fun r3=>some (r3.1,r3.2,a1.fP.N7,a1.fP.Vi,a1.fP.N8,a1.fL,a1.fQ,a1.Acy))))else((Ahh K a0 10).bind fun r4=>(bif r4.1 then((Ahh K r4.2 2).bind fun r5=>(bif r5.1 then some ((Co.mk 1 (An.mk 0 0) (Br.mk (An.mk 0 0) 0 0) 0 0 []),r5.2,a1.fP.N7,a1.fP.Vi,a1.fP.N8,a1.fL,a1.fQ,a1.Acy)else((Au0 K r5.2).bind fun r6=>some (r6.1,r6.2,a1.fP.N7,a1.fP.Vi,a1.fP.N8,a1.fL,a1.fQ,a1.Acy))))else((Ap K r4.2 (r1.length:Int)).bind fun r7=>(if(0:Int)≤r7.1∧r7.1<(r1.length:Int)then((Ang K a1.fL (gt r1 r7.1)).bind fun r8=>(if(0:Int)≤(gt r1 r7.1)∧(gt r1 r7.1)<(a1.fL.length:Int)then(if(0:Int)≤(gt r1 r7.1)∧(gt r1 r7.1)<(a1.fL.length:Int)then(if(0:Int)≤(gt r1 r7.1)∧(gt r1 r7.1)<(a1.fL.length:Int)then(bif (decide ((((gt a1.fL (gt r1 r7.1)).F6).length:Int)>0))then(if(0:Int)≤(gt r1 r7.1)∧(gt r1 r7.1)<(a1.fL.length:Int)then((Ap K r7.2 (((gt a1.fL (gt r1 r7.1)).F6).length:Int)).bind fun r9=>(Asn K r8 r9.2.fb r9.2.fi r9.2.fh (Br.mk r8 ((gt a1.fL (gt r1 r7.1)).Sl) r9.1) (Co.mk 0 (An.mk 0 0) (Br.mk (An.mk 0 0) 0 0) 0 0 []) a1.fC.Ay a1.fC.G8 a1.fC.E6 a1.fC.Gu a1.fC.E7 a1.fC.G9 a1.fP.N7.length a1.fP.Vi.length a1.fP.N8.length a1.fL.length a1.fQ.length a1.Acy.length a1.fP.N7 a1.fP.Vi a1.fP.N8 a1.fL a1.fQ a1.Acy))else none)else(Asn K r8 r7.2.fb r7.2.fi r7.2.fh (Br.mk r8 ((gt a1.fL (gt r1 r7.1)).Sl) 0) (Co.mk 0 (An.mk 0 0) (Br.mk (An.mk 0 0) 0 0) 0 0 []) a1.fC.Ay a1.fC.G8 a1.fC.E6 a1.fC.Gu a1.fC.E7 a1.fC.G9 a1.fP.N7.length a1.fP.Vi.length a1.fP.N8.length a1.fL.length a1.fQ.length a1.Acy.length a1.fP.N7 a1.fP.Vi a1.fP.N8 a1.fL a1.fQ a1.Acy))else none)else none)else none))else none))))))
def Bf2:=fd Tryz.func70 ⟨[.b 148 false,.w 32 false [(5,true),(3,true),(3,true),(50,true),(52,false),(3,true)]],[.n 40 true],false⟩ (gC (Bic K) (gC (A2x K) (gC (A9i K) (gC (Bpw K) (gC (A8v K) (gC (Bvs K) (gC (Bid K) gN))))))) [13,14] [127,2042,32687,523007,8368127] [(9,[.opn 5 (.tmp 6),.takeE 5 11 40331])]
def Byw:Ej:=⟨[(0,.p 1),(4,.p 104),(7,.p 107),(61,.v 2),(113,.v 4)],[(1,.box [.v 22,.v 2,.v 2]),(2,.rws 5 true),(3,.rws 3 true),(4,.rws 3 true),(5,.rws 50 true),(6,.rws 52 false),(7,.rws 3 true),(107,.st 36 true),(104,.st 40 true)]⟩
def Byx:Ej:=⟨[(0,.p 1),(4,.p 104),(7,.p 107),(8,.p 108),(61,.v 2),(97,.v 4)],[(1,.box [.v 22,.v 2,.v 2]),(2,.rws 5 true),(3,.rws 3 true),(4,.rws 3 true),(5,.rws 50 true),(6,.rws 52 false),(7,.rws 3 true),(108,.st 38 true),(107,.st 36 true),(104,.st 40 true)]⟩
def Byy:Ej:=⟨[(0,.p 1),(3,.p 103),(4,.p 104),(7,.p 107),(8,.p 108),(61,.v 2),(71,.v 4)],[(1,.box [.v 22,.v 2,.v 2]),(108,.st 38 true),(107,.st 36 true),(104,.st 40 true),(103,.ob [.v 2,.v 2,.v 2,.v 2,.v 2,.v 2,.O 2,.O 3,.O 4,.O 5,.O 6,.O 7]),(2,.rws 5 true),(3,.rws 3 true),(4,.rws 3 true),(5,.rws 50 true),(6,.rws 52 false),(7,.rws 3 true)]⟩
def Byz:Ej:=⟨[(0,.p 1),(3,.p 103),(4,.p 104),(7,.p 107),(8,.p 108),(61,.v 2),(62,.v 4)],[(1,.box [.v 22,.v 2,.v 2]),(108,.st 38 true),(107,.st 36 true),(104,.st 40 true),(103,.ob [.v 2,.v 2,.v 2,.v 2,.v 2,.v 2,.O 2,.O 3,.O 4,.O 5,.O 6,.O 7]),(2,.rws 5 true),(3,.rws 3 true),(4,.rws 3 true),(5,.rws 50 true),(6,.rws 52 false),(7,.rws 3 true)]⟩
def By0:Ej:=⟨[(0,.p 1),(3,.p 103),(4,.p 104),(7,.p 107),(8,.p 108)],[(1,.box [.v 22,.v 2,.v 2]),(108,.st 38 true),(107,.st 36 true),(104,.st 40 true),(103,.ob [.v 2,.v 2,.v 2,.v 2,.v 2,.v 2,.O 2,.O 3,.O 4,.O 5,.O 6,.O 7]),(2,.rws 5 true),(3,.rws 3 true),(4,.rws 3 true),(5,.rws 50 true),(6,.rws 52 false),(7,.rws 3 true)]⟩
def A9j:=jn (Bf2 K) 8368127 Byw [] (fun a b c d e f g h i j k l _=>Asl K l f g h i j k a c d e b) kN
def Ba9:=jn (Bf2 K) 523007 Byx [] (fun a b c d e f g h i j k l m _=>Asm K m l f g h i j k a c d e b) (kC (A9j K) kN)
def Bc5:=jn (Bf2 K) 32687 Byy [] (fun a b c d e f g _ _ j _ _ _ _ _ _ _ _ _ _ v w x y z a1=>Aq4 K g f j v w x y z a1 a c d e b) (kC (Ba9 K) kN)
def Bf3:=jn (Bf2 K) 2042 Byz [] (fun a b c d e f g _ _ j _ _ _ _ _ _ _ _ _ _ v w x y z a1=>Aq5 K g f j v w x y z a1 a b c d e) (kC (Bc5 K) kN)
def Bie:=jn (Bf2 K) 127 By0 [] (fun a b c d e=>Asn K e a b c d) (kC (Bf3 K) kN)
def Bpx:=ct (Bf2 K) (Au1 K) (kC (Bie K) kN)
def Atw (K:Nat)(a0:An):Option (Bool):=(bif (decide (a0.Bm≥0))then some (decide (a0.C9≥1))else some false)
def Bpy:=ct (fd Tryz.func211 ⟨[.v 36],[.v 4],true⟩ gN [5,6]) (Atw K)
def Aso (K:Nat)(a0:List As)(a1:An):Option (Int):=((Gx K a1.Bm 0 (An7 .i64 (a0.length:Int) 1)).bind fun r1=>(bif r1 then(if(0:Int)≤a1.Bm∧a1.Bm<(a0.length:Int)then(bif (((gt a0 a1.Bm).Vi) != 1)then some (-1)else(if(0:Int)≤a1.Bm∧a1.Bm<(a0.length:Int)then(bif (((gt a0 a1.Bm).C9) != a1.C9)then some (-1)else some a1.Bm)else none))else none)else some (-1)))
def Bpz:=ct (fd Tryz.func212 ⟨[.v 29,.v 36],[.v 3],true⟩ (gC (A1m K) gN) [10,11,12,19,20,21]) (Aso K)
def Aiq (K:Nat)(a0:C5)(a1:An):Option (Int×Int):=((Atw K a1).bind fun r1=>(bif (!r1)then some ((-1),1)else((Aso K a0.fL a1).bind fun r2=>(bif (decide (r2<0))then some ((-1),2)else((Avo K a0.fL r2).bind fun r3=>(bif (!r3)then some ((-1),2)else some (r2,0)))))))
def A7b:=ct (fd Tryz.func121 ⟨[.v 32,.v 36],[.v 3,.v 3],true⟩ (gC (Bia K) (gC (Bpy K) (gC (Bpz K) gN))) [15,16]) (Aiq K)
def Azv (K:Nat)(a0:C5)(a1:An):Option (Int×Int):=(bif ((a1.Bm==0)&&((a1.C9==0)&&true))then some ((-1),0)else((Aiq K a0 a1).bind fun r1=>some (r1.1,r1.2)))
def Bvt:=ct (fd Tryz.func288 ⟨[.v 32,.v 36],[.v 3,.v 3],true⟩ (gC (A7b K) gN)) (Azv K)
def Av4 (K:Nat)(a0:List As)(a1:Int):Option (Int):=((Auy K a0 a1).bind fun r1=>some (r1.length:Int))
def Bp0:=ct (fd Tryz.func221 ⟨[.v 29,.v 3],[.v 3],true⟩ (gC (Bey K) gN)) (Av4 K)
def Aog (K:Nat)(a0:C5)(a1:An):Option (Int):=((Aso K a0.fL a1).bind fun r1=>((Av4 K a0.fL r1).bind fun r2=>some r2))
def A7c:=ct (fd Tryz.func133 ⟨[.v 32,.v 36],[.v 3],true⟩ (gC (Bpz K) (gC (Bp0 K) gN))) (Aog K)
def Am8 (K:Nat)(v2:Int)(v3:Int)(v4:Int)(v5:Int)(v6:Int)(v7:Int)(v8:Int)(v9:List Int)(v10:List Int)(v11:List Int)(v12:List As)(v13:List Az)(v14:List Int)(C1:Int->Int->Int->Int->Int->Int->Int->Int->(List Int)->(List Int)->(List Int)->(List As)->(List Az)->(List Int)->Option (Int))(v15:Int):Option (Int):=(C1 v15 (An6 .i64 v2 1) v3 v4 v5 v6 v7 v8 v9 v10 v11 v12 v13 v14)
def Ahn (K:Nat):Nat->Int->Int->Int->Int->Int->Int->Int->Int->(List Int)->(List Int)->(List Int)->(List As)->(List Az)->(List Int)->Option (Int)
 |0,_,_,_,_,_,_,_,_,_,_,_,_,_,_=>none
 |n1+1,v1,v2,v3,v4,v5,v6,v7,v8,v9,v10,v11,v12,v13,v14=>(bif (decide (v2<(v12.length:Int)))then(if(0:Int)≤v2∧v2<(v12.length:Int)then(bif (((gt v12 v2).Vi)==0)then(Am8 K v2 v3 v4 v5 v6 v7 v8 v9 v10 v11 v12 v13 v14 (Ahn K n1) (An6 .i64 v1 1))else((Avo K v12 v2).bind fun r16=>(bif r16 then(Am8 K v2 v3 v4 v5 v6 v7 v8 v9 v10 v11 v12 v13 v14 (Ahn K n1) v1)else(if(0:Int)≤v2∧v2<(v12.length:Int)then(bif (((gt v12 v2).Vi) != 3)then(if(0:Int)≤v2∧v2<(v12.length:Int)then(bif (decide (((gt v12 v2).C9)<v8))then(Am8 K v2 v3 v4 v5 v6 v7 v8 v9 v10 v11 v12 v13 v14 (Ahn K n1) (An6 .i64 v1 1))else(Am8 K v2 v3 v4 v5 v6 v7 v8 v9 v10 v11 v12 v13 v14 (Ahn K n1) v1))else none)else(Am8 K v2 v3 v4 v5 v6 v7 v8 v9 v10 v11 v12 v13 v14 (Ahn K n1) v1))else none))))else none)else some v1)
def Azn (K:Nat)(a0:C5):Option (Int):=(Ahn K K 0 0 a0.fC.Ay a0.fC.G8 a0.fC.E6 a0.fC.Gu a0.fC.E7 a0.fC.G9 a0.fP.N7 a0.fP.Vi a0.fP.N8 a0.fL a0.fQ a0.Acy)
def Brm:=fd Tryz.func289 ⟨[.v 32],[.v 3],true⟩ (gC (Bia K) gN) [18,19,23,24,25,32,33,34] [233]
def Bni:Ej:=⟨[(1,.p 101),(3,.v 2),(4,.v 2)],[(101,.box [.v 2,.v 2,.v 2,.v 2,.v 2,.v 2,.v 22,.v 26,.v 26,.v 29,.v 30,.v 26])]⟩
def Bif:=fun(C58:CT Bni _)=>jn (Brm K) 233 Bni [(58,ar Bni C58)] (fun a b c d e f g h i j k l m o=>Am8 K b c d e f g h i j k l m o C58 a) kN
def Bnj:=lp (Brm K) 58 Bni [] (Ahn K) (fun n=>(kC (Bif K _) kN))
def Bvu:=ct (Brm K) (Azn K) (kC (Bnj K K) kN)
def Asp (K:Nat)(v2:Int)(v3:List Int)(v4:List Int)(v5:List Int)(C1:(List Int)->Int->(List Int)->(List Int)->(List Int)->Option ((List Int)))(v6:List Int):Option ((List Int)):=(C1 v6 (An6 .i64 v2 1) v3 v4 v5)
def Aly (K:Nat)(a1:Int):Nat->(List Int)->Int->(List Int)->(List Int)->(List Int)->Option ((List Int))
 |0,_,_,_,_,_=>none
 |n1+1,v1,v2,v3,v4,v5=>(bif (decide (v2<(v4.length:Int)))then(bif (decide (v2<(v5.length:Int)))then(if(0:Int)≤v2∧v2<(v4.length:Int)then(bif ((gt v4 v2)==1)then(if(0:Int)≤v2∧v2<(v5.length:Int)then(bif ((gt v5 v2)==a1)then(if(v1++([v2]:List Int)).length*8≤140737488355328∧(v1++([v2]:List Int)).length≤maxLen then(Asp K v2 v3 v4 v5 (Aly K a1 n1) (v1++([v2]:List Int)))else none)else(Asp K v2 v3 v4 v5 (Aly K a1 n1) v1))else none)else(Asp K v2 v3 v4 v5 (Aly K a1 n1) v1))else none)else some v1)else some v1)
def Au2 (K:Nat)(a0:Dn)(a1:Int):Option ((List Int)):=(Aly K a1 K ([]:List Int) 0 a0.N7 a0.Vi a0.N8)
def Brn:=fd Tryz.func115 ⟨[.v 28,.v 3],[.n 26 true],true⟩ gN [12,13,27,28] [233]
def Bnk:Ej:=⟨[(1,.v 2),(2,.p 102),(5,.o 1005 3 true),(6,.v 2)],[(102,.box [.v 22,.v 26,.v 26])]⟩
def Big:=fun(C58:CT Bnk _)=>jn Brn 233 Bnk [(58,ar Bnk C58)] (fun a b c d e f=>Asp K c d e f (C58 a) b) kN
def Bnl:=lp Brn 58 Bnk [] (fun n a=>Aly K a n) (fun n=>(kC (Big K _) kN))
def Bp1:=ct Brn (Au2 K) (kC (Bnl K K) kN)
def Ap6 (K:Nat)(r1:(List Int)):Nat->Int->Int->Int->Int->Int->Int->Int->Int->(List Int)->(List Int)->(List Int)->(List As)->(List Az)->(List Int)->Option (Int)
 |0,_,_,_,_,_,_,_,_,_,_,_,_,_,_=>none
 |n1+1,v2,v3,v4,v5,v6,v7,v8,v9,v10,v11,v12,v13,v14,v15=>(bif (decide (v3<(r1.length:Int)))then(if(0:Int)≤v3∧v3<(r1.length:Int)then((Au2 K (Dn.mk v10 v11 v12) (gt r1 v3)).bind fun r16=>(Ap6 K r1 n1 (An6 .i64 v2 (r16.length:Int)) (An6 .i64 v3 1) v4 v5 v6 v7 v8 v9 v10 v11 v12 v13 v14 v15))else none)else some v2)
def Azo (K:Nat)(a0:C5):Option (Int):=((Auz K a0).bind fun r1=>(Ap6 K r1 K 0 0 a0.fC.Ay a0.fC.G8 a0.fC.E6 a0.fC.Gu a0.fC.E7 a0.fC.G9 a0.fP.N7 a0.fP.Vi a0.fP.N8 a0.fL a0.fQ a0.Acy))
def Bvv:=fd Tryz.func33 ⟨[.v 32],[.v 3],true⟩ (gC (Bic K) (gC (Bp1 K) gN))
def By1:Ej:=⟨[(1,.p 101),(3,.v 2),(4,.v 26),(5,.v 2)],[(101,.box [.v 2,.v 2,.v 2,.v 2,.v 2,.v 2,.v 22,.v 26,.v 26,.v 29,.v 30,.v 26])]⟩
def Bih:=lp (Bvv K) 122 By1 [] (fun n a b=>Ap6 K b n a) (fun n=>kN)
def Bvw:=ct (Bvv K) (Azo K) (kC (Bih K K) kN)
def Aro (K:Nat)(a0:C5)(a1:Int):Option (Bool):=(bif (decide (a1≥0))then(bif (decide (a1≤a0.fC.Ay))then((Azo K a0).bind fun r1=>some (decide (r1≤(An7 .i64 a0.fC.Ay a1))))else some false)else some false)
def Bii:=ct (fd Tryz.func29 ⟨[.v 32,.v 3],[.v 4],true⟩ (gC (Bvw K) gN) [6,7,12,13,14]) (Aro K)
def Ase (K:Nat)(v2:Int)(C1:Int->Int->Option (Int))(v3:Int):Option (Int):=(C1 v3 (An6 .i64 v2 1))
def Ajb (K:Nat)(a0:List As)(a1:Int):Nat->Int->Int->Option (Int)
 |0,_,_=>none
 |n1+1,v1,v2=>(bif (decide (v2<(a0.length:Int)))then(if(0:Int)≤v2∧v2<(a0.length:Int)then(bif (((gt a0 v2).Vi)==a1)then(Ase K v2 (Ajb K a0 a1 n1) (An6 .i64 v1 1))else(Ase K v2 (Ajb K a0 a1 n1) v1))else none)else some v1)
def Ap7 (K:Nat)(a0:List As)(a1:Int):Option (Int):=(Ajb K a0 a1 K 0 0)
def Bro:=fd Tryz.func202 ⟨[.v 29,.v 3],[.v 3],true⟩ gN [] [233]
def Bnm:Ej:=⟨[(0,.v 29),(1,.v 2),(5,.v 2),(6,.v 2)],[]⟩
def Bij:=fun(C58:CT Bnm _)=>jn Bro 233 Bnm [(58,ar Bnm C58)] (fun a b c d=>Ase K d (C58 a b) c) kN
def Bnn:=lp Bro 58 Bnm [] (fun n a b=>Ajb K a b n) (fun n=>(kC (Bij K _) kN))
def Bp2:=ct Bro (Ap7 K) (kC (Bnn K K) kN)
def Arp (K:Nat)(a1:Int)(a2:Int):Nat->Int->(List Int)->(List Int)->(List Int)->Option (Bool)
 |0,_,_,_,_=>none
 |n1+1,v1,v2,v3,v4=>(bif (decide (v1<(An6 .i64 a1 a2)))then(if(0:Int)≤v1∧v1<(v3.length:Int)then(bif ((gt v3 v1) != 0)then some false else(Arp K a1 a2 n1 (An6 .i64 v1 1) v2 v3 v4))else none)else some true)
def Av5 (K:Nat)(a0:Dn)(a1:Int)(a2:Int):Option (Bool):=(bif (decide (a1<0))then some false else(bif (decide (a2<1))then some false else(bif (decide (a1>(a0.Vi.length:Int)))then some false else(bif (decide (a2>(An7 .i64 (a0.Vi.length:Int) a1)))then some false else(Arp K a1 a2 K a1 a0.N7 a0.Vi a0.N8)))))
def Bvx:=fd Tryz.func311 ⟨[.v 28,.v 3,.v 3],[.v 4],true⟩ gN [9,10,12,13,14,19,20,21]
def By2:Ej:=⟨[(1,.v 2),(2,.v 2),(3,.p 103),(7,.v 2)],[(103,.box [.v 22,.v 26,.v 26])]⟩
def Bno:=lp Bvx 58 By2 [] (fun n a b=>Arp K a b n) (fun n=>kN)
def Bp3:=ct Bvx (Av5 K) (kC (Bno K K) kN)
def Arx (K:Nat)(a1:Int):Nat->Int->(List Int)->(List Int)->(List Int)->Option (Int)
 |0,_,_,_,_=>none
 |n1+1,v1,v2,v3,v4=>(bif (decide (v1<(v3.length:Int)))then((Av5 K (Dn.mk v2 v3 v4) v1 a1).bind fun r5=>(bif r5 then some v1 else(Arx K a1 n1 (An6 .i64 v1 1) v2 v3 v4)))else some (-1))
def Awk (K:Nat)(a0:Dn)(a1:Int):Option (Int):=(Arx K a1 K 0 a0.N7 a0.Vi a0.N8)
def Bvy:=fd Tryz.func310 ⟨[.v 28,.v 3],[.v 3],true⟩ (gC (Bp3 K) gN)
def By3:Ej:=⟨[(1,.v 2),(2,.p 102),(5,.v 2)],[(102,.box [.v 22,.v 26,.v 26])]⟩
def Bnp:=lp (Bvy K) 26 By3 [] (fun n a=>Arx K a n) (fun n=>kN)
def Bp4:=ct (Bvy K) (Awk K) (kC (Bnp K K) kN)
def A1n (K:Nat)(a0:Az):Option (Int):=(bif (decide ((a0.Fi.length:Int)>0))then some 1 else(bif (decide ((a0.Ay.length:Int)>0))then some 2 else(bif (a0.Ef != 0)then some 3 else some 4)))
def Bvz:=ct (fd Tryz.func249 ⟨[.v 52],[.v 3],true⟩ gN) (A1n K)
def Ayy (K:Nat)(a0:C5):Option (C5):=(if(0:Int)≤0∧0<(a0.fQ.length:Int)then(if(0:Int)≤(An7 .i64 (((gt a0.fQ 0).Fi).length:Int) 1)∧(An7 .i64 (((gt a0.fQ 0).Fi).length:Int) 1)<(((gt a0.fQ 0).Fi).length:Int)then(if(a0.Acy++([(gt ((gt a0.fQ 0).Fi) (An7 .i64 (((gt a0.fQ 0).Fi).length:Int) 1))]:List Int)).length*8≤140737488355328∧(a0.Acy++([(gt ((gt a0.fQ 0).Fi) (An7 .i64 (((gt a0.fQ 0).Fi).length:Int) 1))]:List Int)).length≤maxLen then(if(0:Int)≤0∧0≤(An7 .i64 (((gt a0.fQ 0).Fi).length:Int) 1)∧(An7 .i64 (((gt a0.fQ 0).Fi).length:Int) 1)≤(((gt a0.fQ 0).Fi).length:Int)then(if(([]:List Int)++((((gt a0.fQ 0).Fi).drop (0:Int).toNat).take ((An7 .i64 (((gt a0.fQ 0).Fi).length:Int) 1) - 0).toNat)).length*8≤140737488355328∧(([]:List Int)++((((gt a0.fQ 0).Fi).drop (0:Int).toNat).take ((An7 .i64 (((gt a0.fQ 0).Fi).length:Int) 1) - 0).toNat)).length≤maxLen then some (C5.mk a0.fC a0.fP a0.fL (a0.fQ.set (0:Int).toNat (Az.mk ((gt a0.fQ 0).Bm) ((gt a0.fQ 0).Ef) (([]:List Int)++((((gt a0.fQ 0).Fi).drop (0:Int).toNat).take ((An7 .i64 (((gt a0.fQ 0).Fi).length:Int) 1) - 0).toNat)) ((gt a0.fQ 0).Ay) ((gt a0.fQ 0).Wz))) (a0.Acy++([(gt ((gt a0.fQ 0).Fi) (An7 .i64 (((gt a0.fQ 0).Fi).length:Int) 1))]:List Int)))else none)else none)else none)else none)else none)
def Bv0:=ct (fd Tryz.func250 ⟨[.b 32 false],[],false⟩ gN [] [] [(0,[.take 1 10 5026]),(2,[.take 1 11 5027])]) (Ayy K)
def Aqx (K:Nat)(a0:Dn):Option (Dn):=(if(([]:List Int)++a0.N7).length*1≤140737488355328∧(([]:List Int)++a0.N7).length≤maxLen then(if(([]:List Int)++a0.Vi).length*8≤140737488355328∧(([]:List Int)++a0.Vi).length≤maxLen then(if(([]:List Int)++a0.N8).length*8≤140737488355328∧(([]:List Int)++a0.N8).length≤maxLen then some (Dn.mk (([]:List Int)++a0.N7) (([]:List Int)++a0.Vi) (([]:List Int)++a0.N8))else none)else none)else none)
def Be0:=ct (fd Tryz.func157 ⟨[.v 28],[.n 28 true],true⟩ gN) (Aqx K)
def Arq (K:Nat)(a0:List Int):Nat->Int->Option (Bool)
 |0,_=>none
 |n1+1,v1=>(bif (decide (v1<(a0.length:Int)))then(if(0:Int)≤v1∧v1<(a0.length:Int)then(bif ((gt a0 v1) != 0)then some false else(Arq K a0 n1 (An6 .i64 v1 1)))else none)else some true)
def Asa (K:Nat)(a0:List Int):Option (Bool):=(Arq K a0 K 0)
def Bv1:=fd Tryz.func192 ⟨[.v 22],[.v 4],true⟩ gN
def By4:Ej:=⟨[(0,.v 22),(3,.v 2)],[]⟩
def Bnq:=lp Bv1 26 By4 [] (fun n a=>Arq K a n) (fun n=>kN)
def Be1:=ct Bv1 (Asa K) (kC (Bnq K K) kN)
def Awl (K:Nat)(v3:Int)(v4:List Int)(v5:List Int)(v6:List Int)(C1:Int->(List Int)->(List Int)->(List Int)->Option (Bool)):Option (Bool):=(C1 (An6 .i64 v3 1) v4 v5 v6)
def Arr (K:Nat)(a0:Ea)(v3:Int)(v4:List Int)(v5:List Int)(v6:List Int)(C1:Int->(List Int)->(List Int)->(List Int)->Option (Bool)):Option (Bool):=(if(0:Int)≤v3∧v3<(v5.length:Int)then(bif ((gt v5 v3)==0)then(if(0:Int)≤(An8 .i64 v3 a0.G8)∧(An8 .i64 v3 a0.G8)≤(An8 .i64 (An6 .i64 v3 1) a0.G8)∧(An8 .i64 (An6 .i64 v3 1) a0.G8)≤(v4.length:Int)then((Asa K ((v4.drop (An8 .i64 v3 a0.G8).toNat).take ((An8 .i64 (An6 .i64 v3 1) a0.G8) - (An8 .i64 v3 a0.G8)).toNat)).bind fun r9=>(bif (!r9)then some false else(Awl K v3 v4 v5 v6 (C1))))else none)else(Awl K v3 v4 v5 v6 (C1)))else none)
def Alc (K:Nat)(a0:Ea):Nat->Int->(List Int)->(List Int)->(List Int)->Option (Bool)
 |0,_,_,_,_=>none
 |n1+1,v3,v4,v5,v6=>(bif (decide (v3<a0.Ay))then(if(0:Int)≤v3∧v3<(v5.length:Int)then((Gx K (gt v5 v3) 0 2).bind fun r7=>(bif (!r7)then some false else(if(0:Int)≤v3∧v3<(v5.length:Int)then(bif ((gt v5 v3)==1)then(if(0:Int)≤v3∧v3<(v6.length:Int)then((Gx K (gt v6 v3) 0 (An7 .i64 a0.E6 1)).bind fun r8=>(bif r8 then(if(0:Int)≤v3∧v3<(v5.length:Int)then(bif ((gt v5 v3) != 1)then(if(0:Int)≤v3∧v3<(v6.length:Int)then(bif ((gt v6 v3) != (-1))then some false else(Arr K a0 v3 v4 v5 v6 (Alc K a0 n1)))else none)else(Arr K a0 v3 v4 v5 v6 (Alc K a0 n1)))else none)else some false))else none)else(if(0:Int)≤v3∧v3<(v5.length:Int)then(bif ((gt v5 v3) != 1)then(if(0:Int)≤v3∧v3<(v6.length:Int)then(bif ((gt v6 v3) != (-1))then some false else(Arr K a0 v3 v4 v5 v6 (Alc K a0 n1)))else none)else(Arr K a0 v3 v4 v5 v6 (Alc K a0 n1)))else none))else none)))else none)else some true)
def Av6 (K:Nat)(a0:Ea)(a1:Dn):Option (Bool):=((Anb K a0).bind fun r1=>(bif r1 then((Aq8 K a0).bind fun r2=>(bif ((a1.N7.length:Int) != r2)then some false else(bif ((a1.Vi.length:Int) != a0.Ay)then some false else(bif ((a1.N8.length:Int) != a0.Ay)then some false else(Alc K a0 K 0 a1.N7 a1.Vi a1.N8)))))else some false))
def Bnr:=fd Tryz.func98 ⟨[.v 25,.v 28],[.v 4],true⟩ (gC (Ba7 K) (gC (A1m K) (gC (Bnc K) (gC (Be1 K) gN)))) [7,8,9,15,16,17,23,24,25,51,52,61,62,63,64,70,71,85,86] [233,1865]
def Bc6:Ej:=⟨[(2,.p 102),(3,.p 103),(5,.v 2)],[(103,.box [.v 22,.v 26,.v 26]),(102,.st 25 true)]⟩
def Bik:=fun(C58:CT Bc6 _)=>jn (Bnr K) 233 Bc6 [(58,ar Bc6 C58)] (fun a b c d e=>Awl K a b c d (fun v3 v4 v5 v6=>C58 v3 v4 v5 v6 e)) kN
def Bf4:=fun(C58:CT Bc6 _)=>jn (Bnr K) 1865 Bc6 [(58,ar Bc6 C58)] (fun a b c d e=>Arr K e a b c d (fun v3 v4 v5 v6=>C58 v3 v4 v5 v6 e)) (kC (Bik K _) kN)
def Bns:=lp (Bnr K) 58 Bc6 [] (fun n a b c d e=>Alc K e n a b c d) (fun n=>(kC (Bf4 K _) kN))
def Bp5:=ct (Bnr K) (Av6 K) (kC (Bns K K) kN)
def Azw (K:Nat)(a0:Int)(a1:Int):Option (Int):=(bif (decide (a1<a0))then some a1 else some a0)
def Bv2:=ct (fd Tryz.func306 ⟨[.v 3,.v 3],[.v 3],true⟩ gN) (Azw K)
def Av7 (K:Nat)(a0:List Int)(a1:Int)(a2:Int):Nat->(List Int)->Int->Option ((List Int))
 |0,_,_=>none
 |n1+1,v1,v2=>(bif (decide (v2<(a0.length:Int)))then(bif (decide ((An7 .i64 v2 a1)<a2))then(if(0:Int)≤v2∧v2<(v1.length:Int)then(Av7 K a0 a1 a2 n1 (v1.set v2.toNat 0) (An6 .i64 v2 1))else none)else some v1)else some v1)
def A06 (K:Nat)(a0:List Int)(a1:Int)(a2:Int):Option ((List Int)):=(if(([]:List Int)++a0).length*1≤140737488355328∧(([]:List Int)++a0).length≤maxLen then(bif (decide (a1<0))then some (([]:List Int)++a0)else(bif (decide (a2<0))then some (([]:List Int)++a0)else(Av7 K a0 a1 a2 K (([]:List Int)++a0) a1)))else none)
def Bv3:=fd Tryz.func307 ⟨[.v 22,.v 3,.v 3],[.n 22 true],true⟩ gN [13,14,23,24]
def By5:Ej:=⟨[(0,.v 22),(1,.v 2),(2,.v 2),(7,.o 1007 5 true),(8,.v 2)],[]⟩
def Bil:=lp Bv3 122 By5 [] (fun n a b c=>Av7 K a b c n) (fun n=>kN)
def Bv4:=ct Bv3 (A06 K) (kC (Bil K K) kN)
def Awm (K:Nat)(a0:Ea)(a1:Dn)(a2:Int)(a3:Int):Option (Dn×Bool):=((Aqx K a1).bind fun r1=>((Av6 K a0 a1).bind fun r2=>(bif r2 then((Gx K a2 0 (An7 .i64 a0.Ay 1)).bind fun r3=>(bif r3 then(if(0:Int)≤a2∧a2<(a1.Vi.length:Int)then(bif ((gt a1.Vi a2) != 2)then some (r1,false)else((Gx K a3 0 (An7 .i64 a0.G8 1)).bind fun r4=>(bif (!r4)then some (r1,false)else((Azw K (An6 .i64 a3 a0.E7) a0.G8).bind fun r5=>((A06 K a1.N7 (An6 .i64 (An8 .i64 a2 a0.G8) a3) (An7 .i64 r5 a3)).bind fun r6=>(bif (decide (r5<a0.G8))then some ((Dn.mk r6 r1.Vi r1.N8),false)else(if(0:Int)≤(An8 .i64 a2 a0.G8)∧(An8 .i64 a2 a0.G8)≤(An8 .i64 (An6 .i64 a2 1) a0.G8)∧(An8 .i64 (An6 .i64 a2 1) a0.G8)≤(r6.length:Int)then((Asa K ((r6.drop (An8 .i64 a2 a0.G8).toNat).take ((An8 .i64 (An6 .i64 a2 1) a0.G8) - (An8 .i64 a2 a0.G8)).toNat)).bind fun r7=>(bif (!r7)then((Aqx K a1).bind fun r8=>some (r8,false))else(if(0:Int)≤a2∧a2<(r1.Vi.length:Int)then some ((Dn.mk r6 (r1.Vi.set a2.toNat 0) r1.N8),true)else none)))else none)))))))else none)else some (r1,false)))else some (r1,false))))
def Bv5:=ct (fd Tryz.func284 ⟨[.v 25,.v 28,.v 3,.v 3],[.n 28 true,.v 4],true⟩ (gC (Bp5 K) (gC (A1m K) (gC (Be0 K) (gC (Be1 K) (gC (Bv2 K) (gC (Bv4 K) gN)))))) [16,17,18,23,24,25,26,32,33,34]) (Awm K)
def Axk (K:Nat)(a0:C5):Option (C5):=(if(0:Int)≤0∧0<(a0.fQ.length:Int)then(if(0:Int)≤0∧0<(((gt a0.fQ 0).Ay).length:Int)then((Awm K a0.fC a0.fP (gt ((gt a0.fQ 0).Ay) 0) ((gt a0.fQ 0).Wz)).bind fun r1=>(bif r1.2 then(if(0:Int)≤1∧1≤(((gt a0.fQ 0).Ay).length:Int)∧(((gt a0.fQ 0).Ay).length:Int)≤(((gt a0.fQ 0).Ay).length:Int)then(if(([]:List Int)++((((gt a0.fQ 0).Ay).drop (1:Int).toNat).take ((((gt a0.fQ 0).Ay).length:Int) - 1).toNat)).length*8≤140737488355328∧(([]:List Int)++((((gt a0.fQ 0).Ay).drop (1:Int).toNat).take ((((gt a0.fQ 0).Ay).length:Int) - 1).toNat)).length≤maxLen then some (C5.mk a0.fC r1.1 a0.fL (a0.fQ.set (0:Int).toNat (Az.mk ((gt a0.fQ 0).Bm) ((gt a0.fQ 0).Ef) ((gt a0.fQ 0).Fi) (([]:List Int)++((((gt a0.fQ 0).Ay).drop (1:Int).toNat).take ((((gt a0.fQ 0).Ay).length:Int) - 1).toNat)) 0)) a0.Acy)else none)else none)else some (C5.mk a0.fC r1.1 a0.fL (a0.fQ.set (0:Int).toNat (Az.mk ((gt a0.fQ 0).Bm) ((gt a0.fQ 0).Ef) ((gt a0.fQ 0).Fi) ((gt a0.fQ 0).Ay) (An6 .i64 ((gt a0.fQ 0).Wz) a0.fC.E7))) a0.Acy)))else none)else none)
def Bv6:=ct (fd Tryz.func251 ⟨[.b 32 false],[],false⟩ (gC (Bv5 K) gN) [] [] [(0,[.take 1 10 5026]),(1,[.take 1 6 5022,.take 1 7 5023,.take 1 8 5024])]) (Axk K)
def Anc (K:Nat)(a0:As):Option (As):=(if(([]:List Int)++a0.Ay).length*8≤140737488355328∧(([]:List Int)++a0.Ay).length≤maxLen then(if(([]:List Bc)++a0.F6).length*24≤140737488355328∧(([]:List Bc)++a0.F6).length≤maxLen then(if(([]:List Int)++a0.Fi).length*8≤140737488355328∧(([]:List Int)++a0.Fi).length≤maxLen then some (As.mk a0.Vi a0.C9 a0.Sl a0.fUp a0.Sm a0.Ef a0.Sn a0.So (([]:List Int)++a0.Ay) a0.Acx a0.Sq (([]:List Bc)++a0.F6) (([]:List Int)++a0.Fi))else none)else none)else none)
def A8w:=ct (fd Tryz.func233 ⟨[.v 50],[.n 50 false],true⟩ gN) (Anc K)
def Asq (K:Nat)(v3:Dn)(v4:Dn):Option (Dn):=some v3
def Azx (K:Nat)(a0:Dn)(a1:Int):Option (Dn):=((Aqx K a0).bind fun r1=>((Gx K a1 0 (An7 .i64 (a0.Vi.length:Int) 1)).bind fun r2=>(bif r2 then(bif (decide (a1<(a0.N8.length:Int)))then(if(0:Int)≤a1∧a1<(a0.Vi.length:Int)then(bif ((gt a0.Vi a1)==1)then(if(0:Int)≤a1∧a1<(r1.Vi.length:Int)then(if(0:Int)≤a1∧a1<(r1.N8.length:Int)then(Asq K (Dn.mk r1.N7 (r1.Vi.set a1.toNat 2) (r1.N8.set a1.toNat (-1))) (Dn.mk [] [] []))else none)else none)else(Asq K r1 (Dn.mk [] [] [])))else none)else(Asq K r1 (Dn.mk [] [] [])))else(Asq K r1 (Dn.mk [] [] [])))))
def Bv7:=fd Tryz.func234 ⟨[.v 28,.v 3],[.n 28 true],true⟩ (gC (A1m K) (gC (Be0 K) gN)) [13,14,19,20,21] [7] [(5,[.take 105 0 6680,.take 105 1 6681,.take 105 2 6682])]
def Bv8:Ej:=⟨[(4,.p 104),(5,.p 105)],[(105,.st 28 true),(104,.st 28 true)]⟩
def Brp:=jn (Bv7 K) 7 Bv8 [] (Asq K) kN
def Bv9:=ct (Bv7 K) (Azx K) (kC (Brp K) kN)
def Air (K:Nat)(a1:List Int):Nat->Int->Int->Int->Int->Int->Int->Int->(List Int)->(List Int)->(List Int)->(List As)->(List Az)->(List Int)->Option (C5)
 |0,_,_,_,_,_,_,_,_,_,_,_,_,_=>none
 |n1+1,v1,v2,v3,v4,v5,v6,v7,v8,v9,v10,v11,v12,v13=>(bif (decide (v1<(a1.length:Int)))then(if(0:Int)≤v1∧v1<(a1.length:Int)then((Azx K (Dn.mk v8 v9 v10) (gt a1 v1)).bind fun r14=>(Air K a1 n1 (An6 .i64 v1 1) v2 v3 v4 v5 v6 v7 r14.N7 r14.Vi r14.N8 v11 v12 v13))else none)else some (C5.mk (Ea.mk v2 v3 v4 v5 v6 v7) (Dn.mk v8 v9 v10) v11 v12 v13))
def Aqy (K:Nat)(a0:C5)(a1:List Int):Option (C5):=(Air K a1 K 0 a0.fC.Ay a0.fC.G8 a0.fC.E6 a0.fC.Gu a0.fC.E7 a0.fC.G9 a0.fP.N7 a0.fP.Vi a0.fP.N8 a0.fL a0.fQ a0.Acy)
def Bwa:=fd Tryz.func161 ⟨[.b 32 false,.v 26],[],false⟩ (gC (Bv9 K) gN) [] [] [(3,[.take 1 6 5022,.take 1 7 5023,.take 1 8 5024])]
def By6:Ej:=⟨[(0,.p 1),(1,.v 26),(4,.v 2)],[(1,.box [.v 2,.v 2,.v 2,.v 2,.v 2,.v 2,.T 5 true,.T 3 true,.T 3 true,.T 50 true,.T 52 false,.T 3 true])]⟩
def Brq:=lp (Bwa K) 6 By6 [] (fun n a=>Air K a n) (fun n=>kN)
def Bim:=ct (Bwa K) (Aqy K) (kC (Brq K K) kN)
def Aze (K:Nat)(a0:As):Option (As):=some (As.mk 2 a0.C9 0 0 0 0 0 0 [] 0 0 [] [])
def Bp6:=ct (fd Tryz.func163 ⟨[.v 50],[.n 50 false],true⟩ gN) (Aze K)
def Asr (K:Nat)(a0:As)(a1:Int):Option (Az):=(if(([]:List Int)++a0.Fi).length*8≤140737488355328∧(([]:List Int)++a0.Fi).length≤maxLen then(if(([]:List Int)++a0.Ay).length*8≤140737488355328∧(([]:List Int)++a0.Ay).length≤maxLen then some (Az.mk a1 a0.Ef (([]:List Int)++a0.Fi) (([]:List Int)++a0.Ay) 0)else none)else none)
def Bin:=ct (fd Tryz.func160 ⟨[.v 50,.v 3],[.n 52 true],true⟩ gN) (Asr K)
def Azp (K:Nat)(a0:As)(a1:Int):Option (Az):=(if(([]:List Int)++a0.Fi).length*8≤140737488355328∧(([]:List Int)++a0.Fi).length≤maxLen then(if(([]:List Int)++a0.Ay).length*8≤140737488355328∧(([]:List Int)++a0.Ay).length≤maxLen then some (Az.mk a1 a0.Ef (([]:List Int)++a0.Fi) (([]:List Int)++a0.Ay) 0)else none)else none)
def Bwb:=ct (fd Tryz.func160 ⟨[.v 50,.v 3],[.v 52],false⟩ gN) (Azp K)
def Ass (K:Nat)(r1:As)(v4:Int)(v5:Int)(v6:Int)(v7:Int)(v8:Int)(v9:Int)(v10:Int)(v11:List Int)(v12:List Int)(v13:List Int)(v14:List As)(v15:List Az)(v16:List Int):Option (C5):=((Aqy K (C5.mk (Ea.mk v5 v6 v7 v8 v9 v10) (Dn.mk v11 v12 v13) v14 v15 v16) r1.Ay).bind fun r17=>((Aze K r1).bind fun r18=>(if(0:Int)≤v4∧v4<(r17.fL.length:Int)then((Azp K r1 (An6 .i64 v4 1)).bind fun r19=>(if(([r19]:List Az)++r17.fQ).length*72≤140737488355328∧(([r19]:List Az)++r17.fQ).length≤maxLen then some (C5.mk r17.fC r17.fP (r17.fL.set v4.toNat r18) (([r19]:List Az)++r17.fQ) r17.Acy)else none))else none)))
def Axl (K:Nat)(a0:C5):Option (C5):=(if(0:Int)≤0∧0<(a0.fQ.length:Int)then(if(0:Int)≤(An7 .i64 ((gt a0.fQ 0).Ef) 1)∧(An7 .i64 ((gt a0.fQ 0).Ef) 1)<(a0.fL.length:Int)then(if(0:Int)≤(An7 .i64 ((gt a0.fQ 0).Ef) 1)∧(An7 .i64 ((gt a0.fQ 0).Ef) 1)<(a0.fL.length:Int)then((Anc K (gt a0.fL (An7 .i64 ((gt a0.fQ 0).Ef) 1))).bind fun r1=>(if(0:Int)≤0∧0<(a0.fQ.length:Int)then((Ad7 K a0.fL r1.Sn).bind fun r2=>(bif r2 then(if(0:Int)≤(An7 .i64 r1.Sn 1)∧(An7 .i64 r1.Sn 1)<(a0.fL.length:Int)then(Aqk (a0.fL.set (An7 .i64 r1.Sn 1).toNat (As.mk ((gt a0.fL (An7 .i64 r1.Sn 1)).Vi) ((gt a0.fL (An7 .i64 r1.Sn 1)).C9) ((gt a0.fL (An7 .i64 r1.Sn 1)).Sl) ((gt a0.fL (An7 .i64 r1.Sn 1)).fUp) ((gt a0.fL (An7 .i64 r1.Sn 1)).Sm) ((gt a0.fL (An7 .i64 r1.Sn 1)).Ef) ((gt a0.fL (An7 .i64 r1.Sn 1)).Sn) 0 ((gt a0.fL (An7 .i64 r1.Sn 1)).Ay) ((gt a0.fL (An7 .i64 r1.Sn 1)).Acx) ((gt a0.fL (An7 .i64 r1.Sn 1)).Sq) ((gt a0.fL (An7 .i64 r1.Sn 1)).F6) ((gt a0.fL (An7 .i64 r1.Sn 1)).Fi))) fun v3=>(Ass K r1 (An7 .i64 ((gt a0.fQ 0).Ef) 1) a0.fC.Ay a0.fC.G8 a0.fC.E6 a0.fC.Gu a0.fC.E7 a0.fC.G9 a0.fP.N7 a0.fP.Vi a0.fP.N8 v3 (a0.fQ.set (0:Int).toNat (Az.mk ((gt a0.fQ 0).Bm) r1.Sn ((gt a0.fQ 0).Fi) ((gt a0.fQ 0).Ay) ((gt a0.fQ 0).Wz))) a0.Acy))else none)else(Ass K r1 (An7 .i64 ((gt a0.fQ 0).Ef) 1) a0.fC.Ay a0.fC.G8 a0.fC.E6 a0.fC.Gu a0.fC.E7 a0.fC.G9 a0.fP.N7 a0.fP.Vi a0.fP.N8 a0.fL (a0.fQ.set (0:Int).toNat (Az.mk ((gt a0.fQ 0).Bm) r1.Sn ((gt a0.fQ 0).Fi) ((gt a0.fQ 0).Ay) ((gt a0.fQ 0).Wz))) a0.Acy)))else none))else none)else none)else none)
def Bwc:=fo Tryz.func252 ⟨[.b 32 false],[],false⟩ (gC (Bim K) (gC (Bp6 K) (gC (A54 K) (gC (A8w K) gN)))) (oC (d:=60) (gC (Bwb K) gN) oN) [] [15] [(0,[.take 1 10 5026]),(1,[.take 1 9 5025,.opn 5025 (.tmp 2),.takeE 5025 11 41611,.takeE 5025 12 41612]),(3,[.put 5025]),(5,[.take 103 8 6656,.frz 6656]),(6,[.take 1 9 5025,.take 103 11 6659,.take 103 12 6660]),(7,[.take 1 10 5026,.frz 6659,.frz 6660])]
def By7:Ej:=⟨[(0,.p 1),(2,.v 2),(3,.p 103)],[(1,.box [.v 2,.v 2,.v 2,.v 2,.v 2,.v 2,.T 5 true,.T 3 true,.T 3 true,.T 50 true,.T 52 false,.T 3 true]),(103,.st 50 false)]⟩
def Bnt:=jn (Bwc K) 15 By7 [] (fun a b c d e f g h i j k l m o=>Ass K o a b c d e f g h i j k l m) kN
def Bwd:=ct (Bwc K) (Axl K) (kC (Bnt K) kN)
def Aq9 (K:Nat)(a0:List As):Nat->(List As)->Int->Option ((List As))
 |0,_,_=>none
 |n1+1,v1,v2=>(bif (decide (v2<(a0.length:Int)))then(if(0:Int)≤v2∧v2<(a0.length:Int)then((Anc K (gt a0 v2)).bind fun r3=>(if(v1++[r3]).length*152≤140737488355328∧(v1++[r3]).length≤maxLen then(Aq9 K a0 n1 (v1++[r3]) (An6 .i64 v2 1))else none))else none)else some v1)
def Ato (K:Nat)(a0:List As):Option ((List As)):=(Aq9 K a0 K ([]:List As) 0)
def Bwe:=fd Tryz.func158 ⟨[.v 29],[.n 29 true],false⟩ (gC (A8w K) gN) (post:=[(20,[.put 3020])])
def By8:Ej:=⟨[(0,.v 29),(3,.o 1003 50 true),(4,.v 2)],[]⟩
def Bnu:=lp (Bwe K) 58 By8 [] (fun n a=>Aq9 K a n) (fun n=>kN)
def Be2:=ct (Bwe K) (Ato K) (kC (Bnu K K) kN)
def Axm (K:Nat)(v3:List As):Option ((List As)):=some v3
def Azy (K:Nat)(a0:List As)(a1:Int)(a2:Int):Option ((List As)):=((Ato K a0).bind fun r1=>((Gx K a1 0 (An7 .i64 (a0.length:Int) 1)).bind fun r2=>(bif (!r2)then some r1 else(if(0:Int)≤a1∧a1<(a0.length:Int)then(bif (decide (((gt a0 a1).C9)≥a2))then(if(0:Int)≤a1∧a1<(r1.length:Int)then(if(0:Int)≤a1∧a1<(a0.length:Int)then(if(0:Int)≤a1∧a1<(r1.length:Int)then(Axm K (r1.set a1.toNat (As.mk 3 ((gt a0 a1).C9) 0 0 0 0 0 0 [] 0 0 [] [])))else none)else none)else none)else(if(0:Int)≤a1∧a1<(a0.length:Int)then((Aky K (An6 .i64 ((gt a0 a1).C9) 1)).bind fun r4=>(if(0:Int)≤a1∧a1<(r1.length:Int)then(Axm K (r1.set a1.toNat r4))else none))else none))else none))))
def Bwf:=fd Tryz.func253 ⟨[.v 29,.v 3,.v 3],[.n 29 true],false⟩ (gC (A1m K) (gC (Be2 K) (gC (Ba8 K) gN))) [] [15] [(5,[.opn 1007 (.tmp 1)])]
def Bwg:Ej:=⟨[(7,.o 1007 50 true)],[]⟩
def Bnv:=jn (Bwf K) 15 Bwg [] (Axm K) kN
def Bwh:=ct (Bwf K) (Azy K) (kC (Bnv K) kN)
def Ast (K:Nat)(v6:Int)(v7:Int)(v8:Int)(v9:Int)(v10:Int)(v11:Int)(v12:List Int)(v13:List Int)(v14:List Int)(v15:List As)(v16:List Az)(v17:List Int):Option (C5):=(if(0:Int)≤1∧1≤(v16.length:Int)∧(v16.length:Int)≤(v16.length:Int)then(if(([]:List Az)++((v16.drop (1:Int).toNat).take ((v16.length:Int) - 1).toNat)).length*72≤140737488355328∧(([]:List Az)++((v16.drop (1:Int).toNat).take ((v16.length:Int) - 1).toNat)).length≤maxLen then some (C5.mk (Ea.mk v6 v7 v8 v9 v10 v11) (Dn.mk v12 v13 v14) v15 (([]:List Az)++((v16.drop (1:Int).toNat).take ((v16.length:Int) - 1).toNat)) v17)else none)else none)
def Au3 (K:Nat)(a0:C5):Option (C5):=(if(0:Int)≤0∧0<(a0.fQ.length:Int)then((A1n K (gt a0.fQ 0)).bind fun r1=>(bif (r1==1)then((Ayy K a0).bind fun r2=>some r2)else(bif (r1==2)then((Axk K a0).bind fun r3=>some r3)else(bif (r1==3)then((Axl K a0).bind fun r4=>some r4)else(if(0:Int)≤0∧0<(a0.fQ.length:Int)then(bif (((gt a0.fQ 0).Bm) != 0)then(if(0:Int)≤0∧0<(a0.fQ.length:Int)then((Azy K a0.fL (An7 .i64 ((gt a0.fQ 0).Bm) 1) a0.fC.G9).bind fun r5=>(Ast K a0.fC.Ay a0.fC.G8 a0.fC.E6 a0.fC.Gu a0.fC.E7 a0.fC.G9 a0.fP.N7 a0.fP.Vi a0.fP.N8 r5 a0.fQ a0.Acy))else none)else(Ast K a0.fC.Ay a0.fC.G8 a0.fC.E6 a0.fC.Gu a0.fC.E7 a0.fC.G9 a0.fP.N7 a0.fP.Vi a0.fP.N8 a0.fL a0.fQ a0.Acy))else none)))))else none)
def Bwi:=fd Tryz.func186 ⟨[.b 32 false],[],false⟩ (gC (Bvz K) (gC (Bv0 K) (gC (Bv6 K) (gC (Bwd K) (gC (Bwh K) gN))))) [] [447] [(0,[.take 1 10 5026]),(2,[.take 1 9 5025,.frz 5025]),(3,[.take 1 10 5026]),(5,[.put 1]),(7,[.put 1]),(9,[.put 1])] [(39,[.shal 3039])]
def By9:Ej:=⟨[(0,.p 1)],[(1,.box [.v 2,.v 2,.v 2,.v 2,.v 2,.v 2,.T 5 true,.T 3 true,.T 3 true,.T 50 true,.T 52 false,.T 3 true])]⟩
def Bio:=jn (Bwi K) 447 By9 [] (Ast K) kN
def Bp7:=ct (Bwi K) (Au3 K) (kC (Bio K) kN)
def Atx (K:Nat)(v1:Int)(v2:Int)(v3:Int)(v4:Int)(v5:Int)(v6:Int)(v7:Int)(v8:List Int)(v9:List Int)(v10:List Int)(v11:List As)(v12:List Az)(v13:List Int)(C1:Int->Int->Int->Int->Int->Int->Int->(List Int)->(List Int)->(List Int)->(List As)->(List Az)->(List Int)->Option (Int×C5)):Option (Int×C5):=((Au3 K (C5.mk (Ea.mk v2 v3 v4 v5 v6 v7) (Dn.mk v8 v9 v10) v11 v12 v13)).bind fun r15=>(C1 (An6 .i64 v1 1) r15.fC.Ay r15.fC.G8 r15.fC.E6 r15.fC.Gu r15.fC.E7 r15.fC.G9 r15.fP.N7 r15.fP.Vi r15.fP.N8 r15.fL r15.fQ r15.Acy))
def Aqc (K:Nat)(a1:Int)(a2:Int):Nat->Int->Int->Int->Int->Int->Int->Int->(List Int)->(List Int)->(List Int)->(List As)->(List Az)->(List Int)->Option (Int×C5)
 |0,_,_,_,_,_,_,_,_,_,_,_,_,_=>none
 |n1+1,v1,v2,v3,v4,v5,v6,v7,v8,v9,v10,v11,v12,v13=>(bif (decide ((v12.length:Int)>0))then((Ap7 K v11 0).bind fun r14=>(bif (decide (r14<a1))then(Atx K v1 v2 v3 v4 v5 v6 v7 v8 v9 v10 v11 v12 v13 (Aqc K a1 a2 n1))else(bif (decide (a2>0))then((Awk K (Dn.mk v8 v9 v10) a2).bind fun r16=>(bif (decide (r16<0))then(Atx K v1 v2 v3 v4 v5 v6 v7 v8 v9 v10 v11 v12 v13 (Aqc K a1 a2 n1))else some (v1,(C5.mk (Ea.mk v2 v3 v4 v5 v6 v7) (Dn.mk v8 v9 v10) v11 v12 v13))))else some (v1,(C5.mk (Ea.mk v2 v3 v4 v5 v6 v7) (Dn.mk v8 v9 v10) v11 v12 v13)))))else some (v1,(C5.mk (Ea.mk v2 v3 v4 v5 v6 v7) (Dn.mk v8 v9 v10) v11 v12 v13)))
def Av8 (K:Nat)(a0:C5)(a1:Int)(a2:Int):Option (Int×C5):=(Aqc K a1 a2 K 0 a0.fC.Ay a0.fC.G8 a0.fC.E6 a0.fC.Gu a0.fC.E7 a0.fC.G9 a0.fP.N7 a0.fP.Vi a0.fP.N8 a0.fL a0.fQ a0.Acy)
def Brr:=fd Tryz.func290 ⟨[.b 32 false,.v 3,.v 3],[.v 3],false⟩ (gC (Bp7 K) (gC (Bp2 K) (gC (Bp4 K) gN))) [13,14,21,22,24,25] [56] [(2,[.take 1 10 5026,.take 1 9 5025,.take 1 6 5022,.take 1 7 5023,.take 1 8 5024])]
def Bnw:Ej:=⟨[(0,.p 1),(1,.v 2),(2,.v 2),(7,.v 2)],[(1,.box [.v 2,.v 2,.v 2,.v 2,.v 2,.v 2,.T 5 true,.T 3 true,.T 3 true,.T 50 true,.T 52 false,.T 3 true])]⟩
def Bnx:=fun(C28:CT Bnw _)=>jn (Brr K) 56 Bnw [(28,ar Bnw C28)] (fun a b c d e f g h i j k l m o p=>Atx K c d e f g h i j k l m o p (C28 a b)) kN
def Bny:=lp (Brr K) 28 Bnw [] (fun n a b=>Aqc K a b n) (fun n=>(kC (Bnx K _) kN))
def Bip:=ct (Brr K) (Av8 K) (kC (Bny K K) kN)
def Ara (K:Nat)(a0:List As):Nat->Int->Option (Int)
 |0,_=>none
 |n1+1,v1=>(bif (decide (v1<(a0.length:Int)))then(if(0:Int)≤v1∧v1<(a0.length:Int)then(bif (((gt a0 v1).Vi)==0)then some v1 else(Ara K a0 n1 (An6 .i64 v1 1)))else none)else some (-1))
def Ayp (K:Nat)(a0:List As):Option (Int):=(Ara K a0 K 0)
def Bwj:=fd Tryz.func291 ⟨[.v 29],[.v 3],true⟩ gN
def Biq:Ej:=⟨[(0,.v 29),(3,.v 2)],[]⟩
def Bnz:=lp Bwj 26 Biq [] (fun n a=>Ara K a n) (fun n=>kN)
def Bwk:=ct Bwj (Ayp K) (kC (Bnz K K) kN)
def Arb (K:Nat):Nat->Int->(List Int)->(List Int)->(List Int)->Option (Int)
 |0,_,_,_,_=>none
 |n1+1,v1,v2,v3,v4=>(bif (decide (v1<(v3.length:Int)))then(if(0:Int)≤v1∧v1<(v3.length:Int)then(bif ((gt v3 v1)==0)then some v1 else(Arb K n1 (An6 .i64 v1 1) v2 v3 v4))else none)else some (-1))
def Avp (K:Nat)(a0:Dn):Option (Int):=(Arb K K 0 a0.N7 a0.Vi a0.N8)
def Bwl:=fd Tryz.func292 ⟨[.v 28],[.v 3],true⟩ gN
def Bza:Ej:=⟨[(1,.p 101),(3,.v 2)],[(101,.box [.v 22,.v 26,.v 26])]⟩
def Bn0:=lp Bwl 26 Bza [] (Arb K) (fun n=>kN)
def Bp8:=ct Bwl (Avp K) (kC (Bn0 K K) kN)
def Asu (K:Nat)(a1:Int)(a2:Int)(a3:Int):Nat->Int->Dn->Dn->Option (Dn)
 |0,_,_,_=>none
 |n1+1,v3,v4,v5=>(bif (decide (v3<(An6 .i64 a1 a2)))then(if(0:Int)≤v3∧v3<(v4.Vi.length:Int)then(if(0:Int)≤v3∧v3<(v4.N8.length:Int)then(Asu K a1 a2 a3 n1 (An6 .i64 v3 1) (Dn.mk v4.N7 (v4.Vi.set v3.toNat 1) (v4.N8.set v3.toNat a3)) v5)else none)else none)else some v4)
def Arc (K:Nat)(a0:Dn)(a1:Int)(a2:Int)(a3:Int):Option (Dn):=((Aqx K a0).bind fun r1=>((Av5 K a0 a1 a2).bind fun r2=>(bif r2 then(bif ((a0.N8.length:Int) != (a0.Vi.length:Int))then some r1 else(Asu K a1 a2 a3 K a1 r1 (Dn.mk [] [] [])))else some r1)))
def Bwm:=fd Tryz.func293 ⟨[.v 28,.v 3,.v 3,.v 3],[.n 28 true],true⟩ (gC (Be0 K) (gC (Bp3 K) gN)) [16,17,18] [] [(7,[.take 109 1 6745]),(8,[.take 109 2 6746]),(9,[.take 109 0 6744,.take 109 1 6745,.take 109 2 6746])]
def Bzb:Ej:=⟨[(1,.v 2),(2,.v 2),(3,.v 2),(8,.p 108),(9,.p 109),(10,.v 2)],[(109,.st 28 true),(108,.st 28 true)]⟩
def Bir:=lp (Bwm K) 122 Bzb [] (fun n a b c=>Asu K a b c n) (fun n=>kN)
def Bis:=ct (Bwm K) (Arc K) (kC (Bir K K) kN)
def A07 (K:Nat)(a0:As):Option (Bool):=(bif (a0.Sl==0)then(bif (a0.fUp==0)then(bif (a0.Sm==0)then(bif (a0.Ef==0)then(bif (a0.Sn==0)then(bif (a0.So==0)then(bif ((a0.Ay.length:Int)==0)then(bif (a0.Acx==0)then(bif (a0.Sq==0)then(bif ((a0.F6.length:Int)==0)then some ((a0.Fi.length:Int)==0)else some false)else some false)else some false)else some false)else some false)else some false)else some false)else some false)else some false)else some false)
def Bwn:=ct (fd Tryz.func194 ⟨[.v 50],[.v 4],true⟩ gN [5,6,9,10,11,14,15,16,19,20,21,24,25,26,29,30,31,35,36,37,40,41,42,45,46,47,51,52,53]) (A07 K)
def Au4 (K:Nat)(a0:List Int)(a1:Int):Nat->Int->Option (Bool)
 |0,_=>none
 |n1+1,v1=>(bif (decide (v1<(a0.length:Int)))then(if(0:Int)≤v1∧v1<(a0.length:Int)then(bif ((gt a0 v1)==a1)then some true else(Au4 K a0 a1 n1 (An6 .i64 v1 1)))else none)else some false)
def Aot (K:Nat)(a0:List Int)(a1:Int):Option (Bool):=(Au4 K a0 a1 K 0)
def Bwo:=fd Tryz.func122 ⟨[.v 26,.v 3],[.v 4],true⟩ gN
def Bzc:Ej:=⟨[(0,.v 26),(1,.v 2),(5,.v 2)],[]⟩
def Bn1:=lp Bwo 26 Bzc [] (fun n a b=>Au4 K a b n) (fun n=>kN)
def A8x:=ct Bwo (Aot K) (kC (Bn1 K K) kN)
def Aou (K:Nat)(a0:Ea):Nat->Int->Int->Int->Int->Int->Int->Int->Int->Int->(List Int)->Int->Int->(List Bc)->(List Int)->Option (Bool)
 |0,_,_,_,_,_,_,_,_,_,_,_,_,_,_=>none
 |n1+1,v1,v2,v3,v4,v5,v6,v7,v8,v9,v10,v11,v12,v13,v14=>(bif (decide (v1<(v10.length:Int)))then(if(0:Int)≤v1∧v1<(v10.length:Int)then((Gx K (gt v10 v1) 0 (An7 .i64 a0.Ay 1)).bind fun r15=>(bif r15 then(if(0:Int)≤0∧0≤v1∧v1≤(v10.length:Int)then(if(0:Int)≤v1∧v1<(v10.length:Int)then((Aot K ((v10.drop (0:Int).toNat).take (v1 - 0).toNat) (gt v10 v1)).bind fun r16=>(bif r16 then some false else(Aou K a0 n1 (An6 .i64 v1 1) v2 v3 v4 v5 v6 v7 v8 v9 v10 v11 v12 v13 v14)))else none)else none)else some false))else none)else(bif (v11==0)then some (v12==0)else((Aot K v10 (An7 .i64 v11 1)).bind fun r17=>(bif r17 then((Gx K v12 0 a0.G8).bind fun r18=>some r18)else some false))))
def Awn (K:Nat)(a0:Ea)(a1:As):Option (Bool):=(Aou K a0 K 0 a1.Vi a1.C9 a1.Sl a1.fUp a1.Sm a1.Ef a1.Sn a1.So a1.Ay a1.Acx a1.Sq a1.F6 a1.Fi)
def Bwp:=fd Tryz.func195 ⟨[.v 25,.v 50],[.v 4],true⟩ (gC (A1m K) (gC (A8x K) gN)) [21,22,23,46,47]
def Biu:Ej:=⟨[(2,.p 102),(3,.p 103),(5,.v 2)],[(103,.box [.v 2,.v 2,.v 2,.v 2,.v 2,.v 2,.v 2,.v 2,.v 26,.v 2,.v 2,.v 48,.v 26]),(102,.st 25 true)]⟩
def Bn2:=lp (Bwp K) 26 Biu [] (fun n a b c d e f g h i j k l m o p=>Aou K p n a b c d e f g h i j k l m o) (fun n=>kN)
def Bwq:=ct (Bwp K) (Awn K) (kC (Bn2 K K) kN)
def Aov (K:Nat)(a0:Ea)(a1:Int):Option (Bool):=some (decide (a1>a0.G8))
def Biv:=ct (fd Tryz.func257 ⟨[.v 25,.v 3],[.v 4],true⟩ gN) (Aov K)
def Axn (K:Nat)(a0:Int)(a1:Int):Option (Int):=((Gx K a0 0 1000000000).bind fun r1=>(bif r1 then((Gx K a1 1 1000000000).bind fun r2=>(bif (!r2)then some 0 else(if a1≠(0:Int)then some (Alk .i64 (An7 .i64 (An6 .i64 a0 a1) 1) a1)else none)))else some 0))
def Bwr:=ct (fd Tryz.func287 ⟨[.v 3,.v 3],[.v 3],true⟩ (gC (A1m K) gN) [6,7,8]) (Axn K)
def Alz (K:Nat)(a0:Ea)(a1:Int):Option (Int):=((Axn K a1 a0.G8).bind fun r1=>some r1)
def Biw:=ct (fd Tryz.func258 ⟨[.v 25,.v 3],[.v 3],true⟩ (gC (Bwr K) gN)) (Alz K)
def Asv (K:Nat)(a0:Ea)(a1:Bc):Option (Bool):=((Aq8 K a0).bind fun r1=>(bif (r1==0)then some false else(bif (decide (a1.Ajm<1))then some false else(bif (decide (a1.fAt<0))then some false else(bif (decide (a1.fAt>r1))then some false else(bif (decide (a1.Ajm>(An7 .i64 r1 a1.fAt)))then some false else(bif (a1.Ajn==0)then(bif (decide (a1.Ajm≤a0.G8))then(if a0.G8≠(0:Int)then(if a0.G8≠(0:Int)then some ((Alk .i64 a1.fAt a0.G8)==(Alk .i64 (An7 .i64 (An6 .i64 a1.fAt a1.Ajm) 1) a0.G8))else none)else none)else some false)else((Aov K a0 a1.Ajm).bind fun r2=>(bif r2 then((Alz K a0 a1.Ajm).bind fun r3=>(bif (a1.Ajn==r3)then(if a0.G8≠(0:Int)then some ((Int.tmod a1.fAt a0.G8)==0)else none)else some false))else some false)))))))))
def Bp9:=ct (fd Tryz.func196 ⟨[.v 25,.v 132],[.v 4],true⟩ (gC (Bnc K) (gC (Biv K) (gC (Biw K) gN))) [9,10,13,14,15,18,19,20,24,25,26,42,43,63,64,71,72,73]) (Asv K)
def Aqd (K:Nat)(v23:List Int):Nat->Int->Option (Bool)
 |0,_=>none
 |n2+1,v25=>(bif (decide (v25<(v23.length:Int)))then(if(0:Int)≤v25∧v25<(v23.length:Int)then((Gx K (gt v23 v25) 0 255).bind fun r26=>(bif (!r26)then some false else(Aqd K v23 n2 (An6 .i64 v25 1))))else none)else some true)
def Api (K:Nat)(a0:Ea):Nat->Int->Int->Int->Int->Int->Int->Int->Int->Int->(List Int)->Int->Int->(List Bc)->(List Int)->Option (Bool)
 |0,_,_,_,_,_,_,_,_,_,_,_,_,_,_=>none
 |n1+1,v10,v11,v12,v13,v14,v15,v16,v17,v18,v19,v20,v21,v22,v23=>(bif (decide (v10<(v22.length:Int)))then(if(0:Int)≤v10∧v10<(v22.length:Int)then((Asv K a0 (gt v22 v10)).bind fun r24=>(bif (!r24)then some false else(Api K a0 n1 (An6 .i64 v10 1) v11 v12 v13 v14 v15 v16 v17 v18 v19 v20 v21 v22 v23)))else none)else(Aqd K v23 K 0))
def Apz (K:Nat)(a0:Ea)(a1:As):Option (Bool):=((Anb K a0).bind fun r1=>(bif r1 then((Gx K a1.Vi 0 3).bind fun r2=>(bif r2 then((Gx K a1.C9 1 a0.G9).bind fun r3=>(bif (!r3)then some false else(bif (a1.Vi != 1)then((A07 K a1).bind fun r4=>some r4)else(bif (decide (a1.Sl<0))then some false else(bif (decide (a1.Sm<0))then some false else((Gx K a1.fUp 0 a0.E6).bind fun r5=>(bif r5 then((Gx K a1.Ef 0 a0.E6).bind fun r6=>(bif r6 then((Gx K a1.Sn 0 a0.E6).bind fun r7=>(bif r7 then((Gx K a1.So 0 a0.E6).bind fun r8=>(bif r8 then((Awn K a0 a1).bind fun r9=>(bif r9 then(bif (decide ((a1.F6.length:Int)>12))then some false else(bif (decide ((a1.Fi.length:Int)>6))then some false else(Api K a0 K 0 a1.Vi a1.C9 a1.Sl a1.fUp a1.Sm a1.Ef a1.Sn a1.So a1.Ay a1.Acx a1.Sq a1.F6 a1.Fi)))else some false))else some false))else some false))else some false))else some false)))))))else some false))else some false))
def Brs:=fd Tryz.func100 ⟨[.v 25,.v 50],[.v 4],true⟩ (gC (Ba7 K) (gC (A1m K) (gC (Bwn K) (gC (Bwq K) (gC (Bp9 K) gN))))) [8,9,10,13,14,15,16,31,32,35,36,37,42,43,44,45,50,51,52,53,58,59,60,61,66,67,68,69,72,73,74,75,79,80,81]
def Bzd:Ej:=⟨[(3,.p 103),(6,.v 2)],[(103,.box [.v 2,.v 2,.v 2,.v 2,.v 2,.v 2,.v 2,.v 2,.v 26,.v 2,.v 2,.v 48,.v 26])]⟩
def Bix:=lp (Brs K) 506 Bzd [] (fun n a _ _ _ _ _ _ _ _ _ _ _ _ o=>Aqd K o n a) (fun n=>kN)
def Biy:=lp (Brs K) 250 Biu [] (fun n a b c d e f g h i j k l m o p=>Api K p n a b c d e f g h i j k l m o) (fun n=>(kC (up (Bix K K)) kN))
def A8y:=ct (Brs K) (Apz K) (kC (Biy K K) kN)
def Auf (K:Nat)(a0:Ea)(a1:As)(a2:Int):Option (As×Bool):=((Anc K a1).bind fun r1=>(bif (a1.Vi != 1)then some (r1,false)else((Gx K a2 0 (An7 .i64 a0.Ay 1)).bind fun r2=>(bif (!r2)then some (r1,false)else(if(r1.Ay++([a2]:List Int)).length*8≤140737488355328∧(r1.Ay++([a2]:List Int)).length≤maxLen then((Apz K a0 (As.mk r1.Vi r1.C9 r1.Sl r1.fUp r1.Sm r1.Ef r1.Sn r1.So (r1.Ay++([a2]:List Int)) (An6 .i64 a2 1) 0 r1.F6 r1.Fi)).bind fun r3=>(bif (!r3)then((Anc K a1).bind fun r4=>some (r4,false))else some ((As.mk r1.Vi r1.C9 r1.Sl r1.fUp r1.Sm r1.Ef r1.Sn r1.So (r1.Ay++([a2]:List Int)) (An6 .i64 a2 1) 0 r1.F6 r1.Fi),true)))else none)))))
def Biz:=ct (fd Tryz.func294 ⟨[.v 25,.v 50,.v 3],[.n 50 false,.v 4],true⟩ (gC (A8y K) (gC (A1m K) (gC (A8w K) gN))) [13,14]) (Auf K)
def Ayz (K:Nat)(v11:List As):Option ((List As)):=some v11
def Axd (K:Nat)(a0:List As)(a1:Int)(a2:Int):Option ((List As)):=((Ato K a0).bind fun r1=>((Ad7 K a0 (An6 .i64 a1 1)).bind fun r2=>(bif r2 then((Ad7 K a0 (An6 .i64 a2 1)).bind fun r3=>(bif r3 then(bif (a1==a2)then some r1 else(if(0:Int)≤a1∧a1<(a0.length:Int)then(if(0:Int)≤a2∧a2<(r1.length:Int)then(Aqk (r1.set a2.toNat (As.mk ((gt r1 a2).Vi) ((gt r1 a2).C9) ((gt r1 a2).Sl) (An6 .i64 a1 1) ((gt r1 a2).Sm) ((gt r1 a2).Ef) ((gt r1 a2).Sn) ((gt r1 a2).So) ((gt r1 a2).Ay) ((gt r1 a2).Acx) ((gt r1 a2).Sq) ((gt r1 a2).F6) ((gt r1 a2).Fi))) fun v4=>(if(0:Int)≤a1∧a1<(a0.length:Int)then(if(0:Int)≤a2∧a2<(v4.length:Int)then(Aqk (v4.set a2.toNat (As.mk ((gt v4 a2).Vi) ((gt v4 a2).C9) ((gt v4 a2).Sl) ((gt v4 a2).fUp) ((gt a0 a1).Sl) ((gt v4 a2).Ef) ((gt v4 a2).Sn) ((gt v4 a2).So) ((gt v4 a2).Ay) ((gt v4 a2).Acx) ((gt v4 a2).Sq) ((gt v4 a2).F6) ((gt v4 a2).Fi))) fun v5=>(if(0:Int)≤a2∧a2<(v5.length:Int)then(Aqk (v5.set a2.toNat (As.mk ((gt v5 a2).Vi) ((gt v5 a2).C9) ((gt v5 a2).Sl) ((gt v5 a2).fUp) ((gt v5 a2).Sm) ((gt v5 a2).Ef) ((gt a0 a1).Ef) ((gt v5 a2).So) ((gt v5 a2).Ay) ((gt v5 a2).Acx) ((gt v5 a2).Sq) ((gt v5 a2).F6) ((gt v5 a2).Fi))) fun v6=>(if(0:Int)≤a2∧a2<(v6.length:Int)then(Aqk (v6.set a2.toNat (As.mk ((gt v6 a2).Vi) ((gt v6 a2).C9) ((gt v6 a2).Sl) ((gt v6 a2).fUp) ((gt v6 a2).Sm) ((gt v6 a2).Ef) ((gt v6 a2).Sn) 0 ((gt v6 a2).Ay) ((gt v6 a2).Acx) ((gt v6 a2).Sq) ((gt v6 a2).F6) ((gt v6 a2).Fi))) fun v7=>(if(0:Int)≤a1∧a1<(v7.length:Int)then(Aqk (v7.set a1.toNat (As.mk ((gt v7 a1).Vi) ((gt v7 a1).C9) ((gt v7 a1).Sl) ((gt v7 a1).fUp) ((gt v7 a1).Sm) (An6 .i64 a2 1) ((gt v7 a1).Sn) ((gt v7 a1).So) ((gt v7 a1).Ay) ((gt v7 a1).Acx) ((gt v7 a1).Sq) ((gt v7 a1).F6) ((gt v7 a1).Fi))) fun v8=>((Ad7 K a0 ((gt a0 a1).Ef)).bind fun r9=>(bif r9 then(if(0:Int)≤(An7 .i64 ((gt a0 a1).Ef) 1)∧(An7 .i64 ((gt a0 a1).Ef) 1)<(v8.length:Int)then(Aqk (v8.set (An7 .i64 ((gt a0 a1).Ef) 1).toNat (As.mk ((gt v8 (An7 .i64 ((gt a0 a1).Ef) 1)).Vi) ((gt v8 (An7 .i64 ((gt a0 a1).Ef) 1)).C9) ((gt v8 (An7 .i64 ((gt a0 a1).Ef) 1)).Sl) ((gt v8 (An7 .i64 ((gt a0 a1).Ef) 1)).fUp) ((gt v8 (An7 .i64 ((gt a0 a1).Ef) 1)).Sm) ((gt v8 (An7 .i64 ((gt a0 a1).Ef) 1)).Ef) ((gt v8 (An7 .i64 ((gt a0 a1).Ef) 1)).Sn) (An6 .i64 a2 1) ((gt v8 (An7 .i64 ((gt a0 a1).Ef) 1)).Ay) ((gt v8 (An7 .i64 ((gt a0 a1).Ef) 1)).Acx) ((gt v8 (An7 .i64 ((gt a0 a1).Ef) 1)).Sq) ((gt v8 (An7 .i64 ((gt a0 a1).Ef) 1)).F6) ((gt v8 (An7 .i64 ((gt a0 a1).Ef) 1)).Fi))) fun v10=>(Ayz K v10))else none)else(Ayz K v8))))else none))else none))else none))else none)else none))else none)else none))else some r1))else some r1)))
def Bws:=fd Tryz.func295 ⟨[.v 29,.v 3,.v 3],[.n 29 true],false⟩ (gC (Be2 K) (gC (A54 K) gN)) [14,15,16,20,21,22,23] [1023]
def Bf5:=jn (Bws K) 1023 Bwg [] (Ayz K) kN
def Bwt:=ct (Bws K) (Axd K) (kC (Bf5 K) kN)
def Asw (K:Nat)(a1:Int):Nat->Int->Int->Int->Int->Int->Int->Int->(List Int)->(List Int)->(List Int)->(List As)->(List Az)->(List Int)->Option (Int×C5)
 |0,_,_,_,_,_,_,_,_,_,_,_,_,_=>none
 |n1+1,v1,v2,v3,v4,v5,v6,v7,v8,v9,v10,v11,v12,v13=>(bif (decide (v1<a1))then(bif ((v12.length:Int)==0)then some (v1,(C5.mk (Ea.mk v2 v3 v4 v5 v6 v7) (Dn.mk v8 v9 v10) v11 v12 v13))else((Au3 K (C5.mk (Ea.mk v2 v3 v4 v5 v6 v7) (Dn.mk v8 v9 v10) v11 v12 v13)).bind fun r14=>(Asw K a1 n1 (An6 .i64 v1 1) r14.fC.Ay r14.fC.G8 r14.fC.E6 r14.fC.Gu r14.fC.E7 r14.fC.G9 r14.fP.N7 r14.fP.Vi r14.fP.N8 r14.fL r14.fQ r14.Acy)))else some (a1,(C5.mk (Ea.mk v2 v3 v4 v5 v6 v7) (Dn.mk v8 v9 v10) v11 v12 v13)))
def Au5 (K:Nat)(a0:C5)(a1:Int):Option (Int×C5):=(Asw K a1 K 0 a0.fC.Ay a0.fC.G8 a0.fC.E6 a0.fC.Gu a0.fC.E7 a0.fC.G9 a0.fP.N7 a0.fP.Vi a0.fP.N8 a0.fL a0.fQ a0.Acy)
def Bwu:=fd Tryz.func265 ⟨[.b 32 false,.v 3],[.v 3],false⟩ (gC (Bp7 K) gN) [] [] [(4,[.take 1 10 5026]),(6,[.put 1])]
def Bze:Ej:=⟨[(0,.p 1),(1,.v 2),(5,.v 2)],[(1,.box [.v 2,.v 2,.v 2,.v 2,.v 2,.v 2,.T 5 true,.T 3 true,.T 3 true,.T 50 true,.T 52 false,.T 3 true])]⟩
def Bn3:=lp (Bwu K) 26 Bze [] (fun n a=>Asw K a n) (fun n=>kN)
def Bi0:=ct (Bwu K) (Au5 K) (kC (Bn3 K K) kN)
def Asx (K:Nat)(r19:Int)(v25:Int)(v26:Int)(v27:Int)(v28:Int)(v29:Int)(v30:Int)(v31:List Int)(v32:List Int)(v33:List Int)(v34:List As)(v35:List Az)(v36:List Int)(v37:Et):Option (Et×C5):=((Ang K v34 r19).bind fun r38=>((Au5 K (C5.mk (Ea.mk v25 v26 v27 v28 v29 v30) (Dn.mk v31 v32 v33) v34 v35 v36) v28).bind fun r39=>some ((Et.mk v37.W4 r38 v37.fR v37.fB v37.W5 r39.1 v37.N9),r39.2)))
def Anp (K:Nat)(v3:Int)(v4:Int)(v5:Int)(v6:Int)(v7:Int)(v8:Int)(v9:Int)(v10:List Int)(v11:List Int)(v12:List Int)(v13:List As)(v14:List Az)(v15:List Int)(v16:Et)(v17:Et):Option (Et×C5):=(bif (v16.W4 != 0)then some (v16,(C5.mk (Ea.mk v4 v5 v6 v7 v8 v9) (Dn.mk v10 v11 v12) v13 v14 v15))else((Av8 K (C5.mk (Ea.mk v4 v5 v6 v7 v8 v9) (Dn.mk v10 v11 v12) v13 v14 v15) 1 1).bind fun r18=>((Ayp K r18.2.fL).bind fun r19=>((Avp K r18.2.fP).bind fun r20=>(bif (decide (r19<0))then some ((Et.mk 5 (An.mk 0 0) (Br.mk (An.mk 0 0) 0 0) [] 0 0 0),r18.2)else(bif (decide (r20<0))then some ((Et.mk 5 (An.mk 0 0) (Br.mk (An.mk 0 0) 0 0) [] 0 0 0),r18.2)else(if(0:Int)≤r19∧r19<(r18.2.fL.length:Int)then((Aky K ((gt r18.2.fL r19).C9)).bind fun r21=>((Arc K r18.2.fP r20 1 r19).bind fun r22=>((Auf K r18.2.fC (As.mk 1 r21.C9 r21.Sl r21.fUp r21.Sm r21.Ef r21.Sn r21.So r21.Ay r21.Acx r21.Sq r21.F6 r21.Fi) r20).bind fun r23=>(if(0:Int)≤r19∧r19<(r18.2.fL.length:Int)then(bif (decide (v3≥0))then((Axd K (r18.2.fL.set r19.toNat r23.1) v3 r19).bind fun r24=>(Asx K r19 r18.2.fC.Ay r18.2.fC.G8 r18.2.fC.E6 r18.2.fC.Gu r18.2.fC.E7 r18.2.fC.G9 r22.N7 r22.Vi r22.N8 r24 r18.2.fQ r18.2.Acy (Et.mk v16.W4 v16.fH v16.fR v16.fB v16.W5 v16.Gu r18.1)))else(Asx K r19 r18.2.fC.Ay r18.2.fC.G8 r18.2.fC.E6 r18.2.fC.Gu r18.2.fC.E7 r18.2.fC.G9 r22.N7 r22.Vi r22.N8 (r18.2.fL.set r19.toNat r23.1) r18.2.fQ r18.2.Acy (Et.mk v16.W4 v16.fH v16.fR v16.fB v16.W5 v16.Gu r18.1)))else none))))else none)))))))
def Asy (K:Nat)(v41:Int)(v42:Bool)(v43:Int)(v44:Int)(v45:Int)(v46:Int)(v47:Int)(v48:Int)(v49:List Int)(v50:List Int)(v51:List Int)(v52:List As)(v53:List Az)(v54:List Int)(v55:Et)(v56:Et):Option (Et×C5):=(bif v42 then(Anp K v41 v43 v44 v45 v46 v47 v48 v49 v50 v51 v52 v53 v54 (Et.mk 3 v55.fH v55.fR v55.fB v55.W5 v55.Gu v55.N9) v56)else((Azn K (C5.mk (Ea.mk v43 v44 v45 v46 v47 v48) (Dn.mk v49 v50 v51) v52 v53 v54)).bind fun r57=>(bif (r57==0)then(Anp K v41 v43 v44 v45 v46 v47 v48 v49 v50 v51 v52 v53 v54 (Et.mk 4 v55.fH v55.fR v55.fB v55.W5 v55.Gu v55.N9) v56)else((Aro K (C5.mk (Ea.mk v43 v44 v45 v46 v47 v48) (Dn.mk v49 v50 v51) v52 v53 v54) 1).bind fun r58=>(bif (!r58)then(Anp K v41 v43 v44 v45 v46 v47 v48 v49 v50 v51 v52 v53 v54 (Et.mk 5 v55.fH v55.fR v55.fB v55.W5 v55.Gu v55.N9) v56)else(Anp K v41 v43 v44 v45 v46 v47 v48 v49 v50 v51 v52 v53 v54 v55 v56))))))
def Axo (K:Nat)(a0:C5)(a1:An):Option (Et×C5):=((Azv K a0 a1).bind fun r1=>((Aog K a0 a1).bind fun r2=>(bif (r1.2 != 0)then(Anp K r1.1 a0.fC.Ay a0.fC.G8 a0.fC.E6 a0.fC.Gu a0.fC.E7 a0.fC.G9 a0.fP.N7 a0.fP.Vi a0.fP.N8 a0.fL a0.fQ a0.Acy (Et.mk r1.2 (An.mk 0 0) (Br.mk (An.mk 0 0) 0 0) [] r2 0 0) (Et.mk 0 (An.mk 0 0) (Br.mk (An.mk 0 0) 0 0) [] 0 0 0))else(bif (decide (r1.1≥0))then((Av4 K a0.fL r1.1).bind fun r40=>(Asy K r1.1 (decide (r40≥4)) a0.fC.Ay a0.fC.G8 a0.fC.E6 a0.fC.Gu a0.fC.E7 a0.fC.G9 a0.fP.N7 a0.fP.Vi a0.fP.N8 a0.fL a0.fQ a0.Acy (Et.mk r1.2 (An.mk 0 0) (Br.mk (An.mk 0 0) 0 0) [] r2 0 0) (Et.mk 0 (An.mk 0 0) (Br.mk (An.mk 0 0) 0 0) [] 0 0 0)))else(Asy K r1.1 false a0.fC.Ay a0.fC.G8 a0.fC.E6 a0.fC.Gu a0.fC.E7 a0.fC.G9 a0.fP.N7 a0.fP.Vi a0.fP.N8 a0.fL a0.fQ a0.Acy (Et.mk r1.2 (An.mk 0 0) (Br.mk (An.mk 0 0) 0 0) [] r2 0 0) (Et.mk 0 (An.mk 0 0) (Br.mk (An.mk 0 0) 0 0) [] 0 0 0))))))
def Bn4:=fd Tryz.func263 ⟨[.b 32 false,.v 36],[.n 73 true],false⟩ (gC (Bii K) (gC (A7c K) (gC (Bid K) (gC (Ba8 K) (gC (Bp0 K) (gC (Bi0 K) (gC (Bvt K) (gC (Bvu K) (gC (Bip K) (gC (Bwk K) (gC (Bp8 K) (gC (Bis K) (gC (Biz K) (gC (Bwt K) gN)))))))))))))) [31,32,74,75] [15,243,32767] [(1,[.take 1 6 5022,.take 1 7 5023,.take 1 8 5024,.take 1 9 5025,.take 1 10 5026,.take 1 11 5027]),(6,[.take 1 6 5022,.take 1 7 5023,.take 1 8 5024,.take 1 9 5025,.take 1 10 5026,.take 1 11 5027]),(11,[.take 107 7 6719]),(13,[.take 1 9 5025]),(14,[.take 1 6 5022,.take 1 7 5023,.take 1 8 5024]),(23,[.put 5025,.frz 5025]),(24,[.take 1 9 5025]),(25,[.put 1]),(26,[.take 107 7 6719])]
def Bzf:Ej:=⟨[(0,.p 1),(4,.p 104),(7,.p 107),(8,.v 2)],[(1,.box [.v 2,.v 2,.v 2,.v 2,.v 2,.v 2,.T 5 true,.T 3 true,.T 3 true,.T 50 true,.T 52 false,.T 3 true]),(107,.st 73 true),(104,.st 73 true)]⟩
def Bzg:Ej:=⟨[(0,.p 1),(4,.p 104),(5,.v 2),(7,.p 107)],[(1,.box [.v 2,.v 2,.v 2,.v 2,.v 2,.v 2,.T 5 true,.T 3 true,.T 3 true,.T 50 true,.T 52 false,.T 3 true]),(107,.st 73 true),(104,.st 73 true)]⟩
def Bzh:Ej:=⟨[(0,.p 1),(4,.p 104),(5,.v 2),(7,.p 107),(29,.v 4)],[(1,.box [.v 2,.v 2,.v 2,.v 2,.v 2,.v 2,.T 5 true,.T 3 true,.T 3 true,.T 50 true,.T 52 false,.T 3 true]),(107,.st 73 true),(104,.st 73 true)]⟩
def Bc7:=jn (Bn4 K) 32767 Bzf [] (fun a b c d e f g h i j k l m o _=>Asx K a b c d e f g h i j k l m o) kN
def Be3:=jn (Bn4 K) 15 Bzg [] (Anp K) (kC (Bc7 K) kN)
def Bi1:=jn (Bn4 K) 243 Bzh [] (Asy K) (kC (Be3 K) kN)
def Bwv:=ct (Bn4 K) (Axo K) (kC (Be3 K) (kC (Bi1 K) kN))
def Ard (K:Nat)(a0:Int):Option (Bool):=(bif (a0==1)then some true else(bif (a0==2)then some true else some (a0==4)))
def Be4:=ct (fd Tryz.func296 ⟨[.v 3],[.v 4],true⟩ gN [4,5,7,8,9]) (Ard K)
def Am9 (K:Nat)(a0:Ea)(a2:Int)(a3:Int)(r6:Int):Nat->Int->As->As->Int->Int->Int->Int->Int->Int->Int->Int->(List Int)->Int->Int->(List Bc)->(List Int)->Option (As×Bool)
 |0,_,_,_,_,_,_,_,_,_,_,_,_,_,_,_,_=>none
 |n1+1,v7,v8,v9,v10,v11,v12,v13,v14,v15,v16,v17,v18,v19,v20,v21,v22=>(bif (decide (v7<r6))then(if(v8.Ay++([(An6 .i64 a2 v7)]:List Int)).length*8≤140737488355328∧(v8.Ay++([(An6 .i64 a2 v7)]:List Int)).length≤maxLen then(Am9 K a0 a2 a3 r6 n1 (An6 .i64 v7 1) (As.mk v8.Vi v8.C9 v8.Sl v8.fUp v8.Sm v8.Ef v8.Sn v8.So (v8.Ay++([(An6 .i64 a2 v7)]:List Int)) v8.Acx v8.Sq v8.F6 v8.Fi) v9 v10 v11 v12 v13 v14 v15 v16 v17 v18 v19 v20 v21 v22)else none)else(if(v8.F6++([(Bc.mk (An8 .i64 a2 a0.G8) a3 r6)]:List Bc)).length*24≤140737488355328∧(v8.F6++([(Bc.mk (An8 .i64 a2 a0.G8) a3 r6)]:List Bc)).length≤maxLen then((Apz K a0 (As.mk v8.Vi v8.C9 v8.Sl v8.fUp v8.Sm v8.Ef v8.Sn v8.So v8.Ay v8.Acx v8.Sq (v8.F6++([(Bc.mk (An8 .i64 a2 a0.G8) a3 r6)]:List Bc)) v8.Fi)).bind fun r23=>(bif (!r23)then((Anc K (As.mk v10 v11 v12 v13 v14 v15 v16 v17 v18 v19 v20 v21 v22)).bind fun r24=>some (r24,false))else some ((As.mk v8.Vi v8.C9 v8.Sl v8.fUp v8.Sm v8.Ef v8.Sn v8.So v8.Ay v8.Acx v8.Sq (v8.F6++([(Bc.mk (An8 .i64 a2 a0.G8) a3 r6)]:List Bc)) v8.Fi),true)))else none))
def Aqe (K:Nat)(a0:Ea)(a1:As)(a2:Int)(a3:Int):Option (As×Bool):=((Anc K a1).bind fun r1=>((Anb K a0).bind fun r2=>(bif r2 then(bif (a1.Vi != 1)then some (r1,false)else((Aov K a0 a3).bind fun r3=>(bif r3 then((Aq8 K a0).bind fun r4=>(bif (decide (a3>r4))then some (r1,false)else((Gx K a2 0 (An7 .i64 a0.Ay 1)).bind fun r5=>(bif (!r5)then some (r1,false)else((Alz K a0 a3).bind fun r6=>(Am9 K a0 a2 a3 r6 K 0 r1 (As.mk 0 0 0 0 0 0 0 0 [] 0 0 [] []) a1.Vi a1.C9 a1.Sl a1.fUp a1.Sm a1.Ef a1.Sn a1.So a1.Ay a1.Acx a1.Sq a1.F6 a1.Fi))))))else some (r1,false))))else some (r1,false))))
def Bww:=fd Tryz.func309 ⟨[.v 25,.v 50,.v 3,.v 3],[.n 50 false,.v 4],true⟩ (gC (Ba7 K) (gC (A8y K) (gC (A1m K) (gC (Bnc K) (gC (A8w K) (gC (Biv K) (gC (Biw K) gN))))))) [16,17,18,21,22,23,26,27,28,29,33,34,35] [] [(8,[.take 110 8 6768]),(9,[.take 110 11 6771]),(10,[.take 110 8 6768,.take 110 12 6772])]
def Bzi:Ej:=⟨[(2,.v 2),(3,.v 2),(4,.p 104),(5,.p 105),(8,.p 108),(10,.p 110),(11,.v 2),(12,.v 2)],[(110,.st 50 false),(108,.st 50 false),(105,.box [.v 2,.v 2,.v 2,.v 2,.v 2,.v 2,.v 2,.v 2,.v 26,.v 2,.v 2,.v 48,.v 26]),(104,.st 25 true)]⟩
def Bi2:=lp (Bww K) 250 Bzi [] (fun n a b c d e f g h i j k l m o p q r s t u=>Am9 K u a b c n d e f g h i j k l m o p q r s t) (fun n=>kN)
def Bqa:=ct (Bww K) (Aqe K) (kC (Bi2 K K) kN)
def Awo (K:Nat)(a0:C5)(a1:Int)(a2:Int)(a3:Et):Option (Et×C5):=((Alz K a0.fC a2).bind fun r1=>((Aro K a0 r1).bind fun r2=>(bif (!r2)then some ((Et.mk 5 a3.fH a3.fR a3.fB a3.W5 a3.Gu a3.N9),a0)else((Av8 K a0 0 r1).bind fun r3=>((Awk K r3.2.fP r1).bind fun r4=>(bif (decide (r4<0))then some ((Et.mk 6 a3.fH a3.fR a3.fB a3.W5 a3.Gu r3.1),r3.2)else((Arc K r3.2.fP r4 r1 a1).bind fun r5=>(if(0:Int)≤a1∧a1<(r3.2.fL.length:Int)then(if(0:Int)≤a1∧a1<(r3.2.fL.length:Int)then((Aqe K r3.2.fC (gt r3.2.fL a1) r4 a2).bind fun r6=>(if(0:Int)≤a1∧a1<(r3.2.fL.length:Int)then some ((Et.mk a3.W4 a3.fH a3.fR a3.fB a3.W5 a3.Gu r3.1),(C5.mk r3.2.fC r5 (r3.2.fL.set a1.toNat r6.1) r3.2.fQ r3.2.Acy))else none))else none)else none))))))))
def Bwx:=ct (fd Tryz.func297 ⟨[.b 32 false,.v 3,.v 3,.v 73],[.v 73],false⟩ (gC (Bii K) (gC (Biw K) (gC (Bip K) (gC (Bis K) (gC (Bqa K) (gC (Bp4 K) gN)))))) [] [] [(2,[.take 1 6 5022,.take 1 7 5023,.take 1 8 5024,.take 1 9 5025,.take 1 10 5026,.take 1 11 5027]),(5,[.put 1]),(6,[.take 1 6 5022,.take 1 7 5023,.take 1 8 5024]),(11,[.take 1 9 5025,.opn 5025 (.tmp 1),.takeE 5025 11 41611,.takeE 5025 12 41612])]) (Awo K)
def Axp (K:Nat)(a0:Int)(a1:Int):Option (Int):=((Gx K a0 0 1000000000).bind fun r1=>(bif r1 then((Ard K a1).bind fun r2=>(bif (!r2)then some 0 else(if a1≠(0:Int)then some (An8 .i64 (Alk .i64 (An7 .i64 (An6 .i64 a0 a1) 1) a1) a1)else none)))else some 0))
def Bwy:=ct (fd Tryz.func315 ⟨[.v 3,.v 3],[.v 3],true⟩ (gC (A1m K) (gC (Be4 K) gN)) [6,7,8]) (Axp K)
def Av9 (K:Nat)(a0:Ea)(a1:As)(a2:Int)(a3:Int):Option (Int×Bool):=((Apz K a0 a1).bind fun r1=>(bif r1 then(bif (a1.Acx==0)then some (0,false)else((Gx K a2 1 a0.G8).bind fun r2=>(bif r2 then((Ard K a3).bind fun r3=>(bif (!r3)then some (0,false)else((Axp K a1.Sq a3).bind fun r4=>(bif (decide ((An6 .i64 r4 a2)>a0.G8))then some (0,false)else some ((An6 .i64 (An8 .i64 (An7 .i64 a1.Acx 1) a0.G8) r4),true)))))else some (0,false))))else some (0,false)))
def Bqb:=ct (fd Tryz.func314 ⟨[.v 25,.v 50,.v 3,.v 3],[.v 3,.v 4],true⟩ (gC (A8y K) (gC (A1m K) (gC (Be4 K) (gC (Bwy K) gN)))) [13,14,15,18,19,20,24,25,26,27]) (Av9 K)
def Aum (K:Nat)(a0:Ea)(a1:As)(a2:Int)(a3:Int):Option (Bool):=((Av9 K a0 a1 a2 a3).bind fun r1=>(bif r1.2 then some false else((Apz K a0 a1).bind fun r2=>(bif r2 then(bif (a1.Vi==1)then((Gx K a2 1 a0.G8).bind fun r3=>(bif r3 then((Ard K a3).bind fun r4=>some r4)else some false))else some false)else some false))))
def Bwz:=ct (fd Tryz.func312 ⟨[.v 25,.v 50,.v 3,.v 3],[.v 4],true⟩ (gC (A8y K) (gC (A1m K) (gC (Be4 K) (gC (Bqb K) gN)))) [19,20,21,24,25,26,29,30,31,35,36,37]) (Aum K)
def Aty (K:Nat)(a0:Ea)(a1:As)(a2:Int)(a3:Int):Option (As×Bool):=((Anc K a1).bind fun r1=>((Av9 K a0 a1 a2 a3).bind fun r2=>(bif r2.2 then(bif (decide ((a1.F6.length:Int)≥12))then some (r1,false)else(if(r1.F6++([(Bc.mk r2.1 a2 0)]:List Bc)).length*24≤140737488355328∧(r1.F6++([(Bc.mk r2.1 a2 0)]:List Bc)).length≤maxLen then some ((As.mk r1.Vi r1.C9 r1.Sl r1.fUp r1.Sm r1.Ef r1.Sn r1.So r1.Ay r1.Acx (An6 .i64 (An7 .i64 r2.1 (An8 .i64 (An7 .i64 a1.Acx 1) a0.G8)) a2) (r1.F6++([(Bc.mk r2.1 a2 0)]:List Bc)) r1.Fi),true)else none))else some (r1,false))))
def Bqc:=ct (fd Tryz.func308 ⟨[.v 25,.v 50,.v 3,.v 3],[.n 50 false,.v 4],true⟩ (gC (A8w K) (gC (Bqb K) gN)) [23,24,25]) (Aty K)
def Ary (K:Nat)(a1:Int)(a2:Int)(a3:Int)(v7:Int)(v8:Int)(v9:Int)(v10:Int)(v11:Int)(v12:Int)(v13:List Int)(v14:List Int)(v15:List Int)(v16:List As)(v17:List Az)(v18:List Int)(v19:Et)(v20:Int)(v21:Int)(v22:Int)(v23:Int)(v24:Int)(v25:Int)(v26:Int)(v27:List Int)(v28:Int)(v29:Int)(v30:Int):Option (Et×C5):=(if(0:Int)≤a1∧a1<(v16.length:Int)then(if(0:Int)≤a1∧a1<(v16.length:Int)then((Aty K (Ea.mk v7 v8 v9 v10 v11 v12) (gt v16 a1) a2 a3).bind fun r31=>(if(0:Int)≤a1∧a1<(v16.length:Int)then some ((Et.mk v20 (An.mk v21 v22) (Br.mk (An.mk v23 v24) v25 v26) v27 v28 v29 v30),(C5.mk (Ea.mk v7 v8 v9 v10 v11 v12) (Dn.mk v13 v14 v15) (v16.set a1.toNat r31.1) v17 v18))else none))else none)else none)
def Awp (K:Nat)(a0:C5)(a1:Int)(a2:Int)(a3:Int)(a4:Et):Option (Et×C5):=(if(0:Int)≤a1∧a1<(a0.fL.length:Int)then(if(0:Int)≤a1∧a1<(a0.fL.length:Int)then((Aum K a0.fC (gt a0.fL a1) a2 a3).bind fun r1=>(bif r1 then((Aro K a0 1).bind fun r2=>(bif (!r2)then some ((Et.mk 5 a4.fH a4.fR a4.fB a4.W5 a4.Gu a4.N9),a0)else((Av8 K a0 0 1).bind fun r3=>((Avp K r3.2.fP).bind fun r4=>(bif (decide (r4<0))then some ((Et.mk 5 a4.fH a4.fR a4.fB a4.W5 a4.Gu r3.1),r3.2)else((Arc K r3.2.fP r4 1 a1).bind fun r5=>(if(0:Int)≤a1∧a1<(r3.2.fL.length:Int)then(if(0:Int)≤a1∧a1<(r3.2.fL.length:Int)then((Auf K r3.2.fC (gt r3.2.fL a1) r4).bind fun r6=>(if(0:Int)≤a1∧a1<(r3.2.fL.length:Int)then(Ary K a1 a2 a3 r3.2.fC.Ay r3.2.fC.G8 r3.2.fC.E6 r3.2.fC.Gu r3.2.fC.E7 r3.2.fC.G9 r5.N7 r5.Vi r5.N8 (r3.2.fL.set a1.toNat r6.1) r3.2.fQ r3.2.Acy (Et.mk 0 (An.mk 0 0) (Br.mk (An.mk 0 0) 0 0) [] 0 0 0) a4.W4 a4.fH.Bm a4.fH.C9 a4.fR.fH.Bm a4.fR.fH.C9 a4.fR.Sl a4.fR.fNo a4.fB a4.W5 a4.Gu r3.1)else none))else none)else none)))))))else(Ary K a1 a2 a3 a0.fC.Ay a0.fC.G8 a0.fC.E6 a0.fC.Gu a0.fC.E7 a0.fC.G9 a0.fP.N7 a0.fP.Vi a0.fP.N8 a0.fL a0.fQ a0.Acy (Et.mk 0 (An.mk 0 0) (Br.mk (An.mk 0 0) 0 0) [] 0 0 0) a4.W4 a4.fH.Bm a4.fH.C9 a4.fR.fH.Bm a4.fR.fH.C9 a4.fR.Sl a4.fR.fNo a4.fB a4.W5 a4.Gu a4.N9)))else none)else none)
def Bw0:=fd Tryz.func298 ⟨[.b 32 false,.v 3,.v 3,.v 3,.v 73],[.v 73],false⟩ (gC (Bii K) (gC (Bip K) (gC (Bp8 K) (gC (Bis K) (gC (Biz K) (gC (Bqc K) (gC (Bwz K) gN))))))) [] [3] [(1,[.take 1 9 5025,.opn 5025 (.tmp 1),.takeE 5025 11 41611,.takeE 5025 12 41612]),(2,[.take 1 6 5022,.take 1 7 5023,.take 1 8 5024,.take 1 10 5026,.take 1 11 5027,.put 5025]),(5,[.put 1]),(6,[.take 1 6 5022,.take 1 7 5023,.take 1 8 5024]),(11,[.take 1 9 5025,.opn 5025 (.tmp 1),.takeE 5025 11 41611,.takeE 5025 12 41612]),(13,[.take 1 9 5025,.opn 5025 (.tmp 1),.takeE 5025 11 41611,.takeE 5025 12 41612])]
def Bzj:Ej:=⟨[(0,.p 1),(1,.v 2),(2,.v 2),(3,.v 2),(9,.p 109),(10,.p 110)],[(1,.box [.v 2,.v 2,.v 2,.v 2,.v 2,.v 2,.T 5 true,.T 3 true,.T 3 true,.T 50 true,.T 52 false,.T 3 true]),(110,.st 73 true),(109,.box [.v 2,.v 2,.v 2,.v 2,.v 2,.v 2,.v 2,.v 22,.v 2,.v 2,.v 2])]⟩
def Brt:=jn (Bw0 K) 3 Bzj [] (Ary K) kN
def Bw1:=ct (Bw0 K) (Awp K) (kC (Brt K) kN)
def Arz (K:Nat)(a1:An)(v5:Int)(v22:Int)(v23:Int)(v24:Int)(v25:Int)(v26:Int)(v27:Int)(v28:List Int)(v29:List Int)(v30:List Int)(v31:List As)(v32:List Az)(v33:List Int)(v34:Int)(v35:Int)(v36:Int)(v37:Int)(v38:Int)(v39:Int)(v40:Int)(v41:List Int)(v42:Int)(v43:Int)(v44:Int):Option (Et×C5):=(bif (v34 != 0)then some ((Et.mk v34 (An.mk v35 v36) (Br.mk (An.mk v37 v38) v39 v40) v41 v42 v43 v44),(C5.mk (Ea.mk v22 v23 v24 v25 v26 v27) (Dn.mk v28 v29 v30) v31 v32 v33))else(if(0:Int)≤v5∧v5<(v31.length:Int)then(if(0:Int)≤v5∧v5<(v31.length:Int)then(if(0:Int)≤v5∧v5<(v31.length:Int)then((Au5 K (C5.mk (Ea.mk v22 v23 v24 v25 v26 v27) (Dn.mk v28 v29 v30) v31 v32 v33) v25).bind fun r45=>some ((Et.mk v34 (An.mk v35 v36) (Br.mk a1 ((gt v31 v5).Sl) (An7 .i64 (((gt v31 v5).F6).length:Int) 1)) v41 v42 r45.1 v44),r45.2))else none)else none)else none))
def Ap8 (K:Nat)(a1:An)(a2:Int)(a3:Int)(v5:Int)(v6:Int)(v7:Int)(v8:Int)(v9:Int)(v10:Int)(v11:Int)(v12:List Int)(v13:List Int)(v14:List Int)(v15:List As)(v16:List Az)(v17:List Int)(v18:Et)(v19:Et):Option (Et×C5):=(bif (v18.W4 != 0)then some (v18,(C5.mk (Ea.mk v6 v7 v8 v9 v10 v11) (Dn.mk v12 v13 v14) v15 v16 v17))else((Aov K (Ea.mk v6 v7 v8 v9 v10 v11) a2).bind fun r20=>(bif r20 then((Awo K (C5.mk (Ea.mk v6 v7 v8 v9 v10 v11) (Dn.mk v12 v13 v14) v15 v16 v17) v5 a2 v18).bind fun r21=>(Arz K a1 v5 r21.2.fC.Ay r21.2.fC.G8 r21.2.fC.E6 r21.2.fC.Gu r21.2.fC.E7 r21.2.fC.G9 r21.2.fP.N7 r21.2.fP.Vi r21.2.fP.N8 r21.2.fL r21.2.fQ r21.2.Acy r21.1.W4 r21.1.fH.Bm r21.1.fH.C9 r21.1.fR.fH.Bm r21.1.fR.fH.C9 r21.1.fR.Sl r21.1.fR.fNo r21.1.fB r21.1.W5 r21.1.Gu r21.1.N9))else((Awp K (C5.mk (Ea.mk v6 v7 v8 v9 v10 v11) (Dn.mk v12 v13 v14) v15 v16 v17) v5 a2 a3 v18).bind fun r46=>(Arz K a1 v5 r46.2.fC.Ay r46.2.fC.G8 r46.2.fC.E6 r46.2.fC.Gu r46.2.fC.E7 r46.2.fC.G9 r46.2.fP.N7 r46.2.fP.Vi r46.2.fP.N8 r46.2.fL r46.2.fQ r46.2.Acy r46.1.W4 r46.1.fH.Bm r46.1.fH.C9 r46.1.fR.fH.Bm r46.1.fR.fH.C9 r46.1.fR.Sl r46.1.fR.fNo r46.1.fB r46.1.W5 r46.1.Gu r46.1.N9)))))
def Awq (K:Nat)(a0:C5)(a1:An)(a2:Int)(a3:Int):Option (Et×C5):=((Gx K a2 1 200).bind fun r1=>(bif r1 then((Ard K a3).bind fun r2=>(bif (!r2)then some ((Et.mk 1 (An.mk 0 0) (Br.mk (An.mk 0 0) 0 0) [] 0 0 0),a0)else((Aiq K a0 a1).bind fun r3=>((Aog K a0 a1).bind fun r4=>(bif (r3.2==0)then(if(0:Int)≤r3.1∧r3.1<(a0.fL.length:Int)then(if(0:Int)≤r3.1∧r3.1<(a0.fL.length:Int)then(bif (decide ((((gt a0.fL r3.1).F6).length:Int)≥12))then(Ap8 K a1 a2 a3 r3.1 a0.fC.Ay a0.fC.G8 a0.fC.E6 a0.fC.Gu a0.fC.E7 a0.fC.G9 a0.fP.N7 a0.fP.Vi a0.fP.N8 a0.fL a0.fQ a0.Acy (Et.mk 8 (An.mk 0 0) (Br.mk (An.mk 0 0) 0 0) [] r4 0 0) (Et.mk 0 (An.mk 0 0) (Br.mk (An.mk 0 0) 0 0) [] 0 0 0))else(Ap8 K a1 a2 a3 r3.1 a0.fC.Ay a0.fC.G8 a0.fC.E6 a0.fC.Gu a0.fC.E7 a0.fC.G9 a0.fP.N7 a0.fP.Vi a0.fP.N8 a0.fL a0.fQ a0.Acy (Et.mk r3.2 (An.mk 0 0) (Br.mk (An.mk 0 0) 0 0) [] r4 0 0) (Et.mk 0 (An.mk 0 0) (Br.mk (An.mk 0 0) 0 0) [] 0 0 0)))else none)else none)else(Ap8 K a1 a2 a3 r3.1 a0.fC.Ay a0.fC.G8 a0.fC.E6 a0.fC.Gu a0.fC.E7 a0.fC.G9 a0.fP.N7 a0.fP.Vi a0.fP.N8 a0.fL a0.fQ a0.Acy (Et.mk r3.2 (An.mk 0 0) (Br.mk (An.mk 0 0) 0 0) [] r4 0 0) (Et.mk 0 (An.mk 0 0) (Br.mk (An.mk 0 0) 0 0) [] 0 0 0)))))))else some ((Et.mk 1 (An.mk 0 0) (Br.mk (An.mk 0 0) 0 0) [] 0 0 0),a0)))
def Bru:=fd Tryz.func264 ⟨[.b 32 false,.v 36,.v 3,.v 3],[.v 73],false⟩ (gC (A1m K) (gC (A7b K) (gC (A7c K) (gC (Biv K) (gC (Bi0 K) (gC (Be4 K) (gC (Bwx K) (gC (Bw1 K) gN)))))))) [13,14,15,37,38] [31,127] [(3,[.take 1 6 5022,.take 1 7 5023,.take 1 8 5024,.take 1 9 5025,.take 1 10 5026,.take 1 11 5027]),(8,[.take 111 7 6783]),(10,[.take 111 7 6783,.frz 6783]),(11,[.take 111 7 6783,.frz 6783]),(14,[.take 1 9 5025,.opn 5025 (.tmp 9),.takeE 5025 11 41611]),(15,[.put 1])] [(43,[.opn 5025 (.tmp 43)]),(45,[.takeE 5025 11 41611])]
def Bzk:Ej:=⟨[(0,.p 1),(5,.p 105),(8,.p 108),(9,.v 2),(11,.p 111)],[(1,.box [.v 2,.v 2,.v 2,.v 2,.v 2,.v 2,.T 5 true,.T 3 true,.T 3 true,.T 50 true,.T 52 false,.T 3 true]),(111,.box [.v 2,.v 2,.v 2,.v 2,.v 2,.v 2,.v 2,.v 22,.v 2,.v 2,.v 2]),(108,.st 73 true),(105,.st 36 true)]⟩
def Bzl:Ej:=⟨[(0,.p 1),(2,.v 2),(3,.v 2),(5,.p 105),(8,.p 108),(9,.v 2),(11,.p 111)],[(1,.box [.v 2,.v 2,.v 2,.v 2,.v 2,.v 2,.T 5 true,.T 3 true,.T 3 true,.T 50 true,.T 52 false,.T 3 true]),(111,.st 73 true),(108,.st 73 true),(105,.st 36 true)]⟩
def Bi3:=jn (Bru K) 127 Bzk [] (fun a b c d e f g h i j k l m o p q r s t u v w x y _ a1=>Arz K a1 a b c d e f g h i j k l m o p q r s t u v w x y) kN
def Bn5:=jn (Bru K) 31 Bzl [] (fun a b c d e f g h i j k l m o p q r s=>Ap8 K s a b c d e f g h i j k l m o p q r) (kC (Bi3 K) kN)
def Bw2:=ct (Bru K) (Awq K) (kC (Bn5 K) kN)
def Axq (K:Nat)(a0:As):Option (As):=((Anc K a0).bind fun r1=>some (As.mk r1.Vi r1.C9 (An6 .i64 a0.Sl 1) r1.fUp r1.Sm 0 r1.Sn r1.So ([]:List Int) 0 0 ([]:List Bc) ([]:List Int)))
def Bw3:=ct (fd Tryz.func164 ⟨[.v 50],[.n 50 false],true⟩ (gC (A8w K) gN)) (Axq K)
def Aun (K:Nat)(a0:C5)(a1:Int):Option (C5):=(if(0:Int)≤a1∧a1<(a0.fL.length:Int)then(if(0:Int)≤a1∧a1<(a0.fL.length:Int)then((Asr K (gt a0.fL a1) 0).bind fun r1=>(if(0:Int)≤a1∧a1<(a0.fL.length:Int)then((Aqy K a0 ((gt a0.fL a1).Ay)).bind fun r2=>(if(0:Int)≤a1∧a1<(r2.fL.length:Int)then(if(0:Int)≤a1∧a1<(r2.fL.length:Int)then((Axq K (gt r2.fL a1)).bind fun r3=>(if(0:Int)≤a1∧a1<(r2.fL.length:Int)then(if(r2.fQ++([r1]:List Az)).length*72≤140737488355328∧(r2.fQ++([r1]:List Az)).length≤maxLen then some (C5.mk r2.fC r2.fP (r2.fL.set a1.toNat r3) (r2.fQ++([r1]:List Az)) r2.Acy)else none)else none))else none)else none))else none))else none)else none)
def Bw4:=ct (fd Tryz.func84 ⟨[.b 32 false,.v 3],[],false⟩ (gC (Bin K) (gC (Bim K) (gC (Bw3 K) gN))) [] [] [(0,[.take 1 9 5025,.opn 5025 (.tmp 1),.takeE 5025 11 41611,.takeE 5025 12 41612]),(1,[.put 1,.take 1 9 5025]),(2,[.take 1 9 5025,.opn 5025 (.tmp 1),.takeE 5025 11 41611,.takeE 5025 12 41612]),(3,[.take 1 10 5026,.frz 20384,.frz 20385])] [(21,[.put 1])]) (Aun K)
def Atz (K:Nat)(a1:Int)(v21:List As):Option ((List As)):=(if(0:Int)≤a1∧a1<(v21.length:Int)then(Aqk (v21.set a1.toNat (As.mk ((gt v21 a1).Vi) ((gt v21 a1).C9) ((gt v21 a1).Sl) 0 ((gt v21 a1).Sm) ((gt v21 a1).Ef) ((gt v21 a1).Sn) ((gt v21 a1).So) ((gt v21 a1).Ay) ((gt v21 a1).Acx) ((gt v21 a1).Sq) ((gt v21 a1).F6) ((gt v21 a1).Fi))) fun v22=>(if(0:Int)≤a1∧a1<(v22.length:Int)then(Aqk (v22.set a1.toNat (As.mk ((gt v22 a1).Vi) ((gt v22 a1).C9) ((gt v22 a1).Sl) ((gt v22 a1).fUp) 0 ((gt v22 a1).Ef) ((gt v22 a1).Sn) ((gt v22 a1).So) ((gt v22 a1).Ay) ((gt v22 a1).Acx) ((gt v22 a1).Sq) ((gt v22 a1).F6) ((gt v22 a1).Fi))) fun v23=>(if(0:Int)≤a1∧a1<(v23.length:Int)then(Aqk (v23.set a1.toNat (As.mk ((gt v23 a1).Vi) ((gt v23 a1).C9) ((gt v23 a1).Sl) ((gt v23 a1).fUp) ((gt v23 a1).Sm) ((gt v23 a1).Ef) 0 ((gt v23 a1).So) ((gt v23 a1).Ay) ((gt v23 a1).Acx) ((gt v23 a1).Sq) ((gt v23 a1).F6) ((gt v23 a1).Fi))) fun v24=>(if(0:Int)≤a1∧a1<(v24.length:Int)then(Aqk (v24.set a1.toNat (As.mk ((gt v24 a1).Vi) ((gt v24 a1).C9) ((gt v24 a1).Sl) ((gt v24 a1).fUp) ((gt v24 a1).Sm) ((gt v24 a1).Ef) ((gt v24 a1).Sn) 0 ((gt v24 a1).Ay) ((gt v24 a1).Acx) ((gt v24 a1).Sq) ((gt v24 a1).F6) ((gt v24 a1).Fi))) fun v25=>some v25)else none))else none))else none))else none)
def Ars (K:Nat)(a0:List As)(a1:Int)(v5:List As)(v6:Int)(v7:Int)(v8:Int)(v9:Int)(v10:Int)(v11:Int)(v12:Int)(v13:Int)(v14:List Int)(v15:Int)(v16:Int)(v17:List Bc)(v18:List Int):Option ((List As)):=((Ad7 K a0 v12).bind fun r19=>(bif r19 then(if(0:Int)≤(An7 .i64 v12 1)∧(An7 .i64 v12 1)<(v5.length:Int)then(Aqk (v5.set (An7 .i64 v12 1).toNat (As.mk ((gt v5 (An7 .i64 v12 1)).Vi) ((gt v5 (An7 .i64 v12 1)).C9) ((gt v5 (An7 .i64 v12 1)).Sl) ((gt v5 (An7 .i64 v12 1)).fUp) ((gt v5 (An7 .i64 v12 1)).Sm) ((gt v5 (An7 .i64 v12 1)).Ef) ((gt v5 (An7 .i64 v12 1)).Sn) v13 ((gt v5 (An7 .i64 v12 1)).Ay) ((gt v5 (An7 .i64 v12 1)).Acx) ((gt v5 (An7 .i64 v12 1)).Sq) ((gt v5 (An7 .i64 v12 1)).F6) ((gt v5 (An7 .i64 v12 1)).Fi))) fun v20=>(Atz K a1 v20))else none)else(Atz K a1 v5)))
def Aqf (K:Nat)(a0:List As)(a1:Int)(r1:(List As))(v27:Bool)(v28:Int)(v29:Int)(v30:Int)(v31:Int)(v32:Int)(v33:Int)(v34:Int)(v35:Int)(v36:List Int)(v37:Int)(v38:Int)(v39:List Bc)(v40:List Int):Option ((List As)):=(bif v27 then(if(0:Int)≤(An7 .i64 v31 1)∧(An7 .i64 v31 1)<(r1.length:Int)then(Aqk (r1.set (An7 .i64 v31 1).toNat (As.mk ((gt r1 (An7 .i64 v31 1)).Vi) ((gt r1 (An7 .i64 v31 1)).C9) ((gt r1 (An7 .i64 v31 1)).Sl) ((gt r1 (An7 .i64 v31 1)).fUp) ((gt r1 (An7 .i64 v31 1)).Sm) v34 ((gt r1 (An7 .i64 v31 1)).Sn) ((gt r1 (An7 .i64 v31 1)).So) ((gt r1 (An7 .i64 v31 1)).Ay) ((gt r1 (An7 .i64 v31 1)).Acx) ((gt r1 (An7 .i64 v31 1)).Sq) ((gt r1 (An7 .i64 v31 1)).F6) ((gt r1 (An7 .i64 v31 1)).Fi))) fun v41=>(Ars K a0 a1 v41 v28 v29 v30 v31 v32 v33 v34 v35 v36 v37 v38 v39 v40))else none)else(Ars K a0 a1 r1 v28 v29 v30 v31 v32 v33 v34 v35 v36 v37 v38 v39 v40))
def Ay0 (K:Nat)(a0:List As)(a1:Int):Option ((List As)):=((Ato K a0).bind fun r1=>((Ad7 K a0 (An6 .i64 a1 1)).bind fun r2=>(bif (!r2)then some r1 else(if(0:Int)≤a1∧a1<(a0.length:Int)then((Ad7 K a0 ((gt a0 a1).So)).bind fun r3=>(bif r3 then(if(0:Int)≤(An7 .i64 ((gt a0 a1).So) 1)∧(An7 .i64 ((gt a0 a1).So) 1)<(r1.length:Int)then(Aqk (r1.set (An7 .i64 ((gt a0 a1).So) 1).toNat (As.mk ((gt r1 (An7 .i64 ((gt a0 a1).So) 1)).Vi) ((gt r1 (An7 .i64 ((gt a0 a1).So) 1)).C9) ((gt r1 (An7 .i64 ((gt a0 a1).So) 1)).Sl) ((gt r1 (An7 .i64 ((gt a0 a1).So) 1)).fUp) ((gt r1 (An7 .i64 ((gt a0 a1).So) 1)).Sm) ((gt r1 (An7 .i64 ((gt a0 a1).So) 1)).Ef) ((gt a0 a1).Sn) ((gt r1 (An7 .i64 ((gt a0 a1).So) 1)).So) ((gt r1 (An7 .i64 ((gt a0 a1).So) 1)).Ay) ((gt r1 (An7 .i64 ((gt a0 a1).So) 1)).Acx) ((gt r1 (An7 .i64 ((gt a0 a1).So) 1)).Sq) ((gt r1 (An7 .i64 ((gt a0 a1).So) 1)).F6) ((gt r1 (An7 .i64 ((gt a0 a1).So) 1)).Fi))) fun v4=>(Ars K a0 a1 v4 ((gt a0 a1).Vi) ((gt a0 a1).C9) ((gt a0 a1).Sl) ((gt a0 a1).fUp) ((gt a0 a1).Sm) ((gt a0 a1).Ef) ((gt a0 a1).Sn) ((gt a0 a1).So) ((gt a0 a1).Ay) ((gt a0 a1).Acx) ((gt a0 a1).Sq) ((gt a0 a1).F6) ((gt a0 a1).Fi)))else none)else(bif (((gt a0 a1).So)==0)then((Ad7 K a0 ((gt a0 a1).fUp)).bind fun r26=>(bif r26 then(if(0:Int)≤(An7 .i64 ((gt a0 a1).fUp) 1)∧(An7 .i64 ((gt a0 a1).fUp) 1)<(a0.length:Int)then(Aqf K a0 a1 r1 (((gt a0 (An7 .i64 ((gt a0 a1).fUp) 1)).Ef)==(An6 .i64 a1 1)) ((gt a0 a1).Vi) ((gt a0 a1).C9) ((gt a0 a1).Sl) ((gt a0 a1).fUp) ((gt a0 a1).Sm) ((gt a0 a1).Ef) ((gt a0 a1).Sn) ((gt a0 a1).So) ((gt a0 a1).Ay) ((gt a0 a1).Acx) ((gt a0 a1).Sq) ((gt a0 a1).F6) ((gt a0 a1).Fi))else none)else(Aqf K a0 a1 r1 false ((gt a0 a1).Vi) ((gt a0 a1).C9) ((gt a0 a1).Sl) ((gt a0 a1).fUp) ((gt a0 a1).Sm) ((gt a0 a1).Ef) ((gt a0 a1).Sn) ((gt a0 a1).So) ((gt a0 a1).Ay) ((gt a0 a1).Acx) ((gt a0 a1).Sq) ((gt a0 a1).F6) ((gt a0 a1).Fi))))else(Aqf K a0 a1 r1 false ((gt a0 a1).Vi) ((gt a0 a1).C9) ((gt a0 a1).Sl) ((gt a0 a1).fUp) ((gt a0 a1).Sm) ((gt a0 a1).Ef) ((gt a0 a1).Sn) ((gt a0 a1).So) ((gt a0 a1).Ay) ((gt a0 a1).Acx) ((gt a0 a1).Sq) ((gt a0 a1).F6) ((gt a0 a1).Fi)))))else none))))
def Bn6:=fd Tryz.func162 ⟨[.v 29,.v 3],[.n 29 true],false⟩ (gC (Be2 K) (gC (A54 K) gN)) [35,36,40,41,42] [31,63,499]
def Bzm:Ej:=⟨[(1,.v 2),(5,.o 1005 50 true)],[]⟩
def Bzn:Ej:=⟨[(0,.v 29),(1,.v 2),(5,.o 1005 50 true),(6,.p 106)],[(106,.box [.v 2,.v 2,.v 2,.v 2,.v 2,.v 2,.v 2,.v 2,.v 26,.v 2,.v 2,.v 48,.v 26])]⟩
def Bzo:Ej:=⟨[(0,.v 29),(1,.v 2),(5,.o 1005 50 true),(6,.p 106),(32,.v 4)],[(106,.box [.v 2,.v 2,.v 2,.v 2,.v 2,.v 2,.v 2,.v 2,.v 26,.v 2,.v 2,.v 48,.v 26])]⟩
def Bn7:=jn (Bn6 K) 63 Bzm [] (Atz K) kN
def Be5:=jn (Bn6 K) 31 Bzn [] (Ars K) (kC (Bn7 K) kN)
def Bi4:=jn (Bn6 K) 499 Bzo [] (Aqf K) (kC (Be5 K) kN)
def Bw5:=ct (Bn6 K) (Ay0 K) (kC (Be5 K) (kC (Bi4 K) kN))
def Awr (K:Nat)(a0:C5)(a1:Int):Option (C5):=(if(0:Int)≤a1∧a1<(a0.fL.length:Int)then(if(0:Int)≤a1∧a1<(a0.fL.length:Int)then((Asr K (gt a0.fL a1) (An6 .i64 a1 1)).bind fun r1=>(if(0:Int)≤a1∧a1<(a0.fL.length:Int)then((Aqy K a0 ((gt a0.fL a1).Ay)).bind fun r2=>((Ay0 K r2.fL a1).bind fun r3=>(if(0:Int)≤a1∧a1<(r3.length:Int)then(if(0:Int)≤a1∧a1<(r3.length:Int)then((Aze K (gt r3 a1)).bind fun r4=>(if(0:Int)≤a1∧a1<(r3.length:Int)then(if(r2.fQ++([r1]:List Az)).length*72≤140737488355328∧(r2.fQ++([r1]:List Az)).length≤maxLen then some (C5.mk r2.fC r2.fP (r3.set a1.toNat r4) (r2.fQ++([r1]:List Az)) r2.Acy)else none)else none))else none)else none)))else none))else none)else none)
def Bw6:=ct (fd Tryz.func82 ⟨[.b 32 false,.v 3],[],false⟩ (gC (Bin K) (gC (Bim K) (gC (Bw5 K) (gC (Bp6 K) gN)))) [] [] [(0,[.take 1 9 5025,.opn 5025 (.tmp 1),.takeE 5025 11 41611,.takeE 5025 12 41612]),(1,[.put 1,.take 1 9 5025]),(2,[.take 1 9 5025,.frz 5025]),(3,[.opn 3031 (.tmp 1),.takeE 3031 11 41995,.takeE 3031 12 41996]),(4,[.take 1 10 5026,.frz 20448,.frz 20449])] [(23,[.put 1])]) (Awr K)
def Axr (K:Nat)(a0:Az):Option (Az):=(if(([]:List Int)++a0.Fi).length*8≤140737488355328∧(([]:List Int)++a0.Fi).length≤maxLen then(if(([]:List Int)++a0.Ay).length*8≤140737488355328∧(([]:List Int)++a0.Ay).length≤maxLen then some (Az.mk a0.Bm a0.Ef (([]:List Int)++a0.Fi) (([]:List Int)++a0.Ay) a0.Wz)else none)else none)
def Bw7:=ct (fd Tryz.func159 ⟨[.v 52],[.n 52 true],true⟩ gN) (Axr K)
def Apu (K:Nat):Nat->Int->Int->Int->Int->Int->Int->Int->(List Int)->(List Int)->(List Int)->(List As)->(List Az)->(List Int)->C5->Int->Int->Int->Int->Int->Int->(List Int)->(List Int)->(List Int)->(List As)->(List Az)->(List Int)->Option (C5)
 |0,_,_,_,_,_,_,_,_,_,_,_,_,_,_,_,_,_,_,_,_,_,_,_,_,_,_=>none
 |n1+1,v3,v4,v5,v6,v7,v8,v9,v10,v11,v12,v13,v14,v15,v16,v17,v18,v19,v20,v21,v22,v23,v24,v25,v26,v27,v28=>(bif (decide (v3<(v27.length:Int)))then(if(0:Int)≤v3∧v3<(v27.length:Int)then((Axr K (gt v27 v3)).bind fun r29=>(if(v14++[r29]).length*72≤140737488355328∧(v14++[r29]).length≤maxLen then(Apu K n1 (An6 .i64 v3 1) v4 v5 v6 v7 v8 v9 v10 v11 v12 v13 (v14++[r29]) v15 v16 v17 v18 v19 v20 v21 v22 v23 v24 v25 v26 v27 v28)else none))else none)else(if(([]:List Int)++v28).length*8≤140737488355328∧(([]:List Int)++v28).length≤maxLen then some (C5.mk (Ea.mk v4 v5 v6 v7 v8 v9) (Dn.mk v10 v11 v12) v13 v14 (([]:List Int)++v28))else none))
def Ap1 (K:Nat)(a0:C5):Option (C5):=((Aqx K a0.fP).bind fun r1=>((Ato K a0.fL).bind fun r2=>(Apu K K 0 a0.fC.Ay a0.fC.G8 a0.fC.E6 a0.fC.Gu a0.fC.E7 a0.fC.G9 r1.N7 r1.Vi r1.N8 r2 ([]:List Az) a0.Acy (C5.mk (Ea.mk 0 0 0 0 0 0) (Dn.mk [] [] []) [] [] []) a0.fC.Ay a0.fC.G8 a0.fC.E6 a0.fC.Gu a0.fC.E7 a0.fC.G9 a0.fP.N7 a0.fP.Vi a0.fP.N8 a0.fL a0.fQ a0.Acy)))
def Bw8:=fd Tryz.func80 ⟨[.v 32],[.n 32 true],false⟩ (gC (Be0 K) (gC (Be2 K) (gC (Bw7 K) gN))) [] [] [(9,[.take 103 10 6658]),(11,[.take 103 6 6654,.take 103 7 6655,.take 103 8 6656,.take 103 9 6657,.take 103 10 6658])] [(33,[.put 3033])]
def Bzp:Ej:=⟨[(1,.p 101),(2,.p 102),(3,.p 103),(4,.v 2)],[(103,.box [.v 2,.v 2,.v 2,.v 2,.v 2,.v 2,.T 5 true,.T 3 true,.T 3 true,.T 50 true,.T 52 true,.v 26]),(102,.st 32 true),(101,.box [.v 2,.v 2,.v 2,.v 2,.v 2,.v 2,.v 22,.v 26,.v 26,.v 29,.v 30,.v 26])]⟩
def Bi5:=lp (Bw8 K) 506 Bzp [] (Apu K) (fun n=>kN)
def Bba:=ct (Bw8 K) (Ap1 K) (kC (Bi5 K K) kN)
def Ap0 (K:Nat)(a0:List As)(a1:Int):Option (Bool):=(bif (a1==0)then some true else((Ad7 K a0 a1).bind fun r1=>(bif r1 then(if(0:Int)≤(An7 .i64 a1 1)∧(An7 .i64 a1 1)<(a0.length:Int)then some (((gt a0 (An7 .i64 a1 1)).Vi)==1)else none)else some false)))
def Bw9:=ct (fd Tryz.func256 ⟨[.v 29,.v 3],[.v 4],true⟩ (gC (A54 K) gN) [6,7,10,11]) (Ap0 K)
def Asz (K:Nat)(a0:List As)(a1:Int):Option (Bool):=((Auy K a0 a1).bind fun r19=>(bif (decide ((r19.length:Int)≤4))then(if(0:Int)≤(An7 .i64 (r19.length:Int) 1)∧(An7 .i64 (r19.length:Int) 1)<(r19.length:Int)then((Arw K a0 (gt r19 (An7 .i64 (r19.length:Int) 1))).bind fun r20=>some (!r20))else none)else some false))
def Au6 (K:Nat)(a0:List As)(a1:Int)(v8:Int)(v12:Int):Option (Bool):=(bif (v12==0)then((Arw K a0 a1).bind fun r18=>(bif r18 then(if(0:Int)≤(An7 .i64 v8 1)∧(An7 .i64 v8 1)<(a0.length:Int)then(bif (((gt a0 (An7 .i64 v8 1)).Ef) != (An6 .i64 a1 1))then some false else(Asz K a0 a1))else none)else(Asz K a0 a1)))else(Asz K a0 a1))
def Au7 (K:Nat)(a0:List As)(a1:Int)(v8:Int)(v12:Int):Option (Bool):=(bif (v12 != 0)then(if(0:Int)≤(An7 .i64 v12 1)∧(An7 .i64 v12 1)<(a0.length:Int)then(bif (((gt a0 (An7 .i64 v12 1)).Sn) != (An6 .i64 a1 1))then some false else(Au6 K a0 a1 v8 v12))else none)else(Au6 K a0 a1 v8 v12))
def Au8 (K:Nat)(a0:List As)(a1:Int)(v8:Int)(v9:Int)(v11:Int)(v12:Int):Option (Bool):=(bif (v11 != 0)then(if(0:Int)≤(An7 .i64 v11 1)∧(An7 .i64 v11 1)<(a0.length:Int)then(bif (((gt a0 (An7 .i64 v11 1)).So) != (An6 .i64 a1 1))then some false else(bif (((gt a0 (An7 .i64 v11 1)).fUp) != v8)then some false else(bif (((gt a0 (An7 .i64 v11 1)).Sm) != v9)then some false else(Au7 K a0 a1 v8 v12))))else none)else(Au7 K a0 a1 v8 v12))
def Au9 (K:Nat)(a0:List As)(a1:Int)(v5:Int)(v6:Int)(v7:Int)(v8:Int)(v9:Int)(v10:Int)(v11:Int)(v12:Int)(v13:List Int)(v14:Int)(v15:Int)(v16:List Bc)(v17:List Int):Option (Bool):=(bif (v10 != 0)then(if(0:Int)≤(An7 .i64 v10 1)∧(An7 .i64 v10 1)<(a0.length:Int)then(bif (((gt a0 (An7 .i64 v10 1)).So) != 0)then some false else(bif (((gt a0 (An7 .i64 v10 1)).fUp) != (An6 .i64 a1 1))then some false else(bif (((gt a0 (An7 .i64 v10 1)).Sm) != v7)then some false else(Au8 K a0 a1 v8 v9 v11 v12))))else none)else(Au8 K a0 a1 v8 v9 v11 v12))
def Azz (K:Nat)(a0:List As)(a1:Int):Option (Bool):=(if(0:Int)≤a1∧a1<(a0.length:Int)then(bif (((gt a0 a1).fUp) != 0)then((Ad7 K a0 ((gt a0 a1).fUp)).bind fun r1=>(bif r1 then((Ap0 K a0 ((gt a0 a1).Ef)).bind fun r2=>(bif r2 then((Ap0 K a0 ((gt a0 a1).Sn)).bind fun r3=>(bif r3 then((Ap0 K a0 ((gt a0 a1).So)).bind fun r4=>(bif (!r4)then some false else(Au9 K a0 a1 ((gt a0 a1).Vi) ((gt a0 a1).C9) ((gt a0 a1).Sl) ((gt a0 a1).fUp) ((gt a0 a1).Sm) ((gt a0 a1).Ef) ((gt a0 a1).Sn) ((gt a0 a1).So) ((gt a0 a1).Ay) ((gt a0 a1).Acx) ((gt a0 a1).Sq) ((gt a0 a1).F6) ((gt a0 a1).Fi))))else some false))else some false))else some false))else((Ap0 K a0 ((gt a0 a1).Ef)).bind fun r21=>(bif r21 then((Ap0 K a0 ((gt a0 a1).Sn)).bind fun r22=>(bif r22 then((Ap0 K a0 ((gt a0 a1).So)).bind fun r23=>(bif (!r23)then some false else(Au9 K a0 a1 ((gt a0 a1).Vi) ((gt a0 a1).C9) ((gt a0 a1).Sl) ((gt a0 a1).fUp) ((gt a0 a1).Sm) ((gt a0 a1).Ef) ((gt a0 a1).Sn) ((gt a0 a1).So) ((gt a0 a1).Ay) ((gt a0 a1).Acx) ((gt a0 a1).Sq) ((gt a0 a1).F6) ((gt a0 a1).Fi))))else some false))else some false)))else none)
def Bf6:=fd Tryz.func193 ⟨[.v 29,.v 3],[.v 4],true⟩ (gC (Bey K) (gC (Bh8 K) (gC (A54 K) (gC (Bw9 K) gN)))) [15,16,20,21,22,23,27,28,29,30,34,35,36,37,55,56,61,62,63,83,84,89,90,91,100,101,115,116,119,120,121,138,139] [7,15,31,63,127]
def Bzq:Ej:=⟨[(0,.v 29),(1,.v 2)],[]⟩
def Bbb:Ej:=⟨[(0,.v 29),(1,.v 2),(5,.p 105)],[(105,.box [.v 2,.v 2,.v 2,.v 2,.v 2,.v 2,.v 2,.v 2,.v 26,.v 2,.v 2,.v 48,.v 26])]⟩
def Bi6:=jn (Bf6 K) 127 Bzq [] (Asz K) kN
def Bn8:=jn (Bf6 K) 63 Bbb [] (fun a b _ _ _ f _ _ _ j _ _ _ _ _=>Au6 K a b f j) (kC (Bi6 K) kN)
def Bn9:=jn (Bf6 K) 31 Bbb [] (fun a b _ _ _ f _ _ _ j _ _ _ _ _=>Au7 K a b f j) (kC (Bn8 K) kN)
def Boa:=jn (Bf6 K) 15 Bbb [] (fun a b _ _ _ f g _ i j _ _ _ _ _=>Au8 K a b f g i j) (kC (Bn9 K) kN)
def Brv:=jn (Bf6 K) 7 Bbb [] (Au9 K) (kC (Boa K) kN)
def Bxa:=ct (Bf6 K) (Azz K) (kC (Brv K) kN)
def Aws (K:Nat)(v1:Int)(C1:Int->Option (Bool)):Option (Bool):=(C1 (An6 .i64 v1 1))
def Apj (K:Nat)(a0:List As):Nat->Int->Option (Bool)
 |0,_=>none
 |n1+1,v1=>(bif (decide (v1<(a0.length:Int)))then(if(0:Int)≤v1∧v1<(a0.length:Int)then(bif (((gt a0 v1).Vi)==1)then((Azz K a0 v1).bind fun r2=>(bif (!r2)then some false else(Aws K v1 (Apj K a0 n1))))else(Aws K v1 (Apj K a0 n1)))else none)else some true)
def Ay1 (K:Nat)(a0:List As):Option (Bool):=(Apj K a0 K 0)
def Brw:=fd Tryz.func99 ⟨[.v 29],[.v 4],true⟩ (gC (Bxa K) gN) [15,16] [105]
def Bi7:=fun(C26:CT Biq _)=>jn (Brw K) 105 Biq [(26,ar Biq C26)] (fun a b=>Aws K b (C26 a)) kN
def Bob:=lp (Brw K) 26 Biq [] (fun n a=>Apj K a n) (fun n=>(kC (Bi7 K _) kN))
def Bxb:=ct (Brw K) (Ay1 K) (kC (Bob K K) kN)
def Avq (K:Nat)(v2:Int)(v3:List Int)(v4:List Int)(v5:List Int)(C1:Int->Int->(List Int)->(List Int)->(List Int)->Option (Int))(v6:Int):Option (Int):=(C1 v6 (An6 .i64 v2 1) v3 v4 v5)
def Anr (K:Nat)(a1:Int):Nat->Int->Int->(List Int)->(List Int)->(List Int)->Option (Int)
 |0,_,_,_,_,_=>none
 |n1+1,v1,v2,v3,v4,v5=>(bif (decide (v2<(v4.length:Int)))then(if(0:Int)≤v2∧v2<(v4.length:Int)then(bif ((gt v4 v2)==a1)then(Avq K v2 v3 v4 v5 (Anr K a1 n1) (An6 .i64 v1 1))else(Avq K v2 v3 v4 v5 (Anr K a1 n1) v1))else none)else some v1)
def Axs (K:Nat)(a0:Dn)(a1:Int):Option (Int):=(Anr K a1 K 0 0 a0.N7 a0.Vi a0.N8)
def Brx:=fd Tryz.func201 ⟨[.v 28,.v 3],[.v 3],true⟩ gN [] [233]
def Boc:Ej:=⟨[(1,.v 2),(2,.p 102),(5,.v 2),(6,.v 2)],[(102,.box [.v 22,.v 26,.v 26])]⟩
def Bi8:=fun(C58:CT Boc _)=>jn Brx 233 Boc [(58,ar Boc C58)] (fun a b c d e f=>Avq K c d e f (C58 a) b) kN
def Bod:=lp Brx 58 Boc [] (fun n a=>Anr K a n) (fun n=>(kC (Bi8 K _) kN))
def Bxc:=ct Brx (Axs K) (kC (Bod K K) kN)
def As0 (K:Nat)(a0:List As)(a1:Int):Option (Bool):=(if(0:Int)≤a1∧a1<(a0.length:Int)then(bif (((gt a0 a1).Vi)==1)then(if(0:Int)≤a1∧a1<(a0.length:Int)then(bif (((gt a0 a1).fUp) != 0)then((Arw K a0 a1).bind fun r1=>some (!r1))else some false)else none)else some false)else none)
def Bqd:=ct (fd Tryz.func200 ⟨[.v 29,.v 3],[.v 4],true⟩ (gC (Bh8 K) gN) [10,11,17,18,19]) (As0 K)
def At0 (K:Nat)(a0:List As):Nat->Int->(List Int)->Option ((List Int))
 |0,_,_=>none
 |n1+1,v1,v2=>((Ad7 K a0 v1).bind fun r3=>(bif r3 then(bif (decide ((v2.length:Int)<(a0.length:Int)))then(if(v2++([(An7 .i64 v1 1)]:List Int)).length*8≤140737488355328∧(v2++([(An7 .i64 v1 1)]:List Int)).length≤maxLen then(if(0:Int)≤(An7 .i64 v1 1)∧(An7 .i64 v1 1)<(a0.length:Int)then(At0 K a0 n1 ((gt a0 (An7 .i64 v1 1)).Sn) (v2++([(An7 .i64 v1 1)]:List Int)))else none)else none)else some v2)else some v2))
def Awa (K:Nat)(a0:List As)(a1:Int):Option ((List Int)):=(At0 K a0 K a1 ([]:List Int))
def Bxd:=fd Tryz.func199 ⟨[.v 29,.v 3],[.n 26 true],true⟩ (gC (A54 K) gN) [9,10]
def Boe:=lp (Bxd K) 28 h_4 [] (fun n a=>At0 K a n) (fun n=>kN)
def Bqe:=ct (Bxd K) (Awa K) (kC (Boe K K) kN)
def Ank (K:Nat)(v4:Int)(v15:List Az)(v20:List Int)(v21:Int)(C3:(List Int)->Int->Option (Bool)):Nat->Int->Option (Bool)
 |0,_=>none
 |n5+1,v22=>(if(0:Int)≤v4∧v4<(v15.length:Int)then(bif (decide (v22<(((gt v15 v4).Ay).length:Int)))then(if(0:Int)≤v21∧v21<(v15.length:Int)then(if(0:Int)≤v4∧v4<(v15.length:Int)then(if(0:Int)≤v22∧v22<(((gt v15 v4).Ay).length:Int)then((Aot K ((gt v15 v21).Ay) (gt ((gt v15 v4).Ay) v22)).bind fun r23=>(bif r23 then some false else(Ank K v4 v15 v20 v21 C3 n5 (An6 .i64 v22 1))))else none)else none)else none)else(C3 v20 (An6 .i64 v21 1)))else none)
def Are (K:Nat)(v4:Int)(v15:List Az)(v20:List Int)(v21:Int)(C3:(List Int)->Int->Option (Bool)):Option (Bool):=(Ank K v4 v15 v20 v21 (C3) K 0)
def Akz (K:Nat)(v4:Int)(v5:Int)(v6:Int)(v7:Int)(v8:Int)(v9:Int)(v10:Int)(v11:List Int)(v12:List Int)(v13:List Int)(v14:List As)(v15:List Az)(v16:List Int)(v17:Int)(v18:Int)(C1:Int->Int->(List Int)->Int->Int->Int->Int->Int->Int->Int->(List Int)->(List Int)->(List Int)->(List As)->(List Az)->(List Int)->Option (Bool)):Nat->(List Int)->Int->Option (Bool)
 |0,_,_=>none
 |n3+1,v20,v21=>(bif (decide (v21<v4))then(if(0:Int)≤v4∧v4<(v15.length:Int)then(bif (((gt v15 v4).Bm) != 0)then(if(0:Int)≤v21∧v21<(v15.length:Int)then(if(0:Int)≤v4∧v4<(v15.length:Int)then(bif (((gt v15 v21).Bm)==((gt v15 v4).Bm))then some false else(Are K v4 v15 v20 v21 (Akz K v4 v5 v6 v7 v8 v9 v10 v11 v12 v13 v14 v15 v16 v17 v18 C1 n3)))else none)else none)else(Are K v4 v15 v20 v21 (Akz K v4 v5 v6 v7 v8 v9 v10 v11 v12 v13 v14 v15 v16 v17 v18 C1 n3)))else none)else(C1 v17 v18 v20 (An6 .i64 v4 1) v5 v6 v7 v8 v9 v10 v11 v12 v13 v14 v15 v16))
def Arf (K:Nat)(v3:List Int)(v4:Int)(v5:Int)(v6:Int)(v7:Int)(v8:Int)(v9:Int)(v10:Int)(v11:List Int)(v12:List Int)(v13:List Int)(v14:List As)(v15:List Az)(v16:List Int)(C1:Int->Int->(List Int)->Int->Int->Int->Int->Int->Int->Int->(List Int)->(List Int)->(List Int)->(List As)->(List Az)->(List Int)->Option (Bool))(v17:Int)(v18:Int):Option (Bool):=(if(0:Int)≤v4∧v4<(v15.length:Int)then((Awa K v14 ((gt v15 v4).Ef)).bind fun r19=>(if(v3++r19).length*8≤140737488355328∧(v3++r19).length≤maxLen then(Akz K v4 v5 v6 v7 v8 v9 v10 v11 v12 v13 v14 v15 v16 v17 v18 (C1) K (v3++r19) 0)else none))else none)
def Atp (K:Nat)(v25:Int)(C6:Int->Int->Option (Bool))(v27:Int):Option (Bool):=(C6 v27 (An6 .i64 v25 1))
def Ak0 (K:Nat)(v1:Int)(v2:Int)(v3:List Int)(v11:List Int)(v12:List Int)(v13:List Int)(v14:List As)(v24:Int):Nat->Int->Option (Bool)
 |0,_=>none
 |n8+1,v28=>(bif (decide (v28<(v3.length:Int)))then(if(0:Int)≤0∧0≤v28∧v28≤(v3.length:Int)then(if(0:Int)≤v28∧v28<(v3.length:Int)then((Aot K ((v3.drop (0:Int).toNat).take (v28 - 0).toNat) (gt v3 v28)).bind fun r29=>(bif r29 then some false else(Ak0 K v1 v2 v3 v11 v12 v13 v14 v24 n8 (An6 .i64 v28 1))))else none)else none)else((Axs K (Dn.mk v11 v12 v13) 2).bind fun r30=>(bif (v1==r30)then((Ap7 K v14 2).bind fun r31=>(bif (v2==r31)then some ((v3.length:Int)==v24)else some false))else some false)))
def Ag1 (K:Nat)(v1:Int)(v2:Int)(v3:List Int)(v11:List Int)(v12:List Int)(v13:List Int)(v14:List As):Nat->Int->Int->Option (Bool)
 |0,_,_=>none
 |n6+1,v24,v25=>(bif (decide (v25<(v14.length:Int)))then((As0 K v14 v25).bind fun r26=>(bif r26 then(Atp K v25 (Ag1 K v1 v2 v3 v11 v12 v13 v14 n6) (An6 .i64 v24 1))else(Atp K v25 (Ag1 K v1 v2 v3 v11 v12 v13 v14 n6) v24)))else(Ak0 K v1 v2 v3 v11 v12 v13 v14 v24 K 0))
def Aey (K:Nat):Nat->Int->Int->(List Int)->Int->Int->Int->Int->Int->Int->Int->(List Int)->(List Int)->(List Int)->(List As)->(List Az)->(List Int)->Option (Bool)
 |0,_,_,_,_,_,_,_,_,_,_,_,_,_,_,_,_=>none
 |n1+1,v1,v2,v3,v4,v5,v6,v7,v8,v9,v10,v11,v12,v13,v14,v15,v16=>(bif (decide (v4<(v15.length:Int)))then(if(0:Int)≤v4∧v4<(v15.length:Int)then(if(0:Int)≤v4∧v4<(v15.length:Int)then(bif (((gt v15 v4).Bm) != 0)then(Arf K v3 v4 v5 v6 v7 v8 v9 v10 v11 v12 v13 v14 v15 v16 (Aey K n1) (An6 .i64 v1 (((gt v15 v4).Ay).length:Int)) (An6 .i64 v2 1))else(Arf K v3 v4 v5 v6 v7 v8 v9 v10 v11 v12 v13 v14 v15 v16 (Aey K n1) (An6 .i64 v1 (((gt v15 v4).Ay).length:Int)) v2))else none)else none)else(Ag1 K v1 v2 v3 v11 v12 v13 v14 K 0 0))
def Avr (K:Nat)(a0:C5):Option (Bool):=(Aey K K 0 0 ([]:List Int) 0 a0.fC.Ay a0.fC.G8 a0.fC.E6 a0.fC.Gu a0.fC.E7 a0.fC.G9 a0.fP.N7 a0.fP.Vi a0.fP.N8 a0.fL a0.fQ a0.Acy)
def A9k:=fd Tryz.func107 ⟨[.v 32],[.v 4],true⟩ (gC (A8x K) (gC (Bqe K) (gC (Bqd K) (gC (Bxc K) (gC (Bp2 K) gN))))) [60,61,134,135,140,141,142] [4073,8009,2050532]
def Bzr:Ej:=⟨[(1,.p 101),(3,.v 2),(4,.v 2),(5,.o 1005 3 true),(6,.v 2),(7,.v 2),(8,.v 2)],[(101,.box [.v 2,.v 2,.v 2,.v 2,.v 2,.v 2,.v 22,.v 26,.v 26,.v 29,.v 30,.v 26])]⟩
def Bf7:Ej:=⟨[(1,.p 101),(3,.v 2),(4,.v 2),(5,.o 1005 3 true),(6,.v 2),(7,.v 2)],[(101,.box [.v 2,.v 2,.v 2,.v 2,.v 2,.v 2,.v 22,.v 26,.v 26,.v 29,.v 30,.v 26])]⟩
def A8g:Ej:=⟨[(1,.p 101),(3,.v 2),(4,.v 2),(5,.o 1005 3 true),(6,.v 2)],[(101,.box [.v 2,.v 2,.v 2,.v 2,.v 2,.v 2,.v 22,.v 26,.v 26,.v 29,.v 30,.v 26])]⟩
def Bof:Ej:=⟨[(1,.p 101),(3,.v 2),(4,.v 2),(5,.o 1005 3 true),(9,.v 2),(10,.v 2)],[(101,.box [.v 2,.v 2,.v 2,.v 2,.v 2,.v 2,.v 22,.v 26,.v 26,.v 29,.v 30,.v 26])]⟩
def Bzs:Ej:=⟨[(1,.p 101),(3,.v 2),(4,.v 2),(5,.o 1005 3 true),(9,.v 2),(11,.v 2)],[(101,.box [.v 2,.v 2,.v 2,.v 2,.v 2,.v 2,.v 22,.v 26,.v 26,.v 29,.v 30,.v 26])]⟩
def A8h:=fun(C250:CT A8g _) (C128158:CT Bf7 _)=>lp (A9k K) 16404262 Bzr [(128158,ar Bf7 C128158),(250,ar A8g C250)] (fun n a b c d e f g h i j k l m o p q r s=>Ank K d r c e (fun v20 v21=>C128158 a b v20 d v21 g h i j k l m o p q r s) n f) (fun n=>kN)
def A9l:=fun(C250:CT A8g _) (C128158:CT Bf7 _)=>jn (A9k K) 2050532 Bf7 [(128158,ar Bf7 C128158),(250,ar A8g C250)] (fun a b c d e f g h i j k l m o p q r=>Are K d q c e (fun v20 v21=>C128158 a b v20 d v21 f g h i j k l m o p q r)) (kC (A8h K _ _ K) kN)
def Bbc:=fun(C250:CT A8g _)=>lp (A9k K) 128158 Bf7 [(250,ar A8g C250)] (fun n a b c d e f g h i j k l m o p q r=>Akz K d f g h i j k l m o p q r a b C250 n c e) (fun n=>(kC (A9l K _ _) kN))
def Bf8:=fun(C250:CT A8g _)=>jn (A9k K) 8009 A8g [(250,ar A8g C250)] (fun a b c d e f g h i j k l m o p q=>Arf K c d e f g h i j k l m o p q C250 a b) (kC (Bbc K _ K) kN)
def Bf9:=fun(C1018:CT Bof _)=>jn (A9k K) 4073 Bof [(1018,ar Bof C1018)] (fun a b c d e f g h i j k l m o p q r=>Atp K e (fun v24 v25=>C1018 a b c v24 v25 f g h i j k l m o p q r) d) kN
def Bga:=lp (A9k K) 2042 Bzs [] (fun n a b c d e _ _ _ _ _ _ l m o p _ _=>Ak0 K a b c l m o p d n e) (fun n=>kN)
def Bgb:=lp (A9k K) 1018 Bof [] (fun n a b c d e _ _ _ _ _ _ l m o p _ _=>Ag1 K a b c l m o p n d e) (fun n=>(kC (Bf9 K _) (kC (up (Bga K K)) kN)))
def Bi9:=lp (A9k K) 250 A8g [] (Aey K) (fun n=>(kC (Bf8 K _) (kC (up (Bgb K K)) kN)))
def Bxe:=ct (A9k K) (Avr K) (kC (Bi9 K K) kN)
def Anu (K:Nat)(a0:Ea)(v8:List Int):Nat->Int->Option (Bool)
 |0,_=>none
 |n3+1,v12=>(bif (decide (v12<(v8.length:Int)))then(if(0:Int)≤v12∧v12<(v8.length:Int)then((Gx K (gt v8 v12) 0 (An7 .i64 a0.Ay 1)).bind fun r13=>(bif r13 then(if(0:Int)≤0∧0≤v12∧v12≤(v8.length:Int)then(if(0:Int)≤v12∧v12<(v8.length:Int)then((Aot K ((v8.drop (0:Int).toNat).take (v12 - 0).toNat) (gt v8 v12)).bind fun r14=>(bif r14 then some false else(Anu K a0 v8 n3 (An6 .i64 v12 1))))else none)else none)else some false))else none)else some true)
def Apv (K:Nat)(a0:Ea)(v7:List Int)(v8:List Int):Nat->Int->Option (Bool)
 |0,_=>none
 |n2+1,v10=>(bif (decide (v10<(v7.length:Int)))then(if(0:Int)≤v10∧v10<(v7.length:Int)then((Gx K (gt v7 v10) 0 255).bind fun r11=>(bif (!r11)then some false else(Apv K a0 v7 v8 n2 (An6 .i64 v10 1))))else none)else(Anu K a0 v8 K 0))
def Avs (K:Nat)(a0:Ea)(v5:Int)(v6:Int)(v7:List Int)(v8:List Int)(v9:Int):Option (Bool):=(Apv K a0 v7 v8 K 0)
def Axt (K:Nat)(a0:Ea)(a1:Az):Option (Bool):=((Anb K a0).bind fun r1=>(bif r1 then((Gx K a1.Bm 0 a0.E6).bind fun r2=>(bif r2 then((Gx K a1.Ef 0 a0.E6).bind fun r3=>(bif r3 then(bif (decide ((a1.Fi.length:Int)>6))then some false else((Gx K a1.Wz 0 (An7 .i64 a0.G8 1)).bind fun r4=>(bif r4 then(bif ((a1.Ay.length:Int)==0)then(bif (a1.Wz != 0)then some false else(Avs K a0 a1.Bm a1.Ef a1.Fi a1.Ay a1.Wz))else(Avs K a0 a1.Bm a1.Ef a1.Fi a1.Ay a1.Wz))else some false)))else some false))else some false))else some false))
def Bog:=fd Tryz.func198 ⟨[.v 25,.v 52],[.v 4],true⟩ (gC (Ba7 K) (gC (A1m K) (gC (A8x K) gN))) [8,9,10,15,16,17,18,23,24,25,26,30,31,32,38,39,40,41,45,46,81,82,83] [3]
def Bzt:Ej:=⟨[(2,.p 102),(3,.p 103),(6,.v 2)],[(103,.box [.v 2,.v 2,.v 26,.v 26,.v 2]),(102,.st 25 true)]⟩
def Bzu:Ej:=⟨[(2,.p 102),(3,.p 103),(5,.v 2)],[(103,.box [.v 2,.v 2,.v 26,.v 26,.v 2]),(102,.st 25 true)]⟩
def Bzv:Ej:=⟨[(2,.p 102),(3,.p 103)],[(103,.box [.v 2,.v 2,.v 26,.v 26,.v 2]),(102,.st 25 true)]⟩
def Bja:=lp (Bog K) 122 Bzt [] (fun n a _ _ _ e _ g=>Anu K g e n a) (fun n=>kN)
def Boh:=lp (Bog K) 58 Bzu [] (fun n a _ _ d e _ g=>Apv K g d e n a) (fun n=>(kC (up (Bja K K)) kN))
def Bry:=jn (Bog K) 3 Bzv [] (fun a b c d e f=>Avs K f a b c d e) (kC (Boh K K) kN)
def Bxf:=ct (Bog K) (Axt K) (kC (Bry K) kN)
def Ap9 (K:Nat)(v17:List As)(r21:(List Int)):Nat->Int->Option (Bool)
 |0,_=>none
 |n4+1,v22=>(bif (decide (v22<(r21.length:Int)))then(if(0:Int)≤v22∧v22<(r21.length:Int)then((As0 K v17 (gt r21 v22)).bind fun r23=>(bif (!r23)then some false else(Ap9 K v17 r21 n4 (An6 .i64 v22 1))))else none)else some true)
def Aoz (K:Nat)(v4:Int)(v17:List As):Option (Bool):=((Awa K v17 v4).bind fun r21=>(Ap9 K v17 r21 K 0))
def Ar0 (K:Nat)(v3:Int)(v4:Int)(v17:List As):Option (Bool):=(bif (v3 != 0)then(if(0:Int)≤(An7 .i64 v3 1)∧(An7 .i64 v3 1)<(v17.length:Int)then(bif (((gt v17 (An7 .i64 v3 1)).Vi) != 2)then some false else(bif (v4 != 0)then(if(0:Int)≤(An7 .i64 v4 1)∧(An7 .i64 v4 1)<(v17.length:Int)then(bif (((gt v17 (An7 .i64 v4 1)).So) != 0)then some false else(Aoz K v4 v17))else none)else(Aoz K v4 v17)))else none)else(bif (v4 != 0)then(if(0:Int)≤(An7 .i64 v4 1)∧(An7 .i64 v4 1)<(v17.length:Int)then(bif (((gt v17 (An7 .i64 v4 1)).So) != 0)then some false else(Aoz K v4 v17))else none)else(Aoz K v4 v17)))
def Ao0 (K:Nat):Nat->Int->Int->Int->(List Int)->(List Int)->Int->Int->Int->Int->Int->Int->Int->(List Int)->(List Int)->(List Int)->(List As)->(List Az)->(List Int)->Option (Bool)
 |0,_,_,_,_,_,_,_,_,_,_,_,_,_,_,_,_,_,_=>none
 |n1+1,v2,v3,v4,v5,v6,v7,v8,v9,v10,v11,v12,v13,v14,v15,v16,v17,v18,v19=>(bif (decide (v2<(v6.length:Int)))then(if(0:Int)≤v2∧v2<(v6.length:Int)then(if(0:Int)≤(gt v6 v2)∧(gt v6 v2)<(v15.length:Int)then(bif ((gt v15 (gt v6 v2)) != 2)then some false else(Ao0 K n1 (An6 .i64 v2 1) v3 v4 v5 v6 v7 v8 v9 v10 v11 v12 v13 v14 v15 v16 v17 v18 v19))else none)else none)else(bif (decide ((v6.length:Int)>0))then(if(0:Int)≤0∧0<(v6.length:Int)then(if(0:Int)≤0∧0<(v6.length:Int)then(if(0:Int)≤(An8 .i64 (gt v6 0) v9)∧(An8 .i64 (gt v6 0) v9)≤(An6 .i64 (An8 .i64 (gt v6 0) v9) v7)∧(An6 .i64 (An8 .i64 (gt v6 0) v9) v7)≤(v14.length:Int)then((Asa K ((v14.drop (An8 .i64 (gt v6 0) v9).toNat).take ((An6 .i64 (An8 .i64 (gt v6 0) v9) v7) - (An8 .i64 (gt v6 0) v9)).toNat)).bind fun r20=>(bif (!r20)then some false else(Ar0 K v3 v4 v17)))else none)else none)else none)else(Ar0 K v3 v4 v17)))
def Awt (K:Nat)(a0:C5)(a1:Int):Option (Bool):=(if(0:Int)≤a1∧a1<(a0.fQ.length:Int)then((Axt K a0.fC (gt a0.fQ a1)).bind fun r1=>(bif (!r1)then some false else(Ao0 K K 0 ((gt a0.fQ a1).Bm) ((gt a0.fQ a1).Ef) ((gt a0.fQ a1).Fi) ((gt a0.fQ a1).Ay) ((gt a0.fQ a1).Wz) a0.fC.Ay a0.fC.G8 a0.fC.E6 a0.fC.Gu a0.fC.E7 a0.fC.G9 a0.fP.N7 a0.fP.Vi a0.fP.N8 a0.fL a0.fQ a0.Acy)))else none)
def Bjb:=fd Tryz.func105 ⟨[.v 32,.v 3],[.v 4],true⟩ (gC (Be1 K) (gC (Bxf K) (gC (Bqe K) (gC (Bqd K) gN)))) [40,41,70,71,80,81,82,85,86] [31,63]
def Bzw:Ej:=⟨[(2,.p 102),(7,.v 26),(8,.v 2)],[(102,.box [.v 2,.v 2,.v 2,.v 2,.v 2,.v 2,.v 22,.v 26,.v 26,.v 29,.v 30,.v 26])]⟩
def Bxg:Ej:=⟨[(2,.p 102),(5,.p 105)],[(105,.box [.v 2,.v 2,.v 26,.v 26,.v 2]),(102,.box [.v 2,.v 2,.v 2,.v 2,.v 2,.v 2,.v 22,.v 26,.v 26,.v 29,.v 30,.v 26])]⟩
def Bzx:Ej:=⟨[(2,.p 102),(5,.p 105),(6,.v 2)],[(105,.box [.v 2,.v 2,.v 26,.v 26,.v 2]),(102,.box [.v 2,.v 2,.v 2,.v 2,.v 2,.v 2,.v 22,.v 26,.v 26,.v 29,.v 30,.v 26])]⟩
def Bgc:=lp (Bjb K) 2042 Bzw [] (fun n a b _ _ _ _ _ _ _ _ _ l _ _=>Ap9 K l a n b) (fun n=>kN)
def Boi:=jn (Bjb K) 63 Bxg [] (fun _ b _ _ _ _ _ _ _ _ _ _ _ _ p _ _=>Aoz K b p) (kC (Bgc K K) kN)
def Boj:=jn (Bjb K) 31 Bxg [] (fun a b _ _ _ _ _ _ _ _ _ _ _ _ p _ _=>Ar0 K a b p) (kC (Boi K) kN)
def Bjc:=lp (Bjb K) 122 Bzx [] (Ao0 K) (fun n=>(kC (up (Boj K)) kN))
def Bxh:=ct (Bjb K) (Awt K) (kC (Bjc K K) kN)
def Anl (K:Nat)(a1:Int)(r1:(List Int)):Nat->Int->Int->Int->Int->Int->Int->Int->(List Int)->(List Int)->(List Int)->(List As)->(List Az)->(List Int)->Option (Bool)
 |0,_,_,_,_,_,_,_,_,_,_,_,_,_=>none
 |n1+1,v2,v3,v4,v5,v6,v7,v8,v9,v10,v11,v12,v13,v14=>(bif (decide (v2<(r1.length:Int)))then(if(0:Int)≤a1∧a1<(v12.length:Int)then(if(0:Int)≤v2∧v2<(r1.length:Int)then((Aot K ((gt v12 a1).Ay) (gt r1 v2)).bind fun r15=>(bif (!r15)then some false else(Anl K a1 r1 n1 (An6 .i64 v2 1) v3 v4 v5 v6 v7 v8 v9 v10 v11 v12 v13 v14)))else none)else none)else(if(0:Int)≤a1∧a1<(v12.length:Int)then some ((r1.length:Int)==(((gt v12 a1).Ay).length:Int))else none))
def Avt (K:Nat)(a0:C5)(a1:Int):Option (Bool):=((Au2 K a0.fP a1).bind fun r1=>(Anl K a1 r1 K 0 a0.fC.Ay a0.fC.G8 a0.fC.E6 a0.fC.Gu a0.fC.E7 a0.fC.G9 a0.fP.N7 a0.fP.Vi a0.fP.N8 a0.fL a0.fQ a0.Acy))
def Bxi:=fd Tryz.func101 ⟨[.v 32,.v 3],[.v 4],true⟩ (gC (Bp1 K) (gC (A8x K) gN))
def Bzy:Ej:=⟨[(1,.v 2),(2,.p 102),(5,.v 26),(6,.v 2)],[(102,.box [.v 2,.v 2,.v 2,.v 2,.v 2,.v 2,.v 22,.v 26,.v 26,.v 29,.v 30,.v 26])]⟩
def Bok:=lp (Bxi K) 58 Bzy [] (fun n a b=>Anl K a b n) (fun n=>kN)
def Bxj:=ct (Bxi K) (Avt K) (kC (Bok K K) kN)
def Ao7 (K:Nat)(a0:Ea)(v1:Int)(v2:Int)(v3:Int)(v4:Int)(v5:Int)(v6:Int)(v7:Int)(v8:Int)(v9:Int)(v10:List Int)(v11:Int)(v12:Int)(v13:List Bc)(v14:List Int)(C1:Int->Int->Int->Int->Int->Int->Int->Int->Int->(List Int)->Int->Int->(List Bc)->(List Int)->Option (Bool)):Nat->Int->Bc->Option (Bool)
 |0,_,_=>none
 |n2+1,v16,v17=>(if a0.G8≠(0:Int)then(bif (decide (v16≤(Alk .i64 (An7 .i64 (An6 .i64 v17.fAt v17.Ajm) 1) a0.G8)))then((Aot K v10 v16).bind fun r18=>(bif (!r18)then some false else(Ao7 K a0 v1 v2 v3 v4 v5 v6 v7 v8 v9 v10 v11 v12 v13 v14 C1 n2 (An6 .i64 v16 1) v17)))else(C1 (An6 .i64 v1 1) v2 v3 v4 v5 v6 v7 v8 v9 v10 v11 v12 v13 v14))else none)
def Aks (K:Nat)(a0:Ea):Nat->Int->Int->Int->Int->Int->Int->Int->Int->Int->(List Int)->Int->Int->(List Bc)->(List Int)->Option (Bool)
 |0,_,_,_,_,_,_,_,_,_,_,_,_,_,_=>none
 |n1+1,v1,v2,v3,v4,v5,v6,v7,v8,v9,v10,v11,v12,v13,v14=>(bif (decide (v1<(v13.length:Int)))then(if(0:Int)≤v1∧v1<(v13.length:Int)then((Asv K a0 (gt v13 v1)).bind fun r15=>(bif (!r15)then some false else(if a0.G8≠(0:Int)then(Ao7 K a0 v1 v2 v3 v4 v5 v6 v7 v8 v9 v10 v11 v12 v13 v14 (Aks K a0 n1) K (Alk .i64 ((gt v13 v1).fAt) a0.G8) (gt v13 v1))else none)))else none)else some true)
def Awu (K:Nat)(a0:Ea)(a1:As):Option (Bool):=(Aks K a0 K 0 a1.Vi a1.C9 a1.Sl a1.fUp a1.Sm a1.Ef a1.Sn a1.So a1.Ay a1.Acx a1.Sq a1.F6 a1.Fi)
def Brz:=fd Tryz.func102 ⟨[.v 25,.v 50],[.v 4],true⟩ (gC (A8x K) (gC (Bp9 K) gN))
def Bzz:Ej:=⟨[(2,.p 102),(3,.p 103),(5,.v 2),(6,.p 106),(7,.v 2)],[(106,.st 132 true),(103,.box [.v 2,.v 2,.v 2,.v 2,.v 2,.v 2,.v 2,.v 2,.v 26,.v 2,.v 2,.v 48,.v 26]),(102,.st 25 true)]⟩
def Bgd:=fun(C26:CT Biu _)=>lp (Brz K) 6734 Bzz [(26,ar Biu C26)] (fun n a b c d e f g h i j k l m o p q r=>Ao7 K r a d e f g h i j k l m o p q (fun v1 v2 v3 v4 v5 v6 v7 v8 v9 v10 v11 v12 v13 v14=>C26 v1 v2 v3 v4 v5 v6 v7 v8 v9 v10 v11 v12 v13 v14 r) n b c) (fun n=>kN)
def Bol:=lp (Brz K) 26 Biu [] (fun n a b c d e f g h i j k l m o p=>Aks K p n a b c d e f g h i j k l m o) (fun n=>(kC (Bgd K _ K) kN))
def Bxk:=ct (Brz K) (Awu K) (kC (Bol K K) kN)
def Az0 (K:Nat)(a0:Bc)(a1:Bc):Option (Bool):=(bif (decide (a0.Ajm<1))then some true else(bif (decide (a1.Ajm<1))then some true else(bif (decide (a0.fAt≤a1.fAt))then(bif (decide ((An7 .i64 a1.fAt a0.fAt)≥a0.Ajm))then some true else some (decide ((An7 .i64 a1.fAt a0.fAt)<0)))else(bif (decide ((An7 .i64 a0.fAt a1.fAt)≥a1.Ajm))then some true else some (decide ((An7 .i64 a0.fAt a1.fAt)<0))))))
def Br0:=ct (fd Tryz.func197 ⟨[.v 132,.v 132],[.v 4],true⟩ gN [7,8,25,26,41,42]) (Az0 K)
def Ao8 (K:Nat)(a0:List Bc)(v1:Int)(C1:Int->Option (Bool)):Nat->Int->Option (Bool)
 |0,_=>none
 |n2+1,v2=>(bif (decide (v2<v1))then(if(0:Int)≤v1∧v1<(a0.length:Int)then(if(0:Int)≤v2∧v2<(a0.length:Int)then((Az0 K (gt a0 v1) (gt a0 v2)).bind fun r3=>(bif (!r3)then some false else(Ao8 K a0 v1 C1 n2 (An6 .i64 v2 1))))else none)else none)else(C1 (An6 .i64 v1 1)))
def Akt (K:Nat)(a0:List Bc):Nat->Int->Option (Bool)
 |0,_=>none
 |n1+1,v1=>(bif (decide (v1<(a0.length:Int)))then(Ao8 K a0 v1 (Akt K a0 n1) K 0)else some true)
def Awv (K:Nat)(a0:List Bc):Option (Bool):=(Akt K a0 K 0)
def Bjd:=fd Tryz.func103 ⟨[.v 48],[.v 4],true⟩ (gC (Br0 K) gN)
def Bz0:Ej:=⟨[(0,.v 48),(3,.v 2),(4,.v 2)],[]⟩
def Br1:Ej:=⟨[(0,.v 48),(3,.v 2)],[]⟩
def Bc8:=fun(C26:CT Br1 _)=>lp (Bjd K) 1682 Bz0 [(26,ar Br1 C26)] (fun n a b=>Ao8 K a b (C26 a) n) (fun n=>kN)
def Bje:=lp (Bjd K) 26 Br1 [] (fun n a=>Akt K a n) (fun n=>(kC (Bc8 K _ K) kN))
def Br2:=ct (Bjd K) (Awv K) (kC (Bje K K) kN)
def Auo (K:Nat)(v1:Int)(v2:Int)(v3:Int)(v4:Int)(v5:Int)(v6:Int)(v7:Int)(v8:Int)(v9:Int)(v10:Int)(v11:Int)(v12:List Int)(v13:Int)(v14:Int)(v15:List Bc)(v16:List Int)(v17:Int)(v18:Int)(v19:Int)(v20:Int)(v21:Int)(v22:Int)(v23:List Int)(v24:List Int)(v25:List Int)(v26:List As)(v27:List Az)(v28:List Int)(C1:Int->Int->Int->Int->Int->Int->Int->Int->Int->Int->Int->(List Int)->Int->Int->(List Bc)->(List Int)->Int->Int->Int->Int->Int->Int->(List Int)->(List Int)->(List Int)->(List As)->(List Az)->(List Int)->Option (Bool)):Option (Bool):=(C1 v1 v2 (An6 .i64 v3 1) v4 v5 v6 v7 v8 v9 v10 v11 v12 v13 v14 v15 v16 v17 v18 v19 v20 v21 v22 v23 v24 v25 v26 v27 v28)
def Ana (K:Nat):Nat->Int->Int->Int->Int->Int->Int->Int->Int->Int->Int->Int->(List Int)->Int->Int->(List Bc)->(List Int)->Int->Int->Int->Int->Int->Int->(List Int)->(List Int)->(List Int)->(List As)->(List Az)->(List Int)->Option (Bool)
 |0,_,_,_,_,_,_,_,_,_,_,_,_,_,_,_,_,_,_,_,_,_,_,_,_,_,_,_,_=>none
 |n1+1,v1,v2,v3,v4,v5,v6,v7,v8,v9,v10,v11,v12,v13,v14,v15,v16,v17,v18,v19,v20,v21,v22,v23,v24,v25,v26,v27,v28=>(bif (decide (v3<(v15.length:Int)))then(if(0:Int)≤v3∧v3<(v15.length:Int)then(bif (decide (((gt v15 v3).fAt)<v2))then(bif (decide ((An6 .i64 ((gt v15 v3).fAt) ((gt v15 v3).Ajm))>v1))then some false else(Auo K v1 v2 v3 v4 v5 v6 v7 v8 v9 v10 v11 v12 v13 v14 v15 v16 v17 v18 v19 v20 v21 v22 v23 v24 v25 v26 v27 v28 (Ana K n1)))else(Auo K v1 v2 v3 v4 v5 v6 v7 v8 v9 v10 v11 v12 v13 v14 v15 v16 v17 v18 v19 v20 v21 v22 v23 v24 v25 v26 v27 v28 (Ana K n1)))else none)else(if(0:Int)≤v1∧v1≤v2∧v2≤(v23.length:Int)then((Asa K ((v23.drop v1.toNat).take (v2 - v1).toNat)).bind fun r29=>some r29)else none))
def Aww (K:Nat)(a0:C5)(a1:Int):Option (Bool):=(if(0:Int)≤a1∧a1<(a0.fL.length:Int)then(bif (((gt a0.fL a1).Acx)==0)then some true else(bif (decide ((An6 .i64 (An8 .i64 (An7 .i64 ((gt a0.fL a1).Acx) 1) a0.fC.G8) ((gt a0.fL a1).Sq))≥(An8 .i64 ((gt a0.fL a1).Acx) a0.fC.G8)))then some true else(Ana K K (An6 .i64 (An8 .i64 (An7 .i64 ((gt a0.fL a1).Acx) 1) a0.fC.G8) ((gt a0.fL a1).Sq)) (An8 .i64 ((gt a0.fL a1).Acx) a0.fC.G8) 0 ((gt a0.fL a1).Vi) ((gt a0.fL a1).C9) ((gt a0.fL a1).Sl) ((gt a0.fL a1).fUp) ((gt a0.fL a1).Sm) ((gt a0.fL a1).Ef) ((gt a0.fL a1).Sn) ((gt a0.fL a1).So) ((gt a0.fL a1).Ay) ((gt a0.fL a1).Acx) ((gt a0.fL a1).Sq) ((gt a0.fL a1).F6) ((gt a0.fL a1).Fi) a0.fC.Ay a0.fC.G8 a0.fC.E6 a0.fC.Gu a0.fC.E7 a0.fC.G9 a0.fP.N7 a0.fP.Vi a0.fP.N8 a0.fL a0.fQ a0.Acy)))else none)
def Bjf:=fd Tryz.func104 ⟨[.v 32,.v 3],[.v 4],true⟩ (gC (Be1 K) gN) [33,34,54,55] [2025]
def Bom:Ej:=⟨[(2,.p 102),(5,.p 105),(6,.v 2),(7,.v 2),(8,.v 2)],[(105,.box [.v 2,.v 2,.v 2,.v 2,.v 2,.v 2,.v 2,.v 2,.v 26,.v 2,.v 2,.v 48,.v 26]),(102,.box [.v 2,.v 2,.v 2,.v 2,.v 2,.v 2,.v 22,.v 26,.v 26,.v 29,.v 30,.v 26])]⟩
def Bc9:=fun(C506:CT Bom _)=>jn (Bjf K) 2025 Bom [(506,ar Bom C506)] (fun a b c d e f g h i j k l m o p q r s t u v w x y z a1 b1 c1=>Auo K a b c d e f g h i j k l m o p q r s t u v w x y z a1 b1 c1 C506) kN
def Bge:=lp (Bjf K) 506 Bom [] (Ana K) (fun n=>(kC (Bc9 K _) kN))
def Br3:=ct (Bjf K) (Aww K) (kC (Bge K K) kN)
def Anv (K:Nat)(v4:Int)(v5:Int)(v6:Int)(v7:Int)(v8:Int)(v9:Int)(v10:List Int)(v11:List Int)(v12:List Int)(v13:List As)(v14:List Az)(v15:List Int):Nat->Int->Option (Bool)
 |0,_=>none
 |n3+1,v23=>(bif (decide (v23<(v15.length:Int)))then(if(0:Int)≤v23∧v23<(v15.length:Int)then((Gx K (gt v15 v23) 0 255).bind fun r24=>(bif (!r24)then some false else(Anv K v4 v5 v6 v7 v8 v9 v10 v11 v12 v13 v14 v15 n3 (An6 .i64 v23 1))))else none)else((Avr K (C5.mk (Ea.mk v4 v5 v6 v7 v8 v9) (Dn.mk v10 v11 v12) v13 v14 v15)).bind fun r25=>some r25))
def Apw (K:Nat)(v4:Int)(v5:Int)(v6:Int)(v7:Int)(v8:Int)(v9:Int)(v10:List Int)(v11:List Int)(v12:List Int)(v13:List As)(v14:List Az)(v15:List Int):Nat->Int->Option (Bool)
 |0,_=>none
 |n2+1,v21=>(bif (decide (v21<(v14.length:Int)))then((Awt K (C5.mk (Ea.mk v4 v5 v6 v7 v8 v9) (Dn.mk v10 v11 v12) v13 v14 v15) v21).bind fun r22=>(bif (!r22)then some false else(Apw K v4 v5 v6 v7 v8 v9 v10 v11 v12 v13 v14 v15 n2 (An6 .i64 v21 1))))else(Anv K v4 v5 v6 v7 v8 v9 v10 v11 v12 v13 v14 v15 K 0))
def Anw (K:Nat):Nat->Int->Int->Int->Int->Int->Int->Int->(List Int)->(List Int)->(List Int)->(List As)->(List Az)->(List Int)->Option (Bool)
 |0,_,_,_,_,_,_,_,_,_,_,_,_,_=>none
 |n1+1,v3,v4,v5,v6,v7,v8,v9,v10,v11,v12,v13,v14,v15=>(bif (decide (v3<(v13.length:Int)))then(if(0:Int)≤v3∧v3<(v13.length:Int)then((Apz K (Ea.mk v4 v5 v6 v7 v8 v9) (gt v13 v3)).bind fun r16=>(bif r16 then((Avt K (C5.mk (Ea.mk v4 v5 v6 v7 v8 v9) (Dn.mk v10 v11 v12) v13 v14 v15) v3).bind fun r17=>(bif r17 then(if(0:Int)≤v3∧v3<(v13.length:Int)then((Awu K (Ea.mk v4 v5 v6 v7 v8 v9) (gt v13 v3)).bind fun r18=>(bif r18 then(if(0:Int)≤v3∧v3<(v13.length:Int)then((Awv K ((gt v13 v3).F6)).bind fun r19=>(bif r19 then((Aww K (C5.mk (Ea.mk v4 v5 v6 v7 v8 v9) (Dn.mk v10 v11 v12) v13 v14 v15) v3).bind fun r20=>(bif (!r20)then some false else(Anw K n1 (An6 .i64 v3 1) v4 v5 v6 v7 v8 v9 v10 v11 v12 v13 v14 v15)))else some false))else none)else some false))else none)else some false))else some false))else none)else(Apw K v4 v5 v6 v7 v8 v9 v10 v11 v12 v13 v14 v15 K 0))
def Arg (K:Nat)(a0:C5):Option (Bool):=((Av6 K a0.fC a0.fP).bind fun r1=>(bif r1 then(bif ((a0.fL.length:Int) != a0.fC.E6)then some false else((Ay1 K a0.fL).bind fun r2=>(bif (!r2)then some false else(Anw K K 0 a0.fC.Ay a0.fC.G8 a0.fC.E6 a0.fC.Gu a0.fC.E7 a0.fC.G9 a0.fP.N7 a0.fP.Vi a0.fP.N8 a0.fL a0.fQ a0.Acy))))else some false))
def Be6:=fd Tryz.func26 ⟨[.v 32],[.v 4],true⟩ (gC (Bp5 K) (gC (Bxb K) (gC (A8y K) (gC (Bxj K) (gC (Bxk K) (gC (Br2 K) (gC (Br3 K) (gC (Bxh K) (gC (A1m K) (gC (Bxe K) gN)))))))))) [10,11,12,19,20,21,41,42,43,46,47,48,49,57,58,59,60,67,68,69,70]
def Bz1:Ej:=⟨[(1,.p 101),(5,.v 2)],[(101,.box [.v 2,.v 2,.v 2,.v 2,.v 2,.v 2,.v 22,.v 26,.v 26,.v 29,.v 30,.v 26])]⟩
def Bz2:Ej:=⟨[(1,.p 101),(4,.v 2)],[(101,.box [.v 2,.v 2,.v 2,.v 2,.v 2,.v 2,.v 22,.v 26,.v 26,.v 29,.v 30,.v 26])]⟩
def Bz3:Ej:=⟨[(1,.p 101),(3,.v 2)],[(101,.box [.v 2,.v 2,.v 2,.v 2,.v 2,.v 2,.v 22,.v 26,.v 26,.v 29,.v 30,.v 26])]⟩
def Bgf:=lp (Be6 K) 250 Bz1 [] (fun n a b c d e f g h i j k l m=>Anv K b c d e f g h i j k l m n a) (fun n=>kN)
def Bgg:=lp (Be6 K) 122 Bz2 [] (fun n a b c d e f g h i j k l m=>Apw K b c d e f g h i j k l m n a) (fun n=>(kC (up (Bgf K K)) kN))
def Bjg:=lp (Be6 K) 58 Bz3 [] (Anw K) (fun n=>(kC (up (Bgg K K)) kN))
def A9m:=ct (Be6 K) (Arg K) (kC (Bjg K K) kN)
def Az1 (K:Nat)(a0:Br):Option (Bool):=((Atw K a0.fH).bind fun r1=>(bif r1 then(bif (decide (a0.Sl≥0))then some (decide (a0.fNo≥0))else some false)else some false))
def Br4:=ct (fd Tryz.func225 ⟨[.v 38],[.v 4],true⟩ (gC (Bpy K) gN) [5,6,9,10,11]) (Az1 K)
def Axu (K:Nat)(a0:As)(a1:Br):Option (Bc×Bool):=(bif (a0.Vi != 1)then some ((Bc.mk 0 0 0),false)else(bif (a0.Sl != a1.Sl)then some ((Bc.mk 0 0 0),false)else((Gx K a1.fNo 0 (An7 .i64 (a0.F6.length:Int) 1)).bind fun r1=>(bif (!r1)then some ((Bc.mk 0 0 0),false)else(if(0:Int)≤a1.fNo∧a1.fNo<(a0.F6.length:Int)then some ((gt a0.F6 a1.fNo),true)else none)))))
def Br5:=ct (fd Tryz.func226 ⟨[.v 50,.v 38],[.v 132,.v 4],true⟩ (gC (A1m K) gN) [8,9,14,15,16]) (Axu K)
def As1 (K:Nat)(a0:C5)(a1:Br):Option (Int×Bc×Int):=((Az1 K a1).bind fun r1=>(bif (!r1)then some ((-1),(Bc.mk 0 0 0),1)else((Aiq K a0 a1.fH).bind fun r2=>(bif (r2.2 != 0)then some ((-1),(Bc.mk 0 0 0),r2.2)else(if(0:Int)≤r2.1∧r2.1<(a0.fL.length:Int)then((Axu K (gt a0.fL r2.1) a1).bind fun r3=>(bif (!r3.2)then some ((-1),(Bc.mk 0 0 0),2)else some (r2.1,r3.1,0)))else none)))))
def Bjh:=ct (fd Tryz.func142 ⟨[.v 32,.v 38],[.v 3,.v 132,.v 3],true⟩ (gC (A7b K) (gC (Br4 K) (gC (Br5 K) gN)))) (As1 K)
def Axv (K:Nat)(a0:Bc)(a1:Int)(a2:Int):Option (Bool):=(bif (decide (a1≥0))then(bif (decide (a2≥0))then(bif (decide (a1≤a0.Ajm))then(bif (decide (a2≤(An7 .i64 a0.Ajm a1)))then(bif (decide (a0.fAt<0))then some true else some (decide ((An6 .i64 a0.fAt a1)≥0)))else some false)else some false)else some false)else some false)
def Bji:=ct (fd Tryz.func227 ⟨[.v 132,.v 3,.v 3],[.v 4],true⟩ gN [8,9,11,12,13,17,18,19,25,26,27,30,31]) (Axv K)
def Ava (K:Nat)(a0:List Int)(a1:Int)(a2:Int):Option (Bool):=(bif (decide (a1≥0))then(bif (decide (a2≥0))then(bif (decide (a1≤(a0.length:Int)))then some (decide (a2≤(An7 .i64 (a0.length:Int) a1)))else some false)else some false)else some false)
def Bjj:=ct (fd Tryz.func262 ⟨[.v 22,.v 3,.v 3],[.v 4],true⟩ gN [8,9,11,12,13,17,18,19]) (Ava K)
def Az2 (K:Nat)(a0:List Int)(a1:Int)(a2:Int):Option ((List Int)×Bool):=((Ava K a0 a1 a2).bind fun r1=>(bif (!r1)then some (([]:List Int),false)else(if(0:Int)≤a1∧a1≤(An6 .i64 a1 a2)∧(An6 .i64 a1 a2)≤(a0.length:Int)then(if(([]:List Int)++((a0.drop a1.toNat).take ((An6 .i64 a1 a2) - a1).toNat)).length*1≤140737488355328∧(([]:List Int)++((a0.drop a1.toNat).take ((An6 .i64 a1 a2) - a1).toNat)).length≤maxLen then some ((([]:List Int)++((a0.drop a1.toNat).take ((An6 .i64 a1 a2) - a1).toNat)),true)else none)else none)))
def Br6:=ct (fd Tryz.func229 ⟨[.v 22,.v 3,.v 3],[.n 22 true,.v 4],true⟩ (gC (Bjj K) gN)) (Az2 K)
def Avu (K:Nat)(a0:List Int)(a1:Bc)(a2:Int)(a3:Int):Option ((List Int)×Bool):=((Axv K a1 a2 a3).bind fun r1=>(bif (!r1)then some (([]:List Int),false)else((Az2 K a0 (An6 .i64 a1.fAt a2) a3).bind fun r2=>some (r2.1,r2.2))))
def Br7:=ct (fd Tryz.func144 ⟨[.v 22,.v 132,.v 3,.v 3],[.n 22 true,.v 4],true⟩ (gC (Bji K) (gC (Br6 K) gN))) (Avu K)
def A08 (K:Nat)(a0:C5)(a1:Br)(a2:Int)(a3:Int):Option (C5×Et):=((Ap1 K a0).bind fun r1=>((Arg K a0).bind fun r2=>(bif (!r2)then some (r1,(Et.mk 1 (An.mk 0 0) (Br.mk (An.mk 0 0) 0 0) [] 0 0 0))else((As1 K a0 a1).bind fun r3=>((Aog K a0 a1.fH).bind fun r4=>(bif (r3.2.2 != 0)then some (r1,(Et.mk r3.2.2 (An.mk 0 0) (Br.mk (An.mk 0 0) 0 0) [] r4 0 0))else((Avu K a0.fP.N7 r3.2.1 a2 a3).bind fun r5=>(bif (!r5.2)then some (r1,(Et.mk 7 (An.mk 0 0) (Br.mk (An.mk 0 0) 0 0) [] r4 0 0))else some (r1,(Et.mk r3.2.2 (An.mk 0 0) (Br.mk (An.mk 0 0) 0 0) r5.1 r4 0 0))))))))))
def Br8:=ct (fd Tryz.func60 ⟨[.v 32,.v 38,.v 3,.v 3],[.n 32 true,.n 73 true],false⟩ (gC (A9m K) (gC (Bba K) (gC (A7c K) (gC (Bjh K) (gC (Br7 K) gN))))) [] [] [(7,[.take 114 7 6831]),(11,[.take 114 7 6831])]) (A08 K)
def Ap2 (K:Nat)(a1:Int)(a2:List Int):Nat->(List Int)->Int->Option ((List Int)×Bool)
 |0,_,_=>none
 |n1+1,v2,v3=>(bif (decide (v3<(a2.length:Int)))then(if(0:Int)≤v3∧v3<(a2.length:Int)then(if(0:Int)≤(An6 .i64 a1 v3)∧(An6 .i64 a1 v3)<(v2.length:Int)then(Ap2 K a1 a2 n1 (v2.set (An6 .i64 a1 v3).toNat (gt a2 v3)) (An6 .i64 v3 1))else none)else none)else some (v2,true))
def Az3 (K:Nat)(a0:List Int)(a1:Int)(a2:List Int):Option ((List Int)×Bool):=(if(([]:List Int)++a0).length*1≤140737488355328∧(([]:List Int)++a0).length≤maxLen then((Ava K a0 a1 (a2.length:Int)).bind fun r1=>(bif (!r1)then some ((([]:List Int)++a0),false)else(Ap2 K a1 a2 K (([]:List Int)++a0) 0)))else none)
def Bqf:=fd Tryz.func228 ⟨[.v 22,.v 3,.v 22],[.n 22 true,.v 4],true⟩ (gC (Bjj K) gN)
def Bz4:Ej:=⟨[(1,.v 2),(2,.v 22),(8,.o 1008 5 true),(9,.v 2)],[]⟩
def Bgh:=lp (Bqf K) 122 Bz4 [] (fun n a b=>Ap2 K a b n) (fun n=>kN)
def Br9:=ct (Bqf K) (Az3 K) (kC (Bgh K K) kN)
def Aup (K:Nat)(a0:List Int)(a1:Bc)(a2:Int)(a3:List Int):Option ((List Int)×Bool):=((Axv K a1 a2 (a3.length:Int)).bind fun r1=>(bif (!r1)then(if(([]:List Int)++a0).length*1≤140737488355328∧(([]:List Int)++a0).length≤maxLen then some ((([]:List Int)++a0),false)else none)else((Az3 K a0 (An6 .i64 a1.fAt a2) a3).bind fun r2=>some (r2.1,r2.2))))
def Bsa:=ct (fd Tryz.func143 ⟨[.v 22,.v 132,.v 3,.v 22],[.n 22 true,.v 4],true⟩ (gC (Bji K) (gC (Br9 K) gN))) (Aup K)
def Az4 (K:Nat)(a0:C5)(a1:Br)(a2:Int)(a3:List Int):Option (C5×Et):=((Ap1 K a0).bind fun r1=>((Arg K a0).bind fun r2=>(bif (!r2)then some (r1,(Et.mk 1 (An.mk 0 0) (Br.mk (An.mk 0 0) 0 0) [] 0 0 0))else((As1 K a0 a1).bind fun r3=>((Aog K a0 a1.fH).bind fun r4=>(bif (r3.2.2 != 0)then some (r1,(Et.mk r3.2.2 (An.mk 0 0) (Br.mk (An.mk 0 0) 0 0) [] r4 0 0))else((Aup K a0.fP.N7 r3.2.1 a2 a3).bind fun r5=>(bif (!r5.2)then some (r1,(Et.mk 7 (An.mk 0 0) (Br.mk (An.mk 0 0) 0 0) [] r4 0 0))else some ((C5.mk r1.fC (Dn.mk r5.1 r1.fP.Vi r1.fP.N8) r1.fL r1.fQ r1.Acy),(Et.mk r3.2.2 (An.mk 0 0) (Br.mk (An.mk 0 0) 0 0) [] r4 0 0))))))))))
def Bsb:=ct (fd Tryz.func58 ⟨[.v 32,.v 38,.v 3,.v 22],[.n 32 true,.n 73 true],false⟩ (gC (A9m K) (gC (Bba K) (gC (A7c K) (gC (Bjh K) (gC (Bsa K) gN))))) [] [] [(7,[.take 114 7 6831]),(11,[.take 114 7 6831]),(13,[.take 114 7 6831])]) (Az4 K)
def Az5 (K:Nat)(v7:Et)(v10:C5):Option (C5×Et):=some (v10,v7)
def Axw (K:Nat)(a2:Int)(r1:C5)(v6:Int)(v7:Et)(v8:Et)(v9:C5):Option (C5×Et):=(bif (v7.W4==0)then(if(0:Int)≤v6∧v6<(r1.fL.length:Int)then(if(0:Int)≤v6∧v6<(r1.fL.length:Int)then(if(((gt r1.fL v6).Fi)++([a2]:List Int)).length*8≤140737488355328∧(((gt r1.fL v6).Fi)++([a2]:List Int)).length≤maxLen then(if(0:Int)≤v6∧v6<(r1.fL.length:Int)then(Az5 K v7 (C5.mk r1.fC r1.fP (r1.fL.set v6.toNat (As.mk ((gt r1.fL v6).Vi) ((gt r1.fL v6).C9) ((gt r1.fL v6).Sl) ((gt r1.fL v6).fUp) ((gt r1.fL v6).Sm) ((gt r1.fL v6).Ef) ((gt r1.fL v6).Sn) ((gt r1.fL v6).So) ((gt r1.fL v6).Ay) ((gt r1.fL v6).Acx) ((gt r1.fL v6).Sq) ((gt r1.fL v6).F6) (((gt r1.fL v6).Fi)++([a2]:List Int)))) r1.fQ r1.Acy))else none)else none)else none)else none)else(Az5 K v7 r1))
def A2f (K:Nat)(a0:C5)(a1:An)(a2:Int):Option (C5×Et):=((Ap1 K a0).bind fun r1=>((Arg K a0).bind fun r2=>(bif r2 then((Gx K a2 0 255).bind fun r3=>(bif (!r3)then some (r1,(Et.mk 1 (An.mk 0 0) (Br.mk (An.mk 0 0) 0 0) [] 0 0 0))else((Aiq K a0 a1).bind fun r4=>((Aog K a0 a1).bind fun r5=>(bif (r4.2==0)then(if(0:Int)≤r4.1∧r4.1<(a0.fL.length:Int)then(bif (decide ((((gt a0.fL r4.1).Fi).length:Int)≥6))then(Axw K a2 r1 r4.1 (Et.mk 8 (An.mk 0 0) (Br.mk (An.mk 0 0) 0 0) [] r5 0 0) (Et.mk 0 (An.mk 0 0) (Br.mk (An.mk 0 0) 0 0) [] 0 0 0) (C5.mk (Ea.mk 0 0 0 0 0 0) (Dn.mk [] [] []) [] [] []))else(Axw K a2 r1 r4.1 (Et.mk r4.2 (An.mk 0 0) (Br.mk (An.mk 0 0) 0 0) [] r5 0 0) (Et.mk 0 (An.mk 0 0) (Br.mk (An.mk 0 0) 0 0) [] 0 0 0) (C5.mk (Ea.mk 0 0 0 0 0 0) (Dn.mk [] [] []) [] [] [])))else none)else(Axw K a2 r1 r4.1 (Et.mk r4.2 (An.mk 0 0) (Br.mk (An.mk 0 0) 0 0) [] r5 0 0) (Et.mk 0 (An.mk 0 0) (Br.mk (An.mk 0 0) 0 0) [] 0 0 0) (C5.mk (Ea.mk 0 0 0 0 0 0) (Dn.mk [] [] []) [] [] [])))))))else some (r1,(Et.mk 1 (An.mk 0 0) (Br.mk (An.mk 0 0) 0 0) [] 0 0 0)))))
def Bjk:=fd Tryz.func49 ⟨[.v 32,.v 36,.v 3],[.n 32 true,.n 73 true],false⟩ (gC (A9m K) (gC (Bba K) (gC (A1m K) (gC (A7b K) (gC (A7c K) gN))))) [15,16,17,36,37] [63,127] [(9,[.take 108 9 6737,.opn 6737 (.tmp 9),.takeE 6737 12 87180]),(10,[.take 108 6 6734,.take 108 7 6735,.take 108 8 6736,.take 108 9 6737,.take 108 10 6738,.take 108 11 6739,.take 111 7 6783])]
def Bz5:Ej:=⟨[(6,.p 106),(7,.p 107),(8,.p 108),(11,.p 111)],[(111,.st 73 true),(108,.st 32 true),(107,.st 73 true),(106,.st 32 true)]⟩
def Bz6:Ej:=⟨[(2,.v 2),(6,.p 106),(7,.p 107),(8,.p 108),(9,.v 2),(11,.p 111)],[(111,.st 73 true),(108,.st 32 true),(107,.st 73 true),(106,.st 32 true)]⟩
def Bgi:=jn (Bjk K) 127 Bz5 [] (fun a b _ _=>Az5 K a b) kN
def Bjl:=jn (Bjk K) 63 Bz6 [] (fun a b c d=>Axw K a d b c) (kC (Bgi K) kN)
def Bsc:=ct (Bjk K) (A2f K) (kC (Bjl K) kN)
def A0k (K:Nat)(a0:Ea)(a1:As):Option (Int):=(bif (a1.Acx==0)then some 0 else((Apz K a0 a1).bind fun r1=>(bif (!r1)then some 0 else some (An7 .i64 a0.G8 a1.Sq))))
def Bsd:=ct (fd Tryz.func136 ⟨[.v 25,.v 50],[.v 3],true⟩ (gC (A8y K) gN) [7,8]) (A0k K)
def Axx (K:Nat)(r1:C5)(v6:Et)(v7:Et)(v8:C5):Option (C5×Et):=some (r1,v6)
def Az6 (K:Nat)(a0:C5)(a1:An):Option (C5×Et):=((Ap1 K a0).bind fun r1=>((Arg K a0).bind fun r2=>(bif (!r2)then some (r1,(Et.mk 1 (An.mk 0 0) (Br.mk (An.mk 0 0) 0 0) [] 0 0 0))else((Aiq K a0 a1).bind fun r3=>((Aog K a0 a1).bind fun r4=>(bif (r3.2==0)then(if(0:Int)≤r3.1∧r3.1<(a0.fL.length:Int)then((A0k K a0.fC (gt a0.fL r3.1)).bind fun r5=>(Axx K r1 (Et.mk r3.2 (An.mk 0 0) (Br.mk (An.mk 0 0) 0 0) ([(IntKind.u8.wrap (((gt a0.fL r3.1).Ay).length:Int)),(IntKind.u8.wrap (((gt a0.fL r3.1).F6).length:Int)),(IntKind.u8.wrap (((gt a0.fL r3.1).Fi).length:Int)),(IntKind.u8.wrap r5)]:List Int) r4 0 0) (Et.mk 0 (An.mk 0 0) (Br.mk (An.mk 0 0) 0 0) [] 0 0 0) (C5.mk (Ea.mk 0 0 0 0 0 0) (Dn.mk [] [] []) [] [] [])))else none)else(Axx K r1 (Et.mk r3.2 (An.mk 0 0) (Br.mk (An.mk 0 0) 0 0) [] r4 0 0) (Et.mk 0 (An.mk 0 0) (Br.mk (An.mk 0 0) 0 0) [] 0 0 0) (C5.mk (Ea.mk 0 0 0 0 0 0) (Dn.mk [] [] []) [] [] []))))))))
def Bqg:=fd Tryz.func52 ⟨[.v 32,.v 36],[.n 32 true,.n 73 true],false⟩ (gC (A9m K) (gC (Bba K) (gC (A7b K) (gC (A7c K) (gC (Bsd K) gN))))) [] [63] [(9,[.take 106 6 6702,.take 106 7 6703,.take 106 8 6704,.take 106 9 6705,.take 106 10 6706,.take 106 11 6707,.take 109 7 6751])]
def Bz7:Ej:=⟨[(4,.p 104),(5,.p 105),(6,.p 106),(9,.p 109)],[(109,.st 73 true),(106,.st 32 true),(105,.st 73 true),(104,.st 32 true)]⟩
def Bjm:=jn (Bqg K) 63 Bz7 [] (fun a b=>Axx K b a) kN
def Bse:=ct (Bqg K) (Az6 K) (kC (Bjm K) kN)
def Ay2 (K:Nat)(a0:C5)(a1:Co):Option (C5×Et):=(bif (a1.W3==3)then((A08 K a0 a1.fR a1.fN a1.fM).bind fun r1=>some (r1.1,r1.2))else(bif (a1.W3==4)then((Az4 K a0 a1.fR a1.fN a1.fB).bind fun r2=>some (r2.1,r2.2))else(bif (a1.W3==5)then((A2f K a0 a1.fH a1.fN).bind fun r3=>some (r3.1,r3.2))else(bif (a1.W3==8)then((Az6 K a0 a1.fH).bind fun r4=>some (r4.1,r4.2))else((Ap1 K a0).bind fun r5=>some (r5,(Et.mk 1 (An.mk 0 0) (Br.mk (An.mk 0 0) 0 0) [] 0 0 0)))))))
def Bsf:=ct (fd Tryz.func266 ⟨[.v 32,.v 40],[.n 32 true,.n 73 true],false⟩ (gC (Bsc K) (gC (Bse K) (gC (Bsb K) (gC (Br8 K) (gC (Bba K) gN)))))) (Ay2 K)
def A0l (K:Nat)(v31:Int)(v32:Int)(v33:Int)(v34:Int)(v35:Int)(v36:Int)(v37:List Int)(v38:List Int)(v39:List Int)(v40:List As)(v41:List Az)(v42:List Int)(v43:Et):Option (Et×C5):=some (v43,(C5.mk (Ea.mk v31 v32 v33 v34 v35 v36) (Dn.mk v37 v38 v39) v40 v41 v42))
def Avb (K:Nat)(v4:Bool)(v5:Int)(v6:Int)(v7:Int)(v8:Int)(v9:Int)(v10:Int)(v11:List Int)(v12:List Int)(v13:List Int)(v14:List As)(v15:List Az)(v16:List Int)(v17:Et)(v18:Int)(v19:Int)(v20:Int)(v21:Int)(v22:Int)(v23:Int)(v24:Int)(v25:Int)(v26:Int)(v27:List Int):Option (Et×C5):=(bif v4 then((Aiq K (C5.mk (Ea.mk v5 v6 v7 v8 v9 v10) (Dn.mk v11 v12 v13) v14 v15 v16) (An.mk v19 v20)).bind fun r28=>((Aog K (C5.mk (Ea.mk v5 v6 v7 v8 v9 v10) (Dn.mk v11 v12 v13) v14 v15 v16) (An.mk v19 v20)).bind fun r29=>(bif (r28.2 != 0)then some ((Et.mk r28.2 (An.mk 0 0) (Br.mk (An.mk 0 0) 0 0) [] r29 0 0),(C5.mk (Ea.mk v5 v6 v7 v8 v9 v10) (Dn.mk v11 v12 v13) v14 v15 v16))else(bif (v18==6)then((Aun K (C5.mk (Ea.mk v5 v6 v7 v8 v9 v10) (Dn.mk v11 v12 v13) v14 v15 v16) r28.1).bind fun r30=>(A0l K r30.fC.Ay r30.fC.G8 r30.fC.E6 r30.fC.Gu r30.fC.E7 r30.fC.G9 r30.fP.N7 r30.fP.Vi r30.fP.N8 r30.fL r30.fQ r30.Acy (Et.mk r28.2 (An.mk 0 0) (Br.mk (An.mk 0 0) 0 0) [] r29 0 0)))else((Awr K (C5.mk (Ea.mk v5 v6 v7 v8 v9 v10) (Dn.mk v11 v12 v13) v14 v15 v16) r28.1).bind fun r44=>(A0l K r44.fC.Ay r44.fC.G8 r44.fC.E6 r44.fC.Gu r44.fC.E7 r44.fC.G9 r44.fP.N7 r44.fP.Vi r44.fP.N8 r44.fL r44.fQ r44.Acy (Et.mk r28.2 (An.mk 0 0) (Br.mk (An.mk 0 0) 0 0) [] r29 0 0)))))))else((Ay2 K (C5.mk (Ea.mk v5 v6 v7 v8 v9 v10) (Dn.mk v11 v12 v13) v14 v15 v16) (Co.mk v18 (An.mk v19 v20) (Br.mk (An.mk v21 v22) v23 v24) v25 v26 v27)).bind fun r45=>some (r45.2,r45.1)))
def Az7 (K:Nat)(a0:C5)(a1:Co):Option (Et×C5):=(bif (a1.W3==1)then((Axo K a0 a1.fH).bind fun r1=>some (r1.1,r1.2))else(bif (a1.W3==2)then((Awq K a0 a1.fH a1.fN a1.fM).bind fun r2=>some (r2.1,r2.2))else(bif (a1.W3==9)then((Au5 K a0 4000).bind fun r3=>some ((Et.mk 0 (An.mk 0 0) (Br.mk (An.mk 0 0) 0 0) [] 0 0 r3.1),r3.2))else(bif (a1.W3==6)then(Avb K (a1.W3==6) a0.fC.Ay a0.fC.G8 a0.fC.E6 a0.fC.Gu a0.fC.E7 a0.fC.G9 a0.fP.N7 a0.fP.Vi a0.fP.N8 a0.fL a0.fQ a0.Acy (Et.mk 0 (An.mk 0 0) (Br.mk (An.mk 0 0) 0 0) [] 0 0 0) a1.W3 a1.fH.Bm a1.fH.C9 a1.fR.fH.Bm a1.fR.fH.C9 a1.fR.Sl a1.fR.fNo a1.fN a1.fM a1.fB)else(Avb K (a1.W3==7) a0.fC.Ay a0.fC.G8 a0.fC.E6 a0.fC.Gu a0.fC.E7 a0.fC.G9 a0.fP.N7 a0.fP.Vi a0.fP.N8 a0.fL a0.fQ a0.Acy (Et.mk 0 (An.mk 0 0) (Br.mk (An.mk 0 0) 0 0) [] 0 0 0) a1.W3 a1.fH.Bm a1.fH.C9 a1.fR.fH.Bm a1.fR.fH.C9 a1.fR.Sl a1.fR.fNo a1.fN a1.fM a1.fB)))))
def Bjn:=fd Tryz.func230 ⟨[.b 32 false,.v 40],[.v 73],false⟩ (gC (Bw6 K) (gC (Bw4 K) (gC (A7b K) (gC (A7c K) (gC (Bwv K) (gC (Bw2 K) (gC (Bi0 K) (gC (Bsf K) gN)))))))) [] [1727,55287] [(10,[.take 1 6 5022,.take 1 7 5023,.take 1 8 5024,.take 1 9 5025,.take 1 10 5026,.take 1 11 5027]),(13,[.take 107 7 6719]),(15,[.put 1]),(16,[.put 1]),(17,[.take 107 7 6719]),(18,[.take 1 6 5022,.take 1 7 5023,.take 1 8 5024,.take 1 9 5025,.take 1 10 5026,.take 1 11 5027,.frz 5022,.frz 5023,.frz 5024,.frz 5025,.frz 5026,.frz 5027])]
def Bz8:Ej:=⟨[(4,.p 104),(7,.p 107)],[(1,.box [.v 2,.v 2,.v 2,.v 2,.v 2,.v 2,.T 5 true,.T 3 true,.T 3 true,.T 50 true,.T 52 false,.T 3 true]),(107,.st 73 true),(104,.st 73 true)]⟩
def Bz9:Ej:=⟨[(0,.p 1),(3,.p 103),(4,.p 104),(33,.v 4)],[(1,.box [.v 2,.v 2,.v 2,.v 2,.v 2,.v 2,.T 5 true,.T 3 true,.T 3 true,.T 50 true,.T 52 false,.T 3 true]),(104,.st 73 true),(103,.box [.v 2,.v 2,.v 2,.v 2,.v 2,.v 2,.v 2,.v 2,.v 2,.v 22])]⟩
def Bbd:=jn (Bjn K) 55287 Bz8 [] (fun a b c d e f g h i j k l m _=>A0l K a b c d e f g h i j k l m) kN
def Bda:=jn (Bjn K) 1727 Bz9 [] (Avb K) (kC (Bbd K) kN)
def Bsg:=ct (Bjn K) (Az7 K) (kC (Bda K) kN)
def At1 (K:Nat):Nat->(List Co)->Int->(List Int)->Int->Int->C5->Ea->C5->Ea->Option (Ea×(List Co)×C5×D1)
 |0,_,_,_,_,_,_,_,_,_=>none
 |n1+1,v4,v5,v6,v7,v8,v9,v10,v11,v12=>(bif (decide (v5>0))then(bif (decide ((v4.length:Int)<200))then((Au1 K (D1.mk v6 v7 v8) v9).bind fun r13=>(if r13.2.2.1.length=v9.fP.N7.length∧r13.2.2.2.1.length=v9.fP.Vi.length∧r13.2.2.2.2.1.length=v9.fP.N8.length∧r13.2.2.2.2.2.1.length=v9.fL.length∧r13.2.2.2.2.2.2.1.length=v9.fQ.length∧r13.2.2.2.2.2.2.2.length=v9.Acy.length then(if(v4++([r13.1]:List Co)).length*96≤140737488355328∧(v4++([r13.1]:List Co)).length≤maxLen then((Az7 K (C5.mk v9.fC (Dn.mk r13.2.2.1 r13.2.2.2.1 r13.2.2.2.2.1) r13.2.2.2.2.2.1 r13.2.2.2.2.2.2.1 r13.2.2.2.2.2.2.2) r13.1).bind fun r14=>(At1 K n1 (v4++([r13.1]:List Co)) (An7 .i64 v5 1) r13.2.1.fb r13.2.1.fi r13.2.1.fh r14.2 v10 v11 v12))else none)else none))else some (v10,v4,v9,(D1.mk v6 v7 v8)))else some (v10,v4,v9,(D1.mk v6 v7 v8)))
def Ay3 (K:Nat)(a0:D1)(a1:Int):Option (Ea×(List Co)×C5×D1):=((Av2 K a0).bind fun r1=>((Awj K r1.1).bind fun r2=>((Ap K r1.2 a1).bind fun r3=>(At1 K K ([]:List Co) (An6 .i64 4 r3.1) r3.2.fb r3.2.fi r3.2.fh r2 r1.1 (C5.mk (Ea.mk 0 0 0 0 0 0) (Dn.mk [] [] []) [] [] []) (Ea.mk 0 0 0 0 0 0)))))
def Bqh:=fd Tryz.func149 ⟨[.b 148 false,.v 3],[.v 25,.n 149 false,.n 32 false],false⟩ (gC (Bvp K) (gC (A2x K) (gC (Bpx K) (gC (Bvj K) (gC (Bsg K) gN))))) [22,23] [] [(4,[.put 108,.take 108 10 6738,.shal 6738,.put 108,.shal 1009]),(7,[.take 108 6 6734,.take 108 7 6735,.take 108 8 6736,.take 108 9 6737,.take 108 10 6738,.take 108 11 6739]),(9,[.put 108]),(10,[.take 108 6 6734,.take 108 7 6735,.take 108 8 6736,.take 108 9 6737,.take 108 10 6738,.take 108 11 6739])] [(32,[.frz 3032])]
def B0a:Ej:=⟨[(0,.p 1),(4,.p 104),(6,.p 106),(7,.p 107),(8,.p 108),(9,.o 1009 40 false),(10,.v 2)],[(1,.box [.v 22,.v 2,.v 2]),(108,.st 32 false),(107,.st 25 true),(106,.st 32 true),(104,.st 25 true)]⟩
def Bgj:=lp (Bqh K) 250 B0a [] (At1 K) (fun n=>kN)
def Bsh:=ct (Bqh K) (Ay3 K) (kC (Bgj K K) kN)
def At2 (K:Nat)(a0:D1)(a1:Int):Option (C5×D1):=((Ay3 K a0 a1).bind fun r1=>some (r1.2.2.1,r1.2.2.2))
def Bjo:=ct (fd Tryz.func68 ⟨[.b 148 false,.v 3],[.n 32 false],false⟩ (gC (Bsh K) gN)) (At2 K)
def Avv (K:Nat)(a0:List Int):Option (C5×Co):=((Axg K a0).bind fun r1=>((Av1 K a0 50).bind fun r2=>((At2 K r1 (An6 .i64 20 r2)).bind fun r3=>((Au1 K r3.2 r3.1).bind fun r4=>(if r4.2.2.1.length=r3.1.fP.N7.length∧r4.2.2.2.1.length=r3.1.fP.Vi.length∧r4.2.2.2.2.1.length=r3.1.fP.N8.length∧r4.2.2.2.2.2.1.length=r3.1.fL.length∧r4.2.2.2.2.2.2.1.length=r3.1.fQ.length∧r4.2.2.2.2.2.2.2.length=r3.1.Acy.length then some ((C5.mk r3.1.fC (Dn.mk r4.2.2.1 r4.2.2.2.1 r4.2.2.2.2.1) r4.2.2.2.2.2.1 r4.2.2.2.2.2.2.1 r4.2.2.2.2.2.2.2),r4.1)else none)))))
def Bsi:=ct (fd Tryz.func11 ⟨[.v 22],[.n 32 false,.n 40 true],false⟩ (gC (Bvh K) (gC (Bjo K) (gC (Byu K) (gC (Bpx K) gN))))) (Avv K)
def Ao9 (K:Nat)(v4:List Int)(v5:Int)(v6:Int)(v7:Ea)(v8:Ea):Option (Ea×D1):=some (v7,(D1.mk v4 v5 v6))
def Az8 (K:Nat)(a0:D1):Option (Ea×D1):=((Av2 K a0).bind fun r1=>((Ap K r1.2 14).bind fun r2=>(bif (r2.1==0)then((P2 K r2.2 ([1,2,12,13]:List Int)).bind fun r3=>(if r3.2.2.length=([1,2,12,13]:List Int).length then(Ao9 K r3.2.1.fb r3.2.1.fi r3.2.1.fh (Ea.mk r3.1 r1.1.G8 r1.1.E6 r1.1.Gu r1.1.E7 r1.1.G9) (Ea.mk 0 0 0 0 0 0))else none))else(bif (r2.1==1)then((P2 K r2.2 ([7,8,16,17]:List Int)).bind fun r9=>(if r9.2.2.length=([7,8,16,17]:List Int).length then(Ao9 K r9.2.1.fb r9.2.1.fi r9.2.1.fh (Ea.mk r1.1.Ay r9.1 r1.1.E6 r1.1.Gu r1.1.E7 r1.1.G9) (Ea.mk 0 0 0 0 0 0))else none))else(bif (r2.1==2)then((P2 K r2.2 ([1,8,9]:List Int)).bind fun r10=>(if r10.2.2.length=([1,8,9]:List Int).length then(Ao9 K r10.2.1.fb r10.2.1.fi r10.2.1.fh (Ea.mk r1.1.Ay r1.1.G8 r10.1 r1.1.Gu r1.1.E7 r1.1.G9) (Ea.mk 0 0 0 0 0 0))else none))else(bif (r2.1==3)then((P2 K r2.2 ([0,8,9]:List Int)).bind fun r11=>(if r11.2.2.length=([0,8,9]:List Int).length then(Ao9 K r11.2.1.fb r11.2.1.fi r11.2.1.fh (Ea.mk r1.1.Ay r1.1.G8 r1.1.E6 r11.1 r1.1.E7 r1.1.G9) (Ea.mk 0 0 0 0 0 0))else none))else(bif (r2.1==4)then((P2 K r2.2 ([0,17]:List Int)).bind fun r12=>(if r12.2.2.length=([0,17]:List Int).length then(Ao9 K r12.2.1.fb r12.2.1.fi r12.2.1.fh (Ea.mk r1.1.Ay r1.1.G8 r1.1.E6 r1.1.Gu r12.1 r1.1.G9) (Ea.mk 0 0 0 0 0 0))else none))else(bif (r2.1==5)then((P2 K r2.2 ([0,5]:List Int)).bind fun r13=>(if r13.2.2.length=([0,5]:List Int).length then(Ao9 K r13.2.1.fb r13.2.1.fi r13.2.1.fh (Ea.mk r1.1.Ay r1.1.G8 r1.1.E6 r1.1.Gu r1.1.E7 r13.1) (Ea.mk 0 0 0 0 0 0))else none))else(Ao9 K r2.2.fb r2.2.fi r2.2.fh r1.1 (Ea.mk 0 0 0 0 0 0))))))))))
def Bqi:=fd Tryz.func90 ⟨[.b 148 false],[.v 25],false⟩ (gC (A2x K) (gC (A9i K) (gC (Bvj K) gN))) [] [7]
def B0b:Ej:=⟨[(2,.p 102),(3,.p 103)],[(1,.box [.v 22,.v 2,.v 2]),(103,.st 25 true),(102,.st 25 true)]⟩
def Bon:=jn (Bqi K) 7 B0b [] (Ao9 K) kN
def Bsj:=ct (Bqi K) (Az8 K) (kC (Bon K) kN)
def As2 (K:Nat)(a1:Ea)(v4:List Int)(v5:Int)(v6:Int)(v7:Bc):Option (Bc×D1):=((Ap K (D1.mk v4 v5 v6) a1.Ay).bind fun r8=>((Ap K r8.2 a1.G8).bind fun r9=>((Ap K r9.2 (An7 .i64 a1.G8 r9.1)).bind fun r10=>some ((Bc.mk (An6 .i64 (An8 .i64 r8.1 a1.G8) r9.1) (An6 .i64 1 r10.1) 0),r10.2))))
def Axy (K:Nat)(a0:D1)(a1:Ea):Option (Bc×D1):=((Ahh K a0 4).bind fun r1=>(bif r1.1 then(bif (decide (a1.Ay>2))then((Ap K r1.2 (An7 .i64 a1.Ay 1)).bind fun r2=>((Ap K r2.2 a1.G8).bind fun r3=>some ((Bc.mk (An8 .i64 a1.G8 r2.1) (An6 .i64 (An6 .i64 a1.G8 1) r3.1) 2),r3.2)))else(As2 K a1 r1.2.fb r1.2.fi r1.2.fh (Bc.mk 0 0 0)))else(As2 K a1 r1.2.fb r1.2.fi r1.2.fh (Bc.mk 0 0 0))))
def Bqj:=fd Tryz.func285 ⟨[.b 148 false,.v 25],[.v 132],false⟩ (gC (A2x K) (gC (A8v K) gN)) [8,9] [3]
def B0c:Ej:=⟨[(0,.p 1),(3,.p 103),(4,.p 104)],[(1,.box [.v 22,.v 2,.v 2]),(104,.st 132 true),(103,.st 25 true)]⟩
def Boo:=jn (Bqj K) 3 B0c [] (fun a b c d e=>As2 K e a b c d) kN
def Bsk:=ct (Bqj K) (Axy K) (kC (Boo K) kN)
def At3 (K:Nat):Nat->Int->(List Int)->Int->Int->As->Option (As×D1)
 |0,_,_,_,_,_=>none
 |n4+1,v25,v26,v27,v28,v29=>(bif (decide (v25>0))then((Ap K (D1.mk v26 v27 v28) 256).bind fun r30=>(if(v29.Fi++([r30.1]:List Int)).length*8≤140737488355328∧(v29.Fi++([r30.1]:List Int)).length≤maxLen then(At3 K n4 (An7 .i64 v25 1) r30.2.fb r30.2.fi r30.2.fh (As.mk v29.Vi v29.C9 v29.Sl v29.fUp v29.Sm v29.Ef v29.Sn v29.So v29.Ay v29.Acx v29.Sq v29.F6 (v29.Fi++([r30.1]:List Int))))else none))else some (v29,(D1.mk v26 v27 v28)))
def At4 (K:Nat)(a1:Ea):Nat->Int->(List Int)->Int->Int->As->Option (As×D1)
 |0,_,_,_,_,_=>none
 |n3+1,v18,v19,v20,v21,v22=>(bif (decide (v18>0))then((Axy K (D1.mk v19 v20 v21) a1).bind fun r23=>(if(v22.F6++([r23.1]:List Bc)).length*24≤140737488355328∧(v22.F6++([r23.1]:List Bc)).length≤maxLen then(At4 K a1 n3 (An7 .i64 v18 1) r23.2.fb r23.2.fi r23.2.fh (As.mk v22.Vi v22.C9 v22.Sl v22.fUp v22.Sm v22.Ef v22.Sn v22.So v22.Ay v22.Acx v22.Sq (v22.F6++([r23.1]:List Bc)) v22.Fi))else none))else((Ap K (D1.mk v19 v20 v21) 3).bind fun r24=>(At3 K K r24.1 r24.2.fb r24.2.fi r24.2.fh v22)))
def At5 (K:Nat)(a1:Ea)(v13:List Int)(v14:Int)(v15:Int)(v16:As):Option (As×D1):=((Ap K (D1.mk v13 v14 v15) 3).bind fun r17=>(At4 K a1 K r17.1 r17.2.fb r17.2.fi r17.2.fh v16))
def At6 (K:Nat)(a1:Ea):Nat->Int->(List Int)->Int->Int->As->As->Option (As×D1)
 |0,_,_,_,_,_,_=>none
 |n1+1,v6,v7,v8,v9,v10,v11=>(bif (decide (v6>0))then(if(v10.Ay++([(An7 .i64 v6 1)]:List Int)).length*8≤140737488355328∧(v10.Ay++([(An7 .i64 v6 1)]:List Int)).length≤maxLen then(At6 K a1 n1 (An7 .i64 v6 1) v7 v8 v9 (As.mk v10.Vi v10.C9 v10.Sl v10.fUp v10.Sm v10.Ef v10.Sn v10.So (v10.Ay++([(An7 .i64 v6 1)]:List Int)) v10.Acx v10.Sq v10.F6 v10.Fi) v11)else none)else(bif (decide ((v10.Ay.length:Int)>0))then(if(0:Int)≤0∧0<(v10.Ay.length:Int)then((Ap K (D1.mk v7 v8 v9) (An6 .i64 a1.G8 1)).bind fun r12=>(At5 K a1 r12.2.fb r12.2.fi r12.2.fh (As.mk v10.Vi v10.C9 v10.Sl v10.fUp v10.Sm v10.Ef v10.Sn v10.So v10.Ay (An6 .i64 (gt v10.Ay 0) 1) r12.1 v10.F6 v10.Fi)))else none)else(At5 K a1 v7 v8 v9 v10)))
def Ay4 (K:Nat)(a0:D1)(a1:Ea):Option (As×D1):=((Ap K a0 a1.G9).bind fun r1=>((Aky K (An6 .i64 1 r1.1)).bind fun r2=>((Ap K r1.2 4).bind fun r3=>(bif (r3.1 != 1)then some ((As.mk r3.1 r2.C9 r2.Sl r2.fUp r2.Sm r2.Ef r2.Sn r2.So r2.Ay r2.Acx r2.Sq r2.F6 r2.Fi),r3.2)else((Ap K r3.2 3).bind fun r4=>((Ap K r4.2 3).bind fun r5=>(At6 K a1 K r5.1 r5.2.fb r5.2.fi r5.2.fh (As.mk r3.1 r2.C9 r4.1 r2.fUp r2.Sm r2.Ef r2.Sn r2.So r2.Ay r2.Acx r2.Sq r2.F6 r2.Fi) (As.mk 0 0 0 0 0 0 0 0 [] 0 0 [] []))))))))
def Bbe:=fd Tryz.func254 ⟨[.b 148 false,.v 25],[.n 50 false],false⟩ (gC (A2x K) (gC (Ba8 K) (gC (Bsk K) gN))) [] [127] [(9,[.take 105 8 6688]),(10,[.take 105 8 6688]),(17,[.take 105 11 6691]),(21,[.take 105 12 6692]),(22,[.take 105 8 6688,.take 105 11 6691,.take 105 12 6692])]
def B0d:Ej:=⟨[(0,.p 1),(4,.p 104),(5,.p 105),(9,.v 2)],[(1,.box [.v 22,.v 2,.v 2]),(105,.st 50 false),(104,.st 50 false)]⟩
def Bxl:Ej:=⟨[(0,.p 1),(3,.p 103),(4,.p 104),(5,.p 105),(7,.v 2)],[(1,.box [.v 22,.v 2,.v 2]),(105,.st 50 false),(104,.st 50 false),(103,.st 25 true)]⟩
def B0e:Ej:=⟨[(0,.p 1),(3,.p 103),(4,.p 104),(5,.p 105)],[(1,.box [.v 22,.v 2,.v 2]),(105,.st 50 false),(104,.st 50 false),(103,.st 25 true)]⟩
def B0f:Ej:=⟨[(0,.p 1),(3,.p 103),(4,.p 104),(5,.p 105),(6,.v 2)],[(1,.box [.v 22,.v 2,.v 2]),(105,.st 50 false),(104,.st 50 false),(103,.st 25 true)]⟩
def Bdb:=lp (Bbe K) 4090 B0d [] (fun n a b c d e _=>At3 K n a b c d e) (fun n=>kN)
def Bdc:=lp (Bbe K) 2042 Bxl [] (fun n a b c d e _ g=>At4 K g n a b c d e) (fun n=>(kC (up (Bdb K K)) kN))
def Bgk:=jn (Bbe K) 127 B0e [] (fun a b c d _ f=>At5 K f a b c d) (kC (Bdc K K) kN)
def Bgl:=lp (Bbe K) 506 B0f [] (fun n a b c d e f g=>At6 K g n a b c d e f) (fun n=>(kC (up (Bgk K)) kN))
def Bsl:=ct (Bbe K) (Ay4 K) (kC (Bgl K K) kN)
def Ak1 (K:Nat)(v4:List Int)(v5:Int)(v6:Int)(v7:As)(v8:As):Option (As×D1):=some (v7,(D1.mk v4 v5 v6))
def Az9 (K:Nat)(a0:D1)(a1:Ea):Option (As×D1):=((Ay4 K a0 a1).bind fun r1=>((Ap K r1.2 14).bind fun r2=>(bif (r2.1==0)then((Ap K r2.2 6).bind fun r3=>(Ak1 K r3.2.fb r3.2.fi r3.2.fh (As.mk (An7 .i64 r3.1 1) r1.1.C9 r1.1.Sl r1.1.fUp r1.1.Sm r1.1.Ef r1.1.Sn r1.1.So r1.1.Ay r1.1.Acx r1.1.Sq r1.1.F6 r1.1.Fi) (As.mk 0 0 0 0 0 0 0 0 [] 0 0 [] [])))else(bif (r2.1==1)then((P2 K r2.2 ([0,4,5]:List Int)).bind fun r9=>(if r9.2.2.length=([0,4,5]:List Int).length then(Ak1 K r9.2.1.fb r9.2.1.fi r9.2.1.fh (As.mk r1.1.Vi r9.1 r1.1.Sl r1.1.fUp r1.1.Sm r1.1.Ef r1.1.Sn r1.1.So r1.1.Ay r1.1.Acx r1.1.Sq r1.1.F6 r1.1.Fi) (As.mk 0 0 0 0 0 0 0 0 [] 0 0 [] []))else none))else(bif (r2.1==2)then((P2 K r2.2 ([(-1),1,8,9]:List Int)).bind fun r10=>(if r10.2.2.length=([(-1),1,8,9]:List Int).length then(Ak1 K r10.2.1.fb r10.2.1.fi r10.2.1.fh (As.mk r1.1.Vi r1.1.C9 r1.1.Sl r10.1 r1.1.Sm r1.1.Ef r1.1.Sn r1.1.So r1.1.Ay r1.1.Acx r1.1.Sq r1.1.F6 r1.1.Fi) (As.mk 0 0 0 0 0 0 0 0 [] 0 0 [] []))else none))else(bif (r2.1==3)then((P2 K r2.2 ([0,12,(-1)]:List Int)).bind fun r11=>(if r11.2.2.length=([0,12,(-1)]:List Int).length then(if(r1.1.Ay++([r11.1]:List Int)).length*8≤140737488355328∧(r1.1.Ay++([r11.1]:List Int)).length≤maxLen then(Ak1 K r11.2.1.fb r11.2.1.fi r11.2.1.fh (As.mk r1.1.Vi r1.1.C9 r1.1.Sl r1.1.fUp r1.1.Sm r1.1.Ef r1.1.Sn r1.1.So (r1.1.Ay++([r11.1]:List Int)) r1.1.Acx r1.1.Sq r1.1.F6 r1.1.Fi) (As.mk 0 0 0 0 0 0 0 0 [] 0 0 [] []))else none)else none))else(bif (r2.1==4)then((Ap K r2.2 4).bind fun r12=>(Ak1 K r12.2.fb r12.2.fi r12.2.fh (As.mk r1.1.Vi r1.1.C9 r1.1.Sl r1.1.fUp r1.1.Sm r1.1.Ef r1.1.Sn r1.1.So r1.1.Ay r12.1 r1.1.Sq r1.1.F6 r1.1.Fi) (As.mk 0 0 0 0 0 0 0 0 [] 0 0 [] [])))else(bif (r2.1==5)then((P2 K r2.2 ([0,8,17,(-1)]:List Int)).bind fun r13=>(if r13.2.2.length=([0,8,17,(-1)]:List Int).length then(Ak1 K r13.2.1.fb r13.2.1.fi r13.2.1.fh (As.mk r1.1.Vi r1.1.C9 r1.1.Sl r1.1.fUp r1.1.Sm r1.1.Ef r1.1.Sn r1.1.So r1.1.Ay r1.1.Acx r13.1 r1.1.F6 r1.1.Fi) (As.mk 0 0 0 0 0 0 0 0 [] 0 0 [] []))else none))else(bif (r2.1==6)then((P2 K r2.2 ([255,256,(-1)]:List Int)).bind fun r14=>(if r14.2.2.length=([255,256,(-1)]:List Int).length then(if(r1.1.Fi++([r14.1]:List Int)).length*8≤140737488355328∧(r1.1.Fi++([r14.1]:List Int)).length≤maxLen then(Ak1 K r14.2.1.fb r14.2.1.fi r14.2.1.fh (As.mk r1.1.Vi r1.1.C9 r1.1.Sl r1.1.fUp r1.1.Sm r1.1.Ef r1.1.Sn r1.1.So r1.1.Ay r1.1.Acx r1.1.Sq r1.1.F6 (r1.1.Fi++([r14.1]:List Int))) (As.mk 0 0 0 0 0 0 0 0 [] 0 0 [] []))else none)else none))else(bif (r2.1==7)then((Ap K r2.2 100).bind fun r15=>((Ap K r15.2 20).bind fun r16=>((Ap K r16.2 3).bind fun r17=>(if(r1.1.F6++([(Bc.mk r15.1 r16.1 r17.1)]:List Bc)).length*24≤140737488355328∧(r1.1.F6++([(Bc.mk r15.1 r16.1 r17.1)]:List Bc)).length≤maxLen then(Ak1 K r17.2.fb r17.2.fi r17.2.fh (As.mk r1.1.Vi r1.1.C9 r1.1.Sl r1.1.fUp r1.1.Sm r1.1.Ef r1.1.Sn r1.1.So r1.1.Ay r1.1.Acx r1.1.Sq (r1.1.F6++([(Bc.mk r15.1 r16.1 r17.1)]:List Bc)) r1.1.Fi) (As.mk 0 0 0 0 0 0 0 0 [] 0 0 [] []))else none))))else(Ak1 K r2.2.fb r2.2.fi r2.2.fh r1.1 (As.mk 0 0 0 0 0 0 0 0 [] 0 0 [] []))))))))))))
def Bqk:=fd Tryz.func187 ⟨[.b 148 false,.v 25],[.n 50 false],false⟩ (gC (A2x K) (gC (A9i K) (gC (Bsl K) gN))) [] [7] [(19,[.take 105 8 6688,.take 105 11 6691,.take 105 12 6692])]
def B0g:Ej:=⟨[(4,.p 104),(5,.p 105)],[(1,.box [.v 22,.v 2,.v 2]),(105,.st 50 false),(104,.st 50 false)]⟩
def Bop:=jn (Bqk K) 7 B0g [] (Ak1 K) kN
def Bsm:=ct (Bqk K) (Az9 K) (kC (Bop K) kN)
def As3 (K:Nat):Nat->Int->(List Int)->Int->Int->As->Option (As×D1)
 |0,_,_,_,_,_=>none
 |n3+1,v23,v24,v25,v26,v27=>(bif (decide (v23>0))then((Ap K (D1.mk v24 v25 v26) 256).bind fun r28=>(if(v27.Fi++([r28.1]:List Int)).length*8≤140737488355328∧(v27.Fi++([r28.1]:List Int)).length≤maxLen then(As3 K n3 (An7 .i64 v23 1) r28.2.fb r28.2.fi r28.2.fh (As.mk v27.Vi v27.C9 v27.Sl v27.fUp v27.Sm v27.Ef v27.Sn v27.So v27.Ay v27.Acx v27.Sq v27.F6 (v27.Fi++([r28.1]:List Int))))else none))else some (v27,(D1.mk v24 v25 v26)))
def As4 (K:Nat)(v18:List Int)(v19:Int)(v20:Int)(v21:As):Option (As×D1):=((Ap K (D1.mk v18 v19 v20) 3).bind fun r22=>(As3 K K r22.1 r22.2.fb r22.2.fi r22.2.fh v21))
def As5 (K:Nat)(a1:Ea):Nat->Int->(List Int)->Int->Int->As->As->Option (As×D1)
 |0,_,_,_,_,_,_=>none
 |n1+1,v7,v8,v9,v10,v11,v12=>(bif (decide (v7>0))then((Ap K (D1.mk v8 v9 v10) 5).bind fun r13=>((P2 K r13.2 ([1,2,4]:List Int)).bind fun r14=>(if r14.2.2.length=([1,2,4]:List Int).length then((Aty K a1 v11 (An6 .i64 1 r13.1) r14.1).bind fun r15=>(As5 K a1 n1 (An7 .i64 v7 1) r14.2.1.fb r14.2.1.fi r14.2.1.fh r15.1 v12))else none)))else((Ahh K (D1.mk v8 v9 v10) 3).bind fun r16=>(bif r16.1 then((Aqe K a1 v11 2 (An6 .i64 a1.G8 1)).bind fun r17=>(As4 K r16.2.fb r16.2.fi r16.2.fh r17.1))else(As4 K r16.2.fb r16.2.fi r16.2.fh v11))))
def Axz (K:Nat)(a0:D1)(a1:Ea):Option (As×D1):=((Ap K a0 a1.G9).bind fun r1=>((Aky K (An6 .i64 1 r1.1)).bind fun r2=>((Ap K r1.2 2).bind fun r3=>((Ap K r3.2 2).bind fun r4=>((Auf K a1 (As.mk 1 r2.C9 r3.1 r2.fUp r2.Sm r2.Ef r2.Sn r2.So r2.Ay r2.Acx r2.Sq r2.F6 r2.Fi) r4.1).bind fun r5=>((Ap K r4.2 4).bind fun r6=>(As5 K a1 K r6.1 r6.2.fb r6.2.fi r6.2.fh r5.1 (As.mk 0 0 0 0 0 0 0 0 [] 0 0 [] []))))))))
def Be7:=fd Tryz.func286 ⟨[.b 148 false,.v 25],[.n 50 false],false⟩ (gC (A2x K) (gC (A9i K) (gC (A8v K) (gC (Ba8 K) (gC (Biz K) (gC (Bqc K) (gC (Bqa K) gN))))))) [] [255] [(9,[.take 105 8 6688,.take 105 11 6691,.take 105 12 6692]),(11,[.take 105 8 6688,.take 105 11 6691,.take 105 12 6692]),(15,[.take 105 12 6692]),(16,[.take 105 8 6688,.take 105 11 6691,.take 105 12 6692])]
def B0h:Ej:=⟨[(0,.p 1),(4,.p 104),(5,.p 105),(8,.v 2)],[(1,.box [.v 22,.v 2,.v 2]),(105,.st 50 false),(104,.st 50 false)]⟩
def B0i:Ej:=⟨[(0,.p 1),(4,.p 104),(5,.p 105)],[(1,.box [.v 22,.v 2,.v 2]),(105,.st 50 false),(104,.st 50 false)]⟩
def Bdd:=lp (Be7 K) 4090 B0h [] (fun n a b c d e _=>As3 K n a b c d e) (fun n=>kN)
def Bgm:=jn (Be7 K) 255 B0i [] (fun a b c d _=>As4 K a b c d) (kC (Bdd K K) kN)
def Bde:=lp (Be7 K) 1018 Bxl [] (fun n a b c d e f g=>As5 K g n a b c d e f) (fun n=>(kC (up (Bgm K)) kN))
def Bsn:=ct (Be7 K) (Axz K) (kC (Bde K K) kN)
def Avw (K:Nat)(v12:List Int)(v13:Int)(v14:Int)(v15:Az):Option (Az×D1):=some (v15,(D1.mk v12 v13 v14))
def As6 (K:Nat)(v6:List Int)(v7:Int)(v8:Int)(v9:Az)(v10:Az):Option (Az×D1):=((Ahh K (D1.mk v6 v7 v8) 4).bind fun r11=>(bif r11.1 then(Avw K r11.2.fb r11.2.fi r11.2.fh (Az.mk v9.Bm v9.Ef ([]:List Int) ([]:List Int) 0))else(Avw K r11.2.fb r11.2.fi r11.2.fh v9)))
def Ax0 (K:Nat)(a0:D1)(a1:Ea):Option (Az×D1):=((Axz K a0 a1).bind fun r1=>((Ap K r1.2 (An6 .i64 a1.E6 1)).bind fun r2=>((Asr K r1.1 r2.1).bind fun r3=>((Ap K r2.2 3).bind fun r4=>(bif (decide ((r3.Ay.length:Int)>0))then((Ap K r4.2 a1.G8).bind fun r5=>(As6 K r5.2.fb r5.2.fi r5.2.fh (Az.mk r3.Bm r4.1 r3.Fi r3.Ay r5.1) (Az.mk 0 0 [] [] 0)))else(As6 K r4.2.fb r4.2.fi r4.2.fh (Az.mk r3.Bm r4.1 r3.Fi r3.Ay r3.Wz) (Az.mk 0 0 [] [] 0)))))))
def Bjp:=fd Tryz.func255 ⟨[.b 148 false,.v 25],[.n 52 true],false⟩ (gC (A2x K) (gC (A8v K) (gC (Bin K) (gC (Bsn K) gN)))) [] [15,31] [(9,[.take 105 2 6682,.take 105 3 6683])]
def Bxm:Ej:=⟨[(4,.p 104),(5,.p 105)],[(1,.box [.v 22,.v 2,.v 2]),(105,.st 52 true),(104,.st 52 true)]⟩
def B0j:Ej:=⟨[(0,.p 1),(4,.p 104),(5,.p 105)],[(1,.box [.v 22,.v 2,.v 2]),(105,.st 52 true),(104,.st 52 true)]⟩
def Bjq:=jn (Bjp K) 31 Bxm [] (fun a b c d _=>Avw K a b c d) kN
def Bjr:=jn (Bjp K) 15 B0j [] (As6 K) (kC (Bjq K) kN)
def Bso:=ct (Bjp K) (Ax0 K) (kC (Bjr K) kN)
def Apk (K:Nat)(v4:List Int)(v5:Int)(v6:Int)(v7:Az)(v8:Az):Option (Az×D1):=some (v7,(D1.mk v4 v5 v6))
def Ay5 (K:Nat)(a0:D1)(a1:Ea):Option (Az×D1):=((Ax0 K a0 a1).bind fun r1=>((Ap K r1.2 10).bind fun r2=>(bif (r2.1==0)then((P2 K r2.2 ([(-1),0,8,9]:List Int)).bind fun r3=>(if r3.2.2.length=([(-1),0,8,9]:List Int).length then(Apk K r3.2.1.fb r3.2.1.fi r3.2.1.fh (Az.mk r3.1 r1.1.Ef r1.1.Fi r1.1.Ay r1.1.Wz) (Az.mk 0 0 [] [] 0))else none))else(bif (r2.1==1)then((P2 K r2.2 ([(-1),9,0]:List Int)).bind fun r9=>(if r9.2.2.length=([(-1),9,0]:List Int).length then(Apk K r9.2.1.fb r9.2.1.fi r9.2.1.fh (Az.mk r1.1.Bm r9.1 r1.1.Fi r1.1.Ay r1.1.Wz) (Az.mk 0 0 [] [] 0))else none))else(bif (r2.1==2)then((P2 K r2.2 ([(-1),0,8,16]:List Int)).bind fun r10=>(if r10.2.2.length=([(-1),0,8,16]:List Int).length then(Apk K r10.2.1.fb r10.2.1.fi r10.2.1.fh (Az.mk r1.1.Bm r1.1.Ef r1.1.Fi r1.1.Ay r10.1) (Az.mk 0 0 [] [] 0))else none))else(bif (r2.1==3)then((P2 K r2.2 ([(-1),255,256]:List Int)).bind fun r11=>(if r11.2.2.length=([(-1),255,256]:List Int).length then(if(r1.1.Fi++([r11.1]:List Int)).length*8≤140737488355328∧(r1.1.Fi++([r11.1]:List Int)).length≤maxLen then(Apk K r11.2.1.fb r11.2.1.fi r11.2.1.fh (Az.mk r1.1.Bm r1.1.Ef (r1.1.Fi++([r11.1]:List Int)) r1.1.Ay r1.1.Wz) (Az.mk 0 0 [] [] 0))else none)else none))else(bif (r2.1==4)then((P2 K r2.2 ([(-1),0,12]:List Int)).bind fun r12=>(if r12.2.2.length=([(-1),0,12]:List Int).length then(if(r1.1.Ay++([r12.1]:List Int)).length*8≤140737488355328∧(r1.1.Ay++([r12.1]:List Int)).length≤maxLen then(Apk K r12.2.1.fb r12.2.1.fi r12.2.1.fh (Az.mk r1.1.Bm r1.1.Ef r1.1.Fi (r1.1.Ay++([r12.1]:List Int)) r1.1.Wz) (Az.mk 0 0 [] [] 0))else none)else none))else(Apk K r2.2.fb r2.2.fi r2.2.fh r1.1 (Az.mk 0 0 [] [] 0)))))))))
def Bql:=fd Tryz.func188 ⟨[.b 148 false,.v 25],[.n 52 true],false⟩ (gC (A2x K) (gC (A9i K) (gC (Bso K) gN))) [] [7] [(13,[.take 105 2 6682,.take 105 3 6683])]
def Boq:=jn (Bql K) 7 Bxm [] (Apk K) kN
def Bsp:=ct (Bql K) (Ay5 K) (kC (Boq K) kN)
def W2 (K:Nat)(v5:List Int)(v6:Int)(v7:Int)(v8:Int)(v9:Int)(v10:Int)(v11:Int)(v12:Int)(v13:Int)(v14:List Int)(v15:List Int)(v16:List Int)(v17:List As)(v18:List Az)(v19:List Int)(v20:Int)(v21:Int)(v22:Int)(v23:Int)(v24:Int)(v25:Int)(v26:List Int)(v27:List Int)(v28:List Int)(v29:List As)(v30:List Az)(v31:List Int):Option (C5×D1):=some ((C5.mk (Ea.mk v8 v9 v10 v11 v12 v13) (Dn.mk v14 v15 v16) v17 v18 v19),(D1.mk v5 v6 v7))
def Ay6 (K:Nat)(a0:D1)(a1:Int):Option (C5×D1):=((At2 K a0 a1).bind fun r1=>((Ap K r1.2 (r1.1.fL.length:Int)).bind fun r2=>((Ap K r2.2 40).bind fun r3=>(bif (r3.1==0)then((Az8 K r3.2).bind fun r4=>(W2 K r4.2.fb r4.2.fi r4.2.fh r4.1.Ay r4.1.G8 r4.1.E6 r4.1.Gu r4.1.E7 r4.1.G9 r1.1.fP.N7 r1.1.fP.Vi r1.1.fP.N8 r1.1.fL r1.1.fQ r1.1.Acy 0 0 0 0 0 0 [] [] [] [] [] []))else(bif (r3.1==1)then((Ap K r3.2 (r1.1.fP.Vi.length:Int)).bind fun r32=>((Ap K r32.2 4).bind fun r33=>(if(0:Int)≤r32.1∧r32.1<(r1.1.fP.Vi.length:Int)then(W2 K r33.2.fb r33.2.fi r33.2.fh r1.1.fC.Ay r1.1.fC.G8 r1.1.fC.E6 r1.1.fC.Gu r1.1.fC.E7 r1.1.fC.G9 r1.1.fP.N7 (r1.1.fP.Vi.set r32.1.toNat r33.1) r1.1.fP.N8 r1.1.fL r1.1.fQ r1.1.Acy 0 0 0 0 0 0 [] [] [] [] [] [])else none)))else(bif (r3.1==2)then((Ap K r3.2 (r1.1.fP.N7.length:Int)).bind fun r34=>(if(0:Int)≤r34.1∧r34.1<(r1.1.fP.N7.length:Int)then(W2 K r34.2.fb r34.2.fi r34.2.fh r1.1.fC.Ay r1.1.fC.G8 r1.1.fC.E6 r1.1.fC.Gu r1.1.fC.E7 r1.1.fC.G9 (r1.1.fP.N7.set r34.1.toNat 9) r1.1.fP.Vi r1.1.fP.N8 r1.1.fL r1.1.fQ r1.1.Acy 0 0 0 0 0 0 [] [] [] [] [] [])else none))else(bif (r3.1==3)then((Az9 K r3.2 r1.1.fC).bind fun r35=>(if(0:Int)≤r2.1∧r2.1<(r1.1.fL.length:Int)then(W2 K r35.2.fb r35.2.fi r35.2.fh r1.1.fC.Ay r1.1.fC.G8 r1.1.fC.E6 r1.1.fC.Gu r1.1.fC.E7 r1.1.fC.G9 r1.1.fP.N7 r1.1.fP.Vi r1.1.fP.N8 (r1.1.fL.set r2.1.toNat r35.1) r1.1.fQ r1.1.Acy 0 0 0 0 0 0 [] [] [] [] [] [])else none))else(bif (r3.1==4)then((Ap K r3.2 4).bind fun r36=>(if(0:Int)≤r2.1∧r2.1<(r1.1.fL.length:Int)then(Aqk (r1.1.fL.set r2.1.toNat (As.mk r36.1 ((gt r1.1.fL r2.1).C9) ((gt r1.1.fL r2.1).Sl) ((gt r1.1.fL r2.1).fUp) ((gt r1.1.fL r2.1).Sm) ((gt r1.1.fL r2.1).Ef) ((gt r1.1.fL r2.1).Sn) ((gt r1.1.fL r2.1).So) ((gt r1.1.fL r2.1).Ay) ((gt r1.1.fL r2.1).Acx) ((gt r1.1.fL r2.1).Sq) ((gt r1.1.fL r2.1).F6) ((gt r1.1.fL r2.1).Fi))) fun v37=>(W2 K r36.2.fb r36.2.fi r36.2.fh r1.1.fC.Ay r1.1.fC.G8 r1.1.fC.E6 r1.1.fC.Gu r1.1.fC.E7 r1.1.fC.G9 r1.1.fP.N7 r1.1.fP.Vi r1.1.fP.N8 v37 r1.1.fQ r1.1.Acy 0 0 0 0 0 0 [] [] [] [] [] []))else none))else(bif (r3.1==5)then((Ap K r3.2 4).bind fun r38=>(if(0:Int)≤r2.1∧r2.1<(r1.1.fL.length:Int)then(Aqk (r1.1.fL.set r2.1.toNat (As.mk ((gt r1.1.fL r2.1).Vi) ((gt r1.1.fL r2.1).C9) ((gt r1.1.fL r2.1).Sl) r38.1 ((gt r1.1.fL r2.1).Sm) ((gt r1.1.fL r2.1).Ef) ((gt r1.1.fL r2.1).Sn) ((gt r1.1.fL r2.1).So) ((gt r1.1.fL r2.1).Ay) ((gt r1.1.fL r2.1).Acx) ((gt r1.1.fL r2.1).Sq) ((gt r1.1.fL r2.1).F6) ((gt r1.1.fL r2.1).Fi))) fun v39=>(W2 K r38.2.fb r38.2.fi r38.2.fh r1.1.fC.Ay r1.1.fC.G8 r1.1.fC.E6 r1.1.fC.Gu r1.1.fC.E7 r1.1.fC.G9 r1.1.fP.N7 r1.1.fP.Vi r1.1.fP.N8 v39 r1.1.fQ r1.1.Acy 0 0 0 0 0 0 [] [] [] [] [] []))else none))else(bif (r3.1==6)then(if(0:Int)≤r2.1∧r2.1<(r1.1.fL.length:Int)then(if(0:Int)≤r2.1∧r2.1<(r1.1.fL.length:Int)then(Aqk (r1.1.fL.set r2.1.toNat (As.mk ((gt r1.1.fL r2.1).Vi) ((gt r1.1.fL r2.1).C9) (An6 .i64 ((gt r1.1.fL r2.1).Sl) 1) ((gt r1.1.fL r2.1).fUp) ((gt r1.1.fL r2.1).Sm) ((gt r1.1.fL r2.1).Ef) ((gt r1.1.fL r2.1).Sn) ((gt r1.1.fL r2.1).So) ((gt r1.1.fL r2.1).Ay) ((gt r1.1.fL r2.1).Acx) ((gt r1.1.fL r2.1).Sq) ((gt r1.1.fL r2.1).F6) ((gt r1.1.fL r2.1).Fi))) fun v40=>(W2 K r3.2.fb r3.2.fi r3.2.fh r1.1.fC.Ay r1.1.fC.G8 r1.1.fC.E6 r1.1.fC.Gu r1.1.fC.E7 r1.1.fC.G9 r1.1.fP.N7 r1.1.fP.Vi r1.1.fP.N8 v40 r1.1.fQ r1.1.Acy 0 0 0 0 0 0 [] [] [] [] [] []))else none)else none)else(bif (r3.1==7)then((Ay5 K r3.2 r1.1.fC).bind fun r41=>(if(r1.1.fQ++[r41.1]).length*72≤140737488355328∧(r1.1.fQ++[r41.1]).length≤maxLen then(W2 K r41.2.fb r41.2.fi r41.2.fh r1.1.fC.Ay r1.1.fC.G8 r1.1.fC.E6 r1.1.fC.Gu r1.1.fC.E7 r1.1.fC.G9 r1.1.fP.N7 r1.1.fP.Vi r1.1.fP.N8 r1.1.fL (r1.1.fQ++[r41.1]) r1.1.Acy 0 0 0 0 0 0 [] [] [] [] [] [])else none))else(bif (r3.1==8)then(bif (decide ((r1.1.fQ.length:Int)>0))then(if(0:Int)≤1∧1≤(r1.1.fQ.length:Int)∧(r1.1.fQ.length:Int)≤(r1.1.fQ.length:Int)then(W2 K r3.2.fb r3.2.fi r3.2.fh r1.1.fC.Ay r1.1.fC.G8 r1.1.fC.E6 r1.1.fC.Gu r1.1.fC.E7 r1.1.fC.G9 r1.1.fP.N7 r1.1.fP.Vi r1.1.fP.N8 r1.1.fL ((r1.1.fQ.drop (1:Int).toNat).take ((r1.1.fQ.length:Int) - 1).toNat) r1.1.Acy 0 0 0 0 0 0 [] [] [] [] [] [])else none)else(W2 K r3.2.fb r3.2.fi r3.2.fh r1.1.fC.Ay r1.1.fC.G8 r1.1.fC.E6 r1.1.fC.Gu r1.1.fC.E7 r1.1.fC.G9 r1.1.fP.N7 r1.1.fP.Vi r1.1.fP.N8 r1.1.fL r1.1.fQ r1.1.Acy 0 0 0 0 0 0 [] [] [] [] [] []))else(bif (r3.1==9)then((P2 K r3.2 ([0,255,256,(-1)]:List Int)).bind fun r42=>(if r42.2.2.length=([0,255,256,(-1)]:List Int).length then(if(r1.1.Acy++([r42.1]:List Int)).length*8≤140737488355328∧(r1.1.Acy++([r42.1]:List Int)).length≤maxLen then(W2 K r42.2.1.fb r42.2.1.fi r42.2.1.fh r1.1.fC.Ay r1.1.fC.G8 r1.1.fC.E6 r1.1.fC.Gu r1.1.fC.E7 r1.1.fC.G9 r1.1.fP.N7 r1.1.fP.Vi r1.1.fP.N8 r1.1.fL r1.1.fQ (r1.1.Acy++([r42.1]:List Int)) 0 0 0 0 0 0 [] [] [] [] [] [])else none)else none))else(bif (r3.1==10)then(if(0:Int)≤r2.1∧r2.1<(r1.1.fL.length:Int)then(if(0:Int)≤r2.1∧r2.1<(r1.1.fL.length:Int)then((Ap K r3.2 60).bind fun r43=>(if(((gt r1.1.fL r2.1).F6)++([(Bc.mk r43.1 2 0)]:List Bc)).length*24≤140737488355328∧(((gt r1.1.fL r2.1).F6)++([(Bc.mk r43.1 2 0)]:List Bc)).length≤maxLen then(if(0:Int)≤r2.1∧r2.1<(r1.1.fL.length:Int)then(W2 K r43.2.fb r43.2.fi r43.2.fh r1.1.fC.Ay r1.1.fC.G8 r1.1.fC.E6 r1.1.fC.Gu r1.1.fC.E7 r1.1.fC.G9 r1.1.fP.N7 r1.1.fP.Vi r1.1.fP.N8 (r1.1.fL.set r2.1.toNat (As.mk ((gt r1.1.fL r2.1).Vi) ((gt r1.1.fL r2.1).C9) ((gt r1.1.fL r2.1).Sl) ((gt r1.1.fL r2.1).fUp) ((gt r1.1.fL r2.1).Sm) ((gt r1.1.fL r2.1).Ef) ((gt r1.1.fL r2.1).Sn) ((gt r1.1.fL r2.1).So) ((gt r1.1.fL r2.1).Ay) ((gt r1.1.fL r2.1).Acx) ((gt r1.1.fL r2.1).Sq) (((gt r1.1.fL r2.1).F6)++([(Bc.mk r43.1 2 0)]:List Bc)) ((gt r1.1.fL r2.1).Fi))) r1.1.fQ r1.1.Acy 0 0 0 0 0 0 [] [] [] [] [] [])else none)else none))else none)else none)else(bif (r3.1==11)then((Ap K r3.2 4).bind fun r44=>(if(0:Int)≤r2.1∧r2.1<(r1.1.fL.length:Int)then(Aqk (r1.1.fL.set r2.1.toNat (As.mk ((gt r1.1.fL r2.1).Vi) ((gt r1.1.fL r2.1).C9) ((gt r1.1.fL r2.1).Sl) ((gt r1.1.fL r2.1).fUp) ((gt r1.1.fL r2.1).Sm) ((gt r1.1.fL r2.1).Ef) r44.1 ((gt r1.1.fL r2.1).So) ((gt r1.1.fL r2.1).Ay) ((gt r1.1.fL r2.1).Acx) ((gt r1.1.fL r2.1).Sq) ((gt r1.1.fL r2.1).F6) ((gt r1.1.fL r2.1).Fi))) fun v45=>(W2 K r44.2.fb r44.2.fi r44.2.fh r1.1.fC.Ay r1.1.fC.G8 r1.1.fC.E6 r1.1.fC.Gu r1.1.fC.E7 r1.1.fC.G9 r1.1.fP.N7 r1.1.fP.Vi r1.1.fP.N8 v45 r1.1.fQ r1.1.Acy 0 0 0 0 0 0 [] [] [] [] [] []))else none))else(bif (r3.1==12)then(bif (decide ((r1.1.fQ.length:Int)>0))then((Ap K r3.2 9).bind fun r46=>(if(0:Int)≤0∧0<(r1.1.fQ.length:Int)then(W2 K r46.2.fb r46.2.fi r46.2.fh r1.1.fC.Ay r1.1.fC.G8 r1.1.fC.E6 r1.1.fC.Gu r1.1.fC.E7 r1.1.fC.G9 r1.1.fP.N7 r1.1.fP.Vi r1.1.fP.N8 r1.1.fL (r1.1.fQ.set (0:Int).toNat (Az.mk ((gt r1.1.fQ 0).Bm) ((gt r1.1.fQ 0).Ef) ((gt r1.1.fQ 0).Fi) ((gt r1.1.fQ 0).Ay) r46.1)) r1.1.Acy 0 0 0 0 0 0 [] [] [] [] [] [])else none))else(W2 K r3.2.fb r3.2.fi r3.2.fh r1.1.fC.Ay r1.1.fC.G8 r1.1.fC.E6 r1.1.fC.Gu r1.1.fC.E7 r1.1.fC.G9 r1.1.fP.N7 r1.1.fP.Vi r1.1.fP.N8 r1.1.fL r1.1.fQ r1.1.Acy 0 0 0 0 0 0 [] [] [] [] [] []))else(W2 K r3.2.fb r3.2.fi r3.2.fh r1.1.fC.Ay r1.1.fC.G8 r1.1.fC.E6 r1.1.fC.Gu r1.1.fC.E7 r1.1.fC.G9 r1.1.fP.N7 r1.1.fP.Vi r1.1.fP.N8 r1.1.fL r1.1.fQ r1.1.Acy 0 0 0 0 0 0 [] [] [] [] [] [])))))))))))))))))
def Bqm:=fd Tryz.func94 ⟨[.b 148 false,.v 3],[.v 32],false⟩ (gC (A2x K) (gC (Bjo K) (gC (Bsj K) (gC (A9i K) (gC (Bsm K) (gC (Bsp K) gN)))))) [] [15] [(29,[.opn 20387 (.tmp 6),.takeE 20387 11 64779])] [(104,[.put 3104,.shal 3104]),(114,[.frzT 114])]
def B0k:Ej:=⟨[(4,.p 104),(5,.p 105)],[(1,.box [.v 22,.v 2,.v 2]),(105,.box [.v 2,.v 2,.v 2,.v 2,.v 2,.v 2,.v 22,.v 26,.v 26,.v 29,.v 30,.v 26]),(104,.box [.v 2,.v 2,.v 2,.v 2,.v 2,.v 2,.v 22,.v 26,.v 26,.v 29,.v 30,.v 26])]⟩
def Bjs:=jn (Bqm K) 15 B0k [] (W2 K) kN
def Bsq:=ct (Bqm K) (Ay6 K) (kC (Bjs K) kN)
def Ax1 (K:Nat)(a0:List Int)(a1:Int):Option (D1×C5):=((Axg K a0).bind fun r1=>((Ay6 K r1 a1).bind fun r2=>some (r2.2,r2.1)))
def Bsr:=ct (fd Tryz.func65 ⟨[.v 22,.v 3],[.p 148 false,.v 32],false⟩ (gC (Bvh K) (gC (Bsq K) gN))) (Ax1 K)
def Avc (K:Nat)(v4:List Int)(v5:Int)(v6:Int)(v7:An)(v8:An):Option (An×D1):=some (v7,(D1.mk v4 v5 v6))
def Ax2 (K:Nat)(a0:D1):Option (An×D1):=((Atv K a0).bind fun r1=>((Ap K r1.2 8).bind fun r2=>(bif (r2.1==0)then((P2 K r2.2 ([(-1),1000000000,9]:List Int)).bind fun r3=>(if r3.2.2.length=([(-1),1000000000,9]:List Int).length then(Avc K r3.2.1.fb r3.2.1.fi r3.2.1.fh (An.mk r3.1 r1.1.C9) (An.mk 0 0))else none))else(bif (r2.1==1)then((P2 K r2.2 ([0,(-1),5]:List Int)).bind fun r9=>(if r9.2.2.length=([0,(-1),5]:List Int).length then(Avc K r9.2.1.fb r9.2.1.fi r9.2.1.fh (An.mk r1.1.Bm r9.1) (An.mk 0 0))else none))else(Avc K r2.2.fb r2.2.fi r2.2.fh r1.1 (An.mk 0 0))))))
def Bqn:=fd Tryz.func207 ⟨[.b 148 false],[.v 36],false⟩ (gC (A2x K) (gC (A9i K) (gC (Bpv K) gN))) [] [7]
def B0l:Ej:=⟨[(2,.p 102),(3,.p 103)],[(1,.box [.v 22,.v 2,.v 2]),(103,.st 36 true),(102,.st 36 true)]⟩
def Bor:=jn (Bqn K) 7 B0l [] (Avc K) kN
def Bss:=ct (Bqn K) (Ax2 K) (kC (Bor K) kN)
def Atq (K:Nat)(v16:List Int)(v17:Int)(v18:Int)(v19:An):Option (An×D1):=some (v19,(D1.mk v16 v17 v18))
def Apx (K:Nat)(v10:List Int)(v11:Int)(v12:Int)(v13:An)(v14:An):Option (An×D1):=((Ahh K (D1.mk v10 v11 v12) 10).bind fun r15=>(bif r15.1 then(Atq K r15.2.fb r15.2.fi r15.2.fh (An.mk v13.Bm (An6 .i64 v13.C9 1)))else(Atq K r15.2.fb r15.2.fi r15.2.fh v13)))
def As7 (K:Nat)(a0:D1)(a1:C5):Option (An×D1):=(bif ((a1.fL.length:Int)==0)then((Ax2 K a0).bind fun r1=>some (r1.1,r1.2))else((Ahh K a0 6).bind fun r2=>(bif r2.1 then((Ax2 K r2.2).bind fun r3=>some (r3.1,r3.2))else((Ap K r2.2 (a1.fL.length:Int)).bind fun r4=>((Ang K a1.fL r4.1).bind fun r5=>((Auz K a1).bind fun r6=>(bif (decide ((r6.length:Int)>0))then((Ahh K r4.2 4).bind fun r7=>(bif (!r7.1)then((Ap K r7.2 (r6.length:Int)).bind fun r8=>(if(0:Int)≤r8.1∧r8.1<(r6.length:Int)then((Ang K a1.fL (gt r6 r8.1)).bind fun r9=>(Apx K r8.2.fb r8.2.fi r8.2.fh r9 (An.mk 0 0)))else none))else(Apx K r7.2.fb r7.2.fi r7.2.fh r5 (An.mk 0 0))))else(Apx K r4.2.fb r4.2.fi r4.2.fh r5 (An.mk 0 0)))))))))
def Bjt:=fd Tryz.func117 ⟨[.b 148 false,.v 32],[.v 36],false⟩ (gC (Bic K) (gC (A2x K) (gC (A8v K) (gC (Bid K) (gC (Bss K) gN))))) [10,11,29,30] [31,63]
def B0m:Ej:=⟨[(4,.p 104),(5,.p 105)],[(1,.box [.v 22,.v 2,.v 2]),(105,.st 36 true),(104,.st 36 true)]⟩
def B0n:Ej:=⟨[(0,.p 1),(4,.p 104),(5,.p 105)],[(1,.box [.v 22,.v 2,.v 2]),(105,.st 36 true),(104,.st 36 true)]⟩
def Bju:=jn (Bjt K) 63 B0m [] (fun a b c d _=>Atq K a b c d) kN
def Bjv:=jn (Bjt K) 31 B0n [] (Apx K) (kC (Bju K) kN)
def Bst:=ct (Bjt K) (As7 K) (kC (Bjv K) kN)
def Auq (K:Nat)(a0:List Int):Option (C5×An×An):=((Ax1 K a0 40).bind fun r1=>((As7 K r1.1 r1.2).bind fun r2=>((As7 K r2.2 r1.2).bind fun r3=>some (r1.2,r2.1,r3.1))))
def Bsu:=ct (fd Tryz.func36 ⟨[.v 22],[.v 32,.v 36,.v 36],false⟩ (gC (Bsr K) (gC (Bst K) gN))) (Auq K)
def At7 (K:Nat)(a0:An):Option (Bool):=(bif (decide (a0.Bm≥0))then some (decide (a0.C9≥1))else some false)
def Bjw:=ct (fd Tryz.func208 ⟨[.v 36],[.v 4],true⟩ gN [5,6]) (At7 K)
def V1 (K:Nat)(a0:Int)(a1:Int)(a2:Int):Option (Bool):=(bif (decide (a0≥a1))then some (decide (a0≤a2))else some false)
def A0m:=ct (fd Tryz.func116 ⟨[.v 3,.v 3,.v 3],[.v 4],true⟩ gN [9,10]) (V1 K)
def Alf (K:Nat)(a0:List As)(a1:Int):Option (Bool):=((V1 K a1 0 (An7 .i64 (a0.length:Int) 1)).bind fun r1=>some r1)
def A2y:=ct (fd Tryz.func75 ⟨[.v 29,.v 3],[.v 4],true⟩ (gC (A0m K) gN)) (Alf K)
def Avd (K:Nat)(a0:List As)(a1:An):Option (Int):=((Alf K a0 a1.Bm).bind fun r1=>(bif r1 then(if(0:Int)≤a1.Bm∧a1.Bm<(a0.length:Int)then(bif (((gt a0 a1.Bm).Vi) != 1)then some (-1)else(if(0:Int)≤a1.Bm∧a1.Bm<(a0.length:Int)then(bif (((gt a0 a1.Bm).C9) != a1.C9)then some (-1)else some a1.Bm)else none))else none)else some (-1)))
def Bjx:=ct (fd Tryz.func209 ⟨[.v 29,.v 36],[.v 3],true⟩ (gC (A2y K) gN) [8,9,10,17,18,19]) (Avd K)
def Awb (K:Nat)(a0:List As):Nat->Int->(List Int)->Option ((List Int))
 |0,_,_=>none
 |n1+1,v1,v2=>((Alf K a0 v1).bind fun r3=>(bif r3 then(bif (decide ((v2.length:Int)<(a0.length:Int)))then(if(v2++([v1]:List Int)).length*8≤140737488355328∧(v2++([v1]:List Int)).length≤maxLen then(if(0:Int)≤v1∧v1<(a0.length:Int)then(Awb K a0 n1 (An7 .i64 ((gt a0 v1).fUp) 1) (v2++([v1]:List Int)))else none)else none)else some v2)else some v2))
def Ave (K:Nat)(a0:List As)(a1:Int):Option ((List Int)):=(Awb K a0 K a1 ([]:List Int))
def Bqo:=fd Tryz.func120 ⟨[.v 29,.v 3],[.n 26 true],true⟩ (gC (A2y K) gN) [9,10]
def Bjy:=lp (Bqo K) 28 h_4 [] (fun n a=>Awb K a n) (fun n=>kN)
def A9n:=ct (Bqo K) (Ave K) (kC (Bjy K K) kN)
def Ax3 (K:Nat)(v2:List Int)(v3:Int)(v4:Int)(C1:(List Int)->Int->Int->Option (Bool)):Option (Bool):=(C1 v2 v3 (An6 .i64 v4 1))
def As8 (K:Nat)(a0:List As)(r1:(List Int)):Nat->(List Int)->Int->Int->Option (Bool)
 |0,_,_,_=>none
 |n1+1,v2,v3,v4=>(bif (decide (v4<v3))then(if(0:Int)≤v4∧v4<(v2.length:Int)then(if(0:Int)≤(gt v2 v4)∧(gt v2 v4)<(a0.length:Int)then(bif (((gt a0 (gt v2 v4)).Vi) != 1)then some false else(bif (decide ((An6 .i64 v4 1)<(r1.length:Int)))then(if(0:Int)≤(gt v2 v4)∧(gt v2 v4)<(a0.length:Int)then(if(0:Int)≤(An6 .i64 v4 1)∧(An6 .i64 v4 1)<(r1.length:Int)then(if(0:Int)≤(gt r1 (An6 .i64 v4 1))∧(gt r1 (An6 .i64 v4 1))<(a0.length:Int)then(bif (((gt a0 (gt v2 v4)).Sm) != ((gt a0 (gt r1 (An6 .i64 v4 1))).Sl))then some false else(Ax3 K v2 v3 v4 (As8 K a0 r1 n1)))else none)else none)else none)else(Ax3 K v2 v3 v4 (As8 K a0 r1 n1))))else none)else none)else(bif (decide ((r1.length:Int)>0))then(if(0:Int)≤(An7 .i64 (r1.length:Int) 1)∧(An7 .i64 (r1.length:Int) 1)<(r1.length:Int)then(if(0:Int)≤(gt r1 (An7 .i64 (r1.length:Int) 1))∧(gt r1 (An7 .i64 (r1.length:Int) 1))<(a0.length:Int)then some (((gt a0 (gt r1 (An7 .i64 (r1.length:Int) 1))).fUp)==0)else none)else none)else some false))
def Ax4 (K:Nat)(a0:List As)(a1:Int):Option (Bool):=((Ave K a0 a1).bind fun r1=>(As8 K a0 r1 K r1 (r1.length:Int) 0))
def Bjz:=fd Tryz.func71 ⟨[.v 29,.v 3],[.v 4],true⟩ (gC (A9n K) gN) [28,29,49,50] [467]
def Bos:Ej:=⟨[(0,.v 29),(5,.v 26),(11,.v 26),(12,.v 2),(13,.v 2)],[]⟩
def Bgn:=fun(C58:CT Bos _)=>jn (Bjz K) 467 Bos [(58,ar Bos C58)] (fun a b c d e=>Ax3 K c d e (C58 a b)) kN
def Bj0:=lp (Bjz K) 58 Bos [] (fun n a b=>As8 K a b n) (fun n=>(kC (Bgn K _) kN))
def Bj1:=ct (Bjz K) (Ax4 K) (kC (Bj0 K K) kN)
def Ais (K:Nat)(a0:C5)(a1:An):Option (Int×Int):=((At7 K a1).bind fun r1=>(bif (!r1)then some ((-1),1)else((Avd K a0.fL a1).bind fun r2=>(bif (decide (r2<0))then some ((-1),2)else((Ax4 K a0.fL r2).bind fun r3=>(bif (!r3)then some ((-1),2)else some (r2,0)))))))
def A4b:=ct (fd Tryz.func118 ⟨[.v 32,.v 36],[.v 3,.v 3],true⟩ (gC (Bj1 K) (gC (Bjw K) (gC (Bjx K) gN))) [15,16]) (Ais K)
def Anx (K:Nat)(a0:List Int)(a1:Int):Nat->Int->Int->Option (Int)
 |0,_,_=>none
 |n1+1,v1,v2=>(bif (decide (v2<v1))then(if(0:Int)≤v2∧v2<(a0.length:Int)then(bif (a1==(gt a0 v2))then some v2 else(Anx K a0 a1 n1 v1 (An6 .i64 v2 1)))else none)else some (-1))
def Aw7 (K:Nat)(a0:List Int)(a1:Int):Option (Int):=(Anx K a0 a1 K (a0.length:Int) 0)
def Bqp:=fd Tryz.func210 ⟨[.v 26,.v 3],[.v 3],true⟩ gN
def B0o:Ej:=⟨[(0,.v 26),(1,.v 2),(7,.v 2),(8,.v 2)],[]⟩
def Bj2:=lp Bqp 26 B0o [] (fun n a b=>Anx K a b n) (fun n=>kN)
def Bsv:=ct Bqp (Aw7 K) (kC (Bj2 K K) kN)
def Ako (K:Nat)(a0:List Int)(a1:Int):Option (Bool):=((Aw7 K a0 a1).bind fun r1=>some (decide (r1≥0)))
def A9o:=ct (fd Tryz.func119 ⟨[.v 26,.v 3],[.v 4],true⟩ (gC (Bsv K) gN)) (Ako K)
def Asb (K:Nat)(a0:C5)(a1:An)(a2:An):Option (Bool):=((Ais K a0 a1).bind fun r1=>((Ais K a0 a2).bind fun r2=>(bif (r1.2==0)then(bif (r2.2==0)then((Ave K a0.fL r1.1).bind fun r3=>((Ako K r3 r2.1).bind fun r4=>some r4))else some false)else some false)))
def Bsw:=ct (fd Tryz.func37 ⟨[.v 32,.v 36,.v 36],[.v 4],true⟩ (gC (A4b K) (gC (A9o K) (gC (A9n K) gN))) [24,25,27,28,29]) (Asb K)
def Ay7 (K:Nat)(a0:C5)(a1:An)(a2:An):Option (Bool):=((Aiq K a0 a1).bind fun r1=>((Aiq K a0 a2).bind fun r2=>(bif (r1.2==0)then(bif (r2.2==0)then((Auy K a0.fL r1.1).bind fun r3=>((Aot K r3 r2.1).bind fun r4=>some r4))else some false)else some false)))
def Bsx:=ct (fd Tryz.func38 ⟨[.v 32,.v 36,.v 36],[.v 4],true⟩ (gC (A7b K) (gC (A8x K) (gC (Bey K) gN))) [24,25,27,28,29]) (Ay7 K)
def As9 (K:Nat)(v2:Int)(v3:Int)(v4:Int)(v5:Int)(v6:Int)(v7:Int)(v8:Int)(v9:Int)(v10:List Int)(v11:List Int)(v12:List Int)(v13:List As)(v14:List Az)(v15:List Int)(C1:(List Int)->Int->Int->Int->Int->Int->Int->Int->Int->(List Int)->(List Int)->(List Int)->(List As)->(List Az)->(List Int)->Option ((List Int)))(v17:List Int):Option ((List Int)):=(C1 v17 v2 (An6 .i64 v3 1) v4 v5 v6 v7 v8 v9 v10 v11 v12 v13 v14 v15)
def Aq6 (K:Nat):Nat->(List Int)->Int->Int->Int->Int->Int->Int->Int->Int->(List Int)->(List Int)->(List Int)->(List As)->(List Az)->(List Int)->Option ((List Int))
 |0,_,_,_,_,_,_,_,_,_,_,_,_,_,_,_=>none
 |n1+1,v1,v2,v3,v4,v5,v6,v7,v8,v9,v10,v11,v12,v13,v14,v15=>(bif (decide (v3<v2))then((Ax4 K v13 v3).bind fun r16=>(bif r16 then(if(v1++([v3]:List Int)).length*8≤140737488355328∧(v1++([v3]:List Int)).length≤maxLen then(As9 K v2 v3 v4 v5 v6 v7 v8 v9 v10 v11 v12 v13 v14 v15 (Aq6 K n1) (v1++([v3]:List Int)))else none)else(As9 K v2 v3 v4 v5 v6 v7 v8 v9 v10 v11 v12 v13 v14 v15 (Aq6 K n1) v1)))else some v1)
def A0n (K:Nat)(a0:C5):Option ((List Int)):=(Aq6 K K ([]:List Int) (a0.fL.length:Int) 0 a0.fC.Ay a0.fC.G8 a0.fC.E6 a0.fC.Gu a0.fC.E7 a0.fC.G9 a0.fP.N7 a0.fP.Vi a0.fP.N8 a0.fL a0.fQ a0.Acy)
def Bj3:=fd Tryz.func12 ⟨[.v 32],[.n 26 true],true⟩ (gC (Bj1 K) gN) [] [467]
def Bou:Ej:=⟨[(1,.p 101),(3,.o 1003 3 true),(8,.v 2),(9,.v 2)],[(101,.box [.v 2,.v 2,.v 2,.v 2,.v 2,.v 2,.v 22,.v 26,.v 26,.v 29,.v 30,.v 26])]⟩
def Bgo:=fun(C58:CT Bou _)=>jn (Bj3 K) 467 Bou [(58,ar Bou C58)] (fun a b c d e f g h i j k l m o p=>As9 K b c d e f g h i j k l m o p C58 a) kN
def Bj4:=lp (Bj3 K) 58 Bou [] (Aq6 K) (fun n=>(kC (Bgo K _) kN))
def Bsy:=ct (Bj3 K) (A0n K) (kC (Bj4 K K) kN)
def Asc (K:Nat)(a0:C5)(a1:An):Option (Bool):=((Ais K a0 a1).bind fun r1=>some (r1.2 != 0))
def Bsz:=ct (fd Tryz.func39 ⟨[.v 32,.v 36],[.v 4],true⟩ (gC (A4b K) gN)) (Asc K)
def A3q (K:Nat)(a0:List Int)(a1:Int):Option (Int):=(bif (decide (a1<(a0.length:Int)))then(if(0:Int)≤a1∧a1<(a0.length:Int)then some (IntKind.i64.wrap (gt a0 a1))else none)else(if 256≠(0:Int)then some (Int.tmod (An6 .i64 (An8 .i64 a1 31) (An8 .i64 (a0.length:Int) 7)) 256)else none))
def Bs0:=ct (fd Tryz.func18 ⟨[.v 22,.v 3],[.v 3],true⟩ gN) (A3q K)
def At8 (K:Nat)(a0:List As)(a1:Int):Option (An):=((Alf K a0 a1).bind fun r1=>(bif (!r1)then some (An.mk 0 0)else(if(0:Int)≤a1∧a1<(a0.length:Int)then some (An.mk a1 ((gt a0 a1).C9))else none)))
def Bj5:=ct (fd Tryz.func40 ⟨[.v 29,.v 3],[.v 36],true⟩ (gC (A2y K) gN)) (At8 K)
def Ar1 (K:Nat)(a1:An):Nat->(List Br)->Int->Int->Int->Int->Int->Int->Int->Int->Int->(List Int)->(List Int)->(List Int)->(List As)->(List Az)->(List Int)->Option ((List Br))
 |0,_,_,_,_,_,_,_,_,_,_,_,_,_,_,_,_=>none
 |n1+1,v2,v3,v4,v5,v6,v7,v8,v9,v10,v11,v12,v13,v14,v15,v16,v17=>(bif (decide (v5<v4))then(if(0:Int)≤v3∧v3<(v15.length:Int)then(if(v2++([(Br.mk a1 ((gt v15 v3).Sl) v5)]:List Br)).length*32≤140737488355328∧(v2++([(Br.mk a1 ((gt v15 v3).Sl) v5)]:List Br)).length≤maxLen then(Ar1 K a1 n1 (v2++([(Br.mk a1 ((gt v15 v3).Sl) v5)]:List Br)) v3 v4 (An6 .i64 v5 1) v6 v7 v8 v9 v10 v11 v12 v13 v14 v15 v16 v17)else none)else none)else some v2)
def At9 (K:Nat)(a0:C5)(a1:An):Option ((List Br)):=((Ais K a0 a1).bind fun r1=>(bif (r1.2 != 0)then some ([]:List Br)else(if(0:Int)≤r1.1∧r1.1<(a0.fL.length:Int)then(Ar1 K a1 K ([]:List Br) r1.1 (((gt a0.fL r1.1).F6).length:Int) 0 a0.fC.Ay a0.fC.G8 a0.fC.E6 a0.fC.Gu a0.fC.E7 a0.fC.G9 a0.fP.N7 a0.fP.Vi a0.fP.N8 a0.fL a0.fQ a0.Acy)else none)))
def Bqq:=fd Tryz.func41 ⟨[.v 32,.v 36],[.n 68 true],true⟩ (gC (A4b K) gN)
def B0p:Ej:=⟨[(2,.p 102),(3,.p 103),(5,.o 1005 38 true),(6,.v 2),(25,.v 2),(26,.v 2)],[(103,.st 36 true),(102,.box [.v 2,.v 2,.v 2,.v 2,.v 2,.v 2,.v 22,.v 26,.v 26,.v 29,.v 30,.v 26])]⟩
def Bgp:=lp (Bqq K) 250 B0p [] (fun n a b c d e=>Ar1 K e n a b c d) (fun n=>kN)
def Bs1:=ct (Bqq K) (At9 K) (kC (Bgp K K) kN)
def Aua (K:Nat)(a0:List As):Nat->(List Int)->Int->Option ((List Int))
 |0,_,_=>none
 |n1+1,v1,v2=>((Alf K a0 v2).bind fun r3=>(bif r3 then(bif (decide ((v1.length:Int)<(a0.length:Int)))then(if(v1++([v2]:List Int)).length*8≤140737488355328∧(v1++([v2]:List Int)).length≤maxLen then(if(0:Int)≤v2∧v2<(a0.length:Int)then(Aua K a0 n1 (v1++([v2]:List Int)) (An7 .i64 ((gt a0 v2).Sn) 1))else none)else none)else some v1)else some v1))
def Awc (K:Nat)(a0:List As)(a1:Int):Option ((List Int)):=(Aua K a0 K ([]:List Int) (An7 .i64 a1 1))
def Bqr:=fd Tryz.func124 ⟨[.v 29,.v 3],[.n 26 true],true⟩ (gC (A2y K) gN) [12,13]
def B0q:Ej:=⟨[(0,.v 29),(5,.o 1005 3 true),(6,.v 2)],[]⟩
def Bj6:=lp (Bqr K) 58 B0q [] (fun n a=>Aua K a n) (fun n=>kN)
def Bj7:=ct (Bqr K) (Awc K) (kC (Bj6 K K) kN)
def Aub (K:Nat)(r2:(List Int)):Nat->(List An)->Int->Int->Int->Int->Int->Int->Int->Int->(List Int)->(List Int)->(List Int)->(List As)->(List Az)->(List Int)->Option ((List An))
 |0,_,_,_,_,_,_,_,_,_,_,_,_,_,_,_=>none
 |n1+1,v3,v4,v5,v6,v7,v8,v9,v10,v11,v12,v13,v14,v15,v16,v17=>(bif (decide (v5<v4))then(if(0:Int)≤v5∧v5<(r2.length:Int)then((At8 K v15 (gt r2 v5)).bind fun r18=>(if(v3++([r18]:List An)).length*16≤140737488355328∧(v3++([r18]:List An)).length≤maxLen then(Aub K r2 n1 (v3++([r18]:List An)) v4 (An6 .i64 v5 1) v6 v7 v8 v9 v10 v11 v12 v13 v14 v15 v16 v17)else none))else none)else some v3)
def Awd (K:Nat)(a0:C5)(a1:An):Option ((List An)):=((Ais K a0 a1).bind fun r1=>(bif (r1.2 != 0)then some ([]:List An)else(if(0:Int)≤r1.1∧r1.1<(a0.fL.length:Int)then((Awc K a0.fL ((gt a0.fL r1.1).Ef)).bind fun r2=>(Aub K r2 K ([]:List An) (r2.length:Int) 0 a0.fC.Ay a0.fC.G8 a0.fC.E6 a0.fC.Gu a0.fC.E7 a0.fC.G9 a0.fP.N7 a0.fP.Vi a0.fP.N8 a0.fL a0.fQ a0.Acy))else none)))
def Bqs:=fd Tryz.func42 ⟨[.v 32,.v 36],[.n 70 true],true⟩ (gC (Bj5 K) (gC (A4b K) (gC (Bj7 K) gN)))
def B0r:Ej:=⟨[(2,.p 102),(5,.o 1005 36 true),(28,.v 26),(29,.v 2),(30,.v 2)],[(102,.box [.v 2,.v 2,.v 2,.v 2,.v 2,.v 2,.v 22,.v 26,.v 26,.v 29,.v 30,.v 26])]⟩
def Bgq:=lp (Bqs K) 250 B0r [] (fun n a b=>Aub K b n a) (fun n=>kN)
def Bs2:=ct (Bqs K) (Awd K) (kC (Bgq K K) kN)
def Aug (K:Nat)(a0:Ea):Option (Bool):=((V1 K a0.Ay 2 12).bind fun r1=>(bif r1 then((V1 K a0.G8 8 16).bind fun r2=>(bif r2 then((V1 K a0.E6 2 8).bind fun r3=>(bif r3 then((V1 K a0.Gu 1 8).bind fun r4=>(bif r4 then((V1 K a0.E7 1 16).bind fun r5=>(bif r5 then((V1 K a0.G9 1 4).bind fun r6=>some r6)else some false))else some false))else some false))else some false))else some false))
def A9p:=ct (fd Tryz.func34 ⟨[.v 25],[.v 4],true⟩ (gC (A0m K) gN) [5,6,9,10,11,14,15,16,19,20,21,24,25,26]) (Aug K)
def Ax5 (K:Nat)(a0:Ea):Option (Int):=((Aug K a0).bind fun r1=>(bif (!r1)then some 0 else some (An8 .i64 a0.Ay a0.G8)))
def Bj8:=ct (fd Tryz.func165 ⟨[.v 25],[.v 3],true⟩ (gC (A9p K) gN)) (Ax5 K)
def Ar2 (K:Nat)(a0:Dn)(a1:Ea)(a2:Int):Option ((List Int)):=(if(0:Int)≤(An8 .i64 a2 a1.G8)∧(An8 .i64 a2 a1.G8)≤(An8 .i64 (An6 .i64 a2 1) a1.G8)∧(An8 .i64 (An6 .i64 a2 1) a1.G8)≤(a0.N7.length:Int)then some ((a0.N7.drop (An8 .i64 a2 a1.G8).toNat).take ((An8 .i64 (An6 .i64 a2 1) a1.G8) - (An8 .i64 a2 a1.G8)).toNat)else none)
def Bj9:=ct (fd Tryz.func167 ⟨[.v 28,.v 25,.v 3],[.v 22],false⟩ gN) (Ar2 K)
def Azq (K:Nat)(a0:Int):Option (Bool):=some (a0 != 0)
def Bs3:=ct (fd Tryz.func236 ⟨[.v 5],[.v 4],true⟩ gN) (Azq K)
def Agr (K:Nat)(a0:List Int):Nat->Int->Int->Option (Int)
 |0,_,_=>none
 |n1+1,v1,v2=>(bif (decide (v2<v1))then(if(0:Int)≤v2∧v2<(a0.length:Int)then((Azq K (gt a0 v2)).bind fun r3=>(bif r3 then some v2 else(Agr K a0 n1 v1 (An6 .i64 v2 1))))else none)else some (-1))
def Al0 (K:Nat)(a0:List Int):Option (Int):=(Agr K a0 K (a0.length:Int) 0)
def Bqt:=fd Tryz.func268 ⟨[.v 22,.f 236 [] []],[.v 3],true⟩ (gC (Bs3 K) gN)
def B0s:Ej:=⟨[(0,.v 22),(1,.f 236 [] []),(7,.v 2),(8,.v 2)],[]⟩
def Bka:=lp (Bqt K) 26 B0s [] (fun n a=>Agr K a n) (fun n=>kN)
def Bs4:=ct (Bqt K) (Al0 K) (kC (Bka K K) kN)
def Akp (K:Nat)(a0:List Int):Option (Bool):=((Al0 K a0).bind fun r1=>some (decide (r1≥0)))
def Bs5:=ct (fd Tryz.func235 ⟨[.v 22,.f 236 [] []],[.v 4],true⟩ (gC (Bs4 K) gN)) (Akp K)
def Auh (K:Nat)(a0:List Int):Option (Bool):=((Akp K a0).bind fun r1=>some (!r1))
def Bdf:=ct (fd Tryz.func166 ⟨[.v 22],[.v 4],true⟩ (gC (Bs5 K) gN)) (Auh K)
def Awx (K:Nat)(v3:List Int)(v4:Int)(v6:List Int)(v7:List Int)(v8:List Int)(v12:Int)(C1:(List Int)->Int->Int->(List Int)->(List Int)->(List Int)->Option (Bool))(v16:Bool):Option (Bool):=(bif v16 then some false else(C1 v3 v4 (An6 .i64 v12 1) v6 v7 v8))
def Aqg (K:Nat)(a0:Ea)(v3:List Int)(v4:Int)(v5:Int)(v6:List Int)(v7:List Int)(v8:List Int)(C1:(List Int)->Int->Int->(List Int)->(List Int)->(List Int)->Option (Bool))(v11:Int)(v12:Int)(v13:Bool):Option (Bool):=(bif v13 then some false else(bif (v11==0)then((Ar2 K (Dn.mk v6 v7 v8) a0 v5).bind fun r14=>((Auh K r14).bind fun r15=>(Awx K v3 v4 v6 v7 v8 v12 (C1) (!r15))))else(Awx K v3 v4 v6 v7 v8 v12 (C1) false)))
def Aix (K:Nat)(a0:Ea):Nat->(List Int)->Int->Int->(List Int)->(List Int)->(List Int)->Option (Bool)
 |0,_,_,_,_,_,_=>none
 |n1+1,v3,v4,v5,v6,v7,v8=>(bif (decide (v5<v4))then(if(0:Int)≤v5∧v5<(v3.length:Int)then((V1 K (gt v3 v5) 0 2).bind fun r9=>(bif (!r9)then some false else(bif ((gt v3 v5)==1)then(if(0:Int)≤v5∧v5<(v8.length:Int)then((V1 K (gt v8 v5) 0 (An7 .i64 a0.E6 1)).bind fun r10=>(bif r10 then(bif ((gt v3 v5) != 1)then(if(0:Int)≤v5∧v5<(v8.length:Int)then(Aqg K a0 v3 v4 v5 v6 v7 v8 (Aix K a0 n1) (gt v3 v5) v5 ((gt v8 v5) != (-1)))else none)else(Aqg K a0 v3 v4 v5 v6 v7 v8 (Aix K a0 n1) (gt v3 v5) v5 false))else(Aqg K a0 v3 v4 v5 v6 v7 v8 (Aix K a0 n1) (gt v3 v5) v5 true)))else none)else(bif ((gt v3 v5) != 1)then(if(0:Int)≤v5∧v5<(v8.length:Int)then(Aqg K a0 v3 v4 v5 v6 v7 v8 (Aix K a0 n1) (gt v3 v5) v5 ((gt v8 v5) != (-1)))else none)else(Aqg K a0 v3 v4 v5 v6 v7 v8 (Aix K a0 n1) (gt v3 v5) v5 false)))))else none)else some true)
def Ay8 (K:Nat)(a0:Ea)(a1:Dn):Option (Bool):=((Aug K a0).bind fun r1=>(bif r1 then((Ax5 K a0).bind fun r2=>(bif ((a1.N7.length:Int) != r2)then some false else(bif ((a1.Vi.length:Int) != a0.Ay)then some false else(bif ((a1.N8.length:Int) != a0.Ay)then some false else(Aix K a0 K a1.Vi (a1.Vi.length:Int) 0 a1.N7 a1.Vi a1.N8)))))else some false))
def Be8:=fd Tryz.func85 ⟨[.v 25,.v 28],[.v 4],true⟩ (gC (A9p K) (gC (A0m K) (gC (Bj8 K) (gC (Bdf K) (gC (Bj9 K) gN))))) [8,9,10,16,17,18,24,25,26,48,49,58,59,60,61,63,64,75,76] [29899,119599]
def Bxn:Ej:=⟨[(2,.p 102),(3,.p 103),(35,.v 26),(36,.v 2),(37,.v 2),(73,.v 4)],[(103,.box [.v 22,.v 26,.v 26]),(102,.st 25 true)]⟩
def Bxo:Ej:=⟨[(2,.p 102),(3,.p 103),(5,.v 2),(6,.v 2),(35,.v 26),(36,.v 2),(37,.v 2),(46,.v 4)],[(103,.box [.v 22,.v 26,.v 26]),(102,.st 25 true)]⟩
def Bbf:Ej:=⟨[(2,.p 102),(3,.p 103),(35,.v 26),(36,.v 2),(37,.v 2)],[(103,.box [.v 22,.v 26,.v 26]),(102,.st 25 true)]⟩
def A9q:=fun(C58:CT Bbf _)=>jn (Be8 K) 119599 Bxn [(58,ar Bbf C58)] (fun a b c d e f g h=>Awx K a b e f g c (fun v3 v4 v5 v6 v7 v8=>C58 v3 v4 v5 v6 v7 v8 h) d) kN
def Bbg:=fun(C58:CT Bbf _)=>jn (Be8 K) 29899 Bxo [(58,ar Bbf C58)] (fun a b c d e f g h i j=>Aqg K j c d a g h i (fun v3 v4 v5 v6 v7 v8=>C58 v3 v4 v5 v6 v7 v8 j) b e f) (kC (A9q K _) kN)
def Bkb:=lp (Be8 K) 58 Bbf [] (fun n a b c d e f g=>Aix K g n a b c d e f) (fun n=>(kC (Bbg K _) kN))
def Bs6:=ct (Be8 K) (Ay8 K) (kC (Bkb K K) kN)
def Aa4 (K:Nat)(a0:List Int):Option ((List Int)):=(bif a0.isEmpty then Aik (some []) ((if(([]:List Int)++a0).length*8≤140737488355328∧(([]:List Int)++a0).length≤maxLen then some (([]:List Int)++a0)else none))else(if(([]:List Int)++a0).length*8≤140737488355328∧(([]:List Int)++a0).length≤maxLen then some (([]:List Int)++a0)else none))
def A4c:=ct (fd Tryz.func131 ⟨[.v 26],[.n 26 true],true⟩ gN) (Aa4 K)
def Ak3 (K:Nat)(a0:List Int)(a1:List Int):Nat->Int->Int->Option (Bool)
 |0,_,_=>none
 |n1+1,v1,v2=>(bif (decide (v2<v1))then(if(0:Int)≤v2∧v2<(a0.length:Int)then(if(0:Int)≤v2∧v2<(a1.length:Int)then(bif ((gt a0 v2) != (gt a1 v2))then some false else(Ak3 K a0 a1 n1 v1 (An6 .i64 v2 1)))else none)else none)else some true)
def Anm (K:Nat)(a0:List Int)(a1:List Int):Option (Bool):=(bif ((a0.length:Int) != (a1.length:Int))then some false else(Ak3 K a0 a1 K (a0.length:Int) 0))
def Bqu:=fd Tryz.func112 ⟨[.v 26,.v 26],[.v 4],true⟩ gN
def Bxp:Ej:=⟨[(0,.v 26),(1,.v 26),(12,.v 2),(13,.v 2)],[]⟩
def Bkc:=lp Bqu 58 Bxp [] (fun n a b=>Ak3 K a b n) (fun n=>kN)
def Bkd:=ct Bqu (Anm K) (kC (Bkc K K) kN)
def Aqp (K:Nat)(a0:List Bc)(a1:List Bc):Nat->Int->Int->Option (Bool)
 |0,_,_=>none
 |n1+1,v1,v2=>(bif (decide (v2<v1))then(if(0:Int)≤v2∧v2<(a0.length:Int)then(if(0:Int)≤v2∧v2<(a1.length:Int)then(bif (!((((gt a0 v2).fAt)==((gt a1 v2).fAt))&&((((gt a0 v2).Ajm)==((gt a1 v2).Ajm))&&((((gt a0 v2).Ajn)==((gt a1 v2).Ajn))&&true))))then some false else(Aqp K a0 a1 n1 v1 (An6 .i64 v2 1)))else none)else none)else some true)
def Ark (K:Nat)(a0:List Bc)(a1:List Bc):Option (Bool):=(bif ((a0.length:Int) != (a1.length:Int))then some false else(Aqp K a0 a1 K (a0.length:Int) 0))
def Bqv:=fd Tryz.func259 ⟨[.v 48,.v 48],[.v 4],true⟩ gN
def Bxq:Ej:=⟨[(0,.v 48),(1,.v 48),(12,.v 2),(13,.v 2)],[]⟩
def Bke:=lp Bqv 58 Bxq [] (fun n a b=>Aqp K a b n) (fun n=>kN)
def Bs7:=ct Bqv (Ark K) (kC (Bke K K) kN)
def Azr (K:Nat)(a0:As)(a1:As):Option (Bool):=(bif (a0.Vi==a1.Vi)then(bif (a0.C9==a1.C9)then(bif (a0.Sl==a1.Sl)then(bif (a0.fUp==a1.fUp)then(bif (a0.Sm==a1.Sm)then(bif (a0.Ef==a1.Ef)then(bif (a0.Sn==a1.Sn)then(bif (a0.So==a1.So)then((Anm K a0.Ay a1.Ay).bind fun r1=>(bif r1 then(bif (a0.Acx==a1.Acx)then(bif (a0.Sq==a1.Sq)then((Ark K a0.F6 a1.F6).bind fun r2=>(bif r2 then((Anm K a0.Fi a1.Fi).bind fun r3=>some r3)else some false))else some false)else some false)else some false))else some false)else some false)else some false)else some false)else some false)else some false)else some false)else some false)
def Bs8:=ct (fd Tryz.func205 ⟨[.v 50,.v 50],[.v 4],true⟩ (gC (Bkd K) (gC (Bs7 K) gN)) [9,10,15,16,17,22,23,24,29,30,31,36,37,38,43,44,45,50,51,52,57,58,59,64,65,66,71,72,73,78,79,80,85,86,87]) (Azr K)
def A09 (K:Nat)(a0:As):Option (Bool):=((Azr K a0 (As.mk a0.Vi a0.C9 0 0 0 0 0 0 ([]:List Int) 0 0 ([]:List Bc) ([]:List Int))).bind fun r1=>some r1)
def Bs9:=ct (fd Tryz.func239 ⟨[.v 50],[.v 4],true⟩ (gC (Bs8 K) gN)) (A09 K)
def Apa (K:Nat)(a0:Ea)(a1:List Int):Nat->(List Int)->Int->Int->Option (Bool)
 |0,_,_,_=>none
 |n1+1,v1,v2,v3=>(bif (decide (v3<v2))then(if(0:Int)≤v3∧v3<(v1.length:Int)then((V1 K (gt v1 v3) 0 (An7 .i64 a0.Ay 1)).bind fun r4=>(bif r4 then(if(0:Int)≤0∧0≤v3∧v3≤(a1.length:Int)then((Ako K ((a1.drop (0:Int).toNat).take (v3 - 0).toNat) (gt v1 v3)).bind fun r5=>(bif r5 then some false else(Apa K a0 a1 n1 v1 v2 (An6 .i64 v3 1))))else none)else some false))else none)else some true)
def Auc (K:Nat)(a0:Ea)(a1:List Int):Option (Bool):=(Apa K a0 a1 K a1 (a1.length:Int) 0)
def Bqw:=fd Tryz.func240 ⟨[.v 25,.v 26],[.v 4],true⟩ (gC (A0m K) (gC (A9o K) gN)) [18,19,20]
def Bxr:Ej:=⟨[(1,.v 26),(2,.p 102),(7,.v 26),(8,.v 2),(9,.v 2)],[(102,.st 25 true)]⟩
def Bkf:=lp (Bqw K) 26 Bxr [] (fun n a b c d e=>Apa K e a n b c d) (fun n=>kN)
def Bkg:=ct (Bqw K) (Auc K) (kC (Bkf K K) kN)
def Aur (K:Nat)(a0:Int):Option (Bool):=((V1 K a0 0 255).bind fun r1=>some (!r1))
def Bta:=ct (fd Tryz.func180 ⟨[.v 3],[.v 4],true⟩ (gC (A0m K) gN)) (Aur K)
def Agq (K:Nat)(a0:List Int):Nat->Int->Int->Option (Int)
 |0,_,_=>none
 |n1+1,v1,v2=>(bif (decide (v2<v1))then(if(0:Int)≤v2∧v2<(a0.length:Int)then((Aur K (gt a0 v2)).bind fun r3=>(bif r3 then some v2 else(Agq K a0 n1 v1 (An6 .i64 v2 1))))else none)else some (-1))
def Ak4 (K:Nat)(a0:List Int):Option (Int):=(Agq K a0 K (a0.length:Int) 0)
def Bqx:=fd Tryz.func247 ⟨[.v 26,.f 180 [] []],[.v 3],true⟩ (gC (Bta K) gN)
def Bxs:Ej:=⟨[(0,.v 26),(1,.f 180 [] []),(7,.v 2),(8,.v 2)],[]⟩
def Bkh:=lp (Bqx K) 26 Bxs [] (fun n a=>Agq K a n) (fun n=>kN)
def Btb:=ct (Bqx K) (Ak4 K) (kC (Bkh K K) kN)
def Aiy (K:Nat)(a0:List Int):Option (Bool):=((Ak4 K a0).bind fun r1=>some (decide (r1≥0)))
def Btc:=ct (fd Tryz.func179 ⟨[.v 26,.f 180 [] []],[.v 4],true⟩ (gC (Btb K) gN)) (Aiy K)
def Art (K:Nat)(a0:List Int):Option (Bool):=((Aiy K a0).bind fun r1=>some (!r1))
def Bdg:=ct (fd Tryz.func89 ⟨[.v 26],[.v 4],true⟩ (gC (Btc K) gN)) (Art K)
def A2z (K:Nat)(a0:Ea)(a1:Int):Option (Bool):=some (decide (a1>a0.G8))
def Btd:=ct (fd Tryz.func280 ⟨[.v 25,.v 3],[.v 4],true⟩ gN) (A2z K)
def A20 (K:Nat)(a0:Int)(a1:Int):Option (Int):=((V1 K a0 0 1000000000).bind fun r1=>(bif r1 then((V1 K a1 1 1000000000).bind fun r2=>(bif (!r2)then some 0 else(if a1≠(0:Int)then some (Alk .i64 (An7 .i64 (An6 .i64 a0 a1) 1) a1)else none)))else some 0))
def Bte:=ct (fd Tryz.func305 ⟨[.v 3,.v 3],[.v 3],true⟩ (gC (A0m K) gN) [6,7,8]) (A20 K)
def A1x (K:Nat)(a0:Ea)(a1:Int):Option (Int):=((A20 K a1 a0.G8).bind fun r1=>some r1)
def Btf:=ct (fd Tryz.func281 ⟨[.v 25,.v 3],[.v 3],true⟩ (gC (Bte K) gN)) (A1x K)
def Ata (K:Nat)(a0:Ea)(a1:Bc):Option (Bool):=((Ax5 K a0).bind fun r1=>(bif (decide (a1.Ajm≤0))then some false else(bif (decide (a1.fAt<0))then some false else(bif (decide (a1.Ajm>r1))then some false else(bif (decide (a1.fAt>(An7 .i64 r1 a1.Ajm)))then some false else(bif (a1.Ajn==0)then(bif (decide (a1.Ajm≤a0.G8))then(if a0.G8≠(0:Int)then(if a0.G8≠(0:Int)then some ((Alk .i64 a1.fAt a0.G8)==(Alk .i64 (An7 .i64 (An6 .i64 a1.fAt a1.Ajm) 1) a0.G8))else none)else none)else some false)else((A2z K a0 a1.Ajm).bind fun r2=>(bif r2 then((A1x K a0 a1.Ajm).bind fun r3=>(bif (a1.Ajn==r3)then(if a0.G8≠(0:Int)then some ((Int.tmod a1.fAt a0.G8)==0)else none)else some false))else some false))))))))
def Bki:=ct (fd Tryz.func242 ⟨[.v 25,.v 132],[.v 4],true⟩ (gC (Bj8 K) (gC (Btd K) (gC (Btf K) gN))) [10,11,14,15,16,20,21,22,38,39,59,60,67,68,69]) (Ata K)
def Awy (K:Nat)(a0:Bc)(a1:Ea):Option (Bool):=((Ata K a1 a0).bind fun r1=>some (!r1))
def Btg:=ct (fd Tryz.func241 ⟨[.v 132,.r 25],[.v 4],true⟩ (gC (Bki K) gN)) (Awy K)
def Aeq (K:Nat)(a0:List Bc)(a1_0:Ea):Nat->Int->Int->Option (Int)
 |0,_,_=>none
 |n1+1,v1,v2=>(bif (decide (v2<v1))then(if(0:Int)≤v2∧v2<(a0.length:Int)then((Awy K (gt a0 v2) a1_0).bind fun r3=>(bif r3 then some v2 else(Aeq K a0 a1_0 n1 v1 (An6 .i64 v2 1))))else none)else some (-1))
def An2 (K:Nat)(a0:List Bc)(a1_0:Ea):Option (Int):=(Aeq K a0 a1_0 K (a0.length:Int) 0)
def Bqy:=fd Tryz.func245 ⟨[.v 48,.f 241 [] [25]],[.v 3],true⟩ (gC (Btg K) gN)
def Bxt:Ej:=⟨[(0,.v 48),(1,.f 241 [] [25]),(7,.v 2),(8,.v 2)],[]⟩
def Bkj:=lp (Bqy K) 26 Bxt [] (fun n a b=>Aeq K a b n) (fun n=>kN)
def Bth:=ct (Bqy K) (An2 K) (kC (Bkj K K) kN)
def Ag8 (K:Nat)(a0:List Bc)(a1_0:Ea):Option (Bool):=((An2 K a0 a1_0).bind fun r1=>some (decide (r1≥0)))
def Bti:=ct (fd Tryz.func172 ⟨[.v 48,.f 241 [] [25]],[.v 4],true⟩ (gC (Bth K) gN)) (Ag8 K)
def Aqh (K:Nat)(a0:Ea)(v19:List Bc)(v20:List Int):Option (Bool):=(bif (decide ((v19.length:Int)≤12))then(bif (decide ((v20.length:Int)≤6))then((Art K v20).bind fun r25=>(bif r25 then((Ag8 K v19 a0).bind fun r26=>some (!r26))else some false))else some false)else some false)
def Apl (K:Nat)(a0:Ea):Nat->(List Int)->Int->Int->Int->Int->Int->Int->Int->Int->Int->Int->(List Int)->Int->Int->(List Bc)->(List Int)->Option (Bool)
 |0,_,_,_,_,_,_,_,_,_,_,_,_,_,_,_,_=>none
 |n1+1,v5,v6,v7,v8,v9,v10,v11,v12,v13,v14,v15,v16,v17,v18,v19,v20=>(bif (decide (v7<v6))then(if(0:Int)≤v7∧v7<(v5.length:Int)then((V1 K (gt v5 v7) 0 a0.E6).bind fun r21=>(bif (!r21)then some false else(Apl K a0 n1 v5 v6 (An6 .i64 v7 1) v8 v9 v10 v11 v12 v13 v14 v15 v16 v17 v18 v19 v20)))else none)else(bif (decide (v10<0))then some false else(bif (decide (v12<0))then some false else((Auc K a0 v16).bind fun r22=>(bif r22 then(bif (v17 != 0)then((Ako K v16 (An7 .i64 v17 1)).bind fun r23=>(bif r23 then((V1 K v18 0 a0.G8).bind fun r24=>(bif r24 then(bif (v17==0)then(bif (v18 != 0)then some false else(Aqh K a0 v19 v20))else(Aqh K a0 v19 v20))else some false))else some false))else((V1 K v18 0 a0.G8).bind fun r27=>(bif r27 then(bif (v17==0)then(bif (v18 != 0)then some false else(Aqh K a0 v19 v20))else(Aqh K a0 v19 v20))else some false)))else some false)))))
def Ay9 (K:Nat)(a0:Ea)(a1:As):Option (Bool):=((Aug K a0).bind fun r1=>(bif r1 then((V1 K a1.Vi 0 3).bind fun r2=>(bif r2 then((V1 K a1.C9 1 a0.G9).bind fun r3=>(bif (!r3)then some false else(bif (a1.Vi != 1)then((A09 K a1).bind fun r4=>some r4)else(Apl K a0 K ([a1.fUp,a1.Ef,a1.Sn,a1.So]:List Int) (([a1.fUp,a1.Ef,a1.Sn,a1.So]:List Int).length:Int) 0 a1.Vi a1.C9 a1.Sl a1.fUp a1.Sm a1.Ef a1.Sn a1.So a1.Ay a1.Acx a1.Sq a1.F6 a1.Fi))))else some false))else some false))
def Bkk:=fd Tryz.func169 ⟨[.v 25,.v 50],[.v 4],true⟩ (gC (A9p K) (gC (Bdg K) (gC (A0m K) (gC (A9o K) (gC (Bti K) (gC (Bs9 K) (gC (Bkg K) gN))))))) [8,9,10,13,14,15,16,51,52,55,56,57,61,62,63,64,67,68,74,75,76,77,78,83,84,85,86,89,90,99,100,104,105,106,109,110,111] [31] [(13,[.frzB 102 25])]
def Bxu:Ej:=⟨[(2,.p 102),(3,.p 103)],[(103,.box [.v 2,.v 2,.v 2,.v 2,.v 2,.v 2,.v 2,.v 2,.v 26,.v 2,.v 2,.v 48,.v 26]),(102,.st 25 true)]⟩
def Bxv:Ej:=⟨[(2,.p 102),(3,.p 103),(37,.v 26),(38,.v 2),(39,.v 2)],[(103,.box [.v 2,.v 2,.v 2,.v 2,.v 2,.v 2,.v 2,.v 2,.v 26,.v 2,.v 2,.v 48,.v 26]),(102,.st 25 true)]⟩
def Bkl:=jn (Bkk K) 31 Bxu [] (fun _ _ _ _ _ _ _ _ _ _ _ l m o=>Aqh K o l m) kN
def Bgr:=lp (Bkk K) 122 Bxv [] (fun n a b c d e f g h i j k l m o p q r=>Apl K r n a b c d e f g h i j k l m o p q) (fun n=>(kC (up (Bkl K)) kN))
def Btj:=ct (Bkk K) (Ay9 K) (kC (Bgr K K) kN)
def Atb (K:Nat)(v2:Int)(v3:Int)(v4:List Int)(v5:List Int)(v6:List Int)(C1:(List Int)->Int->Int->(List Int)->(List Int)->(List Int)->Option ((List Int)))(v7:List Int):Option ((List Int)):=(C1 v7 v2 (An6 .i64 v3 1) v4 v5 v6)
def Al1 (K:Nat)(a1:Int):Nat->(List Int)->Int->Int->(List Int)->(List Int)->(List Int)->Option ((List Int))
 |0,_,_,_,_,_,_=>none
 |n1+1,v1,v2,v3,v4,v5,v6=>(bif (decide (v3<v2))then(if(0:Int)≤v3∧v3<(v5.length:Int)then(bif ((gt v5 v3)==1)then(if(0:Int)≤v3∧v3<(v6.length:Int)then(bif ((gt v6 v3)==a1)then(if(v1++([v3]:List Int)).length*8≤140737488355328∧(v1++([v3]:List Int)).length≤maxLen then(Atb K v2 v3 v4 v5 v6 (Al1 K a1 n1) (v1++([v3]:List Int)))else none)else(Atb K v2 v3 v4 v5 v6 (Al1 K a1 n1) v1))else none)else(Atb K v2 v3 v4 v5 v6 (Al1 K a1 n1) v1))else none)else some v1)
def Ax6 (K:Nat)(a0:Dn)(a1:Int):Option ((List Int)):=(Al1 K a1 K ([]:List Int) (Zy (a0.Vi.length:Int) (a0.N8.length:Int)) 0 a0.N7 a0.Vi a0.N8)
def Bkm:=fd Tryz.func114 ⟨[.v 28,.v 3],[.n 26 true],true⟩ gN [23,24] [467]
def Be9:Ej:=⟨[(1,.v 2),(2,.p 102),(5,.o 1005 3 true),(14,.v 2),(15,.v 2)],[(102,.box [.v 22,.v 26,.v 26])]⟩
def Bgs:=fun(C58:CT Be9 _)=>jn Bkm 467 Be9 [(58,ar Be9 C58)] (fun a b c d e f g=>Atb K c d e f g (C58 a) b) kN
def Bkn:=lp Bkm 58 Be9 [] (fun n a=>Al1 K a n) (fun n=>(kC (Bgs K _) kN))
def Btk:=ct Bkm (Ax6 K) (kC (Bkn K K) kN)
def Amj (K:Nat)(a0:Bc)(a1:Ea)(a2:As):Nat->Int->Option (Bool)
 |0,_=>none
 |n1+1,v2=>(if a1.G8≠(0:Int)then(bif (decide (v2≤(Alk .i64 (An7 .i64 (An6 .i64 a0.fAt a0.Ajm) 1) a1.G8)))then((Ako K a2.Ay v2).bind fun r3=>(bif (!r3)then some true else(Amj K a0 a1 a2 n1 (An6 .i64 v2 1))))else some false)else none)
def Ar3 (K:Nat)(a0:Bc)(a1:Ea)(a2:As):Option (Bool):=((Ata K a1 a0).bind fun r1=>(bif (!r1)then some true else(if a1.G8≠(0:Int)then(Amj K a0 a1 a2 K (Alk .i64 a0.fAt a1.G8))else none)))
def Bqz:=fd Tryz.func243 ⟨[.v 132,.r 25,.r 50],[.v 4],true⟩ (gC (A9o K) (gC (Bki K) gN))
def Bxw:Ej:=⟨[(1,.r 25),(2,.r 50),(3,.p 103),(5,.v 2)],[(103,.st 132 true)]⟩
def Bko:=lp (Bqz K) 58 Bxw [] (fun n a b c d=>Amj K d a b n c) (fun n=>kN)
def Btl:=ct (Bqz K) (Ar3 K) (kC (Bko K K) kN)
def Acz (K:Nat)(a0:List Bc)(a1_0:Ea)(a1_1:As):Nat->Int->Int->Option (Int)
 |0,_,_=>none
 |n1+1,v1,v2=>(bif (decide (v2<v1))then(if(0:Int)≤v2∧v2<(a0.length:Int)then((Ar3 K (gt a0 v2) a1_0 a1_1).bind fun r3=>(bif r3 then some v2 else(Acz K a0 a1_0 a1_1 n1 v1 (An6 .i64 v2 1))))else none)else some (-1))
def Ani (K:Nat)(a0:List Bc)(a1_0:Ea)(a1_1:As):Option (Int):=(Acz K a0 a1_0 a1_1 K (a0.length:Int) 0)
def Bq0:=fd Tryz.func245 ⟨[.v 48,.f 243 [] [25,50]],[.v 3],true⟩ (gC (Btl K) gN)
def Bxx:Ej:=⟨[(0,.v 48),(1,.f 243 [] [25,50]),(7,.v 2),(8,.v 2)],[]⟩
def Bkp:=lp (Bq0 K) 26 Bxx [] (fun n a b c=>Acz K a b c n) (fun n=>kN)
def Btm:=ct (Bq0 K) (Ani K) (kC (Bkp K K) kN)
def Ags (K:Nat)(a0:List Bc)(a1_0:Ea)(a1_1:As):Option (Bool):=((Ani K a0 a1_0 a1_1).bind fun r1=>some (decide (r1≥0)))
def Btn:=ct (fd Tryz.func172 ⟨[.v 48,.f 243 [] [25,50]],[.v 4],true⟩ (gC (Btm K) gN)) (Ags K)
def Awz (K:Nat)(a0:Ea)(a1:As):Option (Bool):=((Ags K a1.F6 a0 a1).bind fun r1=>some (!r1))
def Bto:=ct (fd Tryz.func170 ⟨[.v 25,.v 50],[.v 4],true⟩ (gC (Btn K) gN) [] [] [(1,[.frzB 102 25,.frzB 103 50])]) (Awz K)
def Ax7 (K:Nat)(v1:Bc)(v2:Bc):Option (Bool):=some (decide ((An7 .u64 (IntKind.u64.wrap v1.fAt) (IntKind.u64.wrap v2.fAt))≥(IntKind.u64.wrap v2.Ajm)))
def Ax8 (K:Nat)(a0:Bc)(a1:Bc):Option (Bool):=(bif (decide (a0.Ajm≤0))then some true else(bif (decide (a1.Ajm≤0))then some true else(bif (decide (a0.fAt>a1.fAt))then(Ax7 K a0 a1)else(Ax7 K a1 a0))))
def Bq1:=fd Tryz.func174 ⟨[.v 132,.v 132],[.v 4],true⟩ gN [7,8] [7]
def Bxy:Ej:=⟨[(2,.p 102),(3,.p 103)],[(103,.st 132 true),(102,.st 132 true)]⟩
def Bov:=jn Bq1 7 Bxy [] (Ax7 K) kN
def Bkq:=ct Bq1 (Ax8 K) (kC (Bov K) kN)
def Aus (K:Nat)(a0:Bc)(a1:Bc):Option (Bool):=((Ax8 K a0 a1).bind fun r1=>some (!r1))
def Btp:=ct (fd Tryz.func244 ⟨[.v 132,.r 132],[.v 4],true⟩ (gC (Bkq K) gN)) (Aus K)
def Ad3 (K:Nat)(a0:List Bc)(a1_0:Bc):Nat->Int->Int->Option (Int)
 |0,_,_=>none
 |n1+1,v1,v2=>(bif (decide (v2<v1))then(if(0:Int)≤v2∧v2<(a0.length:Int)then((Aus K (gt a0 v2) a1_0).bind fun r3=>(bif r3 then some v2 else(Ad3 K a0 a1_0 n1 v1 (An6 .i64 v2 1))))else none)else some (-1))
def Anj (K:Nat)(a0:List Bc)(a1_0:Bc):Option (Int):=(Ad3 K a0 a1_0 K (a0.length:Int) 0)
def Bq2:=fd Tryz.func245 ⟨[.v 48,.f 244 [] [132]],[.v 3],true⟩ (gC (Btp K) gN)
def Bxz:Ej:=⟨[(0,.v 48),(1,.f 244 [] [132]),(7,.v 2),(8,.v 2)],[]⟩
def Bkr:=lp (Bq2 K) 26 Bxz [] (fun n a b=>Ad3 K a b n) (fun n=>kN)
def Btq:=ct (Bq2 K) (Anj K) (kC (Bkr K K) kN)
def Agu (K:Nat)(a0:List Bc)(a1_0:Bc):Option (Bool):=((Anj K a0 a1_0).bind fun r1=>some (decide (r1≥0)))
def Btr:=ct (fd Tryz.func172 ⟨[.v 48,.f 244 [] [132]],[.v 4],true⟩ (gC (Btq K) gN)) (Agu K)
def Apb (K:Nat)(a0:List Bc):Nat->(List Bc)->Int->Int->Option (Bool)
 |0,_,_,_=>none
 |n1+1,v1,v2,v3=>(bif (decide (v3<v2))then(if(0:Int)≤v3∧v3<(v1.length:Int)then(if(0:Int)≤0∧0≤v3∧v3≤(a0.length:Int)then((Agu K ((a0.drop (0:Int).toNat).take (v3 - 0).toNat) (gt v1 v3)).bind fun r4=>(bif r4 then some false else(Apb K a0 n1 v1 v2 (An6 .i64 v3 1))))else none)else none)else some true)
def Aw0 (K:Nat)(a0:List Bc):Option (Bool):=(Apb K a0 K a0 (a0.length:Int) 0)
def Bq3:=fd Tryz.func171 ⟨[.v 48],[.v 4],true⟩ (gC (Btr K) gN) [] [] [(4,[.frzB 104 132])]
def Bx0:Ej:=⟨[(0,.v 48),(5,.v 48),(6,.v 2),(7,.v 2)],[]⟩
def Bks:=lp (Bq3 K) 26 Bx0 [] (fun n a=>Apb K a n) (fun n=>kN)
def Bts:=ct (Bq3 K) (Aw0 K) (kC (Bks K K) kN)
def Aqq (K:Nat)(a0:Bc)(a1:Bc):Option (Bool):=((Ax8 K a0 a1).bind fun r1=>some (!r1))
def Btt:=ct (fd Tryz.func173 ⟨[.v 132,.r 132],[.v 4],true⟩ (gC (Bkq K) gN)) (Aqq K)
def Wy (K:Nat)(a0:List Bc)(a1_0:Bc):Nat->Int->Int->Option (Int)
 |0,_,_=>none
 |n1+1,v1,v2=>(bif (decide (v2<v1))then(if(0:Int)≤v2∧v2<(a0.length:Int)then((Aqq K (gt a0 v2) a1_0).bind fun r3=>(bif r3 then some v2 else(Wy K a0 a1_0 n1 v1 (An6 .i64 v2 1))))else none)else some (-1))
def Ak6 (K:Nat)(a0:List Bc)(a1_0:Bc):Option (Int):=(Wy K a0 a1_0 K (a0.length:Int) 0)
def Bq4:=fd Tryz.func245 ⟨[.v 48,.f 173 [] [132]],[.v 3],true⟩ (gC (Btt K) gN)
def Bx1:Ej:=⟨[(0,.v 48),(1,.f 173 [] [132]),(7,.v 2),(8,.v 2)],[]⟩
def Bkt:=lp (Bq4 K) 26 Bx1 [] (fun n a b=>Wy K a b n) (fun n=>kN)
def Btu:=ct (Bq4 K) (Ak6 K) (kC (Bkt K K) kN)
def Ae7 (K:Nat)(a0:List Bc)(a1_0:Bc):Option (Bool):=((Ak6 K a0 a1_0).bind fun r1=>some (decide (r1≥0)))
def Btv:=ct (fd Tryz.func172 ⟨[.v 48,.f 173 [] [132]],[.v 4],true⟩ (gC (Btu K) gN)) (Ae7 K)
def Aqr (K:Nat)(v1:List As)(v2:Int)(v3:Int)(v4:Int)(v5:Int)(v6:Int)(v7:Int)(v8:Int)(v9:Int)(v10:List Int)(v11:List Int)(v12:List Int)(v13:List As)(v14:List Az)(v15:List Int)(C1:(List As)->Int->Int->Int->Int->Int->Int->Int->Int->(List Int)->(List Int)->(List Int)->(List As)->(List Az)->(List Int)->Option (Bool)):Option (Bool):=(C1 v1 v2 (An6 .i64 v3 1) v4 v5 v6 v7 v8 v9 v10 v11 v12 v13 v14 v15)
def Ag0 (K:Nat):Nat->(List As)->Int->Int->Int->Int->Int->Int->Int->Int->(List Int)->(List Int)->(List Int)->(List As)->(List Az)->(List Int)->Option (Bool)
 |0,_,_,_,_,_,_,_,_,_,_,_,_,_,_,_=>none
 |n1+1,v1,v2,v3,v4,v5,v6,v7,v8,v9,v10,v11,v12,v13,v14,v15=>(bif (decide (v3<v2))then(if(0:Int)≤v3∧v3<(v1.length:Int)then((Aa4 K ((gt v1 v3).Ay)).bind fun r16=>((Ec K r16).bind fun r17=>(if r17.length=r16.length then((Ay9 K (Ea.mk v4 v5 v6 v7 v8 v9) (gt v1 v3)).bind fun r18=>(bif r18 then((Ax6 K (Dn.mk v10 v11 v12) v3).bind fun r19=>((Anm K r17 r19).bind fun r20=>(bif r20 then((Awz K (Ea.mk v4 v5 v6 v7 v8 v9) (gt v1 v3)).bind fun r21=>(bif r21 then((Aw0 K ((gt v1 v3).F6)).bind fun r22=>(bif (!r22)then some false else(bif (((gt v1 v3).Acx)==0)then(Aqr K v1 v2 v3 v4 v5 v6 v7 v8 v9 v10 v11 v12 v13 v14 v15 (Ag0 K n1))else(if(0:Int)≤((Bc.mk (An6 .i64 (An8 .i64 (An7 .i64 ((gt v1 v3).Acx) 1) v5) ((gt v1 v3).Sq)) (An7 .i64 v5 ((gt v1 v3).Sq)) 0).fAt)∧((Bc.mk (An6 .i64 (An8 .i64 (An7 .i64 ((gt v1 v3).Acx) 1) v5) ((gt v1 v3).Sq)) (An7 .i64 v5 ((gt v1 v3).Sq)) 0).fAt)≤(An6 .i64 ((Bc.mk (An6 .i64 (An8 .i64 (An7 .i64 ((gt v1 v3).Acx) 1) v5) ((gt v1 v3).Sq)) (An7 .i64 v5 ((gt v1 v3).Sq)) 0).fAt) ((Bc.mk (An6 .i64 (An8 .i64 (An7 .i64 ((gt v1 v3).Acx) 1) v5) ((gt v1 v3).Sq)) (An7 .i64 v5 ((gt v1 v3).Sq)) 0).Ajm))∧(An6 .i64 ((Bc.mk (An6 .i64 (An8 .i64 (An7 .i64 ((gt v1 v3).Acx) 1) v5) ((gt v1 v3).Sq)) (An7 .i64 v5 ((gt v1 v3).Sq)) 0).fAt) ((Bc.mk (An6 .i64 (An8 .i64 (An7 .i64 ((gt v1 v3).Acx) 1) v5) ((gt v1 v3).Sq)) (An7 .i64 v5 ((gt v1 v3).Sq)) 0).Ajm))≤(v10.length:Int)then((Auh K ((v10.drop ((Bc.mk (An6 .i64 (An8 .i64 (An7 .i64 ((gt v1 v3).Acx) 1) v5) ((gt v1 v3).Sq)) (An7 .i64 v5 ((gt v1 v3).Sq)) 0).fAt).toNat).take ((An6 .i64 ((Bc.mk (An6 .i64 (An8 .i64 (An7 .i64 ((gt v1 v3).Acx) 1) v5) ((gt v1 v3).Sq)) (An7 .i64 v5 ((gt v1 v3).Sq)) 0).fAt) ((Bc.mk (An6 .i64 (An8 .i64 (An7 .i64 ((gt v1 v3).Acx) 1) v5) ((gt v1 v3).Sq)) (An7 .i64 v5 ((gt v1 v3).Sq)) 0).Ajm)) - ((Bc.mk (An6 .i64 (An8 .i64 (An7 .i64 ((gt v1 v3).Acx) 1) v5) ((gt v1 v3).Sq)) (An7 .i64 v5 ((gt v1 v3).Sq)) 0).fAt)).toNat)).bind fun r23=>(bif r23 then((Ae7 K ((gt v1 v3).F6) (Bc.mk (An6 .i64 (An8 .i64 (An7 .i64 ((gt v1 v3).Acx) 1) v5) ((gt v1 v3).Sq)) (An7 .i64 v5 ((gt v1 v3).Sq)) 0)).bind fun r24=>(bif r24 then some false else(Aqr K v1 v2 v3 v4 v5 v6 v7 v8 v9 v10 v11 v12 v13 v14 v15 (Ag0 K n1))))else some false))else none))))else some false))else some false)))else some false))else none)))else none)else some true)
def Ar4 (K:Nat)(a0:C5):Option (Bool):=(Ag0 K K a0.fL (a0.fL.length:Int) 0 a0.fC.Ay a0.fC.G8 a0.fC.E6 a0.fC.Gu a0.fC.E7 a0.fC.G9 a0.fP.N7 a0.fP.Vi a0.fP.N8 a0.fL a0.fQ a0.Acy)
def Bku:=fd Tryz.func86 ⟨[.v 32],[.v 4],true⟩ (gC (Bkd K) (gC (Btk K) (gC (A4c K) (gC (Bdf K) (gC (Vs K) (gC (Btj K) (gC (Bto K) (gC (Bts K) (gC (Btv K) gN))))))))) [23,24,25,31,32,33,34,38,39,40,41,78,79,80] [211] [(10,[.frzB 106 132])]
def Bfa:Ej:=⟨[(1,.p 101),(8,.v 29),(9,.v 2),(10,.v 2)],[(101,.box [.v 2,.v 2,.v 2,.v 2,.v 2,.v 2,.v 22,.v 26,.v 26,.v 29,.v 30,.v 26])]⟩
def Bgt:=fun(C26:CT Bfa _)=>jn (Bku K) 211 Bfa [(26,ar Bfa C26)] (fun a b c d e f g h i j k l m o p=>Aqr K a b c d e f g h i j k l m o p C26) kN
def Bkv:=lp (Bku K) 26 Bfa [] (Ag0 K) (fun n=>(kC (Bgt K _) kN))
def Btw:=ct (Bku K) (Ar4 K) (kC (Bkv K K) kN)
def Aui (K:Nat)(a0:List As)(a1:Int):Option (Bool):=(bif (a1==0)then some true else((Alf K a0 (An7 .i64 a1 1)).bind fun r1=>(bif r1 then(if(0:Int)≤(An7 .i64 a1 1)∧(An7 .i64 a1 1)<(a0.length:Int)then some (((gt a0 (An7 .i64 a1 1)).Vi)==1)else none)else some false)))
def Btx:=ct (fd Tryz.func246 ⟨[.v 29,.v 3],[.v 4],true⟩ (gC (A2y K) gN) [6,7,11,12]) (Aui K)
def Aq7 (K:Nat)(a0:List As)(a1:Int):Option (Bool):=(if(0:Int)≤a1∧a1<(a0.length:Int)then((Alf K a0 (An7 .i64 ((gt a0 a1).fUp) 1)).bind fun r1=>(bif r1 then(if(0:Int)≤(An7 .i64 ((gt a0 a1).fUp) 1)∧(An7 .i64 ((gt a0 a1).fUp) 1)<(a0.length:Int)then(bif (((gt a0 (An7 .i64 ((gt a0 a1).fUp) 1)).Vi)==1)then(if(0:Int)≤(An7 .i64 ((gt a0 a1).fUp) 1)∧(An7 .i64 ((gt a0 a1).fUp) 1)<(a0.length:Int)then(if(0:Int)≤a1∧a1<(a0.length:Int)then some (((gt a0 (An7 .i64 ((gt a0 a1).fUp) 1)).Sl)==((gt a0 a1).Sm))else none)else none)else some false)else none)else some false))else none)
def Bdh:=ct (fd Tryz.func176 ⟨[.v 29,.v 3],[.v 4],true⟩ (gC (A2y K) gN) [14,15,21,22,23]) (Aq7 K)
def Atc (K:Nat)(a0:List As)(a1:Int)(v8:Int)(v12:Int):Option (Bool):=(bif (v12 != 0)then some true else((Aq7 K a0 a1).bind fun r18=>(bif r18 then(if(0:Int)≤(An7 .i64 v8 1)∧(An7 .i64 v8 1)<(a0.length:Int)then some (((gt a0 (An7 .i64 v8 1)).Ef)==(An6 .i64 a1 1))else none)else some true)))
def Atd (K:Nat)(a0:List As)(a1:Int)(v8:Int)(v12:Int):Option (Bool):=(bif (v12 != 0)then(if(0:Int)≤(An7 .i64 v12 1)∧(An7 .i64 v12 1)<(a0.length:Int)then(bif (((gt a0 (An7 .i64 v12 1)).Sn) != (An6 .i64 a1 1))then some false else(Atc K a0 a1 v8 v12))else none)else(Atc K a0 a1 v8 v12))
def Ate (K:Nat)(a0:List As)(a1:Int)(v8:Int)(v9:Int)(v11:Int)(v12:Int):Option (Bool):=(bif (v11 != 0)then(if(0:Int)≤(An7 .i64 v11 1)∧(An7 .i64 v11 1)<(a0.length:Int)then(bif (((gt a0 (An7 .i64 v11 1)).So) != (An6 .i64 a1 1))then some false else(bif (((gt a0 (An7 .i64 v11 1)).fUp) != v8)then some false else(bif (((gt a0 (An7 .i64 v11 1)).Sm) != v9)then some false else(Atd K a0 a1 v8 v12))))else none)else(Atd K a0 a1 v8 v12))
def Atf (K:Nat)(a0:List As)(a1:Int)(v5:Int)(v6:Int)(v7:Int)(v8:Int)(v9:Int)(v10:Int)(v11:Int)(v12:Int)(v13:List Int)(v14:Int)(v15:Int)(v16:List Bc)(v17:List Int):Option (Bool):=(bif (v10 != 0)then(if(0:Int)≤(An7 .i64 v10 1)∧(An7 .i64 v10 1)<(a0.length:Int)then(bif (((gt a0 (An7 .i64 v10 1)).So) != 0)then some false else(bif (((gt a0 (An7 .i64 v10 1)).fUp) != (An6 .i64 a1 1))then some false else(bif (((gt a0 (An7 .i64 v10 1)).Sm) != v7)then some false else(Ate K a0 a1 v8 v9 v11 v12))))else none)else(Ate K a0 a1 v8 v9 v11 v12))
def Ax9 (K:Nat)(a0:List As)(a1:Int):Option (Bool):=(if(0:Int)≤a1∧a1<(a0.length:Int)then((Aui K a0 ((gt a0 a1).Ef)).bind fun r1=>(bif r1 then((Aui K a0 ((gt a0 a1).Sn)).bind fun r2=>(bif r2 then((Aui K a0 ((gt a0 a1).So)).bind fun r3=>(bif r3 then(bif (((gt a0 a1).fUp) != 0)then((Alf K a0 (An7 .i64 ((gt a0 a1).fUp) 1)).bind fun r4=>(bif (!r4)then some false else(Atf K a0 a1 ((gt a0 a1).Vi) ((gt a0 a1).C9) ((gt a0 a1).Sl) ((gt a0 a1).fUp) ((gt a0 a1).Sm) ((gt a0 a1).Ef) ((gt a0 a1).Sn) ((gt a0 a1).So) ((gt a0 a1).Ay) ((gt a0 a1).Acx) ((gt a0 a1).Sq) ((gt a0 a1).F6) ((gt a0 a1).Fi))))else(Atf K a0 a1 ((gt a0 a1).Vi) ((gt a0 a1).C9) ((gt a0 a1).Sl) ((gt a0 a1).fUp) ((gt a0 a1).Sm) ((gt a0 a1).Ef) ((gt a0 a1).Sn) ((gt a0 a1).So) ((gt a0 a1).Ay) ((gt a0 a1).Acx) ((gt a0 a1).Sq) ((gt a0 a1).F6) ((gt a0 a1).Fi)))else some false))else some false))else some false))else none)
def Bbh:=fd Tryz.func175 ⟨[.v 29,.v 3],[.v 4],true⟩ (gC (A2y K) (gC (Bdh K) (gC (Btx K) gN))) [15,16,17,21,22,23,24,28,29,30,31,34,35,55,56,61,62,63,83,84,89,90,91,100,101,115,116,119,120,121,122] [7,15,31,63]
def Bkw:=jn (Bbh K) 63 Bbb [] (fun a b _ _ _ f _ _ _ j _ _ _ _ _=>Atc K a b f j) kN
def Bkx:=jn (Bbh K) 31 Bbb [] (fun a b _ _ _ f _ _ _ j _ _ _ _ _=>Atd K a b f j) (kC (Bkw K) kN)
def Bky:=jn (Bbh K) 15 Bbb [] (fun a b _ _ _ f g _ i j _ _ _ _ _=>Ate K a b f g i j) (kC (Bkx K) kN)
def Bow:=jn (Bbh K) 7 Bbb [] (Atf K) (kC (Bky K) kN)
def Bty:=ct (Bbh K) (Ax9 K) (kC (Bow K) kN)
def Aw1 (K:Nat)(v1:List As)(v2:Int)(v3:Int)(C1:(List As)->Int->Int->Option (Bool)):Option (Bool):=(C1 v1 v2 (An6 .i64 v3 1))
def Apm (K:Nat)(a0:List As):Nat->(List As)->Int->Int->Option (Bool)
 |0,_,_,_=>none
 |n1+1,v1,v2,v3=>(bif (decide (v3<v2))then(if(0:Int)≤v3∧v3<(v1.length:Int)then(bif (((gt v1 v3).Vi) != 1)then(Aw1 K v1 v2 v3 (Apm K a0 n1))else((Ax9 K a0 v3).bind fun r4=>(bif (!r4)then some false else((Ave K a0 v3).bind fun r5=>(bif (decide ((r5.length:Int)>4))then some false else(if(0:Int)≤(An7 .i64 (r5.length:Int) 1)∧(An7 .i64 (r5.length:Int) 1)<(r5.length:Int)then((Aq7 K a0 (gt r5 (An7 .i64 (r5.length:Int) 1))).bind fun r6=>(bif r6 then some false else(Aw1 K v1 v2 v3 (Apm K a0 n1))))else none))))))else none)else some true)
def Aza (K:Nat)(a0:List As):Option (Bool):=(Apm K a0 K a0 (a0.length:Int) 0)
def Bkz:=fd Tryz.func87 ⟨[.v 29],[.v 4],true⟩ (gC (A9n K) (gC (Bty K) (gC (Bdh K) gN))) [25,26] [211]
def Bfb:Ej:=⟨[(0,.v 29),(6,.v 29),(7,.v 2),(8,.v 2)],[]⟩
def Bgu:=fun(C26:CT Bfb _)=>jn (Bkz K) 211 Bfb [(26,ar Bfb C26)] (fun a b c d=>Aw1 K b c d (C26 a)) kN
def Bk0:=lp (Bkz K) 26 Bfb [] (fun n a=>Apm K a n) (fun n=>(kC (Bgu K _) kN))
def Btz:=ct (Bkz K) (Aza K) (kC (Bk0 K K) kN)
def Aru (K:Nat)(a0:List As)(a1:Int):Option (Bool):=(if(0:Int)≤a1∧a1<(a0.length:Int)then(bif (((gt a0 a1).Vi)==1)then(if(0:Int)≤a1∧a1<(a0.length:Int)then(bif (((gt a0 a1).fUp) != 0)then((Aq7 K a0 a1).bind fun r1=>some (!r1))else some false)else none)else some false)else none)
def Bt0:=ct (fd Tryz.func178 ⟨[.v 29,.v 3],[.v 4],true⟩ (gC (Bdh K) gN) [10,11,17,18,19]) (Aru K)
def Aya (K:Nat)(a0:Ea)(a1:Az):Option (Bool):=((Aug K a0).bind fun r1=>(bif r1 then((V1 K a1.Bm 0 a0.E6).bind fun r2=>(bif r2 then((V1 K a1.Ef 0 a0.E6).bind fun r3=>(bif r3 then(bif (decide ((a1.Fi.length:Int)≤6))then((Art K a1.Fi).bind fun r4=>(bif r4 then((Auc K a0 a1.Ay).bind fun r5=>(bif r5 then((V1 K a1.Wz 0 (An7 .i64 a0.G8 1)).bind fun r6=>(bif r6 then(bif (decide ((a1.Ay.length:Int)>0))then some true else some (a1.Wz==0))else some false))else some false))else some false))else some false)else some false))else some false))else some false))
def Bt1:=ct (fd Tryz.func177 ⟨[.v 25,.v 52],[.v 4],true⟩ (gC (A9p K) (gC (Bdg K) (gC (A0m K) (gC (Bkg K) gN)))) [6,7,12,13,14,19,20,21,25,26,27,30,31,32,36,37,38,44,45,46,50,51]) (Aya K)
def Aim (K:Nat)(v4:List Az)(v5:Int)(v6:Int)(v7:Int)(v8:Int)(v9:Int)(v10:Int)(v11:Int)(v12:Int)(v13:List Int)(v14:List Int)(v15:List Int)(v16:List As)(v17:List Az)(v18:List Int)(v27:List Int)(v31:List Int)(r32:(List Int))(C1:(List Int)->(List Int)->(List Int)->(List Az)->Int->Int->Int->Int->Int->Int->Int->Int->(List Int)->(List Int)->(List Int)->(List As)->(List Az)->(List Int)->Option (Bool)):Nat->(List Int)->Int->Int->Option (Bool)
 |0,_,_,_=>none
 |n6+1,v33,v34,v35=>(bif (decide (v35<v34))then(if(0:Int)≤v35∧v35<(r32.length:Int)then(if(0:Int)≤(gt r32 v35)∧(gt r32 v35)<(v33.length:Int)then(if(0:Int)≤(gt r32 v35)∧(gt r32 v35)<(v33.length:Int)then((Aru K v16 (gt r32 v35)).bind fun r36=>(bif (!r36)then some false else(Aim K v4 v5 v6 v7 v8 v9 v10 v11 v12 v13 v14 v15 v16 v17 v18 v27 v31 r32 C1 n6 (v33.set (gt r32 v35).toNat (An6 .i64 (gt v33 (gt r32 v35)) 1)) v34 (An6 .i64 v35 1))))else none)else none)else none)else(C1 v27 v31 v33 v4 v5 (An6 .i64 v6 1) v7 v8 v9 v10 v11 v12 v13 v14 v15 v16 v17 v18))
def Apc (K:Nat)(v3:List Int)(v4:List Az)(v5:Int)(v6:Int)(v7:Int)(v8:Int)(v9:Int)(v10:Int)(v11:Int)(v12:Int)(v13:List Int)(v14:List Int)(v15:List Int)(v16:List As)(v17:List Az)(v18:List Int)(v23:Int)(v27:List Int)(v31:List Int)(C1:(List Int)->(List Int)->(List Int)->(List Az)->Int->Int->Int->Int->Int->Int->Int->Int->(List Int)->(List Int)->(List Int)->(List As)->(List Az)->(List Int)->Option (Bool)):Option (Bool):=((Awc K v16 v23).bind fun r32=>(Aim K v4 v5 v6 v7 v8 v9 v10 v11 v12 v13 v14 v15 v16 v17 v18 v27 v31 r32 (C1) K v3 (r32.length:Int) 0))
def Apd (K:Nat)(v3:List Int)(v4:List Az)(v5:Int)(v6:Int)(v7:Int)(v8:Int)(v9:Int)(v10:Int)(v11:Int)(v12:Int)(v13:List Int)(v14:List Int)(v15:List Int)(v16:List As)(v17:List Az)(v18:List Int)(v23:Int)(v27:List Int)(C1:(List Int)->(List Int)->(List Int)->(List Az)->Int->Int->Int->Int->Int->Int->Int->Int->(List Int)->(List Int)->(List Int)->(List As)->(List Az)->(List Int)->Option (Bool))(v31:List Int):Option (Bool):=(bif (decide (v23>0))then(if(0:Int)≤(An7 .i64 v23 1)∧(An7 .i64 v23 1)<(v16.length:Int)then(bif (((gt v16 (An7 .i64 v23 1)).So) != 0)then some false else(Apc K v3 v4 v5 v6 v7 v8 v9 v10 v11 v12 v13 v14 v15 v16 v17 v18 v23 v27 v31 (C1)))else none)else(Apc K v3 v4 v5 v6 v7 v8 v9 v10 v11 v12 v13 v14 v15 v16 v17 v18 v23 v27 v31 (C1)))
def Ain (K:Nat)(v2:List Int)(v3:List Int)(v4:List Az)(v5:Int)(v6:Int)(v7:Int)(v8:Int)(v9:Int)(v10:Int)(v11:Int)(v12:Int)(v13:List Int)(v14:List Int)(v15:List Int)(v16:List As)(v17:List Az)(v18:List Int)(v22:Int)(v23:Int)(v25:List Int)(C1:(List Int)->(List Int)->(List Int)->(List Az)->Int->Int->Int->Int->Int->Int->Int->Int->(List Int)->(List Int)->(List Int)->(List As)->(List Az)->(List Int)->Option (Bool)):Nat->(List Int)->Int->Int->(List Int)->Option (Bool)
 |0,_,_,_,_=>none
 |n3+1,v27,v28,v29,v30=>(bif (decide (v29<v28))then(if(0:Int)≤v29∧v29<(v25.length:Int)then(if(0:Int)≤(gt v25 v29)∧(gt v25 v29)<(v27.length:Int)then(if(0:Int)≤(gt v25 v29)∧(gt v25 v29)<(v27.length:Int)then(if(0:Int)≤(gt v25 v29)∧(gt v25 v29)<(v14.length:Int)then(bif ((gt v14 (gt v25 v29)) != 2)then some false else(Ain K v2 v3 v4 v5 v6 v7 v8 v9 v10 v11 v12 v13 v14 v15 v16 v17 v18 v22 v23 v25 C1 n3 (v27.set (gt v25 v29).toNat (An6 .i64 (gt v27 (gt v25 v29)) 1)) v28 (An6 .i64 v29 1) v30))else none)else none)else none)else none)else(bif (decide (v22>0))then(if(0:Int)≤(An7 .i64 v22 1)∧(An7 .i64 v22 1)<(v2.length:Int)then(if(0:Int)≤(An7 .i64 v22 1)∧(An7 .i64 v22 1)<(v2.length:Int)then(if(0:Int)≤(An7 .i64 v22 1)∧(An7 .i64 v22 1)<(v16.length:Int)then(bif (((gt v16 (An7 .i64 v22 1)).Vi) != 2)then some false else(Apd K v3 v4 v5 v6 v7 v8 v9 v10 v11 v12 v13 v14 v15 v16 v17 v18 v23 v27 (C1) (v2.set (An7 .i64 v22 1).toNat (An6 .i64 (gt v2 (An7 .i64 v22 1)) 1))))else none)else none)else none)else(Apd K v3 v4 v5 v6 v7 v8 v9 v10 v11 v12 v13 v14 v15 v16 v17 v18 v23 v27 (C1) v2)))
def Ape (K:Nat)(v1:List Int)(v2:List Int)(v3:List Int)(v4:List Az)(v5:Int)(v6:Int)(v7:Int)(v8:Int)(v9:Int)(v10:Int)(v11:Int)(v12:Int)(v13:List Int)(v14:List Int)(v15:List Int)(v16:List As)(v17:List Az)(v18:List Int)(C1:(List Int)->(List Int)->(List Int)->(List Az)->Int->Int->Int->Int->Int->Int->Int->Int->(List Int)->(List Int)->(List Int)->(List As)->(List Az)->(List Int)->Option (Bool))(v22:Int)(v23:Int)(v24:List Int)(v25:List Int)(v26:Int):Option (Bool):=(Ain K v2 v3 v4 v5 v6 v7 v8 v9 v10 v11 v12 v13 v14 v15 v16 v17 v18 v22 v23 v25 (C1) K v1 (v25.length:Int) 0 v25)
def Aqs (K:Nat)(v37:Int)(v38:Int)(v39:List Int)(C7:Int->Int->(List Int)->Option (Bool)):Option (Bool):=(C7 v37 (An6 .i64 v38 1) v39)
def Akw (K:Nat)(v40:Int)(v41:Int)(v42:List As)(C9:Int->Int->(List As)->Option (Bool)):Option (Bool):=(C9 v40 (An6 .i64 v41 1) v42)
def Abc (K:Nat)(v2:List Int)(v3:List Int)(v16:List As):Nat->Int->Int->(List As)->Option (Bool)
 |0,_,_,_=>none
 |n9+1,v40,v41,v42=>(bif (decide (v41<v40))then(if(0:Int)≤v41∧v41<(v16.length:Int)then(bif (((gt v16 v41).Vi)==2)then(if(0:Int)≤v41∧v41<(v2.length:Int)then(bif ((gt v2 v41) != 1)then some false else((Aru K v42 v41).bind fun r43=>(bif r43 then(if(0:Int)≤v41∧v41<(v3.length:Int)then(bif ((gt v3 v41) != 1)then some false else(Akw K v40 v41 v42 (Abc K v2 v3 v16 n9)))else none)else(Akw K v40 v41 v42 (Abc K v2 v3 v16 n9)))))else none)else((Aru K v42 v41).bind fun r44=>(bif r44 then(if(0:Int)≤v41∧v41<(v3.length:Int)then(bif ((gt v3 v41) != 1)then some false else(Akw K v40 v41 v42 (Abc K v2 v3 v16 n9)))else none)else(Akw K v40 v41 v42 (Abc K v2 v3 v16 n9)))))else none)else some true)
def Ago (K:Nat)(v1:List Int)(v2:List Int)(v3:List Int)(v14:List Int)(v16:List As):Nat->Int->Int->(List Int)->Option (Bool)
 |0,_,_,_=>none
 |n7+1,v37,v38,v39=>(bif (decide (v38<v37))then(if(0:Int)≤v38∧v38<(v14.length:Int)then(bif ((gt v14 v38)==2)then(if(0:Int)≤v38∧v38<(v1.length:Int)then(bif ((gt v1 v38) != 1)then some false else(Aqs K v37 v38 v39 (Ago K v1 v2 v3 v14 v16 n7)))else none)else(Aqs K v37 v38 v39 (Ago K v1 v2 v3 v14 v16 n7)))else none)else(Abc K v2 v3 v16 K (v16.length:Int) 0 v16))
def Gy (K:Nat):Nat->(List Int)->(List Int)->(List Int)->(List Az)->Int->Int->Int->Int->Int->Int->Int->Int->(List Int)->(List Int)->(List Int)->(List As)->(List Az)->(List Int)->Option (Bool)
 |0,_,_,_,_,_,_,_,_,_,_,_,_,_,_,_,_,_,_=>none
 |n1+1,v1,v2,v3,v4,v5,v6,v7,v8,v9,v10,v11,v12,v13,v14,v15,v16,v17,v18=>(bif (decide (v6<v5))then(if(0:Int)≤v6∧v6<(v4.length:Int)then((Aya K (Ea.mk v7 v8 v9 v10 v11 v12) (gt v4 v6)).bind fun r19=>(bif r19 then(bif (decide ((((gt v4 v6).Ay).length:Int)>0))then(if(0:Int)≤0∧0<(((gt v4 v6).Ay).length:Int)then((Ar2 K (Dn.mk v13 v14 v15) (Ea.mk v7 v8 v9 v10 v11 v12) (gt ((gt v4 v6).Ay) 0)).bind fun r20=>(if(0:Int)≤0∧0≤((gt v4 v6).Wz)∧((gt v4 v6).Wz)≤(r20.length:Int)then((Auh K ((r20.drop (0:Int).toNat).take (((gt v4 v6).Wz) - 0).toNat)).bind fun r21=>(bif (!r21)then some false else(Ape K v1 v2 v3 v4 v5 v6 v7 v8 v9 v10 v11 v12 v13 v14 v15 v16 v17 v18 (Gy K n1) ((gt v4 v6).Bm) ((gt v4 v6).Ef) ((gt v4 v6).Fi) ((gt v4 v6).Ay) ((gt v4 v6).Wz))))else none))else none)else(Ape K v1 v2 v3 v4 v5 v6 v7 v8 v9 v10 v11 v12 v13 v14 v15 v16 v17 v18 (Gy K n1) ((gt v4 v6).Bm) ((gt v4 v6).Ef) ((gt v4 v6).Fi) ((gt v4 v6).Ay) ((gt v4 v6).Wz)))else some false))else none)else(Ago K v1 v2 v3 v14 v16 K (v14.length:Int) 0 v14))
def Ar5 (K:Nat)(a0:C5):Option (Bool):=(if(0:Int)≤a0.fC.Ay∧a0.fC.Ay≤a0.fC.Ay∧(8:Int)*a0.fC.Ay≤281474976710656∧a0.fC.Ay≤9223372036854775807 then(if(0:Int)≤a0.fC.E6∧a0.fC.E6≤a0.fC.E6∧(8:Int)*a0.fC.E6≤281474976710656∧a0.fC.E6≤9223372036854775807 then(if(0:Int)≤a0.fC.E6∧a0.fC.E6≤a0.fC.E6∧(8:Int)*a0.fC.E6≤281474976710656∧a0.fC.E6≤9223372036854775807 then(Gy K K (List.replicate a0.fC.Ay.toNat 0) (List.replicate a0.fC.E6.toNat 0) (List.replicate a0.fC.E6.toNat 0) a0.fQ (a0.fQ.length:Int) 0 a0.fC.Ay a0.fC.G8 a0.fC.E6 a0.fC.Gu a0.fC.E7 a0.fC.G9 a0.fP.N7 a0.fP.Vi a0.fP.N8 a0.fL a0.fQ a0.Acy)else none)else none)else none)
def A21:=fd Tryz.func88 ⟨[.v 32],[.v 4],true⟩ (gC (Bj7 K) (gC (Bdf K) (gC (Bj9 K) (gC (Bt1 K) (gC (Bt0 K) gN))))) [38,39,40,44,45,105,106,150,151,169,170,175,176,177,181,182] [979,2003,3737,14951,29903]
def Bx2:Ej:=⟨[(1,.p 101),(3,.o 1003 3 true),(4,.o 1004 3 true),(5,.o 1005 3 true),(29,.v 30),(30,.v 2),(31,.v 2),(121,.v 26),(122,.v 2),(123,.v 2)],[(101,.box [.v 2,.v 2,.v 2,.v 2,.v 2,.v 2,.v 22,.v 26,.v 26,.v 29,.v 30,.v 26])]⟩
def Bk1:Ej:=⟨[(1,.p 101),(3,.o 1003 3 true),(4,.o 1004 3 true),(5,.o 1005 3 true),(7,.p 107),(29,.v 30),(30,.v 2),(31,.v 2)],[(107,.box [.v 2,.v 2,.v 26,.v 26,.v 2]),(101,.box [.v 2,.v 2,.v 2,.v 2,.v 2,.v 2,.v 22,.v 26,.v 26,.v 29,.v 30,.v 26])]⟩
def Bx3:Ej:=⟨[(1,.p 101),(3,.o 1003 3 true),(4,.o 1004 3 true),(5,.o 1005 3 true),(7,.p 107),(29,.v 30),(30,.v 2),(31,.v 2),(63,.v 26),(64,.v 2),(65,.v 2)],[(107,.box [.v 2,.v 2,.v 26,.v 26,.v 2]),(101,.box [.v 2,.v 2,.v 2,.v 2,.v 2,.v 2,.v 22,.v 26,.v 26,.v 29,.v 30,.v 26])]⟩
def Bfc:Ej:=⟨[(1,.p 101),(3,.o 1003 3 true),(4,.o 1004 3 true),(5,.o 1005 3 true),(142,.v 26),(143,.v 2),(144,.v 2)],[(101,.box [.v 2,.v 2,.v 2,.v 2,.v 2,.v 2,.v 22,.v 26,.v 26,.v 29,.v 30,.v 26])]⟩
def Bfd:Ej:=⟨[(1,.p 101),(4,.o 1004 3 true),(5,.o 1005 3 true),(160,.v 29),(161,.v 2),(162,.v 2)],[(101,.box [.v 2,.v 2,.v 2,.v 2,.v 2,.v 2,.v 22,.v 26,.v 26,.v 29,.v 30,.v 26])]⟩
def A22:Ej:=⟨[(1,.p 101),(3,.o 1003 3 true),(4,.o 1004 3 true),(5,.o 1005 3 true),(29,.v 30),(30,.v 2),(31,.v 2)],[(101,.box [.v 2,.v 2,.v 2,.v 2,.v 2,.v 2,.v 22,.v 26,.v 26,.v 29,.v 30,.v 26])]⟩
def A9r:=fun(C58:CT A22 _)=>lp (A21 K) 239230 Bx2 [(58,ar A22 C58)] (fun n a b c d e f g h i j k l m o p q r s t u v=>Aim K d e f j k l m o p q r s t u v a b g C58 n c h i) (fun n=>kN)
def Bbi:=fun(C58:CT A22 _)=>jn (A21 K) 29903 Bk1 [(58,ar A22 C58)] (fun a b c d e f _ h _ _ _ l m o p q r s t u v w x=>Apc K c d e f l m o p q r s t u v w x h a b C58) (kC (A9r K _ K) kN)
def Bbj:=fun(C58:CT A22 _)=>jn (A21 K) 14951 Bk1 [(58,ar A22 C58)] (fun a b c d e f _ h _ _ _ l m o p q r s t u v w x=>Apd K c d e f l m o p q r s t u v w x h a C58 b) (kC (Bbi K _) kN)
def Bbk:=fun(C58:CT A22 _)=>lp (A21 K) 59802 Bx3 [(58,ar A22 C58)] (fun n a b c d e f g h i j k _ m _ p q r s t u v w x y z a1=>Ain K b c d e f p q r s t u v w x y z a1 j k g C58 n a h i m) (fun n=>(kC (up (Bbj K _)) kN))
def Bdi:=fun(C58:CT A22 _)=>jn (A21 K) 3737 Bk1 [(58,ar A22 C58)] (fun a b c d e f g h i j k l m o p q r s t u v w x=>Ape K a b c d e f l m o p q r s t u v w x C58 g h i j k) (kC (Bbk K _ K) kN)
def Bgv:=fun(C122:CT Bfc _)=>jn (A21 K) 979 Bfc [(122,ar Bfc C122)] (fun a b c d e f g h i j k l m o p q r s=>Aqs K e f o (fun v37 v38 v39=>C122 a b c d v37 v38 g h i j k l m v39 p q r s)) kN
def Bdj:=fun(C250:CT Bfd _)=>jn (A21 K) 2003 Bfd [(250,ar Bfd C250)] (fun a b c d e f g h i j k l m o p q r=>Akw K d e p (fun v40 v41 v42=>C250 a b c v40 v41 f g h i j k l m o v42 q r)) kN
def Bgw:=lp (A21 K) 250 Bfd [] (fun n a b c d e _ _ _ _ _ _ _ _ _ p _ _=>Abc K a b c n d e p) (fun n=>(kC (Bdj K _) kN))
def Bgx:=lp (A21 K) 122 Bfc [] (fun n a b c d e f _ _ _ _ _ _ _ o _ q _ _=>Ago K a b c d q n e f o) (fun n=>(kC (Bgv K _) (kC (up (Bgw K K)) kN)))
def Bk2:=lp (A21 K) 58 A22 [] (Gy K) (fun n=>(kC (Bdi K _) (kC (up (Bgx K K)) kN)))
def Bt2:=ct (A21 K) (Ar5 K) (kC (Bk2 K K) kN)
def Atg (K:Nat)(a0:C5):Option (Bool):=((Ay8 K a0.fC a0.fP).bind fun r1=>(bif r1 then(bif ((a0.fL.length:Int)==a0.fC.E6)then((Ar4 K a0).bind fun r2=>(bif r2 then((Aza K a0.fL).bind fun r3=>(bif r3 then((Ar5 K a0).bind fun r4=>(bif r4 then((Art K a0.Acy).bind fun r5=>some r5)else some false))else some false))else some false))else some false)else some false))
def Bdk:=ct (fd Tryz.func19 ⟨[.v 32],[.v 4],true⟩ (gC (Bs6 K) (gC (Btw K) (gC (Btz K) (gC (Bt2 K) (gC (Bdg K) gN))))) [7,8,15,16,17,19,20,21,24,25,26,28,29,30]) (Atg K)
def Am6 (K:Nat)(a0:List Int):Option ((List Int)):=(bif a0.isEmpty then Aik (some []) ((if(([]:List Int)++a0).length*1≤140737488355328∧(([]:List Int)++a0).length≤maxLen then some (([]:List Int)++a0)else none))else(if(([]:List Int)++a0).length*1≤140737488355328∧(([]:List Int)++a0).length≤maxLen then some (([]:List Int)++a0)else none))
def A9s:=ct (fd Tryz.func219 ⟨[.v 22],[.n 22 true],true⟩ gN) (Am6 K)
def Aud (K:Nat)(a0:Dn):Option (Dn):=((Am6 K a0.N7).bind fun r1=>((Aa4 K a0.Vi).bind fun r2=>((Aa4 K a0.N8).bind fun r3=>some (Dn.mk r1 r2 r3))))
def Bk3:=ct (fd Tryz.func153 ⟨[.v 28],[.n 28 true],true⟩ (gC (A4c K) (gC (A9s K) gN))) (Aud K)
def Aps (K:Nat)(a0:List Bc):Option ((List Bc)):=(bif a0.isEmpty then Aik (some []) ((if(([]:List Bc)++a0).length*24≤140737488355328∧(([]:List Bc)++a0).length≤maxLen then some (([]:List Bc)++a0)else none))else(if(([]:List Bc)++a0).length*24≤140737488355328∧(([]:List Bc)++a0).length≤maxLen then some (([]:List Bc)++a0)else none))
def Bt3:=ct (fd Tryz.func267 ⟨[.v 48],[.n 48 true],true⟩ gN) (Aps K)
def Aw2 (K:Nat)(a0:As):Option (As):=((Aa4 K a0.Ay).bind fun r1=>((Aps K a0.F6).bind fun r2=>((Aa4 K a0.Fi).bind fun r3=>some (As.mk a0.Vi a0.C9 a0.Sl a0.fUp a0.Sm a0.Ef a0.Sn a0.So r1 a0.Acx a0.Sq r2 r3))))
def Bt4:=ct (fd Tryz.func232 ⟨[.v 50],[.n 50 false],true⟩ (gC (A4c K) (gC (Bt3 K) gN))) (Aw2 K)
def Ann (K:Nat)(a0:List As):Nat->(List As)->Int->Int->Option ((List As))
 |0,_,_,_=>none
 |n1+1,v1,v2,v3=>(bif (decide (v3<v2))then(if(0:Int)≤v3∧v3<(a0.length:Int)then((Aw2 K (gt a0 v3)).bind fun r4=>(if(v1++[r4]).length*152≤140737488355328∧(v1++[r4]).length≤maxLen then(Ann K a0 n1 (v1++[r4]) v2 (An6 .i64 v3 1))else none))else none)else some v1)
def Avx (K:Nat)(a0:List As):Option ((List As)):=(Ann K a0 K ([]:List As) (a0.length:Int) 0)
def Bq5:=fd Tryz.func154 ⟨[.v 29],[.n 29 true],false⟩ (gC (Bt4 K) gN) (post:=[(16,[.put 3016])])
def Bx4:Ej:=⟨[(3,.o 1003 50 true),(7,.v 29),(8,.v 2),(9,.v 2)],[]⟩
def Bk4:=lp (Bq5 K) 58 Bx4 [] (fun n a b=>Ann K b n a) (fun n=>kN)
def Bt5:=ct (Bq5 K) (Avx K) (kC (Bk4 K K) kN)
def Avy (K:Nat)(a0:Az):Option (Az):=((Aa4 K a0.Fi).bind fun r1=>((Aa4 K a0.Ay).bind fun r2=>some (Az.mk a0.Bm a0.Ef r1 r2 a0.Wz)))
def Bt6:=ct (fd Tryz.func155 ⟨[.v 52],[.n 52 true],true⟩ (gC (A4c K) gN)) (Avy K)
def Ano (K:Nat):Nat->(List Az)->Int->Int->C5->C5->Option (C5)
 |0,_,_,_,_,_=>none
 |n1+1,v4,v5,v6,v7,v8=>(bif (decide (v6<v5))then(if(0:Int)≤v6∧v6<(v4.length:Int)then((Avy K (gt v4 v6)).bind fun r9=>(if(v7.fQ.length+1)*72≤140737488355328∧v7.fQ.length+1≤maxLen then(Ano K n1 v4 v5 (An6 .i64 v6 1) (C5.mk v7.fC v7.fP v7.fL ((v7.fQ++[(default:Az)]).set (v7.fQ.length:Int).toNat r9) v7.Acy) v8)else none))else none)else some v7)
def Anz (K:Nat)(a0:C5):Option (C5):=((Aud K a0.fP).bind fun r1=>((Avx K a0.fL).bind fun r2=>((Aa4 K a0.Acy).bind fun r3=>(Ano K K a0.fQ (a0.fQ.length:Int) 0 (C5.mk a0.fC r1 r2 [] r3) (C5.mk (Ea.mk 0 0 0 0 0 0) (Dn.mk [] [] []) [] [] [])))))
def Bq6:=fd Tryz.func74 ⟨[.v 32],[.n 32 true],false⟩ (gC (A4c K) (gC (Bk3 K) (gC (Bt5 K) (gC (Bt6 K) gN)))) [] [] [(5,[.take 103 10 6658]),(7,[.take 103 6 6654,.take 103 7 6655,.take 103 8 6656,.take 103 9 6657,.take 103 10 6658,.take 103 11 6659])]
def Bx5:Ej:=⟨[(2,.p 102),(3,.p 103),(19,.v 30),(20,.v 2),(21,.v 2)],[(103,.st 32 true),(102,.st 32 true)]⟩
def Bk5:=lp (Bq6 K) 58 Bx5 [] (Ano K) (fun n=>kN)
def A7d:=ct (Bq6 K) (Anz K) (kC (Bk5 K K) kN)
def Ath (K:Nat)(a0:C5)(a1:Int):Option (C5×Et):=((Anz K a0).bind fun r1=>some (r1,(Et.mk a1 (An.mk 0 0) (Br.mk (An.mk 0 0) 0 0) [] 0 0 0)))
def Bdl:=ct (fd Tryz.func126 ⟨[.v 32,.v 3],[.n 32 true,.n 73 true],false⟩ (gC (A7d K) gN)) (Ath K)
def A1o (K:Nat)(a0:List As)(a1:Int):Option (Int):=((Ave K a0 a1).bind fun r1=>some (r1.length:Int))
def Bt7:=ct (fd Tryz.func214 ⟨[.v 29,.v 3],[.v 3],true⟩ (gC (A9n K) gN)) (A1o K)
def Auj (K:Nat)(a0:C5)(a1:An):Option (Int):=((Avd K a0.fL a1).bind fun r1=>((A1o K a0.fL r1).bind fun r2=>some r2))
def Bdm:=ct (fd Tryz.func127 ⟨[.v 32,.v 36],[.v 3],true⟩ (gC (Bjx K) (gC (Bt7 K) gN))) (Auj K)
def Ayb (K:Nat)(a0:As)(a1:Int):Option (Az):=((Aa4 K a0.Fi).bind fun r1=>((Aa4 K a0.Ay).bind fun r2=>some (Az.mk a1 a0.Ef r1 r2 0)))
def Bt8:=ct (fd Tryz.func76 ⟨[.v 50,.v 3],[.n 52 true],true⟩ (gC (A4c K) gN)) (Ayb K)
def Avf (K:Nat)(v3:Dn)(v4:Dn):Option (Dn):=some v3
def A0a (K:Nat)(a0:Dn)(a1:Int):Option (Dn):=((Aud K a0).bind fun r1=>((V1 K a1 0 (An7 .i64 (Zy (a0.Vi.length:Int) (a0.N8.length:Int)) 1)).bind fun r2=>(bif r2 then(if(0:Int)≤a1∧a1<(a0.Vi.length:Int)then(bif ((gt a0.Vi a1)==1)then(if(0:Int)≤a1∧a1<(r1.Vi.length:Int)then(if(0:Int)≤a1∧a1<(r1.N8.length:Int)then(Avf K (Dn.mk r1.N7 (r1.Vi.set a1.toNat 2) (r1.N8.set a1.toNat (-1))) (Dn.mk [] [] []))else none)else none)else(Avf K r1 (Dn.mk [] [] [])))else none)else(Avf K r1 (Dn.mk [] [] [])))))
def Bq7:=fd Tryz.func156 ⟨[.v 28,.v 3],[.n 28 true],true⟩ (gC (A0m K) (gC (Bk3 K) gN)) [17,18] [7] [(4,[.take 105 0 6680,.take 105 1 6681,.take 105 2 6682])]
def Box:=jn (Bq7 K) 7 Bv8 [] (Avf K) kN
def Bt9:=ct (Bq7 K) (A0a K) (kC (Box K) kN)
def Ak7 (K:Nat):Nat->(List Int)->Int->Int->Int->Int->Int->Int->Int->Int->(List Int)->(List Int)->(List Int)->(List As)->(List Az)->(List Int)->Option (C5)
 |0,_,_,_,_,_,_,_,_,_,_,_,_,_,_,_=>none
 |n1+1,v1,v2,v3,v4,v5,v6,v7,v8,v9,v10,v11,v12,v13,v14,v15=>(bif (decide (v3<v2))then(if(0:Int)≤v3∧v3<(v1.length:Int)then((A0a K (Dn.mk v10 v11 v12) (gt v1 v3)).bind fun r16=>(Ak7 K n1 v1 v2 (An6 .i64 v3 1) v4 v5 v6 v7 v8 v9 r16.N7 r16.Vi r16.N8 v13 v14 v15))else none)else some (C5.mk (Ea.mk v4 v5 v6 v7 v8 v9) (Dn.mk v10 v11 v12) v13 v14 v15))
def Atr (K:Nat)(a0:C5)(a1:Int):Option (C5):=(if(0:Int)≤a1∧a1<(a0.fL.length:Int)then(Ak7 K K ((gt a0.fL a1).Ay) (((gt a0.fL a1).Ay).length:Int) 0 a0.fC.Ay a0.fC.G8 a0.fC.E6 a0.fC.Gu a0.fC.E7 a0.fC.G9 a0.fP.N7 a0.fP.Vi a0.fP.N8 a0.fL a0.fQ a0.Acy)else none)
def Bq8:=fd Tryz.func77 ⟨[.b 32 true,.v 3],[],false⟩ (gC (Bt9 K) gN) [] [] [(0,[.take 1 9 5025]),(3,[.take 1 6 5022,.take 1 7 5023,.take 1 8 5024])]
def Bx6:Ej:=⟨[(0,.p 1),(13,.v 26),(14,.v 2),(15,.v 2)],[(1,.box [.v 2,.v 2,.v 2,.v 2,.v 2,.v 2,.T 5 true,.T 3 true,.T 3 true,.T 50 true,.T 52 true,.T 3 true])]⟩
def Boy:=lp (Bq8 K) 6 Bx6 [] (Ak7 K) (fun n=>kN)
def Bua:=ct (Bq8 K) (Atr K) (kC (Boy K K) kN)
def A0o (K:Nat)(a0:As):Option (As):=some (As.mk a0.Vi a0.C9 (An6 .i64 a0.Sl 1) a0.fUp a0.Sm 0 a0.Sn a0.So [] 0 0 [] [])
def Bub:=ct (fd Tryz.func83 ⟨[.v 50],[.n 50 false],true⟩ gN) (A0o K)
def Ayc (K:Nat)(a0:C5)(a1:Int):Option (C5):=((Anz K a0).bind fun r1=>((Alf K a0.fL a1).bind fun r2=>(bif r2 then(if(0:Int)≤a1∧a1<(a0.fL.length:Int)then(bif (((gt a0.fL a1).Vi) != 1)then some r1 else(if(0:Int)≤a1∧a1<(a0.fL.length:Int)then((Ayb K (gt a0.fL a1) 0).bind fun r3=>(if(r1.fQ.length+1)*72≤140737488355328∧r1.fQ.length+1≤maxLen then((Atr K (C5.mk r1.fC r1.fP r1.fL ((r1.fQ++[(default:Az)]).set (r1.fQ.length:Int).toNat r3) r1.Acy) a1).bind fun r4=>(if(0:Int)≤a1∧a1<(r4.fL.length:Int)then(if(0:Int)≤a1∧a1<(r4.fL.length:Int)then((A0o K (gt r4.fL a1)).bind fun r5=>(if(0:Int)≤a1∧a1<(r4.fL.length:Int)then some (C5.mk r4.fC r4.fP (r4.fL.set a1.toNat r5) r4.fQ r4.Acy)else none))else none)else none))else none))else none))else none)else some r1)))
def Buc:=ct (fd Tryz.func16 ⟨[.v 32,.v 3],[.n 32 true],false⟩ (gC (A7d K) (gC (A2y K) (gC (Bt8 K) (gC (Bua K) (gC (Bub K) gN))))) [11,12,13] [] [(5,[.put 105]),(6,[.take 105 9 6689,.opn 6689 (.tmp 1),.takeE 6689 11 84107,.takeE 6689 12 84108]),(7,[.take 105 6 6686,.take 105 7 6687,.take 105 8 6688,.take 105 10 6690,.take 105 11 6691])]) (Ayc K)
def Arl (K:Nat)(a0:C5)(a1:An):Option (C5×Et):=((Atg K a0).bind fun r1=>(bif (!r1)then((Ath K a0 1).bind fun r2=>some (r2.1,r2.2))else((Auj K a0 a1).bind fun r3=>((Ais K a0 a1).bind fun r4=>(bif (r4.2 != 0)then((Anz K a0).bind fun r5=>some (r5,(Et.mk r4.2 (An.mk 0 0) (Br.mk (An.mk 0 0) 0 0) [] r3 0 0)))else((Ayc K a0 r4.1).bind fun r6=>some (r6,(Et.mk r4.2 (An.mk 0 0) (Br.mk (An.mk 0 0) 0 0) [] r3 0 0))))))))
def Bud:=ct (fd Tryz.func125 ⟨[.v 32,.v 36,.f 16 [] []],[.n 32 true,.n 73 true],false⟩ (gC (Buc K) (gC (Bdk K) (gC (A7d K) (gC (A4b K) (gC (Bdl K) (gC (Bdm K) gN)))))) [] [] [(7,[.take 108 7 6735]),(8,[.take 108 7 6735])]) (Arl K)
def A0b (K:Nat)(a0:C5)(a1:An):Option (C5×Et):=((Arl K a0 a1).bind fun r1=>some (r1.1,r1.2))
def Bue:=ct (fd Tryz.func43 ⟨[.v 32,.v 36],[.n 32 true,.n 73 true],false⟩ (gC (Bud K) gN)) (A0b K)
def Azb (K:Nat)(a0:C5)(a1:An):Option ((List Int)):=((Ais K a0 a1).bind fun r1=>(bif (r1.2 != 0)then some []else(if(0:Int)≤r1.1∧r1.1<(a0.fL.length:Int)then((Aa4 K ((gt a0.fL r1.1).Fi)).bind fun r2=>some r2)else none)))
def Buf:=ct (fd Tryz.func46 ⟨[.v 32,.v 36],[.n 26 true],true⟩ (gC (A4b K) (gC (A4c K) gN))) (Azb K)
def A2g (K:Nat)(a0:Br):Option (Bool):=((At7 K a0.fH).bind fun r1=>(bif r1 then(bif (decide (a0.Sl≥0))then some (decide (a0.fNo≥0))else some false)else some false))
def Bug:=ct (fd Tryz.func215 ⟨[.v 38],[.v 4],true⟩ (gC (Bjw K) gN) [5,6,9,10,11]) (A2g K)
def A0p (K:Nat)(a0:As)(a1:Br):Option (Bc×Bool):=(bif (a0.Vi != 1)then some ((Bc.mk 0 0 0),false)else(bif (a0.Sl != a1.Sl)then some ((Bc.mk 0 0 0),false)else((V1 K a1.fNo 0 (An7 .i64 (a0.F6.length:Int) 1)).bind fun r1=>(bif (!r1)then some ((Bc.mk 0 0 0),false)else(if(0:Int)≤a1.fNo∧a1.fNo<(a0.F6.length:Int)then some ((gt a0.F6 a1.fNo),true)else none)))))
def Buh:=ct (fd Tryz.func216 ⟨[.v 50,.v 38],[.v 132,.v 4],true⟩ (gC (A0m K) gN) [8,9,14,15,16]) (A0p K)
def Apy (K:Nat)(a0:C5)(a1:Br):Option (Int×Bc×Int):=((A2g K a1).bind fun r1=>(bif (!r1)then some ((-1),(Bc.mk 0 0 0),1)else((Ais K a0 a1.fH).bind fun r2=>(bif (r2.2 != 0)then some ((-1),(Bc.mk 0 0 0),r2.2)else(if(0:Int)≤r2.1∧r2.1<(a0.fL.length:Int)then((A0p K (gt a0.fL r2.1) a1).bind fun r3=>(bif (!r3.2)then some ((-1),(Bc.mk 0 0 0),2)else some (r2.1,r3.1,0)))else none)))))
def Bk6:=ct (fd Tryz.func128 ⟨[.v 32,.v 38],[.v 3,.v 132,.v 3],true⟩ (gC (A4b K) (gC (Bug K) (gC (Buh K) gN)))) (Apy K)
def Ayq (K:Nat)(a0:Int)(a1:Int)(a2:Int):Option (Bool):=(bif (decide (a2≥0))then(bif (decide (a2≤a0))then((V1 K a1 0 (An7 .i64 a0 a2)).bind fun r1=>some r1)else some false)else some false)
def Bdn:=ct (fd Tryz.func260 ⟨[.v 3,.v 3,.v 3],[.v 4],true⟩ (gC (A0m K) gN) [8,9,12,13,14]) (Ayq K)
def Avg (K:Nat)(a0:List Int)(a1:Bc)(a2:Int)(a3:Int):Option (Int×Bool):=(bif (decide (a2<0))then some (0,false)else(bif (decide (a3<0))then some (0,false)else(bif (decide (a3>a1.Ajm))then some (0,false)else(bif (decide (a2>(An7 .i64 a1.Ajm a3)))then some (0,false)else(bif (decide ((An6 .i64 a1.fAt a2)<0))then some (0,false)else((Ayq K (a0.length:Int) (An6 .i64 a1.fAt a2) a3).bind fun r1=>some ((An6 .i64 a1.fAt a2),r1)))))))
def Bk7:=ct (fd Tryz.func217 ⟨[.v 22,.v 132,.v 3,.v 3],[.v 3,.v 4],true⟩ (gC (Bdn K) gN) [12,13,15,16,17,21,22,23]) (Avg K)
def A4q (K:Nat)(a0:List Int)(a1:Int)(a2:Int):Option ((List Int)×Bool):=((Ayq K (a0.length:Int) a1 a2).bind fun r1=>(bif (!r1)then some ([],false)else(if(0:Int)≤a1∧a1≤(An6 .i64 a1 a2)∧(An6 .i64 a1 a2)≤(a0.length:Int)then((Am6 K ((a0.drop a1.toNat).take ((An6 .i64 a1 a2) - a1).toNat)).bind fun r2=>some (r2,true))else none)))
def Bui:=ct (fd Tryz.func218 ⟨[.v 22,.v 3,.v 3],[.n 22 true,.v 4],true⟩ (gC (A9s K) (gC (Bdn K) gN))) (A4q K)
def A1y (K:Nat)(a0:List Int)(a1:Bc)(a2:Int)(a3:Int):Option ((List Int)×Bool):=((Avg K a0 a1 a2 a3).bind fun r1=>(bif (!r1.2)then some ([],false)else((A4q K a0 r1.1 a3).bind fun r2=>some (r2.1,r2.2))))
def Buj:=ct (fd Tryz.func129 ⟨[.v 22,.v 132,.v 3,.v 3],[.n 22 true,.v 4],true⟩ (gC (Bk7 K) (gC (Bui K) gN))) (A1y K)
def Awe (K:Nat)(v6:Et)(v7:Et)(v8:C5)(v9:Int)(v10:Int)(v11:Int)(v12:Int)(v13:Int)(v14:Int)(v15:List Int)(v16:List Int)(v17:List Int)(v18:List As)(v19:List Az)(v20:List Int):Option (C5×Et):=((Anz K (C5.mk (Ea.mk v9 v10 v11 v12 v13 v14) (Dn.mk v15 v16 v17) v18 v19 v20)).bind fun r21=>some (r21,v6))
def A1a (K:Nat)(a0:C5)(a1:Br)(a2:Int)(a3:Int):Option (C5×Et):=((Atg K a0).bind fun r1=>(bif (!r1)then((Ath K a0 1).bind fun r2=>some (r2.1,r2.2))else((Auj K a0 a1.fH).bind fun r3=>((Apy K a0 a1).bind fun r4=>(bif (r4.2.2==0)then((A1y K a0.fP.N7 r4.2.1 a2 a3).bind fun r5=>(bif (!r5.2)then(Awe K (Et.mk 7 (An.mk 0 0) (Br.mk (An.mk 0 0) 0 0) r5.1 r3 0 0) (Et.mk 0 (An.mk 0 0) (Br.mk (An.mk 0 0) 0 0) [] 0 0 0) (C5.mk (Ea.mk 0 0 0 0 0 0) (Dn.mk [] [] []) [] [] []) a0.fC.Ay a0.fC.G8 a0.fC.E6 a0.fC.Gu a0.fC.E7 a0.fC.G9 a0.fP.N7 a0.fP.Vi a0.fP.N8 a0.fL a0.fQ a0.Acy)else(Awe K (Et.mk r4.2.2 (An.mk 0 0) (Br.mk (An.mk 0 0) 0 0) r5.1 r3 0 0) (Et.mk 0 (An.mk 0 0) (Br.mk (An.mk 0 0) 0 0) [] 0 0 0) (C5.mk (Ea.mk 0 0 0 0 0 0) (Dn.mk [] [] []) [] [] []) a0.fC.Ay a0.fC.G8 a0.fC.E6 a0.fC.Gu a0.fC.E7 a0.fC.G9 a0.fP.N7 a0.fP.Vi a0.fP.N8 a0.fL a0.fQ a0.Acy)))else(Awe K (Et.mk r4.2.2 (An.mk 0 0) (Br.mk (An.mk 0 0) 0 0) [] r3 0 0) (Et.mk 0 (An.mk 0 0) (Br.mk (An.mk 0 0) 0 0) [] 0 0 0) (C5.mk (Ea.mk 0 0 0 0 0 0) (Dn.mk [] [] []) [] [] []) a0.fC.Ay a0.fC.G8 a0.fC.E6 a0.fC.Gu a0.fC.E7 a0.fC.G9 a0.fP.N7 a0.fP.Vi a0.fP.N8 a0.fL a0.fQ a0.Acy))))))
def Bq9:=fd Tryz.func44 ⟨[.v 32,.v 38,.v 3,.v 3],[.n 32 true,.n 73 true],false⟩ (gC (Bdk K) (gC (A7d K) (gC (Bdl K) (gC (Bdm K) (gC (Bk6 K) (gC (Buj K) gN)))))) [] [63] [(11,[.take 110 7 6767])]
def Bx7:Ej:=⟨[(4,.p 104),(8,.p 108),(9,.p 109),(10,.p 110)],[(110,.st 73 true),(109,.st 73 true),(108,.st 32 true),(104,.box [.v 2,.v 2,.v 2,.v 2,.v 2,.v 2,.v 22,.v 26,.v 26,.v 29,.v 30,.v 26])]⟩
def Bk8:=jn (Bq9 K) 63 Bx7 [] (Awe K) kN
def Buk:=ct (Bq9 K) (A1a K) (kC (Bk8 K) kN)
def A0c (K:Nat)(a0:List Int)(a1:Int)(a2:List Int):Option ((List Int)×Bool):=((Am6 K a0).bind fun r1=>((Ayq K (a0.length:Int) a1 (a2.length:Int)).bind fun r2=>(bif (!r2)then some (r1,false)else(if(0:Int)≤a1∧a1≤(r1.length:Int)∧(r1.length:Int)≤(r1.length:Int)then some ((r1.take a1.toNat++a2.take (Nat.min a2.length (((r1.length:Int) - a1).toNat))++r1.drop (a1.toNat+(Nat.min a2.length (((r1.length:Int) - a1).toNat)))),true)else none))))
def Bul:=ct (fd Tryz.func220 ⟨[.v 22,.v 3,.v 22],[.n 22 true,.v 4],true⟩ (gC (A9s K) (gC (Bdn K) gN))) (A0c K)
def Aut (K:Nat)(a0:List Int)(a1:Bc)(a2:Int)(a3:List Int):Option ((List Int)×Bool):=((Avg K a0 a1 a2 (a3.length:Int)).bind fun r1=>(bif (!r1.2)then((Am6 K a0).bind fun r2=>some (r2,false))else((A0c K a0 r1.1 a3).bind fun r3=>some (r3.1,r3.2))))
def Bum:=ct (fd Tryz.func130 ⟨[.v 22,.v 132,.v 3,.v 22],[.n 22 true,.v 4],true⟩ (gC (Bk7 K) (gC (A9s K) (gC (Bul K) gN)))) (Aut K)
def Avh (K:Nat)(v7:Et)(v8:C5)(v9:Et)(v10:C5):Option (C5×Et):=some (v8,v7)
def A0d (K:Nat)(a0:C5)(a1:Br)(a2:Int)(a3:List Int):Option (C5×Et):=((Atg K a0).bind fun r1=>(bif (!r1)then((Ath K a0 1).bind fun r2=>some (r2.1,r2.2))else((Anz K a0).bind fun r3=>((Auj K a0 a1.fH).bind fun r4=>((Apy K a0 a1).bind fun r5=>(bif (r5.2.2==0)then((Aut K a0.fP.N7 r5.2.1 a2 a3).bind fun r6=>(bif (!r6.2)then(Avh K (Et.mk 7 (An.mk 0 0) (Br.mk (An.mk 0 0) 0 0) [] r4 0 0) (C5.mk r3.fC (Dn.mk r6.1 r3.fP.Vi r3.fP.N8) r3.fL r3.fQ r3.Acy) (Et.mk 0 (An.mk 0 0) (Br.mk (An.mk 0 0) 0 0) [] 0 0 0) (C5.mk (Ea.mk 0 0 0 0 0 0) (Dn.mk [] [] []) [] [] []))else(Avh K (Et.mk r5.2.2 (An.mk 0 0) (Br.mk (An.mk 0 0) 0 0) [] r4 0 0) (C5.mk r3.fC (Dn.mk r6.1 r3.fP.Vi r3.fP.N8) r3.fL r3.fQ r3.Acy) (Et.mk 0 (An.mk 0 0) (Br.mk (An.mk 0 0) 0 0) [] 0 0 0) (C5.mk (Ea.mk 0 0 0 0 0 0) (Dn.mk [] [] []) [] [] []))))else(Avh K (Et.mk r5.2.2 (An.mk 0 0) (Br.mk (An.mk 0 0) 0 0) [] r4 0 0) r3 (Et.mk 0 (An.mk 0 0) (Br.mk (An.mk 0 0) 0 0) [] 0 0 0) (C5.mk (Ea.mk 0 0 0 0 0 0) (Dn.mk [] [] []) [] [] []))))))))
def Bra:=fd Tryz.func45 ⟨[.v 32,.v 38,.v 3,.v 22],[.n 32 true,.n 73 true],false⟩ (gC (Bdk K) (gC (A7d K) (gC (Bdl K) (gC (Bdm K) (gC (Bk6 K) (gC (Bum K) gN)))))) [] [63] [(11,[.take 110 6 6766,.take 110 7 6767,.take 110 8 6768,.take 110 9 6769,.take 110 10 6770,.take 110 11 6771,.take 111 7 6783])]
def Bx8:Ej:=⟨[(8,.p 108),(9,.p 109),(10,.p 110),(11,.p 111)],[(111,.st 73 true),(110,.st 32 true),(109,.st 73 true),(108,.st 32 true)]⟩
def Bk9:=jn (Bra K) 63 Bx8 [] (Avh K) kN
def Bun:=ct (Bra K) (A0d K) (kC (Bk9 K) kN)
def Ar6 (K:Nat)(r9:An)(r11:(List An))(v14:Et)(v15:Int)(v16:Int)(v17:Int)(v18:Int)(v19:Int)(v20:Int)(v21:List Int)(v22:List Int)(v23:List Int)(v24:List As)(v25:List Az)(v26:List Int)(v27:Int)(v28:Int)(v29:Int)(v30:Int)(v31:Int)(v32:Int)(v33:List Int)(v34:List Int)(v35:List Int)(v36:List As)(v37:List Az)(v38:List Int):Nat->Int->Option (Bool)
 |0,_=>none
 |n2+1,v41=>(bif (decide (v41<(r11.length:Int)))then(if(0:Int)≤v41∧v41<(r11.length:Int)then((Asc K (C5.mk (Ea.mk v15 v16 v17 v18 v19 v20) (Dn.mk v21 v22 v23) v24 v25 v26) (gt r11 v41)).bind fun r42=>(bif r42 then(if(0:Int)≤v41∧v41<(r11.length:Int)then((Asb K (C5.mk (Ea.mk v27 v28 v29 v30 v31 v32) (Dn.mk v33 v34 v35) v36 v37 v38) (gt r11 v41) r9).bind fun r43=>(bif (!r43)then some false else(Ar6 K r9 r11 v14 v15 v16 v17 v18 v19 v20 v21 v22 v23 v24 v25 v26 v27 v28 v29 v30 v31 v32 v33 v34 v35 v36 v37 v38 n2 (An6 .i64 v41 1))))else none)else some false))else none)else(bif (v14.W4==0)then((Asc K (C5.mk (Ea.mk v15 v16 v17 v18 v19 v20) (Dn.mk v21 v22 v23) v24 v25 v26) r9).bind fun r44=>(bif r44 then some false else((At9 K (C5.mk (Ea.mk v15 v16 v17 v18 v19 v20) (Dn.mk v21 v22 v23) v24 v25 v26) r9).bind fun r45=>((Awd K (C5.mk (Ea.mk v15 v16 v17 v18 v19 v20) (Dn.mk v21 v22 v23) v24 v25 v26) r9).bind fun r46=>((Azb K (C5.mk (Ea.mk v15 v16 v17 v18 v19 v20) (Dn.mk v21 v22 v23) v24 v25 v26) r9).bind fun r47=>some ((An6 .i64 (An6 .i64 (r45.length:Int) (r46.length:Int)) (r47.length:Int))==0))))))else some false))
def Ar7 (K:Nat)(r9:An)(r10:(List Br))(r11:(List An)):Nat->Int->Et->Int->Int->Int->Int->Int->Int->(List Int)->(List Int)->(List Int)->(List As)->(List Az)->(List Int)->Int->Int->Int->Int->Int->Int->(List Int)->(List Int)->(List Int)->(List As)->(List Az)->(List Int)->Option (Bool)
 |0,_,_,_,_,_,_,_,_,_,_,_,_,_,_,_,_,_,_,_,_,_,_,_,_,_,_=>none
 |n1+1,v13,v14,v15,v16,v17,v18,v19,v20,v21,v22,v23,v24,v25,v26,v27,v28,v29,v30,v31,v32,v33,v34,v35,v36,v37,v38=>(bif (decide (v13<(r10.length:Int)))then(if(0:Int)≤v13∧v13<(r10.length:Int)then((A1a K (C5.mk (Ea.mk v15 v16 v17 v18 v19 v20) (Dn.mk v21 v22 v23) v24 v25 v26) (Br.mk ((gt r10 v13).fH) ((gt r10 v13).Sl) ((gt r10 v13).fNo)) 0 0).bind fun r39=>(if(0:Int)≤v13∧v13<(r10.length:Int)then((A0d K (C5.mk (Ea.mk v15 v16 v17 v18 v19 v20) (Dn.mk v21 v22 v23) v24 v25 v26) (Br.mk ((gt r10 v13).fH) ((gt r10 v13).Sl) ((gt r10 v13).fNo)) 0 ([]:List Int)).bind fun r40=>(bif (r39.2.W4 != 2)then some false else(bif (r40.2.W4 != 2)then some false else(Ar7 K r9 r10 r11 n1 (An6 .i64 v13 1) v14 v15 v16 v17 v18 v19 v20 v21 v22 v23 v24 v25 v26 v27 v28 v29 v30 v31 v32 v33 v34 v35 v36 v37 v38))))else none))else none)else(Ar6 K r9 r11 v14 v15 v16 v17 v18 v19 v20 v21 v22 v23 v24 v25 v26 v27 v28 v29 v30 v31 v32 v33 v34 v35 v36 v37 v38 K 0))
def Aw3 (K:Nat)(a0:List Int):Option (Bool):=((A4a K a0).bind fun r1=>(bif r1 then some true else((Avv K a0).bind fun r2=>((Auq K a0).bind fun r3=>((Asb K r3.1 r3.2.1 r3.2.2).bind fun r4=>((Ay7 K r3.1 r3.2.1 r3.2.2).bind fun r5=>(bif (!(r4==r5))then some false else((A0n K r2.1).bind fun r6=>(bif ((r6.length:Int)==0)then((Asc K r2.1 (An.mk 0 1)).bind fun r7=>some r7)else((A3q K a0 2).bind fun r8=>(if(r6.length:Int)≠(0:Int)then(if(0:Int)≤(Int.tmod r8 (r6.length:Int))∧(Int.tmod r8 (r6.length:Int))<(r6.length:Int)then((At8 K r2.1.fL (gt r6 (Int.tmod r8 (r6.length:Int)))).bind fun r9=>((At9 K r2.1 r9).bind fun r10=>((Awd K r2.1 r9).bind fun r11=>((A0b K r2.1 r9).bind fun r12=>(Ar7 K r9 r10 r11 K 0 r12.2 r12.1.fC.Ay r12.1.fC.G8 r12.1.fC.E6 r12.1.fC.Gu r12.1.fC.E7 r12.1.fC.G9 r12.1.fP.N7 r12.1.fP.Vi r12.1.fP.N8 r12.1.fL r12.1.fQ r12.1.Acy r2.1.fC.Ay r2.1.fC.G8 r2.1.fC.E6 r2.1.fC.Gu r2.1.fC.E7 r2.1.fC.G9 r2.1.fP.N7 r2.1.fP.Vi r2.1.fP.N8 r2.1.fL r2.1.fQ r2.1.Acy)))))else none)else none)))))))))))
def Bla:=fd Tryz.func5 ⟨[.v 22],[.v 4],true⟩ (gC (Byt K) (gC (Bsi K) (gC (Bsy K) (gC (Bs0 K) (gC (Bsu K) (gC (Bsw K) (gC (Bsx K) (gC (Bsz K) (gC (Bj5 K) (gC (Bs1 K) (gC (Bs2 K) (gC (Bue K) (gC (Buk K) (gC (Bun K) (gC (Buf K) gN))))))))))))))) [100,101,117,118,119,131,132,135,136,137,138] [] [(13,[.frz 20768,.frz 20769,.frz 20770,.frz 20771,.frz 20772,.frz 20773])] [(72,[.frzT 71])]
def Bx9:Ej:=⟨[(3,.p 103),(9,.p 109),(11,.v 70),(12,.p 112),(13,.p 113),(19,.v 2)],[(113,.st 73 true),(112,.box [.v 2,.v 2,.v 2,.v 2,.v 2,.v 2,.v 22,.v 26,.v 26,.v 29,.v 30,.v 26]),(109,.st 36 true),(103,.box [.v 2,.v 2,.v 2,.v 2,.v 2,.v 2,.v 22,.v 26,.v 26,.v 29,.v 30,.v 26])]⟩
def Bya:Ej:=⟨[(3,.p 103),(9,.p 109),(10,.v 68),(11,.v 70),(12,.p 112),(13,.p 113),(14,.v 2)],[(113,.st 73 true),(112,.box [.v 2,.v 2,.v 2,.v 2,.v 2,.v 2,.v 22,.v 26,.v 26,.v 29,.v 30,.v 26]),(109,.st 36 true),(103,.box [.v 2,.v 2,.v 2,.v 2,.v 2,.v 2,.v 22,.v 26,.v 26,.v 29,.v 30,.v 26])]⟩
def Bbl:=lp (Bla K) 65530 Bx9 [] (fun n a b c d e f g h i j k l m o p q r s t u v w x y z a1 b1 c1=>Ar6 K q a c d e f g h i j k l m o p r s t u v w x y z a1 b1 c1 n b) (fun n=>kN)
def Bbm:=lp (Bla K) 32762 Bya [] (fun n a b c d e f g h i j k l m o p q r=>Ar7 K r a b n c d e f g h i j k l m o p q) (fun n=>(kC (up (Bbl K K)) kN))
def Buo:=ct (Bla K) (Aw3 K) (kC (Bbm K K) kN)
end
end Go.Proofs.YtcdojenmonmcfaaGreat
