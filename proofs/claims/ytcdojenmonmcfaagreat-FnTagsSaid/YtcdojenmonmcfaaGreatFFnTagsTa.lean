/- What the functions compute that FnTags reaches, and that they do; no condition. Printed by gen4.py. -/
import Derived.Test.YtcdojenmonmcfaaGreatFSrt
set_option linter.all false
set_option maxRecDepth 20000
namespace Go.Proofs.YtcdojenmonmcfaaGreat
open Go.Eng
noncomputable section
abbrev PT (h:Ej):Type:=Af tyU h.codes
abbrev Rt (s:Sig):Type:=Option (Aw tyU s.codes)
def FnP (R:Type):List TC->Type
 |[]=>R
 |c::l=>c.T tyU->FnP R l
noncomputable def unc{R:Type}:(l:List TC)->FnP R l->Af tyU l->R
 |[],f,_=>f
 |_::l,f,q=>unc l (f q.1) q.2
abbrev CT (h:Ej)(s:Sig):Type:=FnP (Rt s) h.codes
noncomputable abbrev ar{s:Sig}(h:Ej)(M:CT h s):SS Aj->Rt s:=arr tyU tab h (unc h.codes M)
abbrev OkF (f:FuncId)(c:Fh tyU):Prop:=Fh.Ok tyU Tryz.prog f c∧Ei Tryz.prog f
theorem B0y:Tryz.prog.follows .mixedOrders=true:=by kernel_rfl
structure FD (f:FuncId)(s:Sig) where
 fn:Func
 hf:Tryz.prog.funcs[f]? =some fn
 G:List (Nat×Fh tyU)
 g: ∀f c,lk G f=some c->OkF f c
 O:List (Nat×List (Nat×Fh tyU))
 o: ∀d l,lk O d=some l-> ∀f c,lk l f=some c->OkF f c
 spl:List Nat
 js:List Nat
 pre:List (Nat×List Cmd)
 post:List (Nat×List Cmd)
noncomputable abbrev fo{f:FuncId}{fn:Func}(hf:Tryz.prog.funcs[f]? =some fn)(s:Sig){G:List (Nat×Fh tyU)}(g: ∀f c,lk G f=some c->OkF f c){O:List (Nat×List (Nat×Fh tyU))}(o: ∀d l,lk O d=some l-> ∀f c,lk l f=some c->OkF f c)(spl:List Nat:=[])(js:List Nat:=[])(pre:List (Nat×List Cmd):=[])(post:List (Nat×List Cmd):=[]):FD f s:=⟨fn,hf,G,g,O,o,spl,js,pre,post⟩
noncomputable abbrev fd{f:FuncId}{fn:Func}(hf:Tryz.prog.funcs[f]? =some fn)(s:Sig){G:List (Nat×Fh tyU)}(g: ∀f c,lk G f=some c->OkF f c)(spl:List Nat:=[])(js:List Nat:=[])(pre:List (Nat×List Cmd):=[])(post:List (Nat×List Cmd):=[]):FD f s:=⟨fn,hf,G,g,[],oN,spl,js,pre,post⟩
section
variable {f:FuncId} {s:Sig}
noncomputable abbrev FD.b (X:FD f s):Code:=X.fn.body.getD .skip
noncomputable def FD.x (X:FD f s)(L B:Λt tyU s):Ox tyU (Aw tyU s.codes):=⟨X.G,X.O,eqT eqs,X.fn.ntmps,X.spl,X.pre,X.post,X.js,L,B,Ae5 tyU tab s X.fn.results.toList⟩
abbrev CuX (X:FD f s):Λt tyU s->Nat->(SS Aj->Rt s)->Prop:=Cut tyU tab Tryz.prog X.fn.results.toList s X.fn.ntmps X.js X.b
abbrev CsX (X:FD f s):Λt tyU s->Λt tyU s->Prop:=Vg tyU tab Tryz.prog X.fn.results.toList s X.fn.ntmps X.js X.b
theorem xo (X:FD f s):XOk tyU tab Tryz.prog X.fn.results.toList s X.fn.ntmps X.js X.x:=xok Aqo B0y X.g X.o Apo
theorem lp (X:FD f s)(p:Nat)(h:Ej)(B:Λt tyU s)(M:Nat->CT h s){L:Nat->Λt tyU s}(hc: ∀n,CsX X ((p,ar h (M n))::B) (L n))(e: ∀n q,unc h.codes (M (n+1)) q=Ae3 tyU tab (X.x (L n) ((p,ar h (M n))::B)) X.b (2*p) (h.emb tyU q):=by intro n q;kernel_rfl)(hp:Nat.ble 1 p=true:=by rfl)(hk:Sj X.js X.b p=true:=by kernel_rfl)(e0: ∀q,unc h.codes (M 0) q=none:=by intro q;rfl)(n:Nat):CuX X B p (ar h (M n)):=Amh (M:=fun n=>unc h.codes (M n)) (xo X) hp hk e0 e hc n
theorem jn (X:FD f s)(p:Nat)(h:Ej)(B:Λt tyU s)(M:CT h s){L:Λt tyU s}(hc:CsX X B L)(e: ∀q,unc h.codes M q=Ae3 tyU tab (X.x L B) X.b (2*p+1) (h.emb tyU q):=by intro q;kernel_rfl)(hp:Nat.ble 1 p=true:=by rfl):CuX X B p (ar h M):=Amg (xo X) hp e hc
theorem up{X:FD f s}{B:Λt tyU s}{p x:Nat}{F G:SS Aj->Rt s}(h:CuX X B p F)(hn:Ami X.js X.b p x=true:=by kernel_rfl):CuX X ((x,G)::B) p F:=Aoy hn h
theorem ct (X:FD f s)(m:V8 tyU s.ps (Rt s)){L:Λt tyU s}(hc:CsX X [] L:=by exact kN)(e:Uj tyU tab (X.x L []) X.b s.ps 0 [] [] m:=by(repeat intro _);show @Eq _ _ _;kernel_rfl)(hs:Ww tyU s.ps:=by(repeat (refine⟨fun _=>rfl,?_⟩));exact trivial)(h1:(X.fn.name== "runtime.NumGoroutine")=false:=by rfl)(h2:X.fn.body=some X.b:=by rfl)(h5:Nat.ble s.ps.length X.fn.ntmps=true:=by rfl)(h6:Nat.ble (Bg s.ps+1) 100=true:=by rfl)(h7:Nat.ble X.fn.results.toList.length 4=true:=by rfl):OkF f ⟨s,m⟩:=Aox (xo X) Apn e hc X.hf h1 h2 (Array.toArray_toList).symm rfl h5 h6 h7 hs
end
variable (K:Nat)
def A45 (K:Nat)(a0:List Int):Option (Bool):=some (decide ((a0.length:Int)>1048576))
def B00:=ct (fd Tryz.func8 ⟨[.v 22],[.v 4],true⟩ gN) (A45 K)
def Ava (K:Nat)(a0:List Int):Nat->Int->Int->Option (D1)
 |0,_,_=>none
 |n1+1,v1,v2=>(bif (decide (v2<(a0.length:Int)))then(bif (decide (v2<4000))then(if(0:Int)≤v2∧v2<(a0.length:Int)then(Ava K a0 n1 (An9 .i64 (An6 .i64 (An6 .i64 (An8 .i64 v1 137) (IntKind.i64.wrap (gt a0 v2))) 11) 1073741823) (An6 .i64 v2 1))else none)else some (D1.mk a0 0 v1))else some (D1.mk a0 0 v1))
def A0p (K:Nat)(a0:List Int):Option (D1):=(Ava K a0 K (An6 .i64 161416 (a0.length:Int)) 0)
def X_1:=fd Tryz.func67 ⟨[.v 22],[.p 148 false],false⟩ gN [11,12]
def h_0:Ej:=⟨[(0,.v 22),(3,.v 2),(4,.v 2)],[]⟩
def Btm:=lp X_1 58 h_0 [] (fun n a=>Ava K a n) (fun n=>kN)
def B01:=ct X_1 (A0p K) (kC (Btm K K) kN)
def Aw4 (K:Nat)(v1:Int)(v2:List Int)(v3:Int)(v4:Int):Option (Int×D1):=some (v1,(D1.mk v2 v3 v4))
def Aq3 (K:Nat)(a0:D1):Option (Int×D1):=(if(0:Int)≤33 then(if(0:Int)≤47 then(bif (decide (a0.fi<(a0.fb.length:Int)))then(if(0:Int)≤a0.fi∧a0.fi<(a0.fb.length:Int)then(Aw4 K (An9 .i64 (An6 .i64 (An9 .i64 (Aoa .i64 (Alj .i64 (An6 .i64 (An8 .i64 a0.fh 6364136223846793005) 1442695040888963407) 33) (Alj .i64 (An6 .i64 (An8 .i64 a0.fh 6364136223846793005) 1442695040888963407) 47)) 255) (IntKind.i64.wrap (gt a0.fb a0.fi))) 255) a0.fb (An6 .i64 a0.fi 1) (An6 .i64 (An8 .i64 a0.fh 6364136223846793005) 1442695040888963407))else none)else(Aw4 K (An9 .i64 (Aoa .i64 (Alj .i64 (An6 .i64 (An8 .i64 a0.fh 6364136223846793005) 1442695040888963407) 33) (Alj .i64 (An6 .i64 (An8 .i64 a0.fh 6364136223846793005) 1442695040888963407) 47)) 255) a0.fb a0.fi (An6 .i64 (An8 .i64 a0.fh 6364136223846793005) 1442695040888963407)))else none)else none)
def X_2:=fd Tryz.func148 ⟨[.b 148 false],[.v 3],false⟩ gN [] [15]
def h_1:Ej:=⟨[(3,.v 2)],[(1,.box [.v 22,.v 2,.v 2])]⟩
def Btn:=jn X_2 15 h_1 [] (Aw4 K) kN
def Bxi:=ct X_2 (Aq3 K) (kC (Btn K) kN)
def Ap (K:Nat)(a0:D1)(a1:Int):Option (Int×D1):=(bif (decide (a1≤0))then some (0,a0)else(bif (decide (a1≤256))then((Aq3 K a0).bind fun r1=>(if a1≠(0:Int)then some ((Int.tmod r1.1 a1),r1.2)else none))else((Aq3 K a0).bind fun r2=>((Aq3 K r2.2).bind fun r3=>((Aq3 K r3.2).bind fun r4=>(if a1≠(0:Int)then some ((Int.tmod (An6 .i64 (An6 .i64 (An8 .i64 r2.1 65536) (An8 .i64 r3.1 256)) r4.1) a1),r4.2)else none))))))
def A3m:=ct (fd Tryz.func66 ⟨[.b 148 false,.v 3],[.v 3],false⟩ (gC (Bxi K) gN)) (Ap K)
def K1 (K:Nat)(a0:D1)(a1:List Int):Option (Int×D1×(List Int)):=((Ap K a0 (a1.length:Int)).bind fun r1=>(if(0:Int)≤r1.1∧r1.1<(a1.length:Int)then some ((gt a1 r1.1),r1.2,a1)else none))
def A9d:=ct (fd Tryz.func132 ⟨[.b 148 false,.w 26 true [(3,true)]],[.v 3],false⟩ (gC (A3m K) gN)) (K1 K)
def Awp (K:Nat)(a0:D1):Option (Ea×D1):=((Ap K a0 11).bind fun r1=>((K1 K r1.2 ([8,8,9,12,16]:List Int)).bind fun r2=>(if r2.2.2.length=([8,8,9,12,16]:List Int).length then((Ap K r2.2.1 7).bind fun r3=>((Ap K r3.2 6).bind fun r4=>((K1 K r4.2 ([1,3,4,8,16]:List Int)).bind fun r5=>(if r5.2.2.length=([1,3,4,8,16]:List Int).length then((Ap K r5.2.1 4).bind fun r6=>some ((Ea.mk (An6 .i64 2 r1.1) r2.1 (An6 .i64 2 r3.1) (An6 .i64 1 r4.1) r5.1 (An6 .i64 1 r6.1)),r6.2))else none))))else none)))
def Bxj:=ct (fd Tryz.func181 ⟨[.b 148 false],[.v 25],false⟩ (gC (A3m K) (gC (A9d K) gN))) (Awp K)
def Gx (K:Nat)(a0:Int)(a1:Int)(a2:Int):Option (Bool):=(bif (decide (a0≥a1))then some (decide (a0≤a2))else some false)
def A2a:=ct (fd Tryz.func106 ⟨[.v 3,.v 3,.v 3],[.v 4],true⟩ gN [9,10]) (Gx K)
def Ani (K:Nat)(a0:Ea):Option (Bool):=((Gx K a0.Ay 2 12).bind fun r1=>(bif r1 then((Gx K a0.G8 8 16).bind fun r2=>(bif r2 then((Gx K a0.E6 2 8).bind fun r3=>(bif r3 then((Gx K a0.Gu 1 8).bind fun r4=>(bif r4 then((Gx K a0.E7 1 16).bind fun r5=>(bif r5 then((Gx K a0.G9 1 4).bind fun r6=>some r6)else some false))else some false))else some false))else some false))else some false))
def Bb3:=ct (fd Tryz.func95 ⟨[.v 25],[.v 4],true⟩ (gC (A2a K) gN) [5,6,9,10,11,14,15,16,19,20,21,24,25,26]) (Ani K)
def Arf (K:Nat)(a0:Ea):Option (Int):=((Ani K a0).bind fun r1=>(bif (!r1)then some 0 else some (An8 .i64 a0.Ay a0.G8)))
def Bpd:=ct (fd Tryz.func190 ⟨[.v 25],[.v 3],true⟩ (gC (Bb3 K) gN)) (Arf K)
def A2y (K:Nat)(a0:Int):Option ((List Int)):=((Gx K a0 0 4096).bind fun r1=>(bif (!r1)then some ([]:List Int)else(if(0:Int)≤a0∧a0≤a0∧(1:Int)*a0≤281474976710656∧a0≤9223372036854775807 then some (List.replicate a0.toNat 0)else none)))
def B02:=ct (fd Tryz.func189 ⟨[.v 3],[.n 22 true],true⟩ (gC (A2a K) gN)) (A2y K)
def Asp (K:Nat)(a0:Ea):Nat->Int->Dn->Dn->Option (Dn)
 |0,_,_,_=>none
 |n1+1,v4,v5,v6=>(bif (decide (v4<a0.Ay))then(if(v5.Vi++([0]:List Int)).length*8≤140737488355328∧(v5.Vi++([0]:List Int)).length≤maxLen then(if(v5.N8++([(-1)]:List Int)).length*8≤140737488355328∧(v5.N8++([(-1)]:List Int)).length≤maxLen then(Asp K a0 n1 (An6 .i64 v4 1) (Dn.mk v5.N7 (v5.Vi++([0]:List Int)) (v5.N8++([(-1)]:List Int))) v6)else none)else none)else some v5)
def Aya (K:Nat)(a0:Ea):Option (Dn):=((Ani K a0).bind fun r1=>(bif (!r1)then some (Dn.mk [] [] [])else((Arf K a0).bind fun r2=>((A2y K r2).bind fun r3=>(Asp K a0 K 0 (Dn.mk r3 [] []) (Dn.mk [] [] []))))))
def Bxk:=fd Tryz.func96 ⟨[.v 25],[.n 28 true],true⟩ (gC (Bb3 K) (gC (B02 K) (gC (Bpd K) gN))) [] [] [(3,[.take 103 0 6648,.take 103 1 6649,.take 103 2 6650]),(8,[.take 103 1 6649]),(9,[.take 103 2 6650]),(10,[.take 103 0 6648,.take 103 1 6649,.take 103 2 6650])]
def h_2:Ej:=⟨[(1,.p 101),(2,.p 102),(3,.p 103),(4,.v 2)],[(103,.st 28 true),(102,.st 28 true),(101,.st 25 true)]⟩
def Bjr:=lp (Bxk K) 250 h_2 [] (fun n a b c d=>Asp K d n a b c) (fun n=>kN)
def Bxl:=ct (Bxk K) (Aya K) (kC (Bjr K K) kN)
def Ak0 (K:Nat)(a0:Int):Option (As):=some (As.mk 0 a0 0 0 0 0 0 0 [] 0 0 [] [])
def Bb4:=ct (fd Tryz.func191 ⟨[.v 3],[.n 50 false],true⟩ gN) (Ak0 K)
def Ar7 (K:Nat)(a0:Ea):Nat->(List As)->Int->Option ((List As))
 |0,_,_=>none
 |n1+1,v1,v2=>(bif (decide (v2<a0.E6))then((Ani K a0).bind fun r3=>(bif r3 then((Ak0 K 1).bind fun r4=>(if(v1++[r4]).length*152≤140737488355328∧(v1++[r4]).length≤maxLen then(Ar7 K a0 n1 (v1++[r4]) (An6 .i64 v2 1))else none))else some v1))else some v1)
def A0f (K:Nat)(a0:Ea):Option ((List As)):=(Ar7 K a0 K ([]:List As) 0)
def Bxm:=fd Tryz.func97 ⟨[.v 25],[.n 29 true],false⟩ (gC (Bb3 K) (gC (Bb4 K) gN)) [9,10] [] [] [(18,[.put 3018])]
def h_3:Ej:=⟨[(1,.p 101),(3,.o 1003 50 true),(4,.v 2)],[(101,.st 25 true)]⟩
def Bpe:=lp (Bxm K) 58 h_3 [] (fun n a b c=>Ar7 K c n a b) (fun n=>kN)
def Bxn:=ct (Bxm K) (A0f K) (kC (Bpe K K) kN)
def Aw5 (K:Nat)(a0:Ea):Option (C5):=((Ani K a0).bind fun r1=>(bif (!r1)then some (C5.mk (Ea.mk 0 0 0 0 0 0) (Dn.mk [] [] []) [] [] [])else((Aya K a0).bind fun r2=>((A0f K a0).bind fun r3=>some (C5.mk a0 r2 r3 [] [])))))
def Bxo:=ct (fd Tryz.func25 ⟨[.v 25],[.n 32 true],false⟩ (gC (Bb3 K) (gC (Bxl K) (gC (Bxn K) gN)))) (Aw5 K)
def Ad8 (K:Nat)(a0:List As)(a1:Int):Option (Bool):=(bif (decide (a1≥1))then some (decide (a1≤(a0.length:Int)))else some false)
def A6z:=ct (fd Tryz.func213 ⟨[.v 29,.v 3],[.v 4],true⟩ gN [6,7]) (Ad8 K)
def Awq (K:Nat)(a0:List As):Nat->Int->(List Int)->Option ((List Int))
 |0,_,_=>none
 |n1+1,v1,v2=>((Ad8 K a0 (An6 .i64 v1 1)).bind fun r3=>(bif r3 then(bif (decide ((v2.length:Int)<(a0.length:Int)))then(if(v2++([v1]:List Int)).length*8≤140737488355328∧(v2++([v1]:List Int)).length≤maxLen then(if(0:Int)≤v1∧v1<(a0.length:Int)then(Awq K a0 n1 (An7 .i64 ((gt a0 v1).fUp) 1) (v2++([v1]:List Int)))else none)else none)else some v2)else some v2))
def Ax2 (K:Nat)(a0:List As)(a1:Int):Option ((List Int)):=(Awq K a0 K a1 ([]:List Int))
def Bxp:=fd Tryz.func123 ⟨[.v 29,.v 3],[.n 26 true],true⟩ (gC (A6z K) gN) [10,11]
def h_4:Ej:=⟨[(0,.v 29),(1,.v 2),(5,.o 1005 3 true)],[]⟩
def Bpf:=lp (Bxp K) 28 h_4 [] (fun n a=>Awq K a n) (fun n=>kN)
def Bjs:=ct (Bxp K) (Ax2 K) (kC (Bpf K K) kN)
def Ar8 (K:Nat)(a0:List As)(a1:Int):Option (Bool):=(if(0:Int)≤a1∧a1<(a0.length:Int)then((Ad8 K a0 ((gt a0 a1).fUp)).bind fun r1=>(bif r1 then(if(0:Int)≤(An7 .i64 ((gt a0 a1).fUp) 1)∧(An7 .i64 ((gt a0 a1).fUp) 1)<(a0.length:Int)then(bif (((gt a0 (An7 .i64 ((gt a0 a1).fUp) 1)).Vi)==1)then(if(0:Int)≤(An7 .i64 ((gt a0 a1).fUp) 1)∧(An7 .i64 ((gt a0 a1).fUp) 1)<(a0.length:Int)then(if(0:Int)≤a1∧a1<(a0.length:Int)then some (((gt a0 (An7 .i64 ((gt a0 a1).fUp) 1)).Sl)==((gt a0 a1).Sm))else none)else none)else some false)else none)else some false))else none)
def Bjt:=ct (fd Tryz.func206 ⟨[.v 29,.v 3],[.v 4],true⟩ (gC (A6z K) gN) [13,14,21,22,23]) (Ar8 K)
def Ayb (K:Nat)(v2:Int)(C1:Int->Option (Bool)):Option (Bool):=(C1 (An6 .i64 v2 1))
def Asq (K:Nat)(a0:List As)(r1:(List Int)):Nat->Int->Option (Bool)
 |0,_=>none
 |n1+1,v2=>(bif (decide (v2<(r1.length:Int)))then(if(0:Int)≤v2∧v2<(r1.length:Int)then(if(0:Int)≤(gt r1 v2)∧(gt r1 v2)<(a0.length:Int)then(bif (((gt a0 (gt r1 v2)).Vi) != 1)then some false else(bif (decide ((An6 .i64 v2 1)<(r1.length:Int)))then(if(0:Int)≤v2∧v2<(r1.length:Int)then((Ar8 K a0 (gt r1 v2)).bind fun r3=>(bif (!r3)then some false else(Ayb K v2 (Asq K a0 r1 n1))))else none)else(Ayb K v2 (Asq K a0 r1 n1))))else none)else none)else(bif (decide ((r1.length:Int)>0))then(if(0:Int)≤(An7 .i64 (r1.length:Int) 1)∧(An7 .i64 (r1.length:Int) 1)<(r1.length:Int)then(if(0:Int)≤(gt r1 (An7 .i64 (r1.length:Int) 1))∧(gt r1 (An7 .i64 (r1.length:Int) 1))<(a0.length:Int)then some (((gt a0 (gt r1 (An7 .i64 (r1.length:Int) 1))).fUp)==0)else none)else none)else some false))
def Av3 (K:Nat)(a0:List As)(a1:Int):Option (Bool):=((Ax2 K a0 a1).bind fun r1=>(Asq K a0 r1 K 0))
def Bto:=fd Tryz.func113 ⟨[.v 29,.v 3],[.v 4],true⟩ (gC (Bjs K) (gC (Bjt K) gN)) [24,25,30,31,43,44] [233]
def h_5:Ej:=⟨[(0,.v 29),(5,.v 26),(6,.v 2)],[]⟩
def Bju:=fun(C58:CT h_5 _)=>jn (Bto K) 233 h_5 [(58,ar h_5 C58)] (fun a b c=>Ayb K c (C58 a b)) kN
def Bpg:=lp (Bto K) 58 h_5 [] (fun n a b=>Asq K a b n) (fun n=>(kC (Bju K _) kN))
def Bjv:=ct (Bto K) (Av3 K) (kC (Bpg K K) kN)
def Asr (K:Nat)(v2:Int)(v3:Int)(v4:Int)(v5:Int)(v6:Int)(v7:Int)(v8:Int)(v9:List Int)(v10:List Int)(v11:List Int)(v12:List As)(v13:List Az)(v14:List Int)(C1:(List Int)->Int->Int->Int->Int->Int->Int->Int->(List Int)->(List Int)->(List Int)->(List As)->(List Az)->(List Int)->Option ((List Int)))(v16:List Int):Option ((List Int)):=(C1 v16 (An6 .i64 v2 1) v3 v4 v5 v6 v7 v8 v9 v10 v11 v12 v13 v14)
def Aq8 (K:Nat):Nat->(List Int)->Int->Int->Int->Int->Int->Int->Int->(List Int)->(List Int)->(List Int)->(List As)->(List Az)->(List Int)->Option ((List Int))
 |0,_,_,_,_,_,_,_,_,_,_,_,_,_,_=>none
 |n1+1,v1,v2,v3,v4,v5,v6,v7,v8,v9,v10,v11,v12,v13,v14=>(bif (decide (v2<(v12.length:Int)))then((Av3 K v12 v2).bind fun r15=>(bif r15 then(if(v1++([v2]:List Int)).length*8≤140737488355328∧(v1++([v2]:List Int)).length≤maxLen then(Asr K v2 v3 v4 v5 v6 v7 v8 v9 v10 v11 v12 v13 v14 (Aq8 K n1) (v1++([v2]:List Int)))else none)else(Asr K v2 v3 v4 v5 v6 v7 v8 v9 v10 v11 v12 v13 v14 (Aq8 K n1) v1)))else some v1)
def Avb (K:Nat)(a0:C5):Option ((List Int)):=(Aq8 K K ([]:List Int) 0 a0.fC.Ay a0.fC.G8 a0.fC.E6 a0.fC.Gu a0.fC.E7 a0.fC.G9 a0.fP.N7 a0.fP.Vi a0.fP.N8 a0.fL a0.fQ a0.Acy)
def Btp:=fd Tryz.func31 ⟨[.v 32],[.n 26 true],true⟩ (gC (Bjv K) gN) [] [233]
def h_6:Ej:=⟨[(1,.p 101),(3,.o 1003 3 true),(4,.v 2)],[(101,.box [.v 2,.v 2,.v 2,.v 2,.v 2,.v 2,.v 22,.v 26,.v 26,.v 29,.v 30,.v 26])]⟩
def Bjw:=fun(C58:CT h_6 _)=>jn (Btp K) 233 h_6 [(58,ar h_6 C58)] (fun a b c d e f g h i j k l m o=>Asr K b c d e f g h i j k l m o C58 a) kN
def Bph:=lp (Btp K) 58 h_6 [] (Aq8 K) (fun n=>(kC (Bjw K _) kN))
def Bjx:=ct (Btp K) (Avb K) (kC (Bph K K) kN)
def Aim (K:Nat)(a0:D1)(a1:Int):Option (Bool×D1):=((Ap K a0 a1).bind fun r1=>some ((r1.1==0),r1.2))
def A9v:=ct (fd Tryz.func150 ⟨[.b 148 false,.v 3],[.v 4],false⟩ (gC (A3m K) gN)) (Aim K)
def At5 (K:Nat)(a0:D1):Option (An×D1):=((Ap K a0 5).bind fun r1=>((Ap K r1.2 3).bind fun r2=>some ((An.mk r1.1 (An6 .i64 1 r2.1)),r2.2)))
def Bry:=ct (fd Tryz.func231 ⟨[.b 148 false],[.v 36],false⟩ (gC (A3m K) gN)) (At5 K)
def Ass (K:Nat)(a1:Int):Nat->(List Int)->Int->(List Int)->Int->Int->Option ((List Int)×D1)
 |0,_,_,_,_,_=>none
 |n1+1,v1,v2,v3,v4,v5=>(bif (decide (v2<a1))then((Aq3 K (D1.mk v3 v4 v5)).bind fun r6=>(if(v1++([(IntKind.u8.wrap r6.1)]:List Int)).length*1≤140737488355328∧(v1++([(IntKind.u8.wrap r6.1)]:List Int)).length≤maxLen then(Ass K a1 n1 (v1++([(IntKind.u8.wrap r6.1)]:List Int)) (An6 .i64 v2 1) r6.2.fb r6.2.fi r6.2.fh)else none))else some (v1,(D1.mk v3 v4 v5)))
def Ayc (K:Nat)(a0:D1)(a1:Int):Option ((List Int)×D1):=(Ass K a1 K ([]:List Int) 0 a0.fb a0.fi a0.fh)
def Bxq:=fd Tryz.func141 ⟨[.b 148 false,.v 3],[.n 22 true],false⟩ (gC (Bxi K) gN)
def h_7:Ej:=⟨[(0,.p 1),(1,.v 2),(5,.o 1005 5 true),(6,.v 2)],[(1,.box [.v 22,.v 2,.v 2])]⟩
def Bpi:=lp (Bxq K) 58 h_7 [] (fun n a=>Ass K a n) (fun n=>kN)
def Brz:=ct (Bxq K) (Ayc K) (kC (Bpi K K) kN)
def Alz (K:Nat)(v6:List Int)(v7:Int)(v8:Int)(v9:Co)(v10:Co):Option (Co×D1):=some (v9,(D1.mk v6 v7 v8))
def Aq9 (K:Nat)(v11:Int)(v12:Bool)(v13:List Int)(v14:Int)(v15:Int)(v16:Br)(v17:An)(v18:Co)(v19:Co):Option (Co×D1):=(bif v12 then(Alz K v13 v14 v15 (Co.mk v18.W3 v17 v18.fR v18.fN v18.fM v18.fB) v19)else(bif (v11==2)then((K1 K (D1.mk v13 v14 v15) ([1,2,3,5,8,9,17,20,0,201]:List Int)).bind fun r20=>(if r20.2.2.length=([1,2,3,5,8,9,17,20,0,201]:List Int).length then((K1 K r20.2.1 ([1,1,2,4,3]:List Int)).bind fun r21=>(if r21.2.2.length=([1,1,2,4,3]:List Int).length then(Alz K r21.2.1.fb r21.2.1.fi r21.2.1.fh (Co.mk v18.W3 v17 v18.fR r20.1 r21.1 v18.fB) v19)else none))else none))else(bif (v11==3)then((Ap K (D1.mk v13 v14 v15) 4).bind fun r22=>((Ap K r22.2 5).bind fun r23=>(Alz K r23.2.fb r23.2.fi r23.2.fh (Co.mk v18.W3 v18.fH v16 r22.1 r23.1 v18.fB) v19)))else(bif (v11==4)then((Ap K (D1.mk v13 v14 v15) 4).bind fun r24=>((Ap K r24.2 4).bind fun r25=>((Ayc K r25.2 r25.1).bind fun r26=>(Alz K r26.2.fb r26.2.fi r26.2.fh (Co.mk v18.W3 v18.fH v16 r24.1 v18.fM r26.1) v19))))else(bif (v11==5)then((K1 K (D1.mk v13 v14 v15) ([1,7,255,256]:List Int)).bind fun r27=>(if r27.2.2.length=([1,7,255,256]:List Int).length then(Alz K r27.2.1.fb r27.2.1.fi r27.2.1.fh (Co.mk v18.W3 v17 v18.fR r27.1 v18.fM v18.fB) v19)else none))else(Alz K v13 v14 v15 v18 v19))))))
def Avc (K:Nat)(a0:D1):Option (Co×D1):=((Ap K a0 9).bind fun r1=>((At5 K r1.2).bind fun r2=>((Ap K r2.2 2).bind fun r3=>((Ap K r3.2 3).bind fun r4=>(bif ((An6 .i64 1 r1.1)==1)then((Aim K r4.2 2).bind fun r5=>(bif r5.1 then(Alz K r5.2.fb r5.2.fi r5.2.fh (Co.mk (An6 .i64 1 r1.1) r2.1 (Br.mk (An.mk 0 0) 0 0) 0 0 []) (Co.mk 0 (An.mk 0 0) (Br.mk (An.mk 0 0) 0 0) 0 0 []))else(Alz K r5.2.fb r5.2.fi r5.2.fh (Co.mk (An6 .i64 1 r1.1) (An.mk 0 0) (Br.mk (An.mk 0 0) 0 0) 0 0 []) (Co.mk 0 (An.mk 0 0) (Br.mk (An.mk 0 0) 0 0) 0 0 []))))else(bif ((An6 .i64 1 r1.1)==6)then(Aq9 K (An6 .i64 1 r1.1) ((An6 .i64 1 r1.1)==6) r4.2.fb r4.2.fi r4.2.fh (Br.mk r2.1 r3.1 r4.1) r2.1 (Co.mk (An6 .i64 1 r1.1) (An.mk 0 0) (Br.mk (An.mk 0 0) 0 0) 0 0 []) (Co.mk 0 (An.mk 0 0) (Br.mk (An.mk 0 0) 0 0) 0 0 []))else(bif ((An6 .i64 1 r1.1)==7)then(Aq9 K (An6 .i64 1 r1.1) ((An6 .i64 1 r1.1)==7) r4.2.fb r4.2.fi r4.2.fh (Br.mk r2.1 r3.1 r4.1) r2.1 (Co.mk (An6 .i64 1 r1.1) (An.mk 0 0) (Br.mk (An.mk 0 0) 0 0) 0 0 []) (Co.mk 0 (An.mk 0 0) (Br.mk (An.mk 0 0) 0 0) 0 0 []))else(Aq9 K (An6 .i64 1 r1.1) ((An6 .i64 1 r1.1)==8) r4.2.fb r4.2.fi r4.2.fh (Br.mk r2.1 r3.1 r4.1) r2.1 (Co.mk (An6 .i64 1 r1.1) (An.mk 0 0) (Br.mk (An.mk 0 0) 0 0) 0 0 []) (Co.mk 0 (An.mk 0 0) (Br.mk (An.mk 0 0) 0 0) 0 0 [])))))))))
def Btq:=fd Tryz.func151 ⟨[.b 148 false],[.n 40 true],false⟩ (gC (A3m K) (gC (A9d K) (gC (Brz K) (gC (A9v K) (gC (Bry K) gN))))) [] [31,1003] [(27,[.take 103 9 6657])]
def h_8:Ej:=⟨[(2,.p 102),(3,.p 103)],[(1,.box [.v 22,.v 2,.v 2]),(103,.st 40 true),(102,.st 40 true)]⟩
def h_9:Ej:=⟨[(0,.p 1),(2,.p 102),(3,.p 103),(4,.p 104),(5,.p 105),(19,.v 2),(26,.v 4)],[(1,.box [.v 22,.v 2,.v 2]),(105,.st 38 true),(104,.st 36 true),(103,.st 40 true),(102,.st 40 true)]⟩
def Bf7:=jn (Btq K) 31 h_8 [] (Alz K) kN
def Bhd:=jn (Btq K) 1003 h_9 [] (Aq9 K) (kC (Bf7 K) kN)
def Bxr:=ct (Btq K) (Avc K) (kC (Bf7 K) (kC (Bhd K) kN))
def Anl (K:Nat)(a0:List As)(a1:Int):Option (An):=((Gx K a1 0 (An7 .i64 (a0.length:Int) 1)).bind fun r1=>(bif (!r1)then some (An.mk 0 0)else(if(0:Int)≤a1∧a1<(a0.length:Int)then some (An.mk a1 ((gt a0 a1).C9))else none)))
def Bjy:=ct (fd Tryz.func152 ⟨[.v 29,.v 3],[.v 36],true⟩ (gC (A2a K) gN)) (Anl K)
def Ast (K:Nat)(r8:An)(v27:List Int)(v28:List Int)(v29:List Int)(v30:List As)(v31:List Az)(v32:List Int)(v34:Int)(v36:List Int)(v37:Int)(v38:Int)(v47:Bool):Option (Co×D1×(List Int)×(List Int)×(List Int)×(List As)×(List Az)×(List Int)):=(bif v47 then((Ap K (D1.mk v36 v37 v38) 256).bind fun r48=>some ((Co.mk 5 r8 (Br.mk (An.mk 0 0) 0 0) r48.1 0 []),r48.2,v27,v28,v29,v30,v31,v32))else(bif (v34==13)then some ((Co.mk 6 r8 (Br.mk (An.mk 0 0) 0 0) 0 0 []),(D1.mk v36 v37 v38),v27,v28,v29,v30,v31,v32)else(bif (v34==14)then some ((Co.mk 7 r8 (Br.mk (An.mk 0 0) 0 0) 0 0 []),(D1.mk v36 v37 v38),v27,v28,v29,v30,v31,v32)else((Aim K (D1.mk v36 v37 v38) 6).bind fun r49=>(bif r49.1 then some ((Co.mk 9 (An.mk 0 0) (Br.mk (An.mk 0 0) 0 0) 0 0 []),r49.2,v27,v28,v29,v30,v31,v32)else some ((Co.mk 8 r8 (Br.mk (An.mk 0 0) 0 0) 0 0 []),r49.2,v27,v28,v29,v30,v31,v32))))))
def Asu (K:Nat)(r8:An)(v13:Br)(v27:List Int)(v28:List Int)(v29:List Int)(v30:List As)(v31:List Az)(v32:List Int)(v34:Int)(v36:List Int)(v37:Int)(v38:Int)(v43:Bool):Option (Co×D1×(List Int)×(List Int)×(List Int)×(List As)×(List Az)×(List Int)):=(bif v43 then((Ap K (D1.mk v36 v37 v38) 2).bind fun r44=>((Ayc K r44.2 (An6 .i64 1 r44.1)).bind fun r45=>some ((Co.mk 4 (An.mk 0 0) v13 0 0 r45.1),r45.2,v27,v28,v29,v30,v31,v32)))else(bif (v34==10)then((Ap K (D1.mk v36 v37 v38) 3).bind fun r46=>some ((Co.mk 3 (An.mk 0 0) v13 0 r46.1 []),r46.2,v27,v28,v29,v30,v31,v32))else(bif (v34==11)then(Ast K r8 v27 v28 v29 v30 v31 v32 v34 v36 v37 v38 (v34==11))else(Ast K r8 v27 v28 v29 v30 v31 v32 v34 v36 v37 v38 (v34==12)))))
def Ara (K:Nat)(r8:An)(v13:Br)(v16:Int)(v27:List Int)(v28:List Int)(v29:List Int)(v30:List As)(v31:List Az)(v32:List Int)(v34:Int)(v36:List Int)(v37:Int)(v38:Int)(v39:Bool):Option (Co×D1×(List Int)×(List Int)×(List Int)×(List As)×(List Az)×(List Int)):=(bif v39 then((K1 K (D1.mk v36 v37 v38) ([1,2,3,4,5,8]:List Int)).bind fun r40=>(if r40.2.2.length=([1,2,3,4,5,8]:List Int).length then((K1 K r40.2.1 ([1,1,2,4]:List Int)).bind fun r41=>(if r41.2.2.length=([1,1,2,4]:List Int).length then some ((Co.mk 2 r8 (Br.mk (An.mk 0 0) 0 0) r40.1 r41.1 []),r41.2.1,v27,v28,v29,v30,v31,v32)else none))else none))else(bif (v34==7)then((Ap K (D1.mk v36 v37 v38) v16).bind fun r42=>some ((Co.mk 2 r8 (Br.mk (An.mk 0 0) 0 0) (An6 .i64 (An6 .i64 v16 1) r42.1) 1 []),r42.2,v27,v28,v29,v30,v31,v32))else(bif (v34==8)then(Asu K r8 v13 v27 v28 v29 v30 v31 v32 v34 v36 v37 v38 (v34==8))else(Asu K r8 v13 v27 v28 v29 v30 v31 v32 v34 v36 v37 v38 (v34==9)))))
def Arb (K:Nat)(r8:An)(v13:Br)(v16:Int)(v27:List Int)(v28:List Int)(v29:List Int)(v30:List As)(v31:List Az)(v32:List Int)(v34:Int)(v35:Bool)(v36:List Int)(v37:Int)(v38:Int):Option (Co×D1×(List Int)×(List Int)×(List Int)×(List As)×(List Az)×(List Int)):=(bif v35 then some ((Co.mk 1 r8 (Br.mk (An.mk 0 0) 0 0) 0 0 []),(D1.mk v36 v37 v38),v27,v28,v29,v30,v31,v32)else(bif (v34==3)then some ((Co.mk 1 (An.mk 0 0) (Br.mk (An.mk 0 0) 0 0) 0 0 []),(D1.mk v36 v37 v38),v27,v28,v29,v30,v31,v32)else(bif (v34==4)then(Ara K r8 v13 v16 v27 v28 v29 v30 v31 v32 v34 v36 v37 v38 (v34==4))else(bif (v34==5)then(Ara K r8 v13 v16 v27 v28 v29 v30 v31 v32 v34 v36 v37 v38 (v34==5))else(Ara K r8 v13 v16 v27 v28 v29 v30 v31 v32 v34 v36 v37 v38 (v34==6))))))
def Asv (K:Nat)(r8:An)(v10:List Int)(v11:Int)(v12:Int)(v13:Br)(v14:Co)(v15:Int)(v16:Int)(v17:Int)(v18:Int)(v19:Int)(v20:Int)(v21:Nat)(v22:Nat)(v23:Nat)(v24:Nat)(v25:Nat)(v26:Nat)(v27:List Int)(v28:List Int)(v29:List Int)(v30:List As)(v31:List Az)(v32:List Int):Option (Co×D1×(List Int)×(List Int)×(List Int)×(List As)×(List Az)×(List Int)):=((Ap K (D1.mk v10 v11 v12) 16).bind fun r33=>(bif (r33.1==0)then(Arb K r8 v13 v16 v27 v28 v29 v30 v31 v32 r33.1 (r33.1==0) r33.2.fb r33.2.fi r33.2.fh)else(bif (r33.1==1)then(Arb K r8 v13 v16 v27 v28 v29 v30 v31 v32 r33.1 (r33.1==1) r33.2.fb r33.2.fi r33.2.fh)else(Arb K r8 v13 v16 v27 v28 v29 v30 v31 v32 r33.1 (r33.1==2) r33.2.fb r33.2.fi r33.2.fh))))
def Ayd (K:Nat)(a0:D1)(a1:C5):Option (Co×D1×(List Int)×(List Int)×(List Int)×(List As)×(List Az)×(List Int)):=((Avb K a1).bind fun r1=>(bif ((r1.length:Int)==0)then((Aim K a0 2).bind fun r2=>(bif r2.1 then some ((Co.mk 1 (An.mk 0 0) (Br.mk (An.mk 0 0) 0 0) 0 0 []),r2.2,a1.fP.N7,a1.fP.Vi,a1.fP.N8,a1.fL,a1.fQ,a1.Acy)else((Avc K r2.2).bind fun r3=>some (r3.1,r3.2,a1.fP.N7,a1.fP.Vi,a1.fP.N8,a1.fL,a1.fQ,a1.Acy))))else((Aim K a0 10).bind fun r4=>(bif r4.1 then((Aim K r4.2 2).bind fun r5=>(bif r5.1 then some ((Co.mk 1 (An.mk 0 0) (Br.mk (An.mk 0 0) 0 0) 0 0 []),r5.2,a1.fP.N7,a1.fP.Vi,a1.fP.N8,a1.fL,a1.fQ,a1.Acy)else((Avc K r5.2).bind fun r6=>some (r6.1,r6.2,a1.fP.N7,a1.fP.Vi,a1.fP.N8,a1.fL,a1.fQ,a1.Acy))))else((Ap K r4.2 (r1.length:Int)).bind fun r7=>(if(0:Int)≤r7.1∧r7.1<(r1.length:Int)then((Anl K a1.fL (gt r1 r7.1)).bind fun r8=>(if(0:Int)≤(gt r1 r7.1)∧(gt r1 r7.1)<(a1.fL.length:Int)then(if(0:Int)≤(gt r1 r7.1)∧(gt r1 r7.1)<(a1.fL.length:Int)then(if(0:Int)≤(gt r1 r7.1)∧(gt r1 r7.1)<(a1.fL.length:Int)then(bif (decide ((((gt a1.fL (gt r1 r7.1)).F6).length:Int)>0))then(if(0:Int)≤(gt r1 r7.1)∧(gt r1 r7.1)<(a1.fL.length:Int)then((Ap K r7.2 (((gt a1.fL (gt r1 r7.1)).F6).length:Int)).bind fun r9=>(Asv K r8 r9.2.fb r9.2.fi r9.2.fh (Br.mk r8 ((gt a1.fL (gt r1 r7.1)).Sl) r9.1) (Co.mk 0 (An.mk 0 0) (Br.mk (An.mk 0 0) 0 0) 0 0 []) a1.fC.Ay a1.fC.G8 a1.fC.E6 a1.fC.Gu a1.fC.E7 a1.fC.G9 a1.fP.N7.length a1.fP.Vi.length a1.fP.N8.length a1.fL.length a1.fQ.length a1.Acy.length a1.fP.N7 a1.fP.Vi a1.fP.N8 a1.fL a1.fQ a1.Acy))else none)else(Asv K r8 r7.2.fb r7.2.fi r7.2.fh (Br.mk r8 ((gt a1.fL (gt r1 r7.1)).Sl) 0) (Co.mk 0 (An.mk 0 0) (Br.mk (An.mk 0 0) 0 0) 0 0 []) a1.fC.Ay a1.fC.G8 a1.fC.E6 a1.fC.Gu a1.fC.E7 a1.fC.G9 a1.fP.N7.length a1.fP.Vi.length a1.fP.N8.length a1.fL.length a1.fQ.length a1.Acy.length a1.fP.N7 a1.fP.Vi a1.fP.N8 a1.fL a1.fQ a1.Acy))else none)else none)else none))else none))))))
def Bhe:=fd Tryz.func70 ⟨[.b 148 false,.w 32 false [(5,true),(3,true),(3,true),(50,true),(52,false),(3,true)]],[.n 40 true],false⟩ (gC (Bjx K) (gC (A3m K) (gC (A9d K) (gC (Brz K) (gC (A9v K) (gC (Bxr K) (gC (Bjy K) gN))))))) [13,14] [127,2042,32687,523007,8368127] [(9,[.opn 5 (.tmp 6),.takeE 5 11 40331])]
def B04:Ej:=⟨[(0,.p 1),(4,.p 104),(7,.p 107),(61,.v 2),(113,.v 4)],[(1,.box [.v 22,.v 2,.v 2]),(2,.rws 5 true),(3,.rws 3 true),(4,.rws 3 true),(5,.rws 50 true),(6,.rws 52 false),(7,.rws 3 true),(107,.st 36 true),(104,.st 40 true)]⟩
def B05:Ej:=⟨[(0,.p 1),(4,.p 104),(7,.p 107),(8,.p 108),(61,.v 2),(97,.v 4)],[(1,.box [.v 22,.v 2,.v 2]),(2,.rws 5 true),(3,.rws 3 true),(4,.rws 3 true),(5,.rws 50 true),(6,.rws 52 false),(7,.rws 3 true),(108,.st 38 true),(107,.st 36 true),(104,.st 40 true)]⟩
def B06:Ej:=⟨[(0,.p 1),(3,.p 103),(4,.p 104),(7,.p 107),(8,.p 108),(61,.v 2),(71,.v 4)],[(1,.box [.v 22,.v 2,.v 2]),(108,.st 38 true),(107,.st 36 true),(104,.st 40 true),(103,.ob [.v 2,.v 2,.v 2,.v 2,.v 2,.v 2,.O 2,.O 3,.O 4,.O 5,.O 6,.O 7]),(2,.rws 5 true),(3,.rws 3 true),(4,.rws 3 true),(5,.rws 50 true),(6,.rws 52 false),(7,.rws 3 true)]⟩
def B07:Ej:=⟨[(0,.p 1),(3,.p 103),(4,.p 104),(7,.p 107),(8,.p 108),(61,.v 2),(62,.v 4)],[(1,.box [.v 22,.v 2,.v 2]),(108,.st 38 true),(107,.st 36 true),(104,.st 40 true),(103,.ob [.v 2,.v 2,.v 2,.v 2,.v 2,.v 2,.O 2,.O 3,.O 4,.O 5,.O 6,.O 7]),(2,.rws 5 true),(3,.rws 3 true),(4,.rws 3 true),(5,.rws 50 true),(6,.rws 52 false),(7,.rws 3 true)]⟩
def B08:Ej:=⟨[(0,.p 1),(3,.p 103),(4,.p 104),(7,.p 107),(8,.p 108)],[(1,.box [.v 22,.v 2,.v 2]),(108,.st 38 true),(107,.st 36 true),(104,.st 40 true),(103,.ob [.v 2,.v 2,.v 2,.v 2,.v 2,.v 2,.O 2,.O 3,.O 4,.O 5,.O 6,.O 7]),(2,.rws 5 true),(3,.rws 3 true),(4,.rws 3 true),(5,.rws 50 true),(6,.rws 52 false),(7,.rws 3 true)]⟩
def Bai:=jn (Bhe K) 8368127 B04 [] (fun a b c d e f g h i j k l _=>Ast K l f g h i j k a c d e b) kN
def Bb5:=jn (Bhe K) 523007 B05 [] (fun a b c d e f g h i j k l m _=>Asu K m l f g h i j k a c d e b) (kC (Bai K) kN)
def Bd4:=jn (Bhe K) 32687 B06 [] (fun a b c d e f g _ _ j _ _ _ _ _ _ _ _ _ _ v w x y z a1=>Ara K g f j v w x y z a1 a c d e b) (kC (Bb5 K) kN)
def Bhf:=jn (Bhe K) 2042 B07 [] (fun a b c d e f g _ _ j _ _ _ _ _ _ _ _ _ _ v w x y z a1=>Arb K g f j v w x y z a1 a b c d e) (kC (Bd4 K) kN)
def Bjz:=jn (Bhe K) 127 B08 [] (fun a b c d e=>Asv K e a b c d) (kC (Bhf K) kN)
def Bxs:=ct (Bhe K) (Ayd K) (kC (Bjz K) kN)
def At6 (K:Nat)(a0:An):Option (Bool):=(bif (decide (a0.Bm≥0))then some (decide (a0.C9≥1))else some false)
def Br0:=ct (fd Tryz.func211 ⟨[.v 36],[.v 4],true⟩ gN [5,6]) (At6 K)
def Asw (K:Nat)(a0:List As)(a1:An):Option (Int):=((Gx K a1.Bm 0 (An7 .i64 (a0.length:Int) 1)).bind fun r1=>(bif r1 then(if(0:Int)≤a1.Bm∧a1.Bm<(a0.length:Int)then(bif (((gt a0 a1.Bm).Vi) != 1)then some (-1)else(if(0:Int)≤a1.Bm∧a1.Bm<(a0.length:Int)then(bif (((gt a0 a1.Bm).C9) != a1.C9)then some (-1)else some a1.Bm)else none))else none)else some (-1)))
def Br1:=ct (fd Tryz.func212 ⟨[.v 29,.v 36],[.v 3],true⟩ (gC (A2a K) gN) [10,11,12,19,20,21]) (Asw K)
def Alx (K:Nat)(a0:C5)(a1:An):Option (Int×Int):=((At6 K a1).bind fun r1=>(bif (!r1)then some ((-1),1)else((Asw K a0.fL a1).bind fun r2=>(bif (decide (r2<0))then some ((-1),2)else((Av3 K a0.fL r2).bind fun r3=>(bif (!r3)then some ((-1),2)else some (r2,0)))))))
def A7z:=ct (fd Tryz.func121 ⟨[.v 32,.v 36],[.v 3,.v 3],true⟩ (gC (Bjv K) (gC (Br0 K) (gC (Br1 K) gN))) [15,16]) (Alx K)
def A0q (K:Nat)(a0:C5)(a1:An):Option (Int×Int):=(bif ((a1.Bm==0)&&((a1.C9==0)&&true))then some ((-1),0)else((Alx K a0 a1).bind fun r1=>some (r1.1,r1.2)))
def Bxt:=ct (fd Tryz.func288 ⟨[.v 32,.v 36],[.v 3,.v 3],true⟩ (gC (A7z K) gN)) (A0q K)
def Awr (K:Nat)(a0:List As)(a1:Int):Option (Int):=((Ax2 K a0 a1).bind fun r1=>some (r1.length:Int))
def Br2:=ct (fd Tryz.func221 ⟨[.v 29,.v 3],[.v 3],true⟩ (gC (Bjs K) gN)) (Awr K)
def Aoz (K:Nat)(a0:C5)(a1:An):Option (Int):=((Asw K a0.fL a1).bind fun r1=>((Awr K a0.fL r1).bind fun r2=>some r2))
def A70:=ct (fd Tryz.func133 ⟨[.v 32,.v 36],[.v 3],true⟩ (gC (Br1 K) (gC (Br2 K) gN))) (Aoz K)
def Ana (K:Nat)(v2:Int)(v3:Int)(v4:Int)(v5:Int)(v6:Int)(v7:Int)(v8:Int)(v9:List Int)(v10:List Int)(v11:List Int)(v12:List As)(v13:List Az)(v14:List Int)(C1:Int->Int->Int->Int->Int->Int->Int->Int->(List Int)->(List Int)->(List Int)->(List As)->(List Az)->(List Int)->Option (Int))(v15:Int):Option (Int):=(C1 v15 (An6 .i64 v2 1) v3 v4 v5 v6 v7 v8 v9 v10 v11 v12 v13 v14)
def Ain (K:Nat):Nat->Int->Int->Int->Int->Int->Int->Int->Int->(List Int)->(List Int)->(List Int)->(List As)->(List Az)->(List Int)->Option (Int)
 |0,_,_,_,_,_,_,_,_,_,_,_,_,_,_=>none
 |n1+1,v1,v2,v3,v4,v5,v6,v7,v8,v9,v10,v11,v12,v13,v14=>(bif (decide (v2<(v12.length:Int)))then(if(0:Int)≤v2∧v2<(v12.length:Int)then(bif (((gt v12 v2).Vi)==0)then(Ana K v2 v3 v4 v5 v6 v7 v8 v9 v10 v11 v12 v13 v14 (Ain K n1) (An6 .i64 v1 1))else((Av3 K v12 v2).bind fun r16=>(bif r16 then(Ana K v2 v3 v4 v5 v6 v7 v8 v9 v10 v11 v12 v13 v14 (Ain K n1) v1)else(if(0:Int)≤v2∧v2<(v12.length:Int)then(bif (((gt v12 v2).Vi) != 3)then(if(0:Int)≤v2∧v2<(v12.length:Int)then(bif (decide (((gt v12 v2).C9)<v8))then(Ana K v2 v3 v4 v5 v6 v7 v8 v9 v10 v11 v12 v13 v14 (Ain K n1) (An6 .i64 v1 1))else(Ana K v2 v3 v4 v5 v6 v7 v8 v9 v10 v11 v12 v13 v14 (Ain K n1) v1))else none)else(Ana K v2 v3 v4 v5 v6 v7 v8 v9 v10 v11 v12 v13 v14 (Ain K n1) v1))else none))))else none)else some v1)
def A0g (K:Nat)(a0:C5):Option (Int):=(Ain K K 0 0 a0.fC.Ay a0.fC.G8 a0.fC.E6 a0.fC.Gu a0.fC.E7 a0.fC.G9 a0.fP.N7 a0.fP.Vi a0.fP.N8 a0.fL a0.fQ a0.Acy)
def Btr:=fd Tryz.func289 ⟨[.v 32],[.v 3],true⟩ (gC (Bjv K) gN) [18,19,23,24,25,32,33,34] [233]
def Bpj:Ej:=⟨[(1,.p 101),(3,.v 2),(4,.v 2)],[(101,.box [.v 2,.v 2,.v 2,.v 2,.v 2,.v 2,.v 22,.v 26,.v 26,.v 29,.v 30,.v 26])]⟩
def Bj0:=fun(C58:CT Bpj _)=>jn (Btr K) 233 Bpj [(58,ar Bpj C58)] (fun a b c d e f g h i j k l m o=>Ana K b c d e f g h i j k l m o C58 a) kN
def Bpk:=lp (Btr K) 58 Bpj [] (Ain K) (fun n=>(kC (Bj0 K _) kN))
def Bxu:=ct (Btr K) (A0g K) (kC (Bpk K K) kN)
def Asx (K:Nat)(v2:Int)(v3:List Int)(v4:List Int)(v5:List Int)(C1:(List Int)->Int->(List Int)->(List Int)->(List Int)->Option ((List Int)))(v6:List Int):Option ((List Int)):=(C1 v6 (An6 .i64 v2 1) v3 v4 v5)
def Al0 (K:Nat)(a1:Int):Nat->(List Int)->Int->(List Int)->(List Int)->(List Int)->Option ((List Int))
 |0,_,_,_,_,_=>none
 |n1+1,v1,v2,v3,v4,v5=>(bif (decide (v2<(v4.length:Int)))then(bif (decide (v2<(v5.length:Int)))then(if(0:Int)≤v2∧v2<(v4.length:Int)then(bif ((gt v4 v2)==1)then(if(0:Int)≤v2∧v2<(v5.length:Int)then(bif ((gt v5 v2)==a1)then(if(v1++([v2]:List Int)).length*8≤140737488355328∧(v1++([v2]:List Int)).length≤maxLen then(Asx K v2 v3 v4 v5 (Al0 K a1 n1) (v1++([v2]:List Int)))else none)else(Asx K v2 v3 v4 v5 (Al0 K a1 n1) v1))else none)else(Asx K v2 v3 v4 v5 (Al0 K a1 n1) v1))else none)else some v1)else some v1)
def Avd (K:Nat)(a0:Dn)(a1:Int):Option ((List Int)):=(Al0 K a1 K ([]:List Int) 0 a0.N7 a0.Vi a0.N8)
def Bts:=fd Tryz.func115 ⟨[.v 28,.v 3],[.n 26 true],true⟩ gN [12,13,27,28] [233]
def Bpl:Ej:=⟨[(1,.v 2),(2,.p 102),(5,.o 1005 3 true),(6,.v 2)],[(102,.box [.v 22,.v 26,.v 26])]⟩
def Bj1:=fun(C58:CT Bpl _)=>jn Bts 233 Bpl [(58,ar Bpl C58)] (fun a b c d e f=>Asx K c d e f (C58 a) b) kN
def Bpm:=lp Bts 58 Bpl [] (fun n a=>Al0 K a n) (fun n=>(kC (Bj1 K _) kN))
def Br3:=ct Bts (Avd K) (kC (Bpm K K) kN)
def Aqe (K:Nat)(r1:(List Int)):Nat->Int->Int->Int->Int->Int->Int->Int->Int->(List Int)->(List Int)->(List Int)->(List As)->(List Az)->(List Int)->Option (Int)
 |0,_,_,_,_,_,_,_,_,_,_,_,_,_,_=>none
 |n1+1,v2,v3,v4,v5,v6,v7,v8,v9,v10,v11,v12,v13,v14,v15=>(bif (decide (v3<(r1.length:Int)))then(if(0:Int)≤v3∧v3<(r1.length:Int)then((Avd K (Dn.mk v10 v11 v12) (gt r1 v3)).bind fun r16=>(Aqe K r1 n1 (An6 .i64 v2 (r16.length:Int)) (An6 .i64 v3 1) v4 v5 v6 v7 v8 v9 v10 v11 v12 v13 v14 v15))else none)else some v2)
def A0h (K:Nat)(a0:C5):Option (Int):=((Avb K a0).bind fun r1=>(Aqe K r1 K 0 0 a0.fC.Ay a0.fC.G8 a0.fC.E6 a0.fC.Gu a0.fC.E7 a0.fC.G9 a0.fP.N7 a0.fP.Vi a0.fP.N8 a0.fL a0.fQ a0.Acy))
def Bxv:=fd Tryz.func33 ⟨[.v 32],[.v 3],true⟩ (gC (Bjx K) (gC (Br3 K) gN))
def B09:Ej:=⟨[(1,.p 101),(3,.v 2),(4,.v 26),(5,.v 2)],[(101,.box [.v 2,.v 2,.v 2,.v 2,.v 2,.v 2,.v 22,.v 26,.v 26,.v 29,.v 30,.v 26])]⟩
def Bj2:=lp (Bxv K) 122 B09 [] (fun n a b=>Aqe K b n a) (fun n=>kN)
def Bxw:=ct (Bxv K) (A0h K) (kC (Bj2 K K) kN)
def Arx (K:Nat)(a0:C5)(a1:Int):Option (Bool):=(bif (decide (a1≥0))then(bif (decide (a1≤a0.fC.Ay))then((A0h K a0).bind fun r1=>some (decide (r1≤(An7 .i64 a0.fC.Ay a1))))else some false)else some false)
def Bj3:=ct (fd Tryz.func29 ⟨[.v 32,.v 3],[.v 4],true⟩ (gC (Bxw K) gN) [6,7,12,13,14]) (Arx K)
def Asl (K:Nat)(v2:Int)(C1:Int->Int->Option (Int))(v3:Int):Option (Int):=(C1 v3 (An6 .i64 v2 1))
def Akr (K:Nat)(a0:List As)(a1:Int):Nat->Int->Int->Option (Int)
 |0,_,_=>none
 |n1+1,v1,v2=>(bif (decide (v2<(a0.length:Int)))then(if(0:Int)≤v2∧v2<(a0.length:Int)then(bif (((gt a0 v2).Vi)==a1)then(Asl K v2 (Akr K a0 a1 n1) (An6 .i64 v1 1))else(Asl K v2 (Akr K a0 a1 n1) v1))else none)else some v1)
def Aqf (K:Nat)(a0:List As)(a1:Int):Option (Int):=(Akr K a0 a1 K 0 0)
def Btt:=fd Tryz.func202 ⟨[.v 29,.v 3],[.v 3],true⟩ gN [] [233]
def Bpn:Ej:=⟨[(0,.v 29),(1,.v 2),(5,.v 2),(6,.v 2)],[]⟩
def Bj4:=fun(C58:CT Bpn _)=>jn Btt 233 Bpn [(58,ar Bpn C58)] (fun a b c d=>Asl K d (C58 a b) c) kN
def Bpo:=lp Btt 58 Bpn [] (fun n a b=>Akr K a b n) (fun n=>(kC (Bj4 K _) kN))
def Br4:=ct Btt (Aqf K) (kC (Bpo K K) kN)
def Ary (K:Nat)(a1:Int)(a2:Int):Nat->Int->(List Int)->(List Int)->(List Int)->Option (Bool)
 |0,_,_,_,_=>none
 |n1+1,v1,v2,v3,v4=>(bif (decide (v1<(An6 .i64 a1 a2)))then(if(0:Int)≤v1∧v1<(v3.length:Int)then(bif ((gt v3 v1) != 0)then some false else(Ary K a1 a2 n1 (An6 .i64 v1 1) v2 v3 v4))else none)else some true)
def Aws (K:Nat)(a0:Dn)(a1:Int)(a2:Int):Option (Bool):=(bif (decide (a1<0))then some false else(bif (decide (a2<1))then some false else(bif (decide (a1>(a0.Vi.length:Int)))then some false else(bif (decide (a2>(An7 .i64 (a0.Vi.length:Int) a1)))then some false else(Ary K a1 a2 K a1 a0.N7 a0.Vi a0.N8)))))
def Bxx:=fd Tryz.func311 ⟨[.v 28,.v 3,.v 3],[.v 4],true⟩ gN [9,10,12,13,14,19,20,21]
def B1a:Ej:=⟨[(1,.v 2),(2,.v 2),(3,.p 103),(7,.v 2)],[(103,.box [.v 22,.v 26,.v 26])]⟩
def Bpp:=lp Bxx 58 B1a [] (fun n a b=>Ary K a b n) (fun n=>kN)
def Br5:=ct Bxx (Aws K) (kC (Bpp K K) kN)
def Ar9 (K:Nat)(a1:Int):Nat->Int->(List Int)->(List Int)->(List Int)->Option (Int)
 |0,_,_,_,_=>none
 |n1+1,v1,v2,v3,v4=>(bif (decide (v1<(v3.length:Int)))then((Aws K (Dn.mk v2 v3 v4) v1 a1).bind fun r5=>(bif r5 then some v1 else(Ar9 K a1 n1 (An6 .i64 v1 1) v2 v3 v4)))else some (-1))
def Aw6 (K:Nat)(a0:Dn)(a1:Int):Option (Int):=(Ar9 K a1 K 0 a0.N7 a0.Vi a0.N8)
def Bxy:=fd Tryz.func310 ⟨[.v 28,.v 3],[.v 3],true⟩ (gC (Br5 K) gN)
def B1b:Ej:=⟨[(1,.v 2),(2,.p 102),(5,.v 2)],[(102,.box [.v 22,.v 26,.v 26])]⟩
def Bpq:=lp (Bxy K) 26 B1b [] (fun n a=>Ar9 K a n) (fun n=>kN)
def Br6:=ct (Bxy K) (Aw6 K) (kC (Bpq K K) kN)
def A2b (K:Nat)(a0:Az):Option (Int):=(bif (decide ((a0.Fi.length:Int)>0))then some 1 else(bif (decide ((a0.Ay.length:Int)>0))then some 2 else(bif (a0.Ef != 0)then some 3 else some 4)))
def Bxz:=ct (fd Tryz.func249 ⟨[.v 52],[.v 3],true⟩ gN) (A2b K)
def Azt (K:Nat)(a0:C5):Option (C5):=(if(0:Int)≤0∧0<(a0.fQ.length:Int)then(if(0:Int)≤(An7 .i64 (((gt a0.fQ 0).Fi).length:Int) 1)∧(An7 .i64 (((gt a0.fQ 0).Fi).length:Int) 1)<(((gt a0.fQ 0).Fi).length:Int)then(if(a0.Acy++([(gt ((gt a0.fQ 0).Fi) (An7 .i64 (((gt a0.fQ 0).Fi).length:Int) 1))]:List Int)).length*8≤140737488355328∧(a0.Acy++([(gt ((gt a0.fQ 0).Fi) (An7 .i64 (((gt a0.fQ 0).Fi).length:Int) 1))]:List Int)).length≤maxLen then(if(0:Int)≤0∧0≤(An7 .i64 (((gt a0.fQ 0).Fi).length:Int) 1)∧(An7 .i64 (((gt a0.fQ 0).Fi).length:Int) 1)≤(((gt a0.fQ 0).Fi).length:Int)then(if(([]:List Int)++((((gt a0.fQ 0).Fi).drop (0:Int).toNat).take ((An7 .i64 (((gt a0.fQ 0).Fi).length:Int) 1) - 0).toNat)).length*8≤140737488355328∧(([]:List Int)++((((gt a0.fQ 0).Fi).drop (0:Int).toNat).take ((An7 .i64 (((gt a0.fQ 0).Fi).length:Int) 1) - 0).toNat)).length≤maxLen then some (C5.mk a0.fC a0.fP a0.fL (a0.fQ.set (0:Int).toNat (Az.mk ((gt a0.fQ 0).Bm) ((gt a0.fQ 0).Ef) (([]:List Int)++((((gt a0.fQ 0).Fi).drop (0:Int).toNat).take ((An7 .i64 (((gt a0.fQ 0).Fi).length:Int) 1) - 0).toNat)) ((gt a0.fQ 0).Ay) ((gt a0.fQ 0).Wz))) (a0.Acy++([(gt ((gt a0.fQ 0).Fi) (An7 .i64 (((gt a0.fQ 0).Fi).length:Int) 1))]:List Int)))else none)else none)else none)else none)else none)
def Bx0:=ct (fd Tryz.func250 ⟨[.b 32 false],[],false⟩ gN [] [] [(0,[.take 1 10 5026]),(2,[.take 1 11 5027])]) (Azt K)
def Aq4 (K:Nat)(a0:Dn):Option (Dn):=(if(([]:List Int)++a0.N7).length*1≤140737488355328∧(([]:List Int)++a0.N7).length≤maxLen then(if(([]:List Int)++a0.Vi).length*8≤140737488355328∧(([]:List Int)++a0.Vi).length≤maxLen then(if(([]:List Int)++a0.N8).length*8≤140737488355328∧(([]:List Int)++a0.N8).length≤maxLen then some (Dn.mk (([]:List Int)++a0.N7) (([]:List Int)++a0.Vi) (([]:List Int)++a0.N8))else none)else none)else none)
def Bf8:=ct (fd Tryz.func157 ⟨[.v 28],[.n 28 true],true⟩ gN) (Aq4 K)
def Arz (K:Nat)(a0:List Int):Nat->Int->Option (Bool)
 |0,_=>none
 |n1+1,v1=>(bif (decide (v1<(a0.length:Int)))then(if(0:Int)≤v1∧v1<(a0.length:Int)then(bif ((gt a0 v1) != 0)then some false else(Arz K a0 n1 (An6 .i64 v1 1)))else none)else some true)
def Asj (K:Nat)(a0:List Int):Option (Bool):=(Arz K a0 K 0)
def Bx1:=fd Tryz.func192 ⟨[.v 22],[.v 4],true⟩ gN
def B1c:Ej:=⟨[(0,.v 22),(3,.v 2)],[]⟩
def Bpr:=lp Bx1 26 B1c [] (fun n a=>Arz K a n) (fun n=>kN)
def Bf9:=ct Bx1 (Asj K) (kC (Bpr K K) kN)
def Aw7 (K:Nat)(v3:Int)(v4:List Int)(v5:List Int)(v6:List Int)(C1:Int->(List Int)->(List Int)->(List Int)->Option (Bool)):Option (Bool):=(C1 (An6 .i64 v3 1) v4 v5 v6)
def Ar0 (K:Nat)(a0:Ea)(v3:Int)(v4:List Int)(v5:List Int)(v6:List Int)(C1:Int->(List Int)->(List Int)->(List Int)->Option (Bool)):Option (Bool):=(if(0:Int)≤v3∧v3<(v5.length:Int)then(bif ((gt v5 v3)==0)then(if(0:Int)≤(An8 .i64 v3 a0.G8)∧(An8 .i64 v3 a0.G8)≤(An8 .i64 (An6 .i64 v3 1) a0.G8)∧(An8 .i64 (An6 .i64 v3 1) a0.G8)≤(v4.length:Int)then((Asj K ((v4.drop (An8 .i64 v3 a0.G8).toNat).take ((An8 .i64 (An6 .i64 v3 1) a0.G8) - (An8 .i64 v3 a0.G8)).toNat)).bind fun r9=>(bif (!r9)then some false else(Aw7 K v3 v4 v5 v6 (C1))))else none)else(Aw7 K v3 v4 v5 v6 (C1)))else none)
def Aly (K:Nat)(a0:Ea):Nat->Int->(List Int)->(List Int)->(List Int)->Option (Bool)
 |0,_,_,_,_=>none
 |n1+1,v3,v4,v5,v6=>(bif (decide (v3<a0.Ay))then(if(0:Int)≤v3∧v3<(v5.length:Int)then((Gx K (gt v5 v3) 0 2).bind fun r7=>(bif (!r7)then some false else(if(0:Int)≤v3∧v3<(v5.length:Int)then(bif ((gt v5 v3)==1)then(if(0:Int)≤v3∧v3<(v6.length:Int)then((Gx K (gt v6 v3) 0 (An7 .i64 a0.E6 1)).bind fun r8=>(bif r8 then(if(0:Int)≤v3∧v3<(v5.length:Int)then(bif ((gt v5 v3) != 1)then(if(0:Int)≤v3∧v3<(v6.length:Int)then(bif ((gt v6 v3) != (-1))then some false else(Ar0 K a0 v3 v4 v5 v6 (Aly K a0 n1)))else none)else(Ar0 K a0 v3 v4 v5 v6 (Aly K a0 n1)))else none)else some false))else none)else(if(0:Int)≤v3∧v3<(v5.length:Int)then(bif ((gt v5 v3) != 1)then(if(0:Int)≤v3∧v3<(v6.length:Int)then(bif ((gt v6 v3) != (-1))then some false else(Ar0 K a0 v3 v4 v5 v6 (Aly K a0 n1)))else none)else(Ar0 K a0 v3 v4 v5 v6 (Aly K a0 n1)))else none))else none)))else none)else some true)
def Awt (K:Nat)(a0:Ea)(a1:Dn):Option (Bool):=((Ani K a0).bind fun r1=>(bif r1 then((Arf K a0).bind fun r2=>(bif ((a1.N7.length:Int) != r2)then some false else(bif ((a1.Vi.length:Int) != a0.Ay)then some false else(bif ((a1.N8.length:Int) != a0.Ay)then some false else(Aly K a0 K 0 a1.N7 a1.Vi a1.N8)))))else some false))
def Bps:=fd Tryz.func98 ⟨[.v 25,.v 28],[.v 4],true⟩ (gC (Bb3 K) (gC (A2a K) (gC (Bpd K) (gC (Bf9 K) gN)))) [7,8,9,15,16,17,23,24,25,51,52,61,62,63,64,70,71,85,86] [233,1865]
def Bd5:Ej:=⟨[(2,.p 102),(3,.p 103),(5,.v 2)],[(103,.box [.v 22,.v 26,.v 26]),(102,.st 25 true)]⟩
def Bj5:=fun(C58:CT Bd5 _)=>jn (Bps K) 233 Bd5 [(58,ar Bd5 C58)] (fun a b c d e=>Aw7 K a b c d (fun v3 v4 v5 v6=>C58 v3 v4 v5 v6 e)) kN
def Bhg:=fun(C58:CT Bd5 _)=>jn (Bps K) 1865 Bd5 [(58,ar Bd5 C58)] (fun a b c d e=>Ar0 K e a b c d (fun v3 v4 v5 v6=>C58 v3 v4 v5 v6 e)) (kC (Bj5 K _) kN)
def Bpt:=lp (Bps K) 58 Bd5 [] (fun n a b c d e=>Aly K e n a b c d) (fun n=>(kC (Bhg K _) kN))
def Br7:=ct (Bps K) (Awt K) (kC (Bpt K K) kN)
def A0r (K:Nat)(a0:Int)(a1:Int):Option (Int):=(bif (decide (a1<a0))then some a1 else some a0)
def Bx2:=ct (fd Tryz.func306 ⟨[.v 3,.v 3],[.v 3],true⟩ gN) (A0r K)
def Awu (K:Nat)(a0:List Int)(a1:Int)(a2:Int):Nat->(List Int)->Int->Option ((List Int))
 |0,_,_=>none
 |n1+1,v1,v2=>(bif (decide (v2<(a0.length:Int)))then(bif (decide ((An7 .i64 v2 a1)<a2))then(if(0:Int)≤v2∧v2<(v1.length:Int)then(Awu K a0 a1 a2 n1 (v1.set v2.toNat 0) (An6 .i64 v2 1))else none)else some v1)else some v1)
def A1s (K:Nat)(a0:List Int)(a1:Int)(a2:Int):Option ((List Int)):=(if(([]:List Int)++a0).length*1≤140737488355328∧(([]:List Int)++a0).length≤maxLen then(bif (decide (a1<0))then some (([]:List Int)++a0)else(bif (decide (a2<0))then some (([]:List Int)++a0)else(Awu K a0 a1 a2 K (([]:List Int)++a0) a1)))else none)
def Bx3:=fd Tryz.func307 ⟨[.v 22,.v 3,.v 3],[.n 22 true],true⟩ gN [13,14,23,24]
def B1d:Ej:=⟨[(0,.v 22),(1,.v 2),(2,.v 2),(7,.o 1007 5 true),(8,.v 2)],[]⟩
def Bj6:=lp Bx3 122 B1d [] (fun n a b c=>Awu K a b c n) (fun n=>kN)
def Bx4:=ct Bx3 (A1s K) (kC (Bj6 K K) kN)
def Aw8 (K:Nat)(a0:Ea)(a1:Dn)(a2:Int)(a3:Int):Option (Dn×Bool):=((Aq4 K a1).bind fun r1=>((Awt K a0 a1).bind fun r2=>(bif r2 then((Gx K a2 0 (An7 .i64 a0.Ay 1)).bind fun r3=>(bif r3 then(if(0:Int)≤a2∧a2<(a1.Vi.length:Int)then(bif ((gt a1.Vi a2) != 2)then some (r1,false)else((Gx K a3 0 (An7 .i64 a0.G8 1)).bind fun r4=>(bif (!r4)then some (r1,false)else((A0r K (An6 .i64 a3 a0.E7) a0.G8).bind fun r5=>((A1s K a1.N7 (An6 .i64 (An8 .i64 a2 a0.G8) a3) (An7 .i64 r5 a3)).bind fun r6=>(bif (decide (r5<a0.G8))then some ((Dn.mk r6 r1.Vi r1.N8),false)else(if(0:Int)≤(An8 .i64 a2 a0.G8)∧(An8 .i64 a2 a0.G8)≤(An8 .i64 (An6 .i64 a2 1) a0.G8)∧(An8 .i64 (An6 .i64 a2 1) a0.G8)≤(r6.length:Int)then((Asj K ((r6.drop (An8 .i64 a2 a0.G8).toNat).take ((An8 .i64 (An6 .i64 a2 1) a0.G8) - (An8 .i64 a2 a0.G8)).toNat)).bind fun r7=>(bif (!r7)then((Aq4 K a1).bind fun r8=>some (r8,false))else(if(0:Int)≤a2∧a2<(r1.Vi.length:Int)then some ((Dn.mk r6 (r1.Vi.set a2.toNat 0) r1.N8),true)else none)))else none)))))))else none)else some (r1,false)))else some (r1,false))))
def Bx5:=ct (fd Tryz.func284 ⟨[.v 25,.v 28,.v 3,.v 3],[.n 28 true,.v 4],true⟩ (gC (Br7 K) (gC (A2a K) (gC (Bf8 K) (gC (Bf9 K) (gC (Bx2 K) (gC (Bx4 K) gN)))))) [16,17,18,23,24,25,26,32,33,34]) (Aw8 K)
def Aye (K:Nat)(a0:C5):Option (C5):=(if(0:Int)≤0∧0<(a0.fQ.length:Int)then(if(0:Int)≤0∧0<(((gt a0.fQ 0).Ay).length:Int)then((Aw8 K a0.fC a0.fP (gt ((gt a0.fQ 0).Ay) 0) ((gt a0.fQ 0).Wz)).bind fun r1=>(bif r1.2 then(if(0:Int)≤1∧1≤(((gt a0.fQ 0).Ay).length:Int)∧(((gt a0.fQ 0).Ay).length:Int)≤(((gt a0.fQ 0).Ay).length:Int)then(if(([]:List Int)++((((gt a0.fQ 0).Ay).drop (1:Int).toNat).take ((((gt a0.fQ 0).Ay).length:Int) - 1).toNat)).length*8≤140737488355328∧(([]:List Int)++((((gt a0.fQ 0).Ay).drop (1:Int).toNat).take ((((gt a0.fQ 0).Ay).length:Int) - 1).toNat)).length≤maxLen then some (C5.mk a0.fC r1.1 a0.fL (a0.fQ.set (0:Int).toNat (Az.mk ((gt a0.fQ 0).Bm) ((gt a0.fQ 0).Ef) ((gt a0.fQ 0).Fi) (([]:List Int)++((((gt a0.fQ 0).Ay).drop (1:Int).toNat).take ((((gt a0.fQ 0).Ay).length:Int) - 1).toNat)) 0)) a0.Acy)else none)else none)else some (C5.mk a0.fC r1.1 a0.fL (a0.fQ.set (0:Int).toNat (Az.mk ((gt a0.fQ 0).Bm) ((gt a0.fQ 0).Ef) ((gt a0.fQ 0).Fi) ((gt a0.fQ 0).Ay) (An6 .i64 ((gt a0.fQ 0).Wz) a0.fC.E7))) a0.Acy)))else none)else none)
def Bx6:=ct (fd Tryz.func251 ⟨[.b 32 false],[],false⟩ (gC (Bx5 K) gN) [] [] [(0,[.take 1 10 5026]),(1,[.take 1 6 5022,.take 1 7 5023,.take 1 8 5024])]) (Aye K)
def Anj (K:Nat)(a0:As):Option (As):=(if(([]:List Int)++a0.Ay).length*8≤140737488355328∧(([]:List Int)++a0.Ay).length≤maxLen then(if(([]:List Bc)++a0.F6).length*24≤140737488355328∧(([]:List Bc)++a0.F6).length≤maxLen then(if(([]:List Int)++a0.Fi).length*8≤140737488355328∧(([]:List Int)++a0.Fi).length≤maxLen then some (As.mk a0.Vi a0.C9 a0.Sl a0.fUp a0.Sm a0.Ef a0.Sn a0.So (([]:List Int)++a0.Ay) a0.Acx a0.Sq (([]:List Bc)++a0.F6) (([]:List Int)++a0.Fi))else none)else none)else none)
def A9w:=ct (fd Tryz.func233 ⟨[.v 50],[.n 50 false],true⟩ gN) (Anj K)
def Asy (K:Nat)(v3:Dn)(v4:Dn):Option (Dn):=some v3
def A0s (K:Nat)(a0:Dn)(a1:Int):Option (Dn):=((Aq4 K a0).bind fun r1=>((Gx K a1 0 (An7 .i64 (a0.Vi.length:Int) 1)).bind fun r2=>(bif r2 then(bif (decide (a1<(a0.N8.length:Int)))then(if(0:Int)≤a1∧a1<(a0.Vi.length:Int)then(bif ((gt a0.Vi a1)==1)then(if(0:Int)≤a1∧a1<(r1.Vi.length:Int)then(if(0:Int)≤a1∧a1<(r1.N8.length:Int)then(Asy K (Dn.mk r1.N7 (r1.Vi.set a1.toNat 2) (r1.N8.set a1.toNat (-1))) (Dn.mk [] [] []))else none)else none)else(Asy K r1 (Dn.mk [] [] [])))else none)else(Asy K r1 (Dn.mk [] [] [])))else(Asy K r1 (Dn.mk [] [] [])))))
def Bx7:=fd Tryz.func234 ⟨[.v 28,.v 3],[.n 28 true],true⟩ (gC (A2a K) (gC (Bf8 K) gN)) [13,14,19,20,21] [7] [(5,[.take 105 0 6680,.take 105 1 6681,.take 105 2 6682])]
def Bx8:Ej:=⟨[(4,.p 104),(5,.p 105)],[(105,.st 28 true),(104,.st 28 true)]⟩
def Btu:=jn (Bx7 K) 7 Bx8 [] (Asy K) kN
def Bx9:=ct (Bx7 K) (A0s K) (kC (Btu K) kN)
def Ai0 (K:Nat)(a1:List Int):Nat->Int->Int->Int->Int->Int->Int->Int->(List Int)->(List Int)->(List Int)->(List As)->(List Az)->(List Int)->Option (C5)
 |0,_,_,_,_,_,_,_,_,_,_,_,_,_=>none
 |n1+1,v1,v2,v3,v4,v5,v6,v7,v8,v9,v10,v11,v12,v13=>(bif (decide (v1<(a1.length:Int)))then(if(0:Int)≤v1∧v1<(a1.length:Int)then((A0s K (Dn.mk v8 v9 v10) (gt a1 v1)).bind fun r14=>(Ai0 K a1 n1 (An6 .i64 v1 1) v2 v3 v4 v5 v6 v7 r14.N7 r14.Vi r14.N8 v11 v12 v13))else none)else some (C5.mk (Ea.mk v2 v3 v4 v5 v6 v7) (Dn.mk v8 v9 v10) v11 v12 v13))
def Aq5 (K:Nat)(a0:C5)(a1:List Int):Option (C5):=(Ai0 K a1 K 0 a0.fC.Ay a0.fC.G8 a0.fC.E6 a0.fC.Gu a0.fC.E7 a0.fC.G9 a0.fP.N7 a0.fP.Vi a0.fP.N8 a0.fL a0.fQ a0.Acy)
def Bya:=fd Tryz.func161 ⟨[.b 32 false,.v 26],[],false⟩ (gC (Bx9 K) gN) [] [] [(3,[.take 1 6 5022,.take 1 7 5023,.take 1 8 5024])]
def B1e:Ej:=⟨[(0,.p 1),(1,.v 26),(4,.v 2)],[(1,.box [.v 2,.v 2,.v 2,.v 2,.v 2,.v 2,.T 5 true,.T 3 true,.T 3 true,.T 50 true,.T 52 false,.T 3 true])]⟩
def Btv:=lp (Bya K) 6 B1e [] (fun n a=>Ai0 K a n) (fun n=>kN)
def Bj7:=ct (Bya K) (Aq5 K) (kC (Btv K K) kN)
def Az9 (K:Nat)(a0:As):Option (As):=some (As.mk 2 a0.C9 0 0 0 0 0 0 [] 0 0 [] [])
def Br8:=ct (fd Tryz.func163 ⟨[.v 50],[.n 50 false],true⟩ gN) (Az9 K)
def Asz (K:Nat)(a0:As)(a1:Int):Option (Az):=(if(([]:List Int)++a0.Fi).length*8≤140737488355328∧(([]:List Int)++a0.Fi).length≤maxLen then(if(([]:List Int)++a0.Ay).length*8≤140737488355328∧(([]:List Int)++a0.Ay).length≤maxLen then some (Az.mk a1 a0.Ef (([]:List Int)++a0.Fi) (([]:List Int)++a0.Ay) 0)else none)else none)
def Bj8:=ct (fd Tryz.func160 ⟨[.v 50,.v 3],[.n 52 true],true⟩ gN) (Asz K)
def A0i (K:Nat)(a0:As)(a1:Int):Option (Az):=(if(([]:List Int)++a0.Fi).length*8≤140737488355328∧(([]:List Int)++a0.Fi).length≤maxLen then(if(([]:List Int)++a0.Ay).length*8≤140737488355328∧(([]:List Int)++a0.Ay).length≤maxLen then some (Az.mk a1 a0.Ef (([]:List Int)++a0.Fi) (([]:List Int)++a0.Ay) 0)else none)else none)
def Byb:=ct (fd Tryz.func160 ⟨[.v 50,.v 3],[.v 52],false⟩ gN) (A0i K)
def As0 (K:Nat)(r1:As)(v4:Int)(v5:Int)(v6:Int)(v7:Int)(v8:Int)(v9:Int)(v10:Int)(v11:List Int)(v12:List Int)(v13:List Int)(v14:List As)(v15:List Az)(v16:List Int):Option (C5):=((Aq5 K (C5.mk (Ea.mk v5 v6 v7 v8 v9 v10) (Dn.mk v11 v12 v13) v14 v15 v16) r1.Ay).bind fun r17=>((Az9 K r1).bind fun r18=>(if(0:Int)≤v4∧v4<(r17.fL.length:Int)then((A0i K r1 (An6 .i64 v4 1)).bind fun r19=>(if(([r19]:List Az)++r17.fQ).length*72≤140737488355328∧(([r19]:List Az)++r17.fQ).length≤maxLen then some (C5.mk r17.fC r17.fP (r17.fL.set v4.toNat r18) (([r19]:List Az)++r17.fQ) r17.Acy)else none))else none)))
def Ayf (K:Nat)(a0:C5):Option (C5):=(if(0:Int)≤0∧0<(a0.fQ.length:Int)then(if(0:Int)≤(An7 .i64 ((gt a0.fQ 0).Ef) 1)∧(An7 .i64 ((gt a0.fQ 0).Ef) 1)<(a0.fL.length:Int)then(if(0:Int)≤(An7 .i64 ((gt a0.fQ 0).Ef) 1)∧(An7 .i64 ((gt a0.fQ 0).Ef) 1)<(a0.fL.length:Int)then((Anj K (gt a0.fL (An7 .i64 ((gt a0.fQ 0).Ef) 1))).bind fun r1=>(if(0:Int)≤0∧0<(a0.fQ.length:Int)then((Ad8 K a0.fL r1.Sn).bind fun r2=>(bif r2 then(if(0:Int)≤(An7 .i64 r1.Sn 1)∧(An7 .i64 r1.Sn 1)<(a0.fL.length:Int)then(Aqk (a0.fL.set (An7 .i64 r1.Sn 1).toNat (As.mk ((gt a0.fL (An7 .i64 r1.Sn 1)).Vi) ((gt a0.fL (An7 .i64 r1.Sn 1)).C9) ((gt a0.fL (An7 .i64 r1.Sn 1)).Sl) ((gt a0.fL (An7 .i64 r1.Sn 1)).fUp) ((gt a0.fL (An7 .i64 r1.Sn 1)).Sm) ((gt a0.fL (An7 .i64 r1.Sn 1)).Ef) ((gt a0.fL (An7 .i64 r1.Sn 1)).Sn) 0 ((gt a0.fL (An7 .i64 r1.Sn 1)).Ay) ((gt a0.fL (An7 .i64 r1.Sn 1)).Acx) ((gt a0.fL (An7 .i64 r1.Sn 1)).Sq) ((gt a0.fL (An7 .i64 r1.Sn 1)).F6) ((gt a0.fL (An7 .i64 r1.Sn 1)).Fi))) fun v3=>(As0 K r1 (An7 .i64 ((gt a0.fQ 0).Ef) 1) a0.fC.Ay a0.fC.G8 a0.fC.E6 a0.fC.Gu a0.fC.E7 a0.fC.G9 a0.fP.N7 a0.fP.Vi a0.fP.N8 v3 (a0.fQ.set (0:Int).toNat (Az.mk ((gt a0.fQ 0).Bm) r1.Sn ((gt a0.fQ 0).Fi) ((gt a0.fQ 0).Ay) ((gt a0.fQ 0).Wz))) a0.Acy))else none)else(As0 K r1 (An7 .i64 ((gt a0.fQ 0).Ef) 1) a0.fC.Ay a0.fC.G8 a0.fC.E6 a0.fC.Gu a0.fC.E7 a0.fC.G9 a0.fP.N7 a0.fP.Vi a0.fP.N8 a0.fL (a0.fQ.set (0:Int).toNat (Az.mk ((gt a0.fQ 0).Bm) r1.Sn ((gt a0.fQ 0).Fi) ((gt a0.fQ 0).Ay) ((gt a0.fQ 0).Wz))) a0.Acy)))else none))else none)else none)else none)
def Byc:=fo Tryz.func252 ⟨[.b 32 false],[],false⟩ (gC (Bj7 K) (gC (Br8 K) (gC (A6z K) (gC (A9w K) gN)))) (oC (d:=60) (gC (Byb K) gN) oN) [] [15] [(0,[.take 1 10 5026]),(1,[.take 1 9 5025,.opn 5025 (.tmp 2),.takeE 5025 11 41611,.takeE 5025 12 41612]),(3,[.put 5025]),(5,[.take 103 8 6656,.frz 6656]),(6,[.take 1 9 5025,.take 103 11 6659,.take 103 12 6660]),(7,[.take 1 10 5026,.frz 6659,.frz 6660])]
def B1f:Ej:=⟨[(0,.p 1),(2,.v 2),(3,.p 103)],[(1,.box [.v 2,.v 2,.v 2,.v 2,.v 2,.v 2,.T 5 true,.T 3 true,.T 3 true,.T 50 true,.T 52 false,.T 3 true]),(103,.st 50 false)]⟩
def Bpu:=jn (Byc K) 15 B1f [] (fun a b c d e f g h i j k l m o=>As0 K o a b c d e f g h i j k l m) kN
def Byd:=ct (Byc K) (Ayf K) (kC (Bpu K) kN)
def Arg (K:Nat)(a0:List As):Nat->(List As)->Int->Option ((List As))
 |0,_,_=>none
 |n1+1,v1,v2=>(bif (decide (v2<(a0.length:Int)))then(if(0:Int)≤v2∧v2<(a0.length:Int)then((Anj K (gt a0 v2)).bind fun r3=>(if(v1++[r3]).length*152≤140737488355328∧(v1++[r3]).length≤maxLen then(Arg K a0 n1 (v1++[r3]) (An6 .i64 v2 1))else none))else none)else some v1)
def Atx (K:Nat)(a0:List As):Option ((List As)):=(Arg K a0 K ([]:List As) 0)
def Bye:=fd Tryz.func158 ⟨[.v 29],[.n 29 true],false⟩ (gC (A9w K) gN) (post:=[(20,[.put 3020])])
def B1g:Ej:=⟨[(0,.v 29),(3,.o 1003 50 true),(4,.v 2)],[]⟩
def Bpv:=lp (Bye K) 58 B1g [] (fun n a=>Arg K a n) (fun n=>kN)
def Bga:=ct (Bye K) (Atx K) (kC (Bpv K K) kN)
def Ayg (K:Nat)(v3:List As):Option ((List As)):=some v3
def A0t (K:Nat)(a0:List As)(a1:Int)(a2:Int):Option ((List As)):=((Atx K a0).bind fun r1=>((Gx K a1 0 (An7 .i64 (a0.length:Int) 1)).bind fun r2=>(bif (!r2)then some r1 else(if(0:Int)≤a1∧a1<(a0.length:Int)then(bif (decide (((gt a0 a1).C9)≥a2))then(if(0:Int)≤a1∧a1<(r1.length:Int)then(if(0:Int)≤a1∧a1<(a0.length:Int)then(if(0:Int)≤a1∧a1<(r1.length:Int)then(Ayg K (r1.set a1.toNat (As.mk 3 ((gt a0 a1).C9) 0 0 0 0 0 0 [] 0 0 [] [])))else none)else none)else none)else(if(0:Int)≤a1∧a1<(a0.length:Int)then((Ak0 K (An6 .i64 ((gt a0 a1).C9) 1)).bind fun r4=>(if(0:Int)≤a1∧a1<(r1.length:Int)then(Ayg K (r1.set a1.toNat r4))else none))else none))else none))))
def Byf:=fd Tryz.func253 ⟨[.v 29,.v 3,.v 3],[.n 29 true],false⟩ (gC (A2a K) (gC (Bga K) (gC (Bb4 K) gN))) [] [15] [(5,[.opn 1007 (.tmp 1)])]
def Byg:Ej:=⟨[(7,.o 1007 50 true)],[]⟩
def Bpw:=jn (Byf K) 15 Byg [] (Ayg K) kN
def Byh:=ct (Byf K) (A0t K) (kC (Bpw K) kN)
def As1 (K:Nat)(v6:Int)(v7:Int)(v8:Int)(v9:Int)(v10:Int)(v11:Int)(v12:List Int)(v13:List Int)(v14:List Int)(v15:List As)(v16:List Az)(v17:List Int):Option (C5):=(if(0:Int)≤1∧1≤(v16.length:Int)∧(v16.length:Int)≤(v16.length:Int)then(if(([]:List Az)++((v16.drop (1:Int).toNat).take ((v16.length:Int) - 1).toNat)).length*72≤140737488355328∧(([]:List Az)++((v16.drop (1:Int).toNat).take ((v16.length:Int) - 1).toNat)).length≤maxLen then some (C5.mk (Ea.mk v6 v7 v8 v9 v10 v11) (Dn.mk v12 v13 v14) v15 (([]:List Az)++((v16.drop (1:Int).toNat).take ((v16.length:Int) - 1).toNat)) v17)else none)else none)
def Ave (K:Nat)(a0:C5):Option (C5):=(if(0:Int)≤0∧0<(a0.fQ.length:Int)then((A2b K (gt a0.fQ 0)).bind fun r1=>(bif (r1==1)then((Azt K a0).bind fun r2=>some r2)else(bif (r1==2)then((Aye K a0).bind fun r3=>some r3)else(bif (r1==3)then((Ayf K a0).bind fun r4=>some r4)else(if(0:Int)≤0∧0<(a0.fQ.length:Int)then(bif (((gt a0.fQ 0).Bm) != 0)then(if(0:Int)≤0∧0<(a0.fQ.length:Int)then((A0t K a0.fL (An7 .i64 ((gt a0.fQ 0).Bm) 1) a0.fC.G9).bind fun r5=>(As1 K a0.fC.Ay a0.fC.G8 a0.fC.E6 a0.fC.Gu a0.fC.E7 a0.fC.G9 a0.fP.N7 a0.fP.Vi a0.fP.N8 r5 a0.fQ a0.Acy))else none)else(As1 K a0.fC.Ay a0.fC.G8 a0.fC.E6 a0.fC.Gu a0.fC.E7 a0.fC.G9 a0.fP.N7 a0.fP.Vi a0.fP.N8 a0.fL a0.fQ a0.Acy))else none)))))else none)
def Byi:=fd Tryz.func186 ⟨[.b 32 false],[],false⟩ (gC (Bxz K) (gC (Bx0 K) (gC (Bx6 K) (gC (Byd K) (gC (Byh K) gN))))) [] [447] [(0,[.take 1 10 5026]),(2,[.take 1 9 5025,.frz 5025]),(3,[.take 1 10 5026]),(5,[.put 1]),(7,[.put 1]),(9,[.put 1])] [(39,[.shal 3039])]
def B1h:Ej:=⟨[(0,.p 1)],[(1,.box [.v 2,.v 2,.v 2,.v 2,.v 2,.v 2,.T 5 true,.T 3 true,.T 3 true,.T 50 true,.T 52 false,.T 3 true])]⟩
def Bj9:=jn (Byi K) 447 B1h [] (As1 K) kN
def Br9:=ct (Byi K) (Ave K) (kC (Bj9 K) kN)
def At7 (K:Nat)(v1:Int)(v2:Int)(v3:Int)(v4:Int)(v5:Int)(v6:Int)(v7:Int)(v8:List Int)(v9:List Int)(v10:List Int)(v11:List As)(v12:List Az)(v13:List Int)(C1:Int->Int->Int->Int->Int->Int->Int->(List Int)->(List Int)->(List Int)->(List As)->(List Az)->(List Int)->Option (Int×C5)):Option (Int×C5):=((Ave K (C5.mk (Ea.mk v2 v3 v4 v5 v6 v7) (Dn.mk v8 v9 v10) v11 v12 v13)).bind fun r15=>(C1 (An6 .i64 v1 1) r15.fC.Ay r15.fC.G8 r15.fC.E6 r15.fC.Gu r15.fC.E7 r15.fC.G9 r15.fP.N7 r15.fP.Vi r15.fP.N8 r15.fL r15.fQ r15.Acy))
def Aql (K:Nat)(a1:Int)(a2:Int):Nat->Int->Int->Int->Int->Int->Int->Int->(List Int)->(List Int)->(List Int)->(List As)->(List Az)->(List Int)->Option (Int×C5)
 |0,_,_,_,_,_,_,_,_,_,_,_,_,_=>none
 |n1+1,v1,v2,v3,v4,v5,v6,v7,v8,v9,v10,v11,v12,v13=>(bif (decide ((v12.length:Int)>0))then((Aqf K v11 0).bind fun r14=>(bif (decide (r14<a1))then(At7 K v1 v2 v3 v4 v5 v6 v7 v8 v9 v10 v11 v12 v13 (Aql K a1 a2 n1))else(bif (decide (a2>0))then((Aw6 K (Dn.mk v8 v9 v10) a2).bind fun r16=>(bif (decide (r16<0))then(At7 K v1 v2 v3 v4 v5 v6 v7 v8 v9 v10 v11 v12 v13 (Aql K a1 a2 n1))else some (v1,(C5.mk (Ea.mk v2 v3 v4 v5 v6 v7) (Dn.mk v8 v9 v10) v11 v12 v13))))else some (v1,(C5.mk (Ea.mk v2 v3 v4 v5 v6 v7) (Dn.mk v8 v9 v10) v11 v12 v13)))))else some (v1,(C5.mk (Ea.mk v2 v3 v4 v5 v6 v7) (Dn.mk v8 v9 v10) v11 v12 v13)))
def Awv (K:Nat)(a0:C5)(a1:Int)(a2:Int):Option (Int×C5):=(Aql K a1 a2 K 0 a0.fC.Ay a0.fC.G8 a0.fC.E6 a0.fC.Gu a0.fC.E7 a0.fC.G9 a0.fP.N7 a0.fP.Vi a0.fP.N8 a0.fL a0.fQ a0.Acy)
def Btw:=fd Tryz.func290 ⟨[.b 32 false,.v 3,.v 3],[.v 3],false⟩ (gC (Br9 K) (gC (Br4 K) (gC (Br6 K) gN))) [13,14,21,22,24,25] [56] [(2,[.take 1 10 5026,.take 1 9 5025,.take 1 6 5022,.take 1 7 5023,.take 1 8 5024])]
def Bpx:Ej:=⟨[(0,.p 1),(1,.v 2),(2,.v 2),(7,.v 2)],[(1,.box [.v 2,.v 2,.v 2,.v 2,.v 2,.v 2,.T 5 true,.T 3 true,.T 3 true,.T 50 true,.T 52 false,.T 3 true])]⟩
def Bpy:=fun(C28:CT Bpx _)=>jn (Btw K) 56 Bpx [(28,ar Bpx C28)] (fun a b c d e f g h i j k l m o p=>At7 K c d e f g h i j k l m o p (C28 a b)) kN
def Bpz:=lp (Btw K) 28 Bpx [] (fun n a b=>Aql K a b n) (fun n=>(kC (Bpy K _) kN))
def Bka:=ct (Btw K) (Awv K) (kC (Bpz K K) kN)
def Arh (K:Nat)(a0:List As):Nat->Int->Option (Int)
 |0,_=>none
 |n1+1,v1=>(bif (decide (v1<(a0.length:Int)))then(if(0:Int)≤v1∧v1<(a0.length:Int)then(bif (((gt a0 v1).Vi)==0)then some v1 else(Arh K a0 n1 (An6 .i64 v1 1)))else none)else some (-1))
def Azn (K:Nat)(a0:List As):Option (Int):=(Arh K a0 K 0)
def Byj:=fd Tryz.func291 ⟨[.v 29],[.v 3],true⟩ gN
def Bkb:Ej:=⟨[(0,.v 29),(3,.v 2)],[]⟩
def Bp0:=lp Byj 26 Bkb [] (fun n a=>Arh K a n) (fun n=>kN)
def Byk:=ct Byj (Azn K) (kC (Bp0 K K) kN)
def Ari (K:Nat):Nat->Int->(List Int)->(List Int)->(List Int)->Option (Int)
 |0,_,_,_,_=>none
 |n1+1,v1,v2,v3,v4=>(bif (decide (v1<(v3.length:Int)))then(if(0:Int)≤v1∧v1<(v3.length:Int)then(bif ((gt v3 v1)==0)then some v1 else(Ari K n1 (An6 .i64 v1 1) v2 v3 v4))else none)else some (-1))
def Av4 (K:Nat)(a0:Dn):Option (Int):=(Ari K K 0 a0.N7 a0.Vi a0.N8)
def Byl:=fd Tryz.func292 ⟨[.v 28],[.v 3],true⟩ gN
def B1i:Ej:=⟨[(1,.p 101),(3,.v 2)],[(101,.box [.v 22,.v 26,.v 26])]⟩
def Bp1:=lp Byl 26 B1i [] (Ari K) (fun n=>kN)
def Bsa:=ct Byl (Av4 K) (kC (Bp1 K K) kN)
def As2 (K:Nat)(a1:Int)(a2:Int)(a3:Int):Nat->Int->Dn->Dn->Option (Dn)
 |0,_,_,_=>none
 |n1+1,v3,v4,v5=>(bif (decide (v3<(An6 .i64 a1 a2)))then(if(0:Int)≤v3∧v3<(v4.Vi.length:Int)then(if(0:Int)≤v3∧v3<(v4.N8.length:Int)then(As2 K a1 a2 a3 n1 (An6 .i64 v3 1) (Dn.mk v4.N7 (v4.Vi.set v3.toNat 1) (v4.N8.set v3.toNat a3)) v5)else none)else none)else some v4)
def Arj (K:Nat)(a0:Dn)(a1:Int)(a2:Int)(a3:Int):Option (Dn):=((Aq4 K a0).bind fun r1=>((Aws K a0 a1 a2).bind fun r2=>(bif r2 then(bif ((a0.N8.length:Int) != (a0.Vi.length:Int))then some r1 else(As2 K a1 a2 a3 K a1 r1 (Dn.mk [] [] [])))else some r1)))
def Bym:=fd Tryz.func293 ⟨[.v 28,.v 3,.v 3,.v 3],[.n 28 true],true⟩ (gC (Bf8 K) (gC (Br5 K) gN)) [16,17,18] [] [(7,[.take 109 1 6745]),(8,[.take 109 2 6746]),(9,[.take 109 0 6744,.take 109 1 6745,.take 109 2 6746])]
def B1j:Ej:=⟨[(1,.v 2),(2,.v 2),(3,.v 2),(8,.p 108),(9,.p 109),(10,.v 2)],[(109,.st 28 true),(108,.st 28 true)]⟩
def Bkc:=lp (Bym K) 122 B1j [] (fun n a b c=>As2 K a b c n) (fun n=>kN)
def Bkd:=ct (Bym K) (Arj K) (kC (Bkc K K) kN)
def A1t (K:Nat)(a0:As):Option (Bool):=(bif (a0.Sl==0)then(bif (a0.fUp==0)then(bif (a0.Sm==0)then(bif (a0.Ef==0)then(bif (a0.Sn==0)then(bif (a0.So==0)then(bif ((a0.Ay.length:Int)==0)then(bif (a0.Acx==0)then(bif (a0.Sq==0)then(bif ((a0.F6.length:Int)==0)then some ((a0.Fi.length:Int)==0)else some false)else some false)else some false)else some false)else some false)else some false)else some false)else some false)else some false)else some false)
def Byn:=ct (fd Tryz.func194 ⟨[.v 50],[.v 4],true⟩ gN [5,6,9,10,11,14,15,16,19,20,21,24,25,26,29,30,31,35,36,37,40,41,42,45,46,47,51,52,53]) (A1t K)
def Avf (K:Nat)(a0:List Int)(a1:Int):Nat->Int->Option (Bool)
 |0,_=>none
 |n1+1,v1=>(bif (decide (v1<(a0.length:Int)))then(if(0:Int)≤v1∧v1<(a0.length:Int)then(bif ((gt a0 v1)==a1)then some true else(Avf K a0 a1 n1 (An6 .i64 v1 1)))else none)else some false)
def Ap7 (K:Nat)(a0:List Int)(a1:Int):Option (Bool):=(Avf K a0 a1 K 0)
def Byo:=fd Tryz.func122 ⟨[.v 26,.v 3],[.v 4],true⟩ gN
def B1k:Ej:=⟨[(0,.v 26),(1,.v 2),(5,.v 2)],[]⟩
def Bp2:=lp Byo 26 B1k [] (fun n a b=>Avf K a b n) (fun n=>kN)
def Bb6:=ct Byo (Ap7 K) (kC (Bp2 K K) kN)
def Ao0 (K:Nat)(a0:Ea):Nat->Int->Int->Int->Int->Int->Int->Int->Int->Int->(List Int)->Int->Int->(List Bc)->(List Int)->Option (Bool)
 |0,_,_,_,_,_,_,_,_,_,_,_,_,_,_=>none
 |n1+1,v1,v2,v3,v4,v5,v6,v7,v8,v9,v10,v11,v12,v13,v14=>(bif (decide (v1<(v10.length:Int)))then(if(0:Int)≤v1∧v1<(v10.length:Int)then((Gx K (gt v10 v1) 0 (An7 .i64 a0.Ay 1)).bind fun r15=>(bif r15 then(if(0:Int)≤0∧0≤v1∧v1≤(v10.length:Int)then(if(0:Int)≤v1∧v1<(v10.length:Int)then((Ap7 K ((v10.drop (0:Int).toNat).take (v1 - 0).toNat) (gt v10 v1)).bind fun r16=>(bif r16 then some false else(Ao0 K a0 n1 (An6 .i64 v1 1) v2 v3 v4 v5 v6 v7 v8 v9 v10 v11 v12 v13 v14)))else none)else none)else some false))else none)else(bif (v11==0)then some (v12==0)else((Ap7 K v10 (An7 .i64 v11 1)).bind fun r17=>(bif r17 then((Gx K v12 0 a0.G8).bind fun r18=>some r18)else some false))))
def Aw9 (K:Nat)(a0:Ea)(a1:As):Option (Bool):=(Ao0 K a0 K 0 a1.Vi a1.C9 a1.Sl a1.fUp a1.Sm a1.Ef a1.Sn a1.So a1.Ay a1.Acx a1.Sq a1.F6 a1.Fi)
def Byp:=fd Tryz.func195 ⟨[.v 25,.v 50],[.v 4],true⟩ (gC (A2a K) (gC (Bb6 K) gN)) [21,22,23,46,47]
def Bke:Ej:=⟨[(2,.p 102),(3,.p 103),(5,.v 2)],[(103,.box [.v 2,.v 2,.v 2,.v 2,.v 2,.v 2,.v 2,.v 2,.v 26,.v 2,.v 2,.v 48,.v 26]),(102,.st 25 true)]⟩
def Bp3:=lp (Byp K) 26 Bke [] (fun n a b c d e f g h i j k l m o p=>Ao0 K p n a b c d e f g h i j k l m o) (fun n=>kN)
def Byq:=ct (Byp K) (Aw9 K) (kC (Bp3 K K) kN)
def Ao7 (K:Nat)(a0:Ea)(a1:Int):Option (Bool):=some (decide (a1>a0.G8))
def Bkf:=ct (fd Tryz.func257 ⟨[.v 25,.v 3],[.v 4],true⟩ gN) (Ao7 K)
def Ayh (K:Nat)(a0:Int)(a1:Int):Option (Int):=((Gx K a0 0 1000000000).bind fun r1=>(bif r1 then((Gx K a1 1 1000000000).bind fun r2=>(bif (!r2)then some 0 else(if a1≠(0:Int)then some (Alk .i64 (An7 .i64 (An6 .i64 a0 a1) 1) a1)else none)))else some 0))
def Byr:=ct (fd Tryz.func287 ⟨[.v 3,.v 3],[.v 3],true⟩ (gC (A2a K) gN) [6,7,8]) (Ayh K)
def Al1 (K:Nat)(a0:Ea)(a1:Int):Option (Int):=((Ayh K a1 a0.G8).bind fun r1=>some r1)
def Bkg:=ct (fd Tryz.func258 ⟨[.v 25,.v 3],[.v 3],true⟩ (gC (Byr K) gN)) (Al1 K)
def As3 (K:Nat)(a0:Ea)(a1:Bc):Option (Bool):=((Arf K a0).bind fun r1=>(bif (r1==0)then some false else(bif (decide (a1.Ajm<1))then some false else(bif (decide (a1.fAt<0))then some false else(bif (decide (a1.fAt>r1))then some false else(bif (decide (a1.Ajm>(An7 .i64 r1 a1.fAt)))then some false else(bif (a1.Ajn==0)then(bif (decide (a1.Ajm≤a0.G8))then(if a0.G8≠(0:Int)then(if a0.G8≠(0:Int)then some ((Alk .i64 a1.fAt a0.G8)==(Alk .i64 (An7 .i64 (An6 .i64 a1.fAt a1.Ajm) 1) a0.G8))else none)else none)else some false)else((Ao7 K a0 a1.Ajm).bind fun r2=>(bif r2 then((Al1 K a0 a1.Ajm).bind fun r3=>(bif (a1.Ajn==r3)then(if a0.G8≠(0:Int)then some ((Int.tmod a1.fAt a0.G8)==0)else none)else some false))else some false)))))))))
def Bsb:=ct (fd Tryz.func196 ⟨[.v 25,.v 132],[.v 4],true⟩ (gC (Bpd K) (gC (Bkf K) (gC (Bkg K) gN))) [9,10,13,14,15,18,19,20,24,25,26,42,43,63,64,71,72,73]) (As3 K)
def Aqm (K:Nat)(v23:List Int):Nat->Int->Option (Bool)
 |0,_=>none
 |n2+1,v25=>(bif (decide (v25<(v23.length:Int)))then(if(0:Int)≤v25∧v25<(v23.length:Int)then((Gx K (gt v23 v25) 0 255).bind fun r26=>(bif (!r26)then some false else(Aqm K v23 n2 (An6 .i64 v25 1))))else none)else some true)
def Apl (K:Nat)(a0:Ea):Nat->Int->Int->Int->Int->Int->Int->Int->Int->Int->(List Int)->Int->Int->(List Bc)->(List Int)->Option (Bool)
 |0,_,_,_,_,_,_,_,_,_,_,_,_,_,_=>none
 |n1+1,v10,v11,v12,v13,v14,v15,v16,v17,v18,v19,v20,v21,v22,v23=>(bif (decide (v10<(v22.length:Int)))then(if(0:Int)≤v10∧v10<(v22.length:Int)then((As3 K a0 (gt v22 v10)).bind fun r24=>(bif (!r24)then some false else(Apl K a0 n1 (An6 .i64 v10 1) v11 v12 v13 v14 v15 v16 v17 v18 v19 v20 v21 v22 v23)))else none)else(Aqm K v23 K 0))
def Ap8 (K:Nat)(a0:Ea)(a1:As):Option (Bool):=((Ani K a0).bind fun r1=>(bif r1 then((Gx K a1.Vi 0 3).bind fun r2=>(bif r2 then((Gx K a1.C9 1 a0.G9).bind fun r3=>(bif (!r3)then some false else(bif (a1.Vi != 1)then((A1t K a1).bind fun r4=>some r4)else(bif (decide (a1.Sl<0))then some false else(bif (decide (a1.Sm<0))then some false else((Gx K a1.fUp 0 a0.E6).bind fun r5=>(bif r5 then((Gx K a1.Ef 0 a0.E6).bind fun r6=>(bif r6 then((Gx K a1.Sn 0 a0.E6).bind fun r7=>(bif r7 then((Gx K a1.So 0 a0.E6).bind fun r8=>(bif r8 then((Aw9 K a0 a1).bind fun r9=>(bif r9 then(bif (decide ((a1.F6.length:Int)>12))then some false else(bif (decide ((a1.Fi.length:Int)>6))then some false else(Apl K a0 K 0 a1.Vi a1.C9 a1.Sl a1.fUp a1.Sm a1.Ef a1.Sn a1.So a1.Ay a1.Acx a1.Sq a1.F6 a1.Fi)))else some false))else some false))else some false))else some false))else some false)))))))else some false))else some false))
def Btx:=fd Tryz.func100 ⟨[.v 25,.v 50],[.v 4],true⟩ (gC (Bb3 K) (gC (A2a K) (gC (Byn K) (gC (Byq K) (gC (Bsb K) gN))))) [8,9,10,13,14,15,16,31,32,35,36,37,42,43,44,45,50,51,52,53,58,59,60,61,66,67,68,69,72,73,74,75,79,80,81]
def B1l:Ej:=⟨[(3,.p 103),(6,.v 2)],[(103,.box [.v 2,.v 2,.v 2,.v 2,.v 2,.v 2,.v 2,.v 2,.v 26,.v 2,.v 2,.v 48,.v 26])]⟩
def Bkh:=lp (Btx K) 506 B1l [] (fun n a _ _ _ _ _ _ _ _ _ _ _ _ o=>Aqm K o n a) (fun n=>kN)
def Bki:=lp (Btx K) 250 Bke [] (fun n a b c d e f g h i j k l m o p=>Apl K p n a b c d e f g h i j k l m o) (fun n=>(kC (up (Bkh K K)) kN))
def A9x:=ct (Btx K) (Ap8 K) (kC (Bki K K) kN)
def Aum (K:Nat)(a0:Ea)(a1:As)(a2:Int):Option (As×Bool):=((Anj K a1).bind fun r1=>(bif (a1.Vi != 1)then some (r1,false)else((Gx K a2 0 (An7 .i64 a0.Ay 1)).bind fun r2=>(bif (!r2)then some (r1,false)else(if(r1.Ay++([a2]:List Int)).length*8≤140737488355328∧(r1.Ay++([a2]:List Int)).length≤maxLen then((Ap8 K a0 (As.mk r1.Vi r1.C9 r1.Sl r1.fUp r1.Sm r1.Ef r1.Sn r1.So (r1.Ay++([a2]:List Int)) (An6 .i64 a2 1) 0 r1.F6 r1.Fi)).bind fun r3=>(bif (!r3)then((Anj K a1).bind fun r4=>some (r4,false))else some ((As.mk r1.Vi r1.C9 r1.Sl r1.fUp r1.Sm r1.Ef r1.Sn r1.So (r1.Ay++([a2]:List Int)) (An6 .i64 a2 1) 0 r1.F6 r1.Fi),true)))else none)))))
def Bkj:=ct (fd Tryz.func294 ⟨[.v 25,.v 50,.v 3],[.n 50 false,.v 4],true⟩ (gC (A9x K) (gC (A2a K) (gC (A9w K) gN))) [13,14]) (Aum K)
def Azu (K:Nat)(v11:List As):Option ((List As)):=some v11
def Ax3 (K:Nat)(a0:List As)(a1:Int)(a2:Int):Option ((List As)):=((Atx K a0).bind fun r1=>((Ad8 K a0 (An6 .i64 a1 1)).bind fun r2=>(bif r2 then((Ad8 K a0 (An6 .i64 a2 1)).bind fun r3=>(bif r3 then(bif (a1==a2)then some r1 else(if(0:Int)≤a1∧a1<(a0.length:Int)then(if(0:Int)≤a2∧a2<(r1.length:Int)then(Aqk (r1.set a2.toNat (As.mk ((gt r1 a2).Vi) ((gt r1 a2).C9) ((gt r1 a2).Sl) (An6 .i64 a1 1) ((gt r1 a2).Sm) ((gt r1 a2).Ef) ((gt r1 a2).Sn) ((gt r1 a2).So) ((gt r1 a2).Ay) ((gt r1 a2).Acx) ((gt r1 a2).Sq) ((gt r1 a2).F6) ((gt r1 a2).Fi))) fun v4=>(if(0:Int)≤a1∧a1<(a0.length:Int)then(if(0:Int)≤a2∧a2<(v4.length:Int)then(Aqk (v4.set a2.toNat (As.mk ((gt v4 a2).Vi) ((gt v4 a2).C9) ((gt v4 a2).Sl) ((gt v4 a2).fUp) ((gt a0 a1).Sl) ((gt v4 a2).Ef) ((gt v4 a2).Sn) ((gt v4 a2).So) ((gt v4 a2).Ay) ((gt v4 a2).Acx) ((gt v4 a2).Sq) ((gt v4 a2).F6) ((gt v4 a2).Fi))) fun v5=>(if(0:Int)≤a2∧a2<(v5.length:Int)then(Aqk (v5.set a2.toNat (As.mk ((gt v5 a2).Vi) ((gt v5 a2).C9) ((gt v5 a2).Sl) ((gt v5 a2).fUp) ((gt v5 a2).Sm) ((gt v5 a2).Ef) ((gt a0 a1).Ef) ((gt v5 a2).So) ((gt v5 a2).Ay) ((gt v5 a2).Acx) ((gt v5 a2).Sq) ((gt v5 a2).F6) ((gt v5 a2).Fi))) fun v6=>(if(0:Int)≤a2∧a2<(v6.length:Int)then(Aqk (v6.set a2.toNat (As.mk ((gt v6 a2).Vi) ((gt v6 a2).C9) ((gt v6 a2).Sl) ((gt v6 a2).fUp) ((gt v6 a2).Sm) ((gt v6 a2).Ef) ((gt v6 a2).Sn) 0 ((gt v6 a2).Ay) ((gt v6 a2).Acx) ((gt v6 a2).Sq) ((gt v6 a2).F6) ((gt v6 a2).Fi))) fun v7=>(if(0:Int)≤a1∧a1<(v7.length:Int)then(Aqk (v7.set a1.toNat (As.mk ((gt v7 a1).Vi) ((gt v7 a1).C9) ((gt v7 a1).Sl) ((gt v7 a1).fUp) ((gt v7 a1).Sm) (An6 .i64 a2 1) ((gt v7 a1).Sn) ((gt v7 a1).So) ((gt v7 a1).Ay) ((gt v7 a1).Acx) ((gt v7 a1).Sq) ((gt v7 a1).F6) ((gt v7 a1).Fi))) fun v8=>((Ad8 K a0 ((gt a0 a1).Ef)).bind fun r9=>(bif r9 then(if(0:Int)≤(An7 .i64 ((gt a0 a1).Ef) 1)∧(An7 .i64 ((gt a0 a1).Ef) 1)<(v8.length:Int)then(Aqk (v8.set (An7 .i64 ((gt a0 a1).Ef) 1).toNat (As.mk ((gt v8 (An7 .i64 ((gt a0 a1).Ef) 1)).Vi) ((gt v8 (An7 .i64 ((gt a0 a1).Ef) 1)).C9) ((gt v8 (An7 .i64 ((gt a0 a1).Ef) 1)).Sl) ((gt v8 (An7 .i64 ((gt a0 a1).Ef) 1)).fUp) ((gt v8 (An7 .i64 ((gt a0 a1).Ef) 1)).Sm) ((gt v8 (An7 .i64 ((gt a0 a1).Ef) 1)).Ef) ((gt v8 (An7 .i64 ((gt a0 a1).Ef) 1)).Sn) (An6 .i64 a2 1) ((gt v8 (An7 .i64 ((gt a0 a1).Ef) 1)).Ay) ((gt v8 (An7 .i64 ((gt a0 a1).Ef) 1)).Acx) ((gt v8 (An7 .i64 ((gt a0 a1).Ef) 1)).Sq) ((gt v8 (An7 .i64 ((gt a0 a1).Ef) 1)).F6) ((gt v8 (An7 .i64 ((gt a0 a1).Ef) 1)).Fi))) fun v10=>(Azu K v10))else none)else(Azu K v8))))else none))else none))else none))else none)else none))else none)else none))else some r1))else some r1)))
def Bys:=fd Tryz.func295 ⟨[.v 29,.v 3,.v 3],[.n 29 true],false⟩ (gC (Bga K) (gC (A6z K) gN)) [14,15,16,20,21,22,23] [1023]
def Bhh:=jn (Bys K) 1023 Byg [] (Azu K) kN
def Byt:=ct (Bys K) (Ax3 K) (kC (Bhh K) kN)
def As4 (K:Nat)(a1:Int):Nat->Int->Int->Int->Int->Int->Int->Int->(List Int)->(List Int)->(List Int)->(List As)->(List Az)->(List Int)->Option (Int×C5)
 |0,_,_,_,_,_,_,_,_,_,_,_,_,_=>none
 |n1+1,v1,v2,v3,v4,v5,v6,v7,v8,v9,v10,v11,v12,v13=>(bif (decide (v1<a1))then(bif ((v12.length:Int)==0)then some (v1,(C5.mk (Ea.mk v2 v3 v4 v5 v6 v7) (Dn.mk v8 v9 v10) v11 v12 v13))else((Ave K (C5.mk (Ea.mk v2 v3 v4 v5 v6 v7) (Dn.mk v8 v9 v10) v11 v12 v13)).bind fun r14=>(As4 K a1 n1 (An6 .i64 v1 1) r14.fC.Ay r14.fC.G8 r14.fC.E6 r14.fC.Gu r14.fC.E7 r14.fC.G9 r14.fP.N7 r14.fP.Vi r14.fP.N8 r14.fL r14.fQ r14.Acy)))else some (a1,(C5.mk (Ea.mk v2 v3 v4 v5 v6 v7) (Dn.mk v8 v9 v10) v11 v12 v13)))
def Avg (K:Nat)(a0:C5)(a1:Int):Option (Int×C5):=(As4 K a1 K 0 a0.fC.Ay a0.fC.G8 a0.fC.E6 a0.fC.Gu a0.fC.E7 a0.fC.G9 a0.fP.N7 a0.fP.Vi a0.fP.N8 a0.fL a0.fQ a0.Acy)
def Byu:=fd Tryz.func265 ⟨[.b 32 false,.v 3],[.v 3],false⟩ (gC (Br9 K) gN) [] [] [(4,[.take 1 10 5026]),(6,[.put 1])]
def B1m:Ej:=⟨[(0,.p 1),(1,.v 2),(5,.v 2)],[(1,.box [.v 2,.v 2,.v 2,.v 2,.v 2,.v 2,.T 5 true,.T 3 true,.T 3 true,.T 50 true,.T 52 false,.T 3 true])]⟩
def Bp4:=lp (Byu K) 26 B1m [] (fun n a=>As4 K a n) (fun n=>kN)
def Bkk:=ct (Byu K) (Avg K) (kC (Bp4 K K) kN)
def As5 (K:Nat)(r19:Int)(v25:Int)(v26:Int)(v27:Int)(v28:Int)(v29:Int)(v30:Int)(v31:List Int)(v32:List Int)(v33:List Int)(v34:List As)(v35:List Az)(v36:List Int)(v37:Et):Option (Et×C5):=((Anl K v34 r19).bind fun r38=>((Avg K (C5.mk (Ea.mk v25 v26 v27 v28 v29 v30) (Dn.mk v31 v32 v33) v34 v35 v36) v28).bind fun r39=>some ((Et.mk v37.W4 r38 v37.fR v37.fB v37.W5 r39.1 v37.N9),r39.2)))
def Anw (K:Nat)(v3:Int)(v4:Int)(v5:Int)(v6:Int)(v7:Int)(v8:Int)(v9:Int)(v10:List Int)(v11:List Int)(v12:List Int)(v13:List As)(v14:List Az)(v15:List Int)(v16:Et)(v17:Et):Option (Et×C5):=(bif (v16.W4 != 0)then some (v16,(C5.mk (Ea.mk v4 v5 v6 v7 v8 v9) (Dn.mk v10 v11 v12) v13 v14 v15))else((Awv K (C5.mk (Ea.mk v4 v5 v6 v7 v8 v9) (Dn.mk v10 v11 v12) v13 v14 v15) 1 1).bind fun r18=>((Azn K r18.2.fL).bind fun r19=>((Av4 K r18.2.fP).bind fun r20=>(bif (decide (r19<0))then some ((Et.mk 5 (An.mk 0 0) (Br.mk (An.mk 0 0) 0 0) [] 0 0 0),r18.2)else(bif (decide (r20<0))then some ((Et.mk 5 (An.mk 0 0) (Br.mk (An.mk 0 0) 0 0) [] 0 0 0),r18.2)else(if(0:Int)≤r19∧r19<(r18.2.fL.length:Int)then((Ak0 K ((gt r18.2.fL r19).C9)).bind fun r21=>((Arj K r18.2.fP r20 1 r19).bind fun r22=>((Aum K r18.2.fC (As.mk 1 r21.C9 r21.Sl r21.fUp r21.Sm r21.Ef r21.Sn r21.So r21.Ay r21.Acx r21.Sq r21.F6 r21.Fi) r20).bind fun r23=>(if(0:Int)≤r19∧r19<(r18.2.fL.length:Int)then(bif (decide (v3≥0))then((Ax3 K (r18.2.fL.set r19.toNat r23.1) v3 r19).bind fun r24=>(As5 K r19 r18.2.fC.Ay r18.2.fC.G8 r18.2.fC.E6 r18.2.fC.Gu r18.2.fC.E7 r18.2.fC.G9 r22.N7 r22.Vi r22.N8 r24 r18.2.fQ r18.2.Acy (Et.mk v16.W4 v16.fH v16.fR v16.fB v16.W5 v16.Gu r18.1)))else(As5 K r19 r18.2.fC.Ay r18.2.fC.G8 r18.2.fC.E6 r18.2.fC.Gu r18.2.fC.E7 r18.2.fC.G9 r22.N7 r22.Vi r22.N8 (r18.2.fL.set r19.toNat r23.1) r18.2.fQ r18.2.Acy (Et.mk v16.W4 v16.fH v16.fR v16.fB v16.W5 v16.Gu r18.1)))else none))))else none)))))))
def As6 (K:Nat)(v41:Int)(v42:Bool)(v43:Int)(v44:Int)(v45:Int)(v46:Int)(v47:Int)(v48:Int)(v49:List Int)(v50:List Int)(v51:List Int)(v52:List As)(v53:List Az)(v54:List Int)(v55:Et)(v56:Et):Option (Et×C5):=(bif v42 then(Anw K v41 v43 v44 v45 v46 v47 v48 v49 v50 v51 v52 v53 v54 (Et.mk 3 v55.fH v55.fR v55.fB v55.W5 v55.Gu v55.N9) v56)else((A0g K (C5.mk (Ea.mk v43 v44 v45 v46 v47 v48) (Dn.mk v49 v50 v51) v52 v53 v54)).bind fun r57=>(bif (r57==0)then(Anw K v41 v43 v44 v45 v46 v47 v48 v49 v50 v51 v52 v53 v54 (Et.mk 4 v55.fH v55.fR v55.fB v55.W5 v55.Gu v55.N9) v56)else((Arx K (C5.mk (Ea.mk v43 v44 v45 v46 v47 v48) (Dn.mk v49 v50 v51) v52 v53 v54) 1).bind fun r58=>(bif (!r58)then(Anw K v41 v43 v44 v45 v46 v47 v48 v49 v50 v51 v52 v53 v54 (Et.mk 5 v55.fH v55.fR v55.fB v55.W5 v55.Gu v55.N9) v56)else(Anw K v41 v43 v44 v45 v46 v47 v48 v49 v50 v51 v52 v53 v54 v55 v56))))))
def Ayi (K:Nat)(a0:C5)(a1:An):Option (Et×C5):=((A0q K a0 a1).bind fun r1=>((Aoz K a0 a1).bind fun r2=>(bif (r1.2 != 0)then(Anw K r1.1 a0.fC.Ay a0.fC.G8 a0.fC.E6 a0.fC.Gu a0.fC.E7 a0.fC.G9 a0.fP.N7 a0.fP.Vi a0.fP.N8 a0.fL a0.fQ a0.Acy (Et.mk r1.2 (An.mk 0 0) (Br.mk (An.mk 0 0) 0 0) [] r2 0 0) (Et.mk 0 (An.mk 0 0) (Br.mk (An.mk 0 0) 0 0) [] 0 0 0))else(bif (decide (r1.1≥0))then((Awr K a0.fL r1.1).bind fun r40=>(As6 K r1.1 (decide (r40≥4)) a0.fC.Ay a0.fC.G8 a0.fC.E6 a0.fC.Gu a0.fC.E7 a0.fC.G9 a0.fP.N7 a0.fP.Vi a0.fP.N8 a0.fL a0.fQ a0.Acy (Et.mk r1.2 (An.mk 0 0) (Br.mk (An.mk 0 0) 0 0) [] r2 0 0) (Et.mk 0 (An.mk 0 0) (Br.mk (An.mk 0 0) 0 0) [] 0 0 0)))else(As6 K r1.1 false a0.fC.Ay a0.fC.G8 a0.fC.E6 a0.fC.Gu a0.fC.E7 a0.fC.G9 a0.fP.N7 a0.fP.Vi a0.fP.N8 a0.fL a0.fQ a0.Acy (Et.mk r1.2 (An.mk 0 0) (Br.mk (An.mk 0 0) 0 0) [] r2 0 0) (Et.mk 0 (An.mk 0 0) (Br.mk (An.mk 0 0) 0 0) [] 0 0 0))))))
def Bp5:=fd Tryz.func263 ⟨[.b 32 false,.v 36],[.n 73 true],false⟩ (gC (Bj3 K) (gC (A70 K) (gC (Bjy K) (gC (Bb4 K) (gC (Br2 K) (gC (Bkk K) (gC (Bxt K) (gC (Bxu K) (gC (Bka K) (gC (Byk K) (gC (Bsa K) (gC (Bkd K) (gC (Bkj K) (gC (Byt K) gN)))))))))))))) [31,32,74,75] [15,243,32767] [(1,[.take 1 6 5022,.take 1 7 5023,.take 1 8 5024,.take 1 9 5025,.take 1 10 5026,.take 1 11 5027]),(6,[.take 1 6 5022,.take 1 7 5023,.take 1 8 5024,.take 1 9 5025,.take 1 10 5026,.take 1 11 5027]),(11,[.take 107 7 6719]),(13,[.take 1 9 5025]),(14,[.take 1 6 5022,.take 1 7 5023,.take 1 8 5024]),(23,[.put 5025,.frz 5025]),(24,[.take 1 9 5025]),(25,[.put 1]),(26,[.take 107 7 6719])]
def B1n:Ej:=⟨[(0,.p 1),(4,.p 104),(7,.p 107),(8,.v 2)],[(1,.box [.v 2,.v 2,.v 2,.v 2,.v 2,.v 2,.T 5 true,.T 3 true,.T 3 true,.T 50 true,.T 52 false,.T 3 true]),(107,.st 73 true),(104,.st 73 true)]⟩
def B1o:Ej:=⟨[(0,.p 1),(4,.p 104),(5,.v 2),(7,.p 107)],[(1,.box [.v 2,.v 2,.v 2,.v 2,.v 2,.v 2,.T 5 true,.T 3 true,.T 3 true,.T 50 true,.T 52 false,.T 3 true]),(107,.st 73 true),(104,.st 73 true)]⟩
def B1p:Ej:=⟨[(0,.p 1),(4,.p 104),(5,.v 2),(7,.p 107),(29,.v 4)],[(1,.box [.v 2,.v 2,.v 2,.v 2,.v 2,.v 2,.T 5 true,.T 3 true,.T 3 true,.T 50 true,.T 52 false,.T 3 true]),(107,.st 73 true),(104,.st 73 true)]⟩
def Bd6:=jn (Bp5 K) 32767 B1n [] (fun a b c d e f g h i j k l m o _=>As5 K a b c d e f g h i j k l m o) kN
def Bgb:=jn (Bp5 K) 15 B1o [] (Anw K) (kC (Bd6 K) kN)
def Bkl:=jn (Bp5 K) 243 B1p [] (As6 K) (kC (Bgb K) kN)
def Byv:=ct (Bp5 K) (Ayi K) (kC (Bgb K) (kC (Bkl K) kN))
def Ark (K:Nat)(a0:Int):Option (Bool):=(bif (a0==1)then some true else(bif (a0==2)then some true else some (a0==4)))
def Bgc:=ct (fd Tryz.func296 ⟨[.v 3],[.v 4],true⟩ gN [4,5,7,8,9]) (Ark K)
def Anb (K:Nat)(a0:Ea)(a2:Int)(a3:Int)(r6:Int):Nat->Int->As->As->Int->Int->Int->Int->Int->Int->Int->Int->(List Int)->Int->Int->(List Bc)->(List Int)->Option (As×Bool)
 |0,_,_,_,_,_,_,_,_,_,_,_,_,_,_,_,_=>none
 |n1+1,v7,v8,v9,v10,v11,v12,v13,v14,v15,v16,v17,v18,v19,v20,v21,v22=>(bif (decide (v7<r6))then(if(v8.Ay++([(An6 .i64 a2 v7)]:List Int)).length*8≤140737488355328∧(v8.Ay++([(An6 .i64 a2 v7)]:List Int)).length≤maxLen then(Anb K a0 a2 a3 r6 n1 (An6 .i64 v7 1) (As.mk v8.Vi v8.C9 v8.Sl v8.fUp v8.Sm v8.Ef v8.Sn v8.So (v8.Ay++([(An6 .i64 a2 v7)]:List Int)) v8.Acx v8.Sq v8.F6 v8.Fi) v9 v10 v11 v12 v13 v14 v15 v16 v17 v18 v19 v20 v21 v22)else none)else(if(v8.F6++([(Bc.mk (An8 .i64 a2 a0.G8) a3 r6)]:List Bc)).length*24≤140737488355328∧(v8.F6++([(Bc.mk (An8 .i64 a2 a0.G8) a3 r6)]:List Bc)).length≤maxLen then((Ap8 K a0 (As.mk v8.Vi v8.C9 v8.Sl v8.fUp v8.Sm v8.Ef v8.Sn v8.So v8.Ay v8.Acx v8.Sq (v8.F6++([(Bc.mk (An8 .i64 a2 a0.G8) a3 r6)]:List Bc)) v8.Fi)).bind fun r23=>(bif (!r23)then((Anj K (As.mk v10 v11 v12 v13 v14 v15 v16 v17 v18 v19 v20 v21 v22)).bind fun r24=>some (r24,false))else some ((As.mk v8.Vi v8.C9 v8.Sl v8.fUp v8.Sm v8.Ef v8.Sn v8.So v8.Ay v8.Acx v8.Sq (v8.F6++([(Bc.mk (An8 .i64 a2 a0.G8) a3 r6)]:List Bc)) v8.Fi),true)))else none))
def Aqn (K:Nat)(a0:Ea)(a1:As)(a2:Int)(a3:Int):Option (As×Bool):=((Anj K a1).bind fun r1=>((Ani K a0).bind fun r2=>(bif r2 then(bif (a1.Vi != 1)then some (r1,false)else((Ao7 K a0 a3).bind fun r3=>(bif r3 then((Arf K a0).bind fun r4=>(bif (decide (a3>r4))then some (r1,false)else((Gx K a2 0 (An7 .i64 a0.Ay 1)).bind fun r5=>(bif (!r5)then some (r1,false)else((Al1 K a0 a3).bind fun r6=>(Anb K a0 a2 a3 r6 K 0 r1 (As.mk 0 0 0 0 0 0 0 0 [] 0 0 [] []) a1.Vi a1.C9 a1.Sl a1.fUp a1.Sm a1.Ef a1.Sn a1.So a1.Ay a1.Acx a1.Sq a1.F6 a1.Fi))))))else some (r1,false))))else some (r1,false))))
def Byw:=fd Tryz.func309 ⟨[.v 25,.v 50,.v 3,.v 3],[.n 50 false,.v 4],true⟩ (gC (Bb3 K) (gC (A9x K) (gC (A2a K) (gC (Bpd K) (gC (A9w K) (gC (Bkf K) (gC (Bkg K) gN))))))) [16,17,18,21,22,23,26,27,28,29,33,34,35] [] [(8,[.take 110 8 6768]),(9,[.take 110 11 6771]),(10,[.take 110 8 6768,.take 110 12 6772])]
def B1q:Ej:=⟨[(2,.v 2),(3,.v 2),(4,.p 104),(5,.p 105),(8,.p 108),(10,.p 110),(11,.v 2),(12,.v 2)],[(110,.st 50 false),(108,.st 50 false),(105,.box [.v 2,.v 2,.v 2,.v 2,.v 2,.v 2,.v 2,.v 2,.v 26,.v 2,.v 2,.v 48,.v 26]),(104,.st 25 true)]⟩
def Bkm:=lp (Byw K) 250 B1q [] (fun n a b c d e f g h i j k l m o p q r s t u=>Anb K u a b c n d e f g h i j k l m o p q r s t) (fun n=>kN)
def Bsc:=ct (Byw K) (Aqn K) (kC (Bkm K K) kN)
def Axa (K:Nat)(a0:C5)(a1:Int)(a2:Int)(a3:Et):Option (Et×C5):=((Al1 K a0.fC a2).bind fun r1=>((Arx K a0 r1).bind fun r2=>(bif (!r2)then some ((Et.mk 5 a3.fH a3.fR a3.fB a3.W5 a3.Gu a3.N9),a0)else((Awv K a0 0 r1).bind fun r3=>((Aw6 K r3.2.fP r1).bind fun r4=>(bif (decide (r4<0))then some ((Et.mk 6 a3.fH a3.fR a3.fB a3.W5 a3.Gu r3.1),r3.2)else((Arj K r3.2.fP r4 r1 a1).bind fun r5=>(if(0:Int)≤a1∧a1<(r3.2.fL.length:Int)then(if(0:Int)≤a1∧a1<(r3.2.fL.length:Int)then((Aqn K r3.2.fC (gt r3.2.fL a1) r4 a2).bind fun r6=>(if(0:Int)≤a1∧a1<(r3.2.fL.length:Int)then some ((Et.mk a3.W4 a3.fH a3.fR a3.fB a3.W5 a3.Gu r3.1),(C5.mk r3.2.fC r5 (r3.2.fL.set a1.toNat r6.1) r3.2.fQ r3.2.Acy))else none))else none)else none))))))))
def Byx:=ct (fd Tryz.func297 ⟨[.b 32 false,.v 3,.v 3,.v 73],[.v 73],false⟩ (gC (Bj3 K) (gC (Bkg K) (gC (Bka K) (gC (Bkd K) (gC (Bsc K) (gC (Br6 K) gN)))))) [] [] [(2,[.take 1 6 5022,.take 1 7 5023,.take 1 8 5024,.take 1 9 5025,.take 1 10 5026,.take 1 11 5027]),(5,[.put 1]),(6,[.take 1 6 5022,.take 1 7 5023,.take 1 8 5024]),(11,[.take 1 9 5025,.opn 5025 (.tmp 1),.takeE 5025 11 41611,.takeE 5025 12 41612])]) (Axa K)
def Ayj (K:Nat)(a0:Int)(a1:Int):Option (Int):=((Gx K a0 0 1000000000).bind fun r1=>(bif r1 then((Ark K a1).bind fun r2=>(bif (!r2)then some 0 else(if a1≠(0:Int)then some (An8 .i64 (Alk .i64 (An7 .i64 (An6 .i64 a0 a1) 1) a1) a1)else none)))else some 0))
def Byy:=ct (fd Tryz.func315 ⟨[.v 3,.v 3],[.v 3],true⟩ (gC (A2a K) (gC (Bgc K) gN)) [6,7,8]) (Ayj K)
def Aww (K:Nat)(a0:Ea)(a1:As)(a2:Int)(a3:Int):Option (Int×Bool):=((Ap8 K a0 a1).bind fun r1=>(bif r1 then(bif (a1.Acx==0)then some (0,false)else((Gx K a2 1 a0.G8).bind fun r2=>(bif r2 then((Ark K a3).bind fun r3=>(bif (!r3)then some (0,false)else((Ayj K a1.Sq a3).bind fun r4=>(bif (decide ((An6 .i64 r4 a2)>a0.G8))then some (0,false)else some ((An6 .i64 (An8 .i64 (An7 .i64 a1.Acx 1) a0.G8) r4),true)))))else some (0,false))))else some (0,false)))
def Bsd:=ct (fd Tryz.func314 ⟨[.v 25,.v 50,.v 3,.v 3],[.v 3,.v 4],true⟩ (gC (A9x K) (gC (A2a K) (gC (Bgc K) (gC (Byy K) gN)))) [13,14,15,18,19,20,24,25,26,27]) (Aww K)
def Aux (K:Nat)(a0:Ea)(a1:As)(a2:Int)(a3:Int):Option (Bool):=((Aww K a0 a1 a2 a3).bind fun r1=>(bif r1.2 then some false else((Ap8 K a0 a1).bind fun r2=>(bif r2 then(bif (a1.Vi==1)then((Gx K a2 1 a0.G8).bind fun r3=>(bif r3 then((Ark K a3).bind fun r4=>some r4)else some false))else some false)else some false))))
def Byz:=ct (fd Tryz.func312 ⟨[.v 25,.v 50,.v 3,.v 3],[.v 4],true⟩ (gC (A9x K) (gC (A2a K) (gC (Bgc K) (gC (Bsd K) gN)))) [19,20,21,24,25,26,29,30,31,35,36,37]) (Aux K)
def At8 (K:Nat)(a0:Ea)(a1:As)(a2:Int)(a3:Int):Option (As×Bool):=((Anj K a1).bind fun r1=>((Aww K a0 a1 a2 a3).bind fun r2=>(bif r2.2 then(bif (decide ((a1.F6.length:Int)≥12))then some (r1,false)else(if(r1.F6++([(Bc.mk r2.1 a2 0)]:List Bc)).length*24≤140737488355328∧(r1.F6++([(Bc.mk r2.1 a2 0)]:List Bc)).length≤maxLen then some ((As.mk r1.Vi r1.C9 r1.Sl r1.fUp r1.Sm r1.Ef r1.Sn r1.So r1.Ay r1.Acx (An6 .i64 (An7 .i64 r2.1 (An8 .i64 (An7 .i64 a1.Acx 1) a0.G8)) a2) (r1.F6++([(Bc.mk r2.1 a2 0)]:List Bc)) r1.Fi),true)else none))else some (r1,false))))
def Bse:=ct (fd Tryz.func308 ⟨[.v 25,.v 50,.v 3,.v 3],[.n 50 false,.v 4],true⟩ (gC (A9w K) (gC (Bsd K) gN)) [23,24,25]) (At8 K)
def Asa (K:Nat)(a1:Int)(a2:Int)(a3:Int)(v7:Int)(v8:Int)(v9:Int)(v10:Int)(v11:Int)(v12:Int)(v13:List Int)(v14:List Int)(v15:List Int)(v16:List As)(v17:List Az)(v18:List Int)(v19:Et)(v20:Int)(v21:Int)(v22:Int)(v23:Int)(v24:Int)(v25:Int)(v26:Int)(v27:List Int)(v28:Int)(v29:Int)(v30:Int):Option (Et×C5):=(if(0:Int)≤a1∧a1<(v16.length:Int)then(if(0:Int)≤a1∧a1<(v16.length:Int)then((At8 K (Ea.mk v7 v8 v9 v10 v11 v12) (gt v16 a1) a2 a3).bind fun r31=>(if(0:Int)≤a1∧a1<(v16.length:Int)then some ((Et.mk v20 (An.mk v21 v22) (Br.mk (An.mk v23 v24) v25 v26) v27 v28 v29 v30),(C5.mk (Ea.mk v7 v8 v9 v10 v11 v12) (Dn.mk v13 v14 v15) (v16.set a1.toNat r31.1) v17 v18))else none))else none)else none)
def Axb (K:Nat)(a0:C5)(a1:Int)(a2:Int)(a3:Int)(a4:Et):Option (Et×C5):=(if(0:Int)≤a1∧a1<(a0.fL.length:Int)then(if(0:Int)≤a1∧a1<(a0.fL.length:Int)then((Aux K a0.fC (gt a0.fL a1) a2 a3).bind fun r1=>(bif r1 then((Arx K a0 1).bind fun r2=>(bif (!r2)then some ((Et.mk 5 a4.fH a4.fR a4.fB a4.W5 a4.Gu a4.N9),a0)else((Awv K a0 0 1).bind fun r3=>((Av4 K r3.2.fP).bind fun r4=>(bif (decide (r4<0))then some ((Et.mk 5 a4.fH a4.fR a4.fB a4.W5 a4.Gu r3.1),r3.2)else((Arj K r3.2.fP r4 1 a1).bind fun r5=>(if(0:Int)≤a1∧a1<(r3.2.fL.length:Int)then(if(0:Int)≤a1∧a1<(r3.2.fL.length:Int)then((Aum K r3.2.fC (gt r3.2.fL a1) r4).bind fun r6=>(if(0:Int)≤a1∧a1<(r3.2.fL.length:Int)then(Asa K a1 a2 a3 r3.2.fC.Ay r3.2.fC.G8 r3.2.fC.E6 r3.2.fC.Gu r3.2.fC.E7 r3.2.fC.G9 r5.N7 r5.Vi r5.N8 (r3.2.fL.set a1.toNat r6.1) r3.2.fQ r3.2.Acy (Et.mk 0 (An.mk 0 0) (Br.mk (An.mk 0 0) 0 0) [] 0 0 0) a4.W4 a4.fH.Bm a4.fH.C9 a4.fR.fH.Bm a4.fR.fH.C9 a4.fR.Sl a4.fR.fNo a4.fB a4.W5 a4.Gu r3.1)else none))else none)else none)))))))else(Asa K a1 a2 a3 a0.fC.Ay a0.fC.G8 a0.fC.E6 a0.fC.Gu a0.fC.E7 a0.fC.G9 a0.fP.N7 a0.fP.Vi a0.fP.N8 a0.fL a0.fQ a0.Acy (Et.mk 0 (An.mk 0 0) (Br.mk (An.mk 0 0) 0 0) [] 0 0 0) a4.W4 a4.fH.Bm a4.fH.C9 a4.fR.fH.Bm a4.fR.fH.C9 a4.fR.Sl a4.fR.fNo a4.fB a4.W5 a4.Gu a4.N9)))else none)else none)
def By0:=fd Tryz.func298 ⟨[.b 32 false,.v 3,.v 3,.v 3,.v 73],[.v 73],false⟩ (gC (Bj3 K) (gC (Bka K) (gC (Bsa K) (gC (Bkd K) (gC (Bkj K) (gC (Bse K) (gC (Byz K) gN))))))) [] [3] [(1,[.take 1 9 5025,.opn 5025 (.tmp 1),.takeE 5025 11 41611,.takeE 5025 12 41612]),(2,[.take 1 6 5022,.take 1 7 5023,.take 1 8 5024,.take 1 10 5026,.take 1 11 5027,.put 5025]),(5,[.put 1]),(6,[.take 1 6 5022,.take 1 7 5023,.take 1 8 5024]),(11,[.take 1 9 5025,.opn 5025 (.tmp 1),.takeE 5025 11 41611,.takeE 5025 12 41612]),(13,[.take 1 9 5025,.opn 5025 (.tmp 1),.takeE 5025 11 41611,.takeE 5025 12 41612])]
def B1r:Ej:=⟨[(0,.p 1),(1,.v 2),(2,.v 2),(3,.v 2),(9,.p 109),(10,.p 110)],[(1,.box [.v 2,.v 2,.v 2,.v 2,.v 2,.v 2,.T 5 true,.T 3 true,.T 3 true,.T 50 true,.T 52 false,.T 3 true]),(110,.st 73 true),(109,.box [.v 2,.v 2,.v 2,.v 2,.v 2,.v 2,.v 2,.v 22,.v 2,.v 2,.v 2])]⟩
def Bty:=jn (By0 K) 3 B1r [] (Asa K) kN
def By1:=ct (By0 K) (Axb K) (kC (Bty K) kN)
def Asb (K:Nat)(a1:An)(v5:Int)(v22:Int)(v23:Int)(v24:Int)(v25:Int)(v26:Int)(v27:Int)(v28:List Int)(v29:List Int)(v30:List Int)(v31:List As)(v32:List Az)(v33:List Int)(v34:Int)(v35:Int)(v36:Int)(v37:Int)(v38:Int)(v39:Int)(v40:Int)(v41:List Int)(v42:Int)(v43:Int)(v44:Int):Option (Et×C5):=(bif (v34 != 0)then some ((Et.mk v34 (An.mk v35 v36) (Br.mk (An.mk v37 v38) v39 v40) v41 v42 v43 v44),(C5.mk (Ea.mk v22 v23 v24 v25 v26 v27) (Dn.mk v28 v29 v30) v31 v32 v33))else(if(0:Int)≤v5∧v5<(v31.length:Int)then(if(0:Int)≤v5∧v5<(v31.length:Int)then(if(0:Int)≤v5∧v5<(v31.length:Int)then((Avg K (C5.mk (Ea.mk v22 v23 v24 v25 v26 v27) (Dn.mk v28 v29 v30) v31 v32 v33) v25).bind fun r45=>some ((Et.mk v34 (An.mk v35 v36) (Br.mk a1 ((gt v31 v5).Sl) (An7 .i64 (((gt v31 v5).F6).length:Int) 1)) v41 v42 r45.1 v44),r45.2))else none)else none)else none))
def Aqg (K:Nat)(a1:An)(a2:Int)(a3:Int)(v5:Int)(v6:Int)(v7:Int)(v8:Int)(v9:Int)(v10:Int)(v11:Int)(v12:List Int)(v13:List Int)(v14:List Int)(v15:List As)(v16:List Az)(v17:List Int)(v18:Et)(v19:Et):Option (Et×C5):=(bif (v18.W4 != 0)then some (v18,(C5.mk (Ea.mk v6 v7 v8 v9 v10 v11) (Dn.mk v12 v13 v14) v15 v16 v17))else((Ao7 K (Ea.mk v6 v7 v8 v9 v10 v11) a2).bind fun r20=>(bif r20 then((Axa K (C5.mk (Ea.mk v6 v7 v8 v9 v10 v11) (Dn.mk v12 v13 v14) v15 v16 v17) v5 a2 v18).bind fun r21=>(Asb K a1 v5 r21.2.fC.Ay r21.2.fC.G8 r21.2.fC.E6 r21.2.fC.Gu r21.2.fC.E7 r21.2.fC.G9 r21.2.fP.N7 r21.2.fP.Vi r21.2.fP.N8 r21.2.fL r21.2.fQ r21.2.Acy r21.1.W4 r21.1.fH.Bm r21.1.fH.C9 r21.1.fR.fH.Bm r21.1.fR.fH.C9 r21.1.fR.Sl r21.1.fR.fNo r21.1.fB r21.1.W5 r21.1.Gu r21.1.N9))else((Axb K (C5.mk (Ea.mk v6 v7 v8 v9 v10 v11) (Dn.mk v12 v13 v14) v15 v16 v17) v5 a2 a3 v18).bind fun r46=>(Asb K a1 v5 r46.2.fC.Ay r46.2.fC.G8 r46.2.fC.E6 r46.2.fC.Gu r46.2.fC.E7 r46.2.fC.G9 r46.2.fP.N7 r46.2.fP.Vi r46.2.fP.N8 r46.2.fL r46.2.fQ r46.2.Acy r46.1.W4 r46.1.fH.Bm r46.1.fH.C9 r46.1.fR.fH.Bm r46.1.fR.fH.C9 r46.1.fR.Sl r46.1.fR.fNo r46.1.fB r46.1.W5 r46.1.Gu r46.1.N9)))))
def Axc (K:Nat)(a0:C5)(a1:An)(a2:Int)(a3:Int):Option (Et×C5):=((Gx K a2 1 200).bind fun r1=>(bif r1 then((Ark K a3).bind fun r2=>(bif (!r2)then some ((Et.mk 1 (An.mk 0 0) (Br.mk (An.mk 0 0) 0 0) [] 0 0 0),a0)else((Alx K a0 a1).bind fun r3=>((Aoz K a0 a1).bind fun r4=>(bif (r3.2==0)then(if(0:Int)≤r3.1∧r3.1<(a0.fL.length:Int)then(if(0:Int)≤r3.1∧r3.1<(a0.fL.length:Int)then(bif (decide ((((gt a0.fL r3.1).F6).length:Int)≥12))then(Aqg K a1 a2 a3 r3.1 a0.fC.Ay a0.fC.G8 a0.fC.E6 a0.fC.Gu a0.fC.E7 a0.fC.G9 a0.fP.N7 a0.fP.Vi a0.fP.N8 a0.fL a0.fQ a0.Acy (Et.mk 8 (An.mk 0 0) (Br.mk (An.mk 0 0) 0 0) [] r4 0 0) (Et.mk 0 (An.mk 0 0) (Br.mk (An.mk 0 0) 0 0) [] 0 0 0))else(Aqg K a1 a2 a3 r3.1 a0.fC.Ay a0.fC.G8 a0.fC.E6 a0.fC.Gu a0.fC.E7 a0.fC.G9 a0.fP.N7 a0.fP.Vi a0.fP.N8 a0.fL a0.fQ a0.Acy (Et.mk r3.2 (An.mk 0 0) (Br.mk (An.mk 0 0) 0 0) [] r4 0 0) (Et.mk 0 (An.mk 0 0) (Br.mk (An.mk 0 0) 0 0) [] 0 0 0)))else none)else none)else(Aqg K a1 a2 a3 r3.1 a0.fC.Ay a0.fC.G8 a0.fC.E6 a0.fC.Gu a0.fC.E7 a0.fC.G9 a0.fP.N7 a0.fP.Vi a0.fP.N8 a0.fL a0.fQ a0.Acy (Et.mk r3.2 (An.mk 0 0) (Br.mk (An.mk 0 0) 0 0) [] r4 0 0) (Et.mk 0 (An.mk 0 0) (Br.mk (An.mk 0 0) 0 0) [] 0 0 0)))))))else some ((Et.mk 1 (An.mk 0 0) (Br.mk (An.mk 0 0) 0 0) [] 0 0 0),a0)))
def Btz:=fd Tryz.func264 ⟨[.b 32 false,.v 36,.v 3,.v 3],[.v 73],false⟩ (gC (A2a K) (gC (A7z K) (gC (A70 K) (gC (Bkf K) (gC (Bkk K) (gC (Bgc K) (gC (Byx K) (gC (By1 K) gN)))))))) [13,14,15,37,38] [31,127] [(3,[.take 1 6 5022,.take 1 7 5023,.take 1 8 5024,.take 1 9 5025,.take 1 10 5026,.take 1 11 5027]),(8,[.take 111 7 6783]),(10,[.take 111 7 6783,.frz 6783]),(11,[.take 111 7 6783,.frz 6783]),(14,[.take 1 9 5025,.opn 5025 (.tmp 9),.takeE 5025 11 41611]),(15,[.put 1])] [(43,[.opn 5025 (.tmp 43)]),(45,[.takeE 5025 11 41611])]
def B1s:Ej:=⟨[(0,.p 1),(5,.p 105),(8,.p 108),(9,.v 2),(11,.p 111)],[(1,.box [.v 2,.v 2,.v 2,.v 2,.v 2,.v 2,.T 5 true,.T 3 true,.T 3 true,.T 50 true,.T 52 false,.T 3 true]),(111,.box [.v 2,.v 2,.v 2,.v 2,.v 2,.v 2,.v 2,.v 22,.v 2,.v 2,.v 2]),(108,.st 73 true),(105,.st 36 true)]⟩
def B1t:Ej:=⟨[(0,.p 1),(2,.v 2),(3,.v 2),(5,.p 105),(8,.p 108),(9,.v 2),(11,.p 111)],[(1,.box [.v 2,.v 2,.v 2,.v 2,.v 2,.v 2,.T 5 true,.T 3 true,.T 3 true,.T 50 true,.T 52 false,.T 3 true]),(111,.st 73 true),(108,.st 73 true),(105,.st 36 true)]⟩
def Bkn:=jn (Btz K) 127 B1s [] (fun a b c d e f g h i j k l m o p q r s t u v w x y _ a1=>Asb K a1 a b c d e f g h i j k l m o p q r s t u v w x y) kN
def Bp6:=jn (Btz K) 31 B1t [] (fun a b c d e f g h i j k l m o p q r s=>Aqg K s a b c d e f g h i j k l m o p q r) (kC (Bkn K) kN)
def By2:=ct (Btz K) (Axc K) (kC (Bp6 K) kN)
def Ayk (K:Nat)(a0:As):Option (As):=((Anj K a0).bind fun r1=>some (As.mk r1.Vi r1.C9 (An6 .i64 a0.Sl 1) r1.fUp r1.Sm 0 r1.Sn r1.So ([]:List Int) 0 0 ([]:List Bc) ([]:List Int)))
def By3:=ct (fd Tryz.func164 ⟨[.v 50],[.n 50 false],true⟩ (gC (A9w K) gN)) (Ayk K)
def Auy (K:Nat)(a0:C5)(a1:Int):Option (C5):=(if(0:Int)≤a1∧a1<(a0.fL.length:Int)then(if(0:Int)≤a1∧a1<(a0.fL.length:Int)then((Asz K (gt a0.fL a1) 0).bind fun r1=>(if(0:Int)≤a1∧a1<(a0.fL.length:Int)then((Aq5 K a0 ((gt a0.fL a1).Ay)).bind fun r2=>(if(0:Int)≤a1∧a1<(r2.fL.length:Int)then(if(0:Int)≤a1∧a1<(r2.fL.length:Int)then((Ayk K (gt r2.fL a1)).bind fun r3=>(if(0:Int)≤a1∧a1<(r2.fL.length:Int)then(if(r2.fQ++([r1]:List Az)).length*72≤140737488355328∧(r2.fQ++([r1]:List Az)).length≤maxLen then some (C5.mk r2.fC r2.fP (r2.fL.set a1.toNat r3) (r2.fQ++([r1]:List Az)) r2.Acy)else none)else none))else none)else none))else none))else none)else none)
def By4:=ct (fd Tryz.func84 ⟨[.b 32 false,.v 3],[],false⟩ (gC (Bj8 K) (gC (Bj7 K) (gC (By3 K) gN))) [] [] [(0,[.take 1 9 5025,.opn 5025 (.tmp 1),.takeE 5025 11 41611,.takeE 5025 12 41612]),(1,[.put 1,.take 1 9 5025]),(2,[.take 1 9 5025,.opn 5025 (.tmp 1),.takeE 5025 11 41611,.takeE 5025 12 41612]),(3,[.take 1 10 5026,.frz 20384,.frz 20385])] [(21,[.put 1])]) (Auy K)
def At9 (K:Nat)(a1:Int)(v21:List As):Option ((List As)):=(if(0:Int)≤a1∧a1<(v21.length:Int)then(Aqk (v21.set a1.toNat (As.mk ((gt v21 a1).Vi) ((gt v21 a1).C9) ((gt v21 a1).Sl) 0 ((gt v21 a1).Sm) ((gt v21 a1).Ef) ((gt v21 a1).Sn) ((gt v21 a1).So) ((gt v21 a1).Ay) ((gt v21 a1).Acx) ((gt v21 a1).Sq) ((gt v21 a1).F6) ((gt v21 a1).Fi))) fun v22=>(if(0:Int)≤a1∧a1<(v22.length:Int)then(Aqk (v22.set a1.toNat (As.mk ((gt v22 a1).Vi) ((gt v22 a1).C9) ((gt v22 a1).Sl) ((gt v22 a1).fUp) 0 ((gt v22 a1).Ef) ((gt v22 a1).Sn) ((gt v22 a1).So) ((gt v22 a1).Ay) ((gt v22 a1).Acx) ((gt v22 a1).Sq) ((gt v22 a1).F6) ((gt v22 a1).Fi))) fun v23=>(if(0:Int)≤a1∧a1<(v23.length:Int)then(Aqk (v23.set a1.toNat (As.mk ((gt v23 a1).Vi) ((gt v23 a1).C9) ((gt v23 a1).Sl) ((gt v23 a1).fUp) ((gt v23 a1).Sm) ((gt v23 a1).Ef) 0 ((gt v23 a1).So) ((gt v23 a1).Ay) ((gt v23 a1).Acx) ((gt v23 a1).Sq) ((gt v23 a1).F6) ((gt v23 a1).Fi))) fun v24=>(if(0:Int)≤a1∧a1<(v24.length:Int)then(Aqk (v24.set a1.toNat (As.mk ((gt v24 a1).Vi) ((gt v24 a1).C9) ((gt v24 a1).Sl) ((gt v24 a1).fUp) ((gt v24 a1).Sm) ((gt v24 a1).Ef) ((gt v24 a1).Sn) 0 ((gt v24 a1).Ay) ((gt v24 a1).Acx) ((gt v24 a1).Sq) ((gt v24 a1).F6) ((gt v24 a1).Fi))) fun v25=>some v25)else none))else none))else none))else none)
def Ar1 (K:Nat)(a0:List As)(a1:Int)(v5:List As)(v6:Int)(v7:Int)(v8:Int)(v9:Int)(v10:Int)(v11:Int)(v12:Int)(v13:Int)(v14:List Int)(v15:Int)(v16:Int)(v17:List Bc)(v18:List Int):Option ((List As)):=((Ad8 K a0 v12).bind fun r19=>(bif r19 then(if(0:Int)≤(An7 .i64 v12 1)∧(An7 .i64 v12 1)<(v5.length:Int)then(Aqk (v5.set (An7 .i64 v12 1).toNat (As.mk ((gt v5 (An7 .i64 v12 1)).Vi) ((gt v5 (An7 .i64 v12 1)).C9) ((gt v5 (An7 .i64 v12 1)).Sl) ((gt v5 (An7 .i64 v12 1)).fUp) ((gt v5 (An7 .i64 v12 1)).Sm) ((gt v5 (An7 .i64 v12 1)).Ef) ((gt v5 (An7 .i64 v12 1)).Sn) v13 ((gt v5 (An7 .i64 v12 1)).Ay) ((gt v5 (An7 .i64 v12 1)).Acx) ((gt v5 (An7 .i64 v12 1)).Sq) ((gt v5 (An7 .i64 v12 1)).F6) ((gt v5 (An7 .i64 v12 1)).Fi))) fun v20=>(At9 K a1 v20))else none)else(At9 K a1 v5)))
def Aqp (K:Nat)(a0:List As)(a1:Int)(r1:(List As))(v27:Bool)(v28:Int)(v29:Int)(v30:Int)(v31:Int)(v32:Int)(v33:Int)(v34:Int)(v35:Int)(v36:List Int)(v37:Int)(v38:Int)(v39:List Bc)(v40:List Int):Option ((List As)):=(bif v27 then(if(0:Int)≤(An7 .i64 v31 1)∧(An7 .i64 v31 1)<(r1.length:Int)then(Aqk (r1.set (An7 .i64 v31 1).toNat (As.mk ((gt r1 (An7 .i64 v31 1)).Vi) ((gt r1 (An7 .i64 v31 1)).C9) ((gt r1 (An7 .i64 v31 1)).Sl) ((gt r1 (An7 .i64 v31 1)).fUp) ((gt r1 (An7 .i64 v31 1)).Sm) v34 ((gt r1 (An7 .i64 v31 1)).Sn) ((gt r1 (An7 .i64 v31 1)).So) ((gt r1 (An7 .i64 v31 1)).Ay) ((gt r1 (An7 .i64 v31 1)).Acx) ((gt r1 (An7 .i64 v31 1)).Sq) ((gt r1 (An7 .i64 v31 1)).F6) ((gt r1 (An7 .i64 v31 1)).Fi))) fun v41=>(Ar1 K a0 a1 v41 v28 v29 v30 v31 v32 v33 v34 v35 v36 v37 v38 v39 v40))else none)else(Ar1 K a0 a1 r1 v28 v29 v30 v31 v32 v33 v34 v35 v36 v37 v38 v39 v40))
def Azv (K:Nat)(a0:List As)(a1:Int):Option ((List As)):=((Atx K a0).bind fun r1=>((Ad8 K a0 (An6 .i64 a1 1)).bind fun r2=>(bif (!r2)then some r1 else(if(0:Int)≤a1∧a1<(a0.length:Int)then((Ad8 K a0 ((gt a0 a1).So)).bind fun r3=>(bif r3 then(if(0:Int)≤(An7 .i64 ((gt a0 a1).So) 1)∧(An7 .i64 ((gt a0 a1).So) 1)<(r1.length:Int)then(Aqk (r1.set (An7 .i64 ((gt a0 a1).So) 1).toNat (As.mk ((gt r1 (An7 .i64 ((gt a0 a1).So) 1)).Vi) ((gt r1 (An7 .i64 ((gt a0 a1).So) 1)).C9) ((gt r1 (An7 .i64 ((gt a0 a1).So) 1)).Sl) ((gt r1 (An7 .i64 ((gt a0 a1).So) 1)).fUp) ((gt r1 (An7 .i64 ((gt a0 a1).So) 1)).Sm) ((gt r1 (An7 .i64 ((gt a0 a1).So) 1)).Ef) ((gt a0 a1).Sn) ((gt r1 (An7 .i64 ((gt a0 a1).So) 1)).So) ((gt r1 (An7 .i64 ((gt a0 a1).So) 1)).Ay) ((gt r1 (An7 .i64 ((gt a0 a1).So) 1)).Acx) ((gt r1 (An7 .i64 ((gt a0 a1).So) 1)).Sq) ((gt r1 (An7 .i64 ((gt a0 a1).So) 1)).F6) ((gt r1 (An7 .i64 ((gt a0 a1).So) 1)).Fi))) fun v4=>(Ar1 K a0 a1 v4 ((gt a0 a1).Vi) ((gt a0 a1).C9) ((gt a0 a1).Sl) ((gt a0 a1).fUp) ((gt a0 a1).Sm) ((gt a0 a1).Ef) ((gt a0 a1).Sn) ((gt a0 a1).So) ((gt a0 a1).Ay) ((gt a0 a1).Acx) ((gt a0 a1).Sq) ((gt a0 a1).F6) ((gt a0 a1).Fi)))else none)else(bif (((gt a0 a1).So)==0)then((Ad8 K a0 ((gt a0 a1).fUp)).bind fun r26=>(bif r26 then(if(0:Int)≤(An7 .i64 ((gt a0 a1).fUp) 1)∧(An7 .i64 ((gt a0 a1).fUp) 1)<(a0.length:Int)then(Aqp K a0 a1 r1 (((gt a0 (An7 .i64 ((gt a0 a1).fUp) 1)).Ef)==(An6 .i64 a1 1)) ((gt a0 a1).Vi) ((gt a0 a1).C9) ((gt a0 a1).Sl) ((gt a0 a1).fUp) ((gt a0 a1).Sm) ((gt a0 a1).Ef) ((gt a0 a1).Sn) ((gt a0 a1).So) ((gt a0 a1).Ay) ((gt a0 a1).Acx) ((gt a0 a1).Sq) ((gt a0 a1).F6) ((gt a0 a1).Fi))else none)else(Aqp K a0 a1 r1 false ((gt a0 a1).Vi) ((gt a0 a1).C9) ((gt a0 a1).Sl) ((gt a0 a1).fUp) ((gt a0 a1).Sm) ((gt a0 a1).Ef) ((gt a0 a1).Sn) ((gt a0 a1).So) ((gt a0 a1).Ay) ((gt a0 a1).Acx) ((gt a0 a1).Sq) ((gt a0 a1).F6) ((gt a0 a1).Fi))))else(Aqp K a0 a1 r1 false ((gt a0 a1).Vi) ((gt a0 a1).C9) ((gt a0 a1).Sl) ((gt a0 a1).fUp) ((gt a0 a1).Sm) ((gt a0 a1).Ef) ((gt a0 a1).Sn) ((gt a0 a1).So) ((gt a0 a1).Ay) ((gt a0 a1).Acx) ((gt a0 a1).Sq) ((gt a0 a1).F6) ((gt a0 a1).Fi)))))else none))))
def Bp7:=fd Tryz.func162 ⟨[.v 29,.v 3],[.n 29 true],false⟩ (gC (Bga K) (gC (A6z K) gN)) [35,36,40,41,42] [31,63,499]
def By5:Ej:=⟨[(1,.v 2),(5,.o 1005 50 true)],[]⟩
def B1u:Ej:=⟨[(0,.v 29),(1,.v 2),(5,.o 1005 50 true),(6,.p 106)],[(106,.box [.v 2,.v 2,.v 2,.v 2,.v 2,.v 2,.v 2,.v 2,.v 26,.v 2,.v 2,.v 48,.v 26])]⟩
def B1v:Ej:=⟨[(0,.v 29),(1,.v 2),(5,.o 1005 50 true),(6,.p 106),(32,.v 4)],[(106,.box [.v 2,.v 2,.v 2,.v 2,.v 2,.v 2,.v 2,.v 2,.v 26,.v 2,.v 2,.v 48,.v 26])]⟩
def Bp8:=jn (Bp7 K) 63 By5 [] (At9 K) kN
def Bgd:=jn (Bp7 K) 31 B1u [] (Ar1 K) (kC (Bp8 K) kN)
def Bko:=jn (Bp7 K) 499 B1v [] (Aqp K) (kC (Bgd K) kN)
def By6:=ct (Bp7 K) (Azv K) (kC (Bgd K) (kC (Bko K) kN))
def Axd (K:Nat)(a0:C5)(a1:Int):Option (C5):=(if(0:Int)≤a1∧a1<(a0.fL.length:Int)then(if(0:Int)≤a1∧a1<(a0.fL.length:Int)then((Asz K (gt a0.fL a1) (An6 .i64 a1 1)).bind fun r1=>(if(0:Int)≤a1∧a1<(a0.fL.length:Int)then((Aq5 K a0 ((gt a0.fL a1).Ay)).bind fun r2=>((Azv K r2.fL a1).bind fun r3=>(if(0:Int)≤a1∧a1<(r3.length:Int)then(if(0:Int)≤a1∧a1<(r3.length:Int)then((Az9 K (gt r3 a1)).bind fun r4=>(if(0:Int)≤a1∧a1<(r3.length:Int)then(if(r2.fQ++([r1]:List Az)).length*72≤140737488355328∧(r2.fQ++([r1]:List Az)).length≤maxLen then some (C5.mk r2.fC r2.fP (r3.set a1.toNat r4) (r2.fQ++([r1]:List Az)) r2.Acy)else none)else none))else none)else none)))else none))else none)else none)
def By7:=ct (fd Tryz.func82 ⟨[.b 32 false,.v 3],[],false⟩ (gC (Bj8 K) (gC (Bj7 K) (gC (By6 K) (gC (Br8 K) gN)))) [] [] [(0,[.take 1 9 5025,.opn 5025 (.tmp 1),.takeE 5025 11 41611,.takeE 5025 12 41612]),(1,[.put 1,.take 1 9 5025]),(2,[.take 1 9 5025,.frz 5025]),(3,[.opn 3031 (.tmp 1),.takeE 3031 11 41995,.takeE 3031 12 41996]),(4,[.take 1 10 5026,.frz 20448,.frz 20449])] [(23,[.put 1])]) (Axd K)
def Ayl (K:Nat)(a0:Az):Option (Az):=(if(([]:List Int)++a0.Fi).length*8≤140737488355328∧(([]:List Int)++a0.Fi).length≤maxLen then(if(([]:List Int)++a0.Ay).length*8≤140737488355328∧(([]:List Int)++a0.Ay).length≤maxLen then some (Az.mk a0.Bm a0.Ef (([]:List Int)++a0.Fi) (([]:List Int)++a0.Ay) a0.Wz)else none)else none)
def By8:=ct (fd Tryz.func159 ⟨[.v 52],[.n 52 true],true⟩ gN) (Ayl K)
def Apz (K:Nat):Nat->Int->Int->Int->Int->Int->Int->Int->(List Int)->(List Int)->(List Int)->(List As)->(List Az)->(List Int)->C5->Int->Int->Int->Int->Int->Int->(List Int)->(List Int)->(List Int)->(List As)->(List Az)->(List Int)->Option (C5)
 |0,_,_,_,_,_,_,_,_,_,_,_,_,_,_,_,_,_,_,_,_,_,_,_,_,_,_=>none
 |n1+1,v3,v4,v5,v6,v7,v8,v9,v10,v11,v12,v13,v14,v15,v16,v17,v18,v19,v20,v21,v22,v23,v24,v25,v26,v27,v28=>(bif (decide (v3<(v27.length:Int)))then(if(0:Int)≤v3∧v3<(v27.length:Int)then((Ayl K (gt v27 v3)).bind fun r29=>(if(v14++[r29]).length*72≤140737488355328∧(v14++[r29]).length≤maxLen then(Apz K n1 (An6 .i64 v3 1) v4 v5 v6 v7 v8 v9 v10 v11 v12 v13 (v14++[r29]) v15 v16 v17 v18 v19 v20 v21 v22 v23 v24 v25 v26 v27 v28)else none))else none)else(if(([]:List Int)++v28).length*8≤140737488355328∧(([]:List Int)++v28).length≤maxLen then some (C5.mk (Ea.mk v4 v5 v6 v7 v8 v9) (Dn.mk v10 v11 v12) v13 v14 (([]:List Int)++v28))else none))
def Aqb (K:Nat)(a0:C5):Option (C5):=((Aq4 K a0.fP).bind fun r1=>((Atx K a0.fL).bind fun r2=>(Apz K K 0 a0.fC.Ay a0.fC.G8 a0.fC.E6 a0.fC.Gu a0.fC.E7 a0.fC.G9 r1.N7 r1.Vi r1.N8 r2 ([]:List Az) a0.Acy (C5.mk (Ea.mk 0 0 0 0 0 0) (Dn.mk [] [] []) [] [] []) a0.fC.Ay a0.fC.G8 a0.fC.E6 a0.fC.Gu a0.fC.E7 a0.fC.G9 a0.fP.N7 a0.fP.Vi a0.fP.N8 a0.fL a0.fQ a0.Acy)))
def By9:=fd Tryz.func80 ⟨[.v 32],[.n 32 true],false⟩ (gC (Bf8 K) (gC (Bga K) (gC (By8 K) gN))) [] [] [(9,[.take 103 10 6658]),(11,[.take 103 6 6654,.take 103 7 6655,.take 103 8 6656,.take 103 9 6657,.take 103 10 6658])] [(33,[.put 3033])]
def B1w:Ej:=⟨[(1,.p 101),(2,.p 102),(3,.p 103),(4,.v 2)],[(103,.box [.v 2,.v 2,.v 2,.v 2,.v 2,.v 2,.T 5 true,.T 3 true,.T 3 true,.T 50 true,.T 52 true,.v 26]),(102,.st 32 true),(101,.box [.v 2,.v 2,.v 2,.v 2,.v 2,.v 2,.v 22,.v 26,.v 26,.v 29,.v 30,.v 26])]⟩
def Bkp:=lp (By9 K) 506 B1w [] (Apz K) (fun n=>kN)
def Bb7:=ct (By9 K) (Aqb K) (kC (Bkp K K) kN)
def Ap9 (K:Nat)(a0:List As)(a1:Int):Option (Bool):=(bif (a1==0)then some true else((Ad8 K a0 a1).bind fun r1=>(bif r1 then(if(0:Int)≤(An7 .i64 a1 1)∧(An7 .i64 a1 1)<(a0.length:Int)then some (((gt a0 (An7 .i64 a1 1)).Vi)==1)else none)else some false)))
def Bza:=ct (fd Tryz.func256 ⟨[.v 29,.v 3],[.v 4],true⟩ (gC (A6z K) gN) [6,7,10,11]) (Ap9 K)
def As7 (K:Nat)(a0:List As)(a1:Int):Option (Bool):=((Ax2 K a0 a1).bind fun r19=>(bif (decide ((r19.length:Int)≤4))then(if(0:Int)≤(An7 .i64 (r19.length:Int) 1)∧(An7 .i64 (r19.length:Int) 1)<(r19.length:Int)then((Ar8 K a0 (gt r19 (An7 .i64 (r19.length:Int) 1))).bind fun r20=>some (!r20))else none)else some false))
def Avh (K:Nat)(a0:List As)(a1:Int)(v8:Int)(v12:Int):Option (Bool):=(bif (v12==0)then((Ar8 K a0 a1).bind fun r18=>(bif r18 then(if(0:Int)≤(An7 .i64 v8 1)∧(An7 .i64 v8 1)<(a0.length:Int)then(bif (((gt a0 (An7 .i64 v8 1)).Ef) != (An6 .i64 a1 1))then some false else(As7 K a0 a1))else none)else(As7 K a0 a1)))else(As7 K a0 a1))
def Avi (K:Nat)(a0:List As)(a1:Int)(v8:Int)(v12:Int):Option (Bool):=(bif (v12 != 0)then(if(0:Int)≤(An7 .i64 v12 1)∧(An7 .i64 v12 1)<(a0.length:Int)then(bif (((gt a0 (An7 .i64 v12 1)).Sn) != (An6 .i64 a1 1))then some false else(Avh K a0 a1 v8 v12))else none)else(Avh K a0 a1 v8 v12))
def Avj (K:Nat)(a0:List As)(a1:Int)(v8:Int)(v9:Int)(v11:Int)(v12:Int):Option (Bool):=(bif (v11 != 0)then(if(0:Int)≤(An7 .i64 v11 1)∧(An7 .i64 v11 1)<(a0.length:Int)then(bif (((gt a0 (An7 .i64 v11 1)).So) != (An6 .i64 a1 1))then some false else(bif (((gt a0 (An7 .i64 v11 1)).fUp) != v8)then some false else(bif (((gt a0 (An7 .i64 v11 1)).Sm) != v9)then some false else(Avi K a0 a1 v8 v12))))else none)else(Avi K a0 a1 v8 v12))
def Avk (K:Nat)(a0:List As)(a1:Int)(v5:Int)(v6:Int)(v7:Int)(v8:Int)(v9:Int)(v10:Int)(v11:Int)(v12:Int)(v13:List Int)(v14:Int)(v15:Int)(v16:List Bc)(v17:List Int):Option (Bool):=(bif (v10 != 0)then(if(0:Int)≤(An7 .i64 v10 1)∧(An7 .i64 v10 1)<(a0.length:Int)then(bif (((gt a0 (An7 .i64 v10 1)).So) != 0)then some false else(bif (((gt a0 (An7 .i64 v10 1)).fUp) != (An6 .i64 a1 1))then some false else(bif (((gt a0 (An7 .i64 v10 1)).Sm) != v7)then some false else(Avj K a0 a1 v8 v9 v11 v12))))else none)else(Avj K a0 a1 v8 v9 v11 v12))
def A0u (K:Nat)(a0:List As)(a1:Int):Option (Bool):=(if(0:Int)≤a1∧a1<(a0.length:Int)then(bif (((gt a0 a1).fUp) != 0)then((Ad8 K a0 ((gt a0 a1).fUp)).bind fun r1=>(bif r1 then((Ap9 K a0 ((gt a0 a1).Ef)).bind fun r2=>(bif r2 then((Ap9 K a0 ((gt a0 a1).Sn)).bind fun r3=>(bif r3 then((Ap9 K a0 ((gt a0 a1).So)).bind fun r4=>(bif (!r4)then some false else(Avk K a0 a1 ((gt a0 a1).Vi) ((gt a0 a1).C9) ((gt a0 a1).Sl) ((gt a0 a1).fUp) ((gt a0 a1).Sm) ((gt a0 a1).Ef) ((gt a0 a1).Sn) ((gt a0 a1).So) ((gt a0 a1).Ay) ((gt a0 a1).Acx) ((gt a0 a1).Sq) ((gt a0 a1).F6) ((gt a0 a1).Fi))))else some false))else some false))else some false))else((Ap9 K a0 ((gt a0 a1).Ef)).bind fun r21=>(bif r21 then((Ap9 K a0 ((gt a0 a1).Sn)).bind fun r22=>(bif r22 then((Ap9 K a0 ((gt a0 a1).So)).bind fun r23=>(bif (!r23)then some false else(Avk K a0 a1 ((gt a0 a1).Vi) ((gt a0 a1).C9) ((gt a0 a1).Sl) ((gt a0 a1).fUp) ((gt a0 a1).Sm) ((gt a0 a1).Ef) ((gt a0 a1).Sn) ((gt a0 a1).So) ((gt a0 a1).Ay) ((gt a0 a1).Acx) ((gt a0 a1).Sq) ((gt a0 a1).F6) ((gt a0 a1).Fi))))else some false))else some false)))else none)
def Bhi:=fd Tryz.func193 ⟨[.v 29,.v 3],[.v 4],true⟩ (gC (Bjs K) (gC (Bjt K) (gC (A6z K) (gC (Bza K) gN)))) [15,16,20,21,22,23,27,28,29,30,34,35,36,37,55,56,61,62,63,83,84,89,90,91,100,101,115,116,119,120,121,138,139] [7,15,31,63,127]
def B1x:Ej:=⟨[(0,.v 29),(1,.v 2)],[]⟩
def Bb8:Ej:=⟨[(0,.v 29),(1,.v 2),(5,.p 105)],[(105,.box [.v 2,.v 2,.v 2,.v 2,.v 2,.v 2,.v 2,.v 2,.v 26,.v 2,.v 2,.v 48,.v 26])]⟩
def Bkq:=jn (Bhi K) 127 B1x [] (As7 K) kN
def Bp9:=jn (Bhi K) 63 Bb8 [] (fun a b _ _ _ f _ _ _ j _ _ _ _ _=>Avh K a b f j) (kC (Bkq K) kN)
def Bqa:=jn (Bhi K) 31 Bb8 [] (fun a b _ _ _ f _ _ _ j _ _ _ _ _=>Avi K a b f j) (kC (Bp9 K) kN)
def Bqb:=jn (Bhi K) 15 Bb8 [] (fun a b _ _ _ f g _ i j _ _ _ _ _=>Avj K a b f g i j) (kC (Bqa K) kN)
def Bt0:=jn (Bhi K) 7 Bb8 [] (Avk K) (kC (Bqb K) kN)
def Bzb:=ct (Bhi K) (A0u K) (kC (Bt0 K) kN)
def Axe (K:Nat)(v1:Int)(C1:Int->Option (Bool)):Option (Bool):=(C1 (An6 .i64 v1 1))
def Apm (K:Nat)(a0:List As):Nat->Int->Option (Bool)
 |0,_=>none
 |n1+1,v1=>(bif (decide (v1<(a0.length:Int)))then(if(0:Int)≤v1∧v1<(a0.length:Int)then(bif (((gt a0 v1).Vi)==1)then((A0u K a0 v1).bind fun r2=>(bif (!r2)then some false else(Axe K v1 (Apm K a0 n1))))else(Axe K v1 (Apm K a0 n1)))else none)else some true)
def Azw (K:Nat)(a0:List As):Option (Bool):=(Apm K a0 K 0)
def Bt1:=fd Tryz.func99 ⟨[.v 29],[.v 4],true⟩ (gC (Bzb K) gN) [15,16] [105]
def Bkr:=fun(C26:CT Bkb _)=>jn (Bt1 K) 105 Bkb [(26,ar Bkb C26)] (fun a b=>Axe K b (C26 a)) kN
def Bqc:=lp (Bt1 K) 26 Bkb [] (fun n a=>Apm K a n) (fun n=>(kC (Bkr K _) kN))
def Bzc:=ct (Bt1 K) (Azw K) (kC (Bqc K K) kN)
def Av5 (K:Nat)(v2:Int)(v3:List Int)(v4:List Int)(v5:List Int)(C1:Int->Int->(List Int)->(List Int)->(List Int)->Option (Int))(v6:Int):Option (Int):=(C1 v6 (An6 .i64 v2 1) v3 v4 v5)
def Anx (K:Nat)(a1:Int):Nat->Int->Int->(List Int)->(List Int)->(List Int)->Option (Int)
 |0,_,_,_,_,_=>none
 |n1+1,v1,v2,v3,v4,v5=>(bif (decide (v2<(v4.length:Int)))then(if(0:Int)≤v2∧v2<(v4.length:Int)then(bif ((gt v4 v2)==a1)then(Av5 K v2 v3 v4 v5 (Anx K a1 n1) (An6 .i64 v1 1))else(Av5 K v2 v3 v4 v5 (Anx K a1 n1) v1))else none)else some v1)
def Aym (K:Nat)(a0:Dn)(a1:Int):Option (Int):=(Anx K a1 K 0 0 a0.N7 a0.Vi a0.N8)
def Bt2:=fd Tryz.func201 ⟨[.v 28,.v 3],[.v 3],true⟩ gN [] [233]
def Bqd:Ej:=⟨[(1,.v 2),(2,.p 102),(5,.v 2),(6,.v 2)],[(102,.box [.v 22,.v 26,.v 26])]⟩
def Bks:=fun(C58:CT Bqd _)=>jn Bt2 233 Bqd [(58,ar Bqd C58)] (fun a b c d e f=>Av5 K c d e f (C58 a) b) kN
def Bqe:=lp Bt2 58 Bqd [] (fun n a=>Anx K a n) (fun n=>(kC (Bks K _) kN))
def Bzd:=ct Bt2 (Aym K) (kC (Bqe K K) kN)
def As8 (K:Nat)(a0:List As)(a1:Int):Option (Bool):=(if(0:Int)≤a1∧a1<(a0.length:Int)then(bif (((gt a0 a1).Vi)==1)then(if(0:Int)≤a1∧a1<(a0.length:Int)then(bif (((gt a0 a1).fUp) != 0)then((Ar8 K a0 a1).bind fun r1=>some (!r1))else some false)else none)else some false)else none)
def Bsf:=ct (fd Tryz.func200 ⟨[.v 29,.v 3],[.v 4],true⟩ (gC (Bjt K) gN) [10,11,17,18,19]) (As8 K)
def Aua (K:Nat)(a0:List As):Nat->Int->(List Int)->Option ((List Int))
 |0,_,_=>none
 |n1+1,v1,v2=>((Ad8 K a0 v1).bind fun r3=>(bif r3 then(bif (decide ((v2.length:Int)<(a0.length:Int)))then(if(v2++([(An7 .i64 v1 1)]:List Int)).length*8≤140737488355328∧(v2++([(An7 .i64 v1 1)]:List Int)).length≤maxLen then(if(0:Int)≤(An7 .i64 v1 1)∧(An7 .i64 v1 1)<(a0.length:Int)then(Aua K a0 n1 ((gt a0 (An7 .i64 v1 1)).Sn) (v2++([(An7 .i64 v1 1)]:List Int)))else none)else none)else some v2)else some v2))
def Awx (K:Nat)(a0:List As)(a1:Int):Option ((List Int)):=(Aua K a0 K a1 ([]:List Int))
def Bze:=fd Tryz.func199 ⟨[.v 29,.v 3],[.n 26 true],true⟩ (gC (A6z K) gN) [9,10]
def Bqf:=lp (Bze K) 28 h_4 [] (fun n a=>Aua K a n) (fun n=>kN)
def Bsg:=ct (Bze K) (Awx K) (kC (Bqf K K) kN)
def Ano (K:Nat)(v4:Int)(v15:List Az)(v20:List Int)(v21:Int)(C3:(List Int)->Int->Option (Bool)):Nat->Int->Option (Bool)
 |0,_=>none
 |n5+1,v22=>(if(0:Int)≤v4∧v4<(v15.length:Int)then(bif (decide (v22<(((gt v15 v4).Ay).length:Int)))then(if(0:Int)≤v21∧v21<(v15.length:Int)then(if(0:Int)≤v4∧v4<(v15.length:Int)then(if(0:Int)≤v22∧v22<(((gt v15 v4).Ay).length:Int)then((Ap7 K ((gt v15 v21).Ay) (gt ((gt v15 v4).Ay) v22)).bind fun r23=>(bif r23 then some false else(Ano K v4 v15 v20 v21 C3 n5 (An6 .i64 v22 1))))else none)else none)else none)else(C3 v20 (An6 .i64 v21 1)))else none)
def Arl (K:Nat)(v4:Int)(v15:List Az)(v20:List Int)(v21:Int)(C3:(List Int)->Int->Option (Bool)):Option (Bool):=(Ano K v4 v15 v20 v21 (C3) K 0)
def Ak1 (K:Nat)(v4:Int)(v5:Int)(v6:Int)(v7:Int)(v8:Int)(v9:Int)(v10:Int)(v11:List Int)(v12:List Int)(v13:List Int)(v14:List As)(v15:List Az)(v16:List Int)(v17:Int)(v18:Int)(C1:Int->Int->(List Int)->Int->Int->Int->Int->Int->Int->Int->(List Int)->(List Int)->(List Int)->(List As)->(List Az)->(List Int)->Option (Bool)):Nat->(List Int)->Int->Option (Bool)
 |0,_,_=>none
 |n3+1,v20,v21=>(bif (decide (v21<v4))then(if(0:Int)≤v4∧v4<(v15.length:Int)then(bif (((gt v15 v4).Bm) != 0)then(if(0:Int)≤v21∧v21<(v15.length:Int)then(if(0:Int)≤v4∧v4<(v15.length:Int)then(bif (((gt v15 v21).Bm)==((gt v15 v4).Bm))then some false else(Arl K v4 v15 v20 v21 (Ak1 K v4 v5 v6 v7 v8 v9 v10 v11 v12 v13 v14 v15 v16 v17 v18 C1 n3)))else none)else none)else(Arl K v4 v15 v20 v21 (Ak1 K v4 v5 v6 v7 v8 v9 v10 v11 v12 v13 v14 v15 v16 v17 v18 C1 n3)))else none)else(C1 v17 v18 v20 (An6 .i64 v4 1) v5 v6 v7 v8 v9 v10 v11 v12 v13 v14 v15 v16))
def Arm (K:Nat)(v3:List Int)(v4:Int)(v5:Int)(v6:Int)(v7:Int)(v8:Int)(v9:Int)(v10:Int)(v11:List Int)(v12:List Int)(v13:List Int)(v14:List As)(v15:List Az)(v16:List Int)(C1:Int->Int->(List Int)->Int->Int->Int->Int->Int->Int->Int->(List Int)->(List Int)->(List Int)->(List As)->(List Az)->(List Int)->Option (Bool))(v17:Int)(v18:Int):Option (Bool):=(if(0:Int)≤v4∧v4<(v15.length:Int)then((Awx K v14 ((gt v15 v4).Ef)).bind fun r19=>(if(v3++r19).length*8≤140737488355328∧(v3++r19).length≤maxLen then(Ak1 K v4 v5 v6 v7 v8 v9 v10 v11 v12 v13 v14 v15 v16 v17 v18 (C1) K (v3++r19) 0)else none))else none)
def Aty (K:Nat)(v25:Int)(C6:Int->Int->Option (Bool))(v27:Int):Option (Bool):=(C6 v27 (An6 .i64 v25 1))
def Ak3 (K:Nat)(v1:Int)(v2:Int)(v3:List Int)(v11:List Int)(v12:List Int)(v13:List Int)(v14:List As)(v24:Int):Nat->Int->Option (Bool)
 |0,_=>none
 |n8+1,v28=>(bif (decide (v28<(v3.length:Int)))then(if(0:Int)≤0∧0≤v28∧v28≤(v3.length:Int)then(if(0:Int)≤v28∧v28<(v3.length:Int)then((Ap7 K ((v3.drop (0:Int).toNat).take (v28 - 0).toNat) (gt v3 v28)).bind fun r29=>(bif r29 then some false else(Ak3 K v1 v2 v3 v11 v12 v13 v14 v24 n8 (An6 .i64 v28 1))))else none)else none)else((Aym K (Dn.mk v11 v12 v13) 2).bind fun r30=>(bif (v1==r30)then((Aqf K v14 2).bind fun r31=>(bif (v2==r31)then some ((v3.length:Int)==v24)else some false))else some false)))
def Ahg (K:Nat)(v1:Int)(v2:Int)(v3:List Int)(v11:List Int)(v12:List Int)(v13:List Int)(v14:List As):Nat->Int->Int->Option (Bool)
 |0,_,_=>none
 |n6+1,v24,v25=>(bif (decide (v25<(v14.length:Int)))then((As8 K v14 v25).bind fun r26=>(bif r26 then(Aty K v25 (Ahg K v1 v2 v3 v11 v12 v13 v14 n6) (An6 .i64 v24 1))else(Aty K v25 (Ahg K v1 v2 v3 v11 v12 v13 v14 n6) v24)))else(Ak3 K v1 v2 v3 v11 v12 v13 v14 v24 K 0))
def Aeq (K:Nat):Nat->Int->Int->(List Int)->Int->Int->Int->Int->Int->Int->Int->(List Int)->(List Int)->(List Int)->(List As)->(List Az)->(List Int)->Option (Bool)
 |0,_,_,_,_,_,_,_,_,_,_,_,_,_,_,_,_=>none
 |n1+1,v1,v2,v3,v4,v5,v6,v7,v8,v9,v10,v11,v12,v13,v14,v15,v16=>(bif (decide (v4<(v15.length:Int)))then(if(0:Int)≤v4∧v4<(v15.length:Int)then(if(0:Int)≤v4∧v4<(v15.length:Int)then(bif (((gt v15 v4).Bm) != 0)then(Arm K v3 v4 v5 v6 v7 v8 v9 v10 v11 v12 v13 v14 v15 v16 (Aeq K n1) (An6 .i64 v1 (((gt v15 v4).Ay).length:Int)) (An6 .i64 v2 1))else(Arm K v3 v4 v5 v6 v7 v8 v9 v10 v11 v12 v13 v14 v15 v16 (Aeq K n1) (An6 .i64 v1 (((gt v15 v4).Ay).length:Int)) v2))else none)else none)else(Ahg K v1 v2 v3 v11 v12 v13 v14 K 0 0))
def Av6 (K:Nat)(a0:C5):Option (Bool):=(Aeq K K 0 0 ([]:List Int) 0 a0.fC.Ay a0.fC.G8 a0.fC.E6 a0.fC.Gu a0.fC.E7 a0.fC.G9 a0.fP.N7 a0.fP.Vi a0.fP.N8 a0.fL a0.fQ a0.Acy)
def Baj:=fd Tryz.func107 ⟨[.v 32],[.v 4],true⟩ (gC (Bb6 K) (gC (Bsg K) (gC (Bsf K) (gC (Bzd K) (gC (Br4 K) gN))))) [60,61,134,135,140,141,142] [4073,8009,2050532]
def B1y:Ej:=⟨[(1,.p 101),(3,.v 2),(4,.v 2),(5,.o 1005 3 true),(6,.v 2),(7,.v 2),(8,.v 2)],[(101,.box [.v 2,.v 2,.v 2,.v 2,.v 2,.v 2,.v 22,.v 26,.v 26,.v 29,.v 30,.v 26])]⟩
def Bhj:Ej:=⟨[(1,.p 101),(3,.v 2),(4,.v 2),(5,.o 1005 3 true),(6,.v 2),(7,.v 2)],[(101,.box [.v 2,.v 2,.v 2,.v 2,.v 2,.v 2,.v 22,.v 26,.v 26,.v 29,.v 30,.v 26])]⟩
def A9e:Ej:=⟨[(1,.p 101),(3,.v 2),(4,.v 2),(5,.o 1005 3 true),(6,.v 2)],[(101,.box [.v 2,.v 2,.v 2,.v 2,.v 2,.v 2,.v 22,.v 26,.v 26,.v 29,.v 30,.v 26])]⟩
def Bqg:Ej:=⟨[(1,.p 101),(3,.v 2),(4,.v 2),(5,.o 1005 3 true),(9,.v 2),(10,.v 2)],[(101,.box [.v 2,.v 2,.v 2,.v 2,.v 2,.v 2,.v 22,.v 26,.v 26,.v 29,.v 30,.v 26])]⟩
def B1z:Ej:=⟨[(1,.p 101),(3,.v 2),(4,.v 2),(5,.o 1005 3 true),(9,.v 2),(11,.v 2)],[(101,.box [.v 2,.v 2,.v 2,.v 2,.v 2,.v 2,.v 22,.v 26,.v 26,.v 29,.v 30,.v 26])]⟩
def A9f:=fun(C250:CT A9e _) (C128158:CT Bhj _)=>lp (Baj K) 16404262 B1y [(128158,ar Bhj C128158),(250,ar A9e C250)] (fun n a b c d e f g h i j k l m o p q r s=>Ano K d r c e (fun v20 v21=>C128158 a b v20 d v21 g h i j k l m o p q r s) n f) (fun n=>kN)
def Bak:=fun(C250:CT A9e _) (C128158:CT Bhj _)=>jn (Baj K) 2050532 Bhj [(128158,ar Bhj C128158),(250,ar A9e C250)] (fun a b c d e f g h i j k l m o p q r=>Arl K d q c e (fun v20 v21=>C128158 a b v20 d v21 f g h i j k l m o p q r)) (kC (A9f K _ _ K) kN)
def Bb9:=fun(C250:CT A9e _)=>lp (Baj K) 128158 Bhj [(250,ar A9e C250)] (fun n a b c d e f g h i j k l m o p q r=>Ak1 K d f g h i j k l m o p q r a b C250 n c e) (fun n=>(kC (Bak K _ _) kN))
def Bhk:=fun(C250:CT A9e _)=>jn (Baj K) 8009 A9e [(250,ar A9e C250)] (fun a b c d e f g h i j k l m o p q=>Arm K c d e f g h i j k l m o p q C250 a b) (kC (Bb9 K _ K) kN)
def Bhl:=fun(C1018:CT Bqg _)=>jn (Baj K) 4073 Bqg [(1018,ar Bqg C1018)] (fun a b c d e f g h i j k l m o p q r=>Aty K e (fun v24 v25=>C1018 a b c v24 v25 f g h i j k l m o p q r) d) kN
def Bhm:=lp (Baj K) 2042 B1z [] (fun n a b c d e _ _ _ _ _ _ l m o p _ _=>Ak3 K a b c l m o p d n e) (fun n=>kN)
def Bhn:=lp (Baj K) 1018 Bqg [] (fun n a b c d e _ _ _ _ _ _ l m o p _ _=>Ahg K a b c l m o p n d e) (fun n=>(kC (Bhl K _) (kC (up (Bhm K K)) kN)))
def Bkt:=lp (Baj K) 250 A9e [] (Aeq K) (fun n=>(kC (Bhk K _) (kC (up (Bhn K K)) kN)))
def Bzf:=ct (Baj K) (Av6 K) (kC (Bkt K K) kN)
def Anz (K:Nat)(a0:Ea)(v8:List Int):Nat->Int->Option (Bool)
 |0,_=>none
 |n3+1,v12=>(bif (decide (v12<(v8.length:Int)))then(if(0:Int)≤v12∧v12<(v8.length:Int)then((Gx K (gt v8 v12) 0 (An7 .i64 a0.Ay 1)).bind fun r13=>(bif r13 then(if(0:Int)≤0∧0≤v12∧v12≤(v8.length:Int)then(if(0:Int)≤v12∧v12<(v8.length:Int)then((Ap7 K ((v8.drop (0:Int).toNat).take (v12 - 0).toNat) (gt v8 v12)).bind fun r14=>(bif r14 then some false else(Anz K a0 v8 n3 (An6 .i64 v12 1))))else none)else none)else some false))else none)else some true)
def Ap0 (K:Nat)(a0:Ea)(v7:List Int)(v8:List Int):Nat->Int->Option (Bool)
 |0,_=>none
 |n2+1,v10=>(bif (decide (v10<(v7.length:Int)))then(if(0:Int)≤v10∧v10<(v7.length:Int)then((Gx K (gt v7 v10) 0 255).bind fun r11=>(bif (!r11)then some false else(Ap0 K a0 v7 v8 n2 (An6 .i64 v10 1))))else none)else(Anz K a0 v8 K 0))
def Av7 (K:Nat)(a0:Ea)(v5:Int)(v6:Int)(v7:List Int)(v8:List Int)(v9:Int):Option (Bool):=(Ap0 K a0 v7 v8 K 0)
def Ayn (K:Nat)(a0:Ea)(a1:Az):Option (Bool):=((Ani K a0).bind fun r1=>(bif r1 then((Gx K a1.Bm 0 a0.E6).bind fun r2=>(bif r2 then((Gx K a1.Ef 0 a0.E6).bind fun r3=>(bif r3 then(bif (decide ((a1.Fi.length:Int)>6))then some false else((Gx K a1.Wz 0 (An7 .i64 a0.G8 1)).bind fun r4=>(bif r4 then(bif ((a1.Ay.length:Int)==0)then(bif (a1.Wz != 0)then some false else(Av7 K a0 a1.Bm a1.Ef a1.Fi a1.Ay a1.Wz))else(Av7 K a0 a1.Bm a1.Ef a1.Fi a1.Ay a1.Wz))else some false)))else some false))else some false))else some false))
def Bqh:=fd Tryz.func198 ⟨[.v 25,.v 52],[.v 4],true⟩ (gC (Bb3 K) (gC (A2a K) (gC (Bb6 K) gN))) [8,9,10,15,16,17,18,23,24,25,26,30,31,32,38,39,40,41,45,46,81,82,83] [3]
def B10:Ej:=⟨[(2,.p 102),(3,.p 103),(6,.v 2)],[(103,.box [.v 2,.v 2,.v 26,.v 26,.v 2]),(102,.st 25 true)]⟩
def B11:Ej:=⟨[(2,.p 102),(3,.p 103),(5,.v 2)],[(103,.box [.v 2,.v 2,.v 26,.v 26,.v 2]),(102,.st 25 true)]⟩
def B12:Ej:=⟨[(2,.p 102),(3,.p 103)],[(103,.box [.v 2,.v 2,.v 26,.v 26,.v 2]),(102,.st 25 true)]⟩
def Bku:=lp (Bqh K) 122 B10 [] (fun n a _ _ _ e _ g=>Anz K g e n a) (fun n=>kN)
def Bqi:=lp (Bqh K) 58 B11 [] (fun n a _ _ d e _ g=>Ap0 K g d e n a) (fun n=>(kC (up (Bku K K)) kN))
def Bt3:=jn (Bqh K) 3 B12 [] (fun a b c d e f=>Av7 K f a b c d e) (kC (Bqi K K) kN)
def Bzg:=ct (Bqh K) (Ayn K) (kC (Bt3 K) kN)
def Aqh (K:Nat)(v17:List As)(r21:(List Int)):Nat->Int->Option (Bool)
 |0,_=>none
 |n4+1,v22=>(bif (decide (v22<(r21.length:Int)))then(if(0:Int)≤v22∧v22<(r21.length:Int)then((As8 K v17 (gt r21 v22)).bind fun r23=>(bif (!r23)then some false else(Aqh K v17 r21 n4 (An6 .i64 v22 1))))else none)else some true)
def Ao8 (K:Nat)(v4:Int)(v17:List As):Option (Bool):=((Awx K v17 v4).bind fun r21=>(Aqh K v17 r21 K 0))
def Asc (K:Nat)(v3:Int)(v4:Int)(v17:List As):Option (Bool):=(bif (v3 != 0)then(if(0:Int)≤(An7 .i64 v3 1)∧(An7 .i64 v3 1)<(v17.length:Int)then(bif (((gt v17 (An7 .i64 v3 1)).Vi) != 2)then some false else(bif (v4 != 0)then(if(0:Int)≤(An7 .i64 v4 1)∧(An7 .i64 v4 1)<(v17.length:Int)then(bif (((gt v17 (An7 .i64 v4 1)).So) != 0)then some false else(Ao8 K v4 v17))else none)else(Ao8 K v4 v17)))else none)else(bif (v4 != 0)then(if(0:Int)≤(An7 .i64 v4 1)∧(An7 .i64 v4 1)<(v17.length:Int)then(bif (((gt v17 (An7 .i64 v4 1)).So) != 0)then some false else(Ao8 K v4 v17))else none)else(Ao8 K v4 v17)))
def Ao9 (K:Nat):Nat->Int->Int->Int->(List Int)->(List Int)->Int->Int->Int->Int->Int->Int->Int->(List Int)->(List Int)->(List Int)->(List As)->(List Az)->(List Int)->Option (Bool)
 |0,_,_,_,_,_,_,_,_,_,_,_,_,_,_,_,_,_,_=>none
 |n1+1,v2,v3,v4,v5,v6,v7,v8,v9,v10,v11,v12,v13,v14,v15,v16,v17,v18,v19=>(bif (decide (v2<(v6.length:Int)))then(if(0:Int)≤v2∧v2<(v6.length:Int)then(if(0:Int)≤(gt v6 v2)∧(gt v6 v2)<(v15.length:Int)then(bif ((gt v15 (gt v6 v2)) != 2)then some false else(Ao9 K n1 (An6 .i64 v2 1) v3 v4 v5 v6 v7 v8 v9 v10 v11 v12 v13 v14 v15 v16 v17 v18 v19))else none)else none)else(bif (decide ((v6.length:Int)>0))then(if(0:Int)≤0∧0<(v6.length:Int)then(if(0:Int)≤0∧0<(v6.length:Int)then(if(0:Int)≤(An8 .i64 (gt v6 0) v9)∧(An8 .i64 (gt v6 0) v9)≤(An6 .i64 (An8 .i64 (gt v6 0) v9) v7)∧(An6 .i64 (An8 .i64 (gt v6 0) v9) v7)≤(v14.length:Int)then((Asj K ((v14.drop (An8 .i64 (gt v6 0) v9).toNat).take ((An6 .i64 (An8 .i64 (gt v6 0) v9) v7) - (An8 .i64 (gt v6 0) v9)).toNat)).bind fun r20=>(bif (!r20)then some false else(Asc K v3 v4 v17)))else none)else none)else none)else(Asc K v3 v4 v17)))
def Axf (K:Nat)(a0:C5)(a1:Int):Option (Bool):=(if(0:Int)≤a1∧a1<(a0.fQ.length:Int)then((Ayn K a0.fC (gt a0.fQ a1)).bind fun r1=>(bif (!r1)then some false else(Ao9 K K 0 ((gt a0.fQ a1).Bm) ((gt a0.fQ a1).Ef) ((gt a0.fQ a1).Fi) ((gt a0.fQ a1).Ay) ((gt a0.fQ a1).Wz) a0.fC.Ay a0.fC.G8 a0.fC.E6 a0.fC.Gu a0.fC.E7 a0.fC.G9 a0.fP.N7 a0.fP.Vi a0.fP.N8 a0.fL a0.fQ a0.Acy)))else none)
def Bkv:=fd Tryz.func105 ⟨[.v 32,.v 3],[.v 4],true⟩ (gC (Bf9 K) (gC (Bzg K) (gC (Bsg K) (gC (Bsf K) gN)))) [40,41,70,71,80,81,82,85,86] [31,63]
def B13:Ej:=⟨[(2,.p 102),(7,.v 26),(8,.v 2)],[(102,.box [.v 2,.v 2,.v 2,.v 2,.v 2,.v 2,.v 22,.v 26,.v 26,.v 29,.v 30,.v 26])]⟩
def Bzh:Ej:=⟨[(2,.p 102),(5,.p 105)],[(105,.box [.v 2,.v 2,.v 26,.v 26,.v 2]),(102,.box [.v 2,.v 2,.v 2,.v 2,.v 2,.v 2,.v 22,.v 26,.v 26,.v 29,.v 30,.v 26])]⟩
def B14:Ej:=⟨[(2,.p 102),(5,.p 105),(6,.v 2)],[(105,.box [.v 2,.v 2,.v 26,.v 26,.v 2]),(102,.box [.v 2,.v 2,.v 2,.v 2,.v 2,.v 2,.v 22,.v 26,.v 26,.v 29,.v 30,.v 26])]⟩
def Bho:=lp (Bkv K) 2042 B13 [] (fun n a b _ _ _ _ _ _ _ _ _ l _ _=>Aqh K l a n b) (fun n=>kN)
def Bqj:=jn (Bkv K) 63 Bzh [] (fun _ b _ _ _ _ _ _ _ _ _ _ _ _ p _ _=>Ao8 K b p) (kC (Bho K K) kN)
def Bqk:=jn (Bkv K) 31 Bzh [] (fun a b _ _ _ _ _ _ _ _ _ _ _ _ p _ _=>Asc K a b p) (kC (Bqj K) kN)
def Bkw:=lp (Bkv K) 122 B14 [] (Ao9 K) (fun n=>(kC (up (Bqk K)) kN))
def Bzi:=ct (Bkv K) (Axf K) (kC (Bkw K K) kN)
def Anp (K:Nat)(a1:Int)(r1:(List Int)):Nat->Int->Int->Int->Int->Int->Int->Int->(List Int)->(List Int)->(List Int)->(List As)->(List Az)->(List Int)->Option (Bool)
 |0,_,_,_,_,_,_,_,_,_,_,_,_,_=>none
 |n1+1,v2,v3,v4,v5,v6,v7,v8,v9,v10,v11,v12,v13,v14=>(bif (decide (v2<(r1.length:Int)))then(if(0:Int)≤a1∧a1<(v12.length:Int)then(if(0:Int)≤v2∧v2<(r1.length:Int)then((Ap7 K ((gt v12 a1).Ay) (gt r1 v2)).bind fun r15=>(bif (!r15)then some false else(Anp K a1 r1 n1 (An6 .i64 v2 1) v3 v4 v5 v6 v7 v8 v9 v10 v11 v12 v13 v14)))else none)else none)else(if(0:Int)≤a1∧a1<(v12.length:Int)then some ((r1.length:Int)==(((gt v12 a1).Ay).length:Int))else none))
def Av8 (K:Nat)(a0:C5)(a1:Int):Option (Bool):=((Avd K a0.fP a1).bind fun r1=>(Anp K a1 r1 K 0 a0.fC.Ay a0.fC.G8 a0.fC.E6 a0.fC.Gu a0.fC.E7 a0.fC.G9 a0.fP.N7 a0.fP.Vi a0.fP.N8 a0.fL a0.fQ a0.Acy))
def Bzj:=fd Tryz.func101 ⟨[.v 32,.v 3],[.v 4],true⟩ (gC (Br3 K) (gC (Bb6 K) gN))
def B15:Ej:=⟨[(1,.v 2),(2,.p 102),(5,.v 26),(6,.v 2)],[(102,.box [.v 2,.v 2,.v 2,.v 2,.v 2,.v 2,.v 22,.v 26,.v 26,.v 29,.v 30,.v 26])]⟩
def Bql:=lp (Bzj K) 58 B15 [] (fun n a b=>Anp K a b n) (fun n=>kN)
def Bzk:=ct (Bzj K) (Av8 K) (kC (Bql K K) kN)
def Apa (K:Nat)(a0:Ea)(v1:Int)(v2:Int)(v3:Int)(v4:Int)(v5:Int)(v6:Int)(v7:Int)(v8:Int)(v9:Int)(v10:List Int)(v11:Int)(v12:Int)(v13:List Bc)(v14:List Int)(C1:Int->Int->Int->Int->Int->Int->Int->Int->Int->(List Int)->Int->Int->(List Bc)->(List Int)->Option (Bool)):Nat->Int->Bc->Option (Bool)
 |0,_,_=>none
 |n2+1,v16,v17=>(if a0.G8≠(0:Int)then(bif (decide (v16≤(Alk .i64 (An7 .i64 (An6 .i64 v17.fAt v17.Ajm) 1) a0.G8)))then((Ap7 K v10 v16).bind fun r18=>(bif (!r18)then some false else(Apa K a0 v1 v2 v3 v4 v5 v6 v7 v8 v9 v10 v11 v12 v13 v14 C1 n2 (An6 .i64 v16 1) v17)))else(C1 (An6 .i64 v1 1) v2 v3 v4 v5 v6 v7 v8 v9 v10 v11 v12 v13 v14))else none)
def Akt (K:Nat)(a0:Ea):Nat->Int->Int->Int->Int->Int->Int->Int->Int->Int->(List Int)->Int->Int->(List Bc)->(List Int)->Option (Bool)
 |0,_,_,_,_,_,_,_,_,_,_,_,_,_,_=>none
 |n1+1,v1,v2,v3,v4,v5,v6,v7,v8,v9,v10,v11,v12,v13,v14=>(bif (decide (v1<(v13.length:Int)))then(if(0:Int)≤v1∧v1<(v13.length:Int)then((As3 K a0 (gt v13 v1)).bind fun r15=>(bif (!r15)then some false else(if a0.G8≠(0:Int)then(Apa K a0 v1 v2 v3 v4 v5 v6 v7 v8 v9 v10 v11 v12 v13 v14 (Akt K a0 n1) K (Alk .i64 ((gt v13 v1).fAt) a0.G8) (gt v13 v1))else none)))else none)else some true)
def Axg (K:Nat)(a0:Ea)(a1:As):Option (Bool):=(Akt K a0 K 0 a1.Vi a1.C9 a1.Sl a1.fUp a1.Sm a1.Ef a1.Sn a1.So a1.Ay a1.Acx a1.Sq a1.F6 a1.Fi)
def Bt4:=fd Tryz.func102 ⟨[.v 25,.v 50],[.v 4],true⟩ (gC (Bb6 K) (gC (Bsb K) gN))
def B16:Ej:=⟨[(2,.p 102),(3,.p 103),(5,.v 2),(6,.p 106),(7,.v 2)],[(106,.st 132 true),(103,.box [.v 2,.v 2,.v 2,.v 2,.v 2,.v 2,.v 2,.v 2,.v 26,.v 2,.v 2,.v 48,.v 26]),(102,.st 25 true)]⟩
def Bhp:=fun(C26:CT Bke _)=>lp (Bt4 K) 6734 B16 [(26,ar Bke C26)] (fun n a b c d e f g h i j k l m o p q r=>Apa K r a d e f g h i j k l m o p q (fun v1 v2 v3 v4 v5 v6 v7 v8 v9 v10 v11 v12 v13 v14=>C26 v1 v2 v3 v4 v5 v6 v7 v8 v9 v10 v11 v12 v13 v14 r) n b c) (fun n=>kN)
def Bqm:=lp (Bt4 K) 26 Bke [] (fun n a b c d e f g h i j k l m o p=>Akt K p n a b c d e f g h i j k l m o) (fun n=>(kC (Bhp K _ K) kN))
def Bzl:=ct (Bt4 K) (Axg K) (kC (Bqm K K) kN)
def A0v (K:Nat)(a0:Bc)(a1:Bc):Option (Bool):=(bif (decide (a0.Ajm<1))then some true else(bif (decide (a1.Ajm<1))then some true else(bif (decide (a0.fAt≤a1.fAt))then(bif (decide ((An7 .i64 a1.fAt a0.fAt)≥a0.Ajm))then some true else some (decide ((An7 .i64 a1.fAt a0.fAt)<0)))else(bif (decide ((An7 .i64 a0.fAt a1.fAt)≥a1.Ajm))then some true else some (decide ((An7 .i64 a0.fAt a1.fAt)<0))))))
def Bzm:=ct (fd Tryz.func197 ⟨[.v 132,.v 132],[.v 4],true⟩ gN [7,8,25,26,41,42]) (A0v K)
def Apb (K:Nat)(a0:List Bc)(v1:Int)(C1:Int->Option (Bool)):Nat->Int->Option (Bool)
 |0,_=>none
 |n2+1,v2=>(bif (decide (v2<v1))then(if(0:Int)≤v1∧v1<(a0.length:Int)then(if(0:Int)≤v2∧v2<(a0.length:Int)then((A0v K (gt a0 v1) (gt a0 v2)).bind fun r3=>(bif (!r3)then some false else(Apb K a0 v1 C1 n2 (An6 .i64 v2 1))))else none)else none)else(C1 (An6 .i64 v1 1)))
def Akv (K:Nat)(a0:List Bc):Nat->Int->Option (Bool)
 |0,_=>none
 |n1+1,v1=>(bif (decide (v1<(a0.length:Int)))then(Apb K a0 v1 (Akv K a0 n1) K 0)else some true)
def Axh (K:Nat)(a0:List Bc):Option (Bool):=(Akv K a0 K 0)
def Bkx:=fd Tryz.func103 ⟨[.v 48],[.v 4],true⟩ (gC (Bzm K) gN)
def B17:Ej:=⟨[(0,.v 48),(3,.v 2),(4,.v 2)],[]⟩
def Bt5:Ej:=⟨[(0,.v 48),(3,.v 2)],[]⟩
def Bd7:=fun(C26:CT Bt5 _)=>lp (Bkx K) 1682 B17 [(26,ar Bt5 C26)] (fun n a b=>Apb K a b (C26 a) n) (fun n=>kN)
def Bky:=lp (Bkx K) 26 Bt5 [] (fun n a=>Akv K a n) (fun n=>(kC (Bd7 K _ K) kN))
def Bt6:=ct (Bkx K) (Axh K) (kC (Bky K K) kN)
def Auz (K:Nat)(v1:Int)(v2:Int)(v3:Int)(v4:Int)(v5:Int)(v6:Int)(v7:Int)(v8:Int)(v9:Int)(v10:Int)(v11:Int)(v12:List Int)(v13:Int)(v14:Int)(v15:List Bc)(v16:List Int)(v17:Int)(v18:Int)(v19:Int)(v20:Int)(v21:Int)(v22:Int)(v23:List Int)(v24:List Int)(v25:List Int)(v26:List As)(v27:List Az)(v28:List Int)(C1:Int->Int->Int->Int->Int->Int->Int->Int->Int->Int->Int->(List Int)->Int->Int->(List Bc)->(List Int)->Int->Int->Int->Int->Int->Int->(List Int)->(List Int)->(List Int)->(List As)->(List Az)->(List Int)->Option (Bool)):Option (Bool):=(C1 v1 v2 (An6 .i64 v3 1) v4 v5 v6 v7 v8 v9 v10 v11 v12 v13 v14 v15 v16 v17 v18 v19 v20 v21 v22 v23 v24 v25 v26 v27 v28)
def Anc (K:Nat):Nat->Int->Int->Int->Int->Int->Int->Int->Int->Int->Int->Int->(List Int)->Int->Int->(List Bc)->(List Int)->Int->Int->Int->Int->Int->Int->(List Int)->(List Int)->(List Int)->(List As)->(List Az)->(List Int)->Option (Bool)
 |0,_,_,_,_,_,_,_,_,_,_,_,_,_,_,_,_,_,_,_,_,_,_,_,_,_,_,_,_=>none
 |n1+1,v1,v2,v3,v4,v5,v6,v7,v8,v9,v10,v11,v12,v13,v14,v15,v16,v17,v18,v19,v20,v21,v22,v23,v24,v25,v26,v27,v28=>(bif (decide (v3<(v15.length:Int)))then(if(0:Int)≤v3∧v3<(v15.length:Int)then(bif (decide (((gt v15 v3).fAt)<v2))then(bif (decide ((An6 .i64 ((gt v15 v3).fAt) ((gt v15 v3).Ajm))>v1))then some false else(Auz K v1 v2 v3 v4 v5 v6 v7 v8 v9 v10 v11 v12 v13 v14 v15 v16 v17 v18 v19 v20 v21 v22 v23 v24 v25 v26 v27 v28 (Anc K n1)))else(Auz K v1 v2 v3 v4 v5 v6 v7 v8 v9 v10 v11 v12 v13 v14 v15 v16 v17 v18 v19 v20 v21 v22 v23 v24 v25 v26 v27 v28 (Anc K n1)))else none)else(if(0:Int)≤v1∧v1≤v2∧v2≤(v23.length:Int)then((Asj K ((v23.drop v1.toNat).take (v2 - v1).toNat)).bind fun r29=>some r29)else none))
def Axi (K:Nat)(a0:C5)(a1:Int):Option (Bool):=(if(0:Int)≤a1∧a1<(a0.fL.length:Int)then(bif (((gt a0.fL a1).Acx)==0)then some true else(bif (decide ((An6 .i64 (An8 .i64 (An7 .i64 ((gt a0.fL a1).Acx) 1) a0.fC.G8) ((gt a0.fL a1).Sq))≥(An8 .i64 ((gt a0.fL a1).Acx) a0.fC.G8)))then some true else(Anc K K (An6 .i64 (An8 .i64 (An7 .i64 ((gt a0.fL a1).Acx) 1) a0.fC.G8) ((gt a0.fL a1).Sq)) (An8 .i64 ((gt a0.fL a1).Acx) a0.fC.G8) 0 ((gt a0.fL a1).Vi) ((gt a0.fL a1).C9) ((gt a0.fL a1).Sl) ((gt a0.fL a1).fUp) ((gt a0.fL a1).Sm) ((gt a0.fL a1).Ef) ((gt a0.fL a1).Sn) ((gt a0.fL a1).So) ((gt a0.fL a1).Ay) ((gt a0.fL a1).Acx) ((gt a0.fL a1).Sq) ((gt a0.fL a1).F6) ((gt a0.fL a1).Fi) a0.fC.Ay a0.fC.G8 a0.fC.E6 a0.fC.Gu a0.fC.E7 a0.fC.G9 a0.fP.N7 a0.fP.Vi a0.fP.N8 a0.fL a0.fQ a0.Acy)))else none)
def Bkz:=fd Tryz.func104 ⟨[.v 32,.v 3],[.v 4],true⟩ (gC (Bf9 K) gN) [33,34,54,55] [2025]
def Bqn:Ej:=⟨[(2,.p 102),(5,.p 105),(6,.v 2),(7,.v 2),(8,.v 2)],[(105,.box [.v 2,.v 2,.v 2,.v 2,.v 2,.v 2,.v 2,.v 2,.v 26,.v 2,.v 2,.v 48,.v 26]),(102,.box [.v 2,.v 2,.v 2,.v 2,.v 2,.v 2,.v 22,.v 26,.v 26,.v 29,.v 30,.v 26])]⟩
def Bd8:=fun(C506:CT Bqn _)=>jn (Bkz K) 2025 Bqn [(506,ar Bqn C506)] (fun a b c d e f g h i j k l m o p q r s t u v w x y z a1 b1 c1=>Auz K a b c d e f g h i j k l m o p q r s t u v w x y z a1 b1 c1 C506) kN
def Bhq:=lp (Bkz K) 506 Bqn [] (Anc K) (fun n=>(kC (Bd8 K _) kN))
def Bt7:=ct (Bkz K) (Axi K) (kC (Bhq K K) kN)
def An0 (K:Nat)(v4:Int)(v5:Int)(v6:Int)(v7:Int)(v8:Int)(v9:Int)(v10:List Int)(v11:List Int)(v12:List Int)(v13:List As)(v14:List Az)(v15:List Int):Nat->Int->Option (Bool)
 |0,_=>none
 |n3+1,v23=>(bif (decide (v23<(v15.length:Int)))then(if(0:Int)≤v23∧v23<(v15.length:Int)then((Gx K (gt v15 v23) 0 255).bind fun r24=>(bif (!r24)then some false else(An0 K v4 v5 v6 v7 v8 v9 v10 v11 v12 v13 v14 v15 n3 (An6 .i64 v23 1))))else none)else((Av6 K (C5.mk (Ea.mk v4 v5 v6 v7 v8 v9) (Dn.mk v10 v11 v12) v13 v14 v15)).bind fun r25=>some r25))
def Ap1 (K:Nat)(v4:Int)(v5:Int)(v6:Int)(v7:Int)(v8:Int)(v9:Int)(v10:List Int)(v11:List Int)(v12:List Int)(v13:List As)(v14:List Az)(v15:List Int):Nat->Int->Option (Bool)
 |0,_=>none
 |n2+1,v21=>(bif (decide (v21<(v14.length:Int)))then((Axf K (C5.mk (Ea.mk v4 v5 v6 v7 v8 v9) (Dn.mk v10 v11 v12) v13 v14 v15) v21).bind fun r22=>(bif (!r22)then some false else(Ap1 K v4 v5 v6 v7 v8 v9 v10 v11 v12 v13 v14 v15 n2 (An6 .i64 v21 1))))else(An0 K v4 v5 v6 v7 v8 v9 v10 v11 v12 v13 v14 v15 K 0))
def An2 (K:Nat):Nat->Int->Int->Int->Int->Int->Int->Int->(List Int)->(List Int)->(List Int)->(List As)->(List Az)->(List Int)->Option (Bool)
 |0,_,_,_,_,_,_,_,_,_,_,_,_,_=>none
 |n1+1,v3,v4,v5,v6,v7,v8,v9,v10,v11,v12,v13,v14,v15=>(bif (decide (v3<(v13.length:Int)))then(if(0:Int)≤v3∧v3<(v13.length:Int)then((Ap8 K (Ea.mk v4 v5 v6 v7 v8 v9) (gt v13 v3)).bind fun r16=>(bif r16 then((Av8 K (C5.mk (Ea.mk v4 v5 v6 v7 v8 v9) (Dn.mk v10 v11 v12) v13 v14 v15) v3).bind fun r17=>(bif r17 then(if(0:Int)≤v3∧v3<(v13.length:Int)then((Axg K (Ea.mk v4 v5 v6 v7 v8 v9) (gt v13 v3)).bind fun r18=>(bif r18 then(if(0:Int)≤v3∧v3<(v13.length:Int)then((Axh K ((gt v13 v3).F6)).bind fun r19=>(bif r19 then((Axi K (C5.mk (Ea.mk v4 v5 v6 v7 v8 v9) (Dn.mk v10 v11 v12) v13 v14 v15) v3).bind fun r20=>(bif (!r20)then some false else(An2 K n1 (An6 .i64 v3 1) v4 v5 v6 v7 v8 v9 v10 v11 v12 v13 v14 v15)))else some false))else none)else some false))else none)else some false))else some false))else none)else(Ap1 K v4 v5 v6 v7 v8 v9 v10 v11 v12 v13 v14 v15 K 0))
def Arn (K:Nat)(a0:C5):Option (Bool):=((Awt K a0.fC a0.fP).bind fun r1=>(bif r1 then(bif ((a0.fL.length:Int) != a0.fC.E6)then some false else((Azw K a0.fL).bind fun r2=>(bif (!r2)then some false else(An2 K K 0 a0.fC.Ay a0.fC.G8 a0.fC.E6 a0.fC.Gu a0.fC.E7 a0.fC.G9 a0.fP.N7 a0.fP.Vi a0.fP.N8 a0.fL a0.fQ a0.Acy))))else some false))
def Bge:=fd Tryz.func26 ⟨[.v 32],[.v 4],true⟩ (gC (Br7 K) (gC (Bzc K) (gC (A9x K) (gC (Bzk K) (gC (Bzl K) (gC (Bt6 K) (gC (Bt7 K) (gC (Bzi K) (gC (A2a K) (gC (Bzf K) gN)))))))))) [10,11,12,19,20,21,41,42,43,46,47,48,49,57,58,59,60,67,68,69,70]
def B18:Ej:=⟨[(1,.p 101),(5,.v 2)],[(101,.box [.v 2,.v 2,.v 2,.v 2,.v 2,.v 2,.v 22,.v 26,.v 26,.v 29,.v 30,.v 26])]⟩
def B19:Ej:=⟨[(1,.p 101),(4,.v 2)],[(101,.box [.v 2,.v 2,.v 2,.v 2,.v 2,.v 2,.v 22,.v 26,.v 26,.v 29,.v 30,.v 26])]⟩
def B2a:Ej:=⟨[(1,.p 101),(3,.v 2)],[(101,.box [.v 2,.v 2,.v 2,.v 2,.v 2,.v 2,.v 22,.v 26,.v 26,.v 29,.v 30,.v 26])]⟩
def Bhr:=lp (Bge K) 250 B18 [] (fun n a b c d e f g h i j k l m=>An0 K b c d e f g h i j k l m n a) (fun n=>kN)
def Bhs:=lp (Bge K) 122 B19 [] (fun n a b c d e f g h i j k l m=>Ap1 K b c d e f g h i j k l m n a) (fun n=>(kC (up (Bhr K K)) kN))
def Bk0:=lp (Bge K) 58 B2a [] (An2 K) (fun n=>(kC (up (Bhs K K)) kN))
def Bal:=ct (Bge K) (Arn K) (kC (Bk0 K K) kN)
def A0w (K:Nat)(a0:Br):Option (Bool):=((At6 K a0.fH).bind fun r1=>(bif r1 then(bif (decide (a0.Sl≥0))then some (decide (a0.fNo≥0))else some false)else some false))
def Bt8:=ct (fd Tryz.func225 ⟨[.v 38],[.v 4],true⟩ (gC (Br0 K) gN) [5,6,9,10,11]) (A0w K)
def Ayo (K:Nat)(a0:As)(a1:Br):Option (Bc×Bool):=(bif (a0.Vi != 1)then some ((Bc.mk 0 0 0),false)else(bif (a0.Sl != a1.Sl)then some ((Bc.mk 0 0 0),false)else((Gx K a1.fNo 0 (An7 .i64 (a0.F6.length:Int) 1)).bind fun r1=>(bif (!r1)then some ((Bc.mk 0 0 0),false)else(if(0:Int)≤a1.fNo∧a1.fNo<(a0.F6.length:Int)then some ((gt a0.F6 a1.fNo),true)else none)))))
def Bt9:=ct (fd Tryz.func226 ⟨[.v 50,.v 38],[.v 132,.v 4],true⟩ (gC (A2a K) gN) [8,9,14,15,16]) (Ayo K)
def As9 (K:Nat)(a0:C5)(a1:Br):Option (Int×Bc×Int):=((A0w K a1).bind fun r1=>(bif (!r1)then some ((-1),(Bc.mk 0 0 0),1)else((Alx K a0 a1.fH).bind fun r2=>(bif (r2.2 != 0)then some ((-1),(Bc.mk 0 0 0),r2.2)else(if(0:Int)≤r2.1∧r2.1<(a0.fL.length:Int)then((Ayo K (gt a0.fL r2.1) a1).bind fun r3=>(bif (!r3.2)then some ((-1),(Bc.mk 0 0 0),2)else some (r2.1,r3.1,0)))else none)))))
def Bk1:=ct (fd Tryz.func142 ⟨[.v 32,.v 38],[.v 3,.v 132,.v 3],true⟩ (gC (A7z K) (gC (Bt8 K) (gC (Bt9 K) gN)))) (As9 K)
def Ayp (K:Nat)(a0:Bc)(a1:Int)(a2:Int):Option (Bool):=(bif (decide (a1≥0))then(bif (decide (a2≥0))then(bif (decide (a1≤a0.Ajm))then(bif (decide (a2≤(An7 .i64 a0.Ajm a1)))then(bif (decide (a0.fAt<0))then some true else some (decide ((An6 .i64 a0.fAt a1)≥0)))else some false)else some false)else some false)else some false)
def Bk2:=ct (fd Tryz.func227 ⟨[.v 132,.v 3,.v 3],[.v 4],true⟩ gN [8,9,11,12,13,17,18,19,25,26,27,30,31]) (Ayp K)
def Avl (K:Nat)(a0:List Int)(a1:Int)(a2:Int):Option (Bool):=(bif (decide (a1≥0))then(bif (decide (a2≥0))then(bif (decide (a1≤(a0.length:Int)))then some (decide (a2≤(An7 .i64 (a0.length:Int) a1)))else some false)else some false)else some false)
def Bk3:=ct (fd Tryz.func262 ⟨[.v 22,.v 3,.v 3],[.v 4],true⟩ gN [8,9,11,12,13,17,18,19]) (Avl K)
def A0x (K:Nat)(a0:List Int)(a1:Int)(a2:Int):Option ((List Int)×Bool):=((Avl K a0 a1 a2).bind fun r1=>(bif (!r1)then some (([]:List Int),false)else(if(0:Int)≤a1∧a1≤(An6 .i64 a1 a2)∧(An6 .i64 a1 a2)≤(a0.length:Int)then(if(([]:List Int)++((a0.drop a1.toNat).take ((An6 .i64 a1 a2) - a1).toNat)).length*1≤140737488355328∧(([]:List Int)++((a0.drop a1.toNat).take ((An6 .i64 a1 a2) - a1).toNat)).length≤maxLen then some ((([]:List Int)++((a0.drop a1.toNat).take ((An6 .i64 a1 a2) - a1).toNat)),true)else none)else none)))
def Bua:=ct (fd Tryz.func229 ⟨[.v 22,.v 3,.v 3],[.n 22 true,.v 4],true⟩ (gC (Bk3 K) gN)) (A0x K)
def Av9 (K:Nat)(a0:List Int)(a1:Bc)(a2:Int)(a3:Int):Option ((List Int)×Bool):=((Ayp K a1 a2 a3).bind fun r1=>(bif (!r1)then some (([]:List Int),false)else((A0x K a0 (An6 .i64 a1.fAt a2) a3).bind fun r2=>some (r2.1,r2.2))))
def Bub:=ct (fd Tryz.func144 ⟨[.v 22,.v 132,.v 3,.v 3],[.n 22 true,.v 4],true⟩ (gC (Bk2 K) (gC (Bua K) gN))) (Av9 K)
def A1u (K:Nat)(a0:C5)(a1:Br)(a2:Int)(a3:Int):Option (C5×Et):=((Aqb K a0).bind fun r1=>((Arn K a0).bind fun r2=>(bif (!r2)then some (r1,(Et.mk 1 (An.mk 0 0) (Br.mk (An.mk 0 0) 0 0) [] 0 0 0))else((As9 K a0 a1).bind fun r3=>((Aoz K a0 a1.fH).bind fun r4=>(bif (r3.2.2 != 0)then some (r1,(Et.mk r3.2.2 (An.mk 0 0) (Br.mk (An.mk 0 0) 0 0) [] r4 0 0))else((Av9 K a0.fP.N7 r3.2.1 a2 a3).bind fun r5=>(bif (!r5.2)then some (r1,(Et.mk 7 (An.mk 0 0) (Br.mk (An.mk 0 0) 0 0) [] r4 0 0))else some (r1,(Et.mk r3.2.2 (An.mk 0 0) (Br.mk (An.mk 0 0) 0 0) r5.1 r4 0 0))))))))))
def Buc:=ct (fd Tryz.func60 ⟨[.v 32,.v 38,.v 3,.v 3],[.n 32 true,.n 73 true],false⟩ (gC (Bal K) (gC (Bb7 K) (gC (A70 K) (gC (Bk1 K) (gC (Bub K) gN))))) [] [] [(7,[.take 114 7 6831]),(11,[.take 114 7 6831])]) (A1u K)
def Aqc (K:Nat)(a1:Int)(a2:List Int):Nat->(List Int)->Int->Option ((List Int)×Bool)
 |0,_,_=>none
 |n1+1,v2,v3=>(bif (decide (v3<(a2.length:Int)))then(if(0:Int)≤v3∧v3<(a2.length:Int)then(if(0:Int)≤(An6 .i64 a1 v3)∧(An6 .i64 a1 v3)<(v2.length:Int)then(Aqc K a1 a2 n1 (v2.set (An6 .i64 a1 v3).toNat (gt a2 v3)) (An6 .i64 v3 1))else none)else none)else some (v2,true))
def A0y (K:Nat)(a0:List Int)(a1:Int)(a2:List Int):Option ((List Int)×Bool):=(if(([]:List Int)++a0).length*1≤140737488355328∧(([]:List Int)++a0).length≤maxLen then((Avl K a0 a1 (a2.length:Int)).bind fun r1=>(bif (!r1)then some ((([]:List Int)++a0),false)else(Aqc K a1 a2 K (([]:List Int)++a0) 0)))else none)
def Bsh:=fd Tryz.func228 ⟨[.v 22,.v 3,.v 22],[.n 22 true,.v 4],true⟩ (gC (Bk3 K) gN)
def B2b:Ej:=⟨[(1,.v 2),(2,.v 22),(8,.o 1008 5 true),(9,.v 2)],[]⟩
def Bht:=lp (Bsh K) 122 B2b [] (fun n a b=>Aqc K a b n) (fun n=>kN)
def Bud:=ct (Bsh K) (A0y K) (kC (Bht K K) kN)
def Au0 (K:Nat)(a0:List Int)(a1:Bc)(a2:Int)(a3:List Int):Option ((List Int)×Bool):=((Ayp K a1 a2 (a3.length:Int)).bind fun r1=>(bif (!r1)then(if(([]:List Int)++a0).length*1≤140737488355328∧(([]:List Int)++a0).length≤maxLen then some ((([]:List Int)++a0),false)else none)else((A0y K a0 (An6 .i64 a1.fAt a2) a3).bind fun r2=>some (r2.1,r2.2))))
def Bue:=ct (fd Tryz.func143 ⟨[.v 22,.v 132,.v 3,.v 22],[.n 22 true,.v 4],true⟩ (gC (Bk2 K) (gC (Bud K) gN))) (Au0 K)
def A0z (K:Nat)(a0:C5)(a1:Br)(a2:Int)(a3:List Int):Option (C5×Et):=((Aqb K a0).bind fun r1=>((Arn K a0).bind fun r2=>(bif (!r2)then some (r1,(Et.mk 1 (An.mk 0 0) (Br.mk (An.mk 0 0) 0 0) [] 0 0 0))else((As9 K a0 a1).bind fun r3=>((Aoz K a0 a1.fH).bind fun r4=>(bif (r3.2.2 != 0)then some (r1,(Et.mk r3.2.2 (An.mk 0 0) (Br.mk (An.mk 0 0) 0 0) [] r4 0 0))else((Au0 K a0.fP.N7 r3.2.1 a2 a3).bind fun r5=>(bif (!r5.2)then some (r1,(Et.mk 7 (An.mk 0 0) (Br.mk (An.mk 0 0) 0 0) [] r4 0 0))else some ((C5.mk r1.fC (Dn.mk r5.1 r1.fP.Vi r1.fP.N8) r1.fL r1.fQ r1.Acy),(Et.mk r3.2.2 (An.mk 0 0) (Br.mk (An.mk 0 0) 0 0) [] r4 0 0))))))))))
def Buf:=ct (fd Tryz.func58 ⟨[.v 32,.v 38,.v 3,.v 22],[.n 32 true,.n 73 true],false⟩ (gC (Bal K) (gC (Bb7 K) (gC (A70 K) (gC (Bk1 K) (gC (Bue K) gN))))) [] [] [(7,[.take 114 7 6831]),(11,[.take 114 7 6831]),(13,[.take 114 7 6831])]) (A0z K)
def Ayq (K:Nat)(v7:Et)(v10:C5):Option (C5×Et):=some (v10,v7)
def Awa (K:Nat)(a2:Int)(r1:C5)(v6:Int)(v7:Et)(v8:Et)(v9:C5):Option (C5×Et):=(bif (v7.W4==0)then(if(0:Int)≤v6∧v6<(r1.fL.length:Int)then(if(0:Int)≤v6∧v6<(r1.fL.length:Int)then(if(((gt r1.fL v6).Fi)++([a2]:List Int)).length*8≤140737488355328∧(((gt r1.fL v6).Fi)++([a2]:List Int)).length≤maxLen then(if(0:Int)≤v6∧v6<(r1.fL.length:Int)then(Ayq K v7 (C5.mk r1.fC r1.fP (r1.fL.set v6.toNat (As.mk ((gt r1.fL v6).Vi) ((gt r1.fL v6).C9) ((gt r1.fL v6).Sl) ((gt r1.fL v6).fUp) ((gt r1.fL v6).Sm) ((gt r1.fL v6).Ef) ((gt r1.fL v6).Sn) ((gt r1.fL v6).So) ((gt r1.fL v6).Ay) ((gt r1.fL v6).Acx) ((gt r1.fL v6).Sq) ((gt r1.fL v6).F6) (((gt r1.fL v6).Fi)++([a2]:List Int)))) r1.fQ r1.Acy))else none)else none)else none)else none)else(Ayq K v7 r1))
def Axv (K:Nat)(a0:C5)(a1:An)(a2:Int):Option (C5×Et):=((Aqb K a0).bind fun r1=>((Arn K a0).bind fun r2=>(bif r2 then((Gx K a2 0 255).bind fun r3=>(bif (!r3)then some (r1,(Et.mk 1 (An.mk 0 0) (Br.mk (An.mk 0 0) 0 0) [] 0 0 0))else((Alx K a0 a1).bind fun r4=>((Aoz K a0 a1).bind fun r5=>(bif (r4.2==0)then(if(0:Int)≤r4.1∧r4.1<(a0.fL.length:Int)then(bif (decide ((((gt a0.fL r4.1).Fi).length:Int)≥6))then(Awa K a2 r1 r4.1 (Et.mk 8 (An.mk 0 0) (Br.mk (An.mk 0 0) 0 0) [] r5 0 0) (Et.mk 0 (An.mk 0 0) (Br.mk (An.mk 0 0) 0 0) [] 0 0 0) (C5.mk (Ea.mk 0 0 0 0 0 0) (Dn.mk [] [] []) [] [] []))else(Awa K a2 r1 r4.1 (Et.mk r4.2 (An.mk 0 0) (Br.mk (An.mk 0 0) 0 0) [] r5 0 0) (Et.mk 0 (An.mk 0 0) (Br.mk (An.mk 0 0) 0 0) [] 0 0 0) (C5.mk (Ea.mk 0 0 0 0 0 0) (Dn.mk [] [] []) [] [] [])))else none)else(Awa K a2 r1 r4.1 (Et.mk r4.2 (An.mk 0 0) (Br.mk (An.mk 0 0) 0 0) [] r5 0 0) (Et.mk 0 (An.mk 0 0) (Br.mk (An.mk 0 0) 0 0) [] 0 0 0) (C5.mk (Ea.mk 0 0 0 0 0 0) (Dn.mk [] [] []) [] [] [])))))))else some (r1,(Et.mk 1 (An.mk 0 0) (Br.mk (An.mk 0 0) 0 0) [] 0 0 0)))))
def Bk4:=fd Tryz.func49 ⟨[.v 32,.v 36,.v 3],[.n 32 true,.n 73 true],false⟩ (gC (Bal K) (gC (Bb7 K) (gC (A2a K) (gC (A7z K) (gC (A70 K) gN))))) [15,16,17,36,37] [63,127] [(9,[.take 108 9 6737,.opn 6737 (.tmp 9),.takeE 6737 12 87180]),(10,[.take 108 6 6734,.take 108 7 6735,.take 108 8 6736,.take 108 9 6737,.take 108 10 6738,.take 108 11 6739,.take 111 7 6783])]
def B2c:Ej:=⟨[(6,.p 106),(7,.p 107),(8,.p 108),(11,.p 111)],[(111,.st 73 true),(108,.st 32 true),(107,.st 73 true),(106,.st 32 true)]⟩
def B2d:Ej:=⟨[(2,.v 2),(6,.p 106),(7,.p 107),(8,.p 108),(9,.v 2),(11,.p 111)],[(111,.st 73 true),(108,.st 32 true),(107,.st 73 true),(106,.st 32 true)]⟩
def Bhu:=jn (Bk4 K) 127 B2c [] (fun a b _ _=>Ayq K a b) kN
def Bk5:=jn (Bk4 K) 63 B2d [] (fun a b c d=>Awa K a d b c) (kC (Bhu K) kN)
def Bk6:=ct (Bk4 K) (Axv K) (kC (Bk5 K) kN)
def Avm (K:Nat)(a0:Ea)(a1:As):Option (Int):=(bif (a1.Acx==0)then some 0 else((Ap8 K a0 a1).bind fun r1=>(bif (!r1)then some 0 else some (An7 .i64 a0.G8 a1.Sq))))
def Bug:=ct (fd Tryz.func136 ⟨[.v 25,.v 50],[.v 3],true⟩ (gC (A9x K) gN) [7,8]) (Avm K)
def Avn (K:Nat)(r1:C5)(v6:Et)(v7:Et)(v8:C5):Option (C5×Et):=some (r1,v6)
def Atz (K:Nat)(a0:C5)(a1:An):Option (C5×Et):=((Aqb K a0).bind fun r1=>((Arn K a0).bind fun r2=>(bif (!r2)then some (r1,(Et.mk 1 (An.mk 0 0) (Br.mk (An.mk 0 0) 0 0) [] 0 0 0))else((Alx K a0 a1).bind fun r3=>((Aoz K a0 a1).bind fun r4=>(bif (r3.2==0)then(if(0:Int)≤r3.1∧r3.1<(a0.fL.length:Int)then((Avm K a0.fC (gt a0.fL r3.1)).bind fun r5=>(Avn K r1 (Et.mk r3.2 (An.mk 0 0) (Br.mk (An.mk 0 0) 0 0) ([(IntKind.u8.wrap (((gt a0.fL r3.1).Ay).length:Int)),(IntKind.u8.wrap (((gt a0.fL r3.1).F6).length:Int)),(IntKind.u8.wrap (((gt a0.fL r3.1).Fi).length:Int)),(IntKind.u8.wrap r5)]:List Int) r4 0 0) (Et.mk 0 (An.mk 0 0) (Br.mk (An.mk 0 0) 0 0) [] 0 0 0) (C5.mk (Ea.mk 0 0 0 0 0 0) (Dn.mk [] [] []) [] [] [])))else none)else(Avn K r1 (Et.mk r3.2 (An.mk 0 0) (Br.mk (An.mk 0 0) 0 0) [] r4 0 0) (Et.mk 0 (An.mk 0 0) (Br.mk (An.mk 0 0) 0 0) [] 0 0 0) (C5.mk (Ea.mk 0 0 0 0 0 0) (Dn.mk [] [] []) [] [] []))))))))
def Bsi:=fd Tryz.func52 ⟨[.v 32,.v 36],[.n 32 true,.n 73 true],false⟩ (gC (Bal K) (gC (Bb7 K) (gC (A7z K) (gC (A70 K) (gC (Bug K) gN))))) [] [63] [(9,[.take 106 6 6702,.take 106 7 6703,.take 106 8 6704,.take 106 9 6705,.take 106 10 6706,.take 106 11 6707,.take 109 7 6751])]
def B2e:Ej:=⟨[(4,.p 104),(5,.p 105),(6,.p 106),(9,.p 109)],[(109,.st 73 true),(106,.st 32 true),(105,.st 73 true),(104,.st 32 true)]⟩
def Bk7:=jn (Bsi K) 63 B2e [] (fun a b=>Avn K b a) kN
def Bk8:=ct (Bsi K) (Atz K) (kC (Bk7 K) kN)
def Azx (K:Nat)(a0:C5)(a1:Co):Option (C5×Et):=(bif (a1.W3==3)then((A1u K a0 a1.fR a1.fN a1.fM).bind fun r1=>some (r1.1,r1.2))else(bif (a1.W3==4)then((A0z K a0 a1.fR a1.fN a1.fB).bind fun r2=>some (r2.1,r2.2))else(bif (a1.W3==5)then((Axv K a0 a1.fH a1.fN).bind fun r3=>some (r3.1,r3.2))else(bif (a1.W3==8)then((Atz K a0 a1.fH).bind fun r4=>some (r4.1,r4.2))else((Aqb K a0).bind fun r5=>some (r5,(Et.mk 1 (An.mk 0 0) (Br.mk (An.mk 0 0) 0 0) [] 0 0 0)))))))
def Buh:=ct (fd Tryz.func266 ⟨[.v 32,.v 40],[.n 32 true,.n 73 true],false⟩ (gC (Bk6 K) (gC (Bk8 K) (gC (Buf K) (gC (Buc K) (gC (Bb7 K) gN)))))) (Azx K)
def A1a (K:Nat)(v31:Int)(v32:Int)(v33:Int)(v34:Int)(v35:Int)(v36:Int)(v37:List Int)(v38:List Int)(v39:List Int)(v40:List As)(v41:List Az)(v42:List Int)(v43:Et):Option (Et×C5):=some (v43,(C5.mk (Ea.mk v31 v32 v33 v34 v35 v36) (Dn.mk v37 v38 v39) v40 v41 v42))
def Avo (K:Nat)(v4:Bool)(v5:Int)(v6:Int)(v7:Int)(v8:Int)(v9:Int)(v10:Int)(v11:List Int)(v12:List Int)(v13:List Int)(v14:List As)(v15:List Az)(v16:List Int)(v17:Et)(v18:Int)(v19:Int)(v20:Int)(v21:Int)(v22:Int)(v23:Int)(v24:Int)(v25:Int)(v26:Int)(v27:List Int):Option (Et×C5):=(bif v4 then((Alx K (C5.mk (Ea.mk v5 v6 v7 v8 v9 v10) (Dn.mk v11 v12 v13) v14 v15 v16) (An.mk v19 v20)).bind fun r28=>((Aoz K (C5.mk (Ea.mk v5 v6 v7 v8 v9 v10) (Dn.mk v11 v12 v13) v14 v15 v16) (An.mk v19 v20)).bind fun r29=>(bif (r28.2 != 0)then some ((Et.mk r28.2 (An.mk 0 0) (Br.mk (An.mk 0 0) 0 0) [] r29 0 0),(C5.mk (Ea.mk v5 v6 v7 v8 v9 v10) (Dn.mk v11 v12 v13) v14 v15 v16))else(bif (v18==6)then((Auy K (C5.mk (Ea.mk v5 v6 v7 v8 v9 v10) (Dn.mk v11 v12 v13) v14 v15 v16) r28.1).bind fun r30=>(A1a K r30.fC.Ay r30.fC.G8 r30.fC.E6 r30.fC.Gu r30.fC.E7 r30.fC.G9 r30.fP.N7 r30.fP.Vi r30.fP.N8 r30.fL r30.fQ r30.Acy (Et.mk r28.2 (An.mk 0 0) (Br.mk (An.mk 0 0) 0 0) [] r29 0 0)))else((Axd K (C5.mk (Ea.mk v5 v6 v7 v8 v9 v10) (Dn.mk v11 v12 v13) v14 v15 v16) r28.1).bind fun r44=>(A1a K r44.fC.Ay r44.fC.G8 r44.fC.E6 r44.fC.Gu r44.fC.E7 r44.fC.G9 r44.fP.N7 r44.fP.Vi r44.fP.N8 r44.fL r44.fQ r44.Acy (Et.mk r28.2 (An.mk 0 0) (Br.mk (An.mk 0 0) 0 0) [] r29 0 0)))))))else((Azx K (C5.mk (Ea.mk v5 v6 v7 v8 v9 v10) (Dn.mk v11 v12 v13) v14 v15 v16) (Co.mk v18 (An.mk v19 v20) (Br.mk (An.mk v21 v22) v23 v24) v25 v26 v27)).bind fun r45=>some (r45.2,r45.1)))
def A00 (K:Nat)(a0:C5)(a1:Co):Option (Et×C5):=(bif (a1.W3==1)then((Ayi K a0 a1.fH).bind fun r1=>some (r1.1,r1.2))else(bif (a1.W3==2)then((Axc K a0 a1.fH a1.fN a1.fM).bind fun r2=>some (r2.1,r2.2))else(bif (a1.W3==9)then((Avg K a0 4000).bind fun r3=>some ((Et.mk 0 (An.mk 0 0) (Br.mk (An.mk 0 0) 0 0) [] 0 0 r3.1),r3.2))else(bif (a1.W3==6)then(Avo K (a1.W3==6) a0.fC.Ay a0.fC.G8 a0.fC.E6 a0.fC.Gu a0.fC.E7 a0.fC.G9 a0.fP.N7 a0.fP.Vi a0.fP.N8 a0.fL a0.fQ a0.Acy (Et.mk 0 (An.mk 0 0) (Br.mk (An.mk 0 0) 0 0) [] 0 0 0) a1.W3 a1.fH.Bm a1.fH.C9 a1.fR.fH.Bm a1.fR.fH.C9 a1.fR.Sl a1.fR.fNo a1.fN a1.fM a1.fB)else(Avo K (a1.W3==7) a0.fC.Ay a0.fC.G8 a0.fC.E6 a0.fC.Gu a0.fC.E7 a0.fC.G9 a0.fP.N7 a0.fP.Vi a0.fP.N8 a0.fL a0.fQ a0.Acy (Et.mk 0 (An.mk 0 0) (Br.mk (An.mk 0 0) 0 0) [] 0 0 0) a1.W3 a1.fH.Bm a1.fH.C9 a1.fR.fH.Bm a1.fR.fH.C9 a1.fR.Sl a1.fR.fNo a1.fN a1.fM a1.fB)))))
def Bk9:=fd Tryz.func230 ⟨[.b 32 false,.v 40],[.v 73],false⟩ (gC (By7 K) (gC (By4 K) (gC (A7z K) (gC (A70 K) (gC (Byv K) (gC (By2 K) (gC (Bkk K) (gC (Buh K) gN)))))))) [] [1727,55287] [(10,[.take 1 6 5022,.take 1 7 5023,.take 1 8 5024,.take 1 9 5025,.take 1 10 5026,.take 1 11 5027]),(13,[.take 107 7 6719]),(15,[.put 1]),(16,[.put 1]),(17,[.take 107 7 6719]),(18,[.take 1 6 5022,.take 1 7 5023,.take 1 8 5024,.take 1 9 5025,.take 1 10 5026,.take 1 11 5027,.frz 5022,.frz 5023,.frz 5024,.frz 5025,.frz 5026,.frz 5027])]
def B2f:Ej:=⟨[(4,.p 104),(7,.p 107)],[(1,.box [.v 2,.v 2,.v 2,.v 2,.v 2,.v 2,.T 5 true,.T 3 true,.T 3 true,.T 50 true,.T 52 false,.T 3 true]),(107,.st 73 true),(104,.st 73 true)]⟩
def B2g:Ej:=⟨[(0,.p 1),(3,.p 103),(4,.p 104),(33,.v 4)],[(1,.box [.v 2,.v 2,.v 2,.v 2,.v 2,.v 2,.T 5 true,.T 3 true,.T 3 true,.T 50 true,.T 52 false,.T 3 true]),(104,.st 73 true),(103,.box [.v 2,.v 2,.v 2,.v 2,.v 2,.v 2,.v 2,.v 2,.v 2,.v 22])]⟩
def Bca:=jn (Bk9 K) 55287 B2f [] (fun a b c d e f g h i j k l m _=>A1a K a b c d e f g h i j k l m) kN
def Bd9:=jn (Bk9 K) 1727 B2g [] (Avo K) (kC (Bca K) kN)
def Bui:=ct (Bk9 K) (A00 K) (kC (Bd9 K) kN)
def Aub (K:Nat):Nat->(List Co)->Int->(List Int)->Int->Int->C5->Ea->C5->Ea->Option (Ea×(List Co)×C5×D1)
 |0,_,_,_,_,_,_,_,_,_=>none
 |n1+1,v4,v5,v6,v7,v8,v9,v10,v11,v12=>(bif (decide (v5>0))then(bif (decide ((v4.length:Int)<200))then((Ayd K (D1.mk v6 v7 v8) v9).bind fun r13=>(if r13.2.2.1.length=v9.fP.N7.length∧r13.2.2.2.1.length=v9.fP.Vi.length∧r13.2.2.2.2.1.length=v9.fP.N8.length∧r13.2.2.2.2.2.1.length=v9.fL.length∧r13.2.2.2.2.2.2.1.length=v9.fQ.length∧r13.2.2.2.2.2.2.2.length=v9.Acy.length then(if(v4++([r13.1]:List Co)).length*96≤140737488355328∧(v4++([r13.1]:List Co)).length≤maxLen then((A00 K (C5.mk v9.fC (Dn.mk r13.2.2.1 r13.2.2.2.1 r13.2.2.2.2.1) r13.2.2.2.2.2.1 r13.2.2.2.2.2.2.1 r13.2.2.2.2.2.2.2) r13.1).bind fun r14=>(Aub K n1 (v4++([r13.1]:List Co)) (An7 .i64 v5 1) r13.2.1.fb r13.2.1.fi r13.2.1.fh r14.2 v10 v11 v12))else none)else none))else some (v10,v4,v9,(D1.mk v6 v7 v8)))else some (v10,v4,v9,(D1.mk v6 v7 v8)))
def Azy (K:Nat)(a0:D1)(a1:Int):Option (Ea×(List Co)×C5×D1):=((Awp K a0).bind fun r1=>((Aw5 K r1.1).bind fun r2=>((Ap K r1.2 a1).bind fun r3=>(Aub K K ([]:List Co) (An6 .i64 4 r3.1) r3.2.fb r3.2.fi r3.2.fh r2 r1.1 (C5.mk (Ea.mk 0 0 0 0 0 0) (Dn.mk [] [] []) [] [] []) (Ea.mk 0 0 0 0 0 0)))))
def Bsj:=fd Tryz.func149 ⟨[.b 148 false,.v 3],[.v 25,.n 149 false,.n 32 false],false⟩ (gC (Bxo K) (gC (A3m K) (gC (Bxs K) (gC (Bxj K) (gC (Bui K) gN))))) [22,23] [] [(4,[.put 108,.take 108 10 6738,.shal 6738,.put 108,.shal 1009]),(7,[.take 108 6 6734,.take 108 7 6735,.take 108 8 6736,.take 108 9 6737,.take 108 10 6738,.take 108 11 6739]),(9,[.put 108]),(10,[.take 108 6 6734,.take 108 7 6735,.take 108 8 6736,.take 108 9 6737,.take 108 10 6738,.take 108 11 6739])] [(32,[.frz 3032])]
def B2h:Ej:=⟨[(0,.p 1),(4,.p 104),(6,.p 106),(7,.p 107),(8,.p 108),(9,.o 1009 40 false),(10,.v 2)],[(1,.box [.v 22,.v 2,.v 2]),(108,.st 32 false),(107,.st 25 true),(106,.st 32 true),(104,.st 25 true)]⟩
def Bhv:=lp (Bsj K) 250 B2h [] (Aub K) (fun n=>kN)
def Buj:=ct (Bsj K) (Azy K) (kC (Bhv K K) kN)
def A0j (K:Nat)(a0:D1)(a1:Int):Option (C5×D1):=((Azy K a0 a1).bind fun r1=>some (r1.2.2.1,r1.2.2.2))
def Buk:=ct (fd Tryz.func68 ⟨[.b 148 false,.v 3],[.n 32 false],false⟩ (gC (Buj K) gN)) (A0j K)
def Apc (K:Nat)(v4:List Int)(v5:Int)(v6:Int)(v7:Ea)(v8:Ea):Option (Ea×D1):=some (v7,(D1.mk v4 v5 v6))
def A01 (K:Nat)(a0:D1):Option (Ea×D1):=((Awp K a0).bind fun r1=>((Ap K r1.2 14).bind fun r2=>(bif (r2.1==0)then((K1 K r2.2 ([1,2,12,13]:List Int)).bind fun r3=>(if r3.2.2.length=([1,2,12,13]:List Int).length then(Apc K r3.2.1.fb r3.2.1.fi r3.2.1.fh (Ea.mk r3.1 r1.1.G8 r1.1.E6 r1.1.Gu r1.1.E7 r1.1.G9) (Ea.mk 0 0 0 0 0 0))else none))else(bif (r2.1==1)then((K1 K r2.2 ([7,8,16,17]:List Int)).bind fun r9=>(if r9.2.2.length=([7,8,16,17]:List Int).length then(Apc K r9.2.1.fb r9.2.1.fi r9.2.1.fh (Ea.mk r1.1.Ay r9.1 r1.1.E6 r1.1.Gu r1.1.E7 r1.1.G9) (Ea.mk 0 0 0 0 0 0))else none))else(bif (r2.1==2)then((K1 K r2.2 ([1,8,9]:List Int)).bind fun r10=>(if r10.2.2.length=([1,8,9]:List Int).length then(Apc K r10.2.1.fb r10.2.1.fi r10.2.1.fh (Ea.mk r1.1.Ay r1.1.G8 r10.1 r1.1.Gu r1.1.E7 r1.1.G9) (Ea.mk 0 0 0 0 0 0))else none))else(bif (r2.1==3)then((K1 K r2.2 ([0,8,9]:List Int)).bind fun r11=>(if r11.2.2.length=([0,8,9]:List Int).length then(Apc K r11.2.1.fb r11.2.1.fi r11.2.1.fh (Ea.mk r1.1.Ay r1.1.G8 r1.1.E6 r11.1 r1.1.E7 r1.1.G9) (Ea.mk 0 0 0 0 0 0))else none))else(bif (r2.1==4)then((K1 K r2.2 ([0,17]:List Int)).bind fun r12=>(if r12.2.2.length=([0,17]:List Int).length then(Apc K r12.2.1.fb r12.2.1.fi r12.2.1.fh (Ea.mk r1.1.Ay r1.1.G8 r1.1.E6 r1.1.Gu r12.1 r1.1.G9) (Ea.mk 0 0 0 0 0 0))else none))else(bif (r2.1==5)then((K1 K r2.2 ([0,5]:List Int)).bind fun r13=>(if r13.2.2.length=([0,5]:List Int).length then(Apc K r13.2.1.fb r13.2.1.fi r13.2.1.fh (Ea.mk r1.1.Ay r1.1.G8 r1.1.E6 r1.1.Gu r1.1.E7 r13.1) (Ea.mk 0 0 0 0 0 0))else none))else(Apc K r2.2.fb r2.2.fi r2.2.fh r1.1 (Ea.mk 0 0 0 0 0 0))))))))))
def Bsk:=fd Tryz.func90 ⟨[.b 148 false],[.v 25],false⟩ (gC (A3m K) (gC (A9d K) (gC (Bxj K) gN))) [] [7]
def B2i:Ej:=⟨[(2,.p 102),(3,.p 103)],[(1,.box [.v 22,.v 2,.v 2]),(103,.st 25 true),(102,.st 25 true)]⟩
def Bqo:=jn (Bsk K) 7 B2i [] (Apc K) kN
def Bul:=ct (Bsk K) (A01 K) (kC (Bqo K) kN)
def Ata (K:Nat)(a1:Ea)(v4:List Int)(v5:Int)(v6:Int)(v7:Bc):Option (Bc×D1):=((Ap K (D1.mk v4 v5 v6) a1.Ay).bind fun r8=>((Ap K r8.2 a1.G8).bind fun r9=>((Ap K r9.2 (An7 .i64 a1.G8 r9.1)).bind fun r10=>some ((Bc.mk (An6 .i64 (An8 .i64 r8.1 a1.G8) r9.1) (An6 .i64 1 r10.1) 0),r10.2))))
def Ayr (K:Nat)(a0:D1)(a1:Ea):Option (Bc×D1):=((Aim K a0 4).bind fun r1=>(bif r1.1 then(bif (decide (a1.Ay>2))then((Ap K r1.2 (An7 .i64 a1.Ay 1)).bind fun r2=>((Ap K r2.2 a1.G8).bind fun r3=>some ((Bc.mk (An8 .i64 a1.G8 r2.1) (An6 .i64 (An6 .i64 a1.G8 1) r3.1) 2),r3.2)))else(Ata K a1 r1.2.fb r1.2.fi r1.2.fh (Bc.mk 0 0 0)))else(Ata K a1 r1.2.fb r1.2.fi r1.2.fh (Bc.mk 0 0 0))))
def Bsl:=fd Tryz.func285 ⟨[.b 148 false,.v 25],[.v 132],false⟩ (gC (A3m K) (gC (A9v K) gN)) [8,9] [3]
def B2j:Ej:=⟨[(0,.p 1),(3,.p 103),(4,.p 104)],[(1,.box [.v 22,.v 2,.v 2]),(104,.st 132 true),(103,.st 25 true)]⟩
def Bqp:=jn (Bsl K) 3 B2j [] (fun a b c d e=>Ata K e a b c d) kN
def Bum:=ct (Bsl K) (Ayr K) (kC (Bqp K) kN)
def Auc (K:Nat):Nat->Int->(List Int)->Int->Int->As->Option (As×D1)
 |0,_,_,_,_,_=>none
 |n4+1,v25,v26,v27,v28,v29=>(bif (decide (v25>0))then((Ap K (D1.mk v26 v27 v28) 256).bind fun r30=>(if(v29.Fi++([r30.1]:List Int)).length*8≤140737488355328∧(v29.Fi++([r30.1]:List Int)).length≤maxLen then(Auc K n4 (An7 .i64 v25 1) r30.2.fb r30.2.fi r30.2.fh (As.mk v29.Vi v29.C9 v29.Sl v29.fUp v29.Sm v29.Ef v29.Sn v29.So v29.Ay v29.Acx v29.Sq v29.F6 (v29.Fi++([r30.1]:List Int))))else none))else some (v29,(D1.mk v26 v27 v28)))
def Aud (K:Nat)(a1:Ea):Nat->Int->(List Int)->Int->Int->As->Option (As×D1)
 |0,_,_,_,_,_=>none
 |n3+1,v18,v19,v20,v21,v22=>(bif (decide (v18>0))then((Ayr K (D1.mk v19 v20 v21) a1).bind fun r23=>(if(v22.F6++([r23.1]:List Bc)).length*24≤140737488355328∧(v22.F6++([r23.1]:List Bc)).length≤maxLen then(Aud K a1 n3 (An7 .i64 v18 1) r23.2.fb r23.2.fi r23.2.fh (As.mk v22.Vi v22.C9 v22.Sl v22.fUp v22.Sm v22.Ef v22.Sn v22.So v22.Ay v22.Acx v22.Sq (v22.F6++([r23.1]:List Bc)) v22.Fi))else none))else((Ap K (D1.mk v19 v20 v21) 3).bind fun r24=>(Auc K K r24.1 r24.2.fb r24.2.fi r24.2.fh v22)))
def Aue (K:Nat)(a1:Ea)(v13:List Int)(v14:Int)(v15:Int)(v16:As):Option (As×D1):=((Ap K (D1.mk v13 v14 v15) 3).bind fun r17=>(Aud K a1 K r17.1 r17.2.fb r17.2.fi r17.2.fh v16))
def Auf (K:Nat)(a1:Ea):Nat->Int->(List Int)->Int->Int->As->As->Option (As×D1)
 |0,_,_,_,_,_,_=>none
 |n1+1,v6,v7,v8,v9,v10,v11=>(bif (decide (v6>0))then(if(v10.Ay++([(An7 .i64 v6 1)]:List Int)).length*8≤140737488355328∧(v10.Ay++([(An7 .i64 v6 1)]:List Int)).length≤maxLen then(Auf K a1 n1 (An7 .i64 v6 1) v7 v8 v9 (As.mk v10.Vi v10.C9 v10.Sl v10.fUp v10.Sm v10.Ef v10.Sn v10.So (v10.Ay++([(An7 .i64 v6 1)]:List Int)) v10.Acx v10.Sq v10.F6 v10.Fi) v11)else none)else(bif (decide ((v10.Ay.length:Int)>0))then(if(0:Int)≤0∧0<(v10.Ay.length:Int)then((Ap K (D1.mk v7 v8 v9) (An6 .i64 a1.G8 1)).bind fun r12=>(Aue K a1 r12.2.fb r12.2.fi r12.2.fh (As.mk v10.Vi v10.C9 v10.Sl v10.fUp v10.Sm v10.Ef v10.Sn v10.So v10.Ay (An6 .i64 (gt v10.Ay 0) 1) r12.1 v10.F6 v10.Fi)))else none)else(Aue K a1 v7 v8 v9 v10)))
def Azz (K:Nat)(a0:D1)(a1:Ea):Option (As×D1):=((Ap K a0 a1.G9).bind fun r1=>((Ak0 K (An6 .i64 1 r1.1)).bind fun r2=>((Ap K r1.2 4).bind fun r3=>(bif (r3.1 != 1)then some ((As.mk r3.1 r2.C9 r2.Sl r2.fUp r2.Sm r2.Ef r2.Sn r2.So r2.Ay r2.Acx r2.Sq r2.F6 r2.Fi),r3.2)else((Ap K r3.2 3).bind fun r4=>((Ap K r4.2 3).bind fun r5=>(Auf K a1 K r5.1 r5.2.fb r5.2.fi r5.2.fh (As.mk r3.1 r2.C9 r4.1 r2.fUp r2.Sm r2.Ef r2.Sn r2.So r2.Ay r2.Acx r2.Sq r2.F6 r2.Fi) (As.mk 0 0 0 0 0 0 0 0 [] 0 0 [] []))))))))
def Bcb:=fd Tryz.func254 ⟨[.b 148 false,.v 25],[.n 50 false],false⟩ (gC (A3m K) (gC (Bb4 K) (gC (Bum K) gN))) [] [127] [(9,[.take 105 8 6688]),(10,[.take 105 8 6688]),(17,[.take 105 11 6691]),(21,[.take 105 12 6692]),(22,[.take 105 8 6688,.take 105 11 6691,.take 105 12 6692])]
def B2k:Ej:=⟨[(0,.p 1),(4,.p 104),(5,.p 105),(9,.v 2)],[(1,.box [.v 22,.v 2,.v 2]),(105,.st 50 false),(104,.st 50 false)]⟩
def Bzn:Ej:=⟨[(0,.p 1),(3,.p 103),(4,.p 104),(5,.p 105),(7,.v 2)],[(1,.box [.v 22,.v 2,.v 2]),(105,.st 50 false),(104,.st 50 false),(103,.st 25 true)]⟩
def B2l:Ej:=⟨[(0,.p 1),(3,.p 103),(4,.p 104),(5,.p 105)],[(1,.box [.v 22,.v 2,.v 2]),(105,.st 50 false),(104,.st 50 false),(103,.st 25 true)]⟩
def B2m:Ej:=⟨[(0,.p 1),(3,.p 103),(4,.p 104),(5,.p 105),(6,.v 2)],[(1,.box [.v 22,.v 2,.v 2]),(105,.st 50 false),(104,.st 50 false),(103,.st 25 true)]⟩
def Bea:=lp (Bcb K) 4090 B2k [] (fun n a b c d e _=>Auc K n a b c d e) (fun n=>kN)
def Beb:=lp (Bcb K) 2042 Bzn [] (fun n a b c d e _ g=>Aud K g n a b c d e) (fun n=>(kC (up (Bea K K)) kN))
def Bhw:=jn (Bcb K) 127 B2l [] (fun a b c d _ f=>Aue K f a b c d) (kC (Beb K K) kN)
def Bhx:=lp (Bcb K) 506 B2m [] (fun n a b c d e f g=>Auf K g n a b c d e f) (fun n=>(kC (up (Bhw K)) kN))
def Bun:=ct (Bcb K) (Azz K) (kC (Bhx K K) kN)
def Ak4 (K:Nat)(v4:List Int)(v5:Int)(v6:Int)(v7:As)(v8:As):Option (As×D1):=some (v7,(D1.mk v4 v5 v6))
def A02 (K:Nat)(a0:D1)(a1:Ea):Option (As×D1):=((Azz K a0 a1).bind fun r1=>((Ap K r1.2 14).bind fun r2=>(bif (r2.1==0)then((Ap K r2.2 6).bind fun r3=>(Ak4 K r3.2.fb r3.2.fi r3.2.fh (As.mk (An7 .i64 r3.1 1) r1.1.C9 r1.1.Sl r1.1.fUp r1.1.Sm r1.1.Ef r1.1.Sn r1.1.So r1.1.Ay r1.1.Acx r1.1.Sq r1.1.F6 r1.1.Fi) (As.mk 0 0 0 0 0 0 0 0 [] 0 0 [] [])))else(bif (r2.1==1)then((K1 K r2.2 ([0,4,5]:List Int)).bind fun r9=>(if r9.2.2.length=([0,4,5]:List Int).length then(Ak4 K r9.2.1.fb r9.2.1.fi r9.2.1.fh (As.mk r1.1.Vi r9.1 r1.1.Sl r1.1.fUp r1.1.Sm r1.1.Ef r1.1.Sn r1.1.So r1.1.Ay r1.1.Acx r1.1.Sq r1.1.F6 r1.1.Fi) (As.mk 0 0 0 0 0 0 0 0 [] 0 0 [] []))else none))else(bif (r2.1==2)then((K1 K r2.2 ([(-1),1,8,9]:List Int)).bind fun r10=>(if r10.2.2.length=([(-1),1,8,9]:List Int).length then(Ak4 K r10.2.1.fb r10.2.1.fi r10.2.1.fh (As.mk r1.1.Vi r1.1.C9 r1.1.Sl r10.1 r1.1.Sm r1.1.Ef r1.1.Sn r1.1.So r1.1.Ay r1.1.Acx r1.1.Sq r1.1.F6 r1.1.Fi) (As.mk 0 0 0 0 0 0 0 0 [] 0 0 [] []))else none))else(bif (r2.1==3)then((K1 K r2.2 ([0,12,(-1)]:List Int)).bind fun r11=>(if r11.2.2.length=([0,12,(-1)]:List Int).length then(if(r1.1.Ay++([r11.1]:List Int)).length*8≤140737488355328∧(r1.1.Ay++([r11.1]:List Int)).length≤maxLen then(Ak4 K r11.2.1.fb r11.2.1.fi r11.2.1.fh (As.mk r1.1.Vi r1.1.C9 r1.1.Sl r1.1.fUp r1.1.Sm r1.1.Ef r1.1.Sn r1.1.So (r1.1.Ay++([r11.1]:List Int)) r1.1.Acx r1.1.Sq r1.1.F6 r1.1.Fi) (As.mk 0 0 0 0 0 0 0 0 [] 0 0 [] []))else none)else none))else(bif (r2.1==4)then((Ap K r2.2 4).bind fun r12=>(Ak4 K r12.2.fb r12.2.fi r12.2.fh (As.mk r1.1.Vi r1.1.C9 r1.1.Sl r1.1.fUp r1.1.Sm r1.1.Ef r1.1.Sn r1.1.So r1.1.Ay r12.1 r1.1.Sq r1.1.F6 r1.1.Fi) (As.mk 0 0 0 0 0 0 0 0 [] 0 0 [] [])))else(bif (r2.1==5)then((K1 K r2.2 ([0,8,17,(-1)]:List Int)).bind fun r13=>(if r13.2.2.length=([0,8,17,(-1)]:List Int).length then(Ak4 K r13.2.1.fb r13.2.1.fi r13.2.1.fh (As.mk r1.1.Vi r1.1.C9 r1.1.Sl r1.1.fUp r1.1.Sm r1.1.Ef r1.1.Sn r1.1.So r1.1.Ay r1.1.Acx r13.1 r1.1.F6 r1.1.Fi) (As.mk 0 0 0 0 0 0 0 0 [] 0 0 [] []))else none))else(bif (r2.1==6)then((K1 K r2.2 ([255,256,(-1)]:List Int)).bind fun r14=>(if r14.2.2.length=([255,256,(-1)]:List Int).length then(if(r1.1.Fi++([r14.1]:List Int)).length*8≤140737488355328∧(r1.1.Fi++([r14.1]:List Int)).length≤maxLen then(Ak4 K r14.2.1.fb r14.2.1.fi r14.2.1.fh (As.mk r1.1.Vi r1.1.C9 r1.1.Sl r1.1.fUp r1.1.Sm r1.1.Ef r1.1.Sn r1.1.So r1.1.Ay r1.1.Acx r1.1.Sq r1.1.F6 (r1.1.Fi++([r14.1]:List Int))) (As.mk 0 0 0 0 0 0 0 0 [] 0 0 [] []))else none)else none))else(bif (r2.1==7)then((Ap K r2.2 100).bind fun r15=>((Ap K r15.2 20).bind fun r16=>((Ap K r16.2 3).bind fun r17=>(if(r1.1.F6++([(Bc.mk r15.1 r16.1 r17.1)]:List Bc)).length*24≤140737488355328∧(r1.1.F6++([(Bc.mk r15.1 r16.1 r17.1)]:List Bc)).length≤maxLen then(Ak4 K r17.2.fb r17.2.fi r17.2.fh (As.mk r1.1.Vi r1.1.C9 r1.1.Sl r1.1.fUp r1.1.Sm r1.1.Ef r1.1.Sn r1.1.So r1.1.Ay r1.1.Acx r1.1.Sq (r1.1.F6++([(Bc.mk r15.1 r16.1 r17.1)]:List Bc)) r1.1.Fi) (As.mk 0 0 0 0 0 0 0 0 [] 0 0 [] []))else none))))else(Ak4 K r2.2.fb r2.2.fi r2.2.fh r1.1 (As.mk 0 0 0 0 0 0 0 0 [] 0 0 [] []))))))))))))
def Bsm:=fd Tryz.func187 ⟨[.b 148 false,.v 25],[.n 50 false],false⟩ (gC (A3m K) (gC (A9d K) (gC (Bun K) gN))) [] [7] [(19,[.take 105 8 6688,.take 105 11 6691,.take 105 12 6692])]
def B2n:Ej:=⟨[(4,.p 104),(5,.p 105)],[(1,.box [.v 22,.v 2,.v 2]),(105,.st 50 false),(104,.st 50 false)]⟩
def Bqq:=jn (Bsm K) 7 B2n [] (Ak4 K) kN
def Buo:=ct (Bsm K) (A02 K) (kC (Bqq K) kN)
def Atb (K:Nat):Nat->Int->(List Int)->Int->Int->As->Option (As×D1)
 |0,_,_,_,_,_=>none
 |n3+1,v23,v24,v25,v26,v27=>(bif (decide (v23>0))then((Ap K (D1.mk v24 v25 v26) 256).bind fun r28=>(if(v27.Fi++([r28.1]:List Int)).length*8≤140737488355328∧(v27.Fi++([r28.1]:List Int)).length≤maxLen then(Atb K n3 (An7 .i64 v23 1) r28.2.fb r28.2.fi r28.2.fh (As.mk v27.Vi v27.C9 v27.Sl v27.fUp v27.Sm v27.Ef v27.Sn v27.So v27.Ay v27.Acx v27.Sq v27.F6 (v27.Fi++([r28.1]:List Int))))else none))else some (v27,(D1.mk v24 v25 v26)))
def Atc (K:Nat)(v18:List Int)(v19:Int)(v20:Int)(v21:As):Option (As×D1):=((Ap K (D1.mk v18 v19 v20) 3).bind fun r22=>(Atb K K r22.1 r22.2.fb r22.2.fi r22.2.fh v21))
def Atd (K:Nat)(a1:Ea):Nat->Int->(List Int)->Int->Int->As->As->Option (As×D1)
 |0,_,_,_,_,_,_=>none
 |n1+1,v7,v8,v9,v10,v11,v12=>(bif (decide (v7>0))then((Ap K (D1.mk v8 v9 v10) 5).bind fun r13=>((K1 K r13.2 ([1,2,4]:List Int)).bind fun r14=>(if r14.2.2.length=([1,2,4]:List Int).length then((At8 K a1 v11 (An6 .i64 1 r13.1) r14.1).bind fun r15=>(Atd K a1 n1 (An7 .i64 v7 1) r14.2.1.fb r14.2.1.fi r14.2.1.fh r15.1 v12))else none)))else((Aim K (D1.mk v8 v9 v10) 3).bind fun r16=>(bif r16.1 then((Aqn K a1 v11 2 (An6 .i64 a1.G8 1)).bind fun r17=>(Atc K r16.2.fb r16.2.fi r16.2.fh r17.1))else(Atc K r16.2.fb r16.2.fi r16.2.fh v11))))
def Ays (K:Nat)(a0:D1)(a1:Ea):Option (As×D1):=((Ap K a0 a1.G9).bind fun r1=>((Ak0 K (An6 .i64 1 r1.1)).bind fun r2=>((Ap K r1.2 2).bind fun r3=>((Ap K r3.2 2).bind fun r4=>((Aum K a1 (As.mk 1 r2.C9 r3.1 r2.fUp r2.Sm r2.Ef r2.Sn r2.So r2.Ay r2.Acx r2.Sq r2.F6 r2.Fi) r4.1).bind fun r5=>((Ap K r4.2 4).bind fun r6=>(Atd K a1 K r6.1 r6.2.fb r6.2.fi r6.2.fh r5.1 (As.mk 0 0 0 0 0 0 0 0 [] 0 0 [] []))))))))
def Bgf:=fd Tryz.func286 ⟨[.b 148 false,.v 25],[.n 50 false],false⟩ (gC (A3m K) (gC (A9d K) (gC (A9v K) (gC (Bb4 K) (gC (Bkj K) (gC (Bse K) (gC (Bsc K) gN))))))) [] [255] [(9,[.take 105 8 6688,.take 105 11 6691,.take 105 12 6692]),(11,[.take 105 8 6688,.take 105 11 6691,.take 105 12 6692]),(15,[.take 105 12 6692]),(16,[.take 105 8 6688,.take 105 11 6691,.take 105 12 6692])]
def B2o:Ej:=⟨[(0,.p 1),(4,.p 104),(5,.p 105),(8,.v 2)],[(1,.box [.v 22,.v 2,.v 2]),(105,.st 50 false),(104,.st 50 false)]⟩
def B2p:Ej:=⟨[(0,.p 1),(4,.p 104),(5,.p 105)],[(1,.box [.v 22,.v 2,.v 2]),(105,.st 50 false),(104,.st 50 false)]⟩
def Bec:=lp (Bgf K) 4090 B2o [] (fun n a b c d e _=>Atb K n a b c d e) (fun n=>kN)
def Bhy:=jn (Bgf K) 255 B2p [] (fun a b c d _=>Atc K a b c d) (kC (Bec K K) kN)
def Bed:=lp (Bgf K) 1018 Bzn [] (fun n a b c d e f g=>Atd K g n a b c d e f) (fun n=>(kC (up (Bhy K)) kN))
def Bup:=ct (Bgf K) (Ays K) (kC (Bed K K) kN)
def Awb (K:Nat)(v12:List Int)(v13:Int)(v14:Int)(v15:Az):Option (Az×D1):=some (v15,(D1.mk v12 v13 v14))
def Ate (K:Nat)(v6:List Int)(v7:Int)(v8:Int)(v9:Az)(v10:Az):Option (Az×D1):=((Aim K (D1.mk v6 v7 v8) 4).bind fun r11=>(bif r11.1 then(Awb K r11.2.fb r11.2.fi r11.2.fh (Az.mk v9.Bm v9.Ef ([]:List Int) ([]:List Int) 0))else(Awb K r11.2.fb r11.2.fi r11.2.fh v9)))
def Ayt (K:Nat)(a0:D1)(a1:Ea):Option (Az×D1):=((Ays K a0 a1).bind fun r1=>((Ap K r1.2 (An6 .i64 a1.E6 1)).bind fun r2=>((Asz K r1.1 r2.1).bind fun r3=>((Ap K r2.2 3).bind fun r4=>(bif (decide ((r3.Ay.length:Int)>0))then((Ap K r4.2 a1.G8).bind fun r5=>(Ate K r5.2.fb r5.2.fi r5.2.fh (Az.mk r3.Bm r4.1 r3.Fi r3.Ay r5.1) (Az.mk 0 0 [] [] 0)))else(Ate K r4.2.fb r4.2.fi r4.2.fh (Az.mk r3.Bm r4.1 r3.Fi r3.Ay r3.Wz) (Az.mk 0 0 [] [] 0)))))))
def Bla:=fd Tryz.func255 ⟨[.b 148 false,.v 25],[.n 52 true],false⟩ (gC (A3m K) (gC (A9v K) (gC (Bj8 K) (gC (Bup K) gN)))) [] [15,31] [(9,[.take 105 2 6682,.take 105 3 6683])]
def Bzo:Ej:=⟨[(4,.p 104),(5,.p 105)],[(1,.box [.v 22,.v 2,.v 2]),(105,.st 52 true),(104,.st 52 true)]⟩
def B2q:Ej:=⟨[(0,.p 1),(4,.p 104),(5,.p 105)],[(1,.box [.v 22,.v 2,.v 2]),(105,.st 52 true),(104,.st 52 true)]⟩
def Blb:=jn (Bla K) 31 Bzo [] (fun a b c d _=>Awb K a b c d) kN
def Blc:=jn (Bla K) 15 B2q [] (Ate K) (kC (Blb K) kN)
def Buq:=ct (Bla K) (Ayt K) (kC (Blc K) kN)
def App (K:Nat)(v4:List Int)(v5:Int)(v6:Int)(v7:Az)(v8:Az):Option (Az×D1):=some (v7,(D1.mk v4 v5 v6))
def Az0 (K:Nat)(a0:D1)(a1:Ea):Option (Az×D1):=((Ayt K a0 a1).bind fun r1=>((Ap K r1.2 10).bind fun r2=>(bif (r2.1==0)then((K1 K r2.2 ([(-1),0,8,9]:List Int)).bind fun r3=>(if r3.2.2.length=([(-1),0,8,9]:List Int).length then(App K r3.2.1.fb r3.2.1.fi r3.2.1.fh (Az.mk r3.1 r1.1.Ef r1.1.Fi r1.1.Ay r1.1.Wz) (Az.mk 0 0 [] [] 0))else none))else(bif (r2.1==1)then((K1 K r2.2 ([(-1),9,0]:List Int)).bind fun r9=>(if r9.2.2.length=([(-1),9,0]:List Int).length then(App K r9.2.1.fb r9.2.1.fi r9.2.1.fh (Az.mk r1.1.Bm r9.1 r1.1.Fi r1.1.Ay r1.1.Wz) (Az.mk 0 0 [] [] 0))else none))else(bif (r2.1==2)then((K1 K r2.2 ([(-1),0,8,16]:List Int)).bind fun r10=>(if r10.2.2.length=([(-1),0,8,16]:List Int).length then(App K r10.2.1.fb r10.2.1.fi r10.2.1.fh (Az.mk r1.1.Bm r1.1.Ef r1.1.Fi r1.1.Ay r10.1) (Az.mk 0 0 [] [] 0))else none))else(bif (r2.1==3)then((K1 K r2.2 ([(-1),255,256]:List Int)).bind fun r11=>(if r11.2.2.length=([(-1),255,256]:List Int).length then(if(r1.1.Fi++([r11.1]:List Int)).length*8≤140737488355328∧(r1.1.Fi++([r11.1]:List Int)).length≤maxLen then(App K r11.2.1.fb r11.2.1.fi r11.2.1.fh (Az.mk r1.1.Bm r1.1.Ef (r1.1.Fi++([r11.1]:List Int)) r1.1.Ay r1.1.Wz) (Az.mk 0 0 [] [] 0))else none)else none))else(bif (r2.1==4)then((K1 K r2.2 ([(-1),0,12]:List Int)).bind fun r12=>(if r12.2.2.length=([(-1),0,12]:List Int).length then(if(r1.1.Ay++([r12.1]:List Int)).length*8≤140737488355328∧(r1.1.Ay++([r12.1]:List Int)).length≤maxLen then(App K r12.2.1.fb r12.2.1.fi r12.2.1.fh (Az.mk r1.1.Bm r1.1.Ef r1.1.Fi (r1.1.Ay++([r12.1]:List Int)) r1.1.Wz) (Az.mk 0 0 [] [] 0))else none)else none))else(App K r2.2.fb r2.2.fi r2.2.fh r1.1 (Az.mk 0 0 [] [] 0)))))))))
def Bsn:=fd Tryz.func188 ⟨[.b 148 false,.v 25],[.n 52 true],false⟩ (gC (A3m K) (gC (A9d K) (gC (Buq K) gN))) [] [7] [(13,[.take 105 2 6682,.take 105 3 6683])]
def Bqr:=jn (Bsn K) 7 Bzo [] (App K) kN
def Bur:=ct (Bsn K) (Az0 K) (kC (Bqr K) kN)
def Aa4 (K:Nat)(v5:List Int)(v6:Int)(v7:Int)(v8:Int)(v9:Int)(v10:Int)(v11:Int)(v12:Int)(v13:Int)(v14:List Int)(v15:List Int)(v16:List Int)(v17:List As)(v18:List Az)(v19:List Int)(v20:Int)(v21:Int)(v22:Int)(v23:Int)(v24:Int)(v25:Int)(v26:List Int)(v27:List Int)(v28:List Int)(v29:List As)(v30:List Az)(v31:List Int):Option (C5×D1):=some ((C5.mk (Ea.mk v8 v9 v10 v11 v12 v13) (Dn.mk v14 v15 v16) v17 v18 v19),(D1.mk v5 v6 v7))
def Az1 (K:Nat)(a0:D1)(a1:Int):Option (C5×D1):=((A0j K a0 a1).bind fun r1=>((Ap K r1.2 (r1.1.fL.length:Int)).bind fun r2=>((Ap K r2.2 40).bind fun r3=>(bif (r3.1==0)then((A01 K r3.2).bind fun r4=>(Aa4 K r4.2.fb r4.2.fi r4.2.fh r4.1.Ay r4.1.G8 r4.1.E6 r4.1.Gu r4.1.E7 r4.1.G9 r1.1.fP.N7 r1.1.fP.Vi r1.1.fP.N8 r1.1.fL r1.1.fQ r1.1.Acy 0 0 0 0 0 0 [] [] [] [] [] []))else(bif (r3.1==1)then((Ap K r3.2 (r1.1.fP.Vi.length:Int)).bind fun r32=>((Ap K r32.2 4).bind fun r33=>(if(0:Int)≤r32.1∧r32.1<(r1.1.fP.Vi.length:Int)then(Aa4 K r33.2.fb r33.2.fi r33.2.fh r1.1.fC.Ay r1.1.fC.G8 r1.1.fC.E6 r1.1.fC.Gu r1.1.fC.E7 r1.1.fC.G9 r1.1.fP.N7 (r1.1.fP.Vi.set r32.1.toNat r33.1) r1.1.fP.N8 r1.1.fL r1.1.fQ r1.1.Acy 0 0 0 0 0 0 [] [] [] [] [] [])else none)))else(bif (r3.1==2)then((Ap K r3.2 (r1.1.fP.N7.length:Int)).bind fun r34=>(if(0:Int)≤r34.1∧r34.1<(r1.1.fP.N7.length:Int)then(Aa4 K r34.2.fb r34.2.fi r34.2.fh r1.1.fC.Ay r1.1.fC.G8 r1.1.fC.E6 r1.1.fC.Gu r1.1.fC.E7 r1.1.fC.G9 (r1.1.fP.N7.set r34.1.toNat 9) r1.1.fP.Vi r1.1.fP.N8 r1.1.fL r1.1.fQ r1.1.Acy 0 0 0 0 0 0 [] [] [] [] [] [])else none))else(bif (r3.1==3)then((A02 K r3.2 r1.1.fC).bind fun r35=>(if(0:Int)≤r2.1∧r2.1<(r1.1.fL.length:Int)then(Aa4 K r35.2.fb r35.2.fi r35.2.fh r1.1.fC.Ay r1.1.fC.G8 r1.1.fC.E6 r1.1.fC.Gu r1.1.fC.E7 r1.1.fC.G9 r1.1.fP.N7 r1.1.fP.Vi r1.1.fP.N8 (r1.1.fL.set r2.1.toNat r35.1) r1.1.fQ r1.1.Acy 0 0 0 0 0 0 [] [] [] [] [] [])else none))else(bif (r3.1==4)then((Ap K r3.2 4).bind fun r36=>(if(0:Int)≤r2.1∧r2.1<(r1.1.fL.length:Int)then(Aqk (r1.1.fL.set r2.1.toNat (As.mk r36.1 ((gt r1.1.fL r2.1).C9) ((gt r1.1.fL r2.1).Sl) ((gt r1.1.fL r2.1).fUp) ((gt r1.1.fL r2.1).Sm) ((gt r1.1.fL r2.1).Ef) ((gt r1.1.fL r2.1).Sn) ((gt r1.1.fL r2.1).So) ((gt r1.1.fL r2.1).Ay) ((gt r1.1.fL r2.1).Acx) ((gt r1.1.fL r2.1).Sq) ((gt r1.1.fL r2.1).F6) ((gt r1.1.fL r2.1).Fi))) fun v37=>(Aa4 K r36.2.fb r36.2.fi r36.2.fh r1.1.fC.Ay r1.1.fC.G8 r1.1.fC.E6 r1.1.fC.Gu r1.1.fC.E7 r1.1.fC.G9 r1.1.fP.N7 r1.1.fP.Vi r1.1.fP.N8 v37 r1.1.fQ r1.1.Acy 0 0 0 0 0 0 [] [] [] [] [] []))else none))else(bif (r3.1==5)then((Ap K r3.2 4).bind fun r38=>(if(0:Int)≤r2.1∧r2.1<(r1.1.fL.length:Int)then(Aqk (r1.1.fL.set r2.1.toNat (As.mk ((gt r1.1.fL r2.1).Vi) ((gt r1.1.fL r2.1).C9) ((gt r1.1.fL r2.1).Sl) r38.1 ((gt r1.1.fL r2.1).Sm) ((gt r1.1.fL r2.1).Ef) ((gt r1.1.fL r2.1).Sn) ((gt r1.1.fL r2.1).So) ((gt r1.1.fL r2.1).Ay) ((gt r1.1.fL r2.1).Acx) ((gt r1.1.fL r2.1).Sq) ((gt r1.1.fL r2.1).F6) ((gt r1.1.fL r2.1).Fi))) fun v39=>(Aa4 K r38.2.fb r38.2.fi r38.2.fh r1.1.fC.Ay r1.1.fC.G8 r1.1.fC.E6 r1.1.fC.Gu r1.1.fC.E7 r1.1.fC.G9 r1.1.fP.N7 r1.1.fP.Vi r1.1.fP.N8 v39 r1.1.fQ r1.1.Acy 0 0 0 0 0 0 [] [] [] [] [] []))else none))else(bif (r3.1==6)then(if(0:Int)≤r2.1∧r2.1<(r1.1.fL.length:Int)then(if(0:Int)≤r2.1∧r2.1<(r1.1.fL.length:Int)then(Aqk (r1.1.fL.set r2.1.toNat (As.mk ((gt r1.1.fL r2.1).Vi) ((gt r1.1.fL r2.1).C9) (An6 .i64 ((gt r1.1.fL r2.1).Sl) 1) ((gt r1.1.fL r2.1).fUp) ((gt r1.1.fL r2.1).Sm) ((gt r1.1.fL r2.1).Ef) ((gt r1.1.fL r2.1).Sn) ((gt r1.1.fL r2.1).So) ((gt r1.1.fL r2.1).Ay) ((gt r1.1.fL r2.1).Acx) ((gt r1.1.fL r2.1).Sq) ((gt r1.1.fL r2.1).F6) ((gt r1.1.fL r2.1).Fi))) fun v40=>(Aa4 K r3.2.fb r3.2.fi r3.2.fh r1.1.fC.Ay r1.1.fC.G8 r1.1.fC.E6 r1.1.fC.Gu r1.1.fC.E7 r1.1.fC.G9 r1.1.fP.N7 r1.1.fP.Vi r1.1.fP.N8 v40 r1.1.fQ r1.1.Acy 0 0 0 0 0 0 [] [] [] [] [] []))else none)else none)else(bif (r3.1==7)then((Az0 K r3.2 r1.1.fC).bind fun r41=>(if(r1.1.fQ++[r41.1]).length*72≤140737488355328∧(r1.1.fQ++[r41.1]).length≤maxLen then(Aa4 K r41.2.fb r41.2.fi r41.2.fh r1.1.fC.Ay r1.1.fC.G8 r1.1.fC.E6 r1.1.fC.Gu r1.1.fC.E7 r1.1.fC.G9 r1.1.fP.N7 r1.1.fP.Vi r1.1.fP.N8 r1.1.fL (r1.1.fQ++[r41.1]) r1.1.Acy 0 0 0 0 0 0 [] [] [] [] [] [])else none))else(bif (r3.1==8)then(bif (decide ((r1.1.fQ.length:Int)>0))then(if(0:Int)≤1∧1≤(r1.1.fQ.length:Int)∧(r1.1.fQ.length:Int)≤(r1.1.fQ.length:Int)then(Aa4 K r3.2.fb r3.2.fi r3.2.fh r1.1.fC.Ay r1.1.fC.G8 r1.1.fC.E6 r1.1.fC.Gu r1.1.fC.E7 r1.1.fC.G9 r1.1.fP.N7 r1.1.fP.Vi r1.1.fP.N8 r1.1.fL ((r1.1.fQ.drop (1:Int).toNat).take ((r1.1.fQ.length:Int) - 1).toNat) r1.1.Acy 0 0 0 0 0 0 [] [] [] [] [] [])else none)else(Aa4 K r3.2.fb r3.2.fi r3.2.fh r1.1.fC.Ay r1.1.fC.G8 r1.1.fC.E6 r1.1.fC.Gu r1.1.fC.E7 r1.1.fC.G9 r1.1.fP.N7 r1.1.fP.Vi r1.1.fP.N8 r1.1.fL r1.1.fQ r1.1.Acy 0 0 0 0 0 0 [] [] [] [] [] []))else(bif (r3.1==9)then((K1 K r3.2 ([0,255,256,(-1)]:List Int)).bind fun r42=>(if r42.2.2.length=([0,255,256,(-1)]:List Int).length then(if(r1.1.Acy++([r42.1]:List Int)).length*8≤140737488355328∧(r1.1.Acy++([r42.1]:List Int)).length≤maxLen then(Aa4 K r42.2.1.fb r42.2.1.fi r42.2.1.fh r1.1.fC.Ay r1.1.fC.G8 r1.1.fC.E6 r1.1.fC.Gu r1.1.fC.E7 r1.1.fC.G9 r1.1.fP.N7 r1.1.fP.Vi r1.1.fP.N8 r1.1.fL r1.1.fQ (r1.1.Acy++([r42.1]:List Int)) 0 0 0 0 0 0 [] [] [] [] [] [])else none)else none))else(bif (r3.1==10)then(if(0:Int)≤r2.1∧r2.1<(r1.1.fL.length:Int)then(if(0:Int)≤r2.1∧r2.1<(r1.1.fL.length:Int)then((Ap K r3.2 60).bind fun r43=>(if(((gt r1.1.fL r2.1).F6)++([(Bc.mk r43.1 2 0)]:List Bc)).length*24≤140737488355328∧(((gt r1.1.fL r2.1).F6)++([(Bc.mk r43.1 2 0)]:List Bc)).length≤maxLen then(if(0:Int)≤r2.1∧r2.1<(r1.1.fL.length:Int)then(Aa4 K r43.2.fb r43.2.fi r43.2.fh r1.1.fC.Ay r1.1.fC.G8 r1.1.fC.E6 r1.1.fC.Gu r1.1.fC.E7 r1.1.fC.G9 r1.1.fP.N7 r1.1.fP.Vi r1.1.fP.N8 (r1.1.fL.set r2.1.toNat (As.mk ((gt r1.1.fL r2.1).Vi) ((gt r1.1.fL r2.1).C9) ((gt r1.1.fL r2.1).Sl) ((gt r1.1.fL r2.1).fUp) ((gt r1.1.fL r2.1).Sm) ((gt r1.1.fL r2.1).Ef) ((gt r1.1.fL r2.1).Sn) ((gt r1.1.fL r2.1).So) ((gt r1.1.fL r2.1).Ay) ((gt r1.1.fL r2.1).Acx) ((gt r1.1.fL r2.1).Sq) (((gt r1.1.fL r2.1).F6)++([(Bc.mk r43.1 2 0)]:List Bc)) ((gt r1.1.fL r2.1).Fi))) r1.1.fQ r1.1.Acy 0 0 0 0 0 0 [] [] [] [] [] [])else none)else none))else none)else none)else(bif (r3.1==11)then((Ap K r3.2 4).bind fun r44=>(if(0:Int)≤r2.1∧r2.1<(r1.1.fL.length:Int)then(Aqk (r1.1.fL.set r2.1.toNat (As.mk ((gt r1.1.fL r2.1).Vi) ((gt r1.1.fL r2.1).C9) ((gt r1.1.fL r2.1).Sl) ((gt r1.1.fL r2.1).fUp) ((gt r1.1.fL r2.1).Sm) ((gt r1.1.fL r2.1).Ef) r44.1 ((gt r1.1.fL r2.1).So) ((gt r1.1.fL r2.1).Ay) ((gt r1.1.fL r2.1).Acx) ((gt r1.1.fL r2.1).Sq) ((gt r1.1.fL r2.1).F6) ((gt r1.1.fL r2.1).Fi))) fun v45=>(Aa4 K r44.2.fb r44.2.fi r44.2.fh r1.1.fC.Ay r1.1.fC.G8 r1.1.fC.E6 r1.1.fC.Gu r1.1.fC.E7 r1.1.fC.G9 r1.1.fP.N7 r1.1.fP.Vi r1.1.fP.N8 v45 r1.1.fQ r1.1.Acy 0 0 0 0 0 0 [] [] [] [] [] []))else none))else(bif (r3.1==12)then(bif (decide ((r1.1.fQ.length:Int)>0))then((Ap K r3.2 9).bind fun r46=>(if(0:Int)≤0∧0<(r1.1.fQ.length:Int)then(Aa4 K r46.2.fb r46.2.fi r46.2.fh r1.1.fC.Ay r1.1.fC.G8 r1.1.fC.E6 r1.1.fC.Gu r1.1.fC.E7 r1.1.fC.G9 r1.1.fP.N7 r1.1.fP.Vi r1.1.fP.N8 r1.1.fL (r1.1.fQ.set (0:Int).toNat (Az.mk ((gt r1.1.fQ 0).Bm) ((gt r1.1.fQ 0).Ef) ((gt r1.1.fQ 0).Fi) ((gt r1.1.fQ 0).Ay) r46.1)) r1.1.Acy 0 0 0 0 0 0 [] [] [] [] [] [])else none))else(Aa4 K r3.2.fb r3.2.fi r3.2.fh r1.1.fC.Ay r1.1.fC.G8 r1.1.fC.E6 r1.1.fC.Gu r1.1.fC.E7 r1.1.fC.G9 r1.1.fP.N7 r1.1.fP.Vi r1.1.fP.N8 r1.1.fL r1.1.fQ r1.1.Acy 0 0 0 0 0 0 [] [] [] [] [] []))else(Aa4 K r3.2.fb r3.2.fi r3.2.fh r1.1.fC.Ay r1.1.fC.G8 r1.1.fC.E6 r1.1.fC.Gu r1.1.fC.E7 r1.1.fC.G9 r1.1.fP.N7 r1.1.fP.Vi r1.1.fP.N8 r1.1.fL r1.1.fQ r1.1.Acy 0 0 0 0 0 0 [] [] [] [] [] [])))))))))))))))))
def Bso:=fd Tryz.func94 ⟨[.b 148 false,.v 3],[.v 32],false⟩ (gC (A3m K) (gC (Buk K) (gC (Bul K) (gC (A9d K) (gC (Buo K) (gC (Bur K) gN)))))) [] [15] [(29,[.opn 20387 (.tmp 6),.takeE 20387 11 64779])] [(104,[.put 3104,.shal 3104]),(114,[.frzT 114])]
def B2r:Ej:=⟨[(4,.p 104),(5,.p 105)],[(1,.box [.v 22,.v 2,.v 2]),(105,.box [.v 2,.v 2,.v 2,.v 2,.v 2,.v 2,.v 22,.v 26,.v 26,.v 29,.v 30,.v 26]),(104,.box [.v 2,.v 2,.v 2,.v 2,.v 2,.v 2,.v 22,.v 26,.v 26,.v 29,.v 30,.v 26])]⟩
def Bld:=jn (Bso K) 15 B2r [] (Aa4 K) kN
def Bus:=ct (Bso K) (Az1 K) (kC (Bld K) kN)
def Avp (K:Nat)(a0:List Int)(a1:Int):Option (D1×C5):=((A0p K a0).bind fun r1=>((Az1 K r1 a1).bind fun r2=>some (r2.2,r2.1)))
def Ble:=ct (fd Tryz.func65 ⟨[.v 22,.v 3],[.p 148 false,.v 32],false⟩ (gC (B01 K) (gC (Bus K) gN))) (Avp K)
def Avq (K:Nat)(v4:List Int)(v5:Int)(v6:Int)(v7:An)(v8:An):Option (An×D1):=some (v7,(D1.mk v4 v5 v6))
def Ayu (K:Nat)(a0:D1):Option (An×D1):=((At5 K a0).bind fun r1=>((Ap K r1.2 8).bind fun r2=>(bif (r2.1==0)then((K1 K r2.2 ([(-1),1000000000,9]:List Int)).bind fun r3=>(if r3.2.2.length=([(-1),1000000000,9]:List Int).length then(Avq K r3.2.1.fb r3.2.1.fi r3.2.1.fh (An.mk r3.1 r1.1.C9) (An.mk 0 0))else none))else(bif (r2.1==1)then((K1 K r2.2 ([0,(-1),5]:List Int)).bind fun r9=>(if r9.2.2.length=([0,(-1),5]:List Int).length then(Avq K r9.2.1.fb r9.2.1.fi r9.2.1.fh (An.mk r1.1.Bm r9.1) (An.mk 0 0))else none))else(Avq K r2.2.fb r2.2.fi r2.2.fh r1.1 (An.mk 0 0))))))
def Bsp:=fd Tryz.func207 ⟨[.b 148 false],[.v 36],false⟩ (gC (A3m K) (gC (A9d K) (gC (Bry K) gN))) [] [7]
def B2s:Ej:=⟨[(2,.p 102),(3,.p 103)],[(1,.box [.v 22,.v 2,.v 2]),(103,.st 36 true),(102,.st 36 true)]⟩
def Bqs:=jn (Bsp K) 7 B2s [] (Avq K) kN
def But:=ct (Bsp K) (Ayu K) (kC (Bqs K) kN)
def At0 (K:Nat)(v16:List Int)(v17:Int)(v18:Int)(v19:An):Option (An×D1):=some (v19,(D1.mk v16 v17 v18))
def Ap2 (K:Nat)(v10:List Int)(v11:Int)(v12:Int)(v13:An)(v14:An):Option (An×D1):=((Aim K (D1.mk v10 v11 v12) 10).bind fun r15=>(bif r15.1 then(At0 K r15.2.fb r15.2.fi r15.2.fh (An.mk v13.Bm (An6 .i64 v13.C9 1)))else(At0 K r15.2.fb r15.2.fi r15.2.fh v13)))
def Atf (K:Nat)(a0:D1)(a1:C5):Option (An×D1):=(bif ((a1.fL.length:Int)==0)then((Ayu K a0).bind fun r1=>some (r1.1,r1.2))else((Aim K a0 6).bind fun r2=>(bif r2.1 then((Ayu K r2.2).bind fun r3=>some (r3.1,r3.2))else((Ap K r2.2 (a1.fL.length:Int)).bind fun r4=>((Anl K a1.fL r4.1).bind fun r5=>((Avb K a1).bind fun r6=>(bif (decide ((r6.length:Int)>0))then((Aim K r4.2 4).bind fun r7=>(bif (!r7.1)then((Ap K r7.2 (r6.length:Int)).bind fun r8=>(if(0:Int)≤r8.1∧r8.1<(r6.length:Int)then((Anl K a1.fL (gt r6 r8.1)).bind fun r9=>(Ap2 K r8.2.fb r8.2.fi r8.2.fh r9 (An.mk 0 0)))else none))else(Ap2 K r7.2.fb r7.2.fi r7.2.fh r5 (An.mk 0 0))))else(Ap2 K r4.2.fb r4.2.fi r4.2.fh r5 (An.mk 0 0)))))))))
def Blf:=fd Tryz.func117 ⟨[.b 148 false,.v 32],[.v 36],false⟩ (gC (Bjx K) (gC (A3m K) (gC (A9v K) (gC (Bjy K) (gC (But K) gN))))) [10,11,29,30] [31,63]
def B2t:Ej:=⟨[(4,.p 104),(5,.p 105)],[(1,.box [.v 22,.v 2,.v 2]),(105,.st 36 true),(104,.st 36 true)]⟩
def B2u:Ej:=⟨[(0,.p 1),(4,.p 104),(5,.p 105)],[(1,.box [.v 22,.v 2,.v 2]),(105,.st 36 true),(104,.st 36 true)]⟩
def Blg:=jn (Blf K) 63 B2t [] (fun a b c d _=>At0 K a b c d) kN
def Blh:=jn (Blf K) 31 B2u [] (Ap2 K) (kC (Blg K) kN)
def Bli:=ct (Blf K) (Atf K) (kC (Blh K) kN)
def Ayv (K:Nat)(a0:List Int):Option (C5×An×Int):=((Avp K a0 40).bind fun r1=>((Atf K r1.1 r1.2).bind fun r2=>((K1 K r2.2 ([0,7,255,256,(-1)]:List Int)).bind fun r3=>(if r3.2.2.length=([0,7,255,256,(-1)]:List Int).length then some (r1.2,r2.1,r3.1)else none))))
def Buu:=ct (fd Tryz.func47 ⟨[.v 22],[.v 32,.v 36,.v 3],false⟩ (gC (Ble K) (gC (Bli K) (gC (A9d K) gN)))) (Ayv K)
def Wx (K:Nat)(a0:Int)(a1:Int)(a2:Int):Option (Bool):=(bif (decide (a0≥a1))then some (decide (a0≤a2))else some false)
def A2c:=ct (fd Tryz.func116 ⟨[.v 3,.v 3,.v 3],[.v 4],true⟩ gN [9,10]) (Wx K)
def Aun (K:Nat)(a0:Ea):Option (Bool):=((Wx K a0.Ay 2 12).bind fun r1=>(bif r1 then((Wx K a0.G8 8 16).bind fun r2=>(bif r2 then((Wx K a0.E6 2 8).bind fun r3=>(bif r3 then((Wx K a0.Gu 1 8).bind fun r4=>(bif r4 then((Wx K a0.E7 1 16).bind fun r5=>(bif r5 then((Wx K a0.G9 1 4).bind fun r6=>some r6)else some false))else some false))else some false))else some false))else some false))
def Bam:=ct (fd Tryz.func34 ⟨[.v 25],[.v 4],true⟩ (gC (A2c K) gN) [5,6,9,10,11,14,15,16,19,20,21,24,25,26]) (Aun K)
def Ayw (K:Nat)(a0:Ea):Option (Int):=((Aun K a0).bind fun r1=>(bif (!r1)then some 0 else some (An8 .i64 a0.Ay a0.G8)))
def Blj:=ct (fd Tryz.func165 ⟨[.v 25],[.v 3],true⟩ (gC (Bam K) gN)) (Ayw K)
def Asd (K:Nat)(a0:Dn)(a1:Ea)(a2:Int):Option ((List Int)):=(if(0:Int)≤(An8 .i64 a2 a1.G8)∧(An8 .i64 a2 a1.G8)≤(An8 .i64 (An6 .i64 a2 1) a1.G8)∧(An8 .i64 (An6 .i64 a2 1) a1.G8)≤(a0.N7.length:Int)then some ((a0.N7.drop (An8 .i64 a2 a1.G8).toNat).take ((An8 .i64 (An6 .i64 a2 1) a1.G8) - (An8 .i64 a2 a1.G8)).toNat)else none)
def Bll:=ct (fd Tryz.func167 ⟨[.v 28,.v 25,.v 3],[.v 22],false⟩ gN) (Asd K)
def A0k (K:Nat)(a0:Int):Option (Bool):=some (a0 != 0)
def Buv:=ct (fd Tryz.func236 ⟨[.v 5],[.v 4],true⟩ gN) (A0k K)
def Agw (K:Nat)(a0:List Int):Nat->Int->Int->Option (Int)
 |0,_,_=>none
 |n1+1,v1,v2=>(bif (decide (v2<v1))then(if(0:Int)≤v2∧v2<(a0.length:Int)then((A0k K (gt a0 v2)).bind fun r3=>(bif r3 then some v2 else(Agw K a0 n1 v1 (An6 .i64 v2 1))))else none)else some (-1))
def Al5 (K:Nat)(a0:List Int):Option (Int):=(Agw K a0 K (a0.length:Int) 0)
def Bsq:=fd Tryz.func268 ⟨[.v 22,.f 236 [] []],[.v 3],true⟩ (gC (Buv K) gN)
def B2v:Ej:=⟨[(0,.v 22),(1,.f 236 [] []),(7,.v 2),(8,.v 2)],[]⟩
def Blm:=lp (Bsq K) 26 B2v [] (fun n a=>Agw K a n) (fun n=>kN)
def Buw:=ct (Bsq K) (Al5 K) (kC (Blm K K) kN)
def Aks (K:Nat)(a0:List Int):Option (Bool):=((Al5 K a0).bind fun r1=>some (decide (r1≥0)))
def Bux:=ct (fd Tryz.func235 ⟨[.v 22,.f 236 [] []],[.v 4],true⟩ (gC (Buw K) gN)) (Aks K)
def Auo (K:Nat)(a0:List Int):Option (Bool):=((Aks K a0).bind fun r1=>some (!r1))
def Bee:=ct (fd Tryz.func166 ⟨[.v 22],[.v 4],true⟩ (gC (Bux K) gN)) (Auo K)
def Axj (K:Nat)(v3:List Int)(v4:Int)(v6:List Int)(v7:List Int)(v8:List Int)(v12:Int)(C1:(List Int)->Int->Int->(List Int)->(List Int)->(List Int)->Option (Bool))(v16:Bool):Option (Bool):=(bif v16 then some false else(C1 v3 v4 (An6 .i64 v12 1) v6 v7 v8))
def Aqq (K:Nat)(a0:Ea)(v3:List Int)(v4:Int)(v5:Int)(v6:List Int)(v7:List Int)(v8:List Int)(C1:(List Int)->Int->Int->(List Int)->(List Int)->(List Int)->Option (Bool))(v11:Int)(v12:Int)(v13:Bool):Option (Bool):=(bif v13 then some false else(bif (v11==0)then((Asd K (Dn.mk v6 v7 v8) a0 v5).bind fun r14=>((Auo K r14).bind fun r15=>(Axj K v3 v4 v6 v7 v8 v12 (C1) (!r15))))else(Axj K v3 v4 v6 v7 v8 v12 (C1) false)))
def Ajb (K:Nat)(a0:Ea):Nat->(List Int)->Int->Int->(List Int)->(List Int)->(List Int)->Option (Bool)
 |0,_,_,_,_,_,_=>none
 |n1+1,v3,v4,v5,v6,v7,v8=>(bif (decide (v5<v4))then(if(0:Int)≤v5∧v5<(v3.length:Int)then((Wx K (gt v3 v5) 0 2).bind fun r9=>(bif (!r9)then some false else(bif ((gt v3 v5)==1)then(if(0:Int)≤v5∧v5<(v8.length:Int)then((Wx K (gt v8 v5) 0 (An7 .i64 a0.E6 1)).bind fun r10=>(bif r10 then(bif ((gt v3 v5) != 1)then(if(0:Int)≤v5∧v5<(v8.length:Int)then(Aqq K a0 v3 v4 v5 v6 v7 v8 (Ajb K a0 n1) (gt v3 v5) v5 ((gt v8 v5) != (-1)))else none)else(Aqq K a0 v3 v4 v5 v6 v7 v8 (Ajb K a0 n1) (gt v3 v5) v5 false))else(Aqq K a0 v3 v4 v5 v6 v7 v8 (Ajb K a0 n1) (gt v3 v5) v5 true)))else none)else(bif ((gt v3 v5) != 1)then(if(0:Int)≤v5∧v5<(v8.length:Int)then(Aqq K a0 v3 v4 v5 v6 v7 v8 (Ajb K a0 n1) (gt v3 v5) v5 ((gt v8 v5) != (-1)))else none)else(Aqq K a0 v3 v4 v5 v6 v7 v8 (Ajb K a0 n1) (gt v3 v5) v5 false)))))else none)else some true)
def Az2 (K:Nat)(a0:Ea)(a1:Dn):Option (Bool):=((Aun K a0).bind fun r1=>(bif r1 then((Ayw K a0).bind fun r2=>(bif ((a1.N7.length:Int) != r2)then some false else(bif ((a1.Vi.length:Int) != a0.Ay)then some false else(bif ((a1.N8.length:Int) != a0.Ay)then some false else(Ajb K a0 K a1.Vi (a1.Vi.length:Int) 0 a1.N7 a1.Vi a1.N8)))))else some false))
def Bgg:=fd Tryz.func85 ⟨[.v 25,.v 28],[.v 4],true⟩ (gC (Bam K) (gC (A2c K) (gC (Blj K) (gC (Bee K) (gC (Bll K) gN))))) [8,9,10,16,17,18,24,25,26,48,49,58,59,60,61,63,64,75,76] [29899,119599]
def B2w:Ej:=⟨[(2,.p 102),(3,.p 103),(35,.v 26),(36,.v 2),(37,.v 2),(73,.v 4)],[(103,.box [.v 22,.v 26,.v 26]),(102,.st 25 true)]⟩
def B2x:Ej:=⟨[(2,.p 102),(3,.p 103),(5,.v 2),(6,.v 2),(35,.v 26),(36,.v 2),(37,.v 2),(46,.v 4)],[(103,.box [.v 22,.v 26,.v 26]),(102,.st 25 true)]⟩
def Bln:Ej:=⟨[(2,.p 102),(3,.p 103),(35,.v 26),(36,.v 2),(37,.v 2)],[(103,.box [.v 22,.v 26,.v 26]),(102,.st 25 true)]⟩
def Ban:=fun(C58:CT Bln _)=>jn (Bgg K) 119599 B2w [(58,ar Bln C58)] (fun a b c d e f g h=>Axj K a b e f g c (fun v3 v4 v5 v6 v7 v8=>C58 v3 v4 v5 v6 v7 v8 h) d) kN
def Bcc:=fun(C58:CT Bln _)=>jn (Bgg K) 29899 B2x [(58,ar Bln C58)] (fun a b c d e f g h i j=>Aqq K j c d a g h i (fun v3 v4 v5 v6 v7 v8=>C58 v3 v4 v5 v6 v7 v8 j) b e f) (kC (Ban K _) kN)
def Blo:=lp (Bgg K) 58 Bln [] (fun n a b c d e f g=>Ajb K g n a b c d e f) (fun n=>(kC (Bcc K _) kN))
def Buy:=ct (Bgg K) (Az2 K) (kC (Blo K K) kN)
def Wy (K:Nat)(a0:List Int):Option ((List Int)):=(bif a0.isEmpty then Aik (some []) ((if(([]:List Int)++a0).length*8≤140737488355328∧(([]:List Int)++a0).length≤maxLen then some (([]:List Int)++a0)else none))else(if(([]:List Int)++a0).length*8≤140737488355328∧(([]:List Int)++a0).length≤maxLen then some (([]:List Int)++a0)else none))
def A3n:=ct (fd Tryz.func131 ⟨[.v 26],[.n 26 true],true⟩ gN) (Wy K)
def Ak6 (K:Nat)(a0:List Int)(a1:List Int):Nat->Int->Int->Option (Bool)
 |0,_,_=>none
 |n1+1,v1,v2=>(bif (decide (v2<v1))then(if(0:Int)≤v2∧v2<(a0.length:Int)then(if(0:Int)≤v2∧v2<(a1.length:Int)then(bif ((gt a0 v2) != (gt a1 v2))then some false else(Ak6 K a0 a1 n1 v1 (An6 .i64 v2 1)))else none)else none)else some true)
def Anr (K:Nat)(a0:List Int)(a1:List Int):Option (Bool):=(bif ((a0.length:Int) != (a1.length:Int))then some false else(Ak6 K a0 a1 K (a0.length:Int) 0))
def Bsr:=fd Tryz.func112 ⟨[.v 26,.v 26],[.v 4],true⟩ gN
def B2y:Ej:=⟨[(0,.v 26),(1,.v 26),(12,.v 2),(13,.v 2)],[]⟩
def Blp:=lp Bsr 58 B2y [] (fun n a b=>Ak6 K a b n) (fun n=>kN)
def Blq:=ct Bsr (Anr K) (kC (Blp K K) kN)
def Aqx (K:Nat)(a0:List Bc)(a1:List Bc):Nat->Int->Int->Option (Bool)
 |0,_,_=>none
 |n1+1,v1,v2=>(bif (decide (v2<v1))then(if(0:Int)≤v2∧v2<(a0.length:Int)then(if(0:Int)≤v2∧v2<(a1.length:Int)then(bif (!((((gt a0 v2).fAt)==((gt a1 v2).fAt))&&((((gt a0 v2).Ajm)==((gt a1 v2).Ajm))&&((((gt a0 v2).Ajn)==((gt a1 v2).Ajn))&&true))))then some false else(Aqx K a0 a1 n1 v1 (An6 .i64 v2 1)))else none)else none)else some true)
def Aru (K:Nat)(a0:List Bc)(a1:List Bc):Option (Bool):=(bif ((a0.length:Int) != (a1.length:Int))then some false else(Aqx K a0 a1 K (a0.length:Int) 0))
def Bss:=fd Tryz.func259 ⟨[.v 48,.v 48],[.v 4],true⟩ gN
def B2z:Ej:=⟨[(0,.v 48),(1,.v 48),(12,.v 2),(13,.v 2)],[]⟩
def Blr:=lp Bss 58 B2z [] (fun n a b=>Aqx K a b n) (fun n=>kN)
def Buz:=ct Bss (Aru K) (kC (Blr K K) kN)
def A0l (K:Nat)(a0:As)(a1:As):Option (Bool):=(bif (a0.Vi==a1.Vi)then(bif (a0.C9==a1.C9)then(bif (a0.Sl==a1.Sl)then(bif (a0.fUp==a1.fUp)then(bif (a0.Sm==a1.Sm)then(bif (a0.Ef==a1.Ef)then(bif (a0.Sn==a1.Sn)then(bif (a0.So==a1.So)then((Anr K a0.Ay a1.Ay).bind fun r1=>(bif r1 then(bif (a0.Acx==a1.Acx)then(bif (a0.Sq==a1.Sq)then((Aru K a0.F6 a1.F6).bind fun r2=>(bif r2 then((Anr K a0.Fi a1.Fi).bind fun r3=>some r3)else some false))else some false)else some false)else some false))else some false)else some false)else some false)else some false)else some false)else some false)else some false)else some false)
def Bu0:=ct (fd Tryz.func205 ⟨[.v 50,.v 50],[.v 4],true⟩ (gC (Blq K) (gC (Buz K) gN)) [9,10,15,16,17,22,23,24,29,30,31,36,37,38,43,44,45,50,51,52,57,58,59,64,65,66,71,72,73,78,79,80,85,86,87]) (A0l K)
def A1v (K:Nat)(a0:As):Option (Bool):=((A0l K a0 (As.mk a0.Vi a0.C9 0 0 0 0 0 0 ([]:List Int) 0 0 ([]:List Bc) ([]:List Int))).bind fun r1=>some r1)
def Bu1:=ct (fd Tryz.func239 ⟨[.v 50],[.v 4],true⟩ (gC (Bu0 K) gN)) (A1v K)
def Aog (K:Nat)(a0:List Int)(a1:Int):Nat->Int->Int->Option (Int)
 |0,_,_=>none
 |n1+1,v1,v2=>(bif (decide (v2<v1))then(if(0:Int)≤v2∧v2<(a0.length:Int)then(bif (a1==(gt a0 v2))then some v2 else(Aog K a0 a1 n1 v1 (An6 .i64 v2 1)))else none)else some (-1))
def Axw (K:Nat)(a0:List Int)(a1:Int):Option (Int):=(Aog K a0 a1 K (a0.length:Int) 0)
def Bst:=fd Tryz.func210 ⟨[.v 26,.v 3],[.v 3],true⟩ gN
def B20:Ej:=⟨[(0,.v 26),(1,.v 2),(7,.v 2),(8,.v 2)],[]⟩
def Bls:=lp Bst 26 B20 [] (fun n a b=>Aog K a b n) (fun n=>kN)
def Bu2:=ct Bst (Axw K) (kC (Bls K K) kN)
def Anh (K:Nat)(a0:List Int)(a1:Int):Option (Bool):=((Axw K a0 a1).bind fun r1=>some (decide (r1≥0)))
def Bef:=ct (fd Tryz.func119 ⟨[.v 26,.v 3],[.v 4],true⟩ (gC (Bu2 K) gN)) (Anh K)
def Apd (K:Nat)(a0:Ea)(a1:List Int):Nat->(List Int)->Int->Int->Option (Bool)
 |0,_,_,_=>none
 |n1+1,v1,v2,v3=>(bif (decide (v3<v2))then(if(0:Int)≤v3∧v3<(v1.length:Int)then((Wx K (gt v1 v3) 0 (An7 .i64 a0.Ay 1)).bind fun r4=>(bif r4 then(if(0:Int)≤0∧0≤v3∧v3≤(a1.length:Int)then((Anh K ((a1.drop (0:Int).toNat).take (v3 - 0).toNat) (gt v1 v3)).bind fun r5=>(bif r5 then some false else(Apd K a0 a1 n1 v1 v2 (An6 .i64 v3 1))))else none)else some false))else none)else some true)
def Aug (K:Nat)(a0:Ea)(a1:List Int):Option (Bool):=(Apd K a0 a1 K a1 (a1.length:Int) 0)
def Bsu:=fd Tryz.func240 ⟨[.v 25,.v 26],[.v 4],true⟩ (gC (A2c K) (gC (Bef K) gN)) [18,19,20]
def Bzp:Ej:=⟨[(1,.v 26),(2,.p 102),(7,.v 26),(8,.v 2),(9,.v 2)],[(102,.st 25 true)]⟩
def Blt:=lp (Bsu K) 26 Bzp [] (fun n a b c d e=>Apd K e a n b c d) (fun n=>kN)
def Blu:=ct (Bsu K) (Aug K) (kC (Blt K K) kN)
def Au1 (K:Nat)(a0:Int):Option (Bool):=((Wx K a0 0 255).bind fun r1=>some (!r1))
def Bu3:=ct (fd Tryz.func180 ⟨[.v 3],[.v 4],true⟩ (gC (A2c K) gN)) (Au1 K)
def Agr (K:Nat)(a0:List Int):Nat->Int->Int->Option (Int)
 |0,_,_=>none
 |n1+1,v1,v2=>(bif (decide (v2<v1))then(if(0:Int)≤v2∧v2<(a0.length:Int)then((Au1 K (gt a0 v2)).bind fun r3=>(bif r3 then some v2 else(Agr K a0 n1 v1 (An6 .i64 v2 1))))else none)else some (-1))
def Ak7 (K:Nat)(a0:List Int):Option (Int):=(Agr K a0 K (a0.length:Int) 0)
def Bsv:=fd Tryz.func247 ⟨[.v 26,.f 180 [] []],[.v 3],true⟩ (gC (Bu3 K) gN)
def Bzq:Ej:=⟨[(0,.v 26),(1,.f 180 [] []),(7,.v 2),(8,.v 2)],[]⟩
def Blv:=lp (Bsv K) 26 Bzq [] (fun n a=>Agr K a n) (fun n=>kN)
def Bu4:=ct (Bsv K) (Ak7 K) (kC (Blv K K) kN)
def Ako (K:Nat)(a0:List Int):Option (Bool):=((Ak7 K a0).bind fun r1=>some (decide (r1≥0)))
def Bu5:=ct (fd Tryz.func179 ⟨[.v 26,.f 180 [] []],[.v 4],true⟩ (gC (Bu4 K) gN)) (Ako K)
def Ar2 (K:Nat)(a0:List Int):Option (Bool):=((Ako K a0).bind fun r1=>some (!r1))
def Beg:=ct (fd Tryz.func89 ⟨[.v 26],[.v 4],true⟩ (gC (Bu5 K) gN)) (Ar2 K)
def A3o (K:Nat)(a0:Ea)(a1:Int):Option (Bool):=some (decide (a1>a0.G8))
def Bu6:=ct (fd Tryz.func280 ⟨[.v 25,.v 3],[.v 4],true⟩ gN) (A3o K)
def A3p (K:Nat)(a0:Int)(a1:Int):Option (Int):=((Wx K a0 0 1000000000).bind fun r1=>(bif r1 then((Wx K a1 1 1000000000).bind fun r2=>(bif (!r2)then some 0 else(if a1≠(0:Int)then some (Alk .i64 (An7 .i64 (An6 .i64 a0 a1) 1) a1)else none)))else some 0))
def Bu7:=ct (fd Tryz.func305 ⟨[.v 3,.v 3],[.v 3],true⟩ (gC (A2c K) gN) [6,7,8]) (A3p K)
def A2k (K:Nat)(a0:Ea)(a1:Int):Option (Int):=((A3p K a1 a0.G8).bind fun r1=>some r1)
def Bu8:=ct (fd Tryz.func281 ⟨[.v 25,.v 3],[.v 3],true⟩ (gC (Bu7 K) gN)) (A2k K)
def Atg (K:Nat)(a0:Ea)(a1:Bc):Option (Bool):=((Ayw K a0).bind fun r1=>(bif (decide (a1.Ajm≤0))then some false else(bif (decide (a1.fAt<0))then some false else(bif (decide (a1.Ajm>r1))then some false else(bif (decide (a1.fAt>(An7 .i64 r1 a1.Ajm)))then some false else(bif (a1.Ajn==0)then(bif (decide (a1.Ajm≤a0.G8))then(if a0.G8≠(0:Int)then(if a0.G8≠(0:Int)then some ((Alk .i64 a1.fAt a0.G8)==(Alk .i64 (An7 .i64 (An6 .i64 a1.fAt a1.Ajm) 1) a0.G8))else none)else none)else some false)else((A3o K a0 a1.Ajm).bind fun r2=>(bif r2 then((A2k K a0 a1.Ajm).bind fun r3=>(bif (a1.Ajn==r3)then(if a0.G8≠(0:Int)then some ((Int.tmod a1.fAt a0.G8)==0)else none)else some false))else some false))))))))
def Blw:=ct (fd Tryz.func242 ⟨[.v 25,.v 132],[.v 4],true⟩ (gC (Blj K) (gC (Bu6 K) (gC (Bu8 K) gN))) [10,11,14,15,16,20,21,22,38,39,59,60,67,68,69]) (Atg K)
def Axk (K:Nat)(a0:Bc)(a1:Ea):Option (Bool):=((Atg K a1 a0).bind fun r1=>some (!r1))
def Bu9:=ct (fd Tryz.func241 ⟨[.v 132,.r 25],[.v 4],true⟩ (gC (Blw K) gN)) (Axk K)
def Ad9 (K:Nat)(a0:List Bc)(a1_0:Ea):Nat->Int->Int->Option (Int)
 |0,_,_=>none
 |n1+1,v1,v2=>(bif (decide (v2<v1))then(if(0:Int)≤v2∧v2<(a0.length:Int)then((Axk K (gt a0 v2) a1_0).bind fun r3=>(bif r3 then some v2 else(Ad9 K a0 a1_0 n1 v1 (An6 .i64 v2 1))))else none)else some (-1))
def Aov (K:Nat)(a0:List Bc)(a1_0:Ea):Option (Int):=(Ad9 K a0 a1_0 K (a0.length:Int) 0)
def Bsw:=fd Tryz.func245 ⟨[.v 48,.f 241 [] [25]],[.v 3],true⟩ (gC (Bu9 K) gN)
def Bzr:Ej:=⟨[(0,.v 48),(1,.f 241 [] [25]),(7,.v 2),(8,.v 2)],[]⟩
def Blx:=lp (Bsw K) 26 Bzr [] (fun n a b=>Ad9 K a b n) (fun n=>kN)
def Bva:=ct (Bsw K) (Aov K) (kC (Blx K K) kN)
def Ahh (K:Nat)(a0:List Bc)(a1_0:Ea):Option (Bool):=((Aov K a0 a1_0).bind fun r1=>some (decide (r1≥0)))
def Bvb:=ct (fd Tryz.func172 ⟨[.v 48,.f 241 [] [25]],[.v 4],true⟩ (gC (Bva K) gN)) (Ahh K)
def Aqr (K:Nat)(a0:Ea)(v19:List Bc)(v20:List Int):Option (Bool):=(bif (decide ((v19.length:Int)≤12))then(bif (decide ((v20.length:Int)≤6))then((Ar2 K v20).bind fun r25=>(bif r25 then((Ahh K v19 a0).bind fun r26=>some (!r26))else some false))else some false)else some false)
def Apq (K:Nat)(a0:Ea):Nat->(List Int)->Int->Int->Int->Int->Int->Int->Int->Int->Int->Int->(List Int)->Int->Int->(List Bc)->(List Int)->Option (Bool)
 |0,_,_,_,_,_,_,_,_,_,_,_,_,_,_,_,_=>none
 |n1+1,v5,v6,v7,v8,v9,v10,v11,v12,v13,v14,v15,v16,v17,v18,v19,v20=>(bif (decide (v7<v6))then(if(0:Int)≤v7∧v7<(v5.length:Int)then((Wx K (gt v5 v7) 0 a0.E6).bind fun r21=>(bif (!r21)then some false else(Apq K a0 n1 v5 v6 (An6 .i64 v7 1) v8 v9 v10 v11 v12 v13 v14 v15 v16 v17 v18 v19 v20)))else none)else(bif (decide (v10<0))then some false else(bif (decide (v12<0))then some false else((Aug K a0 v16).bind fun r22=>(bif r22 then(bif (v17 != 0)then((Anh K v16 (An7 .i64 v17 1)).bind fun r23=>(bif r23 then((Wx K v18 0 a0.G8).bind fun r24=>(bif r24 then(bif (v17==0)then(bif (v18 != 0)then some false else(Aqr K a0 v19 v20))else(Aqr K a0 v19 v20))else some false))else some false))else((Wx K v18 0 a0.G8).bind fun r27=>(bif r27 then(bif (v17==0)then(bif (v18 != 0)then some false else(Aqr K a0 v19 v20))else(Aqr K a0 v19 v20))else some false)))else some false)))))
def Awy (K:Nat)(a0:Ea)(a1:As):Option (Bool):=((Aun K a0).bind fun r1=>(bif r1 then((Wx K a1.Vi 0 3).bind fun r2=>(bif r2 then((Wx K a1.C9 1 a0.G9).bind fun r3=>(bif (!r3)then some false else(bif (a1.Vi != 1)then((A1v K a1).bind fun r4=>some r4)else(Apq K a0 K ([a1.fUp,a1.Ef,a1.Sn,a1.So]:List Int) (([a1.fUp,a1.Ef,a1.Sn,a1.So]:List Int).length:Int) 0 a1.Vi a1.C9 a1.Sl a1.fUp a1.Sm a1.Ef a1.Sn a1.So a1.Ay a1.Acx a1.Sq a1.F6 a1.Fi))))else some false))else some false))
def Bly:=fd Tryz.func169 ⟨[.v 25,.v 50],[.v 4],true⟩ (gC (Bam K) (gC (Beg K) (gC (A2c K) (gC (Bef K) (gC (Bvb K) (gC (Bu1 K) (gC (Blu K) gN))))))) [8,9,10,13,14,15,16,51,52,55,56,57,61,62,63,64,67,68,74,75,76,77,78,83,84,85,86,89,90,99,100,104,105,106,109,110,111] [31] [(13,[.frzB 102 25])]
def Bzs:Ej:=⟨[(2,.p 102),(3,.p 103)],[(103,.box [.v 2,.v 2,.v 2,.v 2,.v 2,.v 2,.v 2,.v 2,.v 26,.v 2,.v 2,.v 48,.v 26]),(102,.st 25 true)]⟩
def Bzt:Ej:=⟨[(2,.p 102),(3,.p 103),(37,.v 26),(38,.v 2),(39,.v 2)],[(103,.box [.v 2,.v 2,.v 2,.v 2,.v 2,.v 2,.v 2,.v 2,.v 26,.v 2,.v 2,.v 48,.v 26]),(102,.st 25 true)]⟩
def Blz:=jn (Bly K) 31 Bzs [] (fun _ _ _ _ _ _ _ _ _ _ _ l m o=>Aqr K o l m) kN
def Bhz:=lp (Bly K) 122 Bzt [] (fun n a b c d e f g h i j k l m o p q r=>Apq K r n a b c d e f g h i j k l m o p q) (fun n=>(kC (up (Blz K)) kN))
def Bl0:=ct (Bly K) (Awy K) (kC (Bhz K K) kN)
def Ath (K:Nat)(v2:Int)(v3:Int)(v4:List Int)(v5:List Int)(v6:List Int)(C1:(List Int)->Int->Int->(List Int)->(List Int)->(List Int)->Option ((List Int)))(v7:List Int):Option ((List Int)):=(C1 v7 v2 (An6 .i64 v3 1) v4 v5 v6)
def Al9 (K:Nat)(a1:Int):Nat->(List Int)->Int->Int->(List Int)->(List Int)->(List Int)->Option ((List Int))
 |0,_,_,_,_,_,_=>none
 |n1+1,v1,v2,v3,v4,v5,v6=>(bif (decide (v3<v2))then(if(0:Int)≤v3∧v3<(v5.length:Int)then(bif ((gt v5 v3)==1)then(if(0:Int)≤v3∧v3<(v6.length:Int)then(bif ((gt v6 v3)==a1)then(if(v1++([v3]:List Int)).length*8≤140737488355328∧(v1++([v3]:List Int)).length≤maxLen then(Ath K v2 v3 v4 v5 v6 (Al9 K a1 n1) (v1++([v3]:List Int)))else none)else(Ath K v2 v3 v4 v5 v6 (Al9 K a1 n1) v1))else none)else(Ath K v2 v3 v4 v5 v6 (Al9 K a1 n1) v1))else none)else some v1)
def Ayx (K:Nat)(a0:Dn)(a1:Int):Option ((List Int)):=(Al9 K a1 K ([]:List Int) (Zy (a0.Vi.length:Int) (a0.N8.length:Int)) 0 a0.N7 a0.Vi a0.N8)
def Bl1:=fd Tryz.func114 ⟨[.v 28,.v 3],[.n 26 true],true⟩ gN [23,24] [467]
def Bgh:Ej:=⟨[(1,.v 2),(2,.p 102),(5,.o 1005 3 true),(14,.v 2),(15,.v 2)],[(102,.box [.v 22,.v 26,.v 26])]⟩
def Bh0:=fun(C58:CT Bgh _)=>jn Bl1 467 Bgh [(58,ar Bgh C58)] (fun a b c d e f g=>Ath K c d e f g (C58 a) b) kN
def Bl2:=lp Bl1 58 Bgh [] (fun n a=>Al9 K a n) (fun n=>(kC (Bh0 K _) kN))
def Bvc:=ct Bl1 (Ayx K) (kC (Bl2 K K) kN)
def Am7 (K:Nat)(a0:Bc)(a1:Ea)(a2:As):Nat->Int->Option (Bool)
 |0,_=>none
 |n1+1,v2=>(if a1.G8≠(0:Int)then(bif (decide (v2≤(Alk .i64 (An7 .i64 (An6 .i64 a0.fAt a0.Ajm) 1) a1.G8)))then((Anh K a2.Ay v2).bind fun r3=>(bif (!r3)then some true else(Am7 K a0 a1 a2 n1 (An6 .i64 v2 1))))else some false)else none)
def Ase (K:Nat)(a0:Bc)(a1:Ea)(a2:As):Option (Bool):=((Atg K a1 a0).bind fun r1=>(bif (!r1)then some true else(if a1.G8≠(0:Int)then(Am7 K a0 a1 a2 K (Alk .i64 a0.fAt a1.G8))else none)))
def Bsx:=fd Tryz.func243 ⟨[.v 132,.r 25,.r 50],[.v 4],true⟩ (gC (Bef K) (gC (Blw K) gN))
def Bzu:Ej:=⟨[(1,.r 25),(2,.r 50),(3,.p 103),(5,.v 2)],[(103,.st 132 true)]⟩
def Bl3:=lp (Bsx K) 58 Bzu [] (fun n a b c d=>Am7 K d a b n c) (fun n=>kN)
def Bvd:=ct (Bsx K) (Ase K) (kC (Bl3 K K) kN)
def Ad3 (K:Nat)(a0:List Bc)(a1_0:Ea)(a1_1:As):Nat->Int->Int->Option (Int)
 |0,_,_=>none
 |n1+1,v1,v2=>(bif (decide (v2<v1))then(if(0:Int)≤v2∧v2<(a0.length:Int)then((Ase K (gt a0 v2) a1_0 a1_1).bind fun r3=>(bif r3 then some v2 else(Ad3 K a0 a1_0 a1_1 n1 v1 (An6 .i64 v2 1))))else none)else some (-1))
def Anm (K:Nat)(a0:List Bc)(a1_0:Ea)(a1_1:As):Option (Int):=(Ad3 K a0 a1_0 a1_1 K (a0.length:Int) 0)
def Bsy:=fd Tryz.func245 ⟨[.v 48,.f 243 [] [25,50]],[.v 3],true⟩ (gC (Bvd K) gN)
def Bzv:Ej:=⟨[(0,.v 48),(1,.f 243 [] [25,50]),(7,.v 2),(8,.v 2)],[]⟩
def Bl4:=lp (Bsy K) 26 Bzv [] (fun n a b c=>Ad3 K a b c n) (fun n=>kN)
def Bve:=ct (Bsy K) (Anm K) (kC (Bl4 K K) kN)
def Agy (K:Nat)(a0:List Bc)(a1_0:Ea)(a1_1:As):Option (Bool):=((Anm K a0 a1_0 a1_1).bind fun r1=>some (decide (r1≥0)))
def Bvf:=ct (fd Tryz.func172 ⟨[.v 48,.f 243 [] [25,50]],[.v 4],true⟩ (gC (Bve K) gN)) (Agy K)
def Axl (K:Nat)(a0:Ea)(a1:As):Option (Bool):=((Agy K a1.F6 a0 a1).bind fun r1=>some (!r1))
def Bvg:=ct (fd Tryz.func170 ⟨[.v 25,.v 50],[.v 4],true⟩ (gC (Bvf K) gN) [] [] [(1,[.frzB 102 25,.frzB 103 50])]) (Axl K)
def Ayy (K:Nat)(v1:Bc)(v2:Bc):Option (Bool):=some (decide ((An7 .u64 (IntKind.u64.wrap v1.fAt) (IntKind.u64.wrap v2.fAt))≥(IntKind.u64.wrap v2.Ajm)))
def Ayz (K:Nat)(a0:Bc)(a1:Bc):Option (Bool):=(bif (decide (a0.Ajm≤0))then some true else(bif (decide (a1.Ajm≤0))then some true else(bif (decide (a0.fAt>a1.fAt))then(Ayy K a0 a1)else(Ayy K a1 a0))))
def Bsz:=fd Tryz.func174 ⟨[.v 132,.v 132],[.v 4],true⟩ gN [7,8] [7]
def Bzw:Ej:=⟨[(2,.p 102),(3,.p 103)],[(103,.st 132 true),(102,.st 132 true)]⟩
def Bqt:=jn Bsz 7 Bzw [] (Ayy K) kN
def Bl5:=ct Bsz (Ayz K) (kC (Bqt K) kN)
def Au2 (K:Nat)(a0:Bc)(a1:Bc):Option (Bool):=((Ayz K a0 a1).bind fun r1=>some (!r1))
def Bvh:=ct (fd Tryz.func244 ⟨[.v 132,.r 132],[.v 4],true⟩ (gC (Bl5 K) gN)) (Au2 K)
def Ad4 (K:Nat)(a0:List Bc)(a1_0:Bc):Nat->Int->Int->Option (Int)
 |0,_,_=>none
 |n1+1,v1,v2=>(bif (decide (v2<v1))then(if(0:Int)≤v2∧v2<(a0.length:Int)then((Au2 K (gt a0 v2) a1_0).bind fun r3=>(bif r3 then some v2 else(Ad4 K a0 a1_0 n1 v1 (An6 .i64 v2 1))))else none)else some (-1))
def Ann (K:Nat)(a0:List Bc)(a1_0:Bc):Option (Int):=(Ad4 K a0 a1_0 K (a0.length:Int) 0)
def Bs0:=fd Tryz.func245 ⟨[.v 48,.f 244 [] [132]],[.v 3],true⟩ (gC (Bvh K) gN)
def Bzx:Ej:=⟨[(0,.v 48),(1,.f 244 [] [132]),(7,.v 2),(8,.v 2)],[]⟩
def Bl6:=lp (Bs0 K) 26 Bzx [] (fun n a b=>Ad4 K a b n) (fun n=>kN)
def Bvi:=ct (Bs0 K) (Ann K) (kC (Bl6 K K) kN)
def Ag0 (K:Nat)(a0:List Bc)(a1_0:Bc):Option (Bool):=((Ann K a0 a1_0).bind fun r1=>some (decide (r1≥0)))
def Bvj:=ct (fd Tryz.func172 ⟨[.v 48,.f 244 [] [132]],[.v 4],true⟩ (gC (Bvi K) gN)) (Ag0 K)
def Ape (K:Nat)(a0:List Bc):Nat->(List Bc)->Int->Int->Option (Bool)
 |0,_,_,_=>none
 |n1+1,v1,v2,v3=>(bif (decide (v3<v2))then(if(0:Int)≤v3∧v3<(v1.length:Int)then(if(0:Int)≤0∧0≤v3∧v3≤(a0.length:Int)then((Ag0 K ((a0.drop (0:Int).toNat).take (v3 - 0).toNat) (gt v1 v3)).bind fun r4=>(bif r4 then some false else(Ape K a0 n1 v1 v2 (An6 .i64 v3 1))))else none)else none)else some true)
def Axm (K:Nat)(a0:List Bc):Option (Bool):=(Ape K a0 K a0 (a0.length:Int) 0)
def Bs1:=fd Tryz.func171 ⟨[.v 48],[.v 4],true⟩ (gC (Bvj K) gN) [] [] [(4,[.frzB 104 132])]
def Bzy:Ej:=⟨[(0,.v 48),(5,.v 48),(6,.v 2),(7,.v 2)],[]⟩
def Bl7:=lp (Bs1 K) 26 Bzy [] (fun n a=>Ape K a n) (fun n=>kN)
def Bvk:=ct (Bs1 K) (Axm K) (kC (Bl7 K K) kN)
def Aqy (K:Nat)(a0:Bc)(a1:Bc):Option (Bool):=((Ayz K a0 a1).bind fun r1=>some (!r1))
def Bvl:=ct (fd Tryz.func173 ⟨[.v 132,.r 132],[.v 4],true⟩ (gC (Bl5 K) gN)) (Aqy K)
def Aau (K:Nat)(a0:List Bc)(a1_0:Bc):Nat->Int->Int->Option (Int)
 |0,_,_=>none
 |n1+1,v1,v2=>(bif (decide (v2<v1))then(if(0:Int)≤v2∧v2<(a0.length:Int)then((Aqy K (gt a0 v2) a1_0).bind fun r3=>(bif r3 then some v2 else(Aau K a0 a1_0 n1 v1 (An6 .i64 v2 1))))else none)else some (-1))
def Ak8 (K:Nat)(a0:List Bc)(a1_0:Bc):Option (Int):=(Aau K a0 a1_0 K (a0.length:Int) 0)
def Bs2:=fd Tryz.func245 ⟨[.v 48,.f 173 [] [132]],[.v 3],true⟩ (gC (Bvl K) gN)
def Bzz:Ej:=⟨[(0,.v 48),(1,.f 173 [] [132]),(7,.v 2),(8,.v 2)],[]⟩
def Bl8:=lp (Bs2 K) 26 Bzz [] (fun n a b=>Aau K a b n) (fun n=>kN)
def Bvm:=ct (Bs2 K) (Ak8 K) (kC (Bl8 K K) kN)
def Ae7 (K:Nat)(a0:List Bc)(a1_0:Bc):Option (Bool):=((Ak8 K a0 a1_0).bind fun r1=>some (decide (r1≥0)))
def Bvn:=ct (fd Tryz.func172 ⟨[.v 48,.f 173 [] [132]],[.v 4],true⟩ (gC (Bvm K) gN)) (Ae7 K)
def Aqz (K:Nat)(v1:List As)(v2:Int)(v3:Int)(v4:Int)(v5:Int)(v6:Int)(v7:Int)(v8:Int)(v9:Int)(v10:List Int)(v11:List Int)(v12:List Int)(v13:List As)(v14:List Az)(v15:List Int)(C1:(List As)->Int->Int->Int->Int->Int->Int->Int->Int->(List Int)->(List Int)->(List Int)->(List As)->(List Az)->(List Int)->Option (Bool)):Option (Bool):=(C1 v1 v2 (An6 .i64 v3 1) v4 v5 v6 v7 v8 v9 v10 v11 v12 v13 v14 v15)
def Ag1 (K:Nat):Nat->(List As)->Int->Int->Int->Int->Int->Int->Int->Int->(List Int)->(List Int)->(List Int)->(List As)->(List Az)->(List Int)->Option (Bool)
 |0,_,_,_,_,_,_,_,_,_,_,_,_,_,_,_=>none
 |n1+1,v1,v2,v3,v4,v5,v6,v7,v8,v9,v10,v11,v12,v13,v14,v15=>(bif (decide (v3<v2))then(if(0:Int)≤v3∧v3<(v1.length:Int)then((Wy K ((gt v1 v3).Ay)).bind fun r16=>((Ec K r16).bind fun r17=>(if r17.length=r16.length then((Awy K (Ea.mk v4 v5 v6 v7 v8 v9) (gt v1 v3)).bind fun r18=>(bif r18 then((Ayx K (Dn.mk v10 v11 v12) v3).bind fun r19=>((Anr K r17 r19).bind fun r20=>(bif r20 then((Axl K (Ea.mk v4 v5 v6 v7 v8 v9) (gt v1 v3)).bind fun r21=>(bif r21 then((Axm K ((gt v1 v3).F6)).bind fun r22=>(bif (!r22)then some false else(bif (((gt v1 v3).Acx)==0)then(Aqz K v1 v2 v3 v4 v5 v6 v7 v8 v9 v10 v11 v12 v13 v14 v15 (Ag1 K n1))else(if(0:Int)≤((Bc.mk (An6 .i64 (An8 .i64 (An7 .i64 ((gt v1 v3).Acx) 1) v5) ((gt v1 v3).Sq)) (An7 .i64 v5 ((gt v1 v3).Sq)) 0).fAt)∧((Bc.mk (An6 .i64 (An8 .i64 (An7 .i64 ((gt v1 v3).Acx) 1) v5) ((gt v1 v3).Sq)) (An7 .i64 v5 ((gt v1 v3).Sq)) 0).fAt)≤(An6 .i64 ((Bc.mk (An6 .i64 (An8 .i64 (An7 .i64 ((gt v1 v3).Acx) 1) v5) ((gt v1 v3).Sq)) (An7 .i64 v5 ((gt v1 v3).Sq)) 0).fAt) ((Bc.mk (An6 .i64 (An8 .i64 (An7 .i64 ((gt v1 v3).Acx) 1) v5) ((gt v1 v3).Sq)) (An7 .i64 v5 ((gt v1 v3).Sq)) 0).Ajm))∧(An6 .i64 ((Bc.mk (An6 .i64 (An8 .i64 (An7 .i64 ((gt v1 v3).Acx) 1) v5) ((gt v1 v3).Sq)) (An7 .i64 v5 ((gt v1 v3).Sq)) 0).fAt) ((Bc.mk (An6 .i64 (An8 .i64 (An7 .i64 ((gt v1 v3).Acx) 1) v5) ((gt v1 v3).Sq)) (An7 .i64 v5 ((gt v1 v3).Sq)) 0).Ajm))≤(v10.length:Int)then((Auo K ((v10.drop ((Bc.mk (An6 .i64 (An8 .i64 (An7 .i64 ((gt v1 v3).Acx) 1) v5) ((gt v1 v3).Sq)) (An7 .i64 v5 ((gt v1 v3).Sq)) 0).fAt).toNat).take ((An6 .i64 ((Bc.mk (An6 .i64 (An8 .i64 (An7 .i64 ((gt v1 v3).Acx) 1) v5) ((gt v1 v3).Sq)) (An7 .i64 v5 ((gt v1 v3).Sq)) 0).fAt) ((Bc.mk (An6 .i64 (An8 .i64 (An7 .i64 ((gt v1 v3).Acx) 1) v5) ((gt v1 v3).Sq)) (An7 .i64 v5 ((gt v1 v3).Sq)) 0).Ajm)) - ((Bc.mk (An6 .i64 (An8 .i64 (An7 .i64 ((gt v1 v3).Acx) 1) v5) ((gt v1 v3).Sq)) (An7 .i64 v5 ((gt v1 v3).Sq)) 0).fAt)).toNat)).bind fun r23=>(bif r23 then((Ae7 K ((gt v1 v3).F6) (Bc.mk (An6 .i64 (An8 .i64 (An7 .i64 ((gt v1 v3).Acx) 1) v5) ((gt v1 v3).Sq)) (An7 .i64 v5 ((gt v1 v3).Sq)) 0)).bind fun r24=>(bif r24 then some false else(Aqz K v1 v2 v3 v4 v5 v6 v7 v8 v9 v10 v11 v12 v13 v14 v15 (Ag1 K n1))))else some false))else none))))else some false))else some false)))else some false))else none)))else none)else some true)
def Asf (K:Nat)(a0:C5):Option (Bool):=(Ag1 K K a0.fL (a0.fL.length:Int) 0 a0.fC.Ay a0.fC.G8 a0.fC.E6 a0.fC.Gu a0.fC.E7 a0.fC.G9 a0.fP.N7 a0.fP.Vi a0.fP.N8 a0.fL a0.fQ a0.Acy)
def Bl9:=fd Tryz.func86 ⟨[.v 32],[.v 4],true⟩ (gC (Blq K) (gC (Bvc K) (gC (A3n K) (gC (Bee K) (gC (Vs K) (gC (Bl0 K) (gC (Bvg K) (gC (Bvk K) (gC (Bvn K) gN))))))))) [23,24,25,31,32,33,34,38,39,40,41,78,79,80] [211] [(10,[.frzB 106 132])]
def Bgi:Ej:=⟨[(1,.p 101),(8,.v 29),(9,.v 2),(10,.v 2)],[(101,.box [.v 2,.v 2,.v 2,.v 2,.v 2,.v 2,.v 22,.v 26,.v 26,.v 29,.v 30,.v 26])]⟩
def Bh1:=fun(C26:CT Bgi _)=>jn (Bl9 K) 211 Bgi [(26,ar Bgi C26)] (fun a b c d e f g h i j k l m o p=>Aqz K a b c d e f g h i j k l m o p C26) kN
def Bma:=lp (Bl9 K) 26 Bgi [] (Ag1 K) (fun n=>(kC (Bh1 K _) kN))
def Bvo:=ct (Bl9 K) (Asf K) (kC (Bma K K) kN)
def Ags (K:Nat)(a0:List As)(a1:Int):Option (Bool):=((Wx K a1 0 (An7 .i64 (a0.length:Int) 1)).bind fun r1=>some r1)
def A2z:=ct (fd Tryz.func75 ⟨[.v 29,.v 3],[.v 4],true⟩ (gC (A2c K) gN)) (Ags K)
def Aup (K:Nat)(a0:List As)(a1:Int):Option (Bool):=(bif (a1==0)then some true else((Ags K a0 (An7 .i64 a1 1)).bind fun r1=>(bif r1 then(if(0:Int)≤(An7 .i64 a1 1)∧(An7 .i64 a1 1)<(a0.length:Int)then some (((gt a0 (An7 .i64 a1 1)).Vi)==1)else none)else some false)))
def Bvp:=ct (fd Tryz.func246 ⟨[.v 29,.v 3],[.v 4],true⟩ (gC (A2z K) gN) [6,7,11,12]) (Aup K)
def Arc (K:Nat)(a0:List As)(a1:Int):Option (Bool):=(if(0:Int)≤a1∧a1<(a0.length:Int)then((Ags K a0 (An7 .i64 ((gt a0 a1).fUp) 1)).bind fun r1=>(bif r1 then(if(0:Int)≤(An7 .i64 ((gt a0 a1).fUp) 1)∧(An7 .i64 ((gt a0 a1).fUp) 1)<(a0.length:Int)then(bif (((gt a0 (An7 .i64 ((gt a0 a1).fUp) 1)).Vi)==1)then(if(0:Int)≤(An7 .i64 ((gt a0 a1).fUp) 1)∧(An7 .i64 ((gt a0 a1).fUp) 1)<(a0.length:Int)then(if(0:Int)≤a1∧a1<(a0.length:Int)then some (((gt a0 (An7 .i64 ((gt a0 a1).fUp) 1)).Sl)==((gt a0 a1).Sm))else none)else none)else some false)else none)else some false))else none)
def Beh:=ct (fd Tryz.func176 ⟨[.v 29,.v 3],[.v 4],true⟩ (gC (A2z K) gN) [14,15,21,22,23]) (Arc K)
def Ati (K:Nat)(a0:List As)(a1:Int)(v8:Int)(v12:Int):Option (Bool):=(bif (v12 != 0)then some true else((Arc K a0 a1).bind fun r18=>(bif r18 then(if(0:Int)≤(An7 .i64 v8 1)∧(An7 .i64 v8 1)<(a0.length:Int)then some (((gt a0 (An7 .i64 v8 1)).Ef)==(An6 .i64 a1 1))else none)else some true)))
def Atj (K:Nat)(a0:List As)(a1:Int)(v8:Int)(v12:Int):Option (Bool):=(bif (v12 != 0)then(if(0:Int)≤(An7 .i64 v12 1)∧(An7 .i64 v12 1)<(a0.length:Int)then(bif (((gt a0 (An7 .i64 v12 1)).Sn) != (An6 .i64 a1 1))then some false else(Ati K a0 a1 v8 v12))else none)else(Ati K a0 a1 v8 v12))
def Atk (K:Nat)(a0:List As)(a1:Int)(v8:Int)(v9:Int)(v11:Int)(v12:Int):Option (Bool):=(bif (v11 != 0)then(if(0:Int)≤(An7 .i64 v11 1)∧(An7 .i64 v11 1)<(a0.length:Int)then(bif (((gt a0 (An7 .i64 v11 1)).So) != (An6 .i64 a1 1))then some false else(bif (((gt a0 (An7 .i64 v11 1)).fUp) != v8)then some false else(bif (((gt a0 (An7 .i64 v11 1)).Sm) != v9)then some false else(Atj K a0 a1 v8 v12))))else none)else(Atj K a0 a1 v8 v12))
def Atl (K:Nat)(a0:List As)(a1:Int)(v5:Int)(v6:Int)(v7:Int)(v8:Int)(v9:Int)(v10:Int)(v11:Int)(v12:Int)(v13:List Int)(v14:Int)(v15:Int)(v16:List Bc)(v17:List Int):Option (Bool):=(bif (v10 != 0)then(if(0:Int)≤(An7 .i64 v10 1)∧(An7 .i64 v10 1)<(a0.length:Int)then(bif (((gt a0 (An7 .i64 v10 1)).So) != 0)then some false else(bif (((gt a0 (An7 .i64 v10 1)).fUp) != (An6 .i64 a1 1))then some false else(bif (((gt a0 (An7 .i64 v10 1)).Sm) != v7)then some false else(Atk K a0 a1 v8 v9 v11 v12))))else none)else(Atk K a0 a1 v8 v9 v11 v12))
def Ay0 (K:Nat)(a0:List As)(a1:Int):Option (Bool):=(if(0:Int)≤a1∧a1<(a0.length:Int)then((Aup K a0 ((gt a0 a1).Ef)).bind fun r1=>(bif r1 then((Aup K a0 ((gt a0 a1).Sn)).bind fun r2=>(bif r2 then((Aup K a0 ((gt a0 a1).So)).bind fun r3=>(bif r3 then(bif (((gt a0 a1).fUp) != 0)then((Ags K a0 (An7 .i64 ((gt a0 a1).fUp) 1)).bind fun r4=>(bif (!r4)then some false else(Atl K a0 a1 ((gt a0 a1).Vi) ((gt a0 a1).C9) ((gt a0 a1).Sl) ((gt a0 a1).fUp) ((gt a0 a1).Sm) ((gt a0 a1).Ef) ((gt a0 a1).Sn) ((gt a0 a1).So) ((gt a0 a1).Ay) ((gt a0 a1).Acx) ((gt a0 a1).Sq) ((gt a0 a1).F6) ((gt a0 a1).Fi))))else(Atl K a0 a1 ((gt a0 a1).Vi) ((gt a0 a1).C9) ((gt a0 a1).Sl) ((gt a0 a1).fUp) ((gt a0 a1).Sm) ((gt a0 a1).Ef) ((gt a0 a1).Sn) ((gt a0 a1).So) ((gt a0 a1).Ay) ((gt a0 a1).Acx) ((gt a0 a1).Sq) ((gt a0 a1).F6) ((gt a0 a1).Fi)))else some false))else some false))else some false))else none)
def Bcd:=fd Tryz.func175 ⟨[.v 29,.v 3],[.v 4],true⟩ (gC (A2z K) (gC (Beh K) (gC (Bvp K) gN))) [15,16,17,21,22,23,24,28,29,30,31,34,35,55,56,61,62,63,83,84,89,90,91,100,101,115,116,119,120,121,122] [7,15,31,63]
def Bmb:=jn (Bcd K) 63 Bb8 [] (fun a b _ _ _ f _ _ _ j _ _ _ _ _=>Ati K a b f j) kN
def Bmc:=jn (Bcd K) 31 Bb8 [] (fun a b _ _ _ f _ _ _ j _ _ _ _ _=>Atj K a b f j) (kC (Bmb K) kN)
def Bmd:=jn (Bcd K) 15 Bb8 [] (fun a b _ _ _ f g _ i j _ _ _ _ _=>Atk K a b f g i j) (kC (Bmc K) kN)
def Bqu:=jn (Bcd K) 7 Bb8 [] (Atl K) (kC (Bmd K) kN)
def Bvq:=ct (Bcd K) (Ay0 K) (kC (Bqu K) kN)
def Awz (K:Nat)(a0:List As):Nat->Int->(List Int)->Option ((List Int))
 |0,_,_=>none
 |n1+1,v1,v2=>((Ags K a0 v1).bind fun r3=>(bif r3 then(bif (decide ((v2.length:Int)<(a0.length:Int)))then(if(v2++([v1]:List Int)).length*8≤140737488355328∧(v2++([v1]:List Int)).length≤maxLen then(if(0:Int)≤v1∧v1<(a0.length:Int)then(Awz K a0 n1 (An7 .i64 ((gt a0 v1).fUp) 1) (v2++([v1]:List Int)))else none)else none)else some v2)else some v2))
def Ax4 (K:Nat)(a0:List As)(a1:Int):Option ((List Int)):=(Awz K a0 K a1 ([]:List Int))
def Bs3:=fd Tryz.func120 ⟨[.v 29,.v 3],[.n 26 true],true⟩ (gC (A2z K) gN) [9,10]
def Bme:=lp (Bs3 K) 28 h_4 [] (fun n a=>Awz K a n) (fun n=>kN)
def Bei:=ct (Bs3 K) (Ax4 K) (kC (Bme K K) kN)
def Axn (K:Nat)(v1:List As)(v2:Int)(v3:Int)(C1:(List As)->Int->Int->Option (Bool)):Option (Bool):=(C1 v1 v2 (An6 .i64 v3 1))
def Apr (K:Nat)(a0:List As):Nat->(List As)->Int->Int->Option (Bool)
 |0,_,_,_=>none
 |n1+1,v1,v2,v3=>(bif (decide (v3<v2))then(if(0:Int)≤v3∧v3<(v1.length:Int)then(bif (((gt v1 v3).Vi) != 1)then(Axn K v1 v2 v3 (Apr K a0 n1))else((Ay0 K a0 v3).bind fun r4=>(bif (!r4)then some false else((Ax4 K a0 v3).bind fun r5=>(bif (decide ((r5.length:Int)>4))then some false else(if(0:Int)≤(An7 .i64 (r5.length:Int) 1)∧(An7 .i64 (r5.length:Int) 1)<(r5.length:Int)then((Arc K a0 (gt r5 (An7 .i64 (r5.length:Int) 1))).bind fun r6=>(bif r6 then some false else(Axn K v1 v2 v3 (Apr K a0 n1))))else none))))))else none)else some true)
def Az3 (K:Nat)(a0:List As):Option (Bool):=(Apr K a0 K a0 (a0.length:Int) 0)
def Bmf:=fd Tryz.func87 ⟨[.v 29],[.v 4],true⟩ (gC (Bei K) (gC (Bvq K) (gC (Beh K) gN))) [25,26] [211]
def Bgj:Ej:=⟨[(0,.v 29),(6,.v 29),(7,.v 2),(8,.v 2)],[]⟩
def Bh2:=fun(C26:CT Bgj _)=>jn (Bmf K) 211 Bgj [(26,ar Bgj C26)] (fun a b c d=>Axn K b c d (C26 a)) kN
def Bmg:=lp (Bmf K) 26 Bgj [] (fun n a=>Apr K a n) (fun n=>(kC (Bh2 K _) kN))
def Bvr:=ct (Bmf K) (Az3 K) (kC (Bmg K K) kN)
def Ar3 (K:Nat)(a0:List As)(a1:Int):Option (Bool):=(if(0:Int)≤a1∧a1<(a0.length:Int)then(bif (((gt a0 a1).Vi)==1)then(if(0:Int)≤a1∧a1<(a0.length:Int)then(bif (((gt a0 a1).fUp) != 0)then((Arc K a0 a1).bind fun r1=>some (!r1))else some false)else none)else some false)else none)
def Bvs:=ct (fd Tryz.func178 ⟨[.v 29,.v 3],[.v 4],true⟩ (gC (Beh K) gN) [10,11,17,18,19]) (Ar3 K)
def Ay1 (K:Nat)(a0:Ea)(a1:Az):Option (Bool):=((Aun K a0).bind fun r1=>(bif r1 then((Wx K a1.Bm 0 a0.E6).bind fun r2=>(bif r2 then((Wx K a1.Ef 0 a0.E6).bind fun r3=>(bif r3 then(bif (decide ((a1.Fi.length:Int)≤6))then((Ar2 K a1.Fi).bind fun r4=>(bif r4 then((Aug K a0 a1.Ay).bind fun r5=>(bif r5 then((Wx K a1.Wz 0 (An7 .i64 a0.G8 1)).bind fun r6=>(bif r6 then(bif (decide ((a1.Ay.length:Int)>0))then some true else some (a1.Wz==0))else some false))else some false))else some false))else some false)else some false))else some false))else some false))
def Bvt:=ct (fd Tryz.func177 ⟨[.v 25,.v 52],[.v 4],true⟩ (gC (Bam K) (gC (Beg K) (gC (A2c K) (gC (Blu K) gN)))) [6,7,12,13,14,19,20,21,25,26,27,30,31,32,36,37,38,44,45,46,50,51]) (Ay1 K)
def Auh (K:Nat)(a0:List As):Nat->(List Int)->Int->Option ((List Int))
 |0,_,_=>none
 |n1+1,v1,v2=>((Ags K a0 v2).bind fun r3=>(bif r3 then(bif (decide ((v1.length:Int)<(a0.length:Int)))then(if(v1++([v2]:List Int)).length*8≤140737488355328∧(v1++([v2]:List Int)).length≤maxLen then(if(0:Int)≤v2∧v2<(a0.length:Int)then(Auh K a0 n1 (v1++([v2]:List Int)) (An7 .i64 ((gt a0 v2).Sn) 1))else none)else none)else some v1)else some v1))
def Auq (K:Nat)(a0:List As)(a1:Int):Option ((List Int)):=(Auh K a0 K ([]:List Int) (An7 .i64 a1 1))
def Bs4:=fd Tryz.func124 ⟨[.v 29,.v 3],[.n 26 true],true⟩ (gC (A2z K) gN) [12,13]
def Bz0:Ej:=⟨[(0,.v 29),(5,.o 1005 3 true),(6,.v 2)],[]⟩
def Bmh:=lp (Bs4 K) 58 Bz0 [] (fun n a=>Auh K a n) (fun n=>kN)
def Bej:=ct (Bs4 K) (Auq K) (kC (Bmh K K) kN)
def Ais (K:Nat)(v4:List Az)(v5:Int)(v6:Int)(v7:Int)(v8:Int)(v9:Int)(v10:Int)(v11:Int)(v12:Int)(v13:List Int)(v14:List Int)(v15:List Int)(v16:List As)(v17:List Az)(v18:List Int)(v27:List Int)(v31:List Int)(r32:(List Int))(C1:(List Int)->(List Int)->(List Int)->(List Az)->Int->Int->Int->Int->Int->Int->Int->Int->(List Int)->(List Int)->(List Int)->(List As)->(List Az)->(List Int)->Option (Bool)):Nat->(List Int)->Int->Int->Option (Bool)
 |0,_,_,_=>none
 |n6+1,v33,v34,v35=>(bif (decide (v35<v34))then(if(0:Int)≤v35∧v35<(r32.length:Int)then(if(0:Int)≤(gt r32 v35)∧(gt r32 v35)<(v33.length:Int)then(if(0:Int)≤(gt r32 v35)∧(gt r32 v35)<(v33.length:Int)then((Ar3 K v16 (gt r32 v35)).bind fun r36=>(bif (!r36)then some false else(Ais K v4 v5 v6 v7 v8 v9 v10 v11 v12 v13 v14 v15 v16 v17 v18 v27 v31 r32 C1 n6 (v33.set (gt r32 v35).toNat (An6 .i64 (gt v33 (gt r32 v35)) 1)) v34 (An6 .i64 v35 1))))else none)else none)else none)else(C1 v27 v31 v33 v4 v5 (An6 .i64 v6 1) v7 v8 v9 v10 v11 v12 v13 v14 v15 v16 v17 v18))
def Apf (K:Nat)(v3:List Int)(v4:List Az)(v5:Int)(v6:Int)(v7:Int)(v8:Int)(v9:Int)(v10:Int)(v11:Int)(v12:Int)(v13:List Int)(v14:List Int)(v15:List Int)(v16:List As)(v17:List Az)(v18:List Int)(v23:Int)(v27:List Int)(v31:List Int)(C1:(List Int)->(List Int)->(List Int)->(List Az)->Int->Int->Int->Int->Int->Int->Int->Int->(List Int)->(List Int)->(List Int)->(List As)->(List Az)->(List Int)->Option (Bool)):Option (Bool):=((Auq K v16 v23).bind fun r32=>(Ais K v4 v5 v6 v7 v8 v9 v10 v11 v12 v13 v14 v15 v16 v17 v18 v27 v31 r32 (C1) K v3 (r32.length:Int) 0))
def Apg (K:Nat)(v3:List Int)(v4:List Az)(v5:Int)(v6:Int)(v7:Int)(v8:Int)(v9:Int)(v10:Int)(v11:Int)(v12:Int)(v13:List Int)(v14:List Int)(v15:List Int)(v16:List As)(v17:List Az)(v18:List Int)(v23:Int)(v27:List Int)(C1:(List Int)->(List Int)->(List Int)->(List Az)->Int->Int->Int->Int->Int->Int->Int->Int->(List Int)->(List Int)->(List Int)->(List As)->(List Az)->(List Int)->Option (Bool))(v31:List Int):Option (Bool):=(bif (decide (v23>0))then(if(0:Int)≤(An7 .i64 v23 1)∧(An7 .i64 v23 1)<(v16.length:Int)then(bif (((gt v16 (An7 .i64 v23 1)).So) != 0)then some false else(Apf K v3 v4 v5 v6 v7 v8 v9 v10 v11 v12 v13 v14 v15 v16 v17 v18 v23 v27 v31 (C1)))else none)else(Apf K v3 v4 v5 v6 v7 v8 v9 v10 v11 v12 v13 v14 v15 v16 v17 v18 v23 v27 v31 (C1)))
def Aix (K:Nat)(v2:List Int)(v3:List Int)(v4:List Az)(v5:Int)(v6:Int)(v7:Int)(v8:Int)(v9:Int)(v10:Int)(v11:Int)(v12:Int)(v13:List Int)(v14:List Int)(v15:List Int)(v16:List As)(v17:List Az)(v18:List Int)(v22:Int)(v23:Int)(v25:List Int)(C1:(List Int)->(List Int)->(List Int)->(List Az)->Int->Int->Int->Int->Int->Int->Int->Int->(List Int)->(List Int)->(List Int)->(List As)->(List Az)->(List Int)->Option (Bool)):Nat->(List Int)->Int->Int->(List Int)->Option (Bool)
 |0,_,_,_,_=>none
 |n3+1,v27,v28,v29,v30=>(bif (decide (v29<v28))then(if(0:Int)≤v29∧v29<(v25.length:Int)then(if(0:Int)≤(gt v25 v29)∧(gt v25 v29)<(v27.length:Int)then(if(0:Int)≤(gt v25 v29)∧(gt v25 v29)<(v27.length:Int)then(if(0:Int)≤(gt v25 v29)∧(gt v25 v29)<(v14.length:Int)then(bif ((gt v14 (gt v25 v29)) != 2)then some false else(Aix K v2 v3 v4 v5 v6 v7 v8 v9 v10 v11 v12 v13 v14 v15 v16 v17 v18 v22 v23 v25 C1 n3 (v27.set (gt v25 v29).toNat (An6 .i64 (gt v27 (gt v25 v29)) 1)) v28 (An6 .i64 v29 1) v30))else none)else none)else none)else none)else(bif (decide (v22>0))then(if(0:Int)≤(An7 .i64 v22 1)∧(An7 .i64 v22 1)<(v2.length:Int)then(if(0:Int)≤(An7 .i64 v22 1)∧(An7 .i64 v22 1)<(v2.length:Int)then(if(0:Int)≤(An7 .i64 v22 1)∧(An7 .i64 v22 1)<(v16.length:Int)then(bif (((gt v16 (An7 .i64 v22 1)).Vi) != 2)then some false else(Apg K v3 v4 v5 v6 v7 v8 v9 v10 v11 v12 v13 v14 v15 v16 v17 v18 v23 v27 (C1) (v2.set (An7 .i64 v22 1).toNat (An6 .i64 (gt v2 (An7 .i64 v22 1)) 1))))else none)else none)else none)else(Apg K v3 v4 v5 v6 v7 v8 v9 v10 v11 v12 v13 v14 v15 v16 v17 v18 v23 v27 (C1) v2)))
def Aph (K:Nat)(v1:List Int)(v2:List Int)(v3:List Int)(v4:List Az)(v5:Int)(v6:Int)(v7:Int)(v8:Int)(v9:Int)(v10:Int)(v11:Int)(v12:Int)(v13:List Int)(v14:List Int)(v15:List Int)(v16:List As)(v17:List Az)(v18:List Int)(C1:(List Int)->(List Int)->(List Int)->(List Az)->Int->Int->Int->Int->Int->Int->Int->Int->(List Int)->(List Int)->(List Int)->(List As)->(List Az)->(List Int)->Option (Bool))(v22:Int)(v23:Int)(v24:List Int)(v25:List Int)(v26:Int):Option (Bool):=(Aix K v2 v3 v4 v5 v6 v7 v8 v9 v10 v11 v12 v13 v14 v15 v16 v17 v18 v22 v23 v25 (C1) K v1 (v25.length:Int) 0 v25)
def Aq0 (K:Nat)(v37:Int)(v38:Int)(v39:List Int)(C7:Int->Int->(List Int)->Option (Bool)):Option (Bool):=(C7 v37 (An6 .i64 v38 1) v39)
def Aky (K:Nat)(v40:Int)(v41:Int)(v42:List As)(C9:Int->Int->(List As)->Option (Bool)):Option (Bool):=(C9 v40 (An6 .i64 v41 1) v42)
def Abj (K:Nat)(v2:List Int)(v3:List Int)(v16:List As):Nat->Int->Int->(List As)->Option (Bool)
 |0,_,_,_=>none
 |n9+1,v40,v41,v42=>(bif (decide (v41<v40))then(if(0:Int)≤v41∧v41<(v16.length:Int)then(bif (((gt v16 v41).Vi)==2)then(if(0:Int)≤v41∧v41<(v2.length:Int)then(bif ((gt v2 v41) != 1)then some false else((Ar3 K v42 v41).bind fun r43=>(bif r43 then(if(0:Int)≤v41∧v41<(v3.length:Int)then(bif ((gt v3 v41) != 1)then some false else(Aky K v40 v41 v42 (Abj K v2 v3 v16 n9)))else none)else(Aky K v40 v41 v42 (Abj K v2 v3 v16 n9)))))else none)else((Ar3 K v42 v41).bind fun r44=>(bif r44 then(if(0:Int)≤v41∧v41<(v3.length:Int)then(bif ((gt v3 v41) != 1)then some false else(Aky K v40 v41 v42 (Abj K v2 v3 v16 n9)))else none)else(Aky K v40 v41 v42 (Abj K v2 v3 v16 n9)))))else none)else some true)
def Agn (K:Nat)(v1:List Int)(v2:List Int)(v3:List Int)(v14:List Int)(v16:List As):Nat->Int->Int->(List Int)->Option (Bool)
 |0,_,_,_=>none
 |n7+1,v37,v38,v39=>(bif (decide (v38<v37))then(if(0:Int)≤v38∧v38<(v14.length:Int)then(bif ((gt v14 v38)==2)then(if(0:Int)≤v38∧v38<(v1.length:Int)then(bif ((gt v1 v38) != 1)then some false else(Aq0 K v37 v38 v39 (Agn K v1 v2 v3 v14 v16 n7)))else none)else(Aq0 K v37 v38 v39 (Agn K v1 v2 v3 v14 v16 n7)))else none)else(Abj K v2 v3 v16 K (v16.length:Int) 0 v16))
def Gy (K:Nat):Nat->(List Int)->(List Int)->(List Int)->(List Az)->Int->Int->Int->Int->Int->Int->Int->Int->(List Int)->(List Int)->(List Int)->(List As)->(List Az)->(List Int)->Option (Bool)
 |0,_,_,_,_,_,_,_,_,_,_,_,_,_,_,_,_,_,_=>none
 |n1+1,v1,v2,v3,v4,v5,v6,v7,v8,v9,v10,v11,v12,v13,v14,v15,v16,v17,v18=>(bif (decide (v6<v5))then(if(0:Int)≤v6∧v6<(v4.length:Int)then((Ay1 K (Ea.mk v7 v8 v9 v10 v11 v12) (gt v4 v6)).bind fun r19=>(bif r19 then(bif (decide ((((gt v4 v6).Ay).length:Int)>0))then(if(0:Int)≤0∧0<(((gt v4 v6).Ay).length:Int)then((Asd K (Dn.mk v13 v14 v15) (Ea.mk v7 v8 v9 v10 v11 v12) (gt ((gt v4 v6).Ay) 0)).bind fun r20=>(if(0:Int)≤0∧0≤((gt v4 v6).Wz)∧((gt v4 v6).Wz)≤(r20.length:Int)then((Auo K ((r20.drop (0:Int).toNat).take (((gt v4 v6).Wz) - 0).toNat)).bind fun r21=>(bif (!r21)then some false else(Aph K v1 v2 v3 v4 v5 v6 v7 v8 v9 v10 v11 v12 v13 v14 v15 v16 v17 v18 (Gy K n1) ((gt v4 v6).Bm) ((gt v4 v6).Ef) ((gt v4 v6).Fi) ((gt v4 v6).Ay) ((gt v4 v6).Wz))))else none))else none)else(Aph K v1 v2 v3 v4 v5 v6 v7 v8 v9 v10 v11 v12 v13 v14 v15 v16 v17 v18 (Gy K n1) ((gt v4 v6).Bm) ((gt v4 v6).Ef) ((gt v4 v6).Fi) ((gt v4 v6).Ay) ((gt v4 v6).Wz)))else some false))else none)else(Agn K v1 v2 v3 v14 v16 K (v14.length:Int) 0 v14))
def Asg (K:Nat)(a0:C5):Option (Bool):=(if(0:Int)≤a0.fC.Ay∧a0.fC.Ay≤a0.fC.Ay∧(8:Int)*a0.fC.Ay≤281474976710656∧a0.fC.Ay≤9223372036854775807 then(if(0:Int)≤a0.fC.E6∧a0.fC.E6≤a0.fC.E6∧(8:Int)*a0.fC.E6≤281474976710656∧a0.fC.E6≤9223372036854775807 then(if(0:Int)≤a0.fC.E6∧a0.fC.E6≤a0.fC.E6∧(8:Int)*a0.fC.E6≤281474976710656∧a0.fC.E6≤9223372036854775807 then(Gy K K (List.replicate a0.fC.Ay.toNat 0) (List.replicate a0.fC.E6.toNat 0) (List.replicate a0.fC.E6.toNat 0) a0.fQ (a0.fQ.length:Int) 0 a0.fC.Ay a0.fC.G8 a0.fC.E6 a0.fC.Gu a0.fC.E7 a0.fC.G9 a0.fP.N7 a0.fP.Vi a0.fP.N8 a0.fL a0.fQ a0.Acy)else none)else none)else none)
def A3q:=fd Tryz.func88 ⟨[.v 32],[.v 4],true⟩ (gC (Bej K) (gC (Bee K) (gC (Bll K) (gC (Bvt K) (gC (Bvs K) gN))))) [38,39,40,44,45,105,106,150,151,169,170,175,176,177,181,182] [979,2003,3737,14951,29903]
def Bz1:Ej:=⟨[(1,.p 101),(3,.o 1003 3 true),(4,.o 1004 3 true),(5,.o 1005 3 true),(29,.v 30),(30,.v 2),(31,.v 2),(121,.v 26),(122,.v 2),(123,.v 2)],[(101,.box [.v 2,.v 2,.v 2,.v 2,.v 2,.v 2,.v 22,.v 26,.v 26,.v 29,.v 30,.v 26])]⟩
def Bmi:Ej:=⟨[(1,.p 101),(3,.o 1003 3 true),(4,.o 1004 3 true),(5,.o 1005 3 true),(7,.p 107),(29,.v 30),(30,.v 2),(31,.v 2)],[(107,.box [.v 2,.v 2,.v 26,.v 26,.v 2]),(101,.box [.v 2,.v 2,.v 2,.v 2,.v 2,.v 2,.v 22,.v 26,.v 26,.v 29,.v 30,.v 26])]⟩
def Bz2:Ej:=⟨[(1,.p 101),(3,.o 1003 3 true),(4,.o 1004 3 true),(5,.o 1005 3 true),(7,.p 107),(29,.v 30),(30,.v 2),(31,.v 2),(63,.v 26),(64,.v 2),(65,.v 2)],[(107,.box [.v 2,.v 2,.v 26,.v 26,.v 2]),(101,.box [.v 2,.v 2,.v 2,.v 2,.v 2,.v 2,.v 22,.v 26,.v 26,.v 29,.v 30,.v 26])]⟩
def Bgk:Ej:=⟨[(1,.p 101),(3,.o 1003 3 true),(4,.o 1004 3 true),(5,.o 1005 3 true),(142,.v 26),(143,.v 2),(144,.v 2)],[(101,.box [.v 2,.v 2,.v 2,.v 2,.v 2,.v 2,.v 22,.v 26,.v 26,.v 29,.v 30,.v 26])]⟩
def Bgl:Ej:=⟨[(1,.p 101),(4,.o 1004 3 true),(5,.o 1005 3 true),(160,.v 29),(161,.v 2),(162,.v 2)],[(101,.box [.v 2,.v 2,.v 2,.v 2,.v 2,.v 2,.v 22,.v 26,.v 26,.v 29,.v 30,.v 26])]⟩
def A3r:Ej:=⟨[(1,.p 101),(3,.o 1003 3 true),(4,.o 1004 3 true),(5,.o 1005 3 true),(29,.v 30),(30,.v 2),(31,.v 2)],[(101,.box [.v 2,.v 2,.v 2,.v 2,.v 2,.v 2,.v 22,.v 26,.v 26,.v 29,.v 30,.v 26])]⟩
def Bao:=fun(C58:CT A3r _)=>lp (A3q K) 239230 Bz1 [(58,ar A3r C58)] (fun n a b c d e f g h i j k l m o p q r s t u v=>Ais K d e f j k l m o p q r s t u v a b g C58 n c h i) (fun n=>kN)
def Bce:=fun(C58:CT A3r _)=>jn (A3q K) 29903 Bmi [(58,ar A3r C58)] (fun a b c d e f _ h _ _ _ l m o p q r s t u v w x=>Apf K c d e f l m o p q r s t u v w x h a b C58) (kC (Bao K _ K) kN)
def Bcf:=fun(C58:CT A3r _)=>jn (A3q K) 14951 Bmi [(58,ar A3r C58)] (fun a b c d e f _ h _ _ _ l m o p q r s t u v w x=>Apg K c d e f l m o p q r s t u v w x h a C58 b) (kC (Bce K _) kN)
def Bcg:=fun(C58:CT A3r _)=>lp (A3q K) 59802 Bz2 [(58,ar A3r C58)] (fun n a b c d e f g h i j k _ m _ p q r s t u v w x y z a1=>Aix K b c d e f p q r s t u v w x y z a1 j k g C58 n a h i m) (fun n=>(kC (up (Bcf K _)) kN))
def Bek:=fun(C58:CT A3r _)=>jn (A3q K) 3737 Bmi [(58,ar A3r C58)] (fun a b c d e f g h i j k l m o p q r s t u v w x=>Aph K a b c d e f l m o p q r s t u v w x C58 g h i j k) (kC (Bcg K _ K) kN)
def Bh3:=fun(C122:CT Bgk _)=>jn (A3q K) 979 Bgk [(122,ar Bgk C122)] (fun a b c d e f g h i j k l m o p q r s=>Aq0 K e f o (fun v37 v38 v39=>C122 a b c d v37 v38 g h i j k l m v39 p q r s)) kN
def Bel:=fun(C250:CT Bgl _)=>jn (A3q K) 2003 Bgl [(250,ar Bgl C250)] (fun a b c d e f g h i j k l m o p q r=>Aky K d e p (fun v40 v41 v42=>C250 a b c v40 v41 f g h i j k l m o v42 q r)) kN
def Bh4:=lp (A3q K) 250 Bgl [] (fun n a b c d e _ _ _ _ _ _ _ _ _ p _ _=>Abj K a b c n d e p) (fun n=>(kC (Bel K _) kN))
def Bh5:=lp (A3q K) 122 Bgk [] (fun n a b c d e f _ _ _ _ _ _ _ o _ q _ _=>Agn K a b c d q n e f o) (fun n=>(kC (Bh3 K _) (kC (up (Bh4 K K)) kN)))
def Bmj:=lp (A3q K) 58 A3r [] (Gy K) (fun n=>(kC (Bek K _) (kC (up (Bh5 K K)) kN)))
def Bvu:=ct (A3q K) (Asg K) (kC (Bmj K K) kN)
def Atm (K:Nat)(a0:C5):Option (Bool):=((Az2 K a0.fC a0.fP).bind fun r1=>(bif r1 then(bif ((a0.fL.length:Int)==a0.fC.E6)then((Asf K a0).bind fun r2=>(bif r2 then((Az3 K a0.fL).bind fun r3=>(bif r3 then((Asg K a0).bind fun r4=>(bif r4 then((Ar2 K a0.Acy).bind fun r5=>some r5)else some false))else some false))else some false))else some false)else some false))
def Bem:=ct (fd Tryz.func19 ⟨[.v 32],[.v 4],true⟩ (gC (Buy K) (gC (Bvo K) (gC (Bvr K) (gC (Bvu K) (gC (Beg K) gN))))) [7,8,15,16,17,19,20,21,24,25,26,28,29,30]) (Atm K)
def Asm (K:Nat)(a0:List Int):Option ((List Int)):=(bif a0.isEmpty then Aik (some []) ((if(([]:List Int)++a0).length*1≤140737488355328∧(([]:List Int)++a0).length≤maxLen then some (([]:List Int)++a0)else none))else(if(([]:List Int)++a0).length*1≤140737488355328∧(([]:List Int)++a0).length≤maxLen then some (([]:List Int)++a0)else none))
def Bvv:=ct (fd Tryz.func219 ⟨[.v 22],[.n 22 true],true⟩ gN) (Asm K)
def Aui (K:Nat)(a0:Dn):Option (Dn):=((Asm K a0.N7).bind fun r1=>((Wy K a0.Vi).bind fun r2=>((Wy K a0.N8).bind fun r3=>some (Dn.mk r1 r2 r3))))
def Bmk:=ct (fd Tryz.func153 ⟨[.v 28],[.n 28 true],true⟩ (gC (A3n K) (gC (Bvv K) gN))) (Aui K)
def Apv (K:Nat)(a0:List Bc):Option ((List Bc)):=(bif a0.isEmpty then Aik (some []) ((if(([]:List Bc)++a0).length*24≤140737488355328∧(([]:List Bc)++a0).length≤maxLen then some (([]:List Bc)++a0)else none))else(if(([]:List Bc)++a0).length*24≤140737488355328∧(([]:List Bc)++a0).length≤maxLen then some (([]:List Bc)++a0)else none))
def Bvw:=ct (fd Tryz.func267 ⟨[.v 48],[.n 48 true],true⟩ gN) (Apv K)
def Axo (K:Nat)(a0:As):Option (As):=((Wy K a0.Ay).bind fun r1=>((Apv K a0.F6).bind fun r2=>((Wy K a0.Fi).bind fun r3=>some (As.mk a0.Vi a0.C9 a0.Sl a0.fUp a0.Sm a0.Ef a0.Sn a0.So r1 a0.Acx a0.Sq r2 r3))))
def Bvx:=ct (fd Tryz.func232 ⟨[.v 50],[.n 50 false],true⟩ (gC (A3n K) (gC (Bvw K) gN))) (Axo K)
def Anu (K:Nat)(a0:List As):Nat->(List As)->Int->Int->Option ((List As))
 |0,_,_,_=>none
 |n1+1,v1,v2,v3=>(bif (decide (v3<v2))then(if(0:Int)≤v3∧v3<(a0.length:Int)then((Axo K (gt a0 v3)).bind fun r4=>(if(v1++[r4]).length*152≤140737488355328∧(v1++[r4]).length≤maxLen then(Anu K a0 n1 (v1++[r4]) v2 (An6 .i64 v3 1))else none))else none)else some v1)
def Atn (K:Nat)(a0:List As):Option ((List As)):=(Anu K a0 K ([]:List As) (a0.length:Int) 0)
def Bs5:=fd Tryz.func154 ⟨[.v 29],[.n 29 true],false⟩ (gC (Bvx K) gN) (post:=[(16,[.put 3016])])
def Bz3:Ej:=⟨[(3,.o 1003 50 true),(7,.v 29),(8,.v 2),(9,.v 2)],[]⟩
def Bml:=lp (Bs5 K) 58 Bz3 [] (fun n a b=>Anu K b n a) (fun n=>kN)
def Bmm:=ct (Bs5 K) (Atn K) (kC (Bml K K) kN)
def Awc (K:Nat)(a0:Az):Option (Az):=((Wy K a0.Fi).bind fun r1=>((Wy K a0.Ay).bind fun r2=>some (Az.mk a0.Bm a0.Ef r1 r2 a0.Wz)))
def Bvy:=ct (fd Tryz.func155 ⟨[.v 52],[.n 52 true],true⟩ (gC (A3n K) gN)) (Awc K)
def Anv (K:Nat):Nat->(List Az)->Int->Int->C5->C5->Option (C5)
 |0,_,_,_,_,_=>none
 |n1+1,v4,v5,v6,v7,v8=>(bif (decide (v6<v5))then(if(0:Int)≤v6∧v6<(v4.length:Int)then((Awc K (gt v4 v6)).bind fun r9=>(if(v7.fQ.length+1)*72≤140737488355328∧v7.fQ.length+1≤maxLen then(Anv K n1 v4 v5 (An6 .i64 v6 1) (C5.mk v7.fC v7.fP v7.fL ((v7.fQ++[(default:Az)]).set (v7.fQ.length:Int).toNat r9) v7.Acy) v8)else none))else none)else some v7)
def Aos (K:Nat)(a0:C5):Option (C5):=((Aui K a0.fP).bind fun r1=>((Atn K a0.fL).bind fun r2=>((Wy K a0.Acy).bind fun r3=>(Anv K K a0.fQ (a0.fQ.length:Int) 0 (C5.mk a0.fC r1 r2 [] r3) (C5.mk (Ea.mk 0 0 0 0 0 0) (Dn.mk [] [] []) [] [] [])))))
def Bs6:=fd Tryz.func74 ⟨[.v 32],[.n 32 true],false⟩ (gC (A3n K) (gC (Bmk K) (gC (Bmm K) (gC (Bvy K) gN)))) [] [] [(5,[.take 103 10 6658]),(7,[.take 103 6 6654,.take 103 7 6655,.take 103 8 6656,.take 103 9 6657,.take 103 10 6658,.take 103 11 6659])]
def Bz4:Ej:=⟨[(2,.p 102),(3,.p 103),(19,.v 30),(20,.v 2),(21,.v 2)],[(103,.st 32 true),(102,.st 32 true)]⟩
def Bmn:=lp (Bs6 K) 58 Bz4 [] (Anv K) (fun n=>kN)
def A71:=ct (Bs6 K) (Aos K) (kC (Bmn K K) kN)
def Aro (K:Nat)(a0:C5)(a1:Int):Option (C5×Et):=((Aos K a0).bind fun r1=>some (r1,(Et.mk a1 (An.mk 0 0) (Br.mk (An.mk 0 0) 0 0) [] 0 0 0)))
def Ben:=ct (fd Tryz.func126 ⟨[.v 32,.v 3],[.n 32 true,.n 73 true],false⟩ (gC (A71 K) gN)) (Aro K)
def Avr (K:Nat)(a0:List As)(a1:An):Option (Int):=((Ags K a0 a1.Bm).bind fun r1=>(bif r1 then(if(0:Int)≤a1.Bm∧a1.Bm<(a0.length:Int)then(bif (((gt a0 a1.Bm).Vi) != 1)then some (-1)else(if(0:Int)≤a1.Bm∧a1.Bm<(a0.length:Int)then(bif (((gt a0 a1.Bm).C9) != a1.C9)then some (-1)else some a1.Bm)else none))else none)else some (-1)))
def Bmo:=ct (fd Tryz.func209 ⟨[.v 29,.v 36],[.v 3],true⟩ (gC (A2z K) gN) [8,9,10,17,18,19]) (Avr K)
def A2d (K:Nat)(a0:List As)(a1:Int):Option (Int):=((Ax4 K a0 a1).bind fun r1=>some (r1.length:Int))
def Bvz:=ct (fd Tryz.func214 ⟨[.v 29,.v 3],[.v 3],true⟩ (gC (Bei K) gN)) (A2d K)
def Aur (K:Nat)(a0:C5)(a1:An):Option (Int):=((Avr K a0.fL a1).bind fun r1=>((A2d K a0.fL r1).bind fun r2=>some r2))
def Beo:=ct (fd Tryz.func127 ⟨[.v 32,.v 36],[.v 3],true⟩ (gC (Bmo K) (gC (Bvz K) gN))) (Aur K)
def Axp (K:Nat)(a0:An):Option (Bool):=(bif (decide (a0.Bm≥0))then some (decide (a0.C9≥1))else some false)
def Bv0:=ct (fd Tryz.func208 ⟨[.v 36],[.v 4],true⟩ gN [5,6]) (Axp K)
def Ay2 (K:Nat)(v2:List Int)(v3:Int)(v4:Int)(C1:(List Int)->Int->Int->Option (Bool)):Option (Bool):=(C1 v2 v3 (An6 .i64 v4 1))
def Ato (K:Nat)(a0:List As)(r1:(List Int)):Nat->(List Int)->Int->Int->Option (Bool)
 |0,_,_,_=>none
 |n1+1,v2,v3,v4=>(bif (decide (v4<v3))then(if(0:Int)≤v4∧v4<(v2.length:Int)then(if(0:Int)≤(gt v2 v4)∧(gt v2 v4)<(a0.length:Int)then(bif (((gt a0 (gt v2 v4)).Vi) != 1)then some false else(bif (decide ((An6 .i64 v4 1)<(r1.length:Int)))then(if(0:Int)≤(gt v2 v4)∧(gt v2 v4)<(a0.length:Int)then(if(0:Int)≤(An6 .i64 v4 1)∧(An6 .i64 v4 1)<(r1.length:Int)then(if(0:Int)≤(gt r1 (An6 .i64 v4 1))∧(gt r1 (An6 .i64 v4 1))<(a0.length:Int)then(bif (((gt a0 (gt v2 v4)).Sm) != ((gt a0 (gt r1 (An6 .i64 v4 1))).Sl))then some false else(Ay2 K v2 v3 v4 (Ato K a0 r1 n1)))else none)else none)else none)else(Ay2 K v2 v3 v4 (Ato K a0 r1 n1))))else none)else none)else(bif (decide ((r1.length:Int)>0))then(if(0:Int)≤(An7 .i64 (r1.length:Int) 1)∧(An7 .i64 (r1.length:Int) 1)<(r1.length:Int)then(if(0:Int)≤(gt r1 (An7 .i64 (r1.length:Int) 1))∧(gt r1 (An7 .i64 (r1.length:Int) 1))<(a0.length:Int)then some (((gt a0 (gt r1 (An7 .i64 (r1.length:Int) 1))).fUp)==0)else none)else none)else some false))
def A03 (K:Nat)(a0:List As)(a1:Int):Option (Bool):=((Ax4 K a0 a1).bind fun r1=>(Ato K a0 r1 K r1 (r1.length:Int) 0))
def Bmp:=fd Tryz.func71 ⟨[.v 29,.v 3],[.v 4],true⟩ (gC (Bei K) gN) [28,29,49,50] [467]
def Bgm:Ej:=⟨[(0,.v 29),(5,.v 26),(11,.v 26),(12,.v 2),(13,.v 2)],[]⟩
def Bh6:=fun(C58:CT Bgm _)=>jn (Bmp K) 467 Bgm [(58,ar Bgm C58)] (fun a b c d e=>Ay2 K c d e (C58 a b)) kN
def Bmq:=lp (Bmp K) 58 Bgm [] (fun n a b=>Ato K a b n) (fun n=>(kC (Bh6 K _) kN))
def Bv1:=ct (Bmp K) (A03 K) (kC (Bmq K K) kN)
def Aqs (K:Nat)(a0:C5)(a1:An):Option (Int×Int):=((Axp K a1).bind fun r1=>(bif (!r1)then some ((-1),1)else((Avr K a0.fL a1).bind fun r2=>(bif (decide (r2<0))then some ((-1),2)else((A03 K a0.fL r2).bind fun r3=>(bif (!r3)then some ((-1),2)else some (r2,0)))))))
def Bap:=ct (fd Tryz.func118 ⟨[.v 32,.v 36],[.v 3,.v 3],true⟩ (gC (Bv1 K) (gC (Bv0 K) (gC (Bmo K) gN))) [15,16]) (Aqs K)
def Ay3 (K:Nat)(v7:Et)(v8:C5)(v9:Et)(v10:C5):Option (C5×Et):=some (v8,v7)
def A20 (K:Nat)(a0:C5)(a1:An)(a2:Int):Option (C5×Et):=((Atm K a0).bind fun r1=>(bif r1 then((Wx K a2 0 255).bind fun r2=>(bif (!r2)then((Aro K a0 1).bind fun r3=>some (r3.1,r3.2))else((Aos K a0).bind fun r4=>((Aur K a0 a1).bind fun r5=>((Aqs K a0 a1).bind fun r6=>(bif (r6.2 != 0)then(Ay3 K (Et.mk r6.2 (An.mk 0 0) (Br.mk (An.mk 0 0) 0 0) [] r5 0 0) r4 (Et.mk 0 (An.mk 0 0) (Br.mk (An.mk 0 0) 0 0) [] 0 0 0) (C5.mk (Ea.mk 0 0 0 0 0 0) (Dn.mk [] [] []) [] [] []))else(if(0:Int)≤r6.1∧r6.1<(a0.fL.length:Int)then(bif (decide ((((gt a0.fL r6.1).Fi).length:Int)≥6))then(Ay3 K (Et.mk 8 (An.mk 0 0) (Br.mk (An.mk 0 0) 0 0) [] r5 0 0) r4 (Et.mk 0 (An.mk 0 0) (Br.mk (An.mk 0 0) 0 0) [] 0 0 0) (C5.mk (Ea.mk 0 0 0 0 0 0) (Dn.mk [] [] []) [] [] []))else(if(0:Int)≤r6.1∧r6.1<(r4.fL.length:Int)then(if(0:Int)≤r6.1∧r6.1<(r4.fL.length:Int)then(if(((gt r4.fL r6.1).Fi)++([a2]:List Int)).length*8≤140737488355328∧(((gt r4.fL r6.1).Fi)++([a2]:List Int)).length≤maxLen then(if(0:Int)≤r6.1∧r6.1<(r4.fL.length:Int)then(Ay3 K (Et.mk r6.2 (An.mk 0 0) (Br.mk (An.mk 0 0) 0 0) [] r5 0 0) (C5.mk r4.fC r4.fP (r4.fL.set r6.1.toNat (As.mk ((gt r4.fL r6.1).Vi) ((gt r4.fL r6.1).C9) ((gt r4.fL r6.1).Sl) ((gt r4.fL r6.1).fUp) ((gt r4.fL r6.1).Sm) ((gt r4.fL r6.1).Ef) ((gt r4.fL r6.1).Sn) ((gt r4.fL r6.1).So) ((gt r4.fL r6.1).Ay) ((gt r4.fL r6.1).Acx) ((gt r4.fL r6.1).Sq) ((gt r4.fL r6.1).F6) (((gt r4.fL r6.1).Fi)++([a2]:List Int)))) r4.fQ r4.Acy) (Et.mk 0 (An.mk 0 0) (Br.mk (An.mk 0 0) 0 0) [] 0 0 0) (C5.mk (Ea.mk 0 0 0 0 0 0) (Dn.mk [] [] []) [] [] []))else none)else none)else none)else none))else none)))))))else((Aro K a0 1).bind fun r11=>some (r11.1,r11.2))))
def Bs7:=fd Tryz.func48 ⟨[.v 32,.v 36,.v 3],[.n 32 true,.n 73 true],false⟩ (gC (Bem K) (gC (A71 K) (gC (A2c K) (gC (Bap K) (gC (Ben K) (gC (Beo K) gN)))))) [13,14,15] [63] [(6,[.opn 20803 (.tmp 10),.takeE 20803 12 91404]),(10,[.take 108 6 6734,.take 108 7 6735,.take 108 8 6736,.take 108 9 6737,.take 108 10 6738,.take 108 11 6739,.take 109 7 6751])]
def Bz5:Ej:=⟨[(6,.p 106),(7,.p 107),(8,.p 108),(9,.p 109)],[(109,.st 73 true),(108,.st 32 true),(107,.st 73 true),(106,.st 32 true)]⟩
def Bmr:=jn (Bs7 K) 63 Bz5 [] (Ay3 K) kN
def Bv2:=ct (Bs7 K) (A20 K) (kC (Bmr K) kN)
def Awo (K:Nat)(a0:List Int):Option (C5×An):=((Avp K a0 40).bind fun r1=>((Atf K r1.1 r1.2).bind fun r2=>some (r1.2,r2.1)))
def Bv3:=ct (fd Tryz.func134 ⟨[.v 22],[.v 32,.v 36],false⟩ (gC (Ble K) (gC (Bli K) gN))) (Awo K)
def Awd (K:Nat)(a0:List Int):Option (C5×An):=((Awo K a0).bind fun r1=>some (r1.1,r1.2))
def Bv4:=ct (fd Tryz.func50 ⟨[.v 22],[.v 32,.v 36],false⟩ (gC (Bv3 K) gN)) (Awd K)
def Ay4 (K:Nat)(a0:Ea)(a1:As):Option (Int):=((Awy K a0 a1).bind fun r1=>(bif r1 then(bif (a1.Acx==0)then some 0 else some (An7 .i64 a0.G8 a1.Sq))else some 0))
def Bv5:=ct (fd Tryz.func135 ⟨[.v 25,.v 50],[.v 3],true⟩ (gC (Bl0 K) gN) [7,8,9]) (Ay4 K)
def Ay5 (K:Nat)(v6:Et)(v7:Et)(v8:C5)(v9:Int)(v10:Int)(v11:Int)(v12:Int)(v13:Int)(v14:Int)(v15:List Int)(v16:List Int)(v17:List Int)(v18:List As)(v19:List Az)(v20:List Int):Option (C5×Et):=((Aos K (C5.mk (Ea.mk v9 v10 v11 v12 v13 v14) (Dn.mk v15 v16 v17) v18 v19 v20)).bind fun r21=>some (r21,v6))
def A04 (K:Nat)(a0:C5)(a1:An):Option (C5×Et):=((Atm K a0).bind fun r1=>(bif (!r1)then((Aro K a0 1).bind fun r2=>some (r2.1,r2.2))else((Aur K a0 a1).bind fun r3=>((Aqs K a0 a1).bind fun r4=>(bif (r4.2==0)then(if(0:Int)≤r4.1∧r4.1<(a0.fL.length:Int)then((Ay4 K a0.fC (gt a0.fL r4.1)).bind fun r5=>(Ay5 K (Et.mk r4.2 (An.mk 0 0) (Br.mk (An.mk 0 0) 0 0) ([(IntKind.u8.wrap (((gt a0.fL r4.1).Ay).length:Int)),(IntKind.u8.wrap (((gt a0.fL r4.1).F6).length:Int)),(IntKind.u8.wrap (((gt a0.fL r4.1).Fi).length:Int)),(IntKind.u8.wrap r5)]:List Int) r3 0 0) (Et.mk 0 (An.mk 0 0) (Br.mk (An.mk 0 0) 0 0) [] 0 0 0) (C5.mk (Ea.mk 0 0 0 0 0 0) (Dn.mk [] [] []) [] [] []) a0.fC.Ay a0.fC.G8 a0.fC.E6 a0.fC.Gu a0.fC.E7 a0.fC.G9 a0.fP.N7 a0.fP.Vi a0.fP.N8 a0.fL a0.fQ a0.Acy))else none)else(Ay5 K (Et.mk r4.2 (An.mk 0 0) (Br.mk (An.mk 0 0) 0 0) [] r3 0 0) (Et.mk 0 (An.mk 0 0) (Br.mk (An.mk 0 0) 0 0) [] 0 0 0) (C5.mk (Ea.mk 0 0 0 0 0 0) (Dn.mk [] [] []) [] [] []) a0.fC.Ay a0.fC.G8 a0.fC.E6 a0.fC.Gu a0.fC.E7 a0.fC.G9 a0.fP.N7 a0.fP.Vi a0.fP.N8 a0.fL a0.fQ a0.Acy))))))
def Bs8:=fd Tryz.func51 ⟨[.v 32,.v 36],[.n 32 true,.n 73 true],false⟩ (gC (Bem K) (gC (A71 K) (gC (Bap K) (gC (Ben K) (gC (Beo K) (gC (Bv5 K) gN)))))) [] [63] [(9,[.take 106 7 6703])]
def Bz6:Ej:=⟨[(2,.p 102),(4,.p 104),(5,.p 105),(6,.p 106)],[(106,.st 73 true),(105,.st 73 true),(104,.st 32 true),(102,.box [.v 2,.v 2,.v 2,.v 2,.v 2,.v 2,.v 22,.v 26,.v 26,.v 29,.v 30,.v 26])]⟩
def Bms:=jn (Bs8 K) 63 Bz6 [] (Ay5 K) kN
def Bv6:=ct (Bs8 K) (A04 K) (kC (Bms K) kN)
def Az4 (K:Nat)(a0:List Int)(a1:List Int):Nat->Int->Option (Bool)
 |0,_=>none
 |n1+1,v1=>(bif (decide (v1<(a0.length:Int)))then(if(0:Int)≤v1∧v1<(a0.length:Int)then(if(0:Int)≤v1∧v1<(a1.length:Int)then(bif ((gt a0 v1) != (gt a1 v1))then some false else(Az4 K a0 a1 n1 (An6 .i64 v1 1)))else none)else none)else some true)
def A0a (K:Nat)(a0:List Int)(a1:List Int):Option (Bool):=(bif ((a0.length:Int) != (a1.length:Int))then some false else(Az4 K a0 a1 K 0))
def Bs9:=fd Tryz.func61 ⟨[.v 22,.v 22],[.v 4],true⟩ gN
def Bz7:Ej:=⟨[(0,.v 22),(1,.v 22),(5,.v 2)],[]⟩
def Bmt:=lp Bs9 58 Bz7 [] (fun n a b=>Az4 K a b n) (fun n=>kN)
def Bmu:=ct Bs9 (A0a K) (kC (Bmt K K) kN)
def Au3 (K:Nat)(a0:List Int)(a1:List Int):Nat->Int->Option (Bool)
 |0,_=>none
 |n1+1,v1=>(bif (decide (v1<(a0.length:Int)))then(if(0:Int)≤v1∧v1<(a0.length:Int)then(if(0:Int)≤v1∧v1<(a1.length:Int)then(bif ((gt a0 v1) != (gt a1 v1))then some false else(Au3 K a0 a1 n1 (An6 .i64 v1 1)))else none)else none)else some true)
def Akp (K:Nat)(a0:List Int)(a1:List Int):Option (Bool):=(bif ((a0.length:Int) != (a1.length:Int))then some false else(Au3 K a0 a1 K 0))
def Bta:=fd Tryz.func30 ⟨[.v 26,.v 26],[.v 4],true⟩ gN
def Bz8:Ej:=⟨[(0,.v 26),(1,.v 26),(5,.v 2)],[]⟩
def Bmv:=lp Bta 58 Bz8 [] (fun n a b=>Au3 K a b n) (fun n=>kN)
def A72:=ct Bta (Akp K) (kC (Bmv K K) kN)
def Axq (K:Nat)(a0:Dn)(a1:Dn):Option (Bool):=((A0a K a0.N7 a1.N7).bind fun r1=>(bif r1 then((Akp K a0.Vi a1.Vi).bind fun r2=>(bif r2 then((Akp K a0.N8 a1.N8).bind fun r3=>some r3)else some false))else some false))
def Bv7:=ct (fd Tryz.func72 ⟨[.v 28,.v 28],[.v 4],true⟩ (gC (A72 K) (gC (Bmu K) gN)) [9,10,15,16,17]) (Axq K)
def Aqi (K:Nat):Nat->Int->Int->Int->Int->Int->Int->Int->Int->Int->(List Int)->Int->Int->(List Bc)->(List Int)->Int->Int->Int->Int->Int->Int->Int->Int->(List Int)->Int->Int->(List Bc)->(List Int)->Option (Bool)
 |0,_,_,_,_,_,_,_,_,_,_,_,_,_,_,_,_,_,_,_,_,_,_,_,_,_,_,_=>none
 |n1+1,v3,v4,v5,v6,v7,v8,v9,v10,v11,v12,v13,v14,v15,v16,v17,v18,v19,v20,v21,v22,v23,v24,v25,v26,v27,v28,v29=>(bif (decide (v3<(v28.length:Int)))then(if(0:Int)≤v3∧v3<(v28.length:Int)then(if(0:Int)≤v3∧v3<(v15.length:Int)then(bif (!((((gt v28 v3).fAt)==((gt v15 v3).fAt))&&((((gt v28 v3).Ajm)==((gt v15 v3).Ajm))&&((((gt v28 v3).Ajn)==((gt v15 v3).Ajn))&&true))))then some false else(Aqi K n1 (An6 .i64 v3 1) v4 v5 v6 v7 v8 v9 v10 v11 v12 v13 v14 v15 v16 v17 v18 v19 v20 v21 v22 v23 v24 v25 v26 v27 v28 v29))else none)else none)else some true)
def Axr (K:Nat)(a0:As)(a1:As):Option (Bool):=(bif (a0.Vi != a1.Vi)then some false else(bif (a0.C9 != a1.C9)then some false else(bif (a0.Sl != a1.Sl)then some false else(bif (a0.fUp != a1.fUp)then some false else(bif (a0.Sm != a1.Sm)then some false else(bif (a0.Ef != a1.Ef)then some false else(bif (a0.Sn != a1.Sn)then some false else(bif (a0.So != a1.So)then some false else((Akp K a0.Ay a1.Ay).bind fun r1=>(bif r1 then(bif (a0.Acx != a1.Acx)then some false else(bif (a0.Sq != a1.Sq)then some false else(bif ((a0.F6.length:Int) != (a1.F6.length:Int))then some false else((Akp K a0.Fi a1.Fi).bind fun r2=>(bif (!r2)then some false else(Aqi K K 0 a1.Vi a1.C9 a1.Sl a1.fUp a1.Sm a1.Ef a1.Sn a1.So a1.Ay a1.Acx a1.Sq a1.F6 a1.Fi a0.Vi a0.C9 a0.Sl a0.fUp a0.Sm a0.Ef a0.Sn a0.So a0.Ay a0.Acx a0.Sq a0.F6 a0.Fi))))))else some false))))))))))
def Btb:=fd Tryz.func147 ⟨[.v 50,.v 50],[.v 4],true⟩ (gC (A72 K) gN) [10,11,16,17,18,23,24,25,30,31,32,37,38,39,44,45,46,51,52,53,58,59,60,65,66,67,68,73,74,75,80,81,82,89,90,91]
def Bz9:Ej:=⟨[(2,.p 102),(3,.p 103),(5,.v 2)],[(103,.box [.v 2,.v 2,.v 2,.v 2,.v 2,.v 2,.v 2,.v 2,.v 26,.v 2,.v 2,.v 48,.v 26]),(102,.box [.v 2,.v 2,.v 2,.v 2,.v 2,.v 2,.v 2,.v 2,.v 26,.v 2,.v 2,.v 48,.v 26])]⟩
def Bmw:=lp (Btb K) 58 Bz9 [] (Aqi K) (fun n=>kN)
def Bv8:=ct (Btb K) (Axr K) (kC (Bmw K K) kN)
def Ap3 (K:Nat)(a0:List As)(a1:List As):Nat->Int->Option (Bool)
 |0,_=>none
 |n1+1,v1=>(bif (decide (v1<(a0.length:Int)))then(if(0:Int)≤v1∧v1<(a0.length:Int)then(if(0:Int)≤v1∧v1<(a1.length:Int)then((Axr K (gt a0 v1) (gt a1 v1)).bind fun r2=>(bif (!r2)then some false else(Ap3 K a0 a1 n1 (An6 .i64 v1 1))))else none)else none)else some true)
def Awe (K:Nat)(a0:List As)(a1:List As):Option (Bool):=(bif ((a0.length:Int) != (a1.length:Int))then some false else(Ap3 K a0 a1 K 0))
def Btc:=fd Tryz.func64 ⟨[.v 29,.v 29],[.v 4],true⟩ (gC (Bv8 K) gN)
def B0a:Ej:=⟨[(0,.v 29),(1,.v 29),(5,.v 2)],[]⟩
def Bmx:=lp (Btc K) 58 B0a [] (fun n a b=>Ap3 K a b n) (fun n=>kN)
def Bv9:=ct (Btc K) (Awe K) (kC (Bmx K K) kN)
def Awf (K:Nat)(a0:Az)(a1:Az):Option (Bool):=(bif (a0.Bm==a1.Bm)then(bif (a0.Ef==a1.Ef)then((Akp K a0.Fi a1.Fi).bind fun r1=>(bif r1 then((Akp K a0.Ay a1.Ay).bind fun r2=>(bif r2 then some (a0.Wz==a1.Wz)else some false))else some false))else some false)else some false)
def Bwa:=ct (fd Tryz.func73 ⟨[.v 52,.v 52],[.v 4],true⟩ (gC (A72 K) gN) [9,10,15,16,17,22,23,24,29,30,31]) (Awf K)
def Ap4 (K:Nat):Nat->Int->Int->Int->Int->Int->Int->Int->(List Int)->(List Int)->(List Int)->(List As)->(List Az)->(List Int)->Int->Int->Int->Int->Int->Int->(List Int)->(List Int)->(List Int)->(List As)->(List Az)->(List Int)->Option (Bool)
 |0,_,_,_,_,_,_,_,_,_,_,_,_,_,_,_,_,_,_,_,_,_,_,_,_,_=>none
 |n1+1,v4,v5,v6,v7,v8,v9,v10,v11,v12,v13,v14,v15,v16,v17,v18,v19,v20,v21,v22,v23,v24,v25,v26,v27,v28=>(bif (decide (v4<(v27.length:Int)))then(if(0:Int)≤v4∧v4<(v27.length:Int)then(if(0:Int)≤v4∧v4<(v15.length:Int)then((Awf K (gt v27 v4) (gt v15 v4)).bind fun r29=>(bif (!r29)then some false else(Ap4 K n1 (An6 .i64 v4 1) v5 v6 v7 v8 v9 v10 v11 v12 v13 v14 v15 v16 v17 v18 v19 v20 v21 v22 v23 v24 v25 v26 v27 v28)))else none)else none)else some true)
def Ard (K:Nat)(a0:C5)(a1:C5):Option (Bool):=(bif (!((a0.fC.Ay==a1.fC.Ay)&&((a0.fC.G8==a1.fC.G8)&&((a0.fC.E6==a1.fC.E6)&&((a0.fC.Gu==a1.fC.Gu)&&((a0.fC.E7==a1.fC.E7)&&((a0.fC.G9==a1.fC.G9)&&true)))))))then some false else((Axq K a0.fP a1.fP).bind fun r1=>(bif r1 then((Awe K a0.fL a1.fL).bind fun r2=>(bif r2 then(bif ((a0.fQ.length:Int) != (a1.fQ.length:Int))then some false else((Akp K a0.Acy a1.Acy).bind fun r3=>(bif (!r3)then some false else(Ap4 K K 0 a1.fC.Ay a1.fC.G8 a1.fC.E6 a1.fC.Gu a1.fC.E7 a1.fC.G9 a1.fP.N7 a1.fP.Vi a1.fP.N8 a1.fL a1.fQ a1.Acy a0.fC.Ay a0.fC.G8 a0.fC.E6 a0.fC.Gu a0.fC.E7 a0.fC.G9 a0.fP.N7 a0.fP.Vi a0.fP.N8 a0.fL a0.fQ a0.Acy))))else some false))else some false)))
def Btd:=fd Tryz.func13 ⟨[.v 32,.v 32],[.v 4],true⟩ (gC (A72 K) (gC (Bv9 K) (gC (Bv7 K) (gC (Bwa K) gN)))) [10,11,16,17,18,19,24,25,26,27,34,35,36]
def B0b:Ej:=⟨[(2,.p 102),(3,.p 103),(5,.v 2)],[(103,.box [.v 2,.v 2,.v 2,.v 2,.v 2,.v 2,.v 22,.v 26,.v 26,.v 29,.v 30,.v 26]),(102,.box [.v 2,.v 2,.v 2,.v 2,.v 2,.v 2,.v 22,.v 26,.v 26,.v 29,.v 30,.v 26])]⟩
def Bmy:=lp (Btd K) 58 B0b [] (Ap4 K) (fun n=>kN)
def Bwb:=ct (Btd K) (Ard K) (kC (Bmy K K) kN)
def Avs (K:Nat)(a0:Et)(a1:Et):Option (Bool):=(bif (a0.W4==a1.W4)then(bif ((a0.fH.Bm==a1.fH.Bm)&&((a0.fH.C9==a1.fH.C9)&&true))then(bif (((a0.fR.fH.Bm==a1.fR.fH.Bm)&&((a0.fR.fH.C9==a1.fR.fH.C9)&&true))&&((a0.fR.Sl==a1.fR.Sl)&&((a0.fR.fNo==a1.fR.fNo)&&true)))then((A0a K a0.fB a1.fB).bind fun r1=>(bif r1 then(bif (a0.W5==a1.W5)then(bif (a0.Gu==a1.Gu)then some (a0.N9==a1.N9)else some false)else some false)else some false))else some false)else some false)else some false)
def Bwc:=ct (fd Tryz.func53 ⟨[.v 73,.v 73],[.v 4],true⟩ (gC (Bmu K) gN) [9,10,15,16,17,22,23,24,29,30,31,36,37,38,43,44,45]) (Avs K)
def Aus (K:Nat)(a0:C5)(a1:An):Option ((List Int)):=((Aqs K a0 a1).bind fun r1=>(bif (r1.2 != 0)then some []else(if(0:Int)≤r1.1∧r1.1<(a0.fL.length:Int)then((Wy K ((gt a0.fL r1.1).Fi)).bind fun r2=>some r2)else none)))
def Bwd:=ct (fd Tryz.func46 ⟨[.v 32,.v 36],[.n 26 true],true⟩ (gC (Bap K) (gC (A3n K) gN))) (Aus K)
def Az5 (K:Nat)(a0:C5)(a1:An):Option ((List Int)):=((Alx K a0 a1).bind fun r1=>(bif (r1.2 != 0)then some ([]:List Int)else(if(0:Int)≤r1.1∧r1.1<(a0.fL.length:Int)then(if(([]:List Int)++((gt a0.fL r1.1).Fi)).length*8≤140737488355328∧(([]:List Int)++((gt a0.fL r1.1).Fi)).length≤maxLen then some (([]:List Int)++((gt a0.fL r1.1).Fi))else none)else none)))
def Bwe:=ct (fd Tryz.func54 ⟨[.v 32,.v 36],[.n 26 true],true⟩ (gC (A7z K) gN)) (Az5 K)
def Ay6 (K:Nat)(a0:As)(a1:Int):Option (Az):=((Wy K a0.Fi).bind fun r1=>((Wy K a0.Ay).bind fun r2=>some (Az.mk a1 a0.Ef r1 r2 0)))
def Bwf:=ct (fd Tryz.func76 ⟨[.v 50,.v 3],[.n 52 true],true⟩ (gC (A3n K) gN)) (Ay6 K)
def Avt (K:Nat)(v3:Dn)(v4:Dn):Option (Dn):=some v3
def A05 (K:Nat)(a0:Dn)(a1:Int):Option (Dn):=((Aui K a0).bind fun r1=>((Wx K a1 0 (An7 .i64 (Zy (a0.Vi.length:Int) (a0.N8.length:Int)) 1)).bind fun r2=>(bif r2 then(if(0:Int)≤a1∧a1<(a0.Vi.length:Int)then(bif ((gt a0.Vi a1)==1)then(if(0:Int)≤a1∧a1<(r1.Vi.length:Int)then(if(0:Int)≤a1∧a1<(r1.N8.length:Int)then(Avt K (Dn.mk r1.N7 (r1.Vi.set a1.toNat 2) (r1.N8.set a1.toNat (-1))) (Dn.mk [] [] []))else none)else none)else(Avt K r1 (Dn.mk [] [] [])))else none)else(Avt K r1 (Dn.mk [] [] [])))))
def Bte:=fd Tryz.func156 ⟨[.v 28,.v 3],[.n 28 true],true⟩ (gC (A2c K) (gC (Bmk K) gN)) [17,18] [7] [(4,[.take 105 0 6680,.take 105 1 6681,.take 105 2 6682])]
def Bqv:=jn (Bte K) 7 Bx8 [] (Avt K) kN
def Bwg:=ct (Bte K) (A05 K) (kC (Bqv K) kN)
def Ak9 (K:Nat):Nat->(List Int)->Int->Int->Int->Int->Int->Int->Int->Int->(List Int)->(List Int)->(List Int)->(List As)->(List Az)->(List Int)->Option (C5)
 |0,_,_,_,_,_,_,_,_,_,_,_,_,_,_,_=>none
 |n1+1,v1,v2,v3,v4,v5,v6,v7,v8,v9,v10,v11,v12,v13,v14,v15=>(bif (decide (v3<v2))then(if(0:Int)≤v3∧v3<(v1.length:Int)then((A05 K (Dn.mk v10 v11 v12) (gt v1 v3)).bind fun r16=>(Ak9 K n1 v1 v2 (An6 .i64 v3 1) v4 v5 v6 v7 v8 v9 r16.N7 r16.Vi r16.N8 v13 v14 v15))else none)else some (C5.mk (Ea.mk v4 v5 v6 v7 v8 v9) (Dn.mk v10 v11 v12) v13 v14 v15))
def At1 (K:Nat)(a0:C5)(a1:Int):Option (C5):=(if(0:Int)≤a1∧a1<(a0.fL.length:Int)then(Ak9 K K ((gt a0.fL a1).Ay) (((gt a0.fL a1).Ay).length:Int) 0 a0.fC.Ay a0.fC.G8 a0.fC.E6 a0.fC.Gu a0.fC.E7 a0.fC.G9 a0.fP.N7 a0.fP.Vi a0.fP.N8 a0.fL a0.fQ a0.Acy)else none)
def Btf:=fd Tryz.func77 ⟨[.b 32 true,.v 3],[],false⟩ (gC (Bwg K) gN) [] [] [(0,[.take 1 9 5025]),(3,[.take 1 6 5022,.take 1 7 5023,.take 1 8 5024])]
def B0c:Ej:=⟨[(0,.p 1),(13,.v 26),(14,.v 2),(15,.v 2)],[(1,.box [.v 2,.v 2,.v 2,.v 2,.v 2,.v 2,.T 5 true,.T 3 true,.T 3 true,.T 50 true,.T 52 true,.T 3 true])]⟩
def Bqw:=lp (Btf K) 6 B0c [] (Ak9 K) (fun n=>kN)
def Bwh:=ct (Btf K) (At1 K) (kC (Bqw K K) kN)
def Axs (K:Nat)(a1:Int)(v9:List As):Option ((List As)):=(if(0:Int)≤a1∧a1<(v9.length:Int)then(Aqk (v9.set a1.toNat (As.mk ((gt v9 a1).Vi) ((gt v9 a1).C9) ((gt v9 a1).Sl) 0 ((gt v9 a1).Sm) ((gt v9 a1).Ef) ((gt v9 a1).Sn) ((gt v9 a1).So) ((gt v9 a1).Ay) ((gt v9 a1).Acx) ((gt v9 a1).Sq) ((gt v9 a1).F6) ((gt v9 a1).Fi))) fun v10=>(if(0:Int)≤a1∧a1<(v10.length:Int)then(Aqk (v10.set a1.toNat (As.mk ((gt v10 a1).Vi) ((gt v10 a1).C9) ((gt v10 a1).Sl) ((gt v10 a1).fUp) 0 ((gt v10 a1).Ef) ((gt v10 a1).Sn) ((gt v10 a1).So) ((gt v10 a1).Ay) ((gt v10 a1).Acx) ((gt v10 a1).Sq) ((gt v10 a1).F6) ((gt v10 a1).Fi))) fun v11=>(if(0:Int)≤a1∧a1<(v11.length:Int)then(Aqk (v11.set a1.toNat (As.mk ((gt v11 a1).Vi) ((gt v11 a1).C9) ((gt v11 a1).Sl) ((gt v11 a1).fUp) ((gt v11 a1).Sm) ((gt v11 a1).Ef) 0 ((gt v11 a1).So) ((gt v11 a1).Ay) ((gt v11 a1).Acx) ((gt v11 a1).Sq) ((gt v11 a1).F6) ((gt v11 a1).Fi))) fun v12=>(if(0:Int)≤a1∧a1<(v12.length:Int)then(Aqk (v12.set a1.toNat (As.mk ((gt v12 a1).Vi) ((gt v12 a1).C9) ((gt v12 a1).Sl) ((gt v12 a1).fUp) ((gt v12 a1).Sm) ((gt v12 a1).Ef) ((gt v12 a1).Sn) 0 ((gt v12 a1).Ay) ((gt v12 a1).Acx) ((gt v12 a1).Sq) ((gt v12 a1).F6) ((gt v12 a1).Fi))) fun v13=>some v13)else none))else none))else none))else none)
def Ar4 (K:Nat)(a0:List As)(a1:Int)(v5:List As)(v6:Int):Option ((List As)):=((Ags K a0 v6).bind fun r7=>(bif r7 then(if(0:Int)≤a1∧a1<(v5.length:Int)then(if(0:Int)≤v6∧v6<(v5.length:Int)then(Aqk (v5.set v6.toNat (As.mk ((gt v5 v6).Vi) ((gt v5 v6).C9) ((gt v5 v6).Sl) ((gt v5 v6).fUp) ((gt v5 v6).Sm) ((gt v5 v6).Ef) ((gt v5 v6).Sn) ((gt v5 a1).So) ((gt v5 v6).Ay) ((gt v5 v6).Acx) ((gt v5 v6).Sq) ((gt v5 v6).F6) ((gt v5 v6).Fi))) fun v8=>(Axs K a1 v8))else none)else none)else(Axs K a1 v5)))
def Aqt (K:Nat)(a0:List As)(a1:Int)(r1:(List As))(v15:Int)(v16:Int)(v17:Bool):Option ((List As)):=(bif v17 then(if(0:Int)≤a1∧a1<(r1.length:Int)then(if(0:Int)≤v16∧v16<(r1.length:Int)then(Aqk (r1.set v16.toNat (As.mk ((gt r1 v16).Vi) ((gt r1 v16).C9) ((gt r1 v16).Sl) ((gt r1 v16).fUp) ((gt r1 v16).Sm) ((gt r1 a1).Sn) ((gt r1 v16).Sn) ((gt r1 v16).So) ((gt r1 v16).Ay) ((gt r1 v16).Acx) ((gt r1 v16).Sq) ((gt r1 v16).F6) ((gt r1 v16).Fi))) fun v18=>(Ar4 K a0 a1 v18 v15))else none)else none)else(Ar4 K a0 a1 r1 v15))
def Az6 (K:Nat)(a0:List As)(a1:Int):Option ((List As)):=((Atn K a0).bind fun r1=>((Ags K a0 a1).bind fun r2=>(bif (!r2)then some r1 else(if(0:Int)≤a1∧a1<(r1.length:Int)then(if(0:Int)≤a1∧a1<(r1.length:Int)then(if(0:Int)≤a1∧a1<(r1.length:Int)then((Ags K a0 (An7 .i64 ((gt r1 a1).So) 1)).bind fun r3=>(bif r3 then(if(0:Int)≤a1∧a1<(r1.length:Int)then(if(0:Int)≤(An7 .i64 ((gt r1 a1).So) 1)∧(An7 .i64 ((gt r1 a1).So) 1)<(r1.length:Int)then(Aqk (r1.set (An7 .i64 ((gt r1 a1).So) 1).toNat (As.mk ((gt r1 (An7 .i64 ((gt r1 a1).So) 1)).Vi) ((gt r1 (An7 .i64 ((gt r1 a1).So) 1)).C9) ((gt r1 (An7 .i64 ((gt r1 a1).So) 1)).Sl) ((gt r1 (An7 .i64 ((gt r1 a1).So) 1)).fUp) ((gt r1 (An7 .i64 ((gt r1 a1).So) 1)).Sm) ((gt r1 (An7 .i64 ((gt r1 a1).So) 1)).Ef) ((gt r1 a1).Sn) ((gt r1 (An7 .i64 ((gt r1 a1).So) 1)).So) ((gt r1 (An7 .i64 ((gt r1 a1).So) 1)).Ay) ((gt r1 (An7 .i64 ((gt r1 a1).So) 1)).Acx) ((gt r1 (An7 .i64 ((gt r1 a1).So) 1)).Sq) ((gt r1 (An7 .i64 ((gt r1 a1).So) 1)).F6) ((gt r1 (An7 .i64 ((gt r1 a1).So) 1)).Fi))) fun v4=>(Ar4 K a0 a1 v4 (An7 .i64 ((gt r1 a1).Sn) 1)))else none)else none)else(if(0:Int)≤a1∧a1<(r1.length:Int)then(bif (((gt r1 a1).So)==0)then((Ags K a0 (An7 .i64 ((gt r1 a1).fUp) 1)).bind fun r14=>(bif r14 then(if(0:Int)≤(An7 .i64 ((gt r1 a1).fUp) 1)∧(An7 .i64 ((gt r1 a1).fUp) 1)<(r1.length:Int)then(Aqt K a0 a1 r1 (An7 .i64 ((gt r1 a1).Sn) 1) (An7 .i64 ((gt r1 a1).fUp) 1) (((gt r1 (An7 .i64 ((gt r1 a1).fUp) 1)).Ef)==(An6 .i64 a1 1)))else none)else(Aqt K a0 a1 r1 (An7 .i64 ((gt r1 a1).Sn) 1) (An7 .i64 ((gt r1 a1).fUp) 1) false)))else(Aqt K a0 a1 r1 (An7 .i64 ((gt r1 a1).Sn) 1) (An7 .i64 ((gt r1 a1).fUp) 1) false))else none)))else none)else none)else none))))
def Bgn:=fd Tryz.func78 ⟨[.v 29,.v 3],[.n 29 true],false⟩ (gC (A2z K) (gC (Bmm K) gN)) [53,54,57,58,59] [31,63,499]
def B0d:Ej:=⟨[(0,.v 29),(1,.v 2),(5,.o 1005 50 true),(7,.v 2)],[]⟩
def B0e:Ej:=⟨[(0,.v 29),(1,.v 2),(5,.o 1005 50 true),(7,.v 2),(8,.v 2),(47,.v 4)],[]⟩
def Bmz:=jn (Bgn K) 63 By5 [] (Axs K) kN
def Bch:=jn (Bgn K) 31 B0d [] (Ar4 K) (kC (Bmz K) kN)
def Bh7:=jn (Bgn K) 499 B0e [] (Aqt K) (kC (Bch K) kN)
def Bwi:=ct (Bgn K) (Az6 K) (kC (Bch K) (kC (Bh7 K) kN))
def A3s (K:Nat)(a0:As):Option (As):=some (As.mk 2 a0.C9 0 0 0 0 0 0 [] 0 0 [] [])
def Bwj:=ct (fd Tryz.func79 ⟨[.v 50],[.n 50 false],true⟩ gN) (A3s K)
def A06 (K:Nat)(a0:C5)(a1:Int):Option (C5):=((Aos K a0).bind fun r1=>((Ags K a0.fL a1).bind fun r2=>(bif r2 then(if(0:Int)≤a1∧a1<(a0.fL.length:Int)then(bif (((gt a0.fL a1).Vi) != 1)then some r1 else(if(0:Int)≤a1∧a1<(a0.fL.length:Int)then((Ay6 K (gt a0.fL a1) (An6 .i64 a1 1)).bind fun r3=>(if(r1.fQ.length+1)*72≤140737488355328∧r1.fQ.length+1≤maxLen then((At1 K (C5.mk r1.fC r1.fP r1.fL ((r1.fQ++[(default:Az)]).set (r1.fQ.length:Int).toNat r3) r1.Acy) a1).bind fun r4=>((Az6 K r4.fL a1).bind fun r5=>(if(0:Int)≤a1∧a1<(r5.length:Int)then(if(0:Int)≤a1∧a1<(r5.length:Int)then((A3s K (gt r5 a1)).bind fun r6=>(if(0:Int)≤a1∧a1<(r5.length:Int)then some (C5.mk r4.fC r4.fP (r5.set a1.toNat r6) r4.fQ r4.Acy)else none))else none)else none)))else none))else none))else none)else some r1)))
def Bwk:=ct (fd Tryz.func14 ⟨[.v 32,.v 3],[.n 32 true],false⟩ (gC (A71 K) (gC (A2z K) (gC (Bwf K) (gC (Bwh K) (gC (Bwi K) (gC (Bwj K) gN)))))) [11,12,13] [] [(5,[.put 105]),(6,[.take 105 9 6689,.frz 6689]),(7,[.opn 3041 (.tmp 1),.takeE 3041 11 42635,.takeE 3041 12 42636]),(8,[.take 105 6 6686,.take 105 7 6687,.take 105 8 6688,.take 105 10 6690,.take 105 11 6691])]) (A06 K)
def Atp (K:Nat)(a0:C5)(a1:An):Option (C5×Et):=((Atm K a0).bind fun r1=>(bif (!r1)then((Aro K a0 1).bind fun r2=>some (r2.1,r2.2))else((Aur K a0 a1).bind fun r3=>((Aqs K a0 a1).bind fun r4=>(bif (r4.2 != 0)then((Aos K a0).bind fun r5=>some (r5,(Et.mk r4.2 (An.mk 0 0) (Br.mk (An.mk 0 0) 0 0) [] r3 0 0)))else((A06 K a0 r4.1).bind fun r6=>some (r6,(Et.mk r4.2 (An.mk 0 0) (Br.mk (An.mk 0 0) 0 0) [] r3 0 0))))))))
def Bwl:=ct (fd Tryz.func125 ⟨[.v 32,.v 36,.f 14 [] []],[.n 32 true,.n 73 true],false⟩ (gC (Bwk K) (gC (Bem K) (gC (A71 K) (gC (Bap K) (gC (Ben K) (gC (Beo K) gN)))))) [] [] [(7,[.take 108 7 6735]),(8,[.take 108 7 6735])]) (Atp K)
def Ay7 (K:Nat)(a0:C5)(a1:An):Option (C5×Et):=((Atp K a0 a1).bind fun r1=>some (r1.1,r1.2))
def Bwm:=ct (fd Tryz.func55 ⟨[.v 32,.v 36],[.n 32 true,.n 73 true],false⟩ (gC (Bwl K) gN)) (Ay7 K)
def Api (K:Nat):Nat->(List Int)->Int->Int->Option ((List Int))
 |0,_,_,_=>none
 |n1+1,v1,v2,v3=>(bif (decide (v2<v3))then(if(0:Int)≤v3∧v3<(v1.length:Int)then(if(0:Int)≤v2∧v2<(v1.length:Int)then(if(0:Int)≤v2∧v2<(v1.length:Int)then(if(0:Int)≤v3∧v3<((v1.set v2.toNat (gt v1 v3)).length:Int)then(Api K n1 ((v1.set v2.toNat (gt v1 v3)).set v3.toNat (gt v1 v2)) (An6 .i64 v2 1) (An7 .i64 v3 1))else none)else none)else none)else none)else some v1)
def Ash (K:Nat)(a0:List Int):Option ((List Int)):=(Api K K a0 0 (An7 .i64 (a0.length:Int) 1))
def Btg:=fd Tryz.func222 ⟨[.w 26 true [(3,true)]],[],true⟩ gN
def B0f:Ej:=⟨[(0,.o 1 3 true),(2,.v 2),(3,.v 2)],[]⟩
def Bqx:=lp Btg 6 B0f [] (Api K) (fun n=>kN)
def Bwn:=ct Btg (Ash K) (kC (Bqx K K) kN)
def Auj (K:Nat)(a0:List Int):Option ((List Int)):=((Wy K a0).bind fun r1=>((Ash K r1).bind fun r2=>(if r2.length=r1.length then some r2 else none)))
def Bm0:=ct (fd Tryz.func137 ⟨[.v 26],[.n 26 true],true⟩ (gC (A3n K) (gC (Bwn K) gN))) (Auj K)
def Asn (K:Nat)(Rc:C5->(List Int)->(List Bool)->Option ((List Int)×(List Bool)))(v3:Int)(v4:Int)(v5:Int)(v6:Int)(v7:Int)(v8:Int)(v9:Int)(v10:Int)(v11:List Int)(v12:List Int)(v13:List Int)(v14:List As)(v15:List Az)(v16:List Int)(C1:(List Bool)->(List Int)->Int->Int->Int->Int->Int->Int->Int->Int->(List Int)->(List Int)->(List Int)->(List As)->(List Az)->(List Int)->Option ((List Int)×(List Bool)))(v17:List Bool)(v18:List Int):Option ((List Int)×(List Bool)):=(C1 v17 v18 v3 (An6 .i64 v4 1) v5 v6 v7 v8 v9 v10 v11 v12 v13 v14 v15 v16)
def Am8 (K:Nat)(Rc:C5->(List Int)->(List Bool)->Option ((List Int)×(List Bool)))(a1:List Int):Nat->(List Bool)->(List Int)->Int->Int->Int->Int->Int->Int->Int->Int->(List Int)->(List Int)->(List Int)->(List As)->(List Az)->(List Int)->Option ((List Int)×(List Bool))
 |0,_,_,_,_,_,_,_,_,_,_,_,_,_,_,_,_=>none
 |n1+1,v1,v2,v3,v4,v5,v6,v7,v8,v9,v10,v11,v12,v13,v14,v15,v16=>(bif (decide (v4<v3))then(if(0:Int)≤v4∧v4<(a1.length:Int)then(if(0:Int)≤(gt a1 v4)∧(gt a1 v4)<(v1.length:Int)then(bif (gt v1 (gt a1 v4))then(Asn K Rc v3 v4 v5 v6 v7 v8 v9 v10 v11 v12 v13 v14 v15 v16 (Am8 K Rc a1 n1) v1 v2)else(if(0:Int)≤(gt a1 v4)∧(gt a1 v4)<(v1.length:Int)then(if(0:Int)≤(gt a1 v4)∧(gt a1 v4)<(v14.length:Int)then((Auj K ((gt v14 (gt a1 v4)).Fi)).bind fun r19=>(if(v2++r19).length*8≤140737488355328∧(v2++r19).length≤maxLen then(if(0:Int)≤(gt a1 v4)∧(gt a1 v4)<(v14.length:Int)then((Auq K v14 ((gt v14 (gt a1 v4)).Ef)).bind fun r20=>((Rc (C5.mk (Ea.mk v5 v6 v7 v8 v9 v10) (Dn.mk v11 v12 v13) v14 v15 v16) r20 (v1.set (gt a1 v4).toNat true)).bind fun r21=>(if r21.2.length=(v1.set (gt a1 v4).toNat true).length then(if((v2++r19)++r21.1).length*8≤140737488355328∧((v2++r19)++r21.1).length≤maxLen then(Asn K Rc v3 v4 v5 v6 v7 v8 v9 v10 v11 v12 v13 v14 v15 v16 (Am8 K Rc a1 n1) r21.2 ((v2++r19)++r21.1))else none)else none)))else none)else none))else none)else none))else none)else none)else some (v2,v1))
def Ay8 (K:Nat)(Rc:C5->(List Int)->(List Bool)->Option ((List Int)×(List Bool)))(a0:C5)(a1:List Int)(a2:List Bool):Option ((List Int)×(List Bool)):=(Am8 K Rc a1 K a2 ([]:List Int) (a1.length:Int) 0 a0.fC.Ay a0.fC.G8 a0.fC.E6 a0.fC.Gu a0.fC.E7 a0.fC.G9 a0.fP.N7 a0.fP.Vi a0.fP.N8 a0.fL a0.fQ a0.Acy)
def Akw:Nat->C5->(List Int)->(List Bool)->Option ((List Int)×(List Bool))
 |0,_,_,_=>none
 |K+1,a0,a1,a2=>Ay8 K (Akw K) a0 a1 a2
def Bci:Sig:=⟨[.v 32,.v 26,.w 191 true [(4,true)]],[.n 26 true],true⟩
def Bm1 (Rc:C5->(List Int)->(List Bool)->Option ((List Int)×(List Bool)))(hR:OkF 223 ⟨Bci,Rc⟩):=fd Tryz.func223 Bci (gC (Bej K) (gC (Bm0 K) (gC hR gN))) [] [467]
def Bgo:Ej:=⟨[(2,.o 1 4 true),(3,.p 103),(7,.o 1007 3 true),(11,.v 26),(12,.v 2),(13,.v 2)],[(103,.box [.v 2,.v 2,.v 2,.v 2,.v 2,.v 2,.v 22,.v 26,.v 26,.v 29,.v 30,.v 26])]⟩
def Bh8 (Rc:C5->(List Int)->(List Bool)->Option ((List Int)×(List Bool)))(hR:OkF 223 ⟨Bci,Rc⟩):=fun(C58:CT Bgo _)=>jn (Bm1 K Rc hR) 467 Bgo [(58,ar Bgo C58)] (fun a b c d e f g h i j k l m o p q r=>Asn K Rc d e f g h i j k l m o p q r (fun v1 v2=>C58 v1 v2 c) a b) kN
def Bm2 (Rc:C5->(List Int)->(List Bool)->Option ((List Int)×(List Bool)))(hR:OkF 223 ⟨Bci,Rc⟩):=lp (Bm1 K Rc hR) 58 Bgo [] (fun n a b c=>Am8 K Rc c n a b) (fun n=>(kC (Bh8 K Rc hR _) kN))
theorem Bm3: ∀K:Nat,OkF 223 ⟨Bci,Akw K⟩
 |0=>⟨(by intro a0 a1 a2 r h;cases h),_,Tryz.func223,rfl,rfl⟩
 |K+1=>have ih:=Bm3 K;ct (Bm1 K (Akw K) ih) (Ay8 K (Akw K)) (kC (Bm2 K (Akw K) ih K) kN)
end
end Go.Proofs.YtcdojenmonmcfaaGreat
