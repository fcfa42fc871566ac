/- What the functions compute that FnLeaves reaches, and that they do; no condition. Printed by gen4.py. -/
import Derived.Test.YtcdojenmonmcfaaGreatFSrt
set_option linter.all false
set_option maxRecDepth 20000
namespace Go.Proofs.YtcdojenmonmcfaaGreat
open Go.Eng
noncomputable section
abbrev PT (h:Ei):Type:=Af tyU h.codes
abbrev Rt (s:Sig):Type:=Option (Aw tyU s.codes)
def FnP (R:Type):List TC->Type
 |[]=>R
 |c::l=>c.T tyU->FnP R l
noncomputable def unc{R:Type}:(l:List TC)->FnP R l->Af tyU l->R
 |[],f,_=>f
 |_::l,f,q=>unc l (f q.1) q.2
abbrev CT (h:Ei)(s:Sig):Type:=FnP (Rt s) h.codes
noncomputable abbrev ar{s:Sig}(h:Ei)(M:CT h s):SS Aj->Rt s:=arr tyU tab h (unc h.codes M)
abbrev OkF (f:FuncId)(c:Fg tyU):Prop:=Fg.Ok tyU Tryz.prog f c∧Eh Tryz.prog f
theorem Bxi:Tryz.prog.follows .mixedOrders=true:=by kernel_rfl
structure FD (f:FuncId)(s:Sig) where
 fn:Func
 hf:Tryz.prog.funcs[f]? =some fn
 G:List (Nat×Fg tyU)
 g: ∀f c,lk G f=some c->OkF f c
 O:List (Nat×List (Nat×Fg tyU))
 o: ∀d l,lk O d=some l-> ∀f c,lk l f=some c->OkF f c
 spl:List Nat
 js:List Nat
 pre:List (Nat×List Cmd)
 post:List (Nat×List Cmd)
noncomputable abbrev fo{f:FuncId}{fn:Func}(hf:Tryz.prog.funcs[f]? =some fn)(s:Sig){G:List (Nat×Fg tyU)}(g: ∀f c,lk G f=some c->OkF f c){O:List (Nat×List (Nat×Fg tyU))}(o: ∀d l,lk O d=some l-> ∀f c,lk l f=some c->OkF f c)(spl:List Nat:=[])(js:List Nat:=[])(pre:List (Nat×List Cmd):=[])(post:List (Nat×List Cmd):=[]):FD f s:=⟨fn,hf,G,g,O,o,spl,js,pre,post⟩
noncomputable abbrev fd{f:FuncId}{fn:Func}(hf:Tryz.prog.funcs[f]? =some fn)(s:Sig){G:List (Nat×Fg tyU)}(g: ∀f c,lk G f=some c->OkF f c)(spl:List Nat:=[])(js:List Nat:=[])(pre:List (Nat×List Cmd):=[])(post:List (Nat×List Cmd):=[]):FD f s:=⟨fn,hf,G,g,[],oN,spl,js,pre,post⟩
section
variable {f:FuncId} {s:Sig}
noncomputable abbrev FD.b (X:FD f s):Code:=X.fn.body.getD .skip
noncomputable def FD.x (X:FD f s)(L B:Λt tyU s):Ox tyU (Aw tyU s.codes):=⟨X.G,X.O,eqT eqs,X.fn.ntmps,X.spl,X.pre,X.post,X.js,L,B,Ae3 tyU tab s X.fn.results.toList⟩
abbrev CuX (X:FD f s):Λt tyU s->Nat->(SS Aj->Rt s)->Prop:=Cut tyU tab Tryz.prog X.fn.results.toList s X.fn.ntmps X.js X.b
abbrev CsX (X:FD f s):Λt tyU s->Λt tyU s->Prop:=Ve tyU tab Tryz.prog X.fn.results.toList s X.fn.ntmps X.js X.b
theorem xo (X:FD f s):XOk tyU tab Tryz.prog X.fn.results.toList s X.fn.ntmps X.js X.x:=xok Aql Bxi X.g X.o Apl
theorem lp (X:FD f s)(p:Nat)(h:Ei)(B:Λt tyU s)(M:Nat->CT h s){L:Nat->Λt tyU s}(hc: ∀n,CsX X ((p,ar h (M n))::B) (L n))(e: ∀n q,unc h.codes (M (n+1)) q=Ae1 tyU tab (X.x (L n) ((p,ar h (M n))::B)) X.b (2*p) (h.emb tyU q):=by intro n q;kernel_rfl)(hp:Nat.ble 1 p=true:=by rfl)(hk:Sg X.js X.b p=true:=by kernel_rfl)(e0: ∀q,unc h.codes (M 0) q=none:=by intro q;rfl)(n:Nat):CuX X B p (ar h (M n)):=Ame (M:=fun n=>unc h.codes (M n)) (xo X) hp hk e0 e hc n
theorem jn (X:FD f s)(p:Nat)(h:Ei)(B:Λt tyU s)(M:CT h s){L:Λt tyU s}(hc:CsX X B L)(e: ∀q,unc h.codes M q=Ae1 tyU tab (X.x L B) X.b (2*p+1) (h.emb tyU q):=by intro q;kernel_rfl)(hp:Nat.ble 1 p=true:=by rfl):CuX X B p (ar h M):=Amd (xo X) hp e hc
theorem up{X:FD f s}{B:Λt tyU s}{p x:Nat}{F G:SS Aj->Rt s}(h:CuX X B p F)(hn:Amf X.js X.b p x=true:=by kernel_rfl):CuX X ((x,G)::B) p F:=Aov hn h
theorem ct (X:FD f s)(m:V6 tyU s.ps (Rt s)){L:Λt tyU s}(hc:CsX X [] L:=by exact kN)(e:Uh tyU tab (X.x L []) X.b s.ps 0 [] [] m:=by(repeat intro _);show @Eq _ _ _;kernel_rfl)(hs:Wu tyU s.ps:=by(repeat (refine⟨fun _=>rfl,?_⟩));exact trivial)(h1:(X.fn.name== "runtime.NumGoroutine")=false:=by rfl)(h2:X.fn.body=some X.b:=by rfl)(h5:Nat.ble s.ps.length X.fn.ntmps=true:=by rfl)(h6:Nat.ble (Bf s.ps+1) 100=true:=by rfl)(h7:Nat.ble X.fn.results.toList.length 4=true:=by rfl):OkF f ⟨s,m⟩:=Aou (xo X) Apk e hc X.hf h1 h2 (Array.toArray_toList).symm rfl h5 h6 h7 hs
end
variable (K:Nat)
def A3v (K:Nat)(a0:List Int):Option (Bool):=some (decide ((a0.length:Int)>1048576))
def Bxk:=ct (fd Tryz.func8 ⟨[.v 22],[.v 4],true⟩ gN) (A3v K)
def Auw (K:Nat)(a0:List Int):Nat->Int->Int->Option (D0)
 |0,_,_=>none
 |n1+1,v1,v2=>(bif (decide (v2<(a0.length:Int)))then(bif (decide (v2<4000))then(if(0:Int)≤v2∧v2<(a0.length:Int)then(Auw K a0 n1 (An6 .i64 (An3 .i64 (An3 .i64 (An5 .i64 v1 137) (IntKind.i64.wrap (gt a0 v2))) 11) 1073741823) (An3 .i64 v2 1))else none)else some (D0.mk a0 0 v1))else some (D0.mk a0 0 v1))
def Axl (K:Nat)(a0:List Int):Option (D0):=(Auw K a0 K (An3 .i64 161416 (a0.length:Int)) 0)
def X_1:=fd Tryz.func67 ⟨[.v 22],[.p 148 false],false⟩ gN [11,12]
def h_0:Ei:=⟨[(0,.v 22),(3,.v 2),(4,.v 2)],[]⟩
def Bqh:=lp X_1 58 h_0 [] (fun n a=>Auw K a n) (fun n=>kN)
def Bub:=ct X_1 (Axl K) (kC (Bqh K K) kN)
def Awh (K:Nat)(v1:Int)(v2:List Int)(v3:Int)(v4:Int):Option (Int×D0):=some (v1,(D0.mk v2 v3 v4))
def Aqs (K:Nat)(a0:D0):Option (Int×D0):=(if(0:Int)≤33 then(if(0:Int)≤47 then(bif (decide (a0.fi<(a0.fb.length:Int)))then(if(0:Int)≤a0.fi∧a0.fi<(a0.fb.length:Int)then(Awh K (An6 .i64 (An3 .i64 (An6 .i64 (An7 .i64 (Alh .i64 (An3 .i64 (An5 .i64 a0.fh 6364136223846793005) 1442695040888963407) 33) (Alh .i64 (An3 .i64 (An5 .i64 a0.fh 6364136223846793005) 1442695040888963407) 47)) 255) (IntKind.i64.wrap (gt a0.fb a0.fi))) 255) a0.fb (An3 .i64 a0.fi 1) (An3 .i64 (An5 .i64 a0.fh 6364136223846793005) 1442695040888963407))else none)else(Awh K (An6 .i64 (An7 .i64 (Alh .i64 (An3 .i64 (An5 .i64 a0.fh 6364136223846793005) 1442695040888963407) 33) (Alh .i64 (An3 .i64 (An5 .i64 a0.fh 6364136223846793005) 1442695040888963407) 47)) 255) a0.fb a0.fi (An3 .i64 (An5 .i64 a0.fh 6364136223846793005) 1442695040888963407)))else none)else none)
def X_2:=fd Tryz.func148 ⟨[.b 148 false],[.v 3],false⟩ gN [] [15]
def h_1:Ei:=⟨[(3,.v 2)],[(1,.box [.v 22,.v 2,.v 2])]⟩
def Bqi:=jn X_2 15 h_1 [] (Awh K) kN
def Buc:=ct X_2 (Aqs K) (kC (Bqi K) kN)
def Ap (K:Nat)(a0:D0)(a1:Int):Option (Int×D0):=(bif (decide (a1≤0))then some (0,a0)else(bif (decide (a1≤256))then((Aqs K a0).bind fun r1=>(if a1≠(0:Int)then some ((Int.tmod r1.1 a1),r1.2)else none))else((Aqs K a0).bind fun r2=>((Aqs K r2.2).bind fun r3=>((Aqs K r3.2).bind fun r4=>(if a1≠(0:Int)then some ((Int.tmod (An3 .i64 (An3 .i64 (An5 .i64 r2.1 65536) (An5 .i64 r3.1 256)) r4.1) a1),r4.2)else none))))))
def A2j:=ct (fd Tryz.func66 ⟨[.b 148 false,.v 3],[.v 3],false⟩ (gC (Buc K) gN)) (Ap K)
def Wx (K:Nat)(a0:D0)(a1:List Int):Option (Int×D0×(List Int)):=((Ap K a0 (a1.length:Int)).bind fun r1=>(if(0:Int)≤r1.1∧r1.1<(a1.length:Int)then some ((gt a1 r1.1),r1.2,a1)else none))
def Bak:=ct (fd Tryz.func132 ⟨[.b 148 false,.w 26 true [(3,true)]],[.v 3],false⟩ (gC (A2j K) gN)) (Wx K)
def Av2 (K:Nat)(a0:D0):Option (D9×D0):=((Ap K a0 11).bind fun r1=>((Wx K r1.2 ([8,8,9,12,16]:List Int)).bind fun r2=>(if r2.2.2.length=([8,8,9,12,16]:List Int).length then((Ap K r2.2.1 7).bind fun r3=>((Ap K r3.2 6).bind fun r4=>((Wx K r4.2 ([1,3,4,8,16]:List Int)).bind fun r5=>(if r5.2.2.length=([1,3,4,8,16]:List Int).length then((Ap K r5.2.1 4).bind fun r6=>some ((D9.mk (An3 .i64 2 r1.1) r2.1 (An3 .i64 2 r3.1) (An3 .i64 1 r4.1) r5.1 (An3 .i64 1 r6.1)),r6.2))else none))))else none)))
def Bud:=ct (fd Tryz.func181 ⟨[.b 148 false],[.v 25],false⟩ (gC (A2j K) (gC (Bak K) gN))) (Av2 K)
def Gx (K:Nat)(a0:Int)(a1:Int)(a2:Int):Option (Bool):=(bif (decide (a0≥a1))then some (decide (a0≤a2))else some false)
def A02:=ct (fd Tryz.func106 ⟨[.v 3,.v 3,.v 3],[.v 4],true⟩ gN [9,10]) (Gx K)
def Anc (K:Nat)(a0:D9):Option (Bool):=((Gx K a0.Ay 2 12).bind fun r1=>(bif r1 then((Gx K a0.G6 8 16).bind fun r2=>(bif r2 then((Gx K a0.E5 2 8).bind fun r3=>(bif r3 then((Gx K a0.Gs 1 8).bind fun r4=>(bif r4 then((Gx K a0.E6 1 16).bind fun r5=>(bif r5 then((Gx K a0.G7 1 4).bind fun r6=>some r6)else some false))else some false))else some false))else some false))else some false))
def Bal:=ct (fd Tryz.func95 ⟨[.v 25],[.v 4],true⟩ (gC (A02 K) gN) [5,6,9,10,11,14,15,16,19,20,21,24,25,26]) (Anc K)
def Aq3 (K:Nat)(a0:D9):Option (Int):=((Anc K a0).bind fun r1=>(bif (!r1)then some 0 else some (An5 .i64 a0.Ay a0.G6)))
def Bmc:=ct (fd Tryz.func190 ⟨[.v 25],[.v 3],true⟩ (gC (Bal K) gN)) (Aq3 K)
def A1y (K:Nat)(a0:Int):Option ((List Int)):=((Gx K a0 0 4096).bind fun r1=>(bif (!r1)then some ([]:List Int)else(if(0:Int)≤a0∧a0≤a0∧(1:Int)*a0≤281474976710656∧a0≤9223372036854775807 then some (List.replicate a0.toNat 0)else none)))
def Bxl:=ct (fd Tryz.func189 ⟨[.v 3],[.n 22 true],true⟩ (gC (A02 K) gN)) (A1y K)
def Asa (K:Nat)(a0:D9):Nat->Int->Dm->Dm->Option (Dm)
 |0,_,_,_=>none
 |n1+1,v4,v5,v6=>(bif (decide (v4<a0.Ay))then(if(v5.Vg++([0]:List Int)).length*8≤140737488355328∧(v5.Vg++([0]:List Int)).length≤maxLen then(if(v5.N6++([(-1)]:List Int)).length*8≤140737488355328∧(v5.N6++([(-1)]:List Int)).length≤maxLen then(Asa K a0 n1 (An3 .i64 v4 1) (Dm.mk v5.N5 (v5.Vg++([0]:List Int)) (v5.N6++([(-1)]:List Int))) v6)else none)else none)else some v5)
def Axm (K:Nat)(a0:D9):Option (Dm):=((Anc K a0).bind fun r1=>(bif (!r1)then some (Dm.mk [] [] [])else((Aq3 K a0).bind fun r2=>((A1y K r2).bind fun r3=>(Asa K a0 K 0 (Dm.mk r3 [] []) (Dm.mk [] [] []))))))
def Bue:=fd Tryz.func96 ⟨[.v 25],[.n 28 true],true⟩ (gC (Bal K) (gC (Bxl K) (gC (Bmc K) gN))) [] [] [(3,[.take 103 0 6648,.take 103 1 6649,.take 103 2 6650]),(8,[.take 103 1 6649]),(9,[.take 103 2 6650]),(10,[.take 103 0 6648,.take 103 1 6649,.take 103 2 6650])]
def h_2:Ei:=⟨[(1,.p 101),(2,.p 102),(3,.p 103),(4,.v 2)],[(103,.st 28 true),(102,.st 28 true),(101,.st 25 true)]⟩
def Bha:=lp (Bue K) 250 h_2 [] (fun n a b c d=>Asa K d n a b c) (fun n=>kN)
def Buf:=ct (Bue K) (Axm K) (kC (Bha K K) kN)
def Ak1 (K:Nat)(a0:Int):Option (As):=some (As.mk 0 a0 0 0 0 0 0 0 [] 0 0 [] [])
def Bam:=ct (fd Tryz.func191 ⟨[.v 3],[.n 50 false],true⟩ gN) (Ak1 K)
def Arq (K:Nat)(a0:D9):Nat->(List As)->Int->Option ((List As))
 |0,_,_=>none
 |n1+1,v1,v2=>(bif (decide (v2<a0.E5))then((Anc K a0).bind fun r3=>(bif r3 then((Ak1 K 1).bind fun r4=>(if(v1++[r4]).length*152≤140737488355328∧(v1++[r4]).length≤maxLen then(Arq K a0 n1 (v1++[r4]) (An3 .i64 v2 1))else none))else some v1))else some v1)
def Azm (K:Nat)(a0:D9):Option ((List As)):=(Arq K a0 K ([]:List As) 0)
def Bug:=fd Tryz.func97 ⟨[.v 25],[.n 29 true],false⟩ (gC (Bal K) (gC (Bam K) gN)) [9,10] [] [] [(18,[.put 3018])]
def h_3:Ei:=⟨[(1,.p 101),(3,.o 1003 50 true),(4,.v 2)],[(101,.st 25 true)]⟩
def Bmd:=lp (Bug K) 58 h_3 [] (fun n a b c=>Arq K c n a b) (fun n=>kN)
def Buh:=ct (Bug K) (Azm K) (kC (Bmd K K) kN)
def Awi (K:Nat)(a0:D9):Option (C4):=((Anc K a0).bind fun r1=>(bif (!r1)then some (C4.mk (D9.mk 0 0 0 0 0 0) (Dm.mk [] [] []) [] [] [])else((Axm K a0).bind fun r2=>((Azm K a0).bind fun r3=>some (C4.mk a0 r2 r3 [] [])))))
def Bui:=ct (fd Tryz.func25 ⟨[.v 25],[.n 32 true],false⟩ (gC (Bal K) (gC (Buf K) (gC (Buh K) gN)))) (Awi K)
def Ad6 (K:Nat)(a0:List As)(a1:Int):Option (Bool):=(bif (decide (a1≥1))then some (decide (a1≤(a0.length:Int)))else some false)
def A5i:=ct (fd Tryz.func213 ⟨[.v 29,.v 3],[.v 4],true⟩ gN [6,7]) (Ad6 K)
def Av3 (K:Nat)(a0:List As):Nat->Int->(List Int)->Option ((List Int))
 |0,_,_=>none
 |n1+1,v1,v2=>((Ad6 K a0 (An3 .i64 v1 1)).bind fun r3=>(bif r3 then(bif (decide ((v2.length:Int)<(a0.length:Int)))then(if(v2++([v1]:List Int)).length*8≤140737488355328∧(v2++([v1]:List Int)).length≤maxLen then(if(0:Int)≤v1∧v1<(a0.length:Int)then(Av3 K a0 n1 (An4 .i64 ((gt a0 v1).fUp) 1) (v2++([v1]:List Int)))else none)else none)else some v2)else some v2))
def Axf (K:Nat)(a0:List As)(a1:Int):Option ((List Int)):=(Av3 K a0 K a1 ([]:List Int))
def Buj:=fd Tryz.func123 ⟨[.v 29,.v 3],[.n 26 true],true⟩ (gC (A5i K) gN) [10,11]
def h_4:Ei:=⟨[(0,.v 29),(1,.v 2),(5,.o 1005 3 true)],[]⟩
def Bme:=lp (Buj K) 28 h_4 [] (fun n a=>Av3 K a n) (fun n=>kN)
def Bhb:=ct (Buj K) (Axf K) (kC (Bme K K) kN)
def Arr (K:Nat)(a0:List As)(a1:Int):Option (Bool):=(if(0:Int)≤a1∧a1<(a0.length:Int)then((Ad6 K a0 ((gt a0 a1).fUp)).bind fun r1=>(bif r1 then(if(0:Int)≤(An4 .i64 ((gt a0 a1).fUp) 1)∧(An4 .i64 ((gt a0 a1).fUp) 1)<(a0.length:Int)then(bif (((gt a0 (An4 .i64 ((gt a0 a1).fUp) 1)).Vg)==1)then(if(0:Int)≤(An4 .i64 ((gt a0 a1).fUp) 1)∧(An4 .i64 ((gt a0 a1).fUp) 1)<(a0.length:Int)then(if(0:Int)≤a1∧a1<(a0.length:Int)then some (((gt a0 (An4 .i64 ((gt a0 a1).fUp) 1)).Sj)==((gt a0 a1).Sk))else none)else none)else some false)else none)else some false))else none)
def Bhc:=ct (fd Tryz.func206 ⟨[.v 29,.v 3],[.v 4],true⟩ (gC (A5i K) gN) [13,14,21,22,23]) (Arr K)
def Axn (K:Nat)(v2:Int)(C1:Int->Option (Bool)):Option (Bool):=(C1 (An3 .i64 v2 1))
def Asb (K:Nat)(a0:List As)(r1:(List Int)):Nat->Int->Option (Bool)
 |0,_=>none
 |n1+1,v2=>(bif (decide (v2<(r1.length:Int)))then(if(0:Int)≤v2∧v2<(r1.length:Int)then(if(0:Int)≤(gt r1 v2)∧(gt r1 v2)<(a0.length:Int)then(bif (((gt a0 (gt r1 v2)).Vg) != 1)then some false else(bif (decide ((An3 .i64 v2 1)<(r1.length:Int)))then(if(0:Int)≤v2∧v2<(r1.length:Int)then((Arr K a0 (gt r1 v2)).bind fun r3=>(bif (!r3)then some false else(Axn K v2 (Asb K a0 r1 n1))))else none)else(Axn K v2 (Asb K a0 r1 n1))))else none)else none)else(bif (decide ((r1.length:Int)>0))then(if(0:Int)≤(An4 .i64 (r1.length:Int) 1)∧(An4 .i64 (r1.length:Int) 1)<(r1.length:Int)then(if(0:Int)≤(gt r1 (An4 .i64 (r1.length:Int) 1))∧(gt r1 (An4 .i64 (r1.length:Int) 1))<(a0.length:Int)then some (((gt a0 (gt r1 (An4 .i64 (r1.length:Int) 1))).fUp)==0)else none)else none)else some false))
def Avk (K:Nat)(a0:List As)(a1:Int):Option (Bool):=((Axf K a0 a1).bind fun r1=>(Asb K a0 r1 K 0))
def Bqj:=fd Tryz.func113 ⟨[.v 29,.v 3],[.v 4],true⟩ (gC (Bhb K) (gC (Bhc K) gN)) [24,25,30,31,43,44] [233]
def h_5:Ei:=⟨[(0,.v 29),(5,.v 26),(6,.v 2)],[]⟩
def Bhd:=fun(C58:CT h_5 _)=>jn (Bqj K) 233 h_5 [(58,ar h_5 C58)] (fun a b c=>Axn K c (C58 a b)) kN
def Bmf:=lp (Bqj K) 58 h_5 [] (fun n a b=>Asb K a b n) (fun n=>(kC (Bhd K _) kN))
def Bhe:=ct (Bqj K) (Avk K) (kC (Bmf K K) kN)
def Asc (K:Nat)(v2:Int)(v3:Int)(v4:Int)(v5:Int)(v6:Int)(v7:Int)(v8:Int)(v9:List Int)(v10:List Int)(v11:List Int)(v12:List As)(v13:List Az)(v14:List Int)(C1:(List Int)->Int->Int->Int->Int->Int->Int->Int->(List Int)->(List Int)->(List Int)->(List As)->(List Az)->(List Int)->Option ((List Int)))(v16:List Int):Option ((List Int)):=(C1 v16 (An3 .i64 v2 1) v3 v4 v5 v6 v7 v8 v9 v10 v11 v12 v13 v14)
def Aqx (K:Nat):Nat->(List Int)->Int->Int->Int->Int->Int->Int->Int->(List Int)->(List Int)->(List Int)->(List As)->(List Az)->(List Int)->Option ((List Int))
 |0,_,_,_,_,_,_,_,_,_,_,_,_,_,_=>none
 |n1+1,v1,v2,v3,v4,v5,v6,v7,v8,v9,v10,v11,v12,v13,v14=>(bif (decide (v2<(v12.length:Int)))then((Avk K v12 v2).bind fun r15=>(bif r15 then(if(v1++([v2]:List Int)).length*8≤140737488355328∧(v1++([v2]:List Int)).length≤maxLen then(Asc K v2 v3 v4 v5 v6 v7 v8 v9 v10 v11 v12 v13 v14 (Aqx K n1) (v1++([v2]:List Int)))else none)else(Asc K v2 v3 v4 v5 v6 v7 v8 v9 v10 v11 v12 v13 v14 (Aqx K n1) v1)))else some v1)
def Axo (K:Nat)(a0:C4):Option ((List Int)):=(Aqx K K ([]:List Int) 0 a0.fC.Ay a0.fC.G6 a0.fC.E5 a0.fC.Gs a0.fC.E6 a0.fC.G7 a0.fP.N5 a0.fP.Vg a0.fP.N6 a0.fL a0.fQ a0.Acw)
def Bqk:=fd Tryz.func31 ⟨[.v 32],[.n 26 true],true⟩ (gC (Bhe K) gN) [] [233]
def h_6:Ei:=⟨[(1,.p 101),(3,.o 1003 3 true),(4,.v 2)],[(101,.box [.v 2,.v 2,.v 2,.v 2,.v 2,.v 2,.v 22,.v 26,.v 26,.v 29,.v 30,.v 26])]⟩
def Bhf:=fun(C58:CT h_6 _)=>jn (Bqk K) 233 h_6 [(58,ar h_6 C58)] (fun a b c d e f g h i j k l m o=>Asc K b c d e f g h i j k l m o C58 a) kN
def Bmg:=lp (Bqk K) 58 h_6 [] (Aqx K) (fun n=>(kC (Bhf K _) kN))
def Bor:=ct (Bqk K) (Axo K) (kC (Bmg K K) kN)
def Ane (K:Nat)(a0:D0)(a1:Int):Option (Bool×D0):=((Ap K a0 a1).bind fun r1=>some ((r1.1==0),r1.2))
def Ban:=ct (fd Tryz.func150 ⟨[.b 148 false,.v 3],[.v 4],false⟩ (gC (A2j K) gN)) (Ane K)
def Awj (K:Nat)(a0:D0):Option (Am×D0):=((Ap K a0 5).bind fun r1=>((Ap K r1.2 3).bind fun r2=>some ((Am.mk r1.1 (An3 .i64 1 r2.1)),r2.2)))
def Buk:=ct (fd Tryz.func231 ⟨[.b 148 false],[.v 36],false⟩ (gC (A2j K) gN)) (Awj K)
def Asd (K:Nat)(a1:Int):Nat->(List Int)->Int->(List Int)->Int->Int->Option ((List Int)×D0)
 |0,_,_,_,_,_=>none
 |n1+1,v1,v2,v3,v4,v5=>(bif (decide (v2<a1))then((Aqs K (D0.mk v3 v4 v5)).bind fun r6=>(if(v1++([(IntKind.u8.wrap r6.1)]:List Int)).length*1≤140737488355328∧(v1++([(IntKind.u8.wrap r6.1)]:List Int)).length≤maxLen then(Asd K a1 n1 (v1++([(IntKind.u8.wrap r6.1)]:List Int)) (An3 .i64 v2 1) r6.2.fb r6.2.fi r6.2.fh)else none))else some (v1,(D0.mk v3 v4 v5)))
def Axp (K:Nat)(a0:D0)(a1:Int):Option ((List Int)×D0):=(Asd K a1 K ([]:List Int) 0 a0.fb a0.fi a0.fh)
def Bul:=fd Tryz.func141 ⟨[.b 148 false,.v 3],[.n 22 true],false⟩ (gC (Buc K) gN)
def h_7:Ei:=⟨[(0,.p 1),(1,.v 2),(5,.o 1005 5 true),(6,.v 2)],[(1,.box [.v 22,.v 2,.v 2])]⟩
def Bmh:=lp (Bul K) 58 h_7 [] (fun n a=>Asd K a n) (fun n=>kN)
def Bos:=ct (Bul K) (Axp K) (kC (Bmh K K) kN)
def Alw (K:Nat)(v6:List Int)(v7:Int)(v8:Int)(v9:Cm)(v10:Cm):Option (Cm×D0):=some (v9,(D0.mk v6 v7 v8))
def Aqy (K:Nat)(v11:Int)(v12:Bool)(v13:List Int)(v14:Int)(v15:Int)(v16:Bq)(v17:Am)(v18:Cm)(v19:Cm):Option (Cm×D0):=(bif v12 then(Alw K v13 v14 v15 (Cm.mk v18.Ww v17 v18.fR v18.fN v18.fM v18.fB) v19)else(bif (v11==2)then((Wx K (D0.mk v13 v14 v15) ([1,2,3,5,8,9,17,20,0,201]:List Int)).bind fun r20=>(if r20.2.2.length=([1,2,3,5,8,9,17,20,0,201]:List Int).length then((Wx K r20.2.1 ([1,1,2,4,3]:List Int)).bind fun r21=>(if r21.2.2.length=([1,1,2,4,3]:List Int).length then(Alw K r21.2.1.fb r21.2.1.fi r21.2.1.fh (Cm.mk v18.Ww v17 v18.fR r20.1 r21.1 v18.fB) v19)else none))else none))else(bif (v11==3)then((Ap K (D0.mk v13 v14 v15) 4).bind fun r22=>((Ap K r22.2 5).bind fun r23=>(Alw K r23.2.fb r23.2.fi r23.2.fh (Cm.mk v18.Ww v18.fH v16 r22.1 r23.1 v18.fB) v19)))else(bif (v11==4)then((Ap K (D0.mk v13 v14 v15) 4).bind fun r24=>((Ap K r24.2 4).bind fun r25=>((Axp K r25.2 r25.1).bind fun r26=>(Alw K r26.2.fb r26.2.fi r26.2.fh (Cm.mk v18.Ww v18.fH v16 r24.1 v18.fM r26.1) v19))))else(bif (v11==5)then((Wx K (D0.mk v13 v14 v15) ([1,7,255,256]:List Int)).bind fun r27=>(if r27.2.2.length=([1,7,255,256]:List Int).length then(Alw K r27.2.1.fb r27.2.1.fi r27.2.1.fh (Cm.mk v18.Ww v17 v18.fR r27.1 v18.fM v18.fB) v19)else none))else(Alw K v13 v14 v15 v18 v19))))))
def Aux (K:Nat)(a0:D0):Option (Cm×D0):=((Ap K a0 9).bind fun r1=>((Awj K r1.2).bind fun r2=>((Ap K r2.2 2).bind fun r3=>((Ap K r3.2 3).bind fun r4=>(bif ((An3 .i64 1 r1.1)==1)then((Ane K r4.2 2).bind fun r5=>(bif r5.1 then(Alw K r5.2.fb r5.2.fi r5.2.fh (Cm.mk (An3 .i64 1 r1.1) r2.1 (Bq.mk (Am.mk 0 0) 0 0) 0 0 []) (Cm.mk 0 (Am.mk 0 0) (Bq.mk (Am.mk 0 0) 0 0) 0 0 []))else(Alw K r5.2.fb r5.2.fi r5.2.fh (Cm.mk (An3 .i64 1 r1.1) (Am.mk 0 0) (Bq.mk (Am.mk 0 0) 0 0) 0 0 []) (Cm.mk 0 (Am.mk 0 0) (Bq.mk (Am.mk 0 0) 0 0) 0 0 []))))else(bif ((An3 .i64 1 r1.1)==6)then(Aqy K (An3 .i64 1 r1.1) ((An3 .i64 1 r1.1)==6) r4.2.fb r4.2.fi r4.2.fh (Bq.mk r2.1 r3.1 r4.1) r2.1 (Cm.mk (An3 .i64 1 r1.1) (Am.mk 0 0) (Bq.mk (Am.mk 0 0) 0 0) 0 0 []) (Cm.mk 0 (Am.mk 0 0) (Bq.mk (Am.mk 0 0) 0 0) 0 0 []))else(bif ((An3 .i64 1 r1.1)==7)then(Aqy K (An3 .i64 1 r1.1) ((An3 .i64 1 r1.1)==7) r4.2.fb r4.2.fi r4.2.fh (Bq.mk r2.1 r3.1 r4.1) r2.1 (Cm.mk (An3 .i64 1 r1.1) (Am.mk 0 0) (Bq.mk (Am.mk 0 0) 0 0) 0 0 []) (Cm.mk 0 (Am.mk 0 0) (Bq.mk (Am.mk 0 0) 0 0) 0 0 []))else(Aqy K (An3 .i64 1 r1.1) ((An3 .i64 1 r1.1)==8) r4.2.fb r4.2.fi r4.2.fh (Bq.mk r2.1 r3.1 r4.1) r2.1 (Cm.mk (An3 .i64 1 r1.1) (Am.mk 0 0) (Bq.mk (Am.mk 0 0) 0 0) 0 0 []) (Cm.mk 0 (Am.mk 0 0) (Bq.mk (Am.mk 0 0) 0 0) 0 0 [])))))))))
def Bql:=fd Tryz.func151 ⟨[.b 148 false],[.n 40 true],false⟩ (gC (A2j K) (gC (Bak K) (gC (Bos K) (gC (Ban K) (gC (Buk K) gN))))) [] [31,1003] [(27,[.take 103 9 6657])]
def h_8:Ei:=⟨[(2,.p 102),(3,.p 103)],[(1,.box [.v 22,.v 2,.v 2]),(103,.st 40 true),(102,.st 40 true)]⟩
def h_9:Ei:=⟨[(0,.p 1),(2,.p 102),(3,.p 103),(4,.p 104),(5,.p 105),(19,.v 2),(26,.v 4)],[(1,.box [.v 22,.v 2,.v 2]),(105,.st 38 true),(104,.st 36 true),(103,.st 40 true),(102,.st 40 true)]⟩
def Bd3:=jn (Bql K) 31 h_8 [] (Alw K) kN
def Be8:=jn (Bql K) 1003 h_9 [] (Aqy K) (kC (Bd3 K) kN)
def Bum:=ct (Bql K) (Aux K) (kC (Bd3 K) (kC (Be8 K) kN))
def Atv (K:Nat)(a0:List As)(a1:Int):Option (Am):=((Gx K a1 0 (An4 .i64 (a0.length:Int) 1)).bind fun r1=>(bif (!r1)then some (Am.mk 0 0)else(if(0:Int)≤a1∧a1<(a0.length:Int)then some (Am.mk a1 ((gt a0 a1).C8))else none)))
def Bou:=ct (fd Tryz.func152 ⟨[.v 29,.v 3],[.v 36],true⟩ (gC (A02 K) gN)) (Atv K)
def Ase (K:Nat)(r8:Am)(v27:List Int)(v28:List Int)(v29:List Int)(v30:List As)(v31:List Az)(v32:List Int)(v34:Int)(v36:List Int)(v37:Int)(v38:Int)(v47:Bool):Option (Cm×D0×(List Int)×(List Int)×(List Int)×(List As)×(List Az)×(List Int)):=(bif v47 then((Ap K (D0.mk v36 v37 v38) 256).bind fun r48=>some ((Cm.mk 5 r8 (Bq.mk (Am.mk 0 0) 0 0) r48.1 0 []),r48.2,v27,v28,v29,v30,v31,v32))else(bif (v34==13)then some ((Cm.mk 6 r8 (Bq.mk (Am.mk 0 0) 0 0) 0 0 []),(D0.mk v36 v37 v38),v27,v28,v29,v30,v31,v32)else(bif (v34==14)then some ((Cm.mk 7 r8 (Bq.mk (Am.mk 0 0) 0 0) 0 0 []),(D0.mk v36 v37 v38),v27,v28,v29,v30,v31,v32)else((Ane K (D0.mk v36 v37 v38) 6).bind fun r49=>(bif r49.1 then some ((Cm.mk 9 (Am.mk 0 0) (Bq.mk (Am.mk 0 0) 0 0) 0 0 []),r49.2,v27,v28,v29,v30,v31,v32)else some ((Cm.mk 8 r8 (Bq.mk (Am.mk 0 0) 0 0) 0 0 []),r49.2,v27,v28,v29,v30,v31,v32))))))
def Asf (K:Nat)(r8:Am)(v13:Bq)(v27:List Int)(v28:List Int)(v29:List Int)(v30:List As)(v31:List Az)(v32:List Int)(v34:Int)(v36:List Int)(v37:Int)(v38:Int)(v43:Bool):Option (Cm×D0×(List Int)×(List Int)×(List Int)×(List As)×(List Az)×(List Int)):=(bif v43 then((Ap K (D0.mk v36 v37 v38) 2).bind fun r44=>((Axp K r44.2 (An3 .i64 1 r44.1)).bind fun r45=>some ((Cm.mk 4 (Am.mk 0 0) v13 0 0 r45.1),r45.2,v27,v28,v29,v30,v31,v32)))else(bif (v34==10)then((Ap K (D0.mk v36 v37 v38) 3).bind fun r46=>some ((Cm.mk 3 (Am.mk 0 0) v13 0 r46.1 []),r46.2,v27,v28,v29,v30,v31,v32))else(bif (v34==11)then(Ase K r8 v27 v28 v29 v30 v31 v32 v34 v36 v37 v38 (v34==11))else(Ase K r8 v27 v28 v29 v30 v31 v32 v34 v36 v37 v38 (v34==12)))))
def Aqz (K:Nat)(r8:Am)(v13:Bq)(v16:Int)(v27:List Int)(v28:List Int)(v29:List Int)(v30:List As)(v31:List Az)(v32:List Int)(v34:Int)(v36:List Int)(v37:Int)(v38:Int)(v39:Bool):Option (Cm×D0×(List Int)×(List Int)×(List Int)×(List As)×(List Az)×(List Int)):=(bif v39 then((Wx K (D0.mk v36 v37 v38) ([1,2,3,4,5,8]:List Int)).bind fun r40=>(if r40.2.2.length=([1,2,3,4,5,8]:List Int).length then((Wx K r40.2.1 ([1,1,2,4]:List Int)).bind fun r41=>(if r41.2.2.length=([1,1,2,4]:List Int).length then some ((Cm.mk 2 r8 (Bq.mk (Am.mk 0 0) 0 0) r40.1 r41.1 []),r41.2.1,v27,v28,v29,v30,v31,v32)else none))else none))else(bif (v34==7)then((Ap K (D0.mk v36 v37 v38) v16).bind fun r42=>some ((Cm.mk 2 r8 (Bq.mk (Am.mk 0 0) 0 0) (An3 .i64 (An3 .i64 v16 1) r42.1) 1 []),r42.2,v27,v28,v29,v30,v31,v32))else(bif (v34==8)then(Asf K r8 v13 v27 v28 v29 v30 v31 v32 v34 v36 v37 v38 (v34==8))else(Asf K r8 v13 v27 v28 v29 v30 v31 v32 v34 v36 v37 v38 (v34==9)))))
def Aq0 (K:Nat)(r8:Am)(v13:Bq)(v16:Int)(v27:List Int)(v28:List Int)(v29:List Int)(v30:List As)(v31:List Az)(v32:List Int)(v34:Int)(v35:Bool)(v36:List Int)(v37:Int)(v38:Int):Option (Cm×D0×(List Int)×(List Int)×(List Int)×(List As)×(List Az)×(List Int)):=(bif v35 then some ((Cm.mk 1 r8 (Bq.mk (Am.mk 0 0) 0 0) 0 0 []),(D0.mk v36 v37 v38),v27,v28,v29,v30,v31,v32)else(bif (v34==3)then some ((Cm.mk 1 (Am.mk 0 0) (Bq.mk (Am.mk 0 0) 0 0) 0 0 []),(D0.mk v36 v37 v38),v27,v28,v29,v30,v31,v32)else(bif (v34==4)then(Aqz K r8 v13 v16 v27 v28 v29 v30 v31 v32 v34 v36 v37 v38 (v34==4))else(bif (v34==5)then(Aqz K r8 v13 v16 v27 v28 v29 v30 v31 v32 v34 v36 v37 v38 (v34==5))else(Aqz K r8 v13 v16 v27 v28 v29 v30 v31 v32 v34 v36 v37 v38 (v34==6))))))
def Asg (K:Nat)(r8:Am)(v10:List Int)(v11:Int)(v12:Int)(v13:Bq)(v14:Cm)(v15:Int)(v16:Int)(v17:Int)(v18:Int)(v19:Int)(v20:Int)(v21:Nat)(v22:Nat)(v23:Nat)(v24:Nat)(v25:Nat)(v26:Nat)(v27:List Int)(v28:List Int)(v29:List Int)(v30:List As)(v31:List Az)(v32:List Int):Option (Cm×D0×(List Int)×(List Int)×(List Int)×(List As)×(List Az)×(List Int)):=((Ap K (D0.mk v10 v11 v12) 16).bind fun r33=>(bif (r33.1==0)then(Aq0 K r8 v13 v16 v27 v28 v29 v30 v31 v32 r33.1 (r33.1==0) r33.2.fb r33.2.fi r33.2.fh)else(bif (r33.1==1)then(Aq0 K r8 v13 v16 v27 v28 v29 v30 v31 v32 r33.1 (r33.1==1) r33.2.fb r33.2.fi r33.2.fh)else(Aq0 K r8 v13 v16 v27 v28 v29 v30 v31 v32 r33.1 (r33.1==2) r33.2.fb r33.2.fi r33.2.fh))))
def Auy (K:Nat)(a0:D0)(a1:C4):Option (Cm×D0×(List Int)×(List Int)×(List Int)×(List As)×(List Az)×(List Int)):=((Axo K a1).bind fun r1=>(bif ((r1.length:Int)==0)then((Ane K a0 2).bind fun r2=>(bif r2.1 then some ((Cm.mk 1 (Am.mk 0 0) (Bq.mk (Am.mk 0 0) 0 0) 0 0 []),r2.2,a1.fP.N5,a1.fP.Vg,a1.fP.N6,a1.fL,a1.fQ,a1.Acw)else((Aux K r2.2).bind fun r3=>some (r3.1,r3.2,a1.fP.N5,a1.fP.Vg,a1.fP.N6,a1.fL,a1.fQ,a1.Acw))))else((Ane K a0 10).bind fun r4=>(bif r4.1 then((Ane K r4.2 2).bind fun r5=>(bif r5.1 then some ((Cm.mk 1 (Am.mk 0 0) (Bq.mk (Am.mk 0 0) 0 0) 0 0 []),r5.2,a1.fP.N5,a1.fP.Vg,a1.fP.N6,a1.fL,a1.fQ,a1.Acw)else((Aux K r5.2).bind fun r6=>some (r6.1,r6.2,a1.fP.N5,a1.fP.Vg,a1.fP.N6,a1.fL,a1.fQ,a1.Acw))))else((Ap K r4.2 (r1.length:Int)).bind fun r7=>(if(0:Int)≤r7.1∧r7.1<(r1.length:Int)then((Atv K a1.fL (gt r1 r7.1)).bind fun r8=>(if(0:Int)≤(gt r1 r7.1)∧(gt r1 r7.1)<(a1.fL.length:Int)then(if(0:Int)≤(gt r1 r7.1)∧(gt r1 r7.1)<(a1.fL.length:Int)then(if(0:Int)≤(gt r1 r7.1)∧(gt r1 r7.1)<(a1.fL.length:Int)then(bif (decide ((((gt a1.fL (gt r1 r7.1)).F4).length:Int)>0))then(if(0:Int)≤(gt r1 r7.1)∧(gt r1 r7.1)<(a1.fL.length:Int)then((Ap K r7.2 (((gt a1.fL (gt r1 r7.1)).F4).length:Int)).bind fun r9=>(Asg K r8 r9.2.fb r9.2.fi r9.2.fh (Bq.mk r8 ((gt a1.fL (gt r1 r7.1)).Sj) r9.1) (Cm.mk 0 (Am.mk 0 0) (Bq.mk (Am.mk 0 0) 0 0) 0 0 []) a1.fC.Ay a1.fC.G6 a1.fC.E5 a1.fC.Gs a1.fC.E6 a1.fC.G7 a1.fP.N5.length a1.fP.Vg.length a1.fP.N6.length a1.fL.length a1.fQ.length a1.Acw.length a1.fP.N5 a1.fP.Vg a1.fP.N6 a1.fL a1.fQ a1.Acw))else none)else(Asg K r8 r7.2.fb r7.2.fi r7.2.fh (Bq.mk r8 ((gt a1.fL (gt r1 r7.1)).Sj) 0) (Cm.mk 0 (Am.mk 0 0) (Bq.mk (Am.mk 0 0) 0 0) 0 0 []) a1.fC.Ay a1.fC.G6 a1.fC.E5 a1.fC.Gs a1.fC.E6 a1.fC.G7 a1.fP.N5.length a1.fP.Vg.length a1.fP.N6.length a1.fL.length a1.fQ.length a1.Acw.length a1.fP.N5 a1.fP.Vg a1.fP.N6 a1.fL a1.fQ a1.Acw))else none)else none)else none))else none))))))
def Be9:=fd Tryz.func70 ⟨[.b 148 false,.w 32 false [(5,true),(3,true),(3,true),(50,true),(52,false),(3,true)]],[.n 40 true],false⟩ (gC (Bor K) (gC (A2j K) (gC (Bak K) (gC (Bos K) (gC (Ban K) (gC (Bum K) (gC (Bou K) gN))))))) [13,14] [127,2042,32687,523007,8368127] [(9,[.opn 5 (.tmp 6),.takeE 5 11 40331])]
def Bxn:Ei:=⟨[(0,.p 1),(4,.p 104),(7,.p 107),(61,.v 2),(113,.v 4)],[(1,.box [.v 22,.v 2,.v 2]),(2,.rws 5 true),(3,.rws 3 true),(4,.rws 3 true),(5,.rws 50 true),(6,.rws 52 false),(7,.rws 3 true),(107,.st 36 true),(104,.st 40 true)]⟩
def Bxo:Ei:=⟨[(0,.p 1),(4,.p 104),(7,.p 107),(8,.p 108),(61,.v 2),(97,.v 4)],[(1,.box [.v 22,.v 2,.v 2]),(2,.rws 5 true),(3,.rws 3 true),(4,.rws 3 true),(5,.rws 50 true),(6,.rws 52 false),(7,.rws 3 true),(108,.st 38 true),(107,.st 36 true),(104,.st 40 true)]⟩
def Bxp:Ei:=⟨[(0,.p 1),(3,.p 103),(4,.p 104),(7,.p 107),(8,.p 108),(61,.v 2),(71,.v 4)],[(1,.box [.v 22,.v 2,.v 2]),(108,.st 38 true),(107,.st 36 true),(104,.st 40 true),(103,.ob [.v 2,.v 2,.v 2,.v 2,.v 2,.v 2,.O 2,.O 3,.O 4,.O 5,.O 6,.O 7]),(2,.rws 5 true),(3,.rws 3 true),(4,.rws 3 true),(5,.rws 50 true),(6,.rws 52 false),(7,.rws 3 true)]⟩
def Bxq:Ei:=⟨[(0,.p 1),(3,.p 103),(4,.p 104),(7,.p 107),(8,.p 108),(61,.v 2),(62,.v 4)],[(1,.box [.v 22,.v 2,.v 2]),(108,.st 38 true),(107,.st 36 true),(104,.st 40 true),(103,.ob [.v 2,.v 2,.v 2,.v 2,.v 2,.v 2,.O 2,.O 3,.O 4,.O 5,.O 6,.O 7]),(2,.rws 5 true),(3,.rws 3 true),(4,.rws 3 true),(5,.rws 50 true),(6,.rws 52 false),(7,.rws 3 true)]⟩
def Bxr:Ei:=⟨[(0,.p 1),(3,.p 103),(4,.p 104),(7,.p 107),(8,.p 108)],[(1,.box [.v 22,.v 2,.v 2]),(108,.st 38 true),(107,.st 36 true),(104,.st 40 true),(103,.ob [.v 2,.v 2,.v 2,.v 2,.v 2,.v 2,.O 2,.O 3,.O 4,.O 5,.O 6,.O 7]),(2,.rws 5 true),(3,.rws 3 true),(4,.rws 3 true),(5,.rws 50 true),(6,.rws 52 false),(7,.rws 3 true)]⟩
def A81:=jn (Be9 K) 8368127 Bxn [] (fun a b c d e f g h i j k l _=>Ase K l f g h i j k a c d e b) kN
def Bao:=jn (Be9 K) 523007 Bxo [] (fun a b c d e f g h i j k l m _=>Asf K m l f g h i j k a c d e b) (kC (A81 K) kN)
def Bch:=jn (Be9 K) 32687 Bxp [] (fun a b c d e f g _ _ j _ _ _ _ _ _ _ _ _ _ v w x y z a1=>Aqz K g f j v w x y z a1 a c d e b) (kC (Bao K) kN)
def Bfa:=jn (Be9 K) 2042 Bxq [] (fun a b c d e f g _ _ j _ _ _ _ _ _ _ _ _ _ v w x y z a1=>Aq0 K g f j v w x y z a1 a b c d e) (kC (Bch K) kN)
def Bhg:=jn (Be9 K) 127 Bxr [] (fun a b c d e=>Asg K e a b c d) (kC (Bfa K) kN)
def Bov:=ct (Be9 K) (Auy K) (kC (Bhg K) kN)
def Atw (K:Nat)(a0:Am):Option (Bool):=(bif (decide (a0.Bk≥0))then some (decide (a0.C8≥1))else some false)
def Bow:=ct (fd Tryz.func211 ⟨[.v 36],[.v 4],true⟩ gN [5,6]) (Atw K)
def Auz (K:Nat)(a0:List As)(a1:Am):Option (Int):=((Gx K a1.Bk 0 (An4 .i64 (a0.length:Int) 1)).bind fun r1=>(bif r1 then(if(0:Int)≤a1.Bk∧a1.Bk<(a0.length:Int)then(bif (((gt a0 a1.Bk).Vg) != 1)then some (-1)else(if(0:Int)≤a1.Bk∧a1.Bk<(a0.length:Int)then(bif (((gt a0 a1.Bk).C8) != a1.C8)then some (-1)else some a1.Bk)else none))else none)else some (-1)))
def Box:=ct (fd Tryz.func212 ⟨[.v 29,.v 36],[.v 3],true⟩ (gC (A02 K) gN) [10,11,12,19,20,21]) (Auz K)
def Anh (K:Nat)(a0:C4)(a1:Am):Option (Int×Int):=((Atw K a1).bind fun r1=>(bif (!r1)then some ((-1),1)else((Auz K a0.fL a1).bind fun r2=>(bif (decide (r2<0))then some ((-1),2)else((Avk K a0.fL r2).bind fun r3=>(bif (!r3)then some ((-1),2)else some (r2,0)))))))
def A8e:=ct (fd Tryz.func121 ⟨[.v 32,.v 36],[.v 3,.v 3],true⟩ (gC (Bhe K) (gC (Bow K) (gC (Box K) gN))) [15,16]) (Anh K)
def Azt (K:Nat)(a0:C4)(a1:Am):Option (Int×Int):=(bif ((a1.Bk==0)&&((a1.C8==0)&&true))then some ((-1),0)else((Anh K a0 a1).bind fun r1=>some (r1.1,r1.2)))
def Bun:=ct (fd Tryz.func288 ⟨[.v 32,.v 36],[.v 3,.v 3],true⟩ (gC (A8e K) gN)) (Azt K)
def Av4 (K:Nat)(a0:List As)(a1:Int):Option (Int):=((Axf K a0 a1).bind fun r1=>some (r1.length:Int))
def Boy:=ct (fd Tryz.func221 ⟨[.v 29,.v 3],[.v 3],true⟩ (gC (Bhb K) gN)) (Av4 K)
def Aox (K:Nat)(a0:C4)(a1:Am):Option (Int):=((Auz K a0.fL a1).bind fun r1=>((Av4 K a0.fL r1).bind fun r2=>some r2))
def A6k:=ct (fd Tryz.func133 ⟨[.v 32,.v 36],[.v 3],true⟩ (gC (Box K) (gC (Boy K) gN))) (Aox K)
def Am7 (K:Nat)(v2:Int)(v3:Int)(v4:Int)(v5:Int)(v6:Int)(v7:Int)(v8:Int)(v9:List Int)(v10:List Int)(v11:List Int)(v12:List As)(v13:List Az)(v14:List Int)(C1:Int->Int->Int->Int->Int->Int->Int->Int->(List Int)->(List Int)->(List Int)->(List As)->(List Az)->(List Int)->Option (Int))(v15:Int):Option (Int):=(C1 v15 (An3 .i64 v2 1) v3 v4 v5 v6 v7 v8 v9 v10 v11 v12 v13 v14)
def Ail (K:Nat):Nat->Int->Int->Int->Int->Int->Int->Int->Int->(List Int)->(List Int)->(List Int)->(List As)->(List Az)->(List Int)->Option (Int)
 |0,_,_,_,_,_,_,_,_,_,_,_,_,_,_=>none
 |n1+1,v1,v2,v3,v4,v5,v6,v7,v8,v9,v10,v11,v12,v13,v14=>(bif (decide (v2<(v12.length:Int)))then(if(0:Int)≤v2∧v2<(v12.length:Int)then(bif (((gt v12 v2).Vg)==0)then(Am7 K v2 v3 v4 v5 v6 v7 v8 v9 v10 v11 v12 v13 v14 (Ail K n1) (An3 .i64 v1 1))else((Avk K v12 v2).bind fun r16=>(bif r16 then(Am7 K v2 v3 v4 v5 v6 v7 v8 v9 v10 v11 v12 v13 v14 (Ail K n1) v1)else(if(0:Int)≤v2∧v2<(v12.length:Int)then(bif (((gt v12 v2).Vg) != 3)then(if(0:Int)≤v2∧v2<(v12.length:Int)then(bif (decide (((gt v12 v2).C8)<v8))then(Am7 K v2 v3 v4 v5 v6 v7 v8 v9 v10 v11 v12 v13 v14 (Ail K n1) (An3 .i64 v1 1))else(Am7 K v2 v3 v4 v5 v6 v7 v8 v9 v10 v11 v12 v13 v14 (Ail K n1) v1))else none)else(Am7 K v2 v3 v4 v5 v6 v7 v8 v9 v10 v11 v12 v13 v14 (Ail K n1) v1))else none))))else none)else some v1)
def Azn (K:Nat)(a0:C4):Option (Int):=(Ail K K 0 0 a0.fC.Ay a0.fC.G6 a0.fC.E5 a0.fC.Gs a0.fC.E6 a0.fC.G7 a0.fP.N5 a0.fP.Vg a0.fP.N6 a0.fL a0.fQ a0.Acw)
def Bqm:=fd Tryz.func289 ⟨[.v 32],[.v 3],true⟩ (gC (Bhe K) gN) [18,19,23,24,25,32,33,34] [233]
def Bmi:Ei:=⟨[(1,.p 101),(3,.v 2),(4,.v 2)],[(101,.box [.v 2,.v 2,.v 2,.v 2,.v 2,.v 2,.v 22,.v 26,.v 26,.v 29,.v 30,.v 26])]⟩
def Bhh:=fun(C58:CT Bmi _)=>jn (Bqm K) 233 Bmi [(58,ar Bmi C58)] (fun a b c d e f g h i j k l m o=>Am7 K b c d e f g h i j k l m o C58 a) kN
def Bmj:=lp (Bqm K) 58 Bmi [] (Ail K) (fun n=>(kC (Bhh K _) kN))
def Buo:=ct (Bqm K) (Azn K) (kC (Bmj K K) kN)
def Ash (K:Nat)(v2:Int)(v3:List Int)(v4:List Int)(v5:List Int)(C1:(List Int)->Int->(List Int)->(List Int)->(List Int)->Option ((List Int)))(v6:List Int):Option ((List Int)):=(C1 v6 (An3 .i64 v2 1) v3 v4 v5)
def Alx (K:Nat)(a1:Int):Nat->(List Int)->Int->(List Int)->(List Int)->(List Int)->Option ((List Int))
 |0,_,_,_,_,_=>none
 |n1+1,v1,v2,v3,v4,v5=>(bif (decide (v2<(v4.length:Int)))then(bif (decide (v2<(v5.length:Int)))then(if(0:Int)≤v2∧v2<(v4.length:Int)then(bif ((gt v4 v2)==1)then(if(0:Int)≤v2∧v2<(v5.length:Int)then(bif ((gt v5 v2)==a1)then(if(v1++([v2]:List Int)).length*8≤140737488355328∧(v1++([v2]:List Int)).length≤maxLen then(Ash K v2 v3 v4 v5 (Alx K a1 n1) (v1++([v2]:List Int)))else none)else(Ash K v2 v3 v4 v5 (Alx K a1 n1) v1))else none)else(Ash K v2 v3 v4 v5 (Alx K a1 n1) v1))else none)else some v1)else some v1)
def Au0 (K:Nat)(a0:Dm)(a1:Int):Option ((List Int)):=(Alx K a1 K ([]:List Int) 0 a0.N5 a0.Vg a0.N6)
def Bqn:=fd Tryz.func115 ⟨[.v 28,.v 3],[.n 26 true],true⟩ gN [12,13,27,28] [233]
def Bmk:Ei:=⟨[(1,.v 2),(2,.p 102),(5,.o 1005 3 true),(6,.v 2)],[(102,.box [.v 22,.v 26,.v 26])]⟩
def Bhi:=fun(C58:CT Bmk _)=>jn Bqn 233 Bmk [(58,ar Bmk C58)] (fun a b c d e f=>Ash K c d e f (C58 a) b) kN
def Bml:=lp Bqn 58 Bmk [] (fun n a=>Alx K a n) (fun n=>(kC (Bhi K _) kN))
def Boz:=ct Bqn (Au0 K) (kC (Bml K K) kN)
def Ap7 (K:Nat)(r1:(List Int)):Nat->Int->Int->Int->Int->Int->Int->Int->Int->(List Int)->(List Int)->(List Int)->(List As)->(List Az)->(List Int)->Option (Int)
 |0,_,_,_,_,_,_,_,_,_,_,_,_,_,_=>none
 |n1+1,v2,v3,v4,v5,v6,v7,v8,v9,v10,v11,v12,v13,v14,v15=>(bif (decide (v3<(r1.length:Int)))then(if(0:Int)≤v3∧v3<(r1.length:Int)then((Au0 K (Dm.mk v10 v11 v12) (gt r1 v3)).bind fun r16=>(Ap7 K r1 n1 (An3 .i64 v2 (r16.length:Int)) (An3 .i64 v3 1) v4 v5 v6 v7 v8 v9 v10 v11 v12 v13 v14 v15))else none)else some v2)
def Azo (K:Nat)(a0:C4):Option (Int):=((Axo K a0).bind fun r1=>(Ap7 K r1 K 0 0 a0.fC.Ay a0.fC.G6 a0.fC.E5 a0.fC.Gs a0.fC.E6 a0.fC.G7 a0.fP.N5 a0.fP.Vg a0.fP.N6 a0.fL a0.fQ a0.Acw))
def Bup:=fd Tryz.func33 ⟨[.v 32],[.v 3],true⟩ (gC (Bor K) (gC (Boz K) gN))
def Bxs:Ei:=⟨[(1,.p 101),(3,.v 2),(4,.v 26),(5,.v 2)],[(101,.box [.v 2,.v 2,.v 2,.v 2,.v 2,.v 2,.v 22,.v 26,.v 26,.v 29,.v 30,.v 26])]⟩
def Bhj:=lp (Bup K) 122 Bxs [] (fun n a b=>Ap7 K b n a) (fun n=>kN)
def Buq:=ct (Bup K) (Azo K) (kC (Bhj K K) kN)
def Ari (K:Nat)(a0:C4)(a1:Int):Option (Bool):=(bif (decide (a1≥0))then(bif (decide (a1≤a0.fC.Ay))then((Azo K a0).bind fun r1=>some (decide (r1≤(An4 .i64 a0.fC.Ay a1))))else some false)else some false)
def Bhk:=ct (fd Tryz.func29 ⟨[.v 32,.v 3],[.v 4],true⟩ (gC (Buq K) gN) [6,7,12,13,14]) (Ari K)
def Ar6 (K:Nat)(v2:Int)(C1:Int->Int->Option (Int))(v3:Int):Option (Int):=(C1 v3 (An3 .i64 v2 1))
def Aku (K:Nat)(a0:List As)(a1:Int):Nat->Int->Int->Option (Int)
 |0,_,_=>none
 |n1+1,v1,v2=>(bif (decide (v2<(a0.length:Int)))then(if(0:Int)≤v2∧v2<(a0.length:Int)then(bif (((gt a0 v2).Vg)==a1)then(Ar6 K v2 (Aku K a0 a1 n1) (An3 .i64 v1 1))else(Ar6 K v2 (Aku K a0 a1 n1) v1))else none)else some v1)
def Ap8 (K:Nat)(a0:List As)(a1:Int):Option (Int):=(Aku K a0 a1 K 0 0)
def Bqo:=fd Tryz.func202 ⟨[.v 29,.v 3],[.v 3],true⟩ gN [] [233]
def Bmm:Ei:=⟨[(0,.v 29),(1,.v 2),(5,.v 2),(6,.v 2)],[]⟩
def Bhl:=fun(C58:CT Bmm _)=>jn Bqo 233 Bmm [(58,ar Bmm C58)] (fun a b c d=>Ar6 K d (C58 a b) c) kN
def Bmn:=lp Bqo 58 Bmm [] (fun n a b=>Aku K a b n) (fun n=>(kC (Bhl K _) kN))
def Bo0:=ct Bqo (Ap8 K) (kC (Bmn K K) kN)
def Arj (K:Nat)(a1:Int)(a2:Int):Nat->Int->(List Int)->(List Int)->(List Int)->Option (Bool)
 |0,_,_,_,_=>none
 |n1+1,v1,v2,v3,v4=>(bif (decide (v1<(An3 .i64 a1 a2)))then(if(0:Int)≤v1∧v1<(v3.length:Int)then(bif ((gt v3 v1) != 0)then some false else(Arj K a1 a2 n1 (An3 .i64 v1 1) v2 v3 v4))else none)else some true)
def Av5 (K:Nat)(a0:Dm)(a1:Int)(a2:Int):Option (Bool):=(bif (decide (a1<0))then some false else(bif (decide (a2<1))then some false else(bif (decide (a1>(a0.Vg.length:Int)))then some false else(bif (decide (a2>(An4 .i64 (a0.Vg.length:Int) a1)))then some false else(Arj K a1 a2 K a1 a0.N5 a0.Vg a0.N6)))))
def Bur:=fd Tryz.func311 ⟨[.v 28,.v 3,.v 3],[.v 4],true⟩ gN [9,10,12,13,14,19,20,21]
def Bxt:Ei:=⟨[(1,.v 2),(2,.v 2),(3,.p 103),(7,.v 2)],[(103,.box [.v 22,.v 26,.v 26])]⟩
def Bmo:=lp Bur 58 Bxt [] (fun n a b=>Arj K a b n) (fun n=>kN)
def Bo1:=ct Bur (Av5 K) (kC (Bmo K K) kN)
def Ars (K:Nat)(a1:Int):Nat->Int->(List Int)->(List Int)->(List Int)->Option (Int)
 |0,_,_,_,_=>none
 |n1+1,v1,v2,v3,v4=>(bif (decide (v1<(v3.length:Int)))then((Av5 K (Dm.mk v2 v3 v4) v1 a1).bind fun r5=>(bif r5 then some v1 else(Ars K a1 n1 (An3 .i64 v1 1) v2 v3 v4)))else some (-1))
def Awk (K:Nat)(a0:Dm)(a1:Int):Option (Int):=(Ars K a1 K 0 a0.N5 a0.Vg a0.N6)
def Bus:=fd Tryz.func310 ⟨[.v 28,.v 3],[.v 3],true⟩ (gC (Bo1 K) gN)
def Bxu:Ei:=⟨[(1,.v 2),(2,.p 102),(5,.v 2)],[(102,.box [.v 22,.v 26,.v 26])]⟩
def Bmp:=lp (Bus K) 26 Bxu [] (fun n a=>Ars K a n) (fun n=>kN)
def Bo2:=ct (Bus K) (Awk K) (kC (Bmp K K) kN)
def A1g (K:Nat)(a0:Az):Option (Int):=(bif (decide ((a0.Fh.length:Int)>0))then some 1 else(bif (decide ((a0.Ay.length:Int)>0))then some 2 else(bif (a0.Ee != 0)then some 3 else some 4)))
def But:=ct (fd Tryz.func249 ⟨[.v 52],[.v 3],true⟩ gN) (A1g K)
def Ayz (K:Nat)(a0:C4):Option (C4):=(if(0:Int)≤0∧0<(a0.fQ.length:Int)then(if(0:Int)≤(An4 .i64 (((gt a0.fQ 0).Fh).length:Int) 1)∧(An4 .i64 (((gt a0.fQ 0).Fh).length:Int) 1)<(((gt a0.fQ 0).Fh).length:Int)then(if(a0.Acw++([(gt ((gt a0.fQ 0).Fh) (An4 .i64 (((gt a0.fQ 0).Fh).length:Int) 1))]:List Int)).length*8≤140737488355328∧(a0.Acw++([(gt ((gt a0.fQ 0).Fh) (An4 .i64 (((gt a0.fQ 0).Fh).length:Int) 1))]:List Int)).length≤maxLen then(if(0:Int)≤0∧0≤(An4 .i64 (((gt a0.fQ 0).Fh).length:Int) 1)∧(An4 .i64 (((gt a0.fQ 0).Fh).length:Int) 1)≤(((gt a0.fQ 0).Fh).length:Int)then(if(([]:List Int)++((((gt a0.fQ 0).Fh).drop (0:Int).toNat).take ((An4 .i64 (((gt a0.fQ 0).Fh).length:Int) 1) - 0).toNat)).length*8≤140737488355328∧(([]:List Int)++((((gt a0.fQ 0).Fh).drop (0:Int).toNat).take ((An4 .i64 (((gt a0.fQ 0).Fh).length:Int) 1) - 0).toNat)).length≤maxLen then some (C4.mk a0.fC a0.fP a0.fL (a0.fQ.set (0:Int).toNat (Az.mk ((gt a0.fQ 0).Bk) ((gt a0.fQ 0).Ee) (([]:List Int)++((((gt a0.fQ 0).Fh).drop (0:Int).toNat).take ((An4 .i64 (((gt a0.fQ 0).Fh).length:Int) 1) - 0).toNat)) ((gt a0.fQ 0).Ay) ((gt a0.fQ 0).Wv))) (a0.Acw++([(gt ((gt a0.fQ 0).Fh) (An4 .i64 (((gt a0.fQ 0).Fh).length:Int) 1))]:List Int)))else none)else none)else none)else none)else none)
def Buu:=ct (fd Tryz.func250 ⟨[.b 32 false],[],false⟩ gN [] [] [(0,[.take 1 10 5026]),(2,[.take 1 11 5027])]) (Ayz K)
def Aqt (K:Nat)(a0:Dm):Option (Dm):=(if(([]:List Int)++a0.N5).length*1≤140737488355328∧(([]:List Int)++a0.N5).length≤maxLen then(if(([]:List Int)++a0.Vg).length*8≤140737488355328∧(([]:List Int)++a0.Vg).length≤maxLen then(if(([]:List Int)++a0.N6).length*8≤140737488355328∧(([]:List Int)++a0.N6).length≤maxLen then some (Dm.mk (([]:List Int)++a0.N5) (([]:List Int)++a0.Vg) (([]:List Int)++a0.N6))else none)else none)else none)
def Bd4:=ct (fd Tryz.func157 ⟨[.v 28],[.n 28 true],true⟩ gN) (Aqt K)
def Ark (K:Nat)(a0:List Int):Nat->Int->Option (Bool)
 |0,_=>none
 |n1+1,v1=>(bif (decide (v1<(a0.length:Int)))then(if(0:Int)≤v1∧v1<(a0.length:Int)then(bif ((gt a0 v1) != 0)then some false else(Ark K a0 n1 (An3 .i64 v1 1)))else none)else some true)
def Ar4 (K:Nat)(a0:List Int):Option (Bool):=(Ark K a0 K 0)
def Buv:=fd Tryz.func192 ⟨[.v 22],[.v 4],true⟩ gN
def Bxv:Ei:=⟨[(0,.v 22),(3,.v 2)],[]⟩
def Bmq:=lp Buv 26 Bxv [] (fun n a=>Ark K a n) (fun n=>kN)
def Bd5:=ct Buv (Ar4 K) (kC (Bmq K K) kN)
def Awl (K:Nat)(v3:Int)(v4:List Int)(v5:List Int)(v6:List Int)(C1:Int->(List Int)->(List Int)->(List Int)->Option (Bool)):Option (Bool):=(C1 (An3 .i64 v3 1) v4 v5 v6)
def Arl (K:Nat)(a0:D9)(v3:Int)(v4:List Int)(v5:List Int)(v6:List Int)(C1:Int->(List Int)->(List Int)->(List Int)->Option (Bool)):Option (Bool):=(if(0:Int)≤v3∧v3<(v5.length:Int)then(bif ((gt v5 v3)==0)then(if(0:Int)≤(An5 .i64 v3 a0.G6)∧(An5 .i64 v3 a0.G6)≤(An5 .i64 (An3 .i64 v3 1) a0.G6)∧(An5 .i64 (An3 .i64 v3 1) a0.G6)≤(v4.length:Int)then((Ar4 K ((v4.drop (An5 .i64 v3 a0.G6).toNat).take ((An5 .i64 (An3 .i64 v3 1) a0.G6) - (An5 .i64 v3 a0.G6)).toNat)).bind fun r9=>(bif (!r9)then some false else(Awl K v3 v4 v5 v6 (C1))))else none)else(Awl K v3 v4 v5 v6 (C1)))else none)
def Alu (K:Nat)(a0:D9):Nat->Int->(List Int)->(List Int)->(List Int)->Option (Bool)
 |0,_,_,_,_=>none
 |n1+1,v3,v4,v5,v6=>(bif (decide (v3<a0.Ay))then(if(0:Int)≤v3∧v3<(v5.length:Int)then((Gx K (gt v5 v3) 0 2).bind fun r7=>(bif (!r7)then some false else(if(0:Int)≤v3∧v3<(v5.length:Int)then(bif ((gt v5 v3)==1)then(if(0:Int)≤v3∧v3<(v6.length:Int)then((Gx K (gt v6 v3) 0 (An4 .i64 a0.E5 1)).bind fun r8=>(bif r8 then(if(0:Int)≤v3∧v3<(v5.length:Int)then(bif ((gt v5 v3) != 1)then(if(0:Int)≤v3∧v3<(v6.length:Int)then(bif ((gt v6 v3) != (-1))then some false else(Arl K a0 v3 v4 v5 v6 (Alu K a0 n1)))else none)else(Arl K a0 v3 v4 v5 v6 (Alu K a0 n1)))else none)else some false))else none)else(if(0:Int)≤v3∧v3<(v5.length:Int)then(bif ((gt v5 v3) != 1)then(if(0:Int)≤v3∧v3<(v6.length:Int)then(bif ((gt v6 v3) != (-1))then some false else(Arl K a0 v3 v4 v5 v6 (Alu K a0 n1)))else none)else(Arl K a0 v3 v4 v5 v6 (Alu K a0 n1)))else none))else none)))else none)else some true)
def Av6 (K:Nat)(a0:D9)(a1:Dm):Option (Bool):=((Anc K a0).bind fun r1=>(bif r1 then((Aq3 K a0).bind fun r2=>(bif ((a1.N5.length:Int) != r2)then some false else(bif ((a1.Vg.length:Int) != a0.Ay)then some false else(bif ((a1.N6.length:Int) != a0.Ay)then some false else(Alu K a0 K 0 a1.N5 a1.Vg a1.N6)))))else some false))
def Bmr:=fd Tryz.func98 ⟨[.v 25,.v 28],[.v 4],true⟩ (gC (Bal K) (gC (A02 K) (gC (Bmc K) (gC (Bd5 K) gN)))) [7,8,9,15,16,17,23,24,25,51,52,61,62,63,64,70,71,85,86] [233,1865]
def Bci:Ei:=⟨[(2,.p 102),(3,.p 103),(5,.v 2)],[(103,.box [.v 22,.v 26,.v 26]),(102,.st 25 true)]⟩
def Bhm:=fun(C58:CT Bci _)=>jn (Bmr K) 233 Bci [(58,ar Bci C58)] (fun a b c d e=>Awl K a b c d (fun v3 v4 v5 v6=>C58 v3 v4 v5 v6 e)) kN
def Bfb:=fun(C58:CT Bci _)=>jn (Bmr K) 1865 Bci [(58,ar Bci C58)] (fun a b c d e=>Arl K e a b c d (fun v3 v4 v5 v6=>C58 v3 v4 v5 v6 e)) (kC (Bhm K _) kN)
def Bms:=lp (Bmr K) 58 Bci [] (fun n a b c d e=>Alu K e n a b c d) (fun n=>(kC (Bfb K _) kN))
def Bo3:=ct (Bmr K) (Av6 K) (kC (Bms K K) kN)
def Azu (K:Nat)(a0:Int)(a1:Int):Option (Int):=(bif (decide (a1<a0))then some a1 else some a0)
def Buw:=ct (fd Tryz.func306 ⟨[.v 3,.v 3],[.v 3],true⟩ gN) (Azu K)
def Av7 (K:Nat)(a0:List Int)(a1:Int)(a2:Int):Nat->(List Int)->Int->Option ((List Int))
 |0,_,_=>none
 |n1+1,v1,v2=>(bif (decide (v2<(a0.length:Int)))then(bif (decide ((An4 .i64 v2 a1)<a2))then(if(0:Int)≤v2∧v2<(v1.length:Int)then(Av7 K a0 a1 a2 n1 (v1.set v2.toNat 0) (An3 .i64 v2 1))else none)else some v1)else some v1)
def A04 (K:Nat)(a0:List Int)(a1:Int)(a2:Int):Option ((List Int)):=(if(([]:List Int)++a0).length*1≤140737488355328∧(([]:List Int)++a0).length≤maxLen then(bif (decide (a1<0))then some (([]:List Int)++a0)else(bif (decide (a2<0))then some (([]:List Int)++a0)else(Av7 K a0 a1 a2 K (([]:List Int)++a0) a1)))else none)
def Bux:=fd Tryz.func307 ⟨[.v 22,.v 3,.v 3],[.n 22 true],true⟩ gN [13,14,23,24]
def Bxw:Ei:=⟨[(0,.v 22),(1,.v 2),(2,.v 2),(7,.o 1007 5 true),(8,.v 2)],[]⟩
def Bhn:=lp Bux 122 Bxw [] (fun n a b c=>Av7 K a b c n) (fun n=>kN)
def Buy:=ct Bux (A04 K) (kC (Bhn K K) kN)
def Awm (K:Nat)(a0:D9)(a1:Dm)(a2:Int)(a3:Int):Option (Dm×Bool):=((Aqt K a1).bind fun r1=>((Av6 K a0 a1).bind fun r2=>(bif r2 then((Gx K a2 0 (An4 .i64 a0.Ay 1)).bind fun r3=>(bif r3 then(if(0:Int)≤a2∧a2<(a1.Vg.length:Int)then(bif ((gt a1.Vg a2) != 2)then some (r1,false)else((Gx K a3 0 (An4 .i64 a0.G6 1)).bind fun r4=>(bif (!r4)then some (r1,false)else((Azu K (An3 .i64 a3 a0.E6) a0.G6).bind fun r5=>((A04 K a1.N5 (An3 .i64 (An5 .i64 a2 a0.G6) a3) (An4 .i64 r5 a3)).bind fun r6=>(bif (decide (r5<a0.G6))then some ((Dm.mk r6 r1.Vg r1.N6),false)else(if(0:Int)≤(An5 .i64 a2 a0.G6)∧(An5 .i64 a2 a0.G6)≤(An5 .i64 (An3 .i64 a2 1) a0.G6)∧(An5 .i64 (An3 .i64 a2 1) a0.G6)≤(r6.length:Int)then((Ar4 K ((r6.drop (An5 .i64 a2 a0.G6).toNat).take ((An5 .i64 (An3 .i64 a2 1) a0.G6) - (An5 .i64 a2 a0.G6)).toNat)).bind fun r7=>(bif (!r7)then((Aqt K a1).bind fun r8=>some (r8,false))else(if(0:Int)≤a2∧a2<(r1.Vg.length:Int)then some ((Dm.mk r6 (r1.Vg.set a2.toNat 0) r1.N6),true)else none)))else none)))))))else none)else some (r1,false)))else some (r1,false))))
def Buz:=ct (fd Tryz.func284 ⟨[.v 25,.v 28,.v 3,.v 3],[.n 28 true,.v 4],true⟩ (gC (Bo3 K) (gC (A02 K) (gC (Bd4 K) (gC (Bd5 K) (gC (Buw K) (gC (Buy K) gN)))))) [16,17,18,23,24,25,26,32,33,34]) (Awm K)
def Axq (K:Nat)(a0:C4):Option (C4):=(if(0:Int)≤0∧0<(a0.fQ.length:Int)then(if(0:Int)≤0∧0<(((gt a0.fQ 0).Ay).length:Int)then((Awm K a0.fC a0.fP (gt ((gt a0.fQ 0).Ay) 0) ((gt a0.fQ 0).Wv)).bind fun r1=>(bif r1.2 then(if(0:Int)≤1∧1≤(((gt a0.fQ 0).Ay).length:Int)∧(((gt a0.fQ 0).Ay).length:Int)≤(((gt a0.fQ 0).Ay).length:Int)then(if(([]:List Int)++((((gt a0.fQ 0).Ay).drop (1:Int).toNat).take ((((gt a0.fQ 0).Ay).length:Int) - 1).toNat)).length*8≤140737488355328∧(([]:List Int)++((((gt a0.fQ 0).Ay).drop (1:Int).toNat).take ((((gt a0.fQ 0).Ay).length:Int) - 1).toNat)).length≤maxLen then some (C4.mk a0.fC r1.1 a0.fL (a0.fQ.set (0:Int).toNat (Az.mk ((gt a0.fQ 0).Bk) ((gt a0.fQ 0).Ee) ((gt a0.fQ 0).Fh) (([]:List Int)++((((gt a0.fQ 0).Ay).drop (1:Int).toNat).take ((((gt a0.fQ 0).Ay).length:Int) - 1).toNat)) 0)) a0.Acw)else none)else none)else some (C4.mk a0.fC r1.1 a0.fL (a0.fQ.set (0:Int).toNat (Az.mk ((gt a0.fQ 0).Bk) ((gt a0.fQ 0).Ee) ((gt a0.fQ 0).Fh) ((gt a0.fQ 0).Ay) (An3 .i64 ((gt a0.fQ 0).Wv) a0.fC.E6))) a0.Acw)))else none)else none)
def Bu0:=ct (fd Tryz.func251 ⟨[.b 32 false],[],false⟩ (gC (Buz K) gN) [] [] [(0,[.take 1 10 5026]),(1,[.take 1 6 5022,.take 1 7 5023,.take 1 8 5024])]) (Axq K)
def Anf (K:Nat)(a0:As):Option (As):=(if(([]:List Int)++a0.Ay).length*8≤140737488355328∧(([]:List Int)++a0.Ay).length≤maxLen then(if(([]:List Bc)++a0.F4).length*24≤140737488355328∧(([]:List Bc)++a0.F4).length≤maxLen then(if(([]:List Int)++a0.Fh).length*8≤140737488355328∧(([]:List Int)++a0.Fh).length≤maxLen then some (As.mk a0.Vg a0.C8 a0.Sj a0.fUp a0.Sk a0.Ee a0.Sl a0.Sm (([]:List Int)++a0.Ay) a0.Acv a0.Sn (([]:List Bc)++a0.F4) (([]:List Int)++a0.Fh))else none)else none)else none)
def A8f:=ct (fd Tryz.func233 ⟨[.v 50],[.n 50 false],true⟩ gN) (Anf K)
def Asi (K:Nat)(v3:Dm)(v4:Dm):Option (Dm):=some v3
def Azv (K:Nat)(a0:Dm)(a1:Int):Option (Dm):=((Aqt K a0).bind fun r1=>((Gx K a1 0 (An4 .i64 (a0.Vg.length:Int) 1)).bind fun r2=>(bif r2 then(bif (decide (a1<(a0.N6.length:Int)))then(if(0:Int)≤a1∧a1<(a0.Vg.length:Int)then(bif ((gt a0.Vg a1)==1)then(if(0:Int)≤a1∧a1<(r1.Vg.length:Int)then(if(0:Int)≤a1∧a1<(r1.N6.length:Int)then(Asi K (Dm.mk r1.N5 (r1.Vg.set a1.toNat 2) (r1.N6.set a1.toNat (-1))) (Dm.mk [] [] []))else none)else none)else(Asi K r1 (Dm.mk [] [] [])))else none)else(Asi K r1 (Dm.mk [] [] [])))else(Asi K r1 (Dm.mk [] [] [])))))
def Bu1:=fd Tryz.func234 ⟨[.v 28,.v 3],[.n 28 true],true⟩ (gC (A02 K) (gC (Bd4 K) gN)) [13,14,19,20,21] [7] [(5,[.take 105 0 6680,.take 105 1 6681,.take 105 2 6682])]
def Bu2:Ei:=⟨[(4,.p 104),(5,.p 105)],[(105,.st 28 true),(104,.st 28 true)]⟩
def Bqp:=jn (Bu1 K) 7 Bu2 [] (Asi K) kN
def Bu3:=ct (Bu1 K) (Azv K) (kC (Bqp K) kN)
def Akm (K:Nat)(a1:List Int):Nat->Int->Int->Int->Int->Int->Int->Int->(List Int)->(List Int)->(List Int)->(List As)->(List Az)->(List Int)->Option (C4)
 |0,_,_,_,_,_,_,_,_,_,_,_,_,_=>none
 |n1+1,v1,v2,v3,v4,v5,v6,v7,v8,v9,v10,v11,v12,v13=>(bif (decide (v1<(a1.length:Int)))then(if(0:Int)≤v1∧v1<(a1.length:Int)then((Azv K (Dm.mk v8 v9 v10) (gt a1 v1)).bind fun r14=>(Akm K a1 n1 (An3 .i64 v1 1) v2 v3 v4 v5 v6 v7 r14.N5 r14.Vg r14.N6 v11 v12 v13))else none)else some (C4.mk (D9.mk v2 v3 v4 v5 v6 v7) (Dm.mk v8 v9 v10) v11 v12 v13))
def Aqu (K:Nat)(a0:C4)(a1:List Int):Option (C4):=(Akm K a1 K 0 a0.fC.Ay a0.fC.G6 a0.fC.E5 a0.fC.Gs a0.fC.E6 a0.fC.G7 a0.fP.N5 a0.fP.Vg a0.fP.N6 a0.fL a0.fQ a0.Acw)
def Bu4:=fd Tryz.func161 ⟨[.b 32 false,.v 26],[],false⟩ (gC (Bu3 K) gN) [] [] [(3,[.take 1 6 5022,.take 1 7 5023,.take 1 8 5024])]
def Bxx:Ei:=⟨[(0,.p 1),(1,.v 26),(4,.v 2)],[(1,.box [.v 2,.v 2,.v 2,.v 2,.v 2,.v 2,.T 5 true,.T 3 true,.T 3 true,.T 50 true,.T 52 false,.T 3 true])]⟩
def Bqq:=lp (Bu4 K) 6 Bxx [] (fun n a=>Akm K a n) (fun n=>kN)
def Bho:=ct (Bu4 K) (Aqu K) (kC (Bqq K K) kN)
def Azg (K:Nat)(a0:As):Option (As):=some (As.mk 2 a0.C8 0 0 0 0 0 0 [] 0 0 [] [])
def Bo4:=ct (fd Tryz.func163 ⟨[.v 50],[.n 50 false],true⟩ gN) (Azg K)
def Asj (K:Nat)(a0:As)(a1:Int):Option (Az):=(if(([]:List Int)++a0.Fh).length*8≤140737488355328∧(([]:List Int)++a0.Fh).length≤maxLen then(if(([]:List Int)++a0.Ay).length*8≤140737488355328∧(([]:List Int)++a0.Ay).length≤maxLen then some (Az.mk a1 a0.Ee (([]:List Int)++a0.Fh) (([]:List Int)++a0.Ay) 0)else none)else none)
def Bhp:=ct (fd Tryz.func160 ⟨[.v 50,.v 3],[.n 52 true],true⟩ gN) (Asj K)
def Azp (K:Nat)(a0:As)(a1:Int):Option (Az):=(if(([]:List Int)++a0.Fh).length*8≤140737488355328∧(([]:List Int)++a0.Fh).length≤maxLen then(if(([]:List Int)++a0.Ay).length*8≤140737488355328∧(([]:List Int)++a0.Ay).length≤maxLen then some (Az.mk a1 a0.Ee (([]:List Int)++a0.Fh) (([]:List Int)++a0.Ay) 0)else none)else none)
def Bu5:=ct (fd Tryz.func160 ⟨[.v 50,.v 3],[.v 52],false⟩ gN) (Azp K)
def Asl (K:Nat)(r1:As)(v4:Int)(v5:Int)(v6:Int)(v7:Int)(v8:Int)(v9:Int)(v10:Int)(v11:List Int)(v12:List Int)(v13:List Int)(v14:List As)(v15:List Az)(v16:List Int):Option (C4):=((Aqu K (C4.mk (D9.mk v5 v6 v7 v8 v9 v10) (Dm.mk v11 v12 v13) v14 v15 v16) r1.Ay).bind fun r17=>((Azg K r1).bind fun r18=>(if(0:Int)≤v4∧v4<(r17.fL.length:Int)then((Azp K r1 (An3 .i64 v4 1)).bind fun r19=>(if(([r19]:List Az)++r17.fQ).length*72≤140737488355328∧(([r19]:List Az)++r17.fQ).length≤maxLen then some (C4.mk r17.fC r17.fP (r17.fL.set v4.toNat r18) (([r19]:List Az)++r17.fQ) r17.Acw)else none))else none)))
def Axr (K:Nat)(a0:C4):Option (C4):=(if(0:Int)≤0∧0<(a0.fQ.length:Int)then(if(0:Int)≤(An4 .i64 ((gt a0.fQ 0).Ee) 1)∧(An4 .i64 ((gt a0.fQ 0).Ee) 1)<(a0.fL.length:Int)then(if(0:Int)≤(An4 .i64 ((gt a0.fQ 0).Ee) 1)∧(An4 .i64 ((gt a0.fQ 0).Ee) 1)<(a0.fL.length:Int)then((Anf K (gt a0.fL (An4 .i64 ((gt a0.fQ 0).Ee) 1))).bind fun r1=>(if(0:Int)≤0∧0<(a0.fQ.length:Int)then((Ad6 K a0.fL r1.Sl).bind fun r2=>(bif r2 then(if(0:Int)≤(An4 .i64 r1.Sl 1)∧(An4 .i64 r1.Sl 1)<(a0.fL.length:Int)then(Aqh (a0.fL.set (An4 .i64 r1.Sl 1).toNat (As.mk ((gt a0.fL (An4 .i64 r1.Sl 1)).Vg) ((gt a0.fL (An4 .i64 r1.Sl 1)).C8) ((gt a0.fL (An4 .i64 r1.Sl 1)).Sj) ((gt a0.fL (An4 .i64 r1.Sl 1)).fUp) ((gt a0.fL (An4 .i64 r1.Sl 1)).Sk) ((gt a0.fL (An4 .i64 r1.Sl 1)).Ee) ((gt a0.fL (An4 .i64 r1.Sl 1)).Sl) 0 ((gt a0.fL (An4 .i64 r1.Sl 1)).Ay) ((gt a0.fL (An4 .i64 r1.Sl 1)).Acv) ((gt a0.fL (An4 .i64 r1.Sl 1)).Sn) ((gt a0.fL (An4 .i64 r1.Sl 1)).F4) ((gt a0.fL (An4 .i64 r1.Sl 1)).Fh))) fun v3=>(Asl K r1 (An4 .i64 ((gt a0.fQ 0).Ee) 1) a0.fC.Ay a0.fC.G6 a0.fC.E5 a0.fC.Gs a0.fC.E6 a0.fC.G7 a0.fP.N5 a0.fP.Vg a0.fP.N6 v3 (a0.fQ.set (0:Int).toNat (Az.mk ((gt a0.fQ 0).Bk) r1.Sl ((gt a0.fQ 0).Fh) ((gt a0.fQ 0).Ay) ((gt a0.fQ 0).Wv))) a0.Acw))else none)else(Asl K r1 (An4 .i64 ((gt a0.fQ 0).Ee) 1) a0.fC.Ay a0.fC.G6 a0.fC.E5 a0.fC.Gs a0.fC.E6 a0.fC.G7 a0.fP.N5 a0.fP.Vg a0.fP.N6 a0.fL (a0.fQ.set (0:Int).toNat (Az.mk ((gt a0.fQ 0).Bk) r1.Sl ((gt a0.fQ 0).Fh) ((gt a0.fQ 0).Ay) ((gt a0.fQ 0).Wv))) a0.Acw)))else none))else none)else none)else none)
def Bu6:=fo Tryz.func252 ⟨[.b 32 false],[],false⟩ (gC (Bho K) (gC (Bo4 K) (gC (A5i K) (gC (A8f K) gN)))) (oC (d:=60) (gC (Bu5 K) gN) oN) [] [15] [(0,[.take 1 10 5026]),(1,[.take 1 9 5025,.opn 5025 (.tmp 2),.takeE 5025 11 41611,.takeE 5025 12 41612]),(3,[.put 5025]),(5,[.take 103 8 6656,.frz 6656]),(6,[.take 1 9 5025,.take 103 11 6659,.take 103 12 6660]),(7,[.take 1 10 5026,.frz 6659,.frz 6660])]
def Bxy:Ei:=⟨[(0,.p 1),(2,.v 2),(3,.p 103)],[(1,.box [.v 2,.v 2,.v 2,.v 2,.v 2,.v 2,.T 5 true,.T 3 true,.T 3 true,.T 50 true,.T 52 false,.T 3 true]),(103,.st 50 false)]⟩
def Bmt:=jn (Bu6 K) 15 Bxy [] (fun a b c d e f g h i j k l m o=>Asl K o a b c d e f g h i j k l m) kN
def Bu7:=ct (Bu6 K) (Axr K) (kC (Bmt K) kN)
def Aq4 (K:Nat)(a0:List As):Nat->(List As)->Int->Option ((List As))
 |0,_,_=>none
 |n1+1,v1,v2=>(bif (decide (v2<(a0.length:Int)))then(if(0:Int)≤v2∧v2<(a0.length:Int)then((Anf K (gt a0 v2)).bind fun r3=>(if(v1++[r3]).length*152≤140737488355328∧(v1++[r3]).length≤maxLen then(Aq4 K a0 n1 (v1++[r3]) (An3 .i64 v2 1))else none))else none)else some v1)
def Ato (K:Nat)(a0:List As):Option ((List As)):=(Aq4 K a0 K ([]:List As) 0)
def Bu8:=fd Tryz.func158 ⟨[.v 29],[.n 29 true],false⟩ (gC (A8f K) gN) (post:=[(20,[.put 3020])])
def Bxz:Ei:=⟨[(0,.v 29),(3,.o 1003 50 true),(4,.v 2)],[]⟩
def Bmu:=lp (Bu8 K) 58 Bxz [] (fun n a=>Aq4 K a n) (fun n=>kN)
def Bd6:=ct (Bu8 K) (Ato K) (kC (Bmu K K) kN)
def Axs (K:Nat)(v3:List As):Option ((List As)):=some v3
def Azw (K:Nat)(a0:List As)(a1:Int)(a2:Int):Option ((List As)):=((Ato K a0).bind fun r1=>((Gx K a1 0 (An4 .i64 (a0.length:Int) 1)).bind fun r2=>(bif (!r2)then some r1 else(if(0:Int)≤a1∧a1<(a0.length:Int)then(bif (decide (((gt a0 a1).C8)≥a2))then(if(0:Int)≤a1∧a1<(r1.length:Int)then(if(0:Int)≤a1∧a1<(a0.length:Int)then(if(0:Int)≤a1∧a1<(r1.length:Int)then(Axs K (r1.set a1.toNat (As.mk 3 ((gt a0 a1).C8) 0 0 0 0 0 0 [] 0 0 [] [])))else none)else none)else none)else(if(0:Int)≤a1∧a1<(a0.length:Int)then((Ak1 K (An3 .i64 ((gt a0 a1).C8) 1)).bind fun r4=>(if(0:Int)≤a1∧a1<(r1.length:Int)then(Axs K (r1.set a1.toNat r4))else none))else none))else none))))
def Bu9:=fd Tryz.func253 ⟨[.v 29,.v 3,.v 3],[.n 29 true],false⟩ (gC (A02 K) (gC (Bd6 K) (gC (Bam K) gN))) [] [15] [(5,[.opn 1007 (.tmp 1)])]
def Bva:Ei:=⟨[(7,.o 1007 50 true)],[]⟩
def Bmv:=jn (Bu9 K) 15 Bva [] (Axs K) kN
def Bvb:=ct (Bu9 K) (Azw K) (kC (Bmv K) kN)
def Asm (K:Nat)(v6:Int)(v7:Int)(v8:Int)(v9:Int)(v10:Int)(v11:Int)(v12:List Int)(v13:List Int)(v14:List Int)(v15:List As)(v16:List Az)(v17:List Int):Option (C4):=(if(0:Int)≤1∧1≤(v16.length:Int)∧(v16.length:Int)≤(v16.length:Int)then(if(([]:List Az)++((v16.drop (1:Int).toNat).take ((v16.length:Int) - 1).toNat)).length*72≤140737488355328∧(([]:List Az)++((v16.drop (1:Int).toNat).take ((v16.length:Int) - 1).toNat)).length≤maxLen then some (C4.mk (D9.mk v6 v7 v8 v9 v10 v11) (Dm.mk v12 v13 v14) v15 (([]:List Az)++((v16.drop (1:Int).toNat).take ((v16.length:Int) - 1).toNat)) v17)else none)else none)
def Au1 (K:Nat)(a0:C4):Option (C4):=(if(0:Int)≤0∧0<(a0.fQ.length:Int)then((A1g K (gt a0.fQ 0)).bind fun r1=>(bif (r1==1)then((Ayz K a0).bind fun r2=>some r2)else(bif (r1==2)then((Axq K a0).bind fun r3=>some r3)else(bif (r1==3)then((Axr K a0).bind fun r4=>some r4)else(if(0:Int)≤0∧0<(a0.fQ.length:Int)then(bif (((gt a0.fQ 0).Bk) != 0)then(if(0:Int)≤0∧0<(a0.fQ.length:Int)then((Azw K a0.fL (An4 .i64 ((gt a0.fQ 0).Bk) 1) a0.fC.G7).bind fun r5=>(Asm K a0.fC.Ay a0.fC.G6 a0.fC.E5 a0.fC.Gs a0.fC.E6 a0.fC.G7 a0.fP.N5 a0.fP.Vg a0.fP.N6 r5 a0.fQ a0.Acw))else none)else(Asm K a0.fC.Ay a0.fC.G6 a0.fC.E5 a0.fC.Gs a0.fC.E6 a0.fC.G7 a0.fP.N5 a0.fP.Vg a0.fP.N6 a0.fL a0.fQ a0.Acw))else none)))))else none)
def Bvc:=fd Tryz.func186 ⟨[.b 32 false],[],false⟩ (gC (But K) (gC (Buu K) (gC (Bu0 K) (gC (Bu7 K) (gC (Bvb K) gN))))) [] [447] [(0,[.take 1 10 5026]),(2,[.take 1 9 5025,.frz 5025]),(3,[.take 1 10 5026]),(5,[.put 1]),(7,[.put 1]),(9,[.put 1])] [(39,[.shal 3039])]
def Bx0:Ei:=⟨[(0,.p 1)],[(1,.box [.v 2,.v 2,.v 2,.v 2,.v 2,.v 2,.T 5 true,.T 3 true,.T 3 true,.T 50 true,.T 52 false,.T 3 true])]⟩
def Bhq:=jn (Bvc K) 447 Bx0 [] (Asm K) kN
def Bo5:=ct (Bvc K) (Au1 K) (kC (Bhq K) kN)
def Atx (K:Nat)(v1:Int)(v2:Int)(v3:Int)(v4:Int)(v5:Int)(v6:Int)(v7:Int)(v8:List Int)(v9:List Int)(v10:List Int)(v11:List As)(v12:List Az)(v13:List Int)(C1:Int->Int->Int->Int->Int->Int->Int->(List Int)->(List Int)->(List Int)->(List As)->(List Az)->(List Int)->Option (Int×C4)):Option (Int×C4):=((Au1 K (C4.mk (D9.mk v2 v3 v4 v5 v6 v7) (Dm.mk v8 v9 v10) v11 v12 v13)).bind fun r15=>(C1 (An3 .i64 v1 1) r15.fC.Ay r15.fC.G6 r15.fC.E5 r15.fC.Gs r15.fC.E6 r15.fC.G7 r15.fP.N5 r15.fP.Vg r15.fP.N6 r15.fL r15.fQ r15.Acw))
def Aqd (K:Nat)(a1:Int)(a2:Int):Nat->Int->Int->Int->Int->Int->Int->Int->(List Int)->(List Int)->(List Int)->(List As)->(List Az)->(List Int)->Option (Int×C4)
 |0,_,_,_,_,_,_,_,_,_,_,_,_,_=>none
 |n1+1,v1,v2,v3,v4,v5,v6,v7,v8,v9,v10,v11,v12,v13=>(bif (decide ((v12.length:Int)>0))then((Ap8 K v11 0).bind fun r14=>(bif (decide (r14<a1))then(Atx K v1 v2 v3 v4 v5 v6 v7 v8 v9 v10 v11 v12 v13 (Aqd K a1 a2 n1))else(bif (decide (a2>0))then((Awk K (Dm.mk v8 v9 v10) a2).bind fun r16=>(bif (decide (r16<0))then(Atx K v1 v2 v3 v4 v5 v6 v7 v8 v9 v10 v11 v12 v13 (Aqd K a1 a2 n1))else some (v1,(C4.mk (D9.mk v2 v3 v4 v5 v6 v7) (Dm.mk v8 v9 v10) v11 v12 v13))))else some (v1,(C4.mk (D9.mk v2 v3 v4 v5 v6 v7) (Dm.mk v8 v9 v10) v11 v12 v13)))))else some (v1,(C4.mk (D9.mk v2 v3 v4 v5 v6 v7) (Dm.mk v8 v9 v10) v11 v12 v13)))
def Av8 (K:Nat)(a0:C4)(a1:Int)(a2:Int):Option (Int×C4):=(Aqd K a1 a2 K 0 a0.fC.Ay a0.fC.G6 a0.fC.E5 a0.fC.Gs a0.fC.E6 a0.fC.G7 a0.fP.N5 a0.fP.Vg a0.fP.N6 a0.fL a0.fQ a0.Acw)
def Bqr:=fd Tryz.func290 ⟨[.b 32 false,.v 3,.v 3],[.v 3],false⟩ (gC (Bo5 K) (gC (Bo0 K) (gC (Bo2 K) gN))) [13,14,21,22,24,25] [56] [(2,[.take 1 10 5026,.take 1 9 5025,.take 1 6 5022,.take 1 7 5023,.take 1 8 5024])]
def Bmw:Ei:=⟨[(0,.p 1),(1,.v 2),(2,.v 2),(7,.v 2)],[(1,.box [.v 2,.v 2,.v 2,.v 2,.v 2,.v 2,.T 5 true,.T 3 true,.T 3 true,.T 50 true,.T 52 false,.T 3 true])]⟩
def Bmx:=fun(C28:CT Bmw _)=>jn (Bqr K) 56 Bmw [(28,ar Bmw C28)] (fun a b c d e f g h i j k l m o p=>Atx K c d e f g h i j k l m o p (C28 a b)) kN
def Bmy:=lp (Bqr K) 28 Bmw [] (fun n a b=>Aqd K a b n) (fun n=>(kC (Bmx K _) kN))
def Bhr:=ct (Bqr K) (Av8 K) (kC (Bmy K K) kN)
def Aq5 (K:Nat)(a0:List As):Nat->Int->Option (Int)
 |0,_=>none
 |n1+1,v1=>(bif (decide (v1<(a0.length:Int)))then(if(0:Int)≤v1∧v1<(a0.length:Int)then(bif (((gt a0 v1).Vg)==0)then some v1 else(Aq5 K a0 n1 (An3 .i64 v1 1)))else none)else some (-1))
def Ayq (K:Nat)(a0:List As):Option (Int):=(Aq5 K a0 K 0)
def Bvd:=fd Tryz.func291 ⟨[.v 29],[.v 3],true⟩ gN
def Bhs:Ei:=⟨[(0,.v 29),(3,.v 2)],[]⟩
def Bmz:=lp Bvd 26 Bhs [] (fun n a=>Aq5 K a n) (fun n=>kN)
def Bve:=ct Bvd (Ayq K) (kC (Bmz K K) kN)
def Aq6 (K:Nat):Nat->Int->(List Int)->(List Int)->(List Int)->Option (Int)
 |0,_,_,_,_=>none
 |n1+1,v1,v2,v3,v4=>(bif (decide (v1<(v3.length:Int)))then(if(0:Int)≤v1∧v1<(v3.length:Int)then(bif ((gt v3 v1)==0)then some v1 else(Aq6 K n1 (An3 .i64 v1 1) v2 v3 v4))else none)else some (-1))
def Avl (K:Nat)(a0:Dm):Option (Int):=(Aq6 K K 0 a0.N5 a0.Vg a0.N6)
def Bvf:=fd Tryz.func292 ⟨[.v 28],[.v 3],true⟩ gN
def Bx1:Ei:=⟨[(1,.p 101),(3,.v 2)],[(101,.box [.v 22,.v 26,.v 26])]⟩
def Bm0:=lp Bvf 26 Bx1 [] (Aq6 K) (fun n=>kN)
def Bo6:=ct Bvf (Avl K) (kC (Bm0 K K) kN)
def Asn (K:Nat)(a1:Int)(a2:Int)(a3:Int):Nat->Int->Dm->Dm->Option (Dm)
 |0,_,_,_=>none
 |n1+1,v3,v4,v5=>(bif (decide (v3<(An3 .i64 a1 a2)))then(if(0:Int)≤v3∧v3<(v4.Vg.length:Int)then(if(0:Int)≤v3∧v3<(v4.N6.length:Int)then(Asn K a1 a2 a3 n1 (An3 .i64 v3 1) (Dm.mk v4.N5 (v4.Vg.set v3.toNat 1) (v4.N6.set v3.toNat a3)) v5)else none)else none)else some v4)
def Aq7 (K:Nat)(a0:Dm)(a1:Int)(a2:Int)(a3:Int):Option (Dm):=((Aqt K a0).bind fun r1=>((Av5 K a0 a1 a2).bind fun r2=>(bif r2 then(bif ((a0.N6.length:Int) != (a0.Vg.length:Int))then some r1 else(Asn K a1 a2 a3 K a1 r1 (Dm.mk [] [] [])))else some r1)))
def Bvg:=fd Tryz.func293 ⟨[.v 28,.v 3,.v 3,.v 3],[.n 28 true],true⟩ (gC (Bd4 K) (gC (Bo1 K) gN)) [16,17,18] [] [(7,[.take 109 1 6745]),(8,[.take 109 2 6746]),(9,[.take 109 0 6744,.take 109 1 6745,.take 109 2 6746])]
def Bx2:Ei:=⟨[(1,.v 2),(2,.v 2),(3,.v 2),(8,.p 108),(9,.p 109),(10,.v 2)],[(109,.st 28 true),(108,.st 28 true)]⟩
def Bht:=lp (Bvg K) 122 Bx2 [] (fun n a b c=>Asn K a b c n) (fun n=>kN)
def Bhu:=ct (Bvg K) (Aq7 K) (kC (Bht K K) kN)
def A05 (K:Nat)(a0:As):Option (Bool):=(bif (a0.Sj==0)then(bif (a0.fUp==0)then(bif (a0.Sk==0)then(bif (a0.Ee==0)then(bif (a0.Sl==0)then(bif (a0.Sm==0)then(bif ((a0.Ay.length:Int)==0)then(bif (a0.Acv==0)then(bif (a0.Sn==0)then(bif ((a0.F4.length:Int)==0)then some ((a0.Fh.length:Int)==0)else some false)else some false)else some false)else some false)else some false)else some false)else some false)else some false)else some false)else some false)
def Bvh:=ct (fd Tryz.func194 ⟨[.v 50],[.v 4],true⟩ gN [5,6,9,10,11,14,15,16,19,20,21,24,25,26,29,30,31,35,36,37,40,41,42,45,46,47,51,52,53]) (A05 K)
def Au2 (K:Nat)(a0:List Int)(a1:Int):Nat->Int->Option (Bool)
 |0,_=>none
 |n1+1,v1=>(bif (decide (v1<(a0.length:Int)))then(if(0:Int)≤v1∧v1<(a0.length:Int)then(bif ((gt a0 v1)==a1)then some true else(Au2 K a0 a1 n1 (An3 .i64 v1 1)))else none)else some false)
def Ap0 (K:Nat)(a0:List Int)(a1:Int):Option (Bool):=(Au2 K a0 a1 K 0)
def Bvi:=fd Tryz.func122 ⟨[.v 26,.v 3],[.v 4],true⟩ gN
def Bx3:Ei:=⟨[(0,.v 26),(1,.v 2),(5,.v 2)],[]⟩
def Bm1:=lp Bvi 26 Bx3 [] (fun n a b=>Au2 K a b n) (fun n=>kN)
def Bap:=ct Bvi (Ap0 K) (kC (Bm1 K K) kN)
def Ao4 (K:Nat)(a0:D9):Nat->Int->Int->Int->Int->Int->Int->Int->Int->Int->(List Int)->Int->Int->(List Bc)->(List Int)->Option (Bool)
 |0,_,_,_,_,_,_,_,_,_,_,_,_,_,_=>none
 |n1+1,v1,v2,v3,v4,v5,v6,v7,v8,v9,v10,v11,v12,v13,v14=>(bif (decide (v1<(v10.length:Int)))then(if(0:Int)≤v1∧v1<(v10.length:Int)then((Gx K (gt v10 v1) 0 (An4 .i64 a0.Ay 1)).bind fun r15=>(bif r15 then(if(0:Int)≤0∧0≤v1∧v1≤(v10.length:Int)then(if(0:Int)≤v1∧v1<(v10.length:Int)then((Ap0 K ((v10.drop (0:Int).toNat).take (v1 - 0).toNat) (gt v10 v1)).bind fun r16=>(bif r16 then some false else(Ao4 K a0 n1 (An3 .i64 v1 1) v2 v3 v4 v5 v6 v7 v8 v9 v10 v11 v12 v13 v14)))else none)else none)else some false))else none)else(bif (v11==0)then some (v12==0)else((Ap0 K v10 (An4 .i64 v11 1)).bind fun r17=>(bif r17 then((Gx K v12 0 a0.G6).bind fun r18=>some r18)else some false))))
def Awn (K:Nat)(a0:D9)(a1:As):Option (Bool):=(Ao4 K a0 K 0 a1.Vg a1.C8 a1.Sj a1.fUp a1.Sk a1.Ee a1.Sl a1.Sm a1.Ay a1.Acv a1.Sn a1.F4 a1.Fh)
def Bvj:=fd Tryz.func195 ⟨[.v 25,.v 50],[.v 4],true⟩ (gC (A02 K) (gC (Bap K) gN)) [21,22,23,46,47]
def Bhv:Ei:=⟨[(2,.p 102),(3,.p 103),(5,.v 2)],[(103,.box [.v 2,.v 2,.v 2,.v 2,.v 2,.v 2,.v 2,.v 2,.v 26,.v 2,.v 2,.v 48,.v 26]),(102,.st 25 true)]⟩
def Bm2:=lp (Bvj K) 26 Bhv [] (fun n a b c d e f g h i j k l m o p=>Ao4 K p n a b c d e f g h i j k l m o) (fun n=>kN)
def Bvk:=ct (Bvj K) (Awn K) (kC (Bm2 K K) kN)
def Ao5 (K:Nat)(a0:D9)(a1:Int):Option (Bool):=some (decide (a1>a0.G6))
def Bhw:=ct (fd Tryz.func257 ⟨[.v 25,.v 3],[.v 4],true⟩ gN) (Ao5 K)
def Axt (K:Nat)(a0:Int)(a1:Int):Option (Int):=((Gx K a0 0 1000000000).bind fun r1=>(bif r1 then((Gx K a1 1 1000000000).bind fun r2=>(bif (!r2)then some 0 else(if a1≠(0:Int)then some (Ali .i64 (An4 .i64 (An3 .i64 a0 a1) 1) a1)else none)))else some 0))
def Bvl:=ct (fd Tryz.func287 ⟨[.v 3,.v 3],[.v 3],true⟩ (gC (A02 K) gN) [6,7,8]) (Axt K)
def Aly (K:Nat)(a0:D9)(a1:Int):Option (Int):=((Axt K a1 a0.G6).bind fun r1=>some r1)
def Bhx:=ct (fd Tryz.func258 ⟨[.v 25,.v 3],[.v 3],true⟩ (gC (Bvl K) gN)) (Aly K)
def Aso (K:Nat)(a0:D9)(a1:Bc):Option (Bool):=((Aq3 K a0).bind fun r1=>(bif (r1==0)then some false else(bif (decide (a1.Ajk<1))then some false else(bif (decide (a1.fAt<0))then some false else(bif (decide (a1.fAt>r1))then some false else(bif (decide (a1.Ajk>(An4 .i64 r1 a1.fAt)))then some false else(bif (a1.Ajl==0)then(bif (decide (a1.Ajk≤a0.G6))then(if a0.G6≠(0:Int)then(if a0.G6≠(0:Int)then some ((Ali .i64 a1.fAt a0.G6)==(Ali .i64 (An4 .i64 (An3 .i64 a1.fAt a1.Ajk) 1) a0.G6))else none)else none)else some false)else((Ao5 K a0 a1.Ajk).bind fun r2=>(bif r2 then((Aly K a0 a1.Ajk).bind fun r3=>(bif (a1.Ajl==r3)then(if a0.G6≠(0:Int)then some ((Int.tmod a1.fAt a0.G6)==0)else none)else some false))else some false)))))))))
def Bo7:=ct (fd Tryz.func196 ⟨[.v 25,.v 132],[.v 4],true⟩ (gC (Bmc K) (gC (Bhw K) (gC (Bhx K) gN))) [9,10,13,14,15,18,19,20,24,25,26,42,43,63,64,71,72,73]) (Aso K)
def Aqe (K:Nat)(v23:List Int):Nat->Int->Option (Bool)
 |0,_=>none
 |n2+1,v25=>(bif (decide (v25<(v23.length:Int)))then(if(0:Int)≤v25∧v25<(v23.length:Int)then((Gx K (gt v23 v25) 0 255).bind fun r26=>(bif (!r26)then some false else(Aqe K v23 n2 (An3 .i64 v25 1))))else none)else some true)
def Aph (K:Nat)(a0:D9):Nat->Int->Int->Int->Int->Int->Int->Int->Int->Int->(List Int)->Int->Int->(List Bc)->(List Int)->Option (Bool)
 |0,_,_,_,_,_,_,_,_,_,_,_,_,_,_=>none
 |n1+1,v10,v11,v12,v13,v14,v15,v16,v17,v18,v19,v20,v21,v22,v23=>(bif (decide (v10<(v22.length:Int)))then(if(0:Int)≤v10∧v10<(v22.length:Int)then((Aso K a0 (gt v22 v10)).bind fun r24=>(bif (!r24)then some false else(Aph K a0 n1 (An3 .i64 v10 1) v11 v12 v13 v14 v15 v16 v17 v18 v19 v20 v21 v22 v23)))else none)else(Aqe K v23 K 0))
def Ap1 (K:Nat)(a0:D9)(a1:As):Option (Bool):=((Anc K a0).bind fun r1=>(bif r1 then((Gx K a1.Vg 0 3).bind fun r2=>(bif r2 then((Gx K a1.C8 1 a0.G7).bind fun r3=>(bif (!r3)then some false else(bif (a1.Vg != 1)then((A05 K a1).bind fun r4=>some r4)else(bif (decide (a1.Sj<0))then some false else(bif (decide (a1.Sk<0))then some false else((Gx K a1.fUp 0 a0.E5).bind fun r5=>(bif r5 then((Gx K a1.Ee 0 a0.E5).bind fun r6=>(bif r6 then((Gx K a1.Sl 0 a0.E5).bind fun r7=>(bif r7 then((Gx K a1.Sm 0 a0.E5).bind fun r8=>(bif r8 then((Awn K a0 a1).bind fun r9=>(bif r9 then(bif (decide ((a1.F4.length:Int)>12))then some false else(bif (decide ((a1.Fh.length:Int)>6))then some false else(Aph K a0 K 0 a1.Vg a1.C8 a1.Sj a1.fUp a1.Sk a1.Ee a1.Sl a1.Sm a1.Ay a1.Acv a1.Sn a1.F4 a1.Fh)))else some false))else some false))else some false))else some false))else some false)))))))else some false))else some false))
def Bqs:=fd Tryz.func100 ⟨[.v 25,.v 50],[.v 4],true⟩ (gC (Bal K) (gC (A02 K) (gC (Bvh K) (gC (Bvk K) (gC (Bo7 K) gN))))) [8,9,10,13,14,15,16,31,32,35,36,37,42,43,44,45,50,51,52,53,58,59,60,61,66,67,68,69,72,73,74,75,79,80,81]
def Bx4:Ei:=⟨[(3,.p 103),(6,.v 2)],[(103,.box [.v 2,.v 2,.v 2,.v 2,.v 2,.v 2,.v 2,.v 2,.v 26,.v 2,.v 2,.v 48,.v 26])]⟩
def Bhy:=lp (Bqs K) 506 Bx4 [] (fun n a _ _ _ _ _ _ _ _ _ _ _ _ o=>Aqe K o n a) (fun n=>kN)
def Bhz:=lp (Bqs K) 250 Bhv [] (fun n a b c d e f g h i j k l m o p=>Aph K p n a b c d e f g h i j k l m o) (fun n=>(kC (up (Bhy K K)) kN))
def A8g:=ct (Bqs K) (Ap1 K) (kC (Bhz K K) kN)
def Aud (K:Nat)(a0:D9)(a1:As)(a2:Int):Option (As×Bool):=((Anf K a1).bind fun r1=>(bif (a1.Vg != 1)then some (r1,false)else((Gx K a2 0 (An4 .i64 a0.Ay 1)).bind fun r2=>(bif (!r2)then some (r1,false)else(if(r1.Ay++([a2]:List Int)).length*8≤140737488355328∧(r1.Ay++([a2]:List Int)).length≤maxLen then((Ap1 K a0 (As.mk r1.Vg r1.C8 r1.Sj r1.fUp r1.Sk r1.Ee r1.Sl r1.Sm (r1.Ay++([a2]:List Int)) (An3 .i64 a2 1) 0 r1.F4 r1.Fh)).bind fun r3=>(bif (!r3)then((Anf K a1).bind fun r4=>some (r4,false))else some ((As.mk r1.Vg r1.C8 r1.Sj r1.fUp r1.Sk r1.Ee r1.Sl r1.Sm (r1.Ay++([a2]:List Int)) (An3 .i64 a2 1) 0 r1.F4 r1.Fh),true)))else none)))))
def Bh0:=ct (fd Tryz.func294 ⟨[.v 25,.v 50,.v 3],[.n 50 false,.v 4],true⟩ (gC (A8g K) (gC (A02 K) (gC (A8f K) gN))) [13,14]) (Aud K)
def Ay0 (K:Nat)(v11:List As):Option ((List As)):=some v11
def Axg (K:Nat)(a0:List As)(a1:Int)(a2:Int):Option ((List As)):=((Ato K a0).bind fun r1=>((Ad6 K a0 (An3 .i64 a1 1)).bind fun r2=>(bif r2 then((Ad6 K a0 (An3 .i64 a2 1)).bind fun r3=>(bif r3 then(bif (a1==a2)then some r1 else(if(0:Int)≤a1∧a1<(a0.length:Int)then(if(0:Int)≤a2∧a2<(r1.length:Int)then(Aqh (r1.set a2.toNat (As.mk ((gt r1 a2).Vg) ((gt r1 a2).C8) ((gt r1 a2).Sj) (An3 .i64 a1 1) ((gt r1 a2).Sk) ((gt r1 a2).Ee) ((gt r1 a2).Sl) ((gt r1 a2).Sm) ((gt r1 a2).Ay) ((gt r1 a2).Acv) ((gt r1 a2).Sn) ((gt r1 a2).F4) ((gt r1 a2).Fh))) fun v4=>(if(0:Int)≤a1∧a1<(a0.length:Int)then(if(0:Int)≤a2∧a2<(v4.length:Int)then(Aqh (v4.set a2.toNat (As.mk ((gt v4 a2).Vg) ((gt v4 a2).C8) ((gt v4 a2).Sj) ((gt v4 a2).fUp) ((gt a0 a1).Sj) ((gt v4 a2).Ee) ((gt v4 a2).Sl) ((gt v4 a2).Sm) ((gt v4 a2).Ay) ((gt v4 a2).Acv) ((gt v4 a2).Sn) ((gt v4 a2).F4) ((gt v4 a2).Fh))) fun v5=>(if(0:Int)≤a2∧a2<(v5.length:Int)then(Aqh (v5.set a2.toNat (As.mk ((gt v5 a2).Vg) ((gt v5 a2).C8) ((gt v5 a2).Sj) ((gt v5 a2).fUp) ((gt v5 a2).Sk) ((gt v5 a2).Ee) ((gt a0 a1).Ee) ((gt v5 a2).Sm) ((gt v5 a2).Ay) ((gt v5 a2).Acv) ((gt v5 a2).Sn) ((gt v5 a2).F4) ((gt v5 a2).Fh))) fun v6=>(if(0:Int)≤a2∧a2<(v6.length:Int)then(Aqh (v6.set a2.toNat (As.mk ((gt v6 a2).Vg) ((gt v6 a2).C8) ((gt v6 a2).Sj) ((gt v6 a2).fUp) ((gt v6 a2).Sk) ((gt v6 a2).Ee) ((gt v6 a2).Sl) 0 ((gt v6 a2).Ay) ((gt v6 a2).Acv) ((gt v6 a2).Sn) ((gt v6 a2).F4) ((gt v6 a2).Fh))) fun v7=>(if(0:Int)≤a1∧a1<(v7.length:Int)then(Aqh (v7.set a1.toNat (As.mk ((gt v7 a1).Vg) ((gt v7 a1).C8) ((gt v7 a1).Sj) ((gt v7 a1).fUp) ((gt v7 a1).Sk) (An3 .i64 a2 1) ((gt v7 a1).Sl) ((gt v7 a1).Sm) ((gt v7 a1).Ay) ((gt v7 a1).Acv) ((gt v7 a1).Sn) ((gt v7 a1).F4) ((gt v7 a1).Fh))) fun v8=>((Ad6 K a0 ((gt a0 a1).Ee)).bind fun r9=>(bif r9 then(if(0:Int)≤(An4 .i64 ((gt a0 a1).Ee) 1)∧(An4 .i64 ((gt a0 a1).Ee) 1)<(v8.length:Int)then(Aqh (v8.set (An4 .i64 ((gt a0 a1).Ee) 1).toNat (As.mk ((gt v8 (An4 .i64 ((gt a0 a1).Ee) 1)).Vg) ((gt v8 (An4 .i64 ((gt a0 a1).Ee) 1)).C8) ((gt v8 (An4 .i64 ((gt a0 a1).Ee) 1)).Sj) ((gt v8 (An4 .i64 ((gt a0 a1).Ee) 1)).fUp) ((gt v8 (An4 .i64 ((gt a0 a1).Ee) 1)).Sk) ((gt v8 (An4 .i64 ((gt a0 a1).Ee) 1)).Ee) ((gt v8 (An4 .i64 ((gt a0 a1).Ee) 1)).Sl) (An3 .i64 a2 1) ((gt v8 (An4 .i64 ((gt a0 a1).Ee) 1)).Ay) ((gt v8 (An4 .i64 ((gt a0 a1).Ee) 1)).Acv) ((gt v8 (An4 .i64 ((gt a0 a1).Ee) 1)).Sn) ((gt v8 (An4 .i64 ((gt a0 a1).Ee) 1)).F4) ((gt v8 (An4 .i64 ((gt a0 a1).Ee) 1)).Fh))) fun v10=>(Ay0 K v10))else none)else(Ay0 K v8))))else none))else none))else none))else none)else none))else none)else none))else some r1))else some r1)))
def Bvm:=fd Tryz.func295 ⟨[.v 29,.v 3,.v 3],[.n 29 true],false⟩ (gC (Bd6 K) (gC (A5i K) gN)) [14,15,16,20,21,22,23] [1023]
def Bfc:=jn (Bvm K) 1023 Bva [] (Ay0 K) kN
def Bvn:=ct (Bvm K) (Axg K) (kC (Bfc K) kN)
def Asp (K:Nat)(a1:Int):Nat->Int->Int->Int->Int->Int->Int->Int->(List Int)->(List Int)->(List Int)->(List As)->(List Az)->(List Int)->Option (Int×C4)
 |0,_,_,_,_,_,_,_,_,_,_,_,_,_=>none
 |n1+1,v1,v2,v3,v4,v5,v6,v7,v8,v9,v10,v11,v12,v13=>(bif (decide (v1<a1))then(bif ((v12.length:Int)==0)then some (v1,(C4.mk (D9.mk v2 v3 v4 v5 v6 v7) (Dm.mk v8 v9 v10) v11 v12 v13))else((Au1 K (C4.mk (D9.mk v2 v3 v4 v5 v6 v7) (Dm.mk v8 v9 v10) v11 v12 v13)).bind fun r14=>(Asp K a1 n1 (An3 .i64 v1 1) r14.fC.Ay r14.fC.G6 r14.fC.E5 r14.fC.Gs r14.fC.E6 r14.fC.G7 r14.fP.N5 r14.fP.Vg r14.fP.N6 r14.fL r14.fQ r14.Acw)))else some (a1,(C4.mk (D9.mk v2 v3 v4 v5 v6 v7) (Dm.mk v8 v9 v10) v11 v12 v13)))
def Au3 (K:Nat)(a0:C4)(a1:Int):Option (Int×C4):=(Asp K a1 K 0 a0.fC.Ay a0.fC.G6 a0.fC.E5 a0.fC.Gs a0.fC.E6 a0.fC.G7 a0.fP.N5 a0.fP.Vg a0.fP.N6 a0.fL a0.fQ a0.Acw)
def Bvo:=fd Tryz.func265 ⟨[.b 32 false,.v 3],[.v 3],false⟩ (gC (Bo5 K) gN) [] [] [(4,[.take 1 10 5026]),(6,[.put 1])]
def Bx5:Ei:=⟨[(0,.p 1),(1,.v 2),(5,.v 2)],[(1,.box [.v 2,.v 2,.v 2,.v 2,.v 2,.v 2,.T 5 true,.T 3 true,.T 3 true,.T 50 true,.T 52 false,.T 3 true])]⟩
def Bm3:=lp (Bvo K) 26 Bx5 [] (fun n a=>Asp K a n) (fun n=>kN)
def Bh1:=ct (Bvo K) (Au3 K) (kC (Bm3 K K) kN)
def Asq (K:Nat)(r19:Int)(v25:Int)(v26:Int)(v27:Int)(v28:Int)(v29:Int)(v30:Int)(v31:List Int)(v32:List Int)(v33:List Int)(v34:List As)(v35:List Az)(v36:List Int)(v37:Es):Option (Es×C4):=((Atv K v34 r19).bind fun r38=>((Au3 K (C4.mk (D9.mk v25 v26 v27 v28 v29 v30) (Dm.mk v31 v32 v33) v34 v35 v36) v28).bind fun r39=>some ((Es.mk v37.Wz r38 v37.fR v37.fB v37.W3 r39.1 v37.N7),r39.2)))
def Ans (K:Nat)(v3:Int)(v4:Int)(v5:Int)(v6:Int)(v7:Int)(v8:Int)(v9:Int)(v10:List Int)(v11:List Int)(v12:List Int)(v13:List As)(v14:List Az)(v15:List Int)(v16:Es)(v17:Es):Option (Es×C4):=(bif (v16.Wz != 0)then some (v16,(C4.mk (D9.mk v4 v5 v6 v7 v8 v9) (Dm.mk v10 v11 v12) v13 v14 v15))else((Av8 K (C4.mk (D9.mk v4 v5 v6 v7 v8 v9) (Dm.mk v10 v11 v12) v13 v14 v15) 1 1).bind fun r18=>((Ayq K r18.2.fL).bind fun r19=>((Avl K r18.2.fP).bind fun r20=>(bif (decide (r19<0))then some ((Es.mk 5 (Am.mk 0 0) (Bq.mk (Am.mk 0 0) 0 0) [] 0 0 0),r18.2)else(bif (decide (r20<0))then some ((Es.mk 5 (Am.mk 0 0) (Bq.mk (Am.mk 0 0) 0 0) [] 0 0 0),r18.2)else(if(0:Int)≤r19∧r19<(r18.2.fL.length:Int)then((Ak1 K ((gt r18.2.fL r19).C8)).bind fun r21=>((Aq7 K r18.2.fP r20 1 r19).bind fun r22=>((Aud K r18.2.fC (As.mk 1 r21.C8 r21.Sj r21.fUp r21.Sk r21.Ee r21.Sl r21.Sm r21.Ay r21.Acv r21.Sn r21.F4 r21.Fh) r20).bind fun r23=>(if(0:Int)≤r19∧r19<(r18.2.fL.length:Int)then(bif (decide (v3≥0))then((Axg K (r18.2.fL.set r19.toNat r23.1) v3 r19).bind fun r24=>(Asq K r19 r18.2.fC.Ay r18.2.fC.G6 r18.2.fC.E5 r18.2.fC.Gs r18.2.fC.E6 r18.2.fC.G7 r22.N5 r22.Vg r22.N6 r24 r18.2.fQ r18.2.Acw (Es.mk v16.Wz v16.fH v16.fR v16.fB v16.W3 v16.Gs r18.1)))else(Asq K r19 r18.2.fC.Ay r18.2.fC.G6 r18.2.fC.E5 r18.2.fC.Gs r18.2.fC.E6 r18.2.fC.G7 r22.N5 r22.Vg r22.N6 (r18.2.fL.set r19.toNat r23.1) r18.2.fQ r18.2.Acw (Es.mk v16.Wz v16.fH v16.fR v16.fB v16.W3 v16.Gs r18.1)))else none))))else none)))))))
def Asr (K:Nat)(v41:Int)(v42:Bool)(v43:Int)(v44:Int)(v45:Int)(v46:Int)(v47:Int)(v48:Int)(v49:List Int)(v50:List Int)(v51:List Int)(v52:List As)(v53:List Az)(v54:List Int)(v55:Es)(v56:Es):Option (Es×C4):=(bif v42 then(Ans K v41 v43 v44 v45 v46 v47 v48 v49 v50 v51 v52 v53 v54 (Es.mk 3 v55.fH v55.fR v55.fB v55.W3 v55.Gs v55.N7) v56)else((Azn K (C4.mk (D9.mk v43 v44 v45 v46 v47 v48) (Dm.mk v49 v50 v51) v52 v53 v54)).bind fun r57=>(bif (r57==0)then(Ans K v41 v43 v44 v45 v46 v47 v48 v49 v50 v51 v52 v53 v54 (Es.mk 4 v55.fH v55.fR v55.fB v55.W3 v55.Gs v55.N7) v56)else((Ari K (C4.mk (D9.mk v43 v44 v45 v46 v47 v48) (Dm.mk v49 v50 v51) v52 v53 v54) 1).bind fun r58=>(bif (!r58)then(Ans K v41 v43 v44 v45 v46 v47 v48 v49 v50 v51 v52 v53 v54 (Es.mk 5 v55.fH v55.fR v55.fB v55.W3 v55.Gs v55.N7) v56)else(Ans K v41 v43 v44 v45 v46 v47 v48 v49 v50 v51 v52 v53 v54 v55 v56))))))
def Axu (K:Nat)(a0:C4)(a1:Am):Option (Es×C4):=((Azt K a0 a1).bind fun r1=>((Aox K a0 a1).bind fun r2=>(bif (r1.2 != 0)then(Ans K r1.1 a0.fC.Ay a0.fC.G6 a0.fC.E5 a0.fC.Gs a0.fC.E6 a0.fC.G7 a0.fP.N5 a0.fP.Vg a0.fP.N6 a0.fL a0.fQ a0.Acw (Es.mk r1.2 (Am.mk 0 0) (Bq.mk (Am.mk 0 0) 0 0) [] r2 0 0) (Es.mk 0 (Am.mk 0 0) (Bq.mk (Am.mk 0 0) 0 0) [] 0 0 0))else(bif (decide (r1.1≥0))then((Av4 K a0.fL r1.1).bind fun r40=>(Asr K r1.1 (decide (r40≥4)) a0.fC.Ay a0.fC.G6 a0.fC.E5 a0.fC.Gs a0.fC.E6 a0.fC.G7 a0.fP.N5 a0.fP.Vg a0.fP.N6 a0.fL a0.fQ a0.Acw (Es.mk r1.2 (Am.mk 0 0) (Bq.mk (Am.mk 0 0) 0 0) [] r2 0 0) (Es.mk 0 (Am.mk 0 0) (Bq.mk (Am.mk 0 0) 0 0) [] 0 0 0)))else(Asr K r1.1 false a0.fC.Ay a0.fC.G6 a0.fC.E5 a0.fC.Gs a0.fC.E6 a0.fC.G7 a0.fP.N5 a0.fP.Vg a0.fP.N6 a0.fL a0.fQ a0.Acw (Es.mk r1.2 (Am.mk 0 0) (Bq.mk (Am.mk 0 0) 0 0) [] r2 0 0) (Es.mk 0 (Am.mk 0 0) (Bq.mk (Am.mk 0 0) 0 0) [] 0 0 0))))))
def Bm4:=fd Tryz.func263 ⟨[.b 32 false,.v 36],[.n 73 true],false⟩ (gC (Bhk K) (gC (A6k K) (gC (Bou K) (gC (Bam K) (gC (Boy K) (gC (Bh1 K) (gC (Bun K) (gC (Buo K) (gC (Bhr K) (gC (Bve K) (gC (Bo6 K) (gC (Bhu K) (gC (Bh0 K) (gC (Bvn K) gN)))))))))))))) [31,32,74,75] [15,243,32767] [(1,[.take 1 6 5022,.take 1 7 5023,.take 1 8 5024,.take 1 9 5025,.take 1 10 5026,.take 1 11 5027]),(6,[.take 1 6 5022,.take 1 7 5023,.take 1 8 5024,.take 1 9 5025,.take 1 10 5026,.take 1 11 5027]),(11,[.take 107 7 6719]),(13,[.take 1 9 5025]),(14,[.take 1 6 5022,.take 1 7 5023,.take 1 8 5024]),(23,[.put 5025,.frz 5025]),(24,[.take 1 9 5025]),(25,[.put 1]),(26,[.take 107 7 6719])]
def Bx6:Ei:=⟨[(0,.p 1),(4,.p 104),(7,.p 107),(8,.v 2)],[(1,.box [.v 2,.v 2,.v 2,.v 2,.v 2,.v 2,.T 5 true,.T 3 true,.T 3 true,.T 50 true,.T 52 false,.T 3 true]),(107,.st 73 true),(104,.st 73 true)]⟩
def Bx7:Ei:=⟨[(0,.p 1),(4,.p 104),(5,.v 2),(7,.p 107)],[(1,.box [.v 2,.v 2,.v 2,.v 2,.v 2,.v 2,.T 5 true,.T 3 true,.T 3 true,.T 50 true,.T 52 false,.T 3 true]),(107,.st 73 true),(104,.st 73 true)]⟩
def Bx8:Ei:=⟨[(0,.p 1),(4,.p 104),(5,.v 2),(7,.p 107),(29,.v 4)],[(1,.box [.v 2,.v 2,.v 2,.v 2,.v 2,.v 2,.T 5 true,.T 3 true,.T 3 true,.T 50 true,.T 52 false,.T 3 true]),(107,.st 73 true),(104,.st 73 true)]⟩
def Bcj:=jn (Bm4 K) 32767 Bx6 [] (fun a b c d e f g h i j k l m o _=>Asq K a b c d e f g h i j k l m o) kN
def Bd7:=jn (Bm4 K) 15 Bx7 [] (Ans K) (kC (Bcj K) kN)
def Bh2:=jn (Bm4 K) 243 Bx8 [] (Asr K) (kC (Bd7 K) kN)
def Bvp:=ct (Bm4 K) (Axu K) (kC (Bd7 K) (kC (Bh2 K) kN))
def Aq8 (K:Nat)(a0:Int):Option (Bool):=(bif (a0==1)then some true else(bif (a0==2)then some true else some (a0==4)))
def Bd8:=ct (fd Tryz.func296 ⟨[.v 3],[.v 4],true⟩ gN [4,5,7,8,9]) (Aq8 K)
def Am8 (K:Nat)(a0:D9)(a2:Int)(a3:Int)(r6:Int):Nat->Int->As->As->Int->Int->Int->Int->Int->Int->Int->Int->(List Int)->Int->Int->(List Bc)->(List Int)->Option (As×Bool)
 |0,_,_,_,_,_,_,_,_,_,_,_,_,_,_,_,_=>none
 |n1+1,v7,v8,v9,v10,v11,v12,v13,v14,v15,v16,v17,v18,v19,v20,v21,v22=>(bif (decide (v7<r6))then(if(v8.Ay++([(An3 .i64 a2 v7)]:List Int)).length*8≤140737488355328∧(v8.Ay++([(An3 .i64 a2 v7)]:List Int)).length≤maxLen then(Am8 K a0 a2 a3 r6 n1 (An3 .i64 v7 1) (As.mk v8.Vg v8.C8 v8.Sj v8.fUp v8.Sk v8.Ee v8.Sl v8.Sm (v8.Ay++([(An3 .i64 a2 v7)]:List Int)) v8.Acv v8.Sn v8.F4 v8.Fh) v9 v10 v11 v12 v13 v14 v15 v16 v17 v18 v19 v20 v21 v22)else none)else(if(v8.F4++([(Bc.mk (An5 .i64 a2 a0.G6) a3 r6)]:List Bc)).length*24≤140737488355328∧(v8.F4++([(Bc.mk (An5 .i64 a2 a0.G6) a3 r6)]:List Bc)).length≤maxLen then((Ap1 K a0 (As.mk v8.Vg v8.C8 v8.Sj v8.fUp v8.Sk v8.Ee v8.Sl v8.Sm v8.Ay v8.Acv v8.Sn (v8.F4++([(Bc.mk (An5 .i64 a2 a0.G6) a3 r6)]:List Bc)) v8.Fh)).bind fun r23=>(bif (!r23)then((Anf K (As.mk v10 v11 v12 v13 v14 v15 v16 v17 v18 v19 v20 v21 v22)).bind fun r24=>some (r24,false))else some ((As.mk v8.Vg v8.C8 v8.Sj v8.fUp v8.Sk v8.Ee v8.Sl v8.Sm v8.Ay v8.Acv v8.Sn (v8.F4++([(Bc.mk (An5 .i64 a2 a0.G6) a3 r6)]:List Bc)) v8.Fh),true)))else none))
def Aqf (K:Nat)(a0:D9)(a1:As)(a2:Int)(a3:Int):Option (As×Bool):=((Anf K a1).bind fun r1=>((Anc K a0).bind fun r2=>(bif r2 then(bif (a1.Vg != 1)then some (r1,false)else((Ao5 K a0 a3).bind fun r3=>(bif r3 then((Aq3 K a0).bind fun r4=>(bif (decide (a3>r4))then some (r1,false)else((Gx K a2 0 (An4 .i64 a0.Ay 1)).bind fun r5=>(bif (!r5)then some (r1,false)else((Aly K a0 a3).bind fun r6=>(Am8 K a0 a2 a3 r6 K 0 r1 (As.mk 0 0 0 0 0 0 0 0 [] 0 0 [] []) a1.Vg a1.C8 a1.Sj a1.fUp a1.Sk a1.Ee a1.Sl a1.Sm a1.Ay a1.Acv a1.Sn a1.F4 a1.Fh))))))else some (r1,false))))else some (r1,false))))
def Bvq:=fd Tryz.func309 ⟨[.v 25,.v 50,.v 3,.v 3],[.n 50 false,.v 4],true⟩ (gC (Bal K) (gC (A8g K) (gC (A02 K) (gC (Bmc K) (gC (A8f K) (gC (Bhw K) (gC (Bhx K) gN))))))) [16,17,18,21,22,23,26,27,28,29,33,34,35] [] [(8,[.take 110 8 6768]),(9,[.take 110 11 6771]),(10,[.take 110 8 6768,.take 110 12 6772])]
def Bx9:Ei:=⟨[(2,.v 2),(3,.v 2),(4,.p 104),(5,.p 105),(8,.p 108),(10,.p 110),(11,.v 2),(12,.v 2)],[(110,.st 50 false),(108,.st 50 false),(105,.box [.v 2,.v 2,.v 2,.v 2,.v 2,.v 2,.v 2,.v 2,.v 26,.v 2,.v 2,.v 48,.v 26]),(104,.st 25 true)]⟩
def Bh3:=lp (Bvq K) 250 Bx9 [] (fun n a b c d e f g h i j k l m o p q r s t u=>Am8 K u a b c n d e f g h i j k l m o p q r s t) (fun n=>kN)
def Bo8:=ct (Bvq K) (Aqf K) (kC (Bh3 K K) kN)
def Awo (K:Nat)(a0:C4)(a1:Int)(a2:Int)(a3:Es):Option (Es×C4):=((Aly K a0.fC a2).bind fun r1=>((Ari K a0 r1).bind fun r2=>(bif (!r2)then some ((Es.mk 5 a3.fH a3.fR a3.fB a3.W3 a3.Gs a3.N7),a0)else((Av8 K a0 0 r1).bind fun r3=>((Awk K r3.2.fP r1).bind fun r4=>(bif (decide (r4<0))then some ((Es.mk 6 a3.fH a3.fR a3.fB a3.W3 a3.Gs r3.1),r3.2)else((Aq7 K r3.2.fP r4 r1 a1).bind fun r5=>(if(0:Int)≤a1∧a1<(r3.2.fL.length:Int)then(if(0:Int)≤a1∧a1<(r3.2.fL.length:Int)then((Aqf K r3.2.fC (gt r3.2.fL a1) r4 a2).bind fun r6=>(if(0:Int)≤a1∧a1<(r3.2.fL.length:Int)then some ((Es.mk a3.Wz a3.fH a3.fR a3.fB a3.W3 a3.Gs r3.1),(C4.mk r3.2.fC r5 (r3.2.fL.set a1.toNat r6.1) r3.2.fQ r3.2.Acw))else none))else none)else none))))))))
def Bvr:=ct (fd Tryz.func297 ⟨[.b 32 false,.v 3,.v 3,.v 73],[.v 73],false⟩ (gC (Bhk K) (gC (Bhx K) (gC (Bhr K) (gC (Bhu K) (gC (Bo8 K) (gC (Bo2 K) gN)))))) [] [] [(2,[.take 1 6 5022,.take 1 7 5023,.take 1 8 5024,.take 1 9 5025,.take 1 10 5026,.take 1 11 5027]),(5,[.put 1]),(6,[.take 1 6 5022,.take 1 7 5023,.take 1 8 5024]),(11,[.take 1 9 5025,.opn 5025 (.tmp 1),.takeE 5025 11 41611,.takeE 5025 12 41612])]) (Awo K)
def Axv (K:Nat)(a0:Int)(a1:Int):Option (Int):=((Gx K a0 0 1000000000).bind fun r1=>(bif r1 then((Aq8 K a1).bind fun r2=>(bif (!r2)then some 0 else(if a1≠(0:Int)then some (An5 .i64 (Ali .i64 (An4 .i64 (An3 .i64 a0 a1) 1) a1) a1)else none)))else some 0))
def Bvs:=ct (fd Tryz.func315 ⟨[.v 3,.v 3],[.v 3],true⟩ (gC (A02 K) (gC (Bd8 K) gN)) [6,7,8]) (Axv K)
def Av9 (K:Nat)(a0:D9)(a1:As)(a2:Int)(a3:Int):Option (Int×Bool):=((Ap1 K a0 a1).bind fun r1=>(bif r1 then(bif (a1.Acv==0)then some (0,false)else((Gx K a2 1 a0.G6).bind fun r2=>(bif r2 then((Aq8 K a3).bind fun r3=>(bif (!r3)then some (0,false)else((Axv K a1.Sn a3).bind fun r4=>(bif (decide ((An3 .i64 r4 a2)>a0.G6))then some (0,false)else some ((An3 .i64 (An5 .i64 (An4 .i64 a1.Acv 1) a0.G6) r4),true)))))else some (0,false))))else some (0,false)))
def Bo9:=ct (fd Tryz.func314 ⟨[.v 25,.v 50,.v 3,.v 3],[.v 3,.v 4],true⟩ (gC (A8g K) (gC (A02 K) (gC (Bd8 K) (gC (Bvs K) gN)))) [13,14,15,18,19,20,24,25,26,27]) (Av9 K)
def Aun (K:Nat)(a0:D9)(a1:As)(a2:Int)(a3:Int):Option (Bool):=((Av9 K a0 a1 a2 a3).bind fun r1=>(bif r1.2 then some false else((Ap1 K a0 a1).bind fun r2=>(bif r2 then(bif (a1.Vg==1)then((Gx K a2 1 a0.G6).bind fun r3=>(bif r3 then((Aq8 K a3).bind fun r4=>some r4)else some false))else some false)else some false))))
def Bvt:=ct (fd Tryz.func312 ⟨[.v 25,.v 50,.v 3,.v 3],[.v 4],true⟩ (gC (A8g K) (gC (A02 K) (gC (Bd8 K) (gC (Bo9 K) gN)))) [19,20,21,24,25,26,29,30,31,35,36,37]) (Aun K)
def Aty (K:Nat)(a0:D9)(a1:As)(a2:Int)(a3:Int):Option (As×Bool):=((Anf K a1).bind fun r1=>((Av9 K a0 a1 a2 a3).bind fun r2=>(bif r2.2 then(bif (decide ((a1.F4.length:Int)≥12))then some (r1,false)else(if(r1.F4++([(Bc.mk r2.1 a2 0)]:List Bc)).length*24≤140737488355328∧(r1.F4++([(Bc.mk r2.1 a2 0)]:List Bc)).length≤maxLen then some ((As.mk r1.Vg r1.C8 r1.Sj r1.fUp r1.Sk r1.Ee r1.Sl r1.Sm r1.Ay r1.Acv (An3 .i64 (An4 .i64 r2.1 (An5 .i64 (An4 .i64 a1.Acv 1) a0.G6)) a2) (r1.F4++([(Bc.mk r2.1 a2 0)]:List Bc)) r1.Fh),true)else none))else some (r1,false))))
def Bpa:=ct (fd Tryz.func308 ⟨[.v 25,.v 50,.v 3,.v 3],[.n 50 false,.v 4],true⟩ (gC (A8f K) (gC (Bo9 K) gN)) [23,24,25]) (Aty K)
def Art (K:Nat)(a1:Int)(a2:Int)(a3:Int)(v7:Int)(v8:Int)(v9:Int)(v10:Int)(v11:Int)(v12:Int)(v13:List Int)(v14:List Int)(v15:List Int)(v16:List As)(v17:List Az)(v18:List Int)(v19:Es)(v20:Int)(v21:Int)(v22:Int)(v23:Int)(v24:Int)(v25:Int)(v26:Int)(v27:List Int)(v28:Int)(v29:Int)(v30:Int):Option (Es×C4):=(if(0:Int)≤a1∧a1<(v16.length:Int)then(if(0:Int)≤a1∧a1<(v16.length:Int)then((Aty K (D9.mk v7 v8 v9 v10 v11 v12) (gt v16 a1) a2 a3).bind fun r31=>(if(0:Int)≤a1∧a1<(v16.length:Int)then some ((Es.mk v20 (Am.mk v21 v22) (Bq.mk (Am.mk v23 v24) v25 v26) v27 v28 v29 v30),(C4.mk (D9.mk v7 v8 v9 v10 v11 v12) (Dm.mk v13 v14 v15) (v16.set a1.toNat r31.1) v17 v18))else none))else none)else none)
def Awp (K:Nat)(a0:C4)(a1:Int)(a2:Int)(a3:Int)(a4:Es):Option (Es×C4):=(if(0:Int)≤a1∧a1<(a0.fL.length:Int)then(if(0:Int)≤a1∧a1<(a0.fL.length:Int)then((Aun K a0.fC (gt a0.fL a1) a2 a3).bind fun r1=>(bif r1 then((Ari K a0 1).bind fun r2=>(bif (!r2)then some ((Es.mk 5 a4.fH a4.fR a4.fB a4.W3 a4.Gs a4.N7),a0)else((Av8 K a0 0 1).bind fun r3=>((Avl K r3.2.fP).bind fun r4=>(bif (decide (r4<0))then some ((Es.mk 5 a4.fH a4.fR a4.fB a4.W3 a4.Gs r3.1),r3.2)else((Aq7 K r3.2.fP r4 1 a1).bind fun r5=>(if(0:Int)≤a1∧a1<(r3.2.fL.length:Int)then(if(0:Int)≤a1∧a1<(r3.2.fL.length:Int)then((Aud K r3.2.fC (gt r3.2.fL a1) r4).bind fun r6=>(if(0:Int)≤a1∧a1<(r3.2.fL.length:Int)then(Art K a1 a2 a3 r3.2.fC.Ay r3.2.fC.G6 r3.2.fC.E5 r3.2.fC.Gs r3.2.fC.E6 r3.2.fC.G7 r5.N5 r5.Vg r5.N6 (r3.2.fL.set a1.toNat r6.1) r3.2.fQ r3.2.Acw (Es.mk 0 (Am.mk 0 0) (Bq.mk (Am.mk 0 0) 0 0) [] 0 0 0) a4.Wz a4.fH.Bk a4.fH.C8 a4.fR.fH.Bk a4.fR.fH.C8 a4.fR.Sj a4.fR.fNo a4.fB a4.W3 a4.Gs r3.1)else none))else none)else none)))))))else(Art K a1 a2 a3 a0.fC.Ay a0.fC.G6 a0.fC.E5 a0.fC.Gs a0.fC.E6 a0.fC.G7 a0.fP.N5 a0.fP.Vg a0.fP.N6 a0.fL a0.fQ a0.Acw (Es.mk 0 (Am.mk 0 0) (Bq.mk (Am.mk 0 0) 0 0) [] 0 0 0) a4.Wz a4.fH.Bk a4.fH.C8 a4.fR.fH.Bk a4.fR.fH.C8 a4.fR.Sj a4.fR.fNo a4.fB a4.W3 a4.Gs a4.N7)))else none)else none)
def Bvu:=fd Tryz.func298 ⟨[.b 32 false,.v 3,.v 3,.v 3,.v 73],[.v 73],false⟩ (gC (Bhk K) (gC (Bhr K) (gC (Bo6 K) (gC (Bhu K) (gC (Bh0 K) (gC (Bpa K) (gC (Bvt K) gN))))))) [] [3] [(1,[.take 1 9 5025,.opn 5025 (.tmp 1),.takeE 5025 11 41611,.takeE 5025 12 41612]),(2,[.take 1 6 5022,.take 1 7 5023,.take 1 8 5024,.take 1 10 5026,.take 1 11 5027,.put 5025]),(5,[.put 1]),(6,[.take 1 6 5022,.take 1 7 5023,.take 1 8 5024]),(11,[.take 1 9 5025,.opn 5025 (.tmp 1),.takeE 5025 11 41611,.takeE 5025 12 41612]),(13,[.take 1 9 5025,.opn 5025 (.tmp 1),.takeE 5025 11 41611,.takeE 5025 12 41612])]
def Bya:Ei:=⟨[(0,.p 1),(1,.v 2),(2,.v 2),(3,.v 2),(9,.p 109),(10,.p 110)],[(1,.box [.v 2,.v 2,.v 2,.v 2,.v 2,.v 2,.T 5 true,.T 3 true,.T 3 true,.T 50 true,.T 52 false,.T 3 true]),(110,.st 73 true),(109,.box [.v 2,.v 2,.v 2,.v 2,.v 2,.v 2,.v 2,.v 22,.v 2,.v 2,.v 2])]⟩
def Bqt:=jn (Bvu K) 3 Bya [] (Art K) kN
def Bvv:=ct (Bvu K) (Awp K) (kC (Bqt K) kN)
def Aru (K:Nat)(a1:Am)(v5:Int)(v22:Int)(v23:Int)(v24:Int)(v25:Int)(v26:Int)(v27:Int)(v28:List Int)(v29:List Int)(v30:List Int)(v31:List As)(v32:List Az)(v33:List Int)(v34:Int)(v35:Int)(v36:Int)(v37:Int)(v38:Int)(v39:Int)(v40:Int)(v41:List Int)(v42:Int)(v43:Int)(v44:Int):Option (Es×C4):=(bif (v34 != 0)then some ((Es.mk v34 (Am.mk v35 v36) (Bq.mk (Am.mk v37 v38) v39 v40) v41 v42 v43 v44),(C4.mk (D9.mk v22 v23 v24 v25 v26 v27) (Dm.mk v28 v29 v30) v31 v32 v33))else(if(0:Int)≤v5∧v5<(v31.length:Int)then(if(0:Int)≤v5∧v5<(v31.length:Int)then(if(0:Int)≤v5∧v5<(v31.length:Int)then((Au3 K (C4.mk (D9.mk v22 v23 v24 v25 v26 v27) (Dm.mk v28 v29 v30) v31 v32 v33) v25).bind fun r45=>some ((Es.mk v34 (Am.mk v35 v36) (Bq.mk a1 ((gt v31 v5).Sj) (An4 .i64 (((gt v31 v5).F4).length:Int) 1)) v41 v42 r45.1 v44),r45.2))else none)else none)else none))
def Ap9 (K:Nat)(a1:Am)(a2:Int)(a3:Int)(v5:Int)(v6:Int)(v7:Int)(v8:Int)(v9:Int)(v10:Int)(v11:Int)(v12:List Int)(v13:List Int)(v14:List Int)(v15:List As)(v16:List Az)(v17:List Int)(v18:Es)(v19:Es):Option (Es×C4):=(bif (v18.Wz != 0)then some (v18,(C4.mk (D9.mk v6 v7 v8 v9 v10 v11) (Dm.mk v12 v13 v14) v15 v16 v17))else((Ao5 K (D9.mk v6 v7 v8 v9 v10 v11) a2).bind fun r20=>(bif r20 then((Awo K (C4.mk (D9.mk v6 v7 v8 v9 v10 v11) (Dm.mk v12 v13 v14) v15 v16 v17) v5 a2 v18).bind fun r21=>(Aru K a1 v5 r21.2.fC.Ay r21.2.fC.G6 r21.2.fC.E5 r21.2.fC.Gs r21.2.fC.E6 r21.2.fC.G7 r21.2.fP.N5 r21.2.fP.Vg r21.2.fP.N6 r21.2.fL r21.2.fQ r21.2.Acw r21.1.Wz r21.1.fH.Bk r21.1.fH.C8 r21.1.fR.fH.Bk r21.1.fR.fH.C8 r21.1.fR.Sj r21.1.fR.fNo r21.1.fB r21.1.W3 r21.1.Gs r21.1.N7))else((Awp K (C4.mk (D9.mk v6 v7 v8 v9 v10 v11) (Dm.mk v12 v13 v14) v15 v16 v17) v5 a2 a3 v18).bind fun r46=>(Aru K a1 v5 r46.2.fC.Ay r46.2.fC.G6 r46.2.fC.E5 r46.2.fC.Gs r46.2.fC.E6 r46.2.fC.G7 r46.2.fP.N5 r46.2.fP.Vg r46.2.fP.N6 r46.2.fL r46.2.fQ r46.2.Acw r46.1.Wz r46.1.fH.Bk r46.1.fH.C8 r46.1.fR.fH.Bk r46.1.fR.fH.C8 r46.1.fR.Sj r46.1.fR.fNo r46.1.fB r46.1.W3 r46.1.Gs r46.1.N7)))))
def Awq (K:Nat)(a0:C4)(a1:Am)(a2:Int)(a3:Int):Option (Es×C4):=((Gx K a2 1 200).bind fun r1=>(bif r1 then((Aq8 K a3).bind fun r2=>(bif (!r2)then some ((Es.mk 1 (Am.mk 0 0) (Bq.mk (Am.mk 0 0) 0 0) [] 0 0 0),a0)else((Anh K a0 a1).bind fun r3=>((Aox K a0 a1).bind fun r4=>(bif (r3.2==0)then(if(0:Int)≤r3.1∧r3.1<(a0.fL.length:Int)then(if(0:Int)≤r3.1∧r3.1<(a0.fL.length:Int)then(bif (decide ((((gt a0.fL r3.1).F4).length:Int)≥12))then(Ap9 K a1 a2 a3 r3.1 a0.fC.Ay a0.fC.G6 a0.fC.E5 a0.fC.Gs a0.fC.E6 a0.fC.G7 a0.fP.N5 a0.fP.Vg a0.fP.N6 a0.fL a0.fQ a0.Acw (Es.mk 8 (Am.mk 0 0) (Bq.mk (Am.mk 0 0) 0 0) [] r4 0 0) (Es.mk 0 (Am.mk 0 0) (Bq.mk (Am.mk 0 0) 0 0) [] 0 0 0))else(Ap9 K a1 a2 a3 r3.1 a0.fC.Ay a0.fC.G6 a0.fC.E5 a0.fC.Gs a0.fC.E6 a0.fC.G7 a0.fP.N5 a0.fP.Vg a0.fP.N6 a0.fL a0.fQ a0.Acw (Es.mk r3.2 (Am.mk 0 0) (Bq.mk (Am.mk 0 0) 0 0) [] r4 0 0) (Es.mk 0 (Am.mk 0 0) (Bq.mk (Am.mk 0 0) 0 0) [] 0 0 0)))else none)else none)else(Ap9 K a1 a2 a3 r3.1 a0.fC.Ay a0.fC.G6 a0.fC.E5 a0.fC.Gs a0.fC.E6 a0.fC.G7 a0.fP.N5 a0.fP.Vg a0.fP.N6 a0.fL a0.fQ a0.Acw (Es.mk r3.2 (Am.mk 0 0) (Bq.mk (Am.mk 0 0) 0 0) [] r4 0 0) (Es.mk 0 (Am.mk 0 0) (Bq.mk (Am.mk 0 0) 0 0) [] 0 0 0)))))))else some ((Es.mk 1 (Am.mk 0 0) (Bq.mk (Am.mk 0 0) 0 0) [] 0 0 0),a0)))
def Bqu:=fd Tryz.func264 ⟨[.b 32 false,.v 36,.v 3,.v 3],[.v 73],false⟩ (gC (A02 K) (gC (A8e K) (gC (A6k K) (gC (Bhw K) (gC (Bh1 K) (gC (Bd8 K) (gC (Bvr K) (gC (Bvv K) gN)))))))) [13,14,15,37,38] [31,127] [(3,[.take 1 6 5022,.take 1 7 5023,.take 1 8 5024,.take 1 9 5025,.take 1 10 5026,.take 1 11 5027]),(8,[.take 111 7 6783]),(10,[.take 111 7 6783,.frz 6783]),(11,[.take 111 7 6783,.frz 6783]),(14,[.take 1 9 5025,.opn 5025 (.tmp 9),.takeE 5025 11 41611]),(15,[.put 1])] [(43,[.opn 5025 (.tmp 43)]),(45,[.takeE 5025 11 41611])]
def Byb:Ei:=⟨[(0,.p 1),(5,.p 105),(8,.p 108),(9,.v 2),(11,.p 111)],[(1,.box [.v 2,.v 2,.v 2,.v 2,.v 2,.v 2,.T 5 true,.T 3 true,.T 3 true,.T 50 true,.T 52 false,.T 3 true]),(111,.box [.v 2,.v 2,.v 2,.v 2,.v 2,.v 2,.v 2,.v 22,.v 2,.v 2,.v 2]),(108,.st 73 true),(105,.st 36 true)]⟩
def Byc:Ei:=⟨[(0,.p 1),(2,.v 2),(3,.v 2),(5,.p 105),(8,.p 108),(9,.v 2),(11,.p 111)],[(1,.box [.v 2,.v 2,.v 2,.v 2,.v 2,.v 2,.T 5 true,.T 3 true,.T 3 true,.T 50 true,.T 52 false,.T 3 true]),(111,.st 73 true),(108,.st 73 true),(105,.st 36 true)]⟩
def Bh4:=jn (Bqu K) 127 Byb [] (fun a b c d e f g h i j k l m o p q r s t u v w x y _ a1=>Aru K a1 a b c d e f g h i j k l m o p q r s t u v w x y) kN
def Bm5:=jn (Bqu K) 31 Byc [] (fun a b c d e f g h i j k l m o p q r s=>Ap9 K s a b c d e f g h i j k l m o p q r) (kC (Bh4 K) kN)
def Bvw:=ct (Bqu K) (Awq K) (kC (Bm5 K) kN)
def Axw (K:Nat)(a0:As):Option (As):=((Anf K a0).bind fun r1=>some (As.mk r1.Vg r1.C8 (An3 .i64 a0.Sj 1) r1.fUp r1.Sk 0 r1.Sl r1.Sm ([]:List Int) 0 0 ([]:List Bc) ([]:List Int)))
def Bvx:=ct (fd Tryz.func164 ⟨[.v 50],[.n 50 false],true⟩ (gC (A8f K) gN)) (Axw K)
def Arv (K:Nat)(a0:C4)(a1:Int):Option (C4):=(if(0:Int)≤a1∧a1<(a0.fL.length:Int)then(if(0:Int)≤a1∧a1<(a0.fL.length:Int)then((Asj K (gt a0.fL a1) 0).bind fun r1=>(if(0:Int)≤a1∧a1<(a0.fL.length:Int)then((Aqu K a0 ((gt a0.fL a1).Ay)).bind fun r2=>(if(0:Int)≤a1∧a1<(r2.fL.length:Int)then(if(0:Int)≤a1∧a1<(r2.fL.length:Int)then((Axw K (gt r2.fL a1)).bind fun r3=>(if(0:Int)≤a1∧a1<(r2.fL.length:Int)then(if(r2.fQ++([r1]:List Az)).length*72≤140737488355328∧(r2.fQ++([r1]:List Az)).length≤maxLen then some (C4.mk r2.fC r2.fP (r2.fL.set a1.toNat r3) (r2.fQ++([r1]:List Az)) r2.Acw)else none)else none))else none)else none))else none))else none)else none)
def Bpb:=ct (fd Tryz.func84 ⟨[.b 32 false,.v 3],[],false⟩ (gC (Bhp K) (gC (Bho K) (gC (Bvx K) gN))) [] [] [(0,[.take 1 9 5025,.opn 5025 (.tmp 1),.takeE 5025 11 41611,.takeE 5025 12 41612]),(1,[.put 1,.take 1 9 5025]),(2,[.take 1 9 5025,.opn 5025 (.tmp 1),.takeE 5025 11 41611,.takeE 5025 12 41612]),(3,[.take 1 10 5026,.frz 20384,.frz 20385])] [(21,[.put 1])]) (Arv K)
def Atz (K:Nat)(a1:Int)(v21:List As):Option ((List As)):=(if(0:Int)≤a1∧a1<(v21.length:Int)then(Aqh (v21.set a1.toNat (As.mk ((gt v21 a1).Vg) ((gt v21 a1).C8) ((gt v21 a1).Sj) 0 ((gt v21 a1).Sk) ((gt v21 a1).Ee) ((gt v21 a1).Sl) ((gt v21 a1).Sm) ((gt v21 a1).Ay) ((gt v21 a1).Acv) ((gt v21 a1).Sn) ((gt v21 a1).F4) ((gt v21 a1).Fh))) fun v22=>(if(0:Int)≤a1∧a1<(v22.length:Int)then(Aqh (v22.set a1.toNat (As.mk ((gt v22 a1).Vg) ((gt v22 a1).C8) ((gt v22 a1).Sj) ((gt v22 a1).fUp) 0 ((gt v22 a1).Ee) ((gt v22 a1).Sl) ((gt v22 a1).Sm) ((gt v22 a1).Ay) ((gt v22 a1).Acv) ((gt v22 a1).Sn) ((gt v22 a1).F4) ((gt v22 a1).Fh))) fun v23=>(if(0:Int)≤a1∧a1<(v23.length:Int)then(Aqh (v23.set a1.toNat (As.mk ((gt v23 a1).Vg) ((gt v23 a1).C8) ((gt v23 a1).Sj) ((gt v23 a1).fUp) ((gt v23 a1).Sk) ((gt v23 a1).Ee) 0 ((gt v23 a1).Sm) ((gt v23 a1).Ay) ((gt v23 a1).Acv) ((gt v23 a1).Sn) ((gt v23 a1).F4) ((gt v23 a1).Fh))) fun v24=>(if(0:Int)≤a1∧a1<(v24.length:Int)then(Aqh (v24.set a1.toNat (As.mk ((gt v24 a1).Vg) ((gt v24 a1).C8) ((gt v24 a1).Sj) ((gt v24 a1).fUp) ((gt v24 a1).Sk) ((gt v24 a1).Ee) ((gt v24 a1).Sl) 0 ((gt v24 a1).Ay) ((gt v24 a1).Acv) ((gt v24 a1).Sn) ((gt v24 a1).F4) ((gt v24 a1).Fh))) fun v25=>some v25)else none))else none))else none))else none)
def Arm (K:Nat)(a0:List As)(a1:Int)(v5:List As)(v6:Int)(v7:Int)(v8:Int)(v9:Int)(v10:Int)(v11:Int)(v12:Int)(v13:Int)(v14:List Int)(v15:Int)(v16:Int)(v17:List Bc)(v18:List Int):Option ((List As)):=((Ad6 K a0 v12).bind fun r19=>(bif r19 then(if(0:Int)≤(An4 .i64 v12 1)∧(An4 .i64 v12 1)<(v5.length:Int)then(Aqh (v5.set (An4 .i64 v12 1).toNat (As.mk ((gt v5 (An4 .i64 v12 1)).Vg) ((gt v5 (An4 .i64 v12 1)).C8) ((gt v5 (An4 .i64 v12 1)).Sj) ((gt v5 (An4 .i64 v12 1)).fUp) ((gt v5 (An4 .i64 v12 1)).Sk) ((gt v5 (An4 .i64 v12 1)).Ee) ((gt v5 (An4 .i64 v12 1)).Sl) v13 ((gt v5 (An4 .i64 v12 1)).Ay) ((gt v5 (An4 .i64 v12 1)).Acv) ((gt v5 (An4 .i64 v12 1)).Sn) ((gt v5 (An4 .i64 v12 1)).F4) ((gt v5 (An4 .i64 v12 1)).Fh))) fun v20=>(Atz K a1 v20))else none)else(Atz K a1 v5)))
def Aqg (K:Nat)(a0:List As)(a1:Int)(r1:(List As))(v27:Bool)(v28:Int)(v29:Int)(v30:Int)(v31:Int)(v32:Int)(v33:Int)(v34:Int)(v35:Int)(v36:List Int)(v37:Int)(v38:Int)(v39:List Bc)(v40:List Int):Option ((List As)):=(bif v27 then(if(0:Int)≤(An4 .i64 v31 1)∧(An4 .i64 v31 1)<(r1.length:Int)then(Aqh (r1.set (An4 .i64 v31 1).toNat (As.mk ((gt r1 (An4 .i64 v31 1)).Vg) ((gt r1 (An4 .i64 v31 1)).C8) ((gt r1 (An4 .i64 v31 1)).Sj) ((gt r1 (An4 .i64 v31 1)).fUp) ((gt r1 (An4 .i64 v31 1)).Sk) v34 ((gt r1 (An4 .i64 v31 1)).Sl) ((gt r1 (An4 .i64 v31 1)).Sm) ((gt r1 (An4 .i64 v31 1)).Ay) ((gt r1 (An4 .i64 v31 1)).Acv) ((gt r1 (An4 .i64 v31 1)).Sn) ((gt r1 (An4 .i64 v31 1)).F4) ((gt r1 (An4 .i64 v31 1)).Fh))) fun v41=>(Arm K a0 a1 v41 v28 v29 v30 v31 v32 v33 v34 v35 v36 v37 v38 v39 v40))else none)else(Arm K a0 a1 r1 v28 v29 v30 v31 v32 v33 v34 v35 v36 v37 v38 v39 v40))
def Ay1 (K:Nat)(a0:List As)(a1:Int):Option ((List As)):=((Ato K a0).bind fun r1=>((Ad6 K a0 (An3 .i64 a1 1)).bind fun r2=>(bif (!r2)then some r1 else(if(0:Int)≤a1∧a1<(a0.length:Int)then((Ad6 K a0 ((gt a0 a1).Sm)).bind fun r3=>(bif r3 then(if(0:Int)≤(An4 .i64 ((gt a0 a1).Sm) 1)∧(An4 .i64 ((gt a0 a1).Sm) 1)<(r1.length:Int)then(Aqh (r1.set (An4 .i64 ((gt a0 a1).Sm) 1).toNat (As.mk ((gt r1 (An4 .i64 ((gt a0 a1).Sm) 1)).Vg) ((gt r1 (An4 .i64 ((gt a0 a1).Sm) 1)).C8) ((gt r1 (An4 .i64 ((gt a0 a1).Sm) 1)).Sj) ((gt r1 (An4 .i64 ((gt a0 a1).Sm) 1)).fUp) ((gt r1 (An4 .i64 ((gt a0 a1).Sm) 1)).Sk) ((gt r1 (An4 .i64 ((gt a0 a1).Sm) 1)).Ee) ((gt a0 a1).Sl) ((gt r1 (An4 .i64 ((gt a0 a1).Sm) 1)).Sm) ((gt r1 (An4 .i64 ((gt a0 a1).Sm) 1)).Ay) ((gt r1 (An4 .i64 ((gt a0 a1).Sm) 1)).Acv) ((gt r1 (An4 .i64 ((gt a0 a1).Sm) 1)).Sn) ((gt r1 (An4 .i64 ((gt a0 a1).Sm) 1)).F4) ((gt r1 (An4 .i64 ((gt a0 a1).Sm) 1)).Fh))) fun v4=>(Arm K a0 a1 v4 ((gt a0 a1).Vg) ((gt a0 a1).C8) ((gt a0 a1).Sj) ((gt a0 a1).fUp) ((gt a0 a1).Sk) ((gt a0 a1).Ee) ((gt a0 a1).Sl) ((gt a0 a1).Sm) ((gt a0 a1).Ay) ((gt a0 a1).Acv) ((gt a0 a1).Sn) ((gt a0 a1).F4) ((gt a0 a1).Fh)))else none)else(bif (((gt a0 a1).Sm)==0)then((Ad6 K a0 ((gt a0 a1).fUp)).bind fun r26=>(bif r26 then(if(0:Int)≤(An4 .i64 ((gt a0 a1).fUp) 1)∧(An4 .i64 ((gt a0 a1).fUp) 1)<(a0.length:Int)then(Aqg K a0 a1 r1 (((gt a0 (An4 .i64 ((gt a0 a1).fUp) 1)).Ee)==(An3 .i64 a1 1)) ((gt a0 a1).Vg) ((gt a0 a1).C8) ((gt a0 a1).Sj) ((gt a0 a1).fUp) ((gt a0 a1).Sk) ((gt a0 a1).Ee) ((gt a0 a1).Sl) ((gt a0 a1).Sm) ((gt a0 a1).Ay) ((gt a0 a1).Acv) ((gt a0 a1).Sn) ((gt a0 a1).F4) ((gt a0 a1).Fh))else none)else(Aqg K a0 a1 r1 false ((gt a0 a1).Vg) ((gt a0 a1).C8) ((gt a0 a1).Sj) ((gt a0 a1).fUp) ((gt a0 a1).Sk) ((gt a0 a1).Ee) ((gt a0 a1).Sl) ((gt a0 a1).Sm) ((gt a0 a1).Ay) ((gt a0 a1).Acv) ((gt a0 a1).Sn) ((gt a0 a1).F4) ((gt a0 a1).Fh))))else(Aqg K a0 a1 r1 false ((gt a0 a1).Vg) ((gt a0 a1).C8) ((gt a0 a1).Sj) ((gt a0 a1).fUp) ((gt a0 a1).Sk) ((gt a0 a1).Ee) ((gt a0 a1).Sl) ((gt a0 a1).Sm) ((gt a0 a1).Ay) ((gt a0 a1).Acv) ((gt a0 a1).Sn) ((gt a0 a1).F4) ((gt a0 a1).Fh)))))else none))))
def Bm6:=fd Tryz.func162 ⟨[.v 29,.v 3],[.n 29 true],false⟩ (gC (Bd6 K) (gC (A5i K) gN)) [35,36,40,41,42] [31,63,499]
def Bvy:Ei:=⟨[(1,.v 2),(5,.o 1005 50 true)],[]⟩
def Byd:Ei:=⟨[(0,.v 29),(1,.v 2),(5,.o 1005 50 true),(6,.p 106)],[(106,.box [.v 2,.v 2,.v 2,.v 2,.v 2,.v 2,.v 2,.v 2,.v 26,.v 2,.v 2,.v 48,.v 26])]⟩
def Bye:Ei:=⟨[(0,.v 29),(1,.v 2),(5,.o 1005 50 true),(6,.p 106),(32,.v 4)],[(106,.box [.v 2,.v 2,.v 2,.v 2,.v 2,.v 2,.v 2,.v 2,.v 26,.v 2,.v 2,.v 48,.v 26])]⟩
def Bm7:=jn (Bm6 K) 63 Bvy [] (Atz K) kN
def Bd9:=jn (Bm6 K) 31 Byd [] (Arm K) (kC (Bm7 K) kN)
def Bh5:=jn (Bm6 K) 499 Bye [] (Aqg K) (kC (Bd9 K) kN)
def Bvz:=ct (Bm6 K) (Ay1 K) (kC (Bd9 K) (kC (Bh5 K) kN))
def At0 (K:Nat)(a0:C4)(a1:Int):Option (C4):=(if(0:Int)≤a1∧a1<(a0.fL.length:Int)then(if(0:Int)≤a1∧a1<(a0.fL.length:Int)then((Asj K (gt a0.fL a1) (An3 .i64 a1 1)).bind fun r1=>(if(0:Int)≤a1∧a1<(a0.fL.length:Int)then((Aqu K a0 ((gt a0.fL a1).Ay)).bind fun r2=>((Ay1 K r2.fL a1).bind fun r3=>(if(0:Int)≤a1∧a1<(r3.length:Int)then(if(0:Int)≤a1∧a1<(r3.length:Int)then((Azg K (gt r3 a1)).bind fun r4=>(if(0:Int)≤a1∧a1<(r3.length:Int)then(if(r2.fQ++([r1]:List Az)).length*72≤140737488355328∧(r2.fQ++([r1]:List Az)).length≤maxLen then some (C4.mk r2.fC r2.fP (r3.set a1.toNat r4) (r2.fQ++([r1]:List Az)) r2.Acw)else none)else none))else none)else none)))else none))else none)else none)
def Bpc:=ct (fd Tryz.func82 ⟨[.b 32 false,.v 3],[],false⟩ (gC (Bhp K) (gC (Bho K) (gC (Bvz K) (gC (Bo4 K) gN)))) [] [] [(0,[.take 1 9 5025,.opn 5025 (.tmp 1),.takeE 5025 11 41611,.takeE 5025 12 41612]),(1,[.put 1,.take 1 9 5025]),(2,[.take 1 9 5025,.frz 5025]),(3,[.opn 3031 (.tmp 1),.takeE 3031 11 41995,.takeE 3031 12 41996]),(4,[.take 1 10 5026,.frz 20448,.frz 20449])] [(23,[.put 1])]) (At0 K)
def Axx (K:Nat)(a0:Az):Option (Az):=(if(([]:List Int)++a0.Fh).length*8≤140737488355328∧(([]:List Int)++a0.Fh).length≤maxLen then(if(([]:List Int)++a0.Ay).length*8≤140737488355328∧(([]:List Int)++a0.Ay).length≤maxLen then some (Az.mk a0.Bk a0.Ee (([]:List Int)++a0.Fh) (([]:List Int)++a0.Ay) a0.Wv)else none)else none)
def Bv0:=ct (fd Tryz.func159 ⟨[.v 52],[.n 52 true],true⟩ gN) (Axx K)
def Apt (K:Nat):Nat->Int->Int->Int->Int->Int->Int->Int->(List Int)->(List Int)->(List Int)->(List As)->(List Az)->(List Int)->C4->Int->Int->Int->Int->Int->Int->(List Int)->(List Int)->(List Int)->(List As)->(List Az)->(List Int)->Option (C4)
 |0,_,_,_,_,_,_,_,_,_,_,_,_,_,_,_,_,_,_,_,_,_,_,_,_,_,_=>none
 |n1+1,v3,v4,v5,v6,v7,v8,v9,v10,v11,v12,v13,v14,v15,v16,v17,v18,v19,v20,v21,v22,v23,v24,v25,v26,v27,v28=>(bif (decide (v3<(v27.length:Int)))then(if(0:Int)≤v3∧v3<(v27.length:Int)then((Axx K (gt v27 v3)).bind fun r29=>(if(v14++[r29]).length*72≤140737488355328∧(v14++[r29]).length≤maxLen then(Apt K n1 (An3 .i64 v3 1) v4 v5 v6 v7 v8 v9 v10 v11 v12 v13 (v14++[r29]) v15 v16 v17 v18 v19 v20 v21 v22 v23 v24 v25 v26 v27 v28)else none))else none)else(if(([]:List Int)++v28).length*8≤140737488355328∧(([]:List Int)++v28).length≤maxLen then some (C4.mk (D9.mk v4 v5 v6 v7 v8 v9) (Dm.mk v10 v11 v12) v13 v14 (([]:List Int)++v28))else none))
def Ang (K:Nat)(a0:C4):Option (C4):=((Aqt K a0.fP).bind fun r1=>((Ato K a0.fL).bind fun r2=>(Apt K K 0 a0.fC.Ay a0.fC.G6 a0.fC.E5 a0.fC.Gs a0.fC.E6 a0.fC.G7 r1.N5 r1.Vg r1.N6 r2 ([]:List Az) a0.Acw (C4.mk (D9.mk 0 0 0 0 0 0) (Dm.mk [] [] []) [] [] []) a0.fC.Ay a0.fC.G6 a0.fC.E5 a0.fC.Gs a0.fC.E6 a0.fC.G7 a0.fP.N5 a0.fP.Vg a0.fP.N6 a0.fL a0.fQ a0.Acw)))
def Bv1:=fd Tryz.func80 ⟨[.v 32],[.n 32 true],false⟩ (gC (Bd4 K) (gC (Bd6 K) (gC (Bv0 K) gN))) [] [] [(9,[.take 103 10 6658]),(11,[.take 103 6 6654,.take 103 7 6655,.take 103 8 6656,.take 103 9 6657,.take 103 10 6658])] [(33,[.put 3033])]
def Byf:Ei:=⟨[(1,.p 101),(2,.p 102),(3,.p 103),(4,.v 2)],[(103,.box [.v 2,.v 2,.v 2,.v 2,.v 2,.v 2,.T 5 true,.T 3 true,.T 3 true,.T 50 true,.T 52 true,.v 26]),(102,.st 32 true),(101,.box [.v 2,.v 2,.v 2,.v 2,.v 2,.v 2,.v 22,.v 26,.v 26,.v 29,.v 30,.v 26])]⟩
def Bh6:=lp (Bv1 K) 506 Byf [] (Apt K) (fun n=>kN)
def A6l:=ct (Bv1 K) (Ang K) (kC (Bh6 K K) kN)
def Ap2 (K:Nat)(a0:List As)(a1:Int):Option (Bool):=(bif (a1==0)then some true else((Ad6 K a0 a1).bind fun r1=>(bif r1 then(if(0:Int)≤(An4 .i64 a1 1)∧(An4 .i64 a1 1)<(a0.length:Int)then some (((gt a0 (An4 .i64 a1 1)).Vg)==1)else none)else some false)))
def Bv2:=ct (fd Tryz.func256 ⟨[.v 29,.v 3],[.v 4],true⟩ (gC (A5i K) gN) [6,7,10,11]) (Ap2 K)
def Ass (K:Nat)(a0:List As)(a1:Int):Option (Bool):=((Axf K a0 a1).bind fun r19=>(bif (decide ((r19.length:Int)≤4))then(if(0:Int)≤(An4 .i64 (r19.length:Int) 1)∧(An4 .i64 (r19.length:Int) 1)<(r19.length:Int)then((Arr K a0 (gt r19 (An4 .i64 (r19.length:Int) 1))).bind fun r20=>some (!r20))else none)else some false))
def Au4 (K:Nat)(a0:List As)(a1:Int)(v8:Int)(v12:Int):Option (Bool):=(bif (v12==0)then((Arr K a0 a1).bind fun r18=>(bif r18 then(if(0:Int)≤(An4 .i64 v8 1)∧(An4 .i64 v8 1)<(a0.length:Int)then(bif (((gt a0 (An4 .i64 v8 1)).Ee) != (An3 .i64 a1 1))then some false else(Ass K a0 a1))else none)else(Ass K a0 a1)))else(Ass K a0 a1))
def Au5 (K:Nat)(a0:List As)(a1:Int)(v8:Int)(v12:Int):Option (Bool):=(bif (v12 != 0)then(if(0:Int)≤(An4 .i64 v12 1)∧(An4 .i64 v12 1)<(a0.length:Int)then(bif (((gt a0 (An4 .i64 v12 1)).Sl) != (An3 .i64 a1 1))then some false else(Au4 K a0 a1 v8 v12))else none)else(Au4 K a0 a1 v8 v12))
def Au6 (K:Nat)(a0:List As)(a1:Int)(v8:Int)(v9:Int)(v11:Int)(v12:Int):Option (Bool):=(bif (v11 != 0)then(if(0:Int)≤(An4 .i64 v11 1)∧(An4 .i64 v11 1)<(a0.length:Int)then(bif (((gt a0 (An4 .i64 v11 1)).Sm) != (An3 .i64 a1 1))then some false else(bif (((gt a0 (An4 .i64 v11 1)).fUp) != v8)then some false else(bif (((gt a0 (An4 .i64 v11 1)).Sk) != v9)then some false else(Au5 K a0 a1 v8 v12))))else none)else(Au5 K a0 a1 v8 v12))
def Au7 (K:Nat)(a0:List As)(a1:Int)(v5:Int)(v6:Int)(v7:Int)(v8:Int)(v9:Int)(v10:Int)(v11:Int)(v12:Int)(v13:List Int)(v14:Int)(v15:Int)(v16:List Bc)(v17:List Int):Option (Bool):=(bif (v10 != 0)then(if(0:Int)≤(An4 .i64 v10 1)∧(An4 .i64 v10 1)<(a0.length:Int)then(bif (((gt a0 (An4 .i64 v10 1)).Sm) != 0)then some false else(bif (((gt a0 (An4 .i64 v10 1)).fUp) != (An3 .i64 a1 1))then some false else(bif (((gt a0 (An4 .i64 v10 1)).Sk) != v7)then some false else(Au6 K a0 a1 v8 v9 v11 v12))))else none)else(Au6 K a0 a1 v8 v9 v11 v12))
def Azx (K:Nat)(a0:List As)(a1:Int):Option (Bool):=(if(0:Int)≤a1∧a1<(a0.length:Int)then(bif (((gt a0 a1).fUp) != 0)then((Ad6 K a0 ((gt a0 a1).fUp)).bind fun r1=>(bif r1 then((Ap2 K a0 ((gt a0 a1).Ee)).bind fun r2=>(bif r2 then((Ap2 K a0 ((gt a0 a1).Sl)).bind fun r3=>(bif r3 then((Ap2 K a0 ((gt a0 a1).Sm)).bind fun r4=>(bif (!r4)then some false else(Au7 K a0 a1 ((gt a0 a1).Vg) ((gt a0 a1).C8) ((gt a0 a1).Sj) ((gt a0 a1).fUp) ((gt a0 a1).Sk) ((gt a0 a1).Ee) ((gt a0 a1).Sl) ((gt a0 a1).Sm) ((gt a0 a1).Ay) ((gt a0 a1).Acv) ((gt a0 a1).Sn) ((gt a0 a1).F4) ((gt a0 a1).Fh))))else some false))else some false))else some false))else((Ap2 K a0 ((gt a0 a1).Ee)).bind fun r21=>(bif r21 then((Ap2 K a0 ((gt a0 a1).Sl)).bind fun r22=>(bif r22 then((Ap2 K a0 ((gt a0 a1).Sm)).bind fun r23=>(bif (!r23)then some false else(Au7 K a0 a1 ((gt a0 a1).Vg) ((gt a0 a1).C8) ((gt a0 a1).Sj) ((gt a0 a1).fUp) ((gt a0 a1).Sk) ((gt a0 a1).Ee) ((gt a0 a1).Sl) ((gt a0 a1).Sm) ((gt a0 a1).Ay) ((gt a0 a1).Acv) ((gt a0 a1).Sn) ((gt a0 a1).F4) ((gt a0 a1).Fh))))else some false))else some false)))else none)
def Bfd:=fd Tryz.func193 ⟨[.v 29,.v 3],[.v 4],true⟩ (gC (Bhb K) (gC (Bhc K) (gC (A5i K) (gC (Bv2 K) gN)))) [15,16,20,21,22,23,27,28,29,30,34,35,36,37,55,56,61,62,63,83,84,89,90,91,100,101,115,116,119,120,121,138,139] [7,15,31,63,127]
def Byg:Ei:=⟨[(0,.v 29),(1,.v 2)],[]⟩
def Baq:Ei:=⟨[(0,.v 29),(1,.v 2),(5,.p 105)],[(105,.box [.v 2,.v 2,.v 2,.v 2,.v 2,.v 2,.v 2,.v 2,.v 26,.v 2,.v 2,.v 48,.v 26])]⟩
def Bh7:=jn (Bfd K) 127 Byg [] (Ass K) kN
def Bm8:=jn (Bfd K) 63 Baq [] (fun a b _ _ _ f _ _ _ j _ _ _ _ _=>Au4 K a b f j) (kC (Bh7 K) kN)
def Bm9:=jn (Bfd K) 31 Baq [] (fun a b _ _ _ f _ _ _ j _ _ _ _ _=>Au5 K a b f j) (kC (Bm8 K) kN)
def Bna:=jn (Bfd K) 15 Baq [] (fun a b _ _ _ f g _ i j _ _ _ _ _=>Au6 K a b f g i j) (kC (Bm9 K) kN)
def Bqv:=jn (Bfd K) 7 Baq [] (Au7 K) (kC (Bna K) kN)
def Bv3:=ct (Bfd K) (Azx K) (kC (Bqv K) kN)
def Awr (K:Nat)(v1:Int)(C1:Int->Option (Bool)):Option (Bool):=(C1 (An3 .i64 v1 1))
def Api (K:Nat)(a0:List As):Nat->Int->Option (Bool)
 |0,_=>none
 |n1+1,v1=>(bif (decide (v1<(a0.length:Int)))then(if(0:Int)≤v1∧v1<(a0.length:Int)then(bif (((gt a0 v1).Vg)==1)then((Azx K a0 v1).bind fun r2=>(bif (!r2)then some false else(Awr K v1 (Api K a0 n1))))else(Awr K v1 (Api K a0 n1)))else none)else some true)
def Ay2 (K:Nat)(a0:List As):Option (Bool):=(Api K a0 K 0)
def Bqw:=fd Tryz.func99 ⟨[.v 29],[.v 4],true⟩ (gC (Bv3 K) gN) [15,16] [105]
def Bh8:=fun(C26:CT Bhs _)=>jn (Bqw K) 105 Bhs [(26,ar Bhs C26)] (fun a b=>Awr K b (C26 a)) kN
def Bnb:=lp (Bqw K) 26 Bhs [] (fun n a=>Api K a n) (fun n=>(kC (Bh8 K _) kN))
def Bv4:=ct (Bqw K) (Ay2 K) (kC (Bnb K K) kN)
def Avm (K:Nat)(v2:Int)(v3:List Int)(v4:List Int)(v5:List Int)(C1:Int->Int->(List Int)->(List Int)->(List Int)->Option (Int))(v6:Int):Option (Int):=(C1 v6 (An3 .i64 v2 1) v3 v4 v5)
def Ant (K:Nat)(a1:Int):Nat->Int->Int->(List Int)->(List Int)->(List Int)->Option (Int)
 |0,_,_,_,_,_=>none
 |n1+1,v1,v2,v3,v4,v5=>(bif (decide (v2<(v4.length:Int)))then(if(0:Int)≤v2∧v2<(v4.length:Int)then(bif ((gt v4 v2)==a1)then(Avm K v2 v3 v4 v5 (Ant K a1 n1) (An3 .i64 v1 1))else(Avm K v2 v3 v4 v5 (Ant K a1 n1) v1))else none)else some v1)
def Axy (K:Nat)(a0:Dm)(a1:Int):Option (Int):=(Ant K a1 K 0 0 a0.N5 a0.Vg a0.N6)
def Bqx:=fd Tryz.func201 ⟨[.v 28,.v 3],[.v 3],true⟩ gN [] [233]
def Bnc:Ei:=⟨[(1,.v 2),(2,.p 102),(5,.v 2),(6,.v 2)],[(102,.box [.v 22,.v 26,.v 26])]⟩
def Bh9:=fun(C58:CT Bnc _)=>jn Bqx 233 Bnc [(58,ar Bnc C58)] (fun a b c d e f=>Avm K c d e f (C58 a) b) kN
def Bnd:=lp Bqx 58 Bnc [] (fun n a=>Ant K a n) (fun n=>(kC (Bh9 K _) kN))
def Bv5:=ct Bqx (Axy K) (kC (Bnd K K) kN)
def Ast (K:Nat)(a0:List As)(a1:Int):Option (Bool):=(if(0:Int)≤a1∧a1<(a0.length:Int)then(bif (((gt a0 a1).Vg)==1)then(if(0:Int)≤a1∧a1<(a0.length:Int)then(bif (((gt a0 a1).fUp) != 0)then((Arr K a0 a1).bind fun r1=>some (!r1))else some false)else none)else some false)else none)
def Bpd:=ct (fd Tryz.func200 ⟨[.v 29,.v 3],[.v 4],true⟩ (gC (Bhc K) gN) [10,11,17,18,19]) (Ast K)
def At1 (K:Nat)(a0:List As):Nat->Int->(List Int)->Option ((List Int))
 |0,_,_=>none
 |n1+1,v1,v2=>((Ad6 K a0 v1).bind fun r3=>(bif r3 then(bif (decide ((v2.length:Int)<(a0.length:Int)))then(if(v2++([(An4 .i64 v1 1)]:List Int)).length*8≤140737488355328∧(v2++([(An4 .i64 v1 1)]:List Int)).length≤maxLen then(if(0:Int)≤(An4 .i64 v1 1)∧(An4 .i64 v1 1)<(a0.length:Int)then(At1 K a0 n1 ((gt a0 (An4 .i64 v1 1)).Sl) (v2++([(An4 .i64 v1 1)]:List Int)))else none)else none)else some v2)else some v2))
def Awa (K:Nat)(a0:List As)(a1:Int):Option ((List Int)):=(At1 K a0 K a1 ([]:List Int))
def Bv6:=fd Tryz.func199 ⟨[.v 29,.v 3],[.n 26 true],true⟩ (gC (A5i K) gN) [9,10]
def Bne:=lp (Bv6 K) 28 h_4 [] (fun n a=>At1 K a n) (fun n=>kN)
def Bpe:=ct (Bv6 K) (Awa K) (kC (Bne K K) kN)
def Anl (K:Nat)(v4:Int)(v15:List Az)(v20:List Int)(v21:Int)(C3:(List Int)->Int->Option (Bool)):Nat->Int->Option (Bool)
 |0,_=>none
 |n5+1,v22=>(if(0:Int)≤v4∧v4<(v15.length:Int)then(bif (decide (v22<(((gt v15 v4).Ay).length:Int)))then(if(0:Int)≤v21∧v21<(v15.length:Int)then(if(0:Int)≤v4∧v4<(v15.length:Int)then(if(0:Int)≤v22∧v22<(((gt v15 v4).Ay).length:Int)then((Ap0 K ((gt v15 v21).Ay) (gt ((gt v15 v4).Ay) v22)).bind fun r23=>(bif r23 then some false else(Anl K v4 v15 v20 v21 C3 n5 (An3 .i64 v22 1))))else none)else none)else none)else(C3 v20 (An3 .i64 v21 1)))else none)
def Aq9 (K:Nat)(v4:Int)(v15:List Az)(v20:List Int)(v21:Int)(C3:(List Int)->Int->Option (Bool)):Option (Bool):=(Anl K v4 v15 v20 v21 (C3) K 0)
def Ak2 (K:Nat)(v4:Int)(v5:Int)(v6:Int)(v7:Int)(v8:Int)(v9:Int)(v10:Int)(v11:List Int)(v12:List Int)(v13:List Int)(v14:List As)(v15:List Az)(v16:List Int)(v17:Int)(v18:Int)(C1:Int->Int->(List Int)->Int->Int->Int->Int->Int->Int->Int->(List Int)->(List Int)->(List Int)->(List As)->(List Az)->(List Int)->Option (Bool)):Nat->(List Int)->Int->Option (Bool)
 |0,_,_=>none
 |n3+1,v20,v21=>(bif (decide (v21<v4))then(if(0:Int)≤v4∧v4<(v15.length:Int)then(bif (((gt v15 v4).Bk) != 0)then(if(0:Int)≤v21∧v21<(v15.length:Int)then(if(0:Int)≤v4∧v4<(v15.length:Int)then(bif (((gt v15 v21).Bk)==((gt v15 v4).Bk))then some false else(Aq9 K v4 v15 v20 v21 (Ak2 K v4 v5 v6 v7 v8 v9 v10 v11 v12 v13 v14 v15 v16 v17 v18 C1 n3)))else none)else none)else(Aq9 K v4 v15 v20 v21 (Ak2 K v4 v5 v6 v7 v8 v9 v10 v11 v12 v13 v14 v15 v16 v17 v18 C1 n3)))else none)else(C1 v17 v18 v20 (An3 .i64 v4 1) v5 v6 v7 v8 v9 v10 v11 v12 v13 v14 v15 v16))
def Ara (K:Nat)(v3:List Int)(v4:Int)(v5:Int)(v6:Int)(v7:Int)(v8:Int)(v9:Int)(v10:Int)(v11:List Int)(v12:List Int)(v13:List Int)(v14:List As)(v15:List Az)(v16:List Int)(C1:Int->Int->(List Int)->Int->Int->Int->Int->Int->Int->Int->(List Int)->(List Int)->(List Int)->(List As)->(List Az)->(List Int)->Option (Bool))(v17:Int)(v18:Int):Option (Bool):=(if(0:Int)≤v4∧v4<(v15.length:Int)then((Awa K v14 ((gt v15 v4).Ee)).bind fun r19=>(if(v3++r19).length*8≤140737488355328∧(v3++r19).length≤maxLen then(Ak2 K v4 v5 v6 v7 v8 v9 v10 v11 v12 v13 v14 v15 v16 v17 v18 (C1) K (v3++r19) 0)else none))else none)
def Atp (K:Nat)(v25:Int)(C6:Int->Int->Option (Bool))(v27:Int):Option (Bool):=(C6 v27 (An3 .i64 v25 1))
def Ak4 (K:Nat)(v1:Int)(v2:Int)(v3:List Int)(v11:List Int)(v12:List Int)(v13:List Int)(v14:List As)(v24:Int):Nat->Int->Option (Bool)
 |0,_=>none
 |n8+1,v28=>(bif (decide (v28<(v3.length:Int)))then(if(0:Int)≤0∧0≤v28∧v28≤(v3.length:Int)then(if(0:Int)≤v28∧v28<(v3.length:Int)then((Ap0 K ((v3.drop (0:Int).toNat).take (v28 - 0).toNat) (gt v3 v28)).bind fun r29=>(bif r29 then some false else(Ak4 K v1 v2 v3 v11 v12 v13 v14 v24 n8 (An3 .i64 v28 1))))else none)else none)else((Axy K (Dm.mk v11 v12 v13) 2).bind fun r30=>(bif (v1==r30)then((Ap8 K v14 2).bind fun r31=>(bif (v2==r31)then some ((v3.length:Int)==v24)else some false))else some false)))
def Ag7 (K:Nat)(v1:Int)(v2:Int)(v3:List Int)(v11:List Int)(v12:List Int)(v13:List Int)(v14:List As):Nat->Int->Int->Option (Bool)
 |0,_,_=>none
 |n6+1,v24,v25=>(bif (decide (v25<(v14.length:Int)))then((Ast K v14 v25).bind fun r26=>(bif r26 then(Atp K v25 (Ag7 K v1 v2 v3 v11 v12 v13 v14 n6) (An3 .i64 v24 1))else(Atp K v25 (Ag7 K v1 v2 v3 v11 v12 v13 v14 n6) v24)))else(Ak4 K v1 v2 v3 v11 v12 v13 v14 v24 K 0))
def Ae5 (K:Nat):Nat->Int->Int->(List Int)->Int->Int->Int->Int->Int->Int->Int->(List Int)->(List Int)->(List Int)->(List As)->(List Az)->(List Int)->Option (Bool)
 |0,_,_,_,_,_,_,_,_,_,_,_,_,_,_,_,_=>none
 |n1+1,v1,v2,v3,v4,v5,v6,v7,v8,v9,v10,v11,v12,v13,v14,v15,v16=>(bif (decide (v4<(v15.length:Int)))then(if(0:Int)≤v4∧v4<(v15.length:Int)then(if(0:Int)≤v4∧v4<(v15.length:Int)then(bif (((gt v15 v4).Bk) != 0)then(Ara K v3 v4 v5 v6 v7 v8 v9 v10 v11 v12 v13 v14 v15 v16 (Ae5 K n1) (An3 .i64 v1 (((gt v15 v4).Ay).length:Int)) (An3 .i64 v2 1))else(Ara K v3 v4 v5 v6 v7 v8 v9 v10 v11 v12 v13 v14 v15 v16 (Ae5 K n1) (An3 .i64 v1 (((gt v15 v4).Ay).length:Int)) v2))else none)else none)else(Ag7 K v1 v2 v3 v11 v12 v13 v14 K 0 0))
def Avn (K:Nat)(a0:C4):Option (Bool):=(Ae5 K K 0 0 ([]:List Int) 0 a0.fC.Ay a0.fC.G6 a0.fC.E5 a0.fC.Gs a0.fC.E6 a0.fC.G7 a0.fP.N5 a0.fP.Vg a0.fP.N6 a0.fL a0.fQ a0.Acw)
def A82:=fd Tryz.func107 ⟨[.v 32],[.v 4],true⟩ (gC (Bap K) (gC (Bpe K) (gC (Bpd K) (gC (Bv5 K) (gC (Bo0 K) gN))))) [60,61,134,135,140,141,142] [4073,8009,2050532]
def Byh:Ei:=⟨[(1,.p 101),(3,.v 2),(4,.v 2),(5,.o 1005 3 true),(6,.v 2),(7,.v 2),(8,.v 2)],[(101,.box [.v 2,.v 2,.v 2,.v 2,.v 2,.v 2,.v 22,.v 26,.v 26,.v 29,.v 30,.v 26])]⟩
def Bfe:Ei:=⟨[(1,.p 101),(3,.v 2),(4,.v 2),(5,.o 1005 3 true),(6,.v 2),(7,.v 2)],[(101,.box [.v 2,.v 2,.v 2,.v 2,.v 2,.v 2,.v 22,.v 26,.v 26,.v 29,.v 30,.v 26])]⟩
def A7y:Ei:=⟨[(1,.p 101),(3,.v 2),(4,.v 2),(5,.o 1005 3 true),(6,.v 2)],[(101,.box [.v 2,.v 2,.v 2,.v 2,.v 2,.v 2,.v 22,.v 26,.v 26,.v 29,.v 30,.v 26])]⟩
def Bnf:Ei:=⟨[(1,.p 101),(3,.v 2),(4,.v 2),(5,.o 1005 3 true),(9,.v 2),(10,.v 2)],[(101,.box [.v 2,.v 2,.v 2,.v 2,.v 2,.v 2,.v 22,.v 26,.v 26,.v 29,.v 30,.v 26])]⟩
def Byi:Ei:=⟨[(1,.p 101),(3,.v 2),(4,.v 2),(5,.o 1005 3 true),(9,.v 2),(11,.v 2)],[(101,.box [.v 2,.v 2,.v 2,.v 2,.v 2,.v 2,.v 22,.v 26,.v 26,.v 29,.v 30,.v 26])]⟩
def A7z:=fun(C250:CT A7y _) (C128158:CT Bfe _)=>lp (A82 K) 16404262 Byh [(128158,ar Bfe C128158),(250,ar A7y C250)] (fun n a b c d e f g h i j k l m o p q r s=>Anl K d r c e (fun v20 v21=>C128158 a b v20 d v21 g h i j k l m o p q r s) n f) (fun n=>kN)
def A83:=fun(C250:CT A7y _) (C128158:CT Bfe _)=>jn (A82 K) 2050532 Bfe [(128158,ar Bfe C128158),(250,ar A7y C250)] (fun a b c d e f g h i j k l m o p q r=>Aq9 K d q c e (fun v20 v21=>C128158 a b v20 d v21 f g h i j k l m o p q r)) (kC (A7z K _ _ K) kN)
def Bar:=fun(C250:CT A7y _)=>lp (A82 K) 128158 Bfe [(250,ar A7y C250)] (fun n a b c d e f g h i j k l m o p q r=>Ak2 K d f g h i j k l m o p q r a b C250 n c e) (fun n=>(kC (A83 K _ _) kN))
def Bff:=fun(C250:CT A7y _)=>jn (A82 K) 8009 A7y [(250,ar A7y C250)] (fun a b c d e f g h i j k l m o p q=>Ara K c d e f g h i j k l m o p q C250 a b) (kC (Bar K _ K) kN)
def Bfg:=fun(C1018:CT Bnf _)=>jn (A82 K) 4073 Bnf [(1018,ar Bnf C1018)] (fun a b c d e f g h i j k l m o p q r=>Atp K e (fun v24 v25=>C1018 a b c v24 v25 f g h i j k l m o p q r) d) kN
def Bfh:=lp (A82 K) 2042 Byi [] (fun n a b c d e _ _ _ _ _ _ l m o p _ _=>Ak4 K a b c l m o p d n e) (fun n=>kN)
def Bfi:=lp (A82 K) 1018 Bnf [] (fun n a b c d e _ _ _ _ _ _ l m o p _ _=>Ag7 K a b c l m o p n d e) (fun n=>(kC (Bfg K _) (kC (up (Bfh K K)) kN)))
def Bia:=lp (A82 K) 250 A7y [] (Ae5 K) (fun n=>(kC (Bff K _) (kC (up (Bfi K K)) kN)))
def Bv7:=ct (A82 K) (Avn K) (kC (Bia K K) kN)
def Anu (K:Nat)(a0:D9)(v8:List Int):Nat->Int->Option (Bool)
 |0,_=>none
 |n3+1,v12=>(bif (decide (v12<(v8.length:Int)))then(if(0:Int)≤v12∧v12<(v8.length:Int)then((Gx K (gt v8 v12) 0 (An4 .i64 a0.Ay 1)).bind fun r13=>(bif r13 then(if(0:Int)≤0∧0≤v12∧v12≤(v8.length:Int)then(if(0:Int)≤v12∧v12<(v8.length:Int)then((Ap0 K ((v8.drop (0:Int).toNat).take (v12 - 0).toNat) (gt v8 v12)).bind fun r14=>(bif r14 then some false else(Anu K a0 v8 n3 (An3 .i64 v12 1))))else none)else none)else some false))else none)else some true)
def Apu (K:Nat)(a0:D9)(v7:List Int)(v8:List Int):Nat->Int->Option (Bool)
 |0,_=>none
 |n2+1,v10=>(bif (decide (v10<(v7.length:Int)))then(if(0:Int)≤v10∧v10<(v7.length:Int)then((Gx K (gt v7 v10) 0 255).bind fun r11=>(bif (!r11)then some false else(Apu K a0 v7 v8 n2 (An3 .i64 v10 1))))else none)else(Anu K a0 v8 K 0))
def Avo (K:Nat)(a0:D9)(v5:Int)(v6:Int)(v7:List Int)(v8:List Int)(v9:Int):Option (Bool):=(Apu K a0 v7 v8 K 0)
def Axz (K:Nat)(a0:D9)(a1:Az):Option (Bool):=((Anc K a0).bind fun r1=>(bif r1 then((Gx K a1.Bk 0 a0.E5).bind fun r2=>(bif r2 then((Gx K a1.Ee 0 a0.E5).bind fun r3=>(bif r3 then(bif (decide ((a1.Fh.length:Int)>6))then some false else((Gx K a1.Wv 0 (An4 .i64 a0.G6 1)).bind fun r4=>(bif r4 then(bif ((a1.Ay.length:Int)==0)then(bif (a1.Wv != 0)then some false else(Avo K a0 a1.Bk a1.Ee a1.Fh a1.Ay a1.Wv))else(Avo K a0 a1.Bk a1.Ee a1.Fh a1.Ay a1.Wv))else some false)))else some false))else some false))else some false))
def Bng:=fd Tryz.func198 ⟨[.v 25,.v 52],[.v 4],true⟩ (gC (Bal K) (gC (A02 K) (gC (Bap K) gN))) [8,9,10,15,16,17,18,23,24,25,26,30,31,32,38,39,40,41,45,46,81,82,83] [3]
def Byj:Ei:=⟨[(2,.p 102),(3,.p 103),(6,.v 2)],[(103,.box [.v 2,.v 2,.v 26,.v 26,.v 2]),(102,.st 25 true)]⟩
def Byk:Ei:=⟨[(2,.p 102),(3,.p 103),(5,.v 2)],[(103,.box [.v 2,.v 2,.v 26,.v 26,.v 2]),(102,.st 25 true)]⟩
def Byl:Ei:=⟨[(2,.p 102),(3,.p 103)],[(103,.box [.v 2,.v 2,.v 26,.v 26,.v 2]),(102,.st 25 true)]⟩
def Bib:=lp (Bng K) 122 Byj [] (fun n a _ _ _ e _ g=>Anu K g e n a) (fun n=>kN)
def Bnh:=lp (Bng K) 58 Byk [] (fun n a _ _ d e _ g=>Apu K g d e n a) (fun n=>(kC (up (Bib K K)) kN))
def Bqy:=jn (Bng K) 3 Byl [] (fun a b c d e f=>Avo K f a b c d e) (kC (Bnh K K) kN)
def Bv8:=ct (Bng K) (Axz K) (kC (Bqy K) kN)
def Aqa (K:Nat)(v17:List As)(r21:(List Int)):Nat->Int->Option (Bool)
 |0,_=>none
 |n4+1,v22=>(bif (decide (v22<(r21.length:Int)))then(if(0:Int)≤v22∧v22<(r21.length:Int)then((Ast K v17 (gt r21 v22)).bind fun r23=>(bif (!r23)then some false else(Aqa K v17 r21 n4 (An3 .i64 v22 1))))else none)else some true)
def Ao6 (K:Nat)(v4:Int)(v17:List As):Option (Bool):=((Awa K v17 v4).bind fun r21=>(Aqa K v17 r21 K 0))
def Arw (K:Nat)(v3:Int)(v4:Int)(v17:List As):Option (Bool):=(bif (v3 != 0)then(if(0:Int)≤(An4 .i64 v3 1)∧(An4 .i64 v3 1)<(v17.length:Int)then(bif (((gt v17 (An4 .i64 v3 1)).Vg) != 2)then some false else(bif (v4 != 0)then(if(0:Int)≤(An4 .i64 v4 1)∧(An4 .i64 v4 1)<(v17.length:Int)then(bif (((gt v17 (An4 .i64 v4 1)).Sm) != 0)then some false else(Ao6 K v4 v17))else none)else(Ao6 K v4 v17)))else none)else(bif (v4 != 0)then(if(0:Int)≤(An4 .i64 v4 1)∧(An4 .i64 v4 1)<(v17.length:Int)then(bif (((gt v17 (An4 .i64 v4 1)).Sm) != 0)then some false else(Ao6 K v4 v17))else none)else(Ao6 K v4 v17)))
def Ao7 (K:Nat):Nat->Int->Int->Int->(List Int)->(List Int)->Int->Int->Int->Int->Int->Int->Int->(List Int)->(List Int)->(List Int)->(List As)->(List Az)->(List Int)->Option (Bool)
 |0,_,_,_,_,_,_,_,_,_,_,_,_,_,_,_,_,_,_=>none
 |n1+1,v2,v3,v4,v5,v6,v7,v8,v9,v10,v11,v12,v13,v14,v15,v16,v17,v18,v19=>(bif (decide (v2<(v6.length:Int)))then(if(0:Int)≤v2∧v2<(v6.length:Int)then(if(0:Int)≤(gt v6 v2)∧(gt v6 v2)<(v15.length:Int)then(bif ((gt v15 (gt v6 v2)) != 2)then some false else(Ao7 K n1 (An3 .i64 v2 1) v3 v4 v5 v6 v7 v8 v9 v10 v11 v12 v13 v14 v15 v16 v17 v18 v19))else none)else none)else(bif (decide ((v6.length:Int)>0))then(if(0:Int)≤0∧0<(v6.length:Int)then(if(0:Int)≤0∧0<(v6.length:Int)then(if(0:Int)≤(An5 .i64 (gt v6 0) v9)∧(An5 .i64 (gt v6 0) v9)≤(An3 .i64 (An5 .i64 (gt v6 0) v9) v7)∧(An3 .i64 (An5 .i64 (gt v6 0) v9) v7)≤(v14.length:Int)then((Ar4 K ((v14.drop (An5 .i64 (gt v6 0) v9).toNat).take ((An3 .i64 (An5 .i64 (gt v6 0) v9) v7) - (An5 .i64 (gt v6 0) v9)).toNat)).bind fun r20=>(bif (!r20)then some false else(Arw K v3 v4 v17)))else none)else none)else none)else(Arw K v3 v4 v17)))
def Aws (K:Nat)(a0:C4)(a1:Int):Option (Bool):=(if(0:Int)≤a1∧a1<(a0.fQ.length:Int)then((Axz K a0.fC (gt a0.fQ a1)).bind fun r1=>(bif (!r1)then some false else(Ao7 K K 0 ((gt a0.fQ a1).Bk) ((gt a0.fQ a1).Ee) ((gt a0.fQ a1).Fh) ((gt a0.fQ a1).Ay) ((gt a0.fQ a1).Wv) a0.fC.Ay a0.fC.G6 a0.fC.E5 a0.fC.Gs a0.fC.E6 a0.fC.G7 a0.fP.N5 a0.fP.Vg a0.fP.N6 a0.fL a0.fQ a0.Acw)))else none)
def Bic:=fd Tryz.func105 ⟨[.v 32,.v 3],[.v 4],true⟩ (gC (Bd5 K) (gC (Bv8 K) (gC (Bpe K) (gC (Bpd K) gN)))) [40,41,70,71,80,81,82,85,86] [31,63]
def Bym:Ei:=⟨[(2,.p 102),(7,.v 26),(8,.v 2)],[(102,.box [.v 2,.v 2,.v 2,.v 2,.v 2,.v 2,.v 22,.v 26,.v 26,.v 29,.v 30,.v 26])]⟩
def Bv9:Ei:=⟨[(2,.p 102),(5,.p 105)],[(105,.box [.v 2,.v 2,.v 26,.v 26,.v 2]),(102,.box [.v 2,.v 2,.v 2,.v 2,.v 2,.v 2,.v 22,.v 26,.v 26,.v 29,.v 30,.v 26])]⟩
def Byn:Ei:=⟨[(2,.p 102),(5,.p 105),(6,.v 2)],[(105,.box [.v 2,.v 2,.v 26,.v 26,.v 2]),(102,.box [.v 2,.v 2,.v 2,.v 2,.v 2,.v 2,.v 22,.v 26,.v 26,.v 29,.v 30,.v 26])]⟩
def Bfj:=lp (Bic K) 2042 Bym [] (fun n a b _ _ _ _ _ _ _ _ _ l _ _=>Aqa K l a n b) (fun n=>kN)
def Bni:=jn (Bic K) 63 Bv9 [] (fun _ b _ _ _ _ _ _ _ _ _ _ _ _ p _ _=>Ao6 K b p) (kC (Bfj K K) kN)
def Bnj:=jn (Bic K) 31 Bv9 [] (fun a b _ _ _ _ _ _ _ _ _ _ _ _ p _ _=>Arw K a b p) (kC (Bni K) kN)
def Bid:=lp (Bic K) 122 Byn [] (Ao7 K) (fun n=>(kC (up (Bnj K)) kN))
def Bwa:=ct (Bic K) (Aws K) (kC (Bid K K) kN)
def Anm (K:Nat)(a1:Int)(r1:(List Int)):Nat->Int->Int->Int->Int->Int->Int->Int->(List Int)->(List Int)->(List Int)->(List As)->(List Az)->(List Int)->Option (Bool)
 |0,_,_,_,_,_,_,_,_,_,_,_,_,_=>none
 |n1+1,v2,v3,v4,v5,v6,v7,v8,v9,v10,v11,v12,v13,v14=>(bif (decide (v2<(r1.length:Int)))then(if(0:Int)≤a1∧a1<(v12.length:Int)then(if(0:Int)≤v2∧v2<(r1.length:Int)then((Ap0 K ((gt v12 a1).Ay) (gt r1 v2)).bind fun r15=>(bif (!r15)then some false else(Anm K a1 r1 n1 (An3 .i64 v2 1) v3 v4 v5 v6 v7 v8 v9 v10 v11 v12 v13 v14)))else none)else none)else(if(0:Int)≤a1∧a1<(v12.length:Int)then some ((r1.length:Int)==(((gt v12 a1).Ay).length:Int))else none))
def Avp (K:Nat)(a0:C4)(a1:Int):Option (Bool):=((Au0 K a0.fP a1).bind fun r1=>(Anm K a1 r1 K 0 a0.fC.Ay a0.fC.G6 a0.fC.E5 a0.fC.Gs a0.fC.E6 a0.fC.G7 a0.fP.N5 a0.fP.Vg a0.fP.N6 a0.fL a0.fQ a0.Acw))
def Bwb:=fd Tryz.func101 ⟨[.v 32,.v 3],[.v 4],true⟩ (gC (Boz K) (gC (Bap K) gN))
def Byo:Ei:=⟨[(1,.v 2),(2,.p 102),(5,.v 26),(6,.v 2)],[(102,.box [.v 2,.v 2,.v 2,.v 2,.v 2,.v 2,.v 22,.v 26,.v 26,.v 29,.v 30,.v 26])]⟩
def Bnk:=lp (Bwb K) 58 Byo [] (fun n a b=>Anm K a b n) (fun n=>kN)
def Bwc:=ct (Bwb K) (Avp K) (kC (Bnk K K) kN)
def Ao8 (K:Nat)(a0:D9)(v1:Int)(v2:Int)(v3:Int)(v4:Int)(v5:Int)(v6:Int)(v7:Int)(v8:Int)(v9:Int)(v10:List Int)(v11:Int)(v12:Int)(v13:List Bc)(v14:List Int)(C1:Int->Int->Int->Int->Int->Int->Int->Int->Int->(List Int)->Int->Int->(List Bc)->(List Int)->Option (Bool)):Nat->Int->Bc->Option (Bool)
 |0,_,_=>none
 |n2+1,v16,v17=>(if a0.G6≠(0:Int)then(bif (decide (v16≤(Ali .i64 (An4 .i64 (An3 .i64 v17.fAt v17.Ajk) 1) a0.G6)))then((Ap0 K v10 v16).bind fun r18=>(bif (!r18)then some false else(Ao8 K a0 v1 v2 v3 v4 v5 v6 v7 v8 v9 v10 v11 v12 v13 v14 C1 n2 (An3 .i64 v16 1) v17)))else(C1 (An3 .i64 v1 1) v2 v3 v4 v5 v6 v7 v8 v9 v10 v11 v12 v13 v14))else none)
def Akw (K:Nat)(a0:D9):Nat->Int->Int->Int->Int->Int->Int->Int->Int->Int->(List Int)->Int->Int->(List Bc)->(List Int)->Option (Bool)
 |0,_,_,_,_,_,_,_,_,_,_,_,_,_,_=>none
 |n1+1,v1,v2,v3,v4,v5,v6,v7,v8,v9,v10,v11,v12,v13,v14=>(bif (decide (v1<(v13.length:Int)))then(if(0:Int)≤v1∧v1<(v13.length:Int)then((Aso K a0 (gt v13 v1)).bind fun r15=>(bif (!r15)then some false else(if a0.G6≠(0:Int)then(Ao8 K a0 v1 v2 v3 v4 v5 v6 v7 v8 v9 v10 v11 v12 v13 v14 (Akw K a0 n1) K (Ali .i64 ((gt v13 v1).fAt) a0.G6) (gt v13 v1))else none)))else none)else some true)
def Awt (K:Nat)(a0:D9)(a1:As):Option (Bool):=(Akw K a0 K 0 a1.Vg a1.C8 a1.Sj a1.fUp a1.Sk a1.Ee a1.Sl a1.Sm a1.Ay a1.Acv a1.Sn a1.F4 a1.Fh)
def Bqz:=fd Tryz.func102 ⟨[.v 25,.v 50],[.v 4],true⟩ (gC (Bap K) (gC (Bo7 K) gN))
def Byp:Ei:=⟨[(2,.p 102),(3,.p 103),(5,.v 2),(6,.p 106),(7,.v 2)],[(106,.st 132 true),(103,.box [.v 2,.v 2,.v 2,.v 2,.v 2,.v 2,.v 2,.v 2,.v 26,.v 2,.v 2,.v 48,.v 26]),(102,.st 25 true)]⟩
def Bfk:=fun(C26:CT Bhv _)=>lp (Bqz K) 6734 Byp [(26,ar Bhv C26)] (fun n a b c d e f g h i j k l m o p q r=>Ao8 K r a d e f g h i j k l m o p q (fun v1 v2 v3 v4 v5 v6 v7 v8 v9 v10 v11 v12 v13 v14=>C26 v1 v2 v3 v4 v5 v6 v7 v8 v9 v10 v11 v12 v13 v14 r) n b c) (fun n=>kN)
def Bnl:=lp (Bqz K) 26 Bhv [] (fun n a b c d e f g h i j k l m o p=>Akw K p n a b c d e f g h i j k l m o) (fun n=>(kC (Bfk K _ K) kN))
def Bwd:=ct (Bqz K) (Awt K) (kC (Bnl K K) kN)
def Azy (K:Nat)(a0:Bc)(a1:Bc):Option (Bool):=(bif (decide (a0.Ajk<1))then some true else(bif (decide (a1.Ajk<1))then some true else(bif (decide (a0.fAt≤a1.fAt))then(bif (decide ((An4 .i64 a1.fAt a0.fAt)≥a0.Ajk))then some true else some (decide ((An4 .i64 a1.fAt a0.fAt)<0)))else(bif (decide ((An4 .i64 a0.fAt a1.fAt)≥a1.Ajk))then some true else some (decide ((An4 .i64 a0.fAt a1.fAt)<0))))))
def Bwe:=ct (fd Tryz.func197 ⟨[.v 132,.v 132],[.v 4],true⟩ gN [7,8,25,26,41,42]) (Azy K)
def Ao9 (K:Nat)(a0:List Bc)(v1:Int)(C1:Int->Option (Bool)):Nat->Int->Option (Bool)
 |0,_=>none
 |n2+1,v2=>(bif (decide (v2<v1))then(if(0:Int)≤v1∧v1<(a0.length:Int)then(if(0:Int)≤v2∧v2<(a0.length:Int)then((Azy K (gt a0 v1) (gt a0 v2)).bind fun r3=>(bif (!r3)then some false else(Ao9 K a0 v1 C1 n2 (An3 .i64 v2 1))))else none)else none)else(C1 (An3 .i64 v1 1)))
def Akx (K:Nat)(a0:List Bc):Nat->Int->Option (Bool)
 |0,_=>none
 |n1+1,v1=>(bif (decide (v1<(a0.length:Int)))then(Ao9 K a0 v1 (Akx K a0 n1) K 0)else some true)
def Awu (K:Nat)(a0:List Bc):Option (Bool):=(Akx K a0 K 0)
def Bie:=fd Tryz.func103 ⟨[.v 48],[.v 4],true⟩ (gC (Bwe K) gN)
def Byq:Ei:=⟨[(0,.v 48),(3,.v 2),(4,.v 2)],[]⟩
def Bq0:Ei:=⟨[(0,.v 48),(3,.v 2)],[]⟩
def Bck:=fun(C26:CT Bq0 _)=>lp (Bie K) 1682 Byq [(26,ar Bq0 C26)] (fun n a b=>Ao9 K a b (C26 a) n) (fun n=>kN)
def Bif:=lp (Bie K) 26 Bq0 [] (fun n a=>Akx K a n) (fun n=>(kC (Bck K _ K) kN))
def Bq1:=ct (Bie K) (Awu K) (kC (Bif K K) kN)
def Auo (K:Nat)(v1:Int)(v2:Int)(v3:Int)(v4:Int)(v5:Int)(v6:Int)(v7:Int)(v8:Int)(v9:Int)(v10:Int)(v11:Int)(v12:List Int)(v13:Int)(v14:Int)(v15:List Bc)(v16:List Int)(v17:Int)(v18:Int)(v19:Int)(v20:Int)(v21:Int)(v22:Int)(v23:List Int)(v24:List Int)(v25:List Int)(v26:List As)(v27:List Az)(v28:List Int)(C1:Int->Int->Int->Int->Int->Int->Int->Int->Int->Int->Int->(List Int)->Int->Int->(List Bc)->(List Int)->Int->Int->Int->Int->Int->Int->(List Int)->(List Int)->(List Int)->(List As)->(List Az)->(List Int)->Option (Bool)):Option (Bool):=(C1 v1 v2 (An3 .i64 v3 1) v4 v5 v6 v7 v8 v9 v10 v11 v12 v13 v14 v15 v16 v17 v18 v19 v20 v21 v22 v23 v24 v25 v26 v27 v28)
def Am9 (K:Nat):Nat->Int->Int->Int->Int->Int->Int->Int->Int->Int->Int->Int->(List Int)->Int->Int->(List Bc)->(List Int)->Int->Int->Int->Int->Int->Int->(List Int)->(List Int)->(List Int)->(List As)->(List Az)->(List Int)->Option (Bool)
 |0,_,_,_,_,_,_,_,_,_,_,_,_,_,_,_,_,_,_,_,_,_,_,_,_,_,_,_,_=>none
 |n1+1,v1,v2,v3,v4,v5,v6,v7,v8,v9,v10,v11,v12,v13,v14,v15,v16,v17,v18,v19,v20,v21,v22,v23,v24,v25,v26,v27,v28=>(bif (decide (v3<(v15.length:Int)))then(if(0:Int)≤v3∧v3<(v15.length:Int)then(bif (decide (((gt v15 v3).fAt)<v2))then(bif (decide ((An3 .i64 ((gt v15 v3).fAt) ((gt v15 v3).Ajk))>v1))then some false else(Auo K v1 v2 v3 v4 v5 v6 v7 v8 v9 v10 v11 v12 v13 v14 v15 v16 v17 v18 v19 v20 v21 v22 v23 v24 v25 v26 v27 v28 (Am9 K n1)))else(Auo K v1 v2 v3 v4 v5 v6 v7 v8 v9 v10 v11 v12 v13 v14 v15 v16 v17 v18 v19 v20 v21 v22 v23 v24 v25 v26 v27 v28 (Am9 K n1)))else none)else(if(0:Int)≤v1∧v1≤v2∧v2≤(v23.length:Int)then((Ar4 K ((v23.drop v1.toNat).take (v2 - v1).toNat)).bind fun r29=>some r29)else none))
def Awv (K:Nat)(a0:C4)(a1:Int):Option (Bool):=(if(0:Int)≤a1∧a1<(a0.fL.length:Int)then(bif (((gt a0.fL a1).Acv)==0)then some true else(bif (decide ((An3 .i64 (An5 .i64 (An4 .i64 ((gt a0.fL a1).Acv) 1) a0.fC.G6) ((gt a0.fL a1).Sn))≥(An5 .i64 ((gt a0.fL a1).Acv) a0.fC.G6)))then some true else(Am9 K K (An3 .i64 (An5 .i64 (An4 .i64 ((gt a0.fL a1).Acv) 1) a0.fC.G6) ((gt a0.fL a1).Sn)) (An5 .i64 ((gt a0.fL a1).Acv) a0.fC.G6) 0 ((gt a0.fL a1).Vg) ((gt a0.fL a1).C8) ((gt a0.fL a1).Sj) ((gt a0.fL a1).fUp) ((gt a0.fL a1).Sk) ((gt a0.fL a1).Ee) ((gt a0.fL a1).Sl) ((gt a0.fL a1).Sm) ((gt a0.fL a1).Ay) ((gt a0.fL a1).Acv) ((gt a0.fL a1).Sn) ((gt a0.fL a1).F4) ((gt a0.fL a1).Fh) a0.fC.Ay a0.fC.G6 a0.fC.E5 a0.fC.Gs a0.fC.E6 a0.fC.G7 a0.fP.N5 a0.fP.Vg a0.fP.N6 a0.fL a0.fQ a0.Acw)))else none)
def Big:=fd Tryz.func104 ⟨[.v 32,.v 3],[.v 4],true⟩ (gC (Bd5 K) gN) [33,34,54,55] [2025]
def Bnm:Ei:=⟨[(2,.p 102),(5,.p 105),(6,.v 2),(7,.v 2),(8,.v 2)],[(105,.box [.v 2,.v 2,.v 2,.v 2,.v 2,.v 2,.v 2,.v 2,.v 26,.v 2,.v 2,.v 48,.v 26]),(102,.box [.v 2,.v 2,.v 2,.v 2,.v 2,.v 2,.v 22,.v 26,.v 26,.v 29,.v 30,.v 26])]⟩
def Bcl:=fun(C506:CT Bnm _)=>jn (Big K) 2025 Bnm [(506,ar Bnm C506)] (fun a b c d e f g h i j k l m o p q r s t u v w x y z a1 b1 c1=>Auo K a b c d e f g h i j k l m o p q r s t u v w x y z a1 b1 c1 C506) kN
def Bfl:=lp (Big K) 506 Bnm [] (Am9 K) (fun n=>(kC (Bcl K _) kN))
def Bq2:=ct (Big K) (Awv K) (kC (Bfl K K) kN)
def Anv (K:Nat)(v4:Int)(v5:Int)(v6:Int)(v7:Int)(v8:Int)(v9:Int)(v10:List Int)(v11:List Int)(v12:List Int)(v13:List As)(v14:List Az)(v15:List Int):Nat->Int->Option (Bool)
 |0,_=>none
 |n3+1,v23=>(bif (decide (v23<(v15.length:Int)))then(if(0:Int)≤v23∧v23<(v15.length:Int)then((Gx K (gt v15 v23) 0 255).bind fun r24=>(bif (!r24)then some false else(Anv K v4 v5 v6 v7 v8 v9 v10 v11 v12 v13 v14 v15 n3 (An3 .i64 v23 1))))else none)else((Avn K (C4.mk (D9.mk v4 v5 v6 v7 v8 v9) (Dm.mk v10 v11 v12) v13 v14 v15)).bind fun r25=>some r25))
def Apv (K:Nat)(v4:Int)(v5:Int)(v6:Int)(v7:Int)(v8:Int)(v9:Int)(v10:List Int)(v11:List Int)(v12:List Int)(v13:List As)(v14:List Az)(v15:List Int):Nat->Int->Option (Bool)
 |0,_=>none
 |n2+1,v21=>(bif (decide (v21<(v14.length:Int)))then((Aws K (C4.mk (D9.mk v4 v5 v6 v7 v8 v9) (Dm.mk v10 v11 v12) v13 v14 v15) v21).bind fun r22=>(bif (!r22)then some false else(Apv K v4 v5 v6 v7 v8 v9 v10 v11 v12 v13 v14 v15 n2 (An3 .i64 v21 1))))else(Anv K v4 v5 v6 v7 v8 v9 v10 v11 v12 v13 v14 v15 K 0))
def Anw (K:Nat):Nat->Int->Int->Int->Int->Int->Int->Int->(List Int)->(List Int)->(List Int)->(List As)->(List Az)->(List Int)->Option (Bool)
 |0,_,_,_,_,_,_,_,_,_,_,_,_,_=>none
 |n1+1,v3,v4,v5,v6,v7,v8,v9,v10,v11,v12,v13,v14,v15=>(bif (decide (v3<(v13.length:Int)))then(if(0:Int)≤v3∧v3<(v13.length:Int)then((Ap1 K (D9.mk v4 v5 v6 v7 v8 v9) (gt v13 v3)).bind fun r16=>(bif r16 then((Avp K (C4.mk (D9.mk v4 v5 v6 v7 v8 v9) (Dm.mk v10 v11 v12) v13 v14 v15) v3).bind fun r17=>(bif r17 then(if(0:Int)≤v3∧v3<(v13.length:Int)then((Awt K (D9.mk v4 v5 v6 v7 v8 v9) (gt v13 v3)).bind fun r18=>(bif r18 then(if(0:Int)≤v3∧v3<(v13.length:Int)then((Awu K ((gt v13 v3).F4)).bind fun r19=>(bif r19 then((Awv K (C4.mk (D9.mk v4 v5 v6 v7 v8 v9) (Dm.mk v10 v11 v12) v13 v14 v15) v3).bind fun r20=>(bif (!r20)then some false else(Anw K n1 (An3 .i64 v3 1) v4 v5 v6 v7 v8 v9 v10 v11 v12 v13 v14 v15)))else some false))else none)else some false))else none)else some false))else some false))else none)else(Apv K v4 v5 v6 v7 v8 v9 v10 v11 v12 v13 v14 v15 K 0))
def Arb (K:Nat)(a0:C4):Option (Bool):=((Av6 K a0.fC a0.fP).bind fun r1=>(bif r1 then(bif ((a0.fL.length:Int) != a0.fC.E5)then some false else((Ay2 K a0.fL).bind fun r2=>(bif (!r2)then some false else(Anw K K 0 a0.fC.Ay a0.fC.G6 a0.fC.E5 a0.fC.Gs a0.fC.E6 a0.fC.G7 a0.fP.N5 a0.fP.Vg a0.fP.N6 a0.fL a0.fQ a0.Acw))))else some false))
def Bea:=fd Tryz.func26 ⟨[.v 32],[.v 4],true⟩ (gC (Bo3 K) (gC (Bv4 K) (gC (A8g K) (gC (Bwc K) (gC (Bwd K) (gC (Bq1 K) (gC (Bq2 K) (gC (Bwa K) (gC (A02 K) (gC (Bv7 K) gN)))))))))) [10,11,12,19,20,21,41,42,43,46,47,48,49,57,58,59,60,67,68,69,70]
def Byr:Ei:=⟨[(1,.p 101),(5,.v 2)],[(101,.box [.v 2,.v 2,.v 2,.v 2,.v 2,.v 2,.v 22,.v 26,.v 26,.v 29,.v 30,.v 26])]⟩
def Bys:Ei:=⟨[(1,.p 101),(4,.v 2)],[(101,.box [.v 2,.v 2,.v 2,.v 2,.v 2,.v 2,.v 22,.v 26,.v 26,.v 29,.v 30,.v 26])]⟩
def Byt:Ei:=⟨[(1,.p 101),(3,.v 2)],[(101,.box [.v 2,.v 2,.v 2,.v 2,.v 2,.v 2,.v 22,.v 26,.v 26,.v 29,.v 30,.v 26])]⟩
def Bfm:=lp (Bea K) 250 Byr [] (fun n a b c d e f g h i j k l m=>Anv K b c d e f g h i j k l m n a) (fun n=>kN)
def Bfn:=lp (Bea K) 122 Bys [] (fun n a b c d e f g h i j k l m=>Apv K b c d e f g h i j k l m n a) (fun n=>(kC (up (Bfm K K)) kN))
def Bih:=lp (Bea K) 58 Byt [] (Anw K) (fun n=>(kC (up (Bfn K K)) kN))
def A84:=ct (Bea K) (Arb K) (kC (Bih K K) kN)
def Azz (K:Nat)(a0:Bq):Option (Bool):=((Atw K a0.fH).bind fun r1=>(bif r1 then(bif (decide (a0.Sj≥0))then some (decide (a0.fNo≥0))else some false)else some false))
def Bq3:=ct (fd Tryz.func225 ⟨[.v 38],[.v 4],true⟩ (gC (Bow K) gN) [5,6,9,10,11]) (Azz K)
def Ax0 (K:Nat)(a0:As)(a1:Bq):Option (Bc×Bool):=(bif (a0.Vg != 1)then some ((Bc.mk 0 0 0),false)else(bif (a0.Sj != a1.Sj)then some ((Bc.mk 0 0 0),false)else((Gx K a1.fNo 0 (An4 .i64 (a0.F4.length:Int) 1)).bind fun r1=>(bif (!r1)then some ((Bc.mk 0 0 0),false)else(if(0:Int)≤a1.fNo∧a1.fNo<(a0.F4.length:Int)then some ((gt a0.F4 a1.fNo),true)else none)))))
def Bq4:=ct (fd Tryz.func226 ⟨[.v 50,.v 38],[.v 132,.v 4],true⟩ (gC (A02 K) gN) [8,9,14,15,16]) (Ax0 K)
def Asu (K:Nat)(a0:C4)(a1:Bq):Option (Int×Bc×Int):=((Azz K a1).bind fun r1=>(bif (!r1)then some ((-1),(Bc.mk 0 0 0),1)else((Anh K a0 a1.fH).bind fun r2=>(bif (r2.2 != 0)then some ((-1),(Bc.mk 0 0 0),r2.2)else(if(0:Int)≤r2.1∧r2.1<(a0.fL.length:Int)then((Ax0 K (gt a0.fL r2.1) a1).bind fun r3=>(bif (!r3.2)then some ((-1),(Bc.mk 0 0 0),2)else some (r2.1,r3.1,0)))else none)))))
def Bii:=ct (fd Tryz.func142 ⟨[.v 32,.v 38],[.v 3,.v 132,.v 3],true⟩ (gC (A8e K) (gC (Bq3 K) (gC (Bq4 K) gN)))) (Asu K)
def Ax1 (K:Nat)(a0:Bc)(a1:Int)(a2:Int):Option (Bool):=(bif (decide (a1≥0))then(bif (decide (a2≥0))then(bif (decide (a1≤a0.Ajk))then(bif (decide (a2≤(An4 .i64 a0.Ajk a1)))then(bif (decide (a0.fAt<0))then some true else some (decide ((An3 .i64 a0.fAt a1)≥0)))else some false)else some false)else some false)else some false)
def Bij:=ct (fd Tryz.func227 ⟨[.v 132,.v 3,.v 3],[.v 4],true⟩ gN [8,9,11,12,13,17,18,19,25,26,27,30,31]) (Ax1 K)
def Au8 (K:Nat)(a0:List Int)(a1:Int)(a2:Int):Option (Bool):=(bif (decide (a1≥0))then(bif (decide (a2≥0))then(bif (decide (a1≤(a0.length:Int)))then some (decide (a2≤(An4 .i64 (a0.length:Int) a1)))else some false)else some false)else some false)
def Bik:=ct (fd Tryz.func262 ⟨[.v 22,.v 3,.v 3],[.v 4],true⟩ gN [8,9,11,12,13,17,18,19]) (Au8 K)
def Az0 (K:Nat)(a0:List Int)(a1:Int)(a2:Int):Option ((List Int)×Bool):=((Au8 K a0 a1 a2).bind fun r1=>(bif (!r1)then some (([]:List Int),false)else(if(0:Int)≤a1∧a1≤(An3 .i64 a1 a2)∧(An3 .i64 a1 a2)≤(a0.length:Int)then(if(([]:List Int)++((a0.drop a1.toNat).take ((An3 .i64 a1 a2) - a1).toNat)).length*1≤140737488355328∧(([]:List Int)++((a0.drop a1.toNat).take ((An3 .i64 a1 a2) - a1).toNat)).length≤maxLen then some ((([]:List Int)++((a0.drop a1.toNat).take ((An3 .i64 a1 a2) - a1).toNat)),true)else none)else none)))
def Bq5:=ct (fd Tryz.func229 ⟨[.v 22,.v 3,.v 3],[.n 22 true,.v 4],true⟩ (gC (Bik K) gN)) (Az0 K)
def Avq (K:Nat)(a0:List Int)(a1:Bc)(a2:Int)(a3:Int):Option ((List Int)×Bool):=((Ax1 K a1 a2 a3).bind fun r1=>(bif (!r1)then some (([]:List Int),false)else((Az0 K a0 (An3 .i64 a1.fAt a2) a3).bind fun r2=>some (r2.1,r2.2))))
def Bq6:=ct (fd Tryz.func144 ⟨[.v 22,.v 132,.v 3,.v 3],[.n 22 true,.v 4],true⟩ (gC (Bij K) (gC (Bq5 K) gN))) (Avq K)
def A06 (K:Nat)(a0:C4)(a1:Bq)(a2:Int)(a3:Int):Option (C4×Es):=((Ang K a0).bind fun r1=>((Arb K a0).bind fun r2=>(bif (!r2)then some (r1,(Es.mk 1 (Am.mk 0 0) (Bq.mk (Am.mk 0 0) 0 0) [] 0 0 0))else((Asu K a0 a1).bind fun r3=>((Aox K a0 a1.fH).bind fun r4=>(bif (r3.2.2 != 0)then some (r1,(Es.mk r3.2.2 (Am.mk 0 0) (Bq.mk (Am.mk 0 0) 0 0) [] r4 0 0))else((Avq K a0.fP.N5 r3.2.1 a2 a3).bind fun r5=>(bif (!r5.2)then some (r1,(Es.mk 7 (Am.mk 0 0) (Bq.mk (Am.mk 0 0) 0 0) [] r4 0 0))else some (r1,(Es.mk r3.2.2 (Am.mk 0 0) (Bq.mk (Am.mk 0 0) 0 0) r5.1 r4 0 0))))))))))
def Bq7:=ct (fd Tryz.func60 ⟨[.v 32,.v 38,.v 3,.v 3],[.n 32 true,.n 73 true],false⟩ (gC (A84 K) (gC (A6l K) (gC (A6k K) (gC (Bii K) (gC (Bq6 K) gN))))) [] [] [(7,[.take 114 7 6831]),(11,[.take 114 7 6831])]) (A06 K)
def Ap3 (K:Nat)(a1:Int)(a2:List Int):Nat->(List Int)->Int->Option ((List Int)×Bool)
 |0,_,_=>none
 |n1+1,v2,v3=>(bif (decide (v3<(a2.length:Int)))then(if(0:Int)≤v3∧v3<(a2.length:Int)then(if(0:Int)≤(An3 .i64 a1 v3)∧(An3 .i64 a1 v3)<(v2.length:Int)then(Ap3 K a1 a2 n1 (v2.set (An3 .i64 a1 v3).toNat (gt a2 v3)) (An3 .i64 v3 1))else none)else none)else some (v2,true))
def Az1 (K:Nat)(a0:List Int)(a1:Int)(a2:List Int):Option ((List Int)×Bool):=(if(([]:List Int)++a0).length*1≤140737488355328∧(([]:List Int)++a0).length≤maxLen then((Au8 K a0 a1 (a2.length:Int)).bind fun r1=>(bif (!r1)then some ((([]:List Int)++a0),false)else(Ap3 K a1 a2 K (([]:List Int)++a0) 0)))else none)
def Bpf:=fd Tryz.func228 ⟨[.v 22,.v 3,.v 22],[.n 22 true,.v 4],true⟩ (gC (Bik K) gN)
def Byu:Ei:=⟨[(1,.v 2),(2,.v 22),(8,.o 1008 5 true),(9,.v 2)],[]⟩
def Bfo:=lp (Bpf K) 122 Byu [] (fun n a b=>Ap3 K a b n) (fun n=>kN)
def Bq8:=ct (Bpf K) (Az1 K) (kC (Bfo K K) kN)
def Aup (K:Nat)(a0:List Int)(a1:Bc)(a2:Int)(a3:List Int):Option ((List Int)×Bool):=((Ax1 K a1 a2 (a3.length:Int)).bind fun r1=>(bif (!r1)then(if(([]:List Int)++a0).length*1≤140737488355328∧(([]:List Int)++a0).length≤maxLen then some ((([]:List Int)++a0),false)else none)else((Az1 K a0 (An3 .i64 a1.fAt a2) a3).bind fun r2=>some (r2.1,r2.2))))
def Bq9:=ct (fd Tryz.func143 ⟨[.v 22,.v 132,.v 3,.v 22],[.n 22 true,.v 4],true⟩ (gC (Bij K) (gC (Bq8 K) gN))) (Aup K)
def Az2 (K:Nat)(a0:C4)(a1:Bq)(a2:Int)(a3:List Int):Option (C4×Es):=((Ang K a0).bind fun r1=>((Arb K a0).bind fun r2=>(bif (!r2)then some (r1,(Es.mk 1 (Am.mk 0 0) (Bq.mk (Am.mk 0 0) 0 0) [] 0 0 0))else((Asu K a0 a1).bind fun r3=>((Aox K a0 a1.fH).bind fun r4=>(bif (r3.2.2 != 0)then some (r1,(Es.mk r3.2.2 (Am.mk 0 0) (Bq.mk (Am.mk 0 0) 0 0) [] r4 0 0))else((Aup K a0.fP.N5 r3.2.1 a2 a3).bind fun r5=>(bif (!r5.2)then some (r1,(Es.mk 7 (Am.mk 0 0) (Bq.mk (Am.mk 0 0) 0 0) [] r4 0 0))else some ((C4.mk r1.fC (Dm.mk r5.1 r1.fP.Vg r1.fP.N6) r1.fL r1.fQ r1.Acw),(Es.mk r3.2.2 (Am.mk 0 0) (Bq.mk (Am.mk 0 0) 0 0) [] r4 0 0))))))))))
def Bra:=ct (fd Tryz.func58 ⟨[.v 32,.v 38,.v 3,.v 22],[.n 32 true,.n 73 true],false⟩ (gC (A84 K) (gC (A6l K) (gC (A6k K) (gC (Bii K) (gC (Bq9 K) gN))))) [] [] [(7,[.take 114 7 6831]),(11,[.take 114 7 6831]),(13,[.take 114 7 6831])]) (Az2 K)
def Az3 (K:Nat)(v7:Es)(v10:C4):Option (C4×Es):=some (v10,v7)
def Ax2 (K:Nat)(a2:Int)(r1:C4)(v6:Int)(v7:Es)(v8:Es)(v9:C4):Option (C4×Es):=(bif (v7.Wz==0)then(if(0:Int)≤v6∧v6<(r1.fL.length:Int)then(if(0:Int)≤v6∧v6<(r1.fL.length:Int)then(if(((gt r1.fL v6).Fh)++([a2]:List Int)).length*8≤140737488355328∧(((gt r1.fL v6).Fh)++([a2]:List Int)).length≤maxLen then(if(0:Int)≤v6∧v6<(r1.fL.length:Int)then(Az3 K v7 (C4.mk r1.fC r1.fP (r1.fL.set v6.toNat (As.mk ((gt r1.fL v6).Vg) ((gt r1.fL v6).C8) ((gt r1.fL v6).Sj) ((gt r1.fL v6).fUp) ((gt r1.fL v6).Sk) ((gt r1.fL v6).Ee) ((gt r1.fL v6).Sl) ((gt r1.fL v6).Sm) ((gt r1.fL v6).Ay) ((gt r1.fL v6).Acv) ((gt r1.fL v6).Sn) ((gt r1.fL v6).F4) (((gt r1.fL v6).Fh)++([a2]:List Int)))) r1.fQ r1.Acw))else none)else none)else none)else none)else(Az3 K v7 r1))
def A1z (K:Nat)(a0:C4)(a1:Am)(a2:Int):Option (C4×Es):=((Ang K a0).bind fun r1=>((Arb K a0).bind fun r2=>(bif r2 then((Gx K a2 0 255).bind fun r3=>(bif (!r3)then some (r1,(Es.mk 1 (Am.mk 0 0) (Bq.mk (Am.mk 0 0) 0 0) [] 0 0 0))else((Anh K a0 a1).bind fun r4=>((Aox K a0 a1).bind fun r5=>(bif (r4.2==0)then(if(0:Int)≤r4.1∧r4.1<(a0.fL.length:Int)then(bif (decide ((((gt a0.fL r4.1).Fh).length:Int)≥6))then(Ax2 K a2 r1 r4.1 (Es.mk 8 (Am.mk 0 0) (Bq.mk (Am.mk 0 0) 0 0) [] r5 0 0) (Es.mk 0 (Am.mk 0 0) (Bq.mk (Am.mk 0 0) 0 0) [] 0 0 0) (C4.mk (D9.mk 0 0 0 0 0 0) (Dm.mk [] [] []) [] [] []))else(Ax2 K a2 r1 r4.1 (Es.mk r4.2 (Am.mk 0 0) (Bq.mk (Am.mk 0 0) 0 0) [] r5 0 0) (Es.mk 0 (Am.mk 0 0) (Bq.mk (Am.mk 0 0) 0 0) [] 0 0 0) (C4.mk (D9.mk 0 0 0 0 0 0) (Dm.mk [] [] []) [] [] [])))else none)else(Ax2 K a2 r1 r4.1 (Es.mk r4.2 (Am.mk 0 0) (Bq.mk (Am.mk 0 0) 0 0) [] r5 0 0) (Es.mk 0 (Am.mk 0 0) (Bq.mk (Am.mk 0 0) 0 0) [] 0 0 0) (C4.mk (D9.mk 0 0 0 0 0 0) (Dm.mk [] [] []) [] [] [])))))))else some (r1,(Es.mk 1 (Am.mk 0 0) (Bq.mk (Am.mk 0 0) 0 0) [] 0 0 0)))))
def Bil:=fd Tryz.func49 ⟨[.v 32,.v 36,.v 3],[.n 32 true,.n 73 true],false⟩ (gC (A84 K) (gC (A6l K) (gC (A02 K) (gC (A8e K) (gC (A6k K) gN))))) [15,16,17,36,37] [63,127] [(9,[.take 108 9 6737,.opn 6737 (.tmp 9),.takeE 6737 12 87180]),(10,[.take 108 6 6734,.take 108 7 6735,.take 108 8 6736,.take 108 9 6737,.take 108 10 6738,.take 108 11 6739,.take 111 7 6783])]
def Byv:Ei:=⟨[(6,.p 106),(7,.p 107),(8,.p 108),(11,.p 111)],[(111,.st 73 true),(108,.st 32 true),(107,.st 73 true),(106,.st 32 true)]⟩
def Byw:Ei:=⟨[(2,.v 2),(6,.p 106),(7,.p 107),(8,.p 108),(9,.v 2),(11,.p 111)],[(111,.st 73 true),(108,.st 32 true),(107,.st 73 true),(106,.st 32 true)]⟩
def Bfp:=jn (Bil K) 127 Byv [] (fun a b _ _=>Az3 K a b) kN
def Bim:=jn (Bil K) 63 Byw [] (fun a b c d=>Ax2 K a d b c) (kC (Bfp K) kN)
def Brb:=ct (Bil K) (A1z K) (kC (Bim K) kN)
def A0g (K:Nat)(a0:D9)(a1:As):Option (Int):=(bif (a1.Acv==0)then some 0 else((Ap1 K a0 a1).bind fun r1=>(bif (!r1)then some 0 else some (An4 .i64 a0.G6 a1.Sn))))
def Brc:=ct (fd Tryz.func136 ⟨[.v 25,.v 50],[.v 3],true⟩ (gC (A8g K) gN) [7,8]) (A0g K)
def Ax3 (K:Nat)(r1:C4)(v6:Es)(v7:Es)(v8:C4):Option (C4×Es):=some (r1,v6)
def Az4 (K:Nat)(a0:C4)(a1:Am):Option (C4×Es):=((Ang K a0).bind fun r1=>((Arb K a0).bind fun r2=>(bif (!r2)then some (r1,(Es.mk 1 (Am.mk 0 0) (Bq.mk (Am.mk 0 0) 0 0) [] 0 0 0))else((Anh K a0 a1).bind fun r3=>((Aox K a0 a1).bind fun r4=>(bif (r3.2==0)then(if(0:Int)≤r3.1∧r3.1<(a0.fL.length:Int)then((A0g K a0.fC (gt a0.fL r3.1)).bind fun r5=>(Ax3 K r1 (Es.mk r3.2 (Am.mk 0 0) (Bq.mk (Am.mk 0 0) 0 0) ([(IntKind.u8.wrap (((gt a0.fL r3.1).Ay).length:Int)),(IntKind.u8.wrap (((gt a0.fL r3.1).F4).length:Int)),(IntKind.u8.wrap (((gt a0.fL r3.1).Fh).length:Int)),(IntKind.u8.wrap r5)]:List Int) r4 0 0) (Es.mk 0 (Am.mk 0 0) (Bq.mk (Am.mk 0 0) 0 0) [] 0 0 0) (C4.mk (D9.mk 0 0 0 0 0 0) (Dm.mk [] [] []) [] [] [])))else none)else(Ax3 K r1 (Es.mk r3.2 (Am.mk 0 0) (Bq.mk (Am.mk 0 0) 0 0) [] r4 0 0) (Es.mk 0 (Am.mk 0 0) (Bq.mk (Am.mk 0 0) 0 0) [] 0 0 0) (C4.mk (D9.mk 0 0 0 0 0 0) (Dm.mk [] [] []) [] [] []))))))))
def Bpg:=fd Tryz.func52 ⟨[.v 32,.v 36],[.n 32 true,.n 73 true],false⟩ (gC (A84 K) (gC (A6l K) (gC (A8e K) (gC (A6k K) (gC (Brc K) gN))))) [] [63] [(9,[.take 106 6 6702,.take 106 7 6703,.take 106 8 6704,.take 106 9 6705,.take 106 10 6706,.take 106 11 6707,.take 109 7 6751])]
def Byx:Ei:=⟨[(4,.p 104),(5,.p 105),(6,.p 106),(9,.p 109)],[(109,.st 73 true),(106,.st 32 true),(105,.st 73 true),(104,.st 32 true)]⟩
def Bin:=jn (Bpg K) 63 Byx [] (fun a b=>Ax3 K b a) kN
def Brd:=ct (Bpg K) (Az4 K) (kC (Bin K) kN)
def Ay3 (K:Nat)(a0:C4)(a1:Cm):Option (C4×Es):=(bif (a1.Ww==3)then((A06 K a0 a1.fR a1.fN a1.fM).bind fun r1=>some (r1.1,r1.2))else(bif (a1.Ww==4)then((Az2 K a0 a1.fR a1.fN a1.fB).bind fun r2=>some (r2.1,r2.2))else(bif (a1.Ww==5)then((A1z K a0 a1.fH a1.fN).bind fun r3=>some (r3.1,r3.2))else(bif (a1.Ww==8)then((Az4 K a0 a1.fH).bind fun r4=>some (r4.1,r4.2))else((Ang K a0).bind fun r5=>some (r5,(Es.mk 1 (Am.mk 0 0) (Bq.mk (Am.mk 0 0) 0 0) [] 0 0 0)))))))
def Bre:=ct (fd Tryz.func266 ⟨[.v 32,.v 40],[.n 32 true,.n 73 true],false⟩ (gC (Brb K) (gC (Brd K) (gC (Bra K) (gC (Bq7 K) (gC (A6l K) gN)))))) (Ay3 K)
def A0h (K:Nat)(v31:Int)(v32:Int)(v33:Int)(v34:Int)(v35:Int)(v36:Int)(v37:List Int)(v38:List Int)(v39:List Int)(v40:List As)(v41:List Az)(v42:List Int)(v43:Es):Option (Es×C4):=some (v43,(C4.mk (D9.mk v31 v32 v33 v34 v35 v36) (Dm.mk v37 v38 v39) v40 v41 v42))
def Au9 (K:Nat)(v4:Bool)(v5:Int)(v6:Int)(v7:Int)(v8:Int)(v9:Int)(v10:Int)(v11:List Int)(v12:List Int)(v13:List Int)(v14:List As)(v15:List Az)(v16:List Int)(v17:Es)(v18:Int)(v19:Int)(v20:Int)(v21:Int)(v22:Int)(v23:Int)(v24:Int)(v25:Int)(v26:Int)(v27:List Int):Option (Es×C4):=(bif v4 then((Anh K (C4.mk (D9.mk v5 v6 v7 v8 v9 v10) (Dm.mk v11 v12 v13) v14 v15 v16) (Am.mk v19 v20)).bind fun r28=>((Aox K (C4.mk (D9.mk v5 v6 v7 v8 v9 v10) (Dm.mk v11 v12 v13) v14 v15 v16) (Am.mk v19 v20)).bind fun r29=>(bif (r28.2 != 0)then some ((Es.mk r28.2 (Am.mk 0 0) (Bq.mk (Am.mk 0 0) 0 0) [] r29 0 0),(C4.mk (D9.mk v5 v6 v7 v8 v9 v10) (Dm.mk v11 v12 v13) v14 v15 v16))else(bif (v18==6)then((Arv K (C4.mk (D9.mk v5 v6 v7 v8 v9 v10) (Dm.mk v11 v12 v13) v14 v15 v16) r28.1).bind fun r30=>(A0h K r30.fC.Ay r30.fC.G6 r30.fC.E5 r30.fC.Gs r30.fC.E6 r30.fC.G7 r30.fP.N5 r30.fP.Vg r30.fP.N6 r30.fL r30.fQ r30.Acw (Es.mk r28.2 (Am.mk 0 0) (Bq.mk (Am.mk 0 0) 0 0) [] r29 0 0)))else((At0 K (C4.mk (D9.mk v5 v6 v7 v8 v9 v10) (Dm.mk v11 v12 v13) v14 v15 v16) r28.1).bind fun r44=>(A0h K r44.fC.Ay r44.fC.G6 r44.fC.E5 r44.fC.Gs r44.fC.E6 r44.fC.G7 r44.fP.N5 r44.fP.Vg r44.fP.N6 r44.fL r44.fQ r44.Acw (Es.mk r28.2 (Am.mk 0 0) (Bq.mk (Am.mk 0 0) 0 0) [] r29 0 0)))))))else((Ay3 K (C4.mk (D9.mk v5 v6 v7 v8 v9 v10) (Dm.mk v11 v12 v13) v14 v15 v16) (Cm.mk v18 (Am.mk v19 v20) (Bq.mk (Am.mk v21 v22) v23 v24) v25 v26 v27)).bind fun r45=>some (r45.2,r45.1)))
def Az5 (K:Nat)(a0:C4)(a1:Cm):Option (Es×C4):=(bif (a1.Ww==1)then((Axu K a0 a1.fH).bind fun r1=>some (r1.1,r1.2))else(bif (a1.Ww==2)then((Awq K a0 a1.fH a1.fN a1.fM).bind fun r2=>some (r2.1,r2.2))else(bif (a1.Ww==9)then((Au3 K a0 4000).bind fun r3=>some ((Es.mk 0 (Am.mk 0 0) (Bq.mk (Am.mk 0 0) 0 0) [] 0 0 r3.1),r3.2))else(bif (a1.Ww==6)then(Au9 K (a1.Ww==6) a0.fC.Ay a0.fC.G6 a0.fC.E5 a0.fC.Gs a0.fC.E6 a0.fC.G7 a0.fP.N5 a0.fP.Vg a0.fP.N6 a0.fL a0.fQ a0.Acw (Es.mk 0 (Am.mk 0 0) (Bq.mk (Am.mk 0 0) 0 0) [] 0 0 0) a1.Ww a1.fH.Bk a1.fH.C8 a1.fR.fH.Bk a1.fR.fH.C8 a1.fR.Sj a1.fR.fNo a1.fN a1.fM a1.fB)else(Au9 K (a1.Ww==7) a0.fC.Ay a0.fC.G6 a0.fC.E5 a0.fC.Gs a0.fC.E6 a0.fC.G7 a0.fP.N5 a0.fP.Vg a0.fP.N6 a0.fL a0.fQ a0.Acw (Es.mk 0 (Am.mk 0 0) (Bq.mk (Am.mk 0 0) 0 0) [] 0 0 0) a1.Ww a1.fH.Bk a1.fH.C8 a1.fR.fH.Bk a1.fR.fH.C8 a1.fR.Sj a1.fR.fNo a1.fN a1.fM a1.fB)))))
def Bio:=fd Tryz.func230 ⟨[.b 32 false,.v 40],[.v 73],false⟩ (gC (Bpc K) (gC (Bpb K) (gC (A8e K) (gC (A6k K) (gC (Bvp K) (gC (Bvw K) (gC (Bh1 K) (gC (Bre K) gN)))))))) [] [1727,55287] [(10,[.take 1 6 5022,.take 1 7 5023,.take 1 8 5024,.take 1 9 5025,.take 1 10 5026,.take 1 11 5027]),(13,[.take 107 7 6719]),(15,[.put 1]),(16,[.put 1]),(17,[.take 107 7 6719]),(18,[.take 1 6 5022,.take 1 7 5023,.take 1 8 5024,.take 1 9 5025,.take 1 10 5026,.take 1 11 5027,.frz 5022,.frz 5023,.frz 5024,.frz 5025,.frz 5026,.frz 5027])]
def Byy:Ei:=⟨[(4,.p 104),(7,.p 107)],[(1,.box [.v 2,.v 2,.v 2,.v 2,.v 2,.v 2,.T 5 true,.T 3 true,.T 3 true,.T 50 true,.T 52 false,.T 3 true]),(107,.st 73 true),(104,.st 73 true)]⟩
def Byz:Ei:=⟨[(0,.p 1),(3,.p 103),(4,.p 104),(33,.v 4)],[(1,.box [.v 2,.v 2,.v 2,.v 2,.v 2,.v 2,.T 5 true,.T 3 true,.T 3 true,.T 50 true,.T 52 false,.T 3 true]),(104,.st 73 true),(103,.box [.v 2,.v 2,.v 2,.v 2,.v 2,.v 2,.v 2,.v 2,.v 2,.v 22])]⟩
def Bas:=jn (Bio K) 55287 Byy [] (fun a b c d e f g h i j k l m _=>A0h K a b c d e f g h i j k l m) kN
def Bcm:=jn (Bio K) 1727 Byz [] (Au9 K) (kC (Bas K) kN)
def Brf:=ct (Bio K) (Az5 K) (kC (Bcm K) kN)
def At2 (K:Nat):Nat->(List Cm)->Int->(List Int)->Int->Int->C4->D9->C4->D9->Option (D9×(List Cm)×C4×D0)
 |0,_,_,_,_,_,_,_,_,_=>none
 |n1+1,v4,v5,v6,v7,v8,v9,v10,v11,v12=>(bif (decide (v5>0))then(bif (decide ((v4.length:Int)<200))then((Auy K (D0.mk v6 v7 v8) v9).bind fun r13=>(if r13.2.2.1.length=v9.fP.N5.length∧r13.2.2.2.1.length=v9.fP.Vg.length∧r13.2.2.2.2.1.length=v9.fP.N6.length∧r13.2.2.2.2.2.1.length=v9.fL.length∧r13.2.2.2.2.2.2.1.length=v9.fQ.length∧r13.2.2.2.2.2.2.2.length=v9.Acw.length then(if(v4++([r13.1]:List Cm)).length*96≤140737488355328∧(v4++([r13.1]:List Cm)).length≤maxLen then((Az5 K (C4.mk v9.fC (Dm.mk r13.2.2.1 r13.2.2.2.1 r13.2.2.2.2.1) r13.2.2.2.2.2.1 r13.2.2.2.2.2.2.1 r13.2.2.2.2.2.2.2) r13.1).bind fun r14=>(At2 K n1 (v4++([r13.1]:List Cm)) (An4 .i64 v5 1) r13.2.1.fb r13.2.1.fi r13.2.1.fh r14.2 v10 v11 v12))else none)else none))else some (v10,v4,v9,(D0.mk v6 v7 v8)))else some (v10,v4,v9,(D0.mk v6 v7 v8)))
def Ay4 (K:Nat)(a0:D0)(a1:Int):Option (D9×(List Cm)×C4×D0):=((Av2 K a0).bind fun r1=>((Awi K r1.1).bind fun r2=>((Ap K r1.2 a1).bind fun r3=>(At2 K K ([]:List Cm) (An3 .i64 4 r3.1) r3.2.fb r3.2.fi r3.2.fh r2 r1.1 (C4.mk (D9.mk 0 0 0 0 0 0) (Dm.mk [] [] []) [] [] []) (D9.mk 0 0 0 0 0 0)))))
def Bph:=fd Tryz.func149 ⟨[.b 148 false,.v 3],[.v 25,.n 149 false,.n 32 false],false⟩ (gC (Bui K) (gC (A2j K) (gC (Bov K) (gC (Bud K) (gC (Brf K) gN))))) [22,23] [] [(4,[.put 108,.take 108 10 6738,.shal 6738,.put 108,.shal 1009]),(7,[.take 108 6 6734,.take 108 7 6735,.take 108 8 6736,.take 108 9 6737,.take 108 10 6738,.take 108 11 6739]),(9,[.put 108]),(10,[.take 108 6 6734,.take 108 7 6735,.take 108 8 6736,.take 108 9 6737,.take 108 10 6738,.take 108 11 6739])] [(32,[.frz 3032])]
def By0:Ei:=⟨[(0,.p 1),(4,.p 104),(6,.p 106),(7,.p 107),(8,.p 108),(9,.o 1009 40 false),(10,.v 2)],[(1,.box [.v 22,.v 2,.v 2]),(108,.st 32 false),(107,.st 25 true),(106,.st 32 true),(104,.st 25 true)]⟩
def Bfq:=lp (Bph K) 250 By0 [] (At2 K) (fun n=>kN)
def Brg:=ct (Bph K) (Ay4 K) (kC (Bfq K K) kN)
def At3 (K:Nat)(a0:D0)(a1:Int):Option (C4×D0):=((Ay4 K a0 a1).bind fun r1=>some (r1.2.2.1,r1.2.2.2))
def Bip:=ct (fd Tryz.func68 ⟨[.b 148 false,.v 3],[.n 32 false],false⟩ (gC (Brg K) gN)) (At3 K)
def Apa (K:Nat)(v4:List Int)(v5:Int)(v6:Int)(v7:D9)(v8:D9):Option (D9×D0):=some (v7,(D0.mk v4 v5 v6))
def Az6 (K:Nat)(a0:D0):Option (D9×D0):=((Av2 K a0).bind fun r1=>((Ap K r1.2 14).bind fun r2=>(bif (r2.1==0)then((Wx K r2.2 ([1,2,12,13]:List Int)).bind fun r3=>(if r3.2.2.length=([1,2,12,13]:List Int).length then(Apa K r3.2.1.fb r3.2.1.fi r3.2.1.fh (D9.mk r3.1 r1.1.G6 r1.1.E5 r1.1.Gs r1.1.E6 r1.1.G7) (D9.mk 0 0 0 0 0 0))else none))else(bif (r2.1==1)then((Wx K r2.2 ([7,8,16,17]:List Int)).bind fun r9=>(if r9.2.2.length=([7,8,16,17]:List Int).length then(Apa K r9.2.1.fb r9.2.1.fi r9.2.1.fh (D9.mk r1.1.Ay r9.1 r1.1.E5 r1.1.Gs r1.1.E6 r1.1.G7) (D9.mk 0 0 0 0 0 0))else none))else(bif (r2.1==2)then((Wx K r2.2 ([1,8,9]:List Int)).bind fun r10=>(if r10.2.2.length=([1,8,9]:List Int).length then(Apa K r10.2.1.fb r10.2.1.fi r10.2.1.fh (D9.mk r1.1.Ay r1.1.G6 r10.1 r1.1.Gs r1.1.E6 r1.1.G7) (D9.mk 0 0 0 0 0 0))else none))else(bif (r2.1==3)then((Wx K r2.2 ([0,8,9]:List Int)).bind fun r11=>(if r11.2.2.length=([0,8,9]:List Int).length then(Apa K r11.2.1.fb r11.2.1.fi r11.2.1.fh (D9.mk r1.1.Ay r1.1.G6 r1.1.E5 r11.1 r1.1.E6 r1.1.G7) (D9.mk 0 0 0 0 0 0))else none))else(bif (r2.1==4)then((Wx K r2.2 ([0,17]:List Int)).bind fun r12=>(if r12.2.2.length=([0,17]:List Int).length then(Apa K r12.2.1.fb r12.2.1.fi r12.2.1.fh (D9.mk r1.1.Ay r1.1.G6 r1.1.E5 r1.1.Gs r12.1 r1.1.G7) (D9.mk 0 0 0 0 0 0))else none))else(bif (r2.1==5)then((Wx K r2.2 ([0,5]:List Int)).bind fun r13=>(if r13.2.2.length=([0,5]:List Int).length then(Apa K r13.2.1.fb r13.2.1.fi r13.2.1.fh (D9.mk r1.1.Ay r1.1.G6 r1.1.E5 r1.1.Gs r1.1.E6 r13.1) (D9.mk 0 0 0 0 0 0))else none))else(Apa K r2.2.fb r2.2.fi r2.2.fh r1.1 (D9.mk 0 0 0 0 0 0))))))))))
def Bpi:=fd Tryz.func90 ⟨[.b 148 false],[.v 25],false⟩ (gC (A2j K) (gC (Bak K) (gC (Bud K) gN))) [] [7]
def By1:Ei:=⟨[(2,.p 102),(3,.p 103)],[(1,.box [.v 22,.v 2,.v 2]),(103,.st 25 true),(102,.st 25 true)]⟩
def Bnn:=jn (Bpi K) 7 By1 [] (Apa K) kN
def Brh:=ct (Bpi K) (Az6 K) (kC (Bnn K) kN)
def Asv (K:Nat)(a1:D9)(v4:List Int)(v5:Int)(v6:Int)(v7:Bc):Option (Bc×D0):=((Ap K (D0.mk v4 v5 v6) a1.Ay).bind fun r8=>((Ap K r8.2 a1.G6).bind fun r9=>((Ap K r9.2 (An4 .i64 a1.G6 r9.1)).bind fun r10=>some ((Bc.mk (An3 .i64 (An5 .i64 r8.1 a1.G6) r9.1) (An3 .i64 1 r10.1) 0),r10.2))))
def Ax4 (K:Nat)(a0:D0)(a1:D9):Option (Bc×D0):=((Ane K a0 4).bind fun r1=>(bif r1.1 then(bif (decide (a1.Ay>2))then((Ap K r1.2 (An4 .i64 a1.Ay 1)).bind fun r2=>((Ap K r2.2 a1.G6).bind fun r3=>some ((Bc.mk (An5 .i64 a1.G6 r2.1) (An3 .i64 (An3 .i64 a1.G6 1) r3.1) 2),r3.2)))else(Asv K a1 r1.2.fb r1.2.fi r1.2.fh (Bc.mk 0 0 0)))else(Asv K a1 r1.2.fb r1.2.fi r1.2.fh (Bc.mk 0 0 0))))
def Bpj:=fd Tryz.func285 ⟨[.b 148 false,.v 25],[.v 132],false⟩ (gC (A2j K) (gC (Ban K) gN)) [8,9] [3]
def By2:Ei:=⟨[(0,.p 1),(3,.p 103),(4,.p 104)],[(1,.box [.v 22,.v 2,.v 2]),(104,.st 132 true),(103,.st 25 true)]⟩
def Bno:=jn (Bpj K) 3 By2 [] (fun a b c d e=>Asv K e a b c d) kN
def Bri:=ct (Bpj K) (Ax4 K) (kC (Bno K) kN)
def At4 (K:Nat):Nat->Int->(List Int)->Int->Int->As->Option (As×D0)
 |0,_,_,_,_,_=>none
 |n4+1,v25,v26,v27,v28,v29=>(bif (decide (v25>0))then((Ap K (D0.mk v26 v27 v28) 256).bind fun r30=>(if(v29.Fh++([r30.1]:List Int)).length*8≤140737488355328∧(v29.Fh++([r30.1]:List Int)).length≤maxLen then(At4 K n4 (An4 .i64 v25 1) r30.2.fb r30.2.fi r30.2.fh (As.mk v29.Vg v29.C8 v29.Sj v29.fUp v29.Sk v29.Ee v29.Sl v29.Sm v29.Ay v29.Acv v29.Sn v29.F4 (v29.Fh++([r30.1]:List Int))))else none))else some (v29,(D0.mk v26 v27 v28)))
def At5 (K:Nat)(a1:D9):Nat->Int->(List Int)->Int->Int->As->Option (As×D0)
 |0,_,_,_,_,_=>none
 |n3+1,v18,v19,v20,v21,v22=>(bif (decide (v18>0))then((Ax4 K (D0.mk v19 v20 v21) a1).bind fun r23=>(if(v22.F4++([r23.1]:List Bc)).length*24≤140737488355328∧(v22.F4++([r23.1]:List Bc)).length≤maxLen then(At5 K a1 n3 (An4 .i64 v18 1) r23.2.fb r23.2.fi r23.2.fh (As.mk v22.Vg v22.C8 v22.Sj v22.fUp v22.Sk v22.Ee v22.Sl v22.Sm v22.Ay v22.Acv v22.Sn (v22.F4++([r23.1]:List Bc)) v22.Fh))else none))else((Ap K (D0.mk v19 v20 v21) 3).bind fun r24=>(At4 K K r24.1 r24.2.fb r24.2.fi r24.2.fh v22)))
def At6 (K:Nat)(a1:D9)(v13:List Int)(v14:Int)(v15:Int)(v16:As):Option (As×D0):=((Ap K (D0.mk v13 v14 v15) 3).bind fun r17=>(At5 K a1 K r17.1 r17.2.fb r17.2.fi r17.2.fh v16))
def At7 (K:Nat)(a1:D9):Nat->Int->(List Int)->Int->Int->As->As->Option (As×D0)
 |0,_,_,_,_,_,_=>none
 |n1+1,v6,v7,v8,v9,v10,v11=>(bif (decide (v6>0))then(if(v10.Ay++([(An4 .i64 v6 1)]:List Int)).length*8≤140737488355328∧(v10.Ay++([(An4 .i64 v6 1)]:List Int)).length≤maxLen then(At7 K a1 n1 (An4 .i64 v6 1) v7 v8 v9 (As.mk v10.Vg v10.C8 v10.Sj v10.fUp v10.Sk v10.Ee v10.Sl v10.Sm (v10.Ay++([(An4 .i64 v6 1)]:List Int)) v10.Acv v10.Sn v10.F4 v10.Fh) v11)else none)else(bif (decide ((v10.Ay.length:Int)>0))then(if(0:Int)≤0∧0<(v10.Ay.length:Int)then((Ap K (D0.mk v7 v8 v9) (An3 .i64 a1.G6 1)).bind fun r12=>(At6 K a1 r12.2.fb r12.2.fi r12.2.fh (As.mk v10.Vg v10.C8 v10.Sj v10.fUp v10.Sk v10.Ee v10.Sl v10.Sm v10.Ay (An3 .i64 (gt v10.Ay 0) 1) r12.1 v10.F4 v10.Fh)))else none)else(At6 K a1 v7 v8 v9 v10)))
def Ay5 (K:Nat)(a0:D0)(a1:D9):Option (As×D0):=((Ap K a0 a1.G7).bind fun r1=>((Ak1 K (An3 .i64 1 r1.1)).bind fun r2=>((Ap K r1.2 4).bind fun r3=>(bif (r3.1 != 1)then some ((As.mk r3.1 r2.C8 r2.Sj r2.fUp r2.Sk r2.Ee r2.Sl r2.Sm r2.Ay r2.Acv r2.Sn r2.F4 r2.Fh),r3.2)else((Ap K r3.2 3).bind fun r4=>((Ap K r4.2 3).bind fun r5=>(At7 K a1 K r5.1 r5.2.fb r5.2.fi r5.2.fh (As.mk r3.1 r2.C8 r4.1 r2.fUp r2.Sk r2.Ee r2.Sl r2.Sm r2.Ay r2.Acv r2.Sn r2.F4 r2.Fh) (As.mk 0 0 0 0 0 0 0 0 [] 0 0 [] []))))))))
def Bat:=fd Tryz.func254 ⟨[.b 148 false,.v 25],[.n 50 false],false⟩ (gC (A2j K) (gC (Bam K) (gC (Bri K) gN))) [] [127] [(9,[.take 105 8 6688]),(10,[.take 105 8 6688]),(17,[.take 105 11 6691]),(21,[.take 105 12 6692]),(22,[.take 105 8 6688,.take 105 11 6691,.take 105 12 6692])]
def By3:Ei:=⟨[(0,.p 1),(4,.p 104),(5,.p 105),(9,.v 2)],[(1,.box [.v 22,.v 2,.v 2]),(105,.st 50 false),(104,.st 50 false)]⟩
def Bwf:Ei:=⟨[(0,.p 1),(3,.p 103),(4,.p 104),(5,.p 105),(7,.v 2)],[(1,.box [.v 22,.v 2,.v 2]),(105,.st 50 false),(104,.st 50 false),(103,.st 25 true)]⟩
def By4:Ei:=⟨[(0,.p 1),(3,.p 103),(4,.p 104),(5,.p 105)],[(1,.box [.v 22,.v 2,.v 2]),(105,.st 50 false),(104,.st 50 false),(103,.st 25 true)]⟩
def By5:Ei:=⟨[(0,.p 1),(3,.p 103),(4,.p 104),(5,.p 105),(6,.v 2)],[(1,.box [.v 22,.v 2,.v 2]),(105,.st 50 false),(104,.st 50 false),(103,.st 25 true)]⟩
def Bcn:=lp (Bat K) 4090 By3 [] (fun n a b c d e _=>At4 K n a b c d e) (fun n=>kN)
def Bco:=lp (Bat K) 2042 Bwf [] (fun n a b c d e _ g=>At5 K g n a b c d e) (fun n=>(kC (up (Bcn K K)) kN))
def Bfr:=jn (Bat K) 127 By4 [] (fun a b c d _ f=>At6 K f a b c d) (kC (Bco K K) kN)
def Bfs:=lp (Bat K) 506 By5 [] (fun n a b c d e f g=>At7 K g n a b c d e f) (fun n=>(kC (up (Bfr K)) kN))
def Brj:=ct (Bat K) (Ay5 K) (kC (Bfs K K) kN)
def Ak5 (K:Nat)(v4:List Int)(v5:Int)(v6:Int)(v7:As)(v8:As):Option (As×D0):=some (v7,(D0.mk v4 v5 v6))
def Az7 (K:Nat)(a0:D0)(a1:D9):Option (As×D0):=((Ay5 K a0 a1).bind fun r1=>((Ap K r1.2 14).bind fun r2=>(bif (r2.1==0)then((Ap K r2.2 6).bind fun r3=>(Ak5 K r3.2.fb r3.2.fi r3.2.fh (As.mk (An4 .i64 r3.1 1) r1.1.C8 r1.1.Sj r1.1.fUp r1.1.Sk r1.1.Ee r1.1.Sl r1.1.Sm r1.1.Ay r1.1.Acv r1.1.Sn r1.1.F4 r1.1.Fh) (As.mk 0 0 0 0 0 0 0 0 [] 0 0 [] [])))else(bif (r2.1==1)then((Wx K r2.2 ([0,4,5]:List Int)).bind fun r9=>(if r9.2.2.length=([0,4,5]:List Int).length then(Ak5 K r9.2.1.fb r9.2.1.fi r9.2.1.fh (As.mk r1.1.Vg r9.1 r1.1.Sj r1.1.fUp r1.1.Sk r1.1.Ee r1.1.Sl r1.1.Sm r1.1.Ay r1.1.Acv r1.1.Sn r1.1.F4 r1.1.Fh) (As.mk 0 0 0 0 0 0 0 0 [] 0 0 [] []))else none))else(bif (r2.1==2)then((Wx K r2.2 ([(-1),1,8,9]:List Int)).bind fun r10=>(if r10.2.2.length=([(-1),1,8,9]:List Int).length then(Ak5 K r10.2.1.fb r10.2.1.fi r10.2.1.fh (As.mk r1.1.Vg r1.1.C8 r1.1.Sj r10.1 r1.1.Sk r1.1.Ee r1.1.Sl r1.1.Sm r1.1.Ay r1.1.Acv r1.1.Sn r1.1.F4 r1.1.Fh) (As.mk 0 0 0 0 0 0 0 0 [] 0 0 [] []))else none))else(bif (r2.1==3)then((Wx K r2.2 ([0,12,(-1)]:List Int)).bind fun r11=>(if r11.2.2.length=([0,12,(-1)]:List Int).length then(if(r1.1.Ay++([r11.1]:List Int)).length*8≤140737488355328∧(r1.1.Ay++([r11.1]:List Int)).length≤maxLen then(Ak5 K r11.2.1.fb r11.2.1.fi r11.2.1.fh (As.mk r1.1.Vg r1.1.C8 r1.1.Sj r1.1.fUp r1.1.Sk r1.1.Ee r1.1.Sl r1.1.Sm (r1.1.Ay++([r11.1]:List Int)) r1.1.Acv r1.1.Sn r1.1.F4 r1.1.Fh) (As.mk 0 0 0 0 0 0 0 0 [] 0 0 [] []))else none)else none))else(bif (r2.1==4)then((Ap K r2.2 4).bind fun r12=>(Ak5 K r12.2.fb r12.2.fi r12.2.fh (As.mk r1.1.Vg r1.1.C8 r1.1.Sj r1.1.fUp r1.1.Sk r1.1.Ee r1.1.Sl r1.1.Sm r1.1.Ay r12.1 r1.1.Sn r1.1.F4 r1.1.Fh) (As.mk 0 0 0 0 0 0 0 0 [] 0 0 [] [])))else(bif (r2.1==5)then((Wx K r2.2 ([0,8,17,(-1)]:List Int)).bind fun r13=>(if r13.2.2.length=([0,8,17,(-1)]:List Int).length then(Ak5 K r13.2.1.fb r13.2.1.fi r13.2.1.fh (As.mk r1.1.Vg r1.1.C8 r1.1.Sj r1.1.fUp r1.1.Sk r1.1.Ee r1.1.Sl r1.1.Sm r1.1.Ay r1.1.Acv r13.1 r1.1.F4 r1.1.Fh) (As.mk 0 0 0 0 0 0 0 0 [] 0 0 [] []))else none))else(bif (r2.1==6)then((Wx K r2.2 ([255,256,(-1)]:List Int)).bind fun r14=>(if r14.2.2.length=([255,256,(-1)]:List Int).length then(if(r1.1.Fh++([r14.1]:List Int)).length*8≤140737488355328∧(r1.1.Fh++([r14.1]:List Int)).length≤maxLen then(Ak5 K r14.2.1.fb r14.2.1.fi r14.2.1.fh (As.mk r1.1.Vg r1.1.C8 r1.1.Sj r1.1.fUp r1.1.Sk r1.1.Ee r1.1.Sl r1.1.Sm r1.1.Ay r1.1.Acv r1.1.Sn r1.1.F4 (r1.1.Fh++([r14.1]:List Int))) (As.mk 0 0 0 0 0 0 0 0 [] 0 0 [] []))else none)else none))else(bif (r2.1==7)then((Ap K r2.2 100).bind fun r15=>((Ap K r15.2 20).bind fun r16=>((Ap K r16.2 3).bind fun r17=>(if(r1.1.F4++([(Bc.mk r15.1 r16.1 r17.1)]:List Bc)).length*24≤140737488355328∧(r1.1.F4++([(Bc.mk r15.1 r16.1 r17.1)]:List Bc)).length≤maxLen then(Ak5 K r17.2.fb r17.2.fi r17.2.fh (As.mk r1.1.Vg r1.1.C8 r1.1.Sj r1.1.fUp r1.1.Sk r1.1.Ee r1.1.Sl r1.1.Sm r1.1.Ay r1.1.Acv r1.1.Sn (r1.1.F4++([(Bc.mk r15.1 r16.1 r17.1)]:List Bc)) r1.1.Fh) (As.mk 0 0 0 0 0 0 0 0 [] 0 0 [] []))else none))))else(Ak5 K r2.2.fb r2.2.fi r2.2.fh r1.1 (As.mk 0 0 0 0 0 0 0 0 [] 0 0 [] []))))))))))))
def Bpk:=fd Tryz.func187 ⟨[.b 148 false,.v 25],[.n 50 false],false⟩ (gC (A2j K) (gC (Bak K) (gC (Brj K) gN))) [] [7] [(19,[.take 105 8 6688,.take 105 11 6691,.take 105 12 6692])]
def By6:Ei:=⟨[(4,.p 104),(5,.p 105)],[(1,.box [.v 22,.v 2,.v 2]),(105,.st 50 false),(104,.st 50 false)]⟩
def Bnp:=jn (Bpk K) 7 By6 [] (Ak5 K) kN
def Brk:=ct (Bpk K) (Az7 K) (kC (Bnp K) kN)
def Asw (K:Nat):Nat->Int->(List Int)->Int->Int->As->Option (As×D0)
 |0,_,_,_,_,_=>none
 |n3+1,v23,v24,v25,v26,v27=>(bif (decide (v23>0))then((Ap K (D0.mk v24 v25 v26) 256).bind fun r28=>(if(v27.Fh++([r28.1]:List Int)).length*8≤140737488355328∧(v27.Fh++([r28.1]:List Int)).length≤maxLen then(Asw K n3 (An4 .i64 v23 1) r28.2.fb r28.2.fi r28.2.fh (As.mk v27.Vg v27.C8 v27.Sj v27.fUp v27.Sk v27.Ee v27.Sl v27.Sm v27.Ay v27.Acv v27.Sn v27.F4 (v27.Fh++([r28.1]:List Int))))else none))else some (v27,(D0.mk v24 v25 v26)))
def Asx (K:Nat)(v18:List Int)(v19:Int)(v20:Int)(v21:As):Option (As×D0):=((Ap K (D0.mk v18 v19 v20) 3).bind fun r22=>(Asw K K r22.1 r22.2.fb r22.2.fi r22.2.fh v21))
def Asy (K:Nat)(a1:D9):Nat->Int->(List Int)->Int->Int->As->As->Option (As×D0)
 |0,_,_,_,_,_,_=>none
 |n1+1,v7,v8,v9,v10,v11,v12=>(bif (decide (v7>0))then((Ap K (D0.mk v8 v9 v10) 5).bind fun r13=>((Wx K r13.2 ([1,2,4]:List Int)).bind fun r14=>(if r14.2.2.length=([1,2,4]:List Int).length then((Aty K a1 v11 (An3 .i64 1 r13.1) r14.1).bind fun r15=>(Asy K a1 n1 (An4 .i64 v7 1) r14.2.1.fb r14.2.1.fi r14.2.1.fh r15.1 v12))else none)))else((Ane K (D0.mk v8 v9 v10) 3).bind fun r16=>(bif r16.1 then((Aqf K a1 v11 2 (An3 .i64 a1.G6 1)).bind fun r17=>(Asx K r16.2.fb r16.2.fi r16.2.fh r17.1))else(Asx K r16.2.fb r16.2.fi r16.2.fh v11))))
def Ax5 (K:Nat)(a0:D0)(a1:D9):Option (As×D0):=((Ap K a0 a1.G7).bind fun r1=>((Ak1 K (An3 .i64 1 r1.1)).bind fun r2=>((Ap K r1.2 2).bind fun r3=>((Ap K r3.2 2).bind fun r4=>((Aud K a1 (As.mk 1 r2.C8 r3.1 r2.fUp r2.Sk r2.Ee r2.Sl r2.Sm r2.Ay r2.Acv r2.Sn r2.F4 r2.Fh) r4.1).bind fun r5=>((Ap K r4.2 4).bind fun r6=>(Asy K a1 K r6.1 r6.2.fb r6.2.fi r6.2.fh r5.1 (As.mk 0 0 0 0 0 0 0 0 [] 0 0 [] []))))))))
def Beb:=fd Tryz.func286 ⟨[.b 148 false,.v 25],[.n 50 false],false⟩ (gC (A2j K) (gC (Bak K) (gC (Ban K) (gC (Bam K) (gC (Bh0 K) (gC (Bpa K) (gC (Bo8 K) gN))))))) [] [255] [(9,[.take 105 8 6688,.take 105 11 6691,.take 105 12 6692]),(11,[.take 105 8 6688,.take 105 11 6691,.take 105 12 6692]),(15,[.take 105 12 6692]),(16,[.take 105 8 6688,.take 105 11 6691,.take 105 12 6692])]
def By7:Ei:=⟨[(0,.p 1),(4,.p 104),(5,.p 105),(8,.v 2)],[(1,.box [.v 22,.v 2,.v 2]),(105,.st 50 false),(104,.st 50 false)]⟩
def By8:Ei:=⟨[(0,.p 1),(4,.p 104),(5,.p 105)],[(1,.box [.v 22,.v 2,.v 2]),(105,.st 50 false),(104,.st 50 false)]⟩
def Bcp:=lp (Beb K) 4090 By7 [] (fun n a b c d e _=>Asw K n a b c d e) (fun n=>kN)
def Bft:=jn (Beb K) 255 By8 [] (fun a b c d _=>Asx K a b c d) (kC (Bcp K K) kN)
def Bcq:=lp (Beb K) 1018 Bwf [] (fun n a b c d e f g=>Asy K g n a b c d e f) (fun n=>(kC (up (Bft K)) kN))
def Brl:=ct (Beb K) (Ax5 K) (kC (Bcq K K) kN)
def Avr (K:Nat)(v12:List Int)(v13:Int)(v14:Int)(v15:Az):Option (Az×D0):=some (v15,(D0.mk v12 v13 v14))
def Asz (K:Nat)(v6:List Int)(v7:Int)(v8:Int)(v9:Az)(v10:Az):Option (Az×D0):=((Ane K (D0.mk v6 v7 v8) 4).bind fun r11=>(bif r11.1 then(Avr K r11.2.fb r11.2.fi r11.2.fh (Az.mk v9.Bk v9.Ee ([]:List Int) ([]:List Int) 0))else(Avr K r11.2.fb r11.2.fi r11.2.fh v9)))
def Ax6 (K:Nat)(a0:D0)(a1:D9):Option (Az×D0):=((Ax5 K a0 a1).bind fun r1=>((Ap K r1.2 (An3 .i64 a1.E5 1)).bind fun r2=>((Asj K r1.1 r2.1).bind fun r3=>((Ap K r2.2 3).bind fun r4=>(bif (decide ((r3.Ay.length:Int)>0))then((Ap K r4.2 a1.G6).bind fun r5=>(Asz K r5.2.fb r5.2.fi r5.2.fh (Az.mk r3.Bk r4.1 r3.Fh r3.Ay r5.1) (Az.mk 0 0 [] [] 0)))else(Asz K r4.2.fb r4.2.fi r4.2.fh (Az.mk r3.Bk r4.1 r3.Fh r3.Ay r3.Wv) (Az.mk 0 0 [] [] 0)))))))
def Biq:=fd Tryz.func255 ⟨[.b 148 false,.v 25],[.n 52 true],false⟩ (gC (A2j K) (gC (Ban K) (gC (Bhp K) (gC (Brl K) gN)))) [] [15,31] [(9,[.take 105 2 6682,.take 105 3 6683])]
def Bwg:Ei:=⟨[(4,.p 104),(5,.p 105)],[(1,.box [.v 22,.v 2,.v 2]),(105,.st 52 true),(104,.st 52 true)]⟩
def By9:Ei:=⟨[(0,.p 1),(4,.p 104),(5,.p 105)],[(1,.box [.v 22,.v 2,.v 2]),(105,.st 52 true),(104,.st 52 true)]⟩
def Bir:=jn (Biq K) 31 Bwg [] (fun a b c d _=>Avr K a b c d) kN
def Bis:=jn (Biq K) 15 By9 [] (Asz K) (kC (Bir K) kN)
def Brm:=ct (Biq K) (Ax6 K) (kC (Bis K) kN)
def Apj (K:Nat)(v4:List Int)(v5:Int)(v6:Int)(v7:Az)(v8:Az):Option (Az×D0):=some (v7,(D0.mk v4 v5 v6))
def Ay6 (K:Nat)(a0:D0)(a1:D9):Option (Az×D0):=((Ax6 K a0 a1).bind fun r1=>((Ap K r1.2 10).bind fun r2=>(bif (r2.1==0)then((Wx K r2.2 ([(-1),0,8,9]:List Int)).bind fun r3=>(if r3.2.2.length=([(-1),0,8,9]:List Int).length then(Apj K r3.2.1.fb r3.2.1.fi r3.2.1.fh (Az.mk r3.1 r1.1.Ee r1.1.Fh r1.1.Ay r1.1.Wv) (Az.mk 0 0 [] [] 0))else none))else(bif (r2.1==1)then((Wx K r2.2 ([(-1),9,0]:List Int)).bind fun r9=>(if r9.2.2.length=([(-1),9,0]:List Int).length then(Apj K r9.2.1.fb r9.2.1.fi r9.2.1.fh (Az.mk r1.1.Bk r9.1 r1.1.Fh r1.1.Ay r1.1.Wv) (Az.mk 0 0 [] [] 0))else none))else(bif (r2.1==2)then((Wx K r2.2 ([(-1),0,8,16]:List Int)).bind fun r10=>(if r10.2.2.length=([(-1),0,8,16]:List Int).length then(Apj K r10.2.1.fb r10.2.1.fi r10.2.1.fh (Az.mk r1.1.Bk r1.1.Ee r1.1.Fh r1.1.Ay r10.1) (Az.mk 0 0 [] [] 0))else none))else(bif (r2.1==3)then((Wx K r2.2 ([(-1),255,256]:List Int)).bind fun r11=>(if r11.2.2.length=([(-1),255,256]:List Int).length then(if(r1.1.Fh++([r11.1]:List Int)).length*8≤140737488355328∧(r1.1.Fh++([r11.1]:List Int)).length≤maxLen then(Apj K r11.2.1.fb r11.2.1.fi r11.2.1.fh (Az.mk r1.1.Bk r1.1.Ee (r1.1.Fh++([r11.1]:List Int)) r1.1.Ay r1.1.Wv) (Az.mk 0 0 [] [] 0))else none)else none))else(bif (r2.1==4)then((Wx K r2.2 ([(-1),0,12]:List Int)).bind fun r12=>(if r12.2.2.length=([(-1),0,12]:List Int).length then(if(r1.1.Ay++([r12.1]:List Int)).length*8≤140737488355328∧(r1.1.Ay++([r12.1]:List Int)).length≤maxLen then(Apj K r12.2.1.fb r12.2.1.fi r12.2.1.fh (Az.mk r1.1.Bk r1.1.Ee r1.1.Fh (r1.1.Ay++([r12.1]:List Int)) r1.1.Wv) (Az.mk 0 0 [] [] 0))else none)else none))else(Apj K r2.2.fb r2.2.fi r2.2.fh r1.1 (Az.mk 0 0 [] [] 0)))))))))
def Bpl:=fd Tryz.func188 ⟨[.b 148 false,.v 25],[.n 52 true],false⟩ (gC (A2j K) (gC (Bak K) (gC (Brm K) gN))) [] [7] [(13,[.take 105 2 6682,.take 105 3 6683])]
def Bnq:=jn (Bpl K) 7 Bwg [] (Apj K) kN
def Brn:=ct (Bpl K) (Ay6 K) (kC (Bnq K) kN)
def Aba (K:Nat)(v5:List Int)(v6:Int)(v7:Int)(v8:Int)(v9:Int)(v10:Int)(v11:Int)(v12:Int)(v13:Int)(v14:List Int)(v15:List Int)(v16:List Int)(v17:List As)(v18:List Az)(v19:List Int)(v20:Int)(v21:Int)(v22:Int)(v23:Int)(v24:Int)(v25:Int)(v26:List Int)(v27:List Int)(v28:List Int)(v29:List As)(v30:List Az)(v31:List Int):Option (C4×D0):=some ((C4.mk (D9.mk v8 v9 v10 v11 v12 v13) (Dm.mk v14 v15 v16) v17 v18 v19),(D0.mk v5 v6 v7))
def Ay7 (K:Nat)(a0:D0)(a1:Int):Option (C4×D0):=((At3 K a0 a1).bind fun r1=>((Ap K r1.2 (r1.1.fL.length:Int)).bind fun r2=>((Ap K r2.2 40).bind fun r3=>(bif (r3.1==0)then((Az6 K r3.2).bind fun r4=>(Aba K r4.2.fb r4.2.fi r4.2.fh r4.1.Ay r4.1.G6 r4.1.E5 r4.1.Gs r4.1.E6 r4.1.G7 r1.1.fP.N5 r1.1.fP.Vg r1.1.fP.N6 r1.1.fL r1.1.fQ r1.1.Acw 0 0 0 0 0 0 [] [] [] [] [] []))else(bif (r3.1==1)then((Ap K r3.2 (r1.1.fP.Vg.length:Int)).bind fun r32=>((Ap K r32.2 4).bind fun r33=>(if(0:Int)≤r32.1∧r32.1<(r1.1.fP.Vg.length:Int)then(Aba K r33.2.fb r33.2.fi r33.2.fh r1.1.fC.Ay r1.1.fC.G6 r1.1.fC.E5 r1.1.fC.Gs r1.1.fC.E6 r1.1.fC.G7 r1.1.fP.N5 (r1.1.fP.Vg.set r32.1.toNat r33.1) r1.1.fP.N6 r1.1.fL r1.1.fQ r1.1.Acw 0 0 0 0 0 0 [] [] [] [] [] [])else none)))else(bif (r3.1==2)then((Ap K r3.2 (r1.1.fP.N5.length:Int)).bind fun r34=>(if(0:Int)≤r34.1∧r34.1<(r1.1.fP.N5.length:Int)then(Aba K r34.2.fb r34.2.fi r34.2.fh r1.1.fC.Ay r1.1.fC.G6 r1.1.fC.E5 r1.1.fC.Gs r1.1.fC.E6 r1.1.fC.G7 (r1.1.fP.N5.set r34.1.toNat 9) r1.1.fP.Vg r1.1.fP.N6 r1.1.fL r1.1.fQ r1.1.Acw 0 0 0 0 0 0 [] [] [] [] [] [])else none))else(bif (r3.1==3)then((Az7 K r3.2 r1.1.fC).bind fun r35=>(if(0:Int)≤r2.1∧r2.1<(r1.1.fL.length:Int)then(Aba K r35.2.fb r35.2.fi r35.2.fh r1.1.fC.Ay r1.1.fC.G6 r1.1.fC.E5 r1.1.fC.Gs r1.1.fC.E6 r1.1.fC.G7 r1.1.fP.N5 r1.1.fP.Vg r1.1.fP.N6 (r1.1.fL.set r2.1.toNat r35.1) r1.1.fQ r1.1.Acw 0 0 0 0 0 0 [] [] [] [] [] [])else none))else(bif (r3.1==4)then((Ap K r3.2 4).bind fun r36=>(if(0:Int)≤r2.1∧r2.1<(r1.1.fL.length:Int)then(Aqh (r1.1.fL.set r2.1.toNat (As.mk r36.1 ((gt r1.1.fL r2.1).C8) ((gt r1.1.fL r2.1).Sj) ((gt r1.1.fL r2.1).fUp) ((gt r1.1.fL r2.1).Sk) ((gt r1.1.fL r2.1).Ee) ((gt r1.1.fL r2.1).Sl) ((gt r1.1.fL r2.1).Sm) ((gt r1.1.fL r2.1).Ay) ((gt r1.1.fL r2.1).Acv) ((gt r1.1.fL r2.1).Sn) ((gt r1.1.fL r2.1).F4) ((gt r1.1.fL r2.1).Fh))) fun v37=>(Aba K r36.2.fb r36.2.fi r36.2.fh r1.1.fC.Ay r1.1.fC.G6 r1.1.fC.E5 r1.1.fC.Gs r1.1.fC.E6 r1.1.fC.G7 r1.1.fP.N5 r1.1.fP.Vg r1.1.fP.N6 v37 r1.1.fQ r1.1.Acw 0 0 0 0 0 0 [] [] [] [] [] []))else none))else(bif (r3.1==5)then((Ap K r3.2 4).bind fun r38=>(if(0:Int)≤r2.1∧r2.1<(r1.1.fL.length:Int)then(Aqh (r1.1.fL.set r2.1.toNat (As.mk ((gt r1.1.fL r2.1).Vg) ((gt r1.1.fL r2.1).C8) ((gt r1.1.fL r2.1).Sj) r38.1 ((gt r1.1.fL r2.1).Sk) ((gt r1.1.fL r2.1).Ee) ((gt r1.1.fL r2.1).Sl) ((gt r1.1.fL r2.1).Sm) ((gt r1.1.fL r2.1).Ay) ((gt r1.1.fL r2.1).Acv) ((gt r1.1.fL r2.1).Sn) ((gt r1.1.fL r2.1).F4) ((gt r1.1.fL r2.1).Fh))) fun v39=>(Aba K r38.2.fb r38.2.fi r38.2.fh r1.1.fC.Ay r1.1.fC.G6 r1.1.fC.E5 r1.1.fC.Gs r1.1.fC.E6 r1.1.fC.G7 r1.1.fP.N5 r1.1.fP.Vg r1.1.fP.N6 v39 r1.1.fQ r1.1.Acw 0 0 0 0 0 0 [] [] [] [] [] []))else none))else(bif (r3.1==6)then(if(0:Int)≤r2.1∧r2.1<(r1.1.fL.length:Int)then(if(0:Int)≤r2.1∧r2.1<(r1.1.fL.length:Int)then(Aqh (r1.1.fL.set r2.1.toNat (As.mk ((gt r1.1.fL r2.1).Vg) ((gt r1.1.fL r2.1).C8) (An3 .i64 ((gt r1.1.fL r2.1).Sj) 1) ((gt r1.1.fL r2.1).fUp) ((gt r1.1.fL r2.1).Sk) ((gt r1.1.fL r2.1).Ee) ((gt r1.1.fL r2.1).Sl) ((gt r1.1.fL r2.1).Sm) ((gt r1.1.fL r2.1).Ay) ((gt r1.1.fL r2.1).Acv) ((gt r1.1.fL r2.1).Sn) ((gt r1.1.fL r2.1).F4) ((gt r1.1.fL r2.1).Fh))) fun v40=>(Aba K r3.2.fb r3.2.fi r3.2.fh r1.1.fC.Ay r1.1.fC.G6 r1.1.fC.E5 r1.1.fC.Gs r1.1.fC.E6 r1.1.fC.G7 r1.1.fP.N5 r1.1.fP.Vg r1.1.fP.N6 v40 r1.1.fQ r1.1.Acw 0 0 0 0 0 0 [] [] [] [] [] []))else none)else none)else(bif (r3.1==7)then((Ay6 K r3.2 r1.1.fC).bind fun r41=>(if(r1.1.fQ++[r41.1]).length*72≤140737488355328∧(r1.1.fQ++[r41.1]).length≤maxLen then(Aba K r41.2.fb r41.2.fi r41.2.fh r1.1.fC.Ay r1.1.fC.G6 r1.1.fC.E5 r1.1.fC.Gs r1.1.fC.E6 r1.1.fC.G7 r1.1.fP.N5 r1.1.fP.Vg r1.1.fP.N6 r1.1.fL (r1.1.fQ++[r41.1]) r1.1.Acw 0 0 0 0 0 0 [] [] [] [] [] [])else none))else(bif (r3.1==8)then(bif (decide ((r1.1.fQ.length:Int)>0))then(if(0:Int)≤1∧1≤(r1.1.fQ.length:Int)∧(r1.1.fQ.length:Int)≤(r1.1.fQ.length:Int)then(Aba K r3.2.fb r3.2.fi r3.2.fh r1.1.fC.Ay r1.1.fC.G6 r1.1.fC.E5 r1.1.fC.Gs r1.1.fC.E6 r1.1.fC.G7 r1.1.fP.N5 r1.1.fP.Vg r1.1.fP.N6 r1.1.fL ((r1.1.fQ.drop (1:Int).toNat).take ((r1.1.fQ.length:Int) - 1).toNat) r1.1.Acw 0 0 0 0 0 0 [] [] [] [] [] [])else none)else(Aba K r3.2.fb r3.2.fi r3.2.fh r1.1.fC.Ay r1.1.fC.G6 r1.1.fC.E5 r1.1.fC.Gs r1.1.fC.E6 r1.1.fC.G7 r1.1.fP.N5 r1.1.fP.Vg r1.1.fP.N6 r1.1.fL r1.1.fQ r1.1.Acw 0 0 0 0 0 0 [] [] [] [] [] []))else(bif (r3.1==9)then((Wx K r3.2 ([0,255,256,(-1)]:List Int)).bind fun r42=>(if r42.2.2.length=([0,255,256,(-1)]:List Int).length then(if(r1.1.Acw++([r42.1]:List Int)).length*8≤140737488355328∧(r1.1.Acw++([r42.1]:List Int)).length≤maxLen then(Aba K r42.2.1.fb r42.2.1.fi r42.2.1.fh r1.1.fC.Ay r1.1.fC.G6 r1.1.fC.E5 r1.1.fC.Gs r1.1.fC.E6 r1.1.fC.G7 r1.1.fP.N5 r1.1.fP.Vg r1.1.fP.N6 r1.1.fL r1.1.fQ (r1.1.Acw++([r42.1]:List Int)) 0 0 0 0 0 0 [] [] [] [] [] [])else none)else none))else(bif (r3.1==10)then(if(0:Int)≤r2.1∧r2.1<(r1.1.fL.length:Int)then(if(0:Int)≤r2.1∧r2.1<(r1.1.fL.length:Int)then((Ap K r3.2 60).bind fun r43=>(if(((gt r1.1.fL r2.1).F4)++([(Bc.mk r43.1 2 0)]:List Bc)).length*24≤140737488355328∧(((gt r1.1.fL r2.1).F4)++([(Bc.mk r43.1 2 0)]:List Bc)).length≤maxLen then(if(0:Int)≤r2.1∧r2.1<(r1.1.fL.length:Int)then(Aba K r43.2.fb r43.2.fi r43.2.fh r1.1.fC.Ay r1.1.fC.G6 r1.1.fC.E5 r1.1.fC.Gs r1.1.fC.E6 r1.1.fC.G7 r1.1.fP.N5 r1.1.fP.Vg r1.1.fP.N6 (r1.1.fL.set r2.1.toNat (As.mk ((gt r1.1.fL r2.1).Vg) ((gt r1.1.fL r2.1).C8) ((gt r1.1.fL r2.1).Sj) ((gt r1.1.fL r2.1).fUp) ((gt r1.1.fL r2.1).Sk) ((gt r1.1.fL r2.1).Ee) ((gt r1.1.fL r2.1).Sl) ((gt r1.1.fL r2.1).Sm) ((gt r1.1.fL r2.1).Ay) ((gt r1.1.fL r2.1).Acv) ((gt r1.1.fL r2.1).Sn) (((gt r1.1.fL r2.1).F4)++([(Bc.mk r43.1 2 0)]:List Bc)) ((gt r1.1.fL r2.1).Fh))) r1.1.fQ r1.1.Acw 0 0 0 0 0 0 [] [] [] [] [] [])else none)else none))else none)else none)else(bif (r3.1==11)then((Ap K r3.2 4).bind fun r44=>(if(0:Int)≤r2.1∧r2.1<(r1.1.fL.length:Int)then(Aqh (r1.1.fL.set r2.1.toNat (As.mk ((gt r1.1.fL r2.1).Vg) ((gt r1.1.fL r2.1).C8) ((gt r1.1.fL r2.1).Sj) ((gt r1.1.fL r2.1).fUp) ((gt r1.1.fL r2.1).Sk) ((gt r1.1.fL r2.1).Ee) r44.1 ((gt r1.1.fL r2.1).Sm) ((gt r1.1.fL r2.1).Ay) ((gt r1.1.fL r2.1).Acv) ((gt r1.1.fL r2.1).Sn) ((gt r1.1.fL r2.1).F4) ((gt r1.1.fL r2.1).Fh))) fun v45=>(Aba K r44.2.fb r44.2.fi r44.2.fh r1.1.fC.Ay r1.1.fC.G6 r1.1.fC.E5 r1.1.fC.Gs r1.1.fC.E6 r1.1.fC.G7 r1.1.fP.N5 r1.1.fP.Vg r1.1.fP.N6 v45 r1.1.fQ r1.1.Acw 0 0 0 0 0 0 [] [] [] [] [] []))else none))else(bif (r3.1==12)then(bif (decide ((r1.1.fQ.length:Int)>0))then((Ap K r3.2 9).bind fun r46=>(if(0:Int)≤0∧0<(r1.1.fQ.length:Int)then(Aba K r46.2.fb r46.2.fi r46.2.fh r1.1.fC.Ay r1.1.fC.G6 r1.1.fC.E5 r1.1.fC.Gs r1.1.fC.E6 r1.1.fC.G7 r1.1.fP.N5 r1.1.fP.Vg r1.1.fP.N6 r1.1.fL (r1.1.fQ.set (0:Int).toNat (Az.mk ((gt r1.1.fQ 0).Bk) ((gt r1.1.fQ 0).Ee) ((gt r1.1.fQ 0).Fh) ((gt r1.1.fQ 0).Ay) r46.1)) r1.1.Acw 0 0 0 0 0 0 [] [] [] [] [] [])else none))else(Aba K r3.2.fb r3.2.fi r3.2.fh r1.1.fC.Ay r1.1.fC.G6 r1.1.fC.E5 r1.1.fC.Gs r1.1.fC.E6 r1.1.fC.G7 r1.1.fP.N5 r1.1.fP.Vg r1.1.fP.N6 r1.1.fL r1.1.fQ r1.1.Acw 0 0 0 0 0 0 [] [] [] [] [] []))else(Aba K r3.2.fb r3.2.fi r3.2.fh r1.1.fC.Ay r1.1.fC.G6 r1.1.fC.E5 r1.1.fC.Gs r1.1.fC.E6 r1.1.fC.G7 r1.1.fP.N5 r1.1.fP.Vg r1.1.fP.N6 r1.1.fL r1.1.fQ r1.1.Acw 0 0 0 0 0 0 [] [] [] [] [] [])))))))))))))))))
def Bpm:=fd Tryz.func94 ⟨[.b 148 false,.v 3],[.v 32],false⟩ (gC (A2j K) (gC (Bip K) (gC (Brh K) (gC (Bak K) (gC (Brk K) (gC (Brn K) gN)))))) [] [15] [(29,[.opn 20387 (.tmp 6),.takeE 20387 11 64779])] [(104,[.put 3104,.shal 3104]),(114,[.frzT 114])]
def Bza:Ei:=⟨[(4,.p 104),(5,.p 105)],[(1,.box [.v 22,.v 2,.v 2]),(105,.box [.v 2,.v 2,.v 2,.v 2,.v 2,.v 2,.v 22,.v 26,.v 26,.v 29,.v 30,.v 26]),(104,.box [.v 2,.v 2,.v 2,.v 2,.v 2,.v 2,.v 22,.v 26,.v 26,.v 29,.v 30,.v 26])]⟩
def Biu:=jn (Bpm K) 15 Bza [] (Aba K) kN
def Bro:=ct (Bpm K) (Ay7 K) (kC (Biu K) kN)
def Ava (K:Nat)(a0:List Int)(a1:Int):Option (D0×C4):=((Axl K a0).bind fun r1=>((Ay7 K r1 a1).bind fun r2=>some (r2.2,r2.1)))
def Biv:=ct (fd Tryz.func65 ⟨[.v 22,.v 3],[.p 148 false,.v 32],false⟩ (gC (Bub K) (gC (Bro K) gN))) (Ava K)
def Avs (K:Nat)(a0:List Int):Option (C4×Int):=((Ava K a0 40).bind fun r1=>((Ap K r1.1 7).bind fun r2=>some (r1.2,(An4 .i64 r2.1 1))))
def Brp:=ct (fd Tryz.func9 ⟨[.v 22],[.v 32,.v 3],false⟩ (gC (Biv K) (gC (A2j K) gN))) (Avs K)
def Axa (K:Nat)(a0:List Int):Option (C4×Int):=((Ava K a0 40).bind fun r1=>((Ap K r1.1 7).bind fun r2=>some (r1.2,(An4 .i64 r2.1 1))))
def Brq:=ct (fd Tryz.func10 ⟨[.v 22],[.v 32,.v 3],false⟩ (gC (Biv K) (gC (A2j K) gN))) (Axa K)
def Awb (K:Nat)(a0:List Int)(a1:Int):Option (Int):=(if 12≠(0:Int)then(bif (decide ((An3 .i64 3 (Ali .i64 (a0.length:Int) 12))>a1))then some a1 else some (An3 .i64 3 (Ali .i64 (a0.length:Int) 12)))else none)
def Brr:=ct (fd Tryz.func69 ⟨[.v 22,.v 3],[.v 3],true⟩ gN) (Awb K)
def Avt (K:Nat)(a0:List Int):Option (C4×Cm):=((Axl K a0).bind fun r1=>((Awb K a0 50).bind fun r2=>((At3 K r1 (An3 .i64 20 r2)).bind fun r3=>((Auy K r3.2 r3.1).bind fun r4=>(if r4.2.2.1.length=r3.1.fP.N5.length∧r4.2.2.2.1.length=r3.1.fP.Vg.length∧r4.2.2.2.2.1.length=r3.1.fP.N6.length∧r4.2.2.2.2.2.1.length=r3.1.fL.length∧r4.2.2.2.2.2.2.1.length=r3.1.fQ.length∧r4.2.2.2.2.2.2.2.length=r3.1.Acw.length then some ((C4.mk r3.1.fC (Dm.mk r4.2.2.1 r4.2.2.2.1 r4.2.2.2.2.1) r4.2.2.2.2.2.1 r4.2.2.2.2.2.2.1 r4.2.2.2.2.2.2.2),r4.1)else none)))))
def Brs:=ct (fd Tryz.func11 ⟨[.v 22],[.n 32 false,.n 40 true],false⟩ (gC (Bub K) (gC (Bip K) (gC (Brr K) (gC (Bov K) gN))))) (Avt K)
def Wy (K:Nat)(a0:Int)(a1:Int)(a2:Int):Option (Bool):=(bif (decide (a0≥a1))then some (decide (a0≤a2))else some false)
def A10:=ct (fd Tryz.func116 ⟨[.v 3,.v 3,.v 3],[.v 4],true⟩ gN [9,10]) (Wy K)
def Ahe (K:Nat)(a0:List As)(a1:Int):Option (Bool):=((Wy K a1 0 (An4 .i64 (a0.length:Int) 1)).bind fun r1=>some r1)
def A2k:=ct (fd Tryz.func75 ⟨[.v 29,.v 3],[.v 4],true⟩ (gC (A10 K) gN)) (Ahe K)
def Awc (K:Nat)(a0:List As):Nat->Int->(List Int)->Option ((List Int))
 |0,_,_=>none
 |n1+1,v1,v2=>((Ahe K a0 v1).bind fun r3=>(bif r3 then(bif (decide ((v2.length:Int)<(a0.length:Int)))then(if(v2++([v1]:List Int)).length*8≤140737488355328∧(v2++([v1]:List Int)).length≤maxLen then(if(0:Int)≤v1∧v1<(a0.length:Int)then(Awc K a0 n1 (An4 .i64 ((gt a0 v1).fUp) 1) (v2++([v1]:List Int)))else none)else none)else some v2)else some v2))
def Azh (K:Nat)(a0:List As)(a1:Int):Option ((List Int)):=(Awc K a0 K a1 ([]:List Int))
def Bpn:=fd Tryz.func120 ⟨[.v 29,.v 3],[.n 26 true],true⟩ (gC (A2k K) gN) [9,10]
def Biw:=lp (Bpn K) 28 h_4 [] (fun n a=>Awc K a n) (fun n=>kN)
def Bix:=ct (Bpn K) (Azh K) (kC (Biw K K) kN)
def Ax7 (K:Nat)(v2:List Int)(v3:Int)(v4:Int)(C1:(List Int)->Int->Int->Option (Bool)):Option (Bool):=(C1 v2 v3 (An3 .i64 v4 1))
def As0 (K:Nat)(a0:List As)(r1:(List Int)):Nat->(List Int)->Int->Int->Option (Bool)
 |0,_,_,_=>none
 |n1+1,v2,v3,v4=>(bif (decide (v4<v3))then(if(0:Int)≤v4∧v4<(v2.length:Int)then(if(0:Int)≤(gt v2 v4)∧(gt v2 v4)<(a0.length:Int)then(bif (((gt a0 (gt v2 v4)).Vg) != 1)then some false else(bif (decide ((An3 .i64 v4 1)<(r1.length:Int)))then(if(0:Int)≤(gt v2 v4)∧(gt v2 v4)<(a0.length:Int)then(if(0:Int)≤(An3 .i64 v4 1)∧(An3 .i64 v4 1)<(r1.length:Int)then(if(0:Int)≤(gt r1 (An3 .i64 v4 1))∧(gt r1 (An3 .i64 v4 1))<(a0.length:Int)then(bif (((gt a0 (gt v2 v4)).Sk) != ((gt a0 (gt r1 (An3 .i64 v4 1))).Sj))then some false else(Ax7 K v2 v3 v4 (As0 K a0 r1 n1)))else none)else none)else none)else(Ax7 K v2 v3 v4 (As0 K a0 r1 n1))))else none)else none)else(bif (decide ((r1.length:Int)>0))then(if(0:Int)≤(An4 .i64 (r1.length:Int) 1)∧(An4 .i64 (r1.length:Int) 1)<(r1.length:Int)then(if(0:Int)≤(gt r1 (An4 .i64 (r1.length:Int) 1))∧(gt r1 (An4 .i64 (r1.length:Int) 1))<(a0.length:Int)then some (((gt a0 (gt r1 (An4 .i64 (r1.length:Int) 1))).fUp)==0)else none)else none)else some false))
def Az8 (K:Nat)(a0:List As)(a1:Int):Option (Bool):=((Azh K a0 a1).bind fun r1=>(As0 K a0 r1 K r1 (r1.length:Int) 0))
def Biy:=fd Tryz.func71 ⟨[.v 29,.v 3],[.v 4],true⟩ (gC (Bix K) gN) [28,29,49,50] [467]
def Bnr:Ei:=⟨[(0,.v 29),(5,.v 26),(11,.v 26),(12,.v 2),(13,.v 2)],[]⟩
def Bfu:=fun(C58:CT Bnr _)=>jn (Biy K) 467 Bnr [(58,ar Bnr C58)] (fun a b c d e=>Ax7 K c d e (C58 a b)) kN
def Biz:=lp (Biy K) 58 Bnr [] (fun n a b=>As0 K a b n) (fun n=>(kC (Bfu K _) kN))
def Brt:=ct (Biy K) (Az8 K) (kC (Biz K K) kN)
def As1 (K:Nat)(v2:Int)(v3:Int)(v4:Int)(v5:Int)(v6:Int)(v7:Int)(v8:Int)(v9:Int)(v10:List Int)(v11:List Int)(v12:List Int)(v13:List As)(v14:List Az)(v15:List Int)(C1:(List Int)->Int->Int->Int->Int->Int->Int->Int->Int->(List Int)->(List Int)->(List Int)->(List As)->(List Az)->(List Int)->Option ((List Int)))(v17:List Int):Option ((List Int)):=(C1 v17 v2 (An3 .i64 v3 1) v4 v5 v6 v7 v8 v9 v10 v11 v12 v13 v14 v15)
def Aq1 (K:Nat):Nat->(List Int)->Int->Int->Int->Int->Int->Int->Int->Int->(List Int)->(List Int)->(List Int)->(List As)->(List Az)->(List Int)->Option ((List Int))
 |0,_,_,_,_,_,_,_,_,_,_,_,_,_,_,_=>none
 |n1+1,v1,v2,v3,v4,v5,v6,v7,v8,v9,v10,v11,v12,v13,v14,v15=>(bif (decide (v3<v2))then((Az8 K v13 v3).bind fun r16=>(bif r16 then(if(v1++([v3]:List Int)).length*8≤140737488355328∧(v1++([v3]:List Int)).length≤maxLen then(As1 K v2 v3 v4 v5 v6 v7 v8 v9 v10 v11 v12 v13 v14 v15 (Aq1 K n1) (v1++([v3]:List Int)))else none)else(As1 K v2 v3 v4 v5 v6 v7 v8 v9 v10 v11 v12 v13 v14 v15 (Aq1 K n1) v1)))else some v1)
def A0i (K:Nat)(a0:C4):Option ((List Int)):=(Aq1 K K ([]:List Int) (a0.fL.length:Int) 0 a0.fC.Ay a0.fC.G6 a0.fC.E5 a0.fC.Gs a0.fC.E6 a0.fC.G7 a0.fP.N5 a0.fP.Vg a0.fP.N6 a0.fL a0.fQ a0.Acw)
def Bi0:=fd Tryz.func12 ⟨[.v 32],[.n 26 true],true⟩ (gC (Brt K) gN) [] [467]
def Bns:Ei:=⟨[(1,.p 101),(3,.o 1003 3 true),(8,.v 2),(9,.v 2)],[(101,.box [.v 2,.v 2,.v 2,.v 2,.v 2,.v 2,.v 22,.v 26,.v 26,.v 29,.v 30,.v 26])]⟩
def Bfv:=fun(C58:CT Bns _)=>jn (Bi0 K) 467 Bns [(58,ar Bns C58)] (fun a b c d e f g h i j k l m o p=>As1 K b c d e f g h i j k l m o p C58 a) kN
def Bi1:=lp (Bi0 K) 58 Bns [] (Aq1 K) (fun n=>(kC (Bfv K _) kN))
def Bru:=ct (Bi0 K) (A0i K) (kC (Bi1 K K) kN)
def Ar7 (K:Nat)(a0:List Int):Option ((List Int)):=(bif a0.isEmpty then Aii (some []) ((if(([]:List Int)++a0).length*1≤140737488355328∧(([]:List Int)++a0).length≤maxLen then some (([]:List Int)++a0)else none))else(if(([]:List Int)++a0).length*1≤140737488355328∧(([]:List Int)++a0).length≤maxLen then some (([]:List Int)++a0)else none))
def Brv:=ct (fd Tryz.func219 ⟨[.v 22],[.n 22 true],true⟩ gN) (Ar7 K)
def Ad3 (K:Nat)(a0:List Int):Option ((List Int)):=(bif a0.isEmpty then Aii (some []) ((if(([]:List Int)++a0).length*8≤140737488355328∧(([]:List Int)++a0).length≤maxLen then some (([]:List Int)++a0)else none))else(if(([]:List Int)++a0).length*8≤140737488355328∧(([]:List Int)++a0).length≤maxLen then some (([]:List Int)++a0)else none))
def A41:=ct (fd Tryz.func131 ⟨[.v 26],[.n 26 true],true⟩ gN) (Ad3 K)
def At8 (K:Nat)(a0:Dm):Option (Dm):=((Ar7 K a0.N5).bind fun r1=>((Ad3 K a0.Vg).bind fun r2=>((Ad3 K a0.N6).bind fun r3=>some (Dm.mk r1 r2 r3))))
def Bi2:=ct (fd Tryz.func153 ⟨[.v 28],[.n 28 true],true⟩ (gC (A41 K) (gC (Brv K) gN))) (At8 K)
def Apq (K:Nat)(a0:List Bc):Option ((List Bc)):=(bif a0.isEmpty then Aii (some []) ((if(([]:List Bc)++a0).length*24≤140737488355328∧(([]:List Bc)++a0).length≤maxLen then some (([]:List Bc)++a0)else none))else(if(([]:List Bc)++a0).length*24≤140737488355328∧(([]:List Bc)++a0).length≤maxLen then some (([]:List Bc)++a0)else none))
def Brw:=ct (fd Tryz.func267 ⟨[.v 48],[.n 48 true],true⟩ gN) (Apq K)
def Aww (K:Nat)(a0:As):Option (As):=((Ad3 K a0.Ay).bind fun r1=>((Apq K a0.F4).bind fun r2=>((Ad3 K a0.Fh).bind fun r3=>some (As.mk a0.Vg a0.C8 a0.Sj a0.fUp a0.Sk a0.Ee a0.Sl a0.Sm r1 a0.Acv a0.Sn r2 r3))))
def Brx:=ct (fd Tryz.func232 ⟨[.v 50],[.n 50 false],true⟩ (gC (A41 K) (gC (Brw K) gN))) (Aww K)
def Ano (K:Nat)(a0:List As):Nat->(List As)->Int->Int->Option ((List As))
 |0,_,_,_=>none
 |n1+1,v1,v2,v3=>(bif (decide (v3<v2))then(if(0:Int)≤v3∧v3<(a0.length:Int)then((Aww K (gt a0 v3)).bind fun r4=>(if(v1++[r4]).length*152≤140737488355328∧(v1++[r4]).length≤maxLen then(Ano K a0 n1 (v1++[r4]) v2 (An3 .i64 v3 1))else none))else none)else some v1)
def As2 (K:Nat)(a0:List As):Option ((List As)):=(Ano K a0 K ([]:List As) (a0.length:Int) 0)
def Bpo:=fd Tryz.func154 ⟨[.v 29],[.n 29 true],false⟩ (gC (Brx K) gN) (post:=[(16,[.put 3016])])
def Bzb:Ei:=⟨[(3,.o 1003 50 true),(7,.v 29),(8,.v 2),(9,.v 2)],[]⟩
def Bi3:=lp (Bpo K) 58 Bzb [] (fun n a b=>Ano K b n a) (fun n=>kN)
def Bi4:=ct (Bpo K) (As2 K) (kC (Bi3 K K) kN)
def Avu (K:Nat)(a0:Az):Option (Az):=((Ad3 K a0.Fh).bind fun r1=>((Ad3 K a0.Ay).bind fun r2=>some (Az.mk a0.Bk a0.Ee r1 r2 a0.Wv)))
def Bry:=ct (fd Tryz.func155 ⟨[.v 52],[.n 52 true],true⟩ (gC (A41 K) gN)) (Avu K)
def Anr (K:Nat):Nat->(List Az)->Int->Int->C4->C4->Option (C4)
 |0,_,_,_,_,_=>none
 |n1+1,v4,v5,v6,v7,v8=>(bif (decide (v6<v5))then(if(0:Int)≤v6∧v6<(v4.length:Int)then((Avu K (gt v4 v6)).bind fun r9=>(if(v7.fQ.length+1)*72≤140737488355328∧v7.fQ.length+1≤maxLen then(Anr K n1 v4 v5 (An3 .i64 v6 1) (C4.mk v7.fC v7.fP v7.fL ((v7.fQ++[(default:Az)]).set (v7.fQ.length:Int).toNat r9) v7.Acw) v8)else none))else none)else some v7)
def As3 (K:Nat)(a0:C4):Option (C4):=((At8 K a0.fP).bind fun r1=>((As2 K a0.fL).bind fun r2=>((Ad3 K a0.Acw).bind fun r3=>(Anr K K a0.fQ (a0.fQ.length:Int) 0 (C4.mk a0.fC r1 r2 [] r3) (C4.mk (D9.mk 0 0 0 0 0 0) (Dm.mk [] [] []) [] [] [])))))
def Bpp:=fd Tryz.func74 ⟨[.v 32],[.n 32 true],false⟩ (gC (A41 K) (gC (Bi2 K) (gC (Bi4 K) (gC (Bry K) gN)))) [] [] [(5,[.take 103 10 6658]),(7,[.take 103 6 6654,.take 103 7 6655,.take 103 8 6656,.take 103 9 6657,.take 103 10 6658,.take 103 11 6659])]
def Bzc:Ei:=⟨[(2,.p 102),(3,.p 103),(19,.v 30),(20,.v 2),(21,.v 2)],[(103,.st 32 true),(102,.st 32 true)]⟩
def Bi5:=lp (Bpp K) 58 Bzc [] (Anr K) (fun n=>kN)
def Bi6:=ct (Bpp K) (As3 K) (kC (Bi5 K K) kN)
def Avb (K:Nat)(a0:As)(a1:Int):Option (Az):=((Ad3 K a0.Fh).bind fun r1=>((Ad3 K a0.Ay).bind fun r2=>some (Az.mk a1 a0.Ee r1 r2 0)))
def Bi7:=ct (fd Tryz.func76 ⟨[.v 50,.v 3],[.n 52 true],true⟩ (gC (A41 K) gN)) (Avb K)
def Avc (K:Nat)(v3:Dm)(v4:Dm):Option (Dm):=some v3
def Az9 (K:Nat)(a0:Dm)(a1:Int):Option (Dm):=((At8 K a0).bind fun r1=>((Wy K a1 0 (An4 .i64 (Zw (a0.Vg.length:Int) (a0.N6.length:Int)) 1)).bind fun r2=>(bif r2 then(if(0:Int)≤a1∧a1<(a0.Vg.length:Int)then(bif ((gt a0.Vg a1)==1)then(if(0:Int)≤a1∧a1<(r1.Vg.length:Int)then(if(0:Int)≤a1∧a1<(r1.N6.length:Int)then(Avc K (Dm.mk r1.N5 (r1.Vg.set a1.toNat 2) (r1.N6.set a1.toNat (-1))) (Dm.mk [] [] []))else none)else none)else(Avc K r1 (Dm.mk [] [] [])))else none)else(Avc K r1 (Dm.mk [] [] [])))))
def Bpq:=fd Tryz.func156 ⟨[.v 28,.v 3],[.n 28 true],true⟩ (gC (A10 K) (gC (Bi2 K) gN)) [17,18] [7] [(4,[.take 105 0 6680,.take 105 1 6681,.take 105 2 6682])]
def Bnt:=jn (Bpq K) 7 Bu2 [] (Avc K) kN
def Brz:=ct (Bpq K) (Az9 K) (kC (Bnt K) kN)
def Ak6 (K:Nat):Nat->(List Int)->Int->Int->Int->Int->Int->Int->Int->Int->(List Int)->(List Int)->(List Int)->(List As)->(List Az)->(List Int)->Option (C4)
 |0,_,_,_,_,_,_,_,_,_,_,_,_,_,_,_=>none
 |n1+1,v1,v2,v3,v4,v5,v6,v7,v8,v9,v10,v11,v12,v13,v14,v15=>(bif (decide (v3<v2))then(if(0:Int)≤v3∧v3<(v1.length:Int)then((Az9 K (Dm.mk v10 v11 v12) (gt v1 v3)).bind fun r16=>(Ak6 K n1 v1 v2 (An3 .i64 v3 1) v4 v5 v6 v7 v8 v9 r16.N5 r16.Vg r16.N6 v13 v14 v15))else none)else some (C4.mk (D9.mk v4 v5 v6 v7 v8 v9) (Dm.mk v10 v11 v12) v13 v14 v15))
def Arc (K:Nat)(a0:C4)(a1:Int):Option (C4):=(if(0:Int)≤a1∧a1<(a0.fL.length:Int)then(Ak6 K K ((gt a0.fL a1).Ay) (((gt a0.fL a1).Ay).length:Int) 0 a0.fC.Ay a0.fC.G6 a0.fC.E5 a0.fC.Gs a0.fC.E6 a0.fC.G7 a0.fP.N5 a0.fP.Vg a0.fP.N6 a0.fL a0.fQ a0.Acw)else none)
def Bpr:=fd Tryz.func77 ⟨[.b 32 true,.v 3],[],false⟩ (gC (Brz K) gN) [] [] [(0,[.take 1 9 5025]),(3,[.take 1 6 5022,.take 1 7 5023,.take 1 8 5024])]
def Bzd:Ei:=⟨[(0,.p 1),(13,.v 26),(14,.v 2),(15,.v 2)],[(1,.box [.v 2,.v 2,.v 2,.v 2,.v 2,.v 2,.T 5 true,.T 3 true,.T 3 true,.T 50 true,.T 52 true,.T 3 true])]⟩
def Bnu:=lp (Bpr K) 6 Bzd [] (Ak6 K) (fun n=>kN)
def Bi8:=ct (Bpr K) (Arc K) (kC (Bnu K K) kN)
def Awx (K:Nat)(a1:Int)(v9:List As):Option ((List As)):=(if(0:Int)≤a1∧a1<(v9.length:Int)then(Aqh (v9.set a1.toNat (As.mk ((gt v9 a1).Vg) ((gt v9 a1).C8) ((gt v9 a1).Sj) 0 ((gt v9 a1).Sk) ((gt v9 a1).Ee) ((gt v9 a1).Sl) ((gt v9 a1).Sm) ((gt v9 a1).Ay) ((gt v9 a1).Acv) ((gt v9 a1).Sn) ((gt v9 a1).F4) ((gt v9 a1).Fh))) fun v10=>(if(0:Int)≤a1∧a1<(v10.length:Int)then(Aqh (v10.set a1.toNat (As.mk ((gt v10 a1).Vg) ((gt v10 a1).C8) ((gt v10 a1).Sj) ((gt v10 a1).fUp) 0 ((gt v10 a1).Ee) ((gt v10 a1).Sl) ((gt v10 a1).Sm) ((gt v10 a1).Ay) ((gt v10 a1).Acv) ((gt v10 a1).Sn) ((gt v10 a1).F4) ((gt v10 a1).Fh))) fun v11=>(if(0:Int)≤a1∧a1<(v11.length:Int)then(Aqh (v11.set a1.toNat (As.mk ((gt v11 a1).Vg) ((gt v11 a1).C8) ((gt v11 a1).Sj) ((gt v11 a1).fUp) ((gt v11 a1).Sk) ((gt v11 a1).Ee) 0 ((gt v11 a1).Sm) ((gt v11 a1).Ay) ((gt v11 a1).Acv) ((gt v11 a1).Sn) ((gt v11 a1).F4) ((gt v11 a1).Fh))) fun v12=>(if(0:Int)≤a1∧a1<(v12.length:Int)then(Aqh (v12.set a1.toNat (As.mk ((gt v12 a1).Vg) ((gt v12 a1).C8) ((gt v12 a1).Sj) ((gt v12 a1).fUp) ((gt v12 a1).Sk) ((gt v12 a1).Ee) ((gt v12 a1).Sl) 0 ((gt v12 a1).Ay) ((gt v12 a1).Acv) ((gt v12 a1).Sn) ((gt v12 a1).F4) ((gt v12 a1).Fh))) fun v13=>some v13)else none))else none))else none))else none)
def Arn (K:Nat)(a0:List As)(a1:Int)(v5:List As)(v6:Int):Option ((List As)):=((Ahe K a0 v6).bind fun r7=>(bif r7 then(if(0:Int)≤a1∧a1<(v5.length:Int)then(if(0:Int)≤v6∧v6<(v5.length:Int)then(Aqh (v5.set v6.toNat (As.mk ((gt v5 v6).Vg) ((gt v5 v6).C8) ((gt v5 v6).Sj) ((gt v5 v6).fUp) ((gt v5 v6).Sk) ((gt v5 v6).Ee) ((gt v5 v6).Sl) ((gt v5 a1).Sm) ((gt v5 v6).Ay) ((gt v5 v6).Acv) ((gt v5 v6).Sn) ((gt v5 v6).F4) ((gt v5 v6).Fh))) fun v8=>(Awx K a1 v8))else none)else none)else(Awx K a1 v5)))
def Aqi (K:Nat)(a0:List As)(a1:Int)(r1:(List As))(v15:Int)(v16:Int)(v17:Bool):Option ((List As)):=(bif v17 then(if(0:Int)≤a1∧a1<(r1.length:Int)then(if(0:Int)≤v16∧v16<(r1.length:Int)then(Aqh (r1.set v16.toNat (As.mk ((gt r1 v16).Vg) ((gt r1 v16).C8) ((gt r1 v16).Sj) ((gt r1 v16).fUp) ((gt r1 v16).Sk) ((gt r1 a1).Sl) ((gt r1 v16).Sl) ((gt r1 v16).Sm) ((gt r1 v16).Ay) ((gt r1 v16).Acv) ((gt r1 v16).Sn) ((gt r1 v16).F4) ((gt r1 v16).Fh))) fun v18=>(Arn K a0 a1 v18 v15))else none)else none)else(Arn K a0 a1 r1 v15))
def Ay8 (K:Nat)(a0:List As)(a1:Int):Option ((List As)):=((As2 K a0).bind fun r1=>((Ahe K a0 a1).bind fun r2=>(bif (!r2)then some r1 else(if(0:Int)≤a1∧a1<(r1.length:Int)then(if(0:Int)≤a1∧a1<(r1.length:Int)then(if(0:Int)≤a1∧a1<(r1.length:Int)then((Ahe K a0 (An4 .i64 ((gt r1 a1).Sm) 1)).bind fun r3=>(bif r3 then(if(0:Int)≤a1∧a1<(r1.length:Int)then(if(0:Int)≤(An4 .i64 ((gt r1 a1).Sm) 1)∧(An4 .i64 ((gt r1 a1).Sm) 1)<(r1.length:Int)then(Aqh (r1.set (An4 .i64 ((gt r1 a1).Sm) 1).toNat (As.mk ((gt r1 (An4 .i64 ((gt r1 a1).Sm) 1)).Vg) ((gt r1 (An4 .i64 ((gt r1 a1).Sm) 1)).C8) ((gt r1 (An4 .i64 ((gt r1 a1).Sm) 1)).Sj) ((gt r1 (An4 .i64 ((gt r1 a1).Sm) 1)).fUp) ((gt r1 (An4 .i64 ((gt r1 a1).Sm) 1)).Sk) ((gt r1 (An4 .i64 ((gt r1 a1).Sm) 1)).Ee) ((gt r1 a1).Sl) ((gt r1 (An4 .i64 ((gt r1 a1).Sm) 1)).Sm) ((gt r1 (An4 .i64 ((gt r1 a1).Sm) 1)).Ay) ((gt r1 (An4 .i64 ((gt r1 a1).Sm) 1)).Acv) ((gt r1 (An4 .i64 ((gt r1 a1).Sm) 1)).Sn) ((gt r1 (An4 .i64 ((gt r1 a1).Sm) 1)).F4) ((gt r1 (An4 .i64 ((gt r1 a1).Sm) 1)).Fh))) fun v4=>(Arn K a0 a1 v4 (An4 .i64 ((gt r1 a1).Sl) 1)))else none)else none)else(if(0:Int)≤a1∧a1<(r1.length:Int)then(bif (((gt r1 a1).Sm)==0)then((Ahe K a0 (An4 .i64 ((gt r1 a1).fUp) 1)).bind fun r14=>(bif r14 then(if(0:Int)≤(An4 .i64 ((gt r1 a1).fUp) 1)∧(An4 .i64 ((gt r1 a1).fUp) 1)<(r1.length:Int)then(Aqi K a0 a1 r1 (An4 .i64 ((gt r1 a1).Sl) 1) (An4 .i64 ((gt r1 a1).fUp) 1) (((gt r1 (An4 .i64 ((gt r1 a1).fUp) 1)).Ee)==(An3 .i64 a1 1)))else none)else(Aqi K a0 a1 r1 (An4 .i64 ((gt r1 a1).Sl) 1) (An4 .i64 ((gt r1 a1).fUp) 1) false)))else(Aqi K a0 a1 r1 (An4 .i64 ((gt r1 a1).Sl) 1) (An4 .i64 ((gt r1 a1).fUp) 1) false))else none)))else none)else none)else none))))
def Bec:=fd Tryz.func78 ⟨[.v 29,.v 3],[.n 29 true],false⟩ (gC (A2k K) (gC (Bi4 K) gN)) [53,54,57,58,59] [31,63,499]
def Bze:Ei:=⟨[(0,.v 29),(1,.v 2),(5,.o 1005 50 true),(7,.v 2)],[]⟩
def Bzf:Ei:=⟨[(0,.v 29),(1,.v 2),(5,.o 1005 50 true),(7,.v 2),(8,.v 2),(47,.v 4)],[]⟩
def Bi9:=jn (Bec K) 63 Bvy [] (Awx K) kN
def Bau:=jn (Bec K) 31 Bze [] (Arn K) (kC (Bi9 K) kN)
def Bfw:=jn (Bec K) 499 Bzf [] (Aqi K) (kC (Bau K) kN)
def Br0:=ct (Bec K) (Ay8 K) (kC (Bau K) (kC (Bfw K) kN))
def A2l (K:Nat)(a0:As):Option (As):=some (As.mk 2 a0.C8 0 0 0 0 0 0 [] 0 0 [] [])
def Br1:=ct (fd Tryz.func79 ⟨[.v 50],[.n 50 false],true⟩ gN) (A2l K)
def Arx (K:Nat)(a0:C4)(a1:Int):Option (C4):=((As3 K a0).bind fun r1=>((Ahe K a0.fL a1).bind fun r2=>(bif r2 then(if(0:Int)≤a1∧a1<(a0.fL.length:Int)then(bif (((gt a0.fL a1).Vg) != 1)then some r1 else(if(0:Int)≤a1∧a1<(a0.fL.length:Int)then((Avb K (gt a0.fL a1) (An3 .i64 a1 1)).bind fun r3=>(if(r1.fQ.length+1)*72≤140737488355328∧r1.fQ.length+1≤maxLen then((Arc K (C4.mk r1.fC r1.fP r1.fL ((r1.fQ++[(default:Az)]).set (r1.fQ.length:Int).toNat r3) r1.Acw) a1).bind fun r4=>((Ay8 K r4.fL a1).bind fun r5=>(if(0:Int)≤a1∧a1<(r5.length:Int)then(if(0:Int)≤a1∧a1<(r5.length:Int)then((A2l K (gt r5 a1)).bind fun r6=>(if(0:Int)≤a1∧a1<(r5.length:Int)then some (C4.mk r4.fC r4.fP (r5.set a1.toNat r6) r4.fQ r4.Acw)else none))else none)else none)))else none))else none))else none)else some r1)))
def Br2:=ct (fd Tryz.func14 ⟨[.v 32,.v 3],[.n 32 true],false⟩ (gC (Bi6 K) (gC (A2k K) (gC (Bi7 K) (gC (Bi8 K) (gC (Br0 K) (gC (Br1 K) gN)))))) [11,12,13] [] [(5,[.put 105]),(6,[.take 105 9 6689,.frz 6689]),(7,[.opn 3041 (.tmp 1),.takeE 3041 11 42635,.takeE 3041 12 42636]),(8,[.take 105 6 6686,.take 105 7 6687,.take 105 8 6688,.take 105 10 6690,.take 105 11 6691])]) (Arx K)
def Ard (K:Nat)(a0:C4)(a1:Int):Option (Bool):=((Gx K a1 0 (An4 .i64 (a0.fL.length:Int) 1)).bind fun r1=>(bif r1 then(if(0:Int)≤a1∧a1<(a0.fL.length:Int)then some (((gt a0.fL a1).Vg)==1)else none)else some false))
def Bja:=ct (fd Tryz.func81 ⟨[.v 32,.v 3],[.v 4],true⟩ (gC (A02 K) gN) [10,11]) (Ard K)
def Avd (K:Nat)(v4:Int)(v5:Int)(v6:Int)(v7:Int)(v8:Int)(v9:Int)(v10:List Int)(v11:List Int)(v12:List Int)(v13:List As)(v14:List Az)(v15:List Int)(v16:Int)(v17:Int)(v18:Int)(v19:Int)(v20:Int)(v21:Int)(v22:List Int)(v23:List Int)(v24:List Int)(v25:List As)(v26:List Az)(v27:List Int):Option (C4):=some (C4.mk (D9.mk v4 v5 v6 v7 v8 v9) (Dm.mk v10 v11 v12) v13 v14 v15)
def Avv (K:Nat)(a0:C4)(a1:Int):Option (C4):=((Ang K a0).bind fun r1=>((Ard K a0 a1).bind fun r2=>(bif r2 then((At0 K r1 a1).bind fun r3=>(Avd K r3.fC.Ay r3.fC.G6 r3.fC.E5 r3.fC.Gs r3.fC.E6 r3.fC.G7 r3.fP.N5 r3.fP.Vg r3.fP.N6 r3.fL r3.fQ r3.Acw 0 0 0 0 0 0 [] [] [] [] [] []))else(Avd K r1.fC.Ay r1.fC.G6 r1.fC.E5 r1.fC.Gs r1.fC.E6 r1.fC.G7 r1.fP.N5 r1.fP.Vg r1.fP.N6 r1.fL r1.fQ r1.Acw 0 0 0 0 0 0 [] [] [] [] [] []))))
def Bps:=fd Tryz.func15 ⟨[.v 32,.v 3],[.v 32],false⟩ (gC (A6l K) (gC (Bja K) (gC (Bpc K) gN))) [] [7] [(3,[.put 105,.take 105 10 6690,.shal 6690])] [(11,[.put 105])]
def Bwh:Ei:=⟨[(4,.p 104),(5,.p 105)],[(105,.box [.v 2,.v 2,.v 2,.v 2,.v 2,.v 2,.v 22,.v 26,.v 26,.v 29,.v 30,.v 26]),(104,.box [.v 2,.v 2,.v 2,.v 2,.v 2,.v 2,.v 22,.v 26,.v 26,.v 29,.v 30,.v 26])]⟩
def Bnv:=jn (Bps K) 7 Bwh [] (Avd K) kN
def Br3:=ct (Bps K) (Avv K) (kC (Bnv K) kN)
def Ay9 (K:Nat)(a0:List Int)(a1:List Int):Nat->Int->Option (Bool)
 |0,_=>none
 |n1+1,v1=>(bif (decide (v1<(a0.length:Int)))then(if(0:Int)≤v1∧v1<(a0.length:Int)then(if(0:Int)≤v1∧v1<(a1.length:Int)then(bif ((gt a0 v1) != (gt a1 v1))then some false else(Ay9 K a0 a1 n1 (An3 .i64 v1 1)))else none)else none)else some true)
def A07 (K:Nat)(a0:List Int)(a1:List Int):Option (Bool):=(bif ((a0.length:Int) != (a1.length:Int))then some false else(Ay9 K a0 a1 K 0))
def Bpt:=fd Tryz.func61 ⟨[.v 22,.v 22],[.v 4],true⟩ gN
def Bzg:Ei:=⟨[(0,.v 22),(1,.v 22),(5,.v 2)],[]⟩
def Bjb:=lp Bpt 58 Bzg [] (fun n a b=>Ay9 K a b n) (fun n=>kN)
def Br4:=ct Bpt (A07 K) (kC (Bjb K K) kN)
def Auq (K:Nat)(a0:List Int)(a1:List Int):Nat->Int->Option (Bool)
 |0,_=>none
 |n1+1,v1=>(bif (decide (v1<(a0.length:Int)))then(if(0:Int)≤v1∧v1<(a0.length:Int)then(if(0:Int)≤v1∧v1<(a1.length:Int)then(bif ((gt a0 v1) != (gt a1 v1))then some false else(Auq K a0 a1 n1 (An3 .i64 v1 1)))else none)else none)else some true)
def Alv (K:Nat)(a0:List Int)(a1:List Int):Option (Bool):=(bif ((a0.length:Int) != (a1.length:Int))then some false else(Auq K a0 a1 K 0))
def Bpu:=fd Tryz.func30 ⟨[.v 26,.v 26],[.v 4],true⟩ gN
def Bzh:Ei:=⟨[(0,.v 26),(1,.v 26),(5,.v 2)],[]⟩
def Bjc:=lp Bpu 58 Bzh [] (fun n a b=>Auq K a b n) (fun n=>kN)
def A85:=ct Bpu (Alv K) (kC (Bjc K K) kN)
def Awy (K:Nat)(a0:Dm)(a1:Dm):Option (Bool):=((A07 K a0.N5 a1.N5).bind fun r1=>(bif r1 then((Alv K a0.Vg a1.Vg).bind fun r2=>(bif r2 then((Alv K a0.N6 a1.N6).bind fun r3=>some r3)else some false))else some false))
def Br5:=ct (fd Tryz.func72 ⟨[.v 28,.v 28],[.v 4],true⟩ (gC (A85 K) (gC (Br4 K) gN)) [9,10,15,16,17]) (Awy K)
def Aqb (K:Nat):Nat->Int->Int->Int->Int->Int->Int->Int->Int->Int->(List Int)->Int->Int->(List Bc)->(List Int)->Int->Int->Int->Int->Int->Int->Int->Int->(List Int)->Int->Int->(List Bc)->(List Int)->Option (Bool)
 |0,_,_,_,_,_,_,_,_,_,_,_,_,_,_,_,_,_,_,_,_,_,_,_,_,_,_,_=>none
 |n1+1,v3,v4,v5,v6,v7,v8,v9,v10,v11,v12,v13,v14,v15,v16,v17,v18,v19,v20,v21,v22,v23,v24,v25,v26,v27,v28,v29=>(bif (decide (v3<(v28.length:Int)))then(if(0:Int)≤v3∧v3<(v28.length:Int)then(if(0:Int)≤v3∧v3<(v15.length:Int)then(bif (!((((gt v28 v3).fAt)==((gt v15 v3).fAt))&&((((gt v28 v3).Ajk)==((gt v15 v3).Ajk))&&((((gt v28 v3).Ajl)==((gt v15 v3).Ajl))&&true))))then some false else(Aqb K n1 (An3 .i64 v3 1) v4 v5 v6 v7 v8 v9 v10 v11 v12 v13 v14 v15 v16 v17 v18 v19 v20 v21 v22 v23 v24 v25 v26 v27 v28 v29))else none)else none)else some true)
def Awz (K:Nat)(a0:As)(a1:As):Option (Bool):=(bif (a0.Vg != a1.Vg)then some false else(bif (a0.C8 != a1.C8)then some false else(bif (a0.Sj != a1.Sj)then some false else(bif (a0.fUp != a1.fUp)then some false else(bif (a0.Sk != a1.Sk)then some false else(bif (a0.Ee != a1.Ee)then some false else(bif (a0.Sl != a1.Sl)then some false else(bif (a0.Sm != a1.Sm)then some false else((Alv K a0.Ay a1.Ay).bind fun r1=>(bif r1 then(bif (a0.Acv != a1.Acv)then some false else(bif (a0.Sn != a1.Sn)then some false else(bif ((a0.F4.length:Int) != (a1.F4.length:Int))then some false else((Alv K a0.Fh a1.Fh).bind fun r2=>(bif (!r2)then some false else(Aqb K K 0 a1.Vg a1.C8 a1.Sj a1.fUp a1.Sk a1.Ee a1.Sl a1.Sm a1.Ay a1.Acv a1.Sn a1.F4 a1.Fh a0.Vg a0.C8 a0.Sj a0.fUp a0.Sk a0.Ee a0.Sl a0.Sm a0.Ay a0.Acv a0.Sn a0.F4 a0.Fh))))))else some false))))))))))
def Bpv:=fd Tryz.func147 ⟨[.v 50,.v 50],[.v 4],true⟩ (gC (A85 K) gN) [10,11,16,17,18,23,24,25,30,31,32,37,38,39,44,45,46,51,52,53,58,59,60,65,66,67,68,73,74,75,80,81,82,89,90,91]
def Bwi:Ei:=⟨[(2,.p 102),(3,.p 103),(5,.v 2)],[(103,.box [.v 2,.v 2,.v 2,.v 2,.v 2,.v 2,.v 2,.v 2,.v 26,.v 2,.v 2,.v 48,.v 26]),(102,.box [.v 2,.v 2,.v 2,.v 2,.v 2,.v 2,.v 2,.v 2,.v 26,.v 2,.v 2,.v 48,.v 26])]⟩
def Bjd:=lp (Bpv K) 58 Bwi [] (Aqb K) (fun n=>kN)
def Br6:=ct (Bpv K) (Awz K) (kC (Bjd K K) kN)
def Apw (K:Nat)(a0:List As)(a1:List As):Nat->Int->Option (Bool)
 |0,_=>none
 |n1+1,v1=>(bif (decide (v1<(a0.length:Int)))then(if(0:Int)≤v1∧v1<(a0.length:Int)then(if(0:Int)≤v1∧v1<(a1.length:Int)then((Awz K (gt a0 v1) (gt a1 v1)).bind fun r2=>(bif (!r2)then some false else(Apw K a0 a1 n1 (An3 .i64 v1 1))))else none)else none)else some true)
def Avw (K:Nat)(a0:List As)(a1:List As):Option (Bool):=(bif ((a0.length:Int) != (a1.length:Int))then some false else(Apw K a0 a1 K 0))
def Bpw:=fd Tryz.func64 ⟨[.v 29,.v 29],[.v 4],true⟩ (gC (Br6 K) gN)
def Bwj:Ei:=⟨[(0,.v 29),(1,.v 29),(5,.v 2)],[]⟩
def Bje:=lp (Bpw K) 58 Bwj [] (fun n a b=>Apw K a b n) (fun n=>kN)
def Br7:=ct (Bpw K) (Avw K) (kC (Bje K K) kN)
def Avx (K:Nat)(a0:Az)(a1:Az):Option (Bool):=(bif (a0.Bk==a1.Bk)then(bif (a0.Ee==a1.Ee)then((Alv K a0.Fh a1.Fh).bind fun r1=>(bif r1 then((Alv K a0.Ay a1.Ay).bind fun r2=>(bif r2 then some (a0.Wv==a1.Wv)else some false))else some false))else some false)else some false)
def Br8:=ct (fd Tryz.func73 ⟨[.v 52,.v 52],[.v 4],true⟩ (gC (A85 K) gN) [9,10,15,16,17,22,23,24,29,30,31]) (Avx K)
def Apx (K:Nat):Nat->Int->Int->Int->Int->Int->Int->Int->(List Int)->(List Int)->(List Int)->(List As)->(List Az)->(List Int)->Int->Int->Int->Int->Int->Int->(List Int)->(List Int)->(List Int)->(List As)->(List Az)->(List Int)->Option (Bool)
 |0,_,_,_,_,_,_,_,_,_,_,_,_,_,_,_,_,_,_,_,_,_,_,_,_,_=>none
 |n1+1,v4,v5,v6,v7,v8,v9,v10,v11,v12,v13,v14,v15,v16,v17,v18,v19,v20,v21,v22,v23,v24,v25,v26,v27,v28=>(bif (decide (v4<(v27.length:Int)))then(if(0:Int)≤v4∧v4<(v27.length:Int)then(if(0:Int)≤v4∧v4<(v15.length:Int)then((Avx K (gt v27 v4) (gt v15 v4)).bind fun r29=>(bif (!r29)then some false else(Apx K n1 (An3 .i64 v4 1) v5 v6 v7 v8 v9 v10 v11 v12 v13 v14 v15 v16 v17 v18 v19 v20 v21 v22 v23 v24 v25 v26 v27 v28)))else none)else none)else some true)
def As4 (K:Nat)(a0:C4)(a1:C4):Option (Bool):=(bif (!((a0.fC.Ay==a1.fC.Ay)&&((a0.fC.G6==a1.fC.G6)&&((a0.fC.E5==a1.fC.E5)&&((a0.fC.Gs==a1.fC.Gs)&&((a0.fC.E6==a1.fC.E6)&&((a0.fC.G7==a1.fC.G7)&&true)))))))then some false else((Awy K a0.fP a1.fP).bind fun r1=>(bif r1 then((Avw K a0.fL a1.fL).bind fun r2=>(bif r2 then(bif ((a0.fQ.length:Int) != (a1.fQ.length:Int))then some false else((Alv K a0.Acw a1.Acw).bind fun r3=>(bif (!r3)then some false else(Apx K K 0 a1.fC.Ay a1.fC.G6 a1.fC.E5 a1.fC.Gs a1.fC.E6 a1.fC.G7 a1.fP.N5 a1.fP.Vg a1.fP.N6 a1.fL a1.fQ a1.Acw a0.fC.Ay a0.fC.G6 a0.fC.E5 a0.fC.Gs a0.fC.E6 a0.fC.G7 a0.fP.N5 a0.fP.Vg a0.fP.N6 a0.fL a0.fQ a0.Acw))))else some false))else some false)))
def Bpx:=fd Tryz.func13 ⟨[.v 32,.v 32],[.v 4],true⟩ (gC (A85 K) (gC (Br7 K) (gC (Br5 K) (gC (Br8 K) gN)))) [10,11,16,17,18,19,24,25,26,27,34,35,36]
def Bwk:Ei:=⟨[(2,.p 102),(3,.p 103),(5,.v 2)],[(103,.box [.v 2,.v 2,.v 2,.v 2,.v 2,.v 2,.v 22,.v 26,.v 26,.v 29,.v 30,.v 26]),(102,.box [.v 2,.v 2,.v 2,.v 2,.v 2,.v 2,.v 22,.v 26,.v 26,.v 29,.v 30,.v 26])]⟩
def Bjf:=lp (Bpx K) 58 Bwk [] (Apx K) (fun n=>kN)
def Br9:=ct (Bpx K) (As4 K) (kC (Bjf K K) kN)
def A0j (K:Nat)(a0:As):Option (As):=some (As.mk a0.Vg a0.C8 (An3 .i64 a0.Sj 1) a0.fUp a0.Sk 0 a0.Sl a0.Sm [] 0 0 [] [])
def Bsa:=ct (fd Tryz.func83 ⟨[.v 50],[.n 50 false],true⟩ gN) (A0j K)
def Ap4 (K:Nat)(a0:C4)(a1:Int):Option (C4):=((As3 K a0).bind fun r1=>((Ahe K a0.fL a1).bind fun r2=>(bif r2 then(if(0:Int)≤a1∧a1<(a0.fL.length:Int)then(bif (((gt a0.fL a1).Vg) != 1)then some r1 else(if(0:Int)≤a1∧a1<(a0.fL.length:Int)then((Avb K (gt a0.fL a1) 0).bind fun r3=>(if(r1.fQ.length+1)*72≤140737488355328∧r1.fQ.length+1≤maxLen then((Arc K (C4.mk r1.fC r1.fP r1.fL ((r1.fQ++[(default:Az)]).set (r1.fQ.length:Int).toNat r3) r1.Acw) a1).bind fun r4=>(if(0:Int)≤a1∧a1<(r4.fL.length:Int)then(if(0:Int)≤a1∧a1<(r4.fL.length:Int)then((A0j K (gt r4.fL a1)).bind fun r5=>(if(0:Int)≤a1∧a1<(r4.fL.length:Int)then some (C4.mk r4.fC r4.fP (r4.fL.set a1.toNat r5) r4.fQ r4.Acw)else none))else none)else none))else none))else none))else none)else some r1)))
def Bsb:=ct (fd Tryz.func16 ⟨[.v 32,.v 3],[.n 32 true],false⟩ (gC (Bi6 K) (gC (A2k K) (gC (Bi7 K) (gC (Bi8 K) (gC (Bsa K) gN))))) [11,12,13] [] [(5,[.put 105]),(6,[.take 105 9 6689,.opn 6689 (.tmp 1),.takeE 6689 11 84107,.takeE 6689 12 84108]),(7,[.take 105 6 6686,.take 105 7 6687,.take 105 8 6688,.take 105 10 6690,.take 105 11 6691])]) (Ap4 K)
def As5 (K:Nat)(v4:Int)(v5:Int)(v6:Int)(v7:Int)(v8:Int)(v9:Int)(v10:List Int)(v11:List Int)(v12:List Int)(v13:List As)(v14:List Az)(v15:List Int)(v16:Int)(v17:Int)(v18:Int)(v19:Int)(v20:Int)(v21:Int)(v22:List Int)(v23:List Int)(v24:List Int)(v25:List As)(v26:List Az)(v27:List Int):Option (C4):=some (C4.mk (D9.mk v4 v5 v6 v7 v8 v9) (Dm.mk v10 v11 v12) v13 v14 v15)
def As6 (K:Nat)(a0:C4)(a1:Int):Option (C4):=((Ang K a0).bind fun r1=>((Ard K a0 a1).bind fun r2=>(bif r2 then((Arv K r1 a1).bind fun r3=>(As5 K r3.fC.Ay r3.fC.G6 r3.fC.E5 r3.fC.Gs r3.fC.E6 r3.fC.G7 r3.fP.N5 r3.fP.Vg r3.fP.N6 r3.fL r3.fQ r3.Acw 0 0 0 0 0 0 [] [] [] [] [] []))else(As5 K r1.fC.Ay r1.fC.G6 r1.fC.E5 r1.fC.Gs r1.fC.E6 r1.fC.G7 r1.fP.N5 r1.fP.Vg r1.fP.N6 r1.fL r1.fQ r1.Acw 0 0 0 0 0 0 [] [] [] [] [] []))))
def Bpy:=fd Tryz.func17 ⟨[.v 32,.v 3],[.v 32],false⟩ (gC (A6l K) (gC (Bja K) (gC (Bpb K) gN))) [] [7] [(3,[.put 105,.take 105 10 6690,.shal 6690])] [(11,[.put 105])]
def Bnw:=jn (Bpy K) 7 Bwh [] (As5 K) kN
def Bsc:=ct (Bpy K) (As6 K) (kC (Bnw K) kN)
def A3g (K:Nat)(a0:List Int)(a1:Int):Option (Int):=(bif (decide (a1<(a0.length:Int)))then(if(0:Int)≤a1∧a1<(a0.length:Int)then some (IntKind.i64.wrap (gt a0 a1))else none)else(if 256≠(0:Int)then some (Int.tmod (An3 .i64 (An5 .i64 a1 31) (An5 .i64 (a0.length:Int) 7)) 256)else none))
def Bsd:=ct (fd Tryz.func18 ⟨[.v 22,.v 3],[.v 3],true⟩ gN) (A3g K)
def Aue (K:Nat)(a0:D9):Option (Bool):=((Wy K a0.Ay 2 12).bind fun r1=>(bif r1 then((Wy K a0.G6 8 16).bind fun r2=>(bif r2 then((Wy K a0.E5 2 8).bind fun r3=>(bif r3 then((Wy K a0.Gs 1 8).bind fun r4=>(bif r4 then((Wy K a0.E6 1 16).bind fun r5=>(bif r5 then((Wy K a0.G7 1 4).bind fun r6=>some r6)else some false))else some false))else some false))else some false))else some false))
def A86:=ct (fd Tryz.func34 ⟨[.v 25],[.v 4],true⟩ (gC (A10 K) gN) [5,6,9,10,11,14,15,16,19,20,21,24,25,26]) (Aue K)
def Ax8 (K:Nat)(a0:D9):Option (Int):=((Aue K a0).bind fun r1=>(bif (!r1)then some 0 else some (An5 .i64 a0.Ay a0.G6)))
def Bjg:=ct (fd Tryz.func165 ⟨[.v 25],[.v 3],true⟩ (gC (A86 K) gN)) (Ax8 K)
def Ary (K:Nat)(a0:Dm)(a1:D9)(a2:Int):Option ((List Int)):=(if(0:Int)≤(An5 .i64 a2 a1.G6)∧(An5 .i64 a2 a1.G6)≤(An5 .i64 (An3 .i64 a2 1) a1.G6)∧(An5 .i64 (An3 .i64 a2 1) a1.G6)≤(a0.N5.length:Int)then some ((a0.N5.drop (An5 .i64 a2 a1.G6).toNat).take ((An5 .i64 (An3 .i64 a2 1) a1.G6) - (An5 .i64 a2 a1.G6)).toNat)else none)
def Bjh:=ct (fd Tryz.func167 ⟨[.v 28,.v 25,.v 3],[.v 22],false⟩ gN) (Ary K)
def Azq (K:Nat)(a0:Int):Option (Bool):=some (a0 != 0)
def Bse:=ct (fd Tryz.func236 ⟨[.v 5],[.v 4],true⟩ gN) (Azq K)
def Agu (K:Nat)(a0:List Int):Nat->Int->Int->Option (Int)
 |0,_,_=>none
 |n1+1,v1,v2=>(bif (decide (v2<v1))then(if(0:Int)≤v2∧v2<(a0.length:Int)then((Azq K (gt a0 v2)).bind fun r3=>(bif r3 then some v2 else(Agu K a0 n1 v1 (An3 .i64 v2 1))))else none)else some (-1))
def Al2 (K:Nat)(a0:List Int):Option (Int):=(Agu K a0 K (a0.length:Int) 0)
def Bpz:=fd Tryz.func268 ⟨[.v 22,.f 236 [] []],[.v 3],true⟩ (gC (Bse K) gN)
def Bwl:Ei:=⟨[(0,.v 22),(1,.f 236 [] []),(7,.v 2),(8,.v 2)],[]⟩
def Bji:=lp (Bpz K) 26 Bwl [] (fun n a=>Agu K a n) (fun n=>kN)
def Bsf:=ct (Bpz K) (Al2 K) (kC (Bji K K) kN)
def Akv (K:Nat)(a0:List Int):Option (Bool):=((Al2 K a0).bind fun r1=>some (decide (r1≥0)))
def Bsg:=ct (fd Tryz.func235 ⟨[.v 22,.f 236 [] []],[.v 4],true⟩ (gC (Bsf K) gN)) (Akv K)
def Auf (K:Nat)(a0:List Int):Option (Bool):=((Akv K a0).bind fun r1=>some (!r1))
def Bcr:=ct (fd Tryz.func166 ⟨[.v 22],[.v 4],true⟩ (gC (Bsg K) gN)) (Auf K)
def Aw0 (K:Nat)(v3:List Int)(v4:Int)(v6:List Int)(v7:List Int)(v8:List Int)(v12:Int)(C1:(List Int)->Int->Int->(List Int)->(List Int)->(List Int)->Option (Bool))(v16:Bool):Option (Bool):=(bif v16 then some false else(C1 v3 v4 (An3 .i64 v12 1) v6 v7 v8))
def Aqj (K:Nat)(a0:D9)(v3:List Int)(v4:Int)(v5:Int)(v6:List Int)(v7:List Int)(v8:List Int)(C1:(List Int)->Int->Int->(List Int)->(List Int)->(List Int)->Option (Bool))(v11:Int)(v12:Int)(v13:Bool):Option (Bool):=(bif v13 then some false else(bif (v11==0)then((Ary K (Dm.mk v6 v7 v8) a0 v5).bind fun r14=>((Auf K r14).bind fun r15=>(Aw0 K v3 v4 v6 v7 v8 v12 (C1) (!r15))))else(Aw0 K v3 v4 v6 v7 v8 v12 (C1) false)))
def Akn (K:Nat)(a0:D9):Nat->(List Int)->Int->Int->(List Int)->(List Int)->(List Int)->Option (Bool)
 |0,_,_,_,_,_,_=>none
 |n1+1,v3,v4,v5,v6,v7,v8=>(bif (decide (v5<v4))then(if(0:Int)≤v5∧v5<(v3.length:Int)then((Wy K (gt v3 v5) 0 2).bind fun r9=>(bif (!r9)then some false else(bif ((gt v3 v5)==1)then(if(0:Int)≤v5∧v5<(v8.length:Int)then((Wy K (gt v8 v5) 0 (An4 .i64 a0.E5 1)).bind fun r10=>(bif r10 then(bif ((gt v3 v5) != 1)then(if(0:Int)≤v5∧v5<(v8.length:Int)then(Aqj K a0 v3 v4 v5 v6 v7 v8 (Akn K a0 n1) (gt v3 v5) v5 ((gt v8 v5) != (-1)))else none)else(Aqj K a0 v3 v4 v5 v6 v7 v8 (Akn K a0 n1) (gt v3 v5) v5 false))else(Aqj K a0 v3 v4 v5 v6 v7 v8 (Akn K a0 n1) (gt v3 v5) v5 true)))else none)else(bif ((gt v3 v5) != 1)then(if(0:Int)≤v5∧v5<(v8.length:Int)then(Aqj K a0 v3 v4 v5 v6 v7 v8 (Akn K a0 n1) (gt v3 v5) v5 ((gt v8 v5) != (-1)))else none)else(Aqj K a0 v3 v4 v5 v6 v7 v8 (Akn K a0 n1) (gt v3 v5) v5 false)))))else none)else some true)
def Aza (K:Nat)(a0:D9)(a1:Dm):Option (Bool):=((Aue K a0).bind fun r1=>(bif r1 then((Ax8 K a0).bind fun r2=>(bif ((a1.N5.length:Int) != r2)then some false else(bif ((a1.Vg.length:Int) != a0.Ay)then some false else(bif ((a1.N6.length:Int) != a0.Ay)then some false else(Akn K a0 K a1.Vg (a1.Vg.length:Int) 0 a1.N5 a1.Vg a1.N6)))))else some false))
def Bed:=fd Tryz.func85 ⟨[.v 25,.v 28],[.v 4],true⟩ (gC (A86 K) (gC (A10 K) (gC (Bjg K) (gC (Bcr K) (gC (Bjh K) gN))))) [8,9,10,16,17,18,24,25,26,48,49,58,59,60,61,63,64,75,76] [29899,119599]
def Bwm:Ei:=⟨[(2,.p 102),(3,.p 103),(35,.v 26),(36,.v 2),(37,.v 2),(73,.v 4)],[(103,.box [.v 22,.v 26,.v 26]),(102,.st 25 true)]⟩
def Bwn:Ei:=⟨[(2,.p 102),(3,.p 103),(5,.v 2),(6,.v 2),(35,.v 26),(36,.v 2),(37,.v 2),(46,.v 4)],[(103,.box [.v 22,.v 26,.v 26]),(102,.st 25 true)]⟩
def Bav:Ei:=⟨[(2,.p 102),(3,.p 103),(35,.v 26),(36,.v 2),(37,.v 2)],[(103,.box [.v 22,.v 26,.v 26]),(102,.st 25 true)]⟩
def A87:=fun(C58:CT Bav _)=>jn (Bed K) 119599 Bwm [(58,ar Bav C58)] (fun a b c d e f g h=>Aw0 K a b e f g c (fun v3 v4 v5 v6 v7 v8=>C58 v3 v4 v5 v6 v7 v8 h) d) kN
def Baw:=fun(C58:CT Bav _)=>jn (Bed K) 29899 Bwn [(58,ar Bav C58)] (fun a b c d e f g h i j=>Aqj K j c d a g h i (fun v3 v4 v5 v6 v7 v8=>C58 v3 v4 v5 v6 v7 v8 j) b e f) (kC (A87 K _) kN)
def Bjj:=lp (Bed K) 58 Bav [] (fun n a b c d e f g=>Akn K g n a b c d e f) (fun n=>(kC (Baw K _) kN))
def Bsh:=ct (Bed K) (Aza K) (kC (Bjj K K) kN)
def Aio (K:Nat)(a0:List Int)(a1:List Int):Nat->Int->Int->Option (Bool)
 |0,_,_=>none
 |n1+1,v1,v2=>(bif (decide (v2<v1))then(if(0:Int)≤v2∧v2<(a0.length:Int)then(if(0:Int)≤v2∧v2<(a1.length:Int)then(bif ((gt a0 v2) != (gt a1 v2))then some false else(Aio K a0 a1 n1 v1 (An3 .i64 v2 1)))else none)else none)else some true)
def Aiv (K:Nat)(a0:List Int)(a1:List Int):Option (Bool):=(bif ((a0.length:Int) != (a1.length:Int))then some false else(Aio K a0 a1 K (a0.length:Int) 0))
def Bp0:=fd Tryz.func112 ⟨[.v 26,.v 26],[.v 4],true⟩ gN
def Bwo:Ei:=⟨[(0,.v 26),(1,.v 26),(12,.v 2),(13,.v 2)],[]⟩
def Bjk:=lp Bp0 58 Bwo [] (fun n a b=>Aio K a b n) (fun n=>kN)
def Bjl:=ct Bp0 (Aiv K) (kC (Bjk K K) kN)
def Aoq (K:Nat)(a0:List Bc)(a1:List Bc):Nat->Int->Int->Option (Bool)
 |0,_,_=>none
 |n1+1,v1,v2=>(bif (decide (v2<v1))then(if(0:Int)≤v2∧v2<(a0.length:Int)then(if(0:Int)≤v2∧v2<(a1.length:Int)then(bif (!((((gt a0 v2).fAt)==((gt a1 v2).fAt))&&((((gt a0 v2).Ajk)==((gt a1 v2).Ajk))&&((((gt a0 v2).Ajl)==((gt a1 v2).Ajl))&&true))))then some false else(Aoq K a0 a1 n1 v1 (An3 .i64 v2 1)))else none)else none)else some true)
def Am3 (K:Nat)(a0:List Bc)(a1:List Bc):Option (Bool):=(bif ((a0.length:Int) != (a1.length:Int))then some false else(Aoq K a0 a1 K (a0.length:Int) 0))
def Bp1:=fd Tryz.func259 ⟨[.v 48,.v 48],[.v 4],true⟩ gN
def Bwp:Ei:=⟨[(0,.v 48),(1,.v 48),(12,.v 2),(13,.v 2)],[]⟩
def Bjm:=lp Bp1 58 Bwp [] (fun n a b=>Aoq K a b n) (fun n=>kN)
def Bsi:=ct Bp1 (Am3 K) (kC (Bjm K K) kN)
def Azr (K:Nat)(a0:As)(a1:As):Option (Bool):=(bif (a0.Vg==a1.Vg)then(bif (a0.C8==a1.C8)then(bif (a0.Sj==a1.Sj)then(bif (a0.fUp==a1.fUp)then(bif (a0.Sk==a1.Sk)then(bif (a0.Ee==a1.Ee)then(bif (a0.Sl==a1.Sl)then(bif (a0.Sm==a1.Sm)then((Aiv K a0.Ay a1.Ay).bind fun r1=>(bif r1 then(bif (a0.Acv==a1.Acv)then(bif (a0.Sn==a1.Sn)then((Am3 K a0.F4 a1.F4).bind fun r2=>(bif r2 then((Aiv K a0.Fh a1.Fh).bind fun r3=>some r3)else some false))else some false)else some false)else some false))else some false)else some false)else some false)else some false)else some false)else some false)else some false)else some false)
def Bsj:=ct (fd Tryz.func205 ⟨[.v 50,.v 50],[.v 4],true⟩ (gC (Bjl K) (gC (Bsi K) gN)) [9,10,15,16,17,22,23,24,29,30,31,36,37,38,43,44,45,50,51,52,57,58,59,64,65,66,71,72,73,78,79,80,85,86,87]) (Azr K)
def A08 (K:Nat)(a0:As):Option (Bool):=((Azr K a0 (As.mk a0.Vg a0.C8 0 0 0 0 0 0 ([]:List Int) 0 0 ([]:List Bc) ([]:List Int))).bind fun r1=>some r1)
def Bsk:=ct (fd Tryz.func239 ⟨[.v 50],[.v 4],true⟩ (gC (Bsj K) gN)) (A08 K)
def Anz (K:Nat)(a0:List Int)(a1:Int):Nat->Int->Int->Option (Int)
 |0,_,_=>none
 |n1+1,v1,v2=>(bif (decide (v2<v1))then(if(0:Int)≤v2∧v2<(a0.length:Int)then(bif (a1==(gt a0 v2))then some v2 else(Anz K a0 a1 n1 v1 (An3 .i64 v2 1)))else none)else some (-1))
def Axb (K:Nat)(a0:List Int)(a1:Int):Option (Int):=(Anz K a0 a1 K (a0.length:Int) 0)
def Bp2:=fd Tryz.func210 ⟨[.v 26,.v 3],[.v 3],true⟩ gN
def Bwq:Ei:=⟨[(0,.v 26),(1,.v 2),(7,.v 2),(8,.v 2)],[]⟩
def Bjn:=lp Bp2 26 Bwq [] (fun n a b=>Anz K a b n) (fun n=>kN)
def Bsl:=ct Bp2 (Axb K) (kC (Bjn K K) kN)
def Anb (K:Nat)(a0:List Int)(a1:Int):Option (Bool):=((Axb K a0 a1).bind fun r1=>some (decide (r1≥0)))
def Bcs:=ct (fd Tryz.func119 ⟨[.v 26,.v 3],[.v 4],true⟩ (gC (Bsl K) gN)) (Anb K)
def Apb (K:Nat)(a0:D9)(a1:List Int):Nat->(List Int)->Int->Int->Option (Bool)
 |0,_,_,_=>none
 |n1+1,v1,v2,v3=>(bif (decide (v3<v2))then(if(0:Int)≤v3∧v3<(v1.length:Int)then((Wy K (gt v1 v3) 0 (An4 .i64 a0.Ay 1)).bind fun r4=>(bif r4 then(if(0:Int)≤0∧0≤v3∧v3≤(a1.length:Int)then((Anb K ((a1.drop (0:Int).toNat).take (v3 - 0).toNat) (gt v1 v3)).bind fun r5=>(bif r5 then some false else(Apb K a0 a1 n1 v1 v2 (An3 .i64 v3 1))))else none)else some false))else none)else some true)
def At9 (K:Nat)(a0:D9)(a1:List Int):Option (Bool):=(Apb K a0 a1 K a1 (a1.length:Int) 0)
def Bp3:=fd Tryz.func240 ⟨[.v 25,.v 26],[.v 4],true⟩ (gC (A10 K) (gC (Bcs K) gN)) [18,19,20]
def Bwr:Ei:=⟨[(1,.v 26),(2,.p 102),(7,.v 26),(8,.v 2),(9,.v 2)],[(102,.st 25 true)]⟩
def Bjo:=lp (Bp3 K) 26 Bwr [] (fun n a b c d e=>Apb K e a n b c d) (fun n=>kN)
def Bjp:=ct (Bp3 K) (At9 K) (kC (Bjo K K) kN)
def Aur (K:Nat)(a0:Int):Option (Bool):=((Wy K a0 0 255).bind fun r1=>some (!r1))
def Bsm:=ct (fd Tryz.func180 ⟨[.v 3],[.v 4],true⟩ (gC (A10 K) gN)) (Aur K)
def Ags (K:Nat)(a0:List Int):Nat->Int->Int->Option (Int)
 |0,_,_=>none
 |n1+1,v1,v2=>(bif (decide (v2<v1))then(if(0:Int)≤v2∧v2<(a0.length:Int)then((Aur K (gt a0 v2)).bind fun r3=>(bif r3 then some v2 else(Ags K a0 n1 v1 (An3 .i64 v2 1))))else none)else some (-1))
def Ak7 (K:Nat)(a0:List Int):Option (Int):=(Ags K a0 K (a0.length:Int) 0)
def Bp4:=fd Tryz.func247 ⟨[.v 26,.f 180 [] []],[.v 3],true⟩ (gC (Bsm K) gN)
def Bws:Ei:=⟨[(0,.v 26),(1,.f 180 [] []),(7,.v 2),(8,.v 2)],[]⟩
def Bjq:=lp (Bp4 K) 26 Bws [] (fun n a=>Ags K a n) (fun n=>kN)
def Bsn:=ct (Bp4 K) (Ak7 K) (kC (Bjq K K) kN)
def Ako (K:Nat)(a0:List Int):Option (Bool):=((Ak7 K a0).bind fun r1=>some (decide (r1≥0)))
def Bso:=ct (fd Tryz.func179 ⟨[.v 26,.f 180 [] []],[.v 4],true⟩ (gC (Bsn K) gN)) (Ako K)
def Aro (K:Nat)(a0:List Int):Option (Bool):=((Ako K a0).bind fun r1=>some (!r1))
def Bct:=ct (fd Tryz.func89 ⟨[.v 26],[.v 4],true⟩ (gC (Bso K) gN)) (Aro K)
def A2m (K:Nat)(a0:D9)(a1:Int):Option (Bool):=some (decide (a1>a0.G6))
def Bsp:=ct (fd Tryz.func280 ⟨[.v 25,.v 3],[.v 4],true⟩ gN) (A2m K)
def A2n (K:Nat)(a0:Int)(a1:Int):Option (Int):=((Wy K a0 0 1000000000).bind fun r1=>(bif r1 then((Wy K a1 1 1000000000).bind fun r2=>(bif (!r2)then some 0 else(if a1≠(0:Int)then some (Ali .i64 (An4 .i64 (An3 .i64 a0 a1) 1) a1)else none)))else some 0))
def Bsq:=ct (fd Tryz.func305 ⟨[.v 3,.v 3],[.v 3],true⟩ (gC (A10 K) gN) [6,7,8]) (A2n K)
def A1l (K:Nat)(a0:D9)(a1:Int):Option (Int):=((A2n K a1 a0.G6).bind fun r1=>some r1)
def Bsr:=ct (fd Tryz.func281 ⟨[.v 25,.v 3],[.v 3],true⟩ (gC (Bsq K) gN)) (A1l K)
def As7 (K:Nat)(a0:D9)(a1:Bc):Option (Bool):=((Ax8 K a0).bind fun r1=>(bif (decide (a1.Ajk≤0))then some false else(bif (decide (a1.fAt<0))then some false else(bif (decide (a1.Ajk>r1))then some false else(bif (decide (a1.fAt>(An4 .i64 r1 a1.Ajk)))then some false else(bif (a1.Ajl==0)then(bif (decide (a1.Ajk≤a0.G6))then(if a0.G6≠(0:Int)then(if a0.G6≠(0:Int)then some ((Ali .i64 a1.fAt a0.G6)==(Ali .i64 (An4 .i64 (An3 .i64 a1.fAt a1.Ajk) 1) a0.G6))else none)else none)else some false)else((A2m K a0 a1.Ajk).bind fun r2=>(bif r2 then((A1l K a0 a1.Ajk).bind fun r3=>(bif (a1.Ajl==r3)then(if a0.G6≠(0:Int)then some ((Int.tmod a1.fAt a0.G6)==0)else none)else some false))else some false))))))))
def Bjr:=ct (fd Tryz.func242 ⟨[.v 25,.v 132],[.v 4],true⟩ (gC (Bjg K) (gC (Bsp K) (gC (Bsr K) gN))) [10,11,14,15,16,20,21,22,38,39,59,60,67,68,69]) (As7 K)
def Aw1 (K:Nat)(a0:Bc)(a1:D9):Option (Bool):=((As7 K a1 a0).bind fun r1=>some (!r1))
def Bss:=ct (fd Tryz.func241 ⟨[.v 132,.r 25],[.v 4],true⟩ (gC (Bjr K) gN)) (Aw1 K)
def Aew (K:Nat)(a0:List Bc)(a1_0:D9):Nat->Int->Int->Option (Int)
 |0,_,_=>none
 |n1+1,v1,v2=>(bif (decide (v2<v1))then(if(0:Int)≤v2∧v2<(a0.length:Int)then((Aw1 K (gt a0 v2) a1_0).bind fun r3=>(bif r3 then some v2 else(Aew K a0 a1_0 n1 v1 (An3 .i64 v2 1))))else none)else some (-1))
def Aow (K:Nat)(a0:List Bc)(a1_0:D9):Option (Int):=(Aew K a0 a1_0 K (a0.length:Int) 0)
def Bp5:=fd Tryz.func245 ⟨[.v 48,.f 241 [] [25]],[.v 3],true⟩ (gC (Bss K) gN)
def Bwt:Ei:=⟨[(0,.v 48),(1,.f 241 [] [25]),(7,.v 2),(8,.v 2)],[]⟩
def Bjs:=lp (Bp5 K) 26 Bwt [] (fun n a b=>Aew K a b n) (fun n=>kN)
def Bst:=ct (Bp5 K) (Aow K) (kC (Bjs K K) kN)
def Ahf (K:Nat)(a0:List Bc)(a1_0:D9):Option (Bool):=((Aow K a0 a1_0).bind fun r1=>some (decide (r1≥0)))
def Bsu:=ct (fd Tryz.func172 ⟨[.v 48,.f 241 [] [25]],[.v 4],true⟩ (gC (Bst K) gN)) (Ahf K)
def Aqk (K:Nat)(a0:D9)(v19:List Bc)(v20:List Int):Option (Bool):=(bif (decide ((v19.length:Int)≤12))then(bif (decide ((v20.length:Int)≤6))then((Aro K v20).bind fun r25=>(bif r25 then((Ahf K v19 a0).bind fun r26=>some (!r26))else some false))else some false)else some false)
def Apm (K:Nat)(a0:D9):Nat->(List Int)->Int->Int->Int->Int->Int->Int->Int->Int->Int->Int->(List Int)->Int->Int->(List Bc)->(List Int)->Option (Bool)
 |0,_,_,_,_,_,_,_,_,_,_,_,_,_,_,_,_=>none
 |n1+1,v5,v6,v7,v8,v9,v10,v11,v12,v13,v14,v15,v16,v17,v18,v19,v20=>(bif (decide (v7<v6))then(if(0:Int)≤v7∧v7<(v5.length:Int)then((Wy K (gt v5 v7) 0 a0.E5).bind fun r21=>(bif (!r21)then some false else(Apm K a0 n1 v5 v6 (An3 .i64 v7 1) v8 v9 v10 v11 v12 v13 v14 v15 v16 v17 v18 v19 v20)))else none)else(bif (decide (v10<0))then some false else(bif (decide (v12<0))then some false else((At9 K a0 v16).bind fun r22=>(bif r22 then(bif (v17 != 0)then((Anb K v16 (An4 .i64 v17 1)).bind fun r23=>(bif r23 then((Wy K v18 0 a0.G6).bind fun r24=>(bif r24 then(bif (v17==0)then(bif (v18 != 0)then some false else(Aqk K a0 v19 v20))else(Aqk K a0 v19 v20))else some false))else some false))else((Wy K v18 0 a0.G6).bind fun r27=>(bif r27 then(bif (v17==0)then(bif (v18 != 0)then some false else(Aqk K a0 v19 v20))else(Aqk K a0 v19 v20))else some false)))else some false)))))
def Azb (K:Nat)(a0:D9)(a1:As):Option (Bool):=((Aue K a0).bind fun r1=>(bif r1 then((Wy K a1.Vg 0 3).bind fun r2=>(bif r2 then((Wy K a1.C8 1 a0.G7).bind fun r3=>(bif (!r3)then some false else(bif (a1.Vg != 1)then((A08 K a1).bind fun r4=>some r4)else(Apm K a0 K ([a1.fUp,a1.Ee,a1.Sl,a1.Sm]:List Int) (([a1.fUp,a1.Ee,a1.Sl,a1.Sm]:List Int).length:Int) 0 a1.Vg a1.C8 a1.Sj a1.fUp a1.Sk a1.Ee a1.Sl a1.Sm a1.Ay a1.Acv a1.Sn a1.F4 a1.Fh))))else some false))else some false))
def Bjt:=fd Tryz.func169 ⟨[.v 25,.v 50],[.v 4],true⟩ (gC (A86 K) (gC (Bct K) (gC (A10 K) (gC (Bcs K) (gC (Bsu K) (gC (Bsk K) (gC (Bjp K) gN))))))) [8,9,10,13,14,15,16,51,52,55,56,57,61,62,63,64,67,68,74,75,76,77,78,83,84,85,86,89,90,99,100,104,105,106,109,110,111] [31] [(13,[.frzB 102 25])]
def Bwu:Ei:=⟨[(2,.p 102),(3,.p 103)],[(103,.box [.v 2,.v 2,.v 2,.v 2,.v 2,.v 2,.v 2,.v 2,.v 26,.v 2,.v 2,.v 48,.v 26]),(102,.st 25 true)]⟩
def Bwv:Ei:=⟨[(2,.p 102),(3,.p 103),(37,.v 26),(38,.v 2),(39,.v 2)],[(103,.box [.v 2,.v 2,.v 2,.v 2,.v 2,.v 2,.v 2,.v 2,.v 26,.v 2,.v 2,.v 48,.v 26]),(102,.st 25 true)]⟩
def Bju:=jn (Bjt K) 31 Bwu [] (fun _ _ _ _ _ _ _ _ _ _ _ l m o=>Aqk K o l m) kN
def Bfx:=lp (Bjt K) 122 Bwv [] (fun n a b c d e f g h i j k l m o p q r=>Apm K r n a b c d e f g h i j k l m o p q) (fun n=>(kC (up (Bju K)) kN))
def Bsv:=ct (Bjt K) (Azb K) (kC (Bfx K K) kN)
def As8 (K:Nat)(v2:Int)(v3:Int)(v4:List Int)(v5:List Int)(v6:List Int)(C1:(List Int)->Int->Int->(List Int)->(List Int)->(List Int)->Option ((List Int)))(v7:List Int):Option ((List Int)):=(C1 v7 v2 (An3 .i64 v3 1) v4 v5 v6)
def Al6 (K:Nat)(a1:Int):Nat->(List Int)->Int->Int->(List Int)->(List Int)->(List Int)->Option ((List Int))
 |0,_,_,_,_,_,_=>none
 |n1+1,v1,v2,v3,v4,v5,v6=>(bif (decide (v3<v2))then(if(0:Int)≤v3∧v3<(v5.length:Int)then(bif ((gt v5 v3)==1)then(if(0:Int)≤v3∧v3<(v6.length:Int)then(bif ((gt v6 v3)==a1)then(if(v1++([v3]:List Int)).length*8≤140737488355328∧(v1++([v3]:List Int)).length≤maxLen then(As8 K v2 v3 v4 v5 v6 (Al6 K a1 n1) (v1++([v3]:List Int)))else none)else(As8 K v2 v3 v4 v5 v6 (Al6 K a1 n1) v1))else none)else(As8 K v2 v3 v4 v5 v6 (Al6 K a1 n1) v1))else none)else some v1)
def Ax9 (K:Nat)(a0:Dm)(a1:Int):Option ((List Int)):=(Al6 K a1 K ([]:List Int) (Zw (a0.Vg.length:Int) (a0.N6.length:Int)) 0 a0.N5 a0.Vg a0.N6)
def Bjv:=fd Tryz.func114 ⟨[.v 28,.v 3],[.n 26 true],true⟩ gN [23,24] [467]
def Bee:Ei:=⟨[(1,.v 2),(2,.p 102),(5,.o 1005 3 true),(14,.v 2),(15,.v 2)],[(102,.box [.v 22,.v 26,.v 26])]⟩
def Bfy:=fun(C58:CT Bee _)=>jn Bjv 467 Bee [(58,ar Bee C58)] (fun a b c d e f g=>As8 K c d e f g (C58 a) b) kN
def Bjw:=lp Bjv 58 Bee [] (fun n a=>Al6 K a n) (fun n=>(kC (Bfy K _) kN))
def Bsw:=ct Bjv (Ax9 K) (kC (Bjw K K) kN)
def Am5 (K:Nat)(a0:Bc)(a1:D9)(a2:As):Nat->Int->Option (Bool)
 |0,_=>none
 |n1+1,v2=>(if a1.G6≠(0:Int)then(bif (decide (v2≤(Ali .i64 (An4 .i64 (An3 .i64 a0.fAt a0.Ajk) 1) a1.G6)))then((Anb K a2.Ay v2).bind fun r3=>(bif (!r3)then some true else(Am5 K a0 a1 a2 n1 (An3 .i64 v2 1))))else some false)else none)
def Arz (K:Nat)(a0:Bc)(a1:D9)(a2:As):Option (Bool):=((As7 K a1 a0).bind fun r1=>(bif (!r1)then some true else(if a1.G6≠(0:Int)then(Am5 K a0 a1 a2 K (Ali .i64 a0.fAt a1.G6))else none)))
def Bp6:=fd Tryz.func243 ⟨[.v 132,.r 25,.r 50],[.v 4],true⟩ (gC (Bcs K) (gC (Bjr K) gN))
def Bww:Ei:=⟨[(1,.r 25),(2,.r 50),(3,.p 103),(5,.v 2)],[(103,.st 132 true)]⟩
def Bjx:=lp (Bp6 K) 58 Bww [] (fun n a b c d=>Am5 K d a b n c) (fun n=>kN)
def Bsx:=ct (Bp6 K) (Arz K) (kC (Bjx K K) kN)
def Ad1 (K:Nat)(a0:List Bc)(a1_0:D9)(a1_1:As):Nat->Int->Int->Option (Int)
 |0,_,_=>none
 |n1+1,v1,v2=>(bif (decide (v2<v1))then(if(0:Int)≤v2∧v2<(a0.length:Int)then((Arz K (gt a0 v2) a1_0 a1_1).bind fun r3=>(bif r3 then some v2 else(Ad1 K a0 a1_0 a1_1 n1 v1 (An3 .i64 v2 1))))else none)else some (-1))
def Anj (K:Nat)(a0:List Bc)(a1_0:D9)(a1_1:As):Option (Int):=(Ad1 K a0 a1_0 a1_1 K (a0.length:Int) 0)
def Bp7:=fd Tryz.func245 ⟨[.v 48,.f 243 [] [25,50]],[.v 3],true⟩ (gC (Bsx K) gN)
def Bwx:Ei:=⟨[(0,.v 48),(1,.f 243 [] [25,50]),(7,.v 2),(8,.v 2)],[]⟩
def Bjy:=lp (Bp7 K) 26 Bwx [] (fun n a b c=>Ad1 K a b c n) (fun n=>kN)
def Bsy:=ct (Bp7 K) (Anj K) (kC (Bjy K K) kN)
def Agw (K:Nat)(a0:List Bc)(a1_0:D9)(a1_1:As):Option (Bool):=((Anj K a0 a1_0 a1_1).bind fun r1=>some (decide (r1≥0)))
def Bsz:=ct (fd Tryz.func172 ⟨[.v 48,.f 243 [] [25,50]],[.v 4],true⟩ (gC (Bsy K) gN)) (Agw K)
def Aw2 (K:Nat)(a0:D9)(a1:As):Option (Bool):=((Agw K a1.F4 a0 a1).bind fun r1=>some (!r1))
def Bs0:=ct (fd Tryz.func170 ⟨[.v 25,.v 50],[.v 4],true⟩ (gC (Bsz K) gN) [] [] [(1,[.frzB 102 25,.frzB 103 50])]) (Aw2 K)
def Aya (K:Nat)(v1:Bc)(v2:Bc):Option (Bool):=some (decide ((An4 .u64 (IntKind.u64.wrap v1.fAt) (IntKind.u64.wrap v2.fAt))≥(IntKind.u64.wrap v2.Ajk)))
def Ayb (K:Nat)(a0:Bc)(a1:Bc):Option (Bool):=(bif (decide (a0.Ajk≤0))then some true else(bif (decide (a1.Ajk≤0))then some true else(bif (decide (a0.fAt>a1.fAt))then(Aya K a0 a1)else(Aya K a1 a0))))
def Bp8:=fd Tryz.func174 ⟨[.v 132,.v 132],[.v 4],true⟩ gN [7,8] [7]
def Bwy:Ei:=⟨[(2,.p 102),(3,.p 103)],[(103,.st 132 true),(102,.st 132 true)]⟩
def Bnx:=jn Bp8 7 Bwy [] (Aya K) kN
def Bjz:=ct Bp8 (Ayb K) (kC (Bnx K) kN)
def Aus (K:Nat)(a0:Bc)(a1:Bc):Option (Bool):=((Ayb K a0 a1).bind fun r1=>some (!r1))
def Bs1:=ct (fd Tryz.func244 ⟨[.v 132,.r 132],[.v 4],true⟩ (gC (Bjz K) gN)) (Aus K)
def Ad2 (K:Nat)(a0:List Bc)(a1_0:Bc):Nat->Int->Int->Option (Int)
 |0,_,_=>none
 |n1+1,v1,v2=>(bif (decide (v2<v1))then(if(0:Int)≤v2∧v2<(a0.length:Int)then((Aus K (gt a0 v2) a1_0).bind fun r3=>(bif r3 then some v2 else(Ad2 K a0 a1_0 n1 v1 (An3 .i64 v2 1))))else none)else some (-1))
def Ank (K:Nat)(a0:List Bc)(a1_0:Bc):Option (Int):=(Ad2 K a0 a1_0 K (a0.length:Int) 0)
def Bp9:=fd Tryz.func245 ⟨[.v 48,.f 244 [] [132]],[.v 3],true⟩ (gC (Bs1 K) gN)
def Bwz:Ei:=⟨[(0,.v 48),(1,.f 244 [] [132]),(7,.v 2),(8,.v 2)],[]⟩
def Bj0:=lp (Bp9 K) 26 Bwz [] (fun n a b=>Ad2 K a b n) (fun n=>kN)
def Bs2:=ct (Bp9 K) (Ank K) (kC (Bj0 K K) kN)
def Agy (K:Nat)(a0:List Bc)(a1_0:Bc):Option (Bool):=((Ank K a0 a1_0).bind fun r1=>some (decide (r1≥0)))
def Bs3:=ct (fd Tryz.func172 ⟨[.v 48,.f 244 [] [132]],[.v 4],true⟩ (gC (Bs2 K) gN)) (Agy K)
def Apc (K:Nat)(a0:List Bc):Nat->(List Bc)->Int->Int->Option (Bool)
 |0,_,_,_=>none
 |n1+1,v1,v2,v3=>(bif (decide (v3<v2))then(if(0:Int)≤v3∧v3<(v1.length:Int)then(if(0:Int)≤0∧0≤v3∧v3≤(a0.length:Int)then((Agy K ((a0.drop (0:Int).toNat).take (v3 - 0).toNat) (gt v1 v3)).bind fun r4=>(bif r4 then some false else(Apc K a0 n1 v1 v2 (An3 .i64 v3 1))))else none)else none)else some true)
def Aw3 (K:Nat)(a0:List Bc):Option (Bool):=(Apc K a0 K a0 (a0.length:Int) 0)
def Bqa:=fd Tryz.func171 ⟨[.v 48],[.v 4],true⟩ (gC (Bs3 K) gN) [] [] [(4,[.frzB 104 132])]
def Bw0:Ei:=⟨[(0,.v 48),(5,.v 48),(6,.v 2),(7,.v 2)],[]⟩
def Bj1:=lp (Bqa K) 26 Bw0 [] (fun n a=>Apc K a n) (fun n=>kN)
def Bs4:=ct (Bqa K) (Aw3 K) (kC (Bj1 K K) kN)
def Aqn (K:Nat)(a0:Bc)(a1:Bc):Option (Bool):=((Ayb K a0 a1).bind fun r1=>some (!r1))
def Bs5:=ct (fd Tryz.func173 ⟨[.v 132,.r 132],[.v 4],true⟩ (gC (Bjz K) gN)) (Aqn K)
def Aa2 (K:Nat)(a0:List Bc)(a1_0:Bc):Nat->Int->Int->Option (Int)
 |0,_,_=>none
 |n1+1,v1,v2=>(bif (decide (v2<v1))then(if(0:Int)≤v2∧v2<(a0.length:Int)then((Aqn K (gt a0 v2) a1_0).bind fun r3=>(bif r3 then some v2 else(Aa2 K a0 a1_0 n1 v1 (An3 .i64 v2 1))))else none)else some (-1))
def Ak8 (K:Nat)(a0:List Bc)(a1_0:Bc):Option (Int):=(Aa2 K a0 a1_0 K (a0.length:Int) 0)
def Bqb:=fd Tryz.func245 ⟨[.v 48,.f 173 [] [132]],[.v 3],true⟩ (gC (Bs5 K) gN)
def Bw1:Ei:=⟨[(0,.v 48),(1,.f 173 [] [132]),(7,.v 2),(8,.v 2)],[]⟩
def Bj2:=lp (Bqb K) 26 Bw1 [] (fun n a b=>Aa2 K a b n) (fun n=>kN)
def Bs6:=ct (Bqb K) (Ak8 K) (kC (Bj2 K K) kN)
def Agl (K:Nat)(a0:List Bc)(a1_0:Bc):Option (Bool):=((Ak8 K a0 a1_0).bind fun r1=>some (decide (r1≥0)))
def Bs7:=ct (fd Tryz.func172 ⟨[.v 48,.f 173 [] [132]],[.v 4],true⟩ (gC (Bs6 K) gN)) (Agl K)
def Aqo (K:Nat)(v1:List As)(v2:Int)(v3:Int)(v4:Int)(v5:Int)(v6:Int)(v7:Int)(v8:Int)(v9:Int)(v10:List Int)(v11:List Int)(v12:List Int)(v13:List As)(v14:List Az)(v15:List Int)(C1:(List As)->Int->Int->Int->Int->Int->Int->Int->Int->(List Int)->(List Int)->(List Int)->(List As)->(List Az)->(List Int)->Option (Bool)):Option (Bool):=(C1 v1 v2 (An3 .i64 v3 1) v4 v5 v6 v7 v8 v9 v10 v11 v12 v13 v14 v15)
def Agz (K:Nat):Nat->(List As)->Int->Int->Int->Int->Int->Int->Int->Int->(List Int)->(List Int)->(List Int)->(List As)->(List Az)->(List Int)->Option (Bool)
 |0,_,_,_,_,_,_,_,_,_,_,_,_,_,_,_=>none
 |n1+1,v1,v2,v3,v4,v5,v6,v7,v8,v9,v10,v11,v12,v13,v14,v15=>(bif (decide (v3<v2))then(if(0:Int)≤v3∧v3<(v1.length:Int)then((Ad3 K ((gt v1 v3).Ay)).bind fun r16=>((Eb K r16).bind fun r17=>(if r17.length=r16.length then((Azb K (D9.mk v4 v5 v6 v7 v8 v9) (gt v1 v3)).bind fun r18=>(bif r18 then((Ax9 K (Dm.mk v10 v11 v12) v3).bind fun r19=>((Aiv K r17 r19).bind fun r20=>(bif r20 then((Aw2 K (D9.mk v4 v5 v6 v7 v8 v9) (gt v1 v3)).bind fun r21=>(bif r21 then((Aw3 K ((gt v1 v3).F4)).bind fun r22=>(bif (!r22)then some false else(bif (((gt v1 v3).Acv)==0)then(Aqo K v1 v2 v3 v4 v5 v6 v7 v8 v9 v10 v11 v12 v13 v14 v15 (Agz K n1))else(if(0:Int)≤((Bc.mk (An3 .i64 (An5 .i64 (An4 .i64 ((gt v1 v3).Acv) 1) v5) ((gt v1 v3).Sn)) (An4 .i64 v5 ((gt v1 v3).Sn)) 0).fAt)∧((Bc.mk (An3 .i64 (An5 .i64 (An4 .i64 ((gt v1 v3).Acv) 1) v5) ((gt v1 v3).Sn)) (An4 .i64 v5 ((gt v1 v3).Sn)) 0).fAt)≤(An3 .i64 ((Bc.mk (An3 .i64 (An5 .i64 (An4 .i64 ((gt v1 v3).Acv) 1) v5) ((gt v1 v3).Sn)) (An4 .i64 v5 ((gt v1 v3).Sn)) 0).fAt) ((Bc.mk (An3 .i64 (An5 .i64 (An4 .i64 ((gt v1 v3).Acv) 1) v5) ((gt v1 v3).Sn)) (An4 .i64 v5 ((gt v1 v3).Sn)) 0).Ajk))∧(An3 .i64 ((Bc.mk (An3 .i64 (An5 .i64 (An4 .i64 ((gt v1 v3).Acv) 1) v5) ((gt v1 v3).Sn)) (An4 .i64 v5 ((gt v1 v3).Sn)) 0).fAt) ((Bc.mk (An3 .i64 (An5 .i64 (An4 .i64 ((gt v1 v3).Acv) 1) v5) ((gt v1 v3).Sn)) (An4 .i64 v5 ((gt v1 v3).Sn)) 0).Ajk))≤(v10.length:Int)then((Auf K ((v10.drop ((Bc.mk (An3 .i64 (An5 .i64 (An4 .i64 ((gt v1 v3).Acv) 1) v5) ((gt v1 v3).Sn)) (An4 .i64 v5 ((gt v1 v3).Sn)) 0).fAt).toNat).take ((An3 .i64 ((Bc.mk (An3 .i64 (An5 .i64 (An4 .i64 ((gt v1 v3).Acv) 1) v5) ((gt v1 v3).Sn)) (An4 .i64 v5 ((gt v1 v3).Sn)) 0).fAt) ((Bc.mk (An3 .i64 (An5 .i64 (An4 .i64 ((gt v1 v3).Acv) 1) v5) ((gt v1 v3).Sn)) (An4 .i64 v5 ((gt v1 v3).Sn)) 0).Ajk)) - ((Bc.mk (An3 .i64 (An5 .i64 (An4 .i64 ((gt v1 v3).Acv) 1) v5) ((gt v1 v3).Sn)) (An4 .i64 v5 ((gt v1 v3).Sn)) 0).fAt)).toNat)).bind fun r23=>(bif r23 then((Agl K ((gt v1 v3).F4) (Bc.mk (An3 .i64 (An5 .i64 (An4 .i64 ((gt v1 v3).Acv) 1) v5) ((gt v1 v3).Sn)) (An4 .i64 v5 ((gt v1 v3).Sn)) 0)).bind fun r24=>(bif r24 then some false else(Aqo K v1 v2 v3 v4 v5 v6 v7 v8 v9 v10 v11 v12 v13 v14 v15 (Agz K n1))))else some false))else none))))else some false))else some false)))else some false))else none)))else none)else some true)
def Ar0 (K:Nat)(a0:C4):Option (Bool):=(Agz K K a0.fL (a0.fL.length:Int) 0 a0.fC.Ay a0.fC.G6 a0.fC.E5 a0.fC.Gs a0.fC.E6 a0.fC.G7 a0.fP.N5 a0.fP.Vg a0.fP.N6 a0.fL a0.fQ a0.Acw)
def Bj3:=fd Tryz.func86 ⟨[.v 32],[.v 4],true⟩ (gC (Bjl K) (gC (Bsw K) (gC (A41 K) (gC (Bcr K) (gC (Vq K) (gC (Bsv K) (gC (Bs0 K) (gC (Bs4 K) (gC (Bs7 K) gN))))))))) [23,24,25,31,32,33,34,38,39,40,41,78,79,80] [211] [(10,[.frzB 106 132])]
def Bef:Ei:=⟨[(1,.p 101),(8,.v 29),(9,.v 2),(10,.v 2)],[(101,.box [.v 2,.v 2,.v 2,.v 2,.v 2,.v 2,.v 22,.v 26,.v 26,.v 29,.v 30,.v 26])]⟩
def Bfz:=fun(C26:CT Bef _)=>jn (Bj3 K) 211 Bef [(26,ar Bef C26)] (fun a b c d e f g h i j k l m o p=>Aqo K a b c d e f g h i j k l m o p C26) kN
def Bj4:=lp (Bj3 K) 26 Bef [] (Agz K) (fun n=>(kC (Bfz K _) kN))
def Bs8:=ct (Bj3 K) (Ar0 K) (kC (Bj4 K K) kN)
def Aug (K:Nat)(a0:List As)(a1:Int):Option (Bool):=(bif (a1==0)then some true else((Ahe K a0 (An4 .i64 a1 1)).bind fun r1=>(bif r1 then(if(0:Int)≤(An4 .i64 a1 1)∧(An4 .i64 a1 1)<(a0.length:Int)then some (((gt a0 (An4 .i64 a1 1)).Vg)==1)else none)else some false)))
def Bs9:=ct (fd Tryz.func246 ⟨[.v 29,.v 3],[.v 4],true⟩ (gC (A2k K) gN) [6,7,11,12]) (Aug K)
def Aq2 (K:Nat)(a0:List As)(a1:Int):Option (Bool):=(if(0:Int)≤a1∧a1<(a0.length:Int)then((Ahe K a0 (An4 .i64 ((gt a0 a1).fUp) 1)).bind fun r1=>(bif r1 then(if(0:Int)≤(An4 .i64 ((gt a0 a1).fUp) 1)∧(An4 .i64 ((gt a0 a1).fUp) 1)<(a0.length:Int)then(bif (((gt a0 (An4 .i64 ((gt a0 a1).fUp) 1)).Vg)==1)then(if(0:Int)≤(An4 .i64 ((gt a0 a1).fUp) 1)∧(An4 .i64 ((gt a0 a1).fUp) 1)<(a0.length:Int)then(if(0:Int)≤a1∧a1<(a0.length:Int)then some (((gt a0 (An4 .i64 ((gt a0 a1).fUp) 1)).Sj)==((gt a0 a1).Sk))else none)else none)else some false)else none)else some false))else none)
def Bcu:=ct (fd Tryz.func176 ⟨[.v 29,.v 3],[.v 4],true⟩ (gC (A2k K) gN) [14,15,21,22,23]) (Aq2 K)
def As9 (K:Nat)(a0:List As)(a1:Int)(v8:Int)(v12:Int):Option (Bool):=(bif (v12 != 0)then some true else((Aq2 K a0 a1).bind fun r18=>(bif r18 then(if(0:Int)≤(An4 .i64 v8 1)∧(An4 .i64 v8 1)<(a0.length:Int)then some (((gt a0 (An4 .i64 v8 1)).Ee)==(An3 .i64 a1 1))else none)else some true)))
def Ata (K:Nat)(a0:List As)(a1:Int)(v8:Int)(v12:Int):Option (Bool):=(bif (v12 != 0)then(if(0:Int)≤(An4 .i64 v12 1)∧(An4 .i64 v12 1)<(a0.length:Int)then(bif (((gt a0 (An4 .i64 v12 1)).Sl) != (An3 .i64 a1 1))then some false else(As9 K a0 a1 v8 v12))else none)else(As9 K a0 a1 v8 v12))
def Atb (K:Nat)(a0:List As)(a1:Int)(v8:Int)(v9:Int)(v11:Int)(v12:Int):Option (Bool):=(bif (v11 != 0)then(if(0:Int)≤(An4 .i64 v11 1)∧(An4 .i64 v11 1)<(a0.length:Int)then(bif (((gt a0 (An4 .i64 v11 1)).Sm) != (An3 .i64 a1 1))then some false else(bif (((gt a0 (An4 .i64 v11 1)).fUp) != v8)then some false else(bif (((gt a0 (An4 .i64 v11 1)).Sk) != v9)then some false else(Ata K a0 a1 v8 v12))))else none)else(Ata K a0 a1 v8 v12))
def Atc (K:Nat)(a0:List As)(a1:Int)(v5:Int)(v6:Int)(v7:Int)(v8:Int)(v9:Int)(v10:Int)(v11:Int)(v12:Int)(v13:List Int)(v14:Int)(v15:Int)(v16:List Bc)(v17:List Int):Option (Bool):=(bif (v10 != 0)then(if(0:Int)≤(An4 .i64 v10 1)∧(An4 .i64 v10 1)<(a0.length:Int)then(bif (((gt a0 (An4 .i64 v10 1)).Sm) != 0)then some false else(bif (((gt a0 (An4 .i64 v10 1)).fUp) != (An3 .i64 a1 1))then some false else(bif (((gt a0 (An4 .i64 v10 1)).Sk) != v7)then some false else(Atb K a0 a1 v8 v9 v11 v12))))else none)else(Atb K a0 a1 v8 v9 v11 v12))
def Ayc (K:Nat)(a0:List As)(a1:Int):Option (Bool):=(if(0:Int)≤a1∧a1<(a0.length:Int)then((Aug K a0 ((gt a0 a1).Ee)).bind fun r1=>(bif r1 then((Aug K a0 ((gt a0 a1).Sl)).bind fun r2=>(bif r2 then((Aug K a0 ((gt a0 a1).Sm)).bind fun r3=>(bif r3 then(bif (((gt a0 a1).fUp) != 0)then((Ahe K a0 (An4 .i64 ((gt a0 a1).fUp) 1)).bind fun r4=>(bif (!r4)then some false else(Atc K a0 a1 ((gt a0 a1).Vg) ((gt a0 a1).C8) ((gt a0 a1).Sj) ((gt a0 a1).fUp) ((gt a0 a1).Sk) ((gt a0 a1).Ee) ((gt a0 a1).Sl) ((gt a0 a1).Sm) ((gt a0 a1).Ay) ((gt a0 a1).Acv) ((gt a0 a1).Sn) ((gt a0 a1).F4) ((gt a0 a1).Fh))))else(Atc K a0 a1 ((gt a0 a1).Vg) ((gt a0 a1).C8) ((gt a0 a1).Sj) ((gt a0 a1).fUp) ((gt a0 a1).Sk) ((gt a0 a1).Ee) ((gt a0 a1).Sl) ((gt a0 a1).Sm) ((gt a0 a1).Ay) ((gt a0 a1).Acv) ((gt a0 a1).Sn) ((gt a0 a1).F4) ((gt a0 a1).Fh)))else some false))else some false))else some false))else none)
def Bax:=fd Tryz.func175 ⟨[.v 29,.v 3],[.v 4],true⟩ (gC (A2k K) (gC (Bcu K) (gC (Bs9 K) gN))) [15,16,17,21,22,23,24,28,29,30,31,34,35,55,56,61,62,63,83,84,89,90,91,100,101,115,116,119,120,121,122] [7,15,31,63]
def Bj5:=jn (Bax K) 63 Baq [] (fun a b _ _ _ f _ _ _ j _ _ _ _ _=>As9 K a b f j) kN
def Bj6:=jn (Bax K) 31 Baq [] (fun a b _ _ _ f _ _ _ j _ _ _ _ _=>Ata K a b f j) (kC (Bj5 K) kN)
def Bj7:=jn (Bax K) 15 Baq [] (fun a b _ _ _ f g _ i j _ _ _ _ _=>Atb K a b f g i j) (kC (Bj6 K) kN)
def Bny:=jn (Bax K) 7 Baq [] (Atc K) (kC (Bj7 K) kN)
def Bta:=ct (Bax K) (Ayc K) (kC (Bny K) kN)
def Aw4 (K:Nat)(v1:List As)(v2:Int)(v3:Int)(C1:(List As)->Int->Int->Option (Bool)):Option (Bool):=(C1 v1 v2 (An3 .i64 v3 1))
def Apn (K:Nat)(a0:List As):Nat->(List As)->Int->Int->Option (Bool)
 |0,_,_,_=>none
 |n1+1,v1,v2,v3=>(bif (decide (v3<v2))then(if(0:Int)≤v3∧v3<(v1.length:Int)then(bif (((gt v1 v3).Vg) != 1)then(Aw4 K v1 v2 v3 (Apn K a0 n1))else((Ayc K a0 v3).bind fun r4=>(bif (!r4)then some false else((Azh K a0 v3).bind fun r5=>(bif (decide ((r5.length:Int)>4))then some false else(if(0:Int)≤(An4 .i64 (r5.length:Int) 1)∧(An4 .i64 (r5.length:Int) 1)<(r5.length:Int)then((Aq2 K a0 (gt r5 (An4 .i64 (r5.length:Int) 1))).bind fun r6=>(bif r6 then some false else(Aw4 K v1 v2 v3 (Apn K a0 n1))))else none))))))else none)else some true)
def Azc (K:Nat)(a0:List As):Option (Bool):=(Apn K a0 K a0 (a0.length:Int) 0)
def Bj8:=fd Tryz.func87 ⟨[.v 29],[.v 4],true⟩ (gC (Bix K) (gC (Bta K) (gC (Bcu K) gN))) [25,26] [211]
def Beg:Ei:=⟨[(0,.v 29),(6,.v 29),(7,.v 2),(8,.v 2)],[]⟩
def Bf0:=fun(C26:CT Beg _)=>jn (Bj8 K) 211 Beg [(26,ar Beg C26)] (fun a b c d=>Aw4 K b c d (C26 a)) kN
def Bj9:=lp (Bj8 K) 26 Beg [] (fun n a=>Apn K a n) (fun n=>(kC (Bf0 K _) kN))
def Btb:=ct (Bj8 K) (Azc K) (kC (Bj9 K K) kN)
def Arp (K:Nat)(a0:List As)(a1:Int):Option (Bool):=(if(0:Int)≤a1∧a1<(a0.length:Int)then(bif (((gt a0 a1).Vg)==1)then(if(0:Int)≤a1∧a1<(a0.length:Int)then(bif (((gt a0 a1).fUp) != 0)then((Aq2 K a0 a1).bind fun r1=>some (!r1))else some false)else none)else some false)else none)
def Btc:=ct (fd Tryz.func178 ⟨[.v 29,.v 3],[.v 4],true⟩ (gC (Bcu K) gN) [10,11,17,18,19]) (Arp K)
def Ayd (K:Nat)(a0:D9)(a1:Az):Option (Bool):=((Aue K a0).bind fun r1=>(bif r1 then((Wy K a1.Bk 0 a0.E5).bind fun r2=>(bif r2 then((Wy K a1.Ee 0 a0.E5).bind fun r3=>(bif r3 then(bif (decide ((a1.Fh.length:Int)≤6))then((Aro K a1.Fh).bind fun r4=>(bif r4 then((At9 K a0 a1.Ay).bind fun r5=>(bif r5 then((Wy K a1.Wv 0 (An4 .i64 a0.G6 1)).bind fun r6=>(bif r6 then(bif (decide ((a1.Ay.length:Int)>0))then some true else some (a1.Wv==0))else some false))else some false))else some false))else some false)else some false))else some false))else some false))
def Btd:=ct (fd Tryz.func177 ⟨[.v 25,.v 52],[.v 4],true⟩ (gC (A86 K) (gC (Bct K) (gC (A10 K) (gC (Bjp K) gN)))) [6,7,12,13,14,19,20,21,25,26,27,30,31,32,36,37,38,44,45,46,50,51]) (Ayd K)
def Aua (K:Nat)(a0:List As):Nat->(List Int)->Int->Option ((List Int))
 |0,_,_=>none
 |n1+1,v1,v2=>((Ahe K a0 v2).bind fun r3=>(bif r3 then(bif (decide ((v1.length:Int)<(a0.length:Int)))then(if(v1++([v2]:List Int)).length*8≤140737488355328∧(v1++([v2]:List Int)).length≤maxLen then(if(0:Int)≤v2∧v2<(a0.length:Int)then(Aua K a0 n1 (v1++([v2]:List Int)) (An4 .i64 ((gt a0 v2).Sl) 1))else none)else none)else some v1)else some v1))
def Azd (K:Nat)(a0:List As)(a1:Int):Option ((List Int)):=(Aua K a0 K ([]:List Int) (An4 .i64 a1 1))
def Bqc:=fd Tryz.func124 ⟨[.v 29,.v 3],[.n 26 true],true⟩ (gC (A2k K) gN) [12,13]
def Bw2:Ei:=⟨[(0,.v 29),(5,.o 1005 3 true),(6,.v 2)],[]⟩
def Bka:=lp (Bqc K) 58 Bw2 [] (fun n a=>Aua K a n) (fun n=>kN)
def Bte:=ct (Bqc K) (Azd K) (kC (Bka K K) kN)
def Aiw (K:Nat)(v4:List Az)(v5:Int)(v6:Int)(v7:Int)(v8:Int)(v9:Int)(v10:Int)(v11:Int)(v12:Int)(v13:List Int)(v14:List Int)(v15:List Int)(v16:List As)(v17:List Az)(v18:List Int)(v27:List Int)(v31:List Int)(r32:(List Int))(C1:(List Int)->(List Int)->(List Int)->(List Az)->Int->Int->Int->Int->Int->Int->Int->Int->(List Int)->(List Int)->(List Int)->(List As)->(List Az)->(List Int)->Option (Bool)):Nat->(List Int)->Int->Int->Option (Bool)
 |0,_,_,_=>none
 |n6+1,v33,v34,v35=>(bif (decide (v35<v34))then(if(0:Int)≤v35∧v35<(r32.length:Int)then(if(0:Int)≤(gt r32 v35)∧(gt r32 v35)<(v33.length:Int)then(if(0:Int)≤(gt r32 v35)∧(gt r32 v35)<(v33.length:Int)then((Arp K v16 (gt r32 v35)).bind fun r36=>(bif (!r36)then some false else(Aiw K v4 v5 v6 v7 v8 v9 v10 v11 v12 v13 v14 v15 v16 v17 v18 v27 v31 r32 C1 n6 (v33.set (gt r32 v35).toNat (An3 .i64 (gt v33 (gt r32 v35)) 1)) v34 (An3 .i64 v35 1))))else none)else none)else none)else(C1 v27 v31 v33 v4 v5 (An3 .i64 v6 1) v7 v8 v9 v10 v11 v12 v13 v14 v15 v16 v17 v18))
def Apd (K:Nat)(v3:List Int)(v4:List Az)(v5:Int)(v6:Int)(v7:Int)(v8:Int)(v9:Int)(v10:Int)(v11:Int)(v12:Int)(v13:List Int)(v14:List Int)(v15:List Int)(v16:List As)(v17:List Az)(v18:List Int)(v23:Int)(v27:List Int)(v31:List Int)(C1:(List Int)->(List Int)->(List Int)->(List Az)->Int->Int->Int->Int->Int->Int->Int->Int->(List Int)->(List Int)->(List Int)->(List As)->(List Az)->(List Int)->Option (Bool)):Option (Bool):=((Azd K v16 v23).bind fun r32=>(Aiw K v4 v5 v6 v7 v8 v9 v10 v11 v12 v13 v14 v15 v16 v17 v18 v27 v31 r32 (C1) K v3 (r32.length:Int) 0))
def Ape (K:Nat)(v3:List Int)(v4:List Az)(v5:Int)(v6:Int)(v7:Int)(v8:Int)(v9:Int)(v10:Int)(v11:Int)(v12:Int)(v13:List Int)(v14:List Int)(v15:List Int)(v16:List As)(v17:List Az)(v18:List Int)(v23:Int)(v27:List Int)(C1:(List Int)->(List Int)->(List Int)->(List Az)->Int->Int->Int->Int->Int->Int->Int->Int->(List Int)->(List Int)->(List Int)->(List As)->(List Az)->(List Int)->Option (Bool))(v31:List Int):Option (Bool):=(bif (decide (v23>0))then(if(0:Int)≤(An4 .i64 v23 1)∧(An4 .i64 v23 1)<(v16.length:Int)then(bif (((gt v16 (An4 .i64 v23 1)).Sm) != 0)then some false else(Apd K v3 v4 v5 v6 v7 v8 v9 v10 v11 v12 v13 v14 v15 v16 v17 v18 v23 v27 v31 (C1)))else none)else(Apd K v3 v4 v5 v6 v7 v8 v9 v10 v11 v12 v13 v14 v15 v16 v17 v18 v23 v27 v31 (C1)))
def Aiy (K:Nat)(v2:List Int)(v3:List Int)(v4:List Az)(v5:Int)(v6:Int)(v7:Int)(v8:Int)(v9:Int)(v10:Int)(v11:Int)(v12:Int)(v13:List Int)(v14:List Int)(v15:List Int)(v16:List As)(v17:List Az)(v18:List Int)(v22:Int)(v23:Int)(v25:List Int)(C1:(List Int)->(List Int)->(List Int)->(List Az)->Int->Int->Int->Int->Int->Int->Int->Int->(List Int)->(List Int)->(List Int)->(List As)->(List Az)->(List Int)->Option (Bool)):Nat->(List Int)->Int->Int->(List Int)->Option (Bool)
 |0,_,_,_,_=>none
 |n3+1,v27,v28,v29,v30=>(bif (decide (v29<v28))then(if(0:Int)≤v29∧v29<(v25.length:Int)then(if(0:Int)≤(gt v25 v29)∧(gt v25 v29)<(v27.length:Int)then(if(0:Int)≤(gt v25 v29)∧(gt v25 v29)<(v27.length:Int)then(if(0:Int)≤(gt v25 v29)∧(gt v25 v29)<(v14.length:Int)then(bif ((gt v14 (gt v25 v29)) != 2)then some false else(Aiy K v2 v3 v4 v5 v6 v7 v8 v9 v10 v11 v12 v13 v14 v15 v16 v17 v18 v22 v23 v25 C1 n3 (v27.set (gt v25 v29).toNat (An3 .i64 (gt v27 (gt v25 v29)) 1)) v28 (An3 .i64 v29 1) v30))else none)else none)else none)else none)else(bif (decide (v22>0))then(if(0:Int)≤(An4 .i64 v22 1)∧(An4 .i64 v22 1)<(v2.length:Int)then(if(0:Int)≤(An4 .i64 v22 1)∧(An4 .i64 v22 1)<(v2.length:Int)then(if(0:Int)≤(An4 .i64 v22 1)∧(An4 .i64 v22 1)<(v16.length:Int)then(bif (((gt v16 (An4 .i64 v22 1)).Vg) != 2)then some false else(Ape K v3 v4 v5 v6 v7 v8 v9 v10 v11 v12 v13 v14 v15 v16 v17 v18 v23 v27 (C1) (v2.set (An4 .i64 v22 1).toNat (An3 .i64 (gt v2 (An4 .i64 v22 1)) 1))))else none)else none)else none)else(Ape K v3 v4 v5 v6 v7 v8 v9 v10 v11 v12 v13 v14 v15 v16 v17 v18 v23 v27 (C1) v2)))
def Apf (K:Nat)(v1:List Int)(v2:List Int)(v3:List Int)(v4:List Az)(v5:Int)(v6:Int)(v7:Int)(v8:Int)(v9:Int)(v10:Int)(v11:Int)(v12:Int)(v13:List Int)(v14:List Int)(v15:List Int)(v16:List As)(v17:List Az)(v18:List Int)(C1:(List Int)->(List Int)->(List Int)->(List Az)->Int->Int->Int->Int->Int->Int->Int->Int->(List Int)->(List Int)->(List Int)->(List As)->(List Az)->(List Int)->Option (Bool))(v22:Int)(v23:Int)(v24:List Int)(v25:List Int)(v26:Int):Option (Bool):=(Aiy K v2 v3 v4 v5 v6 v7 v8 v9 v10 v11 v12 v13 v14 v15 v16 v17 v18 v22 v23 v25 (C1) K v1 (v25.length:Int) 0 v25)
def Aqp (K:Nat)(v37:Int)(v38:Int)(v39:List Int)(C7:Int->Int->(List Int)->Option (Bool)):Option (Bool):=(C7 v37 (An3 .i64 v38 1) v39)
def Akz (K:Nat)(v40:Int)(v41:Int)(v42:List As)(C9:Int->Int->(List As)->Option (Bool)):Option (Bool):=(C9 v40 (An3 .i64 v41 1) v42)
def Acu (K:Nat)(v2:List Int)(v3:List Int)(v16:List As):Nat->Int->Int->(List As)->Option (Bool)
 |0,_,_,_=>none
 |n9+1,v40,v41,v42=>(bif (decide (v41<v40))then(if(0:Int)≤v41∧v41<(v16.length:Int)then(bif (((gt v16 v41).Vg)==2)then(if(0:Int)≤v41∧v41<(v2.length:Int)then(bif ((gt v2 v41) != 1)then some false else((Arp K v42 v41).bind fun r43=>(bif r43 then(if(0:Int)≤v41∧v41<(v3.length:Int)then(bif ((gt v3 v41) != 1)then some false else(Akz K v40 v41 v42 (Acu K v2 v3 v16 n9)))else none)else(Akz K v40 v41 v42 (Acu K v2 v3 v16 n9)))))else none)else((Arp K v42 v41).bind fun r44=>(bif r44 then(if(0:Int)≤v41∧v41<(v3.length:Int)then(bif ((gt v3 v41) != 1)then some false else(Akz K v40 v41 v42 (Acu K v2 v3 v16 n9)))else none)else(Akz K v40 v41 v42 (Acu K v2 v3 v16 n9)))))else none)else some true)
def Agn (K:Nat)(v1:List Int)(v2:List Int)(v3:List Int)(v14:List Int)(v16:List As):Nat->Int->Int->(List Int)->Option (Bool)
 |0,_,_,_=>none
 |n7+1,v37,v38,v39=>(bif (decide (v38<v37))then(if(0:Int)≤v38∧v38<(v14.length:Int)then(bif ((gt v14 v38)==2)then(if(0:Int)≤v38∧v38<(v1.length:Int)then(bif ((gt v1 v38) != 1)then some false else(Aqp K v37 v38 v39 (Agn K v1 v2 v3 v14 v16 n7)))else none)else(Aqp K v37 v38 v39 (Agn K v1 v2 v3 v14 v16 n7)))else none)else(Acu K v2 v3 v16 K (v16.length:Int) 0 v16))
def Ht (K:Nat):Nat->(List Int)->(List Int)->(List Int)->(List Az)->Int->Int->Int->Int->Int->Int->Int->Int->(List Int)->(List Int)->(List Int)->(List As)->(List Az)->(List Int)->Option (Bool)
 |0,_,_,_,_,_,_,_,_,_,_,_,_,_,_,_,_,_,_=>none
 |n1+1,v1,v2,v3,v4,v5,v6,v7,v8,v9,v10,v11,v12,v13,v14,v15,v16,v17,v18=>(bif (decide (v6<v5))then(if(0:Int)≤v6∧v6<(v4.length:Int)then((Ayd K (D9.mk v7 v8 v9 v10 v11 v12) (gt v4 v6)).bind fun r19=>(bif r19 then(bif (decide ((((gt v4 v6).Ay).length:Int)>0))then(if(0:Int)≤0∧0<(((gt v4 v6).Ay).length:Int)then((Ary K (Dm.mk v13 v14 v15) (D9.mk v7 v8 v9 v10 v11 v12) (gt ((gt v4 v6).Ay) 0)).bind fun r20=>(if(0:Int)≤0∧0≤((gt v4 v6).Wv)∧((gt v4 v6).Wv)≤(r20.length:Int)then((Auf K ((r20.drop (0:Int).toNat).take (((gt v4 v6).Wv) - 0).toNat)).bind fun r21=>(bif (!r21)then some false else(Apf K v1 v2 v3 v4 v5 v6 v7 v8 v9 v10 v11 v12 v13 v14 v15 v16 v17 v18 (Ht K n1) ((gt v4 v6).Bk) ((gt v4 v6).Ee) ((gt v4 v6).Fh) ((gt v4 v6).Ay) ((gt v4 v6).Wv))))else none))else none)else(Apf K v1 v2 v3 v4 v5 v6 v7 v8 v9 v10 v11 v12 v13 v14 v15 v16 v17 v18 (Ht K n1) ((gt v4 v6).Bk) ((gt v4 v6).Ee) ((gt v4 v6).Fh) ((gt v4 v6).Ay) ((gt v4 v6).Wv)))else some false))else none)else(Agn K v1 v2 v3 v14 v16 K (v14.length:Int) 0 v14))
def Ar1 (K:Nat)(a0:C4):Option (Bool):=(if(0:Int)≤a0.fC.Ay∧a0.fC.Ay≤a0.fC.Ay∧(8:Int)*a0.fC.Ay≤281474976710656∧a0.fC.Ay≤9223372036854775807 then(if(0:Int)≤a0.fC.E5∧a0.fC.E5≤a0.fC.E5∧(8:Int)*a0.fC.E5≤281474976710656∧a0.fC.E5≤9223372036854775807 then(if(0:Int)≤a0.fC.E5∧a0.fC.E5≤a0.fC.E5∧(8:Int)*a0.fC.E5≤281474976710656∧a0.fC.E5≤9223372036854775807 then(Ht K K (List.replicate a0.fC.Ay.toNat 0) (List.replicate a0.fC.E5.toNat 0) (List.replicate a0.fC.E5.toNat 0) a0.fQ (a0.fQ.length:Int) 0 a0.fC.Ay a0.fC.G6 a0.fC.E5 a0.fC.Gs a0.fC.E6 a0.fC.G7 a0.fP.N5 a0.fP.Vg a0.fP.N6 a0.fL a0.fQ a0.Acw)else none)else none)else none)
def A2o:=fd Tryz.func88 ⟨[.v 32],[.v 4],true⟩ (gC (Bte K) (gC (Bcr K) (gC (Bjh K) (gC (Btd K) (gC (Btc K) gN))))) [38,39,40,44,45,105,106,150,151,169,170,175,176,177,181,182] [979,2003,3737,14951,29903]
def Bw3:Ei:=⟨[(1,.p 101),(3,.o 1003 3 true),(4,.o 1004 3 true),(5,.o 1005 3 true),(29,.v 30),(30,.v 2),(31,.v 2),(121,.v 26),(122,.v 2),(123,.v 2)],[(101,.box [.v 2,.v 2,.v 2,.v 2,.v 2,.v 2,.v 22,.v 26,.v 26,.v 29,.v 30,.v 26])]⟩
def Bkb:Ei:=⟨[(1,.p 101),(3,.o 1003 3 true),(4,.o 1004 3 true),(5,.o 1005 3 true),(7,.p 107),(29,.v 30),(30,.v 2),(31,.v 2)],[(107,.box [.v 2,.v 2,.v 26,.v 26,.v 2]),(101,.box [.v 2,.v 2,.v 2,.v 2,.v 2,.v 2,.v 22,.v 26,.v 26,.v 29,.v 30,.v 26])]⟩
def Bw4:Ei:=⟨[(1,.p 101),(3,.o 1003 3 true),(4,.o 1004 3 true),(5,.o 1005 3 true),(7,.p 107),(29,.v 30),(30,.v 2),(31,.v 2),(63,.v 26),(64,.v 2),(65,.v 2)],[(107,.box [.v 2,.v 2,.v 26,.v 26,.v 2]),(101,.box [.v 2,.v 2,.v 2,.v 2,.v 2,.v 2,.v 22,.v 26,.v 26,.v 29,.v 30,.v 26])]⟩
def Beh:Ei:=⟨[(1,.p 101),(3,.o 1003 3 true),(4,.o 1004 3 true),(5,.o 1005 3 true),(142,.v 26),(143,.v 2),(144,.v 2)],[(101,.box [.v 2,.v 2,.v 2,.v 2,.v 2,.v 2,.v 22,.v 26,.v 26,.v 29,.v 30,.v 26])]⟩
def Bei:Ei:=⟨[(1,.p 101),(4,.o 1004 3 true),(5,.o 1005 3 true),(160,.v 29),(161,.v 2),(162,.v 2)],[(101,.box [.v 2,.v 2,.v 2,.v 2,.v 2,.v 2,.v 22,.v 26,.v 26,.v 29,.v 30,.v 26])]⟩
def A2p:Ei:=⟨[(1,.p 101),(3,.o 1003 3 true),(4,.o 1004 3 true),(5,.o 1005 3 true),(29,.v 30),(30,.v 2),(31,.v 2)],[(101,.box [.v 2,.v 2,.v 2,.v 2,.v 2,.v 2,.v 22,.v 26,.v 26,.v 29,.v 30,.v 26])]⟩
def A88:=fun(C58:CT A2p _)=>lp (A2o K) 239230 Bw3 [(58,ar A2p C58)] (fun n a b c d e f g h i j k l m o p q r s t u v=>Aiw K d e f j k l m o p q r s t u v a b g C58 n c h i) (fun n=>kN)
def Bay:=fun(C58:CT A2p _)=>jn (A2o K) 29903 Bkb [(58,ar A2p C58)] (fun a b c d e f _ h _ _ _ l m o p q r s t u v w x=>Apd K c d e f l m o p q r s t u v w x h a b C58) (kC (A88 K _ K) kN)
def Baz:=fun(C58:CT A2p _)=>jn (A2o K) 14951 Bkb [(58,ar A2p C58)] (fun a b c d e f _ h _ _ _ l m o p q r s t u v w x=>Ape K c d e f l m o p q r s t u v w x h a C58 b) (kC (Bay K _) kN)
def Ba0:=fun(C58:CT A2p _)=>lp (A2o K) 59802 Bw4 [(58,ar A2p C58)] (fun n a b c d e f g h i j k _ m _ p q r s t u v w x y z a1=>Aiy K b c d e f p q r s t u v w x y z a1 j k g C58 n a h i m) (fun n=>(kC (up (Baz K _)) kN))
def Bcv:=fun(C58:CT A2p _)=>jn (A2o K) 3737 Bkb [(58,ar A2p C58)] (fun a b c d e f g h i j k l m o p q r s t u v w x=>Apf K a b c d e f l m o p q r s t u v w x C58 g h i j k) (kC (Ba0 K _ K) kN)
def Bf1:=fun(C122:CT Beh _)=>jn (A2o K) 979 Beh [(122,ar Beh C122)] (fun a b c d e f g h i j k l m o p q r s=>Aqp K e f o (fun v37 v38 v39=>C122 a b c d v37 v38 g h i j k l m v39 p q r s)) kN
def Bcw:=fun(C250:CT Bei _)=>jn (A2o K) 2003 Bei [(250,ar Bei C250)] (fun a b c d e f g h i j k l m o p q r=>Akz K d e p (fun v40 v41 v42=>C250 a b c v40 v41 f g h i j k l m o v42 q r)) kN
def Bf2:=lp (A2o K) 250 Bei [] (fun n a b c d e _ _ _ _ _ _ _ _ _ p _ _=>Acu K a b c n d e p) (fun n=>(kC (Bcw K _) kN))
def Bf3:=lp (A2o K) 122 Beh [] (fun n a b c d e f _ _ _ _ _ _ _ o _ q _ _=>Agn K a b c d q n e f o) (fun n=>(kC (Bf1 K _) (kC (up (Bf2 K K)) kN)))
def Bkc:=lp (A2o K) 58 A2p [] (Ht K) (fun n=>(kC (Bcv K _) (kC (up (Bf3 K K)) kN)))
def Btf:=ct (A2o K) (Ar1 K) (kC (Bkc K K) kN)
def Ave (K:Nat)(a0:C4):Option (Bool):=((Aza K a0.fC a0.fP).bind fun r1=>(bif r1 then(bif ((a0.fL.length:Int)==a0.fC.E5)then((Ar0 K a0).bind fun r2=>(bif r2 then((Azc K a0.fL).bind fun r3=>(bif r3 then((Ar1 K a0).bind fun r4=>(bif r4 then((Aro K a0.Acw).bind fun r5=>some r5)else some false))else some false))else some false))else some false)else some false))
def Btg:=ct (fd Tryz.func19 ⟨[.v 32],[.v 4],true⟩ (gC (Bsh K) (gC (Bs8 K) (gC (Btb K) (gC (Btf K) (gC (Bct K) gN))))) [7,8,15,16,17,19,20,21,24,25,26,28,29,30]) (Ave K)
def Aw5 (K:Nat)(a0:List Int):Option (Bool):=((A3v K a0).bind fun r1=>(bif r1 then some true else((Avs K a0).bind fun r2=>((Axa K a0).bind fun r3=>((Avt K a0).bind fun r4=>((A0i K r4.1).bind fun r5=>((Arx K r2.1 r2.2).bind fun r6=>((Avv K r2.1 r2.2).bind fun r7=>((As4 K r6 r7).bind fun r8=>(bif r8 then((Ap4 K r3.1 r3.2).bind fun r9=>((As6 K r3.1 r3.2).bind fun r10=>((As4 K r9 r10).bind fun r11=>(bif (!r11)then some false else(bif ((r5.length:Int)==0)then some true else((A3g K a0 4).bind fun r12=>(if(r5.length:Int)≠(0:Int)then(if(0:Int)≤(Int.tmod r12 (r5.length:Int))∧(Int.tmod r12 (r5.length:Int))<(r5.length:Int)then((Arx K r4.1 (gt r5 (Int.tmod r12 (r5.length:Int)))).bind fun r13=>((Ap4 K r4.1 (gt r5 (Int.tmod r12 (r5.length:Int)))).bind fun r14=>((Ave K r13).bind fun r15=>(bif r15 then((Ave K r14).bind fun r16=>(bif r16 then(bif ((r13.fQ.length:Int)==(An3 .i64 (r4.1.fQ.length:Int) 1))then(bif ((r14.fQ.length:Int)==(An3 .i64 (r4.1.fQ.length:Int) 1))then(if(0:Int)≤(gt r5 (Int.tmod r12 (r5.length:Int)))∧(gt r5 (Int.tmod r12 (r5.length:Int)))<(r13.fL.length:Int)then(bif (((gt r13.fL (gt r5 (Int.tmod r12 (r5.length:Int)))).Vg)==2)then(if(0:Int)≤(gt r5 (Int.tmod r12 (r5.length:Int)))∧(gt r5 (Int.tmod r12 (r5.length:Int)))<(r14.fL.length:Int)then(bif (((gt r14.fL (gt r5 (Int.tmod r12 (r5.length:Int)))).Vg)==1)then(if(0:Int)≤(gt r5 (Int.tmod r12 (r5.length:Int)))∧(gt r5 (Int.tmod r12 (r5.length:Int)))<(r14.fL.length:Int)then(if(0:Int)≤(gt r5 (Int.tmod r12 (r5.length:Int)))∧(gt r5 (Int.tmod r12 (r5.length:Int)))<(r4.1.fL.length:Int)then(bif (((gt r14.fL (gt r5 (Int.tmod r12 (r5.length:Int)))).Sj)==(An3 .i64 ((gt r4.1.fL (gt r5 (Int.tmod r12 (r5.length:Int)))).Sj) 1))then(if(0:Int)≤(r4.1.fQ.length:Int)∧(r4.1.fQ.length:Int)<(r13.fQ.length:Int)then(bif (((gt r13.fQ (r4.1.fQ.length:Int)).Bk)==(An3 .i64 (gt r5 (Int.tmod r12 (r5.length:Int))) 1))then(if(0:Int)≤(r4.1.fQ.length:Int)∧(r4.1.fQ.length:Int)<(r14.fQ.length:Int)then(bif (((gt r14.fQ (r4.1.fQ.length:Int)).Bk)==0)then some ((r13.Acw.length:Int)==(r4.1.Acw.length:Int))else some false)else none)else some false)else none)else some false)else none)else none)else some false)else none)else some false)else none)else some false)else some false)else some false))else some false))))else none)else none)))))))else some false))))))))))
def Bth:=ct (fd Tryz.func3 ⟨[.v 22],[.v 4],true⟩ (gC (Bxk K) (gC (Brp K) (gC (Brq K) (gC (Brs K) (gC (Bru K) (gC (Br9 K) (gC (Br2 K) (gC (Br3 K) (gC (Bsb K) (gC (Bsc K) (gC (Bsd K) (gC (Btg K) gN)))))))))))) [39,40,41,72,73,75,76,77,83,84,85,91,92,93,100,101,102,109,110,111,125,126,127,136,137,138,145,146,147] [] [(12,[.frz 20896,.frz 20897,.frz 20898,.frz 20899,.frz 20900,.frz 20901])]) (Aw5 K)
end
end Go.Proofs.YtcdojenmonmcfaaGreat
