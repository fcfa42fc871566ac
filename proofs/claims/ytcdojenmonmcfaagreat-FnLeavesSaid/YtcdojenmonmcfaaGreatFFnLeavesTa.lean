/- What the functions compute that FnLeaves reaches, and that they do; no condition. Printed by gen4.py. -/
import Derived.Test.YtcdojenmonmcfaaGreatFSrt
set_option linter.all false
set_option maxRecDepth 20000
namespace Go.Proofs.YtcdojenmonmcfaaGreat
open Go.Eng
noncomputable section
abbrev PT (h:El):Type:=Af tyU h.codes
abbrev Rt (s:Sig):Type:=Option (As tyU s.codes)
def FnP (R:Type):List TC->Type
 |[]=>R
 |c::l=>c.T tyU->FnP R l
noncomputable def unc{R:Type}:(l:List TC)->FnP R l->Af tyU l->R
 |[],f,_=>f
 |_::l,f,q=>unc l (f q.1) q.2
abbrev CT (h:El)(s:Sig):Type:=FnP (Rt s) h.codes
noncomputable abbrev ar{s:Sig}(h:El)(M:CT h s):SS Ak->Rt s:=arr tyU tab h (unc h.codes M)
abbrev OkF (f:FuncId)(c:Fl tyU):Prop:=Fl.Ok tyU Tryz.prog f c∧Ej Tryz.prog f
theorem Bxy:Tryz.prog.follows .mixedOrders=true:=by kernel_rfl
structure FD (f:FuncId)(s:Sig) where
 fn:Func
 hf:Tryz.prog.funcs[f]? =some fn
 G:List (Nat×Fl tyU)
 g: ∀f c,lk G f=some c->OkF f c
 O:List (Nat×List (Nat×Fl tyU))
 o: ∀d l,lk O d=some l-> ∀f c,lk l f=some c->OkF f c
 spl:List Nat
 js:List Nat
 pre:List (Nat×List Cmd)
 post:List (Nat×List Cmd)
noncomputable abbrev fo{f:FuncId}{fn:Func}(hf:Tryz.prog.funcs[f]? =some fn)(s:Sig){G:List (Nat×Fl tyU)}(g: ∀f c,lk G f=some c->OkF f c){O:List (Nat×List (Nat×Fl tyU))}(o: ∀d l,lk O d=some l-> ∀f c,lk l f=some c->OkF f c)(spl:List Nat:=[])(js:List Nat:=[])(pre:List (Nat×List Cmd):=[])(post:List (Nat×List Cmd):=[]):FD f s:=⟨fn,hf,G,g,O,o,spl,js,pre,post⟩
noncomputable abbrev fd{f:FuncId}{fn:Func}(hf:Tryz.prog.funcs[f]? =some fn)(s:Sig){G:List (Nat×Fl tyU)}(g: ∀f c,lk G f=some c->OkF f c)(spl:List Nat:=[])(js:List Nat:=[])(pre:List (Nat×List Cmd):=[])(post:List (Nat×List Cmd):=[]):FD f s:=⟨fn,hf,G,g,[],oN,spl,js,pre,post⟩
section
variable {f:FuncId} {s:Sig}
noncomputable abbrev FD.b (X:FD f s):Code:=X.fn.body.getD .skip
noncomputable def FD.x (X:FD f s)(L B:Λt tyU s):Ox tyU (As tyU s.codes):=⟨X.G,X.O,eqT eqs,X.fn.ntmps,X.spl,X.pre,X.post,X.js,L,B,Afl tyU tab s X.fn.results.toList⟩
abbrev CuX (X:FD f s):Λt tyU s->Nat->(SS Ak->Rt s)->Prop:=Cut tyU tab Tryz.prog X.fn.results.toList s X.fn.ntmps X.js X.b
abbrev CsX (X:FD f s):Λt tyU s->Λt tyU s->Prop:=Vr tyU tab Tryz.prog X.fn.results.toList s X.fn.ntmps X.js X.b
theorem xo (X:FD f s):XOk tyU tab Tryz.prog X.fn.results.toList s X.fn.ntmps X.js X.x:=xok Aqm Bxy X.g X.o Apl
theorem lp (X:FD f s)(p:Nat)(h:El)(B:Λt tyU s)(M:Nat->CT h s){L:Nat->Λt tyU s}(hc: ∀n,CsX X ((p,ar h (M n))::B) (L n))(e: ∀n q,unc h.codes (M (n+1)) q=Afj tyU tab (X.x (L n) ((p,ar h (M n))::B)) X.b (2*p) (h.emb tyU q):=by intro n q;kernel_rfl)(hp:Nat.ble 1 p=true:=by rfl)(hk:Sz X.js X.b p=true:=by kernel_rfl)(e0: ∀q,unc h.codes (M 0) q=none:=by intro q;rfl)(n:Nat):CuX X B p (ar h (M n)):=Aml (M:=fun n=>unc h.codes (M n)) (xo X) hp hk e0 e hc n
theorem jn (X:FD f s)(p:Nat)(h:El)(B:Λt tyU s)(M:CT h s){L:Λt tyU s}(hc:CsX X B L)(e: ∀q,unc h.codes M q=Afj tyU tab (X.x L B) X.b (2*p+1) (h.emb tyU q):=by intro q;kernel_rfl)(hp:Nat.ble 1 p=true:=by rfl):CuX X B p (ar h M):=Amk (xo X) hp e hc
theorem up{X:FD f s}{B:Λt tyU s}{p x:Nat}{F G:SS Ak->Rt s}(h:CuX X B p F)(hn:Amm X.js X.b p x=true:=by kernel_rfl):CuX X ((x,G)::B) p F:=Aoy hn h
theorem ct (X:FD f s)(m:Wh tyU s.ps (Rt s)){L:Λt tyU s}(hc:CsX X [] L:=by exact kN)(e:Ux tyU tab (X.x L []) X.b s.ps 0 [] [] m:=by(repeat intro _);show @Eq _ _ _;kernel_rfl)(hs:W9 tyU s.ps:=by(repeat (refine⟨fun _=>rfl,?_⟩));exact trivial)(h1:(X.fn.name== "runtime.NumGoroutine")=false:=by rfl)(h2:X.fn.body=some X.b:=by rfl)(h5:Nat.ble s.ps.length X.fn.ntmps=true:=by rfl)(h6:Nat.ble (Bc s.ps+1) 100=true:=by rfl)(h7:Nat.ble X.fn.results.toList.length 4=true:=by rfl):OkF f ⟨s,m⟩:=Aox (xo X) Apk e hc X.hf h1 h2 (Array.toArray_toList).symm rfl h5 h6 h7 hs
end
variable (K:Nat)
def A4a (K:Nat)(a0:List Int):Option (Bool):=some (decide ((a0.length:Int)>1048576))
def Bx0:=ct (fd Tryz.func8 ⟨[.v 22],[.v 4],true⟩ gN) (A4a K)
def Avc (K:Nat)(a0:List Int):Nat->Int->Int->Option (D1)
 |0,_,_=>none
 |n1+1,v1,v2=>(bif (decide (v2<(a0.length:Int)))then(bif (decide (v2<4000))then(if(0:Int)≤v2∧v2<(a0.length:Int)then(Avc K a0 n1 (Aoa .i64 (An7 .i64 (An7 .i64 (An9 .i64 v1 137) (IntKind.i64.wrap (gt a0 v2))) 11) 1073741823) (An7 .i64 v2 1))else none)else some (D1.mk a0 0 v1))else some (D1.mk a0 0 v1))
def Ax1 (K:Nat)(a0:List Int):Option (D1):=(Avc K a0 K (An7 .i64 161416 (a0.length:Int)) 0)
def X_1:=fd Tryz.func67 ⟨[.v 22],[.p 148 false],false⟩ gN [11,12]
def h_0:El:=⟨[(0,.v 22),(3,.v 2),(4,.v 2)],[]⟩
def Bqx:=lp X_1 58 h_0 [] (fun n a=>Avc K a n) (fun n=>kN)
def Bur:=ct X_1 (Ax1 K) (kC (Bqx K K) kN)
def Awx (K:Nat)(v1:Int)(v2:List Int)(v3:Int)(v4:Int):Option (Int×D1):=some (v1,(D1.mk v2 v3 v4))
def Aq8 (K:Nat)(a0:D1):Option (Int×D1):=(if(0:Int)≤33 then(if(0:Int)≤47 then(bif (decide (a0.fi<(a0.fb.length:Int)))then(if(0:Int)≤a0.fi∧a0.fi<(a0.fb.length:Int)then(Awx K (Aoa .i64 (An7 .i64 (Aoa .i64 (Aob .i64 (Alo .i64 (An7 .i64 (An9 .i64 a0.fh 6364136223846793005) 1442695040888963407) 33) (Alo .i64 (An7 .i64 (An9 .i64 a0.fh 6364136223846793005) 1442695040888963407) 47)) 255) (IntKind.i64.wrap (gt a0.fb a0.fi))) 255) a0.fb (An7 .i64 a0.fi 1) (An7 .i64 (An9 .i64 a0.fh 6364136223846793005) 1442695040888963407))else none)else(Awx K (Aoa .i64 (Aob .i64 (Alo .i64 (An7 .i64 (An9 .i64 a0.fh 6364136223846793005) 1442695040888963407) 33) (Alo .i64 (An7 .i64 (An9 .i64 a0.fh 6364136223846793005) 1442695040888963407) 47)) 255) a0.fb a0.fi (An7 .i64 (An9 .i64 a0.fh 6364136223846793005) 1442695040888963407)))else none)else none)
def X_2:=fd Tryz.func148 ⟨[.b 148 false],[.v 3],false⟩ gN [] [15]
def h_1:El:=⟨[(3,.v 2)],[(1,.box [.v 22,.v 2,.v 2])]⟩
def Bqy:=jn X_2 15 h_1 [] (Awx K) kN
def Bus:=ct X_2 (Aq8 K) (kC (Bqy K) kN)
def Ap (K:Nat)(a0:D1)(a1:Int):Option (Int×D1):=(bif (decide (a1≤0))then some (0,a0)else(bif (decide (a1≤256))then((Aq8 K a0).bind fun r1=>(if a1≠(0:Int)then some ((Int.tmod r1.1 a1),r1.2)else none))else((Aq8 K a0).bind fun r2=>((Aq8 K r2.2).bind fun r3=>((Aq8 K r3.2).bind fun r4=>(if a1≠(0:Int)then some ((Int.tmod (An7 .i64 (An7 .i64 (An9 .i64 r2.1 65536) (An9 .i64 r3.1 256)) r4.1) a1),r4.2)else none))))))
def A2z:=ct (fd Tryz.func66 ⟨[.b 148 false,.v 3],[.v 3],false⟩ (gC (Bus K) gN)) (Ap K)
def Wy (K:Nat)(a0:D1)(a1:List Int):Option (Int×D1×(List Int)):=((Ap K a0 (a1.length:Int)).bind fun r1=>(if(0:Int)≤r1.1∧r1.1<(a1.length:Int)then some ((gt a1 r1.1),r1.2,a1)else none))
def Ba0:=ct (fd Tryz.func132 ⟨[.b 148 false,.w 26 true [(3,true)]],[.v 3],false⟩ (gC (A2z K) gN)) (Wy K)
def Awi (K:Nat)(a0:D1):Option (Eb×D1):=((Ap K a0 11).bind fun r1=>((Wy K r1.2 ([8,8,9,12,16]:List Int)).bind fun r2=>(if r2.2.2.length=([8,8,9,12,16]:List Int).length then((Ap K r2.2.1 7).bind fun r3=>((Ap K r3.2 6).bind fun r4=>((Wy K r4.2 ([1,3,4,8,16]:List Int)).bind fun r5=>(if r5.2.2.length=([1,3,4,8,16]:List Int).length then((Ap K r5.2.1 4).bind fun r6=>some ((Eb.mk (An7 .i64 2 r1.1) r2.1 (An7 .i64 2 r3.1) (An7 .i64 1 r4.1) r5.1 (An7 .i64 1 r6.1)),r6.2))else none))))else none)))
def But:=ct (fd Tryz.func181 ⟨[.b 148 false],[.v 25],false⟩ (gC (A2z K) (gC (Ba0 K) gN))) (Awi K)
def Gy (K:Nat)(a0:Int)(a1:Int)(a2:Int):Option (Bool):=(bif (decide (a0≥a1))then some (decide (a0≤a2))else some false)
def A1i:=ct (fd Tryz.func106 ⟨[.v 3,.v 3,.v 3],[.v 4],true⟩ gN [9,10]) (Gy K)
def Anx (K:Nat)(a0:Eb):Option (Bool):=((Gy K a0.Az 2 12).bind fun r1=>(bif r1 then((Gy K a0.Hi 8 16).bind fun r2=>(bif r2 then((Gy K a0.Fb 2 8).bind fun r3=>(bif r3 then((Gy K a0.G8 1 8).bind fun r4=>(bif r4 then((Gy K a0.Fc 1 16).bind fun r5=>(bif r5 then((Gy K a0.Hj 1 4).bind fun r6=>some r6)else some false))else some false))else some false))else some false))else some false))
def Ba1:=ct (fd Tryz.func95 ⟨[.v 25],[.v 4],true⟩ (gC (A1i K) gN) [5,6,9,10,11,14,15,16,19,20,21,24,25,26]) (Anx K)
def Arj (K:Nat)(a0:Eb):Option (Int):=((Anx K a0).bind fun r1=>(bif (!r1)then some 0 else some (An9 .i64 a0.Az a0.Hi)))
def Bms:=ct (fd Tryz.func190 ⟨[.v 25],[.v 3],true⟩ (gC (Ba1 K) gN)) (Arj K)
def A2e (K:Nat)(a0:Int):Option ((List Int)):=((Gy K a0 0 4096).bind fun r1=>(bif (!r1)then some ([]:List Int)else(if(0:Int)≤a0∧a0≤a0∧(1:Int)*a0≤281474976710656∧a0≤9223372036854775807 then some (List.replicate a0.toNat 0)else none)))
def Bx1:=ct (fd Tryz.func189 ⟨[.v 3],[.n 22 true],true⟩ (gC (A1i K) gN)) (A2e K)
def Asr (K:Nat)(a0:Eb):Nat->Int->Dp->Dp->Option (Dp)
 |0,_,_,_=>none
 |n1+1,v4,v5,v6=>(bif (decide (v4<a0.Az))then(if(v5.Vt++([0]:List Int)).length*8≤140737488355328∧(v5.Vt++([0]:List Int)).length≤maxLen then(if(v5.Pn++([(-1)]:List Int)).length*8≤140737488355328∧(v5.Pn++([(-1)]:List Int)).length≤maxLen then(Asr K a0 n1 (An7 .i64 v4 1) (Dp.mk v5.Pm (v5.Vt++([0]:List Int)) (v5.Pn++([(-1)]:List Int))) v6)else none)else none)else some v5)
def Ax2 (K:Nat)(a0:Eb):Option (Dp):=((Anx K a0).bind fun r1=>(bif (!r1)then some (Dp.mk [] [] [])else((Arj K a0).bind fun r2=>((A2e K r2).bind fun r3=>(Asr K a0 K 0 (Dp.mk r3 [] []) (Dp.mk [] [] []))))))
def Buu:=fd Tryz.func96 ⟨[.v 25],[.n 28 true],true⟩ (gC (Ba1 K) (gC (Bx1 K) (gC (Bms K) gN))) [] [] [(3,[.take 103 0 6648,.take 103 1 6649,.take 103 2 6650]),(8,[.take 103 1 6649]),(9,[.take 103 2 6650]),(10,[.take 103 0 6648,.take 103 1 6649,.take 103 2 6650])]
def h_2:El:=⟨[(1,.p 101),(2,.p 102),(3,.p 103),(4,.v 2)],[(103,.st 28 true),(102,.st 28 true),(101,.st 25 true)]⟩
def Bhq:=lp (Buu K) 250 h_2 [] (fun n a b c d=>Asr K d n a b c) (fun n=>kN)
def Buv:=ct (Buu K) (Ax2 K) (kC (Bhq K K) kN)
def Al1 (K:Nat)(a0:Int):Option (Au):=some (Au.mk 0 a0 0 0 0 0 0 0 [] 0 0 [] [])
def Ba2:=ct (fd Tryz.func191 ⟨[.v 3],[.n 50 false],true⟩ gN) (Al1 K)
def Ar5 (K:Nat)(a0:Eb):Nat->(List Au)->Int->Option ((List Au))
 |0,_,_=>none
 |n1+1,v1,v2=>(bif (decide (v2<a0.Fb))then((Anx K a0).bind fun r3=>(bif r3 then((Al1 K 1).bind fun r4=>(if(v1++[r4]).length*152≤140737488355328∧(v1++[r4]).length≤maxLen then(Ar5 K a0 n1 (v1++[r4]) (An7 .i64 v2 1))else none))else some v1))else some v1)
def Az2 (K:Nat)(a0:Eb):Option ((List Au)):=(Ar5 K a0 K ([]:List Au) 0)
def Buw:=fd Tryz.func97 ⟨[.v 25],[.n 29 true],false⟩ (gC (Ba1 K) (gC (Ba2 K) gN)) [9,10] [] [] [(18,[.put 3018])]
def h_3:El:=⟨[(1,.p 101),(3,.o 1003 50 true),(4,.v 2)],[(101,.st 25 true)]⟩
def Bmt:=lp (Buw K) 58 h_3 [] (fun n a b c=>Ar5 K c n a b) (fun n=>kN)
def Bux:=ct (Buw K) (Az2 K) (kC (Bmt K K) kN)
def Awy (K:Nat)(a0:Eb):Option (C8):=((Anx K a0).bind fun r1=>(bif (!r1)then some (C8.mk (Eb.mk 0 0 0 0 0 0) (Dp.mk [] [] []) [] [] [])else((Ax2 K a0).bind fun r2=>((Az2 K a0).bind fun r3=>some (C8.mk a0 r2 r3 [] [])))))
def Buy:=ct (fd Tryz.func25 ⟨[.v 25],[.n 32 true],false⟩ (gC (Ba1 K) (gC (Buv K) (gC (Bux K) gN)))) (Awy K)
def Aeq (K:Nat)(a0:List Au)(a1:Int):Option (Bool):=(bif (decide (a1≥1))then some (decide (a1≤(a0.length:Int)))else some false)
def A5x:=ct (fd Tryz.func213 ⟨[.v 29,.v 3],[.v 4],true⟩ gN [6,7]) (Aeq K)
def Awj (K:Nat)(a0:List Au):Nat->Int->(List Int)->Option ((List Int))
 |0,_,_=>none
 |n1+1,v1,v2=>((Aeq K a0 (An7 .i64 v1 1)).bind fun r3=>(bif r3 then(bif (decide ((v2.length:Int)<(a0.length:Int)))then(if(v2++([v1]:List Int)).length*8≤140737488355328∧(v2++([v1]:List Int)).length≤maxLen then(if(0:Int)≤v1∧v1<(a0.length:Int)then(Awj K a0 n1 (An8 .i64 ((gt a0 v1).fUp) 1) (v2++([v1]:List Int)))else none)else none)else some v2)else some v2))
def Axv (K:Nat)(a0:List Au)(a1:Int):Option ((List Int)):=(Awj K a0 K a1 ([]:List Int))
def Buz:=fd Tryz.func123 ⟨[.v 29,.v 3],[.n 26 true],true⟩ (gC (A5x K) gN) [10,11]
def h_4:El:=⟨[(0,.v 29),(1,.v 2),(5,.o 1005 3 true)],[]⟩
def Bmu:=lp (Buz K) 28 h_4 [] (fun n a=>Awj K a n) (fun n=>kN)
def Bhr:=ct (Buz K) (Axv K) (kC (Bmu K K) kN)
def Ar6 (K:Nat)(a0:List Au)(a1:Int):Option (Bool):=(if(0:Int)≤a1∧a1<(a0.length:Int)then((Aeq K a0 ((gt a0 a1).fUp)).bind fun r1=>(bif r1 then(if(0:Int)≤(An8 .i64 ((gt a0 a1).fUp) 1)∧(An8 .i64 ((gt a0 a1).fUp) 1)<(a0.length:Int)then(bif (((gt a0 (An8 .i64 ((gt a0 a1).fUp) 1)).Vt)==1)then(if(0:Int)≤(An8 .i64 ((gt a0 a1).fUp) 1)∧(An8 .i64 ((gt a0 a1).fUp) 1)<(a0.length:Int)then(if(0:Int)≤a1∧a1<(a0.length:Int)then some (((gt a0 (An8 .i64 ((gt a0 a1).fUp) 1)).S5)==((gt a0 a1).S6))else none)else none)else some false)else none)else some false))else none)
def Bhs:=ct (fd Tryz.func206 ⟨[.v 29,.v 3],[.v 4],true⟩ (gC (A5x K) gN) [13,14,21,22,23]) (Ar6 K)
def Ax3 (K:Nat)(v2:Int)(C1:Int->Option (Bool)):Option (Bool):=(C1 (An7 .i64 v2 1))
def Ass (K:Nat)(a0:List Au)(r1:(List Int)):Nat->Int->Option (Bool)
 |0,_=>none
 |n1+1,v2=>(bif (decide (v2<(r1.length:Int)))then(if(0:Int)≤v2∧v2<(r1.length:Int)then(if(0:Int)≤(gt r1 v2)∧(gt r1 v2)<(a0.length:Int)then(bif (((gt a0 (gt r1 v2)).Vt) != 1)then some false else(bif (decide ((An7 .i64 v2 1)<(r1.length:Int)))then(if(0:Int)≤v2∧v2<(r1.length:Int)then((Ar6 K a0 (gt r1 v2)).bind fun r3=>(bif (!r3)then some false else(Ax3 K v2 (Ass K a0 r1 n1))))else none)else(Ax3 K v2 (Ass K a0 r1 n1))))else none)else none)else(bif (decide ((r1.length:Int)>0))then(if(0:Int)≤(An8 .i64 (r1.length:Int) 1)∧(An8 .i64 (r1.length:Int) 1)<(r1.length:Int)then(if(0:Int)≤(gt r1 (An8 .i64 (r1.length:Int) 1))∧(gt r1 (An8 .i64 (r1.length:Int) 1))<(a0.length:Int)then some (((gt a0 (gt r1 (An8 .i64 (r1.length:Int) 1))).fUp)==0)else none)else none)else some false))
def Av0 (K:Nat)(a0:List Au)(a1:Int):Option (Bool):=((Axv K a0 a1).bind fun r1=>(Ass K a0 r1 K 0))
def Bqz:=fd Tryz.func113 ⟨[.v 29,.v 3],[.v 4],true⟩ (gC (Bhr K) (gC (Bhs K) gN)) [24,25,30,31,43,44] [233]
def h_5:El:=⟨[(0,.v 29),(5,.v 26),(6,.v 2)],[]⟩
def Bht:=fun(C58:CT h_5 _)=>jn (Bqz K) 233 h_5 [(58,ar h_5 C58)] (fun a b c=>Ax3 K c (C58 a b)) kN
def Bmv:=lp (Bqz K) 58 h_5 [] (fun n a b=>Ass K a b n) (fun n=>(kC (Bht K _) kN))
def Bhu:=ct (Bqz K) (Av0 K) (kC (Bmv K K) kN)
def Ast (K:Nat)(v2:Int)(v3:Int)(v4:Int)(v5:Int)(v6:Int)(v7:Int)(v8:Int)(v9:List Int)(v10:List Int)(v11:List Int)(v12:List Au)(v13:List A1)(v14:List Int)(C1:(List Int)->Int->Int->Int->Int->Int->Int->Int->(List Int)->(List Int)->(List Int)->(List Au)->(List A1)->(List Int)->Option ((List Int)))(v16:List Int):Option ((List Int)):=(C1 v16 (An7 .i64 v2 1) v3 v4 v5 v6 v7 v8 v9 v10 v11 v12 v13 v14)
def Ard (K:Nat):Nat->(List Int)->Int->Int->Int->Int->Int->Int->Int->(List Int)->(List Int)->(List Int)->(List Au)->(List A1)->(List Int)->Option ((List Int))
 |0,_,_,_,_,_,_,_,_,_,_,_,_,_,_=>none
 |n1+1,v1,v2,v3,v4,v5,v6,v7,v8,v9,v10,v11,v12,v13,v14=>(bif (decide (v2<(v12.length:Int)))then((Av0 K v12 v2).bind fun r15=>(bif r15 then(if(v1++([v2]:List Int)).length*8≤140737488355328∧(v1++([v2]:List Int)).length≤maxLen then(Ast K v2 v3 v4 v5 v6 v7 v8 v9 v10 v11 v12 v13 v14 (Ard K n1) (v1++([v2]:List Int)))else none)else(Ast K v2 v3 v4 v5 v6 v7 v8 v9 v10 v11 v12 v13 v14 (Ard K n1) v1)))else some v1)
def Ax4 (K:Nat)(a0:C8):Option ((List Int)):=(Ard K K ([]:List Int) 0 a0.fC.Az a0.fC.Hi a0.fC.Fb a0.fC.G8 a0.fC.Fc a0.fC.Hj a0.fP.Pm a0.fP.Vt a0.fP.Pn a0.fL a0.fQ a0.Adf)
def Bq0:=fd Tryz.func31 ⟨[.v 32],[.n 26 true],true⟩ (gC (Bhu K) gN) [] [233]
def h_6:El:=⟨[(1,.p 101),(3,.o 1003 3 true),(4,.v 2)],[(101,.box [.v 2,.v 2,.v 2,.v 2,.v 2,.v 2,.v 22,.v 26,.v 26,.v 29,.v 30,.v 26])]⟩
def Bhv:=fun(C58:CT h_6 _)=>jn (Bq0 K) 233 h_6 [(58,ar h_6 C58)] (fun a b c d e f g h i j k l m o=>Ast K b c d e f g h i j k l m o C58 a) kN
def Bmw:=lp (Bq0 K) 58 h_6 [] (Ard K) (fun n=>(kC (Bhv K _) kN))
def Bo8:=ct (Bq0 K) (Ax4 K) (kC (Bmw K K) kN)
def Anz (K:Nat)(a0:D1)(a1:Int):Option (Bool×D1):=((Ap K a0 a1).bind fun r1=>some ((r1.1==0),r1.2))
def Ba3:=ct (fd Tryz.func150 ⟨[.b 148 false,.v 3],[.v 4],false⟩ (gC (A2z K) gN)) (Anz K)
def Awz (K:Nat)(a0:D1):Option (An×D1):=((Ap K a0 5).bind fun r1=>((Ap K r1.2 3).bind fun r2=>some ((An.mk r1.1 (An7 .i64 1 r2.1)),r2.2)))
def Bu0:=ct (fd Tryz.func231 ⟨[.b 148 false],[.v 36],false⟩ (gC (A2z K) gN)) (Awz K)
def Asu (K:Nat)(a1:Int):Nat->(List Int)->Int->(List Int)->Int->Int->Option ((List Int)×D1)
 |0,_,_,_,_,_=>none
 |n1+1,v1,v2,v3,v4,v5=>(bif (decide (v2<a1))then((Aq8 K (D1.mk v3 v4 v5)).bind fun r6=>(if(v1++([(IntKind.u8.wrap r6.1)]:List Int)).length*1≤140737488355328∧(v1++([(IntKind.u8.wrap r6.1)]:List Int)).length≤maxLen then(Asu K a1 n1 (v1++([(IntKind.u8.wrap r6.1)]:List Int)) (An7 .i64 v2 1) r6.2.fb r6.2.fi r6.2.fh)else none))else some (v1,(D1.mk v3 v4 v5)))
def Ax5 (K:Nat)(a0:D1)(a1:Int):Option ((List Int)×D1):=(Asu K a1 K ([]:List Int) 0 a0.fb a0.fi a0.fh)
def Bu1:=fd Tryz.func141 ⟨[.b 148 false,.v 3],[.n 22 true],false⟩ (gC (Bus K) gN)
def h_7:El:=⟨[(0,.p 1),(1,.v 2),(5,.o 1005 5 true),(6,.v 2)],[(1,.box [.v 22,.v 2,.v 2])]⟩
def Bmx:=lp (Bu1 K) 58 h_7 [] (fun n a=>Asu K a n) (fun n=>kN)
def Bo9:=ct (Bu1 K) (Ax5 K) (kC (Bmx K K) kN)
def Anf (K:Nat)(v6:List Int)(v7:Int)(v8:Int)(v9:Ct)(v10:Ct):Option (Ct×D1):=some (v9,(D1.mk v6 v7 v8))
def Are (K:Nat)(v11:Int)(v12:Bool)(v13:List Int)(v14:Int)(v15:Int)(v16:Bq)(v17:An)(v18:Ct)(v19:Ct):Option (Ct×D1):=(bif v12 then(Anf K v13 v14 v15 (Ct.mk v18.Xb v17 v18.fR v18.fN v18.fM v18.fB) v19)else(bif (v11==2)then((Wy K (D1.mk v13 v14 v15) ([1,2,3,5,8,9,17,20,0,201]:List Int)).bind fun r20=>(if r20.2.2.length=([1,2,3,5,8,9,17,20,0,201]:List Int).length then((Wy K r20.2.1 ([1,1,2,4,3]:List Int)).bind fun r21=>(if r21.2.2.length=([1,1,2,4,3]:List Int).length then(Anf K r21.2.1.fb r21.2.1.fi r21.2.1.fh (Ct.mk v18.Xb v17 v18.fR r20.1 r21.1 v18.fB) v19)else none))else none))else(bif (v11==3)then((Ap K (D1.mk v13 v14 v15) 4).bind fun r22=>((Ap K r22.2 5).bind fun r23=>(Anf K r23.2.fb r23.2.fi r23.2.fh (Ct.mk v18.Xb v18.fH v16 r22.1 r23.1 v18.fB) v19)))else(bif (v11==4)then((Ap K (D1.mk v13 v14 v15) 4).bind fun r24=>((Ap K r24.2 4).bind fun r25=>((Ax5 K r25.2 r25.1).bind fun r26=>(Anf K r26.2.fb r26.2.fi r26.2.fh (Ct.mk v18.Xb v18.fH v16 r24.1 v18.fM r26.1) v19))))else(bif (v11==5)then((Wy K (D1.mk v13 v14 v15) ([1,7,255,256]:List Int)).bind fun r27=>(if r27.2.2.length=([1,7,255,256]:List Int).length then(Anf K r27.2.1.fb r27.2.1.fi r27.2.1.fh (Ct.mk v18.Xb v17 v18.fR r27.1 v18.fM v18.fB) v19)else none))else(Anf K v13 v14 v15 v18 v19))))))
def Avd (K:Nat)(a0:D1):Option (Ct×D1):=((Ap K a0 9).bind fun r1=>((Awz K r1.2).bind fun r2=>((Ap K r2.2 2).bind fun r3=>((Ap K r3.2 3).bind fun r4=>(bif ((An7 .i64 1 r1.1)==1)then((Anz K r4.2 2).bind fun r5=>(bif r5.1 then(Anf K r5.2.fb r5.2.fi r5.2.fh (Ct.mk (An7 .i64 1 r1.1) r2.1 (Bq.mk (An.mk 0 0) 0 0) 0 0 []) (Ct.mk 0 (An.mk 0 0) (Bq.mk (An.mk 0 0) 0 0) 0 0 []))else(Anf K r5.2.fb r5.2.fi r5.2.fh (Ct.mk (An7 .i64 1 r1.1) (An.mk 0 0) (Bq.mk (An.mk 0 0) 0 0) 0 0 []) (Ct.mk 0 (An.mk 0 0) (Bq.mk (An.mk 0 0) 0 0) 0 0 []))))else(bif ((An7 .i64 1 r1.1)==6)then(Are K (An7 .i64 1 r1.1) ((An7 .i64 1 r1.1)==6) r4.2.fb r4.2.fi r4.2.fh (Bq.mk r2.1 r3.1 r4.1) r2.1 (Ct.mk (An7 .i64 1 r1.1) (An.mk 0 0) (Bq.mk (An.mk 0 0) 0 0) 0 0 []) (Ct.mk 0 (An.mk 0 0) (Bq.mk (An.mk 0 0) 0 0) 0 0 []))else(bif ((An7 .i64 1 r1.1)==7)then(Are K (An7 .i64 1 r1.1) ((An7 .i64 1 r1.1)==7) r4.2.fb r4.2.fi r4.2.fh (Bq.mk r2.1 r3.1 r4.1) r2.1 (Ct.mk (An7 .i64 1 r1.1) (An.mk 0 0) (Bq.mk (An.mk 0 0) 0 0) 0 0 []) (Ct.mk 0 (An.mk 0 0) (Bq.mk (An.mk 0 0) 0 0) 0 0 []))else(Are K (An7 .i64 1 r1.1) ((An7 .i64 1 r1.1)==8) r4.2.fb r4.2.fi r4.2.fh (Bq.mk r2.1 r3.1 r4.1) r2.1 (Ct.mk (An7 .i64 1 r1.1) (An.mk 0 0) (Bq.mk (An.mk 0 0) 0 0) 0 0 []) (Ct.mk 0 (An.mk 0 0) (Bq.mk (An.mk 0 0) 0 0) 0 0 [])))))))))
def Bq1:=fd Tryz.func151 ⟨[.b 148 false],[.n 40 true],false⟩ (gC (A2z K) (gC (Ba0 K) (gC (Bo9 K) (gC (Ba3 K) (gC (Bu0 K) gN))))) [] [31,1003] [(27,[.take 103 9 6657])]
def h_8:El:=⟨[(2,.p 102),(3,.p 103)],[(1,.box [.v 22,.v 2,.v 2]),(103,.st 40 true),(102,.st 40 true)]⟩
def h_9:El:=⟨[(0,.p 1),(2,.p 102),(3,.p 103),(4,.p 104),(5,.p 105),(19,.v 2),(26,.v 4)],[(1,.box [.v 22,.v 2,.v 2]),(105,.st 38 true),(104,.st 36 true),(103,.st 40 true),(102,.st 40 true)]⟩
def Bej:=jn (Bq1 K) 31 h_8 [] (Anf K) kN
def Bfo:=jn (Bq1 K) 1003 h_9 [] (Are K) (kC (Bej K) kN)
def Bu2:=ct (Bq1 K) (Avd K) (kC (Bej K) (kC (Bfo K) kN))
def Aub (K:Nat)(a0:List Au)(a1:Int):Option (An):=((Gy K a1 0 (An8 .i64 (a0.length:Int) 1)).bind fun r1=>(bif (!r1)then some (An.mk 0 0)else(if(0:Int)≤a1∧a1<(a0.length:Int)then some (An.mk a1 ((gt a0 a1).Dc))else none)))
def Bpa:=ct (fd Tryz.func152 ⟨[.v 29,.v 3],[.v 36],true⟩ (gC (A1i K) gN)) (Aub K)
def Asv (K:Nat)(r8:An)(v27:List Int)(v28:List Int)(v29:List Int)(v30:List Au)(v31:List A1)(v32:List Int)(v34:Int)(v36:List Int)(v37:Int)(v38:Int)(v47:Bool):Option (Ct×D1×(List Int)×(List Int)×(List Int)×(List Au)×(List A1)×(List Int)):=(bif v47 then((Ap K (D1.mk v36 v37 v38) 256).bind fun r48=>some ((Ct.mk 5 r8 (Bq.mk (An.mk 0 0) 0 0) r48.1 0 []),r48.2,v27,v28,v29,v30,v31,v32))else(bif (v34==13)then some ((Ct.mk 6 r8 (Bq.mk (An.mk 0 0) 0 0) 0 0 []),(D1.mk v36 v37 v38),v27,v28,v29,v30,v31,v32)else(bif (v34==14)then some ((Ct.mk 7 r8 (Bq.mk (An.mk 0 0) 0 0) 0 0 []),(D1.mk v36 v37 v38),v27,v28,v29,v30,v31,v32)else((Anz K (D1.mk v36 v37 v38) 6).bind fun r49=>(bif r49.1 then some ((Ct.mk 9 (An.mk 0 0) (Bq.mk (An.mk 0 0) 0 0) 0 0 []),r49.2,v27,v28,v29,v30,v31,v32)else some ((Ct.mk 8 r8 (Bq.mk (An.mk 0 0) 0 0) 0 0 []),r49.2,v27,v28,v29,v30,v31,v32))))))
def Asw (K:Nat)(r8:An)(v13:Bq)(v27:List Int)(v28:List Int)(v29:List Int)(v30:List Au)(v31:List A1)(v32:List Int)(v34:Int)(v36:List Int)(v37:Int)(v38:Int)(v43:Bool):Option (Ct×D1×(List Int)×(List Int)×(List Int)×(List Au)×(List A1)×(List Int)):=(bif v43 then((Ap K (D1.mk v36 v37 v38) 2).bind fun r44=>((Ax5 K r44.2 (An7 .i64 1 r44.1)).bind fun r45=>some ((Ct.mk 4 (An.mk 0 0) v13 0 0 r45.1),r45.2,v27,v28,v29,v30,v31,v32)))else(bif (v34==10)then((Ap K (D1.mk v36 v37 v38) 3).bind fun r46=>some ((Ct.mk 3 (An.mk 0 0) v13 0 r46.1 []),r46.2,v27,v28,v29,v30,v31,v32))else(bif (v34==11)then(Asv K r8 v27 v28 v29 v30 v31 v32 v34 v36 v37 v38 (v34==11))else(Asv K r8 v27 v28 v29 v30 v31 v32 v34 v36 v37 v38 (v34==12)))))
def Arf (K:Nat)(r8:An)(v13:Bq)(v16:Int)(v27:List Int)(v28:List Int)(v29:List Int)(v30:List Au)(v31:List A1)(v32:List Int)(v34:Int)(v36:List Int)(v37:Int)(v38:Int)(v39:Bool):Option (Ct×D1×(List Int)×(List Int)×(List Int)×(List Au)×(List A1)×(List Int)):=(bif v39 then((Wy K (D1.mk v36 v37 v38) ([1,2,3,4,5,8]:List Int)).bind fun r40=>(if r40.2.2.length=([1,2,3,4,5,8]:List Int).length then((Wy K r40.2.1 ([1,1,2,4]:List Int)).bind fun r41=>(if r41.2.2.length=([1,1,2,4]:List Int).length then some ((Ct.mk 2 r8 (Bq.mk (An.mk 0 0) 0 0) r40.1 r41.1 []),r41.2.1,v27,v28,v29,v30,v31,v32)else none))else none))else(bif (v34==7)then((Ap K (D1.mk v36 v37 v38) v16).bind fun r42=>some ((Ct.mk 2 r8 (Bq.mk (An.mk 0 0) 0 0) (An7 .i64 (An7 .i64 v16 1) r42.1) 1 []),r42.2,v27,v28,v29,v30,v31,v32))else(bif (v34==8)then(Asw K r8 v13 v27 v28 v29 v30 v31 v32 v34 v36 v37 v38 (v34==8))else(Asw K r8 v13 v27 v28 v29 v30 v31 v32 v34 v36 v37 v38 (v34==9)))))
def Arg (K:Nat)(r8:An)(v13:Bq)(v16:Int)(v27:List Int)(v28:List Int)(v29:List Int)(v30:List Au)(v31:List A1)(v32:List Int)(v34:Int)(v35:Bool)(v36:List Int)(v37:Int)(v38:Int):Option (Ct×D1×(List Int)×(List Int)×(List Int)×(List Au)×(List A1)×(List Int)):=(bif v35 then some ((Ct.mk 1 r8 (Bq.mk (An.mk 0 0) 0 0) 0 0 []),(D1.mk v36 v37 v38),v27,v28,v29,v30,v31,v32)else(bif (v34==3)then some ((Ct.mk 1 (An.mk 0 0) (Bq.mk (An.mk 0 0) 0 0) 0 0 []),(D1.mk v36 v37 v38),v27,v28,v29,v30,v31,v32)else(bif (v34==4)then(Arf K r8 v13 v16 v27 v28 v29 v30 v31 v32 v34 v36 v37 v38 (v34==4))else(bif (v34==5)then(Arf K r8 v13 v16 v27 v28 v29 v30 v31 v32 v34 v36 v37 v38 (v34==5))else(Arf K r8 v13 v16 v27 v28 v29 v30 v31 v32 v34 v36 v37 v38 (v34==6))))))
def Asx (K:Nat)(r8:An)(v10:List Int)(v11:Int)(v12:Int)(v13:Bq)(v14:Ct)(v15:Int)(v16:Int)(v17:Int)(v18:Int)(v19:Int)(v20:Int)(v21:Nat)(v22:Nat)(v23:Nat)(v24:Nat)(v25:Nat)(v26:Nat)(v27:List Int)(v28:List Int)(v29:List Int)(v30:List Au)(v31:List A1)(v32:List Int):Option (Ct×D1×(List Int)×(List Int)×(List Int)×(List Au)×(List A1)×(List Int)):=((Ap K (D1.mk v10 v11 v12) 16).bind fun r33=>(bif (r33.1==0)then(Arg K r8 v13 v16 v27 v28 v29 v30 v31 v32 r33.1 (r33.1==0) r33.2.fb r33.2.fi r33.2.fh)else(bif (r33.1==1)then(Arg K r8 v13 v16 v27 v28 v29 v30 v31 v32 r33.1 (r33.1==1) r33.2.fb r33.2.fi r33.2.fh)else(Arg K r8 v13 v16 v27 v28 v29 v30 v31 v32 r33.1 (r33.1==2) r33.2.fb r33.2.fi r33.2.fh))))
def Ave (K:Nat)(a0:D1)(a1:C8):Option (Ct×D1×(List Int)×(List Int)×(List Int)×(List Au)×(List A1)×(List Int)):=((Ax4 K a1).bind fun r1=>(bif ((r1.length:Int)==0)then((Anz K a0 2).bind fun r2=>(bif r2.1 then some ((Ct.mk 1 (An.mk 0 0) (Bq.mk (An.mk 0 0) 0 0) 0 0 []),r2.2,a1.fP.Pm,a1.fP.Vt,a1.fP.Pn,a1.fL,a1.fQ,a1.Adf)else((Avd K r2.2).bind fun r3=>some (r3.1,r3.2,a1.fP.Pm,a1.fP.Vt,a1.fP.Pn,a1.fL,a1.fQ,a1.Adf))))else((Anz K a0 10).bind fun r4=>(bif r4.1 then((Anz K r4.2 2).bind fun r5=>(bif r5.1 then some ((Ct.mk 1 (An.mk 0 0) (Bq.mk (An.mk 0 0) 0 0) 0 0 []),r5.2,a1.fP.Pm,a1.fP.Vt,a1.fP.Pn,a1.fL,a1.fQ,a1.Adf)else((Avd K r5.2).bind fun r6=>some (r6.1,r6.2,a1.fP.Pm,a1.fP.Vt,a1.fP.Pn,a1.fL,a1.fQ,a1.Adf))))else((Ap K r4.2 (r1.length:Int)).bind fun r7=>(if(0:Int)≤r7.1∧r7.1<(r1.length:Int)then((Aub K a1.fL (gt r1 r7.1)).bind fun r8=>(if(0:Int)≤(gt r1 r7.1)∧(gt r1 r7.1)<(a1.fL.length:Int)then(if(0:Int)≤(gt r1 r7.1)∧(gt r1 r7.1)<(a1.fL.length:Int)then(if(0:Int)≤(gt r1 r7.1)∧(gt r1 r7.1)<(a1.fL.length:Int)then(bif (decide ((((gt a1.fL (gt r1 r7.1)).Ga).length:Int)>0))then(if(0:Int)≤(gt r1 r7.1)∧(gt r1 r7.1)<(a1.fL.length:Int)then((Ap K r7.2 (((gt a1.fL (gt r1 r7.1)).Ga).length:Int)).bind fun r9=>(Asx K r8 r9.2.fb r9.2.fi r9.2.fh (Bq.mk r8 ((gt a1.fL (gt r1 r7.1)).S5) r9.1) (Ct.mk 0 (An.mk 0 0) (Bq.mk (An.mk 0 0) 0 0) 0 0 []) a1.fC.Az a1.fC.Hi a1.fC.Fb a1.fC.G8 a1.fC.Fc a1.fC.Hj a1.fP.Pm.length a1.fP.Vt.length a1.fP.Pn.length a1.fL.length a1.fQ.length a1.Adf.length a1.fP.Pm a1.fP.Vt a1.fP.Pn a1.fL a1.fQ a1.Adf))else none)else(Asx K r8 r7.2.fb r7.2.fi r7.2.fh (Bq.mk r8 ((gt a1.fL (gt r1 r7.1)).S5) 0) (Ct.mk 0 (An.mk 0 0) (Bq.mk (An.mk 0 0) 0 0) 0 0 []) a1.fC.Az a1.fC.Hi a1.fC.Fb a1.fC.G8 a1.fC.Fc a1.fC.Hj a1.fP.Pm.length a1.fP.Vt.length a1.fP.Pn.length a1.fL.length a1.fQ.length a1.Adf.length a1.fP.Pm a1.fP.Vt a1.fP.Pn a1.fL a1.fQ a1.Adf))else none)else none)else none))else none))))))
def Bfp:=fd Tryz.func70 ⟨[.b 148 false,.w 32 false [(5,true),(3,true),(3,true),(50,true),(52,false),(3,true)]],[.n 40 true],false⟩ (gC (Bo8 K) (gC (A2z K) (gC (Ba0 K) (gC (Bo9 K) (gC (Ba3 K) (gC (Bu2 K) (gC (Bpa K) gN))))))) [13,14] [127,2042,32687,523007,8368127] [(9,[.opn 5 (.tmp 6),.takeE 5 11 40331])]
def Bx3:El:=⟨[(0,.p 1),(4,.p 104),(7,.p 107),(61,.v 2),(113,.v 4)],[(1,.box [.v 22,.v 2,.v 2]),(2,.rws 5 true),(3,.rws 3 true),(4,.rws 3 true),(5,.rws 50 true),(6,.rws 52 false),(7,.rws 3 true),(107,.st 36 true),(104,.st 40 true)]⟩
def Bx4:El:=⟨[(0,.p 1),(4,.p 104),(7,.p 107),(8,.p 108),(61,.v 2),(97,.v 4)],[(1,.box [.v 22,.v 2,.v 2]),(2,.rws 5 true),(3,.rws 3 true),(4,.rws 3 true),(5,.rws 50 true),(6,.rws 52 false),(7,.rws 3 true),(108,.st 38 true),(107,.st 36 true),(104,.st 40 true)]⟩
def Bx5:El:=⟨[(0,.p 1),(3,.p 103),(4,.p 104),(7,.p 107),(8,.p 108),(61,.v 2),(71,.v 4)],[(1,.box [.v 22,.v 2,.v 2]),(108,.st 38 true),(107,.st 36 true),(104,.st 40 true),(103,.ob [.v 2,.v 2,.v 2,.v 2,.v 2,.v 2,.O 2,.O 3,.O 4,.O 5,.O 6,.O 7]),(2,.rws 5 true),(3,.rws 3 true),(4,.rws 3 true),(5,.rws 50 true),(6,.rws 52 false),(7,.rws 3 true)]⟩
def Bx6:El:=⟨[(0,.p 1),(3,.p 103),(4,.p 104),(7,.p 107),(8,.p 108),(61,.v 2),(62,.v 4)],[(1,.box [.v 22,.v 2,.v 2]),(108,.st 38 true),(107,.st 36 true),(104,.st 40 true),(103,.ob [.v 2,.v 2,.v 2,.v 2,.v 2,.v 2,.O 2,.O 3,.O 4,.O 5,.O 6,.O 7]),(2,.rws 5 true),(3,.rws 3 true),(4,.rws 3 true),(5,.rws 50 true),(6,.rws 52 false),(7,.rws 3 true)]⟩
def Bx7:El:=⟨[(0,.p 1),(3,.p 103),(4,.p 104),(7,.p 107),(8,.p 108)],[(1,.box [.v 22,.v 2,.v 2]),(108,.st 38 true),(107,.st 36 true),(104,.st 40 true),(103,.ob [.v 2,.v 2,.v 2,.v 2,.v 2,.v 2,.O 2,.O 3,.O 4,.O 5,.O 6,.O 7]),(2,.rws 5 true),(3,.rws 3 true),(4,.rws 3 true),(5,.rws 50 true),(6,.rws 52 false),(7,.rws 3 true)]⟩
def A9h:=jn (Bfp K) 8368127 Bx3 [] (fun a b c d e f g h i j k l _=>Asv K l f g h i j k a c d e b) kN
def Ba4:=jn (Bfp K) 523007 Bx4 [] (fun a b c d e f g h i j k l m _=>Asw K m l f g h i j k a c d e b) (kC (A9h K) kN)
def Bcx:=jn (Bfp K) 32687 Bx5 [] (fun a b c d e f g _ _ j _ _ _ _ _ _ _ _ _ _ v w x y z a1=>Arf K g f j v w x y z a1 a c d e b) (kC (Ba4 K) kN)
def Bfq:=jn (Bfp K) 2042 Bx6 [] (fun a b c d e f g _ _ j _ _ _ _ _ _ _ _ _ _ v w x y z a1=>Arg K g f j v w x y z a1 a b c d e) (kC (Bcx K) kN)
def Bhw:=jn (Bfp K) 127 Bx7 [] (fun a b c d e=>Asx K e a b c d) (kC (Bfq K) kN)
def Bpb:=ct (Bfp K) (Ave K) (kC (Bhw K) kN)
def Auc (K:Nat)(a0:An):Option (Bool):=(bif (decide (a0.Bk≥0))then some (decide (a0.Dc≥1))else some false)
def Bpc:=ct (fd Tryz.func211 ⟨[.v 36],[.v 4],true⟩ gN [5,6]) (Auc K)
def Avf (K:Nat)(a0:List Au)(a1:An):Option (Int):=((Gy K a1.Bk 0 (An8 .i64 (a0.length:Int) 1)).bind fun r1=>(bif r1 then(if(0:Int)≤a1.Bk∧a1.Bk<(a0.length:Int)then(bif (((gt a0 a1.Bk).Vt) != 1)then some (-1)else(if(0:Int)≤a1.Bk∧a1.Bk<(a0.length:Int)then(bif (((gt a0 a1.Bk).Dc) != a1.Dc)then some (-1)else some a1.Bk)else none))else none)else some (-1)))
def Bpd:=ct (fd Tryz.func212 ⟨[.v 29,.v 36],[.v 3],true⟩ (gC (A1i K) gN) [10,11,12,19,20,21]) (Avf K)
def An3 (K:Nat)(a0:C8)(a1:An):Option (Int×Int):=((Auc K a1).bind fun r1=>(bif (!r1)then some ((-1),1)else((Avf K a0.fL a1).bind fun r2=>(bif (decide (r2<0))then some ((-1),2)else((Av0 K a0.fL r2).bind fun r3=>(bif (!r3)then some ((-1),2)else some (r2,0)))))))
def A8u:=ct (fd Tryz.func121 ⟨[.v 32,.v 36],[.v 3,.v 3],true⟩ (gC (Bhu K) (gC (Bpc K) (gC (Bpd K) gN))) [15,16]) (An3 K)
def Az9 (K:Nat)(a0:C8)(a1:An):Option (Int×Int):=(bif ((a1.Bk==0)&&((a1.Dc==0)&&true))then some ((-1),0)else((An3 K a0 a1).bind fun r1=>some (r1.1,r1.2)))
def Bu3:=ct (fd Tryz.func288 ⟨[.v 32,.v 36],[.v 3,.v 3],true⟩ (gC (A8u K) gN)) (Az9 K)
def Awk (K:Nat)(a0:List Au)(a1:Int):Option (Int):=((Axv K a0 a1).bind fun r1=>some (r1.length:Int))
def Bpe:=ct (fd Tryz.func221 ⟨[.v 29,.v 3],[.v 3],true⟩ (gC (Bhr K) gN)) (Awk K)
def Api (K:Nat)(a0:C8)(a1:An):Option (Int):=((Avf K a0.fL a1).bind fun r1=>((Awk K a0.fL r1).bind fun r2=>some r2))
def A6z:=ct (fd Tryz.func133 ⟨[.v 32,.v 36],[.v 3],true⟩ (gC (Bpd K) (gC (Bpe K) gN))) (Api K)
def Anp (K:Nat)(v2:Int)(v3:Int)(v4:Int)(v5:Int)(v6:Int)(v7:Int)(v8:Int)(v9:List Int)(v10:List Int)(v11:List Int)(v12:List Au)(v13:List A1)(v14:List Int)(C1:Int->Int->Int->Int->Int->Int->Int->Int->(List Int)->(List Int)->(List Int)->(List Au)->(List A1)->(List Int)->Option (Int))(v15:Int):Option (Int):=(C1 v15 (An7 .i64 v2 1) v3 v4 v5 v6 v7 v8 v9 v10 v11 v12 v13 v14)
def Ai5 (K:Nat):Nat->Int->Int->Int->Int->Int->Int->Int->Int->(List Int)->(List Int)->(List Int)->(List Au)->(List A1)->(List Int)->Option (Int)
 |0,_,_,_,_,_,_,_,_,_,_,_,_,_,_=>none
 |n1+1,v1,v2,v3,v4,v5,v6,v7,v8,v9,v10,v11,v12,v13,v14=>(bif (decide (v2<(v12.length:Int)))then(if(0:Int)≤v2∧v2<(v12.length:Int)then(bif (((gt v12 v2).Vt)==0)then(Anp K v2 v3 v4 v5 v6 v7 v8 v9 v10 v11 v12 v13 v14 (Ai5 K n1) (An7 .i64 v1 1))else((Av0 K v12 v2).bind fun r16=>(bif r16 then(Anp K v2 v3 v4 v5 v6 v7 v8 v9 v10 v11 v12 v13 v14 (Ai5 K n1) v1)else(if(0:Int)≤v2∧v2<(v12.length:Int)then(bif (((gt v12 v2).Vt) != 3)then(if(0:Int)≤v2∧v2<(v12.length:Int)then(bif (decide (((gt v12 v2).Dc)<v8))then(Anp K v2 v3 v4 v5 v6 v7 v8 v9 v10 v11 v12 v13 v14 (Ai5 K n1) (An7 .i64 v1 1))else(Anp K v2 v3 v4 v5 v6 v7 v8 v9 v10 v11 v12 v13 v14 (Ai5 K n1) v1))else none)else(Anp K v2 v3 v4 v5 v6 v7 v8 v9 v10 v11 v12 v13 v14 (Ai5 K n1) v1))else none))))else none)else some v1)
def Az3 (K:Nat)(a0:C8):Option (Int):=(Ai5 K K 0 0 a0.fC.Az a0.fC.Hi a0.fC.Fb a0.fC.G8 a0.fC.Fc a0.fC.Hj a0.fP.Pm a0.fP.Vt a0.fP.Pn a0.fL a0.fQ a0.Adf)
def Bq2:=fd Tryz.func289 ⟨[.v 32],[.v 3],true⟩ (gC (Bhu K) gN) [18,19,23,24,25,32,33,34] [233]
def Bmy:El:=⟨[(1,.p 101),(3,.v 2),(4,.v 2)],[(101,.box [.v 2,.v 2,.v 2,.v 2,.v 2,.v 2,.v 22,.v 26,.v 26,.v 29,.v 30,.v 26])]⟩
def Bhx:=fun(C58:CT Bmy _)=>jn (Bq2 K) 233 Bmy [(58,ar Bmy C58)] (fun a b c d e f g h i j k l m o=>Anp K b c d e f g h i j k l m o C58 a) kN
def Bmz:=lp (Bq2 K) 58 Bmy [] (Ai5 K) (fun n=>(kC (Bhx K _) kN))
def Bu4:=ct (Bq2 K) (Az3 K) (kC (Bmz K K) kN)
def Asy (K:Nat)(v2:Int)(v3:List Int)(v4:List Int)(v5:List Int)(C1:(List Int)->Int->(List Int)->(List Int)->(List Int)->Option ((List Int)))(v6:List Int):Option ((List Int)):=(C1 v6 (An7 .i64 v2 1) v3 v4 v5)
def Ang (K:Nat)(a1:Int):Nat->(List Int)->Int->(List Int)->(List Int)->(List Int)->Option ((List Int))
 |0,_,_,_,_,_=>none
 |n1+1,v1,v2,v3,v4,v5=>(bif (decide (v2<(v4.length:Int)))then(bif (decide (v2<(v5.length:Int)))then(if(0:Int)≤v2∧v2<(v4.length:Int)then(bif ((gt v4 v2)==1)then(if(0:Int)≤v2∧v2<(v5.length:Int)then(bif ((gt v5 v2)==a1)then(if(v1++([v2]:List Int)).length*8≤140737488355328∧(v1++([v2]:List Int)).length≤maxLen then(Asy K v2 v3 v4 v5 (Ang K a1 n1) (v1++([v2]:List Int)))else none)else(Asy K v2 v3 v4 v5 (Ang K a1 n1) v1))else none)else(Asy K v2 v3 v4 v5 (Ang K a1 n1) v1))else none)else some v1)else some v1)
def Avg (K:Nat)(a0:Dp)(a1:Int):Option ((List Int)):=(Ang K a1 K ([]:List Int) 0 a0.Pm a0.Vt a0.Pn)
def Bq3:=fd Tryz.func115 ⟨[.v 28,.v 3],[.n 26 true],true⟩ gN [12,13,27,28] [233]
def Bm0:El:=⟨[(1,.v 2),(2,.p 102),(5,.o 1005 3 true),(6,.v 2)],[(102,.box [.v 22,.v 26,.v 26])]⟩
def Bhy:=fun(C58:CT Bm0 _)=>jn Bq3 233 Bm0 [(58,ar Bm0 C58)] (fun a b c d e f=>Asy K c d e f (C58 a) b) kN
def Bm1:=lp Bq3 58 Bm0 [] (fun n a=>Ang K a n) (fun n=>(kC (Bhy K _) kN))
def Bpf:=ct Bq3 (Avg K) (kC (Bm1 K K) kN)
def Aqo (K:Nat)(r1:(List Int)):Nat->Int->Int->Int->Int->Int->Int->Int->Int->(List Int)->(List Int)->(List Int)->(List Au)->(List A1)->(List Int)->Option (Int)
 |0,_,_,_,_,_,_,_,_,_,_,_,_,_,_=>none
 |n1+1,v2,v3,v4,v5,v6,v7,v8,v9,v10,v11,v12,v13,v14,v15=>(bif (decide (v3<(r1.length:Int)))then(if(0:Int)≤v3∧v3<(r1.length:Int)then((Avg K (Dp.mk v10 v11 v12) (gt r1 v3)).bind fun r16=>(Aqo K r1 n1 (An7 .i64 v2 (r16.length:Int)) (An7 .i64 v3 1) v4 v5 v6 v7 v8 v9 v10 v11 v12 v13 v14 v15))else none)else some v2)
def Az4 (K:Nat)(a0:C8):Option (Int):=((Ax4 K a0).bind fun r1=>(Aqo K r1 K 0 0 a0.fC.Az a0.fC.Hi a0.fC.Fb a0.fC.G8 a0.fC.Fc a0.fC.Hj a0.fP.Pm a0.fP.Vt a0.fP.Pn a0.fL a0.fQ a0.Adf))
def Bu5:=fd Tryz.func33 ⟨[.v 32],[.v 3],true⟩ (gC (Bo8 K) (gC (Bpf K) gN))
def Bx8:El:=⟨[(1,.p 101),(3,.v 2),(4,.v 26),(5,.v 2)],[(101,.box [.v 2,.v 2,.v 2,.v 2,.v 2,.v 2,.v 22,.v 26,.v 26,.v 29,.v 30,.v 26])]⟩
def Bhz:=lp (Bu5 K) 122 Bx8 [] (fun n a b=>Aqo K b n a) (fun n=>kN)
def Bu6:=ct (Bu5 K) (Az4 K) (kC (Bhz K K) kN)
def Arx (K:Nat)(a0:C8)(a1:Int):Option (Bool):=(bif (decide (a1≥0))then(bif (decide (a1≤a0.fC.Az))then((Az4 K a0).bind fun r1=>some (decide (r1≤(An8 .i64 a0.fC.Az a1))))else some false)else some false)
def Bh0:=ct (fd Tryz.func29 ⟨[.v 32,.v 3],[.v 4],true⟩ (gC (Bu6 K) gN) [6,7,12,13,14]) (Arx K)
def Asn (K:Nat)(v2:Int)(C1:Int->Int->Option (Int))(v3:Int):Option (Int):=(C1 v3 (An7 .i64 v2 1))
def Ald (K:Nat)(a0:List Au)(a1:Int):Nat->Int->Int->Option (Int)
 |0,_,_=>none
 |n1+1,v1,v2=>(bif (decide (v2<(a0.length:Int)))then(if(0:Int)≤v2∧v2<(a0.length:Int)then(bif (((gt a0 v2).Vt)==a1)then(Asn K v2 (Ald K a0 a1 n1) (An7 .i64 v1 1))else(Asn K v2 (Ald K a0 a1 n1) v1))else none)else some v1)
def Aqp (K:Nat)(a0:List Au)(a1:Int):Option (Int):=(Ald K a0 a1 K 0 0)
def Bq4:=fd Tryz.func202 ⟨[.v 29,.v 3],[.v 3],true⟩ gN [] [233]
def Bm2:El:=⟨[(0,.v 29),(1,.v 2),(5,.v 2),(6,.v 2)],[]⟩
def Bh1:=fun(C58:CT Bm2 _)=>jn Bq4 233 Bm2 [(58,ar Bm2 C58)] (fun a b c d=>Asn K d (C58 a b) c) kN
def Bm3:=lp Bq4 58 Bm2 [] (fun n a b=>Ald K a b n) (fun n=>(kC (Bh1 K _) kN))
def Bpg:=ct Bq4 (Aqp K) (kC (Bm3 K K) kN)
def Ary (K:Nat)(a1:Int)(a2:Int):Nat->Int->(List Int)->(List Int)->(List Int)->Option (Bool)
 |0,_,_,_,_=>none
 |n1+1,v1,v2,v3,v4=>(bif (decide (v1<(An7 .i64 a1 a2)))then(if(0:Int)≤v1∧v1<(v3.length:Int)then(bif ((gt v3 v1) != 0)then some false else(Ary K a1 a2 n1 (An7 .i64 v1 1) v2 v3 v4))else none)else some true)
def Awl (K:Nat)(a0:Dp)(a1:Int)(a2:Int):Option (Bool):=(bif (decide (a1<0))then some false else(bif (decide (a2<1))then some false else(bif (decide (a1>(a0.Vt.length:Int)))then some false else(bif (decide (a2>(An8 .i64 (a0.Vt.length:Int) a1)))then some false else(Ary K a1 a2 K a1 a0.Pm a0.Vt a0.Pn)))))
def Bu7:=fd Tryz.func311 ⟨[.v 28,.v 3,.v 3],[.v 4],true⟩ gN [9,10,12,13,14,19,20,21]
def Bx9:El:=⟨[(1,.v 2),(2,.v 2),(3,.p 103),(7,.v 2)],[(103,.box [.v 22,.v 26,.v 26])]⟩
def Bm4:=lp Bu7 58 Bx9 [] (fun n a b=>Ary K a b n) (fun n=>kN)
def Bph:=ct Bu7 (Awl K) (kC (Bm4 K K) kN)
def Ar7 (K:Nat)(a1:Int):Nat->Int->(List Int)->(List Int)->(List Int)->Option (Int)
 |0,_,_,_,_=>none
 |n1+1,v1,v2,v3,v4=>(bif (decide (v1<(v3.length:Int)))then((Awl K (Dp.mk v2 v3 v4) v1 a1).bind fun r5=>(bif r5 then some v1 else(Ar7 K a1 n1 (An7 .i64 v1 1) v2 v3 v4)))else some (-1))
def Aw0 (K:Nat)(a0:Dp)(a1:Int):Option (Int):=(Ar7 K a1 K 0 a0.Pm a0.Vt a0.Pn)
def Bu8:=fd Tryz.func310 ⟨[.v 28,.v 3],[.v 3],true⟩ (gC (Bph K) gN)
def Bya:El:=⟨[(1,.v 2),(2,.p 102),(5,.v 2)],[(102,.box [.v 22,.v 26,.v 26])]⟩
def Bm5:=lp (Bu8 K) 26 Bya [] (fun n a=>Ar7 K a n) (fun n=>kN)
def Bpi:=ct (Bu8 K) (Aw0 K) (kC (Bm5 K K) kN)
def A1w (K:Nat)(a0:A1):Option (Int):=(bif (decide ((a0.Fo.length:Int)>0))then some 1 else(bif (decide ((a0.Az.length:Int)>0))then some 2 else(bif (a0.Eg != 0)then some 3 else some 4)))
def Bu9:=ct (fd Tryz.func249 ⟨[.v 52],[.v 3],true⟩ gN) (A1w K)
def Azf (K:Nat)(a0:C8):Option (C8):=(if(0:Int)≤0∧0<(a0.fQ.length:Int)then(if(0:Int)≤(An8 .i64 (((gt a0.fQ 0).Fo).length:Int) 1)∧(An8 .i64 (((gt a0.fQ 0).Fo).length:Int) 1)<(((gt a0.fQ 0).Fo).length:Int)then(if(a0.Adf++([(gt ((gt a0.fQ 0).Fo) (An8 .i64 (((gt a0.fQ 0).Fo).length:Int) 1))]:List Int)).length*8≤140737488355328∧(a0.Adf++([(gt ((gt a0.fQ 0).Fo) (An8 .i64 (((gt a0.fQ 0).Fo).length:Int) 1))]:List Int)).length≤maxLen then(if(0:Int)≤0∧0≤(An8 .i64 (((gt a0.fQ 0).Fo).length:Int) 1)∧(An8 .i64 (((gt a0.fQ 0).Fo).length:Int) 1)≤(((gt a0.fQ 0).Fo).length:Int)then(if(([]:List Int)++((((gt a0.fQ 0).Fo).drop (0:Int).toNat).take ((An8 .i64 (((gt a0.fQ 0).Fo).length:Int) 1) - 0).toNat)).length*8≤140737488355328∧(([]:List Int)++((((gt a0.fQ 0).Fo).drop (0:Int).toNat).take ((An8 .i64 (((gt a0.fQ 0).Fo).length:Int) 1) - 0).toNat)).length≤maxLen then some (C8.mk a0.fC a0.fP a0.fL (a0.fQ.set (0:Int).toNat (A1.mk ((gt a0.fQ 0).Bk) ((gt a0.fQ 0).Eg) (([]:List Int)++((((gt a0.fQ 0).Fo).drop (0:Int).toNat).take ((An8 .i64 (((gt a0.fQ 0).Fo).length:Int) 1) - 0).toNat)) ((gt a0.fQ 0).Az) ((gt a0.fQ 0).Xa))) (a0.Adf++([(gt ((gt a0.fQ 0).Fo) (An8 .i64 (((gt a0.fQ 0).Fo).length:Int) 1))]:List Int)))else none)else none)else none)else none)else none)
def Bva:=ct (fd Tryz.func250 ⟨[.b 32 false],[],false⟩ gN [] [] [(0,[.take 1 10 5026]),(2,[.take 1 11 5027])]) (Azf K)
def Aq9 (K:Nat)(a0:Dp):Option (Dp):=(if(([]:List Int)++a0.Pm).length*1≤140737488355328∧(([]:List Int)++a0.Pm).length≤maxLen then(if(([]:List Int)++a0.Vt).length*8≤140737488355328∧(([]:List Int)++a0.Vt).length≤maxLen then(if(([]:List Int)++a0.Pn).length*8≤140737488355328∧(([]:List Int)++a0.Pn).length≤maxLen then some (Dp.mk (([]:List Int)++a0.Pm) (([]:List Int)++a0.Vt) (([]:List Int)++a0.Pn))else none)else none)else none)
def Bek:=ct (fd Tryz.func157 ⟨[.v 28],[.n 28 true],true⟩ gN) (Aq9 K)
def Arz (K:Nat)(a0:List Int):Nat->Int->Option (Bool)
 |0,_=>none
 |n1+1,v1=>(bif (decide (v1<(a0.length:Int)))then(if(0:Int)≤v1∧v1<(a0.length:Int)then(bif ((gt a0 v1) != 0)then some false else(Arz K a0 n1 (An7 .i64 v1 1)))else none)else some true)
def Asl (K:Nat)(a0:List Int):Option (Bool):=(Arz K a0 K 0)
def Bvb:=fd Tryz.func192 ⟨[.v 22],[.v 4],true⟩ gN
def Byb:El:=⟨[(0,.v 22),(3,.v 2)],[]⟩
def Bm6:=lp Bvb 26 Byb [] (fun n a=>Arz K a n) (fun n=>kN)
def Bel:=ct Bvb (Asl K) (kC (Bm6 K K) kN)
def Aw1 (K:Nat)(v3:Int)(v4:List Int)(v5:List Int)(v6:List Int)(C1:Int->(List Int)->(List Int)->(List Int)->Option (Bool)):Option (Bool):=(C1 (An7 .i64 v3 1) v4 v5 v6)
def Ar0 (K:Nat)(a0:Eb)(v3:Int)(v4:List Int)(v5:List Int)(v6:List Int)(C1:Int->(List Int)->(List Int)->(List Int)->Option (Bool)):Option (Bool):=(if(0:Int)≤v3∧v3<(v5.length:Int)then(bif ((gt v5 v3)==0)then(if(0:Int)≤(An9 .i64 v3 a0.Hi)∧(An9 .i64 v3 a0.Hi)≤(An9 .i64 (An7 .i64 v3 1) a0.Hi)∧(An9 .i64 (An7 .i64 v3 1) a0.Hi)≤(v4.length:Int)then((Asl K ((v4.drop (An9 .i64 v3 a0.Hi).toNat).take ((An9 .i64 (An7 .i64 v3 1) a0.Hi) - (An9 .i64 v3 a0.Hi)).toNat)).bind fun r9=>(bif (!r9)then some false else(Aw1 K v3 v4 v5 v6 (C1))))else none)else(Aw1 K v3 v4 v5 v6 (C1)))else none)
def Anc (K:Nat)(a0:Eb):Nat->Int->(List Int)->(List Int)->(List Int)->Option (Bool)
 |0,_,_,_,_=>none
 |n1+1,v3,v4,v5,v6=>(bif (decide (v3<a0.Az))then(if(0:Int)≤v3∧v3<(v5.length:Int)then((Gy K (gt v5 v3) 0 2).bind fun r7=>(bif (!r7)then some false else(if(0:Int)≤v3∧v3<(v5.length:Int)then(bif ((gt v5 v3)==1)then(if(0:Int)≤v3∧v3<(v6.length:Int)then((Gy K (gt v6 v3) 0 (An8 .i64 a0.Fb 1)).bind fun r8=>(bif r8 then(if(0:Int)≤v3∧v3<(v5.length:Int)then(bif ((gt v5 v3) != 1)then(if(0:Int)≤v3∧v3<(v6.length:Int)then(bif ((gt v6 v3) != (-1))then some false else(Ar0 K a0 v3 v4 v5 v6 (Anc K a0 n1)))else none)else(Ar0 K a0 v3 v4 v5 v6 (Anc K a0 n1)))else none)else some false))else none)else(if(0:Int)≤v3∧v3<(v5.length:Int)then(bif ((gt v5 v3) != 1)then(if(0:Int)≤v3∧v3<(v6.length:Int)then(bif ((gt v6 v3) != (-1))then some false else(Ar0 K a0 v3 v4 v5 v6 (Anc K a0 n1)))else none)else(Ar0 K a0 v3 v4 v5 v6 (Anc K a0 n1)))else none))else none)))else none)else some true)
def Awm (K:Nat)(a0:Eb)(a1:Dp):Option (Bool):=((Anx K a0).bind fun r1=>(bif r1 then((Arj K a0).bind fun r2=>(bif ((a1.Pm.length:Int) != r2)then some false else(bif ((a1.Vt.length:Int) != a0.Az)then some false else(bif ((a1.Pn.length:Int) != a0.Az)then some false else(Anc K a0 K 0 a1.Pm a1.Vt a1.Pn)))))else some false))
def Bm7:=fd Tryz.func98 ⟨[.v 25,.v 28],[.v 4],true⟩ (gC (Ba1 K) (gC (A1i K) (gC (Bms K) (gC (Bel K) gN)))) [7,8,9,15,16,17,23,24,25,51,52,61,62,63,64,70,71,85,86] [233,1865]
def Bcy:El:=⟨[(2,.p 102),(3,.p 103),(5,.v 2)],[(103,.box [.v 22,.v 26,.v 26]),(102,.st 25 true)]⟩
def Bh2:=fun(C58:CT Bcy _)=>jn (Bm7 K) 233 Bcy [(58,ar Bcy C58)] (fun a b c d e=>Aw1 K a b c d (fun v3 v4 v5 v6=>C58 v3 v4 v5 v6 e)) kN
def Bfr:=fun(C58:CT Bcy _)=>jn (Bm7 K) 1865 Bcy [(58,ar Bcy C58)] (fun a b c d e=>Ar0 K e a b c d (fun v3 v4 v5 v6=>C58 v3 v4 v5 v6 e)) (kC (Bh2 K _) kN)
def Bm8:=lp (Bm7 K) 58 Bcy [] (fun n a b c d e=>Anc K e n a b c d) (fun n=>(kC (Bfr K _) kN))
def Bpj:=ct (Bm7 K) (Awm K) (kC (Bm8 K K) kN)
def A0a (K:Nat)(a0:Int)(a1:Int):Option (Int):=(bif (decide (a1<a0))then some a1 else some a0)
def Bvc:=ct (fd Tryz.func306 ⟨[.v 3,.v 3],[.v 3],true⟩ gN) (A0a K)
def Awn (K:Nat)(a0:List Int)(a1:Int)(a2:Int):Nat->(List Int)->Int->Option ((List Int))
 |0,_,_=>none
 |n1+1,v1,v2=>(bif (decide (v2<(a0.length:Int)))then(bif (decide ((An8 .i64 v2 a1)<a2))then(if(0:Int)≤v2∧v2<(v1.length:Int)then(Awn K a0 a1 a2 n1 (v1.set v2.toNat 0) (An7 .i64 v2 1))else none)else some v1)else some v1)
def A1k (K:Nat)(a0:List Int)(a1:Int)(a2:Int):Option ((List Int)):=(if(([]:List Int)++a0).length*1≤140737488355328∧(([]:List Int)++a0).length≤maxLen then(bif (decide (a1<0))then some (([]:List Int)++a0)else(bif (decide (a2<0))then some (([]:List Int)++a0)else(Awn K a0 a1 a2 K (([]:List Int)++a0) a1)))else none)
def Bvd:=fd Tryz.func307 ⟨[.v 22,.v 3,.v 3],[.n 22 true],true⟩ gN [13,14,23,24]
def Byc:El:=⟨[(0,.v 22),(1,.v 2),(2,.v 2),(7,.o 1007 5 true),(8,.v 2)],[]⟩
def Bh3:=lp Bvd 122 Byc [] (fun n a b c=>Awn K a b c n) (fun n=>kN)
def Bve:=ct Bvd (A1k K) (kC (Bh3 K K) kN)
def Aw2 (K:Nat)(a0:Eb)(a1:Dp)(a2:Int)(a3:Int):Option (Dp×Bool):=((Aq9 K a1).bind fun r1=>((Awm K a0 a1).bind fun r2=>(bif r2 then((Gy K a2 0 (An8 .i64 a0.Az 1)).bind fun r3=>(bif r3 then(if(0:Int)≤a2∧a2<(a1.Vt.length:Int)then(bif ((gt a1.Vt a2) != 2)then some (r1,false)else((Gy K a3 0 (An8 .i64 a0.Hi 1)).bind fun r4=>(bif (!r4)then some (r1,false)else((A0a K (An7 .i64 a3 a0.Fc) a0.Hi).bind fun r5=>((A1k K a1.Pm (An7 .i64 (An9 .i64 a2 a0.Hi) a3) (An8 .i64 r5 a3)).bind fun r6=>(bif (decide (r5<a0.Hi))then some ((Dp.mk r6 r1.Vt r1.Pn),false)else(if(0:Int)≤(An9 .i64 a2 a0.Hi)∧(An9 .i64 a2 a0.Hi)≤(An9 .i64 (An7 .i64 a2 1) a0.Hi)∧(An9 .i64 (An7 .i64 a2 1) a0.Hi)≤(r6.length:Int)then((Asl K ((r6.drop (An9 .i64 a2 a0.Hi).toNat).take ((An9 .i64 (An7 .i64 a2 1) a0.Hi) - (An9 .i64 a2 a0.Hi)).toNat)).bind fun r7=>(bif (!r7)then((Aq9 K a1).bind fun r8=>some (r8,false))else(if(0:Int)≤a2∧a2<(r1.Vt.length:Int)then some ((Dp.mk r6 (r1.Vt.set a2.toNat 0) r1.Pn),true)else none)))else none)))))))else none)else some (r1,false)))else some (r1,false))))
def Bvf:=ct (fd Tryz.func284 ⟨[.v 25,.v 28,.v 3,.v 3],[.n 28 true,.v 4],true⟩ (gC (Bpj K) (gC (A1i K) (gC (Bek K) (gC (Bel K) (gC (Bvc K) (gC (Bve K) gN)))))) [16,17,18,23,24,25,26,32,33,34]) (Aw2 K)
def Ax6 (K:Nat)(a0:C8):Option (C8):=(if(0:Int)≤0∧0<(a0.fQ.length:Int)then(if(0:Int)≤0∧0<(((gt a0.fQ 0).Az).length:Int)then((Aw2 K a0.fC a0.fP (gt ((gt a0.fQ 0).Az) 0) ((gt a0.fQ 0).Xa)).bind fun r1=>(bif r1.2 then(if(0:Int)≤1∧1≤(((gt a0.fQ 0).Az).length:Int)∧(((gt a0.fQ 0).Az).length:Int)≤(((gt a0.fQ 0).Az).length:Int)then(if(([]:List Int)++((((gt a0.fQ 0).Az).drop (1:Int).toNat).take ((((gt a0.fQ 0).Az).length:Int) - 1).toNat)).length*8≤140737488355328∧(([]:List Int)++((((gt a0.fQ 0).Az).drop (1:Int).toNat).take ((((gt a0.fQ 0).Az).length:Int) - 1).toNat)).length≤maxLen then some (C8.mk a0.fC r1.1 a0.fL (a0.fQ.set (0:Int).toNat (A1.mk ((gt a0.fQ 0).Bk) ((gt a0.fQ 0).Eg) ((gt a0.fQ 0).Fo) (([]:List Int)++((((gt a0.fQ 0).Az).drop (1:Int).toNat).take ((((gt a0.fQ 0).Az).length:Int) - 1).toNat)) 0)) a0.Adf)else none)else none)else some (C8.mk a0.fC r1.1 a0.fL (a0.fQ.set (0:Int).toNat (A1.mk ((gt a0.fQ 0).Bk) ((gt a0.fQ 0).Eg) ((gt a0.fQ 0).Fo) ((gt a0.fQ 0).Az) (An7 .i64 ((gt a0.fQ 0).Xa) a0.fC.Fc))) a0.Adf)))else none)else none)
def Bvg:=ct (fd Tryz.func251 ⟨[.b 32 false],[],false⟩ (gC (Bvf K) gN) [] [] [(0,[.take 1 10 5026]),(1,[.take 1 6 5022,.take 1 7 5023,.take 1 8 5024])]) (Ax6 K)
def An0 (K:Nat)(a0:Au):Option (Au):=(if(([]:List Int)++a0.Az).length*8≤140737488355328∧(([]:List Int)++a0.Az).length≤maxLen then(if(([]:List Bd)++a0.Ga).length*24≤140737488355328∧(([]:List Bd)++a0.Ga).length≤maxLen then(if(([]:List Int)++a0.Fo).length*8≤140737488355328∧(([]:List Int)++a0.Fo).length≤maxLen then some (Au.mk a0.Vt a0.Dc a0.S5 a0.fUp a0.S6 a0.Eg a0.S7 a0.S8 (([]:List Int)++a0.Az) a0.Ade a0.S9 (([]:List Bd)++a0.Ga) (([]:List Int)++a0.Fo))else none)else none)else none)
def A8v:=ct (fd Tryz.func233 ⟨[.v 50],[.n 50 false],true⟩ gN) (An0 K)
def Asz (K:Nat)(v3:Dp)(v4:Dp):Option (Dp):=some v3
def A0b (K:Nat)(a0:Dp)(a1:Int):Option (Dp):=((Aq9 K a0).bind fun r1=>((Gy K a1 0 (An8 .i64 (a0.Vt.length:Int) 1)).bind fun r2=>(bif r2 then(bif (decide (a1<(a0.Pn.length:Int)))then(if(0:Int)≤a1∧a1<(a0.Vt.length:Int)then(bif ((gt a0.Vt a1)==1)then(if(0:Int)≤a1∧a1<(r1.Vt.length:Int)then(if(0:Int)≤a1∧a1<(r1.Pn.length:Int)then(Asz K (Dp.mk r1.Pm (r1.Vt.set a1.toNat 2) (r1.Pn.set a1.toNat (-1))) (Dp.mk [] [] []))else none)else none)else(Asz K r1 (Dp.mk [] [] [])))else none)else(Asz K r1 (Dp.mk [] [] [])))else(Asz K r1 (Dp.mk [] [] [])))))
def Bvh:=fd Tryz.func234 ⟨[.v 28,.v 3],[.n 28 true],true⟩ (gC (A1i K) (gC (Bek K) gN)) [13,14,19,20,21] [7] [(5,[.take 105 0 6680,.take 105 1 6681,.take 105 2 6682])]
def Bvi:El:=⟨[(4,.p 104),(5,.p 105)],[(105,.st 28 true),(104,.st 28 true)]⟩
def Bq5:=jn (Bvh K) 7 Bvi [] (Asz K) kN
def Bvj:=ct (Bvh K) (A0b K) (kC (Bq5 K) kN)
def Ak5 (K:Nat)(a1:List Int):Nat->Int->Int->Int->Int->Int->Int->Int->(List Int)->(List Int)->(List Int)->(List Au)->(List A1)->(List Int)->Option (C8)
 |0,_,_,_,_,_,_,_,_,_,_,_,_,_=>none
 |n1+1,v1,v2,v3,v4,v5,v6,v7,v8,v9,v10,v11,v12,v13=>(bif (decide (v1<(a1.length:Int)))then(if(0:Int)≤v1∧v1<(a1.length:Int)then((A0b K (Dp.mk v8 v9 v10) (gt a1 v1)).bind fun r14=>(Ak5 K a1 n1 (An7 .i64 v1 1) v2 v3 v4 v5 v6 v7 r14.Pm r14.Vt r14.Pn v11 v12 v13))else none)else some (C8.mk (Eb.mk v2 v3 v4 v5 v6 v7) (Dp.mk v8 v9 v10) v11 v12 v13))
def Ara (K:Nat)(a0:C8)(a1:List Int):Option (C8):=(Ak5 K a1 K 0 a0.fC.Az a0.fC.Hi a0.fC.Fb a0.fC.G8 a0.fC.Fc a0.fC.Hj a0.fP.Pm a0.fP.Vt a0.fP.Pn a0.fL a0.fQ a0.Adf)
def Bvk:=fd Tryz.func161 ⟨[.b 32 false,.v 26],[],false⟩ (gC (Bvj K) gN) [] [] [(3,[.take 1 6 5022,.take 1 7 5023,.take 1 8 5024])]
def Byd:El:=⟨[(0,.p 1),(1,.v 26),(4,.v 2)],[(1,.box [.v 2,.v 2,.v 2,.v 2,.v 2,.v 2,.T 5 true,.T 3 true,.T 3 true,.T 50 true,.T 52 false,.T 3 true])]⟩
def Bq6:=lp (Bvk K) 6 Byd [] (fun n a=>Ak5 K a n) (fun n=>kN)
def Bh4:=ct (Bvk K) (Ara K) (kC (Bq6 K K) kN)
def Azw (K:Nat)(a0:Au):Option (Au):=some (Au.mk 2 a0.Dc 0 0 0 0 0 0 [] 0 0 [] [])
def Bpk:=ct (fd Tryz.func163 ⟨[.v 50],[.n 50 false],true⟩ gN) (Azw K)
def As0 (K:Nat)(a0:Au)(a1:Int):Option (A1):=(if(([]:List Int)++a0.Fo).length*8≤140737488355328∧(([]:List Int)++a0.Fo).length≤maxLen then(if(([]:List Int)++a0.Az).length*8≤140737488355328∧(([]:List Int)++a0.Az).length≤maxLen then some (A1.mk a1 a0.Eg (([]:List Int)++a0.Fo) (([]:List Int)++a0.Az) 0)else none)else none)
def Bh5:=ct (fd Tryz.func160 ⟨[.v 50,.v 3],[.n 52 true],true⟩ gN) (As0 K)
def Az5 (K:Nat)(a0:Au)(a1:Int):Option (A1):=(if(([]:List Int)++a0.Fo).length*8≤140737488355328∧(([]:List Int)++a0.Fo).length≤maxLen then(if(([]:List Int)++a0.Az).length*8≤140737488355328∧(([]:List Int)++a0.Az).length≤maxLen then some (A1.mk a1 a0.Eg (([]:List Int)++a0.Fo) (([]:List Int)++a0.Az) 0)else none)else none)
def Bvl:=ct (fd Tryz.func160 ⟨[.v 50,.v 3],[.v 52],false⟩ gN) (Az5 K)
def As1 (K:Nat)(r1:Au)(v4:Int)(v5:Int)(v6:Int)(v7:Int)(v8:Int)(v9:Int)(v10:Int)(v11:List Int)(v12:List Int)(v13:List Int)(v14:List Au)(v15:List A1)(v16:List Int):Option (C8):=((Ara K (C8.mk (Eb.mk v5 v6 v7 v8 v9 v10) (Dp.mk v11 v12 v13) v14 v15 v16) r1.Az).bind fun r17=>((Azw K r1).bind fun r18=>(if(0:Int)≤v4∧v4<(r17.fL.length:Int)then((Az5 K r1 (An7 .i64 v4 1)).bind fun r19=>(if(([r19]:List A1)++r17.fQ).length*72≤140737488355328∧(([r19]:List A1)++r17.fQ).length≤maxLen then some (C8.mk r17.fC r17.fP (r17.fL.set v4.toNat r18) (([r19]:List A1)++r17.fQ) r17.Adf)else none))else none)))
def Ax7 (K:Nat)(a0:C8):Option (C8):=(if(0:Int)≤0∧0<(a0.fQ.length:Int)then(if(0:Int)≤(An8 .i64 ((gt a0.fQ 0).Eg) 1)∧(An8 .i64 ((gt a0.fQ 0).Eg) 1)<(a0.fL.length:Int)then(if(0:Int)≤(An8 .i64 ((gt a0.fQ 0).Eg) 1)∧(An8 .i64 ((gt a0.fQ 0).Eg) 1)<(a0.fL.length:Int)then((An0 K (gt a0.fL (An8 .i64 ((gt a0.fQ 0).Eg) 1))).bind fun r1=>(if(0:Int)≤0∧0<(a0.fQ.length:Int)then((Aeq K a0.fL r1.S7).bind fun r2=>(bif r2 then(if(0:Int)≤(An8 .i64 r1.S7 1)∧(An8 .i64 r1.S7 1)<(a0.fL.length:Int)then(Aqi (a0.fL.set (An8 .i64 r1.S7 1).toNat (Au.mk ((gt a0.fL (An8 .i64 r1.S7 1)).Vt) ((gt a0.fL (An8 .i64 r1.S7 1)).Dc) ((gt a0.fL (An8 .i64 r1.S7 1)).S5) ((gt a0.fL (An8 .i64 r1.S7 1)).fUp) ((gt a0.fL (An8 .i64 r1.S7 1)).S6) ((gt a0.fL (An8 .i64 r1.S7 1)).Eg) ((gt a0.fL (An8 .i64 r1.S7 1)).S7) 0 ((gt a0.fL (An8 .i64 r1.S7 1)).Az) ((gt a0.fL (An8 .i64 r1.S7 1)).Ade) ((gt a0.fL (An8 .i64 r1.S7 1)).S9) ((gt a0.fL (An8 .i64 r1.S7 1)).Ga) ((gt a0.fL (An8 .i64 r1.S7 1)).Fo))) fun v3=>(As1 K r1 (An8 .i64 ((gt a0.fQ 0).Eg) 1) a0.fC.Az a0.fC.Hi a0.fC.Fb a0.fC.G8 a0.fC.Fc a0.fC.Hj a0.fP.Pm a0.fP.Vt a0.fP.Pn v3 (a0.fQ.set (0:Int).toNat (A1.mk ((gt a0.fQ 0).Bk) r1.S7 ((gt a0.fQ 0).Fo) ((gt a0.fQ 0).Az) ((gt a0.fQ 0).Xa))) a0.Adf))else none)else(As1 K r1 (An8 .i64 ((gt a0.fQ 0).Eg) 1) a0.fC.Az a0.fC.Hi a0.fC.Fb a0.fC.G8 a0.fC.Fc a0.fC.Hj a0.fP.Pm a0.fP.Vt a0.fP.Pn a0.fL (a0.fQ.set (0:Int).toNat (A1.mk ((gt a0.fQ 0).Bk) r1.S7 ((gt a0.fQ 0).Fo) ((gt a0.fQ 0).Az) ((gt a0.fQ 0).Xa))) a0.Adf)))else none))else none)else none)else none)
def Bvm:=fo Tryz.func252 ⟨[.b 32 false],[],false⟩ (gC (Bh4 K) (gC (Bpk K) (gC (A5x K) (gC (A8v K) gN)))) (oC (d:=60) (gC (Bvl K) gN) oN) [] [15] [(0,[.take 1 10 5026]),(1,[.take 1 9 5025,.opn 5025 (.tmp 2),.takeE 5025 11 41611,.takeE 5025 12 41612]),(3,[.put 5025]),(5,[.take 103 8 6656,.frz 6656]),(6,[.take 1 9 5025,.take 103 11 6659,.take 103 12 6660]),(7,[.take 1 10 5026,.frz 6659,.frz 6660])]
def Bye:El:=⟨[(0,.p 1),(2,.v 2),(3,.p 103)],[(1,.box [.v 2,.v 2,.v 2,.v 2,.v 2,.v 2,.T 5 true,.T 3 true,.T 3 true,.T 50 true,.T 52 false,.T 3 true]),(103,.st 50 false)]⟩
def Bm9:=jn (Bvm K) 15 Bye [] (fun a b c d e f g h i j k l m o=>As1 K o a b c d e f g h i j k l m) kN
def Bvn:=ct (Bvm K) (Ax7 K) (kC (Bm9 K) kN)
def Ark (K:Nat)(a0:List Au):Nat->(List Au)->Int->Option ((List Au))
 |0,_,_=>none
 |n1+1,v1,v2=>(bif (decide (v2<(a0.length:Int)))then(if(0:Int)≤v2∧v2<(a0.length:Int)then((An0 K (gt a0 v2)).bind fun r3=>(if(v1++[r3]).length*152≤140737488355328∧(v1++[r3]).length≤maxLen then(Ark K a0 n1 (v1++[r3]) (An7 .i64 v2 1))else none))else none)else some v1)
def At4 (K:Nat)(a0:List Au):Option ((List Au)):=(Ark K a0 K ([]:List Au) 0)
def Bvo:=fd Tryz.func158 ⟨[.v 29],[.n 29 true],false⟩ (gC (A8v K) gN) (post:=[(20,[.put 3020])])
def Byf:El:=⟨[(0,.v 29),(3,.o 1003 50 true),(4,.v 2)],[]⟩
def Bna:=lp (Bvo K) 58 Byf [] (fun n a=>Ark K a n) (fun n=>kN)
def Bem:=ct (Bvo K) (At4 K) (kC (Bna K K) kN)
def Ax8 (K:Nat)(v3:List Au):Option ((List Au)):=some v3
def A0c (K:Nat)(a0:List Au)(a1:Int)(a2:Int):Option ((List Au)):=((At4 K a0).bind fun r1=>((Gy K a1 0 (An8 .i64 (a0.length:Int) 1)).bind fun r2=>(bif (!r2)then some r1 else(if(0:Int)≤a1∧a1<(a0.length:Int)then(bif (decide (((gt a0 a1).Dc)≥a2))then(if(0:Int)≤a1∧a1<(r1.length:Int)then(if(0:Int)≤a1∧a1<(a0.length:Int)then(if(0:Int)≤a1∧a1<(r1.length:Int)then(Ax8 K (r1.set a1.toNat (Au.mk 3 ((gt a0 a1).Dc) 0 0 0 0 0 0 [] 0 0 [] [])))else none)else none)else none)else(if(0:Int)≤a1∧a1<(a0.length:Int)then((Al1 K (An7 .i64 ((gt a0 a1).Dc) 1)).bind fun r4=>(if(0:Int)≤a1∧a1<(r1.length:Int)then(Ax8 K (r1.set a1.toNat r4))else none))else none))else none))))
def Bvp:=fd Tryz.func253 ⟨[.v 29,.v 3,.v 3],[.n 29 true],false⟩ (gC (A1i K) (gC (Bem K) (gC (Ba2 K) gN))) [] [15] [(5,[.opn 1007 (.tmp 1)])]
def Bvq:El:=⟨[(7,.o 1007 50 true)],[]⟩
def Bnb:=jn (Bvp K) 15 Bvq [] (Ax8 K) kN
def Bvr:=ct (Bvp K) (A0c K) (kC (Bnb K) kN)
def As2 (K:Nat)(v6:Int)(v7:Int)(v8:Int)(v9:Int)(v10:Int)(v11:Int)(v12:List Int)(v13:List Int)(v14:List Int)(v15:List Au)(v16:List A1)(v17:List Int):Option (C8):=(if(0:Int)≤1∧1≤(v16.length:Int)∧(v16.length:Int)≤(v16.length:Int)then(if(([]:List A1)++((v16.drop (1:Int).toNat).take ((v16.length:Int) - 1).toNat)).length*72≤140737488355328∧(([]:List A1)++((v16.drop (1:Int).toNat).take ((v16.length:Int) - 1).toNat)).length≤maxLen then some (C8.mk (Eb.mk v6 v7 v8 v9 v10 v11) (Dp.mk v12 v13 v14) v15 (([]:List A1)++((v16.drop (1:Int).toNat).take ((v16.length:Int) - 1).toNat)) v17)else none)else none)
def Avh (K:Nat)(a0:C8):Option (C8):=(if(0:Int)≤0∧0<(a0.fQ.length:Int)then((A1w K (gt a0.fQ 0)).bind fun r1=>(bif (r1==1)then((Azf K a0).bind fun r2=>some r2)else(bif (r1==2)then((Ax6 K a0).bind fun r3=>some r3)else(bif (r1==3)then((Ax7 K a0).bind fun r4=>some r4)else(if(0:Int)≤0∧0<(a0.fQ.length:Int)then(bif (((gt a0.fQ 0).Bk) != 0)then(if(0:Int)≤0∧0<(a0.fQ.length:Int)then((A0c K a0.fL (An8 .i64 ((gt a0.fQ 0).Bk) 1) a0.fC.Hj).bind fun r5=>(As2 K a0.fC.Az a0.fC.Hi a0.fC.Fb a0.fC.G8 a0.fC.Fc a0.fC.Hj a0.fP.Pm a0.fP.Vt a0.fP.Pn r5 a0.fQ a0.Adf))else none)else(As2 K a0.fC.Az a0.fC.Hi a0.fC.Fb a0.fC.G8 a0.fC.Fc a0.fC.Hj a0.fP.Pm a0.fP.Vt a0.fP.Pn a0.fL a0.fQ a0.Adf))else none)))))else none)
def Bvs:=fd Tryz.func186 ⟨[.b 32 false],[],false⟩ (gC (Bu9 K) (gC (Bva K) (gC (Bvg K) (gC (Bvn K) (gC (Bvr K) gN))))) [] [447] [(0,[.take 1 10 5026]),(2,[.take 1 9 5025,.frz 5025]),(3,[.take 1 10 5026]),(5,[.put 1]),(7,[.put 1]),(9,[.put 1])] [(39,[.shal 3039])]
def Byg:El:=⟨[(0,.p 1)],[(1,.box [.v 2,.v 2,.v 2,.v 2,.v 2,.v 2,.T 5 true,.T 3 true,.T 3 true,.T 50 true,.T 52 false,.T 3 true])]⟩
def Bh6:=jn (Bvs K) 447 Byg [] (As2 K) kN
def Bpl:=ct (Bvs K) (Avh K) (kC (Bh6 K) kN)
def Aud (K:Nat)(v1:Int)(v2:Int)(v3:Int)(v4:Int)(v5:Int)(v6:Int)(v7:Int)(v8:List Int)(v9:List Int)(v10:List Int)(v11:List Au)(v12:List A1)(v13:List Int)(C1:Int->Int->Int->Int->Int->Int->Int->(List Int)->(List Int)->(List Int)->(List Au)->(List A1)->(List Int)->Option (Int×C8)):Option (Int×C8):=((Avh K (C8.mk (Eb.mk v2 v3 v4 v5 v6 v7) (Dp.mk v8 v9 v10) v11 v12 v13)).bind fun r15=>(C1 (An7 .i64 v1 1) r15.fC.Az r15.fC.Hi r15.fC.Fb r15.fC.G8 r15.fC.Fc r15.fC.Hj r15.fP.Pm r15.fP.Vt r15.fP.Pn r15.fL r15.fQ r15.Adf))
def Aqv (K:Nat)(a1:Int)(a2:Int):Nat->Int->Int->Int->Int->Int->Int->Int->(List Int)->(List Int)->(List Int)->(List Au)->(List A1)->(List Int)->Option (Int×C8)
 |0,_,_,_,_,_,_,_,_,_,_,_,_,_=>none
 |n1+1,v1,v2,v3,v4,v5,v6,v7,v8,v9,v10,v11,v12,v13=>(bif (decide ((v12.length:Int)>0))then((Aqp K v11 0).bind fun r14=>(bif (decide (r14<a1))then(Aud K v1 v2 v3 v4 v5 v6 v7 v8 v9 v10 v11 v12 v13 (Aqv K a1 a2 n1))else(bif (decide (a2>0))then((Aw0 K (Dp.mk v8 v9 v10) a2).bind fun r16=>(bif (decide (r16<0))then(Aud K v1 v2 v3 v4 v5 v6 v7 v8 v9 v10 v11 v12 v13 (Aqv K a1 a2 n1))else some (v1,(C8.mk (Eb.mk v2 v3 v4 v5 v6 v7) (Dp.mk v8 v9 v10) v11 v12 v13))))else some (v1,(C8.mk (Eb.mk v2 v3 v4 v5 v6 v7) (Dp.mk v8 v9 v10) v11 v12 v13)))))else some (v1,(C8.mk (Eb.mk v2 v3 v4 v5 v6 v7) (Dp.mk v8 v9 v10) v11 v12 v13)))
def Awo (K:Nat)(a0:C8)(a1:Int)(a2:Int):Option (Int×C8):=(Aqv K a1 a2 K 0 a0.fC.Az a0.fC.Hi a0.fC.Fb a0.fC.G8 a0.fC.Fc a0.fC.Hj a0.fP.Pm a0.fP.Vt a0.fP.Pn a0.fL a0.fQ a0.Adf)
def Bq7:=fd Tryz.func290 ⟨[.b 32 false,.v 3,.v 3],[.v 3],false⟩ (gC (Bpl K) (gC (Bpg K) (gC (Bpi K) gN))) [13,14,21,22,24,25] [56] [(2,[.take 1 10 5026,.take 1 9 5025,.take 1 6 5022,.take 1 7 5023,.take 1 8 5024])]
def Bnc:El:=⟨[(0,.p 1),(1,.v 2),(2,.v 2),(7,.v 2)],[(1,.box [.v 2,.v 2,.v 2,.v 2,.v 2,.v 2,.T 5 true,.T 3 true,.T 3 true,.T 50 true,.T 52 false,.T 3 true])]⟩
def Bnd:=fun(C28:CT Bnc _)=>jn (Bq7 K) 56 Bnc [(28,ar Bnc C28)] (fun a b c d e f g h i j k l m o p=>Aud K c d e f g h i j k l m o p (C28 a b)) kN
def Bne:=lp (Bq7 K) 28 Bnc [] (fun n a b=>Aqv K a b n) (fun n=>(kC (Bnd K _) kN))
def Bh7:=ct (Bq7 K) (Awo K) (kC (Bne K K) kN)
def Arl (K:Nat)(a0:List Au):Nat->Int->Option (Int)
 |0,_=>none
 |n1+1,v1=>(bif (decide (v1<(a0.length:Int)))then(if(0:Int)≤v1∧v1<(a0.length:Int)then(bif (((gt a0 v1).Vt)==0)then some v1 else(Arl K a0 n1 (An7 .i64 v1 1)))else none)else some (-1))
def Ay6 (K:Nat)(a0:List Au):Option (Int):=(Arl K a0 K 0)
def Bvt:=fd Tryz.func291 ⟨[.v 29],[.v 3],true⟩ gN
def Bh8:El:=⟨[(0,.v 29),(3,.v 2)],[]⟩
def Bnf:=lp Bvt 26 Bh8 [] (fun n a=>Arl K a n) (fun n=>kN)
def Bvu:=ct Bvt (Ay6 K) (kC (Bnf K K) kN)
def Arm (K:Nat):Nat->Int->(List Int)->(List Int)->(List Int)->Option (Int)
 |0,_,_,_,_=>none
 |n1+1,v1,v2,v3,v4=>(bif (decide (v1<(v3.length:Int)))then(if(0:Int)≤v1∧v1<(v3.length:Int)then(bif ((gt v3 v1)==0)then some v1 else(Arm K n1 (An7 .i64 v1 1) v2 v3 v4))else none)else some (-1))
def Av1 (K:Nat)(a0:Dp):Option (Int):=(Arm K K 0 a0.Pm a0.Vt a0.Pn)
def Bvv:=fd Tryz.func292 ⟨[.v 28],[.v 3],true⟩ gN
def Byh:El:=⟨[(1,.p 101),(3,.v 2)],[(101,.box [.v 22,.v 26,.v 26])]⟩
def Bng:=lp Bvv 26 Byh [] (Arm K) (fun n=>kN)
def Bpm:=ct Bvv (Av1 K) (kC (Bng K K) kN)
def As3 (K:Nat)(a1:Int)(a2:Int)(a3:Int):Nat->Int->Dp->Dp->Option (Dp)
 |0,_,_,_=>none
 |n1+1,v3,v4,v5=>(bif (decide (v3<(An7 .i64 a1 a2)))then(if(0:Int)≤v3∧v3<(v4.Vt.length:Int)then(if(0:Int)≤v3∧v3<(v4.Pn.length:Int)then(As3 K a1 a2 a3 n1 (An7 .i64 v3 1) (Dp.mk v4.Pm (v4.Vt.set v3.toNat 1) (v4.Pn.set v3.toNat a3)) v5)else none)else none)else some v4)
def Arn (K:Nat)(a0:Dp)(a1:Int)(a2:Int)(a3:Int):Option (Dp):=((Aq9 K a0).bind fun r1=>((Awl K a0 a1 a2).bind fun r2=>(bif r2 then(bif ((a0.Pn.length:Int) != (a0.Vt.length:Int))then some r1 else(As3 K a1 a2 a3 K a1 r1 (Dp.mk [] [] [])))else some r1)))
def Bvw:=fd Tryz.func293 ⟨[.v 28,.v 3,.v 3,.v 3],[.n 28 true],true⟩ (gC (Bek K) (gC (Bph K) gN)) [16,17,18] [] [(7,[.take 109 1 6745]),(8,[.take 109 2 6746]),(9,[.take 109 0 6744,.take 109 1 6745,.take 109 2 6746])]
def Byi:El:=⟨[(1,.v 2),(2,.v 2),(3,.v 2),(8,.p 108),(9,.p 109),(10,.v 2)],[(109,.st 28 true),(108,.st 28 true)]⟩
def Bh9:=lp (Bvw K) 122 Byi [] (fun n a b c=>As3 K a b c n) (fun n=>kN)
def Bia:=ct (Bvw K) (Arn K) (kC (Bh9 K K) kN)
def A1l (K:Nat)(a0:Au):Option (Bool):=(bif (a0.S5==0)then(bif (a0.fUp==0)then(bif (a0.S6==0)then(bif (a0.Eg==0)then(bif (a0.S7==0)then(bif (a0.S8==0)then(bif ((a0.Az.length:Int)==0)then(bif (a0.Ade==0)then(bif (a0.S9==0)then(bif ((a0.Ga.length:Int)==0)then some ((a0.Fo.length:Int)==0)else some false)else some false)else some false)else some false)else some false)else some false)else some false)else some false)else some false)else some false)
def Bvx:=ct (fd Tryz.func194 ⟨[.v 50],[.v 4],true⟩ gN [5,6,9,10,11,14,15,16,19,20,21,24,25,26,29,30,31,35,36,37,40,41,42,45,46,47,51,52,53]) (A1l K)
def Avi (K:Nat)(a0:List Int)(a1:Int):Nat->Int->Option (Bool)
 |0,_=>none
 |n1+1,v1=>(bif (decide (v1<(a0.length:Int)))then(if(0:Int)≤v1∧v1<(a0.length:Int)then(bif ((gt a0 v1)==a1)then some true else(Avi K a0 a1 n1 (An7 .i64 v1 1)))else none)else some false)
def Aqf (K:Nat)(a0:List Int)(a1:Int):Option (Bool):=(Avi K a0 a1 K 0)
def Bvy:=fd Tryz.func122 ⟨[.v 26,.v 3],[.v 4],true⟩ gN
def Byj:El:=⟨[(0,.v 26),(1,.v 2),(5,.v 2)],[]⟩
def Bnh:=lp Bvy 26 Byj [] (fun n a b=>Avi K a b n) (fun n=>kN)
def Ba5:=ct Bvy (Aqf K) (kC (Bnh K K) kN)
def Apj (K:Nat)(a0:Eb):Nat->Int->Int->Int->Int->Int->Int->Int->Int->Int->(List Int)->Int->Int->(List Bd)->(List Int)->Option (Bool)
 |0,_,_,_,_,_,_,_,_,_,_,_,_,_,_=>none
 |n1+1,v1,v2,v3,v4,v5,v6,v7,v8,v9,v10,v11,v12,v13,v14=>(bif (decide (v1<(v10.length:Int)))then(if(0:Int)≤v1∧v1<(v10.length:Int)then((Gy K (gt v10 v1) 0 (An8 .i64 a0.Az 1)).bind fun r15=>(bif r15 then(if(0:Int)≤0∧0≤v1∧v1≤(v10.length:Int)then(if(0:Int)≤v1∧v1<(v10.length:Int)then((Aqf K ((v10.drop (0:Int).toNat).take (v1 - 0).toNat) (gt v10 v1)).bind fun r16=>(bif r16 then some false else(Apj K a0 n1 (An7 .i64 v1 1) v2 v3 v4 v5 v6 v7 v8 v9 v10 v11 v12 v13 v14)))else none)else none)else some false))else none)else(bif (v11==0)then some (v12==0)else((Aqf K v10 (An8 .i64 v11 1)).bind fun r17=>(bif r17 then((Gy K v12 0 a0.Hi).bind fun r18=>some r18)else some false))))
def Aw3 (K:Nat)(a0:Eb)(a1:Au):Option (Bool):=(Apj K a0 K 0 a1.Vt a1.Dc a1.S5 a1.fUp a1.S6 a1.Eg a1.S7 a1.S8 a1.Az a1.Ade a1.S9 a1.Ga a1.Fo)
def Bvz:=fd Tryz.func195 ⟨[.v 25,.v 50],[.v 4],true⟩ (gC (A1i K) (gC (Ba5 K) gN)) [21,22,23,46,47]
def Bib:El:=⟨[(2,.p 102),(3,.p 103),(5,.v 2)],[(103,.box [.v 2,.v 2,.v 2,.v 2,.v 2,.v 2,.v 2,.v 2,.v 26,.v 2,.v 2,.v 48,.v 26]),(102,.st 25 true)]⟩
def Bni:=lp (Bvz K) 26 Bib [] (fun n a b c d e f g h i j k l m o p=>Apj K p n a b c d e f g h i j k l m o) (fun n=>kN)
def Bv0:=ct (Bvz K) (Aw3 K) (kC (Bni K K) kN)
def Apm (K:Nat)(a0:Eb)(a1:Int):Option (Bool):=some (decide (a1>a0.Hi))
def Bic:=ct (fd Tryz.func257 ⟨[.v 25,.v 3],[.v 4],true⟩ gN) (Apm K)
def Ax9 (K:Nat)(a0:Int)(a1:Int):Option (Int):=((Gy K a0 0 1000000000).bind fun r1=>(bif r1 then((Gy K a1 1 1000000000).bind fun r2=>(bif (!r2)then some 0 else(if a1≠(0:Int)then some (Alp .i64 (An8 .i64 (An7 .i64 a0 a1) 1) a1)else none)))else some 0))
def Bv1:=ct (fd Tryz.func287 ⟨[.v 3,.v 3],[.v 3],true⟩ (gC (A1i K) gN) [6,7,8]) (Ax9 K)
def Anh (K:Nat)(a0:Eb)(a1:Int):Option (Int):=((Ax9 K a1 a0.Hi).bind fun r1=>some r1)
def Bid:=ct (fd Tryz.func258 ⟨[.v 25,.v 3],[.v 3],true⟩ (gC (Bv1 K) gN)) (Anh K)
def As4 (K:Nat)(a0:Eb)(a1:Bd):Option (Bool):=((Arj K a0).bind fun r1=>(bif (r1==0)then some false else(bif (decide (a1.Aj0<1))then some false else(bif (decide (a1.fAt<0))then some false else(bif (decide (a1.fAt>r1))then some false else(bif (decide (a1.Aj0>(An8 .i64 r1 a1.fAt)))then some false else(bif (a1.Aj1==0)then(bif (decide (a1.Aj0≤a0.Hi))then(if a0.Hi≠(0:Int)then(if a0.Hi≠(0:Int)then some ((Alp .i64 a1.fAt a0.Hi)==(Alp .i64 (An8 .i64 (An7 .i64 a1.fAt a1.Aj0) 1) a0.Hi))else none)else none)else some false)else((Apm K a0 a1.Aj0).bind fun r2=>(bif r2 then((Anh K a0 a1.Aj0).bind fun r3=>(bif (a1.Aj1==r3)then(if a0.Hi≠(0:Int)then some ((Int.tmod a1.fAt a0.Hi)==0)else none)else some false))else some false)))))))))
def Bpn:=ct (fd Tryz.func196 ⟨[.v 25,.v 132],[.v 4],true⟩ (gC (Bms K) (gC (Bic K) (gC (Bid K) gN))) [9,10,13,14,15,18,19,20,24,25,26,42,43,63,64,71,72,73]) (As4 K)
def Aqw (K:Nat)(v23:List Int):Nat->Int->Option (Bool)
 |0,_=>none
 |n2+1,v25=>(bif (decide (v25<(v23.length:Int)))then(if(0:Int)≤v25∧v25<(v23.length:Int)then((Gy K (gt v23 v25) 0 255).bind fun r26=>(bif (!r26)then some false else(Aqw K v23 n2 (An7 .i64 v25 1))))else none)else some true)
def Apy (K:Nat)(a0:Eb):Nat->Int->Int->Int->Int->Int->Int->Int->Int->Int->(List Int)->Int->Int->(List Bd)->(List Int)->Option (Bool)
 |0,_,_,_,_,_,_,_,_,_,_,_,_,_,_=>none
 |n1+1,v10,v11,v12,v13,v14,v15,v16,v17,v18,v19,v20,v21,v22,v23=>(bif (decide (v10<(v22.length:Int)))then(if(0:Int)≤v10∧v10<(v22.length:Int)then((As4 K a0 (gt v22 v10)).bind fun r24=>(bif (!r24)then some false else(Apy K a0 n1 (An7 .i64 v10 1) v11 v12 v13 v14 v15 v16 v17 v18 v19 v20 v21 v22 v23)))else none)else(Aqw K v23 K 0))
def Aqg (K:Nat)(a0:Eb)(a1:Au):Option (Bool):=((Anx K a0).bind fun r1=>(bif r1 then((Gy K a1.Vt 0 3).bind fun r2=>(bif r2 then((Gy K a1.Dc 1 a0.Hj).bind fun r3=>(bif (!r3)then some false else(bif (a1.Vt != 1)then((A1l K a1).bind fun r4=>some r4)else(bif (decide (a1.S5<0))then some false else(bif (decide (a1.S6<0))then some false else((Gy K a1.fUp 0 a0.Fb).bind fun r5=>(bif r5 then((Gy K a1.Eg 0 a0.Fb).bind fun r6=>(bif r6 then((Gy K a1.S7 0 a0.Fb).bind fun r7=>(bif r7 then((Gy K a1.S8 0 a0.Fb).bind fun r8=>(bif r8 then((Aw3 K a0 a1).bind fun r9=>(bif r9 then(bif (decide ((a1.Ga.length:Int)>12))then some false else(bif (decide ((a1.Fo.length:Int)>6))then some false else(Apy K a0 K 0 a1.Vt a1.Dc a1.S5 a1.fUp a1.S6 a1.Eg a1.S7 a1.S8 a1.Az a1.Ade a1.S9 a1.Ga a1.Fo)))else some false))else some false))else some false))else some false))else some false)))))))else some false))else some false))
def Bq8:=fd Tryz.func100 ⟨[.v 25,.v 50],[.v 4],true⟩ (gC (Ba1 K) (gC (A1i K) (gC (Bvx K) (gC (Bv0 K) (gC (Bpn K) gN))))) [8,9,10,13,14,15,16,31,32,35,36,37,42,43,44,45,50,51,52,53,58,59,60,61,66,67,68,69,72,73,74,75,79,80,81]
def Byk:El:=⟨[(3,.p 103),(6,.v 2)],[(103,.box [.v 2,.v 2,.v 2,.v 2,.v 2,.v 2,.v 2,.v 2,.v 26,.v 2,.v 2,.v 48,.v 26])]⟩
def Bie:=lp (Bq8 K) 506 Byk [] (fun n a _ _ _ _ _ _ _ _ _ _ _ _ o=>Aqw K o n a) (fun n=>kN)
def Bif:=lp (Bq8 K) 250 Bib [] (fun n a b c d e f g h i j k l m o p=>Apy K p n a b c d e f g h i j k l m o) (fun n=>(kC (up (Bie K K)) kN))
def A8w:=ct (Bq8 K) (Aqg K) (kC (Bif K K) kN)
def Aut (K:Nat)(a0:Eb)(a1:Au)(a2:Int):Option (Au×Bool):=((An0 K a1).bind fun r1=>(bif (a1.Vt != 1)then some (r1,false)else((Gy K a2 0 (An8 .i64 a0.Az 1)).bind fun r2=>(bif (!r2)then some (r1,false)else(if(r1.Az++([a2]:List Int)).length*8≤140737488355328∧(r1.Az++([a2]:List Int)).length≤maxLen then((Aqg K a0 (Au.mk r1.Vt r1.Dc r1.S5 r1.fUp r1.S6 r1.Eg r1.S7 r1.S8 (r1.Az++([a2]:List Int)) (An7 .i64 a2 1) 0 r1.Ga r1.Fo)).bind fun r3=>(bif (!r3)then((An0 K a1).bind fun r4=>some (r4,false))else some ((Au.mk r1.Vt r1.Dc r1.S5 r1.fUp r1.S6 r1.Eg r1.S7 r1.S8 (r1.Az++([a2]:List Int)) (An7 .i64 a2 1) 0 r1.Ga r1.Fo),true)))else none)))))
def Big:=ct (fd Tryz.func294 ⟨[.v 25,.v 50,.v 3],[.n 50 false,.v 4],true⟩ (gC (A8w K) (gC (A1i K) (gC (A8v K) gN))) [13,14]) (Aut K)
def Azg (K:Nat)(v11:List Au):Option ((List Au)):=some v11
def Axw (K:Nat)(a0:List Au)(a1:Int)(a2:Int):Option ((List Au)):=((At4 K a0).bind fun r1=>((Aeq K a0 (An7 .i64 a1 1)).bind fun r2=>(bif r2 then((Aeq K a0 (An7 .i64 a2 1)).bind fun r3=>(bif r3 then(bif (a1==a2)then some r1 else(if(0:Int)≤a1∧a1<(a0.length:Int)then(if(0:Int)≤a2∧a2<(r1.length:Int)then(Aqi (r1.set a2.toNat (Au.mk ((gt r1 a2).Vt) ((gt r1 a2).Dc) ((gt r1 a2).S5) (An7 .i64 a1 1) ((gt r1 a2).S6) ((gt r1 a2).Eg) ((gt r1 a2).S7) ((gt r1 a2).S8) ((gt r1 a2).Az) ((gt r1 a2).Ade) ((gt r1 a2).S9) ((gt r1 a2).Ga) ((gt r1 a2).Fo))) fun v4=>(if(0:Int)≤a1∧a1<(a0.length:Int)then(if(0:Int)≤a2∧a2<(v4.length:Int)then(Aqi (v4.set a2.toNat (Au.mk ((gt v4 a2).Vt) ((gt v4 a2).Dc) ((gt v4 a2).S5) ((gt v4 a2).fUp) ((gt a0 a1).S5) ((gt v4 a2).Eg) ((gt v4 a2).S7) ((gt v4 a2).S8) ((gt v4 a2).Az) ((gt v4 a2).Ade) ((gt v4 a2).S9) ((gt v4 a2).Ga) ((gt v4 a2).Fo))) fun v5=>(if(0:Int)≤a2∧a2<(v5.length:Int)then(Aqi (v5.set a2.toNat (Au.mk ((gt v5 a2).Vt) ((gt v5 a2).Dc) ((gt v5 a2).S5) ((gt v5 a2).fUp) ((gt v5 a2).S6) ((gt v5 a2).Eg) ((gt a0 a1).Eg) ((gt v5 a2).S8) ((gt v5 a2).Az) ((gt v5 a2).Ade) ((gt v5 a2).S9) ((gt v5 a2).Ga) ((gt v5 a2).Fo))) fun v6=>(if(0:Int)≤a2∧a2<(v6.length:Int)then(Aqi (v6.set a2.toNat (Au.mk ((gt v6 a2).Vt) ((gt v6 a2).Dc) ((gt v6 a2).S5) ((gt v6 a2).fUp) ((gt v6 a2).S6) ((gt v6 a2).Eg) ((gt v6 a2).S7) 0 ((gt v6 a2).Az) ((gt v6 a2).Ade) ((gt v6 a2).S9) ((gt v6 a2).Ga) ((gt v6 a2).Fo))) fun v7=>(if(0:Int)≤a1∧a1<(v7.length:Int)then(Aqi (v7.set a1.toNat (Au.mk ((gt v7 a1).Vt) ((gt v7 a1).Dc) ((gt v7 a1).S5) ((gt v7 a1).fUp) ((gt v7 a1).S6) (An7 .i64 a2 1) ((gt v7 a1).S7) ((gt v7 a1).S8) ((gt v7 a1).Az) ((gt v7 a1).Ade) ((gt v7 a1).S9) ((gt v7 a1).Ga) ((gt v7 a1).Fo))) fun v8=>((Aeq K a0 ((gt a0 a1).Eg)).bind fun r9=>(bif r9 then(if(0:Int)≤(An8 .i64 ((gt a0 a1).Eg) 1)∧(An8 .i64 ((gt a0 a1).Eg) 1)<(v8.length:Int)then(Aqi (v8.set (An8 .i64 ((gt a0 a1).Eg) 1).toNat (Au.mk ((gt v8 (An8 .i64 ((gt a0 a1).Eg) 1)).Vt) ((gt v8 (An8 .i64 ((gt a0 a1).Eg) 1)).Dc) ((gt v8 (An8 .i64 ((gt a0 a1).Eg) 1)).S5) ((gt v8 (An8 .i64 ((gt a0 a1).Eg) 1)).fUp) ((gt v8 (An8 .i64 ((gt a0 a1).Eg) 1)).S6) ((gt v8 (An8 .i64 ((gt a0 a1).Eg) 1)).Eg) ((gt v8 (An8 .i64 ((gt a0 a1).Eg) 1)).S7) (An7 .i64 a2 1) ((gt v8 (An8 .i64 ((gt a0 a1).Eg) 1)).Az) ((gt v8 (An8 .i64 ((gt a0 a1).Eg) 1)).Ade) ((gt v8 (An8 .i64 ((gt a0 a1).Eg) 1)).S9) ((gt v8 (An8 .i64 ((gt a0 a1).Eg) 1)).Ga) ((gt v8 (An8 .i64 ((gt a0 a1).Eg) 1)).Fo))) fun v10=>(Azg K v10))else none)else(Azg K v8))))else none))else none))else none))else none)else none))else none)else none))else some r1))else some r1)))
def Bv2:=fd Tryz.func295 ⟨[.v 29,.v 3,.v 3],[.n 29 true],false⟩ (gC (Bem K) (gC (A5x K) gN)) [14,15,16,20,21,22,23] [1023]
def Bfs:=jn (Bv2 K) 1023 Bvq [] (Azg K) kN
def Bv3:=ct (Bv2 K) (Axw K) (kC (Bfs K) kN)
def As5 (K:Nat)(a1:Int):Nat->Int->Int->Int->Int->Int->Int->Int->(List Int)->(List Int)->(List Int)->(List Au)->(List A1)->(List Int)->Option (Int×C8)
 |0,_,_,_,_,_,_,_,_,_,_,_,_,_=>none
 |n1+1,v1,v2,v3,v4,v5,v6,v7,v8,v9,v10,v11,v12,v13=>(bif (decide (v1<a1))then(bif ((v12.length:Int)==0)then some (v1,(C8.mk (Eb.mk v2 v3 v4 v5 v6 v7) (Dp.mk v8 v9 v10) v11 v12 v13))else((Avh K (C8.mk (Eb.mk v2 v3 v4 v5 v6 v7) (Dp.mk v8 v9 v10) v11 v12 v13)).bind fun r14=>(As5 K a1 n1 (An7 .i64 v1 1) r14.fC.Az r14.fC.Hi r14.fC.Fb r14.fC.G8 r14.fC.Fc r14.fC.Hj r14.fP.Pm r14.fP.Vt r14.fP.Pn r14.fL r14.fQ r14.Adf)))else some (a1,(C8.mk (Eb.mk v2 v3 v4 v5 v6 v7) (Dp.mk v8 v9 v10) v11 v12 v13)))
def Avj (K:Nat)(a0:C8)(a1:Int):Option (Int×C8):=(As5 K a1 K 0 a0.fC.Az a0.fC.Hi a0.fC.Fb a0.fC.G8 a0.fC.Fc a0.fC.Hj a0.fP.Pm a0.fP.Vt a0.fP.Pn a0.fL a0.fQ a0.Adf)
def Bv4:=fd Tryz.func265 ⟨[.b 32 false,.v 3],[.v 3],false⟩ (gC (Bpl K) gN) [] [] [(4,[.take 1 10 5026]),(6,[.put 1])]
def Byl:El:=⟨[(0,.p 1),(1,.v 2),(5,.v 2)],[(1,.box [.v 2,.v 2,.v 2,.v 2,.v 2,.v 2,.T 5 true,.T 3 true,.T 3 true,.T 50 true,.T 52 false,.T 3 true])]⟩
def Bnj:=lp (Bv4 K) 26 Byl [] (fun n a=>As5 K a n) (fun n=>kN)
def Bih:=ct (Bv4 K) (Avj K) (kC (Bnj K K) kN)
def As6 (K:Nat)(r19:Int)(v25:Int)(v26:Int)(v27:Int)(v28:Int)(v29:Int)(v30:Int)(v31:List Int)(v32:List Int)(v33:List Int)(v34:List Au)(v35:List A1)(v36:List Int)(v37:Ex):Option (Ex×C8):=((Aub K v34 r19).bind fun r38=>((Avj K (C8.mk (Eb.mk v25 v26 v27 v28 v29 v30) (Dp.mk v31 v32 v33) v34 v35 v36) v28).bind fun r39=>some ((Ex.mk v37.Xc r38 v37.fR v37.fB v37.Xd r39.1 v37.Po),r39.2)))
def Ao7 (K:Nat)(v3:Int)(v4:Int)(v5:Int)(v6:Int)(v7:Int)(v8:Int)(v9:Int)(v10:List Int)(v11:List Int)(v12:List Int)(v13:List Au)(v14:List A1)(v15:List Int)(v16:Ex)(v17:Ex):Option (Ex×C8):=(bif (v16.Xc != 0)then some (v16,(C8.mk (Eb.mk v4 v5 v6 v7 v8 v9) (Dp.mk v10 v11 v12) v13 v14 v15))else((Awo K (C8.mk (Eb.mk v4 v5 v6 v7 v8 v9) (Dp.mk v10 v11 v12) v13 v14 v15) 1 1).bind fun r18=>((Ay6 K r18.2.fL).bind fun r19=>((Av1 K r18.2.fP).bind fun r20=>(bif (decide (r19<0))then some ((Ex.mk 5 (An.mk 0 0) (Bq.mk (An.mk 0 0) 0 0) [] 0 0 0),r18.2)else(bif (decide (r20<0))then some ((Ex.mk 5 (An.mk 0 0) (Bq.mk (An.mk 0 0) 0 0) [] 0 0 0),r18.2)else(if(0:Int)≤r19∧r19<(r18.2.fL.length:Int)then((Al1 K ((gt r18.2.fL r19).Dc)).bind fun r21=>((Arn K r18.2.fP r20 1 r19).bind fun r22=>((Aut K r18.2.fC (Au.mk 1 r21.Dc r21.S5 r21.fUp r21.S6 r21.Eg r21.S7 r21.S8 r21.Az r21.Ade r21.S9 r21.Ga r21.Fo) r20).bind fun r23=>(if(0:Int)≤r19∧r19<(r18.2.fL.length:Int)then(bif (decide (v3≥0))then((Axw K (r18.2.fL.set r19.toNat r23.1) v3 r19).bind fun r24=>(As6 K r19 r18.2.fC.Az r18.2.fC.Hi r18.2.fC.Fb r18.2.fC.G8 r18.2.fC.Fc r18.2.fC.Hj r22.Pm r22.Vt r22.Pn r24 r18.2.fQ r18.2.Adf (Ex.mk v16.Xc v16.fH v16.fR v16.fB v16.Xd v16.G8 r18.1)))else(As6 K r19 r18.2.fC.Az r18.2.fC.Hi r18.2.fC.Fb r18.2.fC.G8 r18.2.fC.Fc r18.2.fC.Hj r22.Pm r22.Vt r22.Pn (r18.2.fL.set r19.toNat r23.1) r18.2.fQ r18.2.Adf (Ex.mk v16.Xc v16.fH v16.fR v16.fB v16.Xd v16.G8 r18.1)))else none))))else none)))))))
def As7 (K:Nat)(v41:Int)(v42:Bool)(v43:Int)(v44:Int)(v45:Int)(v46:Int)(v47:Int)(v48:Int)(v49:List Int)(v50:List Int)(v51:List Int)(v52:List Au)(v53:List A1)(v54:List Int)(v55:Ex)(v56:Ex):Option (Ex×C8):=(bif v42 then(Ao7 K v41 v43 v44 v45 v46 v47 v48 v49 v50 v51 v52 v53 v54 (Ex.mk 3 v55.fH v55.fR v55.fB v55.Xd v55.G8 v55.Po) v56)else((Az3 K (C8.mk (Eb.mk v43 v44 v45 v46 v47 v48) (Dp.mk v49 v50 v51) v52 v53 v54)).bind fun r57=>(bif (r57==0)then(Ao7 K v41 v43 v44 v45 v46 v47 v48 v49 v50 v51 v52 v53 v54 (Ex.mk 4 v55.fH v55.fR v55.fB v55.Xd v55.G8 v55.Po) v56)else((Arx K (C8.mk (Eb.mk v43 v44 v45 v46 v47 v48) (Dp.mk v49 v50 v51) v52 v53 v54) 1).bind fun r58=>(bif (!r58)then(Ao7 K v41 v43 v44 v45 v46 v47 v48 v49 v50 v51 v52 v53 v54 (Ex.mk 5 v55.fH v55.fR v55.fB v55.Xd v55.G8 v55.Po) v56)else(Ao7 K v41 v43 v44 v45 v46 v47 v48 v49 v50 v51 v52 v53 v54 v55 v56))))))
def Aya (K:Nat)(a0:C8)(a1:An):Option (Ex×C8):=((Az9 K a0 a1).bind fun r1=>((Api K a0 a1).bind fun r2=>(bif (r1.2 != 0)then(Ao7 K r1.1 a0.fC.Az a0.fC.Hi a0.fC.Fb a0.fC.G8 a0.fC.Fc a0.fC.Hj a0.fP.Pm a0.fP.Vt a0.fP.Pn a0.fL a0.fQ a0.Adf (Ex.mk r1.2 (An.mk 0 0) (Bq.mk (An.mk 0 0) 0 0) [] r2 0 0) (Ex.mk 0 (An.mk 0 0) (Bq.mk (An.mk 0 0) 0 0) [] 0 0 0))else(bif (decide (r1.1≥0))then((Awk K a0.fL r1.1).bind fun r40=>(As7 K r1.1 (decide (r40≥4)) a0.fC.Az a0.fC.Hi a0.fC.Fb a0.fC.G8 a0.fC.Fc a0.fC.Hj a0.fP.Pm a0.fP.Vt a0.fP.Pn a0.fL a0.fQ a0.Adf (Ex.mk r1.2 (An.mk 0 0) (Bq.mk (An.mk 0 0) 0 0) [] r2 0 0) (Ex.mk 0 (An.mk 0 0) (Bq.mk (An.mk 0 0) 0 0) [] 0 0 0)))else(As7 K r1.1 false a0.fC.Az a0.fC.Hi a0.fC.Fb a0.fC.G8 a0.fC.Fc a0.fC.Hj a0.fP.Pm a0.fP.Vt a0.fP.Pn a0.fL a0.fQ a0.Adf (Ex.mk r1.2 (An.mk 0 0) (Bq.mk (An.mk 0 0) 0 0) [] r2 0 0) (Ex.mk 0 (An.mk 0 0) (Bq.mk (An.mk 0 0) 0 0) [] 0 0 0))))))
def Bnk:=fd Tryz.func263 ⟨[.b 32 false,.v 36],[.n 73 true],false⟩ (gC (Bh0 K) (gC (A6z K) (gC (Bpa K) (gC (Ba2 K) (gC (Bpe K) (gC (Bih K) (gC (Bu3 K) (gC (Bu4 K) (gC (Bh7 K) (gC (Bvu K) (gC (Bpm K) (gC (Bia K) (gC (Big K) (gC (Bv3 K) gN)))))))))))))) [31,32,74,75] [15,243,32767] [(1,[.take 1 6 5022,.take 1 7 5023,.take 1 8 5024,.take 1 9 5025,.take 1 10 5026,.take 1 11 5027]),(6,[.take 1 6 5022,.take 1 7 5023,.take 1 8 5024,.take 1 9 5025,.take 1 10 5026,.take 1 11 5027]),(11,[.take 107 7 6719]),(13,[.take 1 9 5025]),(14,[.take 1 6 5022,.take 1 7 5023,.take 1 8 5024]),(23,[.put 5025,.frz 5025]),(24,[.take 1 9 5025]),(25,[.put 1]),(26,[.take 107 7 6719])]
def Bym:El:=⟨[(0,.p 1),(4,.p 104),(7,.p 107),(8,.v 2)],[(1,.box [.v 2,.v 2,.v 2,.v 2,.v 2,.v 2,.T 5 true,.T 3 true,.T 3 true,.T 50 true,.T 52 false,.T 3 true]),(107,.st 73 true),(104,.st 73 true)]⟩
def Byn:El:=⟨[(0,.p 1),(4,.p 104),(5,.v 2),(7,.p 107)],[(1,.box [.v 2,.v 2,.v 2,.v 2,.v 2,.v 2,.T 5 true,.T 3 true,.T 3 true,.T 50 true,.T 52 false,.T 3 true]),(107,.st 73 true),(104,.st 73 true)]⟩
def Byo:El:=⟨[(0,.p 1),(4,.p 104),(5,.v 2),(7,.p 107),(29,.v 4)],[(1,.box [.v 2,.v 2,.v 2,.v 2,.v 2,.v 2,.T 5 true,.T 3 true,.T 3 true,.T 50 true,.T 52 false,.T 3 true]),(107,.st 73 true),(104,.st 73 true)]⟩
def Bcz:=jn (Bnk K) 32767 Bym [] (fun a b c d e f g h i j k l m o _=>As6 K a b c d e f g h i j k l m o) kN
def Ben:=jn (Bnk K) 15 Byn [] (Ao7 K) (kC (Bcz K) kN)
def Bii:=jn (Bnk K) 243 Byo [] (As7 K) (kC (Ben K) kN)
def Bv5:=ct (Bnk K) (Aya K) (kC (Ben K) (kC (Bii K) kN))
def Aro (K:Nat)(a0:Int):Option (Bool):=(bif (a0==1)then some true else(bif (a0==2)then some true else some (a0==4)))
def Beo:=ct (fd Tryz.func296 ⟨[.v 3],[.v 4],true⟩ gN [4,5,7,8,9]) (Aro K)
def Anq (K:Nat)(a0:Eb)(a2:Int)(a3:Int)(r6:Int):Nat->Int->Au->Au->Int->Int->Int->Int->Int->Int->Int->Int->(List Int)->Int->Int->(List Bd)->(List Int)->Option (Au×Bool)
 |0,_,_,_,_,_,_,_,_,_,_,_,_,_,_,_,_=>none
 |n1+1,v7,v8,v9,v10,v11,v12,v13,v14,v15,v16,v17,v18,v19,v20,v21,v22=>(bif (decide (v7<r6))then(if(v8.Az++([(An7 .i64 a2 v7)]:List Int)).length*8≤140737488355328∧(v8.Az++([(An7 .i64 a2 v7)]:List Int)).length≤maxLen then(Anq K a0 a2 a3 r6 n1 (An7 .i64 v7 1) (Au.mk v8.Vt v8.Dc v8.S5 v8.fUp v8.S6 v8.Eg v8.S7 v8.S8 (v8.Az++([(An7 .i64 a2 v7)]:List Int)) v8.Ade v8.S9 v8.Ga v8.Fo) v9 v10 v11 v12 v13 v14 v15 v16 v17 v18 v19 v20 v21 v22)else none)else(if(v8.Ga++([(Bd.mk (An9 .i64 a2 a0.Hi) a3 r6)]:List Bd)).length*24≤140737488355328∧(v8.Ga++([(Bd.mk (An9 .i64 a2 a0.Hi) a3 r6)]:List Bd)).length≤maxLen then((Aqg K a0 (Au.mk v8.Vt v8.Dc v8.S5 v8.fUp v8.S6 v8.Eg v8.S7 v8.S8 v8.Az v8.Ade v8.S9 (v8.Ga++([(Bd.mk (An9 .i64 a2 a0.Hi) a3 r6)]:List Bd)) v8.Fo)).bind fun r23=>(bif (!r23)then((An0 K (Au.mk v10 v11 v12 v13 v14 v15 v16 v17 v18 v19 v20 v21 v22)).bind fun r24=>some (r24,false))else some ((Au.mk v8.Vt v8.Dc v8.S5 v8.fUp v8.S6 v8.Eg v8.S7 v8.S8 v8.Az v8.Ade v8.S9 (v8.Ga++([(Bd.mk (An9 .i64 a2 a0.Hi) a3 r6)]:List Bd)) v8.Fo),true)))else none))
def Aqx (K:Nat)(a0:Eb)(a1:Au)(a2:Int)(a3:Int):Option (Au×Bool):=((An0 K a1).bind fun r1=>((Anx K a0).bind fun r2=>(bif r2 then(bif (a1.Vt != 1)then some (r1,false)else((Apm K a0 a3).bind fun r3=>(bif r3 then((Arj K a0).bind fun r4=>(bif (decide (a3>r4))then some (r1,false)else((Gy K a2 0 (An8 .i64 a0.Az 1)).bind fun r5=>(bif (!r5)then some (r1,false)else((Anh K a0 a3).bind fun r6=>(Anq K a0 a2 a3 r6 K 0 r1 (Au.mk 0 0 0 0 0 0 0 0 [] 0 0 [] []) a1.Vt a1.Dc a1.S5 a1.fUp a1.S6 a1.Eg a1.S7 a1.S8 a1.Az a1.Ade a1.S9 a1.Ga a1.Fo))))))else some (r1,false))))else some (r1,false))))
def Bv6:=fd Tryz.func309 ⟨[.v 25,.v 50,.v 3,.v 3],[.n 50 false,.v 4],true⟩ (gC (Ba1 K) (gC (A8w K) (gC (A1i K) (gC (Bms K) (gC (A8v K) (gC (Bic K) (gC (Bid K) gN))))))) [16,17,18,21,22,23,26,27,28,29,33,34,35] [] [(8,[.take 110 8 6768]),(9,[.take 110 11 6771]),(10,[.take 110 8 6768,.take 110 12 6772])]
def Byp:El:=⟨[(2,.v 2),(3,.v 2),(4,.p 104),(5,.p 105),(8,.p 108),(10,.p 110),(11,.v 2),(12,.v 2)],[(110,.st 50 false),(108,.st 50 false),(105,.box [.v 2,.v 2,.v 2,.v 2,.v 2,.v 2,.v 2,.v 2,.v 26,.v 2,.v 2,.v 48,.v 26]),(104,.st 25 true)]⟩
def Bij:=lp (Bv6 K) 250 Byp [] (fun n a b c d e f g h i j k l m o p q r s t u=>Anq K u a b c n d e f g h i j k l m o p q r s t) (fun n=>kN)
def Bpo:=ct (Bv6 K) (Aqx K) (kC (Bij K K) kN)
def Aw4 (K:Nat)(a0:C8)(a1:Int)(a2:Int)(a3:Ex):Option (Ex×C8):=((Anh K a0.fC a2).bind fun r1=>((Arx K a0 r1).bind fun r2=>(bif (!r2)then some ((Ex.mk 5 a3.fH a3.fR a3.fB a3.Xd a3.G8 a3.Po),a0)else((Awo K a0 0 r1).bind fun r3=>((Aw0 K r3.2.fP r1).bind fun r4=>(bif (decide (r4<0))then some ((Ex.mk 6 a3.fH a3.fR a3.fB a3.Xd a3.G8 r3.1),r3.2)else((Arn K r3.2.fP r4 r1 a1).bind fun r5=>(if(0:Int)≤a1∧a1<(r3.2.fL.length:Int)then(if(0:Int)≤a1∧a1<(r3.2.fL.length:Int)then((Aqx K r3.2.fC (gt r3.2.fL a1) r4 a2).bind fun r6=>(if(0:Int)≤a1∧a1<(r3.2.fL.length:Int)then some ((Ex.mk a3.Xc a3.fH a3.fR a3.fB a3.Xd a3.G8 r3.1),(C8.mk r3.2.fC r5 (r3.2.fL.set a1.toNat r6.1) r3.2.fQ r3.2.Adf))else none))else none)else none))))))))
def Bv7:=ct (fd Tryz.func297 ⟨[.b 32 false,.v 3,.v 3,.v 73],[.v 73],false⟩ (gC (Bh0 K) (gC (Bid K) (gC (Bh7 K) (gC (Bia K) (gC (Bpo K) (gC (Bpi K) gN)))))) [] [] [(2,[.take 1 6 5022,.take 1 7 5023,.take 1 8 5024,.take 1 9 5025,.take 1 10 5026,.take 1 11 5027]),(5,[.put 1]),(6,[.take 1 6 5022,.take 1 7 5023,.take 1 8 5024]),(11,[.take 1 9 5025,.opn 5025 (.tmp 1),.takeE 5025 11 41611,.takeE 5025 12 41612])]) (Aw4 K)
def Ayb (K:Nat)(a0:Int)(a1:Int):Option (Int):=((Gy K a0 0 1000000000).bind fun r1=>(bif r1 then((Aro K a1).bind fun r2=>(bif (!r2)then some 0 else(if a1≠(0:Int)then some (An9 .i64 (Alp .i64 (An8 .i64 (An7 .i64 a0 a1) 1) a1) a1)else none)))else some 0))
def Bv8:=ct (fd Tryz.func315 ⟨[.v 3,.v 3],[.v 3],true⟩ (gC (A1i K) (gC (Beo K) gN)) [6,7,8]) (Ayb K)
def Awp (K:Nat)(a0:Eb)(a1:Au)(a2:Int)(a3:Int):Option (Int×Bool):=((Aqg K a0 a1).bind fun r1=>(bif r1 then(bif (a1.Ade==0)then some (0,false)else((Gy K a2 1 a0.Hi).bind fun r2=>(bif r2 then((Aro K a3).bind fun r3=>(bif (!r3)then some (0,false)else((Ayb K a1.S9 a3).bind fun r4=>(bif (decide ((An7 .i64 r4 a2)>a0.Hi))then some (0,false)else some ((An7 .i64 (An9 .i64 (An8 .i64 a1.Ade 1) a0.Hi) r4),true)))))else some (0,false))))else some (0,false)))
def Bpp:=ct (fd Tryz.func314 ⟨[.v 25,.v 50,.v 3,.v 3],[.v 3,.v 4],true⟩ (gC (A8w K) (gC (A1i K) (gC (Beo K) (gC (Bv8 K) gN)))) [13,14,15,18,19,20,24,25,26,27]) (Awp K)
def Au3 (K:Nat)(a0:Eb)(a1:Au)(a2:Int)(a3:Int):Option (Bool):=((Awp K a0 a1 a2 a3).bind fun r1=>(bif r1.2 then some false else((Aqg K a0 a1).bind fun r2=>(bif r2 then(bif (a1.Vt==1)then((Gy K a2 1 a0.Hi).bind fun r3=>(bif r3 then((Aro K a3).bind fun r4=>some r4)else some false))else some false)else some false))))
def Bv9:=ct (fd Tryz.func312 ⟨[.v 25,.v 50,.v 3,.v 3],[.v 4],true⟩ (gC (A8w K) (gC (A1i K) (gC (Beo K) (gC (Bpp K) gN)))) [19,20,21,24,25,26,29,30,31,35,36,37]) (Au3 K)
def Aue (K:Nat)(a0:Eb)(a1:Au)(a2:Int)(a3:Int):Option (Au×Bool):=((An0 K a1).bind fun r1=>((Awp K a0 a1 a2 a3).bind fun r2=>(bif r2.2 then(bif (decide ((a1.Ga.length:Int)≥12))then some (r1,false)else(if(r1.Ga++([(Bd.mk r2.1 a2 0)]:List Bd)).length*24≤140737488355328∧(r1.Ga++([(Bd.mk r2.1 a2 0)]:List Bd)).length≤maxLen then some ((Au.mk r1.Vt r1.Dc r1.S5 r1.fUp r1.S6 r1.Eg r1.S7 r1.S8 r1.Az r1.Ade (An7 .i64 (An8 .i64 r2.1 (An9 .i64 (An8 .i64 a1.Ade 1) a0.Hi)) a2) (r1.Ga++([(Bd.mk r2.1 a2 0)]:List Bd)) r1.Fo),true)else none))else some (r1,false))))
def Bpq:=ct (fd Tryz.func308 ⟨[.v 25,.v 50,.v 3,.v 3],[.n 50 false,.v 4],true⟩ (gC (A8v K) (gC (Bpp K) gN)) [23,24,25]) (Aue K)
def Ar8 (K:Nat)(a1:Int)(a2:Int)(a3:Int)(v7:Int)(v8:Int)(v9:Int)(v10:Int)(v11:Int)(v12:Int)(v13:List Int)(v14:List Int)(v15:List Int)(v16:List Au)(v17:List A1)(v18:List Int)(v19:Ex)(v20:Int)(v21:Int)(v22:Int)(v23:Int)(v24:Int)(v25:Int)(v26:Int)(v27:List Int)(v28:Int)(v29:Int)(v30:Int):Option (Ex×C8):=(if(0:Int)≤a1∧a1<(v16.length:Int)then(if(0:Int)≤a1∧a1<(v16.length:Int)then((Aue K (Eb.mk v7 v8 v9 v10 v11 v12) (gt v16 a1) a2 a3).bind fun r31=>(if(0:Int)≤a1∧a1<(v16.length:Int)then some ((Ex.mk v20 (An.mk v21 v22) (Bq.mk (An.mk v23 v24) v25 v26) v27 v28 v29 v30),(C8.mk (Eb.mk v7 v8 v9 v10 v11 v12) (Dp.mk v13 v14 v15) (v16.set a1.toNat r31.1) v17 v18))else none))else none)else none)
def Aw5 (K:Nat)(a0:C8)(a1:Int)(a2:Int)(a3:Int)(a4:Ex):Option (Ex×C8):=(if(0:Int)≤a1∧a1<(a0.fL.length:Int)then(if(0:Int)≤a1∧a1<(a0.fL.length:Int)then((Au3 K a0.fC (gt a0.fL a1) a2 a3).bind fun r1=>(bif r1 then((Arx K a0 1).bind fun r2=>(bif (!r2)then some ((Ex.mk 5 a4.fH a4.fR a4.fB a4.Xd a4.G8 a4.Po),a0)else((Awo K a0 0 1).bind fun r3=>((Av1 K r3.2.fP).bind fun r4=>(bif (decide (r4<0))then some ((Ex.mk 5 a4.fH a4.fR a4.fB a4.Xd a4.G8 r3.1),r3.2)else((Arn K r3.2.fP r4 1 a1).bind fun r5=>(if(0:Int)≤a1∧a1<(r3.2.fL.length:Int)then(if(0:Int)≤a1∧a1<(r3.2.fL.length:Int)then((Aut K r3.2.fC (gt r3.2.fL a1) r4).bind fun r6=>(if(0:Int)≤a1∧a1<(r3.2.fL.length:Int)then(Ar8 K a1 a2 a3 r3.2.fC.Az r3.2.fC.Hi r3.2.fC.Fb r3.2.fC.G8 r3.2.fC.Fc r3.2.fC.Hj r5.Pm r5.Vt r5.Pn (r3.2.fL.set a1.toNat r6.1) r3.2.fQ r3.2.Adf (Ex.mk 0 (An.mk 0 0) (Bq.mk (An.mk 0 0) 0 0) [] 0 0 0) a4.Xc a4.fH.Bk a4.fH.Dc a4.fR.fH.Bk a4.fR.fH.Dc a4.fR.S5 a4.fR.fNo a4.fB a4.Xd a4.G8 r3.1)else none))else none)else none)))))))else(Ar8 K a1 a2 a3 a0.fC.Az a0.fC.Hi a0.fC.Fb a0.fC.G8 a0.fC.Fc a0.fC.Hj a0.fP.Pm a0.fP.Vt a0.fP.Pn a0.fL a0.fQ a0.Adf (Ex.mk 0 (An.mk 0 0) (Bq.mk (An.mk 0 0) 0 0) [] 0 0 0) a4.Xc a4.fH.Bk a4.fH.Dc a4.fR.fH.Bk a4.fR.fH.Dc a4.fR.S5 a4.fR.fNo a4.fB a4.Xd a4.G8 a4.Po)))else none)else none)
def Bwa:=fd Tryz.func298 ⟨[.b 32 false,.v 3,.v 3,.v 3,.v 73],[.v 73],false⟩ (gC (Bh0 K) (gC (Bh7 K) (gC (Bpm K) (gC (Bia K) (gC (Big K) (gC (Bpq K) (gC (Bv9 K) gN))))))) [] [3] [(1,[.take 1 9 5025,.opn 5025 (.tmp 1),.takeE 5025 11 41611,.takeE 5025 12 41612]),(2,[.take 1 6 5022,.take 1 7 5023,.take 1 8 5024,.take 1 10 5026,.take 1 11 5027,.put 5025]),(5,[.put 1]),(6,[.take 1 6 5022,.take 1 7 5023,.take 1 8 5024]),(11,[.take 1 9 5025,.opn 5025 (.tmp 1),.takeE 5025 11 41611,.takeE 5025 12 41612]),(13,[.take 1 9 5025,.opn 5025 (.tmp 1),.takeE 5025 11 41611,.takeE 5025 12 41612])]
def Byq:El:=⟨[(0,.p 1),(1,.v 2),(2,.v 2),(3,.v 2),(9,.p 109),(10,.p 110)],[(1,.box [.v 2,.v 2,.v 2,.v 2,.v 2,.v 2,.T 5 true,.T 3 true,.T 3 true,.T 50 true,.T 52 false,.T 3 true]),(110,.st 73 true),(109,.box [.v 2,.v 2,.v 2,.v 2,.v 2,.v 2,.v 2,.v 22,.v 2,.v 2,.v 2])]⟩
def Bq9:=jn (Bwa K) 3 Byq [] (Ar8 K) kN
def Bwb:=ct (Bwa K) (Aw5 K) (kC (Bq9 K) kN)
def Ar9 (K:Nat)(a1:An)(v5:Int)(v22:Int)(v23:Int)(v24:Int)(v25:Int)(v26:Int)(v27:Int)(v28:List Int)(v29:List Int)(v30:List Int)(v31:List Au)(v32:List A1)(v33:List Int)(v34:Int)(v35:Int)(v36:Int)(v37:Int)(v38:Int)(v39:Int)(v40:Int)(v41:List Int)(v42:Int)(v43:Int)(v44:Int):Option (Ex×C8):=(bif (v34 != 0)then some ((Ex.mk v34 (An.mk v35 v36) (Bq.mk (An.mk v37 v38) v39 v40) v41 v42 v43 v44),(C8.mk (Eb.mk v22 v23 v24 v25 v26 v27) (Dp.mk v28 v29 v30) v31 v32 v33))else(if(0:Int)≤v5∧v5<(v31.length:Int)then(if(0:Int)≤v5∧v5<(v31.length:Int)then(if(0:Int)≤v5∧v5<(v31.length:Int)then((Avj K (C8.mk (Eb.mk v22 v23 v24 v25 v26 v27) (Dp.mk v28 v29 v30) v31 v32 v33) v25).bind fun r45=>some ((Ex.mk v34 (An.mk v35 v36) (Bq.mk a1 ((gt v31 v5).S5) (An8 .i64 (((gt v31 v5).Ga).length:Int) 1)) v41 v42 r45.1 v44),r45.2))else none)else none)else none))
def Aqq (K:Nat)(a1:An)(a2:Int)(a3:Int)(v5:Int)(v6:Int)(v7:Int)(v8:Int)(v9:Int)(v10:Int)(v11:Int)(v12:List Int)(v13:List Int)(v14:List Int)(v15:List Au)(v16:List A1)(v17:List Int)(v18:Ex)(v19:Ex):Option (Ex×C8):=(bif (v18.Xc != 0)then some (v18,(C8.mk (Eb.mk v6 v7 v8 v9 v10 v11) (Dp.mk v12 v13 v14) v15 v16 v17))else((Apm K (Eb.mk v6 v7 v8 v9 v10 v11) a2).bind fun r20=>(bif r20 then((Aw4 K (C8.mk (Eb.mk v6 v7 v8 v9 v10 v11) (Dp.mk v12 v13 v14) v15 v16 v17) v5 a2 v18).bind fun r21=>(Ar9 K a1 v5 r21.2.fC.Az r21.2.fC.Hi r21.2.fC.Fb r21.2.fC.G8 r21.2.fC.Fc r21.2.fC.Hj r21.2.fP.Pm r21.2.fP.Vt r21.2.fP.Pn r21.2.fL r21.2.fQ r21.2.Adf r21.1.Xc r21.1.fH.Bk r21.1.fH.Dc r21.1.fR.fH.Bk r21.1.fR.fH.Dc r21.1.fR.S5 r21.1.fR.fNo r21.1.fB r21.1.Xd r21.1.G8 r21.1.Po))else((Aw5 K (C8.mk (Eb.mk v6 v7 v8 v9 v10 v11) (Dp.mk v12 v13 v14) v15 v16 v17) v5 a2 a3 v18).bind fun r46=>(Ar9 K a1 v5 r46.2.fC.Az r46.2.fC.Hi r46.2.fC.Fb r46.2.fC.G8 r46.2.fC.Fc r46.2.fC.Hj r46.2.fP.Pm r46.2.fP.Vt r46.2.fP.Pn r46.2.fL r46.2.fQ r46.2.Adf r46.1.Xc r46.1.fH.Bk r46.1.fH.Dc r46.1.fR.fH.Bk r46.1.fR.fH.Dc r46.1.fR.S5 r46.1.fR.fNo r46.1.fB r46.1.Xd r46.1.G8 r46.1.Po)))))
def Aw6 (K:Nat)(a0:C8)(a1:An)(a2:Int)(a3:Int):Option (Ex×C8):=((Gy K a2 1 200).bind fun r1=>(bif r1 then((Aro K a3).bind fun r2=>(bif (!r2)then some ((Ex.mk 1 (An.mk 0 0) (Bq.mk (An.mk 0 0) 0 0) [] 0 0 0),a0)else((An3 K a0 a1).bind fun r3=>((Api K a0 a1).bind fun r4=>(bif (r3.2==0)then(if(0:Int)≤r3.1∧r3.1<(a0.fL.length:Int)then(if(0:Int)≤r3.1∧r3.1<(a0.fL.length:Int)then(bif (decide ((((gt a0.fL r3.1).Ga).length:Int)≥12))then(Aqq K a1 a2 a3 r3.1 a0.fC.Az a0.fC.Hi a0.fC.Fb a0.fC.G8 a0.fC.Fc a0.fC.Hj a0.fP.Pm a0.fP.Vt a0.fP.Pn a0.fL a0.fQ a0.Adf (Ex.mk 8 (An.mk 0 0) (Bq.mk (An.mk 0 0) 0 0) [] r4 0 0) (Ex.mk 0 (An.mk 0 0) (Bq.mk (An.mk 0 0) 0 0) [] 0 0 0))else(Aqq K a1 a2 a3 r3.1 a0.fC.Az a0.fC.Hi a0.fC.Fb a0.fC.G8 a0.fC.Fc a0.fC.Hj a0.fP.Pm a0.fP.Vt a0.fP.Pn a0.fL a0.fQ a0.Adf (Ex.mk r3.2 (An.mk 0 0) (Bq.mk (An.mk 0 0) 0 0) [] r4 0 0) (Ex.mk 0 (An.mk 0 0) (Bq.mk (An.mk 0 0) 0 0) [] 0 0 0)))else none)else none)else(Aqq K a1 a2 a3 r3.1 a0.fC.Az a0.fC.Hi a0.fC.Fb a0.fC.G8 a0.fC.Fc a0.fC.Hj a0.fP.Pm a0.fP.Vt a0.fP.Pn a0.fL a0.fQ a0.Adf (Ex.mk r3.2 (An.mk 0 0) (Bq.mk (An.mk 0 0) 0 0) [] r4 0 0) (Ex.mk 0 (An.mk 0 0) (Bq.mk (An.mk 0 0) 0 0) [] 0 0 0)))))))else some ((Ex.mk 1 (An.mk 0 0) (Bq.mk (An.mk 0 0) 0 0) [] 0 0 0),a0)))
def Bra:=fd Tryz.func264 ⟨[.b 32 false,.v 36,.v 3,.v 3],[.v 73],false⟩ (gC (A1i K) (gC (A8u K) (gC (A6z K) (gC (Bic K) (gC (Bih K) (gC (Beo K) (gC (Bv7 K) (gC (Bwb K) gN)))))))) [13,14,15,37,38] [31,127] [(3,[.take 1 6 5022,.take 1 7 5023,.take 1 8 5024,.take 1 9 5025,.take 1 10 5026,.take 1 11 5027]),(8,[.take 111 7 6783]),(10,[.take 111 7 6783,.frz 6783]),(11,[.take 111 7 6783,.frz 6783]),(14,[.take 1 9 5025,.opn 5025 (.tmp 9),.takeE 5025 11 41611]),(15,[.put 1])] [(43,[.opn 5025 (.tmp 43)]),(45,[.takeE 5025 11 41611])]
def Byr:El:=⟨[(0,.p 1),(5,.p 105),(8,.p 108),(9,.v 2),(11,.p 111)],[(1,.box [.v 2,.v 2,.v 2,.v 2,.v 2,.v 2,.T 5 true,.T 3 true,.T 3 true,.T 50 true,.T 52 false,.T 3 true]),(111,.box [.v 2,.v 2,.v 2,.v 2,.v 2,.v 2,.v 2,.v 22,.v 2,.v 2,.v 2]),(108,.st 73 true),(105,.st 36 true)]⟩
def Bys:El:=⟨[(0,.p 1),(2,.v 2),(3,.v 2),(5,.p 105),(8,.p 108),(9,.v 2),(11,.p 111)],[(1,.box [.v 2,.v 2,.v 2,.v 2,.v 2,.v 2,.T 5 true,.T 3 true,.T 3 true,.T 50 true,.T 52 false,.T 3 true]),(111,.st 73 true),(108,.st 73 true),(105,.st 36 true)]⟩
def Bik:=jn (Bra K) 127 Byr [] (fun a b c d e f g h i j k l m o p q r s t u v w x y _ a1=>Ar9 K a1 a b c d e f g h i j k l m o p q r s t u v w x y) kN
def Bnl:=jn (Bra K) 31 Bys [] (fun a b c d e f g h i j k l m o p q r s=>Aqq K s a b c d e f g h i j k l m o p q r) (kC (Bik K) kN)
def Bwc:=ct (Bra K) (Aw6 K) (kC (Bnl K) kN)
def Ayc (K:Nat)(a0:Au):Option (Au):=((An0 K a0).bind fun r1=>some (Au.mk r1.Vt r1.Dc (An7 .i64 a0.S5 1) r1.fUp r1.S6 0 r1.S7 r1.S8 ([]:List Int) 0 0 ([]:List Bd) ([]:List Int)))
def Bwd:=ct (fd Tryz.func164 ⟨[.v 50],[.n 50 false],true⟩ (gC (A8v K) gN)) (Ayc K)
def Asa (K:Nat)(a0:C8)(a1:Int):Option (C8):=(if(0:Int)≤a1∧a1<(a0.fL.length:Int)then(if(0:Int)≤a1∧a1<(a0.fL.length:Int)then((As0 K (gt a0.fL a1) 0).bind fun r1=>(if(0:Int)≤a1∧a1<(a0.fL.length:Int)then((Ara K a0 ((gt a0.fL a1).Az)).bind fun r2=>(if(0:Int)≤a1∧a1<(r2.fL.length:Int)then(if(0:Int)≤a1∧a1<(r2.fL.length:Int)then((Ayc K (gt r2.fL a1)).bind fun r3=>(if(0:Int)≤a1∧a1<(r2.fL.length:Int)then(if(r2.fQ++([r1]:List A1)).length*72≤140737488355328∧(r2.fQ++([r1]:List A1)).length≤maxLen then some (C8.mk r2.fC r2.fP (r2.fL.set a1.toNat r3) (r2.fQ++([r1]:List A1)) r2.Adf)else none)else none))else none)else none))else none))else none)else none)
def Bpr:=ct (fd Tryz.func84 ⟨[.b 32 false,.v 3],[],false⟩ (gC (Bh5 K) (gC (Bh4 K) (gC (Bwd K) gN))) [] [] [(0,[.take 1 9 5025,.opn 5025 (.tmp 1),.takeE 5025 11 41611,.takeE 5025 12 41612]),(1,[.put 1,.take 1 9 5025]),(2,[.take 1 9 5025,.opn 5025 (.tmp 1),.takeE 5025 11 41611,.takeE 5025 12 41612]),(3,[.take 1 10 5026,.frz 20384,.frz 20385])] [(21,[.put 1])]) (Asa K)
def Auf (K:Nat)(a1:Int)(v21:List Au):Option ((List Au)):=(if(0:Int)≤a1∧a1<(v21.length:Int)then(Aqi (v21.set a1.toNat (Au.mk ((gt v21 a1).Vt) ((gt v21 a1).Dc) ((gt v21 a1).S5) 0 ((gt v21 a1).S6) ((gt v21 a1).Eg) ((gt v21 a1).S7) ((gt v21 a1).S8) ((gt v21 a1).Az) ((gt v21 a1).Ade) ((gt v21 a1).S9) ((gt v21 a1).Ga) ((gt v21 a1).Fo))) fun v22=>(if(0:Int)≤a1∧a1<(v22.length:Int)then(Aqi (v22.set a1.toNat (Au.mk ((gt v22 a1).Vt) ((gt v22 a1).Dc) ((gt v22 a1).S5) ((gt v22 a1).fUp) 0 ((gt v22 a1).Eg) ((gt v22 a1).S7) ((gt v22 a1).S8) ((gt v22 a1).Az) ((gt v22 a1).Ade) ((gt v22 a1).S9) ((gt v22 a1).Ga) ((gt v22 a1).Fo))) fun v23=>(if(0:Int)≤a1∧a1<(v23.length:Int)then(Aqi (v23.set a1.toNat (Au.mk ((gt v23 a1).Vt) ((gt v23 a1).Dc) ((gt v23 a1).S5) ((gt v23 a1).fUp) ((gt v23 a1).S6) ((gt v23 a1).Eg) 0 ((gt v23 a1).S8) ((gt v23 a1).Az) ((gt v23 a1).Ade) ((gt v23 a1).S9) ((gt v23 a1).Ga) ((gt v23 a1).Fo))) fun v24=>(if(0:Int)≤a1∧a1<(v24.length:Int)then(Aqi (v24.set a1.toNat (Au.mk ((gt v24 a1).Vt) ((gt v24 a1).Dc) ((gt v24 a1).S5) ((gt v24 a1).fUp) ((gt v24 a1).S6) ((gt v24 a1).Eg) ((gt v24 a1).S7) 0 ((gt v24 a1).Az) ((gt v24 a1).Ade) ((gt v24 a1).S9) ((gt v24 a1).Ga) ((gt v24 a1).Fo))) fun v25=>some v25)else none))else none))else none))else none)
def Ar1 (K:Nat)(a0:List Au)(a1:Int)(v5:List Au)(v6:Int)(v7:Int)(v8:Int)(v9:Int)(v10:Int)(v11:Int)(v12:Int)(v13:Int)(v14:List Int)(v15:Int)(v16:Int)(v17:List Bd)(v18:List Int):Option ((List Au)):=((Aeq K a0 v12).bind fun r19=>(bif r19 then(if(0:Int)≤(An8 .i64 v12 1)∧(An8 .i64 v12 1)<(v5.length:Int)then(Aqi (v5.set (An8 .i64 v12 1).toNat (Au.mk ((gt v5 (An8 .i64 v12 1)).Vt) ((gt v5 (An8 .i64 v12 1)).Dc) ((gt v5 (An8 .i64 v12 1)).S5) ((gt v5 (An8 .i64 v12 1)).fUp) ((gt v5 (An8 .i64 v12 1)).S6) ((gt v5 (An8 .i64 v12 1)).Eg) ((gt v5 (An8 .i64 v12 1)).S7) v13 ((gt v5 (An8 .i64 v12 1)).Az) ((gt v5 (An8 .i64 v12 1)).Ade) ((gt v5 (An8 .i64 v12 1)).S9) ((gt v5 (An8 .i64 v12 1)).Ga) ((gt v5 (An8 .i64 v12 1)).Fo))) fun v20=>(Auf K a1 v20))else none)else(Auf K a1 v5)))
def Aqy (K:Nat)(a0:List Au)(a1:Int)(r1:(List Au))(v27:Bool)(v28:Int)(v29:Int)(v30:Int)(v31:Int)(v32:Int)(v33:Int)(v34:Int)(v35:Int)(v36:List Int)(v37:Int)(v38:Int)(v39:List Bd)(v40:List Int):Option ((List Au)):=(bif v27 then(if(0:Int)≤(An8 .i64 v31 1)∧(An8 .i64 v31 1)<(r1.length:Int)then(Aqi (r1.set (An8 .i64 v31 1).toNat (Au.mk ((gt r1 (An8 .i64 v31 1)).Vt) ((gt r1 (An8 .i64 v31 1)).Dc) ((gt r1 (An8 .i64 v31 1)).S5) ((gt r1 (An8 .i64 v31 1)).fUp) ((gt r1 (An8 .i64 v31 1)).S6) v34 ((gt r1 (An8 .i64 v31 1)).S7) ((gt r1 (An8 .i64 v31 1)).S8) ((gt r1 (An8 .i64 v31 1)).Az) ((gt r1 (An8 .i64 v31 1)).Ade) ((gt r1 (An8 .i64 v31 1)).S9) ((gt r1 (An8 .i64 v31 1)).Ga) ((gt r1 (An8 .i64 v31 1)).Fo))) fun v41=>(Ar1 K a0 a1 v41 v28 v29 v30 v31 v32 v33 v34 v35 v36 v37 v38 v39 v40))else none)else(Ar1 K a0 a1 r1 v28 v29 v30 v31 v32 v33 v34 v35 v36 v37 v38 v39 v40))
def Azh (K:Nat)(a0:List Au)(a1:Int):Option ((List Au)):=((At4 K a0).bind fun r1=>((Aeq K a0 (An7 .i64 a1 1)).bind fun r2=>(bif (!r2)then some r1 else(if(0:Int)≤a1∧a1<(a0.length:Int)then((Aeq K a0 ((gt a0 a1).S8)).bind fun r3=>(bif r3 then(if(0:Int)≤(An8 .i64 ((gt a0 a1).S8) 1)∧(An8 .i64 ((gt a0 a1).S8) 1)<(r1.length:Int)then(Aqi (r1.set (An8 .i64 ((gt a0 a1).S8) 1).toNat (Au.mk ((gt r1 (An8 .i64 ((gt a0 a1).S8) 1)).Vt) ((gt r1 (An8 .i64 ((gt a0 a1).S8) 1)).Dc) ((gt r1 (An8 .i64 ((gt a0 a1).S8) 1)).S5) ((gt r1 (An8 .i64 ((gt a0 a1).S8) 1)).fUp) ((gt r1 (An8 .i64 ((gt a0 a1).S8) 1)).S6) ((gt r1 (An8 .i64 ((gt a0 a1).S8) 1)).Eg) ((gt a0 a1).S7) ((gt r1 (An8 .i64 ((gt a0 a1).S8) 1)).S8) ((gt r1 (An8 .i64 ((gt a0 a1).S8) 1)).Az) ((gt r1 (An8 .i64 ((gt a0 a1).S8) 1)).Ade) ((gt r1 (An8 .i64 ((gt a0 a1).S8) 1)).S9) ((gt r1 (An8 .i64 ((gt a0 a1).S8) 1)).Ga) ((gt r1 (An8 .i64 ((gt a0 a1).S8) 1)).Fo))) fun v4=>(Ar1 K a0 a1 v4 ((gt a0 a1).Vt) ((gt a0 a1).Dc) ((gt a0 a1).S5) ((gt a0 a1).fUp) ((gt a0 a1).S6) ((gt a0 a1).Eg) ((gt a0 a1).S7) ((gt a0 a1).S8) ((gt a0 a1).Az) ((gt a0 a1).Ade) ((gt a0 a1).S9) ((gt a0 a1).Ga) ((gt a0 a1).Fo)))else none)else(bif (((gt a0 a1).S8)==0)then((Aeq K a0 ((gt a0 a1).fUp)).bind fun r26=>(bif r26 then(if(0:Int)≤(An8 .i64 ((gt a0 a1).fUp) 1)∧(An8 .i64 ((gt a0 a1).fUp) 1)<(a0.length:Int)then(Aqy K a0 a1 r1 (((gt a0 (An8 .i64 ((gt a0 a1).fUp) 1)).Eg)==(An7 .i64 a1 1)) ((gt a0 a1).Vt) ((gt a0 a1).Dc) ((gt a0 a1).S5) ((gt a0 a1).fUp) ((gt a0 a1).S6) ((gt a0 a1).Eg) ((gt a0 a1).S7) ((gt a0 a1).S8) ((gt a0 a1).Az) ((gt a0 a1).Ade) ((gt a0 a1).S9) ((gt a0 a1).Ga) ((gt a0 a1).Fo))else none)else(Aqy K a0 a1 r1 false ((gt a0 a1).Vt) ((gt a0 a1).Dc) ((gt a0 a1).S5) ((gt a0 a1).fUp) ((gt a0 a1).S6) ((gt a0 a1).Eg) ((gt a0 a1).S7) ((gt a0 a1).S8) ((gt a0 a1).Az) ((gt a0 a1).Ade) ((gt a0 a1).S9) ((gt a0 a1).Ga) ((gt a0 a1).Fo))))else(Aqy K a0 a1 r1 false ((gt a0 a1).Vt) ((gt a0 a1).Dc) ((gt a0 a1).S5) ((gt a0 a1).fUp) ((gt a0 a1).S6) ((gt a0 a1).Eg) ((gt a0 a1).S7) ((gt a0 a1).S8) ((gt a0 a1).Az) ((gt a0 a1).Ade) ((gt a0 a1).S9) ((gt a0 a1).Ga) ((gt a0 a1).Fo)))))else none))))
def Bnm:=fd Tryz.func162 ⟨[.v 29,.v 3],[.n 29 true],false⟩ (gC (Bem K) (gC (A5x K) gN)) [35,36,40,41,42] [31,63,499]
def Bwe:El:=⟨[(1,.v 2),(5,.o 1005 50 true)],[]⟩
def Byt:El:=⟨[(0,.v 29),(1,.v 2),(5,.o 1005 50 true),(6,.p 106)],[(106,.box [.v 2,.v 2,.v 2,.v 2,.v 2,.v 2,.v 2,.v 2,.v 26,.v 2,.v 2,.v 48,.v 26])]⟩
def Byu:El:=⟨[(0,.v 29),(1,.v 2),(5,.o 1005 50 true),(6,.p 106),(32,.v 4)],[(106,.box [.v 2,.v 2,.v 2,.v 2,.v 2,.v 2,.v 2,.v 2,.v 26,.v 2,.v 2,.v 48,.v 26])]⟩
def Bnn:=jn (Bnm K) 63 Bwe [] (Auf K) kN
def Bep:=jn (Bnm K) 31 Byt [] (Ar1 K) (kC (Bnn K) kN)
def Bil:=jn (Bnm K) 499 Byu [] (Aqy K) (kC (Bep K) kN)
def Bwf:=ct (Bnm K) (Azh K) (kC (Bep K) (kC (Bil K) kN))
def Aug (K:Nat)(a0:C8)(a1:Int):Option (C8):=(if(0:Int)≤a1∧a1<(a0.fL.length:Int)then(if(0:Int)≤a1∧a1<(a0.fL.length:Int)then((As0 K (gt a0.fL a1) (An7 .i64 a1 1)).bind fun r1=>(if(0:Int)≤a1∧a1<(a0.fL.length:Int)then((Ara K a0 ((gt a0.fL a1).Az)).bind fun r2=>((Azh K r2.fL a1).bind fun r3=>(if(0:Int)≤a1∧a1<(r3.length:Int)then(if(0:Int)≤a1∧a1<(r3.length:Int)then((Azw K (gt r3 a1)).bind fun r4=>(if(0:Int)≤a1∧a1<(r3.length:Int)then(if(r2.fQ++([r1]:List A1)).length*72≤140737488355328∧(r2.fQ++([r1]:List A1)).length≤maxLen then some (C8.mk r2.fC r2.fP (r3.set a1.toNat r4) (r2.fQ++([r1]:List A1)) r2.Adf)else none)else none))else none)else none)))else none))else none)else none)
def Bps:=ct (fd Tryz.func82 ⟨[.b 32 false,.v 3],[],false⟩ (gC (Bh5 K) (gC (Bh4 K) (gC (Bwf K) (gC (Bpk K) gN)))) [] [] [(0,[.take 1 9 5025,.opn 5025 (.tmp 1),.takeE 5025 11 41611,.takeE 5025 12 41612]),(1,[.put 1,.take 1 9 5025]),(2,[.take 1 9 5025,.frz 5025]),(3,[.opn 3031 (.tmp 1),.takeE 3031 11 41995,.takeE 3031 12 41996]),(4,[.take 1 10 5026,.frz 20448,.frz 20449])] [(23,[.put 1])]) (Aug K)
def Ayd (K:Nat)(a0:A1):Option (A1):=(if(([]:List Int)++a0.Fo).length*8≤140737488355328∧(([]:List Int)++a0.Fo).length≤maxLen then(if(([]:List Int)++a0.Az).length*8≤140737488355328∧(([]:List Int)++a0.Az).length≤maxLen then some (A1.mk a0.Bk a0.Eg (([]:List Int)++a0.Fo) (([]:List Int)++a0.Az) a0.Xa)else none)else none)
def Bwg:=ct (fd Tryz.func159 ⟨[.v 52],[.n 52 true],true⟩ gN) (Ayd K)
def Ap9 (K:Nat):Nat->Int->Int->Int->Int->Int->Int->Int->(List Int)->(List Int)->(List Int)->(List Au)->(List A1)->(List Int)->C8->Int->Int->Int->Int->Int->Int->(List Int)->(List Int)->(List Int)->(List Au)->(List A1)->(List Int)->Option (C8)
 |0,_,_,_,_,_,_,_,_,_,_,_,_,_,_,_,_,_,_,_,_,_,_,_,_,_,_=>none
 |n1+1,v3,v4,v5,v6,v7,v8,v9,v10,v11,v12,v13,v14,v15,v16,v17,v18,v19,v20,v21,v22,v23,v24,v25,v26,v27,v28=>(bif (decide (v3<(v27.length:Int)))then(if(0:Int)≤v3∧v3<(v27.length:Int)then((Ayd K (gt v27 v3)).bind fun r29=>(if(v14++[r29]).length*72≤140737488355328∧(v14++[r29]).length≤maxLen then(Ap9 K n1 (An7 .i64 v3 1) v4 v5 v6 v7 v8 v9 v10 v11 v12 v13 (v14++[r29]) v15 v16 v17 v18 v19 v20 v21 v22 v23 v24 v25 v26 v27 v28)else none))else none)else(if(([]:List Int)++v28).length*8≤140737488355328∧(([]:List Int)++v28).length≤maxLen then some (C8.mk (Eb.mk v4 v5 v6 v7 v8 v9) (Dp.mk v10 v11 v12) v13 v14 (([]:List Int)++v28))else none))
def An1 (K:Nat)(a0:C8):Option (C8):=((Aq9 K a0.fP).bind fun r1=>((At4 K a0.fL).bind fun r2=>(Ap9 K K 0 a0.fC.Az a0.fC.Hi a0.fC.Fb a0.fC.G8 a0.fC.Fc a0.fC.Hj r1.Pm r1.Vt r1.Pn r2 ([]:List A1) a0.Adf (C8.mk (Eb.mk 0 0 0 0 0 0) (Dp.mk [] [] []) [] [] []) a0.fC.Az a0.fC.Hi a0.fC.Fb a0.fC.G8 a0.fC.Fc a0.fC.Hj a0.fP.Pm a0.fP.Vt a0.fP.Pn a0.fL a0.fQ a0.Adf)))
def Bwh:=fd Tryz.func80 ⟨[.v 32],[.n 32 true],false⟩ (gC (Bek K) (gC (Bem K) (gC (Bwg K) gN))) [] [] [(9,[.take 103 10 6658]),(11,[.take 103 6 6654,.take 103 7 6655,.take 103 8 6656,.take 103 9 6657,.take 103 10 6658])] [(33,[.put 3033])]
def Byv:El:=⟨[(1,.p 101),(2,.p 102),(3,.p 103),(4,.v 2)],[(103,.box [.v 2,.v 2,.v 2,.v 2,.v 2,.v 2,.T 5 true,.T 3 true,.T 3 true,.T 50 true,.T 52 true,.v 26]),(102,.st 32 true),(101,.box [.v 2,.v 2,.v 2,.v 2,.v 2,.v 2,.v 22,.v 26,.v 26,.v 29,.v 30,.v 26])]⟩
def Bim:=lp (Bwh K) 506 Byv [] (Ap9 K) (fun n=>kN)
def A60:=ct (Bwh K) (An1 K) (kC (Bim K K) kN)
def Aqh (K:Nat)(a0:List Au)(a1:Int):Option (Bool):=(bif (a1==0)then some true else((Aeq K a0 a1).bind fun r1=>(bif r1 then(if(0:Int)≤(An8 .i64 a1 1)∧(An8 .i64 a1 1)<(a0.length:Int)then some (((gt a0 (An8 .i64 a1 1)).Vt)==1)else none)else some false)))
def Bwi:=ct (fd Tryz.func256 ⟨[.v 29,.v 3],[.v 4],true⟩ (gC (A5x K) gN) [6,7,10,11]) (Aqh K)
def As8 (K:Nat)(a0:List Au)(a1:Int):Option (Bool):=((Axv K a0 a1).bind fun r19=>(bif (decide ((r19.length:Int)≤4))then(if(0:Int)≤(An8 .i64 (r19.length:Int) 1)∧(An8 .i64 (r19.length:Int) 1)<(r19.length:Int)then((Ar6 K a0 (gt r19 (An8 .i64 (r19.length:Int) 1))).bind fun r20=>some (!r20))else none)else some false))
def Avk (K:Nat)(a0:List Au)(a1:Int)(v8:Int)(v12:Int):Option (Bool):=(bif (v12==0)then((Ar6 K a0 a1).bind fun r18=>(bif r18 then(if(0:Int)≤(An8 .i64 v8 1)∧(An8 .i64 v8 1)<(a0.length:Int)then(bif (((gt a0 (An8 .i64 v8 1)).Eg) != (An7 .i64 a1 1))then some false else(As8 K a0 a1))else none)else(As8 K a0 a1)))else(As8 K a0 a1))
def Avl (K:Nat)(a0:List Au)(a1:Int)(v8:Int)(v12:Int):Option (Bool):=(bif (v12 != 0)then(if(0:Int)≤(An8 .i64 v12 1)∧(An8 .i64 v12 1)<(a0.length:Int)then(bif (((gt a0 (An8 .i64 v12 1)).S7) != (An7 .i64 a1 1))then some false else(Avk K a0 a1 v8 v12))else none)else(Avk K a0 a1 v8 v12))
def Avm (K:Nat)(a0:List Au)(a1:Int)(v8:Int)(v9:Int)(v11:Int)(v12:Int):Option (Bool):=(bif (v11 != 0)then(if(0:Int)≤(An8 .i64 v11 1)∧(An8 .i64 v11 1)<(a0.length:Int)then(bif (((gt a0 (An8 .i64 v11 1)).S8) != (An7 .i64 a1 1))then some false else(bif (((gt a0 (An8 .i64 v11 1)).fUp) != v8)then some false else(bif (((gt a0 (An8 .i64 v11 1)).S6) != v9)then some false else(Avl K a0 a1 v8 v12))))else none)else(Avl K a0 a1 v8 v12))
def Avn (K:Nat)(a0:List Au)(a1:Int)(v5:Int)(v6:Int)(v7:Int)(v8:Int)(v9:Int)(v10:Int)(v11:Int)(v12:Int)(v13:List Int)(v14:Int)(v15:Int)(v16:List Bd)(v17:List Int):Option (Bool):=(bif (v10 != 0)then(if(0:Int)≤(An8 .i64 v10 1)∧(An8 .i64 v10 1)<(a0.length:Int)then(bif (((gt a0 (An8 .i64 v10 1)).S8) != 0)then some false else(bif (((gt a0 (An8 .i64 v10 1)).fUp) != (An7 .i64 a1 1))then some false else(bif (((gt a0 (An8 .i64 v10 1)).S6) != v7)then some false else(Avm K a0 a1 v8 v9 v11 v12))))else none)else(Avm K a0 a1 v8 v9 v11 v12))
def A0d (K:Nat)(a0:List Au)(a1:Int):Option (Bool):=(if(0:Int)≤a1∧a1<(a0.length:Int)then(bif (((gt a0 a1).fUp) != 0)then((Aeq K a0 ((gt a0 a1).fUp)).bind fun r1=>(bif r1 then((Aqh K a0 ((gt a0 a1).Eg)).bind fun r2=>(bif r2 then((Aqh K a0 ((gt a0 a1).S7)).bind fun r3=>(bif r3 then((Aqh K a0 ((gt a0 a1).S8)).bind fun r4=>(bif (!r4)then some false else(Avn K a0 a1 ((gt a0 a1).Vt) ((gt a0 a1).Dc) ((gt a0 a1).S5) ((gt a0 a1).fUp) ((gt a0 a1).S6) ((gt a0 a1).Eg) ((gt a0 a1).S7) ((gt a0 a1).S8) ((gt a0 a1).Az) ((gt a0 a1).Ade) ((gt a0 a1).S9) ((gt a0 a1).Ga) ((gt a0 a1).Fo))))else some false))else some false))else some false))else((Aqh K a0 ((gt a0 a1).Eg)).bind fun r21=>(bif r21 then((Aqh K a0 ((gt a0 a1).S7)).bind fun r22=>(bif r22 then((Aqh K a0 ((gt a0 a1).S8)).bind fun r23=>(bif (!r23)then some false else(Avn K a0 a1 ((gt a0 a1).Vt) ((gt a0 a1).Dc) ((gt a0 a1).S5) ((gt a0 a1).fUp) ((gt a0 a1).S6) ((gt a0 a1).Eg) ((gt a0 a1).S7) ((gt a0 a1).S8) ((gt a0 a1).Az) ((gt a0 a1).Ade) ((gt a0 a1).S9) ((gt a0 a1).Ga) ((gt a0 a1).Fo))))else some false))else some false)))else none)
def Bft:=fd Tryz.func193 ⟨[.v 29,.v 3],[.v 4],true⟩ (gC (Bhr K) (gC (Bhs K) (gC (A5x K) (gC (Bwi K) gN)))) [15,16,20,21,22,23,27,28,29,30,34,35,36,37,55,56,61,62,63,83,84,89,90,91,100,101,115,116,119,120,121,138,139] [7,15,31,63,127]
def Byw:El:=⟨[(0,.v 29),(1,.v 2)],[]⟩
def Ba6:El:=⟨[(0,.v 29),(1,.v 2),(5,.p 105)],[(105,.box [.v 2,.v 2,.v 2,.v 2,.v 2,.v 2,.v 2,.v 2,.v 26,.v 2,.v 2,.v 48,.v 26])]⟩
def Bin:=jn (Bft K) 127 Byw [] (As8 K) kN
def Bno:=jn (Bft K) 63 Ba6 [] (fun a b _ _ _ f _ _ _ j _ _ _ _ _=>Avk K a b f j) (kC (Bin K) kN)
def Bnp:=jn (Bft K) 31 Ba6 [] (fun a b _ _ _ f _ _ _ j _ _ _ _ _=>Avl K a b f j) (kC (Bno K) kN)
def Bnq:=jn (Bft K) 15 Ba6 [] (fun a b _ _ _ f g _ i j _ _ _ _ _=>Avm K a b f g i j) (kC (Bnp K) kN)
def Brb:=jn (Bft K) 7 Ba6 [] (Avn K) (kC (Bnq K) kN)
def Bwj:=ct (Bft K) (A0d K) (kC (Brb K) kN)
def Aw7 (K:Nat)(v1:Int)(C1:Int->Option (Bool)):Option (Bool):=(C1 (An7 .i64 v1 1))
def Apz (K:Nat)(a0:List Au):Nat->Int->Option (Bool)
 |0,_=>none
 |n1+1,v1=>(bif (decide (v1<(a0.length:Int)))then(if(0:Int)≤v1∧v1<(a0.length:Int)then(bif (((gt a0 v1).Vt)==1)then((A0d K a0 v1).bind fun r2=>(bif (!r2)then some false else(Aw7 K v1 (Apz K a0 n1))))else(Aw7 K v1 (Apz K a0 n1)))else none)else some true)
def Azi (K:Nat)(a0:List Au):Option (Bool):=(Apz K a0 K 0)
def Brc:=fd Tryz.func99 ⟨[.v 29],[.v 4],true⟩ (gC (Bwj K) gN) [15,16] [105]
def Bio:=fun(C26:CT Bh8 _)=>jn (Brc K) 105 Bh8 [(26,ar Bh8 C26)] (fun a b=>Aw7 K b (C26 a)) kN
def Bnr:=lp (Brc K) 26 Bh8 [] (fun n a=>Apz K a n) (fun n=>(kC (Bio K _) kN))
def Bwk:=ct (Brc K) (Azi K) (kC (Bnr K K) kN)
def Av2 (K:Nat)(v2:Int)(v3:List Int)(v4:List Int)(v5:List Int)(C1:Int->Int->(List Int)->(List Int)->(List Int)->Option (Int))(v6:Int):Option (Int):=(C1 v6 (An7 .i64 v2 1) v3 v4 v5)
def Ao8 (K:Nat)(a1:Int):Nat->Int->Int->(List Int)->(List Int)->(List Int)->Option (Int)
 |0,_,_,_,_,_=>none
 |n1+1,v1,v2,v3,v4,v5=>(bif (decide (v2<(v4.length:Int)))then(if(0:Int)≤v2∧v2<(v4.length:Int)then(bif ((gt v4 v2)==a1)then(Av2 K v2 v3 v4 v5 (Ao8 K a1 n1) (An7 .i64 v1 1))else(Av2 K v2 v3 v4 v5 (Ao8 K a1 n1) v1))else none)else some v1)
def Aye (K:Nat)(a0:Dp)(a1:Int):Option (Int):=(Ao8 K a1 K 0 0 a0.Pm a0.Vt a0.Pn)
def Brd:=fd Tryz.func201 ⟨[.v 28,.v 3],[.v 3],true⟩ gN [] [233]
def Bns:El:=⟨[(1,.v 2),(2,.p 102),(5,.v 2),(6,.v 2)],[(102,.box [.v 22,.v 26,.v 26])]⟩
def Bip:=fun(C58:CT Bns _)=>jn Brd 233 Bns [(58,ar Bns C58)] (fun a b c d e f=>Av2 K c d e f (C58 a) b) kN
def Bnt:=lp Brd 58 Bns [] (fun n a=>Ao8 K a n) (fun n=>(kC (Bip K _) kN))
def Bwl:=ct Brd (Aye K) (kC (Bnt K K) kN)
def As9 (K:Nat)(a0:List Au)(a1:Int):Option (Bool):=(if(0:Int)≤a1∧a1<(a0.length:Int)then(bif (((gt a0 a1).Vt)==1)then(if(0:Int)≤a1∧a1<(a0.length:Int)then(bif (((gt a0 a1).fUp) != 0)then((Ar6 K a0 a1).bind fun r1=>some (!r1))else some false)else none)else some false)else none)
def Bpt:=ct (fd Tryz.func200 ⟨[.v 29,.v 3],[.v 4],true⟩ (gC (Bhs K) gN) [10,11,17,18,19]) (As9 K)
def Auh (K:Nat)(a0:List Au):Nat->Int->(List Int)->Option ((List Int))
 |0,_,_=>none
 |n1+1,v1,v2=>((Aeq K a0 v1).bind fun r3=>(bif r3 then(bif (decide ((v2.length:Int)<(a0.length:Int)))then(if(v2++([(An8 .i64 v1 1)]:List Int)).length*8≤140737488355328∧(v2++([(An8 .i64 v1 1)]:List Int)).length≤maxLen then(if(0:Int)≤(An8 .i64 v1 1)∧(An8 .i64 v1 1)<(a0.length:Int)then(Auh K a0 n1 ((gt a0 (An8 .i64 v1 1)).S7) (v2++([(An8 .i64 v1 1)]:List Int)))else none)else none)else some v2)else some v2))
def Awq (K:Nat)(a0:List Au)(a1:Int):Option ((List Int)):=(Auh K a0 K a1 ([]:List Int))
def Bwm:=fd Tryz.func199 ⟨[.v 29,.v 3],[.n 26 true],true⟩ (gC (A5x K) gN) [9,10]
def Bnu:=lp (Bwm K) 28 h_4 [] (fun n a=>Auh K a n) (fun n=>kN)
def Bpu:=ct (Bwm K) (Awq K) (kC (Bnu K K) kN)
def Aou (K:Nat)(v4:Int)(v15:List A1)(v20:List Int)(v21:Int)(C3:(List Int)->Int->Option (Bool)):Nat->Int->Option (Bool)
 |0,_=>none
 |n5+1,v22=>(if(0:Int)≤v4∧v4<(v15.length:Int)then(bif (decide (v22<(((gt v15 v4).Az).length:Int)))then(if(0:Int)≤v21∧v21<(v15.length:Int)then(if(0:Int)≤v4∧v4<(v15.length:Int)then(if(0:Int)≤v22∧v22<(((gt v15 v4).Az).length:Int)then((Aqf K ((gt v15 v21).Az) (gt ((gt v15 v4).Az) v22)).bind fun r23=>(bif r23 then some false else(Aou K v4 v15 v20 v21 C3 n5 (An7 .i64 v22 1))))else none)else none)else none)else(C3 v20 (An7 .i64 v21 1)))else none)
def Arp (K:Nat)(v4:Int)(v15:List A1)(v20:List Int)(v21:Int)(C3:(List Int)->Int->Option (Bool)):Option (Bool):=(Aou K v4 v15 v20 v21 (C3) K 0)
def Al2 (K:Nat)(v4:Int)(v5:Int)(v6:Int)(v7:Int)(v8:Int)(v9:Int)(v10:Int)(v11:List Int)(v12:List Int)(v13:List Int)(v14:List Au)(v15:List A1)(v16:List Int)(v17:Int)(v18:Int)(C1:Int->Int->(List Int)->Int->Int->Int->Int->Int->Int->Int->(List Int)->(List Int)->(List Int)->(List Au)->(List A1)->(List Int)->Option (Bool)):Nat->(List Int)->Int->Option (Bool)
 |0,_,_=>none
 |n3+1,v20,v21=>(bif (decide (v21<v4))then(if(0:Int)≤v4∧v4<(v15.length:Int)then(bif (((gt v15 v4).Bk) != 0)then(if(0:Int)≤v21∧v21<(v15.length:Int)then(if(0:Int)≤v4∧v4<(v15.length:Int)then(bif (((gt v15 v21).Bk)==((gt v15 v4).Bk))then some false else(Arp K v4 v15 v20 v21 (Al2 K v4 v5 v6 v7 v8 v9 v10 v11 v12 v13 v14 v15 v16 v17 v18 C1 n3)))else none)else none)else(Arp K v4 v15 v20 v21 (Al2 K v4 v5 v6 v7 v8 v9 v10 v11 v12 v13 v14 v15 v16 v17 v18 C1 n3)))else none)else(C1 v17 v18 v20 (An7 .i64 v4 1) v5 v6 v7 v8 v9 v10 v11 v12 v13 v14 v15 v16))
def Arq (K:Nat)(v3:List Int)(v4:Int)(v5:Int)(v6:Int)(v7:Int)(v8:Int)(v9:Int)(v10:Int)(v11:List Int)(v12:List Int)(v13:List Int)(v14:List Au)(v15:List A1)(v16:List Int)(C1:Int->Int->(List Int)->Int->Int->Int->Int->Int->Int->Int->(List Int)->(List Int)->(List Int)->(List Au)->(List A1)->(List Int)->Option (Bool))(v17:Int)(v18:Int):Option (Bool):=(if(0:Int)≤v4∧v4<(v15.length:Int)then((Awq K v14 ((gt v15 v4).Eg)).bind fun r19=>(if(v3++r19).length*8≤140737488355328∧(v3++r19).length≤maxLen then(Al2 K v4 v5 v6 v7 v8 v9 v10 v11 v12 v13 v14 v15 v16 v17 v18 (C1) K (v3++r19) 0)else none))else none)
def At5 (K:Nat)(v25:Int)(C6:Int->Int->Option (Bool))(v27:Int):Option (Bool):=(C6 v27 (An7 .i64 v25 1))
def Al3 (K:Nat)(v1:Int)(v2:Int)(v3:List Int)(v11:List Int)(v12:List Int)(v13:List Int)(v14:List Au)(v24:Int):Nat->Int->Option (Bool)
 |0,_=>none
 |n8+1,v28=>(bif (decide (v28<(v3.length:Int)))then(if(0:Int)≤0∧0≤v28∧v28≤(v3.length:Int)then(if(0:Int)≤v28∧v28<(v3.length:Int)then((Aqf K ((v3.drop (0:Int).toNat).take (v28 - 0).toNat) (gt v3 v28)).bind fun r29=>(bif r29 then some false else(Al3 K v1 v2 v3 v11 v12 v13 v14 v24 n8 (An7 .i64 v28 1))))else none)else none)else((Aye K (Dp.mk v11 v12 v13) 2).bind fun r30=>(bif (v1==r30)then((Aqp K v14 2).bind fun r31=>(bif (v2==r31)then some ((v3.length:Int)==v24)else some false))else some false)))
def Air (K:Nat)(v1:Int)(v2:Int)(v3:List Int)(v11:List Int)(v12:List Int)(v13:List Int)(v14:List Au):Nat->Int->Int->Option (Bool)
 |0,_,_=>none
 |n6+1,v24,v25=>(bif (decide (v25<(v14.length:Int)))then((As9 K v14 v25).bind fun r26=>(bif r26 then(At5 K v25 (Air K v1 v2 v3 v11 v12 v13 v14 n6) (An7 .i64 v24 1))else(At5 K v25 (Air K v1 v2 v3 v11 v12 v13 v14 n6) v24)))else(Al3 K v1 v2 v3 v11 v12 v13 v14 v24 K 0))
def Ag3 (K:Nat):Nat->Int->Int->(List Int)->Int->Int->Int->Int->Int->Int->Int->(List Int)->(List Int)->(List Int)->(List Au)->(List A1)->(List Int)->Option (Bool)
 |0,_,_,_,_,_,_,_,_,_,_,_,_,_,_,_,_=>none
 |n1+1,v1,v2,v3,v4,v5,v6,v7,v8,v9,v10,v11,v12,v13,v14,v15,v16=>(bif (decide (v4<(v15.length:Int)))then(if(0:Int)≤v4∧v4<(v15.length:Int)then(if(0:Int)≤v4∧v4<(v15.length:Int)then(bif (((gt v15 v4).Bk) != 0)then(Arq K v3 v4 v5 v6 v7 v8 v9 v10 v11 v12 v13 v14 v15 v16 (Ag3 K n1) (An7 .i64 v1 (((gt v15 v4).Az).length:Int)) (An7 .i64 v2 1))else(Arq K v3 v4 v5 v6 v7 v8 v9 v10 v11 v12 v13 v14 v15 v16 (Ag3 K n1) (An7 .i64 v1 (((gt v15 v4).Az).length:Int)) v2))else none)else none)else(Air K v1 v2 v3 v11 v12 v13 v14 K 0 0))
def Av3 (K:Nat)(a0:C8):Option (Bool):=(Ag3 K K 0 0 ([]:List Int) 0 a0.fC.Az a0.fC.Hi a0.fC.Fb a0.fC.G8 a0.fC.Fc a0.fC.Hj a0.fP.Pm a0.fP.Vt a0.fP.Pn a0.fL a0.fQ a0.Adf)
def A9i:=fd Tryz.func107 ⟨[.v 32],[.v 4],true⟩ (gC (Ba5 K) (gC (Bpu K) (gC (Bpt K) (gC (Bwl K) (gC (Bpg K) gN))))) [60,61,134,135,140,141,142] [4073,8009,2050532]
def Byx:El:=⟨[(1,.p 101),(3,.v 2),(4,.v 2),(5,.o 1005 3 true),(6,.v 2),(7,.v 2),(8,.v 2)],[(101,.box [.v 2,.v 2,.v 2,.v 2,.v 2,.v 2,.v 22,.v 26,.v 26,.v 29,.v 30,.v 26])]⟩
def Bfu:El:=⟨[(1,.p 101),(3,.v 2),(4,.v 2),(5,.o 1005 3 true),(6,.v 2),(7,.v 2)],[(101,.box [.v 2,.v 2,.v 2,.v 2,.v 2,.v 2,.v 22,.v 26,.v 26,.v 29,.v 30,.v 26])]⟩
def A8e:El:=⟨[(1,.p 101),(3,.v 2),(4,.v 2),(5,.o 1005 3 true),(6,.v 2)],[(101,.box [.v 2,.v 2,.v 2,.v 2,.v 2,.v 2,.v 22,.v 26,.v 26,.v 29,.v 30,.v 26])]⟩
def Bnv:El:=⟨[(1,.p 101),(3,.v 2),(4,.v 2),(5,.o 1005 3 true),(9,.v 2),(10,.v 2)],[(101,.box [.v 2,.v 2,.v 2,.v 2,.v 2,.v 2,.v 22,.v 26,.v 26,.v 29,.v 30,.v 26])]⟩
def Byy:El:=⟨[(1,.p 101),(3,.v 2),(4,.v 2),(5,.o 1005 3 true),(9,.v 2),(11,.v 2)],[(101,.box [.v 2,.v 2,.v 2,.v 2,.v 2,.v 2,.v 22,.v 26,.v 26,.v 29,.v 30,.v 26])]⟩
def A8f:=fun(C250:CT A8e _) (C128158:CT Bfu _)=>lp (A9i K) 16404262 Byx [(128158,ar Bfu C128158),(250,ar A8e C250)] (fun n a b c d e f g h i j k l m o p q r s=>Aou K d r c e (fun v20 v21=>C128158 a b v20 d v21 g h i j k l m o p q r s) n f) (fun n=>kN)
def A9j:=fun(C250:CT A8e _) (C128158:CT Bfu _)=>jn (A9i K) 2050532 Bfu [(128158,ar Bfu C128158),(250,ar A8e C250)] (fun a b c d e f g h i j k l m o p q r=>Arp K d q c e (fun v20 v21=>C128158 a b v20 d v21 f g h i j k l m o p q r)) (kC (A8f K _ _ K) kN)
def Ba7:=fun(C250:CT A8e _)=>lp (A9i K) 128158 Bfu [(250,ar A8e C250)] (fun n a b c d e f g h i j k l m o p q r=>Al2 K d f g h i j k l m o p q r a b C250 n c e) (fun n=>(kC (A9j K _ _) kN))
def Bfv:=fun(C250:CT A8e _)=>jn (A9i K) 8009 A8e [(250,ar A8e C250)] (fun a b c d e f g h i j k l m o p q=>Arq K c d e f g h i j k l m o p q C250 a b) (kC (Ba7 K _ K) kN)
def Bfw:=fun(C1018:CT Bnv _)=>jn (A9i K) 4073 Bnv [(1018,ar Bnv C1018)] (fun a b c d e f g h i j k l m o p q r=>At5 K e (fun v24 v25=>C1018 a b c v24 v25 f g h i j k l m o p q r) d) kN
def Bfx:=lp (A9i K) 2042 Byy [] (fun n a b c d e _ _ _ _ _ _ l m o p _ _=>Al3 K a b c l m o p d n e) (fun n=>kN)
def Bfy:=lp (A9i K) 1018 Bnv [] (fun n a b c d e _ _ _ _ _ _ l m o p _ _=>Air K a b c l m o p n d e) (fun n=>(kC (Bfw K _) (kC (up (Bfx K K)) kN)))
def Biq:=lp (A9i K) 250 A8e [] (Ag3 K) (fun n=>(kC (Bfv K _) (kC (up (Bfy K K)) kN)))
def Bwn:=ct (A9i K) (Av3 K) (kC (Biq K K) kN)
def Ao9 (K:Nat)(a0:Eb)(v8:List Int):Nat->Int->Option (Bool)
 |0,_=>none
 |n3+1,v12=>(bif (decide (v12<(v8.length:Int)))then(if(0:Int)≤v12∧v12<(v8.length:Int)then((Gy K (gt v8 v12) 0 (An8 .i64 a0.Az 1)).bind fun r13=>(bif r13 then(if(0:Int)≤0∧0≤v12∧v12≤(v8.length:Int)then(if(0:Int)≤v12∧v12<(v8.length:Int)then((Aqf K ((v8.drop (0:Int).toNat).take (v12 - 0).toNat) (gt v8 v12)).bind fun r14=>(bif r14 then some false else(Ao9 K a0 v8 n3 (An7 .i64 v12 1))))else none)else none)else some false))else none)else some true)
def Aqa (K:Nat)(a0:Eb)(v7:List Int)(v8:List Int):Nat->Int->Option (Bool)
 |0,_=>none
 |n2+1,v10=>(bif (decide (v10<(v7.length:Int)))then(if(0:Int)≤v10∧v10<(v7.length:Int)then((Gy K (gt v7 v10) 0 255).bind fun r11=>(bif (!r11)then some false else(Aqa K a0 v7 v8 n2 (An7 .i64 v10 1))))else none)else(Ao9 K a0 v8 K 0))
def Av4 (K:Nat)(a0:Eb)(v5:Int)(v6:Int)(v7:List Int)(v8:List Int)(v9:Int):Option (Bool):=(Aqa K a0 v7 v8 K 0)
def Ayf (K:Nat)(a0:Eb)(a1:A1):Option (Bool):=((Anx K a0).bind fun r1=>(bif r1 then((Gy K a1.Bk 0 a0.Fb).bind fun r2=>(bif r2 then((Gy K a1.Eg 0 a0.Fb).bind fun r3=>(bif r3 then(bif (decide ((a1.Fo.length:Int)>6))then some false else((Gy K a1.Xa 0 (An8 .i64 a0.Hi 1)).bind fun r4=>(bif r4 then(bif ((a1.Az.length:Int)==0)then(bif (a1.Xa != 0)then some false else(Av4 K a0 a1.Bk a1.Eg a1.Fo a1.Az a1.Xa))else(Av4 K a0 a1.Bk a1.Eg a1.Fo a1.Az a1.Xa))else some false)))else some false))else some false))else some false))
def Bnw:=fd Tryz.func198 ⟨[.v 25,.v 52],[.v 4],true⟩ (gC (Ba1 K) (gC (A1i K) (gC (Ba5 K) gN))) [8,9,10,15,16,17,18,23,24,25,26,30,31,32,38,39,40,41,45,46,81,82,83] [3]
def Byz:El:=⟨[(2,.p 102),(3,.p 103),(6,.v 2)],[(103,.box [.v 2,.v 2,.v 26,.v 26,.v 2]),(102,.st 25 true)]⟩
def By0:El:=⟨[(2,.p 102),(3,.p 103),(5,.v 2)],[(103,.box [.v 2,.v 2,.v 26,.v 26,.v 2]),(102,.st 25 true)]⟩
def By1:El:=⟨[(2,.p 102),(3,.p 103)],[(103,.box [.v 2,.v 2,.v 26,.v 26,.v 2]),(102,.st 25 true)]⟩
def Bir:=lp (Bnw K) 122 Byz [] (fun n a _ _ _ e _ g=>Ao9 K g e n a) (fun n=>kN)
def Bnx:=lp (Bnw K) 58 By0 [] (fun n a _ _ d e _ g=>Aqa K g d e n a) (fun n=>(kC (up (Bir K K)) kN))
def Bre:=jn (Bnw K) 3 By1 [] (fun a b c d e f=>Av4 K f a b c d e) (kC (Bnx K K) kN)
def Bwo:=ct (Bnw K) (Ayf K) (kC (Bre K) kN)
def Aqr (K:Nat)(v17:List Au)(r21:(List Int)):Nat->Int->Option (Bool)
 |0,_=>none
 |n4+1,v22=>(bif (decide (v22<(r21.length:Int)))then(if(0:Int)≤v22∧v22<(r21.length:Int)then((As9 K v17 (gt r21 v22)).bind fun r23=>(bif (!r23)then some false else(Aqr K v17 r21 n4 (An7 .i64 v22 1))))else none)else some true)
def Apn (K:Nat)(v4:Int)(v17:List Au):Option (Bool):=((Awq K v17 v4).bind fun r21=>(Aqr K v17 r21 K 0))
def Asb (K:Nat)(v3:Int)(v4:Int)(v17:List Au):Option (Bool):=(bif (v3 != 0)then(if(0:Int)≤(An8 .i64 v3 1)∧(An8 .i64 v3 1)<(v17.length:Int)then(bif (((gt v17 (An8 .i64 v3 1)).Vt) != 2)then some false else(bif (v4 != 0)then(if(0:Int)≤(An8 .i64 v4 1)∧(An8 .i64 v4 1)<(v17.length:Int)then(bif (((gt v17 (An8 .i64 v4 1)).S8) != 0)then some false else(Apn K v4 v17))else none)else(Apn K v4 v17)))else none)else(bif (v4 != 0)then(if(0:Int)≤(An8 .i64 v4 1)∧(An8 .i64 v4 1)<(v17.length:Int)then(bif (((gt v17 (An8 .i64 v4 1)).S8) != 0)then some false else(Apn K v4 v17))else none)else(Apn K v4 v17)))
def Apo (K:Nat):Nat->Int->Int->Int->(List Int)->(List Int)->Int->Int->Int->Int->Int->Int->Int->(List Int)->(List Int)->(List Int)->(List Au)->(List A1)->(List Int)->Option (Bool)
 |0,_,_,_,_,_,_,_,_,_,_,_,_,_,_,_,_,_,_=>none
 |n1+1,v2,v3,v4,v5,v6,v7,v8,v9,v10,v11,v12,v13,v14,v15,v16,v17,v18,v19=>(bif (decide (v2<(v6.length:Int)))then(if(0:Int)≤v2∧v2<(v6.length:Int)then(if(0:Int)≤(gt v6 v2)∧(gt v6 v2)<(v15.length:Int)then(bif ((gt v15 (gt v6 v2)) != 2)then some false else(Apo K n1 (An7 .i64 v2 1) v3 v4 v5 v6 v7 v8 v9 v10 v11 v12 v13 v14 v15 v16 v17 v18 v19))else none)else none)else(bif (decide ((v6.length:Int)>0))then(if(0:Int)≤0∧0<(v6.length:Int)then(if(0:Int)≤0∧0<(v6.length:Int)then(if(0:Int)≤(An9 .i64 (gt v6 0) v9)∧(An9 .i64 (gt v6 0) v9)≤(An7 .i64 (An9 .i64 (gt v6 0) v9) v7)∧(An7 .i64 (An9 .i64 (gt v6 0) v9) v7)≤(v14.length:Int)then((Asl K ((v14.drop (An9 .i64 (gt v6 0) v9).toNat).take ((An7 .i64 (An9 .i64 (gt v6 0) v9) v7) - (An9 .i64 (gt v6 0) v9)).toNat)).bind fun r20=>(bif (!r20)then some false else(Asb K v3 v4 v17)))else none)else none)else none)else(Asb K v3 v4 v17)))
def Aw8 (K:Nat)(a0:C8)(a1:Int):Option (Bool):=(if(0:Int)≤a1∧a1<(a0.fQ.length:Int)then((Ayf K a0.fC (gt a0.fQ a1)).bind fun r1=>(bif (!r1)then some false else(Apo K K 0 ((gt a0.fQ a1).Bk) ((gt a0.fQ a1).Eg) ((gt a0.fQ a1).Fo) ((gt a0.fQ a1).Az) ((gt a0.fQ a1).Xa) a0.fC.Az a0.fC.Hi a0.fC.Fb a0.fC.G8 a0.fC.Fc a0.fC.Hj a0.fP.Pm a0.fP.Vt a0.fP.Pn a0.fL a0.fQ a0.Adf)))else none)
def Bis:=fd Tryz.func105 ⟨[.v 32,.v 3],[.v 4],true⟩ (gC (Bel K) (gC (Bwo K) (gC (Bpu K) (gC (Bpt K) gN)))) [40,41,70,71,80,81,82,85,86] [31,63]
def By2:El:=⟨[(2,.p 102),(7,.v 26),(8,.v 2)],[(102,.box [.v 2,.v 2,.v 2,.v 2,.v 2,.v 2,.v 22,.v 26,.v 26,.v 29,.v 30,.v 26])]⟩
def Bwp:El:=⟨[(2,.p 102),(5,.p 105)],[(105,.box [.v 2,.v 2,.v 26,.v 26,.v 2]),(102,.box [.v 2,.v 2,.v 2,.v 2,.v 2,.v 2,.v 22,.v 26,.v 26,.v 29,.v 30,.v 26])]⟩
def By3:El:=⟨[(2,.p 102),(5,.p 105),(6,.v 2)],[(105,.box [.v 2,.v 2,.v 26,.v 26,.v 2]),(102,.box [.v 2,.v 2,.v 2,.v 2,.v 2,.v 2,.v 22,.v 26,.v 26,.v 29,.v 30,.v 26])]⟩
def Bfz:=lp (Bis K) 2042 By2 [] (fun n a b _ _ _ _ _ _ _ _ _ l _ _=>Aqr K l a n b) (fun n=>kN)
def Bny:=jn (Bis K) 63 Bwp [] (fun _ b _ _ _ _ _ _ _ _ _ _ _ _ p _ _=>Apn K b p) (kC (Bfz K K) kN)
def Bnz:=jn (Bis K) 31 Bwp [] (fun a b _ _ _ _ _ _ _ _ _ _ _ _ p _ _=>Asb K a b p) (kC (Bny K) kN)
def Biu:=lp (Bis K) 122 By3 [] (Apo K) (fun n=>(kC (up (Bnz K)) kN))
def Bwq:=ct (Bis K) (Aw8 K) (kC (Biu K K) kN)
def Aov (K:Nat)(a1:Int)(r1:(List Int)):Nat->Int->Int->Int->Int->Int->Int->Int->(List Int)->(List Int)->(List Int)->(List Au)->(List A1)->(List Int)->Option (Bool)
 |0,_,_,_,_,_,_,_,_,_,_,_,_,_=>none
 |n1+1,v2,v3,v4,v5,v6,v7,v8,v9,v10,v11,v12,v13,v14=>(bif (decide (v2<(r1.length:Int)))then(if(0:Int)≤a1∧a1<(v12.length:Int)then(if(0:Int)≤v2∧v2<(r1.length:Int)then((Aqf K ((gt v12 a1).Az) (gt r1 v2)).bind fun r15=>(bif (!r15)then some false else(Aov K a1 r1 n1 (An7 .i64 v2 1) v3 v4 v5 v6 v7 v8 v9 v10 v11 v12 v13 v14)))else none)else none)else(if(0:Int)≤a1∧a1<(v12.length:Int)then some ((r1.length:Int)==(((gt v12 a1).Az).length:Int))else none))
def Av5 (K:Nat)(a0:C8)(a1:Int):Option (Bool):=((Avg K a0.fP a1).bind fun r1=>(Aov K a1 r1 K 0 a0.fC.Az a0.fC.Hi a0.fC.Fb a0.fC.G8 a0.fC.Fc a0.fC.Hj a0.fP.Pm a0.fP.Vt a0.fP.Pn a0.fL a0.fQ a0.Adf))
def Bwr:=fd Tryz.func101 ⟨[.v 32,.v 3],[.v 4],true⟩ (gC (Bpf K) (gC (Ba5 K) gN))
def By4:El:=⟨[(1,.v 2),(2,.p 102),(5,.v 26),(6,.v 2)],[(102,.box [.v 2,.v 2,.v 2,.v 2,.v 2,.v 2,.v 22,.v 26,.v 26,.v 29,.v 30,.v 26])]⟩
def Bn0:=lp (Bwr K) 58 By4 [] (fun n a b=>Aov K a b n) (fun n=>kN)
def Bws:=ct (Bwr K) (Av5 K) (kC (Bn0 K K) kN)
def App (K:Nat)(a0:Eb)(v1:Int)(v2:Int)(v3:Int)(v4:Int)(v5:Int)(v6:Int)(v7:Int)(v8:Int)(v9:Int)(v10:List Int)(v11:Int)(v12:Int)(v13:List Bd)(v14:List Int)(C1:Int->Int->Int->Int->Int->Int->Int->Int->Int->(List Int)->Int->Int->(List Bd)->(List Int)->Option (Bool)):Nat->Int->Bd->Option (Bool)
 |0,_,_=>none
 |n2+1,v16,v17=>(if a0.Hi≠(0:Int)then(bif (decide (v16≤(Alp .i64 (An8 .i64 (An7 .i64 v17.fAt v17.Aj0) 1) a0.Hi)))then((Aqf K v10 v16).bind fun r18=>(bif (!r18)then some false else(App K a0 v1 v2 v3 v4 v5 v6 v7 v8 v9 v10 v11 v12 v13 v14 C1 n2 (An7 .i64 v16 1) v17)))else(C1 (An7 .i64 v1 1) v2 v3 v4 v5 v6 v7 v8 v9 v10 v11 v12 v13 v14))else none)
def Alf (K:Nat)(a0:Eb):Nat->Int->Int->Int->Int->Int->Int->Int->Int->Int->(List Int)->Int->Int->(List Bd)->(List Int)->Option (Bool)
 |0,_,_,_,_,_,_,_,_,_,_,_,_,_,_=>none
 |n1+1,v1,v2,v3,v4,v5,v6,v7,v8,v9,v10,v11,v12,v13,v14=>(bif (decide (v1<(v13.length:Int)))then(if(0:Int)≤v1∧v1<(v13.length:Int)then((As4 K a0 (gt v13 v1)).bind fun r15=>(bif (!r15)then some false else(if a0.Hi≠(0:Int)then(App K a0 v1 v2 v3 v4 v5 v6 v7 v8 v9 v10 v11 v12 v13 v14 (Alf K a0 n1) K (Alp .i64 ((gt v13 v1).fAt) a0.Hi) (gt v13 v1))else none)))else none)else some true)
def Aw9 (K:Nat)(a0:Eb)(a1:Au):Option (Bool):=(Alf K a0 K 0 a1.Vt a1.Dc a1.S5 a1.fUp a1.S6 a1.Eg a1.S7 a1.S8 a1.Az a1.Ade a1.S9 a1.Ga a1.Fo)
def Brf:=fd Tryz.func102 ⟨[.v 25,.v 50],[.v 4],true⟩ (gC (Ba5 K) (gC (Bpn K) gN))
def By5:El:=⟨[(2,.p 102),(3,.p 103),(5,.v 2),(6,.p 106),(7,.v 2)],[(106,.st 132 true),(103,.box [.v 2,.v 2,.v 2,.v 2,.v 2,.v 2,.v 2,.v 2,.v 26,.v 2,.v 2,.v 48,.v 26]),(102,.st 25 true)]⟩
def Bf0:=fun(C26:CT Bib _)=>lp (Brf K) 6734 By5 [(26,ar Bib C26)] (fun n a b c d e f g h i j k l m o p q r=>App K r a d e f g h i j k l m o p q (fun v1 v2 v3 v4 v5 v6 v7 v8 v9 v10 v11 v12 v13 v14=>C26 v1 v2 v3 v4 v5 v6 v7 v8 v9 v10 v11 v12 v13 v14 r) n b c) (fun n=>kN)
def Bn1:=lp (Brf K) 26 Bib [] (fun n a b c d e f g h i j k l m o p=>Alf K p n a b c d e f g h i j k l m o) (fun n=>(kC (Bf0 K _ K) kN))
def Bwt:=ct (Brf K) (Aw9 K) (kC (Bn1 K K) kN)
def A0e (K:Nat)(a0:Bd)(a1:Bd):Option (Bool):=(bif (decide (a0.Aj0<1))then some true else(bif (decide (a1.Aj0<1))then some true else(bif (decide (a0.fAt≤a1.fAt))then(bif (decide ((An8 .i64 a1.fAt a0.fAt)≥a0.Aj0))then some true else some (decide ((An8 .i64 a1.fAt a0.fAt)<0)))else(bif (decide ((An8 .i64 a0.fAt a1.fAt)≥a1.Aj0))then some true else some (decide ((An8 .i64 a0.fAt a1.fAt)<0))))))
def Bwu:=ct (fd Tryz.func197 ⟨[.v 132,.v 132],[.v 4],true⟩ gN [7,8,25,26,41,42]) (A0e K)
def Apq (K:Nat)(a0:List Bd)(v1:Int)(C1:Int->Option (Bool)):Nat->Int->Option (Bool)
 |0,_=>none
 |n2+1,v2=>(bif (decide (v2<v1))then(if(0:Int)≤v1∧v1<(a0.length:Int)then(if(0:Int)≤v2∧v2<(a0.length:Int)then((A0e K (gt a0 v1) (gt a0 v2)).bind fun r3=>(bif (!r3)then some false else(Apq K a0 v1 C1 n2 (An7 .i64 v2 1))))else none)else none)else(C1 (An7 .i64 v1 1)))
def Alg (K:Nat)(a0:List Bd):Nat->Int->Option (Bool)
 |0,_=>none
 |n1+1,v1=>(bif (decide (v1<(a0.length:Int)))then(Apq K a0 v1 (Alg K a0 n1) K 0)else some true)
def Axa (K:Nat)(a0:List Bd):Option (Bool):=(Alg K a0 K 0)
def Biv:=fd Tryz.func103 ⟨[.v 48],[.v 4],true⟩ (gC (Bwu K) gN)
def By6:El:=⟨[(0,.v 48),(3,.v 2),(4,.v 2)],[]⟩
def Brg:El:=⟨[(0,.v 48),(3,.v 2)],[]⟩
def Bc0:=fun(C26:CT Brg _)=>lp (Biv K) 1682 By6 [(26,ar Brg C26)] (fun n a b=>Apq K a b (C26 a) n) (fun n=>kN)
def Biw:=lp (Biv K) 26 Brg [] (fun n a=>Alg K a n) (fun n=>(kC (Bc0 K _ K) kN))
def Brh:=ct (Biv K) (Axa K) (kC (Biw K K) kN)
def Au4 (K:Nat)(v1:Int)(v2:Int)(v3:Int)(v4:Int)(v5:Int)(v6:Int)(v7:Int)(v8:Int)(v9:Int)(v10:Int)(v11:Int)(v12:List Int)(v13:Int)(v14:Int)(v15:List Bd)(v16:List Int)(v17:Int)(v18:Int)(v19:Int)(v20:Int)(v21:Int)(v22:Int)(v23:List Int)(v24:List Int)(v25:List Int)(v26:List Au)(v27:List A1)(v28:List Int)(C1:Int->Int->Int->Int->Int->Int->Int->Int->Int->Int->Int->(List Int)->Int->Int->(List Bd)->(List Int)->Int->Int->Int->Int->Int->Int->(List Int)->(List Int)->(List Int)->(List Au)->(List A1)->(List Int)->Option (Bool)):Option (Bool):=(C1 v1 v2 (An7 .i64 v3 1) v4 v5 v6 v7 v8 v9 v10 v11 v12 v13 v14 v15 v16 v17 v18 v19 v20 v21 v22 v23 v24 v25 v26 v27 v28)
def Ans (K:Nat):Nat->Int->Int->Int->Int->Int->Int->Int->Int->Int->Int->Int->(List Int)->Int->Int->(List Bd)->(List Int)->Int->Int->Int->Int->Int->Int->(List Int)->(List Int)->(List Int)->(List Au)->(List A1)->(List Int)->Option (Bool)
 |0,_,_,_,_,_,_,_,_,_,_,_,_,_,_,_,_,_,_,_,_,_,_,_,_,_,_,_,_=>none
 |n1+1,v1,v2,v3,v4,v5,v6,v7,v8,v9,v10,v11,v12,v13,v14,v15,v16,v17,v18,v19,v20,v21,v22,v23,v24,v25,v26,v27,v28=>(bif (decide (v3<(v15.length:Int)))then(if(0:Int)≤v3∧v3<(v15.length:Int)then(bif (decide (((gt v15 v3).fAt)<v2))then(bif (decide ((An7 .i64 ((gt v15 v3).fAt) ((gt v15 v3).Aj0))>v1))then some false else(Au4 K v1 v2 v3 v4 v5 v6 v7 v8 v9 v10 v11 v12 v13 v14 v15 v16 v17 v18 v19 v20 v21 v22 v23 v24 v25 v26 v27 v28 (Ans K n1)))else(Au4 K v1 v2 v3 v4 v5 v6 v7 v8 v9 v10 v11 v12 v13 v14 v15 v16 v17 v18 v19 v20 v21 v22 v23 v24 v25 v26 v27 v28 (Ans K n1)))else none)else(if(0:Int)≤v1∧v1≤v2∧v2≤(v23.length:Int)then((Asl K ((v23.drop v1.toNat).take (v2 - v1).toNat)).bind fun r29=>some r29)else none))
def Axb (K:Nat)(a0:C8)(a1:Int):Option (Bool):=(if(0:Int)≤a1∧a1<(a0.fL.length:Int)then(bif (((gt a0.fL a1).Ade)==0)then some true else(bif (decide ((An7 .i64 (An9 .i64 (An8 .i64 ((gt a0.fL a1).Ade) 1) a0.fC.Hi) ((gt a0.fL a1).S9))≥(An9 .i64 ((gt a0.fL a1).Ade) a0.fC.Hi)))then some true else(Ans K K (An7 .i64 (An9 .i64 (An8 .i64 ((gt a0.fL a1).Ade) 1) a0.fC.Hi) ((gt a0.fL a1).S9)) (An9 .i64 ((gt a0.fL a1).Ade) a0.fC.Hi) 0 ((gt a0.fL a1).Vt) ((gt a0.fL a1).Dc) ((gt a0.fL a1).S5) ((gt a0.fL a1).fUp) ((gt a0.fL a1).S6) ((gt a0.fL a1).Eg) ((gt a0.fL a1).S7) ((gt a0.fL a1).S8) ((gt a0.fL a1).Az) ((gt a0.fL a1).Ade) ((gt a0.fL a1).S9) ((gt a0.fL a1).Ga) ((gt a0.fL a1).Fo) a0.fC.Az a0.fC.Hi a0.fC.Fb a0.fC.G8 a0.fC.Fc a0.fC.Hj a0.fP.Pm a0.fP.Vt a0.fP.Pn a0.fL a0.fQ a0.Adf)))else none)
def Bix:=fd Tryz.func104 ⟨[.v 32,.v 3],[.v 4],true⟩ (gC (Bel K) gN) [33,34,54,55] [2025]
def Bn2:El:=⟨[(2,.p 102),(5,.p 105),(6,.v 2),(7,.v 2),(8,.v 2)],[(105,.box [.v 2,.v 2,.v 2,.v 2,.v 2,.v 2,.v 2,.v 2,.v 26,.v 2,.v 2,.v 48,.v 26]),(102,.box [.v 2,.v 2,.v 2,.v 2,.v 2,.v 2,.v 22,.v 26,.v 26,.v 29,.v 30,.v 26])]⟩
def Bc1:=fun(C506:CT Bn2 _)=>jn (Bix K) 2025 Bn2 [(506,ar Bn2 C506)] (fun a b c d e f g h i j k l m o p q r s t u v w x y z a1 b1 c1=>Au4 K a b c d e f g h i j k l m o p q r s t u v w x y z a1 b1 c1 C506) kN
def Bf1:=lp (Bix K) 506 Bn2 [] (Ans K) (fun n=>(kC (Bc1 K _) kN))
def Bri:=ct (Bix K) (Axb K) (kC (Bf1 K K) kN)
def Apa (K:Nat)(v4:Int)(v5:Int)(v6:Int)(v7:Int)(v8:Int)(v9:Int)(v10:List Int)(v11:List Int)(v12:List Int)(v13:List Au)(v14:List A1)(v15:List Int):Nat->Int->Option (Bool)
 |0,_=>none
 |n3+1,v23=>(bif (decide (v23<(v15.length:Int)))then(if(0:Int)≤v23∧v23<(v15.length:Int)then((Gy K (gt v15 v23) 0 255).bind fun r24=>(bif (!r24)then some false else(Apa K v4 v5 v6 v7 v8 v9 v10 v11 v12 v13 v14 v15 n3 (An7 .i64 v23 1))))else none)else((Av3 K (C8.mk (Eb.mk v4 v5 v6 v7 v8 v9) (Dp.mk v10 v11 v12) v13 v14 v15)).bind fun r25=>some r25))
def Aqb (K:Nat)(v4:Int)(v5:Int)(v6:Int)(v7:Int)(v8:Int)(v9:Int)(v10:List Int)(v11:List Int)(v12:List Int)(v13:List Au)(v14:List A1)(v15:List Int):Nat->Int->Option (Bool)
 |0,_=>none
 |n2+1,v21=>(bif (decide (v21<(v14.length:Int)))then((Aw8 K (C8.mk (Eb.mk v4 v5 v6 v7 v8 v9) (Dp.mk v10 v11 v12) v13 v14 v15) v21).bind fun r22=>(bif (!r22)then some false else(Aqb K v4 v5 v6 v7 v8 v9 v10 v11 v12 v13 v14 v15 n2 (An7 .i64 v21 1))))else(Apa K v4 v5 v6 v7 v8 v9 v10 v11 v12 v13 v14 v15 K 0))
def Apb (K:Nat):Nat->Int->Int->Int->Int->Int->Int->Int->(List Int)->(List Int)->(List Int)->(List Au)->(List A1)->(List Int)->Option (Bool)
 |0,_,_,_,_,_,_,_,_,_,_,_,_,_=>none
 |n1+1,v3,v4,v5,v6,v7,v8,v9,v10,v11,v12,v13,v14,v15=>(bif (decide (v3<(v13.length:Int)))then(if(0:Int)≤v3∧v3<(v13.length:Int)then((Aqg K (Eb.mk v4 v5 v6 v7 v8 v9) (gt v13 v3)).bind fun r16=>(bif r16 then((Av5 K (C8.mk (Eb.mk v4 v5 v6 v7 v8 v9) (Dp.mk v10 v11 v12) v13 v14 v15) v3).bind fun r17=>(bif r17 then(if(0:Int)≤v3∧v3<(v13.length:Int)then((Aw9 K (Eb.mk v4 v5 v6 v7 v8 v9) (gt v13 v3)).bind fun r18=>(bif r18 then(if(0:Int)≤v3∧v3<(v13.length:Int)then((Axa K ((gt v13 v3).Ga)).bind fun r19=>(bif r19 then((Axb K (C8.mk (Eb.mk v4 v5 v6 v7 v8 v9) (Dp.mk v10 v11 v12) v13 v14 v15) v3).bind fun r20=>(bif (!r20)then some false else(Apb K n1 (An7 .i64 v3 1) v4 v5 v6 v7 v8 v9 v10 v11 v12 v13 v14 v15)))else some false))else none)else some false))else none)else some false))else some false))else none)else(Aqb K v4 v5 v6 v7 v8 v9 v10 v11 v12 v13 v14 v15 K 0))
def Arr (K:Nat)(a0:C8):Option (Bool):=((Awm K a0.fC a0.fP).bind fun r1=>(bif r1 then(bif ((a0.fL.length:Int) != a0.fC.Fb)then some false else((Azi K a0.fL).bind fun r2=>(bif (!r2)then some false else(Apb K K 0 a0.fC.Az a0.fC.Hi a0.fC.Fb a0.fC.G8 a0.fC.Fc a0.fC.Hj a0.fP.Pm a0.fP.Vt a0.fP.Pn a0.fL a0.fQ a0.Adf))))else some false))
def Beq:=fd Tryz.func26 ⟨[.v 32],[.v 4],true⟩ (gC (Bpj K) (gC (Bwk K) (gC (A8w K) (gC (Bws K) (gC (Bwt K) (gC (Brh K) (gC (Bri K) (gC (Bwq K) (gC (A1i K) (gC (Bwn K) gN)))))))))) [10,11,12,19,20,21,41,42,43,46,47,48,49,57,58,59,60,67,68,69,70]
def By7:El:=⟨[(1,.p 101),(5,.v 2)],[(101,.box [.v 2,.v 2,.v 2,.v 2,.v 2,.v 2,.v 22,.v 26,.v 26,.v 29,.v 30,.v 26])]⟩
def By8:El:=⟨[(1,.p 101),(4,.v 2)],[(101,.box [.v 2,.v 2,.v 2,.v 2,.v 2,.v 2,.v 22,.v 26,.v 26,.v 29,.v 30,.v 26])]⟩
def By9:El:=⟨[(1,.p 101),(3,.v 2)],[(101,.box [.v 2,.v 2,.v 2,.v 2,.v 2,.v 2,.v 22,.v 26,.v 26,.v 29,.v 30,.v 26])]⟩
def Bf2:=lp (Beq K) 250 By7 [] (fun n a b c d e f g h i j k l m=>Apa K b c d e f g h i j k l m n a) (fun n=>kN)
def Bf3:=lp (Beq K) 122 By8 [] (fun n a b c d e f g h i j k l m=>Aqb K b c d e f g h i j k l m n a) (fun n=>(kC (up (Bf2 K K)) kN))
def Biy:=lp (Beq K) 58 By9 [] (Apb K) (fun n=>(kC (up (Bf3 K K)) kN))
def A9k:=ct (Beq K) (Arr K) (kC (Biy K K) kN)
def A0f (K:Nat)(a0:Bq):Option (Bool):=((Auc K a0.fH).bind fun r1=>(bif r1 then(bif (decide (a0.S5≥0))then some (decide (a0.fNo≥0))else some false)else some false))
def Brj:=ct (fd Tryz.func225 ⟨[.v 38],[.v 4],true⟩ (gC (Bpc K) gN) [5,6,9,10,11]) (A0f K)
def Ayg (K:Nat)(a0:Au)(a1:Bq):Option (Bd×Bool):=(bif (a0.Vt != 1)then some ((Bd.mk 0 0 0),false)else(bif (a0.S5 != a1.S5)then some ((Bd.mk 0 0 0),false)else((Gy K a1.fNo 0 (An8 .i64 (a0.Ga.length:Int) 1)).bind fun r1=>(bif (!r1)then some ((Bd.mk 0 0 0),false)else(if(0:Int)≤a1.fNo∧a1.fNo<(a0.Ga.length:Int)then some ((gt a0.Ga a1.fNo),true)else none)))))
def Brk:=ct (fd Tryz.func226 ⟨[.v 50,.v 38],[.v 132,.v 4],true⟩ (gC (A1i K) gN) [8,9,14,15,16]) (Ayg K)
def Ata (K:Nat)(a0:C8)(a1:Bq):Option (Int×Bd×Int):=((A0f K a1).bind fun r1=>(bif (!r1)then some ((-1),(Bd.mk 0 0 0),1)else((An3 K a0 a1.fH).bind fun r2=>(bif (r2.2 != 0)then some ((-1),(Bd.mk 0 0 0),r2.2)else(if(0:Int)≤r2.1∧r2.1<(a0.fL.length:Int)then((Ayg K (gt a0.fL r2.1) a1).bind fun r3=>(bif (!r3.2)then some ((-1),(Bd.mk 0 0 0),2)else some (r2.1,r3.1,0)))else none)))))
def Biz:=ct (fd Tryz.func142 ⟨[.v 32,.v 38],[.v 3,.v 132,.v 3],true⟩ (gC (A8u K) (gC (Brj K) (gC (Brk K) gN)))) (Ata K)
def Ayh (K:Nat)(a0:Bd)(a1:Int)(a2:Int):Option (Bool):=(bif (decide (a1≥0))then(bif (decide (a2≥0))then(bif (decide (a1≤a0.Aj0))then(bif (decide (a2≤(An8 .i64 a0.Aj0 a1)))then(bif (decide (a0.fAt<0))then some true else some (decide ((An7 .i64 a0.fAt a1)≥0)))else some false)else some false)else some false)else some false)
def Bi0:=ct (fd Tryz.func227 ⟨[.v 132,.v 3,.v 3],[.v 4],true⟩ gN [8,9,11,12,13,17,18,19,25,26,27,30,31]) (Ayh K)
def Avo (K:Nat)(a0:List Int)(a1:Int)(a2:Int):Option (Bool):=(bif (decide (a1≥0))then(bif (decide (a2≥0))then(bif (decide (a1≤(a0.length:Int)))then some (decide (a2≤(An8 .i64 (a0.length:Int) a1)))else some false)else some false)else some false)
def Bi1:=ct (fd Tryz.func262 ⟨[.v 22,.v 3,.v 3],[.v 4],true⟩ gN [8,9,11,12,13,17,18,19]) (Avo K)
def A0g (K:Nat)(a0:List Int)(a1:Int)(a2:Int):Option ((List Int)×Bool):=((Avo K a0 a1 a2).bind fun r1=>(bif (!r1)then some (([]:List Int),false)else(if(0:Int)≤a1∧a1≤(An7 .i64 a1 a2)∧(An7 .i64 a1 a2)≤(a0.length:Int)then(if(([]:List Int)++((a0.drop a1.toNat).take ((An7 .i64 a1 a2) - a1).toNat)).length*1≤140737488355328∧(([]:List Int)++((a0.drop a1.toNat).take ((An7 .i64 a1 a2) - a1).toNat)).length≤maxLen then some ((([]:List Int)++((a0.drop a1.toNat).take ((An7 .i64 a1 a2) - a1).toNat)),true)else none)else none)))
def Brl:=ct (fd Tryz.func229 ⟨[.v 22,.v 3,.v 3],[.n 22 true,.v 4],true⟩ (gC (Bi1 K) gN)) (A0g K)
def Av6 (K:Nat)(a0:List Int)(a1:Bd)(a2:Int)(a3:Int):Option ((List Int)×Bool):=((Ayh K a1 a2 a3).bind fun r1=>(bif (!r1)then some (([]:List Int),false)else((A0g K a0 (An7 .i64 a1.fAt a2) a3).bind fun r2=>some (r2.1,r2.2))))
def Brm:=ct (fd Tryz.func144 ⟨[.v 22,.v 132,.v 3,.v 3],[.n 22 true,.v 4],true⟩ (gC (Bi0 K) (gC (Brl K) gN))) (Av6 K)
def A1m (K:Nat)(a0:C8)(a1:Bq)(a2:Int)(a3:Int):Option (C8×Ex):=((An1 K a0).bind fun r1=>((Arr K a0).bind fun r2=>(bif (!r2)then some (r1,(Ex.mk 1 (An.mk 0 0) (Bq.mk (An.mk 0 0) 0 0) [] 0 0 0))else((Ata K a0 a1).bind fun r3=>((Api K a0 a1.fH).bind fun r4=>(bif (r3.2.2 != 0)then some (r1,(Ex.mk r3.2.2 (An.mk 0 0) (Bq.mk (An.mk 0 0) 0 0) [] r4 0 0))else((Av6 K a0.fP.Pm r3.2.1 a2 a3).bind fun r5=>(bif (!r5.2)then some (r1,(Ex.mk 7 (An.mk 0 0) (Bq.mk (An.mk 0 0) 0 0) [] r4 0 0))else some (r1,(Ex.mk r3.2.2 (An.mk 0 0) (Bq.mk (An.mk 0 0) 0 0) r5.1 r4 0 0))))))))))
def Brn:=ct (fd Tryz.func60 ⟨[.v 32,.v 38,.v 3,.v 3],[.n 32 true,.n 73 true],false⟩ (gC (A9k K) (gC (A60 K) (gC (A6z K) (gC (Biz K) (gC (Brm K) gN))))) [] [] [(7,[.take 114 7 6831]),(11,[.take 114 7 6831])]) (A1m K)
def Aqj (K:Nat)(a1:Int)(a2:List Int):Nat->(List Int)->Int->Option ((List Int)×Bool)
 |0,_,_=>none
 |n1+1,v2,v3=>(bif (decide (v3<(a2.length:Int)))then(if(0:Int)≤v3∧v3<(a2.length:Int)then(if(0:Int)≤(An7 .i64 a1 v3)∧(An7 .i64 a1 v3)<(v2.length:Int)then(Aqj K a1 a2 n1 (v2.set (An7 .i64 a1 v3).toNat (gt a2 v3)) (An7 .i64 v3 1))else none)else none)else some (v2,true))
def A0h (K:Nat)(a0:List Int)(a1:Int)(a2:List Int):Option ((List Int)×Bool):=(if(([]:List Int)++a0).length*1≤140737488355328∧(([]:List Int)++a0).length≤maxLen then((Avo K a0 a1 (a2.length:Int)).bind fun r1=>(bif (!r1)then some ((([]:List Int)++a0),false)else(Aqj K a1 a2 K (([]:List Int)++a0) 0)))else none)
def Bpv:=fd Tryz.func228 ⟨[.v 22,.v 3,.v 22],[.n 22 true,.v 4],true⟩ (gC (Bi1 K) gN)
def Bza:El:=⟨[(1,.v 2),(2,.v 22),(8,.o 1008 5 true),(9,.v 2)],[]⟩
def Bf4:=lp (Bpv K) 122 Bza [] (fun n a b=>Aqj K a b n) (fun n=>kN)
def Bro:=ct (Bpv K) (A0h K) (kC (Bf4 K K) kN)
def Au5 (K:Nat)(a0:List Int)(a1:Bd)(a2:Int)(a3:List Int):Option ((List Int)×Bool):=((Ayh K a1 a2 (a3.length:Int)).bind fun r1=>(bif (!r1)then(if(([]:List Int)++a0).length*1≤140737488355328∧(([]:List Int)++a0).length≤maxLen then some ((([]:List Int)++a0),false)else none)else((A0h K a0 (An7 .i64 a1.fAt a2) a3).bind fun r2=>some (r2.1,r2.2))))
def Brp:=ct (fd Tryz.func143 ⟨[.v 22,.v 132,.v 3,.v 22],[.n 22 true,.v 4],true⟩ (gC (Bi0 K) (gC (Bro K) gN))) (Au5 K)
def A0i (K:Nat)(a0:C8)(a1:Bq)(a2:Int)(a3:List Int):Option (C8×Ex):=((An1 K a0).bind fun r1=>((Arr K a0).bind fun r2=>(bif (!r2)then some (r1,(Ex.mk 1 (An.mk 0 0) (Bq.mk (An.mk 0 0) 0 0) [] 0 0 0))else((Ata K a0 a1).bind fun r3=>((Api K a0 a1.fH).bind fun r4=>(bif (r3.2.2 != 0)then some (r1,(Ex.mk r3.2.2 (An.mk 0 0) (Bq.mk (An.mk 0 0) 0 0) [] r4 0 0))else((Au5 K a0.fP.Pm r3.2.1 a2 a3).bind fun r5=>(bif (!r5.2)then some (r1,(Ex.mk 7 (An.mk 0 0) (Bq.mk (An.mk 0 0) 0 0) [] r4 0 0))else some ((C8.mk r1.fC (Dp.mk r5.1 r1.fP.Vt r1.fP.Pn) r1.fL r1.fQ r1.Adf),(Ex.mk r3.2.2 (An.mk 0 0) (Bq.mk (An.mk 0 0) 0 0) [] r4 0 0))))))))))
def Brq:=ct (fd Tryz.func58 ⟨[.v 32,.v 38,.v 3,.v 22],[.n 32 true,.n 73 true],false⟩ (gC (A9k K) (gC (A60 K) (gC (A6z K) (gC (Biz K) (gC (Brp K) gN))))) [] [] [(7,[.take 114 7 6831]),(11,[.take 114 7 6831]),(13,[.take 114 7 6831])]) (A0i K)
def A0j (K:Nat)(v7:Ex)(v10:C8):Option (C8×Ex):=some (v10,v7)
def Ayi (K:Nat)(a2:Int)(r1:C8)(v6:Int)(v7:Ex)(v8:Ex)(v9:C8):Option (C8×Ex):=(bif (v7.Xc==0)then(if(0:Int)≤v6∧v6<(r1.fL.length:Int)then(if(0:Int)≤v6∧v6<(r1.fL.length:Int)then(if(((gt r1.fL v6).Fo)++([a2]:List Int)).length*8≤140737488355328∧(((gt r1.fL v6).Fo)++([a2]:List Int)).length≤maxLen then(if(0:Int)≤v6∧v6<(r1.fL.length:Int)then(A0j K v7 (C8.mk r1.fC r1.fP (r1.fL.set v6.toNat (Au.mk ((gt r1.fL v6).Vt) ((gt r1.fL v6).Dc) ((gt r1.fL v6).S5) ((gt r1.fL v6).fUp) ((gt r1.fL v6).S6) ((gt r1.fL v6).Eg) ((gt r1.fL v6).S7) ((gt r1.fL v6).S8) ((gt r1.fL v6).Az) ((gt r1.fL v6).Ade) ((gt r1.fL v6).S9) ((gt r1.fL v6).Ga) (((gt r1.fL v6).Fo)++([a2]:List Int)))) r1.fQ r1.Adf))else none)else none)else none)else none)else(A0j K v7 r1))
def A2f (K:Nat)(a0:C8)(a1:An)(a2:Int):Option (C8×Ex):=((An1 K a0).bind fun r1=>((Arr K a0).bind fun r2=>(bif r2 then((Gy K a2 0 255).bind fun r3=>(bif (!r3)then some (r1,(Ex.mk 1 (An.mk 0 0) (Bq.mk (An.mk 0 0) 0 0) [] 0 0 0))else((An3 K a0 a1).bind fun r4=>((Api K a0 a1).bind fun r5=>(bif (r4.2==0)then(if(0:Int)≤r4.1∧r4.1<(a0.fL.length:Int)then(bif (decide ((((gt a0.fL r4.1).Fo).length:Int)≥6))then(Ayi K a2 r1 r4.1 (Ex.mk 8 (An.mk 0 0) (Bq.mk (An.mk 0 0) 0 0) [] r5 0 0) (Ex.mk 0 (An.mk 0 0) (Bq.mk (An.mk 0 0) 0 0) [] 0 0 0) (C8.mk (Eb.mk 0 0 0 0 0 0) (Dp.mk [] [] []) [] [] []))else(Ayi K a2 r1 r4.1 (Ex.mk r4.2 (An.mk 0 0) (Bq.mk (An.mk 0 0) 0 0) [] r5 0 0) (Ex.mk 0 (An.mk 0 0) (Bq.mk (An.mk 0 0) 0 0) [] 0 0 0) (C8.mk (Eb.mk 0 0 0 0 0 0) (Dp.mk [] [] []) [] [] [])))else none)else(Ayi K a2 r1 r4.1 (Ex.mk r4.2 (An.mk 0 0) (Bq.mk (An.mk 0 0) 0 0) [] r5 0 0) (Ex.mk 0 (An.mk 0 0) (Bq.mk (An.mk 0 0) 0 0) [] 0 0 0) (C8.mk (Eb.mk 0 0 0 0 0 0) (Dp.mk [] [] []) [] [] [])))))))else some (r1,(Ex.mk 1 (An.mk 0 0) (Bq.mk (An.mk 0 0) 0 0) [] 0 0 0)))))
def Bi2:=fd Tryz.func49 ⟨[.v 32,.v 36,.v 3],[.n 32 true,.n 73 true],false⟩ (gC (A9k K) (gC (A60 K) (gC (A1i K) (gC (A8u K) (gC (A6z K) gN))))) [15,16,17,36,37] [63,127] [(9,[.take 108 9 6737,.opn 6737 (.tmp 9),.takeE 6737 12 87180]),(10,[.take 108 6 6734,.take 108 7 6735,.take 108 8 6736,.take 108 9 6737,.take 108 10 6738,.take 108 11 6739,.take 111 7 6783])]
def Bzb:El:=⟨[(6,.p 106),(7,.p 107),(8,.p 108),(11,.p 111)],[(111,.st 73 true),(108,.st 32 true),(107,.st 73 true),(106,.st 32 true)]⟩
def Bzc:El:=⟨[(2,.v 2),(6,.p 106),(7,.p 107),(8,.p 108),(9,.v 2),(11,.p 111)],[(111,.st 73 true),(108,.st 32 true),(107,.st 73 true),(106,.st 32 true)]⟩
def Bf5:=jn (Bi2 K) 127 Bzb [] (fun a b _ _=>A0j K a b) kN
def Bi3:=jn (Bi2 K) 63 Bzc [] (fun a b c d=>Ayi K a d b c) (kC (Bf5 K) kN)
def Brr:=ct (Bi2 K) (A2f K) (kC (Bi3 K) kN)
def A0w (K:Nat)(a0:Eb)(a1:Au):Option (Int):=(bif (a1.Ade==0)then some 0 else((Aqg K a0 a1).bind fun r1=>(bif (!r1)then some 0 else some (An8 .i64 a0.Hi a1.S9))))
def Brs:=ct (fd Tryz.func136 ⟨[.v 25,.v 50],[.v 3],true⟩ (gC (A8w K) gN) [7,8]) (A0w K)
def Ayj (K:Nat)(r1:C8)(v6:Ex)(v7:Ex)(v8:C8):Option (C8×Ex):=some (r1,v6)
def A0k (K:Nat)(a0:C8)(a1:An):Option (C8×Ex):=((An1 K a0).bind fun r1=>((Arr K a0).bind fun r2=>(bif (!r2)then some (r1,(Ex.mk 1 (An.mk 0 0) (Bq.mk (An.mk 0 0) 0 0) [] 0 0 0))else((An3 K a0 a1).bind fun r3=>((Api K a0 a1).bind fun r4=>(bif (r3.2==0)then(if(0:Int)≤r3.1∧r3.1<(a0.fL.length:Int)then((A0w K a0.fC (gt a0.fL r3.1)).bind fun r5=>(Ayj K r1 (Ex.mk r3.2 (An.mk 0 0) (Bq.mk (An.mk 0 0) 0 0) ([(IntKind.u8.wrap (((gt a0.fL r3.1).Az).length:Int)),(IntKind.u8.wrap (((gt a0.fL r3.1).Ga).length:Int)),(IntKind.u8.wrap (((gt a0.fL r3.1).Fo).length:Int)),(IntKind.u8.wrap r5)]:List Int) r4 0 0) (Ex.mk 0 (An.mk 0 0) (Bq.mk (An.mk 0 0) 0 0) [] 0 0 0) (C8.mk (Eb.mk 0 0 0 0 0 0) (Dp.mk [] [] []) [] [] [])))else none)else(Ayj K r1 (Ex.mk r3.2 (An.mk 0 0) (Bq.mk (An.mk 0 0) 0 0) [] r4 0 0) (Ex.mk 0 (An.mk 0 0) (Bq.mk (An.mk 0 0) 0 0) [] 0 0 0) (C8.mk (Eb.mk 0 0 0 0 0 0) (Dp.mk [] [] []) [] [] []))))))))
def Bpw:=fd Tryz.func52 ⟨[.v 32,.v 36],[.n 32 true,.n 73 true],false⟩ (gC (A9k K) (gC (A60 K) (gC (A8u K) (gC (A6z K) (gC (Brs K) gN))))) [] [63] [(9,[.take 106 6 6702,.take 106 7 6703,.take 106 8 6704,.take 106 9 6705,.take 106 10 6706,.take 106 11 6707,.take 109 7 6751])]
def Bzd:El:=⟨[(4,.p 104),(5,.p 105),(6,.p 106),(9,.p 109)],[(109,.st 73 true),(106,.st 32 true),(105,.st 73 true),(104,.st 32 true)]⟩
def Bi4:=jn (Bpw K) 63 Bzd [] (fun a b=>Ayj K b a) kN
def Brt:=ct (Bpw K) (A0k K) (kC (Bi4 K) kN)
def Azj (K:Nat)(a0:C8)(a1:Ct):Option (C8×Ex):=(bif (a1.Xb==3)then((A1m K a0 a1.fR a1.fN a1.fM).bind fun r1=>some (r1.1,r1.2))else(bif (a1.Xb==4)then((A0i K a0 a1.fR a1.fN a1.fB).bind fun r2=>some (r2.1,r2.2))else(bif (a1.Xb==5)then((A2f K a0 a1.fH a1.fN).bind fun r3=>some (r3.1,r3.2))else(bif (a1.Xb==8)then((A0k K a0 a1.fH).bind fun r4=>some (r4.1,r4.2))else((An1 K a0).bind fun r5=>some (r5,(Ex.mk 1 (An.mk 0 0) (Bq.mk (An.mk 0 0) 0 0) [] 0 0 0)))))))
def Bru:=ct (fd Tryz.func266 ⟨[.v 32,.v 40],[.n 32 true,.n 73 true],false⟩ (gC (Brr K) (gC (Brt K) (gC (Brq K) (gC (Brn K) (gC (A60 K) gN)))))) (Azj K)
def A0x (K:Nat)(v31:Int)(v32:Int)(v33:Int)(v34:Int)(v35:Int)(v36:Int)(v37:List Int)(v38:List Int)(v39:List Int)(v40:List Au)(v41:List A1)(v42:List Int)(v43:Ex):Option (Ex×C8):=some (v43,(C8.mk (Eb.mk v31 v32 v33 v34 v35 v36) (Dp.mk v37 v38 v39) v40 v41 v42))
def Avp (K:Nat)(v4:Bool)(v5:Int)(v6:Int)(v7:Int)(v8:Int)(v9:Int)(v10:Int)(v11:List Int)(v12:List Int)(v13:List Int)(v14:List Au)(v15:List A1)(v16:List Int)(v17:Ex)(v18:Int)(v19:Int)(v20:Int)(v21:Int)(v22:Int)(v23:Int)(v24:Int)(v25:Int)(v26:Int)(v27:List Int):Option (Ex×C8):=(bif v4 then((An3 K (C8.mk (Eb.mk v5 v6 v7 v8 v9 v10) (Dp.mk v11 v12 v13) v14 v15 v16) (An.mk v19 v20)).bind fun r28=>((Api K (C8.mk (Eb.mk v5 v6 v7 v8 v9 v10) (Dp.mk v11 v12 v13) v14 v15 v16) (An.mk v19 v20)).bind fun r29=>(bif (r28.2 != 0)then some ((Ex.mk r28.2 (An.mk 0 0) (Bq.mk (An.mk 0 0) 0 0) [] r29 0 0),(C8.mk (Eb.mk v5 v6 v7 v8 v9 v10) (Dp.mk v11 v12 v13) v14 v15 v16))else(bif (v18==6)then((Asa K (C8.mk (Eb.mk v5 v6 v7 v8 v9 v10) (Dp.mk v11 v12 v13) v14 v15 v16) r28.1).bind fun r30=>(A0x K r30.fC.Az r30.fC.Hi r30.fC.Fb r30.fC.G8 r30.fC.Fc r30.fC.Hj r30.fP.Pm r30.fP.Vt r30.fP.Pn r30.fL r30.fQ r30.Adf (Ex.mk r28.2 (An.mk 0 0) (Bq.mk (An.mk 0 0) 0 0) [] r29 0 0)))else((Aug K (C8.mk (Eb.mk v5 v6 v7 v8 v9 v10) (Dp.mk v11 v12 v13) v14 v15 v16) r28.1).bind fun r44=>(A0x K r44.fC.Az r44.fC.Hi r44.fC.Fb r44.fC.G8 r44.fC.Fc r44.fC.Hj r44.fP.Pm r44.fP.Vt r44.fP.Pn r44.fL r44.fQ r44.Adf (Ex.mk r28.2 (An.mk 0 0) (Bq.mk (An.mk 0 0) 0 0) [] r29 0 0)))))))else((Azj K (C8.mk (Eb.mk v5 v6 v7 v8 v9 v10) (Dp.mk v11 v12 v13) v14 v15 v16) (Ct.mk v18 (An.mk v19 v20) (Bq.mk (An.mk v21 v22) v23 v24) v25 v26 v27)).bind fun r45=>some (r45.2,r45.1)))
def A0l (K:Nat)(a0:C8)(a1:Ct):Option (Ex×C8):=(bif (a1.Xb==1)then((Aya K a0 a1.fH).bind fun r1=>some (r1.1,r1.2))else(bif (a1.Xb==2)then((Aw6 K a0 a1.fH a1.fN a1.fM).bind fun r2=>some (r2.1,r2.2))else(bif (a1.Xb==9)then((Avj K a0 4000).bind fun r3=>some ((Ex.mk 0 (An.mk 0 0) (Bq.mk (An.mk 0 0) 0 0) [] 0 0 r3.1),r3.2))else(bif (a1.Xb==6)then(Avp K (a1.Xb==6) a0.fC.Az a0.fC.Hi a0.fC.Fb a0.fC.G8 a0.fC.Fc a0.fC.Hj a0.fP.Pm a0.fP.Vt a0.fP.Pn a0.fL a0.fQ a0.Adf (Ex.mk 0 (An.mk 0 0) (Bq.mk (An.mk 0 0) 0 0) [] 0 0 0) a1.Xb a1.fH.Bk a1.fH.Dc a1.fR.fH.Bk a1.fR.fH.Dc a1.fR.S5 a1.fR.fNo a1.fN a1.fM a1.fB)else(Avp K (a1.Xb==7) a0.fC.Az a0.fC.Hi a0.fC.Fb a0.fC.G8 a0.fC.Fc a0.fC.Hj a0.fP.Pm a0.fP.Vt a0.fP.Pn a0.fL a0.fQ a0.Adf (Ex.mk 0 (An.mk 0 0) (Bq.mk (An.mk 0 0) 0 0) [] 0 0 0) a1.Xb a1.fH.Bk a1.fH.Dc a1.fR.fH.Bk a1.fR.fH.Dc a1.fR.S5 a1.fR.fNo a1.fN a1.fM a1.fB)))))
def Bi5:=fd Tryz.func230 ⟨[.b 32 false,.v 40],[.v 73],false⟩ (gC (Bps K) (gC (Bpr K) (gC (A8u K) (gC (A6z K) (gC (Bv5 K) (gC (Bwc K) (gC (Bih K) (gC (Bru K) gN)))))))) [] [1727,55287] [(10,[.take 1 6 5022,.take 1 7 5023,.take 1 8 5024,.take 1 9 5025,.take 1 10 5026,.take 1 11 5027]),(13,[.take 107 7 6719]),(15,[.put 1]),(16,[.put 1]),(17,[.take 107 7 6719]),(18,[.take 1 6 5022,.take 1 7 5023,.take 1 8 5024,.take 1 9 5025,.take 1 10 5026,.take 1 11 5027,.frz 5022,.frz 5023,.frz 5024,.frz 5025,.frz 5026,.frz 5027])]
def Bze:El:=⟨[(4,.p 104),(7,.p 107)],[(1,.box [.v 2,.v 2,.v 2,.v 2,.v 2,.v 2,.T 5 true,.T 3 true,.T 3 true,.T 50 true,.T 52 false,.T 3 true]),(107,.st 73 true),(104,.st 73 true)]⟩
def Bzf:El:=⟨[(0,.p 1),(3,.p 103),(4,.p 104),(33,.v 4)],[(1,.box [.v 2,.v 2,.v 2,.v 2,.v 2,.v 2,.T 5 true,.T 3 true,.T 3 true,.T 50 true,.T 52 false,.T 3 true]),(104,.st 73 true),(103,.box [.v 2,.v 2,.v 2,.v 2,.v 2,.v 2,.v 2,.v 2,.v 2,.v 22])]⟩
def Ba8:=jn (Bi5 K) 55287 Bze [] (fun a b c d e f g h i j k l m _=>A0x K a b c d e f g h i j k l m) kN
def Bc2:=jn (Bi5 K) 1727 Bzf [] (Avp K) (kC (Ba8 K) kN)
def Brv:=ct (Bi5 K) (A0l K) (kC (Bc2 K) kN)
def Aui (K:Nat):Nat->(List Ct)->Int->(List Int)->Int->Int->C8->Eb->C8->Eb->Option (Eb×(List Ct)×C8×D1)
 |0,_,_,_,_,_,_,_,_,_=>none
 |n1+1,v4,v5,v6,v7,v8,v9,v10,v11,v12=>(bif (decide (v5>0))then(bif (decide ((v4.length:Int)<200))then((Ave K (D1.mk v6 v7 v8) v9).bind fun r13=>(if r13.2.2.1.length=v9.fP.Pm.length∧r13.2.2.2.1.length=v9.fP.Vt.length∧r13.2.2.2.2.1.length=v9.fP.Pn.length∧r13.2.2.2.2.2.1.length=v9.fL.length∧r13.2.2.2.2.2.2.1.length=v9.fQ.length∧r13.2.2.2.2.2.2.2.length=v9.Adf.length then(if(v4++([r13.1]:List Ct)).length*96≤140737488355328∧(v4++([r13.1]:List Ct)).length≤maxLen then((A0l K (C8.mk v9.fC (Dp.mk r13.2.2.1 r13.2.2.2.1 r13.2.2.2.2.1) r13.2.2.2.2.2.1 r13.2.2.2.2.2.2.1 r13.2.2.2.2.2.2.2) r13.1).bind fun r14=>(Aui K n1 (v4++([r13.1]:List Ct)) (An8 .i64 v5 1) r13.2.1.fb r13.2.1.fi r13.2.1.fh r14.2 v10 v11 v12))else none)else none))else some (v10,v4,v9,(D1.mk v6 v7 v8)))else some (v10,v4,v9,(D1.mk v6 v7 v8)))
def Azk (K:Nat)(a0:D1)(a1:Int):Option (Eb×(List Ct)×C8×D1):=((Awi K a0).bind fun r1=>((Awy K r1.1).bind fun r2=>((Ap K r1.2 a1).bind fun r3=>(Aui K K ([]:List Ct) (An7 .i64 4 r3.1) r3.2.fb r3.2.fi r3.2.fh r2 r1.1 (C8.mk (Eb.mk 0 0 0 0 0 0) (Dp.mk [] [] []) [] [] []) (Eb.mk 0 0 0 0 0 0)))))
def Bpx:=fd Tryz.func149 ⟨[.b 148 false,.v 3],[.v 25,.n 149 false,.n 32 false],false⟩ (gC (Buy K) (gC (A2z K) (gC (Bpb K) (gC (But K) (gC (Brv K) gN))))) [22,23] [] [(4,[.put 108,.take 108 10 6738,.shal 6738,.put 108,.shal 1009]),(7,[.take 108 6 6734,.take 108 7 6735,.take 108 8 6736,.take 108 9 6737,.take 108 10 6738,.take 108 11 6739]),(9,[.put 108]),(10,[.take 108 6 6734,.take 108 7 6735,.take 108 8 6736,.take 108 9 6737,.take 108 10 6738,.take 108 11 6739])] [(32,[.frz 3032])]
def Bzg:El:=⟨[(0,.p 1),(4,.p 104),(6,.p 106),(7,.p 107),(8,.p 108),(9,.o 1009 40 false),(10,.v 2)],[(1,.box [.v 22,.v 2,.v 2]),(108,.st 32 false),(107,.st 25 true),(106,.st 32 true),(104,.st 25 true)]⟩
def Bf6:=lp (Bpx K) 250 Bzg [] (Aui K) (fun n=>kN)
def Brw:=ct (Bpx K) (Azk K) (kC (Bf6 K K) kN)
def Auj (K:Nat)(a0:D1)(a1:Int):Option (C8×D1):=((Azk K a0 a1).bind fun r1=>some (r1.2.2.1,r1.2.2.2))
def Bi6:=ct (fd Tryz.func68 ⟨[.b 148 false,.v 3],[.n 32 false],false⟩ (gC (Brw K) gN)) (Auj K)
def Apr (K:Nat)(v4:List Int)(v5:Int)(v6:Int)(v7:Eb)(v8:Eb):Option (Eb×D1):=some (v7,(D1.mk v4 v5 v6))
def A0m (K:Nat)(a0:D1):Option (Eb×D1):=((Awi K a0).bind fun r1=>((Ap K r1.2 14).bind fun r2=>(bif (r2.1==0)then((Wy K r2.2 ([1,2,12,13]:List Int)).bind fun r3=>(if r3.2.2.length=([1,2,12,13]:List Int).length then(Apr K r3.2.1.fb r3.2.1.fi r3.2.1.fh (Eb.mk r3.1 r1.1.Hi r1.1.Fb r1.1.G8 r1.1.Fc r1.1.Hj) (Eb.mk 0 0 0 0 0 0))else none))else(bif (r2.1==1)then((Wy K r2.2 ([7,8,16,17]:List Int)).bind fun r9=>(if r9.2.2.length=([7,8,16,17]:List Int).length then(Apr K r9.2.1.fb r9.2.1.fi r9.2.1.fh (Eb.mk r1.1.Az r9.1 r1.1.Fb r1.1.G8 r1.1.Fc r1.1.Hj) (Eb.mk 0 0 0 0 0 0))else none))else(bif (r2.1==2)then((Wy K r2.2 ([1,8,9]:List Int)).bind fun r10=>(if r10.2.2.length=([1,8,9]:List Int).length then(Apr K r10.2.1.fb r10.2.1.fi r10.2.1.fh (Eb.mk r1.1.Az r1.1.Hi r10.1 r1.1.G8 r1.1.Fc r1.1.Hj) (Eb.mk 0 0 0 0 0 0))else none))else(bif (r2.1==3)then((Wy K r2.2 ([0,8,9]:List Int)).bind fun r11=>(if r11.2.2.length=([0,8,9]:List Int).length then(Apr K r11.2.1.fb r11.2.1.fi r11.2.1.fh (Eb.mk r1.1.Az r1.1.Hi r1.1.Fb r11.1 r1.1.Fc r1.1.Hj) (Eb.mk 0 0 0 0 0 0))else none))else(bif (r2.1==4)then((Wy K r2.2 ([0,17]:List Int)).bind fun r12=>(if r12.2.2.length=([0,17]:List Int).length then(Apr K r12.2.1.fb r12.2.1.fi r12.2.1.fh (Eb.mk r1.1.Az r1.1.Hi r1.1.Fb r1.1.G8 r12.1 r1.1.Hj) (Eb.mk 0 0 0 0 0 0))else none))else(bif (r2.1==5)then((Wy K r2.2 ([0,5]:List Int)).bind fun r13=>(if r13.2.2.length=([0,5]:List Int).length then(Apr K r13.2.1.fb r13.2.1.fi r13.2.1.fh (Eb.mk r1.1.Az r1.1.Hi r1.1.Fb r1.1.G8 r1.1.Fc r13.1) (Eb.mk 0 0 0 0 0 0))else none))else(Apr K r2.2.fb r2.2.fi r2.2.fh r1.1 (Eb.mk 0 0 0 0 0 0))))))))))
def Bpy:=fd Tryz.func90 ⟨[.b 148 false],[.v 25],false⟩ (gC (A2z K) (gC (Ba0 K) (gC (But K) gN))) [] [7]
def Bzh:El:=⟨[(2,.p 102),(3,.p 103)],[(1,.box [.v 22,.v 2,.v 2]),(103,.st 25 true),(102,.st 25 true)]⟩
def Bn3:=jn (Bpy K) 7 Bzh [] (Apr K) kN
def Brx:=ct (Bpy K) (A0m K) (kC (Bn3 K) kN)
def Atb (K:Nat)(a1:Eb)(v4:List Int)(v5:Int)(v6:Int)(v7:Bd):Option (Bd×D1):=((Ap K (D1.mk v4 v5 v6) a1.Az).bind fun r8=>((Ap K r8.2 a1.Hi).bind fun r9=>((Ap K r9.2 (An8 .i64 a1.Hi r9.1)).bind fun r10=>some ((Bd.mk (An7 .i64 (An9 .i64 r8.1 a1.Hi) r9.1) (An7 .i64 1 r10.1) 0),r10.2))))
def Ayk (K:Nat)(a0:D1)(a1:Eb):Option (Bd×D1):=((Anz K a0 4).bind fun r1=>(bif r1.1 then(bif (decide (a1.Az>2))then((Ap K r1.2 (An8 .i64 a1.Az 1)).bind fun r2=>((Ap K r2.2 a1.Hi).bind fun r3=>some ((Bd.mk (An9 .i64 a1.Hi r2.1) (An7 .i64 (An7 .i64 a1.Hi 1) r3.1) 2),r3.2)))else(Atb K a1 r1.2.fb r1.2.fi r1.2.fh (Bd.mk 0 0 0)))else(Atb K a1 r1.2.fb r1.2.fi r1.2.fh (Bd.mk 0 0 0))))
def Bpz:=fd Tryz.func285 ⟨[.b 148 false,.v 25],[.v 132],false⟩ (gC (A2z K) (gC (Ba3 K) gN)) [8,9] [3]
def Bzi:El:=⟨[(0,.p 1),(3,.p 103),(4,.p 104)],[(1,.box [.v 22,.v 2,.v 2]),(104,.st 132 true),(103,.st 25 true)]⟩
def Bn4:=jn (Bpz K) 3 Bzi [] (fun a b c d e=>Atb K e a b c d) kN
def Bry:=ct (Bpz K) (Ayk K) (kC (Bn4 K) kN)
def Auk (K:Nat):Nat->Int->(List Int)->Int->Int->Au->Option (Au×D1)
 |0,_,_,_,_,_=>none
 |n4+1,v25,v26,v27,v28,v29=>(bif (decide (v25>0))then((Ap K (D1.mk v26 v27 v28) 256).bind fun r30=>(if(v29.Fo++([r30.1]:List Int)).length*8≤140737488355328∧(v29.Fo++([r30.1]:List Int)).length≤maxLen then(Auk K n4 (An8 .i64 v25 1) r30.2.fb r30.2.fi r30.2.fh (Au.mk v29.Vt v29.Dc v29.S5 v29.fUp v29.S6 v29.Eg v29.S7 v29.S8 v29.Az v29.Ade v29.S9 v29.Ga (v29.Fo++([r30.1]:List Int))))else none))else some (v29,(D1.mk v26 v27 v28)))
def Aul (K:Nat)(a1:Eb):Nat->Int->(List Int)->Int->Int->Au->Option (Au×D1)
 |0,_,_,_,_,_=>none
 |n3+1,v18,v19,v20,v21,v22=>(bif (decide (v18>0))then((Ayk K (D1.mk v19 v20 v21) a1).bind fun r23=>(if(v22.Ga++([r23.1]:List Bd)).length*24≤140737488355328∧(v22.Ga++([r23.1]:List Bd)).length≤maxLen then(Aul K a1 n3 (An8 .i64 v18 1) r23.2.fb r23.2.fi r23.2.fh (Au.mk v22.Vt v22.Dc v22.S5 v22.fUp v22.S6 v22.Eg v22.S7 v22.S8 v22.Az v22.Ade v22.S9 (v22.Ga++([r23.1]:List Bd)) v22.Fo))else none))else((Ap K (D1.mk v19 v20 v21) 3).bind fun r24=>(Auk K K r24.1 r24.2.fb r24.2.fi r24.2.fh v22)))
def Aum (K:Nat)(a1:Eb)(v13:List Int)(v14:Int)(v15:Int)(v16:Au):Option (Au×D1):=((Ap K (D1.mk v13 v14 v15) 3).bind fun r17=>(Aul K a1 K r17.1 r17.2.fb r17.2.fi r17.2.fh v16))
def Aun (K:Nat)(a1:Eb):Nat->Int->(List Int)->Int->Int->Au->Au->Option (Au×D1)
 |0,_,_,_,_,_,_=>none
 |n1+1,v6,v7,v8,v9,v10,v11=>(bif (decide (v6>0))then(if(v10.Az++([(An8 .i64 v6 1)]:List Int)).length*8≤140737488355328∧(v10.Az++([(An8 .i64 v6 1)]:List Int)).length≤maxLen then(Aun K a1 n1 (An8 .i64 v6 1) v7 v8 v9 (Au.mk v10.Vt v10.Dc v10.S5 v10.fUp v10.S6 v10.Eg v10.S7 v10.S8 (v10.Az++([(An8 .i64 v6 1)]:List Int)) v10.Ade v10.S9 v10.Ga v10.Fo) v11)else none)else(bif (decide ((v10.Az.length:Int)>0))then(if(0:Int)≤0∧0<(v10.Az.length:Int)then((Ap K (D1.mk v7 v8 v9) (An7 .i64 a1.Hi 1)).bind fun r12=>(Aum K a1 r12.2.fb r12.2.fi r12.2.fh (Au.mk v10.Vt v10.Dc v10.S5 v10.fUp v10.S6 v10.Eg v10.S7 v10.S8 v10.Az (An7 .i64 (gt v10.Az 0) 1) r12.1 v10.Ga v10.Fo)))else none)else(Aum K a1 v7 v8 v9 v10)))
def Azl (K:Nat)(a0:D1)(a1:Eb):Option (Au×D1):=((Ap K a0 a1.Hj).bind fun r1=>((Al1 K (An7 .i64 1 r1.1)).bind fun r2=>((Ap K r1.2 4).bind fun r3=>(bif (r3.1 != 1)then some ((Au.mk r3.1 r2.Dc r2.S5 r2.fUp r2.S6 r2.Eg r2.S7 r2.S8 r2.Az r2.Ade r2.S9 r2.Ga r2.Fo),r3.2)else((Ap K r3.2 3).bind fun r4=>((Ap K r4.2 3).bind fun r5=>(Aun K a1 K r5.1 r5.2.fb r5.2.fi r5.2.fh (Au.mk r3.1 r2.Dc r4.1 r2.fUp r2.S6 r2.Eg r2.S7 r2.S8 r2.Az r2.Ade r2.S9 r2.Ga r2.Fo) (Au.mk 0 0 0 0 0 0 0 0 [] 0 0 [] []))))))))
def Ba9:=fd Tryz.func254 ⟨[.b 148 false,.v 25],[.n 50 false],false⟩ (gC (A2z K) (gC (Ba2 K) (gC (Bry K) gN))) [] [127] [(9,[.take 105 8 6688]),(10,[.take 105 8 6688]),(17,[.take 105 11 6691]),(21,[.take 105 12 6692]),(22,[.take 105 8 6688,.take 105 11 6691,.take 105 12 6692])]
def Bzj:El:=⟨[(0,.p 1),(4,.p 104),(5,.p 105),(9,.v 2)],[(1,.box [.v 22,.v 2,.v 2]),(105,.st 50 false),(104,.st 50 false)]⟩
def Bwv:El:=⟨[(0,.p 1),(3,.p 103),(4,.p 104),(5,.p 105),(7,.v 2)],[(1,.box [.v 22,.v 2,.v 2]),(105,.st 50 false),(104,.st 50 false),(103,.st 25 true)]⟩
def Bzk:El:=⟨[(0,.p 1),(3,.p 103),(4,.p 104),(5,.p 105)],[(1,.box [.v 22,.v 2,.v 2]),(105,.st 50 false),(104,.st 50 false),(103,.st 25 true)]⟩
def Bzl:El:=⟨[(0,.p 1),(3,.p 103),(4,.p 104),(5,.p 105),(6,.v 2)],[(1,.box [.v 22,.v 2,.v 2]),(105,.st 50 false),(104,.st 50 false),(103,.st 25 true)]⟩
def Bc3:=lp (Ba9 K) 4090 Bzj [] (fun n a b c d e _=>Auk K n a b c d e) (fun n=>kN)
def Bc4:=lp (Ba9 K) 2042 Bwv [] (fun n a b c d e _ g=>Aul K g n a b c d e) (fun n=>(kC (up (Bc3 K K)) kN))
def Bf7:=jn (Ba9 K) 127 Bzk [] (fun a b c d _ f=>Aum K f a b c d) (kC (Bc4 K K) kN)
def Bf8:=lp (Ba9 K) 506 Bzl [] (fun n a b c d e f g=>Aun K g n a b c d e f) (fun n=>(kC (up (Bf7 K)) kN))
def Brz:=ct (Ba9 K) (Azl K) (kC (Bf8 K K) kN)
def Al4 (K:Nat)(v4:List Int)(v5:Int)(v6:Int)(v7:Au)(v8:Au):Option (Au×D1):=some (v7,(D1.mk v4 v5 v6))
def A0n (K:Nat)(a0:D1)(a1:Eb):Option (Au×D1):=((Azl K a0 a1).bind fun r1=>((Ap K r1.2 14).bind fun r2=>(bif (r2.1==0)then((Ap K r2.2 6).bind fun r3=>(Al4 K r3.2.fb r3.2.fi r3.2.fh (Au.mk (An8 .i64 r3.1 1) r1.1.Dc r1.1.S5 r1.1.fUp r1.1.S6 r1.1.Eg r1.1.S7 r1.1.S8 r1.1.Az r1.1.Ade r1.1.S9 r1.1.Ga r1.1.Fo) (Au.mk 0 0 0 0 0 0 0 0 [] 0 0 [] [])))else(bif (r2.1==1)then((Wy K r2.2 ([0,4,5]:List Int)).bind fun r9=>(if r9.2.2.length=([0,4,5]:List Int).length then(Al4 K r9.2.1.fb r9.2.1.fi r9.2.1.fh (Au.mk r1.1.Vt r9.1 r1.1.S5 r1.1.fUp r1.1.S6 r1.1.Eg r1.1.S7 r1.1.S8 r1.1.Az r1.1.Ade r1.1.S9 r1.1.Ga r1.1.Fo) (Au.mk 0 0 0 0 0 0 0 0 [] 0 0 [] []))else none))else(bif (r2.1==2)then((Wy K r2.2 ([(-1),1,8,9]:List Int)).bind fun r10=>(if r10.2.2.length=([(-1),1,8,9]:List Int).length then(Al4 K r10.2.1.fb r10.2.1.fi r10.2.1.fh (Au.mk r1.1.Vt r1.1.Dc r1.1.S5 r10.1 r1.1.S6 r1.1.Eg r1.1.S7 r1.1.S8 r1.1.Az r1.1.Ade r1.1.S9 r1.1.Ga r1.1.Fo) (Au.mk 0 0 0 0 0 0 0 0 [] 0 0 [] []))else none))else(bif (r2.1==3)then((Wy K r2.2 ([0,12,(-1)]:List Int)).bind fun r11=>(if r11.2.2.length=([0,12,(-1)]:List Int).length then(if(r1.1.Az++([r11.1]:List Int)).length*8≤140737488355328∧(r1.1.Az++([r11.1]:List Int)).length≤maxLen then(Al4 K r11.2.1.fb r11.2.1.fi r11.2.1.fh (Au.mk r1.1.Vt r1.1.Dc r1.1.S5 r1.1.fUp r1.1.S6 r1.1.Eg r1.1.S7 r1.1.S8 (r1.1.Az++([r11.1]:List Int)) r1.1.Ade r1.1.S9 r1.1.Ga r1.1.Fo) (Au.mk 0 0 0 0 0 0 0 0 [] 0 0 [] []))else none)else none))else(bif (r2.1==4)then((Ap K r2.2 4).bind fun r12=>(Al4 K r12.2.fb r12.2.fi r12.2.fh (Au.mk r1.1.Vt r1.1.Dc r1.1.S5 r1.1.fUp r1.1.S6 r1.1.Eg r1.1.S7 r1.1.S8 r1.1.Az r12.1 r1.1.S9 r1.1.Ga r1.1.Fo) (Au.mk 0 0 0 0 0 0 0 0 [] 0 0 [] [])))else(bif (r2.1==5)then((Wy K r2.2 ([0,8,17,(-1)]:List Int)).bind fun r13=>(if r13.2.2.length=([0,8,17,(-1)]:List Int).length then(Al4 K r13.2.1.fb r13.2.1.fi r13.2.1.fh (Au.mk r1.1.Vt r1.1.Dc r1.1.S5 r1.1.fUp r1.1.S6 r1.1.Eg r1.1.S7 r1.1.S8 r1.1.Az r1.1.Ade r13.1 r1.1.Ga r1.1.Fo) (Au.mk 0 0 0 0 0 0 0 0 [] 0 0 [] []))else none))else(bif (r2.1==6)then((Wy K r2.2 ([255,256,(-1)]:List Int)).bind fun r14=>(if r14.2.2.length=([255,256,(-1)]:List Int).length then(if(r1.1.Fo++([r14.1]:List Int)).length*8≤140737488355328∧(r1.1.Fo++([r14.1]:List Int)).length≤maxLen then(Al4 K r14.2.1.fb r14.2.1.fi r14.2.1.fh (Au.mk r1.1.Vt r1.1.Dc r1.1.S5 r1.1.fUp r1.1.S6 r1.1.Eg r1.1.S7 r1.1.S8 r1.1.Az r1.1.Ade r1.1.S9 r1.1.Ga (r1.1.Fo++([r14.1]:List Int))) (Au.mk 0 0 0 0 0 0 0 0 [] 0 0 [] []))else none)else none))else(bif (r2.1==7)then((Ap K r2.2 100).bind fun r15=>((Ap K r15.2 20).bind fun r16=>((Ap K r16.2 3).bind fun r17=>(if(r1.1.Ga++([(Bd.mk r15.1 r16.1 r17.1)]:List Bd)).length*24≤140737488355328∧(r1.1.Ga++([(Bd.mk r15.1 r16.1 r17.1)]:List Bd)).length≤maxLen then(Al4 K r17.2.fb r17.2.fi r17.2.fh (Au.mk r1.1.Vt r1.1.Dc r1.1.S5 r1.1.fUp r1.1.S6 r1.1.Eg r1.1.S7 r1.1.S8 r1.1.Az r1.1.Ade r1.1.S9 (r1.1.Ga++([(Bd.mk r15.1 r16.1 r17.1)]:List Bd)) r1.1.Fo) (Au.mk 0 0 0 0 0 0 0 0 [] 0 0 [] []))else none))))else(Al4 K r2.2.fb r2.2.fi r2.2.fh r1.1 (Au.mk 0 0 0 0 0 0 0 0 [] 0 0 [] []))))))))))))
def Bp0:=fd Tryz.func187 ⟨[.b 148 false,.v 25],[.n 50 false],false⟩ (gC (A2z K) (gC (Ba0 K) (gC (Brz K) gN))) [] [7] [(19,[.take 105 8 6688,.take 105 11 6691,.take 105 12 6692])]
def Bzm:El:=⟨[(4,.p 104),(5,.p 105)],[(1,.box [.v 22,.v 2,.v 2]),(105,.st 50 false),(104,.st 50 false)]⟩
def Bn5:=jn (Bp0 K) 7 Bzm [] (Al4 K) kN
def Br0:=ct (Bp0 K) (A0n K) (kC (Bn5 K) kN)
def Atc (K:Nat):Nat->Int->(List Int)->Int->Int->Au->Option (Au×D1)
 |0,_,_,_,_,_=>none
 |n3+1,v23,v24,v25,v26,v27=>(bif (decide (v23>0))then((Ap K (D1.mk v24 v25 v26) 256).bind fun r28=>(if(v27.Fo++([r28.1]:List Int)).length*8≤140737488355328∧(v27.Fo++([r28.1]:List Int)).length≤maxLen then(Atc K n3 (An8 .i64 v23 1) r28.2.fb r28.2.fi r28.2.fh (Au.mk v27.Vt v27.Dc v27.S5 v27.fUp v27.S6 v27.Eg v27.S7 v27.S8 v27.Az v27.Ade v27.S9 v27.Ga (v27.Fo++([r28.1]:List Int))))else none))else some (v27,(D1.mk v24 v25 v26)))
def Atd (K:Nat)(v18:List Int)(v19:Int)(v20:Int)(v21:Au):Option (Au×D1):=((Ap K (D1.mk v18 v19 v20) 3).bind fun r22=>(Atc K K r22.1 r22.2.fb r22.2.fi r22.2.fh v21))
def Ate (K:Nat)(a1:Eb):Nat->Int->(List Int)->Int->Int->Au->Au->Option (Au×D1)
 |0,_,_,_,_,_,_=>none
 |n1+1,v7,v8,v9,v10,v11,v12=>(bif (decide (v7>0))then((Ap K (D1.mk v8 v9 v10) 5).bind fun r13=>((Wy K r13.2 ([1,2,4]:List Int)).bind fun r14=>(if r14.2.2.length=([1,2,4]:List Int).length then((Aue K a1 v11 (An7 .i64 1 r13.1) r14.1).bind fun r15=>(Ate K a1 n1 (An8 .i64 v7 1) r14.2.1.fb r14.2.1.fi r14.2.1.fh r15.1 v12))else none)))else((Anz K (D1.mk v8 v9 v10) 3).bind fun r16=>(bif r16.1 then((Aqx K a1 v11 2 (An7 .i64 a1.Hi 1)).bind fun r17=>(Atd K r16.2.fb r16.2.fi r16.2.fh r17.1))else(Atd K r16.2.fb r16.2.fi r16.2.fh v11))))
def Ayl (K:Nat)(a0:D1)(a1:Eb):Option (Au×D1):=((Ap K a0 a1.Hj).bind fun r1=>((Al1 K (An7 .i64 1 r1.1)).bind fun r2=>((Ap K r1.2 2).bind fun r3=>((Ap K r3.2 2).bind fun r4=>((Aut K a1 (Au.mk 1 r2.Dc r3.1 r2.fUp r2.S6 r2.Eg r2.S7 r2.S8 r2.Az r2.Ade r2.S9 r2.Ga r2.Fo) r4.1).bind fun r5=>((Ap K r4.2 4).bind fun r6=>(Ate K a1 K r6.1 r6.2.fb r6.2.fi r6.2.fh r5.1 (Au.mk 0 0 0 0 0 0 0 0 [] 0 0 [] []))))))))
def Ber:=fd Tryz.func286 ⟨[.b 148 false,.v 25],[.n 50 false],false⟩ (gC (A2z K) (gC (Ba0 K) (gC (Ba3 K) (gC (Ba2 K) (gC (Big K) (gC (Bpq K) (gC (Bpo K) gN))))))) [] [255] [(9,[.take 105 8 6688,.take 105 11 6691,.take 105 12 6692]),(11,[.take 105 8 6688,.take 105 11 6691,.take 105 12 6692]),(15,[.take 105 12 6692]),(16,[.take 105 8 6688,.take 105 11 6691,.take 105 12 6692])]
def Bzn:El:=⟨[(0,.p 1),(4,.p 104),(5,.p 105),(8,.v 2)],[(1,.box [.v 22,.v 2,.v 2]),(105,.st 50 false),(104,.st 50 false)]⟩
def Bzo:El:=⟨[(0,.p 1),(4,.p 104),(5,.p 105)],[(1,.box [.v 22,.v 2,.v 2]),(105,.st 50 false),(104,.st 50 false)]⟩
def Bc5:=lp (Ber K) 4090 Bzn [] (fun n a b c d e _=>Atc K n a b c d e) (fun n=>kN)
def Bf9:=jn (Ber K) 255 Bzo [] (fun a b c d _=>Atd K a b c d) (kC (Bc5 K K) kN)
def Bc6:=lp (Ber K) 1018 Bwv [] (fun n a b c d e f g=>Ate K g n a b c d e f) (fun n=>(kC (up (Bf9 K)) kN))
def Br1:=ct (Ber K) (Ayl K) (kC (Bc6 K K) kN)
def Av7 (K:Nat)(v12:List Int)(v13:Int)(v14:Int)(v15:A1):Option (A1×D1):=some (v15,(D1.mk v12 v13 v14))
def Atf (K:Nat)(v6:List Int)(v7:Int)(v8:Int)(v9:A1)(v10:A1):Option (A1×D1):=((Anz K (D1.mk v6 v7 v8) 4).bind fun r11=>(bif r11.1 then(Av7 K r11.2.fb r11.2.fi r11.2.fh (A1.mk v9.Bk v9.Eg ([]:List Int) ([]:List Int) 0))else(Av7 K r11.2.fb r11.2.fi r11.2.fh v9)))
def Aym (K:Nat)(a0:D1)(a1:Eb):Option (A1×D1):=((Ayl K a0 a1).bind fun r1=>((Ap K r1.2 (An7 .i64 a1.Fb 1)).bind fun r2=>((As0 K r1.1 r2.1).bind fun r3=>((Ap K r2.2 3).bind fun r4=>(bif (decide ((r3.Az.length:Int)>0))then((Ap K r4.2 a1.Hi).bind fun r5=>(Atf K r5.2.fb r5.2.fi r5.2.fh (A1.mk r3.Bk r4.1 r3.Fo r3.Az r5.1) (A1.mk 0 0 [] [] 0)))else(Atf K r4.2.fb r4.2.fi r4.2.fh (A1.mk r3.Bk r4.1 r3.Fo r3.Az r3.Xa) (A1.mk 0 0 [] [] 0)))))))
def Bi7:=fd Tryz.func255 ⟨[.b 148 false,.v 25],[.n 52 true],false⟩ (gC (A2z K) (gC (Ba3 K) (gC (Bh5 K) (gC (Br1 K) gN)))) [] [15,31] [(9,[.take 105 2 6682,.take 105 3 6683])]
def Bww:El:=⟨[(4,.p 104),(5,.p 105)],[(1,.box [.v 22,.v 2,.v 2]),(105,.st 52 true),(104,.st 52 true)]⟩
def Bzp:El:=⟨[(0,.p 1),(4,.p 104),(5,.p 105)],[(1,.box [.v 22,.v 2,.v 2]),(105,.st 52 true),(104,.st 52 true)]⟩
def Bi8:=jn (Bi7 K) 31 Bww [] (fun a b c d _=>Av7 K a b c d) kN
def Bi9:=jn (Bi7 K) 15 Bzp [] (Atf K) (kC (Bi8 K) kN)
def Br2:=ct (Bi7 K) (Aym K) (kC (Bi9 K) kN)
def Ap0 (K:Nat)(v4:List Int)(v5:Int)(v6:Int)(v7:A1)(v8:A1):Option (A1×D1):=some (v7,(D1.mk v4 v5 v6))
def Azm (K:Nat)(a0:D1)(a1:Eb):Option (A1×D1):=((Aym K a0 a1).bind fun r1=>((Ap K r1.2 10).bind fun r2=>(bif (r2.1==0)then((Wy K r2.2 ([(-1),0,8,9]:List Int)).bind fun r3=>(if r3.2.2.length=([(-1),0,8,9]:List Int).length then(Ap0 K r3.2.1.fb r3.2.1.fi r3.2.1.fh (A1.mk r3.1 r1.1.Eg r1.1.Fo r1.1.Az r1.1.Xa) (A1.mk 0 0 [] [] 0))else none))else(bif (r2.1==1)then((Wy K r2.2 ([(-1),9,0]:List Int)).bind fun r9=>(if r9.2.2.length=([(-1),9,0]:List Int).length then(Ap0 K r9.2.1.fb r9.2.1.fi r9.2.1.fh (A1.mk r1.1.Bk r9.1 r1.1.Fo r1.1.Az r1.1.Xa) (A1.mk 0 0 [] [] 0))else none))else(bif (r2.1==2)then((Wy K r2.2 ([(-1),0,8,16]:List Int)).bind fun r10=>(if r10.2.2.length=([(-1),0,8,16]:List Int).length then(Ap0 K r10.2.1.fb r10.2.1.fi r10.2.1.fh (A1.mk r1.1.Bk r1.1.Eg r1.1.Fo r1.1.Az r10.1) (A1.mk 0 0 [] [] 0))else none))else(bif (r2.1==3)then((Wy K r2.2 ([(-1),255,256]:List Int)).bind fun r11=>(if r11.2.2.length=([(-1),255,256]:List Int).length then(if(r1.1.Fo++([r11.1]:List Int)).length*8≤140737488355328∧(r1.1.Fo++([r11.1]:List Int)).length≤maxLen then(Ap0 K r11.2.1.fb r11.2.1.fi r11.2.1.fh (A1.mk r1.1.Bk r1.1.Eg (r1.1.Fo++([r11.1]:List Int)) r1.1.Az r1.1.Xa) (A1.mk 0 0 [] [] 0))else none)else none))else(bif (r2.1==4)then((Wy K r2.2 ([(-1),0,12]:List Int)).bind fun r12=>(if r12.2.2.length=([(-1),0,12]:List Int).length then(if(r1.1.Az++([r12.1]:List Int)).length*8≤140737488355328∧(r1.1.Az++([r12.1]:List Int)).length≤maxLen then(Ap0 K r12.2.1.fb r12.2.1.fi r12.2.1.fh (A1.mk r1.1.Bk r1.1.Eg r1.1.Fo (r1.1.Az++([r12.1]:List Int)) r1.1.Xa) (A1.mk 0 0 [] [] 0))else none)else none))else(Ap0 K r2.2.fb r2.2.fi r2.2.fh r1.1 (A1.mk 0 0 [] [] 0)))))))))
def Bp1:=fd Tryz.func188 ⟨[.b 148 false,.v 25],[.n 52 true],false⟩ (gC (A2z K) (gC (Ba0 K) (gC (Br2 K) gN))) [] [7] [(13,[.take 105 2 6682,.take 105 3 6683])]
def Bn6:=jn (Bp1 K) 7 Bww [] (Ap0 K) kN
def Br3:=ct (Bp1 K) (Azm K) (kC (Bn6 K) kN)
def Adg (K:Nat)(v5:List Int)(v6:Int)(v7:Int)(v8:Int)(v9:Int)(v10:Int)(v11:Int)(v12:Int)(v13:Int)(v14:List Int)(v15:List Int)(v16:List Int)(v17:List Au)(v18:List A1)(v19:List Int)(v20:Int)(v21:Int)(v22:Int)(v23:Int)(v24:Int)(v25:Int)(v26:List Int)(v27:List Int)(v28:List Int)(v29:List Au)(v30:List A1)(v31:List Int):Option (C8×D1):=some ((C8.mk (Eb.mk v8 v9 v10 v11 v12 v13) (Dp.mk v14 v15 v16) v17 v18 v19),(D1.mk v5 v6 v7))
def Azn (K:Nat)(a0:D1)(a1:Int):Option (C8×D1):=((Auj K a0 a1).bind fun r1=>((Ap K r1.2 (r1.1.fL.length:Int)).bind fun r2=>((Ap K r2.2 40).bind fun r3=>(bif (r3.1==0)then((A0m K r3.2).bind fun r4=>(Adg K r4.2.fb r4.2.fi r4.2.fh r4.1.Az r4.1.Hi r4.1.Fb r4.1.G8 r4.1.Fc r4.1.Hj r1.1.fP.Pm r1.1.fP.Vt r1.1.fP.Pn r1.1.fL r1.1.fQ r1.1.Adf 0 0 0 0 0 0 [] [] [] [] [] []))else(bif (r3.1==1)then((Ap K r3.2 (r1.1.fP.Vt.length:Int)).bind fun r32=>((Ap K r32.2 4).bind fun r33=>(if(0:Int)≤r32.1∧r32.1<(r1.1.fP.Vt.length:Int)then(Adg K r33.2.fb r33.2.fi r33.2.fh r1.1.fC.Az r1.1.fC.Hi r1.1.fC.Fb r1.1.fC.G8 r1.1.fC.Fc r1.1.fC.Hj r1.1.fP.Pm (r1.1.fP.Vt.set r32.1.toNat r33.1) r1.1.fP.Pn r1.1.fL r1.1.fQ r1.1.Adf 0 0 0 0 0 0 [] [] [] [] [] [])else none)))else(bif (r3.1==2)then((Ap K r3.2 (r1.1.fP.Pm.length:Int)).bind fun r34=>(if(0:Int)≤r34.1∧r34.1<(r1.1.fP.Pm.length:Int)then(Adg K r34.2.fb r34.2.fi r34.2.fh r1.1.fC.Az r1.1.fC.Hi r1.1.fC.Fb r1.1.fC.G8 r1.1.fC.Fc r1.1.fC.Hj (r1.1.fP.Pm.set r34.1.toNat 9) r1.1.fP.Vt r1.1.fP.Pn r1.1.fL r1.1.fQ r1.1.Adf 0 0 0 0 0 0 [] [] [] [] [] [])else none))else(bif (r3.1==3)then((A0n K r3.2 r1.1.fC).bind fun r35=>(if(0:Int)≤r2.1∧r2.1<(r1.1.fL.length:Int)then(Adg K r35.2.fb r35.2.fi r35.2.fh r1.1.fC.Az r1.1.fC.Hi r1.1.fC.Fb r1.1.fC.G8 r1.1.fC.Fc r1.1.fC.Hj r1.1.fP.Pm r1.1.fP.Vt r1.1.fP.Pn (r1.1.fL.set r2.1.toNat r35.1) r1.1.fQ r1.1.Adf 0 0 0 0 0 0 [] [] [] [] [] [])else none))else(bif (r3.1==4)then((Ap K r3.2 4).bind fun r36=>(if(0:Int)≤r2.1∧r2.1<(r1.1.fL.length:Int)then(Aqi (r1.1.fL.set r2.1.toNat (Au.mk r36.1 ((gt r1.1.fL r2.1).Dc) ((gt r1.1.fL r2.1).S5) ((gt r1.1.fL r2.1).fUp) ((gt r1.1.fL r2.1).S6) ((gt r1.1.fL r2.1).Eg) ((gt r1.1.fL r2.1).S7) ((gt r1.1.fL r2.1).S8) ((gt r1.1.fL r2.1).Az) ((gt r1.1.fL r2.1).Ade) ((gt r1.1.fL r2.1).S9) ((gt r1.1.fL r2.1).Ga) ((gt r1.1.fL r2.1).Fo))) fun v37=>(Adg K r36.2.fb r36.2.fi r36.2.fh r1.1.fC.Az r1.1.fC.Hi r1.1.fC.Fb r1.1.fC.G8 r1.1.fC.Fc r1.1.fC.Hj r1.1.fP.Pm r1.1.fP.Vt r1.1.fP.Pn v37 r1.1.fQ r1.1.Adf 0 0 0 0 0 0 [] [] [] [] [] []))else none))else(bif (r3.1==5)then((Ap K r3.2 4).bind fun r38=>(if(0:Int)≤r2.1∧r2.1<(r1.1.fL.length:Int)then(Aqi (r1.1.fL.set r2.1.toNat (Au.mk ((gt r1.1.fL r2.1).Vt) ((gt r1.1.fL r2.1).Dc) ((gt r1.1.fL r2.1).S5) r38.1 ((gt r1.1.fL r2.1).S6) ((gt r1.1.fL r2.1).Eg) ((gt r1.1.fL r2.1).S7) ((gt r1.1.fL r2.1).S8) ((gt r1.1.fL r2.1).Az) ((gt r1.1.fL r2.1).Ade) ((gt r1.1.fL r2.1).S9) ((gt r1.1.fL r2.1).Ga) ((gt r1.1.fL r2.1).Fo))) fun v39=>(Adg K r38.2.fb r38.2.fi r38.2.fh r1.1.fC.Az r1.1.fC.Hi r1.1.fC.Fb r1.1.fC.G8 r1.1.fC.Fc r1.1.fC.Hj r1.1.fP.Pm r1.1.fP.Vt r1.1.fP.Pn v39 r1.1.fQ r1.1.Adf 0 0 0 0 0 0 [] [] [] [] [] []))else none))else(bif (r3.1==6)then(if(0:Int)≤r2.1∧r2.1<(r1.1.fL.length:Int)then(if(0:Int)≤r2.1∧r2.1<(r1.1.fL.length:Int)then(Aqi (r1.1.fL.set r2.1.toNat (Au.mk ((gt r1.1.fL r2.1).Vt) ((gt r1.1.fL r2.1).Dc) (An7 .i64 ((gt r1.1.fL r2.1).S5) 1) ((gt r1.1.fL r2.1).fUp) ((gt r1.1.fL r2.1).S6) ((gt r1.1.fL r2.1).Eg) ((gt r1.1.fL r2.1).S7) ((gt r1.1.fL r2.1).S8) ((gt r1.1.fL r2.1).Az) ((gt r1.1.fL r2.1).Ade) ((gt r1.1.fL r2.1).S9) ((gt r1.1.fL r2.1).Ga) ((gt r1.1.fL r2.1).Fo))) fun v40=>(Adg K r3.2.fb r3.2.fi r3.2.fh r1.1.fC.Az r1.1.fC.Hi r1.1.fC.Fb r1.1.fC.G8 r1.1.fC.Fc r1.1.fC.Hj r1.1.fP.Pm r1.1.fP.Vt r1.1.fP.Pn v40 r1.1.fQ r1.1.Adf 0 0 0 0 0 0 [] [] [] [] [] []))else none)else none)else(bif (r3.1==7)then((Azm K r3.2 r1.1.fC).bind fun r41=>(if(r1.1.fQ++[r41.1]).length*72≤140737488355328∧(r1.1.fQ++[r41.1]).length≤maxLen then(Adg K r41.2.fb r41.2.fi r41.2.fh r1.1.fC.Az r1.1.fC.Hi r1.1.fC.Fb r1.1.fC.G8 r1.1.fC.Fc r1.1.fC.Hj r1.1.fP.Pm r1.1.fP.Vt r1.1.fP.Pn r1.1.fL (r1.1.fQ++[r41.1]) r1.1.Adf 0 0 0 0 0 0 [] [] [] [] [] [])else none))else(bif (r3.1==8)then(bif (decide ((r1.1.fQ.length:Int)>0))then(if(0:Int)≤1∧1≤(r1.1.fQ.length:Int)∧(r1.1.fQ.length:Int)≤(r1.1.fQ.length:Int)then(Adg K r3.2.fb r3.2.fi r3.2.fh r1.1.fC.Az r1.1.fC.Hi r1.1.fC.Fb r1.1.fC.G8 r1.1.fC.Fc r1.1.fC.Hj r1.1.fP.Pm r1.1.fP.Vt r1.1.fP.Pn r1.1.fL ((r1.1.fQ.drop (1:Int).toNat).take ((r1.1.fQ.length:Int) - 1).toNat) r1.1.Adf 0 0 0 0 0 0 [] [] [] [] [] [])else none)else(Adg K r3.2.fb r3.2.fi r3.2.fh r1.1.fC.Az r1.1.fC.Hi r1.1.fC.Fb r1.1.fC.G8 r1.1.fC.Fc r1.1.fC.Hj r1.1.fP.Pm r1.1.fP.Vt r1.1.fP.Pn r1.1.fL r1.1.fQ r1.1.Adf 0 0 0 0 0 0 [] [] [] [] [] []))else(bif (r3.1==9)then((Wy K r3.2 ([0,255,256,(-1)]:List Int)).bind fun r42=>(if r42.2.2.length=([0,255,256,(-1)]:List Int).length then(if(r1.1.Adf++([r42.1]:List Int)).length*8≤140737488355328∧(r1.1.Adf++([r42.1]:List Int)).length≤maxLen then(Adg K r42.2.1.fb r42.2.1.fi r42.2.1.fh r1.1.fC.Az r1.1.fC.Hi r1.1.fC.Fb r1.1.fC.G8 r1.1.fC.Fc r1.1.fC.Hj r1.1.fP.Pm r1.1.fP.Vt r1.1.fP.Pn r1.1.fL r1.1.fQ (r1.1.Adf++([r42.1]:List Int)) 0 0 0 0 0 0 [] [] [] [] [] [])else none)else none))else(bif (r3.1==10)then(if(0:Int)≤r2.1∧r2.1<(r1.1.fL.length:Int)then(if(0:Int)≤r2.1∧r2.1<(r1.1.fL.length:Int)then((Ap K r3.2 60).bind fun r43=>(if(((gt r1.1.fL r2.1).Ga)++([(Bd.mk r43.1 2 0)]:List Bd)).length*24≤140737488355328∧(((gt r1.1.fL r2.1).Ga)++([(Bd.mk r43.1 2 0)]:List Bd)).length≤maxLen then(if(0:Int)≤r2.1∧r2.1<(r1.1.fL.length:Int)then(Adg K r43.2.fb r43.2.fi r43.2.fh r1.1.fC.Az r1.1.fC.Hi r1.1.fC.Fb r1.1.fC.G8 r1.1.fC.Fc r1.1.fC.Hj r1.1.fP.Pm r1.1.fP.Vt r1.1.fP.Pn (r1.1.fL.set r2.1.toNat (Au.mk ((gt r1.1.fL r2.1).Vt) ((gt r1.1.fL r2.1).Dc) ((gt r1.1.fL r2.1).S5) ((gt r1.1.fL r2.1).fUp) ((gt r1.1.fL r2.1).S6) ((gt r1.1.fL r2.1).Eg) ((gt r1.1.fL r2.1).S7) ((gt r1.1.fL r2.1).S8) ((gt r1.1.fL r2.1).Az) ((gt r1.1.fL r2.1).Ade) ((gt r1.1.fL r2.1).S9) (((gt r1.1.fL r2.1).Ga)++([(Bd.mk r43.1 2 0)]:List Bd)) ((gt r1.1.fL r2.1).Fo))) r1.1.fQ r1.1.Adf 0 0 0 0 0 0 [] [] [] [] [] [])else none)else none))else none)else none)else(bif (r3.1==11)then((Ap K r3.2 4).bind fun r44=>(if(0:Int)≤r2.1∧r2.1<(r1.1.fL.length:Int)then(Aqi (r1.1.fL.set r2.1.toNat (Au.mk ((gt r1.1.fL r2.1).Vt) ((gt r1.1.fL r2.1).Dc) ((gt r1.1.fL r2.1).S5) ((gt r1.1.fL r2.1).fUp) ((gt r1.1.fL r2.1).S6) ((gt r1.1.fL r2.1).Eg) r44.1 ((gt r1.1.fL r2.1).S8) ((gt r1.1.fL r2.1).Az) ((gt r1.1.fL r2.1).Ade) ((gt r1.1.fL r2.1).S9) ((gt r1.1.fL r2.1).Ga) ((gt r1.1.fL r2.1).Fo))) fun v45=>(Adg K r44.2.fb r44.2.fi r44.2.fh r1.1.fC.Az r1.1.fC.Hi r1.1.fC.Fb r1.1.fC.G8 r1.1.fC.Fc r1.1.fC.Hj r1.1.fP.Pm r1.1.fP.Vt r1.1.fP.Pn v45 r1.1.fQ r1.1.Adf 0 0 0 0 0 0 [] [] [] [] [] []))else none))else(bif (r3.1==12)then(bif (decide ((r1.1.fQ.length:Int)>0))then((Ap K r3.2 9).bind fun r46=>(if(0:Int)≤0∧0<(r1.1.fQ.length:Int)then(Adg K r46.2.fb r46.2.fi r46.2.fh r1.1.fC.Az r1.1.fC.Hi r1.1.fC.Fb r1.1.fC.G8 r1.1.fC.Fc r1.1.fC.Hj r1.1.fP.Pm r1.1.fP.Vt r1.1.fP.Pn r1.1.fL (r1.1.fQ.set (0:Int).toNat (A1.mk ((gt r1.1.fQ 0).Bk) ((gt r1.1.fQ 0).Eg) ((gt r1.1.fQ 0).Fo) ((gt r1.1.fQ 0).Az) r46.1)) r1.1.Adf 0 0 0 0 0 0 [] [] [] [] [] [])else none))else(Adg K r3.2.fb r3.2.fi r3.2.fh r1.1.fC.Az r1.1.fC.Hi r1.1.fC.Fb r1.1.fC.G8 r1.1.fC.Fc r1.1.fC.Hj r1.1.fP.Pm r1.1.fP.Vt r1.1.fP.Pn r1.1.fL r1.1.fQ r1.1.Adf 0 0 0 0 0 0 [] [] [] [] [] []))else(Adg K r3.2.fb r3.2.fi r3.2.fh r1.1.fC.Az r1.1.fC.Hi r1.1.fC.Fb r1.1.fC.G8 r1.1.fC.Fc r1.1.fC.Hj r1.1.fP.Pm r1.1.fP.Vt r1.1.fP.Pn r1.1.fL r1.1.fQ r1.1.Adf 0 0 0 0 0 0 [] [] [] [] [] [])))))))))))))))))
def Bp2:=fd Tryz.func94 ⟨[.b 148 false,.v 3],[.v 32],false⟩ (gC (A2z K) (gC (Bi6 K) (gC (Brx K) (gC (Ba0 K) (gC (Br0 K) (gC (Br3 K) gN)))))) [] [15] [(29,[.opn 20387 (.tmp 6),.takeE 20387 11 64779])] [(104,[.put 3104,.shal 3104]),(114,[.frzT 114])]
def Bzq:El:=⟨[(4,.p 104),(5,.p 105)],[(1,.box [.v 22,.v 2,.v 2]),(105,.box [.v 2,.v 2,.v 2,.v 2,.v 2,.v 2,.v 22,.v 26,.v 26,.v 29,.v 30,.v 26]),(104,.box [.v 2,.v 2,.v 2,.v 2,.v 2,.v 2,.v 22,.v 26,.v 26,.v 29,.v 30,.v 26])]⟩
def Bja:=jn (Bp2 K) 15 Bzq [] (Adg K) kN
def Br4:=ct (Bp2 K) (Azn K) (kC (Bja K) kN)
def Avq (K:Nat)(a0:List Int)(a1:Int):Option (D1×C8):=((Ax1 K a0).bind fun r1=>((Azn K r1 a1).bind fun r2=>some (r2.2,r2.1)))
def Bjb:=ct (fd Tryz.func65 ⟨[.v 22,.v 3],[.p 148 false,.v 32],false⟩ (gC (Bur K) (gC (Br4 K) gN))) (Avq K)
def Av8 (K:Nat)(a0:List Int):Option (C8×Int):=((Avq K a0 40).bind fun r1=>((Ap K r1.1 7).bind fun r2=>some (r1.2,(An8 .i64 r2.1 1))))
def Br5:=ct (fd Tryz.func9 ⟨[.v 22],[.v 32,.v 3],false⟩ (gC (Bjb K) (gC (A2z K) gN))) (Av8 K)
def Axq (K:Nat)(a0:List Int):Option (C8×Int):=((Avq K a0 40).bind fun r1=>((Ap K r1.1 7).bind fun r2=>some (r1.2,(An8 .i64 r2.1 1))))
def Br6:=ct (fd Tryz.func10 ⟨[.v 22],[.v 32,.v 3],false⟩ (gC (Bjb K) (gC (A2z K) gN))) (Axq K)
def Awr (K:Nat)(a0:List Int)(a1:Int):Option (Int):=(if 12≠(0:Int)then(bif (decide ((An7 .i64 3 (Alp .i64 (a0.length:Int) 12))>a1))then some a1 else some (An7 .i64 3 (Alp .i64 (a0.length:Int) 12)))else none)
def Br7:=ct (fd Tryz.func69 ⟨[.v 22,.v 3],[.v 3],true⟩ gN) (Awr K)
def Av9 (K:Nat)(a0:List Int):Option (C8×Ct):=((Ax1 K a0).bind fun r1=>((Awr K a0 50).bind fun r2=>((Auj K r1 (An7 .i64 20 r2)).bind fun r3=>((Ave K r3.2 r3.1).bind fun r4=>(if r4.2.2.1.length=r3.1.fP.Pm.length∧r4.2.2.2.1.length=r3.1.fP.Vt.length∧r4.2.2.2.2.1.length=r3.1.fP.Pn.length∧r4.2.2.2.2.2.1.length=r3.1.fL.length∧r4.2.2.2.2.2.2.1.length=r3.1.fQ.length∧r4.2.2.2.2.2.2.2.length=r3.1.Adf.length then some ((C8.mk r3.1.fC (Dp.mk r4.2.2.1 r4.2.2.2.1 r4.2.2.2.2.1) r4.2.2.2.2.2.1 r4.2.2.2.2.2.2.1 r4.2.2.2.2.2.2.2),r4.1)else none)))))
def Br8:=ct (fd Tryz.func11 ⟨[.v 22],[.n 32 false,.n 40 true],false⟩ (gC (Bur K) (gC (Bi6 K) (gC (Br7 K) (gC (Bpb K) gN))))) (Av9 K)
def Abc (K:Nat)(a0:Int)(a1:Int)(a2:Int):Option (Bool):=(bif (decide (a0≥a1))then some (decide (a0≤a2))else some false)
def A2g:=ct (fd Tryz.func116 ⟨[.v 3,.v 3,.v 3],[.v 4],true⟩ gN [9,10]) (Abc K)
def Aiy (K:Nat)(a0:List Au)(a1:Int):Option (Bool):=((Abc K a1 0 (An8 .i64 (a0.length:Int) 1)).bind fun r1=>some r1)
def A20:=ct (fd Tryz.func75 ⟨[.v 29,.v 3],[.v 4],true⟩ (gC (A2g K) gN)) (Aiy K)
def Aws (K:Nat)(a0:List Au):Nat->Int->(List Int)->Option ((List Int))
 |0,_,_=>none
 |n1+1,v1,v2=>((Aiy K a0 v1).bind fun r3=>(bif r3 then(bif (decide ((v2.length:Int)<(a0.length:Int)))then(if(v2++([v1]:List Int)).length*8≤140737488355328∧(v2++([v1]:List Int)).length≤maxLen then(if(0:Int)≤v1∧v1<(a0.length:Int)then(Aws K a0 n1 (An8 .i64 ((gt a0 v1).fUp) 1) (v2++([v1]:List Int)))else none)else none)else some v2)else some v2))
def Azx (K:Nat)(a0:List Au)(a1:Int):Option ((List Int)):=(Aws K a0 K a1 ([]:List Int))
def Bp3:=fd Tryz.func120 ⟨[.v 29,.v 3],[.n 26 true],true⟩ (gC (A20 K) gN) [9,10]
def Bjc:=lp (Bp3 K) 28 h_4 [] (fun n a=>Aws K a n) (fun n=>kN)
def Bjd:=ct (Bp3 K) (Azx K) (kC (Bjc K K) kN)
def Ayn (K:Nat)(v2:List Int)(v3:Int)(v4:Int)(C1:(List Int)->Int->Int->Option (Bool)):Option (Bool):=(C1 v2 v3 (An7 .i64 v4 1))
def Atg (K:Nat)(a0:List Au)(r1:(List Int)):Nat->(List Int)->Int->Int->Option (Bool)
 |0,_,_,_=>none
 |n1+1,v2,v3,v4=>(bif (decide (v4<v3))then(if(0:Int)≤v4∧v4<(v2.length:Int)then(if(0:Int)≤(gt v2 v4)∧(gt v2 v4)<(a0.length:Int)then(bif (((gt a0 (gt v2 v4)).Vt) != 1)then some false else(bif (decide ((An7 .i64 v4 1)<(r1.length:Int)))then(if(0:Int)≤(gt v2 v4)∧(gt v2 v4)<(a0.length:Int)then(if(0:Int)≤(An7 .i64 v4 1)∧(An7 .i64 v4 1)<(r1.length:Int)then(if(0:Int)≤(gt r1 (An7 .i64 v4 1))∧(gt r1 (An7 .i64 v4 1))<(a0.length:Int)then(bif (((gt a0 (gt v2 v4)).S6) != ((gt a0 (gt r1 (An7 .i64 v4 1))).S5))then some false else(Ayn K v2 v3 v4 (Atg K a0 r1 n1)))else none)else none)else none)else(Ayn K v2 v3 v4 (Atg K a0 r1 n1))))else none)else none)else(bif (decide ((r1.length:Int)>0))then(if(0:Int)≤(An8 .i64 (r1.length:Int) 1)∧(An8 .i64 (r1.length:Int) 1)<(r1.length:Int)then(if(0:Int)≤(gt r1 (An8 .i64 (r1.length:Int) 1))∧(gt r1 (An8 .i64 (r1.length:Int) 1))<(a0.length:Int)then some (((gt a0 (gt r1 (An8 .i64 (r1.length:Int) 1))).fUp)==0)else none)else none)else some false))
def A0o (K:Nat)(a0:List Au)(a1:Int):Option (Bool):=((Azx K a0 a1).bind fun r1=>(Atg K a0 r1 K r1 (r1.length:Int) 0))
def Bje:=fd Tryz.func71 ⟨[.v 29,.v 3],[.v 4],true⟩ (gC (Bjd K) gN) [28,29,49,50] [467]
def Bn7:El:=⟨[(0,.v 29),(5,.v 26),(11,.v 26),(12,.v 2),(13,.v 2)],[]⟩
def Bga:=fun(C58:CT Bn7 _)=>jn (Bje K) 467 Bn7 [(58,ar Bn7 C58)] (fun a b c d e=>Ayn K c d e (C58 a b)) kN
def Bjf:=lp (Bje K) 58 Bn7 [] (fun n a b=>Atg K a b n) (fun n=>(kC (Bga K _) kN))
def Br9:=ct (Bje K) (A0o K) (kC (Bjf K K) kN)
def Ath (K:Nat)(v2:Int)(v3:Int)(v4:Int)(v5:Int)(v6:Int)(v7:Int)(v8:Int)(v9:Int)(v10:List Int)(v11:List Int)(v12:List Int)(v13:List Au)(v14:List A1)(v15:List Int)(C1:(List Int)->Int->Int->Int->Int->Int->Int->Int->Int->(List Int)->(List Int)->(List Int)->(List Au)->(List A1)->(List Int)->Option ((List Int)))(v17:List Int):Option ((List Int)):=(C1 v17 v2 (An7 .i64 v3 1) v4 v5 v6 v7 v8 v9 v10 v11 v12 v13 v14 v15)
def Arh (K:Nat):Nat->(List Int)->Int->Int->Int->Int->Int->Int->Int->Int->(List Int)->(List Int)->(List Int)->(List Au)->(List A1)->(List Int)->Option ((List Int))
 |0,_,_,_,_,_,_,_,_,_,_,_,_,_,_,_=>none
 |n1+1,v1,v2,v3,v4,v5,v6,v7,v8,v9,v10,v11,v12,v13,v14,v15=>(bif (decide (v3<v2))then((A0o K v13 v3).bind fun r16=>(bif r16 then(if(v1++([v3]:List Int)).length*8≤140737488355328∧(v1++([v3]:List Int)).length≤maxLen then(Ath K v2 v3 v4 v5 v6 v7 v8 v9 v10 v11 v12 v13 v14 v15 (Arh K n1) (v1++([v3]:List Int)))else none)else(Ath K v2 v3 v4 v5 v6 v7 v8 v9 v10 v11 v12 v13 v14 v15 (Arh K n1) v1)))else some v1)
def A0y (K:Nat)(a0:C8):Option ((List Int)):=(Arh K K ([]:List Int) (a0.fL.length:Int) 0 a0.fC.Az a0.fC.Hi a0.fC.Fb a0.fC.G8 a0.fC.Fc a0.fC.Hj a0.fP.Pm a0.fP.Vt a0.fP.Pn a0.fL a0.fQ a0.Adf)
def Bjg:=fd Tryz.func12 ⟨[.v 32],[.n 26 true],true⟩ (gC (Br9 K) gN) [] [467]
def Bn8:El:=⟨[(1,.p 101),(3,.o 1003 3 true),(8,.v 2),(9,.v 2)],[(101,.box [.v 2,.v 2,.v 2,.v 2,.v 2,.v 2,.v 22,.v 26,.v 26,.v 29,.v 30,.v 26])]⟩
def Bgb:=fun(C58:CT Bn8 _)=>jn (Bjg K) 467 Bn8 [(58,ar Bn8 C58)] (fun a b c d e f g h i j k l m o p=>Ath K b c d e f g h i j k l m o p C58 a) kN
def Bjh:=lp (Bjg K) 58 Bn8 [] (Arh K) (fun n=>(kC (Bgb K _) kN))
def Bsa:=ct (Bjg K) (A0y K) (kC (Bjh K K) kN)
def Aso (K:Nat)(a0:List Int):Option ((List Int)):=(bif a0.isEmpty then Afh (some []) ((if(([]:List Int)++a0).length*1≤140737488355328∧(([]:List Int)++a0).length≤maxLen then some (([]:List Int)++a0)else none))else(if(([]:List Int)++a0).length*1≤140737488355328∧(([]:List Int)++a0).length≤maxLen then some (([]:List Int)++a0)else none))
def Bsb:=ct (fd Tryz.func219 ⟨[.v 22],[.n 22 true],true⟩ gN) (Aso K)
def Aeo (K:Nat)(a0:List Int):Option ((List Int)):=(bif a0.isEmpty then Afh (some []) ((if(([]:List Int)++a0).length*8≤140737488355328∧(([]:List Int)++a0).length≤maxLen then some (([]:List Int)++a0)else none))else(if(([]:List Int)++a0).length*8≤140737488355328∧(([]:List Int)++a0).length≤maxLen then some (([]:List Int)++a0)else none))
def A5g:=ct (fd Tryz.func131 ⟨[.v 26],[.n 26 true],true⟩ gN) (Aeo K)
def Auo (K:Nat)(a0:Dp):Option (Dp):=((Aso K a0.Pm).bind fun r1=>((Aeo K a0.Vt).bind fun r2=>((Aeo K a0.Pn).bind fun r3=>some (Dp.mk r1 r2 r3))))
def Bji:=ct (fd Tryz.func153 ⟨[.v 28],[.n 28 true],true⟩ (gC (A5g K) (gC (Bsb K) gN))) (Auo K)
def Ap6 (K:Nat)(a0:List Bd):Option ((List Bd)):=(bif a0.isEmpty then Afh (some []) ((if(([]:List Bd)++a0).length*24≤140737488355328∧(([]:List Bd)++a0).length≤maxLen then some (([]:List Bd)++a0)else none))else(if(([]:List Bd)++a0).length*24≤140737488355328∧(([]:List Bd)++a0).length≤maxLen then some (([]:List Bd)++a0)else none))
def Bsc:=ct (fd Tryz.func267 ⟨[.v 48],[.n 48 true],true⟩ gN) (Ap6 K)
def Axc (K:Nat)(a0:Au):Option (Au):=((Aeo K a0.Az).bind fun r1=>((Ap6 K a0.Ga).bind fun r2=>((Aeo K a0.Fo).bind fun r3=>some (Au.mk a0.Vt a0.Dc a0.S5 a0.fUp a0.S6 a0.Eg a0.S7 a0.S8 r1 a0.Ade a0.S9 r2 r3))))
def Bsd:=ct (fd Tryz.func232 ⟨[.v 50],[.n 50 false],true⟩ (gC (A5g K) (gC (Bsc K) gN))) (Axc K)
def Aoz (K:Nat)(a0:List Au):Nat->(List Au)->Int->Int->Option ((List Au))
 |0,_,_,_=>none
 |n1+1,v1,v2,v3=>(bif (decide (v3<v2))then(if(0:Int)≤v3∧v3<(a0.length:Int)then((Axc K (gt a0 v3)).bind fun r4=>(if(v1++[r4]).length*152≤140737488355328∧(v1++[r4]).length≤maxLen then(Aoz K a0 n1 (v1++[r4]) v2 (An7 .i64 v3 1))else none))else none)else some v1)
def Ati (K:Nat)(a0:List Au):Option ((List Au)):=(Aoz K a0 K ([]:List Au) (a0.length:Int) 0)
def Bp4:=fd Tryz.func154 ⟨[.v 29],[.n 29 true],false⟩ (gC (Bsd K) gN) (post:=[(16,[.put 3016])])
def Bzr:El:=⟨[(3,.o 1003 50 true),(7,.v 29),(8,.v 2),(9,.v 2)],[]⟩
def Bjj:=lp (Bp4 K) 58 Bzr [] (fun n a b=>Aoz K b n a) (fun n=>kN)
def Bjk:=ct (Bp4 K) (Ati K) (kC (Bjj K K) kN)
def Awa (K:Nat)(a0:A1):Option (A1):=((Aeo K a0.Fo).bind fun r1=>((Aeo K a0.Az).bind fun r2=>some (A1.mk a0.Bk a0.Eg r1 r2 a0.Xa)))
def Bse:=ct (fd Tryz.func155 ⟨[.v 52],[.n 52 true],true⟩ (gC (A5g K) gN)) (Awa K)
def Ao0 (K:Nat):Nat->(List A1)->Int->Int->C8->C8->Option (C8)
 |0,_,_,_,_,_=>none
 |n1+1,v4,v5,v6,v7,v8=>(bif (decide (v6<v5))then(if(0:Int)≤v6∧v6<(v4.length:Int)then((Awa K (gt v4 v6)).bind fun r9=>(if(v7.fQ.length+1)*72≤140737488355328∧v7.fQ.length+1≤maxLen then(Ao0 K n1 v4 v5 (An7 .i64 v6 1) (C8.mk v7.fC v7.fP v7.fL ((v7.fQ++[(default:A1)]).set (v7.fQ.length:Int).toNat r9) v7.Adf) v8)else none))else none)else some v7)
def Atj (K:Nat)(a0:C8):Option (C8):=((Auo K a0.fP).bind fun r1=>((Ati K a0.fL).bind fun r2=>((Aeo K a0.Adf).bind fun r3=>(Ao0 K K a0.fQ (a0.fQ.length:Int) 0 (C8.mk a0.fC r1 r2 [] r3) (C8.mk (Eb.mk 0 0 0 0 0 0) (Dp.mk [] [] []) [] [] [])))))
def Bp5:=fd Tryz.func74 ⟨[.v 32],[.n 32 true],false⟩ (gC (A5g K) (gC (Bji K) (gC (Bjk K) (gC (Bse K) gN)))) [] [] [(5,[.take 103 10 6658]),(7,[.take 103 6 6654,.take 103 7 6655,.take 103 8 6656,.take 103 9 6657,.take 103 10 6658,.take 103 11 6659])]
def Bzs:El:=⟨[(2,.p 102),(3,.p 103),(19,.v 30),(20,.v 2),(21,.v 2)],[(103,.st 32 true),(102,.st 32 true)]⟩
def Bjl:=lp (Bp5 K) 58 Bzs [] (Ao0 K) (fun n=>kN)
def Bjm:=ct (Bp5 K) (Atj K) (kC (Bjl K K) kN)
def Avr (K:Nat)(a0:Au)(a1:Int):Option (A1):=((Aeo K a0.Fo).bind fun r1=>((Aeo K a0.Az).bind fun r2=>some (A1.mk a1 a0.Eg r1 r2 0)))
def Bjn:=ct (fd Tryz.func76 ⟨[.v 50,.v 3],[.n 52 true],true⟩ (gC (A5g K) gN)) (Avr K)
def Avs (K:Nat)(v3:Dp)(v4:Dp):Option (Dp):=some v3
def A0p (K:Nat)(a0:Dp)(a1:Int):Option (Dp):=((Auo K a0).bind fun r1=>((Abc K a1 0 (An8 .i64 (Aaq (a0.Vt.length:Int) (a0.Pn.length:Int)) 1)).bind fun r2=>(bif r2 then(if(0:Int)≤a1∧a1<(a0.Vt.length:Int)then(bif ((gt a0.Vt a1)==1)then(if(0:Int)≤a1∧a1<(r1.Vt.length:Int)then(if(0:Int)≤a1∧a1<(r1.Pn.length:Int)then(Avs K (Dp.mk r1.Pm (r1.Vt.set a1.toNat 2) (r1.Pn.set a1.toNat (-1))) (Dp.mk [] [] []))else none)else none)else(Avs K r1 (Dp.mk [] [] [])))else none)else(Avs K r1 (Dp.mk [] [] [])))))
def Bp6:=fd Tryz.func156 ⟨[.v 28,.v 3],[.n 28 true],true⟩ (gC (A2g K) (gC (Bji K) gN)) [17,18] [7] [(4,[.take 105 0 6680,.take 105 1 6681,.take 105 2 6682])]
def Bn9:=jn (Bp6 K) 7 Bvi [] (Avs K) kN
def Bsf:=ct (Bp6 K) (A0p K) (kC (Bn9 K) kN)
def Al5 (K:Nat):Nat->(List Int)->Int->Int->Int->Int->Int->Int->Int->Int->(List Int)->(List Int)->(List Int)->(List Au)->(List A1)->(List Int)->Option (C8)
 |0,_,_,_,_,_,_,_,_,_,_,_,_,_,_,_=>none
 |n1+1,v1,v2,v3,v4,v5,v6,v7,v8,v9,v10,v11,v12,v13,v14,v15=>(bif (decide (v3<v2))then(if(0:Int)≤v3∧v3<(v1.length:Int)then((A0p K (Dp.mk v10 v11 v12) (gt v1 v3)).bind fun r16=>(Al5 K n1 v1 v2 (An7 .i64 v3 1) v4 v5 v6 v7 v8 v9 r16.Pm r16.Vt r16.Pn v13 v14 v15))else none)else some (C8.mk (Eb.mk v4 v5 v6 v7 v8 v9) (Dp.mk v10 v11 v12) v13 v14 v15))
def Ars (K:Nat)(a0:C8)(a1:Int):Option (C8):=(if(0:Int)≤a1∧a1<(a0.fL.length:Int)then(Al5 K K ((gt a0.fL a1).Az) (((gt a0.fL a1).Az).length:Int) 0 a0.fC.Az a0.fC.Hi a0.fC.Fb a0.fC.G8 a0.fC.Fc a0.fC.Hj a0.fP.Pm a0.fP.Vt a0.fP.Pn a0.fL a0.fQ a0.Adf)else none)
def Bp7:=fd Tryz.func77 ⟨[.b 32 true,.v 3],[],false⟩ (gC (Bsf K) gN) [] [] [(0,[.take 1 9 5025]),(3,[.take 1 6 5022,.take 1 7 5023,.take 1 8 5024])]
def Bzt:El:=⟨[(0,.p 1),(13,.v 26),(14,.v 2),(15,.v 2)],[(1,.box [.v 2,.v 2,.v 2,.v 2,.v 2,.v 2,.T 5 true,.T 3 true,.T 3 true,.T 50 true,.T 52 true,.T 3 true])]⟩
def Boa:=lp (Bp7 K) 6 Bzt [] (Al5 K) (fun n=>kN)
def Bjo:=ct (Bp7 K) (Ars K) (kC (Boa K K) kN)
def Axd (K:Nat)(a1:Int)(v9:List Au):Option ((List Au)):=(if(0:Int)≤a1∧a1<(v9.length:Int)then(Aqi (v9.set a1.toNat (Au.mk ((gt v9 a1).Vt) ((gt v9 a1).Dc) ((gt v9 a1).S5) 0 ((gt v9 a1).S6) ((gt v9 a1).Eg) ((gt v9 a1).S7) ((gt v9 a1).S8) ((gt v9 a1).Az) ((gt v9 a1).Ade) ((gt v9 a1).S9) ((gt v9 a1).Ga) ((gt v9 a1).Fo))) fun v10=>(if(0:Int)≤a1∧a1<(v10.length:Int)then(Aqi (v10.set a1.toNat (Au.mk ((gt v10 a1).Vt) ((gt v10 a1).Dc) ((gt v10 a1).S5) ((gt v10 a1).fUp) 0 ((gt v10 a1).Eg) ((gt v10 a1).S7) ((gt v10 a1).S8) ((gt v10 a1).Az) ((gt v10 a1).Ade) ((gt v10 a1).S9) ((gt v10 a1).Ga) ((gt v10 a1).Fo))) fun v11=>(if(0:Int)≤a1∧a1<(v11.length:Int)then(Aqi (v11.set a1.toNat (Au.mk ((gt v11 a1).Vt) ((gt v11 a1).Dc) ((gt v11 a1).S5) ((gt v11 a1).fUp) ((gt v11 a1).S6) ((gt v11 a1).Eg) 0 ((gt v11 a1).S8) ((gt v11 a1).Az) ((gt v11 a1).Ade) ((gt v11 a1).S9) ((gt v11 a1).Ga) ((gt v11 a1).Fo))) fun v12=>(if(0:Int)≤a1∧a1<(v12.length:Int)then(Aqi (v12.set a1.toNat (Au.mk ((gt v12 a1).Vt) ((gt v12 a1).Dc) ((gt v12 a1).S5) ((gt v12 a1).fUp) ((gt v12 a1).S6) ((gt v12 a1).Eg) ((gt v12 a1).S7) 0 ((gt v12 a1).Az) ((gt v12 a1).Ade) ((gt v12 a1).S9) ((gt v12 a1).Ga) ((gt v12 a1).Fo))) fun v13=>some v13)else none))else none))else none))else none)
def Ar2 (K:Nat)(a0:List Au)(a1:Int)(v5:List Au)(v6:Int):Option ((List Au)):=((Aiy K a0 v6).bind fun r7=>(bif r7 then(if(0:Int)≤a1∧a1<(v5.length:Int)then(if(0:Int)≤v6∧v6<(v5.length:Int)then(Aqi (v5.set v6.toNat (Au.mk ((gt v5 v6).Vt) ((gt v5 v6).Dc) ((gt v5 v6).S5) ((gt v5 v6).fUp) ((gt v5 v6).S6) ((gt v5 v6).Eg) ((gt v5 v6).S7) ((gt v5 a1).S8) ((gt v5 v6).Az) ((gt v5 v6).Ade) ((gt v5 v6).S9) ((gt v5 v6).Ga) ((gt v5 v6).Fo))) fun v8=>(Axd K a1 v8))else none)else none)else(Axd K a1 v5)))
def Aqz (K:Nat)(a0:List Au)(a1:Int)(r1:(List Au))(v15:Int)(v16:Int)(v17:Bool):Option ((List Au)):=(bif v17 then(if(0:Int)≤a1∧a1<(r1.length:Int)then(if(0:Int)≤v16∧v16<(r1.length:Int)then(Aqi (r1.set v16.toNat (Au.mk ((gt r1 v16).Vt) ((gt r1 v16).Dc) ((gt r1 v16).S5) ((gt r1 v16).fUp) ((gt r1 v16).S6) ((gt r1 a1).S7) ((gt r1 v16).S7) ((gt r1 v16).S8) ((gt r1 v16).Az) ((gt r1 v16).Ade) ((gt r1 v16).S9) ((gt r1 v16).Ga) ((gt r1 v16).Fo))) fun v18=>(Ar2 K a0 a1 v18 v15))else none)else none)else(Ar2 K a0 a1 r1 v15))
def Azo (K:Nat)(a0:List Au)(a1:Int):Option ((List Au)):=((Ati K a0).bind fun r1=>((Aiy K a0 a1).bind fun r2=>(bif (!r2)then some r1 else(if(0:Int)≤a1∧a1<(r1.length:Int)then(if(0:Int)≤a1∧a1<(r1.length:Int)then(if(0:Int)≤a1∧a1<(r1.length:Int)then((Aiy K a0 (An8 .i64 ((gt r1 a1).S8) 1)).bind fun r3=>(bif r3 then(if(0:Int)≤a1∧a1<(r1.length:Int)then(if(0:Int)≤(An8 .i64 ((gt r1 a1).S8) 1)∧(An8 .i64 ((gt r1 a1).S8) 1)<(r1.length:Int)then(Aqi (r1.set (An8 .i64 ((gt r1 a1).S8) 1).toNat (Au.mk ((gt r1 (An8 .i64 ((gt r1 a1).S8) 1)).Vt) ((gt r1 (An8 .i64 ((gt r1 a1).S8) 1)).Dc) ((gt r1 (An8 .i64 ((gt r1 a1).S8) 1)).S5) ((gt r1 (An8 .i64 ((gt r1 a1).S8) 1)).fUp) ((gt r1 (An8 .i64 ((gt r1 a1).S8) 1)).S6) ((gt r1 (An8 .i64 ((gt r1 a1).S8) 1)).Eg) ((gt r1 a1).S7) ((gt r1 (An8 .i64 ((gt r1 a1).S8) 1)).S8) ((gt r1 (An8 .i64 ((gt r1 a1).S8) 1)).Az) ((gt r1 (An8 .i64 ((gt r1 a1).S8) 1)).Ade) ((gt r1 (An8 .i64 ((gt r1 a1).S8) 1)).S9) ((gt r1 (An8 .i64 ((gt r1 a1).S8) 1)).Ga) ((gt r1 (An8 .i64 ((gt r1 a1).S8) 1)).Fo))) fun v4=>(Ar2 K a0 a1 v4 (An8 .i64 ((gt r1 a1).S7) 1)))else none)else none)else(if(0:Int)≤a1∧a1<(r1.length:Int)then(bif (((gt r1 a1).S8)==0)then((Aiy K a0 (An8 .i64 ((gt r1 a1).fUp) 1)).bind fun r14=>(bif r14 then(if(0:Int)≤(An8 .i64 ((gt r1 a1).fUp) 1)∧(An8 .i64 ((gt r1 a1).fUp) 1)<(r1.length:Int)then(Aqz K a0 a1 r1 (An8 .i64 ((gt r1 a1).S7) 1) (An8 .i64 ((gt r1 a1).fUp) 1) (((gt r1 (An8 .i64 ((gt r1 a1).fUp) 1)).Eg)==(An7 .i64 a1 1)))else none)else(Aqz K a0 a1 r1 (An8 .i64 ((gt r1 a1).S7) 1) (An8 .i64 ((gt r1 a1).fUp) 1) false)))else(Aqz K a0 a1 r1 (An8 .i64 ((gt r1 a1).S7) 1) (An8 .i64 ((gt r1 a1).fUp) 1) false))else none)))else none)else none)else none))))
def Bes:=fd Tryz.func78 ⟨[.v 29,.v 3],[.n 29 true],false⟩ (gC (A20 K) (gC (Bjk K) gN)) [53,54,57,58,59] [31,63,499]
def Bzu:El:=⟨[(0,.v 29),(1,.v 2),(5,.o 1005 50 true),(7,.v 2)],[]⟩
def Bzv:El:=⟨[(0,.v 29),(1,.v 2),(5,.o 1005 50 true),(7,.v 2),(8,.v 2),(47,.v 4)],[]⟩
def Bjp:=jn (Bes K) 63 Bwe [] (Axd K) kN
def Bba:=jn (Bes K) 31 Bzu [] (Ar2 K) (kC (Bjp K) kN)
def Bgc:=jn (Bes K) 499 Bzv [] (Aqz K) (kC (Bba K) kN)
def Bsg:=ct (Bes K) (Azo K) (kC (Bba K) (kC (Bgc K) kN))
def A21 (K:Nat)(a0:Au):Option (Au):=some (Au.mk 2 a0.Dc 0 0 0 0 0 0 [] 0 0 [] [])
def Bsh:=ct (fd Tryz.func79 ⟨[.v 50],[.n 50 false],true⟩ gN) (A21 K)
def Asc (K:Nat)(a0:C8)(a1:Int):Option (C8):=((Atj K a0).bind fun r1=>((Aiy K a0.fL a1).bind fun r2=>(bif r2 then(if(0:Int)≤a1∧a1<(a0.fL.length:Int)then(bif (((gt a0.fL a1).Vt) != 1)then some r1 else(if(0:Int)≤a1∧a1<(a0.fL.length:Int)then((Avr K (gt a0.fL a1) (An7 .i64 a1 1)).bind fun r3=>(if(r1.fQ.length+1)*72≤140737488355328∧r1.fQ.length+1≤maxLen then((Ars K (C8.mk r1.fC r1.fP r1.fL ((r1.fQ++[(default:A1)]).set (r1.fQ.length:Int).toNat r3) r1.Adf) a1).bind fun r4=>((Azo K r4.fL a1).bind fun r5=>(if(0:Int)≤a1∧a1<(r5.length:Int)then(if(0:Int)≤a1∧a1<(r5.length:Int)then((A21 K (gt r5 a1)).bind fun r6=>(if(0:Int)≤a1∧a1<(r5.length:Int)then some (C8.mk r4.fC r4.fP (r5.set a1.toNat r6) r4.fQ r4.Adf)else none))else none)else none)))else none))else none))else none)else some r1)))
def Bsi:=ct (fd Tryz.func14 ⟨[.v 32,.v 3],[.n 32 true],false⟩ (gC (Bjm K) (gC (A20 K) (gC (Bjn K) (gC (Bjo K) (gC (Bsg K) (gC (Bsh K) gN)))))) [11,12,13] [] [(5,[.put 105]),(6,[.take 105 9 6689,.frz 6689]),(7,[.opn 3041 (.tmp 1),.takeE 3041 11 42635,.takeE 3041 12 42636]),(8,[.take 105 6 6686,.take 105 7 6687,.take 105 8 6688,.take 105 10 6690,.take 105 11 6691])]) (Asc K)
def Art (K:Nat)(a0:C8)(a1:Int):Option (Bool):=((Gy K a1 0 (An8 .i64 (a0.fL.length:Int) 1)).bind fun r1=>(bif r1 then(if(0:Int)≤a1∧a1<(a0.fL.length:Int)then some (((gt a0.fL a1).Vt)==1)else none)else some false))
def Bjq:=ct (fd Tryz.func81 ⟨[.v 32,.v 3],[.v 4],true⟩ (gC (A1i K) gN) [10,11]) (Art K)
def Avt (K:Nat)(v4:Int)(v5:Int)(v6:Int)(v7:Int)(v8:Int)(v9:Int)(v10:List Int)(v11:List Int)(v12:List Int)(v13:List Au)(v14:List A1)(v15:List Int)(v16:Int)(v17:Int)(v18:Int)(v19:Int)(v20:Int)(v21:Int)(v22:List Int)(v23:List Int)(v24:List Int)(v25:List Au)(v26:List A1)(v27:List Int):Option (C8):=some (C8.mk (Eb.mk v4 v5 v6 v7 v8 v9) (Dp.mk v10 v11 v12) v13 v14 v15)
def Awb (K:Nat)(a0:C8)(a1:Int):Option (C8):=((An1 K a0).bind fun r1=>((Art K a0 a1).bind fun r2=>(bif r2 then((Aug K r1 a1).bind fun r3=>(Avt K r3.fC.Az r3.fC.Hi r3.fC.Fb r3.fC.G8 r3.fC.Fc r3.fC.Hj r3.fP.Pm r3.fP.Vt r3.fP.Pn r3.fL r3.fQ r3.Adf 0 0 0 0 0 0 [] [] [] [] [] []))else(Avt K r1.fC.Az r1.fC.Hi r1.fC.Fb r1.fC.G8 r1.fC.Fc r1.fC.Hj r1.fP.Pm r1.fP.Vt r1.fP.Pn r1.fL r1.fQ r1.Adf 0 0 0 0 0 0 [] [] [] [] [] []))))
def Bp8:=fd Tryz.func15 ⟨[.v 32,.v 3],[.v 32],false⟩ (gC (A60 K) (gC (Bjq K) (gC (Bps K) gN))) [] [7] [(3,[.put 105,.take 105 10 6690,.shal 6690])] [(11,[.put 105])]
def Bwx:El:=⟨[(4,.p 104),(5,.p 105)],[(105,.box [.v 2,.v 2,.v 2,.v 2,.v 2,.v 2,.v 22,.v 26,.v 26,.v 29,.v 30,.v 26]),(104,.box [.v 2,.v 2,.v 2,.v 2,.v 2,.v 2,.v 22,.v 26,.v 26,.v 29,.v 30,.v 26])]⟩
def Bob:=jn (Bp8 K) 7 Bwx [] (Avt K) kN
def Bsj:=ct (Bp8 K) (Awb K) (kC (Bob K) kN)
def Azp (K:Nat)(a0:List Int)(a1:List Int):Nat->Int->Option (Bool)
 |0,_=>none
 |n1+1,v1=>(bif (decide (v1<(a0.length:Int)))then(if(0:Int)≤v1∧v1<(a0.length:Int)then(if(0:Int)≤v1∧v1<(a1.length:Int)then(bif ((gt a0 v1) != (gt a1 v1))then some false else(Azp K a0 a1 n1 (An7 .i64 v1 1)))else none)else none)else some true)
def A1n (K:Nat)(a0:List Int)(a1:List Int):Option (Bool):=(bif ((a0.length:Int) != (a1.length:Int))then some false else(Azp K a0 a1 K 0))
def Bp9:=fd Tryz.func61 ⟨[.v 22,.v 22],[.v 4],true⟩ gN
def Bzw:El:=⟨[(0,.v 22),(1,.v 22),(5,.v 2)],[]⟩
def Bjr:=lp Bp9 58 Bzw [] (fun n a b=>Azp K a b n) (fun n=>kN)
def Bsk:=ct Bp9 (A1n K) (kC (Bjr K K) kN)
def Au6 (K:Nat)(a0:List Int)(a1:List Int):Nat->Int->Option (Bool)
 |0,_=>none
 |n1+1,v1=>(bif (decide (v1<(a0.length:Int)))then(if(0:Int)≤v1∧v1<(a0.length:Int)then(if(0:Int)≤v1∧v1<(a1.length:Int)then(bif ((gt a0 v1) != (gt a1 v1))then some false else(Au6 K a0 a1 n1 (An7 .i64 v1 1)))else none)else none)else some true)
def Ane (K:Nat)(a0:List Int)(a1:List Int):Option (Bool):=(bif ((a0.length:Int) != (a1.length:Int))then some false else(Au6 K a0 a1 K 0))
def Bqa:=fd Tryz.func30 ⟨[.v 26,.v 26],[.v 4],true⟩ gN
def Bzx:El:=⟨[(0,.v 26),(1,.v 26),(5,.v 2)],[]⟩
def Bjs:=lp Bqa 58 Bzx [] (fun n a b=>Au6 K a b n) (fun n=>kN)
def A9l:=ct Bqa (Ane K) (kC (Bjs K K) kN)
def Axe (K:Nat)(a0:Dp)(a1:Dp):Option (Bool):=((A1n K a0.Pm a1.Pm).bind fun r1=>(bif r1 then((Ane K a0.Vt a1.Vt).bind fun r2=>(bif r2 then((Ane K a0.Pn a1.Pn).bind fun r3=>some r3)else some false))else some false))
def Bsl:=ct (fd Tryz.func72 ⟨[.v 28,.v 28],[.v 4],true⟩ (gC (A9l K) (gC (Bsk K) gN)) [9,10,15,16,17]) (Axe K)
def Aqs (K:Nat):Nat->Int->Int->Int->Int->Int->Int->Int->Int->Int->(List Int)->Int->Int->(List Bd)->(List Int)->Int->Int->Int->Int->Int->Int->Int->Int->(List Int)->Int->Int->(List Bd)->(List Int)->Option (Bool)
 |0,_,_,_,_,_,_,_,_,_,_,_,_,_,_,_,_,_,_,_,_,_,_,_,_,_,_,_=>none
 |n1+1,v3,v4,v5,v6,v7,v8,v9,v10,v11,v12,v13,v14,v15,v16,v17,v18,v19,v20,v21,v22,v23,v24,v25,v26,v27,v28,v29=>(bif (decide (v3<(v28.length:Int)))then(if(0:Int)≤v3∧v3<(v28.length:Int)then(if(0:Int)≤v3∧v3<(v15.length:Int)then(bif (!((((gt v28 v3).fAt)==((gt v15 v3).fAt))&&((((gt v28 v3).Aj0)==((gt v15 v3).Aj0))&&((((gt v28 v3).Aj1)==((gt v15 v3).Aj1))&&true))))then some false else(Aqs K n1 (An7 .i64 v3 1) v4 v5 v6 v7 v8 v9 v10 v11 v12 v13 v14 v15 v16 v17 v18 v19 v20 v21 v22 v23 v24 v25 v26 v27 v28 v29))else none)else none)else some true)
def Axf (K:Nat)(a0:Au)(a1:Au):Option (Bool):=(bif (a0.Vt != a1.Vt)then some false else(bif (a0.Dc != a1.Dc)then some false else(bif (a0.S5 != a1.S5)then some false else(bif (a0.fUp != a1.fUp)then some false else(bif (a0.S6 != a1.S6)then some false else(bif (a0.Eg != a1.Eg)then some false else(bif (a0.S7 != a1.S7)then some false else(bif (a0.S8 != a1.S8)then some false else((Ane K a0.Az a1.Az).bind fun r1=>(bif r1 then(bif (a0.Ade != a1.Ade)then some false else(bif (a0.S9 != a1.S9)then some false else(bif ((a0.Ga.length:Int) != (a1.Ga.length:Int))then some false else((Ane K a0.Fo a1.Fo).bind fun r2=>(bif (!r2)then some false else(Aqs K K 0 a1.Vt a1.Dc a1.S5 a1.fUp a1.S6 a1.Eg a1.S7 a1.S8 a1.Az a1.Ade a1.S9 a1.Ga a1.Fo a0.Vt a0.Dc a0.S5 a0.fUp a0.S6 a0.Eg a0.S7 a0.S8 a0.Az a0.Ade a0.S9 a0.Ga a0.Fo))))))else some false))))))))))
def Bqb:=fd Tryz.func147 ⟨[.v 50,.v 50],[.v 4],true⟩ (gC (A9l K) gN) [10,11,16,17,18,23,24,25,30,31,32,37,38,39,44,45,46,51,52,53,58,59,60,65,66,67,68,73,74,75,80,81,82,89,90,91]
def Bwy:El:=⟨[(2,.p 102),(3,.p 103),(5,.v 2)],[(103,.box [.v 2,.v 2,.v 2,.v 2,.v 2,.v 2,.v 2,.v 2,.v 26,.v 2,.v 2,.v 48,.v 26]),(102,.box [.v 2,.v 2,.v 2,.v 2,.v 2,.v 2,.v 2,.v 2,.v 26,.v 2,.v 2,.v 48,.v 26])]⟩
def Bjt:=lp (Bqb K) 58 Bwy [] (Aqs K) (fun n=>kN)
def Bsm:=ct (Bqb K) (Axf K) (kC (Bjt K K) kN)
def Aqc (K:Nat)(a0:List Au)(a1:List Au):Nat->Int->Option (Bool)
 |0,_=>none
 |n1+1,v1=>(bif (decide (v1<(a0.length:Int)))then(if(0:Int)≤v1∧v1<(a0.length:Int)then(if(0:Int)≤v1∧v1<(a1.length:Int)then((Axf K (gt a0 v1) (gt a1 v1)).bind fun r2=>(bif (!r2)then some false else(Aqc K a0 a1 n1 (An7 .i64 v1 1))))else none)else none)else some true)
def Awc (K:Nat)(a0:List Au)(a1:List Au):Option (Bool):=(bif ((a0.length:Int) != (a1.length:Int))then some false else(Aqc K a0 a1 K 0))
def Bqc:=fd Tryz.func64 ⟨[.v 29,.v 29],[.v 4],true⟩ (gC (Bsm K) gN)
def Bwz:El:=⟨[(0,.v 29),(1,.v 29),(5,.v 2)],[]⟩
def Bju:=lp (Bqc K) 58 Bwz [] (fun n a b=>Aqc K a b n) (fun n=>kN)
def Bsn:=ct (Bqc K) (Awc K) (kC (Bju K K) kN)
def Awd (K:Nat)(a0:A1)(a1:A1):Option (Bool):=(bif (a0.Bk==a1.Bk)then(bif (a0.Eg==a1.Eg)then((Ane K a0.Fo a1.Fo).bind fun r1=>(bif r1 then((Ane K a0.Az a1.Az).bind fun r2=>(bif r2 then some (a0.Xa==a1.Xa)else some false))else some false))else some false)else some false)
def Bso:=ct (fd Tryz.func73 ⟨[.v 52,.v 52],[.v 4],true⟩ (gC (A9l K) gN) [9,10,15,16,17,22,23,24,29,30,31]) (Awd K)
def Aqd (K:Nat):Nat->Int->Int->Int->Int->Int->Int->Int->(List Int)->(List Int)->(List Int)->(List Au)->(List A1)->(List Int)->Int->Int->Int->Int->Int->Int->(List Int)->(List Int)->(List Int)->(List Au)->(List A1)->(List Int)->Option (Bool)
 |0,_,_,_,_,_,_,_,_,_,_,_,_,_,_,_,_,_,_,_,_,_,_,_,_,_=>none
 |n1+1,v4,v5,v6,v7,v8,v9,v10,v11,v12,v13,v14,v15,v16,v17,v18,v19,v20,v21,v22,v23,v24,v25,v26,v27,v28=>(bif (decide (v4<(v27.length:Int)))then(if(0:Int)≤v4∧v4<(v27.length:Int)then(if(0:Int)≤v4∧v4<(v15.length:Int)then((Awd K (gt v27 v4) (gt v15 v4)).bind fun r29=>(bif (!r29)then some false else(Aqd K n1 (An7 .i64 v4 1) v5 v6 v7 v8 v9 v10 v11 v12 v13 v14 v15 v16 v17 v18 v19 v20 v21 v22 v23 v24 v25 v26 v27 v28)))else none)else none)else some true)
def Atk (K:Nat)(a0:C8)(a1:C8):Option (Bool):=(bif (!((a0.fC.Az==a1.fC.Az)&&((a0.fC.Hi==a1.fC.Hi)&&((a0.fC.Fb==a1.fC.Fb)&&((a0.fC.G8==a1.fC.G8)&&((a0.fC.Fc==a1.fC.Fc)&&((a0.fC.Hj==a1.fC.Hj)&&true)))))))then some false else((Axe K a0.fP a1.fP).bind fun r1=>(bif r1 then((Awc K a0.fL a1.fL).bind fun r2=>(bif r2 then(bif ((a0.fQ.length:Int) != (a1.fQ.length:Int))then some false else((Ane K a0.Adf a1.Adf).bind fun r3=>(bif (!r3)then some false else(Aqd K K 0 a1.fC.Az a1.fC.Hi a1.fC.Fb a1.fC.G8 a1.fC.Fc a1.fC.Hj a1.fP.Pm a1.fP.Vt a1.fP.Pn a1.fL a1.fQ a1.Adf a0.fC.Az a0.fC.Hi a0.fC.Fb a0.fC.G8 a0.fC.Fc a0.fC.Hj a0.fP.Pm a0.fP.Vt a0.fP.Pn a0.fL a0.fQ a0.Adf))))else some false))else some false)))
def Bqd:=fd Tryz.func13 ⟨[.v 32,.v 32],[.v 4],true⟩ (gC (A9l K) (gC (Bsn K) (gC (Bsl K) (gC (Bso K) gN)))) [10,11,16,17,18,19,24,25,26,27,34,35,36]
def Bw0:El:=⟨[(2,.p 102),(3,.p 103),(5,.v 2)],[(103,.box [.v 2,.v 2,.v 2,.v 2,.v 2,.v 2,.v 22,.v 26,.v 26,.v 29,.v 30,.v 26]),(102,.box [.v 2,.v 2,.v 2,.v 2,.v 2,.v 2,.v 22,.v 26,.v 26,.v 29,.v 30,.v 26])]⟩
def Bjv:=lp (Bqd K) 58 Bw0 [] (Aqd K) (fun n=>kN)
def Bsp:=ct (Bqd K) (Atk K) (kC (Bjv K K) kN)
def A0z (K:Nat)(a0:Au):Option (Au):=some (Au.mk a0.Vt a0.Dc (An7 .i64 a0.S5 1) a0.fUp a0.S6 0 a0.S7 a0.S8 [] 0 0 [] [])
def Bsq:=ct (fd Tryz.func83 ⟨[.v 50],[.n 50 false],true⟩ gN) (A0z K)
def Aqk (K:Nat)(a0:C8)(a1:Int):Option (C8):=((Atj K a0).bind fun r1=>((Aiy K a0.fL a1).bind fun r2=>(bif r2 then(if(0:Int)≤a1∧a1<(a0.fL.length:Int)then(bif (((gt a0.fL a1).Vt) != 1)then some r1 else(if(0:Int)≤a1∧a1<(a0.fL.length:Int)then((Avr K (gt a0.fL a1) 0).bind fun r3=>(if(r1.fQ.length+1)*72≤140737488355328∧r1.fQ.length+1≤maxLen then((Ars K (C8.mk r1.fC r1.fP r1.fL ((r1.fQ++[(default:A1)]).set (r1.fQ.length:Int).toNat r3) r1.Adf) a1).bind fun r4=>(if(0:Int)≤a1∧a1<(r4.fL.length:Int)then(if(0:Int)≤a1∧a1<(r4.fL.length:Int)then((A0z K (gt r4.fL a1)).bind fun r5=>(if(0:Int)≤a1∧a1<(r4.fL.length:Int)then some (C8.mk r4.fC r4.fP (r4.fL.set a1.toNat r5) r4.fQ r4.Adf)else none))else none)else none))else none))else none))else none)else some r1)))
def Bsr:=ct (fd Tryz.func16 ⟨[.v 32,.v 3],[.n 32 true],false⟩ (gC (Bjm K) (gC (A20 K) (gC (Bjn K) (gC (Bjo K) (gC (Bsq K) gN))))) [11,12,13] [] [(5,[.put 105]),(6,[.take 105 9 6689,.opn 6689 (.tmp 1),.takeE 6689 11 84107,.takeE 6689 12 84108]),(7,[.take 105 6 6686,.take 105 7 6687,.take 105 8 6688,.take 105 10 6690,.take 105 11 6691])]) (Aqk K)
def Atl (K:Nat)(v4:Int)(v5:Int)(v6:Int)(v7:Int)(v8:Int)(v9:Int)(v10:List Int)(v11:List Int)(v12:List Int)(v13:List Au)(v14:List A1)(v15:List Int)(v16:Int)(v17:Int)(v18:Int)(v19:Int)(v20:Int)(v21:Int)(v22:List Int)(v23:List Int)(v24:List Int)(v25:List Au)(v26:List A1)(v27:List Int):Option (C8):=some (C8.mk (Eb.mk v4 v5 v6 v7 v8 v9) (Dp.mk v10 v11 v12) v13 v14 v15)
def Atm (K:Nat)(a0:C8)(a1:Int):Option (C8):=((An1 K a0).bind fun r1=>((Art K a0 a1).bind fun r2=>(bif r2 then((Asa K r1 a1).bind fun r3=>(Atl K r3.fC.Az r3.fC.Hi r3.fC.Fb r3.fC.G8 r3.fC.Fc r3.fC.Hj r3.fP.Pm r3.fP.Vt r3.fP.Pn r3.fL r3.fQ r3.Adf 0 0 0 0 0 0 [] [] [] [] [] []))else(Atl K r1.fC.Az r1.fC.Hi r1.fC.Fb r1.fC.G8 r1.fC.Fc r1.fC.Hj r1.fP.Pm r1.fP.Vt r1.fP.Pn r1.fL r1.fQ r1.Adf 0 0 0 0 0 0 [] [] [] [] [] []))))
def Bqe:=fd Tryz.func17 ⟨[.v 32,.v 3],[.v 32],false⟩ (gC (A60 K) (gC (Bjq K) (gC (Bpr K) gN))) [] [7] [(3,[.put 105,.take 105 10 6690,.shal 6690])] [(11,[.put 105])]
def Boc:=jn (Bqe K) 7 Bwx [] (Atl K) kN
def Bss:=ct (Bqe K) (Atm K) (kC (Boc K) kN)
def A3v (K:Nat)(a0:List Int)(a1:Int):Option (Int):=(bif (decide (a1<(a0.length:Int)))then(if(0:Int)≤a1∧a1<(a0.length:Int)then some (IntKind.i64.wrap (gt a0 a1))else none)else(if 256≠(0:Int)then some (Int.tmod (An7 .i64 (An9 .i64 a1 31) (An9 .i64 (a0.length:Int) 7)) 256)else none))
def Bst:=ct (fd Tryz.func18 ⟨[.v 22,.v 3],[.v 3],true⟩ gN) (A3v K)
def Auu (K:Nat)(a0:Eb):Option (Bool):=((Abc K a0.Az 2 12).bind fun r1=>(bif r1 then((Abc K a0.Hi 8 16).bind fun r2=>(bif r2 then((Abc K a0.Fb 2 8).bind fun r3=>(bif r3 then((Abc K a0.G8 1 8).bind fun r4=>(bif r4 then((Abc K a0.Fc 1 16).bind fun r5=>(bif r5 then((Abc K a0.Hj 1 4).bind fun r6=>some r6)else some false))else some false))else some false))else some false))else some false))
def A9m:=ct (fd Tryz.func34 ⟨[.v 25],[.v 4],true⟩ (gC (A2g K) gN) [5,6,9,10,11,14,15,16,19,20,21,24,25,26]) (Auu K)
def Ayo (K:Nat)(a0:Eb):Option (Int):=((Auu K a0).bind fun r1=>(bif (!r1)then some 0 else some (An9 .i64 a0.Az a0.Hi)))
def Bjw:=ct (fd Tryz.func165 ⟨[.v 25],[.v 3],true⟩ (gC (A9m K) gN)) (Ayo K)
def Asd (K:Nat)(a0:Dp)(a1:Eb)(a2:Int):Option ((List Int)):=(if(0:Int)≤(An9 .i64 a2 a1.Hi)∧(An9 .i64 a2 a1.Hi)≤(An9 .i64 (An7 .i64 a2 1) a1.Hi)∧(An9 .i64 (An7 .i64 a2 1) a1.Hi)≤(a0.Pm.length:Int)then some ((a0.Pm.drop (An9 .i64 a2 a1.Hi).toNat).take ((An9 .i64 (An7 .i64 a2 1) a1.Hi) - (An9 .i64 a2 a1.Hi)).toNat)else none)
def Bjx:=ct (fd Tryz.func167 ⟨[.v 28,.v 25,.v 3],[.v 22],false⟩ gN) (Asd K)
def Az6 (K:Nat)(a0:Int):Option (Bool):=some (a0 != 0)
def Bsu:=ct (fd Tryz.func236 ⟨[.v 5],[.v 4],true⟩ gN) (Az6 K)
def Ahe (K:Nat)(a0:List Int):Nat->Int->Int->Option (Int)
 |0,_,_=>none
 |n1+1,v1,v2=>(bif (decide (v2<v1))then(if(0:Int)≤v2∧v2<(a0.length:Int)then((Az6 K (gt a0 v2)).bind fun r3=>(bif r3 then some v2 else(Ahe K a0 n1 v1 (An7 .i64 v2 1))))else none)else some (-1))
def Ani (K:Nat)(a0:List Int):Option (Int):=(Ahe K a0 K (a0.length:Int) 0)
def Bqf:=fd Tryz.func268 ⟨[.v 22,.f 236 [] []],[.v 3],true⟩ (gC (Bsu K) gN)
def Bw1:El:=⟨[(0,.v 22),(1,.f 236 [] []),(7,.v 2),(8,.v 2)],[]⟩
def Bjy:=lp (Bqf K) 26 Bw1 [] (fun n a=>Ahe K a n) (fun n=>kN)
def Bsv:=ct (Bqf K) (Ani K) (kC (Bjy K K) kN)
def Ale (K:Nat)(a0:List Int):Option (Bool):=((Ani K a0).bind fun r1=>some (decide (r1≥0)))
def Bsw:=ct (fd Tryz.func235 ⟨[.v 22,.f 236 [] []],[.v 4],true⟩ (gC (Bsv K) gN)) (Ale K)
def Auv (K:Nat)(a0:List Int):Option (Bool):=((Ale K a0).bind fun r1=>some (!r1))
def Bc7:=ct (fd Tryz.func166 ⟨[.v 22],[.v 4],true⟩ (gC (Bsw K) gN)) (Auv K)
def Axg (K:Nat)(v3:List Int)(v4:Int)(v6:List Int)(v7:List Int)(v8:List Int)(v12:Int)(C1:(List Int)->Int->Int->(List Int)->(List Int)->(List Int)->Option (Bool))(v16:Bool):Option (Bool):=(bif v16 then some false else(C1 v3 v4 (An7 .i64 v12 1) v6 v7 v8))
def Aq0 (K:Nat)(a0:Eb)(v3:List Int)(v4:Int)(v5:Int)(v6:List Int)(v7:List Int)(v8:List Int)(C1:(List Int)->Int->Int->(List Int)->(List Int)->(List Int)->Option (Bool))(v11:Int)(v12:Int)(v13:Bool):Option (Bool):=(bif v13 then some false else(bif (v11==0)then((Asd K (Dp.mk v6 v7 v8) a0 v5).bind fun r14=>((Auv K r14).bind fun r15=>(Axg K v3 v4 v6 v7 v8 v12 (C1) (!r15))))else(Axg K v3 v4 v6 v7 v8 v12 (C1) false)))
def Ak7 (K:Nat)(a0:Eb):Nat->(List Int)->Int->Int->(List Int)->(List Int)->(List Int)->Option (Bool)
 |0,_,_,_,_,_,_=>none
 |n1+1,v3,v4,v5,v6,v7,v8=>(bif (decide (v5<v4))then(if(0:Int)≤v5∧v5<(v3.length:Int)then((Abc K (gt v3 v5) 0 2).bind fun r9=>(bif (!r9)then some false else(bif ((gt v3 v5)==1)then(if(0:Int)≤v5∧v5<(v8.length:Int)then((Abc K (gt v8 v5) 0 (An8 .i64 a0.Fb 1)).bind fun r10=>(bif r10 then(bif ((gt v3 v5) != 1)then(if(0:Int)≤v5∧v5<(v8.length:Int)then(Aq0 K a0 v3 v4 v5 v6 v7 v8 (Ak7 K a0 n1) (gt v3 v5) v5 ((gt v8 v5) != (-1)))else none)else(Aq0 K a0 v3 v4 v5 v6 v7 v8 (Ak7 K a0 n1) (gt v3 v5) v5 false))else(Aq0 K a0 v3 v4 v5 v6 v7 v8 (Ak7 K a0 n1) (gt v3 v5) v5 true)))else none)else(bif ((gt v3 v5) != 1)then(if(0:Int)≤v5∧v5<(v8.length:Int)then(Aq0 K a0 v3 v4 v5 v6 v7 v8 (Ak7 K a0 n1) (gt v3 v5) v5 ((gt v8 v5) != (-1)))else none)else(Aq0 K a0 v3 v4 v5 v6 v7 v8 (Ak7 K a0 n1) (gt v3 v5) v5 false)))))else none)else some true)
def Azq (K:Nat)(a0:Eb)(a1:Dp):Option (Bool):=((Auu K a0).bind fun r1=>(bif r1 then((Ayo K a0).bind fun r2=>(bif ((a1.Pm.length:Int) != r2)then some false else(bif ((a1.Vt.length:Int) != a0.Az)then some false else(bif ((a1.Pn.length:Int) != a0.Az)then some false else(Ak7 K a0 K a1.Vt (a1.Vt.length:Int) 0 a1.Pm a1.Vt a1.Pn)))))else some false))
def Bet:=fd Tryz.func85 ⟨[.v 25,.v 28],[.v 4],true⟩ (gC (A9m K) (gC (A2g K) (gC (Bjw K) (gC (Bc7 K) (gC (Bjx K) gN))))) [8,9,10,16,17,18,24,25,26,48,49,58,59,60,61,63,64,75,76] [29899,119599]
def Bw2:El:=⟨[(2,.p 102),(3,.p 103),(35,.v 26),(36,.v 2),(37,.v 2),(73,.v 4)],[(103,.box [.v 22,.v 26,.v 26]),(102,.st 25 true)]⟩
def Bw3:El:=⟨[(2,.p 102),(3,.p 103),(5,.v 2),(6,.v 2),(35,.v 26),(36,.v 2),(37,.v 2),(46,.v 4)],[(103,.box [.v 22,.v 26,.v 26]),(102,.st 25 true)]⟩
def Bbb:El:=⟨[(2,.p 102),(3,.p 103),(35,.v 26),(36,.v 2),(37,.v 2)],[(103,.box [.v 22,.v 26,.v 26]),(102,.st 25 true)]⟩
def A9n:=fun(C58:CT Bbb _)=>jn (Bet K) 119599 Bw2 [(58,ar Bbb C58)] (fun a b c d e f g h=>Axg K a b e f g c (fun v3 v4 v5 v6 v7 v8=>C58 v3 v4 v5 v6 v7 v8 h) d) kN
def Bbc:=fun(C58:CT Bbb _)=>jn (Bet K) 29899 Bw3 [(58,ar Bbb C58)] (fun a b c d e f g h i j=>Aq0 K j c d a g h i (fun v3 v4 v5 v6 v7 v8=>C58 v3 v4 v5 v6 v7 v8 j) b e f) (kC (A9n K _) kN)
def Bjz:=lp (Bet K) 58 Bbb [] (fun n a b c d e f g=>Ak7 K g n a b c d e f) (fun n=>(kC (Bbc K _) kN))
def Bsx:=ct (Bet K) (Azq K) (kC (Bjz K K) kN)
def Ajb (K:Nat)(a0:List Int)(a1:List Int):Nat->Int->Int->Option (Bool)
 |0,_,_=>none
 |n1+1,v1,v2=>(bif (decide (v2<v1))then(if(0:Int)≤v2∧v2<(a0.length:Int)then(if(0:Int)≤v2∧v2<(a1.length:Int)then(bif ((gt a0 v2) != (gt a1 v2))then some false else(Ajb K a0 a1 n1 v1 (An7 .i64 v2 1)))else none)else none)else some true)
def Ajp (K:Nat)(a0:List Int)(a1:List Int):Option (Bool):=(bif ((a0.length:Int) != (a1.length:Int))then some false else(Ajb K a0 a1 K (a0.length:Int) 0))
def Bqg:=fd Tryz.func112 ⟨[.v 26,.v 26],[.v 4],true⟩ gN
def Bw4:El:=⟨[(0,.v 26),(1,.v 26),(12,.v 2),(13,.v 2)],[]⟩
def Bj0:=lp Bqg 58 Bw4 [] (fun n a b=>Ajb K a b n) (fun n=>kN)
def Bj1:=ct Bqg (Ajp K) (kC (Bj0 K K) kN)
def Apf (K:Nat)(a0:List Bd)(a1:List Bd):Nat->Int->Int->Option (Bool)
 |0,_,_=>none
 |n1+1,v1,v2=>(bif (decide (v2<v1))then(if(0:Int)≤v2∧v2<(a0.length:Int)then(if(0:Int)≤v2∧v2<(a1.length:Int)then(bif (!((((gt a0 v2).fAt)==((gt a1 v2).fAt))&&((((gt a0 v2).Aj0)==((gt a1 v2).Aj0))&&((((gt a0 v2).Aj1)==((gt a1 v2).Aj1))&&true))))then some false else(Apf K a0 a1 n1 v1 (An7 .i64 v2 1)))else none)else none)else some true)
def Anl (K:Nat)(a0:List Bd)(a1:List Bd):Option (Bool):=(bif ((a0.length:Int) != (a1.length:Int))then some false else(Apf K a0 a1 K (a0.length:Int) 0))
def Bqh:=fd Tryz.func259 ⟨[.v 48,.v 48],[.v 4],true⟩ gN
def Bw5:El:=⟨[(0,.v 48),(1,.v 48),(12,.v 2),(13,.v 2)],[]⟩
def Bj2:=lp Bqh 58 Bw5 [] (fun n a b=>Apf K a b n) (fun n=>kN)
def Bsy:=ct Bqh (Anl K) (kC (Bj2 K K) kN)
def Az7 (K:Nat)(a0:Au)(a1:Au):Option (Bool):=(bif (a0.Vt==a1.Vt)then(bif (a0.Dc==a1.Dc)then(bif (a0.S5==a1.S5)then(bif (a0.fUp==a1.fUp)then(bif (a0.S6==a1.S6)then(bif (a0.Eg==a1.Eg)then(bif (a0.S7==a1.S7)then(bif (a0.S8==a1.S8)then((Ajp K a0.Az a1.Az).bind fun r1=>(bif r1 then(bif (a0.Ade==a1.Ade)then(bif (a0.S9==a1.S9)then((Anl K a0.Ga a1.Ga).bind fun r2=>(bif r2 then((Ajp K a0.Fo a1.Fo).bind fun r3=>some r3)else some false))else some false)else some false)else some false))else some false)else some false)else some false)else some false)else some false)else some false)else some false)else some false)
def Bsz:=ct (fd Tryz.func205 ⟨[.v 50,.v 50],[.v 4],true⟩ (gC (Bj1 K) (gC (Bsy K) gN)) [9,10,15,16,17,22,23,24,29,30,31,36,37,38,43,44,45,50,51,52,57,58,59,64,65,66,71,72,73,78,79,80,85,86,87]) (Az7 K)
def A1o (K:Nat)(a0:Au):Option (Bool):=((Az7 K a0 (Au.mk a0.Vt a0.Dc 0 0 0 0 0 0 ([]:List Int) 0 0 ([]:List Bd) ([]:List Int))).bind fun r1=>some r1)
def Bs0:=ct (fd Tryz.func239 ⟨[.v 50],[.v 4],true⟩ (gC (Bsz K) gN)) (A1o K)
def Apc (K:Nat)(a0:List Int)(a1:Int):Nat->Int->Int->Option (Int)
 |0,_,_=>none
 |n1+1,v1,v2=>(bif (decide (v2<v1))then(if(0:Int)≤v2∧v2<(a0.length:Int)then(bif (a1==(gt a0 v2))then some v2 else(Apc K a0 a1 n1 v1 (An7 .i64 v2 1)))else none)else some (-1))
def Axr (K:Nat)(a0:List Int)(a1:Int):Option (Int):=(Apc K a0 a1 K (a0.length:Int) 0)
def Bqi:=fd Tryz.func210 ⟨[.v 26,.v 3],[.v 3],true⟩ gN
def Bw6:El:=⟨[(0,.v 26),(1,.v 2),(7,.v 2),(8,.v 2)],[]⟩
def Bj3:=lp Bqi 26 Bw6 [] (fun n a b=>Apc K a b n) (fun n=>kN)
def Bs1:=ct Bqi (Axr K) (kC (Bj3 K K) kN)
def Anw (K:Nat)(a0:List Int)(a1:Int):Option (Bool):=((Axr K a0 a1).bind fun r1=>some (decide (r1≥0)))
def Bc8:=ct (fd Tryz.func119 ⟨[.v 26,.v 3],[.v 4],true⟩ (gC (Bs1 K) gN)) (Anw K)
def Aps (K:Nat)(a0:Eb)(a1:List Int):Nat->(List Int)->Int->Int->Option (Bool)
 |0,_,_,_=>none
 |n1+1,v1,v2,v3=>(bif (decide (v3<v2))then(if(0:Int)≤v3∧v3<(v1.length:Int)then((Abc K (gt v1 v3) 0 (An8 .i64 a0.Az 1)).bind fun r4=>(bif r4 then(if(0:Int)≤0∧0≤v3∧v3≤(a1.length:Int)then((Anw K ((a1.drop (0:Int).toNat).take (v3 - 0).toNat) (gt v1 v3)).bind fun r5=>(bif r5 then some false else(Aps K a0 a1 n1 v1 v2 (An7 .i64 v3 1))))else none)else some false))else none)else some true)
def Aup (K:Nat)(a0:Eb)(a1:List Int):Option (Bool):=(Aps K a0 a1 K a1 (a1.length:Int) 0)
def Bqj:=fd Tryz.func240 ⟨[.v 25,.v 26],[.v 4],true⟩ (gC (A2g K) (gC (Bc8 K) gN)) [18,19,20]
def Bw7:El:=⟨[(1,.v 26),(2,.p 102),(7,.v 26),(8,.v 2),(9,.v 2)],[(102,.st 25 true)]⟩
def Bj4:=lp (Bqj K) 26 Bw7 [] (fun n a b c d e=>Aps K e a n b c d) (fun n=>kN)
def Bj5:=ct (Bqj K) (Aup K) (kC (Bj4 K K) kN)
def Au7 (K:Nat)(a0:Int):Option (Bool):=((Abc K a0 0 255).bind fun r1=>some (!r1))
def Bs2:=ct (fd Tryz.func180 ⟨[.v 3],[.v 4],true⟩ (gC (A2g K) gN)) (Au7 K)
def Ahc (K:Nat)(a0:List Int):Nat->Int->Int->Option (Int)
 |0,_,_=>none
 |n1+1,v1,v2=>(bif (decide (v2<v1))then(if(0:Int)≤v2∧v2<(a0.length:Int)then((Au7 K (gt a0 v2)).bind fun r3=>(bif r3 then some v2 else(Ahc K a0 n1 v1 (An7 .i64 v2 1))))else none)else some (-1))
def Al9 (K:Nat)(a0:List Int):Option (Int):=(Ahc K a0 K (a0.length:Int) 0)
def Bqk:=fd Tryz.func247 ⟨[.v 26,.f 180 [] []],[.v 3],true⟩ (gC (Bs2 K) gN)
def Bw8:El:=⟨[(0,.v 26),(1,.f 180 [] []),(7,.v 2),(8,.v 2)],[]⟩
def Bj6:=lp (Bqk K) 26 Bw8 [] (fun n a=>Ahc K a n) (fun n=>kN)
def Bs3:=ct (Bqk K) (Al9 K) (kC (Bj6 K K) kN)
def Ak8 (K:Nat)(a0:List Int):Option (Bool):=((Al9 K a0).bind fun r1=>some (decide (r1≥0)))
def Bs4:=ct (fd Tryz.func179 ⟨[.v 26,.f 180 [] []],[.v 4],true⟩ (gC (Bs3 K) gN)) (Ak8 K)
def Ar3 (K:Nat)(a0:List Int):Option (Bool):=((Ak8 K a0).bind fun r1=>some (!r1))
def Bc9:=ct (fd Tryz.func89 ⟨[.v 26],[.v 4],true⟩ (gC (Bs4 K) gN)) (Ar3 K)
def A22 (K:Nat)(a0:Eb)(a1:Int):Option (Bool):=some (decide (a1>a0.Hi))
def Bs5:=ct (fd Tryz.func280 ⟨[.v 25,.v 3],[.v 4],true⟩ gN) (A22 K)
def A23 (K:Nat)(a0:Int)(a1:Int):Option (Int):=((Abc K a0 0 1000000000).bind fun r1=>(bif r1 then((Abc K a1 1 1000000000).bind fun r2=>(bif (!r2)then some 0 else(if a1≠(0:Int)then some (Alp .i64 (An8 .i64 (An7 .i64 a0 a1) 1) a1)else none)))else some 0))
def Bs6:=ct (fd Tryz.func305 ⟨[.v 3,.v 3],[.v 3],true⟩ (gC (A2g K) gN) [6,7,8]) (A23 K)
def A11 (K:Nat)(a0:Eb)(a1:Int):Option (Int):=((A23 K a1 a0.Hi).bind fun r1=>some r1)
def Bs7:=ct (fd Tryz.func281 ⟨[.v 25,.v 3],[.v 3],true⟩ (gC (Bs6 K) gN)) (A11 K)
def Atn (K:Nat)(a0:Eb)(a1:Bd):Option (Bool):=((Ayo K a0).bind fun r1=>(bif (decide (a1.Aj0≤0))then some false else(bif (decide (a1.fAt<0))then some false else(bif (decide (a1.Aj0>r1))then some false else(bif (decide (a1.fAt>(An8 .i64 r1 a1.Aj0)))then some false else(bif (a1.Aj1==0)then(bif (decide (a1.Aj0≤a0.Hi))then(if a0.Hi≠(0:Int)then(if a0.Hi≠(0:Int)then some ((Alp .i64 a1.fAt a0.Hi)==(Alp .i64 (An8 .i64 (An7 .i64 a1.fAt a1.Aj0) 1) a0.Hi))else none)else none)else some false)else((A22 K a0 a1.Aj0).bind fun r2=>(bif r2 then((A11 K a0 a1.Aj0).bind fun r3=>(bif (a1.Aj1==r3)then(if a0.Hi≠(0:Int)then some ((Int.tmod a1.fAt a0.Hi)==0)else none)else some false))else some false))))))))
def Bj7:=ct (fd Tryz.func242 ⟨[.v 25,.v 132],[.v 4],true⟩ (gC (Bjw K) (gC (Bs5 K) (gC (Bs7 K) gN))) [10,11,14,15,16,20,21,22,38,39,59,60,67,68,69]) (Atn K)
def Axh (K:Nat)(a0:Bd)(a1:Eb):Option (Bool):=((Atn K a1 a0).bind fun r1=>some (!r1))
def Bs8:=ct (fd Tryz.func241 ⟨[.v 132,.r 25],[.v 4],true⟩ (gC (Bj7 K) gN)) (Axh K)
def Afi (K:Nat)(a0:List Bd)(a1_0:Eb):Nat->Int->Int->Option (Int)
 |0,_,_=>none
 |n1+1,v1,v2=>(bif (decide (v2<v1))then(if(0:Int)≤v2∧v2<(a0.length:Int)then((Axh K (gt a0 v2) a1_0).bind fun r3=>(bif r3 then some v2 else(Afi K a0 a1_0 n1 v1 (An7 .i64 v2 1))))else none)else some (-1))
def Aph (K:Nat)(a0:List Bd)(a1_0:Eb):Option (Int):=(Afi K a0 a1_0 K (a0.length:Int) 0)
def Bql:=fd Tryz.func245 ⟨[.v 48,.f 241 [] [25]],[.v 3],true⟩ (gC (Bs8 K) gN)
def Bw9:El:=⟨[(0,.v 48),(1,.f 241 [] [25]),(7,.v 2),(8,.v 2)],[]⟩
def Bj8:=lp (Bql K) 26 Bw9 [] (fun n a b=>Afi K a b n) (fun n=>kN)
def Bs9:=ct (Bql K) (Aph K) (kC (Bj8 K K) kN)
def Aiz (K:Nat)(a0:List Bd)(a1_0:Eb):Option (Bool):=((Aph K a0 a1_0).bind fun r1=>some (decide (r1≥0)))
def Bta:=ct (fd Tryz.func172 ⟨[.v 48,.f 241 [] [25]],[.v 4],true⟩ (gC (Bs9 K) gN)) (Aiz K)
def Aq1 (K:Nat)(a0:Eb)(v19:List Bd)(v20:List Int):Option (Bool):=(bif (decide ((v19.length:Int)≤12))then(bif (decide ((v20.length:Int)≤6))then((Ar3 K v20).bind fun r25=>(bif r25 then((Aiz K v19 a0).bind fun r26=>some (!r26))else some false))else some false)else some false)
def Ap1 (K:Nat)(a0:Eb):Nat->(List Int)->Int->Int->Int->Int->Int->Int->Int->Int->Int->Int->(List Int)->Int->Int->(List Bd)->(List Int)->Option (Bool)
 |0,_,_,_,_,_,_,_,_,_,_,_,_,_,_,_,_=>none
 |n1+1,v5,v6,v7,v8,v9,v10,v11,v12,v13,v14,v15,v16,v17,v18,v19,v20=>(bif (decide (v7<v6))then(if(0:Int)≤v7∧v7<(v5.length:Int)then((Abc K (gt v5 v7) 0 a0.Fb).bind fun r21=>(bif (!r21)then some false else(Ap1 K a0 n1 v5 v6 (An7 .i64 v7 1) v8 v9 v10 v11 v12 v13 v14 v15 v16 v17 v18 v19 v20)))else none)else(bif (decide (v10<0))then some false else(bif (decide (v12<0))then some false else((Aup K a0 v16).bind fun r22=>(bif r22 then(bif (v17 != 0)then((Anw K v16 (An8 .i64 v17 1)).bind fun r23=>(bif r23 then((Abc K v18 0 a0.Hi).bind fun r24=>(bif r24 then(bif (v17==0)then(bif (v18 != 0)then some false else(Aq1 K a0 v19 v20))else(Aq1 K a0 v19 v20))else some false))else some false))else((Abc K v18 0 a0.Hi).bind fun r27=>(bif r27 then(bif (v17==0)then(bif (v18 != 0)then some false else(Aq1 K a0 v19 v20))else(Aq1 K a0 v19 v20))else some false)))else some false)))))
def Azr (K:Nat)(a0:Eb)(a1:Au):Option (Bool):=((Auu K a0).bind fun r1=>(bif r1 then((Abc K a1.Vt 0 3).bind fun r2=>(bif r2 then((Abc K a1.Dc 1 a0.Hj).bind fun r3=>(bif (!r3)then some false else(bif (a1.Vt != 1)then((A1o K a1).bind fun r4=>some r4)else(Ap1 K a0 K ([a1.fUp,a1.Eg,a1.S7,a1.S8]:List Int) (([a1.fUp,a1.Eg,a1.S7,a1.S8]:List Int).length:Int) 0 a1.Vt a1.Dc a1.S5 a1.fUp a1.S6 a1.Eg a1.S7 a1.S8 a1.Az a1.Ade a1.S9 a1.Ga a1.Fo))))else some false))else some false))
def Bj9:=fd Tryz.func169 ⟨[.v 25,.v 50],[.v 4],true⟩ (gC (A9m K) (gC (Bc9 K) (gC (A2g K) (gC (Bc8 K) (gC (Bta K) (gC (Bs0 K) (gC (Bj5 K) gN))))))) [8,9,10,13,14,15,16,51,52,55,56,57,61,62,63,64,67,68,74,75,76,77,78,83,84,85,86,89,90,99,100,104,105,106,109,110,111] [31] [(13,[.frzB 102 25])]
def Bxa:El:=⟨[(2,.p 102),(3,.p 103)],[(103,.box [.v 2,.v 2,.v 2,.v 2,.v 2,.v 2,.v 2,.v 2,.v 26,.v 2,.v 2,.v 48,.v 26]),(102,.st 25 true)]⟩
def Bxb:El:=⟨[(2,.p 102),(3,.p 103),(37,.v 26),(38,.v 2),(39,.v 2)],[(103,.box [.v 2,.v 2,.v 2,.v 2,.v 2,.v 2,.v 2,.v 2,.v 26,.v 2,.v 2,.v 48,.v 26]),(102,.st 25 true)]⟩
def Bka:=jn (Bj9 K) 31 Bxa [] (fun _ _ _ _ _ _ _ _ _ _ _ l m o=>Aq1 K o l m) kN
def Bgd:=lp (Bj9 K) 122 Bxb [] (fun n a b c d e f g h i j k l m o p q r=>Ap1 K r n a b c d e f g h i j k l m o p q) (fun n=>(kC (up (Bka K)) kN))
def Btb:=ct (Bj9 K) (Azr K) (kC (Bgd K K) kN)
def Ato (K:Nat)(v2:Int)(v3:Int)(v4:List Int)(v5:List Int)(v6:List Int)(C1:(List Int)->Int->Int->(List Int)->(List Int)->(List Int)->Option ((List Int)))(v7:List Int):Option ((List Int)):=(C1 v7 v2 (An7 .i64 v3 1) v4 v5 v6)
def Anj (K:Nat)(a1:Int):Nat->(List Int)->Int->Int->(List Int)->(List Int)->(List Int)->Option ((List Int))
 |0,_,_,_,_,_,_=>none
 |n1+1,v1,v2,v3,v4,v5,v6=>(bif (decide (v3<v2))then(if(0:Int)≤v3∧v3<(v5.length:Int)then(bif ((gt v5 v3)==1)then(if(0:Int)≤v3∧v3<(v6.length:Int)then(bif ((gt v6 v3)==a1)then(if(v1++([v3]:List Int)).length*8≤140737488355328∧(v1++([v3]:List Int)).length≤maxLen then(Ato K v2 v3 v4 v5 v6 (Anj K a1 n1) (v1++([v3]:List Int)))else none)else(Ato K v2 v3 v4 v5 v6 (Anj K a1 n1) v1))else none)else(Ato K v2 v3 v4 v5 v6 (Anj K a1 n1) v1))else none)else some v1)
def Ayp (K:Nat)(a0:Dp)(a1:Int):Option ((List Int)):=(Anj K a1 K ([]:List Int) (Aaq (a0.Vt.length:Int) (a0.Pn.length:Int)) 0 a0.Pm a0.Vt a0.Pn)
def Bkb:=fd Tryz.func114 ⟨[.v 28,.v 3],[.n 26 true],true⟩ gN [23,24] [467]
def Beu:El:=⟨[(1,.v 2),(2,.p 102),(5,.o 1005 3 true),(14,.v 2),(15,.v 2)],[(102,.box [.v 22,.v 26,.v 26])]⟩
def Bge:=fun(C58:CT Beu _)=>jn Bkb 467 Beu [(58,ar Beu C58)] (fun a b c d e f g=>Ato K c d e f g (C58 a) b) kN
def Bkc:=lp Bkb 58 Beu [] (fun n a=>Anj K a n) (fun n=>(kC (Bge K _) kN))
def Btc:=ct Bkb (Ayp K) (kC (Bkc K K) kN)
def Ann (K:Nat)(a0:Bd)(a1:Eb)(a2:Au):Nat->Int->Option (Bool)
 |0,_=>none
 |n1+1,v2=>(if a1.Hi≠(0:Int)then(bif (decide (v2≤(Alp .i64 (An8 .i64 (An7 .i64 a0.fAt a0.Aj0) 1) a1.Hi)))then((Anw K a2.Az v2).bind fun r3=>(bif (!r3)then some true else(Ann K a0 a1 a2 n1 (An7 .i64 v2 1))))else some false)else none)
def Ase (K:Nat)(a0:Bd)(a1:Eb)(a2:Au):Option (Bool):=((Atn K a1 a0).bind fun r1=>(bif (!r1)then some true else(if a1.Hi≠(0:Int)then(Ann K a0 a1 a2 K (Alp .i64 a0.fAt a1.Hi))else none)))
def Bqm:=fd Tryz.func243 ⟨[.v 132,.r 25,.r 50],[.v 4],true⟩ (gC (Bc8 K) (gC (Bj7 K) gN))
def Bxc:El:=⟨[(1,.r 25),(2,.r 50),(3,.p 103),(5,.v 2)],[(103,.st 132 true)]⟩
def Bkd:=lp (Bqm K) 58 Bxc [] (fun n a b c d=>Ann K d a b n c) (fun n=>kN)
def Btd:=ct (Bqm K) (Ase K) (kC (Bkd K K) kN)
def Aem (K:Nat)(a0:List Bd)(a1_0:Eb)(a1_1:Au):Nat->Int->Int->Option (Int)
 |0,_,_=>none
 |n1+1,v1,v2=>(bif (decide (v2<v1))then(if(0:Int)≤v2∧v2<(a0.length:Int)then((Ase K (gt a0 v2) a1_0 a1_1).bind fun r3=>(bif r3 then some v2 else(Aem K a0 a1_0 a1_1 n1 v1 (An7 .i64 v2 1))))else none)else some (-1))
def Aos (K:Nat)(a0:List Bd)(a1_0:Eb)(a1_1:Au):Option (Int):=(Aem K a0 a1_0 a1_1 K (a0.length:Int) 0)
def Bqn:=fd Tryz.func245 ⟨[.v 48,.f 243 [] [25,50]],[.v 3],true⟩ (gC (Btd K) gN)
def Bxd:El:=⟨[(0,.v 48),(1,.f 243 [] [25,50]),(7,.v 2),(8,.v 2)],[]⟩
def Bke:=lp (Bqn K) 26 Bxd [] (fun n a b c=>Aem K a b c n) (fun n=>kN)
def Bte:=ct (Bqn K) (Aos K) (kC (Bke K K) kN)
def Ahg (K:Nat)(a0:List Bd)(a1_0:Eb)(a1_1:Au):Option (Bool):=((Aos K a0 a1_0 a1_1).bind fun r1=>some (decide (r1≥0)))
def Btf:=ct (fd Tryz.func172 ⟨[.v 48,.f 243 [] [25,50]],[.v 4],true⟩ (gC (Bte K) gN)) (Ahg K)
def Axi (K:Nat)(a0:Eb)(a1:Au):Option (Bool):=((Ahg K a1.Ga a0 a1).bind fun r1=>some (!r1))
def Btg:=ct (fd Tryz.func170 ⟨[.v 25,.v 50],[.v 4],true⟩ (gC (Btf K) gN) [] [] [(1,[.frzB 102 25,.frzB 103 50])]) (Axi K)
def Ayq (K:Nat)(v1:Bd)(v2:Bd):Option (Bool):=some (decide ((An8 .u64 (IntKind.u64.wrap v1.fAt) (IntKind.u64.wrap v2.fAt))≥(IntKind.u64.wrap v2.Aj0)))
def Ayr (K:Nat)(a0:Bd)(a1:Bd):Option (Bool):=(bif (decide (a0.Aj0≤0))then some true else(bif (decide (a1.Aj0≤0))then some true else(bif (decide (a0.fAt>a1.fAt))then(Ayq K a0 a1)else(Ayq K a1 a0))))
def Bqo:=fd Tryz.func174 ⟨[.v 132,.v 132],[.v 4],true⟩ gN [7,8] [7]
def Bxe:El:=⟨[(2,.p 102),(3,.p 103)],[(103,.st 132 true),(102,.st 132 true)]⟩
def Bod:=jn Bqo 7 Bxe [] (Ayq K) kN
def Bkf:=ct Bqo (Ayr K) (kC (Bod K) kN)
def Au8 (K:Nat)(a0:Bd)(a1:Bd):Option (Bool):=((Ayr K a0 a1).bind fun r1=>some (!r1))
def Bth:=ct (fd Tryz.func244 ⟨[.v 132,.r 132],[.v 4],true⟩ (gC (Bkf K) gN)) (Au8 K)
def Aen (K:Nat)(a0:List Bd)(a1_0:Bd):Nat->Int->Int->Option (Int)
 |0,_,_=>none
 |n1+1,v1,v2=>(bif (decide (v2<v1))then(if(0:Int)≤v2∧v2<(a0.length:Int)then((Au8 K (gt a0 v2) a1_0).bind fun r3=>(bif r3 then some v2 else(Aen K a0 a1_0 n1 v1 (An7 .i64 v2 1))))else none)else some (-1))
def Aot (K:Nat)(a0:List Bd)(a1_0:Bd):Option (Int):=(Aen K a0 a1_0 K (a0.length:Int) 0)
def Bqp:=fd Tryz.func245 ⟨[.v 48,.f 244 [] [132]],[.v 3],true⟩ (gC (Bth K) gN)
def Bxf:El:=⟨[(0,.v 48),(1,.f 244 [] [132]),(7,.v 2),(8,.v 2)],[]⟩
def Bkg:=lp (Bqp K) 26 Bxf [] (fun n a b=>Aen K a b n) (fun n=>kN)
def Bti:=ct (Bqp K) (Aot K) (kC (Bkg K K) kN)
def Ahh (K:Nat)(a0:List Bd)(a1_0:Bd):Option (Bool):=((Aot K a0 a1_0).bind fun r1=>some (decide (r1≥0)))
def Btj:=ct (fd Tryz.func172 ⟨[.v 48,.f 244 [] [132]],[.v 4],true⟩ (gC (Bti K) gN)) (Ahh K)
def Apt (K:Nat)(a0:List Bd):Nat->(List Bd)->Int->Int->Option (Bool)
 |0,_,_,_=>none
 |n1+1,v1,v2,v3=>(bif (decide (v3<v2))then(if(0:Int)≤v3∧v3<(v1.length:Int)then(if(0:Int)≤0∧0≤v3∧v3≤(a0.length:Int)then((Ahh K ((a0.drop (0:Int).toNat).take (v3 - 0).toNat) (gt v1 v3)).bind fun r4=>(bif r4 then some false else(Apt K a0 n1 v1 v2 (An7 .i64 v3 1))))else none)else none)else some true)
def Axj (K:Nat)(a0:List Bd):Option (Bool):=(Apt K a0 K a0 (a0.length:Int) 0)
def Bqq:=fd Tryz.func171 ⟨[.v 48],[.v 4],true⟩ (gC (Btj K) gN) [] [] [(4,[.frzB 104 132])]
def Bxg:El:=⟨[(0,.v 48),(5,.v 48),(6,.v 2),(7,.v 2)],[]⟩
def Bkh:=lp (Bqq K) 26 Bxg [] (fun n a=>Apt K a n) (fun n=>kN)
def Btk:=ct (Bqq K) (Axj K) (kC (Bkh K K) kN)
def Aq3 (K:Nat)(a0:Bd)(a1:Bd):Option (Bool):=((Ayr K a0 a1).bind fun r1=>some (!r1))
def Btl:=ct (fd Tryz.func173 ⟨[.v 132,.r 132],[.v 4],true⟩ (gC (Bkf K) gN)) (Aq3 K)
def Adc (K:Nat)(a0:List Bd)(a1_0:Bd):Nat->Int->Int->Option (Int)
 |0,_,_=>none
 |n1+1,v1,v2=>(bif (decide (v2<v1))then(if(0:Int)≤v2∧v2<(a0.length:Int)then((Aq3 K (gt a0 v2) a1_0).bind fun r3=>(bif r3 then some v2 else(Adc K a0 a1_0 n1 v1 (An7 .i64 v2 1))))else none)else some (-1))
def Amd (K:Nat)(a0:List Bd)(a1_0:Bd):Option (Int):=(Adc K a0 a1_0 K (a0.length:Int) 0)
def Bqr:=fd Tryz.func245 ⟨[.v 48,.f 173 [] [132]],[.v 3],true⟩ (gC (Btl K) gN)
def Bxh:El:=⟨[(0,.v 48),(1,.f 173 [] [132]),(7,.v 2),(8,.v 2)],[]⟩
def Bki:=lp (Bqr K) 26 Bxh [] (fun n a b=>Adc K a b n) (fun n=>kN)
def Btm:=ct (Bqr K) (Amd K) (kC (Bki K K) kN)
def Ag4 (K:Nat)(a0:List Bd)(a1_0:Bd):Option (Bool):=((Amd K a0 a1_0).bind fun r1=>some (decide (r1≥0)))
def Btn:=ct (fd Tryz.func172 ⟨[.v 48,.f 173 [] [132]],[.v 4],true⟩ (gC (Btm K) gN)) (Ag4 K)
def Aq4 (K:Nat)(v1:List Au)(v2:Int)(v3:Int)(v4:Int)(v5:Int)(v6:Int)(v7:Int)(v8:Int)(v9:Int)(v10:List Int)(v11:List Int)(v12:List Int)(v13:List Au)(v14:List A1)(v15:List Int)(C1:(List Au)->Int->Int->Int->Int->Int->Int->Int->Int->(List Int)->(List Int)->(List Int)->(List Au)->(List A1)->(List Int)->Option (Bool)):Option (Bool):=(C1 v1 v2 (An7 .i64 v3 1) v4 v5 v6 v7 v8 v9 v10 v11 v12 v13 v14 v15)
def Ahu (K:Nat):Nat->(List Au)->Int->Int->Int->Int->Int->Int->Int->Int->(List Int)->(List Int)->(List Int)->(List Au)->(List A1)->(List Int)->Option (Bool)
 |0,_,_,_,_,_,_,_,_,_,_,_,_,_,_,_=>none
 |n1+1,v1,v2,v3,v4,v5,v6,v7,v8,v9,v10,v11,v12,v13,v14,v15=>(bif (decide (v3<v2))then(if(0:Int)≤v3∧v3<(v1.length:Int)then((Aeo K ((gt v1 v3).Az)).bind fun r16=>((Ed K r16).bind fun r17=>(if r17.length=r16.length then((Azr K (Eb.mk v4 v5 v6 v7 v8 v9) (gt v1 v3)).bind fun r18=>(bif r18 then((Ayp K (Dp.mk v10 v11 v12) v3).bind fun r19=>((Ajp K r17 r19).bind fun r20=>(bif r20 then((Axi K (Eb.mk v4 v5 v6 v7 v8 v9) (gt v1 v3)).bind fun r21=>(bif r21 then((Axj K ((gt v1 v3).Ga)).bind fun r22=>(bif (!r22)then some false else(bif (((gt v1 v3).Ade)==0)then(Aq4 K v1 v2 v3 v4 v5 v6 v7 v8 v9 v10 v11 v12 v13 v14 v15 (Ahu K n1))else(if(0:Int)≤((Bd.mk (An7 .i64 (An9 .i64 (An8 .i64 ((gt v1 v3).Ade) 1) v5) ((gt v1 v3).S9)) (An8 .i64 v5 ((gt v1 v3).S9)) 0).fAt)∧((Bd.mk (An7 .i64 (An9 .i64 (An8 .i64 ((gt v1 v3).Ade) 1) v5) ((gt v1 v3).S9)) (An8 .i64 v5 ((gt v1 v3).S9)) 0).fAt)≤(An7 .i64 ((Bd.mk (An7 .i64 (An9 .i64 (An8 .i64 ((gt v1 v3).Ade) 1) v5) ((gt v1 v3).S9)) (An8 .i64 v5 ((gt v1 v3).S9)) 0).fAt) ((Bd.mk (An7 .i64 (An9 .i64 (An8 .i64 ((gt v1 v3).Ade) 1) v5) ((gt v1 v3).S9)) (An8 .i64 v5 ((gt v1 v3).S9)) 0).Aj0))∧(An7 .i64 ((Bd.mk (An7 .i64 (An9 .i64 (An8 .i64 ((gt v1 v3).Ade) 1) v5) ((gt v1 v3).S9)) (An8 .i64 v5 ((gt v1 v3).S9)) 0).fAt) ((Bd.mk (An7 .i64 (An9 .i64 (An8 .i64 ((gt v1 v3).Ade) 1) v5) ((gt v1 v3).S9)) (An8 .i64 v5 ((gt v1 v3).S9)) 0).Aj0))≤(v10.length:Int)then((Auv K ((v10.drop ((Bd.mk (An7 .i64 (An9 .i64 (An8 .i64 ((gt v1 v3).Ade) 1) v5) ((gt v1 v3).S9)) (An8 .i64 v5 ((gt v1 v3).S9)) 0).fAt).toNat).take ((An7 .i64 ((Bd.mk (An7 .i64 (An9 .i64 (An8 .i64 ((gt v1 v3).Ade) 1) v5) ((gt v1 v3).S9)) (An8 .i64 v5 ((gt v1 v3).S9)) 0).fAt) ((Bd.mk (An7 .i64 (An9 .i64 (An8 .i64 ((gt v1 v3).Ade) 1) v5) ((gt v1 v3).S9)) (An8 .i64 v5 ((gt v1 v3).S9)) 0).Aj0)) - ((Bd.mk (An7 .i64 (An9 .i64 (An8 .i64 ((gt v1 v3).Ade) 1) v5) ((gt v1 v3).S9)) (An8 .i64 v5 ((gt v1 v3).S9)) 0).fAt)).toNat)).bind fun r23=>(bif r23 then((Ag4 K ((gt v1 v3).Ga) (Bd.mk (An7 .i64 (An9 .i64 (An8 .i64 ((gt v1 v3).Ade) 1) v5) ((gt v1 v3).S9)) (An8 .i64 v5 ((gt v1 v3).S9)) 0)).bind fun r24=>(bif r24 then some false else(Aq4 K v1 v2 v3 v4 v5 v6 v7 v8 v9 v10 v11 v12 v13 v14 v15 (Ahu K n1))))else some false))else none))))else some false))else some false)))else some false))else none)))else none)else some true)
def Asf (K:Nat)(a0:C8):Option (Bool):=(Ahu K K a0.fL (a0.fL.length:Int) 0 a0.fC.Az a0.fC.Hi a0.fC.Fb a0.fC.G8 a0.fC.Fc a0.fC.Hj a0.fP.Pm a0.fP.Vt a0.fP.Pn a0.fL a0.fQ a0.Adf)
def Bkj:=fd Tryz.func86 ⟨[.v 32],[.v 4],true⟩ (gC (Bj1 K) (gC (Btc K) (gC (A5g K) (gC (Bc7 K) (gC (V5 K) (gC (Btb K) (gC (Btg K) (gC (Btk K) (gC (Btn K) gN))))))))) [23,24,25,31,32,33,34,38,39,40,41,78,79,80] [211] [(10,[.frzB 106 132])]
def Bev:El:=⟨[(1,.p 101),(8,.v 29),(9,.v 2),(10,.v 2)],[(101,.box [.v 2,.v 2,.v 2,.v 2,.v 2,.v 2,.v 22,.v 26,.v 26,.v 29,.v 30,.v 26])]⟩
def Bgf:=fun(C26:CT Bev _)=>jn (Bkj K) 211 Bev [(26,ar Bev C26)] (fun a b c d e f g h i j k l m o p=>Aq4 K a b c d e f g h i j k l m o p C26) kN
def Bkk:=lp (Bkj K) 26 Bev [] (Ahu K) (fun n=>(kC (Bgf K _) kN))
def Bto:=ct (Bkj K) (Asf K) (kC (Bkk K K) kN)
def Auw (K:Nat)(a0:List Au)(a1:Int):Option (Bool):=(bif (a1==0)then some true else((Aiy K a0 (An8 .i64 a1 1)).bind fun r1=>(bif r1 then(if(0:Int)≤(An8 .i64 a1 1)∧(An8 .i64 a1 1)<(a0.length:Int)then some (((gt a0 (An8 .i64 a1 1)).Vt)==1)else none)else some false)))
def Btp:=ct (fd Tryz.func246 ⟨[.v 29,.v 3],[.v 4],true⟩ (gC (A20 K) gN) [6,7,11,12]) (Auw K)
def Ari (K:Nat)(a0:List Au)(a1:Int):Option (Bool):=(if(0:Int)≤a1∧a1<(a0.length:Int)then((Aiy K a0 (An8 .i64 ((gt a0 a1).fUp) 1)).bind fun r1=>(bif r1 then(if(0:Int)≤(An8 .i64 ((gt a0 a1).fUp) 1)∧(An8 .i64 ((gt a0 a1).fUp) 1)<(a0.length:Int)then(bif (((gt a0 (An8 .i64 ((gt a0 a1).fUp) 1)).Vt)==1)then(if(0:Int)≤(An8 .i64 ((gt a0 a1).fUp) 1)∧(An8 .i64 ((gt a0 a1).fUp) 1)<(a0.length:Int)then(if(0:Int)≤a1∧a1<(a0.length:Int)then some (((gt a0 (An8 .i64 ((gt a0 a1).fUp) 1)).S5)==((gt a0 a1).S6))else none)else none)else some false)else none)else some false))else none)
def Bda:=ct (fd Tryz.func176 ⟨[.v 29,.v 3],[.v 4],true⟩ (gC (A20 K) gN) [14,15,21,22,23]) (Ari K)
def Atp (K:Nat)(a0:List Au)(a1:Int)(v8:Int)(v12:Int):Option (Bool):=(bif (v12 != 0)then some true else((Ari K a0 a1).bind fun r18=>(bif r18 then(if(0:Int)≤(An8 .i64 v8 1)∧(An8 .i64 v8 1)<(a0.length:Int)then some (((gt a0 (An8 .i64 v8 1)).Eg)==(An7 .i64 a1 1))else none)else some true)))
def Atq (K:Nat)(a0:List Au)(a1:Int)(v8:Int)(v12:Int):Option (Bool):=(bif (v12 != 0)then(if(0:Int)≤(An8 .i64 v12 1)∧(An8 .i64 v12 1)<(a0.length:Int)then(bif (((gt a0 (An8 .i64 v12 1)).S7) != (An7 .i64 a1 1))then some false else(Atp K a0 a1 v8 v12))else none)else(Atp K a0 a1 v8 v12))
def Atr (K:Nat)(a0:List Au)(a1:Int)(v8:Int)(v9:Int)(v11:Int)(v12:Int):Option (Bool):=(bif (v11 != 0)then(if(0:Int)≤(An8 .i64 v11 1)∧(An8 .i64 v11 1)<(a0.length:Int)then(bif (((gt a0 (An8 .i64 v11 1)).S8) != (An7 .i64 a1 1))then some false else(bif (((gt a0 (An8 .i64 v11 1)).fUp) != v8)then some false else(bif (((gt a0 (An8 .i64 v11 1)).S6) != v9)then some false else(Atq K a0 a1 v8 v12))))else none)else(Atq K a0 a1 v8 v12))
def Ats (K:Nat)(a0:List Au)(a1:Int)(v5:Int)(v6:Int)(v7:Int)(v8:Int)(v9:Int)(v10:Int)(v11:Int)(v12:Int)(v13:List Int)(v14:Int)(v15:Int)(v16:List Bd)(v17:List Int):Option (Bool):=(bif (v10 != 0)then(if(0:Int)≤(An8 .i64 v10 1)∧(An8 .i64 v10 1)<(a0.length:Int)then(bif (((gt a0 (An8 .i64 v10 1)).S8) != 0)then some false else(bif (((gt a0 (An8 .i64 v10 1)).fUp) != (An7 .i64 a1 1))then some false else(bif (((gt a0 (An8 .i64 v10 1)).S6) != v7)then some false else(Atr K a0 a1 v8 v9 v11 v12))))else none)else(Atr K a0 a1 v8 v9 v11 v12))
def Ays (K:Nat)(a0:List Au)(a1:Int):Option (Bool):=(if(0:Int)≤a1∧a1<(a0.length:Int)then((Auw K a0 ((gt a0 a1).Eg)).bind fun r1=>(bif r1 then((Auw K a0 ((gt a0 a1).S7)).bind fun r2=>(bif r2 then((Auw K a0 ((gt a0 a1).S8)).bind fun r3=>(bif r3 then(bif (((gt a0 a1).fUp) != 0)then((Aiy K a0 (An8 .i64 ((gt a0 a1).fUp) 1)).bind fun r4=>(bif (!r4)then some false else(Ats K a0 a1 ((gt a0 a1).Vt) ((gt a0 a1).Dc) ((gt a0 a1).S5) ((gt a0 a1).fUp) ((gt a0 a1).S6) ((gt a0 a1).Eg) ((gt a0 a1).S7) ((gt a0 a1).S8) ((gt a0 a1).Az) ((gt a0 a1).Ade) ((gt a0 a1).S9) ((gt a0 a1).Ga) ((gt a0 a1).Fo))))else(Ats K a0 a1 ((gt a0 a1).Vt) ((gt a0 a1).Dc) ((gt a0 a1).S5) ((gt a0 a1).fUp) ((gt a0 a1).S6) ((gt a0 a1).Eg) ((gt a0 a1).S7) ((gt a0 a1).S8) ((gt a0 a1).Az) ((gt a0 a1).Ade) ((gt a0 a1).S9) ((gt a0 a1).Ga) ((gt a0 a1).Fo)))else some false))else some false))else some false))else none)
def Bbd:=fd Tryz.func175 ⟨[.v 29,.v 3],[.v 4],true⟩ (gC (A20 K) (gC (Bda K) (gC (Btp K) gN))) [15,16,17,21,22,23,24,28,29,30,31,34,35,55,56,61,62,63,83,84,89,90,91,100,101,115,116,119,120,121,122] [7,15,31,63]
def Bkl:=jn (Bbd K) 63 Ba6 [] (fun a b _ _ _ f _ _ _ j _ _ _ _ _=>Atp K a b f j) kN
def Bkm:=jn (Bbd K) 31 Ba6 [] (fun a b _ _ _ f _ _ _ j _ _ _ _ _=>Atq K a b f j) (kC (Bkl K) kN)
def Bkn:=jn (Bbd K) 15 Ba6 [] (fun a b _ _ _ f g _ i j _ _ _ _ _=>Atr K a b f g i j) (kC (Bkm K) kN)
def Boe:=jn (Bbd K) 7 Ba6 [] (Ats K) (kC (Bkn K) kN)
def Btq:=ct (Bbd K) (Ays K) (kC (Boe K) kN)
def Axk (K:Nat)(v1:List Au)(v2:Int)(v3:Int)(C1:(List Au)->Int->Int->Option (Bool)):Option (Bool):=(C1 v1 v2 (An7 .i64 v3 1))
def Ap2 (K:Nat)(a0:List Au):Nat->(List Au)->Int->Int->Option (Bool)
 |0,_,_,_=>none
 |n1+1,v1,v2,v3=>(bif (decide (v3<v2))then(if(0:Int)≤v3∧v3<(v1.length:Int)then(bif (((gt v1 v3).Vt) != 1)then(Axk K v1 v2 v3 (Ap2 K a0 n1))else((Ays K a0 v3).bind fun r4=>(bif (!r4)then some false else((Azx K a0 v3).bind fun r5=>(bif (decide ((r5.length:Int)>4))then some false else(if(0:Int)≤(An8 .i64 (r5.length:Int) 1)∧(An8 .i64 (r5.length:Int) 1)<(r5.length:Int)then((Ari K a0 (gt r5 (An8 .i64 (r5.length:Int) 1))).bind fun r6=>(bif r6 then some false else(Axk K v1 v2 v3 (Ap2 K a0 n1))))else none))))))else none)else some true)
def Azs (K:Nat)(a0:List Au):Option (Bool):=(Ap2 K a0 K a0 (a0.length:Int) 0)
def Bko:=fd Tryz.func87 ⟨[.v 29],[.v 4],true⟩ (gC (Bjd K) (gC (Btq K) (gC (Bda K) gN))) [25,26] [211]
def Bew:El:=⟨[(0,.v 29),(6,.v 29),(7,.v 2),(8,.v 2)],[]⟩
def Bgg:=fun(C26:CT Bew _)=>jn (Bko K) 211 Bew [(26,ar Bew C26)] (fun a b c d=>Axk K b c d (C26 a)) kN
def Bkp:=lp (Bko K) 26 Bew [] (fun n a=>Ap2 K a n) (fun n=>(kC (Bgg K _) kN))
def Btr:=ct (Bko K) (Azs K) (kC (Bkp K K) kN)
def Ar4 (K:Nat)(a0:List Au)(a1:Int):Option (Bool):=(if(0:Int)≤a1∧a1<(a0.length:Int)then(bif (((gt a0 a1).Vt)==1)then(if(0:Int)≤a1∧a1<(a0.length:Int)then(bif (((gt a0 a1).fUp) != 0)then((Ari K a0 a1).bind fun r1=>some (!r1))else some false)else none)else some false)else none)
def Bts:=ct (fd Tryz.func178 ⟨[.v 29,.v 3],[.v 4],true⟩ (gC (Bda K) gN) [10,11,17,18,19]) (Ar4 K)
def Ayt (K:Nat)(a0:Eb)(a1:A1):Option (Bool):=((Auu K a0).bind fun r1=>(bif r1 then((Abc K a1.Bk 0 a0.Fb).bind fun r2=>(bif r2 then((Abc K a1.Eg 0 a0.Fb).bind fun r3=>(bif r3 then(bif (decide ((a1.Fo.length:Int)≤6))then((Ar3 K a1.Fo).bind fun r4=>(bif r4 then((Aup K a0 a1.Az).bind fun r5=>(bif r5 then((Abc K a1.Xa 0 (An8 .i64 a0.Hi 1)).bind fun r6=>(bif r6 then(bif (decide ((a1.Az.length:Int)>0))then some true else some (a1.Xa==0))else some false))else some false))else some false))else some false)else some false))else some false))else some false))
def Btt:=ct (fd Tryz.func177 ⟨[.v 25,.v 52],[.v 4],true⟩ (gC (A9m K) (gC (Bc9 K) (gC (A2g K) (gC (Bj5 K) gN)))) [6,7,12,13,14,19,20,21,25,26,27,30,31,32,36,37,38,44,45,46,50,51]) (Ayt K)
def Auq (K:Nat)(a0:List Au):Nat->(List Int)->Int->Option ((List Int))
 |0,_,_=>none
 |n1+1,v1,v2=>((Aiy K a0 v2).bind fun r3=>(bif r3 then(bif (decide ((v1.length:Int)<(a0.length:Int)))then(if(v1++([v2]:List Int)).length*8≤140737488355328∧(v1++([v2]:List Int)).length≤maxLen then(if(0:Int)≤v2∧v2<(a0.length:Int)then(Auq K a0 n1 (v1++([v2]:List Int)) (An8 .i64 ((gt a0 v2).S7) 1))else none)else none)else some v1)else some v1))
def Azt (K:Nat)(a0:List Au)(a1:Int):Option ((List Int)):=(Auq K a0 K ([]:List Int) (An8 .i64 a1 1))
def Bqs:=fd Tryz.func124 ⟨[.v 29,.v 3],[.n 26 true],true⟩ (gC (A20 K) gN) [12,13]
def Bxi:El:=⟨[(0,.v 29),(5,.o 1005 3 true),(6,.v 2)],[]⟩
def Bkq:=lp (Bqs K) 58 Bxi [] (fun n a=>Auq K a n) (fun n=>kN)
def Btu:=ct (Bqs K) (Azt K) (kC (Bkq K K) kN)
def Ak2 (K:Nat)(v4:List A1)(v5:Int)(v6:Int)(v7:Int)(v8:Int)(v9:Int)(v10:Int)(v11:Int)(v12:Int)(v13:List Int)(v14:List Int)(v15:List Int)(v16:List Au)(v17:List A1)(v18:List Int)(v27:List Int)(v31:List Int)(r32:(List Int))(C1:(List Int)->(List Int)->(List Int)->(List A1)->Int->Int->Int->Int->Int->Int->Int->Int->(List Int)->(List Int)->(List Int)->(List Au)->(List A1)->(List Int)->Option (Bool)):Nat->(List Int)->Int->Int->Option (Bool)
 |0,_,_,_=>none
 |n6+1,v33,v34,v35=>(bif (decide (v35<v34))then(if(0:Int)≤v35∧v35<(r32.length:Int)then(if(0:Int)≤(gt r32 v35)∧(gt r32 v35)<(v33.length:Int)then(if(0:Int)≤(gt r32 v35)∧(gt r32 v35)<(v33.length:Int)then((Ar4 K v16 (gt r32 v35)).bind fun r36=>(bif (!r36)then some false else(Ak2 K v4 v5 v6 v7 v8 v9 v10 v11 v12 v13 v14 v15 v16 v17 v18 v27 v31 r32 C1 n6 (v33.set (gt r32 v35).toNat (An7 .i64 (gt v33 (gt r32 v35)) 1)) v34 (An7 .i64 v35 1))))else none)else none)else none)else(C1 v27 v31 v33 v4 v5 (An7 .i64 v6 1) v7 v8 v9 v10 v11 v12 v13 v14 v15 v16 v17 v18))
def Apu (K:Nat)(v3:List Int)(v4:List A1)(v5:Int)(v6:Int)(v7:Int)(v8:Int)(v9:Int)(v10:Int)(v11:Int)(v12:Int)(v13:List Int)(v14:List Int)(v15:List Int)(v16:List Au)(v17:List A1)(v18:List Int)(v23:Int)(v27:List Int)(v31:List Int)(C1:(List Int)->(List Int)->(List Int)->(List A1)->Int->Int->Int->Int->Int->Int->Int->Int->(List Int)->(List Int)->(List Int)->(List Au)->(List A1)->(List Int)->Option (Bool)):Option (Bool):=((Azt K v16 v23).bind fun r32=>(Ak2 K v4 v5 v6 v7 v8 v9 v10 v11 v12 v13 v14 v15 v16 v17 v18 v27 v31 r32 (C1) K v3 (r32.length:Int) 0))
def Apv (K:Nat)(v3:List Int)(v4:List A1)(v5:Int)(v6:Int)(v7:Int)(v8:Int)(v9:Int)(v10:Int)(v11:Int)(v12:Int)(v13:List Int)(v14:List Int)(v15:List Int)(v16:List Au)(v17:List A1)(v18:List Int)(v23:Int)(v27:List Int)(C1:(List Int)->(List Int)->(List Int)->(List A1)->Int->Int->Int->Int->Int->Int->Int->Int->(List Int)->(List Int)->(List Int)->(List Au)->(List A1)->(List Int)->Option (Bool))(v31:List Int):Option (Bool):=(bif (decide (v23>0))then(if(0:Int)≤(An8 .i64 v23 1)∧(An8 .i64 v23 1)<(v16.length:Int)then(bif (((gt v16 (An8 .i64 v23 1)).S8) != 0)then some false else(Apu K v3 v4 v5 v6 v7 v8 v9 v10 v11 v12 v13 v14 v15 v16 v17 v18 v23 v27 v31 (C1)))else none)else(Apu K v3 v4 v5 v6 v7 v8 v9 v10 v11 v12 v13 v14 v15 v16 v17 v18 v23 v27 v31 (C1)))
def Ak3 (K:Nat)(v2:List Int)(v3:List Int)(v4:List A1)(v5:Int)(v6:Int)(v7:Int)(v8:Int)(v9:Int)(v10:Int)(v11:Int)(v12:Int)(v13:List Int)(v14:List Int)(v15:List Int)(v16:List Au)(v17:List A1)(v18:List Int)(v22:Int)(v23:Int)(v25:List Int)(C1:(List Int)->(List Int)->(List Int)->(List A1)->Int->Int->Int->Int->Int->Int->Int->Int->(List Int)->(List Int)->(List Int)->(List Au)->(List A1)->(List Int)->Option (Bool)):Nat->(List Int)->Int->Int->(List Int)->Option (Bool)
 |0,_,_,_,_=>none
 |n3+1,v27,v28,v29,v30=>(bif (decide (v29<v28))then(if(0:Int)≤v29∧v29<(v25.length:Int)then(if(0:Int)≤(gt v25 v29)∧(gt v25 v29)<(v27.length:Int)then(if(0:Int)≤(gt v25 v29)∧(gt v25 v29)<(v27.length:Int)then(if(0:Int)≤(gt v25 v29)∧(gt v25 v29)<(v14.length:Int)then(bif ((gt v14 (gt v25 v29)) != 2)then some false else(Ak3 K v2 v3 v4 v5 v6 v7 v8 v9 v10 v11 v12 v13 v14 v15 v16 v17 v18 v22 v23 v25 C1 n3 (v27.set (gt v25 v29).toNat (An7 .i64 (gt v27 (gt v25 v29)) 1)) v28 (An7 .i64 v29 1) v30))else none)else none)else none)else none)else(bif (decide (v22>0))then(if(0:Int)≤(An8 .i64 v22 1)∧(An8 .i64 v22 1)<(v2.length:Int)then(if(0:Int)≤(An8 .i64 v22 1)∧(An8 .i64 v22 1)<(v2.length:Int)then(if(0:Int)≤(An8 .i64 v22 1)∧(An8 .i64 v22 1)<(v16.length:Int)then(bif (((gt v16 (An8 .i64 v22 1)).Vt) != 2)then some false else(Apv K v3 v4 v5 v6 v7 v8 v9 v10 v11 v12 v13 v14 v15 v16 v17 v18 v23 v27 (C1) (v2.set (An8 .i64 v22 1).toNat (An7 .i64 (gt v2 (An8 .i64 v22 1)) 1))))else none)else none)else none)else(Apv K v3 v4 v5 v6 v7 v8 v9 v10 v11 v12 v13 v14 v15 v16 v17 v18 v23 v27 (C1) v2)))
def Apw (K:Nat)(v1:List Int)(v2:List Int)(v3:List Int)(v4:List A1)(v5:Int)(v6:Int)(v7:Int)(v8:Int)(v9:Int)(v10:Int)(v11:Int)(v12:Int)(v13:List Int)(v14:List Int)(v15:List Int)(v16:List Au)(v17:List A1)(v18:List Int)(C1:(List Int)->(List Int)->(List Int)->(List A1)->Int->Int->Int->Int->Int->Int->Int->Int->(List Int)->(List Int)->(List Int)->(List Au)->(List A1)->(List Int)->Option (Bool))(v22:Int)(v23:Int)(v24:List Int)(v25:List Int)(v26:Int):Option (Bool):=(Ak3 K v2 v3 v4 v5 v6 v7 v8 v9 v10 v11 v12 v13 v14 v15 v16 v17 v18 v22 v23 v25 (C1) K v1 (v25.length:Int) 0 v25)
def Aq5 (K:Nat)(v37:Int)(v38:Int)(v39:List Int)(C7:Int->Int->(List Int)->Option (Bool)):Option (Bool):=(C7 v37 (An7 .i64 v38 1) v39)
def Ali (K:Nat)(v40:Int)(v41:Int)(v42:List Au)(C9:Int->Int->(List Au)->Option (Bool)):Option (Bool):=(C9 v40 (An7 .i64 v41 1) v42)
def Aek (K:Nat)(v2:List Int)(v3:List Int)(v16:List Au):Nat->Int->Int->(List Au)->Option (Bool)
 |0,_,_,_=>none
 |n9+1,v40,v41,v42=>(bif (decide (v41<v40))then(if(0:Int)≤v41∧v41<(v16.length:Int)then(bif (((gt v16 v41).Vt)==2)then(if(0:Int)≤v41∧v41<(v2.length:Int)then(bif ((gt v2 v41) != 1)then some false else((Ar4 K v42 v41).bind fun r43=>(bif r43 then(if(0:Int)≤v41∧v41<(v3.length:Int)then(bif ((gt v3 v41) != 1)then some false else(Ali K v40 v41 v42 (Aek K v2 v3 v16 n9)))else none)else(Ali K v40 v41 v42 (Aek K v2 v3 v16 n9)))))else none)else((Ar4 K v42 v41).bind fun r44=>(bif r44 then(if(0:Int)≤v41∧v41<(v3.length:Int)then(bif ((gt v3 v41) != 1)then some false else(Ali K v40 v41 v42 (Aek K v2 v3 v16 n9)))else none)else(Ali K v40 v41 v42 (Aek K v2 v3 v16 n9)))))else none)else some true)
def Ag6 (K:Nat)(v1:List Int)(v2:List Int)(v3:List Int)(v14:List Int)(v16:List Au):Nat->Int->Int->(List Int)->Option (Bool)
 |0,_,_,_=>none
 |n7+1,v37,v38,v39=>(bif (decide (v38<v37))then(if(0:Int)≤v38∧v38<(v14.length:Int)then(bif ((gt v14 v38)==2)then(if(0:Int)≤v38∧v38<(v1.length:Int)then(bif ((gt v1 v38) != 1)then some false else(Aq5 K v37 v38 v39 (Ag6 K v1 v2 v3 v14 v16 n7)))else none)else(Aq5 K v37 v38 v39 (Ag6 K v1 v2 v3 v14 v16 n7)))else none)else(Aek K v2 v3 v16 K (v16.length:Int) 0 v16))
def K0 (K:Nat):Nat->(List Int)->(List Int)->(List Int)->(List A1)->Int->Int->Int->Int->Int->Int->Int->Int->(List Int)->(List Int)->(List Int)->(List Au)->(List A1)->(List Int)->Option (Bool)
 |0,_,_,_,_,_,_,_,_,_,_,_,_,_,_,_,_,_,_=>none
 |n1+1,v1,v2,v3,v4,v5,v6,v7,v8,v9,v10,v11,v12,v13,v14,v15,v16,v17,v18=>(bif (decide (v6<v5))then(if(0:Int)≤v6∧v6<(v4.length:Int)then((Ayt K (Eb.mk v7 v8 v9 v10 v11 v12) (gt v4 v6)).bind fun r19=>(bif r19 then(bif (decide ((((gt v4 v6).Az).length:Int)>0))then(if(0:Int)≤0∧0<(((gt v4 v6).Az).length:Int)then((Asd K (Dp.mk v13 v14 v15) (Eb.mk v7 v8 v9 v10 v11 v12) (gt ((gt v4 v6).Az) 0)).bind fun r20=>(if(0:Int)≤0∧0≤((gt v4 v6).Xa)∧((gt v4 v6).Xa)≤(r20.length:Int)then((Auv K ((r20.drop (0:Int).toNat).take (((gt v4 v6).Xa) - 0).toNat)).bind fun r21=>(bif (!r21)then some false else(Apw K v1 v2 v3 v4 v5 v6 v7 v8 v9 v10 v11 v12 v13 v14 v15 v16 v17 v18 (K0 K n1) ((gt v4 v6).Bk) ((gt v4 v6).Eg) ((gt v4 v6).Fo) ((gt v4 v6).Az) ((gt v4 v6).Xa))))else none))else none)else(Apw K v1 v2 v3 v4 v5 v6 v7 v8 v9 v10 v11 v12 v13 v14 v15 v16 v17 v18 (K0 K n1) ((gt v4 v6).Bk) ((gt v4 v6).Eg) ((gt v4 v6).Fo) ((gt v4 v6).Az) ((gt v4 v6).Xa)))else some false))else none)else(Ag6 K v1 v2 v3 v14 v16 K (v14.length:Int) 0 v14))
def Asg (K:Nat)(a0:C8):Option (Bool):=(if(0:Int)≤a0.fC.Az∧a0.fC.Az≤a0.fC.Az∧(8:Int)*a0.fC.Az≤281474976710656∧a0.fC.Az≤9223372036854775807 then(if(0:Int)≤a0.fC.Fb∧a0.fC.Fb≤a0.fC.Fb∧(8:Int)*a0.fC.Fb≤281474976710656∧a0.fC.Fb≤9223372036854775807 then(if(0:Int)≤a0.fC.Fb∧a0.fC.Fb≤a0.fC.Fb∧(8:Int)*a0.fC.Fb≤281474976710656∧a0.fC.Fb≤9223372036854775807 then(K0 K K (List.replicate a0.fC.Az.toNat 0) (List.replicate a0.fC.Fb.toNat 0) (List.replicate a0.fC.Fb.toNat 0) a0.fQ (a0.fQ.length:Int) 0 a0.fC.Az a0.fC.Hi a0.fC.Fb a0.fC.G8 a0.fC.Fc a0.fC.Hj a0.fP.Pm a0.fP.Vt a0.fP.Pn a0.fL a0.fQ a0.Adf)else none)else none)else none)
def A24:=fd Tryz.func88 ⟨[.v 32],[.v 4],true⟩ (gC (Btu K) (gC (Bc7 K) (gC (Bjx K) (gC (Btt K) (gC (Bts K) gN))))) [38,39,40,44,45,105,106,150,151,169,170,175,176,177,181,182] [979,2003,3737,14951,29903]
def Bxj:El:=⟨[(1,.p 101),(3,.o 1003 3 true),(4,.o 1004 3 true),(5,.o 1005 3 true),(29,.v 30),(30,.v 2),(31,.v 2),(121,.v 26),(122,.v 2),(123,.v 2)],[(101,.box [.v 2,.v 2,.v 2,.v 2,.v 2,.v 2,.v 22,.v 26,.v 26,.v 29,.v 30,.v 26])]⟩
def Bkr:El:=⟨[(1,.p 101),(3,.o 1003 3 true),(4,.o 1004 3 true),(5,.o 1005 3 true),(7,.p 107),(29,.v 30),(30,.v 2),(31,.v 2)],[(107,.box [.v 2,.v 2,.v 26,.v 26,.v 2]),(101,.box [.v 2,.v 2,.v 2,.v 2,.v 2,.v 2,.v 22,.v 26,.v 26,.v 29,.v 30,.v 26])]⟩
def Bxk:El:=⟨[(1,.p 101),(3,.o 1003 3 true),(4,.o 1004 3 true),(5,.o 1005 3 true),(7,.p 107),(29,.v 30),(30,.v 2),(31,.v 2),(63,.v 26),(64,.v 2),(65,.v 2)],[(107,.box [.v 2,.v 2,.v 26,.v 26,.v 2]),(101,.box [.v 2,.v 2,.v 2,.v 2,.v 2,.v 2,.v 22,.v 26,.v 26,.v 29,.v 30,.v 26])]⟩
def Bex:El:=⟨[(1,.p 101),(3,.o 1003 3 true),(4,.o 1004 3 true),(5,.o 1005 3 true),(142,.v 26),(143,.v 2),(144,.v 2)],[(101,.box [.v 2,.v 2,.v 2,.v 2,.v 2,.v 2,.v 22,.v 26,.v 26,.v 29,.v 30,.v 26])]⟩
def Bey:El:=⟨[(1,.p 101),(4,.o 1004 3 true),(5,.o 1005 3 true),(160,.v 29),(161,.v 2),(162,.v 2)],[(101,.box [.v 2,.v 2,.v 2,.v 2,.v 2,.v 2,.v 22,.v 26,.v 26,.v 29,.v 30,.v 26])]⟩
def A25:El:=⟨[(1,.p 101),(3,.o 1003 3 true),(4,.o 1004 3 true),(5,.o 1005 3 true),(29,.v 30),(30,.v 2),(31,.v 2)],[(101,.box [.v 2,.v 2,.v 2,.v 2,.v 2,.v 2,.v 22,.v 26,.v 26,.v 29,.v 30,.v 26])]⟩
def A9o:=fun(C58:CT A25 _)=>lp (A24 K) 239230 Bxj [(58,ar A25 C58)] (fun n a b c d e f g h i j k l m o p q r s t u v=>Ak2 K d e f j k l m o p q r s t u v a b g C58 n c h i) (fun n=>kN)
def Bbe:=fun(C58:CT A25 _)=>jn (A24 K) 29903 Bkr [(58,ar A25 C58)] (fun a b c d e f _ h _ _ _ l m o p q r s t u v w x=>Apu K c d e f l m o p q r s t u v w x h a b C58) (kC (A9o K _ K) kN)
def Bbf:=fun(C58:CT A25 _)=>jn (A24 K) 14951 Bkr [(58,ar A25 C58)] (fun a b c d e f _ h _ _ _ l m o p q r s t u v w x=>Apv K c d e f l m o p q r s t u v w x h a C58 b) (kC (Bbe K _) kN)
def Bbg:=fun(C58:CT A25 _)=>lp (A24 K) 59802 Bxk [(58,ar A25 C58)] (fun n a b c d e f g h i j k _ m _ p q r s t u v w x y z a1=>Ak3 K b c d e f p q r s t u v w x y z a1 j k g C58 n a h i m) (fun n=>(kC (up (Bbf K _)) kN))
def Bdb:=fun(C58:CT A25 _)=>jn (A24 K) 3737 Bkr [(58,ar A25 C58)] (fun a b c d e f g h i j k l m o p q r s t u v w x=>Apw K a b c d e f l m o p q r s t u v w x C58 g h i j k) (kC (Bbg K _ K) kN)
def Bgh:=fun(C122:CT Bex _)=>jn (A24 K) 979 Bex [(122,ar Bex C122)] (fun a b c d e f g h i j k l m o p q r s=>Aq5 K e f o (fun v37 v38 v39=>C122 a b c d v37 v38 g h i j k l m v39 p q r s)) kN
def Bdc:=fun(C250:CT Bey _)=>jn (A24 K) 2003 Bey [(250,ar Bey C250)] (fun a b c d e f g h i j k l m o p q r=>Ali K d e p (fun v40 v41 v42=>C250 a b c v40 v41 f g h i j k l m o v42 q r)) kN
def Bgi:=lp (A24 K) 250 Bey [] (fun n a b c d e _ _ _ _ _ _ _ _ _ p _ _=>Aek K a b c n d e p) (fun n=>(kC (Bdc K _) kN))
def Bgj:=lp (A24 K) 122 Bex [] (fun n a b c d e f _ _ _ _ _ _ _ o _ q _ _=>Ag6 K a b c d q n e f o) (fun n=>(kC (Bgh K _) (kC (up (Bgi K K)) kN)))
def Bks:=lp (A24 K) 58 A25 [] (K0 K) (fun n=>(kC (Bdb K _) (kC (up (Bgj K K)) kN)))
def Btv:=ct (A24 K) (Asg K) (kC (Bks K K) kN)
def Avu (K:Nat)(a0:C8):Option (Bool):=((Azq K a0.fC a0.fP).bind fun r1=>(bif r1 then(bif ((a0.fL.length:Int)==a0.fC.Fb)then((Asf K a0).bind fun r2=>(bif r2 then((Azs K a0.fL).bind fun r3=>(bif r3 then((Asg K a0).bind fun r4=>(bif r4 then((Ar3 K a0.Adf).bind fun r5=>some r5)else some false))else some false))else some false))else some false)else some false))
def Btw:=ct (fd Tryz.func19 ⟨[.v 32],[.v 4],true⟩ (gC (Bsx K) (gC (Bto K) (gC (Btr K) (gC (Btv K) (gC (Bc9 K) gN))))) [7,8,15,16,17,19,20,21,24,25,26,28,29,30]) (Avu K)
def Axl (K:Nat)(a0:List Int):Option (Bool):=((A4a K a0).bind fun r1=>(bif r1 then some true else((Av8 K a0).bind fun r2=>((Axq K a0).bind fun r3=>((Av9 K a0).bind fun r4=>((A0y K r4.1).bind fun r5=>((Asc K r2.1 r2.2).bind fun r6=>((Awb K r2.1 r2.2).bind fun r7=>((Atk K r6 r7).bind fun r8=>(bif r8 then((Aqk K r3.1 r3.2).bind fun r9=>((Atm K r3.1 r3.2).bind fun r10=>((Atk K r9 r10).bind fun r11=>(bif (!r11)then some false else(bif ((r5.length:Int)==0)then some true else((A3v K a0 4).bind fun r12=>(if(r5.length:Int)≠(0:Int)then(if(0:Int)≤(Int.tmod r12 (r5.length:Int))∧(Int.tmod r12 (r5.length:Int))<(r5.length:Int)then((Asc K r4.1 (gt r5 (Int.tmod r12 (r5.length:Int)))).bind fun r13=>((Aqk K r4.1 (gt r5 (Int.tmod r12 (r5.length:Int)))).bind fun r14=>((Avu K r13).bind fun r15=>(bif r15 then((Avu K r14).bind fun r16=>(bif r16 then(bif ((r13.fQ.length:Int)==(An7 .i64 (r4.1.fQ.length:Int) 1))then(bif ((r14.fQ.length:Int)==(An7 .i64 (r4.1.fQ.length:Int) 1))then(if(0:Int)≤(gt r5 (Int.tmod r12 (r5.length:Int)))∧(gt r5 (Int.tmod r12 (r5.length:Int)))<(r13.fL.length:Int)then(bif (((gt r13.fL (gt r5 (Int.tmod r12 (r5.length:Int)))).Vt)==2)then(if(0:Int)≤(gt r5 (Int.tmod r12 (r5.length:Int)))∧(gt r5 (Int.tmod r12 (r5.length:Int)))<(r14.fL.length:Int)then(bif (((gt r14.fL (gt r5 (Int.tmod r12 (r5.length:Int)))).Vt)==1)then(if(0:Int)≤(gt r5 (Int.tmod r12 (r5.length:Int)))∧(gt r5 (Int.tmod r12 (r5.length:Int)))<(r14.fL.length:Int)then(if(0:Int)≤(gt r5 (Int.tmod r12 (r5.length:Int)))∧(gt r5 (Int.tmod r12 (r5.length:Int)))<(r4.1.fL.length:Int)then(bif (((gt r14.fL (gt r5 (Int.tmod r12 (r5.length:Int)))).S5)==(An7 .i64 ((gt r4.1.fL (gt r5 (Int.tmod r12 (r5.length:Int)))).S5) 1))then(if(0:Int)≤(r4.1.fQ.length:Int)∧(r4.1.fQ.length:Int)<(r13.fQ.length:Int)then(bif (((gt r13.fQ (r4.1.fQ.length:Int)).Bk)==(An7 .i64 (gt r5 (Int.tmod r12 (r5.length:Int))) 1))then(if(0:Int)≤(r4.1.fQ.length:Int)∧(r4.1.fQ.length:Int)<(r14.fQ.length:Int)then(bif (((gt r14.fQ (r4.1.fQ.length:Int)).Bk)==0)then some ((r13.Adf.length:Int)==(r4.1.Adf.length:Int))else some false)else none)else some false)else none)else some false)else none)else none)else some false)else none)else some false)else none)else some false)else some false)else some false))else some false))))else none)else none)))))))else some false))))))))))
def Btx:=ct (fd Tryz.func3 ⟨[.v 22],[.v 4],true⟩ (gC (Bx0 K) (gC (Br5 K) (gC (Br6 K) (gC (Br8 K) (gC (Bsa K) (gC (Bsp K) (gC (Bsi K) (gC (Bsj K) (gC (Bsr K) (gC (Bss K) (gC (Bst K) (gC (Btw K) gN)))))))))))) [39,40,41,72,73,75,76,77,83,84,85,91,92,93,100,101,102,109,110,111,125,126,127,136,137,138,145,146,147] [] [(12,[.frz 20896,.frz 20897,.frz 20898,.frz 20899,.frz 20900,.frz 20901])]) (Axl K)
end
end Go.Proofs.YtcdojenmonmcfaaGreat
