/- What the functions compute that FnOwed reaches, and that they do; no condition. Printed by gen4.py. -/
import Derived.Test.YtplfjgdlpbdojaaGreatFSrt
set_option linter.all false
set_option maxRecDepth 20000
namespace Go.Proofs.YtplfjgdlpbdojaaGreat
open Go.Eng
noncomputable section
abbrev PT (h:Ef):Type:=Ae tyU h.codes
abbrev Rt (s:Sig):Type:=Option (Aq tyU s.codes)
def FnP (R:Type):List TC->Type
 |[]=>R
 |c::l=>c.T tyU->FnP R l
noncomputable def unc{R:Type}:(l:List TC)->FnP R l->Ae tyU l->R
 |[],f,_=>f
 |_::l,f,q=>unc l (f q.1) q.2
abbrev CT (h:Ef)(s:Sig):Type:=FnP (Rt s) h.codes
noncomputable abbrev ar{s:Sig}(h:Ef)(M:CT h s):SS Ar->Rt s:=arr tyU tab h (unc h.codes M)
abbrev OkF (f:FuncId)(c:Fe tyU):Prop:=Fe.Ok tyU Tryz.prog f c∧Ed Tryz.prog f
theorem Bxv:Tryz.prog.follows .mixedOrders=true:=by kernel_rfl
structure FD (f:FuncId)(s:Sig) where
 fn:Func
 hf:Tryz.prog.funcs[f]? =some fn
 G:List (Nat×Fe tyU)
 g: ∀f c,lk G f=some c->OkF f c
 O:List (Nat×List (Nat×Fe tyU))
 o: ∀d l,lk O d=some l-> ∀f c,lk l f=some c->OkF f c
 spl:List Nat
 js:List Nat
 pre:List (Nat×List Cmd)
 post:List (Nat×List Cmd)
noncomputable abbrev fo{f:FuncId}{fn:Func}(hf:Tryz.prog.funcs[f]? =some fn)(s:Sig){G:List (Nat×Fe tyU)}(g: ∀f c,lk G f=some c->OkF f c){O:List (Nat×List (Nat×Fe tyU))}(o: ∀d l,lk O d=some l-> ∀f c,lk l f=some c->OkF f c)(spl:List Nat:=[])(js:List Nat:=[])(pre:List (Nat×List Cmd):=[])(post:List (Nat×List Cmd):=[]):FD f s:=⟨fn,hf,G,g,O,o,spl,js,pre,post⟩
noncomputable abbrev fd{f:FuncId}{fn:Func}(hf:Tryz.prog.funcs[f]? =some fn)(s:Sig){G:List (Nat×Fe tyU)}(g: ∀f c,lk G f=some c->OkF f c)(spl:List Nat:=[])(js:List Nat:=[])(pre:List (Nat×List Cmd):=[])(post:List (Nat×List Cmd):=[]):FD f s:=⟨fn,hf,G,g,[],oN,spl,js,pre,post⟩
section
variable {f:FuncId} {s:Sig}
noncomputable abbrev FD.b (X:FD f s):Code:=X.fn.body.getD .skip
noncomputable def FD.x (X:FD f s)(L B:Λt tyU s):Ox tyU (Aq tyU s.codes):=⟨X.G,X.O,eqT eqs,X.fn.ntmps,X.spl,X.pre,X.post,X.js,L,B,Aev tyU tab s X.fn.results.toList⟩
abbrev CuX (X:FD f s):Λt tyU s->Nat->(SS Ar->Rt s)->Prop:=Cut tyU tab Tryz.prog X.fn.results.toList s X.fn.ntmps X.js X.b
abbrev CsX (X:FD f s):Λt tyU s->Λt tyU s->Prop:=U8 tyU tab Tryz.prog X.fn.results.toList s X.fn.ntmps X.js X.b
theorem xo (X:FD f s):XOk tyU tab Tryz.prog X.fn.results.toList s X.fn.ntmps X.js X.x:=xok Apq Bxv X.g X.o Aop
theorem lp (X:FD f s)(p:Nat)(h:Ef)(B:Λt tyU s)(M:Nat->CT h s){L:Nat->Λt tyU s}(hc: ∀n,CsX X ((p,ar h (M n))::B) (L n))(e: ∀n q,unc h.codes (M (n+1)) q=Aet tyU tab (X.x (L n) ((p,ar h (M n))::B)) X.b (2*p) (h.emb tyU q):=by intro n q;kernel_rfl)(hp:Nat.ble 1 p=true:=by rfl)(hk:Si X.js X.b p=true:=by kernel_rfl)(e0: ∀q,unc h.codes (M 0) q=none:=by intro q;rfl)(n:Nat):CuX X B p (ar h (M n)):=Alo (M:=fun n=>unc h.codes (M n)) (xo X) hp hk e0 e hc n
theorem jn (X:FD f s)(p:Nat)(h:Ef)(B:Λt tyU s)(M:CT h s){L:Λt tyU s}(hc:CsX X B L)(e: ∀q,unc h.codes M q=Aet tyU tab (X.x L B) X.b (2*p+1) (h.emb tyU q):=by intro q;kernel_rfl)(hp:Nat.ble 1 p=true:=by rfl):CuX X B p (ar h M):=Aln (xo X) hp e hc
theorem up{X:FD f s}{B:Λt tyU s}{p x:Nat}{F G:SS Ar->Rt s}(h:CuX X B p F)(hn:Alp X.js X.b p x=true:=by kernel_rfl):CuX X ((x,G)::B) p F:=An2 hn h
theorem ct (X:FD f s)(m:Vs tyU s.ps (Rt s)){L:Λt tyU s}(hc:CsX X [] L:=by exact kN)(e:Ud tyU tab (X.x L []) X.b s.ps 0 [] [] m:=by(repeat intro _);show @Eq _ _ _;kernel_rfl)(hs:Wg tyU s.ps:=by(repeat (refine⟨fun _=>rfl,?_⟩));exact trivial)(h1:(X.fn.name== "runtime.NumGoroutine")=false:=by rfl)(h2:X.fn.body=some X.b:=by rfl)(h5:Nat.ble s.ps.length X.fn.ntmps=true:=by rfl)(h6:Nat.ble (A5 s.ps+1) 100=true:=by rfl)(h7:Nat.ble X.fn.results.toList.length 4=true:=by rfl):OkF f ⟨s,m⟩:=An1 (xo X) Aoo e hc X.hf h1 h2 (Array.toArray_toList).symm rfl h5 h6 h7 hs
end
variable (K:Nat)
def A3c (K:Nat)(a0:List Int):Option (Bool):=some (decide ((a0.length:Int)>1048576))
def Bxx:=ct (fd Tryz.func6 ⟨[.v 22],[.v 4],true⟩ gN) (A3c K)
def At3 (K:Nat)(a0:List Int):Nat->Int->Int->Option (Dt)
 |0,_,_=>none
 |n1+1,v1,v2=>(bif (decide (v2<(a0.length:Int)))then(bif (decide (v2<4000))then(if(0:Int)≤v2∧v2<(a0.length:Int)then(At3 K a0 n1 (Anc .i64 (Am9 .i64 (Am9 .i64 (Anb .i64 v1 137) (IntKind.i64.wrap (gt a0 v2))) 11) 1073741823) (Am9 .i64 v2 1))else none)else some (Dt.mk a0 0 v1))else some (Dt.mk a0 0 v1))
def Ay5 (K:Nat)(a0:List Int):Option (Dt):=(At3 K a0 K (Am9 .i64 161416 (a0.length:Int)) 0)
def X_1:=fd Tryz.func29 ⟨[.v 22],[.p 99 false],false⟩ gN [11,12]
def h_0:Ef:=⟨[(0,.v 22),(3,.v 2),(4,.v 2)],[]⟩
def Brb:=lp X_1 58 h_0 [] (fun n a=>At3 K a n) (fun n=>kN)
def Bxy:=ct X_1 (Ay5 K) (kC (Brb K K) kN)
def Au4 (K:Nat)(a0:List Int)(a1:Int):Option (Int):=(if 12≠(0:Int)then(bif (decide ((Am9 .i64 3 (Akr .i64 (a0.length:Int) 12))>a1))then some a1 else some (Am9 .i64 3 (Akr .i64 (a0.length:Int) 12)))else none)
def Bxz:=ct (fd Tryz.func31 ⟨[.v 22,.v 3],[.v 3],true⟩ gN) (Au4 K)
def Avk (K:Nat)(v1:Int)(v2:List Int)(v3:Int)(v4:Int):Option (Int×Dt):=some (v1,(Dt.mk v2 v3 v4))
def Aqb (K:Nat)(a0:Dt):Option (Int×Dt):=(if(0:Int)≤33 then(if(0:Int)≤47 then(bif (decide (a0.fi<(a0.fb.length:Int)))then(if(0:Int)≤a0.fi∧a0.fi<(a0.fb.length:Int)then(Avk K (Anc .i64 (Am9 .i64 (Anc .i64 (Ane .i64 (Akq .i64 (Am9 .i64 (Anb .i64 a0.fh 6364136223846793005) 1442695040888963407) 33) (Akq .i64 (Am9 .i64 (Anb .i64 a0.fh 6364136223846793005) 1442695040888963407) 47)) 255) (IntKind.i64.wrap (gt a0.fb a0.fi))) 255) a0.fb (Am9 .i64 a0.fi 1) (Am9 .i64 (Anb .i64 a0.fh 6364136223846793005) 1442695040888963407))else none)else(Avk K (Anc .i64 (Ane .i64 (Akq .i64 (Am9 .i64 (Anb .i64 a0.fh 6364136223846793005) 1442695040888963407) 33) (Akq .i64 (Am9 .i64 (Anb .i64 a0.fh 6364136223846793005) 1442695040888963407) 47)) 255) a0.fb a0.fi (Am9 .i64 (Anb .i64 a0.fh 6364136223846793005) 1442695040888963407)))else none)else none)
def X_3:=fd Tryz.func123 ⟨[.b 99 false],[.v 3],false⟩ gN [] [15]
def h_1:Ef:=⟨[(3,.v 2)],[(1,.box [.v 22,.v 2,.v 2])]⟩
def Brc:=jn X_3 15 h_1 [] (Avk K) kN
def Buy:=ct X_3 (Aqb K) (kC (Brc K) kN)
def P2 (K:Nat)(a0:Dt)(a1:Int):Option (Int×Dt):=(bif (decide (a1≤0))then some (0,a0)else(bif (decide (a1≤256))then((Aqb K a0).bind fun r1=>(if a1≠(0:Int)then some ((Int.tmod r1.1 a1),r1.2)else none))else((Aqb K a0).bind fun r2=>((Aqb K r2.2).bind fun r3=>((Aqb K r3.2).bind fun r4=>(if a1≠(0:Int)then some ((Int.tmod (Am9 .i64 (Am9 .i64 (Anb .i64 r2.1 65536) (Anb .i64 r3.1 256)) r4.1) a1),r4.2)else none))))))
def Bcj:=ct (fd Tryz.func71 ⟨[.b 99 false,.v 3],[.v 3],false⟩ (gC (Buy K) gN)) (P2 K)
def Apj (K:Nat)(a0:Dt)(a1:List Int):Option (Int×Dt×(List Int)):=((P2 K a0 (a1.length:Int)).bind fun r1=>(if(0:Int)≤r1.1∧r1.1<(a1.length:Int)then some ((gt a1 r1.1),r1.2,a1)else none))
def Brd:=ct (fd Tryz.func73 ⟨[.b 99 false,.w 26 true [(3,true)]],[.v 3],false⟩ (gC (Bcj K) gN)) (Apj K)
def Ax9 (K:Nat)(a0:Dt):Option (D4×Dt):=((P2 K a0 11).bind fun r1=>((Apj K r1.2 ([8,8,9,12,16]:List Int)).bind fun r2=>(if r2.2.2.length=([8,8,9,12,16]:List Int).length then((P2 K r2.2.1 7).bind fun r3=>((P2 K r3.2 6).bind fun r4=>((Apj K r4.2 ([1,3,4,8,16]:List Int)).bind fun r5=>(if r5.2.2.length=([1,3,4,8,16]:List Int).length then((P2 K r5.2.1 4).bind fun r6=>some ((D4.mk (Am9 .i64 2 r1.1) r2.1 (Am9 .i64 2 r3.1) (Am9 .i64 1 r4.1) r5.1 (Am9 .i64 1 r6.1)),r6.2))else none))))else none)))
def Bx0:=ct (fd Tryz.func105 ⟨[.b 99 false],[.v 25],false⟩ (gC (Bcj K) (gC (Brd K) gN))) (Ax9 K)
def Gy (K:Nat)(a0:Int)(a1:Int)(a2:Int):Option (Bool):=(bif (decide (a0≥a1))then some (decide (a0≤a2))else some false)
def A0t:=ct (fd Tryz.func124 ⟨[.v 3,.v 3,.v 3],[.v 4],true⟩ gN [9,10]) (Gy K)
def Am2 (K:Nat)(a0:D4):Option (Bool):=((Gy K a0.A6 2 12).bind fun r1=>(bif r1 then((Gy K a0.Kh 8 16).bind fun r2=>(bif r2 then((Gy K a0.Fj 2 8).bind fun r3=>(bif r3 then((Gy K a0.Hb 1 8).bind fun r4=>(bif r4 then((Gy K a0.Fk 1 16).bind fun r5=>(bif r5 then((Gy K a0.Ki 1 4).bind fun r6=>some r6)else some false))else some false))else some false))else some false))else some false))
def Baj:=ct (fd Tryz.func141 ⟨[.v 25],[.v 4],true⟩ (gC (A0t K) gN) [5,6,9,10,11,14,15,16,19,20,21,24,25,26]) (Am2 K)
def Aqn (K:Nat)(a0:D4):Option (Int):=((Am2 K a0).bind fun r1=>(bif (!r1)then some 0 else some (Anb .i64 a0.A6 a0.Kh)))
def Bm8:=ct (fd Tryz.func180 ⟨[.v 25],[.v 3],true⟩ (gC (Baj K) gN)) (Aqn K)
def A1d (K:Nat)(a0:Int):Option ((List Int)):=((Gy K a0 0 4096).bind fun r1=>(bif (!r1)then some ([]:List Int)else(if(0:Int)≤a0∧a0≤a0∧(1:Int)*a0≤281474976710656∧a0≤9223372036854775807 then some (List.replicate a0.toNat 0)else none)))
def Buz:=ct (fd Tryz.func179 ⟨[.v 3],[.n 22 true],true⟩ (gC (A0t K) gN)) (A1d K)
def Ar1 (K:Nat)(a0:D4):Nat->Int->Dh->Dh->Option (Dh)
 |0,_,_,_=>none
 |n1+1,v4,v5,v6=>(bif (decide (v4<a0.A6))then(if(v5.Yq++([0]:List Int)).length*8≤140737488355328∧(v5.Yq++([0]:List Int)).length≤maxLen then(if(v5.Sl++([(-1)]:List Int)).length*8≤140737488355328∧(v5.Sl++([(-1)]:List Int)).length≤maxLen then(Ar1 K a0 n1 (Am9 .i64 v4 1) (Dh.mk v5.Sk (v5.Yq++([0]:List Int)) (v5.Sl++([(-1)]:List Int))) v6)else none)else none)else some v5)
def Awz (K:Nat)(a0:D4):Option (Dh):=((Am2 K a0).bind fun r1=>(bif (!r1)then some (Dh.mk [] [] [])else((Aqn K a0).bind fun r2=>((A1d K r2).bind fun r3=>(Ar1 K a0 K 0 (Dh.mk r3 [] []) (Dh.mk [] [] []))))))
def Bu0:=fd Tryz.func142 ⟨[.v 25],[.n 28 true],true⟩ (gC (Baj K) (gC (Buz K) (gC (Bm8 K) gN))) [] [] [(3,[.take 103 0 6648,.take 103 1 6649,.take 103 2 6650]),(8,[.take 103 1 6649]),(9,[.take 103 2 6650]),(10,[.take 103 0 6648,.take 103 1 6649,.take 103 2 6650])]
def h_2:Ef:=⟨[(1,.p 101),(2,.p 102),(3,.p 103),(4,.v 2)],[(103,.st 28 true),(102,.st 28 true),(101,.st 25 true)]⟩
def Bhm:=lp (Bu0 K) 250 h_2 [] (fun n a b c d=>Ar1 K d n a b c) (fun n=>kN)
def Bu1:=ct (Bu0 K) (Awz K) (kC (Bhm K K) kN)
def Aqo (K:Nat)(a0:Int):Option (A8):=some (A8.mk 0 a0 0 0 0 0 0 0 [] 0 0 [] [])
def Bhn:=ct (fd Tryz.func181 ⟨[.v 3],[.n 71 true],true⟩ gN) (Aqo K)
def Ard (K:Nat)(a0:D4):Nat->(List A8)->Int->Option ((List A8))
 |0,_,_=>none
 |n1+1,v1,v2=>(bif (decide (v2<a0.Fj))then((Am2 K a0).bind fun r3=>(bif r3 then((Aqo K 1).bind fun r4=>(if(v1++[r4]).length*152≤140737488355328∧(v1++[r4]).length≤maxLen then(Ard K a0 n1 (v1++[r4]) (Am9 .i64 v2 1))else none))else some v1))else some v1)
def Ayv (K:Nat)(a0:D4):Option ((List A8)):=(Ard K a0 K ([]:List A8) 0)
def Bu2:=fd Tryz.func143 ⟨[.v 25],[.n 29 true],true⟩ (gC (Baj K) (gC (Bhn K) gN)) [9,10] [] [] [(18,[.put 3018])]
def h_3:Ef:=⟨[(1,.p 101),(3,.o 1003 71 true),(4,.v 2)],[(101,.st 25 true)]⟩
def Bm9:=lp (Bu2 K) 58 h_3 [] (fun n a b c=>Ard K c n a b) (fun n=>kN)
def Bu3:=ct (Bu2 K) (Ayv K) (kC (Bm9 K K) kN)
def Avl (K:Nat)(a0:D4):Option (Ds):=((Am2 K a0).bind fun r1=>(bif (!r1)then some (Ds.mk (D4.mk 0 0 0 0 0 0) (Dh.mk [] [] []) [] [] [])else((Awz K a0).bind fun r2=>((Ayv K a0).bind fun r3=>some (Ds.mk a0 r2 r3 [] [])))))
def Bu4:=ct (fd Tryz.func106 ⟨[.v 25],[.n 32 true],true⟩ (gC (Baj K) (gC (Bu1 K) (gC (Bu3 K) gN)))) (Avl K)
def Agf (K:Nat)(a0:List A8)(a1:Int):Option (Bool):=(bif (decide (a1≥1))then some (decide (a1≤(a0.length:Int)))else some false)
def A48:=ct (fd Tryz.func139 ⟨[.v 29,.v 3],[.v 4],true⟩ gN [6,7]) (Agf K)
def Au5 (K:Nat)(a0:List A8):Nat->Int->(List Int)->Option ((List Int))
 |0,_,_=>none
 |n1+1,v1,v2=>((Agf K a0 (Am9 .i64 v1 1)).bind fun r3=>(bif r3 then(bif (decide ((v2.length:Int)<(a0.length:Int)))then(if(v2++([v1]:List Int)).length*8≤140737488355328∧(v2++([v1]:List Int)).length≤maxLen then(if(0:Int)≤v1∧v1<(a0.length:Int)then(Au5 K a0 n1 (Ana .i64 ((gt a0 v1).fUp) 1) (v2++([v1]:List Int)))else none)else none)else some v2)else some v2))
def Awq (K:Nat)(a0:List A8)(a1:Int):Option ((List Int)):=(Au5 K a0 K a1 ([]:List Int))
def Bu5:=fd Tryz.func102 ⟨[.v 29,.v 3],[.n 26 true],true⟩ (gC (A48 K) gN) [10,11]
def h_4:Ef:=⟨[(0,.v 29),(1,.v 2),(5,.o 1005 3 true)],[]⟩
def Bna:=lp (Bu5 K) 28 h_4 [] (fun n a=>Au5 K a n) (fun n=>kN)
def Bho:=ct (Bu5 K) (Awq K) (kC (Bna K K) kN)
def Are (K:Nat)(a0:List A8)(a1:Int):Option (Bool):=(if(0:Int)≤a1∧a1<(a0.length:Int)then((Agf K a0 ((gt a0 a1).fUp)).bind fun r1=>(bif r1 then(if(0:Int)≤(Ana .i64 ((gt a0 a1).fUp) 1)∧(Ana .i64 ((gt a0 a1).fUp) 1)<(a0.length:Int)then(bif (((gt a0 (Ana .i64 ((gt a0 a1).fUp) 1)).Yq)==1)then(if(0:Int)≤(Ana .i64 ((gt a0 a1).fUp) 1)∧(Ana .i64 ((gt a0 a1).fUp) 1)<(a0.length:Int)then(if(0:Int)≤a1∧a1<(a0.length:Int)then some (((gt a0 (Ana .i64 ((gt a0 a1).fUp) 1)).Sy)==((gt a0 a1).Wk))else none)else none)else some false)else none)else some false))else none)
def Bhp:=ct (fd Tryz.func103 ⟨[.v 29,.v 3],[.v 4],true⟩ (gC (A48 K) gN) [13,14,21,22,23]) (Are K)
def Aw0 (K:Nat)(v2:Int)(C1:Int->Option (Bool)):Option (Bool):=(C1 (Am9 .i64 v2 1))
def Ar2 (K:Nat)(a0:List A8)(r1:(List Int)):Nat->Int->Option (Bool)
 |0,_=>none
 |n1+1,v2=>(bif (decide (v2<(r1.length:Int)))then(if(0:Int)≤v2∧v2<(r1.length:Int)then(if(0:Int)≤(gt r1 v2)∧(gt r1 v2)<(a0.length:Int)then(bif (((gt a0 (gt r1 v2)).Yq) != 1)then some false else(bif (decide ((Am9 .i64 v2 1)<(r1.length:Int)))then(if(0:Int)≤v2∧v2<(r1.length:Int)then((Are K a0 (gt r1 v2)).bind fun r3=>(bif (!r3)then some false else(Aw0 K v2 (Ar2 K a0 r1 n1))))else none)else(Aw0 K v2 (Ar2 K a0 r1 n1))))else none)else none)else(bif (decide ((r1.length:Int)>0))then(if(0:Int)≤(Ana .i64 (r1.length:Int) 1)∧(Ana .i64 (r1.length:Int) 1)<(r1.length:Int)then(if(0:Int)≤(gt r1 (Ana .i64 (r1.length:Int) 1))∧(gt r1 (Ana .i64 (r1.length:Int) 1))<(a0.length:Int)then some (((gt a0 (gt r1 (Ana .i64 (r1.length:Int) 1))).fUp)==0)else none)else none)else some false))
def Aup (K:Nat)(a0:List A8)(a1:Int):Option (Bool):=((Awq K a0 a1).bind fun r1=>(Ar2 K a0 r1 K 0))
def Bre:=fd Tryz.func48 ⟨[.v 29,.v 3],[.v 4],true⟩ (gC (Bho K) (gC (Bhp K) gN)) [24,25,30,31,43,44] [233]
def h_5:Ef:=⟨[(0,.v 29),(5,.v 26),(6,.v 2)],[]⟩
def Bhq:=fun(C58:CT h_5 _)=>jn (Bre K) 233 h_5 [(58,ar h_5 C58)] (fun a b c=>Aw0 K c (C58 a b)) kN
def Bnb:=lp (Bre K) 58 h_5 [] (fun n a b=>Ar2 K a b n) (fun n=>(kC (Bhq K _) kN))
def Bhr:=ct (Bre K) (Aup K) (kC (Bnb K K) kN)
def Ape (K:Nat)(v2:Int)(v3:Int)(v4:Int)(v5:Int)(v6:Int)(v7:Int)(v8:Int)(v9:List Int)(v10:List Int)(v11:List Int)(v12:List A8)(v13:List Av)(v14:List Int)(C1:(List Int)->Int->Int->Int->Int->Int->Int->Int->(List Int)->(List Int)->(List Int)->(List A8)->(List Av)->(List Int)->Option ((List Int)))(v16:List Int):Option ((List Int)):=(C1 v16 (Am9 .i64 v2 1) v3 v4 v5 v6 v7 v8 v9 v10 v11 v12 v13 v14)
def Aoc (K:Nat):Nat->(List Int)->Int->Int->Int->Int->Int->Int->Int->(List Int)->(List Int)->(List Int)->(List A8)->(List Av)->(List Int)->Option ((List Int))
 |0,_,_,_,_,_,_,_,_,_,_,_,_,_,_=>none
 |n1+1,v1,v2,v3,v4,v5,v6,v7,v8,v9,v10,v11,v12,v13,v14=>(bif (decide (v2<(v12.length:Int)))then((Aup K v12 v2).bind fun r15=>(bif r15 then(if(v1++([v2]:List Int)).length*8≤140737488355328∧(v1++([v2]:List Int)).length≤maxLen then(Ape K v2 v3 v4 v5 v6 v7 v8 v9 v10 v11 v12 v13 v14 (Aoc K n1) (v1++([v2]:List Int)))else none)else(Ape K v2 v3 v4 v5 v6 v7 v8 v9 v10 v11 v12 v13 v14 (Aoc K n1) v1)))else some v1)
def Ar3 (K:Nat)(a0:Ds):Option ((List Int)):=(Aoc K K ([]:List Int) 0 a0.fC.A6 a0.fC.Kh a0.fC.Fj a0.fC.Hb a0.fC.Fk a0.fC.Ki a0.fP.Sk a0.fP.Yq a0.fP.Sl a0.fL a0.fQ a0.Afv)
def Brf:=fd Tryz.func17 ⟨[.v 32],[.n 26 true],true⟩ (gC (Bhr K) gN) [] [233]
def h_6:Ef:=⟨[(1,.p 101),(3,.o 1003 3 true),(4,.v 2)],[(101,.box [.v 2,.v 2,.v 2,.v 2,.v 2,.v 2,.v 22,.v 26,.v 26,.v 29,.v 30,.v 26])]⟩
def Bhs:=fun(C58:CT h_6 _)=>jn (Brf K) 233 h_6 [(58,ar h_6 C58)] (fun a b c d e f g h i j k l m o=>Ape K b c d e f g h i j k l m o C58 a) kN
def Bnc:=lp (Brf K) 58 h_6 [] (Aoc K) (fun n=>(kC (Bhs K _) kN))
def Bht:=ct (Brf K) (Ar3 K) (kC (Bnc K K) kN)
def Aqc (K:Nat)(a0:Dt)(a1:Int):Option (Bool×Dt):=((P2 K a0 a1).bind fun r1=>some ((r1.1==0),r1.2))
def Bpr:=ct (fd Tryz.func69 ⟨[.b 99 false,.v 3],[.v 4],false⟩ (gC (Bcj K) gN)) (Aqc K)
def Avm (K:Nat)(a0:Dt):Option (Bo×Dt):=((P2 K a0 5).bind fun r1=>((P2 K r1.2 3).bind fun r2=>some ((Bo.mk r1.1 (Am9 .i64 1 r2.1)),r2.2)))
def Bu6:=ct (fd Tryz.func122 ⟨[.b 99 false],[.v 34],false⟩ (gC (Bcj K) gN)) (Avm K)
def Ar4 (K:Nat)(a1:Int):Nat->(List Int)->Int->(List Int)->Int->Int->Option ((List Int)×Dt)
 |0,_,_,_,_,_=>none
 |n1+1,v1,v2,v3,v4,v5=>(bif (decide (v2<a1))then((Aqb K (Dt.mk v3 v4 v5)).bind fun r6=>(if(v1++([(IntKind.u8.wrap r6.1)]:List Int)).length*1≤140737488355328∧(v1++([(IntKind.u8.wrap r6.1)]:List Int)).length≤maxLen then(Ar4 K a1 n1 (v1++([(IntKind.u8.wrap r6.1)]:List Int)) (Am9 .i64 v2 1) r6.2.fb r6.2.fi r6.2.fh)else none))else some (v1,(Dt.mk v3 v4 v5)))
def Aw1 (K:Nat)(a0:Dt)(a1:Int):Option ((List Int)×Dt):=(Ar4 K a1 K ([]:List Int) 0 a0.fb a0.fi a0.fh)
def Bu7:=fd Tryz.func74 ⟨[.b 99 false,.v 3],[.n 22 true],false⟩ (gC (Buy K) gN)
def h_7:Ef:=⟨[(0,.p 1),(1,.v 2),(5,.o 1005 5 true),(6,.v 2)],[(1,.box [.v 22,.v 2,.v 2])]⟩
def Bnd:=lp (Bu7 K) 58 h_7 [] (fun n a=>Ar4 K a n) (fun n=>kN)
def Bps:=ct (Bu7 K) (Aw1 K) (kC (Bnd K K) kN)
def Amk (K:Nat)(v6:List Int)(v7:Int)(v8:Int)(v9:Cm)(v10:Cm):Option (Cm×Dt):=some (v9,(Dt.mk v6 v7 v8))
def Aqh (K:Nat)(v11:Int)(v12:Bool)(v13:List Int)(v14:Int)(v15:Int)(v16:Dy)(v17:Bo)(v18:Cm)(v19:Cm):Option (Cm×Dt):=(bif v12 then(Amk K v13 v14 v15 (Cm.mk v18.Wp v17 v18.fR v18.fN v18.fM v18.fB) v19)else(bif (v11==2)then((Apj K (Dt.mk v13 v14 v15) ([1,2,3,5,8,9,17,20,0,201]:List Int)).bind fun r20=>(if r20.2.2.length=([1,2,3,5,8,9,17,20,0,201]:List Int).length then((Apj K r20.2.1 ([1,1,2,4,3]:List Int)).bind fun r21=>(if r21.2.2.length=([1,1,2,4,3]:List Int).length then(Amk K r21.2.1.fb r21.2.1.fi r21.2.1.fh (Cm.mk v18.Wp v17 v18.fR r20.1 r21.1 v18.fB) v19)else none))else none))else(bif (v11==3)then((P2 K (Dt.mk v13 v14 v15) 4).bind fun r22=>((P2 K r22.2 5).bind fun r23=>(Amk K r23.2.fb r23.2.fi r23.2.fh (Cm.mk v18.Wp v18.fH v16 r22.1 r23.1 v18.fB) v19)))else(bif (v11==4)then((P2 K (Dt.mk v13 v14 v15) 4).bind fun r24=>((P2 K r24.2 4).bind fun r25=>((Aw1 K r25.2 r25.1).bind fun r26=>(Amk K r26.2.fb r26.2.fi r26.2.fh (Cm.mk v18.Wp v18.fH v16 r24.1 v18.fM r26.1) v19))))else(bif (v11==5)then((Apj K (Dt.mk v13 v14 v15) ([1,7,255,256]:List Int)).bind fun r27=>(if r27.2.2.length=([1,7,255,256]:List Int).length then(Amk K r27.2.1.fb r27.2.1.fi r27.2.1.fh (Cm.mk v18.Wp v17 v18.fR r27.1 v18.fM v18.fB) v19)else none))else(Amk K v13 v14 v15 v18 v19))))))
def At4 (K:Nat)(a0:Dt):Option (Cm×Dt):=((P2 K a0 9).bind fun r1=>((Avm K r1.2).bind fun r2=>((P2 K r2.2 2).bind fun r3=>((P2 K r3.2 3).bind fun r4=>(bif ((Am9 .i64 1 r1.1)==1)then((Aqc K r4.2 2).bind fun r5=>(bif r5.1 then(Amk K r5.2.fb r5.2.fi r5.2.fh (Cm.mk (Am9 .i64 1 r1.1) r2.1 (Dy.mk (Bo.mk 0 0) 0 0) 0 0 []) (Cm.mk 0 (Bo.mk 0 0) (Dy.mk (Bo.mk 0 0) 0 0) 0 0 []))else(Amk K r5.2.fb r5.2.fi r5.2.fh (Cm.mk (Am9 .i64 1 r1.1) (Bo.mk 0 0) (Dy.mk (Bo.mk 0 0) 0 0) 0 0 []) (Cm.mk 0 (Bo.mk 0 0) (Dy.mk (Bo.mk 0 0) 0 0) 0 0 []))))else(bif ((Am9 .i64 1 r1.1)==6)then(Aqh K (Am9 .i64 1 r1.1) ((Am9 .i64 1 r1.1)==6) r4.2.fb r4.2.fi r4.2.fh (Dy.mk r2.1 r3.1 r4.1) r2.1 (Cm.mk (Am9 .i64 1 r1.1) (Bo.mk 0 0) (Dy.mk (Bo.mk 0 0) 0 0) 0 0 []) (Cm.mk 0 (Bo.mk 0 0) (Dy.mk (Bo.mk 0 0) 0 0) 0 0 []))else(bif ((Am9 .i64 1 r1.1)==7)then(Aqh K (Am9 .i64 1 r1.1) ((Am9 .i64 1 r1.1)==7) r4.2.fb r4.2.fi r4.2.fh (Dy.mk r2.1 r3.1 r4.1) r2.1 (Cm.mk (Am9 .i64 1 r1.1) (Bo.mk 0 0) (Dy.mk (Bo.mk 0 0) 0 0) 0 0 []) (Cm.mk 0 (Bo.mk 0 0) (Dy.mk (Bo.mk 0 0) 0 0) 0 0 []))else(Aqh K (Am9 .i64 1 r1.1) ((Am9 .i64 1 r1.1)==8) r4.2.fb r4.2.fi r4.2.fh (Dy.mk r2.1 r3.1 r4.1) r2.1 (Cm.mk (Am9 .i64 1 r1.1) (Bo.mk 0 0) (Dy.mk (Bo.mk 0 0) 0 0) 0 0 []) (Cm.mk 0 (Bo.mk 0 0) (Dy.mk (Bo.mk 0 0) 0 0) 0 0 [])))))))))
def Brg:=fd Tryz.func70 ⟨[.b 99 false],[.n 38 true],false⟩ (gC (Bpr K) (gC (Bcj K) (gC (Brd K) (gC (Bps K) (gC (Bu6 K) gN))))) [] [31,1003] [(27,[.take 103 9 6657])]
def h_8:Ef:=⟨[(2,.p 102),(3,.p 103)],[(1,.box [.v 22,.v 2,.v 2]),(103,.st 38 true),(102,.st 38 true)]⟩
def h_9:Ef:=⟨[(0,.p 1),(2,.p 102),(3,.p 103),(4,.p 104),(5,.p 105),(19,.v 2),(26,.v 4)],[(1,.box [.v 22,.v 2,.v 2]),(105,.st 36 true),(104,.st 34 true),(103,.st 38 true),(102,.st 38 true)]⟩
def Bd8:=jn (Brg K) 31 h_8 [] (Amk K) kN
def Bfe:=jn (Brg K) 1003 h_9 [] (Aqh K) (kC (Bd8 K) kN)
def Bu8:=ct (Brg K) (At4 K) (kC (Bd8 K) (kC (Bfe K) kN))
def Aq3 (K:Nat)(a0:List A8)(a1:Int):Option (Bo):=((Gy K a1 0 (Ana .i64 (a0.length:Int) 1)).bind fun r1=>(bif (!r1)then some (Bo.mk 0 0)else(if(0:Int)≤a1∧a1<(a0.length:Int)then some (Bo.mk a1 ((gt a0 a1).C6))else none)))
def Bpt:=ct (fd Tryz.func72 ⟨[.v 29,.v 3],[.v 34],true⟩ (gC (A0t K) gN)) (Aq3 K)
def Ar5 (K:Nat)(r8:Bo)(v27:List Int)(v28:List Int)(v29:List Int)(v30:List A8)(v31:List Av)(v32:List Int)(v34:Int)(v36:List Int)(v37:Int)(v38:Int)(v47:Bool):Option (Cm×Dt×(List Int)×(List Int)×(List Int)×(List A8)×(List Av)×(List Int)):=(bif v47 then((P2 K (Dt.mk v36 v37 v38) 256).bind fun r48=>some ((Cm.mk 5 r8 (Dy.mk (Bo.mk 0 0) 0 0) r48.1 0 []),r48.2,v27,v28,v29,v30,v31,v32))else(bif (v34==13)then some ((Cm.mk 6 r8 (Dy.mk (Bo.mk 0 0) 0 0) 0 0 []),(Dt.mk v36 v37 v38),v27,v28,v29,v30,v31,v32)else(bif (v34==14)then some ((Cm.mk 7 r8 (Dy.mk (Bo.mk 0 0) 0 0) 0 0 []),(Dt.mk v36 v37 v38),v27,v28,v29,v30,v31,v32)else((Aqc K (Dt.mk v36 v37 v38) 6).bind fun r49=>(bif r49.1 then some ((Cm.mk 9 (Bo.mk 0 0) (Dy.mk (Bo.mk 0 0) 0 0) 0 0 []),r49.2,v27,v28,v29,v30,v31,v32)else some ((Cm.mk 8 r8 (Dy.mk (Bo.mk 0 0) 0 0) 0 0 []),r49.2,v27,v28,v29,v30,v31,v32))))))
def Ar6 (K:Nat)(r8:Bo)(v13:Dy)(v27:List Int)(v28:List Int)(v29:List Int)(v30:List A8)(v31:List Av)(v32:List Int)(v34:Int)(v36:List Int)(v37:Int)(v38:Int)(v43:Bool):Option (Cm×Dt×(List Int)×(List Int)×(List Int)×(List A8)×(List Av)×(List Int)):=(bif v43 then((P2 K (Dt.mk v36 v37 v38) 2).bind fun r44=>((Aw1 K r44.2 (Am9 .i64 1 r44.1)).bind fun r45=>some ((Cm.mk 4 (Bo.mk 0 0) v13 0 0 r45.1),r45.2,v27,v28,v29,v30,v31,v32)))else(bif (v34==10)then((P2 K (Dt.mk v36 v37 v38) 3).bind fun r46=>some ((Cm.mk 3 (Bo.mk 0 0) v13 0 r46.1 []),r46.2,v27,v28,v29,v30,v31,v32))else(bif (v34==11)then(Ar5 K r8 v27 v28 v29 v30 v31 v32 v34 v36 v37 v38 (v34==11))else(Ar5 K r8 v27 v28 v29 v30 v31 v32 v34 v36 v37 v38 (v34==12)))))
def Aqi (K:Nat)(r8:Bo)(v13:Dy)(v16:Int)(v27:List Int)(v28:List Int)(v29:List Int)(v30:List A8)(v31:List Av)(v32:List Int)(v34:Int)(v36:List Int)(v37:Int)(v38:Int)(v39:Bool):Option (Cm×Dt×(List Int)×(List Int)×(List Int)×(List A8)×(List Av)×(List Int)):=(bif v39 then((Apj K (Dt.mk v36 v37 v38) ([1,2,3,4,5,8]:List Int)).bind fun r40=>(if r40.2.2.length=([1,2,3,4,5,8]:List Int).length then((Apj K r40.2.1 ([1,1,2,4]:List Int)).bind fun r41=>(if r41.2.2.length=([1,1,2,4]:List Int).length then some ((Cm.mk 2 r8 (Dy.mk (Bo.mk 0 0) 0 0) r40.1 r41.1 []),r41.2.1,v27,v28,v29,v30,v31,v32)else none))else none))else(bif (v34==7)then((P2 K (Dt.mk v36 v37 v38) v16).bind fun r42=>some ((Cm.mk 2 r8 (Dy.mk (Bo.mk 0 0) 0 0) (Am9 .i64 (Am9 .i64 v16 1) r42.1) 1 []),r42.2,v27,v28,v29,v30,v31,v32))else(bif (v34==8)then(Ar6 K r8 v13 v27 v28 v29 v30 v31 v32 v34 v36 v37 v38 (v34==8))else(Ar6 K r8 v13 v27 v28 v29 v30 v31 v32 v34 v36 v37 v38 (v34==9)))))
def Aqj (K:Nat)(r8:Bo)(v13:Dy)(v16:Int)(v27:List Int)(v28:List Int)(v29:List Int)(v30:List A8)(v31:List Av)(v32:List Int)(v34:Int)(v35:Bool)(v36:List Int)(v37:Int)(v38:Int):Option (Cm×Dt×(List Int)×(List Int)×(List Int)×(List A8)×(List Av)×(List Int)):=(bif v35 then some ((Cm.mk 1 r8 (Dy.mk (Bo.mk 0 0) 0 0) 0 0 []),(Dt.mk v36 v37 v38),v27,v28,v29,v30,v31,v32)else(bif (v34==3)then some ((Cm.mk 1 (Bo.mk 0 0) (Dy.mk (Bo.mk 0 0) 0 0) 0 0 []),(Dt.mk v36 v37 v38),v27,v28,v29,v30,v31,v32)else(bif (v34==4)then(Aqi K r8 v13 v16 v27 v28 v29 v30 v31 v32 v34 v36 v37 v38 (v34==4))else(bif (v34==5)then(Aqi K r8 v13 v16 v27 v28 v29 v30 v31 v32 v34 v36 v37 v38 (v34==5))else(Aqi K r8 v13 v16 v27 v28 v29 v30 v31 v32 v34 v36 v37 v38 (v34==6))))))
def Ar7 (K:Nat)(r8:Bo)(v10:List Int)(v11:Int)(v12:Int)(v13:Dy)(v14:Cm)(v15:Int)(v16:Int)(v17:Int)(v18:Int)(v19:Int)(v20:Int)(v21:Nat)(v22:Nat)(v23:Nat)(v24:Nat)(v25:Nat)(v26:Nat)(v27:List Int)(v28:List Int)(v29:List Int)(v30:List A8)(v31:List Av)(v32:List Int):Option (Cm×Dt×(List Int)×(List Int)×(List Int)×(List A8)×(List Av)×(List Int)):=((P2 K (Dt.mk v10 v11 v12) 16).bind fun r33=>(bif (r33.1==0)then(Aqj K r8 v13 v16 v27 v28 v29 v30 v31 v32 r33.1 (r33.1==0) r33.2.fb r33.2.fi r33.2.fh)else(bif (r33.1==1)then(Aqj K r8 v13 v16 v27 v28 v29 v30 v31 v32 r33.1 (r33.1==1) r33.2.fb r33.2.fi r33.2.fh)else(Aqj K r8 v13 v16 v27 v28 v29 v30 v31 v32 r33.1 (r33.1==2) r33.2.fb r33.2.fi r33.2.fh))))
def At5 (K:Nat)(a0:Dt)(a1:Ds):Option (Cm×Dt×(List Int)×(List Int)×(List Int)×(List A8)×(List Av)×(List Int)):=((Ar3 K a1).bind fun r1=>(bif ((r1.length:Int)==0)then((Aqc K a0 2).bind fun r2=>(bif r2.1 then some ((Cm.mk 1 (Bo.mk 0 0) (Dy.mk (Bo.mk 0 0) 0 0) 0 0 []),r2.2,a1.fP.Sk,a1.fP.Yq,a1.fP.Sl,a1.fL,a1.fQ,a1.Afv)else((At4 K r2.2).bind fun r3=>some (r3.1,r3.2,a1.fP.Sk,a1.fP.Yq,a1.fP.Sl,a1.fL,a1.fQ,a1.Afv))))else((Aqc K a0 10).bind fun r4=>(bif r4.1 then((Aqc K r4.2 2).bind fun r5=>(bif r5.1 then some ((Cm.mk 1 (Bo.mk 0 0) (Dy.mk (Bo.mk 0 0) 0 0) 0 0 []),r5.2,a1.fP.Sk,a1.fP.Yq,a1.fP.Sl,a1.fL,a1.fQ,a1.Afv)else((At4 K r5.2).bind fun r6=>some (r6.1,r6.2,a1.fP.Sk,a1.fP.Yq,a1.fP.Sl,a1.fL,a1.fQ,a1.Afv))))else((P2 K r4.2 (r1.length:Int)).bind fun r7=>(if(0:Int)≤r7.1∧r7.1<(r1.length:Int)then((Aq3 K a1.fL (gt r1 r7.1)).bind fun r8=>(if(0:Int)≤(gt r1 r7.1)∧(gt r1 r7.1)<(a1.fL.length:Int)then(if(0:Int)≤(gt r1 r7.1)∧(gt r1 r7.1)<(a1.fL.length:Int)then(bif (decide ((((gt a1.fL (gt r1 r7.1)).H7).length:Int)>0))then(if(0:Int)≤(gt r1 r7.1)∧(gt r1 r7.1)<(a1.fL.length:Int)then((P2 K r7.2 (((gt a1.fL (gt r1 r7.1)).H7).length:Int)).bind fun r9=>(Ar7 K r8 r9.2.fb r9.2.fi r9.2.fh (Dy.mk r8 ((gt a1.fL (gt r1 r7.1)).Sy) r9.1) (Cm.mk 0 (Bo.mk 0 0) (Dy.mk (Bo.mk 0 0) 0 0) 0 0 []) a1.fC.A6 a1.fC.Kh a1.fC.Fj a1.fC.Hb a1.fC.Fk a1.fC.Ki a1.fP.Sk.length a1.fP.Yq.length a1.fP.Sl.length a1.fL.length a1.fQ.length a1.Afv.length a1.fP.Sk a1.fP.Yq a1.fP.Sl a1.fL a1.fQ a1.Afv))else none)else(Ar7 K r8 r7.2.fb r7.2.fi r7.2.fh (Dy.mk r8 ((gt a1.fL (gt r1 r7.1)).Sy) 0) (Cm.mk 0 (Bo.mk 0 0) (Dy.mk (Bo.mk 0 0) 0 0) 0 0 []) a1.fC.A6 a1.fC.Kh a1.fC.Fj a1.fC.Hb a1.fC.Fk a1.fC.Ki a1.fP.Sk.length a1.fP.Yq.length a1.fP.Sl.length a1.fL.length a1.fQ.length a1.Afv.length a1.fP.Sk a1.fP.Yq a1.fP.Sl a1.fL a1.fQ a1.Afv))else none)else none))else none))))))
def Bff:=fd Tryz.func32 ⟨[.b 99 false,.w 32 false [(5,true),(3,true),(3,true),(71,false),(79,false),(3,true)]],[.n 38 true],false⟩ (gC (Bht K) (gC (Bpr K) (gC (Bu8 K) (gC (Bcj K) (gC (Bpt K) (gC (Brd K) (gC (Bps K) gN))))))) [13,14] [127,2042,32687,523007,8368127]
def Bx2:Ef:=⟨[(0,.p 1),(4,.p 104),(7,.p 107),(61,.v 2),(113,.v 4)],[(1,.box [.v 22,.v 2,.v 2]),(2,.rws 5 true),(3,.rws 3 true),(4,.rws 3 true),(5,.rws 71 false),(6,.rws 79 false),(7,.rws 3 true),(107,.st 34 true),(104,.st 38 true)]⟩
def Bx3:Ef:=⟨[(0,.p 1),(4,.p 104),(7,.p 107),(8,.p 108),(61,.v 2),(97,.v 4)],[(1,.box [.v 22,.v 2,.v 2]),(2,.rws 5 true),(3,.rws 3 true),(4,.rws 3 true),(5,.rws 71 false),(6,.rws 79 false),(7,.rws 3 true),(108,.st 36 true),(107,.st 34 true),(104,.st 38 true)]⟩
def Bx4:Ef:=⟨[(0,.p 1),(3,.p 103),(4,.p 104),(7,.p 107),(8,.p 108),(61,.v 2),(71,.v 4)],[(1,.box [.v 22,.v 2,.v 2]),(108,.st 36 true),(107,.st 34 true),(104,.st 38 true),(103,.ob [.v 2,.v 2,.v 2,.v 2,.v 2,.v 2,.O 2,.O 3,.O 4,.O 5,.O 6,.O 7]),(2,.rws 5 true),(3,.rws 3 true),(4,.rws 3 true),(5,.rws 71 false),(6,.rws 79 false),(7,.rws 3 true)]⟩
def Bx5:Ef:=⟨[(0,.p 1),(3,.p 103),(4,.p 104),(7,.p 107),(8,.p 108),(61,.v 2),(62,.v 4)],[(1,.box [.v 22,.v 2,.v 2]),(108,.st 36 true),(107,.st 34 true),(104,.st 38 true),(103,.ob [.v 2,.v 2,.v 2,.v 2,.v 2,.v 2,.O 2,.O 3,.O 4,.O 5,.O 6,.O 7]),(2,.rws 5 true),(3,.rws 3 true),(4,.rws 3 true),(5,.rws 71 false),(6,.rws 79 false),(7,.rws 3 true)]⟩
def Bx6:Ef:=⟨[(0,.p 1),(3,.p 103),(4,.p 104),(7,.p 107),(8,.p 108)],[(1,.box [.v 22,.v 2,.v 2]),(108,.st 36 true),(107,.st 34 true),(104,.st 38 true),(103,.ob [.v 2,.v 2,.v 2,.v 2,.v 2,.v 2,.O 2,.O 3,.O 4,.O 5,.O 6,.O 7]),(2,.rws 5 true),(3,.rws 3 true),(4,.rws 3 true),(5,.rws 71 false),(6,.rws 79 false),(7,.rws 3 true)]⟩
def A81:=jn (Bff K) 8368127 Bx2 [] (fun a b c d e f g h i j k l _=>Ar5 K l f g h i j k a c d e b) kN
def Bak:=jn (Bff K) 523007 Bx3 [] (fun a b c d e f g h i j k l m _=>Ar6 K m l f g h i j k a c d e b) (kC (A81 K) kN)
def Bck:=jn (Bff K) 32687 Bx4 [] (fun a b c d e f g _ _ j _ _ _ _ _ _ _ _ _ _ v w x y z a1=>Aqi K g f j v w x y z a1 a c d e b) (kC (Bak K) kN)
def Bfg:=jn (Bff K) 2042 Bx5 [] (fun a b c d e f g _ _ j _ _ _ _ _ _ _ _ _ _ v w x y z a1=>Aqj K g f j v w x y z a1 a b c d e) (kC (Bck K) kN)
def Bhu:=jn (Bff K) 127 Bx6 [] (fun a b c d e=>Ar7 K e a b c d) (kC (Bfg K) kN)
def Bpu:=ct (Bff K) (At5 K) (kC (Bhu K) kN)
def As9 (K:Nat)(a0:Bo):Option (Bool):=(bif (decide (a0.Be≥0))then some (decide (a0.C6≥1))else some false)
def Bpv:=ct (fd Tryz.func197 ⟨[.v 34],[.v 4],true⟩ gN [5,6]) (As9 K)
def Ar8 (K:Nat)(a0:List A8)(a1:Bo):Option (Int):=((Gy K a1.Be 0 (Ana .i64 (a0.length:Int) 1)).bind fun r1=>(bif r1 then(if(0:Int)≤a1.Be∧a1.Be<(a0.length:Int)then(bif (((gt a0 a1.Be).Yq) != 1)then some (-1)else(if(0:Int)≤a1.Be∧a1.Be<(a0.length:Int)then(bif (((gt a0 a1.Be).C6) != a1.C6)then some (-1)else some a1.Be)else none))else none)else some (-1)))
def Bpw:=ct (fd Tryz.func198 ⟨[.v 29,.v 34],[.v 3],true⟩ (gC (A0t K) gN) [10,11,12,19,20,21]) (Ar8 K)
def Am5 (K:Nat)(a0:Ds)(a1:Bo):Option (Int×Int):=((As9 K a1).bind fun r1=>(bif (!r1)then some ((-1),1)else((Ar8 K a0.fL a1).bind fun r2=>(bif (decide (r2<0))then some ((-1),2)else((Aup K a0.fL r2).bind fun r3=>(bif (!r3)then some ((-1),2)else some (r2,0)))))))
def A79:=ct (fd Tryz.func147 ⟨[.v 32,.v 34],[.v 3,.v 3],true⟩ (gC (Bhr K) (gC (Bpv K) (gC (Bpw K) gN))) [15,16]) (Am5 K)
def Ay6 (K:Nat)(a0:Ds)(a1:Bo):Option (Int×Int):=(bif ((a1.Be==0)&&((a1.C6==0)&&true))then some ((-1),0)else((Am5 K a0 a1).bind fun r1=>some (r1.1,r1.2)))
def Bu9:=ct (fd Tryz.func182 ⟨[.v 32,.v 34],[.v 3,.v 3],true⟩ (gC (A79 K) gN)) (Ay6 K)
def Au6 (K:Nat)(a0:List A8)(a1:Int):Option (Int):=((Awq K a0 a1).bind fun r1=>some (r1.length:Int))
def Bpx:=ct (fd Tryz.func183 ⟨[.v 29,.v 3],[.v 3],true⟩ (gC (Bho K) gN)) (Au6 K)
def Aos (K:Nat)(a0:Ds)(a1:Bo):Option (Int):=((Ar8 K a0.fL a1).bind fun r1=>((Au6 K a0.fL r1).bind fun r2=>some r2))
def A6f:=ct (fd Tryz.func148 ⟨[.v 32,.v 34],[.v 3],true⟩ (gC (Bpx K) (gC (Bpw K) gN))) (Aos K)
def Amz (K:Nat)(v2:Int)(v3:Int)(v4:Int)(v5:Int)(v6:Int)(v7:Int)(v8:Int)(v9:List Int)(v10:List Int)(v11:List Int)(v12:List A8)(v13:List Av)(v14:List Int)(C1:Int->Int->Int->Int->Int->Int->Int->Int->(List Int)->(List Int)->(List Int)->(List A8)->(List Av)->(List Int)->Option (Int))(v15:Int):Option (Int):=(C1 v15 (Am9 .i64 v2 1) v3 v4 v5 v6 v7 v8 v9 v10 v11 v12 v13 v14)
def Aix (K:Nat):Nat->Int->Int->Int->Int->Int->Int->Int->Int->(List Int)->(List Int)->(List Int)->(List A8)->(List Av)->(List Int)->Option (Int)
 |0,_,_,_,_,_,_,_,_,_,_,_,_,_,_=>none
 |n1+1,v1,v2,v3,v4,v5,v6,v7,v8,v9,v10,v11,v12,v13,v14=>(bif (decide (v2<(v12.length:Int)))then(if(0:Int)≤v2∧v2<(v12.length:Int)then(bif (((gt v12 v2).Yq)==0)then(Amz K v2 v3 v4 v5 v6 v7 v8 v9 v10 v11 v12 v13 v14 (Aix K n1) (Am9 .i64 v1 1))else((Aup K v12 v2).bind fun r16=>(bif r16 then(Amz K v2 v3 v4 v5 v6 v7 v8 v9 v10 v11 v12 v13 v14 (Aix K n1) v1)else(if(0:Int)≤v2∧v2<(v12.length:Int)then(bif (((gt v12 v2).Yq) != 3)then(if(0:Int)≤v2∧v2<(v12.length:Int)then(bif (decide (((gt v12 v2).C6)<v8))then(Amz K v2 v3 v4 v5 v6 v7 v8 v9 v10 v11 v12 v13 v14 (Aix K n1) (Am9 .i64 v1 1))else(Amz K v2 v3 v4 v5 v6 v7 v8 v9 v10 v11 v12 v13 v14 (Aix K n1) v1))else none)else(Amz K v2 v3 v4 v5 v6 v7 v8 v9 v10 v11 v12 v13 v14 (Aix K n1) v1))else none))))else none)else some v1)
def Ayw (K:Nat)(a0:Ds):Option (Int):=(Aix K K 0 0 a0.fC.A6 a0.fC.Kh a0.fC.Fj a0.fC.Hb a0.fC.Fk a0.fC.Ki a0.fP.Sk a0.fP.Yq a0.fP.Sl a0.fL a0.fQ a0.Afv)
def Brh:=fd Tryz.func184 ⟨[.v 32],[.v 3],true⟩ (gC (Bhr K) gN) [18,19,23,24,25,32,33,34] [233]
def Bne:Ef:=⟨[(1,.p 101),(3,.v 2),(4,.v 2)],[(101,.box [.v 2,.v 2,.v 2,.v 2,.v 2,.v 2,.v 22,.v 26,.v 26,.v 29,.v 30,.v 26])]⟩
def Bhv:=fun(C58:CT Bne _)=>jn (Brh K) 233 Bne [(58,ar Bne C58)] (fun a b c d e f g h i j k l m o=>Amz K b c d e f g h i j k l m o C58 a) kN
def Bnf:=lp (Brh K) 58 Bne [] (Aix K) (fun n=>(kC (Bhv K _) kN))
def Bva:=ct (Brh K) (Ayw K) (kC (Bnf K K) kN)
def Ar9 (K:Nat)(v2:Int)(v3:List Int)(v4:List Int)(v5:List Int)(C1:(List Int)->Int->(List Int)->(List Int)->(List Int)->Option ((List Int)))(v6:List Int):Option ((List Int)):=(C1 v6 (Am9 .i64 v2 1) v3 v4 v5)
def Aml (K:Nat)(a1:Int):Nat->(List Int)->Int->(List Int)->(List Int)->(List Int)->Option ((List Int))
 |0,_,_,_,_,_=>none
 |n1+1,v1,v2,v3,v4,v5=>(bif (decide (v2<(v4.length:Int)))then(bif (decide (v2<(v5.length:Int)))then(if(0:Int)≤v2∧v2<(v4.length:Int)then(bif ((gt v4 v2)==1)then(if(0:Int)≤v2∧v2<(v5.length:Int)then(bif ((gt v5 v2)==a1)then(if(v1++([v2]:List Int)).length*8≤140737488355328∧(v1++([v2]:List Int)).length≤maxLen then(Ar9 K v2 v3 v4 v5 (Aml K a1 n1) (v1++([v2]:List Int)))else none)else(Ar9 K v2 v3 v4 v5 (Aml K a1 n1) v1))else none)else(Ar9 K v2 v3 v4 v5 (Aml K a1 n1) v1))else none)else some v1)else some v1)
def At6 (K:Nat)(a0:Dh)(a1:Int):Option ((List Int)):=(Aml K a1 K ([]:List Int) 0 a0.Sk a0.Yq a0.Sl)
def Bri:=fd Tryz.func247 ⟨[.v 28,.v 3],[.n 26 true],true⟩ gN [12,13,27,28] [233]
def Bng:Ef:=⟨[(1,.v 2),(2,.p 102),(5,.o 1005 3 true),(6,.v 2)],[(102,.box [.v 22,.v 26,.v 26])]⟩
def Bhw:=fun(C58:CT Bng _)=>jn Bri 233 Bng [(58,ar Bng C58)] (fun a b c d e f=>Ar9 K c d e f (C58 a) b) kN
def Bnh:=lp Bri 58 Bng [] (fun n a=>Aml K a n) (fun n=>(kC (Bhw K _) kN))
def Bpy:=ct Bri (At6 K) (kC (Bnh K K) kN)
def Apt (K:Nat)(r1:(List Int)):Nat->Int->Int->Int->Int->Int->Int->Int->Int->(List Int)->(List Int)->(List Int)->(List A8)->(List Av)->(List Int)->Option (Int)
 |0,_,_,_,_,_,_,_,_,_,_,_,_,_,_=>none
 |n1+1,v2,v3,v4,v5,v6,v7,v8,v9,v10,v11,v12,v13,v14,v15=>(bif (decide (v3<(r1.length:Int)))then(if(0:Int)≤v3∧v3<(r1.length:Int)then((At6 K (Dh.mk v10 v11 v12) (gt r1 v3)).bind fun r16=>(Apt K r1 n1 (Am9 .i64 v2 (r16.length:Int)) (Am9 .i64 v3 1) v4 v5 v6 v7 v8 v9 v10 v11 v12 v13 v14 v15))else none)else some v2)
def Ayx (K:Nat)(a0:Ds):Option (Int):=((Ar3 K a0).bind fun r1=>(Apt K r1 K 0 0 a0.fC.A6 a0.fC.Kh a0.fC.Fj a0.fC.Hb a0.fC.Fk a0.fC.Ki a0.fP.Sk a0.fP.Yq a0.fP.Sl a0.fL a0.fQ a0.Afv))
def Bvb:=fd Tryz.func221 ⟨[.v 32],[.v 3],true⟩ (gC (Bht K) (gC (Bpy K) gN))
def Bx7:Ef:=⟨[(1,.p 101),(3,.v 2),(4,.v 26),(5,.v 2)],[(101,.box [.v 2,.v 2,.v 2,.v 2,.v 2,.v 2,.v 22,.v 26,.v 26,.v 29,.v 30,.v 26])]⟩
def Bhx:=lp (Bvb K) 122 Bx7 [] (fun n a b=>Apt K b n a) (fun n=>kN)
def Bvc:=ct (Bvb K) (Ayx K) (kC (Bhx K K) kN)
def Aq4 (K:Nat)(a0:Ds)(a1:Int):Option (Bool):=(bif (decide (a1≥0))then(bif (decide (a1≤a0.fC.A6))then((Ayx K a0).bind fun r1=>some (decide (r1≤(Ana .i64 a0.fC.A6 a1))))else some false)else some false)
def Bhy:=ct (fd Tryz.func185 ⟨[.v 32,.v 3],[.v 4],true⟩ (gC (Bvc K) gN) [6,7,12,13,14]) (Aq4 K)
def Arx (K:Nat)(v2:Int)(C1:Int->Int->Option (Int))(v3:Int):Option (Int):=(C1 v3 (Am9 .i64 v2 1))
def Akh (K:Nat)(a0:List A8)(a1:Int):Nat->Int->Int->Option (Int)
 |0,_,_=>none
 |n1+1,v1,v2=>(bif (decide (v2<(a0.length:Int)))then(if(0:Int)≤v2∧v2<(a0.length:Int)then(bif (((gt a0 v2).Yq)==a1)then(Arx K v2 (Akh K a0 a1 n1) (Am9 .i64 v1 1))else(Arx K v2 (Akh K a0 a1 n1) v1))else none)else some v1)
def Apu (K:Nat)(a0:List A8)(a1:Int):Option (Int):=(Akh K a0 a1 K 0 0)
def Brj:=fd Tryz.func222 ⟨[.v 29,.v 3],[.v 3],true⟩ gN [] [233]
def Bni:Ef:=⟨[(0,.v 29),(1,.v 2),(5,.v 2),(6,.v 2)],[]⟩
def Bhz:=fun(C58:CT Bni _)=>jn Brj 233 Bni [(58,ar Bni C58)] (fun a b c d=>Arx K d (C58 a b) c) kN
def Bnj:=lp Brj 58 Bni [] (fun n a b=>Akh K a b n) (fun n=>(kC (Bhz K _) kN))
def Bpz:=ct Brj (Apu K) (kC (Bnj K K) kN)
def Aq5 (K:Nat)(a1:Int)(a2:Int):Nat->Int->(List Int)->(List Int)->(List Int)->Option (Bool)
 |0,_,_,_,_=>none
 |n1+1,v1,v2,v3,v4=>(bif (decide (v1<(Am9 .i64 a1 a2)))then(if(0:Int)≤v1∧v1<(v3.length:Int)then(bif ((gt v3 v1) != 0)then some false else(Aq5 K a1 a2 n1 (Am9 .i64 v1 1) v2 v3 v4))else none)else some true)
def Au7 (K:Nat)(a0:Dh)(a1:Int)(a2:Int):Option (Bool):=(bif (decide (a1<0))then some false else(bif (decide (a2<1))then some false else(bif (decide (a1>(a0.Yq.length:Int)))then some false else(bif (decide (a2>(Ana .i64 (a0.Yq.length:Int) a1)))then some false else(Aq5 K a1 a2 K a1 a0.Sk a0.Yq a0.Sl)))))
def Bvd:=fd Tryz.func225 ⟨[.v 28,.v 3,.v 3],[.v 4],true⟩ gN [9,10,12,13,14,19,20,21]
def Bx8:Ef:=⟨[(1,.v 2),(2,.v 2),(3,.p 103),(7,.v 2)],[(103,.box [.v 22,.v 26,.v 26])]⟩
def Bnk:=lp Bvd 58 Bx8 [] (fun n a b=>Aq5 K a b n) (fun n=>kN)
def Bp0:=ct Bvd (Au7 K) (kC (Bnk K K) kN)
def Arf (K:Nat)(a1:Int):Nat->Int->(List Int)->(List Int)->(List Int)->Option (Int)
 |0,_,_,_,_=>none
 |n1+1,v1,v2,v3,v4=>(bif (decide (v1<(v3.length:Int)))then((Au7 K (Dh.mk v2 v3 v4) v1 a1).bind fun r5=>(bif r5 then some v1 else(Arf K a1 n1 (Am9 .i64 v1 1) v2 v3 v4)))else some (-1))
def Avn (K:Nat)(a0:Dh)(a1:Int):Option (Int):=(Arf K a1 K 0 a0.Sk a0.Yq a0.Sl)
def Bve:=fd Tryz.func223 ⟨[.v 28,.v 3],[.v 3],true⟩ (gC (Bp0 K) gN)
def Bx9:Ef:=⟨[(1,.v 2),(2,.p 102),(5,.v 2)],[(102,.box [.v 22,.v 26,.v 26])]⟩
def Bnl:=lp (Bve K) 26 Bx9 [] (fun n a=>Arf K a n) (fun n=>kN)
def Bp1:=ct (Bve K) (Avn K) (kC (Bnl K K) kN)
def A0u (K:Nat)(a0:Av):Option (Int):=(bif (decide ((a0.F3.length:Int)>0))then some 1 else(bif (decide ((a0.A6.length:Int)>0))then some 2 else(bif (a0.Er != 0)then some 3 else some 4)))
def Bvf:=ct (fd Tryz.func233 ⟨[.v 79],[.v 3],true⟩ gN) (A0u K)
def Aya (K:Nat)(a0:Ds):Option (Ds):=(if(0:Int)≤0∧0<(a0.fQ.length:Int)then(if(0:Int)≤(Ana .i64 (((gt a0.fQ 0).F3).length:Int) 1)∧(Ana .i64 (((gt a0.fQ 0).F3).length:Int) 1)<(((gt a0.fQ 0).F3).length:Int)then(if(a0.Afv++([(gt ((gt a0.fQ 0).F3) (Ana .i64 (((gt a0.fQ 0).F3).length:Int) 1))]:List Int)).length*8≤140737488355328∧(a0.Afv++([(gt ((gt a0.fQ 0).F3) (Ana .i64 (((gt a0.fQ 0).F3).length:Int) 1))]:List Int)).length≤maxLen then(if(0:Int)≤0∧0≤(Ana .i64 (((gt a0.fQ 0).F3).length:Int) 1)∧(Ana .i64 (((gt a0.fQ 0).F3).length:Int) 1)≤(((gt a0.fQ 0).F3).length:Int)then(if(([]:List Int)++((((gt a0.fQ 0).F3).drop (0:Int).toNat).take ((Ana .i64 (((gt a0.fQ 0).F3).length:Int) 1) - 0).toNat)).length*8≤140737488355328∧(([]:List Int)++((((gt a0.fQ 0).F3).drop (0:Int).toNat).take ((Ana .i64 (((gt a0.fQ 0).F3).length:Int) 1) - 0).toNat)).length≤maxLen then some (Ds.mk a0.fC a0.fP a0.fL (a0.fQ.set (0:Int).toNat (Av.mk ((gt a0.fQ 0).Be) ((gt a0.fQ 0).Er) (([]:List Int)++((((gt a0.fQ 0).F3).drop (0:Int).toNat).take ((Ana .i64 (((gt a0.fQ 0).F3).length:Int) 1) - 0).toNat)) ((gt a0.fQ 0).A6) ((gt a0.fQ 0).Wo))) (a0.Afv++([(gt ((gt a0.fQ 0).F3) (Ana .i64 (((gt a0.fQ 0).F3).length:Int) 1))]:List Int)))else none)else none)else none)else none)else none)
def Bvg:=ct (fd Tryz.func234 ⟨[.b 32 false],[],false⟩ gN [] [] [(0,[.take 1 10 5026]),(2,[.take 1 11 5027])]) (Aya K)
def Aqd (K:Nat)(a0:Dh):Option (Dh):=(if(([]:List Int)++a0.Sk).length*1≤140737488355328∧(([]:List Int)++a0.Sk).length≤maxLen then(if(([]:List Int)++a0.Yq).length*8≤140737488355328∧(([]:List Int)++a0.Yq).length≤maxLen then(if(([]:List Int)++a0.Sl).length*8≤140737488355328∧(([]:List Int)++a0.Sl).length≤maxLen then some (Dh.mk (([]:List Int)++a0.Sk) (([]:List Int)++a0.Yq) (([]:List Int)++a0.Sl))else none)else none)else none)
def Bd9:=ct (fd Tryz.func224 ⟨[.v 28],[.n 28 true],true⟩ gN) (Aqd K)
def Aq6 (K:Nat)(a0:List Int):Nat->Int->Option (Bool)
 |0,_=>none
 |n1+1,v1=>(bif (decide (v1<(a0.length:Int)))then(if(0:Int)≤v1∧v1<(a0.length:Int)then(bif ((gt a0 v1) != 0)then some false else(Aq6 K a0 n1 (Am9 .i64 v1 1)))else none)else some true)
def Ars (K:Nat)(a0:List Int):Option (Bool):=(Aq6 K a0 K 0)
def Bvh:=fd Tryz.func272 ⟨[.v 22],[.v 4],true⟩ gN
def Bya:Ef:=⟨[(0,.v 22),(3,.v 2)],[]⟩
def Bnm:=lp Bvh 26 Bya [] (fun n a=>Aq6 K a n) (fun n=>kN)
def Bea:=ct Bvh (Ars K) (kC (Bnm K K) kN)
def Avo (K:Nat)(v3:Int)(v4:List Int)(v5:List Int)(v6:List Int)(C1:Int->(List Int)->(List Int)->(List Int)->Option (Bool)):Option (Bool):=(C1 (Am9 .i64 v3 1) v4 v5 v6)
def Aq7 (K:Nat)(a0:D4)(v3:Int)(v4:List Int)(v5:List Int)(v6:List Int)(C1:Int->(List Int)->(List Int)->(List Int)->Option (Bool)):Option (Bool):=(if(0:Int)≤v3∧v3<(v5.length:Int)then(bif ((gt v5 v3)==0)then(if(0:Int)≤(Anb .i64 v3 a0.Kh)∧(Anb .i64 v3 a0.Kh)≤(Anb .i64 (Am9 .i64 v3 1) a0.Kh)∧(Anb .i64 (Am9 .i64 v3 1) a0.Kh)≤(v4.length:Int)then((Ars K ((v4.drop (Anb .i64 v3 a0.Kh).toNat).take ((Anb .i64 (Am9 .i64 v3 1) a0.Kh) - (Anb .i64 v3 a0.Kh)).toNat)).bind fun r9=>(bif (!r9)then some false else(Avo K v3 v4 v5 v6 (C1))))else none)else(Avo K v3 v4 v5 v6 (C1)))else none)
def Amj (K:Nat)(a0:D4):Nat->Int->(List Int)->(List Int)->(List Int)->Option (Bool)
 |0,_,_,_,_=>none
 |n1+1,v3,v4,v5,v6=>(bif (decide (v3<a0.A6))then(if(0:Int)≤v3∧v3<(v5.length:Int)then((Gy K (gt v5 v3) 0 2).bind fun r7=>(bif (!r7)then some false else(if(0:Int)≤v3∧v3<(v5.length:Int)then(bif ((gt v5 v3)==1)then(if(0:Int)≤v3∧v3<(v6.length:Int)then((Gy K (gt v6 v3) 0 (Ana .i64 a0.Fj 1)).bind fun r8=>(bif r8 then(if(0:Int)≤v3∧v3<(v5.length:Int)then(bif ((gt v5 v3) != 1)then(if(0:Int)≤v3∧v3<(v6.length:Int)then(bif ((gt v6 v3) != (-1))then some false else(Aq7 K a0 v3 v4 v5 v6 (Amj K a0 n1)))else none)else(Aq7 K a0 v3 v4 v5 v6 (Amj K a0 n1)))else none)else some false))else none)else(if(0:Int)≤v3∧v3<(v5.length:Int)then(bif ((gt v5 v3) != 1)then(if(0:Int)≤v3∧v3<(v6.length:Int)then(bif ((gt v6 v3) != (-1))then some false else(Aq7 K a0 v3 v4 v5 v6 (Amj K a0 n1)))else none)else(Aq7 K a0 v3 v4 v5 v6 (Amj K a0 n1)))else none))else none)))else none)else some true)
def Au8 (K:Nat)(a0:D4)(a1:Dh):Option (Bool):=((Am2 K a0).bind fun r1=>(bif r1 then((Aqn K a0).bind fun r2=>(bif ((a1.Sk.length:Int) != r2)then some false else(bif ((a1.Yq.length:Int) != a0.A6)then some false else(bif ((a1.Sl.length:Int) != a0.A6)then some false else(Amj K a0 K 0 a1.Sk a1.Yq a1.Sl)))))else some false))
def Bnn:=fd Tryz.func254 ⟨[.v 25,.v 28],[.v 4],true⟩ (gC (A0t K) (gC (Baj K) (gC (Bm8 K) (gC (Bea K) gN)))) [7,8,9,15,16,17,23,24,25,51,52,61,62,63,64,70,71,85,86] [233,1865]
def Bcl:Ef:=⟨[(2,.p 102),(3,.p 103),(5,.v 2)],[(103,.box [.v 22,.v 26,.v 26]),(102,.st 25 true)]⟩
def Bh0:=fun(C58:CT Bcl _)=>jn (Bnn K) 233 Bcl [(58,ar Bcl C58)] (fun a b c d e=>Avo K a b c d (fun v3 v4 v5 v6=>C58 v3 v4 v5 v6 e)) kN
def Bfh:=fun(C58:CT Bcl _)=>jn (Bnn K) 1865 Bcl [(58,ar Bcl C58)] (fun a b c d e=>Aq7 K e a b c d (fun v3 v4 v5 v6=>C58 v3 v4 v5 v6 e)) (kC (Bh0 K _) kN)
def Bno:=lp (Bnn K) 58 Bcl [] (fun n a b c d e=>Amj K e n a b c d) (fun n=>(kC (Bfh K _) kN))
def Bp2:=ct (Bnn K) (Au8 K) (kC (Bno K K) kN)
def Ay7 (K:Nat)(a0:Int)(a1:Int):Option (Int):=(bif (decide (a1<a0))then some a1 else some a0)
def Bvi:=ct (fd Tryz.func270 ⟨[.v 3,.v 3],[.v 3],true⟩ gN) (Ay7 K)
def Au9 (K:Nat)(a0:List Int)(a1:Int)(a2:Int):Nat->(List Int)->Int->Option ((List Int))
 |0,_,_=>none
 |n1+1,v1,v2=>(bif (decide (v2<(a0.length:Int)))then(bif (decide ((Ana .i64 v2 a1)<a2))then(if(0:Int)≤v2∧v2<(v1.length:Int)then(Au9 K a0 a1 a2 n1 (v1.set v2.toNat 0) (Am9 .i64 v2 1))else none)else some v1)else some v1)
def A0g (K:Nat)(a0:List Int)(a1:Int)(a2:Int):Option ((List Int)):=(if(([]:List Int)++a0).length*1≤140737488355328∧(([]:List Int)++a0).length≤maxLen then(bif (decide (a1<0))then some (([]:List Int)++a0)else(bif (decide (a2<0))then some (([]:List Int)++a0)else(Au9 K a0 a1 a2 K (([]:List Int)++a0) a1)))else none)
def Bvj:=fd Tryz.func271 ⟨[.v 22,.v 3,.v 3],[.n 22 true],true⟩ gN [13,14,23,24]
def Byb:Ef:=⟨[(0,.v 22),(1,.v 2),(2,.v 2),(7,.o 1007 5 true),(8,.v 2)],[]⟩
def Bh1:=lp Bvj 122 Byb [] (fun n a b c=>Au9 K a b c n) (fun n=>kN)
def Bvk:=ct Bvj (A0g K) (kC (Bh1 K K) kN)
def Avp (K:Nat)(a0:D4)(a1:Dh)(a2:Int)(a3:Int):Option (Dh×Bool):=((Aqd K a1).bind fun r1=>((Au8 K a0 a1).bind fun r2=>(bif r2 then((Gy K a2 0 (Ana .i64 a0.A6 1)).bind fun r3=>(bif r3 then(if(0:Int)≤a2∧a2<(a1.Yq.length:Int)then(bif ((gt a1.Yq a2) != 2)then some (r1,false)else((Gy K a3 0 (Ana .i64 a0.Kh 1)).bind fun r4=>(bif (!r4)then some (r1,false)else((Ay7 K (Am9 .i64 a3 a0.Fk) a0.Kh).bind fun r5=>((A0g K a1.Sk (Am9 .i64 (Anb .i64 a2 a0.Kh) a3) (Ana .i64 r5 a3)).bind fun r6=>(bif (decide (r5<a0.Kh))then some ((Dh.mk r6 r1.Yq r1.Sl),false)else(if(0:Int)≤(Anb .i64 a2 a0.Kh)∧(Anb .i64 a2 a0.Kh)≤(Anb .i64 (Am9 .i64 a2 1) a0.Kh)∧(Anb .i64 (Am9 .i64 a2 1) a0.Kh)≤(r6.length:Int)then((Ars K ((r6.drop (Anb .i64 a2 a0.Kh).toNat).take ((Anb .i64 (Am9 .i64 a2 1) a0.Kh) - (Anb .i64 a2 a0.Kh)).toNat)).bind fun r7=>(bif (!r7)then((Aqd K a1).bind fun r8=>some (r8,false))else(if(0:Int)≤a2∧a2<(r1.Yq.length:Int)then some ((Dh.mk r6 (r1.Yq.set a2.toNat 0) r1.Sl),true)else none)))else none)))))))else none)else some (r1,false)))else some (r1,false))))
def Bvl:=ct (fd Tryz.func253 ⟨[.v 25,.v 28,.v 3,.v 3],[.n 28 true,.v 4],true⟩ (gC (A0t K) (gC (Bd9 K) (gC (Bp2 K) (gC (Bvi K) (gC (Bvk K) (gC (Bea K) gN)))))) [16,17,18,23,24,25,26,32,33,34]) (Avp K)
def Aw2 (K:Nat)(a0:Ds):Option (Ds):=(if(0:Int)≤0∧0<(a0.fQ.length:Int)then(if(0:Int)≤0∧0<(((gt a0.fQ 0).A6).length:Int)then((Avp K a0.fC a0.fP (gt ((gt a0.fQ 0).A6) 0) ((gt a0.fQ 0).Wo)).bind fun r1=>(bif r1.2 then(if(0:Int)≤1∧1≤(((gt a0.fQ 0).A6).length:Int)∧(((gt a0.fQ 0).A6).length:Int)≤(((gt a0.fQ 0).A6).length:Int)then(if(([]:List Int)++((((gt a0.fQ 0).A6).drop (1:Int).toNat).take ((((gt a0.fQ 0).A6).length:Int) - 1).toNat)).length*8≤140737488355328∧(([]:List Int)++((((gt a0.fQ 0).A6).drop (1:Int).toNat).take ((((gt a0.fQ 0).A6).length:Int) - 1).toNat)).length≤maxLen then some (Ds.mk a0.fC r1.1 a0.fL (a0.fQ.set (0:Int).toNat (Av.mk ((gt a0.fQ 0).Be) ((gt a0.fQ 0).Er) ((gt a0.fQ 0).F3) (([]:List Int)++((((gt a0.fQ 0).A6).drop (1:Int).toNat).take ((((gt a0.fQ 0).A6).length:Int) - 1).toNat)) 0)) a0.Afv)else none)else none)else some (Ds.mk a0.fC r1.1 a0.fL (a0.fQ.set (0:Int).toNat (Av.mk ((gt a0.fQ 0).Be) ((gt a0.fQ 0).Er) ((gt a0.fQ 0).F3) ((gt a0.fQ 0).A6) (Am9 .i64 ((gt a0.fQ 0).Wo) a0.fC.Fk))) a0.Afv)))else none)else none)
def Bvm:=ct (fd Tryz.func235 ⟨[.b 32 false],[],false⟩ (gC (Bvl K) gN) [] [] [(0,[.take 1 10 5026]),(1,[.take 1 6 5022,.take 1 7 5023,.take 1 8 5024])]) (Aw2 K)
def Am3 (K:Nat)(a0:A8):Option (A8):=(if(([]:List Int)++a0.A6).length*8≤140737488355328∧(([]:List Int)++a0.A6).length≤maxLen then(if(([]:List A7)++a0.H7).length*24≤140737488355328∧(([]:List A7)++a0.H7).length≤maxLen then(if(([]:List Int)++a0.F3).length*8≤140737488355328∧(([]:List Int)++a0.F3).length≤maxLen then some (A8.mk a0.Yq a0.C6 a0.Sy a0.fUp a0.Wk a0.Er a0.Wl a0.Wm (([]:List Int)++a0.A6) a0.Afu a0.Wn (([]:List A7)++a0.H7) (([]:List Int)++a0.F3))else none)else none)else none)
def A8a:=ct (fd Tryz.func226 ⟨[.v 71],[.n 71 true],true⟩ gN) (Am3 K)
def Asa (K:Nat)(v3:Dh)(v4:Dh):Option (Dh):=some v3
def Ay8 (K:Nat)(a0:Dh)(a1:Int):Option (Dh):=((Aqd K a0).bind fun r1=>((Gy K a1 0 (Ana .i64 (a0.Yq.length:Int) 1)).bind fun r2=>(bif r2 then(bif (decide (a1<(a0.Sl.length:Int)))then(if(0:Int)≤a1∧a1<(a0.Yq.length:Int)then(bif ((gt a0.Yq a1)==1)then(if(0:Int)≤a1∧a1<(r1.Yq.length:Int)then(if(0:Int)≤a1∧a1<(r1.Sl.length:Int)then(Asa K (Dh.mk r1.Sk (r1.Yq.set a1.toNat 2) (r1.Sl.set a1.toNat (-1))) (Dh.mk [] [] []))else none)else none)else(Asa K r1 (Dh.mk [] [] [])))else none)else(Asa K r1 (Dh.mk [] [] [])))else(Asa K r1 (Dh.mk [] [] [])))))
def Bvn:=fd Tryz.func238 ⟨[.v 28,.v 3],[.n 28 true],true⟩ (gC (A0t K) (gC (Bd9 K) gN)) [13,14,19,20,21] [7] [(5,[.take 105 0 6680,.take 105 1 6681,.take 105 2 6682])]
def Bvo:Ef:=⟨[(4,.p 104),(5,.p 105)],[(105,.st 28 true),(104,.st 28 true)]⟩
def Brk:=jn (Bvn K) 7 Bvo [] (Asa K) kN
def Bvp:=ct (Bvn K) (Ay8 K) (kC (Brk K) kN)
def Akd (K:Nat)(a1:List Int):Nat->Int->Int->Int->Int->Int->Int->Int->(List Int)->(List Int)->(List Int)->(List A8)->(List Av)->(List Int)->Option (Ds)
 |0,_,_,_,_,_,_,_,_,_,_,_,_,_=>none
 |n1+1,v1,v2,v3,v4,v5,v6,v7,v8,v9,v10,v11,v12,v13=>(bif (decide (v1<(a1.length:Int)))then(if(0:Int)≤v1∧v1<(a1.length:Int)then((Ay8 K (Dh.mk v8 v9 v10) (gt a1 v1)).bind fun r14=>(Akd K a1 n1 (Am9 .i64 v1 1) v2 v3 v4 v5 v6 v7 r14.Sk r14.Yq r14.Sl v11 v12 v13))else none)else some (Ds.mk (D4.mk v2 v3 v4 v5 v6 v7) (Dh.mk v8 v9 v10) v11 v12 v13))
def Aqe (K:Nat)(a0:Ds)(a1:List Int):Option (Ds):=(Akd K a1 K 0 a0.fC.A6 a0.fC.Kh a0.fC.Fj a0.fC.Hb a0.fC.Fk a0.fC.Ki a0.fP.Sk a0.fP.Yq a0.fP.Sl a0.fL a0.fQ a0.Afv)
def Bvq:=fd Tryz.func200 ⟨[.b 32 false,.v 26],[],false⟩ (gC (Bvp K) gN) [] [] [(3,[.take 1 6 5022,.take 1 7 5023,.take 1 8 5024])]
def Byc:Ef:=⟨[(0,.p 1),(1,.v 26),(4,.v 2)],[(1,.box [.v 2,.v 2,.v 2,.v 2,.v 2,.v 2,.T 5 true,.T 3 true,.T 3 true,.T 71 false,.T 79 false,.T 3 true])]⟩
def Brl:=lp (Bvq K) 6 Byc [] (fun n a=>Akd K a n) (fun n=>kN)
def Bh2:=ct (Bvq K) (Aqe K) (kC (Brl K K) kN)
def Ayr (K:Nat)(a0:A8):Option (A8):=some (A8.mk 2 a0.C6 0 0 0 0 0 0 [] 0 0 [] [])
def Bp3:=ct (fd Tryz.func203 ⟨[.v 71],[.n 71 true],true⟩ gN) (Ayr K)
def Asb (K:Nat)(a0:A8)(a1:Int):Option (Av):=(if(([]:List Int)++a0.F3).length*8≤140737488355328∧(([]:List Int)++a0.F3).length≤maxLen then(if(([]:List Int)++a0.A6).length*8≤140737488355328∧(([]:List Int)++a0.A6).length≤maxLen then some (Av.mk a1 a0.Er (([]:List Int)++a0.F3) (([]:List Int)++a0.A6) 0)else none)else none)
def Bp4:=ct (fd Tryz.func199 ⟨[.v 71,.v 3],[.n 79 true],true⟩ gN) (Asb K)
def Ayy (K:Nat)(a0:A8)(a1:Int):Option (Av):=(if(([]:List Int)++a0.F3).length*8≤140737488355328∧(([]:List Int)++a0.F3).length≤maxLen then(if(([]:List Int)++a0.A6).length*8≤140737488355328∧(([]:List Int)++a0.A6).length≤maxLen then some (Av.mk a1 a0.Er (([]:List Int)++a0.F3) (([]:List Int)++a0.A6) 0)else none)else none)
def Bvr:=ct (fd Tryz.func199 ⟨[.v 71,.v 3],[.v 79],false⟩ gN) (Ayy K)
def Asc (K:Nat)(r1:A8)(v4:Int)(v5:Int)(v6:Int)(v7:Int)(v8:Int)(v9:Int)(v10:Int)(v11:List Int)(v12:List Int)(v13:List Int)(v14:List A8)(v15:List Av)(v16:List Int):Option (Ds):=((Aqe K (Ds.mk (D4.mk v5 v6 v7 v8 v9 v10) (Dh.mk v11 v12 v13) v14 v15 v16) r1.A6).bind fun r17=>((Ayr K r1).bind fun r18=>(if(0:Int)≤v4∧v4<(r17.fL.length:Int)then((Ayy K r1 (Am9 .i64 v4 1)).bind fun r19=>(if(([r19]:List Av)++r17.fQ).length*72≤140737488355328∧(([r19]:List Av)++r17.fQ).length≤maxLen then some (Ds.mk r17.fC r17.fP (r17.fL.set v4.toNat r18) (([r19]:List Av)++r17.fQ) r17.Afv)else none))else none)))
def Aw3 (K:Nat)(a0:Ds):Option (Ds):=(if(0:Int)≤0∧0<(a0.fQ.length:Int)then(if(0:Int)≤(Ana .i64 ((gt a0.fQ 0).Er) 1)∧(Ana .i64 ((gt a0.fQ 0).Er) 1)<(a0.fL.length:Int)then((Am3 K (gt a0.fL (Ana .i64 ((gt a0.fQ 0).Er) 1))).bind fun r1=>(if(0:Int)≤0∧0<(a0.fQ.length:Int)then((Agf K a0.fL r1.Wl).bind fun r2=>(bif r2 then(if(0:Int)≤(Ana .i64 r1.Wl 1)∧(Ana .i64 r1.Wl 1)<(a0.fL.length:Int)then(Apm (a0.fL.set (Ana .i64 r1.Wl 1).toNat (A8.mk ((gt a0.fL (Ana .i64 r1.Wl 1)).Yq) ((gt a0.fL (Ana .i64 r1.Wl 1)).C6) ((gt a0.fL (Ana .i64 r1.Wl 1)).Sy) ((gt a0.fL (Ana .i64 r1.Wl 1)).fUp) ((gt a0.fL (Ana .i64 r1.Wl 1)).Wk) ((gt a0.fL (Ana .i64 r1.Wl 1)).Er) ((gt a0.fL (Ana .i64 r1.Wl 1)).Wl) 0 ((gt a0.fL (Ana .i64 r1.Wl 1)).A6) ((gt a0.fL (Ana .i64 r1.Wl 1)).Afu) ((gt a0.fL (Ana .i64 r1.Wl 1)).Wn) ((gt a0.fL (Ana .i64 r1.Wl 1)).H7) ((gt a0.fL (Ana .i64 r1.Wl 1)).F3))) fun v3=>(Asc K r1 (Ana .i64 ((gt a0.fQ 0).Er) 1) a0.fC.A6 a0.fC.Kh a0.fC.Fj a0.fC.Hb a0.fC.Fk a0.fC.Ki a0.fP.Sk a0.fP.Yq a0.fP.Sl v3 (a0.fQ.set (0:Int).toNat (Av.mk ((gt a0.fQ 0).Be) r1.Wl ((gt a0.fQ 0).F3) ((gt a0.fQ 0).A6) ((gt a0.fQ 0).Wo))) a0.Afv))else none)else(Asc K r1 (Ana .i64 ((gt a0.fQ 0).Er) 1) a0.fC.A6 a0.fC.Kh a0.fC.Fj a0.fC.Hb a0.fC.Fk a0.fC.Ki a0.fP.Sk a0.fP.Yq a0.fP.Sl a0.fL (a0.fQ.set (0:Int).toNat (Av.mk ((gt a0.fQ 0).Be) r1.Wl ((gt a0.fQ 0).F3) ((gt a0.fQ 0).A6) ((gt a0.fQ 0).Wo))) a0.Afv)))else none))else none)else none)
def Bvs:=fo Tryz.func236 ⟨[.b 32 false],[],false⟩ (gC (A48 K) (gC (Bh2 K) (gC (Bp3 K) (gC (A8a K) gN)))) (oC (d:=60) (gC (Bvr K) gN) oN) [] [15] [(0,[.take 1 10 5026]),(1,[.take 1 9 5025]),(5,[.take 103 8 6656,.frz 6656]),(6,[.take 1 9 5025,.take 103 11 6659,.take 103 12 6660]),(7,[.take 1 10 5026,.frz 6659,.frz 6660])]
def Byd:Ef:=⟨[(0,.p 1),(2,.v 2),(3,.p 103)],[(1,.box [.v 2,.v 2,.v 2,.v 2,.v 2,.v 2,.T 5 true,.T 3 true,.T 3 true,.T 71 false,.T 79 false,.T 3 true]),(103,.st 71 true)]⟩
def Bnp:=jn (Bvs K) 15 Byd [] (fun a b c d e f g h i j k l m o=>Asc K o a b c d e f g h i j k l m) kN
def Bvt:=ct (Bvs K) (Aw3 K) (kC (Bnp K) kN)
def Aqp (K:Nat)(a0:List A8):Nat->(List A8)->Int->Option ((List A8))
 |0,_,_=>none
 |n1+1,v1,v2=>(bif (decide (v2<(a0.length:Int)))then(if(0:Int)≤v2∧v2<(a0.length:Int)then((Am3 K (gt a0 v2)).bind fun r3=>(if(v1++[r3]).length*152≤140737488355328∧(v1++[r3]).length≤maxLen then(Aqp K a0 n1 (v1++[r3]) (Am9 .i64 v2 1))else none))else none)else some v1)
def As4 (K:Nat)(a0:List A8):Option ((List A8)):=(Aqp K a0 K ([]:List A8) 0)
def Bvu:=fd Tryz.func228 ⟨[.v 29],[.n 29 true],true⟩ (gC (A8a K) gN) (post:=[(20,[.put 3020])])
def Bye:Ef:=⟨[(0,.v 29),(3,.o 1003 71 true),(4,.v 2)],[]⟩
def Bnq:=lp (Bvu K) 58 Bye [] (fun n a=>Aqp K a n) (fun n=>kN)
def Beb:=ct (Bvu K) (As4 K) (kC (Bnq K K) kN)
def Aw4 (K:Nat)(v3:List A8):Option ((List A8)):=some v3
def Ay9 (K:Nat)(a0:List A8)(a1:Int)(a2:Int):Option ((List A8)):=((As4 K a0).bind fun r1=>((Gy K a1 0 (Ana .i64 (a0.length:Int) 1)).bind fun r2=>(bif (!r2)then some r1 else(if(0:Int)≤a1∧a1<(a0.length:Int)then(bif (decide (((gt a0 a1).C6)≥a2))then(if(0:Int)≤a1∧a1<(a0.length:Int)then(if(0:Int)≤a1∧a1<(r1.length:Int)then(Aw4 K (r1.set a1.toNat (A8.mk 3 ((gt a0 a1).C6) 0 0 0 0 0 0 [] 0 0 [] [])))else none)else none)else(if(0:Int)≤a1∧a1<(a0.length:Int)then((Aqo K (Am9 .i64 ((gt a0 a1).C6) 1)).bind fun r4=>(if(0:Int)≤a1∧a1<(r1.length:Int)then(Aw4 K (r1.set a1.toNat r4))else none))else none))else none))))
def Bvv:=fd Tryz.func237 ⟨[.v 29,.v 3,.v 3],[.n 29 true],true⟩ (gC (A0t K) (gC (Bhn K) (gC (Beb K) gN))) [] [15]
def Bvw:Ef:=⟨[(7,.o 1007 71 true)],[]⟩
def Bnr:=jn (Bvv K) 15 Bvw [] (Aw4 K) kN
def Bvx:=ct (Bvv K) (Ay9 K) (kC (Bnr K) kN)
def At7 (K:Nat)(a0:Ds):Option (Ds):=(if(0:Int)≤0∧0<(a0.fQ.length:Int)then((A0u K (gt a0.fQ 0)).bind fun r1=>(bif (r1==1)then((Aya K a0).bind fun r2=>some r2)else(bif (r1==2)then((Aw2 K a0).bind fun r3=>some r3)else(bif (r1==3)then((Aw3 K a0).bind fun r4=>some r4)else(if(0:Int)≤0∧0<(a0.fQ.length:Int)then(bif (((gt a0.fQ 0).Be) != 0)then(if(0:Int)≤0∧0<(a0.fQ.length:Int)then((Ay9 K a0.fL (Ana .i64 ((gt a0.fQ 0).Be) 1) a0.fC.Ki).bind fun r5=>(if(0:Int)≤1∧1≤(a0.fQ.length:Int)∧(a0.fQ.length:Int)≤(a0.fQ.length:Int)then(if(([]:List Av)++((a0.fQ.drop (1:Int).toNat).take ((a0.fQ.length:Int) - 1).toNat)).length*72≤140737488355328∧(([]:List Av)++((a0.fQ.drop (1:Int).toNat).take ((a0.fQ.length:Int) - 1).toNat)).length≤maxLen then some (Ds.mk a0.fC a0.fP r5 (([]:List Av)++((a0.fQ.drop (1:Int).toNat).take ((a0.fQ.length:Int) - 1).toNat)) a0.Afv)else none)else none))else none)else(if(0:Int)≤1∧1≤(a0.fQ.length:Int)∧(a0.fQ.length:Int)≤(a0.fQ.length:Int)then(if(([]:List Av)++((a0.fQ.drop (1:Int).toNat).take ((a0.fQ.length:Int) - 1).toNat)).length*72≤140737488355328∧(([]:List Av)++((a0.fQ.drop (1:Int).toNat).take ((a0.fQ.length:Int) - 1).toNat)).length≤maxLen then some (Ds.mk a0.fC a0.fP a0.fL (([]:List Av)++((a0.fQ.drop (1:Int).toNat).take ((a0.fQ.length:Int) - 1).toNat)) a0.Afv)else none)else none))else none)))))else none)
def Bp5:=ct (fd Tryz.func196 ⟨[.b 32 false],[],false⟩ (gC (Bvf K) (gC (Bvg K) (gC (Bvm K) (gC (Bvt K) (gC (Bvx K) gN))))) [] [] [(0,[.take 1 10 5026]),(2,[.take 1 9 5025]),(5,[.put 1]),(7,[.put 1]),(9,[.put 1])] [(39,[.shal 3039])]) (At7 K)
def Ata (K:Nat)(v1:Int)(v2:Int)(v3:Int)(v4:Int)(v5:Int)(v6:Int)(v7:Int)(v8:List Int)(v9:List Int)(v10:List Int)(v11:List A8)(v12:List Av)(v13:List Int)(C1:Int->Int->Int->Int->Int->Int->Int->(List Int)->(List Int)->(List Int)->(List A8)->(List Av)->(List Int)->Option (Int×Ds)):Option (Int×Ds):=((At7 K (Ds.mk (D4.mk v2 v3 v4 v5 v6 v7) (Dh.mk v8 v9 v10) v11 v12 v13)).bind fun r15=>(C1 (Am9 .i64 v1 1) r15.fC.A6 r15.fC.Kh r15.fC.Fj r15.fC.Hb r15.fC.Fk r15.fC.Ki r15.fP.Sk r15.fP.Yq r15.fP.Sl r15.fL r15.fQ r15.Afv))
def Apy (K:Nat)(a1:Int)(a2:Int):Nat->Int->Int->Int->Int->Int->Int->Int->(List Int)->(List Int)->(List Int)->(List A8)->(List Av)->(List Int)->Option (Int×Ds)
 |0,_,_,_,_,_,_,_,_,_,_,_,_,_=>none
 |n1+1,v1,v2,v3,v4,v5,v6,v7,v8,v9,v10,v11,v12,v13=>(bif (decide ((v12.length:Int)>0))then((Apu K v11 0).bind fun r14=>(bif (decide (r14<a1))then(Ata K v1 v2 v3 v4 v5 v6 v7 v8 v9 v10 v11 v12 v13 (Apy K a1 a2 n1))else(bif (decide (a2>0))then((Avn K (Dh.mk v8 v9 v10) a2).bind fun r16=>(bif (decide (r16<0))then(Ata K v1 v2 v3 v4 v5 v6 v7 v8 v9 v10 v11 v12 v13 (Apy K a1 a2 n1))else some (v1,(Ds.mk (D4.mk v2 v3 v4 v5 v6 v7) (Dh.mk v8 v9 v10) v11 v12 v13))))else some (v1,(Ds.mk (D4.mk v2 v3 v4 v5 v6 v7) (Dh.mk v8 v9 v10) v11 v12 v13)))))else some (v1,(Ds.mk (D4.mk v2 v3 v4 v5 v6 v7) (Dh.mk v8 v9 v10) v11 v12 v13)))
def Ava (K:Nat)(a0:Ds)(a1:Int)(a2:Int):Option (Int×Ds):=(Apy K a1 a2 K 0 a0.fC.A6 a0.fC.Kh a0.fC.Fj a0.fC.Hb a0.fC.Fk a0.fC.Ki a0.fP.Sk a0.fP.Yq a0.fP.Sl a0.fL a0.fQ a0.Afv)
def Brm:=fd Tryz.func186 ⟨[.b 32 false,.v 3,.v 3],[.v 3],false⟩ (gC (Bp5 K) (gC (Bpz K) (gC (Bp1 K) gN))) [13,14,21,22,24,25] [56] [(2,[.take 1 10 5026,.take 1 9 5025,.take 1 6 5022,.take 1 7 5023,.take 1 8 5024])]
def Bns:Ef:=⟨[(0,.p 1),(1,.v 2),(2,.v 2),(7,.v 2)],[(1,.box [.v 2,.v 2,.v 2,.v 2,.v 2,.v 2,.T 5 true,.T 3 true,.T 3 true,.T 71 false,.T 79 false,.T 3 true])]⟩
def Bnt:=fun(C28:CT Bns _)=>jn (Brm K) 56 Bns [(28,ar Bns C28)] (fun a b c d e f g h i j k l m o p=>Ata K c d e f g h i j k l m o p (C28 a b)) kN
def Bnu:=lp (Brm K) 28 Bns [] (fun n a b=>Apy K a b n) (fun n=>(kC (Bnt K _) kN))
def Bh3:=ct (Brm K) (Ava K) (kC (Bnu K K) kN)
def Aqq (K:Nat)(a0:List A8):Nat->Int->Option (Int)
 |0,_=>none
 |n1+1,v1=>(bif (decide (v1<(a0.length:Int)))then(if(0:Int)≤v1∧v1<(a0.length:Int)then(bif (((gt a0 v1).Yq)==0)then some v1 else(Aqq K a0 n1 (Am9 .i64 v1 1)))else none)else some (-1))
def Ax3 (K:Nat)(a0:List A8):Option (Int):=(Aqq K a0 K 0)
def Bvy:=fd Tryz.func187 ⟨[.v 29],[.v 3],true⟩ gN
def Bh4:Ef:=⟨[(0,.v 29),(3,.v 2)],[]⟩
def Bnv:=lp Bvy 26 Bh4 [] (fun n a=>Aqq K a n) (fun n=>kN)
def Bvz:=ct Bvy (Ax3 K) (kC (Bnv K K) kN)
def Aqr (K:Nat):Nat->Int->(List Int)->(List Int)->(List Int)->Option (Int)
 |0,_,_,_,_=>none
 |n1+1,v1,v2,v3,v4=>(bif (decide (v1<(v3.length:Int)))then(if(0:Int)≤v1∧v1<(v3.length:Int)then(bif ((gt v3 v1)==0)then some v1 else(Aqr K n1 (Am9 .i64 v1 1) v2 v3 v4))else none)else some (-1))
def Auq (K:Nat)(a0:Dh):Option (Int):=(Aqr K K 0 a0.Sk a0.Yq a0.Sl)
def Bv0:=fd Tryz.func188 ⟨[.v 28],[.v 3],true⟩ gN
def Byf:Ef:=⟨[(1,.p 101),(3,.v 2)],[(101,.box [.v 22,.v 26,.v 26])]⟩
def Bnw:=lp Bv0 26 Byf [] (Aqr K) (fun n=>kN)
def Bp6:=ct Bv0 (Auq K) (kC (Bnw K K) kN)
def Asd (K:Nat)(a1:Int)(a2:Int)(a3:Int):Nat->Int->Dh->Dh->Option (Dh)
 |0,_,_,_=>none
 |n1+1,v3,v4,v5=>(bif (decide (v3<(Am9 .i64 a1 a2)))then(if(0:Int)≤v3∧v3<(v4.Yq.length:Int)then(if(0:Int)≤v3∧v3<(v4.Sl.length:Int)then(Asd K a1 a2 a3 n1 (Am9 .i64 v3 1) (Dh.mk v4.Sk (v4.Yq.set v3.toNat 1) (v4.Sl.set v3.toNat a3)) v5)else none)else none)else some v4)
def Aqs (K:Nat)(a0:Dh)(a1:Int)(a2:Int)(a3:Int):Option (Dh):=((Aqd K a0).bind fun r1=>((Au7 K a0 a1 a2).bind fun r2=>(bif r2 then(bif ((a0.Sl.length:Int) != (a0.Yq.length:Int))then some r1 else(Asd K a1 a2 a3 K a1 r1 (Dh.mk [] [] [])))else some r1)))
def Bv1:=fd Tryz.func189 ⟨[.v 28,.v 3,.v 3,.v 3],[.n 28 true],true⟩ (gC (Bd9 K) (gC (Bp0 K) gN)) [16,17,18] [] [(7,[.take 109 1 6745]),(8,[.take 109 2 6746]),(9,[.take 109 0 6744,.take 109 1 6745,.take 109 2 6746])]
def Byg:Ef:=⟨[(1,.v 2),(2,.v 2),(3,.v 2),(8,.p 108),(9,.p 109),(10,.v 2)],[(109,.st 28 true),(108,.st 28 true)]⟩
def Bh5:=lp (Bv1 K) 122 Byg [] (fun n a b c=>Asd K a b c n) (fun n=>kN)
def Bh6:=ct (Bv1 K) (Aqs K) (kC (Bh5 K K) kN)
def A0h (K:Nat)(a0:A8):Option (Bool):=(bif (a0.Sy==0)then(bif (a0.fUp==0)then(bif (a0.Wk==0)then(bif (a0.Er==0)then(bif (a0.Wl==0)then(bif (a0.Wm==0)then(bif ((a0.A6.length:Int)==0)then(bif (a0.Afu==0)then(bif (a0.Wn==0)then(bif ((a0.H7.length:Int)==0)then some ((a0.F3.length:Int)==0)else some false)else some false)else some false)else some false)else some false)else some false)else some false)else some false)else some false)else some false)
def Bv2:=ct (fd Tryz.func248 ⟨[.v 71],[.v 4],true⟩ gN [5,6,9,10,11,14,15,16,19,20,21,24,25,26,29,30,31,35,36,37,40,41,42,45,46,47,51,52,53]) (A0h K)
def At8 (K:Nat)(a0:List Int)(a1:Int):Nat->Int->Option (Bool)
 |0,_=>none
 |n1+1,v1=>(bif (decide (v1<(a0.length:Int)))then(if(0:Int)≤v1∧v1<(a0.length:Int)then(bif ((gt a0 v1)==a1)then some true else(At8 K a0 a1 n1 (Am9 .i64 v1 1)))else none)else some false)
def Apk (K:Nat)(a0:List Int)(a1:Int):Option (Bool):=(At8 K a0 a1 K 0)
def Bv3:=fd Tryz.func268 ⟨[.v 26,.v 3],[.v 4],true⟩ gN
def Byh:Ef:=⟨[(0,.v 26),(1,.v 2),(5,.v 2)],[]⟩
def Bnx:=lp Bv3 26 Byh [] (fun n a b=>At8 K a b n) (fun n=>kN)
def Bal:=ct Bv3 (Apk K) (kC (Bnx K K) kN)
def Aot (K:Nat)(a0:D4):Nat->Int->Int->Int->Int->Int->Int->Int->Int->Int->(List Int)->Int->Int->(List A7)->(List Int)->Option (Bool)
 |0,_,_,_,_,_,_,_,_,_,_,_,_,_,_=>none
 |n1+1,v1,v2,v3,v4,v5,v6,v7,v8,v9,v10,v11,v12,v13,v14=>(bif (decide (v1<(v10.length:Int)))then(if(0:Int)≤v1∧v1<(v10.length:Int)then((Gy K (gt v10 v1) 0 (Ana .i64 a0.A6 1)).bind fun r15=>(bif r15 then(if(0:Int)≤0∧0≤v1∧v1≤(v10.length:Int)then(if(0:Int)≤v1∧v1<(v10.length:Int)then((Apk K ((v10.drop (0:Int).toNat).take (v1 - 0).toNat) (gt v10 v1)).bind fun r16=>(bif r16 then some false else(Aot K a0 n1 (Am9 .i64 v1 1) v2 v3 v4 v5 v6 v7 v8 v9 v10 v11 v12 v13 v14)))else none)else none)else some false))else none)else(bif (v11==0)then some (v12==0)else((Apk K v10 (Ana .i64 v11 1)).bind fun r17=>(bif r17 then((Gy K v12 0 a0.Kh).bind fun r18=>some r18)else some false))))
def Avq (K:Nat)(a0:D4)(a1:A8):Option (Bool):=(Aot K a0 K 0 a1.Yq a1.C6 a1.Sy a1.fUp a1.Wk a1.Er a1.Wl a1.Wm a1.A6 a1.Afu a1.Wn a1.H7 a1.F3)
def Bv4:=fd Tryz.func249 ⟨[.v 25,.v 71],[.v 4],true⟩ (gC (A0t K) (gC (Bal K) gN)) [21,22,23,46,47]
def Bh7:Ef:=⟨[(2,.p 102),(3,.p 103),(5,.v 2)],[(103,.box [.v 2,.v 2,.v 2,.v 2,.v 2,.v 2,.v 2,.v 2,.v 26,.v 2,.v 2,.v 69,.v 26]),(102,.st 25 true)]⟩
def Bny:=lp (Bv4 K) 26 Bh7 [] (fun n a b c d e f g h i j k l m o p=>Aot K p n a b c d e f g h i j k l m o) (fun n=>kN)
def Bv5:=ct (Bv4 K) (Avq K) (kC (Bny K K) kN)
def Apo (K:Nat)(a0:D4)(a1:Int):Option (Bool):=some (decide (a1>a0.Kh))
def Bh8:=ct (fd Tryz.func193 ⟨[.v 25,.v 3],[.v 4],true⟩ gN) (Apo K)
def Aw5 (K:Nat)(a0:Int)(a1:Int):Option (Int):=((Gy K a0 0 1000000000).bind fun r1=>(bif r1 then((Gy K a1 1 1000000000).bind fun r2=>(bif (!r2)then some 0 else(if a1≠(0:Int)then some (Akr .i64 (Ana .i64 (Am9 .i64 a0 a1) 1) a1)else none)))else some 0))
def Bv6:=ct (fd Tryz.func251 ⟨[.v 3,.v 3],[.v 3],true⟩ (gC (A0t K) gN) [6,7,8]) (Aw5 K)
def Aod (K:Nat)(a0:D4)(a1:Int):Option (Int):=((Aw5 K a1 a0.Kh).bind fun r1=>some r1)
def Bh9:=ct (fd Tryz.func229 ⟨[.v 25,.v 3],[.v 3],true⟩ (gC (Bv6 K) gN)) (Aod K)
def Ase (K:Nat)(a0:D4)(a1:A7):Option (Bool):=((Aqn K a0).bind fun r1=>(bif (r1==0)then some false else(bif (decide (a1.Ai8<1))then some false else(bif (decide (a1.fAt<0))then some false else(bif (decide (a1.fAt>r1))then some false else(bif (decide (a1.Ai8>(Ana .i64 r1 a1.fAt)))then some false else(bif (a1.Ai9==0)then(bif (decide (a1.Ai8≤a0.Kh))then(if a0.Kh≠(0:Int)then(if a0.Kh≠(0:Int)then some ((Akr .i64 a1.fAt a0.Kh)==(Akr .i64 (Ana .i64 (Am9 .i64 a1.fAt a1.Ai8) 1) a0.Kh))else none)else none)else some false)else((Apo K a0 a1.Ai8).bind fun r2=>(bif r2 then((Aod K a0 a1.Ai8).bind fun r3=>(bif (a1.Ai9==r3)then(if a0.Kh≠(0:Int)then some ((Int.tmod a1.fAt a0.Kh)==0)else none)else some false))else some false)))))))))
def Bp7:=ct (fd Tryz.func250 ⟨[.v 25,.v 112],[.v 4],true⟩ (gC (Bm8 K) (gC (Bh8 K) (gC (Bh9 K) gN))) [9,10,13,14,15,18,19,20,24,25,26,42,43,63,64,71,72,73]) (Ase K)
def Apz (K:Nat)(v23:List Int):Nat->Int->Option (Bool)
 |0,_=>none
 |n2+1,v25=>(bif (decide (v25<(v23.length:Int)))then(if(0:Int)≤v25∧v25<(v23.length:Int)then((Gy K (gt v23 v25) 0 255).bind fun r26=>(bif (!r26)then some false else(Apz K v23 n2 (Am9 .i64 v25 1))))else none)else some true)
def Ao6 (K:Nat)(a0:D4):Nat->Int->Int->Int->Int->Int->Int->Int->Int->Int->(List Int)->Int->Int->(List A7)->(List Int)->Option (Bool)
 |0,_,_,_,_,_,_,_,_,_,_,_,_,_,_=>none
 |n1+1,v10,v11,v12,v13,v14,v15,v16,v17,v18,v19,v20,v21,v22,v23=>(bif (decide (v10<(v22.length:Int)))then(if(0:Int)≤v10∧v10<(v22.length:Int)then((Ase K a0 (gt v22 v10)).bind fun r24=>(bif (!r24)then some false else(Ao6 K a0 n1 (Am9 .i64 v10 1) v11 v12 v13 v14 v15 v16 v17 v18 v19 v20 v21 v22 v23)))else none)else(Apz K v23 K 0))
def Apl (K:Nat)(a0:D4)(a1:A8):Option (Bool):=((Am2 K a0).bind fun r1=>(bif r1 then((Gy K a1.Yq 0 3).bind fun r2=>(bif r2 then((Gy K a1.C6 1 a0.Ki).bind fun r3=>(bif (!r3)then some false else(bif (a1.Yq != 1)then((A0h K a1).bind fun r4=>some r4)else(bif (decide (a1.Sy<0))then some false else(bif (decide (a1.Wk<0))then some false else((Gy K a1.fUp 0 a0.Fj).bind fun r5=>(bif r5 then((Gy K a1.Er 0 a0.Fj).bind fun r6=>(bif r6 then((Gy K a1.Wl 0 a0.Fj).bind fun r7=>(bif r7 then((Gy K a1.Wm 0 a0.Fj).bind fun r8=>(bif r8 then((Avq K a0 a1).bind fun r9=>(bif r9 then(bif (decide ((a1.H7.length:Int)>12))then some false else(bif (decide ((a1.F3.length:Int)>6))then some false else(Ao6 K a0 K 0 a1.Yq a1.C6 a1.Sy a1.fUp a1.Wk a1.Er a1.Wl a1.Wm a1.A6 a1.Afu a1.Wn a1.H7 a1.F3)))else some false))else some false))else some false))else some false))else some false)))))))else some false))else some false))
def Brn:=fd Tryz.func227 ⟨[.v 25,.v 71],[.v 4],true⟩ (gC (A0t K) (gC (Baj K) (gC (Bv2 K) (gC (Bv5 K) (gC (Bp7 K) gN))))) [8,9,10,13,14,15,16,31,32,35,36,37,42,43,44,45,50,51,52,53,58,59,60,61,66,67,68,69,72,73,74,75,79,80,81]
def Byi:Ef:=⟨[(3,.p 103),(6,.v 2)],[(103,.box [.v 2,.v 2,.v 2,.v 2,.v 2,.v 2,.v 2,.v 2,.v 26,.v 2,.v 2,.v 69,.v 26])]⟩
def Bia:=lp (Brn K) 506 Byi [] (fun n a _ _ _ _ _ _ _ _ _ _ _ _ o=>Apz K o n a) (fun n=>kN)
def Bib:=lp (Brn K) 250 Bh7 [] (fun n a b c d e f g h i j k l m o p=>Ao6 K p n a b c d e f g h i j k l m o) (fun n=>(kC (up (Bia K K)) kN))
def A8b:=ct (Brn K) (Apl K) (kC (Bib K K) kN)
def Avb (K:Nat)(a0:D4)(a1:A8)(a2:Int):Option (A8×Bool):=((Am3 K a1).bind fun r1=>(bif (a1.Yq != 1)then some (r1,false)else((Gy K a2 0 (Ana .i64 a0.A6 1)).bind fun r2=>(bif (!r2)then some (r1,false)else(if(r1.A6++([a2]:List Int)).length*8≤140737488355328∧(r1.A6++([a2]:List Int)).length≤maxLen then((Apl K a0 (A8.mk r1.Yq r1.C6 r1.Sy r1.fUp r1.Wk r1.Er r1.Wl r1.Wm (r1.A6++([a2]:List Int)) (Am9 .i64 a2 1) 0 r1.H7 r1.F3)).bind fun r3=>(bif (!r3)then((Am3 K a1).bind fun r4=>some (r4,false))else some ((A8.mk r1.Yq r1.C6 r1.Sy r1.fUp r1.Wk r1.Er r1.Wl r1.Wm (r1.A6++([a2]:List Int)) (Am9 .i64 a2 1) 0 r1.H7 r1.F3),true)))else none)))))
def Bp8:=ct (fd Tryz.func190 ⟨[.v 25,.v 71,.v 3],[.n 71 true,.v 4],true⟩ (gC (A0t K) (gC (A8a K) (gC (A8b K) gN))) [13,14]) (Avb K)
def Ayb (K:Nat)(v11:List A8):Option ((List A8)):=some v11
def Awr (K:Nat)(a0:List A8)(a1:Int)(a2:Int):Option ((List A8)):=((As4 K a0).bind fun r1=>((Agf K a0 (Am9 .i64 a1 1)).bind fun r2=>(bif r2 then((Agf K a0 (Am9 .i64 a2 1)).bind fun r3=>(bif r3 then(bif (a1==a2)then some r1 else(if(0:Int)≤a1∧a1<(a0.length:Int)then(if(0:Int)≤a2∧a2<(r1.length:Int)then(Apm (r1.set a2.toNat (A8.mk ((gt r1 a2).Yq) ((gt r1 a2).C6) ((gt r1 a2).Sy) (Am9 .i64 a1 1) ((gt r1 a2).Wk) ((gt r1 a2).Er) ((gt r1 a2).Wl) ((gt r1 a2).Wm) ((gt r1 a2).A6) ((gt r1 a2).Afu) ((gt r1 a2).Wn) ((gt r1 a2).H7) ((gt r1 a2).F3))) fun v4=>(if(0:Int)≤a1∧a1<(a0.length:Int)then(if(0:Int)≤a2∧a2<(v4.length:Int)then(Apm (v4.set a2.toNat (A8.mk ((gt v4 a2).Yq) ((gt v4 a2).C6) ((gt v4 a2).Sy) ((gt v4 a2).fUp) ((gt a0 a1).Sy) ((gt v4 a2).Er) ((gt v4 a2).Wl) ((gt v4 a2).Wm) ((gt v4 a2).A6) ((gt v4 a2).Afu) ((gt v4 a2).Wn) ((gt v4 a2).H7) ((gt v4 a2).F3))) fun v5=>(if(0:Int)≤a2∧a2<(v5.length:Int)then(Apm (v5.set a2.toNat (A8.mk ((gt v5 a2).Yq) ((gt v5 a2).C6) ((gt v5 a2).Sy) ((gt v5 a2).fUp) ((gt v5 a2).Wk) ((gt v5 a2).Er) ((gt a0 a1).Er) ((gt v5 a2).Wm) ((gt v5 a2).A6) ((gt v5 a2).Afu) ((gt v5 a2).Wn) ((gt v5 a2).H7) ((gt v5 a2).F3))) fun v6=>(if(0:Int)≤a2∧a2<(v6.length:Int)then(Apm (v6.set a2.toNat (A8.mk ((gt v6 a2).Yq) ((gt v6 a2).C6) ((gt v6 a2).Sy) ((gt v6 a2).fUp) ((gt v6 a2).Wk) ((gt v6 a2).Er) ((gt v6 a2).Wl) 0 ((gt v6 a2).A6) ((gt v6 a2).Afu) ((gt v6 a2).Wn) ((gt v6 a2).H7) ((gt v6 a2).F3))) fun v7=>(if(0:Int)≤a1∧a1<(v7.length:Int)then(Apm (v7.set a1.toNat (A8.mk ((gt v7 a1).Yq) ((gt v7 a1).C6) ((gt v7 a1).Sy) ((gt v7 a1).fUp) ((gt v7 a1).Wk) (Am9 .i64 a2 1) ((gt v7 a1).Wl) ((gt v7 a1).Wm) ((gt v7 a1).A6) ((gt v7 a1).Afu) ((gt v7 a1).Wn) ((gt v7 a1).H7) ((gt v7 a1).F3))) fun v8=>((Agf K a0 ((gt a0 a1).Er)).bind fun r9=>(bif r9 then(if(0:Int)≤(Ana .i64 ((gt a0 a1).Er) 1)∧(Ana .i64 ((gt a0 a1).Er) 1)<(v8.length:Int)then(Apm (v8.set (Ana .i64 ((gt a0 a1).Er) 1).toNat (A8.mk ((gt v8 (Ana .i64 ((gt a0 a1).Er) 1)).Yq) ((gt v8 (Ana .i64 ((gt a0 a1).Er) 1)).C6) ((gt v8 (Ana .i64 ((gt a0 a1).Er) 1)).Sy) ((gt v8 (Ana .i64 ((gt a0 a1).Er) 1)).fUp) ((gt v8 (Ana .i64 ((gt a0 a1).Er) 1)).Wk) ((gt v8 (Ana .i64 ((gt a0 a1).Er) 1)).Er) ((gt v8 (Ana .i64 ((gt a0 a1).Er) 1)).Wl) (Am9 .i64 a2 1) ((gt v8 (Ana .i64 ((gt a0 a1).Er) 1)).A6) ((gt v8 (Ana .i64 ((gt a0 a1).Er) 1)).Afu) ((gt v8 (Ana .i64 ((gt a0 a1).Er) 1)).Wn) ((gt v8 (Ana .i64 ((gt a0 a1).Er) 1)).H7) ((gt v8 (Ana .i64 ((gt a0 a1).Er) 1)).F3))) fun v10=>(Ayb K v10))else none)else(Ayb K v8))))else none))else none))else none))else none)else none))else none)else none))else some r1))else some r1)))
def Bv7:=fd Tryz.func191 ⟨[.v 29,.v 3,.v 3],[.n 29 true],true⟩ (gC (A48 K) (gC (Beb K) gN)) [14,15,16,20,21,22,23] [1023]
def Bfi:=jn (Bv7 K) 1023 Bvw [] (Ayb K) kN
def Bv8:=ct (Bv7 K) (Awr K) (kC (Bfi K) kN)
def Asf (K:Nat)(a1:Int):Nat->Int->Int->Int->Int->Int->Int->Int->(List Int)->(List Int)->(List Int)->(List A8)->(List Av)->(List Int)->Option (Int×Ds)
 |0,_,_,_,_,_,_,_,_,_,_,_,_,_=>none
 |n1+1,v1,v2,v3,v4,v5,v6,v7,v8,v9,v10,v11,v12,v13=>(bif (decide (v1<a1))then(bif ((v12.length:Int)==0)then some (v1,(Ds.mk (D4.mk v2 v3 v4 v5 v6 v7) (Dh.mk v8 v9 v10) v11 v12 v13))else((At7 K (Ds.mk (D4.mk v2 v3 v4 v5 v6 v7) (Dh.mk v8 v9 v10) v11 v12 v13)).bind fun r14=>(Asf K a1 n1 (Am9 .i64 v1 1) r14.fC.A6 r14.fC.Kh r14.fC.Fj r14.fC.Hb r14.fC.Fk r14.fC.Ki r14.fP.Sk r14.fP.Yq r14.fP.Sl r14.fL r14.fQ r14.Afv)))else some (a1,(Ds.mk (D4.mk v2 v3 v4 v5 v6 v7) (Dh.mk v8 v9 v10) v11 v12 v13)))
def Asg (K:Nat)(a0:Ds)(a1:Int):Option (Int×Ds):=(Asf K a1 K 0 a0.fC.A6 a0.fC.Kh a0.fC.Fj a0.fC.Hb a0.fC.Fk a0.fC.Ki a0.fP.Sk a0.fP.Yq a0.fP.Sl a0.fL a0.fQ a0.Afv)
def Bv9:=fd Tryz.func146 ⟨[.b 32 false,.v 3],[.v 3],false⟩ (gC (Bp5 K) gN) [] [] [(4,[.take 1 10 5026]),(6,[.put 1])]
def Byj:Ef:=⟨[(0,.p 1),(1,.v 2),(5,.v 2)],[(1,.box [.v 2,.v 2,.v 2,.v 2,.v 2,.v 2,.T 5 true,.T 3 true,.T 3 true,.T 71 false,.T 79 false,.T 3 true])]⟩
def Bnz:=lp (Bv9 K) 26 Byj [] (fun n a=>Asf K a n) (fun n=>kN)
def Bic:=ct (Bv9 K) (Asg K) (kC (Bnz K K) kN)
def Aoe (K:Nat)(v3:Int)(v4:Int)(v5:Int)(v6:Int)(v7:Int)(v8:Int)(v9:Int)(v10:List Int)(v11:List Int)(v12:List Int)(v13:List A8)(v14:List Av)(v15:List Int)(v16:Es)(v17:Es):Option (Es×Ds):=(bif (v16.Wq != 0)then some (v16,(Ds.mk (D4.mk v4 v5 v6 v7 v8 v9) (Dh.mk v10 v11 v12) v13 v14 v15))else((Ava K (Ds.mk (D4.mk v4 v5 v6 v7 v8 v9) (Dh.mk v10 v11 v12) v13 v14 v15) 1 1).bind fun r18=>((Ax3 K r18.2.fL).bind fun r19=>((Auq K r18.2.fP).bind fun r20=>(bif (decide (r19<0))then some ((Es.mk 5 (Bo.mk 0 0) (Dy.mk (Bo.mk 0 0) 0 0) [] 0 0 0),r18.2)else(bif (decide (r20<0))then some ((Es.mk 5 (Bo.mk 0 0) (Dy.mk (Bo.mk 0 0) 0 0) [] 0 0 0),r18.2)else(if(0:Int)≤r19∧r19<(r18.2.fL.length:Int)then((Aqo K ((gt r18.2.fL r19).C6)).bind fun r21=>((Aqs K r18.2.fP r20 1 r19).bind fun r22=>((Avb K r18.2.fC (A8.mk 1 r21.C6 r21.Sy r21.fUp r21.Wk r21.Er r21.Wl r21.Wm r21.A6 r21.Afu r21.Wn r21.H7 r21.F3) r20).bind fun r23=>(if(0:Int)≤r19∧r19<(r18.2.fL.length:Int)then(bif (decide (v3≥0))then((Awr K (r18.2.fL.set r19.toNat r23.1) v3 r19).bind fun r24=>((Aq3 K r24 r19).bind fun r25=>((Asg K (Ds.mk r18.2.fC r22 r24 r18.2.fQ r18.2.Afv) r18.2.fC.Hb).bind fun r26=>some ((Es.mk v16.Wq r25 v16.fR v16.fB v16.Wr r26.1 r18.1),r26.2))))else((Aq3 K (r18.2.fL.set r19.toNat r23.1) r19).bind fun r27=>((Asg K (Ds.mk r18.2.fC r22 (r18.2.fL.set r19.toNat r23.1) r18.2.fQ r18.2.Afv) r18.2.fC.Hb).bind fun r28=>some ((Es.mk v16.Wq r27 v16.fR v16.fB v16.Wr r28.1 r18.1),r28.2))))else none))))else none)))))))
def Ash (K:Nat)(v30:Int)(v31:Bool)(v32:Int)(v33:Int)(v34:Int)(v35:Int)(v36:Int)(v37:Int)(v38:List Int)(v39:List Int)(v40:List Int)(v41:List A8)(v42:List Av)(v43:List Int)(v44:Es)(v45:Es):Option (Es×Ds):=(bif v31 then(Aoe K v30 v32 v33 v34 v35 v36 v37 v38 v39 v40 v41 v42 v43 (Es.mk 3 v44.fH v44.fR v44.fB v44.Wr v44.Hb v44.N7) v45)else((Ayw K (Ds.mk (D4.mk v32 v33 v34 v35 v36 v37) (Dh.mk v38 v39 v40) v41 v42 v43)).bind fun r46=>(bif (r46==0)then(Aoe K v30 v32 v33 v34 v35 v36 v37 v38 v39 v40 v41 v42 v43 (Es.mk 4 v44.fH v44.fR v44.fB v44.Wr v44.Hb v44.N7) v45)else((Aq4 K (Ds.mk (D4.mk v32 v33 v34 v35 v36 v37) (Dh.mk v38 v39 v40) v41 v42 v43) 1).bind fun r47=>(bif (!r47)then(Aoe K v30 v32 v33 v34 v35 v36 v37 v38 v39 v40 v41 v42 v43 (Es.mk 5 v44.fH v44.fR v44.fB v44.Wr v44.Hb v44.N7) v45)else(Aoe K v30 v32 v33 v34 v35 v36 v37 v38 v39 v40 v41 v42 v43 v44 v45))))))
def Aw6 (K:Nat)(a0:Ds)(a1:Bo):Option (Es×Ds):=((Ay6 K a0 a1).bind fun r1=>((Aos K a0 a1).bind fun r2=>(bif (r1.2 != 0)then(Aoe K r1.1 a0.fC.A6 a0.fC.Kh a0.fC.Fj a0.fC.Hb a0.fC.Fk a0.fC.Ki a0.fP.Sk a0.fP.Yq a0.fP.Sl a0.fL a0.fQ a0.Afv (Es.mk r1.2 (Bo.mk 0 0) (Dy.mk (Bo.mk 0 0) 0 0) [] r2 0 0) (Es.mk 0 (Bo.mk 0 0) (Dy.mk (Bo.mk 0 0) 0 0) [] 0 0 0))else(bif (decide (r1.1≥0))then((Au6 K a0.fL r1.1).bind fun r29=>(Ash K r1.1 (decide (r29≥4)) a0.fC.A6 a0.fC.Kh a0.fC.Fj a0.fC.Hb a0.fC.Fk a0.fC.Ki a0.fP.Sk a0.fP.Yq a0.fP.Sl a0.fL a0.fQ a0.Afv (Es.mk r1.2 (Bo.mk 0 0) (Dy.mk (Bo.mk 0 0) 0 0) [] r2 0 0) (Es.mk 0 (Bo.mk 0 0) (Dy.mk (Bo.mk 0 0) 0 0) [] 0 0 0)))else(Ash K r1.1 false a0.fC.A6 a0.fC.Kh a0.fC.Fj a0.fC.Hb a0.fC.Fk a0.fC.Ki a0.fP.Sk a0.fP.Yq a0.fP.Sl a0.fL a0.fQ a0.Afv (Es.mk r1.2 (Bo.mk 0 0) (Dy.mk (Bo.mk 0 0) 0 0) [] r2 0 0) (Es.mk 0 (Bo.mk 0 0) (Dy.mk (Bo.mk 0 0) 0 0) [] 0 0 0))))))
def Bro:=fd Tryz.func144 ⟨[.b 32 false,.v 34],[.n 47 true],false⟩ (gC (Bpt K) (gC (Bic K) (gC (A6f K) (gC (Bhn K) (gC (Bu9 K) (gC (Bpx K) (gC (Bva K) (gC (Bhy K) (gC (Bh3 K) (gC (Bvz K) (gC (Bp6 K) (gC (Bh6 K) (gC (Bp8 K) (gC (Bv8 K) gN)))))))))))))) [31,32,74,75] [15,243] [(1,[.take 1 6 5022,.take 1 7 5023,.take 1 8 5024,.take 1 9 5025,.take 1 10 5026,.take 1 11 5027]),(6,[.take 1 6 5022,.take 1 7 5023,.take 1 8 5024,.take 1 9 5025,.take 1 10 5026,.take 1 11 5027]),(11,[.take 107 7 6719]),(13,[.take 1 9 5025]),(14,[.take 1 6 5022,.take 1 7 5023,.take 1 8 5024]),(23,[.put 5025]),(24,[.put 5025]),(25,[.put 1,.take 1 9 5025,.shal 5025]),(26,[.take 107 7 6719])] [(141,[.put 1])]
def Byk:Ef:=⟨[(0,.p 1),(4,.p 104),(5,.v 2),(7,.p 107)],[(1,.box [.v 2,.v 2,.v 2,.v 2,.v 2,.v 2,.T 5 true,.T 3 true,.T 3 true,.T 71 false,.T 79 false,.T 3 true]),(107,.st 47 true),(104,.st 47 true)]⟩
def Byl:Ef:=⟨[(0,.p 1),(4,.p 104),(5,.v 2),(7,.p 107),(29,.v 4)],[(1,.box [.v 2,.v 2,.v 2,.v 2,.v 2,.v 2,.T 5 true,.T 3 true,.T 3 true,.T 71 false,.T 79 false,.T 3 true]),(107,.st 47 true),(104,.st 47 true)]⟩
def Bec:=jn (Bro K) 15 Byk [] (Aoe K) kN
def Bid:=jn (Bro K) 243 Byl [] (Ash K) (kC (Bec K) kN)
def Bwa:=ct (Bro K) (Aw6 K) (kC (Bec K) (kC (Bid K) kN))
def Aqt (K:Nat)(a0:Int):Option (Bool):=(bif (a0==1)then some true else(bif (a0==2)then some true else some (a0==4)))
def Bed:=ct (fd Tryz.func192 ⟨[.v 3],[.v 4],true⟩ gN [4,5,7,8,9]) (Aqt K)
def Arg (K:Nat)(a0:D4)(a2:Int)(a3:Int)(r6:Int):Nat->Int->A8->A8->Int->Int->Int->Int->Int->Int->Int->Int->(List Int)->Int->Int->(List A7)->(List Int)->Option (A8×Bool)
 |0,_,_,_,_,_,_,_,_,_,_,_,_,_,_,_,_=>none
 |n1+1,v7,v8,v9,v10,v11,v12,v13,v14,v15,v16,v17,v18,v19,v20,v21,v22=>(bif (decide (v7<r6))then(if(v8.A6++([(Am9 .i64 a2 v7)]:List Int)).length*8≤140737488355328∧(v8.A6++([(Am9 .i64 a2 v7)]:List Int)).length≤maxLen then(Arg K a0 a2 a3 r6 n1 (Am9 .i64 v7 1) (A8.mk v8.Yq v8.C6 v8.Sy v8.fUp v8.Wk v8.Er v8.Wl v8.Wm (v8.A6++([(Am9 .i64 a2 v7)]:List Int)) v8.Afu v8.Wn v8.H7 v8.F3) v9 v10 v11 v12 v13 v14 v15 v16 v17 v18 v19 v20 v21 v22)else none)else(if(v8.H7++([(A7.mk (Anb .i64 a2 a0.Kh) a3 r6)]:List A7)).length*24≤140737488355328∧(v8.H7++([(A7.mk (Anb .i64 a2 a0.Kh) a3 r6)]:List A7)).length≤maxLen then((Apl K a0 (A8.mk v8.Yq v8.C6 v8.Sy v8.fUp v8.Wk v8.Er v8.Wl v8.Wm v8.A6 v8.Afu v8.Wn (v8.H7++([(A7.mk (Anb .i64 a2 a0.Kh) a3 r6)]:List A7)) v8.F3)).bind fun r23=>(bif (!r23)then((Am3 K (A8.mk v10 v11 v12 v13 v14 v15 v16 v17 v18 v19 v20 v21 v22)).bind fun r24=>some (r24,false))else some ((A8.mk v8.Yq v8.C6 v8.Sy v8.fUp v8.Wk v8.Er v8.Wl v8.Wm v8.A6 v8.Afu v8.Wn (v8.H7++([(A7.mk (Anb .i64 a2 a0.Kh) a3 r6)]:List A7)) v8.F3),true)))else none))
def Avr (K:Nat)(a0:D4)(a1:A8)(a2:Int)(a3:Int):Option (A8×Bool):=((Am3 K a1).bind fun r1=>((Am2 K a0).bind fun r2=>(bif r2 then(bif (a1.Yq != 1)then some (r1,false)else((Apo K a0 a3).bind fun r3=>(bif r3 then((Aqn K a0).bind fun r4=>(bif (decide (a3>r4))then some (r1,false)else((Gy K a2 0 (Ana .i64 a0.A6 1)).bind fun r5=>(bif (!r5)then some (r1,false)else((Aod K a0 a3).bind fun r6=>(Arg K a0 a2 a3 r6 K 0 r1 (A8.mk 0 0 0 0 0 0 0 0 [] 0 0 [] []) a1.Yq a1.C6 a1.Sy a1.fUp a1.Wk a1.Er a1.Wl a1.Wm a1.A6 a1.Afu a1.Wn a1.H7 a1.F3))))))else some (r1,false))))else some (r1,false))))
def Bwb:=fd Tryz.func230 ⟨[.v 25,.v 71,.v 3,.v 3],[.n 71 true,.v 4],true⟩ (gC (A0t K) (gC (Baj K) (gC (Bm8 K) (gC (Bh8 K) (gC (A8a K) (gC (A8b K) (gC (Bh9 K) gN))))))) [16,17,18,21,22,23,26,27,28,29,33,34,35] [] [(8,[.take 110 8 6768]),(9,[.take 110 11 6771]),(10,[.take 110 8 6768,.take 110 12 6772])]
def Bym:Ef:=⟨[(2,.v 2),(3,.v 2),(4,.p 104),(5,.p 105),(8,.p 108),(10,.p 110),(11,.v 2),(12,.v 2)],[(110,.st 71 true),(108,.st 71 true),(105,.box [.v 2,.v 2,.v 2,.v 2,.v 2,.v 2,.v 2,.v 2,.v 26,.v 2,.v 2,.v 69,.v 26]),(104,.st 25 true)]⟩
def Bie:=lp (Bwb K) 250 Bym [] (fun n a b c d e f g h i j k l m o p q r s t u=>Arg K u a b c n d e f g h i j k l m o p q r s t) (fun n=>kN)
def Bwc:=ct (Bwb K) (Avr K) (kC (Bie K K) kN)
def Avs (K:Nat)(a0:Ds)(a1:Int)(a2:Int)(a3:Es):Option (Es×Ds):=((Aod K a0.fC a2).bind fun r1=>((Aq4 K a0 r1).bind fun r2=>(bif (!r2)then some ((Es.mk 5 a3.fH a3.fR a3.fB a3.Wr a3.Hb a3.N7),a0)else((Ava K a0 0 r1).bind fun r3=>((Avn K r3.2.fP r1).bind fun r4=>(bif (decide (r4<0))then some ((Es.mk 6 a3.fH a3.fR a3.fB a3.Wr a3.Hb r3.1),r3.2)else((Aqs K r3.2.fP r4 r1 a1).bind fun r5=>(if(0:Int)≤a1∧a1<(r3.2.fL.length:Int)then((Avr K r3.2.fC (gt r3.2.fL a1) r4 a2).bind fun r6=>(if(0:Int)≤a1∧a1<(r3.2.fL.length:Int)then some ((Es.mk a3.Wq a3.fH a3.fR a3.fB a3.Wr a3.Hb r3.1),(Ds.mk r3.2.fC r5 (r3.2.fL.set a1.toNat r6.1) r3.2.fQ r3.2.Afv))else none))else none))))))))
def Bwd:=ct (fd Tryz.func194 ⟨[.b 32 false,.v 3,.v 3,.v 47],[.v 47],false⟩ (gC (Bhy K) (gC (Bh3 K) (gC (Bh6 K) (gC (Bp1 K) (gC (Bh9 K) (gC (Bwc K) gN)))))) [] [] [(2,[.take 1 6 5022,.take 1 7 5023,.take 1 8 5024,.take 1 9 5025,.take 1 10 5026,.take 1 11 5027]),(5,[.put 1]),(6,[.take 1 6 5022,.take 1 7 5023,.take 1 8 5024]),(11,[.take 1 9 5025])]) (Avs K)
def Aw7 (K:Nat)(a0:Int)(a1:Int):Option (Int):=((Gy K a0 0 1000000000).bind fun r1=>(bif r1 then((Aqt K a1).bind fun r2=>(bif (!r2)then some 0 else(if a1≠(0:Int)then some (Anb .i64 (Akr .i64 (Ana .i64 (Am9 .i64 a0 a1) 1) a1) a1)else none)))else some 0))
def Bwe:=ct (fd Tryz.func269 ⟨[.v 3,.v 3],[.v 3],true⟩ (gC (A0t K) (gC (Bed K) gN)) [6,7,8]) (Aw7 K)
def Avc (K:Nat)(a0:D4)(a1:A8)(a2:Int)(a3:Int):Option (Int×Bool):=((Apl K a0 a1).bind fun r1=>(bif r1 then(bif (a1.Afu==0)then some (0,false)else((Gy K a2 1 a0.Kh).bind fun r2=>(bif r2 then((Aqt K a3).bind fun r3=>(bif (!r3)then some (0,false)else((Aw7 K a1.Wn a3).bind fun r4=>(bif (decide ((Am9 .i64 r4 a2)>a0.Kh))then some (0,false)else some ((Am9 .i64 (Anb .i64 (Ana .i64 a1.Afu 1) a0.Kh) r4),true)))))else some (0,false))))else some (0,false)))
def Bp9:=ct (fd Tryz.func252 ⟨[.v 25,.v 71,.v 3,.v 3],[.v 3,.v 4],true⟩ (gC (A0t K) (gC (Bed K) (gC (A8b K) (gC (Bwe K) gN)))) [13,14,15,18,19,20,24,25,26,27]) (Avc K)
def Att (K:Nat)(a0:D4)(a1:A8)(a2:Int)(a3:Int):Option (Bool):=((Avc K a0 a1 a2 a3).bind fun r1=>(bif r1.2 then some false else((Apl K a0 a1).bind fun r2=>(bif r2 then(bif (a1.Yq==1)then((Gy K a2 1 a0.Kh).bind fun r3=>(bif r3 then((Aqt K a3).bind fun r4=>some r4)else some false))else some false)else some false))))
def Bwf:=ct (fd Tryz.func231 ⟨[.v 25,.v 71,.v 3,.v 3],[.v 4],true⟩ (gC (A0t K) (gC (Bed K) (gC (A8b K) (gC (Bp9 K) gN)))) [19,20,21,24,25,26,29,30,31,35,36,37]) (Att K)
def Avt (K:Nat)(a0:D4)(a1:A8)(a2:Int)(a3:Int):Option (A8×Bool):=((Am3 K a1).bind fun r1=>((Avc K a0 a1 a2 a3).bind fun r2=>(bif r2.2 then(bif (decide ((a1.H7.length:Int)≥12))then some (r1,false)else(if(r1.H7++([(A7.mk r2.1 a2 0)]:List A7)).length*24≤140737488355328∧(r1.H7++([(A7.mk r2.1 a2 0)]:List A7)).length≤maxLen then some ((A8.mk r1.Yq r1.C6 r1.Sy r1.fUp r1.Wk r1.Er r1.Wl r1.Wm r1.A6 r1.Afu (Am9 .i64 (Ana .i64 r2.1 (Anb .i64 (Ana .i64 a1.Afu 1) a0.Kh)) a2) (r1.H7++([(A7.mk r2.1 a2 0)]:List A7)) r1.F3),true)else none))else some (r1,false))))
def Bwg:=ct (fd Tryz.func232 ⟨[.v 25,.v 71,.v 3,.v 3],[.n 71 true,.v 4],true⟩ (gC (A8a K) (gC (Bp9 K) gN)) [23,24,25]) (Avt K)
def Arh (K:Nat)(a1:Int)(a2:Int)(a3:Int)(v7:Int)(v8:Int)(v9:Int)(v10:Int)(v11:Int)(v12:Int)(v13:List Int)(v14:List Int)(v15:List Int)(v16:List A8)(v17:List Av)(v18:List Int)(v19:Es)(v20:Int)(v21:Int)(v22:Int)(v23:Int)(v24:Int)(v25:Int)(v26:Int)(v27:List Int)(v28:Int)(v29:Int)(v30:Int):Option (Es×Ds):=(if(0:Int)≤a1∧a1<(v16.length:Int)then((Avt K (D4.mk v7 v8 v9 v10 v11 v12) (gt v16 a1) a2 a3).bind fun r31=>(if(0:Int)≤a1∧a1<(v16.length:Int)then some ((Es.mk v20 (Bo.mk v21 v22) (Dy.mk (Bo.mk v23 v24) v25 v26) v27 v28 v29 v30),(Ds.mk (D4.mk v7 v8 v9 v10 v11 v12) (Dh.mk v13 v14 v15) (v16.set a1.toNat r31.1) v17 v18))else none))else none)
def Avu (K:Nat)(a0:Ds)(a1:Int)(a2:Int)(a3:Int)(a4:Es):Option (Es×Ds):=(if(0:Int)≤a1∧a1<(a0.fL.length:Int)then((Att K a0.fC (gt a0.fL a1) a2 a3).bind fun r1=>(bif r1 then((Aq4 K a0 1).bind fun r2=>(bif (!r2)then some ((Es.mk 5 a4.fH a4.fR a4.fB a4.Wr a4.Hb a4.N7),a0)else((Ava K a0 0 1).bind fun r3=>((Auq K r3.2.fP).bind fun r4=>(bif (decide (r4<0))then some ((Es.mk 5 a4.fH a4.fR a4.fB a4.Wr a4.Hb r3.1),r3.2)else((Aqs K r3.2.fP r4 1 a1).bind fun r5=>(if(0:Int)≤a1∧a1<(r3.2.fL.length:Int)then((Avb K r3.2.fC (gt r3.2.fL a1) r4).bind fun r6=>(if(0:Int)≤a1∧a1<(r3.2.fL.length:Int)then(Arh K a1 a2 a3 r3.2.fC.A6 r3.2.fC.Kh r3.2.fC.Fj r3.2.fC.Hb r3.2.fC.Fk r3.2.fC.Ki r5.Sk r5.Yq r5.Sl (r3.2.fL.set a1.toNat r6.1) r3.2.fQ r3.2.Afv (Es.mk 0 (Bo.mk 0 0) (Dy.mk (Bo.mk 0 0) 0 0) [] 0 0 0) a4.Wq a4.fH.Be a4.fH.C6 a4.fR.fH.Be a4.fR.fH.C6 a4.fR.Sy a4.fR.fNo a4.fB a4.Wr a4.Hb r3.1)else none))else none)))))))else(Arh K a1 a2 a3 a0.fC.A6 a0.fC.Kh a0.fC.Fj a0.fC.Hb a0.fC.Fk a0.fC.Ki a0.fP.Sk a0.fP.Yq a0.fP.Sl a0.fL a0.fQ a0.Afv (Es.mk 0 (Bo.mk 0 0) (Dy.mk (Bo.mk 0 0) 0 0) [] 0 0 0) a4.Wq a4.fH.Be a4.fH.C6 a4.fR.fH.Be a4.fR.fH.C6 a4.fR.Sy a4.fR.fNo a4.fB a4.Wr a4.Hb a4.N7)))else none)
def Bwh:=fd Tryz.func195 ⟨[.b 32 false,.v 3,.v 3,.v 3,.v 47],[.v 47],false⟩ (gC (Bhy K) (gC (Bh3 K) (gC (Bp6 K) (gC (Bh6 K) (gC (Bp8 K) (gC (Bwf K) (gC (Bwg K) gN))))))) [] [3] [(1,[.take 1 9 5025]),(2,[.take 1 6 5022,.take 1 7 5023,.take 1 8 5024,.take 1 10 5026,.take 1 11 5027]),(5,[.put 1]),(6,[.take 1 6 5022,.take 1 7 5023,.take 1 8 5024]),(11,[.take 1 9 5025]),(13,[.take 1 9 5025])]
def Byn:Ef:=⟨[(0,.p 1),(1,.v 2),(2,.v 2),(3,.v 2),(9,.p 109),(10,.p 110)],[(1,.box [.v 2,.v 2,.v 2,.v 2,.v 2,.v 2,.T 5 true,.T 3 true,.T 3 true,.T 71 false,.T 79 false,.T 3 true]),(110,.st 47 true),(109,.box [.v 2,.v 2,.v 2,.v 2,.v 2,.v 2,.v 2,.v 22,.v 2,.v 2,.v 2])]⟩
def Brp:=jn (Bwh K) 3 Byn [] (Arh K) kN
def Bwi:=ct (Bwh K) (Avu K) (kC (Brp K) kN)
def Ari (K:Nat)(a1:Bo)(v5:Int)(v22:Int)(v23:Int)(v24:Int)(v25:Int)(v26:Int)(v27:Int)(v28:List Int)(v29:List Int)(v30:List Int)(v31:List A8)(v32:List Av)(v33:List Int)(v34:Int)(v35:Int)(v36:Int)(v37:Int)(v38:Int)(v39:Int)(v40:Int)(v41:List Int)(v42:Int)(v43:Int)(v44:Int):Option (Es×Ds):=(bif (v34 != 0)then some ((Es.mk v34 (Bo.mk v35 v36) (Dy.mk (Bo.mk v37 v38) v39 v40) v41 v42 v43 v44),(Ds.mk (D4.mk v22 v23 v24 v25 v26 v27) (Dh.mk v28 v29 v30) v31 v32 v33))else(if(0:Int)≤v5∧v5<(v31.length:Int)then(if(0:Int)≤v5∧v5<(v31.length:Int)then((Asg K (Ds.mk (D4.mk v22 v23 v24 v25 v26 v27) (Dh.mk v28 v29 v30) v31 v32 v33) v25).bind fun r45=>some ((Es.mk v34 (Bo.mk v35 v36) (Dy.mk a1 ((gt v31 v5).Sy) (Ana .i64 (((gt v31 v5).H7).length:Int) 1)) v41 v42 r45.1 v44),r45.2))else none)else none))
def Apv (K:Nat)(a1:Bo)(a2:Int)(a3:Int)(v5:Int)(v6:Int)(v7:Int)(v8:Int)(v9:Int)(v10:Int)(v11:Int)(v12:List Int)(v13:List Int)(v14:List Int)(v15:List A8)(v16:List Av)(v17:List Int)(v18:Es)(v19:Es):Option (Es×Ds):=(bif (v18.Wq != 0)then some (v18,(Ds.mk (D4.mk v6 v7 v8 v9 v10 v11) (Dh.mk v12 v13 v14) v15 v16 v17))else((Apo K (D4.mk v6 v7 v8 v9 v10 v11) a2).bind fun r20=>(bif r20 then((Avs K (Ds.mk (D4.mk v6 v7 v8 v9 v10 v11) (Dh.mk v12 v13 v14) v15 v16 v17) v5 a2 v18).bind fun r21=>(Ari K a1 v5 r21.2.fC.A6 r21.2.fC.Kh r21.2.fC.Fj r21.2.fC.Hb r21.2.fC.Fk r21.2.fC.Ki r21.2.fP.Sk r21.2.fP.Yq r21.2.fP.Sl r21.2.fL r21.2.fQ r21.2.Afv r21.1.Wq r21.1.fH.Be r21.1.fH.C6 r21.1.fR.fH.Be r21.1.fR.fH.C6 r21.1.fR.Sy r21.1.fR.fNo r21.1.fB r21.1.Wr r21.1.Hb r21.1.N7))else((Avu K (Ds.mk (D4.mk v6 v7 v8 v9 v10 v11) (Dh.mk v12 v13 v14) v15 v16 v17) v5 a2 a3 v18).bind fun r46=>(Ari K a1 v5 r46.2.fC.A6 r46.2.fC.Kh r46.2.fC.Fj r46.2.fC.Hb r46.2.fC.Fk r46.2.fC.Ki r46.2.fP.Sk r46.2.fP.Yq r46.2.fP.Sl r46.2.fL r46.2.fQ r46.2.Afv r46.1.Wq r46.1.fH.Be r46.1.fH.C6 r46.1.fR.fH.Be r46.1.fR.fH.C6 r46.1.fR.Sy r46.1.fR.fNo r46.1.fB r46.1.Wr r46.1.Hb r46.1.N7)))))
def Avv (K:Nat)(a0:Ds)(a1:Bo)(a2:Int)(a3:Int):Option (Es×Ds):=((Gy K a2 1 200).bind fun r1=>(bif r1 then((Aqt K a3).bind fun r2=>(bif (!r2)then some ((Es.mk 1 (Bo.mk 0 0) (Dy.mk (Bo.mk 0 0) 0 0) [] 0 0 0),a0)else((Am5 K a0 a1).bind fun r3=>((Aos K a0 a1).bind fun r4=>(bif (r3.2==0)then(if(0:Int)≤r3.1∧r3.1<(a0.fL.length:Int)then(bif (decide ((((gt a0.fL r3.1).H7).length:Int)≥12))then(Apv K a1 a2 a3 r3.1 a0.fC.A6 a0.fC.Kh a0.fC.Fj a0.fC.Hb a0.fC.Fk a0.fC.Ki a0.fP.Sk a0.fP.Yq a0.fP.Sl a0.fL a0.fQ a0.Afv (Es.mk 8 (Bo.mk 0 0) (Dy.mk (Bo.mk 0 0) 0 0) [] r4 0 0) (Es.mk 0 (Bo.mk 0 0) (Dy.mk (Bo.mk 0 0) 0 0) [] 0 0 0))else(Apv K a1 a2 a3 r3.1 a0.fC.A6 a0.fC.Kh a0.fC.Fj a0.fC.Hb a0.fC.Fk a0.fC.Ki a0.fP.Sk a0.fP.Yq a0.fP.Sl a0.fL a0.fQ a0.Afv (Es.mk r3.2 (Bo.mk 0 0) (Dy.mk (Bo.mk 0 0) 0 0) [] r4 0 0) (Es.mk 0 (Bo.mk 0 0) (Dy.mk (Bo.mk 0 0) 0 0) [] 0 0 0)))else none)else(Apv K a1 a2 a3 r3.1 a0.fC.A6 a0.fC.Kh a0.fC.Fj a0.fC.Hb a0.fC.Fk a0.fC.Ki a0.fP.Sk a0.fP.Yq a0.fP.Sl a0.fL a0.fQ a0.Afv (Es.mk r3.2 (Bo.mk 0 0) (Dy.mk (Bo.mk 0 0) 0 0) [] r4 0 0) (Es.mk 0 (Bo.mk 0 0) (Dy.mk (Bo.mk 0 0) 0 0) [] 0 0 0)))))))else some ((Es.mk 1 (Bo.mk 0 0) (Dy.mk (Bo.mk 0 0) 0 0) [] 0 0 0),a0)))
def Brq:=fd Tryz.func145 ⟨[.b 32 false,.v 34,.v 3,.v 3],[.v 47],false⟩ (gC (A0t K) (gC (Bic K) (gC (A79 K) (gC (A6f K) (gC (Bed K) (gC (Bh8 K) (gC (Bwd K) (gC (Bwi K) gN)))))))) [13,14,15,37,38] [31,127] [(3,[.take 1 6 5022,.take 1 7 5023,.take 1 8 5024,.take 1 9 5025,.take 1 10 5026,.take 1 11 5027]),(8,[.take 111 7 6783]),(10,[.take 111 7 6783,.frz 6783]),(11,[.take 111 7 6783,.frz 6783]),(14,[.take 1 9 5025]),(15,[.put 1])]
def Byo:Ef:=⟨[(0,.p 1),(5,.p 105),(8,.p 108),(9,.v 2),(11,.p 111)],[(1,.box [.v 2,.v 2,.v 2,.v 2,.v 2,.v 2,.T 5 true,.T 3 true,.T 3 true,.T 71 false,.T 79 false,.T 3 true]),(111,.box [.v 2,.v 2,.v 2,.v 2,.v 2,.v 2,.v 2,.v 22,.v 2,.v 2,.v 2]),(108,.st 47 true),(105,.st 34 true)]⟩
def Byp:Ef:=⟨[(0,.p 1),(2,.v 2),(3,.v 2),(5,.p 105),(8,.p 108),(9,.v 2),(11,.p 111)],[(1,.box [.v 2,.v 2,.v 2,.v 2,.v 2,.v 2,.T 5 true,.T 3 true,.T 3 true,.T 71 false,.T 79 false,.T 3 true]),(111,.st 47 true),(108,.st 47 true),(105,.st 34 true)]⟩
def Bif:=jn (Brq K) 127 Byo [] (fun a b c d e f g h i j k l m o p q r s t u v w x y _ a1=>Ari K a1 a b c d e f g h i j k l m o p q r s t u v w x y) kN
def Bn0:=jn (Brq K) 31 Byp [] (fun a b c d e f g h i j k l m o p q r s=>Apv K s a b c d e f g h i j k l m o p q r) (kC (Bif K) kN)
def Bwj:=ct (Brq K) (Avv K) (kC (Bn0 K) kN)
def Aw8 (K:Nat)(a0:A8):Option (A8):=((Am3 K a0).bind fun r1=>some (A8.mk r1.Yq r1.C6 (Am9 .i64 a0.Sy 1) r1.fUp r1.Wk 0 r1.Wl r1.Wm ([]:List Int) 0 0 ([]:List A7) ([]:List Int)))
def Bwk:=ct (fd Tryz.func201 ⟨[.v 71],[.n 71 true],true⟩ (gC (A8a K) gN)) (Aw8 K)
def Atu (K:Nat)(a0:Ds)(a1:Int):Option (Ds):=(if(0:Int)≤a1∧a1<(a0.fL.length:Int)then((Asb K (gt a0.fL a1) 0).bind fun r1=>(if(0:Int)≤a1∧a1<(a0.fL.length:Int)then((Aqe K a0 ((gt a0.fL a1).A6)).bind fun r2=>(if(0:Int)≤a1∧a1<(r2.fL.length:Int)then((Aw8 K (gt r2.fL a1)).bind fun r3=>(if(0:Int)≤a1∧a1<(r2.fL.length:Int)then(if(r2.fQ++([r1]:List Av)).length*72≤140737488355328∧(r2.fQ++([r1]:List Av)).length≤maxLen then some (Ds.mk r2.fC r2.fP (r2.fL.set a1.toNat r3) (r2.fQ++([r1]:List Av)) r2.Afv)else none)else none))else none))else none))else none)
def Bwl:=ct (fd Tryz.func149 ⟨[.b 32 false,.v 3],[],false⟩ (gC (Bp4 K) (gC (Bh2 K) (gC (Bwk K) gN))) [] [] [(0,[.take 1 9 5025]),(1,[.put 1,.take 1 9 5025]),(2,[.take 1 9 5025]),(3,[.take 1 10 5026,.frz 20384,.frz 20385])] [(21,[.put 1])]) (Atu K)
def Atb (K:Nat)(a1:Int)(v21:List A8):Option ((List A8)):=(if(0:Int)≤a1∧a1<(v21.length:Int)then(Apm (v21.set a1.toNat (A8.mk ((gt v21 a1).Yq) ((gt v21 a1).C6) ((gt v21 a1).Sy) 0 ((gt v21 a1).Wk) ((gt v21 a1).Er) ((gt v21 a1).Wl) ((gt v21 a1).Wm) ((gt v21 a1).A6) ((gt v21 a1).Afu) ((gt v21 a1).Wn) ((gt v21 a1).H7) ((gt v21 a1).F3))) fun v22=>(if(0:Int)≤a1∧a1<(v22.length:Int)then(Apm (v22.set a1.toNat (A8.mk ((gt v22 a1).Yq) ((gt v22 a1).C6) ((gt v22 a1).Sy) ((gt v22 a1).fUp) 0 ((gt v22 a1).Er) ((gt v22 a1).Wl) ((gt v22 a1).Wm) ((gt v22 a1).A6) ((gt v22 a1).Afu) ((gt v22 a1).Wn) ((gt v22 a1).H7) ((gt v22 a1).F3))) fun v23=>(if(0:Int)≤a1∧a1<(v23.length:Int)then(Apm (v23.set a1.toNat (A8.mk ((gt v23 a1).Yq) ((gt v23 a1).C6) ((gt v23 a1).Sy) ((gt v23 a1).fUp) ((gt v23 a1).Wk) ((gt v23 a1).Er) 0 ((gt v23 a1).Wm) ((gt v23 a1).A6) ((gt v23 a1).Afu) ((gt v23 a1).Wn) ((gt v23 a1).H7) ((gt v23 a1).F3))) fun v24=>(if(0:Int)≤a1∧a1<(v24.length:Int)then(Apm (v24.set a1.toNat (A8.mk ((gt v24 a1).Yq) ((gt v24 a1).C6) ((gt v24 a1).Sy) ((gt v24 a1).fUp) ((gt v24 a1).Wk) ((gt v24 a1).Er) ((gt v24 a1).Wl) 0 ((gt v24 a1).A6) ((gt v24 a1).Afu) ((gt v24 a1).Wn) ((gt v24 a1).H7) ((gt v24 a1).F3))) fun v25=>some v25)else none))else none))else none))else none)
def Aq8 (K:Nat)(a0:List A8)(a1:Int)(v5:List A8)(v6:Int)(v7:Int)(v8:Int)(v9:Int)(v10:Int)(v11:Int)(v12:Int)(v13:Int)(v14:List Int)(v15:Int)(v16:Int)(v17:List A7)(v18:List Int):Option ((List A8)):=((Agf K a0 v12).bind fun r19=>(bif r19 then(if(0:Int)≤(Ana .i64 v12 1)∧(Ana .i64 v12 1)<(v5.length:Int)then(Apm (v5.set (Ana .i64 v12 1).toNat (A8.mk ((gt v5 (Ana .i64 v12 1)).Yq) ((gt v5 (Ana .i64 v12 1)).C6) ((gt v5 (Ana .i64 v12 1)).Sy) ((gt v5 (Ana .i64 v12 1)).fUp) ((gt v5 (Ana .i64 v12 1)).Wk) ((gt v5 (Ana .i64 v12 1)).Er) ((gt v5 (Ana .i64 v12 1)).Wl) v13 ((gt v5 (Ana .i64 v12 1)).A6) ((gt v5 (Ana .i64 v12 1)).Afu) ((gt v5 (Ana .i64 v12 1)).Wn) ((gt v5 (Ana .i64 v12 1)).H7) ((gt v5 (Ana .i64 v12 1)).F3))) fun v20=>(Atb K a1 v20))else none)else(Atb K a1 v5)))
def Ap0 (K:Nat)(a0:List A8)(a1:Int)(r1:(List A8))(v27:Bool)(v28:Int)(v29:Int)(v30:Int)(v31:Int)(v32:Int)(v33:Int)(v34:Int)(v35:Int)(v36:List Int)(v37:Int)(v38:Int)(v39:List A7)(v40:List Int):Option ((List A8)):=(bif v27 then(if(0:Int)≤(Ana .i64 v31 1)∧(Ana .i64 v31 1)<(r1.length:Int)then(Apm (r1.set (Ana .i64 v31 1).toNat (A8.mk ((gt r1 (Ana .i64 v31 1)).Yq) ((gt r1 (Ana .i64 v31 1)).C6) ((gt r1 (Ana .i64 v31 1)).Sy) ((gt r1 (Ana .i64 v31 1)).fUp) ((gt r1 (Ana .i64 v31 1)).Wk) v34 ((gt r1 (Ana .i64 v31 1)).Wl) ((gt r1 (Ana .i64 v31 1)).Wm) ((gt r1 (Ana .i64 v31 1)).A6) ((gt r1 (Ana .i64 v31 1)).Afu) ((gt r1 (Ana .i64 v31 1)).Wn) ((gt r1 (Ana .i64 v31 1)).H7) ((gt r1 (Ana .i64 v31 1)).F3))) fun v41=>(Aq8 K a0 a1 v41 v28 v29 v30 v31 v32 v33 v34 v35 v36 v37 v38 v39 v40))else none)else(Aq8 K a0 a1 r1 v28 v29 v30 v31 v32 v33 v34 v35 v36 v37 v38 v39 v40))
def Ayc (K:Nat)(a0:List A8)(a1:Int):Option ((List A8)):=((As4 K a0).bind fun r1=>((Agf K a0 (Am9 .i64 a1 1)).bind fun r2=>(bif (!r2)then some r1 else(if(0:Int)≤a1∧a1<(a0.length:Int)then((Agf K a0 ((gt a0 a1).Wm)).bind fun r3=>(bif r3 then(if(0:Int)≤(Ana .i64 ((gt a0 a1).Wm) 1)∧(Ana .i64 ((gt a0 a1).Wm) 1)<(r1.length:Int)then(Apm (r1.set (Ana .i64 ((gt a0 a1).Wm) 1).toNat (A8.mk ((gt r1 (Ana .i64 ((gt a0 a1).Wm) 1)).Yq) ((gt r1 (Ana .i64 ((gt a0 a1).Wm) 1)).C6) ((gt r1 (Ana .i64 ((gt a0 a1).Wm) 1)).Sy) ((gt r1 (Ana .i64 ((gt a0 a1).Wm) 1)).fUp) ((gt r1 (Ana .i64 ((gt a0 a1).Wm) 1)).Wk) ((gt r1 (Ana .i64 ((gt a0 a1).Wm) 1)).Er) ((gt a0 a1).Wl) ((gt r1 (Ana .i64 ((gt a0 a1).Wm) 1)).Wm) ((gt r1 (Ana .i64 ((gt a0 a1).Wm) 1)).A6) ((gt r1 (Ana .i64 ((gt a0 a1).Wm) 1)).Afu) ((gt r1 (Ana .i64 ((gt a0 a1).Wm) 1)).Wn) ((gt r1 (Ana .i64 ((gt a0 a1).Wm) 1)).H7) ((gt r1 (Ana .i64 ((gt a0 a1).Wm) 1)).F3))) fun v4=>(Aq8 K a0 a1 v4 ((gt a0 a1).Yq) ((gt a0 a1).C6) ((gt a0 a1).Sy) ((gt a0 a1).fUp) ((gt a0 a1).Wk) ((gt a0 a1).Er) ((gt a0 a1).Wl) ((gt a0 a1).Wm) ((gt a0 a1).A6) ((gt a0 a1).Afu) ((gt a0 a1).Wn) ((gt a0 a1).H7) ((gt a0 a1).F3)))else none)else(bif (((gt a0 a1).Wm)==0)then((Agf K a0 ((gt a0 a1).fUp)).bind fun r26=>(bif r26 then(if(0:Int)≤(Ana .i64 ((gt a0 a1).fUp) 1)∧(Ana .i64 ((gt a0 a1).fUp) 1)<(a0.length:Int)then(Ap0 K a0 a1 r1 (((gt a0 (Ana .i64 ((gt a0 a1).fUp) 1)).Er)==(Am9 .i64 a1 1)) ((gt a0 a1).Yq) ((gt a0 a1).C6) ((gt a0 a1).Sy) ((gt a0 a1).fUp) ((gt a0 a1).Wk) ((gt a0 a1).Er) ((gt a0 a1).Wl) ((gt a0 a1).Wm) ((gt a0 a1).A6) ((gt a0 a1).Afu) ((gt a0 a1).Wn) ((gt a0 a1).H7) ((gt a0 a1).F3))else none)else(Ap0 K a0 a1 r1 false ((gt a0 a1).Yq) ((gt a0 a1).C6) ((gt a0 a1).Sy) ((gt a0 a1).fUp) ((gt a0 a1).Wk) ((gt a0 a1).Er) ((gt a0 a1).Wl) ((gt a0 a1).Wm) ((gt a0 a1).A6) ((gt a0 a1).Afu) ((gt a0 a1).Wn) ((gt a0 a1).H7) ((gt a0 a1).F3))))else(Ap0 K a0 a1 r1 false ((gt a0 a1).Yq) ((gt a0 a1).C6) ((gt a0 a1).Sy) ((gt a0 a1).fUp) ((gt a0 a1).Wk) ((gt a0 a1).Er) ((gt a0 a1).Wl) ((gt a0 a1).Wm) ((gt a0 a1).A6) ((gt a0 a1).Afu) ((gt a0 a1).Wn) ((gt a0 a1).H7) ((gt a0 a1).F3)))))else none))))
def Bn1:=fd Tryz.func202 ⟨[.v 29,.v 3],[.n 29 true],true⟩ (gC (A48 K) (gC (Beb K) gN)) [35,36,40,41,42] [31,63,499]
def Bwm:Ef:=⟨[(1,.v 2),(5,.o 1005 71 true)],[]⟩
def Byq:Ef:=⟨[(0,.v 29),(1,.v 2),(5,.o 1005 71 true),(6,.p 106)],[(106,.box [.v 2,.v 2,.v 2,.v 2,.v 2,.v 2,.v 2,.v 2,.v 26,.v 2,.v 2,.v 69,.v 26])]⟩
def Byr:Ef:=⟨[(0,.v 29),(1,.v 2),(5,.o 1005 71 true),(6,.p 106),(32,.v 4)],[(106,.box [.v 2,.v 2,.v 2,.v 2,.v 2,.v 2,.v 2,.v 2,.v 26,.v 2,.v 2,.v 69,.v 26])]⟩
def Bn2:=jn (Bn1 K) 63 Bwm [] (Atb K) kN
def Bee:=jn (Bn1 K) 31 Byq [] (Aq8 K) (kC (Bn2 K) kN)
def Big:=jn (Bn1 K) 499 Byr [] (Ap0 K) (kC (Bee K) kN)
def Bwn:=ct (Bn1 K) (Ayc K) (kC (Bee K) (kC (Big K) kN))
def Avw (K:Nat)(a0:Ds)(a1:Int):Option (Ds):=(if(0:Int)≤a1∧a1<(a0.fL.length:Int)then((Asb K (gt a0.fL a1) (Am9 .i64 a1 1)).bind fun r1=>(if(0:Int)≤a1∧a1<(a0.fL.length:Int)then((Aqe K a0 ((gt a0.fL a1).A6)).bind fun r2=>((Ayc K r2.fL a1).bind fun r3=>(if(0:Int)≤a1∧a1<(r3.length:Int)then(if(0:Int)≤a1∧a1<(r3.length:Int)then((Ayr K (gt r3 a1)).bind fun r4=>(if(0:Int)≤a1∧a1<(r3.length:Int)then(if(r2.fQ++([r1]:List Av)).length*72≤140737488355328∧(r2.fQ++([r1]:List Av)).length≤maxLen then some (Ds.mk r2.fC r2.fP (r3.set a1.toNat r4) (r2.fQ++([r1]:List Av)) r2.Afv)else none)else none))else none)else none)))else none))else none)
def Bwo:=ct (fd Tryz.func150 ⟨[.b 32 false,.v 3],[],false⟩ (gC (Bp4 K) (gC (Bh2 K) (gC (Bwn K) (gC (Bp3 K) gN)))) [] [] [(0,[.take 1 9 5025]),(1,[.put 1,.take 1 9 5025]),(2,[.take 1 9 5025]),(3,[.opn 3031 (.tmp 1),.takeE 3031 8 41992,.takeE 3031 11 41995,.takeE 3031 12 41996]),(4,[.take 1 10 5026,.frz 20448,.frz 20449])] [(23,[.put 1])]) (Avw K)
def Aw9 (K:Nat)(a0:Av):Option (Av):=(if(([]:List Int)++a0.F3).length*8≤140737488355328∧(([]:List Int)++a0.F3).length≤maxLen then(if(([]:List Int)++a0.A6).length*8≤140737488355328∧(([]:List Int)++a0.A6).length≤maxLen then some (Av.mk a0.Be a0.Er (([]:List Int)++a0.F3) (([]:List Int)++a0.A6) a0.Wo)else none)else none)
def Bwp:=ct (fd Tryz.func244 ⟨[.v 79],[.n 79 true],true⟩ gN) (Aw9 K)
def Apf (K:Nat):Nat->Int->Int->Int->Int->Int->Int->Int->(List Int)->(List Int)->(List Int)->(List A8)->(List Av)->(List Int)->Ds->Int->Int->Int->Int->Int->Int->(List Int)->(List Int)->(List Int)->(List A8)->(List Av)->(List Int)->Option (Ds)
 |0,_,_,_,_,_,_,_,_,_,_,_,_,_,_,_,_,_,_,_,_,_,_,_,_,_,_=>none
 |n1+1,v3,v4,v5,v6,v7,v8,v9,v10,v11,v12,v13,v14,v15,v16,v17,v18,v19,v20,v21,v22,v23,v24,v25,v26,v27,v28=>(bif (decide (v3<(v27.length:Int)))then(if(0:Int)≤v3∧v3<(v27.length:Int)then((Aw9 K (gt v27 v3)).bind fun r29=>(if(v14++[r29]).length*72≤140737488355328∧(v14++[r29]).length≤maxLen then(Apf K n1 (Am9 .i64 v3 1) v4 v5 v6 v7 v8 v9 v10 v11 v12 v13 (v14++[r29]) v15 v16 v17 v18 v19 v20 v21 v22 v23 v24 v25 v26 v27 v28)else none))else none)else(if(([]:List Int)++v28).length*8≤140737488355328∧(([]:List Int)++v28).length≤maxLen then some (Ds.mk (D4.mk v4 v5 v6 v7 v8 v9) (Dh.mk v10 v11 v12) v13 v14 (([]:List Int)++v28))else none))
def App (K:Nat)(a0:Ds):Option (Ds):=((Aqd K a0.fP).bind fun r1=>((As4 K a0.fL).bind fun r2=>(Apf K K 0 a0.fC.A6 a0.fC.Kh a0.fC.Fj a0.fC.Hb a0.fC.Fk a0.fC.Ki r1.Sk r1.Yq r1.Sl r2 ([]:List Av) a0.Afv (Ds.mk (D4.mk 0 0 0 0 0 0) (Dh.mk [] [] []) [] [] []) a0.fC.A6 a0.fC.Kh a0.fC.Fj a0.fC.Hb a0.fC.Fk a0.fC.Ki a0.fP.Sk a0.fP.Yq a0.fP.Sl a0.fL a0.fQ a0.Afv)))
def Bwq:=fd Tryz.func208 ⟨[.v 32],[.n 32 true],true⟩ (gC (Bd9 K) (gC (Beb K) (gC (Bwp K) gN))) [] [] [(9,[.take 103 10 6658]),(11,[.take 103 6 6654,.take 103 7 6655,.take 103 8 6656,.take 103 9 6657,.take 103 10 6658])] [(33,[.put 3033])]
def Bys:Ef:=⟨[(1,.p 101),(2,.p 102),(3,.p 103),(4,.v 2)],[(103,.box [.v 2,.v 2,.v 2,.v 2,.v 2,.v 2,.T 5 true,.T 3 true,.T 3 true,.T 71 true,.T 79 true,.v 26]),(102,.st 32 true),(101,.box [.v 2,.v 2,.v 2,.v 2,.v 2,.v 2,.v 22,.v 26,.v 26,.v 29,.v 30,.v 26])]⟩
def Bih:=lp (Bwq K) 506 Bys [] (Apf K) (fun n=>kN)
def Bam:=ct (Bwq K) (App K) (kC (Bih K K) kN)
def Apn (K:Nat)(a0:List A8)(a1:Int):Option (Bool):=(bif (a1==0)then some true else((Agf K a0 a1).bind fun r1=>(bif r1 then(if(0:Int)≤(Ana .i64 a1 1)∧(Ana .i64 a1 1)<(a0.length:Int)then some (((gt a0 (Ana .i64 a1 1)).Yq)==1)else none)else some false)))
def Bwr:=ct (fd Tryz.func280 ⟨[.v 29,.v 3],[.v 4],true⟩ (gC (A48 K) gN) [6,7,10,11]) (Apn K)
def Asi (K:Nat)(a0:List A8)(a1:Int):Option (Bool):=((Awq K a0 a1).bind fun r19=>(bif (decide ((r19.length:Int)≤4))then(if(0:Int)≤(Ana .i64 (r19.length:Int) 1)∧(Ana .i64 (r19.length:Int) 1)<(r19.length:Int)then((Are K a0 (gt r19 (Ana .i64 (r19.length:Int) 1))).bind fun r20=>some (!r20))else none)else some false))
def At9 (K:Nat)(a0:List A8)(a1:Int)(v8:Int)(v12:Int):Option (Bool):=(bif (v12==0)then((Are K a0 a1).bind fun r18=>(bif r18 then(if(0:Int)≤(Ana .i64 v8 1)∧(Ana .i64 v8 1)<(a0.length:Int)then(bif (((gt a0 (Ana .i64 v8 1)).Er) != (Am9 .i64 a1 1))then some false else(Asi K a0 a1))else none)else(Asi K a0 a1)))else(Asi K a0 a1))
def Aua (K:Nat)(a0:List A8)(a1:Int)(v8:Int)(v12:Int):Option (Bool):=(bif (v12 != 0)then(if(0:Int)≤(Ana .i64 v12 1)∧(Ana .i64 v12 1)<(a0.length:Int)then(bif (((gt a0 (Ana .i64 v12 1)).Wl) != (Am9 .i64 a1 1))then some false else(At9 K a0 a1 v8 v12))else none)else(At9 K a0 a1 v8 v12))
def Aub (K:Nat)(a0:List A8)(a1:Int)(v8:Int)(v9:Int)(v11:Int)(v12:Int):Option (Bool):=(bif (v11 != 0)then(if(0:Int)≤(Ana .i64 v11 1)∧(Ana .i64 v11 1)<(a0.length:Int)then(bif (((gt a0 (Ana .i64 v11 1)).Wm) != (Am9 .i64 a1 1))then some false else(bif (((gt a0 (Ana .i64 v11 1)).fUp) != v8)then some false else(bif (((gt a0 (Ana .i64 v11 1)).Wk) != v9)then some false else(Aua K a0 a1 v8 v12))))else none)else(Aua K a0 a1 v8 v12))
def Auc (K:Nat)(a0:List A8)(a1:Int)(v5:Int)(v6:Int)(v7:Int)(v8:Int)(v9:Int)(v10:Int)(v11:Int)(v12:Int)(v13:List Int)(v14:Int)(v15:Int)(v16:List A7)(v17:List Int):Option (Bool):=(bif (v10 != 0)then(if(0:Int)≤(Ana .i64 v10 1)∧(Ana .i64 v10 1)<(a0.length:Int)then(bif (((gt a0 (Ana .i64 v10 1)).Wm) != 0)then some false else(bif (((gt a0 (Ana .i64 v10 1)).fUp) != (Am9 .i64 a1 1))then some false else(bif (((gt a0 (Ana .i64 v10 1)).Wk) != v7)then some false else(Aub K a0 a1 v8 v9 v11 v12))))else none)else(Aub K a0 a1 v8 v9 v11 v12))
def Aza (K:Nat)(a0:List A8)(a1:Int):Option (Bool):=(if(0:Int)≤a1∧a1<(a0.length:Int)then(bif (((gt a0 a1).fUp) != 0)then((Agf K a0 ((gt a0 a1).fUp)).bind fun r1=>(bif r1 then((Apn K a0 ((gt a0 a1).Er)).bind fun r2=>(bif r2 then((Apn K a0 ((gt a0 a1).Wl)).bind fun r3=>(bif r3 then((Apn K a0 ((gt a0 a1).Wm)).bind fun r4=>(bif (!r4)then some false else(Auc K a0 a1 ((gt a0 a1).Yq) ((gt a0 a1).C6) ((gt a0 a1).Sy) ((gt a0 a1).fUp) ((gt a0 a1).Wk) ((gt a0 a1).Er) ((gt a0 a1).Wl) ((gt a0 a1).Wm) ((gt a0 a1).A6) ((gt a0 a1).Afu) ((gt a0 a1).Wn) ((gt a0 a1).H7) ((gt a0 a1).F3))))else some false))else some false))else some false))else((Apn K a0 ((gt a0 a1).Er)).bind fun r21=>(bif r21 then((Apn K a0 ((gt a0 a1).Wl)).bind fun r22=>(bif r22 then((Apn K a0 ((gt a0 a1).Wm)).bind fun r23=>(bif (!r23)then some false else(Auc K a0 a1 ((gt a0 a1).Yq) ((gt a0 a1).C6) ((gt a0 a1).Sy) ((gt a0 a1).fUp) ((gt a0 a1).Wk) ((gt a0 a1).Er) ((gt a0 a1).Wl) ((gt a0 a1).Wm) ((gt a0 a1).A6) ((gt a0 a1).Afu) ((gt a0 a1).Wn) ((gt a0 a1).H7) ((gt a0 a1).F3))))else some false))else some false)))else none)
def Bfj:=fd Tryz.func273 ⟨[.v 29,.v 3],[.v 4],true⟩ (gC (Bho K) (gC (Bhp K) (gC (A48 K) (gC (Bwr K) gN)))) [15,16,20,21,22,23,27,28,29,30,34,35,36,37,55,56,61,62,63,83,84,89,90,91,100,101,115,116,119,120,121,138,139] [7,15,31,63,127]
def Byt:Ef:=⟨[(0,.v 29),(1,.v 2)],[]⟩
def Ban:Ef:=⟨[(0,.v 29),(1,.v 2),(5,.p 105)],[(105,.box [.v 2,.v 2,.v 2,.v 2,.v 2,.v 2,.v 2,.v 2,.v 26,.v 2,.v 2,.v 69,.v 26])]⟩
def Bii:=jn (Bfj K) 127 Byt [] (Asi K) kN
def Bn3:=jn (Bfj K) 63 Ban [] (fun a b _ _ _ f _ _ _ j _ _ _ _ _=>At9 K a b f j) (kC (Bii K) kN)
def Bn4:=jn (Bfj K) 31 Ban [] (fun a b _ _ _ f _ _ _ j _ _ _ _ _=>Aua K a b f j) (kC (Bn3 K) kN)
def Bn5:=jn (Bfj K) 15 Ban [] (fun a b _ _ _ f g _ i j _ _ _ _ _=>Aub K a b f g i j) (kC (Bn4 K) kN)
def Brr:=jn (Bfj K) 7 Ban [] (Auc K) (kC (Bn5 K) kN)
def Bws:=ct (Bfj K) (Aza K) (kC (Brr K) kN)
def Avx (K:Nat)(v1:Int)(C1:Int->Option (Bool)):Option (Bool):=(C1 (Am9 .i64 v1 1))
def Ao7 (K:Nat)(a0:List A8):Nat->Int->Option (Bool)
 |0,_=>none
 |n1+1,v1=>(bif (decide (v1<(a0.length:Int)))then(if(0:Int)≤v1∧v1<(a0.length:Int)then(bif (((gt a0 v1).Yq)==1)then((Aza K a0 v1).bind fun r2=>(bif (!r2)then some false else(Avx K v1 (Ao7 K a0 n1))))else(Avx K v1 (Ao7 K a0 n1)))else none)else some true)
def Ayd (K:Nat)(a0:List A8):Option (Bool):=(Ao7 K a0 K 0)
def Brs:=fd Tryz.func255 ⟨[.v 29],[.v 4],true⟩ (gC (Bws K) gN) [15,16] [105]
def Bij:=fun(C26:CT Bh4 _)=>jn (Brs K) 105 Bh4 [(26,ar Bh4 C26)] (fun a b=>Avx K b (C26 a)) kN
def Bn6:=lp (Brs K) 26 Bh4 [] (fun n a=>Ao7 K a n) (fun n=>(kC (Bij K _) kN))
def Bwt:=ct (Brs K) (Ayd K) (kC (Bn6 K K) kN)
def Aur (K:Nat)(v2:Int)(v3:List Int)(v4:List Int)(v5:List Int)(C1:Int->Int->(List Int)->(List Int)->(List Int)->Option (Int))(v6:Int):Option (Int):=(C1 v6 (Am9 .i64 v2 1) v3 v4 v5)
def Aof (K:Nat)(a1:Int):Nat->Int->Int->(List Int)->(List Int)->(List Int)->Option (Int)
 |0,_,_,_,_,_=>none
 |n1+1,v1,v2,v3,v4,v5=>(bif (decide (v2<(v4.length:Int)))then(if(0:Int)≤v2∧v2<(v4.length:Int)then(bif ((gt v4 v2)==a1)then(Aur K v2 v3 v4 v5 (Aof K a1 n1) (Am9 .i64 v1 1))else(Aur K v2 v3 v4 v5 (Aof K a1 n1) v1))else none)else some v1)
def Axa (K:Nat)(a0:Dh)(a1:Int):Option (Int):=(Aof K a1 K 0 0 a0.Sk a0.Yq a0.Sl)
def Brt:=fd Tryz.func278 ⟨[.v 28,.v 3],[.v 3],true⟩ gN [] [233]
def Bn7:Ef:=⟨[(1,.v 2),(2,.p 102),(5,.v 2),(6,.v 2)],[(102,.box [.v 22,.v 26,.v 26])]⟩
def Bik:=fun(C58:CT Bn7 _)=>jn Brt 233 Bn7 [(58,ar Bn7 C58)] (fun a b c d e f=>Aur K c d e f (C58 a) b) kN
def Bn8:=lp Brt 58 Bn7 [] (fun n a=>Aof K a n) (fun n=>(kC (Bik K _) kN))
def Bwu:=ct Brt (Axa K) (kC (Bn8 K K) kN)
def Asj (K:Nat)(a0:List A8)(a1:Int):Option (Bool):=(if(0:Int)≤a1∧a1<(a0.length:Int)then(bif (((gt a0 a1).Yq)==1)then(if(0:Int)≤a1∧a1<(a0.length:Int)then(bif (((gt a0 a1).fUp) != 0)then((Are K a0 a1).bind fun r1=>some (!r1))else some false)else none)else some false)else none)
def Bqa:=ct (fd Tryz.func277 ⟨[.v 29,.v 3],[.v 4],true⟩ (gC (Bhp K) gN) [10,11,17,18,19]) (Asj K)
def Atc (K:Nat)(a0:List A8):Nat->Int->(List Int)->Option ((List Int))
 |0,_,_=>none
 |n1+1,v1,v2=>((Agf K a0 v1).bind fun r3=>(bif r3 then(bif (decide ((v2.length:Int)<(a0.length:Int)))then(if(v2++([(Ana .i64 v1 1)]:List Int)).length*8≤140737488355328∧(v2++([(Ana .i64 v1 1)]:List Int)).length≤maxLen then(if(0:Int)≤(Ana .i64 v1 1)∧(Ana .i64 v1 1)<(a0.length:Int)then(Atc K a0 n1 ((gt a0 (Ana .i64 v1 1)).Wl) (v2++([(Ana .i64 v1 1)]:List Int)))else none)else none)else some v2)else some v2))
def Avd (K:Nat)(a0:List A8)(a1:Int):Option ((List Int)):=(Atc K a0 K a1 ([]:List Int))
def Bwv:=fd Tryz.func276 ⟨[.v 29,.v 3],[.n 26 true],true⟩ (gC (A48 K) gN) [9,10]
def Bn9:=lp (Bwv K) 28 h_4 [] (fun n a=>Atc K a n) (fun n=>kN)
def Bqb:=ct (Bwv K) (Avd K) (kC (Bn9 K K) kN)
def Anz (K:Nat)(v4:Int)(v15:List Av)(v20:List Int)(v21:Int)(C3:(List Int)->Int->Option (Bool)):Nat->Int->Option (Bool)
 |0,_=>none
 |n5+1,v22=>(if(0:Int)≤v4∧v4<(v15.length:Int)then(bif (decide (v22<(((gt v15 v4).A6).length:Int)))then(if(0:Int)≤v21∧v21<(v15.length:Int)then(if(0:Int)≤v4∧v4<(v15.length:Int)then(if(0:Int)≤v22∧v22<(((gt v15 v4).A6).length:Int)then((Apk K ((gt v15 v21).A6) (gt ((gt v15 v4).A6) v22)).bind fun r23=>(bif r23 then some false else(Anz K v4 v15 v20 v21 C3 n5 (Am9 .i64 v22 1))))else none)else none)else none)else(C3 v20 (Am9 .i64 v21 1)))else none)
def Aqu (K:Nat)(v4:Int)(v15:List Av)(v20:List Int)(v21:Int)(C3:(List Int)->Int->Option (Bool)):Option (Bool):=(Anz K v4 v15 v20 v21 (C3) K 0)
def Alf (K:Nat)(v4:Int)(v5:Int)(v6:Int)(v7:Int)(v8:Int)(v9:Int)(v10:Int)(v11:List Int)(v12:List Int)(v13:List Int)(v14:List A8)(v15:List Av)(v16:List Int)(v17:Int)(v18:Int)(C1:Int->Int->(List Int)->Int->Int->Int->Int->Int->Int->Int->(List Int)->(List Int)->(List Int)->(List A8)->(List Av)->(List Int)->Option (Bool)):Nat->(List Int)->Int->Option (Bool)
 |0,_,_=>none
 |n3+1,v20,v21=>(bif (decide (v21<v4))then(if(0:Int)≤v4∧v4<(v15.length:Int)then(bif (((gt v15 v4).Be) != 0)then(if(0:Int)≤v21∧v21<(v15.length:Int)then(if(0:Int)≤v4∧v4<(v15.length:Int)then(bif (((gt v15 v21).Be)==((gt v15 v4).Be))then some false else(Aqu K v4 v15 v20 v21 (Alf K v4 v5 v6 v7 v8 v9 v10 v11 v12 v13 v14 v15 v16 v17 v18 C1 n3)))else none)else none)else(Aqu K v4 v15 v20 v21 (Alf K v4 v5 v6 v7 v8 v9 v10 v11 v12 v13 v14 v15 v16 v17 v18 C1 n3)))else none)else(C1 v17 v18 v20 (Am9 .i64 v4 1) v5 v6 v7 v8 v9 v10 v11 v12 v13 v14 v15 v16))
def Aqv (K:Nat)(v3:List Int)(v4:Int)(v5:Int)(v6:Int)(v7:Int)(v8:Int)(v9:Int)(v10:Int)(v11:List Int)(v12:List Int)(v13:List Int)(v14:List A8)(v15:List Av)(v16:List Int)(C1:Int->Int->(List Int)->Int->Int->Int->Int->Int->Int->Int->(List Int)->(List Int)->(List Int)->(List A8)->(List Av)->(List Int)->Option (Bool))(v17:Int)(v18:Int):Option (Bool):=(if(0:Int)≤v4∧v4<(v15.length:Int)then((Avd K v14 ((gt v15 v4).Er)).bind fun r19=>(if(v3++r19).length*8≤140737488355328∧(v3++r19).length≤maxLen then(Alf K v4 v5 v6 v7 v8 v9 v10 v11 v12 v13 v14 v15 v16 v17 v18 (C1) K (v3++r19) 0)else none))else none)
def As5 (K:Nat)(v25:Int)(C6:Int->Int->Option (Bool))(v27:Int):Option (Bool):=(C6 v27 (Am9 .i64 v25 1))
def Amd (K:Nat)(v1:Int)(v2:Int)(v3:List Int)(v11:List Int)(v12:List Int)(v13:List Int)(v14:List A8)(v24:Int):Nat->Int->Option (Bool)
 |0,_=>none
 |n8+1,v28=>(bif (decide (v28<(v3.length:Int)))then(if(0:Int)≤0∧0≤v28∧v28≤(v3.length:Int)then(if(0:Int)≤v28∧v28<(v3.length:Int)then((Apk K ((v3.drop (0:Int).toNat).take (v28 - 0).toNat) (gt v3 v28)).bind fun r29=>(bif r29 then some false else(Amd K v1 v2 v3 v11 v12 v13 v14 v24 n8 (Am9 .i64 v28 1))))else none)else none)else((Axa K (Dh.mk v11 v12 v13) 2).bind fun r30=>(bif (v1==r30)then((Apu K v14 2).bind fun r31=>(bif (v2==r31)then some ((v3.length:Int)==v24)else some false))else some false)))
def Aic (K:Nat)(v1:Int)(v2:Int)(v3:List Int)(v11:List Int)(v12:List Int)(v13:List Int)(v14:List A8):Nat->Int->Int->Option (Bool)
 |0,_,_=>none
 |n6+1,v24,v25=>(bif (decide (v25<(v14.length:Int)))then((Asj K v14 v25).bind fun r26=>(bif r26 then(As5 K v25 (Aic K v1 v2 v3 v11 v12 v13 v14 n6) (Am9 .i64 v24 1))else(As5 K v25 (Aic K v1 v2 v3 v11 v12 v13 v14 n6) v24)))else(Amd K v1 v2 v3 v11 v12 v13 v14 v24 K 0))
def Agj (K:Nat):Nat->Int->Int->(List Int)->Int->Int->Int->Int->Int->Int->Int->(List Int)->(List Int)->(List Int)->(List A8)->(List Av)->(List Int)->Option (Bool)
 |0,_,_,_,_,_,_,_,_,_,_,_,_,_,_,_,_=>none
 |n1+1,v1,v2,v3,v4,v5,v6,v7,v8,v9,v10,v11,v12,v13,v14,v15,v16=>(bif (decide (v4<(v15.length:Int)))then(if(0:Int)≤v4∧v4<(v15.length:Int)then(if(0:Int)≤v4∧v4<(v15.length:Int)then(bif (((gt v15 v4).Be) != 0)then(Aqv K v3 v4 v5 v6 v7 v8 v9 v10 v11 v12 v13 v14 v15 v16 (Agj K n1) (Am9 .i64 v1 (((gt v15 v4).A6).length:Int)) (Am9 .i64 v2 1))else(Aqv K v3 v4 v5 v6 v7 v8 v9 v10 v11 v12 v13 v14 v15 v16 (Agj K n1) (Am9 .i64 v1 (((gt v15 v4).A6).length:Int)) v2))else none)else none)else(Aic K v1 v2 v3 v11 v12 v13 v14 K 0 0))
def Aus (K:Nat)(a0:Ds):Option (Bool):=(Agj K K 0 0 ([]:List Int) 0 a0.fC.A6 a0.fC.Kh a0.fC.Fj a0.fC.Hb a0.fC.Fk a0.fC.Ki a0.fP.Sk a0.fP.Yq a0.fP.Sl a0.fL a0.fQ a0.Afv)
def A82:=fd Tryz.func261 ⟨[.v 32],[.v 4],true⟩ (gC (Bpz K) (gC (Bal K) (gC (Bqb K) (gC (Bqa K) (gC (Bwu K) gN))))) [60,61,134,135,140,141,142] [4073,8009,2050532]
def Byu:Ef:=⟨[(1,.p 101),(3,.v 2),(4,.v 2),(5,.o 1005 3 true),(6,.v 2),(7,.v 2),(8,.v 2)],[(101,.box [.v 2,.v 2,.v 2,.v 2,.v 2,.v 2,.v 22,.v 26,.v 26,.v 29,.v 30,.v 26])]⟩
def Bfk:Ef:=⟨[(1,.p 101),(3,.v 2),(4,.v 2),(5,.o 1005 3 true),(6,.v 2),(7,.v 2)],[(101,.box [.v 2,.v 2,.v 2,.v 2,.v 2,.v 2,.v 22,.v 26,.v 26,.v 29,.v 30,.v 26])]⟩
def A7p:Ef:=⟨[(1,.p 101),(3,.v 2),(4,.v 2),(5,.o 1005 3 true),(6,.v 2)],[(101,.box [.v 2,.v 2,.v 2,.v 2,.v 2,.v 2,.v 22,.v 26,.v 26,.v 29,.v 30,.v 26])]⟩
def Boa:Ef:=⟨[(1,.p 101),(3,.v 2),(4,.v 2),(5,.o 1005 3 true),(9,.v 2),(10,.v 2)],[(101,.box [.v 2,.v 2,.v 2,.v 2,.v 2,.v 2,.v 22,.v 26,.v 26,.v 29,.v 30,.v 26])]⟩
def Byv:Ef:=⟨[(1,.p 101),(3,.v 2),(4,.v 2),(5,.o 1005 3 true),(9,.v 2),(11,.v 2)],[(101,.box [.v 2,.v 2,.v 2,.v 2,.v 2,.v 2,.v 22,.v 26,.v 26,.v 29,.v 30,.v 26])]⟩
def A7q:=fun(C250:CT A7p _) (C128158:CT Bfk _)=>lp (A82 K) 16404262 Byu [(128158,ar Bfk C128158),(250,ar A7p C250)] (fun n a b c d e f g h i j k l m o p q r s=>Anz K d r c e (fun v20 v21=>C128158 a b v20 d v21 g h i j k l m o p q r s) n f) (fun n=>kN)
def A83:=fun(C250:CT A7p _) (C128158:CT Bfk _)=>jn (A82 K) 2050532 Bfk [(128158,ar Bfk C128158),(250,ar A7p C250)] (fun a b c d e f g h i j k l m o p q r=>Aqu K d q c e (fun v20 v21=>C128158 a b v20 d v21 f g h i j k l m o p q r)) (kC (A7q K _ _ K) kN)
def Bao:=fun(C250:CT A7p _)=>lp (A82 K) 128158 Bfk [(250,ar A7p C250)] (fun n a b c d e f g h i j k l m o p q r=>Alf K d f g h i j k l m o p q r a b C250 n c e) (fun n=>(kC (A83 K _ _) kN))
def Bfl:=fun(C250:CT A7p _)=>jn (A82 K) 8009 A7p [(250,ar A7p C250)] (fun a b c d e f g h i j k l m o p q=>Aqv K c d e f g h i j k l m o p q C250 a b) (kC (Bao K _ K) kN)
def Bfm:=fun(C1018:CT Boa _)=>jn (A82 K) 4073 Boa [(1018,ar Boa C1018)] (fun a b c d e f g h i j k l m o p q r=>As5 K e (fun v24 v25=>C1018 a b c v24 v25 f g h i j k l m o p q r) d) kN
def Bfn:=lp (A82 K) 2042 Byv [] (fun n a b c d e _ _ _ _ _ _ l m o p _ _=>Amd K a b c l m o p d n e) (fun n=>kN)
def Bfo:=lp (A82 K) 1018 Boa [] (fun n a b c d e _ _ _ _ _ _ l m o p _ _=>Aic K a b c l m o p n d e) (fun n=>(kC (Bfm K _) (kC (up (Bfn K K)) kN)))
def Bil:=lp (A82 K) 250 A7p [] (Agj K) (fun n=>(kC (Bfl K _) (kC (up (Bfo K K)) kN)))
def Bww:=ct (A82 K) (Aus K) (kC (Bil K K) kN)
def Aog (K:Nat)(a0:D4)(v8:List Int):Nat->Int->Option (Bool)
 |0,_=>none
 |n3+1,v12=>(bif (decide (v12<(v8.length:Int)))then(if(0:Int)≤v12∧v12<(v8.length:Int)then((Gy K (gt v8 v12) 0 (Ana .i64 a0.A6 1)).bind fun r13=>(bif r13 then(if(0:Int)≤0∧0≤v12∧v12≤(v8.length:Int)then(if(0:Int)≤v12∧v12<(v8.length:Int)then((Apk K ((v8.drop (0:Int).toNat).take (v12 - 0).toNat) (gt v8 v12)).bind fun r14=>(bif r14 then some false else(Aog K a0 v8 n3 (Am9 .i64 v12 1))))else none)else none)else some false))else none)else some true)
def Apg (K:Nat)(a0:D4)(v7:List Int)(v8:List Int):Nat->Int->Option (Bool)
 |0,_=>none
 |n2+1,v10=>(bif (decide (v10<(v7.length:Int)))then(if(0:Int)≤v10∧v10<(v7.length:Int)then((Gy K (gt v7 v10) 0 255).bind fun r11=>(bif (!r11)then some false else(Apg K a0 v7 v8 n2 (Am9 .i64 v10 1))))else none)else(Aog K a0 v8 K 0))
def Aut (K:Nat)(a0:D4)(v5:Int)(v6:Int)(v7:List Int)(v8:List Int)(v9:Int):Option (Bool):=(Apg K a0 v7 v8 K 0)
def Axb (K:Nat)(a0:D4)(a1:Av):Option (Bool):=((Am2 K a0).bind fun r1=>(bif r1 then((Gy K a1.Be 0 a0.Fj).bind fun r2=>(bif r2 then((Gy K a1.Er 0 a0.Fj).bind fun r3=>(bif r3 then(bif (decide ((a1.F3.length:Int)>6))then some false else((Gy K a1.Wo 0 (Ana .i64 a0.Kh 1)).bind fun r4=>(bif r4 then(bif ((a1.A6.length:Int)==0)then(bif (a1.Wo != 0)then some false else(Aut K a0 a1.Be a1.Er a1.F3 a1.A6 a1.Wo))else(Aut K a0 a1.Be a1.Er a1.F3 a1.A6 a1.Wo))else some false)))else some false))else some false))else some false))
def Bob:=fd Tryz.func275 ⟨[.v 25,.v 79],[.v 4],true⟩ (gC (A0t K) (gC (Baj K) (gC (Bal K) gN))) [8,9,10,15,16,17,18,23,24,25,26,30,31,32,38,39,40,41,45,46,81,82,83] [3]
def Byw:Ef:=⟨[(2,.p 102),(3,.p 103),(6,.v 2)],[(103,.box [.v 2,.v 2,.v 26,.v 26,.v 2]),(102,.st 25 true)]⟩
def Byx:Ef:=⟨[(2,.p 102),(3,.p 103),(5,.v 2)],[(103,.box [.v 2,.v 2,.v 26,.v 26,.v 2]),(102,.st 25 true)]⟩
def Byy:Ef:=⟨[(2,.p 102),(3,.p 103)],[(103,.box [.v 2,.v 2,.v 26,.v 26,.v 2]),(102,.st 25 true)]⟩
def Bim:=lp (Bob K) 122 Byw [] (fun n a _ _ _ e _ g=>Aog K g e n a) (fun n=>kN)
def Boc:=lp (Bob K) 58 Byx [] (fun n a _ _ d e _ g=>Apg K g d e n a) (fun n=>(kC (up (Bim K K)) kN))
def Bru:=jn (Bob K) 3 Byy [] (fun a b c d e f=>Aut K f a b c d e) (kC (Boc K K) kN)
def Bwx:=ct (Bob K) (Axb K) (kC (Bru K) kN)
def Apw (K:Nat)(v17:List A8)(r21:(List Int)):Nat->Int->Option (Bool)
 |0,_=>none
 |n4+1,v22=>(bif (decide (v22<(r21.length:Int)))then(if(0:Int)≤v22∧v22<(r21.length:Int)then((Asj K v17 (gt r21 v22)).bind fun r23=>(bif (!r23)then some false else(Apw K v17 r21 n4 (Am9 .i64 v22 1))))else none)else some true)
def Aou (K:Nat)(v4:Int)(v17:List A8):Option (Bool):=((Avd K v17 v4).bind fun r21=>(Apw K v17 r21 K 0))
def Arj (K:Nat)(v3:Int)(v4:Int)(v17:List A8):Option (Bool):=(bif (v3 != 0)then(if(0:Int)≤(Ana .i64 v3 1)∧(Ana .i64 v3 1)<(v17.length:Int)then(bif (((gt v17 (Ana .i64 v3 1)).Yq) != 2)then some false else(bif (v4 != 0)then(if(0:Int)≤(Ana .i64 v4 1)∧(Ana .i64 v4 1)<(v17.length:Int)then(bif (((gt v17 (Ana .i64 v4 1)).Wm) != 0)then some false else(Aou K v4 v17))else none)else(Aou K v4 v17)))else none)else(bif (v4 != 0)then(if(0:Int)≤(Ana .i64 v4 1)∧(Ana .i64 v4 1)<(v17.length:Int)then(bif (((gt v17 (Ana .i64 v4 1)).Wm) != 0)then some false else(Aou K v4 v17))else none)else(Aou K v4 v17)))
def Aov (K:Nat):Nat->Int->Int->Int->(List Int)->(List Int)->Int->Int->Int->Int->Int->Int->Int->(List Int)->(List Int)->(List Int)->(List A8)->(List Av)->(List Int)->Option (Bool)
 |0,_,_,_,_,_,_,_,_,_,_,_,_,_,_,_,_,_,_=>none
 |n1+1,v2,v3,v4,v5,v6,v7,v8,v9,v10,v11,v12,v13,v14,v15,v16,v17,v18,v19=>(bif (decide (v2<(v6.length:Int)))then(if(0:Int)≤v2∧v2<(v6.length:Int)then(if(0:Int)≤(gt v6 v2)∧(gt v6 v2)<(v15.length:Int)then(bif ((gt v15 (gt v6 v2)) != 2)then some false else(Aov K n1 (Am9 .i64 v2 1) v3 v4 v5 v6 v7 v8 v9 v10 v11 v12 v13 v14 v15 v16 v17 v18 v19))else none)else none)else(bif (decide ((v6.length:Int)>0))then(if(0:Int)≤0∧0<(v6.length:Int)then(if(0:Int)≤0∧0<(v6.length:Int)then(if(0:Int)≤(Anb .i64 (gt v6 0) v9)∧(Anb .i64 (gt v6 0) v9)≤(Am9 .i64 (Anb .i64 (gt v6 0) v9) v7)∧(Am9 .i64 (Anb .i64 (gt v6 0) v9) v7)≤(v14.length:Int)then((Ars K ((v14.drop (Anb .i64 (gt v6 0) v9).toNat).take ((Am9 .i64 (Anb .i64 (gt v6 0) v9) v7) - (Anb .i64 (gt v6 0) v9)).toNat)).bind fun r20=>(bif (!r20)then some false else(Arj K v3 v4 v17)))else none)else none)else none)else(Arj K v3 v4 v17)))
def Avy (K:Nat)(a0:Ds)(a1:Int):Option (Bool):=(if(0:Int)≤a1∧a1<(a0.fQ.length:Int)then((Axb K a0.fC (gt a0.fQ a1)).bind fun r1=>(bif (!r1)then some false else(Aov K K 0 ((gt a0.fQ a1).Be) ((gt a0.fQ a1).Er) ((gt a0.fQ a1).F3) ((gt a0.fQ a1).A6) ((gt a0.fQ a1).Wo) a0.fC.A6 a0.fC.Kh a0.fC.Fj a0.fC.Hb a0.fC.Fk a0.fC.Ki a0.fP.Sk a0.fP.Yq a0.fP.Sl a0.fL a0.fQ a0.Afv)))else none)
def Bin:=fd Tryz.func260 ⟨[.v 32,.v 3],[.v 4],true⟩ (gC (Bea K) (gC (Bwx K) (gC (Bqb K) (gC (Bqa K) gN)))) [40,41,70,71,80,81,82,85,86] [31,63]
def Byz:Ef:=⟨[(2,.p 102),(7,.v 26),(8,.v 2)],[(102,.box [.v 2,.v 2,.v 2,.v 2,.v 2,.v 2,.v 22,.v 26,.v 26,.v 29,.v 30,.v 26])]⟩
def Bwy:Ef:=⟨[(2,.p 102),(5,.p 105)],[(105,.box [.v 2,.v 2,.v 26,.v 26,.v 2]),(102,.box [.v 2,.v 2,.v 2,.v 2,.v 2,.v 2,.v 22,.v 26,.v 26,.v 29,.v 30,.v 26])]⟩
def By0:Ef:=⟨[(2,.p 102),(5,.p 105),(6,.v 2)],[(105,.box [.v 2,.v 2,.v 26,.v 26,.v 2]),(102,.box [.v 2,.v 2,.v 2,.v 2,.v 2,.v 2,.v 22,.v 26,.v 26,.v 29,.v 30,.v 26])]⟩
def Bfp:=lp (Bin K) 2042 Byz [] (fun n a b _ _ _ _ _ _ _ _ _ l _ _=>Apw K l a n b) (fun n=>kN)
def Bod:=jn (Bin K) 63 Bwy [] (fun _ b _ _ _ _ _ _ _ _ _ _ _ _ p _ _=>Aou K b p) (kC (Bfp K K) kN)
def Boe:=jn (Bin K) 31 Bwy [] (fun a b _ _ _ _ _ _ _ _ _ _ _ _ p _ _=>Arj K a b p) (kC (Bod K) kN)
def Bio:=lp (Bin K) 122 By0 [] (Aov K) (fun n=>(kC (up (Boe K)) kN))
def Bwz:=ct (Bin K) (Avy K) (kC (Bio K K) kN)
def An3 (K:Nat)(a1:Int)(r1:(List Int)):Nat->Int->Int->Int->Int->Int->Int->Int->(List Int)->(List Int)->(List Int)->(List A8)->(List Av)->(List Int)->Option (Bool)
 |0,_,_,_,_,_,_,_,_,_,_,_,_,_=>none
 |n1+1,v2,v3,v4,v5,v6,v7,v8,v9,v10,v11,v12,v13,v14=>(bif (decide (v2<(r1.length:Int)))then(if(0:Int)≤a1∧a1<(v12.length:Int)then(if(0:Int)≤v2∧v2<(r1.length:Int)then((Apk K ((gt v12 a1).A6) (gt r1 v2)).bind fun r15=>(bif (!r15)then some false else(An3 K a1 r1 n1 (Am9 .i64 v2 1) v3 v4 v5 v6 v7 v8 v9 v10 v11 v12 v13 v14)))else none)else none)else(if(0:Int)≤a1∧a1<(v12.length:Int)then some ((r1.length:Int)==(((gt v12 a1).A6).length:Int))else none))
def Auu (K:Nat)(a0:Ds)(a1:Int):Option (Bool):=((At6 K a0.fP a1).bind fun r1=>(An3 K a1 r1 K 0 a0.fC.A6 a0.fC.Kh a0.fC.Fj a0.fC.Hb a0.fC.Fk a0.fC.Ki a0.fP.Sk a0.fP.Yq a0.fP.Sl a0.fL a0.fQ a0.Afv))
def Bw0:=fd Tryz.func256 ⟨[.v 32,.v 3],[.v 4],true⟩ (gC (Bpy K) (gC (Bal K) gN))
def By1:Ef:=⟨[(1,.v 2),(2,.p 102),(5,.v 26),(6,.v 2)],[(102,.box [.v 2,.v 2,.v 2,.v 2,.v 2,.v 2,.v 22,.v 26,.v 26,.v 29,.v 30,.v 26])]⟩
def Bof:=lp (Bw0 K) 58 By1 [] (fun n a b=>An3 K a b n) (fun n=>kN)
def Bw1:=ct (Bw0 K) (Auu K) (kC (Bof K K) kN)
def Aow (K:Nat)(a0:D4)(v1:Int)(v2:Int)(v3:Int)(v4:Int)(v5:Int)(v6:Int)(v7:Int)(v8:Int)(v9:Int)(v10:List Int)(v11:Int)(v12:Int)(v13:List A7)(v14:List Int)(C1:Int->Int->Int->Int->Int->Int->Int->Int->Int->(List Int)->Int->Int->(List A7)->(List Int)->Option (Bool)):Nat->Int->A7->Option (Bool)
 |0,_,_=>none
 |n2+1,v16,v17=>(if a0.Kh≠(0:Int)then(bif (decide (v16≤(Akr .i64 (Ana .i64 (Am9 .i64 v17.fAt v17.Ai8) 1) a0.Kh)))then((Apk K v10 v16).bind fun r18=>(bif (!r18)then some false else(Aow K a0 v1 v2 v3 v4 v5 v6 v7 v8 v9 v10 v11 v12 v13 v14 C1 n2 (Am9 .i64 v16 1) v17)))else(C1 (Am9 .i64 v1 1) v2 v3 v4 v5 v6 v7 v8 v9 v10 v11 v12 v13 v14))else none)
def Akj (K:Nat)(a0:D4):Nat->Int->Int->Int->Int->Int->Int->Int->Int->Int->(List Int)->Int->Int->(List A7)->(List Int)->Option (Bool)
 |0,_,_,_,_,_,_,_,_,_,_,_,_,_,_=>none
 |n1+1,v1,v2,v3,v4,v5,v6,v7,v8,v9,v10,v11,v12,v13,v14=>(bif (decide (v1<(v13.length:Int)))then(if(0:Int)≤v1∧v1<(v13.length:Int)then((Ase K a0 (gt v13 v1)).bind fun r15=>(bif (!r15)then some false else(if a0.Kh≠(0:Int)then(Aow K a0 v1 v2 v3 v4 v5 v6 v7 v8 v9 v10 v11 v12 v13 v14 (Akj K a0 n1) K (Akr .i64 ((gt v13 v1).fAt) a0.Kh) (gt v13 v1))else none)))else none)else some true)
def Avz (K:Nat)(a0:D4)(a1:A8):Option (Bool):=(Akj K a0 K 0 a1.Yq a1.C6 a1.Sy a1.fUp a1.Wk a1.Er a1.Wl a1.Wm a1.A6 a1.Afu a1.Wn a1.H7 a1.F3)
def Brv:=fd Tryz.func257 ⟨[.v 25,.v 71],[.v 4],true⟩ (gC (Bp7 K) (gC (Bal K) gN))
def By2:Ef:=⟨[(2,.p 102),(3,.p 103),(5,.v 2),(6,.p 106),(7,.v 2)],[(106,.st 112 true),(103,.box [.v 2,.v 2,.v 2,.v 2,.v 2,.v 2,.v 2,.v 2,.v 26,.v 2,.v 2,.v 69,.v 26]),(102,.st 25 true)]⟩
def Bfq:=fun(C26:CT Bh7 _)=>lp (Brv K) 6734 By2 [(26,ar Bh7 C26)] (fun n a b c d e f g h i j k l m o p q r=>Aow K r a d e f g h i j k l m o p q (fun v1 v2 v3 v4 v5 v6 v7 v8 v9 v10 v11 v12 v13 v14=>C26 v1 v2 v3 v4 v5 v6 v7 v8 v9 v10 v11 v12 v13 v14 r) n b c) (fun n=>kN)
def Bog:=lp (Brv K) 26 Bh7 [] (fun n a b c d e f g h i j k l m o p=>Akj K p n a b c d e f g h i j k l m o) (fun n=>(kC (Bfq K _ K) kN))
def Bw2:=ct (Brv K) (Avz K) (kC (Bog K K) kN)
def Azb (K:Nat)(a0:A7)(a1:A7):Option (Bool):=(bif (decide (a0.Ai8<1))then some true else(bif (decide (a1.Ai8<1))then some true else(bif (decide (a0.fAt≤a1.fAt))then(bif (decide ((Ana .i64 a1.fAt a0.fAt)≥a0.Ai8))then some true else some (decide ((Ana .i64 a1.fAt a0.fAt)<0)))else(bif (decide ((Ana .i64 a0.fAt a1.fAt)≥a1.Ai8))then some true else some (decide ((Ana .i64 a0.fAt a1.fAt)<0))))))
def Brw:=ct (fd Tryz.func274 ⟨[.v 112,.v 112],[.v 4],true⟩ gN [7,8,25,26,41,42]) (Azb K)
def Aox (K:Nat)(a0:List A7)(v1:Int)(C1:Int->Option (Bool)):Nat->Int->Option (Bool)
 |0,_=>none
 |n2+1,v2=>(bif (decide (v2<v1))then(if(0:Int)≤v1∧v1<(a0.length:Int)then(if(0:Int)≤v2∧v2<(a0.length:Int)then((Azb K (gt a0 v1) (gt a0 v2)).bind fun r3=>(bif (!r3)then some false else(Aox K a0 v1 C1 n2 (Am9 .i64 v2 1))))else none)else none)else(C1 (Am9 .i64 v1 1)))
def Akk (K:Nat)(a0:List A7):Nat->Int->Option (Bool)
 |0,_=>none
 |n1+1,v1=>(bif (decide (v1<(a0.length:Int)))then(Aox K a0 v1 (Akk K a0 n1) K 0)else some true)
def Av0 (K:Nat)(a0:List A7):Option (Bool):=(Akk K a0 K 0)
def Bip:=fd Tryz.func258 ⟨[.v 69],[.v 4],true⟩ (gC (Brw K) gN)
def By3:Ef:=⟨[(0,.v 69),(3,.v 2),(4,.v 2)],[]⟩
def Brx:Ef:=⟨[(0,.v 69),(3,.v 2)],[]⟩
def Bcm:=fun(C26:CT Brx _)=>lp (Bip K) 1682 By3 [(26,ar Brx C26)] (fun n a b=>Aox K a b (C26 a) n) (fun n=>kN)
def Biq:=lp (Bip K) 26 Brx [] (fun n a=>Akk K a n) (fun n=>(kC (Bcm K _ K) kN))
def Bry:=ct (Bip K) (Av0 K) (kC (Biq K K) kN)
def Atv (K:Nat)(v1:Int)(v2:Int)(v3:Int)(v4:Int)(v5:Int)(v6:Int)(v7:Int)(v8:Int)(v9:Int)(v10:Int)(v11:Int)(v12:List Int)(v13:Int)(v14:Int)(v15:List A7)(v16:List Int)(v17:Int)(v18:Int)(v19:Int)(v20:Int)(v21:Int)(v22:Int)(v23:List Int)(v24:List Int)(v25:List Int)(v26:List A8)(v27:List Av)(v28:List Int)(C1:Int->Int->Int->Int->Int->Int->Int->Int->Int->Int->Int->(List Int)->Int->Int->(List A7)->(List Int)->Int->Int->Int->Int->Int->Int->(List Int)->(List Int)->(List Int)->(List A8)->(List Av)->(List Int)->Option (Bool)):Option (Bool):=(C1 v1 v2 (Am9 .i64 v3 1) v4 v5 v6 v7 v8 v9 v10 v11 v12 v13 v14 v15 v16 v17 v18 v19 v20 v21 v22 v23 v24 v25 v26 v27 v28)
def Am0 (K:Nat):Nat->Int->Int->Int->Int->Int->Int->Int->Int->Int->Int->Int->(List Int)->Int->Int->(List A7)->(List Int)->Int->Int->Int->Int->Int->Int->(List Int)->(List Int)->(List Int)->(List A8)->(List Av)->(List Int)->Option (Bool)
 |0,_,_,_,_,_,_,_,_,_,_,_,_,_,_,_,_,_,_,_,_,_,_,_,_,_,_,_,_=>none
 |n1+1,v1,v2,v3,v4,v5,v6,v7,v8,v9,v10,v11,v12,v13,v14,v15,v16,v17,v18,v19,v20,v21,v22,v23,v24,v25,v26,v27,v28=>(bif (decide (v3<(v15.length:Int)))then(if(0:Int)≤v3∧v3<(v15.length:Int)then(bif (decide (((gt v15 v3).fAt)<v2))then(bif (decide ((Am9 .i64 ((gt v15 v3).fAt) ((gt v15 v3).Ai8))>v1))then some false else(Atv K v1 v2 v3 v4 v5 v6 v7 v8 v9 v10 v11 v12 v13 v14 v15 v16 v17 v18 v19 v20 v21 v22 v23 v24 v25 v26 v27 v28 (Am0 K n1)))else(Atv K v1 v2 v3 v4 v5 v6 v7 v8 v9 v10 v11 v12 v13 v14 v15 v16 v17 v18 v19 v20 v21 v22 v23 v24 v25 v26 v27 v28 (Am0 K n1)))else none)else(if(0:Int)≤v1∧v1≤v2∧v2≤(v23.length:Int)then((Ars K ((v23.drop v1.toNat).take (v2 - v1).toNat)).bind fun r29=>some r29)else none))
def Av1 (K:Nat)(a0:Ds)(a1:Int):Option (Bool):=(if(0:Int)≤a1∧a1<(a0.fL.length:Int)then(bif (((gt a0.fL a1).Afu)==0)then some true else(bif (decide ((Am9 .i64 (Anb .i64 (Ana .i64 ((gt a0.fL a1).Afu) 1) a0.fC.Kh) ((gt a0.fL a1).Wn))≥(Anb .i64 ((gt a0.fL a1).Afu) a0.fC.Kh)))then some true else(Am0 K K (Am9 .i64 (Anb .i64 (Ana .i64 ((gt a0.fL a1).Afu) 1) a0.fC.Kh) ((gt a0.fL a1).Wn)) (Anb .i64 ((gt a0.fL a1).Afu) a0.fC.Kh) 0 ((gt a0.fL a1).Yq) ((gt a0.fL a1).C6) ((gt a0.fL a1).Sy) ((gt a0.fL a1).fUp) ((gt a0.fL a1).Wk) ((gt a0.fL a1).Er) ((gt a0.fL a1).Wl) ((gt a0.fL a1).Wm) ((gt a0.fL a1).A6) ((gt a0.fL a1).Afu) ((gt a0.fL a1).Wn) ((gt a0.fL a1).H7) ((gt a0.fL a1).F3) a0.fC.A6 a0.fC.Kh a0.fC.Fj a0.fC.Hb a0.fC.Fk a0.fC.Ki a0.fP.Sk a0.fP.Yq a0.fP.Sl a0.fL a0.fQ a0.Afv)))else none)
def Bir:=fd Tryz.func259 ⟨[.v 32,.v 3],[.v 4],true⟩ (gC (Bea K) gN) [33,34,54,55] [2025]
def Boh:Ef:=⟨[(2,.p 102),(5,.p 105),(6,.v 2),(7,.v 2),(8,.v 2)],[(105,.box [.v 2,.v 2,.v 2,.v 2,.v 2,.v 2,.v 2,.v 2,.v 26,.v 2,.v 2,.v 69,.v 26]),(102,.box [.v 2,.v 2,.v 2,.v 2,.v 2,.v 2,.v 22,.v 26,.v 26,.v 29,.v 30,.v 26])]⟩
def Bcn:=fun(C506:CT Boh _)=>jn (Bir K) 2025 Boh [(506,ar Boh C506)] (fun a b c d e f g h i j k l m o p q r s t u v w x y z a1 b1 c1=>Atv K a b c d e f g h i j k l m o p q r s t u v w x y z a1 b1 c1 C506) kN
def Bfr:=lp (Bir K) 506 Boh [] (Am0 K) (fun n=>(kC (Bcn K _) kN))
def Brz:=ct (Bir K) (Av1 K) (kC (Bfr K K) kN)
def Aoh (K:Nat)(v4:Int)(v5:Int)(v6:Int)(v7:Int)(v8:Int)(v9:Int)(v10:List Int)(v11:List Int)(v12:List Int)(v13:List A8)(v14:List Av)(v15:List Int):Nat->Int->Option (Bool)
 |0,_=>none
 |n3+1,v23=>(bif (decide (v23<(v15.length:Int)))then(if(0:Int)≤v23∧v23<(v15.length:Int)then((Gy K (gt v15 v23) 0 255).bind fun r24=>(bif (!r24)then some false else(Aoh K v4 v5 v6 v7 v8 v9 v10 v11 v12 v13 v14 v15 n3 (Am9 .i64 v23 1))))else none)else((Aus K (Ds.mk (D4.mk v4 v5 v6 v7 v8 v9) (Dh.mk v10 v11 v12) v13 v14 v15)).bind fun r25=>some r25))
def Aph (K:Nat)(v4:Int)(v5:Int)(v6:Int)(v7:Int)(v8:Int)(v9:Int)(v10:List Int)(v11:List Int)(v12:List Int)(v13:List A8)(v14:List Av)(v15:List Int):Nat->Int->Option (Bool)
 |0,_=>none
 |n2+1,v21=>(bif (decide (v21<(v14.length:Int)))then((Avy K (Ds.mk (D4.mk v4 v5 v6 v7 v8 v9) (Dh.mk v10 v11 v12) v13 v14 v15) v21).bind fun r22=>(bif (!r22)then some false else(Aph K v4 v5 v6 v7 v8 v9 v10 v11 v12 v13 v14 v15 n2 (Am9 .i64 v21 1))))else(Aoh K v4 v5 v6 v7 v8 v9 v10 v11 v12 v13 v14 v15 K 0))
def Aoi (K:Nat):Nat->Int->Int->Int->Int->Int->Int->Int->(List Int)->(List Int)->(List Int)->(List A8)->(List Av)->(List Int)->Option (Bool)
 |0,_,_,_,_,_,_,_,_,_,_,_,_,_=>none
 |n1+1,v3,v4,v5,v6,v7,v8,v9,v10,v11,v12,v13,v14,v15=>(bif (decide (v3<(v13.length:Int)))then(if(0:Int)≤v3∧v3<(v13.length:Int)then((Apl K (D4.mk v4 v5 v6 v7 v8 v9) (gt v13 v3)).bind fun r16=>(bif r16 then((Auu K (Ds.mk (D4.mk v4 v5 v6 v7 v8 v9) (Dh.mk v10 v11 v12) v13 v14 v15) v3).bind fun r17=>(bif r17 then(if(0:Int)≤v3∧v3<(v13.length:Int)then((Avz K (D4.mk v4 v5 v6 v7 v8 v9) (gt v13 v3)).bind fun r18=>(bif r18 then(if(0:Int)≤v3∧v3<(v13.length:Int)then((Av0 K ((gt v13 v3).H7)).bind fun r19=>(bif r19 then((Av1 K (Ds.mk (D4.mk v4 v5 v6 v7 v8 v9) (Dh.mk v10 v11 v12) v13 v14 v15) v3).bind fun r20=>(bif (!r20)then some false else(Aoi K n1 (Am9 .i64 v3 1) v4 v5 v6 v7 v8 v9 v10 v11 v12 v13 v14 v15)))else some false))else none)else some false))else none)else some false))else some false))else none)else(Aph K v4 v5 v6 v7 v8 v9 v10 v11 v12 v13 v14 v15 K 0))
def Aqw (K:Nat)(a0:Ds):Option (Bool):=((Au8 K a0.fC a0.fP).bind fun r1=>(bif r1 then(bif ((a0.fL.length:Int) != a0.fC.Fj)then some false else((Ayd K a0.fL).bind fun r2=>(bif (!r2)then some false else(Aoi K K 0 a0.fC.A6 a0.fC.Kh a0.fC.Fj a0.fC.Hb a0.fC.Fk a0.fC.Ki a0.fP.Sk a0.fP.Yq a0.fP.Sl a0.fL a0.fQ a0.Afv))))else some false))
def Bef:=fd Tryz.func239 ⟨[.v 32],[.v 4],true⟩ (gC (A0t K) (gC (A8b K) (gC (Bp2 K) (gC (Bwt K) (gC (Bw1 K) (gC (Bw2 K) (gC (Bry K) (gC (Brz K) (gC (Bwz K) (gC (Bww K) gN)))))))))) [10,11,12,19,20,21,41,42,43,46,47,48,49,57,58,59,60,67,68,69,70]
def By4:Ef:=⟨[(1,.p 101),(5,.v 2)],[(101,.box [.v 2,.v 2,.v 2,.v 2,.v 2,.v 2,.v 22,.v 26,.v 26,.v 29,.v 30,.v 26])]⟩
def By5:Ef:=⟨[(1,.p 101),(4,.v 2)],[(101,.box [.v 2,.v 2,.v 2,.v 2,.v 2,.v 2,.v 22,.v 26,.v 26,.v 29,.v 30,.v 26])]⟩
def By6:Ef:=⟨[(1,.p 101),(3,.v 2)],[(101,.box [.v 2,.v 2,.v 2,.v 2,.v 2,.v 2,.v 22,.v 26,.v 26,.v 29,.v 30,.v 26])]⟩
def Bfs:=lp (Bef K) 250 By4 [] (fun n a b c d e f g h i j k l m=>Aoh K b c d e f g h i j k l m n a) (fun n=>kN)
def Bft:=lp (Bef K) 122 By5 [] (fun n a b c d e f g h i j k l m=>Aph K b c d e f g h i j k l m n a) (fun n=>(kC (up (Bfs K K)) kN))
def Bis:=lp (Bef K) 58 By6 [] (Aoi K) (fun n=>(kC (up (Bft K K)) kN))
def A84:=ct (Bef K) (Aqw K) (kC (Bis K K) kN)
def Azc (K:Nat)(a0:Dy):Option (Bool):=((As9 K a0.fH).bind fun r1=>(bif r1 then(bif (decide (a0.Sy≥0))then some (decide (a0.fNo≥0))else some false)else some false))
def Br0:=ct (fd Tryz.func262 ⟨[.v 36],[.v 4],true⟩ (gC (Bpv K) gN) [5,6,9,10,11]) (Azc K)
def Axc (K:Nat)(a0:A8)(a1:Dy):Option (A7×Bool):=(bif (a0.Yq != 1)then some ((A7.mk 0 0 0),false)else(bif (a0.Sy != a1.Sy)then some ((A7.mk 0 0 0),false)else((Gy K a1.fNo 0 (Ana .i64 (a0.H7.length:Int) 1)).bind fun r1=>(bif (!r1)then some ((A7.mk 0 0 0),false)else(if(0:Int)≤a1.fNo∧a1.fNo<(a0.H7.length:Int)then some ((gt a0.H7 a1.fNo),true)else none)))))
def Br1:=ct (fd Tryz.func263 ⟨[.v 71,.v 36],[.v 112,.v 4],true⟩ (gC (A0t K) gN) [8,9,14,15,16]) (Axc K)
def Asl (K:Nat)(a0:Ds)(a1:Dy):Option (Int×A7×Int):=((Azc K a1).bind fun r1=>(bif (!r1)then some ((-1),(A7.mk 0 0 0),1)else((Am5 K a0 a1.fH).bind fun r2=>(bif (r2.2 != 0)then some ((-1),(A7.mk 0 0 0),r2.2)else(if(0:Int)≤r2.1∧r2.1<(a0.fL.length:Int)then((Axc K (gt a0.fL r2.1) a1).bind fun r3=>(bif (!r3.2)then some ((-1),(A7.mk 0 0 0),2)else some (r2.1,r3.1,0)))else none)))))
def Biu:=ct (fd Tryz.func240 ⟨[.v 32,.v 36],[.v 3,.v 112,.v 3],true⟩ (gC (A79 K) (gC (Br0 K) (gC (Br1 K) gN)))) (Asl K)
def Axd (K:Nat)(a0:A7)(a1:Int)(a2:Int):Option (Bool):=(bif (decide (a1≥0))then(bif (decide (a2≥0))then(bif (decide (a1≤a0.Ai8))then(bif (decide (a2≤(Ana .i64 a0.Ai8 a1)))then(bif (decide (a0.fAt<0))then some true else some (decide ((Am9 .i64 a0.fAt a1)≥0)))else some false)else some false)else some false)else some false)
def Biv:=ct (fd Tryz.func264 ⟨[.v 112,.v 3,.v 3],[.v 4],true⟩ gN [8,9,11,12,13,17,18,19,25,26,27,30,31]) (Axd K)
def Aud (K:Nat)(a0:List Int)(a1:Int)(a2:Int):Option (Bool):=(bif (decide (a1≥0))then(bif (decide (a2≥0))then(bif (decide (a1≤(a0.length:Int)))then some (decide (a2≤(Ana .i64 (a0.length:Int) a1)))else some false)else some false)else some false)
def Biw:=ct (fd Tryz.func279 ⟨[.v 22,.v 3,.v 3],[.v 4],true⟩ gN [8,9,11,12,13,17,18,19]) (Aud K)
def Azd (K:Nat)(a0:List Int)(a1:Int)(a2:Int):Option ((List Int)×Bool):=((Aud K a0 a1 a2).bind fun r1=>(bif (!r1)then some (([]:List Int),false)else(if(0:Int)≤a1∧a1≤(Am9 .i64 a1 a2)∧(Am9 .i64 a1 a2)≤(a0.length:Int)then(if(([]:List Int)++((a0.drop a1.toNat).take ((Am9 .i64 a1 a2) - a1).toNat)).length*1≤140737488355328∧(([]:List Int)++((a0.drop a1.toNat).take ((Am9 .i64 a1 a2) - a1).toNat)).length≤maxLen then some ((([]:List Int)++((a0.drop a1.toNat).take ((Am9 .i64 a1 a2) - a1).toNat)),true)else none)else none)))
def Br2:=ct (fd Tryz.func265 ⟨[.v 22,.v 3,.v 3],[.n 22 true,.v 4],true⟩ (gC (Biw K) gN)) (Azd K)
def Auv (K:Nat)(a0:List Int)(a1:A7)(a2:Int)(a3:Int):Option ((List Int)×Bool):=((Axd K a1 a2 a3).bind fun r1=>(bif (!r1)then some (([]:List Int),false)else((Azd K a0 (Am9 .i64 a1.fAt a2) a3).bind fun r2=>some (r2.1,r2.2))))
def Br3:=ct (fd Tryz.func241 ⟨[.v 22,.v 112,.v 3,.v 3],[.n 22 true,.v 4],true⟩ (gC (Biv K) (gC (Br2 K) gN))) (Auv K)
def A0i (K:Nat)(a0:Ds)(a1:Dy)(a2:Int)(a3:Int):Option (Ds×Es):=((App K a0).bind fun r1=>((Aqw K a0).bind fun r2=>(bif (!r2)then some (r1,(Es.mk 1 (Bo.mk 0 0) (Dy.mk (Bo.mk 0 0) 0 0) [] 0 0 0))else((Asl K a0 a1).bind fun r3=>((Aos K a0 a1.fH).bind fun r4=>(bif (r3.2.2 != 0)then some (r1,(Es.mk r3.2.2 (Bo.mk 0 0) (Dy.mk (Bo.mk 0 0) 0 0) [] r4 0 0))else((Auv K a0.fP.Sk r3.2.1 a2 a3).bind fun r5=>(bif (!r5.2)then some (r1,(Es.mk 7 (Bo.mk 0 0) (Dy.mk (Bo.mk 0 0) 0 0) [] r4 0 0))else some (r1,(Es.mk r3.2.2 (Bo.mk 0 0) (Dy.mk (Bo.mk 0 0) 0 0) r5.1 r4 0 0))))))))))
def Br4:=ct (fd Tryz.func204 ⟨[.v 32,.v 36,.v 3,.v 3],[.n 32 true,.n 47 true],true⟩ (gC (A6f K) (gC (Bam K) (gC (A84 K) (gC (Biu K) (gC (Br3 K) gN))))) [] [] [(7,[.take 114 7 6831]),(11,[.take 114 7 6831])]) (A0i K)
def Apr (K:Nat)(a1:Int)(a2:List Int):Nat->(List Int)->Int->Option ((List Int)×Bool)
 |0,_,_=>none
 |n1+1,v2,v3=>(bif (decide (v3<(a2.length:Int)))then(if(0:Int)≤v3∧v3<(a2.length:Int)then(if(0:Int)≤(Am9 .i64 a1 v3)∧(Am9 .i64 a1 v3)<(v2.length:Int)then(Apr K a1 a2 n1 (v2.set (Am9 .i64 a1 v3).toNat (gt a2 v3)) (Am9 .i64 v3 1))else none)else none)else some (v2,true))
def Aze (K:Nat)(a0:List Int)(a1:Int)(a2:List Int):Option ((List Int)×Bool):=(if(([]:List Int)++a0).length*1≤140737488355328∧(([]:List Int)++a0).length≤maxLen then((Aud K a0 a1 (a2.length:Int)).bind fun r1=>(bif (!r1)then some ((([]:List Int)++a0),false)else(Apr K a1 a2 K (([]:List Int)++a0) 0)))else none)
def Bqc:=fd Tryz.func266 ⟨[.v 22,.v 3,.v 22],[.n 22 true,.v 4],true⟩ (gC (Biw K) gN)
def By7:Ef:=⟨[(1,.v 2),(2,.v 22),(8,.o 1008 5 true),(9,.v 2)],[]⟩
def Bfu:=lp (Bqc K) 122 By7 [] (fun n a b=>Apr K a b n) (fun n=>kN)
def Br5:=ct (Bqc K) (Aze K) (kC (Bfu K K) kN)
def Atw (K:Nat)(a0:List Int)(a1:A7)(a2:Int)(a3:List Int):Option ((List Int)×Bool):=((Axd K a1 a2 (a3.length:Int)).bind fun r1=>(bif (!r1)then(if(([]:List Int)++a0).length*1≤140737488355328∧(([]:List Int)++a0).length≤maxLen then some ((([]:List Int)++a0),false)else none)else((Aze K a0 (Am9 .i64 a1.fAt a2) a3).bind fun r2=>some (r2.1,r2.2))))
def Br6:=ct (fd Tryz.func242 ⟨[.v 22,.v 112,.v 3,.v 22],[.n 22 true,.v 4],true⟩ (gC (Biv K) (gC (Br5 K) gN))) (Atw K)
def Azf (K:Nat)(a0:Ds)(a1:Dy)(a2:Int)(a3:List Int):Option (Ds×Es):=((App K a0).bind fun r1=>((Aqw K a0).bind fun r2=>(bif (!r2)then some (r1,(Es.mk 1 (Bo.mk 0 0) (Dy.mk (Bo.mk 0 0) 0 0) [] 0 0 0))else((Asl K a0 a1).bind fun r3=>((Aos K a0 a1.fH).bind fun r4=>(bif (r3.2.2 != 0)then some (r1,(Es.mk r3.2.2 (Bo.mk 0 0) (Dy.mk (Bo.mk 0 0) 0 0) [] r4 0 0))else((Atw K a0.fP.Sk r3.2.1 a2 a3).bind fun r5=>(bif (!r5.2)then some (r1,(Es.mk 7 (Bo.mk 0 0) (Dy.mk (Bo.mk 0 0) 0 0) [] r4 0 0))else some ((Ds.mk r1.fC (Dh.mk r5.1 r1.fP.Yq r1.fP.Sl) r1.fL r1.fQ r1.Afv),(Es.mk r3.2.2 (Bo.mk 0 0) (Dy.mk (Bo.mk 0 0) 0 0) [] r4 0 0))))))))))
def Br7:=ct (fd Tryz.func205 ⟨[.v 32,.v 36,.v 3,.v 22],[.n 32 true,.n 47 true],true⟩ (gC (A6f K) (gC (Bam K) (gC (A84 K) (gC (Biu K) (gC (Br6 K) gN))))) [] [] [(7,[.take 114 7 6831]),(11,[.take 114 7 6831]),(13,[.take 114 7 6831])]) (Azf K)
def Azg (K:Nat)(v7:Es)(v10:Ds):Option (Ds×Es):=some (v10,v7)
def Axe (K:Nat)(a2:Int)(r1:Ds)(v6:Int)(v7:Es)(v8:Es)(v9:Ds):Option (Ds×Es):=(bif (v7.Wq==0)then(if(0:Int)≤v6∧v6<(r1.fL.length:Int)then(if(0:Int)≤v6∧v6<(r1.fL.length:Int)then(if(((gt r1.fL v6).F3)++([a2]:List Int)).length*8≤140737488355328∧(((gt r1.fL v6).F3)++([a2]:List Int)).length≤maxLen then(if(0:Int)≤v6∧v6<(r1.fL.length:Int)then(Azg K v7 (Ds.mk r1.fC r1.fP (r1.fL.set v6.toNat (A8.mk ((gt r1.fL v6).Yq) ((gt r1.fL v6).C6) ((gt r1.fL v6).Sy) ((gt r1.fL v6).fUp) ((gt r1.fL v6).Wk) ((gt r1.fL v6).Er) ((gt r1.fL v6).Wl) ((gt r1.fL v6).Wm) ((gt r1.fL v6).A6) ((gt r1.fL v6).Afu) ((gt r1.fL v6).Wn) ((gt r1.fL v6).H7) (((gt r1.fL v6).F3)++([a2]:List Int)))) r1.fQ r1.Afv))else none)else none)else none)else none)else(Azg K v7 r1))
def A1e (K:Nat)(a0:Ds)(a1:Bo)(a2:Int):Option (Ds×Es):=((App K a0).bind fun r1=>((Aqw K a0).bind fun r2=>(bif r2 then((Gy K a2 0 255).bind fun r3=>(bif (!r3)then some (r1,(Es.mk 1 (Bo.mk 0 0) (Dy.mk (Bo.mk 0 0) 0 0) [] 0 0 0))else((Am5 K a0 a1).bind fun r4=>((Aos K a0 a1).bind fun r5=>(bif (r4.2==0)then(if(0:Int)≤r4.1∧r4.1<(a0.fL.length:Int)then(bif (decide ((((gt a0.fL r4.1).F3).length:Int)≥6))then(Axe K a2 r1 r4.1 (Es.mk 8 (Bo.mk 0 0) (Dy.mk (Bo.mk 0 0) 0 0) [] r5 0 0) (Es.mk 0 (Bo.mk 0 0) (Dy.mk (Bo.mk 0 0) 0 0) [] 0 0 0) (Ds.mk (D4.mk 0 0 0 0 0 0) (Dh.mk [] [] []) [] [] []))else(Axe K a2 r1 r4.1 (Es.mk r4.2 (Bo.mk 0 0) (Dy.mk (Bo.mk 0 0) 0 0) [] r5 0 0) (Es.mk 0 (Bo.mk 0 0) (Dy.mk (Bo.mk 0 0) 0 0) [] 0 0 0) (Ds.mk (D4.mk 0 0 0 0 0 0) (Dh.mk [] [] []) [] [] [])))else none)else(Axe K a2 r1 r4.1 (Es.mk r4.2 (Bo.mk 0 0) (Dy.mk (Bo.mk 0 0) 0 0) [] r5 0 0) (Es.mk 0 (Bo.mk 0 0) (Dy.mk (Bo.mk 0 0) 0 0) [] 0 0 0) (Ds.mk (D4.mk 0 0 0 0 0 0) (Dh.mk [] [] []) [] [] [])))))))else some (r1,(Es.mk 1 (Bo.mk 0 0) (Dy.mk (Bo.mk 0 0) 0 0) [] 0 0 0)))))
def Bix:=fd Tryz.func206 ⟨[.v 32,.v 34,.v 3],[.n 32 true,.n 47 true],true⟩ (gC (A0t K) (gC (A79 K) (gC (A6f K) (gC (Bam K) (gC (A84 K) gN))))) [15,16,17,36,37] [63,127] [(9,[.take 108 9 6737,.opn 6737 (.tmp 9),.takeE 6737 12 87180]),(10,[.take 108 6 6734,.take 108 7 6735,.take 108 8 6736,.take 108 9 6737,.take 108 10 6738,.take 108 11 6739,.take 111 7 6783])]
def By8:Ef:=⟨[(6,.p 106),(7,.p 107),(8,.p 108),(11,.p 111)],[(111,.st 47 true),(108,.st 32 true),(107,.st 47 true),(106,.st 32 true)]⟩
def By9:Ef:=⟨[(2,.v 2),(6,.p 106),(7,.p 107),(8,.p 108),(9,.v 2),(11,.p 111)],[(111,.st 47 true),(108,.st 32 true),(107,.st 47 true),(106,.st 32 true)]⟩
def Bfv:=jn (Bix K) 127 By8 [] (fun a b _ _=>Azg K a b) kN
def Biy:=jn (Bix K) 63 By9 [] (fun a b c d=>Axe K a d b c) (kC (Bfv K) kN)
def Br8:=ct (Bix K) (A1e K) (kC (Biy K) kN)
def Azt (K:Nat)(a0:D4)(a1:A8):Option (Int):=(bif (a1.Afu==0)then some 0 else((Apl K a0 a1).bind fun r1=>(bif (!r1)then some 0 else some (Ana .i64 a0.Kh a1.Wn))))
def Br9:=ct (fd Tryz.func243 ⟨[.v 25,.v 71],[.v 3],true⟩ (gC (A8b K) gN) [7,8]) (Azt K)
def Axf (K:Nat)(r1:Ds)(v6:Es)(v7:Es)(v8:Ds):Option (Ds×Es):=some (r1,v6)
def Azh (K:Nat)(a0:Ds)(a1:Bo):Option (Ds×Es):=((App K a0).bind fun r1=>((Aqw K a0).bind fun r2=>(bif (!r2)then some (r1,(Es.mk 1 (Bo.mk 0 0) (Dy.mk (Bo.mk 0 0) 0 0) [] 0 0 0))else((Am5 K a0 a1).bind fun r3=>((Aos K a0 a1).bind fun r4=>(bif (r3.2==0)then(if(0:Int)≤r3.1∧r3.1<(a0.fL.length:Int)then((Azt K a0.fC (gt a0.fL r3.1)).bind fun r5=>(Axf K r1 (Es.mk r3.2 (Bo.mk 0 0) (Dy.mk (Bo.mk 0 0) 0 0) ([(IntKind.u8.wrap (((gt a0.fL r3.1).A6).length:Int)),(IntKind.u8.wrap (((gt a0.fL r3.1).H7).length:Int)),(IntKind.u8.wrap (((gt a0.fL r3.1).F3).length:Int)),(IntKind.u8.wrap r5)]:List Int) r4 0 0) (Es.mk 0 (Bo.mk 0 0) (Dy.mk (Bo.mk 0 0) 0 0) [] 0 0 0) (Ds.mk (D4.mk 0 0 0 0 0 0) (Dh.mk [] [] []) [] [] [])))else none)else(Axf K r1 (Es.mk r3.2 (Bo.mk 0 0) (Dy.mk (Bo.mk 0 0) 0 0) [] r4 0 0) (Es.mk 0 (Bo.mk 0 0) (Dy.mk (Bo.mk 0 0) 0 0) [] 0 0 0) (Ds.mk (D4.mk 0 0 0 0 0 0) (Dh.mk [] [] []) [] [] []))))))))
def Bqd:=fd Tryz.func207 ⟨[.v 32,.v 34],[.n 32 true,.n 47 true],true⟩ (gC (A79 K) (gC (A6f K) (gC (Bam K) (gC (A84 K) (gC (Br9 K) gN))))) [] [63] [(9,[.take 106 6 6702,.take 106 7 6703,.take 106 8 6704,.take 106 9 6705,.take 106 10 6706,.take 106 11 6707,.take 109 7 6751])]
def Bza:Ef:=⟨[(4,.p 104),(5,.p 105),(6,.p 106),(9,.p 109)],[(109,.st 47 true),(106,.st 32 true),(105,.st 47 true),(104,.st 32 true)]⟩
def Biz:=jn (Bqd K) 63 Bza [] (fun a b=>Axf K b a) kN
def Bsa:=ct (Bqd K) (Azh K) (kC (Biz K) kN)
def Aye (K:Nat)(a0:Ds)(a1:Cm):Option (Ds×Es):=(bif (a1.Wp==3)then((A0i K a0 a1.fR a1.fN a1.fM).bind fun r1=>some (r1.1,r1.2))else(bif (a1.Wp==4)then((Azf K a0 a1.fR a1.fN a1.fB).bind fun r2=>some (r2.1,r2.2))else(bif (a1.Wp==5)then((A1e K a0 a1.fH a1.fN).bind fun r3=>some (r3.1,r3.2))else(bif (a1.Wp==8)then((Azh K a0 a1.fH).bind fun r4=>some (r4.1,r4.2))else((App K a0).bind fun r5=>some (r5,(Es.mk 1 (Bo.mk 0 0) (Dy.mk (Bo.mk 0 0) 0 0) [] 0 0 0)))))))
def Bsb:=ct (fd Tryz.func151 ⟨[.v 32,.v 38],[.n 32 true,.n 47 true],true⟩ (gC (Br4 K) (gC (Br7 K) (gC (Br8 K) (gC (Bsa K) (gC (Bam K) gN)))))) (Aye K)
def Azu (K:Nat)(v31:Int)(v32:Int)(v33:Int)(v34:Int)(v35:Int)(v36:Int)(v37:List Int)(v38:List Int)(v39:List Int)(v40:List A8)(v41:List Av)(v42:List Int)(v43:Es):Option (Es×Ds):=some (v43,(Ds.mk (D4.mk v31 v32 v33 v34 v35 v36) (Dh.mk v37 v38 v39) v40 v41 v42))
def Aue (K:Nat)(v4:Bool)(v5:Int)(v6:Int)(v7:Int)(v8:Int)(v9:Int)(v10:Int)(v11:List Int)(v12:List Int)(v13:List Int)(v14:List A8)(v15:List Av)(v16:List Int)(v17:Es)(v18:Int)(v19:Int)(v20:Int)(v21:Int)(v22:Int)(v23:Int)(v24:Int)(v25:Int)(v26:Int)(v27:List Int):Option (Es×Ds):=(bif v4 then((Am5 K (Ds.mk (D4.mk v5 v6 v7 v8 v9 v10) (Dh.mk v11 v12 v13) v14 v15 v16) (Bo.mk v19 v20)).bind fun r28=>((Aos K (Ds.mk (D4.mk v5 v6 v7 v8 v9 v10) (Dh.mk v11 v12 v13) v14 v15 v16) (Bo.mk v19 v20)).bind fun r29=>(bif (r28.2 != 0)then some ((Es.mk r28.2 (Bo.mk 0 0) (Dy.mk (Bo.mk 0 0) 0 0) [] r29 0 0),(Ds.mk (D4.mk v5 v6 v7 v8 v9 v10) (Dh.mk v11 v12 v13) v14 v15 v16))else(bif (v18==6)then((Atu K (Ds.mk (D4.mk v5 v6 v7 v8 v9 v10) (Dh.mk v11 v12 v13) v14 v15 v16) r28.1).bind fun r30=>(Azu K r30.fC.A6 r30.fC.Kh r30.fC.Fj r30.fC.Hb r30.fC.Fk r30.fC.Ki r30.fP.Sk r30.fP.Yq r30.fP.Sl r30.fL r30.fQ r30.Afv (Es.mk r28.2 (Bo.mk 0 0) (Dy.mk (Bo.mk 0 0) 0 0) [] r29 0 0)))else((Avw K (Ds.mk (D4.mk v5 v6 v7 v8 v9 v10) (Dh.mk v11 v12 v13) v14 v15 v16) r28.1).bind fun r44=>(Azu K r44.fC.A6 r44.fC.Kh r44.fC.Fj r44.fC.Hb r44.fC.Fk r44.fC.Ki r44.fP.Sk r44.fP.Yq r44.fP.Sl r44.fL r44.fQ r44.Afv (Es.mk r28.2 (Bo.mk 0 0) (Dy.mk (Bo.mk 0 0) 0 0) [] r29 0 0)))))))else((Aye K (Ds.mk (D4.mk v5 v6 v7 v8 v9 v10) (Dh.mk v11 v12 v13) v14 v15 v16) (Cm.mk v18 (Bo.mk v19 v20) (Dy.mk (Bo.mk v21 v22) v23 v24) v25 v26 v27)).bind fun r45=>some (r45.2,r45.1)))
def Azi (K:Nat)(a0:Ds)(a1:Cm):Option (Es×Ds):=(bif (a1.Wp==1)then((Aw6 K a0 a1.fH).bind fun r1=>some (r1.1,r1.2))else(bif (a1.Wp==2)then((Avv K a0 a1.fH a1.fN a1.fM).bind fun r2=>some (r2.1,r2.2))else(bif (a1.Wp==9)then((Asg K a0 4000).bind fun r3=>some ((Es.mk 0 (Bo.mk 0 0) (Dy.mk (Bo.mk 0 0) 0 0) [] 0 0 r3.1),r3.2))else(bif (a1.Wp==6)then(Aue K (a1.Wp==6) a0.fC.A6 a0.fC.Kh a0.fC.Fj a0.fC.Hb a0.fC.Fk a0.fC.Ki a0.fP.Sk a0.fP.Yq a0.fP.Sl a0.fL a0.fQ a0.Afv (Es.mk 0 (Bo.mk 0 0) (Dy.mk (Bo.mk 0 0) 0 0) [] 0 0 0) a1.Wp a1.fH.Be a1.fH.C6 a1.fR.fH.Be a1.fR.fH.C6 a1.fR.Sy a1.fR.fNo a1.fN a1.fM a1.fB)else(Aue K (a1.Wp==7) a0.fC.A6 a0.fC.Kh a0.fC.Fj a0.fC.Hb a0.fC.Fk a0.fC.Ki a0.fP.Sk a0.fP.Yq a0.fP.Sl a0.fL a0.fQ a0.Afv (Es.mk 0 (Bo.mk 0 0) (Dy.mk (Bo.mk 0 0) 0 0) [] 0 0 0) a1.Wp a1.fH.Be a1.fH.C6 a1.fR.fH.Be a1.fR.fH.C6 a1.fR.Sy a1.fR.fNo a1.fN a1.fM a1.fB)))))
def Bi0:=fd Tryz.func107 ⟨[.b 32 false,.v 38],[.v 47],false⟩ (gC (Bwa K) (gC (Bwj K) (gC (Bic K) (gC (A79 K) (gC (A6f K) (gC (Bwl K) (gC (Bwo K) (gC (Bsb K) gN)))))))) [] [1727,55287] [(10,[.take 1 6 5022,.take 1 7 5023,.take 1 8 5024,.take 1 9 5025,.take 1 10 5026,.take 1 11 5027]),(13,[.take 107 7 6719]),(15,[.put 1]),(16,[.put 1]),(17,[.take 107 7 6719]),(18,[.take 1 6 5022,.take 1 7 5023,.take 1 8 5024,.take 1 9 5025,.take 1 10 5026,.take 1 11 5027])]
def Bzb:Ef:=⟨[(4,.p 104),(7,.p 107)],[(1,.box [.v 2,.v 2,.v 2,.v 2,.v 2,.v 2,.T 5 true,.T 3 true,.T 3 true,.T 71 false,.T 79 false,.T 3 true]),(107,.st 47 true),(104,.st 47 true)]⟩
def Bzc:Ef:=⟨[(0,.p 1),(3,.p 103),(4,.p 104),(33,.v 4)],[(1,.box [.v 2,.v 2,.v 2,.v 2,.v 2,.v 2,.T 5 true,.T 3 true,.T 3 true,.T 71 false,.T 79 false,.T 3 true]),(104,.st 47 true),(103,.box [.v 2,.v 2,.v 2,.v 2,.v 2,.v 2,.v 2,.v 2,.v 2,.v 22])]⟩
def Bap:=jn (Bi0 K) 55287 Bzb [] (fun a b c d e f g h i j k l m _=>Azu K a b c d e f g h i j k l m) kN
def Bco:=jn (Bi0 K) 1727 Bzc [] (Aue K) (kC (Bap K) kN)
def Bsc:=ct (Bi0 K) (Azi K) (kC (Bco K) kN)
def Atd (K:Nat):Nat->(List Cm)->Int->(List Int)->Int->Int->Ds->D4->Ds->D4->Option (D4×(List Cm)×Ds×Dt)
 |0,_,_,_,_,_,_,_,_,_=>none
 |n1+1,v4,v5,v6,v7,v8,v9,v10,v11,v12=>(bif (decide (v5>0))then(bif (decide ((v4.length:Int)<200))then((At5 K (Dt.mk v6 v7 v8) v9).bind fun r13=>(if r13.2.2.1.length=v9.fP.Sk.length∧r13.2.2.2.1.length=v9.fP.Yq.length∧r13.2.2.2.2.1.length=v9.fP.Sl.length∧r13.2.2.2.2.2.1.length=v9.fL.length∧r13.2.2.2.2.2.2.1.length=v9.fQ.length∧r13.2.2.2.2.2.2.2.length=v9.Afv.length then(if(v4++([r13.1]:List Cm)).length*96≤140737488355328∧(v4++([r13.1]:List Cm)).length≤maxLen then((Azi K (Ds.mk v9.fC (Dh.mk r13.2.2.1 r13.2.2.2.1 r13.2.2.2.2.1) r13.2.2.2.2.2.1 r13.2.2.2.2.2.2.1 r13.2.2.2.2.2.2.2) r13.1).bind fun r14=>(Atd K n1 (v4++([r13.1]:List Cm)) (Ana .i64 v5 1) r13.2.1.fb r13.2.1.fi r13.2.1.fh r14.2 v10 v11 v12))else none)else none))else some (v10,v4,v9,(Dt.mk v6 v7 v8)))else some (v10,v4,v9,(Dt.mk v6 v7 v8)))
def Ayf (K:Nat)(a0:Dt)(a1:Int):Option (D4×(List Cm)×Ds×Dt):=((Ax9 K a0).bind fun r1=>((Avl K r1.1).bind fun r2=>((P2 K r1.2 a1).bind fun r3=>(Atd K K ([]:List Cm) (Am9 .i64 4 r3.1) r3.2.fb r3.2.fi r3.2.fh r2 r1.1 (Ds.mk (D4.mk 0 0 0 0 0 0) (Dh.mk [] [] []) [] [] []) (D4.mk 0 0 0 0 0 0)))))
def Bqe:=fd Tryz.func53 ⟨[.b 99 false,.v 3],[.v 25,.n 55 false,.n 32 false],false⟩ (gC (Bpu K) (gC (Bcj K) (gC (Bx0 K) (gC (Bu4 K) (gC (Bsc K) gN))))) [22,23] [] [(4,[.put 108,.take 108 9 6737,.shal 6737,.take 108 10 6738,.shal 6738,.put 108,.shal 1009]),(7,[.take 108 6 6734,.take 108 7 6735,.take 108 8 6736,.take 108 9 6737,.take 108 10 6738,.take 108 11 6739]),(9,[.put 108]),(10,[.take 108 6 6734,.take 108 7 6735,.take 108 8 6736,.take 108 9 6737,.take 108 10 6738,.take 108 11 6739])] [(32,[.frz 3032])]
def Bzd:Ef:=⟨[(0,.p 1),(4,.p 104),(6,.p 106),(7,.p 107),(8,.p 108),(9,.o 1009 38 false),(10,.v 2)],[(1,.box [.v 22,.v 2,.v 2]),(108,.st 32 false),(107,.st 25 true),(106,.st 32 true),(104,.st 25 true)]⟩
def Bfw:=lp (Bqe K) 250 Bzd [] (Atd K) (fun n=>kN)
def Bsd:=ct (Bqe K) (Ayf K) (kC (Bfw K K) kN)
def Ayz (K:Nat)(a0:Dt)(a1:Int):Option (Ds×Dt):=((Ayf K a0 a1).bind fun r1=>some (r1.2.2.1,r1.2.2.2))
def Bse:=ct (fd Tryz.func30 ⟨[.b 99 false,.v 3],[.n 32 false],false⟩ (gC (Bsd K) gN)) (Ayz K)
def Auw (K:Nat)(a0:List Int):Option (Ds×Cm):=((Ay5 K a0).bind fun r1=>((Au4 K a0 50).bind fun r2=>((Ayz K r1 (Am9 .i64 20 r2)).bind fun r3=>((At5 K r3.2 r3.1).bind fun r4=>(if r4.2.2.1.length=r3.1.fP.Sk.length∧r4.2.2.2.1.length=r3.1.fP.Yq.length∧r4.2.2.2.2.1.length=r3.1.fP.Sl.length∧r4.2.2.2.2.2.1.length=r3.1.fL.length∧r4.2.2.2.2.2.2.1.length=r3.1.fQ.length∧r4.2.2.2.2.2.2.2.length=r3.1.Afv.length then some ((Ds.mk r3.1.fC (Dh.mk r4.2.2.1 r4.2.2.2.1 r4.2.2.2.2.1) r4.2.2.2.2.2.1 r4.2.2.2.2.2.2.1 r4.2.2.2.2.2.2.2),r4.1)else none)))))
def Bsf:=ct (fd Tryz.func7 ⟨[.v 22],[.n 32 false,.n 38 true],false⟩ (gC (Bxy K) (gC (Bse K) (gC (Bxz K) (gC (Bpu K) gN))))) (Auw K)
def Aa3 (K:Nat)(a0:Int)(a1:Int)(a2:Int):Option (Bool):=(bif (decide (a0≥a1))then some (decide (a0≤a2))else some false)
def A0v:=ct (fd Tryz.func76 ⟨[.v 3,.v 3,.v 3],[.v 4],true⟩ gN [9,10]) (Aa3 K)
def Agh (K:Nat)(a0:List A8)(a1:Int):Option (Bool):=((Aa3 K a1 0 (Ana .i64 (a0.length:Int) 1)).bind fun r1=>some r1)
def Azv:=ct (fd Tryz.func39 ⟨[.v 29,.v 3],[.v 4],true⟩ (gC (A0v K) gN)) (Agh K)
def Ave (K:Nat)(a0:List A8):Nat->Int->(List Int)->Option ((List Int))
 |0,_,_=>none
 |n1+1,v1,v2=>((Agh K a0 v1).bind fun r3=>(bif r3 then(bif (decide ((v2.length:Int)<(a0.length:Int)))then(if(v2++([v1]:List Int)).length*8≤140737488355328∧(v2++([v1]:List Int)).length≤maxLen then(if(0:Int)≤v1∧v1<(a0.length:Int)then(Ave K a0 n1 (Ana .i64 ((gt a0 v1).fUp) 1) (v2++([v1]:List Int)))else none)else none)else some v2)else some v2))
def Aws (K:Nat)(a0:List A8)(a1:Int):Option ((List Int)):=(Ave K a0 K a1 ([]:List Int))
def Bqf:=fd Tryz.func42 ⟨[.v 29,.v 3],[.n 26 true],true⟩ (gC (Azv K) gN) [9,10]
def Bi1:=lp (Bqf K) 28 h_4 [] (fun n a=>Ave K a n) (fun n=>kN)
def Bcp:=ct (Bqf K) (Aws K) (kC (Bi1 K K) kN)
def Axg (K:Nat)(v2:List Int)(v3:Int)(v4:Int)(C1:(List Int)->Int->Int->Option (Bool)):Option (Bool):=(C1 v2 v3 (Am9 .i64 v4 1))
def Asm (K:Nat)(a0:List A8)(r1:(List Int)):Nat->(List Int)->Int->Int->Option (Bool)
 |0,_,_,_=>none
 |n1+1,v2,v3,v4=>(bif (decide (v4<v3))then(if(0:Int)≤v4∧v4<(v2.length:Int)then(if(0:Int)≤(gt v2 v4)∧(gt v2 v4)<(a0.length:Int)then(bif (((gt a0 (gt v2 v4)).Yq) != 1)then some false else(bif (decide ((Am9 .i64 v4 1)<(r1.length:Int)))then(if(0:Int)≤(gt v2 v4)∧(gt v2 v4)<(a0.length:Int)then(if(0:Int)≤(Am9 .i64 v4 1)∧(Am9 .i64 v4 1)<(r1.length:Int)then(if(0:Int)≤(gt r1 (Am9 .i64 v4 1))∧(gt r1 (Am9 .i64 v4 1))<(a0.length:Int)then(bif (((gt a0 (gt v2 v4)).Wk) != ((gt a0 (gt r1 (Am9 .i64 v4 1))).Sy))then some false else(Axg K v2 v3 v4 (Asm K a0 r1 n1)))else none)else none)else none)else(Axg K v2 v3 v4 (Asm K a0 r1 n1))))else none)else none)else(bif (decide ((r1.length:Int)>0))then(if(0:Int)≤(Ana .i64 (r1.length:Int) 1)∧(Ana .i64 (r1.length:Int) 1)<(r1.length:Int)then(if(0:Int)≤(gt r1 (Ana .i64 (r1.length:Int) 1))∧(gt r1 (Ana .i64 (r1.length:Int) 1))<(a0.length:Int)then some (((gt a0 (gt r1 (Ana .i64 (r1.length:Int) 1))).fUp)==0)else none)else none)else some false))
def Axh (K:Nat)(a0:List A8)(a1:Int):Option (Bool):=((Aws K a0 a1).bind fun r1=>(Asm K a0 r1 K r1 (r1.length:Int) 0))
def Bi2:=fd Tryz.func33 ⟨[.v 29,.v 3],[.v 4],true⟩ (gC (Bcp K) gN) [28,29,49,50] [467]
def Boi:Ef:=⟨[(0,.v 29),(5,.v 26),(11,.v 26),(12,.v 2),(13,.v 2)],[]⟩
def Bfx:=fun(C58:CT Boi _)=>jn (Bi2 K) 467 Boi [(58,ar Boi C58)] (fun a b c d e=>Axg K c d e (C58 a b)) kN
def Bi3:=lp (Bi2 K) 58 Boi [] (fun n a b=>Asm K a b n) (fun n=>(kC (Bfx K _) kN))
def Bi4:=ct (Bi2 K) (Axh K) (kC (Bi3 K K) kN)
def Asn (K:Nat)(v2:Int)(v3:Int)(v4:Int)(v5:Int)(v6:Int)(v7:Int)(v8:Int)(v9:Int)(v10:List Int)(v11:List Int)(v12:List Int)(v13:List A8)(v14:List Av)(v15:List Int)(C1:(List Int)->Int->Int->Int->Int->Int->Int->Int->Int->(List Int)->(List Int)->(List Int)->(List A8)->(List Av)->(List Int)->Option ((List Int)))(v17:List Int):Option ((List Int)):=(C1 v17 v2 (Am9 .i64 v3 1) v4 v5 v6 v7 v8 v9 v10 v11 v12 v13 v14 v15)
def Aqk (K:Nat):Nat->(List Int)->Int->Int->Int->Int->Int->Int->Int->Int->(List Int)->(List Int)->(List Int)->(List A8)->(List Av)->(List Int)->Option ((List Int))
 |0,_,_,_,_,_,_,_,_,_,_,_,_,_,_,_=>none
 |n1+1,v1,v2,v3,v4,v5,v6,v7,v8,v9,v10,v11,v12,v13,v14,v15=>(bif (decide (v3<v2))then((Axh K v13 v3).bind fun r16=>(bif r16 then(if(v1++([v3]:List Int)).length*8≤140737488355328∧(v1++([v3]:List Int)).length≤maxLen then(Asn K v2 v3 v4 v5 v6 v7 v8 v9 v10 v11 v12 v13 v14 v15 (Aqk K n1) (v1++([v3]:List Int)))else none)else(Asn K v2 v3 v4 v5 v6 v7 v8 v9 v10 v11 v12 v13 v14 v15 (Aqk K n1) v1)))else some v1)
def Axi (K:Nat)(a0:Ds):Option ((List Int)):=(Aqk K K ([]:List Int) (a0.fL.length:Int) 0 a0.fC.A6 a0.fC.Kh a0.fC.Fj a0.fC.Hb a0.fC.Fk a0.fC.Ki a0.fP.Sk a0.fP.Yq a0.fP.Sl a0.fL a0.fQ a0.Afv)
def Bi5:=fd Tryz.func8 ⟨[.v 32],[.n 26 true],true⟩ (gC (Bi4 K) gN) [] [467]
def Boj:Ef:=⟨[(1,.p 101),(3,.o 1003 3 true),(8,.v 2),(9,.v 2)],[(101,.box [.v 2,.v 2,.v 2,.v 2,.v 2,.v 2,.v 22,.v 26,.v 26,.v 29,.v 30,.v 26])]⟩
def Bfy:=fun(C58:CT Boj _)=>jn (Bi5 K) 467 Boj [(58,ar Boj C58)] (fun a b c d e f g h i j k l m o p=>Asn K b c d e f g h i j k l m o p C58 a) kN
def Bi6:=lp (Bi5 K) 58 Boj [] (Aqk K) (fun n=>(kC (Bfy K _) kN))
def Bi7:=ct (Bi5 K) (Axi K) (kC (Bi6 K K) kN)
def Atx (K:Nat)(a0:List Int)(a1:List Int):Nat->Int->Option (Bool)
 |0,_=>none
 |n1+1,v1=>(bif (decide (v1<(a0.length:Int)))then(if(0:Int)≤v1∧v1<(a0.length:Int)then(if(0:Int)≤v1∧v1<(a1.length:Int)then(bif ((gt a0 v1) != (gt a1 v1))then some false else(Atx K a0 a1 n1 (Am9 .i64 v1 1)))else none)else none)else some true)
def Av2 (K:Nat)(a0:List Int)(a1:List Int):Option (Bool):=(bif ((a0.length:Int) != (a1.length:Int))then some false else(Atx K a0 a1 K 0))
def Bqg:=fd Tryz.func16 ⟨[.v 26,.v 26],[.v 4],true⟩ gN
def Bze:Ef:=⟨[(0,.v 26),(1,.v 26),(5,.v 2)],[]⟩
def Bi8:=lp Bqg 58 Bze [] (fun n a b=>Atx K a b n) (fun n=>kN)
def Bsg:=ct Bqg (Av2 K) (kC (Bi8 K K) kN)
def Av3 (K:Nat)(a0:List A8)(a1:Int):Option (Bo):=((Agh K a0 a1).bind fun r1=>(bif (!r1)then some (Bo.mk 0 0)else(if(0:Int)≤a1∧a1<(a0.length:Int)then some (Bo.mk a1 ((gt a0 a1).C6))else none)))
def Bsh:=ct (fd Tryz.func11 ⟨[.v 29,.v 3],[.v 34],true⟩ (gC (Azv K) gN)) (Av3 K)
def Atl (K:Nat)(a0:D4):Option (Bool):=((Aa3 K a0.A6 2 12).bind fun r1=>(bif r1 then((Aa3 K a0.Kh 8 16).bind fun r2=>(bif r2 then((Aa3 K a0.Fj 2 8).bind fun r3=>(bif r3 then((Aa3 K a0.Hb 1 8).bind fun r4=>(bif r4 then((Aa3 K a0.Fk 1 16).bind fun r5=>(bif r5 then((Aa3 K a0.Ki 1 4).bind fun r6=>some r6)else some false))else some false))else some false))else some false))else some false))
def A85:=ct (fd Tryz.func54 ⟨[.v 25],[.v 4],true⟩ (gC (A0v K) gN) [5,6,9,10,11,14,15,16,19,20,21,24,25,26]) (Atl K)
def Axj (K:Nat)(a0:D4):Option (Int):=((Atl K a0).bind fun r1=>(bif (!r1)then some 0 else some (Anb .i64 a0.A6 a0.Kh)))
def Bi9:=ct (fd Tryz.func75 ⟨[.v 25],[.v 3],true⟩ (gC (A85 K) gN)) (Axj K)
def Ark (K:Nat)(a0:Dh)(a1:D4)(a2:Int):Option ((List Int)):=(if(0:Int)≤(Anb .i64 a2 a1.Kh)∧(Anb .i64 a2 a1.Kh)≤(Anb .i64 (Am9 .i64 a2 1) a1.Kh)∧(Anb .i64 (Am9 .i64 a2 1) a1.Kh)≤(a0.Sk.length:Int)then some ((a0.Sk.drop (Anb .i64 a2 a1.Kh).toNat).take ((Anb .i64 (Am9 .i64 a2 1) a1.Kh) - (Anb .i64 a2 a1.Kh)).toNat)else none)
def Bja:=ct (fd Tryz.func78 ⟨[.v 28,.v 25,.v 3],[.v 22],false⟩ gN) (Ark K)
def Ay0 (K:Nat)(a0:Int):Option (Bool):=some (a0 != 0)
def Bsi:=ct (fd Tryz.func126 ⟨[.v 5],[.v 4],true⟩ gN) (Ay0 K)
def Ah0 (K:Nat)(a0:List Int):Nat->Int->Int->Option (Int)
 |0,_,_=>none
 |n1+1,v1,v2=>(bif (decide (v2<v1))then(if(0:Int)≤v2∧v2<(a0.length:Int)then((Ay0 K (gt a0 v2)).bind fun r3=>(bif r3 then some v2 else(Ah0 K a0 n1 v1 (Am9 .i64 v2 1))))else none)else some (-1))
def Amm (K:Nat)(a0:List Int):Option (Int):=(Ah0 K a0 K (a0.length:Int) 0)
def Bqh:=fd Tryz.func163 ⟨[.v 22,.f 126 [] []],[.v 3],true⟩ (gC (Bsi K) gN)
def Bzf:Ef:=⟨[(0,.v 22),(1,.f 126 [] []),(7,.v 2),(8,.v 2)],[]⟩
def Bjb:=lp (Bqh K) 26 Bzf [] (fun n a=>Ah0 K a n) (fun n=>kN)
def Bsj:=ct (Bqh K) (Amm K) (kC (Bjb K K) kN)
def Aki (K:Nat)(a0:List Int):Option (Bool):=((Amm K a0).bind fun r1=>some (decide (r1≥0)))
def Bsk:=ct (fd Tryz.func125 ⟨[.v 22,.f 126 [] []],[.v 4],true⟩ (gC (Bsj K) gN)) (Aki K)
def Atm (K:Nat)(a0:List Int):Option (Bool):=((Aki K a0).bind fun r1=>some (!r1))
def Bcq:=ct (fd Tryz.func77 ⟨[.v 22],[.v 4],true⟩ (gC (Bsk K) gN)) (Atm K)
def Av4 (K:Nat)(v3:List Int)(v4:Int)(v6:List Int)(v7:List Int)(v8:List Int)(v12:Int)(C1:(List Int)->Int->Int->(List Int)->(List Int)->(List Int)->Option (Bool))(v16:Bool):Option (Bool):=(bif v16 then some false else(C1 v3 v4 (Am9 .i64 v12 1) v6 v7 v8))
def Ap1 (K:Nat)(a0:D4)(v3:List Int)(v4:Int)(v5:Int)(v6:List Int)(v7:List Int)(v8:List Int)(C1:(List Int)->Int->Int->(List Int)->(List Int)->(List Int)->Option (Bool))(v11:Int)(v12:Int)(v13:Bool):Option (Bool):=(bif v13 then some false else(bif (v11==0)then((Ark K (Dh.mk v6 v7 v8) a0 v5).bind fun r14=>((Atm K r14).bind fun r15=>(Av4 K v3 v4 v6 v7 v8 v12 (C1) (!r15))))else(Av4 K v3 v4 v6 v7 v8 v12 (C1) false)))
def Ake (K:Nat)(a0:D4):Nat->(List Int)->Int->Int->(List Int)->(List Int)->(List Int)->Option (Bool)
 |0,_,_,_,_,_,_=>none
 |n1+1,v3,v4,v5,v6,v7,v8=>(bif (decide (v5<v4))then(if(0:Int)≤v5∧v5<(v3.length:Int)then((Aa3 K (gt v3 v5) 0 2).bind fun r9=>(bif (!r9)then some false else(bif ((gt v3 v5)==1)then(if(0:Int)≤v5∧v5<(v8.length:Int)then((Aa3 K (gt v8 v5) 0 (Ana .i64 a0.Fj 1)).bind fun r10=>(bif r10 then(bif ((gt v3 v5) != 1)then(if(0:Int)≤v5∧v5<(v8.length:Int)then(Ap1 K a0 v3 v4 v5 v6 v7 v8 (Ake K a0 n1) (gt v3 v5) v5 ((gt v8 v5) != (-1)))else none)else(Ap1 K a0 v3 v4 v5 v6 v7 v8 (Ake K a0 n1) (gt v3 v5) v5 false))else(Ap1 K a0 v3 v4 v5 v6 v7 v8 (Ake K a0 n1) (gt v3 v5) v5 true)))else none)else(bif ((gt v3 v5) != 1)then(if(0:Int)≤v5∧v5<(v8.length:Int)then(Ap1 K a0 v3 v4 v5 v6 v7 v8 (Ake K a0 n1) (gt v3 v5) v5 ((gt v8 v5) != (-1)))else none)else(Ap1 K a0 v3 v4 v5 v6 v7 v8 (Ake K a0 n1) (gt v3 v5) v5 false)))))else none)else some true)
def Ayg (K:Nat)(a0:D4)(a1:Dh):Option (Bool):=((Atl K a0).bind fun r1=>(bif r1 then((Axj K a0).bind fun r2=>(bif ((a1.Sk.length:Int) != r2)then some false else(bif ((a1.Yq.length:Int) != a0.A6)then some false else(bif ((a1.Sl.length:Int) != a0.A6)then some false else(Ake K a0 K a1.Yq (a1.Yq.length:Int) 0 a1.Sk a1.Yq a1.Sl)))))else some false))
def Beg:=fd Tryz.func34 ⟨[.v 25,.v 28],[.v 4],true⟩ (gC (A85 K) (gC (Bi9 K) (gC (A0v K) (gC (Bcq K) (gC (Bja K) gN))))) [8,9,10,16,17,18,24,25,26,48,49,58,59,60,61,63,64,75,76] [29899,119599]
def Bzg:Ef:=⟨[(2,.p 102),(3,.p 103),(35,.v 26),(36,.v 2),(37,.v 2),(73,.v 4)],[(103,.box [.v 22,.v 26,.v 26]),(102,.st 25 true)]⟩
def Bzh:Ef:=⟨[(2,.p 102),(3,.p 103),(5,.v 2),(6,.v 2),(35,.v 26),(36,.v 2),(37,.v 2),(46,.v 4)],[(103,.box [.v 22,.v 26,.v 26]),(102,.st 25 true)]⟩
def Bjc:Ef:=⟨[(2,.p 102),(3,.p 103),(35,.v 26),(36,.v 2),(37,.v 2)],[(103,.box [.v 22,.v 26,.v 26]),(102,.st 25 true)]⟩
def A86:=fun(C58:CT Bjc _)=>jn (Beg K) 119599 Bzg [(58,ar Bjc C58)] (fun a b c d e f g h=>Av4 K a b e f g c (fun v3 v4 v5 v6 v7 v8=>C58 v3 v4 v5 v6 v7 v8 h) d) kN
def Baq:=fun(C58:CT Bjc _)=>jn (Beg K) 29899 Bzh [(58,ar Bjc C58)] (fun a b c d e f g h i j=>Ap1 K j c d a g h i (fun v3 v4 v5 v6 v7 v8=>C58 v3 v4 v5 v6 v7 v8 j) b e f) (kC (A86 K _) kN)
def Bjd:=lp (Beg K) 58 Bjc [] (fun n a b c d e f g=>Ake K g n a b c d e f) (fun n=>(kC (Baq K _) kN))
def Bsl:=ct (Beg K) (Ayg K) (kC (Bjd K K) kN)
def Agb (K:Nat)(a0:List Int):Option ((List Int)):=(bif a0.isEmpty then Aer (some []) ((if(([]:List Int)++a0).length*8≤140737488355328∧(([]:List Int)++a0).length≤maxLen then some (([]:List Int)++a0)else none))else(if(([]:List Int)++a0).length*8≤140737488355328∧(([]:List Int)++a0).length≤maxLen then some (([]:List Int)++a0)else none))
def A4q:=ct (fd Tryz.func79 ⟨[.v 26],[.n 26 true],true⟩ gN) (Agb K)
def Aj5 (K:Nat)(a0:List Int)(a1:List Int):Nat->Int->Int->Option (Bool)
 |0,_,_=>none
 |n1+1,v1,v2=>(bif (decide (v2<v1))then(if(0:Int)≤v2∧v2<(a0.length:Int)then(if(0:Int)≤v2∧v2<(a1.length:Int)then(bif ((gt a0 v2) != (gt a1 v2))then some false else(Aj5 K a0 a1 n1 v1 (Am9 .i64 v2 1)))else none)else none)else some true)
def Aj6 (K:Nat)(a0:List Int)(a1:List Int):Option (Bool):=(bif ((a0.length:Int) != (a1.length:Int))then some false else(Aj5 K a0 a1 K (a0.length:Int) 0))
def Bqi:=fd Tryz.func82 ⟨[.v 26,.v 26],[.v 4],true⟩ gN
def Bzi:Ef:=⟨[(0,.v 26),(1,.v 26),(12,.v 2),(13,.v 2)],[]⟩
def Bje:=lp Bqi 58 Bzi [] (fun n a b=>Aj5 K a b n) (fun n=>kN)
def Bjf:=ct Bqi (Aj6 K) (kC (Bje K K) kN)
def Aom (K:Nat)(a0:List A7)(a1:List A7):Nat->Int->Int->Option (Bool)
 |0,_,_=>none
 |n1+1,v1,v2=>(bif (decide (v2<v1))then(if(0:Int)≤v2∧v2<(a0.length:Int)then(if(0:Int)≤v2∧v2<(a1.length:Int)then(bif (!((((gt a0 v2).fAt)==((gt a1 v2).fAt))&&((((gt a0 v2).Ai8)==((gt a1 v2).Ai8))&&((((gt a0 v2).Ai9)==((gt a1 v2).Ai9))&&true))))then some false else(Aom K a0 a1 n1 v1 (Am9 .i64 v2 1)))else none)else none)else some true)
def Amp (K:Nat)(a0:List A7)(a1:List A7):Option (Bool):=(bif ((a0.length:Int) != (a1.length:Int))then some false else(Aom K a0 a1 K (a0.length:Int) 0))
def Bqj:=fd Tryz.func220 ⟨[.v 69,.v 69],[.v 4],true⟩ gN
def Bzj:Ef:=⟨[(0,.v 69),(1,.v 69),(12,.v 2),(13,.v 2)],[]⟩
def Bjg:=lp Bqj 58 Bzj [] (fun n a b=>Aom K a b n) (fun n=>kN)
def Bsm:=ct Bqj (Amp K) (kC (Bjg K K) kN)
def Ay1 (K:Nat)(a0:A8)(a1:A8):Option (Bool):=(bif (a0.Yq==a1.Yq)then(bif (a0.C6==a1.C6)then(bif (a0.Sy==a1.Sy)then(bif (a0.fUp==a1.fUp)then(bif (a0.Wk==a1.Wk)then(bif (a0.Er==a1.Er)then(bif (a0.Wl==a1.Wl)then(bif (a0.Wm==a1.Wm)then((Aj6 K a0.A6 a1.A6).bind fun r1=>(bif r1 then(bif (a0.Afu==a1.Afu)then(bif (a0.Wn==a1.Wn)then((Amp K a0.H7 a1.H7).bind fun r2=>(bif r2 then((Aj6 K a0.F3 a1.F3).bind fun r3=>some r3)else some false))else some false)else some false)else some false))else some false)else some false)else some false)else some false)else some false)else some false)else some false)else some false)
def Bsn:=ct (fd Tryz.func175 ⟨[.v 71,.v 71],[.v 4],true⟩ (gC (Bjf K) (gC (Bsm K) gN)) [9,10,15,16,17,22,23,24,29,30,31,36,37,38,43,44,45,50,51,52,57,58,59,64,65,66,71,72,73,78,79,80,85,86,87]) (Ay1 K)
def A0j (K:Nat)(a0:A8):Option (Bool):=((Ay1 K a0 (A8.mk a0.Yq a0.C6 0 0 0 0 0 0 ([]:List Int) 0 0 ([]:List A7) ([]:List Int))).bind fun r1=>some r1)
def Bso:=ct (fd Tryz.func129 ⟨[.v 71],[.v 4],true⟩ (gC (Bsn K) gN)) (A0j K)
def Aoj (K:Nat)(a0:List Int)(a1:Int):Nat->Int->Int->Option (Int)
 |0,_,_=>none
 |n1+1,v1,v2=>(bif (decide (v2<v1))then(if(0:Int)≤v2∧v2<(a0.length:Int)then(bif (a1==(gt a0 v2))then some v2 else(Aoj K a0 a1 n1 v1 (Am9 .i64 v2 1)))else none)else some (-1))
def Awj (K:Nat)(a0:List Int)(a1:Int):Option (Int):=(Aoj K a0 a1 K (a0.length:Int) 0)
def Bqk:=fd Tryz.func96 ⟨[.v 26,.v 3],[.v 3],true⟩ gN
def Bzk:Ef:=⟨[(0,.v 26),(1,.v 2),(7,.v 2),(8,.v 2)],[]⟩
def Bjh:=lp Bqk 26 Bzk [] (fun n a b=>Aoj K a b n) (fun n=>kN)
def Bsp:=ct Bqk (Awj K) (kC (Bjh K K) kN)
def Am1 (K:Nat)(a0:List Int)(a1:Int):Option (Bool):=((Awj K a0 a1).bind fun r1=>some (decide (r1≥0)))
def Bcr:=ct (fd Tryz.func41 ⟨[.v 26,.v 3],[.v 4],true⟩ (gC (Bsp K) gN)) (Am1 K)
def Aoy (K:Nat)(a0:D4)(a1:List Int):Nat->(List Int)->Int->Int->Option (Bool)
 |0,_,_,_=>none
 |n1+1,v1,v2,v3=>(bif (decide (v3<v2))then(if(0:Int)≤v3∧v3<(v1.length:Int)then((Aa3 K (gt v1 v3) 0 (Ana .i64 a0.A6 1)).bind fun r4=>(bif r4 then(if(0:Int)≤0∧0≤v3∧v3≤(a1.length:Int)then((Am1 K ((a1.drop (0:Int).toNat).take (v3 - 0).toNat) (gt v1 v3)).bind fun r5=>(bif r5 then some false else(Aoy K a0 a1 n1 v1 v2 (Am9 .i64 v3 1))))else none)else some false))else none)else some true)
def Ate (K:Nat)(a0:D4)(a1:List Int):Option (Bool):=(Aoy K a0 a1 K a1 (a1.length:Int) 0)
def Bql:=fd Tryz.func130 ⟨[.v 25,.v 26],[.v 4],true⟩ (gC (Bcr K) (gC (A0v K) gN)) [18,19,20]
def Bzl:Ef:=⟨[(1,.v 26),(2,.p 102),(7,.v 26),(8,.v 2),(9,.v 2)],[(102,.st 25 true)]⟩
def Bji:=lp (Bql K) 26 Bzl [] (fun n a b c d e=>Aoy K e a n b c d) (fun n=>kN)
def Bjj:=ct (Bql K) (Ate K) (kC (Bji K K) kN)
def Aty (K:Nat)(a0:Int):Option (Bool):=((Aa3 K a0 0 255).bind fun r1=>some (!r1))
def Bsq:=ct (fd Tryz.func93 ⟨[.v 3],[.v 4],true⟩ (gC (A0v K) gN)) (Aty K)
def Ag3 (K:Nat)(a0:List Int):Nat->Int->Int->Option (Int)
 |0,_,_=>none
 |n1+1,v1,v2=>(bif (decide (v2<v1))then(if(0:Int)≤v2∧v2<(a0.length:Int)then((Aty K (gt a0 v2)).bind fun r3=>(bif r3 then some v2 else(Ag3 K a0 n1 v1 (Am9 .i64 v2 1))))else none)else some (-1))
def Ame (K:Nat)(a0:List Int):Option (Int):=(Ag3 K a0 K (a0.length:Int) 0)
def Bqm:=fd Tryz.func137 ⟨[.v 26,.f 93 [] []],[.v 3],true⟩ (gC (Bsq K) gN)
def Bzm:Ef:=⟨[(0,.v 26),(1,.f 93 [] []),(7,.v 2),(8,.v 2)],[]⟩
def Bjk:=lp (Bqm K) 26 Bzm [] (fun n a=>Ag3 K a n) (fun n=>kN)
def Bsr:=ct (Bqm K) (Ame K) (kC (Bjk K K) kN)
def Akf (K:Nat)(a0:List Int):Option (Bool):=((Ame K a0).bind fun r1=>some (decide (r1≥0)))
def Bss:=ct (fd Tryz.func92 ⟨[.v 26,.f 93 [] []],[.v 4],true⟩ (gC (Bsr K) gN)) (Akf K)
def Aq9 (K:Nat)(a0:List Int):Option (Bool):=((Akf K a0).bind fun r1=>some (!r1))
def Bcs:=ct (fd Tryz.func38 ⟨[.v 26],[.v 4],true⟩ (gC (Bss K) gN)) (Aq9 K)
def A10 (K:Nat)(a0:D4)(a1:Int):Option (Bool):=some (decide (a1>a0.Kh))
def Bst:=ct (fd Tryz.func176 ⟨[.v 25,.v 3],[.v 4],true⟩ gN) (A10 K)
def Axk (K:Nat)(a0:Int)(a1:Int):Option (Int):=((Aa3 K a0 0 1000000000).bind fun r1=>(bif r1 then((Aa3 K a1 1 1000000000).bind fun r2=>(bif (!r2)then some 0 else(if a1≠(0:Int)then some (Akr .i64 (Ana .i64 (Am9 .i64 a0 a1) 1) a1)else none)))else some 0))
def Bjl:=ct (fd Tryz.func178 ⟨[.v 3,.v 3],[.v 3],true⟩ (gC (A0v K) gN) [6,7,8]) (Axk K)
def A01 (K:Nat)(a0:D4)(a1:Int):Option (Int):=((Axk K a1 a0.Kh).bind fun r1=>some r1)
def Bsu:=ct (fd Tryz.func177 ⟨[.v 25,.v 3],[.v 3],true⟩ (gC (Bjl K) gN)) (A01 K)
def Aso (K:Nat)(a0:D4)(a1:A7):Option (Bool):=((Axj K a0).bind fun r1=>(bif (decide (a1.Ai8≤0))then some false else(bif (decide (a1.fAt<0))then some false else(bif (decide (a1.Ai8>r1))then some false else(bif (decide (a1.fAt>(Ana .i64 r1 a1.Ai8)))then some false else(bif (a1.Ai9==0)then(bif (decide (a1.Ai8≤a0.Kh))then(if a0.Kh≠(0:Int)then(if a0.Kh≠(0:Int)then some ((Akr .i64 a1.fAt a0.Kh)==(Akr .i64 (Ana .i64 (Am9 .i64 a1.fAt a1.Ai8) 1) a0.Kh))else none)else none)else some false)else((A10 K a0 a1.Ai8).bind fun r2=>(bif r2 then((A01 K a0 a1.Ai8).bind fun r3=>(bif (a1.Ai9==r3)then(if a0.Kh≠(0:Int)then some ((Int.tmod a1.fAt a0.Kh)==0)else none)else some false))else some false))))))))
def Bjm:=ct (fd Tryz.func132 ⟨[.v 25,.v 112],[.v 4],true⟩ (gC (Bi9 K) (gC (Bst K) (gC (Bsu K) gN))) [10,11,14,15,16,20,21,22,38,39,59,60,67,68,69]) (Aso K)
def Av5 (K:Nat)(a0:A7)(a1:D4):Option (Bool):=((Aso K a1 a0).bind fun r1=>some (!r1))
def Bsv:=ct (fd Tryz.func131 ⟨[.v 112,.r 25],[.v 4],true⟩ (gC (Bjm K) gN)) (Av5 K)
def Agg (K:Nat)(a0:List A7)(a1_0:D4):Nat->Int->Int->Option (Int)
 |0,_,_=>none
 |n1+1,v1,v2=>(bif (decide (v2<v1))then(if(0:Int)≤v2∧v2<(a0.length:Int)then((Av5 K (gt a0 v2) a1_0).bind fun r3=>(bif r3 then some v2 else(Agg K a0 a1_0 n1 v1 (Am9 .i64 v2 1))))else none)else some (-1))
def Aor (K:Nat)(a0:List A7)(a1_0:D4):Option (Int):=(Agg K a0 a1_0 K (a0.length:Int) 0)
def Bqn:=fd Tryz.func135 ⟨[.v 69,.f 131 [] [25]],[.v 3],true⟩ (gC (Bsv K) gN)
def Bzn:Ef:=⟨[(0,.v 69),(1,.f 131 [] [25]),(7,.v 2),(8,.v 2)],[]⟩
def Bjn:=lp (Bqn K) 26 Bzn [] (fun n a b=>Agg K a b n) (fun n=>kN)
def Bsw:=ct (Bqn K) (Aor K) (kC (Bjn K K) kN)
def Aid (K:Nat)(a0:List A7)(a1_0:D4):Option (Bool):=((Aor K a0 a1_0).bind fun r1=>some (decide (r1≥0)))
def Bsx:=ct (fd Tryz.func85 ⟨[.v 69,.f 131 [] [25]],[.v 4],true⟩ (gC (Bsw K) gN)) (Aid K)
def Ap2 (K:Nat)(a0:D4)(v19:List A7)(v20:List Int):Option (Bool):=(bif (decide ((v19.length:Int)≤12))then(bif (decide ((v20.length:Int)≤6))then((Aq9 K v20).bind fun r25=>(bif r25 then((Aid K v19 a0).bind fun r26=>some (!r26))else some false))else some false)else some false)
def Ao8 (K:Nat)(a0:D4):Nat->(List Int)->Int->Int->Int->Int->Int->Int->Int->Int->Int->Int->(List Int)->Int->Int->(List A7)->(List Int)->Option (Bool)
 |0,_,_,_,_,_,_,_,_,_,_,_,_,_,_,_,_=>none
 |n1+1,v5,v6,v7,v8,v9,v10,v11,v12,v13,v14,v15,v16,v17,v18,v19,v20=>(bif (decide (v7<v6))then(if(0:Int)≤v7∧v7<(v5.length:Int)then((Aa3 K (gt v5 v7) 0 a0.Fj).bind fun r21=>(bif (!r21)then some false else(Ao8 K a0 n1 v5 v6 (Am9 .i64 v7 1) v8 v9 v10 v11 v12 v13 v14 v15 v16 v17 v18 v19 v20)))else none)else(bif (decide (v10<0))then some false else(bif (decide (v12<0))then some false else((Ate K a0 v16).bind fun r22=>(bif r22 then(bif (v17 != 0)then((Am1 K v16 (Ana .i64 v17 1)).bind fun r23=>(bif r23 then((Aa3 K v18 0 a0.Kh).bind fun r24=>(bif r24 then(bif (v17==0)then(bif (v18 != 0)then some false else(Ap2 K a0 v19 v20))else(Ap2 K a0 v19 v20))else some false))else some false))else((Aa3 K v18 0 a0.Kh).bind fun r27=>(bif r27 then(bif (v17==0)then(bif (v18 != 0)then some false else(Ap2 K a0 v19 v20))else(Ap2 K a0 v19 v20))else some false)))else some false)))))
def Ayh (K:Nat)(a0:D4)(a1:A8):Option (Bool):=((Atl K a0).bind fun r1=>(bif r1 then((Aa3 K a1.Yq 0 3).bind fun r2=>(bif r2 then((Aa3 K a1.C6 1 a0.Ki).bind fun r3=>(bif (!r3)then some false else(bif (a1.Yq != 1)then((A0j K a1).bind fun r4=>some r4)else(Ao8 K a0 K ([a1.fUp,a1.Er,a1.Wl,a1.Wm]:List Int) (([a1.fUp,a1.Er,a1.Wl,a1.Wm]:List Int).length:Int) 0 a1.Yq a1.C6 a1.Sy a1.fUp a1.Wk a1.Er a1.Wl a1.Wm a1.A6 a1.Afu a1.Wn a1.H7 a1.F3))))else some false))else some false))
def Bjo:=fd Tryz.func81 ⟨[.v 25,.v 71],[.v 4],true⟩ (gC (Bcs K) (gC (Bcr K) (gC (A85 K) (gC (A0v K) (gC (Bsx K) (gC (Bso K) (gC (Bjj K) gN))))))) [8,9,10,13,14,15,16,51,52,55,56,57,61,62,63,64,67,68,74,75,76,77,78,83,84,85,86,89,90,99,100,104,105,106,109,110,111] [31] [(13,[.frzB 102 25])]
def Bzo:Ef:=⟨[(2,.p 102),(3,.p 103)],[(103,.box [.v 2,.v 2,.v 2,.v 2,.v 2,.v 2,.v 2,.v 2,.v 26,.v 2,.v 2,.v 69,.v 26]),(102,.st 25 true)]⟩
def Bzp:Ef:=⟨[(2,.p 102),(3,.p 103),(37,.v 26),(38,.v 2),(39,.v 2)],[(103,.box [.v 2,.v 2,.v 2,.v 2,.v 2,.v 2,.v 2,.v 2,.v 26,.v 2,.v 2,.v 69,.v 26]),(102,.st 25 true)]⟩
def Bjp:=jn (Bjo K) 31 Bzo [] (fun _ _ _ _ _ _ _ _ _ _ _ l m o=>Ap2 K o l m) kN
def Bfz:=lp (Bjo K) 122 Bzp [] (fun n a b c d e f g h i j k l m o p q r=>Ao8 K r n a b c d e f g h i j k l m o p q) (fun n=>(kC (up (Bjp K)) kN))
def Bsy:=ct (Bjo K) (Ayh K) (kC (Bfz K K) kN)
def Asp (K:Nat)(v2:Int)(v3:Int)(v4:List Int)(v5:List Int)(v6:List Int)(C1:(List Int)->Int->Int->(List Int)->(List Int)->(List Int)->Option ((List Int)))(v7:List Int):Option ((List Int)):=(C1 v7 v2 (Am9 .i64 v3 1) v4 v5 v6)
def Amn (K:Nat)(a1:Int):Nat->(List Int)->Int->Int->(List Int)->(List Int)->(List Int)->Option ((List Int))
 |0,_,_,_,_,_,_=>none
 |n1+1,v1,v2,v3,v4,v5,v6=>(bif (decide (v3<v2))then(if(0:Int)≤v3∧v3<(v5.length:Int)then(bif ((gt v5 v3)==1)then(if(0:Int)≤v3∧v3<(v6.length:Int)then(bif ((gt v6 v3)==a1)then(if(v1++([v3]:List Int)).length*8≤140737488355328∧(v1++([v3]:List Int)).length≤maxLen then(Asp K v2 v3 v4 v5 v6 (Amn K a1 n1) (v1++([v3]:List Int)))else none)else(Asp K v2 v3 v4 v5 v6 (Amn K a1 n1) v1))else none)else(Asp K v2 v3 v4 v5 v6 (Amn K a1 n1) v1))else none)else some v1)
def Auf (K:Nat)(a0:Dh)(a1:Int):Option ((List Int)):=(Amn K a1 K ([]:List Int) (Zp (a0.Yq.length:Int) (a0.Sl.length:Int)) 0 a0.Sk a0.Yq a0.Sl)
def Bjq:=fd Tryz.func51 ⟨[.v 28,.v 3],[.n 26 true],true⟩ gN [23,24] [467]
def Bok:Ef:=⟨[(1,.v 2),(2,.p 102),(5,.o 1005 3 true),(14,.v 2),(15,.v 2)],[(102,.box [.v 22,.v 26,.v 26])]⟩
def Bf0:=fun(C58:CT Bok _)=>jn Bjq 467 Bok [(58,ar Bok C58)] (fun a b c d e f g=>Asp K c d e f g (C58 a) b) kN
def Bjr:=lp Bjq 58 Bok [] (fun n a=>Amn K a n) (fun n=>(kC (Bf0 K _) kN))
def Bjs:=ct Bjq (Auf K) (kC (Bjr K K) kN)
def Ams (K:Nat)(a0:A7)(a1:D4)(a2:A8):Nat->Int->Option (Bool)
 |0,_=>none
 |n1+1,v2=>(if a1.Kh≠(0:Int)then(bif (decide (v2≤(Akr .i64 (Ana .i64 (Am9 .i64 a0.fAt a0.Ai8) 1) a1.Kh)))then((Am1 K a2.A6 v2).bind fun r3=>(bif (!r3)then some true else(Ams K a0 a1 a2 n1 (Am9 .i64 v2 1))))else some false)else none)
def Arl (K:Nat)(a0:A7)(a1:D4)(a2:A8):Option (Bool):=((Aso K a1 a0).bind fun r1=>(bif (!r1)then some true else(if a1.Kh≠(0:Int)then(Ams K a0 a1 a2 K (Akr .i64 a0.fAt a1.Kh))else none)))
def Bqo:=fd Tryz.func133 ⟨[.v 112,.r 25,.r 71],[.v 4],true⟩ (gC (Bcr K) (gC (Bjm K) gN))
def Bzq:Ef:=⟨[(1,.r 25),(2,.r 71),(3,.p 103),(5,.v 2)],[(103,.st 112 true)]⟩
def Bjt:=lp (Bqo K) 58 Bzq [] (fun n a b c d=>Ams K d a b n c) (fun n=>kN)
def Bsz:=ct (Bqo K) (Arl K) (kC (Bjt K K) kN)
def Aes (K:Nat)(a0:List A7)(a1_0:D4)(a1_1:A8):Nat->Int->Int->Option (Int)
 |0,_,_=>none
 |n1+1,v1,v2=>(bif (decide (v2<v1))then(if(0:Int)≤v2∧v2<(a0.length:Int)then((Arl K (gt a0 v2) a1_0 a1_1).bind fun r3=>(bif r3 then some v2 else(Aes K a0 a1_0 a1_1 n1 v1 (Am9 .i64 v2 1))))else none)else some (-1))
def Anv (K:Nat)(a0:List A7)(a1_0:D4)(a1_1:A8):Option (Int):=(Aes K a0 a1_0 a1_1 K (a0.length:Int) 0)
def Bqp:=fd Tryz.func135 ⟨[.v 69,.f 133 [] [25,71]],[.v 3],true⟩ (gC (Bsz K) gN)
def Bzr:Ef:=⟨[(0,.v 69),(1,.f 133 [] [25,71]),(7,.v 2),(8,.v 2)],[]⟩
def Bju:=lp (Bqp K) 26 Bzr [] (fun n a b c=>Aes K a b c n) (fun n=>kN)
def Bs0:=ct (Bqp K) (Anv K) (kC (Bju K K) kN)
def Ah7 (K:Nat)(a0:List A7)(a1_0:D4)(a1_1:A8):Option (Bool):=((Anv K a0 a1_0 a1_1).bind fun r1=>some (decide (r1≥0)))
def Bs1:=ct (fd Tryz.func85 ⟨[.v 69,.f 133 [] [25,71]],[.v 4],true⟩ (gC (Bs0 K) gN)) (Ah7 K)
def Av6 (K:Nat)(a0:D4)(a1:A8):Option (Bool):=((Ah7 K a1.H7 a0 a1).bind fun r1=>some (!r1))
def Bs2:=ct (fd Tryz.func83 ⟨[.v 25,.v 71],[.v 4],true⟩ (gC (Bs1 K) gN) [] [] [(1,[.frzB 102 25,.frzB 103 71])]) (Av6 K)
def Axl (K:Nat)(v1:A7)(v2:A7):Option (Bool):=some (decide ((Ana .u64 (IntKind.u64.wrap v1.fAt) (IntKind.u64.wrap v2.fAt))≥(IntKind.u64.wrap v2.Ai8)))
def Axm (K:Nat)(a0:A7)(a1:A7):Option (Bool):=(bif (decide (a0.Ai8≤0))then some true else(bif (decide (a1.Ai8≤0))then some true else(bif (decide (a0.fAt>a1.fAt))then(Axl K a0 a1)else(Axl K a1 a0))))
def Bqq:=fd Tryz.func87 ⟨[.v 112,.v 112],[.v 4],true⟩ gN [7,8] [7]
def Bzs:Ef:=⟨[(2,.p 102),(3,.p 103)],[(103,.st 112 true),(102,.st 112 true)]⟩
def Bol:=jn Bqq 7 Bzs [] (Axl K) kN
def Bjv:=ct Bqq (Axm K) (kC (Bol K) kN)
def Atz (K:Nat)(a0:A7)(a1:A7):Option (Bool):=((Axm K a0 a1).bind fun r1=>some (!r1))
def Bs3:=ct (fd Tryz.func134 ⟨[.v 112,.r 112],[.v 4],true⟩ (gC (Bjv K) gN)) (Atz K)
def Aex (K:Nat)(a0:List A7)(a1_0:A7):Nat->Int->Int->Option (Int)
 |0,_,_=>none
 |n1+1,v1,v2=>(bif (decide (v2<v1))then(if(0:Int)≤v2∧v2<(a0.length:Int)then((Atz K (gt a0 v2) a1_0).bind fun r3=>(bif r3 then some v2 else(Aex K a0 a1_0 n1 v1 (Am9 .i64 v2 1))))else none)else some (-1))
def Anw (K:Nat)(a0:List A7)(a1_0:A7):Option (Int):=(Aex K a0 a1_0 K (a0.length:Int) 0)
def Bqr:=fd Tryz.func135 ⟨[.v 69,.f 134 [] [112]],[.v 3],true⟩ (gC (Bs3 K) gN)
def Bzt:Ef:=⟨[(0,.v 69),(1,.f 134 [] [112]),(7,.v 2),(8,.v 2)],[]⟩
def Bjw:=lp (Bqr K) 26 Bzt [] (fun n a b=>Aex K a b n) (fun n=>kN)
def Bs4:=ct (Bqr K) (Anw K) (kC (Bjw K K) kN)
def Ah8 (K:Nat)(a0:List A7)(a1_0:A7):Option (Bool):=((Anw K a0 a1_0).bind fun r1=>some (decide (r1≥0)))
def Bs5:=ct (fd Tryz.func85 ⟨[.v 69,.f 134 [] [112]],[.v 4],true⟩ (gC (Bs4 K) gN)) (Ah8 K)
def Aoz (K:Nat)(a0:List A7):Nat->(List A7)->Int->Int->Option (Bool)
 |0,_,_,_=>none
 |n1+1,v1,v2,v3=>(bif (decide (v3<v2))then(if(0:Int)≤v3∧v3<(v1.length:Int)then(if(0:Int)≤0∧0≤v3∧v3≤(a0.length:Int)then((Ah8 K ((a0.drop (0:Int).toNat).take (v3 - 0).toNat) (gt v1 v3)).bind fun r4=>(bif r4 then some false else(Aoz K a0 n1 v1 v2 (Am9 .i64 v3 1))))else none)else none)else some true)
def Av7 (K:Nat)(a0:List A7):Option (Bool):=(Aoz K a0 K a0 (a0.length:Int) 0)
def Bqs:=fd Tryz.func84 ⟨[.v 69],[.v 4],true⟩ (gC (Bs5 K) gN) [] [] [(4,[.frzB 104 112])]
def Bzu:Ef:=⟨[(0,.v 69),(5,.v 69),(6,.v 2),(7,.v 2)],[]⟩
def Bjx:=lp (Bqs K) 26 Bzu [] (fun n a=>Aoz K a n) (fun n=>kN)
def Bs6:=ct (Bqs K) (Av7 K) (kC (Bjx K K) kN)
def Ap5 (K:Nat)(a0:A7)(a1:A7):Option (Bool):=((Axm K a0 a1).bind fun r1=>some (!r1))
def Bs7:=ct (fd Tryz.func86 ⟨[.v 112,.r 112],[.v 4],true⟩ (gC (Bjv K) gN)) (Ap5 K)
def Adv (K:Nat)(a0:List A7)(a1_0:A7):Nat->Int->Int->Option (Int)
 |0,_,_=>none
 |n1+1,v1,v2=>(bif (decide (v2<v1))then(if(0:Int)≤v2∧v2<(a0.length:Int)then((Ap5 K (gt a0 v2) a1_0).bind fun r3=>(bif r3 then some v2 else(Adv K a0 a1_0 n1 v1 (Am9 .i64 v2 1))))else none)else some (-1))
def Amf (K:Nat)(a0:List A7)(a1_0:A7):Option (Int):=(Adv K a0 a1_0 K (a0.length:Int) 0)
def Bqt:=fd Tryz.func135 ⟨[.v 69,.f 86 [] [112]],[.v 3],true⟩ (gC (Bs7 K) gN)
def Bzv:Ef:=⟨[(0,.v 69),(1,.f 86 [] [112]),(7,.v 2),(8,.v 2)],[]⟩
def Bjy:=lp (Bqt K) 26 Bzv [] (fun n a b=>Adv K a b n) (fun n=>kN)
def Bs8:=ct (Bqt K) (Amf K) (kC (Bjy K K) kN)
def Agl (K:Nat)(a0:List A7)(a1_0:A7):Option (Bool):=((Amf K a0 a1_0).bind fun r1=>some (decide (r1≥0)))
def Bs9:=ct (fd Tryz.func85 ⟨[.v 69,.f 86 [] [112]],[.v 4],true⟩ (gC (Bs8 K) gN)) (Agl K)
def Ap6 (K:Nat)(v1:List A8)(v2:Int)(v3:Int)(v4:Int)(v5:Int)(v6:Int)(v7:Int)(v8:Int)(v9:Int)(v10:List Int)(v11:List Int)(v12:List Int)(v13:List A8)(v14:List Av)(v15:List Int)(C1:(List A8)->Int->Int->Int->Int->Int->Int->Int->Int->(List Int)->(List Int)->(List Int)->(List A8)->(List Av)->(List Int)->Option (Bool)):Option (Bool):=(C1 v1 v2 (Am9 .i64 v3 1) v4 v5 v6 v7 v8 v9 v10 v11 v12 v13 v14 v15)
def Aia (K:Nat):Nat->(List A8)->Int->Int->Int->Int->Int->Int->Int->Int->(List Int)->(List Int)->(List Int)->(List A8)->(List Av)->(List Int)->Option (Bool)
 |0,_,_,_,_,_,_,_,_,_,_,_,_,_,_,_=>none
 |n1+1,v1,v2,v3,v4,v5,v6,v7,v8,v9,v10,v11,v12,v13,v14,v15=>(bif (decide (v3<v2))then(if(0:Int)≤v3∧v3<(v1.length:Int)then((Agb K ((gt v1 v3).A6)).bind fun r16=>((D6 K r16).bind fun r17=>(if r17.length=r16.length then((Ayh K (D4.mk v4 v5 v6 v7 v8 v9) (gt v1 v3)).bind fun r18=>(bif r18 then((Auf K (Dh.mk v10 v11 v12) v3).bind fun r19=>((Aj6 K r17 r19).bind fun r20=>(bif r20 then((Av6 K (D4.mk v4 v5 v6 v7 v8 v9) (gt v1 v3)).bind fun r21=>(bif r21 then((Av7 K ((gt v1 v3).H7)).bind fun r22=>(bif (!r22)then some false else(bif (((gt v1 v3).Afu)==0)then(Ap6 K v1 v2 v3 v4 v5 v6 v7 v8 v9 v10 v11 v12 v13 v14 v15 (Aia K n1))else(if(0:Int)≤((A7.mk (Am9 .i64 (Anb .i64 (Ana .i64 ((gt v1 v3).Afu) 1) v5) ((gt v1 v3).Wn)) (Ana .i64 v5 ((gt v1 v3).Wn)) 0).fAt)∧((A7.mk (Am9 .i64 (Anb .i64 (Ana .i64 ((gt v1 v3).Afu) 1) v5) ((gt v1 v3).Wn)) (Ana .i64 v5 ((gt v1 v3).Wn)) 0).fAt)≤(Am9 .i64 ((A7.mk (Am9 .i64 (Anb .i64 (Ana .i64 ((gt v1 v3).Afu) 1) v5) ((gt v1 v3).Wn)) (Ana .i64 v5 ((gt v1 v3).Wn)) 0).fAt) ((A7.mk (Am9 .i64 (Anb .i64 (Ana .i64 ((gt v1 v3).Afu) 1) v5) ((gt v1 v3).Wn)) (Ana .i64 v5 ((gt v1 v3).Wn)) 0).Ai8))∧(Am9 .i64 ((A7.mk (Am9 .i64 (Anb .i64 (Ana .i64 ((gt v1 v3).Afu) 1) v5) ((gt v1 v3).Wn)) (Ana .i64 v5 ((gt v1 v3).Wn)) 0).fAt) ((A7.mk (Am9 .i64 (Anb .i64 (Ana .i64 ((gt v1 v3).Afu) 1) v5) ((gt v1 v3).Wn)) (Ana .i64 v5 ((gt v1 v3).Wn)) 0).Ai8))≤(v10.length:Int)then((Atm K ((v10.drop ((A7.mk (Am9 .i64 (Anb .i64 (Ana .i64 ((gt v1 v3).Afu) 1) v5) ((gt v1 v3).Wn)) (Ana .i64 v5 ((gt v1 v3).Wn)) 0).fAt).toNat).take ((Am9 .i64 ((A7.mk (Am9 .i64 (Anb .i64 (Ana .i64 ((gt v1 v3).Afu) 1) v5) ((gt v1 v3).Wn)) (Ana .i64 v5 ((gt v1 v3).Wn)) 0).fAt) ((A7.mk (Am9 .i64 (Anb .i64 (Ana .i64 ((gt v1 v3).Afu) 1) v5) ((gt v1 v3).Wn)) (Ana .i64 v5 ((gt v1 v3).Wn)) 0).Ai8)) - ((A7.mk (Am9 .i64 (Anb .i64 (Ana .i64 ((gt v1 v3).Afu) 1) v5) ((gt v1 v3).Wn)) (Ana .i64 v5 ((gt v1 v3).Wn)) 0).fAt)).toNat)).bind fun r23=>(bif r23 then((Agl K ((gt v1 v3).H7) (A7.mk (Am9 .i64 (Anb .i64 (Ana .i64 ((gt v1 v3).Afu) 1) v5) ((gt v1 v3).Wn)) (Ana .i64 v5 ((gt v1 v3).Wn)) 0)).bind fun r24=>(bif r24 then some false else(Ap6 K v1 v2 v3 v4 v5 v6 v7 v8 v9 v10 v11 v12 v13 v14 v15 (Aia K n1))))else some false))else none))))else some false))else some false)))else some false))else none)))else none)else some true)
def Arm (K:Nat)(a0:Ds):Option (Bool):=(Aia K K a0.fL (a0.fL.length:Int) 0 a0.fC.A6 a0.fC.Kh a0.fC.Fj a0.fC.Hb a0.fC.Fk a0.fC.Ki a0.fP.Sk a0.fP.Yq a0.fP.Sl a0.fL a0.fQ a0.Afv)
def Bjz:=fd Tryz.func35 ⟨[.v 32],[.v 4],true⟩ (gC (Bjs K) (gC (Bcq K) (gC (A4q K) (gC (Vg K) (gC (Bsy K) (gC (Bjf K) (gC (Bs2 K) (gC (Bs6 K) (gC (Bs9 K) gN))))))))) [23,24,25,31,32,33,34,38,39,40,41,78,79,80] [211] [(10,[.frzB 106 112])]
def Bom:Ef:=⟨[(1,.p 101),(8,.v 29),(9,.v 2),(10,.v 2)],[(101,.box [.v 2,.v 2,.v 2,.v 2,.v 2,.v 2,.v 22,.v 26,.v 26,.v 29,.v 30,.v 26])]⟩
def Bf1:=fun(C26:CT Bom _)=>jn (Bjz K) 211 Bom [(26,ar Bom C26)] (fun a b c d e f g h i j k l m o p=>Ap6 K a b c d e f g h i j k l m o p C26) kN
def Bj0:=lp (Bjz K) 26 Bom [] (Aia K) (fun n=>(kC (Bf1 K _) kN))
def Bta:=ct (Bjz K) (Arm K) (kC (Bj0 K K) kN)
def Atn (K:Nat)(a0:List A8)(a1:Int):Option (Bool):=(bif (a1==0)then some true else((Agh K a0 (Ana .i64 a1 1)).bind fun r1=>(bif r1 then(if(0:Int)≤(Ana .i64 a1 1)∧(Ana .i64 a1 1)<(a0.length:Int)then some (((gt a0 (Ana .i64 a1 1)).Yq)==1)else none)else some false)))
def Btb:=ct (fd Tryz.func136 ⟨[.v 29,.v 3],[.v 4],true⟩ (gC (Azv K) gN) [6,7,11,12]) (Atn K)
def Aql (K:Nat)(a0:List A8)(a1:Int):Option (Bool):=(if(0:Int)≤a1∧a1<(a0.length:Int)then((Agh K a0 (Ana .i64 ((gt a0 a1).fUp) 1)).bind fun r1=>(bif r1 then(if(0:Int)≤(Ana .i64 ((gt a0 a1).fUp) 1)∧(Ana .i64 ((gt a0 a1).fUp) 1)<(a0.length:Int)then(bif (((gt a0 (Ana .i64 ((gt a0 a1).fUp) 1)).Yq)==1)then(if(0:Int)≤(Ana .i64 ((gt a0 a1).fUp) 1)∧(Ana .i64 ((gt a0 a1).fUp) 1)<(a0.length:Int)then(if(0:Int)≤a1∧a1<(a0.length:Int)then some (((gt a0 (Ana .i64 ((gt a0 a1).fUp) 1)).Sy)==((gt a0 a1).Wk))else none)else none)else some false)else none)else some false))else none)
def Bct:=ct (fd Tryz.func89 ⟨[.v 29,.v 3],[.v 4],true⟩ (gC (Azv K) gN) [14,15,21,22,23]) (Aql K)
def Asq (K:Nat)(a0:List A8)(a1:Int)(v8:Int)(v12:Int):Option (Bool):=(bif (v12 != 0)then some true else((Aql K a0 a1).bind fun r18=>(bif r18 then(if(0:Int)≤(Ana .i64 v8 1)∧(Ana .i64 v8 1)<(a0.length:Int)then some (((gt a0 (Ana .i64 v8 1)).Er)==(Am9 .i64 a1 1))else none)else some true)))
def Asr (K:Nat)(a0:List A8)(a1:Int)(v8:Int)(v12:Int):Option (Bool):=(bif (v12 != 0)then(if(0:Int)≤(Ana .i64 v12 1)∧(Ana .i64 v12 1)<(a0.length:Int)then(bif (((gt a0 (Ana .i64 v12 1)).Wl) != (Am9 .i64 a1 1))then some false else(Asq K a0 a1 v8 v12))else none)else(Asq K a0 a1 v8 v12))
def Ass (K:Nat)(a0:List A8)(a1:Int)(v8:Int)(v9:Int)(v11:Int)(v12:Int):Option (Bool):=(bif (v11 != 0)then(if(0:Int)≤(Ana .i64 v11 1)∧(Ana .i64 v11 1)<(a0.length:Int)then(bif (((gt a0 (Ana .i64 v11 1)).Wm) != (Am9 .i64 a1 1))then some false else(bif (((gt a0 (Ana .i64 v11 1)).fUp) != v8)then some false else(bif (((gt a0 (Ana .i64 v11 1)).Wk) != v9)then some false else(Asr K a0 a1 v8 v12))))else none)else(Asr K a0 a1 v8 v12))
def Ast (K:Nat)(a0:List A8)(a1:Int)(v5:Int)(v6:Int)(v7:Int)(v8:Int)(v9:Int)(v10:Int)(v11:Int)(v12:Int)(v13:List Int)(v14:Int)(v15:Int)(v16:List A7)(v17:List Int):Option (Bool):=(bif (v10 != 0)then(if(0:Int)≤(Ana .i64 v10 1)∧(Ana .i64 v10 1)<(a0.length:Int)then(bif (((gt a0 (Ana .i64 v10 1)).Wm) != 0)then some false else(bif (((gt a0 (Ana .i64 v10 1)).fUp) != (Am9 .i64 a1 1))then some false else(bif (((gt a0 (Ana .i64 v10 1)).Wk) != v7)then some false else(Ass K a0 a1 v8 v9 v11 v12))))else none)else(Ass K a0 a1 v8 v9 v11 v12))
def Axn (K:Nat)(a0:List A8)(a1:Int):Option (Bool):=(if(0:Int)≤a1∧a1<(a0.length:Int)then((Atn K a0 ((gt a0 a1).Er)).bind fun r1=>(bif r1 then((Atn K a0 ((gt a0 a1).Wl)).bind fun r2=>(bif r2 then((Atn K a0 ((gt a0 a1).Wm)).bind fun r3=>(bif r3 then(bif (((gt a0 a1).fUp) != 0)then((Agh K a0 (Ana .i64 ((gt a0 a1).fUp) 1)).bind fun r4=>(bif (!r4)then some false else(Ast K a0 a1 ((gt a0 a1).Yq) ((gt a0 a1).C6) ((gt a0 a1).Sy) ((gt a0 a1).fUp) ((gt a0 a1).Wk) ((gt a0 a1).Er) ((gt a0 a1).Wl) ((gt a0 a1).Wm) ((gt a0 a1).A6) ((gt a0 a1).Afu) ((gt a0 a1).Wn) ((gt a0 a1).H7) ((gt a0 a1).F3))))else(Ast K a0 a1 ((gt a0 a1).Yq) ((gt a0 a1).C6) ((gt a0 a1).Sy) ((gt a0 a1).fUp) ((gt a0 a1).Wk) ((gt a0 a1).Er) ((gt a0 a1).Wl) ((gt a0 a1).Wm) ((gt a0 a1).A6) ((gt a0 a1).Afu) ((gt a0 a1).Wn) ((gt a0 a1).H7) ((gt a0 a1).F3)))else some false))else some false))else some false))else none)
def Bar:=fd Tryz.func88 ⟨[.v 29,.v 3],[.v 4],true⟩ (gC (Azv K) (gC (Bct K) (gC (Btb K) gN))) [15,16,17,21,22,23,24,28,29,30,31,34,35,55,56,61,62,63,83,84,89,90,91,100,101,115,116,119,120,121,122] [7,15,31,63]
def Bj1:=jn (Bar K) 63 Ban [] (fun a b _ _ _ f _ _ _ j _ _ _ _ _=>Asq K a b f j) kN
def Bj2:=jn (Bar K) 31 Ban [] (fun a b _ _ _ f _ _ _ j _ _ _ _ _=>Asr K a b f j) (kC (Bj1 K) kN)
def Bj3:=jn (Bar K) 15 Ban [] (fun a b _ _ _ f g _ i j _ _ _ _ _=>Ass K a b f g i j) (kC (Bj2 K) kN)
def Bon:=jn (Bar K) 7 Ban [] (Ast K) (kC (Bj3 K) kN)
def Btc:=ct (Bar K) (Axn K) (kC (Bon K) kN)
def Av8 (K:Nat)(v1:List A8)(v2:Int)(v3:Int)(C1:(List A8)->Int->Int->Option (Bool)):Option (Bool):=(C1 v1 v2 (Am9 .i64 v3 1))
def Ao9 (K:Nat)(a0:List A8):Nat->(List A8)->Int->Int->Option (Bool)
 |0,_,_,_=>none
 |n1+1,v1,v2,v3=>(bif (decide (v3<v2))then(if(0:Int)≤v3∧v3<(v1.length:Int)then(bif (((gt v1 v3).Yq) != 1)then(Av8 K v1 v2 v3 (Ao9 K a0 n1))else((Axn K a0 v3).bind fun r4=>(bif (!r4)then some false else((Aws K a0 v3).bind fun r5=>(bif (decide ((r5.length:Int)>4))then some false else(if(0:Int)≤(Ana .i64 (r5.length:Int) 1)∧(Ana .i64 (r5.length:Int) 1)<(r5.length:Int)then((Aql K a0 (gt r5 (Ana .i64 (r5.length:Int) 1))).bind fun r6=>(bif r6 then some false else(Av8 K v1 v2 v3 (Ao9 K a0 n1))))else none))))))else none)else some true)
def Ayi (K:Nat)(a0:List A8):Option (Bool):=(Ao9 K a0 K a0 (a0.length:Int) 0)
def Bj4:=fd Tryz.func36 ⟨[.v 29],[.v 4],true⟩ (gC (Bcp K) (gC (Btc K) (gC (Bct K) gN))) [25,26] [211]
def Boo:Ef:=⟨[(0,.v 29),(6,.v 29),(7,.v 2),(8,.v 2)],[]⟩
def Bf2:=fun(C26:CT Boo _)=>jn (Bj4 K) 211 Boo [(26,ar Boo C26)] (fun a b c d=>Av8 K b c d (C26 a)) kN
def Bj5:=lp (Bj4 K) 26 Boo [] (fun n a=>Ao9 K a n) (fun n=>(kC (Bf2 K _) kN))
def Btd:=ct (Bj4 K) (Ayi K) (kC (Bj5 K K) kN)
def Ara (K:Nat)(a0:List A8)(a1:Int):Option (Bool):=(if(0:Int)≤a1∧a1<(a0.length:Int)then(bif (((gt a0 a1).Yq)==1)then(if(0:Int)≤a1∧a1<(a0.length:Int)then(bif (((gt a0 a1).fUp) != 0)then((Aql K a0 a1).bind fun r1=>some (!r1))else some false)else none)else some false)else none)
def Bte:=ct (fd Tryz.func91 ⟨[.v 29,.v 3],[.v 4],true⟩ (gC (Bct K) gN) [10,11,17,18,19]) (Ara K)
def Axo (K:Nat)(a0:D4)(a1:Av):Option (Bool):=((Atl K a0).bind fun r1=>(bif r1 then((Aa3 K a1.Be 0 a0.Fj).bind fun r2=>(bif r2 then((Aa3 K a1.Er 0 a0.Fj).bind fun r3=>(bif r3 then(bif (decide ((a1.F3.length:Int)≤6))then((Aq9 K a1.F3).bind fun r4=>(bif r4 then((Ate K a0 a1.A6).bind fun r5=>(bif r5 then((Aa3 K a1.Wo 0 (Ana .i64 a0.Kh 1)).bind fun r6=>(bif r6 then(bif (decide ((a1.A6.length:Int)>0))then some true else some (a1.Wo==0))else some false))else some false))else some false))else some false)else some false))else some false))else some false))
def Btf:=ct (fd Tryz.func90 ⟨[.v 25,.v 79],[.v 4],true⟩ (gC (Bcs K) (gC (A85 K) (gC (A0v K) (gC (Bjj K) gN)))) [6,7,12,13,14,19,20,21,25,26,27,30,31,32,36,37,38,44,45,46,50,51]) (Axo K)
def Atf (K:Nat)(a0:List A8):Nat->(List Int)->Int->Option ((List Int))
 |0,_,_=>none
 |n1+1,v1,v2=>((Agh K a0 v2).bind fun r3=>(bif r3 then(bif (decide ((v1.length:Int)<(a0.length:Int)))then(if(v1++([v2]:List Int)).length*8≤140737488355328∧(v1++([v2]:List Int)).length≤maxLen then(if(0:Int)≤v2∧v2<(a0.length:Int)then(Atf K a0 n1 (v1++([v2]:List Int)) (Ana .i64 ((gt a0 v2).Wl) 1))else none)else none)else some v1)else some v1))
def Art (K:Nat)(a0:List A8)(a1:Int):Option ((List Int)):=(Atf K a0 K ([]:List Int) (Ana .i64 a1 1))
def Bqu:=fd Tryz.func46 ⟨[.v 29,.v 3],[.n 26 true],true⟩ (gC (Azv K) gN) [12,13]
def Bw3:Ef:=⟨[(0,.v 29),(5,.o 1005 3 true),(6,.v 2)],[]⟩
def Bj6:=lp (Bqu K) 58 Bw3 [] (fun n a=>Atf K a n) (fun n=>kN)
def A87:=ct (Bqu K) (Art K) (kC (Bj6 K K) kN)
def Aj7 (K:Nat)(v4:List Av)(v5:Int)(v6:Int)(v7:Int)(v8:Int)(v9:Int)(v10:Int)(v11:Int)(v12:Int)(v13:List Int)(v14:List Int)(v15:List Int)(v16:List A8)(v17:List Av)(v18:List Int)(v27:List Int)(v31:List Int)(r32:(List Int))(C1:(List Int)->(List Int)->(List Int)->(List Av)->Int->Int->Int->Int->Int->Int->Int->Int->(List Int)->(List Int)->(List Int)->(List A8)->(List Av)->(List Int)->Option (Bool)):Nat->(List Int)->Int->Int->Option (Bool)
 |0,_,_,_=>none
 |n6+1,v33,v34,v35=>(bif (decide (v35<v34))then(if(0:Int)≤v35∧v35<(r32.length:Int)then(if(0:Int)≤(gt r32 v35)∧(gt r32 v35)<(v33.length:Int)then(if(0:Int)≤(gt r32 v35)∧(gt r32 v35)<(v33.length:Int)then((Ara K v16 (gt r32 v35)).bind fun r36=>(bif (!r36)then some false else(Aj7 K v4 v5 v6 v7 v8 v9 v10 v11 v12 v13 v14 v15 v16 v17 v18 v27 v31 r32 C1 n6 (v33.set (gt r32 v35).toNat (Am9 .i64 (gt v33 (gt r32 v35)) 1)) v34 (Am9 .i64 v35 1))))else none)else none)else none)else(C1 v27 v31 v33 v4 v5 (Am9 .i64 v6 1) v7 v8 v9 v10 v11 v12 v13 v14 v15 v16 v17 v18))
def Ao0 (K:Nat)(v3:List Int)(v4:List Av)(v5:Int)(v6:Int)(v7:Int)(v8:Int)(v9:Int)(v10:Int)(v11:Int)(v12:Int)(v13:List Int)(v14:List Int)(v15:List Int)(v16:List A8)(v17:List Av)(v18:List Int)(v23:Int)(v27:List Int)(v31:List Int)(C1:(List Int)->(List Int)->(List Int)->(List Av)->Int->Int->Int->Int->Int->Int->Int->Int->(List Int)->(List Int)->(List Int)->(List A8)->(List Av)->(List Int)->Option (Bool)):Option (Bool):=((Art K v16 v23).bind fun r32=>(Aj7 K v4 v5 v6 v7 v8 v9 v10 v11 v12 v13 v14 v15 v16 v17 v18 v27 v31 r32 (C1) K v3 (r32.length:Int) 0))
def Ao1 (K:Nat)(v3:List Int)(v4:List Av)(v5:Int)(v6:Int)(v7:Int)(v8:Int)(v9:Int)(v10:Int)(v11:Int)(v12:Int)(v13:List Int)(v14:List Int)(v15:List Int)(v16:List A8)(v17:List Av)(v18:List Int)(v23:Int)(v27:List Int)(C1:(List Int)->(List Int)->(List Int)->(List Av)->Int->Int->Int->Int->Int->Int->Int->Int->(List Int)->(List Int)->(List Int)->(List A8)->(List Av)->(List Int)->Option (Bool))(v31:List Int):Option (Bool):=(bif (decide (v23>0))then(if(0:Int)≤(Ana .i64 v23 1)∧(Ana .i64 v23 1)<(v16.length:Int)then(bif (((gt v16 (Ana .i64 v23 1)).Wm) != 0)then some false else(Ao0 K v3 v4 v5 v6 v7 v8 v9 v10 v11 v12 v13 v14 v15 v16 v17 v18 v23 v27 v31 (C1)))else none)else(Ao0 K v3 v4 v5 v6 v7 v8 v9 v10 v11 v12 v13 v14 v15 v16 v17 v18 v23 v27 v31 (C1)))
def Aj8 (K:Nat)(v2:List Int)(v3:List Int)(v4:List Av)(v5:Int)(v6:Int)(v7:Int)(v8:Int)(v9:Int)(v10:Int)(v11:Int)(v12:Int)(v13:List Int)(v14:List Int)(v15:List Int)(v16:List A8)(v17:List Av)(v18:List Int)(v22:Int)(v23:Int)(v25:List Int)(C1:(List Int)->(List Int)->(List Int)->(List Av)->Int->Int->Int->Int->Int->Int->Int->Int->(List Int)->(List Int)->(List Int)->(List A8)->(List Av)->(List Int)->Option (Bool)):Nat->(List Int)->Int->Int->(List Int)->Option (Bool)
 |0,_,_,_,_=>none
 |n3+1,v27,v28,v29,v30=>(bif (decide (v29<v28))then(if(0:Int)≤v29∧v29<(v25.length:Int)then(if(0:Int)≤(gt v25 v29)∧(gt v25 v29)<(v27.length:Int)then(if(0:Int)≤(gt v25 v29)∧(gt v25 v29)<(v27.length:Int)then(if(0:Int)≤(gt v25 v29)∧(gt v25 v29)<(v14.length:Int)then(bif ((gt v14 (gt v25 v29)) != 2)then some false else(Aj8 K v2 v3 v4 v5 v6 v7 v8 v9 v10 v11 v12 v13 v14 v15 v16 v17 v18 v22 v23 v25 C1 n3 (v27.set (gt v25 v29).toNat (Am9 .i64 (gt v27 (gt v25 v29)) 1)) v28 (Am9 .i64 v29 1) v30))else none)else none)else none)else none)else(bif (decide (v22>0))then(if(0:Int)≤(Ana .i64 v22 1)∧(Ana .i64 v22 1)<(v2.length:Int)then(if(0:Int)≤(Ana .i64 v22 1)∧(Ana .i64 v22 1)<(v2.length:Int)then(if(0:Int)≤(Ana .i64 v22 1)∧(Ana .i64 v22 1)<(v16.length:Int)then(bif (((gt v16 (Ana .i64 v22 1)).Yq) != 2)then some false else(Ao1 K v3 v4 v5 v6 v7 v8 v9 v10 v11 v12 v13 v14 v15 v16 v17 v18 v23 v27 (C1) (v2.set (Ana .i64 v22 1).toNat (Am9 .i64 (gt v2 (Ana .i64 v22 1)) 1))))else none)else none)else none)else(Ao1 K v3 v4 v5 v6 v7 v8 v9 v10 v11 v12 v13 v14 v15 v16 v17 v18 v23 v27 (C1) v2)))
def Ao2 (K:Nat)(v1:List Int)(v2:List Int)(v3:List Int)(v4:List Av)(v5:Int)(v6:Int)(v7:Int)(v8:Int)(v9:Int)(v10:Int)(v11:Int)(v12:Int)(v13:List Int)(v14:List Int)(v15:List Int)(v16:List A8)(v17:List Av)(v18:List Int)(C1:(List Int)->(List Int)->(List Int)->(List Av)->Int->Int->Int->Int->Int->Int->Int->Int->(List Int)->(List Int)->(List Int)->(List A8)->(List Av)->(List Int)->Option (Bool))(v22:Int)(v23:Int)(v24:List Int)(v25:List Int)(v26:Int):Option (Bool):=(Aj8 K v2 v3 v4 v5 v6 v7 v8 v9 v10 v11 v12 v13 v14 v15 v16 v17 v18 v22 v23 v25 (C1) K v1 (v25.length:Int) 0 v25)
def Ap7 (K:Nat)(v37:Int)(v38:Int)(v39:List Int)(C7:Int->Int->(List Int)->Option (Bool)):Option (Bool):=(C7 v37 (Am9 .i64 v38 1) v39)
def Ak7 (K:Nat)(v40:Int)(v41:Int)(v42:List A8)(C9:Int->Int->(List A8)->Option (Bool)):Option (Bool):=(C9 v40 (Am9 .i64 v41 1) v42)
def Adx (K:Nat)(v2:List Int)(v3:List Int)(v16:List A8):Nat->Int->Int->(List A8)->Option (Bool)
 |0,_,_,_=>none
 |n9+1,v40,v41,v42=>(bif (decide (v41<v40))then(if(0:Int)≤v41∧v41<(v16.length:Int)then(bif (((gt v16 v41).Yq)==2)then(if(0:Int)≤v41∧v41<(v2.length:Int)then(bif ((gt v2 v41) != 1)then some false else((Ara K v42 v41).bind fun r43=>(bif r43 then(if(0:Int)≤v41∧v41<(v3.length:Int)then(bif ((gt v3 v41) != 1)then some false else(Ak7 K v40 v41 v42 (Adx K v2 v3 v16 n9)))else none)else(Ak7 K v40 v41 v42 (Adx K v2 v3 v16 n9)))))else none)else((Ara K v42 v41).bind fun r44=>(bif r44 then(if(0:Int)≤v41∧v41<(v3.length:Int)then(bif ((gt v3 v41) != 1)then some false else(Ak7 K v40 v41 v42 (Adx K v2 v3 v16 n9)))else none)else(Ak7 K v40 v41 v42 (Adx K v2 v3 v16 n9)))))else none)else some true)
def Agp (K:Nat)(v1:List Int)(v2:List Int)(v3:List Int)(v14:List Int)(v16:List A8):Nat->Int->Int->(List Int)->Option (Bool)
 |0,_,_,_=>none
 |n7+1,v37,v38,v39=>(bif (decide (v38<v37))then(if(0:Int)≤v38∧v38<(v14.length:Int)then(bif ((gt v14 v38)==2)then(if(0:Int)≤v38∧v38<(v1.length:Int)then(bif ((gt v1 v38) != 1)then some false else(Ap7 K v37 v38 v39 (Agp K v1 v2 v3 v14 v16 n7)))else none)else(Ap7 K v37 v38 v39 (Agp K v1 v2 v3 v14 v16 n7)))else none)else(Adx K v2 v3 v16 K (v16.length:Int) 0 v16))
def K0 (K:Nat):Nat->(List Int)->(List Int)->(List Int)->(List Av)->Int->Int->Int->Int->Int->Int->Int->Int->(List Int)->(List Int)->(List Int)->(List A8)->(List Av)->(List Int)->Option (Bool)
 |0,_,_,_,_,_,_,_,_,_,_,_,_,_,_,_,_,_,_=>none
 |n1+1,v1,v2,v3,v4,v5,v6,v7,v8,v9,v10,v11,v12,v13,v14,v15,v16,v17,v18=>(bif (decide (v6<v5))then(if(0:Int)≤v6∧v6<(v4.length:Int)then((Axo K (D4.mk v7 v8 v9 v10 v11 v12) (gt v4 v6)).bind fun r19=>(bif r19 then(bif (decide ((((gt v4 v6).A6).length:Int)>0))then(if(0:Int)≤0∧0<(((gt v4 v6).A6).length:Int)then((Ark K (Dh.mk v13 v14 v15) (D4.mk v7 v8 v9 v10 v11 v12) (gt ((gt v4 v6).A6) 0)).bind fun r20=>(if(0:Int)≤0∧0≤((gt v4 v6).Wo)∧((gt v4 v6).Wo)≤(r20.length:Int)then((Atm K ((r20.drop (0:Int).toNat).take (((gt v4 v6).Wo) - 0).toNat)).bind fun r21=>(bif (!r21)then some false else(Ao2 K v1 v2 v3 v4 v5 v6 v7 v8 v9 v10 v11 v12 v13 v14 v15 v16 v17 v18 (K0 K n1) ((gt v4 v6).Be) ((gt v4 v6).Er) ((gt v4 v6).F3) ((gt v4 v6).A6) ((gt v4 v6).Wo))))else none))else none)else(Ao2 K v1 v2 v3 v4 v5 v6 v7 v8 v9 v10 v11 v12 v13 v14 v15 v16 v17 v18 (K0 K n1) ((gt v4 v6).Be) ((gt v4 v6).Er) ((gt v4 v6).F3) ((gt v4 v6).A6) ((gt v4 v6).Wo)))else some false))else none)else(Agp K v1 v2 v3 v14 v16 K (v14.length:Int) 0 v14))
def Arn (K:Nat)(a0:Ds):Option (Bool):=(if(0:Int)≤a0.fC.A6∧a0.fC.A6≤a0.fC.A6∧(8:Int)*a0.fC.A6≤281474976710656∧a0.fC.A6≤9223372036854775807 then(if(0:Int)≤a0.fC.Fj∧a0.fC.Fj≤a0.fC.Fj∧(8:Int)*a0.fC.Fj≤281474976710656∧a0.fC.Fj≤9223372036854775807 then(if(0:Int)≤a0.fC.Fj∧a0.fC.Fj≤a0.fC.Fj∧(8:Int)*a0.fC.Fj≤281474976710656∧a0.fC.Fj≤9223372036854775807 then(K0 K K (List.replicate a0.fC.A6.toNat 0) (List.replicate a0.fC.Fj.toNat 0) (List.replicate a0.fC.Fj.toNat 0) a0.fQ (a0.fQ.length:Int) 0 a0.fC.A6 a0.fC.Kh a0.fC.Fj a0.fC.Hb a0.fC.Fk a0.fC.Ki a0.fP.Sk a0.fP.Yq a0.fP.Sl a0.fL a0.fQ a0.Afv)else none)else none)else none)
def A11:=fd Tryz.func37 ⟨[.v 32],[.v 4],true⟩ (gC (A87 K) (gC (Bcq K) (gC (Bja K) (gC (Btf K) (gC (Bte K) gN))))) [38,39,40,44,45,105,106,150,151,169,170,175,176,177,181,182] [979,2003,3737,14951,29903]
def Bw4:Ef:=⟨[(1,.p 101),(3,.o 1003 3 true),(4,.o 1004 3 true),(5,.o 1005 3 true),(29,.v 30),(30,.v 2),(31,.v 2),(121,.v 26),(122,.v 2),(123,.v 2)],[(101,.box [.v 2,.v 2,.v 2,.v 2,.v 2,.v 2,.v 22,.v 26,.v 26,.v 29,.v 30,.v 26])]⟩
def Bj7:Ef:=⟨[(1,.p 101),(3,.o 1003 3 true),(4,.o 1004 3 true),(5,.o 1005 3 true),(7,.p 107),(29,.v 30),(30,.v 2),(31,.v 2)],[(107,.box [.v 2,.v 2,.v 26,.v 26,.v 2]),(101,.box [.v 2,.v 2,.v 2,.v 2,.v 2,.v 2,.v 22,.v 26,.v 26,.v 29,.v 30,.v 26])]⟩
def Bw5:Ef:=⟨[(1,.p 101),(3,.o 1003 3 true),(4,.o 1004 3 true),(5,.o 1005 3 true),(7,.p 107),(29,.v 30),(30,.v 2),(31,.v 2),(63,.v 26),(64,.v 2),(65,.v 2)],[(107,.box [.v 2,.v 2,.v 26,.v 26,.v 2]),(101,.box [.v 2,.v 2,.v 2,.v 2,.v 2,.v 2,.v 22,.v 26,.v 26,.v 29,.v 30,.v 26])]⟩
def Beh:Ef:=⟨[(1,.p 101),(3,.o 1003 3 true),(4,.o 1004 3 true),(5,.o 1005 3 true),(142,.v 26),(143,.v 2),(144,.v 2)],[(101,.box [.v 2,.v 2,.v 2,.v 2,.v 2,.v 2,.v 22,.v 26,.v 26,.v 29,.v 30,.v 26])]⟩
def Bei:Ef:=⟨[(1,.p 101),(4,.o 1004 3 true),(5,.o 1005 3 true),(160,.v 29),(161,.v 2),(162,.v 2)],[(101,.box [.v 2,.v 2,.v 2,.v 2,.v 2,.v 2,.v 22,.v 26,.v 26,.v 29,.v 30,.v 26])]⟩
def A12:Ef:=⟨[(1,.p 101),(3,.o 1003 3 true),(4,.o 1004 3 true),(5,.o 1005 3 true),(29,.v 30),(30,.v 2),(31,.v 2)],[(101,.box [.v 2,.v 2,.v 2,.v 2,.v 2,.v 2,.v 22,.v 26,.v 26,.v 29,.v 30,.v 26])]⟩
def A88:=fun(C58:CT A12 _)=>lp (A11 K) 239230 Bw4 [(58,ar A12 C58)] (fun n a b c d e f g h i j k l m o p q r s t u v=>Aj7 K d e f j k l m o p q r s t u v a b g C58 n c h i) (fun n=>kN)
def Bas:=fun(C58:CT A12 _)=>jn (A11 K) 29903 Bj7 [(58,ar A12 C58)] (fun a b c d e f _ h _ _ _ l m o p q r s t u v w x=>Ao0 K c d e f l m o p q r s t u v w x h a b C58) (kC (A88 K _ K) kN)
def Bat:=fun(C58:CT A12 _)=>jn (A11 K) 14951 Bj7 [(58,ar A12 C58)] (fun a b c d e f _ h _ _ _ l m o p q r s t u v w x=>Ao1 K c d e f l m o p q r s t u v w x h a C58 b) (kC (Bas K _) kN)
def Bau:=fun(C58:CT A12 _)=>lp (A11 K) 59802 Bw5 [(58,ar A12 C58)] (fun n a b c d e f g h i j k _ m _ p q r s t u v w x y z a1=>Aj8 K b c d e f p q r s t u v w x y z a1 j k g C58 n a h i m) (fun n=>(kC (up (Bat K _)) kN))
def Bcu:=fun(C58:CT A12 _)=>jn (A11 K) 3737 Bj7 [(58,ar A12 C58)] (fun a b c d e f g h i j k l m o p q r s t u v w x=>Ao2 K a b c d e f l m o p q r s t u v w x C58 g h i j k) (kC (Bau K _ K) kN)
def Bf3:=fun(C122:CT Beh _)=>jn (A11 K) 979 Beh [(122,ar Beh C122)] (fun a b c d e f g h i j k l m o p q r s=>Ap7 K e f o (fun v37 v38 v39=>C122 a b c d v37 v38 g h i j k l m v39 p q r s)) kN
def Bcv:=fun(C250:CT Bei _)=>jn (A11 K) 2003 Bei [(250,ar Bei C250)] (fun a b c d e f g h i j k l m o p q r=>Ak7 K d e p (fun v40 v41 v42=>C250 a b c v40 v41 f g h i j k l m o v42 q r)) kN
def Bf4:=lp (A11 K) 250 Bei [] (fun n a b c d e _ _ _ _ _ _ _ _ _ p _ _=>Adx K a b c n d e p) (fun n=>(kC (Bcv K _) kN))
def Bf5:=lp (A11 K) 122 Beh [] (fun n a b c d e f _ _ _ _ _ _ _ o _ q _ _=>Agp K a b c d q n e f o) (fun n=>(kC (Bf3 K _) (kC (up (Bf4 K K)) kN)))
def Bj8:=lp (A11 K) 58 A12 [] (K0 K) (fun n=>(kC (Bcu K _) (kC (up (Bf5 K K)) kN)))
def Btg:=ct (A11 K) (Arn K) (kC (Bj8 K K) kN)
def Axp (K:Nat)(a0:Ds):Option (Bool):=((Ayg K a0.fC a0.fP).bind fun r1=>(bif r1 then(bif ((a0.fL.length:Int)==a0.fC.Fj)then((Arm K a0).bind fun r2=>(bif r2 then((Ayi K a0.fL).bind fun r3=>(bif r3 then((Arn K a0).bind fun r4=>(bif r4 then((Aq9 K a0.Afv).bind fun r5=>some r5)else some false))else some false))else some false))else some false)else some false))
def Bth:=ct (fd Tryz.func9 ⟨[.v 32],[.v 4],true⟩ (gC (Bsl K) (gC (Bta K) (gC (Btd K) (gC (Btg K) (gC (Bcs K) gN))))) [7,8,15,16,17,19,20,21,24,25,26,28,29,30]) (Axp K)
def Ary (K:Nat)(a0:List Int):Option ((List Int)):=(bif a0.isEmpty then Aer (some []) ((if(([]:List Int)++a0).length*1≤140737488355328∧(([]:List Int)++a0).length≤maxLen then some (([]:List Int)++a0)else none))else(if(([]:List Int)++a0).length*1≤140737488355328∧(([]:List Int)++a0).length≤maxLen then some (([]:List Int)++a0)else none))
def Bti:=ct (fd Tryz.func153 ⟨[.v 22],[.n 22 true],true⟩ gN) (Ary K)
def Atg (K:Nat)(a0:Dh):Option (Dh):=((Ary K a0.Sk).bind fun r1=>((Agb K a0.Yq).bind fun r2=>((Agb K a0.Sl).bind fun r3=>some (Dh.mk r1 r2 r3))))
def Bj9:=ct (fd Tryz.func114 ⟨[.v 28],[.n 28 true],true⟩ (gC (A4q K) (gC (Bti K) gN))) (Atg K)
def Apb (K:Nat)(a0:List A7):Option ((List A7)):=(bif a0.isEmpty then Aer (some []) ((if(([]:List A7)++a0).length*24≤140737488355328∧(([]:List A7)++a0).length≤maxLen then some (([]:List A7)++a0)else none))else(if(([]:List A7)++a0).length*24≤140737488355328∧(([]:List A7)++a0).length≤maxLen then some (([]:List A7)++a0)else none))
def Btj:=ct (fd Tryz.func211 ⟨[.v 69],[.n 69 true],true⟩ gN) (Apb K)
def Av9 (K:Nat)(a0:A8):Option (A8):=((Agb K a0.A6).bind fun r1=>((Apb K a0.H7).bind fun r2=>((Agb K a0.F3).bind fun r3=>some (A8.mk a0.Yq a0.C6 a0.Sy a0.fUp a0.Wk a0.Er a0.Wl a0.Wm r1 a0.Afu a0.Wn r2 r3))))
def Btk:=ct (fd Tryz.func154 ⟨[.v 71],[.n 71 true],true⟩ (gC (A4q K) (gC (Btj K) gN))) (Av9 K)
def An4 (K:Nat)(a0:List A8):Nat->(List A8)->Int->Int->Option ((List A8))
 |0,_,_,_=>none
 |n1+1,v1,v2,v3=>(bif (decide (v3<v2))then(if(0:Int)≤v3∧v3<(a0.length:Int)then((Av9 K (gt a0 v3)).bind fun r4=>(if(v1++[r4]).length*152≤140737488355328∧(v1++[r4]).length≤maxLen then(An4 K a0 n1 (v1++[r4]) v2 (Am9 .i64 v3 1))else none))else none)else some v1)
def Asu (K:Nat)(a0:List A8):Option ((List A8)):=(An4 K a0 K ([]:List A8) (a0.length:Int) 0)
def Bqv:=fd Tryz.func115 ⟨[.v 29],[.n 29 true],true⟩ (gC (Btk K) gN) (post:=[(16,[.put 3016])])
def Bw6:Ef:=⟨[(3,.o 1003 71 true),(7,.v 29),(8,.v 2),(9,.v 2)],[]⟩
def Bka:=lp (Bqv K) 58 Bw6 [] (fun n a b=>An4 K b n a) (fun n=>kN)
def Bkb:=ct (Bqv K) (Asu K) (kC (Bka K K) kN)
def Aux (K:Nat)(a0:Av):Option (Av):=((Agb K a0.F3).bind fun r1=>((Agb K a0.A6).bind fun r2=>some (Av.mk a0.Be a0.Er r1 r2 a0.Wo)))
def Btl:=ct (fd Tryz.func116 ⟨[.v 79],[.n 79 true],true⟩ (gC (A4q K) gN)) (Aux K)
def Aob (K:Nat):Nat->(List Av)->Int->Int->Ds->Ds->Option (Ds)
 |0,_,_,_,_,_=>none
 |n1+1,v4,v5,v6,v7,v8=>(bif (decide (v6<v5))then(if(0:Int)≤v6∧v6<(v4.length:Int)then((Aux K (gt v4 v6)).bind fun r9=>(if(v7.fQ.length+1)*72≤140737488355328∧v7.fQ.length+1≤maxLen then(Aob K n1 v4 v5 (Am9 .i64 v6 1) (Ds.mk v7.fC v7.fP v7.fL ((v7.fQ++[(default:Av)]).set (v7.fQ.length:Int).toNat r9) v7.Afv) v8)else none))else none)else some v7)
def Aqm (K:Nat)(a0:Ds):Option (Ds):=((Atg K a0.fP).bind fun r1=>((Asu K a0.fL).bind fun r2=>((Agb K a0.Afv).bind fun r3=>(Aob K K a0.fQ (a0.fQ.length:Int) 0 (Ds.mk a0.fC r1 r2 [] r3) (Ds.mk (D4.mk 0 0 0 0 0 0) (Dh.mk [] [] []) [] [] [])))))
def Bqw:=fd Tryz.func60 ⟨[.v 32],[.n 32 true],true⟩ (gC (A4q K) (gC (Bj9 K) (gC (Bkb K) (gC (Btl K) gN)))) [] [] [(5,[.take 103 10 6658]),(7,[.take 103 6 6654,.take 103 7 6655,.take 103 8 6656,.take 103 9 6657,.take 103 10 6658,.take 103 11 6659])]
def Bw7:Ef:=⟨[(2,.p 102),(3,.p 103),(19,.v 30),(20,.v 2),(21,.v 2)],[(103,.st 32 true),(102,.st 32 true)]⟩
def Bkc:=lp (Bqw K) 58 Bw7 [] (Aob K) (fun n=>kN)
def Bcw:=ct (Bqw K) (Aqm K) (kC (Bkc K K) kN)
def A13 (K:Nat)(a0:Ds)(a1:Int):Option (Ds×Es):=((Aqm K a0).bind fun r1=>some (r1,(Es.mk a1 (Bo.mk 0 0) (Dy.mk (Bo.mk 0 0) 0 0) [] 0 0 0)))
def Btm:=ct (fd Tryz.func57 ⟨[.v 32,.v 3],[.n 32 true,.n 47 true],true⟩ (gC (Bcw K) gN)) (A13 K)
def Aug (K:Nat)(a0:List A8)(a1:Bo):Option (Int):=((Agh K a0 a1.Be).bind fun r1=>(bif r1 then(if(0:Int)≤a1.Be∧a1.Be<(a0.length:Int)then(bif (((gt a0 a1.Be).Yq) != 1)then some (-1)else(if(0:Int)≤a1.Be∧a1.Be<(a0.length:Int)then(bif (((gt a0 a1.Be).C6) != a1.C6)then some (-1)else some a1.Be)else none))else none)else some (-1)))
def Bkd:=ct (fd Tryz.func95 ⟨[.v 29,.v 34],[.v 3],true⟩ (gC (Azv K) gN) [8,9,10,17,18,19]) (Aug K)
def A0w (K:Nat)(a0:List A8)(a1:Int):Option (Int):=((Aws K a0 a1).bind fun r1=>some (r1.length:Int))
def Btn:=ct (fd Tryz.func68 ⟨[.v 29,.v 3],[.v 3],true⟩ (gC (Bcp K) gN)) (A0w K)
def Ayj (K:Nat)(a0:Ds)(a1:Bo):Option (Int):=((Aug K a0.fL a1).bind fun r1=>((A0w K a0.fL r1).bind fun r2=>some r2))
def Bto:=ct (fd Tryz.func59 ⟨[.v 32,.v 34],[.v 3],true⟩ (gC (Btn K) (gC (Bkd K) gN))) (Ayj K)
def Awa (K:Nat)(a0:Bo):Option (Bool):=(bif (decide (a0.Be≥0))then some (decide (a0.C6≥1))else some false)
def Btp:=ct (fd Tryz.func94 ⟨[.v 34],[.v 4],true⟩ gN [5,6]) (Awa K)
def Awb (K:Nat)(a0:Ds)(a1:Bo):Option (Int×Int):=((Awa K a1).bind fun r1=>(bif (!r1)then some ((-1),1)else((Aug K a0.fL a1).bind fun r2=>(bif (decide (r2<0))then some ((-1),2)else((Axh K a0.fL r2).bind fun r3=>(bif (!r3)then some ((-1),2)else some (r2,0)))))))
def Btq:=ct (fd Tryz.func40 ⟨[.v 32,.v 34],[.v 3,.v 3],true⟩ (gC (Bi4 K) (gC (Btp K) (gC (Bkd K) gN))) [15,16]) (Awb K)
def Asv (K:Nat)(a0:A8)(a1:Int):Option (Av):=((Agb K a0.F3).bind fun r1=>((Agb K a0.A6).bind fun r2=>some (Av.mk a1 a0.Er r1 r2 0)))
def Bke:=ct (fd Tryz.func97 ⟨[.v 71,.v 3],[.n 79 true],true⟩ (gC (A4q K) gN)) (Asv K)
def Auh (K:Nat)(v3:Dh)(v4:Dh):Option (Dh):=some v3
def Azj (K:Nat)(a0:Dh)(a1:Int):Option (Dh):=((Atg K a0).bind fun r1=>((Aa3 K a1 0 (Ana .i64 (Zp (a0.Yq.length:Int) (a0.Sl.length:Int)) 1)).bind fun r2=>(bif r2 then(if(0:Int)≤a1∧a1<(a0.Yq.length:Int)then(bif ((gt a0.Yq a1)==1)then(if(0:Int)≤a1∧a1<(r1.Yq.length:Int)then(if(0:Int)≤a1∧a1<(r1.Sl.length:Int)then(Auh K (Dh.mk r1.Sk (r1.Yq.set a1.toNat 2) (r1.Sl.set a1.toNat (-1))) (Dh.mk [] [] []))else none)else none)else(Auh K r1 (Dh.mk [] [] [])))else none)else(Auh K r1 (Dh.mk [] [] [])))))
def Bqx:=fd Tryz.func138 ⟨[.v 28,.v 3],[.n 28 true],true⟩ (gC (A0v K) (gC (Bj9 K) gN)) [17,18] [7] [(4,[.take 105 0 6680,.take 105 1 6681,.take 105 2 6682])]
def Bop:=jn (Bqx K) 7 Bvo [] (Auh K) kN
def Btr:=ct (Bqx K) (Azj K) (kC (Bop K) kN)
def Amg (K:Nat):Nat->(List Int)->Int->Int->Int->Int->Int->Int->Int->Int->(List Int)->(List Int)->(List Int)->Nat->(List Av)->(List Int)->(List A8)->Nat->Int->Int->Int->Int->Int->Int->Int->Int->Nat->Int->Int->(List A7)->(List Int)->Option (Ds)
 |0,_,_,_,_,_,_,_,_,_,_,_,_,_,_,_,_,_,_,_,_,_,_,_,_,_,_,_,_,_,_=>none
 |n1+1,v1,v2,v3,v4,v5,v6,v7,v8,v9,v10,v11,v12,v13,v14,v15,v16,v17,v18,v19,v20,v21,v22,v23,v24,v25,v26,v27,v28,v29,v30=>(bif (decide (v3<v2))then(if(0:Int)≤v3∧v3<(v1.length:Int)then((Azj K (Dh.mk v10 v11 v12) (gt v1 v3)).bind fun r31=>(Amg K n1 v1 v2 (Am9 .i64 v3 1) v4 v5 v6 v7 v8 v9 r31.Sk r31.Yq r31.Sl v13 v14 v15 v16 ((v17:Int).toNat) v18 v19 v20 v21 v22 v23 v24 v25 v26 v27 v28 v29 v30))else none)else some (Ds.mk (D4.mk v4 v5 v6 v7 v8 v9) (Dh.mk v10 v11 v12) (v16.set (v17:Int).toNat (A8.mk v18 v19 v20 v21 v22 v23 v24 v25 v1 v27 v28 v29 v30)) v14 v15))
def As6 (K:Nat)(a0:Ds)(a1:Int):Option (Ds):=(if(0:Int)≤a1∧a1<(a0.fL.length:Int)then(if(0:Int)≤a1∧a1<(a0.fL.length:Int)then(Amg K K ((gt a0.fL a1).A6) (((gt a0.fL a1).A6).length:Int) 0 a0.fC.A6 a0.fC.Kh a0.fC.Fj a0.fC.Hb a0.fC.Fk a0.fC.Ki a0.fP.Sk a0.fP.Yq a0.fP.Sl a0.fL.length a0.fQ a0.Afv a0.fL a1.toNat ((gt a0.fL a1).Yq) ((gt a0.fL a1).C6) ((gt a0.fL a1).Sy) ((gt a0.fL a1).fUp) ((gt a0.fL a1).Wk) ((gt a0.fL a1).Er) ((gt a0.fL a1).Wl) ((gt a0.fL a1).Wm) (((gt a0.fL a1).A6).length) ((gt a0.fL a1).Afu) ((gt a0.fL a1).Wn) ((gt a0.fL a1).H7) ((gt a0.fL a1).F3))else none)else none)
def Bqy:=fd Tryz.func98 ⟨[.b 32 true,.v 3],[],true⟩ (gC (Btr K) gN) [] [] [(0,[.take 1 9 5025,.opn 5025 (.tmp 1),.takeE 5025 8 41608]),(3,[.take 1 6 5022,.take 1 7 5023,.take 1 8 5024])]
def Bw8:Ef:=⟨[(0,.p 1),(13,.o 41608 3 true),(14,.v 2),(15,.v 2)],[(1,.ob [.v 2,.v 2,.v 2,.v 2,.v 2,.v 2,.T 5 true,.T 3 true,.T 3 true,.O 5025,.T 79 true,.T 3 true]),(5025,.opn 71 true [.v 2,.v 2,.v 2,.v 2,.v 2,.v 2,.v 2,.v 2,.O 41608,.v 2,.v 2,.T 112 true,.T 3 true])]⟩
def Boq:=lp (Bqy K) 6 Bw8 [] (Amg K) (fun n=>kN)
def Bts:=ct (Bqy K) (As6 K) (kC (Boq K K) kN)
def Awc (K:Nat)(a1:Int)(v9:List A8):Option ((List A8)):=(if(0:Int)≤a1∧a1<(v9.length:Int)then(Apm (v9.set a1.toNat (A8.mk ((gt v9 a1).Yq) ((gt v9 a1).C6) ((gt v9 a1).Sy) 0 ((gt v9 a1).Wk) ((gt v9 a1).Er) ((gt v9 a1).Wl) ((gt v9 a1).Wm) ((gt v9 a1).A6) ((gt v9 a1).Afu) ((gt v9 a1).Wn) ((gt v9 a1).H7) ((gt v9 a1).F3))) fun v10=>(if(0:Int)≤a1∧a1<(v10.length:Int)then(Apm (v10.set a1.toNat (A8.mk ((gt v10 a1).Yq) ((gt v10 a1).C6) ((gt v10 a1).Sy) ((gt v10 a1).fUp) 0 ((gt v10 a1).Er) ((gt v10 a1).Wl) ((gt v10 a1).Wm) ((gt v10 a1).A6) ((gt v10 a1).Afu) ((gt v10 a1).Wn) ((gt v10 a1).H7) ((gt v10 a1).F3))) fun v11=>(if(0:Int)≤a1∧a1<(v11.length:Int)then(Apm (v11.set a1.toNat (A8.mk ((gt v11 a1).Yq) ((gt v11 a1).C6) ((gt v11 a1).Sy) ((gt v11 a1).fUp) ((gt v11 a1).Wk) ((gt v11 a1).Er) 0 ((gt v11 a1).Wm) ((gt v11 a1).A6) ((gt v11 a1).Afu) ((gt v11 a1).Wn) ((gt v11 a1).H7) ((gt v11 a1).F3))) fun v12=>(if(0:Int)≤a1∧a1<(v12.length:Int)then(Apm (v12.set a1.toNat (A8.mk ((gt v12 a1).Yq) ((gt v12 a1).C6) ((gt v12 a1).Sy) ((gt v12 a1).fUp) ((gt v12 a1).Wk) ((gt v12 a1).Er) ((gt v12 a1).Wl) 0 ((gt v12 a1).A6) ((gt v12 a1).Afu) ((gt v12 a1).Wn) ((gt v12 a1).H7) ((gt v12 a1).F3))) fun v13=>some v13)else none))else none))else none))else none)
def Arb (K:Nat)(a0:List A8)(a1:Int)(v5:List A8)(v6:Int):Option ((List A8)):=((Agh K a0 v6).bind fun r7=>(bif r7 then(if(0:Int)≤a1∧a1<(v5.length:Int)then(if(0:Int)≤v6∧v6<(v5.length:Int)then(Apm (v5.set v6.toNat (A8.mk ((gt v5 v6).Yq) ((gt v5 v6).C6) ((gt v5 v6).Sy) ((gt v5 v6).fUp) ((gt v5 v6).Wk) ((gt v5 v6).Er) ((gt v5 v6).Wl) ((gt v5 a1).Wm) ((gt v5 v6).A6) ((gt v5 v6).Afu) ((gt v5 v6).Wn) ((gt v5 v6).H7) ((gt v5 v6).F3))) fun v8=>(Awc K a1 v8))else none)else none)else(Awc K a1 v5)))
def Ap3 (K:Nat)(a0:List A8)(a1:Int)(r1:(List A8))(v15:Int)(v16:Int)(v17:Bool):Option ((List A8)):=(bif v17 then(if(0:Int)≤a1∧a1<(r1.length:Int)then(if(0:Int)≤v16∧v16<(r1.length:Int)then(Apm (r1.set v16.toNat (A8.mk ((gt r1 v16).Yq) ((gt r1 v16).C6) ((gt r1 v16).Sy) ((gt r1 v16).fUp) ((gt r1 v16).Wk) ((gt r1 a1).Wl) ((gt r1 v16).Wl) ((gt r1 v16).Wm) ((gt r1 v16).A6) ((gt r1 v16).Afu) ((gt r1 v16).Wn) ((gt r1 v16).H7) ((gt r1 v16).F3))) fun v18=>(Arb K a0 a1 v18 v15))else none)else none)else(Arb K a0 a1 r1 v15))
def Ayk (K:Nat)(a0:List A8)(a1:Int):Option ((List A8)):=((Asu K a0).bind fun r1=>((Agh K a0 a1).bind fun r2=>(bif (!r2)then some r1 else(if(0:Int)≤a1∧a1<(r1.length:Int)then(if(0:Int)≤a1∧a1<(r1.length:Int)then(if(0:Int)≤a1∧a1<(r1.length:Int)then((Agh K a0 (Ana .i64 ((gt r1 a1).Wm) 1)).bind fun r3=>(bif r3 then(if(0:Int)≤a1∧a1<(r1.length:Int)then(if(0:Int)≤(Ana .i64 ((gt r1 a1).Wm) 1)∧(Ana .i64 ((gt r1 a1).Wm) 1)<(r1.length:Int)then(Apm (r1.set (Ana .i64 ((gt r1 a1).Wm) 1).toNat (A8.mk ((gt r1 (Ana .i64 ((gt r1 a1).Wm) 1)).Yq) ((gt r1 (Ana .i64 ((gt r1 a1).Wm) 1)).C6) ((gt r1 (Ana .i64 ((gt r1 a1).Wm) 1)).Sy) ((gt r1 (Ana .i64 ((gt r1 a1).Wm) 1)).fUp) ((gt r1 (Ana .i64 ((gt r1 a1).Wm) 1)).Wk) ((gt r1 (Ana .i64 ((gt r1 a1).Wm) 1)).Er) ((gt r1 a1).Wl) ((gt r1 (Ana .i64 ((gt r1 a1).Wm) 1)).Wm) ((gt r1 (Ana .i64 ((gt r1 a1).Wm) 1)).A6) ((gt r1 (Ana .i64 ((gt r1 a1).Wm) 1)).Afu) ((gt r1 (Ana .i64 ((gt r1 a1).Wm) 1)).Wn) ((gt r1 (Ana .i64 ((gt r1 a1).Wm) 1)).H7) ((gt r1 (Ana .i64 ((gt r1 a1).Wm) 1)).F3))) fun v4=>(Arb K a0 a1 v4 (Ana .i64 ((gt r1 a1).Wl) 1)))else none)else none)else(if(0:Int)≤a1∧a1<(r1.length:Int)then(bif (((gt r1 a1).Wm)==0)then((Agh K a0 (Ana .i64 ((gt r1 a1).fUp) 1)).bind fun r14=>(bif r14 then(if(0:Int)≤(Ana .i64 ((gt r1 a1).fUp) 1)∧(Ana .i64 ((gt r1 a1).fUp) 1)<(r1.length:Int)then(Ap3 K a0 a1 r1 (Ana .i64 ((gt r1 a1).Wl) 1) (Ana .i64 ((gt r1 a1).fUp) 1) (((gt r1 (Ana .i64 ((gt r1 a1).fUp) 1)).Er)==(Am9 .i64 a1 1)))else none)else(Ap3 K a0 a1 r1 (Ana .i64 ((gt r1 a1).Wl) 1) (Ana .i64 ((gt r1 a1).fUp) 1) false)))else(Ap3 K a0 a1 r1 (Ana .i64 ((gt r1 a1).Wl) 1) (Ana .i64 ((gt r1 a1).fUp) 1) false))else none)))else none)else none)else none))))
def Bej:=fd Tryz.func99 ⟨[.v 29,.v 3],[.n 29 true],true⟩ (gC (Azv K) (gC (Bkb K) gN)) [53,54,57,58,59] [31,63,499]
def Bw9:Ef:=⟨[(0,.v 29),(1,.v 2),(5,.o 1005 71 true),(7,.v 2)],[]⟩
def Bxa:Ef:=⟨[(0,.v 29),(1,.v 2),(5,.o 1005 71 true),(7,.v 2),(8,.v 2),(47,.v 4)],[]⟩
def Bkf:=jn (Bej K) 63 Bwm [] (Awc K) kN
def Bav:=jn (Bej K) 31 Bw9 [] (Arb K) (kC (Bkf K) kN)
def Bf6:=jn (Bej K) 499 Bxa [] (Ap3 K) (kC (Bav K) kN)
def Btt:=ct (Bej K) (Ayk K) (kC (Bav K) (kC (Bf6 K) kN))
def A14 (K:Nat)(a0:A8):Option (A8):=some (A8.mk 2 a0.C6 0 0 0 0 0 0 [] 0 0 [] [])
def Btu:=ct (fd Tryz.func100 ⟨[.v 71],[.n 71 true],true⟩ gN) (A14 K)
def Azk (K:Nat)(a0:Ds)(a1:Int):Option (Ds):=((Aqm K a0).bind fun r1=>((Agh K a0.fL a1).bind fun r2=>(bif r2 then(if(0:Int)≤a1∧a1<(a0.fL.length:Int)then(bif (((gt a0.fL a1).Yq) != 1)then some r1 else(if(0:Int)≤a1∧a1<(a0.fL.length:Int)then((Asv K (gt a0.fL a1) (Am9 .i64 a1 1)).bind fun r3=>(if(r1.fQ.length+1)*72≤140737488355328∧r1.fQ.length+1≤maxLen then((As6 K (Ds.mk r1.fC r1.fP r1.fL ((r1.fQ++[(default:Av)]).set (r1.fQ.length:Int).toNat r3) r1.Afv) a1).bind fun r4=>((Ayk K r4.fL a1).bind fun r5=>(if(0:Int)≤a1∧a1<(r5.length:Int)then(if(0:Int)≤a1∧a1<(r5.length:Int)then((A14 K (gt r5 a1)).bind fun r6=>(if(0:Int)≤a1∧a1<(r5.length:Int)then some (Ds.mk r4.fC r4.fP (r5.set a1.toNat r6) r4.fQ r4.Afv)else none))else none)else none)))else none))else none))else none)else some r1)))
def Btv:=ct (fd Tryz.func44 ⟨[.v 32,.v 3],[.n 32 true],true⟩ (gC (Azv K) (gC (Bcw K) (gC (Bke K) (gC (Bts K) (gC (Btt K) (gC (Btu K) gN)))))) [11,12,13] [] [(5,[.put 105]),(6,[.take 105 9 6689]),(7,[.opn 3041 (.tmp 1),.takeE 3041 8 42632,.takeE 3041 11 42635,.takeE 3041 12 42636]),(8,[.take 105 6 6686,.take 105 7 6687,.take 105 8 6688,.take 105 10 6690,.take 105 11 6691])]) (Azk K)
def Asw (K:Nat)(a0:Ds)(a1:Bo):Option (Ds×Es):=((Axp K a0).bind fun r1=>(bif (!r1)then((A13 K a0 1).bind fun r2=>some (r2.1,r2.2))else((Ayj K a0 a1).bind fun r3=>((Awb K a0 a1).bind fun r4=>(bif (r4.2 != 0)then((Aqm K a0).bind fun r5=>some (r5,(Es.mk r4.2 (Bo.mk 0 0) (Dy.mk (Bo.mk 0 0) 0 0) [] r3 0 0)))else((Azk K a0 r4.1).bind fun r6=>some (r6,(Es.mk r4.2 (Bo.mk 0 0) (Dy.mk (Bo.mk 0 0) 0 0) [] r3 0 0))))))))
def Btw:=ct (fd Tryz.func43 ⟨[.v 32,.v 34,.f 44 [] []],[.n 32 true,.n 47 true],true⟩ (gC (Bth K) (gC (Btq K) (gC (Btv K) (gC (Btm K) (gC (Bto K) (gC (Bcw K) gN)))))) [] [] [(7,[.take 108 7 6735]),(8,[.take 108 7 6735])]) (Asw K)
def Aui (K:Nat)(a0:Ds)(a1:Bo):Option (Ds×Es):=((Asw K a0 a1).bind fun r1=>some (r1.1,r1.2))
def Bkg:=ct (fd Tryz.func13 ⟨[.v 32,.v 34],[.n 32 true,.n 47 true],true⟩ (gC (Btw K) gN)) (Aui K)
def Awd (K:Nat)(a0:D4)(a1:Int):Option (Int):=((Axk K a1 a0.Fk).bind fun r1=>some r1)
def Btx:=ct (fd Tryz.func140 ⟨[.v 25,.v 3],[.v 3],true⟩ (gC (Bjl K) gN)) (Awd K)
def At0 (K:Nat)(v2:Int)(v3:Int)(v4:Int)(v5:Int)(v6:List Int)(v7:List Int)(v8:Int)(C1:Int->Int->Int->Int->Int->(List Int)->(List Int)->Int->Option (Int))(v10:Int):Option (Int):=(C1 v10 v2 (Am9 .i64 v3 1) v4 v5 v6 v7 v8)
def Ao3 (K:Nat)(a0:D4):Nat->Int->Int->Int->Int->Int->(List Int)->(List Int)->Int->Option (Int)
 |0,_,_,_,_,_,_,_,_=>none
 |n1+1,v1,v2,v3,v4,v5,v6,v7,v8=>(bif (decide (v3<v2))then(bif (v3==0)then((Awd K a0 (Ana .i64 a0.Kh v8)).bind fun r9=>(At0 K v2 v3 v4 v5 v6 v7 v8 (Ao3 K a0 n1) (Am9 .i64 v1 r9)))else((Awd K a0 a0.Kh).bind fun r11=>(At0 K v2 v3 v4 v5 v6 v7 v8 (Ao3 K a0 n1) (Am9 .i64 v1 r11))))else some v1)
def Ath (K:Nat)(a0:D4)(a1:Av):Option (Int):=(Ao3 K a0 K (Am9 .i64 (a1.F3.length:Int) 1) (a1.A6.length:Int) 0 a1.Be a1.Er a1.F3 a1.A6 a1.Wo)
def Bkh:=fd Tryz.func104 ⟨[.v 25,.v 79],[.v 3],true⟩ (gC (Btx K) gN) [] [467]
def Bek:Ef:=⟨[(2,.p 102),(3,.p 103),(5,.v 2),(13,.v 2),(14,.v 2)],[(103,.box [.v 2,.v 2,.v 26,.v 26,.v 2]),(102,.st 25 true)]⟩
def Bf7:=fun(C58:CT Bek _)=>jn (Bkh K) 467 Bek [(58,ar Bek C58)] (fun a b c d e f g h i=>At0 K b c d e f g h (fun v1 v2 v3 v4 v5 v6 v7 v8=>C58 v1 v2 v3 v4 v5 v6 v7 v8 i) a) kN
def Bki:=lp (Bkh K) 58 Bek [] (fun n a b c d e f g h i=>Ao3 K i n a b c d e f g h) (fun n=>(kC (Bf7 K _) kN))
def Bkj:=ct (Bkh K) (Ath K) (kC (Bki K K) kN)
def Arz (K:Nat)(Rc:Ds->(List Int)->(List Bool)->Option (Int×(List Bool)))(v3:Int)(v4:Int)(v5:Int)(v6:Int)(v7:Int)(v8:Int)(v9:Int)(v10:Int)(v11:List Int)(v12:List Int)(v13:List Int)(v14:List A8)(v15:List Av)(v16:List Int)(C1:(List Bool)->Int->Int->Int->Int->Int->Int->Int->Int->Int->(List Int)->(List Int)->(List Int)->(List A8)->(List Av)->(List Int)->Option (Int×(List Bool)))(v17:List Bool)(v18:Int):Option (Int×(List Bool)):=(C1 v17 v18 v3 (Am9 .i64 v4 1) v5 v6 v7 v8 v9 v10 v11 v12 v13 v14 v15 v16)
def Amt (K:Nat)(Rc:Ds->(List Int)->(List Bool)->Option (Int×(List Bool)))(a1:List Int):Nat->(List Bool)->Int->Int->Int->Int->Int->Int->Int->Int->Int->(List Int)->(List Int)->(List Int)->(List A8)->(List Av)->(List Int)->Option (Int×(List Bool))
 |0,_,_,_,_,_,_,_,_,_,_,_,_,_,_,_,_=>none
 |n1+1,v1,v2,v3,v4,v5,v6,v7,v8,v9,v10,v11,v12,v13,v14,v15,v16=>(bif (decide (v4<v3))then(if(0:Int)≤v4∧v4<(a1.length:Int)then(if(0:Int)≤(gt a1 v4)∧(gt a1 v4)<(v1.length:Int)then(bif (gt v1 (gt a1 v4))then(Arz K Rc v3 v4 v5 v6 v7 v8 v9 v10 v11 v12 v13 v14 v15 v16 (Amt K Rc a1 n1) v1 v2)else(if(0:Int)≤(gt a1 v4)∧(gt a1 v4)<(v1.length:Int)then(if(0:Int)≤(gt a1 v4)∧(gt a1 v4)<(v14.length:Int)then((Asv K (gt v14 (gt a1 v4)) 0).bind fun r19=>((Ath K (D4.mk v5 v6 v7 v8 v9 v10) r19).bind fun r20=>(if(0:Int)≤(gt a1 v4)∧(gt a1 v4)<(v14.length:Int)then((Art K v14 ((gt v14 (gt a1 v4)).Er)).bind fun r21=>((Rc (Ds.mk (D4.mk v5 v6 v7 v8 v9 v10) (Dh.mk v11 v12 v13) v14 v15 v16) r21 (v1.set (gt a1 v4).toNat true)).bind fun r22=>(if r22.2.length=(v1.set (gt a1 v4).toNat true).length then(Arz K Rc v3 v4 v5 v6 v7 v8 v9 v10 v11 v12 v13 v14 v15 v16 (Amt K Rc a1 n1) r22.2 (Am9 .i64 v2 (Am9 .i64 (Am9 .i64 1 r20) r22.1)))else none)))else none)))else none)else none))else none)else none)else some (v2,v1))
def Axq (K:Nat)(Rc:Ds->(List Int)->(List Bool)->Option (Int×(List Bool)))(a0:Ds)(a1:List Int)(a2:List Bool):Option (Int×(List Bool)):=(Amt K Rc a1 K a2 0 (a1.length:Int) 0 a0.fC.A6 a0.fC.Kh a0.fC.Fj a0.fC.Hb a0.fC.Fk a0.fC.Ki a0.fP.Sk a0.fP.Yq a0.fP.Sl a0.fL a0.fQ a0.Afv)
def Akl:Nat->Ds->(List Int)->(List Bool)->Option (Int×(List Bool))
 |0,_,_,_=>none
 |K+1,a0,a1,a2=>Axq K (Akl K) a0 a1 a2
def Baw:Sig:=⟨[.v 32,.v 26,.w 82 true [(4,true)]],[.v 3],true⟩
def Bkk (Rc:Ds->(List Int)->(List Bool)->Option (Int×(List Bool)))(hR:OkF 50 ⟨Baw,Rc⟩):=fd Tryz.func50 Baw (gC (A87 K) (gC hR (gC (Bke K) (gC (Bkj K) gN)))) [] [467]
def A49:Ef:=⟨[(2,.o 1 4 true),(3,.p 103),(7,.v 2),(10,.v 26),(11,.v 2),(12,.v 2)],[(103,.box [.v 2,.v 2,.v 2,.v 2,.v 2,.v 2,.v 22,.v 26,.v 26,.v 29,.v 30,.v 26])]⟩
def Bf8 (Rc:Ds->(List Int)->(List Bool)->Option (Int×(List Bool)))(hR:OkF 50 ⟨Baw,Rc⟩):=fun(C58:CT A49 _)=>jn (Bkk K Rc hR) 467 A49 [(58,ar A49 C58)] (fun a b c d e f g h i j k l m o p q r=>Arz K Rc d e f g h i j k l m o p q r (fun v1 v2=>C58 v1 v2 c) a b) kN
def Bkl (Rc:Ds->(List Int)->(List Bool)->Option (Int×(List Bool)))(hR:OkF 50 ⟨Baw,Rc⟩):=lp (Bkk K Rc hR) 58 A49 [] (fun n a b c=>Amt K Rc c n a b) (fun n=>(kC (Bf8 K Rc hR _) kN))
theorem Bkm: ∀K:Nat,OkF 50 ⟨Baw,Akl K⟩
 |0=>⟨(by intro a0 a1 a2 r h;cases h),_,Tryz.func50,rfl,rfl⟩
 |K+1=>have ih:=Bkm K;ct (Bkk K (Akl K) ih) (Axq K (Akl K)) (kC (Bkl K (Akl K) ih K) kN)
def Avf (K:Nat)(a0:Ds)(a1:Int):Option (Int):=((Agh K a0.fL a1).bind fun r1=>(bif (!r1)then some 0 else(if(0:Int)≤(a0.fL.length:Int)∧(a0.fL.length:Int)≤(a0.fL.length:Int)∧(1:Int)*(a0.fL.length:Int)≤281474976710656∧(a0.fL.length:Int)≤9223372036854775807 then((Akl K a0 ([a1]:List Int) (List.replicate (a0.fL.length:Int).toNat false)).bind fun r2=>(if r2.2.length=(List.replicate (a0.fL.length:Int).toNat false).length then some r2.1 else none))else none)))
def Bkn:=ct (fd Tryz.func20 ⟨[.v 32,.v 3],[.v 3],true⟩ (gC (Azv K) (gC (Bkm K) gN))) (Avf K)
def Arc (K:Nat)(r3:(List Int)):Nat->Int->Int->Int->Int->Int->Int->Int->Int->Int->(List Int)->(List Int)->(List Int)->(List A8)->(List Av)->(List Int)->Option (Int)
 |0,_,_,_,_,_,_,_,_,_,_,_,_,_,_,_=>none
 |n1+1,v4,v5,v6,v7,v8,v9,v10,v11,v12,v13,v14,v15,v16,v17,v18=>(bif (decide (v6<v5))then(if(0:Int)≤v6∧v6<(r3.length:Int)then((Avf K (Ds.mk (D4.mk v7 v8 v9 v10 v11 v12) (Dh.mk v13 v14 v15) v16 v17 v18) (gt r3 v6)).bind fun r19=>(Arc K r3 n1 (Am9 .i64 v4 r19) v5 (Am9 .i64 v6 1) v7 v8 v9 v10 v11 v12 v13 v14 v15 v16 v17 v18))else none)else some v4)
def Ayl (K:Nat)(a0:Ds)(a1:Int):Option (Int):=((Aa3 K a1 0 (Ana .i64 (a0.fQ.length:Int) 1)).bind fun r1=>(bif (!r1)then some 0 else(if(0:Int)≤a1∧a1<(a0.fQ.length:Int)then((Ath K a0.fC (gt a0.fQ a1)).bind fun r2=>(if(0:Int)≤a1∧a1<(a0.fQ.length:Int)then((Art K a0.fL ((gt a0.fQ a1).Er)).bind fun r3=>(Arc K r3 K r2 (r3.length:Int) 0 a0.fC.A6 a0.fC.Kh a0.fC.Fj a0.fC.Hb a0.fC.Fk a0.fC.Ki a0.fP.Sk a0.fP.Yq a0.fP.Sl a0.fL a0.fQ a0.Afv))else none))else none)))
def Bqz:=fd Tryz.func49 ⟨[.v 32,.v 3],[.v 3],true⟩ (gC (Bkn K) (gC (A87 K) (gC (A0v K) (gC (Bkj K) gN))))
def Bxb:Ef:=⟨[(2,.p 102),(5,.v 2),(31,.v 26),(32,.v 2),(33,.v 2)],[(102,.box [.v 2,.v 2,.v 2,.v 2,.v 2,.v 2,.v 22,.v 26,.v 26,.v 29,.v 30,.v 26])]⟩
def Bf9:=lp (Bqz K) 122 Bxb [] (fun n a b=>Arc K b n a) (fun n=>kN)
def Bty:=ct (Bqz K) (Ayl K) (kC (Bf9 K K) kN)
def Ato (K:Nat):Nat->Int->Int->Int->Int->Int->Int->Int->Int->Int->(List Int)->(List Int)->(List Int)->(List A8)->(List Av)->(List Int)->Option (Int)
 |0,_,_,_,_,_,_,_,_,_,_,_,_,_,_,_=>none
 |n1+1,v1,v2,v3,v4,v5,v6,v7,v8,v9,v10,v11,v12,v13,v14,v15=>(bif (decide (v3<v2))then((Ayl K (Ds.mk (D4.mk v4 v5 v6 v7 v8 v9) (Dh.mk v10 v11 v12) v13 v14 v15) v3).bind fun r16=>(Ato K n1 (Am9 .i64 v1 r16) v2 (Am9 .i64 v3 1) v4 v5 v6 v7 v8 v9 v10 v11 v12 v13 v14 v15))else some v1)
def Awt (K:Nat)(a0:Ds):Option (Int):=(Ato K K 0 (a0.fQ.length:Int) 0 a0.fC.A6 a0.fC.Kh a0.fC.Fj a0.fC.Hb a0.fC.Fk a0.fC.Ki a0.fP.Sk a0.fP.Yq a0.fP.Sl a0.fL a0.fQ a0.Afv)
def Bq0:=fd Tryz.func19 ⟨[.v 32],[.v 3],true⟩ (gC (Bty K) gN)
def Bxc:Ef:=⟨[(1,.p 101),(3,.v 2),(7,.v 2),(8,.v 2)],[(101,.box [.v 2,.v 2,.v 2,.v 2,.v 2,.v 2,.v 22,.v 26,.v 26,.v 29,.v 30,.v 26])]⟩
def Bko:=lp (Bq0 K) 58 Bxc [] (Ato K) (fun n=>kN)
def Bkp:=ct (Bq0 K) (Awt K) (kC (Bko K K) kN)
def Avg (K:Nat)(a0:Ds)(a1:Bo):Option (Int):=((Aui K a0 a1).bind fun r1=>((Awt K r1.1).bind fun r2=>some r2))
def Btz:=ct (fd Tryz.func18 ⟨[.v 32,.v 34],[.v 3],true⟩ (gC (Bkg K) (gC (Bkp K) gN))) (Avg K)
def Aro (K:Nat)(r1:(List Int)):Nat->Int->Int->Int->Int->Int->Int->Int->Int->Int->(List Int)->(List Int)->(List Int)->(List A8)->(List Av)->(List Int)->Option (Int)
 |0,_,_,_,_,_,_,_,_,_,_,_,_,_,_,_=>none
 |n1+1,v2,v3,v4,v5,v6,v7,v8,v9,v10,v11,v12,v13,v14,v15,v16=>(bif (decide (v4<v3))then(if(0:Int)≤v4∧v4<(r1.length:Int)then((Auf K (Dh.mk v11 v12 v13) (gt r1 v4)).bind fun r17=>(Aro K r1 n1 (Am9 .i64 v2 (r17.length:Int)) v3 (Am9 .i64 v4 1) v5 v6 v7 v8 v9 v10 v11 v12 v13 v14 v15 v16))else none)else some v2)
def Ati (K:Nat)(a0:Ds):Option (Int):=((Axi K a0).bind fun r1=>(Aro K r1 K 0 (r1.length:Int) 0 a0.fC.A6 a0.fC.Kh a0.fC.Fj a0.fC.Hb a0.fC.Fk a0.fC.Ki a0.fP.Sk a0.fP.Yq a0.fP.Sl a0.fL a0.fQ a0.Afv))
def Bq1:=fd Tryz.func21 ⟨[.v 32],[.v 3],true⟩ (gC (Bi7 K) (gC (Bjs K) gN))
def Bxd:Ef:=⟨[(1,.p 101),(3,.v 2),(7,.v 26),(8,.v 2),(9,.v 2)],[(101,.box [.v 2,.v 2,.v 2,.v 2,.v 2,.v 2,.v 22,.v 26,.v 26,.v 29,.v 30,.v 26])]⟩
def Bkq:=lp (Bq1 K) 58 Bxd [] (fun n a b=>Aro K b n a) (fun n=>kN)
def Bt0:=ct (Bq1 K) (Ati K) (kC (Bkq K K) kN)
def Arp (K:Nat)(Rc:Ds->(List Int)->(List Bool)->Option (Int×(List Bool)))(v3:Int)(v4:Int)(v5:Int)(v6:Int)(v7:Int)(v8:Int)(v9:Int)(v10:Int)(v11:List Int)(v12:List Int)(v13:List Int)(v14:List A8)(v15:List Av)(v16:List Int)(C1:(List Bool)->Int->Int->Int->Int->Int->Int->Int->Int->Int->(List Int)->(List Int)->(List Int)->(List A8)->(List Av)->(List Int)->Option (Int×(List Bool)))(v17:List Bool)(v18:Int):Option (Int×(List Bool)):=(C1 v17 v18 v3 (Am9 .i64 v4 1) v5 v6 v7 v8 v9 v10 v11 v12 v13 v14 v15 v16)
def Amh (K:Nat)(Rc:Ds->(List Int)->(List Bool)->Option (Int×(List Bool)))(a1:List Int):Nat->(List Bool)->Int->Int->Int->Int->Int->Int->Int->Int->Int->(List Int)->(List Int)->(List Int)->(List A8)->(List Av)->(List Int)->Option (Int×(List Bool))
 |0,_,_,_,_,_,_,_,_,_,_,_,_,_,_,_,_=>none
 |n1+1,v1,v2,v3,v4,v5,v6,v7,v8,v9,v10,v11,v12,v13,v14,v15,v16=>(bif (decide (v4<v3))then(if(0:Int)≤v4∧v4<(a1.length:Int)then(if(0:Int)≤(gt a1 v4)∧(gt a1 v4)<(v1.length:Int)then(bif (gt v1 (gt a1 v4))then(Arp K Rc v3 v4 v5 v6 v7 v8 v9 v10 v11 v12 v13 v14 v15 v16 (Amh K Rc a1 n1) v1 v2)else(if(0:Int)≤(gt a1 v4)∧(gt a1 v4)<(v1.length:Int)then(if(0:Int)≤(gt a1 v4)∧(gt a1 v4)<(v14.length:Int)then(if(0:Int)≤(gt a1 v4)∧(gt a1 v4)<(v14.length:Int)then((Art K v14 ((gt v14 (gt a1 v4)).Er)).bind fun r19=>((Rc (Ds.mk (D4.mk v5 v6 v7 v8 v9 v10) (Dh.mk v11 v12 v13) v14 v15 v16) r19 (v1.set (gt a1 v4).toNat true)).bind fun r20=>(if r20.2.length=(v1.set (gt a1 v4).toNat true).length then(Arp K Rc v3 v4 v5 v6 v7 v8 v9 v10 v11 v12 v13 v14 v15 v16 (Amh K Rc a1 n1) r20.2 (Am9 .i64 v2 (Am9 .i64 (((gt v14 (gt a1 v4)).A6).length:Int) r20.1)))else none)))else none)else none)else none))else none)else none)else some (v2,v1))
def Awk (K:Nat)(Rc:Ds->(List Int)->(List Bool)->Option (Int×(List Bool)))(a0:Ds)(a1:List Int)(a2:List Bool):Option (Int×(List Bool)):=(Amh K Rc a1 K a2 0 (a1.length:Int) 0 a0.fC.A6 a0.fC.Kh a0.fC.Fj a0.fC.Hb a0.fC.Fk a0.fC.Ki a0.fP.Sk a0.fP.Yq a0.fP.Sl a0.fL a0.fQ a0.Afv)
def Aka:Nat->Ds->(List Int)->(List Bool)->Option (Int×(List Bool))
 |0,_,_,_=>none
 |K+1,a0,a1,a2=>Awk K (Aka K) a0 a1 a2
def Bax:Sig:=⟨[.v 32,.v 26,.w 82 true [(4,true)]],[.v 3],true⟩
def Bkr (Rc:Ds->(List Int)->(List Bool)->Option (Int×(List Bool)))(hR:OkF 52 ⟨Bax,Rc⟩):=fd Tryz.func52 Bax (gC (A87 K) (gC hR gN)) [] [467]
def Bga (Rc:Ds->(List Int)->(List Bool)->Option (Int×(List Bool)))(hR:OkF 52 ⟨Bax,Rc⟩):=fun(C58:CT A49 _)=>jn (Bkr K Rc hR) 467 A49 [(58,ar A49 C58)] (fun a b c d e f g h i j k l m o p q r=>Arp K Rc d e f g h i j k l m o p q r (fun v1 v2=>C58 v1 v2 c) a b) kN
def Bks (Rc:Ds->(List Int)->(List Bool)->Option (Int×(List Bool)))(hR:OkF 52 ⟨Bax,Rc⟩):=lp (Bkr K Rc hR) 58 A49 [] (fun n a b c=>Amh K Rc c n a b) (fun n=>(kC (Bga K Rc hR _) kN))
theorem Bkt: ∀K:Nat,OkF 52 ⟨Bax,Aka K⟩
 |0=>⟨(by intro a0 a1 a2 r h;cases h),_,Tryz.func52,rfl,rfl⟩
 |K+1=>have ih:=Bkt K;ct (Bkr K (Aka K) ih) (Awk K (Aka K)) (kC (Bks K (Aka K) ih K) kN)
def Axr (K:Nat)(a0:Ds)(a1:Int):Option (Int):=((Agh K a0.fL a1).bind fun r1=>(bif (!r1)then some 0 else(if(0:Int)≤(a0.fL.length:Int)∧(a0.fL.length:Int)≤(a0.fL.length:Int)∧(1:Int)*(a0.fL.length:Int)≤281474976710656∧(a0.fL.length:Int)≤9223372036854775807 then((Aka K a0 ([a1]:List Int) (List.replicate (a0.fL.length:Int).toNat false)).bind fun r2=>(if r2.2.length=(List.replicate (a0.fL.length:Int).toNat false).length then some r2.1 else none))else none)))
def Bt1:=ct (fd Tryz.func22 ⟨[.v 32,.v 3],[.v 3],true⟩ (gC (Azv K) (gC (Bkt K) gN))) (Axr K)
def Atj (K:Nat)(r3:(List Int)):Nat->Int->Ds->Option (Bool)
 |0,_,_=>none
 |n1+1,v6,v7=>(bif (decide (v6<(r3.length:Int)))then(if(0:Int)≤v6∧v6<(r3.length:Int)then((Av3 K v7.fL (gt r3 v6)).bind fun r8=>((Aui K v7 r8).bind fun r9=>(bif (r9.2.Wq != 0)then some false else((Avg K v7 r8).bind fun r10=>((Awt K v7).bind fun r11=>(if(0:Int)≤v6∧v6<(r3.length:Int)then((Avf K v7 (gt r3 v6)).bind fun r12=>(bif (r10 != (Ana .i64 (Am9 .i64 r11 r12) 1))then some false else((Awt K r9.1).bind fun r13=>((Avg K v7 r8).bind fun r14=>(bif (r13 != r14)then some false else((Ati K r9.1).bind fun r15=>((Ati K v7).bind fun r16=>(if(0:Int)≤v6∧v6<(r3.length:Int)then((Axr K v7 (gt r3 v6)).bind fun r17=>(bif (r15 != (Ana .i64 r16 r17))then some false else(bif ((r9.1.fQ.length:Int) != (Am9 .i64 (v7.fQ.length:Int) 1))then some false else(Atj K r3 n1 (Am9 .i64 v6 1) v7))))else none))))))))else none))))))else none)else some true)
def Aym (K:Nat)(a0:List Int):Option (Bool):=((A3c K a0).bind fun r1=>(bif r1 then some true else((Auw K a0).bind fun r2=>((Axi K r2.1).bind fun r3=>((Ar3 K r2.1).bind fun r4=>((Av2 K r3 r4).bind fun r5=>(bif (!r5)then some false else(Atj K r3 K 0 r2.1))))))))
def Bq2:=fd Tryz.func4 ⟨[.v 22],[.v 4],true⟩ (gC (Bxx K) (gC (Bsf K) (gC (Bi7 K) (gC (Bsh K) (gC (Bkg K) (gC (Bsg K) (gC (Bht K) (gC (Btz K) (gC (Bkp K) (gC (Bkn K) (gC (Bt0 K) (gC (Bt1 K) gN)))))))))))) [45,46,60,61,62,68,69,70,82,83,84] [] [(10,[.take 103 9 6657]),(11,[.take 103 6 6654,.take 103 7 6655,.take 103 8 6656,.take 103 10 6658,.take 103 11 6659])]
def Bxe:Ef:=⟨[(3,.p 103),(5,.v 26),(6,.v 2)],[(103,.st 32 false)]⟩
def Bgb:=lp (Bq2 K) 506 Bxe [] (fun n a=>Atj K a n) (fun n=>kN)
def Bt2:=ct (Bq2 K) (Aym K) (kC (Bgb K K) kN)
end
end Go.Proofs.YtplfjgdlpbdojaaGreat
