/- What the functions compute that FnTold reaches, and that they do; no condition. Printed by gen4.py. -/
import Derived.Test.YtplfjgdlpbdojaaGreatFSrt
set_option linter.all false
set_option maxRecDepth 20000
namespace Go.Proofs.YtplfjgdlpbdojaaGreat
open Go.Eng
noncomputable section
abbrev PT (h:Ef):Type:=Ae tyU h.codes
abbrev Rt (s:Sig):Type:=Option (Aq tyU s.codes)
def FnP (R:Type):List TC->Type
 |[]=>R
 |c::l=>c.T tyU->FnP R l
noncomputable def unc{R:Type}:(l:List TC)->FnP R l->Ae tyU l->R
 |[],f,_=>f
 |_::l,f,q=>unc l (f q.1) q.2
abbrev CT (h:Ef)(s:Sig):Type:=FnP (Rt s) h.codes
noncomputable abbrev ar{s:Sig}(h:Ef)(M:CT h s):SS Ar->Rt s:=arr tyU tab h (unc h.codes M)
abbrev OkF (f:FuncId)(c:Fe tyU):Prop:=Fe.Ok tyU Tryz.prog f c∧Ed Tryz.prog f
theorem Bwg:Tryz.prog.follows .mixedOrders=true:=by kernel_rfl
structure FD (f:FuncId)(s:Sig) where
 fn:Func
 hf:Tryz.prog.funcs[f]? =some fn
 G:List (Nat×Fe tyU)
 g: ∀f c,lk G f=some c->OkF f c
 O:List (Nat×List (Nat×Fe tyU))
 o: ∀d l,lk O d=some l-> ∀f c,lk l f=some c->OkF f c
 spl:List Nat
 js:List Nat
 pre:List (Nat×List Cmd)
 post:List (Nat×List Cmd)
noncomputable abbrev fo{f:FuncId}{fn:Func}(hf:Tryz.prog.funcs[f]? =some fn)(s:Sig){G:List (Nat×Fe tyU)}(g: ∀f c,lk G f=some c->OkF f c){O:List (Nat×List (Nat×Fe tyU))}(o: ∀d l,lk O d=some l-> ∀f c,lk l f=some c->OkF f c)(spl:List Nat:=[])(js:List Nat:=[])(pre:List (Nat×List Cmd):=[])(post:List (Nat×List Cmd):=[]):FD f s:=⟨fn,hf,G,g,O,o,spl,js,pre,post⟩
noncomputable abbrev fd{f:FuncId}{fn:Func}(hf:Tryz.prog.funcs[f]? =some fn)(s:Sig){G:List (Nat×Fe tyU)}(g: ∀f c,lk G f=some c->OkF f c)(spl:List Nat:=[])(js:List Nat:=[])(pre:List (Nat×List Cmd):=[])(post:List (Nat×List Cmd):=[]):FD f s:=⟨fn,hf,G,g,[],oN,spl,js,pre,post⟩
section
variable {f:FuncId} {s:Sig}
noncomputable abbrev FD.b (X:FD f s):Code:=X.fn.body.getD .skip
noncomputable def FD.x (X:FD f s)(L B:Λt tyU s):Ox tyU (Aq tyU s.codes):=⟨X.G,X.O,eqT eqs,X.fn.ntmps,X.spl,X.pre,X.post,X.js,L,B,Aev tyU tab s X.fn.results.toList⟩
abbrev CuX (X:FD f s):Λt tyU s->Nat->(SS Ar->Rt s)->Prop:=Cut tyU tab Tryz.prog X.fn.results.toList s X.fn.ntmps X.js X.b
abbrev CsX (X:FD f s):Λt tyU s->Λt tyU s->Prop:=U8 tyU tab Tryz.prog X.fn.results.toList s X.fn.ntmps X.js X.b
theorem xo (X:FD f s):XOk tyU tab Tryz.prog X.fn.results.toList s X.fn.ntmps X.js X.x:=xok Apq Bwg X.g X.o Aop
theorem lp (X:FD f s)(p:Nat)(h:Ef)(B:Λt tyU s)(M:Nat->CT h s){L:Nat->Λt tyU s}(hc: ∀n,CsX X ((p,ar h (M n))::B) (L n))(e: ∀n q,unc h.codes (M (n+1)) q=Aet tyU tab (X.x (L n) ((p,ar h (M n))::B)) X.b (2*p) (h.emb tyU q):=by intro n q;kernel_rfl)(hp:Nat.ble 1 p=true:=by rfl)(hk:Si X.js X.b p=true:=by kernel_rfl)(e0: ∀q,unc h.codes (M 0) q=none:=by intro q;rfl)(n:Nat):CuX X B p (ar h (M n)):=Alo (M:=fun n=>unc h.codes (M n)) (xo X) hp hk e0 e hc n
theorem jn (X:FD f s)(p:Nat)(h:Ef)(B:Λt tyU s)(M:CT h s){L:Λt tyU s}(hc:CsX X B L)(e: ∀q,unc h.codes M q=Aet tyU tab (X.x L B) X.b (2*p+1) (h.emb tyU q):=by intro q;kernel_rfl)(hp:Nat.ble 1 p=true:=by rfl):CuX X B p (ar h M):=Aln (xo X) hp e hc
theorem up{X:FD f s}{B:Λt tyU s}{p x:Nat}{F G:SS Ar->Rt s}(h:CuX X B p F)(hn:Alp X.js X.b p x=true:=by kernel_rfl):CuX X ((x,G)::B) p F:=An2 hn h
theorem ct (X:FD f s)(m:Vs tyU s.ps (Rt s)){L:Λt tyU s}(hc:CsX X [] L:=by exact kN)(e:Ud tyU tab (X.x L []) X.b s.ps 0 [] [] m:=by(repeat intro _);show @Eq _ _ _;kernel_rfl)(hs:Wg tyU s.ps:=by(repeat (refine⟨fun _=>rfl,?_⟩));exact trivial)(h1:(X.fn.name== "runtime.NumGoroutine")=false:=by rfl)(h2:X.fn.body=some X.b:=by rfl)(h5:Nat.ble s.ps.length X.fn.ntmps=true:=by rfl)(h6:Nat.ble (A5 s.ps+1) 100=true:=by rfl)(h7:Nat.ble X.fn.results.toList.length 4=true:=by rfl):OkF f ⟨s,m⟩:=An1 (xo X) Aoo e hc X.hf h1 h2 (Array.toArray_toList).symm rfl h5 h6 h7 hs
end
variable (K:Nat)
def A26 (K:Nat)(a0:List Int):Option (Bool):=some (decide ((a0.length:Int)>1048576))
def Bwi:=ct (fd Tryz.func6 ⟨[.v 22],[.v 4],true⟩ gN) (A26 K)
def At0 (K:Nat)(a0:List Int):Nat->Int->Int->Option (Dt)
 |0,_,_=>none
 |n1+1,v1,v2=>(bif (decide (v2<(a0.length:Int)))then(bif (decide (v2<4000))then(if(0:Int)≤v2∧v2<(a0.length:Int)then(At0 K a0 n1 (Anc .i64 (Am9 .i64 (Am9 .i64 (Anb .i64 v1 137) (IntKind.i64.wrap (gt a0 v2))) 11) 1073741823) (Am9 .i64 v2 1))else none)else some (Dt.mk a0 0 v1))else some (Dt.mk a0 0 v1))
def Ayu (K:Nat)(a0:List Int):Option (Dt):=(At0 K a0 K (Am9 .i64 161416 (a0.length:Int)) 0)
def X_1:=fd Tryz.func29 ⟨[.v 22],[.p 99 false],false⟩ gN [11,12]
def h_0:Ef:=⟨[(0,.v 22),(3,.v 2),(4,.v 2)],[]⟩
def Bpx:=lp X_1 58 h_0 [] (fun n a=>At0 K a n) (fun n=>kN)
def Bwj:=ct X_1 (Ayu K) (kC (Bpx K K) kN)
def Au1 (K:Nat)(a0:List Int)(a1:Int):Option (Int):=(if 12≠(0:Int)then(bif (decide ((Am9 .i64 3 (Akr .i64 (a0.length:Int) 12))>a1))then some a1 else some (Am9 .i64 3 (Akr .i64 (a0.length:Int) 12)))else none)
def Bwk:=ct (fd Tryz.func31 ⟨[.v 22,.v 3],[.v 3],true⟩ gN) (Au1 K)
def Avg (K:Nat)(v1:Int)(v2:List Int)(v3:Int)(v4:Int):Option (Int×Dt):=some (v1,(Dt.mk v2 v3 v4))
def Ap8 (K:Nat)(a0:Dt):Option (Int×Dt):=(if(0:Int)≤33 then(if(0:Int)≤47 then(bif (decide (a0.fi<(a0.fb.length:Int)))then(if(0:Int)≤a0.fi∧a0.fi<(a0.fb.length:Int)then(Avg K (Anc .i64 (Am9 .i64 (Anc .i64 (Ane .i64 (Akq .i64 (Am9 .i64 (Anb .i64 a0.fh 6364136223846793005) 1442695040888963407) 33) (Akq .i64 (Am9 .i64 (Anb .i64 a0.fh 6364136223846793005) 1442695040888963407) 47)) 255) (IntKind.i64.wrap (gt a0.fb a0.fi))) 255) a0.fb (Am9 .i64 a0.fi 1) (Am9 .i64 (Anb .i64 a0.fh 6364136223846793005) 1442695040888963407))else none)else(Avg K (Anc .i64 (Ane .i64 (Akq .i64 (Am9 .i64 (Anb .i64 a0.fh 6364136223846793005) 1442695040888963407) 33) (Akq .i64 (Am9 .i64 (Anb .i64 a0.fh 6364136223846793005) 1442695040888963407) 47)) 255) a0.fb a0.fi (Am9 .i64 (Anb .i64 a0.fh 6364136223846793005) 1442695040888963407)))else none)else none)
def X_3:=fd Tryz.func123 ⟨[.b 99 false],[.v 3],false⟩ gN [] [15]
def h_1:Ef:=⟨[(3,.v 2)],[(1,.box [.v 22,.v 2,.v 2])]⟩
def Bpy:=jn X_3 15 h_1 [] (Avg K) kN
def Btl:=ct X_3 (Ap8 K) (kC (Bpy K) kN)
def Acl (K:Nat)(a0:Dt)(a1:Int):Option (Int×Dt):=(bif (decide (a1≤0))then some (0,a0)else(bif (decide (a1≤256))then((Ap8 K a0).bind fun r1=>(if a1≠(0:Int)then some ((Int.tmod r1.1 a1),r1.2)else none))else((Ap8 K a0).bind fun r2=>((Ap8 K r2.2).bind fun r3=>((Ap8 K r3.2).bind fun r4=>(if a1≠(0:Int)then some ((Int.tmod (Am9 .i64 (Am9 .i64 (Anb .i64 r2.1 65536) (Anb .i64 r3.1 256)) r4.1) a1),r4.2)else none))))))
def Bbx:=ct (fd Tryz.func71 ⟨[.b 99 false,.v 3],[.v 3],false⟩ (gC (Btl K) gN)) (Acl K)
def Apj (K:Nat)(a0:Dt)(a1:List Int):Option (Int×Dt×(List Int)):=((Acl K a0 (a1.length:Int)).bind fun r1=>(if(0:Int)≤r1.1∧r1.1<(a1.length:Int)then some ((gt a1 r1.1),r1.2,a1)else none))
def Bpz:=ct (fd Tryz.func73 ⟨[.b 99 false,.w 26 true [(3,true)]],[.v 3],false⟩ (gC (Bbx K) gN)) (Apj K)
def Ax3 (K:Nat)(a0:Dt):Option (D4×Dt):=((Acl K a0 11).bind fun r1=>((Apj K r1.2 ([8,8,9,12,16]:List Int)).bind fun r2=>(if r2.2.2.length=([8,8,9,12,16]:List Int).length then((Acl K r2.2.1 7).bind fun r3=>((Acl K r3.2 6).bind fun r4=>((Apj K r4.2 ([1,3,4,8,16]:List Int)).bind fun r5=>(if r5.2.2.length=([1,3,4,8,16]:List Int).length then((Acl K r5.2.1 4).bind fun r6=>some ((D4.mk (Am9 .i64 2 r1.1) r2.1 (Am9 .i64 2 r3.1) (Am9 .i64 1 r4.1) r5.1 (Am9 .i64 1 r6.1)),r6.2))else none))))else none)))
def Bwl:=ct (fd Tryz.func105 ⟨[.b 99 false],[.v 25],false⟩ (gC (Bbx K) (gC (Bpz K) gN))) (Ax3 K)
def K0 (K:Nat)(a0:Int)(a1:Int)(a2:Int):Option (Bool):=(bif (decide (a0≥a1))then some (decide (a0≤a2))else some false)
def A0g:=ct (fd Tryz.func124 ⟨[.v 3,.v 3,.v 3],[.v 4],true⟩ gN [9,10]) (K0 K)
def Am2 (K:Nat)(a0:D4):Option (Bool):=((K0 K a0.A6 2 12).bind fun r1=>(bif r1 then((K0 K a0.Kh 8 16).bind fun r2=>(bif r2 then((K0 K a0.Fj 2 8).bind fun r3=>(bif r3 then((K0 K a0.Hb 1 8).bind fun r4=>(bif r4 then((K0 K a0.Fk 1 16).bind fun r5=>(bif r5 then((K0 K a0.Ki 1 4).bind fun r6=>some r6)else some false))else some false))else some false))else some false))else some false))
def A93:=ct (fd Tryz.func141 ⟨[.v 25],[.v 4],true⟩ (gC (A0g K) gN) [5,6,9,10,11,14,15,16,19,20,21,24,25,26]) (Am2 K)
def Aqp (K:Nat)(a0:D4):Option (Int):=((Am2 K a0).bind fun r1=>(bif (!r1)then some 0 else some (Anb .i64 a0.A6 a0.Kh)))
def Blz:=ct (fd Tryz.func180 ⟨[.v 25],[.v 3],true⟩ (gC (A93 K) gN)) (Aqp K)
def A05 (K:Nat)(a0:Int):Option ((List Int)):=((K0 K a0 0 4096).bind fun r1=>(bif (!r1)then some ([]:List Int)else(if(0:Int)≤a0∧a0≤a0∧(1:Int)*a0≤281474976710656∧a0≤9223372036854775807 then some (List.replicate a0.toNat 0)else none)))
def Btm:=ct (fd Tryz.func179 ⟨[.v 3],[.n 22 true],true⟩ (gC (A0g K) gN)) (A05 K)
def Arz (K:Nat)(a0:D4):Nat->Int->Dh->Dh->Option (Dh)
 |0,_,_,_=>none
 |n1+1,v4,v5,v6=>(bif (decide (v4<a0.A6))then(if(v5.Yq++([0]:List Int)).length*8≤140737488355328∧(v5.Yq++([0]:List Int)).length≤maxLen then(if(v5.Sl++([(-1)]:List Int)).length*8≤140737488355328∧(v5.Sl++([(-1)]:List Int)).length≤maxLen then(Arz K a0 n1 (Am9 .i64 v4 1) (Dh.mk v5.Sk (v5.Yq++([0]:List Int)) (v5.Sl++([(-1)]:List Int))) v6)else none)else none)else some v5)
def Awr (K:Nat)(a0:D4):Option (Dh):=((Am2 K a0).bind fun r1=>(bif (!r1)then some (Dh.mk [] [] [])else((Aqp K a0).bind fun r2=>((A05 K r2).bind fun r3=>(Arz K a0 K 0 (Dh.mk r3 [] []) (Dh.mk [] [] []))))))
def Btn:=fd Tryz.func142 ⟨[.v 25],[.n 28 true],true⟩ (gC (A93 K) (gC (Btm K) (gC (Blz K) gN))) [] [] [(3,[.take 103 0 6648,.take 103 1 6649,.take 103 2 6650]),(8,[.take 103 1 6649]),(9,[.take 103 2 6650]),(10,[.take 103 0 6648,.take 103 1 6649,.take 103 2 6650])]
def h_2:Ef:=⟨[(1,.p 101),(2,.p 102),(3,.p 103),(4,.v 2)],[(103,.st 28 true),(102,.st 28 true),(101,.st 25 true)]⟩
def Bgp:=lp (Btn K) 250 h_2 [] (fun n a b c d=>Arz K d n a b c) (fun n=>kN)
def Bto:=ct (Btn K) (Awr K) (kC (Bgp K K) kN)
def Aqq (K:Nat)(a0:Int):Option (A8):=some (A8.mk 0 a0 0 0 0 0 0 0 [] 0 0 [] [])
def Bgq:=ct (fd Tryz.func181 ⟨[.v 3],[.n 71 true],true⟩ gN) (Aqq K)
def Arf (K:Nat)(a0:D4):Nat->(List A8)->Int->Option ((List A8))
 |0,_,_=>none
 |n1+1,v1,v2=>(bif (decide (v2<a0.Fj))then((Am2 K a0).bind fun r3=>(bif r3 then((Aqq K 1).bind fun r4=>(if(v1++[r4]).length*152≤140737488355328∧(v1++[r4]).length≤maxLen then(Arf K a0 n1 (v1++[r4]) (Am9 .i64 v2 1))else none))else some v1))else some v1)
def Ayl (K:Nat)(a0:D4):Option ((List A8)):=(Arf K a0 K ([]:List A8) 0)
def Btp:=fd Tryz.func143 ⟨[.v 25],[.n 29 true],true⟩ (gC (A93 K) (gC (Bgq K) gN)) [9,10] [] [] [(18,[.put 3018])]
def h_3:Ef:=⟨[(1,.p 101),(3,.o 1003 71 true),(4,.v 2)],[(101,.st 25 true)]⟩
def Bl0:=lp (Btp K) 58 h_3 [] (fun n a b c=>Arf K c n a b) (fun n=>kN)
def Btq:=ct (Btp K) (Ayl K) (kC (Bl0 K K) kN)
def Avh (K:Nat)(a0:D4):Option (Ds):=((Am2 K a0).bind fun r1=>(bif (!r1)then some (Ds.mk (D4.mk 0 0 0 0 0 0) (Dh.mk [] [] []) [] [] [])else((Awr K a0).bind fun r2=>((Ayl K a0).bind fun r3=>some (Ds.mk a0 r2 r3 [] [])))))
def Btr:=ct (fd Tryz.func106 ⟨[.v 25],[.n 32 true],true⟩ (gC (A93 K) (gC (Bto K) (gC (Btq K) gN)))) (Avh K)
def Agg (K:Nat)(a0:List A8)(a1:Int):Option (Bool):=(bif (decide (a1≥1))then some (decide (a1≤(a0.length:Int)))else some false)
def A40:=ct (fd Tryz.func139 ⟨[.v 29,.v 3],[.v 4],true⟩ gN [6,7]) (Agg K)
def Au2 (K:Nat)(a0:List A8):Nat->Int->(List Int)->Option ((List Int))
 |0,_,_=>none
 |n1+1,v1,v2=>((Agg K a0 (Am9 .i64 v1 1)).bind fun r3=>(bif r3 then(bif (decide ((v2.length:Int)<(a0.length:Int)))then(if(v2++([v1]:List Int)).length*8≤140737488355328∧(v2++([v1]:List Int)).length≤maxLen then(if(0:Int)≤v1∧v1<(a0.length:Int)then(Au2 K a0 n1 (Ana .i64 ((gt a0 v1).fUp) 1) (v2++([v1]:List Int)))else none)else none)else some v2)else some v2))
def Awi (K:Nat)(a0:List A8)(a1:Int):Option ((List Int)):=(Au2 K a0 K a1 ([]:List Int))
def Bts:=fd Tryz.func102 ⟨[.v 29,.v 3],[.n 26 true],true⟩ (gC (A40 K) gN) [10,11]
def h_4:Ef:=⟨[(0,.v 29),(1,.v 2),(5,.o 1005 3 true)],[]⟩
def Bl1:=lp (Bts K) 28 h_4 [] (fun n a=>Au2 K a n) (fun n=>kN)
def Bgr:=ct (Bts K) (Awi K) (kC (Bl1 K K) kN)
def Arg (K:Nat)(a0:List A8)(a1:Int):Option (Bool):=(if(0:Int)≤a1∧a1<(a0.length:Int)then((Agg K a0 ((gt a0 a1).fUp)).bind fun r1=>(bif r1 then(if(0:Int)≤(Ana .i64 ((gt a0 a1).fUp) 1)∧(Ana .i64 ((gt a0 a1).fUp) 1)<(a0.length:Int)then(bif (((gt a0 (Ana .i64 ((gt a0 a1).fUp) 1)).Yq)==1)then(if(0:Int)≤(Ana .i64 ((gt a0 a1).fUp) 1)∧(Ana .i64 ((gt a0 a1).fUp) 1)<(a0.length:Int)then(if(0:Int)≤a1∧a1<(a0.length:Int)then some (((gt a0 (Ana .i64 ((gt a0 a1).fUp) 1)).Sy)==((gt a0 a1).Wk))else none)else none)else some false)else none)else some false))else none)
def Bgs:=ct (fd Tryz.func103 ⟨[.v 29,.v 3],[.v 4],true⟩ (gC (A40 K) gN) [13,14,21,22,23]) (Arg K)
def Aws (K:Nat)(v2:Int)(C1:Int->Option (Bool)):Option (Bool):=(C1 (Am9 .i64 v2 1))
def Ar0 (K:Nat)(a0:List A8)(r1:(List Int)):Nat->Int->Option (Bool)
 |0,_=>none
 |n1+1,v2=>(bif (decide (v2<(r1.length:Int)))then(if(0:Int)≤v2∧v2<(r1.length:Int)then(if(0:Int)≤(gt r1 v2)∧(gt r1 v2)<(a0.length:Int)then(bif (((gt a0 (gt r1 v2)).Yq) != 1)then some false else(bif (decide ((Am9 .i64 v2 1)<(r1.length:Int)))then(if(0:Int)≤v2∧v2<(r1.length:Int)then((Arg K a0 (gt r1 v2)).bind fun r3=>(bif (!r3)then some false else(Aws K v2 (Ar0 K a0 r1 n1))))else none)else(Aws K v2 (Ar0 K a0 r1 n1))))else none)else none)else(bif (decide ((r1.length:Int)>0))then(if(0:Int)≤(Ana .i64 (r1.length:Int) 1)∧(Ana .i64 (r1.length:Int) 1)<(r1.length:Int)then(if(0:Int)≤(gt r1 (Ana .i64 (r1.length:Int) 1))∧(gt r1 (Ana .i64 (r1.length:Int) 1))<(a0.length:Int)then some (((gt a0 (gt r1 (Ana .i64 (r1.length:Int) 1))).fUp)==0)else none)else none)else some false))
def Auo (K:Nat)(a0:List A8)(a1:Int):Option (Bool):=((Awi K a0 a1).bind fun r1=>(Ar0 K a0 r1 K 0))
def Bp0:=fd Tryz.func48 ⟨[.v 29,.v 3],[.v 4],true⟩ (gC (Bgr K) (gC (Bgs K) gN)) [24,25,30,31,43,44] [233]
def h_5:Ef:=⟨[(0,.v 29),(5,.v 26),(6,.v 2)],[]⟩
def Bgt:=fun(C58:CT h_5 _)=>jn (Bp0 K) 233 h_5 [(58,ar h_5 C58)] (fun a b c=>Aws K c (C58 a b)) kN
def Bl2:=lp (Bp0 K) 58 h_5 [] (fun n a b=>Ar0 K a b n) (fun n=>(kC (Bgt K _) kN))
def Bgu:=ct (Bp0 K) (Auo K) (kC (Bl2 K K) kN)
def Ar1 (K:Nat)(v2:Int)(v3:Int)(v4:Int)(v5:Int)(v6:Int)(v7:Int)(v8:Int)(v9:List Int)(v10:List Int)(v11:List Int)(v12:List A8)(v13:List Av)(v14:List Int)(C1:(List Int)->Int->Int->Int->Int->Int->Int->Int->(List Int)->(List Int)->(List Int)->(List A8)->(List Av)->(List Int)->Option ((List Int)))(v16:List Int):Option ((List Int)):=(C1 v16 (Am9 .i64 v2 1) v3 v4 v5 v6 v7 v8 v9 v10 v11 v12 v13 v14)
def Aqh (K:Nat):Nat->(List Int)->Int->Int->Int->Int->Int->Int->Int->(List Int)->(List Int)->(List Int)->(List A8)->(List Av)->(List Int)->Option ((List Int))
 |0,_,_,_,_,_,_,_,_,_,_,_,_,_,_=>none
 |n1+1,v1,v2,v3,v4,v5,v6,v7,v8,v9,v10,v11,v12,v13,v14=>(bif (decide (v2<(v12.length:Int)))then((Auo K v12 v2).bind fun r15=>(bif r15 then(if(v1++([v2]:List Int)).length*8≤140737488355328∧(v1++([v2]:List Int)).length≤maxLen then(Ar1 K v2 v3 v4 v5 v6 v7 v8 v9 v10 v11 v12 v13 v14 (Aqh K n1) (v1++([v2]:List Int)))else none)else(Ar1 K v2 v3 v4 v5 v6 v7 v8 v9 v10 v11 v12 v13 v14 (Aqh K n1) v1)))else some v1)
def Awt (K:Nat)(a0:Ds):Option ((List Int)):=(Aqh K K ([]:List Int) 0 a0.fC.A6 a0.fC.Kh a0.fC.Fj a0.fC.Hb a0.fC.Fk a0.fC.Ki a0.fP.Sk a0.fP.Yq a0.fP.Sl a0.fL a0.fQ a0.Afv)
def Bp1:=fd Tryz.func17 ⟨[.v 32],[.n 26 true],true⟩ (gC (Bgu K) gN) [] [233]
def h_6:Ef:=⟨[(1,.p 101),(3,.o 1003 3 true),(4,.v 2)],[(101,.box [.v 2,.v 2,.v 2,.v 2,.v 2,.v 2,.v 22,.v 26,.v 26,.v 29,.v 30,.v 26])]⟩
def Bgv:=fun(C58:CT h_6 _)=>jn (Bp1 K) 233 h_6 [(58,ar h_6 C58)] (fun a b c d e f g h i j k l m o=>Ar1 K b c d e f g h i j k l m o C58 a) kN
def Bl3:=lp (Bp1 K) 58 h_6 [] (Aqh K) (fun n=>(kC (Bgv K _) kN))
def Bof:=ct (Bp1 K) (Awt K) (kC (Bl3 K K) kN)
def Ap9 (K:Nat)(a0:Dt)(a1:Int):Option (Bool×Dt):=((Acl K a0 a1).bind fun r1=>some ((r1.1==0),r1.2))
def Bog:=ct (fd Tryz.func69 ⟨[.b 99 false,.v 3],[.v 4],false⟩ (gC (Bbx K) gN)) (Ap9 K)
def Avi (K:Nat)(a0:Dt):Option (Bo×Dt):=((Acl K a0 5).bind fun r1=>((Acl K r1.2 3).bind fun r2=>some ((Bo.mk r1.1 (Am9 .i64 1 r2.1)),r2.2)))
def Btt:=ct (fd Tryz.func122 ⟨[.b 99 false],[.v 34],false⟩ (gC (Bbx K) gN)) (Avi K)
def Ar2 (K:Nat)(a1:Int):Nat->(List Int)->Int->(List Int)->Int->Int->Option ((List Int)×Dt)
 |0,_,_,_,_,_=>none
 |n1+1,v1,v2,v3,v4,v5=>(bif (decide (v2<a1))then((Ap8 K (Dt.mk v3 v4 v5)).bind fun r6=>(if(v1++([(IntKind.u8.wrap r6.1)]:List Int)).length*1≤140737488355328∧(v1++([(IntKind.u8.wrap r6.1)]:List Int)).length≤maxLen then(Ar2 K a1 n1 (v1++([(IntKind.u8.wrap r6.1)]:List Int)) (Am9 .i64 v2 1) r6.2.fb r6.2.fi r6.2.fh)else none))else some (v1,(Dt.mk v3 v4 v5)))
def Awu (K:Nat)(a0:Dt)(a1:Int):Option ((List Int)×Dt):=(Ar2 K a1 K ([]:List Int) 0 a0.fb a0.fi a0.fh)
def Btu:=fd Tryz.func74 ⟨[.b 99 false,.v 3],[.n 22 true],false⟩ (gC (Btl K) gN)
def h_7:Ef:=⟨[(0,.p 1),(1,.v 2),(5,.o 1005 5 true),(6,.v 2)],[(1,.box [.v 22,.v 2,.v 2])]⟩
def Bl4:=lp (Btu K) 58 h_7 [] (fun n a=>Ar2 K a n) (fun n=>kN)
def Boh:=ct (Btu K) (Awu K) (kC (Bl4 K K) kN)
def Aml (K:Nat)(v6:List Int)(v7:Int)(v8:Int)(v9:Cm)(v10:Cm):Option (Cm×Dt):=some (v9,(Dt.mk v6 v7 v8))
def Aqi (K:Nat)(v11:Int)(v12:Bool)(v13:List Int)(v14:Int)(v15:Int)(v16:Dy)(v17:Bo)(v18:Cm)(v19:Cm):Option (Cm×Dt):=(bif v12 then(Aml K v13 v14 v15 (Cm.mk v18.Wp v17 v18.fR v18.fN v18.fM v18.fB) v19)else(bif (v11==2)then((Apj K (Dt.mk v13 v14 v15) ([1,2,3,5,8,9,17,20,0,201]:List Int)).bind fun r20=>(if r20.2.2.length=([1,2,3,5,8,9,17,20,0,201]:List Int).length then((Apj K r20.2.1 ([1,1,2,4,3]:List Int)).bind fun r21=>(if r21.2.2.length=([1,1,2,4,3]:List Int).length then(Aml K r21.2.1.fb r21.2.1.fi r21.2.1.fh (Cm.mk v18.Wp v17 v18.fR r20.1 r21.1 v18.fB) v19)else none))else none))else(bif (v11==3)then((Acl K (Dt.mk v13 v14 v15) 4).bind fun r22=>((Acl K r22.2 5).bind fun r23=>(Aml K r23.2.fb r23.2.fi r23.2.fh (Cm.mk v18.Wp v18.fH v16 r22.1 r23.1 v18.fB) v19)))else(bif (v11==4)then((Acl K (Dt.mk v13 v14 v15) 4).bind fun r24=>((Acl K r24.2 4).bind fun r25=>((Awu K r25.2 r25.1).bind fun r26=>(Aml K r26.2.fb r26.2.fi r26.2.fh (Cm.mk v18.Wp v18.fH v16 r24.1 v18.fM r26.1) v19))))else(bif (v11==5)then((Apj K (Dt.mk v13 v14 v15) ([1,7,255,256]:List Int)).bind fun r27=>(if r27.2.2.length=([1,7,255,256]:List Int).length then(Aml K r27.2.1.fb r27.2.1.fi r27.2.1.fh (Cm.mk v18.Wp v17 v18.fR r27.1 v18.fM v18.fB) v19)else none))else(Aml K v13 v14 v15 v18 v19))))))
def At1 (K:Nat)(a0:Dt):Option (Cm×Dt):=((Acl K a0 9).bind fun r1=>((Avi K r1.2).bind fun r2=>((Acl K r2.2 2).bind fun r3=>((Acl K r3.2 3).bind fun r4=>(bif ((Am9 .i64 1 r1.1)==1)then((Ap9 K r4.2 2).bind fun r5=>(bif r5.1 then(Aml K r5.2.fb r5.2.fi r5.2.fh (Cm.mk (Am9 .i64 1 r1.1) r2.1 (Dy.mk (Bo.mk 0 0) 0 0) 0 0 []) (Cm.mk 0 (Bo.mk 0 0) (Dy.mk (Bo.mk 0 0) 0 0) 0 0 []))else(Aml K r5.2.fb r5.2.fi r5.2.fh (Cm.mk (Am9 .i64 1 r1.1) (Bo.mk 0 0) (Dy.mk (Bo.mk 0 0) 0 0) 0 0 []) (Cm.mk 0 (Bo.mk 0 0) (Dy.mk (Bo.mk 0 0) 0 0) 0 0 []))))else(bif ((Am9 .i64 1 r1.1)==6)then(Aqi K (Am9 .i64 1 r1.1) ((Am9 .i64 1 r1.1)==6) r4.2.fb r4.2.fi r4.2.fh (Dy.mk r2.1 r3.1 r4.1) r2.1 (Cm.mk (Am9 .i64 1 r1.1) (Bo.mk 0 0) (Dy.mk (Bo.mk 0 0) 0 0) 0 0 []) (Cm.mk 0 (Bo.mk 0 0) (Dy.mk (Bo.mk 0 0) 0 0) 0 0 []))else(bif ((Am9 .i64 1 r1.1)==7)then(Aqi K (Am9 .i64 1 r1.1) ((Am9 .i64 1 r1.1)==7) r4.2.fb r4.2.fi r4.2.fh (Dy.mk r2.1 r3.1 r4.1) r2.1 (Cm.mk (Am9 .i64 1 r1.1) (Bo.mk 0 0) (Dy.mk (Bo.mk 0 0) 0 0) 0 0 []) (Cm.mk 0 (Bo.mk 0 0) (Dy.mk (Bo.mk 0 0) 0 0) 0 0 []))else(Aqi K (Am9 .i64 1 r1.1) ((Am9 .i64 1 r1.1)==8) r4.2.fb r4.2.fi r4.2.fh (Dy.mk r2.1 r3.1 r4.1) r2.1 (Cm.mk (Am9 .i64 1 r1.1) (Bo.mk 0 0) (Dy.mk (Bo.mk 0 0) 0 0) 0 0 []) (Cm.mk 0 (Bo.mk 0 0) (Dy.mk (Bo.mk 0 0) 0 0) 0 0 [])))))))))
def Bp2:=fd Tryz.func70 ⟨[.b 99 false],[.n 38 true],false⟩ (gC (Bog K) (gC (Bbx K) (gC (Bpz K) (gC (Boh K) (gC (Btt K) gN))))) [] [31,1003] [(27,[.take 103 9 6657])]
def h_8:Ef:=⟨[(2,.p 102),(3,.p 103)],[(1,.box [.v 22,.v 2,.v 2]),(103,.st 38 true),(102,.st 38 true)]⟩
def h_9:Ef:=⟨[(0,.p 1),(2,.p 102),(3,.p 103),(4,.p 104),(5,.p 105),(19,.v 2),(26,.v 4)],[(1,.box [.v 22,.v 2,.v 2]),(105,.st 36 true),(104,.st 34 true),(103,.st 38 true),(102,.st 38 true)]⟩
def Bdf:=jn (Bp2 K) 31 h_8 [] (Aml K) kN
def Bei:=jn (Bp2 K) 1003 h_9 [] (Aqi K) (kC (Bdf K) kN)
def Btv:=ct (Bp2 K) (At1 K) (kC (Bdf K) (kC (Bei K) kN))
def Aq5 (K:Nat)(a0:List A8)(a1:Int):Option (Bo):=((K0 K a1 0 (Ana .i64 (a0.length:Int) 1)).bind fun r1=>(bif (!r1)then some (Bo.mk 0 0)else(if(0:Int)≤a1∧a1<(a0.length:Int)then some (Bo.mk a1 ((gt a0 a1).C6))else none)))
def Boi:=ct (fd Tryz.func72 ⟨[.v 29,.v 3],[.v 34],true⟩ (gC (A0g K) gN)) (Aq5 K)
def Ar3 (K:Nat)(r8:Bo)(v27:List Int)(v28:List Int)(v29:List Int)(v30:List A8)(v31:List Av)(v32:List Int)(v34:Int)(v36:List Int)(v37:Int)(v38:Int)(v47:Bool):Option (Cm×Dt×(List Int)×(List Int)×(List Int)×(List A8)×(List Av)×(List Int)):=(bif v47 then((Acl K (Dt.mk v36 v37 v38) 256).bind fun r48=>some ((Cm.mk 5 r8 (Dy.mk (Bo.mk 0 0) 0 0) r48.1 0 []),r48.2,v27,v28,v29,v30,v31,v32))else(bif (v34==13)then some ((Cm.mk 6 r8 (Dy.mk (Bo.mk 0 0) 0 0) 0 0 []),(Dt.mk v36 v37 v38),v27,v28,v29,v30,v31,v32)else(bif (v34==14)then some ((Cm.mk 7 r8 (Dy.mk (Bo.mk 0 0) 0 0) 0 0 []),(Dt.mk v36 v37 v38),v27,v28,v29,v30,v31,v32)else((Ap9 K (Dt.mk v36 v37 v38) 6).bind fun r49=>(bif r49.1 then some ((Cm.mk 9 (Bo.mk 0 0) (Dy.mk (Bo.mk 0 0) 0 0) 0 0 []),r49.2,v27,v28,v29,v30,v31,v32)else some ((Cm.mk 8 r8 (Dy.mk (Bo.mk 0 0) 0 0) 0 0 []),r49.2,v27,v28,v29,v30,v31,v32))))))
def Ar4 (K:Nat)(r8:Bo)(v13:Dy)(v27:List Int)(v28:List Int)(v29:List Int)(v30:List A8)(v31:List Av)(v32:List Int)(v34:Int)(v36:List Int)(v37:Int)(v38:Int)(v43:Bool):Option (Cm×Dt×(List Int)×(List Int)×(List Int)×(List A8)×(List Av)×(List Int)):=(bif v43 then((Acl K (Dt.mk v36 v37 v38) 2).bind fun r44=>((Awu K r44.2 (Am9 .i64 1 r44.1)).bind fun r45=>some ((Cm.mk 4 (Bo.mk 0 0) v13 0 0 r45.1),r45.2,v27,v28,v29,v30,v31,v32)))else(bif (v34==10)then((Acl K (Dt.mk v36 v37 v38) 3).bind fun r46=>some ((Cm.mk 3 (Bo.mk 0 0) v13 0 r46.1 []),r46.2,v27,v28,v29,v30,v31,v32))else(bif (v34==11)then(Ar3 K r8 v27 v28 v29 v30 v31 v32 v34 v36 v37 v38 (v34==11))else(Ar3 K r8 v27 v28 v29 v30 v31 v32 v34 v36 v37 v38 (v34==12)))))
def Aqj (K:Nat)(r8:Bo)(v13:Dy)(v16:Int)(v27:List Int)(v28:List Int)(v29:List Int)(v30:List A8)(v31:List Av)(v32:List Int)(v34:Int)(v36:List Int)(v37:Int)(v38:Int)(v39:Bool):Option (Cm×Dt×(List Int)×(List Int)×(List Int)×(List A8)×(List Av)×(List Int)):=(bif v39 then((Apj K (Dt.mk v36 v37 v38) ([1,2,3,4,5,8]:List Int)).bind fun r40=>(if r40.2.2.length=([1,2,3,4,5,8]:List Int).length then((Apj K r40.2.1 ([1,1,2,4]:List Int)).bind fun r41=>(if r41.2.2.length=([1,1,2,4]:List Int).length then some ((Cm.mk 2 r8 (Dy.mk (Bo.mk 0 0) 0 0) r40.1 r41.1 []),r41.2.1,v27,v28,v29,v30,v31,v32)else none))else none))else(bif (v34==7)then((Acl K (Dt.mk v36 v37 v38) v16).bind fun r42=>some ((Cm.mk 2 r8 (Dy.mk (Bo.mk 0 0) 0 0) (Am9 .i64 (Am9 .i64 v16 1) r42.1) 1 []),r42.2,v27,v28,v29,v30,v31,v32))else(bif (v34==8)then(Ar4 K r8 v13 v27 v28 v29 v30 v31 v32 v34 v36 v37 v38 (v34==8))else(Ar4 K r8 v13 v27 v28 v29 v30 v31 v32 v34 v36 v37 v38 (v34==9)))))
def Aqk (K:Nat)(r8:Bo)(v13:Dy)(v16:Int)(v27:List Int)(v28:List Int)(v29:List Int)(v30:List A8)(v31:List Av)(v32:List Int)(v34:Int)(v35:Bool)(v36:List Int)(v37:Int)(v38:Int):Option (Cm×Dt×(List Int)×(List Int)×(List Int)×(List A8)×(List Av)×(List Int)):=(bif v35 then some ((Cm.mk 1 r8 (Dy.mk (Bo.mk 0 0) 0 0) 0 0 []),(Dt.mk v36 v37 v38),v27,v28,v29,v30,v31,v32)else(bif (v34==3)then some ((Cm.mk 1 (Bo.mk 0 0) (Dy.mk (Bo.mk 0 0) 0 0) 0 0 []),(Dt.mk v36 v37 v38),v27,v28,v29,v30,v31,v32)else(bif (v34==4)then(Aqj K r8 v13 v16 v27 v28 v29 v30 v31 v32 v34 v36 v37 v38 (v34==4))else(bif (v34==5)then(Aqj K r8 v13 v16 v27 v28 v29 v30 v31 v32 v34 v36 v37 v38 (v34==5))else(Aqj K r8 v13 v16 v27 v28 v29 v30 v31 v32 v34 v36 v37 v38 (v34==6))))))
def Ar5 (K:Nat)(r8:Bo)(v10:List Int)(v11:Int)(v12:Int)(v13:Dy)(v14:Cm)(v15:Int)(v16:Int)(v17:Int)(v18:Int)(v19:Int)(v20:Int)(v21:Nat)(v22:Nat)(v23:Nat)(v24:Nat)(v25:Nat)(v26:Nat)(v27:List Int)(v28:List Int)(v29:List Int)(v30:List A8)(v31:List Av)(v32:List Int):Option (Cm×Dt×(List Int)×(List Int)×(List Int)×(List A8)×(List Av)×(List Int)):=((Acl K (Dt.mk v10 v11 v12) 16).bind fun r33=>(bif (r33.1==0)then(Aqk K r8 v13 v16 v27 v28 v29 v30 v31 v32 r33.1 (r33.1==0) r33.2.fb r33.2.fi r33.2.fh)else(bif (r33.1==1)then(Aqk K r8 v13 v16 v27 v28 v29 v30 v31 v32 r33.1 (r33.1==1) r33.2.fb r33.2.fi r33.2.fh)else(Aqk K r8 v13 v16 v27 v28 v29 v30 v31 v32 r33.1 (r33.1==2) r33.2.fb r33.2.fi r33.2.fh))))
def At2 (K:Nat)(a0:Dt)(a1:Ds):Option (Cm×Dt×(List Int)×(List Int)×(List Int)×(List A8)×(List Av)×(List Int)):=((Awt K a1).bind fun r1=>(bif ((r1.length:Int)==0)then((Ap9 K a0 2).bind fun r2=>(bif r2.1 then some ((Cm.mk 1 (Bo.mk 0 0) (Dy.mk (Bo.mk 0 0) 0 0) 0 0 []),r2.2,a1.fP.Sk,a1.fP.Yq,a1.fP.Sl,a1.fL,a1.fQ,a1.Afv)else((At1 K r2.2).bind fun r3=>some (r3.1,r3.2,a1.fP.Sk,a1.fP.Yq,a1.fP.Sl,a1.fL,a1.fQ,a1.Afv))))else((Ap9 K a0 10).bind fun r4=>(bif r4.1 then((Ap9 K r4.2 2).bind fun r5=>(bif r5.1 then some ((Cm.mk 1 (Bo.mk 0 0) (Dy.mk (Bo.mk 0 0) 0 0) 0 0 []),r5.2,a1.fP.Sk,a1.fP.Yq,a1.fP.Sl,a1.fL,a1.fQ,a1.Afv)else((At1 K r5.2).bind fun r6=>some (r6.1,r6.2,a1.fP.Sk,a1.fP.Yq,a1.fP.Sl,a1.fL,a1.fQ,a1.Afv))))else((Acl K r4.2 (r1.length:Int)).bind fun r7=>(if(0:Int)≤r7.1∧r7.1<(r1.length:Int)then((Aq5 K a1.fL (gt r1 r7.1)).bind fun r8=>(if(0:Int)≤(gt r1 r7.1)∧(gt r1 r7.1)<(a1.fL.length:Int)then(if(0:Int)≤(gt r1 r7.1)∧(gt r1 r7.1)<(a1.fL.length:Int)then(bif (decide ((((gt a1.fL (gt r1 r7.1)).H7).length:Int)>0))then(if(0:Int)≤(gt r1 r7.1)∧(gt r1 r7.1)<(a1.fL.length:Int)then((Acl K r7.2 (((gt a1.fL (gt r1 r7.1)).H7).length:Int)).bind fun r9=>(Ar5 K r8 r9.2.fb r9.2.fi r9.2.fh (Dy.mk r8 ((gt a1.fL (gt r1 r7.1)).Sy) r9.1) (Cm.mk 0 (Bo.mk 0 0) (Dy.mk (Bo.mk 0 0) 0 0) 0 0 []) a1.fC.A6 a1.fC.Kh a1.fC.Fj a1.fC.Hb a1.fC.Fk a1.fC.Ki a1.fP.Sk.length a1.fP.Yq.length a1.fP.Sl.length a1.fL.length a1.fQ.length a1.Afv.length a1.fP.Sk a1.fP.Yq a1.fP.Sl a1.fL a1.fQ a1.Afv))else none)else(Ar5 K r8 r7.2.fb r7.2.fi r7.2.fh (Dy.mk r8 ((gt a1.fL (gt r1 r7.1)).Sy) 0) (Cm.mk 0 (Bo.mk 0 0) (Dy.mk (Bo.mk 0 0) 0 0) 0 0 []) a1.fC.A6 a1.fC.Kh a1.fC.Fj a1.fC.Hb a1.fC.Fk a1.fC.Ki a1.fP.Sk.length a1.fP.Yq.length a1.fP.Sl.length a1.fL.length a1.fQ.length a1.Afv.length a1.fP.Sk a1.fP.Yq a1.fP.Sl a1.fL a1.fQ a1.Afv))else none)else none))else none))))))
def Bej:=fd Tryz.func32 ⟨[.b 99 false,.w 32 false [(5,true),(3,true),(3,true),(71,false),(79,false),(3,true)]],[.n 38 true],false⟩ (gC (Bof K) (gC (Bog K) (gC (Btv K) (gC (Bbx K) (gC (Boi K) (gC (Bpz K) (gC (Boh K) gN))))))) [13,14] [127,2042,32687,523007,8368127]
def Bwn:Ef:=⟨[(0,.p 1),(4,.p 104),(7,.p 107),(61,.v 2),(113,.v 4)],[(1,.box [.v 22,.v 2,.v 2]),(2,.rws 5 true),(3,.rws 3 true),(4,.rws 3 true),(5,.rws 71 false),(6,.rws 79 false),(7,.rws 3 true),(107,.st 34 true),(104,.st 38 true)]⟩
def Bwo:Ef:=⟨[(0,.p 1),(4,.p 104),(7,.p 107),(8,.p 108),(61,.v 2),(97,.v 4)],[(1,.box [.v 22,.v 2,.v 2]),(2,.rws 5 true),(3,.rws 3 true),(4,.rws 3 true),(5,.rws 71 false),(6,.rws 79 false),(7,.rws 3 true),(108,.st 36 true),(107,.st 34 true),(104,.st 38 true)]⟩
def Bwp:Ef:=⟨[(0,.p 1),(3,.p 103),(4,.p 104),(7,.p 107),(8,.p 108),(61,.v 2),(71,.v 4)],[(1,.box [.v 22,.v 2,.v 2]),(108,.st 36 true),(107,.st 34 true),(104,.st 38 true),(103,.ob [.v 2,.v 2,.v 2,.v 2,.v 2,.v 2,.O 2,.O 3,.O 4,.O 5,.O 6,.O 7]),(2,.rws 5 true),(3,.rws 3 true),(4,.rws 3 true),(5,.rws 71 false),(6,.rws 79 false),(7,.rws 3 true)]⟩
def Bwq:Ef:=⟨[(0,.p 1),(3,.p 103),(4,.p 104),(7,.p 107),(8,.p 108),(61,.v 2),(62,.v 4)],[(1,.box [.v 22,.v 2,.v 2]),(108,.st 36 true),(107,.st 34 true),(104,.st 38 true),(103,.ob [.v 2,.v 2,.v 2,.v 2,.v 2,.v 2,.O 2,.O 3,.O 4,.O 5,.O 6,.O 7]),(2,.rws 5 true),(3,.rws 3 true),(4,.rws 3 true),(5,.rws 71 false),(6,.rws 79 false),(7,.rws 3 true)]⟩
def Bwr:Ef:=⟨[(0,.p 1),(3,.p 103),(4,.p 104),(7,.p 107),(8,.p 108)],[(1,.box [.v 22,.v 2,.v 2]),(108,.st 36 true),(107,.st 34 true),(104,.st 38 true),(103,.ob [.v 2,.v 2,.v 2,.v 2,.v 2,.v 2,.O 2,.O 3,.O 4,.O 5,.O 6,.O 7]),(2,.rws 5 true),(3,.rws 3 true),(4,.rws 3 true),(5,.rws 71 false),(6,.rws 79 false),(7,.rws 3 true)]⟩
def A8g:=jn (Bej K) 8368127 Bwn [] (fun a b c d e f g h i j k l _=>Ar3 K l f g h i j k a c d e b) kN
def A94:=jn (Bej K) 523007 Bwo [] (fun a b c d e f g h i j k l m _=>Ar4 K m l f g h i j k a c d e b) (kC (A8g K) kN)
def Bby:=jn (Bej K) 32687 Bwp [] (fun a b c d e f g _ _ j _ _ _ _ _ _ _ _ _ _ v w x y z a1=>Aqj K g f j v w x y z a1 a c d e b) (kC (A94 K) kN)
def Bek:=jn (Bej K) 2042 Bwq [] (fun a b c d e f g _ _ j _ _ _ _ _ _ _ _ _ _ v w x y z a1=>Aqk K g f j v w x y z a1 a b c d e) (kC (Bby K) kN)
def Bgw:=jn (Bej K) 127 Bwr [] (fun a b c d e=>Ar5 K e a b c d) (kC (Bek K) kN)
def Boj:=ct (Bej K) (At2 K) (kC (Bgw K) kN)
def As9 (K:Nat)(a0:Bo):Option (Bool):=(bif (decide (a0.Be≥0))then some (decide (a0.C6≥1))else some false)
def Bok:=ct (fd Tryz.func197 ⟨[.v 34],[.v 4],true⟩ gN [5,6]) (As9 K)
def Ar6 (K:Nat)(a0:List A8)(a1:Bo):Option (Int):=((K0 K a1.Be 0 (Ana .i64 (a0.length:Int) 1)).bind fun r1=>(bif r1 then(if(0:Int)≤a1.Be∧a1.Be<(a0.length:Int)then(bif (((gt a0 a1.Be).Yq) != 1)then some (-1)else(if(0:Int)≤a1.Be∧a1.Be<(a0.length:Int)then(bif (((gt a0 a1.Be).C6) != a1.C6)then some (-1)else some a1.Be)else none))else none)else some (-1)))
def Bol:=ct (fd Tryz.func198 ⟨[.v 29,.v 34],[.v 3],true⟩ (gC (A0g K) gN) [10,11,12,19,20,21]) (Ar6 K)
def Am5 (K:Nat)(a0:Ds)(a1:Bo):Option (Int×Int):=((As9 K a1).bind fun r1=>(bif (!r1)then some ((-1),1)else((Ar6 K a0.fL a1).bind fun r2=>(bif (decide (r2<0))then some ((-1),2)else((Auo K a0.fL r2).bind fun r3=>(bif (!r3)then some ((-1),2)else some (r2,0)))))))
def A7p:=ct (fd Tryz.func147 ⟨[.v 32,.v 34],[.v 3,.v 3],true⟩ (gC (Bgu K) (gC (Bok K) (gC (Bol K) gN))) [15,16]) (Am5 K)
def Ayv (K:Nat)(a0:Ds)(a1:Bo):Option (Int×Int):=(bif ((a1.Be==0)&&((a1.C6==0)&&true))then some ((-1),0)else((Am5 K a0 a1).bind fun r1=>some (r1.1,r1.2)))
def Btw:=ct (fd Tryz.func182 ⟨[.v 32,.v 34],[.v 3,.v 3],true⟩ (gC (A7p K) gN)) (Ayv K)
def Au3 (K:Nat)(a0:List A8)(a1:Int):Option (Int):=((Awi K a0 a1).bind fun r1=>some (r1.length:Int))
def Bom:=ct (fd Tryz.func183 ⟨[.v 29,.v 3],[.v 3],true⟩ (gC (Bgr K) gN)) (Au3 K)
def Aos (K:Nat)(a0:Ds)(a1:Bo):Option (Int):=((Ar6 K a0.fL a1).bind fun r1=>((Au3 K a0.fL r1).bind fun r2=>some r2))
def A52:=ct (fd Tryz.func148 ⟨[.v 32,.v 34],[.v 3],true⟩ (gC (Bom K) (gC (Bol K) gN))) (Aos K)
def Am0 (K:Nat)(v2:Int)(v3:Int)(v4:Int)(v5:Int)(v6:Int)(v7:Int)(v8:Int)(v9:List Int)(v10:List Int)(v11:List Int)(v12:List A8)(v13:List Av)(v14:List Int)(C1:Int->Int->Int->Int->Int->Int->Int->Int->(List Int)->(List Int)->(List Int)->(List A8)->(List Av)->(List Int)->Option (Int))(v15:Int):Option (Int):=(C1 v15 (Am9 .i64 v2 1) v3 v4 v5 v6 v7 v8 v9 v10 v11 v12 v13 v14)
def Aj5 (K:Nat):Nat->Int->Int->Int->Int->Int->Int->Int->Int->(List Int)->(List Int)->(List Int)->(List A8)->(List Av)->(List Int)->Option (Int)
 |0,_,_,_,_,_,_,_,_,_,_,_,_,_,_=>none
 |n1+1,v1,v2,v3,v4,v5,v6,v7,v8,v9,v10,v11,v12,v13,v14=>(bif (decide (v2<(v12.length:Int)))then(if(0:Int)≤v2∧v2<(v12.length:Int)then(bif (((gt v12 v2).Yq)==0)then(Am0 K v2 v3 v4 v5 v6 v7 v8 v9 v10 v11 v12 v13 v14 (Aj5 K n1) (Am9 .i64 v1 1))else((Auo K v12 v2).bind fun r16=>(bif r16 then(Am0 K v2 v3 v4 v5 v6 v7 v8 v9 v10 v11 v12 v13 v14 (Aj5 K n1) v1)else(if(0:Int)≤v2∧v2<(v12.length:Int)then(bif (((gt v12 v2).Yq) != 3)then(if(0:Int)≤v2∧v2<(v12.length:Int)then(bif (decide (((gt v12 v2).C6)<v8))then(Am0 K v2 v3 v4 v5 v6 v7 v8 v9 v10 v11 v12 v13 v14 (Aj5 K n1) (Am9 .i64 v1 1))else(Am0 K v2 v3 v4 v5 v6 v7 v8 v9 v10 v11 v12 v13 v14 (Aj5 K n1) v1))else none)else(Am0 K v2 v3 v4 v5 v6 v7 v8 v9 v10 v11 v12 v13 v14 (Aj5 K n1) v1))else none))))else none)else some v1)
def Aym (K:Nat)(a0:Ds):Option (Int):=(Aj5 K K 0 0 a0.fC.A6 a0.fC.Kh a0.fC.Fj a0.fC.Hb a0.fC.Fk a0.fC.Ki a0.fP.Sk a0.fP.Yq a0.fP.Sl a0.fL a0.fQ a0.Afv)
def Bp3:=fd Tryz.func184 ⟨[.v 32],[.v 3],true⟩ (gC (Bgu K) gN) [18,19,23,24,25,32,33,34] [233]
def Bl5:Ef:=⟨[(1,.p 101),(3,.v 2),(4,.v 2)],[(101,.box [.v 2,.v 2,.v 2,.v 2,.v 2,.v 2,.v 22,.v 26,.v 26,.v 29,.v 30,.v 26])]⟩
def Bgx:=fun(C58:CT Bl5 _)=>jn (Bp3 K) 233 Bl5 [(58,ar Bl5 C58)] (fun a b c d e f g h i j k l m o=>Am0 K b c d e f g h i j k l m o C58 a) kN
def Bl6:=lp (Bp3 K) 58 Bl5 [] (Aj5 K) (fun n=>(kC (Bgx K _) kN))
def Btx:=ct (Bp3 K) (Aym K) (kC (Bl6 K K) kN)
def Ar7 (K:Nat)(v2:Int)(v3:List Int)(v4:List Int)(v5:List Int)(C1:(List Int)->Int->(List Int)->(List Int)->(List Int)->Option ((List Int)))(v6:List Int):Option ((List Int)):=(C1 v6 (Am9 .i64 v2 1) v3 v4 v5)
def Amm (K:Nat)(a1:Int):Nat->(List Int)->Int->(List Int)->(List Int)->(List Int)->Option ((List Int))
 |0,_,_,_,_,_=>none
 |n1+1,v1,v2,v3,v4,v5=>(bif (decide (v2<(v4.length:Int)))then(bif (decide (v2<(v5.length:Int)))then(if(0:Int)≤v2∧v2<(v4.length:Int)then(bif ((gt v4 v2)==1)then(if(0:Int)≤v2∧v2<(v5.length:Int)then(bif ((gt v5 v2)==a1)then(if(v1++([v2]:List Int)).length*8≤140737488355328∧(v1++([v2]:List Int)).length≤maxLen then(Ar7 K v2 v3 v4 v5 (Amm K a1 n1) (v1++([v2]:List Int)))else none)else(Ar7 K v2 v3 v4 v5 (Amm K a1 n1) v1))else none)else(Ar7 K v2 v3 v4 v5 (Amm K a1 n1) v1))else none)else some v1)else some v1)
def At3 (K:Nat)(a0:Dh)(a1:Int):Option ((List Int)):=(Amm K a1 K ([]:List Int) 0 a0.Sk a0.Yq a0.Sl)
def Bp4:=fd Tryz.func247 ⟨[.v 28,.v 3],[.n 26 true],true⟩ gN [12,13,27,28] [233]
def Bl7:Ef:=⟨[(1,.v 2),(2,.p 102),(5,.o 1005 3 true),(6,.v 2)],[(102,.box [.v 22,.v 26,.v 26])]⟩
def Bgy:=fun(C58:CT Bl7 _)=>jn Bp4 233 Bl7 [(58,ar Bl7 C58)] (fun a b c d e f=>Ar7 K c d e f (C58 a) b) kN
def Bl8:=lp Bp4 58 Bl7 [] (fun n a=>Amm K a n) (fun n=>(kC (Bgy K _) kN))
def Bon:=ct Bp4 (At3 K) (kC (Bl8 K K) kN)
def Apt (K:Nat)(r1:(List Int)):Nat->Int->Int->Int->Int->Int->Int->Int->Int->(List Int)->(List Int)->(List Int)->(List A8)->(List Av)->(List Int)->Option (Int)
 |0,_,_,_,_,_,_,_,_,_,_,_,_,_,_=>none
 |n1+1,v2,v3,v4,v5,v6,v7,v8,v9,v10,v11,v12,v13,v14,v15=>(bif (decide (v3<(r1.length:Int)))then(if(0:Int)≤v3∧v3<(r1.length:Int)then((At3 K (Dh.mk v10 v11 v12) (gt r1 v3)).bind fun r16=>(Apt K r1 n1 (Am9 .i64 v2 (r16.length:Int)) (Am9 .i64 v3 1) v4 v5 v6 v7 v8 v9 v10 v11 v12 v13 v14 v15))else none)else some v2)
def Ayn (K:Nat)(a0:Ds):Option (Int):=((Awt K a0).bind fun r1=>(Apt K r1 K 0 0 a0.fC.A6 a0.fC.Kh a0.fC.Fj a0.fC.Hb a0.fC.Fk a0.fC.Ki a0.fP.Sk a0.fP.Yq a0.fP.Sl a0.fL a0.fQ a0.Afv))
def Bty:=fd Tryz.func221 ⟨[.v 32],[.v 3],true⟩ (gC (Bof K) (gC (Bon K) gN))
def Bws:Ef:=⟨[(1,.p 101),(3,.v 2),(4,.v 26),(5,.v 2)],[(101,.box [.v 2,.v 2,.v 2,.v 2,.v 2,.v 2,.v 22,.v 26,.v 26,.v 29,.v 30,.v 26])]⟩
def Bgz:=lp (Bty K) 122 Bws [] (fun n a b=>Apt K b n a) (fun n=>kN)
def Btz:=ct (Bty K) (Ayn K) (kC (Bgz K K) kN)
def Aq6 (K:Nat)(a0:Ds)(a1:Int):Option (Bool):=(bif (decide (a1≥0))then(bif (decide (a1≤a0.fC.A6))then((Ayn K a0).bind fun r1=>some (decide (r1≤(Ana .i64 a0.fC.A6 a1))))else some false)else some false)
def Bg0:=ct (fd Tryz.func185 ⟨[.v 32,.v 3],[.v 4],true⟩ (gC (Btz K) gN) [6,7,12,13,14]) (Aq6 K)
def Arv (K:Nat)(v2:Int)(C1:Int->Int->Option (Int))(v3:Int):Option (Int):=(C1 v3 (Am9 .i64 v2 1))
def Aki (K:Nat)(a0:List A8)(a1:Int):Nat->Int->Int->Option (Int)
 |0,_,_=>none
 |n1+1,v1,v2=>(bif (decide (v2<(a0.length:Int)))then(if(0:Int)≤v2∧v2<(a0.length:Int)then(bif (((gt a0 v2).Yq)==a1)then(Arv K v2 (Aki K a0 a1 n1) (Am9 .i64 v1 1))else(Arv K v2 (Aki K a0 a1 n1) v1))else none)else some v1)
def Apu (K:Nat)(a0:List A8)(a1:Int):Option (Int):=(Aki K a0 a1 K 0 0)
def Bp5:=fd Tryz.func222 ⟨[.v 29,.v 3],[.v 3],true⟩ gN [] [233]
def Bl9:Ef:=⟨[(0,.v 29),(1,.v 2),(5,.v 2),(6,.v 2)],[]⟩
def Bg1:=fun(C58:CT Bl9 _)=>jn Bp5 233 Bl9 [(58,ar Bl9 C58)] (fun a b c d=>Arv K d (C58 a b) c) kN
def Bma:=lp Bp5 58 Bl9 [] (fun n a b=>Aki K a b n) (fun n=>(kC (Bg1 K _) kN))
def Boo:=ct Bp5 (Apu K) (kC (Bma K K) kN)
def Aq7 (K:Nat)(a1:Int)(a2:Int):Nat->Int->(List Int)->(List Int)->(List Int)->Option (Bool)
 |0,_,_,_,_=>none
 |n1+1,v1,v2,v3,v4=>(bif (decide (v1<(Am9 .i64 a1 a2)))then(if(0:Int)≤v1∧v1<(v3.length:Int)then(bif ((gt v3 v1) != 0)then some false else(Aq7 K a1 a2 n1 (Am9 .i64 v1 1) v2 v3 v4))else none)else some true)
def Au4 (K:Nat)(a0:Dh)(a1:Int)(a2:Int):Option (Bool):=(bif (decide (a1<0))then some false else(bif (decide (a2<1))then some false else(bif (decide (a1>(a0.Yq.length:Int)))then some false else(bif (decide (a2>(Ana .i64 (a0.Yq.length:Int) a1)))then some false else(Aq7 K a1 a2 K a1 a0.Sk a0.Yq a0.Sl)))))
def Bt0:=fd Tryz.func225 ⟨[.v 28,.v 3,.v 3],[.v 4],true⟩ gN [9,10,12,13,14,19,20,21]
def Bwt:Ef:=⟨[(1,.v 2),(2,.v 2),(3,.p 103),(7,.v 2)],[(103,.box [.v 22,.v 26,.v 26])]⟩
def Bmb:=lp Bt0 58 Bwt [] (fun n a b=>Aq7 K a b n) (fun n=>kN)
def Bop:=ct Bt0 (Au4 K) (kC (Bmb K K) kN)
def Arh (K:Nat)(a1:Int):Nat->Int->(List Int)->(List Int)->(List Int)->Option (Int)
 |0,_,_,_,_=>none
 |n1+1,v1,v2,v3,v4=>(bif (decide (v1<(v3.length:Int)))then((Au4 K (Dh.mk v2 v3 v4) v1 a1).bind fun r5=>(bif r5 then some v1 else(Arh K a1 n1 (Am9 .i64 v1 1) v2 v3 v4)))else some (-1))
def Avj (K:Nat)(a0:Dh)(a1:Int):Option (Int):=(Arh K a1 K 0 a0.Sk a0.Yq a0.Sl)
def Bt1:=fd Tryz.func223 ⟨[.v 28,.v 3],[.v 3],true⟩ (gC (Bop K) gN)
def Bwu:Ef:=⟨[(1,.v 2),(2,.p 102),(5,.v 2)],[(102,.box [.v 22,.v 26,.v 26])]⟩
def Bmc:=lp (Bt1 K) 26 Bwu [] (fun n a=>Arh K a n) (fun n=>kN)
def Boq:=ct (Bt1 K) (Avj K) (kC (Bmc K K) kN)
def A0h (K:Nat)(a0:Av):Option (Int):=(bif (decide ((a0.F3.length:Int)>0))then some 1 else(bif (decide ((a0.A6.length:Int)>0))then some 2 else(bif (a0.Er != 0)then some 3 else some 4)))
def Bt2:=ct (fd Tryz.func233 ⟨[.v 79],[.v 3],true⟩ gN) (A0h K)
def Ax4 (K:Nat)(a0:Ds):Option (Ds):=(if(0:Int)≤0∧0<(a0.fQ.length:Int)then(if(0:Int)≤(Ana .i64 (((gt a0.fQ 0).F3).length:Int) 1)∧(Ana .i64 (((gt a0.fQ 0).F3).length:Int) 1)<(((gt a0.fQ 0).F3).length:Int)then(if(a0.Afv++([(gt ((gt a0.fQ 0).F3) (Ana .i64 (((gt a0.fQ 0).F3).length:Int) 1))]:List Int)).length*8≤140737488355328∧(a0.Afv++([(gt ((gt a0.fQ 0).F3) (Ana .i64 (((gt a0.fQ 0).F3).length:Int) 1))]:List Int)).length≤maxLen then(if(0:Int)≤0∧0≤(Ana .i64 (((gt a0.fQ 0).F3).length:Int) 1)∧(Ana .i64 (((gt a0.fQ 0).F3).length:Int) 1)≤(((gt a0.fQ 0).F3).length:Int)then(if(([]:List Int)++((((gt a0.fQ 0).F3).drop (0:Int).toNat).take ((Ana .i64 (((gt a0.fQ 0).F3).length:Int) 1) - 0).toNat)).length*8≤140737488355328∧(([]:List Int)++((((gt a0.fQ 0).F3).drop (0:Int).toNat).take ((Ana .i64 (((gt a0.fQ 0).F3).length:Int) 1) - 0).toNat)).length≤maxLen then some (Ds.mk a0.fC a0.fP a0.fL (a0.fQ.set (0:Int).toNat (Av.mk ((gt a0.fQ 0).Be) ((gt a0.fQ 0).Er) (([]:List Int)++((((gt a0.fQ 0).F3).drop (0:Int).toNat).take ((Ana .i64 (((gt a0.fQ 0).F3).length:Int) 1) - 0).toNat)) ((gt a0.fQ 0).A6) ((gt a0.fQ 0).Wo))) (a0.Afv++([(gt ((gt a0.fQ 0).F3) (Ana .i64 (((gt a0.fQ 0).F3).length:Int) 1))]:List Int)))else none)else none)else none)else none)else none)
def Bt3:=ct (fd Tryz.func234 ⟨[.b 32 false],[],false⟩ gN [] [] [(0,[.take 1 10 5026]),(2,[.take 1 11 5027])]) (Ax4 K)
def Aqa (K:Nat)(a0:Dh):Option (Dh):=(if(([]:List Int)++a0.Sk).length*1≤140737488355328∧(([]:List Int)++a0.Sk).length≤maxLen then(if(([]:List Int)++a0.Yq).length*8≤140737488355328∧(([]:List Int)++a0.Yq).length≤maxLen then(if(([]:List Int)++a0.Sl).length*8≤140737488355328∧(([]:List Int)++a0.Sl).length≤maxLen then some (Dh.mk (([]:List Int)++a0.Sk) (([]:List Int)++a0.Yq) (([]:List Int)++a0.Sl))else none)else none)else none)
def Bdg:=ct (fd Tryz.func224 ⟨[.v 28],[.n 28 true],true⟩ gN) (Aqa K)
def Aq8 (K:Nat)(a0:List Int):Nat->Int->Option (Bool)
 |0,_=>none
 |n1+1,v1=>(bif (decide (v1<(a0.length:Int)))then(if(0:Int)≤v1∧v1<(a0.length:Int)then(bif ((gt a0 v1) != 0)then some false else(Aq8 K a0 n1 (Am9 .i64 v1 1)))else none)else some true)
def Art (K:Nat)(a0:List Int):Option (Bool):=(Aq8 K a0 K 0)
def Bt4:=fd Tryz.func272 ⟨[.v 22],[.v 4],true⟩ gN
def Bwv:Ef:=⟨[(0,.v 22),(3,.v 2)],[]⟩
def Bmd:=lp Bt4 26 Bwv [] (fun n a=>Aq8 K a n) (fun n=>kN)
def Bdh:=ct Bt4 (Art K) (kC (Bmd K K) kN)
def Avk (K:Nat)(v3:Int)(v4:List Int)(v5:List Int)(v6:List Int)(C1:Int->(List Int)->(List Int)->(List Int)->Option (Bool)):Option (Bool):=(C1 (Am9 .i64 v3 1) v4 v5 v6)
def Aq9 (K:Nat)(a0:D4)(v3:Int)(v4:List Int)(v5:List Int)(v6:List Int)(C1:Int->(List Int)->(List Int)->(List Int)->Option (Bool)):Option (Bool):=(if(0:Int)≤v3∧v3<(v5.length:Int)then(bif ((gt v5 v3)==0)then(if(0:Int)≤(Anb .i64 v3 a0.Kh)∧(Anb .i64 v3 a0.Kh)≤(Anb .i64 (Am9 .i64 v3 1) a0.Kh)∧(Anb .i64 (Am9 .i64 v3 1) a0.Kh)≤(v4.length:Int)then((Art K ((v4.drop (Anb .i64 v3 a0.Kh).toNat).take ((Anb .i64 (Am9 .i64 v3 1) a0.Kh) - (Anb .i64 v3 a0.Kh)).toNat)).bind fun r9=>(bif (!r9)then some false else(Avk K v3 v4 v5 v6 (C1))))else none)else(Avk K v3 v4 v5 v6 (C1)))else none)
def Amk (K:Nat)(a0:D4):Nat->Int->(List Int)->(List Int)->(List Int)->Option (Bool)
 |0,_,_,_,_=>none
 |n1+1,v3,v4,v5,v6=>(bif (decide (v3<a0.A6))then(if(0:Int)≤v3∧v3<(v5.length:Int)then((K0 K (gt v5 v3) 0 2).bind fun r7=>(bif (!r7)then some false else(if(0:Int)≤v3∧v3<(v5.length:Int)then(bif ((gt v5 v3)==1)then(if(0:Int)≤v3∧v3<(v6.length:Int)then((K0 K (gt v6 v3) 0 (Ana .i64 a0.Fj 1)).bind fun r8=>(bif r8 then(if(0:Int)≤v3∧v3<(v5.length:Int)then(bif ((gt v5 v3) != 1)then(if(0:Int)≤v3∧v3<(v6.length:Int)then(bif ((gt v6 v3) != (-1))then some false else(Aq9 K a0 v3 v4 v5 v6 (Amk K a0 n1)))else none)else(Aq9 K a0 v3 v4 v5 v6 (Amk K a0 n1)))else none)else some false))else none)else(if(0:Int)≤v3∧v3<(v5.length:Int)then(bif ((gt v5 v3) != 1)then(if(0:Int)≤v3∧v3<(v6.length:Int)then(bif ((gt v6 v3) != (-1))then some false else(Aq9 K a0 v3 v4 v5 v6 (Amk K a0 n1)))else none)else(Aq9 K a0 v3 v4 v5 v6 (Amk K a0 n1)))else none))else none)))else none)else some true)
def Au5 (K:Nat)(a0:D4)(a1:Dh):Option (Bool):=((Am2 K a0).bind fun r1=>(bif r1 then((Aqp K a0).bind fun r2=>(bif ((a1.Sk.length:Int) != r2)then some false else(bif ((a1.Yq.length:Int) != a0.A6)then some false else(bif ((a1.Sl.length:Int) != a0.A6)then some false else(Amk K a0 K 0 a1.Sk a1.Yq a1.Sl)))))else some false))
def Bme:=fd Tryz.func254 ⟨[.v 25,.v 28],[.v 4],true⟩ (gC (A0g K) (gC (A93 K) (gC (Blz K) (gC (Bdh K) gN)))) [7,8,9,15,16,17,23,24,25,51,52,61,62,63,64,70,71,85,86] [233,1865]
def Bbz:Ef:=⟨[(2,.p 102),(3,.p 103),(5,.v 2)],[(103,.box [.v 22,.v 26,.v 26]),(102,.st 25 true)]⟩
def Bg2:=fun(C58:CT Bbz _)=>jn (Bme K) 233 Bbz [(58,ar Bbz C58)] (fun a b c d e=>Avk K a b c d (fun v3 v4 v5 v6=>C58 v3 v4 v5 v6 e)) kN
def Bel:=fun(C58:CT Bbz _)=>jn (Bme K) 1865 Bbz [(58,ar Bbz C58)] (fun a b c d e=>Aq9 K e a b c d (fun v3 v4 v5 v6=>C58 v3 v4 v5 v6 e)) (kC (Bg2 K _) kN)
def Bmf:=lp (Bme K) 58 Bbz [] (fun n a b c d e=>Amk K e n a b c d) (fun n=>(kC (Bel K _) kN))
def Bor:=ct (Bme K) (Au5 K) (kC (Bmf K K) kN)
def Ayw (K:Nat)(a0:Int)(a1:Int):Option (Int):=(bif (decide (a1<a0))then some a1 else some a0)
def Bt5:=ct (fd Tryz.func270 ⟨[.v 3,.v 3],[.v 3],true⟩ gN) (Ayw K)
def Au6 (K:Nat)(a0:List Int)(a1:Int)(a2:Int):Nat->(List Int)->Int->Option ((List Int))
 |0,_,_=>none
 |n1+1,v1,v2=>(bif (decide (v2<(a0.length:Int)))then(bif (decide ((Ana .i64 v2 a1)<a2))then(if(0:Int)≤v2∧v2<(v1.length:Int)then(Au6 K a0 a1 a2 n1 (v1.set v2.toNat 0) (Am9 .i64 v2 1))else none)else some v1)else some v1)
def Az2 (K:Nat)(a0:List Int)(a1:Int)(a2:Int):Option ((List Int)):=(if(([]:List Int)++a0).length*1≤140737488355328∧(([]:List Int)++a0).length≤maxLen then(bif (decide (a1<0))then some (([]:List Int)++a0)else(bif (decide (a2<0))then some (([]:List Int)++a0)else(Au6 K a0 a1 a2 K (([]:List Int)++a0) a1)))else none)
def Bt6:=fd Tryz.func271 ⟨[.v 22,.v 3,.v 3],[.n 22 true],true⟩ gN [13,14,23,24]
def Bww:Ef:=⟨[(0,.v 22),(1,.v 2),(2,.v 2),(7,.o 1007 5 true),(8,.v 2)],[]⟩
def Bg3:=lp Bt6 122 Bww [] (fun n a b c=>Au6 K a b c n) (fun n=>kN)
def Bt7:=ct Bt6 (Az2 K) (kC (Bg3 K K) kN)
def Avl (K:Nat)(a0:D4)(a1:Dh)(a2:Int)(a3:Int):Option (Dh×Bool):=((Aqa K a1).bind fun r1=>((Au5 K a0 a1).bind fun r2=>(bif r2 then((K0 K a2 0 (Ana .i64 a0.A6 1)).bind fun r3=>(bif r3 then(if(0:Int)≤a2∧a2<(a1.Yq.length:Int)then(bif ((gt a1.Yq a2) != 2)then some (r1,false)else((K0 K a3 0 (Ana .i64 a0.Kh 1)).bind fun r4=>(bif (!r4)then some (r1,false)else((Ayw K (Am9 .i64 a3 a0.Fk) a0.Kh).bind fun r5=>((Az2 K a1.Sk (Am9 .i64 (Anb .i64 a2 a0.Kh) a3) (Ana .i64 r5 a3)).bind fun r6=>(bif (decide (r5<a0.Kh))then some ((Dh.mk r6 r1.Yq r1.Sl),false)else(if(0:Int)≤(Anb .i64 a2 a0.Kh)∧(Anb .i64 a2 a0.Kh)≤(Anb .i64 (Am9 .i64 a2 1) a0.Kh)∧(Anb .i64 (Am9 .i64 a2 1) a0.Kh)≤(r6.length:Int)then((Art K ((r6.drop (Anb .i64 a2 a0.Kh).toNat).take ((Anb .i64 (Am9 .i64 a2 1) a0.Kh) - (Anb .i64 a2 a0.Kh)).toNat)).bind fun r7=>(bif (!r7)then((Aqa K a1).bind fun r8=>some (r8,false))else(if(0:Int)≤a2∧a2<(r1.Yq.length:Int)then some ((Dh.mk r6 (r1.Yq.set a2.toNat 0) r1.Sl),true)else none)))else none)))))))else none)else some (r1,false)))else some (r1,false))))
def Bt8:=ct (fd Tryz.func253 ⟨[.v 25,.v 28,.v 3,.v 3],[.n 28 true,.v 4],true⟩ (gC (A0g K) (gC (Bdg K) (gC (Bor K) (gC (Bt5 K) (gC (Bt7 K) (gC (Bdh K) gN)))))) [16,17,18,23,24,25,26,32,33,34]) (Avl K)
def Awv (K:Nat)(a0:Ds):Option (Ds):=(if(0:Int)≤0∧0<(a0.fQ.length:Int)then(if(0:Int)≤0∧0<(((gt a0.fQ 0).A6).length:Int)then((Avl K a0.fC a0.fP (gt ((gt a0.fQ 0).A6) 0) ((gt a0.fQ 0).Wo)).bind fun r1=>(bif r1.2 then(if(0:Int)≤1∧1≤(((gt a0.fQ 0).A6).length:Int)∧(((gt a0.fQ 0).A6).length:Int)≤(((gt a0.fQ 0).A6).length:Int)then(if(([]:List Int)++((((gt a0.fQ 0).A6).drop (1:Int).toNat).take ((((gt a0.fQ 0).A6).length:Int) - 1).toNat)).length*8≤140737488355328∧(([]:List Int)++((((gt a0.fQ 0).A6).drop (1:Int).toNat).take ((((gt a0.fQ 0).A6).length:Int) - 1).toNat)).length≤maxLen then some (Ds.mk a0.fC r1.1 a0.fL (a0.fQ.set (0:Int).toNat (Av.mk ((gt a0.fQ 0).Be) ((gt a0.fQ 0).Er) ((gt a0.fQ 0).F3) (([]:List Int)++((((gt a0.fQ 0).A6).drop (1:Int).toNat).take ((((gt a0.fQ 0).A6).length:Int) - 1).toNat)) 0)) a0.Afv)else none)else none)else some (Ds.mk a0.fC r1.1 a0.fL (a0.fQ.set (0:Int).toNat (Av.mk ((gt a0.fQ 0).Be) ((gt a0.fQ 0).Er) ((gt a0.fQ 0).F3) ((gt a0.fQ 0).A6) (Am9 .i64 ((gt a0.fQ 0).Wo) a0.fC.Fk))) a0.Afv)))else none)else none)
def Bt9:=ct (fd Tryz.func235 ⟨[.b 32 false],[],false⟩ (gC (Bt8 K) gN) [] [] [(0,[.take 1 10 5026]),(1,[.take 1 6 5022,.take 1 7 5023,.take 1 8 5024])]) (Awv K)
def Am3 (K:Nat)(a0:A8):Option (A8):=(if(([]:List Int)++a0.A6).length*8≤140737488355328∧(([]:List Int)++a0.A6).length≤maxLen then(if(([]:List A7)++a0.H7).length*24≤140737488355328∧(([]:List A7)++a0.H7).length≤maxLen then(if(([]:List Int)++a0.F3).length*8≤140737488355328∧(([]:List Int)++a0.F3).length≤maxLen then some (A8.mk a0.Yq a0.C6 a0.Sy a0.fUp a0.Wk a0.Er a0.Wl a0.Wm (([]:List Int)++a0.A6) a0.Afu a0.Wn (([]:List A7)++a0.H7) (([]:List Int)++a0.F3))else none)else none)else none)
def A7q:=ct (fd Tryz.func226 ⟨[.v 71],[.n 71 true],true⟩ gN) (Am3 K)
def Ar8 (K:Nat)(v3:Dh)(v4:Dh):Option (Dh):=some v3
def Ayx (K:Nat)(a0:Dh)(a1:Int):Option (Dh):=((Aqa K a0).bind fun r1=>((K0 K a1 0 (Ana .i64 (a0.Yq.length:Int) 1)).bind fun r2=>(bif r2 then(bif (decide (a1<(a0.Sl.length:Int)))then(if(0:Int)≤a1∧a1<(a0.Yq.length:Int)then(bif ((gt a0.Yq a1)==1)then(if(0:Int)≤a1∧a1<(r1.Yq.length:Int)then(if(0:Int)≤a1∧a1<(r1.Sl.length:Int)then(Ar8 K (Dh.mk r1.Sk (r1.Yq.set a1.toNat 2) (r1.Sl.set a1.toNat (-1))) (Dh.mk [] [] []))else none)else none)else(Ar8 K r1 (Dh.mk [] [] [])))else none)else(Ar8 K r1 (Dh.mk [] [] [])))else(Ar8 K r1 (Dh.mk [] [] [])))))
def Bua:=fd Tryz.func238 ⟨[.v 28,.v 3],[.n 28 true],true⟩ (gC (A0g K) (gC (Bdg K) gN)) [13,14,19,20,21] [7] [(5,[.take 105 0 6680,.take 105 1 6681,.take 105 2 6682])]
def Bub:Ef:=⟨[(4,.p 104),(5,.p 105)],[(105,.st 28 true),(104,.st 28 true)]⟩
def Bp6:=jn (Bua K) 7 Bub [] (Ar8 K) kN
def Buc:=ct (Bua K) (Ayx K) (kC (Bp6 K) kN)
def Akd (K:Nat)(a1:List Int):Nat->Int->Int->Int->Int->Int->Int->Int->(List Int)->(List Int)->(List Int)->(List A8)->(List Av)->(List Int)->Option (Ds)
 |0,_,_,_,_,_,_,_,_,_,_,_,_,_=>none
 |n1+1,v1,v2,v3,v4,v5,v6,v7,v8,v9,v10,v11,v12,v13=>(bif (decide (v1<(a1.length:Int)))then(if(0:Int)≤v1∧v1<(a1.length:Int)then((Ayx K (Dh.mk v8 v9 v10) (gt a1 v1)).bind fun r14=>(Akd K a1 n1 (Am9 .i64 v1 1) v2 v3 v4 v5 v6 v7 r14.Sk r14.Yq r14.Sl v11 v12 v13))else none)else some (Ds.mk (D4.mk v2 v3 v4 v5 v6 v7) (Dh.mk v8 v9 v10) v11 v12 v13))
def Aqb (K:Nat)(a0:Ds)(a1:List Int):Option (Ds):=(Akd K a1 K 0 a0.fC.A6 a0.fC.Kh a0.fC.Fj a0.fC.Hb a0.fC.Fk a0.fC.Ki a0.fP.Sk a0.fP.Yq a0.fP.Sl a0.fL a0.fQ a0.Afv)
def Bud:=fd Tryz.func200 ⟨[.b 32 false,.v 26],[],false⟩ (gC (Buc K) gN) [] [] [(3,[.take 1 6 5022,.take 1 7 5023,.take 1 8 5024])]
def Bwx:Ef:=⟨[(0,.p 1),(1,.v 26),(4,.v 2)],[(1,.box [.v 2,.v 2,.v 2,.v 2,.v 2,.v 2,.T 5 true,.T 3 true,.T 3 true,.T 71 false,.T 79 false,.T 3 true])]⟩
def Bp7:=lp (Bud K) 6 Bwx [] (fun n a=>Akd K a n) (fun n=>kN)
def Bg4:=ct (Bud K) (Aqb K) (kC (Bp7 K K) kN)
def Ayi (K:Nat)(a0:A8):Option (A8):=some (A8.mk 2 a0.C6 0 0 0 0 0 0 [] 0 0 [] [])
def Bos:=ct (fd Tryz.func203 ⟨[.v 71],[.n 71 true],true⟩ gN) (Ayi K)
def At4 (K:Nat)(a0:A8)(a1:Int):Option (Av):=(if(([]:List Int)++a0.F3).length*8≤140737488355328∧(([]:List Int)++a0.F3).length≤maxLen then(if(([]:List Int)++a0.A6).length*8≤140737488355328∧(([]:List Int)++a0.A6).length≤maxLen then some (Av.mk a1 a0.Er (([]:List Int)++a0.F3) (([]:List Int)++a0.A6) 0)else none)else none)
def Bou:=ct (fd Tryz.func199 ⟨[.v 71,.v 3],[.n 79 true],true⟩ gN) (At4 K)
def Ayo (K:Nat)(a0:A8)(a1:Int):Option (Av):=(if(([]:List Int)++a0.F3).length*8≤140737488355328∧(([]:List Int)++a0.F3).length≤maxLen then(if(([]:List Int)++a0.A6).length*8≤140737488355328∧(([]:List Int)++a0.A6).length≤maxLen then some (Av.mk a1 a0.Er (([]:List Int)++a0.F3) (([]:List Int)++a0.A6) 0)else none)else none)
def Bue:=ct (fd Tryz.func199 ⟨[.v 71,.v 3],[.v 79],false⟩ gN) (Ayo K)
def Ar9 (K:Nat)(r1:A8)(v4:Int)(v5:Int)(v6:Int)(v7:Int)(v8:Int)(v9:Int)(v10:Int)(v11:List Int)(v12:List Int)(v13:List Int)(v14:List A8)(v15:List Av)(v16:List Int):Option (Ds):=((Aqb K (Ds.mk (D4.mk v5 v6 v7 v8 v9 v10) (Dh.mk v11 v12 v13) v14 v15 v16) r1.A6).bind fun r17=>((Ayi K r1).bind fun r18=>(if(0:Int)≤v4∧v4<(r17.fL.length:Int)then((Ayo K r1 (Am9 .i64 v4 1)).bind fun r19=>(if(([r19]:List Av)++r17.fQ).length*72≤140737488355328∧(([r19]:List Av)++r17.fQ).length≤maxLen then some (Ds.mk r17.fC r17.fP (r17.fL.set v4.toNat r18) (([r19]:List Av)++r17.fQ) r17.Afv)else none))else none)))
def Aww (K:Nat)(a0:Ds):Option (Ds):=(if(0:Int)≤0∧0<(a0.fQ.length:Int)then(if(0:Int)≤(Ana .i64 ((gt a0.fQ 0).Er) 1)∧(Ana .i64 ((gt a0.fQ 0).Er) 1)<(a0.fL.length:Int)then((Am3 K (gt a0.fL (Ana .i64 ((gt a0.fQ 0).Er) 1))).bind fun r1=>(if(0:Int)≤0∧0<(a0.fQ.length:Int)then((Agg K a0.fL r1.Wl).bind fun r2=>(bif r2 then(if(0:Int)≤(Ana .i64 r1.Wl 1)∧(Ana .i64 r1.Wl 1)<(a0.fL.length:Int)then(Apm (a0.fL.set (Ana .i64 r1.Wl 1).toNat (A8.mk ((gt a0.fL (Ana .i64 r1.Wl 1)).Yq) ((gt a0.fL (Ana .i64 r1.Wl 1)).C6) ((gt a0.fL (Ana .i64 r1.Wl 1)).Sy) ((gt a0.fL (Ana .i64 r1.Wl 1)).fUp) ((gt a0.fL (Ana .i64 r1.Wl 1)).Wk) ((gt a0.fL (Ana .i64 r1.Wl 1)).Er) ((gt a0.fL (Ana .i64 r1.Wl 1)).Wl) 0 ((gt a0.fL (Ana .i64 r1.Wl 1)).A6) ((gt a0.fL (Ana .i64 r1.Wl 1)).Afu) ((gt a0.fL (Ana .i64 r1.Wl 1)).Wn) ((gt a0.fL (Ana .i64 r1.Wl 1)).H7) ((gt a0.fL (Ana .i64 r1.Wl 1)).F3))) fun v3=>(Ar9 K r1 (Ana .i64 ((gt a0.fQ 0).Er) 1) a0.fC.A6 a0.fC.Kh a0.fC.Fj a0.fC.Hb a0.fC.Fk a0.fC.Ki a0.fP.Sk a0.fP.Yq a0.fP.Sl v3 (a0.fQ.set (0:Int).toNat (Av.mk ((gt a0.fQ 0).Be) r1.Wl ((gt a0.fQ 0).F3) ((gt a0.fQ 0).A6) ((gt a0.fQ 0).Wo))) a0.Afv))else none)else(Ar9 K r1 (Ana .i64 ((gt a0.fQ 0).Er) 1) a0.fC.A6 a0.fC.Kh a0.fC.Fj a0.fC.Hb a0.fC.Fk a0.fC.Ki a0.fP.Sk a0.fP.Yq a0.fP.Sl a0.fL (a0.fQ.set (0:Int).toNat (Av.mk ((gt a0.fQ 0).Be) r1.Wl ((gt a0.fQ 0).F3) ((gt a0.fQ 0).A6) ((gt a0.fQ 0).Wo))) a0.Afv)))else none))else none)else none)
def Buf:=fo Tryz.func236 ⟨[.b 32 false],[],false⟩ (gC (A40 K) (gC (Bg4 K) (gC (Bos K) (gC (A7q K) gN)))) (oC (d:=60) (gC (Bue K) gN) oN) [] [15] [(0,[.take 1 10 5026]),(1,[.take 1 9 5025]),(5,[.take 103 8 6656,.frz 6656]),(6,[.take 1 9 5025,.take 103 11 6659,.take 103 12 6660]),(7,[.take 1 10 5026,.frz 6659,.frz 6660])]
def Bwy:Ef:=⟨[(0,.p 1),(2,.v 2),(3,.p 103)],[(1,.box [.v 2,.v 2,.v 2,.v 2,.v 2,.v 2,.T 5 true,.T 3 true,.T 3 true,.T 71 false,.T 79 false,.T 3 true]),(103,.st 71 true)]⟩
def Bmg:=jn (Buf K) 15 Bwy [] (fun a b c d e f g h i j k l m o=>Ar9 K o a b c d e f g h i j k l m) kN
def Bug:=ct (Buf K) (Aww K) (kC (Bmg K) kN)
def Aqr (K:Nat)(a0:List A8):Nat->(List A8)->Int->Option ((List A8))
 |0,_,_=>none
 |n1+1,v1,v2=>(bif (decide (v2<(a0.length:Int)))then(if(0:Int)≤v2∧v2<(a0.length:Int)then((Am3 K (gt a0 v2)).bind fun r3=>(if(v1++[r3]).length*152≤140737488355328∧(v1++[r3]).length≤maxLen then(Aqr K a0 n1 (v1++[r3]) (Am9 .i64 v2 1))else none))else none)else some v1)
def As3 (K:Nat)(a0:List A8):Option ((List A8)):=(Aqr K a0 K ([]:List A8) 0)
def Buh:=fd Tryz.func228 ⟨[.v 29],[.n 29 true],true⟩ (gC (A7q K) gN) (post:=[(20,[.put 3020])])
def Bwz:Ef:=⟨[(0,.v 29),(3,.o 1003 71 true),(4,.v 2)],[]⟩
def Bmh:=lp (Buh K) 58 Bwz [] (fun n a=>Aqr K a n) (fun n=>kN)
def Bdi:=ct (Buh K) (As3 K) (kC (Bmh K K) kN)
def Awx (K:Nat)(v3:List A8):Option ((List A8)):=some v3
def Ayy (K:Nat)(a0:List A8)(a1:Int)(a2:Int):Option ((List A8)):=((As3 K a0).bind fun r1=>((K0 K a1 0 (Ana .i64 (a0.length:Int) 1)).bind fun r2=>(bif (!r2)then some r1 else(if(0:Int)≤a1∧a1<(a0.length:Int)then(bif (decide (((gt a0 a1).C6)≥a2))then(if(0:Int)≤a1∧a1<(a0.length:Int)then(if(0:Int)≤a1∧a1<(r1.length:Int)then(Awx K (r1.set a1.toNat (A8.mk 3 ((gt a0 a1).C6) 0 0 0 0 0 0 [] 0 0 [] [])))else none)else none)else(if(0:Int)≤a1∧a1<(a0.length:Int)then((Aqq K (Am9 .i64 ((gt a0 a1).C6) 1)).bind fun r4=>(if(0:Int)≤a1∧a1<(r1.length:Int)then(Awx K (r1.set a1.toNat r4))else none))else none))else none))))
def Bui:=fd Tryz.func237 ⟨[.v 29,.v 3,.v 3],[.n 29 true],true⟩ (gC (A0g K) (gC (Bgq K) (gC (Bdi K) gN))) [] [15]
def Buj:Ef:=⟨[(7,.o 1007 71 true)],[]⟩
def Bmi:=jn (Bui K) 15 Buj [] (Awx K) kN
def Buk:=ct (Bui K) (Ayy K) (kC (Bmi K) kN)
def At5 (K:Nat)(a0:Ds):Option (Ds):=(if(0:Int)≤0∧0<(a0.fQ.length:Int)then((A0h K (gt a0.fQ 0)).bind fun r1=>(bif (r1==1)then((Ax4 K a0).bind fun r2=>some r2)else(bif (r1==2)then((Awv K a0).bind fun r3=>some r3)else(bif (r1==3)then((Aww K a0).bind fun r4=>some r4)else(if(0:Int)≤0∧0<(a0.fQ.length:Int)then(bif (((gt a0.fQ 0).Be) != 0)then(if(0:Int)≤0∧0<(a0.fQ.length:Int)then((Ayy K a0.fL (Ana .i64 ((gt a0.fQ 0).Be) 1) a0.fC.Ki).bind fun r5=>(if(0:Int)≤1∧1≤(a0.fQ.length:Int)∧(a0.fQ.length:Int)≤(a0.fQ.length:Int)then(if(([]:List Av)++((a0.fQ.drop (1:Int).toNat).take ((a0.fQ.length:Int) - 1).toNat)).length*72≤140737488355328∧(([]:List Av)++((a0.fQ.drop (1:Int).toNat).take ((a0.fQ.length:Int) - 1).toNat)).length≤maxLen then some (Ds.mk a0.fC a0.fP r5 (([]:List Av)++((a0.fQ.drop (1:Int).toNat).take ((a0.fQ.length:Int) - 1).toNat)) a0.Afv)else none)else none))else none)else(if(0:Int)≤1∧1≤(a0.fQ.length:Int)∧(a0.fQ.length:Int)≤(a0.fQ.length:Int)then(if(([]:List Av)++((a0.fQ.drop (1:Int).toNat).take ((a0.fQ.length:Int) - 1).toNat)).length*72≤140737488355328∧(([]:List Av)++((a0.fQ.drop (1:Int).toNat).take ((a0.fQ.length:Int) - 1).toNat)).length≤maxLen then some (Ds.mk a0.fC a0.fP a0.fL (([]:List Av)++((a0.fQ.drop (1:Int).toNat).take ((a0.fQ.length:Int) - 1).toNat)) a0.Afv)else none)else none))else none)))))else none)
def Bov:=ct (fd Tryz.func196 ⟨[.b 32 false],[],false⟩ (gC (Bt2 K) (gC (Bt3 K) (gC (Bt9 K) (gC (Bug K) (gC (Buk K) gN))))) [] [] [(0,[.take 1 10 5026]),(2,[.take 1 9 5025]),(5,[.put 1]),(7,[.put 1]),(9,[.put 1])] [(39,[.shal 3039])]) (At5 K)
def Ata (K:Nat)(v1:Int)(v2:Int)(v3:Int)(v4:Int)(v5:Int)(v6:Int)(v7:Int)(v8:List Int)(v9:List Int)(v10:List Int)(v11:List A8)(v12:List Av)(v13:List Int)(C1:Int->Int->Int->Int->Int->Int->Int->(List Int)->(List Int)->(List Int)->(List A8)->(List Av)->(List Int)->Option (Int×Ds)):Option (Int×Ds):=((At5 K (Ds.mk (D4.mk v2 v3 v4 v5 v6 v7) (Dh.mk v8 v9 v10) v11 v12 v13)).bind fun r15=>(C1 (Am9 .i64 v1 1) r15.fC.A6 r15.fC.Kh r15.fC.Fj r15.fC.Hb r15.fC.Fk r15.fC.Ki r15.fP.Sk r15.fP.Yq r15.fP.Sl r15.fL r15.fQ r15.Afv))
def Apx (K:Nat)(a1:Int)(a2:Int):Nat->Int->Int->Int->Int->Int->Int->Int->(List Int)->(List Int)->(List Int)->(List A8)->(List Av)->(List Int)->Option (Int×Ds)
 |0,_,_,_,_,_,_,_,_,_,_,_,_,_=>none
 |n1+1,v1,v2,v3,v4,v5,v6,v7,v8,v9,v10,v11,v12,v13=>(bif (decide ((v12.length:Int)>0))then((Apu K v11 0).bind fun r14=>(bif (decide (r14<a1))then(Ata K v1 v2 v3 v4 v5 v6 v7 v8 v9 v10 v11 v12 v13 (Apx K a1 a2 n1))else(bif (decide (a2>0))then((Avj K (Dh.mk v8 v9 v10) a2).bind fun r16=>(bif (decide (r16<0))then(Ata K v1 v2 v3 v4 v5 v6 v7 v8 v9 v10 v11 v12 v13 (Apx K a1 a2 n1))else some (v1,(Ds.mk (D4.mk v2 v3 v4 v5 v6 v7) (Dh.mk v8 v9 v10) v11 v12 v13))))else some (v1,(Ds.mk (D4.mk v2 v3 v4 v5 v6 v7) (Dh.mk v8 v9 v10) v11 v12 v13)))))else some (v1,(Ds.mk (D4.mk v2 v3 v4 v5 v6 v7) (Dh.mk v8 v9 v10) v11 v12 v13)))
def Au7 (K:Nat)(a0:Ds)(a1:Int)(a2:Int):Option (Int×Ds):=(Apx K a1 a2 K 0 a0.fC.A6 a0.fC.Kh a0.fC.Fj a0.fC.Hb a0.fC.Fk a0.fC.Ki a0.fP.Sk a0.fP.Yq a0.fP.Sl a0.fL a0.fQ a0.Afv)
def Bp8:=fd Tryz.func186 ⟨[.b 32 false,.v 3,.v 3],[.v 3],false⟩ (gC (Bov K) (gC (Boo K) (gC (Boq K) gN))) [13,14,21,22,24,25] [56] [(2,[.take 1 10 5026,.take 1 9 5025,.take 1 6 5022,.take 1 7 5023,.take 1 8 5024])]
def Bmj:Ef:=⟨[(0,.p 1),(1,.v 2),(2,.v 2),(7,.v 2)],[(1,.box [.v 2,.v 2,.v 2,.v 2,.v 2,.v 2,.T 5 true,.T 3 true,.T 3 true,.T 71 false,.T 79 false,.T 3 true])]⟩
def Bmk:=fun(C28:CT Bmj _)=>jn (Bp8 K) 56 Bmj [(28,ar Bmj C28)] (fun a b c d e f g h i j k l m o p=>Ata K c d e f g h i j k l m o p (C28 a b)) kN
def Bml:=lp (Bp8 K) 28 Bmj [] (fun n a b=>Apx K a b n) (fun n=>(kC (Bmk K _) kN))
def Bg5:=ct (Bp8 K) (Au7 K) (kC (Bml K K) kN)
def Aqs (K:Nat)(a0:List A8):Nat->Int->Option (Int)
 |0,_=>none
 |n1+1,v1=>(bif (decide (v1<(a0.length:Int)))then(if(0:Int)≤v1∧v1<(a0.length:Int)then(bif (((gt a0 v1).Yq)==0)then some v1 else(Aqs K a0 n1 (Am9 .i64 v1 1)))else none)else some (-1))
def Axw (K:Nat)(a0:List A8):Option (Int):=(Aqs K a0 K 0)
def Bul:=fd Tryz.func187 ⟨[.v 29],[.v 3],true⟩ gN
def Bg6:Ef:=⟨[(0,.v 29),(3,.v 2)],[]⟩
def Bmm:=lp Bul 26 Bg6 [] (fun n a=>Aqs K a n) (fun n=>kN)
def Bum:=ct Bul (Axw K) (kC (Bmm K K) kN)
def Aqt (K:Nat):Nat->Int->(List Int)->(List Int)->(List Int)->Option (Int)
 |0,_,_,_,_=>none
 |n1+1,v1,v2,v3,v4=>(bif (decide (v1<(v3.length:Int)))then(if(0:Int)≤v1∧v1<(v3.length:Int)then(bif ((gt v3 v1)==0)then some v1 else(Aqt K n1 (Am9 .i64 v1 1) v2 v3 v4))else none)else some (-1))
def Aup (K:Nat)(a0:Dh):Option (Int):=(Aqt K K 0 a0.Sk a0.Yq a0.Sl)
def Bun:=fd Tryz.func188 ⟨[.v 28],[.v 3],true⟩ gN
def Bw0:Ef:=⟨[(1,.p 101),(3,.v 2)],[(101,.box [.v 22,.v 26,.v 26])]⟩
def Bmn:=lp Bun 26 Bw0 [] (Aqt K) (fun n=>kN)
def Bow:=ct Bun (Aup K) (kC (Bmn K K) kN)
def Asa (K:Nat)(a1:Int)(a2:Int)(a3:Int):Nat->Int->Dh->Dh->Option (Dh)
 |0,_,_,_=>none
 |n1+1,v3,v4,v5=>(bif (decide (v3<(Am9 .i64 a1 a2)))then(if(0:Int)≤v3∧v3<(v4.Yq.length:Int)then(if(0:Int)≤v3∧v3<(v4.Sl.length:Int)then(Asa K a1 a2 a3 n1 (Am9 .i64 v3 1) (Dh.mk v4.Sk (v4.Yq.set v3.toNat 1) (v4.Sl.set v3.toNat a3)) v5)else none)else none)else some v4)
def Aqu (K:Nat)(a0:Dh)(a1:Int)(a2:Int)(a3:Int):Option (Dh):=((Aqa K a0).bind fun r1=>((Au4 K a0 a1 a2).bind fun r2=>(bif r2 then(bif ((a0.Sl.length:Int) != (a0.Yq.length:Int))then some r1 else(Asa K a1 a2 a3 K a1 r1 (Dh.mk [] [] [])))else some r1)))
def Buo:=fd Tryz.func189 ⟨[.v 28,.v 3,.v 3,.v 3],[.n 28 true],true⟩ (gC (Bdg K) (gC (Bop K) gN)) [16,17,18] [] [(7,[.take 109 1 6745]),(8,[.take 109 2 6746]),(9,[.take 109 0 6744,.take 109 1 6745,.take 109 2 6746])]
def Bw1:Ef:=⟨[(1,.v 2),(2,.v 2),(3,.v 2),(8,.p 108),(9,.p 109),(10,.v 2)],[(109,.st 28 true),(108,.st 28 true)]⟩
def Bg7:=lp (Buo K) 122 Bw1 [] (fun n a b c=>Asa K a b c n) (fun n=>kN)
def Bg8:=ct (Buo K) (Aqu K) (kC (Bg7 K K) kN)
def Az3 (K:Nat)(a0:A8):Option (Bool):=(bif (a0.Sy==0)then(bif (a0.fUp==0)then(bif (a0.Wk==0)then(bif (a0.Er==0)then(bif (a0.Wl==0)then(bif (a0.Wm==0)then(bif ((a0.A6.length:Int)==0)then(bif (a0.Afu==0)then(bif (a0.Wn==0)then(bif ((a0.H7.length:Int)==0)then some ((a0.F3.length:Int)==0)else some false)else some false)else some false)else some false)else some false)else some false)else some false)else some false)else some false)else some false)
def Bup:=ct (fd Tryz.func248 ⟨[.v 71],[.v 4],true⟩ gN [5,6,9,10,11,14,15,16,19,20,21,24,25,26,29,30,31,35,36,37,40,41,42,45,46,47,51,52,53]) (Az3 K)
def At6 (K:Nat)(a0:List Int)(a1:Int):Nat->Int->Option (Bool)
 |0,_=>none
 |n1+1,v1=>(bif (decide (v1<(a0.length:Int)))then(if(0:Int)≤v1∧v1<(a0.length:Int)then(bif ((gt a0 v1)==a1)then some true else(At6 K a0 a1 n1 (Am9 .i64 v1 1)))else none)else some false)
def Apk (K:Nat)(a0:List Int)(a1:Int):Option (Bool):=(At6 K a0 a1 K 0)
def Buq:=fd Tryz.func268 ⟨[.v 26,.v 3],[.v 4],true⟩ gN
def Bw2:Ef:=⟨[(0,.v 26),(1,.v 2),(5,.v 2)],[]⟩
def Bmo:=lp Buq 26 Bw2 [] (fun n a b=>At6 K a b n) (fun n=>kN)
def A95:=ct Buq (Apk K) (kC (Bmo K K) kN)
def Aot (K:Nat)(a0:D4):Nat->Int->Int->Int->Int->Int->Int->Int->Int->Int->(List Int)->Int->Int->(List A7)->(List Int)->Option (Bool)
 |0,_,_,_,_,_,_,_,_,_,_,_,_,_,_=>none
 |n1+1,v1,v2,v3,v4,v5,v6,v7,v8,v9,v10,v11,v12,v13,v14=>(bif (decide (v1<(v10.length:Int)))then(if(0:Int)≤v1∧v1<(v10.length:Int)then((K0 K (gt v10 v1) 0 (Ana .i64 a0.A6 1)).bind fun r15=>(bif r15 then(if(0:Int)≤0∧0≤v1∧v1≤(v10.length:Int)then(if(0:Int)≤v1∧v1<(v10.length:Int)then((Apk K ((v10.drop (0:Int).toNat).take (v1 - 0).toNat) (gt v10 v1)).bind fun r16=>(bif r16 then some false else(Aot K a0 n1 (Am9 .i64 v1 1) v2 v3 v4 v5 v6 v7 v8 v9 v10 v11 v12 v13 v14)))else none)else none)else some false))else none)else(bif (v11==0)then some (v12==0)else((Apk K v10 (Ana .i64 v11 1)).bind fun r17=>(bif r17 then((K0 K v12 0 a0.Kh).bind fun r18=>some r18)else some false))))
def Avm (K:Nat)(a0:D4)(a1:A8):Option (Bool):=(Aot K a0 K 0 a1.Yq a1.C6 a1.Sy a1.fUp a1.Wk a1.Er a1.Wl a1.Wm a1.A6 a1.Afu a1.Wn a1.H7 a1.F3)
def Bur:=fd Tryz.func249 ⟨[.v 25,.v 71],[.v 4],true⟩ (gC (A0g K) (gC (A95 K) gN)) [21,22,23,46,47]
def Bg9:Ef:=⟨[(2,.p 102),(3,.p 103),(5,.v 2)],[(103,.box [.v 2,.v 2,.v 2,.v 2,.v 2,.v 2,.v 2,.v 2,.v 26,.v 2,.v 2,.v 69,.v 26]),(102,.st 25 true)]⟩
def Bmp:=lp (Bur K) 26 Bg9 [] (fun n a b c d e f g h i j k l m o p=>Aot K p n a b c d e f g h i j k l m o) (fun n=>kN)
def Bus:=ct (Bur K) (Avm K) (kC (Bmp K K) kN)
def Apo (K:Nat)(a0:D4)(a1:Int):Option (Bool):=some (decide (a1>a0.Kh))
def Bha:=ct (fd Tryz.func193 ⟨[.v 25,.v 3],[.v 4],true⟩ gN) (Apo K)
def Awy (K:Nat)(a0:Int)(a1:Int):Option (Int):=((K0 K a0 0 1000000000).bind fun r1=>(bif r1 then((K0 K a1 1 1000000000).bind fun r2=>(bif (!r2)then some 0 else(if a1≠(0:Int)then some (Akr .i64 (Ana .i64 (Am9 .i64 a0 a1) 1) a1)else none)))else some 0))
def But:=ct (fd Tryz.func251 ⟨[.v 3,.v 3],[.v 3],true⟩ (gC (A0g K) gN) [6,7,8]) (Awy K)
def Aod (K:Nat)(a0:D4)(a1:Int):Option (Int):=((Awy K a1 a0.Kh).bind fun r1=>some r1)
def Bhb:=ct (fd Tryz.func229 ⟨[.v 25,.v 3],[.v 3],true⟩ (gC (But K) gN)) (Aod K)
def Asb (K:Nat)(a0:D4)(a1:A7):Option (Bool):=((Aqp K a0).bind fun r1=>(bif (r1==0)then some false else(bif (decide (a1.Ai8<1))then some false else(bif (decide (a1.fAt<0))then some false else(bif (decide (a1.fAt>r1))then some false else(bif (decide (a1.Ai8>(Ana .i64 r1 a1.fAt)))then some false else(bif (a1.Ai9==0)then(bif (decide (a1.Ai8≤a0.Kh))then(if a0.Kh≠(0:Int)then(if a0.Kh≠(0:Int)then some ((Akr .i64 a1.fAt a0.Kh)==(Akr .i64 (Ana .i64 (Am9 .i64 a1.fAt a1.Ai8) 1) a0.Kh))else none)else none)else some false)else((Apo K a0 a1.Ai8).bind fun r2=>(bif r2 then((Aod K a0 a1.Ai8).bind fun r3=>(bif (a1.Ai9==r3)then(if a0.Kh≠(0:Int)then some ((Int.tmod a1.fAt a0.Kh)==0)else none)else some false))else some false)))))))))
def Box:=ct (fd Tryz.func250 ⟨[.v 25,.v 112],[.v 4],true⟩ (gC (Blz K) (gC (Bha K) (gC (Bhb K) gN))) [9,10,13,14,15,18,19,20,24,25,26,42,43,63,64,71,72,73]) (Asb K)
def Apy (K:Nat)(v23:List Int):Nat->Int->Option (Bool)
 |0,_=>none
 |n2+1,v25=>(bif (decide (v25<(v23.length:Int)))then(if(0:Int)≤v25∧v25<(v23.length:Int)then((K0 K (gt v23 v25) 0 255).bind fun r26=>(bif (!r26)then some false else(Apy K v23 n2 (Am9 .i64 v25 1))))else none)else some true)
def Ao5 (K:Nat)(a0:D4):Nat->Int->Int->Int->Int->Int->Int->Int->Int->Int->(List Int)->Int->Int->(List A7)->(List Int)->Option (Bool)
 |0,_,_,_,_,_,_,_,_,_,_,_,_,_,_=>none
 |n1+1,v10,v11,v12,v13,v14,v15,v16,v17,v18,v19,v20,v21,v22,v23=>(bif (decide (v10<(v22.length:Int)))then(if(0:Int)≤v10∧v10<(v22.length:Int)then((Asb K a0 (gt v22 v10)).bind fun r24=>(bif (!r24)then some false else(Ao5 K a0 n1 (Am9 .i64 v10 1) v11 v12 v13 v14 v15 v16 v17 v18 v19 v20 v21 v22 v23)))else none)else(Apy K v23 K 0))
def Apl (K:Nat)(a0:D4)(a1:A8):Option (Bool):=((Am2 K a0).bind fun r1=>(bif r1 then((K0 K a1.Yq 0 3).bind fun r2=>(bif r2 then((K0 K a1.C6 1 a0.Ki).bind fun r3=>(bif (!r3)then some false else(bif (a1.Yq != 1)then((Az3 K a1).bind fun r4=>some r4)else(bif (decide (a1.Sy<0))then some false else(bif (decide (a1.Wk<0))then some false else((K0 K a1.fUp 0 a0.Fj).bind fun r5=>(bif r5 then((K0 K a1.Er 0 a0.Fj).bind fun r6=>(bif r6 then((K0 K a1.Wl 0 a0.Fj).bind fun r7=>(bif r7 then((K0 K a1.Wm 0 a0.Fj).bind fun r8=>(bif r8 then((Avm K a0 a1).bind fun r9=>(bif r9 then(bif (decide ((a1.H7.length:Int)>12))then some false else(bif (decide ((a1.F3.length:Int)>6))then some false else(Ao5 K a0 K 0 a1.Yq a1.C6 a1.Sy a1.fUp a1.Wk a1.Er a1.Wl a1.Wm a1.A6 a1.Afu a1.Wn a1.H7 a1.F3)))else some false))else some false))else some false))else some false))else some false)))))))else some false))else some false))
def Bp9:=fd Tryz.func227 ⟨[.v 25,.v 71],[.v 4],true⟩ (gC (A0g K) (gC (A93 K) (gC (Bup K) (gC (Bus K) (gC (Box K) gN))))) [8,9,10,13,14,15,16,31,32,35,36,37,42,43,44,45,50,51,52,53,58,59,60,61,66,67,68,69,72,73,74,75,79,80,81]
def Bw3:Ef:=⟨[(3,.p 103),(6,.v 2)],[(103,.box [.v 2,.v 2,.v 2,.v 2,.v 2,.v 2,.v 2,.v 2,.v 26,.v 2,.v 2,.v 69,.v 26])]⟩
def Bhc:=lp (Bp9 K) 506 Bw3 [] (fun n a _ _ _ _ _ _ _ _ _ _ _ _ o=>Apy K o n a) (fun n=>kN)
def Bhd:=lp (Bp9 K) 250 Bg9 [] (fun n a b c d e f g h i j k l m o p=>Ao5 K p n a b c d e f g h i j k l m o) (fun n=>(kC (up (Bhc K K)) kN))
def A7r:=ct (Bp9 K) (Apl K) (kC (Bhd K K) kN)
def Au8 (K:Nat)(a0:D4)(a1:A8)(a2:Int):Option (A8×Bool):=((Am3 K a1).bind fun r1=>(bif (a1.Yq != 1)then some (r1,false)else((K0 K a2 0 (Ana .i64 a0.A6 1)).bind fun r2=>(bif (!r2)then some (r1,false)else(if(r1.A6++([a2]:List Int)).length*8≤140737488355328∧(r1.A6++([a2]:List Int)).length≤maxLen then((Apl K a0 (A8.mk r1.Yq r1.C6 r1.Sy r1.fUp r1.Wk r1.Er r1.Wl r1.Wm (r1.A6++([a2]:List Int)) (Am9 .i64 a2 1) 0 r1.H7 r1.F3)).bind fun r3=>(bif (!r3)then((Am3 K a1).bind fun r4=>some (r4,false))else some ((A8.mk r1.Yq r1.C6 r1.Sy r1.fUp r1.Wk r1.Er r1.Wl r1.Wm (r1.A6++([a2]:List Int)) (Am9 .i64 a2 1) 0 r1.H7 r1.F3),true)))else none)))))
def Boy:=ct (fd Tryz.func190 ⟨[.v 25,.v 71,.v 3],[.n 71 true,.v 4],true⟩ (gC (A0g K) (gC (A7q K) (gC (A7r K) gN))) [13,14]) (Au8 K)
def Ax5 (K:Nat)(v11:List A8):Option ((List A8)):=some v11
def Awj (K:Nat)(a0:List A8)(a1:Int)(a2:Int):Option ((List A8)):=((As3 K a0).bind fun r1=>((Agg K a0 (Am9 .i64 a1 1)).bind fun r2=>(bif r2 then((Agg K a0 (Am9 .i64 a2 1)).bind fun r3=>(bif r3 then(bif (a1==a2)then some r1 else(if(0:Int)≤a1∧a1<(a0.length:Int)then(if(0:Int)≤a2∧a2<(r1.length:Int)then(Apm (r1.set a2.toNat (A8.mk ((gt r1 a2).Yq) ((gt r1 a2).C6) ((gt r1 a2).Sy) (Am9 .i64 a1 1) ((gt r1 a2).Wk) ((gt r1 a2).Er) ((gt r1 a2).Wl) ((gt r1 a2).Wm) ((gt r1 a2).A6) ((gt r1 a2).Afu) ((gt r1 a2).Wn) ((gt r1 a2).H7) ((gt r1 a2).F3))) fun v4=>(if(0:Int)≤a1∧a1<(a0.length:Int)then(if(0:Int)≤a2∧a2<(v4.length:Int)then(Apm (v4.set a2.toNat (A8.mk ((gt v4 a2).Yq) ((gt v4 a2).C6) ((gt v4 a2).Sy) ((gt v4 a2).fUp) ((gt a0 a1).Sy) ((gt v4 a2).Er) ((gt v4 a2).Wl) ((gt v4 a2).Wm) ((gt v4 a2).A6) ((gt v4 a2).Afu) ((gt v4 a2).Wn) ((gt v4 a2).H7) ((gt v4 a2).F3))) fun v5=>(if(0:Int)≤a2∧a2<(v5.length:Int)then(Apm (v5.set a2.toNat (A8.mk ((gt v5 a2).Yq) ((gt v5 a2).C6) ((gt v5 a2).Sy) ((gt v5 a2).fUp) ((gt v5 a2).Wk) ((gt v5 a2).Er) ((gt a0 a1).Er) ((gt v5 a2).Wm) ((gt v5 a2).A6) ((gt v5 a2).Afu) ((gt v5 a2).Wn) ((gt v5 a2).H7) ((gt v5 a2).F3))) fun v6=>(if(0:Int)≤a2∧a2<(v6.length:Int)then(Apm (v6.set a2.toNat (A8.mk ((gt v6 a2).Yq) ((gt v6 a2).C6) ((gt v6 a2).Sy) ((gt v6 a2).fUp) ((gt v6 a2).Wk) ((gt v6 a2).Er) ((gt v6 a2).Wl) 0 ((gt v6 a2).A6) ((gt v6 a2).Afu) ((gt v6 a2).Wn) ((gt v6 a2).H7) ((gt v6 a2).F3))) fun v7=>(if(0:Int)≤a1∧a1<(v7.length:Int)then(Apm (v7.set a1.toNat (A8.mk ((gt v7 a1).Yq) ((gt v7 a1).C6) ((gt v7 a1).Sy) ((gt v7 a1).fUp) ((gt v7 a1).Wk) (Am9 .i64 a2 1) ((gt v7 a1).Wl) ((gt v7 a1).Wm) ((gt v7 a1).A6) ((gt v7 a1).Afu) ((gt v7 a1).Wn) ((gt v7 a1).H7) ((gt v7 a1).F3))) fun v8=>((Agg K a0 ((gt a0 a1).Er)).bind fun r9=>(bif r9 then(if(0:Int)≤(Ana .i64 ((gt a0 a1).Er) 1)∧(Ana .i64 ((gt a0 a1).Er) 1)<(v8.length:Int)then(Apm (v8.set (Ana .i64 ((gt a0 a1).Er) 1).toNat (A8.mk ((gt v8 (Ana .i64 ((gt a0 a1).Er) 1)).Yq) ((gt v8 (Ana .i64 ((gt a0 a1).Er) 1)).C6) ((gt v8 (Ana .i64 ((gt a0 a1).Er) 1)).Sy) ((gt v8 (Ana .i64 ((gt a0 a1).Er) 1)).fUp) ((gt v8 (Ana .i64 ((gt a0 a1).Er) 1)).Wk) ((gt v8 (Ana .i64 ((gt a0 a1).Er) 1)).Er) ((gt v8 (Ana .i64 ((gt a0 a1).Er) 1)).Wl) (Am9 .i64 a2 1) ((gt v8 (Ana .i64 ((gt a0 a1).Er) 1)).A6) ((gt v8 (Ana .i64 ((gt a0 a1).Er) 1)).Afu) ((gt v8 (Ana .i64 ((gt a0 a1).Er) 1)).Wn) ((gt v8 (Ana .i64 ((gt a0 a1).Er) 1)).H7) ((gt v8 (Ana .i64 ((gt a0 a1).Er) 1)).F3))) fun v10=>(Ax5 K v10))else none)else(Ax5 K v8))))else none))else none))else none))else none)else none))else none)else none))else some r1))else some r1)))
def Buu:=fd Tryz.func191 ⟨[.v 29,.v 3,.v 3],[.n 29 true],true⟩ (gC (A40 K) (gC (Bdi K) gN)) [14,15,16,20,21,22,23] [1023]
def Bem:=jn (Buu K) 1023 Buj [] (Ax5 K) kN
def Buv:=ct (Buu K) (Awj K) (kC (Bem K) kN)
def Asc (K:Nat)(a1:Int):Nat->Int->Int->Int->Int->Int->Int->Int->(List Int)->(List Int)->(List Int)->(List A8)->(List Av)->(List Int)->Option (Int×Ds)
 |0,_,_,_,_,_,_,_,_,_,_,_,_,_=>none
 |n1+1,v1,v2,v3,v4,v5,v6,v7,v8,v9,v10,v11,v12,v13=>(bif (decide (v1<a1))then(bif ((v12.length:Int)==0)then some (v1,(Ds.mk (D4.mk v2 v3 v4 v5 v6 v7) (Dh.mk v8 v9 v10) v11 v12 v13))else((At5 K (Ds.mk (D4.mk v2 v3 v4 v5 v6 v7) (Dh.mk v8 v9 v10) v11 v12 v13)).bind fun r14=>(Asc K a1 n1 (Am9 .i64 v1 1) r14.fC.A6 r14.fC.Kh r14.fC.Fj r14.fC.Hb r14.fC.Fk r14.fC.Ki r14.fP.Sk r14.fP.Yq r14.fP.Sl r14.fL r14.fQ r14.Afv)))else some (a1,(Ds.mk (D4.mk v2 v3 v4 v5 v6 v7) (Dh.mk v8 v9 v10) v11 v12 v13)))
def Asd (K:Nat)(a0:Ds)(a1:Int):Option (Int×Ds):=(Asc K a1 K 0 a0.fC.A6 a0.fC.Kh a0.fC.Fj a0.fC.Hb a0.fC.Fk a0.fC.Ki a0.fP.Sk a0.fP.Yq a0.fP.Sl a0.fL a0.fQ a0.Afv)
def Buw:=fd Tryz.func146 ⟨[.b 32 false,.v 3],[.v 3],false⟩ (gC (Bov K) gN) [] [] [(4,[.take 1 10 5026]),(6,[.put 1])]
def Bw4:Ef:=⟨[(0,.p 1),(1,.v 2),(5,.v 2)],[(1,.box [.v 2,.v 2,.v 2,.v 2,.v 2,.v 2,.T 5 true,.T 3 true,.T 3 true,.T 71 false,.T 79 false,.T 3 true])]⟩
def Bmq:=lp (Buw K) 26 Bw4 [] (fun n a=>Asc K a n) (fun n=>kN)
def Bhe:=ct (Buw K) (Asd K) (kC (Bmq K K) kN)
def Aoe (K:Nat)(v3:Int)(v4:Int)(v5:Int)(v6:Int)(v7:Int)(v8:Int)(v9:Int)(v10:List Int)(v11:List Int)(v12:List Int)(v13:List A8)(v14:List Av)(v15:List Int)(v16:Es)(v17:Es):Option (Es×Ds):=(bif (v16.Wq != 0)then some (v16,(Ds.mk (D4.mk v4 v5 v6 v7 v8 v9) (Dh.mk v10 v11 v12) v13 v14 v15))else((Au7 K (Ds.mk (D4.mk v4 v5 v6 v7 v8 v9) (Dh.mk v10 v11 v12) v13 v14 v15) 1 1).bind fun r18=>((Axw K r18.2.fL).bind fun r19=>((Aup K r18.2.fP).bind fun r20=>(bif (decide (r19<0))then some ((Es.mk 5 (Bo.mk 0 0) (Dy.mk (Bo.mk 0 0) 0 0) [] 0 0 0),r18.2)else(bif (decide (r20<0))then some ((Es.mk 5 (Bo.mk 0 0) (Dy.mk (Bo.mk 0 0) 0 0) [] 0 0 0),r18.2)else(if(0:Int)≤r19∧r19<(r18.2.fL.length:Int)then((Aqq K ((gt r18.2.fL r19).C6)).bind fun r21=>((Aqu K r18.2.fP r20 1 r19).bind fun r22=>((Au8 K r18.2.fC (A8.mk 1 r21.C6 r21.Sy r21.fUp r21.Wk r21.Er r21.Wl r21.Wm r21.A6 r21.Afu r21.Wn r21.H7 r21.F3) r20).bind fun r23=>(if(0:Int)≤r19∧r19<(r18.2.fL.length:Int)then(bif (decide (v3≥0))then((Awj K (r18.2.fL.set r19.toNat r23.1) v3 r19).bind fun r24=>((Aq5 K r24 r19).bind fun r25=>((Asd K (Ds.mk r18.2.fC r22 r24 r18.2.fQ r18.2.Afv) r18.2.fC.Hb).bind fun r26=>some ((Es.mk v16.Wq r25 v16.fR v16.fB v16.Wr r26.1 r18.1),r26.2))))else((Aq5 K (r18.2.fL.set r19.toNat r23.1) r19).bind fun r27=>((Asd K (Ds.mk r18.2.fC r22 (r18.2.fL.set r19.toNat r23.1) r18.2.fQ r18.2.Afv) r18.2.fC.Hb).bind fun r28=>some ((Es.mk v16.Wq r27 v16.fR v16.fB v16.Wr r28.1 r18.1),r28.2))))else none))))else none)))))))
def Ase (K:Nat)(v30:Int)(v31:Bool)(v32:Int)(v33:Int)(v34:Int)(v35:Int)(v36:Int)(v37:Int)(v38:List Int)(v39:List Int)(v40:List Int)(v41:List A8)(v42:List Av)(v43:List Int)(v44:Es)(v45:Es):Option (Es×Ds):=(bif v31 then(Aoe K v30 v32 v33 v34 v35 v36 v37 v38 v39 v40 v41 v42 v43 (Es.mk 3 v44.fH v44.fR v44.fB v44.Wr v44.Hb v44.N7) v45)else((Aym K (Ds.mk (D4.mk v32 v33 v34 v35 v36 v37) (Dh.mk v38 v39 v40) v41 v42 v43)).bind fun r46=>(bif (r46==0)then(Aoe K v30 v32 v33 v34 v35 v36 v37 v38 v39 v40 v41 v42 v43 (Es.mk 4 v44.fH v44.fR v44.fB v44.Wr v44.Hb v44.N7) v45)else((Aq6 K (Ds.mk (D4.mk v32 v33 v34 v35 v36 v37) (Dh.mk v38 v39 v40) v41 v42 v43) 1).bind fun r47=>(bif (!r47)then(Aoe K v30 v32 v33 v34 v35 v36 v37 v38 v39 v40 v41 v42 v43 (Es.mk 5 v44.fH v44.fR v44.fB v44.Wr v44.Hb v44.N7) v45)else(Aoe K v30 v32 v33 v34 v35 v36 v37 v38 v39 v40 v41 v42 v43 v44 v45))))))
def Awz (K:Nat)(a0:Ds)(a1:Bo):Option (Es×Ds):=((Ayv K a0 a1).bind fun r1=>((Aos K a0 a1).bind fun r2=>(bif (r1.2 != 0)then(Aoe K r1.1 a0.fC.A6 a0.fC.Kh a0.fC.Fj a0.fC.Hb a0.fC.Fk a0.fC.Ki a0.fP.Sk a0.fP.Yq a0.fP.Sl a0.fL a0.fQ a0.Afv (Es.mk r1.2 (Bo.mk 0 0) (Dy.mk (Bo.mk 0 0) 0 0) [] r2 0 0) (Es.mk 0 (Bo.mk 0 0) (Dy.mk (Bo.mk 0 0) 0 0) [] 0 0 0))else(bif (decide (r1.1≥0))then((Au3 K a0.fL r1.1).bind fun r29=>(Ase K r1.1 (decide (r29≥4)) a0.fC.A6 a0.fC.Kh a0.fC.Fj a0.fC.Hb a0.fC.Fk a0.fC.Ki a0.fP.Sk a0.fP.Yq a0.fP.Sl a0.fL a0.fQ a0.Afv (Es.mk r1.2 (Bo.mk 0 0) (Dy.mk (Bo.mk 0 0) 0 0) [] r2 0 0) (Es.mk 0 (Bo.mk 0 0) (Dy.mk (Bo.mk 0 0) 0 0) [] 0 0 0)))else(Ase K r1.1 false a0.fC.A6 a0.fC.Kh a0.fC.Fj a0.fC.Hb a0.fC.Fk a0.fC.Ki a0.fP.Sk a0.fP.Yq a0.fP.Sl a0.fL a0.fQ a0.Afv (Es.mk r1.2 (Bo.mk 0 0) (Dy.mk (Bo.mk 0 0) 0 0) [] r2 0 0) (Es.mk 0 (Bo.mk 0 0) (Dy.mk (Bo.mk 0 0) 0 0) [] 0 0 0))))))
def Bqa:=fd Tryz.func144 ⟨[.b 32 false,.v 34],[.n 47 true],false⟩ (gC (Boi K) (gC (Bhe K) (gC (A52 K) (gC (Bgq K) (gC (Btw K) (gC (Bom K) (gC (Btx K) (gC (Bg0 K) (gC (Bg5 K) (gC (Bum K) (gC (Bow K) (gC (Bg8 K) (gC (Boy K) (gC (Buv K) gN)))))))))))))) [31,32,74,75] [15,243] [(1,[.take 1 6 5022,.take 1 7 5023,.take 1 8 5024,.take 1 9 5025,.take 1 10 5026,.take 1 11 5027]),(6,[.take 1 6 5022,.take 1 7 5023,.take 1 8 5024,.take 1 9 5025,.take 1 10 5026,.take 1 11 5027]),(11,[.take 107 7 6719]),(13,[.take 1 9 5025]),(14,[.take 1 6 5022,.take 1 7 5023,.take 1 8 5024]),(23,[.put 5025]),(24,[.put 5025]),(25,[.put 1,.take 1 9 5025,.shal 5025]),(26,[.take 107 7 6719])] [(141,[.put 1])]
def Bw5:Ef:=⟨[(0,.p 1),(4,.p 104),(5,.v 2),(7,.p 107)],[(1,.box [.v 2,.v 2,.v 2,.v 2,.v 2,.v 2,.T 5 true,.T 3 true,.T 3 true,.T 71 false,.T 79 false,.T 3 true]),(107,.st 47 true),(104,.st 47 true)]⟩
def Bw6:Ef:=⟨[(0,.p 1),(4,.p 104),(5,.v 2),(7,.p 107),(29,.v 4)],[(1,.box [.v 2,.v 2,.v 2,.v 2,.v 2,.v 2,.T 5 true,.T 3 true,.T 3 true,.T 71 false,.T 79 false,.T 3 true]),(107,.st 47 true),(104,.st 47 true)]⟩
def Bdj:=jn (Bqa K) 15 Bw5 [] (Aoe K) kN
def Bhf:=jn (Bqa K) 243 Bw6 [] (Ase K) (kC (Bdj K) kN)
def Bux:=ct (Bqa K) (Awz K) (kC (Bdj K) (kC (Bhf K) kN))
def Aqv (K:Nat)(a0:Int):Option (Bool):=(bif (a0==1)then some true else(bif (a0==2)then some true else some (a0==4)))
def Bdk:=ct (fd Tryz.func192 ⟨[.v 3],[.v 4],true⟩ gN [4,5,7,8,9]) (Aqv K)
def Ari (K:Nat)(a0:D4)(a2:Int)(a3:Int)(r6:Int):Nat->Int->A8->A8->Int->Int->Int->Int->Int->Int->Int->Int->(List Int)->Int->Int->(List A7)->(List Int)->Option (A8×Bool)
 |0,_,_,_,_,_,_,_,_,_,_,_,_,_,_,_,_=>none
 |n1+1,v7,v8,v9,v10,v11,v12,v13,v14,v15,v16,v17,v18,v19,v20,v21,v22=>(bif (decide (v7<r6))then(if(v8.A6++([(Am9 .i64 a2 v7)]:List Int)).length*8≤140737488355328∧(v8.A6++([(Am9 .i64 a2 v7)]:List Int)).length≤maxLen then(Ari K a0 a2 a3 r6 n1 (Am9 .i64 v7 1) (A8.mk v8.Yq v8.C6 v8.Sy v8.fUp v8.Wk v8.Er v8.Wl v8.Wm (v8.A6++([(Am9 .i64 a2 v7)]:List Int)) v8.Afu v8.Wn v8.H7 v8.F3) v9 v10 v11 v12 v13 v14 v15 v16 v17 v18 v19 v20 v21 v22)else none)else(if(v8.H7++([(A7.mk (Anb .i64 a2 a0.Kh) a3 r6)]:List A7)).length*24≤140737488355328∧(v8.H7++([(A7.mk (Anb .i64 a2 a0.Kh) a3 r6)]:List A7)).length≤maxLen then((Apl K a0 (A8.mk v8.Yq v8.C6 v8.Sy v8.fUp v8.Wk v8.Er v8.Wl v8.Wm v8.A6 v8.Afu v8.Wn (v8.H7++([(A7.mk (Anb .i64 a2 a0.Kh) a3 r6)]:List A7)) v8.F3)).bind fun r23=>(bif (!r23)then((Am3 K (A8.mk v10 v11 v12 v13 v14 v15 v16 v17 v18 v19 v20 v21 v22)).bind fun r24=>some (r24,false))else some ((A8.mk v8.Yq v8.C6 v8.Sy v8.fUp v8.Wk v8.Er v8.Wl v8.Wm v8.A6 v8.Afu v8.Wn (v8.H7++([(A7.mk (Anb .i64 a2 a0.Kh) a3 r6)]:List A7)) v8.F3),true)))else none))
def Avn (K:Nat)(a0:D4)(a1:A8)(a2:Int)(a3:Int):Option (A8×Bool):=((Am3 K a1).bind fun r1=>((Am2 K a0).bind fun r2=>(bif r2 then(bif (a1.Yq != 1)then some (r1,false)else((Apo K a0 a3).bind fun r3=>(bif r3 then((Aqp K a0).bind fun r4=>(bif (decide (a3>r4))then some (r1,false)else((K0 K a2 0 (Ana .i64 a0.A6 1)).bind fun r5=>(bif (!r5)then some (r1,false)else((Aod K a0 a3).bind fun r6=>(Ari K a0 a2 a3 r6 K 0 r1 (A8.mk 0 0 0 0 0 0 0 0 [] 0 0 [] []) a1.Yq a1.C6 a1.Sy a1.fUp a1.Wk a1.Er a1.Wl a1.Wm a1.A6 a1.Afu a1.Wn a1.H7 a1.F3))))))else some (r1,false))))else some (r1,false))))
def Buy:=fd Tryz.func230 ⟨[.v 25,.v 71,.v 3,.v 3],[.n 71 true,.v 4],true⟩ (gC (A0g K) (gC (A93 K) (gC (Blz K) (gC (Bha K) (gC (A7q K) (gC (A7r K) (gC (Bhb K) gN))))))) [16,17,18,21,22,23,26,27,28,29,33,34,35] [] [(8,[.take 110 8 6768]),(9,[.take 110 11 6771]),(10,[.take 110 8 6768,.take 110 12 6772])]
def Bw7:Ef:=⟨[(2,.v 2),(3,.v 2),(4,.p 104),(5,.p 105),(8,.p 108),(10,.p 110),(11,.v 2),(12,.v 2)],[(110,.st 71 true),(108,.st 71 true),(105,.box [.v 2,.v 2,.v 2,.v 2,.v 2,.v 2,.v 2,.v 2,.v 26,.v 2,.v 2,.v 69,.v 26]),(104,.st 25 true)]⟩
def Bhg:=lp (Buy K) 250 Bw7 [] (fun n a b c d e f g h i j k l m o p q r s t u=>Ari K u a b c n d e f g h i j k l m o p q r s t) (fun n=>kN)
def Buz:=ct (Buy K) (Avn K) (kC (Bhg K K) kN)
def Avo (K:Nat)(a0:Ds)(a1:Int)(a2:Int)(a3:Es):Option (Es×Ds):=((Aod K a0.fC a2).bind fun r1=>((Aq6 K a0 r1).bind fun r2=>(bif (!r2)then some ((Es.mk 5 a3.fH a3.fR a3.fB a3.Wr a3.Hb a3.N7),a0)else((Au7 K a0 0 r1).bind fun r3=>((Avj K r3.2.fP r1).bind fun r4=>(bif (decide (r4<0))then some ((Es.mk 6 a3.fH a3.fR a3.fB a3.Wr a3.Hb r3.1),r3.2)else((Aqu K r3.2.fP r4 r1 a1).bind fun r5=>(if(0:Int)≤a1∧a1<(r3.2.fL.length:Int)then((Avn K r3.2.fC (gt r3.2.fL a1) r4 a2).bind fun r6=>(if(0:Int)≤a1∧a1<(r3.2.fL.length:Int)then some ((Es.mk a3.Wq a3.fH a3.fR a3.fB a3.Wr a3.Hb r3.1),(Ds.mk r3.2.fC r5 (r3.2.fL.set a1.toNat r6.1) r3.2.fQ r3.2.Afv))else none))else none))))))))
def Bu0:=ct (fd Tryz.func194 ⟨[.b 32 false,.v 3,.v 3,.v 47],[.v 47],false⟩ (gC (Bg0 K) (gC (Bg5 K) (gC (Bg8 K) (gC (Boq K) (gC (Bhb K) (gC (Buz K) gN)))))) [] [] [(2,[.take 1 6 5022,.take 1 7 5023,.take 1 8 5024,.take 1 9 5025,.take 1 10 5026,.take 1 11 5027]),(5,[.put 1]),(6,[.take 1 6 5022,.take 1 7 5023,.take 1 8 5024]),(11,[.take 1 9 5025])]) (Avo K)
def Aw0 (K:Nat)(a0:Int)(a1:Int):Option (Int):=((K0 K a0 0 1000000000).bind fun r1=>(bif r1 then((Aqv K a1).bind fun r2=>(bif (!r2)then some 0 else(if a1≠(0:Int)then some (Anb .i64 (Akr .i64 (Ana .i64 (Am9 .i64 a0 a1) 1) a1) a1)else none)))else some 0))
def Bu1:=ct (fd Tryz.func269 ⟨[.v 3,.v 3],[.v 3],true⟩ (gC (A0g K) (gC (Bdk K) gN)) [6,7,8]) (Aw0 K)
def Au9 (K:Nat)(a0:D4)(a1:A8)(a2:Int)(a3:Int):Option (Int×Bool):=((Apl K a0 a1).bind fun r1=>(bif r1 then(bif (a1.Afu==0)then some (0,false)else((K0 K a2 1 a0.Kh).bind fun r2=>(bif r2 then((Aqv K a3).bind fun r3=>(bif (!r3)then some (0,false)else((Aw0 K a1.Wn a3).bind fun r4=>(bif (decide ((Am9 .i64 r4 a2)>a0.Kh))then some (0,false)else some ((Am9 .i64 (Anb .i64 (Ana .i64 a1.Afu 1) a0.Kh) r4),true)))))else some (0,false))))else some (0,false)))
def Boz:=ct (fd Tryz.func252 ⟨[.v 25,.v 71,.v 3,.v 3],[.v 3,.v 4],true⟩ (gC (A0g K) (gC (Bdk K) (gC (A7r K) (gC (Bu1 K) gN)))) [13,14,15,18,19,20,24,25,26,27]) (Au9 K)
def Atr (K:Nat)(a0:D4)(a1:A8)(a2:Int)(a3:Int):Option (Bool):=((Au9 K a0 a1 a2 a3).bind fun r1=>(bif r1.2 then some false else((Apl K a0 a1).bind fun r2=>(bif r2 then(bif (a1.Yq==1)then((K0 K a2 1 a0.Kh).bind fun r3=>(bif r3 then((Aqv K a3).bind fun r4=>some r4)else some false))else some false)else some false))))
def Bu2:=ct (fd Tryz.func231 ⟨[.v 25,.v 71,.v 3,.v 3],[.v 4],true⟩ (gC (A0g K) (gC (Bdk K) (gC (A7r K) (gC (Boz K) gN)))) [19,20,21,24,25,26,29,30,31,35,36,37]) (Atr K)
def Avp (K:Nat)(a0:D4)(a1:A8)(a2:Int)(a3:Int):Option (A8×Bool):=((Am3 K a1).bind fun r1=>((Au9 K a0 a1 a2 a3).bind fun r2=>(bif r2.2 then(bif (decide ((a1.H7.length:Int)≥12))then some (r1,false)else(if(r1.H7++([(A7.mk r2.1 a2 0)]:List A7)).length*24≤140737488355328∧(r1.H7++([(A7.mk r2.1 a2 0)]:List A7)).length≤maxLen then some ((A8.mk r1.Yq r1.C6 r1.Sy r1.fUp r1.Wk r1.Er r1.Wl r1.Wm r1.A6 r1.Afu (Am9 .i64 (Ana .i64 r2.1 (Anb .i64 (Ana .i64 a1.Afu 1) a0.Kh)) a2) (r1.H7++([(A7.mk r2.1 a2 0)]:List A7)) r1.F3),true)else none))else some (r1,false))))
def Bu3:=ct (fd Tryz.func232 ⟨[.v 25,.v 71,.v 3,.v 3],[.n 71 true,.v 4],true⟩ (gC (A7q K) (gC (Boz K) gN)) [23,24,25]) (Avp K)
def Arj (K:Nat)(a1:Int)(a2:Int)(a3:Int)(v7:Int)(v8:Int)(v9:Int)(v10:Int)(v11:Int)(v12:Int)(v13:List Int)(v14:List Int)(v15:List Int)(v16:List A8)(v17:List Av)(v18:List Int)(v19:Es)(v20:Int)(v21:Int)(v22:Int)(v23:Int)(v24:Int)(v25:Int)(v26:Int)(v27:List Int)(v28:Int)(v29:Int)(v30:Int):Option (Es×Ds):=(if(0:Int)≤a1∧a1<(v16.length:Int)then((Avp K (D4.mk v7 v8 v9 v10 v11 v12) (gt v16 a1) a2 a3).bind fun r31=>(if(0:Int)≤a1∧a1<(v16.length:Int)then some ((Es.mk v20 (Bo.mk v21 v22) (Dy.mk (Bo.mk v23 v24) v25 v26) v27 v28 v29 v30),(Ds.mk (D4.mk v7 v8 v9 v10 v11 v12) (Dh.mk v13 v14 v15) (v16.set a1.toNat r31.1) v17 v18))else none))else none)
def Avq (K:Nat)(a0:Ds)(a1:Int)(a2:Int)(a3:Int)(a4:Es):Option (Es×Ds):=(if(0:Int)≤a1∧a1<(a0.fL.length:Int)then((Atr K a0.fC (gt a0.fL a1) a2 a3).bind fun r1=>(bif r1 then((Aq6 K a0 1).bind fun r2=>(bif (!r2)then some ((Es.mk 5 a4.fH a4.fR a4.fB a4.Wr a4.Hb a4.N7),a0)else((Au7 K a0 0 1).bind fun r3=>((Aup K r3.2.fP).bind fun r4=>(bif (decide (r4<0))then some ((Es.mk 5 a4.fH a4.fR a4.fB a4.Wr a4.Hb r3.1),r3.2)else((Aqu K r3.2.fP r4 1 a1).bind fun r5=>(if(0:Int)≤a1∧a1<(r3.2.fL.length:Int)then((Au8 K r3.2.fC (gt r3.2.fL a1) r4).bind fun r6=>(if(0:Int)≤a1∧a1<(r3.2.fL.length:Int)then(Arj K a1 a2 a3 r3.2.fC.A6 r3.2.fC.Kh r3.2.fC.Fj r3.2.fC.Hb r3.2.fC.Fk r3.2.fC.Ki r5.Sk r5.Yq r5.Sl (r3.2.fL.set a1.toNat r6.1) r3.2.fQ r3.2.Afv (Es.mk 0 (Bo.mk 0 0) (Dy.mk (Bo.mk 0 0) 0 0) [] 0 0 0) a4.Wq a4.fH.Be a4.fH.C6 a4.fR.fH.Be a4.fR.fH.C6 a4.fR.Sy a4.fR.fNo a4.fB a4.Wr a4.Hb r3.1)else none))else none)))))))else(Arj K a1 a2 a3 a0.fC.A6 a0.fC.Kh a0.fC.Fj a0.fC.Hb a0.fC.Fk a0.fC.Ki a0.fP.Sk a0.fP.Yq a0.fP.Sl a0.fL a0.fQ a0.Afv (Es.mk 0 (Bo.mk 0 0) (Dy.mk (Bo.mk 0 0) 0 0) [] 0 0 0) a4.Wq a4.fH.Be a4.fH.C6 a4.fR.fH.Be a4.fR.fH.C6 a4.fR.Sy a4.fR.fNo a4.fB a4.Wr a4.Hb a4.N7)))else none)
def Bu4:=fd Tryz.func195 ⟨[.b 32 false,.v 3,.v 3,.v 3,.v 47],[.v 47],false⟩ (gC (Bg0 K) (gC (Bg5 K) (gC (Bow K) (gC (Bg8 K) (gC (Boy K) (gC (Bu2 K) (gC (Bu3 K) gN))))))) [] [3] [(1,[.take 1 9 5025]),(2,[.take 1 6 5022,.take 1 7 5023,.take 1 8 5024,.take 1 10 5026,.take 1 11 5027]),(5,[.put 1]),(6,[.take 1 6 5022,.take 1 7 5023,.take 1 8 5024]),(11,[.take 1 9 5025]),(13,[.take 1 9 5025])]
def Bw8:Ef:=⟨[(0,.p 1),(1,.v 2),(2,.v 2),(3,.v 2),(9,.p 109),(10,.p 110)],[(1,.box [.v 2,.v 2,.v 2,.v 2,.v 2,.v 2,.T 5 true,.T 3 true,.T 3 true,.T 71 false,.T 79 false,.T 3 true]),(110,.st 47 true),(109,.box [.v 2,.v 2,.v 2,.v 2,.v 2,.v 2,.v 2,.v 22,.v 2,.v 2,.v 2])]⟩
def Bqb:=jn (Bu4 K) 3 Bw8 [] (Arj K) kN
def Bu5:=ct (Bu4 K) (Avq K) (kC (Bqb K) kN)
def Ark (K:Nat)(a1:Bo)(v5:Int)(v22:Int)(v23:Int)(v24:Int)(v25:Int)(v26:Int)(v27:Int)(v28:List Int)(v29:List Int)(v30:List Int)(v31:List A8)(v32:List Av)(v33:List Int)(v34:Int)(v35:Int)(v36:Int)(v37:Int)(v38:Int)(v39:Int)(v40:Int)(v41:List Int)(v42:Int)(v43:Int)(v44:Int):Option (Es×Ds):=(bif (v34 != 0)then some ((Es.mk v34 (Bo.mk v35 v36) (Dy.mk (Bo.mk v37 v38) v39 v40) v41 v42 v43 v44),(Ds.mk (D4.mk v22 v23 v24 v25 v26 v27) (Dh.mk v28 v29 v30) v31 v32 v33))else(if(0:Int)≤v5∧v5<(v31.length:Int)then(if(0:Int)≤v5∧v5<(v31.length:Int)then((Asd K (Ds.mk (D4.mk v22 v23 v24 v25 v26 v27) (Dh.mk v28 v29 v30) v31 v32 v33) v25).bind fun r45=>some ((Es.mk v34 (Bo.mk v35 v36) (Dy.mk a1 ((gt v31 v5).Sy) (Ana .i64 (((gt v31 v5).H7).length:Int) 1)) v41 v42 r45.1 v44),r45.2))else none)else none))
def Apv (K:Nat)(a1:Bo)(a2:Int)(a3:Int)(v5:Int)(v6:Int)(v7:Int)(v8:Int)(v9:Int)(v10:Int)(v11:Int)(v12:List Int)(v13:List Int)(v14:List Int)(v15:List A8)(v16:List Av)(v17:List Int)(v18:Es)(v19:Es):Option (Es×Ds):=(bif (v18.Wq != 0)then some (v18,(Ds.mk (D4.mk v6 v7 v8 v9 v10 v11) (Dh.mk v12 v13 v14) v15 v16 v17))else((Apo K (D4.mk v6 v7 v8 v9 v10 v11) a2).bind fun r20=>(bif r20 then((Avo K (Ds.mk (D4.mk v6 v7 v8 v9 v10 v11) (Dh.mk v12 v13 v14) v15 v16 v17) v5 a2 v18).bind fun r21=>(Ark K a1 v5 r21.2.fC.A6 r21.2.fC.Kh r21.2.fC.Fj r21.2.fC.Hb r21.2.fC.Fk r21.2.fC.Ki r21.2.fP.Sk r21.2.fP.Yq r21.2.fP.Sl r21.2.fL r21.2.fQ r21.2.Afv r21.1.Wq r21.1.fH.Be r21.1.fH.C6 r21.1.fR.fH.Be r21.1.fR.fH.C6 r21.1.fR.Sy r21.1.fR.fNo r21.1.fB r21.1.Wr r21.1.Hb r21.1.N7))else((Avq K (Ds.mk (D4.mk v6 v7 v8 v9 v10 v11) (Dh.mk v12 v13 v14) v15 v16 v17) v5 a2 a3 v18).bind fun r46=>(Ark K a1 v5 r46.2.fC.A6 r46.2.fC.Kh r46.2.fC.Fj r46.2.fC.Hb r46.2.fC.Fk r46.2.fC.Ki r46.2.fP.Sk r46.2.fP.Yq r46.2.fP.Sl r46.2.fL r46.2.fQ r46.2.Afv r46.1.Wq r46.1.fH.Be r46.1.fH.C6 r46.1.fR.fH.Be r46.1.fR.fH.C6 r46.1.fR.Sy r46.1.fR.fNo r46.1.fB r46.1.Wr r46.1.Hb r46.1.N7)))))
def Avr (K:Nat)(a0:Ds)(a1:Bo)(a2:Int)(a3:Int):Option (Es×Ds):=((K0 K a2 1 200).bind fun r1=>(bif r1 then((Aqv K a3).bind fun r2=>(bif (!r2)then some ((Es.mk 1 (Bo.mk 0 0) (Dy.mk (Bo.mk 0 0) 0 0) [] 0 0 0),a0)else((Am5 K a0 a1).bind fun r3=>((Aos K a0 a1).bind fun r4=>(bif (r3.2==0)then(if(0:Int)≤r3.1∧r3.1<(a0.fL.length:Int)then(bif (decide ((((gt a0.fL r3.1).H7).length:Int)≥12))then(Apv K a1 a2 a3 r3.1 a0.fC.A6 a0.fC.Kh a0.fC.Fj a0.fC.Hb a0.fC.Fk a0.fC.Ki a0.fP.Sk a0.fP.Yq a0.fP.Sl a0.fL a0.fQ a0.Afv (Es.mk 8 (Bo.mk 0 0) (Dy.mk (Bo.mk 0 0) 0 0) [] r4 0 0) (Es.mk 0 (Bo.mk 0 0) (Dy.mk (Bo.mk 0 0) 0 0) [] 0 0 0))else(Apv K a1 a2 a3 r3.1 a0.fC.A6 a0.fC.Kh a0.fC.Fj a0.fC.Hb a0.fC.Fk a0.fC.Ki a0.fP.Sk a0.fP.Yq a0.fP.Sl a0.fL a0.fQ a0.Afv (Es.mk r3.2 (Bo.mk 0 0) (Dy.mk (Bo.mk 0 0) 0 0) [] r4 0 0) (Es.mk 0 (Bo.mk 0 0) (Dy.mk (Bo.mk 0 0) 0 0) [] 0 0 0)))else none)else(Apv K a1 a2 a3 r3.1 a0.fC.A6 a0.fC.Kh a0.fC.Fj a0.fC.Hb a0.fC.Fk a0.fC.Ki a0.fP.Sk a0.fP.Yq a0.fP.Sl a0.fL a0.fQ a0.Afv (Es.mk r3.2 (Bo.mk 0 0) (Dy.mk (Bo.mk 0 0) 0 0) [] r4 0 0) (Es.mk 0 (Bo.mk 0 0) (Dy.mk (Bo.mk 0 0) 0 0) [] 0 0 0)))))))else some ((Es.mk 1 (Bo.mk 0 0) (Dy.mk (Bo.mk 0 0) 0 0) [] 0 0 0),a0)))
def Bqc:=fd Tryz.func145 ⟨[.b 32 false,.v 34,.v 3,.v 3],[.v 47],false⟩ (gC (A0g K) (gC (Bhe K) (gC (A7p K) (gC (A52 K) (gC (Bdk K) (gC (Bha K) (gC (Bu0 K) (gC (Bu5 K) gN)))))))) [13,14,15,37,38] [31,127] [(3,[.take 1 6 5022,.take 1 7 5023,.take 1 8 5024,.take 1 9 5025,.take 1 10 5026,.take 1 11 5027]),(8,[.take 111 7 6783]),(10,[.take 111 7 6783,.frz 6783]),(11,[.take 111 7 6783,.frz 6783]),(14,[.take 1 9 5025]),(15,[.put 1])]
def Bw9:Ef:=⟨[(0,.p 1),(5,.p 105),(8,.p 108),(9,.v 2),(11,.p 111)],[(1,.box [.v 2,.v 2,.v 2,.v 2,.v 2,.v 2,.T 5 true,.T 3 true,.T 3 true,.T 71 false,.T 79 false,.T 3 true]),(111,.box [.v 2,.v 2,.v 2,.v 2,.v 2,.v 2,.v 2,.v 22,.v 2,.v 2,.v 2]),(108,.st 47 true),(105,.st 34 true)]⟩
def Bxa:Ef:=⟨[(0,.p 1),(2,.v 2),(3,.v 2),(5,.p 105),(8,.p 108),(9,.v 2),(11,.p 111)],[(1,.box [.v 2,.v 2,.v 2,.v 2,.v 2,.v 2,.T 5 true,.T 3 true,.T 3 true,.T 71 false,.T 79 false,.T 3 true]),(111,.st 47 true),(108,.st 47 true),(105,.st 34 true)]⟩
def Bhh:=jn (Bqc K) 127 Bw9 [] (fun a b c d e f g h i j k l m o p q r s t u v w x y _ a1=>Ark K a1 a b c d e f g h i j k l m o p q r s t u v w x y) kN
def Bmr:=jn (Bqc K) 31 Bxa [] (fun a b c d e f g h i j k l m o p q r s=>Apv K s a b c d e f g h i j k l m o p q r) (kC (Bhh K) kN)
def Bu6:=ct (Bqc K) (Avr K) (kC (Bmr K) kN)
def Aw1 (K:Nat)(a0:A8):Option (A8):=((Am3 K a0).bind fun r1=>some (A8.mk r1.Yq r1.C6 (Am9 .i64 a0.Sy 1) r1.fUp r1.Wk 0 r1.Wl r1.Wm ([]:List Int) 0 0 ([]:List A7) ([]:List Int)))
def Bu7:=ct (fd Tryz.func201 ⟨[.v 71],[.n 71 true],true⟩ (gC (A7q K) gN)) (Aw1 K)
def Ats (K:Nat)(a0:Ds)(a1:Int):Option (Ds):=(if(0:Int)≤a1∧a1<(a0.fL.length:Int)then((At4 K (gt a0.fL a1) 0).bind fun r1=>(if(0:Int)≤a1∧a1<(a0.fL.length:Int)then((Aqb K a0 ((gt a0.fL a1).A6)).bind fun r2=>(if(0:Int)≤a1∧a1<(r2.fL.length:Int)then((Aw1 K (gt r2.fL a1)).bind fun r3=>(if(0:Int)≤a1∧a1<(r2.fL.length:Int)then(if(r2.fQ++([r1]:List Av)).length*72≤140737488355328∧(r2.fQ++([r1]:List Av)).length≤maxLen then some (Ds.mk r2.fC r2.fP (r2.fL.set a1.toNat r3) (r2.fQ++([r1]:List Av)) r2.Afv)else none)else none))else none))else none))else none)
def Bu8:=ct (fd Tryz.func149 ⟨[.b 32 false,.v 3],[],false⟩ (gC (Bou K) (gC (Bg4 K) (gC (Bu7 K) gN))) [] [] [(0,[.take 1 9 5025]),(1,[.put 1,.take 1 9 5025]),(2,[.take 1 9 5025]),(3,[.take 1 10 5026,.frz 20384,.frz 20385])] [(21,[.put 1])]) (Ats K)
def Atb (K:Nat)(a1:Int)(v21:List A8):Option ((List A8)):=(if(0:Int)≤a1∧a1<(v21.length:Int)then(Apm (v21.set a1.toNat (A8.mk ((gt v21 a1).Yq) ((gt v21 a1).C6) ((gt v21 a1).Sy) 0 ((gt v21 a1).Wk) ((gt v21 a1).Er) ((gt v21 a1).Wl) ((gt v21 a1).Wm) ((gt v21 a1).A6) ((gt v21 a1).Afu) ((gt v21 a1).Wn) ((gt v21 a1).H7) ((gt v21 a1).F3))) fun v22=>(if(0:Int)≤a1∧a1<(v22.length:Int)then(Apm (v22.set a1.toNat (A8.mk ((gt v22 a1).Yq) ((gt v22 a1).C6) ((gt v22 a1).Sy) ((gt v22 a1).fUp) 0 ((gt v22 a1).Er) ((gt v22 a1).Wl) ((gt v22 a1).Wm) ((gt v22 a1).A6) ((gt v22 a1).Afu) ((gt v22 a1).Wn) ((gt v22 a1).H7) ((gt v22 a1).F3))) fun v23=>(if(0:Int)≤a1∧a1<(v23.length:Int)then(Apm (v23.set a1.toNat (A8.mk ((gt v23 a1).Yq) ((gt v23 a1).C6) ((gt v23 a1).Sy) ((gt v23 a1).fUp) ((gt v23 a1).Wk) ((gt v23 a1).Er) 0 ((gt v23 a1).Wm) ((gt v23 a1).A6) ((gt v23 a1).Afu) ((gt v23 a1).Wn) ((gt v23 a1).H7) ((gt v23 a1).F3))) fun v24=>(if(0:Int)≤a1∧a1<(v24.length:Int)then(Apm (v24.set a1.toNat (A8.mk ((gt v24 a1).Yq) ((gt v24 a1).C6) ((gt v24 a1).Sy) ((gt v24 a1).fUp) ((gt v24 a1).Wk) ((gt v24 a1).Er) ((gt v24 a1).Wl) 0 ((gt v24 a1).A6) ((gt v24 a1).Afu) ((gt v24 a1).Wn) ((gt v24 a1).H7) ((gt v24 a1).F3))) fun v25=>some v25)else none))else none))else none))else none)
def Ara (K:Nat)(a0:List A8)(a1:Int)(v5:List A8)(v6:Int)(v7:Int)(v8:Int)(v9:Int)(v10:Int)(v11:Int)(v12:Int)(v13:Int)(v14:List Int)(v15:Int)(v16:Int)(v17:List A7)(v18:List Int):Option ((List A8)):=((Agg K a0 v12).bind fun r19=>(bif r19 then(if(0:Int)≤(Ana .i64 v12 1)∧(Ana .i64 v12 1)<(v5.length:Int)then(Apm (v5.set (Ana .i64 v12 1).toNat (A8.mk ((gt v5 (Ana .i64 v12 1)).Yq) ((gt v5 (Ana .i64 v12 1)).C6) ((gt v5 (Ana .i64 v12 1)).Sy) ((gt v5 (Ana .i64 v12 1)).fUp) ((gt v5 (Ana .i64 v12 1)).Wk) ((gt v5 (Ana .i64 v12 1)).Er) ((gt v5 (Ana .i64 v12 1)).Wl) v13 ((gt v5 (Ana .i64 v12 1)).A6) ((gt v5 (Ana .i64 v12 1)).Afu) ((gt v5 (Ana .i64 v12 1)).Wn) ((gt v5 (Ana .i64 v12 1)).H7) ((gt v5 (Ana .i64 v12 1)).F3))) fun v20=>(Atb K a1 v20))else none)else(Atb K a1 v5)))
def Apz (K:Nat)(a0:List A8)(a1:Int)(r1:(List A8))(v27:Bool)(v28:Int)(v29:Int)(v30:Int)(v31:Int)(v32:Int)(v33:Int)(v34:Int)(v35:Int)(v36:List Int)(v37:Int)(v38:Int)(v39:List A7)(v40:List Int):Option ((List A8)):=(bif v27 then(if(0:Int)≤(Ana .i64 v31 1)∧(Ana .i64 v31 1)<(r1.length:Int)then(Apm (r1.set (Ana .i64 v31 1).toNat (A8.mk ((gt r1 (Ana .i64 v31 1)).Yq) ((gt r1 (Ana .i64 v31 1)).C6) ((gt r1 (Ana .i64 v31 1)).Sy) ((gt r1 (Ana .i64 v31 1)).fUp) ((gt r1 (Ana .i64 v31 1)).Wk) v34 ((gt r1 (Ana .i64 v31 1)).Wl) ((gt r1 (Ana .i64 v31 1)).Wm) ((gt r1 (Ana .i64 v31 1)).A6) ((gt r1 (Ana .i64 v31 1)).Afu) ((gt r1 (Ana .i64 v31 1)).Wn) ((gt r1 (Ana .i64 v31 1)).H7) ((gt r1 (Ana .i64 v31 1)).F3))) fun v41=>(Ara K a0 a1 v41 v28 v29 v30 v31 v32 v33 v34 v35 v36 v37 v38 v39 v40))else none)else(Ara K a0 a1 r1 v28 v29 v30 v31 v32 v33 v34 v35 v36 v37 v38 v39 v40))
def Ax6 (K:Nat)(a0:List A8)(a1:Int):Option ((List A8)):=((As3 K a0).bind fun r1=>((Agg K a0 (Am9 .i64 a1 1)).bind fun r2=>(bif (!r2)then some r1 else(if(0:Int)≤a1∧a1<(a0.length:Int)then((Agg K a0 ((gt a0 a1).Wm)).bind fun r3=>(bif r3 then(if(0:Int)≤(Ana .i64 ((gt a0 a1).Wm) 1)∧(Ana .i64 ((gt a0 a1).Wm) 1)<(r1.length:Int)then(Apm (r1.set (Ana .i64 ((gt a0 a1).Wm) 1).toNat (A8.mk ((gt r1 (Ana .i64 ((gt a0 a1).Wm) 1)).Yq) ((gt r1 (Ana .i64 ((gt a0 a1).Wm) 1)).C6) ((gt r1 (Ana .i64 ((gt a0 a1).Wm) 1)).Sy) ((gt r1 (Ana .i64 ((gt a0 a1).Wm) 1)).fUp) ((gt r1 (Ana .i64 ((gt a0 a1).Wm) 1)).Wk) ((gt r1 (Ana .i64 ((gt a0 a1).Wm) 1)).Er) ((gt a0 a1).Wl) ((gt r1 (Ana .i64 ((gt a0 a1).Wm) 1)).Wm) ((gt r1 (Ana .i64 ((gt a0 a1).Wm) 1)).A6) ((gt r1 (Ana .i64 ((gt a0 a1).Wm) 1)).Afu) ((gt r1 (Ana .i64 ((gt a0 a1).Wm) 1)).Wn) ((gt r1 (Ana .i64 ((gt a0 a1).Wm) 1)).H7) ((gt r1 (Ana .i64 ((gt a0 a1).Wm) 1)).F3))) fun v4=>(Ara K a0 a1 v4 ((gt a0 a1).Yq) ((gt a0 a1).C6) ((gt a0 a1).Sy) ((gt a0 a1).fUp) ((gt a0 a1).Wk) ((gt a0 a1).Er) ((gt a0 a1).Wl) ((gt a0 a1).Wm) ((gt a0 a1).A6) ((gt a0 a1).Afu) ((gt a0 a1).Wn) ((gt a0 a1).H7) ((gt a0 a1).F3)))else none)else(bif (((gt a0 a1).Wm)==0)then((Agg K a0 ((gt a0 a1).fUp)).bind fun r26=>(bif r26 then(if(0:Int)≤(Ana .i64 ((gt a0 a1).fUp) 1)∧(Ana .i64 ((gt a0 a1).fUp) 1)<(a0.length:Int)then(Apz K a0 a1 r1 (((gt a0 (Ana .i64 ((gt a0 a1).fUp) 1)).Er)==(Am9 .i64 a1 1)) ((gt a0 a1).Yq) ((gt a0 a1).C6) ((gt a0 a1).Sy) ((gt a0 a1).fUp) ((gt a0 a1).Wk) ((gt a0 a1).Er) ((gt a0 a1).Wl) ((gt a0 a1).Wm) ((gt a0 a1).A6) ((gt a0 a1).Afu) ((gt a0 a1).Wn) ((gt a0 a1).H7) ((gt a0 a1).F3))else none)else(Apz K a0 a1 r1 false ((gt a0 a1).Yq) ((gt a0 a1).C6) ((gt a0 a1).Sy) ((gt a0 a1).fUp) ((gt a0 a1).Wk) ((gt a0 a1).Er) ((gt a0 a1).Wl) ((gt a0 a1).Wm) ((gt a0 a1).A6) ((gt a0 a1).Afu) ((gt a0 a1).Wn) ((gt a0 a1).H7) ((gt a0 a1).F3))))else(Apz K a0 a1 r1 false ((gt a0 a1).Yq) ((gt a0 a1).C6) ((gt a0 a1).Sy) ((gt a0 a1).fUp) ((gt a0 a1).Wk) ((gt a0 a1).Er) ((gt a0 a1).Wl) ((gt a0 a1).Wm) ((gt a0 a1).A6) ((gt a0 a1).Afu) ((gt a0 a1).Wn) ((gt a0 a1).H7) ((gt a0 a1).F3)))))else none))))
def Bms:=fd Tryz.func202 ⟨[.v 29,.v 3],[.n 29 true],true⟩ (gC (A40 K) (gC (Bdi K) gN)) [35,36,40,41,42] [31,63,499]
def Bu9:Ef:=⟨[(1,.v 2),(5,.o 1005 71 true)],[]⟩
def Bxb:Ef:=⟨[(0,.v 29),(1,.v 2),(5,.o 1005 71 true),(6,.p 106)],[(106,.box [.v 2,.v 2,.v 2,.v 2,.v 2,.v 2,.v 2,.v 2,.v 26,.v 2,.v 2,.v 69,.v 26])]⟩
def Bxc:Ef:=⟨[(0,.v 29),(1,.v 2),(5,.o 1005 71 true),(6,.p 106),(32,.v 4)],[(106,.box [.v 2,.v 2,.v 2,.v 2,.v 2,.v 2,.v 2,.v 2,.v 26,.v 2,.v 2,.v 69,.v 26])]⟩
def Bmt:=jn (Bms K) 63 Bu9 [] (Atb K) kN
def Bdl:=jn (Bms K) 31 Bxb [] (Ara K) (kC (Bmt K) kN)
def Bhi:=jn (Bms K) 499 Bxc [] (Apz K) (kC (Bdl K) kN)
def Bva:=ct (Bms K) (Ax6 K) (kC (Bdl K) (kC (Bhi K) kN))
def Avs (K:Nat)(a0:Ds)(a1:Int):Option (Ds):=(if(0:Int)≤a1∧a1<(a0.fL.length:Int)then((At4 K (gt a0.fL a1) (Am9 .i64 a1 1)).bind fun r1=>(if(0:Int)≤a1∧a1<(a0.fL.length:Int)then((Aqb K a0 ((gt a0.fL a1).A6)).bind fun r2=>((Ax6 K r2.fL a1).bind fun r3=>(if(0:Int)≤a1∧a1<(r3.length:Int)then(if(0:Int)≤a1∧a1<(r3.length:Int)then((Ayi K (gt r3 a1)).bind fun r4=>(if(0:Int)≤a1∧a1<(r3.length:Int)then(if(r2.fQ++([r1]:List Av)).length*72≤140737488355328∧(r2.fQ++([r1]:List Av)).length≤maxLen then some (Ds.mk r2.fC r2.fP (r3.set a1.toNat r4) (r2.fQ++([r1]:List Av)) r2.Afv)else none)else none))else none)else none)))else none))else none)
def Bvb:=ct (fd Tryz.func150 ⟨[.b 32 false,.v 3],[],false⟩ (gC (Bou K) (gC (Bg4 K) (gC (Bva K) (gC (Bos K) gN)))) [] [] [(0,[.take 1 9 5025]),(1,[.put 1,.take 1 9 5025]),(2,[.take 1 9 5025]),(3,[.opn 3031 (.tmp 1),.takeE 3031 8 41992,.takeE 3031 11 41995,.takeE 3031 12 41996]),(4,[.take 1 10 5026,.frz 20448,.frz 20449])] [(23,[.put 1])]) (Avs K)
def Aw2 (K:Nat)(a0:Av):Option (Av):=(if(([]:List Int)++a0.F3).length*8≤140737488355328∧(([]:List Int)++a0.F3).length≤maxLen then(if(([]:List Int)++a0.A6).length*8≤140737488355328∧(([]:List Int)++a0.A6).length≤maxLen then some (Av.mk a0.Be a0.Er (([]:List Int)++a0.F3) (([]:List Int)++a0.A6) a0.Wo)else none)else none)
def Bvc:=ct (fd Tryz.func244 ⟨[.v 79],[.n 79 true],true⟩ gN) (Aw2 K)
def Ape (K:Nat):Nat->Int->Int->Int->Int->Int->Int->Int->(List Int)->(List Int)->(List Int)->(List A8)->(List Av)->(List Int)->Ds->Int->Int->Int->Int->Int->Int->(List Int)->(List Int)->(List Int)->(List A8)->(List Av)->(List Int)->Option (Ds)
 |0,_,_,_,_,_,_,_,_,_,_,_,_,_,_,_,_,_,_,_,_,_,_,_,_,_,_=>none
 |n1+1,v3,v4,v5,v6,v7,v8,v9,v10,v11,v12,v13,v14,v15,v16,v17,v18,v19,v20,v21,v22,v23,v24,v25,v26,v27,v28=>(bif (decide (v3<(v27.length:Int)))then(if(0:Int)≤v3∧v3<(v27.length:Int)then((Aw2 K (gt v27 v3)).bind fun r29=>(if(v14++[r29]).length*72≤140737488355328∧(v14++[r29]).length≤maxLen then(Ape K n1 (Am9 .i64 v3 1) v4 v5 v6 v7 v8 v9 v10 v11 v12 v13 (v14++[r29]) v15 v16 v17 v18 v19 v20 v21 v22 v23 v24 v25 v26 v27 v28)else none))else none)else(if(([]:List Int)++v28).length*8≤140737488355328∧(([]:List Int)++v28).length≤maxLen then some (Ds.mk (D4.mk v4 v5 v6 v7 v8 v9) (Dh.mk v10 v11 v12) v13 v14 (([]:List Int)++v28))else none))
def App (K:Nat)(a0:Ds):Option (Ds):=((Aqa K a0.fP).bind fun r1=>((As3 K a0.fL).bind fun r2=>(Ape K K 0 a0.fC.A6 a0.fC.Kh a0.fC.Fj a0.fC.Hb a0.fC.Fk a0.fC.Ki r1.Sk r1.Yq r1.Sl r2 ([]:List Av) a0.Afv (Ds.mk (D4.mk 0 0 0 0 0 0) (Dh.mk [] [] []) [] [] []) a0.fC.A6 a0.fC.Kh a0.fC.Fj a0.fC.Hb a0.fC.Fk a0.fC.Ki a0.fP.Sk a0.fP.Yq a0.fP.Sl a0.fL a0.fQ a0.Afv)))
def Bvd:=fd Tryz.func208 ⟨[.v 32],[.n 32 true],true⟩ (gC (Bdg K) (gC (Bdi K) (gC (Bvc K) gN))) [] [] [(9,[.take 103 10 6658]),(11,[.take 103 6 6654,.take 103 7 6655,.take 103 8 6656,.take 103 9 6657,.take 103 10 6658])] [(33,[.put 3033])]
def Bxd:Ef:=⟨[(1,.p 101),(2,.p 102),(3,.p 103),(4,.v 2)],[(103,.box [.v 2,.v 2,.v 2,.v 2,.v 2,.v 2,.T 5 true,.T 3 true,.T 3 true,.T 71 true,.T 79 true,.v 26]),(102,.st 32 true),(101,.box [.v 2,.v 2,.v 2,.v 2,.v 2,.v 2,.v 22,.v 26,.v 26,.v 29,.v 30,.v 26])]⟩
def Bhj:=lp (Bvd K) 506 Bxd [] (Ape K) (fun n=>kN)
def A96:=ct (Bvd K) (App K) (kC (Bhj K K) kN)
def Apn (K:Nat)(a0:List A8)(a1:Int):Option (Bool):=(bif (a1==0)then some true else((Agg K a0 a1).bind fun r1=>(bif r1 then(if(0:Int)≤(Ana .i64 a1 1)∧(Ana .i64 a1 1)<(a0.length:Int)then some (((gt a0 (Ana .i64 a1 1)).Yq)==1)else none)else some false)))
def Bve:=ct (fd Tryz.func280 ⟨[.v 29,.v 3],[.v 4],true⟩ (gC (A40 K) gN) [6,7,10,11]) (Apn K)
def Asf (K:Nat)(a0:List A8)(a1:Int):Option (Bool):=((Awi K a0 a1).bind fun r19=>(bif (decide ((r19.length:Int)≤4))then(if(0:Int)≤(Ana .i64 (r19.length:Int) 1)∧(Ana .i64 (r19.length:Int) 1)<(r19.length:Int)then((Arg K a0 (gt r19 (Ana .i64 (r19.length:Int) 1))).bind fun r20=>some (!r20))else none)else some false))
def At7 (K:Nat)(a0:List A8)(a1:Int)(v8:Int)(v12:Int):Option (Bool):=(bif (v12==0)then((Arg K a0 a1).bind fun r18=>(bif r18 then(if(0:Int)≤(Ana .i64 v8 1)∧(Ana .i64 v8 1)<(a0.length:Int)then(bif (((gt a0 (Ana .i64 v8 1)).Er) != (Am9 .i64 a1 1))then some false else(Asf K a0 a1))else none)else(Asf K a0 a1)))else(Asf K a0 a1))
def At8 (K:Nat)(a0:List A8)(a1:Int)(v8:Int)(v12:Int):Option (Bool):=(bif (v12 != 0)then(if(0:Int)≤(Ana .i64 v12 1)∧(Ana .i64 v12 1)<(a0.length:Int)then(bif (((gt a0 (Ana .i64 v12 1)).Wl) != (Am9 .i64 a1 1))then some false else(At7 K a0 a1 v8 v12))else none)else(At7 K a0 a1 v8 v12))
def At9 (K:Nat)(a0:List A8)(a1:Int)(v8:Int)(v9:Int)(v11:Int)(v12:Int):Option (Bool):=(bif (v11 != 0)then(if(0:Int)≤(Ana .i64 v11 1)∧(Ana .i64 v11 1)<(a0.length:Int)then(bif (((gt a0 (Ana .i64 v11 1)).Wm) != (Am9 .i64 a1 1))then some false else(bif (((gt a0 (Ana .i64 v11 1)).fUp) != v8)then some false else(bif (((gt a0 (Ana .i64 v11 1)).Wk) != v9)then some false else(At8 K a0 a1 v8 v12))))else none)else(At8 K a0 a1 v8 v12))
def Aua (K:Nat)(a0:List A8)(a1:Int)(v5:Int)(v6:Int)(v7:Int)(v8:Int)(v9:Int)(v10:Int)(v11:Int)(v12:Int)(v13:List Int)(v14:Int)(v15:Int)(v16:List A7)(v17:List Int):Option (Bool):=(bif (v10 != 0)then(if(0:Int)≤(Ana .i64 v10 1)∧(Ana .i64 v10 1)<(a0.length:Int)then(bif (((gt a0 (Ana .i64 v10 1)).Wm) != 0)then some false else(bif (((gt a0 (Ana .i64 v10 1)).fUp) != (Am9 .i64 a1 1))then some false else(bif (((gt a0 (Ana .i64 v10 1)).Wk) != v7)then some false else(At9 K a0 a1 v8 v9 v11 v12))))else none)else(At9 K a0 a1 v8 v9 v11 v12))
def Ayz (K:Nat)(a0:List A8)(a1:Int):Option (Bool):=(if(0:Int)≤a1∧a1<(a0.length:Int)then(bif (((gt a0 a1).fUp) != 0)then((Agg K a0 ((gt a0 a1).fUp)).bind fun r1=>(bif r1 then((Apn K a0 ((gt a0 a1).Er)).bind fun r2=>(bif r2 then((Apn K a0 ((gt a0 a1).Wl)).bind fun r3=>(bif r3 then((Apn K a0 ((gt a0 a1).Wm)).bind fun r4=>(bif (!r4)then some false else(Aua K a0 a1 ((gt a0 a1).Yq) ((gt a0 a1).C6) ((gt a0 a1).Sy) ((gt a0 a1).fUp) ((gt a0 a1).Wk) ((gt a0 a1).Er) ((gt a0 a1).Wl) ((gt a0 a1).Wm) ((gt a0 a1).A6) ((gt a0 a1).Afu) ((gt a0 a1).Wn) ((gt a0 a1).H7) ((gt a0 a1).F3))))else some false))else some false))else some false))else((Apn K a0 ((gt a0 a1).Er)).bind fun r21=>(bif r21 then((Apn K a0 ((gt a0 a1).Wl)).bind fun r22=>(bif r22 then((Apn K a0 ((gt a0 a1).Wm)).bind fun r23=>(bif (!r23)then some false else(Aua K a0 a1 ((gt a0 a1).Yq) ((gt a0 a1).C6) ((gt a0 a1).Sy) ((gt a0 a1).fUp) ((gt a0 a1).Wk) ((gt a0 a1).Er) ((gt a0 a1).Wl) ((gt a0 a1).Wm) ((gt a0 a1).A6) ((gt a0 a1).Afu) ((gt a0 a1).Wn) ((gt a0 a1).H7) ((gt a0 a1).F3))))else some false))else some false)))else none)
def Ben:=fd Tryz.func273 ⟨[.v 29,.v 3],[.v 4],true⟩ (gC (Bgr K) (gC (Bgs K) (gC (A40 K) (gC (Bve K) gN)))) [15,16,20,21,22,23,27,28,29,30,34,35,36,37,55,56,61,62,63,83,84,89,90,91,100,101,115,116,119,120,121,138,139] [7,15,31,63,127]
def Bxe:Ef:=⟨[(0,.v 29),(1,.v 2)],[]⟩
def A97:Ef:=⟨[(0,.v 29),(1,.v 2),(5,.p 105)],[(105,.box [.v 2,.v 2,.v 2,.v 2,.v 2,.v 2,.v 2,.v 2,.v 26,.v 2,.v 2,.v 69,.v 26])]⟩
def Bhk:=jn (Ben K) 127 Bxe [] (Asf K) kN
def Bmu:=jn (Ben K) 63 A97 [] (fun a b _ _ _ f _ _ _ j _ _ _ _ _=>At7 K a b f j) (kC (Bhk K) kN)
def Bmv:=jn (Ben K) 31 A97 [] (fun a b _ _ _ f _ _ _ j _ _ _ _ _=>At8 K a b f j) (kC (Bmu K) kN)
def Bmw:=jn (Ben K) 15 A97 [] (fun a b _ _ _ f g _ i j _ _ _ _ _=>At9 K a b f g i j) (kC (Bmv K) kN)
def Bqd:=jn (Ben K) 7 A97 [] (Aua K) (kC (Bmw K) kN)
def Bvf:=ct (Ben K) (Ayz K) (kC (Bqd K) kN)
def Avt (K:Nat)(v1:Int)(C1:Int->Option (Bool)):Option (Bool):=(C1 (Am9 .i64 v1 1))
def Ao6 (K:Nat)(a0:List A8):Nat->Int->Option (Bool)
 |0,_=>none
 |n1+1,v1=>(bif (decide (v1<(a0.length:Int)))then(if(0:Int)≤v1∧v1<(a0.length:Int)then(bif (((gt a0 v1).Yq)==1)then((Ayz K a0 v1).bind fun r2=>(bif (!r2)then some false else(Avt K v1 (Ao6 K a0 n1))))else(Avt K v1 (Ao6 K a0 n1)))else none)else some true)
def Ax7 (K:Nat)(a0:List A8):Option (Bool):=(Ao6 K a0 K 0)
def Bqe:=fd Tryz.func255 ⟨[.v 29],[.v 4],true⟩ (gC (Bvf K) gN) [15,16] [105]
def Bhl:=fun(C26:CT Bg6 _)=>jn (Bqe K) 105 Bg6 [(26,ar Bg6 C26)] (fun a b=>Avt K b (C26 a)) kN
def Bmx:=lp (Bqe K) 26 Bg6 [] (fun n a=>Ao6 K a n) (fun n=>(kC (Bhl K _) kN))
def Bvg:=ct (Bqe K) (Ax7 K) (kC (Bmx K K) kN)
def Auq (K:Nat)(v2:Int)(v3:List Int)(v4:List Int)(v5:List Int)(C1:Int->Int->(List Int)->(List Int)->(List Int)->Option (Int))(v6:Int):Option (Int):=(C1 v6 (Am9 .i64 v2 1) v3 v4 v5)
def Aof (K:Nat)(a1:Int):Nat->Int->Int->(List Int)->(List Int)->(List Int)->Option (Int)
 |0,_,_,_,_,_=>none
 |n1+1,v1,v2,v3,v4,v5=>(bif (decide (v2<(v4.length:Int)))then(if(0:Int)≤v2∧v2<(v4.length:Int)then(bif ((gt v4 v2)==a1)then(Auq K v2 v3 v4 v5 (Aof K a1 n1) (Am9 .i64 v1 1))else(Auq K v2 v3 v4 v5 (Aof K a1 n1) v1))else none)else some v1)
def Aw3 (K:Nat)(a0:Dh)(a1:Int):Option (Int):=(Aof K a1 K 0 0 a0.Sk a0.Yq a0.Sl)
def Bqf:=fd Tryz.func278 ⟨[.v 28,.v 3],[.v 3],true⟩ gN [] [233]
def Bmy:Ef:=⟨[(1,.v 2),(2,.p 102),(5,.v 2),(6,.v 2)],[(102,.box [.v 22,.v 26,.v 26])]⟩
def Bhm:=fun(C58:CT Bmy _)=>jn Bqf 233 Bmy [(58,ar Bmy C58)] (fun a b c d e f=>Auq K c d e f (C58 a) b) kN
def Bmz:=lp Bqf 58 Bmy [] (fun n a=>Aof K a n) (fun n=>(kC (Bhm K _) kN))
def Bvh:=ct Bqf (Aw3 K) (kC (Bmz K K) kN)
def Asg (K:Nat)(a0:List A8)(a1:Int):Option (Bool):=(if(0:Int)≤a1∧a1<(a0.length:Int)then(bif (((gt a0 a1).Yq)==1)then(if(0:Int)≤a1∧a1<(a0.length:Int)then(bif (((gt a0 a1).fUp) != 0)then((Arg K a0 a1).bind fun r1=>some (!r1))else some false)else none)else some false)else none)
def Bo0:=ct (fd Tryz.func277 ⟨[.v 29,.v 3],[.v 4],true⟩ (gC (Bgs K) gN) [10,11,17,18,19]) (Asg K)
def Atc (K:Nat)(a0:List A8):Nat->Int->(List Int)->Option ((List Int))
 |0,_,_=>none
 |n1+1,v1,v2=>((Agg K a0 v1).bind fun r3=>(bif r3 then(bif (decide ((v2.length:Int)<(a0.length:Int)))then(if(v2++([(Ana .i64 v1 1)]:List Int)).length*8≤140737488355328∧(v2++([(Ana .i64 v1 1)]:List Int)).length≤maxLen then(if(0:Int)≤(Ana .i64 v1 1)∧(Ana .i64 v1 1)<(a0.length:Int)then(Atc K a0 n1 ((gt a0 (Ana .i64 v1 1)).Wl) (v2++([(Ana .i64 v1 1)]:List Int)))else none)else none)else some v2)else some v2))
def Ava (K:Nat)(a0:List A8)(a1:Int):Option ((List Int)):=(Atc K a0 K a1 ([]:List Int))
def Bvi:=fd Tryz.func276 ⟨[.v 29,.v 3],[.n 26 true],true⟩ (gC (A40 K) gN) [9,10]
def Bm0:=lp (Bvi K) 28 h_4 [] (fun n a=>Atc K a n) (fun n=>kN)
def Bo1:=ct (Bvi K) (Ava K) (kC (Bm0 K K) kN)
def Anz (K:Nat)(v4:Int)(v15:List Av)(v20:List Int)(v21:Int)(C3:(List Int)->Int->Option (Bool)):Nat->Int->Option (Bool)
 |0,_=>none
 |n5+1,v22=>(if(0:Int)≤v4∧v4<(v15.length:Int)then(bif (decide (v22<(((gt v15 v4).A6).length:Int)))then(if(0:Int)≤v21∧v21<(v15.length:Int)then(if(0:Int)≤v4∧v4<(v15.length:Int)then(if(0:Int)≤v22∧v22<(((gt v15 v4).A6).length:Int)then((Apk K ((gt v15 v21).A6) (gt ((gt v15 v4).A6) v22)).bind fun r23=>(bif r23 then some false else(Anz K v4 v15 v20 v21 C3 n5 (Am9 .i64 v22 1))))else none)else none)else none)else(C3 v20 (Am9 .i64 v21 1)))else none)
def Aqw (K:Nat)(v4:Int)(v15:List Av)(v20:List Int)(v21:Int)(C3:(List Int)->Int->Option (Bool)):Option (Bool):=(Anz K v4 v15 v20 v21 (C3) K 0)
def Amd (K:Nat)(v4:Int)(v5:Int)(v6:Int)(v7:Int)(v8:Int)(v9:Int)(v10:Int)(v11:List Int)(v12:List Int)(v13:List Int)(v14:List A8)(v15:List Av)(v16:List Int)(v17:Int)(v18:Int)(C1:Int->Int->(List Int)->Int->Int->Int->Int->Int->Int->Int->(List Int)->(List Int)->(List Int)->(List A8)->(List Av)->(List Int)->Option (Bool)):Nat->(List Int)->Int->Option (Bool)
 |0,_,_=>none
 |n3+1,v20,v21=>(bif (decide (v21<v4))then(if(0:Int)≤v4∧v4<(v15.length:Int)then(bif (((gt v15 v4).Be) != 0)then(if(0:Int)≤v21∧v21<(v15.length:Int)then(if(0:Int)≤v4∧v4<(v15.length:Int)then(bif (((gt v15 v21).Be)==((gt v15 v4).Be))then some false else(Aqw K v4 v15 v20 v21 (Amd K v4 v5 v6 v7 v8 v9 v10 v11 v12 v13 v14 v15 v16 v17 v18 C1 n3)))else none)else none)else(Aqw K v4 v15 v20 v21 (Amd K v4 v5 v6 v7 v8 v9 v10 v11 v12 v13 v14 v15 v16 v17 v18 C1 n3)))else none)else(C1 v17 v18 v20 (Am9 .i64 v4 1) v5 v6 v7 v8 v9 v10 v11 v12 v13 v14 v15 v16))
def Aqx (K:Nat)(v3:List Int)(v4:Int)(v5:Int)(v6:Int)(v7:Int)(v8:Int)(v9:Int)(v10:Int)(v11:List Int)(v12:List Int)(v13:List Int)(v14:List A8)(v15:List Av)(v16:List Int)(C1:Int->Int->(List Int)->Int->Int->Int->Int->Int->Int->Int->(List Int)->(List Int)->(List Int)->(List A8)->(List Av)->(List Int)->Option (Bool))(v17:Int)(v18:Int):Option (Bool):=(if(0:Int)≤v4∧v4<(v15.length:Int)then((Ava K v14 ((gt v15 v4).Er)).bind fun r19=>(if(v3++r19).length*8≤140737488355328∧(v3++r19).length≤maxLen then(Amd K v4 v5 v6 v7 v8 v9 v10 v11 v12 v13 v14 v15 v16 v17 v18 (C1) K (v3++r19) 0)else none))else none)
def As4 (K:Nat)(v25:Int)(C6:Int->Int->Option (Bool))(v27:Int):Option (Bool):=(C6 v27 (Am9 .i64 v25 1))
def Ame (K:Nat)(v1:Int)(v2:Int)(v3:List Int)(v11:List Int)(v12:List Int)(v13:List Int)(v14:List A8)(v24:Int):Nat->Int->Option (Bool)
 |0,_=>none
 |n8+1,v28=>(bif (decide (v28<(v3.length:Int)))then(if(0:Int)≤0∧0≤v28∧v28≤(v3.length:Int)then(if(0:Int)≤v28∧v28<(v3.length:Int)then((Apk K ((v3.drop (0:Int).toNat).take (v28 - 0).toNat) (gt v3 v28)).bind fun r29=>(bif r29 then some false else(Ame K v1 v2 v3 v11 v12 v13 v14 v24 n8 (Am9 .i64 v28 1))))else none)else none)else((Aw3 K (Dh.mk v11 v12 v13) 2).bind fun r30=>(bif (v1==r30)then((Apu K v14 2).bind fun r31=>(bif (v2==r31)then some ((v3.length:Int)==v24)else some false))else some false)))
def Aih (K:Nat)(v1:Int)(v2:Int)(v3:List Int)(v11:List Int)(v12:List Int)(v13:List Int)(v14:List A8):Nat->Int->Int->Option (Bool)
 |0,_,_=>none
 |n6+1,v24,v25=>(bif (decide (v25<(v14.length:Int)))then((Asg K v14 v25).bind fun r26=>(bif r26 then(As4 K v25 (Aih K v1 v2 v3 v11 v12 v13 v14 n6) (Am9 .i64 v24 1))else(As4 K v25 (Aih K v1 v2 v3 v11 v12 v13 v14 n6) v24)))else(Ame K v1 v2 v3 v11 v12 v13 v14 v24 K 0))
def Agp (K:Nat):Nat->Int->Int->(List Int)->Int->Int->Int->Int->Int->Int->Int->(List Int)->(List Int)->(List Int)->(List A8)->(List Av)->(List Int)->Option (Bool)
 |0,_,_,_,_,_,_,_,_,_,_,_,_,_,_,_,_=>none
 |n1+1,v1,v2,v3,v4,v5,v6,v7,v8,v9,v10,v11,v12,v13,v14,v15,v16=>(bif (decide (v4<(v15.length:Int)))then(if(0:Int)≤v4∧v4<(v15.length:Int)then(if(0:Int)≤v4∧v4<(v15.length:Int)then(bif (((gt v15 v4).Be) != 0)then(Aqx K v3 v4 v5 v6 v7 v8 v9 v10 v11 v12 v13 v14 v15 v16 (Agp K n1) (Am9 .i64 v1 (((gt v15 v4).A6).length:Int)) (Am9 .i64 v2 1))else(Aqx K v3 v4 v5 v6 v7 v8 v9 v10 v11 v12 v13 v14 v15 v16 (Agp K n1) (Am9 .i64 v1 (((gt v15 v4).A6).length:Int)) v2))else none)else none)else(Aih K v1 v2 v3 v11 v12 v13 v14 K 0 0))
def Aur (K:Nat)(a0:Ds):Option (Bool):=(Agp K K 0 0 ([]:List Int) 0 a0.fC.A6 a0.fC.Kh a0.fC.Fj a0.fC.Hb a0.fC.Fk a0.fC.Ki a0.fP.Sk a0.fP.Yq a0.fP.Sl a0.fL a0.fQ a0.Afv)
def A8h:=fd Tryz.func261 ⟨[.v 32],[.v 4],true⟩ (gC (Boo K) (gC (A95 K) (gC (Bo1 K) (gC (Bo0 K) (gC (Bvh K) gN))))) [60,61,134,135,140,141,142] [4073,8009,2050532]
def Bxf:Ef:=⟨[(1,.p 101),(3,.v 2),(4,.v 2),(5,.o 1005 3 true),(6,.v 2),(7,.v 2),(8,.v 2)],[(101,.box [.v 2,.v 2,.v 2,.v 2,.v 2,.v 2,.v 22,.v 26,.v 26,.v 29,.v 30,.v 26])]⟩
def Beo:Ef:=⟨[(1,.p 101),(3,.v 2),(4,.v 2),(5,.o 1005 3 true),(6,.v 2),(7,.v 2)],[(101,.box [.v 2,.v 2,.v 2,.v 2,.v 2,.v 2,.v 22,.v 26,.v 26,.v 29,.v 30,.v 26])]⟩
def A68:Ef:=⟨[(1,.p 101),(3,.v 2),(4,.v 2),(5,.o 1005 3 true),(6,.v 2)],[(101,.box [.v 2,.v 2,.v 2,.v 2,.v 2,.v 2,.v 22,.v 26,.v 26,.v 29,.v 30,.v 26])]⟩
def Bm1:Ef:=⟨[(1,.p 101),(3,.v 2),(4,.v 2),(5,.o 1005 3 true),(9,.v 2),(10,.v 2)],[(101,.box [.v 2,.v 2,.v 2,.v 2,.v 2,.v 2,.v 22,.v 26,.v 26,.v 29,.v 30,.v 26])]⟩
def Bxg:Ef:=⟨[(1,.p 101),(3,.v 2),(4,.v 2),(5,.o 1005 3 true),(9,.v 2),(11,.v 2)],[(101,.box [.v 2,.v 2,.v 2,.v 2,.v 2,.v 2,.v 22,.v 26,.v 26,.v 29,.v 30,.v 26])]⟩
def A69:=fun(C250:CT A68 _) (C128158:CT Beo _)=>lp (A8h K) 16404262 Bxf [(128158,ar Beo C128158),(250,ar A68 C250)] (fun n a b c d e f g h i j k l m o p q r s=>Anz K d r c e (fun v20 v21=>C128158 a b v20 d v21 g h i j k l m o p q r s) n f) (fun n=>kN)
def A8i:=fun(C250:CT A68 _) (C128158:CT Beo _)=>jn (A8h K) 2050532 Beo [(128158,ar Beo C128158),(250,ar A68 C250)] (fun a b c d e f g h i j k l m o p q r=>Aqw K d q c e (fun v20 v21=>C128158 a b v20 d v21 f g h i j k l m o p q r)) (kC (A69 K _ _ K) kN)
def A98:=fun(C250:CT A68 _)=>lp (A8h K) 128158 Beo [(250,ar A68 C250)] (fun n a b c d e f g h i j k l m o p q r=>Amd K d f g h i j k l m o p q r a b C250 n c e) (fun n=>(kC (A8i K _ _) kN))
def Bep:=fun(C250:CT A68 _)=>jn (A8h K) 8009 A68 [(250,ar A68 C250)] (fun a b c d e f g h i j k l m o p q=>Aqx K c d e f g h i j k l m o p q C250 a b) (kC (A98 K _ K) kN)
def Beq:=fun(C1018:CT Bm1 _)=>jn (A8h K) 4073 Bm1 [(1018,ar Bm1 C1018)] (fun a b c d e f g h i j k l m o p q r=>As4 K e (fun v24 v25=>C1018 a b c v24 v25 f g h i j k l m o p q r) d) kN
def Ber:=lp (A8h K) 2042 Bxg [] (fun n a b c d e _ _ _ _ _ _ l m o p _ _=>Ame K a b c l m o p d n e) (fun n=>kN)
def Bes:=lp (A8h K) 1018 Bm1 [] (fun n a b c d e _ _ _ _ _ _ l m o p _ _=>Aih K a b c l m o p n d e) (fun n=>(kC (Beq K _) (kC (up (Ber K K)) kN)))
def Bhn:=lp (A8h K) 250 A68 [] (Agp K) (fun n=>(kC (Bep K _) (kC (up (Bes K K)) kN)))
def Bvj:=ct (A8h K) (Aur K) (kC (Bhn K K) kN)
def Aog (K:Nat)(a0:D4)(v8:List Int):Nat->Int->Option (Bool)
 |0,_=>none
 |n3+1,v12=>(bif (decide (v12<(v8.length:Int)))then(if(0:Int)≤v12∧v12<(v8.length:Int)then((K0 K (gt v8 v12) 0 (Ana .i64 a0.A6 1)).bind fun r13=>(bif r13 then(if(0:Int)≤0∧0≤v12∧v12≤(v8.length:Int)then(if(0:Int)≤v12∧v12<(v8.length:Int)then((Apk K ((v8.drop (0:Int).toNat).take (v12 - 0).toNat) (gt v8 v12)).bind fun r14=>(bif r14 then some false else(Aog K a0 v8 n3 (Am9 .i64 v12 1))))else none)else none)else some false))else none)else some true)
def Apf (K:Nat)(a0:D4)(v7:List Int)(v8:List Int):Nat->Int->Option (Bool)
 |0,_=>none
 |n2+1,v10=>(bif (decide (v10<(v7.length:Int)))then(if(0:Int)≤v10∧v10<(v7.length:Int)then((K0 K (gt v7 v10) 0 255).bind fun r11=>(bif (!r11)then some false else(Apf K a0 v7 v8 n2 (Am9 .i64 v10 1))))else none)else(Aog K a0 v8 K 0))
def Aus (K:Nat)(a0:D4)(v5:Int)(v6:Int)(v7:List Int)(v8:List Int)(v9:Int):Option (Bool):=(Apf K a0 v7 v8 K 0)
def Aw4 (K:Nat)(a0:D4)(a1:Av):Option (Bool):=((Am2 K a0).bind fun r1=>(bif r1 then((K0 K a1.Be 0 a0.Fj).bind fun r2=>(bif r2 then((K0 K a1.Er 0 a0.Fj).bind fun r3=>(bif r3 then(bif (decide ((a1.F3.length:Int)>6))then some false else((K0 K a1.Wo 0 (Ana .i64 a0.Kh 1)).bind fun r4=>(bif r4 then(bif ((a1.A6.length:Int)==0)then(bif (a1.Wo != 0)then some false else(Aus K a0 a1.Be a1.Er a1.F3 a1.A6 a1.Wo))else(Aus K a0 a1.Be a1.Er a1.F3 a1.A6 a1.Wo))else some false)))else some false))else some false))else some false))
def Bm2:=fd Tryz.func275 ⟨[.v 25,.v 79],[.v 4],true⟩ (gC (A0g K) (gC (A93 K) (gC (A95 K) gN))) [8,9,10,15,16,17,18,23,24,25,26,30,31,32,38,39,40,41,45,46,81,82,83] [3]
def Bxh:Ef:=⟨[(2,.p 102),(3,.p 103),(6,.v 2)],[(103,.box [.v 2,.v 2,.v 26,.v 26,.v 2]),(102,.st 25 true)]⟩
def Bxi:Ef:=⟨[(2,.p 102),(3,.p 103),(5,.v 2)],[(103,.box [.v 2,.v 2,.v 26,.v 26,.v 2]),(102,.st 25 true)]⟩
def Bxj:Ef:=⟨[(2,.p 102),(3,.p 103)],[(103,.box [.v 2,.v 2,.v 26,.v 26,.v 2]),(102,.st 25 true)]⟩
def Bho:=lp (Bm2 K) 122 Bxh [] (fun n a _ _ _ e _ g=>Aog K g e n a) (fun n=>kN)
def Bm3:=lp (Bm2 K) 58 Bxi [] (fun n a _ _ d e _ g=>Apf K g d e n a) (fun n=>(kC (up (Bho K K)) kN))
def Bqg:=jn (Bm2 K) 3 Bxj [] (fun a b c d e f=>Aus K f a b c d e) (kC (Bm3 K K) kN)
def Bvk:=ct (Bm2 K) (Aw4 K) (kC (Bqg K) kN)
def Apw (K:Nat)(v17:List A8)(r21:(List Int)):Nat->Int->Option (Bool)
 |0,_=>none
 |n4+1,v22=>(bif (decide (v22<(r21.length:Int)))then(if(0:Int)≤v22∧v22<(r21.length:Int)then((Asg K v17 (gt r21 v22)).bind fun r23=>(bif (!r23)then some false else(Apw K v17 r21 n4 (Am9 .i64 v22 1))))else none)else some true)
def Aou (K:Nat)(v4:Int)(v17:List A8):Option (Bool):=((Ava K v17 v4).bind fun r21=>(Apw K v17 r21 K 0))
def Arl (K:Nat)(v3:Int)(v4:Int)(v17:List A8):Option (Bool):=(bif (v3 != 0)then(if(0:Int)≤(Ana .i64 v3 1)∧(Ana .i64 v3 1)<(v17.length:Int)then(bif (((gt v17 (Ana .i64 v3 1)).Yq) != 2)then some false else(bif (v4 != 0)then(if(0:Int)≤(Ana .i64 v4 1)∧(Ana .i64 v4 1)<(v17.length:Int)then(bif (((gt v17 (Ana .i64 v4 1)).Wm) != 0)then some false else(Aou K v4 v17))else none)else(Aou K v4 v17)))else none)else(bif (v4 != 0)then(if(0:Int)≤(Ana .i64 v4 1)∧(Ana .i64 v4 1)<(v17.length:Int)then(bif (((gt v17 (Ana .i64 v4 1)).Wm) != 0)then some false else(Aou K v4 v17))else none)else(Aou K v4 v17)))
def Aov (K:Nat):Nat->Int->Int->Int->(List Int)->(List Int)->Int->Int->Int->Int->Int->Int->Int->(List Int)->(List Int)->(List Int)->(List A8)->(List Av)->(List Int)->Option (Bool)
 |0,_,_,_,_,_,_,_,_,_,_,_,_,_,_,_,_,_,_=>none
 |n1+1,v2,v3,v4,v5,v6,v7,v8,v9,v10,v11,v12,v13,v14,v15,v16,v17,v18,v19=>(bif (decide (v2<(v6.length:Int)))then(if(0:Int)≤v2∧v2<(v6.length:Int)then(if(0:Int)≤(gt v6 v2)∧(gt v6 v2)<(v15.length:Int)then(bif ((gt v15 (gt v6 v2)) != 2)then some false else(Aov K n1 (Am9 .i64 v2 1) v3 v4 v5 v6 v7 v8 v9 v10 v11 v12 v13 v14 v15 v16 v17 v18 v19))else none)else none)else(bif (decide ((v6.length:Int)>0))then(if(0:Int)≤0∧0<(v6.length:Int)then(if(0:Int)≤0∧0<(v6.length:Int)then(if(0:Int)≤(Anb .i64 (gt v6 0) v9)∧(Anb .i64 (gt v6 0) v9)≤(Am9 .i64 (Anb .i64 (gt v6 0) v9) v7)∧(Am9 .i64 (Anb .i64 (gt v6 0) v9) v7)≤(v14.length:Int)then((Art K ((v14.drop (Anb .i64 (gt v6 0) v9).toNat).take ((Am9 .i64 (Anb .i64 (gt v6 0) v9) v7) - (Anb .i64 (gt v6 0) v9)).toNat)).bind fun r20=>(bif (!r20)then some false else(Arl K v3 v4 v17)))else none)else none)else none)else(Arl K v3 v4 v17)))
def Avu (K:Nat)(a0:Ds)(a1:Int):Option (Bool):=(if(0:Int)≤a1∧a1<(a0.fQ.length:Int)then((Aw4 K a0.fC (gt a0.fQ a1)).bind fun r1=>(bif (!r1)then some false else(Aov K K 0 ((gt a0.fQ a1).Be) ((gt a0.fQ a1).Er) ((gt a0.fQ a1).F3) ((gt a0.fQ a1).A6) ((gt a0.fQ a1).Wo) a0.fC.A6 a0.fC.Kh a0.fC.Fj a0.fC.Hb a0.fC.Fk a0.fC.Ki a0.fP.Sk a0.fP.Yq a0.fP.Sl a0.fL a0.fQ a0.Afv)))else none)
def Bhp:=fd Tryz.func260 ⟨[.v 32,.v 3],[.v 4],true⟩ (gC (Bdh K) (gC (Bvk K) (gC (Bo1 K) (gC (Bo0 K) gN)))) [40,41,70,71,80,81,82,85,86] [31,63]
def Bxk:Ef:=⟨[(2,.p 102),(7,.v 26),(8,.v 2)],[(102,.box [.v 2,.v 2,.v 2,.v 2,.v 2,.v 2,.v 22,.v 26,.v 26,.v 29,.v 30,.v 26])]⟩
def Bvl:Ef:=⟨[(2,.p 102),(5,.p 105)],[(105,.box [.v 2,.v 2,.v 26,.v 26,.v 2]),(102,.box [.v 2,.v 2,.v 2,.v 2,.v 2,.v 2,.v 22,.v 26,.v 26,.v 29,.v 30,.v 26])]⟩
def Bxl:Ef:=⟨[(2,.p 102),(5,.p 105),(6,.v 2)],[(105,.box [.v 2,.v 2,.v 26,.v 26,.v 2]),(102,.box [.v 2,.v 2,.v 2,.v 2,.v 2,.v 2,.v 22,.v 26,.v 26,.v 29,.v 30,.v 26])]⟩
def Bet:=lp (Bhp K) 2042 Bxk [] (fun n a b _ _ _ _ _ _ _ _ _ l _ _=>Apw K l a n b) (fun n=>kN)
def Bm4:=jn (Bhp K) 63 Bvl [] (fun _ b _ _ _ _ _ _ _ _ _ _ _ _ p _ _=>Aou K b p) (kC (Bet K K) kN)
def Bm5:=jn (Bhp K) 31 Bvl [] (fun a b _ _ _ _ _ _ _ _ _ _ _ _ p _ _=>Arl K a b p) (kC (Bm4 K) kN)
def Bhq:=lp (Bhp K) 122 Bxl [] (Aov K) (fun n=>(kC (up (Bm5 K)) kN))
def Bvm:=ct (Bhp K) (Avu K) (kC (Bhq K K) kN)
def An3 (K:Nat)(a1:Int)(r1:(List Int)):Nat->Int->Int->Int->Int->Int->Int->Int->(List Int)->(List Int)->(List Int)->(List A8)->(List Av)->(List Int)->Option (Bool)
 |0,_,_,_,_,_,_,_,_,_,_,_,_,_=>none
 |n1+1,v2,v3,v4,v5,v6,v7,v8,v9,v10,v11,v12,v13,v14=>(bif (decide (v2<(r1.length:Int)))then(if(0:Int)≤a1∧a1<(v12.length:Int)then(if(0:Int)≤v2∧v2<(r1.length:Int)then((Apk K ((gt v12 a1).A6) (gt r1 v2)).bind fun r15=>(bif (!r15)then some false else(An3 K a1 r1 n1 (Am9 .i64 v2 1) v3 v4 v5 v6 v7 v8 v9 v10 v11 v12 v13 v14)))else none)else none)else(if(0:Int)≤a1∧a1<(v12.length:Int)then some ((r1.length:Int)==(((gt v12 a1).A6).length:Int))else none))
def Aut (K:Nat)(a0:Ds)(a1:Int):Option (Bool):=((At3 K a0.fP a1).bind fun r1=>(An3 K a1 r1 K 0 a0.fC.A6 a0.fC.Kh a0.fC.Fj a0.fC.Hb a0.fC.Fk a0.fC.Ki a0.fP.Sk a0.fP.Yq a0.fP.Sl a0.fL a0.fQ a0.Afv))
def Bvn:=fd Tryz.func256 ⟨[.v 32,.v 3],[.v 4],true⟩ (gC (Bon K) (gC (A95 K) gN))
def Bxm:Ef:=⟨[(1,.v 2),(2,.p 102),(5,.v 26),(6,.v 2)],[(102,.box [.v 2,.v 2,.v 2,.v 2,.v 2,.v 2,.v 22,.v 26,.v 26,.v 29,.v 30,.v 26])]⟩
def Bm6:=lp (Bvn K) 58 Bxm [] (fun n a b=>An3 K a b n) (fun n=>kN)
def Bvo:=ct (Bvn K) (Aut K) (kC (Bm6 K K) kN)
def Aow (K:Nat)(a0:D4)(v1:Int)(v2:Int)(v3:Int)(v4:Int)(v5:Int)(v6:Int)(v7:Int)(v8:Int)(v9:Int)(v10:List Int)(v11:Int)(v12:Int)(v13:List A7)(v14:List Int)(C1:Int->Int->Int->Int->Int->Int->Int->Int->Int->(List Int)->Int->Int->(List A7)->(List Int)->Option (Bool)):Nat->Int->A7->Option (Bool)
 |0,_,_=>none
 |n2+1,v16,v17=>(if a0.Kh≠(0:Int)then(bif (decide (v16≤(Akr .i64 (Ana .i64 (Am9 .i64 v17.fAt v17.Ai8) 1) a0.Kh)))then((Apk K v10 v16).bind fun r18=>(bif (!r18)then some false else(Aow K a0 v1 v2 v3 v4 v5 v6 v7 v8 v9 v10 v11 v12 v13 v14 C1 n2 (Am9 .i64 v16 1) v17)))else(C1 (Am9 .i64 v1 1) v2 v3 v4 v5 v6 v7 v8 v9 v10 v11 v12 v13 v14))else none)
def Akl (K:Nat)(a0:D4):Nat->Int->Int->Int->Int->Int->Int->Int->Int->Int->(List Int)->Int->Int->(List A7)->(List Int)->Option (Bool)
 |0,_,_,_,_,_,_,_,_,_,_,_,_,_,_=>none
 |n1+1,v1,v2,v3,v4,v5,v6,v7,v8,v9,v10,v11,v12,v13,v14=>(bif (decide (v1<(v13.length:Int)))then(if(0:Int)≤v1∧v1<(v13.length:Int)then((Asb K a0 (gt v13 v1)).bind fun r15=>(bif (!r15)then some false else(if a0.Kh≠(0:Int)then(Aow K a0 v1 v2 v3 v4 v5 v6 v7 v8 v9 v10 v11 v12 v13 v14 (Akl K a0 n1) K (Akr .i64 ((gt v13 v1).fAt) a0.Kh) (gt v13 v1))else none)))else none)else some true)
def Avv (K:Nat)(a0:D4)(a1:A8):Option (Bool):=(Akl K a0 K 0 a1.Yq a1.C6 a1.Sy a1.fUp a1.Wk a1.Er a1.Wl a1.Wm a1.A6 a1.Afu a1.Wn a1.H7 a1.F3)
def Bqh:=fd Tryz.func257 ⟨[.v 25,.v 71],[.v 4],true⟩ (gC (Box K) (gC (A95 K) gN))
def Bxn:Ef:=⟨[(2,.p 102),(3,.p 103),(5,.v 2),(6,.p 106),(7,.v 2)],[(106,.st 112 true),(103,.box [.v 2,.v 2,.v 2,.v 2,.v 2,.v 2,.v 2,.v 2,.v 26,.v 2,.v 2,.v 69,.v 26]),(102,.st 25 true)]⟩
def Beu:=fun(C26:CT Bg9 _)=>lp (Bqh K) 6734 Bxn [(26,ar Bg9 C26)] (fun n a b c d e f g h i j k l m o p q r=>Aow K r a d e f g h i j k l m o p q (fun v1 v2 v3 v4 v5 v6 v7 v8 v9 v10 v11 v12 v13 v14=>C26 v1 v2 v3 v4 v5 v6 v7 v8 v9 v10 v11 v12 v13 v14 r) n b c) (fun n=>kN)
def Bm7:=lp (Bqh K) 26 Bg9 [] (fun n a b c d e f g h i j k l m o p=>Akl K p n a b c d e f g h i j k l m o) (fun n=>(kC (Beu K _ K) kN))
def Bvp:=ct (Bqh K) (Avv K) (kC (Bm7 K K) kN)
def Ay0 (K:Nat)(a0:A7)(a1:A7):Option (Bool):=(bif (decide (a0.Ai8<1))then some true else(bif (decide (a1.Ai8<1))then some true else(bif (decide (a0.fAt≤a1.fAt))then(bif (decide ((Ana .i64 a1.fAt a0.fAt)≥a0.Ai8))then some true else some (decide ((Ana .i64 a1.fAt a0.fAt)<0)))else(bif (decide ((Ana .i64 a0.fAt a1.fAt)≥a1.Ai8))then some true else some (decide ((Ana .i64 a0.fAt a1.fAt)<0))))))
def Bqi:=ct (fd Tryz.func274 ⟨[.v 112,.v 112],[.v 4],true⟩ gN [7,8,25,26,41,42]) (Ay0 K)
def Aox (K:Nat)(a0:List A7)(v1:Int)(C1:Int->Option (Bool)):Nat->Int->Option (Bool)
 |0,_=>none
 |n2+1,v2=>(bif (decide (v2<v1))then(if(0:Int)≤v1∧v1<(a0.length:Int)then(if(0:Int)≤v2∧v2<(a0.length:Int)then((Ay0 K (gt a0 v1) (gt a0 v2)).bind fun r3=>(bif (!r3)then some false else(Aox K a0 v1 C1 n2 (Am9 .i64 v2 1))))else none)else none)else(C1 (Am9 .i64 v1 1)))
def Ak3 (K:Nat)(a0:List A7):Nat->Int->Option (Bool)
 |0,_=>none
 |n1+1,v1=>(bif (decide (v1<(a0.length:Int)))then(Aox K a0 v1 (Ak3 K a0 n1) K 0)else some true)
def Avw (K:Nat)(a0:List A7):Option (Bool):=(Ak3 K a0 K 0)
def Bhr:=fd Tryz.func258 ⟨[.v 69],[.v 4],true⟩ (gC (Bqi K) gN)
def Bxo:Ef:=⟨[(0,.v 69),(3,.v 2),(4,.v 2)],[]⟩
def Bqj:Ef:=⟨[(0,.v 69),(3,.v 2)],[]⟩
def Bb0:=fun(C26:CT Bqj _)=>lp (Bhr K) 1682 Bxo [(26,ar Bqj C26)] (fun n a b=>Aox K a b (C26 a) n) (fun n=>kN)
def Bhs:=lp (Bhr K) 26 Bqj [] (fun n a=>Ak3 K a n) (fun n=>(kC (Bb0 K _ K) kN))
def Bqk:=ct (Bhr K) (Avw K) (kC (Bhs K K) kN)
def Att (K:Nat)(v1:Int)(v2:Int)(v3:Int)(v4:Int)(v5:Int)(v6:Int)(v7:Int)(v8:Int)(v9:Int)(v10:Int)(v11:Int)(v12:List Int)(v13:Int)(v14:Int)(v15:List A7)(v16:List Int)(v17:Int)(v18:Int)(v19:Int)(v20:Int)(v21:Int)(v22:Int)(v23:List Int)(v24:List Int)(v25:List Int)(v26:List A8)(v27:List Av)(v28:List Int)(C1:Int->Int->Int->Int->Int->Int->Int->Int->Int->Int->Int->(List Int)->Int->Int->(List A7)->(List Int)->Int->Int->Int->Int->Int->Int->(List Int)->(List Int)->(List Int)->(List A8)->(List Av)->(List Int)->Option (Bool)):Option (Bool):=(C1 v1 v2 (Am9 .i64 v3 1) v4 v5 v6 v7 v8 v9 v10 v11 v12 v13 v14 v15 v16 v17 v18 v19 v20 v21 v22 v23 v24 v25 v26 v27 v28)
def Am1 (K:Nat):Nat->Int->Int->Int->Int->Int->Int->Int->Int->Int->Int->Int->(List Int)->Int->Int->(List A7)->(List Int)->Int->Int->Int->Int->Int->Int->(List Int)->(List Int)->(List Int)->(List A8)->(List Av)->(List Int)->Option (Bool)
 |0,_,_,_,_,_,_,_,_,_,_,_,_,_,_,_,_,_,_,_,_,_,_,_,_,_,_,_,_=>none
 |n1+1,v1,v2,v3,v4,v5,v6,v7,v8,v9,v10,v11,v12,v13,v14,v15,v16,v17,v18,v19,v20,v21,v22,v23,v24,v25,v26,v27,v28=>(bif (decide (v3<(v15.length:Int)))then(if(0:Int)≤v3∧v3<(v15.length:Int)then(bif (decide (((gt v15 v3).fAt)<v2))then(bif (decide ((Am9 .i64 ((gt v15 v3).fAt) ((gt v15 v3).Ai8))>v1))then some false else(Att K v1 v2 v3 v4 v5 v6 v7 v8 v9 v10 v11 v12 v13 v14 v15 v16 v17 v18 v19 v20 v21 v22 v23 v24 v25 v26 v27 v28 (Am1 K n1)))else(Att K v1 v2 v3 v4 v5 v6 v7 v8 v9 v10 v11 v12 v13 v14 v15 v16 v17 v18 v19 v20 v21 v22 v23 v24 v25 v26 v27 v28 (Am1 K n1)))else none)else(if(0:Int)≤v1∧v1≤v2∧v2≤(v23.length:Int)then((Art K ((v23.drop v1.toNat).take (v2 - v1).toNat)).bind fun r29=>some r29)else none))
def Avx (K:Nat)(a0:Ds)(a1:Int):Option (Bool):=(if(0:Int)≤a1∧a1<(a0.fL.length:Int)then(bif (((gt a0.fL a1).Afu)==0)then some true else(bif (decide ((Am9 .i64 (Anb .i64 (Ana .i64 ((gt a0.fL a1).Afu) 1) a0.fC.Kh) ((gt a0.fL a1).Wn))≥(Anb .i64 ((gt a0.fL a1).Afu) a0.fC.Kh)))then some true else(Am1 K K (Am9 .i64 (Anb .i64 (Ana .i64 ((gt a0.fL a1).Afu) 1) a0.fC.Kh) ((gt a0.fL a1).Wn)) (Anb .i64 ((gt a0.fL a1).Afu) a0.fC.Kh) 0 ((gt a0.fL a1).Yq) ((gt a0.fL a1).C6) ((gt a0.fL a1).Sy) ((gt a0.fL a1).fUp) ((gt a0.fL a1).Wk) ((gt a0.fL a1).Er) ((gt a0.fL a1).Wl) ((gt a0.fL a1).Wm) ((gt a0.fL a1).A6) ((gt a0.fL a1).Afu) ((gt a0.fL a1).Wn) ((gt a0.fL a1).H7) ((gt a0.fL a1).F3) a0.fC.A6 a0.fC.Kh a0.fC.Fj a0.fC.Hb a0.fC.Fk a0.fC.Ki a0.fP.Sk a0.fP.Yq a0.fP.Sl a0.fL a0.fQ a0.Afv)))else none)
def Bht:=fd Tryz.func259 ⟨[.v 32,.v 3],[.v 4],true⟩ (gC (Bdh K) gN) [33,34,54,55] [2025]
def Bm8:Ef:=⟨[(2,.p 102),(5,.p 105),(6,.v 2),(7,.v 2),(8,.v 2)],[(105,.box [.v 2,.v 2,.v 2,.v 2,.v 2,.v 2,.v 2,.v 2,.v 26,.v 2,.v 2,.v 69,.v 26]),(102,.box [.v 2,.v 2,.v 2,.v 2,.v 2,.v 2,.v 22,.v 26,.v 26,.v 29,.v 30,.v 26])]⟩
def Bb1:=fun(C506:CT Bm8 _)=>jn (Bht K) 2025 Bm8 [(506,ar Bm8 C506)] (fun a b c d e f g h i j k l m o p q r s t u v w x y z a1 b1 c1=>Att K a b c d e f g h i j k l m o p q r s t u v w x y z a1 b1 c1 C506) kN
def Bev:=lp (Bht K) 506 Bm8 [] (Am1 K) (fun n=>(kC (Bb1 K _) kN))
def Bql:=ct (Bht K) (Avx K) (kC (Bev K K) kN)
def Aoh (K:Nat)(v4:Int)(v5:Int)(v6:Int)(v7:Int)(v8:Int)(v9:Int)(v10:List Int)(v11:List Int)(v12:List Int)(v13:List A8)(v14:List Av)(v15:List Int):Nat->Int->Option (Bool)
 |0,_=>none
 |n3+1,v23=>(bif (decide (v23<(v15.length:Int)))then(if(0:Int)≤v23∧v23<(v15.length:Int)then((K0 K (gt v15 v23) 0 255).bind fun r24=>(bif (!r24)then some false else(Aoh K v4 v5 v6 v7 v8 v9 v10 v11 v12 v13 v14 v15 n3 (Am9 .i64 v23 1))))else none)else((Aur K (Ds.mk (D4.mk v4 v5 v6 v7 v8 v9) (Dh.mk v10 v11 v12) v13 v14 v15)).bind fun r25=>some r25))
def Apg (K:Nat)(v4:Int)(v5:Int)(v6:Int)(v7:Int)(v8:Int)(v9:Int)(v10:List Int)(v11:List Int)(v12:List Int)(v13:List A8)(v14:List Av)(v15:List Int):Nat->Int->Option (Bool)
 |0,_=>none
 |n2+1,v21=>(bif (decide (v21<(v14.length:Int)))then((Avu K (Ds.mk (D4.mk v4 v5 v6 v7 v8 v9) (Dh.mk v10 v11 v12) v13 v14 v15) v21).bind fun r22=>(bif (!r22)then some false else(Apg K v4 v5 v6 v7 v8 v9 v10 v11 v12 v13 v14 v15 n2 (Am9 .i64 v21 1))))else(Aoh K v4 v5 v6 v7 v8 v9 v10 v11 v12 v13 v14 v15 K 0))
def Aoi (K:Nat):Nat->Int->Int->Int->Int->Int->Int->Int->(List Int)->(List Int)->(List Int)->(List A8)->(List Av)->(List Int)->Option (Bool)
 |0,_,_,_,_,_,_,_,_,_,_,_,_,_=>none
 |n1+1,v3,v4,v5,v6,v7,v8,v9,v10,v11,v12,v13,v14,v15=>(bif (decide (v3<(v13.length:Int)))then(if(0:Int)≤v3∧v3<(v13.length:Int)then((Apl K (D4.mk v4 v5 v6 v7 v8 v9) (gt v13 v3)).bind fun r16=>(bif r16 then((Aut K (Ds.mk (D4.mk v4 v5 v6 v7 v8 v9) (Dh.mk v10 v11 v12) v13 v14 v15) v3).bind fun r17=>(bif r17 then(if(0:Int)≤v3∧v3<(v13.length:Int)then((Avv K (D4.mk v4 v5 v6 v7 v8 v9) (gt v13 v3)).bind fun r18=>(bif r18 then(if(0:Int)≤v3∧v3<(v13.length:Int)then((Avw K ((gt v13 v3).H7)).bind fun r19=>(bif r19 then((Avx K (Ds.mk (D4.mk v4 v5 v6 v7 v8 v9) (Dh.mk v10 v11 v12) v13 v14 v15) v3).bind fun r20=>(bif (!r20)then some false else(Aoi K n1 (Am9 .i64 v3 1) v4 v5 v6 v7 v8 v9 v10 v11 v12 v13 v14 v15)))else some false))else none)else some false))else none)else some false))else some false))else none)else(Apg K v4 v5 v6 v7 v8 v9 v10 v11 v12 v13 v14 v15 K 0))
def Aqy (K:Nat)(a0:Ds):Option (Bool):=((Au5 K a0.fC a0.fP).bind fun r1=>(bif r1 then(bif ((a0.fL.length:Int) != a0.fC.Fj)then some false else((Ax7 K a0.fL).bind fun r2=>(bif (!r2)then some false else(Aoi K K 0 a0.fC.A6 a0.fC.Kh a0.fC.Fj a0.fC.Hb a0.fC.Fk a0.fC.Ki a0.fP.Sk a0.fP.Yq a0.fP.Sl a0.fL a0.fQ a0.Afv))))else some false))
def Bdm:=fd Tryz.func239 ⟨[.v 32],[.v 4],true⟩ (gC (A0g K) (gC (A7r K) (gC (Bor K) (gC (Bvg K) (gC (Bvo K) (gC (Bvp K) (gC (Bqk K) (gC (Bql K) (gC (Bvm K) (gC (Bvj K) gN)))))))))) [10,11,12,19,20,21,41,42,43,46,47,48,49,57,58,59,60,67,68,69,70]
def Bxp:Ef:=⟨[(1,.p 101),(5,.v 2)],[(101,.box [.v 2,.v 2,.v 2,.v 2,.v 2,.v 2,.v 22,.v 26,.v 26,.v 29,.v 30,.v 26])]⟩
def Bxq:Ef:=⟨[(1,.p 101),(4,.v 2)],[(101,.box [.v 2,.v 2,.v 2,.v 2,.v 2,.v 2,.v 22,.v 26,.v 26,.v 29,.v 30,.v 26])]⟩
def Bxr:Ef:=⟨[(1,.p 101),(3,.v 2)],[(101,.box [.v 2,.v 2,.v 2,.v 2,.v 2,.v 2,.v 22,.v 26,.v 26,.v 29,.v 30,.v 26])]⟩
def Bew:=lp (Bdm K) 250 Bxp [] (fun n a b c d e f g h i j k l m=>Aoh K b c d e f g h i j k l m n a) (fun n=>kN)
def Bex:=lp (Bdm K) 122 Bxq [] (fun n a b c d e f g h i j k l m=>Apg K b c d e f g h i j k l m n a) (fun n=>(kC (up (Bew K K)) kN))
def Bhu:=lp (Bdm K) 58 Bxr [] (Aoi K) (fun n=>(kC (up (Bex K K)) kN))
def A8j:=ct (Bdm K) (Aqy K) (kC (Bhu K K) kN)
def Ay1 (K:Nat)(a0:Dy):Option (Bool):=((As9 K a0.fH).bind fun r1=>(bif r1 then(bif (decide (a0.Sy≥0))then some (decide (a0.fNo≥0))else some false)else some false))
def Bqm:=ct (fd Tryz.func262 ⟨[.v 36],[.v 4],true⟩ (gC (Bok K) gN) [5,6,9,10,11]) (Ay1 K)
def Aw5 (K:Nat)(a0:A8)(a1:Dy):Option (A7×Bool):=(bif (a0.Yq != 1)then some ((A7.mk 0 0 0),false)else(bif (a0.Sy != a1.Sy)then some ((A7.mk 0 0 0),false)else((K0 K a1.fNo 0 (Ana .i64 (a0.H7.length:Int) 1)).bind fun r1=>(bif (!r1)then some ((A7.mk 0 0 0),false)else(if(0:Int)≤a1.fNo∧a1.fNo<(a0.H7.length:Int)then some ((gt a0.H7 a1.fNo),true)else none)))))
def Bqn:=ct (fd Tryz.func263 ⟨[.v 71,.v 36],[.v 112,.v 4],true⟩ (gC (A0g K) gN) [8,9,14,15,16]) (Aw5 K)
def Ash (K:Nat)(a0:Ds)(a1:Dy):Option (Int×A7×Int):=((Ay1 K a1).bind fun r1=>(bif (!r1)then some ((-1),(A7.mk 0 0 0),1)else((Am5 K a0 a1.fH).bind fun r2=>(bif (r2.2 != 0)then some ((-1),(A7.mk 0 0 0),r2.2)else(if(0:Int)≤r2.1∧r2.1<(a0.fL.length:Int)then((Aw5 K (gt a0.fL r2.1) a1).bind fun r3=>(bif (!r3.2)then some ((-1),(A7.mk 0 0 0),2)else some (r2.1,r3.1,0)))else none)))))
def Bhv:=ct (fd Tryz.func240 ⟨[.v 32,.v 36],[.v 3,.v 112,.v 3],true⟩ (gC (A7p K) (gC (Bqm K) (gC (Bqn K) gN)))) (Ash K)
def Aw6 (K:Nat)(a0:A7)(a1:Int)(a2:Int):Option (Bool):=(bif (decide (a1≥0))then(bif (decide (a2≥0))then(bif (decide (a1≤a0.Ai8))then(bif (decide (a2≤(Ana .i64 a0.Ai8 a1)))then(bif (decide (a0.fAt<0))then some true else some (decide ((Am9 .i64 a0.fAt a1)≥0)))else some false)else some false)else some false)else some false)
def Bhw:=ct (fd Tryz.func264 ⟨[.v 112,.v 3,.v 3],[.v 4],true⟩ gN [8,9,11,12,13,17,18,19,25,26,27,30,31]) (Aw6 K)
def Aub (K:Nat)(a0:List Int)(a1:Int)(a2:Int):Option (Bool):=(bif (decide (a1≥0))then(bif (decide (a2≥0))then(bif (decide (a1≤(a0.length:Int)))then some (decide (a2≤(Ana .i64 (a0.length:Int) a1)))else some false)else some false)else some false)
def Bhx:=ct (fd Tryz.func279 ⟨[.v 22,.v 3,.v 3],[.v 4],true⟩ gN [8,9,11,12,13,17,18,19]) (Aub K)
def Ay2 (K:Nat)(a0:List Int)(a1:Int)(a2:Int):Option ((List Int)×Bool):=((Aub K a0 a1 a2).bind fun r1=>(bif (!r1)then some (([]:List Int),false)else(if(0:Int)≤a1∧a1≤(Am9 .i64 a1 a2)∧(Am9 .i64 a1 a2)≤(a0.length:Int)then(if(([]:List Int)++((a0.drop a1.toNat).take ((Am9 .i64 a1 a2) - a1).toNat)).length*1≤140737488355328∧(([]:List Int)++((a0.drop a1.toNat).take ((Am9 .i64 a1 a2) - a1).toNat)).length≤maxLen then some ((([]:List Int)++((a0.drop a1.toNat).take ((Am9 .i64 a1 a2) - a1).toNat)),true)else none)else none)))
def Bqo:=ct (fd Tryz.func265 ⟨[.v 22,.v 3,.v 3],[.n 22 true,.v 4],true⟩ (gC (Bhx K) gN)) (Ay2 K)
def Auu (K:Nat)(a0:List Int)(a1:A7)(a2:Int)(a3:Int):Option ((List Int)×Bool):=((Aw6 K a1 a2 a3).bind fun r1=>(bif (!r1)then some (([]:List Int),false)else((Ay2 K a0 (Am9 .i64 a1.fAt a2) a3).bind fun r2=>some (r2.1,r2.2))))
def Bqp:=ct (fd Tryz.func241 ⟨[.v 22,.v 112,.v 3,.v 3],[.n 22 true,.v 4],true⟩ (gC (Bhw K) (gC (Bqo K) gN))) (Auu K)
def Az4 (K:Nat)(a0:Ds)(a1:Dy)(a2:Int)(a3:Int):Option (Ds×Es):=((App K a0).bind fun r1=>((Aqy K a0).bind fun r2=>(bif (!r2)then some (r1,(Es.mk 1 (Bo.mk 0 0) (Dy.mk (Bo.mk 0 0) 0 0) [] 0 0 0))else((Ash K a0 a1).bind fun r3=>((Aos K a0 a1.fH).bind fun r4=>(bif (r3.2.2 != 0)then some (r1,(Es.mk r3.2.2 (Bo.mk 0 0) (Dy.mk (Bo.mk 0 0) 0 0) [] r4 0 0))else((Auu K a0.fP.Sk r3.2.1 a2 a3).bind fun r5=>(bif (!r5.2)then some (r1,(Es.mk 7 (Bo.mk 0 0) (Dy.mk (Bo.mk 0 0) 0 0) [] r4 0 0))else some (r1,(Es.mk r3.2.2 (Bo.mk 0 0) (Dy.mk (Bo.mk 0 0) 0 0) r5.1 r4 0 0))))))))))
def Bqq:=ct (fd Tryz.func204 ⟨[.v 32,.v 36,.v 3,.v 3],[.n 32 true,.n 47 true],true⟩ (gC (A52 K) (gC (A96 K) (gC (A8j K) (gC (Bhv K) (gC (Bqp K) gN))))) [] [] [(7,[.take 114 7 6831]),(11,[.take 114 7 6831])]) (Az4 K)
def Apr (K:Nat)(a1:Int)(a2:List Int):Nat->(List Int)->Int->Option ((List Int)×Bool)
 |0,_,_=>none
 |n1+1,v2,v3=>(bif (decide (v3<(a2.length:Int)))then(if(0:Int)≤v3∧v3<(a2.length:Int)then(if(0:Int)≤(Am9 .i64 a1 v3)∧(Am9 .i64 a1 v3)<(v2.length:Int)then(Apr K a1 a2 n1 (v2.set (Am9 .i64 a1 v3).toNat (gt a2 v3)) (Am9 .i64 v3 1))else none)else none)else some (v2,true))
def Ay3 (K:Nat)(a0:List Int)(a1:Int)(a2:List Int):Option ((List Int)×Bool):=(if(([]:List Int)++a0).length*1≤140737488355328∧(([]:List Int)++a0).length≤maxLen then((Aub K a0 a1 (a2.length:Int)).bind fun r1=>(bif (!r1)then some ((([]:List Int)++a0),false)else(Apr K a1 a2 K (([]:List Int)++a0) 0)))else none)
def Bo2:=fd Tryz.func266 ⟨[.v 22,.v 3,.v 22],[.n 22 true,.v 4],true⟩ (gC (Bhx K) gN)
def Bxs:Ef:=⟨[(1,.v 2),(2,.v 22),(8,.o 1008 5 true),(9,.v 2)],[]⟩
def Bey:=lp (Bo2 K) 122 Bxs [] (fun n a b=>Apr K a b n) (fun n=>kN)
def Bqr:=ct (Bo2 K) (Ay3 K) (kC (Bey K K) kN)
def Atu (K:Nat)(a0:List Int)(a1:A7)(a2:Int)(a3:List Int):Option ((List Int)×Bool):=((Aw6 K a1 a2 (a3.length:Int)).bind fun r1=>(bif (!r1)then(if(([]:List Int)++a0).length*1≤140737488355328∧(([]:List Int)++a0).length≤maxLen then some ((([]:List Int)++a0),false)else none)else((Ay3 K a0 (Am9 .i64 a1.fAt a2) a3).bind fun r2=>some (r2.1,r2.2))))
def Bqs:=ct (fd Tryz.func242 ⟨[.v 22,.v 112,.v 3,.v 22],[.n 22 true,.v 4],true⟩ (gC (Bhw K) (gC (Bqr K) gN))) (Atu K)
def Ay4 (K:Nat)(a0:Ds)(a1:Dy)(a2:Int)(a3:List Int):Option (Ds×Es):=((App K a0).bind fun r1=>((Aqy K a0).bind fun r2=>(bif (!r2)then some (r1,(Es.mk 1 (Bo.mk 0 0) (Dy.mk (Bo.mk 0 0) 0 0) [] 0 0 0))else((Ash K a0 a1).bind fun r3=>((Aos K a0 a1.fH).bind fun r4=>(bif (r3.2.2 != 0)then some (r1,(Es.mk r3.2.2 (Bo.mk 0 0) (Dy.mk (Bo.mk 0 0) 0 0) [] r4 0 0))else((Atu K a0.fP.Sk r3.2.1 a2 a3).bind fun r5=>(bif (!r5.2)then some (r1,(Es.mk 7 (Bo.mk 0 0) (Dy.mk (Bo.mk 0 0) 0 0) [] r4 0 0))else some ((Ds.mk r1.fC (Dh.mk r5.1 r1.fP.Yq r1.fP.Sl) r1.fL r1.fQ r1.Afv),(Es.mk r3.2.2 (Bo.mk 0 0) (Dy.mk (Bo.mk 0 0) 0 0) [] r4 0 0))))))))))
def Bqt:=ct (fd Tryz.func205 ⟨[.v 32,.v 36,.v 3,.v 22],[.n 32 true,.n 47 true],true⟩ (gC (A52 K) (gC (A96 K) (gC (A8j K) (gC (Bhv K) (gC (Bqs K) gN))))) [] [] [(7,[.take 114 7 6831]),(11,[.take 114 7 6831]),(13,[.take 114 7 6831])]) (Ay4 K)
def Ay5 (K:Nat)(v7:Es)(v10:Ds):Option (Ds×Es):=some (v10,v7)
def Aw7 (K:Nat)(a2:Int)(r1:Ds)(v6:Int)(v7:Es)(v8:Es)(v9:Ds):Option (Ds×Es):=(bif (v7.Wq==0)then(if(0:Int)≤v6∧v6<(r1.fL.length:Int)then(if(0:Int)≤v6∧v6<(r1.fL.length:Int)then(if(((gt r1.fL v6).F3)++([a2]:List Int)).length*8≤140737488355328∧(((gt r1.fL v6).F3)++([a2]:List Int)).length≤maxLen then(if(0:Int)≤v6∧v6<(r1.fL.length:Int)then(Ay5 K v7 (Ds.mk r1.fC r1.fP (r1.fL.set v6.toNat (A8.mk ((gt r1.fL v6).Yq) ((gt r1.fL v6).C6) ((gt r1.fL v6).Sy) ((gt r1.fL v6).fUp) ((gt r1.fL v6).Wk) ((gt r1.fL v6).Er) ((gt r1.fL v6).Wl) ((gt r1.fL v6).Wm) ((gt r1.fL v6).A6) ((gt r1.fL v6).Afu) ((gt r1.fL v6).Wn) ((gt r1.fL v6).H7) (((gt r1.fL v6).F3)++([a2]:List Int)))) r1.fQ r1.Afv))else none)else none)else none)else none)else(Ay5 K v7 r1))
def A06 (K:Nat)(a0:Ds)(a1:Bo)(a2:Int):Option (Ds×Es):=((App K a0).bind fun r1=>((Aqy K a0).bind fun r2=>(bif r2 then((K0 K a2 0 255).bind fun r3=>(bif (!r3)then some (r1,(Es.mk 1 (Bo.mk 0 0) (Dy.mk (Bo.mk 0 0) 0 0) [] 0 0 0))else((Am5 K a0 a1).bind fun r4=>((Aos K a0 a1).bind fun r5=>(bif (r4.2==0)then(if(0:Int)≤r4.1∧r4.1<(a0.fL.length:Int)then(bif (decide ((((gt a0.fL r4.1).F3).length:Int)≥6))then(Aw7 K a2 r1 r4.1 (Es.mk 8 (Bo.mk 0 0) (Dy.mk (Bo.mk 0 0) 0 0) [] r5 0 0) (Es.mk 0 (Bo.mk 0 0) (Dy.mk (Bo.mk 0 0) 0 0) [] 0 0 0) (Ds.mk (D4.mk 0 0 0 0 0 0) (Dh.mk [] [] []) [] [] []))else(Aw7 K a2 r1 r4.1 (Es.mk r4.2 (Bo.mk 0 0) (Dy.mk (Bo.mk 0 0) 0 0) [] r5 0 0) (Es.mk 0 (Bo.mk 0 0) (Dy.mk (Bo.mk 0 0) 0 0) [] 0 0 0) (Ds.mk (D4.mk 0 0 0 0 0 0) (Dh.mk [] [] []) [] [] [])))else none)else(Aw7 K a2 r1 r4.1 (Es.mk r4.2 (Bo.mk 0 0) (Dy.mk (Bo.mk 0 0) 0 0) [] r5 0 0) (Es.mk 0 (Bo.mk 0 0) (Dy.mk (Bo.mk 0 0) 0 0) [] 0 0 0) (Ds.mk (D4.mk 0 0 0 0 0 0) (Dh.mk [] [] []) [] [] [])))))))else some (r1,(Es.mk 1 (Bo.mk 0 0) (Dy.mk (Bo.mk 0 0) 0 0) [] 0 0 0)))))
def Bhy:=fd Tryz.func206 ⟨[.v 32,.v 34,.v 3],[.n 32 true,.n 47 true],true⟩ (gC (A0g K) (gC (A7p K) (gC (A52 K) (gC (A96 K) (gC (A8j K) gN))))) [15,16,17,36,37] [63,127] [(9,[.take 108 9 6737,.opn 6737 (.tmp 9),.takeE 6737 12 87180]),(10,[.take 108 6 6734,.take 108 7 6735,.take 108 8 6736,.take 108 9 6737,.take 108 10 6738,.take 108 11 6739,.take 111 7 6783])]
def Bxt:Ef:=⟨[(6,.p 106),(7,.p 107),(8,.p 108),(11,.p 111)],[(111,.st 47 true),(108,.st 32 true),(107,.st 47 true),(106,.st 32 true)]⟩
def Bxu:Ef:=⟨[(2,.v 2),(6,.p 106),(7,.p 107),(8,.p 108),(9,.v 2),(11,.p 111)],[(111,.st 47 true),(108,.st 32 true),(107,.st 47 true),(106,.st 32 true)]⟩
def Bez:=jn (Bhy K) 127 Bxt [] (fun a b _ _=>Ay5 K a b) kN
def Bhz:=jn (Bhy K) 63 Bxu [] (fun a b c d=>Aw7 K a d b c) (kC (Bez K) kN)
def Bqu:=ct (Bhy K) (A06 K) (kC (Bhz K) kN)
def Azi (K:Nat)(a0:D4)(a1:A8):Option (Int):=(bif (a1.Afu==0)then some 0 else((Apl K a0 a1).bind fun r1=>(bif (!r1)then some 0 else some (Ana .i64 a0.Kh a1.Wn))))
def Bqv:=ct (fd Tryz.func243 ⟨[.v 25,.v 71],[.v 3],true⟩ (gC (A7r K) gN) [7,8]) (Azi K)
def Aw8 (K:Nat)(r1:Ds)(v6:Es)(v7:Es)(v8:Ds):Option (Ds×Es):=some (r1,v6)
def Ay6 (K:Nat)(a0:Ds)(a1:Bo):Option (Ds×Es):=((App K a0).bind fun r1=>((Aqy K a0).bind fun r2=>(bif (!r2)then some (r1,(Es.mk 1 (Bo.mk 0 0) (Dy.mk (Bo.mk 0 0) 0 0) [] 0 0 0))else((Am5 K a0 a1).bind fun r3=>((Aos K a0 a1).bind fun r4=>(bif (r3.2==0)then(if(0:Int)≤r3.1∧r3.1<(a0.fL.length:Int)then((Azi K a0.fC (gt a0.fL r3.1)).bind fun r5=>(Aw8 K r1 (Es.mk r3.2 (Bo.mk 0 0) (Dy.mk (Bo.mk 0 0) 0 0) ([(IntKind.u8.wrap (((gt a0.fL r3.1).A6).length:Int)),(IntKind.u8.wrap (((gt a0.fL r3.1).H7).length:Int)),(IntKind.u8.wrap (((gt a0.fL r3.1).F3).length:Int)),(IntKind.u8.wrap r5)]:List Int) r4 0 0) (Es.mk 0 (Bo.mk 0 0) (Dy.mk (Bo.mk 0 0) 0 0) [] 0 0 0) (Ds.mk (D4.mk 0 0 0 0 0 0) (Dh.mk [] [] []) [] [] [])))else none)else(Aw8 K r1 (Es.mk r3.2 (Bo.mk 0 0) (Dy.mk (Bo.mk 0 0) 0 0) [] r4 0 0) (Es.mk 0 (Bo.mk 0 0) (Dy.mk (Bo.mk 0 0) 0 0) [] 0 0 0) (Ds.mk (D4.mk 0 0 0 0 0 0) (Dh.mk [] [] []) [] [] []))))))))
def Bo3:=fd Tryz.func207 ⟨[.v 32,.v 34],[.n 32 true,.n 47 true],true⟩ (gC (A7p K) (gC (A52 K) (gC (A96 K) (gC (A8j K) (gC (Bqv K) gN))))) [] [63] [(9,[.take 106 6 6702,.take 106 7 6703,.take 106 8 6704,.take 106 9 6705,.take 106 10 6706,.take 106 11 6707,.take 109 7 6751])]
def Bxv:Ef:=⟨[(4,.p 104),(5,.p 105),(6,.p 106),(9,.p 109)],[(109,.st 47 true),(106,.st 32 true),(105,.st 47 true),(104,.st 32 true)]⟩
def Bh0:=jn (Bo3 K) 63 Bxv [] (fun a b=>Aw8 K b a) kN
def Bqw:=ct (Bo3 K) (Ay6 K) (kC (Bh0 K) kN)
def Ax8 (K:Nat)(a0:Ds)(a1:Cm):Option (Ds×Es):=(bif (a1.Wp==3)then((Az4 K a0 a1.fR a1.fN a1.fM).bind fun r1=>some (r1.1,r1.2))else(bif (a1.Wp==4)then((Ay4 K a0 a1.fR a1.fN a1.fB).bind fun r2=>some (r2.1,r2.2))else(bif (a1.Wp==5)then((A06 K a0 a1.fH a1.fN).bind fun r3=>some (r3.1,r3.2))else(bif (a1.Wp==8)then((Ay6 K a0 a1.fH).bind fun r4=>some (r4.1,r4.2))else((App K a0).bind fun r5=>some (r5,(Es.mk 1 (Bo.mk 0 0) (Dy.mk (Bo.mk 0 0) 0 0) [] 0 0 0)))))))
def Bqx:=ct (fd Tryz.func151 ⟨[.v 32,.v 38],[.n 32 true,.n 47 true],true⟩ (gC (Bqq K) (gC (Bqt K) (gC (Bqu K) (gC (Bqw K) (gC (A96 K) gN)))))) (Ax8 K)
def Azj (K:Nat)(v31:Int)(v32:Int)(v33:Int)(v34:Int)(v35:Int)(v36:Int)(v37:List Int)(v38:List Int)(v39:List Int)(v40:List A8)(v41:List Av)(v42:List Int)(v43:Es):Option (Es×Ds):=some (v43,(Ds.mk (D4.mk v31 v32 v33 v34 v35 v36) (Dh.mk v37 v38 v39) v40 v41 v42))
def Auc (K:Nat)(v4:Bool)(v5:Int)(v6:Int)(v7:Int)(v8:Int)(v9:Int)(v10:Int)(v11:List Int)(v12:List Int)(v13:List Int)(v14:List A8)(v15:List Av)(v16:List Int)(v17:Es)(v18:Int)(v19:Int)(v20:Int)(v21:Int)(v22:Int)(v23:Int)(v24:Int)(v25:Int)(v26:Int)(v27:List Int):Option (Es×Ds):=(bif v4 then((Am5 K (Ds.mk (D4.mk v5 v6 v7 v8 v9 v10) (Dh.mk v11 v12 v13) v14 v15 v16) (Bo.mk v19 v20)).bind fun r28=>((Aos K (Ds.mk (D4.mk v5 v6 v7 v8 v9 v10) (Dh.mk v11 v12 v13) v14 v15 v16) (Bo.mk v19 v20)).bind fun r29=>(bif (r28.2 != 0)then some ((Es.mk r28.2 (Bo.mk 0 0) (Dy.mk (Bo.mk 0 0) 0 0) [] r29 0 0),(Ds.mk (D4.mk v5 v6 v7 v8 v9 v10) (Dh.mk v11 v12 v13) v14 v15 v16))else(bif (v18==6)then((Ats K (Ds.mk (D4.mk v5 v6 v7 v8 v9 v10) (Dh.mk v11 v12 v13) v14 v15 v16) r28.1).bind fun r30=>(Azj K r30.fC.A6 r30.fC.Kh r30.fC.Fj r30.fC.Hb r30.fC.Fk r30.fC.Ki r30.fP.Sk r30.fP.Yq r30.fP.Sl r30.fL r30.fQ r30.Afv (Es.mk r28.2 (Bo.mk 0 0) (Dy.mk (Bo.mk 0 0) 0 0) [] r29 0 0)))else((Avs K (Ds.mk (D4.mk v5 v6 v7 v8 v9 v10) (Dh.mk v11 v12 v13) v14 v15 v16) r28.1).bind fun r44=>(Azj K r44.fC.A6 r44.fC.Kh r44.fC.Fj r44.fC.Hb r44.fC.Fk r44.fC.Ki r44.fP.Sk r44.fP.Yq r44.fP.Sl r44.fL r44.fQ r44.Afv (Es.mk r28.2 (Bo.mk 0 0) (Dy.mk (Bo.mk 0 0) 0 0) [] r29 0 0)))))))else((Ax8 K (Ds.mk (D4.mk v5 v6 v7 v8 v9 v10) (Dh.mk v11 v12 v13) v14 v15 v16) (Cm.mk v18 (Bo.mk v19 v20) (Dy.mk (Bo.mk v21 v22) v23 v24) v25 v26 v27)).bind fun r45=>some (r45.2,r45.1)))
def Ay7 (K:Nat)(a0:Ds)(a1:Cm):Option (Es×Ds):=(bif (a1.Wp==1)then((Awz K a0 a1.fH).bind fun r1=>some (r1.1,r1.2))else(bif (a1.Wp==2)then((Avr K a0 a1.fH a1.fN a1.fM).bind fun r2=>some (r2.1,r2.2))else(bif (a1.Wp==9)then((Asd K a0 4000).bind fun r3=>some ((Es.mk 0 (Bo.mk 0 0) (Dy.mk (Bo.mk 0 0) 0 0) [] 0 0 r3.1),r3.2))else(bif (a1.Wp==6)then(Auc K (a1.Wp==6) a0.fC.A6 a0.fC.Kh a0.fC.Fj a0.fC.Hb a0.fC.Fk a0.fC.Ki a0.fP.Sk a0.fP.Yq a0.fP.Sl a0.fL a0.fQ a0.Afv (Es.mk 0 (Bo.mk 0 0) (Dy.mk (Bo.mk 0 0) 0 0) [] 0 0 0) a1.Wp a1.fH.Be a1.fH.C6 a1.fR.fH.Be a1.fR.fH.C6 a1.fR.Sy a1.fR.fNo a1.fN a1.fM a1.fB)else(Auc K (a1.Wp==7) a0.fC.A6 a0.fC.Kh a0.fC.Fj a0.fC.Hb a0.fC.Fk a0.fC.Ki a0.fP.Sk a0.fP.Yq a0.fP.Sl a0.fL a0.fQ a0.Afv (Es.mk 0 (Bo.mk 0 0) (Dy.mk (Bo.mk 0 0) 0 0) [] 0 0 0) a1.Wp a1.fH.Be a1.fH.C6 a1.fR.fH.Be a1.fR.fH.C6 a1.fR.Sy a1.fR.fNo a1.fN a1.fM a1.fB)))))
def Bh1:=fd Tryz.func107 ⟨[.b 32 false,.v 38],[.v 47],false⟩ (gC (Bux K) (gC (Bu6 K) (gC (Bhe K) (gC (A7p K) (gC (A52 K) (gC (Bu8 K) (gC (Bvb K) (gC (Bqx K) gN)))))))) [] [1727,55287] [(10,[.take 1 6 5022,.take 1 7 5023,.take 1 8 5024,.take 1 9 5025,.take 1 10 5026,.take 1 11 5027]),(13,[.take 107 7 6719]),(15,[.put 1]),(16,[.put 1]),(17,[.take 107 7 6719]),(18,[.take 1 6 5022,.take 1 7 5023,.take 1 8 5024,.take 1 9 5025,.take 1 10 5026,.take 1 11 5027])]
def Bxw:Ef:=⟨[(4,.p 104),(7,.p 107)],[(1,.box [.v 2,.v 2,.v 2,.v 2,.v 2,.v 2,.T 5 true,.T 3 true,.T 3 true,.T 71 false,.T 79 false,.T 3 true]),(107,.st 47 true),(104,.st 47 true)]⟩
def Bxx:Ef:=⟨[(0,.p 1),(3,.p 103),(4,.p 104),(33,.v 4)],[(1,.box [.v 2,.v 2,.v 2,.v 2,.v 2,.v 2,.T 5 true,.T 3 true,.T 3 true,.T 71 false,.T 79 false,.T 3 true]),(104,.st 47 true),(103,.box [.v 2,.v 2,.v 2,.v 2,.v 2,.v 2,.v 2,.v 2,.v 2,.v 22])]⟩
def A99:=jn (Bh1 K) 55287 Bxw [] (fun a b c d e f g h i j k l m _=>Azj K a b c d e f g h i j k l m) kN
def Bb2:=jn (Bh1 K) 1727 Bxx [] (Auc K) (kC (A99 K) kN)
def Bqy:=ct (Bh1 K) (Ay7 K) (kC (Bb2 K) kN)
def Atd (K:Nat):Nat->(List Cm)->Int->(List Int)->Int->Int->Ds->D4->Ds->D4->Option (D4×(List Cm)×Ds×Dt)
 |0,_,_,_,_,_,_,_,_,_=>none
 |n1+1,v4,v5,v6,v7,v8,v9,v10,v11,v12=>(bif (decide (v5>0))then(bif (decide ((v4.length:Int)<200))then((At2 K (Dt.mk v6 v7 v8) v9).bind fun r13=>(if r13.2.2.1.length=v9.fP.Sk.length∧r13.2.2.2.1.length=v9.fP.Yq.length∧r13.2.2.2.2.1.length=v9.fP.Sl.length∧r13.2.2.2.2.2.1.length=v9.fL.length∧r13.2.2.2.2.2.2.1.length=v9.fQ.length∧r13.2.2.2.2.2.2.2.length=v9.Afv.length then(if(v4++([r13.1]:List Cm)).length*96≤140737488355328∧(v4++([r13.1]:List Cm)).length≤maxLen then((Ay7 K (Ds.mk v9.fC (Dh.mk r13.2.2.1 r13.2.2.2.1 r13.2.2.2.2.1) r13.2.2.2.2.2.1 r13.2.2.2.2.2.2.1 r13.2.2.2.2.2.2.2) r13.1).bind fun r14=>(Atd K n1 (v4++([r13.1]:List Cm)) (Ana .i64 v5 1) r13.2.1.fb r13.2.1.fi r13.2.1.fh r14.2 v10 v11 v12))else none)else none))else some (v10,v4,v9,(Dt.mk v6 v7 v8)))else some (v10,v4,v9,(Dt.mk v6 v7 v8)))
def Ax9 (K:Nat)(a0:Dt)(a1:Int):Option (D4×(List Cm)×Ds×Dt):=((Ax3 K a0).bind fun r1=>((Avh K r1.1).bind fun r2=>((Acl K r1.2 a1).bind fun r3=>(Atd K K ([]:List Cm) (Am9 .i64 4 r3.1) r3.2.fb r3.2.fi r3.2.fh r2 r1.1 (Ds.mk (D4.mk 0 0 0 0 0 0) (Dh.mk [] [] []) [] [] []) (D4.mk 0 0 0 0 0 0)))))
def Bo4:=fd Tryz.func53 ⟨[.b 99 false,.v 3],[.v 25,.n 55 false,.n 32 false],false⟩ (gC (Boj K) (gC (Bbx K) (gC (Bwl K) (gC (Btr K) (gC (Bqy K) gN))))) [22,23] [] [(4,[.put 108,.take 108 9 6737,.shal 6737,.take 108 10 6738,.shal 6738,.put 108,.shal 1009]),(7,[.take 108 6 6734,.take 108 7 6735,.take 108 8 6736,.take 108 9 6737,.take 108 10 6738,.take 108 11 6739]),(9,[.put 108]),(10,[.take 108 6 6734,.take 108 7 6735,.take 108 8 6736,.take 108 9 6737,.take 108 10 6738,.take 108 11 6739])] [(32,[.frz 3032])]
def Bxy:Ef:=⟨[(0,.p 1),(4,.p 104),(6,.p 106),(7,.p 107),(8,.p 108),(9,.o 1009 38 false),(10,.v 2)],[(1,.box [.v 22,.v 2,.v 2]),(108,.st 32 false),(107,.st 25 true),(106,.st 32 true),(104,.st 25 true)]⟩
def Be0:=lp (Bo4 K) 250 Bxy [] (Atd K) (fun n=>kN)
def Bqz:=ct (Bo4 K) (Ax9 K) (kC (Be0 K K) kN)
def Ayp (K:Nat)(a0:Dt)(a1:Int):Option (Ds×Dt):=((Ax9 K a0 a1).bind fun r1=>some (r1.2.2.1,r1.2.2.2))
def Bq0:=ct (fd Tryz.func30 ⟨[.b 99 false,.v 3],[.n 32 false],false⟩ (gC (Bqz K) gN)) (Ayp K)
def Auv (K:Nat)(a0:List Int):Option (Ds×Cm):=((Ayu K a0).bind fun r1=>((Au1 K a0 50).bind fun r2=>((Ayp K r1 (Am9 .i64 20 r2)).bind fun r3=>((At2 K r3.2 r3.1).bind fun r4=>(if r4.2.2.1.length=r3.1.fP.Sk.length∧r4.2.2.2.1.length=r3.1.fP.Yq.length∧r4.2.2.2.2.1.length=r3.1.fP.Sl.length∧r4.2.2.2.2.2.1.length=r3.1.fL.length∧r4.2.2.2.2.2.2.1.length=r3.1.fQ.length∧r4.2.2.2.2.2.2.2.length=r3.1.Afv.length then some ((Ds.mk r3.1.fC (Dh.mk r4.2.2.1 r4.2.2.2.1 r4.2.2.2.2.1) r4.2.2.2.2.2.1 r4.2.2.2.2.2.2.1 r4.2.2.2.2.2.2.2),r4.1)else none)))))
def Bq1:=ct (fd Tryz.func7 ⟨[.v 22],[.n 32 false,.n 38 true],false⟩ (gC (Bwj K) (gC (Bq0 K) (gC (Bwk K) (gC (Boj K) gN))))) (Auv K)
def Adu (K:Nat)(a0:Int)(a1:Int)(a2:Int):Option (Bool):=(bif (decide (a0≥a1))then some (decide (a0≤a2))else some false)
def A07:=ct (fd Tryz.func76 ⟨[.v 3,.v 3,.v 3],[.v 4],true⟩ gN [9,10]) (Adu K)
def Ag9 (K:Nat)(a0:List A8)(a1:Int):Option (Bool):=((Adu K a1 0 (Ana .i64 (a0.length:Int) 1)).bind fun r1=>some r1)
def A0i:=ct (fd Tryz.func39 ⟨[.v 29,.v 3],[.v 4],true⟩ (gC (A07 K) gN)) (Ag9 K)
def Avb (K:Nat)(a0:List A8):Nat->Int->(List Int)->Option ((List Int))
 |0,_,_=>none
 |n1+1,v1,v2=>((Ag9 K a0 v1).bind fun r3=>(bif r3 then(bif (decide ((v2.length:Int)<(a0.length:Int)))then(if(v2++([v1]:List Int)).length*8≤140737488355328∧(v2++([v1]:List Int)).length≤maxLen then(if(0:Int)≤v1∧v1<(a0.length:Int)then(Avb K a0 n1 (Ana .i64 ((gt a0 v1).fUp) 1) (v2++([v1]:List Int)))else none)else none)else some v2)else some v2))
def Aud (K:Nat)(a0:List A8)(a1:Int):Option ((List Int)):=(Avb K a0 K a1 ([]:List Int))
def Bo5:=fd Tryz.func42 ⟨[.v 29,.v 3],[.n 26 true],true⟩ (gC (A0i K) gN) [9,10]
def Bh2:=lp (Bo5 K) 28 h_4 [] (fun n a=>Avb K a n) (fun n=>kN)
def A8k:=ct (Bo5 K) (Aud K) (kC (Bh2 K K) kN)
def Aw9 (K:Nat)(v2:List Int)(v3:Int)(v4:Int)(C1:(List Int)->Int->Int->Option (Bool)):Option (Bool):=(C1 v2 v3 (Am9 .i64 v4 1))
def Asi (K:Nat)(a0:List A8)(r1:(List Int)):Nat->(List Int)->Int->Int->Option (Bool)
 |0,_,_,_=>none
 |n1+1,v2,v3,v4=>(bif (decide (v4<v3))then(if(0:Int)≤v4∧v4<(v2.length:Int)then(if(0:Int)≤(gt v2 v4)∧(gt v2 v4)<(a0.length:Int)then(bif (((gt a0 (gt v2 v4)).Yq) != 1)then some false else(bif (decide ((Am9 .i64 v4 1)<(r1.length:Int)))then(if(0:Int)≤(gt v2 v4)∧(gt v2 v4)<(a0.length:Int)then(if(0:Int)≤(Am9 .i64 v4 1)∧(Am9 .i64 v4 1)<(r1.length:Int)then(if(0:Int)≤(gt r1 (Am9 .i64 v4 1))∧(gt r1 (Am9 .i64 v4 1))<(a0.length:Int)then(bif (((gt a0 (gt v2 v4)).Wk) != ((gt a0 (gt r1 (Am9 .i64 v4 1))).Sy))then some false else(Aw9 K v2 v3 v4 (Asi K a0 r1 n1)))else none)else none)else none)else(Aw9 K v2 v3 v4 (Asi K a0 r1 n1))))else none)else none)else(bif (decide ((r1.length:Int)>0))then(if(0:Int)≤(Ana .i64 (r1.length:Int) 1)∧(Ana .i64 (r1.length:Int) 1)<(r1.length:Int)then(if(0:Int)≤(gt r1 (Ana .i64 (r1.length:Int) 1))∧(gt r1 (Ana .i64 (r1.length:Int) 1))<(a0.length:Int)then some (((gt a0 (gt r1 (Ana .i64 (r1.length:Int) 1))).fUp)==0)else none)else none)else some false))
def Axa (K:Nat)(a0:List A8)(a1:Int):Option (Bool):=((Aud K a0 a1).bind fun r1=>(Asi K a0 r1 K r1 (r1.length:Int) 0))
def Bh3:=fd Tryz.func33 ⟨[.v 29,.v 3],[.v 4],true⟩ (gC (A8k K) gN) [28,29,49,50] [467]
def Bm9:Ef:=⟨[(0,.v 29),(5,.v 26),(11,.v 26),(12,.v 2),(13,.v 2)],[]⟩
def Be1:=fun(C58:CT Bm9 _)=>jn (Bh3 K) 467 Bm9 [(58,ar Bm9 C58)] (fun a b c d e=>Aw9 K c d e (C58 a b)) kN
def Bh4:=lp (Bh3 K) 58 Bm9 [] (fun n a b=>Asi K a b n) (fun n=>(kC (Be1 K _) kN))
def Bh5:=ct (Bh3 K) (Axa K) (kC (Bh4 K K) kN)
def Asj (K:Nat)(v2:Int)(v3:Int)(v4:Int)(v5:Int)(v6:Int)(v7:Int)(v8:Int)(v9:Int)(v10:List Int)(v11:List Int)(v12:List Int)(v13:List A8)(v14:List Av)(v15:List Int)(C1:(List Int)->Int->Int->Int->Int->Int->Int->Int->Int->(List Int)->(List Int)->(List Int)->(List A8)->(List Av)->(List Int)->Option ((List Int)))(v17:List Int):Option ((List Int)):=(C1 v17 v2 (Am9 .i64 v3 1) v4 v5 v6 v7 v8 v9 v10 v11 v12 v13 v14 v15)
def Aql (K:Nat):Nat->(List Int)->Int->Int->Int->Int->Int->Int->Int->Int->(List Int)->(List Int)->(List Int)->(List A8)->(List Av)->(List Int)->Option ((List Int))
 |0,_,_,_,_,_,_,_,_,_,_,_,_,_,_,_=>none
 |n1+1,v1,v2,v3,v4,v5,v6,v7,v8,v9,v10,v11,v12,v13,v14,v15=>(bif (decide (v3<v2))then((Axa K v13 v3).bind fun r16=>(bif r16 then(if(v1++([v3]:List Int)).length*8≤140737488355328∧(v1++([v3]:List Int)).length≤maxLen then(Asj K v2 v3 v4 v5 v6 v7 v8 v9 v10 v11 v12 v13 v14 v15 (Aql K n1) (v1++([v3]:List Int)))else none)else(Asj K v2 v3 v4 v5 v6 v7 v8 v9 v10 v11 v12 v13 v14 v15 (Aql K n1) v1)))else some v1)
def Azk (K:Nat)(a0:Ds):Option ((List Int)):=(Aql K K ([]:List Int) (a0.fL.length:Int) 0 a0.fC.A6 a0.fC.Kh a0.fC.Fj a0.fC.Hb a0.fC.Fk a0.fC.Ki a0.fP.Sk a0.fP.Yq a0.fP.Sl a0.fL a0.fQ a0.Afv)
def Bh6:=fd Tryz.func8 ⟨[.v 32],[.n 26 true],true⟩ (gC (Bh5 K) gN) [] [467]
def Bna:Ef:=⟨[(1,.p 101),(3,.o 1003 3 true),(8,.v 2),(9,.v 2)],[(101,.box [.v 2,.v 2,.v 2,.v 2,.v 2,.v 2,.v 22,.v 26,.v 26,.v 29,.v 30,.v 26])]⟩
def Be2:=fun(C58:CT Bna _)=>jn (Bh6 K) 467 Bna [(58,ar Bna C58)] (fun a b c d e f g h i j k l m o p=>Asj K b c d e f g h i j k l m o p C58 a) kN
def Bh7:=lp (Bh6 K) 58 Bna [] (Aql K) (fun n=>(kC (Be2 K _) kN))
def Bq2:=ct (Bh6 K) (Azk K) (kC (Bh7 K K) kN)
def Atl (K:Nat)(a0:D4):Option (Bool):=((Adu K a0.A6 2 12).bind fun r1=>(bif r1 then((Adu K a0.Kh 8 16).bind fun r2=>(bif r2 then((Adu K a0.Fj 2 8).bind fun r3=>(bif r3 then((Adu K a0.Hb 1 8).bind fun r4=>(bif r4 then((Adu K a0.Fk 1 16).bind fun r5=>(bif r5 then((Adu K a0.Ki 1 4).bind fun r6=>some r6)else some false))else some false))else some false))else some false))else some false))
def A8l:=ct (fd Tryz.func54 ⟨[.v 25],[.v 4],true⟩ (gC (A07 K) gN) [5,6,9,10,11,14,15,16,19,20,21,24,25,26]) (Atl K)
def Axb (K:Nat)(a0:D4):Option (Int):=((Atl K a0).bind fun r1=>(bif (!r1)then some 0 else some (Anb .i64 a0.A6 a0.Kh)))
def Bh8:=ct (fd Tryz.func75 ⟨[.v 25],[.v 3],true⟩ (gC (A8l K) gN)) (Axb K)
def Arm (K:Nat)(a0:Dh)(a1:D4)(a2:Int):Option ((List Int)):=(if(0:Int)≤(Anb .i64 a2 a1.Kh)∧(Anb .i64 a2 a1.Kh)≤(Anb .i64 (Am9 .i64 a2 1) a1.Kh)∧(Anb .i64 (Am9 .i64 a2 1) a1.Kh)≤(a0.Sk.length:Int)then some ((a0.Sk.drop (Anb .i64 a2 a1.Kh).toNat).take ((Anb .i64 (Am9 .i64 a2 1) a1.Kh) - (Anb .i64 a2 a1.Kh)).toNat)else none)
def Bh9:=ct (fd Tryz.func78 ⟨[.v 28,.v 25,.v 3],[.v 22],false⟩ gN) (Arm K)
def Ayq (K:Nat)(a0:Int):Option (Bool):=some (a0 != 0)
def Bq3:=ct (fd Tryz.func126 ⟨[.v 5],[.v 4],true⟩ gN) (Ayq K)
def Ah9 (K:Nat)(a0:List Int):Nat->Int->Int->Option (Int)
 |0,_,_=>none
 |n1+1,v1,v2=>(bif (decide (v2<v1))then(if(0:Int)≤v2∧v2<(a0.length:Int)then((Ayq K (gt a0 v2)).bind fun r3=>(bif r3 then some v2 else(Ah9 K a0 n1 v1 (Am9 .i64 v2 1))))else none)else some (-1))
def Amn (K:Nat)(a0:List Int):Option (Int):=(Ah9 K a0 K (a0.length:Int) 0)
def Bo6:=fd Tryz.func163 ⟨[.v 22,.f 126 [] []],[.v 3],true⟩ (gC (Bq3 K) gN)
def Bxz:Ef:=⟨[(0,.v 22),(1,.f 126 [] []),(7,.v 2),(8,.v 2)],[]⟩
def Bia:=lp (Bo6 K) 26 Bxz [] (fun n a=>Ah9 K a n) (fun n=>kN)
def Bq4:=ct (Bo6 K) (Amn K) (kC (Bia K K) kN)
def Akj (K:Nat)(a0:List Int):Option (Bool):=((Amn K a0).bind fun r1=>some (decide (r1≥0)))
def Bq5:=ct (fd Tryz.func125 ⟨[.v 22,.f 126 [] []],[.v 4],true⟩ (gC (Bq4 K) gN)) (Akj K)
def Atm (K:Nat)(a0:List Int):Option (Bool):=((Akj K a0).bind fun r1=>some (!r1))
def Bb3:=ct (fd Tryz.func77 ⟨[.v 22],[.v 4],true⟩ (gC (Bq5 K) gN)) (Atm K)
def Avy (K:Nat)(v3:List Int)(v4:Int)(v6:List Int)(v7:List Int)(v8:List Int)(v12:Int)(C1:(List Int)->Int->Int->(List Int)->(List Int)->(List Int)->Option (Bool))(v16:Bool):Option (Bool):=(bif v16 then some false else(C1 v3 v4 (Am9 .i64 v12 1) v6 v7 v8))
def Ap0 (K:Nat)(a0:D4)(v3:List Int)(v4:Int)(v5:Int)(v6:List Int)(v7:List Int)(v8:List Int)(C1:(List Int)->Int->Int->(List Int)->(List Int)->(List Int)->Option (Bool))(v11:Int)(v12:Int)(v13:Bool):Option (Bool):=(bif v13 then some false else(bif (v11==0)then((Arm K (Dh.mk v6 v7 v8) a0 v5).bind fun r14=>((Atm K r14).bind fun r15=>(Avy K v3 v4 v6 v7 v8 v12 (C1) (!r15))))else(Avy K v3 v4 v6 v7 v8 v12 (C1) false)))
def Ake (K:Nat)(a0:D4):Nat->(List Int)->Int->Int->(List Int)->(List Int)->(List Int)->Option (Bool)
 |0,_,_,_,_,_,_=>none
 |n1+1,v3,v4,v5,v6,v7,v8=>(bif (decide (v5<v4))then(if(0:Int)≤v5∧v5<(v3.length:Int)then((Adu K (gt v3 v5) 0 2).bind fun r9=>(bif (!r9)then some false else(bif ((gt v3 v5)==1)then(if(0:Int)≤v5∧v5<(v8.length:Int)then((Adu K (gt v8 v5) 0 (Ana .i64 a0.Fj 1)).bind fun r10=>(bif r10 then(bif ((gt v3 v5) != 1)then(if(0:Int)≤v5∧v5<(v8.length:Int)then(Ap0 K a0 v3 v4 v5 v6 v7 v8 (Ake K a0 n1) (gt v3 v5) v5 ((gt v8 v5) != (-1)))else none)else(Ap0 K a0 v3 v4 v5 v6 v7 v8 (Ake K a0 n1) (gt v3 v5) v5 false))else(Ap0 K a0 v3 v4 v5 v6 v7 v8 (Ake K a0 n1) (gt v3 v5) v5 true)))else none)else(bif ((gt v3 v5) != 1)then(if(0:Int)≤v5∧v5<(v8.length:Int)then(Ap0 K a0 v3 v4 v5 v6 v7 v8 (Ake K a0 n1) (gt v3 v5) v5 ((gt v8 v5) != (-1)))else none)else(Ap0 K a0 v3 v4 v5 v6 v7 v8 (Ake K a0 n1) (gt v3 v5) v5 false)))))else none)else some true)
def Aya (K:Nat)(a0:D4)(a1:Dh):Option (Bool):=((Atl K a0).bind fun r1=>(bif r1 then((Axb K a0).bind fun r2=>(bif ((a1.Sk.length:Int) != r2)then some false else(bif ((a1.Yq.length:Int) != a0.A6)then some false else(bif ((a1.Sl.length:Int) != a0.A6)then some false else(Ake K a0 K a1.Yq (a1.Yq.length:Int) 0 a1.Sk a1.Yq a1.Sl)))))else some false))
def Bdn:=fd Tryz.func34 ⟨[.v 25,.v 28],[.v 4],true⟩ (gC (A8l K) (gC (Bh8 K) (gC (A07 K) (gC (Bb3 K) (gC (Bh9 K) gN))))) [8,9,10,16,17,18,24,25,26,48,49,58,59,60,61,63,64,75,76] [29899,119599]
def Bx0:Ef:=⟨[(2,.p 102),(3,.p 103),(35,.v 26),(36,.v 2),(37,.v 2),(73,.v 4)],[(103,.box [.v 22,.v 26,.v 26]),(102,.st 25 true)]⟩
def Bx1:Ef:=⟨[(2,.p 102),(3,.p 103),(5,.v 2),(6,.v 2),(35,.v 26),(36,.v 2),(37,.v 2),(46,.v 4)],[(103,.box [.v 22,.v 26,.v 26]),(102,.st 25 true)]⟩
def Bib:Ef:=⟨[(2,.p 102),(3,.p 103),(35,.v 26),(36,.v 2),(37,.v 2)],[(103,.box [.v 22,.v 26,.v 26]),(102,.st 25 true)]⟩
def A8m:=fun(C58:CT Bib _)=>jn (Bdn K) 119599 Bx0 [(58,ar Bib C58)] (fun a b c d e f g h=>Avy K a b e f g c (fun v3 v4 v5 v6 v7 v8=>C58 v3 v4 v5 v6 v7 v8 h) d) kN
def Baa:=fun(C58:CT Bib _)=>jn (Bdn K) 29899 Bx1 [(58,ar Bib C58)] (fun a b c d e f g h i j=>Ap0 K j c d a g h i (fun v3 v4 v5 v6 v7 v8=>C58 v3 v4 v5 v6 v7 v8 j) b e f) (kC (A8m K _) kN)
def Bic:=lp (Bdn K) 58 Bib [] (fun n a b c d e f g=>Ake K g n a b c d e f) (fun n=>(kC (Baa K _) kN))
def Bq6:=ct (Bdn K) (Aya K) (kC (Bic K K) kN)
def Ad0 (K:Nat)(a0:List Int):Option ((List Int)):=(bif a0.isEmpty then Aer (some []) ((if(([]:List Int)++a0).length*8≤140737488355328∧(([]:List Int)++a0).length≤maxLen then some (([]:List Int)++a0)else none))else(if(([]:List Int)++a0).length*8≤140737488355328∧(([]:List Int)++a0).length≤maxLen then some (([]:List Int)++a0)else none))
def A27:=ct (fd Tryz.func79 ⟨[.v 26],[.n 26 true],true⟩ gN) (Ad0 K)
def Aj6 (K:Nat)(a0:List Int)(a1:List Int):Nat->Int->Int->Option (Bool)
 |0,_,_=>none
 |n1+1,v1,v2=>(bif (decide (v2<v1))then(if(0:Int)≤v2∧v2<(a0.length:Int)then(if(0:Int)≤v2∧v2<(a1.length:Int)then(bif ((gt a0 v2) != (gt a1 v2))then some false else(Aj6 K a0 a1 n1 v1 (Am9 .i64 v2 1)))else none)else none)else some true)
def Aj7 (K:Nat)(a0:List Int)(a1:List Int):Option (Bool):=(bif ((a0.length:Int) != (a1.length:Int))then some false else(Aj6 K a0 a1 K (a0.length:Int) 0))
def Bo7:=fd Tryz.func82 ⟨[.v 26,.v 26],[.v 4],true⟩ gN
def Bx2:Ef:=⟨[(0,.v 26),(1,.v 26),(12,.v 2),(13,.v 2)],[]⟩
def Bid:=lp Bo7 58 Bx2 [] (fun n a b=>Aj6 K a b n) (fun n=>kN)
def Bie:=ct Bo7 (Aj7 K) (kC (Bid K K) kN)
def Aom (K:Nat)(a0:List A7)(a1:List A7):Nat->Int->Int->Option (Bool)
 |0,_,_=>none
 |n1+1,v1,v2=>(bif (decide (v2<v1))then(if(0:Int)≤v2∧v2<(a0.length:Int)then(if(0:Int)≤v2∧v2<(a1.length:Int)then(bif (!((((gt a0 v2).fAt)==((gt a1 v2).fAt))&&((((gt a0 v2).Ai8)==((gt a1 v2).Ai8))&&((((gt a0 v2).Ai9)==((gt a1 v2).Ai9))&&true))))then some false else(Aom K a0 a1 n1 v1 (Am9 .i64 v2 1)))else none)else none)else some true)
def Amq (K:Nat)(a0:List A7)(a1:List A7):Option (Bool):=(bif ((a0.length:Int) != (a1.length:Int))then some false else(Aom K a0 a1 K (a0.length:Int) 0))
def Bo8:=fd Tryz.func220 ⟨[.v 69,.v 69],[.v 4],true⟩ gN
def Bx3:Ef:=⟨[(0,.v 69),(1,.v 69),(12,.v 2),(13,.v 2)],[]⟩
def Bif:=lp Bo8 58 Bx3 [] (fun n a b=>Aom K a b n) (fun n=>kN)
def Bq7:=ct Bo8 (Amq K) (kC (Bif K K) kN)
def Ayr (K:Nat)(a0:A8)(a1:A8):Option (Bool):=(bif (a0.Yq==a1.Yq)then(bif (a0.C6==a1.C6)then(bif (a0.Sy==a1.Sy)then(bif (a0.fUp==a1.fUp)then(bif (a0.Wk==a1.Wk)then(bif (a0.Er==a1.Er)then(bif (a0.Wl==a1.Wl)then(bif (a0.Wm==a1.Wm)then((Aj7 K a0.A6 a1.A6).bind fun r1=>(bif r1 then(bif (a0.Afu==a1.Afu)then(bif (a0.Wn==a1.Wn)then((Amq K a0.H7 a1.H7).bind fun r2=>(bif r2 then((Aj7 K a0.F3 a1.F3).bind fun r3=>some r3)else some false))else some false)else some false)else some false))else some false)else some false)else some false)else some false)else some false)else some false)else some false)else some false)
def Bq8:=ct (fd Tryz.func175 ⟨[.v 71,.v 71],[.v 4],true⟩ (gC (Bie K) (gC (Bq7 K) gN)) [9,10,15,16,17,22,23,24,29,30,31,36,37,38,43,44,45,50,51,52,57,58,59,64,65,66,71,72,73,78,79,80,85,86,87]) (Ayr K)
def Az5 (K:Nat)(a0:A8):Option (Bool):=((Ayr K a0 (A8.mk a0.Yq a0.C6 0 0 0 0 0 0 ([]:List Int) 0 0 ([]:List A7) ([]:List Int))).bind fun r1=>some r1)
def Bq9:=ct (fd Tryz.func129 ⟨[.v 71],[.v 4],true⟩ (gC (Bq8 K) gN)) (Az5 K)
def Aoj (K:Nat)(a0:List Int)(a1:Int):Nat->Int->Int->Option (Int)
 |0,_,_=>none
 |n1+1,v1,v2=>(bif (decide (v2<v1))then(if(0:Int)≤v2∧v2<(a0.length:Int)then(bif (a1==(gt a0 v2))then some v2 else(Aoj K a0 a1 n1 v1 (Am9 .i64 v2 1)))else none)else some (-1))
def Awd (K:Nat)(a0:List Int)(a1:Int):Option (Int):=(Aoj K a0 a1 K (a0.length:Int) 0)
def Bo9:=fd Tryz.func96 ⟨[.v 26,.v 3],[.v 3],true⟩ gN
def Bx4:Ef:=⟨[(0,.v 26),(1,.v 2),(7,.v 2),(8,.v 2)],[]⟩
def Big:=lp Bo9 26 Bx4 [] (fun n a b=>Aoj K a b n) (fun n=>kN)
def Bra:=ct Bo9 (Awd K) (kC (Big K K) kN)
def Akk (K:Nat)(a0:List Int)(a1:Int):Option (Bool):=((Awd K a0 a1).bind fun r1=>some (decide (r1≥0)))
def A8n:=ct (fd Tryz.func41 ⟨[.v 26,.v 3],[.v 4],true⟩ (gC (Bra K) gN)) (Akk K)
def Aoy (K:Nat)(a0:D4)(a1:List Int):Nat->(List Int)->Int->Int->Option (Bool)
 |0,_,_,_=>none
 |n1+1,v1,v2,v3=>(bif (decide (v3<v2))then(if(0:Int)≤v3∧v3<(v1.length:Int)then((Adu K (gt v1 v3) 0 (Ana .i64 a0.A6 1)).bind fun r4=>(bif r4 then(if(0:Int)≤0∧0≤v3∧v3≤(a1.length:Int)then((Akk K ((a1.drop (0:Int).toNat).take (v3 - 0).toNat) (gt v1 v3)).bind fun r5=>(bif r5 then some false else(Aoy K a0 a1 n1 v1 v2 (Am9 .i64 v3 1))))else none)else some false))else none)else some true)
def Ate (K:Nat)(a0:D4)(a1:List Int):Option (Bool):=(Aoy K a0 a1 K a1 (a1.length:Int) 0)
def Bpa:=fd Tryz.func130 ⟨[.v 25,.v 26],[.v 4],true⟩ (gC (A8n K) (gC (A07 K) gN)) [18,19,20]
def Bx5:Ef:=⟨[(1,.v 26),(2,.p 102),(7,.v 26),(8,.v 2),(9,.v 2)],[(102,.st 25 true)]⟩
def Bih:=lp (Bpa K) 26 Bx5 [] (fun n a b c d e=>Aoy K e a n b c d) (fun n=>kN)
def Bii:=ct (Bpa K) (Ate K) (kC (Bih K K) kN)
def Atv (K:Nat)(a0:Int):Option (Bool):=((Adu K a0 0 255).bind fun r1=>some (!r1))
def Brb:=ct (fd Tryz.func93 ⟨[.v 3],[.v 4],true⟩ (gC (A07 K) gN)) (Atv K)
def Ah7 (K:Nat)(a0:List Int):Nat->Int->Int->Option (Int)
 |0,_,_=>none
 |n1+1,v1,v2=>(bif (decide (v2<v1))then(if(0:Int)≤v2∧v2<(a0.length:Int)then((Atv K (gt a0 v2)).bind fun r3=>(bif r3 then some v2 else(Ah7 K a0 n1 v1 (Am9 .i64 v2 1))))else none)else some (-1))
def Amf (K:Nat)(a0:List Int):Option (Int):=(Ah7 K a0 K (a0.length:Int) 0)
def Bpb:=fd Tryz.func137 ⟨[.v 26,.f 93 [] []],[.v 3],true⟩ (gC (Brb K) gN)
def Bx6:Ef:=⟨[(0,.v 26),(1,.f 93 [] []),(7,.v 2),(8,.v 2)],[]⟩
def Bij:=lp (Bpb K) 26 Bx6 [] (fun n a=>Ah7 K a n) (fun n=>kN)
def Brc:=ct (Bpb K) (Amf K) (kC (Bij K K) kN)
def Akf (K:Nat)(a0:List Int):Option (Bool):=((Amf K a0).bind fun r1=>some (decide (r1≥0)))
def Brd:=ct (fd Tryz.func92 ⟨[.v 26,.f 93 [] []],[.v 4],true⟩ (gC (Brc K) gN)) (Akf K)
def Arb (K:Nat)(a0:List Int):Option (Bool):=((Akf K a0).bind fun r1=>some (!r1))
def Bb4:=ct (fd Tryz.func38 ⟨[.v 26],[.v 4],true⟩ (gC (Brd K) gN)) (Arb K)
def A1q (K:Nat)(a0:D4)(a1:Int):Option (Bool):=some (decide (a1>a0.Kh))
def Bre:=ct (fd Tryz.func176 ⟨[.v 25,.v 3],[.v 4],true⟩ gN) (A1q K)
def A1r (K:Nat)(a0:Int)(a1:Int):Option (Int):=((Adu K a0 0 1000000000).bind fun r1=>(bif r1 then((Adu K a1 1 1000000000).bind fun r2=>(bif (!r2)then some 0 else(if a1≠(0:Int)then some (Akr .i64 (Ana .i64 (Am9 .i64 a0 a1) 1) a1)else none)))else some 0))
def Brf:=ct (fd Tryz.func178 ⟨[.v 3,.v 3],[.v 3],true⟩ (gC (A07 K) gN) [6,7,8]) (A1r K)
def A0p (K:Nat)(a0:D4)(a1:Int):Option (Int):=((A1r K a1 a0.Kh).bind fun r1=>some r1)
def Brg:=ct (fd Tryz.func177 ⟨[.v 25,.v 3],[.v 3],true⟩ (gC (Brf K) gN)) (A0p K)
def Asl (K:Nat)(a0:D4)(a1:A7):Option (Bool):=((Axb K a0).bind fun r1=>(bif (decide (a1.Ai8≤0))then some false else(bif (decide (a1.fAt<0))then some false else(bif (decide (a1.Ai8>r1))then some false else(bif (decide (a1.fAt>(Ana .i64 r1 a1.Ai8)))then some false else(bif (a1.Ai9==0)then(bif (decide (a1.Ai8≤a0.Kh))then(if a0.Kh≠(0:Int)then(if a0.Kh≠(0:Int)then some ((Akr .i64 a1.fAt a0.Kh)==(Akr .i64 (Ana .i64 (Am9 .i64 a1.fAt a1.Ai8) 1) a0.Kh))else none)else none)else some false)else((A1q K a0 a1.Ai8).bind fun r2=>(bif r2 then((A0p K a0 a1.Ai8).bind fun r3=>(bif (a1.Ai9==r3)then(if a0.Kh≠(0:Int)then some ((Int.tmod a1.fAt a0.Kh)==0)else none)else some false))else some false))))))))
def Bik:=ct (fd Tryz.func132 ⟨[.v 25,.v 112],[.v 4],true⟩ (gC (Bh8 K) (gC (Bre K) (gC (Brg K) gN))) [10,11,14,15,16,20,21,22,38,39,59,60,67,68,69]) (Asl K)
def Avz (K:Nat)(a0:A7)(a1:D4):Option (Bool):=((Asl K a1 a0).bind fun r1=>some (!r1))
def Brh:=ct (fd Tryz.func131 ⟨[.v 112,.r 25],[.v 4],true⟩ (gC (Bik K) gN)) (Avz K)
def Agj (K:Nat)(a0:List A7)(a1_0:D4):Nat->Int->Int->Option (Int)
 |0,_,_=>none
 |n1+1,v1,v2=>(bif (decide (v2<v1))then(if(0:Int)≤v2∧v2<(a0.length:Int)then((Avz K (gt a0 v2) a1_0).bind fun r3=>(bif r3 then some v2 else(Agj K a0 a1_0 n1 v1 (Am9 .i64 v2 1))))else none)else some (-1))
def Aor (K:Nat)(a0:List A7)(a1_0:D4):Option (Int):=(Agj K a0 a1_0 K (a0.length:Int) 0)
def Bpc:=fd Tryz.func135 ⟨[.v 69,.f 131 [] [25]],[.v 3],true⟩ (gC (Brh K) gN)
def Bx7:Ef:=⟨[(0,.v 69),(1,.f 131 [] [25]),(7,.v 2),(8,.v 2)],[]⟩
def Bil:=lp (Bpc K) 26 Bx7 [] (fun n a b=>Agj K a b n) (fun n=>kN)
def Bri:=ct (Bpc K) (Aor K) (kC (Bil K K) kN)
def Aik (K:Nat)(a0:List A7)(a1_0:D4):Option (Bool):=((Aor K a0 a1_0).bind fun r1=>some (decide (r1≥0)))
def Brj:=ct (fd Tryz.func85 ⟨[.v 69,.f 131 [] [25]],[.v 4],true⟩ (gC (Bri K) gN)) (Aik K)
def Ap1 (K:Nat)(a0:D4)(v19:List A7)(v20:List Int):Option (Bool):=(bif (decide ((v19.length:Int)≤12))then(bif (decide ((v20.length:Int)≤6))then((Arb K v20).bind fun r25=>(bif r25 then((Aik K v19 a0).bind fun r26=>some (!r26))else some false))else some false)else some false)
def Ao7 (K:Nat)(a0:D4):Nat->(List Int)->Int->Int->Int->Int->Int->Int->Int->Int->Int->Int->(List Int)->Int->Int->(List A7)->(List Int)->Option (Bool)
 |0,_,_,_,_,_,_,_,_,_,_,_,_,_,_,_,_=>none
 |n1+1,v5,v6,v7,v8,v9,v10,v11,v12,v13,v14,v15,v16,v17,v18,v19,v20=>(bif (decide (v7<v6))then(if(0:Int)≤v7∧v7<(v5.length:Int)then((Adu K (gt v5 v7) 0 a0.Fj).bind fun r21=>(bif (!r21)then some false else(Ao7 K a0 n1 v5 v6 (Am9 .i64 v7 1) v8 v9 v10 v11 v12 v13 v14 v15 v16 v17 v18 v19 v20)))else none)else(bif (decide (v10<0))then some false else(bif (decide (v12<0))then some false else((Ate K a0 v16).bind fun r22=>(bif r22 then(bif (v17 != 0)then((Akk K v16 (Ana .i64 v17 1)).bind fun r23=>(bif r23 then((Adu K v18 0 a0.Kh).bind fun r24=>(bif r24 then(bif (v17==0)then(bif (v18 != 0)then some false else(Ap1 K a0 v19 v20))else(Ap1 K a0 v19 v20))else some false))else some false))else((Adu K v18 0 a0.Kh).bind fun r27=>(bif r27 then(bif (v17==0)then(bif (v18 != 0)then some false else(Ap1 K a0 v19 v20))else(Ap1 K a0 v19 v20))else some false)))else some false)))))
def Ayb (K:Nat)(a0:D4)(a1:A8):Option (Bool):=((Atl K a0).bind fun r1=>(bif r1 then((Adu K a1.Yq 0 3).bind fun r2=>(bif r2 then((Adu K a1.C6 1 a0.Ki).bind fun r3=>(bif (!r3)then some false else(bif (a1.Yq != 1)then((Az5 K a1).bind fun r4=>some r4)else(Ao7 K a0 K ([a1.fUp,a1.Er,a1.Wl,a1.Wm]:List Int) (([a1.fUp,a1.Er,a1.Wl,a1.Wm]:List Int).length:Int) 0 a1.Yq a1.C6 a1.Sy a1.fUp a1.Wk a1.Er a1.Wl a1.Wm a1.A6 a1.Afu a1.Wn a1.H7 a1.F3))))else some false))else some false))
def Bim:=fd Tryz.func81 ⟨[.v 25,.v 71],[.v 4],true⟩ (gC (Bb4 K) (gC (A8n K) (gC (A8l K) (gC (A07 K) (gC (Brj K) (gC (Bq9 K) (gC (Bii K) gN))))))) [8,9,10,13,14,15,16,51,52,55,56,57,61,62,63,64,67,68,74,75,76,77,78,83,84,85,86,89,90,99,100,104,105,106,109,110,111] [31] [(13,[.frzB 102 25])]
def Bx8:Ef:=⟨[(2,.p 102),(3,.p 103)],[(103,.box [.v 2,.v 2,.v 2,.v 2,.v 2,.v 2,.v 2,.v 2,.v 26,.v 2,.v 2,.v 69,.v 26]),(102,.st 25 true)]⟩
def Bx9:Ef:=⟨[(2,.p 102),(3,.p 103),(37,.v 26),(38,.v 2),(39,.v 2)],[(103,.box [.v 2,.v 2,.v 2,.v 2,.v 2,.v 2,.v 2,.v 2,.v 26,.v 2,.v 2,.v 69,.v 26]),(102,.st 25 true)]⟩
def Bin:=jn (Bim K) 31 Bx8 [] (fun _ _ _ _ _ _ _ _ _ _ _ l m o=>Ap1 K o l m) kN
def Be3:=lp (Bim K) 122 Bx9 [] (fun n a b c d e f g h i j k l m o p q r=>Ao7 K r n a b c d e f g h i j k l m o p q) (fun n=>(kC (up (Bin K)) kN))
def Brk:=ct (Bim K) (Ayb K) (kC (Be3 K K) kN)
def Asm (K:Nat)(v2:Int)(v3:Int)(v4:List Int)(v5:List Int)(v6:List Int)(C1:(List Int)->Int->Int->(List Int)->(List Int)->(List Int)->Option ((List Int)))(v7:List Int):Option ((List Int)):=(C1 v7 v2 (Am9 .i64 v3 1) v4 v5 v6)
def Amo (K:Nat)(a1:Int):Nat->(List Int)->Int->Int->(List Int)->(List Int)->(List Int)->Option ((List Int))
 |0,_,_,_,_,_,_=>none
 |n1+1,v1,v2,v3,v4,v5,v6=>(bif (decide (v3<v2))then(if(0:Int)≤v3∧v3<(v5.length:Int)then(bif ((gt v5 v3)==1)then(if(0:Int)≤v3∧v3<(v6.length:Int)then(bif ((gt v6 v3)==a1)then(if(v1++([v3]:List Int)).length*8≤140737488355328∧(v1++([v3]:List Int)).length≤maxLen then(Asm K v2 v3 v4 v5 v6 (Amo K a1 n1) (v1++([v3]:List Int)))else none)else(Asm K v2 v3 v4 v5 v6 (Amo K a1 n1) v1))else none)else(Asm K v2 v3 v4 v5 v6 (Amo K a1 n1) v1))else none)else some v1)
def Axc (K:Nat)(a0:Dh)(a1:Int):Option ((List Int)):=(Amo K a1 K ([]:List Int) (Zp (a0.Yq.length:Int) (a0.Sl.length:Int)) 0 a0.Sk a0.Yq a0.Sl)
def Bio:=fd Tryz.func51 ⟨[.v 28,.v 3],[.n 26 true],true⟩ gN [23,24] [467]
def Bnb:Ef:=⟨[(1,.v 2),(2,.p 102),(5,.o 1005 3 true),(14,.v 2),(15,.v 2)],[(102,.box [.v 22,.v 26,.v 26])]⟩
def Be4:=fun(C58:CT Bnb _)=>jn Bio 467 Bnb [(58,ar Bnb C58)] (fun a b c d e f g=>Asm K c d e f g (C58 a) b) kN
def Bip:=lp Bio 58 Bnb [] (fun n a=>Amo K a n) (fun n=>(kC (Be4 K _) kN))
def Brl:=ct Bio (Axc K) (kC (Bip K K) kN)
def Ams (K:Nat)(a0:A7)(a1:D4)(a2:A8):Nat->Int->Option (Bool)
 |0,_=>none
 |n1+1,v2=>(if a1.Kh≠(0:Int)then(bif (decide (v2≤(Akr .i64 (Ana .i64 (Am9 .i64 a0.fAt a0.Ai8) 1) a1.Kh)))then((Akk K a2.A6 v2).bind fun r3=>(bif (!r3)then some true else(Ams K a0 a1 a2 n1 (Am9 .i64 v2 1))))else some false)else none)
def Arn (K:Nat)(a0:A7)(a1:D4)(a2:A8):Option (Bool):=((Asl K a1 a0).bind fun r1=>(bif (!r1)then some true else(if a1.Kh≠(0:Int)then(Ams K a0 a1 a2 K (Akr .i64 a0.fAt a1.Kh))else none)))
def Bpd:=fd Tryz.func133 ⟨[.v 112,.r 25,.r 71],[.v 4],true⟩ (gC (A8n K) (gC (Bik K) gN))
def Bya:Ef:=⟨[(1,.r 25),(2,.r 71),(3,.p 103),(5,.v 2)],[(103,.st 112 true)]⟩
def Biq:=lp (Bpd K) 58 Bya [] (fun n a b c d=>Ams K d a b n c) (fun n=>kN)
def Brm:=ct (Bpd K) (Arn K) (kC (Biq K K) kN)
def Aex (K:Nat)(a0:List A7)(a1_0:D4)(a1_1:A8):Nat->Int->Int->Option (Int)
 |0,_,_=>none
 |n1+1,v1,v2=>(bif (decide (v2<v1))then(if(0:Int)≤v2∧v2<(a0.length:Int)then((Arn K (gt a0 v2) a1_0 a1_1).bind fun r3=>(bif r3 then some v2 else(Aex K a0 a1_0 a1_1 n1 v1 (Am9 .i64 v2 1))))else none)else some (-1))
def Anv (K:Nat)(a0:List A7)(a1_0:D4)(a1_1:A8):Option (Int):=(Aex K a0 a1_0 a1_1 K (a0.length:Int) 0)
def Bpe:=fd Tryz.func135 ⟨[.v 69,.f 133 [] [25,71]],[.v 3],true⟩ (gC (Brm K) gN)
def Byb:Ef:=⟨[(0,.v 69),(1,.f 133 [] [25,71]),(7,.v 2),(8,.v 2)],[]⟩
def Bir:=lp (Bpe K) 26 Byb [] (fun n a b c=>Aex K a b c n) (fun n=>kN)
def Brn:=ct (Bpe K) (Anv K) (kC (Bir K K) kN)
def Aia (K:Nat)(a0:List A7)(a1_0:D4)(a1_1:A8):Option (Bool):=((Anv K a0 a1_0 a1_1).bind fun r1=>some (decide (r1≥0)))
def Bro:=ct (fd Tryz.func85 ⟨[.v 69,.f 133 [] [25,71]],[.v 4],true⟩ (gC (Brn K) gN)) (Aia K)
def Av0 (K:Nat)(a0:D4)(a1:A8):Option (Bool):=((Aia K a1.H7 a0 a1).bind fun r1=>some (!r1))
def Brp:=ct (fd Tryz.func83 ⟨[.v 25,.v 71],[.v 4],true⟩ (gC (Bro K) gN) [] [] [(1,[.frzB 102 25,.frzB 103 71])]) (Av0 K)
def Axd (K:Nat)(v1:A7)(v2:A7):Option (Bool):=some (decide ((Ana .u64 (IntKind.u64.wrap v1.fAt) (IntKind.u64.wrap v2.fAt))≥(IntKind.u64.wrap v2.Ai8)))
def Axe (K:Nat)(a0:A7)(a1:A7):Option (Bool):=(bif (decide (a0.Ai8≤0))then some true else(bif (decide (a1.Ai8≤0))then some true else(bif (decide (a0.fAt>a1.fAt))then(Axd K a0 a1)else(Axd K a1 a0))))
def Bpf:=fd Tryz.func87 ⟨[.v 112,.v 112],[.v 4],true⟩ gN [7,8] [7]
def Byc:Ef:=⟨[(2,.p 102),(3,.p 103)],[(103,.st 112 true),(102,.st 112 true)]⟩
def Bnc:=jn Bpf 7 Byc [] (Axd K) kN
def Bis:=ct Bpf (Axe K) (kC (Bnc K) kN)
def Atw (K:Nat)(a0:A7)(a1:A7):Option (Bool):=((Axe K a0 a1).bind fun r1=>some (!r1))
def Brq:=ct (fd Tryz.func134 ⟨[.v 112,.r 112],[.v 4],true⟩ (gC (Bis K) gN)) (Atw K)
def Agb (K:Nat)(a0:List A7)(a1_0:A7):Nat->Int->Int->Option (Int)
 |0,_,_=>none
 |n1+1,v1,v2=>(bif (decide (v2<v1))then(if(0:Int)≤v2∧v2<(a0.length:Int)then((Atw K (gt a0 v2) a1_0).bind fun r3=>(bif r3 then some v2 else(Agb K a0 a1_0 n1 v1 (Am9 .i64 v2 1))))else none)else some (-1))
def Anw (K:Nat)(a0:List A7)(a1_0:A7):Option (Int):=(Agb K a0 a1_0 K (a0.length:Int) 0)
def Bpg:=fd Tryz.func135 ⟨[.v 69,.f 134 [] [112]],[.v 3],true⟩ (gC (Brq K) gN)
def Byd:Ef:=⟨[(0,.v 69),(1,.f 134 [] [112]),(7,.v 2),(8,.v 2)],[]⟩
def Biu:=lp (Bpg K) 26 Byd [] (fun n a b=>Agb K a b n) (fun n=>kN)
def Brr:=ct (Bpg K) (Anw K) (kC (Biu K K) kN)
def Aic (K:Nat)(a0:List A7)(a1_0:A7):Option (Bool):=((Anw K a0 a1_0).bind fun r1=>some (decide (r1≥0)))
def Brs:=ct (fd Tryz.func85 ⟨[.v 69,.f 134 [] [112]],[.v 4],true⟩ (gC (Brr K) gN)) (Aic K)
def Aoz (K:Nat)(a0:List A7):Nat->(List A7)->Int->Int->Option (Bool)
 |0,_,_,_=>none
 |n1+1,v1,v2,v3=>(bif (decide (v3<v2))then(if(0:Int)≤v3∧v3<(v1.length:Int)then(if(0:Int)≤0∧0≤v3∧v3≤(a0.length:Int)then((Aic K ((a0.drop (0:Int).toNat).take (v3 - 0).toNat) (gt v1 v3)).bind fun r4=>(bif r4 then some false else(Aoz K a0 n1 v1 v2 (Am9 .i64 v3 1))))else none)else none)else some true)
def Av1 (K:Nat)(a0:List A7):Option (Bool):=(Aoz K a0 K a0 (a0.length:Int) 0)
def Bph:=fd Tryz.func84 ⟨[.v 69],[.v 4],true⟩ (gC (Brs K) gN) [] [] [(4,[.frzB 104 112])]
def Bye:Ef:=⟨[(0,.v 69),(5,.v 69),(6,.v 2),(7,.v 2)],[]⟩
def Biv:=lp (Bph K) 26 Bye [] (fun n a=>Aoz K a n) (fun n=>kN)
def Brt:=ct (Bph K) (Av1 K) (kC (Biv K K) kN)
def Ap3 (K:Nat)(a0:A7)(a1:A7):Option (Bool):=((Axe K a0 a1).bind fun r1=>some (!r1))
def Bru:=ct (fd Tryz.func86 ⟨[.v 112,.r 112],[.v 4],true⟩ (gC (Bis K) gN)) (Ap3 K)
def Adz (K:Nat)(a0:List A7)(a1_0:A7):Nat->Int->Int->Option (Int)
 |0,_,_=>none
 |n1+1,v1,v2=>(bif (decide (v2<v1))then(if(0:Int)≤v2∧v2<(a0.length:Int)then((Ap3 K (gt a0 v2) a1_0).bind fun r3=>(bif r3 then some v2 else(Adz K a0 a1_0 n1 v1 (Am9 .i64 v2 1))))else none)else some (-1))
def Amg (K:Nat)(a0:List A7)(a1_0:A7):Option (Int):=(Adz K a0 a1_0 K (a0.length:Int) 0)
def Bpi:=fd Tryz.func135 ⟨[.v 69,.f 86 [] [112]],[.v 3],true⟩ (gC (Bru K) gN)
def Byf:Ef:=⟨[(0,.v 69),(1,.f 86 [] [112]),(7,.v 2),(8,.v 2)],[]⟩
def Biw:=lp (Bpi K) 26 Byf [] (fun n a b=>Adz K a b n) (fun n=>kN)
def Brv:=ct (Bpi K) (Amg K) (kC (Biw K K) kN)
def Agq (K:Nat)(a0:List A7)(a1_0:A7):Option (Bool):=((Amg K a0 a1_0).bind fun r1=>some (decide (r1≥0)))
def Brw:=ct (fd Tryz.func85 ⟨[.v 69,.f 86 [] [112]],[.v 4],true⟩ (gC (Brv K) gN)) (Agq K)
def Ap4 (K:Nat)(v1:List A8)(v2:Int)(v3:Int)(v4:Int)(v5:Int)(v6:Int)(v7:Int)(v8:Int)(v9:Int)(v10:List Int)(v11:List Int)(v12:List Int)(v13:List A8)(v14:List Av)(v15:List Int)(C1:(List A8)->Int->Int->Int->Int->Int->Int->Int->Int->(List Int)->(List Int)->(List Int)->(List A8)->(List Av)->(List Int)->Option (Bool)):Option (Bool):=(C1 v1 v2 (Am9 .i64 v3 1) v4 v5 v6 v7 v8 v9 v10 v11 v12 v13 v14 v15)
def Aie (K:Nat):Nat->(List A8)->Int->Int->Int->Int->Int->Int->Int->Int->(List Int)->(List Int)->(List Int)->(List A8)->(List Av)->(List Int)->Option (Bool)
 |0,_,_,_,_,_,_,_,_,_,_,_,_,_,_,_=>none
 |n1+1,v1,v2,v3,v4,v5,v6,v7,v8,v9,v10,v11,v12,v13,v14,v15=>(bif (decide (v3<v2))then(if(0:Int)≤v3∧v3<(v1.length:Int)then((Ad0 K ((gt v1 v3).A6)).bind fun r16=>((D6 K r16).bind fun r17=>(if r17.length=r16.length then((Ayb K (D4.mk v4 v5 v6 v7 v8 v9) (gt v1 v3)).bind fun r18=>(bif r18 then((Axc K (Dh.mk v10 v11 v12) v3).bind fun r19=>((Aj7 K r17 r19).bind fun r20=>(bif r20 then((Av0 K (D4.mk v4 v5 v6 v7 v8 v9) (gt v1 v3)).bind fun r21=>(bif r21 then((Av1 K ((gt v1 v3).H7)).bind fun r22=>(bif (!r22)then some false else(bif (((gt v1 v3).Afu)==0)then(Ap4 K v1 v2 v3 v4 v5 v6 v7 v8 v9 v10 v11 v12 v13 v14 v15 (Aie K n1))else(if(0:Int)≤((A7.mk (Am9 .i64 (Anb .i64 (Ana .i64 ((gt v1 v3).Afu) 1) v5) ((gt v1 v3).Wn)) (Ana .i64 v5 ((gt v1 v3).Wn)) 0).fAt)∧((A7.mk (Am9 .i64 (Anb .i64 (Ana .i64 ((gt v1 v3).Afu) 1) v5) ((gt v1 v3).Wn)) (Ana .i64 v5 ((gt v1 v3).Wn)) 0).fAt)≤(Am9 .i64 ((A7.mk (Am9 .i64 (Anb .i64 (Ana .i64 ((gt v1 v3).Afu) 1) v5) ((gt v1 v3).Wn)) (Ana .i64 v5 ((gt v1 v3).Wn)) 0).fAt) ((A7.mk (Am9 .i64 (Anb .i64 (Ana .i64 ((gt v1 v3).Afu) 1) v5) ((gt v1 v3).Wn)) (Ana .i64 v5 ((gt v1 v3).Wn)) 0).Ai8))∧(Am9 .i64 ((A7.mk (Am9 .i64 (Anb .i64 (Ana .i64 ((gt v1 v3).Afu) 1) v5) ((gt v1 v3).Wn)) (Ana .i64 v5 ((gt v1 v3).Wn)) 0).fAt) ((A7.mk (Am9 .i64 (Anb .i64 (Ana .i64 ((gt v1 v3).Afu) 1) v5) ((gt v1 v3).Wn)) (Ana .i64 v5 ((gt v1 v3).Wn)) 0).Ai8))≤(v10.length:Int)then((Atm K ((v10.drop ((A7.mk (Am9 .i64 (Anb .i64 (Ana .i64 ((gt v1 v3).Afu) 1) v5) ((gt v1 v3).Wn)) (Ana .i64 v5 ((gt v1 v3).Wn)) 0).fAt).toNat).take ((Am9 .i64 ((A7.mk (Am9 .i64 (Anb .i64 (Ana .i64 ((gt v1 v3).Afu) 1) v5) ((gt v1 v3).Wn)) (Ana .i64 v5 ((gt v1 v3).Wn)) 0).fAt) ((A7.mk (Am9 .i64 (Anb .i64 (Ana .i64 ((gt v1 v3).Afu) 1) v5) ((gt v1 v3).Wn)) (Ana .i64 v5 ((gt v1 v3).Wn)) 0).Ai8)) - ((A7.mk (Am9 .i64 (Anb .i64 (Ana .i64 ((gt v1 v3).Afu) 1) v5) ((gt v1 v3).Wn)) (Ana .i64 v5 ((gt v1 v3).Wn)) 0).fAt)).toNat)).bind fun r23=>(bif r23 then((Agq K ((gt v1 v3).H7) (A7.mk (Am9 .i64 (Anb .i64 (Ana .i64 ((gt v1 v3).Afu) 1) v5) ((gt v1 v3).Wn)) (Ana .i64 v5 ((gt v1 v3).Wn)) 0)).bind fun r24=>(bif r24 then some false else(Ap4 K v1 v2 v3 v4 v5 v6 v7 v8 v9 v10 v11 v12 v13 v14 v15 (Aie K n1))))else some false))else none))))else some false))else some false)))else some false))else none)))else none)else some true)
def Aro (K:Nat)(a0:Ds):Option (Bool):=(Aie K K a0.fL (a0.fL.length:Int) 0 a0.fC.A6 a0.fC.Kh a0.fC.Fj a0.fC.Hb a0.fC.Fk a0.fC.Ki a0.fP.Sk a0.fP.Yq a0.fP.Sl a0.fL a0.fQ a0.Afv)
def Bix:=fd Tryz.func35 ⟨[.v 32],[.v 4],true⟩ (gC (Brl K) (gC (Bb3 K) (gC (A27 K) (gC (Vg K) (gC (Brk K) (gC (Bie K) (gC (Brp K) (gC (Brt K) (gC (Brw K) gN))))))))) [23,24,25,31,32,33,34,38,39,40,41,78,79,80] [211] [(10,[.frzB 106 112])]
def Bnd:Ef:=⟨[(1,.p 101),(8,.v 29),(9,.v 2),(10,.v 2)],[(101,.box [.v 2,.v 2,.v 2,.v 2,.v 2,.v 2,.v 22,.v 26,.v 26,.v 29,.v 30,.v 26])]⟩
def Be5:=fun(C26:CT Bnd _)=>jn (Bix K) 211 Bnd [(26,ar Bnd C26)] (fun a b c d e f g h i j k l m o p=>Ap4 K a b c d e f g h i j k l m o p C26) kN
def Biy:=lp (Bix K) 26 Bnd [] (Aie K) (fun n=>(kC (Be5 K _) kN))
def Brx:=ct (Bix K) (Aro K) (kC (Biy K K) kN)
def Atn (K:Nat)(a0:List A8)(a1:Int):Option (Bool):=(bif (a1==0)then some true else((Ag9 K a0 (Ana .i64 a1 1)).bind fun r1=>(bif r1 then(if(0:Int)≤(Ana .i64 a1 1)∧(Ana .i64 a1 1)<(a0.length:Int)then some (((gt a0 (Ana .i64 a1 1)).Yq)==1)else none)else some false)))
def Bry:=ct (fd Tryz.func136 ⟨[.v 29,.v 3],[.v 4],true⟩ (gC (A0i K) gN) [6,7,11,12]) (Atn K)
def Aqm (K:Nat)(a0:List A8)(a1:Int):Option (Bool):=(if(0:Int)≤a1∧a1<(a0.length:Int)then((Ag9 K a0 (Ana .i64 ((gt a0 a1).fUp) 1)).bind fun r1=>(bif r1 then(if(0:Int)≤(Ana .i64 ((gt a0 a1).fUp) 1)∧(Ana .i64 ((gt a0 a1).fUp) 1)<(a0.length:Int)then(bif (((gt a0 (Ana .i64 ((gt a0 a1).fUp) 1)).Yq)==1)then(if(0:Int)≤(Ana .i64 ((gt a0 a1).fUp) 1)∧(Ana .i64 ((gt a0 a1).fUp) 1)<(a0.length:Int)then(if(0:Int)≤a1∧a1<(a0.length:Int)then some (((gt a0 (Ana .i64 ((gt a0 a1).fUp) 1)).Sy)==((gt a0 a1).Wk))else none)else none)else some false)else none)else some false))else none)
def Bb5:=ct (fd Tryz.func89 ⟨[.v 29,.v 3],[.v 4],true⟩ (gC (A0i K) gN) [14,15,21,22,23]) (Aqm K)
def Asn (K:Nat)(a0:List A8)(a1:Int)(v8:Int)(v12:Int):Option (Bool):=(bif (v12 != 0)then some true else((Aqm K a0 a1).bind fun r18=>(bif r18 then(if(0:Int)≤(Ana .i64 v8 1)∧(Ana .i64 v8 1)<(a0.length:Int)then some (((gt a0 (Ana .i64 v8 1)).Er)==(Am9 .i64 a1 1))else none)else some true)))
def Aso (K:Nat)(a0:List A8)(a1:Int)(v8:Int)(v12:Int):Option (Bool):=(bif (v12 != 0)then(if(0:Int)≤(Ana .i64 v12 1)∧(Ana .i64 v12 1)<(a0.length:Int)then(bif (((gt a0 (Ana .i64 v12 1)).Wl) != (Am9 .i64 a1 1))then some false else(Asn K a0 a1 v8 v12))else none)else(Asn K a0 a1 v8 v12))
def Asp (K:Nat)(a0:List A8)(a1:Int)(v8:Int)(v9:Int)(v11:Int)(v12:Int):Option (Bool):=(bif (v11 != 0)then(if(0:Int)≤(Ana .i64 v11 1)∧(Ana .i64 v11 1)<(a0.length:Int)then(bif (((gt a0 (Ana .i64 v11 1)).Wm) != (Am9 .i64 a1 1))then some false else(bif (((gt a0 (Ana .i64 v11 1)).fUp) != v8)then some false else(bif (((gt a0 (Ana .i64 v11 1)).Wk) != v9)then some false else(Aso K a0 a1 v8 v12))))else none)else(Aso K a0 a1 v8 v12))
def Asq (K:Nat)(a0:List A8)(a1:Int)(v5:Int)(v6:Int)(v7:Int)(v8:Int)(v9:Int)(v10:Int)(v11:Int)(v12:Int)(v13:List Int)(v14:Int)(v15:Int)(v16:List A7)(v17:List Int):Option (Bool):=(bif (v10 != 0)then(if(0:Int)≤(Ana .i64 v10 1)∧(Ana .i64 v10 1)<(a0.length:Int)then(bif (((gt a0 (Ana .i64 v10 1)).Wm) != 0)then some false else(bif (((gt a0 (Ana .i64 v10 1)).fUp) != (Am9 .i64 a1 1))then some false else(bif (((gt a0 (Ana .i64 v10 1)).Wk) != v7)then some false else(Asp K a0 a1 v8 v9 v11 v12))))else none)else(Asp K a0 a1 v8 v9 v11 v12))
def Axf (K:Nat)(a0:List A8)(a1:Int):Option (Bool):=(if(0:Int)≤a1∧a1<(a0.length:Int)then((Atn K a0 ((gt a0 a1).Er)).bind fun r1=>(bif r1 then((Atn K a0 ((gt a0 a1).Wl)).bind fun r2=>(bif r2 then((Atn K a0 ((gt a0 a1).Wm)).bind fun r3=>(bif r3 then(bif (((gt a0 a1).fUp) != 0)then((Ag9 K a0 (Ana .i64 ((gt a0 a1).fUp) 1)).bind fun r4=>(bif (!r4)then some false else(Asq K a0 a1 ((gt a0 a1).Yq) ((gt a0 a1).C6) ((gt a0 a1).Sy) ((gt a0 a1).fUp) ((gt a0 a1).Wk) ((gt a0 a1).Er) ((gt a0 a1).Wl) ((gt a0 a1).Wm) ((gt a0 a1).A6) ((gt a0 a1).Afu) ((gt a0 a1).Wn) ((gt a0 a1).H7) ((gt a0 a1).F3))))else(Asq K a0 a1 ((gt a0 a1).Yq) ((gt a0 a1).C6) ((gt a0 a1).Sy) ((gt a0 a1).fUp) ((gt a0 a1).Wk) ((gt a0 a1).Er) ((gt a0 a1).Wl) ((gt a0 a1).Wm) ((gt a0 a1).A6) ((gt a0 a1).Afu) ((gt a0 a1).Wn) ((gt a0 a1).H7) ((gt a0 a1).F3)))else some false))else some false))else some false))else none)
def Bab:=fd Tryz.func88 ⟨[.v 29,.v 3],[.v 4],true⟩ (gC (A0i K) (gC (Bb5 K) (gC (Bry K) gN))) [15,16,17,21,22,23,24,28,29,30,31,34,35,55,56,61,62,63,83,84,89,90,91,100,101,115,116,119,120,121,122] [7,15,31,63]
def Biz:=jn (Bab K) 63 A97 [] (fun a b _ _ _ f _ _ _ j _ _ _ _ _=>Asn K a b f j) kN
def Bi0:=jn (Bab K) 31 A97 [] (fun a b _ _ _ f _ _ _ j _ _ _ _ _=>Aso K a b f j) (kC (Biz K) kN)
def Bi1:=jn (Bab K) 15 A97 [] (fun a b _ _ _ f g _ i j _ _ _ _ _=>Asp K a b f g i j) (kC (Bi0 K) kN)
def Bne:=jn (Bab K) 7 A97 [] (Asq K) (kC (Bi1 K) kN)
def Brz:=ct (Bab K) (Axf K) (kC (Bne K) kN)
def Av2 (K:Nat)(v1:List A8)(v2:Int)(v3:Int)(C1:(List A8)->Int->Int->Option (Bool)):Option (Bool):=(C1 v1 v2 (Am9 .i64 v3 1))
def Ao8 (K:Nat)(a0:List A8):Nat->(List A8)->Int->Int->Option (Bool)
 |0,_,_,_=>none
 |n1+1,v1,v2,v3=>(bif (decide (v3<v2))then(if(0:Int)≤v3∧v3<(v1.length:Int)then(bif (((gt v1 v3).Yq) != 1)then(Av2 K v1 v2 v3 (Ao8 K a0 n1))else((Axf K a0 v3).bind fun r4=>(bif (!r4)then some false else((Aud K a0 v3).bind fun r5=>(bif (decide ((r5.length:Int)>4))then some false else(if(0:Int)≤(Ana .i64 (r5.length:Int) 1)∧(Ana .i64 (r5.length:Int) 1)<(r5.length:Int)then((Aqm K a0 (gt r5 (Ana .i64 (r5.length:Int) 1))).bind fun r6=>(bif r6 then some false else(Av2 K v1 v2 v3 (Ao8 K a0 n1))))else none))))))else none)else some true)
def Ayc (K:Nat)(a0:List A8):Option (Bool):=(Ao8 K a0 K a0 (a0.length:Int) 0)
def Bi2:=fd Tryz.func36 ⟨[.v 29],[.v 4],true⟩ (gC (A8k K) (gC (Brz K) (gC (Bb5 K) gN))) [25,26] [211]
def Bnf:Ef:=⟨[(0,.v 29),(6,.v 29),(7,.v 2),(8,.v 2)],[]⟩
def Be6:=fun(C26:CT Bnf _)=>jn (Bi2 K) 211 Bnf [(26,ar Bnf C26)] (fun a b c d=>Av2 K b c d (C26 a)) kN
def Bi3:=lp (Bi2 K) 26 Bnf [] (fun n a=>Ao8 K a n) (fun n=>(kC (Be6 K _) kN))
def Br0:=ct (Bi2 K) (Ayc K) (kC (Bi3 K K) kN)
def Arc (K:Nat)(a0:List A8)(a1:Int):Option (Bool):=(if(0:Int)≤a1∧a1<(a0.length:Int)then(bif (((gt a0 a1).Yq)==1)then(if(0:Int)≤a1∧a1<(a0.length:Int)then(bif (((gt a0 a1).fUp) != 0)then((Aqm K a0 a1).bind fun r1=>some (!r1))else some false)else none)else some false)else none)
def Br1:=ct (fd Tryz.func91 ⟨[.v 29,.v 3],[.v 4],true⟩ (gC (Bb5 K) gN) [10,11,17,18,19]) (Arc K)
def Axg (K:Nat)(a0:D4)(a1:Av):Option (Bool):=((Atl K a0).bind fun r1=>(bif r1 then((Adu K a1.Be 0 a0.Fj).bind fun r2=>(bif r2 then((Adu K a1.Er 0 a0.Fj).bind fun r3=>(bif r3 then(bif (decide ((a1.F3.length:Int)≤6))then((Arb K a1.F3).bind fun r4=>(bif r4 then((Ate K a0 a1.A6).bind fun r5=>(bif r5 then((Adu K a1.Wo 0 (Ana .i64 a0.Kh 1)).bind fun r6=>(bif r6 then(bif (decide ((a1.A6.length:Int)>0))then some true else some (a1.Wo==0))else some false))else some false))else some false))else some false)else some false))else some false))else some false))
def Br2:=ct (fd Tryz.func90 ⟨[.v 25,.v 79],[.v 4],true⟩ (gC (Bb4 K) (gC (A8l K) (gC (A07 K) (gC (Bii K) gN)))) [6,7,12,13,14,19,20,21,25,26,27,30,31,32,36,37,38,44,45,46,50,51]) (Axg K)
def Atf (K:Nat)(a0:List A8):Nat->(List Int)->Int->Option ((List Int))
 |0,_,_=>none
 |n1+1,v1,v2=>((Ag9 K a0 v2).bind fun r3=>(bif r3 then(bif (decide ((v1.length:Int)<(a0.length:Int)))then(if(v1++([v2]:List Int)).length*8≤140737488355328∧(v1++([v2]:List Int)).length≤maxLen then(if(0:Int)≤v2∧v2<(a0.length:Int)then(Atf K a0 n1 (v1++([v2]:List Int)) (Ana .i64 ((gt a0 v2).Wl) 1))else none)else none)else some v1)else some v1))
def Ato (K:Nat)(a0:List A8)(a1:Int):Option ((List Int)):=(Atf K a0 K ([]:List Int) (Ana .i64 a1 1))
def Bpj:=fd Tryz.func46 ⟨[.v 29,.v 3],[.n 26 true],true⟩ (gC (A0i K) gN) [12,13]
def Byg:Ef:=⟨[(0,.v 29),(5,.o 1005 3 true),(6,.v 2)],[]⟩
def Bi4:=lp (Bpj K) 58 Byg [] (fun n a=>Atf K a n) (fun n=>kN)
def Bb6:=ct (Bpj K) (Ato K) (kC (Bi4 K K) kN)
def Aj8 (K:Nat)(v4:List Av)(v5:Int)(v6:Int)(v7:Int)(v8:Int)(v9:Int)(v10:Int)(v11:Int)(v12:Int)(v13:List Int)(v14:List Int)(v15:List Int)(v16:List A8)(v17:List Av)(v18:List Int)(v27:List Int)(v31:List Int)(r32:(List Int))(C1:(List Int)->(List Int)->(List Int)->(List Av)->Int->Int->Int->Int->Int->Int->Int->Int->(List Int)->(List Int)->(List Int)->(List A8)->(List Av)->(List Int)->Option (Bool)):Nat->(List Int)->Int->Int->Option (Bool)
 |0,_,_,_=>none
 |n6+1,v33,v34,v35=>(bif (decide (v35<v34))then(if(0:Int)≤v35∧v35<(r32.length:Int)then(if(0:Int)≤(gt r32 v35)∧(gt r32 v35)<(v33.length:Int)then(if(0:Int)≤(gt r32 v35)∧(gt r32 v35)<(v33.length:Int)then((Arc K v16 (gt r32 v35)).bind fun r36=>(bif (!r36)then some false else(Aj8 K v4 v5 v6 v7 v8 v9 v10 v11 v12 v13 v14 v15 v16 v17 v18 v27 v31 r32 C1 n6 (v33.set (gt r32 v35).toNat (Am9 .i64 (gt v33 (gt r32 v35)) 1)) v34 (Am9 .i64 v35 1))))else none)else none)else none)else(C1 v27 v31 v33 v4 v5 (Am9 .i64 v6 1) v7 v8 v9 v10 v11 v12 v13 v14 v15 v16 v17 v18))
def Ao0 (K:Nat)(v3:List Int)(v4:List Av)(v5:Int)(v6:Int)(v7:Int)(v8:Int)(v9:Int)(v10:Int)(v11:Int)(v12:Int)(v13:List Int)(v14:List Int)(v15:List Int)(v16:List A8)(v17:List Av)(v18:List Int)(v23:Int)(v27:List Int)(v31:List Int)(C1:(List Int)->(List Int)->(List Int)->(List Av)->Int->Int->Int->Int->Int->Int->Int->Int->(List Int)->(List Int)->(List Int)->(List A8)->(List Av)->(List Int)->Option (Bool)):Option (Bool):=((Ato K v16 v23).bind fun r32=>(Aj8 K v4 v5 v6 v7 v8 v9 v10 v11 v12 v13 v14 v15 v16 v17 v18 v27 v31 r32 (C1) K v3 (r32.length:Int) 0))
def Ao1 (K:Nat)(v3:List Int)(v4:List Av)(v5:Int)(v6:Int)(v7:Int)(v8:Int)(v9:Int)(v10:Int)(v11:Int)(v12:Int)(v13:List Int)(v14:List Int)(v15:List Int)(v16:List A8)(v17:List Av)(v18:List Int)(v23:Int)(v27:List Int)(C1:(List Int)->(List Int)->(List Int)->(List Av)->Int->Int->Int->Int->Int->Int->Int->Int->(List Int)->(List Int)->(List Int)->(List A8)->(List Av)->(List Int)->Option (Bool))(v31:List Int):Option (Bool):=(bif (decide (v23>0))then(if(0:Int)≤(Ana .i64 v23 1)∧(Ana .i64 v23 1)<(v16.length:Int)then(bif (((gt v16 (Ana .i64 v23 1)).Wm) != 0)then some false else(Ao0 K v3 v4 v5 v6 v7 v8 v9 v10 v11 v12 v13 v14 v15 v16 v17 v18 v23 v27 v31 (C1)))else none)else(Ao0 K v3 v4 v5 v6 v7 v8 v9 v10 v11 v12 v13 v14 v15 v16 v17 v18 v23 v27 v31 (C1)))
def Aka (K:Nat)(v2:List Int)(v3:List Int)(v4:List Av)(v5:Int)(v6:Int)(v7:Int)(v8:Int)(v9:Int)(v10:Int)(v11:Int)(v12:Int)(v13:List Int)(v14:List Int)(v15:List Int)(v16:List A8)(v17:List Av)(v18:List Int)(v22:Int)(v23:Int)(v25:List Int)(C1:(List Int)->(List Int)->(List Int)->(List Av)->Int->Int->Int->Int->Int->Int->Int->Int->(List Int)->(List Int)->(List Int)->(List A8)->(List Av)->(List Int)->Option (Bool)):Nat->(List Int)->Int->Int->(List Int)->Option (Bool)
 |0,_,_,_,_=>none
 |n3+1,v27,v28,v29,v30=>(bif (decide (v29<v28))then(if(0:Int)≤v29∧v29<(v25.length:Int)then(if(0:Int)≤(gt v25 v29)∧(gt v25 v29)<(v27.length:Int)then(if(0:Int)≤(gt v25 v29)∧(gt v25 v29)<(v27.length:Int)then(if(0:Int)≤(gt v25 v29)∧(gt v25 v29)<(v14.length:Int)then(bif ((gt v14 (gt v25 v29)) != 2)then some false else(Aka K v2 v3 v4 v5 v6 v7 v8 v9 v10 v11 v12 v13 v14 v15 v16 v17 v18 v22 v23 v25 C1 n3 (v27.set (gt v25 v29).toNat (Am9 .i64 (gt v27 (gt v25 v29)) 1)) v28 (Am9 .i64 v29 1) v30))else none)else none)else none)else none)else(bif (decide (v22>0))then(if(0:Int)≤(Ana .i64 v22 1)∧(Ana .i64 v22 1)<(v2.length:Int)then(if(0:Int)≤(Ana .i64 v22 1)∧(Ana .i64 v22 1)<(v2.length:Int)then(if(0:Int)≤(Ana .i64 v22 1)∧(Ana .i64 v22 1)<(v16.length:Int)then(bif (((gt v16 (Ana .i64 v22 1)).Yq) != 2)then some false else(Ao1 K v3 v4 v5 v6 v7 v8 v9 v10 v11 v12 v13 v14 v15 v16 v17 v18 v23 v27 (C1) (v2.set (Ana .i64 v22 1).toNat (Am9 .i64 (gt v2 (Ana .i64 v22 1)) 1))))else none)else none)else none)else(Ao1 K v3 v4 v5 v6 v7 v8 v9 v10 v11 v12 v13 v14 v15 v16 v17 v18 v23 v27 (C1) v2)))
def Ao2 (K:Nat)(v1:List Int)(v2:List Int)(v3:List Int)(v4:List Av)(v5:Int)(v6:Int)(v7:Int)(v8:Int)(v9:Int)(v10:Int)(v11:Int)(v12:Int)(v13:List Int)(v14:List Int)(v15:List Int)(v16:List A8)(v17:List Av)(v18:List Int)(C1:(List Int)->(List Int)->(List Int)->(List Av)->Int->Int->Int->Int->Int->Int->Int->Int->(List Int)->(List Int)->(List Int)->(List A8)->(List Av)->(List Int)->Option (Bool))(v22:Int)(v23:Int)(v24:List Int)(v25:List Int)(v26:Int):Option (Bool):=(Aka K v2 v3 v4 v5 v6 v7 v8 v9 v10 v11 v12 v13 v14 v15 v16 v17 v18 v22 v23 v25 (C1) K v1 (v25.length:Int) 0 v25)
def Ap5 (K:Nat)(v37:Int)(v38:Int)(v39:List Int)(C7:Int->Int->(List Int)->Option (Bool)):Option (Bool):=(C7 v37 (Am9 .i64 v38 1) v39)
def Alf (K:Nat)(v40:Int)(v41:Int)(v42:List A8)(C9:Int->Int->(List A8)->Option (Bool)):Option (Bool):=(C9 v40 (Am9 .i64 v41 1) v42)
def Aee (K:Nat)(v2:List Int)(v3:List Int)(v16:List A8):Nat->Int->Int->(List A8)->Option (Bool)
 |0,_,_,_=>none
 |n9+1,v40,v41,v42=>(bif (decide (v41<v40))then(if(0:Int)≤v41∧v41<(v16.length:Int)then(bif (((gt v16 v41).Yq)==2)then(if(0:Int)≤v41∧v41<(v2.length:Int)then(bif ((gt v2 v41) != 1)then some false else((Arc K v42 v41).bind fun r43=>(bif r43 then(if(0:Int)≤v41∧v41<(v3.length:Int)then(bif ((gt v3 v41) != 1)then some false else(Alf K v40 v41 v42 (Aee K v2 v3 v16 n9)))else none)else(Alf K v40 v41 v42 (Aee K v2 v3 v16 n9)))))else none)else((Arc K v42 v41).bind fun r44=>(bif r44 then(if(0:Int)≤v41∧v41<(v3.length:Int)then(bif ((gt v3 v41) != 1)then some false else(Alf K v40 v41 v42 (Aee K v2 v3 v16 n9)))else none)else(Alf K v40 v41 v42 (Aee K v2 v3 v16 n9)))))else none)else some true)
def Ag3 (K:Nat)(v1:List Int)(v2:List Int)(v3:List Int)(v14:List Int)(v16:List A8):Nat->Int->Int->(List Int)->Option (Bool)
 |0,_,_,_=>none
 |n7+1,v37,v38,v39=>(bif (decide (v38<v37))then(if(0:Int)≤v38∧v38<(v14.length:Int)then(bif ((gt v14 v38)==2)then(if(0:Int)≤v38∧v38<(v1.length:Int)then(bif ((gt v1 v38) != 1)then some false else(Ap5 K v37 v38 v39 (Ag3 K v1 v2 v3 v14 v16 n7)))else none)else(Ap5 K v37 v38 v39 (Ag3 K v1 v2 v3 v14 v16 n7)))else none)else(Aee K v2 v3 v16 K (v16.length:Int) 0 v16))
def Aal (K:Nat):Nat->(List Int)->(List Int)->(List Int)->(List Av)->Int->Int->Int->Int->Int->Int->Int->Int->(List Int)->(List Int)->(List Int)->(List A8)->(List Av)->(List Int)->Option (Bool)
 |0,_,_,_,_,_,_,_,_,_,_,_,_,_,_,_,_,_,_=>none
 |n1+1,v1,v2,v3,v4,v5,v6,v7,v8,v9,v10,v11,v12,v13,v14,v15,v16,v17,v18=>(bif (decide (v6<v5))then(if(0:Int)≤v6∧v6<(v4.length:Int)then((Axg K (D4.mk v7 v8 v9 v10 v11 v12) (gt v4 v6)).bind fun r19=>(bif r19 then(bif (decide ((((gt v4 v6).A6).length:Int)>0))then(if(0:Int)≤0∧0<(((gt v4 v6).A6).length:Int)then((Arm K (Dh.mk v13 v14 v15) (D4.mk v7 v8 v9 v10 v11 v12) (gt ((gt v4 v6).A6) 0)).bind fun r20=>(if(0:Int)≤0∧0≤((gt v4 v6).Wo)∧((gt v4 v6).Wo)≤(r20.length:Int)then((Atm K ((r20.drop (0:Int).toNat).take (((gt v4 v6).Wo) - 0).toNat)).bind fun r21=>(bif (!r21)then some false else(Ao2 K v1 v2 v3 v4 v5 v6 v7 v8 v9 v10 v11 v12 v13 v14 v15 v16 v17 v18 (Aal K n1) ((gt v4 v6).Be) ((gt v4 v6).Er) ((gt v4 v6).F3) ((gt v4 v6).A6) ((gt v4 v6).Wo))))else none))else none)else(Ao2 K v1 v2 v3 v4 v5 v6 v7 v8 v9 v10 v11 v12 v13 v14 v15 v16 v17 v18 (Aal K n1) ((gt v4 v6).Be) ((gt v4 v6).Er) ((gt v4 v6).F3) ((gt v4 v6).A6) ((gt v4 v6).Wo)))else some false))else none)else(Ag3 K v1 v2 v3 v14 v16 K (v14.length:Int) 0 v14))
def Arp (K:Nat)(a0:Ds):Option (Bool):=(if(0:Int)≤a0.fC.A6∧a0.fC.A6≤a0.fC.A6∧(8:Int)*a0.fC.A6≤281474976710656∧a0.fC.A6≤9223372036854775807 then(if(0:Int)≤a0.fC.Fj∧a0.fC.Fj≤a0.fC.Fj∧(8:Int)*a0.fC.Fj≤281474976710656∧a0.fC.Fj≤9223372036854775807 then(if(0:Int)≤a0.fC.Fj∧a0.fC.Fj≤a0.fC.Fj∧(8:Int)*a0.fC.Fj≤281474976710656∧a0.fC.Fj≤9223372036854775807 then(Aal K K (List.replicate a0.fC.A6.toNat 0) (List.replicate a0.fC.Fj.toNat 0) (List.replicate a0.fC.Fj.toNat 0) a0.fQ (a0.fQ.length:Int) 0 a0.fC.A6 a0.fC.Kh a0.fC.Fj a0.fC.Hb a0.fC.Fk a0.fC.Ki a0.fP.Sk a0.fP.Yq a0.fP.Sl a0.fL a0.fQ a0.Afv)else none)else none)else none)
def A1s:=fd Tryz.func37 ⟨[.v 32],[.v 4],true⟩ (gC (Bb6 K) (gC (Bb3 K) (gC (Bh9 K) (gC (Br2 K) (gC (Br1 K) gN))))) [38,39,40,44,45,105,106,150,151,169,170,175,176,177,181,182] [979,2003,3737,14951,29903]
def Bvq:Ef:=⟨[(1,.p 101),(3,.o 1003 3 true),(4,.o 1004 3 true),(5,.o 1005 3 true),(29,.v 30),(30,.v 2),(31,.v 2),(121,.v 26),(122,.v 2),(123,.v 2)],[(101,.box [.v 2,.v 2,.v 2,.v 2,.v 2,.v 2,.v 22,.v 26,.v 26,.v 29,.v 30,.v 26])]⟩
def Bi5:Ef:=⟨[(1,.p 101),(3,.o 1003 3 true),(4,.o 1004 3 true),(5,.o 1005 3 true),(7,.p 107),(29,.v 30),(30,.v 2),(31,.v 2)],[(107,.box [.v 2,.v 2,.v 26,.v 26,.v 2]),(101,.box [.v 2,.v 2,.v 2,.v 2,.v 2,.v 2,.v 22,.v 26,.v 26,.v 29,.v 30,.v 26])]⟩
def Bvr:Ef:=⟨[(1,.p 101),(3,.o 1003 3 true),(4,.o 1004 3 true),(5,.o 1005 3 true),(7,.p 107),(29,.v 30),(30,.v 2),(31,.v 2),(63,.v 26),(64,.v 2),(65,.v 2)],[(107,.box [.v 2,.v 2,.v 26,.v 26,.v 2]),(101,.box [.v 2,.v 2,.v 2,.v 2,.v 2,.v 2,.v 22,.v 26,.v 26,.v 29,.v 30,.v 26])]⟩
def Bdo:Ef:=⟨[(1,.p 101),(3,.o 1003 3 true),(4,.o 1004 3 true),(5,.o 1005 3 true),(142,.v 26),(143,.v 2),(144,.v 2)],[(101,.box [.v 2,.v 2,.v 2,.v 2,.v 2,.v 2,.v 22,.v 26,.v 26,.v 29,.v 30,.v 26])]⟩
def Bdp:Ef:=⟨[(1,.p 101),(4,.o 1004 3 true),(5,.o 1005 3 true),(160,.v 29),(161,.v 2),(162,.v 2)],[(101,.box [.v 2,.v 2,.v 2,.v 2,.v 2,.v 2,.v 22,.v 26,.v 26,.v 29,.v 30,.v 26])]⟩
def A1t:Ef:=⟨[(1,.p 101),(3,.o 1003 3 true),(4,.o 1004 3 true),(5,.o 1005 3 true),(29,.v 30),(30,.v 2),(31,.v 2)],[(101,.box [.v 2,.v 2,.v 2,.v 2,.v 2,.v 2,.v 22,.v 26,.v 26,.v 29,.v 30,.v 26])]⟩
def A8o:=fun(C58:CT A1t _)=>lp (A1s K) 239230 Bvq [(58,ar A1t C58)] (fun n a b c d e f g h i j k l m o p q r s t u v=>Aj8 K d e f j k l m o p q r s t u v a b g C58 n c h i) (fun n=>kN)
def Bac:=fun(C58:CT A1t _)=>jn (A1s K) 29903 Bi5 [(58,ar A1t C58)] (fun a b c d e f _ h _ _ _ l m o p q r s t u v w x=>Ao0 K c d e f l m o p q r s t u v w x h a b C58) (kC (A8o K _ K) kN)
def Bad:=fun(C58:CT A1t _)=>jn (A1s K) 14951 Bi5 [(58,ar A1t C58)] (fun a b c d e f _ h _ _ _ l m o p q r s t u v w x=>Ao1 K c d e f l m o p q r s t u v w x h a C58 b) (kC (Bac K _) kN)
def Bae:=fun(C58:CT A1t _)=>lp (A1s K) 59802 Bvr [(58,ar A1t C58)] (fun n a b c d e f g h i j k _ m _ p q r s t u v w x y z a1=>Aka K b c d e f p q r s t u v w x y z a1 j k g C58 n a h i m) (fun n=>(kC (up (Bad K _)) kN))
def Bb7:=fun(C58:CT A1t _)=>jn (A1s K) 3737 Bi5 [(58,ar A1t C58)] (fun a b c d e f g h i j k l m o p q r s t u v w x=>Ao2 K a b c d e f l m o p q r s t u v w x C58 g h i j k) (kC (Bae K _ K) kN)
def Be7:=fun(C122:CT Bdo _)=>jn (A1s K) 979 Bdo [(122,ar Bdo C122)] (fun a b c d e f g h i j k l m o p q r s=>Ap5 K e f o (fun v37 v38 v39=>C122 a b c d v37 v38 g h i j k l m v39 p q r s)) kN
def Bb8:=fun(C250:CT Bdp _)=>jn (A1s K) 2003 Bdp [(250,ar Bdp C250)] (fun a b c d e f g h i j k l m o p q r=>Alf K d e p (fun v40 v41 v42=>C250 a b c v40 v41 f g h i j k l m o v42 q r)) kN
def Be8:=lp (A1s K) 250 Bdp [] (fun n a b c d e _ _ _ _ _ _ _ _ _ p _ _=>Aee K a b c n d e p) (fun n=>(kC (Bb8 K _) kN))
def Be9:=lp (A1s K) 122 Bdo [] (fun n a b c d e f _ _ _ _ _ _ _ o _ q _ _=>Ag3 K a b c d q n e f o) (fun n=>(kC (Be7 K _) (kC (up (Be8 K K)) kN)))
def Bi6:=lp (A1s K) 58 A1t [] (Aal K) (fun n=>(kC (Bb7 K _) (kC (up (Be9 K K)) kN)))
def Br3:=ct (A1s K) (Arp K) (kC (Bi6 K K) kN)
def Aue (K:Nat)(a0:Ds):Option (Bool):=((Aya K a0.fC a0.fP).bind fun r1=>(bif r1 then(bif ((a0.fL.length:Int)==a0.fC.Fj)then((Aro K a0).bind fun r2=>(bif r2 then((Ayc K a0.fL).bind fun r3=>(bif r3 then((Arp K a0).bind fun r4=>(bif r4 then((Arb K a0.Afv).bind fun r5=>some r5)else some false))else some false))else some false))else some false)else some false))
def Bi7:=ct (fd Tryz.func9 ⟨[.v 32],[.v 4],true⟩ (gC (Bq6 K) (gC (Brx K) (gC (Br0 K) (gC (Br3 K) (gC (Bb4 K) gN))))) [7,8,15,16,17,19,20,21,24,25,26,28,29,30]) (Aue K)
def A0q (K:Nat)(a0:List Int)(a1:Int):Option (Int):=(bif (decide (a1<(a0.length:Int)))then(if(0:Int)≤a1∧a1<(a0.length:Int)then some (IntKind.i64.wrap (gt a0 a1))else none)else(if 256≠(0:Int)then some (Int.tmod (Am9 .i64 (Anb .i64 a1 31) (Anb .i64 (a0.length:Int) 7)) 256)else none))
def Br4:=ct (fd Tryz.func10 ⟨[.v 22,.v 3],[.v 3],true⟩ gN) (A0q K)
def Atg (K:Nat)(a0:List A8)(a1:Int):Option (Bo):=((Ag9 K a0 a1).bind fun r1=>(bif (!r1)then some (Bo.mk 0 0)else(if(0:Int)≤a1∧a1<(a0.length:Int)then some (Bo.mk a1 ((gt a0 a1).C6))else none)))
def Br5:=ct (fd Tryz.func11 ⟨[.v 29,.v 3],[.v 34],true⟩ (gC (A0i K) gN)) (Atg K)
def Av3 (K:Nat)(a0:Bo):Option (Bool):=(bif (decide (a0.Be≥0))then some (decide (a0.C6≥1))else some false)
def Br6:=ct (fd Tryz.func94 ⟨[.v 34],[.v 4],true⟩ gN [5,6]) (Av3 K)
def Auf (K:Nat)(a0:List A8)(a1:Bo):Option (Int):=((Ag9 K a0 a1.Be).bind fun r1=>(bif r1 then(if(0:Int)≤a1.Be∧a1.Be<(a0.length:Int)then(bif (((gt a0 a1.Be).Yq) != 1)then some (-1)else(if(0:Int)≤a1.Be∧a1.Be<(a0.length:Int)then(bif (((gt a0 a1.Be).C6) != a1.C6)then some (-1)else some a1.Be)else none))else none)else some (-1)))
def Bi8:=ct (fd Tryz.func95 ⟨[.v 29,.v 34],[.v 3],true⟩ (gC (A0i K) gN) [8,9,10,17,18,19]) (Auf K)
def Ard (K:Nat)(a0:Ds)(a1:Bo):Option (Int×Int):=((Av3 K a1).bind fun r1=>(bif (!r1)then some ((-1),1)else((Auf K a0.fL a1).bind fun r2=>(bif (decide (r2<0))then some ((-1),2)else((Axa K a0.fL r2).bind fun r3=>(bif (!r3)then some ((-1),2)else some (r2,0)))))))
def Bi9:=ct (fd Tryz.func40 ⟨[.v 32,.v 34],[.v 3,.v 3],true⟩ (gC (Bh5 K) (gC (Br6 K) (gC (Bi8 K) gN))) [15,16]) (Ard K)
def Avc (K:Nat)(a0:Ds)(a1:Bo)(a2:Bo):Option (Bool):=((Ard K a0 a1).bind fun r1=>((Ard K a0 a2).bind fun r2=>(bif (r1.2==0)then(bif (r2.2==0)then((Aud K a0.fL r1.1).bind fun r3=>((Akk K r3 r2.1).bind fun r4=>some r4))else some false)else some false)))
def Br7:=ct (fd Tryz.func12 ⟨[.v 32,.v 34,.v 34],[.v 4],true⟩ (gC (Bi9 K) (gC (A8n K) (gC (A8k K) gN))) [24,25,27,28,29]) (Avc K)
def Arw (K:Nat)(a0:List Int):Option ((List Int)):=(bif a0.isEmpty then Aer (some []) ((if(([]:List Int)++a0).length*1≤140737488355328∧(([]:List Int)++a0).length≤maxLen then some (([]:List Int)++a0)else none))else(if(([]:List Int)++a0).length*1≤140737488355328∧(([]:List Int)++a0).length≤maxLen then some (([]:List Int)++a0)else none))
def Br8:=ct (fd Tryz.func153 ⟨[.v 22],[.n 22 true],true⟩ gN) (Arw K)
def Ath (K:Nat)(a0:Dh):Option (Dh):=((Arw K a0.Sk).bind fun r1=>((Ad0 K a0.Yq).bind fun r2=>((Ad0 K a0.Sl).bind fun r3=>some (Dh.mk r1 r2 r3))))
def Bja:=ct (fd Tryz.func114 ⟨[.v 28],[.n 28 true],true⟩ (gC (A27 K) (gC (Br8 K) gN))) (Ath K)
def Apb (K:Nat)(a0:List A7):Option ((List A7)):=(bif a0.isEmpty then Aer (some []) ((if(([]:List A7)++a0).length*24≤140737488355328∧(([]:List A7)++a0).length≤maxLen then some (([]:List A7)++a0)else none))else(if(([]:List A7)++a0).length*24≤140737488355328∧(([]:List A7)++a0).length≤maxLen then some (([]:List A7)++a0)else none))
def Br9:=ct (fd Tryz.func211 ⟨[.v 69],[.n 69 true],true⟩ gN) (Apb K)
def Av4 (K:Nat)(a0:A8):Option (A8):=((Ad0 K a0.A6).bind fun r1=>((Apb K a0.H7).bind fun r2=>((Ad0 K a0.F3).bind fun r3=>some (A8.mk a0.Yq a0.C6 a0.Sy a0.fUp a0.Wk a0.Er a0.Wl a0.Wm r1 a0.Afu a0.Wn r2 r3))))
def Bsa:=ct (fd Tryz.func154 ⟨[.v 71],[.n 71 true],true⟩ (gC (A27 K) (gC (Br9 K) gN))) (Av4 K)
def An4 (K:Nat)(a0:List A8):Nat->(List A8)->Int->Int->Option ((List A8))
 |0,_,_,_=>none
 |n1+1,v1,v2,v3=>(bif (decide (v3<v2))then(if(0:Int)≤v3∧v3<(a0.length:Int)then((Av4 K (gt a0 v3)).bind fun r4=>(if(v1++[r4]).length*152≤140737488355328∧(v1++[r4]).length≤maxLen then(An4 K a0 n1 (v1++[r4]) v2 (Am9 .i64 v3 1))else none))else none)else some v1)
def Asr (K:Nat)(a0:List A8):Option ((List A8)):=(An4 K a0 K ([]:List A8) (a0.length:Int) 0)
def Bpk:=fd Tryz.func115 ⟨[.v 29],[.n 29 true],true⟩ (gC (Bsa K) gN) (post:=[(16,[.put 3016])])
def Bvs:Ef:=⟨[(3,.o 1003 71 true),(7,.v 29),(8,.v 2),(9,.v 2)],[]⟩
def Bjb:=lp (Bpk K) 58 Bvs [] (fun n a b=>An4 K b n a) (fun n=>kN)
def Bjc:=ct (Bpk K) (Asr K) (kC (Bjb K K) kN)
def Auw (K:Nat)(a0:Av):Option (Av):=((Ad0 K a0.F3).bind fun r1=>((Ad0 K a0.A6).bind fun r2=>some (Av.mk a0.Be a0.Er r1 r2 a0.Wo)))
def Bsb:=ct (fd Tryz.func116 ⟨[.v 79],[.n 79 true],true⟩ (gC (A27 K) gN)) (Auw K)
def Aob (K:Nat):Nat->(List Av)->Int->Int->Ds->Ds->Option (Ds)
 |0,_,_,_,_,_=>none
 |n1+1,v4,v5,v6,v7,v8=>(bif (decide (v6<v5))then(if(0:Int)≤v6∧v6<(v4.length:Int)then((Auw K (gt v4 v6)).bind fun r9=>(if(v7.fQ.length+1)*72≤140737488355328∧v7.fQ.length+1≤maxLen then(Aob K n1 v4 v5 (Am9 .i64 v6 1) (Ds.mk v7.fC v7.fP v7.fL ((v7.fQ++[(default:Av)]).set (v7.fQ.length:Int).toNat r9) v7.Afv) v8)else none))else none)else some v7)
def Aqn (K:Nat)(a0:Ds):Option (Ds):=((Ath K a0.fP).bind fun r1=>((Asr K a0.fL).bind fun r2=>((Ad0 K a0.Afv).bind fun r3=>(Aob K K a0.fQ (a0.fQ.length:Int) 0 (Ds.mk a0.fC r1 r2 [] r3) (Ds.mk (D4.mk 0 0 0 0 0 0) (Dh.mk [] [] []) [] [] [])))))
def Bpl:=fd Tryz.func60 ⟨[.v 32],[.n 32 true],true⟩ (gC (A27 K) (gC (Bja K) (gC (Bjc K) (gC (Bsb K) gN)))) [] [] [(5,[.take 103 10 6658]),(7,[.take 103 6 6654,.take 103 7 6655,.take 103 8 6656,.take 103 9 6657,.take 103 10 6658,.take 103 11 6659])]
def Bvt:Ef:=⟨[(2,.p 102),(3,.p 103),(19,.v 30),(20,.v 2),(21,.v 2)],[(103,.st 32 true),(102,.st 32 true)]⟩
def Bjd:=lp (Bpl K) 58 Bvt [] (Aob K) (fun n=>kN)
def Bb9:=ct (Bpl K) (Aqn K) (kC (Bjd K K) kN)
def A1u (K:Nat)(a0:Ds)(a1:Int):Option (Ds×Es):=((Aqn K a0).bind fun r1=>some (r1,(Es.mk a1 (Bo.mk 0 0) (Dy.mk (Bo.mk 0 0) 0 0) [] 0 0 0)))
def Bsc:=ct (fd Tryz.func57 ⟨[.v 32,.v 3],[.n 32 true,.n 47 true],true⟩ (gC (Bb9 K) gN)) (A1u K)
def A0j (K:Nat)(a0:List A8)(a1:Int):Option (Int):=((Aud K a0 a1).bind fun r1=>some (r1.length:Int))
def Bsd:=ct (fd Tryz.func68 ⟨[.v 29,.v 3],[.v 3],true⟩ (gC (A8k K) gN)) (A0j K)
def Ayd (K:Nat)(a0:Ds)(a1:Bo):Option (Int):=((Auf K a0.fL a1).bind fun r1=>((A0j K a0.fL r1).bind fun r2=>some r2))
def Bse:=ct (fd Tryz.func59 ⟨[.v 32,.v 34],[.v 3],true⟩ (gC (Bsd K) (gC (Bi8 K) gN))) (Ayd K)
def Axh (K:Nat)(a0:A8)(a1:Int):Option (Av):=((Ad0 K a0.F3).bind fun r1=>((Ad0 K a0.A6).bind fun r2=>some (Av.mk a1 a0.Er r1 r2 0)))
def Bsf:=ct (fd Tryz.func97 ⟨[.v 71,.v 3],[.n 79 true],true⟩ (gC (A27 K) gN)) (Axh K)
def Aug (K:Nat)(v3:Dh)(v4:Dh):Option (Dh):=some v3
def Ay8 (K:Nat)(a0:Dh)(a1:Int):Option (Dh):=((Ath K a0).bind fun r1=>((Adu K a1 0 (Ana .i64 (Zp (a0.Yq.length:Int) (a0.Sl.length:Int)) 1)).bind fun r2=>(bif r2 then(if(0:Int)≤a1∧a1<(a0.Yq.length:Int)then(bif ((gt a0.Yq a1)==1)then(if(0:Int)≤a1∧a1<(r1.Yq.length:Int)then(if(0:Int)≤a1∧a1<(r1.Sl.length:Int)then(Aug K (Dh.mk r1.Sk (r1.Yq.set a1.toNat 2) (r1.Sl.set a1.toNat (-1))) (Dh.mk [] [] []))else none)else none)else(Aug K r1 (Dh.mk [] [] [])))else none)else(Aug K r1 (Dh.mk [] [] [])))))
def Bpm:=fd Tryz.func138 ⟨[.v 28,.v 3],[.n 28 true],true⟩ (gC (A07 K) (gC (Bja K) gN)) [17,18] [7] [(4,[.take 105 0 6680,.take 105 1 6681,.take 105 2 6682])]
def Bng:=jn (Bpm K) 7 Bub [] (Aug K) kN
def Bsg:=ct (Bpm K) (Ay8 K) (kC (Bng K) kN)
def Amh (K:Nat):Nat->(List Int)->Int->Int->Int->Int->Int->Int->Int->Int->(List Int)->(List Int)->(List Int)->Nat->(List Av)->(List Int)->(List A8)->Nat->Int->Int->Int->Int->Int->Int->Int->Int->Nat->Int->Int->(List A7)->(List Int)->Option (Ds)
 |0,_,_,_,_,_,_,_,_,_,_,_,_,_,_,_,_,_,_,_,_,_,_,_,_,_,_,_,_,_,_=>none
 |n1+1,v1,v2,v3,v4,v5,v6,v7,v8,v9,v10,v11,v12,v13,v14,v15,v16,v17,v18,v19,v20,v21,v22,v23,v24,v25,v26,v27,v28,v29,v30=>(bif (decide (v3<v2))then(if(0:Int)≤v3∧v3<(v1.length:Int)then((Ay8 K (Dh.mk v10 v11 v12) (gt v1 v3)).bind fun r31=>(Amh K n1 v1 v2 (Am9 .i64 v3 1) v4 v5 v6 v7 v8 v9 r31.Sk r31.Yq r31.Sl v13 v14 v15 v16 ((v17:Int).toNat) v18 v19 v20 v21 v22 v23 v24 v25 v26 v27 v28 v29 v30))else none)else some (Ds.mk (D4.mk v4 v5 v6 v7 v8 v9) (Dh.mk v10 v11 v12) (v16.set (v17:Int).toNat (A8.mk v18 v19 v20 v21 v22 v23 v24 v25 v1 v27 v28 v29 v30)) v14 v15))
def As5 (K:Nat)(a0:Ds)(a1:Int):Option (Ds):=(if(0:Int)≤a1∧a1<(a0.fL.length:Int)then(if(0:Int)≤a1∧a1<(a0.fL.length:Int)then(Amh K K ((gt a0.fL a1).A6) (((gt a0.fL a1).A6).length:Int) 0 a0.fC.A6 a0.fC.Kh a0.fC.Fj a0.fC.Hb a0.fC.Fk a0.fC.Ki a0.fP.Sk a0.fP.Yq a0.fP.Sl a0.fL.length a0.fQ a0.Afv a0.fL a1.toNat ((gt a0.fL a1).Yq) ((gt a0.fL a1).C6) ((gt a0.fL a1).Sy) ((gt a0.fL a1).fUp) ((gt a0.fL a1).Wk) ((gt a0.fL a1).Er) ((gt a0.fL a1).Wl) ((gt a0.fL a1).Wm) (((gt a0.fL a1).A6).length) ((gt a0.fL a1).Afu) ((gt a0.fL a1).Wn) ((gt a0.fL a1).H7) ((gt a0.fL a1).F3))else none)else none)
def Bpn:=fd Tryz.func98 ⟨[.b 32 true,.v 3],[],true⟩ (gC (Bsg K) gN) [] [] [(0,[.take 1 9 5025,.opn 5025 (.tmp 1),.takeE 5025 8 41608]),(3,[.take 1 6 5022,.take 1 7 5023,.take 1 8 5024])]
def Bvu:Ef:=⟨[(0,.p 1),(13,.o 41608 3 true),(14,.v 2),(15,.v 2)],[(1,.ob [.v 2,.v 2,.v 2,.v 2,.v 2,.v 2,.T 5 true,.T 3 true,.T 3 true,.O 5025,.T 79 true,.T 3 true]),(5025,.opn 71 true [.v 2,.v 2,.v 2,.v 2,.v 2,.v 2,.v 2,.v 2,.O 41608,.v 2,.v 2,.T 112 true,.T 3 true])]⟩
def Bnh:=lp (Bpn K) 6 Bvu [] (Amh K) (fun n=>kN)
def Bsh:=ct (Bpn K) (As5 K) (kC (Bnh K K) kN)
def Av5 (K:Nat)(a1:Int)(v9:List A8):Option ((List A8)):=(if(0:Int)≤a1∧a1<(v9.length:Int)then(Apm (v9.set a1.toNat (A8.mk ((gt v9 a1).Yq) ((gt v9 a1).C6) ((gt v9 a1).Sy) 0 ((gt v9 a1).Wk) ((gt v9 a1).Er) ((gt v9 a1).Wl) ((gt v9 a1).Wm) ((gt v9 a1).A6) ((gt v9 a1).Afu) ((gt v9 a1).Wn) ((gt v9 a1).H7) ((gt v9 a1).F3))) fun v10=>(if(0:Int)≤a1∧a1<(v10.length:Int)then(Apm (v10.set a1.toNat (A8.mk ((gt v10 a1).Yq) ((gt v10 a1).C6) ((gt v10 a1).Sy) ((gt v10 a1).fUp) 0 ((gt v10 a1).Er) ((gt v10 a1).Wl) ((gt v10 a1).Wm) ((gt v10 a1).A6) ((gt v10 a1).Afu) ((gt v10 a1).Wn) ((gt v10 a1).H7) ((gt v10 a1).F3))) fun v11=>(if(0:Int)≤a1∧a1<(v11.length:Int)then(Apm (v11.set a1.toNat (A8.mk ((gt v11 a1).Yq) ((gt v11 a1).C6) ((gt v11 a1).Sy) ((gt v11 a1).fUp) ((gt v11 a1).Wk) ((gt v11 a1).Er) 0 ((gt v11 a1).Wm) ((gt v11 a1).A6) ((gt v11 a1).Afu) ((gt v11 a1).Wn) ((gt v11 a1).H7) ((gt v11 a1).F3))) fun v12=>(if(0:Int)≤a1∧a1<(v12.length:Int)then(Apm (v12.set a1.toNat (A8.mk ((gt v12 a1).Yq) ((gt v12 a1).C6) ((gt v12 a1).Sy) ((gt v12 a1).fUp) ((gt v12 a1).Wk) ((gt v12 a1).Er) ((gt v12 a1).Wl) 0 ((gt v12 a1).A6) ((gt v12 a1).Afu) ((gt v12 a1).Wn) ((gt v12 a1).H7) ((gt v12 a1).F3))) fun v13=>some v13)else none))else none))else none))else none)
def Are (K:Nat)(a0:List A8)(a1:Int)(v5:List A8)(v6:Int):Option ((List A8)):=((Ag9 K a0 v6).bind fun r7=>(bif r7 then(if(0:Int)≤a1∧a1<(v5.length:Int)then(if(0:Int)≤v6∧v6<(v5.length:Int)then(Apm (v5.set v6.toNat (A8.mk ((gt v5 v6).Yq) ((gt v5 v6).C6) ((gt v5 v6).Sy) ((gt v5 v6).fUp) ((gt v5 v6).Wk) ((gt v5 v6).Er) ((gt v5 v6).Wl) ((gt v5 a1).Wm) ((gt v5 v6).A6) ((gt v5 v6).Afu) ((gt v5 v6).Wn) ((gt v5 v6).H7) ((gt v5 v6).F3))) fun v8=>(Av5 K a1 v8))else none)else none)else(Av5 K a1 v5)))
def Ap2 (K:Nat)(a0:List A8)(a1:Int)(r1:(List A8))(v15:Int)(v16:Int)(v17:Bool):Option ((List A8)):=(bif v17 then(if(0:Int)≤a1∧a1<(r1.length:Int)then(if(0:Int)≤v16∧v16<(r1.length:Int)then(Apm (r1.set v16.toNat (A8.mk ((gt r1 v16).Yq) ((gt r1 v16).C6) ((gt r1 v16).Sy) ((gt r1 v16).fUp) ((gt r1 v16).Wk) ((gt r1 a1).Wl) ((gt r1 v16).Wl) ((gt r1 v16).Wm) ((gt r1 v16).A6) ((gt r1 v16).Afu) ((gt r1 v16).Wn) ((gt r1 v16).H7) ((gt r1 v16).F3))) fun v18=>(Are K a0 a1 v18 v15))else none)else none)else(Are K a0 a1 r1 v15))
def Aye (K:Nat)(a0:List A8)(a1:Int):Option ((List A8)):=((Asr K a0).bind fun r1=>((Ag9 K a0 a1).bind fun r2=>(bif (!r2)then some r1 else(if(0:Int)≤a1∧a1<(r1.length:Int)then(if(0:Int)≤a1∧a1<(r1.length:Int)then(if(0:Int)≤a1∧a1<(r1.length:Int)then((Ag9 K a0 (Ana .i64 ((gt r1 a1).Wm) 1)).bind fun r3=>(bif r3 then(if(0:Int)≤a1∧a1<(r1.length:Int)then(if(0:Int)≤(Ana .i64 ((gt r1 a1).Wm) 1)∧(Ana .i64 ((gt r1 a1).Wm) 1)<(r1.length:Int)then(Apm (r1.set (Ana .i64 ((gt r1 a1).Wm) 1).toNat (A8.mk ((gt r1 (Ana .i64 ((gt r1 a1).Wm) 1)).Yq) ((gt r1 (Ana .i64 ((gt r1 a1).Wm) 1)).C6) ((gt r1 (Ana .i64 ((gt r1 a1).Wm) 1)).Sy) ((gt r1 (Ana .i64 ((gt r1 a1).Wm) 1)).fUp) ((gt r1 (Ana .i64 ((gt r1 a1).Wm) 1)).Wk) ((gt r1 (Ana .i64 ((gt r1 a1).Wm) 1)).Er) ((gt r1 a1).Wl) ((gt r1 (Ana .i64 ((gt r1 a1).Wm) 1)).Wm) ((gt r1 (Ana .i64 ((gt r1 a1).Wm) 1)).A6) ((gt r1 (Ana .i64 ((gt r1 a1).Wm) 1)).Afu) ((gt r1 (Ana .i64 ((gt r1 a1).Wm) 1)).Wn) ((gt r1 (Ana .i64 ((gt r1 a1).Wm) 1)).H7) ((gt r1 (Ana .i64 ((gt r1 a1).Wm) 1)).F3))) fun v4=>(Are K a0 a1 v4 (Ana .i64 ((gt r1 a1).Wl) 1)))else none)else none)else(if(0:Int)≤a1∧a1<(r1.length:Int)then(bif (((gt r1 a1).Wm)==0)then((Ag9 K a0 (Ana .i64 ((gt r1 a1).fUp) 1)).bind fun r14=>(bif r14 then(if(0:Int)≤(Ana .i64 ((gt r1 a1).fUp) 1)∧(Ana .i64 ((gt r1 a1).fUp) 1)<(r1.length:Int)then(Ap2 K a0 a1 r1 (Ana .i64 ((gt r1 a1).Wl) 1) (Ana .i64 ((gt r1 a1).fUp) 1) (((gt r1 (Ana .i64 ((gt r1 a1).fUp) 1)).Er)==(Am9 .i64 a1 1)))else none)else(Ap2 K a0 a1 r1 (Ana .i64 ((gt r1 a1).Wl) 1) (Ana .i64 ((gt r1 a1).fUp) 1) false)))else(Ap2 K a0 a1 r1 (Ana .i64 ((gt r1 a1).Wl) 1) (Ana .i64 ((gt r1 a1).fUp) 1) false))else none)))else none)else none)else none))))
def Bdq:=fd Tryz.func99 ⟨[.v 29,.v 3],[.n 29 true],true⟩ (gC (A0i K) (gC (Bjc K) gN)) [53,54,57,58,59] [31,63,499]
def Bvv:Ef:=⟨[(0,.v 29),(1,.v 2),(5,.o 1005 71 true),(7,.v 2)],[]⟩
def Bvw:Ef:=⟨[(0,.v 29),(1,.v 2),(5,.o 1005 71 true),(7,.v 2),(8,.v 2),(47,.v 4)],[]⟩
def Bje:=jn (Bdq K) 63 Bu9 [] (Av5 K) kN
def Baf:=jn (Bdq K) 31 Bvv [] (Are K) (kC (Bje K) kN)
def Bfa:=jn (Bdq K) 499 Bvw [] (Ap2 K) (kC (Baf K) kN)
def Bsi:=ct (Bdq K) (Aye K) (kC (Baf K) (kC (Bfa K) kN))
def A1v (K:Nat)(a0:A8):Option (A8):=some (A8.mk 2 a0.C6 0 0 0 0 0 0 [] 0 0 [] [])
def Bsj:=ct (fd Tryz.func100 ⟨[.v 71],[.n 71 true],true⟩ gN) (A1v K)
def Ay9 (K:Nat)(a0:Ds)(a1:Int):Option (Ds):=((Aqn K a0).bind fun r1=>((Ag9 K a0.fL a1).bind fun r2=>(bif r2 then(if(0:Int)≤a1∧a1<(a0.fL.length:Int)then(bif (((gt a0.fL a1).Yq) != 1)then some r1 else(if(0:Int)≤a1∧a1<(a0.fL.length:Int)then((Axh K (gt a0.fL a1) (Am9 .i64 a1 1)).bind fun r3=>(if(r1.fQ.length+1)*72≤140737488355328∧r1.fQ.length+1≤maxLen then((As5 K (Ds.mk r1.fC r1.fP r1.fL ((r1.fQ++[(default:Av)]).set (r1.fQ.length:Int).toNat r3) r1.Afv) a1).bind fun r4=>((Aye K r4.fL a1).bind fun r5=>(if(0:Int)≤a1∧a1<(r5.length:Int)then(if(0:Int)≤a1∧a1<(r5.length:Int)then((A1v K (gt r5 a1)).bind fun r6=>(if(0:Int)≤a1∧a1<(r5.length:Int)then some (Ds.mk r4.fC r4.fP (r5.set a1.toNat r6) r4.fQ r4.Afv)else none))else none)else none)))else none))else none))else none)else some r1)))
def Bsk:=ct (fd Tryz.func44 ⟨[.v 32,.v 3],[.n 32 true],true⟩ (gC (A0i K) (gC (Bb9 K) (gC (Bsf K) (gC (Bsh K) (gC (Bsi K) (gC (Bsj K) gN)))))) [11,12,13] [] [(5,[.put 105]),(6,[.take 105 9 6689]),(7,[.opn 3041 (.tmp 1),.takeE 3041 8 42632,.takeE 3041 11 42635,.takeE 3041 12 42636]),(8,[.take 105 6 6686,.take 105 7 6687,.take 105 8 6688,.take 105 10 6690,.take 105 11 6691])]) (Ay9 K)
def Ass (K:Nat)(a0:Ds)(a1:Bo):Option (Ds×Es):=((Aue K a0).bind fun r1=>(bif (!r1)then((A1u K a0 1).bind fun r2=>some (r2.1,r2.2))else((Ayd K a0 a1).bind fun r3=>((Ard K a0 a1).bind fun r4=>(bif (r4.2 != 0)then((Aqn K a0).bind fun r5=>some (r5,(Es.mk r4.2 (Bo.mk 0 0) (Dy.mk (Bo.mk 0 0) 0 0) [] r3 0 0)))else((Ay9 K a0 r4.1).bind fun r6=>some (r6,(Es.mk r4.2 (Bo.mk 0 0) (Dy.mk (Bo.mk 0 0) 0 0) [] r3 0 0))))))))
def Bsl:=ct (fd Tryz.func43 ⟨[.v 32,.v 34,.f 44 [] []],[.n 32 true,.n 47 true],true⟩ (gC (Bi7 K) (gC (Bi9 K) (gC (Bsk K) (gC (Bsc K) (gC (Bse K) (gC (Bb9 K) gN)))))) [] [] [(7,[.take 108 7 6735]),(8,[.take 108 7 6735])]) (Ass K)
def Auh (K:Nat)(a0:Ds)(a1:Bo):Option (Ds×Es):=((Ass K a0 a1).bind fun r1=>some (r1.1,r1.2))
def Bsm:=ct (fd Tryz.func13 ⟨[.v 32,.v 34],[.n 32 true,.n 47 true],true⟩ (gC (Bsl K) gN)) (Auh K)
def Ao3 (K:Nat):Nat->(List Int)->Int->Int->Option ((List Int))
 |0,_,_,_=>none
 |n1+1,v1,v2,v3=>(bif (decide (v2<v3))then(if(0:Int)≤v3∧v3<(v1.length:Int)then(if(0:Int)≤v2∧v2<(v1.length:Int)then(if(0:Int)≤v2∧v2<(v1.length:Int)then(if(0:Int)≤v3∧v3<((v1.set v2.toNat (gt v1 v3)).length:Int)then(Ao3 K n1 ((v1.set v2.toNat (gt v1 v3)).set v3.toNat (gt v1 v2)) (Am9 .i64 v2 1) (Ana .i64 v3 1))else none)else none)else none)else none)else some v1)
def Arq (K:Nat)(a0:List Int):Option ((List Int)):=(Ao3 K K a0 0 (Ana .i64 (a0.length:Int) 1))
def Bpo:=fd Tryz.func101 ⟨[.w 26 true [(3,true)]],[],true⟩ gN
def Bvx:Ef:=⟨[(0,.o 1 3 true),(2,.v 2),(3,.v 2)],[]⟩
def Bni:=lp Bpo 6 Bvx [] (Ao3 K) (fun n=>kN)
def Bsn:=ct Bpo (Arq K) (kC (Bni K K) kN)
def Ati (K:Nat)(a0:List Int):Option ((List Int)):=((Ad0 K a0).bind fun r1=>((Arq K r1).bind fun r2=>(if r2.length=r1.length then some r2 else none)))
def Bjf:=ct (fd Tryz.func45 ⟨[.v 26],[.n 26 true],true⟩ (gC (A27 K) (gC (Bsn K) gN))) (Ati K)
def Arx (K:Nat)(Rc:Ds->(List Int)->(List Bool)->Option ((List Int)×(List Bool)))(v3:Int)(v4:Int)(v5:Int)(v6:Int)(v7:Int)(v8:Int)(v9:Int)(v10:Int)(v11:List Int)(v12:List Int)(v13:List Int)(v14:List A8)(v15:List Av)(v16:List Int)(C1:(List Bool)->(List Int)->Int->Int->Int->Int->Int->Int->Int->Int->(List Int)->(List Int)->(List Int)->(List A8)->(List Av)->(List Int)->Option ((List Int)×(List Bool)))(v17:List Bool)(v18:List Int):Option ((List Int)×(List Bool)):=(C1 v17 v18 v3 (Am9 .i64 v4 1) v5 v6 v7 v8 v9 v10 v11 v12 v13 v14 v15 v16)
def Amt (K:Nat)(Rc:Ds->(List Int)->(List Bool)->Option ((List Int)×(List Bool)))(a1:List Int):Nat->(List Bool)->(List Int)->Int->Int->Int->Int->Int->Int->Int->Int->(List Int)->(List Int)->(List Int)->(List A8)->(List Av)->(List Int)->Option ((List Int)×(List Bool))
 |0,_,_,_,_,_,_,_,_,_,_,_,_,_,_,_,_=>none
 |n1+1,v1,v2,v3,v4,v5,v6,v7,v8,v9,v10,v11,v12,v13,v14,v15,v16=>(bif (decide (v4<v3))then(if(0:Int)≤v4∧v4<(a1.length:Int)then(if(0:Int)≤(gt a1 v4)∧(gt a1 v4)<(v1.length:Int)then(bif (gt v1 (gt a1 v4))then(Arx K Rc v3 v4 v5 v6 v7 v8 v9 v10 v11 v12 v13 v14 v15 v16 (Amt K Rc a1 n1) v1 v2)else(if(0:Int)≤(gt a1 v4)∧(gt a1 v4)<(v1.length:Int)then(if(0:Int)≤(gt a1 v4)∧(gt a1 v4)<(v14.length:Int)then((Ati K ((gt v14 (gt a1 v4)).F3)).bind fun r19=>(if(v2++r19).length*8≤140737488355328∧(v2++r19).length≤maxLen then(if(0:Int)≤(gt a1 v4)∧(gt a1 v4)<(v14.length:Int)then((Ato K v14 ((gt v14 (gt a1 v4)).Er)).bind fun r20=>((Rc (Ds.mk (D4.mk v5 v6 v7 v8 v9 v10) (Dh.mk v11 v12 v13) v14 v15 v16) r20 (v1.set (gt a1 v4).toNat true)).bind fun r21=>(if r21.2.length=(v1.set (gt a1 v4).toNat true).length then(if((v2++r19)++r21.1).length*8≤140737488355328∧((v2++r19)++r21.1).length≤maxLen then(Arx K Rc v3 v4 v5 v6 v7 v8 v9 v10 v11 v12 v13 v14 v15 v16 (Amt K Rc a1 n1) r21.2 ((v2++r19)++r21.1))else none)else none)))else none)else none))else none)else none))else none)else none)else some (v2,v1))
def Axi (K:Nat)(Rc:Ds->(List Int)->(List Bool)->Option ((List Int)×(List Bool)))(a0:Ds)(a1:List Int)(a2:List Bool):Option ((List Int)×(List Bool)):=(Amt K Rc a1 K a2 ([]:List Int) (a1.length:Int) 0 a0.fC.A6 a0.fC.Kh a0.fC.Fj a0.fC.Hb a0.fC.Fk a0.fC.Ki a0.fP.Sk a0.fP.Yq a0.fP.Sl a0.fL a0.fQ a0.Afv)
def Ak4:Nat->Ds->(List Int)->(List Bool)->Option ((List Int)×(List Bool))
 |0,_,_,_=>none
 |K+1,a0,a1,a2=>Axi K (Ak4 K) a0 a1 a2
def Bag:Sig:=⟨[.v 32,.v 26,.w 82 true [(4,true)]],[.n 26 true],true⟩
def Bjg (Rc:Ds->(List Int)->(List Bool)->Option ((List Int)×(List Bool)))(hR:OkF 47 ⟨Bag,Rc⟩):=fd Tryz.func47 Bag (gC (Bjf K) (gC (Bb6 K) (gC hR gN))) [] [467]
def Bdr:Ef:=⟨[(2,.o 1 4 true),(3,.p 103),(7,.o 1007 3 true),(11,.v 26),(12,.v 2),(13,.v 2)],[(103,.box [.v 2,.v 2,.v 2,.v 2,.v 2,.v 2,.v 22,.v 26,.v 26,.v 29,.v 30,.v 26])]⟩
def Bfb (Rc:Ds->(List Int)->(List Bool)->Option ((List Int)×(List Bool)))(hR:OkF 47 ⟨Bag,Rc⟩):=fun(C58:CT Bdr _)=>jn (Bjg K Rc hR) 467 Bdr [(58,ar Bdr C58)] (fun a b c d e f g h i j k l m o p q r=>Arx K Rc d e f g h i j k l m o p q r (fun v1 v2=>C58 v1 v2 c) a b) kN
def Bjh (Rc:Ds->(List Int)->(List Bool)->Option ((List Int)×(List Bool)))(hR:OkF 47 ⟨Bag,Rc⟩):=lp (Bjg K Rc hR) 58 Bdr [] (fun n a b c=>Amt K Rc c n a b) (fun n=>(kC (Bfb K Rc hR _) kN))
theorem Bji: ∀K:Nat,OkF 47 ⟨Bag,Ak4 K⟩
 |0=>⟨(by intro a0 a1 a2 r h;cases h),_,Tryz.func47,rfl,rfl⟩
 |K+1=>have ih:=Bji K;ct (Bjg K (Ak4 K) ih) (Axi K (Ak4 K)) (kC (Bjh K (Ak4 K) ih K) kN)
def Aqc (K:Nat)(a0:Ds)(a1:Int):Option ((List Int)):=((Ag9 K a0.fL a1).bind fun r1=>(bif (!r1)then some []else(if(0:Int)≤(a0.fL.length:Int)∧(a0.fL.length:Int)≤(a0.fL.length:Int)∧(1:Int)*(a0.fL.length:Int)≤281474976710656∧(a0.fL.length:Int)≤9223372036854775807 then((Ak4 K a0 ([a1]:List Int) (List.replicate (a0.fL.length:Int).toNat false)).bind fun r2=>(if r2.2.length=(List.replicate (a0.fL.length:Int).toNat false).length then some r2.1 else none))else none)))
def Bjj:=ct (fd Tryz.func15 ⟨[.v 32,.v 3],[.n 26 true],true⟩ (gC (A0i K) (gC (Bji K) gN))) (Aqc K)
def Ast (K:Nat)(v2:List Av)(v3:Int)(v4:Int)(v5:Int)(v6:Int)(v7:Int)(v8:Int)(v9:Int)(v10:Int)(v11:List Int)(v12:List Int)(v13:List Int)(v14:List A8)(v15:List Av)(v16:List Int)(r18:(List Int))(C1:(List Int)->(List Av)->Int->Int->Int->Int->Int->Int->Int->Int->(List Int)->(List Int)->(List Int)->(List A8)->(List Av)->(List Int)->Option ((List Int))):Nat->(List Int)->Int->Int->Option ((List Int))
 |0,_,_,_=>none
 |n2+1,v19,v20,v21=>(bif (decide (v21<v20))then(if(0:Int)≤v21∧v21<(r18.length:Int)then((Aqc K (Ds.mk (D4.mk v5 v6 v7 v8 v9 v10) (Dh.mk v11 v12 v13) v14 v15 v16) (gt r18 v21)).bind fun r22=>(if(v19++r22).length*8≤140737488355328∧(v19++r22).length≤maxLen then(Ast K v2 v3 v4 v5 v6 v7 v8 v9 v10 v11 v12 v13 v14 v15 v16 r18 C1 n2 (v19++r22) v20 (Am9 .i64 v21 1))else none))else none)else(C1 v19 v2 v3 (Am9 .i64 v4 1) v5 v6 v7 v8 v9 v10 v11 v12 v13 v14 v15 v16))
def Aqo (K:Nat):Nat->(List Int)->(List Av)->Int->Int->Int->Int->Int->Int->Int->Int->(List Int)->(List Int)->(List Int)->(List A8)->(List Av)->(List Int)->Option ((List Int))
 |0,_,_,_,_,_,_,_,_,_,_,_,_,_,_,_,_=>none
 |n1+1,v1,v2,v3,v4,v5,v6,v7,v8,v9,v10,v11,v12,v13,v14,v15,v16=>(bif (decide (v4<v3))then(if(0:Int)≤v4∧v4<(v2.length:Int)then((Ati K ((gt v2 v4).F3)).bind fun r17=>(if(v1++r17).length*8≤140737488355328∧(v1++r17).length≤maxLen then((Ato K v14 ((gt v2 v4).Er)).bind fun r18=>(Ast K v2 v3 v4 v5 v6 v7 v8 v9 v10 v11 v12 v13 v14 v15 v16 r18 (Aqo K n1) K (v1++r17) (r18.length:Int) 0))else none))else none)else some v1)
def Aui (K:Nat)(a0:Ds):Option ((List Int)):=(Aqo K K ([]:List Int) a0.fQ (a0.fQ.length:Int) 0 a0.fC.A6 a0.fC.Kh a0.fC.Fj a0.fC.Hb a0.fC.Fk a0.fC.Ki a0.fP.Sk a0.fP.Yq a0.fP.Sl a0.fL a0.fQ a0.Afv)
def Bjk:=fd Tryz.func14 ⟨[.v 32],[.n 26 true],true⟩ (gC (Bjj K) (gC (Bjf K) (gC (Bb6 K) gN)))
def Bvy:Ef:=⟨[(1,.p 101),(3,.o 1003 3 true),(10,.v 30),(11,.v 2),(12,.v 2),(25,.v 26),(26,.v 2),(27,.v 2)],[(101,.box [.v 2,.v 2,.v 2,.v 2,.v 2,.v 2,.v 22,.v 26,.v 26,.v 29,.v 30,.v 26])]⟩
def Bjl:Ef:=⟨[(1,.p 101),(3,.o 1003 3 true),(10,.v 30),(11,.v 2),(12,.v 2)],[(101,.box [.v 2,.v 2,.v 2,.v 2,.v 2,.v 2,.v 22,.v 26,.v 26,.v 29,.v 30,.v 26])]⟩
def Bah:=fun(C58:CT Bjl _)=>lp (Bjk K) 29902 Bvy [(58,ar Bjl C58)] (fun n a b c d e f g h i j k l m o p q r s t=>Ast K b c d h i j k l m o p q r s t e C58 n a f g) (fun n=>kN)
def Bjm:=lp (Bjk K) 58 Bjl [] (Aqo K) (fun n=>(kC (Bah K _ K) kN))
def Bso:=ct (Bjk K) (Aui K) (kC (Bjm K K) kN)
def Atx (K:Nat)(a0:List Int)(a1:List Int):Nat->Int->Option (Bool)
 |0,_=>none
 |n1+1,v1=>(bif (decide (v1<(a0.length:Int)))then(if(0:Int)≤v1∧v1<(a0.length:Int)then(if(0:Int)≤v1∧v1<(a1.length:Int)then(bif ((gt a0 v1) != (gt a1 v1))then some false else(Atx K a0 a1 n1 (Am9 .i64 v1 1)))else none)else none)else some true)
def Av6 (K:Nat)(a0:List Int)(a1:List Int):Option (Bool):=(bif ((a0.length:Int) != (a1.length:Int))then some false else(Atx K a0 a1 K 0))
def Bpp:=fd Tryz.func16 ⟨[.v 26,.v 26],[.v 4],true⟩ gN
def Bvz:Ef:=⟨[(0,.v 26),(1,.v 26),(5,.v 2)],[]⟩
def Bjn:=lp Bpp 58 Bvz [] (fun n a b=>Atx K a b n) (fun n=>kN)
def Bsp:=ct Bpp (Av6 K) (kC (Bjn K K) kN)
def Ayf (K:Nat)(a0:List Int):Option (Bool):=((A26 K a0).bind fun r1=>(bif r1 then some true else((Auv K a0).bind fun r2=>((Azk K r2.1).bind fun r3=>(bif (decide ((r3.length:Int)<2))then((Aue K r2.1).bind fun r4=>some r4)else((A0q K a0 2).bind fun r5=>(if(r3.length:Int)≠(0:Int)then(if(0:Int)≤(Int.tmod r5 (r3.length:Int))∧(Int.tmod r5 (r3.length:Int))<(r3.length:Int)then((A0q K a0 3).bind fun r6=>(if(r3.length:Int)≠(0:Int)then(if(0:Int)≤(Int.tmod r6 (r3.length:Int))∧(Int.tmod r6 (r3.length:Int))<(r3.length:Int)then((Atg K r2.1.fL (gt r3 (Int.tmod r5 (r3.length:Int)))).bind fun r7=>((Atg K r2.1.fL (gt r3 (Int.tmod r6 (r3.length:Int)))).bind fun r8=>((Avc K r2.1 r8 r7).bind fun r9=>(bif r9 then some true else((Avc K r2.1 r7 r8).bind fun r10=>(bif r10 then some true else((Auh K r2.1 r7).bind fun r11=>((Auh K r11.1 r8).bind fun r12=>((Aui K r2.1).bind fun r13=>(if(([]:List Int)++r13).length*8≤140737488355328∧(([]:List Int)++r13).length≤maxLen then((Aqc K r2.1 (gt r3 (Int.tmod r5 (r3.length:Int)))).bind fun r14=>(if((([]:List Int)++r13)++r14).length*8≤140737488355328∧((([]:List Int)++r13)++r14).length≤maxLen then((Aqc K r2.1 (gt r3 (Int.tmod r6 (r3.length:Int)))).bind fun r15=>(if(((([]:List Int)++r13)++r14)++r15).length*8≤140737488355328∧(((([]:List Int)++r13)++r14)++r15).length≤maxLen then((Aui K r12.1).bind fun r16=>((Av6 K r16 (((([]:List Int)++r13)++r14)++r15)).bind fun r17=>some r17))else none))else none))else none))))))))))else none)else none))else none)else none)))))))
def Bsq:=ct (fd Tryz.func3 ⟨[.v 22],[.v 4],true⟩ (gC (Bwi K) (gC (Bq1 K) (gC (Bq2 K) (gC (Bi7 K) (gC (Br4 K) (gC (Br5 K) (gC (Br7 K) (gC (Bsm K) (gC (Bso K) (gC (Bjj K) (gC (Bsp K) gN))))))))))) [56,57]) (Ayf K)
end
end Go.Proofs.YtplfjgdlpbdojaaGreat
