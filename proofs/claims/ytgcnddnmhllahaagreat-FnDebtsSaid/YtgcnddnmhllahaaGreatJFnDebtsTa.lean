/- What the functions compute that FnDebts reaches, and that they do; no condition. Printed by gen4.py. -/
import Derived.Test.YtgcnddnmhllahaaGreatJKit
set_option linter.all false
set_option maxRecDepth 20000
namespace Go.Proofs.YtgcnddnmhllahaaGreat
open Go.Eng Go.Proofs.Tryz
noncomputable section
def A4 (a b:Int):Int:=Fp .i64 a b
def Ap (a b:Int):Int:=Aly .i64 a b
def Gx (a b:Int):Int:=Ci .i64 a b
def bx0:List D0:=[.v 2,.v 2,.v 2,.v 2,.v 2,.v 2,.T 5 true,.T 3 true,.T 3 true,.T 77 false,.T 79 true,.T 3 true]
def ae:List D0:=[.v 2,.v 2,.v 2,.v 2,.v 2,.v 2,.T 5 true,.T 3 true,.T 3 true,.T 77 true,.T 79 false,.T 3 true]
def bu:List D0:=[.v 2,.v 2,.v 2,.v 2,.v 2,.v 2,.v 2,.v 2,.v 25,.v 2,.v 2,.v 75,.v 25]
def bx5:List D0:=[.v 2,.v 2,.v 2,.v 2,.v 2,.v 2,.v 2,.v 24,.v 2,.v 2,.v 2]
def W4:List D0:=[.v 2,.v 2,.v 2,.v 2,.v 2,.v 2,.v 24,.v 25,.v 25,.v 35,.v 36,.v 25]
def fw:List D0:=[.v 2,.v 2,.v 25,.v 25,.v 2]
def X5:List D0:=[.v 24,.v 2,.v 2]
def dm:List D0:=[.v 24,.v 25,.v 25]
open Tryz
abbrev PT (h:E7):Type:=Ak tyU h.codes
abbrev Rt (s:Sig):Type:=Option (Af tyU s.codes)
def FnP (R:Type):List TC->Type
 |[]=>R
 |c::l=>c.T tyU->FnP R l
noncomputable def qp{R:Type}:(l:List TC)->FnP R l->Ak tyU l->R
 |[],f,_=>f
 |_::l,f,q=>qp l (f q.1) q.2
abbrev CT (h:E7)(s:Sig):Type:=FnP (Rt s) h.codes
noncomputable abbrev ar{s:Sig}(h:E7)(M:CT h s):SS Ab->Rt s:=arr tyU tab h (qp h.codes M)
abbrev X6 (f:FuncId)(c:Bc tyU):Prop:=Bc.Ok tyU Tryz.prog f c/\Cg Tryz.prog f
theorem Bgo:Tryz.prog.follows .mixedOrders=true:=by kernel_rfl
structure FD (f:FuncId)(s:Sig) where
 fn:Func
 hf:Tryz.prog.funcs[f]? =some fn
 G:List (Nat×Bc tyU)
 g: ∀f c,lk G f=some c->X6 f c
 O:List (Nat×List (Nat×Bc tyU))
 o: ∀d l,lk O d=some l-> ∀f c,lk l f=some c->X6 f c
 kp:List (Nat×(SS Ab->List Oper->Oper->(Aj Ab->Rt s)->Rt s))
 kk: ∀d q,lk kp d=some q->Fw tyU tab Tryz.prog q
 spl:List Nat
 js:List Nat
 pre:List (Nat×List Cmd)
 post:List (Nat×List Cmd)
noncomputable abbrev fo{f:FuncId}{fn:Func}(hf:Tryz.prog.funcs[f]? =some fn)(s:Sig){G:List (Nat×Bc tyU)}(g: ∀f c,lk G f=some c->X6 f c){O:List (Nat×List (Nat×Bc tyU))}(o: ∀d l,lk O d=some l-> ∀f c,lk l f=some c->X6 f c)(spl:List Nat:=[])(js:List Nat:=[])(pre:List (Nat×List Cmd):=[])(post:List (Nat×List Cmd):=[]):FD f s:=⟨fn,hf,G,g,O,o,[],Ayb (U:=tyU) (T:=tab) (P:=Tryz.prog),spl,js,pre,post⟩
noncomputable abbrev fd{f:FuncId}{fn:Func}(hf:Tryz.prog.funcs[f]? =some fn)(s:Sig){G:List (Nat×Bc tyU)}(g: ∀f c,lk G f=some c->X6 f c)(spl:List Nat:=[])(js:List Nat:=[])(pre:List (Nat×List Cmd):=[])(post:List (Nat×List Cmd):=[]):FD f s:=⟨fn,hf,G,g,[],oN,[],Ayb (U:=tyU) (T:=tab) (P:=Tryz.prog),spl,js,pre,post⟩
noncomputable abbrev fk{f:FuncId}{fn:Func}(hf:Tryz.prog.funcs[f]? =some fn)(s:Sig){G:List (Nat×Bc tyU)}(g: ∀f c,lk G f=some c->X6 f c){O:List (Nat×List (Nat×Bc tyU))}(o: ∀d l,lk O d=some l-> ∀f c,lk l f=some c->X6 f c){kp:List (Nat×(SS Ab->List Oper->Oper->(Aj Ab->Rt s)->Rt s))}(kk: ∀d q,lk kp d=some q->Fw tyU tab Tryz.prog q)(spl:List Nat:=[])(js:List Nat:=[])(pre:List (Nat×List Cmd):=[])(post:List (Nat×List Cmd):=[]):FD f s:=⟨fn,hf,G,g,O,o,kp,kk,spl,js,pre,post⟩
section
variable {f:FuncId} {s:Sig}
noncomputable abbrev FD.b (X:FD f s):Code:=X.fn.body.getD .skip
noncomputable def FD.x (X:FD f s)(L B:Λt tyU s):Ox tyU (Af tyU s.codes):=⟨X.G,X.O,eqT eqs,X.fn.ntmps,X.spl,X.pre,X.post,X.js,L,B,Ry tyU tab s X.fn.results.toList,X.kp⟩
abbrev CuX (X:FD f s):Λt tyU s->Nat->(SS Ab->Rt s)->Prop:=Lw tyU tab Tryz.prog X.fn.results.toList s X.fn.ntmps X.js X.b
abbrev CsX (X:FD f s):Λt tyU s->Λt tyU s->Prop:=Kf tyU tab Tryz.prog X.fn.results.toList s X.fn.ntmps X.js X.b
theorem xo (X:FD f s):Ly tyU tab Tryz.prog X.fn.results.toList s X.fn.ntmps X.js X.x:=xok Ayk Bgo X.g X.o Ayl X.kk
theorem lp (X:FD f s)(p:Nat)(h:E7)(B:Λt tyU s)(M:Nat->CT h s){L:Nat->Λt tyU s}(hc: ∀n,CsX X ((p,ar h (M n))::B) (L n))(e: ∀n q,qp h.codes (M (n+1)) q=Rs tyU tab (X.x (L n) ((p,ar h (M n))::B)) X.b (2*p) (h.emb tyU q):=by intro n q;kernel_rfl)(hp:Nat.ble 1 p=true:=by rfl)(hk:Aic X.js X.b p=true:=by kernel_rfl)(e0: ∀q,qp h.codes (M 0) q=none:=by intro q;rfl)(n:Nat):CuX X B p (ar h (M n)):=Ax9 (M:=fun n=>qp h.codes (M n)) (xo X) hp hk e0 e hc n
theorem jn (X:FD f s)(p:Nat)(h:E7)(B:Λt tyU s)(M:CT h s){L:Λt tyU s}(hc:CsX X B L)(e: ∀q,qp h.codes M q=Rs tyU tab (X.x L B) X.b (2*p+1) (h.emb tyU q):=by intro q;kernel_rfl)(hp:Nat.ble 1 p=true:=by rfl):CuX X B p (ar h M):=Ax8 (xo X) hp e hc
theorem up{X:FD f s}{B:Λt tyU s}{p x:Nat}{F G:SS Ab->Rt s}(h:CuX X B p F)(hn:Aih X.js X.b p x=true:=by kernel_rfl):CuX X ((x,G)::B) p F:=Ayd hn h
theorem ct (X:FD f s)(m:Ev tyU s.ps (Rt s)){L:Λt tyU s}(hc:CsX X [] L:=by exact kN)(e:J0 tyU tab (X.x L []) X.b s.ps 0 [] [] m:=by(repeat intro _);show @Eq _ _ _;kernel_rfl)(hs:So tyU s.ps:=by(repeat (refine⟨fun _=>rfl,?_⟩));exact trivial)(h1:(X.fn.name== "runtime.NumGoroutine")=false:=by rfl)(h2:X.fn.body=some X.b:=by rfl)(h5:Nat.ble s.ps.length X.fn.ntmps=true:=by rfl)(h6:Nat.ble (Aw s.ps+1) 100=true:=by rfl)(h7:Nat.ble X.fn.results.toList.length 4=true:=by rfl):X6 f ⟨s,m⟩:=Aya (xo X) Abj e hc X.hf h1 h2 (Array.toArray_toList).symm rfl h5 h6 h7 hs
end
variable (K:Nat)
def A4k (K:Nat)(a0:List Int):Option Bool:=some (decide ((a0.length:Int)>1048576))
def Bgp:=ct (fd func22 ⟨[.v 24],[.v 4],true⟩ gN) (A4k K)
def vf (K:Nat)(a0:List Int):Nat->Int->Int->Option Sx
 |0,_,_=>none
 |n1+1,v1,v2=>bif decide (v2<a0.length)then bif decide (v2<4000)then if 0<=v2/\v2<a0.length then vf K a0 n1 (Alz .i64 (A4 (A4 (Gx v1 137) (IntKind.i64.wrap (gt a0 v2))) 11) 1073741823) (A4 v2 1)else none else some (Sx.mk a0 0 v1)else some (Sx.mk a0 0 v1)
def vg (a0:List Int):Option Sx:=vf K a0 K (A4 161416 a0.length) 0
def X_1:=fd func111 ⟨[.v 24],[.p 171 false],false⟩ gN [11,12]
def h_0:E7:=⟨[(0,.v 24),(3,.v 2),(4,.v 2)],[]⟩
def Bgr:=lp X_1 58 h_0 [] (fun n a=>vf K a n) (fun n=>kN)
def A81:=ct X_1 (vg K) (kC (Bgr K K) kN)
def vh (K:Nat)(a0:List Int)(a1:Int):Option Int:=if 12≠(0:Int)then bif decide ((A4 3 (Afg .i64 (a0.length:Int) 12))>a1)then some a1 else some (A4 3 (Afg .i64 (a0.length:Int) 12))else none
def Bgs:=ct (fd func113 ⟨[.v 24,.v 3],[.v 3],true⟩ gN) (vh K)
def Amg (K:Nat)(v1:Int)(v2:List Int)(v3 v4:Int):Option (Int×Sx):=some (v1,(Sx.mk v2 v3 v4))
def jk (a0:Sx):Option (Int×Sx):=if(0:Int)<=33 then if(0:Int)<=47 then bif decide (a0.fi<a0.fb.length)then if 0<=a0.fi/\a0.fi<a0.fb.length then Amg K (Alz .i64 (A4 (Alz .i64 (Al1 .i64 (Aff .i64 (A4 (Gx a0.fh 6364136223846793005) 1442695040888963407) 33) (Aff .i64 (A4 (Gx a0.fh 6364136223846793005) 1442695040888963407) 47)) 255) (IntKind.i64.wrap (gt a0.fb a0.fi))) 255) a0.fb (A4 a0.fi 1) (A4 (Gx a0.fh 6364136223846793005) 1442695040888963407)else none else Amg K (Alz .i64 (Al1 .i64 (Aff .i64 (A4 (Gx a0.fh 6364136223846793005) 1442695040888963407) 33) (Aff .i64 (A4 (Gx a0.fh 6364136223846793005) 1442695040888963407) 47)) 255) a0.fb a0.fi (A4 (Gx a0.fh 6364136223846793005) 1442695040888963407)else none else none
def X_3:=fd func229 ⟨[.b 171 false],[.v 3],false⟩ gN [] [15]
def h_1:E7:=⟨[(3,.v 2)],[(1,.box X5)]⟩
def Bgu:=jn X_3 15 h_1 [] (Amg K) kN
def A83:=ct X_3 (jk K) (kC (Bgu K) kN)
def P2 (a0:Sx)(a1:Int):Option (Int×Sx):=bif decide (a1<=0)then some (0,a0)else bif decide (a1<=256)then(jk K a0).bind fun r1=>if a1≠(0:Int)then some ((Int.tmod r1.1 a1),r1.2)else none else(jk K a0).bind fun r2=>(jk K r2.2).bind fun r3=>(jk K r3.2).bind fun r4=>if a1≠(0:Int)then some ((Int.tmod (A4 (A4 (Gx r2.1 65536) (Gx r3.1 256)) r4.1) a1),r4.2)else none
def Yq:=ct (fd func131 ⟨[.b 171 false,.v 3],[.v 3],false⟩ (gC (A83 K) gN)) (P2 K)
def Xc (a0:Sx)(a1:List Int):Option (Int×Sx×(List Int)):=(P2 K a0 (a1.length:Int)).bind fun r1=>if 0<=r1.1/\r1.1<a1.length then some ((gt a1 r1.1),r1.2,a1)else none
def jl:=ct (fd func170 ⟨[.b 171 false,.w 25 true [(3,true)]],[.v 3],false⟩ (gC (Yq K) gN)) (Xc K)
def vi (a0:Sx):Option (Sv×Sx):=(P2 K a0 11).bind fun r1=>(Xc K r1.2 ([8,8,9,12,16]:List Int)).bind fun r2=>if r2.2.2.length=([8,8,9,12,16]:List Int).length then(P2 K r2.2.1 7).bind fun r3=>(P2 K r3.2 6).bind fun r4=>(Xc K r4.2 ([1,3,4,8,16]:List Int)).bind fun r5=>if r5.2.2.length=([1,3,4,8,16]:List Int).length then(P2 K r5.2.1 4).bind fun r6=>some ((Sv.mk (A4 2 r1.1) r2.1 (A4 2 r3.1) (A4 1 r4.1) r5.1 (A4 1 r6.1)),r6.2)else none else none
def A84:=ct (fd func224 ⟨[.b 171 false],[.v 33],false⟩ (gC (Yq K) (gC (jl K) gN))) (vi K)
def V4 (K:Nat)(a0 a1 a2:Int):Option Bool:=bif decide (a0>=a1)then some (decide (a0<=a2))else some false
def Xx:=ct (fd func147 ⟨[.v 3,.v 3,.v 3],[.v 4],true⟩ gN [9,10]) (V4 K)
def bw (a0:Sv):Option Bool:=(V4 K a0.L 2 12).bind fun r1=>bif r1 then(V4 K a0.k 8 16).bind fun r2=>bif r2 then(V4 K a0.l 2 8).bind fun r3=>bif r3 then(V4 K a0.e 1 8).bind fun r4=>bif r4 then(V4 K a0.m 1 16).bind fun r5=>bif r5 then(V4 K a0.n 1 4).bind fun r6=>some r6 else some false else some false else some false else some false else some false
def jm:=ct (fd func136 ⟨[.v 33],[.v 4],true⟩ (gC (Xx K) gN) [5,6,9,10,11,14,15,16,19,20,21,24,25,26]) (bw K)
def mw (a0:Sv):Option Int:=(bw K a0).bind fun r1=>bif !r1 then some 0 else some (Gx a0.L a0.k)
def Amp:=ct (fd func235 ⟨[.v 33],[.v 3],true⟩ (gC (jm K) gN)) (mw K)
def A4l (a0:Int):Option (List Int):=(V4 K a0 0 4096).bind fun r1=>bif !r1 then some ([]:List Int)else if 0<=a0/\a0<=a0/\(1:Int)*a0<=281474976710656/\a0<=9223372036854775807 then some (List.replicate a0.toNat (0:Int))else none
def Bgv:=ct (fd func234 ⟨[.v 3],[.n 24 true],true⟩ (gC (Xx K) gN)) (A4l K)
def vj (K:Nat)(a0:Sv):Nat->Int->Pc->Pc->Option Pc
 |0,_,_,_=>none
 |n1+1,v4,v5,v6=>bif decide (v4<a0.L)then if(v5.c++([0]:List Int)).length*8<=140737488355328/\(v5.c++([0]:List Int)).length<=maxLen then if(v5.h++([(-1)]:List Int)).length*8<=140737488355328/\(v5.h++([(-1)]:List Int)).length<=maxLen then vj K a0 n1 (A4 v4 1) (Pc.mk v5.g (v5.c++([0]:List Int)) (v5.h++([(-1)]:List Int))) v6 else none else none else some v5
def Amr (a0:Sv):Option Pc:=(bw K a0).bind fun r1=>bif !r1 then some (Pc.mk [] [] [])else(mw K a0).bind fun r2=>(A4l K r2).bind fun r3=>vj K a0 K 0 (Pc.mk r3 [] []) (Pc.mk [] [] [])
def A85:=fd func137 ⟨[.v 33],[.n 34 true],true⟩ (gC (jm K) (gC (Bgv K) (gC (Amp K) gN))) [] [] [(3,[.take 103 0 6648,.take 103 1 6649,.take 103 2 6650]),(8,[.take 103 1 6649]),(9,[.take 103 2 6650]),(10,[.take 103 0 6648,.take 103 1 6649,.take 103 2 6650])]
def h_2:E7:=⟨[(1,.p 101),(2,.p 102),(3,.p 103),(4,.v 2)],[(103,.st 34 true),(102,.st 34 true),(101,.st 33 true)]⟩
def Bgx:=lp (A85 K) 250 h_2 [] (fun n a b c d=>vj K d n a b c) (fun n=>kN)
def Bgy:=ct (A85 K) (Amr K) (kC (Bgx K K) kN)
def bz (K:Nat)(a0:Int):Option Fy:=some (Fy.mk 0 a0 0 0 0 0 0 0 [] 0 0 [] [])
def vk:=ct (fd func236 ⟨[.v 3],[.n 77 false],true⟩ gN) (bz K)
def vl (a0:Sv):Nat->List Fy->Int->Option (List Fy)
 |0,_,_=>none
 |n1+1,v1,v2=>bif decide (v2<a0.l)then(bw K a0).bind fun r3=>bif r3 then(bz K 1).bind fun r4=>if(v1++[r4]).length*152<=140737488355328/\(v1++[r4]).length<=maxLen then vl a0 n1 (v1++[r4]) (A4 v2 1)else none else some v1 else some v1
def A4m (a0:Sv):Option (List Fy):=vl K a0 K ([]:List Fy) 0
def A86:=fd func138 ⟨[.v 33],[.n 35 true],false⟩ (gC (jm K) (gC (vk K) gN)) [9,10] [] [] [(18,[.put 3018])]
def h_3:E7:=⟨[(1,.p 101),(3,.o 1003 77 true),(4,.v 2)],[(101,.st 33 true)]⟩
def Bg0:=lp (A86 K) 58 h_3 [] (fun n a b c=>vl K c n a b) (fun n=>kN)
def Bg1:=ct (A86 K) (A4m K) (kC (Bg0 K K) kN)
def Amy (a0:Sv):Option H4:=(bw K a0).bind fun r1=>bif !r1 then some (H4.mk (Sv.mk 0 0 0 0 0 0) (Pc.mk [] [] []) [] [] [])else(Amr K a0).bind fun r2=>(A4m K a0).bind fun r3=>some (H4.mk a0 r2 r3 [] [])
def Bg2:=ct (fd func39 ⟨[.v 33],[.n 38 true],false⟩ (gC (jm K) (gC (Bgy K) (gC (Bg1 K) gN)))) (Amy K)
def Yz (K:Nat)(a0:List Fy)(a1:Int):Option Bool:=bif decide (a1>=1)then some (decide (a1<=a0.length))else some false
def jo:=ct (fd func276 ⟨[.v 35,.v 3],[.v 4],true⟩ gN [6,7]) (Yz K)
def vm (a0:List Fy):Nat->Int->List Int->Option (List Int)
 |0,_,_=>none
 |n1+1,v1,v2=>(Yz K a0 (A4 v1 1)).bind fun r3=>bif r3 then bif decide ((v2.length:Int)<a0.length)then if(v2++([v1]:List Int)).length*8<=140737488355328/\(v2++([v1]:List Int)).length<=maxLen then if 0<=v1/\v1<a0.length then vm a0 n1 (Ap (gt a0 v1).s 1) (v2++([v1]:List Int))else none else none else some v2 else some v2
def qq (a0:List Fy)(a1:Int):Option (List Int):=vm K a0 K a1 ([]:List Int)
def A87:=fd func251 ⟨[.v 35,.v 3],[.n 25 true],true⟩ (gC (jo K) gN) [10,11]
def h_4:E7:=⟨[(0,.v 35),(1,.v 2),(5,.o 1005 3 true)],[]⟩
def Bg3:=lp (A87 K) 28 h_4 [] (fun n a=>vm K a n) (fun n=>kN)
def A4o:=ct (A87 K) (qq K) (kC (Bg3 K K) kN)
def fx (a0:List Fy)(a1:Int):Option Bool:=if 0<=a1/\a1<a0.length then(Yz K a0 (gt a0 a1).s).bind fun r1=>bif r1 then if 0<=(Ap (gt a0 a1).s 1)/\(Ap (gt a0 a1).s 1)<a0.length then bif (gt a0 (Ap (gt a0 a1).s 1)).c==1 then if 0<=(Ap (gt a0 a1).s 1)/\(Ap (gt a0 a1).s 1)<a0.length then if 0<=a1/\a1<a0.length then some (((gt a0 (Ap (gt a0 a1).s 1)).f)==(gt a0 a1).t)else none else none else some false else none else some false else none
def A4p:=ct (fd func252 ⟨[.v 35,.v 3],[.v 4],true⟩ (gC (jo K) gN) [13,14,21,22,23]) (fx K)
def Am3 (K:Nat)(v2:Int)(C1:Int->Option Bool):Option Bool:=C1 (A4 v2 1)
def qr (a0:List Fy)(r1:(List Int)):Nat->Int->Option Bool
 |0,_=>none
 |n1+1,v2=>bif decide (v2<r1.length)then if 0<=v2/\v2<r1.length then if 0<=(gt r1 v2)/\(gt r1 v2)<a0.length then bif (gt a0 (gt r1 v2)).c != 1 then some false else bif decide ((A4 v2 1)<r1.length)then if 0<=v2/\v2<r1.length then(fx K a0 (gt r1 v2)).bind fun r3=>bif !r3 then some false else Am3 K v2 (qr a0 r1 n1)else none else Am3 K v2 (qr a0 r1 n1)else none else none else bif decide ((r1.length:Int)>0)then if 0<=(Ap r1.length 1)/\(Ap r1.length 1)<r1.length then if 0<=(gt r1 (Ap r1.length 1))/\(gt r1 (Ap r1.length 1))<a0.length then some (((gt a0 (gt r1 (Ap r1.length 1))).s)==0)else none else none else some false
def qt (a0:List Fy)(a1:Int):Option Bool:=(qq K a0 a1).bind fun r1=>qr K a0 r1 K 0
def A4q:=fd func154 ⟨[.v 35,.v 3],[.v 4],true⟩ (gC (A4o K) (gC (A4p K) gN)) [24,25,30,31,43,44] [233]
def h_5:E7:=⟨[(0,.v 35),(5,.v 25),(6,.v 2)],[]⟩
def Bg4:=fun(C58:CT h_5 _)=>jn (A4q K) 233 h_5 [(58,ar h_5 C58)] (fun a b c=>Am3 K c (C58 a b)) kN
def Bg5:=lp (A4q K) 58 h_5 [] (fun n a b=>qr K a b n) (fun n=>kC (Bg4 K _) kN)
def A4r:=ct (A4q K) (qt K) (kC (Bg5 K K) kN)
def vp (K:Nat)(v2 v3:Int)(v4 v5:Int)(v6 v7 v8:Int)(v9 v10 v11:List Int)(v12:List Fy)(v13:List G9)(v14:List Int)(C1:List Int->Int->Int->Int->Int->Int->Int->Int->List Int->List Int->List Int->List Fy->List G9->List Int->Option (List Int))(v16:List Int):Option (List Int):=C1 v16 (A4 v2 1) v3 v4 v5 v6 v7 v8 v9 v10 v11 v12 v13 v14
def qu:Nat->List Int->Int->Int->Int->Int->Int->Int->Int->List Int->List Int->List Int->List Fy->List G9->List Int->Option (List Int)
 |0,_,_,_,_,_,_,_,_,_,_,_,_,_,_=>none
 |n1+1,v1,v2,v3,v4,v5,v6,v7,v8,v9,v10,v11,v12,v13,v14=>bif decide (v2<v12.length)then(qt K v12 v2).bind fun r15=>bif r15 then if(v1++([v2]:List Int)).length*8<=140737488355328/\(v1++([v2]:List Int)).length<=maxLen then vp K v2 v3 v4 v5 v6 v7 v8 v9 v10 v11 v12 v13 v14 (qu n1) (v1++([v2]:List Int))else none else vp K v2 v3 v4 v5 v6 v7 v8 v9 v10 v11 v12 v13 v14 (qu n1) v1 else some v1
def Axx (a0:H4):Option (List Int):=qu K K ([]:List Int) 0 a0.C.L a0.C.k a0.C.l a0.C.e a0.C.m a0.C.n a0.Q.g a0.Q.c a0.Q.h a0.o a0.p a0.q
def A4s:=fd func45 ⟨[.v 38],[.n 25 true],true⟩ (gC (A4r K) gN) [] [233]
def h_6:E7:=⟨[(1,.p 101),(3,.o 1003 3 true),(4,.v 2)],[(101,.box W4)]⟩
def Bg6:=fun(C58:CT h_6 _)=>jn (A4s K) 233 h_6 [(58,ar h_6 C58)] (fun a b c d e f g h i j k l m o=>vp K b c d e f g h i j k l m o C58 a) kN
def Bg7:=lp (A4s K) 58 h_6 [] (qu K) (fun n=>kC (Bg6 K _) kN)
def A88:=ct (A4s K) (Axx K) (kC (Bg7 K K) kN)
def ca (a0:Sx)(a1:Int):Option (Bool×Sx):=(P2 K a0 a1).bind fun r1=>some ((r1.1==0),r1.2)
def vq:=ct (fd func198 ⟨[.b 171 false,.v 3],[.v 4],false⟩ (gC (Yq K) gN)) (ca K)
def Axz (a0:Sx):Option (Lz×Sx):=(P2 K a0 5).bind fun r1=>(P2 K r1.2 3).bind fun r2=>some ((Lz.mk r1.1 (A4 1 r2.1)),r2.2)
def Bg8:=ct (fd func284 ⟨[.b 171 false],[.v 40],false⟩ (gC (Yq K) gN)) (Axz K)
def vr (a1:Int):Nat->List Int->Int->List Int->Int->Int->Option ((List Int)×Sx)
 |0,_,_,_,_,_=>none
 |n1+1,v1,v2,v3,v4,v5=>bif decide (v2<a1)then(jk K (Sx.mk v3 v4 v5)).bind fun r6=>if(v1++([(IntKind.u8.wrap r6.1)]:List Int)).length*1<=140737488355328/\(v1++([(IntKind.u8.wrap r6.1)]:List Int)).length<=maxLen then vr a1 n1 (v1++([(IntKind.u8.wrap r6.1)]:List Int)) (A4 v2 1) r6.2.fb r6.2.fi r6.2.fh else none else some (v1,(Sx.mk v3 v4 v5))
def Aye (a0:Sx)(a1:Int):Option ((List Int)×Sx):=vr K a1 K ([]:List Int) 0 a0.fb a0.fi a0.fh
def A89:=fd func201 ⟨[.b 171 false,.v 3],[.n 24 true],false⟩ (gC (A83 K) gN)
def h_7:E7:=⟨[(0,.p 1),(1,.v 2),(5,.o 1005 5 true),(6,.v 2)],[(1,.box X5)]⟩
def Bha:=lp (A89 K) 58 h_7 [] (fun n a=>vr K a n) (fun n=>kN)
def A9a:=ct (A89 K) (Aye K) (kC (Bha K K) kN)
def fy (K:Nat)(v6:List Int)(v7 v8:Int)(v9 v10:H5):Option (H5×Sx):=some (v9,(Sx.mk v6 v7 v8))
def qv (v11:Int)(v12:Bool)(v13:List Int)(v14 v15:Int)(v16:Pd)(v17:Lz)(v18 v19:H5):Option (H5×Sx):=bif v12 then fy K v13 v14 v15 (H5.mk v18.I v17 v18.b v18.J v18.K v18.A) v19 else bif v11==2 then(Xc K (Sx.mk v13 v14 v15) ([1,2,3,5,8,9,17,20,0,201]:List Int)).bind fun r20=>if r20.2.2.length=([1,2,3,5,8,9,17,20,0,201]:List Int).length then(Xc K r20.2.1 ([1,1,2,4,3]:List Int)).bind fun r21=>if r21.2.2.length=([1,1,2,4,3]:List Int).length then fy K r21.2.1.fb r21.2.1.fi r21.2.1.fh (H5.mk v18.I v17 v18.b r20.1 r21.1 v18.A) v19 else none else none else bif v11==3 then(P2 K (Sx.mk v13 v14 v15) 4).bind fun r22=>(P2 K r22.2 5).bind fun r23=>fy K r23.2.fb r23.2.fi r23.2.fh (H5.mk v18.I v18.P v16 r22.1 r23.1 v18.A) v19 else bif v11==4 then(P2 K (Sx.mk v13 v14 v15) 4).bind fun r24=>(P2 K r24.2 4).bind fun r25=>(Aye K r25.2 r25.1).bind fun r26=>fy K r26.2.fb r26.2.fi r26.2.fh (H5.mk v18.I v18.P v16 r24.1 v18.K r26.1) v19 else bif v11==5 then(Xc K (Sx.mk v13 v14 v15) ([1,7,255,256]:List Int)).bind fun r27=>if r27.2.2.length=([1,7,255,256]:List Int).length then fy K r27.2.1.fb r27.2.1.fi r27.2.1.fh (H5.mk v18.I v17 v18.b r27.1 v18.K v18.A) v19 else none else fy K v13 v14 v15 v18 v19
def vt (a0:Sx):Option (H5×Sx):=(P2 K a0 9).bind fun r1=>(Axz K r1.2).bind fun r2=>(P2 K r2.2 2).bind fun r3=>(P2 K r3.2 3).bind fun r4=>bif (A4 1 r1.1)==1 then(ca K r4.2 2).bind fun r5=>bif r5.1 then fy K r5.2.fb r5.2.fi r5.2.fh (H5.mk (A4 1 r1.1) r2.1 (Pd.mk (Lz.mk 0 0) 0 0) 0 0 []) (H5.mk 0 (Lz.mk 0 0) (Pd.mk (Lz.mk 0 0) 0 0) 0 0 [])else fy K r5.2.fb r5.2.fi r5.2.fh (H5.mk (A4 1 r1.1) (Lz.mk 0 0) (Pd.mk (Lz.mk 0 0) 0 0) 0 0 []) (H5.mk 0 (Lz.mk 0 0) (Pd.mk (Lz.mk 0 0) 0 0) 0 0 [])else bif (A4 1 r1.1)==6 then qv K (A4 1 r1.1) ((A4 1 r1.1)==6) r4.2.fb r4.2.fi r4.2.fh (Pd.mk r2.1 r3.1 r4.1) r2.1 (H5.mk (A4 1 r1.1) (Lz.mk 0 0) (Pd.mk (Lz.mk 0 0) 0 0) 0 0 []) (H5.mk 0 (Lz.mk 0 0) (Pd.mk (Lz.mk 0 0) 0 0) 0 0 [])else bif (A4 1 r1.1)==7 then qv K (A4 1 r1.1) ((A4 1 r1.1)==7) r4.2.fb r4.2.fi r4.2.fh (Pd.mk r2.1 r3.1 r4.1) r2.1 (H5.mk (A4 1 r1.1) (Lz.mk 0 0) (Pd.mk (Lz.mk 0 0) 0 0) 0 0 []) (H5.mk 0 (Lz.mk 0 0) (Pd.mk (Lz.mk 0 0) 0 0) 0 0 [])else qv K (A4 1 r1.1) ((A4 1 r1.1)==8) r4.2.fb r4.2.fi r4.2.fh (Pd.mk r2.1 r3.1 r4.1) r2.1 (H5.mk (A4 1 r1.1) (Lz.mk 0 0) (Pd.mk (Lz.mk 0 0) 0 0) 0 0 []) (H5.mk 0 (Lz.mk 0 0) (Pd.mk (Lz.mk 0 0) 0 0) 0 0 [])
def A4t:=fd func199 ⟨[.b 171 false],[.n 55 true],false⟩ (gC (Yq K) (gC (jl K) (gC (vq K) (gC (A9a K) (gC (Bg8 K) gN))))) [] [31,1003] [(27,[.take 103 9 6657])]
def h_8:E7:=⟨[(2,.p 102),(3,.p 103)],[(1,.box X5),(103,.st 55 true),(102,.st 55 true)]⟩
def h_9:E7:=⟨[(0,.p 1),(2,.p 102),(3,.p 103),(4,.p 104),(5,.p 105),(19,.v 2),(26,.v 4)],[(1,.box X5),(105,.st 42 true),(104,.st 40 true),(103,.st 55 true),(102,.st 55 true)]⟩
def A9b:=jn (A4t K) 31 h_8 [] (fy K) kN
def Bhd:=jn (A4t K) 1003 h_9 [] (qv K) (kC (A9b K) kN)
def Bhe:=ct (A4t K) (vt K) (kC (A9b K) (kC (Bhd K) kN))
def vu (a0:List Fy)(a1:Int):Option Lz:=(V4 K a1 0 (Ap a0.length 1)).bind fun r1=>bif !r1 then some (Lz.mk 0 0)else if 0<=a1/\a1<a0.length then some (Lz.mk a1 (gt a0 a1).a)else none
def A9c:=ct (fd func200 ⟨[.v 35,.v 3],[.v 40],true⟩ (gC (Xx K) gN)) (vu K)
def vz (r8:Lz)(v27 v28 v29:List Int)(v30:List Fy)(v31:List G9)(v32:List Int)(v34:Int)(v36:List Int)(v37 v38:Int)(v47:Bool):Option (H5×Sx×(List Int)×(List Int)×(List Int)×(List Fy)×(List G9)×(List Int)):=bif v47 then(P2 K (Sx.mk v36 v37 v38) 256).bind fun r48=>some ((H5.mk 5 r8 (Pd.mk (Lz.mk 0 0) 0 0) r48.1 0 []),r48.2,v27,v28,v29,v30,v31,v32)else bif v34==13 then some ((H5.mk 6 r8 (Pd.mk (Lz.mk 0 0) 0 0) 0 0 []),(Sx.mk v36 v37 v38),v27,v28,v29,v30,v31,v32)else bif v34==14 then some ((H5.mk 7 r8 (Pd.mk (Lz.mk 0 0) 0 0) 0 0 []),(Sx.mk v36 v37 v38),v27,v28,v29,v30,v31,v32)else(ca K (Sx.mk v36 v37 v38) 6).bind fun r49=>bif r49.1 then some ((H5.mk 9 (Lz.mk 0 0) (Pd.mk (Lz.mk 0 0) 0 0) 0 0 []),r49.2,v27,v28,v29,v30,v31,v32)else some ((H5.mk 8 r8 (Pd.mk (Lz.mk 0 0) 0 0) 0 0 []),r49.2,v27,v28,v29,v30,v31,v32)
def wa (r8:Lz)(v13:Pd)(v27 v28 v29:List Int)(v30:List Fy)(v31:List G9)(v32:List Int)(v34:Int)(v36:List Int)(v37 v38:Int)(v43:Bool):Option (H5×Sx×(List Int)×(List Int)×(List Int)×(List Fy)×(List G9)×(List Int)):=bif v43 then(P2 K (Sx.mk v36 v37 v38) 2).bind fun r44=>(Aye K r44.2 (A4 1 r44.1)).bind fun r45=>some ((H5.mk 4 (Lz.mk 0 0) v13 0 0 r45.1),r45.2,v27,v28,v29,v30,v31,v32)else bif v34==10 then(P2 K (Sx.mk v36 v37 v38) 3).bind fun r46=>some ((H5.mk 3 (Lz.mk 0 0) v13 0 r46.1 []),r46.2,v27,v28,v29,v30,v31,v32)else bif v34==11 then vz K r8 v27 v28 v29 v30 v31 v32 v34 v36 v37 v38 (v34==11)else vz K r8 v27 v28 v29 v30 v31 v32 v34 v36 v37 v38 (v34==12)
def qx (r8:Lz)(v13:Pd)(v16:Int)(v27 v28 v29:List Int)(v30:List Fy)(v31:List G9)(v32:List Int)(v34:Int)(v36:List Int)(v37 v38:Int)(v39:Bool):Option (H5×Sx×(List Int)×(List Int)×(List Int)×(List Fy)×(List G9)×(List Int)):=bif v39 then(Xc K (Sx.mk v36 v37 v38) ([1,2,3,4,5,8]:List Int)).bind fun r40=>if r40.2.2.length=([1,2,3,4,5,8]:List Int).length then(Xc K r40.2.1 ([1,1,2,4]:List Int)).bind fun r41=>if r41.2.2.length=([1,1,2,4]:List Int).length then some ((H5.mk 2 r8 (Pd.mk (Lz.mk 0 0) 0 0) r40.1 r41.1 []),r41.2.1,v27,v28,v29,v30,v31,v32)else none else none else bif v34==7 then(P2 K (Sx.mk v36 v37 v38) v16).bind fun r42=>some ((H5.mk 2 r8 (Pd.mk (Lz.mk 0 0) 0 0) (A4 (A4 v16 1) r42.1) 1 []),r42.2,v27,v28,v29,v30,v31,v32)else bif v34==8 then wa K r8 v13 v27 v28 v29 v30 v31 v32 v34 v36 v37 v38 (v34==8)else wa K r8 v13 v27 v28 v29 v30 v31 v32 v34 v36 v37 v38 (v34==9)
def qy (r8:Lz)(v13:Pd)(v16:Int)(v27 v28 v29:List Int)(v30:List Fy)(v31:List G9)(v32:List Int)(v34:Int)(v35:Bool)(v36:List Int)(v37 v38:Int):Option (H5×Sx×(List Int)×(List Int)×(List Int)×(List Fy)×(List G9)×(List Int)):=bif v35 then some ((H5.mk 1 r8 (Pd.mk (Lz.mk 0 0) 0 0) 0 0 []),(Sx.mk v36 v37 v38),v27,v28,v29,v30,v31,v32)else bif v34==3 then some ((H5.mk 1 (Lz.mk 0 0) (Pd.mk (Lz.mk 0 0) 0 0) 0 0 []),(Sx.mk v36 v37 v38),v27,v28,v29,v30,v31,v32)else bif v34==4 then qx K r8 v13 v16 v27 v28 v29 v30 v31 v32 v34 v36 v37 v38 (v34==4)else bif v34==5 then qx K r8 v13 v16 v27 v28 v29 v30 v31 v32 v34 v36 v37 v38 (v34==5)else qx K r8 v13 v16 v27 v28 v29 v30 v31 v32 v34 v36 v37 v38 (v34==6)
def wb (r8:Lz)(v10:List Int)(v11 v12:Int)(v13:Pd)(v14:H5)(v15 v16:Int)(v17 v18:Int)(v19 v20:Int)(v21 v22:Nat)(v23 v24:Nat)(v25 v26:Nat)(v27 v28 v29:List Int)(v30:List Fy)(v31:List G9)(v32:List Int):Option (H5×Sx×(List Int)×(List Int)×(List Int)×(List Fy)×(List G9)×(List Int)):=(P2 K (Sx.mk v10 v11 v12) 16).bind fun r33=>bif r33.1==0 then qy K r8 v13 v16 v27 v28 v29 v30 v31 v32 r33.1 (r33.1==0) r33.2.fb r33.2.fi r33.2.fh else bif r33.1==1 then qy K r8 v13 v16 v27 v28 v29 v30 v31 v32 r33.1 (r33.1==1) r33.2.fb r33.2.fi r33.2.fh else qy K r8 v13 v16 v27 v28 v29 v30 v31 v32 r33.1 (r33.1==2) r33.2.fb r33.2.fi r33.2.fh
def wg (a0:Sx)(a1:H4):Option (H5×Sx×(List Int)×(List Int)×(List Int)×(List Fy)×(List G9)×(List Int)):=(Axx K a1).bind fun r1=>bif (r1.length:Int)==0 then(ca K a0 2).bind fun r2=>bif r2.1 then some ((H5.mk 1 (Lz.mk 0 0) (Pd.mk (Lz.mk 0 0) 0 0) 0 0 []),r2.2,a1.Q.g,a1.Q.c,a1.Q.h,a1.o,a1.p,a1.q)else(vt K r2.2).bind fun r3=>some (r3.1,r3.2,a1.Q.g,a1.Q.c,a1.Q.h,a1.o,a1.p,a1.q)else(ca K a0 10).bind fun r4=>bif r4.1 then(ca K r4.2 2).bind fun r5=>bif r5.1 then some ((H5.mk 1 (Lz.mk 0 0) (Pd.mk (Lz.mk 0 0) 0 0) 0 0 []),r5.2,a1.Q.g,a1.Q.c,a1.Q.h,a1.o,a1.p,a1.q)else(vt K r5.2).bind fun r6=>some (r6.1,r6.2,a1.Q.g,a1.Q.c,a1.Q.h,a1.o,a1.p,a1.q)else(P2 K r4.2 (r1.length:Int)).bind fun r7=>if 0<=r7.1/\r7.1<r1.length then(vu K a1.o (gt r1 r7.1)).bind fun r8=>if 0<=(gt r1 r7.1)/\(gt r1 r7.1)<a1.o.length then if 0<=(gt r1 r7.1)/\(gt r1 r7.1)<a1.o.length then if 0<=(gt r1 r7.1)/\(gt r1 r7.1)<a1.o.length then bif decide (((gt a1.o (gt r1 r7.1)).y.length:Int)>0)then if 0<=(gt r1 r7.1)/\(gt r1 r7.1)<a1.o.length then(P2 K r7.2 (((gt a1.o (gt r1 r7.1)).y).length:Int)).bind fun r9=>wb K r8 r9.2.fb r9.2.fi r9.2.fh (Pd.mk r8 (gt a1.o (gt r1 r7.1)).f r9.1) (H5.mk 0 (Lz.mk 0 0) (Pd.mk (Lz.mk 0 0) 0 0) 0 0 []) a1.C.L a1.C.k a1.C.l a1.C.e a1.C.m a1.C.n a1.Q.g.length a1.Q.c.length a1.Q.h.length a1.o.length a1.p.length a1.q.length a1.Q.g a1.Q.c a1.Q.h a1.o a1.p a1.q else none else wb K r8 r7.2.fb r7.2.fi r7.2.fh (Pd.mk r8 (gt a1.o (gt r1 r7.1)).f 0) (H5.mk 0 (Lz.mk 0 0) (Pd.mk (Lz.mk 0 0) 0 0) 0 0 []) a1.C.L a1.C.k a1.C.l a1.C.e a1.C.m a1.C.n a1.Q.g.length a1.Q.c.length a1.Q.h.length a1.o.length a1.p.length a1.q.length a1.Q.g a1.Q.c a1.Q.h a1.o a1.p a1.q else none else none else none else none
def qz:=fd func114 ⟨[.b 171 false,.w 38 false [(5,true),(3,true),(3,true),(77,true),(79,false),(3,true)]],[.n 55 true],false⟩ (gC (A88 K) (gC (Yq K) (gC (jl K) (gC (vq K) (gC (Bhe K) (gC (A9c K) (gC (A9a K) gN))))))) [13,14] [127,2042,32687,523007,8368127] [(9,[.opn 5 (.tmp 6),.takeE 5 11 40331])]
def Bhf:E7:=⟨[(0,.p 1),(4,.p 104),(7,.p 107),(61,.v 2),(113,.v 4)],[(1,.box X5),(2,.rws 5 true),(3,.rws 3 true),(4,.rws 3 true),(5,.rws 77 true),(6,.rws 79 false),(7,.rws 3 true),(107,.st 40 true),(104,.st 55 true)]⟩
def Bhg:E7:=⟨[(0,.p 1),(4,.p 104),(7,.p 107),(8,.p 108),(61,.v 2),(97,.v 4)],[(1,.box X5),(2,.rws 5 true),(3,.rws 3 true),(4,.rws 3 true),(5,.rws 77 true),(6,.rws 79 false),(7,.rws 3 true),(108,.st 42 true),(107,.st 40 true),(104,.st 55 true)]⟩
def Bhh:E7:=⟨[(0,.p 1),(3,.p 103),(4,.p 104),(7,.p 107),(8,.p 108),(61,.v 2),(71,.v 4)],[(1,.box X5),(108,.st 42 true),(107,.st 40 true),(104,.st 55 true),(103,.ob [.v 2,.v 2,.v 2,.v 2,.v 2,.v 2,.O 2,.O 3,.O 4,.O 5,.O 6,.O 7]),(2,.rws 5 true),(3,.rws 3 true),(4,.rws 3 true),(5,.rws 77 true),(6,.rws 79 false),(7,.rws 3 true)]⟩
def Bhi:E7:=⟨[(0,.p 1),(3,.p 103),(4,.p 104),(7,.p 107),(8,.p 108),(61,.v 2),(62,.v 4)],[(1,.box X5),(108,.st 42 true),(107,.st 40 true),(104,.st 55 true),(103,.ob [.v 2,.v 2,.v 2,.v 2,.v 2,.v 2,.O 2,.O 3,.O 4,.O 5,.O 6,.O 7]),(2,.rws 5 true),(3,.rws 3 true),(4,.rws 3 true),(5,.rws 77 true),(6,.rws 79 false),(7,.rws 3 true)]⟩
def Bhj:E7:=⟨[(0,.p 1),(3,.p 103),(4,.p 104),(7,.p 107),(8,.p 108)],[(1,.box X5),(108,.st 42 true),(107,.st 40 true),(104,.st 55 true),(103,.ob [.v 2,.v 2,.v 2,.v 2,.v 2,.v 2,.O 2,.O 3,.O 4,.O 5,.O 6,.O 7]),(2,.rws 5 true),(3,.rws 3 true),(4,.rws 3 true),(5,.rws 77 true),(6,.rws 79 false),(7,.rws 3 true)]⟩
def Bhk:=jn (qz K) 8368127 Bhf [] (fun a b c d e f g h i j k l _=>vz K l f g h i j k a c d e b) kN
def Bhl:=jn (qz K) 523007 Bhg [] (fun a b c d e f g h i j k l m _=>wa K m l f g h i j k a c d e b) (kC (Bhk K) kN)
def Bhm:=jn (qz K) 32687 Bhh [] (fun a b c d e f g _ _ j _ _ _ _ _ _ _ _ _ _ v w x y z a1=>qx K g f j v w x y z a1 a c d e b) (kC (Bhl K) kN)
def Bhn:=jn (qz K) 2042 Bhi [] (fun a b c d e f g _ _ j _ _ _ _ _ _ _ _ _ _ v w x y z a1=>qy K g f j v w x y z a1 a b c d e) (kC (Bhm K) kN)
def Bho:=jn (qz K) 127 Bhj [] (fun a b c d e=>wb K e a b c d) (kC (Bhn K) kN)
def A9d:=ct (qz K) (wg K) (kC (Bho K) kN)
def wh (K:Nat)(a0:Lz):Option Bool:=bif decide (a0.d>=0)then some (decide (a0.a>=1))else some false
def A9e:=ct (fd func354 ⟨[.v 40],[.v 4],true⟩ gN [5,6]) (wh K)
def wi (a0:List Fy)(a1:Lz):Option Int:=(V4 K a1.d 0 (Ap a0.length 1)).bind fun r1=>bif r1 then if 0<=a1.d/\a1.d<a0.length then bif (gt a0 a1.d).c != 1 then some (-1)else if 0<=a1.d/\a1.d<a0.length then bif (gt a0 a1.d).a != a1.a then some (-1)else some a1.d else none else none else some (-1)
def A9f:=ct (fd func355 ⟨[.v 35,.v 40],[.v 3],true⟩ (gC (Xx K) gN) [10,11,12,19,20,21]) (wi K)
def fz (a0:H4)(a1:Lz):Option (Int×Int):=(wh K a1).bind fun r1=>bif !r1 then some ((-1),1)else(wi K a0.o a1).bind fun r2=>bif decide (r2<0)then some ((-1),2)else(qt K a0.o r2).bind fun r3=>bif !r3 then some ((-1),2)else some (r2,0)
def rb:=ct (fd func307 ⟨[.v 38,.v 40],[.v 3,.v 3],true⟩ (gC (A4r K) (gC (A9e K) (gC (A9f K) gN))) [15,16]) (fz K)
def Ayr (a0:H4)(a1:Lz):Option (Int×Int):=bif (a1.d==0)&&((a1.a==0)&&true)then some ((-1),0)else(fz K a0 a1).bind fun r1=>some (r1.1,r1.2)
def Bhp:=ct (fd func342 ⟨[.v 38,.v 40],[.v 3,.v 3],true⟩ (gC (rb K) gN)) (Ayr K)
def wj (a0:List Fy)(a1:Int):Option Int:=(qq K a0 a1).bind fun r1=>some (r1.length:Int)
def A9g:=ct (fd func343 ⟨[.v 35,.v 3],[.v 3],true⟩ (gC (A4o K) gN)) (wj K)
def dn (a0:H4)(a1:Lz):Option Int:=(wi K a0.o a1).bind fun r1=>(wj K a0.o r1).bind fun r2=>some r2
def my:=ct (fd func308 ⟨[.v 38,.v 40],[.v 3],true⟩ (gC (A9g K) (gC (A9f K) gN))) (dn K)
def jp (K:Nat)(v2 v3:Int)(v4 v5:Int)(v6 v7 v8:Int)(v9 v10 v11:List Int)(v12:List Fy)(v13:List G9)(v14:List Int)(C1:Int->Int->Int->Int->Int->Int->Int->Int->List Int->List Int->List Int->List Fy->List G9->List Int->Option Int)(v15:Int):Option Int:=C1 v15 (A4 v2 1) v3 v4 v5 v6 v7 v8 v9 v10 v11 v12 v13 v14
def dp:Nat->Int->Int->Int->Int->Int->Int->Int->Int->List Int->List Int->List Int->List Fy->List G9->List Int->Option Int
 |0,_,_,_,_,_,_,_,_,_,_,_,_,_,_=>none
 |n1+1,v1,v2,v3,v4,v5,v6,v7,v8,v9,v10,v11,v12,v13,v14=>bif decide (v2<v12.length)then if 0<=v2/\v2<v12.length then bif (gt v12 v2).c==0 then jp K v2 v3 v4 v5 v6 v7 v8 v9 v10 v11 v12 v13 v14 (dp n1) (A4 v1 1)else(qt K v12 v2).bind fun r16=>bif r16 then jp K v2 v3 v4 v5 v6 v7 v8 v9 v10 v11 v12 v13 v14 (dp n1) v1 else if 0<=v2/\v2<v12.length then bif (gt v12 v2).c != 3 then if 0<=v2/\v2<v12.length then bif decide (((gt v12 v2).a)<v8)then jp K v2 v3 v4 v5 v6 v7 v8 v9 v10 v11 v12 v13 v14 (dp n1) (A4 v1 1)else jp K v2 v3 v4 v5 v6 v7 v8 v9 v10 v11 v12 v13 v14 (dp n1) v1 else none else jp K v2 v3 v4 v5 v6 v7 v8 v9 v10 v11 v12 v13 v14 (dp n1) v1 else none else none else some v1
def A4u (a0:H4):Option Int:=dp K K 0 0 a0.C.L a0.C.k a0.C.l a0.C.e a0.C.m a0.C.n a0.Q.g a0.Q.c a0.Q.h a0.o a0.p a0.q
def A4v:=fd func344 ⟨[.v 38],[.v 3],true⟩ (gC (A4r K) gN) [18,19,23,24,25,32,33,34] [233]
def wk:E7:=⟨[(1,.p 101),(3,.v 2),(4,.v 2)],[(101,.box W4)]⟩
def Bhq:=fun(C58:CT wk _)=>jn (A4v K) 233 wk [(58,ar wk C58)] (fun a b c d e f g h i j k l m o=>jp K b c d e f g h i j k l m o C58 a) kN
def Bhr:=lp (A4v K) 58 wk [] (dp K) (fun n=>kC (Bhq K _) kN)
def Bhs:=ct (A4v K) (A4u K) (kC (Bhr K K) kN)
def wl (K:Nat)(v2:Int)(v3 v4 v5:List Int)(C1:List Int->Int->List Int->List Int->List Int->Option (List Int))(v6:List Int):Option (List Int):=C1 v6 (A4 v2 1) v3 v4 v5
def ga (a1:Int):Nat->List Int->Int->List Int->List Int->List Int->Option (List Int)
 |0,_,_,_,_,_=>none
 |n1+1,v1,v2,v3,v4,v5=>bif decide (v2<v4.length)then bif decide (v2<v5.length)then if 0<=v2/\v2<v4.length then bif (gt v4 v2)==1 then if 0<=v2/\v2<v5.length then bif (gt v5 v2)==a1 then if(v1++([v2]:List Int)).length*8<=140737488355328/\(v1++([v2]:List Int)).length<=maxLen then wl K v2 v3 v4 v5 (ga a1 n1) (v1++([v2]:List Int))else none else wl K v2 v3 v4 v5 (ga a1 n1) v1 else none else wl K v2 v3 v4 v5 (ga a1 n1) v1 else none else some v1 else some v1
def wm (a0:Pc)(a1:Int):Option (List Int):=ga K a1 K ([]:List Int) 0 a0.g a0.c a0.h
def A4w:=fd func155 ⟨[.v 34,.v 3],[.n 25 true],true⟩ gN [12,13,27,28] [233]
def Ays:E7:=⟨[(1,.v 2),(2,.p 102),(5,.o 1005 3 true),(6,.v 2)],[(102,.box dm)]⟩
def Bht:=fun(C58:CT Ays _)=>jn A4w 233 Ays [(58,ar Ays C58)] (fun a b c d e f=>wl K c d e f (C58 a) b) kN
def Bhu:=lp A4w 58 Ays [] (fun n a=>ga K a n) (fun n=>kC (Bht K _) kN)
def A9h:=ct A4w (wm K) (kC (Bhu K K) kN)
def rd (r1:(List Int)):Nat->Int->Int->Int->Int->Int->Int->Int->Int->List Int->List Int->List Int->List Fy->List G9->List Int->Option Int
 |0,_,_,_,_,_,_,_,_,_,_,_,_,_,_=>none
 |n1+1,v2,v3,v4,v5,v6,v7,v8,v9,v10,v11,v12,v13,v14,v15=>bif decide (v3<r1.length)then if 0<=v3/\v3<r1.length then(wm K (Pc.mk v10 v11 v12) (gt r1 v3)).bind fun r16=>rd r1 n1 (A4 v2 r16.length) (A4 v3 1) v4 v5 v6 v7 v8 v9 v10 v11 v12 v13 v14 v15 else none else some v2
def A4x (a0:H4):Option Int:=(Axx K a0).bind fun r1=>rd K r1 K 0 0 a0.C.L a0.C.k a0.C.l a0.C.e a0.C.m a0.C.n a0.Q.g a0.Q.c a0.Q.h a0.o a0.p a0.q
def A9i:=fd func46 ⟨[.v 38],[.v 3],true⟩ (gC (A88 K) (gC (A9h K) gN))
def Bhv:E7:=⟨[(1,.p 101),(3,.v 2),(4,.v 25),(5,.v 2)],[(101,.box W4)]⟩
def Bhw:=lp (A9i K) 122 Bhv [] (fun n a b=>rd K b n a) (fun n=>kN)
def Bhx:=ct (A9i K) (A4x K) (kC (Bhw K K) kN)
def re (a0:H4)(a1:Int):Option Bool:=bif decide (a1>=0)then bif decide (a1<=a0.C.L)then(A4x K a0).bind fun r1=>some (decide (r1<=(Ap a0.C.L a1)))else some false else some false
def A4y:=ct (fd func43 ⟨[.v 38,.v 3],[.v 4],true⟩ (gC (Bhx K) gN) [6,7,12,13,14]) (re K)
def Ayt (K:Nat)(v2:Int)(C1:Int->Int->Option Int)(v3:Int):Option Int:=C1 v3 (A4 v2 1)
def jq (a0:List Fy)(a1:Int):Nat->Int->Int->Option Int
 |0,_,_=>none
 |n1+1,v1,v2=>bif decide (v2<a0.length)then if 0<=v2/\v2<a0.length then bif (gt a0 v2).c==a1 then Ayt K v2 (jq a0 a1 n1) (A4 v1 1)else Ayt K v2 (jq a0 a1 n1) v1 else none else some v1
def rf (a0:List Fy)(a1:Int):Option Int:=jq K a0 a1 K 0 0
def A4z:=fd func247 ⟨[.v 35,.v 3],[.v 3],true⟩ gN [] [233]
def Ayu:E7:=⟨[(0,.v 35),(1,.v 2),(5,.v 2),(6,.v 2)],[]⟩
def Bhy:=fun(C58:CT Ayu _)=>jn A4z 233 Ayu [(58,ar Ayu C58)] (fun a b c d=>Ayt K d (C58 a b) c) kN
def Bhz:=lp A4z 58 Ayu [] (fun n a b=>jq K a b n) (fun n=>kC (Bhy K _) kN)
def A9j:=ct A4z (rf K) (kC (Bhz K K) kN)
def rh (K:Nat)(a1 a2:Int):Nat->Int->List Int->List Int->List Int->Option Bool
 |0,_,_,_,_=>none
 |n1+1,v1,v2,v3,v4=>bif decide (v1<(A4 a1 a2))then if 0<=v1/\v1<v3.length then bif (gt v3 v1) != 0 then some false else rh K a1 a2 n1 (A4 v1 1) v2 v3 v4 else none else some true
def wn (a0:Pc)(a1 a2:Int):Option Bool:=bif decide (a1<0)then some false else bif decide (a2<1)then some false else bif decide (a1>a0.c.length)then some false else bif decide (a2>(Ap a0.c.length a1))then some false else rh K a1 a2 K a1 a0.g a0.c a0.h
def A9k:=fd func376 ⟨[.v 34,.v 3,.v 3],[.v 4],true⟩ gN [9,10,12,13,14,19,20,21]
def Bh0:E7:=⟨[(1,.v 2),(2,.v 2),(3,.p 103),(7,.v 2)],[(103,.box dm)]⟩
def Bh1:=lp A9k 58 Bh0 [] (fun n a b=>rh K a b n) (fun n=>kN)
def A9l:=ct A9k (wn K) (kC (Bh1 K K) kN)
def wo (a1:Int):Nat->Int->List Int->List Int->List Int->Option Int
 |0,_,_,_,_=>none
 |n1+1,v1,v2,v3,v4=>bif decide (v1<v3.length)then(wn K (Pc.mk v2 v3 v4) v1 a1).bind fun r5=>bif r5 then some v1 else wo a1 n1 (A4 v1 1) v2 v3 v4 else some (-1)
def Ayv (a0:Pc)(a1:Int):Option Int:=wo K a1 K 0 a0.g a0.c a0.h
def A9m:=fd func375 ⟨[.v 34,.v 3],[.v 3],true⟩ (gC (A9l K) gN)
def Bh2:E7:=⟨[(1,.v 2),(2,.p 102),(5,.v 2)],[(102,.box dm)]⟩
def Bh3:=lp (A9m K) 26 Bh2 [] (fun n a=>wo K a n) (fun n=>kN)
def A9n:=ct (A9m K) (Ayv K) (kC (Bh3 K K) kN)
def Ayw (K:Nat)(a0:G9):Option Int:=bif decide ((a0.j.length:Int)>0)then some 1 else bif decide ((a0.L.length:Int)>0)then some 2 else bif a0.i != 0 then some 3 else some 4
def Bh4:=ct (fd func270 ⟨[.v 79],[.v 3],true⟩ gN) (Ayw K)
def ri (K:Nat)(a0:H4):Option H4:=if(0:Int)<=0/\0<(a0.p.length:Int)then if 0<=(Ap (((gt a0.p 0).j).length:Int) 1)/\(Ap (((gt a0.p 0).j).length:Int) 1)<(((gt a0.p 0).j).length:Int)then if(a0.q++([(gt (gt a0.p 0).j (Ap (((gt a0.p 0).j).length:Int) 1))]:List Int)).length*8<=140737488355328/\(a0.q++([(gt (gt a0.p 0).j (Ap (((gt a0.p 0).j).length:Int) 1))]:List Int)).length<=maxLen then if(0:Int)<=0/\0<=(Ap (((gt a0.p 0).j).length:Int) 1)/\(Ap (((gt a0.p 0).j).length:Int) 1)<=(((gt a0.p 0).j).length:Int)then if(([]:List Int)++(((gt a0.p 0).j.drop (0:Int).toNat).take ((Ap (((gt a0.p 0).j).length:Int) 1) - 0).toNat)).length*8<=140737488355328/\(([]:List Int)++(((gt a0.p 0).j.drop (0:Int).toNat).take ((Ap (((gt a0.p 0).j).length:Int) 1) - 0).toNat)).length<=maxLen then some (H4.mk a0.C a0.Q a0.o (a0.p.set (0:Int).toNat (G9.mk (gt a0.p 0).d (gt a0.p 0).i (([]:List Int)++(((gt a0.p 0).j.drop (0:Int).toNat).take ((Ap (((gt a0.p 0).j).length:Int) 1) - 0).toNat)) (gt a0.p 0).L (gt a0.p 0).z)) (a0.q++([(gt (gt a0.p 0).j (Ap (((gt a0.p 0).j).length:Int) 1))]:List Int)))else none else none else none else none else none
def Bh5:=ct (fd func271 ⟨[.b 38 false],[],false⟩ gN [] [] [(0,[.take 1 10 5026]),(2,[.take 1 11 5027])]) (ri K)
def jr (K:Nat)(a0:Pc):Option Pc:=if(([]:List Int)++a0.g).length*1<=140737488355328/\(([]:List Int)++a0.g).length<=maxLen then if(([]:List Int)++a0.c).length*8<=140737488355328/\(([]:List Int)++a0.c).length<=maxLen then if(([]:List Int)++a0.h).length*8<=140737488355328/\(([]:List Int)++a0.h).length<=maxLen then some (Pc.mk (([]:List Int)++a0.g) (([]:List Int)++a0.c) (([]:List Int)++a0.h))else none else none else none
def Ayx:=ct (fd func188 ⟨[.v 34],[.n 34 true],true⟩ gN) (jr K)
def rj (K:Nat)(a0:List Int):Nat->Int->Option Bool
 |0,_=>none
 |n1+1,v1=>bif decide (v1<a0.length)then if 0<=v1/\v1<a0.length then bif (gt a0 v1) != 0 then some false else rj K a0 n1 (A4 v1 1)else none else some true
def jt (a0:List Int):Option Bool:=rj K a0 K 0
def A9o:=fd func237 ⟨[.v 24],[.v 4],true⟩ gN
def Bh6:E7:=⟨[(0,.v 24),(3,.v 2)],[]⟩
def Bh7:=lp A9o 26 Bh6 [] (fun n a=>rj K a n) (fun n=>kN)
def Ayy:=ct A9o (jt K) (kC (Bh7 K K) kN)
def Ayz (K:Nat)(v3:Int)(v4 v5 v6:List Int)(C1:Int->List Int->List Int->List Int->Option Bool):Option Bool:=C1 (A4 v3 1) v4 v5 v6
def rk (a0:Sv)(v3:Int)(v4 v5 v6:List Int)(C1:Int->List Int->List Int->List Int->Option Bool):Option Bool:=if 0<=v3/\v3<v5.length then bif (gt v5 v3)==0 then if 0<=(Gx v3 a0.k)/\(Gx v3 a0.k)<=(Gx (A4 v3 1) a0.k)/\(Gx (A4 v3 1) a0.k)<=v4.length then(jt K ((v4.drop (Gx v3 a0.k).toNat).take ((Gx (A4 v3 1) a0.k) - (Gx v3 a0.k)).toNat)).bind fun r9=>bif !r9 then some false else Ayz K v3 v4 v5 v6 (C1)else none else Ayz K v3 v4 v5 v6 (C1)else none
def dq (a0:Sv):Nat->Int->List Int->List Int->List Int->Option Bool
 |0,_,_,_,_=>none
 |n1+1,v3,v4,v5,v6=>bif decide (v3<a0.L)then if 0<=v3/\v3<v5.length then(V4 K (gt v5 v3) 0 2).bind fun r7=>bif !r7 then some false else if 0<=v3/\v3<v5.length then bif (gt v5 v3)==1 then if 0<=v3/\v3<v6.length then(V4 K (gt v6 v3) 0 (Ap a0.l 1)).bind fun r8=>bif r8 then if 0<=v3/\v3<v5.length then bif (gt v5 v3) != 1 then if 0<=v3/\v3<v6.length then bif (gt v6 v3) != (-1)then some false else rk K a0 v3 v4 v5 v6 (dq a0 n1)else none else rk K a0 v3 v4 v5 v6 (dq a0 n1)else none else some false else none else if 0<=v3/\v3<v5.length then bif (gt v5 v3) != 1 then if 0<=v3/\v3<v6.length then bif (gt v6 v3) != (-1)then some false else rk K a0 v3 v4 v5 v6 (dq a0 n1)else none else rk K a0 v3 v4 v5 v6 (dq a0 n1)else none else none else none else some true
def wq (a0:Sv)(a1:Pc):Option Bool:=(bw K a0).bind fun r1=>bif r1 then(mw K a0).bind fun r2=>bif (a1.g.length:Int) != r2 then some false else bif (a1.c.length:Int) != a0.L then some false else bif (a1.h.length:Int) != a0.L then some false else dq K a0 K 0 a1.g a1.c a1.h else some false
def Ay0:=fd func139 ⟨[.v 33,.v 34],[.v 4],true⟩ (gC (jm K) (gC (Xx K) (gC (Amp K) (gC (Ayy K) gN)))) [7,8,9,15,16,17,23,24,25,51,52,61,62,63,64,70,71,85,86] [233,1865]
def mz:E7:=⟨[(2,.p 102),(3,.p 103),(5,.v 2)],[(103,.box dm),(102,.st 33 true)]⟩
def Bh8:=fun(C58:CT mz _)=>jn (Ay0 K) 233 mz [(58,ar mz C58)] (fun a b c d e=>Ayz K a b c d (fun v3 v4 v5 v6=>C58 v3 v4 v5 v6 e)) kN
def Bh9:=fun(C58:CT mz _)=>jn (Ay0 K) 1865 mz [(58,ar mz C58)] (fun a b c d e=>rk K e a b c d (fun v3 v4 v5 v6=>C58 v3 v4 v5 v6 e)) (kC (Bh8 K _) kN)
def Bia:=lp (Ay0 K) 58 mz [] (fun n a b c d e=>dq K e n a b c d) (fun n=>kC (Bh9 K _) kN)
def A9p:=ct (Ay0 K) (wq K) (kC (Bia K K) kN)
def rm (K:Nat)(a0 a1:Int):Option Int:=bif decide (a1<a0)then some a1 else some a0
def Bib:=ct (fd func364 ⟨[.v 3,.v 3],[.v 3],true⟩ gN) (rm K)
def wr (K:Nat)(a0:List Int)(a1 a2:Int):Nat->List Int->Int->Option (List Int)
 |0,_,_=>none
 |n1+1,v1,v2=>bif decide (v2<a0.length)then bif decide ((Ap v2 a1)<a2)then if 0<=v2/\v2<v1.length then wr K a0 a1 a2 n1 (v1.set v2.toNat 0) (A4 v2 1)else none else some v1 else some v1
def Ay1 (a0:List Int)(a1 a2:Int):Option (List Int):=if(([]:List Int)++a0).length*1<=140737488355328/\(([]:List Int)++a0).length<=maxLen then bif decide (a1<0)then some (([]:List Int)++a0)else bif decide (a2<0)then some (([]:List Int)++a0)else wr K a0 a1 a2 K (([]:List Int)++a0) a1 else none
def A9q:=fd func365 ⟨[.v 24,.v 3,.v 3],[.n 24 true],true⟩ gN [13,14,23,24]
def Bic:E7:=⟨[(0,.v 24),(1,.v 2),(2,.v 2),(7,.o 1007 5 true),(8,.v 2)],[]⟩
def Bid:=lp A9q 122 Bic [] (fun n a b c=>wr K a b c n) (fun n=>kN)
def Bie:=ct A9q (Ay1 K) (kC (Bid K K) kN)
def rn (a0:Sv)(a1:Pc)(a2 a3:Int):Option (Pc×Bool):=(jr K a1).bind fun r1=>(wq K a0 a1).bind fun r2=>bif r2 then(V4 K a2 0 (Ap a0.L 1)).bind fun r3=>bif r3 then if 0<=a2/\a2<a1.c.length then bif (gt a1.c a2) != 2 then some (r1,false)else(V4 K a3 0 (Ap a0.k 1)).bind fun r4=>bif !r4 then some (r1,false)else(rm K (A4 a3 a0.m) a0.k).bind fun r5=>(Ay1 K a1.g (A4 (Gx a2 a0.k) a3) (Ap r5 a3)).bind fun r6=>bif decide (r5<a0.k)then some ((Pc.mk r6 r1.c r1.h),false)else if 0<=(Gx a2 a0.k)/\(Gx a2 a0.k)<=(Gx (A4 a2 1) a0.k)/\(Gx (A4 a2 1) a0.k)<=r6.length then(jt K ((r6.drop (Gx a2 a0.k).toNat).take ((Gx (A4 a2 1) a0.k) - (Gx a2 a0.k)).toNat)).bind fun r7=>bif !r7 then(jr K a1).bind fun r8=>some (r8,false)else if 0<=a2/\a2<r1.c.length then some ((Pc.mk r6 (r1.c.set a2.toNat 0) r1.h),true)else none else none else none else some (r1,false)else some (r1,false)
def Bif:=ct (fd func318 ⟨[.v 33,.v 34,.v 3,.v 3],[.n 34 true,.v 4],true⟩ (gC (A9p K) (gC (Xx K) (gC (Ayx K) (gC (Ayy K) (gC (Bib K) (gC (Bie K) gN)))))) [16,17,18,23,24,25,26,32,33,34]) (rn K)
def wu (a0:H4):Option H4:=if(0:Int)<=0/\0<(a0.p.length:Int)then if(0:Int)<=0/\0<(((gt a0.p 0).L).length:Int)then(rn K a0.C a0.Q (gt (gt a0.p 0).L 0) (gt a0.p 0).z).bind fun r1=>bif r1.2 then if(0:Int)<=1/\1<=(((gt a0.p 0).L).length:Int)/\(((gt a0.p 0).L).length:Int)<=(((gt a0.p 0).L).length:Int)then if(([]:List Int)++(((gt a0.p 0).L.drop (1:Int).toNat).take (((gt a0.p 0).L.length:Int) - 1).toNat)).length*8<=140737488355328/\(([]:List Int)++(((gt a0.p 0).L.drop (1:Int).toNat).take (((gt a0.p 0).L.length:Int) - 1).toNat)).length<=maxLen then some (H4.mk a0.C r1.1 a0.o (a0.p.set (0:Int).toNat (G9.mk (gt a0.p 0).d (gt a0.p 0).i (gt a0.p 0).j (([]:List Int)++(((gt a0.p 0).L.drop (1:Int).toNat).take (((gt a0.p 0).L.length:Int) - 1).toNat)) 0)) a0.q)else none else none else some (H4.mk a0.C r1.1 a0.o (a0.p.set (0:Int).toNat (G9.mk (gt a0.p 0).d (gt a0.p 0).i (gt a0.p 0).j (gt a0.p 0).L (A4 (gt a0.p 0).z a0.C.m))) a0.q)else none else none
def Big:=ct (fd func272 ⟨[.b 38 false],[],false⟩ (gC (Bif K) gN) [] [] [(0,[.take 1 10 5026]),(1,[.take 1 6 5022,.take 1 7 5023,.take 1 8 5024])]) (wu K)
def cd (K:Nat)(a0:Fy):Option Fy:=if(([]:List Int)++a0.L).length*8<=140737488355328/\(([]:List Int)++a0.L).length<=maxLen then if(([]:List H3)++a0.y).length*24<=140737488355328/\(([]:List H3)++a0.y).length<=maxLen then if(([]:List Int)++a0.j).length*8<=140737488355328/\(([]:List Int)++a0.j).length<=maxLen then some (Fy.mk a0.c a0.a a0.f a0.s a0.t a0.i a0.u a0.v (([]:List Int)++a0.L) a0.w a0.x (([]:List H3)++a0.y) (([]:List Int)++a0.j))else none else none else none
def ro:=ct (fd func281 ⟨[.v 77],[.n 77 false],true⟩ gN) (cd K)
def rp (K:Nat)(v3 v4:Pc):Option Pc:=some v3
def Ay2 (a0:Pc)(a1:Int):Option Pc:=(jr K a0).bind fun r1=>(V4 K a1 0 (Ap a0.c.length 1)).bind fun r2=>bif r2 then bif decide (a1<a0.h.length)then if 0<=a1/\a1<a0.c.length then bif (gt a0.c a1)==1 then if 0<=a1/\a1<r1.c.length then if 0<=a1/\a1<r1.h.length then rp K (Pc.mk r1.g (r1.c.set a1.toNat 2) (r1.h.set a1.toNat (-1))) (Pc.mk [] [] [])else none else none else rp K r1 (Pc.mk [] [] [])else none else rp K r1 (Pc.mk [] [] [])else rp K r1 (Pc.mk [] [] [])
def A9r:=fd func366 ⟨[.v 34,.v 3],[.n 34 true],true⟩ (gC (Xx K) (gC (Ayx K) gN)) [13,14,19,20,21] [7] [(5,[.take 105 0 6680,.take 105 1 6681,.take 105 2 6682])]
def A9s:E7:=⟨[(4,.p 104),(5,.p 105)],[(105,.st 34 true),(104,.st 34 true)]⟩
def Bih:=jn (A9r K) 7 A9s [] (rp K) kN
def Bii:=ct (A9r K) (Ay2 K) (kC (Bih K) kN)
def cf (a1:List Int):Nat->Int->Int->Int->Int->Int->Int->Int->List Int->List Int->List Int->List Fy->List G9->List Int->Option H4
 |0,_,_,_,_,_,_,_,_,_,_,_,_,_=>none
 |n1+1,v1,v2,v3,v4,v5,v6,v7,v8,v9,v10,v11,v12,v13=>bif decide (v1<a1.length)then if 0<=v1/\v1<a1.length then(Ay2 K (Pc.mk v8 v9 v10) (gt a1 v1)).bind fun r14=>cf a1 n1 (A4 v1 1) v2 v3 v4 v5 v6 v7 r14.g r14.c r14.h v11 v12 v13 else none else some (H4.mk (Sv.mk v2 v3 v4 v5 v6 v7) (Pc.mk v8 v9 v10) v11 v12 v13)
def ju (a0:H4)(a1:List Int):Option H4:=cf K a1 K 0 a0.C.L a0.C.k a0.C.l a0.C.e a0.C.m a0.C.n a0.Q.g a0.Q.c a0.Q.h a0.o a0.p a0.q
def A9t:=fd func319 ⟨[.b 38 false,.v 25],[],false⟩ (gC (Bii K) gN) [] [] [(3,[.take 1 6 5022,.take 1 7 5023,.take 1 8 5024])]
def Bij:E7:=⟨[(0,.p 1),(1,.v 25),(4,.v 2)],[(1,.box ae)]⟩
def Bik:=lp (A9t K) 6 Bij [] (fun n a=>cf K a n) (fun n=>kN)
def A40:=ct (A9t K) (ju K) (kC (Bik K K) kN)
def rq (K:Nat)(a0:Fy):Option Fy:=some (Fy.mk 2 a0.a 0 0 0 0 0 0 [] 0 0 [] [])
def A9u:=ct (fd func320 ⟨[.v 77],[.n 77 false],true⟩ gN) (rq K)
def jv (K:Nat)(a0:Fy)(a1:Int):Option G9:=if(([]:List Int)++a0.j).length*8<=140737488355328/\(([]:List Int)++a0.j).length<=maxLen then if(([]:List Int)++a0.L).length*8<=140737488355328/\(([]:List Int)++a0.L).length<=maxLen then some (G9.mk a1 a0.i (([]:List Int)++a0.j) (([]:List Int)++a0.L) 0)else none else none
def Ay3:=ct (fd func279 ⟨[.v 77,.v 3],[.n 79 true],true⟩ gN) (jv K)
def Ay4 (K:Nat)(a0:Fy)(a1:Int):Option G9:=if(([]:List Int)++a0.j).length*8<=140737488355328/\(([]:List Int)++a0.j).length<=maxLen then if(([]:List Int)++a0.L).length*8<=140737488355328/\(([]:List Int)++a0.L).length<=maxLen then some (G9.mk a1 a0.i (([]:List Int)++a0.j) (([]:List Int)++a0.L) 0)else none else none
def Bil:=ct (fd func279 ⟨[.v 77,.v 3],[.v 79],false⟩ gN) (Ay4 K)
def na (r1:Fy)(v4 v5:Int)(v6 v7:Int)(v8 v9 v10:Int)(v11 v12 v13:List Int)(v14:List Fy)(v15:List G9)(v16:List Int):Option H4:=(ju K (H4.mk (Sv.mk v5 v6 v7 v8 v9 v10) (Pc.mk v11 v12 v13) v14 v15 v16) r1.L).bind fun r17=>(rq K r1).bind fun r18=>if 0<=v4/\v4<r17.o.length then(Ay4 K r1 (A4 v4 1)).bind fun r19=>if(([r19]:List G9)++r17.p).length*72<=140737488355328/\(([r19]:List G9)++r17.p).length<=maxLen then some (H4.mk r17.C r17.Q (r17.o.set v4.toNat r18) (([r19]:List G9)++r17.p) r17.q)else none else none
def rr (a0:H4):Option H4:=if(0:Int)<=0/\0<(a0.p.length:Int)then if 0<=(Ap (gt a0.p 0).i 1)/\(Ap (gt a0.p 0).i 1)<a0.o.length then if 0<=(Ap (gt a0.p 0).i 1)/\(Ap (gt a0.p 0).i 1)<a0.o.length then(cd K (gt a0.o (Ap (gt a0.p 0).i 1))).bind fun r1=>if(0:Int)<=0/\0<(a0.p.length:Int)then(Yz K a0.o r1.u).bind fun r2=>bif r2 then if 0<=(Ap r1.u 1)/\(Ap r1.u 1)<a0.o.length then Ax5 (a0.o.set (Ap r1.u 1).toNat (Fy.mk (gt a0.o (Ap r1.u 1)).c (gt a0.o (Ap r1.u 1)).a (gt a0.o (Ap r1.u 1)).f (gt a0.o (Ap r1.u 1)).s (gt a0.o (Ap r1.u 1)).t (gt a0.o (Ap r1.u 1)).i (gt a0.o (Ap r1.u 1)).u 0 (gt a0.o (Ap r1.u 1)).L (gt a0.o (Ap r1.u 1)).w (gt a0.o (Ap r1.u 1)).x (gt a0.o (Ap r1.u 1)).y (gt a0.o (Ap r1.u 1)).j)) fun v3=>na K r1 (Ap (gt a0.p 0).i 1) a0.C.L a0.C.k a0.C.l a0.C.e a0.C.m a0.C.n a0.Q.g a0.Q.c a0.Q.h v3 (a0.p.set (0:Int).toNat (G9.mk (gt a0.p 0).d r1.u (gt a0.p 0).j (gt a0.p 0).L (gt a0.p 0).z)) a0.q else none else na K r1 (Ap (gt a0.p 0).i 1) a0.C.L a0.C.k a0.C.l a0.C.e a0.C.m a0.C.n a0.Q.g a0.Q.c a0.Q.h a0.o (a0.p.set (0:Int).toNat (G9.mk (gt a0.p 0).d r1.u (gt a0.p 0).j (gt a0.p 0).L (gt a0.p 0).z)) a0.q else none else none else none else none
def A9v:=fo func273 ⟨[.b 38 false],[],false⟩ (gC (jo K) (gC (ro K) (gC (A40 K) (gC (A9u K) gN)))) (oC (d:=60) (gC (Bil K) gN) oN) [] [15] [(0,[.take 1 10 5026]),(1,[.take 1 9 5025,.opn 5025 (.tmp 2),.takeE 5025 11 41611,.takeE 5025 12 41612]),(3,[.put 5025]),(5,[.take 103 8 6656,.frz 6656]),(6,[.take 1 9 5025,.take 103 11 6659,.take 103 12 6660]),(7,[.take 1 10 5026,.frz 6659,.frz 6660])]
def Bim:E7:=⟨[(0,.p 1),(2,.v 2),(3,.p 103)],[(1,.box ae),(103,.st 77 false)]⟩
def Bin:=jn (A9v K) 15 Bim [] (fun a b c d e f g h i j k l m o=>na K o a b c d e f g h i j k l m) kN
def Bio:=ct (A9v K) (rr K) (kC (Bin K) kN)
def nc (a0:List Fy):Nat->List Fy->Int->Option (List Fy)
 |0,_,_=>none
 |n1+1,v1,v2=>bif decide (v2<a0.length)then if 0<=v2/\v2<a0.length then(cd K (gt a0 v2)).bind fun r3=>if(v1++[r3]).length*152<=140737488355328/\(v1++[r3]).length<=maxLen then nc a0 n1 (v1++[r3]) (A4 v2 1)else none else none else some v1
def ng (a0:List Fy):Option (List Fy):=nc K a0 K ([]:List Fy) 0
def A9w:=fd func189 ⟨[.v 35],[.n 35 true],false⟩ (gC (ro K) gN) (post:=[(20,[.put 3020])])
def Bip:E7:=⟨[(0,.v 35),(3,.o 1003 77 true),(4,.v 2)],[]⟩
def Biq:=lp (A9w K) 58 Bip [] (fun n a=>nc K a n) (fun n=>kN)
def Ay5:=ct (A9w K) (ng K) (kC (Biq K K) kN)
def Ay6 (K:Nat)(v3:List Fy):Option (List Fy):=some v3
def Ay7 (a0:List Fy)(a1 a2:Int):Option (List Fy):=(ng K a0).bind fun r1=>(V4 K a1 0 (Ap a0.length 1)).bind fun r2=>bif !r2 then some r1 else if 0<=a1/\a1<a0.length then bif decide (((gt a0 a1).a)>=a2)then if 0<=a1/\a1<r1.length then if 0<=a1/\a1<a0.length then if 0<=a1/\a1<r1.length then Ay6 K (r1.set a1.toNat (Fy.mk 3 (gt a0 a1).a 0 0 0 0 0 0 [] 0 0 [] []))else none else none else none else if 0<=a1/\a1<a0.length then(bz K (A4 (gt a0 a1).a 1)).bind fun r4=>if 0<=a1/\a1<r1.length then Ay6 K (r1.set a1.toNat r4)else none else none else none
def A9x:=fd func274 ⟨[.v 35,.v 3,.v 3],[.n 35 true],false⟩ (gC (Xx K) (gC (Ay5 K) (gC (vk K) gN))) [] [15] [(5,[.opn 1007 (.tmp 1)])]
def A41:E7:=⟨[(7,.o 1007 77 true)],[]⟩
def Bir:=jn (A9x K) 15 A41 [] (Ay6 K) kN
def Bis:=ct (A9x K) (Ay7 K) (kC (Bir K) kN)
def nh (K:Nat)(v6 v7:Int)(v8 v9:Int)(v10 v11:Int)(v12 v13 v14:List Int)(v15:List Fy)(v16:List G9)(v17:List Int):Option H4:=if(0:Int)<=1/\1<=(v16.length:Int)/\(v16.length:Int)<=v16.length then if(([]:List G9)++((v16.drop (1:Int).toNat).take ((v16.length:Int) - 1).toNat)).length*72<=140737488355328/\(([]:List G9)++((v16.drop (1:Int).toNat).take ((v16.length:Int) - 1).toNat)).length<=maxLen then some (H4.mk (Sv.mk v6 v7 v8 v9 v10 v11) (Pc.mk v12 v13 v14) v15 (([]:List G9)++((v16.drop (1:Int).toNat).take ((v16.length:Int) - 1).toNat)) v17)else none else none
def ni (a0:H4):Option H4:=if(0:Int)<=0/\0<(a0.p.length:Int)then(Ayw K (gt a0.p 0)).bind fun r1=>bif r1==1 then(ri K a0).bind fun r2=>some r2 else bif r1==2 then(wu K a0).bind fun r3=>some r3 else bif r1==3 then(rr K a0).bind fun r4=>some r4 else if(0:Int)<=0/\0<(a0.p.length:Int)then bif (gt a0.p 0).d != 0 then if(0:Int)<=0/\0<(a0.p.length:Int)then(Ay7 K a0.o (Ap (gt a0.p 0).d 1) a0.C.n).bind fun r5=>nh K a0.C.L a0.C.k a0.C.l a0.C.e a0.C.m a0.C.n a0.Q.g a0.Q.c a0.Q.h r5 a0.p a0.q else none else nh K a0.C.L a0.C.k a0.C.l a0.C.e a0.C.m a0.C.n a0.Q.g a0.Q.c a0.Q.h a0.o a0.p a0.q else none else none
def A9y:=fd func172 ⟨[.b 38 false],[],false⟩ (gC (Bh4 K) (gC (Bh5 K) (gC (Big K) (gC (Bio K) (gC (Bis K) gN))))) [] [447] [(0,[.take 1 10 5026]),(2,[.take 1 9 5025,.frz 5025]),(3,[.take 1 10 5026]),(5,[.put 1]),(7,[.put 1]),(9,[.put 1])] [(39,[.shal 3039])]
def Biu:E7:=⟨[(0,.p 1)],[(1,.box ae)]⟩
def Biv:=jn (A9y K) 447 Biu [] (nh K) kN
def A9z:=ct (A9y K) (ni K) (kC (Biv K) kN)
def wv (v1 v2:Int)(v3 v4:Int)(v5 v6 v7:Int)(v8 v9 v10:List Int)(v11:List Fy)(v12:List G9)(v13:List Int)(C1:Int->Int->Int->Int->Int->Int->Int->List Int->List Int->List Int->List Fy->List G9->List Int->Option (Int×H4)):Option (Int×H4):=(ni K (H4.mk (Sv.mk v2 v3 v4 v5 v6 v7) (Pc.mk v8 v9 v10) v11 v12 v13)).bind fun r15=>C1 (A4 v1 1) r15.C.L r15.C.k r15.C.l r15.C.e r15.C.m r15.C.n r15.Q.g r15.Q.c r15.Q.h r15.o r15.p r15.q
def nj (a1 a2:Int):Nat->Int->Int->Int->Int->Int->Int->Int->List Int->List Int->List Int->List Fy->List G9->List Int->Option (Int×H4)
 |0,_,_,_,_,_,_,_,_,_,_,_,_,_=>none
 |n1+1,v1,v2,v3,v4,v5,v6,v7,v8,v9,v10,v11,v12,v13=>bif decide ((v12.length:Int)>0)then(rf K v11 0).bind fun r14=>bif decide (r14<a1)then wv K v1 v2 v3 v4 v5 v6 v7 v8 v9 v10 v11 v12 v13 (nj a1 a2 n1)else bif decide (a2>0)then(Ayv K (Pc.mk v8 v9 v10) a2).bind fun r16=>bif decide (r16<0)then wv K v1 v2 v3 v4 v5 v6 v7 v8 v9 v10 v11 v12 v13 (nj a1 a2 n1)else some (v1,(H4.mk (Sv.mk v2 v3 v4 v5 v6 v7) (Pc.mk v8 v9 v10) v11 v12 v13))else some (v1,(H4.mk (Sv.mk v2 v3 v4 v5 v6 v7) (Pc.mk v8 v9 v10) v11 v12 v13))else some (v1,(H4.mk (Sv.mk v2 v3 v4 v5 v6 v7) (Pc.mk v8 v9 v10) v11 v12 v13))
def wx (a0:H4)(a1 a2:Int):Option (Int×H4):=nj K a1 a2 K 0 a0.C.L a0.C.k a0.C.l a0.C.e a0.C.m a0.C.n a0.Q.g a0.Q.c a0.Q.h a0.o a0.p a0.q
def A42:=fd func345 ⟨[.b 38 false,.v 3,.v 3],[.v 3],false⟩ (gC (A9z K) (gC (A9j K) (gC (A9n K) gN))) [13,14,21,22,24,25] [56] [(2,[.take 1 10 5026,.take 1 9 5025,.take 1 6 5022,.take 1 7 5023,.take 1 8 5024])]
def Ay8:E7:=⟨[(0,.p 1),(1,.v 2),(2,.v 2),(7,.v 2)],[(1,.box ae)]⟩
def Biw:=fun(C28:CT Ay8 _)=>jn (A42 K) 56 Ay8 [(28,ar Ay8 C28)] (fun a b c d e f g h i j k l m o p=>wv K c d e f g h i j k l m o p (C28 a b)) kN
def Bix:=lp (A42 K) 28 Ay8 [] (fun n a b=>nj K a b n) (fun n=>kC (Biw K _) kN)
def A43:=ct (A42 K) (wx K) (kC (Bix K K) kN)
def wy (K:Nat)(a0:List Fy):Nat->Int->Option Int
 |0,_=>none
 |n1+1,v1=>bif decide (v1<a0.length)then if 0<=v1/\v1<a0.length then bif (gt a0 v1).c==0 then some v1 else wy K a0 n1 (A4 v1 1)else none else some (-1)
def A44 (a0:List Fy):Option Int:=wy K a0 K 0
def A90:=fd func346 ⟨[.v 35],[.v 3],true⟩ gN
def wz:E7:=⟨[(0,.v 35),(3,.v 2)],[]⟩
def Biy:=lp A90 26 wz [] (fun n a=>wy K a n) (fun n=>kN)
def Biz:=ct A90 (A44 K) (kC (Biy K K) kN)
def xa (K:Nat):Nat->Int->List Int->List Int->List Int->Option Int
 |0,_,_,_,_=>none
 |n1+1,v1,v2,v3,v4=>bif decide (v1<v3.length)then if 0<=v1/\v1<v3.length then bif (gt v3 v1)==0 then some v1 else xa K n1 (A4 v1 1) v2 v3 v4 else none else some (-1)
def Ay9 (a0:Pc):Option Int:=xa K K 0 a0.g a0.c a0.h
def A91:=fd func347 ⟨[.v 34],[.v 3],true⟩ gN
def Bi0:E7:=⟨[(1,.p 101),(3,.v 2)],[(101,.box dm)]⟩
def Bi1:=lp A91 26 Bi0 [] (xa K) (fun n=>kN)
def A92:=ct A91 (Ay9 K) (kC (Bi1 K K) kN)
def xb (K:Nat)(a1 a2 a3:Int):Nat->Int->Pc->Pc->Option Pc
 |0,_,_,_=>none
 |n1+1,v3,v4,v5=>bif decide (v3<(A4 a1 a2))then if 0<=v3/\v3<v4.c.length then if 0<=v3/\v3<v4.h.length then xb K a1 a2 a3 n1 (A4 v3 1) (Pc.mk v4.g (v4.c.set v3.toNat 1) (v4.h.set v3.toNat a3)) v5 else none else none else some v4
def nk (a0:Pc)(a1 a2 a3:Int):Option Pc:=(jr K a0).bind fun r1=>(wn K a0 a1 a2).bind fun r2=>bif r2 then bif (a0.h.length:Int) != (a0.c.length:Int)then some r1 else xb K a1 a2 a3 K a1 r1 (Pc.mk [] [] [])else some r1
def A93:=fd func348 ⟨[.v 34,.v 3,.v 3,.v 3],[.n 34 true],true⟩ (gC (Ayx K) (gC (A9l K) gN)) [16,17,18] [] [(7,[.take 109 1 6745]),(8,[.take 109 2 6746]),(9,[.take 109 0 6744,.take 109 1 6745,.take 109 2 6746])]
def Bi2:E7:=⟨[(1,.v 2),(2,.v 2),(3,.v 2),(8,.p 108),(9,.p 109),(10,.v 2)],[(109,.st 34 true),(108,.st 34 true)]⟩
def Bi3:=lp (A93 K) 122 Bi2 [] (fun n a b c=>xb K a b c n) (fun n=>kN)
def A45:=ct (A93 K) (nk K) (kC (Bi3 K K) kN)
def Aza (K:Nat)(a0:Fy):Option Bool:=bif a0.f==0 then bif a0.s==0 then bif a0.t==0 then bif a0.i==0 then bif a0.u==0 then bif a0.v==0 then bif (a0.L.length:Int)==0 then bif a0.w==0 then bif a0.x==0 then bif (a0.y.length:Int)==0 then some ((a0.j.length:Int)==0)else some false else some false else some false else some false else some false else some false else some false else some false else some false else some false
def Bi4:=ct (fd func239 ⟨[.v 77],[.v 4],true⟩ gN [5,6,9,10,11,14,15,16,19,20,21,24,25,26,29,30,31,35,36,37,40,41,42,45,46,47,51,52,53]) (Aza K)
def xc (K:Nat)(a0:List Int)(a1:Int):Nat->Int->Option Bool
 |0,_=>none
 |n1+1,v1=>bif decide (v1<a0.length)then if 0<=v1/\v1<a0.length then bif (gt a0 v1)==a1 then some true else xc K a0 a1 n1 (A4 v1 1)else none else some false
def ay (a0:List Int)(a1:Int):Option Bool:=xc K a0 a1 K 0
def A94:=fd func242 ⟨[.v 25,.v 3],[.v 4],true⟩ gN
def Bi5:E7:=⟨[(0,.v 25),(1,.v 2),(5,.v 2)],[]⟩
def Bi6:=lp A94 26 Bi5 [] (fun n a b=>xc K a b n) (fun n=>kN)
def nl:=ct A94 (ay K) (kC (Bi6 K K) kN)
def nm (a0:Sv):Nat->Int->Int->Int->Int->Int->Int->Int->Int->Int->List Int->Int->Int->List H3->List Int->Option Bool
 |0,_,_,_,_,_,_,_,_,_,_,_,_,_,_=>none
 |n1+1,v1,v2,v3,v4,v5,v6,v7,v8,v9,v10,v11,v12,v13,v14=>bif decide (v1<v10.length)then if 0<=v1/\v1<v10.length then(V4 K (gt v10 v1) 0 (Ap a0.L 1)).bind fun r15=>bif r15 then if(0:Int)<=0/\0<=v1/\v1<=v10.length then if 0<=v1/\v1<v10.length then(ay K ((v10.drop (0:Int).toNat).take (v1 - 0).toNat) (gt v10 v1)).bind fun r16=>bif r16 then some false else nm a0 n1 (A4 v1 1) v2 v3 v4 v5 v6 v7 v8 v9 v10 v11 v12 v13 v14 else none else none else some false else none else bif v11==0 then some (v12==0)else(ay K v10 (Ap v11 1)).bind fun r17=>bif r17 then(V4 K v12 0 a0.k).bind fun r18=>some r18 else some false
def Azb (a0:Sv)(a1:Fy):Option Bool:=nm K a0 K 0 a1.c a1.a a1.f a1.s a1.t a1.i a1.u a1.v a1.L a1.w a1.x a1.y a1.j
def A95:=fd func240 ⟨[.v 33,.v 77],[.v 4],true⟩ (gC (Xx K) (gC (nl K) gN)) [21,22,23,46,47]
def xd:E7:=⟨[(2,.p 102),(3,.p 103),(5,.v 2)],[(103,.box bu),(102,.st 33 true)]⟩
def Bi7:=lp (A95 K) 26 xd [] (fun n a b c d e f g h i j k l m o p=>nm K p n a b c d e f g h i j k l m o) (fun n=>kN)
def Bi8:=ct (A95 K) (Azb K) (kC (Bi7 K K) kN)
def gb (K:Nat)(a0:Sv)(a1:Int):Option Bool:=some (decide (a1>a0.k))
def A46:=ct (fd func302 ⟨[.v 33,.v 3],[.v 4],true⟩ gN) (gb K)
def xe (a0 a1:Int):Option Int:=(V4 K a0 0 1000000000).bind fun r1=>bif r1 then(V4 K a1 1 1000000000).bind fun r2=>bif !r2 then some 0 else if a1≠(0:Int)then some (Afg .i64 (Ap (A4 a0 a1) 1) a1)else none else some 0
def A96:=ct (fd func322 ⟨[.v 3,.v 3],[.v 3],true⟩ (gC (Xx K) gN) [6,7,8]) (xe K)
def gd (a0:Sv)(a1:Int):Option Int:=(xe K a1 a0.k).bind fun r1=>some r1
def A47:=ct (fd func303 ⟨[.v 33,.v 3],[.v 3],true⟩ (gC (A96 K) gN)) (gd K)
def rt (a0:Sv)(a1:H3):Option Bool:=(mw K a0).bind fun r1=>bif r1==0 then some false else bif decide (a1.D<1)then some false else bif decide (a1.B<0)then some false else bif decide (a1.B>r1)then some false else bif decide (a1.D>(Ap r1 a1.B))then some false else bif a1.E==0 then bif decide (a1.D<=a0.k)then if a0.k≠(0:Int)then if a0.k≠(0:Int)then some ((Afg .i64 a1.B a0.k)==(Afg .i64 (Ap (A4 a1.B a1.D) 1) a0.k))else none else none else some false else(gb K a0 a1.D).bind fun r2=>bif r2 then(gd K a0 a1.D).bind fun r3=>bif a1.E==r3 then if a0.k≠(0:Int)then some ((Int.tmod a1.B a0.k)==0)else none else some false else some false
def A97:=ct (fd func241 ⟨[.v 33,.v 183],[.v 4],true⟩ (gC (Amp K) (gC (A46 K) (gC (A47 K) gN))) [9,10,13,14,15,18,19,20,24,25,26,42,43,63,64,71,72,73]) (rt K)
def nn (v23:List Int):Nat->Int->Option Bool
 |0,_=>none
 |n2+1,v25=>bif decide (v25<v23.length)then if 0<=v25/\v25<v23.length then(V4 K (gt v23 v25) 0 255).bind fun r26=>bif !r26 then some false else nn v23 n2 (A4 v25 1)else none else some true
def jw (a0:Sv):Nat->Int->Int->Int->Int->Int->Int->Int->Int->Int->List Int->Int->Int->List H3->List Int->Option Bool
 |0,_,_,_,_,_,_,_,_,_,_,_,_,_,_=>none
 |n1+1,v10,v11,v12,v13,v14,v15,v16,v17,v18,v19,v20,v21,v22,v23=>bif decide (v10<v22.length)then if 0<=v10/\v10<v22.length then(rt K a0 (gt v22 v10)).bind fun r24=>bif !r24 then some false else jw a0 n1 (A4 v10 1) v11 v12 v13 v14 v15 v16 v17 v18 v19 v20 v21 v22 v23 else none else nn K v23 K 0
def gf (a0:Sv)(a1:Fy):Option Bool:=(bw K a0).bind fun r1=>bif r1 then(V4 K a1.c 0 3).bind fun r2=>bif r2 then(V4 K a1.a 1 a0.n).bind fun r3=>bif !r3 then some false else bif a1.c != 1 then(Aza K a1).bind fun r4=>some r4 else bif decide (a1.f<0)then some false else bif decide (a1.t<0)then some false else(V4 K a1.s 0 a0.l).bind fun r5=>bif r5 then(V4 K a1.i 0 a0.l).bind fun r6=>bif r6 then(V4 K a1.u 0 a0.l).bind fun r7=>bif r7 then(V4 K a1.v 0 a0.l).bind fun r8=>bif r8 then(Azb K a0 a1).bind fun r9=>bif r9 then bif decide ((a1.y.length:Int)>12)then some false else bif decide ((a1.j.length:Int)>6)then some false else jw K a0 K 0 a1.c a1.a a1.f a1.s a1.t a1.i a1.u a1.v a1.L a1.w a1.x a1.y a1.j else some false else some false else some false else some false else some false else some false else some false
def A48:=fd func141 ⟨[.v 33,.v 77],[.v 4],true⟩ (gC (jm K) (gC (Xx K) (gC (Bi4 K) (gC (Bi8 K) (gC (A97 K) gN))))) [8,9,10,13,14,15,16,31,32,35,36,37,42,43,44,45,50,51,52,53,58,59,60,61,66,67,68,69,72,73,74,75,79,80,81]
def Bi9:E7:=⟨[(3,.p 103),(6,.v 2)],[(103,.box bu)]⟩
def Bja:=lp (A48 K) 506 Bi9 [] (fun n a _ _ _ _ _ _ _ _ _ _ _ _ o=>nn K o n a) (fun n=>kN)
def Bjb:=lp (A48 K) 250 xd [] (fun n a b c d e f g h i j k l m o p=>jw K p n a b c d e f g h i j k l m o) (fun n=>kC (up (Bja K K)) kN)
def ru:=ct (A48 K) (gf K) (kC (Bjb K K) kN)
def rx (a0:Sv)(a1:Fy)(a2:Int):Option (Fy×Bool):=(cd K a1).bind fun r1=>bif a1.c != 1 then some (r1,false)else(V4 K a2 0 (Ap a0.L 1)).bind fun r2=>bif !r2 then some (r1,false)else if(r1.L++([a2]:List Int)).length*8<=140737488355328/\(r1.L++([a2]:List Int)).length<=maxLen then(gf K a0 (Fy.mk r1.c r1.a r1.f r1.s r1.t r1.i r1.u r1.v (r1.L++([a2]:List Int)) (A4 a2 1) 0 r1.y r1.j)).bind fun r3=>bif !r3 then(cd K a1).bind fun r4=>some (r4,false)else some ((Fy.mk r1.c r1.a r1.f r1.s r1.t r1.i r1.u r1.v (r1.L++([a2]:List Int)) (A4 a2 1) 0 r1.y r1.j),true)else none
def A49:=ct (fd func349 ⟨[.v 33,.v 77,.v 3],[.n 77 false,.v 4],true⟩ (gC (ru K) (gC (Xx K) (gC (ro K) gN))) [13,14]) (rx K)
def Azc (K:Nat)(v11:List Fy):Option (List Fy):=some v11
def ry (a0:List Fy)(a1 a2:Int):Option (List Fy):=(ng K a0).bind fun r1=>(Yz K a0 (A4 a1 1)).bind fun r2=>bif r2 then(Yz K a0 (A4 a2 1)).bind fun r3=>bif r3 then bif a1==a2 then some r1 else if 0<=a1/\a1<a0.length then if 0<=a2/\a2<r1.length then Ax5 (r1.set a2.toNat (Fy.mk (gt r1 a2).c (gt r1 a2).a (gt r1 a2).f (A4 a1 1) (gt r1 a2).t (gt r1 a2).i (gt r1 a2).u (gt r1 a2).v (gt r1 a2).L (gt r1 a2).w (gt r1 a2).x (gt r1 a2).y (gt r1 a2).j)) fun v4=>if 0<=a1/\a1<a0.length then if 0<=a2/\a2<v4.length then Ax5 (v4.set a2.toNat (Fy.mk (gt v4 a2).c (gt v4 a2).a (gt v4 a2).f (gt v4 a2).s (gt a0 a1).f (gt v4 a2).i (gt v4 a2).u (gt v4 a2).v (gt v4 a2).L (gt v4 a2).w (gt v4 a2).x (gt v4 a2).y (gt v4 a2).j)) fun v5=>if 0<=a2/\a2<v5.length then Ax5 (v5.set a2.toNat (Fy.mk (gt v5 a2).c (gt v5 a2).a (gt v5 a2).f (gt v5 a2).s (gt v5 a2).t (gt v5 a2).i (gt a0 a1).i (gt v5 a2).v (gt v5 a2).L (gt v5 a2).w (gt v5 a2).x (gt v5 a2).y (gt v5 a2).j)) fun v6=>if 0<=a2/\a2<v6.length then Ax5 (v6.set a2.toNat (Fy.mk (gt v6 a2).c (gt v6 a2).a (gt v6 a2).f (gt v6 a2).s (gt v6 a2).t (gt v6 a2).i (gt v6 a2).u 0 (gt v6 a2).L (gt v6 a2).w (gt v6 a2).x (gt v6 a2).y (gt v6 a2).j)) fun v7=>if 0<=a1/\a1<v7.length then Ax5 (v7.set a1.toNat (Fy.mk (gt v7 a1).c (gt v7 a1).a (gt v7 a1).f (gt v7 a1).s (gt v7 a1).t (A4 a2 1) (gt v7 a1).u (gt v7 a1).v (gt v7 a1).L (gt v7 a1).w (gt v7 a1).x (gt v7 a1).y (gt v7 a1).j)) fun v8=>(Yz K a0 (gt a0 a1).i).bind fun r9=>bif r9 then if 0<=(Ap (gt a0 a1).i 1)/\(Ap (gt a0 a1).i 1)<v8.length then Ax5 (v8.set (Ap (gt a0 a1).i 1).toNat (Fy.mk (gt v8 (Ap (gt a0 a1).i 1)).c (gt v8 (Ap (gt a0 a1).i 1)).a (gt v8 (Ap (gt a0 a1).i 1)).f (gt v8 (Ap (gt a0 a1).i 1)).s (gt v8 (Ap (gt a0 a1).i 1)).t (gt v8 (Ap (gt a0 a1).i 1)).i (gt v8 (Ap (gt a0 a1).i 1)).u (A4 a2 1) (gt v8 (Ap (gt a0 a1).i 1)).L (gt v8 (Ap (gt a0 a1).i 1)).w (gt v8 (Ap (gt a0 a1).i 1)).x (gt v8 (Ap (gt a0 a1).i 1)).y (gt v8 (Ap (gt a0 a1).i 1)).j)) fun v10=>Azc K v10 else none else Azc K v8 else none else none else none else none else none else none else none else some r1 else some r1
def A98:=fd func350 ⟨[.v 35,.v 3,.v 3],[.n 35 true],false⟩ (gC (Ay5 K) (gC (jo K) gN)) [14,15,16,20,21,22,23] [1023]
def Bjc:=jn (A98 K) 1023 A41 [] (Azc K) kN
def Bjd:=ct (A98 K) (ry K) (kC (Bjc K) kN)
def xf (a1:Int):Nat->Int->Int->Int->Int->Int->Int->Int->List Int->List Int->List Int->List Fy->List G9->List Int->Option (Int×H4)
 |0,_,_,_,_,_,_,_,_,_,_,_,_,_=>none
 |n1+1,v1,v2,v3,v4,v5,v6,v7,v8,v9,v10,v11,v12,v13=>bif decide (v1<a1)then bif (v12.length:Int)==0 then some (v1,(H4.mk (Sv.mk v2 v3 v4 v5 v6 v7) (Pc.mk v8 v9 v10) v11 v12 v13))else(ni K (H4.mk (Sv.mk v2 v3 v4 v5 v6 v7) (Pc.mk v8 v9 v10) v11 v12 v13)).bind fun r14=>xf a1 n1 (A4 v1 1) r14.C.L r14.C.k r14.C.l r14.C.e r14.C.m r14.C.n r14.Q.g r14.Q.c r14.Q.h r14.o r14.p r14.q else some (a1,(H4.mk (Sv.mk v2 v3 v4 v5 v6 v7) (Pc.mk v8 v9 v10) v11 v12 v13))
def xg (a0:H4)(a1:Int):Option (Int×H4):=xf K a1 K 0 a0.C.L a0.C.k a0.C.l a0.C.e a0.C.m a0.C.n a0.Q.g a0.Q.c a0.Q.h a0.o a0.p a0.q
def A99:=fd func86 ⟨[.b 38 false,.v 3],[.v 3],false⟩ (gC (A9z K) gN) [] [] [(4,[.take 1 10 5026]),(6,[.put 1])]
def Bje:E7:=⟨[(0,.p 1),(1,.v 2),(5,.v 2)],[(1,.box ae)]⟩
def Bjf:=lp (A99 K) 26 Bje [] (fun n a=>xf K a n) (fun n=>kN)
def A5a:=ct (A99 K) (xg K) (kC (Bjf K K) kN)
def xh (r19 v25:Int)(v26 v27:Int)(v28 v29 v30:Int)(v31 v32 v33:List Int)(v34:List Fy)(v35:List G9)(v36:List Int)(v37:Sw):Option (Sw×H4):=(vu K v34 r19).bind fun r38=>(xg K (H4.mk (Sv.mk v25 v26 v27 v28 v29 v30) (Pc.mk v31 v32 v33) v34 v35 v36) v28).bind fun r39=>some ((Sw.mk v37.F r38 v37.b v37.A v37.G r39.1 v37.H),r39.2)
def jx (v3 v4:Int)(v5 v6:Int)(v7 v8 v9:Int)(v10 v11 v12:List Int)(v13:List Fy)(v14:List G9)(v15:List Int)(v16 v17:Sw):Option (Sw×H4):=bif v16.F != 0 then some (v16,(H4.mk (Sv.mk v4 v5 v6 v7 v8 v9) (Pc.mk v10 v11 v12) v13 v14 v15))else(wx K (H4.mk (Sv.mk v4 v5 v6 v7 v8 v9) (Pc.mk v10 v11 v12) v13 v14 v15) 1 1).bind fun r18=>(A44 K r18.2.o).bind fun r19=>(Ay9 K r18.2.Q).bind fun r20=>bif decide (r19<0)then some ((Sw.mk 5 (Lz.mk 0 0) (Pd.mk (Lz.mk 0 0) 0 0) [] 0 0 0),r18.2)else bif decide (r20<0)then some ((Sw.mk 5 (Lz.mk 0 0) (Pd.mk (Lz.mk 0 0) 0 0) [] 0 0 0),r18.2)else if 0<=r19/\r19<r18.2.o.length then(bz K (gt r18.2.o r19).a).bind fun r21=>(nk K r18.2.Q r20 1 r19).bind fun r22=>(rx K r18.2.C (Fy.mk 1 r21.a r21.f r21.s r21.t r21.i r21.u r21.v r21.L r21.w r21.x r21.y r21.j) r20).bind fun r23=>if 0<=r19/\r19<r18.2.o.length then bif decide (v3>=0)then(ry K (r18.2.o.set r19.toNat r23.1) v3 r19).bind fun r24=>xh K r19 r18.2.C.L r18.2.C.k r18.2.C.l r18.2.C.e r18.2.C.m r18.2.C.n r22.g r22.c r22.h r24 r18.2.p r18.2.q (Sw.mk v16.F v16.P v16.b v16.A v16.G v16.e r18.1)else xh K r19 r18.2.C.L r18.2.C.k r18.2.C.l r18.2.C.e r18.2.C.m r18.2.C.n r22.g r22.c r22.h (r18.2.o.set r19.toNat r23.1) r18.2.p r18.2.q (Sw.mk v16.F v16.P v16.b v16.A v16.G v16.e r18.1)else none else none
def xi (v41:Int)(v42:Bool)(v43 v44:Int)(v45 v46:Int)(v47 v48:Int)(v49 v50 v51:List Int)(v52:List Fy)(v53:List G9)(v54:List Int)(v55 v56:Sw):Option (Sw×H4):=bif v42 then jx K v41 v43 v44 v45 v46 v47 v48 v49 v50 v51 v52 v53 v54 (Sw.mk 3 v55.P v55.b v55.A v55.G v55.e v55.H) v56 else(A4u K (H4.mk (Sv.mk v43 v44 v45 v46 v47 v48) (Pc.mk v49 v50 v51) v52 v53 v54)).bind fun r57=>bif r57==0 then jx K v41 v43 v44 v45 v46 v47 v48 v49 v50 v51 v52 v53 v54 (Sw.mk 4 v55.P v55.b v55.A v55.G v55.e v55.H) v56 else(re K (H4.mk (Sv.mk v43 v44 v45 v46 v47 v48) (Pc.mk v49 v50 v51) v52 v53 v54) 1).bind fun r58=>bif !r58 then jx K v41 v43 v44 v45 v46 v47 v48 v49 v50 v51 v52 v53 v54 (Sw.mk 5 v55.P v55.b v55.A v55.G v55.e v55.H) v56 else jx K v41 v43 v44 v45 v46 v47 v48 v49 v50 v51 v52 v53 v54 v55 v56
def Azd (a0:H4)(a1:Lz):Option (Sw×H4):=(Ayr K a0 a1).bind fun r1=>(dn K a0 a1).bind fun r2=>bif r1.2 != 0 then jx K r1.1 a0.C.L a0.C.k a0.C.l a0.C.e a0.C.m a0.C.n a0.Q.g a0.Q.c a0.Q.h a0.o a0.p a0.q (Sw.mk r1.2 (Lz.mk 0 0) (Pd.mk (Lz.mk 0 0) 0 0) [] r2 0 0) (Sw.mk 0 (Lz.mk 0 0) (Pd.mk (Lz.mk 0 0) 0 0) [] 0 0 0)else bif decide (r1.1>=0)then(wj K a0.o r1.1).bind fun r40=>xi K r1.1 (decide (r40>=4)) a0.C.L a0.C.k a0.C.l a0.C.e a0.C.m a0.C.n a0.Q.g a0.Q.c a0.Q.h a0.o a0.p a0.q (Sw.mk r1.2 (Lz.mk 0 0) (Pd.mk (Lz.mk 0 0) 0 0) [] r2 0 0) (Sw.mk 0 (Lz.mk 0 0) (Pd.mk (Lz.mk 0 0) 0 0) [] 0 0 0)else xi K r1.1 false a0.C.L a0.C.k a0.C.l a0.C.e a0.C.m a0.C.n a0.Q.g a0.Q.c a0.Q.h a0.o a0.p a0.q (Sw.mk r1.2 (Lz.mk 0 0) (Pd.mk (Lz.mk 0 0) 0 0) [] r2 0 0) (Sw.mk 0 (Lz.mk 0 0) (Pd.mk (Lz.mk 0 0) 0 0) [] 0 0 0)
def Aze:=fd func305 ⟨[.b 38 false,.v 40],[.n 44 true],false⟩ (gC (A4y K) (gC (A5a K) (gC (A9c K) (gC (vk K) (gC (my K) (gC (Bhp K) (gC (A9g K) (gC (Bhs K) (gC (A43 K) (gC (Biz K) (gC (A92 K) (gC (A45 K) (gC (A49 K) (gC (Bjd K) gN)))))))))))))) [31,32,74,75] [15,243,32767] [(1,[.take 1 6 5022,.take 1 7 5023,.take 1 8 5024,.take 1 9 5025,.take 1 10 5026,.take 1 11 5027]),(6,[.take 1 6 5022,.take 1 7 5023,.take 1 8 5024,.take 1 9 5025,.take 1 10 5026,.take 1 11 5027]),(11,[.take 107 7 6719]),(13,[.take 1 9 5025]),(14,[.take 1 6 5022,.take 1 7 5023,.take 1 8 5024]),(23,[.put 5025,.frz 5025]),(24,[.take 1 9 5025]),(25,[.put 1]),(26,[.take 107 7 6719])]
def Bjg:E7:=⟨[(0,.p 1),(4,.p 104),(7,.p 107),(8,.v 2)],[(1,.box ae),(107,.st 44 true),(104,.st 44 true)]⟩
def Bjh:E7:=⟨[(0,.p 1),(4,.p 104),(5,.v 2),(7,.p 107)],[(1,.box ae),(107,.st 44 true),(104,.st 44 true)]⟩
def Bji:E7:=⟨[(0,.p 1),(4,.p 104),(5,.v 2),(7,.p 107),(29,.v 4)],[(1,.box ae),(107,.st 44 true),(104,.st 44 true)]⟩
def Bjj:=jn (Aze K) 32767 Bjg [] (fun a b c d e f g h i j k l m o _=>xh K a b c d e f g h i j k l m o) kN
def Baa:=jn (Aze K) 15 Bjh [] (jx K) (kC (Bjj K) kN)
def Bjk:=jn (Aze K) 243 Bji [] (xi K) (kC (Baa K) kN)
def Bjl:=ct (Aze K) (Azd K) (kC (Baa K) (kC (Bjk K) kN))
def np (K:Nat)(a0:Int):Option Bool:=bif a0==1 then some true else bif a0==2 then some true else some (a0==4)
def Azf:=ct (fd func351 ⟨[.v 3],[.v 4],true⟩ gN [4,5,7,8,9]) (np K)
def jy (a0:Sv)(a2 a3 r6:Int):Nat->Int->Fy->Fy->Int->Int->Int->Int->Int->Int->Int->Int->List Int->Int->Int->List H3->List Int->Option (Fy×Bool)
 |0,_,_,_,_,_,_,_,_,_,_,_,_,_,_,_,_=>none
 |n1+1,v7,v8,v9,v10,v11,v12,v13,v14,v15,v16,v17,v18,v19,v20,v21,v22=>bif decide (v7<r6)then if(v8.L++([(A4 a2 v7)]:List Int)).length*8<=140737488355328/\(v8.L++([(A4 a2 v7)]:List Int)).length<=maxLen then jy a0 a2 a3 r6 n1 (A4 v7 1) (Fy.mk v8.c v8.a v8.f v8.s v8.t v8.i v8.u v8.v (v8.L++([(A4 a2 v7)]:List Int)) v8.w v8.x v8.y v8.j) v9 v10 v11 v12 v13 v14 v15 v16 v17 v18 v19 v20 v21 v22 else none else if(v8.y++([(H3.mk (Gx a2 a0.k) a3 r6)]:List H3)).length*24<=140737488355328/\(v8.y++([(H3.mk (Gx a2 a0.k) a3 r6)]:List H3)).length<=maxLen then(gf K a0 (Fy.mk v8.c v8.a v8.f v8.s v8.t v8.i v8.u v8.v v8.L v8.w v8.x (v8.y++([(H3.mk (Gx a2 a0.k) a3 r6)]:List H3)) v8.j)).bind fun r23=>bif !r23 then(cd K (Fy.mk v10 v11 v12 v13 v14 v15 v16 v17 v18 v19 v20 v21 v22)).bind fun r24=>some (r24,false)else some ((Fy.mk v8.c v8.a v8.f v8.s v8.t v8.i v8.u v8.v v8.L v8.w v8.x (v8.y++([(H3.mk (Gx a2 a0.k) a3 r6)]:List H3)) v8.j),true)else none
def nq (a0:Sv)(a1:Fy)(a2 a3:Int):Option (Fy×Bool):=(cd K a1).bind fun r1=>(bw K a0).bind fun r2=>bif r2 then bif a1.c != 1 then some (r1,false)else(gb K a0 a3).bind fun r3=>bif r3 then(mw K a0).bind fun r4=>bif decide (a3>r4)then some (r1,false)else(V4 K a2 0 (Ap a0.L 1)).bind fun r5=>bif !r5 then some (r1,false)else(gd K a0 a3).bind fun r6=>jy K a0 a2 a3 r6 K 0 r1 (Fy.mk 0 0 0 0 0 0 0 0 [] 0 0 [] []) a1.c a1.a a1.f a1.s a1.t a1.i a1.u a1.v a1.L a1.w a1.x a1.y a1.j else some (r1,false)else some (r1,false)
def Bab:=fd func374 ⟨[.v 33,.v 77,.v 3,.v 3],[.n 77 false,.v 4],true⟩ (gC (jm K) (gC (ru K) (gC (Xx K) (gC (Amp K) (gC (ro K) (gC (A46 K) (gC (A47 K) gN))))))) [16,17,18,21,22,23,26,27,28,29,33,34,35] [] [(8,[.take 110 8 6768]),(9,[.take 110 11 6771]),(10,[.take 110 8 6768,.take 110 12 6772])]
def Bjm:E7:=⟨[(2,.v 2),(3,.v 2),(4,.p 104),(5,.p 105),(8,.p 108),(10,.p 110),(11,.v 2),(12,.v 2)],[(110,.st 77 false),(108,.st 77 false),(105,.box bu),(104,.st 33 true)]⟩
def Bjn:=lp (Bab K) 250 Bjm [] (fun n a b c d e f g h i j k l m o p q r s t u=>jy K u a b c n d e f g h i j k l m o p q r s t) (fun n=>kN)
def Bac:=ct (Bab K) (nq K) (kC (Bjn K K) kN)
def Azg (a0:H4)(a1 a2:Int)(a3:Sw):Option (Sw×H4):=(gd K a0.C a2).bind fun r1=>(re K a0 r1).bind fun r2=>bif !r2 then some ((Sw.mk 5 a3.P a3.b a3.A a3.G a3.e a3.H),a0)else(wx K a0 0 r1).bind fun r3=>(Ayv K r3.2.Q r1).bind fun r4=>bif decide (r4<0)then some ((Sw.mk 6 a3.P a3.b a3.A a3.G a3.e r3.1),r3.2)else(nk K r3.2.Q r4 r1 a1).bind fun r5=>if 0<=a1/\a1<r3.2.o.length then if 0<=a1/\a1<r3.2.o.length then(nq K r3.2.C (gt r3.2.o a1) r4 a2).bind fun r6=>if 0<=a1/\a1<r3.2.o.length then some ((Sw.mk a3.F a3.P a3.b a3.A a3.G a3.e r3.1),(H4.mk r3.2.C r5 (r3.2.o.set a1.toNat r6.1) r3.2.p r3.2.q))else none else none else none
def Bjo:=ct (fd func352 ⟨[.b 38 false,.v 3,.v 3,.v 44],[.v 44],false⟩ (gC (A4y K) (gC (A47 K) (gC (A43 K) (gC (A45 K) (gC (Bac K) (gC (A9n K) gN)))))) [] [] [(2,[.take 1 6 5022,.take 1 7 5023,.take 1 8 5024,.take 1 9 5025,.take 1 10 5026,.take 1 11 5027]),(5,[.put 1]),(6,[.take 1 6 5022,.take 1 7 5023,.take 1 8 5024]),(11,[.take 1 9 5025,.opn 5025 (.tmp 1),.takeE 5025 11 41611,.takeE 5025 12 41612])]) (Azg K)
def Azh (a0 a1:Int):Option Int:=(V4 K a0 0 1000000000).bind fun r1=>bif r1 then(np K a1).bind fun r2=>bif !r2 then some 0 else if a1≠(0:Int)then some (Gx (Afg .i64 (Ap (A4 a0 a1) 1) a1) a1)else none else some 0
def Bjp:=ct (fd func390 ⟨[.v 3,.v 3],[.v 3],true⟩ (gC (Xx K) (gC (Azf K) gN)) [6,7,8]) (Azh K)
def xj (a0:Sv)(a1:Fy)(a2 a3:Int):Option (Int×Bool):=(gf K a0 a1).bind fun r1=>bif r1 then bif a1.w==0 then some (0,false)else(V4 K a2 1 a0.k).bind fun r2=>bif r2 then(np K a3).bind fun r3=>bif !r3 then some (0,false)else(Azh K a1.x a3).bind fun r4=>bif decide ((A4 r4 a2)>a0.k)then some (0,false)else some ((A4 (Gx (Ap a1.w 1) a0.k) r4),true)else some (0,false)else some (0,false)
def Bad:=ct (fd func384 ⟨[.v 33,.v 77,.v 3,.v 3],[.v 3,.v 4],true⟩ (gC (ru K) (gC (Xx K) (gC (Azf K) (gC (Bjp K) gN)))) [13,14,15,18,19,20,24,25,26,27]) (xj K)
def Azi (a0:Sv)(a1:Fy)(a2 a3:Int):Option Bool:=(xj K a0 a1 a2 a3).bind fun r1=>bif r1.2 then some false else(gf K a0 a1).bind fun r2=>bif r2 then bif a1.c==1 then(V4 K a2 1 a0.k).bind fun r3=>bif r3 then(np K a3).bind fun r4=>some r4 else some false else some false else some false
def Bjq:=ct (fd func377 ⟨[.v 33,.v 77,.v 3,.v 3],[.v 4],true⟩ (gC (ru K) (gC (Xx K) (gC (Azf K) (gC (Bad K) gN)))) [19,20,21,24,25,26,29,30,31,35,36,37]) (Azi K)
def xk (a0:Sv)(a1:Fy)(a2 a3:Int):Option (Fy×Bool):=(cd K a1).bind fun r1=>(xj K a0 a1 a2 a3).bind fun r2=>bif r2.2 then bif decide ((a1.y.length:Int)>=12)then some (r1,false)else if(r1.y++([(H3.mk r2.1 a2 0)]:List H3)).length*24<=140737488355328/\(r1.y++([(H3.mk r2.1 a2 0)]:List H3)).length<=maxLen then some ((Fy.mk r1.c r1.a r1.f r1.s r1.t r1.i r1.u r1.v r1.L r1.w (A4 (Ap r2.1 (Gx (Ap a1.w 1) a0.k)) a2) (r1.y++([(H3.mk r2.1 a2 0)]:List H3)) r1.j),true)else none else some (r1,false)
def Bae:=ct (fd func373 ⟨[.v 33,.v 77,.v 3,.v 3],[.n 77 false,.v 4],true⟩ (gC (ro K) (gC (Bad K) gN)) [23,24,25]) (xk K)
def xl (a1 a2:Int)(a3 v7:Int)(v8 v9:Int)(v10 v11 v12:Int)(v13 v14 v15:List Int)(v16:List Fy)(v17:List G9)(v18:List Int)(v19:Sw)(v20 v21:Int)(v22 v23:Int)(v24 v25 v26:Int)(v27:List Int)(v28 v29 v30:Int):Option (Sw×H4):=if 0<=a1/\a1<v16.length then if 0<=a1/\a1<v16.length then(xk K (Sv.mk v7 v8 v9 v10 v11 v12) (gt v16 a1) a2 a3).bind fun r31=>if 0<=a1/\a1<v16.length then some ((Sw.mk v20 (Lz.mk v21 v22) (Pd.mk (Lz.mk v23 v24) v25 v26) v27 v28 v29 v30),(H4.mk (Sv.mk v7 v8 v9 v10 v11 v12) (Pc.mk v13 v14 v15) (v16.set a1.toNat r31.1) v17 v18))else none else none else none
def Azj (a0:H4)(a1 a2 a3:Int)(a4:Sw):Option (Sw×H4):=if 0<=a1/\a1<a0.o.length then if 0<=a1/\a1<a0.o.length then(Azi K a0.C (gt a0.o a1) a2 a3).bind fun r1=>bif r1 then(re K a0 1).bind fun r2=>bif !r2 then some ((Sw.mk 5 a4.P a4.b a4.A a4.G a4.e a4.H),a0)else(wx K a0 0 1).bind fun r3=>(Ay9 K r3.2.Q).bind fun r4=>bif decide (r4<0)then some ((Sw.mk 5 a4.P a4.b a4.A a4.G a4.e r3.1),r3.2)else(nk K r3.2.Q r4 1 a1).bind fun r5=>if 0<=a1/\a1<r3.2.o.length then if 0<=a1/\a1<r3.2.o.length then(rx K r3.2.C (gt r3.2.o a1) r4).bind fun r6=>if 0<=a1/\a1<r3.2.o.length then xl K a1 a2 a3 r3.2.C.L r3.2.C.k r3.2.C.l r3.2.C.e r3.2.C.m r3.2.C.n r5.g r5.c r5.h (r3.2.o.set a1.toNat r6.1) r3.2.p r3.2.q (Sw.mk 0 (Lz.mk 0 0) (Pd.mk (Lz.mk 0 0) 0 0) [] 0 0 0) a4.F a4.P.d a4.P.a a4.b.P.d a4.b.P.a a4.b.f a4.b.r a4.A a4.G a4.e r3.1 else none else none else none else xl K a1 a2 a3 a0.C.L a0.C.k a0.C.l a0.C.e a0.C.m a0.C.n a0.Q.g a0.Q.c a0.Q.h a0.o a0.p a0.q (Sw.mk 0 (Lz.mk 0 0) (Pd.mk (Lz.mk 0 0) 0 0) [] 0 0 0) a4.F a4.P.d a4.P.a a4.b.P.d a4.b.P.a a4.b.f a4.b.r a4.A a4.G a4.e a4.H else none else none
def Baf:=fd func353 ⟨[.b 38 false,.v 3,.v 3,.v 3,.v 44],[.v 44],false⟩ (gC (A4y K) (gC (A43 K) (gC (A92 K) (gC (A45 K) (gC (A49 K) (gC (Bae K) (gC (Bjq K) gN))))))) [] [3] [(1,[.take 1 9 5025,.opn 5025 (.tmp 1),.takeE 5025 11 41611,.takeE 5025 12 41612]),(2,[.take 1 6 5022,.take 1 7 5023,.take 1 8 5024,.take 1 10 5026,.take 1 11 5027,.put 5025]),(5,[.put 1]),(6,[.take 1 6 5022,.take 1 7 5023,.take 1 8 5024]),(11,[.take 1 9 5025,.opn 5025 (.tmp 1),.takeE 5025 11 41611,.takeE 5025 12 41612]),(13,[.take 1 9 5025,.opn 5025 (.tmp 1),.takeE 5025 11 41611,.takeE 5025 12 41612])]
def Bjr:E7:=⟨[(0,.p 1),(1,.v 2),(2,.v 2),(3,.v 2),(9,.p 109),(10,.p 110)],[(1,.box ae),(110,.st 44 true),(109,.box bx5)]⟩
def Bjs:=jn (Baf K) 3 Bjr [] (xl K) kN
def Bjt:=ct (Baf K) (Azj K) (kC (Bjs K) kN)
def xm (a1:Lz)(v5 v22:Int)(v23 v24:Int)(v25 v26 v27:Int)(v28 v29 v30:List Int)(v31:List Fy)(v32:List G9)(v33:List Int)(v34 v35:Int)(v36 v37:Int)(v38 v39 v40:Int)(v41:List Int)(v42 v43 v44:Int):Option (Sw×H4):=bif v34 != 0 then some ((Sw.mk v34 (Lz.mk v35 v36) (Pd.mk (Lz.mk v37 v38) v39 v40) v41 v42 v43 v44),(H4.mk (Sv.mk v22 v23 v24 v25 v26 v27) (Pc.mk v28 v29 v30) v31 v32 v33))else if 0<=v5/\v5<v31.length then if 0<=v5/\v5<v31.length then if 0<=v5/\v5<v31.length then(xg K (H4.mk (Sv.mk v22 v23 v24 v25 v26 v27) (Pc.mk v28 v29 v30) v31 v32 v33) v25).bind fun r45=>some ((Sw.mk v34 (Lz.mk v35 v36) (Pd.mk a1 (gt v31 v5).f (Ap (((gt v31 v5).y).length:Int) 1)) v41 v42 r45.1 v44),r45.2)else none else none else none
def rz (a1:Lz)(a2 a3:Int)(v5 v6:Int)(v7 v8:Int)(v9 v10 v11:Int)(v12 v13 v14:List Int)(v15:List Fy)(v16:List G9)(v17:List Int)(v18 v19:Sw):Option (Sw×H4):=bif v18.F != 0 then some (v18,(H4.mk (Sv.mk v6 v7 v8 v9 v10 v11) (Pc.mk v12 v13 v14) v15 v16 v17))else(gb K (Sv.mk v6 v7 v8 v9 v10 v11) a2).bind fun r20=>bif r20 then(Azg K (H4.mk (Sv.mk v6 v7 v8 v9 v10 v11) (Pc.mk v12 v13 v14) v15 v16 v17) v5 a2 v18).bind fun r21=>xm K a1 v5 r21.2.C.L r21.2.C.k r21.2.C.l r21.2.C.e r21.2.C.m r21.2.C.n r21.2.Q.g r21.2.Q.c r21.2.Q.h r21.2.o r21.2.p r21.2.q r21.1.F r21.1.P.d r21.1.P.a r21.1.b.P.d r21.1.b.P.a r21.1.b.f r21.1.b.r r21.1.A r21.1.G r21.1.e r21.1.H else(Azj K (H4.mk (Sv.mk v6 v7 v8 v9 v10 v11) (Pc.mk v12 v13 v14) v15 v16 v17) v5 a2 a3 v18).bind fun r46=>xm K a1 v5 r46.2.C.L r46.2.C.k r46.2.C.l r46.2.C.e r46.2.C.m r46.2.C.n r46.2.Q.g r46.2.Q.c r46.2.Q.h r46.2.o r46.2.p r46.2.q r46.1.F r46.1.P.d r46.1.P.a r46.1.b.P.d r46.1.b.P.a r46.1.b.f r46.1.b.r r46.1.A r46.1.G r46.1.e r46.1.H
def Azk (a0:H4)(a1:Lz)(a2 a3:Int):Option (Sw×H4):=(V4 K a2 1 200).bind fun r1=>bif r1 then(np K a3).bind fun r2=>bif !r2 then some ((Sw.mk 1 (Lz.mk 0 0) (Pd.mk (Lz.mk 0 0) 0 0) [] 0 0 0),a0)else(fz K a0 a1).bind fun r3=>(dn K a0 a1).bind fun r4=>bif r3.2==0 then if 0<=r3.1/\r3.1<a0.o.length then if 0<=r3.1/\r3.1<a0.o.length then bif decide (((gt a0.o r3.1).y.length:Int)>=12)then rz K a1 a2 a3 r3.1 a0.C.L a0.C.k a0.C.l a0.C.e a0.C.m a0.C.n a0.Q.g a0.Q.c a0.Q.h a0.o a0.p a0.q (Sw.mk 8 (Lz.mk 0 0) (Pd.mk (Lz.mk 0 0) 0 0) [] r4 0 0) (Sw.mk 0 (Lz.mk 0 0) (Pd.mk (Lz.mk 0 0) 0 0) [] 0 0 0)else rz K a1 a2 a3 r3.1 a0.C.L a0.C.k a0.C.l a0.C.e a0.C.m a0.C.n a0.Q.g a0.Q.c a0.Q.h a0.o a0.p a0.q (Sw.mk r3.2 (Lz.mk 0 0) (Pd.mk (Lz.mk 0 0) 0 0) [] r4 0 0) (Sw.mk 0 (Lz.mk 0 0) (Pd.mk (Lz.mk 0 0) 0 0) [] 0 0 0)else none else none else rz K a1 a2 a3 r3.1 a0.C.L a0.C.k a0.C.l a0.C.e a0.C.m a0.C.n a0.Q.g a0.Q.c a0.Q.h a0.o a0.p a0.q (Sw.mk r3.2 (Lz.mk 0 0) (Pd.mk (Lz.mk 0 0) 0 0) [] r4 0 0) (Sw.mk 0 (Lz.mk 0 0) (Pd.mk (Lz.mk 0 0) 0 0) [] 0 0 0)else some ((Sw.mk 1 (Lz.mk 0 0) (Pd.mk (Lz.mk 0 0) 0 0) [] 0 0 0),a0)
def A5b:=fd func306 ⟨[.b 38 false,.v 40,.v 3,.v 3],[.v 44],false⟩ (gC (A5a K) (gC (Xx K) (gC (A46 K) (gC (rb K) (gC (my K) (gC (Azf K) (gC (Bjo K) (gC (Bjt K) gN)))))))) [13,14,15,37,38] [31,127] [(3,[.take 1 6 5022,.take 1 7 5023,.take 1 8 5024,.take 1 9 5025,.take 1 10 5026,.take 1 11 5027]),(8,[.take 111 7 6783]),(10,[.take 111 7 6783,.frz 6783]),(11,[.take 111 7 6783,.frz 6783]),(14,[.take 1 9 5025,.opn 5025 (.tmp 9),.takeE 5025 11 41611]),(15,[.put 1])] [(43,[.opn 5025 (.tmp 43)]),(45,[.takeE 5025 11 41611])]
def Bju:E7:=⟨[(0,.p 1),(5,.p 105),(8,.p 108),(9,.v 2),(11,.p 111)],[(1,.box ae),(111,.box bx5),(108,.st 44 true),(105,.st 40 true)]⟩
def Bjv:E7:=⟨[(0,.p 1),(2,.v 2),(3,.v 2),(5,.p 105),(8,.p 108),(9,.v 2),(11,.p 111)],[(1,.box ae),(111,.st 44 true),(108,.st 44 true),(105,.st 40 true)]⟩
def Bjw:=jn (A5b K) 127 Bju [] (fun a b c d e f g h i j k l m o p q r s t u v w x y _ a1=>xm K a1 a b c d e f g h i j k l m o p q r s t u v w x y) kN
def Bjx:=jn (A5b K) 31 Bjv [] (fun a b c d e f g h i j k l m o p q r s=>rz K s a b c d e f g h i j k l m o p q r) (kC (Bjw K) kN)
def Bjy:=ct (A5b K) (Azk K) (kC (Bjx K) kN)
def Azl (a0:Fy):Option Fy:=(cd K a0).bind fun r1=>some (Fy.mk r1.c r1.a (A4 a0.f 1) r1.s r1.t 0 r1.u r1.v ([]:List Int) 0 0 ([]:List H3) ([]:List Int))
def Bjz:=ct (fd func356 ⟨[.v 77],[.n 77 false],true⟩ (gC (ro K) gN)) (Azl K)
def Azm (a0:H4)(a1:Int):Option H4:=if 0<=a1/\a1<a0.o.length then if 0<=a1/\a1<a0.o.length then(jv K (gt a0.o a1) 0).bind fun r1=>if 0<=a1/\a1<a0.o.length then(ju K a0 (gt a0.o a1).L).bind fun r2=>if 0<=a1/\a1<r2.o.length then if 0<=a1/\a1<r2.o.length then(Azl K (gt r2.o a1)).bind fun r3=>if 0<=a1/\a1<r2.o.length then if(r2.p++([r1]:List G9)).length*72<=140737488355328/\(r2.p++([r1]:List G9)).length<=maxLen then some (H4.mk r2.C r2.Q (r2.o.set a1.toNat r3) (r2.p++([r1]:List G9)) r2.q)else none else none else none else none else none else none else none
def Bj0:=ct (fd func309 ⟨[.b 38 false,.v 3],[],false⟩ (gC (Ay3 K) (gC (A40 K) (gC (Bjz K) gN))) [] [] [(0,[.take 1 9 5025,.opn 5025 (.tmp 1),.takeE 5025 11 41611,.takeE 5025 12 41612]),(1,[.put 1,.take 1 9 5025]),(2,[.take 1 9 5025,.opn 5025 (.tmp 1),.takeE 5025 11 41611,.takeE 5025 12 41612]),(3,[.take 1 10 5026,.frz 20384,.frz 20385])] [(21,[.put 1])]) (Azm K)
def xn (K:Nat)(a1:Int)(v21:List Fy):Option (List Fy):=if 0<=a1/\a1<v21.length then Ax5 (v21.set a1.toNat (Fy.mk (gt v21 a1).c (gt v21 a1).a (gt v21 a1).f 0 (gt v21 a1).t (gt v21 a1).i (gt v21 a1).u (gt v21 a1).v (gt v21 a1).L (gt v21 a1).w (gt v21 a1).x (gt v21 a1).y (gt v21 a1).j)) fun v22=>if 0<=a1/\a1<v22.length then Ax5 (v22.set a1.toNat (Fy.mk (gt v22 a1).c (gt v22 a1).a (gt v22 a1).f (gt v22 a1).s 0 (gt v22 a1).i (gt v22 a1).u (gt v22 a1).v (gt v22 a1).L (gt v22 a1).w (gt v22 a1).x (gt v22 a1).y (gt v22 a1).j)) fun v23=>if 0<=a1/\a1<v23.length then Ax5 (v23.set a1.toNat (Fy.mk (gt v23 a1).c (gt v23 a1).a (gt v23 a1).f (gt v23 a1).s (gt v23 a1).t (gt v23 a1).i 0 (gt v23 a1).v (gt v23 a1).L (gt v23 a1).w (gt v23 a1).x (gt v23 a1).y (gt v23 a1).j)) fun v24=>if 0<=a1/\a1<v24.length then Ax5 (v24.set a1.toNat (Fy.mk (gt v24 a1).c (gt v24 a1).a (gt v24 a1).f (gt v24 a1).s (gt v24 a1).t (gt v24 a1).i (gt v24 a1).u 0 (gt v24 a1).L (gt v24 a1).w (gt v24 a1).x (gt v24 a1).y (gt v24 a1).j)) fun v25=>some v25 else none else none else none else none
def sd (a0:List Fy)(a1:Int)(v5:List Fy)(v6 v7:Int)(v8 v9:Int)(v10 v11:Int)(v12 v13:Int)(v14:List Int)(v15 v16:Int)(v17:List H3)(v18:List Int):Option (List Fy):=(Yz K a0 v12).bind fun r19=>bif r19 then if 0<=(Ap v12 1)/\(Ap v12 1)<v5.length then Ax5 (v5.set (Ap v12 1).toNat (Fy.mk (gt v5 (Ap v12 1)).c (gt v5 (Ap v12 1)).a (gt v5 (Ap v12 1)).f (gt v5 (Ap v12 1)).s (gt v5 (Ap v12 1)).t (gt v5 (Ap v12 1)).i (gt v5 (Ap v12 1)).u v13 (gt v5 (Ap v12 1)).L (gt v5 (Ap v12 1)).w (gt v5 (Ap v12 1)).x (gt v5 (Ap v12 1)).y (gt v5 (Ap v12 1)).j)) fun v20=>xn K a1 v20 else none else xn K a1 v5
def nr (a0:List Fy)(a1:Int)(r1:(List Fy))(v27:Bool)(v28 v29:Int)(v30 v31:Int)(v32 v33:Int)(v34 v35:Int)(v36:List Int)(v37 v38:Int)(v39:List H3)(v40:List Int):Option (List Fy):=bif v27 then if 0<=(Ap v31 1)/\(Ap v31 1)<r1.length then Ax5 (r1.set (Ap v31 1).toNat (Fy.mk (gt r1 (Ap v31 1)).c (gt r1 (Ap v31 1)).a (gt r1 (Ap v31 1)).f (gt r1 (Ap v31 1)).s (gt r1 (Ap v31 1)).t v34 (gt r1 (Ap v31 1)).u (gt r1 (Ap v31 1)).v (gt r1 (Ap v31 1)).L (gt r1 (Ap v31 1)).w (gt r1 (Ap v31 1)).x (gt r1 (Ap v31 1)).y (gt r1 (Ap v31 1)).j)) fun v41=>sd K a0 a1 v41 v28 v29 v30 v31 v32 v33 v34 v35 v36 v37 v38 v39 v40 else none else sd K a0 a1 r1 v28 v29 v30 v31 v32 v33 v34 v35 v36 v37 v38 v39 v40
def Azn (a0:List Fy)(a1:Int):Option (List Fy):=(ng K a0).bind fun r1=>(Yz K a0 (A4 a1 1)).bind fun r2=>bif !r2 then some r1 else if 0<=a1/\a1<a0.length then(Yz K a0 (gt a0 a1).v).bind fun r3=>bif r3 then if 0<=(Ap (gt a0 a1).v 1)/\(Ap (gt a0 a1).v 1)<r1.length then Ax5 (r1.set (Ap (gt a0 a1).v 1).toNat (Fy.mk (gt r1 (Ap (gt a0 a1).v 1)).c (gt r1 (Ap (gt a0 a1).v 1)).a (gt r1 (Ap (gt a0 a1).v 1)).f (gt r1 (Ap (gt a0 a1).v 1)).s (gt r1 (Ap (gt a0 a1).v 1)).t (gt r1 (Ap (gt a0 a1).v 1)).i (gt a0 a1).u (gt r1 (Ap (gt a0 a1).v 1)).v (gt r1 (Ap (gt a0 a1).v 1)).L (gt r1 (Ap (gt a0 a1).v 1)).w (gt r1 (Ap (gt a0 a1).v 1)).x (gt r1 (Ap (gt a0 a1).v 1)).y (gt r1 (Ap (gt a0 a1).v 1)).j)) fun v4=>sd K a0 a1 v4 (gt a0 a1).c (gt a0 a1).a (gt a0 a1).f (gt a0 a1).s (gt a0 a1).t (gt a0 a1).i (gt a0 a1).u (gt a0 a1).v (gt a0 a1).L (gt a0 a1).w (gt a0 a1).x (gt a0 a1).y (gt a0 a1).j else none else bif (gt a0 a1).v==0 then(Yz K a0 (gt a0 a1).s).bind fun r26=>bif r26 then if 0<=(Ap (gt a0 a1).s 1)/\(Ap (gt a0 a1).s 1)<a0.length then nr K a0 a1 r1 (((gt a0 (Ap (gt a0 a1).s 1)).i)==(A4 a1 1)) (gt a0 a1).c (gt a0 a1).a (gt a0 a1).f (gt a0 a1).s (gt a0 a1).t (gt a0 a1).i (gt a0 a1).u (gt a0 a1).v (gt a0 a1).L (gt a0 a1).w (gt a0 a1).x (gt a0 a1).y (gt a0 a1).j else none else nr K a0 a1 r1 false (gt a0 a1).c (gt a0 a1).a (gt a0 a1).f (gt a0 a1).s (gt a0 a1).t (gt a0 a1).i (gt a0 a1).u (gt a0 a1).v (gt a0 a1).L (gt a0 a1).w (gt a0 a1).x (gt a0 a1).y (gt a0 a1).j else nr K a0 a1 r1 false (gt a0 a1).c (gt a0 a1).a (gt a0 a1).f (gt a0 a1).s (gt a0 a1).t (gt a0 a1).i (gt a0 a1).u (gt a0 a1).v (gt a0 a1).L (gt a0 a1).w (gt a0 a1).x (gt a0 a1).y (gt a0 a1).j else none
def Azo:=fd func357 ⟨[.v 35,.v 3],[.n 35 true],false⟩ (gC (Ay5 K) (gC (jo K) gN)) [35,36,40,41,42] [31,63,499]
def Bj1:E7:=⟨[(1,.v 2),(5,.o 1005 77 true)],[]⟩
def Bj2:E7:=⟨[(0,.v 35),(1,.v 2),(5,.o 1005 77 true),(6,.p 106)],[(106,.box bu)]⟩
def Bj3:E7:=⟨[(0,.v 35),(1,.v 2),(5,.o 1005 77 true),(6,.p 106),(32,.v 4)],[(106,.box bu)]⟩
def Bj4:=jn (Azo K) 63 Bj1 [] (xn K) kN
def Bag:=jn (Azo K) 31 Bj2 [] (sd K) (kC (Bj4 K) kN)
def Bj5:=jn (Azo K) 499 Bj3 [] (nr K) (kC (Bag K) kN)
def Bj6:=ct (Azo K) (Azn K) (kC (Bag K) (kC (Bj5 K) kN))
def Azp (a0:H4)(a1:Int):Option H4:=if 0<=a1/\a1<a0.o.length then if 0<=a1/\a1<a0.o.length then(jv K (gt a0.o a1) (A4 a1 1)).bind fun r1=>if 0<=a1/\a1<a0.o.length then(ju K a0 (gt a0.o a1).L).bind fun r2=>(Azn K r2.o a1).bind fun r3=>if 0<=a1/\a1<r3.length then if 0<=a1/\a1<r3.length then(rq K (gt r3 a1)).bind fun r4=>if 0<=a1/\a1<r3.length then if(r2.p++([r1]:List G9)).length*72<=140737488355328/\(r2.p++([r1]:List G9)).length<=maxLen then some (H4.mk r2.C r2.Q (r3.set a1.toNat r4) (r2.p++([r1]:List G9)) r2.q)else none else none else none else none else none else none else none
def Bj7:=ct (fd func310 ⟨[.b 38 false,.v 3],[],false⟩ (gC (Ay3 K) (gC (A40 K) (gC (A9u K) (gC (Bj6 K) gN)))) [] [] [(0,[.take 1 9 5025,.opn 5025 (.tmp 1),.takeE 5025 11 41611,.takeE 5025 12 41612]),(1,[.put 1,.take 1 9 5025]),(2,[.take 1 9 5025,.frz 5025]),(3,[.opn 3031 (.tmp 1),.takeE 3031 11 41995,.takeE 3031 12 41996]),(4,[.take 1 10 5026,.frz 20448,.frz 20449])] [(23,[.put 1])]) (Azp K)
def Azq (K:Nat)(a0:G9):Option G9:=if(([]:List Int)++a0.j).length*8<=140737488355328/\(([]:List Int)++a0.j).length<=maxLen then if(([]:List Int)++a0.L).length*8<=140737488355328/\(([]:List Int)++a0.L).length<=maxLen then some (G9.mk a0.d a0.i (([]:List Int)++a0.j) (([]:List Int)++a0.L) a0.z)else none else none
def Bj8:=ct (fd func190 ⟨[.v 79],[.n 79 true],true⟩ gN) (Azq K)
def ns:Nat->Int->Int->Int->Int->Int->Int->Int->List Int->List Int->List Int->List Fy->List G9->List Int->H4->Int->Int->Int->Int->Int->Int->List Int->List Int->List Int->List Fy->List G9->List Int->Option H4
 |0,_,_,_,_,_,_,_,_,_,_,_,_,_,_,_,_,_,_,_,_,_,_,_,_,_,_=>none
 |n1+1,v3,v4,v5,v6,v7,v8,v9,v10,v11,v12,v13,v14,v15,v16,v17,v18,v19,v20,v21,v22,v23,v24,v25,v26,v27,v28=>bif decide (v3<v27.length)then if 0<=v3/\v3<v27.length then(Azq K (gt v27 v3)).bind fun r29=>if(v14++[r29]).length*72<=140737488355328/\(v14++[r29]).length<=maxLen then ns n1 (A4 v3 1) v4 v5 v6 v7 v8 v9 v10 v11 v12 v13 (v14++[r29]) v15 v16 v17 v18 v19 v20 v21 v22 v23 v24 v25 v26 v27 v28 else none else none else if(([]:List Int)++v28).length*8<=140737488355328/\(([]:List Int)++v28).length<=maxLen then some (H4.mk (Sv.mk v4 v5 v6 v7 v8 v9) (Pc.mk v10 v11 v12) v13 v14 (([]:List Int)++v28))else none
def jz (a0:H4):Option H4:=(jr K a0.Q).bind fun r1=>(ng K a0.o).bind fun r2=>ns K K 0 a0.C.L a0.C.k a0.C.l a0.C.e a0.C.m a0.C.n r1.g r1.c r1.h r2 ([]:List G9) a0.q (H4.mk (Sv.mk 0 0 0 0 0 0) (Pc.mk [] [] []) [] [] []) a0.C.L a0.C.k a0.C.l a0.C.e a0.C.m a0.C.n a0.Q.g a0.Q.c a0.Q.h a0.o a0.p a0.q
def Bah:=fd func85 ⟨[.v 38],[.n 38 true],false⟩ (gC (Ayx K) (gC (Ay5 K) (gC (Bj8 K) gN))) [] [] [(9,[.take 103 10 6658]),(11,[.take 103 6 6654,.take 103 7 6655,.take 103 8 6656,.take 103 9 6657,.take 103 10 6658])] [(33,[.put 3033])]
def Bj9:E7:=⟨[(1,.p 101),(2,.p 102),(3,.p 103),(4,.v 2)],[(103,.box [.v 2,.v 2,.v 2,.v 2,.v 2,.v 2,.T 5 true,.T 3 true,.T 3 true,.T 77 true,.T 79 true,.v 25]),(102,.st 38 true),(101,.box W4)]⟩
def Bka:=lp (Bah K) 506 Bj9 [] (ns K) (fun n=>kN)
def xp:=ct (Bah K) (jz K) (kC (Bka K K) kN)
def gg (a0:List Fy)(a1:Int):Option Bool:=bif a1==0 then some true else(Yz K a0 a1).bind fun r1=>bif r1 then if 0<=(Ap a1 1)/\(Ap a1 1)<a0.length then some (((gt a0 (Ap a1 1)).c)==1)else none else some false
def Bkb:=ct (fd func301 ⟨[.v 35,.v 3],[.v 4],true⟩ (gC (jo K) gN) [6,7,10,11]) (gg K)
def se (a0:List Fy)(a1:Int):Option Bool:=(qq K a0 a1).bind fun r19=>bif decide ((r19.length:Int)<=4)then if 0<=(Ap r19.length 1)/\(Ap r19.length 1)<r19.length then(fx K a0 (gt r19 (Ap r19.length 1))).bind fun r20=>some (!r20)else none else some false
def xq (a0:List Fy)(a1 v8 v12:Int):Option Bool:=bif v12==0 then(fx K a0 a1).bind fun r18=>bif r18 then if 0<=(Ap v8 1)/\(Ap v8 1)<a0.length then bif (gt a0 (Ap v8 1)).i != (A4 a1 1)then some false else se K a0 a1 else none else se K a0 a1 else se K a0 a1
def xr (a0:List Fy)(a1 v8 v12:Int):Option Bool:=bif v12 != 0 then if 0<=(Ap v12 1)/\(Ap v12 1)<a0.length then bif (gt a0 (Ap v12 1)).u != (A4 a1 1)then some false else xq K a0 a1 v8 v12 else none else xq K a0 a1 v8 v12
def xt (a0:List Fy)(a1 v8:Int)(v9 v11 v12:Int):Option Bool:=bif v11 != 0 then if 0<=(Ap v11 1)/\(Ap v11 1)<a0.length then bif (gt a0 (Ap v11 1)).v != (A4 a1 1)then some false else bif (gt a0 (Ap v11 1)).s != v8 then some false else bif (gt a0 (Ap v11 1)).t != v9 then some false else xr K a0 a1 v8 v12 else none else xr K a0 a1 v8 v12
def xu (a0:List Fy)(a1 v5:Int)(v6 v7:Int)(v8 v9:Int)(v10 v11 v12:Int)(v13:List Int)(v14 v15:Int)(v16:List H3)(v17:List Int):Option Bool:=bif v10 != 0 then if 0<=(Ap v10 1)/\(Ap v10 1)<a0.length then bif (gt a0 (Ap v10 1)).v != 0 then some false else bif (gt a0 (Ap v10 1)).s != (A4 a1 1)then some false else bif (gt a0 (Ap v10 1)).t != v7 then some false else xt K a0 a1 v8 v9 v11 v12 else none else xt K a0 a1 v8 v9 v11 v12
def Azr (a0:List Fy)(a1:Int):Option Bool:=if 0<=a1/\a1<a0.length then bif (gt a0 a1).s != 0 then(Yz K a0 (gt a0 a1).s).bind fun r1=>bif r1 then(gg K a0 (gt a0 a1).i).bind fun r2=>bif r2 then(gg K a0 (gt a0 a1).u).bind fun r3=>bif r3 then(gg K a0 (gt a0 a1).v).bind fun r4=>bif !r4 then some false else xu K a0 a1 (gt a0 a1).c (gt a0 a1).a (gt a0 a1).f (gt a0 a1).s (gt a0 a1).t (gt a0 a1).i (gt a0 a1).u (gt a0 a1).v (gt a0 a1).L (gt a0 a1).w (gt a0 a1).x (gt a0 a1).y (gt a0 a1).j else some false else some false else some false else(gg K a0 (gt a0 a1).i).bind fun r21=>bif r21 then(gg K a0 (gt a0 a1).u).bind fun r22=>bif r22 then(gg K a0 (gt a0 a1).v).bind fun r23=>bif !r23 then some false else xu K a0 a1 (gt a0 a1).c (gt a0 a1).a (gt a0 a1).f (gt a0 a1).s (gt a0 a1).t (gt a0 a1).i (gt a0 a1).u (gt a0 a1).v (gt a0 a1).L (gt a0 a1).w (gt a0 a1).x (gt a0 a1).y (gt a0 a1).j else some false else some false else none
def sf:=fd func238 ⟨[.v 35,.v 3],[.v 4],true⟩ (gC (A4o K) (gC (A4p K) (gC (jo K) (gC (Bkb K) gN)))) [15,16,20,21,22,23,27,28,29,30,34,35,36,37,55,56,61,62,63,83,84,89,90,91,100,101,115,116,119,120,121,138,139] [7,15,31,63,127]
def Bkc:E7:=⟨[(0,.v 35),(1,.v 2)],[]⟩
def ka:E7:=⟨[(0,.v 35),(1,.v 2),(5,.p 105)],[(105,.box bu)]⟩
def Bkd:=jn (sf K) 127 Bkc [] (se K) kN
def Bke:=jn (sf K) 63 ka [] (fun a b _ _ _ f _ _ _ j _ _ _ _ _=>xq K a b f j) (kC (Bkd K) kN)
def Bkf:=jn (sf K) 31 ka [] (fun a b _ _ _ f _ _ _ j _ _ _ _ _=>xr K a b f j) (kC (Bke K) kN)
def Bkg:=jn (sf K) 15 ka [] (fun a b _ _ _ f g _ i j _ _ _ _ _=>xt K a b f g i j) (kC (Bkf K) kN)
def Bkh:=jn (sf K) 7 ka [] (xu K) (kC (Bkg K) kN)
def Bki:=ct (sf K) (Azr K) (kC (Bkh K) kN)
def Azs (K:Nat)(v1:Int)(C1:Int->Option Bool):Option Bool:=C1 (A4 v1 1)
def kb (a0:List Fy):Nat->Int->Option Bool
 |0,_=>none
 |n1+1,v1=>bif decide (v1<a0.length)then if 0<=v1/\v1<a0.length then bif (gt a0 v1).c==1 then(Azr K a0 v1).bind fun r2=>bif !r2 then some false else Azs K v1 (kb a0 n1)else Azs K v1 (kb a0 n1)else none else some true
def Azt (a0:List Fy):Option Bool:=kb K a0 K 0
def A5c:=fd func140 ⟨[.v 35],[.v 4],true⟩ (gC (Bki K) gN) [15,16] [105]
def Bkj:=fun(C26:CT wz _)=>jn (A5c K) 105 wz [(26,ar wz C26)] (fun a b=>Azs K b (C26 a)) kN
def Bkk:=lp (A5c K) 26 wz [] (fun n a=>kb K a n) (fun n=>kC (Bkj K _) kN)
def Bkl:=ct (A5c K) (Azt K) (kC (Bkk K K) kN)
def Azu (K:Nat)(v2:Int)(v3 v4 v5:List Int)(C1:Int->Int->List Int->List Int->List Int->Option Int)(v6:Int):Option Int:=C1 v6 (A4 v2 1) v3 v4 v5
def ke (a1:Int):Nat->Int->Int->List Int->List Int->List Int->Option Int
 |0,_,_,_,_,_=>none
 |n1+1,v1,v2,v3,v4,v5=>bif decide (v2<v4.length)then if 0<=v2/\v2<v4.length then bif (gt v4 v2)==a1 then Azu K v2 v3 v4 v5 (ke a1 n1) (A4 v1 1)else Azu K v2 v3 v4 v5 (ke a1 n1) v1 else none else some v1
def Azv (a0:Pc)(a1:Int):Option Int:=ke K a1 K 0 0 a0.g a0.c a0.h
def A5d:=fd func246 ⟨[.v 34,.v 3],[.v 3],true⟩ gN [] [233]
def Azw:E7:=⟨[(1,.v 2),(2,.p 102),(5,.v 2),(6,.v 2)],[(102,.box dm)]⟩
def Bkm:=fun(C58:CT Azw _)=>jn A5d 233 Azw [(58,ar Azw C58)] (fun a b c d e f=>Azu K c d e f (C58 a) b) kN
def Bkn:=lp A5d 58 Azw [] (fun n a=>ke K a n) (fun n=>kC (Bkm K _) kN)
def Bko:=ct A5d (Azv K) (kC (Bkn K K) kN)
def xv (a0:List Fy)(a1:Int):Option Bool:=if 0<=a1/\a1<a0.length then bif (gt a0 a1).c==1 then if 0<=a1/\a1<a0.length then bif (gt a0 a1).s != 0 then(fx K a0 a1).bind fun r1=>some (!r1)else some false else none else some false else none
def Bai:=ct (fd func245 ⟨[.v 35,.v 3],[.v 4],true⟩ (gC (A4p K) gN) [10,11,17,18,19]) (xv K)
def xw (a0:List Fy):Nat->Int->List Int->Option (List Int)
 |0,_,_=>none
 |n1+1,v1,v2=>(Yz K a0 v1).bind fun r3=>bif r3 then bif decide ((v2.length:Int)<a0.length)then if(v2++([(Ap v1 1)]:List Int)).length*8<=140737488355328/\(v2++([(Ap v1 1)]:List Int)).length<=maxLen then if 0<=(Ap v1 1)/\(Ap v1 1)<a0.length then xw a0 n1 (gt a0 (Ap v1 1)).u (v2++([(Ap v1 1)]:List Int))else none else none else some v2 else some v2
def kg (a0:List Fy)(a1:Int):Option (List Int):=xw K a0 K a1 ([]:List Int)
def Baj:=fd func176 ⟨[.v 35,.v 3],[.n 25 true],true⟩ (gC (jo K) gN) [9,10]
def Bkp:=lp (Baj K) 28 h_4 [] (fun n a=>xw K a n) (fun n=>kN)
def xx:=ct (Baj K) (kg K) (kC (Bkp K K) kN)
def nt (v4:Int)(v15:List G9)(v20:List Int)(v21:Int)(C3:List Int->Int->Option Bool):Nat->Int->Option Bool
 |0,_=>none
 |n5+1,v22=>if 0<=v4/\v4<v15.length then bif decide (v22<(((gt v15 v4).L).length:Int))then if 0<=v21/\v21<v15.length then if 0<=v4/\v4<v15.length then if 0<=v22/\v22<(((gt v15 v4).L).length:Int)then(ay K (gt v15 v21).L (gt (gt v15 v4).L v22)).bind fun r23=>bif r23 then some false else nt v4 v15 v20 v21 C3 n5 (A4 v22 1)else none else none else none else C3 v20 (A4 v21 1)else none
def xy (v4:Int)(v15:List G9)(v20:List Int)(v21:Int)(C3:List Int->Int->Option Bool):Option Bool:=nt K v4 v15 v20 v21 (C3) K 0
def kh (v4 v5:Int)(v6 v7:Int)(v8 v9 v10:Int)(v11 v12 v13:List Int)(v14:List Fy)(v15:List G9)(v16:List Int)(v17 v18:Int)(C1:Int->Int->List Int->Int->Int->Int->Int->Int->Int->Int->List Int->List Int->List Int->List Fy->List G9->List Int->Option Bool):Nat->List Int->Int->Option Bool
 |0,_,_=>none
 |n3+1,v20,v21=>bif decide (v21<v4)then if 0<=v4/\v4<v15.length then bif (gt v15 v4).d != 0 then if 0<=v21/\v21<v15.length then if 0<=v4/\v4<v15.length then bif (gt v15 v21).d==(gt v15 v4).d then some false else xy K v4 v15 v20 v21 (kh v4 v5 v6 v7 v8 v9 v10 v11 v12 v13 v14 v15 v16 v17 v18 C1 n3)else none else none else xy K v4 v15 v20 v21 (kh v4 v5 v6 v7 v8 v9 v10 v11 v12 v13 v14 v15 v16 v17 v18 C1 n3)else none else C1 v17 v18 v20 (A4 v4 1) v5 v6 v7 v8 v9 v10 v11 v12 v13 v14 v15 v16
def xz (v3:List Int)(v4 v5:Int)(v6 v7:Int)(v8 v9 v10:Int)(v11 v12 v13:List Int)(v14:List Fy)(v15:List G9)(v16:List Int)(C1:Int->Int->List Int->Int->Int->Int->Int->Int->Int->Int->List Int->List Int->List Int->List Fy->List G9->List Int->Option Bool)(v17 v18:Int):Option Bool:=if 0<=v4/\v4<v15.length then(kg K v14 (gt v15 v4).i).bind fun r19=>if(v3++r19).length*8<=140737488355328/\(v3++r19).length<=maxLen then kh K v4 v5 v6 v7 v8 v9 v10 v11 v12 v13 v14 v15 v16 v17 v18 (C1) K (v3++r19) 0 else none else none
def Azx (K:Nat)(v25:Int)(C6:Int->Int->Option Bool)(v27:Int):Option Bool:=C6 v27 (A4 v25 1)
def ki (v1 v2:Int)(v3 v11:List Int)(v12 v13:List Int)(v14:List Fy)(v24:Int):Nat->Int->Option Bool
 |0,_=>none
 |n8+1,v28=>bif decide (v28<v3.length)then if(0:Int)<=0/\0<=v28/\v28<=v3.length then if 0<=v28/\v28<v3.length then(ay K ((v3.drop (0:Int).toNat).take (v28 - 0).toNat) (gt v3 v28)).bind fun r29=>bif r29 then some false else ki v1 v2 v3 v11 v12 v13 v14 v24 n8 (A4 v28 1)else none else none else(Azv K (Pc.mk v11 v12 v13) 2).bind fun r30=>bif v1==r30 then(rf K v14 2).bind fun r31=>bif v2==r31 then some ((v3.length:Int)==v24)else some false else some false
def dr (v1 v2:Int)(v3 v11:List Int)(v12 v13:List Int)(v14:List Fy):Nat->Int->Int->Option Bool
 |0,_,_=>none
 |n6+1,v24,v25=>bif decide (v25<v14.length)then(xv K v14 v25).bind fun r26=>bif r26 then Azx K v25 (dr v1 v2 v3 v11 v12 v13 v14 n6) (A4 v24 1)else Azx K v25 (dr v1 v2 v3 v11 v12 v13 v14 n6) v24 else ki K v1 v2 v3 v11 v12 v13 v14 v24 K 0
def az:Nat->Int->Int->List Int->Int->Int->Int->Int->Int->Int->Int->List Int->List Int->List Int->List Fy->List G9->List Int->Option Bool
 |0,_,_,_,_,_,_,_,_,_,_,_,_,_,_,_,_=>none
 |n1+1,v1,v2,v3,v4,v5,v6,v7,v8,v9,v10,v11,v12,v13,v14,v15,v16=>bif decide (v4<v15.length)then if 0<=v4/\v4<v15.length then if 0<=v4/\v4<v15.length then bif (gt v15 v4).d != 0 then xz K v3 v4 v5 v6 v7 v8 v9 v10 v11 v12 v13 v14 v15 v16 (az n1) (A4 v1 (((gt v15 v4).L).length:Int)) (A4 v2 1)else xz K v3 v4 v5 v6 v7 v8 v9 v10 v11 v12 v13 v14 v15 v16 (az n1) (A4 v1 (((gt v15 v4).L).length:Int)) v2 else none else none else dr K v1 v2 v3 v11 v12 v13 v14 K 0 0
def Azy (a0:H4):Option Bool:=az K K 0 0 ([]:List Int) 0 a0.C.L a0.C.k a0.C.l a0.C.e a0.C.m a0.C.n a0.Q.g a0.Q.c a0.Q.h a0.o a0.p a0.q
def gh:=fd func148 ⟨[.v 38],[.v 4],true⟩ (gC (xx K) (gC (nl K) (gC (Bai K) (gC (Bko K) (gC (A9j K) gN))))) [60,61,134,135,140,141,142] [4073,8009,2050532]
def Bkq:E7:=⟨[(1,.p 101),(3,.v 2),(4,.v 2),(5,.o 1005 3 true),(6,.v 2),(7,.v 2),(8,.v 2)],[(101,.box W4)]⟩
def si:E7:=⟨[(1,.p 101),(3,.v 2),(4,.v 2),(5,.o 1005 3 true),(6,.v 2),(7,.v 2)],[(101,.box W4)]⟩
def dt:E7:=⟨[(1,.p 101),(3,.v 2),(4,.v 2),(5,.o 1005 3 true),(6,.v 2)],[(101,.box W4)]⟩
def Azz:E7:=⟨[(1,.p 101),(3,.v 2),(4,.v 2),(5,.o 1005 3 true),(9,.v 2),(10,.v 2)],[(101,.box W4)]⟩
def Bkr:E7:=⟨[(1,.p 101),(3,.v 2),(4,.v 2),(5,.o 1005 3 true),(9,.v 2),(11,.v 2)],[(101,.box W4)]⟩
def Bks:=fun(C250:CT dt _) (C128158:CT si _)=>lp (gh K) 16404262 Bkq [(128158,ar si C128158),(250,ar dt C250)] (fun n a b c d e f g h i j k l m o p q r s=>nt K d r c e (fun v20 v21=>C128158 a b v20 d v21 g h i j k l m o p q r s) n f) (fun n=>kN)
def Bkt:=fun(C250:CT dt _) (C128158:CT si _)=>jn (gh K) 2050532 si [(128158,ar si C128158),(250,ar dt C250)] (fun a b c d e f g h i j k l m o p q r=>xy K d q c e (fun v20 v21=>C128158 a b v20 d v21 f g h i j k l m o p q r)) (kC (Bks K _ _ K) kN)
def Bku:=fun(C250:CT dt _)=>lp (gh K) 128158 si [(250,ar dt C250)] (fun n a b c d e f g h i j k l m o p q r=>kh K d f g h i j k l m o p q r a b C250 n c e) (fun n=>kC (Bkt K _ _) kN)
def Bkv:=fun(C250:CT dt _)=>jn (gh K) 8009 dt [(250,ar dt C250)] (fun a b c d e f g h i j k l m o p q=>xz K c d e f g h i j k l m o p q C250 a b) (kC (Bku K _ K) kN)
def Bkw:=fun(C1018:CT Azz _)=>jn (gh K) 4073 Azz [(1018,ar Azz C1018)] (fun a b c d e f g h i j k l m o p q r=>Azx K e (fun v24 v25=>C1018 a b c v24 v25 f g h i j k l m o p q r) d) kN
def Bkx:=lp (gh K) 2042 Bkr [] (fun n a b c d e _ _ _ _ _ _ l m o p _ _=>ki K a b c l m o p d n e) (fun n=>kN)
def Bky:=lp (gh K) 1018 Azz [] (fun n a b c d e _ _ _ _ _ _ l m o p _ _=>dr K a b c l m o p n d e) (fun n=>kC (Bkw K _) (kC (up (Bkx K K)) kN))
def Bkz:=lp (gh K) 250 dt [] (az K) (fun n=>kC (Bkv K _) (kC (up (Bky K K)) kN))
def Bk0:=ct (gh K) (Azy K) (kC (Bkz K K) kN)
def kj (a0:Sv)(v8:List Int):Nat->Int->Option Bool
 |0,_=>none
 |n3+1,v12=>bif decide (v12<v8.length)then if 0<=v12/\v12<v8.length then(V4 K (gt v8 v12) 0 (Ap a0.L 1)).bind fun r13=>bif r13 then if(0:Int)<=0/\0<=v12/\v12<=v8.length then if 0<=v12/\v12<v8.length then(ay K ((v8.drop (0:Int).toNat).take (v12 - 0).toNat) (gt v8 v12)).bind fun r14=>bif r14 then some false else kj a0 v8 n3 (A4 v12 1)else none else none else some false else none else some true
def nu (a0:Sv)(v7 v8:List Int):Nat->Int->Option Bool
 |0,_=>none
 |n2+1,v10=>bif decide (v10<v7.length)then if 0<=v10/\v10<v7.length then(V4 K (gt v7 v10) 0 255).bind fun r11=>bif !r11 then some false else nu a0 v7 v8 n2 (A4 v10 1)else none else kj K a0 v8 K 0
def Az0 (a0:Sv)(v5 v6:Int)(v7 v8:List Int)(v9:Int):Option Bool:=nu K a0 v7 v8 K 0
def Az1 (a0:Sv)(a1:G9):Option Bool:=(bw K a0).bind fun r1=>bif r1 then(V4 K a1.d 0 a0.l).bind fun r2=>bif r2 then(V4 K a1.i 0 a0.l).bind fun r3=>bif r3 then bif decide ((a1.j.length:Int)>6)then some false else(V4 K a1.z 0 (Ap a0.k 1)).bind fun r4=>bif r4 then bif (a1.L.length:Int)==0 then bif a1.z != 0 then some false else Az0 K a0 a1.d a1.i a1.j a1.L a1.z else Az0 K a0 a1.d a1.i a1.j a1.L a1.z else some false else some false else some false else some false
def Az2:=fd func244 ⟨[.v 33,.v 79],[.v 4],true⟩ (gC (jm K) (gC (Xx K) (gC (nl K) gN))) [8,9,10,15,16,17,18,23,24,25,26,30,31,32,38,39,40,41,45,46,81,82,83] [3]
def Bk1:E7:=⟨[(2,.p 102),(3,.p 103),(6,.v 2)],[(103,.box fw),(102,.st 33 true)]⟩
def Bk2:E7:=⟨[(2,.p 102),(3,.p 103),(5,.v 2)],[(103,.box fw),(102,.st 33 true)]⟩
def Bk3:E7:=⟨[(2,.p 102),(3,.p 103)],[(103,.box fw),(102,.st 33 true)]⟩
def Bk4:=lp (Az2 K) 122 Bk1 [] (fun n a _ _ _ e _ g=>kj K g e n a) (fun n=>kN)
def Bk5:=lp (Az2 K) 58 Bk2 [] (fun n a _ _ d e _ g=>nu K g d e n a) (fun n=>kC (up (Bk4 K K)) kN)
def Bk6:=jn (Az2 K) 3 Bk3 [] (fun a b c d e f=>Az0 K f a b c d e) (kC (Bk5 K K) kN)
def Bk7:=ct (Az2 K) (Az1 K) (kC (Bk6 K) kN)
def sj (v17:List Fy)(r21:(List Int)):Nat->Int->Option Bool
 |0,_=>none
 |n4+1,v22=>bif decide (v22<r21.length)then if 0<=v22/\v22<r21.length then(xv K v17 (gt r21 v22)).bind fun r23=>bif !r23 then some false else sj v17 r21 n4 (A4 v22 1)else none else some true
def ny (v4:Int)(v17:List Fy):Option Bool:=(kg K v17 v4).bind fun r21=>sj K v17 r21 K 0
def ya (v3 v4:Int)(v17:List Fy):Option Bool:=bif v3 != 0 then if 0<=(Ap v3 1)/\(Ap v3 1)<v17.length then bif (gt v17 (Ap v3 1)).c != 2 then some false else bif v4 != 0 then if 0<=(Ap v4 1)/\(Ap v4 1)<v17.length then bif (gt v17 (Ap v4 1)).v != 0 then some false else ny K v4 v17 else none else ny K v4 v17 else none else bif v4 != 0 then if 0<=(Ap v4 1)/\(Ap v4 1)<v17.length then bif (gt v17 (Ap v4 1)).v != 0 then some false else ny K v4 v17 else none else ny K v4 v17
def oa:Nat->Int->Int->Int->List Int->List Int->Int->Int->Int->Int->Int->Int->Int->List Int->List Int->List Int->List Fy->List G9->List Int->Option Bool
 |0,_,_,_,_,_,_,_,_,_,_,_,_,_,_,_,_,_,_=>none
 |n1+1,v2,v3,v4,v5,v6,v7,v8,v9,v10,v11,v12,v13,v14,v15,v16,v17,v18,v19=>bif decide (v2<v6.length)then if 0<=v2/\v2<v6.length then if 0<=(gt v6 v2)/\(gt v6 v2)<v15.length then bif (gt v15 (gt v6 v2)) != 2 then some false else oa n1 (A4 v2 1) v3 v4 v5 v6 v7 v8 v9 v10 v11 v12 v13 v14 v15 v16 v17 v18 v19 else none else none else bif decide ((v6.length:Int)>0)then if(0:Int)<=0/\0<(v6.length:Int)then if(0:Int)<=0/\0<(v6.length:Int)then if 0<=(Gx (gt v6 0) v9)/\(Gx (gt v6 0) v9)<=(A4 (Gx (gt v6 0) v9) v7)/\(A4 (Gx (gt v6 0) v9) v7)<=v14.length then(jt K ((v14.drop (Gx (gt v6 0) v9).toNat).take ((A4 (Gx (gt v6 0) v9) v7) - (Gx (gt v6 0) v9)).toNat)).bind fun r20=>bif !r20 then some false else ya K v3 v4 v17 else none else none else none else ya K v3 v4 v17
def Az3 (a0:H4)(a1:Int):Option Bool:=if 0<=a1/\a1<a0.p.length then(Az1 K a0.C (gt a0.p a1)).bind fun r1=>bif !r1 then some false else oa K K 0 (gt a0.p a1).d (gt a0.p a1).i (gt a0.p a1).j (gt a0.p a1).L (gt a0.p a1).z a0.C.L a0.C.k a0.C.l a0.C.e a0.C.m a0.C.n a0.Q.g a0.Q.c a0.Q.h a0.o a0.p a0.q else none
def yb:=fd func146 ⟨[.v 38,.v 3],[.v 4],true⟩ (gC (xx K) (gC (Ayy K) (gC (Bk7 K) (gC (Bai K) gN)))) [40,41,70,71,80,81,82,85,86] [31,63]
def Bk8:E7:=⟨[(2,.p 102),(7,.v 25),(8,.v 2)],[(102,.box W4)]⟩
def Bak:E7:=⟨[(2,.p 102),(5,.p 105)],[(105,.box fw),(102,.box W4)]⟩
def Bk9:E7:=⟨[(2,.p 102),(5,.p 105),(6,.v 2)],[(105,.box fw),(102,.box W4)]⟩
def Bla:=lp (yb K) 2042 Bk8 [] (fun n a b _ _ _ _ _ _ _ _ _ l _ _=>sj K l a n b) (fun n=>kN)
def Blb:=jn (yb K) 63 Bak [] (fun _ b _ _ _ _ _ _ _ _ _ _ _ _ p _ _=>ny K b p) (kC (Bla K K) kN)
def Blc:=jn (yb K) 31 Bak [] (fun a b _ _ _ _ _ _ _ _ _ _ _ _ p _ _=>ya K a b p) (kC (Blb K) kN)
def Bld:=lp (yb K) 122 Bk9 [] (oa K) (fun n=>kC (up (Blc K)) kN)
def Ble:=ct (yb K) (Az3 K) (kC (Bld K K) kN)
def oc (a1:Int)(r1:(List Int)):Nat->Int->Int->Int->Int->Int->Int->Int->List Int->List Int->List Int->List Fy->List G9->List Int->Option Bool
 |0,_,_,_,_,_,_,_,_,_,_,_,_,_=>none
 |n1+1,v2,v3,v4,v5,v6,v7,v8,v9,v10,v11,v12,v13,v14=>bif decide (v2<r1.length)then if 0<=a1/\a1<v12.length then if 0<=v2/\v2<r1.length then(ay K (gt v12 a1).L (gt r1 v2)).bind fun r15=>bif !r15 then some false else oc a1 r1 n1 (A4 v2 1) v3 v4 v5 v6 v7 v8 v9 v10 v11 v12 v13 v14 else none else none else if 0<=a1/\a1<v12.length then some ((r1.length:Int)==(((gt v12 a1).L).length:Int))else none
def Az4 (a0:H4)(a1:Int):Option Bool:=(wm K a0.Q a1).bind fun r1=>oc K a1 r1 K 0 a0.C.L a0.C.k a0.C.l a0.C.e a0.C.m a0.C.n a0.Q.g a0.Q.c a0.Q.h a0.o a0.p a0.q
def Bal:=fd func142 ⟨[.v 38,.v 3],[.v 4],true⟩ (gC (A9h K) (gC (nl K) gN))
def Blf:E7:=⟨[(1,.v 2),(2,.p 102),(5,.v 25),(6,.v 2)],[(102,.box W4)]⟩
def Blg:=lp (Bal K) 58 Blf [] (fun n a b=>oc K a b n) (fun n=>kN)
def Blh:=ct (Bal K) (Az4 K) (kC (Blg K K) kN)
def od (a0:Sv)(v1 v2:Int)(v3 v4:Int)(v5 v6:Int)(v7 v8 v9:Int)(v10:List Int)(v11 v12:Int)(v13:List H3)(v14:List Int)(C1:Int->Int->Int->Int->Int->Int->Int->Int->Int->List Int->Int->Int->List H3->List Int->Option Bool):Nat->Int->H3->Option Bool
 |0,_,_=>none
 |n2+1,v16,v17=>if a0.k≠(0:Int)then bif decide (v16<=(Afg .i64 (Ap (A4 v17.B v17.D) 1) a0.k))then(ay K v10 v16).bind fun r18=>bif !r18 then some false else od a0 v1 v2 v3 v4 v5 v6 v7 v8 v9 v10 v11 v12 v13 v14 C1 n2 (A4 v16 1) v17 else C1 (A4 v1 1) v2 v3 v4 v5 v6 v7 v8 v9 v10 v11 v12 v13 v14 else none
def gk (a0:Sv):Nat->Int->Int->Int->Int->Int->Int->Int->Int->Int->List Int->Int->Int->List H3->List Int->Option Bool
 |0,_,_,_,_,_,_,_,_,_,_,_,_,_,_=>none
 |n1+1,v1,v2,v3,v4,v5,v6,v7,v8,v9,v10,v11,v12,v13,v14=>bif decide (v1<v13.length)then if 0<=v1/\v1<v13.length then(rt K a0 (gt v13 v1)).bind fun r15=>bif !r15 then some false else if a0.k≠(0:Int)then od K a0 v1 v2 v3 v4 v5 v6 v7 v8 v9 v10 v11 v12 v13 v14 (gk a0 n1) K (Afg .i64 (gt v13 v1).B a0.k) (gt v13 v1)else none else none else some true
def Az5 (a0:Sv)(a1:Fy):Option Bool:=gk K a0 K 0 a1.c a1.a a1.f a1.s a1.t a1.i a1.u a1.v a1.L a1.w a1.x a1.y a1.j
def A5e:=fd func143 ⟨[.v 33,.v 77],[.v 4],true⟩ (gC (A97 K) (gC (nl K) gN))
def Bli:E7:=⟨[(2,.p 102),(3,.p 103),(5,.v 2),(6,.p 106),(7,.v 2)],[(106,.st 183 true),(103,.box bu),(102,.st 33 true)]⟩
def Blj:=fun(C26:CT xd _)=>lp (A5e K) 6734 Bli [(26,ar xd C26)] (fun n a b c d e f g h i j k l m o p q r=>od K r a d e f g h i j k l m o p q (fun v1 v2 v3 v4 v5 v6 v7 v8 v9 v10 v11 v12 v13 v14=>C26 v1 v2 v3 v4 v5 v6 v7 v8 v9 v10 v11 v12 v13 v14 r) n b c) (fun n=>kN)
def Bll:=lp (A5e K) 26 xd [] (fun n a b c d e f g h i j k l m o p=>gk K p n a b c d e f g h i j k l m o) (fun n=>kC (Blj K _ K) kN)
def Blm:=ct (A5e K) (Az5 K) (kC (Bll K K) kN)
def Az6 (K:Nat)(a0 a1:H3):Option Bool:=bif decide (a0.D<1)then some true else bif decide (a1.D<1)then some true else bif decide (a0.B<=a1.B)then bif decide ((Ap a1.B a0.B)>=a0.D)then some true else some (decide ((Ap a1.B a0.B)<0))else bif decide ((Ap a0.B a1.B)>=a1.D)then some true else some (decide ((Ap a0.B a1.B)<0))
def Bln:=ct (fd func243 ⟨[.v 183,.v 183],[.v 4],true⟩ gN [7,8,25,26,41,42]) (Az6 K)
def oe (a0:List H3)(v1:Int)(C1:Int->Option Bool):Nat->Int->Option Bool
 |0,_=>none
 |n2+1,v2=>bif decide (v2<v1)then if 0<=v1/\v1<a0.length then if 0<=v2/\v2<a0.length then(Az6 K (gt a0 v1) (gt a0 v2)).bind fun r3=>bif !r3 then some false else oe a0 v1 C1 n2 (A4 v2 1)else none else none else C1 (A4 v1 1)
def gm (a0:List H3):Nat->Int->Option Bool
 |0,_=>none
 |n1+1,v1=>bif decide (v1<a0.length)then oe K a0 v1 (gm a0 n1) K 0 else some true
def Az7 (a0:List H3):Option Bool:=gm K a0 K 0
def A5f:=fd func144 ⟨[.v 75],[.v 4],true⟩ (gC (Bln K) gN)
def Blo:E7:=⟨[(0,.v 75),(3,.v 2),(4,.v 2)],[]⟩
def A5g:E7:=⟨[(0,.v 75),(3,.v 2)],[]⟩
def Blp:=fun(C26:CT A5g _)=>lp (A5f K) 1682 Blo [(26,ar A5g C26)] (fun n a b=>oe K a b (C26 a) n) (fun n=>kN)
def Blq:=lp (A5f K) 26 A5g [] (fun n a=>gm K a n) (fun n=>kC (Blp K _ K) kN)
def Blr:=ct (A5f K) (Az7 K) (kC (Blq K K) kN)
def Az8 (K:Nat)(v1 v2:Int)(v3 v4:Int)(v5 v6:Int)(v7 v8:Int)(v9 v10 v11:Int)(v12:List Int)(v13 v14:Int)(v15:List H3)(v16:List Int)(v17 v18:Int)(v19 v20:Int)(v21 v22:Int)(v23 v24 v25:List Int)(v26:List Fy)(v27:List G9)(v28:List Int)(C1:Int->Int->Int->Int->Int->Int->Int->Int->Int->Int->Int->List Int->Int->Int->List H3->List Int->Int->Int->Int->Int->Int->Int->List Int->List Int->List Int->List Fy->List G9->List Int->Option Bool):Option Bool:=C1 v1 v2 (A4 v3 1) v4 v5 v6 v7 v8 v9 v10 v11 v12 v13 v14 v15 v16 v17 v18 v19 v20 v21 v22 v23 v24 v25 v26 v27 v28
def km:Nat->Int->Int->Int->Int->Int->Int->Int->Int->Int->Int->Int->List Int->Int->Int->List H3->List Int->Int->Int->Int->Int->Int->Int->List Int->List Int->List Int->List Fy->List G9->List Int->Option Bool
 |0,_,_,_,_,_,_,_,_,_,_,_,_,_,_,_,_,_,_,_,_,_,_,_,_,_,_,_,_=>none
 |n1+1,v1,v2,v3,v4,v5,v6,v7,v8,v9,v10,v11,v12,v13,v14,v15,v16,v17,v18,v19,v20,v21,v22,v23,v24,v25,v26,v27,v28=>bif decide (v3<v15.length)then if 0<=v3/\v3<v15.length then bif decide (((gt v15 v3).B)<v2)then bif decide ((A4 (gt v15 v3).B (gt v15 v3).D)>v1)then some false else Az8 K v1 v2 v3 v4 v5 v6 v7 v8 v9 v10 v11 v12 v13 v14 v15 v16 v17 v18 v19 v20 v21 v22 v23 v24 v25 v26 v27 v28 (km n1)else Az8 K v1 v2 v3 v4 v5 v6 v7 v8 v9 v10 v11 v12 v13 v14 v15 v16 v17 v18 v19 v20 v21 v22 v23 v24 v25 v26 v27 v28 (km n1)else none else if 0<=v1/\v1<=v2/\v2<=v23.length then(jt K ((v23.drop v1.toNat).take (v2 - v1).toNat)).bind fun r29=>some r29 else none
def Az9 (a0:H4)(a1:Int):Option Bool:=if 0<=a1/\a1<a0.o.length then bif (gt a0.o a1).w==0 then some true else bif decide ((A4 (Gx (Ap (gt a0.o a1).w 1) a0.C.k) (gt a0.o a1).x)>=(Gx (gt a0.o a1).w a0.C.k))then some true else km K K (A4 (Gx (Ap (gt a0.o a1).w 1) a0.C.k) (gt a0.o a1).x) (Gx (gt a0.o a1).w a0.C.k) 0 (gt a0.o a1).c (gt a0.o a1).a (gt a0.o a1).f (gt a0.o a1).s (gt a0.o a1).t (gt a0.o a1).i (gt a0.o a1).u (gt a0.o a1).v (gt a0.o a1).L (gt a0.o a1).w (gt a0.o a1).x (gt a0.o a1).y (gt a0.o a1).j a0.C.L a0.C.k a0.C.l a0.C.e a0.C.m a0.C.n a0.Q.g a0.Q.c a0.Q.h a0.o a0.p a0.q else none
def A5h:=fd func145 ⟨[.v 38,.v 3],[.v 4],true⟩ (gC (Ayy K) gN) [33,34,54,55] [2025]
def A0a:E7:=⟨[(2,.p 102),(5,.p 105),(6,.v 2),(7,.v 2),(8,.v 2)],[(105,.box bu),(102,.box W4)]⟩
def Bls:=fun(C506:CT A0a _)=>jn (A5h K) 2025 A0a [(506,ar A0a C506)] (fun a b c d e f g h i j k l m o p q r s t u v w x y z a1 b1 c1=>Az8 K a b c d e f g h i j k l m o p q r s t u v w x y z a1 b1 c1 C506) kN
def Blt:=lp (A5h K) 506 A0a [] (km K) (fun n=>kC (Bls K _) kN)
def Blu:=ct (A5h K) (Az9 K) (kC (Blt K K) kN)
def kn (v4 v5:Int)(v6 v7:Int)(v8 v9:Int)(v10 v11 v12:List Int)(v13:List Fy)(v14:List G9)(v15:List Int):Nat->Int->Option Bool
 |0,_=>none
 |n3+1,v23=>bif decide (v23<v15.length)then if 0<=v23/\v23<v15.length then(V4 K (gt v15 v23) 0 255).bind fun r24=>bif !r24 then some false else kn v4 v5 v6 v7 v8 v9 v10 v11 v12 v13 v14 v15 n3 (A4 v23 1)else none else(Azy K (H4.mk (Sv.mk v4 v5 v6 v7 v8 v9) (Pc.mk v10 v11 v12) v13 v14 v15)).bind fun r25=>some r25
def og (v4 v5:Int)(v6 v7:Int)(v8 v9:Int)(v10 v11 v12:List Int)(v13:List Fy)(v14:List G9)(v15:List Int):Nat->Int->Option Bool
 |0,_=>none
 |n2+1,v21=>bif decide (v21<v14.length)then(Az3 K (H4.mk (Sv.mk v4 v5 v6 v7 v8 v9) (Pc.mk v10 v11 v12) v13 v14 v15) v21).bind fun r22=>bif !r22 then some false else og v4 v5 v6 v7 v8 v9 v10 v11 v12 v13 v14 v15 n2 (A4 v21 1)else kn K v4 v5 v6 v7 v8 v9 v10 v11 v12 v13 v14 v15 K 0
def kq:Nat->Int->Int->Int->Int->Int->Int->Int->List Int->List Int->List Int->List Fy->List G9->List Int->Option Bool
 |0,_,_,_,_,_,_,_,_,_,_,_,_,_=>none
 |n1+1,v3,v4,v5,v6,v7,v8,v9,v10,v11,v12,v13,v14,v15=>bif decide (v3<v13.length)then if 0<=v3/\v3<v13.length then(gf K (Sv.mk v4 v5 v6 v7 v8 v9) (gt v13 v3)).bind fun r16=>bif r16 then(Az4 K (H4.mk (Sv.mk v4 v5 v6 v7 v8 v9) (Pc.mk v10 v11 v12) v13 v14 v15) v3).bind fun r17=>bif r17 then if 0<=v3/\v3<v13.length then(Az5 K (Sv.mk v4 v5 v6 v7 v8 v9) (gt v13 v3)).bind fun r18=>bif r18 then if 0<=v3/\v3<v13.length then(Az7 K (gt v13 v3).y).bind fun r19=>bif r19 then(Az9 K (H4.mk (Sv.mk v4 v5 v6 v7 v8 v9) (Pc.mk v10 v11 v12) v13 v14 v15) v3).bind fun r20=>bif !r20 then some false else kq n1 (A4 v3 1) v4 v5 v6 v7 v8 v9 v10 v11 v12 v13 v14 v15 else some false else none else some false else none else some false else some false else none else og K v4 v5 v6 v7 v8 v9 v10 v11 v12 v13 v14 v15 K 0
def oh (a0:H4):Option Bool:=(wq K a0.C a0.Q).bind fun r1=>bif r1 then bif (a0.o.length:Int) != a0.C.l then some false else(Azt K a0.o).bind fun r2=>bif !r2 then some false else kq K K 0 a0.C.L a0.C.k a0.C.l a0.C.e a0.C.m a0.C.n a0.Q.g a0.Q.c a0.Q.h a0.o a0.p a0.q else some false
def A0b:=fd func40 ⟨[.v 38],[.v 4],true⟩ (gC (A9p K) (gC (Bkl K) (gC (ru K) (gC (Blh K) (gC (Blm K) (gC (Blr K) (gC (Blu K) (gC (Ble K) (gC (Xx K) (gC (Bk0 K) gN)))))))))) [10,11,12,19,20,21,41,42,43,46,47,48,49,57,58,59,60,67,68,69,70]
def Blv:E7:=⟨[(1,.p 101),(5,.v 2)],[(101,.box W4)]⟩
def Blw:E7:=⟨[(1,.p 101),(4,.v 2)],[(101,.box W4)]⟩
def Blx:E7:=⟨[(1,.p 101),(3,.v 2)],[(101,.box W4)]⟩
def Bly:=lp (A0b K) 250 Blv [] (fun n a b c d e f g h i j k l m=>kn K b c d e f g h i j k l m n a) (fun n=>kN)
def Blz:=lp (A0b K) 122 Blw [] (fun n a b c d e f g h i j k l m=>og K b c d e f g h i j k l m n a) (fun n=>kC (up (Bly K K)) kN)
def Bl0:=lp (A0b K) 58 Blx [] (kq K) (fun n=>kC (up (Blz K K)) kN)
def A0c:=ct (A0b K) (oh K) (kC (Bl0 K K) kN)
def A0d (a0:Pd):Option Bool:=(wh K a0.P).bind fun r1=>bif r1 then bif decide (a0.f>=0)then some (decide (a0.r>=0))else some false else some false
def Bl1:=ct (fd func385 ⟨[.v 42],[.v 4],true⟩ (gC (A9e K) gN) [5,6,9,10,11]) (A0d K)
def A0e (a0:Fy)(a1:Pd):Option (H3×Bool):=bif a0.c != 1 then some ((H3.mk 0 0 0),false)else bif a0.f != a1.f then some ((H3.mk 0 0 0),false)else(V4 K a1.r 0 (Ap a0.y.length 1)).bind fun r1=>bif !r1 then some ((H3.mk 0 0 0),false)else if 0<=a1.r/\a1.r<a0.y.length then some ((gt a0.y a1.r),true)else none
def Bl2:=ct (fd func386 ⟨[.v 77,.v 42],[.v 183,.v 4],true⟩ (gC (Xx K) gN) [8,9,14,15,16]) (A0e K)
def yc (a0:H4)(a1:Pd):Option (Int×H3×Int):=(A0d K a1).bind fun r1=>bif !r1 then some ((-1),(H3.mk 0 0 0),1)else(fz K a0 a1.P).bind fun r2=>bif r2.2 != 0 then some ((-1),(H3.mk 0 0 0),r2.2)else if 0<=r2.1/\r2.1<a0.o.length then(A0e K (gt a0.o r2.1) a1).bind fun r3=>bif !r3.2 then some ((-1),(H3.mk 0 0 0),2)else some (r2.1,r3.1,0)else none
def Bam:=ct (fd func378 ⟨[.v 38,.v 42],[.v 3,.v 183,.v 3],true⟩ (gC (rb K) (gC (Bl1 K) (gC (Bl2 K) gN)))) (yc K)
def yd (K:Nat)(a0:H3)(a1 a2:Int):Option Bool:=bif decide (a1>=0)then bif decide (a2>=0)then bif decide (a1<=a0.D)then bif decide (a2<=(Ap a0.D a1))then bif decide (a0.B<0)then some true else some (decide ((A4 a0.B a1)>=0))else some false else some false else some false else some false
def Ban:=ct (fd func387 ⟨[.v 183,.v 3,.v 3],[.v 4],true⟩ gN [8,9,11,12,13,17,18,19,25,26,27,30,31]) (yd K)
def ye (K:Nat)(a0:List Int)(a1 a2:Int):Option Bool:=bif decide (a1>=0)then bif decide (a2>=0)then bif decide (a1<=a0.length)then some (decide (a2<=(Ap a0.length a1)))else some false else some false else some false
def Bao:=ct (fd func391 ⟨[.v 24,.v 3,.v 3],[.v 4],true⟩ gN [8,9,11,12,13,17,18,19]) (ye K)
def A0f (a0:List Int)(a1 a2:Int):Option ((List Int)×Bool):=(ye K a0 a1 a2).bind fun r1=>bif !r1 then some (([]:List Int),false)else if 0<=a1/\a1<=(A4 a1 a2)/\(A4 a1 a2)<=a0.length then if(([]:List Int)++((a0.drop a1.toNat).take ((A4 a1 a2) - a1).toNat)).length*1<=140737488355328/\(([]:List Int)++((a0.drop a1.toNat).take ((A4 a1 a2) - a1).toNat)).length<=maxLen then some ((([]:List Int)++((a0.drop a1.toNat).take ((A4 a1 a2) - a1).toNat)),true)else none else none
def Bl3:=ct (fd func388 ⟨[.v 24,.v 3,.v 3],[.n 24 true,.v 4],true⟩ (gC (Bao K) gN)) (A0f K)
def A0g (a0:List Int)(a1:H3)(a2 a3:Int):Option ((List Int)×Bool):=(yd K a1 a2 a3).bind fun r1=>bif !r1 then some (([]:List Int),false)else(A0f K a0 (A4 a1.B a2) a3).bind fun r2=>some (r2.1,r2.2)
def Bl4:=ct (fd func379 ⟨[.v 24,.v 183,.v 3,.v 3],[.n 24 true,.v 4],true⟩ (gC (Ban K) (gC (Bl3 K) gN))) (A0g K)
def A0h (a0:H4)(a1:Pd)(a2 a3:Int):Option (H4×Sw):=(jz K a0).bind fun r1=>(oh K a0).bind fun r2=>bif !r2 then some (r1,(Sw.mk 1 (Lz.mk 0 0) (Pd.mk (Lz.mk 0 0) 0 0) [] 0 0 0))else(yc K a0 a1).bind fun r3=>(dn K a0 a1.P).bind fun r4=>bif r3.2.2 != 0 then some (r1,(Sw.mk r3.2.2 (Lz.mk 0 0) (Pd.mk (Lz.mk 0 0) 0 0) [] r4 0 0))else(A0g K a0.Q.g r3.2.1 a2 a3).bind fun r5=>bif !r5.2 then some (r1,(Sw.mk 7 (Lz.mk 0 0) (Pd.mk (Lz.mk 0 0) 0 0) [] r4 0 0))else some (r1,(Sw.mk r3.2.2 (Lz.mk 0 0) (Pd.mk (Lz.mk 0 0) 0 0) r5.1 r4 0 0))
def Bl5:=ct (fd func358 ⟨[.v 38,.v 42,.v 3,.v 3],[.n 38 true,.n 44 true],false⟩ (gC (A0c K) (gC (xp K) (gC (my K) (gC (Bam K) (gC (Bl4 K) gN))))) [] [] [(7,[.take 114 7 6831]),(11,[.take 114 7 6831])]) (A0h K)
def kr (K:Nat)(a1:Int)(a2:List Int):Nat->List Int->Int->Option ((List Int)×Bool)
 |0,_,_=>none
 |n1+1,v2,v3=>bif decide (v3<a2.length)then if 0<=v3/\v3<a2.length then if 0<=(A4 a1 v3)/\(A4 a1 v3)<v2.length then kr K a1 a2 n1 (v2.set (A4 a1 v3).toNat (gt a2 v3)) (A4 v3 1)else none else none else some (v2,true)
def A0i (a0:List Int)(a1:Int)(a2:List Int):Option ((List Int)×Bool):=if(([]:List Int)++a0).length*1<=140737488355328/\(([]:List Int)++a0).length<=maxLen then(ye K a0 a1 (a2.length:Int)).bind fun r1=>bif !r1 then some ((([]:List Int)++a0),false)else kr K a1 a2 K (([]:List Int)++a0) 0 else none
def Bap:=fd func389 ⟨[.v 24,.v 3,.v 24],[.n 24 true,.v 4],true⟩ (gC (Bao K) gN)
def Bl6:E7:=⟨[(1,.v 2),(2,.v 24),(8,.o 1008 5 true),(9,.v 2)],[]⟩
def Bl7:=lp (Bap K) 122 Bl6 [] (fun n a b=>kr K a b n) (fun n=>kN)
def Bl8:=ct (Bap K) (A0i K) (kC (Bl7 K K) kN)
def A0j (a0:List Int)(a1:H3)(a2:Int)(a3:List Int):Option ((List Int)×Bool):=(yd K a1 a2 (a3.length:Int)).bind fun r1=>bif !r1 then if(([]:List Int)++a0).length*1<=140737488355328/\(([]:List Int)++a0).length<=maxLen then some ((([]:List Int)++a0),false)else none else(A0i K a0 (A4 a1.B a2) a3).bind fun r2=>some (r2.1,r2.2)
def Bl9:=ct (fd func380 ⟨[.v 24,.v 183,.v 3,.v 24],[.n 24 true,.v 4],true⟩ (gC (Ban K) (gC (Bl8 K) gN))) (A0j K)
def A0k (a0:H4)(a1:Pd)(a2:Int)(a3:List Int):Option (H4×Sw):=(jz K a0).bind fun r1=>(oh K a0).bind fun r2=>bif !r2 then some (r1,(Sw.mk 1 (Lz.mk 0 0) (Pd.mk (Lz.mk 0 0) 0 0) [] 0 0 0))else(yc K a0 a1).bind fun r3=>(dn K a0 a1.P).bind fun r4=>bif r3.2.2 != 0 then some (r1,(Sw.mk r3.2.2 (Lz.mk 0 0) (Pd.mk (Lz.mk 0 0) 0 0) [] r4 0 0))else(A0j K a0.Q.g r3.2.1 a2 a3).bind fun r5=>bif !r5.2 then some (r1,(Sw.mk 7 (Lz.mk 0 0) (Pd.mk (Lz.mk 0 0) 0 0) [] r4 0 0))else some ((H4.mk r1.C (Pc.mk r5.1 r1.Q.c r1.Q.h) r1.o r1.p r1.q),(Sw.mk r3.2.2 (Lz.mk 0 0) (Pd.mk (Lz.mk 0 0) 0 0) [] r4 0 0))
def Bma:=ct (fd func359 ⟨[.v 38,.v 42,.v 3,.v 24],[.n 38 true,.n 44 true],false⟩ (gC (A0c K) (gC (xp K) (gC (my K) (gC (Bam K) (gC (Bl9 K) gN))))) [] [] [(7,[.take 114 7 6831]),(11,[.take 114 7 6831]),(13,[.take 114 7 6831])]) (A0k K)
def A0l (K:Nat)(v7:Sw)(v10:H4):Option (H4×Sw):=some (v10,v7)
def yf (a2:Int)(r1:H4)(v6:Int)(v7 v8:Sw)(v9:H4):Option (H4×Sw):=bif v7.F==0 then if 0<=v6/\v6<r1.o.length then if 0<=v6/\v6<r1.o.length then if(((gt r1.o v6).j)++([a2]:List Int)).length*8<=140737488355328/\(((gt r1.o v6).j)++([a2]:List Int)).length<=maxLen then if 0<=v6/\v6<r1.o.length then A0l K v7 (H4.mk r1.C r1.Q (r1.o.set v6.toNat (Fy.mk (gt r1.o v6).c (gt r1.o v6).a (gt r1.o v6).f (gt r1.o v6).s (gt r1.o v6).t (gt r1.o v6).i (gt r1.o v6).u (gt r1.o v6).v (gt r1.o v6).L (gt r1.o v6).w (gt r1.o v6).x (gt r1.o v6).y (((gt r1.o v6).j)++([a2]:List Int)))) r1.p r1.q)else none else none else none else none else A0l K v7 r1
def A0m (a0:H4)(a1:Lz)(a2:Int):Option (H4×Sw):=(jz K a0).bind fun r1=>(oh K a0).bind fun r2=>bif r2 then(V4 K a2 0 255).bind fun r3=>bif !r3 then some (r1,(Sw.mk 1 (Lz.mk 0 0) (Pd.mk (Lz.mk 0 0) 0 0) [] 0 0 0))else(fz K a0 a1).bind fun r4=>(dn K a0 a1).bind fun r5=>bif r4.2==0 then if 0<=r4.1/\r4.1<a0.o.length then bif decide (((gt a0.o r4.1).j.length:Int)>=6)then yf K a2 r1 r4.1 (Sw.mk 8 (Lz.mk 0 0) (Pd.mk (Lz.mk 0 0) 0 0) [] r5 0 0) (Sw.mk 0 (Lz.mk 0 0) (Pd.mk (Lz.mk 0 0) 0 0) [] 0 0 0) (H4.mk (Sv.mk 0 0 0 0 0 0) (Pc.mk [] [] []) [] [] [])else yf K a2 r1 r4.1 (Sw.mk r4.2 (Lz.mk 0 0) (Pd.mk (Lz.mk 0 0) 0 0) [] r5 0 0) (Sw.mk 0 (Lz.mk 0 0) (Pd.mk (Lz.mk 0 0) 0 0) [] 0 0 0) (H4.mk (Sv.mk 0 0 0 0 0 0) (Pc.mk [] [] []) [] [] [])else none else yf K a2 r1 r4.1 (Sw.mk r4.2 (Lz.mk 0 0) (Pd.mk (Lz.mk 0 0) 0 0) [] r5 0 0) (Sw.mk 0 (Lz.mk 0 0) (Pd.mk (Lz.mk 0 0) 0 0) [] 0 0 0) (H4.mk (Sv.mk 0 0 0 0 0 0) (Pc.mk [] [] []) [] [] [])else some (r1,(Sw.mk 1 (Lz.mk 0 0) (Pd.mk (Lz.mk 0 0) 0 0) [] 0 0 0))
def A5i:=fd func360 ⟨[.v 38,.v 40,.v 3],[.n 38 true,.n 44 true],false⟩ (gC (A0c K) (gC (xp K) (gC (Xx K) (gC (rb K) (gC (my K) gN))))) [15,16,17,36,37] [63,127] [(9,[.take 108 9 6737,.opn 6737 (.tmp 9),.takeE 6737 12 87180]),(10,[.take 108 6 6734,.take 108 7 6735,.take 108 8 6736,.take 108 9 6737,.take 108 10 6738,.take 108 11 6739,.take 111 7 6783])]
def Bmb:E7:=⟨[(6,.p 106),(7,.p 107),(8,.p 108),(11,.p 111)],[(111,.st 44 true),(108,.st 38 true),(107,.st 44 true),(106,.st 38 true)]⟩
def Bmc:E7:=⟨[(2,.v 2),(6,.p 106),(7,.p 107),(8,.p 108),(9,.v 2),(11,.p 111)],[(111,.st 44 true),(108,.st 38 true),(107,.st 44 true),(106,.st 38 true)]⟩
def Bmd:=jn (A5i K) 127 Bmb [] (fun a b _ _=>A0l K a b) kN
def Bme:=jn (A5i K) 63 Bmc [] (fun a b c d=>yf K a d b c) (kC (Bmd K) kN)
def Bmf:=ct (A5i K) (A0m K) (kC (Bme K) kN)
def A5j (a0:Sv)(a1:Fy):Option Int:=bif a1.w==0 then some 0 else(gf K a0 a1).bind fun r1=>bif !r1 then some 0 else some (Ap a0.k a1.x)
def Bmg:=ct (fd func381 ⟨[.v 33,.v 77],[.v 3],true⟩ (gC (ru K) gN) [7,8]) (A5j K)
def A0n (K:Nat)(r1:H4)(v6 v7:Sw)(v8:H4):Option (H4×Sw):=some (r1,v6)
def A0o (a0:H4)(a1:Lz):Option (H4×Sw):=(jz K a0).bind fun r1=>(oh K a0).bind fun r2=>bif !r2 then some (r1,(Sw.mk 1 (Lz.mk 0 0) (Pd.mk (Lz.mk 0 0) 0 0) [] 0 0 0))else(fz K a0 a1).bind fun r3=>(dn K a0 a1).bind fun r4=>bif r3.2==0 then if 0<=r3.1/\r3.1<a0.o.length then(A5j K a0.C (gt a0.o r3.1)).bind fun r5=>A0n K r1 (Sw.mk r3.2 (Lz.mk 0 0) (Pd.mk (Lz.mk 0 0) 0 0) ([(IntKind.u8.wrap (((gt a0.o r3.1).L).length:Int)),(IntKind.u8.wrap (((gt a0.o r3.1).y).length:Int)),(IntKind.u8.wrap (((gt a0.o r3.1).j).length:Int)),(IntKind.u8.wrap r5)]:List Int) r4 0 0) (Sw.mk 0 (Lz.mk 0 0) (Pd.mk (Lz.mk 0 0) 0 0) [] 0 0 0) (H4.mk (Sv.mk 0 0 0 0 0 0) (Pc.mk [] [] []) [] [] [])else none else A0n K r1 (Sw.mk r3.2 (Lz.mk 0 0) (Pd.mk (Lz.mk 0 0) 0 0) [] r4 0 0) (Sw.mk 0 (Lz.mk 0 0) (Pd.mk (Lz.mk 0 0) 0 0) [] 0 0 0) (H4.mk (Sv.mk 0 0 0 0 0 0) (Pc.mk [] [] []) [] [] [])
def Baq:=fd func361 ⟨[.v 38,.v 40],[.n 38 true,.n 44 true],false⟩ (gC (A0c K) (gC (xp K) (gC (rb K) (gC (my K) (gC (Bmg K) gN))))) [] [63] [(9,[.take 106 6 6702,.take 106 7 6703,.take 106 8 6704,.take 106 9 6705,.take 106 10 6706,.take 106 11 6707,.take 109 7 6751])]
def Bmh:E7:=⟨[(4,.p 104),(5,.p 105),(6,.p 106),(9,.p 109)],[(109,.st 44 true),(106,.st 38 true),(105,.st 44 true),(104,.st 38 true)]⟩
def Bmi:=jn (Baq K) 63 Bmh [] (fun a b=>A0n K b a) kN
def Bmj:=ct (Baq K) (A0o K) (kC (Bmi K) kN)
def A0p (a0:H4)(a1:H5):Option (H4×Sw):=bif a1.I==3 then(A0h K a0 a1.b a1.J a1.K).bind fun r1=>some (r1.1,r1.2)else bif a1.I==4 then(A0k K a0 a1.b a1.J a1.A).bind fun r2=>some (r2.1,r2.2)else bif a1.I==5 then(A0m K a0 a1.P a1.J).bind fun r3=>some (r3.1,r3.2)else bif a1.I==8 then(A0o K a0 a1.P).bind fun r4=>some (r4.1,r4.2)else(jz K a0).bind fun r5=>some (r5,(Sw.mk 1 (Lz.mk 0 0) (Pd.mk (Lz.mk 0 0) 0 0) [] 0 0 0))
def Bmk:=ct (fd func311 ⟨[.v 38,.v 55],[.n 38 true,.n 44 true],false⟩ (gC (xp K) (gC (Bl5 K) (gC (Bma K) (gC (Bmf K) (gC (Bmj K) gN)))))) (A0p K)
def A5k (K:Nat)(v31 v32:Int)(v33 v34:Int)(v35 v36:Int)(v37 v38 v39:List Int)(v40:List Fy)(v41:List G9)(v42:List Int)(v43:Sw):Option (Sw×H4):=some (v43,(H4.mk (Sv.mk v31 v32 v33 v34 v35 v36) (Pc.mk v37 v38 v39) v40 v41 v42))
def yg (v4:Bool)(v5 v6:Int)(v7 v8:Int)(v9 v10:Int)(v11 v12 v13:List Int)(v14:List Fy)(v15:List G9)(v16:List Int)(v17:Sw)(v18 v19:Int)(v20 v21:Int)(v22 v23:Int)(v24 v25 v26:Int)(v27:List Int):Option (Sw×H4):=bif v4 then(fz K (H4.mk (Sv.mk v5 v6 v7 v8 v9 v10) (Pc.mk v11 v12 v13) v14 v15 v16) (Lz.mk v19 v20)).bind fun r28=>(dn K (H4.mk (Sv.mk v5 v6 v7 v8 v9 v10) (Pc.mk v11 v12 v13) v14 v15 v16) (Lz.mk v19 v20)).bind fun r29=>bif r28.2 != 0 then some ((Sw.mk r28.2 (Lz.mk 0 0) (Pd.mk (Lz.mk 0 0) 0 0) [] r29 0 0),(H4.mk (Sv.mk v5 v6 v7 v8 v9 v10) (Pc.mk v11 v12 v13) v14 v15 v16))else bif v18==6 then(Azm K (H4.mk (Sv.mk v5 v6 v7 v8 v9 v10) (Pc.mk v11 v12 v13) v14 v15 v16) r28.1).bind fun r30=>A5k K r30.C.L r30.C.k r30.C.l r30.C.e r30.C.m r30.C.n r30.Q.g r30.Q.c r30.Q.h r30.o r30.p r30.q (Sw.mk r28.2 (Lz.mk 0 0) (Pd.mk (Lz.mk 0 0) 0 0) [] r29 0 0)else(Azp K (H4.mk (Sv.mk v5 v6 v7 v8 v9 v10) (Pc.mk v11 v12 v13) v14 v15 v16) r28.1).bind fun r44=>A5k K r44.C.L r44.C.k r44.C.l r44.C.e r44.C.m r44.C.n r44.Q.g r44.Q.c r44.Q.h r44.o r44.p r44.q (Sw.mk r28.2 (Lz.mk 0 0) (Pd.mk (Lz.mk 0 0) 0 0) [] r29 0 0)else(A0p K (H4.mk (Sv.mk v5 v6 v7 v8 v9 v10) (Pc.mk v11 v12 v13) v14 v15 v16) (H5.mk v18 (Lz.mk v19 v20) (Pd.mk (Lz.mk v21 v22) v23 v24) v25 v26 v27)).bind fun r45=>some (r45.2,r45.1)
def A0q (a0:H4)(a1:H5):Option (Sw×H4):=bif a1.I==1 then(Azd K a0 a1.P).bind fun r1=>some (r1.1,r1.2)else bif a1.I==2 then(Azk K a0 a1.P a1.J a1.K).bind fun r2=>some (r2.1,r2.2)else bif a1.I==9 then(xg K a0 4000).bind fun r3=>some ((Sw.mk 0 (Lz.mk 0 0) (Pd.mk (Lz.mk 0 0) 0 0) [] 0 0 r3.1),r3.2)else bif a1.I==6 then yg K (a1.I==6) a0.C.L a0.C.k a0.C.l a0.C.e a0.C.m a0.C.n a0.Q.g a0.Q.c a0.Q.h a0.o a0.p a0.q (Sw.mk 0 (Lz.mk 0 0) (Pd.mk (Lz.mk 0 0) 0 0) [] 0 0 0) a1.I a1.P.d a1.P.a a1.b.P.d a1.b.P.a a1.b.f a1.b.r a1.J a1.K a1.A else yg K (a1.I==7) a0.C.L a0.C.k a0.C.l a0.C.e a0.C.m a0.C.n a0.Q.g a0.Q.c a0.Q.h a0.o a0.p a0.q (Sw.mk 0 (Lz.mk 0 0) (Pd.mk (Lz.mk 0 0) 0 0) [] 0 0 0) a1.I a1.P.d a1.P.a a1.b.P.d a1.b.P.a a1.b.f a1.b.r a1.J a1.K a1.A
def A5l:=fd func253 ⟨[.b 38 false,.v 55],[.v 44],false⟩ (gC (A5a K) (gC (Bjl K) (gC (Bjy K) (gC (rb K) (gC (my K) (gC (Bj0 K) (gC (Bj7 K) (gC (Bmk K) gN)))))))) [] [1727,55287] [(10,[.take 1 6 5022,.take 1 7 5023,.take 1 8 5024,.take 1 9 5025,.take 1 10 5026,.take 1 11 5027]),(13,[.take 107 7 6719]),(15,[.put 1]),(16,[.put 1]),(17,[.take 107 7 6719]),(18,[.take 1 6 5022,.take 1 7 5023,.take 1 8 5024,.take 1 9 5025,.take 1 10 5026,.take 1 11 5027,.frz 5022,.frz 5023,.frz 5024,.frz 5025,.frz 5026,.frz 5027])]
def Bml:E7:=⟨[(4,.p 104),(7,.p 107)],[(1,.box ae),(107,.st 44 true),(104,.st 44 true)]⟩
def Bmm:E7:=⟨[(0,.p 1),(3,.p 103),(4,.p 104),(33,.v 4)],[(1,.box ae),(104,.st 44 true),(103,.box [.v 2,.v 2,.v 2,.v 2,.v 2,.v 2,.v 2,.v 2,.v 2,.v 24])]⟩
def Bmn:=jn (A5l K) 55287 Bml [] (fun a b c d e f g h i j k l m _=>A5k K a b c d e f g h i j k l m) kN
def Bmo:=jn (A5l K) 1727 Bmm [] (yg K) (kC (Bmn K) kN)
def Bmp:=ct (A5l K) (A0q K) (kC (Bmo K) kN)
def yh:Nat->List H5->Int->List Int->Int->Int->H4->Sv->H4->Sv->Option (Sv×(List H5)×H4×Sx)
 |0,_,_,_,_,_,_,_,_,_=>none
 |n1+1,v4,v5,v6,v7,v8,v9,v10,v11,v12=>bif decide (v5>0)then bif decide ((v4.length:Int)<200)then(wg K (Sx.mk v6 v7 v8) v9).bind fun r13=>if r13.2.2.1.length=v9.Q.g.length/\r13.2.2.2.1.length=v9.Q.c.length/\r13.2.2.2.2.1.length=v9.Q.h.length/\r13.2.2.2.2.2.1.length=v9.o.length/\r13.2.2.2.2.2.2.1.length=v9.p.length/\r13.2.2.2.2.2.2.2.length=v9.q.length then if(v4++([r13.1]:List H5)).length*96<=140737488355328/\(v4++([r13.1]:List H5)).length<=maxLen then(A0q K (H4.mk v9.C (Pc.mk r13.2.2.1 r13.2.2.2.1 r13.2.2.2.2.1) r13.2.2.2.2.2.1 r13.2.2.2.2.2.2.1 r13.2.2.2.2.2.2.2) r13.1).bind fun r14=>yh n1 (v4++([r13.1]:List H5)) (Ap v5 1) r13.2.1.fb r13.2.1.fi r13.2.1.fh r14.2 v10 v11 v12 else none else none else some (v10,v4,v9,(Sx.mk v6 v7 v8))else some (v10,v4,v9,(Sx.mk v6 v7 v8))
def A0r (a0:Sx)(a1:Int):Option (Sv×(List H5)×H4×Sx):=(vi K a0).bind fun r1=>(Amy K r1.1).bind fun r2=>(P2 K r1.2 a1).bind fun r3=>yh K K ([]:List H5) (A4 4 r3.1) r3.2.fb r3.2.fi r3.2.fh r2 r1.1 (H4.mk (Sv.mk 0 0 0 0 0 0) (Pc.mk [] [] []) [] [] []) (Sv.mk 0 0 0 0 0 0)
def Bar:=fd func157 ⟨[.b 171 false,.v 3],[.v 33,.n 81 false,.n 38 false],false⟩ (gC (Bg2 K) (gC (A9d K) (gC (Yq K) (gC (A84 K) (gC (Bmp K) gN))))) [22,23] [] [(4,[.put 108,.take 108 10 6738,.shal 6738,.put 108,.shal 1009]),(7,[.take 108 6 6734,.take 108 7 6735,.take 108 8 6736,.take 108 9 6737,.take 108 10 6738,.take 108 11 6739]),(9,[.put 108]),(10,[.take 108 6 6734,.take 108 7 6735,.take 108 8 6736,.take 108 9 6737,.take 108 10 6738,.take 108 11 6739])] [(32,[.frz 3032])]
def Bmq:E7:=⟨[(0,.p 1),(4,.p 104),(6,.p 106),(7,.p 107),(8,.p 108),(9,.o 1009 55 false),(10,.v 2)],[(1,.box X5),(108,.st 38 false),(107,.st 33 true),(106,.st 38 true),(104,.st 33 true)]⟩
def Bmr:=lp (Bar K) 250 Bmq [] (yh K) (fun n=>kN)
def Bms:=ct (Bar K) (A0r K) (kC (Bmr K K) kN)
def yi (a0:Sx)(a1:Int):Option (H4×Sx):=(A0r K a0 a1).bind fun r1=>some (r1.2.2.1,r1.2.2.2)
def Bas:=ct (fd func112 ⟨[.b 171 false,.v 3],[.n 38 false],false⟩ (gC (Bms K) gN)) (yi K)
def A0s (a0:List Int):Option (H4×H5):=(vg K a0).bind fun r1=>(vh K a0 50).bind fun r2=>(yi K r1 (A4 20 r2)).bind fun r3=>(wg K r3.2 r3.1).bind fun r4=>if r4.2.2.1.length=r3.1.Q.g.length/\r4.2.2.2.1.length=r3.1.Q.c.length/\r4.2.2.2.2.1.length=r3.1.Q.h.length/\r4.2.2.2.2.2.1.length=r3.1.o.length/\r4.2.2.2.2.2.2.1.length=r3.1.p.length/\r4.2.2.2.2.2.2.2.length=r3.1.q.length then some ((H4.mk r3.1.C (Pc.mk r4.2.2.1 r4.2.2.2.1 r4.2.2.2.2.1) r4.2.2.2.2.2.1 r4.2.2.2.2.2.2.1 r4.2.2.2.2.2.2.2),r4.1)else none
def Bmt:=ct (fd func23 ⟨[.v 24],[.n 38 false,.n 55 true],false⟩ (gC (A81 K) (gC (Bas K) (gC (Bgs K) (gC (A9d K) gN))))) (A0s K)
def gp (K:Nat)(v4:List Int)(v5 v6:Int)(v7 v8:Sv):Option (Sv×Sx):=some (v7,(Sx.mk v4 v5 v6))
def A0t (a0:Sx):Option (Sv×Sx):=(vi K a0).bind fun r1=>(P2 K r1.2 14).bind fun r2=>bif r2.1==0 then(Xc K r2.2 ([1,2,12,13]:List Int)).bind fun r3=>if r3.2.2.length=([1,2,12,13]:List Int).length then gp K r3.2.1.fb r3.2.1.fi r3.2.1.fh (Sv.mk r3.1 r1.1.k r1.1.l r1.1.e r1.1.m r1.1.n) (Sv.mk 0 0 0 0 0 0)else none else bif r2.1==1 then(Xc K r2.2 ([7,8,16,17]:List Int)).bind fun r9=>if r9.2.2.length=([7,8,16,17]:List Int).length then gp K r9.2.1.fb r9.2.1.fi r9.2.1.fh (Sv.mk r1.1.L r9.1 r1.1.l r1.1.e r1.1.m r1.1.n) (Sv.mk 0 0 0 0 0 0)else none else bif r2.1==2 then(Xc K r2.2 ([1,8,9]:List Int)).bind fun r10=>if r10.2.2.length=([1,8,9]:List Int).length then gp K r10.2.1.fb r10.2.1.fi r10.2.1.fh (Sv.mk r1.1.L r1.1.k r10.1 r1.1.e r1.1.m r1.1.n) (Sv.mk 0 0 0 0 0 0)else none else bif r2.1==3 then(Xc K r2.2 ([0,8,9]:List Int)).bind fun r11=>if r11.2.2.length=([0,8,9]:List Int).length then gp K r11.2.1.fb r11.2.1.fi r11.2.1.fh (Sv.mk r1.1.L r1.1.k r1.1.l r11.1 r1.1.m r1.1.n) (Sv.mk 0 0 0 0 0 0)else none else bif r2.1==4 then(Xc K r2.2 ([0,17]:List Int)).bind fun r12=>if r12.2.2.length=([0,17]:List Int).length then gp K r12.2.1.fb r12.2.1.fi r12.2.1.fh (Sv.mk r1.1.L r1.1.k r1.1.l r1.1.e r12.1 r1.1.n) (Sv.mk 0 0 0 0 0 0)else none else bif r2.1==5 then(Xc K r2.2 ([0,5]:List Int)).bind fun r13=>if r13.2.2.length=([0,5]:List Int).length then gp K r13.2.1.fb r13.2.1.fi r13.2.1.fh (Sv.mk r1.1.L r1.1.k r1.1.l r1.1.e r1.1.m r13.1) (Sv.mk 0 0 0 0 0 0)else none else gp K r2.2.fb r2.2.fi r2.2.fh r1.1 (Sv.mk 0 0 0 0 0 0)
def Bat:=fd func127 ⟨[.b 171 false],[.v 33],false⟩ (gC (Yq K) (gC (jl K) (gC (A84 K) gN))) [] [7]
def Bmu:E7:=⟨[(2,.p 102),(3,.p 103)],[(1,.box X5),(103,.st 33 true),(102,.st 33 true)]⟩
def Bmv:=jn (Bat K) 7 Bmu [] (gp K) kN
def Bmw:=ct (Bat K) (A0t K) (kC (Bmv K) kN)
def yj (a1:Sv)(v4:List Int)(v5 v6:Int)(v7:H3):Option (H3×Sx):=(P2 K (Sx.mk v4 v5 v6) a1.L).bind fun r8=>(P2 K r8.2 a1.k).bind fun r9=>(P2 K r9.2 (Ap a1.k r9.1)).bind fun r10=>some ((H3.mk (A4 (Gx r8.1 a1.k) r9.1) (A4 1 r10.1) 0),r10.2)
def A0u (a0:Sx)(a1:Sv):Option (H3×Sx):=(ca K a0 4).bind fun r1=>bif r1.1 then bif decide (a1.L>2)then(P2 K r1.2 (Ap a1.L 1)).bind fun r2=>(P2 K r2.2 a1.k).bind fun r3=>some ((H3.mk (Gx a1.k r2.1) (A4 (A4 a1.k 1) r3.1) 2),r3.2)else yj K a1 r1.2.fb r1.2.fi r1.2.fh (H3.mk 0 0 0)else yj K a1 r1.2.fb r1.2.fi r1.2.fh (H3.mk 0 0 0)
def Bau:=fd func340 ⟨[.b 171 false,.v 33],[.v 183],false⟩ (gC (Yq K) (gC (vq K) gN)) [8,9] [3]
def Bmx:E7:=⟨[(0,.p 1),(3,.p 103),(4,.p 104)],[(1,.box X5),(104,.st 183 true),(103,.st 33 true)]⟩
def Bmy:=jn (Bau K) 3 Bmx [] (fun a b c d e=>yj K e a b c d) kN
def Bmz:=ct (Bau K) (A0u K) (kC (Bmy K) kN)
def yk:Nat->Int->List Int->Int->Int->Fy->Option (Fy×Sx)
 |0,_,_,_,_,_=>none
 |n4+1,v25,v26,v27,v28,v29=>bif decide (v25>0)then(P2 K (Sx.mk v26 v27 v28) 256).bind fun r30=>if(v29.j++([r30.1]:List Int)).length*8<=140737488355328/\(v29.j++([r30.1]:List Int)).length<=maxLen then yk n4 (Ap v25 1) r30.2.fb r30.2.fi r30.2.fh (Fy.mk v29.c v29.a v29.f v29.s v29.t v29.i v29.u v29.v v29.L v29.w v29.x v29.y (v29.j++([r30.1]:List Int)))else none else some (v29,(Sx.mk v26 v27 v28))
def yl (a1:Sv):Nat->Int->List Int->Int->Int->Fy->Option (Fy×Sx)
 |0,_,_,_,_,_=>none
 |n3+1,v18,v19,v20,v21,v22=>bif decide (v18>0)then(A0u K (Sx.mk v19 v20 v21) a1).bind fun r23=>if(v22.y++([r23.1]:List H3)).length*24<=140737488355328/\(v22.y++([r23.1]:List H3)).length<=maxLen then yl a1 n3 (Ap v18 1) r23.2.fb r23.2.fi r23.2.fh (Fy.mk v22.c v22.a v22.f v22.s v22.t v22.i v22.u v22.v v22.L v22.w v22.x (v22.y++([r23.1]:List H3)) v22.j)else none else(P2 K (Sx.mk v19 v20 v21) 3).bind fun r24=>yk K K r24.1 r24.2.fb r24.2.fi r24.2.fh v22
def ym (a1:Sv)(v13:List Int)(v14 v15:Int)(v16:Fy):Option (Fy×Sx):=(P2 K (Sx.mk v13 v14 v15) 3).bind fun r17=>yl K a1 K r17.1 r17.2.fb r17.2.fi r17.2.fh v16
def yn (a1:Sv):Nat->Int->List Int->Int->Int->Fy->Fy->Option (Fy×Sx)
 |0,_,_,_,_,_,_=>none
 |n1+1,v6,v7,v8,v9,v10,v11=>bif decide (v6>0)then if(v10.L++([(Ap v6 1)]:List Int)).length*8<=140737488355328/\(v10.L++([(Ap v6 1)]:List Int)).length<=maxLen then yn a1 n1 (Ap v6 1) v7 v8 v9 (Fy.mk v10.c v10.a v10.f v10.s v10.t v10.i v10.u v10.v (v10.L++([(Ap v6 1)]:List Int)) v10.w v10.x v10.y v10.j) v11 else none else bif decide ((v10.L.length:Int)>0)then if(0:Int)<=0/\0<(v10.L.length:Int)then(P2 K (Sx.mk v7 v8 v9) (A4 a1.k 1)).bind fun r12=>ym K a1 r12.2.fb r12.2.fi r12.2.fh (Fy.mk v10.c v10.a v10.f v10.s v10.t v10.i v10.u v10.v v10.L (A4 (gt v10.L 0) 1) r12.1 v10.y v10.j)else none else ym K a1 v7 v8 v9 v10
def A0v (a0:Sx)(a1:Sv):Option (Fy×Sx):=(P2 K a0 a1.n).bind fun r1=>(bz K (A4 1 r1.1)).bind fun r2=>(P2 K r1.2 4).bind fun r3=>bif r3.1 != 1 then some ((Fy.mk r3.1 r2.a r2.f r2.s r2.t r2.i r2.u r2.v r2.L r2.w r2.x r2.y r2.j),r3.2)else(P2 K r3.2 3).bind fun r4=>(P2 K r4.2 3).bind fun r5=>yn K a1 K r5.1 r5.2.fb r5.2.fi r5.2.fh (Fy.mk r3.1 r2.a r4.1 r2.s r2.t r2.i r2.u r2.v r2.L r2.w r2.x r2.y r2.j) (Fy.mk 0 0 0 0 0 0 0 0 [] 0 0 [] [])
def yo:=fd func299 ⟨[.b 171 false,.v 33],[.n 77 false],false⟩ (gC (Yq K) (gC (vk K) (gC (Bmz K) gN))) [] [127] [(9,[.take 105 8 6688]),(10,[.take 105 8 6688]),(17,[.take 105 11 6691]),(21,[.take 105 12 6692]),(22,[.take 105 8 6688,.take 105 11 6691,.take 105 12 6692])]
def Bm0:E7:=⟨[(0,.p 1),(4,.p 104),(5,.p 105),(9,.v 2)],[(1,.box X5),(105,.st 77 false),(104,.st 77 false)]⟩
def Bav:E7:=⟨[(0,.p 1),(3,.p 103),(4,.p 104),(5,.p 105),(7,.v 2)],[(1,.box X5),(105,.st 77 false),(104,.st 77 false),(103,.st 33 true)]⟩
def Bm1:E7:=⟨[(0,.p 1),(3,.p 103),(4,.p 104),(5,.p 105)],[(1,.box X5),(105,.st 77 false),(104,.st 77 false),(103,.st 33 true)]⟩
def Bm2:E7:=⟨[(0,.p 1),(3,.p 103),(4,.p 104),(5,.p 105),(6,.v 2)],[(1,.box X5),(105,.st 77 false),(104,.st 77 false),(103,.st 33 true)]⟩
def Bm3:=lp (yo K) 4090 Bm0 [] (fun n a b c d e _=>yk K n a b c d e) (fun n=>kN)
def Bm4:=lp (yo K) 2042 Bav [] (fun n a b c d e _ g=>yl K g n a b c d e) (fun n=>kC (up (Bm3 K K)) kN)
def Bm5:=jn (yo K) 127 Bm1 [] (fun a b c d _ f=>ym K f a b c d) (kC (Bm4 K K) kN)
def Bm6:=lp (yo K) 506 Bm2 [] (fun n a b c d e f g=>yn K g n a b c d e f) (fun n=>kC (up (Bm5 K)) kN)
def Bm7:=ct (yo K) (A0v K) (kC (Bm6 K K) kN)
def cg (K:Nat)(v4:List Int)(v5 v6:Int)(v7 v8:Fy):Option (Fy×Sx):=some (v7,(Sx.mk v4 v5 v6))
def A0w (a0:Sx)(a1:Sv):Option (Fy×Sx):=(A0v K a0 a1).bind fun r1=>(P2 K r1.2 14).bind fun r2=>bif r2.1==0 then(P2 K r2.2 6).bind fun r3=>cg K r3.2.fb r3.2.fi r3.2.fh (Fy.mk (Ap r3.1 1) r1.1.a r1.1.f r1.1.s r1.1.t r1.1.i r1.1.u r1.1.v r1.1.L r1.1.w r1.1.x r1.1.y r1.1.j) (Fy.mk 0 0 0 0 0 0 0 0 [] 0 0 [] [])else bif r2.1==1 then(Xc K r2.2 ([0,4,5]:List Int)).bind fun r9=>if r9.2.2.length=([0,4,5]:List Int).length then cg K r9.2.1.fb r9.2.1.fi r9.2.1.fh (Fy.mk r1.1.c r9.1 r1.1.f r1.1.s r1.1.t r1.1.i r1.1.u r1.1.v r1.1.L r1.1.w r1.1.x r1.1.y r1.1.j) (Fy.mk 0 0 0 0 0 0 0 0 [] 0 0 [] [])else none else bif r2.1==2 then(Xc K r2.2 ([(-1),1,8,9]:List Int)).bind fun r10=>if r10.2.2.length=([(-1),1,8,9]:List Int).length then cg K r10.2.1.fb r10.2.1.fi r10.2.1.fh (Fy.mk r1.1.c r1.1.a r1.1.f r10.1 r1.1.t r1.1.i r1.1.u r1.1.v r1.1.L r1.1.w r1.1.x r1.1.y r1.1.j) (Fy.mk 0 0 0 0 0 0 0 0 [] 0 0 [] [])else none else bif r2.1==3 then(Xc K r2.2 ([0,12,(-1)]:List Int)).bind fun r11=>if r11.2.2.length=([0,12,(-1)]:List Int).length then if(r1.1.L++([r11.1]:List Int)).length*8<=140737488355328/\(r1.1.L++([r11.1]:List Int)).length<=maxLen then cg K r11.2.1.fb r11.2.1.fi r11.2.1.fh (Fy.mk r1.1.c r1.1.a r1.1.f r1.1.s r1.1.t r1.1.i r1.1.u r1.1.v (r1.1.L++([r11.1]:List Int)) r1.1.w r1.1.x r1.1.y r1.1.j) (Fy.mk 0 0 0 0 0 0 0 0 [] 0 0 [] [])else none else none else bif r2.1==4 then(P2 K r2.2 4).bind fun r12=>cg K r12.2.fb r12.2.fi r12.2.fh (Fy.mk r1.1.c r1.1.a r1.1.f r1.1.s r1.1.t r1.1.i r1.1.u r1.1.v r1.1.L r12.1 r1.1.x r1.1.y r1.1.j) (Fy.mk 0 0 0 0 0 0 0 0 [] 0 0 [] [])else bif r2.1==5 then(Xc K r2.2 ([0,8,17,(-1)]:List Int)).bind fun r13=>if r13.2.2.length=([0,8,17,(-1)]:List Int).length then cg K r13.2.1.fb r13.2.1.fi r13.2.1.fh (Fy.mk r1.1.c r1.1.a r1.1.f r1.1.s r1.1.t r1.1.i r1.1.u r1.1.v r1.1.L r1.1.w r13.1 r1.1.y r1.1.j) (Fy.mk 0 0 0 0 0 0 0 0 [] 0 0 [] [])else none else bif r2.1==6 then(Xc K r2.2 ([255,256,(-1)]:List Int)).bind fun r14=>if r14.2.2.length=([255,256,(-1)]:List Int).length then if(r1.1.j++([r14.1]:List Int)).length*8<=140737488355328/\(r1.1.j++([r14.1]:List Int)).length<=maxLen then cg K r14.2.1.fb r14.2.1.fi r14.2.1.fh (Fy.mk r1.1.c r1.1.a r1.1.f r1.1.s r1.1.t r1.1.i r1.1.u r1.1.v r1.1.L r1.1.w r1.1.x r1.1.y (r1.1.j++([r14.1]:List Int))) (Fy.mk 0 0 0 0 0 0 0 0 [] 0 0 [] [])else none else none else bif r2.1==7 then(P2 K r2.2 100).bind fun r15=>(P2 K r15.2 20).bind fun r16=>(P2 K r16.2 3).bind fun r17=>if(r1.1.y++([(H3.mk r15.1 r16.1 r17.1)]:List H3)).length*24<=140737488355328/\(r1.1.y++([(H3.mk r15.1 r16.1 r17.1)]:List H3)).length<=maxLen then cg K r17.2.fb r17.2.fi r17.2.fh (Fy.mk r1.1.c r1.1.a r1.1.f r1.1.s r1.1.t r1.1.i r1.1.u r1.1.v r1.1.L r1.1.w r1.1.x (r1.1.y++([(H3.mk r15.1 r16.1 r17.1)]:List H3)) r1.1.j) (Fy.mk 0 0 0 0 0 0 0 0 [] 0 0 [] [])else none else cg K r2.2.fb r2.2.fi r2.2.fh r1.1 (Fy.mk 0 0 0 0 0 0 0 0 [] 0 0 [] [])
def Baw:=fd func230 ⟨[.b 171 false,.v 33],[.n 77 false],false⟩ (gC (Yq K) (gC (jl K) (gC (Bm7 K) gN))) [] [7] [(19,[.take 105 8 6688,.take 105 11 6691,.take 105 12 6692])]
def Bm8:E7:=⟨[(4,.p 104),(5,.p 105)],[(1,.box X5),(105,.st 77 false),(104,.st 77 false)]⟩
def Bm9:=jn (Baw K) 7 Bm8 [] (cg K) kN
def Bna:=ct (Baw K) (A0w K) (kC (Bm9 K) kN)
def yp:Nat->Int->List Int->Int->Int->Fy->Option (Fy×Sx)
 |0,_,_,_,_,_=>none
 |n3+1,v23,v24,v25,v26,v27=>bif decide (v23>0)then(P2 K (Sx.mk v24 v25 v26) 256).bind fun r28=>if(v27.j++([r28.1]:List Int)).length*8<=140737488355328/\(v27.j++([r28.1]:List Int)).length<=maxLen then yp n3 (Ap v23 1) r28.2.fb r28.2.fi r28.2.fh (Fy.mk v27.c v27.a v27.f v27.s v27.t v27.i v27.u v27.v v27.L v27.w v27.x v27.y (v27.j++([r28.1]:List Int)))else none else some (v27,(Sx.mk v24 v25 v26))
def yq (v18:List Int)(v19 v20:Int)(v21:Fy):Option (Fy×Sx):=(P2 K (Sx.mk v18 v19 v20) 3).bind fun r22=>yp K K r22.1 r22.2.fb r22.2.fi r22.2.fh v21
def yr (a1:Sv):Nat->Int->List Int->Int->Int->Fy->Fy->Option (Fy×Sx)
 |0,_,_,_,_,_,_=>none
 |n1+1,v7,v8,v9,v10,v11,v12=>bif decide (v7>0)then(P2 K (Sx.mk v8 v9 v10) 5).bind fun r13=>(Xc K r13.2 ([1,2,4]:List Int)).bind fun r14=>if r14.2.2.length=([1,2,4]:List Int).length then(xk K a1 v11 (A4 1 r13.1) r14.1).bind fun r15=>yr a1 n1 (Ap v7 1) r14.2.1.fb r14.2.1.fi r14.2.1.fh r15.1 v12 else none else(ca K (Sx.mk v8 v9 v10) 3).bind fun r16=>bif r16.1 then(nq K a1 v11 2 (A4 a1.k 1)).bind fun r17=>yq K r16.2.fb r16.2.fi r16.2.fh r17.1 else yq K r16.2.fb r16.2.fi r16.2.fh v11
def A0x (a0:Sx)(a1:Sv):Option (Fy×Sx):=(P2 K a0 a1.n).bind fun r1=>(bz K (A4 1 r1.1)).bind fun r2=>(P2 K r1.2 2).bind fun r3=>(P2 K r3.2 2).bind fun r4=>(rx K a1 (Fy.mk 1 r2.a r3.1 r2.s r2.t r2.i r2.u r2.v r2.L r2.w r2.x r2.y r2.j) r4.1).bind fun r5=>(P2 K r4.2 4).bind fun r6=>yr K a1 K r6.1 r6.2.fb r6.2.fi r6.2.fh r5.1 (Fy.mk 0 0 0 0 0 0 0 0 [] 0 0 [] [])
def A0y:=fd func341 ⟨[.b 171 false,.v 33],[.n 77 false],false⟩ (gC (Yq K) (gC (jl K) (gC (vq K) (gC (vk K) (gC (A49 K) (gC (Bae K) (gC (Bac K) gN))))))) [] [255] [(9,[.take 105 8 6688,.take 105 11 6691,.take 105 12 6692]),(11,[.take 105 8 6688,.take 105 11 6691,.take 105 12 6692]),(15,[.take 105 12 6692]),(16,[.take 105 8 6688,.take 105 11 6691,.take 105 12 6692])]
def Bnb:E7:=⟨[(0,.p 1),(4,.p 104),(5,.p 105),(8,.v 2)],[(1,.box X5),(105,.st 77 false),(104,.st 77 false)]⟩
def Bnc:E7:=⟨[(0,.p 1),(4,.p 104),(5,.p 105)],[(1,.box X5),(105,.st 77 false),(104,.st 77 false)]⟩
def Bnd:=lp (A0y K) 4090 Bnb [] (fun n a b c d e _=>yp K n a b c d e) (fun n=>kN)
def Bne:=jn (A0y K) 255 Bnc [] (fun a b c d _=>yq K a b c d) (kC (Bnd K K) kN)
def Bnf:=lp (A0y K) 1018 Bav [] (fun n a b c d e f g=>yr K g n a b c d e f) (fun n=>kC (up (Bne K)) kN)
def Bng:=ct (A0y K) (A0x K) (kC (Bnf K K) kN)
def A0z (K:Nat)(v12:List Int)(v13 v14:Int)(v15:G9):Option (G9×Sx):=some (v15,(Sx.mk v12 v13 v14))
def yt (v6:List Int)(v7 v8:Int)(v9 v10:G9):Option (G9×Sx):=(ca K (Sx.mk v6 v7 v8) 4).bind fun r11=>bif r11.1 then A0z K r11.2.fb r11.2.fi r11.2.fh (G9.mk v9.d v9.i ([]:List Int) ([]:List Int) 0)else A0z K r11.2.fb r11.2.fi r11.2.fh v9
def A00 (a0:Sx)(a1:Sv):Option (G9×Sx):=(A0x K a0 a1).bind fun r1=>(P2 K r1.2 (A4 a1.l 1)).bind fun r2=>(jv K r1.1 r2.1).bind fun r3=>(P2 K r2.2 3).bind fun r4=>bif decide ((r3.L.length:Int)>0)then(P2 K r4.2 a1.k).bind fun r5=>yt K r5.2.fb r5.2.fi r5.2.fh (G9.mk r3.d r4.1 r3.j r3.L r5.1) (G9.mk 0 0 [] [] 0)else yt K r4.2.fb r4.2.fi r4.2.fh (G9.mk r3.d r4.1 r3.j r3.L r3.z) (G9.mk 0 0 [] [] 0)
def A5m:=fd func300 ⟨[.b 171 false,.v 33],[.n 79 true],false⟩ (gC (Yq K) (gC (vq K) (gC (Ay3 K) (gC (Bng K) gN)))) [] [15,31] [(9,[.take 105 2 6682,.take 105 3 6683])]
def Bax:E7:=⟨[(4,.p 104),(5,.p 105)],[(1,.box X5),(105,.st 79 true),(104,.st 79 true)]⟩
def Bnh:E7:=⟨[(0,.p 1),(4,.p 104),(5,.p 105)],[(1,.box X5),(105,.st 79 true),(104,.st 79 true)]⟩
def Bni:=jn (A5m K) 31 Bax [] (fun a b c d _=>A0z K a b c d) kN
def Bnj:=jn (A5m K) 15 Bnh [] (yt K) (kC (Bni K) kN)
def Bnk:=ct (A5m K) (A00 K) (kC (Bnj K) kN)
def kt (K:Nat)(v4:List Int)(v5 v6:Int)(v7 v8:G9):Option (G9×Sx):=some (v7,(Sx.mk v4 v5 v6))
def A01 (a0:Sx)(a1:Sv):Option (G9×Sx):=(A00 K a0 a1).bind fun r1=>(P2 K r1.2 10).bind fun r2=>bif r2.1==0 then(Xc K r2.2 ([(-1),0,8,9]:List Int)).bind fun r3=>if r3.2.2.length=([(-1),0,8,9]:List Int).length then kt K r3.2.1.fb r3.2.1.fi r3.2.1.fh (G9.mk r3.1 r1.1.i r1.1.j r1.1.L r1.1.z) (G9.mk 0 0 [] [] 0)else none else bif r2.1==1 then(Xc K r2.2 ([(-1),9,0]:List Int)).bind fun r9=>if r9.2.2.length=([(-1),9,0]:List Int).length then kt K r9.2.1.fb r9.2.1.fi r9.2.1.fh (G9.mk r1.1.d r9.1 r1.1.j r1.1.L r1.1.z) (G9.mk 0 0 [] [] 0)else none else bif r2.1==2 then(Xc K r2.2 ([(-1),0,8,16]:List Int)).bind fun r10=>if r10.2.2.length=([(-1),0,8,16]:List Int).length then kt K r10.2.1.fb r10.2.1.fi r10.2.1.fh (G9.mk r1.1.d r1.1.i r1.1.j r1.1.L r10.1) (G9.mk 0 0 [] [] 0)else none else bif r2.1==3 then(Xc K r2.2 ([(-1),255,256]:List Int)).bind fun r11=>if r11.2.2.length=([(-1),255,256]:List Int).length then if(r1.1.j++([r11.1]:List Int)).length*8<=140737488355328/\(r1.1.j++([r11.1]:List Int)).length<=maxLen then kt K r11.2.1.fb r11.2.1.fi r11.2.1.fh (G9.mk r1.1.d r1.1.i (r1.1.j++([r11.1]:List Int)) r1.1.L r1.1.z) (G9.mk 0 0 [] [] 0)else none else none else bif r2.1==4 then(Xc K r2.2 ([(-1),0,12]:List Int)).bind fun r12=>if r12.2.2.length=([(-1),0,12]:List Int).length then if(r1.1.L++([r12.1]:List Int)).length*8<=140737488355328/\(r1.1.L++([r12.1]:List Int)).length<=maxLen then kt K r12.2.1.fb r12.2.1.fi r12.2.1.fh (G9.mk r1.1.d r1.1.i r1.1.j (r1.1.L++([r12.1]:List Int)) r1.1.z) (G9.mk 0 0 [] [] 0)else none else none else kt K r2.2.fb r2.2.fi r2.2.fh r1.1 (G9.mk 0 0 [] [] 0)
def Bay:=fd func231 ⟨[.b 171 false,.v 33],[.n 79 true],false⟩ (gC (Yq K) (gC (jl K) (gC (Bnk K) gN))) [] [7] [(13,[.take 105 2 6682,.take 105 3 6683])]
def Bnl:=jn (Bay K) 7 Bax [] (kt K) kN
def Bnm:=ct (Bay K) (A01 K) (kC (Bnl K) kN)
def Yr (K:Nat)(v5:List Int)(v6 v7:Int)(v8 v9:Int)(v10 v11:Int)(v12 v13:Int)(v14 v15 v16:List Int)(v17:List Fy)(v18:List G9)(v19:List Int)(v20 v21:Int)(v22 v23:Int)(v24 v25:Int)(v26 v27 v28:List Int)(v29:List Fy)(v30:List G9)(v31:List Int):Option (H4×Sx):=some ((H4.mk (Sv.mk v8 v9 v10 v11 v12 v13) (Pc.mk v14 v15 v16) v17 v18 v19),(Sx.mk v5 v6 v7))
def A02 (a0:Sx)(a1:Int):Option (H4×Sx):=(yi K a0 a1).bind fun r1=>(P2 K r1.2 (r1.1.o.length:Int)).bind fun r2=>(P2 K r2.2 40).bind fun r3=>bif r3.1==0 then(A0t K r3.2).bind fun r4=>Yr K r4.2.fb r4.2.fi r4.2.fh r4.1.L r4.1.k r4.1.l r4.1.e r4.1.m r4.1.n r1.1.Q.g r1.1.Q.c r1.1.Q.h r1.1.o r1.1.p r1.1.q 0 0 0 0 0 0 [] [] [] [] [] []else bif r3.1==1 then(P2 K r3.2 (r1.1.Q.c.length:Int)).bind fun r32=>(P2 K r32.2 4).bind fun r33=>if 0<=r32.1/\r32.1<r1.1.Q.c.length then Yr K r33.2.fb r33.2.fi r33.2.fh r1.1.C.L r1.1.C.k r1.1.C.l r1.1.C.e r1.1.C.m r1.1.C.n r1.1.Q.g (r1.1.Q.c.set r32.1.toNat r33.1) r1.1.Q.h r1.1.o r1.1.p r1.1.q 0 0 0 0 0 0 [] [] [] [] [] []else none else bif r3.1==2 then(P2 K r3.2 (r1.1.Q.g.length:Int)).bind fun r34=>if 0<=r34.1/\r34.1<r1.1.Q.g.length then Yr K r34.2.fb r34.2.fi r34.2.fh r1.1.C.L r1.1.C.k r1.1.C.l r1.1.C.e r1.1.C.m r1.1.C.n (r1.1.Q.g.set r34.1.toNat 9) r1.1.Q.c r1.1.Q.h r1.1.o r1.1.p r1.1.q 0 0 0 0 0 0 [] [] [] [] [] []else none else bif r3.1==3 then(A0w K r3.2 r1.1.C).bind fun r35=>if 0<=r2.1/\r2.1<r1.1.o.length then Yr K r35.2.fb r35.2.fi r35.2.fh r1.1.C.L r1.1.C.k r1.1.C.l r1.1.C.e r1.1.C.m r1.1.C.n r1.1.Q.g r1.1.Q.c r1.1.Q.h (r1.1.o.set r2.1.toNat r35.1) r1.1.p r1.1.q 0 0 0 0 0 0 [] [] [] [] [] []else none else bif r3.1==4 then(P2 K r3.2 4).bind fun r36=>if 0<=r2.1/\r2.1<r1.1.o.length then Ax5 (r1.1.o.set r2.1.toNat (Fy.mk r36.1 (gt r1.1.o r2.1).a (gt r1.1.o r2.1).f (gt r1.1.o r2.1).s (gt r1.1.o r2.1).t (gt r1.1.o r2.1).i (gt r1.1.o r2.1).u (gt r1.1.o r2.1).v (gt r1.1.o r2.1).L (gt r1.1.o r2.1).w (gt r1.1.o r2.1).x (gt r1.1.o r2.1).y (gt r1.1.o r2.1).j)) fun v37=>Yr K r36.2.fb r36.2.fi r36.2.fh r1.1.C.L r1.1.C.k r1.1.C.l r1.1.C.e r1.1.C.m r1.1.C.n r1.1.Q.g r1.1.Q.c r1.1.Q.h v37 r1.1.p r1.1.q 0 0 0 0 0 0 [] [] [] [] [] []else none else bif r3.1==5 then(P2 K r3.2 4).bind fun r38=>if 0<=r2.1/\r2.1<r1.1.o.length then Ax5 (r1.1.o.set r2.1.toNat (Fy.mk (gt r1.1.o r2.1).c (gt r1.1.o r2.1).a (gt r1.1.o r2.1).f r38.1 (gt r1.1.o r2.1).t (gt r1.1.o r2.1).i (gt r1.1.o r2.1).u (gt r1.1.o r2.1).v (gt r1.1.o r2.1).L (gt r1.1.o r2.1).w (gt r1.1.o r2.1).x (gt r1.1.o r2.1).y (gt r1.1.o r2.1).j)) fun v39=>Yr K r38.2.fb r38.2.fi r38.2.fh r1.1.C.L r1.1.C.k r1.1.C.l r1.1.C.e r1.1.C.m r1.1.C.n r1.1.Q.g r1.1.Q.c r1.1.Q.h v39 r1.1.p r1.1.q 0 0 0 0 0 0 [] [] [] [] [] []else none else bif r3.1==6 then if 0<=r2.1/\r2.1<r1.1.o.length then if 0<=r2.1/\r2.1<r1.1.o.length then Ax5 (r1.1.o.set r2.1.toNat (Fy.mk (gt r1.1.o r2.1).c (gt r1.1.o r2.1).a (A4 (gt r1.1.o r2.1).f 1) (gt r1.1.o r2.1).s (gt r1.1.o r2.1).t (gt r1.1.o r2.1).i (gt r1.1.o r2.1).u (gt r1.1.o r2.1).v (gt r1.1.o r2.1).L (gt r1.1.o r2.1).w (gt r1.1.o r2.1).x (gt r1.1.o r2.1).y (gt r1.1.o r2.1).j)) fun v40=>Yr K r3.2.fb r3.2.fi r3.2.fh r1.1.C.L r1.1.C.k r1.1.C.l r1.1.C.e r1.1.C.m r1.1.C.n r1.1.Q.g r1.1.Q.c r1.1.Q.h v40 r1.1.p r1.1.q 0 0 0 0 0 0 [] [] [] [] [] []else none else none else bif r3.1==7 then(A01 K r3.2 r1.1.C).bind fun r41=>if(r1.1.p++[r41.1]).length*72<=140737488355328/\(r1.1.p++[r41.1]).length<=maxLen then Yr K r41.2.fb r41.2.fi r41.2.fh r1.1.C.L r1.1.C.k r1.1.C.l r1.1.C.e r1.1.C.m r1.1.C.n r1.1.Q.g r1.1.Q.c r1.1.Q.h r1.1.o (r1.1.p++[r41.1]) r1.1.q 0 0 0 0 0 0 [] [] [] [] [] []else none else bif r3.1==8 then bif decide ((r1.1.p.length:Int)>0)then if(0:Int)<=1/\1<=(r1.1.p.length:Int)/\(r1.1.p.length:Int)<=r1.1.p.length then Yr K r3.2.fb r3.2.fi r3.2.fh r1.1.C.L r1.1.C.k r1.1.C.l r1.1.C.e r1.1.C.m r1.1.C.n r1.1.Q.g r1.1.Q.c r1.1.Q.h r1.1.o ((r1.1.p.drop (1:Int).toNat).take ((r1.1.p.length:Int) - 1).toNat) r1.1.q 0 0 0 0 0 0 [] [] [] [] [] []else none else Yr K r3.2.fb r3.2.fi r3.2.fh r1.1.C.L r1.1.C.k r1.1.C.l r1.1.C.e r1.1.C.m r1.1.C.n r1.1.Q.g r1.1.Q.c r1.1.Q.h r1.1.o r1.1.p r1.1.q 0 0 0 0 0 0 [] [] [] [] [] []else bif r3.1==9 then(Xc K r3.2 ([0,255,256,(-1)]:List Int)).bind fun r42=>if r42.2.2.length=([0,255,256,(-1)]:List Int).length then if(r1.1.q++([r42.1]:List Int)).length*8<=140737488355328/\(r1.1.q++([r42.1]:List Int)).length<=maxLen then Yr K r42.2.1.fb r42.2.1.fi r42.2.1.fh r1.1.C.L r1.1.C.k r1.1.C.l r1.1.C.e r1.1.C.m r1.1.C.n r1.1.Q.g r1.1.Q.c r1.1.Q.h r1.1.o r1.1.p (r1.1.q++([r42.1]:List Int)) 0 0 0 0 0 0 [] [] [] [] [] []else none else none else bif r3.1==10 then if 0<=r2.1/\r2.1<r1.1.o.length then if 0<=r2.1/\r2.1<r1.1.o.length then(P2 K r3.2 60).bind fun r43=>if(((gt r1.1.o r2.1).y)++([(H3.mk r43.1 2 0)]:List H3)).length*24<=140737488355328/\(((gt r1.1.o r2.1).y)++([(H3.mk r43.1 2 0)]:List H3)).length<=maxLen then if 0<=r2.1/\r2.1<r1.1.o.length then Yr K r43.2.fb r43.2.fi r43.2.fh r1.1.C.L r1.1.C.k r1.1.C.l r1.1.C.e r1.1.C.m r1.1.C.n r1.1.Q.g r1.1.Q.c r1.1.Q.h (r1.1.o.set r2.1.toNat (Fy.mk (gt r1.1.o r2.1).c (gt r1.1.o r2.1).a (gt r1.1.o r2.1).f (gt r1.1.o r2.1).s (gt r1.1.o r2.1).t (gt r1.1.o r2.1).i (gt r1.1.o r2.1).u (gt r1.1.o r2.1).v (gt r1.1.o r2.1).L (gt r1.1.o r2.1).w (gt r1.1.o r2.1).x (((gt r1.1.o r2.1).y)++([(H3.mk r43.1 2 0)]:List H3)) (gt r1.1.o r2.1).j)) r1.1.p r1.1.q 0 0 0 0 0 0 [] [] [] [] [] []else none else none else none else none else bif r3.1==11 then(P2 K r3.2 4).bind fun r44=>if 0<=r2.1/\r2.1<r1.1.o.length then Ax5 (r1.1.o.set r2.1.toNat (Fy.mk (gt r1.1.o r2.1).c (gt r1.1.o r2.1).a (gt r1.1.o r2.1).f (gt r1.1.o r2.1).s (gt r1.1.o r2.1).t (gt r1.1.o r2.1).i r44.1 (gt r1.1.o r2.1).v (gt r1.1.o r2.1).L (gt r1.1.o r2.1).w (gt r1.1.o r2.1).x (gt r1.1.o r2.1).y (gt r1.1.o r2.1).j)) fun v45=>Yr K r44.2.fb r44.2.fi r44.2.fh r1.1.C.L r1.1.C.k r1.1.C.l r1.1.C.e r1.1.C.m r1.1.C.n r1.1.Q.g r1.1.Q.c r1.1.Q.h v45 r1.1.p r1.1.q 0 0 0 0 0 0 [] [] [] [] [] []else none else bif r3.1==12 then bif decide ((r1.1.p.length:Int)>0)then(P2 K r3.2 9).bind fun r46=>if(0:Int)<=0/\0<(r1.1.p.length:Int)then Yr K r46.2.fb r46.2.fi r46.2.fh r1.1.C.L r1.1.C.k r1.1.C.l r1.1.C.e r1.1.C.m r1.1.C.n r1.1.Q.g r1.1.Q.c r1.1.Q.h r1.1.o (r1.1.p.set (0:Int).toNat (G9.mk (gt r1.1.p 0).d (gt r1.1.p 0).i (gt r1.1.p 0).j (gt r1.1.p 0).L r46.1)) r1.1.q 0 0 0 0 0 0 [] [] [] [] [] []else none else Yr K r3.2.fb r3.2.fi r3.2.fh r1.1.C.L r1.1.C.k r1.1.C.l r1.1.C.e r1.1.C.m r1.1.C.n r1.1.Q.g r1.1.Q.c r1.1.Q.h r1.1.o r1.1.p r1.1.q 0 0 0 0 0 0 [] [] [] [] [] []else Yr K r3.2.fb r3.2.fi r3.2.fh r1.1.C.L r1.1.C.k r1.1.C.l r1.1.C.e r1.1.C.m r1.1.C.n r1.1.Q.g r1.1.Q.c r1.1.Q.h r1.1.o r1.1.p r1.1.q 0 0 0 0 0 0 [] [] [] [] [] []
def Baz:=fd func132 ⟨[.b 171 false,.v 3],[.v 38],false⟩ (gC (Bas K) (gC (Bmw K) (gC (Yq K) (gC (jl K) (gC (Bna K) (gC (Bnm K) gN)))))) [] [15] [(29,[.opn 20387 (.tmp 6),.takeE 20387 11 64779])] [(104,[.put 3104,.shal 3104]),(114,[.frzT 114])]
def Bnn:E7:=⟨[(4,.p 104),(5,.p 105)],[(1,.box X5),(105,.box W4),(104,.box W4)]⟩
def Bno:=jn (Baz K) 15 Bnn [] (Yr K) kN
def Bnp:=ct (Baz K) (A02 K) (kC (Bno K) kN)
def sk (a0:List Int)(a1:Int):Option (Sx×H4):=(vg K a0).bind fun r1=>(A02 K r1 a1).bind fun r2=>some (r2.2,r2.1)
def A5n:=ct (fd func130 ⟨[.v 24,.v 3],[.p 171 false,.v 38],false⟩ (gC (A81 K) (gC (Bnp K) gN))) (sk K)
def A03 (a0:List Int):Option (H4×Int):=(sk K a0 60).bind fun r1=>(P2 K r1.1 5).bind fun r2=>some (r1.2,(Ap r2.1 1))
def Bnq:=ct (fd func69 ⟨[.v 24],[.v 38,.v 3],false⟩ (gC (A5n K) (gC (Yq K) gN))) (A03 K)
def A04 (a0:List Int):Option (H4×Int):=(sk K a0 50).bind fun r1=>(P2 K r1.1 7).bind fun r2=>some (r1.2,(Ap r2.1 1))
def Bnr:=ct (fd func70 ⟨[.v 24],[.v 38,.v 3],false⟩ (gC (A5n K) (gC (Yq K) gN))) (A04 K)
def A5o (a0:List Int):Option (H4×Int):=(sk K a0 50).bind fun r1=>(P2 K r1.1 7).bind fun r2=>some (r1.2,(Ap r2.1 1))
def Bns:=ct (fd func71 ⟨[.v 24],[.v 38,.v 3],false⟩ (gC (A5n K) (gC (Yq K) gN))) (A5o K)
def Xd (K:Nat)(a0 a1 a2:Int):Option Bool:=bif decide (a0>=a1)then some (decide (a0<=a2))else some false
def ba:=ct (fd func156 ⟨[.v 3,.v 3,.v 3],[.v 4],true⟩ gN [9,10]) (Xd K)
def A05 (a0 a1:Int):Option Int:=(Xd K a0 0 1000000000).bind fun r1=>bif r1 then(Xd K a1 1 1000000000).bind fun r2=>bif !r2 then some 0 else if a1≠(0:Int)then some (Afg .i64 (Ap (A4 a0 a1) 1) a1)else none else some 0
def Ba0:=ct (fd func321 ⟨[.v 3,.v 3],[.v 3],true⟩ (gC (ba K) gN) [6,7,8]) (A05 K)
def A06 (a0:Sv)(a1:Int):Option Int:=(A05 K a1 a0.m).bind fun r1=>some r1
def Bnt:=ct (fd func277 ⟨[.v 33,.v 3],[.v 3],true⟩ (gC (Ba0 K) gN)) (A06 K)
def A07 (K:Nat)(v2 v3:Int)(v4 v5:Int)(v6 v7:List Int)(v8:Int)(C1:Int->Int->Int->Int->Int->List Int->List Int->Int->Option Int)(v10:Int):Option Int:=C1 v10 v2 (A4 v3 1) v4 v5 v6 v7 v8
def oi (a0:Sv):Nat->Int->Int->Int->Int->Int->List Int->List Int->Int->Option Int
 |0,_,_,_,_,_,_,_,_=>none
 |n1+1,v1,v2,v3,v4,v5,v6,v7,v8=>bif decide (v3<v2)then bif v3==0 then(A06 K a0 (Ap a0.k v8)).bind fun r9=>A07 K v2 v3 v4 v5 v6 v7 v8 (oi a0 n1) (A4 v1 r9)else(A06 K a0 a0.k).bind fun r11=>A07 K v2 v3 v4 v5 v6 v7 v8 (oi a0 n1) (A4 v1 r11)else some v1
def yu (a0:Sv)(a1:G9):Option Int:=oi K a0 K (A4 a1.j.length 1) (a1.L.length:Int) 0 a1.d a1.i a1.j a1.L a1.z
def A5p:=fd func179 ⟨[.v 33,.v 79],[.v 3],true⟩ (gC (Bnt K) gN) [] [467]
def A08:E7:=⟨[(2,.p 102),(3,.p 103),(5,.v 2),(13,.v 2),(14,.v 2)],[(103,.box fw),(102,.st 33 true)]⟩
def Bnu:=fun(C58:CT A08 _)=>jn (A5p K) 467 A08 [(58,ar A08 C58)] (fun a b c d e f g h i=>A07 K b c d e f g h (fun v1 v2 v3 v4 v5 v6 v7 v8=>C58 v1 v2 v3 v4 v5 v6 v7 v8 i) a) kN
def Bnv:=lp (A5p K) 58 A08 [] (fun n a b c d e f g h i=>oi K i n a b c d e f g h) (fun n=>kC (Bnu K _) kN)
def Ba1:=ct (A5p K) (yu K) (kC (Bnv K K) kN)
def af (a0:List Fy)(a1:Int):Option Bool:=(Xd K a1 0 (Ap a0.length 1)).bind fun r1=>some r1
def gq:=ct (fd func118 ⟨[.v 35,.v 3],[.v 4],true⟩ (gC (ba K) gN)) (af K)
def yv (a0:List Fy):Nat->List Int->Int->Option (List Int)
 |0,_,_=>none
 |n1+1,v1,v2=>(af K a0 v2).bind fun r3=>bif r3 then bif decide ((v1.length:Int)<a0.length)then if(v1++([v2]:List Int)).length*8<=140737488355328/\(v1++([v2]:List Int)).length<=maxLen then if 0<=v2/\v2<a0.length then yv a0 n1 (v1++([v2]:List Int)) (Ap (gt a0 v2).u 1)else none else none else some v1 else some v1
def ol (a0:List Fy)(a1:Int):Option (List Int):=yv K a0 K ([]:List Int) (Ap a1 1)
def Ba2:=fd func174 ⟨[.v 35,.v 3],[.n 25 true],true⟩ (gC (gq K) gN) [12,13]
def Bnw:E7:=⟨[(0,.v 35),(5,.o 1005 3 true),(6,.v 2)],[]⟩
def Bnx:=lp (Ba2 K) 58 Bnw [] (fun n a=>yv K a n) (fun n=>kN)
def A09:=ct (Ba2 K) (ol K) (kC (Bnx K K) kN)
def ah (K:Nat)(a0:List Int):Option (List Int):=bif a0.isEmpty then Aag (some []) ((if(([]:List Int)++a0).length*8<=140737488355328/\(([]:List Int)++a0).length<=maxLen then some (([]:List Int)++a0)else none))else if(([]:List Int)++a0).length*8<=140737488355328/\(([]:List Int)++a0).length<=maxLen then some (([]:List Int)++a0)else none
def sl:=ct (fd func210 ⟨[.v 25],[.n 25 true],true⟩ gN) (ah K)
def sm (a0:Fy)(a1:Int):Option G9:=(ah K a0.j).bind fun r1=>(ah K a0.L).bind fun r2=>some (G9.mk a1 a0.i r1 r2 0)
def Ba3:=ct (fd func203 ⟨[.v 77,.v 3],[.n 79 true],true⟩ (gC (sl K) gN)) (sm K)
def A1a (K:Nat)(Rc:H4->List Int->List Bool->Option (Int×(List Bool)))(v3 v4:Int)(v5 v6:Int)(v7 v8:Int)(v9 v10:Int)(v11 v12 v13:List Int)(v14:List Fy)(v15:List G9)(v16:List Int)(C1:List Bool->Int->Int->Int->Int->Int->Int->Int->Int->Int->List Int->List Int->List Int->List Fy->List G9->List Int->Option (Int×(List Bool)))(v17:List Bool)(v18:Int):Option (Int×(List Bool)):=C1 v17 v18 v3 (A4 v4 1) v5 v6 v7 v8 v9 v10 v11 v12 v13 v14 v15 v16
def om (Rc:H4->List Int->List Bool->Option (Int×(List Bool)))(a1:List Int):Nat->List Bool->Int->Int->Int->Int->Int->Int->Int->Int->Int->List Int->List Int->List Int->List Fy->List G9->List Int->Option (Int×(List Bool))
 |0,_,_,_,_,_,_,_,_,_,_,_,_,_,_,_,_=>none
 |n1+1,v1,v2,v3,v4,v5,v6,v7,v8,v9,v10,v11,v12,v13,v14,v15,v16=>bif decide (v4<v3)then if 0<=v4/\v4<a1.length then if 0<=(gt a1 v4)/\(gt a1 v4)<v1.length then bif gt v1 (gt a1 v4)then A1a K Rc v3 v4 v5 v6 v7 v8 v9 v10 v11 v12 v13 v14 v15 v16 (om Rc a1 n1) v1 v2 else if 0<=(gt a1 v4)/\(gt a1 v4)<v1.length then if 0<=(gt a1 v4)/\(gt a1 v4)<v14.length then(sm K (gt v14 (gt a1 v4)) 0).bind fun r19=>(yu K (Sv.mk v5 v6 v7 v8 v9 v10) r19).bind fun r20=>if 0<=(gt a1 v4)/\(gt a1 v4)<v14.length then(ol K v14 (gt v14 (gt a1 v4)).i).bind fun r21=>(Rc (H4.mk (Sv.mk v5 v6 v7 v8 v9 v10) (Pc.mk v11 v12 v13) v14 v15 v16) r21 (v1.set (gt a1 v4).toNat true)).bind fun r22=>if r22.2.length=(v1.set (gt a1 v4).toNat true).length then A1a K Rc v3 v4 v5 v6 v7 v8 v9 v10 v11 v12 v13 v14 v15 v16 (om Rc a1 n1) r22.2 (A4 v2 (A4 (A4 1 r20) r22.1))else none else none else none else none else none else none else some (v2,v1)
def A5q (Rc:H4->List Int->List Bool->Option (Int×(List Bool)))(a0:H4)(a1:List Int)(a2:List Bool):Option (Int×(List Bool)):=om K Rc a1 K a2 0 (a1.length:Int) 0 a0.C.L a0.C.k a0.C.l a0.C.e a0.C.m a0.C.n a0.Q.g a0.Q.c a0.Q.h a0.o a0.p a0.q
def gr:Nat->H4->List Int->List Bool->Option (Int×(List Bool))
 |0,_,_,_=>none
 |K+1,a0,a1,a2=>A5q K (gr K) a0 a1 a2
def yw:Sig:=⟨[.v 38,.v 25,.w 149 true [(4,true)]],[.v 3],true⟩
def A5r (Rc:H4->List Int->List Bool->Option (Int×(List Bool)))(hR:X6 181 ⟨yw,Rc⟩):=fd func181 yw (gC (A09 K) (gC (Ba1 K) (gC hR (gC (Ba3 K) gN)))) [] [467]
def ku:E7:=⟨[(2,.o 1 4 true),(3,.p 103),(7,.v 2),(10,.v 25),(11,.v 2),(12,.v 2)],[(103,.box W4)]⟩
def Bny (Rc:H4->List Int->List Bool->Option (Int×(List Bool)))(hR:X6 181 ⟨yw,Rc⟩):=fun(C58:CT ku _)=>jn (A5r K Rc hR) 467 ku [(58,ar ku C58)] (fun a b c d e f g h i j k l m o p q r=>A1a K Rc d e f g h i j k l m o p q r (fun v1 v2=>C58 v1 v2 c) a b) kN
def Bnz (Rc:H4->List Int->List Bool->Option (Int×(List Bool)))(hR:X6 181 ⟨yw,Rc⟩):=lp (A5r K Rc hR) 58 ku [] (fun n a b c=>om K Rc c n a b) (fun n=>kC (Bny K Rc hR _) kN)
theorem Ba4: ∀K:Nat,X6 181 ⟨yw,gr K⟩
 |0=>⟨(by intro a0 a1 a2 r h;cases h),_,func181,rfl,rfl⟩
 |K+1=>have ih:=Ba4 K;ct (A5r K (gr K) ih) (A5q K (gr K)) (kC (Bnz K (gr K) ih K) kN)
def yx (a0:H4)(a1:Int):Option Int:=(af K a0.o a1).bind fun r1=>bif !r1 then some 0 else if 0<=(a0.o.length:Int)/\(a0.o.length:Int)<=a0.o.length/\(1:Int)*(a0.o.length:Int)<=281474976710656/\(a0.o.length:Int)<=9223372036854775807 then(gr K a0 ([a1]:List Int) (List.replicate (a0.o.length:Int).toNat false)).bind fun r2=>if r2.2.length=(List.replicate (a0.o.length:Int).toNat false).length then some r2.1 else none else none
def Ba5:=ct (fd func75 ⟨[.v 38,.v 3],[.v 3],true⟩ (gC (gq K) (gC (Ba4 K) gN))) (yx K)
def sn (r3:(List Int)):Nat->Int->Int->Int->Int->Int->Int->Int->Int->Int->List Int->List Int->List Int->List Fy->List G9->List Int->Option Int
 |0,_,_,_,_,_,_,_,_,_,_,_,_,_,_,_=>none
 |n1+1,v4,v5,v6,v7,v8,v9,v10,v11,v12,v13,v14,v15,v16,v17,v18=>bif decide (v6<v5)then if 0<=v6/\v6<r3.length then(yx K (H4.mk (Sv.mk v7 v8 v9 v10 v11 v12) (Pc.mk v13 v14 v15) v16 v17 v18) (gt r3 v6)).bind fun r19=>sn r3 n1 (A4 v4 r19) v5 (A4 v6 1) v7 v8 v9 v10 v11 v12 v13 v14 v15 v16 v17 v18 else none else some v4
def oo (a0:H4)(a1:Int):Option Int:=(Xd K a1 0 (Ap a0.p.length 1)).bind fun r1=>bif !r1 then some 0 else if 0<=a1/\a1<a0.p.length then(yu K a0.C (gt a0.p a1)).bind fun r2=>if 0<=a1/\a1<a0.p.length then(ol K a0.o (gt a0.p a1).i).bind fun r3=>sn K r3 K r2 (r3.length:Int) 0 a0.C.L a0.C.k a0.C.l a0.C.e a0.C.m a0.C.n a0.Q.g a0.Q.c a0.Q.h a0.o a0.p a0.q else none else none
def Ba6:=fd func73 ⟨[.v 38,.v 3],[.v 3],true⟩ (gC (Ba5 K) (gC (ba K) (gC (A09 K) (gC (Ba1 K) gN))))
def Bn0:E7:=⟨[(2,.p 102),(5,.v 2),(31,.v 25),(32,.v 2),(33,.v 2)],[(102,.box W4)]⟩
def Bn1:=lp (Ba6 K) 122 Bn0 [] (fun n a b=>sn K b n a) (fun n=>kN)
def Ba7:=ct (Ba6 K) (oo K) (kC (Bn1 K K) kN)
def sp:Nat->Int->Int->Int->Int->Int->Int->Int->Int->Int->List Int->List Int->List Int->List Fy->List G9->List Int->Option Int
 |0,_,_,_,_,_,_,_,_,_,_,_,_,_,_,_=>none
 |n1+1,v1,v2,v3,v4,v5,v6,v7,v8,v9,v10,v11,v12,v13,v14,v15=>bif decide (v3<v2)then(oo K (H4.mk (Sv.mk v4 v5 v6 v7 v8 v9) (Pc.mk v10 v11 v12) v13 v14 v15) v3).bind fun r16=>sp n1 (A4 v1 r16) v2 (A4 v3 1) v4 v5 v6 v7 v8 v9 v10 v11 v12 v13 v14 v15 else some v1
def oq (a0:H4):Option Int:=sp K K 0 (a0.p.length:Int) 0 a0.C.L a0.C.k a0.C.l a0.C.e a0.C.m a0.C.n a0.Q.g a0.Q.c a0.Q.h a0.o a0.p a0.q
def Ba8:=fd func72 ⟨[.v 38],[.v 3],true⟩ (gC (Ba7 K) gN)
def Bn2:E7:=⟨[(1,.p 101),(3,.v 2),(7,.v 2),(8,.v 2)],[(101,.box W4)]⟩
def Bn3:=lp (Ba8 K) 58 Bn2 [] (sp K) (fun n=>kN)
def Bn4:=ct (Ba8 K) (oq K) (kC (Bn3 K K) kN)
def A1b (K:Nat)(a0:List Int):Option (List Int):=bif a0.isEmpty then Aag (some []) ((if(([]:List Int)++a0).length*1<=140737488355328/\(([]:List Int)++a0).length<=maxLen then some (([]:List Int)++a0)else none))else if(([]:List Int)++a0).length*1<=140737488355328/\(([]:List Int)++a0).length<=maxLen then some (([]:List Int)++a0)else none
def Bn5:=ct (fd func312 ⟨[.v 24],[.n 24 true],true⟩ gN) (A1b K)
def sq (a0:Pc):Option Pc:=(A1b K a0.g).bind fun r1=>(ah K a0.c).bind fun r2=>(ah K a0.h).bind fun r3=>some (Pc.mk r1 r2 r3)
def A5s:=ct (fd func255 ⟨[.v 34],[.n 34 true],true⟩ (gC (sl K) (gC (Bn5 K) gN))) (sq K)
def A1c (K:Nat)(a0:List H3):Option (List H3):=bif a0.isEmpty then Aag (some []) ((if(([]:List H3)++a0).length*24<=140737488355328/\(([]:List H3)++a0).length<=maxLen then some (([]:List H3)++a0)else none))else if(([]:List H3)++a0).length*24<=140737488355328/\(([]:List H3)++a0).length<=maxLen then some (([]:List H3)++a0)else none
def Bn6:=ct (fd func362 ⟨[.v 75],[.n 75 true],true⟩ gN) (A1c K)
def A1d (a0:Fy):Option Fy:=(ah K a0.L).bind fun r1=>(A1c K a0.y).bind fun r2=>(ah K a0.j).bind fun r3=>some (Fy.mk a0.c a0.a a0.f a0.s a0.t a0.i a0.u a0.v r1 a0.w a0.x r2 r3)
def Bn7:=ct (fd func313 ⟨[.v 77],[.n 77 false],true⟩ (gC (sl K) (gC (Bn6 K) gN))) (A1d K)
def ou (a0:List Fy):Nat->List Fy->Int->Int->Option (List Fy)
 |0,_,_,_=>none
 |n1+1,v1,v2,v3=>bif decide (v3<v2)then if 0<=v3/\v3<a0.length then(A1d K (gt a0 v3)).bind fun r4=>if(v1++[r4]).length*152<=140737488355328/\(v1++[r4]).length<=maxLen then ou a0 n1 (v1++[r4]) v2 (A4 v3 1)else none else none else some v1
def yy (a0:List Fy):Option (List Fy):=ou K a0 K ([]:List Fy) (a0.length:Int) 0
def Ba9:=fd func256 ⟨[.v 35],[.n 35 true],false⟩ (gC (Bn7 K) gN) (post:=[(16,[.put 3016])])
def Bn8:E7:=⟨[(3,.o 1003 77 true),(7,.v 35),(8,.v 2),(9,.v 2)],[]⟩
def Bn9:=lp (Ba9 K) 58 Bn8 [] (fun n a b=>ou K b n a) (fun n=>kN)
def Bba:=ct (Ba9 K) (yy K) (kC (Bn9 K K) kN)
def A1e (a0:G9):Option G9:=(ah K a0.j).bind fun r1=>(ah K a0.L).bind fun r2=>some (G9.mk a0.d a0.i r1 r2 a0.z)
def Boa:=ct (fd func257 ⟨[.v 79],[.n 79 true],true⟩ (gC (sl K) gN)) (A1e K)
def ox:Nat->List G9->Int->Int->H4->H4->Option H4
 |0,_,_,_,_,_=>none
 |n1+1,v4,v5,v6,v7,v8=>bif decide (v6<v5)then if 0<=v6/\v6<v4.length then(A1e K (gt v4 v6)).bind fun r9=>if(v7.p.length+1)*72<=140737488355328/\v7.p.length+1<=maxLen then ox n1 v4 v5 (A4 v6 1) (H4.mk v7.C v7.Q v7.o ((v7.p++[(default:G9)]).set (v7.p.length:Int).toNat r9) v7.q) v8 else none else none else some v7
def yz (a0:H4):Option H4:=(sq K a0.Q).bind fun r1=>(yy K a0.o).bind fun r2=>(ah K a0.q).bind fun r3=>ox K K a0.p (a0.p.length:Int) 0 (H4.mk a0.C r1 r2 [] r3) (H4.mk (Sv.mk 0 0 0 0 0 0) (Pc.mk [] [] []) [] [] [])
def Bbb:=fd func160 ⟨[.v 38],[.n 38 true],false⟩ (gC (sl K) (gC (A5s K) (gC (Bba K) (gC (Boa K) gN)))) [] [] [(5,[.take 103 10 6658]),(7,[.take 103 6 6654,.take 103 7 6655,.take 103 8 6656,.take 103 9 6657,.take 103 10 6658,.take 103 11 6659])]
def Bob:E7:=⟨[(2,.p 102),(3,.p 103),(19,.v 36),(20,.v 2),(21,.v 2)],[(103,.st 38 true),(102,.st 38 true)]⟩
def Boc:=lp (Bbb K) 58 Bob [] (ox K) (fun n=>kN)
def Bbc:=ct (Bbb K) (yz K) (kC (Boc K K) kN)
def sr (a0:Sv):Option Bool:=(Xd K a0.L 2 12).bind fun r1=>bif r1 then(Xd K a0.k 8 16).bind fun r2=>bif r2 then(Xd K a0.l 2 8).bind fun r3=>bif r3 then(Xd K a0.e 1 8).bind fun r4=>bif r4 then(Xd K a0.m 1 16).bind fun r5=>bif r5 then(Xd K a0.n 1 4).bind fun r6=>some r6 else some false else some false else some false else some false else some false
def A1f:=ct (fd func47 ⟨[.v 33],[.v 4],true⟩ (gC (ba K) gN) [5,6,9,10,11,14,15,16,19,20,21,24,25,26]) (sr K)
def A1g (a0:Sv):Option Int:=(sr K a0).bind fun r1=>bif !r1 then some 0 else some (Gx a0.L a0.k)
def Bbd:=ct (fd func208 ⟨[.v 33],[.v 3],true⟩ (gC (A1f K) gN)) (A1g K)
def ss (K:Nat)(a0:Pc)(a1:Sv)(a2:Int):Option (List Int):=if 0<=(Gx a2 a1.k)/\(Gx a2 a1.k)<=(Gx (A4 a2 1) a1.k)/\(Gx (A4 a2 1) a1.k)<=a0.g.length then some ((a0.g.drop (Gx a2 a1.k).toNat).take ((Gx (A4 a2 1) a1.k) - (Gx a2 a1.k)).toNat)else none
def A5t:=ct (fd func209 ⟨[.v 34,.v 33,.v 3],[.v 24],false⟩ gN) (ss K)
def A5u (K:Nat)(a0:Int):Option Bool:=some (a0 != 0)
def Bod:=ct (fd func121 ⟨[.v 5],[.v 4],true⟩ gN) (A5u K)
def A1h (a0:List Int):Nat->Int->Int->Option Int
 |0,_,_=>none
 |n1+1,v1,v2=>bif decide (v2<v1)then if 0<=v2/\v2<a0.length then(A5u K (gt a0 v2)).bind fun r3=>bif r3 then some v2 else A1h a0 n1 v1 (A4 v2 1)else none else some (-1)
def A5v (a0:List Int):Option Int:=A1h K a0 K (a0.length:Int) 0
def Bbe:=fd func207 ⟨[.v 24,.f 121 [] []],[.v 3],true⟩ (gC (Bod K) gN)
def Boe:E7:=⟨[(0,.v 24),(1,.f 121 [] []),(7,.v 2),(8,.v 2)],[]⟩
def Bof:=lp (Bbe K) 26 Boe [] (fun n a=>A1h K a n) (fun n=>kN)
def Bog:=ct (Bbe K) (A5v K) (kC (Bof K K) kN)
def A5w (a0:List Int):Option Bool:=(A5v K a0).bind fun r1=>some (decide (r1>=0))
def Boh:=ct (fd func120 ⟨[.v 24,.f 121 [] []],[.v 4],true⟩ (gC (Bog K) gN)) (A5w K)
def oy (a0:List Int):Option Bool:=(A5w K a0).bind fun r1=>some (!r1)
def A1i:=ct (fd func30 ⟨[.v 24],[.v 4],true⟩ (gC (Boh K) gN)) (oy K)
def A1j (K:Nat)(v3:List Int)(v4:Int)(v6 v7 v8:List Int)(v12:Int)(C1:List Int->Int->Int->List Int->List Int->List Int->Option Bool)(v16:Bool):Option Bool:=bif v16 then some false else C1 v3 v4 (A4 v12 1) v6 v7 v8
def oz (a0:Sv)(v3:List Int)(v4 v5:Int)(v6 v7 v8:List Int)(C1:List Int->Int->Int->List Int->List Int->List Int->Option Bool)(v11 v12:Int)(v13:Bool):Option Bool:=bif v13 then some false else bif v11==0 then(ss K (Pc.mk v6 v7 v8) a0 v5).bind fun r14=>(oy K r14).bind fun r15=>A1j K v3 v4 v6 v7 v8 v12 (C1) (!r15)else A1j K v3 v4 v6 v7 v8 v12 (C1) false
def ci (a0:Sv):Nat->List Int->Int->Int->List Int->List Int->List Int->Option Bool
 |0,_,_,_,_,_,_=>none
 |n1+1,v3,v4,v5,v6,v7,v8=>bif decide (v5<v4)then if 0<=v5/\v5<v3.length then(Xd K (gt v3 v5) 0 2).bind fun r9=>bif !r9 then some false else bif (gt v3 v5)==1 then if 0<=v5/\v5<v8.length then(Xd K (gt v8 v5) 0 (Ap a0.l 1)).bind fun r10=>bif r10 then bif (gt v3 v5) != 1 then if 0<=v5/\v5<v8.length then oz K a0 v3 v4 v5 v6 v7 v8 (ci a0 n1) (gt v3 v5) v5 ((gt v8 v5) != (-1))else none else oz K a0 v3 v4 v5 v6 v7 v8 (ci a0 n1) (gt v3 v5) v5 false else oz K a0 v3 v4 v5 v6 v7 v8 (ci a0 n1) (gt v3 v5) v5 true else none else bif (gt v3 v5) != 1 then if 0<=v5/\v5<v8.length then oz K a0 v3 v4 v5 v6 v7 v8 (ci a0 n1) (gt v3 v5) v5 ((gt v8 v5) != (-1))else none else oz K a0 v3 v4 v5 v6 v7 v8 (ci a0 n1) (gt v3 v5) v5 false else none else some true
def za (a0:Sv)(a1:Pc):Option Bool:=(sr K a0).bind fun r1=>bif r1 then(A1g K a0).bind fun r2=>bif (a1.g.length:Int) != r2 then some false else bif (a1.c.length:Int) != a0.L then some false else bif (a1.h.length:Int) != a0.L then some false else ci K a0 K a1.c (a1.c.length:Int) 0 a1.g a1.c a1.h else some false
def A1k:=fd func122 ⟨[.v 33,.v 34],[.v 4],true⟩ (gC (A1i K) (gC (A1f K) (gC (ba K) (gC (Bbd K) (gC (A5t K) gN))))) [8,9,10,16,17,18,24,25,26,48,49,58,59,60,61,63,64,75,76] [29899,119599]
def Boi:E7:=⟨[(2,.p 102),(3,.p 103),(35,.v 25),(36,.v 2),(37,.v 2),(73,.v 4)],[(103,.box dm),(102,.st 33 true)]⟩
def Boj:E7:=⟨[(2,.p 102),(3,.p 103),(5,.v 2),(6,.v 2),(35,.v 25),(36,.v 2),(37,.v 2),(46,.v 4)],[(103,.box dm),(102,.st 33 true)]⟩
def zb:E7:=⟨[(2,.p 102),(3,.p 103),(35,.v 25),(36,.v 2),(37,.v 2)],[(103,.box dm),(102,.st 33 true)]⟩
def Bok:=fun(C58:CT zb _)=>jn (A1k K) 119599 Boi [(58,ar zb C58)] (fun a b c d e f g h=>A1j K a b e f g c (fun v3 v4 v5 v6 v7 v8=>C58 v3 v4 v5 v6 v7 v8 h) d) kN
def Bol:=fun(C58:CT zb _)=>jn (A1k K) 29899 Boj [(58,ar zb C58)] (fun a b c d e f g h i j=>oz K j c d a g h i (fun v3 v4 v5 v6 v7 v8=>C58 v3 v4 v5 v6 v7 v8 j) b e f) (kC (Bok K _) kN)
def Bom:=lp (A1k K) 58 zb [] (fun n a b c d e f g=>ci K g n a b c d e f) (fun n=>kC (Bol K _) kN)
def Bbf:=ct (A1k K) (za K) (kC (Bom K K) kN)
def pa (K:Nat)(a0 a1:List Int):Nat->Int->Int->Option Bool
 |0,_,_=>none
 |n1+1,v1,v2=>bif decide (v2<v1)then if 0<=v2/\v2<a0.length then if 0<=v2/\v2<a1.length then bif (gt a0 v2) != (gt a1 v2)then some false else pa K a0 a1 n1 v1 (A4 v2 1)else none else none else some true
def pb (a0 a1:List Int):Option Bool:=bif (a0.length:Int) != (a1.length:Int)then some false else pa K a0 a1 K (a0.length:Int) 0
def Bbg:=fd func153 ⟨[.v 25,.v 25],[.v 4],true⟩ gN
def Bon:E7:=⟨[(0,.v 25),(1,.v 25),(12,.v 2),(13,.v 2)],[]⟩
def Boo:=lp Bbg 58 Bon [] (fun n a b=>pa K a b n) (fun n=>kN)
def Bbh:=ct Bbg (pb K) (kC (Boo K K) kN)
def A5x (K:Nat)(a0 a1:List H3):Nat->Int->Int->Option Bool
 |0,_,_=>none
 |n1+1,v1,v2=>bif decide (v2<v1)then if 0<=v2/\v2<a0.length then if 0<=v2/\v2<a1.length then bif !(((gt a0 v2).B==(gt a1 v2).B)&&(((gt a0 v2).D==(gt a1 v2).D)&&(((gt a0 v2).E==(gt a1 v2).E)&&true)))then some false else A5x K a0 a1 n1 v1 (A4 v2 1)else none else none else some true
def A5y (a0 a1:List H3):Option Bool:=bif (a0.length:Int) != (a1.length:Int)then some false else A5x K a0 a1 K (a0.length:Int) 0
def Bbi:=fd func304 ⟨[.v 75,.v 75],[.v 4],true⟩ gN
def Bop:E7:=⟨[(0,.v 75),(1,.v 75),(12,.v 2),(13,.v 2)],[]⟩
def Boq:=lp Bbi 58 Bop [] (fun n a b=>A5x K a b n) (fun n=>kN)
def Bor:=ct Bbi (A5y K) (kC (Boq K K) kN)
def A5z (a0 a1:Fy):Option Bool:=bif a0.c==a1.c then bif a0.a==a1.a then bif a0.f==a1.f then bif a0.s==a1.s then bif a0.t==a1.t then bif a0.i==a1.i then bif a0.u==a1.u then bif a0.v==a1.v then(pb K a0.L a1.L).bind fun r1=>bif r1 then bif a0.w==a1.w then bif a0.x==a1.x then(A5y K a0.y a1.y).bind fun r2=>bif r2 then(pb K a0.j a1.j).bind fun r3=>some r3 else some false else some false else some false else some false else some false else some false else some false else some false else some false else some false else some false else some false
def Bos:=ct (fd func250 ⟨[.v 77,.v 77],[.v 4],true⟩ (gC (Bbh K) (gC (Bor K) gN)) [9,10,15,16,17,22,23,24,29,30,31,36,37,38,43,44,45,50,51,52,57,58,59,64,65,66,71,72,73,78,79,80,85,86,87]) (A5z K)
def A1l (a0:Fy):Option Bool:=(A5z K a0 (Fy.mk a0.c a0.a 0 0 0 0 0 0 ([]:List Int) 0 0 ([]:List H3) ([]:List Int))).bind fun r1=>some r1
def Bou:=ct (fd func288 ⟨[.v 77],[.v 4],true⟩ (gC (Bos K) gN)) (A1l K)
def su (K:Nat)(a0:List Int)(a1:Int):Nat->Int->Int->Option Int
 |0,_,_=>none
 |n1+1,v1,v2=>bif decide (v2<v1)then if 0<=v2/\v2<a0.length then bif a1==(gt a0 v2)then some v2 else su K a0 a1 n1 v1 (A4 v2 1)else none else some (-1)
def A50 (a0:List Int)(a1:Int):Option Int:=su K a0 a1 K (a0.length:Int) 0
def Bbj:=fd func260 ⟨[.v 25,.v 3],[.v 3],true⟩ gN
def Bov:E7:=⟨[(0,.v 25),(1,.v 2),(7,.v 2),(8,.v 2)],[]⟩
def Bow:=lp Bbj 26 Bov [] (fun n a b=>su K a b n) (fun n=>kN)
def Box:=ct Bbj (A50 K) (kC (Bow K K) kN)
def sv (a0:List Int)(a1:Int):Option Bool:=(A50 K a0 a1).bind fun r1=>some (decide (r1>=0))
def A51:=ct (fd func290 ⟨[.v 25,.v 3],[.v 4],true⟩ (gC (Box K) gN)) (sv K)
def pc (a0:Sv)(a1:List Int):Nat->List Int->Int->Int->Option Bool
 |0,_,_,_=>none
 |n1+1,v1,v2,v3=>bif decide (v3<v2)then if 0<=v3/\v3<v1.length then(Xd K (gt v1 v3) 0 (Ap a0.L 1)).bind fun r4=>bif r4 then if(0:Int)<=0/\0<=v3/\v3<=a1.length then(sv K ((a1.drop (0:Int).toNat).take (v3 - 0).toNat) (gt v1 v3)).bind fun r5=>bif r5 then some false else pc a0 a1 n1 v1 v2 (A4 v3 1)else none else some false else none else some true
def zd (a0:Sv)(a1:List Int):Option Bool:=pc K a0 a1 K a1 (a1.length:Int) 0
def Bbk:=fd func289 ⟨[.v 33,.v 25],[.v 4],true⟩ (gC (ba K) (gC (A51 K) gN)) [18,19,20]
def Boy:E7:=⟨[(1,.v 25),(2,.p 102),(7,.v 25),(8,.v 2),(9,.v 2)],[(102,.st 33 true)]⟩
def Boz:=lp (Bbk K) 26 Boy [] (fun n a b c d e=>pc K e a n b c d) (fun n=>kN)
def Bbl:=ct (Bbk K) (zd K) (kC (Boz K K) kN)
def A1m (a0:Int):Option Bool:=(Xd K a0 0 255).bind fun r1=>some (!r1)
def Bo0:=ct (fd func223 ⟨[.v 3],[.v 4],true⟩ (gC (ba K) gN)) (A1m K)
def A1n (a0:List Int):Nat->Int->Int->Option Int
 |0,_,_=>none
 |n1+1,v1,v2=>bif decide (v2<v1)then if 0<=v2/\v2<a0.length then(A1m K (gt a0 v2)).bind fun r3=>bif r3 then some v2 else A1n a0 n1 v1 (A4 v2 1)else none else some (-1)
def A52 (a0:List Int):Option Int:=A1n K a0 K (a0.length:Int) 0
def Bbm:=fd func297 ⟨[.v 25,.f 223 [] []],[.v 3],true⟩ (gC (Bo0 K) gN)
def Bo1:E7:=⟨[(0,.v 25),(1,.f 223 [] []),(7,.v 2),(8,.v 2)],[]⟩
def Bo2:=lp (Bbm K) 26 Bo1 [] (fun n a=>A1n K a n) (fun n=>kN)
def Bo3:=ct (Bbm K) (A52 K) (kC (Bo2 K K) kN)
def A53 (a0:List Int):Option Bool:=(A52 K a0).bind fun r1=>some (decide (r1>=0))
def Bo4:=ct (fd func222 ⟨[.v 25,.f 223 [] []],[.v 4],true⟩ (gC (Bo3 K) gN)) (A53 K)
def sw (a0:List Int):Option Bool:=(A53 K a0).bind fun r1=>some (!r1)
def A54:=ct (fd func126 ⟨[.v 25],[.v 4],true⟩ (gC (Bo4 K) gN)) (sw K)
def Bbn (K:Nat)(a0:Sv)(a1:Int):Option Bool:=some (decide (a1>a0.k))
def Bo5:=ct (fd func336 ⟨[.v 33,.v 3],[.v 4],true⟩ gN) (Bbn K)
def Bbo (a0:Sv)(a1:Int):Option Int:=(A05 K a1 a0.k).bind fun r1=>some r1
def Bo6:=ct (fd func337 ⟨[.v 33,.v 3],[.v 3],true⟩ (gC (Ba0 K) gN)) (Bbo K)
def sx (a0:Sv)(a1:H3):Option Bool:=(A1g K a0).bind fun r1=>bif decide (a1.D<=0)then some false else bif decide (a1.B<0)then some false else bif decide (a1.D>r1)then some false else bif decide (a1.B>(Ap r1 a1.D))then some false else bif a1.E==0 then bif decide (a1.D<=a0.k)then if a0.k≠(0:Int)then if a0.k≠(0:Int)then some ((Afg .i64 a1.B a0.k)==(Afg .i64 (Ap (A4 a1.B a1.D) 1) a0.k))else none else none else some false else(Bbn K a0 a1.D).bind fun r2=>bif r2 then(Bbo K a0 a1.D).bind fun r3=>bif a1.E==r3 then if a0.k≠(0:Int)then some ((Int.tmod a1.B a0.k)==0)else none else some false else some false
def Bbp:=ct (fd func292 ⟨[.v 33,.v 183],[.v 4],true⟩ (gC (Bbd K) (gC (Bo5 K) (gC (Bo6 K) gN))) [10,11,14,15,16,20,21,22,38,39,59,60,67,68,69]) (sx K)
def A1o (a0:H3)(a1:Sv):Option Bool:=(sx K a1 a0).bind fun r1=>some (!r1)
def Bo7:=ct (fd func291 ⟨[.v 183,.r 33],[.v 4],true⟩ (gC (Bbp K) gN)) (A1o K)
def A1p (a0:List H3)(a1_0:Sv):Nat->Int->Int->Option Int
 |0,_,_=>none
 |n1+1,v1,v2=>bif decide (v2<v1)then if 0<=v2/\v2<a0.length then(A1o K (gt a0 v2) a1_0).bind fun r3=>bif r3 then some v2 else A1p a0 a1_0 n1 v1 (A4 v2 1)else none else some (-1)
def Bbq (a0:List H3)(a1_0:Sv):Option Int:=A1p K a0 a1_0 K (a0.length:Int) 0
def Bbr:=fd func295 ⟨[.v 75,.f 291 [] [33]],[.v 3],true⟩ (gC (Bo7 K) gN)
def Bo8:E7:=⟨[(0,.v 75),(1,.f 291 [] [33]),(7,.v 2),(8,.v 2)],[]⟩
def Bo9:=lp (Bbr K) 26 Bo8 [] (fun n a b=>A1p K a b n) (fun n=>kN)
def Bpa:=ct (Bbr K) (Bbq K) (kC (Bo9 K K) kN)
def A55 (a0:List H3)(a1_0:Sv):Option Bool:=(Bbq K a0 a1_0).bind fun r1=>some (decide (r1>=0))
def Bpb:=ct (fd func215 ⟨[.v 75,.f 291 [] [33]],[.v 4],true⟩ (gC (Bpa K) gN)) (A55 K)
def pd (a0:Sv)(v19:List H3)(v20:List Int):Option Bool:=bif decide ((v19.length:Int)<=12)then bif decide ((v20.length:Int)<=6)then(sw K v20).bind fun r25=>bif r25 then(A55 K v19 a0).bind fun r26=>some (!r26)else some false else some false else some false
def kw (a0:Sv):Nat->List Int->Int->Int->Int->Int->Int->Int->Int->Int->Int->Int->List Int->Int->Int->List H3->List Int->Option Bool
 |0,_,_,_,_,_,_,_,_,_,_,_,_,_,_,_,_=>none
 |n1+1,v5,v6,v7,v8,v9,v10,v11,v12,v13,v14,v15,v16,v17,v18,v19,v20=>bif decide (v7<v6)then if 0<=v7/\v7<v5.length then(Xd K (gt v5 v7) 0 a0.l).bind fun r21=>bif !r21 then some false else kw a0 n1 v5 v6 (A4 v7 1) v8 v9 v10 v11 v12 v13 v14 v15 v16 v17 v18 v19 v20 else none else bif decide (v10<0)then some false else bif decide (v12<0)then some false else(zd K a0 v16).bind fun r22=>bif r22 then bif v17 != 0 then(sv K v16 (Ap v17 1)).bind fun r23=>bif r23 then(Xd K v18 0 a0.k).bind fun r24=>bif r24 then bif v17==0 then bif v18 != 0 then some false else pd K a0 v19 v20 else pd K a0 v19 v20 else some false else some false else(Xd K v18 0 a0.k).bind fun r27=>bif r27 then bif v17==0 then bif v18 != 0 then some false else pd K a0 v19 v20 else pd K a0 v19 v20 else some false else some false
def A1q (a0:Sv)(a1:Fy):Option Bool:=(sr K a0).bind fun r1=>bif r1 then(Xd K a1.c 0 3).bind fun r2=>bif r2 then(Xd K a1.a 1 a0.n).bind fun r3=>bif !r3 then some false else bif a1.c != 1 then(A1l K a1).bind fun r4=>some r4 else kw K a0 K ([a1.s,a1.i,a1.u,a1.v]:List Int) (([a1.s,a1.i,a1.u,a1.v]:List Int).length:Int) 0 a1.c a1.a a1.f a1.s a1.t a1.i a1.u a1.v a1.L a1.w a1.x a1.y a1.j else some false else some false
def A56:=fd func212 ⟨[.v 33,.v 77],[.v 4],true⟩ (gC (A1f K) (gC (A54 K) (gC (ba K) (gC (Bpb K) (gC (Bou K) (gC (Bbl K) (gC (A51 K) gN))))))) [8,9,10,13,14,15,16,51,52,55,56,57,61,62,63,64,67,68,74,75,76,77,78,83,84,85,86,89,90,99,100,104,105,106,109,110,111] [31] [(13,[.frzB 102 33])]
def Bpc:E7:=⟨[(2,.p 102),(3,.p 103)],[(103,.box bu),(102,.st 33 true)]⟩
def Bpd:E7:=⟨[(2,.p 102),(3,.p 103),(37,.v 25),(38,.v 2),(39,.v 2)],[(103,.box bu),(102,.st 33 true)]⟩
def Bpe:=jn (A56 K) 31 Bpc [] (fun _ _ _ _ _ _ _ _ _ _ _ l m o=>pd K o l m) kN
def Bpf:=lp (A56 K) 122 Bpd [] (fun n a b c d e f g h i j k l m o p q r=>kw K r n a b c d e f g h i j k l m o p q) (fun n=>kC (up (Bpe K)) kN)
def Bpg:=ct (A56 K) (A1q K) (kC (Bpf K K) kN)
def ze (K:Nat)(v2 v3:Int)(v4 v5 v6:List Int)(C1:List Int->Int->Int->List Int->List Int->List Int->Option (List Int))(v7:List Int):Option (List Int):=C1 v7 v2 (A4 v3 1) v4 v5 v6
def gu (a1:Int):Nat->List Int->Int->Int->List Int->List Int->List Int->Option (List Int)
 |0,_,_,_,_,_,_=>none
 |n1+1,v1,v2,v3,v4,v5,v6=>bif decide (v3<v2)then if 0<=v3/\v3<v5.length then bif (gt v5 v3)==1 then if 0<=v3/\v3<v6.length then bif (gt v6 v3)==a1 then if(v1++([v3]:List Int)).length*8<=140737488355328/\(v1++([v3]:List Int)).length<=maxLen then ze K v2 v3 v4 v5 v6 (gu a1 n1) (v1++([v3]:List Int))else none else ze K v2 v3 v4 v5 v6 (gu a1 n1) v1 else none else ze K v2 v3 v4 v5 v6 (gu a1 n1) v1 else none else some v1
def A1r (a0:Pc)(a1:Int):Option (List Int):=gu K a1 K ([]:List Int) (M6 (a0.c.length:Int) (a0.h.length:Int)) 0 a0.g a0.c a0.h
def A57:=fd func119 ⟨[.v 34,.v 3],[.n 25 true],true⟩ gN [23,24] [467]
def A1s:E7:=⟨[(1,.v 2),(2,.p 102),(5,.o 1005 3 true),(14,.v 2),(15,.v 2)],[(102,.box dm)]⟩
def Bph:=fun(C58:CT A1s _)=>jn A57 467 A1s [(58,ar A1s C58)] (fun a b c d e f g=>ze K c d e f g (C58 a) b) kN
def Bpi:=lp A57 58 A1s [] (fun n a=>gu K a n) (fun n=>kC (Bph K _) kN)
def Bpj:=ct A57 (A1r K) (kC (Bpi K K) kN)
def pe (a0:H3)(a1:Sv)(a2:Fy):Nat->Int->Option Bool
 |0,_=>none
 |n1+1,v2=>if a1.k≠(0:Int)then bif decide (v2<=(Afg .i64 (Ap (A4 a0.B a0.D) 1) a1.k))then(sv K a2.L v2).bind fun r3=>bif !r3 then some true else pe a0 a1 a2 n1 (A4 v2 1)else some false else none
def zf (a0:H3)(a1:Sv)(a2:Fy):Option Bool:=(sx K a1 a0).bind fun r1=>bif !r1 then some true else if a1.k≠(0:Int)then pe K a0 a1 a2 K (Afg .i64 a0.B a1.k)else none
def Bbs:=fd func293 ⟨[.v 183,.r 33,.r 77],[.v 4],true⟩ (gC (A51 K) (gC (Bbp K) gN))
def Bpk:E7:=⟨[(1,.r 33),(2,.r 77),(3,.p 103),(5,.v 2)],[(103,.st 183 true)]⟩
def Bpl:=lp (Bbs K) 58 Bpk [] (fun n a b c d=>pe K d a b n c) (fun n=>kN)
def Bpm:=ct (Bbs K) (zf K) (kC (Bpl K K) kN)
def A1t (a0:List H3)(a1_0:Sv)(a1_1:Fy):Nat->Int->Int->Option Int
 |0,_,_=>none
 |n1+1,v1,v2=>bif decide (v2<v1)then if 0<=v2/\v2<a0.length then(zf K (gt a0 v2) a1_0 a1_1).bind fun r3=>bif r3 then some v2 else A1t a0 a1_0 a1_1 n1 v1 (A4 v2 1)else none else some (-1)
def Bbt (a0:List H3)(a1_0:Sv)(a1_1:Fy):Option Int:=A1t K a0 a1_0 a1_1 K (a0.length:Int) 0
def Bbu:=fd func295 ⟨[.v 75,.f 293 [] [33,77]],[.v 3],true⟩ (gC (Bpm K) gN)
def Bpn:E7:=⟨[(0,.v 75),(1,.f 293 [] [33,77]),(7,.v 2),(8,.v 2)],[]⟩
def Bpo:=lp (Bbu K) 26 Bpn [] (fun n a b c=>A1t K a b c n) (fun n=>kN)
def Bpp:=ct (Bbu K) (Bbt K) (kC (Bpo K K) kN)
def A58 (a0:List H3)(a1_0:Sv)(a1_1:Fy):Option Bool:=(Bbt K a0 a1_0 a1_1).bind fun r1=>some (decide (r1>=0))
def Bpq:=ct (fd func215 ⟨[.v 75,.f 293 [] [33,77]],[.v 4],true⟩ (gC (Bpp K) gN)) (A58 K)
def A1u (a0:Sv)(a1:Fy):Option Bool:=(A58 K a1.y a0 a1).bind fun r1=>some (!r1)
def Bpr:=ct (fd func213 ⟨[.v 33,.v 77],[.v 4],true⟩ (gC (Bpq K) gN) [] [] [(1,[.frzB 102 33,.frzB 103 77])]) (A1u K)
def A1v (K:Nat)(v1 v2:H3):Option Bool:=some (decide ((Aly .u64 (IntKind.u64.wrap v1.B) (IntKind.u64.wrap v2.B))>=(IntKind.u64.wrap v2.D)))
def zg (a0 a1:H3):Option Bool:=bif decide (a0.D<=0)then some true else bif decide (a1.D<=0)then some true else bif decide (a0.B>a1.B)then A1v K a0 a1 else A1v K a1 a0
def Bbv:=fd func217 ⟨[.v 183,.v 183],[.v 4],true⟩ gN [7,8] [7]
def Bps:E7:=⟨[(2,.p 102),(3,.p 103)],[(103,.st 183 true),(102,.st 183 true)]⟩
def Bpt:=jn Bbv 7 Bps [] (A1v K) kN
def Bbw:=ct Bbv (zg K) (kC (Bpt K) kN)
def A1w (a0 a1:H3):Option Bool:=(zg K a0 a1).bind fun r1=>some (!r1)
def Bpu:=ct (fd func294 ⟨[.v 183,.r 183],[.v 4],true⟩ (gC (Bbw K) gN)) (A1w K)
def A1x (a0:List H3)(a1_0:H3):Nat->Int->Int->Option Int
 |0,_,_=>none
 |n1+1,v1,v2=>bif decide (v2<v1)then if 0<=v2/\v2<a0.length then(A1w K (gt a0 v2) a1_0).bind fun r3=>bif r3 then some v2 else A1x a0 a1_0 n1 v1 (A4 v2 1)else none else some (-1)
def Bbx (a0:List H3)(a1_0:H3):Option Int:=A1x K a0 a1_0 K (a0.length:Int) 0
def Bby:=fd func295 ⟨[.v 75,.f 294 [] [183]],[.v 3],true⟩ (gC (Bpu K) gN)
def Bpv:E7:=⟨[(0,.v 75),(1,.f 294 [] [183]),(7,.v 2),(8,.v 2)],[]⟩
def Bpw:=lp (Bby K) 26 Bpv [] (fun n a b=>A1x K a b n) (fun n=>kN)
def Bpx:=ct (Bby K) (Bbx K) (kC (Bpw K K) kN)
def A59 (a0:List H3)(a1_0:H3):Option Bool:=(Bbx K a0 a1_0).bind fun r1=>some (decide (r1>=0))
def Bpy:=ct (fd func215 ⟨[.v 75,.f 294 [] [183]],[.v 4],true⟩ (gC (Bpx K) gN)) (A59 K)
def pf (a0:List H3):Nat->List H3->Int->Int->Option Bool
 |0,_,_,_=>none
 |n1+1,v1,v2,v3=>bif decide (v3<v2)then if 0<=v3/\v3<v1.length then if(0:Int)<=0/\0<=v3/\v3<=a0.length then(A59 K ((a0.drop (0:Int).toNat).take (v3 - 0).toNat) (gt v1 v3)).bind fun r4=>bif r4 then some false else pf a0 n1 v1 v2 (A4 v3 1)else none else none else some true
def A1y (a0:List H3):Option Bool:=pf K a0 K a0 (a0.length:Int) 0
def Bbz:=fd func214 ⟨[.v 75],[.v 4],true⟩ (gC (Bpy K) gN) [] [] [(4,[.frzB 104 183])]
def Bpz:E7:=⟨[(0,.v 75),(5,.v 75),(6,.v 2),(7,.v 2)],[]⟩
def Bp0:=lp (Bbz K) 26 Bpz [] (fun n a=>pf K a n) (fun n=>kN)
def Bp1:=ct (Bbz K) (A1y K) (kC (Bp0 K K) kN)
def A1z (a0 a1:H3):Option Bool:=(zg K a0 a1).bind fun r1=>some (!r1)
def Bp2:=ct (fd func216 ⟨[.v 183,.r 183],[.v 4],true⟩ (gC (Bbw K) gN)) (A1z K)
def A10 (a0:List H3)(a1_0:H3):Nat->Int->Int->Option Int
 |0,_,_=>none
 |n1+1,v1,v2=>bif decide (v2<v1)then if 0<=v2/\v2<a0.length then(A1z K (gt a0 v2) a1_0).bind fun r3=>bif r3 then some v2 else A10 a0 a1_0 n1 v1 (A4 v2 1)else none else some (-1)
def Bb0 (a0:List H3)(a1_0:H3):Option Int:=A10 K a0 a1_0 K (a0.length:Int) 0
def Bb1:=fd func295 ⟨[.v 75,.f 216 [] [183]],[.v 3],true⟩ (gC (Bp2 K) gN)
def Bp3:E7:=⟨[(0,.v 75),(1,.f 216 [] [183]),(7,.v 2),(8,.v 2)],[]⟩
def Bp4:=lp (Bb1 K) 26 Bp3 [] (fun n a b=>A10 K a b n) (fun n=>kN)
def Bp5:=ct (Bb1 K) (Bb0 K) (kC (Bp4 K K) kN)
def A6a (a0:List H3)(a1_0:H3):Option Bool:=(Bb0 K a0 a1_0).bind fun r1=>some (decide (r1>=0))
def Bp6:=ct (fd func215 ⟨[.v 75,.f 216 [] [183]],[.v 4],true⟩ (gC (Bp5 K) gN)) (A6a K)
def A11 (K:Nat)(v1:List Fy)(v2 v3:Int)(v4 v5:Int)(v6 v7:Int)(v8 v9:Int)(v10 v11 v12:List Int)(v13:List Fy)(v14:List G9)(v15:List Int)(C1:List Fy->Int->Int->Int->Int->Int->Int->Int->Int->List Int->List Int->List Int->List Fy->List G9->List Int->Option Bool):Option Bool:=C1 v1 v2 (A4 v3 1) v4 v5 v6 v7 v8 v9 v10 v11 v12 v13 v14 v15
def ky:Nat->List Fy->Int->Int->Int->Int->Int->Int->Int->Int->List Int->List Int->List Int->List Fy->List G9->List Int->Option Bool
 |0,_,_,_,_,_,_,_,_,_,_,_,_,_,_,_=>none
 |n1+1,v1,v2,v3,v4,v5,v6,v7,v8,v9,v10,v11,v12,v13,v14,v15=>bif decide (v3<v2)then if 0<=v3/\v3<v1.length then(ah K (gt v1 v3).L).bind fun r16=>(Aix K r16).bind fun r17=>if r17.length=r16.length then(A1q K (Sv.mk v4 v5 v6 v7 v8 v9) (gt v1 v3)).bind fun r18=>bif r18 then(A1r K (Pc.mk v10 v11 v12) v3).bind fun r19=>(pb K r17 r19).bind fun r20=>bif r20 then(A1u K (Sv.mk v4 v5 v6 v7 v8 v9) (gt v1 v3)).bind fun r21=>bif r21 then(A1y K (gt v1 v3).y).bind fun r22=>bif !r22 then some false else bif (gt v1 v3).w==0 then A11 K v1 v2 v3 v4 v5 v6 v7 v8 v9 v10 v11 v12 v13 v14 v15 (ky n1)else if 0<=(H3.mk (A4 (Gx (Ap (gt v1 v3).w 1) v5) (gt v1 v3).x) (Ap v5 (gt v1 v3).x) 0).B/\(H3.mk (A4 (Gx (Ap (gt v1 v3).w 1) v5) (gt v1 v3).x) (Ap v5 (gt v1 v3).x) 0).B<=(A4 (H3.mk (A4 (Gx (Ap (gt v1 v3).w 1) v5) (gt v1 v3).x) (Ap v5 (gt v1 v3).x) 0).B (H3.mk (A4 (Gx (Ap (gt v1 v3).w 1) v5) (gt v1 v3).x) (Ap v5 (gt v1 v3).x) 0).D)/\(A4 (H3.mk (A4 (Gx (Ap (gt v1 v3).w 1) v5) (gt v1 v3).x) (Ap v5 (gt v1 v3).x) 0).B (H3.mk (A4 (Gx (Ap (gt v1 v3).w 1) v5) (gt v1 v3).x) (Ap v5 (gt v1 v3).x) 0).D)<=v10.length then(oy K ((v10.drop (H3.mk (A4 (Gx (Ap (gt v1 v3).w 1) v5) (gt v1 v3).x) (Ap v5 (gt v1 v3).x) 0).B.toNat).take ((A4 (H3.mk (A4 (Gx (Ap (gt v1 v3).w 1) v5) (gt v1 v3).x) (Ap v5 (gt v1 v3).x) 0).B (H3.mk (A4 (Gx (Ap (gt v1 v3).w 1) v5) (gt v1 v3).x) (Ap v5 (gt v1 v3).x) 0).D) - (H3.mk (A4 (Gx (Ap (gt v1 v3).w 1) v5) (gt v1 v3).x) (Ap v5 (gt v1 v3).x) 0).B).toNat)).bind fun r23=>bif r23 then(A6a K (gt v1 v3).y (H3.mk (A4 (Gx (Ap (gt v1 v3).w 1) v5) (gt v1 v3).x) (Ap v5 (gt v1 v3).x) 0)).bind fun r24=>bif r24 then some false else A11 K v1 v2 v3 v4 v5 v6 v7 v8 v9 v10 v11 v12 v13 v14 v15 (ky n1)else some false else none else some false else some false else some false else none else none else some true
def A12 (a0:H4):Option Bool:=ky K K a0.o (a0.o.length:Int) 0 a0.C.L a0.C.k a0.C.l a0.C.e a0.C.m a0.C.n a0.Q.g a0.Q.c a0.Q.h a0.o a0.p a0.q
def A6b:=fd func123 ⟨[.v 38],[.v 4],true⟩ (gC (A1i K) (gC (Bpj K) (gC (Bbh K) (gC (sl K) (gC (Aym K) (gC (Bpg K) (gC (Bpr K) (gC (Bp1 K) (gC (Bp6 K) gN))))))))) [23,24,25,31,32,33,34,38,39,40,41,78,79,80] [211] [(10,[.frzB 106 183])]
def A13:E7:=⟨[(1,.p 101),(8,.v 35),(9,.v 2),(10,.v 2)],[(101,.box W4)]⟩
def Bp7:=fun(C26:CT A13 _)=>jn (A6b K) 211 A13 [(26,ar A13 C26)] (fun a b c d e f g h i j k l m o p=>A11 K a b c d e f g h i j k l m o p C26) kN
def Bp8:=lp (A6b K) 26 A13 [] (ky K) (fun n=>kC (Bp7 K _) kN)
def Bp9:=ct (A6b K) (A12 K) (kC (Bp8 K K) kN)
def sy (a0:List Fy)(a1:Int):Option Bool:=bif a1==0 then some true else(af K a0 (Ap a1 1)).bind fun r1=>bif r1 then if 0<=(Ap a1 1)/\(Ap a1 1)<a0.length then some (((gt a0 (Ap a1 1)).c)==1)else none else some false
def Bqa:=ct (fd func296 ⟨[.v 35,.v 3],[.v 4],true⟩ (gC (gq K) gN) [6,7,11,12]) (sy K)
def ta (a0:List Fy)(a1:Int):Option Bool:=if 0<=a1/\a1<a0.length then(af K a0 (Ap (gt a0 a1).s 1)).bind fun r1=>bif r1 then if 0<=(Ap (gt a0 a1).s 1)/\(Ap (gt a0 a1).s 1)<a0.length then bif (gt a0 (Ap (gt a0 a1).s 1)).c==1 then if 0<=(Ap (gt a0 a1).s 1)/\(Ap (gt a0 a1).s 1)<a0.length then if 0<=a1/\a1<a0.length then some (((gt a0 (Ap (gt a0 a1).s 1)).f)==(gt a0 a1).t)else none else none else some false else none else some false else none
def A6c:=ct (fd func219 ⟨[.v 35,.v 3],[.v 4],true⟩ (gC (gq K) gN) [14,15,21,22,23]) (ta K)
def zh (a0:List Fy)(a1 v8 v12:Int):Option Bool:=bif v12 != 0 then some true else(ta K a0 a1).bind fun r18=>bif r18 then if 0<=(Ap v8 1)/\(Ap v8 1)<a0.length then some (((gt a0 (Ap v8 1)).i)==(A4 a1 1))else none else some true
def zi (a0:List Fy)(a1 v8 v12:Int):Option Bool:=bif v12 != 0 then if 0<=(Ap v12 1)/\(Ap v12 1)<a0.length then bif (gt a0 (Ap v12 1)).u != (A4 a1 1)then some false else zh K a0 a1 v8 v12 else none else zh K a0 a1 v8 v12
def zj (a0:List Fy)(a1 v8:Int)(v9 v11 v12:Int):Option Bool:=bif v11 != 0 then if 0<=(Ap v11 1)/\(Ap v11 1)<a0.length then bif (gt a0 (Ap v11 1)).v != (A4 a1 1)then some false else bif (gt a0 (Ap v11 1)).s != v8 then some false else bif (gt a0 (Ap v11 1)).t != v9 then some false else zi K a0 a1 v8 v12 else none else zi K a0 a1 v8 v12
def zk (a0:List Fy)(a1 v5:Int)(v6 v7:Int)(v8 v9:Int)(v10 v11 v12:Int)(v13:List Int)(v14 v15:Int)(v16:List H3)(v17:List Int):Option Bool:=bif v10 != 0 then if 0<=(Ap v10 1)/\(Ap v10 1)<a0.length then bif (gt a0 (Ap v10 1)).v != 0 then some false else bif (gt a0 (Ap v10 1)).s != (A4 a1 1)then some false else bif (gt a0 (Ap v10 1)).t != v7 then some false else zj K a0 a1 v8 v9 v11 v12 else none else zj K a0 a1 v8 v9 v11 v12
def A14 (a0:List Fy)(a1:Int):Option Bool:=if 0<=a1/\a1<a0.length then(sy K a0 (gt a0 a1).i).bind fun r1=>bif r1 then(sy K a0 (gt a0 a1).u).bind fun r2=>bif r2 then(sy K a0 (gt a0 a1).v).bind fun r3=>bif r3 then bif (gt a0 a1).s != 0 then(af K a0 (Ap (gt a0 a1).s 1)).bind fun r4=>bif !r4 then some false else zk K a0 a1 (gt a0 a1).c (gt a0 a1).a (gt a0 a1).f (gt a0 a1).s (gt a0 a1).t (gt a0 a1).i (gt a0 a1).u (gt a0 a1).v (gt a0 a1).L (gt a0 a1).w (gt a0 a1).x (gt a0 a1).y (gt a0 a1).j else zk K a0 a1 (gt a0 a1).c (gt a0 a1).a (gt a0 a1).f (gt a0 a1).s (gt a0 a1).t (gt a0 a1).i (gt a0 a1).u (gt a0 a1).v (gt a0 a1).L (gt a0 a1).w (gt a0 a1).x (gt a0 a1).y (gt a0 a1).j else some false else some false else some false else none
def zl:=fd func218 ⟨[.v 35,.v 3],[.v 4],true⟩ (gC (gq K) (gC (A6c K) (gC (Bqa K) gN))) [15,16,17,21,22,23,24,28,29,30,31,34,35,55,56,61,62,63,83,84,89,90,91,100,101,115,116,119,120,121,122] [7,15,31,63]
def Bqb:=jn (zl K) 63 ka [] (fun a b _ _ _ f _ _ _ j _ _ _ _ _=>zh K a b f j) kN
def Bqc:=jn (zl K) 31 ka [] (fun a b _ _ _ f _ _ _ j _ _ _ _ _=>zi K a b f j) (kC (Bqb K) kN)
def Bqd:=jn (zl K) 15 ka [] (fun a b _ _ _ f g _ i j _ _ _ _ _=>zj K a b f g i j) (kC (Bqc K) kN)
def Bqe:=jn (zl K) 7 ka [] (zk K) (kC (Bqd K) kN)
def Bqf:=ct (zl K) (A14 K) (kC (Bqe K) kN)
def zm (a0:List Fy):Nat->Int->List Int->Option (List Int)
 |0,_,_=>none
 |n1+1,v1,v2=>(af K a0 v1).bind fun r3=>bif r3 then bif decide ((v2.length:Int)<a0.length)then if(v2++([v1]:List Int)).length*8<=140737488355328/\(v2++([v1]:List Int)).length<=maxLen then if 0<=v1/\v1<a0.length then zm a0 n1 (Ap (gt a0 v1).s 1) (v2++([v1]:List Int))else none else none else some v2 else some v2
def A15 (a0:List Fy)(a1:Int):Option (List Int):=zm K a0 K a1 ([]:List Int)
def Bb2:=fd func202 ⟨[.v 35,.v 3],[.n 25 true],true⟩ (gC (gq K) gN) [9,10]
def Bqg:=lp (Bb2 K) 28 h_4 [] (fun n a=>zm K a n) (fun n=>kN)
def Bqh:=ct (Bb2 K) (A15 K) (kC (Bqg K K) kN)
def A16 (K:Nat)(v1:List Fy)(v2 v3:Int)(C1:List Fy->Int->Int->Option Bool):Option Bool:=C1 v1 v2 (A4 v3 1)
def la (a0:List Fy):Nat->List Fy->Int->Int->Option Bool
 |0,_,_,_=>none
 |n1+1,v1,v2,v3=>bif decide (v3<v2)then if 0<=v3/\v3<v1.length then bif (gt v1 v3).c != 1 then A16 K v1 v2 v3 (la a0 n1)else(A14 K a0 v3).bind fun r4=>bif !r4 then some false else(A15 K a0 v3).bind fun r5=>bif decide ((r5.length:Int)>4)then some false else if 0<=(Ap r5.length 1)/\(Ap r5.length 1)<r5.length then(ta K a0 (gt r5 (Ap r5.length 1))).bind fun r6=>bif r6 then some false else A16 K v1 v2 v3 (la a0 n1)else none else none else some true
def A17 (a0:List Fy):Option Bool:=la K a0 K a0 (a0.length:Int) 0
def A6d:=fd func124 ⟨[.v 35],[.v 4],true⟩ (gC (Bqh K) (gC (Bqf K) (gC (A6c K) gN))) [25,26] [211]
def A18:E7:=⟨[(0,.v 35),(6,.v 35),(7,.v 2),(8,.v 2)],[]⟩
def Bqi:=fun(C26:CT A18 _)=>jn (A6d K) 211 A18 [(26,ar A18 C26)] (fun a b c d=>A16 K b c d (C26 a)) kN
def Bqj:=lp (A6d K) 26 A18 [] (fun n a=>la K a n) (fun n=>kC (Bqi K _) kN)
def Bqk:=ct (A6d K) (A17 K) (kC (Bqj K K) kN)
def tb (a0:List Fy)(a1:Int):Option Bool:=if 0<=a1/\a1<a0.length then bif (gt a0 a1).c==1 then if 0<=a1/\a1<a0.length then bif (gt a0 a1).s != 0 then(ta K a0 a1).bind fun r1=>some (!r1)else some false else none else some false else none
def Bql:=ct (fd func221 ⟨[.v 35,.v 3],[.v 4],true⟩ (gC (A6c K) gN) [10,11,17,18,19]) (tb K)
def A19 (a0:Sv)(a1:G9):Option Bool:=(sr K a0).bind fun r1=>bif r1 then(Xd K a1.d 0 a0.l).bind fun r2=>bif r2 then(Xd K a1.i 0 a0.l).bind fun r3=>bif r3 then bif decide ((a1.j.length:Int)<=6)then(sw K a1.j).bind fun r4=>bif r4 then(zd K a0 a1.L).bind fun r5=>bif r5 then(Xd K a1.z 0 (Ap a0.k 1)).bind fun r6=>bif r6 then bif decide ((a1.L.length:Int)>0)then some true else some (a1.z==0)else some false else some false else some false else some false else some false else some false else some false
def Bqm:=ct (fd func220 ⟨[.v 33,.v 79],[.v 4],true⟩ (gC (A1f K) (gC (A54 K) (gC (ba K) (gC (Bbl K) gN)))) [6,7,12,13,14,19,20,21,25,26,27,30,31,32,36,37,38,44,45,46,50,51]) (A19 K)
def pg (v4:List G9)(v5 v6:Int)(v7 v8:Int)(v9 v10:Int)(v11 v12:Int)(v13 v14 v15:List Int)(v16:List Fy)(v17:List G9)(v18 v27 v31:List Int)(r32:(List Int))(C1:List Int->List Int->List Int->List G9->Int->Int->Int->Int->Int->Int->Int->Int->List Int->List Int->List Int->List Fy->List G9->List Int->Option Bool):Nat->List Int->Int->Int->Option Bool
 |0,_,_,_=>none
 |n6+1,v33,v34,v35=>bif decide (v35<v34)then if 0<=v35/\v35<r32.length then if 0<=(gt r32 v35)/\(gt r32 v35)<v33.length then if 0<=(gt r32 v35)/\(gt r32 v35)<v33.length then(tb K v16 (gt r32 v35)).bind fun r36=>bif !r36 then some false else pg v4 v5 v6 v7 v8 v9 v10 v11 v12 v13 v14 v15 v16 v17 v18 v27 v31 r32 C1 n6 (v33.set (gt r32 v35).toNat (A4 (gt v33 (gt r32 v35)) 1)) v34 (A4 v35 1)else none else none else none else C1 v27 v31 v33 v4 v5 (A4 v6 1) v7 v8 v9 v10 v11 v12 v13 v14 v15 v16 v17 v18
def zn (v3:List Int)(v4:List G9)(v5 v6:Int)(v7 v8:Int)(v9 v10:Int)(v11 v12:Int)(v13 v14 v15:List Int)(v16:List Fy)(v17:List G9)(v18:List Int)(v23:Int)(v27 v31:List Int)(C1:List Int->List Int->List Int->List G9->Int->Int->Int->Int->Int->Int->Int->Int->List Int->List Int->List Int->List Fy->List G9->List Int->Option Bool):Option Bool:=(ol K v16 v23).bind fun r32=>pg K v4 v5 v6 v7 v8 v9 v10 v11 v12 v13 v14 v15 v16 v17 v18 v27 v31 r32 (C1) K v3 (r32.length:Int) 0
def zo (v3:List Int)(v4:List G9)(v5 v6:Int)(v7 v8:Int)(v9 v10:Int)(v11 v12:Int)(v13 v14 v15:List Int)(v16:List Fy)(v17:List G9)(v18:List Int)(v23:Int)(v27:List Int)(C1:List Int->List Int->List Int->List G9->Int->Int->Int->Int->Int->Int->Int->Int->List Int->List Int->List Int->List Fy->List G9->List Int->Option Bool)(v31:List Int):Option Bool:=bif decide (v23>0)then if 0<=(Ap v23 1)/\(Ap v23 1)<v16.length then bif (gt v16 (Ap v23 1)).v != 0 then some false else zn K v3 v4 v5 v6 v7 v8 v9 v10 v11 v12 v13 v14 v15 v16 v17 v18 v23 v27 v31 (C1)else none else zn K v3 v4 v5 v6 v7 v8 v9 v10 v11 v12 v13 v14 v15 v16 v17 v18 v23 v27 v31 (C1)
def ph (v2 v3:List Int)(v4:List G9)(v5 v6:Int)(v7 v8:Int)(v9 v10:Int)(v11 v12:Int)(v13 v14 v15:List Int)(v16:List Fy)(v17:List G9)(v18:List Int)(v22 v23:Int)(v25:List Int)(C1:List Int->List Int->List Int->List G9->Int->Int->Int->Int->Int->Int->Int->Int->List Int->List Int->List Int->List Fy->List G9->List Int->Option Bool):Nat->List Int->Int->Int->List Int->Option Bool
 |0,_,_,_,_=>none
 |n3+1,v27,v28,v29,v30=>bif decide (v29<v28)then if 0<=v29/\v29<v25.length then if 0<=(gt v25 v29)/\(gt v25 v29)<v27.length then if 0<=(gt v25 v29)/\(gt v25 v29)<v27.length then if 0<=(gt v25 v29)/\(gt v25 v29)<v14.length then bif (gt v14 (gt v25 v29)) != 2 then some false else ph v2 v3 v4 v5 v6 v7 v8 v9 v10 v11 v12 v13 v14 v15 v16 v17 v18 v22 v23 v25 C1 n3 (v27.set (gt v25 v29).toNat (A4 (gt v27 (gt v25 v29)) 1)) v28 (A4 v29 1) v30 else none else none else none else none else bif decide (v22>0)then if 0<=(Ap v22 1)/\(Ap v22 1)<v2.length then if 0<=(Ap v22 1)/\(Ap v22 1)<v2.length then if 0<=(Ap v22 1)/\(Ap v22 1)<v16.length then bif (gt v16 (Ap v22 1)).c != 2 then some false else zo K v3 v4 v5 v6 v7 v8 v9 v10 v11 v12 v13 v14 v15 v16 v17 v18 v23 v27 (C1) (v2.set (Ap v22 1).toNat (A4 (gt v2 (Ap v22 1)) 1))else none else none else none else zo K v3 v4 v5 v6 v7 v8 v9 v10 v11 v12 v13 v14 v15 v16 v17 v18 v23 v27 (C1) v2
def zp (v1 v2 v3:List Int)(v4:List G9)(v5 v6:Int)(v7 v8:Int)(v9 v10:Int)(v11 v12:Int)(v13 v14 v15:List Int)(v16:List Fy)(v17:List G9)(v18:List Int)(C1:List Int->List Int->List Int->List G9->Int->Int->Int->Int->Int->Int->Int->Int->List Int->List Int->List Int->List Fy->List G9->List Int->Option Bool)(v22 v23:Int)(v24 v25:List Int)(v26:Int):Option Bool:=ph K v2 v3 v4 v5 v6 v7 v8 v9 v10 v11 v12 v13 v14 v15 v16 v17 v18 v22 v23 v25 (C1) K v1 (v25.length:Int) 0 v25
def A2a (K:Nat)(v37 v38:Int)(v39:List Int)(C7:Int->Int->List Int->Option Bool):Option Bool:=C7 v37 (A4 v38 1) v39
def tc (K:Nat)(v40 v41:Int)(v42:List Fy)(C9:Int->Int->List Fy->Option Bool):Option Bool:=C9 v40 (A4 v41 1) v42
def cj (v2 v3:List Int)(v16:List Fy):Nat->Int->Int->List Fy->Option Bool
 |0,_,_,_=>none
 |n9+1,v40,v41,v42=>bif decide (v41<v40)then if 0<=v41/\v41<v16.length then bif (gt v16 v41).c==2 then if 0<=v41/\v41<v2.length then bif (gt v2 v41) != 1 then some false else(tb K v42 v41).bind fun r43=>bif r43 then if 0<=v41/\v41<v3.length then bif (gt v3 v41) != 1 then some false else tc K v40 v41 v42 (cj v2 v3 v16 n9)else none else tc K v40 v41 v42 (cj v2 v3 v16 n9)else none else(tb K v42 v41).bind fun r44=>bif r44 then if 0<=v41/\v41<v3.length then bif (gt v3 v41) != 1 then some false else tc K v40 v41 v42 (cj v2 v3 v16 n9)else none else tc K v40 v41 v42 (cj v2 v3 v16 n9)else none else some true
def gv (v1 v2:List Int)(v3 v14:List Int)(v16:List Fy):Nat->Int->Int->List Int->Option Bool
 |0,_,_,_=>none
 |n7+1,v37,v38,v39=>bif decide (v38<v37)then if 0<=v38/\v38<v14.length then bif (gt v14 v38)==2 then if 0<=v38/\v38<v1.length then bif (gt v1 v38) != 1 then some false else A2a K v37 v38 v39 (gv v1 v2 v3 v14 v16 n7)else none else A2a K v37 v38 v39 (gv v1 v2 v3 v14 v16 n7)else none else cj K v2 v3 v16 K (v16.length:Int) 0 v16
def Ys:Nat->List Int->List Int->List Int->List G9->Int->Int->Int->Int->Int->Int->Int->Int->List Int->List Int->List Int->List Fy->List G9->List Int->Option Bool
 |0,_,_,_,_,_,_,_,_,_,_,_,_,_,_,_,_,_,_=>none
 |n1+1,v1,v2,v3,v4,v5,v6,v7,v8,v9,v10,v11,v12,v13,v14,v15,v16,v17,v18=>bif decide (v6<v5)then if 0<=v6/\v6<v4.length then(A19 K (Sv.mk v7 v8 v9 v10 v11 v12) (gt v4 v6)).bind fun r19=>bif r19 then bif decide (((gt v4 v6).L.length:Int)>0)then if(0:Int)<=0/\0<(((gt v4 v6).L).length:Int)then(ss K (Pc.mk v13 v14 v15) (Sv.mk v7 v8 v9 v10 v11 v12) (gt (gt v4 v6).L 0)).bind fun r20=>if(0:Int)<=0/\0<=(gt v4 v6).z/\(gt v4 v6).z<=r20.length then(oy K ((r20.drop (0:Int).toNat).take (((gt v4 v6).z) - 0).toNat)).bind fun r21=>bif !r21 then some false else zp K v1 v2 v3 v4 v5 v6 v7 v8 v9 v10 v11 v12 v13 v14 v15 v16 v17 v18 (Ys n1) (gt v4 v6).d (gt v4 v6).i (gt v4 v6).j (gt v4 v6).L (gt v4 v6).z else none else none else zp K v1 v2 v3 v4 v5 v6 v7 v8 v9 v10 v11 v12 v13 v14 v15 v16 v17 v18 (Ys n1) (gt v4 v6).d (gt v4 v6).i (gt v4 v6).j (gt v4 v6).L (gt v4 v6).z else some false else none else gv K v1 v2 v3 v14 v16 K (v14.length:Int) 0 v14
def A2b (a0:H4):Option Bool:=if 0<=a0.C.L/\a0.C.L<=a0.C.L/\(8:Int)*a0.C.L<=281474976710656/\a0.C.L<=9223372036854775807 then if 0<=a0.C.l/\a0.C.l<=a0.C.l/\(8:Int)*a0.C.l<=281474976710656/\a0.C.l<=9223372036854775807 then if 0<=a0.C.l/\a0.C.l<=a0.C.l/\(8:Int)*a0.C.l<=281474976710656/\a0.C.l<=9223372036854775807 then Ys K K (List.replicate a0.C.L.toNat (0:Int)) (List.replicate a0.C.l.toNat (0:Int)) (List.replicate a0.C.l.toNat (0:Int)) a0.p (a0.p.length:Int) 0 a0.C.L a0.C.k a0.C.l a0.C.e a0.C.m a0.C.n a0.Q.g a0.Q.c a0.Q.h a0.o a0.p a0.q else none else none else none
def ck:=fd func125 ⟨[.v 38],[.v 4],true⟩ (gC (A1i K) (gC (A09 K) (gC (A5t K) (gC (Bqm K) (gC (Bql K) gN))))) [38,39,40,44,45,105,106,150,151,169,170,175,176,177,181,182] [979,2003,3737,14951,29903]
def Bqn:E7:=⟨[(1,.p 101),(3,.o 1003 3 true),(4,.o 1004 3 true),(5,.o 1005 3 true),(29,.v 36),(30,.v 2),(31,.v 2),(121,.v 25),(122,.v 2),(123,.v 2)],[(101,.box W4)]⟩
def A6e:E7:=⟨[(1,.p 101),(3,.o 1003 3 true),(4,.o 1004 3 true),(5,.o 1005 3 true),(7,.p 107),(29,.v 36),(30,.v 2),(31,.v 2)],[(107,.box fw),(101,.box W4)]⟩
def Bqo:E7:=⟨[(1,.p 101),(3,.o 1003 3 true),(4,.o 1004 3 true),(5,.o 1005 3 true),(7,.p 107),(29,.v 36),(30,.v 2),(31,.v 2),(63,.v 25),(64,.v 2),(65,.v 2)],[(107,.box fw),(101,.box W4)]⟩
def A2c:E7:=⟨[(1,.p 101),(3,.o 1003 3 true),(4,.o 1004 3 true),(5,.o 1005 3 true),(142,.v 25),(143,.v 2),(144,.v 2)],[(101,.box W4)]⟩
def A2d:E7:=⟨[(1,.p 101),(4,.o 1004 3 true),(5,.o 1005 3 true),(160,.v 35),(161,.v 2),(162,.v 2)],[(101,.box W4)]⟩
def cm:E7:=⟨[(1,.p 101),(3,.o 1003 3 true),(4,.o 1004 3 true),(5,.o 1005 3 true),(29,.v 36),(30,.v 2),(31,.v 2)],[(101,.box W4)]⟩
def Bqp:=fun(C58:CT cm _)=>lp (ck K) 239230 Bqn [(58,ar cm C58)] (fun n a b c d e f g h i j k l m o p q r s t u v=>pg K d e f j k l m o p q r s t u v a b g C58 n c h i) (fun n=>kN)
def Bqq:=fun(C58:CT cm _)=>jn (ck K) 29903 A6e [(58,ar cm C58)] (fun a b c d e f _ h _ _ _ l m o p q r s t u v w x=>zn K c d e f l m o p q r s t u v w x h a b C58) (kC (Bqp K _ K) kN)
def Bqr:=fun(C58:CT cm _)=>jn (ck K) 14951 A6e [(58,ar cm C58)] (fun a b c d e f _ h _ _ _ l m o p q r s t u v w x=>zo K c d e f l m o p q r s t u v w x h a C58 b) (kC (Bqq K _) kN)
def Bqs:=fun(C58:CT cm _)=>lp (ck K) 59802 Bqo [(58,ar cm C58)] (fun n a b c d e f g h i j k _ m _ p q r s t u v w x y z a1=>ph K b c d e f p q r s t u v w x y z a1 j k g C58 n a h i m) (fun n=>kC (up (Bqr K _)) kN)
def Bqt:=fun(C58:CT cm _)=>jn (ck K) 3737 A6e [(58,ar cm C58)] (fun a b c d e f g h i j k l m o p q r s t u v w x=>zp K a b c d e f l m o p q r s t u v w x C58 g h i j k) (kC (Bqs K _ K) kN)
def Bqu:=fun(C122:CT A2c _)=>jn (ck K) 979 A2c [(122,ar A2c C122)] (fun a b c d e f g h i j k l m o p q r s=>A2a K e f o (fun v37 v38 v39=>C122 a b c d v37 v38 g h i j k l m v39 p q r s)) kN
def Bqv:=fun(C250:CT A2d _)=>jn (ck K) 2003 A2d [(250,ar A2d C250)] (fun a b c d e f g h i j k l m o p q r=>tc K d e p (fun v40 v41 v42=>C250 a b c v40 v41 f g h i j k l m o v42 q r)) kN
def Bqw:=lp (ck K) 250 A2d [] (fun n a b c d e _ _ _ _ _ _ _ _ _ p _ _=>cj K a b c n d e p) (fun n=>kC (Bqv K _) kN)
def Bqx:=lp (ck K) 122 A2c [] (fun n a b c d e f _ _ _ _ _ _ _ o _ q _ _=>gv K a b c d q n e f o) (fun n=>kC (Bqu K _) (kC (up (Bqw K K)) kN))
def Bqy:=lp (ck K) 58 cm [] (Ys K) (fun n=>kC (Bqt K _) (kC (up (Bqx K K)) kN))
def Bqz:=ct (ck K) (A2b K) (kC (Bqy K K) kN)
def zq (a0:H4):Option Bool:=(za K a0.C a0.Q).bind fun r1=>bif r1 then bif (a0.o.length:Int)==a0.C.l then(A12 K a0).bind fun r2=>bif r2 then(A17 K a0.o).bind fun r3=>bif r3 then(A2b K a0).bind fun r4=>bif r4 then(sw K a0.q).bind fun r5=>some r5 else some false else some false else some false else some false else some false
def Bb3:=ct (fd func32 ⟨[.v 38],[.v 4],true⟩ (gC (Bbf K) (gC (Bp9 K) (gC (Bqk K) (gC (Bqz K) (gC (A54 K) gN))))) [7,8,15,16,17,19,20,21,24,25,26,28,29,30]) (zq K)
def A6f (K:Nat):Option Bool:=some true
def Bq0:=ct (fd func167 ⟨[],[.v 4],true⟩ gN) (A6f K)
def A6g (K:Nat)(a0:G9):Option Int:=bif decide ((a0.j.length:Int)>0)then some 1 else bif decide ((a0.L.length:Int)>0)then some 2 else bif a0.i != 0 then some 3 else some 4
def Bq1:=ct (fd func264 ⟨[.v 79],[.v 3],true⟩ gN) (A6g K)
def A2e (K:Nat)(v7:Bool)(v9:Pc):Option (Pc×Bool):=some (v9,v7)
def zr (a0:Sv)(a2 a3:Int)(r1:Pc)(v7:Bool)(v8:Pc):Option (Pc×Bool):=if 0<=(Gx a2 a0.k)/\(Gx a2 a0.k)<(Gx (A4 a2 1) a0.k)/\(Gx (A4 a2 1) a0.k)<=r1.g.length then if 0<=a3/\a3<=(M6 (A4 a3 a0.m) a0.k)/\(M6 (A4 a3 a0.m) a0.k)<=(Gx (A4 a2 1) a0.k) - (Gx a2 a0.k)then if 0<(((Gx a2 a0.k)+(M6 (A4 a3 a0.m) a0.k)) - ((Gx a2 a0.k)+a3)).toNat then bif v7 then if 0<=a2/\a2<r1.c.length then A2e K v7 (Pc.mk (r1.g.take ((Gx a2 a0.k)+a3).toNat++List.replicate (((Gx a2 a0.k)+(M6 (A4 a3 a0.m) a0.k)) - ((Gx a2 a0.k)+a3)).toNat 0++r1.g.drop (((Gx a2 a0.k)+a3).toNat+(((Gx a2 a0.k)+(M6 (A4 a3 a0.m) a0.k)) - ((Gx a2 a0.k)+a3)).toNat)) (r1.c.set a2.toNat 0) r1.h)else none else A2e K v7 (Pc.mk (r1.g.take ((Gx a2 a0.k)+a3).toNat++List.replicate (((Gx a2 a0.k)+(M6 (A4 a3 a0.m) a0.k)) - ((Gx a2 a0.k)+a3)).toNat 0++r1.g.drop (((Gx a2 a0.k)+a3).toNat+(((Gx a2 a0.k)+(M6 (A4 a3 a0.m) a0.k)) - ((Gx a2 a0.k)+a3)).toNat)) r1.c r1.h)else none else none else none
def A2f (a0:Sv)(a1:Pc)(a2 a3:Int):Option (Pc×Bool):=(sq K a1).bind fun r1=>(za K a0 a1).bind fun r2=>bif r2 then(Xd K a2 0 (Ap a0.L 1)).bind fun r3=>bif r3 then if 0<=a2/\a2<a1.c.length then bif (gt a1.c a2) != 2 then some (r1,false)else(Xd K a3 0 (Ap a0.k 1)).bind fun r4=>bif !r4 then some (r1,false)else bif decide ((A4 a3 a0.m)>=a0.k)then(ss K a1 a0 a2).bind fun r5=>if(0:Int)<=0/\0<=a3/\a3<=r5.length then(oy K ((r5.drop (0:Int).toNat).take (a3 - 0).toNat)).bind fun r6=>bif !r6 then some (r1,false)else zr K a0 a2 a3 r1 (decide ((A4 a3 a0.m)>=a0.k)) (Pc.mk [] [] [])else none else zr K a0 a2 a3 r1 (decide ((A4 a3 a0.m)>=a0.k)) (Pc.mk [] [] [])else none else some (r1,false)else some (r1,false)
def A6h:=fk func265 ⟨[.v 33,.v 34,.v 3,.v 3],[.n 34 true,.v 4],true⟩ (gC (A1i K) (gC (Bbf K) (gC (ba K) (gC (A5t K) (gC (A5s K) gN))))) oN (Ayc (d:=65) (q:=Ail tyU tab 209) (Ayj Ayk Ayq) (Ayc (d:=74) (q:=Aim tyU tab) (Ayi) Ayb)) [16,17,18,23,24,25,26,32,33,34,50,51] [31,127] [(7,[.take 110 0 6760,.take 110 1 6761,.take 110 2 6762]),(10,[.take 110 0 6760,.take 110 1 6761,.take 110 2 6762])]
def Bq2:E7:=⟨[(8,.p 108),(10,.p 110),(11,.v 4)],[(110,.st 34 true),(108,.st 34 true)]⟩
def Bq3:E7:=⟨[(2,.v 2),(3,.v 2),(4,.p 104),(8,.p 108),(10,.p 110),(11,.v 4)],[(110,.st 34 true),(108,.st 34 true),(104,.st 33 true)]⟩
def Bq4:=jn (A6h K) 127 Bq2 [] (fun a b _=>A2e K a b) kN
def Bq5:=jn (A6h K) 31 Bq3 [] (fun a b c d e f=>zr K f a b d c e) (kC (Bq4 K) kN)
def Bq6:=ct (A6h K) (A2f K) (kC (Bq5 K) kN)
def zt (K:Nat)(v3 v4:Pc):Option Pc:=some v3
def A2g (a0:Pc)(a1:Int):Option Pc:=(sq K a0).bind fun r1=>(Xd K a1 0 (Ap (M6 (a0.c.length:Int) (a0.h.length:Int)) 1)).bind fun r2=>bif r2 then if 0<=a1/\a1<a0.c.length then bif (gt a0.c a1)==1 then if 0<=a1/\a1<r1.c.length then if 0<=a1/\a1<r1.h.length then zt K (Pc.mk r1.g (r1.c.set a1.toNat 2) (r1.h.set a1.toNat (-1))) (Pc.mk [] [] [])else none else none else zt K r1 (Pc.mk [] [] [])else none else zt K r1 (Pc.mk [] [] [])
def Bb4:=fd func285 ⟨[.v 34,.v 3],[.n 34 true],true⟩ (gC (ba K) (gC (A5s K) gN)) [17,18] [7] [(4,[.take 105 0 6680,.take 105 1 6681,.take 105 2 6682])]
def Bq7:=jn (Bb4 K) 7 A9s [] (zt K) kN
def Bq8:=ct (Bb4 K) (A2g K) (kC (Bq7 K) kN)
def pj:Nat->List Int->Int->Int->Int->Int->Int->Int->Int->Int->List Int->List Int->List Int->List Fy->List G9->List Int->Option H4
 |0,_,_,_,_,_,_,_,_,_,_,_,_,_,_,_=>none
 |n1+1,v1,v2,v3,v4,v5,v6,v7,v8,v9,v10,v11,v12,v13,v14,v15=>bif decide (v3<v2)then if 0<=v3/\v3<v1.length then(A2g K (Pc.mk v10 v11 v12) (gt v1 v3)).bind fun r16=>pj n1 v1 v2 (A4 v3 1) v4 v5 v6 v7 v8 v9 r16.g r16.c r16.h v13 v14 v15 else none else some (H4.mk (Sv.mk v4 v5 v6 v7 v8 v9) (Pc.mk v10 v11 v12) v13 v14 v15)
def A2h (a0:H4)(a1:Int):Option H4:=if 0<=a1/\a1<a0.o.length then pj K K (gt a0.o a1).L (((gt a0.o a1).L).length:Int) 0 a0.C.L a0.C.k a0.C.l a0.C.e a0.C.m a0.C.n a0.Q.g a0.Q.c a0.Q.h a0.o a0.p a0.q else none
def Bb5:=fd func204 ⟨[.b 10038 false,.v 3],[],false⟩ (gC (Bq8 K) gN) [] [] [(0,[.take 1 9 5025]),(3,[.take 1 6 5022,.take 1 7 5023,.take 1 8 5024])]
def Bq9:E7:=⟨[(0,.p 1),(13,.v 25),(14,.v 2),(15,.v 2)],[(1,.box bx0)]⟩
def Bra:=lp (Bb5 K) 6 Bq9 [] (pj K) (fun n=>kN)
def Brb:=ct (Bb5 K) (A2h K) (kC (Bra K K) kN)
def A6i (K:Nat)(a0:Fy):Option Fy:=some (Fy.mk 2 a0.a 0 0 0 0 0 0 [] 0 0 [] [])
def Brc:=ct (fd func206 ⟨[.v 77],[.n 77 false],true⟩ gN) (A6i K)
def zu (K:Nat)(v3:List Fy):Option (List Fy):=some v3
def A2i (a0:List Fy)(a1 a2:Int):Option (List Fy):=(yy K a0).bind fun r1=>(af K a0 a1).bind fun r2=>bif !r2 then zu K r1 else if 0<=a1/\a1<a0.length then bif decide (((gt a0 a1).a)>=a2)then if 0<=a1/\a1<r1.length then if 0<=a1/\a1<a0.length then if 0<=a1/\a1<r1.length then zu K (r1.set a1.toNat (Fy.mk 3 (gt a0 a1).a 0 0 0 0 0 0 [] 0 0 [] []))else none else none else none else if 0<=a1/\a1<r1.length then if 0<=a1/\a1<a0.length then if 0<=a1/\a1<r1.length then zu K (r1.set a1.toNat (Fy.mk 0 (A4 (gt a0 a1).a 1) 0 0 0 0 0 0 [] 0 0 [] []))else none else none else none else none
def Bb6:=fd func268 ⟨[.v 35,.v 3,.v 3],[.n 35 true],false⟩ (gC (gq K) (gC (Bba K) gN)) [] [7] [(2,[.opn 1007 (.tmp 1)]),(5,[.opn 1007 (.tmp 1)])]
def Brd:=jn (Bb6 K) 7 A41 [] (zu K) kN
def Bre:=ct (Bb6 K) (A2i K) (kC (Brd K) kN)
def zv (v6 v7:Int)(v8 v9:Int)(v10 v11 v12:Int)(v13 v14 v15:List Int)(v16:List Fy)(v17:List G9)(v18:List Int)(v19 v20:Int)(v21 v22:Int)(v23 v24:Int)(v25 v26:Int)(v27:List Int)(v28 v29:Int)(v30:List H3)(v31:List Int):Option H4:=(A6i K (Fy.mk v19 v20 v21 v22 v23 v24 v25 v26 v27 v28 v29 v30 v31)).bind fun r32=>if 0<=v6/\v6<v16.length then(sm K (Fy.mk v19 v20 v21 v22 v23 v24 v25 v26 v27 v28 v29 v30 v31) (A4 v6 1)).bind fun r33=>if(v17.length+1)*72<=140737488355328/\v17.length+1<=maxLen then some (H4.mk (Sv.mk v7 v8 v9 v10 v11 v12) (Pc.mk v13 v14 v15) (v16.set v6.toNat r32) (((default:G9)::v17).set (0:Int).toNat r33) v18)else none else none
def zw (a0:H4):Option H4:=if(0:Int)<=0/\0<(a0.p.length:Int)then(A6g K (gt a0.p 0)).bind fun r1=>bif r1==1 then if 0<=(Ap (((gt a0.p 0).j).length:Int) 1)/\(Ap (((gt a0.p 0).j).length:Int) 1)<(((gt a0.p 0).j).length:Int)then if(a0.q++([(gt (gt a0.p 0).j (Ap (((gt a0.p 0).j).length:Int) 1))]:List Int)).length*8<=140737488355328/\(a0.q++([(gt (gt a0.p 0).j (Ap (((gt a0.p 0).j).length:Int) 1))]:List Int)).length<=maxLen then if(0:Int)<=0/\0<=(Ap (((gt a0.p 0).j).length:Int) 1)/\(Ap (((gt a0.p 0).j).length:Int) 1)<=(((gt a0.p 0).j).length:Int)then some (H4.mk a0.C a0.Q a0.o (a0.p.set (0:Int).toNat (G9.mk (gt a0.p 0).d (gt a0.p 0).i (((gt a0.p 0).j).take (Ap (((gt a0.p 0).j).length:Int) 1).toNat) (gt a0.p 0).L (gt a0.p 0).z)) (a0.q++([(gt (gt a0.p 0).j (Ap (((gt a0.p 0).j).length:Int) 1))]:List Int)))else none else none else none else bif r1==2 then if(0:Int)<=0/\0<(((gt a0.p 0).L).length:Int)then(A2f K a0.C a0.Q (gt (gt a0.p 0).L 0) (gt a0.p 0).z).bind fun r2=>bif r2.2 then if 0<(gt a0.p 0).L.length then some (H4.mk a0.C r2.1 a0.o (a0.p.set (0:Int).toNat (G9.mk (gt a0.p 0).d (gt a0.p 0).i (gt a0.p 0).j (((gt a0.p 0).L).drop 1) 0)) a0.q)else none else some (H4.mk a0.C r2.1 a0.o (a0.p.set (0:Int).toNat (G9.mk (gt a0.p 0).d (gt a0.p 0).i (gt a0.p 0).j (gt a0.p 0).L (A4 (gt a0.p 0).z a0.C.m))) a0.q)else none else bif r1==3 then if 0<=(Ap (gt a0.p 0).i 1)/\(Ap (gt a0.p 0).i 1)<a0.o.length then(A2h K (H4.mk a0.C a0.Q a0.o (a0.p.set (0:Int).toNat (G9.mk (gt a0.p 0).d (gt a0.o (Ap (gt a0.p 0).i 1)).u (gt a0.p 0).j (gt a0.p 0).L (gt a0.p 0).z)) a0.q) (Ap (gt a0.p 0).i 1)).bind fun r3=>(af K r3.o (Ap (gt a0.o (Ap (gt a0.p 0).i 1)).u 1)).bind fun r4=>bif r4 then if 0<=(Ap (gt a0.o (Ap (gt a0.p 0).i 1)).u 1)/\(Ap (gt a0.o (Ap (gt a0.p 0).i 1)).u 1)<r3.o.length then Ax5 (r3.o.set (Ap (gt a0.o (Ap (gt a0.p 0).i 1)).u 1).toNat (Fy.mk (gt r3.o (Ap (gt a0.o (Ap (gt a0.p 0).i 1)).u 1)).c (gt r3.o (Ap (gt a0.o (Ap (gt a0.p 0).i 1)).u 1)).a (gt r3.o (Ap (gt a0.o (Ap (gt a0.p 0).i 1)).u 1)).f (gt r3.o (Ap (gt a0.o (Ap (gt a0.p 0).i 1)).u 1)).s (gt r3.o (Ap (gt a0.o (Ap (gt a0.p 0).i 1)).u 1)).t (gt r3.o (Ap (gt a0.o (Ap (gt a0.p 0).i 1)).u 1)).i (gt r3.o (Ap (gt a0.o (Ap (gt a0.p 0).i 1)).u 1)).u 0 (gt r3.o (Ap (gt a0.o (Ap (gt a0.p 0).i 1)).u 1)).L (gt r3.o (Ap (gt a0.o (Ap (gt a0.p 0).i 1)).u 1)).w (gt r3.o (Ap (gt a0.o (Ap (gt a0.p 0).i 1)).u 1)).x (gt r3.o (Ap (gt a0.o (Ap (gt a0.p 0).i 1)).u 1)).y (gt r3.o (Ap (gt a0.o (Ap (gt a0.p 0).i 1)).u 1)).j)) fun v5=>zv K (Ap (gt a0.p 0).i 1) r3.C.L r3.C.k r3.C.l r3.C.e r3.C.m r3.C.n r3.Q.g r3.Q.c r3.Q.h v5 r3.p r3.q (gt a0.o (Ap (gt a0.p 0).i 1)).c (gt a0.o (Ap (gt a0.p 0).i 1)).a (gt a0.o (Ap (gt a0.p 0).i 1)).f (gt a0.o (Ap (gt a0.p 0).i 1)).s (gt a0.o (Ap (gt a0.p 0).i 1)).t (gt a0.o (Ap (gt a0.p 0).i 1)).i (gt a0.o (Ap (gt a0.p 0).i 1)).u (gt a0.o (Ap (gt a0.p 0).i 1)).v (gt a0.o (Ap (gt a0.p 0).i 1)).L (gt a0.o (Ap (gt a0.p 0).i 1)).w (gt a0.o (Ap (gt a0.p 0).i 1)).x (gt a0.o (Ap (gt a0.p 0).i 1)).y (gt a0.o (Ap (gt a0.p 0).i 1)).j else none else zv K (Ap (gt a0.p 0).i 1) r3.C.L r3.C.k r3.C.l r3.C.e r3.C.m r3.C.n r3.Q.g r3.Q.c r3.Q.h r3.o r3.p r3.q (gt a0.o (Ap (gt a0.p 0).i 1)).c (gt a0.o (Ap (gt a0.p 0).i 1)).a (gt a0.o (Ap (gt a0.p 0).i 1)).f (gt a0.o (Ap (gt a0.p 0).i 1)).s (gt a0.o (Ap (gt a0.p 0).i 1)).t (gt a0.o (Ap (gt a0.p 0).i 1)).i (gt a0.o (Ap (gt a0.p 0).i 1)).u (gt a0.o (Ap (gt a0.p 0).i 1)).v (gt a0.o (Ap (gt a0.p 0).i 1)).L (gt a0.o (Ap (gt a0.p 0).i 1)).w (gt a0.o (Ap (gt a0.p 0).i 1)).x (gt a0.o (Ap (gt a0.p 0).i 1)).y (gt a0.o (Ap (gt a0.p 0).i 1)).j else none else bif decide (((gt a0.p 0).d)>0)then(A2i K a0.o (Ap (gt a0.p 0).d 1) a0.C.n).bind fun r34=>if 0<(a0.p.set (0:Int).toNat (gt a0.p 0)).length then some (H4.mk a0.C a0.Q r34 ((a0.p.set (0:Int).toNat (gt a0.p 0)).drop 1) a0.q)else none else if 0<a0.p.length then some (H4.mk a0.C a0.Q a0.o (a0.p.drop 1) a0.q)else none else none
def Bb7:=fk func171 ⟨[.b 10038 false],[],false⟩ (gC (gq K) (gC (Ba3 K) (gC (Brb K) (gC (Brc K) (gC (Bq1 K) (gC (Bq6 K) (gC (Bre K) gN))))))) oN (Ayc (d:=45) (q:=Aij tyU tab 269 5) (Ayf Ayk Ayo) (Ayc (d:=128) (q:=Aij tyU tab 266 1) (Ayf Ayk Ayn) (Ayc (d:=189) (q:=Ain tyU tab) (Ayh Ayk) (Ayc (d:=190) (q:=Aik tyU tab 267 5 72) (Ayg Ayk Ayp) Ayb)))) [] [15343] [(0,[.take 1 10 5026]),(1,[.opp 5026 2,.takeE 5026 2 41666,.takeE 5026 3 41667]),(3,[.take 1 9 5025,.frz 5025]),(4,[.put 5026]),(7,[.take 1 11 5027]),(10,[.take 1 6 5022,.take 1 7 5023,.take 1 8 5024]),(17,[.take 1 9 5025]),(19,[.put 1]),(20,[.take 1 9 5025]),(22,[.take 1 9 5025]),(23,[.take 1 10 5026])] [(78,[.cut 78])]
def Brf:E7:=⟨[(0,.p 1),(6,.v 2),(7,.p 107)],[(1,.box bx0),(107,.box bu)]⟩
def Brg:=jn (Bb7 K) 15343 Brf [] (zv K) kN
def Bb8:=ct (Bb7 K) (zw K) (kC (Brg K) kN)
def zx (a1:Int):Nat->Int->Int->Int->Int->Int->Int->Int->List Int->List Int->List Int->List Fy->List G9->List Int->Option (Int×H4)
 |0,_,_,_,_,_,_,_,_,_,_,_,_,_=>none
 |n1+1,v1,v2,v3,v4,v5,v6,v7,v8,v9,v10,v11,v12,v13=>bif decide (v1<a1)then bif decide ((v12.length:Int)>0)then(A6f K).bind fun r14=>bif r14 then(zw K (H4.mk (Sv.mk v2 v3 v4 v5 v6 v7) (Pc.mk v8 v9 v10) v11 v12 v13)).bind fun r15=>zx a1 n1 (A4 v1 1) r15.C.L r15.C.k r15.C.l r15.C.e r15.C.m r15.C.n r15.Q.g r15.Q.c r15.Q.h r15.o r15.p r15.q else some (v1,(H4.mk (Sv.mk v2 v3 v4 v5 v6 v7) (Pc.mk v8 v9 v10) v11 v12 v13))else some (v1,(H4.mk (Sv.mk v2 v3 v4 v5 v6 v7) (Pc.mk v8 v9 v10) v11 v12 v13))else some (v1,(H4.mk (Sv.mk v2 v3 v4 v5 v6 v7) (Pc.mk v8 v9 v10) v11 v12 v13))
def A6j (a0:H4)(a1:Int):Option (Int×H4):=zx K a1 K 0 a0.C.L a0.C.k a0.C.l a0.C.e a0.C.m a0.C.n a0.Q.g a0.Q.c a0.Q.h a0.o a0.p a0.q
def Bb9:=fd func161 ⟨[.b 10038 false,.v 3,.f 167 [] []],[.v 3],false⟩ (gC (Bq0 K) (gC (Bb8 K) gN)) [10,11,17,18,19] [] [(2,[.take 1 10 5026]),(3,[.put 1])]
def Brh:E7:=⟨[(0,.p 1),(1,.v 2),(2,.f 167 [] []),(7,.v 2)],[(1,.box bx0)]⟩
def Bri:=lp (Bb9 K) 28 Brh [] (fun n a=>zx K a n) (fun n=>kN)
def Brj:=ct (Bb9 K) (A6j K) (kC (Bri K K) kN)
def A2j (a0:H4)(a1:Int):Option (H4×Int):=(yz K a0).bind fun r1=>(zq K a0).bind fun r2=>bif r2 then(Xd K a1 0 4000).bind fun r3=>bif !r3 then some (r1,0)else(A6j K r1 a1).bind fun r4=>some (r4.2,r4.1)else some (r1,0)
def Brk:=ct (fd func57 ⟨[.v 38,.v 3],[.v 38,.v 3],false⟩ (gC (Bb3 K) (gC (ba K) (gC (Bbc K) (gC (Brj K) gN)))) [11,12,13] [] [(4,[.put 106,.take 106 9 6705,.shal 6705,.put 106]),(5,[.take 106 6 6702,.take 106 7 6703,.take 106 8 6704,.take 106 9 6705,.take 106 10 6706,.take 106 11 6707])]) (A2j K)
def A2k (a0:H4):Option (H4×Bool):=(yz K a0).bind fun r1=>(zq K a0).bind fun r2=>bif r2 then bif (a0.p.length:Int)==0 then some (r1,false)else(zw K r1).bind fun r3=>some (r3,true)else some (r1,false)
def Brl:=ct (fd func55 ⟨[.v 38],[.v 38,.v 4],false⟩ (gC (Bb3 K) (gC (Bbc K) (gC (Bb8 K) gN))) [8,9,10] [] [(4,[.put 104,.take 104 9 6673,.shal 6673,.put 104]),(5,[.take 104 6 6670,.take 104 7 6671,.take 104 8 6672,.take 104 9 6673,.take 104 10 6674,.take 104 11 6675])]) (A2k K)
def A2l (a0:Sv)(a1:Int):Option Int:=(xe K a1 a0.m).bind fun r1=>some r1
def Brm:=ct (fd func278 ⟨[.v 33,.v 3],[.v 3],true⟩ (gC (A96 K) gN)) (A2l K)
def A2m (K:Nat)(v2 v3 v4:Int)(v5 v6:List Int)(v7:Int)(C1:Int->Int->Int->Int->List Int->List Int->Int->Option Int)(v9:Int):Option Int:=C1 v9 (A4 v2 1) v3 v4 v5 v6 v7
def pk (a0:Sv):Nat->Int->Int->Int->Int->List Int->List Int->Int->Option Int
 |0,_,_,_,_,_,_,_=>none
 |n1+1,v1,v2,v3,v4,v5,v6,v7=>bif decide (v2<v6.length)then bif v2==0 then(A2l K a0 (Ap a0.k v7)).bind fun r8=>A2m K v2 v3 v4 v5 v6 v7 (pk a0 n1) (A4 v1 r8)else(A2l K a0 a0.k).bind fun r10=>A2m K v2 v3 v4 v5 v6 v7 (pk a0 n1) (A4 v1 r10)else some v1
def zy (a0:Sv)(a1:G9):Option Int:=pk K a0 K (A4 a1.j.length 1) 0 a1.d a1.i a1.j a1.L a1.z
def A6k:=fd func180 ⟨[.v 33,.v 79],[.v 3],true⟩ (gC (Brm K) gN) [] [233]
def A2n:E7:=⟨[(2,.p 102),(3,.p 103),(5,.v 2),(6,.v 2)],[(103,.box fw),(102,.st 33 true)]⟩
def Brn:=fun(C58:CT A2n _)=>jn (A6k K) 233 A2n [(58,ar A2n C58)] (fun a b c d e f g h=>A2m K b c d e f g (fun v1 v2 v3 v4 v5 v6 v7=>C58 v1 v2 v3 v4 v5 v6 v7 h) a) kN
def Bro:=lp (A6k K) 58 A2n [] (fun n a b c d e f g h=>pk K h n a b c d e f g) (fun n=>kC (Brn K _) kN)
def Bca:=ct (A6k K) (zy K) (kC (Bro K K) kN)
def pm (K:Nat)(Rc:H4->Int->List Int->Option (Int×(List Int)))(r5:(List Int)):Nat->List Int->Int->Int->Int->Int->Int->Int->Int->Int->List Int->List Int->List Int->List Fy->List G9->List Int->Option (Int×(List Int))
 |0,_,_,_,_,_,_,_,_,_,_,_,_,_,_,_=>none
 |n1+1,v6,v7,v8,v9,v10,v11,v12,v13,v14,v15,v16,v17,v18,v19,v20=>bif decide (v8<r5.length)then if 0<=v8/\v8<r5.length then(Rc (H4.mk (Sv.mk v9 v10 v11 v12 v13 v14) (Pc.mk v15 v16 v17) v18 v19 v20) (gt r5 v8) v6).bind fun r21=>pm K Rc r5 n1 r21.2 (A4 v7 r21.1) (A4 v8 1) v9 v10 v11 v12 v13 v14 v15 v16 v17 v18 v19 v20 else none else some (v7,v6)
def A2o (Rc:H4->Int->List Int->Option (Int×(List Int)))(a0:H4)(a1:Int)(a2:List Int):Option (Int×(List Int)):=(V4 K a1 0 (Ap a0.o.length 1)).bind fun r1=>bif r1 then(ay K a2 a1).bind fun r2=>bif r2 then some (0,a2)else if(([]:List Int)++a2).length*8<=140737488355328/\(([]:List Int)++a2).length<=maxLen then if((([]:List Int)++a2)++([a1]:List Int)).length*8<=140737488355328/\((([]:List Int)++a2)++([a1]:List Int)).length<=maxLen then if 0<=a1/\a1<a0.o.length then(jv K (gt a0.o a1) 0).bind fun r3=>(zy K a0.C r3).bind fun r4=>if 0<=a1/\a1<a0.o.length then(kg K a0.o (gt a0.o a1).i).bind fun r5=>pm K Rc r5 K ((([]:List Int)++a2)++([a1]:List Int)) (A4 1 r4) 0 a0.C.L a0.C.k a0.C.l a0.C.e a0.C.m a0.C.n a0.Q.g a0.Q.c a0.Q.h a0.o a0.p a0.q else none else none else none else none else some (0,a2)
def co:Nat->H4->Int->List Int->Option (Int×(List Int))
 |0,_,_,_=>none
 |K+1,a0,a1,a2=>A2o K (co K) a0 a1 a2
def A2p:Sig:=⟨[.v 38,.v 3,.v 25],[.v 3,.v 25],false⟩
def Bcb (Rc:H4->Int->List Int->Option (Int×(List Int)))(hR:X6 182 ⟨A2p,Rc⟩):=fd func182 A2p (gC (Xx K) (gC (xx K) (gC (Bca K) (gC hR (gC (nl K) (gC (Ay3 K) gN)))))) [18,19,20]
def Bcc:E7:=⟨[(2,.v 25),(3,.p 103),(8,.v 2),(9,.v 25),(10,.v 2)],[(103,.box W4)]⟩
def Brp (Rc:H4->Int->List Int->Option (Int×(List Int)))(hR:X6 182 ⟨A2p,Rc⟩):=lp (Bcb K Rc hR) 506 Bcc [] (fun n a b c=>pm K Rc c n a b) (fun n=>kN)
theorem Bcd: ∀K:Nat,X6 182 ⟨A2p,co K⟩
 |0=>⟨(by intro a0 a1 a2 r h;cases h),_,func182,rfl,rfl⟩
 |K+1=>have ih:=Bcd K;ct (Bcb K (co K) ih) (A2o K (co K)) (kC (Brp K (co K) ih K) kN)
def zz (a0:H4)(a1:Int):Option Int:=(co K a0 a1 ([]:List Int)).bind fun r1=>some r1.1
def Bce:=ct (fd func76 ⟨[.v 38,.v 3],[.v 3],true⟩ (gC (Bcd K) gN)) (zz K)
def td (r3:(List Int)):Nat->Int->Int->Int->Int->Int->Int->Int->Int->List Int->List Int->List Int->List Fy->List G9->List Int->Option Int
 |0,_,_,_,_,_,_,_,_,_,_,_,_,_,_=>none
 |n1+1,v4,v5,v6,v7,v8,v9,v10,v11,v12,v13,v14,v15,v16,v17=>bif decide (v5<r3.length)then if 0<=v5/\v5<r3.length then(zz K (H4.mk (Sv.mk v6 v7 v8 v9 v10 v11) (Pc.mk v12 v13 v14) v15 v16 v17) (gt r3 v5)).bind fun r18=>td r3 n1 (A4 v4 r18) (A4 v5 1) v6 v7 v8 v9 v10 v11 v12 v13 v14 v15 v16 v17 else none else some v4
def pn (a0:H4)(a1:Int):Option Int:=(V4 K a1 0 (Ap a0.p.length 1)).bind fun r1=>bif !r1 then some 0 else if 0<=a1/\a1<a0.p.length then(zy K a0.C (gt a0.p a1)).bind fun r2=>if 0<=a1/\a1<a0.p.length then(kg K a0.o (gt a0.p a1).i).bind fun r3=>td K r3 K r2 0 a0.C.L a0.C.k a0.C.l a0.C.e a0.C.m a0.C.n a0.Q.g a0.Q.c a0.Q.h a0.o a0.p a0.q else none else none
def Bcf:=fd func74 ⟨[.v 38,.v 3],[.v 3],true⟩ (gC (Bce K) (gC (Xx K) (gC (xx K) (gC (Bca K) gN))))
def Brq:E7:=⟨[(2,.p 102),(5,.v 2),(6,.v 25),(7,.v 2)],[(102,.box W4)]⟩
def Brr:=lp (Bcf K) 250 Brq [] (fun n a b=>td K b n a) (fun n=>kN)
def Bcg:=ct (Bcf K) (pn K) (kC (Brr K K) kN)
def tf:Nat->Int->Int->Int->Int->Int->Int->Int->Int->List Int->List Int->List Int->List Fy->List G9->List Int->Option Int
 |0,_,_,_,_,_,_,_,_,_,_,_,_,_,_=>none
 |n1+1,v1,v2,v3,v4,v5,v6,v7,v8,v9,v10,v11,v12,v13,v14=>bif decide (v2<v13.length)then(pn K (H4.mk (Sv.mk v3 v4 v5 v6 v7 v8) (Pc.mk v9 v10 v11) v12 v13 v14) v2).bind fun r15=>tf n1 (A4 v1 r15) (A4 v2 1) v3 v4 v5 v6 v7 v8 v9 v10 v11 v12 v13 v14 else some v1
def A2q (a0:H4):Option Int:=tf K K 0 0 a0.C.L a0.C.k a0.C.l a0.C.e a0.C.m a0.C.n a0.Q.g a0.Q.c a0.Q.h a0.o a0.p a0.q
def Bch:=fd func77 ⟨[.v 38],[.v 3],true⟩ (gC (Bcg K) gN)
def Brs:=lp (Bch K) 58 wk [] (tf K) (fun n=>kN)
def Brt:=ct (Bch K) (A2q K) (kC (Brs K K) kN)
def A2r (K:Nat)(Rc:H4->List Int->List Bool->Option (Int×(List Bool)))(v3 v4:Int)(v5 v6:Int)(v7 v8:Int)(v9 v10:Int)(v11 v12 v13:List Int)(v14:List Fy)(v15:List G9)(v16:List Int)(C1:List Bool->Int->Int->Int->Int->Int->Int->Int->Int->Int->List Int->List Int->List Int->List Fy->List G9->List Int->Option (Int×(List Bool)))(v17:List Bool)(v18:Int):Option (Int×(List Bool)):=C1 v17 v18 v3 (A4 v4 1) v5 v6 v7 v8 v9 v10 v11 v12 v13 v14 v15 v16
def po (Rc:H4->List Int->List Bool->Option (Int×(List Bool)))(a1:List Int):Nat->List Bool->Int->Int->Int->Int->Int->Int->Int->Int->Int->List Int->List Int->List Int->List Fy->List G9->List Int->Option (Int×(List Bool))
 |0,_,_,_,_,_,_,_,_,_,_,_,_,_,_,_,_=>none
 |n1+1,v1,v2,v3,v4,v5,v6,v7,v8,v9,v10,v11,v12,v13,v14,v15,v16=>bif decide (v4<v3)then if 0<=v4/\v4<a1.length then if 0<=(gt a1 v4)/\(gt a1 v4)<v1.length then bif gt v1 (gt a1 v4)then A2r K Rc v3 v4 v5 v6 v7 v8 v9 v10 v11 v12 v13 v14 v15 v16 (po Rc a1 n1) v1 v2 else if 0<=(gt a1 v4)/\(gt a1 v4)<v1.length then if 0<=(gt a1 v4)/\(gt a1 v4)<v14.length then if 0<=(gt a1 v4)/\(gt a1 v4)<v14.length then(ol K v14 (gt v14 (gt a1 v4)).i).bind fun r19=>(Rc (H4.mk (Sv.mk v5 v6 v7 v8 v9 v10) (Pc.mk v11 v12 v13) v14 v15 v16) r19 (v1.set (gt a1 v4).toNat true)).bind fun r20=>if r20.2.length=(v1.set (gt a1 v4).toNat true).length then A2r K Rc v3 v4 v5 v6 v7 v8 v9 v10 v11 v12 v13 v14 v15 v16 (po Rc a1 n1) r20.2 (A4 v2 (A4 (((gt v14 (gt a1 v4)).L).length:Int) r20.1))else none else none else none else none else none else none else some (v2,v1)
def A6l (Rc:H4->List Int->List Bool->Option (Int×(List Bool)))(a0:H4)(a1:List Int)(a2:List Bool):Option (Int×(List Bool)):=po K Rc a1 K a2 0 (a1.length:Int) 0 a0.C.L a0.C.k a0.C.l a0.C.e a0.C.m a0.C.n a0.Q.g a0.Q.c a0.Q.h a0.o a0.p a0.q
def gx:Nat->H4->List Int->List Bool->Option (Int×(List Bool))
 |0,_,_,_=>none
 |K+1,a0,a1,a2=>A6l K (gx K) a0 a1 a2
def Aad:Sig:=⟨[.v 38,.v 25,.w 149 true [(4,true)]],[.v 3],true⟩
def A6m (Rc:H4->List Int->List Bool->Option (Int×(List Bool)))(hR:X6 183 ⟨Aad,Rc⟩):=fd func183 Aad (gC (A09 K) (gC hR gN)) [] [467]
def Bru (Rc:H4->List Int->List Bool->Option (Int×(List Bool)))(hR:X6 183 ⟨Aad,Rc⟩):=fun(C58:CT ku _)=>jn (A6m K Rc hR) 467 ku [(58,ar ku C58)] (fun a b c d e f g h i j k l m o p q r=>A2r K Rc d e f g h i j k l m o p q r (fun v1 v2=>C58 v1 v2 c) a b) kN
def Brv (Rc:H4->List Int->List Bool->Option (Int×(List Bool)))(hR:X6 183 ⟨Aad,Rc⟩):=lp (A6m K Rc hR) 58 ku [] (fun n a b c=>po K Rc c n a b) (fun n=>kC (Bru K Rc hR _) kN)
theorem Bci: ∀K:Nat,X6 183 ⟨Aad,gx K⟩
 |0=>⟨(by intro a0 a1 a2 r h;cases h),_,func183,rfl,rfl⟩
 |K+1=>have ih:=Bci K;ct (A6m K (gx K) ih) (A6l K (gx K)) (kC (Brv K (gx K) ih K) kN)
def A2s (a0:H4)(a1:Int):Option Int:=(af K a0.o a1).bind fun r1=>bif !r1 then some 0 else if 0<=(a0.o.length:Int)/\(a0.o.length:Int)<=a0.o.length/\(1:Int)*(a0.o.length:Int)<=281474976710656/\(a0.o.length:Int)<=9223372036854775807 then(gx K a0 ([a1]:List Int) (List.replicate (a0.o.length:Int).toNat false)).bind fun r2=>if r2.2.length=(List.replicate (a0.o.length:Int).toNat false).length then some r2.1 else none else none
def Brw:=ct (fd func78 ⟨[.v 38,.v 3],[.v 3],true⟩ (gC (gq K) (gC (Bci K) gN))) (A2s K)
def pp (K:Nat)(Rc:H4->Int->List Int->Option (Int×(List Int)))(r3:(List Int)):Nat->List Int->Int->Int->Int->Int->Int->Int->Int->Int->List Int->List Int->List Int->List Fy->List G9->List Int->Option (Int×(List Int))
 |0,_,_,_,_,_,_,_,_,_,_,_,_,_,_,_=>none
 |n1+1,v4,v5,v6,v7,v8,v9,v10,v11,v12,v13,v14,v15,v16,v17,v18=>bif decide (v6<r3.length)then if 0<=v6/\v6<r3.length then(Rc (H4.mk (Sv.mk v7 v8 v9 v10 v11 v12) (Pc.mk v13 v14 v15) v16 v17 v18) (gt r3 v6) v4).bind fun r19=>pp K Rc r3 n1 r19.2 (A4 v5 r19.1) (A4 v6 1) v7 v8 v9 v10 v11 v12 v13 v14 v15 v16 v17 v18 else none else some (v5,v4)
def A2t (Rc:H4->Int->List Int->Option (Int×(List Int)))(a0:H4)(a1:Int)(a2:List Int):Option (Int×(List Int)):=(V4 K a1 0 (Ap a0.o.length 1)).bind fun r1=>bif r1 then(ay K a2 a1).bind fun r2=>bif r2 then some (0,a2)else if(([]:List Int)++a2).length*8<=140737488355328/\(([]:List Int)++a2).length<=maxLen then if((([]:List Int)++a2)++([a1]:List Int)).length*8<=140737488355328/\((([]:List Int)++a2)++([a1]:List Int)).length<=maxLen then if 0<=a1/\a1<a0.o.length then if 0<=a1/\a1<a0.o.length then(kg K a0.o (gt a0.o a1).i).bind fun r3=>pp K Rc r3 K ((([]:List Int)++a2)++([a1]:List Int)) (((gt a0.o a1).L).length:Int) 0 a0.C.L a0.C.k a0.C.l a0.C.e a0.C.m a0.C.n a0.Q.g a0.Q.c a0.Q.h a0.o a0.p a0.q else none else none else none else none else some (0,a2)
def cq:Nat->H4->Int->List Int->Option (Int×(List Int))
 |0,_,_,_=>none
 |K+1,a0,a1,a2=>A2t K (cq K) a0 a1 a2
def A2u:Sig:=⟨[.v 38,.v 3,.v 25],[.v 3,.v 25],false⟩
def Bcj (Rc:H4->Int->List Int->Option (Int×(List Int)))(hR:X6 184 ⟨A2u,Rc⟩):=fd func184 A2u (gC (Xx K) (gC (xx K) (gC hR (gC (nl K) gN)))) [18,19,20]
def Brx (Rc:H4->Int->List Int->Option (Int×(List Int)))(hR:X6 184 ⟨A2u,Rc⟩):=lp (Bcj K Rc hR) 506 Bcc [] (fun n a b c=>pp K Rc c n a b) (fun n=>kN)
theorem Bck: ∀K:Nat,X6 184 ⟨A2u,cq K⟩
 |0=>⟨(by intro a0 a1 a2 r h;cases h),_,func184,rfl,rfl⟩
 |K+1=>have ih:=Bck K;ct (Bcj K (cq K) ih) (A2t K (cq K)) (kC (Brx K (cq K) ih K) kN)
def A2v (a0:H4)(a1:Int):Option Int:=(cq K a0 a1 ([]:List Int)).bind fun r1=>some r1.1
def Bry:=ct (fd func79 ⟨[.v 38,.v 3],[.v 3],true⟩ (gC (Bck K) gN)) (A2v K)
def A6n (K:Nat)(a0:H4):Option Bool:=some ((a0.p.length:Int)==0)
def Brz:=ct (fd func59 ⟨[.v 38],[.v 4],true⟩ gN) (A6n K)
def A2w (a0:List Int):Option Bool:=(A4k K a0).bind fun r1=>bif r1 then some true else(A0s K a0).bind fun r2=>(A03 K a0).bind fun r3=>(A04 K a0).bind fun r4=>(A5o K a0).bind fun r5=>(oq K r2.1).bind fun r6=>(A2j K r2.1 4000).bind fun r7=>(A2k K r2.1).bind fun r8=>(oo K r3.1 r3.2).bind fun r9=>(pn K r3.1 r3.2).bind fun r10=>bif r9 != r10 then some false else(yx K r4.1 r4.2).bind fun r11=>(zz K r4.1 r4.2).bind fun r12=>bif r11 != r12 then some false else(oq K r3.1).bind fun r13=>(A2q K r3.1).bind fun r14=>bif r13 != r14 then some false else(A2s K r5.1 r5.2).bind fun r15=>(A2v K r5.1 r5.2).bind fun r16=>bif r15 != r16 then some false else bif r7.2 != r6 then some false else(A6n K r7.1).bind fun r17=>bif r17 then(oq K r7.1).bind fun r18=>bif r18 != 0 then some false else bif r8.2==(decide (r6>0))then bif r8.2 then(oq K r8.1).bind fun r19=>some (r19==(Ap r6 1))else some true else some false else some false
def Br0:=ct (fd func10 ⟨[.v 24],[.v 4],true⟩ (gC (Bgp K) (gC (Bmt K) (gC (Brl K) (gC (Brk K) (gC (Brz K) (gC (Bnq K) (gC (Bnr K) (gC (Bns K) (gC (Bn4 K) (gC (Ba7 K) (gC (Bcg K) (gC (Ba5 K) (gC (Bce K) (gC (Brt K) (gC (Brw K) (gC (Bry K) gN)))))))))))))))) [56,57,64,65,66,71,72,73,80,81,82,85,86,87,89,90,91,92,100,101,102,103,104] [] [(8,[.frz 20640,.frz 20641,.frz 20642,.frz 20643,.frz 20644,.frz 20645])]) (A2w K)
end
end Go.Proofs.YtgcnddnmhllahaaGreat
