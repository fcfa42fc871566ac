/- What the functions compute that FnPendings reaches, and that they do; no condition. Printed by gen4.py. -/
import Derived.Test.YtgcnddnmhllahaaGreatJKit
set_option linter.all false
set_option maxRecDepth 20000
namespace Go.Proofs.YtgcnddnmhllahaaGreat
open Go.Eng
noncomputable section
def A4 (a b:Int):Int:=Fp .i64 a b
def Ap (a b:Int):Int:=Aly .i64 a b
def F2 (a b:Int):Int:=Ci .i64 a b
def bx0:List D0:=[.v 2,.v 2,.v 2,.v 2,.v 2,.v 2,.T 5 true,.T 3 true,.T 3 true,.T 77 false,.T 79 true,.T 3 true]
def Zu:List D0:=[.v 2,.v 2,.v 2,.v 2,.v 2,.v 2,.T 5 true,.T 3 true,.T 3 true,.T 77 true,.T 79 false,.T 3 true]
def bg:List D0:=[.v 2,.v 2,.v 2,.v 2,.v 2,.v 2,.v 2,.v 2,.v 25,.v 2,.v 2,.v 75,.v 25]
def bx5:List D0:=[.v 2,.v 2,.v 2,.v 2,.v 2,.v 2,.v 2,.v 24,.v 2,.v 2,.v 2]
def Wz:List D0:=[.v 2,.v 2,.v 2,.v 2,.v 2,.v 2,.v 24,.v 25,.v 25,.v 35,.v 36,.v 25]
def me:List D0:=[.v 2,.v 2,.v 25,.v 25,.v 2]
def X0:List D0:=[.v 24,.v 2,.v 2]
def da:List D0:=[.v 24,.v 25,.v 25]
abbrev PT (h:E7):Type:=Ak tyU h.codes
abbrev Rt (s:Sig):Type:=Option (Af tyU s.codes)
def FnP (R:Type):List TC->Type
 |[]=>R
 |c::l=>c.T tyU->FnP R l
noncomputable def qc{R:Type}:(l:List TC)->FnP R l->Ak tyU l->R
 |[],f,_=>f
 |_::l,f,q=>qc l (f q.1) q.2
abbrev CT (h:E7)(s:Sig):Type:=FnP (Rt s) h.codes
noncomputable abbrev ar{s:Sig}(h:E7)(M:CT h s):SS Ab->Rt s:=arr tyU tab h (qc h.codes M)
abbrev Zc (f:FuncId)(c:Bc tyU):Prop:=Bc.Ok tyU Tryz.prog f c/\Cg Tryz.prog f
theorem Be7:Tryz.prog.follows .mixedOrders=true:=by kernel_rfl
structure FD (f:FuncId)(s:Sig) where
 fn:Func
 hf:Tryz.prog.funcs[f]? =some fn
 G:List (Nat×Bc tyU)
 g: ∀f c,lk G f=some c->Zc f c
 O:List (Nat×List (Nat×Bc tyU))
 o: ∀d l,lk O d=some l-> ∀f c,lk l f=some c->Zc f c
 kp:List (Nat×(SS Ab->List Oper->Oper->(Aj Ab->Rt s)->Rt s))
 kk: ∀d q,lk kp d=some q->Fw tyU tab Tryz.prog q
 spl:List Nat
 js:List Nat
 pre:List (Nat×List Cmd)
 post:List (Nat×List Cmd)
noncomputable abbrev fo{f:FuncId}{fn:Func}(hf:Tryz.prog.funcs[f]? =some fn)(s:Sig){G:List (Nat×Bc tyU)}(g: ∀f c,lk G f=some c->Zc f c){O:List (Nat×List (Nat×Bc tyU))}(o: ∀d l,lk O d=some l-> ∀f c,lk l f=some c->Zc f c)(spl:List Nat:=[])(js:List Nat:=[])(pre:List (Nat×List Cmd):=[])(post:List (Nat×List Cmd):=[]):FD f s:=⟨fn,hf,G,g,O,o,[],Ayb (U:=tyU) (T:=tab) (P:=Tryz.prog),spl,js,pre,post⟩
noncomputable abbrev fd{f:FuncId}{fn:Func}(hf:Tryz.prog.funcs[f]? =some fn)(s:Sig){G:List (Nat×Bc tyU)}(g: ∀f c,lk G f=some c->Zc f c)(spl:List Nat:=[])(js:List Nat:=[])(pre:List (Nat×List Cmd):=[])(post:List (Nat×List Cmd):=[]):FD f s:=⟨fn,hf,G,g,[],oN,[],Ayb (U:=tyU) (T:=tab) (P:=Tryz.prog),spl,js,pre,post⟩
noncomputable abbrev fk{f:FuncId}{fn:Func}(hf:Tryz.prog.funcs[f]? =some fn)(s:Sig){G:List (Nat×Bc tyU)}(g: ∀f c,lk G f=some c->Zc f c){O:List (Nat×List (Nat×Bc tyU))}(o: ∀d l,lk O d=some l-> ∀f c,lk l f=some c->Zc f c){kp:List (Nat×(SS Ab->List Oper->Oper->(Aj Ab->Rt s)->Rt s))}(kk: ∀d q,lk kp d=some q->Fw tyU tab Tryz.prog q)(spl:List Nat:=[])(js:List Nat:=[])(pre:List (Nat×List Cmd):=[])(post:List (Nat×List Cmd):=[]):FD f s:=⟨fn,hf,G,g,O,o,kp,kk,spl,js,pre,post⟩
section
variable {f:FuncId} {s:Sig}
noncomputable abbrev FD.b (X:FD f s):Code:=X.fn.body.getD .skip
noncomputable def FD.x (X:FD f s)(L B:Λt tyU s):Ox tyU (Af tyU s.codes):=⟨X.G,X.O,eqT eqs,X.fn.ntmps,X.spl,X.pre,X.post,X.js,L,B,Ry tyU tab s X.fn.results.toList,X.kp⟩
abbrev CuX (X:FD f s):Λt tyU s->Nat->(SS Ab->Rt s)->Prop:=Lw tyU tab Tryz.prog X.fn.results.toList s X.fn.ntmps X.js X.b
abbrev CsX (X:FD f s):Λt tyU s->Λt tyU s->Prop:=Kf tyU tab Tryz.prog X.fn.results.toList s X.fn.ntmps X.js X.b
theorem xo (X:FD f s):Ly tyU tab Tryz.prog X.fn.results.toList s X.fn.ntmps X.js X.x:=xok Ayk Be7 X.g X.o Ayl X.kk
theorem lp (X:FD f s)(p:Nat)(h:E7)(B:Λt tyU s)(M:Nat->CT h s){L:Nat->Λt tyU s}(hc: ∀n,CsX X ((p,ar h (M n))::B) (L n))(e: ∀n q,qc h.codes (M (n+1)) q=Rs tyU tab (X.x (L n) ((p,ar h (M n))::B)) X.b (2*p) (h.emb tyU q):=by intro n q;kernel_rfl)(hp:Nat.ble 1 p=true:=by rfl)(hk:Aic X.js X.b p=true:=by kernel_rfl)(e0: ∀q,qc h.codes (M 0) q=none:=by intro q;rfl)(n:Nat):CuX X B p (ar h (M n)):=Ax9 (M:=fun n=>qc h.codes (M n)) (xo X) hp hk e0 e hc n
theorem jn (X:FD f s)(p:Nat)(h:E7)(B:Λt tyU s)(M:CT h s){L:Λt tyU s}(hc:CsX X B L)(e: ∀q,qc h.codes M q=Rs tyU tab (X.x L B) X.b (2*p+1) (h.emb tyU q):=by intro q;kernel_rfl)(hp:Nat.ble 1 p=true:=by rfl):CuX X B p (ar h M):=Ax8 (xo X) hp e hc
theorem up{X:FD f s}{B:Λt tyU s}{p x:Nat}{F G:SS Ab->Rt s}(h:CuX X B p F)(hn:Aih X.js X.b p x=true:=by kernel_rfl):CuX X ((x,G)::B) p F:=Ayd hn h
theorem ct (X:FD f s)(m:Ev tyU s.ps (Rt s)){L:Λt tyU s}(hc:CsX X [] L:=by exact kN)(e:J0 tyU tab (X.x L []) X.b s.ps 0 [] [] m:=by(repeat intro _);show @Eq _ _ _;kernel_rfl)(hs:So tyU s.ps:=by(repeat (refine⟨fun _=>rfl,?_⟩));exact trivial)(h1:(X.fn.name== "runtime.NumGoroutine")=false:=by rfl)(h2:X.fn.body=some X.b:=by rfl)(h5:Nat.ble s.ps.length X.fn.ntmps=true:=by rfl)(h6:Nat.ble (Aw s.ps+1) 100=true:=by rfl)(h7:Nat.ble X.fn.results.toList.length 4=true:=by rfl):Zc f ⟨s,m⟩:=Aya (xo X) Abj e hc X.hf h1 h2 (Array.toArray_toList).symm rfl h5 h6 h7 hs
end
variable (K:Nat)
def A3p (K:Nat)(a0:List Int):Option Bool:=some (decide ((a0.length:Int)>1048576))
def Be8:=ct (fd Tryz.func22 ⟨[.v 24],[.v 4],true⟩ gN) (A3p K)
def ui (K:Nat)(a0:List Int):Nat->Int->Int->Option Sx
 |0,_,_=>none
 |n1+1,v1,v2=>bif decide (v2<a0.length)then bif decide (v2<4000)then if 0<=v2/\v2<a0.length then ui K a0 n1 (Alz .i64 (A4 (A4 (F2 v1 137) (IntKind.i64.wrap (gt a0 v2))) 11) 1073741823) (A4 v2 1)else none else some (Sx.mk a0 0 v1)else some (Sx.mk a0 0 v1)
def uj (a0:List Int):Option Sx:=ui K a0 K (A4 161416 a0.length) 0
def X_1:=fd Tryz.func111 ⟨[.v 24],[.p 171 false],false⟩ gN [11,12]
def h_0:E7:=⟨[(0,.v 24),(3,.v 2),(4,.v 2)],[]⟩
def Bfa:=lp X_1 58 h_0 [] (fun n a=>ui K a n) (fun n=>kN)
def A77:=ct X_1 (uj K) (kC (Bfa K K) kN)
def uk (K:Nat)(a0:List Int)(a1:Int):Option Int:=if 12≠(0:Int)then bif decide ((A4 3 (Afg .i64 (a0.length:Int) 12))>a1)then some a1 else some (A4 3 (Afg .i64 (a0.length:Int) 12))else none
def Bfb:=ct (fd Tryz.func113 ⟨[.v 24,.v 3],[.v 3],true⟩ gN) (uk K)
def Ak3 (K:Nat)(v1:Int)(v2:List Int)(v3 v4:Int):Option (Int×Sx):=some (v1,(Sx.mk v2 v3 v4))
def ik (a0:Sx):Option (Int×Sx):=if(0:Int)<=33 then if(0:Int)<=47 then bif decide (a0.fi<a0.fb.length)then if 0<=a0.fi/\a0.fi<a0.fb.length then Ak3 K (Alz .i64 (A4 (Alz .i64 (Al1 .i64 (Aff .i64 (A4 (F2 a0.fh 6364136223846793005) 1442695040888963407) 33) (Aff .i64 (A4 (F2 a0.fh 6364136223846793005) 1442695040888963407) 47)) 255) (IntKind.i64.wrap (gt a0.fb a0.fi))) 255) a0.fb (A4 a0.fi 1) (A4 (F2 a0.fh 6364136223846793005) 1442695040888963407)else none else Ak3 K (Alz .i64 (Al1 .i64 (Aff .i64 (A4 (F2 a0.fh 6364136223846793005) 1442695040888963407) 33) (Aff .i64 (A4 (F2 a0.fh 6364136223846793005) 1442695040888963407) 47)) 255) a0.fb a0.fi (A4 (F2 a0.fh 6364136223846793005) 1442695040888963407)else none else none
def X_3:=fd Tryz.func229 ⟨[.b 171 false],[.v 3],false⟩ gN [] [15]
def h_1:E7:=⟨[(3,.v 2)],[(1,.box X0)]⟩
def Bfd:=jn X_3 15 h_1 [] (Ak3 K) kN
def A79:=ct X_3 (ik K) (kC (Bfd K) kN)
def Pz (a0:Sx)(a1:Int):Option (Int×Sx):=bif decide (a1<=0)then some (0,a0)else bif decide (a1<=256)then(ik K a0).bind fun r1=>if a1≠(0:Int)then some ((Int.tmod r1.1 a1),r1.2)else none else(ik K a0).bind fun r2=>(ik K r2.2).bind fun r3=>(ik K r3.2).bind fun r4=>if a1≠(0:Int)then some ((Int.tmod (A4 (A4 (F2 r2.1 65536) (F2 r3.1 256)) r4.1) a1),r4.2)else none
def Y2:=ct (fd Tryz.func131 ⟨[.b 171 false,.v 3],[.v 3],false⟩ (gC (A79 K) gN)) (Pz K)
def W9 (a0:Sx)(a1:List Int):Option (Int×Sx×(List Int)):=(Pz K a0 (a1.length:Int)).bind fun r1=>if 0<=r1.1/\r1.1<a1.length then some ((gt a1 r1.1),r1.2,a1)else none
def il:=ct (fd Tryz.func170 ⟨[.b 171 false,.w 25 true [(3,true)]],[.v 3],false⟩ (gC (Y2 K) gN)) (W9 K)
def ul (a0:Sx):Option (Sv×Sx):=(Pz K a0 11).bind fun r1=>(W9 K r1.2 ([8,8,9,12,16]:List Int)).bind fun r2=>if r2.2.2.length=([8,8,9,12,16]:List Int).length then(Pz K r2.2.1 7).bind fun r3=>(Pz K r3.2 6).bind fun r4=>(W9 K r4.2 ([1,3,4,8,16]:List Int)).bind fun r5=>if r5.2.2.length=([1,3,4,8,16]:List Int).length then(Pz K r5.2.1 4).bind fun r6=>some ((Sv.mk (A4 2 r1.1) r2.1 (A4 2 r3.1) (A4 1 r4.1) r5.1 (A4 1 r6.1)),r6.2)else none else none
def A8a:=ct (fd Tryz.func224 ⟨[.b 171 false],[.v 33],false⟩ (gC (Y2 K) (gC (il K) gN))) (ul K)
def V5 (K:Nat)(a0 a1 a2:Int):Option Bool:=bif decide (a0>=a1)then some (decide (a0<=a2))else some false
def X1:=ct (fd Tryz.func147 ⟨[.v 3,.v 3,.v 3],[.v 4],true⟩ gN [9,10]) (V5 K)
def bh (a0:Sv):Option Bool:=(V5 K a0.L 2 12).bind fun r1=>bif r1 then(V5 K a0.k 8 16).bind fun r2=>bif r2 then(V5 K a0.l 2 8).bind fun r3=>bif r3 then(V5 K a0.e 1 8).bind fun r4=>bif r4 then(V5 K a0.m 1 16).bind fun r5=>bif r5 then(V5 K a0.n 1 4).bind fun r6=>some r6 else some false else some false else some false else some false else some false
def im:=ct (fd Tryz.func136 ⟨[.v 33],[.v 4],true⟩ (gC (X1 K) gN) [5,6,9,10,11,14,15,16,19,20,21,24,25,26]) (bh K)
def mf (a0:Sv):Option Int:=(bh K a0).bind fun r1=>bif !r1 then some 0 else some (F2 a0.L a0.k)
def Ak4:=ct (fd Tryz.func235 ⟨[.v 33],[.v 3],true⟩ (gC (im K) gN)) (mf K)
def A3q (a0:Int):Option (List Int):=(V5 K a0 0 4096).bind fun r1=>bif !r1 then some ([]:List Int)else if 0<=a0/\a0<=a0/\(1:Int)*a0<=281474976710656/\a0<=9223372036854775807 then some (List.replicate a0.toNat (0:Int))else none
def Bfe:=ct (fd Tryz.func234 ⟨[.v 3],[.n 24 true],true⟩ (gC (X1 K) gN)) (A3q K)
def um (K:Nat)(a0:Sv):Nat->Int->Pc->Pc->Option Pc
 |0,_,_,_=>none
 |n1+1,v4,v5,v6=>bif decide (v4<a0.L)then if(v5.c++([0]:List Int)).length*8<=140737488355328/\(v5.c++([0]:List Int)).length<=maxLen then if(v5.h++([(-1)]:List Int)).length*8<=140737488355328/\(v5.h++([(-1)]:List Int)).length<=maxLen then um K a0 n1 (A4 v4 1) (Pc.mk v5.g (v5.c++([0]:List Int)) (v5.h++([(-1)]:List Int))) v6 else none else none else some v5
def Ak5 (a0:Sv):Option Pc:=(bh K a0).bind fun r1=>bif !r1 then some (Pc.mk [] [] [])else(mf K a0).bind fun r2=>(A3q K r2).bind fun r3=>um K a0 K 0 (Pc.mk r3 [] []) (Pc.mk [] [] [])
def A8b:=fd Tryz.func137 ⟨[.v 33],[.n 34 true],true⟩ (gC (im K) (gC (Bfe K) (gC (Ak4 K) gN))) [] [] [(3,[.take 103 0 6648,.take 103 1 6649,.take 103 2 6650]),(8,[.take 103 1 6649]),(9,[.take 103 2 6650]),(10,[.take 103 0 6648,.take 103 1 6649,.take 103 2 6650])]
def h_2:E7:=⟨[(1,.p 101),(2,.p 102),(3,.p 103),(4,.v 2)],[(103,.st 34 true),(102,.st 34 true),(101,.st 33 true)]⟩
def Bfg:=lp (A8b K) 250 h_2 [] (fun n a b c d=>um K d n a b c) (fun n=>kN)
def Bfh:=ct (A8b K) (Ak5 K) (kC (Bfg K K) kN)
def bi (K:Nat)(a0:Int):Option Fy:=some (Fy.mk 0 a0 0 0 0 0 0 0 [] 0 0 [] [])
def uo:=ct (fd Tryz.func236 ⟨[.v 3],[.n 77 false],true⟩ gN) (bi K)
def uq (a0:Sv):Nat->(List Fy)->Int->Option (List Fy)
 |0,_,_=>none
 |n1+1,v1,v2=>bif decide (v2<a0.l)then(bh K a0).bind fun r3=>bif r3 then(bi K 1).bind fun r4=>if(v1++[r4]).length*152<=140737488355328/\(v1++[r4]).length<=maxLen then uq a0 n1 (v1++[r4]) (A4 v2 1)else none else some v1 else some v1
def A3r (a0:Sv):Option (List Fy):=uq K a0 K ([]:List Fy) 0
def A8c:=fd Tryz.func138 ⟨[.v 33],[.n 35 true],false⟩ (gC (im K) (gC (uo K) gN)) [9,10] [] [] [(18,[.put 3018])]
def h_3:E7:=⟨[(1,.p 101),(3,.o 1003 77 true),(4,.v 2)],[(101,.st 33 true)]⟩
def Bfj:=lp (A8c K) 58 h_3 [] (fun n a b c=>uq K c n a b) (fun n=>kN)
def Bfk:=ct (A8c K) (A3r K) (kC (Bfj K K) kN)
def Ak6 (a0:Sv):Option H4:=(bh K a0).bind fun r1=>bif !r1 then some (H4.mk (Sv.mk 0 0 0 0 0 0) (Pc.mk [] [] []) [] [] [])else(Ak5 K a0).bind fun r2=>(A3r K a0).bind fun r3=>some (H4.mk a0 r2 r3 [] [])
def Bfl:=ct (fd Tryz.func39 ⟨[.v 33],[.n 38 true],false⟩ (gC (im K) (gC (Bfh K) (gC (Bfk K) gN)))) (Ak6 K)
def Yu (K:Nat)(a0:List Fy)(a1:Int):Option Bool:=bif decide (a1>=1)then some (decide (a1<=a0.length))else some false
def iq:=ct (fd Tryz.func276 ⟨[.v 35,.v 3],[.v 4],true⟩ gN [6,7]) (Yu K)
def ur (a0:List Fy):Nat->Int->(List Int)->Option (List Int)
 |0,_,_=>none
 |n1+1,v1,v2=>(Yu K a0 (A4 v1 1)).bind fun r3=>bif r3 then bif decide ((v2.length:Int)<a0.length)then if(v2++([v1]:List Int)).length*8<=140737488355328/\(v2++([v1]:List Int)).length<=maxLen then if 0<=v1/\v1<a0.length then ur a0 n1 (Ap (gt a0 v1).s 1) (v2++([v1]:List Int))else none else none else some v2 else some v2
def qd (a0:List Fy)(a1:Int):Option (List Int):=ur K a0 K a1 ([]:List Int)
def A8d:=fd Tryz.func251 ⟨[.v 35,.v 3],[.n 25 true],true⟩ (gC (iq K) gN) [10,11]
def h_4:E7:=⟨[(0,.v 35),(1,.v 2),(5,.o 1005 3 true)],[]⟩
def Bfm:=lp (A8d K) 28 h_4 [] (fun n a=>ur K a n) (fun n=>kN)
def A3t:=ct (A8d K) (qd K) (kC (Bfm K K) kN)
def ez (a0:List Fy)(a1:Int):Option Bool:=if 0<=a1/\a1<a0.length then(Yu K a0 (gt a0 a1).s).bind fun r1=>bif r1 then if 0<=(Ap (gt a0 a1).s 1)/\(Ap (gt a0 a1).s 1)<a0.length then bif (gt a0 (Ap (gt a0 a1).s 1)).c==1 then if 0<=(Ap (gt a0 a1).s 1)/\(Ap (gt a0 a1).s 1)<a0.length then if 0<=a1/\a1<a0.length then some (((gt a0 (Ap (gt a0 a1).s 1)).f)==(gt a0 a1).t)else none else none else some false else none else some false else none
def A3u:=ct (fd Tryz.func252 ⟨[.v 35,.v 3],[.v 4],true⟩ (gC (iq K) gN) [13,14,21,22,23]) (ez K)
def Ak7 (K:Nat)(v2:Int)(C1:Int->Option Bool):Option Bool:=C1 (A4 v2 1)
def qe (a0:List Fy)(r1:(List Int)):Nat->Int->Option Bool
 |0,_=>none
 |n1+1,v2=>bif decide (v2<r1.length)then if 0<=v2/\v2<r1.length then if 0<=(gt r1 v2)/\(gt r1 v2)<a0.length then bif (gt a0 (gt r1 v2)).c != 1 then some false else bif decide ((A4 v2 1)<r1.length)then if 0<=v2/\v2<r1.length then(ez K a0 (gt r1 v2)).bind fun r3=>bif !r3 then some false else Ak7 K v2 (qe a0 r1 n1)else none else Ak7 K v2 (qe a0 r1 n1)else none else none else bif decide ((r1.length:Int)>0)then if 0<=(Ap r1.length 1)/\(Ap r1.length 1)<r1.length then if 0<=(gt r1 (Ap r1.length 1))/\(gt r1 (Ap r1.length 1))<a0.length then some (((gt a0 (gt r1 (Ap r1.length 1))).s)==0)else none else none else some false
def qf (a0:List Fy)(a1:Int):Option Bool:=(qd K a0 a1).bind fun r1=>qe K a0 r1 K 0
def A3v:=fd Tryz.func154 ⟨[.v 35,.v 3],[.v 4],true⟩ (gC (A3t K) (gC (A3u K) gN)) [24,25,30,31,43,44] [233]
def h_5:E7:=⟨[(0,.v 35),(5,.v 25),(6,.v 2)],[]⟩
def Bfn:=fun(C58:CT h_5 _)=>jn (A3v K) 233 h_5 [(58,ar h_5 C58)] (fun a b c=>Ak7 K c (C58 a b)) kN
def Bfo:=lp (A3v K) 58 h_5 [] (fun n a b=>qe K a b n) (fun n=>kC (Bfn K _) kN)
def A3w:=ct (A3v K) (qf K) (kC (Bfo K K) kN)
def ut (K:Nat)(v2 v3:Int)(v4 v5:Int)(v6 v7 v8:Int)(v9 v10 v11:List Int)(v12:List Fy)(v13:List G9)(v14:List Int)(C1:(List Int)->Int->Int->Int->Int->Int->Int->Int->(List Int)->(List Int)->(List Int)->(List Fy)->(List G9)->(List Int)->Option (List Int))(v16:List Int):Option (List Int):=C1 v16 (A4 v2 1) v3 v4 v5 v6 v7 v8 v9 v10 v11 v12 v13 v14
def qg:Nat->(List Int)->Int->Int->Int->Int->Int->Int->Int->(List Int)->(List Int)->(List Int)->(List Fy)->(List G9)->(List Int)->Option (List Int)
 |0,_,_,_,_,_,_,_,_,_,_,_,_,_,_=>none
 |n1+1,v1,v2,v3,v4,v5,v6,v7,v8,v9,v10,v11,v12,v13,v14=>bif decide (v2<v12.length)then(qf K v12 v2).bind fun r15=>bif r15 then if(v1++([v2]:List Int)).length*8<=140737488355328/\(v1++([v2]:List Int)).length<=maxLen then ut K v2 v3 v4 v5 v6 v7 v8 v9 v10 v11 v12 v13 v14 (qg n1) (v1++([v2]:List Int))else none else ut K v2 v3 v4 v5 v6 v7 v8 v9 v10 v11 v12 v13 v14 (qg n1) v1 else some v1
def Ala (a0:H4):Option (List Int):=qg K K ([]:List Int) 0 a0.C.L a0.C.k a0.C.l a0.C.e a0.C.m a0.C.n a0.Q.g a0.Q.c a0.Q.h a0.o a0.p a0.q
def A3x:=fd Tryz.func45 ⟨[.v 38],[.n 25 true],true⟩ (gC (A3w K) gN) [] [233]
def mg:E7:=⟨[(1,.p 101),(3,.o 1003 3 true),(4,.v 2)],[(101,.box Wz)]⟩
def Bfp:=fun(C58:CT mg _)=>jn (A3x K) 233 mg [(58,ar mg C58)] (fun a b c d e f g h i j k l m o=>ut K b c d e f g h i j k l m o C58 a) kN
def Bfq:=lp (A3x K) 58 mg [] (qg K) (fun n=>kC (Bfp K _) kN)
def A8e:=ct (A3x K) (Ala K) (kC (Bfq K K) kN)
def bj (a0:Sx)(a1:Int):Option (Bool×Sx):=(Pz K a0 a1).bind fun r1=>some ((r1.1==0),r1.2)
def uv:=ct (fd Tryz.func198 ⟨[.b 171 false,.v 3],[.v 4],false⟩ (gC (Y2 K) gN)) (bj K)
def Alb (a0:Sx):Option (Lz×Sx):=(Pz K a0 5).bind fun r1=>(Pz K r1.2 3).bind fun r2=>some ((Lz.mk r1.1 (A4 1 r2.1)),r2.2)
def Bfr:=ct (fd Tryz.func284 ⟨[.b 171 false],[.v 40],false⟩ (gC (Y2 K) gN)) (Alb K)
def ux (a1:Int):Nat->(List Int)->Int->(List Int)->Int->Int->Option ((List Int)×Sx)
 |0,_,_,_,_,_=>none
 |n1+1,v1,v2,v3,v4,v5=>bif decide (v2<a1)then(ik K (Sx.mk v3 v4 v5)).bind fun r6=>if(v1++([(IntKind.u8.wrap r6.1)]:List Int)).length*1<=140737488355328/\(v1++([(IntKind.u8.wrap r6.1)]:List Int)).length<=maxLen then ux a1 n1 (v1++([(IntKind.u8.wrap r6.1)]:List Int)) (A4 v2 1) r6.2.fb r6.2.fi r6.2.fh else none else some (v1,(Sx.mk v3 v4 v5))
def Alc (a0:Sx)(a1:Int):Option ((List Int)×Sx):=ux K a1 K ([]:List Int) 0 a0.fb a0.fi a0.fh
def A8f:=fd Tryz.func201 ⟨[.b 171 false,.v 3],[.n 24 true],false⟩ (gC (A79 K) gN)
def h_7:E7:=⟨[(0,.p 1),(1,.v 2),(5,.o 1005 5 true),(6,.v 2)],[(1,.box X0)]⟩
def Bft:=lp (A8f K) 58 h_7 [] (fun n a=>ux K a n) (fun n=>kN)
def A8g:=ct (A8f K) (Alc K) (kC (Bft K K) kN)
def fa (K:Nat)(v6:List Int)(v7 v8:Int)(v9 v10:H5):Option (H5×Sx):=some (v9,(Sx.mk v6 v7 v8))
def qh (v11:Int)(v12:Bool)(v13:List Int)(v14 v15:Int)(v16:Pd)(v17:Lz)(v18 v19:H5):Option (H5×Sx):=bif v12 then fa K v13 v14 v15 (H5.mk v18.I v17 v18.b v18.J v18.K v18.A) v19 else bif v11==2 then(W9 K (Sx.mk v13 v14 v15) ([1,2,3,5,8,9,17,20,0,201]:List Int)).bind fun r20=>if r20.2.2.length=([1,2,3,5,8,9,17,20,0,201]:List Int).length then(W9 K r20.2.1 ([1,1,2,4,3]:List Int)).bind fun r21=>if r21.2.2.length=([1,1,2,4,3]:List Int).length then fa K r21.2.1.fb r21.2.1.fi r21.2.1.fh (H5.mk v18.I v17 v18.b r20.1 r21.1 v18.A) v19 else none else none else bif v11==3 then(Pz K (Sx.mk v13 v14 v15) 4).bind fun r22=>(Pz K r22.2 5).bind fun r23=>fa K r23.2.fb r23.2.fi r23.2.fh (H5.mk v18.I v18.P v16 r22.1 r23.1 v18.A) v19 else bif v11==4 then(Pz K (Sx.mk v13 v14 v15) 4).bind fun r24=>(Pz K r24.2 4).bind fun r25=>(Alc K r25.2 r25.1).bind fun r26=>fa K r26.2.fb r26.2.fi r26.2.fh (H5.mk v18.I v18.P v16 r24.1 v18.K r26.1) v19 else bif v11==5 then(W9 K (Sx.mk v13 v14 v15) ([1,7,255,256]:List Int)).bind fun r27=>if r27.2.2.length=([1,7,255,256]:List Int).length then fa K r27.2.1.fb r27.2.1.fi r27.2.1.fh (H5.mk v18.I v17 v18.b r27.1 v18.K v18.A) v19 else none else fa K v13 v14 v15 v18 v19
def uy (a0:Sx):Option (H5×Sx):=(Pz K a0 9).bind fun r1=>(Alb K r1.2).bind fun r2=>(Pz K r2.2 2).bind fun r3=>(Pz K r3.2 3).bind fun r4=>bif (A4 1 r1.1)==1 then(bj K r4.2 2).bind fun r5=>bif r5.1 then fa K r5.2.fb r5.2.fi r5.2.fh (H5.mk (A4 1 r1.1) r2.1 (Pd.mk (Lz.mk 0 0) 0 0) 0 0 []) (H5.mk 0 (Lz.mk 0 0) (Pd.mk (Lz.mk 0 0) 0 0) 0 0 [])else fa K r5.2.fb r5.2.fi r5.2.fh (H5.mk (A4 1 r1.1) (Lz.mk 0 0) (Pd.mk (Lz.mk 0 0) 0 0) 0 0 []) (H5.mk 0 (Lz.mk 0 0) (Pd.mk (Lz.mk 0 0) 0 0) 0 0 [])else bif (A4 1 r1.1)==6 then qh K (A4 1 r1.1) ((A4 1 r1.1)==6) r4.2.fb r4.2.fi r4.2.fh (Pd.mk r2.1 r3.1 r4.1) r2.1 (H5.mk (A4 1 r1.1) (Lz.mk 0 0) (Pd.mk (Lz.mk 0 0) 0 0) 0 0 []) (H5.mk 0 (Lz.mk 0 0) (Pd.mk (Lz.mk 0 0) 0 0) 0 0 [])else bif (A4 1 r1.1)==7 then qh K (A4 1 r1.1) ((A4 1 r1.1)==7) r4.2.fb r4.2.fi r4.2.fh (Pd.mk r2.1 r3.1 r4.1) r2.1 (H5.mk (A4 1 r1.1) (Lz.mk 0 0) (Pd.mk (Lz.mk 0 0) 0 0) 0 0 []) (H5.mk 0 (Lz.mk 0 0) (Pd.mk (Lz.mk 0 0) 0 0) 0 0 [])else qh K (A4 1 r1.1) ((A4 1 r1.1)==8) r4.2.fb r4.2.fi r4.2.fh (Pd.mk r2.1 r3.1 r4.1) r2.1 (H5.mk (A4 1 r1.1) (Lz.mk 0 0) (Pd.mk (Lz.mk 0 0) 0 0) 0 0 []) (H5.mk 0 (Lz.mk 0 0) (Pd.mk (Lz.mk 0 0) 0 0) 0 0 [])
def A3y:=fd Tryz.func199 ⟨[.b 171 false],[.n 55 true],false⟩ (gC (Y2 K) (gC (il K) (gC (uv K) (gC (A8g K) (gC (Bfr K) gN))))) [] [31,1003] [(27,[.take 103 9 6657])]
def h_8:E7:=⟨[(2,.p 102),(3,.p 103)],[(1,.box X0),(103,.st 55 true),(102,.st 55 true)]⟩
def h_9:E7:=⟨[(0,.p 1),(2,.p 102),(3,.p 103),(4,.p 104),(5,.p 105),(19,.v 2),(26,.v 4)],[(1,.box X0),(105,.st 42 true),(104,.st 40 true),(103,.st 55 true),(102,.st 55 true)]⟩
def A8h:=jn (A3y K) 31 h_8 [] (fa K) kN
def Bfw:=jn (A3y K) 1003 h_9 [] (qh K) (kC (A8h K) kN)
def Bfx:=ct (A3y K) (uy K) (kC (A8h K) (kC (Bfw K) kN))
def uz (a0:List Fy)(a1:Int):Option Lz:=(V5 K a1 0 (Ap a0.length 1)).bind fun r1=>bif !r1 then some (Lz.mk 0 0)else if 0<=a1/\a1<a0.length then some (Lz.mk a1 (gt a0 a1).a)else none
def A8i:=ct (fd Tryz.func200 ⟨[.v 35,.v 3],[.v 40],true⟩ (gC (X1 K) gN)) (uz K)
def vd (r8:Lz)(v27 v28 v29:List Int)(v30:List Fy)(v31:List G9)(v32:List Int)(v34:Int)(v36:List Int)(v37 v38:Int)(v47:Bool):Option (H5×Sx×(List Int)×(List Int)×(List Int)×(List Fy)×(List G9)×(List Int)):=bif v47 then(Pz K (Sx.mk v36 v37 v38) 256).bind fun r48=>some ((H5.mk 5 r8 (Pd.mk (Lz.mk 0 0) 0 0) r48.1 0 []),r48.2,v27,v28,v29,v30,v31,v32)else bif v34==13 then some ((H5.mk 6 r8 (Pd.mk (Lz.mk 0 0) 0 0) 0 0 []),(Sx.mk v36 v37 v38),v27,v28,v29,v30,v31,v32)else bif v34==14 then some ((H5.mk 7 r8 (Pd.mk (Lz.mk 0 0) 0 0) 0 0 []),(Sx.mk v36 v37 v38),v27,v28,v29,v30,v31,v32)else(bj K (Sx.mk v36 v37 v38) 6).bind fun r49=>bif r49.1 then some ((H5.mk 9 (Lz.mk 0 0) (Pd.mk (Lz.mk 0 0) 0 0) 0 0 []),r49.2,v27,v28,v29,v30,v31,v32)else some ((H5.mk 8 r8 (Pd.mk (Lz.mk 0 0) 0 0) 0 0 []),r49.2,v27,v28,v29,v30,v31,v32)
def vf (r8:Lz)(v13:Pd)(v27 v28 v29:List Int)(v30:List Fy)(v31:List G9)(v32:List Int)(v34:Int)(v36:List Int)(v37 v38:Int)(v43:Bool):Option (H5×Sx×(List Int)×(List Int)×(List Int)×(List Fy)×(List G9)×(List Int)):=bif v43 then(Pz K (Sx.mk v36 v37 v38) 2).bind fun r44=>(Alc K r44.2 (A4 1 r44.1)).bind fun r45=>some ((H5.mk 4 (Lz.mk 0 0) v13 0 0 r45.1),r45.2,v27,v28,v29,v30,v31,v32)else bif v34==10 then(Pz K (Sx.mk v36 v37 v38) 3).bind fun r46=>some ((H5.mk 3 (Lz.mk 0 0) v13 0 r46.1 []),r46.2,v27,v28,v29,v30,v31,v32)else bif v34==11 then vd K r8 v27 v28 v29 v30 v31 v32 v34 v36 v37 v38 (v34==11)else vd K r8 v27 v28 v29 v30 v31 v32 v34 v36 v37 v38 (v34==12)
def qi (r8:Lz)(v13:Pd)(v16:Int)(v27 v28 v29:List Int)(v30:List Fy)(v31:List G9)(v32:List Int)(v34:Int)(v36:List Int)(v37 v38:Int)(v39:Bool):Option (H5×Sx×(List Int)×(List Int)×(List Int)×(List Fy)×(List G9)×(List Int)):=bif v39 then(W9 K (Sx.mk v36 v37 v38) ([1,2,3,4,5,8]:List Int)).bind fun r40=>if r40.2.2.length=([1,2,3,4,5,8]:List Int).length then(W9 K r40.2.1 ([1,1,2,4]:List Int)).bind fun r41=>if r41.2.2.length=([1,1,2,4]:List Int).length then some ((H5.mk 2 r8 (Pd.mk (Lz.mk 0 0) 0 0) r40.1 r41.1 []),r41.2.1,v27,v28,v29,v30,v31,v32)else none else none else bif v34==7 then(Pz K (Sx.mk v36 v37 v38) v16).bind fun r42=>some ((H5.mk 2 r8 (Pd.mk (Lz.mk 0 0) 0 0) (A4 (A4 v16 1) r42.1) 1 []),r42.2,v27,v28,v29,v30,v31,v32)else bif v34==8 then vf K r8 v13 v27 v28 v29 v30 v31 v32 v34 v36 v37 v38 (v34==8)else vf K r8 v13 v27 v28 v29 v30 v31 v32 v34 v36 v37 v38 (v34==9)
def qj (r8:Lz)(v13:Pd)(v16:Int)(v27 v28 v29:List Int)(v30:List Fy)(v31:List G9)(v32:List Int)(v34:Int)(v35:Bool)(v36:List Int)(v37 v38:Int):Option (H5×Sx×(List Int)×(List Int)×(List Int)×(List Fy)×(List G9)×(List Int)):=bif v35 then some ((H5.mk 1 r8 (Pd.mk (Lz.mk 0 0) 0 0) 0 0 []),(Sx.mk v36 v37 v38),v27,v28,v29,v30,v31,v32)else bif v34==3 then some ((H5.mk 1 (Lz.mk 0 0) (Pd.mk (Lz.mk 0 0) 0 0) 0 0 []),(Sx.mk v36 v37 v38),v27,v28,v29,v30,v31,v32)else bif v34==4 then qi K r8 v13 v16 v27 v28 v29 v30 v31 v32 v34 v36 v37 v38 (v34==4)else bif v34==5 then qi K r8 v13 v16 v27 v28 v29 v30 v31 v32 v34 v36 v37 v38 (v34==5)else qi K r8 v13 v16 v27 v28 v29 v30 v31 v32 v34 v36 v37 v38 (v34==6)
def vg (r8:Lz)(v10:List Int)(v11 v12:Int)(v13:Pd)(v14:H5)(v15 v16:Int)(v17 v18:Int)(v19 v20:Int)(v21 v22:Nat)(v23 v24:Nat)(v25 v26:Nat)(v27 v28 v29:List Int)(v30:List Fy)(v31:List G9)(v32:List Int):Option (H5×Sx×(List Int)×(List Int)×(List Int)×(List Fy)×(List G9)×(List Int)):=(Pz K (Sx.mk v10 v11 v12) 16).bind fun r33=>bif r33.1==0 then qj K r8 v13 v16 v27 v28 v29 v30 v31 v32 r33.1 (r33.1==0) r33.2.fb r33.2.fi r33.2.fh else bif r33.1==1 then qj K r8 v13 v16 v27 v28 v29 v30 v31 v32 r33.1 (r33.1==1) r33.2.fb r33.2.fi r33.2.fh else qj K r8 v13 v16 v27 v28 v29 v30 v31 v32 r33.1 (r33.1==2) r33.2.fb r33.2.fi r33.2.fh
def vh (a0:Sx)(a1:H4):Option (H5×Sx×(List Int)×(List Int)×(List Int)×(List Fy)×(List G9)×(List Int)):=(Ala K a1).bind fun r1=>bif (r1.length:Int)==0 then(bj K a0 2).bind fun r2=>bif r2.1 then some ((H5.mk 1 (Lz.mk 0 0) (Pd.mk (Lz.mk 0 0) 0 0) 0 0 []),r2.2,a1.Q.g,a1.Q.c,a1.Q.h,a1.o,a1.p,a1.q)else(uy K r2.2).bind fun r3=>some (r3.1,r3.2,a1.Q.g,a1.Q.c,a1.Q.h,a1.o,a1.p,a1.q)else(bj K a0 10).bind fun r4=>bif r4.1 then(bj K r4.2 2).bind fun r5=>bif r5.1 then some ((H5.mk 1 (Lz.mk 0 0) (Pd.mk (Lz.mk 0 0) 0 0) 0 0 []),r5.2,a1.Q.g,a1.Q.c,a1.Q.h,a1.o,a1.p,a1.q)else(uy K r5.2).bind fun r6=>some (r6.1,r6.2,a1.Q.g,a1.Q.c,a1.Q.h,a1.o,a1.p,a1.q)else(Pz K r4.2 (r1.length:Int)).bind fun r7=>if 0<=r7.1/\r7.1<r1.length then(uz K a1.o (gt r1 r7.1)).bind fun r8=>if 0<=(gt r1 r7.1)/\(gt r1 r7.1)<a1.o.length then if 0<=(gt r1 r7.1)/\(gt r1 r7.1)<a1.o.length then if 0<=(gt r1 r7.1)/\(gt r1 r7.1)<a1.o.length then bif decide (((gt a1.o (gt r1 r7.1)).y.length:Int)>0)then if 0<=(gt r1 r7.1)/\(gt r1 r7.1)<a1.o.length then(Pz K r7.2 (((gt a1.o (gt r1 r7.1)).y).length:Int)).bind fun r9=>vg K r8 r9.2.fb r9.2.fi r9.2.fh (Pd.mk r8 (gt a1.o (gt r1 r7.1)).f r9.1) (H5.mk 0 (Lz.mk 0 0) (Pd.mk (Lz.mk 0 0) 0 0) 0 0 []) a1.C.L a1.C.k a1.C.l a1.C.e a1.C.m a1.C.n a1.Q.g.length a1.Q.c.length a1.Q.h.length a1.o.length a1.p.length a1.q.length a1.Q.g a1.Q.c a1.Q.h a1.o a1.p a1.q else none else vg K r8 r7.2.fb r7.2.fi r7.2.fh (Pd.mk r8 (gt a1.o (gt r1 r7.1)).f 0) (H5.mk 0 (Lz.mk 0 0) (Pd.mk (Lz.mk 0 0) 0 0) 0 0 []) a1.C.L a1.C.k a1.C.l a1.C.e a1.C.m a1.C.n a1.Q.g.length a1.Q.c.length a1.Q.h.length a1.o.length a1.p.length a1.q.length a1.Q.g a1.Q.c a1.Q.h a1.o a1.p a1.q else none else none else none else none
def qk:=fd Tryz.func114 ⟨[.b 171 false,.w 38 false [(5,true),(3,true),(3,true),(77,true),(79,false),(3,true)]],[.n 55 true],false⟩ (gC (A8e K) (gC (Y2 K) (gC (il K) (gC (uv K) (gC (Bfx K) (gC (A8i K) (gC (A8g K) gN))))))) [13,14] [127,2042,32687,523007,8368127] [(9,[.opn 5 (.tmp 6),.takeE 5 11 40331])]
def Bfy:E7:=⟨[(0,.p 1),(4,.p 104),(7,.p 107),(61,.v 2),(113,.v 4)],[(1,.box X0),(2,.rws 5 true),(3,.rws 3 true),(4,.rws 3 true),(5,.rws 77 true),(6,.rws 79 false),(7,.rws 3 true),(107,.st 40 true),(104,.st 55 true)]⟩
def Bfz:E7:=⟨[(0,.p 1),(4,.p 104),(7,.p 107),(8,.p 108),(61,.v 2),(97,.v 4)],[(1,.box X0),(2,.rws 5 true),(3,.rws 3 true),(4,.rws 3 true),(5,.rws 77 true),(6,.rws 79 false),(7,.rws 3 true),(108,.st 42 true),(107,.st 40 true),(104,.st 55 true)]⟩
def Bf0:E7:=⟨[(0,.p 1),(3,.p 103),(4,.p 104),(7,.p 107),(8,.p 108),(61,.v 2),(71,.v 4)],[(1,.box X0),(108,.st 42 true),(107,.st 40 true),(104,.st 55 true),(103,.ob [.v 2,.v 2,.v 2,.v 2,.v 2,.v 2,.O 2,.O 3,.O 4,.O 5,.O 6,.O 7]),(2,.rws 5 true),(3,.rws 3 true),(4,.rws 3 true),(5,.rws 77 true),(6,.rws 79 false),(7,.rws 3 true)]⟩
def Bf1:E7:=⟨[(0,.p 1),(3,.p 103),(4,.p 104),(7,.p 107),(8,.p 108),(61,.v 2),(62,.v 4)],[(1,.box X0),(108,.st 42 true),(107,.st 40 true),(104,.st 55 true),(103,.ob [.v 2,.v 2,.v 2,.v 2,.v 2,.v 2,.O 2,.O 3,.O 4,.O 5,.O 6,.O 7]),(2,.rws 5 true),(3,.rws 3 true),(4,.rws 3 true),(5,.rws 77 true),(6,.rws 79 false),(7,.rws 3 true)]⟩
def Bf2:E7:=⟨[(0,.p 1),(3,.p 103),(4,.p 104),(7,.p 107),(8,.p 108)],[(1,.box X0),(108,.st 42 true),(107,.st 40 true),(104,.st 55 true),(103,.ob [.v 2,.v 2,.v 2,.v 2,.v 2,.v 2,.O 2,.O 3,.O 4,.O 5,.O 6,.O 7]),(2,.rws 5 true),(3,.rws 3 true),(4,.rws 3 true),(5,.rws 77 true),(6,.rws 79 false),(7,.rws 3 true)]⟩
def Bf3:=jn (qk K) 8368127 Bfy [] (fun a b c d e f g h i j k l _=>vd K l f g h i j k a c d e b) kN
def Bf4:=jn (qk K) 523007 Bfz [] (fun a b c d e f g h i j k l m _=>vf K m l f g h i j k a c d e b) (kC (Bf3 K) kN)
def Bf5:=jn (qk K) 32687 Bf0 [] (fun a b c d e f g _ _ j _ _ _ _ _ _ _ _ _ _ v w x y z a1=>qi K g f j v w x y z a1 a c d e b) (kC (Bf4 K) kN)
def Bf6:=jn (qk K) 2042 Bf1 [] (fun a b c d e f g _ _ j _ _ _ _ _ _ _ _ _ _ v w x y z a1=>qj K g f j v w x y z a1 a b c d e) (kC (Bf5 K) kN)
def Bf7:=jn (qk K) 127 Bf2 [] (fun a b c d e=>vg K e a b c d) (kC (Bf6 K) kN)
def A8j:=ct (qk K) (vh K) (kC (Bf7 K) kN)
def vi (K:Nat)(a0:Lz):Option Bool:=bif decide (a0.d>=0)then some (decide (a0.a>=1))else some false
def A8k:=ct (fd Tryz.func354 ⟨[.v 40],[.v 4],true⟩ gN [5,6]) (vi K)
def vj (a0:List Fy)(a1:Lz):Option Int:=(V5 K a1.d 0 (Ap a0.length 1)).bind fun r1=>bif r1 then if 0<=a1.d/\a1.d<a0.length then bif (gt a0 a1.d).c != 1 then some (-1)else if 0<=a1.d/\a1.d<a0.length then bif (gt a0 a1.d).a != a1.a then some (-1)else some a1.d else none else none else some (-1)
def A8l:=ct (fd Tryz.func355 ⟨[.v 35,.v 40],[.v 3],true⟩ (gC (X1 K) gN) [10,11,12,19,20,21]) (vj K)
def fc (a0:H4)(a1:Lz):Option (Int×Int):=(vi K a1).bind fun r1=>bif !r1 then some ((-1),1)else(vj K a0.o a1).bind fun r2=>bif decide (r2<0)then some ((-1),2)else(qf K a0.o r2).bind fun r3=>bif !r3 then some ((-1),2)else some (r2,0)
def qm:=ct (fd Tryz.func307 ⟨[.v 38,.v 40],[.v 3,.v 3],true⟩ (gC (A3w K) (gC (A8k K) (gC (A8l K) gN))) [15,16]) (fc K)
def Aln (a0:H4)(a1:Lz):Option (Int×Int):=bif (a1.d==0)&&((a1.a==0)&&true)then some ((-1),0)else(fc K a0 a1).bind fun r1=>some (r1.1,r1.2)
def Bf8:=ct (fd Tryz.func342 ⟨[.v 38,.v 40],[.v 3,.v 3],true⟩ (gC (qm K) gN)) (Aln K)
def vk (a0:List Fy)(a1:Int):Option Int:=(qd K a0 a1).bind fun r1=>some (r1.length:Int)
def A8m:=ct (fd Tryz.func343 ⟨[.v 35,.v 3],[.v 3],true⟩ (gC (A3t K) gN)) (vk K)
def db (a0:H4)(a1:Lz):Option Int:=(vj K a0.o a1).bind fun r1=>(vk K a0.o r1).bind fun r2=>some r2
def mh:=ct (fd Tryz.func308 ⟨[.v 38,.v 40],[.v 3],true⟩ (gC (A8m K) (gC (A8l K) gN))) (db K)
def ir (K:Nat)(v2 v3:Int)(v4 v5:Int)(v6 v7 v8:Int)(v9 v10 v11:List Int)(v12:List Fy)(v13:List G9)(v14:List Int)(C1:Int->Int->Int->Int->Int->Int->Int->Int->(List Int)->(List Int)->(List Int)->(List Fy)->(List G9)->(List Int)->Option Int)(v15:Int):Option Int:=C1 v15 (A4 v2 1) v3 v4 v5 v6 v7 v8 v9 v10 v11 v12 v13 v14
def de:Nat->Int->Int->Int->Int->Int->Int->Int->Int->(List Int)->(List Int)->(List Int)->(List Fy)->(List G9)->(List Int)->Option Int
 |0,_,_,_,_,_,_,_,_,_,_,_,_,_,_=>none
 |n1+1,v1,v2,v3,v4,v5,v6,v7,v8,v9,v10,v11,v12,v13,v14=>bif decide (v2<v12.length)then if 0<=v2/\v2<v12.length then bif (gt v12 v2).c==0 then ir K v2 v3 v4 v5 v6 v7 v8 v9 v10 v11 v12 v13 v14 (de n1) (A4 v1 1)else(qf K v12 v2).bind fun r16=>bif r16 then ir K v2 v3 v4 v5 v6 v7 v8 v9 v10 v11 v12 v13 v14 (de n1) v1 else if 0<=v2/\v2<v12.length then bif (gt v12 v2).c != 3 then if 0<=v2/\v2<v12.length then bif decide (((gt v12 v2).a)<v8)then ir K v2 v3 v4 v5 v6 v7 v8 v9 v10 v11 v12 v13 v14 (de n1) (A4 v1 1)else ir K v2 v3 v4 v5 v6 v7 v8 v9 v10 v11 v12 v13 v14 (de n1) v1 else none else ir K v2 v3 v4 v5 v6 v7 v8 v9 v10 v11 v12 v13 v14 (de n1) v1 else none else none else some v1
def A3z (a0:H4):Option Int:=de K K 0 0 a0.C.L a0.C.k a0.C.l a0.C.e a0.C.m a0.C.n a0.Q.g a0.Q.c a0.Q.h a0.o a0.p a0.q
def A30:=fd Tryz.func344 ⟨[.v 38],[.v 3],true⟩ (gC (A3w K) gN) [18,19,23,24,25,32,33,34] [233]
def Alo:E7:=⟨[(1,.p 101),(3,.v 2),(4,.v 2)],[(101,.box Wz)]⟩
def Bf9:=fun(C58:CT Alo _)=>jn (A30 K) 233 Alo [(58,ar Alo C58)] (fun a b c d e f g h i j k l m o=>ir K b c d e f g h i j k l m o C58 a) kN
def Bga:=lp (A30 K) 58 Alo [] (de K) (fun n=>kC (Bf9 K _) kN)
def Bgb:=ct (A30 K) (A3z K) (kC (Bga K K) kN)
def vl (K:Nat)(v2:Int)(v3 v4 v5:List Int)(C1:(List Int)->Int->(List Int)->(List Int)->(List Int)->Option (List Int))(v6:List Int):Option (List Int):=C1 v6 (A4 v2 1) v3 v4 v5
def fe (a1:Int):Nat->(List Int)->Int->(List Int)->(List Int)->(List Int)->Option (List Int)
 |0,_,_,_,_,_=>none
 |n1+1,v1,v2,v3,v4,v5=>bif decide (v2<v4.length)then bif decide (v2<v5.length)then if 0<=v2/\v2<v4.length then bif (gt v4 v2)==1 then if 0<=v2/\v2<v5.length then bif (gt v5 v2)==a1 then if(v1++([v2]:List Int)).length*8<=140737488355328/\(v1++([v2]:List Int)).length<=maxLen then vl K v2 v3 v4 v5 (fe a1 n1) (v1++([v2]:List Int))else none else vl K v2 v3 v4 v5 (fe a1 n1) v1 else none else vl K v2 v3 v4 v5 (fe a1 n1) v1 else none else some v1 else some v1
def vm (a0:Pc)(a1:Int):Option (List Int):=fe K a1 K ([]:List Int) 0 a0.g a0.c a0.h
def A31:=fd Tryz.func155 ⟨[.v 34,.v 3],[.n 25 true],true⟩ gN [12,13,27,28] [233]
def Alr:E7:=⟨[(1,.v 2),(2,.p 102),(5,.o 1005 3 true),(6,.v 2)],[(102,.box da)]⟩
def Bgc:=fun(C58:CT Alr _)=>jn A31 233 Alr [(58,ar Alr C58)] (fun a b c d e f=>vl K c d e f (C58 a) b) kN
def Bgd:=lp A31 58 Alr [] (fun n a=>fe K a n) (fun n=>kC (Bgc K _) kN)
def A8n:=ct A31 (vm K) (kC (Bgd K K) kN)
def qn (r1:(List Int)):Nat->Int->Int->Int->Int->Int->Int->Int->Int->(List Int)->(List Int)->(List Int)->(List Fy)->(List G9)->(List Int)->Option Int
 |0,_,_,_,_,_,_,_,_,_,_,_,_,_,_=>none
 |n1+1,v2,v3,v4,v5,v6,v7,v8,v9,v10,v11,v12,v13,v14,v15=>bif decide (v3<r1.length)then if 0<=v3/\v3<r1.length then(vm K (Pc.mk v10 v11 v12) (gt r1 v3)).bind fun r16=>qn r1 n1 (A4 v2 r16.length) (A4 v3 1) v4 v5 v6 v7 v8 v9 v10 v11 v12 v13 v14 v15 else none else some v2
def A32 (a0:H4):Option Int:=(Ala K a0).bind fun r1=>qn K r1 K 0 0 a0.C.L a0.C.k a0.C.l a0.C.e a0.C.m a0.C.n a0.Q.g a0.Q.c a0.Q.h a0.o a0.p a0.q
def A8o:=fd Tryz.func46 ⟨[.v 38],[.v 3],true⟩ (gC (A8e K) (gC (A8n K) gN))
def Bge:E7:=⟨[(1,.p 101),(3,.v 2),(4,.v 25),(5,.v 2)],[(101,.box Wz)]⟩
def Bgf:=lp (A8o K) 122 Bge [] (fun n a b=>qn K b n a) (fun n=>kN)
def Bgg:=ct (A8o K) (A32 K) (kC (Bgf K K) kN)
def qo (a0:H4)(a1:Int):Option Bool:=bif decide (a1>=0)then bif decide (a1<=a0.C.L)then(A32 K a0).bind fun r1=>some (decide (r1<=(Ap a0.C.L a1)))else some false else some false
def A33:=ct (fd Tryz.func43 ⟨[.v 38,.v 3],[.v 4],true⟩ (gC (Bgg K) gN) [6,7,12,13,14]) (qo K)
def Alv (K:Nat)(v2:Int)(C1:Int->Int->Option Int)(v3:Int):Option Int:=C1 v3 (A4 v2 1)
def iu (a0:List Fy)(a1:Int):Nat->Int->Int->Option Int
 |0,_,_=>none
 |n1+1,v1,v2=>bif decide (v2<a0.length)then if 0<=v2/\v2<a0.length then bif (gt a0 v2).c==a1 then Alv K v2 (iu a0 a1 n1) (A4 v1 1)else Alv K v2 (iu a0 a1 n1) v1 else none else some v1
def qp (a0:List Fy)(a1:Int):Option Int:=iu K a0 a1 K 0 0
def A34:=fd Tryz.func247 ⟨[.v 35,.v 3],[.v 3],true⟩ gN [] [233]
def Alw:E7:=⟨[(0,.v 35),(1,.v 2),(5,.v 2),(6,.v 2)],[]⟩
def Bgh:=fun(C58:CT Alw _)=>jn A34 233 Alw [(58,ar Alw C58)] (fun a b c d=>Alv K d (C58 a b) c) kN
def Bgi:=lp A34 58 Alw [] (fun n a b=>iu K a b n) (fun n=>kC (Bgh K _) kN)
def A8p:=ct A34 (qp K) (kC (Bgi K K) kN)
def qq (K:Nat)(a1 a2:Int):Nat->Int->(List Int)->(List Int)->(List Int)->Option Bool
 |0,_,_,_,_=>none
 |n1+1,v1,v2,v3,v4=>bif decide (v1<(A4 a1 a2))then if 0<=v1/\v1<v3.length then bif (gt v3 v1) != 0 then some false else qq K a1 a2 n1 (A4 v1 1) v2 v3 v4 else none else some true
def vp (a0:Pc)(a1 a2:Int):Option Bool:=bif decide (a1<0)then some false else bif decide (a2<1)then some false else bif decide (a1>a0.c.length)then some false else bif decide (a2>(Ap a0.c.length a1))then some false else qq K a1 a2 K a1 a0.g a0.c a0.h
def A8q:=fd Tryz.func376 ⟨[.v 34,.v 3,.v 3],[.v 4],true⟩ gN [9,10,12,13,14,19,20,21]
def Bgj:E7:=⟨[(1,.v 2),(2,.v 2),(3,.p 103),(7,.v 2)],[(103,.box da)]⟩
def Bgk:=lp A8q 58 Bgj [] (fun n a b=>qq K a b n) (fun n=>kN)
def A8r:=ct A8q (vp K) (kC (Bgk K K) kN)
def vq (a1:Int):Nat->Int->(List Int)->(List Int)->(List Int)->Option Int
 |0,_,_,_,_=>none
 |n1+1,v1,v2,v3,v4=>bif decide (v1<v3.length)then(vp K (Pc.mk v2 v3 v4) v1 a1).bind fun r5=>bif r5 then some v1 else vq a1 n1 (A4 v1 1) v2 v3 v4 else some (-1)
def Al0 (a0:Pc)(a1:Int):Option Int:=vq K a1 K 0 a0.g a0.c a0.h
def A8s:=fd Tryz.func375 ⟨[.v 34,.v 3],[.v 3],true⟩ (gC (A8r K) gN)
def Bgl:E7:=⟨[(1,.v 2),(2,.p 102),(5,.v 2)],[(102,.box da)]⟩
def Bgm:=lp (A8s K) 26 Bgl [] (fun n a=>vq K a n) (fun n=>kN)
def A8t:=ct (A8s K) (Al0 K) (kC (Bgm K K) kN)
def Al4 (K:Nat)(a0:G9):Option Int:=bif decide ((a0.j.length:Int)>0)then some 1 else bif decide ((a0.L.length:Int)>0)then some 2 else bif a0.i != 0 then some 3 else some 4
def Bgn:=ct (fd Tryz.func270 ⟨[.v 79],[.v 3],true⟩ gN) (Al4 K)
def qr (K:Nat)(a0:H4):Option H4:=if(0:Int)<=0/\0<(a0.p.length:Int)then if 0<=(Ap (((gt a0.p 0).j).length:Int) 1)/\(Ap (((gt a0.p 0).j).length:Int) 1)<(((gt a0.p 0).j).length:Int)then if(a0.q++([(gt (gt a0.p 0).j (Ap (((gt a0.p 0).j).length:Int) 1))]:List Int)).length*8<=140737488355328/\(a0.q++([(gt (gt a0.p 0).j (Ap (((gt a0.p 0).j).length:Int) 1))]:List Int)).length<=maxLen then if(0:Int)<=0/\0<=(Ap (((gt a0.p 0).j).length:Int) 1)/\(Ap (((gt a0.p 0).j).length:Int) 1)<=(((gt a0.p 0).j).length:Int)then if(([]:List Int)++(((gt a0.p 0).j.drop (0:Int).toNat).take ((Ap (((gt a0.p 0).j).length:Int) 1) - 0).toNat)).length*8<=140737488355328/\(([]:List Int)++(((gt a0.p 0).j.drop (0:Int).toNat).take ((Ap (((gt a0.p 0).j).length:Int) 1) - 0).toNat)).length<=maxLen then some (H4.mk a0.C a0.Q a0.o (a0.p.set (0:Int).toNat (G9.mk (gt a0.p 0).d (gt a0.p 0).i (([]:List Int)++(((gt a0.p 0).j.drop (0:Int).toNat).take ((Ap (((gt a0.p 0).j).length:Int) 1) - 0).toNat)) (gt a0.p 0).L (gt a0.p 0).z)) (a0.q++([(gt (gt a0.p 0).j (Ap (((gt a0.p 0).j).length:Int) 1))]:List Int)))else none else none else none else none else none
def Bgo:=ct (fd Tryz.func271 ⟨[.b 38 false],[],false⟩ gN [] [] [(0,[.take 1 10 5026]),(2,[.take 1 11 5027])]) (qr K)
def iv (K:Nat)(a0:Pc):Option Pc:=if(([]:List Int)++a0.g).length*1<=140737488355328/\(([]:List Int)++a0.g).length<=maxLen then if(([]:List Int)++a0.c).length*8<=140737488355328/\(([]:List Int)++a0.c).length<=maxLen then if(([]:List Int)++a0.h).length*8<=140737488355328/\(([]:List Int)++a0.h).length<=maxLen then some (Pc.mk (([]:List Int)++a0.g) (([]:List Int)++a0.c) (([]:List Int)++a0.h))else none else none else none
def Al5:=ct (fd Tryz.func188 ⟨[.v 34],[.n 34 true],true⟩ gN) (iv K)
def qt (K:Nat)(a0:List Int):Nat->Int->Option Bool
 |0,_=>none
 |n1+1,v1=>bif decide (v1<a0.length)then if 0<=v1/\v1<a0.length then bif (gt a0 v1) != 0 then some false else qt K a0 n1 (A4 v1 1)else none else some true
def iy (a0:List Int):Option Bool:=qt K a0 K 0
def A8u:=fd Tryz.func237 ⟨[.v 24],[.v 4],true⟩ gN
def Bgp:E7:=⟨[(0,.v 24),(3,.v 2)],[]⟩
def Bgq:=lp A8u 26 Bgp [] (fun n a=>qt K a n) (fun n=>kN)
def Ama:=ct A8u (iy K) (kC (Bgq K K) kN)
def Amg (K:Nat)(v3:Int)(v4 v5 v6:List Int)(C1:Int->(List Int)->(List Int)->(List Int)->Option Bool):Option Bool:=C1 (A4 v3 1) v4 v5 v6
def qu (a0:Sv)(v3:Int)(v4 v5 v6:List Int)(C1:Int->(List Int)->(List Int)->(List Int)->Option Bool):Option Bool:=if 0<=v3/\v3<v5.length then bif (gt v5 v3)==0 then if 0<=(F2 v3 a0.k)/\(F2 v3 a0.k)<=(F2 (A4 v3 1) a0.k)/\(F2 (A4 v3 1) a0.k)<=v4.length then(iy K ((v4.drop (F2 v3 a0.k).toNat).take ((F2 (A4 v3 1) a0.k) - (F2 v3 a0.k)).toNat)).bind fun r9=>bif !r9 then some false else Amg K v3 v4 v5 v6 (C1)else none else Amg K v3 v4 v5 v6 (C1)else none
def dg (a0:Sv):Nat->Int->(List Int)->(List Int)->(List Int)->Option Bool
 |0,_,_,_,_=>none
 |n1+1,v3,v4,v5,v6=>bif decide (v3<a0.L)then if 0<=v3/\v3<v5.length then(V5 K (gt v5 v3) 0 2).bind fun r7=>bif !r7 then some false else if 0<=v3/\v3<v5.length then bif (gt v5 v3)==1 then if 0<=v3/\v3<v6.length then(V5 K (gt v6 v3) 0 (Ap a0.l 1)).bind fun r8=>bif r8 then if 0<=v3/\v3<v5.length then bif (gt v5 v3) != 1 then if 0<=v3/\v3<v6.length then bif (gt v6 v3) != (-1)then some false else qu K a0 v3 v4 v5 v6 (dg a0 n1)else none else qu K a0 v3 v4 v5 v6 (dg a0 n1)else none else some false else none else if 0<=v3/\v3<v5.length then bif (gt v5 v3) != 1 then if 0<=v3/\v3<v6.length then bif (gt v6 v3) != (-1)then some false else qu K a0 v3 v4 v5 v6 (dg a0 n1)else none else qu K a0 v3 v4 v5 v6 (dg a0 n1)else none else none else none else some true
def vr (a0:Sv)(a1:Pc):Option Bool:=(bh K a0).bind fun r1=>bif r1 then(mf K a0).bind fun r2=>bif (a1.g.length:Int) != r2 then some false else bif (a1.c.length:Int) != a0.L then some false else bif (a1.h.length:Int) != a0.L then some false else dg K a0 K 0 a1.g a1.c a1.h else some false
def Amp:=fd Tryz.func139 ⟨[.v 33,.v 34],[.v 4],true⟩ (gC (im K) (gC (X1 K) (gC (Ak4 K) (gC (Ama K) gN)))) [7,8,9,15,16,17,23,24,25,51,52,61,62,63,64,70,71,85,86] [233,1865]
def mi:E7:=⟨[(2,.p 102),(3,.p 103),(5,.v 2)],[(103,.box da),(102,.st 33 true)]⟩
def Bgr:=fun(C58:CT mi _)=>jn (Amp K) 233 mi [(58,ar mi C58)] (fun a b c d e=>Amg K a b c d (fun v3 v4 v5 v6=>C58 v3 v4 v5 v6 e)) kN
def Bgs:=fun(C58:CT mi _)=>jn (Amp K) 1865 mi [(58,ar mi C58)] (fun a b c d e=>qu K e a b c d (fun v3 v4 v5 v6=>C58 v3 v4 v5 v6 e)) (kC (Bgr K _) kN)
def Bgt:=lp (Amp K) 58 mi [] (fun n a b c d e=>dg K e n a b c d) (fun n=>kC (Bgs K _) kN)
def A8v:=ct (Amp K) (vr K) (kC (Bgt K K) kN)
def qv (K:Nat)(a0 a1:Int):Option Int:=bif decide (a1<a0)then some a1 else some a0
def Bgu:=ct (fd Tryz.func364 ⟨[.v 3,.v 3],[.v 3],true⟩ gN) (qv K)
def vt (K:Nat)(a0:List Int)(a1 a2:Int):Nat->(List Int)->Int->Option (List Int)
 |0,_,_=>none
 |n1+1,v1,v2=>bif decide (v2<a0.length)then bif decide ((Ap v2 a1)<a2)then if 0<=v2/\v2<v1.length then vt K a0 a1 a2 n1 (v1.set v2.toNat 0) (A4 v2 1)else none else some v1 else some v1
def Amr (a0:List Int)(a1 a2:Int):Option (List Int):=if(([]:List Int)++a0).length*1<=140737488355328/\(([]:List Int)++a0).length<=maxLen then bif decide (a1<0)then some (([]:List Int)++a0)else bif decide (a2<0)then some (([]:List Int)++a0)else vt K a0 a1 a2 K (([]:List Int)++a0) a1 else none
def A8w:=fd Tryz.func365 ⟨[.v 24,.v 3,.v 3],[.n 24 true],true⟩ gN [13,14,23,24]
def Bgv:E7:=⟨[(0,.v 24),(1,.v 2),(2,.v 2),(7,.o 1007 5 true),(8,.v 2)],[]⟩
def Bgw:=lp A8w 122 Bgv [] (fun n a b c=>vt K a b c n) (fun n=>kN)
def Bgx:=ct A8w (Amr K) (kC (Bgw K K) kN)
def qx (a0:Sv)(a1:Pc)(a2 a3:Int):Option (Pc×Bool):=(iv K a1).bind fun r1=>(vr K a0 a1).bind fun r2=>bif r2 then(V5 K a2 0 (Ap a0.L 1)).bind fun r3=>bif r3 then if 0<=a2/\a2<a1.c.length then bif (gt a1.c a2) != 2 then some (r1,false)else(V5 K a3 0 (Ap a0.k 1)).bind fun r4=>bif !r4 then some (r1,false)else(qv K (A4 a3 a0.m) a0.k).bind fun r5=>(Amr K a1.g (A4 (F2 a2 a0.k) a3) (Ap r5 a3)).bind fun r6=>bif decide (r5<a0.k)then some ((Pc.mk r6 r1.c r1.h),false)else if 0<=(F2 a2 a0.k)/\(F2 a2 a0.k)<=(F2 (A4 a2 1) a0.k)/\(F2 (A4 a2 1) a0.k)<=r6.length then(iy K ((r6.drop (F2 a2 a0.k).toNat).take ((F2 (A4 a2 1) a0.k) - (F2 a2 a0.k)).toNat)).bind fun r7=>bif !r7 then(iv K a1).bind fun r8=>some (r8,false)else if 0<=a2/\a2<r1.c.length then some ((Pc.mk r6 (r1.c.set a2.toNat 0) r1.h),true)else none else none else none else some (r1,false)else some (r1,false)
def Bgy:=ct (fd Tryz.func318 ⟨[.v 33,.v 34,.v 3,.v 3],[.n 34 true,.v 4],true⟩ (gC (A8v K) (gC (X1 K) (gC (Al5 K) (gC (Ama K) (gC (Bgu K) (gC (Bgx K) gN)))))) [16,17,18,23,24,25,26,32,33,34]) (qx K)
def vu (a0:H4):Option H4:=if(0:Int)<=0/\0<(a0.p.length:Int)then if(0:Int)<=0/\0<(((gt a0.p 0).L).length:Int)then(qx K a0.C a0.Q (gt (gt a0.p 0).L 0) (gt a0.p 0).z).bind fun r1=>bif r1.2 then if(0:Int)<=1/\1<=(((gt a0.p 0).L).length:Int)/\(((gt a0.p 0).L).length:Int)<=(((gt a0.p 0).L).length:Int)then if(([]:List Int)++(((gt a0.p 0).L.drop (1:Int).toNat).take (((gt a0.p 0).L.length:Int) - 1).toNat)).length*8<=140737488355328/\(([]:List Int)++(((gt a0.p 0).L.drop (1:Int).toNat).take (((gt a0.p 0).L.length:Int) - 1).toNat)).length<=maxLen then some (H4.mk a0.C r1.1 a0.o (a0.p.set (0:Int).toNat (G9.mk (gt a0.p 0).d (gt a0.p 0).i (gt a0.p 0).j (([]:List Int)++(((gt a0.p 0).L.drop (1:Int).toNat).take (((gt a0.p 0).L.length:Int) - 1).toNat)) 0)) a0.q)else none else none else some (H4.mk a0.C r1.1 a0.o (a0.p.set (0:Int).toNat (G9.mk (gt a0.p 0).d (gt a0.p 0).i (gt a0.p 0).j (gt a0.p 0).L (A4 (gt a0.p 0).z a0.C.m))) a0.q)else none else none
def Bgz:=ct (fd Tryz.func272 ⟨[.b 38 false],[],false⟩ (gC (Bgy K) gN) [] [] [(0,[.take 1 10 5026]),(1,[.take 1 6 5022,.take 1 7 5023,.take 1 8 5024])]) (vu K)
def bk (K:Nat)(a0:Fy):Option Fy:=if(([]:List Int)++a0.L).length*8<=140737488355328/\(([]:List Int)++a0.L).length<=maxLen then if(([]:List H3)++a0.y).length*24<=140737488355328/\(([]:List H3)++a0.y).length<=maxLen then if(([]:List Int)++a0.j).length*8<=140737488355328/\(([]:List Int)++a0.j).length<=maxLen then some (Fy.mk a0.c a0.a a0.f a0.s a0.t a0.i a0.u a0.v (([]:List Int)++a0.L) a0.w a0.x (([]:List H3)++a0.y) (([]:List Int)++a0.j))else none else none else none
def qy:=ct (fd Tryz.func281 ⟨[.v 77],[.n 77 false],true⟩ gN) (bk K)
def qz (K:Nat)(v3 v4:Pc):Option Pc:=some v3
def Amy (a0:Pc)(a1:Int):Option Pc:=(iv K a0).bind fun r1=>(V5 K a1 0 (Ap a0.c.length 1)).bind fun r2=>bif r2 then bif decide (a1<a0.h.length)then if 0<=a1/\a1<a0.c.length then bif (gt a0.c a1)==1 then if 0<=a1/\a1<r1.c.length then if 0<=a1/\a1<r1.h.length then qz K (Pc.mk r1.g (r1.c.set a1.toNat 2) (r1.h.set a1.toNat (-1))) (Pc.mk [] [] [])else none else none else qz K r1 (Pc.mk [] [] [])else none else qz K r1 (Pc.mk [] [] [])else qz K r1 (Pc.mk [] [] [])
def A8x:=fd Tryz.func366 ⟨[.v 34,.v 3],[.n 34 true],true⟩ (gC (X1 K) (gC (Al5 K) gN)) [13,14,19,20,21] [7] [(5,[.take 105 0 6680,.take 105 1 6681,.take 105 2 6682])]
def A8y:E7:=⟨[(4,.p 104),(5,.p 105)],[(105,.st 34 true),(104,.st 34 true)]⟩
def Bg0:=jn (A8x K) 7 A8y [] (qz K) kN
def Bg1:=ct (A8x K) (Amy K) (kC (Bg0 K) kN)
def bn (a1:List Int):Nat->Int->Int->Int->Int->Int->Int->Int->(List Int)->(List Int)->(List Int)->(List Fy)->(List G9)->(List Int)->Option H4
 |0,_,_,_,_,_,_,_,_,_,_,_,_,_=>none
 |n1+1,v1,v2,v3,v4,v5,v6,v7,v8,v9,v10,v11,v12,v13=>bif decide (v1<a1.length)then if 0<=v1/\v1<a1.length then(Amy K (Pc.mk v8 v9 v10) (gt a1 v1)).bind fun r14=>bn a1 n1 (A4 v1 1) v2 v3 v4 v5 v6 v7 r14.g r14.c r14.h v11 v12 v13 else none else some (H4.mk (Sv.mk v2 v3 v4 v5 v6 v7) (Pc.mk v8 v9 v10) v11 v12 v13)
def iz (a0:H4)(a1:List Int):Option H4:=bn K a1 K 0 a0.C.L a0.C.k a0.C.l a0.C.e a0.C.m a0.C.n a0.Q.g a0.Q.c a0.Q.h a0.o a0.p a0.q
def A8z:=fd Tryz.func319 ⟨[.b 38 false,.v 25],[],false⟩ (gC (Bg1 K) gN) [] [] [(3,[.take 1 6 5022,.take 1 7 5023,.take 1 8 5024])]
def Bg2:E7:=⟨[(0,.p 1),(1,.v 25),(4,.v 2)],[(1,.box Zu)]⟩
def Bg3:=lp (A8z K) 6 Bg2 [] (fun n a=>bn K a n) (fun n=>kN)
def A35:=ct (A8z K) (iz K) (kC (Bg3 K K) kN)
def rb (K:Nat)(a0:Fy):Option Fy:=some (Fy.mk 2 a0.a 0 0 0 0 0 0 [] 0 0 [] [])
def A80:=ct (fd Tryz.func320 ⟨[.v 77],[.n 77 false],true⟩ gN) (rb K)
def rd (K:Nat)(a0:Fy)(a1:Int):Option G9:=if(([]:List Int)++a0.j).length*8<=140737488355328/\(([]:List Int)++a0.j).length<=maxLen then if(([]:List Int)++a0.L).length*8<=140737488355328/\(([]:List Int)++a0.L).length<=maxLen then some (G9.mk a1 a0.i (([]:List Int)++a0.j) (([]:List Int)++a0.L) 0)else none else none
def A36:=ct (fd Tryz.func279 ⟨[.v 77,.v 3],[.n 79 true],true⟩ gN) (rd K)
def Am3 (K:Nat)(a0:Fy)(a1:Int):Option G9:=if(([]:List Int)++a0.j).length*8<=140737488355328/\(([]:List Int)++a0.j).length<=maxLen then if(([]:List Int)++a0.L).length*8<=140737488355328/\(([]:List Int)++a0.L).length<=maxLen then some (G9.mk a1 a0.i (([]:List Int)++a0.j) (([]:List Int)++a0.L) 0)else none else none
def Bg4:=ct (fd Tryz.func279 ⟨[.v 77,.v 3],[.v 79],false⟩ gN) (Am3 K)
def mj (r1:Fy)(v4 v5:Int)(v6 v7:Int)(v8 v9 v10:Int)(v11 v12 v13:List Int)(v14:List Fy)(v15:List G9)(v16:List Int):Option H4:=(iz K (H4.mk (Sv.mk v5 v6 v7 v8 v9 v10) (Pc.mk v11 v12 v13) v14 v15 v16) r1.L).bind fun r17=>(rb K r1).bind fun r18=>if 0<=v4/\v4<r17.o.length then(Am3 K r1 (A4 v4 1)).bind fun r19=>if(([r19]:List G9)++r17.p).length*72<=140737488355328/\(([r19]:List G9)++r17.p).length<=maxLen then some (H4.mk r17.C r17.Q (r17.o.set v4.toNat r18) (([r19]:List G9)++r17.p) r17.q)else none else none
def re (a0:H4):Option H4:=if(0:Int)<=0/\0<(a0.p.length:Int)then if 0<=(Ap (gt a0.p 0).i 1)/\(Ap (gt a0.p 0).i 1)<a0.o.length then if 0<=(Ap (gt a0.p 0).i 1)/\(Ap (gt a0.p 0).i 1)<a0.o.length then(bk K (gt a0.o (Ap (gt a0.p 0).i 1))).bind fun r1=>if(0:Int)<=0/\0<(a0.p.length:Int)then(Yu K a0.o r1.u).bind fun r2=>bif r2 then if 0<=(Ap r1.u 1)/\(Ap r1.u 1)<a0.o.length then Ax5 (a0.o.set (Ap r1.u 1).toNat (Fy.mk (gt a0.o (Ap r1.u 1)).c (gt a0.o (Ap r1.u 1)).a (gt a0.o (Ap r1.u 1)).f (gt a0.o (Ap r1.u 1)).s (gt a0.o (Ap r1.u 1)).t (gt a0.o (Ap r1.u 1)).i (gt a0.o (Ap r1.u 1)).u 0 (gt a0.o (Ap r1.u 1)).L (gt a0.o (Ap r1.u 1)).w (gt a0.o (Ap r1.u 1)).x (gt a0.o (Ap r1.u 1)).y (gt a0.o (Ap r1.u 1)).j)) fun v3=>mj K r1 (Ap (gt a0.p 0).i 1) a0.C.L a0.C.k a0.C.l a0.C.e a0.C.m a0.C.n a0.Q.g a0.Q.c a0.Q.h v3 (a0.p.set (0:Int).toNat (G9.mk (gt a0.p 0).d r1.u (gt a0.p 0).j (gt a0.p 0).L (gt a0.p 0).z)) a0.q else none else mj K r1 (Ap (gt a0.p 0).i 1) a0.C.L a0.C.k a0.C.l a0.C.e a0.C.m a0.C.n a0.Q.g a0.Q.c a0.Q.h a0.o (a0.p.set (0:Int).toNat (G9.mk (gt a0.p 0).d r1.u (gt a0.p 0).j (gt a0.p 0).L (gt a0.p 0).z)) a0.q else none else none else none else none
def A81:=fo Tryz.func273 ⟨[.b 38 false],[],false⟩ (gC (iq K) (gC (qy K) (gC (A35 K) (gC (A80 K) gN)))) (oC (d:=60) (gC (Bg4 K) gN) oN) [] [15] [(0,[.take 1 10 5026]),(1,[.take 1 9 5025,.opn 5025 (.tmp 2),.takeE 5025 11 41611,.takeE 5025 12 41612]),(3,[.put 5025]),(5,[.take 103 8 6656,.frz 6656]),(6,[.take 1 9 5025,.take 103 11 6659,.take 103 12 6660]),(7,[.take 1 10 5026,.frz 6659,.frz 6660])]
def Bg5:E7:=⟨[(0,.p 1),(2,.v 2),(3,.p 103)],[(1,.box Zu),(103,.st 77 false)]⟩
def Bg6:=jn (A81 K) 15 Bg5 [] (fun a b c d e f g h i j k l m o=>mj K o a b c d e f g h i j k l m) kN
def Bg7:=ct (A81 K) (re K) (kC (Bg6 K) kN)
def ml (a0:List Fy):Nat->(List Fy)->Int->Option (List Fy)
 |0,_,_=>none
 |n1+1,v1,v2=>bif decide (v2<a0.length)then if 0<=v2/\v2<a0.length then(bk K (gt a0 v2)).bind fun r3=>if(v1++[r3]).length*152<=140737488355328/\(v1++[r3]).length<=maxLen then ml a0 n1 (v1++[r3]) (A4 v2 1)else none else none else some v1
def mn (a0:List Fy):Option (List Fy):=ml K a0 K ([]:List Fy) 0
def A82:=fd Tryz.func189 ⟨[.v 35],[.n 35 true],false⟩ (gC (qy K) gN) (post:=[(20,[.put 3020])])
def Bg8:E7:=⟨[(0,.v 35),(3,.o 1003 77 true),(4,.v 2)],[]⟩
def Bg9:=lp (A82 K) 58 Bg8 [] (fun n a=>ml K a n) (fun n=>kN)
def Axo:=ct (A82 K) (mn K) (kC (Bg9 K K) kN)
def Axx (K:Nat)(v3:List Fy):Option (List Fy):=some v3
def Axy (a0:List Fy)(a1 a2:Int):Option (List Fy):=(mn K a0).bind fun r1=>(V5 K a1 0 (Ap a0.length 1)).bind fun r2=>bif !r2 then some r1 else if 0<=a1/\a1<a0.length then bif decide (((gt a0 a1).a)>=a2)then if 0<=a1/\a1<r1.length then if 0<=a1/\a1<a0.length then if 0<=a1/\a1<r1.length then Axx K (r1.set a1.toNat (Fy.mk 3 (gt a0 a1).a 0 0 0 0 0 0 [] 0 0 [] []))else none else none else none else if 0<=a1/\a1<a0.length then(bi K (A4 (gt a0 a1).a 1)).bind fun r4=>if 0<=a1/\a1<r1.length then Axx K (r1.set a1.toNat r4)else none else none else none
def A83:=fd Tryz.func274 ⟨[.v 35,.v 3,.v 3],[.n 35 true],false⟩ (gC (X1 K) (gC (Axo K) (gC (uo K) gN))) [] [15] [(5,[.opn 1007 (.tmp 1)])]
def A37:E7:=⟨[(7,.o 1007 77 true)],[]⟩
def Bha:=jn (A83 K) 15 A37 [] (Axx K) kN
def Bhb:=ct (A83 K) (Axy K) (kC (Bha K) kN)
def mo (K:Nat)(v6 v7:Int)(v8 v9:Int)(v10 v11:Int)(v12 v13 v14:List Int)(v15:List Fy)(v16:List G9)(v17:List Int):Option H4:=if(0:Int)<=1/\1<=(v16.length:Int)/\(v16.length:Int)<=v16.length then if(([]:List G9)++((v16.drop (1:Int).toNat).take ((v16.length:Int) - 1).toNat)).length*72<=140737488355328/\(([]:List G9)++((v16.drop (1:Int).toNat).take ((v16.length:Int) - 1).toNat)).length<=maxLen then some (H4.mk (Sv.mk v6 v7 v8 v9 v10 v11) (Pc.mk v12 v13 v14) v15 (([]:List G9)++((v16.drop (1:Int).toNat).take ((v16.length:Int) - 1).toNat)) v17)else none else none
def mq (a0:H4):Option H4:=if(0:Int)<=0/\0<(a0.p.length:Int)then(Al4 K (gt a0.p 0)).bind fun r1=>bif r1==1 then(qr K a0).bind fun r2=>some r2 else bif r1==2 then(vu K a0).bind fun r3=>some r3 else bif r1==3 then(re K a0).bind fun r4=>some r4 else if(0:Int)<=0/\0<(a0.p.length:Int)then bif (gt a0.p 0).d != 0 then if(0:Int)<=0/\0<(a0.p.length:Int)then(Axy K a0.o (Ap (gt a0.p 0).d 1) a0.C.n).bind fun r5=>mo K a0.C.L a0.C.k a0.C.l a0.C.e a0.C.m a0.C.n a0.Q.g a0.Q.c a0.Q.h r5 a0.p a0.q else none else mo K a0.C.L a0.C.k a0.C.l a0.C.e a0.C.m a0.C.n a0.Q.g a0.Q.c a0.Q.h a0.o a0.p a0.q else none else none
def A84:=fd Tryz.func172 ⟨[.b 38 false],[],false⟩ (gC (Bgn K) (gC (Bgo K) (gC (Bgz K) (gC (Bg7 K) (gC (Bhb K) gN))))) [] [447] [(0,[.take 1 10 5026]),(2,[.take 1 9 5025,.frz 5025]),(3,[.take 1 10 5026]),(5,[.put 1]),(7,[.put 1]),(9,[.put 1])] [(39,[.shal 3039])]
def Bhc:E7:=⟨[(0,.p 1)],[(1,.box Zu)]⟩
def Bhd:=jn (A84 K) 447 Bhc [] (mo K) kN
def A85:=ct (A84 K) (mq K) (kC (Bhd K) kN)
def vz (v1 v2:Int)(v3 v4:Int)(v5 v6 v7:Int)(v8 v9 v10:List Int)(v11:List Fy)(v12:List G9)(v13:List Int)(C1:Int->Int->Int->Int->Int->Int->Int->(List Int)->(List Int)->(List Int)->(List Fy)->(List G9)->(List Int)->Option (Int×H4)):Option (Int×H4):=(mq K (H4.mk (Sv.mk v2 v3 v4 v5 v6 v7) (Pc.mk v8 v9 v10) v11 v12 v13)).bind fun r15=>C1 (A4 v1 1) r15.C.L r15.C.k r15.C.l r15.C.e r15.C.m r15.C.n r15.Q.g r15.Q.c r15.Q.h r15.o r15.p r15.q
def mr (a1 a2:Int):Nat->Int->Int->Int->Int->Int->Int->Int->(List Int)->(List Int)->(List Int)->(List Fy)->(List G9)->(List Int)->Option (Int×H4)
 |0,_,_,_,_,_,_,_,_,_,_,_,_,_=>none
 |n1+1,v1,v2,v3,v4,v5,v6,v7,v8,v9,v10,v11,v12,v13=>bif decide ((v12.length:Int)>0)then(qp K v11 0).bind fun r14=>bif decide (r14<a1)then vz K v1 v2 v3 v4 v5 v6 v7 v8 v9 v10 v11 v12 v13 (mr a1 a2 n1)else bif decide (a2>0)then(Al0 K (Pc.mk v8 v9 v10) a2).bind fun r16=>bif decide (r16<0)then vz K v1 v2 v3 v4 v5 v6 v7 v8 v9 v10 v11 v12 v13 (mr a1 a2 n1)else some (v1,(H4.mk (Sv.mk v2 v3 v4 v5 v6 v7) (Pc.mk v8 v9 v10) v11 v12 v13))else some (v1,(H4.mk (Sv.mk v2 v3 v4 v5 v6 v7) (Pc.mk v8 v9 v10) v11 v12 v13))else some (v1,(H4.mk (Sv.mk v2 v3 v4 v5 v6 v7) (Pc.mk v8 v9 v10) v11 v12 v13))
def wa (a0:H4)(a1 a2:Int):Option (Int×H4):=mr K a1 a2 K 0 a0.C.L a0.C.k a0.C.l a0.C.e a0.C.m a0.C.n a0.Q.g a0.Q.c a0.Q.h a0.o a0.p a0.q
def A38:=fd Tryz.func345 ⟨[.b 38 false,.v 3,.v 3],[.v 3],false⟩ (gC (A85 K) (gC (A8p K) (gC (A8t K) gN))) [13,14,21,22,24,25] [56] [(2,[.take 1 10 5026,.take 1 9 5025,.take 1 6 5022,.take 1 7 5023,.take 1 8 5024])]
def Axz:E7:=⟨[(0,.p 1),(1,.v 2),(2,.v 2),(7,.v 2)],[(1,.box Zu)]⟩
def Bhe:=fun(C28:CT Axz _)=>jn (A38 K) 56 Axz [(28,ar Axz C28)] (fun a b c d e f g h i j k l m o p=>vz K c d e f g h i j k l m o p (C28 a b)) kN
def Bhf:=lp (A38 K) 28 Axz [] (fun n a b=>mr K a b n) (fun n=>kC (Bhe K _) kN)
def A39:=ct (A38 K) (wa K) (kC (Bhf K K) kN)
def wb (K:Nat)(a0:List Fy):Nat->Int->Option Int
 |0,_=>none
 |n1+1,v1=>bif decide (v1<a0.length)then if 0<=v1/\v1<a0.length then bif (gt a0 v1).c==0 then some v1 else wb K a0 n1 (A4 v1 1)else none else some (-1)
def A4a (a0:List Fy):Option Int:=wb K a0 K 0
def A86:=fd Tryz.func346 ⟨[.v 35],[.v 3],true⟩ gN
def wc:E7:=⟨[(0,.v 35),(3,.v 2)],[]⟩
def Bhg:=lp A86 26 wc [] (fun n a=>wb K a n) (fun n=>kN)
def Bhh:=ct A86 (A4a K) (kC (Bhg K K) kN)
def wg (K:Nat):Nat->Int->(List Int)->(List Int)->(List Int)->Option Int
 |0,_,_,_,_=>none
 |n1+1,v1,v2,v3,v4=>bif decide (v1<v3.length)then if 0<=v1/\v1<v3.length then bif (gt v3 v1)==0 then some v1 else wg K n1 (A4 v1 1) v2 v3 v4 else none else some (-1)
def Aye (a0:Pc):Option Int:=wg K K 0 a0.g a0.c a0.h
def A87:=fd Tryz.func347 ⟨[.v 34],[.v 3],true⟩ gN
def Bhi:E7:=⟨[(1,.p 101),(3,.v 2)],[(101,.box da)]⟩
def Bhj:=lp A87 26 Bhi [] (wg K) (fun n=>kN)
def A88:=ct A87 (Aye K) (kC (Bhj K K) kN)
def wh (K:Nat)(a1 a2 a3:Int):Nat->Int->Pc->Pc->Option Pc
 |0,_,_,_=>none
 |n1+1,v3,v4,v5=>bif decide (v3<(A4 a1 a2))then if 0<=v3/\v3<v4.c.length then if 0<=v3/\v3<v4.h.length then wh K a1 a2 a3 n1 (A4 v3 1) (Pc.mk v4.g (v4.c.set v3.toNat 1) (v4.h.set v3.toNat a3)) v5 else none else none else some v4
def ms (a0:Pc)(a1 a2 a3:Int):Option Pc:=(iv K a0).bind fun r1=>(vp K a0 a1 a2).bind fun r2=>bif r2 then bif (a0.h.length:Int) != (a0.c.length:Int)then some r1 else wh K a1 a2 a3 K a1 r1 (Pc.mk [] [] [])else some r1
def A89:=fd Tryz.func348 ⟨[.v 34,.v 3,.v 3,.v 3],[.n 34 true],true⟩ (gC (Al5 K) (gC (A8r K) gN)) [16,17,18] [] [(7,[.take 109 1 6745]),(8,[.take 109 2 6746]),(9,[.take 109 0 6744,.take 109 1 6745,.take 109 2 6746])]
def Bhk:E7:=⟨[(1,.v 2),(2,.v 2),(3,.v 2),(8,.p 108),(9,.p 109),(10,.v 2)],[(109,.st 34 true),(108,.st 34 true)]⟩
def Bhl:=lp (A89 K) 122 Bhk [] (fun n a b c=>wh K a b c n) (fun n=>kN)
def A4b:=ct (A89 K) (ms K) (kC (Bhl K K) kN)
def Ayr (K:Nat)(a0:Fy):Option Bool:=bif a0.f==0 then bif a0.s==0 then bif a0.t==0 then bif a0.i==0 then bif a0.u==0 then bif a0.v==0 then bif (a0.L.length:Int)==0 then bif a0.w==0 then bif a0.x==0 then bif (a0.y.length:Int)==0 then some ((a0.j.length:Int)==0)else some false else some false else some false else some false else some false else some false else some false else some false else some false else some false
def Bhm:=ct (fd Tryz.func239 ⟨[.v 77],[.v 4],true⟩ gN [5,6,9,10,11,14,15,16,19,20,21,24,25,26,29,30,31,35,36,37,40,41,42,45,46,47,51,52,53]) (Ayr K)
def wi (K:Nat)(a0:List Int)(a1:Int):Nat->Int->Option Bool
 |0,_=>none
 |n1+1,v1=>bif decide (v1<a0.length)then if 0<=v1/\v1<a0.length then bif (gt a0 v1)==a1 then some true else wi K a0 a1 n1 (A4 v1 1)else none else some false
def bo (a0:List Int)(a1:Int):Option Bool:=wi K a0 a1 K 0
def A9a:=fd Tryz.func242 ⟨[.v 25,.v 3],[.v 4],true⟩ gN
def Bhn:E7:=⟨[(0,.v 25),(1,.v 2),(5,.v 2)],[]⟩
def Bho:=lp A9a 26 Bhn [] (fun n a b=>wi K a b n) (fun n=>kN)
def rf:=ct A9a (bo K) (kC (Bho K K) kN)
def mt (a0:Sv):Nat->Int->Int->Int->Int->Int->Int->Int->Int->Int->(List Int)->Int->Int->(List H3)->(List Int)->Option Bool
 |0,_,_,_,_,_,_,_,_,_,_,_,_,_,_=>none
 |n1+1,v1,v2,v3,v4,v5,v6,v7,v8,v9,v10,v11,v12,v13,v14=>bif decide (v1<v10.length)then if 0<=v1/\v1<v10.length then(V5 K (gt v10 v1) 0 (Ap a0.L 1)).bind fun r15=>bif r15 then if(0:Int)<=0/\0<=v1/\v1<=v10.length then if 0<=v1/\v1<v10.length then(bo K ((v10.drop (0:Int).toNat).take (v1 - 0).toNat) (gt v10 v1)).bind fun r16=>bif r16 then some false else mt a0 n1 (A4 v1 1) v2 v3 v4 v5 v6 v7 v8 v9 v10 v11 v12 v13 v14 else none else none else some false else none else bif v11==0 then some (v12==0)else(bo K v10 (Ap v11 1)).bind fun r17=>bif r17 then(V5 K v12 0 a0.k).bind fun r18=>some r18 else some false
def Ays (a0:Sv)(a1:Fy):Option Bool:=mt K a0 K 0 a1.c a1.a a1.f a1.s a1.t a1.i a1.u a1.v a1.L a1.w a1.x a1.y a1.j
def A9b:=fd Tryz.func240 ⟨[.v 33,.v 77],[.v 4],true⟩ (gC (X1 K) (gC (rf K) gN)) [21,22,23,46,47]
def wj:E7:=⟨[(2,.p 102),(3,.p 103),(5,.v 2)],[(103,.box bg),(102,.st 33 true)]⟩
def Bhp:=lp (A9b K) 26 wj [] (fun n a b c d e f g h i j k l m o p=>mt K p n a b c d e f g h i j k l m o) (fun n=>kN)
def Bhq:=ct (A9b K) (Ays K) (kC (Bhp K K) kN)
def ff (K:Nat)(a0:Sv)(a1:Int):Option Bool:=some (decide (a1>a0.k))
def A4c:=ct (fd Tryz.func302 ⟨[.v 33,.v 3],[.v 4],true⟩ gN) (ff K)
def Ayt (a0 a1:Int):Option Int:=(V5 K a0 0 1000000000).bind fun r1=>bif r1 then(V5 K a1 1 1000000000).bind fun r2=>bif !r2 then some 0 else if a1≠(0:Int)then some (Afg .i64 (Ap (A4 a0 a1) 1) a1)else none else some 0
def Bhr:=ct (fd Tryz.func322 ⟨[.v 3,.v 3],[.v 3],true⟩ (gC (X1 K) gN) [6,7,8]) (Ayt K)
def fg (a0:Sv)(a1:Int):Option Int:=(Ayt K a1 a0.k).bind fun r1=>some r1
def A4d:=ct (fd Tryz.func303 ⟨[.v 33,.v 3],[.v 3],true⟩ (gC (Bhr K) gN)) (fg K)
def rh (a0:Sv)(a1:H3):Option Bool:=(mf K a0).bind fun r1=>bif r1==0 then some false else bif decide (a1.D<1)then some false else bif decide (a1.B<0)then some false else bif decide (a1.B>r1)then some false else bif decide (a1.D>(Ap r1 a1.B))then some false else bif a1.E==0 then bif decide (a1.D<=a0.k)then if a0.k≠(0:Int)then if a0.k≠(0:Int)then some ((Afg .i64 a1.B a0.k)==(Afg .i64 (Ap (A4 a1.B a1.D) 1) a0.k))else none else none else some false else(ff K a0 a1.D).bind fun r2=>bif r2 then(fg K a0 a1.D).bind fun r3=>bif a1.E==r3 then if a0.k≠(0:Int)then some ((Int.tmod a1.B a0.k)==0)else none else some false else some false
def A9c:=ct (fd Tryz.func241 ⟨[.v 33,.v 183],[.v 4],true⟩ (gC (Ak4 K) (gC (A4c K) (gC (A4d K) gN))) [9,10,13,14,15,18,19,20,24,25,26,42,43,63,64,71,72,73]) (rh K)
def mu (v23:List Int):Nat->Int->Option Bool
 |0,_=>none
 |n2+1,v25=>bif decide (v25<v23.length)then if 0<=v25/\v25<v23.length then(V5 K (gt v23 v25) 0 255).bind fun r26=>bif !r26 then some false else mu v23 n2 (A4 v25 1)else none else some true
def ja (a0:Sv):Nat->Int->Int->Int->Int->Int->Int->Int->Int->Int->(List Int)->Int->Int->(List H3)->(List Int)->Option Bool
 |0,_,_,_,_,_,_,_,_,_,_,_,_,_,_=>none
 |n1+1,v10,v11,v12,v13,v14,v15,v16,v17,v18,v19,v20,v21,v22,v23=>bif decide (v10<v22.length)then if 0<=v10/\v10<v22.length then(rh K a0 (gt v22 v10)).bind fun r24=>bif !r24 then some false else ja a0 n1 (A4 v10 1) v11 v12 v13 v14 v15 v16 v17 v18 v19 v20 v21 v22 v23 else none else mu K v23 K 0
def fj (a0:Sv)(a1:Fy):Option Bool:=(bh K a0).bind fun r1=>bif r1 then(V5 K a1.c 0 3).bind fun r2=>bif r2 then(V5 K a1.a 1 a0.n).bind fun r3=>bif !r3 then some false else bif a1.c != 1 then(Ayr K a1).bind fun r4=>some r4 else bif decide (a1.f<0)then some false else bif decide (a1.t<0)then some false else(V5 K a1.s 0 a0.l).bind fun r5=>bif r5 then(V5 K a1.i 0 a0.l).bind fun r6=>bif r6 then(V5 K a1.u 0 a0.l).bind fun r7=>bif r7 then(V5 K a1.v 0 a0.l).bind fun r8=>bif r8 then(Ays K a0 a1).bind fun r9=>bif r9 then bif decide ((a1.y.length:Int)>12)then some false else bif decide ((a1.j.length:Int)>6)then some false else ja K a0 K 0 a1.c a1.a a1.f a1.s a1.t a1.i a1.u a1.v a1.L a1.w a1.x a1.y a1.j else some false else some false else some false else some false else some false else some false else some false
def A4e:=fd Tryz.func141 ⟨[.v 33,.v 77],[.v 4],true⟩ (gC (im K) (gC (X1 K) (gC (Bhm K) (gC (Bhq K) (gC (A9c K) gN))))) [8,9,10,13,14,15,16,31,32,35,36,37,42,43,44,45,50,51,52,53,58,59,60,61,66,67,68,69,72,73,74,75,79,80,81]
def Bhs:E7:=⟨[(3,.p 103),(6,.v 2)],[(103,.box bg)]⟩
def Bht:=lp (A4e K) 506 Bhs [] (fun n a _ _ _ _ _ _ _ _ _ _ _ _ o=>mu K o n a) (fun n=>kN)
def Bhu:=lp (A4e K) 250 wj [] (fun n a b c d e f g h i j k l m o p=>ja K p n a b c d e f g h i j k l m o) (fun n=>kC (up (Bht K K)) kN)
def ri:=ct (A4e K) (fj K) (kC (Bhu K K) kN)
def rj (a0:Sv)(a1:Fy)(a2:Int):Option (Fy×Bool):=(bk K a1).bind fun r1=>bif a1.c != 1 then some (r1,false)else(V5 K a2 0 (Ap a0.L 1)).bind fun r2=>bif !r2 then some (r1,false)else if(r1.L++([a2]:List Int)).length*8<=140737488355328/\(r1.L++([a2]:List Int)).length<=maxLen then(fj K a0 (Fy.mk r1.c r1.a r1.f r1.s r1.t r1.i r1.u r1.v (r1.L++([a2]:List Int)) (A4 a2 1) 0 r1.y r1.j)).bind fun r3=>bif !r3 then(bk K a1).bind fun r4=>some (r4,false)else some ((Fy.mk r1.c r1.a r1.f r1.s r1.t r1.i r1.u r1.v (r1.L++([a2]:List Int)) (A4 a2 1) 0 r1.y r1.j),true)else none
def A4f:=ct (fd Tryz.func349 ⟨[.v 33,.v 77,.v 3],[.n 77 false,.v 4],true⟩ (gC (ri K) (gC (X1 K) (gC (qy K) gN))) [13,14]) (rj K)
def Ayu (K:Nat)(v11:List Fy):Option (List Fy):=some v11
def rk (a0:List Fy)(a1 a2:Int):Option (List Fy):=(mn K a0).bind fun r1=>(Yu K a0 (A4 a1 1)).bind fun r2=>bif r2 then(Yu K a0 (A4 a2 1)).bind fun r3=>bif r3 then bif a1==a2 then some r1 else if 0<=a1/\a1<a0.length then if 0<=a2/\a2<r1.length then Ax5 (r1.set a2.toNat (Fy.mk (gt r1 a2).c (gt r1 a2).a (gt r1 a2).f (A4 a1 1) (gt r1 a2).t (gt r1 a2).i (gt r1 a2).u (gt r1 a2).v (gt r1 a2).L (gt r1 a2).w (gt r1 a2).x (gt r1 a2).y (gt r1 a2).j)) fun v4=>if 0<=a1/\a1<a0.length then if 0<=a2/\a2<v4.length then Ax5 (v4.set a2.toNat (Fy.mk (gt v4 a2).c (gt v4 a2).a (gt v4 a2).f (gt v4 a2).s (gt a0 a1).f (gt v4 a2).i (gt v4 a2).u (gt v4 a2).v (gt v4 a2).L (gt v4 a2).w (gt v4 a2).x (gt v4 a2).y (gt v4 a2).j)) fun v5=>if 0<=a2/\a2<v5.length then Ax5 (v5.set a2.toNat (Fy.mk (gt v5 a2).c (gt v5 a2).a (gt v5 a2).f (gt v5 a2).s (gt v5 a2).t (gt v5 a2).i (gt a0 a1).i (gt v5 a2).v (gt v5 a2).L (gt v5 a2).w (gt v5 a2).x (gt v5 a2).y (gt v5 a2).j)) fun v6=>if 0<=a2/\a2<v6.length then Ax5 (v6.set a2.toNat (Fy.mk (gt v6 a2).c (gt v6 a2).a (gt v6 a2).f (gt v6 a2).s (gt v6 a2).t (gt v6 a2).i (gt v6 a2).u 0 (gt v6 a2).L (gt v6 a2).w (gt v6 a2).x (gt v6 a2).y (gt v6 a2).j)) fun v7=>if 0<=a1/\a1<v7.length then Ax5 (v7.set a1.toNat (Fy.mk (gt v7 a1).c (gt v7 a1).a (gt v7 a1).f (gt v7 a1).s (gt v7 a1).t (A4 a2 1) (gt v7 a1).u (gt v7 a1).v (gt v7 a1).L (gt v7 a1).w (gt v7 a1).x (gt v7 a1).y (gt v7 a1).j)) fun v8=>(Yu K a0 (gt a0 a1).i).bind fun r9=>bif r9 then if 0<=(Ap (gt a0 a1).i 1)/\(Ap (gt a0 a1).i 1)<v8.length then Ax5 (v8.set (Ap (gt a0 a1).i 1).toNat (Fy.mk (gt v8 (Ap (gt a0 a1).i 1)).c (gt v8 (Ap (gt a0 a1).i 1)).a (gt v8 (Ap (gt a0 a1).i 1)).f (gt v8 (Ap (gt a0 a1).i 1)).s (gt v8 (Ap (gt a0 a1).i 1)).t (gt v8 (Ap (gt a0 a1).i 1)).i (gt v8 (Ap (gt a0 a1).i 1)).u (A4 a2 1) (gt v8 (Ap (gt a0 a1).i 1)).L (gt v8 (Ap (gt a0 a1).i 1)).w (gt v8 (Ap (gt a0 a1).i 1)).x (gt v8 (Ap (gt a0 a1).i 1)).y (gt v8 (Ap (gt a0 a1).i 1)).j)) fun v10=>Ayu K v10 else none else Ayu K v8 else none else none else none else none else none else none else none else some r1 else some r1
def A9d:=fd Tryz.func350 ⟨[.v 35,.v 3,.v 3],[.n 35 true],false⟩ (gC (Axo K) (gC (iq K) gN)) [14,15,16,20,21,22,23] [1023]
def Bhv:=jn (A9d K) 1023 A37 [] (Ayu K) kN
def Bhw:=ct (A9d K) (rk K) (kC (Bhv K) kN)
def wk (a1:Int):Nat->Int->Int->Int->Int->Int->Int->Int->(List Int)->(List Int)->(List Int)->(List Fy)->(List G9)->(List Int)->Option (Int×H4)
 |0,_,_,_,_,_,_,_,_,_,_,_,_,_=>none
 |n1+1,v1,v2,v3,v4,v5,v6,v7,v8,v9,v10,v11,v12,v13=>bif decide (v1<a1)then bif (v12.length:Int)==0 then some (v1,(H4.mk (Sv.mk v2 v3 v4 v5 v6 v7) (Pc.mk v8 v9 v10) v11 v12 v13))else(mq K (H4.mk (Sv.mk v2 v3 v4 v5 v6 v7) (Pc.mk v8 v9 v10) v11 v12 v13)).bind fun r14=>wk a1 n1 (A4 v1 1) r14.C.L r14.C.k r14.C.l r14.C.e r14.C.m r14.C.n r14.Q.g r14.Q.c r14.Q.h r14.o r14.p r14.q else some (a1,(H4.mk (Sv.mk v2 v3 v4 v5 v6 v7) (Pc.mk v8 v9 v10) v11 v12 v13))
def wl (a0:H4)(a1:Int):Option (Int×H4):=wk K a1 K 0 a0.C.L a0.C.k a0.C.l a0.C.e a0.C.m a0.C.n a0.Q.g a0.Q.c a0.Q.h a0.o a0.p a0.q
def A9e:=fd Tryz.func86 ⟨[.b 38 false,.v 3],[.v 3],false⟩ (gC (A85 K) gN) [] [] [(4,[.take 1 10 5026]),(6,[.put 1])]
def Bhx:E7:=⟨[(0,.p 1),(1,.v 2),(5,.v 2)],[(1,.box Zu)]⟩
def Bhy:=lp (A9e K) 26 Bhx [] (fun n a=>wk K a n) (fun n=>kN)
def A4g:=ct (A9e K) (wl K) (kC (Bhy K K) kN)
def wm (r19 v25:Int)(v26 v27:Int)(v28 v29 v30:Int)(v31 v32 v33:List Int)(v34:List Fy)(v35:List G9)(v36:List Int)(v37:Sw):Option (Sw×H4):=(uz K v34 r19).bind fun r38=>(wl K (H4.mk (Sv.mk v25 v26 v27 v28 v29 v30) (Pc.mk v31 v32 v33) v34 v35 v36) v28).bind fun r39=>some ((Sw.mk v37.F r38 v37.b v37.A v37.G r39.1 v37.H),r39.2)
def jb (v3 v4:Int)(v5 v6:Int)(v7 v8 v9:Int)(v10 v11 v12:List Int)(v13:List Fy)(v14:List G9)(v15:List Int)(v16 v17:Sw):Option (Sw×H4):=bif v16.F != 0 then some (v16,(H4.mk (Sv.mk v4 v5 v6 v7 v8 v9) (Pc.mk v10 v11 v12) v13 v14 v15))else(wa K (H4.mk (Sv.mk v4 v5 v6 v7 v8 v9) (Pc.mk v10 v11 v12) v13 v14 v15) 1 1).bind fun r18=>(A4a K r18.2.o).bind fun r19=>(Aye K r18.2.Q).bind fun r20=>bif decide (r19<0)then some ((Sw.mk 5 (Lz.mk 0 0) (Pd.mk (Lz.mk 0 0) 0 0) [] 0 0 0),r18.2)else bif decide (r20<0)then some ((Sw.mk 5 (Lz.mk 0 0) (Pd.mk (Lz.mk 0 0) 0 0) [] 0 0 0),r18.2)else if 0<=r19/\r19<r18.2.o.length then(bi K (gt r18.2.o r19).a).bind fun r21=>(ms K r18.2.Q r20 1 r19).bind fun r22=>(rj K r18.2.C (Fy.mk 1 r21.a r21.f r21.s r21.t r21.i r21.u r21.v r21.L r21.w r21.x r21.y r21.j) r20).bind fun r23=>if 0<=r19/\r19<r18.2.o.length then bif decide (v3>=0)then(rk K (r18.2.o.set r19.toNat r23.1) v3 r19).bind fun r24=>wm K r19 r18.2.C.L r18.2.C.k r18.2.C.l r18.2.C.e r18.2.C.m r18.2.C.n r22.g r22.c r22.h r24 r18.2.p r18.2.q (Sw.mk v16.F v16.P v16.b v16.A v16.G v16.e r18.1)else wm K r19 r18.2.C.L r18.2.C.k r18.2.C.l r18.2.C.e r18.2.C.m r18.2.C.n r22.g r22.c r22.h (r18.2.o.set r19.toNat r23.1) r18.2.p r18.2.q (Sw.mk v16.F v16.P v16.b v16.A v16.G v16.e r18.1)else none else none
def wn (v41:Int)(v42:Bool)(v43 v44:Int)(v45 v46:Int)(v47 v48:Int)(v49 v50 v51:List Int)(v52:List Fy)(v53:List G9)(v54:List Int)(v55 v56:Sw):Option (Sw×H4):=bif v42 then jb K v41 v43 v44 v45 v46 v47 v48 v49 v50 v51 v52 v53 v54 (Sw.mk 3 v55.P v55.b v55.A v55.G v55.e v55.H) v56 else(A3z K (H4.mk (Sv.mk v43 v44 v45 v46 v47 v48) (Pc.mk v49 v50 v51) v52 v53 v54)).bind fun r57=>bif r57==0 then jb K v41 v43 v44 v45 v46 v47 v48 v49 v50 v51 v52 v53 v54 (Sw.mk 4 v55.P v55.b v55.A v55.G v55.e v55.H) v56 else(qo K (H4.mk (Sv.mk v43 v44 v45 v46 v47 v48) (Pc.mk v49 v50 v51) v52 v53 v54) 1).bind fun r58=>bif !r58 then jb K v41 v43 v44 v45 v46 v47 v48 v49 v50 v51 v52 v53 v54 (Sw.mk 5 v55.P v55.b v55.A v55.G v55.e v55.H) v56 else jb K v41 v43 v44 v45 v46 v47 v48 v49 v50 v51 v52 v53 v54 v55 v56
def Ayv (a0:H4)(a1:Lz):Option (Sw×H4):=(Aln K a0 a1).bind fun r1=>(db K a0 a1).bind fun r2=>bif r1.2 != 0 then jb K r1.1 a0.C.L a0.C.k a0.C.l a0.C.e a0.C.m a0.C.n a0.Q.g a0.Q.c a0.Q.h a0.o a0.p a0.q (Sw.mk r1.2 (Lz.mk 0 0) (Pd.mk (Lz.mk 0 0) 0 0) [] r2 0 0) (Sw.mk 0 (Lz.mk 0 0) (Pd.mk (Lz.mk 0 0) 0 0) [] 0 0 0)else bif decide (r1.1>=0)then(vk K a0.o r1.1).bind fun r40=>wn K r1.1 (decide (r40>=4)) a0.C.L a0.C.k a0.C.l a0.C.e a0.C.m a0.C.n a0.Q.g a0.Q.c a0.Q.h a0.o a0.p a0.q (Sw.mk r1.2 (Lz.mk 0 0) (Pd.mk (Lz.mk 0 0) 0 0) [] r2 0 0) (Sw.mk 0 (Lz.mk 0 0) (Pd.mk (Lz.mk 0 0) 0 0) [] 0 0 0)else wn K r1.1 false a0.C.L a0.C.k a0.C.l a0.C.e a0.C.m a0.C.n a0.Q.g a0.Q.c a0.Q.h a0.o a0.p a0.q (Sw.mk r1.2 (Lz.mk 0 0) (Pd.mk (Lz.mk 0 0) 0 0) [] r2 0 0) (Sw.mk 0 (Lz.mk 0 0) (Pd.mk (Lz.mk 0 0) 0 0) [] 0 0 0)
def Ayw:=fd Tryz.func305 ⟨[.b 38 false,.v 40],[.n 44 true],false⟩ (gC (A33 K) (gC (A4g K) (gC (A8i K) (gC (uo K) (gC (mh K) (gC (Bf8 K) (gC (A8m K) (gC (Bgb K) (gC (A39 K) (gC (Bhh K) (gC (A88 K) (gC (A4b K) (gC (A4f K) (gC (Bhw K) gN)))))))))))))) [31,32,74,75] [15,243,32767] [(1,[.take 1 6 5022,.take 1 7 5023,.take 1 8 5024,.take 1 9 5025,.take 1 10 5026,.take 1 11 5027]),(6,[.take 1 6 5022,.take 1 7 5023,.take 1 8 5024,.take 1 9 5025,.take 1 10 5026,.take 1 11 5027]),(11,[.take 107 7 6719]),(13,[.take 1 9 5025]),(14,[.take 1 6 5022,.take 1 7 5023,.take 1 8 5024]),(23,[.put 5025,.frz 5025]),(24,[.take 1 9 5025]),(25,[.put 1]),(26,[.take 107 7 6719])]
def Bhz:E7:=⟨[(0,.p 1),(4,.p 104),(7,.p 107),(8,.v 2)],[(1,.box Zu),(107,.st 44 true),(104,.st 44 true)]⟩
def Bh0:E7:=⟨[(0,.p 1),(4,.p 104),(5,.v 2),(7,.p 107)],[(1,.box Zu),(107,.st 44 true),(104,.st 44 true)]⟩
def Bh1:E7:=⟨[(0,.p 1),(4,.p 104),(5,.v 2),(7,.p 107),(29,.v 4)],[(1,.box Zu),(107,.st 44 true),(104,.st 44 true)]⟩
def Bh2:=jn (Ayw K) 32767 Bhz [] (fun a b c d e f g h i j k l m o _=>wm K a b c d e f g h i j k l m o) kN
def A9f:=jn (Ayw K) 15 Bh0 [] (jb K) (kC (Bh2 K) kN)
def Bh3:=jn (Ayw K) 243 Bh1 [] (wn K) (kC (A9f K) kN)
def Bh4:=ct (Ayw K) (Ayv K) (kC (A9f K) (kC (Bh3 K) kN))
def mv (K:Nat)(a0:Int):Option Bool:=bif a0==1 then some true else bif a0==2 then some true else some (a0==4)
def Ayx:=ct (fd Tryz.func351 ⟨[.v 3],[.v 4],true⟩ gN [4,5,7,8,9]) (mv K)
def jc (a0:Sv)(a2 a3 r6:Int):Nat->Int->Fy->Fy->Int->Int->Int->Int->Int->Int->Int->Int->(List Int)->Int->Int->(List H3)->(List Int)->Option (Fy×Bool)
 |0,_,_,_,_,_,_,_,_,_,_,_,_,_,_,_,_=>none
 |n1+1,v7,v8,v9,v10,v11,v12,v13,v14,v15,v16,v17,v18,v19,v20,v21,v22=>bif decide (v7<r6)then if(v8.L++([(A4 a2 v7)]:List Int)).length*8<=140737488355328/\(v8.L++([(A4 a2 v7)]:List Int)).length<=maxLen then jc a0 a2 a3 r6 n1 (A4 v7 1) (Fy.mk v8.c v8.a v8.f v8.s v8.t v8.i v8.u v8.v (v8.L++([(A4 a2 v7)]:List Int)) v8.w v8.x v8.y v8.j) v9 v10 v11 v12 v13 v14 v15 v16 v17 v18 v19 v20 v21 v22 else none else if(v8.y++([(H3.mk (F2 a2 a0.k) a3 r6)]:List H3)).length*24<=140737488355328/\(v8.y++([(H3.mk (F2 a2 a0.k) a3 r6)]:List H3)).length<=maxLen then(fj K a0 (Fy.mk v8.c v8.a v8.f v8.s v8.t v8.i v8.u v8.v v8.L v8.w v8.x (v8.y++([(H3.mk (F2 a2 a0.k) a3 r6)]:List H3)) v8.j)).bind fun r23=>bif !r23 then(bk K (Fy.mk v10 v11 v12 v13 v14 v15 v16 v17 v18 v19 v20 v21 v22)).bind fun r24=>some (r24,false)else some ((Fy.mk v8.c v8.a v8.f v8.s v8.t v8.i v8.u v8.v v8.L v8.w v8.x (v8.y++([(H3.mk (F2 a2 a0.k) a3 r6)]:List H3)) v8.j),true)else none
def mw (a0:Sv)(a1:Fy)(a2 a3:Int):Option (Fy×Bool):=(bk K a1).bind fun r1=>(bh K a0).bind fun r2=>bif r2 then bif a1.c != 1 then some (r1,false)else(ff K a0 a3).bind fun r3=>bif r3 then(mf K a0).bind fun r4=>bif decide (a3>r4)then some (r1,false)else(V5 K a2 0 (Ap a0.L 1)).bind fun r5=>bif !r5 then some (r1,false)else(fg K a0 a3).bind fun r6=>jc K a0 a2 a3 r6 K 0 r1 (Fy.mk 0 0 0 0 0 0 0 0 [] 0 0 [] []) a1.c a1.a a1.f a1.s a1.t a1.i a1.u a1.v a1.L a1.w a1.x a1.y a1.j else some (r1,false)else some (r1,false)
def A9g:=fd Tryz.func374 ⟨[.v 33,.v 77,.v 3,.v 3],[.n 77 false,.v 4],true⟩ (gC (im K) (gC (ri K) (gC (X1 K) (gC (Ak4 K) (gC (qy K) (gC (A4c K) (gC (A4d K) gN))))))) [16,17,18,21,22,23,26,27,28,29,33,34,35] [] [(8,[.take 110 8 6768]),(9,[.take 110 11 6771]),(10,[.take 110 8 6768,.take 110 12 6772])]
def Bh5:E7:=⟨[(2,.v 2),(3,.v 2),(4,.p 104),(5,.p 105),(8,.p 108),(10,.p 110),(11,.v 2),(12,.v 2)],[(110,.st 77 false),(108,.st 77 false),(105,.box bg),(104,.st 33 true)]⟩
def Bh6:=lp (A9g K) 250 Bh5 [] (fun n a b c d e f g h i j k l m o p q r s t u=>jc K u a b c n d e f g h i j k l m o p q r s t) (fun n=>kN)
def A9h:=ct (A9g K) (mw K) (kC (Bh6 K K) kN)
def Ayy (a0:H4)(a1 a2:Int)(a3:Sw):Option (Sw×H4):=(fg K a0.C a2).bind fun r1=>(qo K a0 r1).bind fun r2=>bif !r2 then some ((Sw.mk 5 a3.P a3.b a3.A a3.G a3.e a3.H),a0)else(wa K a0 0 r1).bind fun r3=>(Al0 K r3.2.Q r1).bind fun r4=>bif decide (r4<0)then some ((Sw.mk 6 a3.P a3.b a3.A a3.G a3.e r3.1),r3.2)else(ms K r3.2.Q r4 r1 a1).bind fun r5=>if 0<=a1/\a1<r3.2.o.length then if 0<=a1/\a1<r3.2.o.length then(mw K r3.2.C (gt r3.2.o a1) r4 a2).bind fun r6=>if 0<=a1/\a1<r3.2.o.length then some ((Sw.mk a3.F a3.P a3.b a3.A a3.G a3.e r3.1),(H4.mk r3.2.C r5 (r3.2.o.set a1.toNat r6.1) r3.2.p r3.2.q))else none else none else none
def Bh7:=ct (fd Tryz.func352 ⟨[.b 38 false,.v 3,.v 3,.v 44],[.v 44],false⟩ (gC (A33 K) (gC (A4d K) (gC (A39 K) (gC (A4b K) (gC (A9h K) (gC (A8t K) gN)))))) [] [] [(2,[.take 1 6 5022,.take 1 7 5023,.take 1 8 5024,.take 1 9 5025,.take 1 10 5026,.take 1 11 5027]),(5,[.put 1]),(6,[.take 1 6 5022,.take 1 7 5023,.take 1 8 5024]),(11,[.take 1 9 5025,.opn 5025 (.tmp 1),.takeE 5025 11 41611,.takeE 5025 12 41612])]) (Ayy K)
def Ayz (a0 a1:Int):Option Int:=(V5 K a0 0 1000000000).bind fun r1=>bif r1 then(mv K a1).bind fun r2=>bif !r2 then some 0 else if a1≠(0:Int)then some (F2 (Afg .i64 (Ap (A4 a0 a1) 1) a1) a1)else none else some 0
def Bh8:=ct (fd Tryz.func390 ⟨[.v 3,.v 3],[.v 3],true⟩ (gC (X1 K) (gC (Ayx K) gN)) [6,7,8]) (Ayz K)
def wo (a0:Sv)(a1:Fy)(a2 a3:Int):Option (Int×Bool):=(fj K a0 a1).bind fun r1=>bif r1 then bif a1.w==0 then some (0,false)else(V5 K a2 1 a0.k).bind fun r2=>bif r2 then(mv K a3).bind fun r3=>bif !r3 then some (0,false)else(Ayz K a1.x a3).bind fun r4=>bif decide ((A4 r4 a2)>a0.k)then some (0,false)else some ((A4 (F2 (Ap a1.w 1) a0.k) r4),true)else some (0,false)else some (0,false)
def A9i:=ct (fd Tryz.func384 ⟨[.v 33,.v 77,.v 3,.v 3],[.v 3,.v 4],true⟩ (gC (ri K) (gC (X1 K) (gC (Ayx K) (gC (Bh8 K) gN)))) [13,14,15,18,19,20,24,25,26,27]) (wo K)
def Ay0 (a0:Sv)(a1:Fy)(a2 a3:Int):Option Bool:=(wo K a0 a1 a2 a3).bind fun r1=>bif r1.2 then some false else(fj K a0 a1).bind fun r2=>bif r2 then bif a1.c==1 then(V5 K a2 1 a0.k).bind fun r3=>bif r3 then(mv K a3).bind fun r4=>some r4 else some false else some false else some false
def Bh9:=ct (fd Tryz.func377 ⟨[.v 33,.v 77,.v 3,.v 3],[.v 4],true⟩ (gC (ri K) (gC (X1 K) (gC (Ayx K) (gC (A9i K) gN)))) [19,20,21,24,25,26,29,30,31,35,36,37]) (Ay0 K)
def wq (a0:Sv)(a1:Fy)(a2 a3:Int):Option (Fy×Bool):=(bk K a1).bind fun r1=>(wo K a0 a1 a2 a3).bind fun r2=>bif r2.2 then bif decide ((a1.y.length:Int)>=12)then some (r1,false)else if(r1.y++([(H3.mk r2.1 a2 0)]:List H3)).length*24<=140737488355328/\(r1.y++([(H3.mk r2.1 a2 0)]:List H3)).length<=maxLen then some ((Fy.mk r1.c r1.a r1.f r1.s r1.t r1.i r1.u r1.v r1.L r1.w (A4 (Ap r2.1 (F2 (Ap a1.w 1) a0.k)) a2) (r1.y++([(H3.mk r2.1 a2 0)]:List H3)) r1.j),true)else none else some (r1,false)
def A9j:=ct (fd Tryz.func373 ⟨[.v 33,.v 77,.v 3,.v 3],[.n 77 false,.v 4],true⟩ (gC (qy K) (gC (A9i K) gN)) [23,24,25]) (wq K)
def wr (a1 a2:Int)(a3 v7:Int)(v8 v9:Int)(v10 v11 v12:Int)(v13 v14 v15:List Int)(v16:List Fy)(v17:List G9)(v18:List Int)(v19:Sw)(v20 v21:Int)(v22 v23:Int)(v24 v25 v26:Int)(v27:List Int)(v28 v29 v30:Int):Option (Sw×H4):=if 0<=a1/\a1<v16.length then if 0<=a1/\a1<v16.length then(wq K (Sv.mk v7 v8 v9 v10 v11 v12) (gt v16 a1) a2 a3).bind fun r31=>if 0<=a1/\a1<v16.length then some ((Sw.mk v20 (Lz.mk v21 v22) (Pd.mk (Lz.mk v23 v24) v25 v26) v27 v28 v29 v30),(H4.mk (Sv.mk v7 v8 v9 v10 v11 v12) (Pc.mk v13 v14 v15) (v16.set a1.toNat r31.1) v17 v18))else none else none else none
def Ay1 (a0:H4)(a1 a2 a3:Int)(a4:Sw):Option (Sw×H4):=if 0<=a1/\a1<a0.o.length then if 0<=a1/\a1<a0.o.length then(Ay0 K a0.C (gt a0.o a1) a2 a3).bind fun r1=>bif r1 then(qo K a0 1).bind fun r2=>bif !r2 then some ((Sw.mk 5 a4.P a4.b a4.A a4.G a4.e a4.H),a0)else(wa K a0 0 1).bind fun r3=>(Aye K r3.2.Q).bind fun r4=>bif decide (r4<0)then some ((Sw.mk 5 a4.P a4.b a4.A a4.G a4.e r3.1),r3.2)else(ms K r3.2.Q r4 1 a1).bind fun r5=>if 0<=a1/\a1<r3.2.o.length then if 0<=a1/\a1<r3.2.o.length then(rj K r3.2.C (gt r3.2.o a1) r4).bind fun r6=>if 0<=a1/\a1<r3.2.o.length then wr K a1 a2 a3 r3.2.C.L r3.2.C.k r3.2.C.l r3.2.C.e r3.2.C.m r3.2.C.n r5.g r5.c r5.h (r3.2.o.set a1.toNat r6.1) r3.2.p r3.2.q (Sw.mk 0 (Lz.mk 0 0) (Pd.mk (Lz.mk 0 0) 0 0) [] 0 0 0) a4.F a4.P.d a4.P.a a4.b.P.d a4.b.P.a a4.b.f a4.b.r a4.A a4.G a4.e r3.1 else none else none else none else wr K a1 a2 a3 a0.C.L a0.C.k a0.C.l a0.C.e a0.C.m a0.C.n a0.Q.g a0.Q.c a0.Q.h a0.o a0.p a0.q (Sw.mk 0 (Lz.mk 0 0) (Pd.mk (Lz.mk 0 0) 0 0) [] 0 0 0) a4.F a4.P.d a4.P.a a4.b.P.d a4.b.P.a a4.b.f a4.b.r a4.A a4.G a4.e a4.H else none else none
def A9k:=fd Tryz.func353 ⟨[.b 38 false,.v 3,.v 3,.v 3,.v 44],[.v 44],false⟩ (gC (A33 K) (gC (A39 K) (gC (A88 K) (gC (A4b K) (gC (A4f K) (gC (A9j K) (gC (Bh9 K) gN))))))) [] [3] [(1,[.take 1 9 5025,.opn 5025 (.tmp 1),.takeE 5025 11 41611,.takeE 5025 12 41612]),(2,[.take 1 6 5022,.take 1 7 5023,.take 1 8 5024,.take 1 10 5026,.take 1 11 5027,.put 5025]),(5,[.put 1]),(6,[.take 1 6 5022,.take 1 7 5023,.take 1 8 5024]),(11,[.take 1 9 5025,.opn 5025 (.tmp 1),.takeE 5025 11 41611,.takeE 5025 12 41612]),(13,[.take 1 9 5025,.opn 5025 (.tmp 1),.takeE 5025 11 41611,.takeE 5025 12 41612])]
def Bia:E7:=⟨[(0,.p 1),(1,.v 2),(2,.v 2),(3,.v 2),(9,.p 109),(10,.p 110)],[(1,.box Zu),(110,.st 44 true),(109,.box bx5)]⟩
def Bib:=jn (A9k K) 3 Bia [] (wr K) kN
def Bic:=ct (A9k K) (Ay1 K) (kC (Bib K) kN)
def wu (a1:Lz)(v5 v22:Int)(v23 v24:Int)(v25 v26 v27:Int)(v28 v29 v30:List Int)(v31:List Fy)(v32:List G9)(v33:List Int)(v34 v35:Int)(v36 v37:Int)(v38 v39 v40:Int)(v41:List Int)(v42 v43 v44:Int):Option (Sw×H4):=bif v34 != 0 then some ((Sw.mk v34 (Lz.mk v35 v36) (Pd.mk (Lz.mk v37 v38) v39 v40) v41 v42 v43 v44),(H4.mk (Sv.mk v22 v23 v24 v25 v26 v27) (Pc.mk v28 v29 v30) v31 v32 v33))else if 0<=v5/\v5<v31.length then if 0<=v5/\v5<v31.length then if 0<=v5/\v5<v31.length then(wl K (H4.mk (Sv.mk v22 v23 v24 v25 v26 v27) (Pc.mk v28 v29 v30) v31 v32 v33) v25).bind fun r45=>some ((Sw.mk v34 (Lz.mk v35 v36) (Pd.mk a1 (gt v31 v5).f (Ap (((gt v31 v5).y).length:Int) 1)) v41 v42 r45.1 v44),r45.2)else none else none else none
def rm (a1:Lz)(a2 a3:Int)(v5 v6:Int)(v7 v8:Int)(v9 v10 v11:Int)(v12 v13 v14:List Int)(v15:List Fy)(v16:List G9)(v17:List Int)(v18 v19:Sw):Option (Sw×H4):=bif v18.F != 0 then some (v18,(H4.mk (Sv.mk v6 v7 v8 v9 v10 v11) (Pc.mk v12 v13 v14) v15 v16 v17))else(ff K (Sv.mk v6 v7 v8 v9 v10 v11) a2).bind fun r20=>bif r20 then(Ayy K (H4.mk (Sv.mk v6 v7 v8 v9 v10 v11) (Pc.mk v12 v13 v14) v15 v16 v17) v5 a2 v18).bind fun r21=>wu K a1 v5 r21.2.C.L r21.2.C.k r21.2.C.l r21.2.C.e r21.2.C.m r21.2.C.n r21.2.Q.g r21.2.Q.c r21.2.Q.h r21.2.o r21.2.p r21.2.q r21.1.F r21.1.P.d r21.1.P.a r21.1.b.P.d r21.1.b.P.a r21.1.b.f r21.1.b.r r21.1.A r21.1.G r21.1.e r21.1.H else(Ay1 K (H4.mk (Sv.mk v6 v7 v8 v9 v10 v11) (Pc.mk v12 v13 v14) v15 v16 v17) v5 a2 a3 v18).bind fun r46=>wu K a1 v5 r46.2.C.L r46.2.C.k r46.2.C.l r46.2.C.e r46.2.C.m r46.2.C.n r46.2.Q.g r46.2.Q.c r46.2.Q.h r46.2.o r46.2.p r46.2.q r46.1.F r46.1.P.d r46.1.P.a r46.1.b.P.d r46.1.b.P.a r46.1.b.f r46.1.b.r r46.1.A r46.1.G r46.1.e r46.1.H
def Ay2 (a0:H4)(a1:Lz)(a2 a3:Int):Option (Sw×H4):=(V5 K a2 1 200).bind fun r1=>bif r1 then(mv K a3).bind fun r2=>bif !r2 then some ((Sw.mk 1 (Lz.mk 0 0) (Pd.mk (Lz.mk 0 0) 0 0) [] 0 0 0),a0)else(fc K a0 a1).bind fun r3=>(db K a0 a1).bind fun r4=>bif r3.2==0 then if 0<=r3.1/\r3.1<a0.o.length then if 0<=r3.1/\r3.1<a0.o.length then bif decide (((gt a0.o r3.1).y.length:Int)>=12)then rm K a1 a2 a3 r3.1 a0.C.L a0.C.k a0.C.l a0.C.e a0.C.m a0.C.n a0.Q.g a0.Q.c a0.Q.h a0.o a0.p a0.q (Sw.mk 8 (Lz.mk 0 0) (Pd.mk (Lz.mk 0 0) 0 0) [] r4 0 0) (Sw.mk 0 (Lz.mk 0 0) (Pd.mk (Lz.mk 0 0) 0 0) [] 0 0 0)else rm K a1 a2 a3 r3.1 a0.C.L a0.C.k a0.C.l a0.C.e a0.C.m a0.C.n a0.Q.g a0.Q.c a0.Q.h a0.o a0.p a0.q (Sw.mk r3.2 (Lz.mk 0 0) (Pd.mk (Lz.mk 0 0) 0 0) [] r4 0 0) (Sw.mk 0 (Lz.mk 0 0) (Pd.mk (Lz.mk 0 0) 0 0) [] 0 0 0)else none else none else rm K a1 a2 a3 r3.1 a0.C.L a0.C.k a0.C.l a0.C.e a0.C.m a0.C.n a0.Q.g a0.Q.c a0.Q.h a0.o a0.p a0.q (Sw.mk r3.2 (Lz.mk 0 0) (Pd.mk (Lz.mk 0 0) 0 0) [] r4 0 0) (Sw.mk 0 (Lz.mk 0 0) (Pd.mk (Lz.mk 0 0) 0 0) [] 0 0 0)else some ((Sw.mk 1 (Lz.mk 0 0) (Pd.mk (Lz.mk 0 0) 0 0) [] 0 0 0),a0)
def A4h:=fd Tryz.func306 ⟨[.b 38 false,.v 40,.v 3,.v 3],[.v 44],false⟩ (gC (A4g K) (gC (X1 K) (gC (A4c K) (gC (qm K) (gC (mh K) (gC (Ayx K) (gC (Bh7 K) (gC (Bic K) gN)))))))) [13,14,15,37,38] [31,127] [(3,[.take 1 6 5022,.take 1 7 5023,.take 1 8 5024,.take 1 9 5025,.take 1 10 5026,.take 1 11 5027]),(8,[.take 111 7 6783]),(10,[.take 111 7 6783,.frz 6783]),(11,[.take 111 7 6783,.frz 6783]),(14,[.take 1 9 5025,.opn 5025 (.tmp 9),.takeE 5025 11 41611]),(15,[.put 1])] [(43,[.opn 5025 (.tmp 43)]),(45,[.takeE 5025 11 41611])]
def Bid:E7:=⟨[(0,.p 1),(5,.p 105),(8,.p 108),(9,.v 2),(11,.p 111)],[(1,.box Zu),(111,.box bx5),(108,.st 44 true),(105,.st 40 true)]⟩
def Bie:E7:=⟨[(0,.p 1),(2,.v 2),(3,.v 2),(5,.p 105),(8,.p 108),(9,.v 2),(11,.p 111)],[(1,.box Zu),(111,.st 44 true),(108,.st 44 true),(105,.st 40 true)]⟩
def Bif:=jn (A4h K) 127 Bid [] (fun a b c d e f g h i j k l m o p q r s t u v w x y _ a1=>wu K a1 a b c d e f g h i j k l m o p q r s t u v w x y) kN
def Big:=jn (A4h K) 31 Bie [] (fun a b c d e f g h i j k l m o p q r s=>rm K s a b c d e f g h i j k l m o p q r) (kC (Bif K) kN)
def Bih:=ct (A4h K) (Ay2 K) (kC (Big K) kN)
def Ay3 (a0:Fy):Option Fy:=(bk K a0).bind fun r1=>some (Fy.mk r1.c r1.a (A4 a0.f 1) r1.s r1.t 0 r1.u r1.v ([]:List Int) 0 0 ([]:List H3) ([]:List Int))
def Bii:=ct (fd Tryz.func356 ⟨[.v 77],[.n 77 false],true⟩ (gC (qy K) gN)) (Ay3 K)
def Ay4 (a0:H4)(a1:Int):Option H4:=if 0<=a1/\a1<a0.o.length then if 0<=a1/\a1<a0.o.length then(rd K (gt a0.o a1) 0).bind fun r1=>if 0<=a1/\a1<a0.o.length then(iz K a0 (gt a0.o a1).L).bind fun r2=>if 0<=a1/\a1<r2.o.length then if 0<=a1/\a1<r2.o.length then(Ay3 K (gt r2.o a1)).bind fun r3=>if 0<=a1/\a1<r2.o.length then if(r2.p++([r1]:List G9)).length*72<=140737488355328/\(r2.p++([r1]:List G9)).length<=maxLen then some (H4.mk r2.C r2.Q (r2.o.set a1.toNat r3) (r2.p++([r1]:List G9)) r2.q)else none else none else none else none else none else none else none
def Bij:=ct (fd Tryz.func309 ⟨[.b 38 false,.v 3],[],false⟩ (gC (A36 K) (gC (A35 K) (gC (Bii K) gN))) [] [] [(0,[.take 1 9 5025,.opn 5025 (.tmp 1),.takeE 5025 11 41611,.takeE 5025 12 41612]),(1,[.put 1,.take 1 9 5025]),(2,[.take 1 9 5025,.opn 5025 (.tmp 1),.takeE 5025 11 41611,.takeE 5025 12 41612]),(3,[.take 1 10 5026,.frz 20384,.frz 20385])] [(21,[.put 1])]) (Ay4 K)
def wv (K:Nat)(a1:Int)(v21:List Fy):Option (List Fy):=if 0<=a1/\a1<v21.length then Ax5 (v21.set a1.toNat (Fy.mk (gt v21 a1).c (gt v21 a1).a (gt v21 a1).f 0 (gt v21 a1).t (gt v21 a1).i (gt v21 a1).u (gt v21 a1).v (gt v21 a1).L (gt v21 a1).w (gt v21 a1).x (gt v21 a1).y (gt v21 a1).j)) fun v22=>if 0<=a1/\a1<v22.length then Ax5 (v22.set a1.toNat (Fy.mk (gt v22 a1).c (gt v22 a1).a (gt v22 a1).f (gt v22 a1).s 0 (gt v22 a1).i (gt v22 a1).u (gt v22 a1).v (gt v22 a1).L (gt v22 a1).w (gt v22 a1).x (gt v22 a1).y (gt v22 a1).j)) fun v23=>if 0<=a1/\a1<v23.length then Ax5 (v23.set a1.toNat (Fy.mk (gt v23 a1).c (gt v23 a1).a (gt v23 a1).f (gt v23 a1).s (gt v23 a1).t (gt v23 a1).i 0 (gt v23 a1).v (gt v23 a1).L (gt v23 a1).w (gt v23 a1).x (gt v23 a1).y (gt v23 a1).j)) fun v24=>if 0<=a1/\a1<v24.length then Ax5 (v24.set a1.toNat (Fy.mk (gt v24 a1).c (gt v24 a1).a (gt v24 a1).f (gt v24 a1).s (gt v24 a1).t (gt v24 a1).i (gt v24 a1).u 0 (gt v24 a1).L (gt v24 a1).w (gt v24 a1).x (gt v24 a1).y (gt v24 a1).j)) fun v25=>some v25 else none else none else none else none
def rn (a0:List Fy)(a1:Int)(v5:List Fy)(v6 v7:Int)(v8 v9:Int)(v10 v11:Int)(v12 v13:Int)(v14:List Int)(v15 v16:Int)(v17:List H3)(v18:List Int):Option (List Fy):=(Yu K a0 v12).bind fun r19=>bif r19 then if 0<=(Ap v12 1)/\(Ap v12 1)<v5.length then Ax5 (v5.set (Ap v12 1).toNat (Fy.mk (gt v5 (Ap v12 1)).c (gt v5 (Ap v12 1)).a (gt v5 (Ap v12 1)).f (gt v5 (Ap v12 1)).s (gt v5 (Ap v12 1)).t (gt v5 (Ap v12 1)).i (gt v5 (Ap v12 1)).u v13 (gt v5 (Ap v12 1)).L (gt v5 (Ap v12 1)).w (gt v5 (Ap v12 1)).x (gt v5 (Ap v12 1)).y (gt v5 (Ap v12 1)).j)) fun v20=>wv K a1 v20 else none else wv K a1 v5
def my (a0:List Fy)(a1:Int)(r1:(List Fy))(v27:Bool)(v28 v29:Int)(v30 v31:Int)(v32 v33:Int)(v34 v35:Int)(v36:List Int)(v37 v38:Int)(v39:List H3)(v40:List Int):Option (List Fy):=bif v27 then if 0<=(Ap v31 1)/\(Ap v31 1)<r1.length then Ax5 (r1.set (Ap v31 1).toNat (Fy.mk (gt r1 (Ap v31 1)).c (gt r1 (Ap v31 1)).a (gt r1 (Ap v31 1)).f (gt r1 (Ap v31 1)).s (gt r1 (Ap v31 1)).t v34 (gt r1 (Ap v31 1)).u (gt r1 (Ap v31 1)).v (gt r1 (Ap v31 1)).L (gt r1 (Ap v31 1)).w (gt r1 (Ap v31 1)).x (gt r1 (Ap v31 1)).y (gt r1 (Ap v31 1)).j)) fun v41=>rn K a0 a1 v41 v28 v29 v30 v31 v32 v33 v34 v35 v36 v37 v38 v39 v40 else none else rn K a0 a1 r1 v28 v29 v30 v31 v32 v33 v34 v35 v36 v37 v38 v39 v40
def Ay5 (a0:List Fy)(a1:Int):Option (List Fy):=(mn K a0).bind fun r1=>(Yu K a0 (A4 a1 1)).bind fun r2=>bif !r2 then some r1 else if 0<=a1/\a1<a0.length then(Yu K a0 (gt a0 a1).v).bind fun r3=>bif r3 then if 0<=(Ap (gt a0 a1).v 1)/\(Ap (gt a0 a1).v 1)<r1.length then Ax5 (r1.set (Ap (gt a0 a1).v 1).toNat (Fy.mk (gt r1 (Ap (gt a0 a1).v 1)).c (gt r1 (Ap (gt a0 a1).v 1)).a (gt r1 (Ap (gt a0 a1).v 1)).f (gt r1 (Ap (gt a0 a1).v 1)).s (gt r1 (Ap (gt a0 a1).v 1)).t (gt r1 (Ap (gt a0 a1).v 1)).i (gt a0 a1).u (gt r1 (Ap (gt a0 a1).v 1)).v (gt r1 (Ap (gt a0 a1).v 1)).L (gt r1 (Ap (gt a0 a1).v 1)).w (gt r1 (Ap (gt a0 a1).v 1)).x (gt r1 (Ap (gt a0 a1).v 1)).y (gt r1 (Ap (gt a0 a1).v 1)).j)) fun v4=>rn K a0 a1 v4 (gt a0 a1).c (gt a0 a1).a (gt a0 a1).f (gt a0 a1).s (gt a0 a1).t (gt a0 a1).i (gt a0 a1).u (gt a0 a1).v (gt a0 a1).L (gt a0 a1).w (gt a0 a1).x (gt a0 a1).y (gt a0 a1).j else none else bif (gt a0 a1).v==0 then(Yu K a0 (gt a0 a1).s).bind fun r26=>bif r26 then if 0<=(Ap (gt a0 a1).s 1)/\(Ap (gt a0 a1).s 1)<a0.length then my K a0 a1 r1 (((gt a0 (Ap (gt a0 a1).s 1)).i)==(A4 a1 1)) (gt a0 a1).c (gt a0 a1).a (gt a0 a1).f (gt a0 a1).s (gt a0 a1).t (gt a0 a1).i (gt a0 a1).u (gt a0 a1).v (gt a0 a1).L (gt a0 a1).w (gt a0 a1).x (gt a0 a1).y (gt a0 a1).j else none else my K a0 a1 r1 false (gt a0 a1).c (gt a0 a1).a (gt a0 a1).f (gt a0 a1).s (gt a0 a1).t (gt a0 a1).i (gt a0 a1).u (gt a0 a1).v (gt a0 a1).L (gt a0 a1).w (gt a0 a1).x (gt a0 a1).y (gt a0 a1).j else my K a0 a1 r1 false (gt a0 a1).c (gt a0 a1).a (gt a0 a1).f (gt a0 a1).s (gt a0 a1).t (gt a0 a1).i (gt a0 a1).u (gt a0 a1).v (gt a0 a1).L (gt a0 a1).w (gt a0 a1).x (gt a0 a1).y (gt a0 a1).j else none
def Ay6:=fd Tryz.func357 ⟨[.v 35,.v 3],[.n 35 true],false⟩ (gC (Axo K) (gC (iq K) gN)) [35,36,40,41,42] [31,63,499]
def Bik:E7:=⟨[(1,.v 2),(5,.o 1005 77 true)],[]⟩
def Bil:E7:=⟨[(0,.v 35),(1,.v 2),(5,.o 1005 77 true),(6,.p 106)],[(106,.box bg)]⟩
def Bim:E7:=⟨[(0,.v 35),(1,.v 2),(5,.o 1005 77 true),(6,.p 106),(32,.v 4)],[(106,.box bg)]⟩
def Bin:=jn (Ay6 K) 63 Bik [] (wv K) kN
def A9l:=jn (Ay6 K) 31 Bil [] (rn K) (kC (Bin K) kN)
def Bio:=jn (Ay6 K) 499 Bim [] (my K) (kC (A9l K) kN)
def Bip:=ct (Ay6 K) (Ay5 K) (kC (A9l K) (kC (Bio K) kN))
def Ay7 (a0:H4)(a1:Int):Option H4:=if 0<=a1/\a1<a0.o.length then if 0<=a1/\a1<a0.o.length then(rd K (gt a0.o a1) (A4 a1 1)).bind fun r1=>if 0<=a1/\a1<a0.o.length then(iz K a0 (gt a0.o a1).L).bind fun r2=>(Ay5 K r2.o a1).bind fun r3=>if 0<=a1/\a1<r3.length then if 0<=a1/\a1<r3.length then(rb K (gt r3 a1)).bind fun r4=>if 0<=a1/\a1<r3.length then if(r2.p++([r1]:List G9)).length*72<=140737488355328/\(r2.p++([r1]:List G9)).length<=maxLen then some (H4.mk r2.C r2.Q (r3.set a1.toNat r4) (r2.p++([r1]:List G9)) r2.q)else none else none else none else none else none else none else none
def Biq:=ct (fd Tryz.func310 ⟨[.b 38 false,.v 3],[],false⟩ (gC (A36 K) (gC (A35 K) (gC (A80 K) (gC (Bip K) gN)))) [] [] [(0,[.take 1 9 5025,.opn 5025 (.tmp 1),.takeE 5025 11 41611,.takeE 5025 12 41612]),(1,[.put 1,.take 1 9 5025]),(2,[.take 1 9 5025,.frz 5025]),(3,[.opn 3031 (.tmp 1),.takeE 3031 11 41995,.takeE 3031 12 41996]),(4,[.take 1 10 5026,.frz 20448,.frz 20449])] [(23,[.put 1])]) (Ay7 K)
def Ay8 (K:Nat)(a0:G9):Option G9:=if(([]:List Int)++a0.j).length*8<=140737488355328/\(([]:List Int)++a0.j).length<=maxLen then if(([]:List Int)++a0.L).length*8<=140737488355328/\(([]:List Int)++a0.L).length<=maxLen then some (G9.mk a0.d a0.i (([]:List Int)++a0.j) (([]:List Int)++a0.L) a0.z)else none else none
def Bir:=ct (fd Tryz.func190 ⟨[.v 79],[.n 79 true],true⟩ gN) (Ay8 K)
def mz:Nat->Int->Int->Int->Int->Int->Int->Int->(List Int)->(List Int)->(List Int)->(List Fy)->(List G9)->(List Int)->H4->Int->Int->Int->Int->Int->Int->(List Int)->(List Int)->(List Int)->(List Fy)->(List G9)->(List Int)->Option H4
 |0,_,_,_,_,_,_,_,_,_,_,_,_,_,_,_,_,_,_,_,_,_,_,_,_,_,_=>none
 |n1+1,v3,v4,v5,v6,v7,v8,v9,v10,v11,v12,v13,v14,v15,v16,v17,v18,v19,v20,v21,v22,v23,v24,v25,v26,v27,v28=>bif decide (v3<v27.length)then if 0<=v3/\v3<v27.length then(Ay8 K (gt v27 v3)).bind fun r29=>if(v14++[r29]).length*72<=140737488355328/\(v14++[r29]).length<=maxLen then mz n1 (A4 v3 1) v4 v5 v6 v7 v8 v9 v10 v11 v12 v13 (v14++[r29]) v15 v16 v17 v18 v19 v20 v21 v22 v23 v24 v25 v26 v27 v28 else none else none else if(([]:List Int)++v28).length*8<=140737488355328/\(([]:List Int)++v28).length<=maxLen then some (H4.mk (Sv.mk v4 v5 v6 v7 v8 v9) (Pc.mk v10 v11 v12) v13 v14 (([]:List Int)++v28))else none
def jd (a0:H4):Option H4:=(iv K a0.Q).bind fun r1=>(mn K a0.o).bind fun r2=>mz K K 0 a0.C.L a0.C.k a0.C.l a0.C.e a0.C.m a0.C.n r1.g r1.c r1.h r2 ([]:List G9) a0.q (H4.mk (Sv.mk 0 0 0 0 0 0) (Pc.mk [] [] []) [] [] []) a0.C.L a0.C.k a0.C.l a0.C.e a0.C.m a0.C.n a0.Q.g a0.Q.c a0.Q.h a0.o a0.p a0.q
def A9m:=fd Tryz.func85 ⟨[.v 38],[.n 38 true],false⟩ (gC (Al5 K) (gC (Axo K) (gC (Bir K) gN))) [] [] [(9,[.take 103 10 6658]),(11,[.take 103 6 6654,.take 103 7 6655,.take 103 8 6656,.take 103 9 6657,.take 103 10 6658])] [(33,[.put 3033])]
def Bis:E7:=⟨[(1,.p 101),(2,.p 102),(3,.p 103),(4,.v 2)],[(103,.box [.v 2,.v 2,.v 2,.v 2,.v 2,.v 2,.T 5 true,.T 3 true,.T 3 true,.T 77 true,.T 79 true,.v 25]),(102,.st 38 true),(101,.box Wz)]⟩
def Biu:=lp (A9m K) 506 Bis [] (mz K) (fun n=>kN)
def wx:=ct (A9m K) (jd K) (kC (Biu K K) kN)
def fm (a0:List Fy)(a1:Int):Option Bool:=bif a1==0 then some true else(Yu K a0 a1).bind fun r1=>bif r1 then if 0<=(Ap a1 1)/\(Ap a1 1)<a0.length then some (((gt a0 (Ap a1 1)).c)==1)else none else some false
def Biv:=ct (fd Tryz.func301 ⟨[.v 35,.v 3],[.v 4],true⟩ (gC (iq K) gN) [6,7,10,11]) (fm K)
def ro (a0:List Fy)(a1:Int):Option Bool:=(qd K a0 a1).bind fun r19=>bif decide ((r19.length:Int)<=4)then if 0<=(Ap r19.length 1)/\(Ap r19.length 1)<r19.length then(ez K a0 (gt r19 (Ap r19.length 1))).bind fun r20=>some (!r20)else none else some false
def wy (a0:List Fy)(a1 v8 v12:Int):Option Bool:=bif v12==0 then(ez K a0 a1).bind fun r18=>bif r18 then if 0<=(Ap v8 1)/\(Ap v8 1)<a0.length then bif (gt a0 (Ap v8 1)).i != (A4 a1 1)then some false else ro K a0 a1 else none else ro K a0 a1 else ro K a0 a1
def wz (a0:List Fy)(a1 v8 v12:Int):Option Bool:=bif v12 != 0 then if 0<=(Ap v12 1)/\(Ap v12 1)<a0.length then bif (gt a0 (Ap v12 1)).u != (A4 a1 1)then some false else wy K a0 a1 v8 v12 else none else wy K a0 a1 v8 v12
def xa (a0:List Fy)(a1 v8:Int)(v9 v11 v12:Int):Option Bool:=bif v11 != 0 then if 0<=(Ap v11 1)/\(Ap v11 1)<a0.length then bif (gt a0 (Ap v11 1)).v != (A4 a1 1)then some false else bif (gt a0 (Ap v11 1)).s != v8 then some false else bif (gt a0 (Ap v11 1)).t != v9 then some false else wz K a0 a1 v8 v12 else none else wz K a0 a1 v8 v12
def xb (a0:List Fy)(a1 v5:Int)(v6 v7:Int)(v8 v9:Int)(v10 v11 v12:Int)(v13:List Int)(v14 v15:Int)(v16:List H3)(v17:List Int):Option Bool:=bif v10 != 0 then if 0<=(Ap v10 1)/\(Ap v10 1)<a0.length then bif (gt a0 (Ap v10 1)).v != 0 then some false else bif (gt a0 (Ap v10 1)).s != (A4 a1 1)then some false else bif (gt a0 (Ap v10 1)).t != v7 then some false else xa K a0 a1 v8 v9 v11 v12 else none else xa K a0 a1 v8 v9 v11 v12
def Ay9 (a0:List Fy)(a1:Int):Option Bool:=if 0<=a1/\a1<a0.length then bif (gt a0 a1).s != 0 then(Yu K a0 (gt a0 a1).s).bind fun r1=>bif r1 then(fm K a0 (gt a0 a1).i).bind fun r2=>bif r2 then(fm K a0 (gt a0 a1).u).bind fun r3=>bif r3 then(fm K a0 (gt a0 a1).v).bind fun r4=>bif !r4 then some false else xb K a0 a1 (gt a0 a1).c (gt a0 a1).a (gt a0 a1).f (gt a0 a1).s (gt a0 a1).t (gt a0 a1).i (gt a0 a1).u (gt a0 a1).v (gt a0 a1).L (gt a0 a1).w (gt a0 a1).x (gt a0 a1).y (gt a0 a1).j else some false else some false else some false else(fm K a0 (gt a0 a1).i).bind fun r21=>bif r21 then(fm K a0 (gt a0 a1).u).bind fun r22=>bif r22 then(fm K a0 (gt a0 a1).v).bind fun r23=>bif !r23 then some false else xb K a0 a1 (gt a0 a1).c (gt a0 a1).a (gt a0 a1).f (gt a0 a1).s (gt a0 a1).t (gt a0 a1).i (gt a0 a1).u (gt a0 a1).v (gt a0 a1).L (gt a0 a1).w (gt a0 a1).x (gt a0 a1).y (gt a0 a1).j else some false else some false else none
def rp:=fd Tryz.func238 ⟨[.v 35,.v 3],[.v 4],true⟩ (gC (A3t K) (gC (A3u K) (gC (iq K) (gC (Biv K) gN)))) [15,16,20,21,22,23,27,28,29,30,34,35,36,37,55,56,61,62,63,83,84,89,90,91,100,101,115,116,119,120,121,138,139] [7,15,31,63,127]
def Biw:E7:=⟨[(0,.v 35),(1,.v 2)],[]⟩
def je:E7:=⟨[(0,.v 35),(1,.v 2),(5,.p 105)],[(105,.box bg)]⟩
def Bix:=jn (rp K) 127 Biw [] (ro K) kN
def Biy:=jn (rp K) 63 je [] (fun a b _ _ _ f _ _ _ j _ _ _ _ _=>wy K a b f j) (kC (Bix K) kN)
def Biz:=jn (rp K) 31 je [] (fun a b _ _ _ f _ _ _ j _ _ _ _ _=>wz K a b f j) (kC (Biy K) kN)
def Bi0:=jn (rp K) 15 je [] (fun a b _ _ _ f g _ i j _ _ _ _ _=>xa K a b f g i j) (kC (Biz K) kN)
def Bi1:=jn (rp K) 7 je [] (xb K) (kC (Bi0 K) kN)
def Bi2:=ct (rp K) (Ay9 K) (kC (Bi1 K) kN)
def Aza (K:Nat)(v1:Int)(C1:Int->Option Bool):Option Bool:=C1 (A4 v1 1)
def jf (a0:List Fy):Nat->Int->Option Bool
 |0,_=>none
 |n1+1,v1=>bif decide (v1<a0.length)then if 0<=v1/\v1<a0.length then bif (gt a0 v1).c==1 then(Ay9 K a0 v1).bind fun r2=>bif !r2 then some false else Aza K v1 (jf a0 n1)else Aza K v1 (jf a0 n1)else none else some true
def Azb (a0:List Fy):Option Bool:=jf K a0 K 0
def A4i:=fd Tryz.func140 ⟨[.v 35],[.v 4],true⟩ (gC (Bi2 K) gN) [15,16] [105]
def Bi3:=fun(C26:CT wc _)=>jn (A4i K) 105 wc [(26,ar wc C26)] (fun a b=>Aza K b (C26 a)) kN
def Bi4:=lp (A4i K) 26 wc [] (fun n a=>jf K a n) (fun n=>kC (Bi3 K _) kN)
def Bi5:=ct (A4i K) (Azb K) (kC (Bi4 K K) kN)
def Azc (K:Nat)(v2:Int)(v3 v4 v5:List Int)(C1:Int->Int->(List Int)->(List Int)->(List Int)->Option Int)(v6:Int):Option Int:=C1 v6 (A4 v2 1) v3 v4 v5
def jg (a1:Int):Nat->Int->Int->(List Int)->(List Int)->(List Int)->Option Int
 |0,_,_,_,_,_=>none
 |n1+1,v1,v2,v3,v4,v5=>bif decide (v2<v4.length)then if 0<=v2/\v2<v4.length then bif (gt v4 v2)==a1 then Azc K v2 v3 v4 v5 (jg a1 n1) (A4 v1 1)else Azc K v2 v3 v4 v5 (jg a1 n1) v1 else none else some v1
def Azd (a0:Pc)(a1:Int):Option Int:=jg K a1 K 0 0 a0.g a0.c a0.h
def A4j:=fd Tryz.func246 ⟨[.v 34,.v 3],[.v 3],true⟩ gN [] [233]
def Aze:E7:=⟨[(1,.v 2),(2,.p 102),(5,.v 2),(6,.v 2)],[(102,.box da)]⟩
def Bi6:=fun(C58:CT Aze _)=>jn A4j 233 Aze [(58,ar Aze C58)] (fun a b c d e f=>Azc K c d e f (C58 a) b) kN
def Bi7:=lp A4j 58 Aze [] (fun n a=>jg K a n) (fun n=>kC (Bi6 K _) kN)
def Bi8:=ct A4j (Azd K) (kC (Bi7 K K) kN)
def xc (a0:List Fy)(a1:Int):Option Bool:=if 0<=a1/\a1<a0.length then bif (gt a0 a1).c==1 then if 0<=a1/\a1<a0.length then bif (gt a0 a1).s != 0 then(ez K a0 a1).bind fun r1=>some (!r1)else some false else none else some false else none
def A9n:=ct (fd Tryz.func245 ⟨[.v 35,.v 3],[.v 4],true⟩ (gC (A3u K) gN) [10,11,17,18,19]) (xc K)
def xd (a0:List Fy):Nat->Int->(List Int)->Option (List Int)
 |0,_,_=>none
 |n1+1,v1,v2=>(Yu K a0 v1).bind fun r3=>bif r3 then bif decide ((v2.length:Int)<a0.length)then if(v2++([(Ap v1 1)]:List Int)).length*8<=140737488355328/\(v2++([(Ap v1 1)]:List Int)).length<=maxLen then if 0<=(Ap v1 1)/\(Ap v1 1)<a0.length then xd a0 n1 (gt a0 (Ap v1 1)).u (v2++([(Ap v1 1)]:List Int))else none else none else some v2 else some v2
def na (a0:List Fy)(a1:Int):Option (List Int):=xd K a0 K a1 ([]:List Int)
def A9o:=fd Tryz.func176 ⟨[.v 35,.v 3],[.n 25 true],true⟩ (gC (iq K) gN) [9,10]
def Bi9:=lp (A9o K) 28 h_4 [] (fun n a=>xd K a n) (fun n=>kN)
def Azf:=ct (A9o K) (na K) (kC (Bi9 K K) kN)
def nc (v4:Int)(v15:List G9)(v20:List Int)(v21:Int)(C3:(List Int)->Int->Option Bool):Nat->Int->Option Bool
 |0,_=>none
 |n5+1,v22=>if 0<=v4/\v4<v15.length then bif decide (v22<(((gt v15 v4).L).length:Int))then if 0<=v21/\v21<v15.length then if 0<=v4/\v4<v15.length then if 0<=v22/\v22<(((gt v15 v4).L).length:Int)then(bo K (gt v15 v21).L (gt (gt v15 v4).L v22)).bind fun r23=>bif r23 then some false else nc v4 v15 v20 v21 C3 n5 (A4 v22 1)else none else none else none else C3 v20 (A4 v21 1)else none
def xe (v4:Int)(v15:List G9)(v20:List Int)(v21:Int)(C3:(List Int)->Int->Option Bool):Option Bool:=nc K v4 v15 v20 v21 (C3) K 0
def jh (v4 v5:Int)(v6 v7:Int)(v8 v9 v10:Int)(v11 v12 v13:List Int)(v14:List Fy)(v15:List G9)(v16:List Int)(v17 v18:Int)(C1:Int->Int->(List Int)->Int->Int->Int->Int->Int->Int->Int->(List Int)->(List Int)->(List Int)->(List Fy)->(List G9)->(List Int)->Option Bool):Nat->(List Int)->Int->Option Bool
 |0,_,_=>none
 |n3+1,v20,v21=>bif decide (v21<v4)then if 0<=v4/\v4<v15.length then bif (gt v15 v4).d != 0 then if 0<=v21/\v21<v15.length then if 0<=v4/\v4<v15.length then bif (gt v15 v21).d==(gt v15 v4).d then some false else xe K v4 v15 v20 v21 (jh v4 v5 v6 v7 v8 v9 v10 v11 v12 v13 v14 v15 v16 v17 v18 C1 n3)else none else none else xe K v4 v15 v20 v21 (jh v4 v5 v6 v7 v8 v9 v10 v11 v12 v13 v14 v15 v16 v17 v18 C1 n3)else none else C1 v17 v18 v20 (A4 v4 1) v5 v6 v7 v8 v9 v10 v11 v12 v13 v14 v15 v16
def xf (v3:List Int)(v4 v5:Int)(v6 v7:Int)(v8 v9 v10:Int)(v11 v12 v13:List Int)(v14:List Fy)(v15:List G9)(v16:List Int)(C1:Int->Int->(List Int)->Int->Int->Int->Int->Int->Int->Int->(List Int)->(List Int)->(List Int)->(List Fy)->(List G9)->(List Int)->Option Bool)(v17 v18:Int):Option Bool:=if 0<=v4/\v4<v15.length then(na K v14 (gt v15 v4).i).bind fun r19=>if(v3++r19).length*8<=140737488355328/\(v3++r19).length<=maxLen then jh K v4 v5 v6 v7 v8 v9 v10 v11 v12 v13 v14 v15 v16 v17 v18 (C1) K (v3++r19) 0 else none else none
def Azg (K:Nat)(v25:Int)(C6:Int->Int->Option Bool)(v27:Int):Option Bool:=C6 v27 (A4 v25 1)
def ji (v1 v2:Int)(v3 v11:List Int)(v12 v13:List Int)(v14:List Fy)(v24:Int):Nat->Int->Option Bool
 |0,_=>none
 |n8+1,v28=>bif decide (v28<v3.length)then if(0:Int)<=0/\0<=v28/\v28<=v3.length then if 0<=v28/\v28<v3.length then(bo K ((v3.drop (0:Int).toNat).take (v28 - 0).toNat) (gt v3 v28)).bind fun r29=>bif r29 then some false else ji v1 v2 v3 v11 v12 v13 v14 v24 n8 (A4 v28 1)else none else none else(Azd K (Pc.mk v11 v12 v13) 2).bind fun r30=>bif v1==r30 then(qp K v14 2).bind fun r31=>bif v2==r31 then some ((v3.length:Int)==v24)else some false else some false
def dh (v1 v2:Int)(v3 v11:List Int)(v12 v13:List Int)(v14:List Fy):Nat->Int->Int->Option Bool
 |0,_,_=>none
 |n6+1,v24,v25=>bif decide (v25<v14.length)then(xc K v14 v25).bind fun r26=>bif r26 then Azg K v25 (dh v1 v2 v3 v11 v12 v13 v14 n6) (A4 v24 1)else Azg K v25 (dh v1 v2 v3 v11 v12 v13 v14 n6) v24 else ji K v1 v2 v3 v11 v12 v13 v14 v24 K 0
def ai:Nat->Int->Int->(List Int)->Int->Int->Int->Int->Int->Int->Int->(List Int)->(List Int)->(List Int)->(List Fy)->(List G9)->(List Int)->Option Bool
 |0,_,_,_,_,_,_,_,_,_,_,_,_,_,_,_,_=>none
 |n1+1,v1,v2,v3,v4,v5,v6,v7,v8,v9,v10,v11,v12,v13,v14,v15,v16=>bif decide (v4<v15.length)then if 0<=v4/\v4<v15.length then if 0<=v4/\v4<v15.length then bif (gt v15 v4).d != 0 then xf K v3 v4 v5 v6 v7 v8 v9 v10 v11 v12 v13 v14 v15 v16 (ai n1) (A4 v1 (((gt v15 v4).L).length:Int)) (A4 v2 1)else xf K v3 v4 v5 v6 v7 v8 v9 v10 v11 v12 v13 v14 v15 v16 (ai n1) (A4 v1 (((gt v15 v4).L).length:Int)) v2 else none else none else dh K v1 v2 v3 v11 v12 v13 v14 K 0 0
def Azh (a0:H4):Option Bool:=ai K K 0 0 ([]:List Int) 0 a0.C.L a0.C.k a0.C.l a0.C.e a0.C.m a0.C.n a0.Q.g a0.Q.c a0.Q.h a0.o a0.p a0.q
def fq:=fd Tryz.func148 ⟨[.v 38],[.v 4],true⟩ (gC (Azf K) (gC (rf K) (gC (A9n K) (gC (Bi8 K) (gC (A8p K) gN))))) [60,61,134,135,140,141,142] [4073,8009,2050532]
def Bja:E7:=⟨[(1,.p 101),(3,.v 2),(4,.v 2),(5,.o 1005 3 true),(6,.v 2),(7,.v 2),(8,.v 2)],[(101,.box Wz)]⟩
def rq:E7:=⟨[(1,.p 101),(3,.v 2),(4,.v 2),(5,.o 1005 3 true),(6,.v 2),(7,.v 2)],[(101,.box Wz)]⟩
def di:E7:=⟨[(1,.p 101),(3,.v 2),(4,.v 2),(5,.o 1005 3 true),(6,.v 2)],[(101,.box Wz)]⟩
def Azi:E7:=⟨[(1,.p 101),(3,.v 2),(4,.v 2),(5,.o 1005 3 true),(9,.v 2),(10,.v 2)],[(101,.box Wz)]⟩
def Bjb:E7:=⟨[(1,.p 101),(3,.v 2),(4,.v 2),(5,.o 1005 3 true),(9,.v 2),(11,.v 2)],[(101,.box Wz)]⟩
def Bjc:=fun(C250:CT di _) (C128158:CT rq _)=>lp (fq K) 16404262 Bja [(128158,ar rq C128158),(250,ar di C250)] (fun n a b c d e f g h i j k l m o p q r s=>nc K d r c e (fun v20 v21=>C128158 a b v20 d v21 g h i j k l m o p q r s) n f) (fun n=>kN)
def Bjd:=fun(C250:CT di _) (C128158:CT rq _)=>jn (fq K) 2050532 rq [(128158,ar rq C128158),(250,ar di C250)] (fun a b c d e f g h i j k l m o p q r=>xe K d q c e (fun v20 v21=>C128158 a b v20 d v21 f g h i j k l m o p q r)) (kC (Bjc K _ _ K) kN)
def Bje:=fun(C250:CT di _)=>lp (fq K) 128158 rq [(250,ar di C250)] (fun n a b c d e f g h i j k l m o p q r=>jh K d f g h i j k l m o p q r a b C250 n c e) (fun n=>kC (Bjd K _ _) kN)
def Bjf:=fun(C250:CT di _)=>jn (fq K) 8009 di [(250,ar di C250)] (fun a b c d e f g h i j k l m o p q=>xf K c d e f g h i j k l m o p q C250 a b) (kC (Bje K _ K) kN)
def Bjg:=fun(C1018:CT Azi _)=>jn (fq K) 4073 Azi [(1018,ar Azi C1018)] (fun a b c d e f g h i j k l m o p q r=>Azg K e (fun v24 v25=>C1018 a b c v24 v25 f g h i j k l m o p q r) d) kN
def Bjh:=lp (fq K) 2042 Bjb [] (fun n a b c d e _ _ _ _ _ _ l m o p _ _=>ji K a b c l m o p d n e) (fun n=>kN)
def Bji:=lp (fq K) 1018 Azi [] (fun n a b c d e _ _ _ _ _ _ l m o p _ _=>dh K a b c l m o p n d e) (fun n=>kC (Bjg K _) (kC (up (Bjh K K)) kN))
def Bjj:=lp (fq K) 250 di [] (ai K) (fun n=>kC (Bjf K _) (kC (up (Bji K K)) kN))
def Bjk:=ct (fq K) (Azh K) (kC (Bjj K K) kN)
def jj (a0:Sv)(v8:List Int):Nat->Int->Option Bool
 |0,_=>none
 |n3+1,v12=>bif decide (v12<v8.length)then if 0<=v12/\v12<v8.length then(V5 K (gt v8 v12) 0 (Ap a0.L 1)).bind fun r13=>bif r13 then if(0:Int)<=0/\0<=v12/\v12<=v8.length then if 0<=v12/\v12<v8.length then(bo K ((v8.drop (0:Int).toNat).take (v12 - 0).toNat) (gt v8 v12)).bind fun r14=>bif r14 then some false else jj a0 v8 n3 (A4 v12 1)else none else none else some false else none else some true
def ng (a0:Sv)(v7 v8:List Int):Nat->Int->Option Bool
 |0,_=>none
 |n2+1,v10=>bif decide (v10<v7.length)then if 0<=v10/\v10<v7.length then(V5 K (gt v7 v10) 0 255).bind fun r11=>bif !r11 then some false else ng a0 v7 v8 n2 (A4 v10 1)else none else jj K a0 v8 K 0
def Azj (a0:Sv)(v5 v6:Int)(v7 v8:List Int)(v9:Int):Option Bool:=ng K a0 v7 v8 K 0
def Azk (a0:Sv)(a1:G9):Option Bool:=(bh K a0).bind fun r1=>bif r1 then(V5 K a1.d 0 a0.l).bind fun r2=>bif r2 then(V5 K a1.i 0 a0.l).bind fun r3=>bif r3 then bif decide ((a1.j.length:Int)>6)then some false else(V5 K a1.z 0 (Ap a0.k 1)).bind fun r4=>bif r4 then bif (a1.L.length:Int)==0 then bif a1.z != 0 then some false else Azj K a0 a1.d a1.i a1.j a1.L a1.z else Azj K a0 a1.d a1.i a1.j a1.L a1.z else some false else some false else some false else some false
def Azl:=fd Tryz.func244 ⟨[.v 33,.v 79],[.v 4],true⟩ (gC (im K) (gC (X1 K) (gC (rf K) gN))) [8,9,10,15,16,17,18,23,24,25,26,30,31,32,38,39,40,41,45,46,81,82,83] [3]
def Bjl:E7:=⟨[(2,.p 102),(3,.p 103),(6,.v 2)],[(103,.box me),(102,.st 33 true)]⟩
def Bjm:E7:=⟨[(2,.p 102),(3,.p 103),(5,.v 2)],[(103,.box me),(102,.st 33 true)]⟩
def Bjn:E7:=⟨[(2,.p 102),(3,.p 103)],[(103,.box me),(102,.st 33 true)]⟩
def Bjo:=lp (Azl K) 122 Bjl [] (fun n a _ _ _ e _ g=>jj K g e n a) (fun n=>kN)
def Bjp:=lp (Azl K) 58 Bjm [] (fun n a _ _ d e _ g=>ng K g d e n a) (fun n=>kC (up (Bjo K K)) kN)
def Bjq:=jn (Azl K) 3 Bjn [] (fun a b c d e f=>Azj K f a b c d e) (kC (Bjp K K) kN)
def Bjr:=ct (Azl K) (Azk K) (kC (Bjq K) kN)
def rr (v17:List Fy)(r21:(List Int)):Nat->Int->Option Bool
 |0,_=>none
 |n4+1,v22=>bif decide (v22<r21.length)then if 0<=v22/\v22<r21.length then(xc K v17 (gt r21 v22)).bind fun r23=>bif !r23 then some false else rr v17 r21 n4 (A4 v22 1)else none else some true
def nh (v4:Int)(v17:List Fy):Option Bool:=(na K v17 v4).bind fun r21=>rr K v17 r21 K 0
def xg (v3 v4:Int)(v17:List Fy):Option Bool:=bif v3 != 0 then if 0<=(Ap v3 1)/\(Ap v3 1)<v17.length then bif (gt v17 (Ap v3 1)).c != 2 then some false else bif v4 != 0 then if 0<=(Ap v4 1)/\(Ap v4 1)<v17.length then bif (gt v17 (Ap v4 1)).v != 0 then some false else nh K v4 v17 else none else nh K v4 v17 else none else bif v4 != 0 then if 0<=(Ap v4 1)/\(Ap v4 1)<v17.length then bif (gt v17 (Ap v4 1)).v != 0 then some false else nh K v4 v17 else none else nh K v4 v17
def ni:Nat->Int->Int->Int->(List Int)->(List Int)->Int->Int->Int->Int->Int->Int->Int->(List Int)->(List Int)->(List Int)->(List Fy)->(List G9)->(List Int)->Option Bool
 |0,_,_,_,_,_,_,_,_,_,_,_,_,_,_,_,_,_,_=>none
 |n1+1,v2,v3,v4,v5,v6,v7,v8,v9,v10,v11,v12,v13,v14,v15,v16,v17,v18,v19=>bif decide (v2<v6.length)then if 0<=v2/\v2<v6.length then if 0<=(gt v6 v2)/\(gt v6 v2)<v15.length then bif (gt v15 (gt v6 v2)) != 2 then some false else ni n1 (A4 v2 1) v3 v4 v5 v6 v7 v8 v9 v10 v11 v12 v13 v14 v15 v16 v17 v18 v19 else none else none else bif decide ((v6.length:Int)>0)then if(0:Int)<=0/\0<(v6.length:Int)then if(0:Int)<=0/\0<(v6.length:Int)then if 0<=(F2 (gt v6 0) v9)/\(F2 (gt v6 0) v9)<=(A4 (F2 (gt v6 0) v9) v7)/\(A4 (F2 (gt v6 0) v9) v7)<=v14.length then(iy K ((v14.drop (F2 (gt v6 0) v9).toNat).take ((A4 (F2 (gt v6 0) v9) v7) - (F2 (gt v6 0) v9)).toNat)).bind fun r20=>bif !r20 then some false else xg K v3 v4 v17 else none else none else none else xg K v3 v4 v17
def Azm (a0:H4)(a1:Int):Option Bool:=if 0<=a1/\a1<a0.p.length then(Azk K a0.C (gt a0.p a1)).bind fun r1=>bif !r1 then some false else ni K K 0 (gt a0.p a1).d (gt a0.p a1).i (gt a0.p a1).j (gt a0.p a1).L (gt a0.p a1).z a0.C.L a0.C.k a0.C.l a0.C.e a0.C.m a0.C.n a0.Q.g a0.Q.c a0.Q.h a0.o a0.p a0.q else none
def xh:=fd Tryz.func146 ⟨[.v 38,.v 3],[.v 4],true⟩ (gC (Azf K) (gC (Ama K) (gC (Bjr K) (gC (A9n K) gN)))) [40,41,70,71,80,81,82,85,86] [31,63]
def Bjs:E7:=⟨[(2,.p 102),(7,.v 25),(8,.v 2)],[(102,.box Wz)]⟩
def A9p:E7:=⟨[(2,.p 102),(5,.p 105)],[(105,.box me),(102,.box Wz)]⟩
def Bjt:E7:=⟨[(2,.p 102),(5,.p 105),(6,.v 2)],[(105,.box me),(102,.box Wz)]⟩
def Bju:=lp (xh K) 2042 Bjs [] (fun n a b _ _ _ _ _ _ _ _ _ l _ _=>rr K l a n b) (fun n=>kN)
def Bjv:=jn (xh K) 63 A9p [] (fun _ b _ _ _ _ _ _ _ _ _ _ _ _ p _ _=>nh K b p) (kC (Bju K K) kN)
def Bjw:=jn (xh K) 31 A9p [] (fun a b _ _ _ _ _ _ _ _ _ _ _ _ p _ _=>xg K a b p) (kC (Bjv K) kN)
def Bjx:=lp (xh K) 122 Bjt [] (ni K) (fun n=>kC (up (Bjw K)) kN)
def Bjy:=ct (xh K) (Azm K) (kC (Bjx K K) kN)
def nj (a1:Int)(r1:(List Int)):Nat->Int->Int->Int->Int->Int->Int->Int->(List Int)->(List Int)->(List Int)->(List Fy)->(List G9)->(List Int)->Option Bool
 |0,_,_,_,_,_,_,_,_,_,_,_,_,_=>none
 |n1+1,v2,v3,v4,v5,v6,v7,v8,v9,v10,v11,v12,v13,v14=>bif decide (v2<r1.length)then if 0<=a1/\a1<v12.length then if 0<=v2/\v2<r1.length then(bo K (gt v12 a1).L (gt r1 v2)).bind fun r15=>bif !r15 then some false else nj a1 r1 n1 (A4 v2 1) v3 v4 v5 v6 v7 v8 v9 v10 v11 v12 v13 v14 else none else none else if 0<=a1/\a1<v12.length then some ((r1.length:Int)==(((gt v12 a1).L).length:Int))else none
def Azn (a0:H4)(a1:Int):Option Bool:=(vm K a0.Q a1).bind fun r1=>nj K a1 r1 K 0 a0.C.L a0.C.k a0.C.l a0.C.e a0.C.m a0.C.n a0.Q.g a0.Q.c a0.Q.h a0.o a0.p a0.q
def A9q:=fd Tryz.func142 ⟨[.v 38,.v 3],[.v 4],true⟩ (gC (A8n K) (gC (rf K) gN))
def Bjz:E7:=⟨[(1,.v 2),(2,.p 102),(5,.v 25),(6,.v 2)],[(102,.box Wz)]⟩
def Bj0:=lp (A9q K) 58 Bjz [] (fun n a b=>nj K a b n) (fun n=>kN)
def Bj1:=ct (A9q K) (Azn K) (kC (Bj0 K K) kN)
def nk (a0:Sv)(v1 v2:Int)(v3 v4:Int)(v5 v6:Int)(v7 v8 v9:Int)(v10:List Int)(v11 v12:Int)(v13:List H3)(v14:List Int)(C1:Int->Int->Int->Int->Int->Int->Int->Int->Int->(List Int)->Int->Int->(List H3)->(List Int)->Option Bool):Nat->Int->H3->Option Bool
 |0,_,_=>none
 |n2+1,v16,v17=>if a0.k≠(0:Int)then bif decide (v16<=(Afg .i64 (Ap (A4 v17.B v17.D) 1) a0.k))then(bo K v10 v16).bind fun r18=>bif !r18 then some false else nk a0 v1 v2 v3 v4 v5 v6 v7 v8 v9 v10 v11 v12 v13 v14 C1 n2 (A4 v16 1) v17 else C1 (A4 v1 1) v2 v3 v4 v5 v6 v7 v8 v9 v10 v11 v12 v13 v14 else none
def fv (a0:Sv):Nat->Int->Int->Int->Int->Int->Int->Int->Int->Int->(List Int)->Int->Int->(List H3)->(List Int)->Option Bool
 |0,_,_,_,_,_,_,_,_,_,_,_,_,_,_=>none
 |n1+1,v1,v2,v3,v4,v5,v6,v7,v8,v9,v10,v11,v12,v13,v14=>bif decide (v1<v13.length)then if 0<=v1/\v1<v13.length then(rh K a0 (gt v13 v1)).bind fun r15=>bif !r15 then some false else if a0.k≠(0:Int)then nk K a0 v1 v2 v3 v4 v5 v6 v7 v8 v9 v10 v11 v12 v13 v14 (fv a0 n1) K (Afg .i64 (gt v13 v1).B a0.k) (gt v13 v1)else none else none else some true
def Azo (a0:Sv)(a1:Fy):Option Bool:=fv K a0 K 0 a1.c a1.a a1.f a1.s a1.t a1.i a1.u a1.v a1.L a1.w a1.x a1.y a1.j
def A4k:=fd Tryz.func143 ⟨[.v 33,.v 77],[.v 4],true⟩ (gC (A9c K) (gC (rf K) gN))
def Bj2:E7:=⟨[(2,.p 102),(3,.p 103),(5,.v 2),(6,.p 106),(7,.v 2)],[(106,.st 183 true),(103,.box bg),(102,.st 33 true)]⟩
def Bj3:=fun(C26:CT wj _)=>lp (A4k K) 6734 Bj2 [(26,ar wj C26)] (fun n a b c d e f g h i j k l m o p q r=>nk K r a d e f g h i j k l m o p q (fun v1 v2 v3 v4 v5 v6 v7 v8 v9 v10 v11 v12 v13 v14=>C26 v1 v2 v3 v4 v5 v6 v7 v8 v9 v10 v11 v12 v13 v14 r) n b c) (fun n=>kN)
def Bj4:=lp (A4k K) 26 wj [] (fun n a b c d e f g h i j k l m o p=>fv K p n a b c d e f g h i j k l m o) (fun n=>kC (Bj3 K _ K) kN)
def Bj5:=ct (A4k K) (Azo K) (kC (Bj4 K K) kN)
def Azp (K:Nat)(a0 a1:H3):Option Bool:=bif decide (a0.D<1)then some true else bif decide (a1.D<1)then some true else bif decide (a0.B<=a1.B)then bif decide ((Ap a1.B a0.B)>=a0.D)then some true else some (decide ((Ap a1.B a0.B)<0))else bif decide ((Ap a0.B a1.B)>=a1.D)then some true else some (decide ((Ap a0.B a1.B)<0))
def Bj6:=ct (fd Tryz.func243 ⟨[.v 183,.v 183],[.v 4],true⟩ gN [7,8,25,26,41,42]) (Azp K)
def nl (a0:List H3)(v1:Int)(C1:Int->Option Bool):Nat->Int->Option Bool
 |0,_=>none
 |n2+1,v2=>bif decide (v2<v1)then if 0<=v1/\v1<a0.length then if 0<=v2/\v2<a0.length then(Azp K (gt a0 v1) (gt a0 v2)).bind fun r3=>bif !r3 then some false else nl a0 v1 C1 n2 (A4 v2 1)else none else none else C1 (A4 v1 1)
def fw (a0:List H3):Nat->Int->Option Bool
 |0,_=>none
 |n1+1,v1=>bif decide (v1<a0.length)then nl K a0 v1 (fw a0 n1) K 0 else some true
def Azq (a0:List H3):Option Bool:=fw K a0 K 0
def A4l:=fd Tryz.func144 ⟨[.v 75],[.v 4],true⟩ (gC (Bj6 K) gN)
def Bj7:E7:=⟨[(0,.v 75),(3,.v 2),(4,.v 2)],[]⟩
def A4m:E7:=⟨[(0,.v 75),(3,.v 2)],[]⟩
def Bj8:=fun(C26:CT A4m _)=>lp (A4l K) 1682 Bj7 [(26,ar A4m C26)] (fun n a b=>nl K a b (C26 a) n) (fun n=>kN)
def Bj9:=lp (A4l K) 26 A4m [] (fun n a=>fw K a n) (fun n=>kC (Bj8 K _ K) kN)
def Bka:=ct (A4l K) (Azq K) (kC (Bj9 K K) kN)
def Azr (K:Nat)(v1 v2:Int)(v3 v4:Int)(v5 v6:Int)(v7 v8:Int)(v9 v10 v11:Int)(v12:List Int)(v13 v14:Int)(v15:List H3)(v16:List Int)(v17 v18:Int)(v19 v20:Int)(v21 v22:Int)(v23 v24 v25:List Int)(v26:List Fy)(v27:List G9)(v28:List Int)(C1:Int->Int->Int->Int->Int->Int->Int->Int->Int->Int->Int->(List Int)->Int->Int->(List H3)->(List Int)->Int->Int->Int->Int->Int->Int->(List Int)->(List Int)->(List Int)->(List Fy)->(List G9)->(List Int)->Option Bool):Option Bool:=C1 v1 v2 (A4 v3 1) v4 v5 v6 v7 v8 v9 v10 v11 v12 v13 v14 v15 v16 v17 v18 v19 v20 v21 v22 v23 v24 v25 v26 v27 v28
def jk:Nat->Int->Int->Int->Int->Int->Int->Int->Int->Int->Int->Int->(List Int)->Int->Int->(List H3)->(List Int)->Int->Int->Int->Int->Int->Int->(List Int)->(List Int)->(List Int)->(List Fy)->(List G9)->(List Int)->Option Bool
 |0,_,_,_,_,_,_,_,_,_,_,_,_,_,_,_,_,_,_,_,_,_,_,_,_,_,_,_,_=>none
 |n1+1,v1,v2,v3,v4,v5,v6,v7,v8,v9,v10,v11,v12,v13,v14,v15,v16,v17,v18,v19,v20,v21,v22,v23,v24,v25,v26,v27,v28=>bif decide (v3<v15.length)then if 0<=v3/\v3<v15.length then bif decide (((gt v15 v3).B)<v2)then bif decide ((A4 (gt v15 v3).B (gt v15 v3).D)>v1)then some false else Azr K v1 v2 v3 v4 v5 v6 v7 v8 v9 v10 v11 v12 v13 v14 v15 v16 v17 v18 v19 v20 v21 v22 v23 v24 v25 v26 v27 v28 (jk n1)else Azr K v1 v2 v3 v4 v5 v6 v7 v8 v9 v10 v11 v12 v13 v14 v15 v16 v17 v18 v19 v20 v21 v22 v23 v24 v25 v26 v27 v28 (jk n1)else none else if 0<=v1/\v1<=v2/\v2<=v23.length then(iy K ((v23.drop v1.toNat).take (v2 - v1).toNat)).bind fun r29=>some r29 else none
def Azs (a0:H4)(a1:Int):Option Bool:=if 0<=a1/\a1<a0.o.length then bif (gt a0.o a1).w==0 then some true else bif decide ((A4 (F2 (Ap (gt a0.o a1).w 1) a0.C.k) (gt a0.o a1).x)>=(F2 (gt a0.o a1).w a0.C.k))then some true else jk K K (A4 (F2 (Ap (gt a0.o a1).w 1) a0.C.k) (gt a0.o a1).x) (F2 (gt a0.o a1).w a0.C.k) 0 (gt a0.o a1).c (gt a0.o a1).a (gt a0.o a1).f (gt a0.o a1).s (gt a0.o a1).t (gt a0.o a1).i (gt a0.o a1).u (gt a0.o a1).v (gt a0.o a1).L (gt a0.o a1).w (gt a0.o a1).x (gt a0.o a1).y (gt a0.o a1).j a0.C.L a0.C.k a0.C.l a0.C.e a0.C.m a0.C.n a0.Q.g a0.Q.c a0.Q.h a0.o a0.p a0.q else none
def A4n:=fd Tryz.func145 ⟨[.v 38,.v 3],[.v 4],true⟩ (gC (Ama K) gN) [33,34,54,55] [2025]
def Azt:E7:=⟨[(2,.p 102),(5,.p 105),(6,.v 2),(7,.v 2),(8,.v 2)],[(105,.box bg),(102,.box Wz)]⟩
def Bkb:=fun(C506:CT Azt _)=>jn (A4n K) 2025 Azt [(506,ar Azt C506)] (fun a b c d e f g h i j k l m o p q r s t u v w x y z a1 b1 c1=>Azr K a b c d e f g h i j k l m o p q r s t u v w x y z a1 b1 c1 C506) kN
def Bkc:=lp (A4n K) 506 Azt [] (jk K) (fun n=>kC (Bkb K _) kN)
def Bkd:=ct (A4n K) (Azs K) (kC (Bkc K K) kN)
def jl (v4 v5:Int)(v6 v7:Int)(v8 v9:Int)(v10 v11 v12:List Int)(v13:List Fy)(v14:List G9)(v15:List Int):Nat->Int->Option Bool
 |0,_=>none
 |n3+1,v23=>bif decide (v23<v15.length)then if 0<=v23/\v23<v15.length then(V5 K (gt v15 v23) 0 255).bind fun r24=>bif !r24 then some false else jl v4 v5 v6 v7 v8 v9 v10 v11 v12 v13 v14 v15 n3 (A4 v23 1)else none else(Azh K (H4.mk (Sv.mk v4 v5 v6 v7 v8 v9) (Pc.mk v10 v11 v12) v13 v14 v15)).bind fun r25=>some r25
def nm (v4 v5:Int)(v6 v7:Int)(v8 v9:Int)(v10 v11 v12:List Int)(v13:List Fy)(v14:List G9)(v15:List Int):Nat->Int->Option Bool
 |0,_=>none
 |n2+1,v21=>bif decide (v21<v14.length)then(Azm K (H4.mk (Sv.mk v4 v5 v6 v7 v8 v9) (Pc.mk v10 v11 v12) v13 v14 v15) v21).bind fun r22=>bif !r22 then some false else nm v4 v5 v6 v7 v8 v9 v10 v11 v12 v13 v14 v15 n2 (A4 v21 1)else jl K v4 v5 v6 v7 v8 v9 v10 v11 v12 v13 v14 v15 K 0
def jm:Nat->Int->Int->Int->Int->Int->Int->Int->(List Int)->(List Int)->(List Int)->(List Fy)->(List G9)->(List Int)->Option Bool
 |0,_,_,_,_,_,_,_,_,_,_,_,_,_=>none
 |n1+1,v3,v4,v5,v6,v7,v8,v9,v10,v11,v12,v13,v14,v15=>bif decide (v3<v13.length)then if 0<=v3/\v3<v13.length then(fj K (Sv.mk v4 v5 v6 v7 v8 v9) (gt v13 v3)).bind fun r16=>bif r16 then(Azn K (H4.mk (Sv.mk v4 v5 v6 v7 v8 v9) (Pc.mk v10 v11 v12) v13 v14 v15) v3).bind fun r17=>bif r17 then if 0<=v3/\v3<v13.length then(Azo K (Sv.mk v4 v5 v6 v7 v8 v9) (gt v13 v3)).bind fun r18=>bif r18 then if 0<=v3/\v3<v13.length then(Azq K (gt v13 v3).y).bind fun r19=>bif r19 then(Azs K (H4.mk (Sv.mk v4 v5 v6 v7 v8 v9) (Pc.mk v10 v11 v12) v13 v14 v15) v3).bind fun r20=>bif !r20 then some false else jm n1 (A4 v3 1) v4 v5 v6 v7 v8 v9 v10 v11 v12 v13 v14 v15 else some false else none else some false else none else some false else some false else none else nm K v4 v5 v6 v7 v8 v9 v10 v11 v12 v13 v14 v15 K 0
def nn (a0:H4):Option Bool:=(vr K a0.C a0.Q).bind fun r1=>bif r1 then bif (a0.o.length:Int) != a0.C.l then some false else(Azb K a0.o).bind fun r2=>bif !r2 then some false else jm K K 0 a0.C.L a0.C.k a0.C.l a0.C.e a0.C.m a0.C.n a0.Q.g a0.Q.c a0.Q.h a0.o a0.p a0.q else some false
def Azu:=fd Tryz.func40 ⟨[.v 38],[.v 4],true⟩ (gC (A8v K) (gC (Bi5 K) (gC (ri K) (gC (Bj1 K) (gC (Bj5 K) (gC (Bka K) (gC (Bkd K) (gC (Bjy K) (gC (X1 K) (gC (Bjk K) gN)))))))))) [10,11,12,19,20,21,41,42,43,46,47,48,49,57,58,59,60,67,68,69,70]
def Bke:E7:=⟨[(1,.p 101),(5,.v 2)],[(101,.box Wz)]⟩
def Bkf:E7:=⟨[(1,.p 101),(4,.v 2)],[(101,.box Wz)]⟩
def Bkg:E7:=⟨[(1,.p 101),(3,.v 2)],[(101,.box Wz)]⟩
def Bkh:=lp (Azu K) 250 Bke [] (fun n a b c d e f g h i j k l m=>jl K b c d e f g h i j k l m n a) (fun n=>kN)
def Bki:=lp (Azu K) 122 Bkf [] (fun n a b c d e f g h i j k l m=>nm K b c d e f g h i j k l m n a) (fun n=>kC (up (Bkh K K)) kN)
def Bkj:=lp (Azu K) 58 Bkg [] (jm K) (fun n=>kC (up (Bki K K)) kN)
def Azv:=ct (Azu K) (nn K) (kC (Bkj K K) kN)
def Azw (a0:Pd):Option Bool:=(vi K a0.P).bind fun r1=>bif r1 then bif decide (a0.f>=0)then some (decide (a0.r>=0))else some false else some false
def Bkk:=ct (fd Tryz.func385 ⟨[.v 42],[.v 4],true⟩ (gC (A8k K) gN) [5,6,9,10,11]) (Azw K)
def Azx (a0:Fy)(a1:Pd):Option (H3×Bool):=bif a0.c != 1 then some ((H3.mk 0 0 0),false)else bif a0.f != a1.f then some ((H3.mk 0 0 0),false)else(V5 K a1.r 0 (Ap a0.y.length 1)).bind fun r1=>bif !r1 then some ((H3.mk 0 0 0),false)else if 0<=a1.r/\a1.r<a0.y.length then some ((gt a0.y a1.r),true)else none
def Bkl:=ct (fd Tryz.func386 ⟨[.v 77,.v 42],[.v 183,.v 4],true⟩ (gC (X1 K) gN) [8,9,14,15,16]) (Azx K)
def xi (a0:H4)(a1:Pd):Option (Int×H3×Int):=(Azw K a1).bind fun r1=>bif !r1 then some ((-1),(H3.mk 0 0 0),1)else(fc K a0 a1.P).bind fun r2=>bif r2.2 != 0 then some ((-1),(H3.mk 0 0 0),r2.2)else if 0<=r2.1/\r2.1<a0.o.length then(Azx K (gt a0.o r2.1) a1).bind fun r3=>bif !r3.2 then some ((-1),(H3.mk 0 0 0),2)else some (r2.1,r3.1,0)else none
def A9r:=ct (fd Tryz.func378 ⟨[.v 38,.v 42],[.v 3,.v 183,.v 3],true⟩ (gC (qm K) (gC (Bkk K) (gC (Bkl K) gN)))) (xi K)
def xj (K:Nat)(a0:H3)(a1 a2:Int):Option Bool:=bif decide (a1>=0)then bif decide (a2>=0)then bif decide (a1<=a0.D)then bif decide (a2<=(Ap a0.D a1))then bif decide (a0.B<0)then some true else some (decide ((A4 a0.B a1)>=0))else some false else some false else some false else some false
def A9s:=ct (fd Tryz.func387 ⟨[.v 183,.v 3,.v 3],[.v 4],true⟩ gN [8,9,11,12,13,17,18,19,25,26,27,30,31]) (xj K)
def xk (K:Nat)(a0:List Int)(a1 a2:Int):Option Bool:=bif decide (a1>=0)then bif decide (a2>=0)then bif decide (a1<=a0.length)then some (decide (a2<=(Ap a0.length a1)))else some false else some false else some false
def A9t:=ct (fd Tryz.func391 ⟨[.v 24,.v 3,.v 3],[.v 4],true⟩ gN [8,9,11,12,13,17,18,19]) (xk K)
def Azy (a0:List Int)(a1 a2:Int):Option ((List Int)×Bool):=(xk K a0 a1 a2).bind fun r1=>bif !r1 then some (([]:List Int),false)else if 0<=a1/\a1<=(A4 a1 a2)/\(A4 a1 a2)<=a0.length then if(([]:List Int)++((a0.drop a1.toNat).take ((A4 a1 a2) - a1).toNat)).length*1<=140737488355328/\(([]:List Int)++((a0.drop a1.toNat).take ((A4 a1 a2) - a1).toNat)).length<=maxLen then some ((([]:List Int)++((a0.drop a1.toNat).take ((A4 a1 a2) - a1).toNat)),true)else none else none
def Bkm:=ct (fd Tryz.func388 ⟨[.v 24,.v 3,.v 3],[.n 24 true,.v 4],true⟩ (gC (A9t K) gN)) (Azy K)
def Azz (a0:List Int)(a1:H3)(a2 a3:Int):Option ((List Int)×Bool):=(xj K a1 a2 a3).bind fun r1=>bif !r1 then some (([]:List Int),false)else(Azy K a0 (A4 a1.B a2) a3).bind fun r2=>some (r2.1,r2.2)
def Bkn:=ct (fd Tryz.func379 ⟨[.v 24,.v 183,.v 3,.v 3],[.n 24 true,.v 4],true⟩ (gC (A9s K) (gC (Bkm K) gN))) (Azz K)
def Az0 (a0:H4)(a1:Pd)(a2 a3:Int):Option (H4×Sw):=(jd K a0).bind fun r1=>(nn K a0).bind fun r2=>bif !r2 then some (r1,(Sw.mk 1 (Lz.mk 0 0) (Pd.mk (Lz.mk 0 0) 0 0) [] 0 0 0))else(xi K a0 a1).bind fun r3=>(db K a0 a1.P).bind fun r4=>bif r3.2.2 != 0 then some (r1,(Sw.mk r3.2.2 (Lz.mk 0 0) (Pd.mk (Lz.mk 0 0) 0 0) [] r4 0 0))else(Azz K a0.Q.g r3.2.1 a2 a3).bind fun r5=>bif !r5.2 then some (r1,(Sw.mk 7 (Lz.mk 0 0) (Pd.mk (Lz.mk 0 0) 0 0) [] r4 0 0))else some (r1,(Sw.mk r3.2.2 (Lz.mk 0 0) (Pd.mk (Lz.mk 0 0) 0 0) r5.1 r4 0 0))
def Bko:=ct (fd Tryz.func358 ⟨[.v 38,.v 42,.v 3,.v 3],[.n 38 true,.n 44 true],false⟩ (gC (Azv K) (gC (wx K) (gC (mh K) (gC (A9r K) (gC (Bkn K) gN))))) [] [] [(7,[.take 114 7 6831]),(11,[.take 114 7 6831])]) (Az0 K)
def jo (K:Nat)(a1:Int)(a2:List Int):Nat->(List Int)->Int->Option ((List Int)×Bool)
 |0,_,_=>none
 |n1+1,v2,v3=>bif decide (v3<a2.length)then if 0<=v3/\v3<a2.length then if 0<=(A4 a1 v3)/\(A4 a1 v3)<v2.length then jo K a1 a2 n1 (v2.set (A4 a1 v3).toNat (gt a2 v3)) (A4 v3 1)else none else none else some (v2,true)
def Az1 (a0:List Int)(a1:Int)(a2:List Int):Option ((List Int)×Bool):=if(([]:List Int)++a0).length*1<=140737488355328/\(([]:List Int)++a0).length<=maxLen then(xk K a0 a1 (a2.length:Int)).bind fun r1=>bif !r1 then some ((([]:List Int)++a0),false)else jo K a1 a2 K (([]:List Int)++a0) 0 else none
def A9u:=fd Tryz.func389 ⟨[.v 24,.v 3,.v 24],[.n 24 true,.v 4],true⟩ (gC (A9t K) gN)
def Bkp:E7:=⟨[(1,.v 2),(2,.v 24),(8,.o 1008 5 true),(9,.v 2)],[]⟩
def Bkq:=lp (A9u K) 122 Bkp [] (fun n a b=>jo K a b n) (fun n=>kN)
def Bkr:=ct (A9u K) (Az1 K) (kC (Bkq K K) kN)
def Az2 (a0:List Int)(a1:H3)(a2:Int)(a3:List Int):Option ((List Int)×Bool):=(xj K a1 a2 (a3.length:Int)).bind fun r1=>bif !r1 then if(([]:List Int)++a0).length*1<=140737488355328/\(([]:List Int)++a0).length<=maxLen then some ((([]:List Int)++a0),false)else none else(Az1 K a0 (A4 a1.B a2) a3).bind fun r2=>some (r2.1,r2.2)
def Bks:=ct (fd Tryz.func380 ⟨[.v 24,.v 183,.v 3,.v 24],[.n 24 true,.v 4],true⟩ (gC (A9s K) (gC (Bkr K) gN))) (Az2 K)
def Az3 (a0:H4)(a1:Pd)(a2:Int)(a3:List Int):Option (H4×Sw):=(jd K a0).bind fun r1=>(nn K a0).bind fun r2=>bif !r2 then some (r1,(Sw.mk 1 (Lz.mk 0 0) (Pd.mk (Lz.mk 0 0) 0 0) [] 0 0 0))else(xi K a0 a1).bind fun r3=>(db K a0 a1.P).bind fun r4=>bif r3.2.2 != 0 then some (r1,(Sw.mk r3.2.2 (Lz.mk 0 0) (Pd.mk (Lz.mk 0 0) 0 0) [] r4 0 0))else(Az2 K a0.Q.g r3.2.1 a2 a3).bind fun r5=>bif !r5.2 then some (r1,(Sw.mk 7 (Lz.mk 0 0) (Pd.mk (Lz.mk 0 0) 0 0) [] r4 0 0))else some ((H4.mk r1.C (Pc.mk r5.1 r1.Q.c r1.Q.h) r1.o r1.p r1.q),(Sw.mk r3.2.2 (Lz.mk 0 0) (Pd.mk (Lz.mk 0 0) 0 0) [] r4 0 0))
def Bkt:=ct (fd Tryz.func359 ⟨[.v 38,.v 42,.v 3,.v 24],[.n 38 true,.n 44 true],false⟩ (gC (Azv K) (gC (wx K) (gC (mh K) (gC (A9r K) (gC (Bks K) gN))))) [] [] [(7,[.take 114 7 6831]),(11,[.take 114 7 6831]),(13,[.take 114 7 6831])]) (Az3 K)
def Az4 (K:Nat)(v7:Sw)(v10:H4):Option (H4×Sw):=some (v10,v7)
def xl (a2:Int)(r1:H4)(v6:Int)(v7 v8:Sw)(v9:H4):Option (H4×Sw):=bif v7.F==0 then if 0<=v6/\v6<r1.o.length then if 0<=v6/\v6<r1.o.length then if(((gt r1.o v6).j)++([a2]:List Int)).length*8<=140737488355328/\(((gt r1.o v6).j)++([a2]:List Int)).length<=maxLen then if 0<=v6/\v6<r1.o.length then Az4 K v7 (H4.mk r1.C r1.Q (r1.o.set v6.toNat (Fy.mk (gt r1.o v6).c (gt r1.o v6).a (gt r1.o v6).f (gt r1.o v6).s (gt r1.o v6).t (gt r1.o v6).i (gt r1.o v6).u (gt r1.o v6).v (gt r1.o v6).L (gt r1.o v6).w (gt r1.o v6).x (gt r1.o v6).y (((gt r1.o v6).j)++([a2]:List Int)))) r1.p r1.q)else none else none else none else none else Az4 K v7 r1
def Az5 (a0:H4)(a1:Lz)(a2:Int):Option (H4×Sw):=(jd K a0).bind fun r1=>(nn K a0).bind fun r2=>bif r2 then(V5 K a2 0 255).bind fun r3=>bif !r3 then some (r1,(Sw.mk 1 (Lz.mk 0 0) (Pd.mk (Lz.mk 0 0) 0 0) [] 0 0 0))else(fc K a0 a1).bind fun r4=>(db K a0 a1).bind fun r5=>bif r4.2==0 then if 0<=r4.1/\r4.1<a0.o.length then bif decide (((gt a0.o r4.1).j.length:Int)>=6)then xl K a2 r1 r4.1 (Sw.mk 8 (Lz.mk 0 0) (Pd.mk (Lz.mk 0 0) 0 0) [] r5 0 0) (Sw.mk 0 (Lz.mk 0 0) (Pd.mk (Lz.mk 0 0) 0 0) [] 0 0 0) (H4.mk (Sv.mk 0 0 0 0 0 0) (Pc.mk [] [] []) [] [] [])else xl K a2 r1 r4.1 (Sw.mk r4.2 (Lz.mk 0 0) (Pd.mk (Lz.mk 0 0) 0 0) [] r5 0 0) (Sw.mk 0 (Lz.mk 0 0) (Pd.mk (Lz.mk 0 0) 0 0) [] 0 0 0) (H4.mk (Sv.mk 0 0 0 0 0 0) (Pc.mk [] [] []) [] [] [])else none else xl K a2 r1 r4.1 (Sw.mk r4.2 (Lz.mk 0 0) (Pd.mk (Lz.mk 0 0) 0 0) [] r5 0 0) (Sw.mk 0 (Lz.mk 0 0) (Pd.mk (Lz.mk 0 0) 0 0) [] 0 0 0) (H4.mk (Sv.mk 0 0 0 0 0 0) (Pc.mk [] [] []) [] [] [])else some (r1,(Sw.mk 1 (Lz.mk 0 0) (Pd.mk (Lz.mk 0 0) 0 0) [] 0 0 0))
def A4o:=fd Tryz.func360 ⟨[.v 38,.v 40,.v 3],[.n 38 true,.n 44 true],false⟩ (gC (Azv K) (gC (wx K) (gC (X1 K) (gC (qm K) (gC (mh K) gN))))) [15,16,17,36,37] [63,127] [(9,[.take 108 9 6737,.opn 6737 (.tmp 9),.takeE 6737 12 87180]),(10,[.take 108 6 6734,.take 108 7 6735,.take 108 8 6736,.take 108 9 6737,.take 108 10 6738,.take 108 11 6739,.take 111 7 6783])]
def Bku:E7:=⟨[(6,.p 106),(7,.p 107),(8,.p 108),(11,.p 111)],[(111,.st 44 true),(108,.st 38 true),(107,.st 44 true),(106,.st 38 true)]⟩
def Bkv:E7:=⟨[(2,.v 2),(6,.p 106),(7,.p 107),(8,.p 108),(9,.v 2),(11,.p 111)],[(111,.st 44 true),(108,.st 38 true),(107,.st 44 true),(106,.st 38 true)]⟩
def Bkw:=jn (A4o K) 127 Bku [] (fun a b _ _=>Az4 K a b) kN
def Bkx:=jn (A4o K) 63 Bkv [] (fun a b c d=>xl K a d b c) (kC (Bkw K) kN)
def Bky:=ct (A4o K) (Az5 K) (kC (Bkx K) kN)
def A4p (a0:Sv)(a1:Fy):Option Int:=bif a1.w==0 then some 0 else(fj K a0 a1).bind fun r1=>bif !r1 then some 0 else some (Ap a0.k a1.x)
def Bkz:=ct (fd Tryz.func381 ⟨[.v 33,.v 77],[.v 3],true⟩ (gC (ri K) gN) [7,8]) (A4p K)
def Az6 (K:Nat)(r1:H4)(v6 v7:Sw)(v8:H4):Option (H4×Sw):=some (r1,v6)
def Az7 (a0:H4)(a1:Lz):Option (H4×Sw):=(jd K a0).bind fun r1=>(nn K a0).bind fun r2=>bif !r2 then some (r1,(Sw.mk 1 (Lz.mk 0 0) (Pd.mk (Lz.mk 0 0) 0 0) [] 0 0 0))else(fc K a0 a1).bind fun r3=>(db K a0 a1).bind fun r4=>bif r3.2==0 then if 0<=r3.1/\r3.1<a0.o.length then(A4p K a0.C (gt a0.o r3.1)).bind fun r5=>Az6 K r1 (Sw.mk r3.2 (Lz.mk 0 0) (Pd.mk (Lz.mk 0 0) 0 0) ([(IntKind.u8.wrap (((gt a0.o r3.1).L).length:Int)),(IntKind.u8.wrap (((gt a0.o r3.1).y).length:Int)),(IntKind.u8.wrap (((gt a0.o r3.1).j).length:Int)),(IntKind.u8.wrap r5)]:List Int) r4 0 0) (Sw.mk 0 (Lz.mk 0 0) (Pd.mk (Lz.mk 0 0) 0 0) [] 0 0 0) (H4.mk (Sv.mk 0 0 0 0 0 0) (Pc.mk [] [] []) [] [] [])else none else Az6 K r1 (Sw.mk r3.2 (Lz.mk 0 0) (Pd.mk (Lz.mk 0 0) 0 0) [] r4 0 0) (Sw.mk 0 (Lz.mk 0 0) (Pd.mk (Lz.mk 0 0) 0 0) [] 0 0 0) (H4.mk (Sv.mk 0 0 0 0 0 0) (Pc.mk [] [] []) [] [] [])
def A9v:=fd Tryz.func361 ⟨[.v 38,.v 40],[.n 38 true,.n 44 true],false⟩ (gC (Azv K) (gC (wx K) (gC (qm K) (gC (mh K) (gC (Bkz K) gN))))) [] [63] [(9,[.take 106 6 6702,.take 106 7 6703,.take 106 8 6704,.take 106 9 6705,.take 106 10 6706,.take 106 11 6707,.take 109 7 6751])]
def Bk0:E7:=⟨[(4,.p 104),(5,.p 105),(6,.p 106),(9,.p 109)],[(109,.st 44 true),(106,.st 38 true),(105,.st 44 true),(104,.st 38 true)]⟩
def Bk1:=jn (A9v K) 63 Bk0 [] (fun a b=>Az6 K b a) kN
def Bk2:=ct (A9v K) (Az7 K) (kC (Bk1 K) kN)
def Az8 (a0:H4)(a1:H5):Option (H4×Sw):=bif a1.I==3 then(Az0 K a0 a1.b a1.J a1.K).bind fun r1=>some (r1.1,r1.2)else bif a1.I==4 then(Az3 K a0 a1.b a1.J a1.A).bind fun r2=>some (r2.1,r2.2)else bif a1.I==5 then(Az5 K a0 a1.P a1.J).bind fun r3=>some (r3.1,r3.2)else bif a1.I==8 then(Az7 K a0 a1.P).bind fun r4=>some (r4.1,r4.2)else(jd K a0).bind fun r5=>some (r5,(Sw.mk 1 (Lz.mk 0 0) (Pd.mk (Lz.mk 0 0) 0 0) [] 0 0 0))
def Bk3:=ct (fd Tryz.func311 ⟨[.v 38,.v 55],[.n 38 true,.n 44 true],false⟩ (gC (wx K) (gC (Bko K) (gC (Bkt K) (gC (Bky K) (gC (Bk2 K) gN)))))) (Az8 K)
def A4q (K:Nat)(v31 v32:Int)(v33 v34:Int)(v35 v36:Int)(v37 v38 v39:List Int)(v40:List Fy)(v41:List G9)(v42:List Int)(v43:Sw):Option (Sw×H4):=some (v43,(H4.mk (Sv.mk v31 v32 v33 v34 v35 v36) (Pc.mk v37 v38 v39) v40 v41 v42))
def xm (v4:Bool)(v5 v6:Int)(v7 v8:Int)(v9 v10:Int)(v11 v12 v13:List Int)(v14:List Fy)(v15:List G9)(v16:List Int)(v17:Sw)(v18 v19:Int)(v20 v21:Int)(v22 v23:Int)(v24 v25 v26:Int)(v27:List Int):Option (Sw×H4):=bif v4 then(fc K (H4.mk (Sv.mk v5 v6 v7 v8 v9 v10) (Pc.mk v11 v12 v13) v14 v15 v16) (Lz.mk v19 v20)).bind fun r28=>(db K (H4.mk (Sv.mk v5 v6 v7 v8 v9 v10) (Pc.mk v11 v12 v13) v14 v15 v16) (Lz.mk v19 v20)).bind fun r29=>bif r28.2 != 0 then some ((Sw.mk r28.2 (Lz.mk 0 0) (Pd.mk (Lz.mk 0 0) 0 0) [] r29 0 0),(H4.mk (Sv.mk v5 v6 v7 v8 v9 v10) (Pc.mk v11 v12 v13) v14 v15 v16))else bif v18==6 then(Ay4 K (H4.mk (Sv.mk v5 v6 v7 v8 v9 v10) (Pc.mk v11 v12 v13) v14 v15 v16) r28.1).bind fun r30=>A4q K r30.C.L r30.C.k r30.C.l r30.C.e r30.C.m r30.C.n r30.Q.g r30.Q.c r30.Q.h r30.o r30.p r30.q (Sw.mk r28.2 (Lz.mk 0 0) (Pd.mk (Lz.mk 0 0) 0 0) [] r29 0 0)else(Ay7 K (H4.mk (Sv.mk v5 v6 v7 v8 v9 v10) (Pc.mk v11 v12 v13) v14 v15 v16) r28.1).bind fun r44=>A4q K r44.C.L r44.C.k r44.C.l r44.C.e r44.C.m r44.C.n r44.Q.g r44.Q.c r44.Q.h r44.o r44.p r44.q (Sw.mk r28.2 (Lz.mk 0 0) (Pd.mk (Lz.mk 0 0) 0 0) [] r29 0 0)else(Az8 K (H4.mk (Sv.mk v5 v6 v7 v8 v9 v10) (Pc.mk v11 v12 v13) v14 v15 v16) (H5.mk v18 (Lz.mk v19 v20) (Pd.mk (Lz.mk v21 v22) v23 v24) v25 v26 v27)).bind fun r45=>some (r45.2,r45.1)
def Az9 (a0:H4)(a1:H5):Option (Sw×H4):=bif a1.I==1 then(Ayv K a0 a1.P).bind fun r1=>some (r1.1,r1.2)else bif a1.I==2 then(Ay2 K a0 a1.P a1.J a1.K).bind fun r2=>some (r2.1,r2.2)else bif a1.I==9 then(wl K a0 4000).bind fun r3=>some ((Sw.mk 0 (Lz.mk 0 0) (Pd.mk (Lz.mk 0 0) 0 0) [] 0 0 r3.1),r3.2)else bif a1.I==6 then xm K (a1.I==6) a0.C.L a0.C.k a0.C.l a0.C.e a0.C.m a0.C.n a0.Q.g a0.Q.c a0.Q.h a0.o a0.p a0.q (Sw.mk 0 (Lz.mk 0 0) (Pd.mk (Lz.mk 0 0) 0 0) [] 0 0 0) a1.I a1.P.d a1.P.a a1.b.P.d a1.b.P.a a1.b.f a1.b.r a1.J a1.K a1.A else xm K (a1.I==7) a0.C.L a0.C.k a0.C.l a0.C.e a0.C.m a0.C.n a0.Q.g a0.Q.c a0.Q.h a0.o a0.p a0.q (Sw.mk 0 (Lz.mk 0 0) (Pd.mk (Lz.mk 0 0) 0 0) [] 0 0 0) a1.I a1.P.d a1.P.a a1.b.P.d a1.b.P.a a1.b.f a1.b.r a1.J a1.K a1.A
def A4r:=fd Tryz.func253 ⟨[.b 38 false,.v 55],[.v 44],false⟩ (gC (A4g K) (gC (Bh4 K) (gC (Bih K) (gC (qm K) (gC (mh K) (gC (Bij K) (gC (Biq K) (gC (Bk3 K) gN)))))))) [] [1727,55287] [(10,[.take 1 6 5022,.take 1 7 5023,.take 1 8 5024,.take 1 9 5025,.take 1 10 5026,.take 1 11 5027]),(13,[.take 107 7 6719]),(15,[.put 1]),(16,[.put 1]),(17,[.take 107 7 6719]),(18,[.take 1 6 5022,.take 1 7 5023,.take 1 8 5024,.take 1 9 5025,.take 1 10 5026,.take 1 11 5027,.frz 5022,.frz 5023,.frz 5024,.frz 5025,.frz 5026,.frz 5027])]
def Bk4:E7:=⟨[(4,.p 104),(7,.p 107)],[(1,.box Zu),(107,.st 44 true),(104,.st 44 true)]⟩
def Bk5:E7:=⟨[(0,.p 1),(3,.p 103),(4,.p 104),(33,.v 4)],[(1,.box Zu),(104,.st 44 true),(103,.box [.v 2,.v 2,.v 2,.v 2,.v 2,.v 2,.v 2,.v 2,.v 2,.v 24])]⟩
def Bk6:=jn (A4r K) 55287 Bk4 [] (fun a b c d e f g h i j k l m _=>A4q K a b c d e f g h i j k l m) kN
def Bk7:=jn (A4r K) 1727 Bk5 [] (xm K) (kC (Bk6 K) kN)
def Bk8:=ct (A4r K) (Az9 K) (kC (Bk7 K) kN)
def xn:Nat->(List H5)->Int->(List Int)->Int->Int->H4->Sv->H4->Sv->Option (Sv×(List H5)×H4×Sx)
 |0,_,_,_,_,_,_,_,_,_=>none
 |n1+1,v4,v5,v6,v7,v8,v9,v10,v11,v12=>bif decide (v5>0)then bif decide ((v4.length:Int)<200)then(vh K (Sx.mk v6 v7 v8) v9).bind fun r13=>if r13.2.2.1.length=v9.Q.g.length/\r13.2.2.2.1.length=v9.Q.c.length/\r13.2.2.2.2.1.length=v9.Q.h.length/\r13.2.2.2.2.2.1.length=v9.o.length/\r13.2.2.2.2.2.2.1.length=v9.p.length/\r13.2.2.2.2.2.2.2.length=v9.q.length then if(v4++([r13.1]:List H5)).length*96<=140737488355328/\(v4++([r13.1]:List H5)).length<=maxLen then(Az9 K (H4.mk v9.C (Pc.mk r13.2.2.1 r13.2.2.2.1 r13.2.2.2.2.1) r13.2.2.2.2.2.1 r13.2.2.2.2.2.2.1 r13.2.2.2.2.2.2.2) r13.1).bind fun r14=>xn n1 (v4++([r13.1]:List H5)) (Ap v5 1) r13.2.1.fb r13.2.1.fi r13.2.1.fh r14.2 v10 v11 v12 else none else none else some (v10,v4,v9,(Sx.mk v6 v7 v8))else some (v10,v4,v9,(Sx.mk v6 v7 v8))
def A0a (a0:Sx)(a1:Int):Option (Sv×(List H5)×H4×Sx):=(ul K a0).bind fun r1=>(Ak6 K r1.1).bind fun r2=>(Pz K r1.2 a1).bind fun r3=>xn K K ([]:List H5) (A4 4 r3.1) r3.2.fb r3.2.fi r3.2.fh r2 r1.1 (H4.mk (Sv.mk 0 0 0 0 0 0) (Pc.mk [] [] []) [] [] []) (Sv.mk 0 0 0 0 0 0)
def A9w:=fd Tryz.func157 ⟨[.b 171 false,.v 3],[.v 33,.n 81 false,.n 38 false],false⟩ (gC (Bfl K) (gC (A8j K) (gC (Y2 K) (gC (A8a K) (gC (Bk8 K) gN))))) [22,23] [] [(4,[.put 108,.take 108 10 6738,.shal 6738,.put 108,.shal 1009]),(7,[.take 108 6 6734,.take 108 7 6735,.take 108 8 6736,.take 108 9 6737,.take 108 10 6738,.take 108 11 6739]),(9,[.put 108]),(10,[.take 108 6 6734,.take 108 7 6735,.take 108 8 6736,.take 108 9 6737,.take 108 10 6738,.take 108 11 6739])] [(32,[.frz 3032])]
def Bk9:E7:=⟨[(0,.p 1),(4,.p 104),(6,.p 106),(7,.p 107),(8,.p 108),(9,.o 1009 55 false),(10,.v 2)],[(1,.box X0),(108,.st 38 false),(107,.st 33 true),(106,.st 38 true),(104,.st 33 true)]⟩
def Bla:=lp (A9w K) 250 Bk9 [] (xn K) (fun n=>kN)
def Blb:=ct (A9w K) (A0a K) (kC (Bla K K) kN)
def xp (a0:Sx)(a1:Int):Option (H4×Sx):=(A0a K a0 a1).bind fun r1=>some (r1.2.2.1,r1.2.2.2)
def A9x:=ct (fd Tryz.func112 ⟨[.b 171 false,.v 3],[.n 38 false],false⟩ (gC (Blb K) gN)) (xp K)
def A0b (a0:List Int):Option (H4×H5):=(uj K a0).bind fun r1=>(uk K a0 50).bind fun r2=>(xp K r1 (A4 20 r2)).bind fun r3=>(vh K r3.2 r3.1).bind fun r4=>if r4.2.2.1.length=r3.1.Q.g.length/\r4.2.2.2.1.length=r3.1.Q.c.length/\r4.2.2.2.2.1.length=r3.1.Q.h.length/\r4.2.2.2.2.2.1.length=r3.1.o.length/\r4.2.2.2.2.2.2.1.length=r3.1.p.length/\r4.2.2.2.2.2.2.2.length=r3.1.q.length then some ((H4.mk r3.1.C (Pc.mk r4.2.2.1 r4.2.2.2.1 r4.2.2.2.2.1) r4.2.2.2.2.2.1 r4.2.2.2.2.2.2.1 r4.2.2.2.2.2.2.2),r4.1)else none
def Blc:=ct (fd Tryz.func23 ⟨[.v 24],[.n 38 false,.n 55 true],false⟩ (gC (A77 K) (gC (A9x K) (gC (Bfb K) (gC (A8j K) gN))))) (A0b K)
def fx (K:Nat)(v4:List Int)(v5 v6:Int)(v7 v8:Sv):Option (Sv×Sx):=some (v7,(Sx.mk v4 v5 v6))
def A0c (a0:Sx):Option (Sv×Sx):=(ul K a0).bind fun r1=>(Pz K r1.2 14).bind fun r2=>bif r2.1==0 then(W9 K r2.2 ([1,2,12,13]:List Int)).bind fun r3=>if r3.2.2.length=([1,2,12,13]:List Int).length then fx K r3.2.1.fb r3.2.1.fi r3.2.1.fh (Sv.mk r3.1 r1.1.k r1.1.l r1.1.e r1.1.m r1.1.n) (Sv.mk 0 0 0 0 0 0)else none else bif r2.1==1 then(W9 K r2.2 ([7,8,16,17]:List Int)).bind fun r9=>if r9.2.2.length=([7,8,16,17]:List Int).length then fx K r9.2.1.fb r9.2.1.fi r9.2.1.fh (Sv.mk r1.1.L r9.1 r1.1.l r1.1.e r1.1.m r1.1.n) (Sv.mk 0 0 0 0 0 0)else none else bif r2.1==2 then(W9 K r2.2 ([1,8,9]:List Int)).bind fun r10=>if r10.2.2.length=([1,8,9]:List Int).length then fx K r10.2.1.fb r10.2.1.fi r10.2.1.fh (Sv.mk r1.1.L r1.1.k r10.1 r1.1.e r1.1.m r1.1.n) (Sv.mk 0 0 0 0 0 0)else none else bif r2.1==3 then(W9 K r2.2 ([0,8,9]:List Int)).bind fun r11=>if r11.2.2.length=([0,8,9]:List Int).length then fx K r11.2.1.fb r11.2.1.fi r11.2.1.fh (Sv.mk r1.1.L r1.1.k r1.1.l r11.1 r1.1.m r1.1.n) (Sv.mk 0 0 0 0 0 0)else none else bif r2.1==4 then(W9 K r2.2 ([0,17]:List Int)).bind fun r12=>if r12.2.2.length=([0,17]:List Int).length then fx K r12.2.1.fb r12.2.1.fi r12.2.1.fh (Sv.mk r1.1.L r1.1.k r1.1.l r1.1.e r12.1 r1.1.n) (Sv.mk 0 0 0 0 0 0)else none else bif r2.1==5 then(W9 K r2.2 ([0,5]:List Int)).bind fun r13=>if r13.2.2.length=([0,5]:List Int).length then fx K r13.2.1.fb r13.2.1.fi r13.2.1.fh (Sv.mk r1.1.L r1.1.k r1.1.l r1.1.e r1.1.m r13.1) (Sv.mk 0 0 0 0 0 0)else none else fx K r2.2.fb r2.2.fi r2.2.fh r1.1 (Sv.mk 0 0 0 0 0 0)
def A9y:=fd Tryz.func127 ⟨[.b 171 false],[.v 33],false⟩ (gC (Y2 K) (gC (il K) (gC (A8a K) gN))) [] [7]
def Bld:E7:=⟨[(2,.p 102),(3,.p 103)],[(1,.box X0),(103,.st 33 true),(102,.st 33 true)]⟩
def Ble:=jn (A9y K) 7 Bld [] (fx K) kN
def Blf:=ct (A9y K) (A0c K) (kC (Ble K) kN)
def xq (a1:Sv)(v4:List Int)(v5 v6:Int)(v7:H3):Option (H3×Sx):=(Pz K (Sx.mk v4 v5 v6) a1.L).bind fun r8=>(Pz K r8.2 a1.k).bind fun r9=>(Pz K r9.2 (Ap a1.k r9.1)).bind fun r10=>some ((H3.mk (A4 (F2 r8.1 a1.k) r9.1) (A4 1 r10.1) 0),r10.2)
def A0d (a0:Sx)(a1:Sv):Option (H3×Sx):=(bj K a0 4).bind fun r1=>bif r1.1 then bif decide (a1.L>2)then(Pz K r1.2 (Ap a1.L 1)).bind fun r2=>(Pz K r2.2 a1.k).bind fun r3=>some ((H3.mk (F2 a1.k r2.1) (A4 (A4 a1.k 1) r3.1) 2),r3.2)else xq K a1 r1.2.fb r1.2.fi r1.2.fh (H3.mk 0 0 0)else xq K a1 r1.2.fb r1.2.fi r1.2.fh (H3.mk 0 0 0)
def A9z:=fd Tryz.func340 ⟨[.b 171 false,.v 33],[.v 183],false⟩ (gC (Y2 K) (gC (uv K) gN)) [8,9] [3]
def Blg:E7:=⟨[(0,.p 1),(3,.p 103),(4,.p 104)],[(1,.box X0),(104,.st 183 true),(103,.st 33 true)]⟩
def Blh:=jn (A9z K) 3 Blg [] (fun a b c d e=>xq K e a b c d) kN
def Bli:=ct (A9z K) (A0d K) (kC (Blh K) kN)
def xr:Nat->Int->(List Int)->Int->Int->Fy->Option (Fy×Sx)
 |0,_,_,_,_,_=>none
 |n4+1,v25,v26,v27,v28,v29=>bif decide (v25>0)then(Pz K (Sx.mk v26 v27 v28) 256).bind fun r30=>if(v29.j++([r30.1]:List Int)).length*8<=140737488355328/\(v29.j++([r30.1]:List Int)).length<=maxLen then xr n4 (Ap v25 1) r30.2.fb r30.2.fi r30.2.fh (Fy.mk v29.c v29.a v29.f v29.s v29.t v29.i v29.u v29.v v29.L v29.w v29.x v29.y (v29.j++([r30.1]:List Int)))else none else some (v29,(Sx.mk v26 v27 v28))
def xt (a1:Sv):Nat->Int->(List Int)->Int->Int->Fy->Option (Fy×Sx)
 |0,_,_,_,_,_=>none
 |n3+1,v18,v19,v20,v21,v22=>bif decide (v18>0)then(A0d K (Sx.mk v19 v20 v21) a1).bind fun r23=>if(v22.y++([r23.1]:List H3)).length*24<=140737488355328/\(v22.y++([r23.1]:List H3)).length<=maxLen then xt a1 n3 (Ap v18 1) r23.2.fb r23.2.fi r23.2.fh (Fy.mk v22.c v22.a v22.f v22.s v22.t v22.i v22.u v22.v v22.L v22.w v22.x (v22.y++([r23.1]:List H3)) v22.j)else none else(Pz K (Sx.mk v19 v20 v21) 3).bind fun r24=>xr K K r24.1 r24.2.fb r24.2.fi r24.2.fh v22
def xu (a1:Sv)(v13:List Int)(v14 v15:Int)(v16:Fy):Option (Fy×Sx):=(Pz K (Sx.mk v13 v14 v15) 3).bind fun r17=>xt K a1 K r17.1 r17.2.fb r17.2.fi r17.2.fh v16
def xv (a1:Sv):Nat->Int->(List Int)->Int->Int->Fy->Fy->Option (Fy×Sx)
 |0,_,_,_,_,_,_=>none
 |n1+1,v6,v7,v8,v9,v10,v11=>bif decide (v6>0)then if(v10.L++([(Ap v6 1)]:List Int)).length*8<=140737488355328/\(v10.L++([(Ap v6 1)]:List Int)).length<=maxLen then xv a1 n1 (Ap v6 1) v7 v8 v9 (Fy.mk v10.c v10.a v10.f v10.s v10.t v10.i v10.u v10.v (v10.L++([(Ap v6 1)]:List Int)) v10.w v10.x v10.y v10.j) v11 else none else bif decide ((v10.L.length:Int)>0)then if(0:Int)<=0/\0<(v10.L.length:Int)then(Pz K (Sx.mk v7 v8 v9) (A4 a1.k 1)).bind fun r12=>xu K a1 r12.2.fb r12.2.fi r12.2.fh (Fy.mk v10.c v10.a v10.f v10.s v10.t v10.i v10.u v10.v v10.L (A4 (gt v10.L 0) 1) r12.1 v10.y v10.j)else none else xu K a1 v7 v8 v9 v10
def A0e (a0:Sx)(a1:Sv):Option (Fy×Sx):=(Pz K a0 a1.n).bind fun r1=>(bi K (A4 1 r1.1)).bind fun r2=>(Pz K r1.2 4).bind fun r3=>bif r3.1 != 1 then some ((Fy.mk r3.1 r2.a r2.f r2.s r2.t r2.i r2.u r2.v r2.L r2.w r2.x r2.y r2.j),r3.2)else(Pz K r3.2 3).bind fun r4=>(Pz K r4.2 3).bind fun r5=>xv K a1 K r5.1 r5.2.fb r5.2.fi r5.2.fh (Fy.mk r3.1 r2.a r4.1 r2.s r2.t r2.i r2.u r2.v r2.L r2.w r2.x r2.y r2.j) (Fy.mk 0 0 0 0 0 0 0 0 [] 0 0 [] [])
def xw:=fd Tryz.func299 ⟨[.b 171 false,.v 33],[.n 77 false],false⟩ (gC (Y2 K) (gC (uo K) (gC (Bli K) gN))) [] [127] [(9,[.take 105 8 6688]),(10,[.take 105 8 6688]),(17,[.take 105 11 6691]),(21,[.take 105 12 6692]),(22,[.take 105 8 6688,.take 105 11 6691,.take 105 12 6692])]
def Blj:E7:=⟨[(0,.p 1),(4,.p 104),(5,.p 105),(9,.v 2)],[(1,.box X0),(105,.st 77 false),(104,.st 77 false)]⟩
def A90:E7:=⟨[(0,.p 1),(3,.p 103),(4,.p 104),(5,.p 105),(7,.v 2)],[(1,.box X0),(105,.st 77 false),(104,.st 77 false),(103,.st 33 true)]⟩
def Bll:E7:=⟨[(0,.p 1),(3,.p 103),(4,.p 104),(5,.p 105)],[(1,.box X0),(105,.st 77 false),(104,.st 77 false),(103,.st 33 true)]⟩
def Blm:E7:=⟨[(0,.p 1),(3,.p 103),(4,.p 104),(5,.p 105),(6,.v 2)],[(1,.box X0),(105,.st 77 false),(104,.st 77 false),(103,.st 33 true)]⟩
def Bln:=lp (xw K) 4090 Blj [] (fun n a b c d e _=>xr K n a b c d e) (fun n=>kN)
def Blo:=lp (xw K) 2042 A90 [] (fun n a b c d e _ g=>xt K g n a b c d e) (fun n=>kC (up (Bln K K)) kN)
def Blp:=jn (xw K) 127 Bll [] (fun a b c d _ f=>xu K f a b c d) (kC (Blo K K) kN)
def Blq:=lp (xw K) 506 Blm [] (fun n a b c d e f g=>xv K g n a b c d e f) (fun n=>kC (up (Blp K)) kN)
def Blr:=ct (xw K) (A0e K) (kC (Blq K K) kN)
def bp (K:Nat)(v4:List Int)(v5 v6:Int)(v7 v8:Fy):Option (Fy×Sx):=some (v7,(Sx.mk v4 v5 v6))
def A0f (a0:Sx)(a1:Sv):Option (Fy×Sx):=(A0e K a0 a1).bind fun r1=>(Pz K r1.2 14).bind fun r2=>bif r2.1==0 then(Pz K r2.2 6).bind fun r3=>bp K r3.2.fb r3.2.fi r3.2.fh (Fy.mk (Ap r3.1 1) r1.1.a r1.1.f r1.1.s r1.1.t r1.1.i r1.1.u r1.1.v r1.1.L r1.1.w r1.1.x r1.1.y r1.1.j) (Fy.mk 0 0 0 0 0 0 0 0 [] 0 0 [] [])else bif r2.1==1 then(W9 K r2.2 ([0,4,5]:List Int)).bind fun r9=>if r9.2.2.length=([0,4,5]:List Int).length then bp K r9.2.1.fb r9.2.1.fi r9.2.1.fh (Fy.mk r1.1.c r9.1 r1.1.f r1.1.s r1.1.t r1.1.i r1.1.u r1.1.v r1.1.L r1.1.w r1.1.x r1.1.y r1.1.j) (Fy.mk 0 0 0 0 0 0 0 0 [] 0 0 [] [])else none else bif r2.1==2 then(W9 K r2.2 ([(-1),1,8,9]:List Int)).bind fun r10=>if r10.2.2.length=([(-1),1,8,9]:List Int).length then bp K r10.2.1.fb r10.2.1.fi r10.2.1.fh (Fy.mk r1.1.c r1.1.a r1.1.f r10.1 r1.1.t r1.1.i r1.1.u r1.1.v r1.1.L r1.1.w r1.1.x r1.1.y r1.1.j) (Fy.mk 0 0 0 0 0 0 0 0 [] 0 0 [] [])else none else bif r2.1==3 then(W9 K r2.2 ([0,12,(-1)]:List Int)).bind fun r11=>if r11.2.2.length=([0,12,(-1)]:List Int).length then if(r1.1.L++([r11.1]:List Int)).length*8<=140737488355328/\(r1.1.L++([r11.1]:List Int)).length<=maxLen then bp K r11.2.1.fb r11.2.1.fi r11.2.1.fh (Fy.mk r1.1.c r1.1.a r1.1.f r1.1.s r1.1.t r1.1.i r1.1.u r1.1.v (r1.1.L++([r11.1]:List Int)) r1.1.w r1.1.x r1.1.y r1.1.j) (Fy.mk 0 0 0 0 0 0 0 0 [] 0 0 [] [])else none else none else bif r2.1==4 then(Pz K r2.2 4).bind fun r12=>bp K r12.2.fb r12.2.fi r12.2.fh (Fy.mk r1.1.c r1.1.a r1.1.f r1.1.s r1.1.t r1.1.i r1.1.u r1.1.v r1.1.L r12.1 r1.1.x r1.1.y r1.1.j) (Fy.mk 0 0 0 0 0 0 0 0 [] 0 0 [] [])else bif r2.1==5 then(W9 K r2.2 ([0,8,17,(-1)]:List Int)).bind fun r13=>if r13.2.2.length=([0,8,17,(-1)]:List Int).length then bp K r13.2.1.fb r13.2.1.fi r13.2.1.fh (Fy.mk r1.1.c r1.1.a r1.1.f r1.1.s r1.1.t r1.1.i r1.1.u r1.1.v r1.1.L r1.1.w r13.1 r1.1.y r1.1.j) (Fy.mk 0 0 0 0 0 0 0 0 [] 0 0 [] [])else none else bif r2.1==6 then(W9 K r2.2 ([255,256,(-1)]:List Int)).bind fun r14=>if r14.2.2.length=([255,256,(-1)]:List Int).length then if(r1.1.j++([r14.1]:List Int)).length*8<=140737488355328/\(r1.1.j++([r14.1]:List Int)).length<=maxLen then bp K r14.2.1.fb r14.2.1.fi r14.2.1.fh (Fy.mk r1.1.c r1.1.a r1.1.f r1.1.s r1.1.t r1.1.i r1.1.u r1.1.v r1.1.L r1.1.w r1.1.x r1.1.y (r1.1.j++([r14.1]:List Int))) (Fy.mk 0 0 0 0 0 0 0 0 [] 0 0 [] [])else none else none else bif r2.1==7 then(Pz K r2.2 100).bind fun r15=>(Pz K r15.2 20).bind fun r16=>(Pz K r16.2 3).bind fun r17=>if(r1.1.y++([(H3.mk r15.1 r16.1 r17.1)]:List H3)).length*24<=140737488355328/\(r1.1.y++([(H3.mk r15.1 r16.1 r17.1)]:List H3)).length<=maxLen then bp K r17.2.fb r17.2.fi r17.2.fh (Fy.mk r1.1.c r1.1.a r1.1.f r1.1.s r1.1.t r1.1.i r1.1.u r1.1.v r1.1.L r1.1.w r1.1.x (r1.1.y++([(H3.mk r15.1 r16.1 r17.1)]:List H3)) r1.1.j) (Fy.mk 0 0 0 0 0 0 0 0 [] 0 0 [] [])else none else bp K r2.2.fb r2.2.fi r2.2.fh r1.1 (Fy.mk 0 0 0 0 0 0 0 0 [] 0 0 [] [])
def A91:=fd Tryz.func230 ⟨[.b 171 false,.v 33],[.n 77 false],false⟩ (gC (Y2 K) (gC (il K) (gC (Blr K) gN))) [] [7] [(19,[.take 105 8 6688,.take 105 11 6691,.take 105 12 6692])]
def Bls:E7:=⟨[(4,.p 104),(5,.p 105)],[(1,.box X0),(105,.st 77 false),(104,.st 77 false)]⟩
def Blt:=jn (A91 K) 7 Bls [] (bp K) kN
def Blu:=ct (A91 K) (A0f K) (kC (Blt K) kN)
def xx:Nat->Int->(List Int)->Int->Int->Fy->Option (Fy×Sx)
 |0,_,_,_,_,_=>none
 |n3+1,v23,v24,v25,v26,v27=>bif decide (v23>0)then(Pz K (Sx.mk v24 v25 v26) 256).bind fun r28=>if(v27.j++([r28.1]:List Int)).length*8<=140737488355328/\(v27.j++([r28.1]:List Int)).length<=maxLen then xx n3 (Ap v23 1) r28.2.fb r28.2.fi r28.2.fh (Fy.mk v27.c v27.a v27.f v27.s v27.t v27.i v27.u v27.v v27.L v27.w v27.x v27.y (v27.j++([r28.1]:List Int)))else none else some (v27,(Sx.mk v24 v25 v26))
def xy (v18:List Int)(v19 v20:Int)(v21:Fy):Option (Fy×Sx):=(Pz K (Sx.mk v18 v19 v20) 3).bind fun r22=>xx K K r22.1 r22.2.fb r22.2.fi r22.2.fh v21
def xz (a1:Sv):Nat->Int->(List Int)->Int->Int->Fy->Fy->Option (Fy×Sx)
 |0,_,_,_,_,_,_=>none
 |n1+1,v7,v8,v9,v10,v11,v12=>bif decide (v7>0)then(Pz K (Sx.mk v8 v9 v10) 5).bind fun r13=>(W9 K r13.2 ([1,2,4]:List Int)).bind fun r14=>if r14.2.2.length=([1,2,4]:List Int).length then(wq K a1 v11 (A4 1 r13.1) r14.1).bind fun r15=>xz a1 n1 (Ap v7 1) r14.2.1.fb r14.2.1.fi r14.2.1.fh r15.1 v12 else none else(bj K (Sx.mk v8 v9 v10) 3).bind fun r16=>bif r16.1 then(mw K a1 v11 2 (A4 a1.k 1)).bind fun r17=>xy K r16.2.fb r16.2.fi r16.2.fh r17.1 else xy K r16.2.fb r16.2.fi r16.2.fh v11
def A0g (a0:Sx)(a1:Sv):Option (Fy×Sx):=(Pz K a0 a1.n).bind fun r1=>(bi K (A4 1 r1.1)).bind fun r2=>(Pz K r1.2 2).bind fun r3=>(Pz K r3.2 2).bind fun r4=>(rj K a1 (Fy.mk 1 r2.a r3.1 r2.s r2.t r2.i r2.u r2.v r2.L r2.w r2.x r2.y r2.j) r4.1).bind fun r5=>(Pz K r4.2 4).bind fun r6=>xz K a1 K r6.1 r6.2.fb r6.2.fi r6.2.fh r5.1 (Fy.mk 0 0 0 0 0 0 0 0 [] 0 0 [] [])
def A0h:=fd Tryz.func341 ⟨[.b 171 false,.v 33],[.n 77 false],false⟩ (gC (Y2 K) (gC (il K) (gC (uv K) (gC (uo K) (gC (A4f K) (gC (A9j K) (gC (A9h K) gN))))))) [] [255] [(9,[.take 105 8 6688,.take 105 11 6691,.take 105 12 6692]),(11,[.take 105 8 6688,.take 105 11 6691,.take 105 12 6692]),(15,[.take 105 12 6692]),(16,[.take 105 8 6688,.take 105 11 6691,.take 105 12 6692])]
def Blv:E7:=⟨[(0,.p 1),(4,.p 104),(5,.p 105),(8,.v 2)],[(1,.box X0),(105,.st 77 false),(104,.st 77 false)]⟩
def Blw:E7:=⟨[(0,.p 1),(4,.p 104),(5,.p 105)],[(1,.box X0),(105,.st 77 false),(104,.st 77 false)]⟩
def Blx:=lp (A0h K) 4090 Blv [] (fun n a b c d e _=>xx K n a b c d e) (fun n=>kN)
def Bly:=jn (A0h K) 255 Blw [] (fun a b c d _=>xy K a b c d) (kC (Blx K K) kN)
def Blz:=lp (A0h K) 1018 A90 [] (fun n a b c d e f g=>xz K g n a b c d e f) (fun n=>kC (up (Bly K)) kN)
def Bl0:=ct (A0h K) (A0g K) (kC (Blz K K) kN)
def A0i (K:Nat)(v12:List Int)(v13 v14:Int)(v15:G9):Option (G9×Sx):=some (v15,(Sx.mk v12 v13 v14))
def ya (v6:List Int)(v7 v8:Int)(v9 v10:G9):Option (G9×Sx):=(bj K (Sx.mk v6 v7 v8) 4).bind fun r11=>bif r11.1 then A0i K r11.2.fb r11.2.fi r11.2.fh (G9.mk v9.d v9.i ([]:List Int) ([]:List Int) 0)else A0i K r11.2.fb r11.2.fi r11.2.fh v9
def A0j (a0:Sx)(a1:Sv):Option (G9×Sx):=(A0g K a0 a1).bind fun r1=>(Pz K r1.2 (A4 a1.l 1)).bind fun r2=>(rd K r1.1 r2.1).bind fun r3=>(Pz K r2.2 3).bind fun r4=>bif decide ((r3.L.length:Int)>0)then(Pz K r4.2 a1.k).bind fun r5=>ya K r5.2.fb r5.2.fi r5.2.fh (G9.mk r3.d r4.1 r3.j r3.L r5.1) (G9.mk 0 0 [] [] 0)else ya K r4.2.fb r4.2.fi r4.2.fh (G9.mk r3.d r4.1 r3.j r3.L r3.z) (G9.mk 0 0 [] [] 0)
def A4s:=fd Tryz.func300 ⟨[.b 171 false,.v 33],[.n 79 true],false⟩ (gC (Y2 K) (gC (uv K) (gC (A36 K) (gC (Bl0 K) gN)))) [] [15,31] [(9,[.take 105 2 6682,.take 105 3 6683])]
def A92:E7:=⟨[(4,.p 104),(5,.p 105)],[(1,.box X0),(105,.st 79 true),(104,.st 79 true)]⟩
def Bl1:E7:=⟨[(0,.p 1),(4,.p 104),(5,.p 105)],[(1,.box X0),(105,.st 79 true),(104,.st 79 true)]⟩
def Bl2:=jn (A4s K) 31 A92 [] (fun a b c d _=>A0i K a b c d) kN
def Bl3:=jn (A4s K) 15 Bl1 [] (ya K) (kC (Bl2 K) kN)
def Bl4:=ct (A4s K) (A0j K) (kC (Bl3 K) kN)
def jp (K:Nat)(v4:List Int)(v5 v6:Int)(v7 v8:G9):Option (G9×Sx):=some (v7,(Sx.mk v4 v5 v6))
def A0k (a0:Sx)(a1:Sv):Option (G9×Sx):=(A0j K a0 a1).bind fun r1=>(Pz K r1.2 10).bind fun r2=>bif r2.1==0 then(W9 K r2.2 ([(-1),0,8,9]:List Int)).bind fun r3=>if r3.2.2.length=([(-1),0,8,9]:List Int).length then jp K r3.2.1.fb r3.2.1.fi r3.2.1.fh (G9.mk r3.1 r1.1.i r1.1.j r1.1.L r1.1.z) (G9.mk 0 0 [] [] 0)else none else bif r2.1==1 then(W9 K r2.2 ([(-1),9,0]:List Int)).bind fun r9=>if r9.2.2.length=([(-1),9,0]:List Int).length then jp K r9.2.1.fb r9.2.1.fi r9.2.1.fh (G9.mk r1.1.d r9.1 r1.1.j r1.1.L r1.1.z) (G9.mk 0 0 [] [] 0)else none else bif r2.1==2 then(W9 K r2.2 ([(-1),0,8,16]:List Int)).bind fun r10=>if r10.2.2.length=([(-1),0,8,16]:List Int).length then jp K r10.2.1.fb r10.2.1.fi r10.2.1.fh (G9.mk r1.1.d r1.1.i r1.1.j r1.1.L r10.1) (G9.mk 0 0 [] [] 0)else none else bif r2.1==3 then(W9 K r2.2 ([(-1),255,256]:List Int)).bind fun r11=>if r11.2.2.length=([(-1),255,256]:List Int).length then if(r1.1.j++([r11.1]:List Int)).length*8<=140737488355328/\(r1.1.j++([r11.1]:List Int)).length<=maxLen then jp K r11.2.1.fb r11.2.1.fi r11.2.1.fh (G9.mk r1.1.d r1.1.i (r1.1.j++([r11.1]:List Int)) r1.1.L r1.1.z) (G9.mk 0 0 [] [] 0)else none else none else bif r2.1==4 then(W9 K r2.2 ([(-1),0,12]:List Int)).bind fun r12=>if r12.2.2.length=([(-1),0,12]:List Int).length then if(r1.1.L++([r12.1]:List Int)).length*8<=140737488355328/\(r1.1.L++([r12.1]:List Int)).length<=maxLen then jp K r12.2.1.fb r12.2.1.fi r12.2.1.fh (G9.mk r1.1.d r1.1.i r1.1.j (r1.1.L++([r12.1]:List Int)) r1.1.z) (G9.mk 0 0 [] [] 0)else none else none else jp K r2.2.fb r2.2.fi r2.2.fh r1.1 (G9.mk 0 0 [] [] 0)
def A93:=fd Tryz.func231 ⟨[.b 171 false,.v 33],[.n 79 true],false⟩ (gC (Y2 K) (gC (il K) (gC (Bl4 K) gN))) [] [7] [(13,[.take 105 2 6682,.take 105 3 6683])]
def Bl5:=jn (A93 K) 7 A92 [] (jp K) kN
def Bl6:=ct (A93 K) (A0k K) (kC (Bl5 K) kN)
def Yn (K:Nat)(v5:List Int)(v6 v7:Int)(v8 v9:Int)(v10 v11:Int)(v12 v13:Int)(v14 v15 v16:List Int)(v17:List Fy)(v18:List G9)(v19:List Int)(v20 v21:Int)(v22 v23:Int)(v24 v25:Int)(v26 v27 v28:List Int)(v29:List Fy)(v30:List G9)(v31:List Int):Option (H4×Sx):=some ((H4.mk (Sv.mk v8 v9 v10 v11 v12 v13) (Pc.mk v14 v15 v16) v17 v18 v19),(Sx.mk v5 v6 v7))
def A0l (a0:Sx)(a1:Int):Option (H4×Sx):=(xp K a0 a1).bind fun r1=>(Pz K r1.2 (r1.1.o.length:Int)).bind fun r2=>(Pz K r2.2 40).bind fun r3=>bif r3.1==0 then(A0c K r3.2).bind fun r4=>Yn K r4.2.fb r4.2.fi r4.2.fh r4.1.L r4.1.k r4.1.l r4.1.e r4.1.m r4.1.n r1.1.Q.g r1.1.Q.c r1.1.Q.h r1.1.o r1.1.p r1.1.q 0 0 0 0 0 0 [] [] [] [] [] []else bif r3.1==1 then(Pz K r3.2 (r1.1.Q.c.length:Int)).bind fun r32=>(Pz K r32.2 4).bind fun r33=>if 0<=r32.1/\r32.1<r1.1.Q.c.length then Yn K r33.2.fb r33.2.fi r33.2.fh r1.1.C.L r1.1.C.k r1.1.C.l r1.1.C.e r1.1.C.m r1.1.C.n r1.1.Q.g (r1.1.Q.c.set r32.1.toNat r33.1) r1.1.Q.h r1.1.o r1.1.p r1.1.q 0 0 0 0 0 0 [] [] [] [] [] []else none else bif r3.1==2 then(Pz K r3.2 (r1.1.Q.g.length:Int)).bind fun r34=>if 0<=r34.1/\r34.1<r1.1.Q.g.length then Yn K r34.2.fb r34.2.fi r34.2.fh r1.1.C.L r1.1.C.k r1.1.C.l r1.1.C.e r1.1.C.m r1.1.C.n (r1.1.Q.g.set r34.1.toNat 9) r1.1.Q.c r1.1.Q.h r1.1.o r1.1.p r1.1.q 0 0 0 0 0 0 [] [] [] [] [] []else none else bif r3.1==3 then(A0f K r3.2 r1.1.C).bind fun r35=>if 0<=r2.1/\r2.1<r1.1.o.length then Yn K r35.2.fb r35.2.fi r35.2.fh r1.1.C.L r1.1.C.k r1.1.C.l r1.1.C.e r1.1.C.m r1.1.C.n r1.1.Q.g r1.1.Q.c r1.1.Q.h (r1.1.o.set r2.1.toNat r35.1) r1.1.p r1.1.q 0 0 0 0 0 0 [] [] [] [] [] []else none else bif r3.1==4 then(Pz K r3.2 4).bind fun r36=>if 0<=r2.1/\r2.1<r1.1.o.length then Ax5 (r1.1.o.set r2.1.toNat (Fy.mk r36.1 (gt r1.1.o r2.1).a (gt r1.1.o r2.1).f (gt r1.1.o r2.1).s (gt r1.1.o r2.1).t (gt r1.1.o r2.1).i (gt r1.1.o r2.1).u (gt r1.1.o r2.1).v (gt r1.1.o r2.1).L (gt r1.1.o r2.1).w (gt r1.1.o r2.1).x (gt r1.1.o r2.1).y (gt r1.1.o r2.1).j)) fun v37=>Yn K r36.2.fb r36.2.fi r36.2.fh r1.1.C.L r1.1.C.k r1.1.C.l r1.1.C.e r1.1.C.m r1.1.C.n r1.1.Q.g r1.1.Q.c r1.1.Q.h v37 r1.1.p r1.1.q 0 0 0 0 0 0 [] [] [] [] [] []else none else bif r3.1==5 then(Pz K r3.2 4).bind fun r38=>if 0<=r2.1/\r2.1<r1.1.o.length then Ax5 (r1.1.o.set r2.1.toNat (Fy.mk (gt r1.1.o r2.1).c (gt r1.1.o r2.1).a (gt r1.1.o r2.1).f r38.1 (gt r1.1.o r2.1).t (gt r1.1.o r2.1).i (gt r1.1.o r2.1).u (gt r1.1.o r2.1).v (gt r1.1.o r2.1).L (gt r1.1.o r2.1).w (gt r1.1.o r2.1).x (gt r1.1.o r2.1).y (gt r1.1.o r2.1).j)) fun v39=>Yn K r38.2.fb r38.2.fi r38.2.fh r1.1.C.L r1.1.C.k r1.1.C.l r1.1.C.e r1.1.C.m r1.1.C.n r1.1.Q.g r1.1.Q.c r1.1.Q.h v39 r1.1.p r1.1.q 0 0 0 0 0 0 [] [] [] [] [] []else none else bif r3.1==6 then if 0<=r2.1/\r2.1<r1.1.o.length then if 0<=r2.1/\r2.1<r1.1.o.length then Ax5 (r1.1.o.set r2.1.toNat (Fy.mk (gt r1.1.o r2.1).c (gt r1.1.o r2.1).a (A4 (gt r1.1.o r2.1).f 1) (gt r1.1.o r2.1).s (gt r1.1.o r2.1).t (gt r1.1.o r2.1).i (gt r1.1.o r2.1).u (gt r1.1.o r2.1).v (gt r1.1.o r2.1).L (gt r1.1.o r2.1).w (gt r1.1.o r2.1).x (gt r1.1.o r2.1).y (gt r1.1.o r2.1).j)) fun v40=>Yn K r3.2.fb r3.2.fi r3.2.fh r1.1.C.L r1.1.C.k r1.1.C.l r1.1.C.e r1.1.C.m r1.1.C.n r1.1.Q.g r1.1.Q.c r1.1.Q.h v40 r1.1.p r1.1.q 0 0 0 0 0 0 [] [] [] [] [] []else none else none else bif r3.1==7 then(A0k K r3.2 r1.1.C).bind fun r41=>if(r1.1.p++[r41.1]).length*72<=140737488355328/\(r1.1.p++[r41.1]).length<=maxLen then Yn K r41.2.fb r41.2.fi r41.2.fh r1.1.C.L r1.1.C.k r1.1.C.l r1.1.C.e r1.1.C.m r1.1.C.n r1.1.Q.g r1.1.Q.c r1.1.Q.h r1.1.o (r1.1.p++[r41.1]) r1.1.q 0 0 0 0 0 0 [] [] [] [] [] []else none else bif r3.1==8 then bif decide ((r1.1.p.length:Int)>0)then if(0:Int)<=1/\1<=(r1.1.p.length:Int)/\(r1.1.p.length:Int)<=r1.1.p.length then Yn K r3.2.fb r3.2.fi r3.2.fh r1.1.C.L r1.1.C.k r1.1.C.l r1.1.C.e r1.1.C.m r1.1.C.n r1.1.Q.g r1.1.Q.c r1.1.Q.h r1.1.o ((r1.1.p.drop (1:Int).toNat).take ((r1.1.p.length:Int) - 1).toNat) r1.1.q 0 0 0 0 0 0 [] [] [] [] [] []else none else Yn K r3.2.fb r3.2.fi r3.2.fh r1.1.C.L r1.1.C.k r1.1.C.l r1.1.C.e r1.1.C.m r1.1.C.n r1.1.Q.g r1.1.Q.c r1.1.Q.h r1.1.o r1.1.p r1.1.q 0 0 0 0 0 0 [] [] [] [] [] []else bif r3.1==9 then(W9 K r3.2 ([0,255,256,(-1)]:List Int)).bind fun r42=>if r42.2.2.length=([0,255,256,(-1)]:List Int).length then if(r1.1.q++([r42.1]:List Int)).length*8<=140737488355328/\(r1.1.q++([r42.1]:List Int)).length<=maxLen then Yn K r42.2.1.fb r42.2.1.fi r42.2.1.fh r1.1.C.L r1.1.C.k r1.1.C.l r1.1.C.e r1.1.C.m r1.1.C.n r1.1.Q.g r1.1.Q.c r1.1.Q.h r1.1.o r1.1.p (r1.1.q++([r42.1]:List Int)) 0 0 0 0 0 0 [] [] [] [] [] []else none else none else bif r3.1==10 then if 0<=r2.1/\r2.1<r1.1.o.length then if 0<=r2.1/\r2.1<r1.1.o.length then(Pz K r3.2 60).bind fun r43=>if(((gt r1.1.o r2.1).y)++([(H3.mk r43.1 2 0)]:List H3)).length*24<=140737488355328/\(((gt r1.1.o r2.1).y)++([(H3.mk r43.1 2 0)]:List H3)).length<=maxLen then if 0<=r2.1/\r2.1<r1.1.o.length then Yn K r43.2.fb r43.2.fi r43.2.fh r1.1.C.L r1.1.C.k r1.1.C.l r1.1.C.e r1.1.C.m r1.1.C.n r1.1.Q.g r1.1.Q.c r1.1.Q.h (r1.1.o.set r2.1.toNat (Fy.mk (gt r1.1.o r2.1).c (gt r1.1.o r2.1).a (gt r1.1.o r2.1).f (gt r1.1.o r2.1).s (gt r1.1.o r2.1).t (gt r1.1.o r2.1).i (gt r1.1.o r2.1).u (gt r1.1.o r2.1).v (gt r1.1.o r2.1).L (gt r1.1.o r2.1).w (gt r1.1.o r2.1).x (((gt r1.1.o r2.1).y)++([(H3.mk r43.1 2 0)]:List H3)) (gt r1.1.o r2.1).j)) r1.1.p r1.1.q 0 0 0 0 0 0 [] [] [] [] [] []else none else none else none else none else bif r3.1==11 then(Pz K r3.2 4).bind fun r44=>if 0<=r2.1/\r2.1<r1.1.o.length then Ax5 (r1.1.o.set r2.1.toNat (Fy.mk (gt r1.1.o r2.1).c (gt r1.1.o r2.1).a (gt r1.1.o r2.1).f (gt r1.1.o r2.1).s (gt r1.1.o r2.1).t (gt r1.1.o r2.1).i r44.1 (gt r1.1.o r2.1).v (gt r1.1.o r2.1).L (gt r1.1.o r2.1).w (gt r1.1.o r2.1).x (gt r1.1.o r2.1).y (gt r1.1.o r2.1).j)) fun v45=>Yn K r44.2.fb r44.2.fi r44.2.fh r1.1.C.L r1.1.C.k r1.1.C.l r1.1.C.e r1.1.C.m r1.1.C.n r1.1.Q.g r1.1.Q.c r1.1.Q.h v45 r1.1.p r1.1.q 0 0 0 0 0 0 [] [] [] [] [] []else none else bif r3.1==12 then bif decide ((r1.1.p.length:Int)>0)then(Pz K r3.2 9).bind fun r46=>if(0:Int)<=0/\0<(r1.1.p.length:Int)then Yn K r46.2.fb r46.2.fi r46.2.fh r1.1.C.L r1.1.C.k r1.1.C.l r1.1.C.e r1.1.C.m r1.1.C.n r1.1.Q.g r1.1.Q.c r1.1.Q.h r1.1.o (r1.1.p.set (0:Int).toNat (G9.mk (gt r1.1.p 0).d (gt r1.1.p 0).i (gt r1.1.p 0).j (gt r1.1.p 0).L r46.1)) r1.1.q 0 0 0 0 0 0 [] [] [] [] [] []else none else Yn K r3.2.fb r3.2.fi r3.2.fh r1.1.C.L r1.1.C.k r1.1.C.l r1.1.C.e r1.1.C.m r1.1.C.n r1.1.Q.g r1.1.Q.c r1.1.Q.h r1.1.o r1.1.p r1.1.q 0 0 0 0 0 0 [] [] [] [] [] []else Yn K r3.2.fb r3.2.fi r3.2.fh r1.1.C.L r1.1.C.k r1.1.C.l r1.1.C.e r1.1.C.m r1.1.C.n r1.1.Q.g r1.1.Q.c r1.1.Q.h r1.1.o r1.1.p r1.1.q 0 0 0 0 0 0 [] [] [] [] [] []
def A94:=fd Tryz.func132 ⟨[.b 171 false,.v 3],[.v 38],false⟩ (gC (A9x K) (gC (Blf K) (gC (Y2 K) (gC (il K) (gC (Blu K) (gC (Bl6 K) gN)))))) [] [15] [(29,[.opn 20387 (.tmp 6),.takeE 20387 11 64779])] [(104,[.put 3104,.shal 3104]),(114,[.frzT 114])]
def Bl7:E7:=⟨[(4,.p 104),(5,.p 105)],[(1,.box X0),(105,.box Wz),(104,.box Wz)]⟩
def Bl8:=jn (A94 K) 15 Bl7 [] (Yn K) kN
def Bl9:=ct (A94 K) (A0l K) (kC (Bl8 K) kN)
def yb (a0:List Int)(a1:Int):Option (Sx×H4):=(uj K a0).bind fun r1=>(A0l K r1 a1).bind fun r2=>some (r2.2,r2.1)
def A95:=ct (fd Tryz.func130 ⟨[.v 24,.v 3],[.p 171 false,.v 38],false⟩ (gC (A77 K) (gC (Bl9 K) gN))) (yb K)
def A0m (a0:List Int):Option H4:=(yb K a0 60).bind fun r1=>some r1.2
def Bma:=ct (fd Tryz.func61 ⟨[.v 24],[.v 38],false⟩ (gC (A95 K) gN)) (A0m K)
def A0n (a0:List Int):Option (H4×Int):=(yb K a0 50).bind fun r1=>(Pz K r1.1 7).bind fun r2=>some (r1.2,(Ap r2.1 1))
def Bmb:=ct (fd Tryz.func62 ⟨[.v 24],[.v 38,.v 3],false⟩ (gC (A95 K) (gC (Y2 K) gN))) (A0n K)
def Zi (K:Nat)(a0:List Int):Option (List Int):=bif a0.isEmpty then Aag (some []) ((if(([]:List Int)++a0).length*8<=140737488355328/\(([]:List Int)++a0).length<=maxLen then some (([]:List Int)++a0)else none))else if(([]:List Int)++a0).length*8<=140737488355328/\(([]:List Int)++a0).length<=maxLen then some (([]:List Int)++a0)else none
def np:=ct (fd Tryz.func210 ⟨[.v 25],[.n 25 true],true⟩ gN) (Zi K)
def yc (K:Nat):Nat->(List Int)->Int->Int->Option (List Int)
 |0,_,_,_=>none
 |n1+1,v1,v2,v3=>bif decide (v2<v3)then if 0<=v3/\v3<v1.length then if 0<=v2/\v2<v1.length then if 0<=v2/\v2<v1.length then if 0<=v3/\v3<((v1.set v2.toNat (gt v1 v3)).length:Int)then yc K n1 ((v1.set v2.toNat (gt v1 v3)).set v3.toNat (gt v1 v2)) (A4 v2 1) (Ap v3 1)else none else none else none else none else some v1
def A0o (a0:List Int):Option (List Int):=yc K K a0 0 (Ap a0.length 1)
def A96:=fd Tryz.func275 ⟨[.w 25 true [(3,true)]],[],true⟩ gN
def Bmc:E7:=⟨[(0,.o 1 3 true),(2,.v 2),(3,.v 2)],[]⟩
def Bmd:=lp A96 6 Bmc [] (yc K) (fun n=>kN)
def Bme:=ct A96 (A0o K) (kC (Bmd K K) kN)
def yd (a0:List Int):Option (List Int):=(Zi K a0).bind fun r1=>(A0o K r1).bind fun r2=>if r2.length=r1.length then some r2 else none
def A97:=ct (fd Tryz.func173 ⟨[.v 25],[.n 25 true],true⟩ (gC (np K) (gC (Bme K) gN))) (yd K)
def Xc (K:Nat)(a0 a1 a2:Int):Option Bool:=bif decide (a0>=a1)then some (decide (a0<=a2))else some false
def bq:=ct (fd Tryz.func156 ⟨[.v 3,.v 3,.v 3],[.v 4],true⟩ gN [9,10]) (Xc K)
def aj (a0:List Fy)(a1:Int):Option Bool:=(Xc K a1 0 (Ap a0.length 1)).bind fun r1=>some r1
def jq:=ct (fd Tryz.func118 ⟨[.v 35,.v 3],[.v 4],true⟩ (gC (bq K) gN)) (aj K)
def ye (a0:List Fy):Nat->(List Int)->Int->Option (List Int)
 |0,_,_=>none
 |n1+1,v1,v2=>(aj K a0 v2).bind fun r3=>bif r3 then bif decide ((v1.length:Int)<a0.length)then if(v1++([v2]:List Int)).length*8<=140737488355328/\(v1++([v2]:List Int)).length<=maxLen then if 0<=v2/\v2<a0.length then ye a0 n1 (v1++([v2]:List Int)) (Ap (gt a0 v2).u 1)else none else none else some v1 else some v1
def rt (a0:List Fy)(a1:Int):Option (List Int):=ye K a0 K ([]:List Int) (Ap a1 1)
def A98:=fd Tryz.func174 ⟨[.v 35,.v 3],[.n 25 true],true⟩ (gC (jq K) gN) [12,13]
def Bmf:E7:=⟨[(0,.v 35),(5,.o 1005 3 true),(6,.v 2)],[]⟩
def Bmg:=lp (A98 K) 58 Bmf [] (fun n a=>ye K a n) (fun n=>kN)
def A4t:=ct (A98 K) (rt K) (kC (Bmg K K) kN)
def A0p (K:Nat)(Rc:H4->(List Int)->(List Bool)->Option ((List Int)×(List Bool)))(v3 v4:Int)(v5 v6:Int)(v7 v8:Int)(v9 v10:Int)(v11 v12 v13:List Int)(v14:List Fy)(v15:List G9)(v16:List Int)(C1:(List Bool)->(List Int)->Int->Int->Int->Int->Int->Int->Int->Int->(List Int)->(List Int)->(List Int)->(List Fy)->(List G9)->(List Int)->Option ((List Int)×(List Bool)))(v17:List Bool)(v18:List Int):Option ((List Int)×(List Bool)):=C1 v17 v18 v3 (A4 v4 1) v5 v6 v7 v8 v9 v10 v11 v12 v13 v14 v15 v16
def nq (Rc:H4->(List Int)->(List Bool)->Option ((List Int)×(List Bool)))(a1:List Int):Nat->(List Bool)->(List Int)->Int->Int->Int->Int->Int->Int->Int->Int->(List Int)->(List Int)->(List Int)->(List Fy)->(List G9)->(List Int)->Option ((List Int)×(List Bool))
 |0,_,_,_,_,_,_,_,_,_,_,_,_,_,_,_,_=>none
 |n1+1,v1,v2,v3,v4,v5,v6,v7,v8,v9,v10,v11,v12,v13,v14,v15,v16=>bif decide (v4<v3)then if 0<=v4/\v4<a1.length then if 0<=(gt a1 v4)/\(gt a1 v4)<v1.length then bif gt v1 (gt a1 v4)then A0p K Rc v3 v4 v5 v6 v7 v8 v9 v10 v11 v12 v13 v14 v15 v16 (nq Rc a1 n1) v1 v2 else if 0<=(gt a1 v4)/\(gt a1 v4)<v1.length then if 0<=(gt a1 v4)/\(gt a1 v4)<v14.length then(yd K (gt v14 (gt a1 v4)).j).bind fun r19=>if(v2++r19).length*8<=140737488355328/\(v2++r19).length<=maxLen then if 0<=(gt a1 v4)/\(gt a1 v4)<v14.length then(rt K v14 (gt v14 (gt a1 v4)).i).bind fun r20=>(Rc (H4.mk (Sv.mk v5 v6 v7 v8 v9 v10) (Pc.mk v11 v12 v13) v14 v15 v16) r20 (v1.set (gt a1 v4).toNat true)).bind fun r21=>if r21.2.length=(v1.set (gt a1 v4).toNat true).length then if((v2++r19)++r21.1).length*8<=140737488355328/\((v2++r19)++r21.1).length<=maxLen then A0p K Rc v3 v4 v5 v6 v7 v8 v9 v10 v11 v12 v13 v14 v15 v16 (nq Rc a1 n1) r21.2 ((v2++r19)++r21.1)else none else none else none else none else none else none else none else none else some (v2,v1)
def A4u (Rc:H4->(List Int)->(List Bool)->Option ((List Int)×(List Bool)))(a0:H4)(a1:List Int)(a2:List Bool):Option ((List Int)×(List Bool)):=nq K Rc a1 K a2 ([]:List Int) (a1.length:Int) 0 a0.C.L a0.C.k a0.C.l a0.C.e a0.C.m a0.C.n a0.Q.g a0.Q.c a0.Q.h a0.o a0.p a0.q
def fy:Nat->H4->(List Int)->(List Bool)->Option ((List Int)×(List Bool))
 |0,_,_,_=>none
 |K+1,a0,a1,a2=>A4u K (fy K) a0 a1 a2
def yf:Sig:=⟨[.v 38,.v 25,.w 149 true [(4,true)]],[.n 25 true],true⟩
def A4v (Rc:H4->(List Int)->(List Bool)->Option ((List Int)×(List Bool)))(hR:Zc 177 ⟨yf,Rc⟩):=fd Tryz.func177 yf (gC (A97 K) (gC (A4t K) (gC hR gN))) [] [467]
def A0q:E7:=⟨[(2,.o 1 4 true),(3,.p 103),(7,.o 1007 3 true),(11,.v 25),(12,.v 2),(13,.v 2)],[(103,.box Wz)]⟩
def Bmh (Rc:H4->(List Int)->(List Bool)->Option ((List Int)×(List Bool)))(hR:Zc 177 ⟨yf,Rc⟩):=fun(C58:CT A0q _)=>jn (A4v K Rc hR) 467 A0q [(58,ar A0q C58)] (fun a b c d e f g h i j k l m o p q r=>A0p K Rc d e f g h i j k l m o p q r (fun v1 v2=>C58 v1 v2 c) a b) kN
def Bmi (Rc:H4->(List Int)->(List Bool)->Option ((List Int)×(List Bool)))(hR:Zc 177 ⟨yf,Rc⟩):=lp (A4v K Rc hR) 58 A0q [] (fun n a b c=>nq K Rc c n a b) (fun n=>kC (Bmh K Rc hR _) kN)
theorem A99: ∀K:Nat,Zc 177 ⟨yf,fy K⟩
 |0=>⟨(by intro a0 a1 a2 r h;cases h),_,Tryz.func177,rfl,rfl⟩
 |K+1=>have ih:=A99 K;ct (A4v K (fy K) ih) (A4u K (fy K)) (kC (Bmi K (fy K) ih K) kN)
def fz (a0:H4)(a1:Int):Option (List Int):=(aj K a0.o a1).bind fun r1=>bif !r1 then some []else if 0<=(a0.o.length:Int)/\(a0.o.length:Int)<=a0.o.length/\(1:Int)*(a0.o.length:Int)<=281474976710656/\(a0.o.length:Int)<=9223372036854775807 then(fy K a0 ([a1]:List Int) (List.replicate (a0.o.length:Int).toNat false)).bind fun r2=>if r2.2.length=(List.replicate (a0.o.length:Int).toNat false).length then some r2.1 else none else none
def Baa:=ct (fd Tryz.func65 ⟨[.v 38,.v 3],[.n 25 true],true⟩ (gC (jq K) (gC (A99 K) gN))) (fz K)
def yg (v2:List G9)(v3 v4:Int)(v5 v6:Int)(v7 v8:Int)(v9 v10:Int)(v11 v12 v13:List Int)(v14:List Fy)(v15:List G9)(v16:List Int)(r18:(List Int))(C1:(List Int)->(List G9)->Int->Int->Int->Int->Int->Int->Int->Int->(List Int)->(List Int)->(List Int)->(List Fy)->(List G9)->(List Int)->Option (List Int)):Nat->(List Int)->Int->Int->Option (List Int)
 |0,_,_,_=>none
 |n2+1,v19,v20,v21=>bif decide (v21<v20)then if 0<=v21/\v21<r18.length then(fz K (H4.mk (Sv.mk v5 v6 v7 v8 v9 v10) (Pc.mk v11 v12 v13) v14 v15 v16) (gt r18 v21)).bind fun r22=>if(v19++r22).length*8<=140737488355328/\(v19++r22).length<=maxLen then yg v2 v3 v4 v5 v6 v7 v8 v9 v10 v11 v12 v13 v14 v15 v16 r18 C1 n2 (v19++r22) v20 (A4 v21 1)else none else none else C1 v19 v2 v3 (A4 v4 1) v5 v6 v7 v8 v9 v10 v11 v12 v13 v14 v15 v16
def ru:Nat->(List Int)->(List G9)->Int->Int->Int->Int->Int->Int->Int->Int->(List Int)->(List Int)->(List Int)->(List Fy)->(List G9)->(List Int)->Option (List Int)
 |0,_,_,_,_,_,_,_,_,_,_,_,_,_,_,_,_=>none
 |n1+1,v1,v2,v3,v4,v5,v6,v7,v8,v9,v10,v11,v12,v13,v14,v15,v16=>bif decide (v4<v3)then if 0<=v4/\v4<v2.length then(yd K (gt v2 v4).j).bind fun r17=>if(v1++r17).length*8<=140737488355328/\(v1++r17).length<=maxLen then(rt K v14 (gt v2 v4).i).bind fun r18=>yg K v2 v3 v4 v5 v6 v7 v8 v9 v10 v11 v12 v13 v14 v15 v16 r18 (ru n1) K (v1++r17) (r18.length:Int) 0 else none else none else some v1
def ga (a0:H4):Option (List Int):=ru K K ([]:List Int) a0.p (a0.p.length:Int) 0 a0.C.L a0.C.k a0.C.l a0.C.e a0.C.m a0.C.n a0.Q.g a0.Q.c a0.Q.h a0.o a0.p a0.q
def A4w:=fd Tryz.func63 ⟨[.v 38],[.n 25 true],true⟩ (gC (Baa K) (gC (A97 K) (gC (A4t K) gN)))
def Bmj:E7:=⟨[(1,.p 101),(3,.o 1003 3 true),(10,.v 36),(11,.v 2),(12,.v 2),(25,.v 25),(26,.v 2),(27,.v 2)],[(101,.box Wz)]⟩
def A4x:E7:=⟨[(1,.p 101),(3,.o 1003 3 true),(10,.v 36),(11,.v 2),(12,.v 2)],[(101,.box Wz)]⟩
def Bmk:=fun(C58:CT A4x _)=>lp (A4w K) 29902 Bmj [(58,ar A4x C58)] (fun n a b c d e f g h i j k l m o p q r s t=>yg K b c d h i j k l m o p q r s t e C58 n a f g) (fun n=>kN)
def Bml:=lp (A4w K) 58 A4x [] (ru K) (fun n=>kC (Bmk K _ K) kN)
def Bmm:=ct (A4w K) (ga K) (kC (Bml K K) kN)
def A0r (K:Nat)(a0:List Int):Option (List Int):=bif a0.isEmpty then Aag (some []) ((if(([]:List Int)++a0).length*1<=140737488355328/\(([]:List Int)++a0).length<=maxLen then some (([]:List Int)++a0)else none))else if(([]:List Int)++a0).length*1<=140737488355328/\(([]:List Int)++a0).length<=maxLen then some (([]:List Int)++a0)else none
def Bmn:=ct (fd Tryz.func312 ⟨[.v 24],[.n 24 true],true⟩ gN) (A0r K)
def rx (a0:Pc):Option Pc:=(A0r K a0.g).bind fun r1=>(Zi K a0.c).bind fun r2=>(Zi K a0.h).bind fun r3=>some (Pc.mk r1 r2 r3)
def A4y:=ct (fd Tryz.func255 ⟨[.v 34],[.n 34 true],true⟩ (gC (np K) (gC (Bmn K) gN))) (rx K)
def A0s (K:Nat)(a0:List H3):Option (List H3):=bif a0.isEmpty then Aag (some []) ((if(([]:List H3)++a0).length*24<=140737488355328/\(([]:List H3)++a0).length<=maxLen then some (([]:List H3)++a0)else none))else if(([]:List H3)++a0).length*24<=140737488355328/\(([]:List H3)++a0).length<=maxLen then some (([]:List H3)++a0)else none
def Bmo:=ct (fd Tryz.func362 ⟨[.v 75],[.n 75 true],true⟩ gN) (A0s K)
def A0t (a0:Fy):Option Fy:=(Zi K a0.L).bind fun r1=>(A0s K a0.y).bind fun r2=>(Zi K a0.j).bind fun r3=>some (Fy.mk a0.c a0.a a0.f a0.s a0.t a0.i a0.u a0.v r1 a0.w a0.x r2 r3)
def Bmp:=ct (fd Tryz.func313 ⟨[.v 77],[.n 77 false],true⟩ (gC (np K) (gC (Bmo K) gN))) (A0t K)
def nr (a0:List Fy):Nat->(List Fy)->Int->Int->Option (List Fy)
 |0,_,_,_=>none
 |n1+1,v1,v2,v3=>bif decide (v3<v2)then if 0<=v3/\v3<a0.length then(A0t K (gt a0 v3)).bind fun r4=>if(v1++[r4]).length*152<=140737488355328/\(v1++[r4]).length<=maxLen then nr a0 n1 (v1++[r4]) v2 (A4 v3 1)else none else none else some v1
def yh (a0:List Fy):Option (List Fy):=nr K a0 K ([]:List Fy) (a0.length:Int) 0
def Bab:=fd Tryz.func256 ⟨[.v 35],[.n 35 true],false⟩ (gC (Bmp K) gN) (post:=[(16,[.put 3016])])
def Bmq:E7:=⟨[(3,.o 1003 77 true),(7,.v 35),(8,.v 2),(9,.v 2)],[]⟩
def Bmr:=lp (Bab K) 58 Bmq [] (fun n a b=>nr K b n a) (fun n=>kN)
def Bac:=ct (Bab K) (yh K) (kC (Bmr K K) kN)
def A0u (a0:G9):Option G9:=(Zi K a0.j).bind fun r1=>(Zi K a0.L).bind fun r2=>some (G9.mk a0.d a0.i r1 r2 a0.z)
def Bms:=ct (fd Tryz.func257 ⟨[.v 79],[.n 79 true],true⟩ (gC (np K) gN)) (A0u K)
def ns:Nat->(List G9)->Int->Int->H4->H4->Option H4
 |0,_,_,_,_,_=>none
 |n1+1,v4,v5,v6,v7,v8=>bif decide (v6<v5)then if 0<=v6/\v6<v4.length then(A0u K (gt v4 v6)).bind fun r9=>if(v7.p.length+1)*72<=140737488355328/\v7.p.length+1<=maxLen then ns n1 v4 v5 (A4 v6 1) (H4.mk v7.C v7.Q v7.o ((v7.p++[(default:G9)]).set (v7.p.length:Int).toNat r9) v7.q) v8 else none else none else some v7
def yi (a0:H4):Option H4:=(rx K a0.Q).bind fun r1=>(yh K a0.o).bind fun r2=>(Zi K a0.q).bind fun r3=>ns K K a0.p (a0.p.length:Int) 0 (H4.mk a0.C r1 r2 [] r3) (H4.mk (Sv.mk 0 0 0 0 0 0) (Pc.mk [] [] []) [] [] [])
def Bad:=fd Tryz.func160 ⟨[.v 38],[.n 38 true],false⟩ (gC (np K) (gC (A4y K) (gC (Bac K) (gC (Bms K) gN)))) [] [] [(5,[.take 103 10 6658]),(7,[.take 103 6 6654,.take 103 7 6655,.take 103 8 6656,.take 103 9 6657,.take 103 10 6658,.take 103 11 6659])]
def Bmt:E7:=⟨[(2,.p 102),(3,.p 103),(19,.v 36),(20,.v 2),(21,.v 2)],[(103,.st 38 true),(102,.st 38 true)]⟩
def Bmu:=lp (Bad K) 58 Bmt [] (ns K) (fun n=>kN)
def Bae:=ct (Bad K) (yi K) (kC (Bmu K K) kN)
def ry (a0:Sv):Option Bool:=(Xc K a0.L 2 12).bind fun r1=>bif r1 then(Xc K a0.k 8 16).bind fun r2=>bif r2 then(Xc K a0.l 2 8).bind fun r3=>bif r3 then(Xc K a0.e 1 8).bind fun r4=>bif r4 then(Xc K a0.m 1 16).bind fun r5=>bif r5 then(Xc K a0.n 1 4).bind fun r6=>some r6 else some false else some false else some false else some false else some false
def A0v:=ct (fd Tryz.func47 ⟨[.v 33],[.v 4],true⟩ (gC (bq K) gN) [5,6,9,10,11,14,15,16,19,20,21,24,25,26]) (ry K)
def A0w (a0:Sv):Option Int:=(ry K a0).bind fun r1=>bif !r1 then some 0 else some (F2 a0.L a0.k)
def Baf:=ct (fd Tryz.func208 ⟨[.v 33],[.v 3],true⟩ (gC (A0v K) gN)) (A0w K)
def rz (K:Nat)(a0:Pc)(a1:Sv)(a2:Int):Option (List Int):=if 0<=(F2 a2 a1.k)/\(F2 a2 a1.k)<=(F2 (A4 a2 1) a1.k)/\(F2 (A4 a2 1) a1.k)<=a0.g.length then some ((a0.g.drop (F2 a2 a1.k).toNat).take ((F2 (A4 a2 1) a1.k) - (F2 a2 a1.k)).toNat)else none
def A4z:=ct (fd Tryz.func209 ⟨[.v 34,.v 33,.v 3],[.v 24],false⟩ gN) (rz K)
def A40 (K:Nat)(a0:Int):Option Bool:=some (a0 != 0)
def Bmv:=ct (fd Tryz.func121 ⟨[.v 5],[.v 4],true⟩ gN) (A40 K)
def A0x (a0:List Int):Nat->Int->Int->Option Int
 |0,_,_=>none
 |n1+1,v1,v2=>bif decide (v2<v1)then if 0<=v2/\v2<a0.length then(A40 K (gt a0 v2)).bind fun r3=>bif r3 then some v2 else A0x a0 n1 v1 (A4 v2 1)else none else some (-1)
def A41 (a0:List Int):Option Int:=A0x K a0 K (a0.length:Int) 0
def Bag:=fd Tryz.func207 ⟨[.v 24,.f 121 [] []],[.v 3],true⟩ (gC (Bmv K) gN)
def Bmw:E7:=⟨[(0,.v 24),(1,.f 121 [] []),(7,.v 2),(8,.v 2)],[]⟩
def Bmx:=lp (Bag K) 26 Bmw [] (fun n a=>A0x K a n) (fun n=>kN)
def Bmy:=ct (Bag K) (A41 K) (kC (Bmx K K) kN)
def A42 (a0:List Int):Option Bool:=(A41 K a0).bind fun r1=>some (decide (r1>=0))
def Bmz:=ct (fd Tryz.func120 ⟨[.v 24,.f 121 [] []],[.v 4],true⟩ (gC (Bmy K) gN)) (A42 K)
def nt (a0:List Int):Option Bool:=(A42 K a0).bind fun r1=>some (!r1)
def A0y:=ct (fd Tryz.func30 ⟨[.v 24],[.v 4],true⟩ (gC (Bmz K) gN)) (nt K)
def A0z (K:Nat)(v3:List Int)(v4:Int)(v6 v7 v8:List Int)(v12:Int)(C1:(List Int)->Int->Int->(List Int)->(List Int)->(List Int)->Option Bool)(v16:Bool):Option Bool:=bif v16 then some false else C1 v3 v4 (A4 v12 1) v6 v7 v8
def nu (a0:Sv)(v3:List Int)(v4 v5:Int)(v6 v7 v8:List Int)(C1:(List Int)->Int->Int->(List Int)->(List Int)->(List Int)->Option Bool)(v11 v12:Int)(v13:Bool):Option Bool:=bif v13 then some false else bif v11==0 then(rz K (Pc.mk v6 v7 v8) a0 v5).bind fun r14=>(nt K r14).bind fun r15=>A0z K v3 v4 v6 v7 v8 v12 (C1) (!r15)else A0z K v3 v4 v6 v7 v8 v12 (C1) false
def bs (a0:Sv):Nat->(List Int)->Int->Int->(List Int)->(List Int)->(List Int)->Option Bool
 |0,_,_,_,_,_,_=>none
 |n1+1,v3,v4,v5,v6,v7,v8=>bif decide (v5<v4)then if 0<=v5/\v5<v3.length then(Xc K (gt v3 v5) 0 2).bind fun r9=>bif !r9 then some false else bif (gt v3 v5)==1 then if 0<=v5/\v5<v8.length then(Xc K (gt v8 v5) 0 (Ap a0.l 1)).bind fun r10=>bif r10 then bif (gt v3 v5) != 1 then if 0<=v5/\v5<v8.length then nu K a0 v3 v4 v5 v6 v7 v8 (bs a0 n1) (gt v3 v5) v5 ((gt v8 v5) != (-1))else none else nu K a0 v3 v4 v5 v6 v7 v8 (bs a0 n1) (gt v3 v5) v5 false else nu K a0 v3 v4 v5 v6 v7 v8 (bs a0 n1) (gt v3 v5) v5 true else none else bif (gt v3 v5) != 1 then if 0<=v5/\v5<v8.length then nu K a0 v3 v4 v5 v6 v7 v8 (bs a0 n1) (gt v3 v5) v5 ((gt v8 v5) != (-1))else none else nu K a0 v3 v4 v5 v6 v7 v8 (bs a0 n1) (gt v3 v5) v5 false else none else some true
def yj (a0:Sv)(a1:Pc):Option Bool:=(ry K a0).bind fun r1=>bif r1 then(A0w K a0).bind fun r2=>bif (a1.g.length:Int) != r2 then some false else bif (a1.c.length:Int) != a0.L then some false else bif (a1.h.length:Int) != a0.L then some false else bs K a0 K a1.c (a1.c.length:Int) 0 a1.g a1.c a1.h else some false
def A00:=fd Tryz.func122 ⟨[.v 33,.v 34],[.v 4],true⟩ (gC (A0y K) (gC (A0v K) (gC (bq K) (gC (Baf K) (gC (A4z K) gN))))) [8,9,10,16,17,18,24,25,26,48,49,58,59,60,61,63,64,75,76] [29899,119599]
def Bm0:E7:=⟨[(2,.p 102),(3,.p 103),(35,.v 25),(36,.v 2),(37,.v 2),(73,.v 4)],[(103,.box da),(102,.st 33 true)]⟩
def Bm1:E7:=⟨[(2,.p 102),(3,.p 103),(5,.v 2),(6,.v 2),(35,.v 25),(36,.v 2),(37,.v 2),(46,.v 4)],[(103,.box da),(102,.st 33 true)]⟩
def yk:E7:=⟨[(2,.p 102),(3,.p 103),(35,.v 25),(36,.v 2),(37,.v 2)],[(103,.box da),(102,.st 33 true)]⟩
def Bm2:=fun(C58:CT yk _)=>jn (A00 K) 119599 Bm0 [(58,ar yk C58)] (fun a b c d e f g h=>A0z K a b e f g c (fun v3 v4 v5 v6 v7 v8=>C58 v3 v4 v5 v6 v7 v8 h) d) kN
def Bm3:=fun(C58:CT yk _)=>jn (A00 K) 29899 Bm1 [(58,ar yk C58)] (fun a b c d e f g h i j=>nu K j c d a g h i (fun v3 v4 v5 v6 v7 v8=>C58 v3 v4 v5 v6 v7 v8 j) b e f) (kC (Bm2 K _) kN)
def Bm4:=lp (A00 K) 58 yk [] (fun n a b c d e f g=>bs K g n a b c d e f) (fun n=>kC (Bm3 K _) kN)
def Bah:=ct (A00 K) (yj K) (kC (Bm4 K K) kN)
def ny (K:Nat)(a0 a1:List Int):Nat->Int->Int->Option Bool
 |0,_,_=>none
 |n1+1,v1,v2=>bif decide (v2<v1)then if 0<=v2/\v2<a0.length then if 0<=v2/\v2<a1.length then bif (gt a0 v2) != (gt a1 v2)then some false else ny K a0 a1 n1 v1 (A4 v2 1)else none else none else some true
def oa (a0 a1:List Int):Option Bool:=bif (a0.length:Int) != (a1.length:Int)then some false else ny K a0 a1 K (a0.length:Int) 0
def Bai:=fd Tryz.func153 ⟨[.v 25,.v 25],[.v 4],true⟩ gN
def Bm5:E7:=⟨[(0,.v 25),(1,.v 25),(12,.v 2),(13,.v 2)],[]⟩
def Bm6:=lp Bai 58 Bm5 [] (fun n a b=>ny K a b n) (fun n=>kN)
def Baj:=ct Bai (oa K) (kC (Bm6 K K) kN)
def A43 (K:Nat)(a0 a1:List H3):Nat->Int->Int->Option Bool
 |0,_,_=>none
 |n1+1,v1,v2=>bif decide (v2<v1)then if 0<=v2/\v2<a0.length then if 0<=v2/\v2<a1.length then bif !(((gt a0 v2).B==(gt a1 v2).B)&&(((gt a0 v2).D==(gt a1 v2).D)&&(((gt a0 v2).E==(gt a1 v2).E)&&true)))then some false else A43 K a0 a1 n1 v1 (A4 v2 1)else none else none else some true
def A44 (a0 a1:List H3):Option Bool:=bif (a0.length:Int) != (a1.length:Int)then some false else A43 K a0 a1 K (a0.length:Int) 0
def Bak:=fd Tryz.func304 ⟨[.v 75,.v 75],[.v 4],true⟩ gN
def Bm7:E7:=⟨[(0,.v 75),(1,.v 75),(12,.v 2),(13,.v 2)],[]⟩
def Bm8:=lp Bak 58 Bm7 [] (fun n a b=>A43 K a b n) (fun n=>kN)
def Bm9:=ct Bak (A44 K) (kC (Bm8 K K) kN)
def A45 (a0 a1:Fy):Option Bool:=bif a0.c==a1.c then bif a0.a==a1.a then bif a0.f==a1.f then bif a0.s==a1.s then bif a0.t==a1.t then bif a0.i==a1.i then bif a0.u==a1.u then bif a0.v==a1.v then(oa K a0.L a1.L).bind fun r1=>bif r1 then bif a0.w==a1.w then bif a0.x==a1.x then(A44 K a0.y a1.y).bind fun r2=>bif r2 then(oa K a0.j a1.j).bind fun r3=>some r3 else some false else some false else some false else some false else some false else some false else some false else some false else some false else some false else some false else some false
def Bna:=ct (fd Tryz.func250 ⟨[.v 77,.v 77],[.v 4],true⟩ (gC (Baj K) (gC (Bm9 K) gN)) [9,10,15,16,17,22,23,24,29,30,31,36,37,38,43,44,45,50,51,52,57,58,59,64,65,66,71,72,73,78,79,80,85,86,87]) (A45 K)
def A01 (a0:Fy):Option Bool:=(A45 K a0 (Fy.mk a0.c a0.a 0 0 0 0 0 0 ([]:List Int) 0 0 ([]:List H3) ([]:List Int))).bind fun r1=>some r1
def Bnb:=ct (fd Tryz.func288 ⟨[.v 77],[.v 4],true⟩ (gC (Bna K) gN)) (A01 K)
def sd (K:Nat)(a0:List Int)(a1:Int):Nat->Int->Int->Option Int
 |0,_,_=>none
 |n1+1,v1,v2=>bif decide (v2<v1)then if 0<=v2/\v2<a0.length then bif a1==(gt a0 v2)then some v2 else sd K a0 a1 n1 v1 (A4 v2 1)else none else some (-1)
def A46 (a0:List Int)(a1:Int):Option Int:=sd K a0 a1 K (a0.length:Int) 0
def Bal:=fd Tryz.func260 ⟨[.v 25,.v 3],[.v 3],true⟩ gN
def Bnc:E7:=⟨[(0,.v 25),(1,.v 2),(7,.v 2),(8,.v 2)],[]⟩
def Bnd:=lp Bal 26 Bnc [] (fun n a b=>sd K a b n) (fun n=>kN)
def Bne:=ct Bal (A46 K) (kC (Bnd K K) kN)
def se (a0:List Int)(a1:Int):Option Bool:=(A46 K a0 a1).bind fun r1=>some (decide (r1>=0))
def A47:=ct (fd Tryz.func290 ⟨[.v 25,.v 3],[.v 4],true⟩ (gC (Bne K) gN)) (se K)
def oc (a0:Sv)(a1:List Int):Nat->(List Int)->Int->Int->Option Bool
 |0,_,_,_=>none
 |n1+1,v1,v2,v3=>bif decide (v3<v2)then if 0<=v3/\v3<v1.length then(Xc K (gt v1 v3) 0 (Ap a0.L 1)).bind fun r4=>bif r4 then if(0:Int)<=0/\0<=v3/\v3<=a1.length then(se K ((a1.drop (0:Int).toNat).take (v3 - 0).toNat) (gt v1 v3)).bind fun r5=>bif r5 then some false else oc a0 a1 n1 v1 v2 (A4 v3 1)else none else some false else none else some true
def yl (a0:Sv)(a1:List Int):Option Bool:=oc K a0 a1 K a1 (a1.length:Int) 0
def Bam:=fd Tryz.func289 ⟨[.v 33,.v 25],[.v 4],true⟩ (gC (bq K) (gC (A47 K) gN)) [18,19,20]
def Bnf:E7:=⟨[(1,.v 25),(2,.p 102),(7,.v 25),(8,.v 2),(9,.v 2)],[(102,.st 33 true)]⟩
def Bng:=lp (Bam K) 26 Bnf [] (fun n a b c d e=>oc K e a n b c d) (fun n=>kN)
def Ban:=ct (Bam K) (yl K) (kC (Bng K K) kN)
def A02 (a0:Int):Option Bool:=(Xc K a0 0 255).bind fun r1=>some (!r1)
def Bnh:=ct (fd Tryz.func223 ⟨[.v 3],[.v 4],true⟩ (gC (bq K) gN)) (A02 K)
def A03 (a0:List Int):Nat->Int->Int->Option Int
 |0,_,_=>none
 |n1+1,v1,v2=>bif decide (v2<v1)then if 0<=v2/\v2<a0.length then(A02 K (gt a0 v2)).bind fun r3=>bif r3 then some v2 else A03 a0 n1 v1 (A4 v2 1)else none else some (-1)
def A48 (a0:List Int):Option Int:=A03 K a0 K (a0.length:Int) 0
def Bao:=fd Tryz.func297 ⟨[.v 25,.f 223 [] []],[.v 3],true⟩ (gC (Bnh K) gN)
def Bni:E7:=⟨[(0,.v 25),(1,.f 223 [] []),(7,.v 2),(8,.v 2)],[]⟩
def Bnj:=lp (Bao K) 26 Bni [] (fun n a=>A03 K a n) (fun n=>kN)
def Bnk:=ct (Bao K) (A48 K) (kC (Bnj K K) kN)
def A49 (a0:List Int):Option Bool:=(A48 K a0).bind fun r1=>some (decide (r1>=0))
def Bnl:=ct (fd Tryz.func222 ⟨[.v 25,.f 223 [] []],[.v 4],true⟩ (gC (Bnk K) gN)) (A49 K)
def sf (a0:List Int):Option Bool:=(A49 K a0).bind fun r1=>some (!r1)
def A5a:=ct (fd Tryz.func126 ⟨[.v 25],[.v 4],true⟩ (gC (Bnl K) gN)) (sf K)
def Bap (K:Nat)(a0:Sv)(a1:Int):Option Bool:=some (decide (a1>a0.k))
def Bnm:=ct (fd Tryz.func336 ⟨[.v 33,.v 3],[.v 4],true⟩ gN) (Bap K)
def Baq (a0 a1:Int):Option Int:=(Xc K a0 0 1000000000).bind fun r1=>bif r1 then(Xc K a1 1 1000000000).bind fun r2=>bif !r2 then some 0 else if a1≠(0:Int)then some (Afg .i64 (Ap (A4 a0 a1) 1) a1)else none else some 0
def Bnn:=ct (fd Tryz.func321 ⟨[.v 3,.v 3],[.v 3],true⟩ (gC (bq K) gN) [6,7,8]) (Baq K)
def Bar (a0:Sv)(a1:Int):Option Int:=(Baq K a1 a0.k).bind fun r1=>some r1
def Bno:=ct (fd Tryz.func337 ⟨[.v 33,.v 3],[.v 3],true⟩ (gC (Bnn K) gN)) (Bar K)
def si (a0:Sv)(a1:H3):Option Bool:=(A0w K a0).bind fun r1=>bif decide (a1.D<=0)then some false else bif decide (a1.B<0)then some false else bif decide (a1.D>r1)then some false else bif decide (a1.B>(Ap r1 a1.D))then some false else bif a1.E==0 then bif decide (a1.D<=a0.k)then if a0.k≠(0:Int)then if a0.k≠(0:Int)then some ((Afg .i64 a1.B a0.k)==(Afg .i64 (Ap (A4 a1.B a1.D) 1) a0.k))else none else none else some false else(Bap K a0 a1.D).bind fun r2=>bif r2 then(Bar K a0 a1.D).bind fun r3=>bif a1.E==r3 then if a0.k≠(0:Int)then some ((Int.tmod a1.B a0.k)==0)else none else some false else some false
def Bas:=ct (fd Tryz.func292 ⟨[.v 33,.v 183],[.v 4],true⟩ (gC (Baf K) (gC (Bnm K) (gC (Bno K) gN))) [10,11,14,15,16,20,21,22,38,39,59,60,67,68,69]) (si K)
def A04 (a0:H3)(a1:Sv):Option Bool:=(si K a1 a0).bind fun r1=>some (!r1)
def Bnp:=ct (fd Tryz.func291 ⟨[.v 183,.r 33],[.v 4],true⟩ (gC (Bas K) gN)) (A04 K)
def A05 (a0:List H3)(a1_0:Sv):Nat->Int->Int->Option Int
 |0,_,_=>none
 |n1+1,v1,v2=>bif decide (v2<v1)then if 0<=v2/\v2<a0.length then(A04 K (gt a0 v2) a1_0).bind fun r3=>bif r3 then some v2 else A05 a0 a1_0 n1 v1 (A4 v2 1)else none else some (-1)
def Bat (a0:List H3)(a1_0:Sv):Option Int:=A05 K a0 a1_0 K (a0.length:Int) 0
def Bau:=fd Tryz.func295 ⟨[.v 75,.f 291 [] [33]],[.v 3],true⟩ (gC (Bnp K) gN)
def Bnq:E7:=⟨[(0,.v 75),(1,.f 291 [] [33]),(7,.v 2),(8,.v 2)],[]⟩
def Bnr:=lp (Bau K) 26 Bnq [] (fun n a b=>A05 K a b n) (fun n=>kN)
def Bns:=ct (Bau K) (Bat K) (kC (Bnr K K) kN)
def A5b (a0:List H3)(a1_0:Sv):Option Bool:=(Bat K a0 a1_0).bind fun r1=>some (decide (r1>=0))
def Bnt:=ct (fd Tryz.func215 ⟨[.v 75,.f 291 [] [33]],[.v 4],true⟩ (gC (Bns K) gN)) (A5b K)
def od (a0:Sv)(v19:List H3)(v20:List Int):Option Bool:=bif decide ((v19.length:Int)<=12)then bif decide ((v20.length:Int)<=6)then(sf K v20).bind fun r25=>bif r25 then(A5b K v19 a0).bind fun r26=>some (!r26)else some false else some false else some false
def jr (a0:Sv):Nat->(List Int)->Int->Int->Int->Int->Int->Int->Int->Int->Int->Int->(List Int)->Int->Int->(List H3)->(List Int)->Option Bool
 |0,_,_,_,_,_,_,_,_,_,_,_,_,_,_,_,_=>none
 |n1+1,v5,v6,v7,v8,v9,v10,v11,v12,v13,v14,v15,v16,v17,v18,v19,v20=>bif decide (v7<v6)then if 0<=v7/\v7<v5.length then(Xc K (gt v5 v7) 0 a0.l).bind fun r21=>bif !r21 then some false else jr a0 n1 v5 v6 (A4 v7 1) v8 v9 v10 v11 v12 v13 v14 v15 v16 v17 v18 v19 v20 else none else bif decide (v10<0)then some false else bif decide (v12<0)then some false else(yl K a0 v16).bind fun r22=>bif r22 then bif v17 != 0 then(se K v16 (Ap v17 1)).bind fun r23=>bif r23 then(Xc K v18 0 a0.k).bind fun r24=>bif r24 then bif v17==0 then bif v18 != 0 then some false else od K a0 v19 v20 else od K a0 v19 v20 else some false else some false else(Xc K v18 0 a0.k).bind fun r27=>bif r27 then bif v17==0 then bif v18 != 0 then some false else od K a0 v19 v20 else od K a0 v19 v20 else some false else some false
def A06 (a0:Sv)(a1:Fy):Option Bool:=(ry K a0).bind fun r1=>bif r1 then(Xc K a1.c 0 3).bind fun r2=>bif r2 then(Xc K a1.a 1 a0.n).bind fun r3=>bif !r3 then some false else bif a1.c != 1 then(A01 K a1).bind fun r4=>some r4 else jr K a0 K ([a1.s,a1.i,a1.u,a1.v]:List Int) (([a1.s,a1.i,a1.u,a1.v]:List Int).length:Int) 0 a1.c a1.a a1.f a1.s a1.t a1.i a1.u a1.v a1.L a1.w a1.x a1.y a1.j else some false else some false
def A5c:=fd Tryz.func212 ⟨[.v 33,.v 77],[.v 4],true⟩ (gC (A0v K) (gC (A5a K) (gC (bq K) (gC (Bnt K) (gC (Bnb K) (gC (Ban K) (gC (A47 K) gN))))))) [8,9,10,13,14,15,16,51,52,55,56,57,61,62,63,64,67,68,74,75,76,77,78,83,84,85,86,89,90,99,100,104,105,106,109,110,111] [31] [(13,[.frzB 102 33])]
def Bnu:E7:=⟨[(2,.p 102),(3,.p 103)],[(103,.box bg),(102,.st 33 true)]⟩
def Bnv:E7:=⟨[(2,.p 102),(3,.p 103),(37,.v 25),(38,.v 2),(39,.v 2)],[(103,.box bg),(102,.st 33 true)]⟩
def Bnw:=jn (A5c K) 31 Bnu [] (fun _ _ _ _ _ _ _ _ _ _ _ l m o=>od K o l m) kN
def Bnx:=lp (A5c K) 122 Bnv [] (fun n a b c d e f g h i j k l m o p q r=>jr K r n a b c d e f g h i j k l m o p q) (fun n=>kC (up (Bnw K)) kN)
def Bny:=ct (A5c K) (A06 K) (kC (Bnx K K) kN)
def ym (K:Nat)(v2 v3:Int)(v4 v5 v6:List Int)(C1:(List Int)->Int->Int->(List Int)->(List Int)->(List Int)->Option (List Int))(v7:List Int):Option (List Int):=C1 v7 v2 (A4 v3 1) v4 v5 v6
def gb (a1:Int):Nat->(List Int)->Int->Int->(List Int)->(List Int)->(List Int)->Option (List Int)
 |0,_,_,_,_,_,_=>none
 |n1+1,v1,v2,v3,v4,v5,v6=>bif decide (v3<v2)then if 0<=v3/\v3<v5.length then bif (gt v5 v3)==1 then if 0<=v3/\v3<v6.length then bif (gt v6 v3)==a1 then if(v1++([v3]:List Int)).length*8<=140737488355328/\(v1++([v3]:List Int)).length<=maxLen then ym K v2 v3 v4 v5 v6 (gb a1 n1) (v1++([v3]:List Int))else none else ym K v2 v3 v4 v5 v6 (gb a1 n1) v1 else none else ym K v2 v3 v4 v5 v6 (gb a1 n1) v1 else none else some v1
def A07 (a0:Pc)(a1:Int):Option (List Int):=gb K a1 K ([]:List Int) (M6 (a0.c.length:Int) (a0.h.length:Int)) 0 a0.g a0.c a0.h
def A5d:=fd Tryz.func119 ⟨[.v 34,.v 3],[.n 25 true],true⟩ gN [23,24] [467]
def A08:E7:=⟨[(1,.v 2),(2,.p 102),(5,.o 1005 3 true),(14,.v 2),(15,.v 2)],[(102,.box da)]⟩
def Bnz:=fun(C58:CT A08 _)=>jn A5d 467 A08 [(58,ar A08 C58)] (fun a b c d e f g=>ym K c d e f g (C58 a) b) kN
def Bn0:=lp A5d 58 A08 [] (fun n a=>gb K a n) (fun n=>kC (Bnz K _) kN)
def Bn1:=ct A5d (A07 K) (kC (Bn0 K K) kN)
def oe (a0:H3)(a1:Sv)(a2:Fy):Nat->Int->Option Bool
 |0,_=>none
 |n1+1,v2=>if a1.k≠(0:Int)then bif decide (v2<=(Afg .i64 (Ap (A4 a0.B a0.D) 1) a1.k))then(se K a2.L v2).bind fun r3=>bif !r3 then some true else oe a0 a1 a2 n1 (A4 v2 1)else some false else none
def yn (a0:H3)(a1:Sv)(a2:Fy):Option Bool:=(si K a1 a0).bind fun r1=>bif !r1 then some true else if a1.k≠(0:Int)then oe K a0 a1 a2 K (Afg .i64 a0.B a1.k)else none
def Bav:=fd Tryz.func293 ⟨[.v 183,.r 33,.r 77],[.v 4],true⟩ (gC (A47 K) (gC (Bas K) gN))
def Bn2:E7:=⟨[(1,.r 33),(2,.r 77),(3,.p 103),(5,.v 2)],[(103,.st 183 true)]⟩
def Bn3:=lp (Bav K) 58 Bn2 [] (fun n a b c d=>oe K d a b n c) (fun n=>kN)
def Bn4:=ct (Bav K) (yn K) (kC (Bn3 K K) kN)
def A09 (a0:List H3)(a1_0:Sv)(a1_1:Fy):Nat->Int->Int->Option Int
 |0,_,_=>none
 |n1+1,v1,v2=>bif decide (v2<v1)then if 0<=v2/\v2<a0.length then(yn K (gt a0 v2) a1_0 a1_1).bind fun r3=>bif r3 then some v2 else A09 a0 a1_0 a1_1 n1 v1 (A4 v2 1)else none else some (-1)
def Baw (a0:List H3)(a1_0:Sv)(a1_1:Fy):Option Int:=A09 K a0 a1_0 a1_1 K (a0.length:Int) 0
def Bax:=fd Tryz.func295 ⟨[.v 75,.f 293 [] [33,77]],[.v 3],true⟩ (gC (Bn4 K) gN)
def Bn5:E7:=⟨[(0,.v 75),(1,.f 293 [] [33,77]),(7,.v 2),(8,.v 2)],[]⟩
def Bn6:=lp (Bax K) 26 Bn5 [] (fun n a b c=>A09 K a b c n) (fun n=>kN)
def Bn7:=ct (Bax K) (Baw K) (kC (Bn6 K K) kN)
def A5e (a0:List H3)(a1_0:Sv)(a1_1:Fy):Option Bool:=(Baw K a0 a1_0 a1_1).bind fun r1=>some (decide (r1>=0))
def Bn8:=ct (fd Tryz.func215 ⟨[.v 75,.f 293 [] [33,77]],[.v 4],true⟩ (gC (Bn7 K) gN)) (A5e K)
def A1a (a0:Sv)(a1:Fy):Option Bool:=(A5e K a1.y a0 a1).bind fun r1=>some (!r1)
def Bn9:=ct (fd Tryz.func213 ⟨[.v 33,.v 77],[.v 4],true⟩ (gC (Bn8 K) gN) [] [] [(1,[.frzB 102 33,.frzB 103 77])]) (A1a K)
def A1b (K:Nat)(v1 v2:H3):Option Bool:=some (decide ((Aly .u64 (IntKind.u64.wrap v1.B) (IntKind.u64.wrap v2.B))>=(IntKind.u64.wrap v2.D)))
def yo (a0 a1:H3):Option Bool:=bif decide (a0.D<=0)then some true else bif decide (a1.D<=0)then some true else bif decide (a0.B>a1.B)then A1b K a0 a1 else A1b K a1 a0
def Bay:=fd Tryz.func217 ⟨[.v 183,.v 183],[.v 4],true⟩ gN [7,8] [7]
def Boa:E7:=⟨[(2,.p 102),(3,.p 103)],[(103,.st 183 true),(102,.st 183 true)]⟩
def Bob:=jn Bay 7 Boa [] (A1b K) kN
def Baz:=ct Bay (yo K) (kC (Bob K) kN)
def A1c (a0 a1:H3):Option Bool:=(yo K a0 a1).bind fun r1=>some (!r1)
def Boc:=ct (fd Tryz.func294 ⟨[.v 183,.r 183],[.v 4],true⟩ (gC (Baz K) gN)) (A1c K)
def A1d (a0:List H3)(a1_0:H3):Nat->Int->Int->Option Int
 |0,_,_=>none
 |n1+1,v1,v2=>bif decide (v2<v1)then if 0<=v2/\v2<a0.length then(A1c K (gt a0 v2) a1_0).bind fun r3=>bif r3 then some v2 else A1d a0 a1_0 n1 v1 (A4 v2 1)else none else some (-1)
def Ba0 (a0:List H3)(a1_0:H3):Option Int:=A1d K a0 a1_0 K (a0.length:Int) 0
def Ba1:=fd Tryz.func295 ⟨[.v 75,.f 294 [] [183]],[.v 3],true⟩ (gC (Boc K) gN)
def Bod:E7:=⟨[(0,.v 75),(1,.f 294 [] [183]),(7,.v 2),(8,.v 2)],[]⟩
def Boe:=lp (Ba1 K) 26 Bod [] (fun n a b=>A1d K a b n) (fun n=>kN)
def Bof:=ct (Ba1 K) (Ba0 K) (kC (Boe K K) kN)
def A5f (a0:List H3)(a1_0:H3):Option Bool:=(Ba0 K a0 a1_0).bind fun r1=>some (decide (r1>=0))
def Bog:=ct (fd Tryz.func215 ⟨[.v 75,.f 294 [] [183]],[.v 4],true⟩ (gC (Bof K) gN)) (A5f K)
def og (a0:List H3):Nat->(List H3)->Int->Int->Option Bool
 |0,_,_,_=>none
 |n1+1,v1,v2,v3=>bif decide (v3<v2)then if 0<=v3/\v3<v1.length then if(0:Int)<=0/\0<=v3/\v3<=a0.length then(A5f K ((a0.drop (0:Int).toNat).take (v3 - 0).toNat) (gt v1 v3)).bind fun r4=>bif r4 then some false else og a0 n1 v1 v2 (A4 v3 1)else none else none else some true
def A1e (a0:List H3):Option Bool:=og K a0 K a0 (a0.length:Int) 0
def Ba2:=fd Tryz.func214 ⟨[.v 75],[.v 4],true⟩ (gC (Bog K) gN) [] [] [(4,[.frzB 104 183])]
def Boh:E7:=⟨[(0,.v 75),(5,.v 75),(6,.v 2),(7,.v 2)],[]⟩
def Boi:=lp (Ba2 K) 26 Boh [] (fun n a=>og K a n) (fun n=>kN)
def Boj:=ct (Ba2 K) (A1e K) (kC (Boi K K) kN)
def A1f (a0 a1:H3):Option Bool:=(yo K a0 a1).bind fun r1=>some (!r1)
def Bok:=ct (fd Tryz.func216 ⟨[.v 183,.r 183],[.v 4],true⟩ (gC (Baz K) gN)) (A1f K)
def A1g (a0:List H3)(a1_0:H3):Nat->Int->Int->Option Int
 |0,_,_=>none
 |n1+1,v1,v2=>bif decide (v2<v1)then if 0<=v2/\v2<a0.length then(A1f K (gt a0 v2) a1_0).bind fun r3=>bif r3 then some v2 else A1g a0 a1_0 n1 v1 (A4 v2 1)else none else some (-1)
def Ba3 (a0:List H3)(a1_0:H3):Option Int:=A1g K a0 a1_0 K (a0.length:Int) 0
def Ba4:=fd Tryz.func295 ⟨[.v 75,.f 216 [] [183]],[.v 3],true⟩ (gC (Bok K) gN)
def Bol:E7:=⟨[(0,.v 75),(1,.f 216 [] [183]),(7,.v 2),(8,.v 2)],[]⟩
def Bom:=lp (Ba4 K) 26 Bol [] (fun n a b=>A1g K a b n) (fun n=>kN)
def Bon:=ct (Ba4 K) (Ba3 K) (kC (Bom K K) kN)
def A5g (a0:List H3)(a1_0:H3):Option Bool:=(Ba3 K a0 a1_0).bind fun r1=>some (decide (r1>=0))
def Boo:=ct (fd Tryz.func215 ⟨[.v 75,.f 216 [] [183]],[.v 4],true⟩ (gC (Bon K) gN)) (A5g K)
def A1h (K:Nat)(v1:List Fy)(v2 v3:Int)(v4 v5:Int)(v6 v7:Int)(v8 v9:Int)(v10 v11 v12:List Int)(v13:List Fy)(v14:List G9)(v15:List Int)(C1:(List Fy)->Int->Int->Int->Int->Int->Int->Int->Int->(List Int)->(List Int)->(List Int)->(List Fy)->(List G9)->(List Int)->Option Bool):Option Bool:=C1 v1 v2 (A4 v3 1) v4 v5 v6 v7 v8 v9 v10 v11 v12 v13 v14 v15
def jt:Nat->(List Fy)->Int->Int->Int->Int->Int->Int->Int->Int->(List Int)->(List Int)->(List Int)->(List Fy)->(List G9)->(List Int)->Option Bool
 |0,_,_,_,_,_,_,_,_,_,_,_,_,_,_,_=>none
 |n1+1,v1,v2,v3,v4,v5,v6,v7,v8,v9,v10,v11,v12,v13,v14,v15=>bif decide (v3<v2)then if 0<=v3/\v3<v1.length then(Zi K (gt v1 v3).L).bind fun r16=>(Aix K r16).bind fun r17=>if r17.length=r16.length then(A06 K (Sv.mk v4 v5 v6 v7 v8 v9) (gt v1 v3)).bind fun r18=>bif r18 then(A07 K (Pc.mk v10 v11 v12) v3).bind fun r19=>(oa K r17 r19).bind fun r20=>bif r20 then(A1a K (Sv.mk v4 v5 v6 v7 v8 v9) (gt v1 v3)).bind fun r21=>bif r21 then(A1e K (gt v1 v3).y).bind fun r22=>bif !r22 then some false else bif (gt v1 v3).w==0 then A1h K v1 v2 v3 v4 v5 v6 v7 v8 v9 v10 v11 v12 v13 v14 v15 (jt n1)else if 0<=(H3.mk (A4 (F2 (Ap (gt v1 v3).w 1) v5) (gt v1 v3).x) (Ap v5 (gt v1 v3).x) 0).B/\(H3.mk (A4 (F2 (Ap (gt v1 v3).w 1) v5) (gt v1 v3).x) (Ap v5 (gt v1 v3).x) 0).B<=(A4 (H3.mk (A4 (F2 (Ap (gt v1 v3).w 1) v5) (gt v1 v3).x) (Ap v5 (gt v1 v3).x) 0).B (H3.mk (A4 (F2 (Ap (gt v1 v3).w 1) v5) (gt v1 v3).x) (Ap v5 (gt v1 v3).x) 0).D)/\(A4 (H3.mk (A4 (F2 (Ap (gt v1 v3).w 1) v5) (gt v1 v3).x) (Ap v5 (gt v1 v3).x) 0).B (H3.mk (A4 (F2 (Ap (gt v1 v3).w 1) v5) (gt v1 v3).x) (Ap v5 (gt v1 v3).x) 0).D)<=v10.length then(nt K ((v10.drop (H3.mk (A4 (F2 (Ap (gt v1 v3).w 1) v5) (gt v1 v3).x) (Ap v5 (gt v1 v3).x) 0).B.toNat).take ((A4 (H3.mk (A4 (F2 (Ap (gt v1 v3).w 1) v5) (gt v1 v3).x) (Ap v5 (gt v1 v3).x) 0).B (H3.mk (A4 (F2 (Ap (gt v1 v3).w 1) v5) (gt v1 v3).x) (Ap v5 (gt v1 v3).x) 0).D) - (H3.mk (A4 (F2 (Ap (gt v1 v3).w 1) v5) (gt v1 v3).x) (Ap v5 (gt v1 v3).x) 0).B).toNat)).bind fun r23=>bif r23 then(A5g K (gt v1 v3).y (H3.mk (A4 (F2 (Ap (gt v1 v3).w 1) v5) (gt v1 v3).x) (Ap v5 (gt v1 v3).x) 0)).bind fun r24=>bif r24 then some false else A1h K v1 v2 v3 v4 v5 v6 v7 v8 v9 v10 v11 v12 v13 v14 v15 (jt n1)else some false else none else some false else some false else some false else none else none else some true
def A1i (a0:H4):Option Bool:=jt K K a0.o (a0.o.length:Int) 0 a0.C.L a0.C.k a0.C.l a0.C.e a0.C.m a0.C.n a0.Q.g a0.Q.c a0.Q.h a0.o a0.p a0.q
def A5h:=fd Tryz.func123 ⟨[.v 38],[.v 4],true⟩ (gC (A0y K) (gC (Bn1 K) (gC (Baj K) (gC (np K) (gC (Aym K) (gC (Bny K) (gC (Bn9 K) (gC (Boj K) (gC (Boo K) gN))))))))) [23,24,25,31,32,33,34,38,39,40,41,78,79,80] [211] [(10,[.frzB 106 183])]
def A1j:E7:=⟨[(1,.p 101),(8,.v 35),(9,.v 2),(10,.v 2)],[(101,.box Wz)]⟩
def Bop:=fun(C26:CT A1j _)=>jn (A5h K) 211 A1j [(26,ar A1j C26)] (fun a b c d e f g h i j k l m o p=>A1h K a b c d e f g h i j k l m o p C26) kN
def Boq:=lp (A5h K) 26 A1j [] (jt K) (fun n=>kC (Bop K _) kN)
def Bor:=ct (A5h K) (A1i K) (kC (Boq K K) kN)
def sj (a0:List Fy)(a1:Int):Option Bool:=bif a1==0 then some true else(aj K a0 (Ap a1 1)).bind fun r1=>bif r1 then if 0<=(Ap a1 1)/\(Ap a1 1)<a0.length then some (((gt a0 (Ap a1 1)).c)==1)else none else some false
def Bos:=ct (fd Tryz.func296 ⟨[.v 35,.v 3],[.v 4],true⟩ (gC (jq K) gN) [6,7,11,12]) (sj K)
def sk (a0:List Fy)(a1:Int):Option Bool:=if 0<=a1/\a1<a0.length then(aj K a0 (Ap (gt a0 a1).s 1)).bind fun r1=>bif r1 then if 0<=(Ap (gt a0 a1).s 1)/\(Ap (gt a0 a1).s 1)<a0.length then bif (gt a0 (Ap (gt a0 a1).s 1)).c==1 then if 0<=(Ap (gt a0 a1).s 1)/\(Ap (gt a0 a1).s 1)<a0.length then if 0<=a1/\a1<a0.length then some (((gt a0 (Ap (gt a0 a1).s 1)).f)==(gt a0 a1).t)else none else none else some false else none else some false else none
def A5i:=ct (fd Tryz.func219 ⟨[.v 35,.v 3],[.v 4],true⟩ (gC (jq K) gN) [14,15,21,22,23]) (sk K)
def yp (a0:List Fy)(a1 v8 v12:Int):Option Bool:=bif v12 != 0 then some true else(sk K a0 a1).bind fun r18=>bif r18 then if 0<=(Ap v8 1)/\(Ap v8 1)<a0.length then some (((gt a0 (Ap v8 1)).i)==(A4 a1 1))else none else some true
def yq (a0:List Fy)(a1 v8 v12:Int):Option Bool:=bif v12 != 0 then if 0<=(Ap v12 1)/\(Ap v12 1)<a0.length then bif (gt a0 (Ap v12 1)).u != (A4 a1 1)then some false else yp K a0 a1 v8 v12 else none else yp K a0 a1 v8 v12
def yr (a0:List Fy)(a1 v8:Int)(v9 v11 v12:Int):Option Bool:=bif v11 != 0 then if 0<=(Ap v11 1)/\(Ap v11 1)<a0.length then bif (gt a0 (Ap v11 1)).v != (A4 a1 1)then some false else bif (gt a0 (Ap v11 1)).s != v8 then some false else bif (gt a0 (Ap v11 1)).t != v9 then some false else yq K a0 a1 v8 v12 else none else yq K a0 a1 v8 v12
def yt (a0:List Fy)(a1 v5:Int)(v6 v7:Int)(v8 v9:Int)(v10 v11 v12:Int)(v13:List Int)(v14 v15:Int)(v16:List H3)(v17:List Int):Option Bool:=bif v10 != 0 then if 0<=(Ap v10 1)/\(Ap v10 1)<a0.length then bif (gt a0 (Ap v10 1)).v != 0 then some false else bif (gt a0 (Ap v10 1)).s != (A4 a1 1)then some false else bif (gt a0 (Ap v10 1)).t != v7 then some false else yr K a0 a1 v8 v9 v11 v12 else none else yr K a0 a1 v8 v9 v11 v12
def A1k (a0:List Fy)(a1:Int):Option Bool:=if 0<=a1/\a1<a0.length then(sj K a0 (gt a0 a1).i).bind fun r1=>bif r1 then(sj K a0 (gt a0 a1).u).bind fun r2=>bif r2 then(sj K a0 (gt a0 a1).v).bind fun r3=>bif r3 then bif (gt a0 a1).s != 0 then(aj K a0 (Ap (gt a0 a1).s 1)).bind fun r4=>bif !r4 then some false else yt K a0 a1 (gt a0 a1).c (gt a0 a1).a (gt a0 a1).f (gt a0 a1).s (gt a0 a1).t (gt a0 a1).i (gt a0 a1).u (gt a0 a1).v (gt a0 a1).L (gt a0 a1).w (gt a0 a1).x (gt a0 a1).y (gt a0 a1).j else yt K a0 a1 (gt a0 a1).c (gt a0 a1).a (gt a0 a1).f (gt a0 a1).s (gt a0 a1).t (gt a0 a1).i (gt a0 a1).u (gt a0 a1).v (gt a0 a1).L (gt a0 a1).w (gt a0 a1).x (gt a0 a1).y (gt a0 a1).j else some false else some false else some false else none
def yu:=fd Tryz.func218 ⟨[.v 35,.v 3],[.v 4],true⟩ (gC (jq K) (gC (A5i K) (gC (Bos K) gN))) [15,16,17,21,22,23,24,28,29,30,31,34,35,55,56,61,62,63,83,84,89,90,91,100,101,115,116,119,120,121,122] [7,15,31,63]
def Bou:=jn (yu K) 63 je [] (fun a b _ _ _ f _ _ _ j _ _ _ _ _=>yp K a b f j) kN
def Bov:=jn (yu K) 31 je [] (fun a b _ _ _ f _ _ _ j _ _ _ _ _=>yq K a b f j) (kC (Bou K) kN)
def Bow:=jn (yu K) 15 je [] (fun a b _ _ _ f g _ i j _ _ _ _ _=>yr K a b f g i j) (kC (Bov K) kN)
def Box:=jn (yu K) 7 je [] (yt K) (kC (Bow K) kN)
def Boy:=ct (yu K) (A1k K) (kC (Box K) kN)
def yv (a0:List Fy):Nat->Int->(List Int)->Option (List Int)
 |0,_,_=>none
 |n1+1,v1,v2=>(aj K a0 v1).bind fun r3=>bif r3 then bif decide ((v2.length:Int)<a0.length)then if(v2++([v1]:List Int)).length*8<=140737488355328/\(v2++([v1]:List Int)).length<=maxLen then if 0<=v1/\v1<a0.length then yv a0 n1 (Ap (gt a0 v1).s 1) (v2++([v1]:List Int))else none else none else some v2 else some v2
def A1l (a0:List Fy)(a1:Int):Option (List Int):=yv K a0 K a1 ([]:List Int)
def Ba5:=fd Tryz.func202 ⟨[.v 35,.v 3],[.n 25 true],true⟩ (gC (jq K) gN) [9,10]
def Boz:=lp (Ba5 K) 28 h_4 [] (fun n a=>yv K a n) (fun n=>kN)
def Bo0:=ct (Ba5 K) (A1l K) (kC (Boz K K) kN)
def A1m (K:Nat)(v1:List Fy)(v2 v3:Int)(C1:(List Fy)->Int->Int->Option Bool):Option Bool:=C1 v1 v2 (A4 v3 1)
def ju (a0:List Fy):Nat->(List Fy)->Int->Int->Option Bool
 |0,_,_,_=>none
 |n1+1,v1,v2,v3=>bif decide (v3<v2)then if 0<=v3/\v3<v1.length then bif (gt v1 v3).c != 1 then A1m K v1 v2 v3 (ju a0 n1)else(A1k K a0 v3).bind fun r4=>bif !r4 then some false else(A1l K a0 v3).bind fun r5=>bif decide ((r5.length:Int)>4)then some false else if 0<=(Ap r5.length 1)/\(Ap r5.length 1)<r5.length then(sk K a0 (gt r5 (Ap r5.length 1))).bind fun r6=>bif r6 then some false else A1m K v1 v2 v3 (ju a0 n1)else none else none else some true
def A1n (a0:List Fy):Option Bool:=ju K a0 K a0 (a0.length:Int) 0
def A5j:=fd Tryz.func124 ⟨[.v 35],[.v 4],true⟩ (gC (Bo0 K) (gC (Boy K) (gC (A5i K) gN))) [25,26] [211]
def A1o:E7:=⟨[(0,.v 35),(6,.v 35),(7,.v 2),(8,.v 2)],[]⟩
def Bo1:=fun(C26:CT A1o _)=>jn (A5j K) 211 A1o [(26,ar A1o C26)] (fun a b c d=>A1m K b c d (C26 a)) kN
def Bo2:=lp (A5j K) 26 A1o [] (fun n a=>ju K a n) (fun n=>kC (Bo1 K _) kN)
def Bo3:=ct (A5j K) (A1n K) (kC (Bo2 K K) kN)
def sl (a0:List Fy)(a1:Int):Option Bool:=if 0<=a1/\a1<a0.length then bif (gt a0 a1).c==1 then if 0<=a1/\a1<a0.length then bif (gt a0 a1).s != 0 then(sk K a0 a1).bind fun r1=>some (!r1)else some false else none else some false else none
def Bo4:=ct (fd Tryz.func221 ⟨[.v 35,.v 3],[.v 4],true⟩ (gC (A5i K) gN) [10,11,17,18,19]) (sl K)
def A1p (a0:Sv)(a1:G9):Option Bool:=(ry K a0).bind fun r1=>bif r1 then(Xc K a1.d 0 a0.l).bind fun r2=>bif r2 then(Xc K a1.i 0 a0.l).bind fun r3=>bif r3 then bif decide ((a1.j.length:Int)<=6)then(sf K a1.j).bind fun r4=>bif r4 then(yl K a0 a1.L).bind fun r5=>bif r5 then(Xc K a1.z 0 (Ap a0.k 1)).bind fun r6=>bif r6 then bif decide ((a1.L.length:Int)>0)then some true else some (a1.z==0)else some false else some false else some false else some false else some false else some false else some false
def Bo5:=ct (fd Tryz.func220 ⟨[.v 33,.v 79],[.v 4],true⟩ (gC (A0v K) (gC (A5a K) (gC (bq K) (gC (Ban K) gN)))) [6,7,12,13,14,19,20,21,25,26,27,30,31,32,36,37,38,44,45,46,50,51]) (A1p K)
def oh (v4:List G9)(v5 v6:Int)(v7 v8:Int)(v9 v10:Int)(v11 v12:Int)(v13 v14 v15:List Int)(v16:List Fy)(v17:List G9)(v18 v27 v31:List Int)(r32:(List Int))(C1:(List Int)->(List Int)->(List Int)->(List G9)->Int->Int->Int->Int->Int->Int->Int->Int->(List Int)->(List Int)->(List Int)->(List Fy)->(List G9)->(List Int)->Option Bool):Nat->(List Int)->Int->Int->Option Bool
 |0,_,_,_=>none
 |n6+1,v33,v34,v35=>bif decide (v35<v34)then if 0<=v35/\v35<r32.length then if 0<=(gt r32 v35)/\(gt r32 v35)<v33.length then if 0<=(gt r32 v35)/\(gt r32 v35)<v33.length then(sl K v16 (gt r32 v35)).bind fun r36=>bif !r36 then some false else oh v4 v5 v6 v7 v8 v9 v10 v11 v12 v13 v14 v15 v16 v17 v18 v27 v31 r32 C1 n6 (v33.set (gt r32 v35).toNat (A4 (gt v33 (gt r32 v35)) 1)) v34 (A4 v35 1)else none else none else none else C1 v27 v31 v33 v4 v5 (A4 v6 1) v7 v8 v9 v10 v11 v12 v13 v14 v15 v16 v17 v18
def yw (v3:List Int)(v4:List G9)(v5 v6:Int)(v7 v8:Int)(v9 v10:Int)(v11 v12:Int)(v13 v14 v15:List Int)(v16:List Fy)(v17:List G9)(v18:List Int)(v23:Int)(v27 v31:List Int)(C1:(List Int)->(List Int)->(List Int)->(List G9)->Int->Int->Int->Int->Int->Int->Int->Int->(List Int)->(List Int)->(List Int)->(List Fy)->(List G9)->(List Int)->Option Bool):Option Bool:=(rt K v16 v23).bind fun r32=>oh K v4 v5 v6 v7 v8 v9 v10 v11 v12 v13 v14 v15 v16 v17 v18 v27 v31 r32 (C1) K v3 (r32.length:Int) 0
def yx (v3:List Int)(v4:List G9)(v5 v6:Int)(v7 v8:Int)(v9 v10:Int)(v11 v12:Int)(v13 v14 v15:List Int)(v16:List Fy)(v17:List G9)(v18:List Int)(v23:Int)(v27:List Int)(C1:(List Int)->(List Int)->(List Int)->(List G9)->Int->Int->Int->Int->Int->Int->Int->Int->(List Int)->(List Int)->(List Int)->(List Fy)->(List G9)->(List Int)->Option Bool)(v31:List Int):Option Bool:=bif decide (v23>0)then if 0<=(Ap v23 1)/\(Ap v23 1)<v16.length then bif (gt v16 (Ap v23 1)).v != 0 then some false else yw K v3 v4 v5 v6 v7 v8 v9 v10 v11 v12 v13 v14 v15 v16 v17 v18 v23 v27 v31 (C1)else none else yw K v3 v4 v5 v6 v7 v8 v9 v10 v11 v12 v13 v14 v15 v16 v17 v18 v23 v27 v31 (C1)
def oi (v2 v3:List Int)(v4:List G9)(v5 v6:Int)(v7 v8:Int)(v9 v10:Int)(v11 v12:Int)(v13 v14 v15:List Int)(v16:List Fy)(v17:List G9)(v18:List Int)(v22 v23:Int)(v25:List Int)(C1:(List Int)->(List Int)->(List Int)->(List G9)->Int->Int->Int->Int->Int->Int->Int->Int->(List Int)->(List Int)->(List Int)->(List Fy)->(List G9)->(List Int)->Option Bool):Nat->(List Int)->Int->Int->(List Int)->Option Bool
 |0,_,_,_,_=>none
 |n3+1,v27,v28,v29,v30=>bif decide (v29<v28)then if 0<=v29/\v29<v25.length then if 0<=(gt v25 v29)/\(gt v25 v29)<v27.length then if 0<=(gt v25 v29)/\(gt v25 v29)<v27.length then if 0<=(gt v25 v29)/\(gt v25 v29)<v14.length then bif (gt v14 (gt v25 v29)) != 2 then some false else oi v2 v3 v4 v5 v6 v7 v8 v9 v10 v11 v12 v13 v14 v15 v16 v17 v18 v22 v23 v25 C1 n3 (v27.set (gt v25 v29).toNat (A4 (gt v27 (gt v25 v29)) 1)) v28 (A4 v29 1) v30 else none else none else none else none else bif decide (v22>0)then if 0<=(Ap v22 1)/\(Ap v22 1)<v2.length then if 0<=(Ap v22 1)/\(Ap v22 1)<v2.length then if 0<=(Ap v22 1)/\(Ap v22 1)<v16.length then bif (gt v16 (Ap v22 1)).c != 2 then some false else yx K v3 v4 v5 v6 v7 v8 v9 v10 v11 v12 v13 v14 v15 v16 v17 v18 v23 v27 (C1) (v2.set (Ap v22 1).toNat (A4 (gt v2 (Ap v22 1)) 1))else none else none else none else yx K v3 v4 v5 v6 v7 v8 v9 v10 v11 v12 v13 v14 v15 v16 v17 v18 v23 v27 (C1) v2
def yy (v1 v2 v3:List Int)(v4:List G9)(v5 v6:Int)(v7 v8:Int)(v9 v10:Int)(v11 v12:Int)(v13 v14 v15:List Int)(v16:List Fy)(v17:List G9)(v18:List Int)(C1:(List Int)->(List Int)->(List Int)->(List G9)->Int->Int->Int->Int->Int->Int->Int->Int->(List Int)->(List Int)->(List Int)->(List Fy)->(List G9)->(List Int)->Option Bool)(v22 v23:Int)(v24 v25:List Int)(v26:Int):Option Bool:=oi K v2 v3 v4 v5 v6 v7 v8 v9 v10 v11 v12 v13 v14 v15 v16 v17 v18 v22 v23 v25 (C1) K v1 (v25.length:Int) 0 v25
def A1q (K:Nat)(v37 v38:Int)(v39:List Int)(C7:Int->Int->(List Int)->Option Bool):Option Bool:=C7 v37 (A4 v38 1) v39
def sm (K:Nat)(v40 v41:Int)(v42:List Fy)(C9:Int->Int->(List Fy)->Option Bool):Option Bool:=C9 v40 (A4 v41 1) v42
def bt (v2 v3:List Int)(v16:List Fy):Nat->Int->Int->(List Fy)->Option Bool
 |0,_,_,_=>none
 |n9+1,v40,v41,v42=>bif decide (v41<v40)then if 0<=v41/\v41<v16.length then bif (gt v16 v41).c==2 then if 0<=v41/\v41<v2.length then bif (gt v2 v41) != 1 then some false else(sl K v42 v41).bind fun r43=>bif r43 then if 0<=v41/\v41<v3.length then bif (gt v3 v41) != 1 then some false else sm K v40 v41 v42 (bt v2 v3 v16 n9)else none else sm K v40 v41 v42 (bt v2 v3 v16 n9)else none else(sl K v42 v41).bind fun r44=>bif r44 then if 0<=v41/\v41<v3.length then bif (gt v3 v41) != 1 then some false else sm K v40 v41 v42 (bt v2 v3 v16 n9)else none else sm K v40 v41 v42 (bt v2 v3 v16 n9)else none else some true
def gd (v1 v2:List Int)(v3 v14:List Int)(v16:List Fy):Nat->Int->Int->(List Int)->Option Bool
 |0,_,_,_=>none
 |n7+1,v37,v38,v39=>bif decide (v38<v37)then if 0<=v38/\v38<v14.length then bif (gt v14 v38)==2 then if 0<=v38/\v38<v1.length then bif (gt v1 v38) != 1 then some false else A1q K v37 v38 v39 (gd v1 v2 v3 v14 v16 n7)else none else A1q K v37 v38 v39 (gd v1 v2 v3 v14 v16 n7)else none else bt K v2 v3 v16 K (v16.length:Int) 0 v16
def Yo:Nat->(List Int)->(List Int)->(List Int)->(List G9)->Int->Int->Int->Int->Int->Int->Int->Int->(List Int)->(List Int)->(List Int)->(List Fy)->(List G9)->(List Int)->Option Bool
 |0,_,_,_,_,_,_,_,_,_,_,_,_,_,_,_,_,_,_=>none
 |n1+1,v1,v2,v3,v4,v5,v6,v7,v8,v9,v10,v11,v12,v13,v14,v15,v16,v17,v18=>bif decide (v6<v5)then if 0<=v6/\v6<v4.length then(A1p K (Sv.mk v7 v8 v9 v10 v11 v12) (gt v4 v6)).bind fun r19=>bif r19 then bif decide (((gt v4 v6).L.length:Int)>0)then if(0:Int)<=0/\0<(((gt v4 v6).L).length:Int)then(rz K (Pc.mk v13 v14 v15) (Sv.mk v7 v8 v9 v10 v11 v12) (gt (gt v4 v6).L 0)).bind fun r20=>if(0:Int)<=0/\0<=(gt v4 v6).z/\(gt v4 v6).z<=r20.length then(nt K ((r20.drop (0:Int).toNat).take (((gt v4 v6).z) - 0).toNat)).bind fun r21=>bif !r21 then some false else yy K v1 v2 v3 v4 v5 v6 v7 v8 v9 v10 v11 v12 v13 v14 v15 v16 v17 v18 (Yo n1) (gt v4 v6).d (gt v4 v6).i (gt v4 v6).j (gt v4 v6).L (gt v4 v6).z else none else none else yy K v1 v2 v3 v4 v5 v6 v7 v8 v9 v10 v11 v12 v13 v14 v15 v16 v17 v18 (Yo n1) (gt v4 v6).d (gt v4 v6).i (gt v4 v6).j (gt v4 v6).L (gt v4 v6).z else some false else none else gd K v1 v2 v3 v14 v16 K (v14.length:Int) 0 v14
def A1r (a0:H4):Option Bool:=if 0<=a0.C.L/\a0.C.L<=a0.C.L/\(8:Int)*a0.C.L<=281474976710656/\a0.C.L<=9223372036854775807 then if 0<=a0.C.l/\a0.C.l<=a0.C.l/\(8:Int)*a0.C.l<=281474976710656/\a0.C.l<=9223372036854775807 then if 0<=a0.C.l/\a0.C.l<=a0.C.l/\(8:Int)*a0.C.l<=281474976710656/\a0.C.l<=9223372036854775807 then Yo K K (List.replicate a0.C.L.toNat (0:Int)) (List.replicate a0.C.l.toNat (0:Int)) (List.replicate a0.C.l.toNat (0:Int)) a0.p (a0.p.length:Int) 0 a0.C.L a0.C.k a0.C.l a0.C.e a0.C.m a0.C.n a0.Q.g a0.Q.c a0.Q.h a0.o a0.p a0.q else none else none else none
def bu:=fd Tryz.func125 ⟨[.v 38],[.v 4],true⟩ (gC (A0y K) (gC (A4t K) (gC (A4z K) (gC (Bo5 K) (gC (Bo4 K) gN))))) [38,39,40,44,45,105,106,150,151,169,170,175,176,177,181,182] [979,2003,3737,14951,29903]
def Bo6:E7:=⟨[(1,.p 101),(3,.o 1003 3 true),(4,.o 1004 3 true),(5,.o 1005 3 true),(29,.v 36),(30,.v 2),(31,.v 2),(121,.v 25),(122,.v 2),(123,.v 2)],[(101,.box Wz)]⟩
def A5k:E7:=⟨[(1,.p 101),(3,.o 1003 3 true),(4,.o 1004 3 true),(5,.o 1005 3 true),(7,.p 107),(29,.v 36),(30,.v 2),(31,.v 2)],[(107,.box me),(101,.box Wz)]⟩
def Bo7:E7:=⟨[(1,.p 101),(3,.o 1003 3 true),(4,.o 1004 3 true),(5,.o 1005 3 true),(7,.p 107),(29,.v 36),(30,.v 2),(31,.v 2),(63,.v 25),(64,.v 2),(65,.v 2)],[(107,.box me),(101,.box Wz)]⟩
def A1s:E7:=⟨[(1,.p 101),(3,.o 1003 3 true),(4,.o 1004 3 true),(5,.o 1005 3 true),(142,.v 25),(143,.v 2),(144,.v 2)],[(101,.box Wz)]⟩
def A1t:E7:=⟨[(1,.p 101),(4,.o 1004 3 true),(5,.o 1005 3 true),(160,.v 35),(161,.v 2),(162,.v 2)],[(101,.box Wz)]⟩
def bw:E7:=⟨[(1,.p 101),(3,.o 1003 3 true),(4,.o 1004 3 true),(5,.o 1005 3 true),(29,.v 36),(30,.v 2),(31,.v 2)],[(101,.box Wz)]⟩
def Bo8:=fun(C58:CT bw _)=>lp (bu K) 239230 Bo6 [(58,ar bw C58)] (fun n a b c d e f g h i j k l m o p q r s t u v=>oh K d e f j k l m o p q r s t u v a b g C58 n c h i) (fun n=>kN)
def Bo9:=fun(C58:CT bw _)=>jn (bu K) 29903 A5k [(58,ar bw C58)] (fun a b c d e f _ h _ _ _ l m o p q r s t u v w x=>yw K c d e f l m o p q r s t u v w x h a b C58) (kC (Bo8 K _ K) kN)
def Bpa:=fun(C58:CT bw _)=>jn (bu K) 14951 A5k [(58,ar bw C58)] (fun a b c d e f _ h _ _ _ l m o p q r s t u v w x=>yx K c d e f l m o p q r s t u v w x h a C58 b) (kC (Bo9 K _) kN)
def Bpb:=fun(C58:CT bw _)=>lp (bu K) 59802 Bo7 [(58,ar bw C58)] (fun n a b c d e f g h i j k _ m _ p q r s t u v w x y z a1=>oi K b c d e f p q r s t u v w x y z a1 j k g C58 n a h i m) (fun n=>kC (up (Bpa K _)) kN)
def Bpc:=fun(C58:CT bw _)=>jn (bu K) 3737 A5k [(58,ar bw C58)] (fun a b c d e f g h i j k l m o p q r s t u v w x=>yy K a b c d e f l m o p q r s t u v w x C58 g h i j k) (kC (Bpb K _ K) kN)
def Bpd:=fun(C122:CT A1s _)=>jn (bu K) 979 A1s [(122,ar A1s C122)] (fun a b c d e f g h i j k l m o p q r s=>A1q K e f o (fun v37 v38 v39=>C122 a b c d v37 v38 g h i j k l m v39 p q r s)) kN
def Bpe:=fun(C250:CT A1t _)=>jn (bu K) 2003 A1t [(250,ar A1t C250)] (fun a b c d e f g h i j k l m o p q r=>sm K d e p (fun v40 v41 v42=>C250 a b c v40 v41 f g h i j k l m o v42 q r)) kN
def Bpf:=lp (bu K) 250 A1t [] (fun n a b c d e _ _ _ _ _ _ _ _ _ p _ _=>bt K a b c n d e p) (fun n=>kC (Bpe K _) kN)
def Bpg:=lp (bu K) 122 A1s [] (fun n a b c d e f _ _ _ _ _ _ _ o _ q _ _=>gd K a b c d q n e f o) (fun n=>kC (Bpd K _) (kC (up (Bpf K K)) kN))
def Bph:=lp (bu K) 58 bw [] (Yo K) (fun n=>kC (Bpc K _) (kC (up (Bpg K K)) kN))
def Bpi:=ct (bu K) (A1r K) (kC (Bph K K) kN)
def yz (a0:H4):Option Bool:=(yj K a0.C a0.Q).bind fun r1=>bif r1 then bif (a0.o.length:Int)==a0.C.l then(A1i K a0).bind fun r2=>bif r2 then(A1n K a0.o).bind fun r3=>bif r3 then(A1r K a0).bind fun r4=>bif r4 then(sf K a0.q).bind fun r5=>some r5 else some false else some false else some false else some false else some false
def Ba6:=ct (fd Tryz.func32 ⟨[.v 38],[.v 4],true⟩ (gC (Bah K) (gC (Bor K) (gC (Bo3 K) (gC (Bpi K) (gC (A5a K) gN))))) [7,8,15,16,17,19,20,21,24,25,26,28,29,30]) (yz K)
def A5l (K:Nat):Option Bool:=some true
def Bpj:=ct (fd Tryz.func167 ⟨[],[.v 4],true⟩ gN) (A5l K)
def A5m (K:Nat)(a0:G9):Option Int:=bif decide ((a0.j.length:Int)>0)then some 1 else bif decide ((a0.L.length:Int)>0)then some 2 else bif a0.i != 0 then some 3 else some 4
def Bpk:=ct (fd Tryz.func264 ⟨[.v 79],[.v 3],true⟩ gN) (A5m K)
def A1u (K:Nat)(v7:Bool)(v9:Pc):Option (Pc×Bool):=some (v9,v7)
def za (a0:Sv)(a2 a3:Int)(r1:Pc)(v7:Bool)(v8:Pc):Option (Pc×Bool):=if 0<=(F2 a2 a0.k)/\(F2 a2 a0.k)<(F2 (A4 a2 1) a0.k)/\(F2 (A4 a2 1) a0.k)<=r1.g.length then if 0<=a3/\a3<=(M6 (A4 a3 a0.m) a0.k)/\(M6 (A4 a3 a0.m) a0.k)<=(F2 (A4 a2 1) a0.k) - (F2 a2 a0.k)then if 0<(((F2 a2 a0.k)+(M6 (A4 a3 a0.m) a0.k)) - ((F2 a2 a0.k)+a3)).toNat then bif v7 then if 0<=a2/\a2<r1.c.length then A1u K v7 (Pc.mk (r1.g.take ((F2 a2 a0.k)+a3).toNat++List.replicate (((F2 a2 a0.k)+(M6 (A4 a3 a0.m) a0.k)) - ((F2 a2 a0.k)+a3)).toNat 0++r1.g.drop (((F2 a2 a0.k)+a3).toNat+(((F2 a2 a0.k)+(M6 (A4 a3 a0.m) a0.k)) - ((F2 a2 a0.k)+a3)).toNat)) (r1.c.set a2.toNat 0) r1.h)else none else A1u K v7 (Pc.mk (r1.g.take ((F2 a2 a0.k)+a3).toNat++List.replicate (((F2 a2 a0.k)+(M6 (A4 a3 a0.m) a0.k)) - ((F2 a2 a0.k)+a3)).toNat 0++r1.g.drop (((F2 a2 a0.k)+a3).toNat+(((F2 a2 a0.k)+(M6 (A4 a3 a0.m) a0.k)) - ((F2 a2 a0.k)+a3)).toNat)) r1.c r1.h)else none else none else none
def A1v (a0:Sv)(a1:Pc)(a2 a3:Int):Option (Pc×Bool):=(rx K a1).bind fun r1=>(yj K a0 a1).bind fun r2=>bif r2 then(Xc K a2 0 (Ap a0.L 1)).bind fun r3=>bif r3 then if 0<=a2/\a2<a1.c.length then bif (gt a1.c a2) != 2 then some (r1,false)else(Xc K a3 0 (Ap a0.k 1)).bind fun r4=>bif !r4 then some (r1,false)else bif decide ((A4 a3 a0.m)>=a0.k)then(rz K a1 a0 a2).bind fun r5=>if(0:Int)<=0/\0<=a3/\a3<=r5.length then(nt K ((r5.drop (0:Int).toNat).take (a3 - 0).toNat)).bind fun r6=>bif !r6 then some (r1,false)else za K a0 a2 a3 r1 (decide ((A4 a3 a0.m)>=a0.k)) (Pc.mk [] [] [])else none else za K a0 a2 a3 r1 (decide ((A4 a3 a0.m)>=a0.k)) (Pc.mk [] [] [])else none else some (r1,false)else some (r1,false)
def A5n:=fk Tryz.func265 ⟨[.v 33,.v 34,.v 3,.v 3],[.n 34 true,.v 4],true⟩ (gC (A0y K) (gC (Bah K) (gC (bq K) (gC (A4z K) (gC (A4y K) gN))))) oN (Ayc (d:=65) (q:=Ail tyU tab 209) (Ayj Ayk Ayq) (Ayc (d:=74) (q:=Aim tyU tab) (Ayi) Ayb)) [16,17,18,23,24,25,26,32,33,34,50,51] [31,127] [(7,[.take 110 0 6760,.take 110 1 6761,.take 110 2 6762]),(10,[.take 110 0 6760,.take 110 1 6761,.take 110 2 6762])]
def Bpl:E7:=⟨[(8,.p 108),(10,.p 110),(11,.v 4)],[(110,.st 34 true),(108,.st 34 true)]⟩
def Bpm:E7:=⟨[(2,.v 2),(3,.v 2),(4,.p 104),(8,.p 108),(10,.p 110),(11,.v 4)],[(110,.st 34 true),(108,.st 34 true),(104,.st 33 true)]⟩
def Bpn:=jn (A5n K) 127 Bpl [] (fun a b _=>A1u K a b) kN
def Bpo:=jn (A5n K) 31 Bpm [] (fun a b c d e f=>za K f a b d c e) (kC (Bpn K) kN)
def Bpp:=ct (A5n K) (A1v K) (kC (Bpo K) kN)
def zb (K:Nat)(v3 v4:Pc):Option Pc:=some v3
def A1w (a0:Pc)(a1:Int):Option Pc:=(rx K a0).bind fun r1=>(Xc K a1 0 (Ap (M6 (a0.c.length:Int) (a0.h.length:Int)) 1)).bind fun r2=>bif r2 then if 0<=a1/\a1<a0.c.length then bif (gt a0.c a1)==1 then if 0<=a1/\a1<r1.c.length then if 0<=a1/\a1<r1.h.length then zb K (Pc.mk r1.g (r1.c.set a1.toNat 2) (r1.h.set a1.toNat (-1))) (Pc.mk [] [] [])else none else none else zb K r1 (Pc.mk [] [] [])else none else zb K r1 (Pc.mk [] [] [])
def Ba7:=fd Tryz.func285 ⟨[.v 34,.v 3],[.n 34 true],true⟩ (gC (bq K) (gC (A4y K) gN)) [17,18] [7] [(4,[.take 105 0 6680,.take 105 1 6681,.take 105 2 6682])]
def Bpq:=jn (Ba7 K) 7 A8y [] (zb K) kN
def Bpr:=ct (Ba7 K) (A1w K) (kC (Bpq K) kN)
def ol:Nat->(List Int)->Int->Int->Int->Int->Int->Int->Int->Int->(List Int)->(List Int)->(List Int)->(List Fy)->(List G9)->(List Int)->Option H4
 |0,_,_,_,_,_,_,_,_,_,_,_,_,_,_,_=>none
 |n1+1,v1,v2,v3,v4,v5,v6,v7,v8,v9,v10,v11,v12,v13,v14,v15=>bif decide (v3<v2)then if 0<=v3/\v3<v1.length then(A1w K (Pc.mk v10 v11 v12) (gt v1 v3)).bind fun r16=>ol n1 v1 v2 (A4 v3 1) v4 v5 v6 v7 v8 v9 r16.g r16.c r16.h v13 v14 v15 else none else some (H4.mk (Sv.mk v4 v5 v6 v7 v8 v9) (Pc.mk v10 v11 v12) v13 v14 v15)
def A1x (a0:H4)(a1:Int):Option H4:=if 0<=a1/\a1<a0.o.length then ol K K (gt a0.o a1).L (((gt a0.o a1).L).length:Int) 0 a0.C.L a0.C.k a0.C.l a0.C.e a0.C.m a0.C.n a0.Q.g a0.Q.c a0.Q.h a0.o a0.p a0.q else none
def Ba8:=fd Tryz.func204 ⟨[.b 10038 false,.v 3],[],false⟩ (gC (Bpr K) gN) [] [] [(0,[.take 1 9 5025]),(3,[.take 1 6 5022,.take 1 7 5023,.take 1 8 5024])]
def Bps:E7:=⟨[(0,.p 1),(13,.v 25),(14,.v 2),(15,.v 2)],[(1,.box bx0)]⟩
def Bpt:=lp (Ba8 K) 6 Bps [] (ol K) (fun n=>kN)
def Bpu:=ct (Ba8 K) (A1x K) (kC (Bpt K K) kN)
def A5o (K:Nat)(a0:Fy):Option Fy:=some (Fy.mk 2 a0.a 0 0 0 0 0 0 [] 0 0 [] [])
def Bpv:=ct (fd Tryz.func206 ⟨[.v 77],[.n 77 false],true⟩ gN) (A5o K)
def A1y (a0:Fy)(a1:Int):Option G9:=(Zi K a0.j).bind fun r1=>(Zi K a0.L).bind fun r2=>some (G9.mk a1 a0.i r1 r2 0)
def Bpw:=ct (fd Tryz.func203 ⟨[.v 77,.v 3],[.n 79 true],true⟩ (gC (np K) gN)) (A1y K)
def zd (K:Nat)(v3:List Fy):Option (List Fy):=some v3
def A1z (a0:List Fy)(a1 a2:Int):Option (List Fy):=(yh K a0).bind fun r1=>(aj K a0 a1).bind fun r2=>bif !r2 then zd K r1 else if 0<=a1/\a1<a0.length then bif decide (((gt a0 a1).a)>=a2)then if 0<=a1/\a1<r1.length then if 0<=a1/\a1<a0.length then if 0<=a1/\a1<r1.length then zd K (r1.set a1.toNat (Fy.mk 3 (gt a0 a1).a 0 0 0 0 0 0 [] 0 0 [] []))else none else none else none else if 0<=a1/\a1<r1.length then if 0<=a1/\a1<a0.length then if 0<=a1/\a1<r1.length then zd K (r1.set a1.toNat (Fy.mk 0 (A4 (gt a0 a1).a 1) 0 0 0 0 0 0 [] 0 0 [] []))else none else none else none else none
def Ba9:=fd Tryz.func268 ⟨[.v 35,.v 3,.v 3],[.n 35 true],false⟩ (gC (jq K) (gC (Bac K) gN)) [] [7] [(2,[.opn 1007 (.tmp 1)]),(5,[.opn 1007 (.tmp 1)])]
def Bpx:=jn (Ba9 K) 7 A37 [] (zd K) kN
def Bpy:=ct (Ba9 K) (A1z K) (kC (Bpx K) kN)
def ze (v6 v7:Int)(v8 v9:Int)(v10 v11 v12:Int)(v13 v14 v15:List Int)(v16:List Fy)(v17:List G9)(v18:List Int)(v19 v20:Int)(v21 v22:Int)(v23 v24:Int)(v25 v26:Int)(v27:List Int)(v28 v29:Int)(v30:List H3)(v31:List Int):Option H4:=(A5o K (Fy.mk v19 v20 v21 v22 v23 v24 v25 v26 v27 v28 v29 v30 v31)).bind fun r32=>if 0<=v6/\v6<v16.length then(A1y K (Fy.mk v19 v20 v21 v22 v23 v24 v25 v26 v27 v28 v29 v30 v31) (A4 v6 1)).bind fun r33=>if(v17.length+1)*72<=140737488355328/\v17.length+1<=maxLen then some (H4.mk (Sv.mk v7 v8 v9 v10 v11 v12) (Pc.mk v13 v14 v15) (v16.set v6.toNat r32) (((default:G9)::v17).set (0:Int).toNat r33) v18)else none else none
def zf (a0:H4):Option H4:=if(0:Int)<=0/\0<(a0.p.length:Int)then(A5m K (gt a0.p 0)).bind fun r1=>bif r1==1 then if 0<=(Ap (((gt a0.p 0).j).length:Int) 1)/\(Ap (((gt a0.p 0).j).length:Int) 1)<(((gt a0.p 0).j).length:Int)then if(a0.q++([(gt (gt a0.p 0).j (Ap (((gt a0.p 0).j).length:Int) 1))]:List Int)).length*8<=140737488355328/\(a0.q++([(gt (gt a0.p 0).j (Ap (((gt a0.p 0).j).length:Int) 1))]:List Int)).length<=maxLen then if(0:Int)<=0/\0<=(Ap (((gt a0.p 0).j).length:Int) 1)/\(Ap (((gt a0.p 0).j).length:Int) 1)<=(((gt a0.p 0).j).length:Int)then some (H4.mk a0.C a0.Q a0.o (a0.p.set (0:Int).toNat (G9.mk (gt a0.p 0).d (gt a0.p 0).i (((gt a0.p 0).j).take (Ap (((gt a0.p 0).j).length:Int) 1).toNat) (gt a0.p 0).L (gt a0.p 0).z)) (a0.q++([(gt (gt a0.p 0).j (Ap (((gt a0.p 0).j).length:Int) 1))]:List Int)))else none else none else none else bif r1==2 then if(0:Int)<=0/\0<(((gt a0.p 0).L).length:Int)then(A1v K a0.C a0.Q (gt (gt a0.p 0).L 0) (gt a0.p 0).z).bind fun r2=>bif r2.2 then if 0<(gt a0.p 0).L.length then some (H4.mk a0.C r2.1 a0.o (a0.p.set (0:Int).toNat (G9.mk (gt a0.p 0).d (gt a0.p 0).i (gt a0.p 0).j (((gt a0.p 0).L).drop 1) 0)) a0.q)else none else some (H4.mk a0.C r2.1 a0.o (a0.p.set (0:Int).toNat (G9.mk (gt a0.p 0).d (gt a0.p 0).i (gt a0.p 0).j (gt a0.p 0).L (A4 (gt a0.p 0).z a0.C.m))) a0.q)else none else bif r1==3 then if 0<=(Ap (gt a0.p 0).i 1)/\(Ap (gt a0.p 0).i 1)<a0.o.length then(A1x K (H4.mk a0.C a0.Q a0.o (a0.p.set (0:Int).toNat (G9.mk (gt a0.p 0).d (gt a0.o (Ap (gt a0.p 0).i 1)).u (gt a0.p 0).j (gt a0.p 0).L (gt a0.p 0).z)) a0.q) (Ap (gt a0.p 0).i 1)).bind fun r3=>(aj K r3.o (Ap (gt a0.o (Ap (gt a0.p 0).i 1)).u 1)).bind fun r4=>bif r4 then if 0<=(Ap (gt a0.o (Ap (gt a0.p 0).i 1)).u 1)/\(Ap (gt a0.o (Ap (gt a0.p 0).i 1)).u 1)<r3.o.length then Ax5 (r3.o.set (Ap (gt a0.o (Ap (gt a0.p 0).i 1)).u 1).toNat (Fy.mk (gt r3.o (Ap (gt a0.o (Ap (gt a0.p 0).i 1)).u 1)).c (gt r3.o (Ap (gt a0.o (Ap (gt a0.p 0).i 1)).u 1)).a (gt r3.o (Ap (gt a0.o (Ap (gt a0.p 0).i 1)).u 1)).f (gt r3.o (Ap (gt a0.o (Ap (gt a0.p 0).i 1)).u 1)).s (gt r3.o (Ap (gt a0.o (Ap (gt a0.p 0).i 1)).u 1)).t (gt r3.o (Ap (gt a0.o (Ap (gt a0.p 0).i 1)).u 1)).i (gt r3.o (Ap (gt a0.o (Ap (gt a0.p 0).i 1)).u 1)).u 0 (gt r3.o (Ap (gt a0.o (Ap (gt a0.p 0).i 1)).u 1)).L (gt r3.o (Ap (gt a0.o (Ap (gt a0.p 0).i 1)).u 1)).w (gt r3.o (Ap (gt a0.o (Ap (gt a0.p 0).i 1)).u 1)).x (gt r3.o (Ap (gt a0.o (Ap (gt a0.p 0).i 1)).u 1)).y (gt r3.o (Ap (gt a0.o (Ap (gt a0.p 0).i 1)).u 1)).j)) fun v5=>ze K (Ap (gt a0.p 0).i 1) r3.C.L r3.C.k r3.C.l r3.C.e r3.C.m r3.C.n r3.Q.g r3.Q.c r3.Q.h v5 r3.p r3.q (gt a0.o (Ap (gt a0.p 0).i 1)).c (gt a0.o (Ap (gt a0.p 0).i 1)).a (gt a0.o (Ap (gt a0.p 0).i 1)).f (gt a0.o (Ap (gt a0.p 0).i 1)).s (gt a0.o (Ap (gt a0.p 0).i 1)).t (gt a0.o (Ap (gt a0.p 0).i 1)).i (gt a0.o (Ap (gt a0.p 0).i 1)).u (gt a0.o (Ap (gt a0.p 0).i 1)).v (gt a0.o (Ap (gt a0.p 0).i 1)).L (gt a0.o (Ap (gt a0.p 0).i 1)).w (gt a0.o (Ap (gt a0.p 0).i 1)).x (gt a0.o (Ap (gt a0.p 0).i 1)).y (gt a0.o (Ap (gt a0.p 0).i 1)).j else none else ze K (Ap (gt a0.p 0).i 1) r3.C.L r3.C.k r3.C.l r3.C.e r3.C.m r3.C.n r3.Q.g r3.Q.c r3.Q.h r3.o r3.p r3.q (gt a0.o (Ap (gt a0.p 0).i 1)).c (gt a0.o (Ap (gt a0.p 0).i 1)).a (gt a0.o (Ap (gt a0.p 0).i 1)).f (gt a0.o (Ap (gt a0.p 0).i 1)).s (gt a0.o (Ap (gt a0.p 0).i 1)).t (gt a0.o (Ap (gt a0.p 0).i 1)).i (gt a0.o (Ap (gt a0.p 0).i 1)).u (gt a0.o (Ap (gt a0.p 0).i 1)).v (gt a0.o (Ap (gt a0.p 0).i 1)).L (gt a0.o (Ap (gt a0.p 0).i 1)).w (gt a0.o (Ap (gt a0.p 0).i 1)).x (gt a0.o (Ap (gt a0.p 0).i 1)).y (gt a0.o (Ap (gt a0.p 0).i 1)).j else none else bif decide (((gt a0.p 0).d)>0)then(A1z K a0.o (Ap (gt a0.p 0).d 1) a0.C.n).bind fun r34=>if 0<(a0.p.set (0:Int).toNat (gt a0.p 0)).length then some (H4.mk a0.C a0.Q r34 ((a0.p.set (0:Int).toNat (gt a0.p 0)).drop 1) a0.q)else none else if 0<a0.p.length then some (H4.mk a0.C a0.Q a0.o (a0.p.drop 1) a0.q)else none else none
def Bba:=fk Tryz.func171 ⟨[.b 10038 false],[],false⟩ (gC (jq K) (gC (Bpw K) (gC (Bpu K) (gC (Bpv K) (gC (Bpk K) (gC (Bpp K) (gC (Bpy K) gN))))))) oN (Ayc (d:=45) (q:=Aij tyU tab 269 5) (Ayf Ayk Ayo) (Ayc (d:=128) (q:=Aij tyU tab 266 1) (Ayf Ayk Ayn) (Ayc (d:=189) (q:=Ain tyU tab) (Ayh Ayk) (Ayc (d:=190) (q:=Aik tyU tab 267 5 72) (Ayg Ayk Ayp) Ayb)))) [] [15343] [(0,[.take 1 10 5026]),(1,[.opp 5026 2,.takeE 5026 2 41666,.takeE 5026 3 41667]),(3,[.take 1 9 5025,.frz 5025]),(4,[.put 5026]),(7,[.take 1 11 5027]),(10,[.take 1 6 5022,.take 1 7 5023,.take 1 8 5024]),(17,[.take 1 9 5025]),(19,[.put 1]),(20,[.take 1 9 5025]),(22,[.take 1 9 5025]),(23,[.take 1 10 5026])] [(78,[.cut 78])]
def Bpz:E7:=⟨[(0,.p 1),(6,.v 2),(7,.p 107)],[(1,.box bx0),(107,.box bg)]⟩
def Bp0:=jn (Bba K) 15343 Bpz [] (ze K) kN
def Bbb:=ct (Bba K) (zf K) (kC (Bp0 K) kN)
def zg (a1:Int):Nat->Int->Int->Int->Int->Int->Int->Int->(List Int)->(List Int)->(List Int)->(List Fy)->(List G9)->(List Int)->Option (Int×H4)
 |0,_,_,_,_,_,_,_,_,_,_,_,_,_=>none
 |n1+1,v1,v2,v3,v4,v5,v6,v7,v8,v9,v10,v11,v12,v13=>bif decide (v1<a1)then bif decide ((v12.length:Int)>0)then(A5l K).bind fun r14=>bif r14 then(zf K (H4.mk (Sv.mk v2 v3 v4 v5 v6 v7) (Pc.mk v8 v9 v10) v11 v12 v13)).bind fun r15=>zg a1 n1 (A4 v1 1) r15.C.L r15.C.k r15.C.l r15.C.e r15.C.m r15.C.n r15.Q.g r15.Q.c r15.Q.h r15.o r15.p r15.q else some (v1,(H4.mk (Sv.mk v2 v3 v4 v5 v6 v7) (Pc.mk v8 v9 v10) v11 v12 v13))else some (v1,(H4.mk (Sv.mk v2 v3 v4 v5 v6 v7) (Pc.mk v8 v9 v10) v11 v12 v13))else some (v1,(H4.mk (Sv.mk v2 v3 v4 v5 v6 v7) (Pc.mk v8 v9 v10) v11 v12 v13))
def A5p (a0:H4)(a1:Int):Option (Int×H4):=zg K a1 K 0 a0.C.L a0.C.k a0.C.l a0.C.e a0.C.m a0.C.n a0.Q.g a0.Q.c a0.Q.h a0.o a0.p a0.q
def Bbc:=fd Tryz.func161 ⟨[.b 10038 false,.v 3,.f 167 [] []],[.v 3],false⟩ (gC (Bpj K) (gC (Bbb K) gN)) [10,11,17,18,19] [] [(2,[.take 1 10 5026]),(3,[.put 1])]
def Bp1:E7:=⟨[(0,.p 1),(1,.v 2),(2,.f 167 [] []),(7,.v 2)],[(1,.box bx0)]⟩
def Bp2:=lp (Bbc K) 28 Bp1 [] (fun n a=>zg K a n) (fun n=>kN)
def Bp3:=ct (Bbc K) (A5p K) (kC (Bp2 K K) kN)
def A10 (a0:H4)(a1:Int):Option (H4×Int):=(yi K a0).bind fun r1=>(yz K a0).bind fun r2=>bif r2 then(Xc K a1 0 4000).bind fun r3=>bif !r3 then some (r1,0)else(A5p K r1 a1).bind fun r4=>some (r4.2,r4.1)else some (r1,0)
def Bp4:=ct (fd Tryz.func57 ⟨[.v 38,.v 3],[.v 38,.v 3],false⟩ (gC (Ba6 K) (gC (bq K) (gC (Bae K) (gC (Bp3 K) gN)))) [11,12,13] [] [(4,[.put 106,.take 106 9 6705,.shal 6705,.put 106]),(5,[.take 106 6 6702,.take 106 7 6703,.take 106 8 6704,.take 106 9 6705,.take 106 10 6706,.take 106 11 6707])]) (A10 K)
def A11 (a0:H4):Option H4:=(A10 K a0 4000).bind fun r1=>some r1.1
def Bp5:=ct (fd Tryz.func27 ⟨[.v 38],[.v 38],false⟩ (gC (Bp4 K) gN)) (A11 K)
def A12 (a0:H4):Option (H4×Bool):=(yi K a0).bind fun r1=>(yz K a0).bind fun r2=>bif r2 then bif (a0.p.length:Int)==0 then some (r1,false)else(zf K r1).bind fun r3=>some (r3,true)else some (r1,false)
def Bp6:=ct (fd Tryz.func55 ⟨[.v 38],[.v 38,.v 4],false⟩ (gC (Ba6 K) (gC (Bae K) (gC (Bbb K) gN))) [8,9,10] [] [(4,[.put 104,.take 104 9 6673,.shal 6673,.put 104]),(5,[.take 104 6 6670,.take 104 7 6671,.take 104 8 6672,.take 104 9 6673,.take 104 10 6674,.take 104 11 6675])]) (A12 K)
def sn (K:Nat)(a0:List Int):Nat->(List Int)->Int->Option (List Int)
 |0,_,_=>none
 |n1+1,v1,v2=>bif decide (v2>=0)then if 0<=v2/\v2<a0.length then if(v1++([(gt a0 v2)]:List Int)).length*8<=140737488355328/\(v1++([(gt a0 v2)]:List Int)).length<=maxLen then sn K a0 n1 (v1++([(gt a0 v2)]:List Int)) (Ap v2 1)else none else none else some v1
def zh (a0:List Int):Option (List Int):=sn K a0 K ([]:List Int) (Ap a0.length 1)
def Bbd:=fd Tryz.func175 ⟨[.v 25],[.n 25 true],true⟩ gN
def Bp7:E7:=⟨[(0,.v 25),(3,.o 1003 3 true),(4,.v 2)],[]⟩
def Bp8:=lp Bbd 58 Bp7 [] (fun n a=>sn K a n) (fun n=>kN)
def Bbe:=ct Bbd (zh K) (kC (Bp8 K K) kN)
def om (K:Nat)(Rc:H4->Int->(List Int)->Option ((List Int)×(List Int)))(r4:(List Int)):Nat->(List Int)->(List Int)->Int->Int->Int->Int->Int->Int->Int->(List Int)->(List Int)->(List Int)->(List Fy)->(List G9)->(List Int)->Option ((List Int)×(List Int))
 |0,_,_,_,_,_,_,_,_,_,_,_,_,_,_,_=>none
 |n1+1,v5,v6,v7,v8,v9,v10,v11,v12,v13,v14,v15,v16,v17,v18,v19=>bif decide (v7<r4.length)then if 0<=v7/\v7<r4.length then(Rc (H4.mk (Sv.mk v8 v9 v10 v11 v12 v13) (Pc.mk v14 v15 v16) v17 v18 v19) (gt r4 v7) v5).bind fun r20=>if(v6++r20.1).length*8<=140737488355328/\(v6++r20.1).length<=maxLen then om K Rc r4 n1 r20.2 (v6++r20.1) (A4 v7 1) v8 v9 v10 v11 v12 v13 v14 v15 v16 v17 v18 v19 else none else none else some (v6,v5)
def A13 (Rc:H4->Int->(List Int)->Option ((List Int)×(List Int)))(a0:H4)(a1:Int)(a2:List Int):Option ((List Int)×(List Int)):=(V5 K a1 0 (Ap a0.o.length 1)).bind fun r1=>bif r1 then(bo K a2 a1).bind fun r2=>bif r2 then some (([]:List Int),a2)else if(([]:List Int)++a2).length*8<=140737488355328/\(([]:List Int)++a2).length<=maxLen then if((([]:List Int)++a2)++([a1]:List Int)).length*8<=140737488355328/\((([]:List Int)++a2)++([a1]:List Int)).length<=maxLen then if 0<=a1/\a1<a0.o.length then(zh K (gt a0.o a1).j).bind fun r3=>if 0<=a1/\a1<a0.o.length then(na K a0.o (gt a0.o a1).i).bind fun r4=>om K Rc r4 K ((([]:List Int)++a2)++([a1]:List Int)) r3 0 a0.C.L a0.C.k a0.C.l a0.C.e a0.C.m a0.C.n a0.Q.g a0.Q.c a0.Q.h a0.o a0.p a0.q else none else none else none else none else some (([]:List Int),a2)
def bz:Nat->H4->Int->(List Int)->Option ((List Int)×(List Int))
 |0,_,_,_=>none
 |K+1,a0,a1,a2=>A13 K (bz K) a0 a1 a2
def A14:Sig:=⟨[.v 38,.v 3,.v 25],[.n 25 true,.v 25],false⟩
def Bbf (Rc:H4->Int->(List Int)->Option ((List Int)×(List Int)))(hR:Zc 178 ⟨A14,Rc⟩):=fd Tryz.func178 A14 (gC (X1 K) (gC (Bbe K) (gC (Azf K) (gC hR (gC (rf K) gN))))) [18,19,20]
def Bp9:E7:=⟨[(2,.v 25),(3,.p 103),(8,.o 1008 3 true),(9,.v 25),(10,.v 2)],[(103,.box Wz)]⟩
def Bqa (Rc:H4->Int->(List Int)->Option ((List Int)×(List Int)))(hR:Zc 178 ⟨A14,Rc⟩):=lp (Bbf K Rc hR) 506 Bp9 [] (fun n a b c=>om K Rc c n a b) (fun n=>kN)
theorem Bbg: ∀K:Nat,Zc 178 ⟨A14,bz K⟩
 |0=>⟨(by intro a0 a1 a2 r h;cases h),_,Tryz.func178,rfl,rfl⟩
 |K+1=>have ih:=Bbg K;ct (Bbf K (bz K) ih) (A13 K (bz K)) (kC (Bqa K (bz K) ih K) kN)
def oo (a0:H4)(a1:Int):Option (List Int):=(bz K a0 a1 ([]:List Int)).bind fun r1=>some r1.1
def Bbh:=ct (fd Tryz.func66 ⟨[.v 38,.v 3],[.n 25 true],true⟩ (gC (Bbg K) gN)) (oo K)
def zi (v2 v3:Int)(v4 v5:Int)(v6 v7 v8:Int)(v9 v10 v11:List Int)(v12:List Fy)(v13:List G9)(v14:List Int)(r16:(List Int))(C1:(List Int)->Int->Int->Int->Int->Int->Int->Int->(List Int)->(List Int)->(List Int)->(List Fy)->(List G9)->(List Int)->Option (List Int)):Nat->(List Int)->Int->Option (List Int)
 |0,_,_=>none
 |n2+1,v17,v18=>bif decide (v18<r16.length)then if 0<=v18/\v18<r16.length then(oo K (H4.mk (Sv.mk v3 v4 v5 v6 v7 v8) (Pc.mk v9 v10 v11) v12 v13 v14) (gt r16 v18)).bind fun r19=>if(v17++r19).length*8<=140737488355328/\(v17++r19).length<=maxLen then zi v2 v3 v4 v5 v6 v7 v8 v9 v10 v11 v12 v13 v14 r16 C1 n2 (v17++r19) (A4 v18 1)else none else none else C1 v17 (A4 v2 1) v3 v4 v5 v6 v7 v8 v9 v10 v11 v12 v13 v14
def sp:Nat->(List Int)->Int->Int->Int->Int->Int->Int->Int->(List Int)->(List Int)->(List Int)->(List Fy)->(List G9)->(List Int)->Option (List Int)
 |0,_,_,_,_,_,_,_,_,_,_,_,_,_,_=>none
 |n1+1,v1,v2,v3,v4,v5,v6,v7,v8,v9,v10,v11,v12,v13,v14=>bif decide (v2<v13.length)then if 0<=v2/\v2<v13.length then(zh K (gt v13 v2).j).bind fun r15=>if(v1++r15).length*8<=140737488355328/\(v1++r15).length<=maxLen then if 0<=v2/\v2<v13.length then(na K v12 (gt v13 v2).i).bind fun r16=>zi K v2 v3 v4 v5 v6 v7 v8 v9 v10 v11 v12 v13 v14 r16 (sp n1) K (v1++r15) 0 else none else none else none else some v1
def A15 (a0:H4):Option (List Int):=sp K K ([]:List Int) 0 a0.C.L a0.C.k a0.C.l a0.C.e a0.C.m a0.C.n a0.Q.g a0.Q.c a0.Q.h a0.o a0.p a0.q
def A5q:=fd Tryz.func64 ⟨[.v 38],[.n 25 true],true⟩ (gC (Bbh K) (gC (Bbe K) (gC (Azf K) gN)))
def Bqb:E7:=⟨[(1,.p 101),(3,.o 1003 3 true),(4,.v 2),(5,.v 25),(6,.v 2)],[(101,.box Wz)]⟩
def Bqc:=fun(C58:CT mg _)=>lp (A5q K) 14926 Bqb [(58,ar mg C58)] (fun n a b c d e f g h i j k l m o p q=>zi K b e f g h i j k l m o p q c C58 n a d) (fun n=>kN)
def Bqd:=lp (A5q K) 58 mg [] (sp K) (fun n=>kC (Bqc K _ K) kN)
def Bqe:=ct (A5q K) (A15 K) (kC (Bqd K K) kN)
def A16 (K:Nat)(a0 a1:List Int):Nat->Int->Option Bool
 |0,_=>none
 |n1+1,v1=>bif decide (v1<a0.length)then if 0<=v1/\v1<a0.length then if 0<=v1/\v1<a1.length then bif (gt a0 v1) != (gt a1 v1)then some false else A16 K a0 a1 n1 (A4 v1 1)else none else none else some true
def oq (a0 a1:List Int):Option Bool:=bif (a0.length:Int) != (a1.length:Int)then some false else A16 K a0 a1 K 0
def Bbi:=fd Tryz.func44 ⟨[.v 25,.v 25],[.v 4],true⟩ gN
def Bqf:E7:=⟨[(0,.v 25),(1,.v 25),(5,.v 2)],[]⟩
def Bqg:=lp Bbi 58 Bqf [] (fun n a b=>A16 K a b n) (fun n=>kN)
def Bqh:=ct Bbi (oq K) (kC (Bqg K K) kN)
def A17 (a0:List Int):Option Bool:=(A3p K a0).bind fun r1=>bif r1 then some true else(A0b K a0).bind fun r2=>(A0m K a0).bind fun r3=>(A0n K a0).bind fun r4=>(ga K r2.1).bind fun r5=>(A11 K r2.1).bind fun r6=>(A12 K r2.1).bind fun r7=>(ga K r3).bind fun r8=>(A15 K r3).bind fun r9=>(oq K r8 r9).bind fun r10=>bif r10 then(fz K r4.1 r4.2).bind fun r11=>(oo K r4.1 r4.2).bind fun r12=>(oq K r11 r12).bind fun r13=>bif !r13 then some false else if(([]:List Int)++r2.1.q).length*8<=140737488355328/\(([]:List Int)++r2.1.q).length<=maxLen then if((([]:List Int)++r2.1.q)++r5).length*8<=140737488355328/\((([]:List Int)++r2.1.q)++r5).length<=maxLen then(oq K r6.q ((([]:List Int)++r2.1.q)++r5)).bind fun r14=>bif r14 then if(([]:List Int)++r7.1.q).length*8<=140737488355328/\(([]:List Int)++r7.1.q).length<=maxLen then(ga K r7.1).bind fun r15=>if((([]:List Int)++r7.1.q)++r15).length*8<=140737488355328/\((([]:List Int)++r7.1.q)++r15).length<=maxLen then(oq K ((([]:List Int)++r7.1.q)++r15) r6.q).bind fun r16=>bif r16 then(ga K r6).bind fun r17=>some ((r17.length:Int)==0)else some false else none else none else some false else none else none else some false
def Bqi:=ct (fd Tryz.func8 ⟨[.v 24],[.v 4],true⟩ (gC (Be8 K) (gC (Blc K) (gC (Bp5 K) (gC (Bqh K) (gC (Bp6 K) (gC (Bma K) (gC (Bmb K) (gC (Bmm K) (gC (Bqe K) (gC (Baa K) (gC (Bbh K) gN))))))))))) [39,40,41,59,60,70,71,72] [] [(7,[.frz 20512,.frz 20513,.frz 20514,.frz 20515,.frz 20516,.frz 20517])]) (A17 K)
end
end Go.Proofs.YtgcnddnmhllahaaGreat
