/- What the functions compute that FnAlone reaches, and that they do; no condition. Printed by gen4.py. -/
import Derived.Test.YtgcnddnmhllahaaGreatHKit
set_option linter.all false
set_option maxRecDepth 20000
namespace Go.Proofs.YtgcnddnmhllahaaGreat
open Go.Eng
noncomputable section
def A1 (a b:Int):Int:=Lc .i64 a b
def Ap (a b:Int):Int:=Asu .i64 a b
def K1 (a b:Int):Int:=Ew .i64 a b
def bx0:List T6:=[.v 2,.v 2,.v 2,.v 2,.v 2,.v 2,.T 5 true,.T 3 true,.T 3 true,.T 77 false,.T 79 true,.T 3 true]
def bx1:List T6:=[.v 2,.v 2,.v 2,.v 2,.v 2,.v 2,.T 5 true,.T 3 true,.T 3 true,.T 77 true,.T 79 false,.T 3 true]
def bx4:List T6:=[.v 2,.v 2,.v 2,.v 2,.v 2,.v 2,.v 2,.v 2,.v 25,.v 2,.v 2,.v 75,.v 25]
def bx5:List T6:=[.v 2,.v 2,.v 2,.v 2,.v 2,.v 2,.v 2,.v 24,.v 2,.v 2,.v 2]
def bx6:List T6:=[.v 2,.v 2,.v 2,.v 2,.v 2,.v 2,.v 24,.v 25,.v 25,.v 35,.v 36,.v 25]
def bx7:List T6:=[.v 2,.v 2,.v 25,.v 25,.v 2]
def bx8:List T6:=[.v 24,.v 2,.v 2]
def bx9:List T6:=[.v 24,.v 25,.v 25]
abbrev PT (h:Fw):Type:=Am tyU h.codes
abbrev Rt (s:Sig):Type:=Option (A7 tyU s.codes)
def FnP (R:Type):List TC->Type
 |[]=>R
 |c::l=>c.T tyU->FnP R l
noncomputable def unc{R:Type}:(l:List TC)->FnP R l->Am tyU l->R
 |[],f,_=>f
 |_::l,f,q=>unc l (f q.1) q.2
abbrev CT (h:Fw)(s:Sig):Type:=FnP (Rt s) h.codes
noncomputable abbrev ar{s:Sig}(h:Fw)(M:CT h s):SS Ag->Rt s:=arr tyU tab h (unc h.codes M)
abbrev OkF (f:FuncId)(c:G3 tyU):Prop:=G3.Ok tyU Tryz.prog f c/\Eu Tryz.prog f
theorem B1a:Tryz.prog.follows .mixedOrders=true:=by kernel_rfl
structure FD (f:FuncId)(s:Sig) where
 fn:Func
 hf:Tryz.prog.funcs[f]? =some fn
 G:List (Nat×G3 tyU)
 g: ∀f c,lk G f=some c->OkF f c
 O:List (Nat×List (Nat×G3 tyU))
 o: ∀d l,lk O d=some l-> ∀f c,lk l f=some c->OkF f c
 kp:List (Nat×(SS Ag->List Oper->Oper->(Ai Ag->Rt s)->Rt s))
 kk: ∀d q,lk kp d=some q->KOk tyU tab Tryz.prog q
 spl:List Nat
 js:List Nat
 pre:List (Nat×List Cmd)
 post:List (Nat×List Cmd)
noncomputable abbrev fo{f:FuncId}{fn:Func}(hf:Tryz.prog.funcs[f]? =some fn)(s:Sig){G:List (Nat×G3 tyU)}(g: ∀f c,lk G f=some c->OkF f c){O:List (Nat×List (Nat×G3 tyU))}(o: ∀d l,lk O d=some l-> ∀f c,lk l f=some c->OkF f c)(spl:List Nat:=[])(js:List Nat:=[])(pre:List (Nat×List Cmd):=[])(post:List (Nat×List Cmd):=[]):FD f s:=⟨fn,hf,G,g,O,o,[],Ar3 (U:=tyU) (T:=tab) (P:=Tryz.prog),spl,js,pre,post⟩
noncomputable abbrev fd{f:FuncId}{fn:Func}(hf:Tryz.prog.funcs[f]? =some fn)(s:Sig){G:List (Nat×G3 tyU)}(g: ∀f c,lk G f=some c->OkF f c)(spl:List Nat:=[])(js:List Nat:=[])(pre:List (Nat×List Cmd):=[])(post:List (Nat×List Cmd):=[]):FD f s:=⟨fn,hf,G,g,[],oN,[],Ar3 (U:=tyU) (T:=tab) (P:=Tryz.prog),spl,js,pre,post⟩
noncomputable abbrev fk{f:FuncId}{fn:Func}(hf:Tryz.prog.funcs[f]? =some fn)(s:Sig){G:List (Nat×G3 tyU)}(g: ∀f c,lk G f=some c->OkF f c){O:List (Nat×List (Nat×G3 tyU))}(o: ∀d l,lk O d=some l-> ∀f c,lk l f=some c->OkF f c){kp:List (Nat×(SS Ag->List Oper->Oper->(Ai Ag->Rt s)->Rt s))}(kk: ∀d q,lk kp d=some q->KOk tyU tab Tryz.prog q)(spl:List Nat:=[])(js:List Nat:=[])(pre:List (Nat×List Cmd):=[])(post:List (Nat×List Cmd):=[]):FD f s:=⟨fn,hf,G,g,O,o,kp,kk,spl,js,pre,post⟩
section
variable {f:FuncId} {s:Sig}
noncomputable abbrev FD.b (X:FD f s):Code:=X.fn.body.getD .skip
noncomputable def FD.x (X:FD f s)(L B:Λt tyU s):Ox tyU (A7 tyU s.codes):=⟨X.G,X.O,eqT eqs,X.fn.ntmps,X.spl,X.pre,X.post,X.js,L,B,Aiu tyU tab s X.fn.results.toList,X.kp⟩
abbrev CuX (X:FD f s):Λt tyU s->Nat->(SS Ag->Rt s)->Prop:=Cut tyU tab Tryz.prog X.fn.results.toList s X.fn.ntmps X.js X.b
abbrev CsX (X:FD f s):Λt tyU s->Λt tyU s->Prop:=Ye tyU tab Tryz.prog X.fn.results.toList s X.fn.ntmps X.js X.b
theorem xo (X:FD f s):XOk tyU tab Tryz.prog X.fn.results.toList s X.fn.ntmps X.js X.x:=xok Avb B1a X.g X.o Aud X.kk
theorem lp (X:FD f s)(p:Nat)(h:Fw)(B:Λt tyU s)(M:Nat->CT h s){L:Nat->Λt tyU s}(hc: ∀n,CsX X ((p,ar h (M n))::B) (L n))(e: ∀n q,unc h.codes (M (n+1)) q=Ais tyU tab (X.x (L n) ((p,ar h (M n))::B)) X.b (2*p) (h.emb tyU q):=by intro n q;kernel_rfl)(hp:Nat.ble 1 p=true:=by rfl)(hk:Vi X.js X.b p=true:=by kernel_rfl)(e0: ∀q,unc h.codes (M 0) q=none:=by intro q;rfl)(n:Nat):CuX X B p (ar h (M n)):=Aql (M:=fun n=>unc h.codes (M n)) (xo X) hp hk e0 e hc n
theorem jn (X:FD f s)(p:Nat)(h:Fw)(B:Λt tyU s)(M:CT h s){L:Λt tyU s}(hc:CsX X B L)(e: ∀q,unc h.codes M q=Ais tyU tab (X.x L B) X.b (2*p+1) (h.emb tyU q):=by intro q;kernel_rfl)(hp:Nat.ble 1 p=true:=by rfl):CuX X B p (ar h M):=Aqk (xo X) hp e hc
theorem up{X:FD f s}{B:Λt tyU s}{p x:Nat}{F G:SS Ag->Rt s}(h:CuX X B p F)(hn:Aqn X.js X.b p x=true:=by kernel_rfl):CuX X ((x,G)::B) p F:=Atl hn h
theorem ct (X:FD f s)(m:Y8 tyU s.ps (Rt s)){L:Λt tyU s}(hc:CsX X [] L:=by exact kN)(e:Xj tyU tab (X.x L []) X.b s.ps 0 [] [] m:=by(repeat intro _);show @Eq _ _ _;kernel_rfl)(hs:Zx tyU s.ps:=by(repeat (refine⟨fun _=>rfl,?_⟩));exact trivial)(h1:(X.fn.name== "runtime.NumGoroutine")=false:=by rfl)(h2:X.fn.body=some X.b:=by rfl)(h5:Nat.ble s.ps.length X.fn.ntmps=true:=by rfl)(h6:Nat.ble (Bt s.ps+1) 100=true:=by rfl)(h7:Nat.ble X.fn.results.toList.length 4=true:=by rfl):OkF f ⟨s,m⟩:=Atk (xo X) Af5 e hc X.hf h1 h2 (Array.toArray_toList).symm rfl h5 h6 h7 hs
end
variable (K:Nat)
def A7v (K:Nat)(a0:List Int):Option Bool:=some (decide ((a0.length:Int)>1048576))
def B1c:=ct (fd Tryz.func22 ⟨[.v 24],[.v 4],true⟩ gN) (A7v K)
def Ayv (K:Nat)(a0:List Int):Nat->Int->Int->Option E2
 |0,_,_=>none
 |n1+1,v1,v2=>bif decide (v2<a0.length)then bif decide (v2<4000)then if 0<=v2/\v2<a0.length then Ayv K a0 n1 (Asv .i64 (A1 (A1 (K1 v1 137) (IntKind.i64.wrap (gt a0 v2))) 11) 1073741823) (A1 v2 1)else none else some (E2.mk a0 0 v1)else some (E2.mk a0 0 v1)
def A3z (a0:List Int):Option E2:=Ayv K a0 K (A1 161416 a0.length) 0
def X_1:=fd Tryz.func111 ⟨[.v 24],[.p 171 false],false⟩ gN [11,12]
def h_0:Fw:=⟨[(0,.v 24),(3,.v 2),(4,.v 2)],[]⟩
def Bun:=lp X_1 58 h_0 [] (fun n a=>Ayv K a n) (fun n=>kN)
def B1d:=ct X_1 (A3z K) (kC (Bun K K) kN)
def Az7 (K:Nat)(a0:List Int)(a1:Int):Option Int:=if 12≠(0:Int)then bif decide ((A1 3 (Apq .i64 (a0.length:Int) 12))>a1)then some a1 else some (A1 3 (Apq .i64 (a0.length:Int) 12))else none
def B1e:=ct (fd Tryz.func113 ⟨[.v 24,.v 3],[.v 3],true⟩ gN) (Az7 K)
def A0m (K:Nat)(v1:Int)(v2:List Int)(v3 v4:Int):Option (Int×E2):=some (v1,(E2.mk v2 v3 v4))
def Au2 (a0:E2):Option (Int×E2):=if(0:Int)<=33 then if(0:Int)<=47 then bif decide (a0.fi<a0.fb.length)then if 0<=a0.fi/\a0.fi<a0.fb.length then A0m K (Asv .i64 (A1 (Asv .i64 (Asw .i64 (App .i64 (A1 (K1 a0.fh 6364136223846793005) 1442695040888963407) 33) (App .i64 (A1 (K1 a0.fh 6364136223846793005) 1442695040888963407) 47)) 255) (IntKind.i64.wrap (gt a0.fb a0.fi))) 255) a0.fb (A1 a0.fi 1) (A1 (K1 a0.fh 6364136223846793005) 1442695040888963407)else none else A0m K (Asv .i64 (Asw .i64 (App .i64 (A1 (K1 a0.fh 6364136223846793005) 1442695040888963407) 33) (App .i64 (A1 (K1 a0.fh 6364136223846793005) 1442695040888963407) 47)) 255) a0.fb a0.fi (A1 (K1 a0.fh 6364136223846793005) 1442695040888963407)else none else none
def X_3:=fd Tryz.func229 ⟨[.b 171 false],[.v 3],false⟩ gN [] [15]
def h_1:Fw:=⟨[(3,.v 2)],[(1,.box bx8)]⟩
def Buo:=jn X_3 15 h_1 [] (A0m K) kN
def Byc:=ct X_3 (Au2 K) (kC (Buo K) kN)
def Ht (a0:E2)(a1:Int):Option (Int×E2):=bif decide (a1<=0)then some (0,a0)else bif decide (a1<=256)then(Au2 K a0).bind fun r1=>if a1≠(0:Int)then some ((Int.tmod r1.1 a1),r1.2)else none else(Au2 K a0).bind fun r2=>(Au2 K r2.2).bind fun r3=>(Au2 K r3.2).bind fun r4=>if a1≠(0:Int)then some ((Int.tmod (A1 (A1 (K1 r2.1 65536) (K1 r3.1 256)) r4.1) a1),r4.2)else none
def Bgl:=ct (fd Tryz.func131 ⟨[.b 171 false,.v 3],[.v 3],false⟩ (gC (Byc K) gN)) (Ht K)
def At5 (a0:E2)(a1:List Int):Option (Int×E2×(List Int)):=(Ht K a0 (a1.length:Int)).bind fun r1=>if 0<=r1.1/\r1.1<a1.length then some ((gt a1 r1.1),r1.2,a1)else none
def Bup:=ct (fd Tryz.func170 ⟨[.b 171 false,.w 25 true [(3,true)]],[.v 3],false⟩ (gC (Bgl K) gN)) (At5 K)
def A25 (a0:E2):Option (Fi×E2):=(Ht K a0 11).bind fun r1=>(At5 K r1.2 ([8,8,9,12,16]:List Int)).bind fun r2=>if r2.2.2.length=([8,8,9,12,16]:List Int).length then(Ht K r2.2.1 7).bind fun r3=>(Ht K r3.2 6).bind fun r4=>(At5 K r4.2 ([1,3,4,8,16]:List Int)).bind fun r5=>if r5.2.2.length=([1,3,4,8,16]:List Int).length then(Ht K r5.2.1 4).bind fun r6=>some ((Fi.mk (A1 2 r1.1) r2.1 (A1 2 r3.1) (A1 1 r4.1) r5.1 (A1 1 r6.1)),r6.2)else none else none
def B1f:=ct (fd Tryz.func224 ⟨[.b 171 false],[.v 33],false⟩ (gC (Bgl K) (gC (Bup K) gN))) (A25 K)
def Bd (K:Nat)(a0 a1 a2:Int):Option Bool:=bif decide (a0>=a1)then some (decide (a0<=a2))else some false
def A5e:=ct (fd Tryz.func147 ⟨[.v 3,.v 3,.v 3],[.v 4],true⟩ gN [9,10]) (Bd K)
def Apc (a0:Fi):Option Bool:=(Bd K a0.Ad 2 12).bind fun r1=>bif r1 then(Bd K a0.Du 8 16).bind fun r2=>bif r2 then(Bd K a0.Cd 2 8).bind fun r3=>bif r3 then(Bd K a0.Ez 1 8).bind fun r4=>bif r4 then(Bd K a0.Ce 1 16).bind fun r5=>bif r5 then(Bd K a0.Dv 1 4).bind fun r6=>some r6 else some false else some false else some false else some false else some false
def Bem:=ct (fd Tryz.func136 ⟨[.v 33],[.v 4],true⟩ (gC (A5e K) gN) [5,6,9,10,11,14,15,16,19,20,21,24,25,26]) (Apc K)
def Avl (a0:Fi):Option Int:=(Apc K a0).bind fun r1=>bif !r1 then some 0 else some (K1 a0.Ad a0.Du)
def Bqm:=ct (fd Tryz.func235 ⟨[.v 33],[.v 3],true⟩ (gC (Bem K) gN)) (Avl K)
def A56 (a0:Int):Option (List Int):=(Bd K a0 0 4096).bind fun r1=>bif !r1 then some ([]:List Int)else if 0<=a0/\a0<=a0/\(1:Int)*a0<=281474976710656/\a0<=9223372036854775807 then some (List.replicate a0.toNat (0:Int))else none
def Byd:=ct (fd Tryz.func234 ⟨[.v 3],[.n 24 true],true⟩ (gC (A5e K) gN)) (A56 K)
def Aw0 (K:Nat)(a0:Fi):Nat->Int->Ef->Ef->Option Ef
 |0,_,_,_=>none
 |n1+1,v4,v5,v6=>bif decide (v4<a0.Ad)then if(v5.G4++([0]:List Int)).length*8<=140737488355328/\(v5.G4++([0]:List Int)).length<=maxLen then if(v5.Fq++([(-1)]:List Int)).length*8<=140737488355328/\(v5.Fq++([(-1)]:List Int)).length<=maxLen then Aw0 K a0 n1 (A1 v4 1) (Ef.mk v5.Fp (v5.G4++([0]:List Int)) (v5.Fq++([(-1)]:List Int))) v6 else none else none else some v5
def A1y (a0:Fi):Option Ef:=(Apc K a0).bind fun r1=>bif !r1 then some (Ef.mk [] [] [])else(Avl K a0).bind fun r2=>(A56 K r2).bind fun r3=>Aw0 K a0 K 0 (Ef.mk r3 [] []) (Ef.mk [] [] [])
def Bye:=fd Tryz.func137 ⟨[.v 33],[.n 34 true],true⟩ (gC (Bem K) (gC (Byd K) (gC (Bqm K) gN))) [] [] [(3,[.take 103 0 6648,.take 103 1 6649,.take 103 2 6650]),(8,[.take 103 1 6649]),(9,[.take 103 2 6650]),(10,[.take 103 0 6648,.take 103 1 6649,.take 103 2 6650])]
def h_2:Fw:=⟨[(1,.p 101),(2,.p 102),(3,.p 103),(4,.v 2)],[(103,.st 34 true),(102,.st 34 true),(101,.st 33 true)]⟩
def Bli:=lp (Bye K) 250 h_2 [] (fun n a b c d=>Aw0 K d n a b c) (fun n=>kN)
def Byf:=ct (Bye K) (A1y K) (kC (Bli K K) kN)
def Avm (K:Nat)(a0:Int):Option Az:=some (Az.mk 0 a0 0 0 0 0 0 0 [] 0 0 [] [])
def Blj:=ct (fd Tryz.func236 ⟨[.v 3],[.n 77 false],true⟩ gN) (Avm K)
def Awf (a0:Fi):Nat->(List Az)->Int->Option (List Az)
 |0,_,_=>none
 |n1+1,v1,v2=>bif decide (v2<a0.Cd)then(Apc K a0).bind fun r3=>bif r3 then(Avm K 1).bind fun r4=>if(v1++[r4]).length*152<=140737488355328/\(v1++[r4]).length<=maxLen then Awf a0 n1 (v1++[r4]) (A1 v2 1)else none else some v1 else some v1
def A3q (a0:Fi):Option (List Az):=Awf K a0 K ([]:List Az) 0
def Byg:=fd Tryz.func138 ⟨[.v 33],[.n 35 true],false⟩ (gC (Bem K) (gC (Blj K) gN)) [9,10] [] [] [(18,[.put 3018])]
def h_3:Fw:=⟨[(1,.p 101),(3,.o 1003 77 true),(4,.v 2)],[(101,.st 33 true)]⟩
def Bqn:=lp (Byg K) 58 h_3 [] (fun n a b c=>Awf K c n a b) (fun n=>kN)
def Byh:=ct (Byg K) (A3q K) (kC (Bqn K K) kN)
def A0n (a0:Fi):Option Bo:=(Apc K a0).bind fun r1=>bif !r1 then some (Bo.mk (Fi.mk 0 0 0 0 0 0) (Ef.mk [] [] []) [] [] [])else(A1y K a0).bind fun r2=>(A3q K a0).bind fun r3=>some (Bo.mk a0 r2 r3 [] [])
def Byi:=ct (fd Tryz.func39 ⟨[.v 33],[.n 38 true],false⟩ (gC (Bem K) (gC (Byf K) (gC (Byh K) gN)))) (A0n K)
def Acs (K:Nat)(a0:List Az)(a1:Int):Option Bool:=bif decide (a1>=1)then some (decide (a1<=a0.length))else some false
def A9h:=ct (fd Tryz.func276 ⟨[.v 35,.v 3],[.v 4],true⟩ gN [6,7]) (Acs K)
def Az8 (a0:List Az):Nat->Int->(List Int)->Option (List Int)
 |0,_,_=>none
 |n1+1,v1,v2=>(Acs K a0 (A1 v1 1)).bind fun r3=>bif r3 then bif decide ((v2.length:Int)<a0.length)then if(v2++([v1]:List Int)).length*8<=140737488355328/\(v2++([v1]:List Int)).length<=maxLen then if 0<=v1/\v1<a0.length then Az8 a0 n1 (Ap (gt a0 v1).fUp 1) (v2++([v1]:List Int))else none else none else some v2 else some v2
def A1p (a0:List Az)(a1:Int):Option (List Int):=Az8 K a0 K a1 ([]:List Int)
def Byj:=fd Tryz.func251 ⟨[.v 35,.v 3],[.n 25 true],true⟩ (gC (A9h K) gN) [10,11]
def h_4:Fw:=⟨[(0,.v 35),(1,.v 2),(5,.o 1005 3 true)],[]⟩
def Bqo:=lp (Byj K) 28 h_4 [] (fun n a=>Az8 K a n) (fun n=>kN)
def Bll:=ct (Byj K) (A1p K) (kC (Bqo K K) kN)
def Awg (a0:List Az)(a1:Int):Option Bool:=if 0<=a1/\a1<a0.length then(Acs K a0 (gt a0 a1).fUp).bind fun r1=>bif r1 then if 0<=(Ap (gt a0 a1).fUp 1)/\(Ap (gt a0 a1).fUp 1)<a0.length then bif (gt a0 (Ap (gt a0 a1).fUp 1)).G4==1 then if 0<=(Ap (gt a0 a1).fUp 1)/\(Ap (gt a0 a1).fUp 1)<a0.length then if 0<=a1/\a1<a0.length then some (((gt a0 (Ap (gt a0 a1).fUp 1)).Nb)==(gt a0 a1).G5)else none else none else some false else none else some false else none
def Blm:=ct (fd Tryz.func252 ⟨[.v 35,.v 3],[.v 4],true⟩ (gC (A9h K) gN) [13,14,21,22,23]) (Awg K)
def A1z (K:Nat)(v2:Int)(C1:Int->Option Bool):Option Bool:=C1 (A1 v2 1)
def Aw1 (a0:List Az)(r1:(List Int)):Nat->Int->Option Bool
 |0,_=>none
 |n1+1,v2=>bif decide (v2<r1.length)then if 0<=v2/\v2<r1.length then if 0<=(gt r1 v2)/\(gt r1 v2)<a0.length then bif (gt a0 (gt r1 v2)).G4 != 1 then some false else bif decide ((A1 v2 1)<r1.length)then if 0<=v2/\v2<r1.length then(Awg K a0 (gt r1 v2)).bind fun r3=>bif !r3 then some false else A1z K v2 (Aw1 a0 r1 n1)else none else A1z K v2 (Aw1 a0 r1 n1)else none else none else bif decide ((r1.length:Int)>0)then if 0<=(Ap r1.length 1)/\(Ap r1.length 1)<r1.length then if 0<=(gt r1 (Ap r1.length 1))/\(gt r1 (Ap r1.length 1))<a0.length then some (((gt a0 (gt r1 (Ap r1.length 1))).fUp)==0)else none else none else some false
def Azq (a0:List Az)(a1:Int):Option Bool:=(A1p K a0 a1).bind fun r1=>Aw1 K a0 r1 K 0
def Buq:=fd Tryz.func154 ⟨[.v 35,.v 3],[.v 4],true⟩ (gC (Bll K) (gC (Blm K) gN)) [24,25,30,31,43,44] [233]
def h_5:Fw:=⟨[(0,.v 35),(5,.v 25),(6,.v 2)],[]⟩
def Bln:=fun(C58:CT h_5 _)=>jn (Buq K) 233 h_5 [(58,ar h_5 C58)] (fun a b c=>A1z K c (C58 a b)) kN
def Bqp:=lp (Buq K) 58 h_5 [] (fun n a b=>Aw1 K a b n) (fun n=>kC (Bln K _) kN)
def Blo:=ct (Buq K) (Azq K) (kC (Bqp K K) kN)
def Aw2 (K:Nat)(v2 v3:Int)(v4 v5:Int)(v6 v7 v8:Int)(v9 v10 v11:List Int)(v12:List Az)(v13:List Bb)(v14:List Int)(C1:(List Int)->Int->Int->Int->Int->Int->Int->Int->(List Int)->(List Int)->(List Int)->(List Az)->(List Bb)->(List Int)->Option (List Int))(v16:List Int):Option (List Int):=C1 v16 (A1 v2 1) v3 v4 v5 v6 v7 v8 v9 v10 v11 v12 v13 v14
def Avd:Nat->(List Int)->Int->Int->Int->Int->Int->Int->Int->(List Int)->(List Int)->(List Int)->(List Az)->(List Bb)->(List Int)->Option (List Int)
 |0,_,_,_,_,_,_,_,_,_,_,_,_,_,_=>none
 |n1+1,v1,v2,v3,v4,v5,v6,v7,v8,v9,v10,v11,v12,v13,v14=>bif decide (v2<v12.length)then(Azq K v12 v2).bind fun r15=>bif r15 then if(v1++([v2]:List Int)).length*8<=140737488355328/\(v1++([v2]:List Int)).length<=maxLen then Aw2 K v2 v3 v4 v5 v6 v7 v8 v9 v10 v11 v12 v13 v14 (Avd n1) (v1++([v2]:List Int))else none else Aw2 K v2 v3 v4 v5 v6 v7 v8 v9 v10 v11 v12 v13 v14 (Avd n1) v1 else some v1
def A10 (a0:Bo):Option (List Int):=Avd K K ([]:List Int) 0 a0.fC.Ad a0.fC.Du a0.fC.Cd a0.fC.Ez a0.fC.Ce a0.fC.Dv a0.fP.Fp a0.fP.G4 a0.fP.Fq a0.fL a0.fQ a0.Jp
def Bur:=fd Tryz.func45 ⟨[.v 38],[.n 25 true],true⟩ (gC (Blo K) gN) [] [233]
def h_6:Fw:=⟨[(1,.p 101),(3,.o 1003 3 true),(4,.v 2)],[(101,.box bx6)]⟩
def Blp:=fun(C58:CT h_6 _)=>jn (Bur K) 233 h_6 [(58,ar h_6 C58)] (fun a b c d e f g h i j k l m o=>Aw2 K b c d e f g h i j k l m o C58 a) kN
def Bqq:=lp (Bur K) 58 h_6 [] (Avd K) (fun n=>kC (Blp K _) kN)
def Bs4:=ct (Bur K) (A10 K) (kC (Bqq K K) kN)
def Au3 (a0:E2)(a1:Int):Option (Bool×E2):=(Ht K a0 a1).bind fun r1=>some ((r1.1==0),r1.2)
def Bs5:=ct (fd Tryz.func198 ⟨[.b 171 false,.v 3],[.v 4],false⟩ (gC (Bgl K) gN)) (Au3 K)
def A0o (a0:E2):Option (Ch×E2):=(Ht K a0 5).bind fun r1=>(Ht K r1.2 3).bind fun r2=>some ((Ch.mk r1.1 (A1 1 r2.1)),r2.2)
def Byk:=ct (fd Tryz.func284 ⟨[.b 171 false],[.v 40],false⟩ (gC (Bgl K) gN)) (A0o K)
def Aw3 (a1:Int):Nat->(List Int)->Int->(List Int)->Int->Int->Option ((List Int)×E2)
 |0,_,_,_,_,_=>none
 |n1+1,v1,v2,v3,v4,v5=>bif decide (v2<a1)then(Au2 K (E2.mk v3 v4 v5)).bind fun r6=>if(v1++([(IntKind.u8.wrap r6.1)]:List Int)).length*1<=140737488355328/\(v1++([(IntKind.u8.wrap r6.1)]:List Int)).length<=maxLen then Aw3 a1 n1 (v1++([(IntKind.u8.wrap r6.1)]:List Int)) (A1 v2 1) r6.2.fb r6.2.fi r6.2.fh else none else some (v1,(E2.mk v3 v4 v5))
def A11 (a0:E2)(a1:Int):Option ((List Int)×E2):=Aw3 K a1 K ([]:List Int) 0 a0.fb a0.fi a0.fh
def Byl:=fd Tryz.func201 ⟨[.b 171 false,.v 3],[.n 24 true],false⟩ (gC (Byc K) gN)
def h_7:Fw:=⟨[(0,.p 1),(1,.v 2),(5,.o 1005 5 true),(6,.v 2)],[(1,.box bx8)]⟩
def Bqr:=lp (Byl K) 58 h_7 [] (fun n a=>Aw3 K a n) (fun n=>kN)
def Bs6:=ct (Byl K) (A11 K) (kC (Bqr K K) kN)
def Am8 (K:Nat)(v6:List Int)(v7 v8:Int)(v9 v10:Di):Option (Di×E2):=some (v9,(E2.mk v6 v7 v8))
def Ave (v11:Int)(v12:Bool)(v13:List Int)(v14 v15:Int)(v16:Fb)(v17:Ch)(v18 v19:Di):Option (Di×E2):=bif v12 then Am8 K v13 v14 v15 (Di.mk v18.Aad v17 v18.fR v18.fN v18.fM v18.fB) v19 else bif v11==2 then(At5 K (E2.mk v13 v14 v15) ([1,2,3,5,8,9,17,20,0,201]:List Int)).bind fun r20=>if r20.2.2.length=([1,2,3,5,8,9,17,20,0,201]:List Int).length then(At5 K r20.2.1 ([1,1,2,4,3]:List Int)).bind fun r21=>if r21.2.2.length=([1,1,2,4,3]:List Int).length then Am8 K r21.2.1.fb r21.2.1.fi r21.2.1.fh (Di.mk v18.Aad v17 v18.fR r20.1 r21.1 v18.fB) v19 else none else none else bif v11==3 then(Ht K (E2.mk v13 v14 v15) 4).bind fun r22=>(Ht K r22.2 5).bind fun r23=>Am8 K r23.2.fb r23.2.fi r23.2.fh (Di.mk v18.Aad v18.fH v16 r22.1 r23.1 v18.fB) v19 else bif v11==4 then(Ht K (E2.mk v13 v14 v15) 4).bind fun r24=>(Ht K r24.2 4).bind fun r25=>(A11 K r25.2 r25.1).bind fun r26=>Am8 K r26.2.fb r26.2.fi r26.2.fh (Di.mk v18.Aad v18.fH v16 r24.1 v18.fM r26.1) v19 else bif v11==5 then(At5 K (E2.mk v13 v14 v15) ([1,7,255,256]:List Int)).bind fun r27=>if r27.2.2.length=([1,7,255,256]:List Int).length then Am8 K r27.2.1.fb r27.2.1.fi r27.2.1.fh (Di.mk v18.Aad v17 v18.fR r27.1 v18.fM v18.fB) v19 else none else Am8 K v13 v14 v15 v18 v19
def Ayw (a0:E2):Option (Di×E2):=(Ht K a0 9).bind fun r1=>(A0o K r1.2).bind fun r2=>(Ht K r2.2 2).bind fun r3=>(Ht K r3.2 3).bind fun r4=>bif (A1 1 r1.1)==1 then(Au3 K r4.2 2).bind fun r5=>bif r5.1 then Am8 K r5.2.fb r5.2.fi r5.2.fh (Di.mk (A1 1 r1.1) r2.1 (Fb.mk (Ch.mk 0 0) 0 0) 0 0 []) (Di.mk 0 (Ch.mk 0 0) (Fb.mk (Ch.mk 0 0) 0 0) 0 0 [])else Am8 K r5.2.fb r5.2.fi r5.2.fh (Di.mk (A1 1 r1.1) (Ch.mk 0 0) (Fb.mk (Ch.mk 0 0) 0 0) 0 0 []) (Di.mk 0 (Ch.mk 0 0) (Fb.mk (Ch.mk 0 0) 0 0) 0 0 [])else bif (A1 1 r1.1)==6 then Ave K (A1 1 r1.1) ((A1 1 r1.1)==6) r4.2.fb r4.2.fi r4.2.fh (Fb.mk r2.1 r3.1 r4.1) r2.1 (Di.mk (A1 1 r1.1) (Ch.mk 0 0) (Fb.mk (Ch.mk 0 0) 0 0) 0 0 []) (Di.mk 0 (Ch.mk 0 0) (Fb.mk (Ch.mk 0 0) 0 0) 0 0 [])else bif (A1 1 r1.1)==7 then Ave K (A1 1 r1.1) ((A1 1 r1.1)==7) r4.2.fb r4.2.fi r4.2.fh (Fb.mk r2.1 r3.1 r4.1) r2.1 (Di.mk (A1 1 r1.1) (Ch.mk 0 0) (Fb.mk (Ch.mk 0 0) 0 0) 0 0 []) (Di.mk 0 (Ch.mk 0 0) (Fb.mk (Ch.mk 0 0) 0 0) 0 0 [])else Ave K (A1 1 r1.1) ((A1 1 r1.1)==8) r4.2.fb r4.2.fi r4.2.fh (Fb.mk r2.1 r3.1 r4.1) r2.1 (Di.mk (A1 1 r1.1) (Ch.mk 0 0) (Fb.mk (Ch.mk 0 0) 0 0) 0 0 []) (Di.mk 0 (Ch.mk 0 0) (Fb.mk (Ch.mk 0 0) 0 0) 0 0 [])
def Bus:=fd Tryz.func199 ⟨[.b 171 false],[.n 55 true],false⟩ (gC (Bgl K) (gC (Bup K) (gC (Bs5 K) (gC (Bs6 K) (gC (Byk K) gN))))) [] [31,1003] [(27,[.take 103 9 6657])]
def h_8:Fw:=⟨[(2,.p 102),(3,.p 103)],[(1,.box bx8),(103,.st 55 true),(102,.st 55 true)]⟩
def h_9:Fw:=⟨[(0,.p 1),(2,.p 102),(3,.p 103),(4,.p 104),(5,.p 105),(19,.v 2),(26,.v 4)],[(1,.box bx8),(105,.st 42 true),(104,.st 40 true),(103,.st 55 true),(102,.st 55 true)]⟩
def Bh9:=jn (Bus K) 31 h_8 [] (Am8 K) kN
def Bjb:=jn (Bus K) 1003 h_9 [] (Ave K) (kC (Bh9 K) kN)
def Bym:=ct (Bus K) (Ayw K) (kC (Bh9 K) (kC (Bjb K) kN))
def Ax2 (a0:List Az)(a1:Int):Option Ch:=(Bd K a1 0 (Ap a0.length 1)).bind fun r1=>bif !r1 then some (Ch.mk 0 0)else if 0<=a1/\a1<a0.length then some (Ch.mk a1 (gt a0 a1).C7)else none
def Bs7:=ct (fd Tryz.func200 ⟨[.v 35,.v 3],[.v 40],true⟩ (gC (A5e K) gN)) (Ax2 K)
def Aw4 (r8:Ch)(v27 v28 v29:List Int)(v30:List Az)(v31:List Bb)(v32:List Int)(v34:Int)(v36:List Int)(v37 v38:Int)(v47:Bool):Option (Di×E2×(List Int)×(List Int)×(List Int)×(List Az)×(List Bb)×(List Int)):=bif v47 then(Ht K (E2.mk v36 v37 v38) 256).bind fun r48=>some ((Di.mk 5 r8 (Fb.mk (Ch.mk 0 0) 0 0) r48.1 0 []),r48.2,v27,v28,v29,v30,v31,v32)else bif v34==13 then some ((Di.mk 6 r8 (Fb.mk (Ch.mk 0 0) 0 0) 0 0 []),(E2.mk v36 v37 v38),v27,v28,v29,v30,v31,v32)else bif v34==14 then some ((Di.mk 7 r8 (Fb.mk (Ch.mk 0 0) 0 0) 0 0 []),(E2.mk v36 v37 v38),v27,v28,v29,v30,v31,v32)else(Au3 K (E2.mk v36 v37 v38) 6).bind fun r49=>bif r49.1 then some ((Di.mk 9 (Ch.mk 0 0) (Fb.mk (Ch.mk 0 0) 0 0) 0 0 []),r49.2,v27,v28,v29,v30,v31,v32)else some ((Di.mk 8 r8 (Fb.mk (Ch.mk 0 0) 0 0) 0 0 []),r49.2,v27,v28,v29,v30,v31,v32)
def Aw5 (r8:Ch)(v13:Fb)(v27 v28 v29:List Int)(v30:List Az)(v31:List Bb)(v32:List Int)(v34:Int)(v36:List Int)(v37 v38:Int)(v43:Bool):Option (Di×E2×(List Int)×(List Int)×(List Int)×(List Az)×(List Bb)×(List Int)):=bif v43 then(Ht K (E2.mk v36 v37 v38) 2).bind fun r44=>(A11 K r44.2 (A1 1 r44.1)).bind fun r45=>some ((Di.mk 4 (Ch.mk 0 0) v13 0 0 r45.1),r45.2,v27,v28,v29,v30,v31,v32)else bif v34==10 then(Ht K (E2.mk v36 v37 v38) 3).bind fun r46=>some ((Di.mk 3 (Ch.mk 0 0) v13 0 r46.1 []),r46.2,v27,v28,v29,v30,v31,v32)else bif v34==11 then Aw4 K r8 v27 v28 v29 v30 v31 v32 v34 v36 v37 v38 (v34==11)else Aw4 K r8 v27 v28 v29 v30 v31 v32 v34 v36 v37 v38 (v34==12)
def Avf (r8:Ch)(v13:Fb)(v16:Int)(v27 v28 v29:List Int)(v30:List Az)(v31:List Bb)(v32:List Int)(v34:Int)(v36:List Int)(v37 v38:Int)(v39:Bool):Option (Di×E2×(List Int)×(List Int)×(List Int)×(List Az)×(List Bb)×(List Int)):=bif v39 then(At5 K (E2.mk v36 v37 v38) ([1,2,3,4,5,8]:List Int)).bind fun r40=>if r40.2.2.length=([1,2,3,4,5,8]:List Int).length then(At5 K r40.2.1 ([1,1,2,4]:List Int)).bind fun r41=>if r41.2.2.length=([1,1,2,4]:List Int).length then some ((Di.mk 2 r8 (Fb.mk (Ch.mk 0 0) 0 0) r40.1 r41.1 []),r41.2.1,v27,v28,v29,v30,v31,v32)else none else none else bif v34==7 then(Ht K (E2.mk v36 v37 v38) v16).bind fun r42=>some ((Di.mk 2 r8 (Fb.mk (Ch.mk 0 0) 0 0) (A1 (A1 v16 1) r42.1) 1 []),r42.2,v27,v28,v29,v30,v31,v32)else bif v34==8 then Aw5 K r8 v13 v27 v28 v29 v30 v31 v32 v34 v36 v37 v38 (v34==8)else Aw5 K r8 v13 v27 v28 v29 v30 v31 v32 v34 v36 v37 v38 (v34==9)
def Avg (r8:Ch)(v13:Fb)(v16:Int)(v27 v28 v29:List Int)(v30:List Az)(v31:List Bb)(v32:List Int)(v34:Int)(v35:Bool)(v36:List Int)(v37 v38:Int):Option (Di×E2×(List Int)×(List Int)×(List Int)×(List Az)×(List Bb)×(List Int)):=bif v35 then some ((Di.mk 1 r8 (Fb.mk (Ch.mk 0 0) 0 0) 0 0 []),(E2.mk v36 v37 v38),v27,v28,v29,v30,v31,v32)else bif v34==3 then some ((Di.mk 1 (Ch.mk 0 0) (Fb.mk (Ch.mk 0 0) 0 0) 0 0 []),(E2.mk v36 v37 v38),v27,v28,v29,v30,v31,v32)else bif v34==4 then Avf K r8 v13 v16 v27 v28 v29 v30 v31 v32 v34 v36 v37 v38 (v34==4)else bif v34==5 then Avf K r8 v13 v16 v27 v28 v29 v30 v31 v32 v34 v36 v37 v38 (v34==5)else Avf K r8 v13 v16 v27 v28 v29 v30 v31 v32 v34 v36 v37 v38 (v34==6)
def Aw6 (r8:Ch)(v10:List Int)(v11 v12:Int)(v13:Fb)(v14:Di)(v15 v16:Int)(v17 v18:Int)(v19 v20:Int)(v21 v22:Nat)(v23 v24:Nat)(v25 v26:Nat)(v27 v28 v29:List Int)(v30:List Az)(v31:List Bb)(v32:List Int):Option (Di×E2×(List Int)×(List Int)×(List Int)×(List Az)×(List Bb)×(List Int)):=(Ht K (E2.mk v10 v11 v12) 16).bind fun r33=>bif r33.1==0 then Avg K r8 v13 v16 v27 v28 v29 v30 v31 v32 r33.1 (r33.1==0) r33.2.fb r33.2.fi r33.2.fh else bif r33.1==1 then Avg K r8 v13 v16 v27 v28 v29 v30 v31 v32 r33.1 (r33.1==1) r33.2.fb r33.2.fi r33.2.fh else Avg K r8 v13 v16 v27 v28 v29 v30 v31 v32 r33.1 (r33.1==2) r33.2.fb r33.2.fi r33.2.fh
def Ayx (a0:E2)(a1:Bo):Option (Di×E2×(List Int)×(List Int)×(List Int)×(List Az)×(List Bb)×(List Int)):=(A10 K a1).bind fun r1=>bif (r1.length:Int)==0 then(Au3 K a0 2).bind fun r2=>bif r2.1 then some ((Di.mk 1 (Ch.mk 0 0) (Fb.mk (Ch.mk 0 0) 0 0) 0 0 []),r2.2,a1.fP.Fp,a1.fP.G4,a1.fP.Fq,a1.fL,a1.fQ,a1.Jp)else(Ayw K r2.2).bind fun r3=>some (r3.1,r3.2,a1.fP.Fp,a1.fP.G4,a1.fP.Fq,a1.fL,a1.fQ,a1.Jp)else(Au3 K a0 10).bind fun r4=>bif r4.1 then(Au3 K r4.2 2).bind fun r5=>bif r5.1 then some ((Di.mk 1 (Ch.mk 0 0) (Fb.mk (Ch.mk 0 0) 0 0) 0 0 []),r5.2,a1.fP.Fp,a1.fP.G4,a1.fP.Fq,a1.fL,a1.fQ,a1.Jp)else(Ayw K r5.2).bind fun r6=>some (r6.1,r6.2,a1.fP.Fp,a1.fP.G4,a1.fP.Fq,a1.fL,a1.fQ,a1.Jp)else(Ht K r4.2 (r1.length:Int)).bind fun r7=>if 0<=r7.1/\r7.1<r1.length then(Ax2 K a1.fL (gt r1 r7.1)).bind fun r8=>if 0<=(gt r1 r7.1)/\(gt r1 r7.1)<a1.fL.length then if 0<=(gt r1 r7.1)/\(gt r1 r7.1)<a1.fL.length then if 0<=(gt r1 r7.1)/\(gt r1 r7.1)<a1.fL.length then bif decide (((gt a1.fL (gt r1 r7.1)).D5.length:Int)>0)then if 0<=(gt r1 r7.1)/\(gt r1 r7.1)<a1.fL.length then(Ht K r7.2 (((gt a1.fL (gt r1 r7.1)).D5).length:Int)).bind fun r9=>Aw6 K r8 r9.2.fb r9.2.fi r9.2.fh (Fb.mk r8 (gt a1.fL (gt r1 r7.1)).Nb r9.1) (Di.mk 0 (Ch.mk 0 0) (Fb.mk (Ch.mk 0 0) 0 0) 0 0 []) a1.fC.Ad a1.fC.Du a1.fC.Cd a1.fC.Ez a1.fC.Ce a1.fC.Dv a1.fP.Fp.length a1.fP.G4.length a1.fP.Fq.length a1.fL.length a1.fQ.length a1.Jp.length a1.fP.Fp a1.fP.G4 a1.fP.Fq a1.fL a1.fQ a1.Jp else none else Aw6 K r8 r7.2.fb r7.2.fi r7.2.fh (Fb.mk r8 (gt a1.fL (gt r1 r7.1)).Nb 0) (Di.mk 0 (Ch.mk 0 0) (Fb.mk (Ch.mk 0 0) 0 0) 0 0 []) a1.fC.Ad a1.fC.Du a1.fC.Cd a1.fC.Ez a1.fC.Ce a1.fC.Dv a1.fP.Fp.length a1.fP.G4.length a1.fP.Fq.length a1.fL.length a1.fQ.length a1.Jp.length a1.fP.Fp a1.fP.G4 a1.fP.Fq a1.fL a1.fQ a1.Jp else none else none else none else none
def Bjc:=fd Tryz.func114 ⟨[.b 171 false,.w 38 false [(5,true),(3,true),(3,true),(77,true),(79,false),(3,true)]],[.n 55 true],false⟩ (gC (Bs4 K) (gC (Bgl K) (gC (Bup K) (gC (Bs5 K) (gC (Bym K) (gC (Bs7 K) (gC (Bs6 K) gN))))))) [13,14] [127,2042,32687,523007,8368127] [(9,[.opn 5 (.tmp 6),.takeE 5 11 40331])]
def B1h:Fw:=⟨[(0,.p 1),(4,.p 104),(7,.p 107),(61,.v 2),(113,.v 4)],[(1,.box bx8),(2,.rws 5 true),(3,.rws 3 true),(4,.rws 3 true),(5,.rws 77 true),(6,.rws 79 false),(7,.rws 3 true),(107,.st 40 true),(104,.st 55 true)]⟩
def B1i:Fw:=⟨[(0,.p 1),(4,.p 104),(7,.p 107),(8,.p 108),(61,.v 2),(97,.v 4)],[(1,.box bx8),(2,.rws 5 true),(3,.rws 3 true),(4,.rws 3 true),(5,.rws 77 true),(6,.rws 79 false),(7,.rws 3 true),(108,.st 42 true),(107,.st 40 true),(104,.st 55 true)]⟩
def B1j:Fw:=⟨[(0,.p 1),(3,.p 103),(4,.p 104),(7,.p 107),(8,.p 108),(61,.v 2),(71,.v 4)],[(1,.box bx8),(108,.st 42 true),(107,.st 40 true),(104,.st 55 true),(103,.ob [.v 2,.v 2,.v 2,.v 2,.v 2,.v 2,.O 2,.O 3,.O 4,.O 5,.O 6,.O 7]),(2,.rws 5 true),(3,.rws 3 true),(4,.rws 3 true),(5,.rws 77 true),(6,.rws 79 false),(7,.rws 3 true)]⟩
def B1k:Fw:=⟨[(0,.p 1),(3,.p 103),(4,.p 104),(7,.p 107),(8,.p 108),(61,.v 2),(62,.v 4)],[(1,.box bx8),(108,.st 42 true),(107,.st 40 true),(104,.st 55 true),(103,.ob [.v 2,.v 2,.v 2,.v 2,.v 2,.v 2,.O 2,.O 3,.O 4,.O 5,.O 6,.O 7]),(2,.rws 5 true),(3,.rws 3 true),(4,.rws 3 true),(5,.rws 77 true),(6,.rws 79 false),(7,.rws 3 true)]⟩
def B1l:Fw:=⟨[(0,.p 1),(3,.p 103),(4,.p 104),(7,.p 107),(8,.p 108)],[(1,.box bx8),(108,.st 42 true),(107,.st 40 true),(104,.st 55 true),(103,.ob [.v 2,.v 2,.v 2,.v 2,.v 2,.v 2,.O 2,.O 3,.O 4,.O 5,.O 6,.O 7]),(2,.rws 5 true),(3,.rws 3 true),(4,.rws 3 true),(5,.rws 77 true),(6,.rws 79 false),(7,.rws 3 true)]⟩
def Bda:=jn (Bjc K) 8368127 B1h [] (fun a b c d e f g h i j k l _=>Aw4 K l f g h i j k a c d e b) kN
def Ben:=jn (Bjc K) 523007 B1i [] (fun a b c d e f g h i j k l m _=>Aw5 K m l f g h i j k a c d e b) (kC (Bda K) kN)
def Bgm:=jn (Bjc K) 32687 B1j [] (fun a b c d e f g _ _ j _ _ _ _ _ _ _ _ _ _ v w x y z a1=>Avf K g f j v w x y z a1 a c d e b) (kC (Ben K) kN)
def Bjd:=jn (Bjc K) 2042 B1k [] (fun a b c d e f g _ _ j _ _ _ _ _ _ _ _ _ _ v w x y z a1=>Avg K g f j v w x y z a1 a b c d e) (kC (Bgm K) kN)
def Blq:=jn (Bjc K) 127 B1l [] (fun a b c d e=>Aw6 K e a b c d) (kC (Bjd K) kN)
def Bs8:=ct (Bjc K) (Ayx K) (kC (Blq K) kN)
def Ax3 (K:Nat)(a0:Ch):Option Bool:=bif decide (a0.Be>=0)then some (decide (a0.C7>=1))else some false
def Bs9:=ct (fd Tryz.func354 ⟨[.v 40],[.v 4],true⟩ gN [5,6]) (Ax3 K)
def Aw7 (a0:List Az)(a1:Ch):Option Int:=(Bd K a1.Be 0 (Ap a0.length 1)).bind fun r1=>bif r1 then if 0<=a1.Be/\a1.Be<a0.length then bif (gt a0 a1.Be).G4 != 1 then some (-1)else if 0<=a1.Be/\a1.Be<a0.length then bif (gt a0 a1.Be).C7 != a1.C7 then some (-1)else some a1.Be else none else none else some (-1)
def Bta:=ct (fd Tryz.func355 ⟨[.v 35,.v 40],[.v 3],true⟩ (gC (A5e K) gN) [10,11,12,19,20,21]) (Aw7 K)
def Apf (a0:Bo)(a1:Ch):Option (Int×Int):=(Ax3 K a1).bind fun r1=>bif !r1 then some ((-1),1)else(Aw7 K a0.fL a1).bind fun r2=>bif decide (r2<0)then some ((-1),2)else(Azq K a0.fL r2).bind fun r3=>bif !r3 then some ((-1),2)else some (r2,0)
def Bcj:=ct (fd Tryz.func307 ⟨[.v 38,.v 40],[.v 3,.v 3],true⟩ (gC (Blo K) (gC (Bs9 K) (gC (Bta K) gN))) [15,16]) (Apf K)
def A30 (a0:Bo)(a1:Ch):Option (Int×Int):=bif (a1.Be==0)&&((a1.C7==0)&&true)then some ((-1),0)else(Apf K a0 a1).bind fun r1=>some (r1.1,r1.2)
def Byn:=ct (fd Tryz.func342 ⟨[.v 38,.v 40],[.v 3,.v 3],true⟩ (gC (Bcj K) gN)) (A30 K)
def Az9 (a0:List Az)(a1:Int):Option Int:=(A1p K a0 a1).bind fun r1=>some (r1.length:Int)
def Btb:=ct (fd Tryz.func343 ⟨[.v 35,.v 3],[.v 3],true⟩ (gC (Bll K) gN)) (Az9 K)
def Arv (a0:Bo)(a1:Ch):Option Int:=(Aw7 K a0.fL a1).bind fun r1=>(Az9 K a0.fL r1).bind fun r2=>some r2
def Bam:=ct (fd Tryz.func308 ⟨[.v 38,.v 40],[.v 3],true⟩ (gC (Btb K) (gC (Bta K) gN))) (Arv K)
def Ao7 (K:Nat)(v2 v3:Int)(v4 v5:Int)(v6 v7 v8:Int)(v9 v10 v11:List Int)(v12:List Az)(v13:List Bb)(v14:List Int)(C1:Int->Int->Int->Int->Int->Int->Int->Int->(List Int)->(List Int)->(List Int)->(List Az)->(List Bb)->(List Int)->Option Int)(v15:Int):Option Int:=C1 v15 (A1 v2 1) v3 v4 v5 v6 v7 v8 v9 v10 v11 v12 v13 v14
def Akh:Nat->Int->Int->Int->Int->Int->Int->Int->Int->(List Int)->(List Int)->(List Int)->(List Az)->(List Bb)->(List Int)->Option Int
 |0,_,_,_,_,_,_,_,_,_,_,_,_,_,_=>none
 |n1+1,v1,v2,v3,v4,v5,v6,v7,v8,v9,v10,v11,v12,v13,v14=>bif decide (v2<v12.length)then if 0<=v2/\v2<v12.length then bif (gt v12 v2).G4==0 then Ao7 K v2 v3 v4 v5 v6 v7 v8 v9 v10 v11 v12 v13 v14 (Akh n1) (A1 v1 1)else(Azq K v12 v2).bind fun r16=>bif r16 then Ao7 K v2 v3 v4 v5 v6 v7 v8 v9 v10 v11 v12 v13 v14 (Akh n1) v1 else if 0<=v2/\v2<v12.length then bif (gt v12 v2).G4 != 3 then if 0<=v2/\v2<v12.length then bif decide (((gt v12 v2).C7)<v8)then Ao7 K v2 v3 v4 v5 v6 v7 v8 v9 v10 v11 v12 v13 v14 (Akh n1) (A1 v1 1)else Ao7 K v2 v3 v4 v5 v6 v7 v8 v9 v10 v11 v12 v13 v14 (Akh n1) v1 else none else Ao7 K v2 v3 v4 v5 v6 v7 v8 v9 v10 v11 v12 v13 v14 (Akh n1) v1 else none else none else some v1
def A3r (a0:Bo):Option Int:=Akh K K 0 0 a0.fC.Ad a0.fC.Du a0.fC.Cd a0.fC.Ez a0.fC.Ce a0.fC.Dv a0.fP.Fp a0.fP.G4 a0.fP.Fq a0.fL a0.fQ a0.Jp
def But:=fd Tryz.func344 ⟨[.v 38],[.v 3],true⟩ (gC (Blo K) gN) [18,19,23,24,25,32,33,34] [233]
def Bqs:Fw:=⟨[(1,.p 101),(3,.v 2),(4,.v 2)],[(101,.box bx6)]⟩
def Blr:=fun(C58:CT Bqs _)=>jn (But K) 233 Bqs [(58,ar Bqs C58)] (fun a b c d e f g h i j k l m o=>Ao7 K b c d e f g h i j k l m o C58 a) kN
def Bqt:=lp (But K) 58 Bqs [] (Akh K) (fun n=>kC (Blr K _) kN)
def Byo:=ct (But K) (A3r K) (kC (Bqt K K) kN)
def Aw8 (K:Nat)(v2:Int)(v3 v4 v5:List Int)(C1:(List Int)->Int->(List Int)->(List Int)->(List Int)->Option (List Int))(v6:List Int):Option (List Int):=C1 v6 (A1 v2 1) v3 v4 v5
def Ank (a1:Int):Nat->(List Int)->Int->(List Int)->(List Int)->(List Int)->Option (List Int)
 |0,_,_,_,_,_=>none
 |n1+1,v1,v2,v3,v4,v5=>bif decide (v2<v4.length)then bif decide (v2<v5.length)then if 0<=v2/\v2<v4.length then bif (gt v4 v2)==1 then if 0<=v2/\v2<v5.length then bif (gt v5 v2)==a1 then if(v1++([v2]:List Int)).length*8<=140737488355328/\(v1++([v2]:List Int)).length<=maxLen then Aw8 K v2 v3 v4 v5 (Ank a1 n1) (v1++([v2]:List Int))else none else Aw8 K v2 v3 v4 v5 (Ank a1 n1) v1 else none else Aw8 K v2 v3 v4 v5 (Ank a1 n1) v1 else none else some v1 else some v1
def Ayy (a0:Ef)(a1:Int):Option (List Int):=Ank K a1 K ([]:List Int) 0 a0.Fp a0.G4 a0.Fq
def Buu:=fd Tryz.func155 ⟨[.v 34,.v 3],[.n 25 true],true⟩ gN [12,13,27,28] [233]
def Bqu:Fw:=⟨[(1,.v 2),(2,.p 102),(5,.o 1005 3 true),(6,.v 2)],[(102,.box bx9)]⟩
def Bls:=fun(C58:CT Bqu _)=>jn Buu 233 Bqu [(58,ar Bqu C58)] (fun a b c d e f=>Aw8 K c d e f (C58 a) b) kN
def Bqv:=lp Buu 58 Bqu [] (fun n a=>Ank K a n) (fun n=>kC (Bls K _) kN)
def Btc:=ct Buu (Ayy K) (kC (Bqv K K) kN)
def Aug (r1:(List Int)):Nat->Int->Int->Int->Int->Int->Int->Int->Int->(List Int)->(List Int)->(List Int)->(List Az)->(List Bb)->(List Int)->Option Int
 |0,_,_,_,_,_,_,_,_,_,_,_,_,_,_=>none
 |n1+1,v2,v3,v4,v5,v6,v7,v8,v9,v10,v11,v12,v13,v14,v15=>bif decide (v3<r1.length)then if 0<=v3/\v3<r1.length then(Ayy K (Ef.mk v10 v11 v12) (gt r1 v3)).bind fun r16=>Aug r1 n1 (A1 v2 r16.length) (A1 v3 1) v4 v5 v6 v7 v8 v9 v10 v11 v12 v13 v14 v15 else none else some v2
def A3s (a0:Bo):Option Int:=(A10 K a0).bind fun r1=>Aug K r1 K 0 0 a0.fC.Ad a0.fC.Du a0.fC.Cd a0.fC.Ez a0.fC.Ce a0.fC.Dv a0.fP.Fp a0.fP.G4 a0.fP.Fq a0.fL a0.fQ a0.Jp
def Byp:=fd Tryz.func46 ⟨[.v 38],[.v 3],true⟩ (gC (Bs4 K) (gC (Btc K) gN))
def B1m:Fw:=⟨[(1,.p 101),(3,.v 2),(4,.v 25),(5,.v 2)],[(101,.box bx6)]⟩
def Blt:=lp (Byp K) 122 B1m [] (fun n a b=>Aug K b n a) (fun n=>kN)
def Byq:=ct (Byp K) (A3s K) (kC (Blt K K) kN)
def Av4 (a0:Bo)(a1:Int):Option Bool:=bif decide (a1>=0)then bif decide (a1<=a0.fC.Ad)then(A3s K a0).bind fun r1=>some (decide (r1<=(Ap a0.fC.Ad a1)))else some false else some false
def Blu:=ct (fd Tryz.func43 ⟨[.v 38,.v 3],[.v 4],true⟩ (gC (Byq K) gN) [6,7,12,13,14]) (Av4 K)
def Aww (K:Nat)(v2:Int)(C1:Int->Int->Option Int)(v3:Int):Option Int:=C1 v3 (A1 v2 1)
def Akt (a0:List Az)(a1:Int):Nat->Int->Int->Option Int
 |0,_,_=>none
 |n1+1,v1,v2=>bif decide (v2<a0.length)then if 0<=v2/\v2<a0.length then bif (gt a0 v2).G4==a1 then Aww K v2 (Akt a0 a1 n1) (A1 v1 1)else Aww K v2 (Akt a0 a1 n1) v1 else none else some v1
def Auh (a0:List Az)(a1:Int):Option Int:=Akt K a0 a1 K 0 0
def Buv:=fd Tryz.func247 ⟨[.v 35,.v 3],[.v 3],true⟩ gN [] [233]
def Bqw:Fw:=⟨[(0,.v 35),(1,.v 2),(5,.v 2),(6,.v 2)],[]⟩
def Blv:=fun(C58:CT Bqw _)=>jn Buv 233 Bqw [(58,ar Bqw C58)] (fun a b c d=>Aww K d (C58 a b) c) kN
def Bqx:=lp Buv 58 Bqw [] (fun n a b=>Akt K a b n) (fun n=>kC (Blv K _) kN)
def Btd:=ct Buv (Auh K) (kC (Bqx K K) kN)
def Av5 (K:Nat)(a1 a2:Int):Nat->Int->(List Int)->(List Int)->(List Int)->Option Bool
 |0,_,_,_,_=>none
 |n1+1,v1,v2,v3,v4=>bif decide (v1<(A1 a1 a2))then if 0<=v1/\v1<v3.length then bif (gt v3 v1) != 0 then some false else Av5 K a1 a2 n1 (A1 v1 1) v2 v3 v4 else none else some true
def A0a (a0:Ef)(a1 a2:Int):Option Bool:=bif decide (a1<0)then some false else bif decide (a2<1)then some false else bif decide (a1>a0.G4.length)then some false else bif decide (a2>(Ap a0.G4.length a1))then some false else Av5 K a1 a2 K a1 a0.Fp a0.G4 a0.Fq
def Byr:=fd Tryz.func376 ⟨[.v 34,.v 3,.v 3],[.v 4],true⟩ gN [9,10,12,13,14,19,20,21]
def B1n:Fw:=⟨[(1,.v 2),(2,.v 2),(3,.p 103),(7,.v 2)],[(103,.box bx9)]⟩
def Bqy:=lp Byr 58 B1n [] (fun n a b=>Av5 K a b n) (fun n=>kN)
def Bte:=ct Byr (A0a K) (kC (Bqy K K) kN)
def Awh (a1:Int):Nat->Int->(List Int)->(List Int)->(List Int)->Option Int
 |0,_,_,_,_=>none
 |n1+1,v1,v2,v3,v4=>bif decide (v1<v3.length)then(A0a K (Ef.mk v2 v3 v4) v1 a1).bind fun r5=>bif r5 then some v1 else Awh a1 n1 (A1 v1 1) v2 v3 v4 else some (-1)
def A0p (a0:Ef)(a1:Int):Option Int:=Awh K a1 K 0 a0.Fp a0.G4 a0.Fq
def Bys:=fd Tryz.func375 ⟨[.v 34,.v 3],[.v 3],true⟩ (gC (Bte K) gN)
def B1o:Fw:=⟨[(1,.v 2),(2,.p 102),(5,.v 2)],[(102,.box bx9)]⟩
def Bqz:=lp (Bys K) 26 B1o [] (fun n a=>Awh K a n) (fun n=>kN)
def Btf:=ct (Bys K) (A0p K) (kC (Bqz K K) kN)
def A26 (K:Nat)(a0:Bb):Option Int:=bif decide ((a0.Dh.length:Int)>0)then some 1 else bif decide ((a0.Ad.length:Int)>0)then some 2 else bif a0.Bz != 0 then some 3 else some 4
def Byt:=ct (fd Tryz.func270 ⟨[.v 79],[.v 3],true⟩ gN) (A26 K)
def Aye (K:Nat)(a0:Bo):Option Bo:=if(0:Int)<=0/\0<(a0.fQ.length:Int)then if 0<=(Ap (((gt a0.fQ 0).Dh).length:Int) 1)/\(Ap (((gt a0.fQ 0).Dh).length:Int) 1)<(((gt a0.fQ 0).Dh).length:Int)then if(a0.Jp++([(gt (gt a0.fQ 0).Dh (Ap (((gt a0.fQ 0).Dh).length:Int) 1))]:List Int)).length*8<=140737488355328/\(a0.Jp++([(gt (gt a0.fQ 0).Dh (Ap (((gt a0.fQ 0).Dh).length:Int) 1))]:List Int)).length<=maxLen then if(0:Int)<=0/\0<=(Ap (((gt a0.fQ 0).Dh).length:Int) 1)/\(Ap (((gt a0.fQ 0).Dh).length:Int) 1)<=(((gt a0.fQ 0).Dh).length:Int)then if(([]:List Int)++(((gt a0.fQ 0).Dh.drop (0:Int).toNat).take ((Ap (((gt a0.fQ 0).Dh).length:Int) 1) - 0).toNat)).length*8<=140737488355328/\(([]:List Int)++(((gt a0.fQ 0).Dh.drop (0:Int).toNat).take ((Ap (((gt a0.fQ 0).Dh).length:Int) 1) - 0).toNat)).length<=maxLen then some (Bo.mk a0.fC a0.fP a0.fL (a0.fQ.set (0:Int).toNat (Bb.mk (gt a0.fQ 0).Be (gt a0.fQ 0).Bz (([]:List Int)++(((gt a0.fQ 0).Dh.drop (0:Int).toNat).take ((Ap (((gt a0.fQ 0).Dh).length:Int) 1) - 0).toNat)) (gt a0.fQ 0).Ad (gt a0.fQ 0).H2)) (a0.Jp++([(gt (gt a0.fQ 0).Dh (Ap (((gt a0.fQ 0).Dh).length:Int) 1))]:List Int)))else none else none else none else none else none
def Byu:=ct (fd Tryz.func271 ⟨[.b 38 false],[],false⟩ gN [] [] [(0,[.take 1 10 5026]),(2,[.take 1 11 5027])]) (Aye K)
def Au4 (K:Nat)(a0:Ef):Option Ef:=if(([]:List Int)++a0.Fp).length*1<=140737488355328/\(([]:List Int)++a0.Fp).length<=maxLen then if(([]:List Int)++a0.G4).length*8<=140737488355328/\(([]:List Int)++a0.G4).length<=maxLen then if(([]:List Int)++a0.Fq).length*8<=140737488355328/\(([]:List Int)++a0.Fq).length<=maxLen then some (Ef.mk (([]:List Int)++a0.Fp) (([]:List Int)++a0.G4) (([]:List Int)++a0.Fq))else none else none else none
def Bia:=ct (fd Tryz.func188 ⟨[.v 34],[.n 34 true],true⟩ gN) (Au4 K)
def Av6 (K:Nat)(a0:List Int):Nat->Int->Option Bool
 |0,_=>none
 |n1+1,v1=>bif decide (v1<a0.length)then if 0<=v1/\v1<a0.length then bif (gt a0 v1) != 0 then some false else Av6 K a0 n1 (A1 v1 1)else none else some true
def Au5 (a0:List Int):Option Bool:=Av6 K a0 K 0
def Byv:=fd Tryz.func237 ⟨[.v 24],[.v 4],true⟩ gN
def B1p:Fw:=⟨[(0,.v 24),(3,.v 2)],[]⟩
def Bq0:=lp Byv 26 B1p [] (fun n a=>Av6 K a n) (fun n=>kN)
def Bib:=ct Byv (Au5 K) (kC (Bq0 K K) kN)
def A0q (K:Nat)(v3:Int)(v4 v5 v6:List Int)(C1:Int->(List Int)->(List Int)->(List Int)->Option Bool):Option Bool:=C1 (A1 v3 1) v4 v5 v6
def Av7 (a0:Fi)(v3:Int)(v4 v5 v6:List Int)(C1:Int->(List Int)->(List Int)->(List Int)->Option Bool):Option Bool:=if 0<=v3/\v3<v5.length then bif (gt v5 v3)==0 then if 0<=(K1 v3 a0.Du)/\(K1 v3 a0.Du)<=(K1 (A1 v3 1) a0.Du)/\(K1 (A1 v3 1) a0.Du)<=v4.length then(Au5 K ((v4.drop (K1 v3 a0.Du).toNat).take ((K1 (A1 v3 1) a0.Du) - (K1 v3 a0.Du)).toNat)).bind fun r9=>bif !r9 then some false else A0q K v3 v4 v5 v6 (C1)else none else A0q K v3 v4 v5 v6 (C1)else none
def Amx (a0:Fi):Nat->Int->(List Int)->(List Int)->(List Int)->Option Bool
 |0,_,_,_,_=>none
 |n1+1,v3,v4,v5,v6=>bif decide (v3<a0.Ad)then if 0<=v3/\v3<v5.length then(Bd K (gt v5 v3) 0 2).bind fun r7=>bif !r7 then some false else if 0<=v3/\v3<v5.length then bif (gt v5 v3)==1 then if 0<=v3/\v3<v6.length then(Bd K (gt v6 v3) 0 (Ap a0.Cd 1)).bind fun r8=>bif r8 then if 0<=v3/\v3<v5.length then bif (gt v5 v3) != 1 then if 0<=v3/\v3<v6.length then bif (gt v6 v3) != (-1)then some false else Av7 K a0 v3 v4 v5 v6 (Amx a0 n1)else none else Av7 K a0 v3 v4 v5 v6 (Amx a0 n1)else none else some false else none else if 0<=v3/\v3<v5.length then bif (gt v5 v3) != 1 then if 0<=v3/\v3<v6.length then bif (gt v6 v3) != (-1)then some false else Av7 K a0 v3 v4 v5 v6 (Amx a0 n1)else none else Av7 K a0 v3 v4 v5 v6 (Amx a0 n1)else none else none else none else some true
def A0b (a0:Fi)(a1:Ef):Option Bool:=(Apc K a0).bind fun r1=>bif r1 then(Avl K a0).bind fun r2=>bif (a1.Fp.length:Int) != r2 then some false else bif (a1.G4.length:Int) != a0.Ad then some false else bif (a1.Fq.length:Int) != a0.Ad then some false else Amx K a0 K 0 a1.Fp a1.G4 a1.Fq else some false
def Bq1:=fd Tryz.func139 ⟨[.v 33,.v 34],[.v 4],true⟩ (gC (Bem K) (gC (A5e K) (gC (Bqm K) (gC (Bib K) gN)))) [7,8,9,15,16,17,23,24,25,51,52,61,62,63,64,70,71,85,86] [233,1865]
def Bgn:Fw:=⟨[(2,.p 102),(3,.p 103),(5,.v 2)],[(103,.box bx9),(102,.st 33 true)]⟩
def Blw:=fun(C58:CT Bgn _)=>jn (Bq1 K) 233 Bgn [(58,ar Bgn C58)] (fun a b c d e=>A0q K a b c d (fun v3 v4 v5 v6=>C58 v3 v4 v5 v6 e)) kN
def Bje:=fun(C58:CT Bgn _)=>jn (Bq1 K) 1865 Bgn [(58,ar Bgn C58)] (fun a b c d e=>Av7 K e a b c d (fun v3 v4 v5 v6=>C58 v3 v4 v5 v6 e)) (kC (Blw K _) kN)
def Bq2:=lp (Bq1 K) 58 Bgn [] (fun n a b c d e=>Amx K e n a b c d) (fun n=>kC (Bje K _) kN)
def Btg:=ct (Bq1 K) (A0b K) (kC (Bq2 K K) kN)
def Azr (K:Nat)(a0 a1:Int):Option Int:=bif decide (a1<a0)then some a1 else some a0
def Byw:=ct (fd Tryz.func364 ⟨[.v 3,.v 3],[.v 3],true⟩ gN) (Azr K)
def A0c (K:Nat)(a0:List Int)(a1 a2:Int):Nat->(List Int)->Int->Option (List Int)
 |0,_,_=>none
 |n1+1,v1,v2=>bif decide (v2<a0.length)then bif decide ((Ap v2 a1)<a2)then if 0<=v2/\v2<v1.length then A0c K a0 a1 a2 n1 (v1.set v2.toNat 0) (A1 v2 1)else none else some v1 else some v1
def A4z (a0:List Int)(a1 a2:Int):Option (List Int):=if(([]:List Int)++a0).length*1<=140737488355328/\(([]:List Int)++a0).length<=maxLen then bif decide (a1<0)then some (([]:List Int)++a0)else bif decide (a2<0)then some (([]:List Int)++a0)else A0c K a0 a1 a2 K (([]:List Int)++a0) a1 else none
def Byx:=fd Tryz.func365 ⟨[.v 24,.v 3,.v 3],[.n 24 true],true⟩ gN [13,14,23,24]
def B1q:Fw:=⟨[(0,.v 24),(1,.v 2),(2,.v 2),(7,.o 1007 5 true),(8,.v 2)],[]⟩
def Blx:=lp Byx 122 B1q [] (fun n a b c=>A0c K a b c n) (fun n=>kN)
def Byy:=ct Byx (A4z K) (kC (Blx K K) kN)
def Av8 (a0:Fi)(a1:Ef)(a2 a3:Int):Option (Ef×Bool):=(Au4 K a1).bind fun r1=>(A0b K a0 a1).bind fun r2=>bif r2 then(Bd K a2 0 (Ap a0.Ad 1)).bind fun r3=>bif r3 then if 0<=a2/\a2<a1.G4.length then bif (gt a1.G4 a2) != 2 then some (r1,false)else(Bd K a3 0 (Ap a0.Du 1)).bind fun r4=>bif !r4 then some (r1,false)else(Azr K (A1 a3 a0.Ce) a0.Du).bind fun r5=>(A4z K a1.Fp (A1 (K1 a2 a0.Du) a3) (Ap r5 a3)).bind fun r6=>bif decide (r5<a0.Du)then some ((Ef.mk r6 r1.G4 r1.Fq),false)else if 0<=(K1 a2 a0.Du)/\(K1 a2 a0.Du)<=(K1 (A1 a2 1) a0.Du)/\(K1 (A1 a2 1) a0.Du)<=r6.length then(Au5 K ((r6.drop (K1 a2 a0.Du).toNat).take ((K1 (A1 a2 1) a0.Du) - (K1 a2 a0.Du)).toNat)).bind fun r7=>bif !r7 then(Au4 K a1).bind fun r8=>some (r8,false)else if 0<=a2/\a2<r1.G4.length then some ((Ef.mk r6 (r1.G4.set a2.toNat 0) r1.Fq),true)else none else none else none else some (r1,false)else some (r1,false)
def Byz:=ct (fd Tryz.func318 ⟨[.v 33,.v 34,.v 3,.v 3],[.n 34 true,.v 4],true⟩ (gC (Btg K) (gC (A5e K) (gC (Bia K) (gC (Bib K) (gC (Byw K) (gC (Byy K) gN)))))) [16,17,18,23,24,25,26,32,33,34]) (Av8 K)
def Ayz (a0:Bo):Option Bo:=if(0:Int)<=0/\0<(a0.fQ.length:Int)then if(0:Int)<=0/\0<(((gt a0.fQ 0).Ad).length:Int)then(Av8 K a0.fC a0.fP (gt (gt a0.fQ 0).Ad 0) (gt a0.fQ 0).H2).bind fun r1=>bif r1.2 then if(0:Int)<=1/\1<=(((gt a0.fQ 0).Ad).length:Int)/\(((gt a0.fQ 0).Ad).length:Int)<=(((gt a0.fQ 0).Ad).length:Int)then if(([]:List Int)++(((gt a0.fQ 0).Ad.drop (1:Int).toNat).take (((gt a0.fQ 0).Ad.length:Int) - 1).toNat)).length*8<=140737488355328/\(([]:List Int)++(((gt a0.fQ 0).Ad.drop (1:Int).toNat).take (((gt a0.fQ 0).Ad.length:Int) - 1).toNat)).length<=maxLen then some (Bo.mk a0.fC r1.1 a0.fL (a0.fQ.set (0:Int).toNat (Bb.mk (gt a0.fQ 0).Be (gt a0.fQ 0).Bz (gt a0.fQ 0).Dh (([]:List Int)++(((gt a0.fQ 0).Ad.drop (1:Int).toNat).take (((gt a0.fQ 0).Ad.length:Int) - 1).toNat)) 0)) a0.Jp)else none else none else some (Bo.mk a0.fC r1.1 a0.fL (a0.fQ.set (0:Int).toNat (Bb.mk (gt a0.fQ 0).Be (gt a0.fQ 0).Bz (gt a0.fQ 0).Dh (gt a0.fQ 0).Ad (A1 (gt a0.fQ 0).H2 a0.fC.Ce))) a0.Jp)else none else none
def By0:=ct (fd Tryz.func272 ⟨[.b 38 false],[],false⟩ (gC (Byz K) gN) [] [] [(0,[.take 1 10 5026]),(1,[.take 1 6 5022,.take 1 7 5023,.take 1 8 5024])]) (Ayz K)
def Ape (K:Nat)(a0:Az):Option Az:=if(([]:List Int)++a0.Ad).length*8<=140737488355328/\(([]:List Int)++a0.Ad).length<=maxLen then if(([]:List Bn)++a0.D5).length*24<=140737488355328/\(([]:List Bn)++a0.D5).length<=maxLen then if(([]:List Int)++a0.Dh).length*8<=140737488355328/\(([]:List Int)++a0.Dh).length<=maxLen then some (Az.mk a0.G4 a0.C7 a0.Nb a0.fUp a0.G5 a0.Bz a0.G6 a0.G7 (([]:List Int)++a0.Ad) a0.No a0.G8 (([]:List Bn)++a0.D5) (([]:List Int)++a0.Dh))else none else none else none
def Bck:=ct (fd Tryz.func281 ⟨[.v 77],[.n 77 false],true⟩ gN) (Ape K)
def Aw9 (K:Nat)(v3 v4:Ef):Option Ef:=some v3
def A31 (a0:Ef)(a1:Int):Option Ef:=(Au4 K a0).bind fun r1=>(Bd K a1 0 (Ap a0.G4.length 1)).bind fun r2=>bif r2 then bif decide (a1<a0.Fq.length)then if 0<=a1/\a1<a0.G4.length then bif (gt a0.G4 a1)==1 then if 0<=a1/\a1<r1.G4.length then if 0<=a1/\a1<r1.Fq.length then Aw9 K (Ef.mk r1.Fp (r1.G4.set a1.toNat 2) (r1.Fq.set a1.toNat (-1))) (Ef.mk [] [] [])else none else none else Aw9 K r1 (Ef.mk [] [] [])else none else Aw9 K r1 (Ef.mk [] [] [])else Aw9 K r1 (Ef.mk [] [] [])
def By1:=fd Tryz.func366 ⟨[.v 34,.v 3],[.n 34 true],true⟩ (gC (A5e K) (gC (Bia K) gN)) [13,14,19,20,21] [7] [(5,[.take 105 0 6680,.take 105 1 6681,.take 105 2 6682])]
def By2:Fw:=⟨[(4,.p 104),(5,.p 105)],[(105,.st 34 true),(104,.st 34 true)]⟩
def Buw:=jn (By1 K) 7 By2 [] (Aw9 K) kN
def By3:=ct (By1 K) (A31 K) (kC (Buw K) kN)
def Akl (a1:List Int):Nat->Int->Int->Int->Int->Int->Int->Int->(List Int)->(List Int)->(List Int)->(List Az)->(List Bb)->(List Int)->Option Bo
 |0,_,_,_,_,_,_,_,_,_,_,_,_,_=>none
 |n1+1,v1,v2,v3,v4,v5,v6,v7,v8,v9,v10,v11,v12,v13=>bif decide (v1<a1.length)then if 0<=v1/\v1<a1.length then(A31 K (Ef.mk v8 v9 v10) (gt a1 v1)).bind fun r14=>Akl a1 n1 (A1 v1 1) v2 v3 v4 v5 v6 v7 r14.Fp r14.G4 r14.Fq v11 v12 v13 else none else some (Bo.mk (Fi.mk v2 v3 v4 v5 v6 v7) (Ef.mk v8 v9 v10) v11 v12 v13)
def Au6 (a0:Bo)(a1:List Int):Option Bo:=Akl K a1 K 0 a0.fC.Ad a0.fC.Du a0.fC.Cd a0.fC.Ez a0.fC.Ce a0.fC.Dv a0.fP.Fp a0.fP.G4 a0.fP.Fq a0.fL a0.fQ a0.Jp
def By4:=fd Tryz.func319 ⟨[.b 38 false,.v 25],[],false⟩ (gC (By3 K) gN) [] [] [(3,[.take 1 6 5022,.take 1 7 5023,.take 1 8 5024])]
def B1r:Fw:=⟨[(0,.p 1),(1,.v 25),(4,.v 2)],[(1,.box bx1)]⟩
def Bux:=lp (By4 K) 6 B1r [] (fun n a=>Akl K a n) (fun n=>kN)
def Bly:=ct (By4 K) (Au6 K) (kC (Bux K K) kN)
def A1q (K:Nat)(a0:Az):Option Az:=some (Az.mk 2 a0.C7 0 0 0 0 0 0 [] 0 0 [] [])
def Bth:=ct (fd Tryz.func320 ⟨[.v 77],[.n 77 false],true⟩ gN) (A1q K)
def Ay0 (K:Nat)(a0:Az)(a1:Int):Option Bb:=if(([]:List Int)++a0.Dh).length*8<=140737488355328/\(([]:List Int)++a0.Dh).length<=maxLen then if(([]:List Int)++a0.Ad).length*8<=140737488355328/\(([]:List Int)++a0.Ad).length<=maxLen then some (Bb.mk a1 a0.Bz (([]:List Int)++a0.Dh) (([]:List Int)++a0.Ad) 0)else none else none
def Bti:=ct (fd Tryz.func279 ⟨[.v 77,.v 3],[.n 79 true],true⟩ gN) (Ay0 K)
def A0r (K:Nat)(a0:Az)(a1:Int):Option Bb:=if(([]:List Int)++a0.Dh).length*8<=140737488355328/\(([]:List Int)++a0.Dh).length<=maxLen then if(([]:List Int)++a0.Ad).length*8<=140737488355328/\(([]:List Int)++a0.Ad).length<=maxLen then some (Bb.mk a1 a0.Bz (([]:List Int)++a0.Dh) (([]:List Int)++a0.Ad) 0)else none else none
def By5:=ct (fd Tryz.func279 ⟨[.v 77,.v 3],[.v 79],false⟩ gN) (A0r K)
def Atm (r1:Az)(v4 v5:Int)(v6 v7:Int)(v8 v9 v10:Int)(v11 v12 v13:List Int)(v14:List Az)(v15:List Bb)(v16:List Int):Option Bo:=(Au6 K (Bo.mk (Fi.mk v5 v6 v7 v8 v9 v10) (Ef.mk v11 v12 v13) v14 v15 v16) r1.Ad).bind fun r17=>(A1q K r1).bind fun r18=>if 0<=v4/\v4<r17.fL.length then(A0r K r1 (A1 v4 1)).bind fun r19=>if(([r19]:List Bb)++r17.fQ).length*72<=140737488355328/\(([r19]:List Bb)++r17.fQ).length<=maxLen then some (Bo.mk r17.fC r17.fP (r17.fL.set v4.toNat r18) (([r19]:List Bb)++r17.fQ) r17.Jp)else none else none
def Axa (a0:Bo):Option Bo:=if(0:Int)<=0/\0<(a0.fQ.length:Int)then if 0<=(Ap (gt a0.fQ 0).Bz 1)/\(Ap (gt a0.fQ 0).Bz 1)<a0.fL.length then if 0<=(Ap (gt a0.fQ 0).Bz 1)/\(Ap (gt a0.fQ 0).Bz 1)<a0.fL.length then(Ape K (gt a0.fL (Ap (gt a0.fQ 0).Bz 1))).bind fun r1=>if(0:Int)<=0/\0<(a0.fQ.length:Int)then(Acs K a0.fL r1.G6).bind fun r2=>bif r2 then if 0<=(Ap r1.G6 1)/\(Ap r1.G6 1)<a0.fL.length then Au7 (a0.fL.set (Ap r1.G6 1).toNat (Az.mk (gt a0.fL (Ap r1.G6 1)).G4 (gt a0.fL (Ap r1.G6 1)).C7 (gt a0.fL (Ap r1.G6 1)).Nb (gt a0.fL (Ap r1.G6 1)).fUp (gt a0.fL (Ap r1.G6 1)).G5 (gt a0.fL (Ap r1.G6 1)).Bz (gt a0.fL (Ap r1.G6 1)).G6 0 (gt a0.fL (Ap r1.G6 1)).Ad (gt a0.fL (Ap r1.G6 1)).No (gt a0.fL (Ap r1.G6 1)).G8 (gt a0.fL (Ap r1.G6 1)).D5 (gt a0.fL (Ap r1.G6 1)).Dh)) fun v3=>Atm K r1 (Ap (gt a0.fQ 0).Bz 1) a0.fC.Ad a0.fC.Du a0.fC.Cd a0.fC.Ez a0.fC.Ce a0.fC.Dv a0.fP.Fp a0.fP.G4 a0.fP.Fq v3 (a0.fQ.set (0:Int).toNat (Bb.mk (gt a0.fQ 0).Be r1.G6 (gt a0.fQ 0).Dh (gt a0.fQ 0).Ad (gt a0.fQ 0).H2)) a0.Jp else none else Atm K r1 (Ap (gt a0.fQ 0).Bz 1) a0.fC.Ad a0.fC.Du a0.fC.Cd a0.fC.Ez a0.fC.Ce a0.fC.Dv a0.fP.Fp a0.fP.G4 a0.fP.Fq a0.fL (a0.fQ.set (0:Int).toNat (Bb.mk (gt a0.fQ 0).Be r1.G6 (gt a0.fQ 0).Dh (gt a0.fQ 0).Ad (gt a0.fQ 0).H2)) a0.Jp else none else none else none else none
def By6:=fo Tryz.func273 ⟨[.b 38 false],[],false⟩ (gC (A9h K) (gC (Bck K) (gC (Bly K) (gC (Bth K) gN)))) (oC (d:=60) (gC (By5 K) gN) oN) [] [15] [(0,[.take 1 10 5026]),(1,[.take 1 9 5025,.opn 5025 (.tmp 2),.takeE 5025 11 41611,.takeE 5025 12 41612]),(3,[.put 5025]),(5,[.take 103 8 6656,.frz 6656]),(6,[.take 1 9 5025,.take 103 11 6659,.take 103 12 6660]),(7,[.take 1 10 5026,.frz 6659,.frz 6660])]
def B1s:Fw:=⟨[(0,.p 1),(2,.v 2),(3,.p 103)],[(1,.box bx1),(103,.st 77 false)]⟩
def Bq3:=jn (By6 K) 15 B1s [] (fun a b c d e f g h i j k l m o=>Atm K o a b c d e f g h i j k l m) kN
def By7:=ct (By6 K) (Axa K) (kC (Bq3 K) kN)
def Avn (a0:List Az):Nat->(List Az)->Int->Option (List Az)
 |0,_,_=>none
 |n1+1,v1,v2=>bif decide (v2<a0.length)then if 0<=v2/\v2<a0.length then(Ape K (gt a0 v2)).bind fun r3=>if(v1++[r3]).length*152<=140737488355328/\(v1++[r3]).length<=maxLen then Avn a0 n1 (v1++[r3]) (A1 v2 1)else none else none else some v1
def Axx (a0:List Az):Option (List Az):=Avn K a0 K ([]:List Az) 0
def By8:=fd Tryz.func189 ⟨[.v 35],[.n 35 true],false⟩ (gC (Bck K) gN) (post:=[(20,[.put 3020])])
def B1t:Fw:=⟨[(0,.v 35),(3,.o 1003 77 true),(4,.v 2)],[]⟩
def Bq4:=lp (By8 K) 58 B1t [] (fun n a=>Avn K a n) (fun n=>kN)
def Bic:=ct (By8 K) (Axx K) (kC (Bq4 K K) kN)
def A12 (K:Nat)(v3:List Az):Option (List Az):=some v3
def A32 (a0:List Az)(a1 a2:Int):Option (List Az):=(Axx K a0).bind fun r1=>(Bd K a1 0 (Ap a0.length 1)).bind fun r2=>bif !r2 then some r1 else if 0<=a1/\a1<a0.length then bif decide (((gt a0 a1).C7)>=a2)then if 0<=a1/\a1<r1.length then if 0<=a1/\a1<a0.length then if 0<=a1/\a1<r1.length then A12 K (r1.set a1.toNat (Az.mk 3 (gt a0 a1).C7 0 0 0 0 0 0 [] 0 0 [] []))else none else none else none else if 0<=a1/\a1<a0.length then(Avm K (A1 (gt a0 a1).C7 1)).bind fun r4=>if 0<=a1/\a1<r1.length then A12 K (r1.set a1.toNat r4)else none else none else none
def By9:=fd Tryz.func274 ⟨[.v 35,.v 3,.v 3],[.n 35 true],false⟩ (gC (A5e K) (gC (Bic K) (gC (Blj K) gN))) [] [15] [(5,[.opn 1007 (.tmp 1)])]
def Buy:Fw:=⟨[(7,.o 1007 77 true)],[]⟩
def Bq5:=jn (By9 K) 15 Buy [] (A12 K) kN
def Bza:=ct (By9 K) (A32 K) (kC (Bq5 K) kN)
def Aty (K:Nat)(v6 v7:Int)(v8 v9:Int)(v10 v11:Int)(v12 v13 v14:List Int)(v15:List Az)(v16:List Bb)(v17:List Int):Option Bo:=if(0:Int)<=1/\1<=(v16.length:Int)/\(v16.length:Int)<=v16.length then if(([]:List Bb)++((v16.drop (1:Int).toNat).take ((v16.length:Int) - 1).toNat)).length*72<=140737488355328/\(([]:List Bb)++((v16.drop (1:Int).toNat).take ((v16.length:Int) - 1).toNat)).length<=maxLen then some (Bo.mk (Fi.mk v6 v7 v8 v9 v10 v11) (Ef.mk v12 v13 v14) v15 (([]:List Bb)++((v16.drop (1:Int).toNat).take ((v16.length:Int) - 1).toNat)) v17)else none else none
def Avo (a0:Bo):Option Bo:=if(0:Int)<=0/\0<(a0.fQ.length:Int)then(A26 K (gt a0.fQ 0)).bind fun r1=>bif r1==1 then(Aye K a0).bind fun r2=>some r2 else bif r1==2 then(Ayz K a0).bind fun r3=>some r3 else bif r1==3 then(Axa K a0).bind fun r4=>some r4 else if(0:Int)<=0/\0<(a0.fQ.length:Int)then bif (gt a0.fQ 0).Be != 0 then if(0:Int)<=0/\0<(a0.fQ.length:Int)then(A32 K a0.fL (Ap (gt a0.fQ 0).Be 1) a0.fC.Dv).bind fun r5=>Aty K a0.fC.Ad a0.fC.Du a0.fC.Cd a0.fC.Ez a0.fC.Ce a0.fC.Dv a0.fP.Fp a0.fP.G4 a0.fP.Fq r5 a0.fQ a0.Jp else none else Aty K a0.fC.Ad a0.fC.Du a0.fC.Cd a0.fC.Ez a0.fC.Ce a0.fC.Dv a0.fP.Fp a0.fP.G4 a0.fP.Fq a0.fL a0.fQ a0.Jp else none else none
def Bzb:=fd Tryz.func172 ⟨[.b 38 false],[],false⟩ (gC (Byt K) (gC (Byu K) (gC (By0 K) (gC (By7 K) (gC (Bza K) gN))))) [] [447] [(0,[.take 1 10 5026]),(2,[.take 1 9 5025,.frz 5025]),(3,[.take 1 10 5026]),(5,[.put 1]),(7,[.put 1]),(9,[.put 1])] [(39,[.shal 3039])]
def B1u:Fw:=⟨[(0,.p 1)],[(1,.box bx1)]⟩
def Blz:=jn (Bzb K) 447 B1u [] (Aty K) kN
def Btj:=ct (Bzb K) (Avo K) (kC (Blz K) kN)
def Ax4 (v1 v2:Int)(v3 v4:Int)(v5 v6 v7:Int)(v8 v9 v10:List Int)(v11:List Az)(v12:List Bb)(v13:List Int)(C1:Int->Int->Int->Int->Int->Int->Int->(List Int)->(List Int)->(List Int)->(List Az)->(List Bb)->(List Int)->Option (Int×Bo)):Option (Int×Bo):=(Avo K (Bo.mk (Fi.mk v2 v3 v4 v5 v6 v7) (Ef.mk v8 v9 v10) v11 v12 v13)).bind fun r15=>C1 (A1 v1 1) r15.fC.Ad r15.fC.Du r15.fC.Cd r15.fC.Ez r15.fC.Ce r15.fC.Dv r15.fP.Fp r15.fP.G4 r15.fP.Fq r15.fL r15.fQ r15.Jp
def Auo (a1 a2:Int):Nat->Int->Int->Int->Int->Int->Int->Int->(List Int)->(List Int)->(List Int)->(List Az)->(List Bb)->(List Int)->Option (Int×Bo)
 |0,_,_,_,_,_,_,_,_,_,_,_,_,_=>none
 |n1+1,v1,v2,v3,v4,v5,v6,v7,v8,v9,v10,v11,v12,v13=>bif decide ((v12.length:Int)>0)then(Auh K v11 0).bind fun r14=>bif decide (r14<a1)then Ax4 K v1 v2 v3 v4 v5 v6 v7 v8 v9 v10 v11 v12 v13 (Auo a1 a2 n1)else bif decide (a2>0)then(A0p K (Ef.mk v8 v9 v10) a2).bind fun r16=>bif decide (r16<0)then Ax4 K v1 v2 v3 v4 v5 v6 v7 v8 v9 v10 v11 v12 v13 (Auo a1 a2 n1)else some (v1,(Bo.mk (Fi.mk v2 v3 v4 v5 v6 v7) (Ef.mk v8 v9 v10) v11 v12 v13))else some (v1,(Bo.mk (Fi.mk v2 v3 v4 v5 v6 v7) (Ef.mk v8 v9 v10) v11 v12 v13))else some (v1,(Bo.mk (Fi.mk v2 v3 v4 v5 v6 v7) (Ef.mk v8 v9 v10) v11 v12 v13))
def A0d (a0:Bo)(a1 a2:Int):Option (Int×Bo):=Auo K a1 a2 K 0 a0.fC.Ad a0.fC.Du a0.fC.Cd a0.fC.Ez a0.fC.Ce a0.fC.Dv a0.fP.Fp a0.fP.G4 a0.fP.Fq a0.fL a0.fQ a0.Jp
def Buz:=fd Tryz.func345 ⟨[.b 38 false,.v 3,.v 3],[.v 3],false⟩ (gC (Btj K) (gC (Btd K) (gC (Btf K) gN))) [13,14,21,22,24,25] [56] [(2,[.take 1 10 5026,.take 1 9 5025,.take 1 6 5022,.take 1 7 5023,.take 1 8 5024])]
def Bq6:Fw:=⟨[(0,.p 1),(1,.v 2),(2,.v 2),(7,.v 2)],[(1,.box bx1)]⟩
def Bq7:=fun(C28:CT Bq6 _)=>jn (Buz K) 56 Bq6 [(28,ar Bq6 C28)] (fun a b c d e f g h i j k l m o p=>Ax4 K c d e f g h i j k l m o p (C28 a b)) kN
def Bq8:=lp (Buz K) 28 Bq6 [] (fun n a b=>Auo K a b n) (fun n=>kC (Bq7 K _) kN)
def Bl0:=ct (Buz K) (A0d K) (kC (Bq8 K K) kN)
def Avp (K:Nat)(a0:List Az):Nat->Int->Option Int
 |0,_=>none
 |n1+1,v1=>bif decide (v1<a0.length)then if 0<=v1/\v1<a0.length then bif (gt a0 v1).G4==0 then some v1 else Avp K a0 n1 (A1 v1 1)else none else some (-1)
def A20 (a0:List Az):Option Int:=Avp K a0 K 0
def Bzc:=fd Tryz.func346 ⟨[.v 35],[.v 3],true⟩ gN
def Bl1:Fw:=⟨[(0,.v 35),(3,.v 2)],[]⟩
def Bq9:=lp Bzc 26 Bl1 [] (fun n a=>Avp K a n) (fun n=>kN)
def Bzd:=ct Bzc (A20 K) (kC (Bq9 K K) kN)
def Avq (K:Nat):Nat->Int->(List Int)->(List Int)->(List Int)->Option Int
 |0,_,_,_,_=>none
 |n1+1,v1,v2,v3,v4=>bif decide (v1<v3.length)then if 0<=v1/\v1<v3.length then bif (gt v3 v1)==0 then some v1 else Avq K n1 (A1 v1 1) v2 v3 v4 else none else some (-1)
def Azs (a0:Ef):Option Int:=Avq K K 0 a0.Fp a0.G4 a0.Fq
def Bze:=fd Tryz.func347 ⟨[.v 34],[.v 3],true⟩ gN
def B1v:Fw:=⟨[(1,.p 101),(3,.v 2)],[(101,.box bx9)]⟩
def Bra:=lp Bze 26 B1v [] (Avq K) (fun n=>kN)
def Btk:=ct Bze (Azs K) (kC (Bra K K) kN)
def Axb (K:Nat)(a1 a2 a3:Int):Nat->Int->Ef->Ef->Option Ef
 |0,_,_,_=>none
 |n1+1,v3,v4,v5=>bif decide (v3<(A1 a1 a2))then if 0<=v3/\v3<v4.G4.length then if 0<=v3/\v3<v4.Fq.length then Axb K a1 a2 a3 n1 (A1 v3 1) (Ef.mk v4.Fp (v4.G4.set v3.toNat 1) (v4.Fq.set v3.toNat a3)) v5 else none else none else some v4
def Avr (a0:Ef)(a1 a2 a3:Int):Option Ef:=(Au4 K a0).bind fun r1=>(A0a K a0 a1 a2).bind fun r2=>bif r2 then bif (a0.Fq.length:Int) != (a0.G4.length:Int)then some r1 else Axb K a1 a2 a3 K a1 r1 (Ef.mk [] [] [])else some r1
def Bzf:=fd Tryz.func348 ⟨[.v 34,.v 3,.v 3,.v 3],[.n 34 true],true⟩ (gC (Bia K) (gC (Bte K) gN)) [16,17,18] [] [(7,[.take 109 1 6745]),(8,[.take 109 2 6746]),(9,[.take 109 0 6744,.take 109 1 6745,.take 109 2 6746])]
def B1w:Fw:=⟨[(1,.v 2),(2,.v 2),(3,.v 2),(8,.p 108),(9,.p 109),(10,.v 2)],[(109,.st 34 true),(108,.st 34 true)]⟩
def Bl2:=lp (Bzf K) 122 B1w [] (fun n a b c=>Axb K a b c n) (fun n=>kN)
def Bl3:=ct (Bzf K) (Avr K) (kC (Bl2 K K) kN)
def A40 (K:Nat)(a0:Az):Option Bool:=bif a0.Nb==0 then bif a0.fUp==0 then bif a0.G5==0 then bif a0.Bz==0 then bif a0.G6==0 then bif a0.G7==0 then bif (a0.Ad.length:Int)==0 then bif a0.No==0 then bif a0.G8==0 then bif (a0.D5.length:Int)==0 then some ((a0.Dh.length:Int)==0)else some false else some false else some false else some false else some false else some false else some false else some false else some false else some false
def Bzg:=ct (fd Tryz.func239 ⟨[.v 77],[.v 4],true⟩ gN [5,6,9,10,11,14,15,16,19,20,21,24,25,26,29,30,31,35,36,37,40,41,42,45,46,47,51,52,53]) (A40 K)
def Ay1 (K:Nat)(a0:List Int)(a1:Int):Nat->Int->Option Bool
 |0,_=>none
 |n1+1,v1=>bif decide (v1<a0.length)then if 0<=v1/\v1<a0.length then bif (gt a0 v1)==a1 then some true else Ay1 K a0 a1 n1 (A1 v1 1)else none else some false
def At6 (a0:List Int)(a1:Int):Option Bool:=Ay1 K a0 a1 K 0
def Bzh:=fd Tryz.func242 ⟨[.v 25,.v 3],[.v 4],true⟩ gN
def B1x:Fw:=⟨[(0,.v 25),(1,.v 2),(5,.v 2)],[]⟩
def Brb:=lp Bzh 26 B1x [] (fun n a b=>Ay1 K a b n) (fun n=>kN)
def Beo:=ct Bzh (At6 K) (kC (Brb K K) kN)
def Arw (a0:Fi):Nat->Int->Int->Int->Int->Int->Int->Int->Int->Int->(List Int)->Int->Int->(List Bn)->(List Int)->Option Bool
 |0,_,_,_,_,_,_,_,_,_,_,_,_,_,_=>none
 |n1+1,v1,v2,v3,v4,v5,v6,v7,v8,v9,v10,v11,v12,v13,v14=>bif decide (v1<v10.length)then if 0<=v1/\v1<v10.length then(Bd K (gt v10 v1) 0 (Ap a0.Ad 1)).bind fun r15=>bif r15 then if(0:Int)<=0/\0<=v1/\v1<=v10.length then if 0<=v1/\v1<v10.length then(At6 K ((v10.drop (0:Int).toNat).take (v1 - 0).toNat) (gt v10 v1)).bind fun r16=>bif r16 then some false else Arw a0 n1 (A1 v1 1) v2 v3 v4 v5 v6 v7 v8 v9 v10 v11 v12 v13 v14 else none else none else some false else none else bif v11==0 then some (v12==0)else(At6 K v10 (Ap v11 1)).bind fun r17=>bif r17 then(Bd K v12 0 a0.Du).bind fun r18=>some r18 else some false
def A0s (a0:Fi)(a1:Az):Option Bool:=Arw K a0 K 0 a1.G4 a1.C7 a1.Nb a1.fUp a1.G5 a1.Bz a1.G6 a1.G7 a1.Ad a1.No a1.G8 a1.D5 a1.Dh
def Bzi:=fd Tryz.func240 ⟨[.v 33,.v 77],[.v 4],true⟩ (gC (A5e K) (gC (Beo K) gN)) [21,22,23,46,47]
def Bl4:Fw:=⟨[(2,.p 102),(3,.p 103),(5,.v 2)],[(103,.box bx4),(102,.st 33 true)]⟩
def Brc:=lp (Bzi K) 26 Bl4 [] (fun n a b c d e f g h i j k l m o p=>Arw K p n a b c d e f g h i j k l m o) (fun n=>kN)
def Bzj:=ct (Bzi K) (A0s K) (kC (Brc K K) kN)
def At9 (K:Nat)(a0:Fi)(a1:Int):Option Bool:=some (decide (a1>a0.Du))
def Bl5:=ct (fd Tryz.func302 ⟨[.v 33,.v 3],[.v 4],true⟩ gN) (At9 K)
def A13 (a0 a1:Int):Option Int:=(Bd K a0 0 1000000000).bind fun r1=>bif r1 then(Bd K a1 1 1000000000).bind fun r2=>bif !r2 then some 0 else if a1≠(0:Int)then some (Apq .i64 (Ap (A1 a0 a1) 1) a1)else none else some 0
def Bzk:=ct (fd Tryz.func322 ⟨[.v 3,.v 3],[.v 3],true⟩ (gC (A5e K) gN) [6,7,8]) (A13 K)
def Arl (a0:Fi)(a1:Int):Option Int:=(A13 K a1 a0.Du).bind fun r1=>some r1
def Bl6:=ct (fd Tryz.func303 ⟨[.v 33,.v 3],[.v 3],true⟩ (gC (Bzk K) gN)) (Arl K)
def Axc (a0:Fi)(a1:Bn):Option Bool:=(Avl K a0).bind fun r1=>bif r1==0 then some false else bif decide (a1.Yg<1)then some false else bif decide (a1.fAt<0)then some false else bif decide (a1.fAt>r1)then some false else bif decide (a1.Yg>(Ap r1 a1.fAt))then some false else bif a1.Yh==0 then bif decide (a1.Yg<=a0.Du)then if a0.Du≠(0:Int)then if a0.Du≠(0:Int)then some ((Apq .i64 a1.fAt a0.Du)==(Apq .i64 (Ap (A1 a1.fAt a1.Yg) 1) a0.Du))else none else none else some false else(At9 K a0 a1.Yg).bind fun r2=>bif r2 then(Arl K a0 a1.Yg).bind fun r3=>bif a1.Yh==r3 then if a0.Du≠(0:Int)then some ((Int.tmod a1.fAt a0.Du)==0)else none else some false else some false
def Btl:=ct (fd Tryz.func241 ⟨[.v 33,.v 183],[.v 4],true⟩ (gC (Bqm K) (gC (Bl5 K) (gC (Bl6 K) gN))) [9,10,13,14,15,18,19,20,24,25,26,42,43,63,64,71,72,73]) (Axc K)
def Aup (v23:List Int):Nat->Int->Option Bool
 |0,_=>none
 |n2+1,v25=>bif decide (v25<v23.length)then if 0<=v25/\v25<v23.length then(Bd K (gt v23 v25) 0 255).bind fun r26=>bif !r26 then some false else Aup v23 n2 (A1 v25 1)else none else some true
def Asl (a0:Fi):Nat->Int->Int->Int->Int->Int->Int->Int->Int->Int->(List Int)->Int->Int->(List Bn)->(List Int)->Option Bool
 |0,_,_,_,_,_,_,_,_,_,_,_,_,_,_=>none
 |n1+1,v10,v11,v12,v13,v14,v15,v16,v17,v18,v19,v20,v21,v22,v23=>bif decide (v10<v22.length)then if 0<=v10/\v10<v22.length then(Axc K a0 (gt v22 v10)).bind fun r24=>bif !r24 then some false else Asl a0 n1 (A1 v10 1) v11 v12 v13 v14 v15 v16 v17 v18 v19 v20 v21 v22 v23 else none else Aup K v23 K 0
def At7 (a0:Fi)(a1:Az):Option Bool:=(Apc K a0).bind fun r1=>bif r1 then(Bd K a1.G4 0 3).bind fun r2=>bif r2 then(Bd K a1.C7 1 a0.Dv).bind fun r3=>bif !r3 then some false else bif a1.G4 != 1 then(A40 K a1).bind fun r4=>some r4 else bif decide (a1.Nb<0)then some false else bif decide (a1.G5<0)then some false else(Bd K a1.fUp 0 a0.Cd).bind fun r5=>bif r5 then(Bd K a1.Bz 0 a0.Cd).bind fun r6=>bif r6 then(Bd K a1.G6 0 a0.Cd).bind fun r7=>bif r7 then(Bd K a1.G7 0 a0.Cd).bind fun r8=>bif r8 then(A0s K a0 a1).bind fun r9=>bif r9 then bif decide ((a1.D5.length:Int)>12)then some false else bif decide ((a1.Dh.length:Int)>6)then some false else Asl K a0 K 0 a1.G4 a1.C7 a1.Nb a1.fUp a1.G5 a1.Bz a1.G6 a1.G7 a1.Ad a1.No a1.G8 a1.D5 a1.Dh else some false else some false else some false else some false else some false else some false else some false
def Bu0:=fd Tryz.func141 ⟨[.v 33,.v 77],[.v 4],true⟩ (gC (Bem K) (gC (A5e K) (gC (Bzg K) (gC (Bzj K) (gC (Btl K) gN))))) [8,9,10,13,14,15,16,31,32,35,36,37,42,43,44,45,50,51,52,53,58,59,60,61,66,67,68,69,72,73,74,75,79,80,81]
def B1y:Fw:=⟨[(3,.p 103),(6,.v 2)],[(103,.box bx4)]⟩
def Bl7:=lp (Bu0 K) 506 B1y [] (fun n a _ _ _ _ _ _ _ _ _ _ _ _ o=>Aup K o n a) (fun n=>kN)
def Bl8:=lp (Bu0 K) 250 Bl4 [] (fun n a b c d e f g h i j k l m o p=>Asl K p n a b c d e f g h i j k l m o) (fun n=>kC (up (Bl7 K K)) kN)
def Bcl:=ct (Bu0 K) (At7 K) (kC (Bl8 K K) kN)
def A0e (a0:Fi)(a1:Az)(a2:Int):Option (Az×Bool):=(Ape K a1).bind fun r1=>bif a1.G4 != 1 then some (r1,false)else(Bd K a2 0 (Ap a0.Ad 1)).bind fun r2=>bif !r2 then some (r1,false)else if(r1.Ad++([a2]:List Int)).length*8<=140737488355328/\(r1.Ad++([a2]:List Int)).length<=maxLen then(At7 K a0 (Az.mk r1.G4 r1.C7 r1.Nb r1.fUp r1.G5 r1.Bz r1.G6 r1.G7 (r1.Ad++([a2]:List Int)) (A1 a2 1) 0 r1.D5 r1.Dh)).bind fun r3=>bif !r3 then(Ape K a1).bind fun r4=>some (r4,false)else some ((Az.mk r1.G4 r1.C7 r1.Nb r1.fUp r1.G5 r1.Bz r1.G6 r1.G7 (r1.Ad++([a2]:List Int)) (A1 a2 1) 0 r1.D5 r1.Dh),true)else none
def Btm:=ct (fd Tryz.func349 ⟨[.v 33,.v 77,.v 3],[.n 77 false,.v 4],true⟩ (gC (Bcl K) (gC (A5e K) (gC (Bck K) gN))) [13,14]) (A0e K)
def A27 (K:Nat)(v11:List Az):Option (List Az):=some v11
def A1r (a0:List Az)(a1 a2:Int):Option (List Az):=(Axx K a0).bind fun r1=>(Acs K a0 (A1 a1 1)).bind fun r2=>bif r2 then(Acs K a0 (A1 a2 1)).bind fun r3=>bif r3 then bif a1==a2 then some r1 else if 0<=a1/\a1<a0.length then if 0<=a2/\a2<r1.length then Au7 (r1.set a2.toNat (Az.mk (gt r1 a2).G4 (gt r1 a2).C7 (gt r1 a2).Nb (A1 a1 1) (gt r1 a2).G5 (gt r1 a2).Bz (gt r1 a2).G6 (gt r1 a2).G7 (gt r1 a2).Ad (gt r1 a2).No (gt r1 a2).G8 (gt r1 a2).D5 (gt r1 a2).Dh)) fun v4=>if 0<=a1/\a1<a0.length then if 0<=a2/\a2<v4.length then Au7 (v4.set a2.toNat (Az.mk (gt v4 a2).G4 (gt v4 a2).C7 (gt v4 a2).Nb (gt v4 a2).fUp (gt a0 a1).Nb (gt v4 a2).Bz (gt v4 a2).G6 (gt v4 a2).G7 (gt v4 a2).Ad (gt v4 a2).No (gt v4 a2).G8 (gt v4 a2).D5 (gt v4 a2).Dh)) fun v5=>if 0<=a2/\a2<v5.length then Au7 (v5.set a2.toNat (Az.mk (gt v5 a2).G4 (gt v5 a2).C7 (gt v5 a2).Nb (gt v5 a2).fUp (gt v5 a2).G5 (gt v5 a2).Bz (gt a0 a1).Bz (gt v5 a2).G7 (gt v5 a2).Ad (gt v5 a2).No (gt v5 a2).G8 (gt v5 a2).D5 (gt v5 a2).Dh)) fun v6=>if 0<=a2/\a2<v6.length then Au7 (v6.set a2.toNat (Az.mk (gt v6 a2).G4 (gt v6 a2).C7 (gt v6 a2).Nb (gt v6 a2).fUp (gt v6 a2).G5 (gt v6 a2).Bz (gt v6 a2).G6 0 (gt v6 a2).Ad (gt v6 a2).No (gt v6 a2).G8 (gt v6 a2).D5 (gt v6 a2).Dh)) fun v7=>if 0<=a1/\a1<v7.length then Au7 (v7.set a1.toNat (Az.mk (gt v7 a1).G4 (gt v7 a1).C7 (gt v7 a1).Nb (gt v7 a1).fUp (gt v7 a1).G5 (A1 a2 1) (gt v7 a1).G6 (gt v7 a1).G7 (gt v7 a1).Ad (gt v7 a1).No (gt v7 a1).G8 (gt v7 a1).D5 (gt v7 a1).Dh)) fun v8=>(Acs K a0 (gt a0 a1).Bz).bind fun r9=>bif r9 then if 0<=(Ap (gt a0 a1).Bz 1)/\(Ap (gt a0 a1).Bz 1)<v8.length then Au7 (v8.set (Ap (gt a0 a1).Bz 1).toNat (Az.mk (gt v8 (Ap (gt a0 a1).Bz 1)).G4 (gt v8 (Ap (gt a0 a1).Bz 1)).C7 (gt v8 (Ap (gt a0 a1).Bz 1)).Nb (gt v8 (Ap (gt a0 a1).Bz 1)).fUp (gt v8 (Ap (gt a0 a1).Bz 1)).G5 (gt v8 (Ap (gt a0 a1).Bz 1)).Bz (gt v8 (Ap (gt a0 a1).Bz 1)).G6 (A1 a2 1) (gt v8 (Ap (gt a0 a1).Bz 1)).Ad (gt v8 (Ap (gt a0 a1).Bz 1)).No (gt v8 (Ap (gt a0 a1).Bz 1)).G8 (gt v8 (Ap (gt a0 a1).Bz 1)).D5 (gt v8 (Ap (gt a0 a1).Bz 1)).Dh)) fun v10=>A27 K v10 else none else A27 K v8 else none else none else none else none else none else none else none else some r1 else some r1
def Bzl:=fd Tryz.func350 ⟨[.v 35,.v 3,.v 3],[.n 35 true],false⟩ (gC (Bic K) (gC (A9h K) gN)) [14,15,16,20,21,22,23] [1023]
def Bjf:=jn (Bzl K) 1023 Buy [] (A27 K) kN
def Bzm:=ct (Bzl K) (A1r K) (kC (Bjf K) kN)
def Axd (a1:Int):Nat->Int->Int->Int->Int->Int->Int->Int->(List Int)->(List Int)->(List Int)->(List Az)->(List Bb)->(List Int)->Option (Int×Bo)
 |0,_,_,_,_,_,_,_,_,_,_,_,_,_=>none
 |n1+1,v1,v2,v3,v4,v5,v6,v7,v8,v9,v10,v11,v12,v13=>bif decide (v1<a1)then bif (v12.length:Int)==0 then some (v1,(Bo.mk (Fi.mk v2 v3 v4 v5 v6 v7) (Ef.mk v8 v9 v10) v11 v12 v13))else(Avo K (Bo.mk (Fi.mk v2 v3 v4 v5 v6 v7) (Ef.mk v8 v9 v10) v11 v12 v13)).bind fun r14=>Axd a1 n1 (A1 v1 1) r14.fC.Ad r14.fC.Du r14.fC.Cd r14.fC.Ez r14.fC.Ce r14.fC.Dv r14.fP.Fp r14.fP.G4 r14.fP.Fq r14.fL r14.fQ r14.Jp else some (a1,(Bo.mk (Fi.mk v2 v3 v4 v5 v6 v7) (Ef.mk v8 v9 v10) v11 v12 v13))
def Ay2 (a0:Bo)(a1:Int):Option (Int×Bo):=Axd K a1 K 0 a0.fC.Ad a0.fC.Du a0.fC.Cd a0.fC.Ez a0.fC.Ce a0.fC.Dv a0.fP.Fp a0.fP.G4 a0.fP.Fq a0.fL a0.fQ a0.Jp
def Bzn:=fd Tryz.func86 ⟨[.b 38 false,.v 3],[.v 3],false⟩ (gC (Btj K) gN) [] [] [(4,[.take 1 10 5026]),(6,[.put 1])]
def B1z:Fw:=⟨[(0,.p 1),(1,.v 2),(5,.v 2)],[(1,.box bx1)]⟩
def Brd:=lp (Bzn K) 26 B1z [] (fun n a=>Axd K a n) (fun n=>kN)
def Bl9:=ct (Bzn K) (Ay2 K) (kC (Brd K K) kN)
def Axe (r19 v25:Int)(v26 v27:Int)(v28 v29 v30:Int)(v31 v32 v33:List Int)(v34:List Az)(v35:List Bb)(v36:List Int)(v37:F8):Option (F8×Bo):=(Ax2 K v34 r19).bind fun r38=>(Ay2 K (Bo.mk (Fi.mk v25 v26 v27 v28 v29 v30) (Ef.mk v31 v32 v33) v34 v35 v36) v28).bind fun r39=>some ((F8.mk v37.Aab r38 v37.fR v37.fB v37.Aac r39.1 v37.R2),r39.2)
def Arm (v3 v4:Int)(v5 v6:Int)(v7 v8 v9:Int)(v10 v11 v12:List Int)(v13:List Az)(v14:List Bb)(v15:List Int)(v16 v17:F8):Option (F8×Bo):=bif v16.Aab != 0 then some (v16,(Bo.mk (Fi.mk v4 v5 v6 v7 v8 v9) (Ef.mk v10 v11 v12) v13 v14 v15))else(A0d K (Bo.mk (Fi.mk v4 v5 v6 v7 v8 v9) (Ef.mk v10 v11 v12) v13 v14 v15) 1 1).bind fun r18=>(A20 K r18.2.fL).bind fun r19=>(Azs K r18.2.fP).bind fun r20=>bif decide (r19<0)then some ((F8.mk 5 (Ch.mk 0 0) (Fb.mk (Ch.mk 0 0) 0 0) [] 0 0 0),r18.2)else bif decide (r20<0)then some ((F8.mk 5 (Ch.mk 0 0) (Fb.mk (Ch.mk 0 0) 0 0) [] 0 0 0),r18.2)else if 0<=r19/\r19<r18.2.fL.length then(Avm K (gt r18.2.fL r19).C7).bind fun r21=>(Avr K r18.2.fP r20 1 r19).bind fun r22=>(A0e K r18.2.fC (Az.mk 1 r21.C7 r21.Nb r21.fUp r21.G5 r21.Bz r21.G6 r21.G7 r21.Ad r21.No r21.G8 r21.D5 r21.Dh) r20).bind fun r23=>if 0<=r19/\r19<r18.2.fL.length then bif decide (v3>=0)then(A1r K (r18.2.fL.set r19.toNat r23.1) v3 r19).bind fun r24=>Axe K r19 r18.2.fC.Ad r18.2.fC.Du r18.2.fC.Cd r18.2.fC.Ez r18.2.fC.Ce r18.2.fC.Dv r22.Fp r22.G4 r22.Fq r24 r18.2.fQ r18.2.Jp (F8.mk v16.Aab v16.fH v16.fR v16.fB v16.Aac v16.Ez r18.1)else Axe K r19 r18.2.fC.Ad r18.2.fC.Du r18.2.fC.Cd r18.2.fC.Ez r18.2.fC.Ce r18.2.fC.Dv r22.Fp r22.G4 r22.Fq (r18.2.fL.set r19.toNat r23.1) r18.2.fQ r18.2.Jp (F8.mk v16.Aab v16.fH v16.fR v16.fB v16.Aac v16.Ez r18.1)else none else none
def Axf (v41:Int)(v42:Bool)(v43 v44:Int)(v45 v46:Int)(v47 v48:Int)(v49 v50 v51:List Int)(v52:List Az)(v53:List Bb)(v54:List Int)(v55 v56:F8):Option (F8×Bo):=bif v42 then Arm K v41 v43 v44 v45 v46 v47 v48 v49 v50 v51 v52 v53 v54 (F8.mk 3 v55.fH v55.fR v55.fB v55.Aac v55.Ez v55.R2) v56 else(A3r K (Bo.mk (Fi.mk v43 v44 v45 v46 v47 v48) (Ef.mk v49 v50 v51) v52 v53 v54)).bind fun r57=>bif r57==0 then Arm K v41 v43 v44 v45 v46 v47 v48 v49 v50 v51 v52 v53 v54 (F8.mk 4 v55.fH v55.fR v55.fB v55.Aac v55.Ez v55.R2) v56 else(Av4 K (Bo.mk (Fi.mk v43 v44 v45 v46 v47 v48) (Ef.mk v49 v50 v51) v52 v53 v54) 1).bind fun r58=>bif !r58 then Arm K v41 v43 v44 v45 v46 v47 v48 v49 v50 v51 v52 v53 v54 (F8.mk 5 v55.fH v55.fR v55.fB v55.Aac v55.Ez v55.R2) v56 else Arm K v41 v43 v44 v45 v46 v47 v48 v49 v50 v51 v52 v53 v54 v55 v56
def A14 (a0:Bo)(a1:Ch):Option (F8×Bo):=(A30 K a0 a1).bind fun r1=>(Arv K a0 a1).bind fun r2=>bif r1.2 != 0 then Arm K r1.1 a0.fC.Ad a0.fC.Du a0.fC.Cd a0.fC.Ez a0.fC.Ce a0.fC.Dv a0.fP.Fp a0.fP.G4 a0.fP.Fq a0.fL a0.fQ a0.Jp (F8.mk r1.2 (Ch.mk 0 0) (Fb.mk (Ch.mk 0 0) 0 0) [] r2 0 0) (F8.mk 0 (Ch.mk 0 0) (Fb.mk (Ch.mk 0 0) 0 0) [] 0 0 0)else bif decide (r1.1>=0)then(Az9 K a0.fL r1.1).bind fun r40=>Axf K r1.1 (decide (r40>=4)) a0.fC.Ad a0.fC.Du a0.fC.Cd a0.fC.Ez a0.fC.Ce a0.fC.Dv a0.fP.Fp a0.fP.G4 a0.fP.Fq a0.fL a0.fQ a0.Jp (F8.mk r1.2 (Ch.mk 0 0) (Fb.mk (Ch.mk 0 0) 0 0) [] r2 0 0) (F8.mk 0 (Ch.mk 0 0) (Fb.mk (Ch.mk 0 0) 0 0) [] 0 0 0)else Axf K r1.1 false a0.fC.Ad a0.fC.Du a0.fC.Cd a0.fC.Ez a0.fC.Ce a0.fC.Dv a0.fP.Fp a0.fP.G4 a0.fP.Fq a0.fL a0.fQ a0.Jp (F8.mk r1.2 (Ch.mk 0 0) (Fb.mk (Ch.mk 0 0) 0 0) [] r2 0 0) (F8.mk 0 (Ch.mk 0 0) (Fb.mk (Ch.mk 0 0) 0 0) [] 0 0 0)
def Bre:=fd Tryz.func305 ⟨[.b 38 false,.v 40],[.n 44 true],false⟩ (gC (Blu K) (gC (Bl9 K) (gC (Bs7 K) (gC (Blj K) (gC (Bam K) (gC (Byn K) (gC (Btb K) (gC (Byo K) (gC (Bl0 K) (gC (Bzd K) (gC (Btk K) (gC (Bl3 K) (gC (Btm K) (gC (Bzm K) gN)))))))))))))) [31,32,74,75] [15,243,32767] [(1,[.take 1 6 5022,.take 1 7 5023,.take 1 8 5024,.take 1 9 5025,.take 1 10 5026,.take 1 11 5027]),(6,[.take 1 6 5022,.take 1 7 5023,.take 1 8 5024,.take 1 9 5025,.take 1 10 5026,.take 1 11 5027]),(11,[.take 107 7 6719]),(13,[.take 1 9 5025]),(14,[.take 1 6 5022,.take 1 7 5023,.take 1 8 5024]),(23,[.put 5025,.frz 5025]),(24,[.take 1 9 5025]),(25,[.put 1]),(26,[.take 107 7 6719])]
def B10:Fw:=⟨[(0,.p 1),(4,.p 104),(7,.p 107),(8,.v 2)],[(1,.box bx1),(107,.st 44 true),(104,.st 44 true)]⟩
def B11:Fw:=⟨[(0,.p 1),(4,.p 104),(5,.v 2),(7,.p 107)],[(1,.box bx1),(107,.st 44 true),(104,.st 44 true)]⟩
def B12:Fw:=⟨[(0,.p 1),(4,.p 104),(5,.v 2),(7,.p 107),(29,.v 4)],[(1,.box bx1),(107,.st 44 true),(104,.st 44 true)]⟩
def Bgo:=jn (Bre K) 32767 B10 [] (fun a b c d e f g h i j k l m o _=>Axe K a b c d e f g h i j k l m o) kN
def Bid:=jn (Bre K) 15 B11 [] (Arm K) (kC (Bgo K) kN)
def Bma:=jn (Bre K) 243 B12 [] (Axf K) (kC (Bid K) kN)
def Bzo:=ct (Bre K) (A14 K) (kC (Bid K) (kC (Bma K) kN))
def Avs (K:Nat)(a0:Int):Option Bool:=bif a0==1 then some true else bif a0==2 then some true else some (a0==4)
def Bie:=ct (fd Tryz.func351 ⟨[.v 3],[.v 4],true⟩ gN [4,5,7,8,9]) (Avs K)
def Awi (a0:Fi)(a2 a3 r6:Int):Nat->Int->Az->Az->Int->Int->Int->Int->Int->Int->Int->Int->(List Int)->Int->Int->(List Bn)->(List Int)->Option (Az×Bool)
 |0,_,_,_,_,_,_,_,_,_,_,_,_,_,_,_,_=>none
 |n1+1,v7,v8,v9,v10,v11,v12,v13,v14,v15,v16,v17,v18,v19,v20,v21,v22=>bif decide (v7<r6)then if(v8.Ad++([(A1 a2 v7)]:List Int)).length*8<=140737488355328/\(v8.Ad++([(A1 a2 v7)]:List Int)).length<=maxLen then Awi a0 a2 a3 r6 n1 (A1 v7 1) (Az.mk v8.G4 v8.C7 v8.Nb v8.fUp v8.G5 v8.Bz v8.G6 v8.G7 (v8.Ad++([(A1 a2 v7)]:List Int)) v8.No v8.G8 v8.D5 v8.Dh) v9 v10 v11 v12 v13 v14 v15 v16 v17 v18 v19 v20 v21 v22 else none else if(v8.D5++([(Bn.mk (K1 a2 a0.Du) a3 r6)]:List Bn)).length*24<=140737488355328/\(v8.D5++([(Bn.mk (K1 a2 a0.Du) a3 r6)]:List Bn)).length<=maxLen then(At7 K a0 (Az.mk v8.G4 v8.C7 v8.Nb v8.fUp v8.G5 v8.Bz v8.G6 v8.G7 v8.Ad v8.No v8.G8 (v8.D5++([(Bn.mk (K1 a2 a0.Du) a3 r6)]:List Bn)) v8.Dh)).bind fun r23=>bif !r23 then(Ape K (Az.mk v10 v11 v12 v13 v14 v15 v16 v17 v18 v19 v20 v21 v22)).bind fun r24=>some (r24,false)else some ((Az.mk v8.G4 v8.C7 v8.Nb v8.fUp v8.G5 v8.Bz v8.G6 v8.G7 v8.Ad v8.No v8.G8 (v8.D5++([(Bn.mk (K1 a2 a0.Du) a3 r6)]:List Bn)) v8.Dh),true)else none
def A0t (a0:Fi)(a1:Az)(a2 a3:Int):Option (Az×Bool):=(Ape K a1).bind fun r1=>(Apc K a0).bind fun r2=>bif r2 then bif a1.G4 != 1 then some (r1,false)else(At9 K a0 a3).bind fun r3=>bif r3 then(Avl K a0).bind fun r4=>bif decide (a3>r4)then some (r1,false)else(Bd K a2 0 (Ap a0.Ad 1)).bind fun r5=>bif !r5 then some (r1,false)else(Arl K a0 a3).bind fun r6=>Awi K a0 a2 a3 r6 K 0 r1 (Az.mk 0 0 0 0 0 0 0 0 [] 0 0 [] []) a1.G4 a1.C7 a1.Nb a1.fUp a1.G5 a1.Bz a1.G6 a1.G7 a1.Ad a1.No a1.G8 a1.D5 a1.Dh else some (r1,false)else some (r1,false)
def Bzp:=fd Tryz.func374 ⟨[.v 33,.v 77,.v 3,.v 3],[.n 77 false,.v 4],true⟩ (gC (Bem K) (gC (Bcl K) (gC (A5e K) (gC (Bqm K) (gC (Bck K) (gC (Bl5 K) (gC (Bl6 K) gN))))))) [16,17,18,21,22,23,26,27,28,29,33,34,35] [] [(8,[.take 110 8 6768]),(9,[.take 110 11 6771]),(10,[.take 110 8 6768,.take 110 12 6772])]
def B13:Fw:=⟨[(2,.v 2),(3,.v 2),(4,.p 104),(5,.p 105),(8,.p 108),(10,.p 110),(11,.v 2),(12,.v 2)],[(110,.st 77 false),(108,.st 77 false),(105,.box bx4),(104,.st 33 true)]⟩
def Bmb:=lp (Bzp K) 250 B13 [] (fun n a b c d e f g h i j k l m o p q r s t u=>Awi K u a b c n d e f g h i j k l m o p q r s t) (fun n=>kN)
def Bzq:=ct (Bzp K) (A0t K) (kC (Bmb K K) kN)
def A0u (a0:Bo)(a1 a2:Int)(a3:F8):Option (F8×Bo):=(Arl K a0.fC a2).bind fun r1=>(Av4 K a0 r1).bind fun r2=>bif !r2 then some ((F8.mk 5 a3.fH a3.fR a3.fB a3.Aac a3.Ez a3.R2),a0)else(A0d K a0 0 r1).bind fun r3=>(A0p K r3.2.fP r1).bind fun r4=>bif decide (r4<0)then some ((F8.mk 6 a3.fH a3.fR a3.fB a3.Aac a3.Ez r3.1),r3.2)else(Avr K r3.2.fP r4 r1 a1).bind fun r5=>if 0<=a1/\a1<r3.2.fL.length then if 0<=a1/\a1<r3.2.fL.length then(A0t K r3.2.fC (gt r3.2.fL a1) r4 a2).bind fun r6=>if 0<=a1/\a1<r3.2.fL.length then some ((F8.mk a3.Aab a3.fH a3.fR a3.fB a3.Aac a3.Ez r3.1),(Bo.mk r3.2.fC r5 (r3.2.fL.set a1.toNat r6.1) r3.2.fQ r3.2.Jp))else none else none else none
def Bzr:=ct (fd Tryz.func352 ⟨[.b 38 false,.v 3,.v 3,.v 44],[.v 44],false⟩ (gC (Blu K) (gC (Bl6 K) (gC (Bl0 K) (gC (Bl3 K) (gC (Bzq K) (gC (Btf K) gN)))))) [] [] [(2,[.take 1 6 5022,.take 1 7 5023,.take 1 8 5024,.take 1 9 5025,.take 1 10 5026,.take 1 11 5027]),(5,[.put 1]),(6,[.take 1 6 5022,.take 1 7 5023,.take 1 8 5024]),(11,[.take 1 9 5025,.opn 5025 (.tmp 1),.takeE 5025 11 41611,.takeE 5025 12 41612])]) (A0u K)
def A15 (a0 a1:Int):Option Int:=(Bd K a0 0 1000000000).bind fun r1=>bif r1 then(Avs K a1).bind fun r2=>bif !r2 then some 0 else if a1≠(0:Int)then some (K1 (Apq .i64 (Ap (A1 a0 a1) 1) a1) a1)else none else some 0
def Bzs:=ct (fd Tryz.func390 ⟨[.v 3,.v 3],[.v 3],true⟩ (gC (A5e K) (gC (Bie K) gN)) [6,7,8]) (A15 K)
def A0f (a0:Fi)(a1:Az)(a2 a3:Int):Option (Int×Bool):=(At7 K a0 a1).bind fun r1=>bif r1 then bif a1.No==0 then some (0,false)else(Bd K a2 1 a0.Du).bind fun r2=>bif r2 then(Avs K a3).bind fun r3=>bif !r3 then some (0,false)else(A15 K a1.G8 a3).bind fun r4=>bif decide ((A1 r4 a2)>a0.Du)then some (0,false)else some ((A1 (K1 (Ap a1.No 1) a0.Du) r4),true)else some (0,false)else some (0,false)
def Btn:=ct (fd Tryz.func384 ⟨[.v 33,.v 77,.v 3,.v 3],[.v 3,.v 4],true⟩ (gC (Bcl K) (gC (A5e K) (gC (Bie K) (gC (Bzs K) gN)))) [13,14,15,18,19,20,24,25,26,27]) (A0f K)
def Ayk (a0:Fi)(a1:Az)(a2 a3:Int):Option Bool:=(A0f K a0 a1 a2 a3).bind fun r1=>bif r1.2 then some false else(At7 K a0 a1).bind fun r2=>bif r2 then bif a1.G4==1 then(Bd K a2 1 a0.Du).bind fun r3=>bif r3 then(Avs K a3).bind fun r4=>some r4 else some false else some false else some false
def Bzt:=ct (fd Tryz.func377 ⟨[.v 33,.v 77,.v 3,.v 3],[.v 4],true⟩ (gC (Bcl K) (gC (A5e K) (gC (Bie K) (gC (Btn K) gN)))) [19,20,21,24,25,26,29,30,31,35,36,37]) (Ayk K)
def A0v (a0:Fi)(a1:Az)(a2 a3:Int):Option (Az×Bool):=(Ape K a1).bind fun r1=>(A0f K a0 a1 a2 a3).bind fun r2=>bif r2.2 then bif decide ((a1.D5.length:Int)>=12)then some (r1,false)else if(r1.D5++([(Bn.mk r2.1 a2 0)]:List Bn)).length*24<=140737488355328/\(r1.D5++([(Bn.mk r2.1 a2 0)]:List Bn)).length<=maxLen then some ((Az.mk r1.G4 r1.C7 r1.Nb r1.fUp r1.G5 r1.Bz r1.G6 r1.G7 r1.Ad r1.No (A1 (Ap r2.1 (K1 (Ap a1.No 1) a0.Du)) a2) (r1.D5++([(Bn.mk r2.1 a2 0)]:List Bn)) r1.Dh),true)else none else some (r1,false)
def Bzu:=ct (fd Tryz.func373 ⟨[.v 33,.v 77,.v 3,.v 3],[.n 77 false,.v 4],true⟩ (gC (Bck K) (gC (Btn K) gN)) [23,24,25]) (A0v K)
def Awj (a1 a2:Int)(a3 v7:Int)(v8 v9:Int)(v10 v11 v12:Int)(v13 v14 v15:List Int)(v16:List Az)(v17:List Bb)(v18:List Int)(v19:F8)(v20 v21:Int)(v22 v23:Int)(v24 v25 v26:Int)(v27:List Int)(v28 v29 v30:Int):Option (F8×Bo):=if 0<=a1/\a1<v16.length then if 0<=a1/\a1<v16.length then(A0v K (Fi.mk v7 v8 v9 v10 v11 v12) (gt v16 a1) a2 a3).bind fun r31=>if 0<=a1/\a1<v16.length then some ((F8.mk v20 (Ch.mk v21 v22) (Fb.mk (Ch.mk v23 v24) v25 v26) v27 v28 v29 v30),(Bo.mk (Fi.mk v7 v8 v9 v10 v11 v12) (Ef.mk v13 v14 v15) (v16.set a1.toNat r31.1) v17 v18))else none else none else none
def A0w (a0:Bo)(a1 a2 a3:Int)(a4:F8):Option (F8×Bo):=if 0<=a1/\a1<a0.fL.length then if 0<=a1/\a1<a0.fL.length then(Ayk K a0.fC (gt a0.fL a1) a2 a3).bind fun r1=>bif r1 then(Av4 K a0 1).bind fun r2=>bif !r2 then some ((F8.mk 5 a4.fH a4.fR a4.fB a4.Aac a4.Ez a4.R2),a0)else(A0d K a0 0 1).bind fun r3=>(Azs K r3.2.fP).bind fun r4=>bif decide (r4<0)then some ((F8.mk 5 a4.fH a4.fR a4.fB a4.Aac a4.Ez r3.1),r3.2)else(Avr K r3.2.fP r4 1 a1).bind fun r5=>if 0<=a1/\a1<r3.2.fL.length then if 0<=a1/\a1<r3.2.fL.length then(A0e K r3.2.fC (gt r3.2.fL a1) r4).bind fun r6=>if 0<=a1/\a1<r3.2.fL.length then Awj K a1 a2 a3 r3.2.fC.Ad r3.2.fC.Du r3.2.fC.Cd r3.2.fC.Ez r3.2.fC.Ce r3.2.fC.Dv r5.Fp r5.G4 r5.Fq (r3.2.fL.set a1.toNat r6.1) r3.2.fQ r3.2.Jp (F8.mk 0 (Ch.mk 0 0) (Fb.mk (Ch.mk 0 0) 0 0) [] 0 0 0) a4.Aab a4.fH.Be a4.fH.C7 a4.fR.fH.Be a4.fR.fH.C7 a4.fR.Nb a4.fR.fNo a4.fB a4.Aac a4.Ez r3.1 else none else none else none else Awj K a1 a2 a3 a0.fC.Ad a0.fC.Du a0.fC.Cd a0.fC.Ez a0.fC.Ce a0.fC.Dv a0.fP.Fp a0.fP.G4 a0.fP.Fq a0.fL a0.fQ a0.Jp (F8.mk 0 (Ch.mk 0 0) (Fb.mk (Ch.mk 0 0) 0 0) [] 0 0 0) a4.Aab a4.fH.Be a4.fH.C7 a4.fR.fH.Be a4.fR.fH.C7 a4.fR.Nb a4.fR.fNo a4.fB a4.Aac a4.Ez a4.R2 else none else none
def Bzv:=fd Tryz.func353 ⟨[.b 38 false,.v 3,.v 3,.v 3,.v 44],[.v 44],false⟩ (gC (Blu K) (gC (Bl0 K) (gC (Btk K) (gC (Bl3 K) (gC (Btm K) (gC (Bzu K) (gC (Bzt K) gN))))))) [] [3] [(1,[.take 1 9 5025,.opn 5025 (.tmp 1),.takeE 5025 11 41611,.takeE 5025 12 41612]),(2,[.take 1 6 5022,.take 1 7 5023,.take 1 8 5024,.take 1 10 5026,.take 1 11 5027,.put 5025]),(5,[.put 1]),(6,[.take 1 6 5022,.take 1 7 5023,.take 1 8 5024]),(11,[.take 1 9 5025,.opn 5025 (.tmp 1),.takeE 5025 11 41611,.takeE 5025 12 41612]),(13,[.take 1 9 5025,.opn 5025 (.tmp 1),.takeE 5025 11 41611,.takeE 5025 12 41612])]
def B14:Fw:=⟨[(0,.p 1),(1,.v 2),(2,.v 2),(3,.v 2),(9,.p 109),(10,.p 110)],[(1,.box bx1),(110,.st 44 true),(109,.box bx5)]⟩
def Bu1:=jn (Bzv K) 3 B14 [] (Awj K) kN
def Bzw:=ct (Bzv K) (A0w K) (kC (Bu1 K) kN)
def Awk (a1:Ch)(v5 v22:Int)(v23 v24:Int)(v25 v26 v27:Int)(v28 v29 v30:List Int)(v31:List Az)(v32:List Bb)(v33:List Int)(v34 v35:Int)(v36 v37:Int)(v38 v39 v40:Int)(v41:List Int)(v42 v43 v44:Int):Option (F8×Bo):=bif v34 != 0 then some ((F8.mk v34 (Ch.mk v35 v36) (Fb.mk (Ch.mk v37 v38) v39 v40) v41 v42 v43 v44),(Bo.mk (Fi.mk v22 v23 v24 v25 v26 v27) (Ef.mk v28 v29 v30) v31 v32 v33))else if 0<=v5/\v5<v31.length then if 0<=v5/\v5<v31.length then if 0<=v5/\v5<v31.length then(Ay2 K (Bo.mk (Fi.mk v22 v23 v24 v25 v26 v27) (Ef.mk v28 v29 v30) v31 v32 v33) v25).bind fun r45=>some ((F8.mk v34 (Ch.mk v35 v36) (Fb.mk a1 (gt v31 v5).Nb (Ap (((gt v31 v5).D5).length:Int) 1)) v41 v42 r45.1 v44),r45.2)else none else none else none
def Aui (a1:Ch)(a2 a3:Int)(v5 v6:Int)(v7 v8:Int)(v9 v10 v11:Int)(v12 v13 v14:List Int)(v15:List Az)(v16:List Bb)(v17:List Int)(v18 v19:F8):Option (F8×Bo):=bif v18.Aab != 0 then some (v18,(Bo.mk (Fi.mk v6 v7 v8 v9 v10 v11) (Ef.mk v12 v13 v14) v15 v16 v17))else(At9 K (Fi.mk v6 v7 v8 v9 v10 v11) a2).bind fun r20=>bif r20 then(A0u K (Bo.mk (Fi.mk v6 v7 v8 v9 v10 v11) (Ef.mk v12 v13 v14) v15 v16 v17) v5 a2 v18).bind fun r21=>Awk K a1 v5 r21.2.fC.Ad r21.2.fC.Du r21.2.fC.Cd r21.2.fC.Ez r21.2.fC.Ce r21.2.fC.Dv r21.2.fP.Fp r21.2.fP.G4 r21.2.fP.Fq r21.2.fL r21.2.fQ r21.2.Jp r21.1.Aab r21.1.fH.Be r21.1.fH.C7 r21.1.fR.fH.Be r21.1.fR.fH.C7 r21.1.fR.Nb r21.1.fR.fNo r21.1.fB r21.1.Aac r21.1.Ez r21.1.R2 else(A0w K (Bo.mk (Fi.mk v6 v7 v8 v9 v10 v11) (Ef.mk v12 v13 v14) v15 v16 v17) v5 a2 a3 v18).bind fun r46=>Awk K a1 v5 r46.2.fC.Ad r46.2.fC.Du r46.2.fC.Cd r46.2.fC.Ez r46.2.fC.Ce r46.2.fC.Dv r46.2.fP.Fp r46.2.fP.G4 r46.2.fP.Fq r46.2.fL r46.2.fQ r46.2.Jp r46.1.Aab r46.1.fH.Be r46.1.fH.C7 r46.1.fR.fH.Be r46.1.fR.fH.C7 r46.1.fR.Nb r46.1.fR.fNo r46.1.fB r46.1.Aac r46.1.Ez r46.1.R2
def A0x (a0:Bo)(a1:Ch)(a2 a3:Int):Option (F8×Bo):=(Bd K a2 1 200).bind fun r1=>bif r1 then(Avs K a3).bind fun r2=>bif !r2 then some ((F8.mk 1 (Ch.mk 0 0) (Fb.mk (Ch.mk 0 0) 0 0) [] 0 0 0),a0)else(Apf K a0 a1).bind fun r3=>(Arv K a0 a1).bind fun r4=>bif r3.2==0 then if 0<=r3.1/\r3.1<a0.fL.length then if 0<=r3.1/\r3.1<a0.fL.length then bif decide (((gt a0.fL r3.1).D5.length:Int)>=12)then Aui K a1 a2 a3 r3.1 a0.fC.Ad a0.fC.Du a0.fC.Cd a0.fC.Ez a0.fC.Ce a0.fC.Dv a0.fP.Fp a0.fP.G4 a0.fP.Fq a0.fL a0.fQ a0.Jp (F8.mk 8 (Ch.mk 0 0) (Fb.mk (Ch.mk 0 0) 0 0) [] r4 0 0) (F8.mk 0 (Ch.mk 0 0) (Fb.mk (Ch.mk 0 0) 0 0) [] 0 0 0)else Aui K a1 a2 a3 r3.1 a0.fC.Ad a0.fC.Du a0.fC.Cd a0.fC.Ez a0.fC.Ce a0.fC.Dv a0.fP.Fp a0.fP.G4 a0.fP.Fq a0.fL a0.fQ a0.Jp (F8.mk r3.2 (Ch.mk 0 0) (Fb.mk (Ch.mk 0 0) 0 0) [] r4 0 0) (F8.mk 0 (Ch.mk 0 0) (Fb.mk (Ch.mk 0 0) 0 0) [] 0 0 0)else none else none else Aui K a1 a2 a3 r3.1 a0.fC.Ad a0.fC.Du a0.fC.Cd a0.fC.Ez a0.fC.Ce a0.fC.Dv a0.fP.Fp a0.fP.G4 a0.fP.Fq a0.fL a0.fQ a0.Jp (F8.mk r3.2 (Ch.mk 0 0) (Fb.mk (Ch.mk 0 0) 0 0) [] r4 0 0) (F8.mk 0 (Ch.mk 0 0) (Fb.mk (Ch.mk 0 0) 0 0) [] 0 0 0)else some ((F8.mk 1 (Ch.mk 0 0) (Fb.mk (Ch.mk 0 0) 0 0) [] 0 0 0),a0)
def Bu2:=fd Tryz.func306 ⟨[.b 38 false,.v 40,.v 3,.v 3],[.v 44],false⟩ (gC (Bl9 K) (gC (A5e K) (gC (Bl5 K) (gC (Bcj K) (gC (Bam K) (gC (Bie K) (gC (Bzr K) (gC (Bzw K) gN)))))))) [13,14,15,37,38] [31,127] [(3,[.take 1 6 5022,.take 1 7 5023,.take 1 8 5024,.take 1 9 5025,.take 1 10 5026,.take 1 11 5027]),(8,[.take 111 7 6783]),(10,[.take 111 7 6783,.frz 6783]),(11,[.take 111 7 6783,.frz 6783]),(14,[.take 1 9 5025,.opn 5025 (.tmp 9),.takeE 5025 11 41611]),(15,[.put 1])] [(43,[.opn 5025 (.tmp 43)]),(45,[.takeE 5025 11 41611])]
def B15:Fw:=⟨[(0,.p 1),(5,.p 105),(8,.p 108),(9,.v 2),(11,.p 111)],[(1,.box bx1),(111,.box bx5),(108,.st 44 true),(105,.st 40 true)]⟩
def B16:Fw:=⟨[(0,.p 1),(2,.v 2),(3,.v 2),(5,.p 105),(8,.p 108),(9,.v 2),(11,.p 111)],[(1,.box bx1),(111,.st 44 true),(108,.st 44 true),(105,.st 40 true)]⟩
def Bmc:=jn (Bu2 K) 127 B15 [] (fun a b c d e f g h i j k l m o p q r s t u v w x y _ a1=>Awk K a1 a b c d e f g h i j k l m o p q r s t u v w x y) kN
def Brf:=jn (Bu2 K) 31 B16 [] (fun a b c d e f g h i j k l m o p q r s=>Aui K s a b c d e f g h i j k l m o p q r) (kC (Bmc K) kN)
def Bzx:=ct (Bu2 K) (A0x K) (kC (Brf K) kN)
def A16 (a0:Az):Option Az:=(Ape K a0).bind fun r1=>some (Az.mk r1.G4 r1.C7 (A1 a0.Nb 1) r1.fUp r1.G5 0 r1.G6 r1.G7 ([]:List Int) 0 0 ([]:List Bn) ([]:List Int))
def Bzy:=ct (fd Tryz.func356 ⟨[.v 77],[.n 77 false],true⟩ (gC (Bck K) gN)) (A16 K)
def Ayl (a0:Bo)(a1:Int):Option Bo:=if 0<=a1/\a1<a0.fL.length then if 0<=a1/\a1<a0.fL.length then(Ay0 K (gt a0.fL a1) 0).bind fun r1=>if 0<=a1/\a1<a0.fL.length then(Au6 K a0 (gt a0.fL a1).Ad).bind fun r2=>if 0<=a1/\a1<r2.fL.length then if 0<=a1/\a1<r2.fL.length then(A16 K (gt r2.fL a1)).bind fun r3=>if 0<=a1/\a1<r2.fL.length then if(r2.fQ++([r1]:List Bb)).length*72<=140737488355328/\(r2.fQ++([r1]:List Bb)).length<=maxLen then some (Bo.mk r2.fC r2.fP (r2.fL.set a1.toNat r3) (r2.fQ++([r1]:List Bb)) r2.Jp)else none else none else none else none else none else none else none
def Bzz:=ct (fd Tryz.func309 ⟨[.b 38 false,.v 3],[],false⟩ (gC (Bti K) (gC (Bly K) (gC (Bzy K) gN))) [] [] [(0,[.take 1 9 5025,.opn 5025 (.tmp 1),.takeE 5025 11 41611,.takeE 5025 12 41612]),(1,[.put 1,.take 1 9 5025]),(2,[.take 1 9 5025,.opn 5025 (.tmp 1),.takeE 5025 11 41611,.takeE 5025 12 41612]),(3,[.take 1 10 5026,.frz 20384,.frz 20385])] [(21,[.put 1])]) (Ayl K)
def Ax5 (K:Nat)(a1:Int)(v21:List Az):Option (List Az):=if 0<=a1/\a1<v21.length then Au7 (v21.set a1.toNat (Az.mk (gt v21 a1).G4 (gt v21 a1).C7 (gt v21 a1).Nb 0 (gt v21 a1).G5 (gt v21 a1).Bz (gt v21 a1).G6 (gt v21 a1).G7 (gt v21 a1).Ad (gt v21 a1).No (gt v21 a1).G8 (gt v21 a1).D5 (gt v21 a1).Dh)) fun v22=>if 0<=a1/\a1<v22.length then Au7 (v22.set a1.toNat (Az.mk (gt v22 a1).G4 (gt v22 a1).C7 (gt v22 a1).Nb (gt v22 a1).fUp 0 (gt v22 a1).Bz (gt v22 a1).G6 (gt v22 a1).G7 (gt v22 a1).Ad (gt v22 a1).No (gt v22 a1).G8 (gt v22 a1).D5 (gt v22 a1).Dh)) fun v23=>if 0<=a1/\a1<v23.length then Au7 (v23.set a1.toNat (Az.mk (gt v23 a1).G4 (gt v23 a1).C7 (gt v23 a1).Nb (gt v23 a1).fUp (gt v23 a1).G5 (gt v23 a1).Bz 0 (gt v23 a1).G7 (gt v23 a1).Ad (gt v23 a1).No (gt v23 a1).G8 (gt v23 a1).D5 (gt v23 a1).Dh)) fun v24=>if 0<=a1/\a1<v24.length then Au7 (v24.set a1.toNat (Az.mk (gt v24 a1).G4 (gt v24 a1).C7 (gt v24 a1).Nb (gt v24 a1).fUp (gt v24 a1).G5 (gt v24 a1).Bz (gt v24 a1).G6 0 (gt v24 a1).Ad (gt v24 a1).No (gt v24 a1).G8 (gt v24 a1).D5 (gt v24 a1).Dh)) fun v25=>some v25 else none else none else none else none
def Av9 (a0:List Az)(a1:Int)(v5:List Az)(v6 v7:Int)(v8 v9:Int)(v10 v11:Int)(v12 v13:Int)(v14:List Int)(v15 v16:Int)(v17:List Bn)(v18:List Int):Option (List Az):=(Acs K a0 v12).bind fun r19=>bif r19 then if 0<=(Ap v12 1)/\(Ap v12 1)<v5.length then Au7 (v5.set (Ap v12 1).toNat (Az.mk (gt v5 (Ap v12 1)).G4 (gt v5 (Ap v12 1)).C7 (gt v5 (Ap v12 1)).Nb (gt v5 (Ap v12 1)).fUp (gt v5 (Ap v12 1)).G5 (gt v5 (Ap v12 1)).Bz (gt v5 (Ap v12 1)).G6 v13 (gt v5 (Ap v12 1)).Ad (gt v5 (Ap v12 1)).No (gt v5 (Ap v12 1)).G8 (gt v5 (Ap v12 1)).D5 (gt v5 (Ap v12 1)).Dh)) fun v20=>Ax5 K a1 v20 else none else Ax5 K a1 v5
def Auq (a0:List Az)(a1:Int)(r1:(List Az))(v27:Bool)(v28 v29:Int)(v30 v31:Int)(v32 v33:Int)(v34 v35:Int)(v36:List Int)(v37 v38:Int)(v39:List Bn)(v40:List Int):Option (List Az):=bif v27 then if 0<=(Ap v31 1)/\(Ap v31 1)<r1.length then Au7 (r1.set (Ap v31 1).toNat (Az.mk (gt r1 (Ap v31 1)).G4 (gt r1 (Ap v31 1)).C7 (gt r1 (Ap v31 1)).Nb (gt r1 (Ap v31 1)).fUp (gt r1 (Ap v31 1)).G5 v34 (gt r1 (Ap v31 1)).G6 (gt r1 (Ap v31 1)).G7 (gt r1 (Ap v31 1)).Ad (gt r1 (Ap v31 1)).No (gt r1 (Ap v31 1)).G8 (gt r1 (Ap v31 1)).D5 (gt r1 (Ap v31 1)).Dh)) fun v41=>Av9 K a0 a1 v41 v28 v29 v30 v31 v32 v33 v34 v35 v36 v37 v38 v39 v40 else none else Av9 K a0 a1 r1 v28 v29 v30 v31 v32 v33 v34 v35 v36 v37 v38 v39 v40
def A28 (a0:List Az)(a1:Int):Option (List Az):=(Axx K a0).bind fun r1=>(Acs K a0 (A1 a1 1)).bind fun r2=>bif !r2 then some r1 else if 0<=a1/\a1<a0.length then(Acs K a0 (gt a0 a1).G7).bind fun r3=>bif r3 then if 0<=(Ap (gt a0 a1).G7 1)/\(Ap (gt a0 a1).G7 1)<r1.length then Au7 (r1.set (Ap (gt a0 a1).G7 1).toNat (Az.mk (gt r1 (Ap (gt a0 a1).G7 1)).G4 (gt r1 (Ap (gt a0 a1).G7 1)).C7 (gt r1 (Ap (gt a0 a1).G7 1)).Nb (gt r1 (Ap (gt a0 a1).G7 1)).fUp (gt r1 (Ap (gt a0 a1).G7 1)).G5 (gt r1 (Ap (gt a0 a1).G7 1)).Bz (gt a0 a1).G6 (gt r1 (Ap (gt a0 a1).G7 1)).G7 (gt r1 (Ap (gt a0 a1).G7 1)).Ad (gt r1 (Ap (gt a0 a1).G7 1)).No (gt r1 (Ap (gt a0 a1).G7 1)).G8 (gt r1 (Ap (gt a0 a1).G7 1)).D5 (gt r1 (Ap (gt a0 a1).G7 1)).Dh)) fun v4=>Av9 K a0 a1 v4 (gt a0 a1).G4 (gt a0 a1).C7 (gt a0 a1).Nb (gt a0 a1).fUp (gt a0 a1).G5 (gt a0 a1).Bz (gt a0 a1).G6 (gt a0 a1).G7 (gt a0 a1).Ad (gt a0 a1).No (gt a0 a1).G8 (gt a0 a1).D5 (gt a0 a1).Dh else none else bif (gt a0 a1).G7==0 then(Acs K a0 (gt a0 a1).fUp).bind fun r26=>bif r26 then if 0<=(Ap (gt a0 a1).fUp 1)/\(Ap (gt a0 a1).fUp 1)<a0.length then Auq K a0 a1 r1 (((gt a0 (Ap (gt a0 a1).fUp 1)).Bz)==(A1 a1 1)) (gt a0 a1).G4 (gt a0 a1).C7 (gt a0 a1).Nb (gt a0 a1).fUp (gt a0 a1).G5 (gt a0 a1).Bz (gt a0 a1).G6 (gt a0 a1).G7 (gt a0 a1).Ad (gt a0 a1).No (gt a0 a1).G8 (gt a0 a1).D5 (gt a0 a1).Dh else none else Auq K a0 a1 r1 false (gt a0 a1).G4 (gt a0 a1).C7 (gt a0 a1).Nb (gt a0 a1).fUp (gt a0 a1).G5 (gt a0 a1).Bz (gt a0 a1).G6 (gt a0 a1).G7 (gt a0 a1).Ad (gt a0 a1).No (gt a0 a1).G8 (gt a0 a1).D5 (gt a0 a1).Dh else Auq K a0 a1 r1 false (gt a0 a1).G4 (gt a0 a1).C7 (gt a0 a1).Nb (gt a0 a1).fUp (gt a0 a1).G5 (gt a0 a1).Bz (gt a0 a1).G6 (gt a0 a1).G7 (gt a0 a1).Ad (gt a0 a1).No (gt a0 a1).G8 (gt a0 a1).D5 (gt a0 a1).Dh else none
def Brg:=fd Tryz.func357 ⟨[.v 35,.v 3],[.n 35 true],false⟩ (gC (Bic K) (gC (A9h K) gN)) [35,36,40,41,42] [31,63,499]
def Bz0:Fw:=⟨[(1,.v 2),(5,.o 1005 77 true)],[]⟩
def B17:Fw:=⟨[(0,.v 35),(1,.v 2),(5,.o 1005 77 true),(6,.p 106)],[(106,.box bx4)]⟩
def B18:Fw:=⟨[(0,.v 35),(1,.v 2),(5,.o 1005 77 true),(6,.p 106),(32,.v 4)],[(106,.box bx4)]⟩
def Brh:=jn (Brg K) 63 Bz0 [] (Ax5 K) kN
def Bif:=jn (Brg K) 31 B17 [] (Av9 K) (kC (Brh K) kN)
def Bmd:=jn (Brg K) 499 B18 [] (Auq K) (kC (Bif K) kN)
def Bz1:=ct (Brg K) (A28 K) (kC (Bif K) (kC (Bmd K) kN))
def A0y (a0:Bo)(a1:Int):Option Bo:=if 0<=a1/\a1<a0.fL.length then if 0<=a1/\a1<a0.fL.length then(Ay0 K (gt a0.fL a1) (A1 a1 1)).bind fun r1=>if 0<=a1/\a1<a0.fL.length then(Au6 K a0 (gt a0.fL a1).Ad).bind fun r2=>(A28 K r2.fL a1).bind fun r3=>if 0<=a1/\a1<r3.length then if 0<=a1/\a1<r3.length then(A1q K (gt r3 a1)).bind fun r4=>if 0<=a1/\a1<r3.length then if(r2.fQ++([r1]:List Bb)).length*72<=140737488355328/\(r2.fQ++([r1]:List Bb)).length<=maxLen then some (Bo.mk r2.fC r2.fP (r3.set a1.toNat r4) (r2.fQ++([r1]:List Bb)) r2.Jp)else none else none else none else none else none else none else none
def Bz2:=ct (fd Tryz.func310 ⟨[.b 38 false,.v 3],[],false⟩ (gC (Bti K) (gC (Bly K) (gC (Bth K) (gC (Bz1 K) gN)))) [] [] [(0,[.take 1 9 5025,.opn 5025 (.tmp 1),.takeE 5025 11 41611,.takeE 5025 12 41612]),(1,[.put 1,.take 1 9 5025]),(2,[.take 1 9 5025,.frz 5025]),(3,[.opn 3031 (.tmp 1),.takeE 3031 11 41995,.takeE 3031 12 41996]),(4,[.take 1 10 5026,.frz 20448,.frz 20449])] [(23,[.put 1])]) (A0y K)
def A17 (K:Nat)(a0:Bb):Option Bb:=if(([]:List Int)++a0.Dh).length*8<=140737488355328/\(([]:List Int)++a0.Dh).length<=maxLen then if(([]:List Int)++a0.Ad).length*8<=140737488355328/\(([]:List Int)++a0.Ad).length<=maxLen then some (Bb.mk a0.Be a0.Bz (([]:List Int)++a0.Dh) (([]:List Int)++a0.Ad) a0.H2)else none else none
def Bz3:=ct (fd Tryz.func190 ⟨[.v 79],[.n 79 true],true⟩ gN) (A17 K)
def Atz:Nat->Int->Int->Int->Int->Int->Int->Int->(List Int)->(List Int)->(List Int)->(List Az)->(List Bb)->(List Int)->Bo->Int->Int->Int->Int->Int->Int->(List Int)->(List Int)->(List Int)->(List Az)->(List Bb)->(List Int)->Option Bo
 |0,_,_,_,_,_,_,_,_,_,_,_,_,_,_,_,_,_,_,_,_,_,_,_,_,_,_=>none
 |n1+1,v3,v4,v5,v6,v7,v8,v9,v10,v11,v12,v13,v14,v15,v16,v17,v18,v19,v20,v21,v22,v23,v24,v25,v26,v27,v28=>bif decide (v3<v27.length)then if 0<=v3/\v3<v27.length then(A17 K (gt v27 v3)).bind fun r29=>if(v14++[r29]).length*72<=140737488355328/\(v14++[r29]).length<=maxLen then Atz n1 (A1 v3 1) v4 v5 v6 v7 v8 v9 v10 v11 v12 v13 (v14++[r29]) v15 v16 v17 v18 v19 v20 v21 v22 v23 v24 v25 v26 v27 v28 else none else none else if(([]:List Int)++v28).length*8<=140737488355328/\(([]:List Int)++v28).length<=maxLen then some (Bo.mk (Fi.mk v4 v5 v6 v7 v8 v9) (Ef.mk v10 v11 v12) v13 v14 (([]:List Int)++v28))else none
def Aua (a0:Bo):Option Bo:=(Au4 K a0.fP).bind fun r1=>(Axx K a0.fL).bind fun r2=>Atz K K 0 a0.fC.Ad a0.fC.Du a0.fC.Cd a0.fC.Ez a0.fC.Ce a0.fC.Dv r1.Fp r1.G4 r1.Fq r2 ([]:List Bb) a0.Jp (Bo.mk (Fi.mk 0 0 0 0 0 0) (Ef.mk [] [] []) [] [] []) a0.fC.Ad a0.fC.Du a0.fC.Cd a0.fC.Ez a0.fC.Ce a0.fC.Dv a0.fP.Fp a0.fP.G4 a0.fP.Fq a0.fL a0.fQ a0.Jp
def Bz4:=fd Tryz.func85 ⟨[.v 38],[.n 38 true],false⟩ (gC (Bia K) (gC (Bic K) (gC (Bz3 K) gN))) [] [] [(9,[.take 103 10 6658]),(11,[.take 103 6 6654,.take 103 7 6655,.take 103 8 6656,.take 103 9 6657,.take 103 10 6658])] [(33,[.put 3033])]
def B19:Fw:=⟨[(1,.p 101),(2,.p 102),(3,.p 103),(4,.v 2)],[(103,.box [.v 2,.v 2,.v 2,.v 2,.v 2,.v 2,.T 5 true,.T 3 true,.T 3 true,.T 77 true,.T 79 true,.v 25]),(102,.st 38 true),(101,.box bx6)]⟩
def Bme:=lp (Bz4 K) 506 B19 [] (Atz K) (fun n=>kN)
def Bep:=ct (Bz4 K) (Aua K) (kC (Bme K K) kN)
def At8 (a0:List Az)(a1:Int):Option Bool:=bif a1==0 then some true else(Acs K a0 a1).bind fun r1=>bif r1 then if 0<=(Ap a1 1)/\(Ap a1 1)<a0.length then some (((gt a0 (Ap a1 1)).G4)==1)else none else some false
def Bz5:=ct (fd Tryz.func301 ⟨[.v 35,.v 3],[.v 4],true⟩ (gC (A9h K) gN) [6,7,10,11]) (At8 K)
def Axg (a0:List Az)(a1:Int):Option Bool:=(A1p K a0 a1).bind fun r19=>bif decide ((r19.length:Int)<=4)then if 0<=(Ap r19.length 1)/\(Ap r19.length 1)<r19.length then(Awg K a0 (gt r19 (Ap r19.length 1))).bind fun r20=>some (!r20)else none else some false
def Ay3 (a0:List Az)(a1 v8 v12:Int):Option Bool:=bif v12==0 then(Awg K a0 a1).bind fun r18=>bif r18 then if 0<=(Ap v8 1)/\(Ap v8 1)<a0.length then bif (gt a0 (Ap v8 1)).Bz != (A1 a1 1)then some false else Axg K a0 a1 else none else Axg K a0 a1 else Axg K a0 a1
def Ay4 (a0:List Az)(a1 v8 v12:Int):Option Bool:=bif v12 != 0 then if 0<=(Ap v12 1)/\(Ap v12 1)<a0.length then bif (gt a0 (Ap v12 1)).G6 != (A1 a1 1)then some false else Ay3 K a0 a1 v8 v12 else none else Ay3 K a0 a1 v8 v12
def Ay5 (a0:List Az)(a1 v8:Int)(v9 v11 v12:Int):Option Bool:=bif v11 != 0 then if 0<=(Ap v11 1)/\(Ap v11 1)<a0.length then bif (gt a0 (Ap v11 1)).G7 != (A1 a1 1)then some false else bif (gt a0 (Ap v11 1)).fUp != v8 then some false else bif (gt a0 (Ap v11 1)).G5 != v9 then some false else Ay4 K a0 a1 v8 v12 else none else Ay4 K a0 a1 v8 v12
def Ay6 (a0:List Az)(a1 v5:Int)(v6 v7:Int)(v8 v9:Int)(v10 v11 v12:Int)(v13:List Int)(v14 v15:Int)(v16:List Bn)(v17:List Int):Option Bool:=bif v10 != 0 then if 0<=(Ap v10 1)/\(Ap v10 1)<a0.length then bif (gt a0 (Ap v10 1)).G7 != 0 then some false else bif (gt a0 (Ap v10 1)).fUp != (A1 a1 1)then some false else bif (gt a0 (Ap v10 1)).G5 != v7 then some false else Ay5 K a0 a1 v8 v9 v11 v12 else none else Ay5 K a0 a1 v8 v9 v11 v12
def A33 (a0:List Az)(a1:Int):Option Bool:=if 0<=a1/\a1<a0.length then bif (gt a0 a1).fUp != 0 then(Acs K a0 (gt a0 a1).fUp).bind fun r1=>bif r1 then(At8 K a0 (gt a0 a1).Bz).bind fun r2=>bif r2 then(At8 K a0 (gt a0 a1).G6).bind fun r3=>bif r3 then(At8 K a0 (gt a0 a1).G7).bind fun r4=>bif !r4 then some false else Ay6 K a0 a1 (gt a0 a1).G4 (gt a0 a1).C7 (gt a0 a1).Nb (gt a0 a1).fUp (gt a0 a1).G5 (gt a0 a1).Bz (gt a0 a1).G6 (gt a0 a1).G7 (gt a0 a1).Ad (gt a0 a1).No (gt a0 a1).G8 (gt a0 a1).D5 (gt a0 a1).Dh else some false else some false else some false else(At8 K a0 (gt a0 a1).Bz).bind fun r21=>bif r21 then(At8 K a0 (gt a0 a1).G6).bind fun r22=>bif r22 then(At8 K a0 (gt a0 a1).G7).bind fun r23=>bif !r23 then some false else Ay6 K a0 a1 (gt a0 a1).G4 (gt a0 a1).C7 (gt a0 a1).Nb (gt a0 a1).fUp (gt a0 a1).G5 (gt a0 a1).Bz (gt a0 a1).G6 (gt a0 a1).G7 (gt a0 a1).Ad (gt a0 a1).No (gt a0 a1).G8 (gt a0 a1).D5 (gt a0 a1).Dh else some false else some false else none
def Bjg:=fd Tryz.func238 ⟨[.v 35,.v 3],[.v 4],true⟩ (gC (Bll K) (gC (Blm K) (gC (A9h K) (gC (Bz5 K) gN)))) [15,16,20,21,22,23,27,28,29,30,34,35,36,37,55,56,61,62,63,83,84,89,90,91,100,101,115,116,119,120,121,138,139] [7,15,31,63,127]
def B2a:Fw:=⟨[(0,.v 35),(1,.v 2)],[]⟩
def Beq:Fw:=⟨[(0,.v 35),(1,.v 2),(5,.p 105)],[(105,.box bx4)]⟩
def Bmf:=jn (Bjg K) 127 B2a [] (Axg K) kN
def Bri:=jn (Bjg K) 63 Beq [] (fun a b _ _ _ f _ _ _ j _ _ _ _ _=>Ay3 K a b f j) (kC (Bmf K) kN)
def Brj:=jn (Bjg K) 31 Beq [] (fun a b _ _ _ f _ _ _ j _ _ _ _ _=>Ay4 K a b f j) (kC (Bri K) kN)
def Brk:=jn (Bjg K) 15 Beq [] (fun a b _ _ _ f g _ i j _ _ _ _ _=>Ay5 K a b f g i j) (kC (Brj K) kN)
def Bu3:=jn (Bjg K) 7 Beq [] (Ay6 K) (kC (Brk K) kN)
def Bz6:=ct (Bjg K) (A33 K) (kC (Bu3 K) kN)
def A0z (K:Nat)(v1:Int)(C1:Int->Option Bool):Option Bool:=C1 (A1 v1 1)
def Asm (a0:List Az):Nat->Int->Option Bool
 |0,_=>none
 |n1+1,v1=>bif decide (v1<a0.length)then if 0<=v1/\v1<a0.length then bif (gt a0 v1).G4==1 then(A33 K a0 v1).bind fun r2=>bif !r2 then some false else A0z K v1 (Asm a0 n1)else A0z K v1 (Asm a0 n1)else none else some true
def A29 (a0:List Az):Option Bool:=Asm K a0 K 0
def Bu4:=fd Tryz.func140 ⟨[.v 35],[.v 4],true⟩ (gC (Bz6 K) gN) [15,16] [105]
def Bmg:=fun(C26:CT Bl1 _)=>jn (Bu4 K) 105 Bl1 [(26,ar Bl1 C26)] (fun a b=>A0z K b (C26 a)) kN
def Brl:=lp (Bu4 K) 26 Bl1 [] (fun n a=>Asm K a n) (fun n=>kC (Bmg K _) kN)
def Bz7:=ct (Bu4 K) (A29 K) (kC (Brl K K) kN)
def Azt (K:Nat)(v2:Int)(v3 v4 v5:List Int)(C1:Int->Int->(List Int)->(List Int)->(List Int)->Option Int)(v6:Int):Option Int:=C1 v6 (A1 v2 1) v3 v4 v5
def Arn (a1:Int):Nat->Int->Int->(List Int)->(List Int)->(List Int)->Option Int
 |0,_,_,_,_,_=>none
 |n1+1,v1,v2,v3,v4,v5=>bif decide (v2<v4.length)then if 0<=v2/\v2<v4.length then bif (gt v4 v2)==a1 then Azt K v2 v3 v4 v5 (Arn a1 n1) (A1 v1 1)else Azt K v2 v3 v4 v5 (Arn a1 n1) v1 else none else some v1
def A18 (a0:Ef)(a1:Int):Option Int:=Arn K a1 K 0 0 a0.Fp a0.G4 a0.Fq
def Bu5:=fd Tryz.func246 ⟨[.v 34,.v 3],[.v 3],true⟩ gN [] [233]
def Brm:Fw:=⟨[(1,.v 2),(2,.p 102),(5,.v 2),(6,.v 2)],[(102,.box bx9)]⟩
def Bmh:=fun(C58:CT Brm _)=>jn Bu5 233 Brm [(58,ar Brm C58)] (fun a b c d e f=>Azt K c d e f (C58 a) b) kN
def Brn:=lp Bu5 58 Brm [] (fun n a=>Arn K a n) (fun n=>kC (Bmh K _) kN)
def Bz8:=ct Bu5 (A18 K) (kC (Brn K K) kN)
def Axh (a0:List Az)(a1:Int):Option Bool:=if 0<=a1/\a1<a0.length then bif (gt a0 a1).G4==1 then if 0<=a1/\a1<a0.length then bif (gt a0 a1).fUp != 0 then(Awg K a0 a1).bind fun r1=>some (!r1)else some false else none else some false else none
def Bto:=ct (fd Tryz.func245 ⟨[.v 35,.v 3],[.v 4],true⟩ (gC (Blm K) gN) [10,11,17,18,19]) (Axh K)
def Ax6 (a0:List Az):Nat->Int->(List Int)->Option (List Int)
 |0,_,_=>none
 |n1+1,v1,v2=>(Acs K a0 v1).bind fun r3=>bif r3 then bif decide ((v2.length:Int)<a0.length)then if(v2++([(Ap v1 1)]:List Int)).length*8<=140737488355328/\(v2++([(Ap v1 1)]:List Int)).length<=maxLen then if 0<=(Ap v1 1)/\(Ap v1 1)<a0.length then Ax6 a0 n1 (gt a0 (Ap v1 1)).G6 (v2++([(Ap v1 1)]:List Int))else none else none else some v2 else some v2
def A0g (a0:List Az)(a1:Int):Option (List Int):=Ax6 K a0 K a1 ([]:List Int)
def Bz9:=fd Tryz.func176 ⟨[.v 35,.v 3],[.n 25 true],true⟩ (gC (A9h K) gN) [9,10]
def Bro:=lp (Bz9 K) 28 h_4 [] (fun n a=>Ax6 K a n) (fun n=>kN)
def Btp:=ct (Bz9 K) (A0g K) (kC (Bro K K) kN)
def Ap2 (v4:Int)(v15:List Bb)(v20:List Int)(v21:Int)(C3:(List Int)->Int->Option Bool):Nat->Int->Option Bool
 |0,_=>none
 |n5+1,v22=>if 0<=v4/\v4<v15.length then bif decide (v22<(((gt v15 v4).Ad).length:Int))then if 0<=v21/\v21<v15.length then if 0<=v4/\v4<v15.length then if 0<=v22/\v22<(((gt v15 v4).Ad).length:Int)then(At6 K (gt v15 v21).Ad (gt (gt v15 v4).Ad v22)).bind fun r23=>bif r23 then some false else Ap2 v4 v15 v20 v21 C3 n5 (A1 v22 1)else none else none else none else C3 v20 (A1 v21 1)else none
def Avt (v4:Int)(v15:List Bb)(v20:List Int)(v21:Int)(C3:(List Int)->Int->Option Bool):Option Bool:=Ap2 K v4 v15 v20 v21 (C3) K 0
def Amk (v4 v5:Int)(v6 v7:Int)(v8 v9 v10:Int)(v11 v12 v13:List Int)(v14:List Az)(v15:List Bb)(v16:List Int)(v17 v18:Int)(C1:Int->Int->(List Int)->Int->Int->Int->Int->Int->Int->Int->(List Int)->(List Int)->(List Int)->(List Az)->(List Bb)->(List Int)->Option Bool):Nat->(List Int)->Int->Option Bool
 |0,_,_=>none
 |n3+1,v20,v21=>bif decide (v21<v4)then if 0<=v4/\v4<v15.length then bif (gt v15 v4).Be != 0 then if 0<=v21/\v21<v15.length then if 0<=v4/\v4<v15.length then bif (gt v15 v21).Be==(gt v15 v4).Be then some false else Avt K v4 v15 v20 v21 (Amk v4 v5 v6 v7 v8 v9 v10 v11 v12 v13 v14 v15 v16 v17 v18 C1 n3)else none else none else Avt K v4 v15 v20 v21 (Amk v4 v5 v6 v7 v8 v9 v10 v11 v12 v13 v14 v15 v16 v17 v18 C1 n3)else none else C1 v17 v18 v20 (A1 v4 1) v5 v6 v7 v8 v9 v10 v11 v12 v13 v14 v15 v16
def Avu (v3:List Int)(v4 v5:Int)(v6 v7:Int)(v8 v9 v10:Int)(v11 v12 v13:List Int)(v14:List Az)(v15:List Bb)(v16:List Int)(C1:Int->Int->(List Int)->Int->Int->Int->Int->Int->Int->Int->(List Int)->(List Int)->(List Int)->(List Az)->(List Bb)->(List Int)->Option Bool)(v17 v18:Int):Option Bool:=if 0<=v4/\v4<v15.length then(A0g K v14 (gt v15 v4).Bz).bind fun r19=>if(v3++r19).length*8<=140737488355328/\(v3++r19).length<=maxLen then Amk K v4 v5 v6 v7 v8 v9 v10 v11 v12 v13 v14 v15 v16 v17 v18 (C1) K (v3++r19) 0 else none else none
def Axy (K:Nat)(v25:Int)(C6:Int->Int->Option Bool)(v27:Int):Option Bool:=C6 v27 (A1 v25 1)
def Aml (v1 v2:Int)(v3 v11:List Int)(v12 v13:List Int)(v14:List Az)(v24:Int):Nat->Int->Option Bool
 |0,_=>none
 |n8+1,v28=>bif decide (v28<v3.length)then if(0:Int)<=0/\0<=v28/\v28<=v3.length then if 0<=v28/\v28<v3.length then(At6 K ((v3.drop (0:Int).toNat).take (v28 - 0).toNat) (gt v3 v28)).bind fun r29=>bif r29 then some false else Aml v1 v2 v3 v11 v12 v13 v14 v24 n8 (A1 v28 1)else none else none else(A18 K (Ef.mk v11 v12 v13) 2).bind fun r30=>bif v1==r30 then(Auh K v14 2).bind fun r31=>bif v2==r31 then some ((v3.length:Int)==v24)else some false else some false
def Aio (v1 v2:Int)(v3 v11:List Int)(v12 v13:List Int)(v14:List Az):Nat->Int->Int->Option Bool
 |0,_,_=>none
 |n6+1,v24,v25=>bif decide (v25<v14.length)then(Axh K v14 v25).bind fun r26=>bif r26 then Axy K v25 (Aio v1 v2 v3 v11 v12 v13 v14 n6) (A1 v24 1)else Axy K v25 (Aio v1 v2 v3 v11 v12 v13 v14 n6) v24 else Aml K v1 v2 v3 v11 v12 v13 v14 v24 K 0
def Aen:Nat->Int->Int->(List Int)->Int->Int->Int->Int->Int->Int->Int->(List Int)->(List Int)->(List Int)->(List Az)->(List Bb)->(List Int)->Option Bool
 |0,_,_,_,_,_,_,_,_,_,_,_,_,_,_,_,_=>none
 |n1+1,v1,v2,v3,v4,v5,v6,v7,v8,v9,v10,v11,v12,v13,v14,v15,v16=>bif decide (v4<v15.length)then if 0<=v4/\v4<v15.length then if 0<=v4/\v4<v15.length then bif (gt v15 v4).Be != 0 then Avu K v3 v4 v5 v6 v7 v8 v9 v10 v11 v12 v13 v14 v15 v16 (Aen n1) (A1 v1 (((gt v15 v4).Ad).length:Int)) (A1 v2 1)else Avu K v3 v4 v5 v6 v7 v8 v9 v10 v11 v12 v13 v14 v15 v16 (Aen n1) (A1 v1 (((gt v15 v4).Ad).length:Int)) v2 else none else none else Aio K v1 v2 v3 v11 v12 v13 v14 K 0 0
def Azu (a0:Bo):Option Bool:=Aen K K 0 0 ([]:List Int) 0 a0.fC.Ad a0.fC.Du a0.fC.Cd a0.fC.Ez a0.fC.Ce a0.fC.Dv a0.fP.Fp a0.fP.G4 a0.fP.Fq a0.fL a0.fQ a0.Jp
def Bdb:=fd Tryz.func148 ⟨[.v 38],[.v 4],true⟩ (gC (Btp K) (gC (Beo K) (gC (Bto K) (gC (Bz8 K) (gC (Btd K) gN))))) [60,61,134,135,140,141,142] [4073,8009,2050532]
def B2b:Fw:=⟨[(1,.p 101),(3,.v 2),(4,.v 2),(5,.o 1005 3 true),(6,.v 2),(7,.v 2),(8,.v 2)],[(101,.box bx6)]⟩
def Bjh:Fw:=⟨[(1,.p 101),(3,.v 2),(4,.v 2),(5,.o 1005 3 true),(6,.v 2),(7,.v 2)],[(101,.box bx6)]⟩
def Bb2:Fw:=⟨[(1,.p 101),(3,.v 2),(4,.v 2),(5,.o 1005 3 true),(6,.v 2)],[(101,.box bx6)]⟩
def Brp:Fw:=⟨[(1,.p 101),(3,.v 2),(4,.v 2),(5,.o 1005 3 true),(9,.v 2),(10,.v 2)],[(101,.box bx6)]⟩
def B2c:Fw:=⟨[(1,.p 101),(3,.v 2),(4,.v 2),(5,.o 1005 3 true),(9,.v 2),(11,.v 2)],[(101,.box bx6)]⟩
def Bb3:=fun(C250:CT Bb2 _) (C128158:CT Bjh _)=>lp (Bdb K) 16404262 B2b [(128158,ar Bjh C128158),(250,ar Bb2 C250)] (fun n a b c d e f g h i j k l m o p q r s=>Ap2 K d r c e (fun v20 v21=>C128158 a b v20 d v21 g h i j k l m o p q r s) n f) (fun n=>kN)
def Bdc:=fun(C250:CT Bb2 _) (C128158:CT Bjh _)=>jn (Bdb K) 2050532 Bjh [(128158,ar Bjh C128158),(250,ar Bb2 C250)] (fun a b c d e f g h i j k l m o p q r=>Avt K d q c e (fun v20 v21=>C128158 a b v20 d v21 f g h i j k l m o p q r)) (kC (Bb3 K _ _ K) kN)
def Ber:=fun(C250:CT Bb2 _)=>lp (Bdb K) 128158 Bjh [(250,ar Bb2 C250)] (fun n a b c d e f g h i j k l m o p q r=>Amk K d f g h i j k l m o p q r a b C250 n c e) (fun n=>kC (Bdc K _ _) kN)
def Bji:=fun(C250:CT Bb2 _)=>jn (Bdb K) 8009 Bb2 [(250,ar Bb2 C250)] (fun a b c d e f g h i j k l m o p q=>Avu K c d e f g h i j k l m o p q C250 a b) (kC (Ber K _ K) kN)
def Bjj:=fun(C1018:CT Brp _)=>jn (Bdb K) 4073 Brp [(1018,ar Brp C1018)] (fun a b c d e f g h i j k l m o p q r=>Axy K e (fun v24 v25=>C1018 a b c v24 v25 f g h i j k l m o p q r) d) kN
def Bjk:=lp (Bdb K) 2042 B2c [] (fun n a b c d e _ _ _ _ _ _ l m o p _ _=>Aml K a b c l m o p d n e) (fun n=>kN)
def Bjl:=lp (Bdb K) 1018 Brp [] (fun n a b c d e _ _ _ _ _ _ l m o p _ _=>Aio K a b c l m o p n d e) (fun n=>kC (Bjj K _) (kC (up (Bjk K K)) kN))
def Bmi:=lp (Bdb K) 250 Bb2 [] (Aen K) (fun n=>kC (Bji K _) (kC (up (Bjl K K)) kN))
def B0a:=ct (Bdb K) (Azu K) (kC (Bmi K K) kN)
def Aro (a0:Fi)(v8:List Int):Nat->Int->Option Bool
 |0,_=>none
 |n3+1,v12=>bif decide (v12<v8.length)then if 0<=v12/\v12<v8.length then(Bd K (gt v8 v12) 0 (Ap a0.Ad 1)).bind fun r13=>bif r13 then if(0:Int)<=0/\0<=v12/\v12<=v8.length then if 0<=v12/\v12<v8.length then(At6 K ((v8.drop (0:Int).toNat).take (v12 - 0).toNat) (gt v8 v12)).bind fun r14=>bif r14 then some false else Aro a0 v8 n3 (A1 v12 1)else none else none else some false else none else some true
def At0 (a0:Fi)(v7 v8:List Int):Nat->Int->Option Bool
 |0,_=>none
 |n2+1,v10=>bif decide (v10<v7.length)then if 0<=v10/\v10<v7.length then(Bd K (gt v7 v10) 0 255).bind fun r11=>bif !r11 then some false else At0 a0 v7 v8 n2 (A1 v10 1)else none else Aro K a0 v8 K 0
def Azv (a0:Fi)(v5 v6:Int)(v7 v8:List Int)(v9:Int):Option Bool:=At0 K a0 v7 v8 K 0
def A19 (a0:Fi)(a1:Bb):Option Bool:=(Apc K a0).bind fun r1=>bif r1 then(Bd K a1.Be 0 a0.Cd).bind fun r2=>bif r2 then(Bd K a1.Bz 0 a0.Cd).bind fun r3=>bif r3 then bif decide ((a1.Dh.length:Int)>6)then some false else(Bd K a1.H2 0 (Ap a0.Du 1)).bind fun r4=>bif r4 then bif (a1.Ad.length:Int)==0 then bif a1.H2 != 0 then some false else Azv K a0 a1.Be a1.Bz a1.Dh a1.Ad a1.H2 else Azv K a0 a1.Be a1.Bz a1.Dh a1.Ad a1.H2 else some false else some false else some false else some false
def Brq:=fd Tryz.func244 ⟨[.v 33,.v 79],[.v 4],true⟩ (gC (Bem K) (gC (A5e K) (gC (Beo K) gN))) [8,9,10,15,16,17,18,23,24,25,26,30,31,32,38,39,40,41,45,46,81,82,83] [3]
def B2d:Fw:=⟨[(2,.p 102),(3,.p 103),(6,.v 2)],[(103,.box bx7),(102,.st 33 true)]⟩
def B2e:Fw:=⟨[(2,.p 102),(3,.p 103),(5,.v 2)],[(103,.box bx7),(102,.st 33 true)]⟩
def B2f:Fw:=⟨[(2,.p 102),(3,.p 103)],[(103,.box bx7),(102,.st 33 true)]⟩
def Bmj:=lp (Brq K) 122 B2d [] (fun n a _ _ _ e _ g=>Aro K g e n a) (fun n=>kN)
def Brr:=lp (Brq K) 58 B2e [] (fun n a _ _ d e _ g=>At0 K g d e n a) (fun n=>kC (up (Bmj K K)) kN)
def Bu6:=jn (Brq K) 3 B2f [] (fun a b c d e f=>Azv K f a b c d e) (kC (Brr K K) kN)
def B0b:=ct (Brq K) (A19 K) (kC (Bu6 K) kN)
def Auj (v17:List Az)(r21:(List Int)):Nat->Int->Option Bool
 |0,_=>none
 |n4+1,v22=>bif decide (v22<r21.length)then if 0<=v22/\v22<r21.length then(Axh K v17 (gt r21 v22)).bind fun r23=>bif !r23 then some false else Auj v17 r21 n4 (A1 v22 1)else none else some true
def Arx (v4:Int)(v17:List Az):Option Bool:=(A0g K v17 v4).bind fun r21=>Auj K v17 r21 K 0
def Awl (v3 v4:Int)(v17:List Az):Option Bool:=bif v3 != 0 then if 0<=(Ap v3 1)/\(Ap v3 1)<v17.length then bif (gt v17 (Ap v3 1)).G4 != 2 then some false else bif v4 != 0 then if 0<=(Ap v4 1)/\(Ap v4 1)<v17.length then bif (gt v17 (Ap v4 1)).G7 != 0 then some false else Arx K v4 v17 else none else Arx K v4 v17 else none else bif v4 != 0 then if 0<=(Ap v4 1)/\(Ap v4 1)<v17.length then bif (gt v17 (Ap v4 1)).G7 != 0 then some false else Arx K v4 v17 else none else Arx K v4 v17
def Ary:Nat->Int->Int->Int->(List Int)->(List Int)->Int->Int->Int->Int->Int->Int->Int->(List Int)->(List Int)->(List Int)->(List Az)->(List Bb)->(List Int)->Option Bool
 |0,_,_,_,_,_,_,_,_,_,_,_,_,_,_,_,_,_,_=>none
 |n1+1,v2,v3,v4,v5,v6,v7,v8,v9,v10,v11,v12,v13,v14,v15,v16,v17,v18,v19=>bif decide (v2<v6.length)then if 0<=v2/\v2<v6.length then if 0<=(gt v6 v2)/\(gt v6 v2)<v15.length then bif (gt v15 (gt v6 v2)) != 2 then some false else Ary n1 (A1 v2 1) v3 v4 v5 v6 v7 v8 v9 v10 v11 v12 v13 v14 v15 v16 v17 v18 v19 else none else none else bif decide ((v6.length:Int)>0)then if(0:Int)<=0/\0<(v6.length:Int)then if(0:Int)<=0/\0<(v6.length:Int)then if 0<=(K1 (gt v6 0) v9)/\(K1 (gt v6 0) v9)<=(A1 (K1 (gt v6 0) v9) v7)/\(A1 (K1 (gt v6 0) v9) v7)<=v14.length then(Au5 K ((v14.drop (K1 (gt v6 0) v9).toNat).take ((A1 (K1 (gt v6 0) v9) v7) - (K1 (gt v6 0) v9)).toNat)).bind fun r20=>bif !r20 then some false else Awl K v3 v4 v17 else none else none else none else Awl K v3 v4 v17
def A00 (a0:Bo)(a1:Int):Option Bool:=if 0<=a1/\a1<a0.fQ.length then(A19 K a0.fC (gt a0.fQ a1)).bind fun r1=>bif !r1 then some false else Ary K K 0 (gt a0.fQ a1).Be (gt a0.fQ a1).Bz (gt a0.fQ a1).Dh (gt a0.fQ a1).Ad (gt a0.fQ a1).H2 a0.fC.Ad a0.fC.Du a0.fC.Cd a0.fC.Ez a0.fC.Ce a0.fC.Dv a0.fP.Fp a0.fP.G4 a0.fP.Fq a0.fL a0.fQ a0.Jp else none
def Bmk:=fd Tryz.func146 ⟨[.v 38,.v 3],[.v 4],true⟩ (gC (Btp K) (gC (Bib K) (gC (B0b K) (gC (Bto K) gN)))) [40,41,70,71,80,81,82,85,86] [31,63]
def B2g:Fw:=⟨[(2,.p 102),(7,.v 25),(8,.v 2)],[(102,.box bx6)]⟩
def B0c:Fw:=⟨[(2,.p 102),(5,.p 105)],[(105,.box bx7),(102,.box bx6)]⟩
def B2h:Fw:=⟨[(2,.p 102),(5,.p 105),(6,.v 2)],[(105,.box bx7),(102,.box bx6)]⟩
def Bjm:=lp (Bmk K) 2042 B2g [] (fun n a b _ _ _ _ _ _ _ _ _ l _ _=>Auj K l a n b) (fun n=>kN)
def Brs:=jn (Bmk K) 63 B0c [] (fun _ b _ _ _ _ _ _ _ _ _ _ _ _ p _ _=>Arx K b p) (kC (Bjm K K) kN)
def Brt:=jn (Bmk K) 31 B0c [] (fun a b _ _ _ _ _ _ _ _ _ _ _ _ p _ _=>Awl K a b p) (kC (Brs K) kN)
def Bml:=lp (Bmk K) 122 B2h [] (Ary K) (fun n=>kC (up (Brt K)) kN)
def B0d:=ct (Bmk K) (A00 K) (kC (Bml K K) kN)
def Ap3 (a1:Int)(r1:(List Int)):Nat->Int->Int->Int->Int->Int->Int->Int->(List Int)->(List Int)->(List Int)->(List Az)->(List Bb)->(List Int)->Option Bool
 |0,_,_,_,_,_,_,_,_,_,_,_,_,_=>none
 |n1+1,v2,v3,v4,v5,v6,v7,v8,v9,v10,v11,v12,v13,v14=>bif decide (v2<r1.length)then if 0<=a1/\a1<v12.length then if 0<=v2/\v2<r1.length then(At6 K (gt v12 a1).Ad (gt r1 v2)).bind fun r15=>bif !r15 then some false else Ap3 a1 r1 n1 (A1 v2 1) v3 v4 v5 v6 v7 v8 v9 v10 v11 v12 v13 v14 else none else none else if 0<=a1/\a1<v12.length then some ((r1.length:Int)==(((gt v12 a1).Ad).length:Int))else none
def Azw (a0:Bo)(a1:Int):Option Bool:=(Ayy K a0.fP a1).bind fun r1=>Ap3 K a1 r1 K 0 a0.fC.Ad a0.fC.Du a0.fC.Cd a0.fC.Ez a0.fC.Ce a0.fC.Dv a0.fP.Fp a0.fP.G4 a0.fP.Fq a0.fL a0.fQ a0.Jp
def B0e:=fd Tryz.func142 ⟨[.v 38,.v 3],[.v 4],true⟩ (gC (Btc K) (gC (Beo K) gN))
def B2i:Fw:=⟨[(1,.v 2),(2,.p 102),(5,.v 25),(6,.v 2)],[(102,.box bx6)]⟩
def Bru:=lp (B0e K) 58 B2i [] (fun n a b=>Ap3 K a b n) (fun n=>kN)
def B0f:=ct (B0e K) (Azw K) (kC (Bru K K) kN)
def Arz (a0:Fi)(v1 v2:Int)(v3 v4:Int)(v5 v6:Int)(v7 v8 v9:Int)(v10:List Int)(v11 v12:Int)(v13:List Bn)(v14:List Int)(C1:Int->Int->Int->Int->Int->Int->Int->Int->Int->(List Int)->Int->Int->(List Bn)->(List Int)->Option Bool):Nat->Int->Bn->Option Bool
 |0,_,_=>none
 |n2+1,v16,v17=>if a0.Du≠(0:Int)then bif decide (v16<=(Apq .i64 (Ap (A1 v17.fAt v17.Yg) 1) a0.Du))then(At6 K v10 v16).bind fun r18=>bif !r18 then some false else Arz a0 v1 v2 v3 v4 v5 v6 v7 v8 v9 v10 v11 v12 v13 v14 C1 n2 (A1 v16 1) v17 else C1 (A1 v1 1) v2 v3 v4 v5 v6 v7 v8 v9 v10 v11 v12 v13 v14 else none
def Akw (a0:Fi):Nat->Int->Int->Int->Int->Int->Int->Int->Int->Int->(List Int)->Int->Int->(List Bn)->(List Int)->Option Bool
 |0,_,_,_,_,_,_,_,_,_,_,_,_,_,_=>none
 |n1+1,v1,v2,v3,v4,v5,v6,v7,v8,v9,v10,v11,v12,v13,v14=>bif decide (v1<v13.length)then if 0<=v1/\v1<v13.length then(Axc K a0 (gt v13 v1)).bind fun r15=>bif !r15 then some false else if a0.Du≠(0:Int)then Arz K a0 v1 v2 v3 v4 v5 v6 v7 v8 v9 v10 v11 v12 v13 v14 (Akw a0 n1) K (Apq .i64 (gt v13 v1).fAt a0.Du) (gt v13 v1)else none else none else some true
def A01 (a0:Fi)(a1:Az):Option Bool:=Akw K a0 K 0 a1.G4 a1.C7 a1.Nb a1.fUp a1.G5 a1.Bz a1.G6 a1.G7 a1.Ad a1.No a1.G8 a1.D5 a1.Dh
def Bu7:=fd Tryz.func143 ⟨[.v 33,.v 77],[.v 4],true⟩ (gC (Btl K) (gC (Beo K) gN))
def B2j:Fw:=⟨[(2,.p 102),(3,.p 103),(5,.v 2),(6,.p 106),(7,.v 2)],[(106,.st 183 true),(103,.box bx4),(102,.st 33 true)]⟩
def Bjn:=fun(C26:CT Bl4 _)=>lp (Bu7 K) 6734 B2j [(26,ar Bl4 C26)] (fun n a b c d e f g h i j k l m o p q r=>Arz K r a d e f g h i j k l m o p q (fun v1 v2 v3 v4 v5 v6 v7 v8 v9 v10 v11 v12 v13 v14=>C26 v1 v2 v3 v4 v5 v6 v7 v8 v9 v10 v11 v12 v13 v14 r) n b c) (fun n=>kN)
def Brv:=lp (Bu7 K) 26 Bl4 [] (fun n a b c d e f g h i j k l m o p=>Akw K p n a b c d e f g h i j k l m o) (fun n=>kC (Bjn K _ K) kN)
def B0g:=ct (Bu7 K) (A01 K) (kC (Brv K K) kN)
def A34 (K:Nat)(a0 a1:Bn):Option Bool:=bif decide (a0.Yg<1)then some true else bif decide (a1.Yg<1)then some true else bif decide (a0.fAt<=a1.fAt)then bif decide ((Ap a1.fAt a0.fAt)>=a0.Yg)then some true else some (decide ((Ap a1.fAt a0.fAt)<0))else bif decide ((Ap a0.fAt a1.fAt)>=a1.Yg)then some true else some (decide ((Ap a0.fAt a1.fAt)<0))
def Bu8:=ct (fd Tryz.func243 ⟨[.v 183,.v 183],[.v 4],true⟩ gN [7,8,25,26,41,42]) (A34 K)
def Ar0 (a0:List Bn)(v1:Int)(C1:Int->Option Bool):Nat->Int->Option Bool
 |0,_=>none
 |n2+1,v2=>bif decide (v2<v1)then if 0<=v1/\v1<a0.length then if 0<=v2/\v2<a0.length then(A34 K (gt a0 v1) (gt a0 v2)).bind fun r3=>bif !r3 then some false else Ar0 a0 v1 C1 n2 (A1 v2 1)else none else none else C1 (A1 v1 1)
def Ak3 (a0:List Bn):Nat->Int->Option Bool
 |0,_=>none
 |n1+1,v1=>bif decide (v1<a0.length)then Ar0 K a0 v1 (Ak3 a0 n1) K 0 else some true
def A02 (a0:List Bn):Option Bool:=Ak3 K a0 K 0
def Bmm:=fd Tryz.func144 ⟨[.v 75],[.v 4],true⟩ (gC (Bu8 K) gN)
def B2k:Fw:=⟨[(0,.v 75),(3,.v 2),(4,.v 2)],[]⟩
def Bu9:Fw:=⟨[(0,.v 75),(3,.v 2)],[]⟩
def Bgp:=fun(C26:CT Bu9 _)=>lp (Bmm K) 1682 B2k [(26,ar Bu9 C26)] (fun n a b=>Ar0 K a b (C26 a) n) (fun n=>kN)
def Bmn:=lp (Bmm K) 26 Bu9 [] (fun n a=>Ak3 K a n) (fun n=>kC (Bgp K _ K) kN)
def Bva:=ct (Bmm K) (A02 K) (kC (Bmn K K) kN)
def Aym (K:Nat)(v1 v2:Int)(v3 v4:Int)(v5 v6:Int)(v7 v8:Int)(v9 v10 v11:Int)(v12:List Int)(v13 v14:Int)(v15:List Bn)(v16:List Int)(v17 v18:Int)(v19 v20:Int)(v21 v22:Int)(v23 v24 v25:List Int)(v26:List Az)(v27:List Bb)(v28:List Int)(C1:Int->Int->Int->Int->Int->Int->Int->Int->Int->Int->Int->(List Int)->Int->Int->(List Bn)->(List Int)->Int->Int->Int->Int->Int->Int->(List Int)->(List Int)->(List Int)->(List Az)->(List Bb)->(List Int)->Option Bool):Option Bool:=C1 v1 v2 (A1 v3 1) v4 v5 v6 v7 v8 v9 v10 v11 v12 v13 v14 v15 v16 v17 v18 v19 v20 v21 v22 v23 v24 v25 v26 v27 v28
def Ao8:Nat->Int->Int->Int->Int->Int->Int->Int->Int->Int->Int->Int->(List Int)->Int->Int->(List Bn)->(List Int)->Int->Int->Int->Int->Int->Int->(List Int)->(List Int)->(List Int)->(List Az)->(List Bb)->(List Int)->Option Bool
 |0,_,_,_,_,_,_,_,_,_,_,_,_,_,_,_,_,_,_,_,_,_,_,_,_,_,_,_,_=>none
 |n1+1,v1,v2,v3,v4,v5,v6,v7,v8,v9,v10,v11,v12,v13,v14,v15,v16,v17,v18,v19,v20,v21,v22,v23,v24,v25,v26,v27,v28=>bif decide (v3<v15.length)then if 0<=v3/\v3<v15.length then bif decide (((gt v15 v3).fAt)<v2)then bif decide ((A1 (gt v15 v3).fAt (gt v15 v3).Yg)>v1)then some false else Aym K v1 v2 v3 v4 v5 v6 v7 v8 v9 v10 v11 v12 v13 v14 v15 v16 v17 v18 v19 v20 v21 v22 v23 v24 v25 v26 v27 v28 (Ao8 n1)else Aym K v1 v2 v3 v4 v5 v6 v7 v8 v9 v10 v11 v12 v13 v14 v15 v16 v17 v18 v19 v20 v21 v22 v23 v24 v25 v26 v27 v28 (Ao8 n1)else none else if 0<=v1/\v1<=v2/\v2<=v23.length then(Au5 K ((v23.drop v1.toNat).take (v2 - v1).toNat)).bind fun r29=>some r29 else none
def A03 (a0:Bo)(a1:Int):Option Bool:=if 0<=a1/\a1<a0.fL.length then bif (gt a0.fL a1).No==0 then some true else bif decide ((A1 (K1 (Ap (gt a0.fL a1).No 1) a0.fC.Du) (gt a0.fL a1).G8)>=(K1 (gt a0.fL a1).No a0.fC.Du))then some true else Ao8 K K (A1 (K1 (Ap (gt a0.fL a1).No 1) a0.fC.Du) (gt a0.fL a1).G8) (K1 (gt a0.fL a1).No a0.fC.Du) 0 (gt a0.fL a1).G4 (gt a0.fL a1).C7 (gt a0.fL a1).Nb (gt a0.fL a1).fUp (gt a0.fL a1).G5 (gt a0.fL a1).Bz (gt a0.fL a1).G6 (gt a0.fL a1).G7 (gt a0.fL a1).Ad (gt a0.fL a1).No (gt a0.fL a1).G8 (gt a0.fL a1).D5 (gt a0.fL a1).Dh a0.fC.Ad a0.fC.Du a0.fC.Cd a0.fC.Ez a0.fC.Ce a0.fC.Dv a0.fP.Fp a0.fP.G4 a0.fP.Fq a0.fL a0.fQ a0.Jp else none
def Bmo:=fd Tryz.func145 ⟨[.v 38,.v 3],[.v 4],true⟩ (gC (Bib K) gN) [33,34,54,55] [2025]
def Brw:Fw:=⟨[(2,.p 102),(5,.p 105),(6,.v 2),(7,.v 2),(8,.v 2)],[(105,.box bx4),(102,.box bx6)]⟩
def Bgq:=fun(C506:CT Brw _)=>jn (Bmo K) 2025 Brw [(506,ar Brw C506)] (fun a b c d e f g h i j k l m o p q r s t u v w x y z a1 b1 c1=>Aym K a b c d e f g h i j k l m o p q r s t u v w x y z a1 b1 c1 C506) kN
def Bjo:=lp (Bmo K) 506 Brw [] (Ao8 K) (fun n=>kC (Bgq K _) kN)
def Bvb:=ct (Bmo K) (A03 K) (kC (Bjo K K) kN)
def Arp (v4 v5:Int)(v6 v7:Int)(v8 v9:Int)(v10 v11 v12:List Int)(v13:List Az)(v14:List Bb)(v15:List Int):Nat->Int->Option Bool
 |0,_=>none
 |n3+1,v23=>bif decide (v23<v15.length)then if 0<=v23/\v23<v15.length then(Bd K (gt v15 v23) 0 255).bind fun r24=>bif !r24 then some false else Arp v4 v5 v6 v7 v8 v9 v10 v11 v12 v13 v14 v15 n3 (A1 v23 1)else none else(Azu K (Bo.mk (Fi.mk v4 v5 v6 v7 v8 v9) (Ef.mk v10 v11 v12) v13 v14 v15)).bind fun r25=>some r25
def At1 (v4 v5:Int)(v6 v7:Int)(v8 v9:Int)(v10 v11 v12:List Int)(v13:List Az)(v14:List Bb)(v15:List Int):Nat->Int->Option Bool
 |0,_=>none
 |n2+1,v21=>bif decide (v21<v14.length)then(A00 K (Bo.mk (Fi.mk v4 v5 v6 v7 v8 v9) (Ef.mk v10 v11 v12) v13 v14 v15) v21).bind fun r22=>bif !r22 then some false else At1 v4 v5 v6 v7 v8 v9 v10 v11 v12 v13 v14 v15 n2 (A1 v21 1)else Arp K v4 v5 v6 v7 v8 v9 v10 v11 v12 v13 v14 v15 K 0
def Arq:Nat->Int->Int->Int->Int->Int->Int->Int->(List Int)->(List Int)->(List Int)->(List Az)->(List Bb)->(List Int)->Option Bool
 |0,_,_,_,_,_,_,_,_,_,_,_,_,_=>none
 |n1+1,v3,v4,v5,v6,v7,v8,v9,v10,v11,v12,v13,v14,v15=>bif decide (v3<v13.length)then if 0<=v3/\v3<v13.length then(At7 K (Fi.mk v4 v5 v6 v7 v8 v9) (gt v13 v3)).bind fun r16=>bif r16 then(Azw K (Bo.mk (Fi.mk v4 v5 v6 v7 v8 v9) (Ef.mk v10 v11 v12) v13 v14 v15) v3).bind fun r17=>bif r17 then if 0<=v3/\v3<v13.length then(A01 K (Fi.mk v4 v5 v6 v7 v8 v9) (gt v13 v3)).bind fun r18=>bif r18 then if 0<=v3/\v3<v13.length then(A02 K (gt v13 v3).D5).bind fun r19=>bif r19 then(A03 K (Bo.mk (Fi.mk v4 v5 v6 v7 v8 v9) (Ef.mk v10 v11 v12) v13 v14 v15) v3).bind fun r20=>bif !r20 then some false else Arq n1 (A1 v3 1) v4 v5 v6 v7 v8 v9 v10 v11 v12 v13 v14 v15 else some false else none else some false else none else some false else some false else none else At1 K v4 v5 v6 v7 v8 v9 v10 v11 v12 v13 v14 v15 K 0
def Avv (a0:Bo):Option Bool:=(A0b K a0.fC a0.fP).bind fun r1=>bif r1 then bif (a0.fL.length:Int) != a0.fC.Cd then some false else(A29 K a0.fL).bind fun r2=>bif !r2 then some false else Arq K K 0 a0.fC.Ad a0.fC.Du a0.fC.Cd a0.fC.Ez a0.fC.Ce a0.fC.Dv a0.fP.Fp a0.fP.G4 a0.fP.Fq a0.fL a0.fQ a0.Jp else some false
def Big:=fd Tryz.func40 ⟨[.v 38],[.v 4],true⟩ (gC (Btg K) (gC (Bz7 K) (gC (Bcl K) (gC (B0f K) (gC (B0g K) (gC (Bva K) (gC (Bvb K) (gC (B0d K) (gC (A5e K) (gC (B0a K) gN)))))))))) [10,11,12,19,20,21,41,42,43,46,47,48,49,57,58,59,60,67,68,69,70]
def B2l:Fw:=⟨[(1,.p 101),(5,.v 2)],[(101,.box bx6)]⟩
def B2m:Fw:=⟨[(1,.p 101),(4,.v 2)],[(101,.box bx6)]⟩
def B2n:Fw:=⟨[(1,.p 101),(3,.v 2)],[(101,.box bx6)]⟩
def Bjp:=lp (Big K) 250 B2l [] (fun n a b c d e f g h i j k l m=>Arp K b c d e f g h i j k l m n a) (fun n=>kN)
def Bjq:=lp (Big K) 122 B2m [] (fun n a b c d e f g h i j k l m=>At1 K b c d e f g h i j k l m n a) (fun n=>kC (up (Bjp K K)) kN)
def Bmp:=lp (Big K) 58 B2n [] (Arq K) (fun n=>kC (up (Bjq K K)) kN)
def Bdd:=ct (Big K) (Avv K) (kC (Bmp K K) kN)
def A35 (a0:Fb):Option Bool:=(Ax3 K a0.fH).bind fun r1=>bif r1 then bif decide (a0.Nb>=0)then some (decide (a0.fNo>=0))else some false else some false
def Bvc:=ct (fd Tryz.func385 ⟨[.v 42],[.v 4],true⟩ (gC (Bs9 K) gN) [5,6,9,10,11]) (A35 K)
def A2a (a0:Az)(a1:Fb):Option (Bn×Bool):=bif a0.G4 != 1 then some ((Bn.mk 0 0 0),false)else bif a0.Nb != a1.Nb then some ((Bn.mk 0 0 0),false)else(Bd K a1.fNo 0 (Ap a0.D5.length 1)).bind fun r1=>bif !r1 then some ((Bn.mk 0 0 0),false)else if 0<=a1.fNo/\a1.fNo<a0.D5.length then some ((gt a0.D5 a1.fNo),true)else none
def Bvd:=ct (fd Tryz.func386 ⟨[.v 77,.v 42],[.v 183,.v 4],true⟩ (gC (A5e K) gN) [8,9,14,15,16]) (A2a K)
def Axi (a0:Bo)(a1:Fb):Option (Int×Bn×Int):=(A35 K a1).bind fun r1=>bif !r1 then some ((-1),(Bn.mk 0 0 0),1)else(Apf K a0 a1.fH).bind fun r2=>bif r2.2 != 0 then some ((-1),(Bn.mk 0 0 0),r2.2)else if 0<=r2.1/\r2.1<a0.fL.length then(A2a K (gt a0.fL r2.1) a1).bind fun r3=>bif !r3.2 then some ((-1),(Bn.mk 0 0 0),2)else some (r2.1,r3.1,0)else none
def Bmq:=ct (fd Tryz.func378 ⟨[.v 38,.v 42],[.v 3,.v 183,.v 3],true⟩ (gC (Bcj K) (gC (Bvc K) (gC (Bvd K) gN)))) (Axi K)
def A2b (K:Nat)(a0:Bn)(a1 a2:Int):Option Bool:=bif decide (a1>=0)then bif decide (a2>=0)then bif decide (a1<=a0.Yg)then bif decide (a2<=(Ap a0.Yg a1))then bif decide (a0.fAt<0)then some true else some (decide ((A1 a0.fAt a1)>=0))else some false else some false else some false else some false
def Bmr:=ct (fd Tryz.func387 ⟨[.v 183,.v 3,.v 3],[.v 4],true⟩ gN [8,9,11,12,13,17,18,19,25,26,27,30,31]) (A2b K)
def Ay7 (K:Nat)(a0:List Int)(a1 a2:Int):Option Bool:=bif decide (a1>=0)then bif decide (a2>=0)then bif decide (a1<=a0.length)then some (decide (a2<=(Ap a0.length a1)))else some false else some false else some false
def Bms:=ct (fd Tryz.func391 ⟨[.v 24,.v 3,.v 3],[.v 4],true⟩ gN [8,9,11,12,13,17,18,19]) (Ay7 K)
def A36 (a0:List Int)(a1 a2:Int):Option ((List Int)×Bool):=(Ay7 K a0 a1 a2).bind fun r1=>bif !r1 then some (([]:List Int),false)else if 0<=a1/\a1<=(A1 a1 a2)/\(A1 a1 a2)<=a0.length then if(([]:List Int)++((a0.drop a1.toNat).take ((A1 a1 a2) - a1).toNat)).length*1<=140737488355328/\(([]:List Int)++((a0.drop a1.toNat).take ((A1 a1 a2) - a1).toNat)).length<=maxLen then some ((([]:List Int)++((a0.drop a1.toNat).take ((A1 a1 a2) - a1).toNat)),true)else none else none
def Bve:=ct (fd Tryz.func388 ⟨[.v 24,.v 3,.v 3],[.n 24 true,.v 4],true⟩ (gC (Bms K) gN)) (A36 K)
def Azx (a0:List Int)(a1:Bn)(a2 a3:Int):Option ((List Int)×Bool):=(A2b K a1 a2 a3).bind fun r1=>bif !r1 then some (([]:List Int),false)else(A36 K a0 (A1 a1.fAt a2) a3).bind fun r2=>some (r2.1,r2.2)
def Bvf:=ct (fd Tryz.func379 ⟨[.v 24,.v 183,.v 3,.v 3],[.n 24 true,.v 4],true⟩ (gC (Bmr K) (gC (Bve K) gN))) (Azx K)
def A41 (a0:Bo)(a1:Fb)(a2 a3:Int):Option (Bo×F8):=(Aua K a0).bind fun r1=>(Avv K a0).bind fun r2=>bif !r2 then some (r1,(F8.mk 1 (Ch.mk 0 0) (Fb.mk (Ch.mk 0 0) 0 0) [] 0 0 0))else(Axi K a0 a1).bind fun r3=>(Arv K a0 a1.fH).bind fun r4=>bif r3.2.2 != 0 then some (r1,(F8.mk r3.2.2 (Ch.mk 0 0) (Fb.mk (Ch.mk 0 0) 0 0) [] r4 0 0))else(Azx K a0.fP.Fp r3.2.1 a2 a3).bind fun r5=>bif !r5.2 then some (r1,(F8.mk 7 (Ch.mk 0 0) (Fb.mk (Ch.mk 0 0) 0 0) [] r4 0 0))else some (r1,(F8.mk r3.2.2 (Ch.mk 0 0) (Fb.mk (Ch.mk 0 0) 0 0) r5.1 r4 0 0))
def Bvg:=ct (fd Tryz.func358 ⟨[.v 38,.v 42,.v 3,.v 3],[.n 38 true,.n 44 true],false⟩ (gC (Bdd K) (gC (Bep K) (gC (Bam K) (gC (Bmq K) (gC (Bvf K) gN))))) [] [] [(7,[.take 114 7 6831]),(11,[.take 114 7 6831])]) (A41 K)
def Aub (K:Nat)(a1:Int)(a2:List Int):Nat->(List Int)->Int->Option ((List Int)×Bool)
 |0,_,_=>none
 |n1+1,v2,v3=>bif decide (v3<a2.length)then if 0<=v3/\v3<a2.length then if 0<=(A1 a1 v3)/\(A1 a1 v3)<v2.length then Aub K a1 a2 n1 (v2.set (A1 a1 v3).toNat (gt a2 v3)) (A1 v3 1)else none else none else some (v2,true)
def A37 (a0:List Int)(a1:Int)(a2:List Int):Option ((List Int)×Bool):=if(([]:List Int)++a0).length*1<=140737488355328/\(([]:List Int)++a0).length<=maxLen then(Ay7 K a0 a1 (a2.length:Int)).bind fun r1=>bif !r1 then some ((([]:List Int)++a0),false)else Aub K a1 a2 K (([]:List Int)++a0) 0 else none
def Btq:=fd Tryz.func389 ⟨[.v 24,.v 3,.v 24],[.n 24 true,.v 4],true⟩ (gC (Bms K) gN)
def B2o:Fw:=⟨[(1,.v 2),(2,.v 24),(8,.o 1008 5 true),(9,.v 2)],[]⟩
def Bjr:=lp (Btq K) 122 B2o [] (fun n a b=>Aub K a b n) (fun n=>kN)
def Bvh:=ct (Btq K) (A37 K) (kC (Bjr K K) kN)
def Ayn (a0:List Int)(a1:Bn)(a2:Int)(a3:List Int):Option ((List Int)×Bool):=(A2b K a1 a2 (a3.length:Int)).bind fun r1=>bif !r1 then if(([]:List Int)++a0).length*1<=140737488355328/\(([]:List Int)++a0).length<=maxLen then some ((([]:List Int)++a0),false)else none else(A37 K a0 (A1 a1.fAt a2) a3).bind fun r2=>some (r2.1,r2.2)
def Bvi:=ct (fd Tryz.func380 ⟨[.v 24,.v 183,.v 3,.v 24],[.n 24 true,.v 4],true⟩ (gC (Bmr K) (gC (Bvh K) gN))) (Ayn K)
def A38 (a0:Bo)(a1:Fb)(a2:Int)(a3:List Int):Option (Bo×F8):=(Aua K a0).bind fun r1=>(Avv K a0).bind fun r2=>bif !r2 then some (r1,(F8.mk 1 (Ch.mk 0 0) (Fb.mk (Ch.mk 0 0) 0 0) [] 0 0 0))else(Axi K a0 a1).bind fun r3=>(Arv K a0 a1.fH).bind fun r4=>bif r3.2.2 != 0 then some (r1,(F8.mk r3.2.2 (Ch.mk 0 0) (Fb.mk (Ch.mk 0 0) 0 0) [] r4 0 0))else(Ayn K a0.fP.Fp r3.2.1 a2 a3).bind fun r5=>bif !r5.2 then some (r1,(F8.mk 7 (Ch.mk 0 0) (Fb.mk (Ch.mk 0 0) 0 0) [] r4 0 0))else some ((Bo.mk r1.fC (Ef.mk r5.1 r1.fP.G4 r1.fP.Fq) r1.fL r1.fQ r1.Jp),(F8.mk r3.2.2 (Ch.mk 0 0) (Fb.mk (Ch.mk 0 0) 0 0) [] r4 0 0))
def Bvj:=ct (fd Tryz.func359 ⟨[.v 38,.v 42,.v 3,.v 24],[.n 38 true,.n 44 true],false⟩ (gC (Bdd K) (gC (Bep K) (gC (Bam K) (gC (Bmq K) (gC (Bvi K) gN))))) [] [] [(7,[.take 114 7 6831]),(11,[.take 114 7 6831]),(13,[.take 114 7 6831])]) (A38 K)
def A39 (K:Nat)(v7:F8)(v10:Bo):Option (Bo×F8):=some (v10,v7)
def A2c (a2:Int)(r1:Bo)(v6:Int)(v7 v8:F8)(v9:Bo):Option (Bo×F8):=bif v7.Aab==0 then if 0<=v6/\v6<r1.fL.length then if 0<=v6/\v6<r1.fL.length then if(((gt r1.fL v6).Dh)++([a2]:List Int)).length*8<=140737488355328/\(((gt r1.fL v6).Dh)++([a2]:List Int)).length<=maxLen then if 0<=v6/\v6<r1.fL.length then A39 K v7 (Bo.mk r1.fC r1.fP (r1.fL.set v6.toNat (Az.mk (gt r1.fL v6).G4 (gt r1.fL v6).C7 (gt r1.fL v6).Nb (gt r1.fL v6).fUp (gt r1.fL v6).G5 (gt r1.fL v6).Bz (gt r1.fL v6).G6 (gt r1.fL v6).G7 (gt r1.fL v6).Ad (gt r1.fL v6).No (gt r1.fL v6).G8 (gt r1.fL v6).D5 (((gt r1.fL v6).Dh)++([a2]:List Int)))) r1.fQ r1.Jp)else none else none else none else none else A39 K v7 r1
def A57 (a0:Bo)(a1:Ch)(a2:Int):Option (Bo×F8):=(Aua K a0).bind fun r1=>(Avv K a0).bind fun r2=>bif r2 then(Bd K a2 0 255).bind fun r3=>bif !r3 then some (r1,(F8.mk 1 (Ch.mk 0 0) (Fb.mk (Ch.mk 0 0) 0 0) [] 0 0 0))else(Apf K a0 a1).bind fun r4=>(Arv K a0 a1).bind fun r5=>bif r4.2==0 then if 0<=r4.1/\r4.1<a0.fL.length then bif decide (((gt a0.fL r4.1).Dh.length:Int)>=6)then A2c K a2 r1 r4.1 (F8.mk 8 (Ch.mk 0 0) (Fb.mk (Ch.mk 0 0) 0 0) [] r5 0 0) (F8.mk 0 (Ch.mk 0 0) (Fb.mk (Ch.mk 0 0) 0 0) [] 0 0 0) (Bo.mk (Fi.mk 0 0 0 0 0 0) (Ef.mk [] [] []) [] [] [])else A2c K a2 r1 r4.1 (F8.mk r4.2 (Ch.mk 0 0) (Fb.mk (Ch.mk 0 0) 0 0) [] r5 0 0) (F8.mk 0 (Ch.mk 0 0) (Fb.mk (Ch.mk 0 0) 0 0) [] 0 0 0) (Bo.mk (Fi.mk 0 0 0 0 0 0) (Ef.mk [] [] []) [] [] [])else none else A2c K a2 r1 r4.1 (F8.mk r4.2 (Ch.mk 0 0) (Fb.mk (Ch.mk 0 0) 0 0) [] r5 0 0) (F8.mk 0 (Ch.mk 0 0) (Fb.mk (Ch.mk 0 0) 0 0) [] 0 0 0) (Bo.mk (Fi.mk 0 0 0 0 0 0) (Ef.mk [] [] []) [] [] [])else some (r1,(F8.mk 1 (Ch.mk 0 0) (Fb.mk (Ch.mk 0 0) 0 0) [] 0 0 0))
def Bmt:=fd Tryz.func360 ⟨[.v 38,.v 40,.v 3],[.n 38 true,.n 44 true],false⟩ (gC (Bdd K) (gC (Bep K) (gC (A5e K) (gC (Bcj K) (gC (Bam K) gN))))) [15,16,17,36,37] [63,127] [(9,[.take 108 9 6737,.opn 6737 (.tmp 9),.takeE 6737 12 87180]),(10,[.take 108 6 6734,.take 108 7 6735,.take 108 8 6736,.take 108 9 6737,.take 108 10 6738,.take 108 11 6739,.take 111 7 6783])]
def B2p:Fw:=⟨[(6,.p 106),(7,.p 107),(8,.p 108),(11,.p 111)],[(111,.st 44 true),(108,.st 38 true),(107,.st 44 true),(106,.st 38 true)]⟩
def B2q:Fw:=⟨[(2,.v 2),(6,.p 106),(7,.p 107),(8,.p 108),(9,.v 2),(11,.p 111)],[(111,.st 44 true),(108,.st 38 true),(107,.st 44 true),(106,.st 38 true)]⟩
def Bjs:=jn (Bmt K) 127 B2p [] (fun a b _ _=>A39 K a b) kN
def Bmu:=jn (Bmt K) 63 B2q [] (fun a b c d=>A2c K a d b c) (kC (Bjs K) kN)
def Bvk:=ct (Bmt K) (A57 K) (kC (Bmu K) kN)
def A4h (a0:Fi)(a1:Az):Option Int:=bif a1.No==0 then some 0 else(At7 K a0 a1).bind fun r1=>bif !r1 then some 0 else some (Ap a0.Du a1.G8)
def Bvl:=ct (fd Tryz.func381 ⟨[.v 33,.v 77],[.v 3],true⟩ (gC (Bcl K) gN) [7,8]) (A4h K)
def A2d (K:Nat)(r1:Bo)(v6 v7:F8)(v8:Bo):Option (Bo×F8):=some (r1,v6)
def A4a (a0:Bo)(a1:Ch):Option (Bo×F8):=(Aua K a0).bind fun r1=>(Avv K a0).bind fun r2=>bif !r2 then some (r1,(F8.mk 1 (Ch.mk 0 0) (Fb.mk (Ch.mk 0 0) 0 0) [] 0 0 0))else(Apf K a0 a1).bind fun r3=>(Arv K a0 a1).bind fun r4=>bif r3.2==0 then if 0<=r3.1/\r3.1<a0.fL.length then(A4h K a0.fC (gt a0.fL r3.1)).bind fun r5=>A2d K r1 (F8.mk r3.2 (Ch.mk 0 0) (Fb.mk (Ch.mk 0 0) 0 0) ([(IntKind.u8.wrap (((gt a0.fL r3.1).Ad).length:Int)),(IntKind.u8.wrap (((gt a0.fL r3.1).D5).length:Int)),(IntKind.u8.wrap (((gt a0.fL r3.1).Dh).length:Int)),(IntKind.u8.wrap r5)]:List Int) r4 0 0) (F8.mk 0 (Ch.mk 0 0) (Fb.mk (Ch.mk 0 0) 0 0) [] 0 0 0) (Bo.mk (Fi.mk 0 0 0 0 0 0) (Ef.mk [] [] []) [] [] [])else none else A2d K r1 (F8.mk r3.2 (Ch.mk 0 0) (Fb.mk (Ch.mk 0 0) 0 0) [] r4 0 0) (F8.mk 0 (Ch.mk 0 0) (Fb.mk (Ch.mk 0 0) 0 0) [] 0 0 0) (Bo.mk (Fi.mk 0 0 0 0 0 0) (Ef.mk [] [] []) [] [] [])
def Btr:=fd Tryz.func361 ⟨[.v 38,.v 40],[.n 38 true,.n 44 true],false⟩ (gC (Bdd K) (gC (Bep K) (gC (Bcj K) (gC (Bam K) (gC (Bvl K) gN))))) [] [63] [(9,[.take 106 6 6702,.take 106 7 6703,.take 106 8 6704,.take 106 9 6705,.take 106 10 6706,.take 106 11 6707,.take 109 7 6751])]
def B2r:Fw:=⟨[(4,.p 104),(5,.p 105),(6,.p 106),(9,.p 109)],[(109,.st 44 true),(106,.st 38 true),(105,.st 44 true),(104,.st 38 true)]⟩
def Bmv:=jn (Btr K) 63 B2r [] (fun a b=>A2d K b a) kN
def Bvm:=ct (Btr K) (A4a K) (kC (Bmv K) kN)
def A3a (a0:Bo)(a1:Di):Option (Bo×F8):=bif a1.Aad==3 then(A41 K a0 a1.fR a1.fN a1.fM).bind fun r1=>some (r1.1,r1.2)else bif a1.Aad==4 then(A38 K a0 a1.fR a1.fN a1.fB).bind fun r2=>some (r2.1,r2.2)else bif a1.Aad==5 then(A57 K a0 a1.fH a1.fN).bind fun r3=>some (r3.1,r3.2)else bif a1.Aad==8 then(A4a K a0 a1.fH).bind fun r4=>some (r4.1,r4.2)else(Aua K a0).bind fun r5=>some (r5,(F8.mk 1 (Ch.mk 0 0) (Fb.mk (Ch.mk 0 0) 0 0) [] 0 0 0))
def Bvn:=ct (fd Tryz.func311 ⟨[.v 38,.v 55],[.n 38 true,.n 44 true],false⟩ (gC (Bep K) (gC (Bvg K) (gC (Bvj K) (gC (Bvk K) (gC (Bvm K) gN)))))) (A3a K)
def A4i (K:Nat)(v31 v32:Int)(v33 v34:Int)(v35 v36:Int)(v37 v38 v39:List Int)(v40:List Az)(v41:List Bb)(v42:List Int)(v43:F8):Option (F8×Bo):=some (v43,(Bo.mk (Fi.mk v31 v32 v33 v34 v35 v36) (Ef.mk v37 v38 v39) v40 v41 v42))
def Ay8 (v4:Bool)(v5 v6:Int)(v7 v8:Int)(v9 v10:Int)(v11 v12 v13:List Int)(v14:List Az)(v15:List Bb)(v16:List Int)(v17:F8)(v18 v19:Int)(v20 v21:Int)(v22 v23:Int)(v24 v25 v26:Int)(v27:List Int):Option (F8×Bo):=bif v4 then(Apf K (Bo.mk (Fi.mk v5 v6 v7 v8 v9 v10) (Ef.mk v11 v12 v13) v14 v15 v16) (Ch.mk v19 v20)).bind fun r28=>(Arv K (Bo.mk (Fi.mk v5 v6 v7 v8 v9 v10) (Ef.mk v11 v12 v13) v14 v15 v16) (Ch.mk v19 v20)).bind fun r29=>bif r28.2 != 0 then some ((F8.mk r28.2 (Ch.mk 0 0) (Fb.mk (Ch.mk 0 0) 0 0) [] r29 0 0),(Bo.mk (Fi.mk v5 v6 v7 v8 v9 v10) (Ef.mk v11 v12 v13) v14 v15 v16))else bif v18==6 then(Ayl K (Bo.mk (Fi.mk v5 v6 v7 v8 v9 v10) (Ef.mk v11 v12 v13) v14 v15 v16) r28.1).bind fun r30=>A4i K r30.fC.Ad r30.fC.Du r30.fC.Cd r30.fC.Ez r30.fC.Ce r30.fC.Dv r30.fP.Fp r30.fP.G4 r30.fP.Fq r30.fL r30.fQ r30.Jp (F8.mk r28.2 (Ch.mk 0 0) (Fb.mk (Ch.mk 0 0) 0 0) [] r29 0 0)else(A0y K (Bo.mk (Fi.mk v5 v6 v7 v8 v9 v10) (Ef.mk v11 v12 v13) v14 v15 v16) r28.1).bind fun r44=>A4i K r44.fC.Ad r44.fC.Du r44.fC.Cd r44.fC.Ez r44.fC.Ce r44.fC.Dv r44.fP.Fp r44.fP.G4 r44.fP.Fq r44.fL r44.fQ r44.Jp (F8.mk r28.2 (Ch.mk 0 0) (Fb.mk (Ch.mk 0 0) 0 0) [] r29 0 0)else(A3a K (Bo.mk (Fi.mk v5 v6 v7 v8 v9 v10) (Ef.mk v11 v12 v13) v14 v15 v16) (Di.mk v18 (Ch.mk v19 v20) (Fb.mk (Ch.mk v21 v22) v23 v24) v25 v26 v27)).bind fun r45=>some (r45.2,r45.1)
def A4b (a0:Bo)(a1:Di):Option (F8×Bo):=bif a1.Aad==1 then(A14 K a0 a1.fH).bind fun r1=>some (r1.1,r1.2)else bif a1.Aad==2 then(A0x K a0 a1.fH a1.fN a1.fM).bind fun r2=>some (r2.1,r2.2)else bif a1.Aad==9 then(Ay2 K a0 4000).bind fun r3=>some ((F8.mk 0 (Ch.mk 0 0) (Fb.mk (Ch.mk 0 0) 0 0) [] 0 0 r3.1),r3.2)else bif a1.Aad==6 then Ay8 K (a1.Aad==6) a0.fC.Ad a0.fC.Du a0.fC.Cd a0.fC.Ez a0.fC.Ce a0.fC.Dv a0.fP.Fp a0.fP.G4 a0.fP.Fq a0.fL a0.fQ a0.Jp (F8.mk 0 (Ch.mk 0 0) (Fb.mk (Ch.mk 0 0) 0 0) [] 0 0 0) a1.Aad a1.fH.Be a1.fH.C7 a1.fR.fH.Be a1.fR.fH.C7 a1.fR.Nb a1.fR.fNo a1.fN a1.fM a1.fB else Ay8 K (a1.Aad==7) a0.fC.Ad a0.fC.Du a0.fC.Cd a0.fC.Ez a0.fC.Ce a0.fC.Dv a0.fP.Fp a0.fP.G4 a0.fP.Fq a0.fL a0.fQ a0.Jp (F8.mk 0 (Ch.mk 0 0) (Fb.mk (Ch.mk 0 0) 0 0) [] 0 0 0) a1.Aad a1.fH.Be a1.fH.C7 a1.fR.fH.Be a1.fR.fH.C7 a1.fR.Nb a1.fR.fNo a1.fN a1.fM a1.fB
def Bmw:=fd Tryz.func253 ⟨[.b 38 false,.v 55],[.v 44],false⟩ (gC (Bl9 K) (gC (Bzo K) (gC (Bzx K) (gC (Bcj K) (gC (Bam K) (gC (Bzz K) (gC (Bz2 K) (gC (Bvn K) gN)))))))) [] [1727,55287] [(10,[.take 1 6 5022,.take 1 7 5023,.take 1 8 5024,.take 1 9 5025,.take 1 10 5026,.take 1 11 5027]),(13,[.take 107 7 6719]),(15,[.put 1]),(16,[.put 1]),(17,[.take 107 7 6719]),(18,[.take 1 6 5022,.take 1 7 5023,.take 1 8 5024,.take 1 9 5025,.take 1 10 5026,.take 1 11 5027,.frz 5022,.frz 5023,.frz 5024,.frz 5025,.frz 5026,.frz 5027])]
def B2s:Fw:=⟨[(4,.p 104),(7,.p 107)],[(1,.box bx1),(107,.st 44 true),(104,.st 44 true)]⟩
def B2t:Fw:=⟨[(0,.p 1),(3,.p 103),(4,.p 104),(33,.v 4)],[(1,.box bx1),(104,.st 44 true),(103,.box [.v 2,.v 2,.v 2,.v 2,.v 2,.v 2,.v 2,.v 2,.v 2,.v 24])]⟩
def Bes:=jn (Bmw K) 55287 B2s [] (fun a b c d e f g h i j k l m _=>A4i K a b c d e f g h i j k l m) kN
def Bgr:=jn (Bmw K) 1727 B2t [] (Ay8 K) (kC (Bes K) kN)
def Bvo:=ct (Bmw K) (A4b K) (kC (Bgr K) kN)
def Ax7:Nat->(List Di)->Int->(List Int)->Int->Int->Bo->Fi->Bo->Fi->Option (Fi×(List Di)×Bo×E2)
 |0,_,_,_,_,_,_,_,_,_=>none
 |n1+1,v4,v5,v6,v7,v8,v9,v10,v11,v12=>bif decide (v5>0)then bif decide ((v4.length:Int)<200)then(Ayx K (E2.mk v6 v7 v8) v9).bind fun r13=>if r13.2.2.1.length=v9.fP.Fp.length/\r13.2.2.2.1.length=v9.fP.G4.length/\r13.2.2.2.2.1.length=v9.fP.Fq.length/\r13.2.2.2.2.2.1.length=v9.fL.length/\r13.2.2.2.2.2.2.1.length=v9.fQ.length/\r13.2.2.2.2.2.2.2.length=v9.Jp.length then if(v4++([r13.1]:List Di)).length*96<=140737488355328/\(v4++([r13.1]:List Di)).length<=maxLen then(A4b K (Bo.mk v9.fC (Ef.mk r13.2.2.1 r13.2.2.2.1 r13.2.2.2.2.1) r13.2.2.2.2.2.1 r13.2.2.2.2.2.2.1 r13.2.2.2.2.2.2.2) r13.1).bind fun r14=>Ax7 n1 (v4++([r13.1]:List Di)) (Ap v5 1) r13.2.1.fb r13.2.1.fi r13.2.1.fh r14.2 v10 v11 v12 else none else none else some (v10,v4,v9,(E2.mk v6 v7 v8))else some (v10,v4,v9,(E2.mk v6 v7 v8))
def A3b (a0:E2)(a1:Int):Option (Fi×(List Di)×Bo×E2):=(A25 K a0).bind fun r1=>(A0n K r1.1).bind fun r2=>(Ht K r1.2 a1).bind fun r3=>Ax7 K K ([]:List Di) (A1 4 r3.1) r3.2.fb r3.2.fi r3.2.fh r2 r1.1 (Bo.mk (Fi.mk 0 0 0 0 0 0) (Ef.mk [] [] []) [] [] []) (Fi.mk 0 0 0 0 0 0)
def Bts:=fd Tryz.func157 ⟨[.b 171 false,.v 3],[.v 33,.n 81 false,.n 38 false],false⟩ (gC (Byi K) (gC (Bs8 K) (gC (Bgl K) (gC (B1f K) (gC (Bvo K) gN))))) [22,23] [] [(4,[.put 108,.take 108 10 6738,.shal 6738,.put 108,.shal 1009]),(7,[.take 108 6 6734,.take 108 7 6735,.take 108 8 6736,.take 108 9 6737,.take 108 10 6738,.take 108 11 6739]),(9,[.put 108]),(10,[.take 108 6 6734,.take 108 7 6735,.take 108 8 6736,.take 108 9 6737,.take 108 10 6738,.take 108 11 6739])] [(32,[.frz 3032])]
def B2u:Fw:=⟨[(0,.p 1),(4,.p 104),(6,.p 106),(7,.p 107),(8,.p 108),(9,.o 1009 55 false),(10,.v 2)],[(1,.box bx8),(108,.st 38 false),(107,.st 33 true),(106,.st 38 true),(104,.st 33 true)]⟩
def Bjt:=lp (Bts K) 250 B2u [] (Ax7 K) (fun n=>kN)
def Bvp:=ct (Bts K) (A3b K) (kC (Bjt K K) kN)
def A3t (a0:E2)(a1:Int):Option (Bo×E2):=(A3b K a0 a1).bind fun r1=>some (r1.2.2.1,r1.2.2.2)
def Bvq:=ct (fd Tryz.func112 ⟨[.b 171 false,.v 3],[.n 38 false],false⟩ (gC (Bvp K) gN)) (A3t K)
def Azy (a0:List Int):Option (Bo×Di):=(A3z K a0).bind fun r1=>(Az7 K a0 50).bind fun r2=>(A3t K r1 (A1 20 r2)).bind fun r3=>(Ayx K r3.2 r3.1).bind fun r4=>if r4.2.2.1.length=r3.1.fP.Fp.length/\r4.2.2.2.1.length=r3.1.fP.G4.length/\r4.2.2.2.2.1.length=r3.1.fP.Fq.length/\r4.2.2.2.2.2.1.length=r3.1.fL.length/\r4.2.2.2.2.2.2.1.length=r3.1.fQ.length/\r4.2.2.2.2.2.2.2.length=r3.1.Jp.length then some ((Bo.mk r3.1.fC (Ef.mk r4.2.2.1 r4.2.2.2.1 r4.2.2.2.2.1) r4.2.2.2.2.2.1 r4.2.2.2.2.2.2.1 r4.2.2.2.2.2.2.2),r4.1)else none
def Bvr:=ct (fd Tryz.func23 ⟨[.v 24],[.n 38 false,.n 55 true],false⟩ (gC (B1d K) (gC (Bvq K) (gC (B1e K) (gC (Bs8 K) gN))))) (Azy K)
def K0 (K:Nat)(a0 a1 a2:Int):Option Bool:=bif decide (a0>=a1)then some (decide (a0<=a2))else some false
def A4j:=ct (fd Tryz.func156 ⟨[.v 3,.v 3,.v 3],[.v 4],true⟩ gN [9,10]) (K0 K)
def Aeh (a0:List Az)(a1:Int):Option Bool:=(K0 K a1 0 (Ap a0.length 1)).bind fun r1=>some r1
def A4k:=ct (fd Tryz.func118 ⟨[.v 35,.v 3],[.v 4],true⟩ (gC (A4j K) gN)) (Aeh K)
def A0h (a0:List Az):Nat->Int->(List Int)->Option (List Int)
 |0,_,_=>none
 |n1+1,v1,v2=>(Aeh K a0 v1).bind fun r3=>bif r3 then bif decide ((v2.length:Int)<a0.length)then if(v2++([v1]:List Int)).length*8<=140737488355328/\(v2++([v1]:List Int)).length<=maxLen then if 0<=v1/\v1<a0.length then A0h a0 n1 (Ap (gt a0 v1).fUp 1) (v2++([v1]:List Int))else none else none else some v2 else some v2
def A1s (a0:List Az)(a1:Int):Option (List Int):=A0h K a0 K a1 ([]:List Int)
def Btt:=fd Tryz.func202 ⟨[.v 35,.v 3],[.n 25 true],true⟩ (gC (A4k K) gN) [9,10]
def Bmx:=lp (Btt K) 28 h_4 [] (fun n a=>A0h K a n) (fun n=>kN)
def Bgs:=ct (Btt K) (A1s K) (kC (Bmx K K) kN)
def A2e (K:Nat)(v2:List Int)(v3 v4:Int)(C1:(List Int)->Int->Int->Option Bool):Option Bool:=C1 v2 v3 (A1 v4 1)
def Axj (a0:List Az)(r1:(List Int)):Nat->(List Int)->Int->Int->Option Bool
 |0,_,_,_=>none
 |n1+1,v2,v3,v4=>bif decide (v4<v3)then if 0<=v4/\v4<v2.length then if 0<=(gt v2 v4)/\(gt v2 v4)<a0.length then bif (gt a0 (gt v2 v4)).G4 != 1 then some false else bif decide ((A1 v4 1)<r1.length)then if 0<=(gt v2 v4)/\(gt v2 v4)<a0.length then if 0<=(A1 v4 1)/\(A1 v4 1)<r1.length then if 0<=(gt r1 (A1 v4 1))/\(gt r1 (A1 v4 1))<a0.length then bif (gt a0 (gt v2 v4)).G5 != (gt a0 (gt r1 (A1 v4 1))).Nb then some false else A2e K v2 v3 v4 (Axj a0 r1 n1)else none else none else none else A2e K v2 v3 v4 (Axj a0 r1 n1)else none else none else bif decide ((r1.length:Int)>0)then if 0<=(Ap r1.length 1)/\(Ap r1.length 1)<r1.length then if 0<=(gt r1 (Ap r1.length 1))/\(gt r1 (Ap r1.length 1))<a0.length then some (((gt a0 (gt r1 (Ap r1.length 1))).fUp)==0)else none else none else some false
def A2f (a0:List Az)(a1:Int):Option Bool:=(A1s K a0 a1).bind fun r1=>Axj K a0 r1 K r1 (r1.length:Int) 0
def Bmy:=fd Tryz.func115 ⟨[.v 35,.v 3],[.v 4],true⟩ (gC (Bgs K) gN) [28,29,49,50] [467]
def Brx:Fw:=⟨[(0,.v 35),(5,.v 25),(11,.v 25),(12,.v 2),(13,.v 2)],[]⟩
def Bju:=fun(C58:CT Brx _)=>jn (Bmy K) 467 Brx [(58,ar Brx C58)] (fun a b c d e=>A2e K c d e (C58 a b)) kN
def Bmz:=lp (Bmy K) 58 Brx [] (fun n a b=>Axj K a b n) (fun n=>kC (Bju K _) kN)
def Bm0:=ct (Bmy K) (A2f K) (kC (Bmz K K) kN)
def Axk (K:Nat)(v2 v3:Int)(v4 v5:Int)(v6 v7:Int)(v8 v9:Int)(v10 v11 v12:List Int)(v13:List Az)(v14:List Bb)(v15:List Int)(C1:(List Int)->Int->Int->Int->Int->Int->Int->Int->Int->(List Int)->(List Int)->(List Int)->(List Az)->(List Bb)->(List Int)->Option (List Int))(v17:List Int):Option (List Int):=C1 v17 v2 (A1 v3 1) v4 v5 v6 v7 v8 v9 v10 v11 v12 v13 v14 v15
def Avh:Nat->(List Int)->Int->Int->Int->Int->Int->Int->Int->Int->(List Int)->(List Int)->(List Int)->(List Az)->(List Bb)->(List Int)->Option (List Int)
 |0,_,_,_,_,_,_,_,_,_,_,_,_,_,_,_=>none
 |n1+1,v1,v2,v3,v4,v5,v6,v7,v8,v9,v10,v11,v12,v13,v14,v15=>bif decide (v3<v2)then(A2f K v13 v3).bind fun r16=>bif r16 then if(v1++([v3]:List Int)).length*8<=140737488355328/\(v1++([v3]:List Int)).length<=maxLen then Axk K v2 v3 v4 v5 v6 v7 v8 v9 v10 v11 v12 v13 v14 v15 (Avh n1) (v1++([v3]:List Int))else none else Axk K v2 v3 v4 v5 v6 v7 v8 v9 v10 v11 v12 v13 v14 v15 (Avh n1) v1 else some v1
def Ay9 (a0:Bo):Option (List Int):=Avh K K ([]:List Int) (a0.fL.length:Int) 0 a0.fC.Ad a0.fC.Du a0.fC.Cd a0.fC.Ez a0.fC.Ce a0.fC.Dv a0.fP.Fp a0.fP.G4 a0.fP.Fq a0.fL a0.fQ a0.Jp
def Bm1:=fd Tryz.func24 ⟨[.v 38],[.n 25 true],true⟩ (gC (Bm0 K) gN) [] [467]
def Bry:Fw:=⟨[(1,.p 101),(3,.o 1003 3 true),(8,.v 2),(9,.v 2)],[(101,.box bx6)]⟩
def Bjv:=fun(C58:CT Bry _)=>jn (Bm1 K) 467 Bry [(58,ar Bry C58)] (fun a b c d e f g h i j k l m o p=>Axk K b c d e f g h i j k l m o p C58 a) kN
def Bm2:=lp (Bm1 K) 58 Bry [] (Avh K) (fun n=>kC (Bjv K _) kN)
def Bm3:=ct (Bm1 K) (Ay9 K) (kC (Bm2 K K) kN)
def Awx (K:Nat)(a0:List Int):Option (List Int):=bif a0.isEmpty then Amh (some []) ((if(([]:List Int)++a0).length*1<=140737488355328/\(([]:List Int)++a0).length<=maxLen then some (([]:List Int)++a0)else none))else if(([]:List Int)++a0).length*1<=140737488355328/\(([]:List Int)++a0).length<=maxLen then some (([]:List Int)++a0)else none
def Bvs:=ct (fd Tryz.func312 ⟨[.v 24],[.n 24 true],true⟩ gN) (Awx K)
def Acm (K:Nat)(a0:List Int):Option (List Int):=bif a0.isEmpty then Amh (some []) ((if(([]:List Int)++a0).length*8<=140737488355328/\(([]:List Int)++a0).length<=maxLen then some (([]:List Int)++a0)else none))else if(([]:List Int)++a0).length*8<=140737488355328/\(([]:List Int)++a0).length<=maxLen then some (([]:List Int)++a0)else none
def A85:=ct (fd Tryz.func210 ⟨[.v 25],[.n 25 true],true⟩ gN) (Acm K)
def Awa (a0:Ef):Option Ef:=(Awx K a0.Fp).bind fun r1=>(Acm K a0.G4).bind fun r2=>(Acm K a0.Fq).bind fun r3=>some (Ef.mk r1 r2 r3)
def Bgt:=ct (fd Tryz.func255 ⟨[.v 34],[.n 34 true],true⟩ (gC (A85 K) (gC (Bvs K) gN))) (Awa K)
def Atf (K:Nat)(a0:List Bn):Option (List Bn):=bif a0.isEmpty then Amh (some []) ((if(([]:List Bn)++a0).length*24<=140737488355328/\(([]:List Bn)++a0).length<=maxLen then some (([]:List Bn)++a0)else none))else if(([]:List Bn)++a0).length*24<=140737488355328/\(([]:List Bn)++a0).length<=maxLen then some (([]:List Bn)++a0)else none
def Bvt:=ct (fd Tryz.func362 ⟨[.v 75],[.n 75 true],true⟩ gN) (Atf K)
def A04 (a0:Az):Option Az:=(Acm K a0.Ad).bind fun r1=>(Atf K a0.D5).bind fun r2=>(Acm K a0.Dh).bind fun r3=>some (Az.mk a0.G4 a0.C7 a0.Nb a0.fUp a0.G5 a0.Bz a0.G6 a0.G7 r1 a0.No a0.G8 r2 r3)
def Bvu:=ct (fd Tryz.func313 ⟨[.v 77],[.n 77 false],true⟩ (gC (A85 K) (gC (Bvt K) gN))) (A04 K)
def Ap4 (a0:List Az):Nat->(List Az)->Int->Int->Option (List Az)
 |0,_,_,_=>none
 |n1+1,v1,v2,v3=>bif decide (v3<v2)then if 0<=v3/\v3<a0.length then(A04 K (gt a0 v3)).bind fun r4=>if(v1++[r4]).length*152<=140737488355328/\(v1++[r4]).length<=maxLen then Ap4 a0 n1 (v1++[r4]) v2 (A1 v3 1)else none else none else some v1
def Avi (a0:List Az):Option (List Az):=Ap4 K a0 K ([]:List Az) (a0.length:Int) 0
def Btu:=fd Tryz.func256 ⟨[.v 35],[.n 35 true],false⟩ (gC (Bvu K) gN) (post:=[(16,[.put 3016])])
def B2v:Fw:=⟨[(3,.o 1003 77 true),(7,.v 35),(8,.v 2),(9,.v 2)],[]⟩
def Bm4:=lp (Btu K) 58 B2v [] (fun n a b=>Ap4 K b n a) (fun n=>kN)
def Bgu:=ct (Btu K) (Avi K) (kC (Bm4 K K) kN)
def Azz (a0:Bb):Option Bb:=(Acm K a0.Dh).bind fun r1=>(Acm K a0.Ad).bind fun r2=>some (Bb.mk a0.Be a0.Bz r1 r2 a0.H2)
def Bvv:=ct (fd Tryz.func257 ⟨[.v 79],[.n 79 true],true⟩ (gC (A85 K) gN)) (Azz K)
def Ap5:Nat->(List Bb)->Int->Int->Bo->Bo->Option Bo
 |0,_,_,_,_,_=>none
 |n1+1,v4,v5,v6,v7,v8=>bif decide (v6<v5)then if 0<=v6/\v6<v4.length then(Azz K (gt v4 v6)).bind fun r9=>if(v7.fQ.length+1)*72<=140737488355328/\v7.fQ.length+1<=maxLen then Ap5 n1 v4 v5 (A1 v6 1) (Bo.mk v7.fC v7.fP v7.fL ((v7.fQ++[(default:Bb)]).set (v7.fQ.length:Int).toNat r9) v7.Jp) v8 else none else none else some v7
def At2 (a0:Bo):Option Bo:=(Awa K a0.fP).bind fun r1=>(Avi K a0.fL).bind fun r2=>(Acm K a0.Jp).bind fun r3=>Ap5 K K a0.fQ (a0.fQ.length:Int) 0 (Bo.mk a0.fC r1 r2 [] r3) (Bo.mk (Fi.mk 0 0 0 0 0 0) (Ef.mk [] [] []) [] [] [])
def Btv:=fd Tryz.func160 ⟨[.v 38],[.n 38 true],false⟩ (gC (A85 K) (gC (Bgt K) (gC (Bgu K) (gC (Bvv K) gN)))) [] [] [(5,[.take 103 10 6658]),(7,[.take 103 6 6654,.take 103 7 6655,.take 103 8 6656,.take 103 9 6657,.take 103 10 6658,.take 103 11 6659])]
def B2w:Fw:=⟨[(2,.p 102),(3,.p 103),(19,.v 36),(20,.v 2),(21,.v 2)],[(103,.st 38 true),(102,.st 38 true)]⟩
def Bm5:=lp (Btv K) 58 B2w [] (Ap5 K) (fun n=>kN)
def Bde:=ct (Btv K) (At2 K) (kC (Bm5 K K) kN)
def Ayf (a0:Fi):Option Bool:=(K0 K a0.Ad 2 12).bind fun r1=>bif r1 then(K0 K a0.Du 8 16).bind fun r2=>bif r2 then(K0 K a0.Cd 2 8).bind fun r3=>bif r3 then(K0 K a0.Ez 1 8).bind fun r4=>bif r4 then(K0 K a0.Ce 1 16).bind fun r5=>bif r5 then(K0 K a0.Dv 1 4).bind fun r6=>some r6 else some false else some false else some false else some false else some false
def Bdf:=ct (fd Tryz.func47 ⟨[.v 33],[.v 4],true⟩ (gC (A4j K) gN) [5,6,9,10,11,14,15,16,19,20,21,24,25,26]) (Ayf K)
def A2g (a0:Fi):Option Int:=(Ayf K a0).bind fun r1=>bif !r1 then some 0 else some (K1 a0.Ad a0.Du)
def Bm6:=ct (fd Tryz.func208 ⟨[.v 33],[.v 3],true⟩ (gC (Bdf K) gN)) (A2g K)
def Auk (K:Nat)(a0:Ef)(a1:Fi)(a2:Int):Option (List Int):=if 0<=(K1 a2 a1.Du)/\(K1 a2 a1.Du)<=(K1 (A1 a2 1) a1.Du)/\(K1 (A1 a2 1) a1.Du)<=a0.Fp.length then some ((a0.Fp.drop (K1 a2 a1.Du).toNat).take ((K1 (A1 a2 1) a1.Du) - (K1 a2 a1.Du)).toNat)else none
def Bgv:=ct (fd Tryz.func209 ⟨[.v 34,.v 33,.v 3],[.v 24],false⟩ gN) (Auk K)
def A3u (K:Nat)(a0:Int):Option Bool:=some (a0 != 0)
def Bvw:=ct (fd Tryz.func121 ⟨[.v 5],[.v 4],true⟩ gN) (A3u K)
def Ahw (a0:List Int):Nat->Int->Int->Option Int
 |0,_,_=>none
 |n1+1,v1,v2=>bif decide (v2<v1)then if 0<=v2/\v2<a0.length then(A3u K (gt a0 v2)).bind fun r3=>bif r3 then some v2 else Ahw a0 n1 v1 (A1 v2 1)else none else some (-1)
def Aoy (a0:List Int):Option Int:=Ahw K a0 K (a0.length:Int) 0
def Btw:=fd Tryz.func207 ⟨[.v 24,.f 121 [] []],[.v 3],true⟩ (gC (Bvw K) gN)
def B2x:Fw:=⟨[(0,.v 24),(1,.f 121 [] []),(7,.v 2),(8,.v 2)],[]⟩
def Bm7:=lp (Btw K) 26 B2x [] (fun n a=>Ahw K a n) (fun n=>kN)
def Bvx:=ct (Btw K) (Aoy K) (kC (Bm7 K K) kN)
def Akv (a0:List Int):Option Bool:=(Aoy K a0).bind fun r1=>some (decide (r1>=0))
def Bvy:=ct (fd Tryz.func120 ⟨[.v 24,.f 121 [] []],[.v 4],true⟩ (gC (Bvx K) gN)) (Akv K)
def Au8 (a0:List Int):Option Bool:=(Akv K a0).bind fun r1=>some (!r1)
def Ban:=ct (fd Tryz.func30 ⟨[.v 24],[.v 4],true⟩ (gC (Bvy K) gN)) (Au8 K)
def A05 (K:Nat)(v3:List Int)(v4:Int)(v6 v7 v8:List Int)(v12:Int)(C1:(List Int)->Int->Int->(List Int)->(List Int)->(List Int)->Option Bool)(v16:Bool):Option Bool:=bif v16 then some false else C1 v3 v4 (A1 v12 1) v6 v7 v8
def Aur (a0:Fi)(v3:List Int)(v4 v5:Int)(v6 v7 v8:List Int)(C1:(List Int)->Int->Int->(List Int)->(List Int)->(List Int)->Option Bool)(v11 v12:Int)(v13:Bool):Option Bool:=bif v13 then some false else bif v11==0 then(Auk K (Ef.mk v6 v7 v8) a0 v5).bind fun r14=>(Au8 K r14).bind fun r15=>A05 K v3 v4 v6 v7 v8 v12 (C1) (!r15)else A05 K v3 v4 v6 v7 v8 v12 (C1) false
def Akn (a0:Fi):Nat->(List Int)->Int->Int->(List Int)->(List Int)->(List Int)->Option Bool
 |0,_,_,_,_,_,_=>none
 |n1+1,v3,v4,v5,v6,v7,v8=>bif decide (v5<v4)then if 0<=v5/\v5<v3.length then(K0 K (gt v3 v5) 0 2).bind fun r9=>bif !r9 then some false else bif (gt v3 v5)==1 then if 0<=v5/\v5<v8.length then(K0 K (gt v8 v5) 0 (Ap a0.Cd 1)).bind fun r10=>bif r10 then bif (gt v3 v5) != 1 then if 0<=v5/\v5<v8.length then Aur K a0 v3 v4 v5 v6 v7 v8 (Akn a0 n1) (gt v3 v5) v5 ((gt v8 v5) != (-1))else none else Aur K a0 v3 v4 v5 v6 v7 v8 (Akn a0 n1) (gt v3 v5) v5 false else Aur K a0 v3 v4 v5 v6 v7 v8 (Akn a0 n1) (gt v3 v5) v5 true else none else bif (gt v3 v5) != 1 then if 0<=v5/\v5<v8.length then Aur K a0 v3 v4 v5 v6 v7 v8 (Akn a0 n1) (gt v3 v5) v5 ((gt v8 v5) != (-1))else none else Aur K a0 v3 v4 v5 v6 v7 v8 (Akn a0 n1) (gt v3 v5) v5 false else none else some true
def A0i (a0:Fi)(a1:Ef):Option Bool:=(Ayf K a0).bind fun r1=>bif r1 then(A2g K a0).bind fun r2=>bif (a1.Fp.length:Int) != r2 then some false else bif (a1.G4.length:Int) != a0.Ad then some false else bif (a1.Fq.length:Int) != a0.Ad then some false else Akn K a0 K a1.G4 (a1.G4.length:Int) 0 a1.Fp a1.G4 a1.Fq else some false
def Bih:=fd Tryz.func122 ⟨[.v 33,.v 34],[.v 4],true⟩ (gC (Ban K) (gC (Bdf K) (gC (A4j K) (gC (Bm6 K) (gC (Bgv K) gN))))) [8,9,10,16,17,18,24,25,26,48,49,58,59,60,61,63,64,75,76] [29899,119599]
def B2y:Fw:=⟨[(2,.p 102),(3,.p 103),(35,.v 25),(36,.v 2),(37,.v 2),(73,.v 4)],[(103,.box bx9),(102,.st 33 true)]⟩
def B2z:Fw:=⟨[(2,.p 102),(3,.p 103),(5,.v 2),(6,.v 2),(35,.v 25),(36,.v 2),(37,.v 2),(46,.v 4)],[(103,.box bx9),(102,.st 33 true)]⟩
def Bm8:Fw:=⟨[(2,.p 102),(3,.p 103),(35,.v 25),(36,.v 2),(37,.v 2)],[(103,.box bx9),(102,.st 33 true)]⟩
def Bdg:=fun(C58:CT Bm8 _)=>jn (Bih K) 119599 B2y [(58,ar Bm8 C58)] (fun a b c d e f g h=>A05 K a b e f g c (fun v3 v4 v5 v6 v7 v8=>C58 v3 v4 v5 v6 v7 v8 h) d) kN
def Bet:=fun(C58:CT Bm8 _)=>jn (Bih K) 29899 B2z [(58,ar Bm8 C58)] (fun a b c d e f g h i j=>Aur K j c d a g h i (fun v3 v4 v5 v6 v7 v8=>C58 v3 v4 v5 v6 v7 v8 j) b e f) (kC (Bdg K _) kN)
def Bm9:=lp (Bih K) 58 Bm8 [] (fun n a b c d e f g=>Akn K g n a b c d e f) (fun n=>kC (Bet K _) kN)
def Bna:=ct (Bih K) (A0i K) (kC (Bm9 K K) kN)
def Amn (K:Nat)(a0 a1:List Int):Nat->Int->Int->Option Bool
 |0,_,_=>none
 |n1+1,v1,v2=>bif decide (v2<v1)then if 0<=v2/\v2<a0.length then if 0<=v2/\v2<a1.length then bif (gt a0 v2) != (gt a1 v2)then some false else Amn K a0 a1 n1 v1 (A1 v2 1)else none else none else some true
def Ap6 (a0 a1:List Int):Option Bool:=bif (a0.length:Int) != (a1.length:Int)then some false else Amn K a0 a1 K (a0.length:Int) 0
def Btx:=fd Tryz.func153 ⟨[.v 25,.v 25],[.v 4],true⟩ gN
def B20:Fw:=⟨[(0,.v 25),(1,.v 25),(12,.v 2),(13,.v 2)],[]⟩
def Bnb:=lp Btx 58 B20 [] (fun n a b=>Amn K a b n) (fun n=>kN)
def Bnc:=ct Btx (Ap6 K) (kC (Bnb K K) kN)
def Auv (K:Nat)(a0 a1:List Bn):Nat->Int->Int->Option Bool
 |0,_,_=>none
 |n1+1,v1,v2=>bif decide (v2<v1)then if 0<=v2/\v2<a0.length then if 0<=v2/\v2<a1.length then bif !(((gt a0 v2).fAt==(gt a1 v2).fAt)&&(((gt a0 v2).Yg==(gt a1 v2).Yg)&&(((gt a0 v2).Yh==(gt a1 v2).Yh)&&true)))then some false else Auv K a0 a1 n1 v1 (A1 v2 1)else none else none else some true
def Avz (a0 a1:List Bn):Option Bool:=bif (a0.length:Int) != (a1.length:Int)then some false else Auv K a0 a1 K (a0.length:Int) 0
def Bty:=fd Tryz.func304 ⟨[.v 75,.v 75],[.v 4],true⟩ gN
def B21:Fw:=⟨[(0,.v 75),(1,.v 75),(12,.v 2),(13,.v 2)],[]⟩
def Bnd:=lp Bty 58 B21 [] (fun n a b=>Auv K a b n) (fun n=>kN)
def Bvz:=ct Bty (Avz K) (kC (Bnd K K) kN)
def A3v (a0 a1:Az):Option Bool:=bif a0.G4==a1.G4 then bif a0.C7==a1.C7 then bif a0.Nb==a1.Nb then bif a0.fUp==a1.fUp then bif a0.G5==a1.G5 then bif a0.Bz==a1.Bz then bif a0.G6==a1.G6 then bif a0.G7==a1.G7 then(Ap6 K a0.Ad a1.Ad).bind fun r1=>bif r1 then bif a0.No==a1.No then bif a0.G8==a1.G8 then(Avz K a0.D5 a1.D5).bind fun r2=>bif r2 then(Ap6 K a0.Dh a1.Dh).bind fun r3=>some r3 else some false else some false else some false else some false else some false else some false else some false else some false else some false else some false else some false else some false
def Bv0:=ct (fd Tryz.func250 ⟨[.v 77,.v 77],[.v 4],true⟩ (gC (Bnc K) (gC (Bvz K) gN)) [9,10,15,16,17,22,23,24,29,30,31,36,37,38,43,44,45,50,51,52,57,58,59,64,65,66,71,72,73,78,79,80,85,86,87]) (A3v K)
def A42 (a0:Az):Option Bool:=(A3v K a0 (Az.mk a0.G4 a0.C7 0 0 0 0 0 0 ([]:List Int) 0 0 ([]:List Bn) ([]:List Int))).bind fun r1=>some r1
def Bv1:=ct (fd Tryz.func288 ⟨[.v 77],[.v 4],true⟩ (gC (Bv0 K) gN)) (A42 K)
def Arr (K:Nat)(a0:List Int)(a1:Int):Nat->Int->Int->Option Int
 |0,_,_=>none
 |n1+1,v1,v2=>bif decide (v2<v1)then if 0<=v2/\v2<a0.length then bif a1==(gt a0 v2)then some v2 else Arr K a0 a1 n1 v1 (A1 v2 1)else none else some (-1)
def A1m (a0:List Int)(a1:Int):Option Int:=Arr K a0 a1 K (a0.length:Int) 0
def Btz:=fd Tryz.func260 ⟨[.v 25,.v 3],[.v 3],true⟩ gN
def B22:Fw:=⟨[(0,.v 25),(1,.v 2),(7,.v 2),(8,.v 2)],[]⟩
def Bne:=lp Btz 26 B22 [] (fun n a b=>Arr K a b n) (fun n=>kN)
def Bv2:=ct Btz (A1m K) (kC (Bne K K) kN)
def Apb (a0:List Int)(a1:Int):Option Bool:=(A1m K a0 a1).bind fun r1=>some (decide (r1>=0))
def Bgw:=ct (fd Tryz.func290 ⟨[.v 25,.v 3],[.v 4],true⟩ (gC (Bv2 K) gN)) (Apb K)
def Ar1 (a0:Fi)(a1:List Int):Nat->(List Int)->Int->Int->Option Bool
 |0,_,_,_=>none
 |n1+1,v1,v2,v3=>bif decide (v3<v2)then if 0<=v3/\v3<v1.length then(K0 K (gt v1 v3) 0 (Ap a0.Ad 1)).bind fun r4=>bif r4 then if(0:Int)<=0/\0<=v3/\v3<=a1.length then(Apb K ((a1.drop (0:Int).toNat).take (v3 - 0).toNat) (gt v1 v3)).bind fun r5=>bif r5 then some false else Ar1 a0 a1 n1 v1 v2 (A1 v3 1)else none else some false else none else some true
def Ax8 (a0:Fi)(a1:List Int):Option Bool:=Ar1 K a0 a1 K a1 (a1.length:Int) 0
def Bt0:=fd Tryz.func289 ⟨[.v 33,.v 25],[.v 4],true⟩ (gC (A4j K) (gC (Bgw K) gN)) [18,19,20]
def B23:Fw:=⟨[(1,.v 25),(2,.p 102),(7,.v 25),(8,.v 2),(9,.v 2)],[(102,.st 33 true)]⟩
def Bnf:=lp (Bt0 K) 26 B23 [] (fun n a b c d e=>Ar1 K e a n b c d) (fun n=>kN)
def Bng:=ct (Bt0 K) (Ax8 K) (kC (Bnf K K) kN)
def Ayo (a0:Int):Option Bool:=(K0 K a0 0 255).bind fun r1=>some (!r1)
def Bv3:=ct (fd Tryz.func223 ⟨[.v 3],[.v 4],true⟩ (gC (A4j K) gN)) (Ayo K)
def Ahv (a0:List Int):Nat->Int->Int->Option Int
 |0,_,_=>none
 |n1+1,v1,v2=>bif decide (v2<v1)then if 0<=v2/\v2<a0.length then(Ayo K (gt a0 v2)).bind fun r3=>bif r3 then some v2 else Ahv a0 n1 v1 (A1 v2 1)else none else some (-1)
def Amo (a0:List Int):Option Int:=Ahv K a0 K (a0.length:Int) 0
def Bt1:=fd Tryz.func297 ⟨[.v 25,.f 223 [] []],[.v 3],true⟩ (gC (Bv3 K) gN)
def B24:Fw:=⟨[(0,.v 25),(1,.f 223 [] []),(7,.v 2),(8,.v 2)],[]⟩
def Bnh:=lp (Bt1 K) 26 B24 [] (fun n a=>Ahv K a n) (fun n=>kN)
def Bv4:=ct (Bt1 K) (Amo K) (kC (Bnh K K) kN)
def Akp (a0:List Int):Option Bool:=(Amo K a0).bind fun r1=>some (decide (r1>=0))
def Bv5:=ct (fd Tryz.func222 ⟨[.v 25,.f 223 [] []],[.v 4],true⟩ (gC (Bv4 K) gN)) (Akp K)
def Awb (a0:List Int):Option Bool:=(Akp K a0).bind fun r1=>some (!r1)
def Bgx:=ct (fd Tryz.func126 ⟨[.v 25],[.v 4],true⟩ (gC (Bv5 K) gN)) (Awb K)
def A6s (K:Nat)(a0:Fi)(a1:Int):Option Bool:=some (decide (a1>a0.Du))
def Bv6:=ct (fd Tryz.func336 ⟨[.v 33,.v 3],[.v 4],true⟩ gN) (A6s K)
def A6t (a0 a1:Int):Option Int:=(K0 K a0 0 1000000000).bind fun r1=>bif r1 then(K0 K a1 1 1000000000).bind fun r2=>bif !r2 then some 0 else if a1≠(0:Int)then some (Apq .i64 (Ap (A1 a0 a1) 1) a1)else none else some 0
def Bv7:=ct (fd Tryz.func321 ⟨[.v 3,.v 3],[.v 3],true⟩ (gC (A4j K) gN) [6,7,8]) (A6t K)
def A5s (a0:Fi)(a1:Int):Option Int:=(A6t K a1 a0.Du).bind fun r1=>some r1
def Bv8:=ct (fd Tryz.func337 ⟨[.v 33,.v 3],[.v 3],true⟩ (gC (Bv7 K) gN)) (A5s K)
def Axl (a0:Fi)(a1:Bn):Option Bool:=(A2g K a0).bind fun r1=>bif decide (a1.Yg<=0)then some false else bif decide (a1.fAt<0)then some false else bif decide (a1.Yg>r1)then some false else bif decide (a1.fAt>(Ap r1 a1.Yg))then some false else bif a1.Yh==0 then bif decide (a1.Yg<=a0.Du)then if a0.Du≠(0:Int)then if a0.Du≠(0:Int)then some ((Apq .i64 a1.fAt a0.Du)==(Apq .i64 (Ap (A1 a1.fAt a1.Yg) 1) a0.Du))else none else none else some false else(A6s K a0 a1.Yg).bind fun r2=>bif r2 then(A5s K a0 a1.Yg).bind fun r3=>bif a1.Yh==r3 then if a0.Du≠(0:Int)then some ((Int.tmod a1.fAt a0.Du)==0)else none else some false else some false
def Bni:=ct (fd Tryz.func292 ⟨[.v 33,.v 183],[.v 4],true⟩ (gC (Bm6 K) (gC (Bv6 K) (gC (Bv8 K) gN))) [10,11,14,15,16,20,21,22,38,39,59,60,67,68,69]) (Axl K)
def A06 (a0:Bn)(a1:Fi):Option Bool:=(Axl K a1 a0).bind fun r1=>some (!r1)
def Bv9:=ct (fd Tryz.func291 ⟨[.v 183,.r 33],[.v 4],true⟩ (gC (Bni K) gN)) (A06 K)
def Ad9 (a0:List Bn)(a1_0:Fi):Nat->Int->Int->Option Int
 |0,_,_=>none
 |n1+1,v1,v2=>bif decide (v2<v1)then if 0<=v2/\v2<a0.length then(A06 K (gt a0 v2) a1_0).bind fun r3=>bif r3 then some v2 else Ad9 a0 a1_0 n1 v1 (A1 v2 1)else none else some (-1)
def Art (a0:List Bn)(a1_0:Fi):Option Int:=Ad9 K a0 a1_0 K (a0.length:Int) 0
def Bt2:=fd Tryz.func295 ⟨[.v 75,.f 291 [] [33]],[.v 3],true⟩ (gC (Bv9 K) gN)
def B25:Fw:=⟨[(0,.v 75),(1,.f 291 [] [33]),(7,.v 2),(8,.v 2)],[]⟩
def Bnj:=lp (Bt2 K) 26 B25 [] (fun n a b=>Ad9 K a b n) (fun n=>kN)
def Bwa:=ct (Bt2 K) (Art K) (kC (Bnj K K) kN)
def Air (a0:List Bn)(a1_0:Fi):Option Bool:=(Art K a0 a1_0).bind fun r1=>some (decide (r1>=0))
def Bwb:=ct (fd Tryz.func215 ⟨[.v 75,.f 291 [] [33]],[.v 4],true⟩ (gC (Bwa K) gN)) (Air K)
def Aus (a0:Fi)(v19:List Bn)(v20:List Int):Option Bool:=bif decide ((v19.length:Int)<=12)then bif decide ((v20.length:Int)<=6)then(Awb K v20).bind fun r25=>bif r25 then(Air K v19 a0).bind fun r26=>some (!r26)else some false else some false else some false
def Asn (a0:Fi):Nat->(List Int)->Int->Int->Int->Int->Int->Int->Int->Int->Int->Int->(List Int)->Int->Int->(List Bn)->(List Int)->Option Bool
 |0,_,_,_,_,_,_,_,_,_,_,_,_,_,_,_,_=>none
 |n1+1,v5,v6,v7,v8,v9,v10,v11,v12,v13,v14,v15,v16,v17,v18,v19,v20=>bif decide (v7<v6)then if 0<=v7/\v7<v5.length then(K0 K (gt v5 v7) 0 a0.Cd).bind fun r21=>bif !r21 then some false else Asn a0 n1 v5 v6 (A1 v7 1) v8 v9 v10 v11 v12 v13 v14 v15 v16 v17 v18 v19 v20 else none else bif decide (v10<0)then some false else bif decide (v12<0)then some false else(Ax8 K a0 v16).bind fun r22=>bif r22 then bif v17 != 0 then(Apb K v16 (Ap v17 1)).bind fun r23=>bif r23 then(K0 K v18 0 a0.Du).bind fun r24=>bif r24 then bif v17==0 then bif v18 != 0 then some false else Aus K a0 v19 v20 else Aus K a0 v19 v20 else some false else some false else(K0 K v18 0 a0.Du).bind fun r27=>bif r27 then bif v17==0 then bif v18 != 0 then some false else Aus K a0 v19 v20 else Aus K a0 v19 v20 else some false else some false
def A3c (a0:Fi)(a1:Az):Option Bool:=(Ayf K a0).bind fun r1=>bif r1 then(K0 K a1.G4 0 3).bind fun r2=>bif r2 then(K0 K a1.C7 1 a0.Dv).bind fun r3=>bif !r3 then some false else bif a1.G4 != 1 then(A42 K a1).bind fun r4=>some r4 else Asn K a0 K ([a1.fUp,a1.Bz,a1.G6,a1.G7]:List Int) (([a1.fUp,a1.Bz,a1.G6,a1.G7]:List Int).length:Int) 0 a1.G4 a1.C7 a1.Nb a1.fUp a1.G5 a1.Bz a1.G6 a1.G7 a1.Ad a1.No a1.G8 a1.D5 a1.Dh else some false else some false
def Bnk:=fd Tryz.func212 ⟨[.v 33,.v 77],[.v 4],true⟩ (gC (Bdf K) (gC (Bgx K) (gC (A4j K) (gC (Bwb K) (gC (Bv1 K) (gC (Bng K) (gC (Bgw K) gN))))))) [8,9,10,13,14,15,16,51,52,55,56,57,61,62,63,64,67,68,74,75,76,77,78,83,84,85,86,89,90,99,100,104,105,106,109,110,111] [31] [(13,[.frzB 102 33])]
def B26:Fw:=⟨[(2,.p 102),(3,.p 103)],[(103,.box bx4),(102,.st 33 true)]⟩
def B27:Fw:=⟨[(2,.p 102),(3,.p 103),(37,.v 25),(38,.v 2),(39,.v 2)],[(103,.box bx4),(102,.st 33 true)]⟩
def Bnl:=jn (Bnk K) 31 B26 [] (fun _ _ _ _ _ _ _ _ _ _ _ l m o=>Aus K o l m) kN
def Bjw:=lp (Bnk K) 122 B27 [] (fun n a b c d e f g h i j k l m o p q r=>Asn K r n a b c d e f g h i j k l m o p q) (fun n=>kC (up (Bnl K)) kN)
def Bwc:=ct (Bnk K) (A3c K) (kC (Bjw K K) kN)
def Axm (K:Nat)(v2 v3:Int)(v4 v5 v6:List Int)(C1:(List Int)->Int->Int->(List Int)->(List Int)->(List Int)->Option (List Int))(v7:List Int):Option (List Int):=C1 v7 v2 (A1 v3 1) v4 v5 v6
def Aoz (a1:Int):Nat->(List Int)->Int->Int->(List Int)->(List Int)->(List Int)->Option (List Int)
 |0,_,_,_,_,_,_=>none
 |n1+1,v1,v2,v3,v4,v5,v6=>bif decide (v3<v2)then if 0<=v3/\v3<v5.length then bif (gt v5 v3)==1 then if 0<=v3/\v3<v6.length then bif (gt v6 v3)==a1 then if(v1++([v3]:List Int)).length*8<=140737488355328/\(v1++([v3]:List Int)).length<=maxLen then Axm K v2 v3 v4 v5 v6 (Aoz a1 n1) (v1++([v3]:List Int))else none else Axm K v2 v3 v4 v5 v6 (Aoz a1 n1) v1 else none else Axm K v2 v3 v4 v5 v6 (Aoz a1 n1) v1 else none else some v1
def Aza (a0:Ef)(a1:Int):Option (List Int):=Aoz K a1 K ([]:List Int) (Ada (a0.G4.length:Int) (a0.Fq.length:Int)) 0 a0.Fp a0.G4 a0.Fq
def Bnm:=fd Tryz.func119 ⟨[.v 34,.v 3],[.n 25 true],true⟩ gN [23,24] [467]
def Brz:Fw:=⟨[(1,.v 2),(2,.p 102),(5,.o 1005 3 true),(14,.v 2),(15,.v 2)],[(102,.box bx9)]⟩
def Bjx:=fun(C58:CT Brz _)=>jn Bnm 467 Brz [(58,ar Brz C58)] (fun a b c d e f g=>Axm K c d e f g (C58 a) b) kN
def Bnn:=lp Bnm 58 Brz [] (fun n a=>Aoz K a n) (fun n=>kC (Bjx K _) kN)
def Bno:=ct Bnm (Aza K) (kC (Bnn K K) kN)
def Ao3 (a0:Bn)(a1:Fi)(a2:Az):Nat->Int->Option Bool
 |0,_=>none
 |n1+1,v2=>if a1.Du≠(0:Int)then bif decide (v2<=(Apq .i64 (Ap (A1 a0.fAt a0.Yg) 1) a1.Du))then(Apb K a2.Ad v2).bind fun r3=>bif !r3 then some true else Ao3 a0 a1 a2 n1 (A1 v2 1)else some false else none
def Awm (a0:Bn)(a1:Fi)(a2:Az):Option Bool:=(Axl K a1 a0).bind fun r1=>bif !r1 then some true else if a1.Du≠(0:Int)then Ao3 K a0 a1 a2 K (Apq .i64 a0.fAt a1.Du)else none
def Bt3:=fd Tryz.func293 ⟨[.v 183,.r 33,.r 77],[.v 4],true⟩ (gC (Bgw K) (gC (Bni K) gN))
def B28:Fw:=⟨[(1,.r 33),(2,.r 77),(3,.p 103),(5,.v 2)],[(103,.st 183 true)]⟩
def Bnp:=lp (Bt3 K) 58 B28 [] (fun n a b c d=>Ao3 K d a b n c) (fun n=>kN)
def Bwd:=ct (Bt3 K) (Awm K) (kC (Bnp K K) kN)
def Aaj (a0:List Bn)(a1_0:Fi)(a1_1:Az):Nat->Int->Int->Option Int
 |0,_,_=>none
 |n1+1,v1,v2=>bif decide (v2<v1)then if 0<=v2/\v2<a0.length then(Awm K (gt a0 v2) a1_0 a1_1).bind fun r3=>bif r3 then some v2 else Aaj a0 a1_0 a1_1 n1 v1 (A1 v2 1)else none else some (-1)
def Aph (a0:List Bn)(a1_0:Fi)(a1_1:Az):Option Int:=Aaj K a0 a1_0 a1_1 K (a0.length:Int) 0
def Bt4:=fd Tryz.func295 ⟨[.v 75,.f 293 [] [33,77]],[.v 3],true⟩ (gC (Bwd K) gN)
def B29:Fw:=⟨[(0,.v 75),(1,.f 293 [] [33,77]),(7,.v 2),(8,.v 2)],[]⟩
def Bnq:=lp (Bt4 K) 26 B29 [] (fun n a b c=>Aaj K a b c n) (fun n=>kN)
def Bwe:=ct (Bt4 K) (Aph K) (kC (Bnq K K) kN)
def Ahx (a0:List Bn)(a1_0:Fi)(a1_1:Az):Option Bool:=(Aph K a0 a1_0 a1_1).bind fun r1=>some (decide (r1>=0))
def Bwf:=ct (fd Tryz.func215 ⟨[.v 75,.f 293 [] [33,77]],[.v 4],true⟩ (gC (Bwe K) gN)) (Ahx K)
def A07 (a0:Fi)(a1:Az):Option Bool:=(Ahx K a1.D5 a0 a1).bind fun r1=>some (!r1)
def Bwg:=ct (fd Tryz.func213 ⟨[.v 33,.v 77],[.v 4],true⟩ (gC (Bwf K) gN) [] [] [(1,[.frzB 102 33,.frzB 103 77])]) (A07 K)
def A2h (K:Nat)(v1 v2:Bn):Option Bool:=some (decide ((Asu .u64 (IntKind.u64.wrap v1.fAt) (IntKind.u64.wrap v2.fAt))>=(IntKind.u64.wrap v2.Yg)))
def A2i (a0 a1:Bn):Option Bool:=bif decide (a0.Yg<=0)then some true else bif decide (a1.Yg<=0)then some true else bif decide (a0.fAt>a1.fAt)then A2h K a0 a1 else A2h K a1 a0
def Bt5:=fd Tryz.func217 ⟨[.v 183,.v 183],[.v 4],true⟩ gN [7,8] [7]
def B3a:Fw:=⟨[(2,.p 102),(3,.p 103)],[(103,.st 183 true),(102,.st 183 true)]⟩
def Br0:=jn Bt5 7 B3a [] (A2h K) kN
def Bnr:=ct Bt5 (A2i K) (kC (Br0 K) kN)
def Ayp (a0 a1:Bn):Option Bool:=(A2i K a0 a1).bind fun r1=>some (!r1)
def Bwh:=ct (fd Tryz.func294 ⟨[.v 183,.r 183],[.v 4],true⟩ (gC (Bnr K) gN)) (Ayp K)
def Aa1 (a0:List Bn)(a1_0:Bn):Nat->Int->Int->Option Int
 |0,_,_=>none
 |n1+1,v1,v2=>bif decide (v2<v1)then if 0<=v2/\v2<a0.length then(Ayp K (gt a0 v2) a1_0).bind fun r3=>bif r3 then some v2 else Aa1 a0 a1_0 n1 v1 (A1 v2 1)else none else some (-1)
def Api (a0:List Bn)(a1_0:Bn):Option Int:=Aa1 K a0 a1_0 K (a0.length:Int) 0
def Bt6:=fd Tryz.func295 ⟨[.v 75,.f 294 [] [183]],[.v 3],true⟩ (gC (Bwh K) gN)
def B3b:Fw:=⟨[(0,.v 75),(1,.f 294 [] [183]),(7,.v 2),(8,.v 2)],[]⟩
def Bns:=lp (Bt6 K) 26 B3b [] (fun n a b=>Aa1 K a b n) (fun n=>kN)
def Bwi:=ct (Bt6 K) (Api K) (kC (Bns K K) kN)
def Ahy (a0:List Bn)(a1_0:Bn):Option Bool:=(Api K a0 a1_0).bind fun r1=>some (decide (r1>=0))
def Bwj:=ct (fd Tryz.func215 ⟨[.v 75,.f 294 [] [183]],[.v 4],true⟩ (gC (Bwi K) gN)) (Ahy K)
def Ar2 (a0:List Bn):Nat->(List Bn)->Int->Int->Option Bool
 |0,_,_,_=>none
 |n1+1,v1,v2,v3=>bif decide (v3<v2)then if 0<=v3/\v3<v1.length then if(0:Int)<=0/\0<=v3/\v3<=a0.length then(Ahy K ((a0.drop (0:Int).toNat).take (v3 - 0).toNat) (gt v1 v3)).bind fun r4=>bif r4 then some false else Ar2 a0 n1 v1 v2 (A1 v3 1)else none else none else some true
def A08 (a0:List Bn):Option Bool:=Ar2 K a0 K a0 (a0.length:Int) 0
def Bt7:=fd Tryz.func214 ⟨[.v 75],[.v 4],true⟩ (gC (Bwj K) gN) [] [] [(4,[.frzB 104 183])]
def B3c:Fw:=⟨[(0,.v 75),(5,.v 75),(6,.v 2),(7,.v 2)],[]⟩
def Bnt:=lp (Bt7 K) 26 B3c [] (fun n a=>Ar2 K a n) (fun n=>kN)
def Bwk:=ct (Bt7 K) (A08 K) (kC (Bnt K K) kN)
def Auw (a0 a1:Bn):Option Bool:=(A2i K a0 a1).bind fun r1=>some (!r1)
def Bwl:=ct (fd Tryz.func216 ⟨[.v 183,.r 183],[.v 4],true⟩ (gC (Bnr K) gN)) (Auw K)
def V2 (a0:List Bn)(a1_0:Bn):Nat->Int->Int->Option Int
 |0,_,_=>none
 |n1+1,v1,v2=>bif decide (v2<v1)then if 0<=v2/\v2<a0.length then(Auw K (gt a0 v2) a1_0).bind fun r3=>bif r3 then some v2 else V2 a0 a1_0 n1 v1 (A1 v2 1)else none else some (-1)
def Amp (a0:List Bn)(a1_0:Bn):Option Int:=V2 K a0 a1_0 K (a0.length:Int) 0
def Bt8:=fd Tryz.func295 ⟨[.v 75,.f 216 [] [183]],[.v 3],true⟩ (gC (Bwl K) gN)
def B0h:Fw:=⟨[(0,.v 75),(1,.f 216 [] [183]),(7,.v 2),(8,.v 2)],[]⟩
def Bnu:=lp (Bt8 K) 26 B0h [] (fun n a b=>V2 K a b n) (fun n=>kN)
def Bwm:=ct (Bt8 K) (Amp K) (kC (Bnu K K) kN)
def Afb (a0:List Bn)(a1_0:Bn):Option Bool:=(Amp K a0 a1_0).bind fun r1=>some (decide (r1>=0))
def Bwn:=ct (fd Tryz.func215 ⟨[.v 75,.f 216 [] [183]],[.v 4],true⟩ (gC (Bwm K) gN)) (Afb K)
def Aux (K:Nat)(v1:List Az)(v2 v3:Int)(v4 v5:Int)(v6 v7:Int)(v8 v9:Int)(v10 v11 v12:List Int)(v13:List Az)(v14:List Bb)(v15:List Int)(C1:(List Az)->Int->Int->Int->Int->Int->Int->Int->Int->(List Int)->(List Int)->(List Int)->(List Az)->(List Bb)->(List Int)->Option Bool):Option Bool:=C1 v1 v2 (A1 v3 1) v4 v5 v6 v7 v8 v9 v10 v11 v12 v13 v14 v15
def Ah0:Nat->(List Az)->Int->Int->Int->Int->Int->Int->Int->Int->(List Int)->(List Int)->(List Int)->(List Az)->(List Bb)->(List Int)->Option Bool
 |0,_,_,_,_,_,_,_,_,_,_,_,_,_,_,_=>none
 |n1+1,v1,v2,v3,v4,v5,v6,v7,v8,v9,v10,v11,v12,v13,v14,v15=>bif decide (v3<v2)then if 0<=v3/\v3<v1.length then(Acm K (gt v1 v3).Ad).bind fun r16=>(Fk K r16).bind fun r17=>if r17.length=r16.length then(A3c K (Fi.mk v4 v5 v6 v7 v8 v9) (gt v1 v3)).bind fun r18=>bif r18 then(Aza K (Ef.mk v10 v11 v12) v3).bind fun r19=>(Ap6 K r17 r19).bind fun r20=>bif r20 then(A07 K (Fi.mk v4 v5 v6 v7 v8 v9) (gt v1 v3)).bind fun r21=>bif r21 then(A08 K (gt v1 v3).D5).bind fun r22=>bif !r22 then some false else bif (gt v1 v3).No==0 then Aux K v1 v2 v3 v4 v5 v6 v7 v8 v9 v10 v11 v12 v13 v14 v15 (Ah0 n1)else if 0<=(Bn.mk (A1 (K1 (Ap (gt v1 v3).No 1) v5) (gt v1 v3).G8) (Ap v5 (gt v1 v3).G8) 0).fAt/\(Bn.mk (A1 (K1 (Ap (gt v1 v3).No 1) v5) (gt v1 v3).G8) (Ap v5 (gt v1 v3).G8) 0).fAt<=(A1 (Bn.mk (A1 (K1 (Ap (gt v1 v3).No 1) v5) (gt v1 v3).G8) (Ap v5 (gt v1 v3).G8) 0).fAt (Bn.mk (A1 (K1 (Ap (gt v1 v3).No 1) v5) (gt v1 v3).G8) (Ap v5 (gt v1 v3).G8) 0).Yg)/\(A1 (Bn.mk (A1 (K1 (Ap (gt v1 v3).No 1) v5) (gt v1 v3).G8) (Ap v5 (gt v1 v3).G8) 0).fAt (Bn.mk (A1 (K1 (Ap (gt v1 v3).No 1) v5) (gt v1 v3).G8) (Ap v5 (gt v1 v3).G8) 0).Yg)<=v10.length then(Au8 K ((v10.drop (Bn.mk (A1 (K1 (Ap (gt v1 v3).No 1) v5) (gt v1 v3).G8) (Ap v5 (gt v1 v3).G8) 0).fAt.toNat).take ((A1 (Bn.mk (A1 (K1 (Ap (gt v1 v3).No 1) v5) (gt v1 v3).G8) (Ap v5 (gt v1 v3).G8) 0).fAt (Bn.mk (A1 (K1 (Ap (gt v1 v3).No 1) v5) (gt v1 v3).G8) (Ap v5 (gt v1 v3).G8) 0).Yg) - (Bn.mk (A1 (K1 (Ap (gt v1 v3).No 1) v5) (gt v1 v3).G8) (Ap v5 (gt v1 v3).G8) 0).fAt).toNat)).bind fun r23=>bif r23 then(Afb K (gt v1 v3).D5 (Bn.mk (A1 (K1 (Ap (gt v1 v3).No 1) v5) (gt v1 v3).G8) (Ap v5 (gt v1 v3).G8) 0)).bind fun r24=>bif r24 then some false else Aux K v1 v2 v3 v4 v5 v6 v7 v8 v9 v10 v11 v12 v13 v14 v15 (Ah0 n1)else some false else none else some false else some false else some false else none else none else some true
def Awn (a0:Bo):Option Bool:=Ah0 K K a0.fL (a0.fL.length:Int) 0 a0.fC.Ad a0.fC.Du a0.fC.Cd a0.fC.Ez a0.fC.Ce a0.fC.Dv a0.fP.Fp a0.fP.G4 a0.fP.Fq a0.fL a0.fQ a0.Jp
def Bnv:=fd Tryz.func123 ⟨[.v 38],[.v 4],true⟩ (gC (Ban K) (gC (Bno K) (gC (Bnc K) (gC (A85 K) (gC (Yx K) (gC (Bwc K) (gC (Bwg K) (gC (Bwk K) (gC (Bwn K) gN))))))))) [23,24,25,31,32,33,34,38,39,40,41,78,79,80] [211] [(10,[.frzB 106 183])]
def Bii:Fw:=⟨[(1,.p 101),(8,.v 35),(9,.v 2),(10,.v 2)],[(101,.box bx6)]⟩
def Bjy:=fun(C26:CT Bii _)=>jn (Bnv K) 211 Bii [(26,ar Bii C26)] (fun a b c d e f g h i j k l m o p=>Aux K a b c d e f g h i j k l m o p C26) kN
def Bnw:=lp (Bnv K) 26 Bii [] (Ah0 K) (fun n=>kC (Bjy K _) kN)
def Bwo:=ct (Bnv K) (Awn K) (kC (Bnw K K) kN)
def Ayg (a0:List Az)(a1:Int):Option Bool:=bif a1==0 then some true else(Aeh K a0 (Ap a1 1)).bind fun r1=>bif r1 then if 0<=(Ap a1 1)/\(Ap a1 1)<a0.length then some (((gt a0 (Ap a1 1)).G4)==1)else none else some false
def Bwp:=ct (fd Tryz.func296 ⟨[.v 35,.v 3],[.v 4],true⟩ (gC (A4k K) gN) [6,7,11,12]) (Ayg K)
def Avj (a0:List Az)(a1:Int):Option Bool:=if 0<=a1/\a1<a0.length then(Aeh K a0 (Ap (gt a0 a1).fUp 1)).bind fun r1=>bif r1 then if 0<=(Ap (gt a0 a1).fUp 1)/\(Ap (gt a0 a1).fUp 1)<a0.length then bif (gt a0 (Ap (gt a0 a1).fUp 1)).G4==1 then if 0<=(Ap (gt a0 a1).fUp 1)/\(Ap (gt a0 a1).fUp 1)<a0.length then if 0<=a1/\a1<a0.length then some (((gt a0 (Ap (gt a0 a1).fUp 1)).Nb)==(gt a0 a1).G5)else none else none else some false else none else some false else none
def Bgy:=ct (fd Tryz.func219 ⟨[.v 35,.v 3],[.v 4],true⟩ (gC (A4k K) gN) [14,15,21,22,23]) (Avj K)
def Axn (a0:List Az)(a1 v8 v12:Int):Option Bool:=bif v12 != 0 then some true else(Avj K a0 a1).bind fun r18=>bif r18 then if 0<=(Ap v8 1)/\(Ap v8 1)<a0.length then some (((gt a0 (Ap v8 1)).Bz)==(A1 a1 1))else none else some true
def Axo (a0:List Az)(a1 v8 v12:Int):Option Bool:=bif v12 != 0 then if 0<=(Ap v12 1)/\(Ap v12 1)<a0.length then bif (gt a0 (Ap v12 1)).G6 != (A1 a1 1)then some false else Axn K a0 a1 v8 v12 else none else Axn K a0 a1 v8 v12
def Axp (a0:List Az)(a1 v8:Int)(v9 v11 v12:Int):Option Bool:=bif v11 != 0 then if 0<=(Ap v11 1)/\(Ap v11 1)<a0.length then bif (gt a0 (Ap v11 1)).G7 != (A1 a1 1)then some false else bif (gt a0 (Ap v11 1)).fUp != v8 then some false else bif (gt a0 (Ap v11 1)).G5 != v9 then some false else Axo K a0 a1 v8 v12 else none else Axo K a0 a1 v8 v12
def Axq (a0:List Az)(a1 v5:Int)(v6 v7:Int)(v8 v9:Int)(v10 v11 v12:Int)(v13:List Int)(v14 v15:Int)(v16:List Bn)(v17:List Int):Option Bool:=bif v10 != 0 then if 0<=(Ap v10 1)/\(Ap v10 1)<a0.length then bif (gt a0 (Ap v10 1)).G7 != 0 then some false else bif (gt a0 (Ap v10 1)).fUp != (A1 a1 1)then some false else bif (gt a0 (Ap v10 1)).G5 != v7 then some false else Axp K a0 a1 v8 v9 v11 v12 else none else Axp K a0 a1 v8 v9 v11 v12
def A2j (a0:List Az)(a1:Int):Option Bool:=if 0<=a1/\a1<a0.length then(Ayg K a0 (gt a0 a1).Bz).bind fun r1=>bif r1 then(Ayg K a0 (gt a0 a1).G6).bind fun r2=>bif r2 then(Ayg K a0 (gt a0 a1).G7).bind fun r3=>bif r3 then bif (gt a0 a1).fUp != 0 then(Aeh K a0 (Ap (gt a0 a1).fUp 1)).bind fun r4=>bif !r4 then some false else Axq K a0 a1 (gt a0 a1).G4 (gt a0 a1).C7 (gt a0 a1).Nb (gt a0 a1).fUp (gt a0 a1).G5 (gt a0 a1).Bz (gt a0 a1).G6 (gt a0 a1).G7 (gt a0 a1).Ad (gt a0 a1).No (gt a0 a1).G8 (gt a0 a1).D5 (gt a0 a1).Dh else Axq K a0 a1 (gt a0 a1).G4 (gt a0 a1).C7 (gt a0 a1).Nb (gt a0 a1).fUp (gt a0 a1).G5 (gt a0 a1).Bz (gt a0 a1).G6 (gt a0 a1).G7 (gt a0 a1).Ad (gt a0 a1).No (gt a0 a1).G8 (gt a0 a1).D5 (gt a0 a1).Dh else some false else some false else some false else none
def Beu:=fd Tryz.func218 ⟨[.v 35,.v 3],[.v 4],true⟩ (gC (A4k K) (gC (Bgy K) (gC (Bwp K) gN))) [15,16,17,21,22,23,24,28,29,30,31,34,35,55,56,61,62,63,83,84,89,90,91,100,101,115,116,119,120,121,122] [7,15,31,63]
def Bnx:=jn (Beu K) 63 Beq [] (fun a b _ _ _ f _ _ _ j _ _ _ _ _=>Axn K a b f j) kN
def Bny:=jn (Beu K) 31 Beq [] (fun a b _ _ _ f _ _ _ j _ _ _ _ _=>Axo K a b f j) (kC (Bnx K) kN)
def Bnz:=jn (Beu K) 15 Beq [] (fun a b _ _ _ f g _ i j _ _ _ _ _=>Axp K a b f g i j) (kC (Bny K) kN)
def Br1:=jn (Beu K) 7 Beq [] (Axq K) (kC (Bnz K) kN)
def Bwq:=ct (Beu K) (A2j K) (kC (Br1 K) kN)
def A09 (K:Nat)(v1:List Az)(v2 v3:Int)(C1:(List Az)->Int->Int->Option Bool):Option Bool:=C1 v1 v2 (A1 v3 1)
def Aso (a0:List Az):Nat->(List Az)->Int->Int->Option Bool
 |0,_,_,_=>none
 |n1+1,v1,v2,v3=>bif decide (v3<v2)then if 0<=v3/\v3<v1.length then bif (gt v1 v3).G4 != 1 then A09 K v1 v2 v3 (Aso a0 n1)else(A2j K a0 v3).bind fun r4=>bif !r4 then some false else(A1s K a0 v3).bind fun r5=>bif decide ((r5.length:Int)>4)then some false else if 0<=(Ap r5.length 1)/\(Ap r5.length 1)<r5.length then(Avj K a0 (gt r5 (Ap r5.length 1))).bind fun r6=>bif r6 then some false else A09 K v1 v2 v3 (Aso a0 n1)else none else none else some true
def A3d (a0:List Az):Option Bool:=Aso K a0 K a0 (a0.length:Int) 0
def Bn0:=fd Tryz.func124 ⟨[.v 35],[.v 4],true⟩ (gC (Bgs K) (gC (Bwq K) (gC (Bgy K) gN))) [25,26] [211]
def Bij:Fw:=⟨[(0,.v 35),(6,.v 35),(7,.v 2),(8,.v 2)],[]⟩
def Bjz:=fun(C26:CT Bij _)=>jn (Bn0 K) 211 Bij [(26,ar Bij C26)] (fun a b c d=>A09 K b c d (C26 a)) kN
def Bn1:=lp (Bn0 K) 26 Bij [] (fun n a=>Aso K a n) (fun n=>kC (Bjz K _) kN)
def Bwr:=ct (Bn0 K) (A3d K) (kC (Bn1 K K) kN)
def Awc (a0:List Az)(a1:Int):Option Bool:=if 0<=a1/\a1<a0.length then bif (gt a0 a1).G4==1 then if 0<=a1/\a1<a0.length then bif (gt a0 a1).fUp != 0 then(Avj K a0 a1).bind fun r1=>some (!r1)else some false else none else some false else none
def Bws:=ct (fd Tryz.func221 ⟨[.v 35,.v 3],[.v 4],true⟩ (gC (Bgy K) gN) [10,11,17,18,19]) (Awc K)
def A2k (a0:Fi)(a1:Bb):Option Bool:=(Ayf K a0).bind fun r1=>bif r1 then(K0 K a1.Be 0 a0.Cd).bind fun r2=>bif r2 then(K0 K a1.Bz 0 a0.Cd).bind fun r3=>bif r3 then bif decide ((a1.Dh.length:Int)<=6)then(Awb K a1.Dh).bind fun r4=>bif r4 then(Ax8 K a0 a1.Ad).bind fun r5=>bif r5 then(K0 K a1.H2 0 (Ap a0.Du 1)).bind fun r6=>bif r6 then bif decide ((a1.Ad.length:Int)>0)then some true else some (a1.H2==0)else some false else some false else some false else some false else some false else some false else some false
def Bwt:=ct (fd Tryz.func220 ⟨[.v 33,.v 79],[.v 4],true⟩ (gC (Bdf K) (gC (Bgx K) (gC (A4j K) (gC (Bng K) gN)))) [6,7,12,13,14,19,20,21,25,26,27,30,31,32,36,37,38,44,45,46,50,51]) (A2k K)
def Ax9 (a0:List Az):Nat->(List Int)->Int->Option (List Int)
 |0,_,_=>none
 |n1+1,v1,v2=>(Aeh K a0 v2).bind fun r3=>bif r3 then bif decide ((v1.length:Int)<a0.length)then if(v1++([v2]:List Int)).length*8<=140737488355328/\(v1++([v2]:List Int)).length<=maxLen then if 0<=v2/\v2<a0.length then Ax9 a0 n1 (v1++([v2]:List Int)) (Ap (gt a0 v2).G6 1)else none else none else some v1 else some v1
def A3e (a0:List Az)(a1:Int):Option (List Int):=Ax9 K a0 K ([]:List Int) (Ap a1 1)
def Bt9:=fd Tryz.func174 ⟨[.v 35,.v 3],[.n 25 true],true⟩ (gC (A4k K) gN) [12,13]
def B0i:Fw:=⟨[(0,.v 35),(5,.o 1005 3 true),(6,.v 2)],[]⟩
def Bn2:=lp (Bt9 K) 58 B0i [] (fun n a=>Ax9 K a n) (fun n=>kN)
def Bwu:=ct (Bt9 K) (A3e K) (kC (Bn2 K K) kN)
def Akj (v4:List Bb)(v5 v6:Int)(v7 v8:Int)(v9 v10:Int)(v11 v12:Int)(v13 v14 v15:List Int)(v16:List Az)(v17:List Bb)(v18 v27 v31:List Int)(r32:(List Int))(C1:(List Int)->(List Int)->(List Int)->(List Bb)->Int->Int->Int->Int->Int->Int->Int->Int->(List Int)->(List Int)->(List Int)->(List Az)->(List Bb)->(List Int)->Option Bool):Nat->(List Int)->Int->Int->Option Bool
 |0,_,_,_=>none
 |n6+1,v33,v34,v35=>bif decide (v35<v34)then if 0<=v35/\v35<r32.length then if 0<=(gt r32 v35)/\(gt r32 v35)<v33.length then if 0<=(gt r32 v35)/\(gt r32 v35)<v33.length then(Awc K v16 (gt r32 v35)).bind fun r36=>bif !r36 then some false else Akj v4 v5 v6 v7 v8 v9 v10 v11 v12 v13 v14 v15 v16 v17 v18 v27 v31 r32 C1 n6 (v33.set (gt r32 v35).toNat (A1 (gt v33 (gt r32 v35)) 1)) v34 (A1 v35 1)else none else none else none else C1 v27 v31 v33 v4 v5 (A1 v6 1) v7 v8 v9 v10 v11 v12 v13 v14 v15 v16 v17 v18
def Asd (v3:List Int)(v4:List Bb)(v5 v6:Int)(v7 v8:Int)(v9 v10:Int)(v11 v12:Int)(v13 v14 v15:List Int)(v16:List Az)(v17:List Bb)(v18:List Int)(v23:Int)(v27 v31:List Int)(C1:(List Int)->(List Int)->(List Int)->(List Bb)->Int->Int->Int->Int->Int->Int->Int->Int->(List Int)->(List Int)->(List Int)->(List Az)->(List Bb)->(List Int)->Option Bool):Option Bool:=(A3e K v16 v23).bind fun r32=>Akj K v4 v5 v6 v7 v8 v9 v10 v11 v12 v13 v14 v15 v16 v17 v18 v27 v31 r32 (C1) K v3 (r32.length:Int) 0
def Asf (v3:List Int)(v4:List Bb)(v5 v6:Int)(v7 v8:Int)(v9 v10:Int)(v11 v12:Int)(v13 v14 v15:List Int)(v16:List Az)(v17:List Bb)(v18:List Int)(v23:Int)(v27:List Int)(C1:(List Int)->(List Int)->(List Int)->(List Bb)->Int->Int->Int->Int->Int->Int->Int->Int->(List Int)->(List Int)->(List Int)->(List Az)->(List Bb)->(List Int)->Option Bool)(v31:List Int):Option Bool:=bif decide (v23>0)then if 0<=(Ap v23 1)/\(Ap v23 1)<v16.length then bif (gt v16 (Ap v23 1)).G7 != 0 then some false else Asd K v3 v4 v5 v6 v7 v8 v9 v10 v11 v12 v13 v14 v15 v16 v17 v18 v23 v27 v31 (C1)else none else Asd K v3 v4 v5 v6 v7 v8 v9 v10 v11 v12 v13 v14 v15 v16 v17 v18 v23 v27 v31 (C1)
def Akk (v2 v3:List Int)(v4:List Bb)(v5 v6:Int)(v7 v8:Int)(v9 v10:Int)(v11 v12:Int)(v13 v14 v15:List Int)(v16:List Az)(v17:List Bb)(v18:List Int)(v22 v23:Int)(v25:List Int)(C1:(List Int)->(List Int)->(List Int)->(List Bb)->Int->Int->Int->Int->Int->Int->Int->Int->(List Int)->(List Int)->(List Int)->(List Az)->(List Bb)->(List Int)->Option Bool):Nat->(List Int)->Int->Int->(List Int)->Option Bool
 |0,_,_,_,_=>none
 |n3+1,v27,v28,v29,v30=>bif decide (v29<v28)then if 0<=v29/\v29<v25.length then if 0<=(gt v25 v29)/\(gt v25 v29)<v27.length then if 0<=(gt v25 v29)/\(gt v25 v29)<v27.length then if 0<=(gt v25 v29)/\(gt v25 v29)<v14.length then bif (gt v14 (gt v25 v29)) != 2 then some false else Akk v2 v3 v4 v5 v6 v7 v8 v9 v10 v11 v12 v13 v14 v15 v16 v17 v18 v22 v23 v25 C1 n3 (v27.set (gt v25 v29).toNat (A1 (gt v27 (gt v25 v29)) 1)) v28 (A1 v29 1) v30 else none else none else none else none else bif decide (v22>0)then if 0<=(Ap v22 1)/\(Ap v22 1)<v2.length then if 0<=(Ap v22 1)/\(Ap v22 1)<v2.length then if 0<=(Ap v22 1)/\(Ap v22 1)<v16.length then bif (gt v16 (Ap v22 1)).G4 != 2 then some false else Asf K v3 v4 v5 v6 v7 v8 v9 v10 v11 v12 v13 v14 v15 v16 v17 v18 v23 v27 (C1) (v2.set (Ap v22 1).toNat (A1 (gt v2 (Ap v22 1)) 1))else none else none else none else Asf K v3 v4 v5 v6 v7 v8 v9 v10 v11 v12 v13 v14 v15 v16 v17 v18 v23 v27 (C1) v2
def Asi (v1 v2 v3:List Int)(v4:List Bb)(v5 v6:Int)(v7 v8:Int)(v9 v10:Int)(v11 v12:Int)(v13 v14 v15:List Int)(v16:List Az)(v17:List Bb)(v18:List Int)(C1:(List Int)->(List Int)->(List Int)->(List Bb)->Int->Int->Int->Int->Int->Int->Int->Int->(List Int)->(List Int)->(List Int)->(List Az)->(List Bb)->(List Int)->Option Bool)(v22 v23:Int)(v24 v25:List Int)(v26:Int):Option Bool:=Akk K v2 v3 v4 v5 v6 v7 v8 v9 v10 v11 v12 v13 v14 v15 v16 v17 v18 v22 v23 v25 (C1) K v1 (v25.length:Int) 0 v25
def Auy (K:Nat)(v37 v38:Int)(v39:List Int)(C7:Int->Int->(List Int)->Option Bool):Option Bool:=C7 v37 (A1 v38 1) v39
def Al9 (K:Nat)(v40 v41:Int)(v42:List Az)(C9:Int->Int->(List Az)->Option Bool):Option Bool:=C9 v40 (A1 v41 1) v42
def Wx (v2 v3:List Int)(v16:List Az):Nat->Int->Int->(List Az)->Option Bool
 |0,_,_,_=>none
 |n9+1,v40,v41,v42=>bif decide (v41<v40)then if 0<=v41/\v41<v16.length then bif (gt v16 v41).G4==2 then if 0<=v41/\v41<v2.length then bif (gt v2 v41) != 1 then some false else(Awc K v42 v41).bind fun r43=>bif r43 then if 0<=v41/\v41<v3.length then bif (gt v3 v41) != 1 then some false else Al9 K v40 v41 v42 (Wx v2 v3 v16 n9)else none else Al9 K v40 v41 v42 (Wx v2 v3 v16 n9)else none else(Awc K v42 v41).bind fun r44=>bif r44 then if 0<=v41/\v41<v3.length then bif (gt v3 v41) != 1 then some false else Al9 K v40 v41 v42 (Wx v2 v3 v16 n9)else none else Al9 K v40 v41 v42 (Wx v2 v3 v16 n9)else none else some true
def Af0 (v1 v2:List Int)(v3 v14:List Int)(v16:List Az):Nat->Int->Int->(List Int)->Option Bool
 |0,_,_,_=>none
 |n7+1,v37,v38,v39=>bif decide (v38<v37)then if 0<=v38/\v38<v14.length then bif (gt v14 v38)==2 then if 0<=v38/\v38<v1.length then bif (gt v1 v38) != 1 then some false else Auy K v37 v38 v39 (Af0 v1 v2 v3 v14 v16 n7)else none else Auy K v37 v38 v39 (Af0 v1 v2 v3 v14 v16 n7)else none else Wx K v2 v3 v16 K (v16.length:Int) 0 v16
def F2:Nat->(List Int)->(List Int)->(List Int)->(List Bb)->Int->Int->Int->Int->Int->Int->Int->Int->(List Int)->(List Int)->(List Int)->(List Az)->(List Bb)->(List Int)->Option Bool
 |0,_,_,_,_,_,_,_,_,_,_,_,_,_,_,_,_,_,_=>none
 |n1+1,v1,v2,v3,v4,v5,v6,v7,v8,v9,v10,v11,v12,v13,v14,v15,v16,v17,v18=>bif decide (v6<v5)then if 0<=v6/\v6<v4.length then(A2k K (Fi.mk v7 v8 v9 v10 v11 v12) (gt v4 v6)).bind fun r19=>bif r19 then bif decide (((gt v4 v6).Ad.length:Int)>0)then if(0:Int)<=0/\0<(((gt v4 v6).Ad).length:Int)then(Auk K (Ef.mk v13 v14 v15) (Fi.mk v7 v8 v9 v10 v11 v12) (gt (gt v4 v6).Ad 0)).bind fun r20=>if(0:Int)<=0/\0<=(gt v4 v6).H2/\(gt v4 v6).H2<=r20.length then(Au8 K ((r20.drop (0:Int).toNat).take (((gt v4 v6).H2) - 0).toNat)).bind fun r21=>bif !r21 then some false else Asi K v1 v2 v3 v4 v5 v6 v7 v8 v9 v10 v11 v12 v13 v14 v15 v16 v17 v18 (F2 n1) (gt v4 v6).Be (gt v4 v6).Bz (gt v4 v6).Dh (gt v4 v6).Ad (gt v4 v6).H2 else none else none else Asi K v1 v2 v3 v4 v5 v6 v7 v8 v9 v10 v11 v12 v13 v14 v15 v16 v17 v18 (F2 n1) (gt v4 v6).Be (gt v4 v6).Bz (gt v4 v6).Dh (gt v4 v6).Ad (gt v4 v6).H2 else some false else none else Af0 K v1 v2 v3 v14 v16 K (v14.length:Int) 0 v14
def Awo (a0:Bo):Option Bool:=if 0<=a0.fC.Ad/\a0.fC.Ad<=a0.fC.Ad/\(8:Int)*a0.fC.Ad<=281474976710656/\a0.fC.Ad<=9223372036854775807 then if 0<=a0.fC.Cd/\a0.fC.Cd<=a0.fC.Cd/\(8:Int)*a0.fC.Cd<=281474976710656/\a0.fC.Cd<=9223372036854775807 then if 0<=a0.fC.Cd/\a0.fC.Cd<=a0.fC.Cd/\(8:Int)*a0.fC.Cd<=281474976710656/\a0.fC.Cd<=9223372036854775807 then F2 K K (List.replicate a0.fC.Ad.toNat (0:Int)) (List.replicate a0.fC.Cd.toNat (0:Int)) (List.replicate a0.fC.Cd.toNat (0:Int)) a0.fQ (a0.fQ.length:Int) 0 a0.fC.Ad a0.fC.Du a0.fC.Cd a0.fC.Ez a0.fC.Ce a0.fC.Dv a0.fP.Fp a0.fP.G4 a0.fP.Fq a0.fL a0.fQ a0.Jp else none else none else none
def A6u:=fd Tryz.func125 ⟨[.v 38],[.v 4],true⟩ (gC (Ban K) (gC (Bwu K) (gC (Bgv K) (gC (Bwt K) (gC (Bws K) gN))))) [38,39,40,44,45,105,106,150,151,169,170,175,176,177,181,182] [979,2003,3737,14951,29903]
def B0j:Fw:=⟨[(1,.p 101),(3,.o 1003 3 true),(4,.o 1004 3 true),(5,.o 1005 3 true),(29,.v 36),(30,.v 2),(31,.v 2),(121,.v 25),(122,.v 2),(123,.v 2)],[(101,.box bx6)]⟩
def Bn3:Fw:=⟨[(1,.p 101),(3,.o 1003 3 true),(4,.o 1004 3 true),(5,.o 1005 3 true),(7,.p 107),(29,.v 36),(30,.v 2),(31,.v 2)],[(107,.box bx7),(101,.box bx6)]⟩
def B0k:Fw:=⟨[(1,.p 101),(3,.o 1003 3 true),(4,.o 1004 3 true),(5,.o 1005 3 true),(7,.p 107),(29,.v 36),(30,.v 2),(31,.v 2),(63,.v 25),(64,.v 2),(65,.v 2)],[(107,.box bx7),(101,.box bx6)]⟩
def Bik:Fw:=⟨[(1,.p 101),(3,.o 1003 3 true),(4,.o 1004 3 true),(5,.o 1005 3 true),(142,.v 25),(143,.v 2),(144,.v 2)],[(101,.box bx6)]⟩
def Bil:Fw:=⟨[(1,.p 101),(4,.o 1004 3 true),(5,.o 1005 3 true),(160,.v 35),(161,.v 2),(162,.v 2)],[(101,.box bx6)]⟩
def A6v:Fw:=⟨[(1,.p 101),(3,.o 1003 3 true),(4,.o 1004 3 true),(5,.o 1005 3 true),(29,.v 36),(30,.v 2),(31,.v 2)],[(101,.box bx6)]⟩
def Bdh:=fun(C58:CT A6v _)=>lp (A6u K) 239230 B0j [(58,ar A6v C58)] (fun n a b c d e f g h i j k l m o p q r s t u v=>Akj K d e f j k l m o p q r s t u v a b g C58 n c h i) (fun n=>kN)
def Bev:=fun(C58:CT A6v _)=>jn (A6u K) 29903 Bn3 [(58,ar A6v C58)] (fun a b c d e f _ h _ _ _ l m o p q r s t u v w x=>Asd K c d e f l m o p q r s t u v w x h a b C58) (kC (Bdh K _ K) kN)
def Bew:=fun(C58:CT A6v _)=>jn (A6u K) 14951 Bn3 [(58,ar A6v C58)] (fun a b c d e f _ h _ _ _ l m o p q r s t u v w x=>Asf K c d e f l m o p q r s t u v w x h a C58 b) (kC (Bev K _) kN)
def Bex:=fun(C58:CT A6v _)=>lp (A6u K) 59802 B0k [(58,ar A6v C58)] (fun n a b c d e f g h i j k _ m _ p q r s t u v w x y z a1=>Akk K b c d e f p q r s t u v w x y z a1 j k g C58 n a h i m) (fun n=>kC (up (Bew K _)) kN)
def Bgz:=fun(C58:CT A6v _)=>jn (A6u K) 3737 Bn3 [(58,ar A6v C58)] (fun a b c d e f g h i j k l m o p q r s t u v w x=>Asi K a b c d e f l m o p q r s t u v w x C58 g h i j k) (kC (Bex K _ K) kN)
def Bj0:=fun(C122:CT Bik _)=>jn (A6u K) 979 Bik [(122,ar Bik C122)] (fun a b c d e f g h i j k l m o p q r s=>Auy K e f o (fun v37 v38 v39=>C122 a b c d v37 v38 g h i j k l m v39 p q r s)) kN
def Bg0:=fun(C250:CT Bil _)=>jn (A6u K) 2003 Bil [(250,ar Bil C250)] (fun a b c d e f g h i j k l m o p q r=>Al9 K d e p (fun v40 v41 v42=>C250 a b c v40 v41 f g h i j k l m o v42 q r)) kN
def Bj1:=lp (A6u K) 250 Bil [] (fun n a b c d e _ _ _ _ _ _ _ _ _ p _ _=>Wx K a b c n d e p) (fun n=>kC (Bg0 K _) kN)
def Bj2:=lp (A6u K) 122 Bik [] (fun n a b c d e f _ _ _ _ _ _ _ o _ q _ _=>Af0 K a b c d q n e f o) (fun n=>kC (Bj0 K _) (kC (up (Bj1 K K)) kN))
def Bn4:=lp (A6u K) 58 A6v [] (F2 K) (fun n=>kC (Bgz K _) (kC (up (Bj2 K K)) kN))
def Bwv:=ct (A6u K) (Awo K) (kC (Bn4 K K) kN)
def Axr (a0:Bo):Option Bool:=(A0i K a0.fC a0.fP).bind fun r1=>bif r1 then bif (a0.fL.length:Int)==a0.fC.Cd then(Awn K a0).bind fun r2=>bif r2 then(A3d K a0.fL).bind fun r3=>bif r3 then(Awo K a0).bind fun r4=>bif r4 then(Awb K a0.Jp).bind fun r5=>some r5 else some false else some false else some false else some false else some false
def Bg1:=ct (fd Tryz.func32 ⟨[.v 38],[.v 4],true⟩ (gC (Bna K) (gC (Bwo K) (gC (Bwr K) (gC (Bwv K) (gC (Bgx K) gN))))) [7,8,15,16,17,19,20,21,24,25,26,28,29,30]) (Axr K)
def A5f (K:Nat):Option Bool:=some true
def Bww:=ct (fd Tryz.func167 ⟨[],[.v 4],true⟩ gN) (A5f K)
def A5g (K:Nat)(a0:Bb):Option Int:=bif decide ((a0.Dh.length:Int)>0)then some 1 else bif decide ((a0.Ad.length:Int)>0)then some 2 else bif a0.Bz != 0 then some 3 else some 4
def Bwx:=ct (fd Tryz.func264 ⟨[.v 79],[.v 3],true⟩ gN) (A5g K)
def Ayq (K:Nat)(v7:Bool)(v9:Ef):Option (Ef×Bool):=some (v9,v7)
def Awp (a0:Fi)(a2 a3:Int)(r1:Ef)(v7:Bool)(v8:Ef):Option (Ef×Bool):=if 0<=(K1 a2 a0.Du)/\(K1 a2 a0.Du)<(K1 (A1 a2 1) a0.Du)/\(K1 (A1 a2 1) a0.Du)<=r1.Fp.length then if 0<=a3/\a3<=(Ada (A1 a3 a0.Ce) a0.Du)/\(Ada (A1 a3 a0.Ce) a0.Du)<=(K1 (A1 a2 1) a0.Du) - (K1 a2 a0.Du)then if 0<(((K1 a2 a0.Du)+(Ada (A1 a3 a0.Ce) a0.Du)) - ((K1 a2 a0.Du)+a3)).toNat then bif v7 then if 0<=a2/\a2<r1.G4.length then Ayq K v7 (Ef.mk (r1.Fp.take ((K1 a2 a0.Du)+a3).toNat++List.replicate (((K1 a2 a0.Du)+(Ada (A1 a3 a0.Ce) a0.Du)) - ((K1 a2 a0.Du)+a3)).toNat 0++r1.Fp.drop (((K1 a2 a0.Du)+a3).toNat+(((K1 a2 a0.Du)+(Ada (A1 a3 a0.Ce) a0.Du)) - ((K1 a2 a0.Du)+a3)).toNat)) (r1.G4.set a2.toNat 0) r1.Fq)else none else Ayq K v7 (Ef.mk (r1.Fp.take ((K1 a2 a0.Du)+a3).toNat++List.replicate (((K1 a2 a0.Du)+(Ada (A1 a3 a0.Ce) a0.Du)) - ((K1 a2 a0.Du)+a3)).toNat 0++r1.Fp.drop (((K1 a2 a0.Du)+a3).toNat+(((K1 a2 a0.Du)+(Ada (A1 a3 a0.Ce) a0.Du)) - ((K1 a2 a0.Du)+a3)).toNat)) r1.G4 r1.Fq)else none else none else none
def A1a (a0:Fi)(a1:Ef)(a2 a3:Int):Option (Ef×Bool):=(Awa K a1).bind fun r1=>(A0i K a0 a1).bind fun r2=>bif r2 then(K0 K a2 0 (Ap a0.Ad 1)).bind fun r3=>bif r3 then if 0<=a2/\a2<a1.G4.length then bif (gt a1.G4 a2) != 2 then some (r1,false)else(K0 K a3 0 (Ap a0.Du 1)).bind fun r4=>bif !r4 then some (r1,false)else bif decide ((A1 a3 a0.Ce)>=a0.Du)then(Auk K a1 a0 a2).bind fun r5=>if(0:Int)<=0/\0<=a3/\a3<=r5.length then(Au8 K ((r5.drop (0:Int).toNat).take (a3 - 0).toNat)).bind fun r6=>bif !r6 then some (r1,false)else Awp K a0 a2 a3 r1 (decide ((A1 a3 a0.Ce)>=a0.Du)) (Ef.mk [] [] [])else none else Awp K a0 a2 a3 r1 (decide ((A1 a3 a0.Ce)>=a0.Du)) (Ef.mk [] [] [])else none else some (r1,false)else some (r1,false)
def Bn5:=fk Tryz.func265 ⟨[.v 33,.v 34,.v 3,.v 3],[.n 34 true,.v 4],true⟩ (gC (Ban K) (gC (Bna K) (gC (A4j K) (gC (Bgv K) (gC (Bgt K) gN))))) oN (Aqm (d:=65) (q:=Aqr tyU tab 209) (Ar8 Avb Asc) (Aqm (d:=74) (q:=Aqs tyU tab) (Ar7) Ar3)) [16,17,18,23,24,25,26,32,33,34,50,51] [31,127] [(7,[.take 110 0 6760,.take 110 1 6761,.take 110 2 6762]),(10,[.take 110 0 6760,.take 110 1 6761,.take 110 2 6762])]
def B0l:Fw:=⟨[(8,.p 108),(10,.p 110),(11,.v 4)],[(110,.st 34 true),(108,.st 34 true)]⟩
def B0m:Fw:=⟨[(2,.v 2),(3,.v 2),(4,.p 104),(8,.p 108),(10,.p 110),(11,.v 4)],[(110,.st 34 true),(108,.st 34 true),(104,.st 33 true)]⟩
def Bj3:=jn (Bn5 K) 127 B0l [] (fun a b _=>Ayq K a b) kN
def Bn6:=jn (Bn5 K) 31 B0m [] (fun a b c d e f=>Awp K f a b d c e) (kC (Bj3 K) kN)
def Bwy:=ct (Bn5 K) (A1a K) (kC (Bn6 K) kN)
def Azb (K:Nat)(v3 v4:Ef):Option Ef:=some v3
def A4c (a0:Ef)(a1:Int):Option Ef:=(Awa K a0).bind fun r1=>(K0 K a1 0 (Ap (Ada (a0.G4.length:Int) (a0.Fq.length:Int)) 1)).bind fun r2=>bif r2 then if 0<=a1/\a1<a0.G4.length then bif (gt a0.G4 a1)==1 then if 0<=a1/\a1<r1.G4.length then if 0<=a1/\a1<r1.Fq.length then Azb K (Ef.mk r1.Fp (r1.G4.set a1.toNat 2) (r1.Fq.set a1.toNat (-1))) (Ef.mk [] [] [])else none else none else Azb K r1 (Ef.mk [] [] [])else none else Azb K r1 (Ef.mk [] [] [])
def Bua:=fd Tryz.func285 ⟨[.v 34,.v 3],[.n 34 true],true⟩ (gC (A4j K) (gC (Bgt K) gN)) [17,18] [7] [(4,[.take 105 0 6680,.take 105 1 6681,.take 105 2 6682])]
def Br2:=jn (Bua K) 7 By2 [] (Azb K) kN
def Bwz:=ct (Bua K) (A4c K) (kC (Br2 K) kN)
def Amu:Nat->(List Int)->Int->Int->Int->Int->Int->Int->Int->Int->(List Int)->(List Int)->(List Int)->(List Az)->(List Bb)->(List Int)->Option Bo
 |0,_,_,_,_,_,_,_,_,_,_,_,_,_,_,_=>none
 |n1+1,v1,v2,v3,v4,v5,v6,v7,v8,v9,v10,v11,v12,v13,v14,v15=>bif decide (v3<v2)then if 0<=v3/\v3<v1.length then(A4c K (Ef.mk v10 v11 v12) (gt v1 v3)).bind fun r16=>Amu n1 v1 v2 (A1 v3 1) v4 v5 v6 v7 v8 v9 r16.Fp r16.G4 r16.Fq v13 v14 v15 else none else some (Bo.mk (Fi.mk v4 v5 v6 v7 v8 v9) (Ef.mk v10 v11 v12) v13 v14 v15)
def Avw (a0:Bo)(a1:Int):Option Bo:=if 0<=a1/\a1<a0.fL.length then Amu K K (gt a0.fL a1).Ad (((gt a0.fL a1).Ad).length:Int) 0 a0.fC.Ad a0.fC.Du a0.fC.Cd a0.fC.Ez a0.fC.Ce a0.fC.Dv a0.fP.Fp a0.fP.G4 a0.fP.Fq a0.fL a0.fQ a0.Jp else none
def Bub:=fd Tryz.func204 ⟨[.b 10038 false,.v 3],[],false⟩ (gC (Bwz K) gN) [] [] [(0,[.take 1 9 5025]),(3,[.take 1 6 5022,.take 1 7 5023,.take 1 8 5024])]
def B0n:Fw:=⟨[(0,.p 1),(13,.v 25),(14,.v 2),(15,.v 2)],[(1,.box bx0)]⟩
def Br3:=lp (Bub K) 6 B0n [] (Amu K) (fun n=>kN)
def Bn7:=ct (Bub K) (Avw K) (kC (Br3 K K) kN)
def A3i (K:Nat)(a0:Az):Option Az:=some (Az.mk 2 a0.C7 0 0 0 0 0 0 [] 0 0 [] [])
def Bn8:=ct (fd Tryz.func206 ⟨[.v 77],[.n 77 false],true⟩ gN) (A3i K)
def Azc (a0:Az)(a1:Int):Option Bb:=(Acm K a0.Dh).bind fun r1=>(Acm K a0.Ad).bind fun r2=>some (Bb.mk a1 a0.Bz r1 r2 0)
def Bn9:=ct (fd Tryz.func203 ⟨[.v 77,.v 3],[.n 79 true],true⟩ (gC (A85 K) gN)) (Azc K)
def Azd (K:Nat)(v3:List Az):Option (List Az):=some v3
def A4d (a0:List Az)(a1 a2:Int):Option (List Az):=(Avi K a0).bind fun r1=>(Aeh K a0 a1).bind fun r2=>bif !r2 then Azd K r1 else if 0<=a1/\a1<a0.length then bif decide (((gt a0 a1).C7)>=a2)then if 0<=a1/\a1<r1.length then if 0<=a1/\a1<a0.length then if 0<=a1/\a1<r1.length then Azd K (r1.set a1.toNat (Az.mk 3 (gt a0 a1).C7 0 0 0 0 0 0 [] 0 0 [] []))else none else none else none else if 0<=a1/\a1<r1.length then if 0<=a1/\a1<a0.length then if 0<=a1/\a1<r1.length then Azd K (r1.set a1.toNat (Az.mk 0 (A1 (gt a0 a1).C7 1) 0 0 0 0 0 0 [] 0 0 [] []))else none else none else none else none
def Buc:=fd Tryz.func268 ⟨[.v 35,.v 3,.v 3],[.n 35 true],false⟩ (gC (A4k K) (gC (Bgu K) gN)) [] [7] [(2,[.opn 1007 (.tmp 1)]),(5,[.opn 1007 (.tmp 1)])]
def Br4:=jn (Buc K) 7 Buy [] (Azd K) kN
def Bw0:=ct (Buc K) (A4d K) (kC (Br4 K) kN)
def Auu (v6 v7:Int)(v8 v9:Int)(v10 v11 v12:Int)(v13 v14 v15:List Int)(v16:List Az)(v17:List Bb)(v18:List Int)(v19 v20:Int)(v21 v22:Int)(v23 v24:Int)(v25 v26:Int)(v27:List Int)(v28 v29:Int)(v30:List Bn)(v31:List Int):Option Bo:=(A3i K (Az.mk v19 v20 v21 v22 v23 v24 v25 v26 v27 v28 v29 v30 v31)).bind fun r32=>if 0<=v6/\v6<v16.length then(Azc K (Az.mk v19 v20 v21 v22 v23 v24 v25 v26 v27 v28 v29 v30 v31) (A1 v6 1)).bind fun r33=>if(v17.length+1)*72<=140737488355328/\v17.length+1<=maxLen then some (Bo.mk (Fi.mk v7 v8 v9 v10 v11 v12) (Ef.mk v13 v14 v15) (v16.set v6.toNat r32) (((default:Bb)::v17).set (0:Int).toNat r33) v18)else none else none
def Ayr (a0:Bo):Option Bo:=if(0:Int)<=0/\0<(a0.fQ.length:Int)then(A5g K (gt a0.fQ 0)).bind fun r1=>bif r1==1 then if 0<=(Ap (((gt a0.fQ 0).Dh).length:Int) 1)/\(Ap (((gt a0.fQ 0).Dh).length:Int) 1)<(((gt a0.fQ 0).Dh).length:Int)then if(a0.Jp++([(gt (gt a0.fQ 0).Dh (Ap (((gt a0.fQ 0).Dh).length:Int) 1))]:List Int)).length*8<=140737488355328/\(a0.Jp++([(gt (gt a0.fQ 0).Dh (Ap (((gt a0.fQ 0).Dh).length:Int) 1))]:List Int)).length<=maxLen then if(0:Int)<=0/\0<=(Ap (((gt a0.fQ 0).Dh).length:Int) 1)/\(Ap (((gt a0.fQ 0).Dh).length:Int) 1)<=(((gt a0.fQ 0).Dh).length:Int)then some (Bo.mk a0.fC a0.fP a0.fL (a0.fQ.set (0:Int).toNat (Bb.mk (gt a0.fQ 0).Be (gt a0.fQ 0).Bz (((gt a0.fQ 0).Dh).take (Ap (((gt a0.fQ 0).Dh).length:Int) 1).toNat) (gt a0.fQ 0).Ad (gt a0.fQ 0).H2)) (a0.Jp++([(gt (gt a0.fQ 0).Dh (Ap (((gt a0.fQ 0).Dh).length:Int) 1))]:List Int)))else none else none else none else bif r1==2 then if(0:Int)<=0/\0<(((gt a0.fQ 0).Ad).length:Int)then(A1a K a0.fC a0.fP (gt (gt a0.fQ 0).Ad 0) (gt a0.fQ 0).H2).bind fun r2=>bif r2.2 then if 0<(gt a0.fQ 0).Ad.length then some (Bo.mk a0.fC r2.1 a0.fL (a0.fQ.set (0:Int).toNat (Bb.mk (gt a0.fQ 0).Be (gt a0.fQ 0).Bz (gt a0.fQ 0).Dh (((gt a0.fQ 0).Ad).drop 1) 0)) a0.Jp)else none else some (Bo.mk a0.fC r2.1 a0.fL (a0.fQ.set (0:Int).toNat (Bb.mk (gt a0.fQ 0).Be (gt a0.fQ 0).Bz (gt a0.fQ 0).Dh (gt a0.fQ 0).Ad (A1 (gt a0.fQ 0).H2 a0.fC.Ce))) a0.Jp)else none else bif r1==3 then if 0<=(Ap (gt a0.fQ 0).Bz 1)/\(Ap (gt a0.fQ 0).Bz 1)<a0.fL.length then(Avw K (Bo.mk a0.fC a0.fP a0.fL (a0.fQ.set (0:Int).toNat (Bb.mk (gt a0.fQ 0).Be (gt a0.fL (Ap (gt a0.fQ 0).Bz 1)).G6 (gt a0.fQ 0).Dh (gt a0.fQ 0).Ad (gt a0.fQ 0).H2)) a0.Jp) (Ap (gt a0.fQ 0).Bz 1)).bind fun r3=>(Aeh K r3.fL (Ap (gt a0.fL (Ap (gt a0.fQ 0).Bz 1)).G6 1)).bind fun r4=>bif r4 then if 0<=(Ap (gt a0.fL (Ap (gt a0.fQ 0).Bz 1)).G6 1)/\(Ap (gt a0.fL (Ap (gt a0.fQ 0).Bz 1)).G6 1)<r3.fL.length then Au7 (r3.fL.set (Ap (gt a0.fL (Ap (gt a0.fQ 0).Bz 1)).G6 1).toNat (Az.mk (gt r3.fL (Ap (gt a0.fL (Ap (gt a0.fQ 0).Bz 1)).G6 1)).G4 (gt r3.fL (Ap (gt a0.fL (Ap (gt a0.fQ 0).Bz 1)).G6 1)).C7 (gt r3.fL (Ap (gt a0.fL (Ap (gt a0.fQ 0).Bz 1)).G6 1)).Nb (gt r3.fL (Ap (gt a0.fL (Ap (gt a0.fQ 0).Bz 1)).G6 1)).fUp (gt r3.fL (Ap (gt a0.fL (Ap (gt a0.fQ 0).Bz 1)).G6 1)).G5 (gt r3.fL (Ap (gt a0.fL (Ap (gt a0.fQ 0).Bz 1)).G6 1)).Bz (gt r3.fL (Ap (gt a0.fL (Ap (gt a0.fQ 0).Bz 1)).G6 1)).G6 0 (gt r3.fL (Ap (gt a0.fL (Ap (gt a0.fQ 0).Bz 1)).G6 1)).Ad (gt r3.fL (Ap (gt a0.fL (Ap (gt a0.fQ 0).Bz 1)).G6 1)).No (gt r3.fL (Ap (gt a0.fL (Ap (gt a0.fQ 0).Bz 1)).G6 1)).G8 (gt r3.fL (Ap (gt a0.fL (Ap (gt a0.fQ 0).Bz 1)).G6 1)).D5 (gt r3.fL (Ap (gt a0.fL (Ap (gt a0.fQ 0).Bz 1)).G6 1)).Dh)) fun v5=>Auu K (Ap (gt a0.fQ 0).Bz 1) r3.fC.Ad r3.fC.Du r3.fC.Cd r3.fC.Ez r3.fC.Ce r3.fC.Dv r3.fP.Fp r3.fP.G4 r3.fP.Fq v5 r3.fQ r3.Jp (gt a0.fL (Ap (gt a0.fQ 0).Bz 1)).G4 (gt a0.fL (Ap (gt a0.fQ 0).Bz 1)).C7 (gt a0.fL (Ap (gt a0.fQ 0).Bz 1)).Nb (gt a0.fL (Ap (gt a0.fQ 0).Bz 1)).fUp (gt a0.fL (Ap (gt a0.fQ 0).Bz 1)).G5 (gt a0.fL (Ap (gt a0.fQ 0).Bz 1)).Bz (gt a0.fL (Ap (gt a0.fQ 0).Bz 1)).G6 (gt a0.fL (Ap (gt a0.fQ 0).Bz 1)).G7 (gt a0.fL (Ap (gt a0.fQ 0).Bz 1)).Ad (gt a0.fL (Ap (gt a0.fQ 0).Bz 1)).No (gt a0.fL (Ap (gt a0.fQ 0).Bz 1)).G8 (gt a0.fL (Ap (gt a0.fQ 0).Bz 1)).D5 (gt a0.fL (Ap (gt a0.fQ 0).Bz 1)).Dh else none else Auu K (Ap (gt a0.fQ 0).Bz 1) r3.fC.Ad r3.fC.Du r3.fC.Cd r3.fC.Ez r3.fC.Ce r3.fC.Dv r3.fP.Fp r3.fP.G4 r3.fP.Fq r3.fL r3.fQ r3.Jp (gt a0.fL (Ap (gt a0.fQ 0).Bz 1)).G4 (gt a0.fL (Ap (gt a0.fQ 0).Bz 1)).C7 (gt a0.fL (Ap (gt a0.fQ 0).Bz 1)).Nb (gt a0.fL (Ap (gt a0.fQ 0).Bz 1)).fUp (gt a0.fL (Ap (gt a0.fQ 0).Bz 1)).G5 (gt a0.fL (Ap (gt a0.fQ 0).Bz 1)).Bz (gt a0.fL (Ap (gt a0.fQ 0).Bz 1)).G6 (gt a0.fL (Ap (gt a0.fQ 0).Bz 1)).G7 (gt a0.fL (Ap (gt a0.fQ 0).Bz 1)).Ad (gt a0.fL (Ap (gt a0.fQ 0).Bz 1)).No (gt a0.fL (Ap (gt a0.fQ 0).Bz 1)).G8 (gt a0.fL (Ap (gt a0.fQ 0).Bz 1)).D5 (gt a0.fL (Ap (gt a0.fQ 0).Bz 1)).Dh else none else bif decide (((gt a0.fQ 0).Be)>0)then(A4d K a0.fL (Ap (gt a0.fQ 0).Be 1) a0.fC.Dv).bind fun r34=>if 0<(a0.fQ.set (0:Int).toNat (gt a0.fQ 0)).length then some (Bo.mk a0.fC a0.fP r34 ((a0.fQ.set (0:Int).toNat (gt a0.fQ 0)).drop 1) a0.Jp)else none else if 0<a0.fQ.length then some (Bo.mk a0.fC a0.fP a0.fL (a0.fQ.drop 1) a0.Jp)else none else none
def Bud:=fk Tryz.func171 ⟨[.b 10038 false],[],false⟩ (gC (A4k K) (gC (Bn9 K) (gC (Bn7 K) (gC (Bn8 K) (gC (Bwx K) (gC (Bwy K) (gC (Bw0 K) gN))))))) oN (Aqm (d:=45) (q:=Aqo tyU tab 269 5) (Ar4 Avb Asa) (Aqm (d:=128) (q:=Aqo tyU tab 266 1) (Ar4 Avb Ar9) (Aqm (d:=189) (q:=Aqt tyU tab) (Ar6 Avb) (Aqm (d:=190) (q:=Aqp tyU tab 267 5 72) (Ar5 Avb Asb) Ar3)))) [] [15343] [(0,[.take 1 10 5026]),(1,[.opp 5026 2,.takeE 5026 2 41666,.takeE 5026 3 41667]),(3,[.take 1 9 5025,.frz 5025]),(4,[.put 5026]),(7,[.take 1 11 5027]),(10,[.take 1 6 5022,.take 1 7 5023,.take 1 8 5024]),(17,[.take 1 9 5025]),(19,[.put 1]),(20,[.take 1 9 5025]),(22,[.take 1 9 5025]),(23,[.take 1 10 5026])] [(78,[.cut 78])]
def B0o:Fw:=⟨[(0,.p 1),(6,.v 2),(7,.p 107)],[(1,.box bx0),(107,.box bx4)]⟩
def Bey:=jn (Bud K) 15343 B0o [] (Auu K) kN
def Bw1:=ct (Bud K) (Ayr K) (kC (Bey K) kN)
def Ah1 (a1:Int):Nat->Int->Int->Int->Int->Int->Int->Int->(List Int)->(List Int)->(List Int)->(List Az)->(List Bb)->(List Int)->Option (Int×Bo)
 |0,_,_,_,_,_,_,_,_,_,_,_,_,_=>none
 |n1+1,v1,v2,v3,v4,v5,v6,v7,v8,v9,v10,v11,v12,v13=>bif decide (v1<a1)then bif decide ((v12.length:Int)>0)then(A5f K).bind fun r14=>bif r14 then(Ayr K (Bo.mk (Fi.mk v2 v3 v4 v5 v6 v7) (Ef.mk v8 v9 v10) v11 v12 v13)).bind fun r15=>Ah1 a1 n1 (A1 v1 1) r15.fC.Ad r15.fC.Du r15.fC.Cd r15.fC.Ez r15.fC.Ce r15.fC.Dv r15.fP.Fp r15.fP.G4 r15.fP.Fq r15.fL r15.fQ r15.Jp else some (v1,(Bo.mk (Fi.mk v2 v3 v4 v5 v6 v7) (Ef.mk v8 v9 v10) v11 v12 v13))else some (v1,(Bo.mk (Fi.mk v2 v3 v4 v5 v6 v7) (Ef.mk v8 v9 v10) v11 v12 v13))else some (v1,(Bo.mk (Fi.mk v2 v3 v4 v5 v6 v7) (Ef.mk v8 v9 v10) v11 v12 v13))
def At3 (a0:Bo)(a1:Int):Option (Int×Bo):=Ah1 K a1 K 0 a0.fC.Ad a0.fC.Du a0.fC.Cd a0.fC.Ez a0.fC.Ce a0.fC.Dv a0.fP.Fp a0.fP.G4 a0.fP.Fq a0.fL a0.fQ a0.Jp
def Bue:=fd Tryz.func161 ⟨[.b 10038 false,.v 3,.f 167 [] []],[.v 3],false⟩ (gC (Bww K) (gC (Bw1 K) gN)) [10,11,17,18,19] [] [(2,[.take 1 10 5026]),(3,[.put 1])]
def B0p:Fw:=⟨[(0,.p 1),(1,.v 2),(2,.f 167 [] []),(7,.v 2)],[(1,.box bx0)]⟩
def Boa:=lp (Bue K) 28 B0p [] (fun n a=>Ah1 K a n) (fun n=>kN)
def Bw2:=ct (Bue K) (At3 K) (kC (Boa K K) kN)
def Az0 (a0:Bo)(a1:Int):Option (Bo×Int):=(At2 K a0).bind fun r1=>(Axr K a0).bind fun r2=>bif r2 then(K0 K a1 0 4000).bind fun r3=>bif !r3 then some (r1,0)else(At3 K r1 a1).bind fun r4=>some (r4.2,r4.1)else some (r1,0)
def Bw3:=ct (fd Tryz.func57 ⟨[.v 38,.v 3],[.v 38,.v 3],false⟩ (gC (Bg1 K) (gC (A4j K) (gC (Bde K) (gC (Bw2 K) gN)))) [11,12,13] [] [(4,[.put 106,.take 106 9 6705,.shal 6705,.put 106]),(5,[.take 106 6 6702,.take 106 7 6703,.take 106 8 6704,.take 106 9 6705,.take 106 10 6706,.take 106 11 6707])]) (Az0 K)
def A1b (a0:Bo):Option Bo:=(Az0 K a0 4000).bind fun r1=>some r1.1
def Bw4:=ct (fd Tryz.func27 ⟨[.v 38],[.v 38],false⟩ (gC (Bw3 K) gN)) (A1b K)
def Aul (r1:(List Int)):Nat->Int->Int->Int->Int->Int->Int->Int->Int->Int->(List Int)->(List Int)->(List Int)->(List Az)->(List Bb)->(List Int)->Option Int
 |0,_,_,_,_,_,_,_,_,_,_,_,_,_,_,_=>none
 |n1+1,v2,v3,v4,v5,v6,v7,v8,v9,v10,v11,v12,v13,v14,v15,v16=>bif decide (v4<v3)then if 0<=v4/\v4<r1.length then(Aza K (Ef.mk v11 v12 v13) (gt r1 v4)).bind fun r17=>Aul r1 n1 (A1 v2 r17.length) v3 (A1 v4 1) v5 v6 v7 v8 v9 v10 v11 v12 v13 v14 v15 v16 else none else some v2
def A1c (a0:Bo):Option Int:=(Ay9 K a0).bind fun r1=>Aul K r1 K 0 (r1.length:Int) 0 a0.fC.Ad a0.fC.Du a0.fC.Cd a0.fC.Ez a0.fC.Ce a0.fC.Dv a0.fP.Fp a0.fP.G4 a0.fP.Fq a0.fL a0.fQ a0.Jp
def Buf:=fd Tryz.func28 ⟨[.v 38],[.v 3],true⟩ (gC (Bm3 K) (gC (Bno K) gN))
def B0q:Fw:=⟨[(1,.p 101),(3,.v 2),(7,.v 25),(8,.v 2),(9,.v 2)],[(101,.box bx6)]⟩
def Bob:=lp (Buf K) 58 B0q [] (fun n a b=>Aul K b n a) (fun n=>kN)
def Bw5:=ct (Buf K) (A1c K) (kC (Bob K K) kN)
def Az1 (K:Nat)(v2:List Int)(v3 v4:Int)(C1:Int->(List Int)->Int->Int->Option Int)(v5:Int):Option Int:=C1 v5 v2 v3 (A1 v4 1)
def At4 (a1:Int):Nat->Int->(List Int)->Int->Int->Option Int
 |0,_,_,_,_=>none
 |n1+1,v1,v2,v3,v4=>bif decide (v4<v3)then if 0<=v4/\v4<v2.length then bif (gt v2 v4)==a1 then Az1 K v2 v3 v4 (At4 a1 n1) (A1 v1 1)else Az1 K v2 v3 v4 (At4 a1 n1) v1 else none else some v1
def A2l (a0:Ef)(a1:Int):Option Int:=At4 K a1 K 0 a0.G4 (a0.G4.length:Int) 0
def Boc:=fd Tryz.func29 ⟨[.v 34,.v 3],[.v 3],true⟩ gN [] [467]
def Bim:Fw:=⟨[(1,.v 2),(5,.v 2),(9,.v 25),(10,.v 2),(11,.v 2)],[]⟩
def Bj4:=fun(C58:CT Bim _)=>jn Boc 467 Bim [(58,ar Bim C58)] (fun a b c d e=>Az1 K c d e (C58 a) b) kN
def Bod:=lp Boc 58 Bim [] (fun n a=>At4 K a n) (fun n=>kC (Bj4 K _) kN)
def Bw6:=ct Boc (A2l K) (kC (Bod K K) kN)
def Awy (K:Nat)(v2 v3:Int)(C1:Int->Int->Int->Option Int)(v4:Int):Option Int:=C1 v4 v2 (A1 v3 1)
def Ao4 (a0:List Az)(a1:Int):Nat->Int->Int->Int->Option Int
 |0,_,_,_=>none
 |n1+1,v1,v2,v3=>bif decide (v3<v2)then if 0<=v3/\v3<a0.length then bif (gt a0 v3).G4==a1 then Awy K v2 v3 (Ao4 a0 a1 n1) (A1 v1 1)else Awy K v2 v3 (Ao4 a0 a1 n1) v1 else none else some v1
def Awq (a0:List Az)(a1:Int):Option Int:=Ao4 K a0 a1 K 0 (a0.length:Int) 0
def Boe:=fd Tryz.func31 ⟨[.v 35,.v 3],[.v 3],true⟩ gN [] [467]
def Bin:Fw:=⟨[(1,.v 2),(5,.v 2),(8,.v 35),(9,.v 2),(10,.v 2)],[]⟩
def Bj5:=fun(C58:CT Bin _)=>jn Boe 467 Bin [(58,ar Bin C58)] (fun a b c d e=>Awy K d e (fun v1=>C58 a v1 c) b) kN
def Bof:=lp Boe 58 Bin [] (fun n a b c=>Ao4 K c a n b) (fun n=>kC (Bj5 K _) kN)
def Bw7:=ct Boe (Awq K) (kC (Bof K K) kN)
def A1d (a0:List Az)(a1:Int):Option Ch:=(Aeh K a0 a1).bind fun r1=>bif !r1 then some (Ch.mk 0 0)else if 0<=a1/\a1<a0.length then some (Ch.mk a1 (gt a0 a1).C7)else none
def Bw8:=ct (fd Tryz.func26 ⟨[.v 35,.v 3],[.v 40],true⟩ (gC (A4k K) gN)) (A1d K)
def A6w (a0:Bo)(a1:Int):Option (Bo×F8):=(At2 K a0).bind fun r1=>some (r1,(F8.mk a1 (Ch.mk 0 0) (Fb.mk (Ch.mk 0 0) 0 0) [] 0 0 0))
def Bw9:=ct (fd Tryz.func92 ⟨[.v 38,.v 3],[.n 38 true,.n 44 true],false⟩ (gC (Bde K) gN)) (A6w K)
def Aze (a0:List Az)(a1:Ch):Option Int:=(Aeh K a0 a1.Be).bind fun r1=>bif r1 then if 0<=a1.Be/\a1.Be<a0.length then bif (gt a0 a1.Be).G4 != 1 then some (-1)else if 0<=a1.Be/\a1.Be<a0.length then bif (gt a0 a1.Be).C7 != a1.C7 then some (-1)else some a1.Be else none else none else some (-1)
def Bog:=ct (fd Tryz.func254 ⟨[.v 35,.v 40],[.v 3],true⟩ (gC (A4k K) gN) [8,9,10,17,18,19]) (Aze K)
def A5h (a0:List Az)(a1:Int):Option Int:=(A1s K a0 a1).bind fun r1=>some (r1.length:Int)
def Bxa:=ct (fd Tryz.func169 ⟨[.v 35,.v 3],[.v 3],true⟩ (gC (Bgs K) gN)) (A5h K)
def A3f (a0:Bo)(a1:Ch):Option Int:=(Aze K a0.fL a1).bind fun r1=>(A5h K a0.fL r1).bind fun r2=>some r2
def Bxb:=ct (fd Tryz.func159 ⟨[.v 38,.v 40],[.v 3],true⟩ (gC (Bxa K) (gC (Bog K) gN))) (A3f K)
def A1e (K:Nat)(a0:Ch):Option Bool:=bif decide (a0.Be>=0)then some (decide (a0.C7>=1))else some false
def Bxc:=ct (fd Tryz.func263 ⟨[.v 40],[.v 4],true⟩ gN [5,6]) (A1e K)
def A1f (a0:Bo)(a1:Ch):Option (Int×Int):=(A1e K a1).bind fun r1=>bif !r1 then some ((-1),1)else(Aze K a0.fL a1).bind fun r2=>bif decide (r2<0)then some ((-1),2)else(A2f K a0.fL r2).bind fun r3=>bif !r3 then some ((-1),2)else some (r2,0)
def Bxd:=ct (fd Tryz.func168 ⟨[.v 38,.v 40],[.v 3,.v 3],true⟩ (gC (Bm0 K) (gC (Bog K) (gC (Bxc K) gN))) [15,16]) (A1f K)
def A1g (K:Nat)(a1:Int)(v9:List Az):Option (List Az):=if 0<=a1/\a1<v9.length then Au7 (v9.set a1.toNat (Az.mk (gt v9 a1).G4 (gt v9 a1).C7 (gt v9 a1).Nb 0 (gt v9 a1).G5 (gt v9 a1).Bz (gt v9 a1).G6 (gt v9 a1).G7 (gt v9 a1).Ad (gt v9 a1).No (gt v9 a1).G8 (gt v9 a1).D5 (gt v9 a1).Dh)) fun v10=>if 0<=a1/\a1<v10.length then Au7 (v10.set a1.toNat (Az.mk (gt v10 a1).G4 (gt v10 a1).C7 (gt v10 a1).Nb (gt v10 a1).fUp 0 (gt v10 a1).Bz (gt v10 a1).G6 (gt v10 a1).G7 (gt v10 a1).Ad (gt v10 a1).No (gt v10 a1).G8 (gt v10 a1).D5 (gt v10 a1).Dh)) fun v11=>if 0<=a1/\a1<v11.length then Au7 (v11.set a1.toNat (Az.mk (gt v11 a1).G4 (gt v11 a1).C7 (gt v11 a1).Nb (gt v11 a1).fUp (gt v11 a1).G5 (gt v11 a1).Bz 0 (gt v11 a1).G7 (gt v11 a1).Ad (gt v11 a1).No (gt v11 a1).G8 (gt v11 a1).D5 (gt v11 a1).Dh)) fun v12=>if 0<=a1/\a1<v12.length then Au7 (v12.set a1.toNat (Az.mk (gt v12 a1).G4 (gt v12 a1).C7 (gt v12 a1).Nb (gt v12 a1).fUp (gt v12 a1).G5 (gt v12 a1).Bz (gt v12 a1).G6 0 (gt v12 a1).Ad (gt v12 a1).No (gt v12 a1).G8 (gt v12 a1).D5 (gt v12 a1).Dh)) fun v13=>some v13 else none else none else none else none
def Awd (a0:List Az)(a1:Int)(v5:List Az)(v6:Int):Option (List Az):=(Aeh K a0 v6).bind fun r7=>bif r7 then if 0<=a1/\a1<v5.length then if 0<=v6/\v6<v5.length then Au7 (v5.set v6.toNat (Az.mk (gt v5 v6).G4 (gt v5 v6).C7 (gt v5 v6).Nb (gt v5 v6).fUp (gt v5 v6).G5 (gt v5 v6).Bz (gt v5 v6).G6 (gt v5 a1).G7 (gt v5 v6).Ad (gt v5 v6).No (gt v5 v6).G8 (gt v5 v6).D5 (gt v5 v6).Dh)) fun v8=>A1g K a1 v8 else none else none else A1g K a1 v5
def Aut (a0:List Az)(a1:Int)(r1:(List Az))(v15 v16:Int)(v17:Bool):Option (List Az):=bif v17 then if 0<=a1/\a1<r1.length then if 0<=v16/\v16<r1.length then Au7 (r1.set v16.toNat (Az.mk (gt r1 v16).G4 (gt r1 v16).C7 (gt r1 v16).Nb (gt r1 v16).fUp (gt r1 v16).G5 (gt r1 a1).G6 (gt r1 v16).G6 (gt r1 v16).G7 (gt r1 v16).Ad (gt r1 v16).No (gt r1 v16).G8 (gt r1 v16).D5 (gt r1 v16).Dh)) fun v18=>Awd K a0 a1 v18 v15 else none else none else Awd K a0 a1 r1 v15
def A3g (a0:List Az)(a1:Int):Option (List Az):=(Avi K a0).bind fun r1=>(Aeh K a0 a1).bind fun r2=>bif !r2 then some r1 else if 0<=a1/\a1<r1.length then if 0<=a1/\a1<r1.length then if 0<=a1/\a1<r1.length then(Aeh K a0 (Ap (gt r1 a1).G7 1)).bind fun r3=>bif r3 then if 0<=a1/\a1<r1.length then if 0<=(Ap (gt r1 a1).G7 1)/\(Ap (gt r1 a1).G7 1)<r1.length then Au7 (r1.set (Ap (gt r1 a1).G7 1).toNat (Az.mk (gt r1 (Ap (gt r1 a1).G7 1)).G4 (gt r1 (Ap (gt r1 a1).G7 1)).C7 (gt r1 (Ap (gt r1 a1).G7 1)).Nb (gt r1 (Ap (gt r1 a1).G7 1)).fUp (gt r1 (Ap (gt r1 a1).G7 1)).G5 (gt r1 (Ap (gt r1 a1).G7 1)).Bz (gt r1 a1).G6 (gt r1 (Ap (gt r1 a1).G7 1)).G7 (gt r1 (Ap (gt r1 a1).G7 1)).Ad (gt r1 (Ap (gt r1 a1).G7 1)).No (gt r1 (Ap (gt r1 a1).G7 1)).G8 (gt r1 (Ap (gt r1 a1).G7 1)).D5 (gt r1 (Ap (gt r1 a1).G7 1)).Dh)) fun v4=>Awd K a0 a1 v4 (Ap (gt r1 a1).G6 1)else none else none else if 0<=a1/\a1<r1.length then bif (gt r1 a1).G7==0 then(Aeh K a0 (Ap (gt r1 a1).fUp 1)).bind fun r14=>bif r14 then if 0<=(Ap (gt r1 a1).fUp 1)/\(Ap (gt r1 a1).fUp 1)<r1.length then Aut K a0 a1 r1 (Ap (gt r1 a1).G6 1) (Ap (gt r1 a1).fUp 1) (((gt r1 (Ap (gt r1 a1).fUp 1)).Bz)==(A1 a1 1))else none else Aut K a0 a1 r1 (Ap (gt r1 a1).G6 1) (Ap (gt r1 a1).fUp 1) false else Aut K a0 a1 r1 (Ap (gt r1 a1).G6 1) (Ap (gt r1 a1).fUp 1) false else none else none else none else none
def Bio:=fd Tryz.func205 ⟨[.v 35,.v 3],[.n 35 true],false⟩ (gC (A4k K) (gC (Bgu K) gN)) [53,54,57,58,59] [31,63,499]
def B0r:Fw:=⟨[(0,.v 35),(1,.v 2),(5,.o 1005 77 true),(7,.v 2)],[]⟩
def B0s:Fw:=⟨[(0,.v 35),(1,.v 2),(5,.o 1005 77 true),(7,.v 2),(8,.v 2),(47,.v 4)],[]⟩
def Boh:=jn (Bio K) 63 Bz0 [] (A1g K) kN
def Bez:=jn (Bio K) 31 B0r [] (Awd K) (kC (Boh K) kN)
def Bj6:=jn (Bio K) 499 B0s [] (Aut K) (kC (Bez K) kN)
def Bxe:=ct (Bio K) (A3g K) (kC (Bez K) (kC (Bj6 K) kN))
def A4e (a0:Bo)(a1:Int):Option Bo:=(At2 K a0).bind fun r1=>(Aeh K a0.fL a1).bind fun r2=>bif r2 then if 0<=a1/\a1<a0.fL.length then bif (gt a0.fL a1).G4 != 1 then some r1 else if 0<=a1/\a1<a0.fL.length then(Azc K (gt a0.fL a1) (A1 a1 1)).bind fun r3=>if(r1.fQ.length+1)*72<=140737488355328/\r1.fQ.length+1<=maxLen then(Avw K (Bo.mk r1.fC r1.fP r1.fL ((r1.fQ++[(default:Bb)]).set (r1.fQ.length:Int).toNat r3) r1.Jp) a1).bind fun r4=>(A3g K r4.fL a1).bind fun r5=>if 0<=a1/\a1<r5.length then if 0<=a1/\a1<r5.length then(A3i K (gt r5 a1)).bind fun r6=>if 0<=a1/\a1<r5.length then some (Bo.mk r4.fC r4.fP (r5.set a1.toNat r6) r4.fQ r4.Jp)else none else none else none else none else none else none else some r1
def Bxf:=ct (fd Tryz.func117 ⟨[.v 38,.v 3],[.n 38 true],false⟩ (gC (A4k K) (gC (Bde K) (gC (Bn9 K) (gC (Bn7 K) (gC (Bxe K) (gC (Bn8 K) gN)))))) [11,12,13] [] [(5,[.put 105,.take 105 9 6689,.shal 6689,.put 105]),(6,[.take 105 9 6689,.frz 6689]),(7,[.opn 3041 (.tmp 1),.takeE 3041 11 42635,.takeE 3041 12 42636]),(8,[.take 105 6 6686,.take 105 7 6687,.take 105 8 6688,.take 105 10 6690,.take 105 11 6691])]) (A4e K)
def Aum (a0:Bo)(a1:Ch):Option (Bo×F8):=(Axr K a0).bind fun r1=>bif !r1 then(A6w K a0 1).bind fun r2=>some (r2.1,r2.2)else(A3f K a0 a1).bind fun r3=>(A1f K a0 a1).bind fun r4=>bif r4.2 != 0 then(At2 K a0).bind fun r5=>some (r5,(F8.mk r4.2 (Ch.mk 0 0) (Fb.mk (Ch.mk 0 0) 0 0) [] r3 0 0))else(A4e K a0 r4.1).bind fun r6=>some (r6,(F8.mk r4.2 (Ch.mk 0 0) (Fb.mk (Ch.mk 0 0) 0 0) [] r3 0 0))
def Bxg:=ct (fd Tryz.func116 ⟨[.v 38,.v 40,.f 117 [] []],[.n 38 true,.n 44 true],false⟩ (gC (Bg1 K) (gC (Bw9 K) (gC (Bxf K) (gC (Bxb K) (gC (Bde K) (gC (Bxd K) gN)))))) [] [] [(7,[.take 108 7 6735]),(8,[.take 108 7 6735])]) (Aum K)
def Axs (a0:Bo)(a1:Ch):Option (Bo×F8):=(Aum K a0 a1).bind fun r1=>some (r1.1,r1.2)
def Bxh:=ct (fd Tryz.func25 ⟨[.v 38,.v 40],[.n 38 true,.n 44 true],false⟩ (gC (Bxg K) gN)) (Axs K)
def Axt (r3:(List Int)):Nat->Int->Int->Int->Int->Int->Int->Int->(List Int)->(List Int)->(List Int)->(List Az)->(List Bb)->(List Int)->Int->Int->Int->Int->Int->Int->(List Int)->(List Int)->(List Int)->(List Az)->(List Bb)->(List Int)->Option Bool
 |0,_,_,_,_,_,_,_,_,_,_,_,_,_,_,_,_,_,_,_,_,_,_,_,_,_=>none
 |n1+1,v4,v5,v6,v7,v8,v9,v10,v11,v12,v13,v14,v15,v16,v17,v18,v19,v20,v21,v22,v23,v24,v25,v26,v27,v28=>bif decide (v4<r3.length)then if 0<=v4/\v4<r3.length then(A1d K v26 (gt r3 v4)).bind fun r29=>(Axs K (Bo.mk (Fi.mk v5 v6 v7 v8 v9 v10) (Ef.mk v11 v12 v13) v14 v15 v16) r29).bind fun r30=>Axt r3 n1 (A1 v4 1) r30.1.fC.Ad r30.1.fC.Du r30.1.fC.Cd r30.1.fC.Ez r30.1.fC.Ce r30.1.fC.Dv r30.1.fP.Fp r30.1.fP.G4 r30.1.fP.Fq r30.1.fL r30.1.fQ r30.1.Jp v17 v18 v19 v20 v21 v22 v23 v24 v25 v26 v27 v28 else none else(A1b K (Bo.mk (Fi.mk v5 v6 v7 v8 v9 v10) (Ef.mk v11 v12 v13) v14 v15 v16)).bind fun r31=>(Ay9 K (Bo.mk (Fi.mk v5 v6 v7 v8 v9 v10) (Ef.mk v11 v12 v13) v14 v15 v16)).bind fun r32=>bif (r32.length:Int)==0 then(A1c K (Bo.mk (Fi.mk v5 v6 v7 v8 v9 v10) (Ef.mk v11 v12 v13) v14 v15 v16)).bind fun r33=>bif r33==0 then(A2l K r31.fP 0).bind fun r34=>bif r34==v17 then(Au8 K r31.fP.Fp).bind fun r35=>bif r35 then(Awq K r31.fL 0).bind fun r36=>(Awq K r31.fL 3).bind fun r37=>bif (A1 r36 r37)==v19 then(Axr K r31).bind fun r38=>some r38 else some false else some false else some false else some false else some false
def A2m (a0:List Int):Option Bool:=(A7v K a0).bind fun r1=>bif r1 then some true else(Azy K a0).bind fun r2=>(Ay9 K r2.1).bind fun r3=>Axt K r3 K 0 r2.1.fC.Ad r2.1.fC.Du r2.1.fC.Cd r2.1.fC.Ez r2.1.fC.Ce r2.1.fC.Dv r2.1.fP.Fp r2.1.fP.G4 r2.1.fP.Fq r2.1.fL r2.1.fQ r2.1.Jp r2.1.fC.Ad r2.1.fC.Du r2.1.fC.Cd r2.1.fC.Ez r2.1.fC.Ce r2.1.fC.Dv r2.1.fP.Fp r2.1.fP.G4 r2.1.fP.Fq r2.1.fL r2.1.fQ r2.1.Jp
def Bug:=fd Tryz.func4 ⟨[.v 24],[.v 4],true⟩ (gC (B1c K) (gC (Bvr K) (gC (Bm3 K) (gC (Bxh K) (gC (Bw8 K) (gC (Bw4 K) (gC (Bw5 K) (gC (Bw6 K) (gC (Ban K) (gC (Bw7 K) (gC (Bg1 K) gN))))))))))) [45,46,49,50,51,58,59,60,64,65,66,77,78,79] [] [] [(17,[.frz 20480,.frz 20481,.frz 20482,.frz 20483,.frz 20484,.frz 20485]),(39,[.frz 21152,.frz 21153,.frz 21154,.frz 21155,.frz 21156,.frz 21157])]
def B0t:Fw:=⟨[(3,.p 103),(5,.p 105),(6,.v 25),(7,.v 2)],[(105,.box bx6),(103,.box bx6)]⟩
def Bj7:=lp (Bug K) 506 B0t [] (fun n a=>Axt K a n) (fun n=>kN)
def Bxi:=ct (Bug K) (A2m K) (kC (Bj7 K K) kN)
end
end Go.Proofs.YtgcnddnmhllahaaGreat
