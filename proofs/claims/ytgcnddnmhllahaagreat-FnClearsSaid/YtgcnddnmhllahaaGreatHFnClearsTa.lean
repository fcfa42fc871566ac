/- What the functions compute that FnClears reaches, and that they do; no condition. Printed by gen4.py. -/
import Derived.Test.YtgcnddnmhllahaaGreatHKit
set_option linter.all false
set_option maxRecDepth 20000
namespace Go.Proofs.YtgcnddnmhllahaaGreat
open Go.Eng
noncomputable section
def A1 (a b:Int):Int:=Lc .i64 a b
def Ap (a b:Int):Int:=Asu .i64 a b
def K1 (a b:Int):Int:=Ew .i64 a b
def bx0:List T6:=[.v 2,.v 2,.v 2,.v 2,.v 2,.v 2,.T 5 true,.T 3 true,.T 3 true,.T 77 false,.T 79 true,.T 3 true]
def bx1:List T6:=[.v 2,.v 2,.v 2,.v 2,.v 2,.v 2,.T 5 true,.T 3 true,.T 3 true,.T 77 true,.T 79 false,.T 3 true]
def bx4:List T6:=[.v 2,.v 2,.v 2,.v 2,.v 2,.v 2,.v 2,.v 2,.v 25,.v 2,.v 2,.v 75,.v 25]
def bx5:List T6:=[.v 2,.v 2,.v 2,.v 2,.v 2,.v 2,.v 2,.v 24,.v 2,.v 2,.v 2]
def bx6:List T6:=[.v 2,.v 2,.v 2,.v 2,.v 2,.v 2,.v 24,.v 25,.v 25,.v 35,.v 36,.v 25]
def bx7:List T6:=[.v 2,.v 2,.v 25,.v 25,.v 2]
def bx8:List T6:=[.v 24,.v 2,.v 2]
def bx9:List T6:=[.v 24,.v 25,.v 25]
abbrev PT (h:Fw):Type:=Am tyU h.codes
abbrev Rt (s:Sig):Type:=Option (A7 tyU s.codes)
def FnP (R:Type):List TC->Type
 |[]=>R
 |c::l=>c.T tyU->FnP R l
noncomputable def unc{R:Type}:(l:List TC)->FnP R l->Am tyU l->R
 |[],f,_=>f
 |_::l,f,q=>unc l (f q.1) q.2
abbrev CT (h:Fw)(s:Sig):Type:=FnP (Rt s) h.codes
noncomputable abbrev ar{s:Sig}(h:Fw)(M:CT h s):SS Ag->Rt s:=arr tyU tab h (unc h.codes M)
abbrev OkF (f:FuncId)(c:G3 tyU):Prop:=G3.Ok tyU Tryz.prog f c/\Eu Tryz.prog f
theorem B2a:Tryz.prog.follows .mixedOrders=true:=by kernel_rfl
structure FD (f:FuncId)(s:Sig) where
 fn:Func
 hf:Tryz.prog.funcs[f]? =some fn
 G:List (Nat×G3 tyU)
 g: ∀f c,lk G f=some c->OkF f c
 O:List (Nat×List (Nat×G3 tyU))
 o: ∀d l,lk O d=some l-> ∀f c,lk l f=some c->OkF f c
 kp:List (Nat×(SS Ag->List Oper->Oper->(Ai Ag->Rt s)->Rt s))
 kk: ∀d q,lk kp d=some q->KOk tyU tab Tryz.prog q
 spl:List Nat
 js:List Nat
 pre:List (Nat×List Cmd)
 post:List (Nat×List Cmd)
noncomputable abbrev fo{f:FuncId}{fn:Func}(hf:Tryz.prog.funcs[f]? =some fn)(s:Sig){G:List (Nat×G3 tyU)}(g: ∀f c,lk G f=some c->OkF f c){O:List (Nat×List (Nat×G3 tyU))}(o: ∀d l,lk O d=some l-> ∀f c,lk l f=some c->OkF f c)(spl:List Nat:=[])(js:List Nat:=[])(pre:List (Nat×List Cmd):=[])(post:List (Nat×List Cmd):=[]):FD f s:=⟨fn,hf,G,g,O,o,[],Ar3 (U:=tyU) (T:=tab) (P:=Tryz.prog),spl,js,pre,post⟩
noncomputable abbrev fd{f:FuncId}{fn:Func}(hf:Tryz.prog.funcs[f]? =some fn)(s:Sig){G:List (Nat×G3 tyU)}(g: ∀f c,lk G f=some c->OkF f c)(spl:List Nat:=[])(js:List Nat:=[])(pre:List (Nat×List Cmd):=[])(post:List (Nat×List Cmd):=[]):FD f s:=⟨fn,hf,G,g,[],oN,[],Ar3 (U:=tyU) (T:=tab) (P:=Tryz.prog),spl,js,pre,post⟩
noncomputable abbrev fk{f:FuncId}{fn:Func}(hf:Tryz.prog.funcs[f]? =some fn)(s:Sig){G:List (Nat×G3 tyU)}(g: ∀f c,lk G f=some c->OkF f c){O:List (Nat×List (Nat×G3 tyU))}(o: ∀d l,lk O d=some l-> ∀f c,lk l f=some c->OkF f c){kp:List (Nat×(SS Ag->List Oper->Oper->(Ai Ag->Rt s)->Rt s))}(kk: ∀d q,lk kp d=some q->KOk tyU tab Tryz.prog q)(spl:List Nat:=[])(js:List Nat:=[])(pre:List (Nat×List Cmd):=[])(post:List (Nat×List Cmd):=[]):FD f s:=⟨fn,hf,G,g,O,o,kp,kk,spl,js,pre,post⟩
section
variable {f:FuncId} {s:Sig}
noncomputable abbrev FD.b (X:FD f s):Code:=X.fn.body.getD .skip
noncomputable def FD.x (X:FD f s)(L B:Λt tyU s):Ox tyU (A7 tyU s.codes):=⟨X.G,X.O,eqT eqs,X.fn.ntmps,X.spl,X.pre,X.post,X.js,L,B,Aiu tyU tab s X.fn.results.toList,X.kp⟩
abbrev CuX (X:FD f s):Λt tyU s->Nat->(SS Ag->Rt s)->Prop:=Cut tyU tab Tryz.prog X.fn.results.toList s X.fn.ntmps X.js X.b
abbrev CsX (X:FD f s):Λt tyU s->Λt tyU s->Prop:=Ye tyU tab Tryz.prog X.fn.results.toList s X.fn.ntmps X.js X.b
theorem xo (X:FD f s):XOk tyU tab Tryz.prog X.fn.results.toList s X.fn.ntmps X.js X.x:=xok Avb B2a X.g X.o Aud X.kk
theorem lp (X:FD f s)(p:Nat)(h:Fw)(B:Λt tyU s)(M:Nat->CT h s){L:Nat->Λt tyU s}(hc: ∀n,CsX X ((p,ar h (M n))::B) (L n))(e: ∀n q,unc h.codes (M (n+1)) q=Ais tyU tab (X.x (L n) ((p,ar h (M n))::B)) X.b (2*p) (h.emb tyU q):=by intro n q;kernel_rfl)(hp:Nat.ble 1 p=true:=by rfl)(hk:Vi X.js X.b p=true:=by kernel_rfl)(e0: ∀q,unc h.codes (M 0) q=none:=by intro q;rfl)(n:Nat):CuX X B p (ar h (M n)):=Aql (M:=fun n=>unc h.codes (M n)) (xo X) hp hk e0 e hc n
theorem jn (X:FD f s)(p:Nat)(h:Fw)(B:Λt tyU s)(M:CT h s){L:Λt tyU s}(hc:CsX X B L)(e: ∀q,unc h.codes M q=Ais tyU tab (X.x L B) X.b (2*p+1) (h.emb tyU q):=by intro q;kernel_rfl)(hp:Nat.ble 1 p=true:=by rfl):CuX X B p (ar h M):=Aqk (xo X) hp e hc
theorem up{X:FD f s}{B:Λt tyU s}{p x:Nat}{F G:SS Ag->Rt s}(h:CuX X B p F)(hn:Aqn X.js X.b p x=true:=by kernel_rfl):CuX X ((x,G)::B) p F:=Atl hn h
theorem ct (X:FD f s)(m:Y8 tyU s.ps (Rt s)){L:Λt tyU s}(hc:CsX X [] L:=by exact kN)(e:Xj tyU tab (X.x L []) X.b s.ps 0 [] [] m:=by(repeat intro _);show @Eq _ _ _;kernel_rfl)(hs:Zx tyU s.ps:=by(repeat (refine⟨fun _=>rfl,?_⟩));exact trivial)(h1:(X.fn.name== "runtime.NumGoroutine")=false:=by rfl)(h2:X.fn.body=some X.b:=by rfl)(h5:Nat.ble s.ps.length X.fn.ntmps=true:=by rfl)(h6:Nat.ble (Bt s.ps+1) 100=true:=by rfl)(h7:Nat.ble X.fn.results.toList.length 4=true:=by rfl):OkF f ⟨s,m⟩:=Atk (xo X) Af5 e hc X.hf h1 h2 (Array.toArray_toList).symm rfl h5 h6 h7 hs
end
variable (K:Nat)
def A8f (K:Nat)(a0:List Int):Option Bool:=some (decide ((a0.length:Int)>1048576))
def B2c:=ct (fd Tryz.func22 ⟨[.v 24],[.v 4],true⟩ gN) (A8f K)
def Azf (K:Nat)(a0:List Int):Nat->Int->Int->Option E2
 |0,_,_=>none
 |n1+1,v1,v2=>bif decide (v2<a0.length)then bif decide (v2<4000)then if 0<=v2/\v2<a0.length then Azf K a0 n1 (Asv .i64 (A1 (A1 (K1 v1 137) (IntKind.i64.wrap (gt a0 v2))) 11) 1073741823) (A1 v2 1)else none else some (E2.mk a0 0 v1)else some (E2.mk a0 0 v1)
def A18 (a0:List Int):Option E2:=Azf K a0 K (A1 161416 a0.length) 0
def X_1:=fd Tryz.func111 ⟨[.v 24],[.p 171 false],false⟩ gN [11,12]
def h_0:Fw:=⟨[(0,.v 24),(3,.v 2),(4,.v 2)],[]⟩
def Bu7:=lp X_1 58 h_0 [] (fun n a=>Azf K a n) (fun n=>kN)
def By2:=ct X_1 (A18 K) (kC (Bu7 K K) kN)
def A0n (K:Nat)(a0:List Int)(a1:Int):Option Int:=if 12≠(0:Int)then bif decide ((A1 3 (Apq .i64 (a0.length:Int) 12))>a1)then some a1 else some (A1 3 (Apq .i64 (a0.length:Int) 12))else none
def B2d:=ct (fd Tryz.func113 ⟨[.v 24,.v 3],[.v 3],true⟩ gN) (A0n K)
def A05 (K:Nat)(v1:Int)(v2:List Int)(v3 v4:Int):Option (Int×E2):=some (v1,(E2.mk v2 v3 v4))
def Avi (a0:E2):Option (Int×E2):=if(0:Int)<=33 then if(0:Int)<=47 then bif decide (a0.fi<a0.fb.length)then if 0<=a0.fi/\a0.fi<a0.fb.length then A05 K (Asv .i64 (A1 (Asv .i64 (Asw .i64 (App .i64 (A1 (K1 a0.fh 6364136223846793005) 1442695040888963407) 33) (App .i64 (A1 (K1 a0.fh 6364136223846793005) 1442695040888963407) 47)) 255) (IntKind.i64.wrap (gt a0.fb a0.fi))) 255) a0.fb (A1 a0.fi 1) (A1 (K1 a0.fh 6364136223846793005) 1442695040888963407)else none else A05 K (Asv .i64 (Asw .i64 (App .i64 (A1 (K1 a0.fh 6364136223846793005) 1442695040888963407) 33) (App .i64 (A1 (K1 a0.fh 6364136223846793005) 1442695040888963407) 47)) 255) a0.fb a0.fi (A1 (K1 a0.fh 6364136223846793005) 1442695040888963407)else none else none
def X_3:=fd Tryz.func229 ⟨[.b 171 false],[.v 3],false⟩ gN [] [15]
def h_1:Fw:=⟨[(3,.v 2)],[(1,.box bx8)]⟩
def Bu8:=jn X_3 15 h_1 [] (A05 K) kN
def By3:=ct X_3 (Avi K) (kC (Bu8 K) kN)
def A4 (a0:E2)(a1:Int):Option (Int×E2):=bif decide (a1<=0)then some (0,a0)else bif decide (a1<=256)then(Avi K a0).bind fun r1=>if a1≠(0:Int)then some ((Int.tmod r1.1 a1),r1.2)else none else(Avi K a0).bind fun r2=>(Avi K r2.2).bind fun r3=>(Avi K r3.2).bind fun r4=>if a1≠(0:Int)then some ((Int.tmod (A1 (A1 (K1 r2.1 65536) (K1 r3.1 256)) r4.1) a1),r4.2)else none
def A8g:=ct (fd Tryz.func131 ⟨[.b 171 false,.v 3],[.v 3],false⟩ (gC (By3 K) gN)) (A4 K)
def P2 (a0:E2)(a1:List Int):Option (Int×E2×(List Int)):=(A4 K a0 (a1.length:Int)).bind fun r1=>if 0<=r1.1/\r1.1<a1.length then some ((gt a1 r1.1),r1.2,a1)else none
def Bdg:=ct (fd Tryz.func170 ⟨[.b 171 false,.w 25 true [(3,true)]],[.v 3],false⟩ (gC (A8g K) gN)) (P2 K)
def A0o (a0:E2):Option (Fi×E2):=(A4 K a0 11).bind fun r1=>(P2 K r1.2 ([8,8,9,12,16]:List Int)).bind fun r2=>if r2.2.2.length=([8,8,9,12,16]:List Int).length then(A4 K r2.2.1 7).bind fun r3=>(A4 K r3.2 6).bind fun r4=>(P2 K r4.2 ([1,3,4,8,16]:List Int)).bind fun r5=>if r5.2.2.length=([1,3,4,8,16]:List Int).length then(A4 K r5.2.1 4).bind fun r6=>some ((Fi.mk (A1 2 r1.1) r2.1 (A1 2 r3.1) (A1 1 r4.1) r5.1 (A1 1 r6.1)),r6.2)else none else none
def By4:=ct (fd Tryz.func224 ⟨[.b 171 false],[.v 33],false⟩ (gC (A8g K) (gC (Bdg K) gN))) (A0o K)
def F2 (K:Nat)(a0 a1 a2:Int):Option Bool:=bif decide (a0>=a1)then some (decide (a0<=a2))else some false
def A5f:=ct (fd Tryz.func147 ⟨[.v 3,.v 3,.v 3],[.v 4],true⟩ gN [9,10]) (F2 K)
def Ap3 (a0:Fi):Option Bool:=(F2 K a0.Ad 2 12).bind fun r1=>bif r1 then(F2 K a0.Du 8 16).bind fun r2=>bif r2 then(F2 K a0.Cd 2 8).bind fun r3=>bif r3 then(F2 K a0.Ez 1 8).bind fun r4=>bif r4 then(F2 K a0.Ce 1 16).bind fun r5=>bif r5 then(F2 K a0.Dv 1 4).bind fun r6=>some r6 else some false else some false else some false else some false else some false
def Be1:=ct (fd Tryz.func136 ⟨[.v 33],[.v 4],true⟩ (gC (A5f K) gN) [5,6,9,10,11,14,15,16,19,20,21,24,25,26]) (Ap3 K)
def Avu (a0:Fi):Option Int:=(Ap3 K a0).bind fun r1=>bif !r1 then some 0 else some (K1 a0.Ad a0.Du)
def Bq4:=ct (fd Tryz.func235 ⟨[.v 33],[.v 3],true⟩ (gC (Be1 K) gN)) (Avu K)
def A6n (a0:Int):Option (List Int):=(F2 K a0 0 4096).bind fun r1=>bif !r1 then some ([]:List Int)else if 0<=a0/\a0<=a0/\(1:Int)*a0<=281474976710656/\a0<=9223372036854775807 then some (List.replicate a0.toNat (0:Int))else none
def By5:=ct (fd Tryz.func234 ⟨[.v 3],[.n 24 true],true⟩ (gC (A5f K) gN)) (A6n K)
def Aw7 (K:Nat)(a0:Fi):Nat->Int->Ef->Ef->Option Ef
 |0,_,_,_=>none
 |n1+1,v4,v5,v6=>bif decide (v4<a0.Ad)then if(v5.G4++([0]:List Int)).length*8<=140737488355328/\(v5.G4++([0]:List Int)).length<=maxLen then if(v5.Fq++([(-1)]:List Int)).length*8<=140737488355328/\(v5.Fq++([(-1)]:List Int)).length<=maxLen then Aw7 K a0 n1 (A1 v4 1) (Ef.mk v5.Fp (v5.G4++([0]:List Int)) (v5.Fq++([(-1)]:List Int))) v6 else none else none else some v5
def A19 (a0:Fi):Option Ef:=(Ap3 K a0).bind fun r1=>bif !r1 then some (Ef.mk [] [] [])else(Avu K a0).bind fun r2=>(A6n K r2).bind fun r3=>Aw7 K a0 K 0 (Ef.mk r3 [] []) (Ef.mk [] [] [])
def By6:=fd Tryz.func137 ⟨[.v 33],[.n 34 true],true⟩ (gC (Be1 K) (gC (By5 K) (gC (Bq4 K) gN))) [] [] [(3,[.take 103 0 6648,.take 103 1 6649,.take 103 2 6650]),(8,[.take 103 1 6649]),(9,[.take 103 2 6650]),(10,[.take 103 0 6648,.take 103 1 6649,.take 103 2 6650])]
def h_2:Fw:=⟨[(1,.p 101),(2,.p 102),(3,.p 103),(4,.v 2)],[(103,.st 34 true),(102,.st 34 true),(101,.st 33 true)]⟩
def Bl5:=lp (By6 K) 250 h_2 [] (fun n a b c d=>Aw7 K d n a b c) (fun n=>kN)
def By7:=ct (By6 K) (A19 K) (kC (Bl5 K K) kN)
def Amn (K:Nat)(a0:Int):Option Az:=some (Az.mk 0 a0 0 0 0 0 0 0 [] 0 0 [] [])
def Be2:=ct (fd Tryz.func236 ⟨[.v 3],[.n 77 false],true⟩ gN) (Amn K)
def Awj (a0:Fi):Nat->(List Az)->Int->Option (List Az)
 |0,_,_=>none
 |n1+1,v1,v2=>bif decide (v2<a0.Cd)then(Ap3 K a0).bind fun r3=>bif r3 then(Amn K 1).bind fun r4=>if(v1++[r4]).length*152<=140737488355328/\(v1++[r4]).length<=maxLen then Awj a0 n1 (v1++[r4]) (A1 v2 1)else none else some v1 else some v1
def A36 (a0:Fi):Option (List Az):=Awj K a0 K ([]:List Az) 0
def By8:=fd Tryz.func138 ⟨[.v 33],[.n 35 true],false⟩ (gC (Be1 K) (gC (Be2 K) gN)) [9,10] [] [] [(18,[.put 3018])]
def h_3:Fw:=⟨[(1,.p 101),(3,.o 1003 77 true),(4,.v 2)],[(101,.st 33 true)]⟩
def Bq5:=lp (By8 K) 58 h_3 [] (fun n a b c=>Awj K c n a b) (fun n=>kN)
def By9:=ct (By8 K) (A36 K) (kC (Bq5 K K) kN)
def A06 (a0:Fi):Option Bo:=(Ap3 K a0).bind fun r1=>bif !r1 then some (Bo.mk (Fi.mk 0 0 0 0 0 0) (Ef.mk [] [] []) [] [] [])else(A19 K a0).bind fun r2=>(A36 K a0).bind fun r3=>some (Bo.mk a0 r2 r3 [] [])
def Bza:=ct (fd Tryz.func39 ⟨[.v 33],[.n 38 true],false⟩ (gC (Be1 K) (gC (By7 K) (gC (By9 K) gN)))) (A06 K)
def Acs (K:Nat)(a0:List Az)(a1:Int):Option Bool:=bif decide (a1>=1)then some (decide (a1<=a0.length))else some false
def A9z:=ct (fd Tryz.func276 ⟨[.v 35,.v 3],[.v 4],true⟩ gN [6,7]) (Acs K)
def A0p (a0:List Az):Nat->Int->(List Int)->Option (List Int)
 |0,_,_=>none
 |n1+1,v1,v2=>(Acs K a0 (A1 v1 1)).bind fun r3=>bif r3 then bif decide ((v2.length:Int)<a0.length)then if(v2++([v1]:List Int)).length*8<=140737488355328/\(v2++([v1]:List Int)).length<=maxLen then if 0<=v1/\v1<a0.length then A0p a0 n1 (Ap (gt a0 v1).fUp 1) (v2++([v1]:List Int))else none else none else some v2 else some v2
def A11 (a0:List Az)(a1:Int):Option (List Int):=A0p K a0 K a1 ([]:List Int)
def Bzb:=fd Tryz.func251 ⟨[.v 35,.v 3],[.n 25 true],true⟩ (gC (A9z K) gN) [10,11]
def h_4:Fw:=⟨[(0,.v 35),(1,.v 2),(5,.o 1005 3 true)],[]⟩
def Bq6:=lp (Bzb K) 28 h_4 [] (fun n a=>A0p K a n) (fun n=>kN)
def Bl6:=ct (Bzb K) (A11 K) (kC (Bq6 K K) kN)
def Awk (a0:List Az)(a1:Int):Option Bool:=if 0<=a1/\a1<a0.length then(Acs K a0 (gt a0 a1).fUp).bind fun r1=>bif r1 then if 0<=(Ap (gt a0 a1).fUp 1)/\(Ap (gt a0 a1).fUp 1)<a0.length then bif (gt a0 (Ap (gt a0 a1).fUp 1)).G4==1 then if 0<=(Ap (gt a0 a1).fUp 1)/\(Ap (gt a0 a1).fUp 1)<a0.length then if 0<=a1/\a1<a0.length then some (((gt a0 (Ap (gt a0 a1).fUp 1)).Nb)==(gt a0 a1).G5)else none else none else some false else none else some false else none
def Bl7:=ct (fd Tryz.func252 ⟨[.v 35,.v 3],[.v 4],true⟩ (gC (A9z K) gN) [13,14,21,22,23]) (Awk K)
def A2a (K:Nat)(v2:Int)(C1:Int->Option Bool):Option Bool:=C1 (A1 v2 1)
def Aw8 (a0:List Az)(r1:(List Int)):Nat->Int->Option Bool
 |0,_=>none
 |n1+1,v2=>bif decide (v2<r1.length)then if 0<=v2/\v2<r1.length then if 0<=(gt r1 v2)/\(gt r1 v2)<a0.length then bif (gt a0 (gt r1 v2)).G4 != 1 then some false else bif decide ((A1 v2 1)<r1.length)then if 0<=v2/\v2<r1.length then(Awk K a0 (gt r1 v2)).bind fun r3=>bif !r3 then some false else A2a K v2 (Aw8 a0 r1 n1)else none else A2a K v2 (Aw8 a0 r1 n1)else none else none else bif decide ((r1.length:Int)>0)then if 0<=(Ap r1.length 1)/\(Ap r1.length 1)<r1.length then if 0<=(gt r1 (Ap r1.length 1))/\(gt r1 (Ap r1.length 1))<a0.length then some (((gt a0 (gt r1 (Ap r1.length 1))).fUp)==0)else none else none else some false
def Az4 (a0:List Az)(a1:Int):Option Bool:=(A11 K a0 a1).bind fun r1=>Aw8 K a0 r1 K 0
def Bu9:=fd Tryz.func154 ⟨[.v 35,.v 3],[.v 4],true⟩ (gC (Bl6 K) (gC (Bl7 K) gN)) [24,25,30,31,43,44] [233]
def h_5:Fw:=⟨[(0,.v 35),(5,.v 25),(6,.v 2)],[]⟩
def Bl8:=fun(C58:CT h_5 _)=>jn (Bu9 K) 233 h_5 [(58,ar h_5 C58)] (fun a b c=>A2a K c (C58 a b)) kN
def Bq7:=lp (Bu9 K) 58 h_5 [] (fun n a b=>Aw8 K a b n) (fun n=>kC (Bl8 K _) kN)
def Bl9:=ct (Bu9 K) (Az4 K) (kC (Bq7 K K) kN)
def Aw9 (K:Nat)(v2 v3:Int)(v4 v5:Int)(v6 v7 v8:Int)(v9 v10 v11:List Int)(v12:List Az)(v13:List Bb)(v14:List Int)(C1:(List Int)->Int->Int->Int->Int->Int->Int->Int->(List Int)->(List Int)->(List Int)->(List Az)->(List Bb)->(List Int)->Option (List Int))(v16:List Int):Option (List Int):=C1 v16 (A1 v2 1) v3 v4 v5 v6 v7 v8 v9 v10 v11 v12 v13 v14
def Avo:Nat->(List Int)->Int->Int->Int->Int->Int->Int->Int->(List Int)->(List Int)->(List Int)->(List Az)->(List Bb)->(List Int)->Option (List Int)
 |0,_,_,_,_,_,_,_,_,_,_,_,_,_,_=>none
 |n1+1,v1,v2,v3,v4,v5,v6,v7,v8,v9,v10,v11,v12,v13,v14=>bif decide (v2<v12.length)then(Az4 K v12 v2).bind fun r15=>bif r15 then if(v1++([v2]:List Int)).length*8<=140737488355328/\(v1++([v2]:List Int)).length<=maxLen then Aw9 K v2 v3 v4 v5 v6 v7 v8 v9 v10 v11 v12 v13 v14 (Avo n1) (v1++([v2]:List Int))else none else Aw9 K v2 v3 v4 v5 v6 v7 v8 v9 v10 v11 v12 v13 v14 (Avo n1) v1 else some v1
def A2b (a0:Bo):Option (List Int):=Avo K K ([]:List Int) 0 a0.fC.Ad a0.fC.Du a0.fC.Cd a0.fC.Ez a0.fC.Ce a0.fC.Dv a0.fP.Fp a0.fP.G4 a0.fP.Fq a0.fL a0.fQ a0.Jp
def Bva:=fd Tryz.func45 ⟨[.v 38],[.n 25 true],true⟩ (gC (Bl9 K) gN) [] [233]
def h_6:Fw:=⟨[(1,.p 101),(3,.o 1003 3 true),(4,.v 2)],[(101,.box bx6)]⟩
def Bma:=fun(C58:CT h_6 _)=>jn (Bva K) 233 h_6 [(58,ar h_6 C58)] (fun a b c d e f g h i j k l m o=>Aw9 K b c d e f g h i j k l m o C58 a) kN
def Bq8:=lp (Bva K) 58 h_6 [] (Avo K) (fun n=>kC (Bma K _) kN)
def Btj:=ct (Bva K) (A2b K) (kC (Bq8 K K) kN)
def Ap4 (a0:E2)(a1:Int):Option (Bool×E2):=(A4 K a0 a1).bind fun r1=>some ((r1.1==0),r1.2)
def Be3:=ct (fd Tryz.func198 ⟨[.b 171 false,.v 3],[.v 4],false⟩ (gC (A8g K) gN)) (Ap4 K)
def A07 (a0:E2):Option (Ch×E2):=(A4 K a0 5).bind fun r1=>(A4 K r1.2 3).bind fun r2=>some ((Ch.mk r1.1 (A1 1 r2.1)),r2.2)
def Bzc:=ct (fd Tryz.func284 ⟨[.b 171 false],[.v 40],false⟩ (gC (A8g K) gN)) (A07 K)
def Axa (a1:Int):Nat->(List Int)->Int->(List Int)->Int->Int->Option ((List Int)×E2)
 |0,_,_,_,_,_=>none
 |n1+1,v1,v2,v3,v4,v5=>bif decide (v2<a1)then(Avi K (E2.mk v3 v4 v5)).bind fun r6=>if(v1++([(IntKind.u8.wrap r6.1)]:List Int)).length*1<=140737488355328/\(v1++([(IntKind.u8.wrap r6.1)]:List Int)).length<=maxLen then Axa a1 n1 (v1++([(IntKind.u8.wrap r6.1)]:List Int)) (A1 v2 1) r6.2.fb r6.2.fi r6.2.fh else none else some (v1,(E2.mk v3 v4 v5))
def A2c (a0:E2)(a1:Int):Option ((List Int)×E2):=Axa K a1 K ([]:List Int) 0 a0.fb a0.fi a0.fh
def Bzd:=fd Tryz.func201 ⟨[.b 171 false,.v 3],[.n 24 true],false⟩ (gC (By3 K) gN)
def h_7:Fw:=⟨[(0,.p 1),(1,.v 2),(5,.o 1005 5 true),(6,.v 2)],[(1,.box bx8)]⟩
def Bq9:=lp (Bzd K) 58 h_7 [] (fun n a=>Axa K a n) (fun n=>kN)
def Btk:=ct (Bzd K) (A2c K) (kC (Bq9 K K) kN)
def Ao5 (K:Nat)(v6:List Int)(v7 v8:Int)(v9 v10:Di):Option (Di×E2):=some (v9,(E2.mk v6 v7 v8))
def Avp (v11:Int)(v12:Bool)(v13:List Int)(v14 v15:Int)(v16:Fb)(v17:Ch)(v18 v19:Di):Option (Di×E2):=bif v12 then Ao5 K v13 v14 v15 (Di.mk v18.Aad v17 v18.fR v18.fN v18.fM v18.fB) v19 else bif v11==2 then(P2 K (E2.mk v13 v14 v15) ([1,2,3,5,8,9,17,20,0,201]:List Int)).bind fun r20=>if r20.2.2.length=([1,2,3,5,8,9,17,20,0,201]:List Int).length then(P2 K r20.2.1 ([1,1,2,4,3]:List Int)).bind fun r21=>if r21.2.2.length=([1,1,2,4,3]:List Int).length then Ao5 K r21.2.1.fb r21.2.1.fi r21.2.1.fh (Di.mk v18.Aad v17 v18.fR r20.1 r21.1 v18.fB) v19 else none else none else bif v11==3 then(A4 K (E2.mk v13 v14 v15) 4).bind fun r22=>(A4 K r22.2 5).bind fun r23=>Ao5 K r23.2.fb r23.2.fi r23.2.fh (Di.mk v18.Aad v18.fH v16 r22.1 r23.1 v18.fB) v19 else bif v11==4 then(A4 K (E2.mk v13 v14 v15) 4).bind fun r24=>(A4 K r24.2 4).bind fun r25=>(A2c K r25.2 r25.1).bind fun r26=>Ao5 K r26.2.fb r26.2.fi r26.2.fh (Di.mk v18.Aad v18.fH v16 r24.1 v18.fM r26.1) v19 else bif v11==5 then(P2 K (E2.mk v13 v14 v15) ([1,7,255,256]:List Int)).bind fun r27=>if r27.2.2.length=([1,7,255,256]:List Int).length then Ao5 K r27.2.1.fb r27.2.1.fi r27.2.1.fh (Di.mk v18.Aad v17 v18.fR r27.1 v18.fM v18.fB) v19 else none else Ao5 K v13 v14 v15 v18 v19
def Azg (a0:E2):Option (Di×E2):=(A4 K a0 9).bind fun r1=>(A07 K r1.2).bind fun r2=>(A4 K r2.2 2).bind fun r3=>(A4 K r3.2 3).bind fun r4=>bif (A1 1 r1.1)==1 then(Ap4 K r4.2 2).bind fun r5=>bif r5.1 then Ao5 K r5.2.fb r5.2.fi r5.2.fh (Di.mk (A1 1 r1.1) r2.1 (Fb.mk (Ch.mk 0 0) 0 0) 0 0 []) (Di.mk 0 (Ch.mk 0 0) (Fb.mk (Ch.mk 0 0) 0 0) 0 0 [])else Ao5 K r5.2.fb r5.2.fi r5.2.fh (Di.mk (A1 1 r1.1) (Ch.mk 0 0) (Fb.mk (Ch.mk 0 0) 0 0) 0 0 []) (Di.mk 0 (Ch.mk 0 0) (Fb.mk (Ch.mk 0 0) 0 0) 0 0 [])else bif (A1 1 r1.1)==6 then Avp K (A1 1 r1.1) ((A1 1 r1.1)==6) r4.2.fb r4.2.fi r4.2.fh (Fb.mk r2.1 r3.1 r4.1) r2.1 (Di.mk (A1 1 r1.1) (Ch.mk 0 0) (Fb.mk (Ch.mk 0 0) 0 0) 0 0 []) (Di.mk 0 (Ch.mk 0 0) (Fb.mk (Ch.mk 0 0) 0 0) 0 0 [])else bif (A1 1 r1.1)==7 then Avp K (A1 1 r1.1) ((A1 1 r1.1)==7) r4.2.fb r4.2.fi r4.2.fh (Fb.mk r2.1 r3.1 r4.1) r2.1 (Di.mk (A1 1 r1.1) (Ch.mk 0 0) (Fb.mk (Ch.mk 0 0) 0 0) 0 0 []) (Di.mk 0 (Ch.mk 0 0) (Fb.mk (Ch.mk 0 0) 0 0) 0 0 [])else Avp K (A1 1 r1.1) ((A1 1 r1.1)==8) r4.2.fb r4.2.fi r4.2.fh (Fb.mk r2.1 r3.1 r4.1) r2.1 (Di.mk (A1 1 r1.1) (Ch.mk 0 0) (Fb.mk (Ch.mk 0 0) 0 0) 0 0 []) (Di.mk 0 (Ch.mk 0 0) (Fb.mk (Ch.mk 0 0) 0 0) 0 0 [])
def Bvb:=fd Tryz.func199 ⟨[.b 171 false],[.n 55 true],false⟩ (gC (A8g K) (gC (Bdg K) (gC (Be3 K) (gC (Btk K) (gC (Bzc K) gN))))) [] [31,1003] [(27,[.take 103 9 6657])]
def h_8:Fw:=⟨[(2,.p 102),(3,.p 103)],[(1,.box bx8),(103,.st 55 true),(102,.st 55 true)]⟩
def h_9:Fw:=⟨[(0,.p 1),(2,.p 102),(3,.p 103),(4,.p 104),(5,.p 105),(19,.v 2),(26,.v 4)],[(1,.box bx8),(105,.st 42 true),(104,.st 40 true),(103,.st 55 true),(102,.st 55 true)]⟩
def Biq:=jn (Bvb K) 31 h_8 [] (Ao5 K) kN
def Bjy:=jn (Bvb K) 1003 h_9 [] (Avp K) (kC (Biq K) kN)
def Bze:=ct (Bvb K) (Azg K) (kC (Biq K) (kC (Bjy K) kN))
def Ayf (a0:List Az)(a1:Int):Option Ch:=(F2 K a1 0 (Ap a0.length 1)).bind fun r1=>bif !r1 then some (Ch.mk 0 0)else if 0<=a1/\a1<a0.length then some (Ch.mk a1 (gt a0 a1).C7)else none
def Btl:=ct (fd Tryz.func200 ⟨[.v 35,.v 3],[.v 40],true⟩ (gC (A5f K) gN)) (Ayf K)
def Axb (r8:Ch)(v27 v28 v29:List Int)(v30:List Az)(v31:List Bb)(v32:List Int)(v34:Int)(v36:List Int)(v37 v38:Int)(v47:Bool):Option (Di×E2×(List Int)×(List Int)×(List Int)×(List Az)×(List Bb)×(List Int)):=bif v47 then(A4 K (E2.mk v36 v37 v38) 256).bind fun r48=>some ((Di.mk 5 r8 (Fb.mk (Ch.mk 0 0) 0 0) r48.1 0 []),r48.2,v27,v28,v29,v30,v31,v32)else bif v34==13 then some ((Di.mk 6 r8 (Fb.mk (Ch.mk 0 0) 0 0) 0 0 []),(E2.mk v36 v37 v38),v27,v28,v29,v30,v31,v32)else bif v34==14 then some ((Di.mk 7 r8 (Fb.mk (Ch.mk 0 0) 0 0) 0 0 []),(E2.mk v36 v37 v38),v27,v28,v29,v30,v31,v32)else(Ap4 K (E2.mk v36 v37 v38) 6).bind fun r49=>bif r49.1 then some ((Di.mk 9 (Ch.mk 0 0) (Fb.mk (Ch.mk 0 0) 0 0) 0 0 []),r49.2,v27,v28,v29,v30,v31,v32)else some ((Di.mk 8 r8 (Fb.mk (Ch.mk 0 0) 0 0) 0 0 []),r49.2,v27,v28,v29,v30,v31,v32)
def Axc (r8:Ch)(v13:Fb)(v27 v28 v29:List Int)(v30:List Az)(v31:List Bb)(v32:List Int)(v34:Int)(v36:List Int)(v37 v38:Int)(v43:Bool):Option (Di×E2×(List Int)×(List Int)×(List Int)×(List Az)×(List Bb)×(List Int)):=bif v43 then(A4 K (E2.mk v36 v37 v38) 2).bind fun r44=>(A2c K r44.2 (A1 1 r44.1)).bind fun r45=>some ((Di.mk 4 (Ch.mk 0 0) v13 0 0 r45.1),r45.2,v27,v28,v29,v30,v31,v32)else bif v34==10 then(A4 K (E2.mk v36 v37 v38) 3).bind fun r46=>some ((Di.mk 3 (Ch.mk 0 0) v13 0 r46.1 []),r46.2,v27,v28,v29,v30,v31,v32)else bif v34==11 then Axb K r8 v27 v28 v29 v30 v31 v32 v34 v36 v37 v38 (v34==11)else Axb K r8 v27 v28 v29 v30 v31 v32 v34 v36 v37 v38 (v34==12)
def Avq (r8:Ch)(v13:Fb)(v16:Int)(v27 v28 v29:List Int)(v30:List Az)(v31:List Bb)(v32:List Int)(v34:Int)(v36:List Int)(v37 v38:Int)(v39:Bool):Option (Di×E2×(List Int)×(List Int)×(List Int)×(List Az)×(List Bb)×(List Int)):=bif v39 then(P2 K (E2.mk v36 v37 v38) ([1,2,3,4,5,8]:List Int)).bind fun r40=>if r40.2.2.length=([1,2,3,4,5,8]:List Int).length then(P2 K r40.2.1 ([1,1,2,4]:List Int)).bind fun r41=>if r41.2.2.length=([1,1,2,4]:List Int).length then some ((Di.mk 2 r8 (Fb.mk (Ch.mk 0 0) 0 0) r40.1 r41.1 []),r41.2.1,v27,v28,v29,v30,v31,v32)else none else none else bif v34==7 then(A4 K (E2.mk v36 v37 v38) v16).bind fun r42=>some ((Di.mk 2 r8 (Fb.mk (Ch.mk 0 0) 0 0) (A1 (A1 v16 1) r42.1) 1 []),r42.2,v27,v28,v29,v30,v31,v32)else bif v34==8 then Axc K r8 v13 v27 v28 v29 v30 v31 v32 v34 v36 v37 v38 (v34==8)else Axc K r8 v13 v27 v28 v29 v30 v31 v32 v34 v36 v37 v38 (v34==9)
def Avr (r8:Ch)(v13:Fb)(v16:Int)(v27 v28 v29:List Int)(v30:List Az)(v31:List Bb)(v32:List Int)(v34:Int)(v35:Bool)(v36:List Int)(v37 v38:Int):Option (Di×E2×(List Int)×(List Int)×(List Int)×(List Az)×(List Bb)×(List Int)):=bif v35 then some ((Di.mk 1 r8 (Fb.mk (Ch.mk 0 0) 0 0) 0 0 []),(E2.mk v36 v37 v38),v27,v28,v29,v30,v31,v32)else bif v34==3 then some ((Di.mk 1 (Ch.mk 0 0) (Fb.mk (Ch.mk 0 0) 0 0) 0 0 []),(E2.mk v36 v37 v38),v27,v28,v29,v30,v31,v32)else bif v34==4 then Avq K r8 v13 v16 v27 v28 v29 v30 v31 v32 v34 v36 v37 v38 (v34==4)else bif v34==5 then Avq K r8 v13 v16 v27 v28 v29 v30 v31 v32 v34 v36 v37 v38 (v34==5)else Avq K r8 v13 v16 v27 v28 v29 v30 v31 v32 v34 v36 v37 v38 (v34==6)
def Axd (r8:Ch)(v10:List Int)(v11 v12:Int)(v13:Fb)(v14:Di)(v15 v16:Int)(v17 v18:Int)(v19 v20:Int)(v21 v22:Nat)(v23 v24:Nat)(v25 v26:Nat)(v27 v28 v29:List Int)(v30:List Az)(v31:List Bb)(v32:List Int):Option (Di×E2×(List Int)×(List Int)×(List Int)×(List Az)×(List Bb)×(List Int)):=(A4 K (E2.mk v10 v11 v12) 16).bind fun r33=>bif r33.1==0 then Avr K r8 v13 v16 v27 v28 v29 v30 v31 v32 r33.1 (r33.1==0) r33.2.fb r33.2.fi r33.2.fh else bif r33.1==1 then Avr K r8 v13 v16 v27 v28 v29 v30 v31 v32 r33.1 (r33.1==1) r33.2.fb r33.2.fi r33.2.fh else Avr K r8 v13 v16 v27 v28 v29 v30 v31 v32 r33.1 (r33.1==2) r33.2.fb r33.2.fi r33.2.fh
def Azh (a0:E2)(a1:Bo):Option (Di×E2×(List Int)×(List Int)×(List Int)×(List Az)×(List Bb)×(List Int)):=(A2b K a1).bind fun r1=>bif (r1.length:Int)==0 then(Ap4 K a0 2).bind fun r2=>bif r2.1 then some ((Di.mk 1 (Ch.mk 0 0) (Fb.mk (Ch.mk 0 0) 0 0) 0 0 []),r2.2,a1.fP.Fp,a1.fP.G4,a1.fP.Fq,a1.fL,a1.fQ,a1.Jp)else(Azg K r2.2).bind fun r3=>some (r3.1,r3.2,a1.fP.Fp,a1.fP.G4,a1.fP.Fq,a1.fL,a1.fQ,a1.Jp)else(Ap4 K a0 10).bind fun r4=>bif r4.1 then(Ap4 K r4.2 2).bind fun r5=>bif r5.1 then some ((Di.mk 1 (Ch.mk 0 0) (Fb.mk (Ch.mk 0 0) 0 0) 0 0 []),r5.2,a1.fP.Fp,a1.fP.G4,a1.fP.Fq,a1.fL,a1.fQ,a1.Jp)else(Azg K r5.2).bind fun r6=>some (r6.1,r6.2,a1.fP.Fp,a1.fP.G4,a1.fP.Fq,a1.fL,a1.fQ,a1.Jp)else(A4 K r4.2 (r1.length:Int)).bind fun r7=>if 0<=r7.1/\r7.1<r1.length then(Ayf K a1.fL (gt r1 r7.1)).bind fun r8=>if 0<=(gt r1 r7.1)/\(gt r1 r7.1)<a1.fL.length then if 0<=(gt r1 r7.1)/\(gt r1 r7.1)<a1.fL.length then if 0<=(gt r1 r7.1)/\(gt r1 r7.1)<a1.fL.length then bif decide (((gt a1.fL (gt r1 r7.1)).D5.length:Int)>0)then if 0<=(gt r1 r7.1)/\(gt r1 r7.1)<a1.fL.length then(A4 K r7.2 (((gt a1.fL (gt r1 r7.1)).D5).length:Int)).bind fun r9=>Axd K r8 r9.2.fb r9.2.fi r9.2.fh (Fb.mk r8 (gt a1.fL (gt r1 r7.1)).Nb r9.1) (Di.mk 0 (Ch.mk 0 0) (Fb.mk (Ch.mk 0 0) 0 0) 0 0 []) a1.fC.Ad a1.fC.Du a1.fC.Cd a1.fC.Ez a1.fC.Ce a1.fC.Dv a1.fP.Fp.length a1.fP.G4.length a1.fP.Fq.length a1.fL.length a1.fQ.length a1.Jp.length a1.fP.Fp a1.fP.G4 a1.fP.Fq a1.fL a1.fQ a1.Jp else none else Axd K r8 r7.2.fb r7.2.fi r7.2.fh (Fb.mk r8 (gt a1.fL (gt r1 r7.1)).Nb 0) (Di.mk 0 (Ch.mk 0 0) (Fb.mk (Ch.mk 0 0) 0 0) 0 0 []) a1.fC.Ad a1.fC.Du a1.fC.Cd a1.fC.Ez a1.fC.Ce a1.fC.Dv a1.fP.Fp.length a1.fP.G4.length a1.fP.Fq.length a1.fL.length a1.fQ.length a1.Jp.length a1.fP.Fp a1.fP.G4 a1.fP.Fq a1.fL a1.fQ a1.Jp else none else none else none else none
def Bjz:=fd Tryz.func114 ⟨[.b 171 false,.w 38 false [(5,true),(3,true),(3,true),(77,true),(79,false),(3,true)]],[.n 55 true],false⟩ (gC (Btj K) (gC (A8g K) (gC (Bdg K) (gC (Be3 K) (gC (Bze K) (gC (Btl K) (gC (Btk K) gN))))))) [13,14] [127,2042,32687,523007,8368127] [(9,[.opn 5 (.tmp 6),.takeE 5 11 40331])]
def B2f:Fw:=⟨[(0,.p 1),(4,.p 104),(7,.p 107),(61,.v 2),(113,.v 4)],[(1,.box bx8),(2,.rws 5 true),(3,.rws 3 true),(4,.rws 3 true),(5,.rws 77 true),(6,.rws 79 false),(7,.rws 3 true),(107,.st 40 true),(104,.st 55 true)]⟩
def B2g:Fw:=⟨[(0,.p 1),(4,.p 104),(7,.p 107),(8,.p 108),(61,.v 2),(97,.v 4)],[(1,.box bx8),(2,.rws 5 true),(3,.rws 3 true),(4,.rws 3 true),(5,.rws 77 true),(6,.rws 79 false),(7,.rws 3 true),(108,.st 42 true),(107,.st 40 true),(104,.st 55 true)]⟩
def B2h:Fw:=⟨[(0,.p 1),(3,.p 103),(4,.p 104),(7,.p 107),(8,.p 108),(61,.v 2),(71,.v 4)],[(1,.box bx8),(108,.st 42 true),(107,.st 40 true),(104,.st 55 true),(103,.ob [.v 2,.v 2,.v 2,.v 2,.v 2,.v 2,.O 2,.O 3,.O 4,.O 5,.O 6,.O 7]),(2,.rws 5 true),(3,.rws 3 true),(4,.rws 3 true),(5,.rws 77 true),(6,.rws 79 false),(7,.rws 3 true)]⟩
def B2i:Fw:=⟨[(0,.p 1),(3,.p 103),(4,.p 104),(7,.p 107),(8,.p 108),(61,.v 2),(62,.v 4)],[(1,.box bx8),(108,.st 42 true),(107,.st 40 true),(104,.st 55 true),(103,.ob [.v 2,.v 2,.v 2,.v 2,.v 2,.v 2,.O 2,.O 3,.O 4,.O 5,.O 6,.O 7]),(2,.rws 5 true),(3,.rws 3 true),(4,.rws 3 true),(5,.rws 77 true),(6,.rws 79 false),(7,.rws 3 true)]⟩
def B2j:Fw:=⟨[(0,.p 1),(3,.p 103),(4,.p 104),(7,.p 107),(8,.p 108)],[(1,.box bx8),(108,.st 42 true),(107,.st 40 true),(104,.st 55 true),(103,.ob [.v 2,.v 2,.v 2,.v 2,.v 2,.v 2,.O 2,.O 3,.O 4,.O 5,.O 6,.O 7]),(2,.rws 5 true),(3,.rws 3 true),(4,.rws 3 true),(5,.rws 77 true),(6,.rws 79 false),(7,.rws 3 true)]⟩
def Bdh:=jn (Bjz K) 8368127 B2f [] (fun a b c d e f g h i j k l _=>Axb K l f g h i j k a c d e b) kN
def Be4:=jn (Bjz K) 523007 B2g [] (fun a b c d e f g h i j k l m _=>Axc K m l f g h i j k a c d e b) (kC (Bdh K) kN)
def Bgu:=jn (Bjz K) 32687 B2h [] (fun a b c d e f g _ _ j _ _ _ _ _ _ _ _ _ _ v w x y z a1=>Avq K g f j v w x y z a1 a c d e b) (kC (Be4 K) kN)
def Bj0:=jn (Bjz K) 2042 B2i [] (fun a b c d e f g _ _ j _ _ _ _ _ _ _ _ _ _ v w x y z a1=>Avr K g f j v w x y z a1 a b c d e) (kC (Bgu K) kN)
def Bmb:=jn (Bjz K) 127 B2j [] (fun a b c d e=>Axd K e a b c d) (kC (Bj0 K) kN)
def Btm:=ct (Bjz K) (Azh K) (kC (Bmb K) kN)
def Ayg (K:Nat)(a0:Ch):Option Bool:=bif decide (a0.Be>=0)then some (decide (a0.C7>=1))else some false
def Btn:=ct (fd Tryz.func354 ⟨[.v 40],[.v 4],true⟩ gN [5,6]) (Ayg K)
def Azi (a0:List Az)(a1:Ch):Option Int:=(F2 K a1.Be 0 (Ap a0.length 1)).bind fun r1=>bif r1 then if 0<=a1.Be/\a1.Be<a0.length then bif (gt a0 a1.Be).G4 != 1 then some (-1)else if 0<=a1.Be/\a1.Be<a0.length then bif (gt a0 a1.Be).C7 != a1.C7 then some (-1)else some a1.Be else none else none else some (-1)
def Bto:=ct (fd Tryz.func355 ⟨[.v 35,.v 40],[.v 3],true⟩ (gC (A5f K) gN) [10,11,12,19,20,21]) (Azi K)
def Ark (a0:Bo)(a1:Ch):Option (Int×Int):=(Ayg K a1).bind fun r1=>bif !r1 then some ((-1),1)else(Azi K a0.fL a1).bind fun r2=>bif decide (r2<0)then some ((-1),2)else(Az4 K a0.fL r2).bind fun r3=>bif !r3 then some ((-1),2)else some (r2,0)
def Bcu:=ct (fd Tryz.func307 ⟨[.v 38,.v 40],[.v 3,.v 3],true⟩ (gC (Bl9 K) (gC (Btn K) (gC (Bto K) gN))) [15,16]) (Ark K)
def A4e (a0:Bo)(a1:Ch):Option (Int×Int):=bif (a1.Be==0)&&((a1.C7==0)&&true)then some ((-1),0)else(Ark K a0 a1).bind fun r1=>some (r1.1,r1.2)
def Bzf:=ct (fd Tryz.func342 ⟨[.v 38,.v 40],[.v 3,.v 3],true⟩ (gC (Bcu K) gN)) (A4e K)
def A0q (a0:List Az)(a1:Int):Option Int:=(A11 K a0 a1).bind fun r1=>some (r1.length:Int)
def Btp:=ct (fd Tryz.func343 ⟨[.v 35,.v 3],[.v 3],true⟩ (gC (Bl6 K) gN)) (A0q K)
def Asf (a0:Bo)(a1:Ch):Option Int:=(Azi K a0.fL a1).bind fun r1=>(A0q K a0.fL r1).bind fun r2=>some r2
def Ba2:=ct (fd Tryz.func308 ⟨[.v 38,.v 40],[.v 3],true⟩ (gC (Btp K) (gC (Bto K) gN))) (Asf K)
def Apg (K:Nat)(v2 v3:Int)(v4 v5:Int)(v6 v7 v8:Int)(v9 v10 v11:List Int)(v12:List Az)(v13:List Bb)(v14:List Int)(C1:Int->Int->Int->Int->Int->Int->Int->Int->(List Int)->(List Int)->(List Int)->(List Az)->(List Bb)->(List Int)->Option Int)(v15:Int):Option Int:=C1 v15 (A1 v2 1) v3 v4 v5 v6 v7 v8 v9 v10 v11 v12 v13 v14
def Akk:Nat->Int->Int->Int->Int->Int->Int->Int->Int->(List Int)->(List Int)->(List Int)->(List Az)->(List Bb)->(List Int)->Option Int
 |0,_,_,_,_,_,_,_,_,_,_,_,_,_,_=>none
 |n1+1,v1,v2,v3,v4,v5,v6,v7,v8,v9,v10,v11,v12,v13,v14=>bif decide (v2<v12.length)then if 0<=v2/\v2<v12.length then bif (gt v12 v2).G4==0 then Apg K v2 v3 v4 v5 v6 v7 v8 v9 v10 v11 v12 v13 v14 (Akk n1) (A1 v1 1)else(Az4 K v12 v2).bind fun r16=>bif r16 then Apg K v2 v3 v4 v5 v6 v7 v8 v9 v10 v11 v12 v13 v14 (Akk n1) v1 else if 0<=v2/\v2<v12.length then bif (gt v12 v2).G4 != 3 then if 0<=v2/\v2<v12.length then bif decide (((gt v12 v2).C7)<v8)then Apg K v2 v3 v4 v5 v6 v7 v8 v9 v10 v11 v12 v13 v14 (Akk n1) (A1 v1 1)else Apg K v2 v3 v4 v5 v6 v7 v8 v9 v10 v11 v12 v13 v14 (Akk n1) v1 else none else Apg K v2 v3 v4 v5 v6 v7 v8 v9 v10 v11 v12 v13 v14 (Akk n1) v1 else none else none else some v1
def A37 (a0:Bo):Option Int:=Akk K K 0 0 a0.fC.Ad a0.fC.Du a0.fC.Cd a0.fC.Ez a0.fC.Ce a0.fC.Dv a0.fP.Fp a0.fP.G4 a0.fP.Fq a0.fL a0.fQ a0.Jp
def Bvc:=fd Tryz.func344 ⟨[.v 38],[.v 3],true⟩ (gC (Bl9 K) gN) [18,19,23,24,25,32,33,34] [233]
def Bra:Fw:=⟨[(1,.p 101),(3,.v 2),(4,.v 2)],[(101,.box bx6)]⟩
def Bmc:=fun(C58:CT Bra _)=>jn (Bvc K) 233 Bra [(58,ar Bra C58)] (fun a b c d e f g h i j k l m o=>Apg K b c d e f g h i j k l m o C58 a) kN
def Brb:=lp (Bvc K) 58 Bra [] (Akk K) (fun n=>kC (Bmc K _) kN)
def Bzg:=ct (Bvc K) (A37 K) (kC (Brb K K) kN)
def Axe (K:Nat)(v2:Int)(v3 v4 v5:List Int)(C1:(List Int)->Int->(List Int)->(List Int)->(List Int)->Option (List Int))(v6:List Int):Option (List Int):=C1 v6 (A1 v2 1) v3 v4 v5
def Ao6 (a1:Int):Nat->(List Int)->Int->(List Int)->(List Int)->(List Int)->Option (List Int)
 |0,_,_,_,_,_=>none
 |n1+1,v1,v2,v3,v4,v5=>bif decide (v2<v4.length)then bif decide (v2<v5.length)then if 0<=v2/\v2<v4.length then bif (gt v4 v2)==1 then if 0<=v2/\v2<v5.length then bif (gt v5 v2)==a1 then if(v1++([v2]:List Int)).length*8<=140737488355328/\(v1++([v2]:List Int)).length<=maxLen then Axe K v2 v3 v4 v5 (Ao6 a1 n1) (v1++([v2]:List Int))else none else Axe K v2 v3 v4 v5 (Ao6 a1 n1) v1 else none else Axe K v2 v3 v4 v5 (Ao6 a1 n1) v1 else none else some v1 else some v1
def Azj (a0:Ef)(a1:Int):Option (List Int):=Ao6 K a1 K ([]:List Int) 0 a0.Fp a0.G4 a0.Fq
def Bvd:=fd Tryz.func155 ⟨[.v 34,.v 3],[.n 25 true],true⟩ gN [12,13,27,28] [233]
def Brc:Fw:=⟨[(1,.v 2),(2,.p 102),(5,.o 1005 3 true),(6,.v 2)],[(102,.box bx9)]⟩
def Bmd:=fun(C58:CT Brc _)=>jn Bvd 233 Brc [(58,ar Brc C58)] (fun a b c d e f=>Axe K c d e f (C58 a) b) kN
def Brd:=lp Bvd 58 Brc [] (fun n a=>Ao6 K a n) (fun n=>kC (Bmd K _) kN)
def Btq:=ct Bvd (Azj K) (kC (Brd K K) kN)
def Auw (r1:(List Int)):Nat->Int->Int->Int->Int->Int->Int->Int->Int->(List Int)->(List Int)->(List Int)->(List Az)->(List Bb)->(List Int)->Option Int
 |0,_,_,_,_,_,_,_,_,_,_,_,_,_,_=>none
 |n1+1,v2,v3,v4,v5,v6,v7,v8,v9,v10,v11,v12,v13,v14,v15=>bif decide (v3<r1.length)then if 0<=v3/\v3<r1.length then(Azj K (Ef.mk v10 v11 v12) (gt r1 v3)).bind fun r16=>Auw r1 n1 (A1 v2 r16.length) (A1 v3 1) v4 v5 v6 v7 v8 v9 v10 v11 v12 v13 v14 v15 else none else some v2
def A38 (a0:Bo):Option Int:=(A2b K a0).bind fun r1=>Auw K r1 K 0 0 a0.fC.Ad a0.fC.Du a0.fC.Cd a0.fC.Ez a0.fC.Ce a0.fC.Dv a0.fP.Fp a0.fP.G4 a0.fP.Fq a0.fL a0.fQ a0.Jp
def Bzh:=fd Tryz.func46 ⟨[.v 38],[.v 3],true⟩ (gC (Btj K) (gC (Btq K) gN))
def B2k:Fw:=⟨[(1,.p 101),(3,.v 2),(4,.v 25),(5,.v 2)],[(101,.box bx6)]⟩
def Bme:=lp (Bzh K) 122 B2k [] (fun n a b=>Auw K b n a) (fun n=>kN)
def Bzi:=ct (Bzh K) (A38 K) (kC (Bme K K) kN)
def Av8 (a0:Bo)(a1:Int):Option Bool:=bif decide (a1>=0)then bif decide (a1<=a0.fC.Ad)then(A38 K a0).bind fun r1=>some (decide (r1<=(Ap a0.fC.Ad a1)))else some false else some false
def Bmf:=ct (fd Tryz.func43 ⟨[.v 38,.v 3],[.v 4],true⟩ (gC (Bzi K) gN) [6,7,12,13,14]) (Av8 K)
def Aw3 (K:Nat)(v2:Int)(C1:Int->Int->Option Int)(v3:Int):Option Int:=C1 v3 (A1 v2 1)
def Alj (a0:List Az)(a1:Int):Nat->Int->Int->Option Int
 |0,_,_=>none
 |n1+1,v1,v2=>bif decide (v2<a0.length)then if 0<=v2/\v2<a0.length then bif (gt a0 v2).G4==a1 then Aw3 K v2 (Alj a0 a1 n1) (A1 v1 1)else Aw3 K v2 (Alj a0 a1 n1) v1 else none else some v1
def Aux (a0:List Az)(a1:Int):Option Int:=Alj K a0 a1 K 0 0
def Bve:=fd Tryz.func247 ⟨[.v 35,.v 3],[.v 3],true⟩ gN [] [233]
def Bre:Fw:=⟨[(0,.v 35),(1,.v 2),(5,.v 2),(6,.v 2)],[]⟩
def Bmg:=fun(C58:CT Bre _)=>jn Bve 233 Bre [(58,ar Bre C58)] (fun a b c d=>Aw3 K d (C58 a b) c) kN
def Brf:=lp Bve 58 Bre [] (fun n a b=>Alj K a b n) (fun n=>kC (Bmg K _) kN)
def Btr:=ct Bve (Aux K) (kC (Brf K K) kN)
def Av9 (K:Nat)(a1 a2:Int):Nat->Int->(List Int)->(List Int)->(List Int)->Option Bool
 |0,_,_,_,_=>none
 |n1+1,v1,v2,v3,v4=>bif decide (v1<(A1 a1 a2))then if 0<=v1/\v1<v3.length then bif (gt v3 v1) != 0 then some false else Av9 K a1 a2 n1 (A1 v1 1) v2 v3 v4 else none else some true
def A0r (a0:Ef)(a1 a2:Int):Option Bool:=bif decide (a1<0)then some false else bif decide (a2<1)then some false else bif decide (a1>a0.G4.length)then some false else bif decide (a2>(Ap a0.G4.length a1))then some false else Av9 K a1 a2 K a1 a0.Fp a0.G4 a0.Fq
def Bzj:=fd Tryz.func376 ⟨[.v 34,.v 3,.v 3],[.v 4],true⟩ gN [9,10,12,13,14,19,20,21]
def B2l:Fw:=⟨[(1,.v 2),(2,.v 2),(3,.p 103),(7,.v 2)],[(103,.box bx9)]⟩
def Brg:=lp Bzj 58 B2l [] (fun n a b=>Av9 K a b n) (fun n=>kN)
def Bts:=ct Bzj (A0r K) (kC (Brg K K) kN)
def Awl (a1:Int):Nat->Int->(List Int)->(List Int)->(List Int)->Option Int
 |0,_,_,_,_=>none
 |n1+1,v1,v2,v3,v4=>bif decide (v1<v3.length)then(A0r K (Ef.mk v2 v3 v4) v1 a1).bind fun r5=>bif r5 then some v1 else Awl a1 n1 (A1 v1 1) v2 v3 v4 else some (-1)
def A08 (a0:Ef)(a1:Int):Option Int:=Awl K a1 K 0 a0.Fp a0.G4 a0.Fq
def Bzk:=fd Tryz.func375 ⟨[.v 34,.v 3],[.v 3],true⟩ (gC (Bts K) gN)
def B2m:Fw:=⟨[(1,.v 2),(2,.p 102),(5,.v 2)],[(102,.box bx9)]⟩
def Brh:=lp (Bzk K) 26 B2m [] (fun n a=>Awl K a n) (fun n=>kN)
def Btt:=ct (Bzk K) (A08 K) (kC (Brh K K) kN)
def A3l (K:Nat)(a0:Bb):Option Int:=bif decide ((a0.Dh.length:Int)>0)then some 1 else bif decide ((a0.Ad.length:Int)>0)then some 2 else bif a0.Bz != 0 then some 3 else some 4
def Bzl:=ct (fd Tryz.func270 ⟨[.v 79],[.v 3],true⟩ gN) (A3l K)
def Ayy (K:Nat)(a0:Bo):Option Bo:=if(0:Int)<=0/\0<(a0.fQ.length:Int)then if 0<=(Ap (((gt a0.fQ 0).Dh).length:Int) 1)/\(Ap (((gt a0.fQ 0).Dh).length:Int) 1)<(((gt a0.fQ 0).Dh).length:Int)then if(a0.Jp++([(gt (gt a0.fQ 0).Dh (Ap (((gt a0.fQ 0).Dh).length:Int) 1))]:List Int)).length*8<=140737488355328/\(a0.Jp++([(gt (gt a0.fQ 0).Dh (Ap (((gt a0.fQ 0).Dh).length:Int) 1))]:List Int)).length<=maxLen then if(0:Int)<=0/\0<=(Ap (((gt a0.fQ 0).Dh).length:Int) 1)/\(Ap (((gt a0.fQ 0).Dh).length:Int) 1)<=(((gt a0.fQ 0).Dh).length:Int)then if(([]:List Int)++(((gt a0.fQ 0).Dh.drop (0:Int).toNat).take ((Ap (((gt a0.fQ 0).Dh).length:Int) 1) - 0).toNat)).length*8<=140737488355328/\(([]:List Int)++(((gt a0.fQ 0).Dh.drop (0:Int).toNat).take ((Ap (((gt a0.fQ 0).Dh).length:Int) 1) - 0).toNat)).length<=maxLen then some (Bo.mk a0.fC a0.fP a0.fL (a0.fQ.set (0:Int).toNat (Bb.mk (gt a0.fQ 0).Be (gt a0.fQ 0).Bz (([]:List Int)++(((gt a0.fQ 0).Dh.drop (0:Int).toNat).take ((Ap (((gt a0.fQ 0).Dh).length:Int) 1) - 0).toNat)) (gt a0.fQ 0).Ad (gt a0.fQ 0).H2)) (a0.Jp++([(gt (gt a0.fQ 0).Dh (Ap (((gt a0.fQ 0).Dh).length:Int) 1))]:List Int)))else none else none else none else none else none
def Bzm:=ct (fd Tryz.func271 ⟨[.b 38 false],[],false⟩ gN [] [] [(0,[.take 1 10 5026]),(2,[.take 1 11 5027])]) (Ayy K)
def Avj (K:Nat)(a0:Ef):Option Ef:=if(([]:List Int)++a0.Fp).length*1<=140737488355328/\(([]:List Int)++a0.Fp).length<=maxLen then if(([]:List Int)++a0.G4).length*8<=140737488355328/\(([]:List Int)++a0.G4).length<=maxLen then if(([]:List Int)++a0.Fq).length*8<=140737488355328/\(([]:List Int)++a0.Fq).length<=maxLen then some (Ef.mk (([]:List Int)++a0.Fp) (([]:List Int)++a0.G4) (([]:List Int)++a0.Fq))else none else none else none
def Bir:=ct (fd Tryz.func188 ⟨[.v 34],[.n 34 true],true⟩ gN) (Avj K)
def Awa (K:Nat)(a0:List Int):Nat->Int->Option Bool
 |0,_=>none
 |n1+1,v1=>bif decide (v1<a0.length)then if 0<=v1/\v1<a0.length then bif (gt a0 v1) != 0 then some false else Awa K a0 n1 (A1 v1 1)else none else some true
def Avk (a0:List Int):Option Bool:=Awa K a0 K 0
def Bzn:=fd Tryz.func237 ⟨[.v 24],[.v 4],true⟩ gN
def B2n:Fw:=⟨[(0,.v 24),(3,.v 2)],[]⟩
def Bri:=lp Bzn 26 B2n [] (fun n a=>Awa K a n) (fun n=>kN)
def Bis:=ct Bzn (Avk K) (kC (Bri K K) kN)
def A09 (K:Nat)(v3:Int)(v4 v5 v6:List Int)(C1:Int->(List Int)->(List Int)->(List Int)->Option Bool):Option Bool:=C1 (A1 v3 1) v4 v5 v6
def Awb (a0:Fi)(v3:Int)(v4 v5 v6:List Int)(C1:Int->(List Int)->(List Int)->(List Int)->Option Bool):Option Bool:=if 0<=v3/\v3<v5.length then bif (gt v5 v3)==0 then if 0<=(K1 v3 a0.Du)/\(K1 v3 a0.Du)<=(K1 (A1 v3 1) a0.Du)/\(K1 (A1 v3 1) a0.Du)<=v4.length then(Avk K ((v4.drop (K1 v3 a0.Du).toNat).take ((K1 (A1 v3 1) a0.Du) - (K1 v3 a0.Du)).toNat)).bind fun r9=>bif !r9 then some false else A09 K v3 v4 v5 v6 (C1)else none else A09 K v3 v4 v5 v6 (C1)else none
def Ao3 (a0:Fi):Nat->Int->(List Int)->(List Int)->(List Int)->Option Bool
 |0,_,_,_,_=>none
 |n1+1,v3,v4,v5,v6=>bif decide (v3<a0.Ad)then if 0<=v3/\v3<v5.length then(F2 K (gt v5 v3) 0 2).bind fun r7=>bif !r7 then some false else if 0<=v3/\v3<v5.length then bif (gt v5 v3)==1 then if 0<=v3/\v3<v6.length then(F2 K (gt v6 v3) 0 (Ap a0.Cd 1)).bind fun r8=>bif r8 then if 0<=v3/\v3<v5.length then bif (gt v5 v3) != 1 then if 0<=v3/\v3<v6.length then bif (gt v6 v3) != (-1)then some false else Awb K a0 v3 v4 v5 v6 (Ao3 a0 n1)else none else Awb K a0 v3 v4 v5 v6 (Ao3 a0 n1)else none else some false else none else if 0<=v3/\v3<v5.length then bif (gt v5 v3) != 1 then if 0<=v3/\v3<v6.length then bif (gt v6 v3) != (-1)then some false else Awb K a0 v3 v4 v5 v6 (Ao3 a0 n1)else none else Awb K a0 v3 v4 v5 v6 (Ao3 a0 n1)else none else none else none else some true
def A0s (a0:Fi)(a1:Ef):Option Bool:=(Ap3 K a0).bind fun r1=>bif r1 then(Avu K a0).bind fun r2=>bif (a1.Fp.length:Int) != r2 then some false else bif (a1.G4.length:Int) != a0.Ad then some false else bif (a1.Fq.length:Int) != a0.Ad then some false else Ao3 K a0 K 0 a1.Fp a1.G4 a1.Fq else some false
def Brj:=fd Tryz.func139 ⟨[.v 33,.v 34],[.v 4],true⟩ (gC (Be1 K) (gC (A5f K) (gC (Bq4 K) (gC (Bis K) gN)))) [7,8,9,15,16,17,23,24,25,51,52,61,62,63,64,70,71,85,86] [233,1865]
def Bgv:Fw:=⟨[(2,.p 102),(3,.p 103),(5,.v 2)],[(103,.box bx9),(102,.st 33 true)]⟩
def Bmh:=fun(C58:CT Bgv _)=>jn (Brj K) 233 Bgv [(58,ar Bgv C58)] (fun a b c d e=>A09 K a b c d (fun v3 v4 v5 v6=>C58 v3 v4 v5 v6 e)) kN
def Bj1:=fun(C58:CT Bgv _)=>jn (Brj K) 1865 Bgv [(58,ar Bgv C58)] (fun a b c d e=>Awb K e a b c d (fun v3 v4 v5 v6=>C58 v3 v4 v5 v6 e)) (kC (Bmh K _) kN)
def Brk:=lp (Brj K) 58 Bgv [] (fun n a b c d e=>Ao3 K e n a b c d) (fun n=>kC (Bj1 K _) kN)
def Btu:=ct (Brj K) (A0s K) (kC (Brk K K) kN)
def Az5 (K:Nat)(a0 a1:Int):Option Int:=bif decide (a1<a0)then some a1 else some a0
def Bzo:=ct (fd Tryz.func364 ⟨[.v 3,.v 3],[.v 3],true⟩ gN) (Az5 K)
def A0t (K:Nat)(a0:List Int)(a1 a2:Int):Nat->(List Int)->Int->Option (List Int)
 |0,_,_=>none
 |n1+1,v1,v2=>bif decide (v2<a0.length)then bif decide ((Ap v2 a1)<a2)then if 0<=v2/\v2<v1.length then A0t K a0 a1 a2 n1 (v1.set v2.toNat 0) (A1 v2 1)else none else some v1 else some v1
def A5h (a0:List Int)(a1 a2:Int):Option (List Int):=if(([]:List Int)++a0).length*1<=140737488355328/\(([]:List Int)++a0).length<=maxLen then bif decide (a1<0)then some (([]:List Int)++a0)else bif decide (a2<0)then some (([]:List Int)++a0)else A0t K a0 a1 a2 K (([]:List Int)++a0) a1 else none
def Bzp:=fd Tryz.func365 ⟨[.v 24,.v 3,.v 3],[.n 24 true],true⟩ gN [13,14,23,24]
def B2o:Fw:=⟨[(0,.v 24),(1,.v 2),(2,.v 2),(7,.o 1007 5 true),(8,.v 2)],[]⟩
def Bmi:=lp Bzp 122 B2o [] (fun n a b c=>A0t K a b c n) (fun n=>kN)
def Bzq:=ct Bzp (A5h K) (kC (Bmi K K) kN)
def Awc (a0:Fi)(a1:Ef)(a2 a3:Int):Option (Ef×Bool):=(Avj K a1).bind fun r1=>(A0s K a0 a1).bind fun r2=>bif r2 then(F2 K a2 0 (Ap a0.Ad 1)).bind fun r3=>bif r3 then if 0<=a2/\a2<a1.G4.length then bif (gt a1.G4 a2) != 2 then some (r1,false)else(F2 K a3 0 (Ap a0.Du 1)).bind fun r4=>bif !r4 then some (r1,false)else(Az5 K (A1 a3 a0.Ce) a0.Du).bind fun r5=>(A5h K a1.Fp (A1 (K1 a2 a0.Du) a3) (Ap r5 a3)).bind fun r6=>bif decide (r5<a0.Du)then some ((Ef.mk r6 r1.G4 r1.Fq),false)else if 0<=(K1 a2 a0.Du)/\(K1 a2 a0.Du)<=(K1 (A1 a2 1) a0.Du)/\(K1 (A1 a2 1) a0.Du)<=r6.length then(Avk K ((r6.drop (K1 a2 a0.Du).toNat).take ((K1 (A1 a2 1) a0.Du) - (K1 a2 a0.Du)).toNat)).bind fun r7=>bif !r7 then(Avj K a1).bind fun r8=>some (r8,false)else if 0<=a2/\a2<r1.G4.length then some ((Ef.mk r6 (r1.G4.set a2.toNat 0) r1.Fq),true)else none else none else none else some (r1,false)else some (r1,false)
def Bzr:=ct (fd Tryz.func318 ⟨[.v 33,.v 34,.v 3,.v 3],[.n 34 true,.v 4],true⟩ (gC (Btu K) (gC (A5f K) (gC (Bir K) (gC (Bis K) (gC (Bzo K) (gC (Bzq K) gN)))))) [16,17,18,23,24,25,26,32,33,34]) (Awc K)
def Azk (a0:Bo):Option Bo:=if(0:Int)<=0/\0<(a0.fQ.length:Int)then if(0:Int)<=0/\0<(((gt a0.fQ 0).Ad).length:Int)then(Awc K a0.fC a0.fP (gt (gt a0.fQ 0).Ad 0) (gt a0.fQ 0).H2).bind fun r1=>bif r1.2 then if(0:Int)<=1/\1<=(((gt a0.fQ 0).Ad).length:Int)/\(((gt a0.fQ 0).Ad).length:Int)<=(((gt a0.fQ 0).Ad).length:Int)then if(([]:List Int)++(((gt a0.fQ 0).Ad.drop (1:Int).toNat).take (((gt a0.fQ 0).Ad.length:Int) - 1).toNat)).length*8<=140737488355328/\(([]:List Int)++(((gt a0.fQ 0).Ad.drop (1:Int).toNat).take (((gt a0.fQ 0).Ad.length:Int) - 1).toNat)).length<=maxLen then some (Bo.mk a0.fC r1.1 a0.fL (a0.fQ.set (0:Int).toNat (Bb.mk (gt a0.fQ 0).Be (gt a0.fQ 0).Bz (gt a0.fQ 0).Dh (([]:List Int)++(((gt a0.fQ 0).Ad.drop (1:Int).toNat).take (((gt a0.fQ 0).Ad.length:Int) - 1).toNat)) 0)) a0.Jp)else none else none else some (Bo.mk a0.fC r1.1 a0.fL (a0.fQ.set (0:Int).toNat (Bb.mk (gt a0.fQ 0).Be (gt a0.fQ 0).Bz (gt a0.fQ 0).Dh (gt a0.fQ 0).Ad (A1 (gt a0.fQ 0).H2 a0.fC.Ce))) a0.Jp)else none else none
def Bzs:=ct (fd Tryz.func272 ⟨[.b 38 false],[],false⟩ (gC (Bzr K) gN) [] [] [(0,[.take 1 10 5026]),(1,[.take 1 6 5022,.take 1 7 5023,.take 1 8 5024])]) (Azk K)
def Ap5 (K:Nat)(a0:Az):Option Az:=if(([]:List Int)++a0.Ad).length*8<=140737488355328/\(([]:List Int)++a0.Ad).length<=maxLen then if(([]:List Bn)++a0.D5).length*24<=140737488355328/\(([]:List Bn)++a0.D5).length<=maxLen then if(([]:List Int)++a0.Dh).length*8<=140737488355328/\(([]:List Int)++a0.Dh).length<=maxLen then some (Az.mk a0.G4 a0.C7 a0.Nb a0.fUp a0.G5 a0.Bz a0.G6 a0.G7 (([]:List Int)++a0.Ad) a0.No a0.G8 (([]:List Bn)++a0.D5) (([]:List Int)++a0.Dh))else none else none else none
def Bcv:=ct (fd Tryz.func281 ⟨[.v 77],[.n 77 false],true⟩ gN) (Ap5 K)
def Axf (K:Nat)(v3 v4:Ef):Option Ef:=some v3
def A4f (a0:Ef)(a1:Int):Option Ef:=(Avj K a0).bind fun r1=>(F2 K a1 0 (Ap a0.G4.length 1)).bind fun r2=>bif r2 then bif decide (a1<a0.Fq.length)then if 0<=a1/\a1<a0.G4.length then bif (gt a0.G4 a1)==1 then if 0<=a1/\a1<r1.G4.length then if 0<=a1/\a1<r1.Fq.length then Axf K (Ef.mk r1.Fp (r1.G4.set a1.toNat 2) (r1.Fq.set a1.toNat (-1))) (Ef.mk [] [] [])else none else none else Axf K r1 (Ef.mk [] [] [])else none else Axf K r1 (Ef.mk [] [] [])else Axf K r1 (Ef.mk [] [] [])
def Bzt:=fd Tryz.func366 ⟨[.v 34,.v 3],[.n 34 true],true⟩ (gC (A5f K) (gC (Bir K) gN)) [13,14,19,20,21] [7] [(5,[.take 105 0 6680,.take 105 1 6681,.take 105 2 6682])]
def Bzu:Fw:=⟨[(4,.p 104),(5,.p 105)],[(105,.st 34 true),(104,.st 34 true)]⟩
def Bvf:=jn (Bzt K) 7 Bzu [] (Axf K) kN
def Bzv:=ct (Bzt K) (A4f K) (kC (Bvf K) kN)
def Akv (a1:List Int):Nat->Int->Int->Int->Int->Int->Int->Int->(List Int)->(List Int)->(List Int)->(List Az)->(List Bb)->(List Int)->Option Bo
 |0,_,_,_,_,_,_,_,_,_,_,_,_,_=>none
 |n1+1,v1,v2,v3,v4,v5,v6,v7,v8,v9,v10,v11,v12,v13=>bif decide (v1<a1.length)then if 0<=v1/\v1<a1.length then(A4f K (Ef.mk v8 v9 v10) (gt a1 v1)).bind fun r14=>Akv a1 n1 (A1 v1 1) v2 v3 v4 v5 v6 v7 r14.Fp r14.G4 r14.Fq v11 v12 v13 else none else some (Bo.mk (Fi.mk v2 v3 v4 v5 v6 v7) (Ef.mk v8 v9 v10) v11 v12 v13)
def Avl (a0:Bo)(a1:List Int):Option Bo:=Akv K a1 K 0 a0.fC.Ad a0.fC.Du a0.fC.Cd a0.fC.Ez a0.fC.Ce a0.fC.Dv a0.fP.Fp a0.fP.G4 a0.fP.Fq a0.fL a0.fQ a0.Jp
def Bzw:=fd Tryz.func319 ⟨[.b 38 false,.v 25],[],false⟩ (gC (Bzv K) gN) [] [] [(3,[.take 1 6 5022,.take 1 7 5023,.take 1 8 5024])]
def B2p:Fw:=⟨[(0,.p 1),(1,.v 25),(4,.v 2)],[(1,.box bx1)]⟩
def Bvg:=lp (Bzw K) 6 B2p [] (fun n a=>Akv K a n) (fun n=>kN)
def Bmj:=ct (Bzw K) (Avl K) (kC (Bvg K K) kN)
def A12 (K:Nat)(a0:Az):Option Az:=some (Az.mk 2 a0.C7 0 0 0 0 0 0 [] 0 0 [] [])
def Btv:=ct (fd Tryz.func320 ⟨[.v 77],[.n 77 false],true⟩ gN) (A12 K)
def Axg (K:Nat)(a0:Az)(a1:Int):Option Bb:=if(([]:List Int)++a0.Dh).length*8<=140737488355328/\(([]:List Int)++a0.Dh).length<=maxLen then if(([]:List Int)++a0.Ad).length*8<=140737488355328/\(([]:List Int)++a0.Ad).length<=maxLen then some (Bb.mk a1 a0.Bz (([]:List Int)++a0.Dh) (([]:List Int)++a0.Ad) 0)else none else none
def Bmk:=ct (fd Tryz.func279 ⟨[.v 77,.v 3],[.n 79 true],true⟩ gN) (Axg K)
def A1a (K:Nat)(a0:Az)(a1:Int):Option Bb:=if(([]:List Int)++a0.Dh).length*8<=140737488355328/\(([]:List Int)++a0.Dh).length<=maxLen then if(([]:List Int)++a0.Ad).length*8<=140737488355328/\(([]:List Int)++a0.Ad).length<=maxLen then some (Bb.mk a1 a0.Bz (([]:List Int)++a0.Dh) (([]:List Int)++a0.Ad) 0)else none else none
def Bzx:=ct (fd Tryz.func279 ⟨[.v 77,.v 3],[.v 79],false⟩ gN) (A1a K)
def Aub (r1:Az)(v4 v5:Int)(v6 v7:Int)(v8 v9 v10:Int)(v11 v12 v13:List Int)(v14:List Az)(v15:List Bb)(v16:List Int):Option Bo:=(Avl K (Bo.mk (Fi.mk v5 v6 v7 v8 v9 v10) (Ef.mk v11 v12 v13) v14 v15 v16) r1.Ad).bind fun r17=>(A12 K r1).bind fun r18=>if 0<=v4/\v4<r17.fL.length then(A1a K r1 (A1 v4 1)).bind fun r19=>if(([r19]:List Bb)++r17.fQ).length*72<=140737488355328/\(([r19]:List Bb)++r17.fQ).length<=maxLen then some (Bo.mk r17.fC r17.fP (r17.fL.set v4.toNat r18) (([r19]:List Bb)++r17.fQ) r17.Jp)else none else none
def Axh (a0:Bo):Option Bo:=if(0:Int)<=0/\0<(a0.fQ.length:Int)then if 0<=(Ap (gt a0.fQ 0).Bz 1)/\(Ap (gt a0.fQ 0).Bz 1)<a0.fL.length then if 0<=(Ap (gt a0.fQ 0).Bz 1)/\(Ap (gt a0.fQ 0).Bz 1)<a0.fL.length then(Ap5 K (gt a0.fL (Ap (gt a0.fQ 0).Bz 1))).bind fun r1=>if(0:Int)<=0/\0<(a0.fQ.length:Int)then(Acs K a0.fL r1.G6).bind fun r2=>bif r2 then if 0<=(Ap r1.G6 1)/\(Ap r1.G6 1)<a0.fL.length then Au7 (a0.fL.set (Ap r1.G6 1).toNat (Az.mk (gt a0.fL (Ap r1.G6 1)).G4 (gt a0.fL (Ap r1.G6 1)).C7 (gt a0.fL (Ap r1.G6 1)).Nb (gt a0.fL (Ap r1.G6 1)).fUp (gt a0.fL (Ap r1.G6 1)).G5 (gt a0.fL (Ap r1.G6 1)).Bz (gt a0.fL (Ap r1.G6 1)).G6 0 (gt a0.fL (Ap r1.G6 1)).Ad (gt a0.fL (Ap r1.G6 1)).No (gt a0.fL (Ap r1.G6 1)).G8 (gt a0.fL (Ap r1.G6 1)).D5 (gt a0.fL (Ap r1.G6 1)).Dh)) fun v3=>Aub K r1 (Ap (gt a0.fQ 0).Bz 1) a0.fC.Ad a0.fC.Du a0.fC.Cd a0.fC.Ez a0.fC.Ce a0.fC.Dv a0.fP.Fp a0.fP.G4 a0.fP.Fq v3 (a0.fQ.set (0:Int).toNat (Bb.mk (gt a0.fQ 0).Be r1.G6 (gt a0.fQ 0).Dh (gt a0.fQ 0).Ad (gt a0.fQ 0).H2)) a0.Jp else none else Aub K r1 (Ap (gt a0.fQ 0).Bz 1) a0.fC.Ad a0.fC.Du a0.fC.Cd a0.fC.Ez a0.fC.Ce a0.fC.Dv a0.fP.Fp a0.fP.G4 a0.fP.Fq a0.fL (a0.fQ.set (0:Int).toNat (Bb.mk (gt a0.fQ 0).Be r1.G6 (gt a0.fQ 0).Dh (gt a0.fQ 0).Ad (gt a0.fQ 0).H2)) a0.Jp else none else none else none else none
def Bzy:=fo Tryz.func273 ⟨[.b 38 false],[],false⟩ (gC (A9z K) (gC (Bcv K) (gC (Bmj K) (gC (Btv K) gN)))) (oC (d:=60) (gC (Bzx K) gN) oN) [] [15] [(0,[.take 1 10 5026]),(1,[.take 1 9 5025,.opn 5025 (.tmp 2),.takeE 5025 11 41611,.takeE 5025 12 41612]),(3,[.put 5025]),(5,[.take 103 8 6656,.frz 6656]),(6,[.take 1 9 5025,.take 103 11 6659,.take 103 12 6660]),(7,[.take 1 10 5026,.frz 6659,.frz 6660])]
def B2q:Fw:=⟨[(0,.p 1),(2,.v 2),(3,.p 103)],[(1,.box bx1),(103,.st 77 false)]⟩
def Brl:=jn (Bzy K) 15 B2q [] (fun a b c d e f g h i j k l m o=>Aub K o a b c d e f g h i j k l m) kN
def Bzz:=ct (Bzy K) (Axh K) (kC (Brl K) kN)
def Avv (a0:List Az):Nat->(List Az)->Int->Option (List Az)
 |0,_,_=>none
 |n1+1,v1,v2=>bif decide (v2<a0.length)then if 0<=v2/\v2<a0.length then(Ap5 K (gt a0 v2)).bind fun r3=>if(v1++[r3]).length*152<=140737488355328/\(v1++[r3]).length<=maxLen then Avv a0 n1 (v1++[r3]) (A1 v2 1)else none else none else some v1
def Ax9 (a0:List Az):Option (List Az):=Avv K a0 K ([]:List Az) 0
def Bz0:=fd Tryz.func189 ⟨[.v 35],[.n 35 true],false⟩ (gC (Bcv K) gN) (post:=[(20,[.put 3020])])
def B2r:Fw:=⟨[(0,.v 35),(3,.o 1003 77 true),(4,.v 2)],[]⟩
def Brm:=lp (Bz0 K) 58 B2r [] (fun n a=>Avv K a n) (fun n=>kN)
def Biu:=ct (Bz0 K) (Ax9 K) (kC (Brm K K) kN)
def A2d (K:Nat)(v3:List Az):Option (List Az):=some v3
def A4g (a0:List Az)(a1 a2:Int):Option (List Az):=(Ax9 K a0).bind fun r1=>(F2 K a1 0 (Ap a0.length 1)).bind fun r2=>bif !r2 then some r1 else if 0<=a1/\a1<a0.length then bif decide (((gt a0 a1).C7)>=a2)then if 0<=a1/\a1<r1.length then if 0<=a1/\a1<a0.length then if 0<=a1/\a1<r1.length then A2d K (r1.set a1.toNat (Az.mk 3 (gt a0 a1).C7 0 0 0 0 0 0 [] 0 0 [] []))else none else none else none else if 0<=a1/\a1<a0.length then(Amn K (A1 (gt a0 a1).C7 1)).bind fun r4=>if 0<=a1/\a1<r1.length then A2d K (r1.set a1.toNat r4)else none else none else none
def Bz1:=fd Tryz.func274 ⟨[.v 35,.v 3,.v 3],[.n 35 true],false⟩ (gC (A5f K) (gC (Biu K) (gC (Be2 K) gN))) [] [15] [(5,[.opn 1007 (.tmp 1)])]
def Bvh:Fw:=⟨[(7,.o 1007 77 true)],[]⟩
def Brn:=jn (Bz1 K) 15 Bvh [] (A2d K) kN
def Bz2:=ct (Bz1 K) (A4g K) (kC (Brn K) kN)
def Auc (K:Nat)(v6 v7:Int)(v8 v9:Int)(v10 v11:Int)(v12 v13 v14:List Int)(v15:List Az)(v16:List Bb)(v17:List Int):Option Bo:=if(0:Int)<=1/\1<=(v16.length:Int)/\(v16.length:Int)<=v16.length then if(([]:List Bb)++((v16.drop (1:Int).toNat).take ((v16.length:Int) - 1).toNat)).length*72<=140737488355328/\(([]:List Bb)++((v16.drop (1:Int).toNat).take ((v16.length:Int) - 1).toNat)).length<=maxLen then some (Bo.mk (Fi.mk v6 v7 v8 v9 v10 v11) (Ef.mk v12 v13 v14) v15 (([]:List Bb)++((v16.drop (1:Int).toNat).take ((v16.length:Int) - 1).toNat)) v17)else none else none
def Auq (a0:Bo):Option Bo:=if(0:Int)<=0/\0<(a0.fQ.length:Int)then(A3l K (gt a0.fQ 0)).bind fun r1=>bif r1==1 then(Ayy K a0).bind fun r2=>some r2 else bif r1==2 then(Azk K a0).bind fun r3=>some r3 else bif r1==3 then(Axh K a0).bind fun r4=>some r4 else if(0:Int)<=0/\0<(a0.fQ.length:Int)then bif (gt a0.fQ 0).Be != 0 then if(0:Int)<=0/\0<(a0.fQ.length:Int)then(A4g K a0.fL (Ap (gt a0.fQ 0).Be 1) a0.fC.Dv).bind fun r5=>Auc K a0.fC.Ad a0.fC.Du a0.fC.Cd a0.fC.Ez a0.fC.Ce a0.fC.Dv a0.fP.Fp a0.fP.G4 a0.fP.Fq r5 a0.fQ a0.Jp else none else Auc K a0.fC.Ad a0.fC.Du a0.fC.Cd a0.fC.Ez a0.fC.Ce a0.fC.Dv a0.fP.Fp a0.fP.G4 a0.fP.Fq a0.fL a0.fQ a0.Jp else none else none
def Bz3:=fd Tryz.func172 ⟨[.b 38 false],[],false⟩ (gC (Bzl K) (gC (Bzm K) (gC (Bzs K) (gC (Bzz K) (gC (Bz2 K) gN))))) [] [447] [(0,[.take 1 10 5026]),(2,[.take 1 9 5025,.frz 5025]),(3,[.take 1 10 5026]),(5,[.put 1]),(7,[.put 1]),(9,[.put 1])] [(39,[.shal 3039])]
def B2s:Fw:=⟨[(0,.p 1)],[(1,.box bx1)]⟩
def Bml:=jn (Bz3 K) 447 B2s [] (Auc K) kN
def Bmm:=ct (Bz3 K) (Auq K) (kC (Bml K) kN)
def Ayh (v1 v2:Int)(v3 v4:Int)(v5 v6 v7:Int)(v8 v9 v10:List Int)(v11:List Az)(v12:List Bb)(v13:List Int)(C1:Int->Int->Int->Int->Int->Int->Int->(List Int)->(List Int)->(List Int)->(List Az)->(List Bb)->(List Int)->Option (Int×Bo)):Option (Int×Bo):=(Auq K (Bo.mk (Fi.mk v2 v3 v4 v5 v6 v7) (Ef.mk v8 v9 v10) v11 v12 v13)).bind fun r15=>C1 (A1 v1 1) r15.fC.Ad r15.fC.Du r15.fC.Cd r15.fC.Ez r15.fC.Ce r15.fC.Dv r15.fP.Fp r15.fP.G4 r15.fP.Fq r15.fL r15.fQ r15.Jp
def Au2 (a1 a2:Int):Nat->Int->Int->Int->Int->Int->Int->Int->(List Int)->(List Int)->(List Int)->(List Az)->(List Bb)->(List Int)->Option (Int×Bo)
 |0,_,_,_,_,_,_,_,_,_,_,_,_,_=>none
 |n1+1,v1,v2,v3,v4,v5,v6,v7,v8,v9,v10,v11,v12,v13=>bif decide ((v12.length:Int)>0)then(Aux K v11 0).bind fun r14=>bif decide (r14<a1)then Ayh K v1 v2 v3 v4 v5 v6 v7 v8 v9 v10 v11 v12 v13 (Au2 a1 a2 n1)else bif decide (a2>0)then(A08 K (Ef.mk v8 v9 v10) a2).bind fun r16=>bif decide (r16<0)then Ayh K v1 v2 v3 v4 v5 v6 v7 v8 v9 v10 v11 v12 v13 (Au2 a1 a2 n1)else some (v1,(Bo.mk (Fi.mk v2 v3 v4 v5 v6 v7) (Ef.mk v8 v9 v10) v11 v12 v13))else some (v1,(Bo.mk (Fi.mk v2 v3 v4 v5 v6 v7) (Ef.mk v8 v9 v10) v11 v12 v13))else some (v1,(Bo.mk (Fi.mk v2 v3 v4 v5 v6 v7) (Ef.mk v8 v9 v10) v11 v12 v13))
def A0u (a0:Bo)(a1 a2:Int):Option (Int×Bo):=Au2 K a1 a2 K 0 a0.fC.Ad a0.fC.Du a0.fC.Cd a0.fC.Ez a0.fC.Ce a0.fC.Dv a0.fP.Fp a0.fP.G4 a0.fP.Fq a0.fL a0.fQ a0.Jp
def Bvi:=fd Tryz.func345 ⟨[.b 38 false,.v 3,.v 3],[.v 3],false⟩ (gC (Bmm K) (gC (Btr K) (gC (Btt K) gN))) [13,14,21,22,24,25] [56] [(2,[.take 1 10 5026,.take 1 9 5025,.take 1 6 5022,.take 1 7 5023,.take 1 8 5024])]
def Bro:Fw:=⟨[(0,.p 1),(1,.v 2),(2,.v 2),(7,.v 2)],[(1,.box bx1)]⟩
def Brp:=fun(C28:CT Bro _)=>jn (Bvi K) 56 Bro [(28,ar Bro C28)] (fun a b c d e f g h i j k l m o p=>Ayh K c d e f g h i j k l m o p (C28 a b)) kN
def Brq:=lp (Bvi K) 28 Bro [] (fun n a b=>Au2 K a b n) (fun n=>kC (Brp K _) kN)
def Bmn:=ct (Bvi K) (A0u K) (kC (Brq K K) kN)
def Avw (K:Nat)(a0:List Az):Nat->Int->Option Int
 |0,_=>none
 |n1+1,v1=>bif decide (v1<a0.length)then if 0<=v1/\v1<a0.length then bif (gt a0 v1).G4==0 then some v1 else Avw K a0 n1 (A1 v1 1)else none else some (-1)
def A3d (a0:List Az):Option Int:=Avw K a0 K 0
def Bz4:=fd Tryz.func346 ⟨[.v 35],[.v 3],true⟩ gN
def Bmo:Fw:=⟨[(0,.v 35),(3,.v 2)],[]⟩
def Brr:=lp Bz4 26 Bmo [] (fun n a=>Avw K a n) (fun n=>kN)
def Bz5:=ct Bz4 (A3d K) (kC (Brr K K) kN)
def Avx (K:Nat):Nat->Int->(List Int)->(List Int)->(List Int)->Option Int
 |0,_,_,_,_=>none
 |n1+1,v1,v2,v3,v4=>bif decide (v1<v3.length)then if 0<=v1/\v1<v3.length then bif (gt v3 v1)==0 then some v1 else Avx K n1 (A1 v1 1) v2 v3 v4 else none else some (-1)
def Az6 (a0:Ef):Option Int:=Avx K K 0 a0.Fp a0.G4 a0.Fq
def Bz6:=fd Tryz.func347 ⟨[.v 34],[.v 3],true⟩ gN
def B2t:Fw:=⟨[(1,.p 101),(3,.v 2)],[(101,.box bx9)]⟩
def Brs:=lp Bz6 26 B2t [] (Avx K) (fun n=>kN)
def Btw:=ct Bz6 (Az6 K) (kC (Brs K K) kN)
def Axi (K:Nat)(a1 a2 a3:Int):Nat->Int->Ef->Ef->Option Ef
 |0,_,_,_=>none
 |n1+1,v3,v4,v5=>bif decide (v3<(A1 a1 a2))then if 0<=v3/\v3<v4.G4.length then if 0<=v3/\v3<v4.Fq.length then Axi K a1 a2 a3 n1 (A1 v3 1) (Ef.mk v4.Fp (v4.G4.set v3.toNat 1) (v4.Fq.set v3.toNat a3)) v5 else none else none else some v4
def Avy (a0:Ef)(a1 a2 a3:Int):Option Ef:=(Avj K a0).bind fun r1=>(A0r K a0 a1 a2).bind fun r2=>bif r2 then bif (a0.Fq.length:Int) != (a0.G4.length:Int)then some r1 else Axi K a1 a2 a3 K a1 r1 (Ef.mk [] [] [])else some r1
def Bz7:=fd Tryz.func348 ⟨[.v 34,.v 3,.v 3,.v 3],[.n 34 true],true⟩ (gC (Bir K) (gC (Bts K) gN)) [16,17,18] [] [(7,[.take 109 1 6745]),(8,[.take 109 2 6746]),(9,[.take 109 0 6744,.take 109 1 6745,.take 109 2 6746])]
def B2u:Fw:=⟨[(1,.v 2),(2,.v 2),(3,.v 2),(8,.p 108),(9,.p 109),(10,.v 2)],[(109,.st 34 true),(108,.st 34 true)]⟩
def Bmp:=lp (Bz7 K) 122 B2u [] (fun n a b c=>Axi K a b c n) (fun n=>kN)
def Bmq:=ct (Bz7 K) (Avy K) (kC (Bmp K K) kN)
def A5i (K:Nat)(a0:Az):Option Bool:=bif a0.Nb==0 then bif a0.fUp==0 then bif a0.G5==0 then bif a0.Bz==0 then bif a0.G6==0 then bif a0.G7==0 then bif (a0.Ad.length:Int)==0 then bif a0.No==0 then bif a0.G8==0 then bif (a0.D5.length:Int)==0 then some ((a0.Dh.length:Int)==0)else some false else some false else some false else some false else some false else some false else some false else some false else some false else some false
def Bz8:=ct (fd Tryz.func239 ⟨[.v 77],[.v 4],true⟩ gN [5,6,9,10,11,14,15,16,19,20,21,24,25,26,29,30,31,35,36,37,40,41,42,45,46,47,51,52,53]) (A5i K)
def Azl (K:Nat)(a0:List Int)(a1:Int):Nat->Int->Option Bool
 |0,_=>none
 |n1+1,v1=>bif decide (v1<a0.length)then if 0<=v1/\v1<a0.length then bif (gt a0 v1)==a1 then some true else Azl K a0 a1 n1 (A1 v1 1)else none else some false
def Aum (a0:List Int)(a1:Int):Option Bool:=Azl K a0 a1 K 0
def Bz9:=fd Tryz.func242 ⟨[.v 25,.v 3],[.v 4],true⟩ gN
def B2v:Fw:=⟨[(0,.v 25),(1,.v 2),(5,.v 2)],[]⟩
def Brt:=lp Bz9 26 B2v [] (fun n a b=>Azl K a b n) (fun n=>kN)
def Be5:=ct Bz9 (Aum K) (kC (Brt K K) kN)
def Asi (a0:Fi):Nat->Int->Int->Int->Int->Int->Int->Int->Int->Int->(List Int)->Int->Int->(List Bn)->(List Int)->Option Bool
 |0,_,_,_,_,_,_,_,_,_,_,_,_,_,_=>none
 |n1+1,v1,v2,v3,v4,v5,v6,v7,v8,v9,v10,v11,v12,v13,v14=>bif decide (v1<v10.length)then if 0<=v1/\v1<v10.length then(F2 K (gt v10 v1) 0 (Ap a0.Ad 1)).bind fun r15=>bif r15 then if(0:Int)<=0/\0<=v1/\v1<=v10.length then if 0<=v1/\v1<v10.length then(Aum K ((v10.drop (0:Int).toNat).take (v1 - 0).toNat) (gt v10 v1)).bind fun r16=>bif r16 then some false else Asi a0 n1 (A1 v1 1) v2 v3 v4 v5 v6 v7 v8 v9 v10 v11 v12 v13 v14 else none else none else some false else none else bif v11==0 then some (v12==0)else(Aum K v10 (Ap v11 1)).bind fun r17=>bif r17 then(F2 K v12 0 a0.Du).bind fun r18=>some r18 else some false
def A1b (a0:Fi)(a1:Az):Option Bool:=Asi K a0 K 0 a1.G4 a1.C7 a1.Nb a1.fUp a1.G5 a1.Bz a1.G6 a1.G7 a1.Ad a1.No a1.G8 a1.D5 a1.Dh
def B0a:=fd Tryz.func240 ⟨[.v 33,.v 77],[.v 4],true⟩ (gC (A5f K) (gC (Be5 K) gN)) [21,22,23,46,47]
def Bmr:Fw:=⟨[(2,.p 102),(3,.p 103),(5,.v 2)],[(103,.box bx4),(102,.st 33 true)]⟩
def Bru:=lp (B0a K) 26 Bmr [] (fun n a b c d e f g h i j k l m o p=>Asi K p n a b c d e f g h i j k l m o) (fun n=>kN)
def B0b:=ct (B0a K) (A1b K) (kC (Bru K K) kN)
def Asj (K:Nat)(a0:Fi)(a1:Int):Option Bool:=some (decide (a1>a0.Du))
def Bms:=ct (fd Tryz.func302 ⟨[.v 33,.v 3],[.v 4],true⟩ gN) (Asj K)
def A2e (a0 a1:Int):Option Int:=(F2 K a0 0 1000000000).bind fun r1=>bif r1 then(F2 K a1 1 1000000000).bind fun r2=>bif !r2 then some 0 else if a1≠(0:Int)then some (Apq .i64 (Ap (A1 a0 a1) 1) a1)else none else some 0
def B0c:=ct (fd Tryz.func322 ⟨[.v 3,.v 3],[.v 3],true⟩ (gC (A5f K) gN) [6,7,8]) (A2e K)
def Ao7 (a0:Fi)(a1:Int):Option Int:=(A2e K a1 a0.Du).bind fun r1=>some r1
def Bmt:=ct (fd Tryz.func303 ⟨[.v 33,.v 3],[.v 3],true⟩ (gC (B0c K) gN)) (Ao7 K)
def Axj (a0:Fi)(a1:Bn):Option Bool:=(Avu K a0).bind fun r1=>bif r1==0 then some false else bif decide (a1.Yg<1)then some false else bif decide (a1.fAt<0)then some false else bif decide (a1.fAt>r1)then some false else bif decide (a1.Yg>(Ap r1 a1.fAt))then some false else bif a1.Yh==0 then bif decide (a1.Yg<=a0.Du)then if a0.Du≠(0:Int)then if a0.Du≠(0:Int)then some ((Apq .i64 a1.fAt a0.Du)==(Apq .i64 (Ap (A1 a1.fAt a1.Yg) 1) a0.Du))else none else none else some false else(Asj K a0 a1.Yg).bind fun r2=>bif r2 then(Ao7 K a0 a1.Yg).bind fun r3=>bif a1.Yh==r3 then if a0.Du≠(0:Int)then some ((Int.tmod a1.fAt a0.Du)==0)else none else some false else some false
def Btx:=ct (fd Tryz.func241 ⟨[.v 33,.v 183],[.v 4],true⟩ (gC (Bq4 K) (gC (Bms K) (gC (Bmt K) gN))) [9,10,13,14,15,18,19,20,24,25,26,42,43,63,64,71,72,73]) (Axj K)
def Au3 (v23:List Int):Nat->Int->Option Bool
 |0,_=>none
 |n2+1,v25=>bif decide (v25<v23.length)then if 0<=v25/\v25<v23.length then(F2 K (gt v23 v25) 0 255).bind fun r26=>bif !r26 then some false else Au3 v23 n2 (A1 v25 1)else none else some true
def At1 (a0:Fi):Nat->Int->Int->Int->Int->Int->Int->Int->Int->Int->(List Int)->Int->Int->(List Bn)->(List Int)->Option Bool
 |0,_,_,_,_,_,_,_,_,_,_,_,_,_,_=>none
 |n1+1,v10,v11,v12,v13,v14,v15,v16,v17,v18,v19,v20,v21,v22,v23=>bif decide (v10<v22.length)then if 0<=v10/\v10<v22.length then(Axj K a0 (gt v22 v10)).bind fun r24=>bif !r24 then some false else At1 a0 n1 (A1 v10 1) v11 v12 v13 v14 v15 v16 v17 v18 v19 v20 v21 v22 v23 else none else Au3 K v23 K 0
def Aun (a0:Fi)(a1:Az):Option Bool:=(Ap3 K a0).bind fun r1=>bif r1 then(F2 K a1.G4 0 3).bind fun r2=>bif r2 then(F2 K a1.C7 1 a0.Dv).bind fun r3=>bif !r3 then some false else bif a1.G4 != 1 then(A5i K a1).bind fun r4=>some r4 else bif decide (a1.Nb<0)then some false else bif decide (a1.G5<0)then some false else(F2 K a1.fUp 0 a0.Cd).bind fun r5=>bif r5 then(F2 K a1.Bz 0 a0.Cd).bind fun r6=>bif r6 then(F2 K a1.G6 0 a0.Cd).bind fun r7=>bif r7 then(F2 K a1.G7 0 a0.Cd).bind fun r8=>bif r8 then(A1b K a0 a1).bind fun r9=>bif r9 then bif decide ((a1.D5.length:Int)>12)then some false else bif decide ((a1.Dh.length:Int)>6)then some false else At1 K a0 K 0 a1.G4 a1.C7 a1.Nb a1.fUp a1.G5 a1.Bz a1.G6 a1.G7 a1.Ad a1.No a1.G8 a1.D5 a1.Dh else some false else some false else some false else some false else some false else some false else some false
def Bvj:=fd Tryz.func141 ⟨[.v 33,.v 77],[.v 4],true⟩ (gC (Be1 K) (gC (A5f K) (gC (Bz8 K) (gC (B0b K) (gC (Btx K) gN))))) [8,9,10,13,14,15,16,31,32,35,36,37,42,43,44,45,50,51,52,53,58,59,60,61,66,67,68,69,72,73,74,75,79,80,81]
def B2w:Fw:=⟨[(3,.p 103),(6,.v 2)],[(103,.box bx4)]⟩
def Bmu:=lp (Bvj K) 506 B2w [] (fun n a _ _ _ _ _ _ _ _ _ _ _ _ o=>Au3 K o n a) (fun n=>kN)
def Bmv:=lp (Bvj K) 250 Bmr [] (fun n a b c d e f g h i j k l m o p=>At1 K p n a b c d e f g h i j k l m o) (fun n=>kC (up (Bmu K K)) kN)
def Bcw:=ct (Bvj K) (Aun K) (kC (Bmv K K) kN)
def Ayz (a0:Fi)(a1:Az)(a2:Int):Option (Az×Bool):=(Ap5 K a1).bind fun r1=>bif a1.G4 != 1 then some (r1,false)else(F2 K a2 0 (Ap a0.Ad 1)).bind fun r2=>bif !r2 then some (r1,false)else if(r1.Ad++([a2]:List Int)).length*8<=140737488355328/\(r1.Ad++([a2]:List Int)).length<=maxLen then(Aun K a0 (Az.mk r1.G4 r1.C7 r1.Nb r1.fUp r1.G5 r1.Bz r1.G6 r1.G7 (r1.Ad++([a2]:List Int)) (A1 a2 1) 0 r1.D5 r1.Dh)).bind fun r3=>bif !r3 then(Ap5 K a1).bind fun r4=>some (r4,false)else some ((Az.mk r1.G4 r1.C7 r1.Nb r1.fUp r1.G5 r1.Bz r1.G6 r1.G7 (r1.Ad++([a2]:List Int)) (A1 a2 1) 0 r1.D5 r1.Dh),true)else none
def Bmw:=ct (fd Tryz.func349 ⟨[.v 33,.v 77,.v 3],[.n 77 false,.v 4],true⟩ (gC (Bcw K) (gC (A5f K) (gC (Bcv K) gN))) [13,14]) (Ayz K)
def A3m (K:Nat)(v11:List Az):Option (List Az):=some v11
def A13 (a0:List Az)(a1 a2:Int):Option (List Az):=(Ax9 K a0).bind fun r1=>(Acs K a0 (A1 a1 1)).bind fun r2=>bif r2 then(Acs K a0 (A1 a2 1)).bind fun r3=>bif r3 then bif a1==a2 then some r1 else if 0<=a1/\a1<a0.length then if 0<=a2/\a2<r1.length then Au7 (r1.set a2.toNat (Az.mk (gt r1 a2).G4 (gt r1 a2).C7 (gt r1 a2).Nb (A1 a1 1) (gt r1 a2).G5 (gt r1 a2).Bz (gt r1 a2).G6 (gt r1 a2).G7 (gt r1 a2).Ad (gt r1 a2).No (gt r1 a2).G8 (gt r1 a2).D5 (gt r1 a2).Dh)) fun v4=>if 0<=a1/\a1<a0.length then if 0<=a2/\a2<v4.length then Au7 (v4.set a2.toNat (Az.mk (gt v4 a2).G4 (gt v4 a2).C7 (gt v4 a2).Nb (gt v4 a2).fUp (gt a0 a1).Nb (gt v4 a2).Bz (gt v4 a2).G6 (gt v4 a2).G7 (gt v4 a2).Ad (gt v4 a2).No (gt v4 a2).G8 (gt v4 a2).D5 (gt v4 a2).Dh)) fun v5=>if 0<=a2/\a2<v5.length then Au7 (v5.set a2.toNat (Az.mk (gt v5 a2).G4 (gt v5 a2).C7 (gt v5 a2).Nb (gt v5 a2).fUp (gt v5 a2).G5 (gt v5 a2).Bz (gt a0 a1).Bz (gt v5 a2).G7 (gt v5 a2).Ad (gt v5 a2).No (gt v5 a2).G8 (gt v5 a2).D5 (gt v5 a2).Dh)) fun v6=>if 0<=a2/\a2<v6.length then Au7 (v6.set a2.toNat (Az.mk (gt v6 a2).G4 (gt v6 a2).C7 (gt v6 a2).Nb (gt v6 a2).fUp (gt v6 a2).G5 (gt v6 a2).Bz (gt v6 a2).G6 0 (gt v6 a2).Ad (gt v6 a2).No (gt v6 a2).G8 (gt v6 a2).D5 (gt v6 a2).Dh)) fun v7=>if 0<=a1/\a1<v7.length then Au7 (v7.set a1.toNat (Az.mk (gt v7 a1).G4 (gt v7 a1).C7 (gt v7 a1).Nb (gt v7 a1).fUp (gt v7 a1).G5 (A1 a2 1) (gt v7 a1).G6 (gt v7 a1).G7 (gt v7 a1).Ad (gt v7 a1).No (gt v7 a1).G8 (gt v7 a1).D5 (gt v7 a1).Dh)) fun v8=>(Acs K a0 (gt a0 a1).Bz).bind fun r9=>bif r9 then if 0<=(Ap (gt a0 a1).Bz 1)/\(Ap (gt a0 a1).Bz 1)<v8.length then Au7 (v8.set (Ap (gt a0 a1).Bz 1).toNat (Az.mk (gt v8 (Ap (gt a0 a1).Bz 1)).G4 (gt v8 (Ap (gt a0 a1).Bz 1)).C7 (gt v8 (Ap (gt a0 a1).Bz 1)).Nb (gt v8 (Ap (gt a0 a1).Bz 1)).fUp (gt v8 (Ap (gt a0 a1).Bz 1)).G5 (gt v8 (Ap (gt a0 a1).Bz 1)).Bz (gt v8 (Ap (gt a0 a1).Bz 1)).G6 (A1 a2 1) (gt v8 (Ap (gt a0 a1).Bz 1)).Ad (gt v8 (Ap (gt a0 a1).Bz 1)).No (gt v8 (Ap (gt a0 a1).Bz 1)).G8 (gt v8 (Ap (gt a0 a1).Bz 1)).D5 (gt v8 (Ap (gt a0 a1).Bz 1)).Dh)) fun v10=>A3m K v10 else none else A3m K v8 else none else none else none else none else none else none else none else some r1 else some r1
def B0d:=fd Tryz.func350 ⟨[.v 35,.v 3,.v 3],[.n 35 true],false⟩ (gC (Biu K) (gC (A9z K) gN)) [14,15,16,20,21,22,23] [1023]
def Bj2:=jn (B0d K) 1023 Bvh [] (A3m K) kN
def B0e:=ct (B0d K) (A13 K) (kC (Bj2 K) kN)
def Aue (a1:Int):Nat->Int->Int->Int->Int->Int->Int->Int->(List Int)->(List Int)->(List Int)->(List Az)->(List Bb)->(List Int)->Option (Int×Bo)
 |0,_,_,_,_,_,_,_,_,_,_,_,_,_=>none
 |n1+1,v1,v2,v3,v4,v5,v6,v7,v8,v9,v10,v11,v12,v13=>bif decide (v1<a1)then bif (v12.length:Int)==0 then some (v1,(Bo.mk (Fi.mk v2 v3 v4 v5 v6 v7) (Ef.mk v8 v9 v10) v11 v12 v13))else(Auq K (Bo.mk (Fi.mk v2 v3 v4 v5 v6 v7) (Ef.mk v8 v9 v10) v11 v12 v13)).bind fun r14=>Aue a1 n1 (A1 v1 1) r14.fC.Ad r14.fC.Du r14.fC.Cd r14.fC.Ez r14.fC.Ce r14.fC.Dv r14.fP.Fp r14.fP.G4 r14.fP.Fq r14.fL r14.fQ r14.Jp else some (a1,(Bo.mk (Fi.mk v2 v3 v4 v5 v6 v7) (Ef.mk v8 v9 v10) v11 v12 v13))
def Avz (a0:Bo)(a1:Int):Option (Int×Bo):=Aue K a1 K 0 a0.fC.Ad a0.fC.Du a0.fC.Cd a0.fC.Ez a0.fC.Ce a0.fC.Dv a0.fP.Fp a0.fP.G4 a0.fP.Fq a0.fL a0.fQ a0.Jp
def B0f:=fd Tryz.func86 ⟨[.b 38 false,.v 3],[.v 3],false⟩ (gC (Bmm K) gN) [] [] [(4,[.take 1 10 5026]),(6,[.put 1])]
def B2x:Fw:=⟨[(0,.p 1),(1,.v 2),(5,.v 2)],[(1,.box bx1)]⟩
def Brv:=lp (B0f K) 26 B2x [] (fun n a=>Aue K a n) (fun n=>kN)
def Biv:=ct (B0f K) (Avz K) (kC (Brv K K) kN)
def Axk (r19 v25:Int)(v26 v27:Int)(v28 v29 v30:Int)(v31 v32 v33:List Int)(v34:List Az)(v35:List Bb)(v36:List Int)(v37:F8):Option (F8×Bo):=(Ayf K v34 r19).bind fun r38=>(Avz K (Bo.mk (Fi.mk v25 v26 v27 v28 v29 v30) (Ef.mk v31 v32 v33) v34 v35 v36) v28).bind fun r39=>some ((F8.mk v37.Aab r38 v37.fR v37.fB v37.Aac r39.1 v37.R2),r39.2)
def Ars (v3 v4:Int)(v5 v6:Int)(v7 v8 v9:Int)(v10 v11 v12:List Int)(v13:List Az)(v14:List Bb)(v15:List Int)(v16 v17:F8):Option (F8×Bo):=bif v16.Aab != 0 then some (v16,(Bo.mk (Fi.mk v4 v5 v6 v7 v8 v9) (Ef.mk v10 v11 v12) v13 v14 v15))else(A0u K (Bo.mk (Fi.mk v4 v5 v6 v7 v8 v9) (Ef.mk v10 v11 v12) v13 v14 v15) 1 1).bind fun r18=>(A3d K r18.2.fL).bind fun r19=>(Az6 K r18.2.fP).bind fun r20=>bif decide (r19<0)then some ((F8.mk 5 (Ch.mk 0 0) (Fb.mk (Ch.mk 0 0) 0 0) [] 0 0 0),r18.2)else bif decide (r20<0)then some ((F8.mk 5 (Ch.mk 0 0) (Fb.mk (Ch.mk 0 0) 0 0) [] 0 0 0),r18.2)else if 0<=r19/\r19<r18.2.fL.length then(Amn K (gt r18.2.fL r19).C7).bind fun r21=>(Avy K r18.2.fP r20 1 r19).bind fun r22=>(Ayz K r18.2.fC (Az.mk 1 r21.C7 r21.Nb r21.fUp r21.G5 r21.Bz r21.G6 r21.G7 r21.Ad r21.No r21.G8 r21.D5 r21.Dh) r20).bind fun r23=>if 0<=r19/\r19<r18.2.fL.length then bif decide (v3>=0)then(A13 K (r18.2.fL.set r19.toNat r23.1) v3 r19).bind fun r24=>Axk K r19 r18.2.fC.Ad r18.2.fC.Du r18.2.fC.Cd r18.2.fC.Ez r18.2.fC.Ce r18.2.fC.Dv r22.Fp r22.G4 r22.Fq r24 r18.2.fQ r18.2.Jp (F8.mk v16.Aab v16.fH v16.fR v16.fB v16.Aac v16.Ez r18.1)else Axk K r19 r18.2.fC.Ad r18.2.fC.Du r18.2.fC.Cd r18.2.fC.Ez r18.2.fC.Ce r18.2.fC.Dv r22.Fp r22.G4 r22.Fq (r18.2.fL.set r19.toNat r23.1) r18.2.fQ r18.2.Jp (F8.mk v16.Aab v16.fH v16.fR v16.fB v16.Aac v16.Ez r18.1)else none else none
def Axl (v41:Int)(v42:Bool)(v43 v44:Int)(v45 v46:Int)(v47 v48:Int)(v49 v50 v51:List Int)(v52:List Az)(v53:List Bb)(v54:List Int)(v55 v56:F8):Option (F8×Bo):=bif v42 then Ars K v41 v43 v44 v45 v46 v47 v48 v49 v50 v51 v52 v53 v54 (F8.mk 3 v55.fH v55.fR v55.fB v55.Aac v55.Ez v55.R2) v56 else(A37 K (Bo.mk (Fi.mk v43 v44 v45 v46 v47 v48) (Ef.mk v49 v50 v51) v52 v53 v54)).bind fun r57=>bif r57==0 then Ars K v41 v43 v44 v45 v46 v47 v48 v49 v50 v51 v52 v53 v54 (F8.mk 4 v55.fH v55.fR v55.fB v55.Aac v55.Ez v55.R2) v56 else(Av8 K (Bo.mk (Fi.mk v43 v44 v45 v46 v47 v48) (Ef.mk v49 v50 v51) v52 v53 v54) 1).bind fun r58=>bif !r58 then Ars K v41 v43 v44 v45 v46 v47 v48 v49 v50 v51 v52 v53 v54 (F8.mk 5 v55.fH v55.fR v55.fB v55.Aac v55.Ez v55.R2) v56 else Ars K v41 v43 v44 v45 v46 v47 v48 v49 v50 v51 v52 v53 v54 v55 v56
def A2f (a0:Bo)(a1:Ch):Option (F8×Bo):=(A4e K a0 a1).bind fun r1=>(Asf K a0 a1).bind fun r2=>bif r1.2 != 0 then Ars K r1.1 a0.fC.Ad a0.fC.Du a0.fC.Cd a0.fC.Ez a0.fC.Ce a0.fC.Dv a0.fP.Fp a0.fP.G4 a0.fP.Fq a0.fL a0.fQ a0.Jp (F8.mk r1.2 (Ch.mk 0 0) (Fb.mk (Ch.mk 0 0) 0 0) [] r2 0 0) (F8.mk 0 (Ch.mk 0 0) (Fb.mk (Ch.mk 0 0) 0 0) [] 0 0 0)else bif decide (r1.1>=0)then(A0q K a0.fL r1.1).bind fun r40=>Axl K r1.1 (decide (r40>=4)) a0.fC.Ad a0.fC.Du a0.fC.Cd a0.fC.Ez a0.fC.Ce a0.fC.Dv a0.fP.Fp a0.fP.G4 a0.fP.Fq a0.fL a0.fQ a0.Jp (F8.mk r1.2 (Ch.mk 0 0) (Fb.mk (Ch.mk 0 0) 0 0) [] r2 0 0) (F8.mk 0 (Ch.mk 0 0) (Fb.mk (Ch.mk 0 0) 0 0) [] 0 0 0)else Axl K r1.1 false a0.fC.Ad a0.fC.Du a0.fC.Cd a0.fC.Ez a0.fC.Ce a0.fC.Dv a0.fP.Fp a0.fP.G4 a0.fP.Fq a0.fL a0.fQ a0.Jp (F8.mk r1.2 (Ch.mk 0 0) (Fb.mk (Ch.mk 0 0) 0 0) [] r2 0 0) (F8.mk 0 (Ch.mk 0 0) (Fb.mk (Ch.mk 0 0) 0 0) [] 0 0 0)
def Brw:=fd Tryz.func305 ⟨[.b 38 false,.v 40],[.n 44 true],false⟩ (gC (Bmf K) (gC (Biv K) (gC (Btl K) (gC (Be2 K) (gC (Ba2 K) (gC (Bzf K) (gC (Btp K) (gC (Bzg K) (gC (Bmn K) (gC (Bz5 K) (gC (Btw K) (gC (Bmq K) (gC (Bmw K) (gC (B0e K) gN)))))))))))))) [31,32,74,75] [15,243,32767] [(1,[.take 1 6 5022,.take 1 7 5023,.take 1 8 5024,.take 1 9 5025,.take 1 10 5026,.take 1 11 5027]),(6,[.take 1 6 5022,.take 1 7 5023,.take 1 8 5024,.take 1 9 5025,.take 1 10 5026,.take 1 11 5027]),(11,[.take 107 7 6719]),(13,[.take 1 9 5025]),(14,[.take 1 6 5022,.take 1 7 5023,.take 1 8 5024]),(23,[.put 5025,.frz 5025]),(24,[.take 1 9 5025]),(25,[.put 1]),(26,[.take 107 7 6719])]
def B2y:Fw:=⟨[(0,.p 1),(4,.p 104),(7,.p 107),(8,.v 2)],[(1,.box bx1),(107,.st 44 true),(104,.st 44 true)]⟩
def B2z:Fw:=⟨[(0,.p 1),(4,.p 104),(5,.v 2),(7,.p 107)],[(1,.box bx1),(107,.st 44 true),(104,.st 44 true)]⟩
def B20:Fw:=⟨[(0,.p 1),(4,.p 104),(5,.v 2),(7,.p 107),(29,.v 4)],[(1,.box bx1),(107,.st 44 true),(104,.st 44 true)]⟩
def Bgw:=jn (Brw K) 32767 B2y [] (fun a b c d e f g h i j k l m o _=>Axk K a b c d e f g h i j k l m o) kN
def Biw:=jn (Brw K) 15 B2z [] (Ars K) (kC (Bgw K) kN)
def Bmx:=jn (Brw K) 243 B20 [] (Axl K) (kC (Biw K) kN)
def B0g:=ct (Brw K) (A2f K) (kC (Biw K) (kC (Bmx K) kN))
def Av0 (K:Nat)(a0:Int):Option Bool:=bif a0==1 then some true else bif a0==2 then some true else some (a0==4)
def Bix:=ct (fd Tryz.func351 ⟨[.v 3],[.v 4],true⟩ gN [4,5,7,8,9]) (Av0 K)
def Aph (a0:Fi)(a2 a3 r6:Int):Nat->Int->Az->Az->Int->Int->Int->Int->Int->Int->Int->Int->(List Int)->Int->Int->(List Bn)->(List Int)->Option (Az×Bool)
 |0,_,_,_,_,_,_,_,_,_,_,_,_,_,_,_,_=>none
 |n1+1,v7,v8,v9,v10,v11,v12,v13,v14,v15,v16,v17,v18,v19,v20,v21,v22=>bif decide (v7<r6)then if(v8.Ad++([(A1 a2 v7)]:List Int)).length*8<=140737488355328/\(v8.Ad++([(A1 a2 v7)]:List Int)).length<=maxLen then Aph a0 a2 a3 r6 n1 (A1 v7 1) (Az.mk v8.G4 v8.C7 v8.Nb v8.fUp v8.G5 v8.Bz v8.G6 v8.G7 (v8.Ad++([(A1 a2 v7)]:List Int)) v8.No v8.G8 v8.D5 v8.Dh) v9 v10 v11 v12 v13 v14 v15 v16 v17 v18 v19 v20 v21 v22 else none else if(v8.D5++([(Bn.mk (K1 a2 a0.Du) a3 r6)]:List Bn)).length*24<=140737488355328/\(v8.D5++([(Bn.mk (K1 a2 a0.Du) a3 r6)]:List Bn)).length<=maxLen then(Aun K a0 (Az.mk v8.G4 v8.C7 v8.Nb v8.fUp v8.G5 v8.Bz v8.G6 v8.G7 v8.Ad v8.No v8.G8 (v8.D5++([(Bn.mk (K1 a2 a0.Du) a3 r6)]:List Bn)) v8.Dh)).bind fun r23=>bif !r23 then(Ap5 K (Az.mk v10 v11 v12 v13 v14 v15 v16 v17 v18 v19 v20 v21 v22)).bind fun r24=>some (r24,false)else some ((Az.mk v8.G4 v8.C7 v8.Nb v8.fUp v8.G5 v8.Bz v8.G6 v8.G7 v8.Ad v8.No v8.G8 (v8.D5++([(Bn.mk (K1 a2 a0.Du) a3 r6)]:List Bn)) v8.Dh),true)else none
def Au4 (a0:Fi)(a1:Az)(a2 a3:Int):Option (Az×Bool):=(Ap5 K a1).bind fun r1=>(Ap3 K a0).bind fun r2=>bif r2 then bif a1.G4 != 1 then some (r1,false)else(Asj K a0 a3).bind fun r3=>bif r3 then(Avu K a0).bind fun r4=>bif decide (a3>r4)then some (r1,false)else(F2 K a2 0 (Ap a0.Ad 1)).bind fun r5=>bif !r5 then some (r1,false)else(Ao7 K a0 a3).bind fun r6=>Aph K a0 a2 a3 r6 K 0 r1 (Az.mk 0 0 0 0 0 0 0 0 [] 0 0 [] []) a1.G4 a1.C7 a1.Nb a1.fUp a1.G5 a1.Bz a1.G6 a1.G7 a1.Ad a1.No a1.G8 a1.D5 a1.Dh else some (r1,false)else some (r1,false)
def B0h:=fd Tryz.func374 ⟨[.v 33,.v 77,.v 3,.v 3],[.n 77 false,.v 4],true⟩ (gC (Be1 K) (gC (Bcw K) (gC (A5f K) (gC (Bq4 K) (gC (Bcv K) (gC (Bms K) (gC (Bmt K) gN))))))) [16,17,18,21,22,23,26,27,28,29,33,34,35] [] [(8,[.take 110 8 6768]),(9,[.take 110 11 6771]),(10,[.take 110 8 6768,.take 110 12 6772])]
def B21:Fw:=⟨[(2,.v 2),(3,.v 2),(4,.p 104),(5,.p 105),(8,.p 108),(10,.p 110),(11,.v 2),(12,.v 2)],[(110,.st 77 false),(108,.st 77 false),(105,.box bx4),(104,.st 33 true)]⟩
def Bmy:=lp (B0h K) 250 B21 [] (fun n a b c d e f g h i j k l m o p q r s t u=>Aph K u a b c n d e f g h i j k l m o p q r s t) (fun n=>kN)
def Bty:=ct (B0h K) (Au4 K) (kC (Bmy K K) kN)
def A1c (a0:Bo)(a1 a2:Int)(a3:F8):Option (F8×Bo):=(Ao7 K a0.fC a2).bind fun r1=>(Av8 K a0 r1).bind fun r2=>bif !r2 then some ((F8.mk 5 a3.fH a3.fR a3.fB a3.Aac a3.Ez a3.R2),a0)else(A0u K a0 0 r1).bind fun r3=>(A08 K r3.2.fP r1).bind fun r4=>bif decide (r4<0)then some ((F8.mk 6 a3.fH a3.fR a3.fB a3.Aac a3.Ez r3.1),r3.2)else(Avy K r3.2.fP r4 r1 a1).bind fun r5=>if 0<=a1/\a1<r3.2.fL.length then if 0<=a1/\a1<r3.2.fL.length then(Au4 K r3.2.fC (gt r3.2.fL a1) r4 a2).bind fun r6=>if 0<=a1/\a1<r3.2.fL.length then some ((F8.mk a3.Aab a3.fH a3.fR a3.fB a3.Aac a3.Ez r3.1),(Bo.mk r3.2.fC r5 (r3.2.fL.set a1.toNat r6.1) r3.2.fQ r3.2.Jp))else none else none else none
def B0i:=ct (fd Tryz.func352 ⟨[.b 38 false,.v 3,.v 3,.v 44],[.v 44],false⟩ (gC (Bmf K) (gC (Bmt K) (gC (Bmn K) (gC (Bmq K) (gC (Bty K) (gC (Btt K) gN)))))) [] [] [(2,[.take 1 6 5022,.take 1 7 5023,.take 1 8 5024,.take 1 9 5025,.take 1 10 5026,.take 1 11 5027]),(5,[.put 1]),(6,[.take 1 6 5022,.take 1 7 5023,.take 1 8 5024]),(11,[.take 1 9 5025,.opn 5025 (.tmp 1),.takeE 5025 11 41611,.takeE 5025 12 41612])]) (A1c K)
def A2g (a0 a1:Int):Option Int:=(F2 K a0 0 1000000000).bind fun r1=>bif r1 then(Av0 K a1).bind fun r2=>bif !r2 then some 0 else if a1≠(0:Int)then some (K1 (Apq .i64 (Ap (A1 a0 a1) 1) a1) a1)else none else some 0
def B0j:=ct (fd Tryz.func390 ⟨[.v 3,.v 3],[.v 3],true⟩ (gC (A5f K) (gC (Bix K) gN)) [6,7,8]) (A2g K)
def A0v (a0:Fi)(a1:Az)(a2 a3:Int):Option (Int×Bool):=(Aun K a0 a1).bind fun r1=>bif r1 then bif a1.No==0 then some (0,false)else(F2 K a2 1 a0.Du).bind fun r2=>bif r2 then(Av0 K a3).bind fun r3=>bif !r3 then some (0,false)else(A2g K a1.G8 a3).bind fun r4=>bif decide ((A1 r4 a2)>a0.Du)then some (0,false)else some ((A1 (K1 (Ap a1.No 1) a0.Du) r4),true)else some (0,false)else some (0,false)
def Btz:=ct (fd Tryz.func384 ⟨[.v 33,.v 77,.v 3,.v 3],[.v 3,.v 4],true⟩ (gC (Bcw K) (gC (A5f K) (gC (Bix K) (gC (B0j K) gN)))) [13,14,15,18,19,20,24,25,26,27]) (A0v K)
def Ay5 (a0:Fi)(a1:Az)(a2 a3:Int):Option Bool:=(A0v K a0 a1 a2 a3).bind fun r1=>bif r1.2 then some false else(Aun K a0 a1).bind fun r2=>bif r2 then bif a1.G4==1 then(F2 K a2 1 a0.Du).bind fun r3=>bif r3 then(Av0 K a3).bind fun r4=>some r4 else some false else some false else some false
def B0k:=ct (fd Tryz.func377 ⟨[.v 33,.v 77,.v 3,.v 3],[.v 4],true⟩ (gC (Bcw K) (gC (A5f K) (gC (Bix K) (gC (Btz K) gN)))) [19,20,21,24,25,26,29,30,31,35,36,37]) (Ay5 K)
def Ayi (a0:Fi)(a1:Az)(a2 a3:Int):Option (Az×Bool):=(Ap5 K a1).bind fun r1=>(A0v K a0 a1 a2 a3).bind fun r2=>bif r2.2 then bif decide ((a1.D5.length:Int)>=12)then some (r1,false)else if(r1.D5++([(Bn.mk r2.1 a2 0)]:List Bn)).length*24<=140737488355328/\(r1.D5++([(Bn.mk r2.1 a2 0)]:List Bn)).length<=maxLen then some ((Az.mk r1.G4 r1.C7 r1.Nb r1.fUp r1.G5 r1.Bz r1.G6 r1.G7 r1.Ad r1.No (A1 (Ap r2.1 (K1 (Ap a1.No 1) a0.Du)) a2) (r1.D5++([(Bn.mk r2.1 a2 0)]:List Bn)) r1.Dh),true)else none else some (r1,false)
def Bt0:=ct (fd Tryz.func373 ⟨[.v 33,.v 77,.v 3,.v 3],[.n 77 false,.v 4],true⟩ (gC (Bcv K) (gC (Btz K) gN)) [23,24,25]) (Ayi K)
def Awm (a1 a2:Int)(a3 v7:Int)(v8 v9:Int)(v10 v11 v12:Int)(v13 v14 v15:List Int)(v16:List Az)(v17:List Bb)(v18:List Int)(v19:F8)(v20 v21:Int)(v22 v23:Int)(v24 v25 v26:Int)(v27:List Int)(v28 v29 v30:Int):Option (F8×Bo):=if 0<=a1/\a1<v16.length then if 0<=a1/\a1<v16.length then(Ayi K (Fi.mk v7 v8 v9 v10 v11 v12) (gt v16 a1) a2 a3).bind fun r31=>if 0<=a1/\a1<v16.length then some ((F8.mk v20 (Ch.mk v21 v22) (Fb.mk (Ch.mk v23 v24) v25 v26) v27 v28 v29 v30),(Bo.mk (Fi.mk v7 v8 v9 v10 v11 v12) (Ef.mk v13 v14 v15) (v16.set a1.toNat r31.1) v17 v18))else none else none else none
def A1d (a0:Bo)(a1 a2 a3:Int)(a4:F8):Option (F8×Bo):=if 0<=a1/\a1<a0.fL.length then if 0<=a1/\a1<a0.fL.length then(Ay5 K a0.fC (gt a0.fL a1) a2 a3).bind fun r1=>bif r1 then(Av8 K a0 1).bind fun r2=>bif !r2 then some ((F8.mk 5 a4.fH a4.fR a4.fB a4.Aac a4.Ez a4.R2),a0)else(A0u K a0 0 1).bind fun r3=>(Az6 K r3.2.fP).bind fun r4=>bif decide (r4<0)then some ((F8.mk 5 a4.fH a4.fR a4.fB a4.Aac a4.Ez r3.1),r3.2)else(Avy K r3.2.fP r4 1 a1).bind fun r5=>if 0<=a1/\a1<r3.2.fL.length then if 0<=a1/\a1<r3.2.fL.length then(Ayz K r3.2.fC (gt r3.2.fL a1) r4).bind fun r6=>if 0<=a1/\a1<r3.2.fL.length then Awm K a1 a2 a3 r3.2.fC.Ad r3.2.fC.Du r3.2.fC.Cd r3.2.fC.Ez r3.2.fC.Ce r3.2.fC.Dv r5.Fp r5.G4 r5.Fq (r3.2.fL.set a1.toNat r6.1) r3.2.fQ r3.2.Jp (F8.mk 0 (Ch.mk 0 0) (Fb.mk (Ch.mk 0 0) 0 0) [] 0 0 0) a4.Aab a4.fH.Be a4.fH.C7 a4.fR.fH.Be a4.fR.fH.C7 a4.fR.Nb a4.fR.fNo a4.fB a4.Aac a4.Ez r3.1 else none else none else none else Awm K a1 a2 a3 a0.fC.Ad a0.fC.Du a0.fC.Cd a0.fC.Ez a0.fC.Ce a0.fC.Dv a0.fP.Fp a0.fP.G4 a0.fP.Fq a0.fL a0.fQ a0.Jp (F8.mk 0 (Ch.mk 0 0) (Fb.mk (Ch.mk 0 0) 0 0) [] 0 0 0) a4.Aab a4.fH.Be a4.fH.C7 a4.fR.fH.Be a4.fR.fH.C7 a4.fR.Nb a4.fR.fNo a4.fB a4.Aac a4.Ez a4.R2 else none else none
def B0l:=fd Tryz.func353 ⟨[.b 38 false,.v 3,.v 3,.v 3,.v 44],[.v 44],false⟩ (gC (Bmf K) (gC (Bmn K) (gC (Btw K) (gC (Bmq K) (gC (Bmw K) (gC (Bt0 K) (gC (B0k K) gN))))))) [] [3] [(1,[.take 1 9 5025,.opn 5025 (.tmp 1),.takeE 5025 11 41611,.takeE 5025 12 41612]),(2,[.take 1 6 5022,.take 1 7 5023,.take 1 8 5024,.take 1 10 5026,.take 1 11 5027,.put 5025]),(5,[.put 1]),(6,[.take 1 6 5022,.take 1 7 5023,.take 1 8 5024]),(11,[.take 1 9 5025,.opn 5025 (.tmp 1),.takeE 5025 11 41611,.takeE 5025 12 41612]),(13,[.take 1 9 5025,.opn 5025 (.tmp 1),.takeE 5025 11 41611,.takeE 5025 12 41612])]
def B22:Fw:=⟨[(0,.p 1),(1,.v 2),(2,.v 2),(3,.v 2),(9,.p 109),(10,.p 110)],[(1,.box bx1),(110,.st 44 true),(109,.box bx5)]⟩
def Bvk:=jn (B0l K) 3 B22 [] (Awm K) kN
def B0m:=ct (B0l K) (A1d K) (kC (Bvk K) kN)
def Awn (a1:Ch)(v5 v22:Int)(v23 v24:Int)(v25 v26 v27:Int)(v28 v29 v30:List Int)(v31:List Az)(v32:List Bb)(v33:List Int)(v34 v35:Int)(v36 v37:Int)(v38 v39 v40:Int)(v41:List Int)(v42 v43 v44:Int):Option (F8×Bo):=bif v34 != 0 then some ((F8.mk v34 (Ch.mk v35 v36) (Fb.mk (Ch.mk v37 v38) v39 v40) v41 v42 v43 v44),(Bo.mk (Fi.mk v22 v23 v24 v25 v26 v27) (Ef.mk v28 v29 v30) v31 v32 v33))else if 0<=v5/\v5<v31.length then if 0<=v5/\v5<v31.length then if 0<=v5/\v5<v31.length then(Avz K (Bo.mk (Fi.mk v22 v23 v24 v25 v26 v27) (Ef.mk v28 v29 v30) v31 v32 v33) v25).bind fun r45=>some ((F8.mk v34 (Ch.mk v35 v36) (Fb.mk a1 (gt v31 v5).Nb (Ap (((gt v31 v5).D5).length:Int) 1)) v41 v42 r45.1 v44),r45.2)else none else none else none
def Auy (a1:Ch)(a2 a3:Int)(v5 v6:Int)(v7 v8:Int)(v9 v10 v11:Int)(v12 v13 v14:List Int)(v15:List Az)(v16:List Bb)(v17:List Int)(v18 v19:F8):Option (F8×Bo):=bif v18.Aab != 0 then some (v18,(Bo.mk (Fi.mk v6 v7 v8 v9 v10 v11) (Ef.mk v12 v13 v14) v15 v16 v17))else(Asj K (Fi.mk v6 v7 v8 v9 v10 v11) a2).bind fun r20=>bif r20 then(A1c K (Bo.mk (Fi.mk v6 v7 v8 v9 v10 v11) (Ef.mk v12 v13 v14) v15 v16 v17) v5 a2 v18).bind fun r21=>Awn K a1 v5 r21.2.fC.Ad r21.2.fC.Du r21.2.fC.Cd r21.2.fC.Ez r21.2.fC.Ce r21.2.fC.Dv r21.2.fP.Fp r21.2.fP.G4 r21.2.fP.Fq r21.2.fL r21.2.fQ r21.2.Jp r21.1.Aab r21.1.fH.Be r21.1.fH.C7 r21.1.fR.fH.Be r21.1.fR.fH.C7 r21.1.fR.Nb r21.1.fR.fNo r21.1.fB r21.1.Aac r21.1.Ez r21.1.R2 else(A1d K (Bo.mk (Fi.mk v6 v7 v8 v9 v10 v11) (Ef.mk v12 v13 v14) v15 v16 v17) v5 a2 a3 v18).bind fun r46=>Awn K a1 v5 r46.2.fC.Ad r46.2.fC.Du r46.2.fC.Cd r46.2.fC.Ez r46.2.fC.Ce r46.2.fC.Dv r46.2.fP.Fp r46.2.fP.G4 r46.2.fP.Fq r46.2.fL r46.2.fQ r46.2.Jp r46.1.Aab r46.1.fH.Be r46.1.fH.C7 r46.1.fR.fH.Be r46.1.fR.fH.C7 r46.1.fR.Nb r46.1.fR.fNo r46.1.fB r46.1.Aac r46.1.Ez r46.1.R2
def A1e (a0:Bo)(a1:Ch)(a2 a3:Int):Option (F8×Bo):=(F2 K a2 1 200).bind fun r1=>bif r1 then(Av0 K a3).bind fun r2=>bif !r2 then some ((F8.mk 1 (Ch.mk 0 0) (Fb.mk (Ch.mk 0 0) 0 0) [] 0 0 0),a0)else(Ark K a0 a1).bind fun r3=>(Asf K a0 a1).bind fun r4=>bif r3.2==0 then if 0<=r3.1/\r3.1<a0.fL.length then if 0<=r3.1/\r3.1<a0.fL.length then bif decide (((gt a0.fL r3.1).D5.length:Int)>=12)then Auy K a1 a2 a3 r3.1 a0.fC.Ad a0.fC.Du a0.fC.Cd a0.fC.Ez a0.fC.Ce a0.fC.Dv a0.fP.Fp a0.fP.G4 a0.fP.Fq a0.fL a0.fQ a0.Jp (F8.mk 8 (Ch.mk 0 0) (Fb.mk (Ch.mk 0 0) 0 0) [] r4 0 0) (F8.mk 0 (Ch.mk 0 0) (Fb.mk (Ch.mk 0 0) 0 0) [] 0 0 0)else Auy K a1 a2 a3 r3.1 a0.fC.Ad a0.fC.Du a0.fC.Cd a0.fC.Ez a0.fC.Ce a0.fC.Dv a0.fP.Fp a0.fP.G4 a0.fP.Fq a0.fL a0.fQ a0.Jp (F8.mk r3.2 (Ch.mk 0 0) (Fb.mk (Ch.mk 0 0) 0 0) [] r4 0 0) (F8.mk 0 (Ch.mk 0 0) (Fb.mk (Ch.mk 0 0) 0 0) [] 0 0 0)else none else none else Auy K a1 a2 a3 r3.1 a0.fC.Ad a0.fC.Du a0.fC.Cd a0.fC.Ez a0.fC.Ce a0.fC.Dv a0.fP.Fp a0.fP.G4 a0.fP.Fq a0.fL a0.fQ a0.Jp (F8.mk r3.2 (Ch.mk 0 0) (Fb.mk (Ch.mk 0 0) 0 0) [] r4 0 0) (F8.mk 0 (Ch.mk 0 0) (Fb.mk (Ch.mk 0 0) 0 0) [] 0 0 0)else some ((F8.mk 1 (Ch.mk 0 0) (Fb.mk (Ch.mk 0 0) 0 0) [] 0 0 0),a0)
def Bvl:=fd Tryz.func306 ⟨[.b 38 false,.v 40,.v 3,.v 3],[.v 44],false⟩ (gC (Biv K) (gC (A5f K) (gC (Bms K) (gC (Bcu K) (gC (Ba2 K) (gC (Bix K) (gC (B0i K) (gC (B0m K) gN)))))))) [13,14,15,37,38] [31,127] [(3,[.take 1 6 5022,.take 1 7 5023,.take 1 8 5024,.take 1 9 5025,.take 1 10 5026,.take 1 11 5027]),(8,[.take 111 7 6783]),(10,[.take 111 7 6783,.frz 6783]),(11,[.take 111 7 6783,.frz 6783]),(14,[.take 1 9 5025,.opn 5025 (.tmp 9),.takeE 5025 11 41611]),(15,[.put 1])] [(43,[.opn 5025 (.tmp 43)]),(45,[.takeE 5025 11 41611])]
def B23:Fw:=⟨[(0,.p 1),(5,.p 105),(8,.p 108),(9,.v 2),(11,.p 111)],[(1,.box bx1),(111,.box bx5),(108,.st 44 true),(105,.st 40 true)]⟩
def B24:Fw:=⟨[(0,.p 1),(2,.v 2),(3,.v 2),(5,.p 105),(8,.p 108),(9,.v 2),(11,.p 111)],[(1,.box bx1),(111,.st 44 true),(108,.st 44 true),(105,.st 40 true)]⟩
def Bmz:=jn (Bvl K) 127 B23 [] (fun a b c d e f g h i j k l m o p q r s t u v w x y _ a1=>Awn K a1 a b c d e f g h i j k l m o p q r s t u v w x y) kN
def Brx:=jn (Bvl K) 31 B24 [] (fun a b c d e f g h i j k l m o p q r s=>Auy K s a b c d e f g h i j k l m o p q r) (kC (Bmz K) kN)
def B0n:=ct (Bvl K) (A1e K) (kC (Brx K) kN)
def A2h (a0:Az):Option Az:=(Ap5 K a0).bind fun r1=>some (Az.mk r1.G4 r1.C7 (A1 a0.Nb 1) r1.fUp r1.G5 0 r1.G6 r1.G7 ([]:List Int) 0 0 ([]:List Bn) ([]:List Int))
def B0o:=ct (fd Tryz.func356 ⟨[.v 77],[.n 77 false],true⟩ (gC (Bcv K) gN)) (A2h K)
def Ay6 (a0:Bo)(a1:Int):Option Bo:=if 0<=a1/\a1<a0.fL.length then if 0<=a1/\a1<a0.fL.length then(Axg K (gt a0.fL a1) 0).bind fun r1=>if 0<=a1/\a1<a0.fL.length then(Avl K a0 (gt a0.fL a1).Ad).bind fun r2=>if 0<=a1/\a1<r2.fL.length then if 0<=a1/\a1<r2.fL.length then(A2h K (gt r2.fL a1)).bind fun r3=>if 0<=a1/\a1<r2.fL.length then if(r2.fQ++([r1]:List Bb)).length*72<=140737488355328/\(r2.fQ++([r1]:List Bb)).length<=maxLen then some (Bo.mk r2.fC r2.fP (r2.fL.set a1.toNat r3) (r2.fQ++([r1]:List Bb)) r2.Jp)else none else none else none else none else none else none else none
def B0p:=ct (fd Tryz.func309 ⟨[.b 38 false,.v 3],[],false⟩ (gC (Bmk K) (gC (Bmj K) (gC (B0o K) gN))) [] [] [(0,[.take 1 9 5025,.opn 5025 (.tmp 1),.takeE 5025 11 41611,.takeE 5025 12 41612]),(1,[.put 1,.take 1 9 5025]),(2,[.take 1 9 5025,.opn 5025 (.tmp 1),.takeE 5025 11 41611,.takeE 5025 12 41612]),(3,[.take 1 10 5026,.frz 20384,.frz 20385])] [(21,[.put 1])]) (Ay6 K)
def Ayj (K:Nat)(a1:Int)(v21:List Az):Option (List Az):=if 0<=a1/\a1<v21.length then Au7 (v21.set a1.toNat (Az.mk (gt v21 a1).G4 (gt v21 a1).C7 (gt v21 a1).Nb 0 (gt v21 a1).G5 (gt v21 a1).Bz (gt v21 a1).G6 (gt v21 a1).G7 (gt v21 a1).Ad (gt v21 a1).No (gt v21 a1).G8 (gt v21 a1).D5 (gt v21 a1).Dh)) fun v22=>if 0<=a1/\a1<v22.length then Au7 (v22.set a1.toNat (Az.mk (gt v22 a1).G4 (gt v22 a1).C7 (gt v22 a1).Nb (gt v22 a1).fUp 0 (gt v22 a1).Bz (gt v22 a1).G6 (gt v22 a1).G7 (gt v22 a1).Ad (gt v22 a1).No (gt v22 a1).G8 (gt v22 a1).D5 (gt v22 a1).Dh)) fun v23=>if 0<=a1/\a1<v23.length then Au7 (v23.set a1.toNat (Az.mk (gt v23 a1).G4 (gt v23 a1).C7 (gt v23 a1).Nb (gt v23 a1).fUp (gt v23 a1).G5 (gt v23 a1).Bz 0 (gt v23 a1).G7 (gt v23 a1).Ad (gt v23 a1).No (gt v23 a1).G8 (gt v23 a1).D5 (gt v23 a1).Dh)) fun v24=>if 0<=a1/\a1<v24.length then Au7 (v24.set a1.toNat (Az.mk (gt v24 a1).G4 (gt v24 a1).C7 (gt v24 a1).Nb (gt v24 a1).fUp (gt v24 a1).G5 (gt v24 a1).Bz (gt v24 a1).G6 0 (gt v24 a1).Ad (gt v24 a1).No (gt v24 a1).G8 (gt v24 a1).D5 (gt v24 a1).Dh)) fun v25=>some v25 else none else none else none else none
def Awd (a0:List Az)(a1:Int)(v5:List Az)(v6 v7:Int)(v8 v9:Int)(v10 v11:Int)(v12 v13:Int)(v14:List Int)(v15 v16:Int)(v17:List Bn)(v18:List Int):Option (List Az):=(Acs K a0 v12).bind fun r19=>bif r19 then if 0<=(Ap v12 1)/\(Ap v12 1)<v5.length then Au7 (v5.set (Ap v12 1).toNat (Az.mk (gt v5 (Ap v12 1)).G4 (gt v5 (Ap v12 1)).C7 (gt v5 (Ap v12 1)).Nb (gt v5 (Ap v12 1)).fUp (gt v5 (Ap v12 1)).G5 (gt v5 (Ap v12 1)).Bz (gt v5 (Ap v12 1)).G6 v13 (gt v5 (Ap v12 1)).Ad (gt v5 (Ap v12 1)).No (gt v5 (Ap v12 1)).G8 (gt v5 (Ap v12 1)).D5 (gt v5 (Ap v12 1)).Dh)) fun v20=>Ayj K a1 v20 else none else Ayj K a1 v5
def Au5 (a0:List Az)(a1:Int)(r1:(List Az))(v27:Bool)(v28 v29:Int)(v30 v31:Int)(v32 v33:Int)(v34 v35:Int)(v36:List Int)(v37 v38:Int)(v39:List Bn)(v40:List Int):Option (List Az):=bif v27 then if 0<=(Ap v31 1)/\(Ap v31 1)<r1.length then Au7 (r1.set (Ap v31 1).toNat (Az.mk (gt r1 (Ap v31 1)).G4 (gt r1 (Ap v31 1)).C7 (gt r1 (Ap v31 1)).Nb (gt r1 (Ap v31 1)).fUp (gt r1 (Ap v31 1)).G5 v34 (gt r1 (Ap v31 1)).G6 (gt r1 (Ap v31 1)).G7 (gt r1 (Ap v31 1)).Ad (gt r1 (Ap v31 1)).No (gt r1 (Ap v31 1)).G8 (gt r1 (Ap v31 1)).D5 (gt r1 (Ap v31 1)).Dh)) fun v41=>Awd K a0 a1 v41 v28 v29 v30 v31 v32 v33 v34 v35 v36 v37 v38 v39 v40 else none else Awd K a0 a1 r1 v28 v29 v30 v31 v32 v33 v34 v35 v36 v37 v38 v39 v40
def A3n (a0:List Az)(a1:Int):Option (List Az):=(Ax9 K a0).bind fun r1=>(Acs K a0 (A1 a1 1)).bind fun r2=>bif !r2 then some r1 else if 0<=a1/\a1<a0.length then(Acs K a0 (gt a0 a1).G7).bind fun r3=>bif r3 then if 0<=(Ap (gt a0 a1).G7 1)/\(Ap (gt a0 a1).G7 1)<r1.length then Au7 (r1.set (Ap (gt a0 a1).G7 1).toNat (Az.mk (gt r1 (Ap (gt a0 a1).G7 1)).G4 (gt r1 (Ap (gt a0 a1).G7 1)).C7 (gt r1 (Ap (gt a0 a1).G7 1)).Nb (gt r1 (Ap (gt a0 a1).G7 1)).fUp (gt r1 (Ap (gt a0 a1).G7 1)).G5 (gt r1 (Ap (gt a0 a1).G7 1)).Bz (gt a0 a1).G6 (gt r1 (Ap (gt a0 a1).G7 1)).G7 (gt r1 (Ap (gt a0 a1).G7 1)).Ad (gt r1 (Ap (gt a0 a1).G7 1)).No (gt r1 (Ap (gt a0 a1).G7 1)).G8 (gt r1 (Ap (gt a0 a1).G7 1)).D5 (gt r1 (Ap (gt a0 a1).G7 1)).Dh)) fun v4=>Awd K a0 a1 v4 (gt a0 a1).G4 (gt a0 a1).C7 (gt a0 a1).Nb (gt a0 a1).fUp (gt a0 a1).G5 (gt a0 a1).Bz (gt a0 a1).G6 (gt a0 a1).G7 (gt a0 a1).Ad (gt a0 a1).No (gt a0 a1).G8 (gt a0 a1).D5 (gt a0 a1).Dh else none else bif (gt a0 a1).G7==0 then(Acs K a0 (gt a0 a1).fUp).bind fun r26=>bif r26 then if 0<=(Ap (gt a0 a1).fUp 1)/\(Ap (gt a0 a1).fUp 1)<a0.length then Au5 K a0 a1 r1 (((gt a0 (Ap (gt a0 a1).fUp 1)).Bz)==(A1 a1 1)) (gt a0 a1).G4 (gt a0 a1).C7 (gt a0 a1).Nb (gt a0 a1).fUp (gt a0 a1).G5 (gt a0 a1).Bz (gt a0 a1).G6 (gt a0 a1).G7 (gt a0 a1).Ad (gt a0 a1).No (gt a0 a1).G8 (gt a0 a1).D5 (gt a0 a1).Dh else none else Au5 K a0 a1 r1 false (gt a0 a1).G4 (gt a0 a1).C7 (gt a0 a1).Nb (gt a0 a1).fUp (gt a0 a1).G5 (gt a0 a1).Bz (gt a0 a1).G6 (gt a0 a1).G7 (gt a0 a1).Ad (gt a0 a1).No (gt a0 a1).G8 (gt a0 a1).D5 (gt a0 a1).Dh else Au5 K a0 a1 r1 false (gt a0 a1).G4 (gt a0 a1).C7 (gt a0 a1).Nb (gt a0 a1).fUp (gt a0 a1).G5 (gt a0 a1).Bz (gt a0 a1).G6 (gt a0 a1).G7 (gt a0 a1).Ad (gt a0 a1).No (gt a0 a1).G8 (gt a0 a1).D5 (gt a0 a1).Dh else none
def Bry:=fd Tryz.func357 ⟨[.v 35,.v 3],[.n 35 true],false⟩ (gC (Biu K) (gC (A9z K) gN)) [35,36,40,41,42] [31,63,499]
def B25:Fw:=⟨[(1,.v 2),(5,.o 1005 77 true)],[]⟩
def B26:Fw:=⟨[(0,.v 35),(1,.v 2),(5,.o 1005 77 true),(6,.p 106)],[(106,.box bx4)]⟩
def B27:Fw:=⟨[(0,.v 35),(1,.v 2),(5,.o 1005 77 true),(6,.p 106),(32,.v 4)],[(106,.box bx4)]⟩
def Brz:=jn (Bry K) 63 B25 [] (Ayj K) kN
def Biy:=jn (Bry K) 31 B26 [] (Awd K) (kC (Brz K) kN)
def Bm0:=jn (Bry K) 499 B27 [] (Au5 K) (kC (Biy K) kN)
def B0q:=ct (Bry K) (A3n K) (kC (Biy K) (kC (Bm0 K) kN))
def A1f (a0:Bo)(a1:Int):Option Bo:=if 0<=a1/\a1<a0.fL.length then if 0<=a1/\a1<a0.fL.length then(Axg K (gt a0.fL a1) (A1 a1 1)).bind fun r1=>if 0<=a1/\a1<a0.fL.length then(Avl K a0 (gt a0.fL a1).Ad).bind fun r2=>(A3n K r2.fL a1).bind fun r3=>if 0<=a1/\a1<r3.length then if 0<=a1/\a1<r3.length then(A12 K (gt r3 a1)).bind fun r4=>if 0<=a1/\a1<r3.length then if(r2.fQ++([r1]:List Bb)).length*72<=140737488355328/\(r2.fQ++([r1]:List Bb)).length<=maxLen then some (Bo.mk r2.fC r2.fP (r3.set a1.toNat r4) (r2.fQ++([r1]:List Bb)) r2.Jp)else none else none else none else none else none else none else none
def B0r:=ct (fd Tryz.func310 ⟨[.b 38 false,.v 3],[],false⟩ (gC (Bmk K) (gC (Bmj K) (gC (Btv K) (gC (B0q K) gN)))) [] [] [(0,[.take 1 9 5025,.opn 5025 (.tmp 1),.takeE 5025 11 41611,.takeE 5025 12 41612]),(1,[.put 1,.take 1 9 5025]),(2,[.take 1 9 5025,.frz 5025]),(3,[.opn 3031 (.tmp 1),.takeE 3031 11 41995,.takeE 3031 12 41996]),(4,[.take 1 10 5026,.frz 20448,.frz 20449])] [(23,[.put 1])]) (A1f K)
def A2i (K:Nat)(a0:Bb):Option Bb:=if(([]:List Int)++a0.Dh).length*8<=140737488355328/\(([]:List Int)++a0.Dh).length<=maxLen then if(([]:List Int)++a0.Ad).length*8<=140737488355328/\(([]:List Int)++a0.Ad).length<=maxLen then some (Bb.mk a0.Be a0.Bz (([]:List Int)++a0.Dh) (([]:List Int)++a0.Ad) a0.H2)else none else none
def B0s:=ct (fd Tryz.func190 ⟨[.v 79],[.n 79 true],true⟩ gN) (A2i K)
def Auf:Nat->Int->Int->Int->Int->Int->Int->Int->(List Int)->(List Int)->(List Int)->(List Az)->(List Bb)->(List Int)->Bo->Int->Int->Int->Int->Int->Int->(List Int)->(List Int)->(List Int)->(List Az)->(List Bb)->(List Int)->Option Bo
 |0,_,_,_,_,_,_,_,_,_,_,_,_,_,_,_,_,_,_,_,_,_,_,_,_,_,_=>none
 |n1+1,v3,v4,v5,v6,v7,v8,v9,v10,v11,v12,v13,v14,v15,v16,v17,v18,v19,v20,v21,v22,v23,v24,v25,v26,v27,v28=>bif decide (v3<v27.length)then if 0<=v3/\v3<v27.length then(A2i K (gt v27 v3)).bind fun r29=>if(v14++[r29]).length*72<=140737488355328/\(v14++[r29]).length<=maxLen then Auf n1 (A1 v3 1) v4 v5 v6 v7 v8 v9 v10 v11 v12 v13 (v14++[r29]) v15 v16 v17 v18 v19 v20 v21 v22 v23 v24 v25 v26 v27 v28 else none else none else if(([]:List Int)++v28).length*8<=140737488355328/\(([]:List Int)++v28).length<=maxLen then some (Bo.mk (Fi.mk v4 v5 v6 v7 v8 v9) (Ef.mk v10 v11 v12) v13 v14 (([]:List Int)++v28))else none
def Ap6 (a0:Bo):Option Bo:=(Avj K a0.fP).bind fun r1=>(Ax9 K a0.fL).bind fun r2=>Auf K K 0 a0.fC.Ad a0.fC.Du a0.fC.Cd a0.fC.Ez a0.fC.Ce a0.fC.Dv r1.Fp r1.G4 r1.Fq r2 ([]:List Bb) a0.Jp (Bo.mk (Fi.mk 0 0 0 0 0 0) (Ef.mk [] [] []) [] [] []) a0.fC.Ad a0.fC.Du a0.fC.Cd a0.fC.Ez a0.fC.Ce a0.fC.Dv a0.fP.Fp a0.fP.G4 a0.fP.Fq a0.fL a0.fQ a0.Jp
def B0t:=fd Tryz.func85 ⟨[.v 38],[.n 38 true],false⟩ (gC (Bir K) (gC (Biu K) (gC (B0s K) gN))) [] [] [(9,[.take 103 10 6658]),(11,[.take 103 6 6654,.take 103 7 6655,.take 103 8 6656,.take 103 9 6657,.take 103 10 6658])] [(33,[.put 3033])]
def B28:Fw:=⟨[(1,.p 101),(2,.p 102),(3,.p 103),(4,.v 2)],[(103,.box [.v 2,.v 2,.v 2,.v 2,.v 2,.v 2,.T 5 true,.T 3 true,.T 3 true,.T 77 true,.T 79 true,.v 25]),(102,.st 38 true),(101,.box bx6)]⟩
def Bm1:=lp (B0t K) 506 B28 [] (Auf K) (fun n=>kN)
def Ba3:=ct (B0t K) (Ap6 K) (kC (Bm1 K K) kN)
def Auo (a0:List Az)(a1:Int):Option Bool:=bif a1==0 then some true else(Acs K a0 a1).bind fun r1=>bif r1 then if 0<=(Ap a1 1)/\(Ap a1 1)<a0.length then some (((gt a0 (Ap a1 1)).G4)==1)else none else some false
def B0u:=ct (fd Tryz.func301 ⟨[.v 35,.v 3],[.v 4],true⟩ (gC (A9z K) gN) [6,7,10,11]) (Auo K)
def Axm (a0:List Az)(a1:Int):Option Bool:=(A11 K a0 a1).bind fun r19=>bif decide ((r19.length:Int)<=4)then if 0<=(Ap r19.length 1)/\(Ap r19.length 1)<r19.length then(Awk K a0 (gt r19 (Ap r19.length 1))).bind fun r20=>some (!r20)else none else some false
def Azm (a0:List Az)(a1 v8 v12:Int):Option Bool:=bif v12==0 then(Awk K a0 a1).bind fun r18=>bif r18 then if 0<=(Ap v8 1)/\(Ap v8 1)<a0.length then bif (gt a0 (Ap v8 1)).Bz != (A1 a1 1)then some false else Axm K a0 a1 else none else Axm K a0 a1 else Axm K a0 a1
def Azn (a0:List Az)(a1 v8 v12:Int):Option Bool:=bif v12 != 0 then if 0<=(Ap v12 1)/\(Ap v12 1)<a0.length then bif (gt a0 (Ap v12 1)).G6 != (A1 a1 1)then some false else Azm K a0 a1 v8 v12 else none else Azm K a0 a1 v8 v12
def Azo (a0:List Az)(a1 v8:Int)(v9 v11 v12:Int):Option Bool:=bif v11 != 0 then if 0<=(Ap v11 1)/\(Ap v11 1)<a0.length then bif (gt a0 (Ap v11 1)).G7 != (A1 a1 1)then some false else bif (gt a0 (Ap v11 1)).fUp != v8 then some false else bif (gt a0 (Ap v11 1)).G5 != v9 then some false else Azn K a0 a1 v8 v12 else none else Azn K a0 a1 v8 v12
def Azp (a0:List Az)(a1 v5:Int)(v6 v7:Int)(v8 v9:Int)(v10 v11 v12:Int)(v13:List Int)(v14 v15:Int)(v16:List Bn)(v17:List Int):Option Bool:=bif v10 != 0 then if 0<=(Ap v10 1)/\(Ap v10 1)<a0.length then bif (gt a0 (Ap v10 1)).G7 != 0 then some false else bif (gt a0 (Ap v10 1)).fUp != (A1 a1 1)then some false else bif (gt a0 (Ap v10 1)).G5 != v7 then some false else Azo K a0 a1 v8 v9 v11 v12 else none else Azo K a0 a1 v8 v9 v11 v12
def A4h (a0:List Az)(a1:Int):Option Bool:=if 0<=a1/\a1<a0.length then bif (gt a0 a1).fUp != 0 then(Acs K a0 (gt a0 a1).fUp).bind fun r1=>bif r1 then(Auo K a0 (gt a0 a1).Bz).bind fun r2=>bif r2 then(Auo K a0 (gt a0 a1).G6).bind fun r3=>bif r3 then(Auo K a0 (gt a0 a1).G7).bind fun r4=>bif !r4 then some false else Azp K a0 a1 (gt a0 a1).G4 (gt a0 a1).C7 (gt a0 a1).Nb (gt a0 a1).fUp (gt a0 a1).G5 (gt a0 a1).Bz (gt a0 a1).G6 (gt a0 a1).G7 (gt a0 a1).Ad (gt a0 a1).No (gt a0 a1).G8 (gt a0 a1).D5 (gt a0 a1).Dh else some false else some false else some false else(Auo K a0 (gt a0 a1).Bz).bind fun r21=>bif r21 then(Auo K a0 (gt a0 a1).G6).bind fun r22=>bif r22 then(Auo K a0 (gt a0 a1).G7).bind fun r23=>bif !r23 then some false else Azp K a0 a1 (gt a0 a1).G4 (gt a0 a1).C7 (gt a0 a1).Nb (gt a0 a1).fUp (gt a0 a1).G5 (gt a0 a1).Bz (gt a0 a1).G6 (gt a0 a1).G7 (gt a0 a1).Ad (gt a0 a1).No (gt a0 a1).G8 (gt a0 a1).D5 (gt a0 a1).Dh else some false else some false else none
def Bj3:=fd Tryz.func238 ⟨[.v 35,.v 3],[.v 4],true⟩ (gC (Bl6 K) (gC (Bl7 K) (gC (A9z K) (gC (B0u K) gN)))) [15,16,20,21,22,23,27,28,29,30,34,35,36,37,55,56,61,62,63,83,84,89,90,91,100,101,115,116,119,120,121,138,139] [7,15,31,63,127]
def B29:Fw:=⟨[(0,.v 35),(1,.v 2)],[]⟩
def Be6:Fw:=⟨[(0,.v 35),(1,.v 2),(5,.p 105)],[(105,.box bx4)]⟩
def Bm2:=jn (Bj3 K) 127 B29 [] (Axm K) kN
def Br0:=jn (Bj3 K) 63 Be6 [] (fun a b _ _ _ f _ _ _ j _ _ _ _ _=>Azm K a b f j) (kC (Bm2 K) kN)
def Br1:=jn (Bj3 K) 31 Be6 [] (fun a b _ _ _ f _ _ _ j _ _ _ _ _=>Azn K a b f j) (kC (Br0 K) kN)
def Br2:=jn (Bj3 K) 15 Be6 [] (fun a b _ _ _ f g _ i j _ _ _ _ _=>Azo K a b f g i j) (kC (Br1 K) kN)
def Bvm:=jn (Bj3 K) 7 Be6 [] (Azp K) (kC (Br2 K) kN)
def B0v:=ct (Bj3 K) (A4h K) (kC (Bvm K) kN)
def A1g (K:Nat)(v1:Int)(C1:Int->Option Bool):Option Bool:=C1 (A1 v1 1)
def At2 (a0:List Az):Nat->Int->Option Bool
 |0,_=>none
 |n1+1,v1=>bif decide (v1<a0.length)then if 0<=v1/\v1<a0.length then bif (gt a0 v1).G4==1 then(A4h K a0 v1).bind fun r2=>bif !r2 then some false else A1g K v1 (At2 a0 n1)else A1g K v1 (At2 a0 n1)else none else some true
def A3o (a0:List Az):Option Bool:=At2 K a0 K 0
def Bvn:=fd Tryz.func140 ⟨[.v 35],[.v 4],true⟩ (gC (B0v K) gN) [15,16] [105]
def Bm3:=fun(C26:CT Bmo _)=>jn (Bvn K) 105 Bmo [(26,ar Bmo C26)] (fun a b=>A1g K b (C26 a)) kN
def Br3:=lp (Bvn K) 26 Bmo [] (fun n a=>At2 K a n) (fun n=>kC (Bm3 K _) kN)
def B0w:=ct (Bvn K) (A3o K) (kC (Br3 K K) kN)
def Az7 (K:Nat)(v2:Int)(v3 v4 v5:List Int)(C1:Int->Int->(List Int)->(List Int)->(List Int)->Option Int)(v6:Int):Option Int:=C1 v6 (A1 v2 1) v3 v4 v5
def Art (a1:Int):Nat->Int->Int->(List Int)->(List Int)->(List Int)->Option Int
 |0,_,_,_,_,_=>none
 |n1+1,v1,v2,v3,v4,v5=>bif decide (v2<v4.length)then if 0<=v2/\v2<v4.length then bif (gt v4 v2)==a1 then Az7 K v2 v3 v4 v5 (Art a1 n1) (A1 v1 1)else Az7 K v2 v3 v4 v5 (Art a1 n1) v1 else none else some v1
def A2j (a0:Ef)(a1:Int):Option Int:=Art K a1 K 0 0 a0.Fp a0.G4 a0.Fq
def Bvo:=fd Tryz.func246 ⟨[.v 34,.v 3],[.v 3],true⟩ gN [] [233]
def Br4:Fw:=⟨[(1,.v 2),(2,.p 102),(5,.v 2),(6,.v 2)],[(102,.box bx9)]⟩
def Bm4:=fun(C58:CT Br4 _)=>jn Bvo 233 Br4 [(58,ar Br4 C58)] (fun a b c d e f=>Az7 K c d e f (C58 a) b) kN
def Br5:=lp Bvo 58 Br4 [] (fun n a=>Art K a n) (fun n=>kC (Bm4 K _) kN)
def B0x:=ct Bvo (A2j K) (kC (Br5 K K) kN)
def Axn (a0:List Az)(a1:Int):Option Bool:=if 0<=a1/\a1<a0.length then bif (gt a0 a1).G4==1 then if 0<=a1/\a1<a0.length then bif (gt a0 a1).fUp != 0 then(Awk K a0 a1).bind fun r1=>some (!r1)else some false else none else some false else none
def Bt1:=ct (fd Tryz.func245 ⟨[.v 35,.v 3],[.v 4],true⟩ (gC (Bl7 K) gN) [10,11,17,18,19]) (Axn K)
def Ayk (a0:List Az):Nat->Int->(List Int)->Option (List Int)
 |0,_,_=>none
 |n1+1,v1,v2=>(Acs K a0 v1).bind fun r3=>bif r3 then bif decide ((v2.length:Int)<a0.length)then if(v2++([(Ap v1 1)]:List Int)).length*8<=140737488355328/\(v2++([(Ap v1 1)]:List Int)).length<=maxLen then if 0<=(Ap v1 1)/\(Ap v1 1)<a0.length then Ayk a0 n1 (gt a0 (Ap v1 1)).G6 (v2++([(Ap v1 1)]:List Int))else none else none else some v2 else some v2
def A0w (a0:List Az)(a1:Int):Option (List Int):=Ayk K a0 K a1 ([]:List Int)
def B0y:=fd Tryz.func176 ⟨[.v 35,.v 3],[.n 25 true],true⟩ (gC (A9z K) gN) [9,10]
def Br6:=lp (B0y K) 28 h_4 [] (fun n a=>Ayk K a n) (fun n=>kN)
def Bt2:=ct (B0y K) (A0w K) (kC (Br6 K K) kN)
def Arn (v4:Int)(v15:List Bb)(v20:List Int)(v21:Int)(C3:(List Int)->Int->Option Bool):Nat->Int->Option Bool
 |0,_=>none
 |n5+1,v22=>if 0<=v4/\v4<v15.length then bif decide (v22<(((gt v15 v4).Ad).length:Int))then if 0<=v21/\v21<v15.length then if 0<=v4/\v4<v15.length then if 0<=v22/\v22<(((gt v15 v4).Ad).length:Int)then(Aum K (gt v15 v21).Ad (gt (gt v15 v4).Ad v22)).bind fun r23=>bif r23 then some false else Arn v4 v15 v20 v21 C3 n5 (A1 v22 1)else none else none else none else C3 v20 (A1 v21 1)else none
def Av1 (v4:Int)(v15:List Bb)(v20:List Int)(v21:Int)(C3:(List Int)->Int->Option Bool):Option Bool:=Arn K v4 v15 v20 v21 (C3) K 0
def Amo (v4 v5:Int)(v6 v7:Int)(v8 v9 v10:Int)(v11 v12 v13:List Int)(v14:List Az)(v15:List Bb)(v16:List Int)(v17 v18:Int)(C1:Int->Int->(List Int)->Int->Int->Int->Int->Int->Int->Int->(List Int)->(List Int)->(List Int)->(List Az)->(List Bb)->(List Int)->Option Bool):Nat->(List Int)->Int->Option Bool
 |0,_,_=>none
 |n3+1,v20,v21=>bif decide (v21<v4)then if 0<=v4/\v4<v15.length then bif (gt v15 v4).Be != 0 then if 0<=v21/\v21<v15.length then if 0<=v4/\v4<v15.length then bif (gt v15 v21).Be==(gt v15 v4).Be then some false else Av1 K v4 v15 v20 v21 (Amo v4 v5 v6 v7 v8 v9 v10 v11 v12 v13 v14 v15 v16 v17 v18 C1 n3)else none else none else Av1 K v4 v15 v20 v21 (Amo v4 v5 v6 v7 v8 v9 v10 v11 v12 v13 v14 v15 v16 v17 v18 C1 n3)else none else C1 v17 v18 v20 (A1 v4 1) v5 v6 v7 v8 v9 v10 v11 v12 v13 v14 v15 v16
def Av2 (v3:List Int)(v4 v5:Int)(v6 v7:Int)(v8 v9 v10:Int)(v11 v12 v13:List Int)(v14:List Az)(v15:List Bb)(v16:List Int)(C1:Int->Int->(List Int)->Int->Int->Int->Int->Int->Int->Int->(List Int)->(List Int)->(List Int)->(List Az)->(List Bb)->(List Int)->Option Bool)(v17 v18:Int):Option Bool:=if 0<=v4/\v4<v15.length then(A0w K v14 (gt v15 v4).Bz).bind fun r19=>if(v3++r19).length*8<=140737488355328/\(v3++r19).length<=maxLen then Amo K v4 v5 v6 v7 v8 v9 v10 v11 v12 v13 v14 v15 v16 v17 v18 (C1) K (v3++r19) 0 else none else none
def Aya (K:Nat)(v25:Int)(C6:Int->Int->Option Bool)(v27:Int):Option Bool:=C6 v27 (A1 v25 1)
def Amp (v1 v2:Int)(v3 v11:List Int)(v12 v13:List Int)(v14:List Az)(v24:Int):Nat->Int->Option Bool
 |0,_=>none
 |n8+1,v28=>bif decide (v28<v3.length)then if(0:Int)<=0/\0<=v28/\v28<=v3.length then if 0<=v28/\v28<v3.length then(Aum K ((v3.drop (0:Int).toNat).take (v28 - 0).toNat) (gt v3 v28)).bind fun r29=>bif r29 then some false else Amp v1 v2 v3 v11 v12 v13 v14 v24 n8 (A1 v28 1)else none else none else(A2j K (Ef.mk v11 v12 v13) 2).bind fun r30=>bif v1==r30 then(Aux K v14 2).bind fun r31=>bif v2==r31 then some ((v3.length:Int)==v24)else some false else some false
def Akg (v1 v2:Int)(v3 v11:List Int)(v12 v13:List Int)(v14:List Az):Nat->Int->Int->Option Bool
 |0,_,_=>none
 |n6+1,v24,v25=>bif decide (v25<v14.length)then(Axn K v14 v25).bind fun r26=>bif r26 then Aya K v25 (Akg v1 v2 v3 v11 v12 v13 v14 n6) (A1 v24 1)else Aya K v25 (Akg v1 v2 v3 v11 v12 v13 v14 n6) v24 else Amp K v1 v2 v3 v11 v12 v13 v14 v24 K 0
def Aen:Nat->Int->Int->(List Int)->Int->Int->Int->Int->Int->Int->Int->(List Int)->(List Int)->(List Int)->(List Az)->(List Bb)->(List Int)->Option Bool
 |0,_,_,_,_,_,_,_,_,_,_,_,_,_,_,_,_=>none
 |n1+1,v1,v2,v3,v4,v5,v6,v7,v8,v9,v10,v11,v12,v13,v14,v15,v16=>bif decide (v4<v15.length)then if 0<=v4/\v4<v15.length then if 0<=v4/\v4<v15.length then bif (gt v15 v4).Be != 0 then Av2 K v3 v4 v5 v6 v7 v8 v9 v10 v11 v12 v13 v14 v15 v16 (Aen n1) (A1 v1 (((gt v15 v4).Ad).length:Int)) (A1 v2 1)else Av2 K v3 v4 v5 v6 v7 v8 v9 v10 v11 v12 v13 v14 v15 v16 (Aen n1) (A1 v1 (((gt v15 v4).Ad).length:Int)) v2 else none else none else Akg K v1 v2 v3 v11 v12 v13 v14 K 0 0
def Az8 (a0:Bo):Option Bool:=Aen K K 0 0 ([]:List Int) 0 a0.fC.Ad a0.fC.Du a0.fC.Cd a0.fC.Ez a0.fC.Ce a0.fC.Dv a0.fP.Fp a0.fP.G4 a0.fP.Fq a0.fL a0.fQ a0.Jp
def Bdi:=fd Tryz.func148 ⟨[.v 38],[.v 4],true⟩ (gC (Bt2 K) (gC (Be5 K) (gC (Bt1 K) (gC (B0x K) (gC (Btr K) gN))))) [60,61,134,135,140,141,142] [4073,8009,2050532]
def B3a:Fw:=⟨[(1,.p 101),(3,.v 2),(4,.v 2),(5,.o 1005 3 true),(6,.v 2),(7,.v 2),(8,.v 2)],[(101,.box bx6)]⟩
def Bj4:Fw:=⟨[(1,.p 101),(3,.v 2),(4,.v 2),(5,.o 1005 3 true),(6,.v 2),(7,.v 2)],[(101,.box bx6)]⟩
def Bcf:Fw:=⟨[(1,.p 101),(3,.v 2),(4,.v 2),(5,.o 1005 3 true),(6,.v 2)],[(101,.box bx6)]⟩
def Br7:Fw:=⟨[(1,.p 101),(3,.v 2),(4,.v 2),(5,.o 1005 3 true),(9,.v 2),(10,.v 2)],[(101,.box bx6)]⟩
def B3b:Fw:=⟨[(1,.p 101),(3,.v 2),(4,.v 2),(5,.o 1005 3 true),(9,.v 2),(11,.v 2)],[(101,.box bx6)]⟩
def Bcg:=fun(C250:CT Bcf _) (C128158:CT Bj4 _)=>lp (Bdi K) 16404262 B3a [(128158,ar Bj4 C128158),(250,ar Bcf C250)] (fun n a b c d e f g h i j k l m o p q r s=>Arn K d r c e (fun v20 v21=>C128158 a b v20 d v21 g h i j k l m o p q r s) n f) (fun n=>kN)
def Bdj:=fun(C250:CT Bcf _) (C128158:CT Bj4 _)=>jn (Bdi K) 2050532 Bj4 [(128158,ar Bj4 C128158),(250,ar Bcf C250)] (fun a b c d e f g h i j k l m o p q r=>Av1 K d q c e (fun v20 v21=>C128158 a b v20 d v21 f g h i j k l m o p q r)) (kC (Bcg K _ _ K) kN)
def Be7:=fun(C250:CT Bcf _)=>lp (Bdi K) 128158 Bj4 [(250,ar Bcf C250)] (fun n a b c d e f g h i j k l m o p q r=>Amo K d f g h i j k l m o p q r a b C250 n c e) (fun n=>kC (Bdj K _ _) kN)
def Bj5:=fun(C250:CT Bcf _)=>jn (Bdi K) 8009 Bcf [(250,ar Bcf C250)] (fun a b c d e f g h i j k l m o p q=>Av2 K c d e f g h i j k l m o p q C250 a b) (kC (Be7 K _ K) kN)
def Bj6:=fun(C1018:CT Br7 _)=>jn (Bdi K) 4073 Br7 [(1018,ar Br7 C1018)] (fun a b c d e f g h i j k l m o p q r=>Aya K e (fun v24 v25=>C1018 a b c v24 v25 f g h i j k l m o p q r) d) kN
def Bj7:=lp (Bdi K) 2042 B3b [] (fun n a b c d e _ _ _ _ _ _ l m o p _ _=>Amp K a b c l m o p d n e) (fun n=>kN)
def Bj8:=lp (Bdi K) 1018 Br7 [] (fun n a b c d e _ _ _ _ _ _ l m o p _ _=>Akg K a b c l m o p n d e) (fun n=>kC (Bj6 K _) (kC (up (Bj7 K K)) kN))
def Bm5:=lp (Bdi K) 250 Bcf [] (Aen K) (fun n=>kC (Bj5 K _) (kC (up (Bj8 K K)) kN))
def B0z:=ct (Bdi K) (Az8 K) (kC (Bm5 K K) kN)
def Aru (a0:Fi)(v8:List Int):Nat->Int->Option Bool
 |0,_=>none
 |n3+1,v12=>bif decide (v12<v8.length)then if 0<=v12/\v12<v8.length then(F2 K (gt v8 v12) 0 (Ap a0.Ad 1)).bind fun r13=>bif r13 then if(0:Int)<=0/\0<=v12/\v12<=v8.length then if 0<=v12/\v12<v8.length then(Aum K ((v8.drop (0:Int).toNat).take (v12 - 0).toNat) (gt v8 v12)).bind fun r14=>bif r14 then some false else Aru a0 v8 n3 (A1 v12 1)else none else none else some false else none else some true
def Aug (a0:Fi)(v7 v8:List Int):Nat->Int->Option Bool
 |0,_=>none
 |n2+1,v10=>bif decide (v10<v7.length)then if 0<=v10/\v10<v7.length then(F2 K (gt v7 v10) 0 255).bind fun r11=>bif !r11 then some false else Aug a0 v7 v8 n2 (A1 v10 1)else none else Aru K a0 v8 K 0
def Az9 (a0:Fi)(v5 v6:Int)(v7 v8:List Int)(v9:Int):Option Bool:=Aug K a0 v7 v8 K 0
def A2k (a0:Fi)(a1:Bb):Option Bool:=(Ap3 K a0).bind fun r1=>bif r1 then(F2 K a1.Be 0 a0.Cd).bind fun r2=>bif r2 then(F2 K a1.Bz 0 a0.Cd).bind fun r3=>bif r3 then bif decide ((a1.Dh.length:Int)>6)then some false else(F2 K a1.H2 0 (Ap a0.Du 1)).bind fun r4=>bif r4 then bif (a1.Ad.length:Int)==0 then bif a1.H2 != 0 then some false else Az9 K a0 a1.Be a1.Bz a1.Dh a1.Ad a1.H2 else Az9 K a0 a1.Be a1.Bz a1.Dh a1.Ad a1.H2 else some false else some false else some false else some false
def Br8:=fd Tryz.func244 ⟨[.v 33,.v 79],[.v 4],true⟩ (gC (Be1 K) (gC (A5f K) (gC (Be5 K) gN))) [8,9,10,15,16,17,18,23,24,25,26,30,31,32,38,39,40,41,45,46,81,82,83] [3]
def B3c:Fw:=⟨[(2,.p 102),(3,.p 103),(6,.v 2)],[(103,.box bx7),(102,.st 33 true)]⟩
def B3d:Fw:=⟨[(2,.p 102),(3,.p 103),(5,.v 2)],[(103,.box bx7),(102,.st 33 true)]⟩
def B3e:Fw:=⟨[(2,.p 102),(3,.p 103)],[(103,.box bx7),(102,.st 33 true)]⟩
def Bm6:=lp (Br8 K) 122 B3c [] (fun n a _ _ _ e _ g=>Aru K g e n a) (fun n=>kN)
def Br9:=lp (Br8 K) 58 B3d [] (fun n a _ _ d e _ g=>Aug K g d e n a) (fun n=>kC (up (Bm6 K K)) kN)
def Bvp:=jn (Br8 K) 3 B3e [] (fun a b c d e f=>Az9 K f a b c d e) (kC (Br9 K K) kN)
def B00:=ct (Br8 K) (A2k K) (kC (Bvp K) kN)
def Auz (v17:List Az)(r21:(List Int)):Nat->Int->Option Bool
 |0,_=>none
 |n4+1,v22=>bif decide (v22<r21.length)then if 0<=v22/\v22<r21.length then(Axn K v17 (gt r21 v22)).bind fun r23=>bif !r23 then some false else Auz v17 r21 n4 (A1 v22 1)else none else some true
def Asl (v4:Int)(v17:List Az):Option Bool:=(A0w K v17 v4).bind fun r21=>Auz K v17 r21 K 0
def Awo (v3 v4:Int)(v17:List Az):Option Bool:=bif v3 != 0 then if 0<=(Ap v3 1)/\(Ap v3 1)<v17.length then bif (gt v17 (Ap v3 1)).G4 != 2 then some false else bif v4 != 0 then if 0<=(Ap v4 1)/\(Ap v4 1)<v17.length then bif (gt v17 (Ap v4 1)).G7 != 0 then some false else Asl K v4 v17 else none else Asl K v4 v17 else none else bif v4 != 0 then if 0<=(Ap v4 1)/\(Ap v4 1)<v17.length then bif (gt v17 (Ap v4 1)).G7 != 0 then some false else Asl K v4 v17 else none else Asl K v4 v17
def Asm:Nat->Int->Int->Int->(List Int)->(List Int)->Int->Int->Int->Int->Int->Int->Int->(List Int)->(List Int)->(List Int)->(List Az)->(List Bb)->(List Int)->Option Bool
 |0,_,_,_,_,_,_,_,_,_,_,_,_,_,_,_,_,_,_=>none
 |n1+1,v2,v3,v4,v5,v6,v7,v8,v9,v10,v11,v12,v13,v14,v15,v16,v17,v18,v19=>bif decide (v2<v6.length)then if 0<=v2/\v2<v6.length then if 0<=(gt v6 v2)/\(gt v6 v2)<v15.length then bif (gt v15 (gt v6 v2)) != 2 then some false else Asm n1 (A1 v2 1) v3 v4 v5 v6 v7 v8 v9 v10 v11 v12 v13 v14 v15 v16 v17 v18 v19 else none else none else bif decide ((v6.length:Int)>0)then if(0:Int)<=0/\0<(v6.length:Int)then if(0:Int)<=0/\0<(v6.length:Int)then if 0<=(K1 (gt v6 0) v9)/\(K1 (gt v6 0) v9)<=(A1 (K1 (gt v6 0) v9) v7)/\(A1 (K1 (gt v6 0) v9) v7)<=v14.length then(Avk K ((v14.drop (K1 (gt v6 0) v9).toNat).take ((A1 (K1 (gt v6 0) v9) v7) - (K1 (gt v6 0) v9)).toNat)).bind fun r20=>bif !r20 then some false else Awo K v3 v4 v17 else none else none else none else Awo K v3 v4 v17
def A1h (a0:Bo)(a1:Int):Option Bool:=if 0<=a1/\a1<a0.fQ.length then(A2k K a0.fC (gt a0.fQ a1)).bind fun r1=>bif !r1 then some false else Asm K K 0 (gt a0.fQ a1).Be (gt a0.fQ a1).Bz (gt a0.fQ a1).Dh (gt a0.fQ a1).Ad (gt a0.fQ a1).H2 a0.fC.Ad a0.fC.Du a0.fC.Cd a0.fC.Ez a0.fC.Ce a0.fC.Dv a0.fP.Fp a0.fP.G4 a0.fP.Fq a0.fL a0.fQ a0.Jp else none
def Bm7:=fd Tryz.func146 ⟨[.v 38,.v 3],[.v 4],true⟩ (gC (Bt2 K) (gC (Bis K) (gC (B00 K) (gC (Bt1 K) gN)))) [40,41,70,71,80,81,82,85,86] [31,63]
def B3f:Fw:=⟨[(2,.p 102),(7,.v 25),(8,.v 2)],[(102,.box bx6)]⟩
def B01:Fw:=⟨[(2,.p 102),(5,.p 105)],[(105,.box bx7),(102,.box bx6)]⟩
def B3g:Fw:=⟨[(2,.p 102),(5,.p 105),(6,.v 2)],[(105,.box bx7),(102,.box bx6)]⟩
def Bj9:=lp (Bm7 K) 2042 B3f [] (fun n a b _ _ _ _ _ _ _ _ _ l _ _=>Auz K l a n b) (fun n=>kN)
def Bsa:=jn (Bm7 K) 63 B01 [] (fun _ b _ _ _ _ _ _ _ _ _ _ _ _ p _ _=>Asl K b p) (kC (Bj9 K K) kN)
def Bsb:=jn (Bm7 K) 31 B01 [] (fun a b _ _ _ _ _ _ _ _ _ _ _ _ p _ _=>Awo K a b p) (kC (Bsa K) kN)
def Bm8:=lp (Bm7 K) 122 B3g [] (Asm K) (fun n=>kC (up (Bsb K)) kN)
def B02:=ct (Bm7 K) (A1h K) (kC (Bm8 K K) kN)
def Aro (a1:Int)(r1:(List Int)):Nat->Int->Int->Int->Int->Int->Int->Int->(List Int)->(List Int)->(List Int)->(List Az)->(List Bb)->(List Int)->Option Bool
 |0,_,_,_,_,_,_,_,_,_,_,_,_,_=>none
 |n1+1,v2,v3,v4,v5,v6,v7,v8,v9,v10,v11,v12,v13,v14=>bif decide (v2<r1.length)then if 0<=a1/\a1<v12.length then if 0<=v2/\v2<r1.length then(Aum K (gt v12 a1).Ad (gt r1 v2)).bind fun r15=>bif !r15 then some false else Aro a1 r1 n1 (A1 v2 1) v3 v4 v5 v6 v7 v8 v9 v10 v11 v12 v13 v14 else none else none else if 0<=a1/\a1<v12.length then some ((r1.length:Int)==(((gt v12 a1).Ad).length:Int))else none
def A0a (a0:Bo)(a1:Int):Option Bool:=(Azj K a0.fP a1).bind fun r1=>Aro K a1 r1 K 0 a0.fC.Ad a0.fC.Du a0.fC.Cd a0.fC.Ez a0.fC.Ce a0.fC.Dv a0.fP.Fp a0.fP.G4 a0.fP.Fq a0.fL a0.fQ a0.Jp
def B03:=fd Tryz.func142 ⟨[.v 38,.v 3],[.v 4],true⟩ (gC (Btq K) (gC (Be5 K) gN))
def B3h:Fw:=⟨[(1,.v 2),(2,.p 102),(5,.v 25),(6,.v 2)],[(102,.box bx6)]⟩
def Bsc:=lp (B03 K) 58 B3h [] (fun n a b=>Aro K a b n) (fun n=>kN)
def B04:=ct (B03 K) (A0a K) (kC (Bsc K K) kN)
def Asn (a0:Fi)(v1 v2:Int)(v3 v4:Int)(v5 v6:Int)(v7 v8 v9:Int)(v10:List Int)(v11 v12:Int)(v13:List Bn)(v14:List Int)(C1:Int->Int->Int->Int->Int->Int->Int->Int->Int->(List Int)->Int->Int->(List Bn)->(List Int)->Option Bool):Nat->Int->Bn->Option Bool
 |0,_,_=>none
 |n2+1,v16,v17=>if a0.Du≠(0:Int)then bif decide (v16<=(Apq .i64 (Ap (A1 v17.fAt v17.Yg) 1) a0.Du))then(Aum K v10 v16).bind fun r18=>bif !r18 then some false else Asn a0 v1 v2 v3 v4 v5 v6 v7 v8 v9 v10 v11 v12 v13 v14 C1 n2 (A1 v16 1) v17 else C1 (A1 v1 1) v2 v3 v4 v5 v6 v7 v8 v9 v10 v11 v12 v13 v14 else none
def Ami (a0:Fi):Nat->Int->Int->Int->Int->Int->Int->Int->Int->Int->(List Int)->Int->Int->(List Bn)->(List Int)->Option Bool
 |0,_,_,_,_,_,_,_,_,_,_,_,_,_,_=>none
 |n1+1,v1,v2,v3,v4,v5,v6,v7,v8,v9,v10,v11,v12,v13,v14=>bif decide (v1<v13.length)then if 0<=v1/\v1<v13.length then(Axj K a0 (gt v13 v1)).bind fun r15=>bif !r15 then some false else if a0.Du≠(0:Int)then Asn K a0 v1 v2 v3 v4 v5 v6 v7 v8 v9 v10 v11 v12 v13 v14 (Ami a0 n1) K (Apq .i64 (gt v13 v1).fAt a0.Du) (gt v13 v1)else none else none else some true
def A1i (a0:Fi)(a1:Az):Option Bool:=Ami K a0 K 0 a1.G4 a1.C7 a1.Nb a1.fUp a1.G5 a1.Bz a1.G6 a1.G7 a1.Ad a1.No a1.G8 a1.D5 a1.Dh
def Bvq:=fd Tryz.func143 ⟨[.v 33,.v 77],[.v 4],true⟩ (gC (Btx K) (gC (Be5 K) gN))
def B3i:Fw:=⟨[(2,.p 102),(3,.p 103),(5,.v 2),(6,.p 106),(7,.v 2)],[(106,.st 183 true),(103,.box bx4),(102,.st 33 true)]⟩
def Bka:=fun(C26:CT Bmr _)=>lp (Bvq K) 6734 B3i [(26,ar Bmr C26)] (fun n a b c d e f g h i j k l m o p q r=>Asn K r a d e f g h i j k l m o p q (fun v1 v2 v3 v4 v5 v6 v7 v8 v9 v10 v11 v12 v13 v14=>C26 v1 v2 v3 v4 v5 v6 v7 v8 v9 v10 v11 v12 v13 v14 r) n b c) (fun n=>kN)
def Bsd:=lp (Bvq K) 26 Bmr [] (fun n a b c d e f g h i j k l m o p=>Ami K p n a b c d e f g h i j k l m o) (fun n=>kC (Bka K _ K) kN)
def B05:=ct (Bvq K) (A1i K) (kC (Bsd K K) kN)
def A4i (K:Nat)(a0 a1:Bn):Option Bool:=bif decide (a0.Yg<1)then some true else bif decide (a1.Yg<1)then some true else bif decide (a0.fAt<=a1.fAt)then bif decide ((Ap a1.fAt a0.fAt)>=a0.Yg)then some true else some (decide ((Ap a1.fAt a0.fAt)<0))else bif decide ((Ap a0.fAt a1.fAt)>=a1.Yg)then some true else some (decide ((Ap a0.fAt a1.fAt)<0))
def Bvr:=ct (fd Tryz.func243 ⟨[.v 183,.v 183],[.v 4],true⟩ gN [7,8,25,26,41,42]) (A4i K)
def Aso (a0:List Bn)(v1:Int)(C1:Int->Option Bool):Nat->Int->Option Bool
 |0,_=>none
 |n2+1,v2=>bif decide (v2<v1)then if 0<=v1/\v1<a0.length then if 0<=v2/\v2<a0.length then(A4i K (gt a0 v1) (gt a0 v2)).bind fun r3=>bif !r3 then some false else Aso a0 v1 C1 n2 (A1 v2 1)else none else none else C1 (A1 v1 1)
def Amj (a0:List Bn):Nat->Int->Option Bool
 |0,_=>none
 |n1+1,v1=>bif decide (v1<a0.length)then Aso K a0 v1 (Amj a0 n1) K 0 else some true
def A1j (a0:List Bn):Option Bool:=Amj K a0 K 0
def Bm9:=fd Tryz.func144 ⟨[.v 75],[.v 4],true⟩ (gC (Bvr K) gN)
def B3j:Fw:=⟨[(0,.v 75),(3,.v 2),(4,.v 2)],[]⟩
def Bvs:Fw:=⟨[(0,.v 75),(3,.v 2)],[]⟩
def Bgx:=fun(C26:CT Bvs _)=>lp (Bm9 K) 1682 B3j [(26,ar Bvs C26)] (fun n a b=>Aso K a b (C26 a) n) (fun n=>kN)
def Bna:=lp (Bm9 K) 26 Bvs [] (fun n a=>Amj K a n) (fun n=>kC (Bgx K _ K) kN)
def Bvt:=ct (Bm9 K) (A1j K) (kC (Bna K K) kN)
def Ay7 (K:Nat)(v1 v2:Int)(v3 v4:Int)(v5 v6:Int)(v7 v8:Int)(v9 v10 v11:Int)(v12:List Int)(v13 v14:Int)(v15:List Bn)(v16:List Int)(v17 v18:Int)(v19 v20:Int)(v21 v22:Int)(v23 v24 v25:List Int)(v26:List Az)(v27:List Bb)(v28:List Int)(C1:Int->Int->Int->Int->Int->Int->Int->Int->Int->Int->Int->(List Int)->Int->Int->(List Bn)->(List Int)->Int->Int->Int->Int->Int->Int->(List Int)->(List Int)->(List Int)->(List Az)->(List Bb)->(List Int)->Option Bool):Option Bool:=C1 v1 v2 (A1 v3 1) v4 v5 v6 v7 v8 v9 v10 v11 v12 v13 v14 v15 v16 v17 v18 v19 v20 v21 v22 v23 v24 v25 v26 v27 v28
def Api:Nat->Int->Int->Int->Int->Int->Int->Int->Int->Int->Int->Int->(List Int)->Int->Int->(List Bn)->(List Int)->Int->Int->Int->Int->Int->Int->(List Int)->(List Int)->(List Int)->(List Az)->(List Bb)->(List Int)->Option Bool
 |0,_,_,_,_,_,_,_,_,_,_,_,_,_,_,_,_,_,_,_,_,_,_,_,_,_,_,_,_=>none
 |n1+1,v1,v2,v3,v4,v5,v6,v7,v8,v9,v10,v11,v12,v13,v14,v15,v16,v17,v18,v19,v20,v21,v22,v23,v24,v25,v26,v27,v28=>bif decide (v3<v15.length)then if 0<=v3/\v3<v15.length then bif decide (((gt v15 v3).fAt)<v2)then bif decide ((A1 (gt v15 v3).fAt (gt v15 v3).Yg)>v1)then some false else Ay7 K v1 v2 v3 v4 v5 v6 v7 v8 v9 v10 v11 v12 v13 v14 v15 v16 v17 v18 v19 v20 v21 v22 v23 v24 v25 v26 v27 v28 (Api n1)else Ay7 K v1 v2 v3 v4 v5 v6 v7 v8 v9 v10 v11 v12 v13 v14 v15 v16 v17 v18 v19 v20 v21 v22 v23 v24 v25 v26 v27 v28 (Api n1)else none else if 0<=v1/\v1<=v2/\v2<=v23.length then(Avk K ((v23.drop v1.toNat).take (v2 - v1).toNat)).bind fun r29=>some r29 else none
def A1k (a0:Bo)(a1:Int):Option Bool:=if 0<=a1/\a1<a0.fL.length then bif (gt a0.fL a1).No==0 then some true else bif decide ((A1 (K1 (Ap (gt a0.fL a1).No 1) a0.fC.Du) (gt a0.fL a1).G8)>=(K1 (gt a0.fL a1).No a0.fC.Du))then some true else Api K K (A1 (K1 (Ap (gt a0.fL a1).No 1) a0.fC.Du) (gt a0.fL a1).G8) (K1 (gt a0.fL a1).No a0.fC.Du) 0 (gt a0.fL a1).G4 (gt a0.fL a1).C7 (gt a0.fL a1).Nb (gt a0.fL a1).fUp (gt a0.fL a1).G5 (gt a0.fL a1).Bz (gt a0.fL a1).G6 (gt a0.fL a1).G7 (gt a0.fL a1).Ad (gt a0.fL a1).No (gt a0.fL a1).G8 (gt a0.fL a1).D5 (gt a0.fL a1).Dh a0.fC.Ad a0.fC.Du a0.fC.Cd a0.fC.Ez a0.fC.Ce a0.fC.Dv a0.fP.Fp a0.fP.G4 a0.fP.Fq a0.fL a0.fQ a0.Jp else none
def Bnb:=fd Tryz.func145 ⟨[.v 38,.v 3],[.v 4],true⟩ (gC (Bis K) gN) [33,34,54,55] [2025]
def Bse:Fw:=⟨[(2,.p 102),(5,.p 105),(6,.v 2),(7,.v 2),(8,.v 2)],[(105,.box bx4),(102,.box bx6)]⟩
def Bgy:=fun(C506:CT Bse _)=>jn (Bnb K) 2025 Bse [(506,ar Bse C506)] (fun a b c d e f g h i j k l m o p q r s t u v w x y z a1 b1 c1=>Ay7 K a b c d e f g h i j k l m o p q r s t u v w x y z a1 b1 c1 C506) kN
def Bkb:=lp (Bnb K) 506 Bse [] (Api K) (fun n=>kC (Bgy K _) kN)
def Bvu:=ct (Bnb K) (A1k K) (kC (Bkb K K) kN)
def Arv (v4 v5:Int)(v6 v7:Int)(v8 v9:Int)(v10 v11 v12:List Int)(v13:List Az)(v14:List Bb)(v15:List Int):Nat->Int->Option Bool
 |0,_=>none
 |n3+1,v23=>bif decide (v23<v15.length)then if 0<=v23/\v23<v15.length then(F2 K (gt v15 v23) 0 255).bind fun r24=>bif !r24 then some false else Arv v4 v5 v6 v7 v8 v9 v10 v11 v12 v13 v14 v15 n3 (A1 v23 1)else none else(Az8 K (Bo.mk (Fi.mk v4 v5 v6 v7 v8 v9) (Ef.mk v10 v11 v12) v13 v14 v15)).bind fun r25=>some r25
def Auh (v4 v5:Int)(v6 v7:Int)(v8 v9:Int)(v10 v11 v12:List Int)(v13:List Az)(v14:List Bb)(v15:List Int):Nat->Int->Option Bool
 |0,_=>none
 |n2+1,v21=>bif decide (v21<v14.length)then(A1h K (Bo.mk (Fi.mk v4 v5 v6 v7 v8 v9) (Ef.mk v10 v11 v12) v13 v14 v15) v21).bind fun r22=>bif !r22 then some false else Auh v4 v5 v6 v7 v8 v9 v10 v11 v12 v13 v14 v15 n2 (A1 v21 1)else Arv K v4 v5 v6 v7 v8 v9 v10 v11 v12 v13 v14 v15 K 0
def Arw:Nat->Int->Int->Int->Int->Int->Int->Int->(List Int)->(List Int)->(List Int)->(List Az)->(List Bb)->(List Int)->Option Bool
 |0,_,_,_,_,_,_,_,_,_,_,_,_,_=>none
 |n1+1,v3,v4,v5,v6,v7,v8,v9,v10,v11,v12,v13,v14,v15=>bif decide (v3<v13.length)then if 0<=v3/\v3<v13.length then(Aun K (Fi.mk v4 v5 v6 v7 v8 v9) (gt v13 v3)).bind fun r16=>bif r16 then(A0a K (Bo.mk (Fi.mk v4 v5 v6 v7 v8 v9) (Ef.mk v10 v11 v12) v13 v14 v15) v3).bind fun r17=>bif r17 then if 0<=v3/\v3<v13.length then(A1i K (Fi.mk v4 v5 v6 v7 v8 v9) (gt v13 v3)).bind fun r18=>bif r18 then if 0<=v3/\v3<v13.length then(A1j K (gt v13 v3).D5).bind fun r19=>bif r19 then(A1k K (Bo.mk (Fi.mk v4 v5 v6 v7 v8 v9) (Ef.mk v10 v11 v12) v13 v14 v15) v3).bind fun r20=>bif !r20 then some false else Arw n1 (A1 v3 1) v4 v5 v6 v7 v8 v9 v10 v11 v12 v13 v14 v15 else some false else none else some false else none else some false else some false else none else Auh K v4 v5 v6 v7 v8 v9 v10 v11 v12 v13 v14 v15 K 0
def Asq (a0:Bo):Option Bool:=(A0s K a0.fC a0.fP).bind fun r1=>bif r1 then bif (a0.fL.length:Int) != a0.fC.Cd then some false else(A3o K a0.fL).bind fun r2=>bif !r2 then some false else Arw K K 0 a0.fC.Ad a0.fC.Du a0.fC.Cd a0.fC.Ez a0.fC.Ce a0.fC.Dv a0.fP.Fp a0.fP.G4 a0.fP.Fq a0.fL a0.fQ a0.Jp else some false
def Biz:=fd Tryz.func40 ⟨[.v 38],[.v 4],true⟩ (gC (Btu K) (gC (B0w K) (gC (Bcw K) (gC (B04 K) (gC (B05 K) (gC (Bvt K) (gC (Bvu K) (gC (B02 K) (gC (A5f K) (gC (B0z K) gN)))))))))) [10,11,12,19,20,21,41,42,43,46,47,48,49,57,58,59,60,67,68,69,70]
def B3k:Fw:=⟨[(1,.p 101),(5,.v 2)],[(101,.box bx6)]⟩
def B3l:Fw:=⟨[(1,.p 101),(4,.v 2)],[(101,.box bx6)]⟩
def B3m:Fw:=⟨[(1,.p 101),(3,.v 2)],[(101,.box bx6)]⟩
def Bkc:=lp (Biz K) 250 B3k [] (fun n a b c d e f g h i j k l m=>Arv K b c d e f g h i j k l m n a) (fun n=>kN)
def Bkd:=lp (Biz K) 122 B3l [] (fun n a b c d e f g h i j k l m=>Auh K b c d e f g h i j k l m n a) (fun n=>kC (up (Bkc K K)) kN)
def Bnc:=lp (Biz K) 58 B3m [] (Arw K) (fun n=>kC (up (Bkd K K)) kN)
def A9k:=ct (Biz K) (Asq K) (kC (Bnc K K) kN)
def A4j (a0:Fb):Option Bool:=(Ayg K a0.fH).bind fun r1=>bif r1 then bif decide (a0.Nb>=0)then some (decide (a0.fNo>=0))else some false else some false
def Bvv:=ct (fd Tryz.func385 ⟨[.v 42],[.v 4],true⟩ (gC (Btn K) gN) [5,6,9,10,11]) (A4j K)
def A2l (a0:Az)(a1:Fb):Option (Bn×Bool):=bif a0.G4 != 1 then some ((Bn.mk 0 0 0),false)else bif a0.Nb != a1.Nb then some ((Bn.mk 0 0 0),false)else(F2 K a1.fNo 0 (Ap a0.D5.length 1)).bind fun r1=>bif !r1 then some ((Bn.mk 0 0 0),false)else if 0<=a1.fNo/\a1.fNo<a0.D5.length then some ((gt a0.D5 a1.fNo),true)else none
def Bvw:=ct (fd Tryz.func386 ⟨[.v 77,.v 42],[.v 183,.v 4],true⟩ (gC (A5f K) gN) [8,9,14,15,16]) (A2l K)
def Axo (a0:Bo)(a1:Fb):Option (Int×Bn×Int):=(A4j K a1).bind fun r1=>bif !r1 then some ((-1),(Bn.mk 0 0 0),1)else(Ark K a0 a1.fH).bind fun r2=>bif r2.2 != 0 then some ((-1),(Bn.mk 0 0 0),r2.2)else if 0<=r2.1/\r2.1<a0.fL.length then(A2l K (gt a0.fL r2.1) a1).bind fun r3=>bif !r3.2 then some ((-1),(Bn.mk 0 0 0),2)else some (r2.1,r3.1,0)else none
def Bnd:=ct (fd Tryz.func378 ⟨[.v 38,.v 42],[.v 3,.v 183,.v 3],true⟩ (gC (Bcu K) (gC (Bvv K) (gC (Bvw K) gN)))) (Axo K)
def A2m (K:Nat)(a0:Bn)(a1 a2:Int):Option Bool:=bif decide (a1>=0)then bif decide (a2>=0)then bif decide (a1<=a0.Yg)then bif decide (a2<=(Ap a0.Yg a1))then bif decide (a0.fAt<0)then some true else some (decide ((A1 a0.fAt a1)>=0))else some false else some false else some false else some false
def Bne:=ct (fd Tryz.func387 ⟨[.v 183,.v 3,.v 3],[.v 4],true⟩ gN [8,9,11,12,13,17,18,19,25,26,27,30,31]) (A2m K)
def Azq (K:Nat)(a0:List Int)(a1 a2:Int):Option Bool:=bif decide (a1>=0)then bif decide (a2>=0)then bif decide (a1<=a0.length)then some (decide (a2<=(Ap a0.length a1)))else some false else some false else some false
def Bnf:=ct (fd Tryz.func391 ⟨[.v 24,.v 3,.v 3],[.v 4],true⟩ gN [8,9,11,12,13,17,18,19]) (Azq K)
def A4k (a0:List Int)(a1 a2:Int):Option ((List Int)×Bool):=(Azq K a0 a1 a2).bind fun r1=>bif !r1 then some (([]:List Int),false)else if 0<=a1/\a1<=(A1 a1 a2)/\(A1 a1 a2)<=a0.length then if(([]:List Int)++((a0.drop a1.toNat).take ((A1 a1 a2) - a1).toNat)).length*1<=140737488355328/\(([]:List Int)++((a0.drop a1.toNat).take ((A1 a1 a2) - a1).toNat)).length<=maxLen then some ((([]:List Int)++((a0.drop a1.toNat).take ((A1 a1 a2) - a1).toNat)),true)else none else none
def Bvx:=ct (fd Tryz.func388 ⟨[.v 24,.v 3,.v 3],[.n 24 true,.v 4],true⟩ (gC (Bnf K) gN)) (A4k K)
def A0b (a0:List Int)(a1:Bn)(a2 a3:Int):Option ((List Int)×Bool):=(A2m K a1 a2 a3).bind fun r1=>bif !r1 then some (([]:List Int),false)else(A4k K a0 (A1 a1.fAt a2) a3).bind fun r2=>some (r2.1,r2.2)
def Bvy:=ct (fd Tryz.func379 ⟨[.v 24,.v 183,.v 3,.v 3],[.n 24 true,.v 4],true⟩ (gC (Bne K) (gC (Bvx K) gN))) (A0b K)
def A5j (a0:Bo)(a1:Fb)(a2 a3:Int):Option (Bo×F8):=(Ap6 K a0).bind fun r1=>(Asq K a0).bind fun r2=>bif !r2 then some (r1,(F8.mk 1 (Ch.mk 0 0) (Fb.mk (Ch.mk 0 0) 0 0) [] 0 0 0))else(Axo K a0 a1).bind fun r3=>(Asf K a0 a1.fH).bind fun r4=>bif r3.2.2 != 0 then some (r1,(F8.mk r3.2.2 (Ch.mk 0 0) (Fb.mk (Ch.mk 0 0) 0 0) [] r4 0 0))else(A0b K a0.fP.Fp r3.2.1 a2 a3).bind fun r5=>bif !r5.2 then some (r1,(F8.mk 7 (Ch.mk 0 0) (Fb.mk (Ch.mk 0 0) 0 0) [] r4 0 0))else some (r1,(F8.mk r3.2.2 (Ch.mk 0 0) (Fb.mk (Ch.mk 0 0) 0 0) r5.1 r4 0 0))
def Bvz:=ct (fd Tryz.func358 ⟨[.v 38,.v 42,.v 3,.v 3],[.n 38 true,.n 44 true],false⟩ (gC (A9k K) (gC (Ba3 K) (gC (Ba2 K) (gC (Bnd K) (gC (Bvy K) gN))))) [] [] [(7,[.take 114 7 6831]),(11,[.take 114 7 6831])]) (A5j K)
def Aur (K:Nat)(a1:Int)(a2:List Int):Nat->(List Int)->Int->Option ((List Int)×Bool)
 |0,_,_=>none
 |n1+1,v2,v3=>bif decide (v3<a2.length)then if 0<=v3/\v3<a2.length then if 0<=(A1 a1 v3)/\(A1 a1 v3)<v2.length then Aur K a1 a2 n1 (v2.set (A1 a1 v3).toNat (gt a2 v3)) (A1 v3 1)else none else none else some (v2,true)
def A4l (a0:List Int)(a1:Int)(a2:List Int):Option ((List Int)×Bool):=if(([]:List Int)++a0).length*1<=140737488355328/\(([]:List Int)++a0).length<=maxLen then(Azq K a0 a1 (a2.length:Int)).bind fun r1=>bif !r1 then some ((([]:List Int)++a0),false)else Aur K a1 a2 K (([]:List Int)++a0) 0 else none
def Bt3:=fd Tryz.func389 ⟨[.v 24,.v 3,.v 24],[.n 24 true,.v 4],true⟩ (gC (Bnf K) gN)
def B3n:Fw:=⟨[(1,.v 2),(2,.v 24),(8,.o 1008 5 true),(9,.v 2)],[]⟩
def Bke:=lp (Bt3 K) 122 B3n [] (fun n a b=>Aur K a b n) (fun n=>kN)
def Bv0:=ct (Bt3 K) (A4l K) (kC (Bke K K) kN)
def Ay8 (a0:List Int)(a1:Bn)(a2:Int)(a3:List Int):Option ((List Int)×Bool):=(A2m K a1 a2 (a3.length:Int)).bind fun r1=>bif !r1 then if(([]:List Int)++a0).length*1<=140737488355328/\(([]:List Int)++a0).length<=maxLen then some ((([]:List Int)++a0),false)else none else(A4l K a0 (A1 a1.fAt a2) a3).bind fun r2=>some (r2.1,r2.2)
def Bv1:=ct (fd Tryz.func380 ⟨[.v 24,.v 183,.v 3,.v 24],[.n 24 true,.v 4],true⟩ (gC (Bne K) (gC (Bv0 K) gN))) (Ay8 K)
def A4m (a0:Bo)(a1:Fb)(a2:Int)(a3:List Int):Option (Bo×F8):=(Ap6 K a0).bind fun r1=>(Asq K a0).bind fun r2=>bif !r2 then some (r1,(F8.mk 1 (Ch.mk 0 0) (Fb.mk (Ch.mk 0 0) 0 0) [] 0 0 0))else(Axo K a0 a1).bind fun r3=>(Asf K a0 a1.fH).bind fun r4=>bif r3.2.2 != 0 then some (r1,(F8.mk r3.2.2 (Ch.mk 0 0) (Fb.mk (Ch.mk 0 0) 0 0) [] r4 0 0))else(Ay8 K a0.fP.Fp r3.2.1 a2 a3).bind fun r5=>bif !r5.2 then some (r1,(F8.mk 7 (Ch.mk 0 0) (Fb.mk (Ch.mk 0 0) 0 0) [] r4 0 0))else some ((Bo.mk r1.fC (Ef.mk r5.1 r1.fP.G4 r1.fP.Fq) r1.fL r1.fQ r1.Jp),(F8.mk r3.2.2 (Ch.mk 0 0) (Fb.mk (Ch.mk 0 0) 0 0) [] r4 0 0))
def Bv2:=ct (fd Tryz.func359 ⟨[.v 38,.v 42,.v 3,.v 24],[.n 38 true,.n 44 true],false⟩ (gC (A9k K) (gC (Ba3 K) (gC (Ba2 K) (gC (Bnd K) (gC (Bv1 K) gN))))) [] [] [(7,[.take 114 7 6831]),(11,[.take 114 7 6831]),(13,[.take 114 7 6831])]) (A4m K)
def A4n (K:Nat)(v7:F8)(v10:Bo):Option (Bo×F8):=some (v10,v7)
def A2n (a2:Int)(r1:Bo)(v6:Int)(v7 v8:F8)(v9:Bo):Option (Bo×F8):=bif v7.Aab==0 then if 0<=v6/\v6<r1.fL.length then if 0<=v6/\v6<r1.fL.length then if(((gt r1.fL v6).Dh)++([a2]:List Int)).length*8<=140737488355328/\(((gt r1.fL v6).Dh)++([a2]:List Int)).length<=maxLen then if 0<=v6/\v6<r1.fL.length then A4n K v7 (Bo.mk r1.fC r1.fP (r1.fL.set v6.toNat (Az.mk (gt r1.fL v6).G4 (gt r1.fL v6).C7 (gt r1.fL v6).Nb (gt r1.fL v6).fUp (gt r1.fL v6).G5 (gt r1.fL v6).Bz (gt r1.fL v6).G6 (gt r1.fL v6).G7 (gt r1.fL v6).Ad (gt r1.fL v6).No (gt r1.fL v6).G8 (gt r1.fL v6).D5 (((gt r1.fL v6).Dh)++([a2]:List Int)))) r1.fQ r1.Jp)else none else none else none else none else A4n K v7 r1
def A6o (a0:Bo)(a1:Ch)(a2:Int):Option (Bo×F8):=(Ap6 K a0).bind fun r1=>(Asq K a0).bind fun r2=>bif r2 then(F2 K a2 0 255).bind fun r3=>bif !r3 then some (r1,(F8.mk 1 (Ch.mk 0 0) (Fb.mk (Ch.mk 0 0) 0 0) [] 0 0 0))else(Ark K a0 a1).bind fun r4=>(Asf K a0 a1).bind fun r5=>bif r4.2==0 then if 0<=r4.1/\r4.1<a0.fL.length then bif decide (((gt a0.fL r4.1).Dh.length:Int)>=6)then A2n K a2 r1 r4.1 (F8.mk 8 (Ch.mk 0 0) (Fb.mk (Ch.mk 0 0) 0 0) [] r5 0 0) (F8.mk 0 (Ch.mk 0 0) (Fb.mk (Ch.mk 0 0) 0 0) [] 0 0 0) (Bo.mk (Fi.mk 0 0 0 0 0 0) (Ef.mk [] [] []) [] [] [])else A2n K a2 r1 r4.1 (F8.mk r4.2 (Ch.mk 0 0) (Fb.mk (Ch.mk 0 0) 0 0) [] r5 0 0) (F8.mk 0 (Ch.mk 0 0) (Fb.mk (Ch.mk 0 0) 0 0) [] 0 0 0) (Bo.mk (Fi.mk 0 0 0 0 0 0) (Ef.mk [] [] []) [] [] [])else none else A2n K a2 r1 r4.1 (F8.mk r4.2 (Ch.mk 0 0) (Fb.mk (Ch.mk 0 0) 0 0) [] r5 0 0) (F8.mk 0 (Ch.mk 0 0) (Fb.mk (Ch.mk 0 0) 0 0) [] 0 0 0) (Bo.mk (Fi.mk 0 0 0 0 0 0) (Ef.mk [] [] []) [] [] [])else some (r1,(F8.mk 1 (Ch.mk 0 0) (Fb.mk (Ch.mk 0 0) 0 0) [] 0 0 0))
def Bng:=fd Tryz.func360 ⟨[.v 38,.v 40,.v 3],[.n 38 true,.n 44 true],false⟩ (gC (A9k K) (gC (Ba3 K) (gC (A5f K) (gC (Bcu K) (gC (Ba2 K) gN))))) [15,16,17,36,37] [63,127] [(9,[.take 108 9 6737,.opn 6737 (.tmp 9),.takeE 6737 12 87180]),(10,[.take 108 6 6734,.take 108 7 6735,.take 108 8 6736,.take 108 9 6737,.take 108 10 6738,.take 108 11 6739,.take 111 7 6783])]
def B3o:Fw:=⟨[(6,.p 106),(7,.p 107),(8,.p 108),(11,.p 111)],[(111,.st 44 true),(108,.st 38 true),(107,.st 44 true),(106,.st 38 true)]⟩
def B3p:Fw:=⟨[(2,.v 2),(6,.p 106),(7,.p 107),(8,.p 108),(9,.v 2),(11,.p 111)],[(111,.st 44 true),(108,.st 38 true),(107,.st 44 true),(106,.st 38 true)]⟩
def Bkf:=jn (Bng K) 127 B3o [] (fun a b _ _=>A4n K a b) kN
def Bnh:=jn (Bng K) 63 B3p [] (fun a b c d=>A2n K a d b c) (kC (Bkf K) kN)
def Bv3:=ct (Bng K) (A6o K) (kC (Bnh K) kN)
def A4z (a0:Fi)(a1:Az):Option Int:=bif a1.No==0 then some 0 else(Aun K a0 a1).bind fun r1=>bif !r1 then some 0 else some (Ap a0.Du a1.G8)
def Bv4:=ct (fd Tryz.func381 ⟨[.v 33,.v 77],[.v 3],true⟩ (gC (Bcw K) gN) [7,8]) (A4z K)
def A2o (K:Nat)(r1:Bo)(v6 v7:F8)(v8:Bo):Option (Bo×F8):=some (r1,v6)
def A4o (a0:Bo)(a1:Ch):Option (Bo×F8):=(Ap6 K a0).bind fun r1=>(Asq K a0).bind fun r2=>bif !r2 then some (r1,(F8.mk 1 (Ch.mk 0 0) (Fb.mk (Ch.mk 0 0) 0 0) [] 0 0 0))else(Ark K a0 a1).bind fun r3=>(Asf K a0 a1).bind fun r4=>bif r3.2==0 then if 0<=r3.1/\r3.1<a0.fL.length then(A4z K a0.fC (gt a0.fL r3.1)).bind fun r5=>A2o K r1 (F8.mk r3.2 (Ch.mk 0 0) (Fb.mk (Ch.mk 0 0) 0 0) ([(IntKind.u8.wrap (((gt a0.fL r3.1).Ad).length:Int)),(IntKind.u8.wrap (((gt a0.fL r3.1).D5).length:Int)),(IntKind.u8.wrap (((gt a0.fL r3.1).Dh).length:Int)),(IntKind.u8.wrap r5)]:List Int) r4 0 0) (F8.mk 0 (Ch.mk 0 0) (Fb.mk (Ch.mk 0 0) 0 0) [] 0 0 0) (Bo.mk (Fi.mk 0 0 0 0 0 0) (Ef.mk [] [] []) [] [] [])else none else A2o K r1 (F8.mk r3.2 (Ch.mk 0 0) (Fb.mk (Ch.mk 0 0) 0 0) [] r4 0 0) (F8.mk 0 (Ch.mk 0 0) (Fb.mk (Ch.mk 0 0) 0 0) [] 0 0 0) (Bo.mk (Fi.mk 0 0 0 0 0 0) (Ef.mk [] [] []) [] [] [])
def Bt4:=fd Tryz.func361 ⟨[.v 38,.v 40],[.n 38 true,.n 44 true],false⟩ (gC (A9k K) (gC (Ba3 K) (gC (Bcu K) (gC (Ba2 K) (gC (Bv4 K) gN))))) [] [63] [(9,[.take 106 6 6702,.take 106 7 6703,.take 106 8 6704,.take 106 9 6705,.take 106 10 6706,.take 106 11 6707,.take 109 7 6751])]
def B3q:Fw:=⟨[(4,.p 104),(5,.p 105),(6,.p 106),(9,.p 109)],[(109,.st 44 true),(106,.st 38 true),(105,.st 44 true),(104,.st 38 true)]⟩
def Bni:=jn (Bt4 K) 63 B3q [] (fun a b=>A2o K b a) kN
def Bv5:=ct (Bt4 K) (A4o K) (kC (Bni K) kN)
def A3p (a0:Bo)(a1:Di):Option (Bo×F8):=bif a1.Aad==3 then(A5j K a0 a1.fR a1.fN a1.fM).bind fun r1=>some (r1.1,r1.2)else bif a1.Aad==4 then(A4m K a0 a1.fR a1.fN a1.fB).bind fun r2=>some (r2.1,r2.2)else bif a1.Aad==5 then(A6o K a0 a1.fH a1.fN).bind fun r3=>some (r3.1,r3.2)else bif a1.Aad==8 then(A4o K a0 a1.fH).bind fun r4=>some (r4.1,r4.2)else(Ap6 K a0).bind fun r5=>some (r5,(F8.mk 1 (Ch.mk 0 0) (Fb.mk (Ch.mk 0 0) 0 0) [] 0 0 0))
def Bv6:=ct (fd Tryz.func311 ⟨[.v 38,.v 55],[.n 38 true,.n 44 true],false⟩ (gC (Ba3 K) (gC (Bvz K) (gC (Bv2 K) (gC (Bv3 K) (gC (Bv5 K) gN)))))) (A3p K)
def A40 (K:Nat)(v31 v32:Int)(v33 v34:Int)(v35 v36:Int)(v37 v38 v39:List Int)(v40:List Az)(v41:List Bb)(v42:List Int)(v43:F8):Option (F8×Bo):=some (v43,(Bo.mk (Fi.mk v31 v32 v33 v34 v35 v36) (Ef.mk v37 v38 v39) v40 v41 v42))
def Azr (v4:Bool)(v5 v6:Int)(v7 v8:Int)(v9 v10:Int)(v11 v12 v13:List Int)(v14:List Az)(v15:List Bb)(v16:List Int)(v17:F8)(v18 v19:Int)(v20 v21:Int)(v22 v23:Int)(v24 v25 v26:Int)(v27:List Int):Option (F8×Bo):=bif v4 then(Ark K (Bo.mk (Fi.mk v5 v6 v7 v8 v9 v10) (Ef.mk v11 v12 v13) v14 v15 v16) (Ch.mk v19 v20)).bind fun r28=>(Asf K (Bo.mk (Fi.mk v5 v6 v7 v8 v9 v10) (Ef.mk v11 v12 v13) v14 v15 v16) (Ch.mk v19 v20)).bind fun r29=>bif r28.2 != 0 then some ((F8.mk r28.2 (Ch.mk 0 0) (Fb.mk (Ch.mk 0 0) 0 0) [] r29 0 0),(Bo.mk (Fi.mk v5 v6 v7 v8 v9 v10) (Ef.mk v11 v12 v13) v14 v15 v16))else bif v18==6 then(Ay6 K (Bo.mk (Fi.mk v5 v6 v7 v8 v9 v10) (Ef.mk v11 v12 v13) v14 v15 v16) r28.1).bind fun r30=>A40 K r30.fC.Ad r30.fC.Du r30.fC.Cd r30.fC.Ez r30.fC.Ce r30.fC.Dv r30.fP.Fp r30.fP.G4 r30.fP.Fq r30.fL r30.fQ r30.Jp (F8.mk r28.2 (Ch.mk 0 0) (Fb.mk (Ch.mk 0 0) 0 0) [] r29 0 0)else(A1f K (Bo.mk (Fi.mk v5 v6 v7 v8 v9 v10) (Ef.mk v11 v12 v13) v14 v15 v16) r28.1).bind fun r44=>A40 K r44.fC.Ad r44.fC.Du r44.fC.Cd r44.fC.Ez r44.fC.Ce r44.fC.Dv r44.fP.Fp r44.fP.G4 r44.fP.Fq r44.fL r44.fQ r44.Jp (F8.mk r28.2 (Ch.mk 0 0) (Fb.mk (Ch.mk 0 0) 0 0) [] r29 0 0)else(A3p K (Bo.mk (Fi.mk v5 v6 v7 v8 v9 v10) (Ef.mk v11 v12 v13) v14 v15 v16) (Di.mk v18 (Ch.mk v19 v20) (Fb.mk (Ch.mk v21 v22) v23 v24) v25 v26 v27)).bind fun r45=>some (r45.2,r45.1)
def A4p (a0:Bo)(a1:Di):Option (F8×Bo):=bif a1.Aad==1 then(A2f K a0 a1.fH).bind fun r1=>some (r1.1,r1.2)else bif a1.Aad==2 then(A1e K a0 a1.fH a1.fN a1.fM).bind fun r2=>some (r2.1,r2.2)else bif a1.Aad==9 then(Avz K a0 4000).bind fun r3=>some ((F8.mk 0 (Ch.mk 0 0) (Fb.mk (Ch.mk 0 0) 0 0) [] 0 0 r3.1),r3.2)else bif a1.Aad==6 then Azr K (a1.Aad==6) a0.fC.Ad a0.fC.Du a0.fC.Cd a0.fC.Ez a0.fC.Ce a0.fC.Dv a0.fP.Fp a0.fP.G4 a0.fP.Fq a0.fL a0.fQ a0.Jp (F8.mk 0 (Ch.mk 0 0) (Fb.mk (Ch.mk 0 0) 0 0) [] 0 0 0) a1.Aad a1.fH.Be a1.fH.C7 a1.fR.fH.Be a1.fR.fH.C7 a1.fR.Nb a1.fR.fNo a1.fN a1.fM a1.fB else Azr K (a1.Aad==7) a0.fC.Ad a0.fC.Du a0.fC.Cd a0.fC.Ez a0.fC.Ce a0.fC.Dv a0.fP.Fp a0.fP.G4 a0.fP.Fq a0.fL a0.fQ a0.Jp (F8.mk 0 (Ch.mk 0 0) (Fb.mk (Ch.mk 0 0) 0 0) [] 0 0 0) a1.Aad a1.fH.Be a1.fH.C7 a1.fR.fH.Be a1.fR.fH.C7 a1.fR.Nb a1.fR.fNo a1.fN a1.fM a1.fB
def Bnj:=fd Tryz.func253 ⟨[.b 38 false,.v 55],[.v 44],false⟩ (gC (Biv K) (gC (B0g K) (gC (B0n K) (gC (Bcu K) (gC (Ba2 K) (gC (B0p K) (gC (B0r K) (gC (Bv6 K) gN)))))))) [] [1727,55287] [(10,[.take 1 6 5022,.take 1 7 5023,.take 1 8 5024,.take 1 9 5025,.take 1 10 5026,.take 1 11 5027]),(13,[.take 107 7 6719]),(15,[.put 1]),(16,[.put 1]),(17,[.take 107 7 6719]),(18,[.take 1 6 5022,.take 1 7 5023,.take 1 8 5024,.take 1 9 5025,.take 1 10 5026,.take 1 11 5027,.frz 5022,.frz 5023,.frz 5024,.frz 5025,.frz 5026,.frz 5027])]
def B3r:Fw:=⟨[(4,.p 104),(7,.p 107)],[(1,.box bx1),(107,.st 44 true),(104,.st 44 true)]⟩
def B3s:Fw:=⟨[(0,.p 1),(3,.p 103),(4,.p 104),(33,.v 4)],[(1,.box bx1),(104,.st 44 true),(103,.box [.v 2,.v 2,.v 2,.v 2,.v 2,.v 2,.v 2,.v 2,.v 2,.v 24])]⟩
def Be8:=jn (Bnj K) 55287 B3r [] (fun a b c d e f g h i j k l m _=>A40 K a b c d e f g h i j k l m) kN
def Bgz:=jn (Bnj K) 1727 B3s [] (Azr K) (kC (Be8 K) kN)
def Bv7:=ct (Bnj K) (A4p K) (kC (Bgz K) kN)
def Ayl:Nat->(List Di)->Int->(List Int)->Int->Int->Bo->Fi->Bo->Fi->Option (Fi×(List Di)×Bo×E2)
 |0,_,_,_,_,_,_,_,_,_=>none
 |n1+1,v4,v5,v6,v7,v8,v9,v10,v11,v12=>bif decide (v5>0)then bif decide ((v4.length:Int)<200)then(Azh K (E2.mk v6 v7 v8) v9).bind fun r13=>if r13.2.2.1.length=v9.fP.Fp.length/\r13.2.2.2.1.length=v9.fP.G4.length/\r13.2.2.2.2.1.length=v9.fP.Fq.length/\r13.2.2.2.2.2.1.length=v9.fL.length/\r13.2.2.2.2.2.2.1.length=v9.fQ.length/\r13.2.2.2.2.2.2.2.length=v9.Jp.length then if(v4++([r13.1]:List Di)).length*96<=140737488355328/\(v4++([r13.1]:List Di)).length<=maxLen then(A4p K (Bo.mk v9.fC (Ef.mk r13.2.2.1 r13.2.2.2.1 r13.2.2.2.2.1) r13.2.2.2.2.2.1 r13.2.2.2.2.2.2.1 r13.2.2.2.2.2.2.2) r13.1).bind fun r14=>Ayl n1 (v4++([r13.1]:List Di)) (Ap v5 1) r13.2.1.fb r13.2.1.fi r13.2.1.fh r14.2 v10 v11 v12 else none else none else some (v10,v4,v9,(E2.mk v6 v7 v8))else some (v10,v4,v9,(E2.mk v6 v7 v8))
def A3q (a0:E2)(a1:Int):Option (Fi×(List Di)×Bo×E2):=(A0o K a0).bind fun r1=>(A06 K r1.1).bind fun r2=>(A4 K r1.2 a1).bind fun r3=>Ayl K K ([]:List Di) (A1 4 r3.1) r3.2.fb r3.2.fi r3.2.fh r2 r1.1 (Bo.mk (Fi.mk 0 0 0 0 0 0) (Ef.mk [] [] []) [] [] []) (Fi.mk 0 0 0 0 0 0)
def Bt5:=fd Tryz.func157 ⟨[.b 171 false,.v 3],[.v 33,.n 81 false,.n 38 false],false⟩ (gC (Bza K) (gC (Btm K) (gC (A8g K) (gC (By4 K) (gC (Bv7 K) gN))))) [22,23] [] [(4,[.put 108,.take 108 10 6738,.shal 6738,.put 108,.shal 1009]),(7,[.take 108 6 6734,.take 108 7 6735,.take 108 8 6736,.take 108 9 6737,.take 108 10 6738,.take 108 11 6739]),(9,[.put 108]),(10,[.take 108 6 6734,.take 108 7 6735,.take 108 8 6736,.take 108 9 6737,.take 108 10 6738,.take 108 11 6739])] [(32,[.frz 3032])]
def B3t:Fw:=⟨[(0,.p 1),(4,.p 104),(6,.p 106),(7,.p 107),(8,.p 108),(9,.o 1009 55 false),(10,.v 2)],[(1,.box bx8),(108,.st 38 false),(107,.st 33 true),(106,.st 38 true),(104,.st 33 true)]⟩
def Bkg:=lp (Bt5 K) 250 B3t [] (Ayl K) (fun n=>kN)
def Bv8:=ct (Bt5 K) (A3q K) (kC (Bkg K K) kN)
def Aym (a0:E2)(a1:Int):Option (Bo×E2):=(A3q K a0 a1).bind fun r1=>some (r1.2.2.1,r1.2.2.2)
def Bnk:=ct (fd Tryz.func112 ⟨[.b 171 false,.v 3],[.n 38 false],false⟩ (gC (Bv8 K) gN)) (Aym K)
def A0c (a0:List Int):Option (Bo×Di):=(A18 K a0).bind fun r1=>(A0n K a0 50).bind fun r2=>(Aym K r1 (A1 20 r2)).bind fun r3=>(Azh K r3.2 r3.1).bind fun r4=>if r4.2.2.1.length=r3.1.fP.Fp.length/\r4.2.2.2.1.length=r3.1.fP.G4.length/\r4.2.2.2.2.1.length=r3.1.fP.Fq.length/\r4.2.2.2.2.2.1.length=r3.1.fL.length/\r4.2.2.2.2.2.2.1.length=r3.1.fQ.length/\r4.2.2.2.2.2.2.2.length=r3.1.Jp.length then some ((Bo.mk r3.1.fC (Ef.mk r4.2.2.1 r4.2.2.2.1 r4.2.2.2.2.1) r4.2.2.2.2.2.1 r4.2.2.2.2.2.2.1 r4.2.2.2.2.2.2.2),r4.1)else none
def Bv9:=ct (fd Tryz.func23 ⟨[.v 24],[.n 38 false,.n 55 true],false⟩ (gC (By2 K) (gC (Bnk K) (gC (B2d K) (gC (Btm K) gN))))) (A0c K)
def As2 (K:Nat)(v4:List Int)(v5 v6:Int)(v7 v8:Fi):Option (Fi×E2):=some (v7,(E2.mk v4 v5 v6))
def A4q (a0:E2):Option (Fi×E2):=(A0o K a0).bind fun r1=>(A4 K r1.2 14).bind fun r2=>bif r2.1==0 then(P2 K r2.2 ([1,2,12,13]:List Int)).bind fun r3=>if r3.2.2.length=([1,2,12,13]:List Int).length then As2 K r3.2.1.fb r3.2.1.fi r3.2.1.fh (Fi.mk r3.1 r1.1.Du r1.1.Cd r1.1.Ez r1.1.Ce r1.1.Dv) (Fi.mk 0 0 0 0 0 0)else none else bif r2.1==1 then(P2 K r2.2 ([7,8,16,17]:List Int)).bind fun r9=>if r9.2.2.length=([7,8,16,17]:List Int).length then As2 K r9.2.1.fb r9.2.1.fi r9.2.1.fh (Fi.mk r1.1.Ad r9.1 r1.1.Cd r1.1.Ez r1.1.Ce r1.1.Dv) (Fi.mk 0 0 0 0 0 0)else none else bif r2.1==2 then(P2 K r2.2 ([1,8,9]:List Int)).bind fun r10=>if r10.2.2.length=([1,8,9]:List Int).length then As2 K r10.2.1.fb r10.2.1.fi r10.2.1.fh (Fi.mk r1.1.Ad r1.1.Du r10.1 r1.1.Ez r1.1.Ce r1.1.Dv) (Fi.mk 0 0 0 0 0 0)else none else bif r2.1==3 then(P2 K r2.2 ([0,8,9]:List Int)).bind fun r11=>if r11.2.2.length=([0,8,9]:List Int).length then As2 K r11.2.1.fb r11.2.1.fi r11.2.1.fh (Fi.mk r1.1.Ad r1.1.Du r1.1.Cd r11.1 r1.1.Ce r1.1.Dv) (Fi.mk 0 0 0 0 0 0)else none else bif r2.1==4 then(P2 K r2.2 ([0,17]:List Int)).bind fun r12=>if r12.2.2.length=([0,17]:List Int).length then As2 K r12.2.1.fb r12.2.1.fi r12.2.1.fh (Fi.mk r1.1.Ad r1.1.Du r1.1.Cd r1.1.Ez r12.1 r1.1.Dv) (Fi.mk 0 0 0 0 0 0)else none else bif r2.1==5 then(P2 K r2.2 ([0,5]:List Int)).bind fun r13=>if r13.2.2.length=([0,5]:List Int).length then As2 K r13.2.1.fb r13.2.1.fi r13.2.1.fh (Fi.mk r1.1.Ad r1.1.Du r1.1.Cd r1.1.Ez r1.1.Ce r13.1) (Fi.mk 0 0 0 0 0 0)else none else As2 K r2.2.fb r2.2.fi r2.2.fh r1.1 (Fi.mk 0 0 0 0 0 0)
def Bt6:=fd Tryz.func127 ⟨[.b 171 false],[.v 33],false⟩ (gC (A8g K) (gC (Bdg K) (gC (By4 K) gN))) [] [7]
def B3u:Fw:=⟨[(2,.p 102),(3,.p 103)],[(1,.box bx8),(103,.st 33 true),(102,.st 33 true)]⟩
def Bsf:=jn (Bt6 K) 7 B3u [] (As2 K) kN
def Bwa:=ct (Bt6 K) (A4q K) (kC (Bsf K) kN)
def Axp (a1:Fi)(v4:List Int)(v5 v6:Int)(v7:Bn):Option (Bn×E2):=(A4 K (E2.mk v4 v5 v6) a1.Ad).bind fun r8=>(A4 K r8.2 a1.Du).bind fun r9=>(A4 K r9.2 (Ap a1.Du r9.1)).bind fun r10=>some ((Bn.mk (A1 (K1 r8.1 a1.Du) r9.1) (A1 1 r10.1) 0),r10.2)
def A2p (a0:E2)(a1:Fi):Option (Bn×E2):=(Ap4 K a0 4).bind fun r1=>bif r1.1 then bif decide (a1.Ad>2)then(A4 K r1.2 (Ap a1.Ad 1)).bind fun r2=>(A4 K r2.2 a1.Du).bind fun r3=>some ((Bn.mk (K1 a1.Du r2.1) (A1 (A1 a1.Du 1) r3.1) 2),r3.2)else Axp K a1 r1.2.fb r1.2.fi r1.2.fh (Bn.mk 0 0 0)else Axp K a1 r1.2.fb r1.2.fi r1.2.fh (Bn.mk 0 0 0)
def Bt7:=fd Tryz.func340 ⟨[.b 171 false,.v 33],[.v 183],false⟩ (gC (A8g K) (gC (Be3 K) gN)) [8,9] [3]
def B3v:Fw:=⟨[(0,.p 1),(3,.p 103),(4,.p 104)],[(1,.box bx8),(104,.st 183 true),(103,.st 33 true)]⟩
def Bsg:=jn (Bt7 K) 3 B3v [] (fun a b c d e=>Axp K e a b c d) kN
def Bwb:=ct (Bt7 K) (A2p K) (kC (Bsg K) kN)
def Ayn:Nat->Int->(List Int)->Int->Int->Az->Option (Az×E2)
 |0,_,_,_,_,_=>none
 |n4+1,v25,v26,v27,v28,v29=>bif decide (v25>0)then(A4 K (E2.mk v26 v27 v28) 256).bind fun r30=>if(v29.Dh++([r30.1]:List Int)).length*8<=140737488355328/\(v29.Dh++([r30.1]:List Int)).length<=maxLen then Ayn n4 (Ap v25 1) r30.2.fb r30.2.fi r30.2.fh (Az.mk v29.G4 v29.C7 v29.Nb v29.fUp v29.G5 v29.Bz v29.G6 v29.G7 v29.Ad v29.No v29.G8 v29.D5 (v29.Dh++([r30.1]:List Int)))else none else some (v29,(E2.mk v26 v27 v28))
def Ayo (a1:Fi):Nat->Int->(List Int)->Int->Int->Az->Option (Az×E2)
 |0,_,_,_,_,_=>none
 |n3+1,v18,v19,v20,v21,v22=>bif decide (v18>0)then(A2p K (E2.mk v19 v20 v21) a1).bind fun r23=>if(v22.D5++([r23.1]:List Bn)).length*24<=140737488355328/\(v22.D5++([r23.1]:List Bn)).length<=maxLen then Ayo a1 n3 (Ap v18 1) r23.2.fb r23.2.fi r23.2.fh (Az.mk v22.G4 v22.C7 v22.Nb v22.fUp v22.G5 v22.Bz v22.G6 v22.G7 v22.Ad v22.No v22.G8 (v22.D5++([r23.1]:List Bn)) v22.Dh)else none else(A4 K (E2.mk v19 v20 v21) 3).bind fun r24=>Ayn K K r24.1 r24.2.fb r24.2.fi r24.2.fh v22
def Ayp (a1:Fi)(v13:List Int)(v14 v15:Int)(v16:Az):Option (Az×E2):=(A4 K (E2.mk v13 v14 v15) 3).bind fun r17=>Ayo K a1 K r17.1 r17.2.fb r17.2.fi r17.2.fh v16
def Ayq (a1:Fi):Nat->Int->(List Int)->Int->Int->Az->Az->Option (Az×E2)
 |0,_,_,_,_,_,_=>none
 |n1+1,v6,v7,v8,v9,v10,v11=>bif decide (v6>0)then if(v10.Ad++([(Ap v6 1)]:List Int)).length*8<=140737488355328/\(v10.Ad++([(Ap v6 1)]:List Int)).length<=maxLen then Ayq a1 n1 (Ap v6 1) v7 v8 v9 (Az.mk v10.G4 v10.C7 v10.Nb v10.fUp v10.G5 v10.Bz v10.G6 v10.G7 (v10.Ad++([(Ap v6 1)]:List Int)) v10.No v10.G8 v10.D5 v10.Dh) v11 else none else bif decide ((v10.Ad.length:Int)>0)then if(0:Int)<=0/\0<(v10.Ad.length:Int)then(A4 K (E2.mk v7 v8 v9) (A1 a1.Du 1)).bind fun r12=>Ayp K a1 r12.2.fb r12.2.fi r12.2.fh (Az.mk v10.G4 v10.C7 v10.Nb v10.fUp v10.G5 v10.Bz v10.G6 v10.G7 v10.Ad (A1 (gt v10.Ad 0) 1) r12.1 v10.D5 v10.Dh)else none else Ayp K a1 v7 v8 v9 v10
def A3r (a0:E2)(a1:Fi):Option (Az×E2):=(A4 K a0 a1.Dv).bind fun r1=>(Amn K (A1 1 r1.1)).bind fun r2=>(A4 K r1.2 4).bind fun r3=>bif r3.1 != 1 then some ((Az.mk r3.1 r2.C7 r2.Nb r2.fUp r2.G5 r2.Bz r2.G6 r2.G7 r2.Ad r2.No r2.G8 r2.D5 r2.Dh),r3.2)else(A4 K r3.2 3).bind fun r4=>(A4 K r4.2 3).bind fun r5=>Ayq K a1 K r5.1 r5.2.fb r5.2.fi r5.2.fh (Az.mk r3.1 r2.C7 r4.1 r2.fUp r2.G5 r2.Bz r2.G6 r2.G7 r2.Ad r2.No r2.G8 r2.D5 r2.Dh) (Az.mk 0 0 0 0 0 0 0 0 [] 0 0 [] [])
def Be9:=fd Tryz.func299 ⟨[.b 171 false,.v 33],[.n 77 false],false⟩ (gC (A8g K) (gC (Be2 K) (gC (Bwb K) gN))) [] [127] [(9,[.take 105 8 6688]),(10,[.take 105 8 6688]),(17,[.take 105 11 6691]),(21,[.take 105 12 6692]),(22,[.take 105 8 6688,.take 105 11 6691,.take 105 12 6692])]
def B3w:Fw:=⟨[(0,.p 1),(4,.p 104),(5,.p 105),(9,.v 2)],[(1,.box bx8),(105,.st 77 false),(104,.st 77 false)]⟩
def B06:Fw:=⟨[(0,.p 1),(3,.p 103),(4,.p 104),(5,.p 105),(7,.v 2)],[(1,.box bx8),(105,.st 77 false),(104,.st 77 false),(103,.st 33 true)]⟩
def B3x:Fw:=⟨[(0,.p 1),(3,.p 103),(4,.p 104),(5,.p 105)],[(1,.box bx8),(105,.st 77 false),(104,.st 77 false),(103,.st 33 true)]⟩
def B3y:Fw:=⟨[(0,.p 1),(3,.p 103),(4,.p 104),(5,.p 105),(6,.v 2)],[(1,.box bx8),(105,.st 77 false),(104,.st 77 false),(103,.st 33 true)]⟩
def Bg0:=lp (Be9 K) 4090 B3w [] (fun n a b c d e _=>Ayn K n a b c d e) (fun n=>kN)
def Bg1:=lp (Be9 K) 2042 B06 [] (fun n a b c d e _ g=>Ayo K g n a b c d e) (fun n=>kC (up (Bg0 K K)) kN)
def Bkh:=jn (Be9 K) 127 B3x [] (fun a b c d _ f=>Ayp K f a b c d) (kC (Bg1 K K) kN)
def Bki:=lp (Be9 K) 506 B3y [] (fun n a b c d e f g=>Ayq K g n a b c d e f) (fun n=>kC (up (Bkh K)) kN)
def Bwc:=ct (Be9 K) (A3r K) (kC (Bki K K) kN)
def Amu (K:Nat)(v4:List Int)(v5 v6:Int)(v7 v8:Az):Option (Az×E2):=some (v7,(E2.mk v4 v5 v6))
def A4r (a0:E2)(a1:Fi):Option (Az×E2):=(A3r K a0 a1).bind fun r1=>(A4 K r1.2 14).bind fun r2=>bif r2.1==0 then(A4 K r2.2 6).bind fun r3=>Amu K r3.2.fb r3.2.fi r3.2.fh (Az.mk (Ap r3.1 1) r1.1.C7 r1.1.Nb r1.1.fUp r1.1.G5 r1.1.Bz r1.1.G6 r1.1.G7 r1.1.Ad r1.1.No r1.1.G8 r1.1.D5 r1.1.Dh) (Az.mk 0 0 0 0 0 0 0 0 [] 0 0 [] [])else bif r2.1==1 then(P2 K r2.2 ([0,4,5]:List Int)).bind fun r9=>if r9.2.2.length=([0,4,5]:List Int).length then Amu K r9.2.1.fb r9.2.1.fi r9.2.1.fh (Az.mk r1.1.G4 r9.1 r1.1.Nb r1.1.fUp r1.1.G5 r1.1.Bz r1.1.G6 r1.1.G7 r1.1.Ad r1.1.No r1.1.G8 r1.1.D5 r1.1.Dh) (Az.mk 0 0 0 0 0 0 0 0 [] 0 0 [] [])else none else bif r2.1==2 then(P2 K r2.2 ([(-1),1,8,9]:List Int)).bind fun r10=>if r10.2.2.length=([(-1),1,8,9]:List Int).length then Amu K r10.2.1.fb r10.2.1.fi r10.2.1.fh (Az.mk r1.1.G4 r1.1.C7 r1.1.Nb r10.1 r1.1.G5 r1.1.Bz r1.1.G6 r1.1.G7 r1.1.Ad r1.1.No r1.1.G8 r1.1.D5 r1.1.Dh) (Az.mk 0 0 0 0 0 0 0 0 [] 0 0 [] [])else none else bif r2.1==3 then(P2 K r2.2 ([0,12,(-1)]:List Int)).bind fun r11=>if r11.2.2.length=([0,12,(-1)]:List Int).length then if(r1.1.Ad++([r11.1]:List Int)).length*8<=140737488355328/\(r1.1.Ad++([r11.1]:List Int)).length<=maxLen then Amu K r11.2.1.fb r11.2.1.fi r11.2.1.fh (Az.mk r1.1.G4 r1.1.C7 r1.1.Nb r1.1.fUp r1.1.G5 r1.1.Bz r1.1.G6 r1.1.G7 (r1.1.Ad++([r11.1]:List Int)) r1.1.No r1.1.G8 r1.1.D5 r1.1.Dh) (Az.mk 0 0 0 0 0 0 0 0 [] 0 0 [] [])else none else none else bif r2.1==4 then(A4 K r2.2 4).bind fun r12=>Amu K r12.2.fb r12.2.fi r12.2.fh (Az.mk r1.1.G4 r1.1.C7 r1.1.Nb r1.1.fUp r1.1.G5 r1.1.Bz r1.1.G6 r1.1.G7 r1.1.Ad r12.1 r1.1.G8 r1.1.D5 r1.1.Dh) (Az.mk 0 0 0 0 0 0 0 0 [] 0 0 [] [])else bif r2.1==5 then(P2 K r2.2 ([0,8,17,(-1)]:List Int)).bind fun r13=>if r13.2.2.length=([0,8,17,(-1)]:List Int).length then Amu K r13.2.1.fb r13.2.1.fi r13.2.1.fh (Az.mk r1.1.G4 r1.1.C7 r1.1.Nb r1.1.fUp r1.1.G5 r1.1.Bz r1.1.G6 r1.1.G7 r1.1.Ad r1.1.No r13.1 r1.1.D5 r1.1.Dh) (Az.mk 0 0 0 0 0 0 0 0 [] 0 0 [] [])else none else bif r2.1==6 then(P2 K r2.2 ([255,256,(-1)]:List Int)).bind fun r14=>if r14.2.2.length=([255,256,(-1)]:List Int).length then if(r1.1.Dh++([r14.1]:List Int)).length*8<=140737488355328/\(r1.1.Dh++([r14.1]:List Int)).length<=maxLen then Amu K r14.2.1.fb r14.2.1.fi r14.2.1.fh (Az.mk r1.1.G4 r1.1.C7 r1.1.Nb r1.1.fUp r1.1.G5 r1.1.Bz r1.1.G6 r1.1.G7 r1.1.Ad r1.1.No r1.1.G8 r1.1.D5 (r1.1.Dh++([r14.1]:List Int))) (Az.mk 0 0 0 0 0 0 0 0 [] 0 0 [] [])else none else none else bif r2.1==7 then(A4 K r2.2 100).bind fun r15=>(A4 K r15.2 20).bind fun r16=>(A4 K r16.2 3).bind fun r17=>if(r1.1.D5++([(Bn.mk r15.1 r16.1 r17.1)]:List Bn)).length*24<=140737488355328/\(r1.1.D5++([(Bn.mk r15.1 r16.1 r17.1)]:List Bn)).length<=maxLen then Amu K r17.2.fb r17.2.fi r17.2.fh (Az.mk r1.1.G4 r1.1.C7 r1.1.Nb r1.1.fUp r1.1.G5 r1.1.Bz r1.1.G6 r1.1.G7 r1.1.Ad r1.1.No r1.1.G8 (r1.1.D5++([(Bn.mk r15.1 r16.1 r17.1)]:List Bn)) r1.1.Dh) (Az.mk 0 0 0 0 0 0 0 0 [] 0 0 [] [])else none else Amu K r2.2.fb r2.2.fi r2.2.fh r1.1 (Az.mk 0 0 0 0 0 0 0 0 [] 0 0 [] [])
def Bt8:=fd Tryz.func230 ⟨[.b 171 false,.v 33],[.n 77 false],false⟩ (gC (A8g K) (gC (Bdg K) (gC (Bwc K) gN))) [] [7] [(19,[.take 105 8 6688,.take 105 11 6691,.take 105 12 6692])]
def B3z:Fw:=⟨[(4,.p 104),(5,.p 105)],[(1,.box bx8),(105,.st 77 false),(104,.st 77 false)]⟩
def Bsh:=jn (Bt8 K) 7 B3z [] (Amu K) kN
def Bwd:=ct (Bt8 K) (A4r K) (kC (Bsh K) kN)
def Axq:Nat->Int->(List Int)->Int->Int->Az->Option (Az×E2)
 |0,_,_,_,_,_=>none
 |n3+1,v23,v24,v25,v26,v27=>bif decide (v23>0)then(A4 K (E2.mk v24 v25 v26) 256).bind fun r28=>if(v27.Dh++([r28.1]:List Int)).length*8<=140737488355328/\(v27.Dh++([r28.1]:List Int)).length<=maxLen then Axq n3 (Ap v23 1) r28.2.fb r28.2.fi r28.2.fh (Az.mk v27.G4 v27.C7 v27.Nb v27.fUp v27.G5 v27.Bz v27.G6 v27.G7 v27.Ad v27.No v27.G8 v27.D5 (v27.Dh++([r28.1]:List Int)))else none else some (v27,(E2.mk v24 v25 v26))
def Axr (v18:List Int)(v19 v20:Int)(v21:Az):Option (Az×E2):=(A4 K (E2.mk v18 v19 v20) 3).bind fun r22=>Axq K K r22.1 r22.2.fb r22.2.fi r22.2.fh v21
def Axs (a1:Fi):Nat->Int->(List Int)->Int->Int->Az->Az->Option (Az×E2)
 |0,_,_,_,_,_,_=>none
 |n1+1,v7,v8,v9,v10,v11,v12=>bif decide (v7>0)then(A4 K (E2.mk v8 v9 v10) 5).bind fun r13=>(P2 K r13.2 ([1,2,4]:List Int)).bind fun r14=>if r14.2.2.length=([1,2,4]:List Int).length then(Ayi K a1 v11 (A1 1 r13.1) r14.1).bind fun r15=>Axs a1 n1 (Ap v7 1) r14.2.1.fb r14.2.1.fi r14.2.1.fh r15.1 v12 else none else(Ap4 K (E2.mk v8 v9 v10) 3).bind fun r16=>bif r16.1 then(Au4 K a1 v11 2 (A1 a1.Du 1)).bind fun r17=>Axr K r16.2.fb r16.2.fi r16.2.fh r17.1 else Axr K r16.2.fb r16.2.fi r16.2.fh v11
def A2q (a0:E2)(a1:Fi):Option (Az×E2):=(A4 K a0 a1.Dv).bind fun r1=>(Amn K (A1 1 r1.1)).bind fun r2=>(A4 K r1.2 2).bind fun r3=>(A4 K r3.2 2).bind fun r4=>(Ayz K a1 (Az.mk 1 r2.C7 r3.1 r2.fUp r2.G5 r2.Bz r2.G6 r2.G7 r2.Ad r2.No r2.G8 r2.D5 r2.Dh) r4.1).bind fun r5=>(A4 K r4.2 4).bind fun r6=>Axs K a1 K r6.1 r6.2.fb r6.2.fi r6.2.fh r5.1 (Az.mk 0 0 0 0 0 0 0 0 [] 0 0 [] [])
def Bi0:=fd Tryz.func341 ⟨[.b 171 false,.v 33],[.n 77 false],false⟩ (gC (A8g K) (gC (Bdg K) (gC (Be3 K) (gC (Be2 K) (gC (Bmw K) (gC (Bt0 K) (gC (Bty K) gN))))))) [] [255] [(9,[.take 105 8 6688,.take 105 11 6691,.take 105 12 6692]),(11,[.take 105 8 6688,.take 105 11 6691,.take 105 12 6692]),(15,[.take 105 12 6692]),(16,[.take 105 8 6688,.take 105 11 6691,.take 105 12 6692])]
def B30:Fw:=⟨[(0,.p 1),(4,.p 104),(5,.p 105),(8,.v 2)],[(1,.box bx8),(105,.st 77 false),(104,.st 77 false)]⟩
def B31:Fw:=⟨[(0,.p 1),(4,.p 104),(5,.p 105)],[(1,.box bx8),(105,.st 77 false),(104,.st 77 false)]⟩
def Bg2:=lp (Bi0 K) 4090 B30 [] (fun n a b c d e _=>Axq K n a b c d e) (fun n=>kN)
def Bkj:=jn (Bi0 K) 255 B31 [] (fun a b c d _=>Axr K a b c d) (kC (Bg2 K K) kN)
def Bg3:=lp (Bi0 K) 1018 B06 [] (fun n a b c d e f g=>Axs K g n a b c d e f) (fun n=>kC (up (Bkj K)) kN)
def Bwe:=ct (Bi0 K) (A2q K) (kC (Bg3 K K) kN)
def A0d (K:Nat)(v12:List Int)(v13 v14:Int)(v15:Bb):Option (Bb×E2):=some (v15,(E2.mk v12 v13 v14))
def Axt (v6:List Int)(v7 v8:Int)(v9 v10:Bb):Option (Bb×E2):=(Ap4 K (E2.mk v6 v7 v8) 4).bind fun r11=>bif r11.1 then A0d K r11.2.fb r11.2.fi r11.2.fh (Bb.mk v9.Be v9.Bz ([]:List Int) ([]:List Int) 0)else A0d K r11.2.fb r11.2.fi r11.2.fh v9
def A2r (a0:E2)(a1:Fi):Option (Bb×E2):=(A2q K a0 a1).bind fun r1=>(A4 K r1.2 (A1 a1.Cd 1)).bind fun r2=>(Axg K r1.1 r2.1).bind fun r3=>(A4 K r2.2 3).bind fun r4=>bif decide ((r3.Ad.length:Int)>0)then(A4 K r4.2 a1.Du).bind fun r5=>Axt K r5.2.fb r5.2.fi r5.2.fh (Bb.mk r3.Be r4.1 r3.Dh r3.Ad r5.1) (Bb.mk 0 0 [] [] 0)else Axt K r4.2.fb r4.2.fi r4.2.fh (Bb.mk r3.Be r4.1 r3.Dh r3.Ad r3.H2) (Bb.mk 0 0 [] [] 0)
def Bnl:=fd Tryz.func300 ⟨[.b 171 false,.v 33],[.n 79 true],false⟩ (gC (A8g K) (gC (Be3 K) (gC (Bmk K) (gC (Bwe K) gN)))) [] [15,31] [(9,[.take 105 2 6682,.take 105 3 6683])]
def B07:Fw:=⟨[(4,.p 104),(5,.p 105)],[(1,.box bx8),(105,.st 79 true),(104,.st 79 true)]⟩
def B32:Fw:=⟨[(0,.p 1),(4,.p 104),(5,.p 105)],[(1,.box bx8),(105,.st 79 true),(104,.st 79 true)]⟩
def Bnm:=jn (Bnl K) 31 B07 [] (fun a b c d _=>A0d K a b c d) kN
def Bnn:=jn (Bnl K) 15 B32 [] (Axt K) (kC (Bnm K) kN)
def Bwf:=ct (Bnl K) (A2r K) (kC (Bnn K) kN)
def At3 (K:Nat)(v4:List Int)(v5 v6:Int)(v7 v8:Bb):Option (Bb×E2):=some (v7,(E2.mk v4 v5 v6))
def A3s (a0:E2)(a1:Fi):Option (Bb×E2):=(A2r K a0 a1).bind fun r1=>(A4 K r1.2 10).bind fun r2=>bif r2.1==0 then(P2 K r2.2 ([(-1),0,8,9]:List Int)).bind fun r3=>if r3.2.2.length=([(-1),0,8,9]:List Int).length then At3 K r3.2.1.fb r3.2.1.fi r3.2.1.fh (Bb.mk r3.1 r1.1.Bz r1.1.Dh r1.1.Ad r1.1.H2) (Bb.mk 0 0 [] [] 0)else none else bif r2.1==1 then(P2 K r2.2 ([(-1),9,0]:List Int)).bind fun r9=>if r9.2.2.length=([(-1),9,0]:List Int).length then At3 K r9.2.1.fb r9.2.1.fi r9.2.1.fh (Bb.mk r1.1.Be r9.1 r1.1.Dh r1.1.Ad r1.1.H2) (Bb.mk 0 0 [] [] 0)else none else bif r2.1==2 then(P2 K r2.2 ([(-1),0,8,16]:List Int)).bind fun r10=>if r10.2.2.length=([(-1),0,8,16]:List Int).length then At3 K r10.2.1.fb r10.2.1.fi r10.2.1.fh (Bb.mk r1.1.Be r1.1.Bz r1.1.Dh r1.1.Ad r10.1) (Bb.mk 0 0 [] [] 0)else none else bif r2.1==3 then(P2 K r2.2 ([(-1),255,256]:List Int)).bind fun r11=>if r11.2.2.length=([(-1),255,256]:List Int).length then if(r1.1.Dh++([r11.1]:List Int)).length*8<=140737488355328/\(r1.1.Dh++([r11.1]:List Int)).length<=maxLen then At3 K r11.2.1.fb r11.2.1.fi r11.2.1.fh (Bb.mk r1.1.Be r1.1.Bz (r1.1.Dh++([r11.1]:List Int)) r1.1.Ad r1.1.H2) (Bb.mk 0 0 [] [] 0)else none else none else bif r2.1==4 then(P2 K r2.2 ([(-1),0,12]:List Int)).bind fun r12=>if r12.2.2.length=([(-1),0,12]:List Int).length then if(r1.1.Ad++([r12.1]:List Int)).length*8<=140737488355328/\(r1.1.Ad++([r12.1]:List Int)).length<=maxLen then At3 K r12.2.1.fb r12.2.1.fi r12.2.1.fh (Bb.mk r1.1.Be r1.1.Bz r1.1.Dh (r1.1.Ad++([r12.1]:List Int)) r1.1.H2) (Bb.mk 0 0 [] [] 0)else none else none else At3 K r2.2.fb r2.2.fi r2.2.fh r1.1 (Bb.mk 0 0 [] [] 0)
def Bt9:=fd Tryz.func231 ⟨[.b 171 false,.v 33],[.n 79 true],false⟩ (gC (A8g K) (gC (Bdg K) (gC (Bwf K) gN))) [] [7] [(13,[.take 105 2 6682,.take 105 3 6683])]
def Bsi:=jn (Bt9 K) 7 B07 [] (At3 K) kN
def Bwg:=ct (Bt9 K) (A3s K) (kC (Bsi K) kN)
def Aaj (K:Nat)(v5:List Int)(v6 v7:Int)(v8 v9:Int)(v10 v11:Int)(v12 v13:Int)(v14 v15 v16:List Int)(v17:List Az)(v18:List Bb)(v19:List Int)(v20 v21:Int)(v22 v23:Int)(v24 v25:Int)(v26 v27 v28:List Int)(v29:List Az)(v30:List Bb)(v31:List Int):Option (Bo×E2):=some ((Bo.mk (Fi.mk v8 v9 v10 v11 v12 v13) (Ef.mk v14 v15 v16) v17 v18 v19),(E2.mk v5 v6 v7))
def A3t (a0:E2)(a1:Int):Option (Bo×E2):=(Aym K a0 a1).bind fun r1=>(A4 K r1.2 (r1.1.fL.length:Int)).bind fun r2=>(A4 K r2.2 40).bind fun r3=>bif r3.1==0 then(A4q K r3.2).bind fun r4=>Aaj K r4.2.fb r4.2.fi r4.2.fh r4.1.Ad r4.1.Du r4.1.Cd r4.1.Ez r4.1.Ce r4.1.Dv r1.1.fP.Fp r1.1.fP.G4 r1.1.fP.Fq r1.1.fL r1.1.fQ r1.1.Jp 0 0 0 0 0 0 [] [] [] [] [] []else bif r3.1==1 then(A4 K r3.2 (r1.1.fP.G4.length:Int)).bind fun r32=>(A4 K r32.2 4).bind fun r33=>if 0<=r32.1/\r32.1<r1.1.fP.G4.length then Aaj K r33.2.fb r33.2.fi r33.2.fh r1.1.fC.Ad r1.1.fC.Du r1.1.fC.Cd r1.1.fC.Ez r1.1.fC.Ce r1.1.fC.Dv r1.1.fP.Fp (r1.1.fP.G4.set r32.1.toNat r33.1) r1.1.fP.Fq r1.1.fL r1.1.fQ r1.1.Jp 0 0 0 0 0 0 [] [] [] [] [] []else none else bif r3.1==2 then(A4 K r3.2 (r1.1.fP.Fp.length:Int)).bind fun r34=>if 0<=r34.1/\r34.1<r1.1.fP.Fp.length then Aaj K r34.2.fb r34.2.fi r34.2.fh r1.1.fC.Ad r1.1.fC.Du r1.1.fC.Cd r1.1.fC.Ez r1.1.fC.Ce r1.1.fC.Dv (r1.1.fP.Fp.set r34.1.toNat 9) r1.1.fP.G4 r1.1.fP.Fq r1.1.fL r1.1.fQ r1.1.Jp 0 0 0 0 0 0 [] [] [] [] [] []else none else bif r3.1==3 then(A4r K r3.2 r1.1.fC).bind fun r35=>if 0<=r2.1/\r2.1<r1.1.fL.length then Aaj K r35.2.fb r35.2.fi r35.2.fh r1.1.fC.Ad r1.1.fC.Du r1.1.fC.Cd r1.1.fC.Ez r1.1.fC.Ce r1.1.fC.Dv r1.1.fP.Fp r1.1.fP.G4 r1.1.fP.Fq (r1.1.fL.set r2.1.toNat r35.1) r1.1.fQ r1.1.Jp 0 0 0 0 0 0 [] [] [] [] [] []else none else bif r3.1==4 then(A4 K r3.2 4).bind fun r36=>if 0<=r2.1/\r2.1<r1.1.fL.length then Au7 (r1.1.fL.set r2.1.toNat (Az.mk r36.1 (gt r1.1.fL r2.1).C7 (gt r1.1.fL r2.1).Nb (gt r1.1.fL r2.1).fUp (gt r1.1.fL r2.1).G5 (gt r1.1.fL r2.1).Bz (gt r1.1.fL r2.1).G6 (gt r1.1.fL r2.1).G7 (gt r1.1.fL r2.1).Ad (gt r1.1.fL r2.1).No (gt r1.1.fL r2.1).G8 (gt r1.1.fL r2.1).D5 (gt r1.1.fL r2.1).Dh)) fun v37=>Aaj K r36.2.fb r36.2.fi r36.2.fh r1.1.fC.Ad r1.1.fC.Du r1.1.fC.Cd r1.1.fC.Ez r1.1.fC.Ce r1.1.fC.Dv r1.1.fP.Fp r1.1.fP.G4 r1.1.fP.Fq v37 r1.1.fQ r1.1.Jp 0 0 0 0 0 0 [] [] [] [] [] []else none else bif r3.1==5 then(A4 K r3.2 4).bind fun r38=>if 0<=r2.1/\r2.1<r1.1.fL.length then Au7 (r1.1.fL.set r2.1.toNat (Az.mk (gt r1.1.fL r2.1).G4 (gt r1.1.fL r2.1).C7 (gt r1.1.fL r2.1).Nb r38.1 (gt r1.1.fL r2.1).G5 (gt r1.1.fL r2.1).Bz (gt r1.1.fL r2.1).G6 (gt r1.1.fL r2.1).G7 (gt r1.1.fL r2.1).Ad (gt r1.1.fL r2.1).No (gt r1.1.fL r2.1).G8 (gt r1.1.fL r2.1).D5 (gt r1.1.fL r2.1).Dh)) fun v39=>Aaj K r38.2.fb r38.2.fi r38.2.fh r1.1.fC.Ad r1.1.fC.Du r1.1.fC.Cd r1.1.fC.Ez r1.1.fC.Ce r1.1.fC.Dv r1.1.fP.Fp r1.1.fP.G4 r1.1.fP.Fq v39 r1.1.fQ r1.1.Jp 0 0 0 0 0 0 [] [] [] [] [] []else none else bif r3.1==6 then if 0<=r2.1/\r2.1<r1.1.fL.length then if 0<=r2.1/\r2.1<r1.1.fL.length then Au7 (r1.1.fL.set r2.1.toNat (Az.mk (gt r1.1.fL r2.1).G4 (gt r1.1.fL r2.1).C7 (A1 (gt r1.1.fL r2.1).Nb 1) (gt r1.1.fL r2.1).fUp (gt r1.1.fL r2.1).G5 (gt r1.1.fL r2.1).Bz (gt r1.1.fL r2.1).G6 (gt r1.1.fL r2.1).G7 (gt r1.1.fL r2.1).Ad (gt r1.1.fL r2.1).No (gt r1.1.fL r2.1).G8 (gt r1.1.fL r2.1).D5 (gt r1.1.fL r2.1).Dh)) fun v40=>Aaj K r3.2.fb r3.2.fi r3.2.fh r1.1.fC.Ad r1.1.fC.Du r1.1.fC.Cd r1.1.fC.Ez r1.1.fC.Ce r1.1.fC.Dv r1.1.fP.Fp r1.1.fP.G4 r1.1.fP.Fq v40 r1.1.fQ r1.1.Jp 0 0 0 0 0 0 [] [] [] [] [] []else none else none else bif r3.1==7 then(A3s K r3.2 r1.1.fC).bind fun r41=>if(r1.1.fQ++[r41.1]).length*72<=140737488355328/\(r1.1.fQ++[r41.1]).length<=maxLen then Aaj K r41.2.fb r41.2.fi r41.2.fh r1.1.fC.Ad r1.1.fC.Du r1.1.fC.Cd r1.1.fC.Ez r1.1.fC.Ce r1.1.fC.Dv r1.1.fP.Fp r1.1.fP.G4 r1.1.fP.Fq r1.1.fL (r1.1.fQ++[r41.1]) r1.1.Jp 0 0 0 0 0 0 [] [] [] [] [] []else none else bif r3.1==8 then bif decide ((r1.1.fQ.length:Int)>0)then if(0:Int)<=1/\1<=(r1.1.fQ.length:Int)/\(r1.1.fQ.length:Int)<=r1.1.fQ.length then Aaj K r3.2.fb r3.2.fi r3.2.fh r1.1.fC.Ad r1.1.fC.Du r1.1.fC.Cd r1.1.fC.Ez r1.1.fC.Ce r1.1.fC.Dv r1.1.fP.Fp r1.1.fP.G4 r1.1.fP.Fq r1.1.fL ((r1.1.fQ.drop (1:Int).toNat).take ((r1.1.fQ.length:Int) - 1).toNat) r1.1.Jp 0 0 0 0 0 0 [] [] [] [] [] []else none else Aaj K r3.2.fb r3.2.fi r3.2.fh r1.1.fC.Ad r1.1.fC.Du r1.1.fC.Cd r1.1.fC.Ez r1.1.fC.Ce r1.1.fC.Dv r1.1.fP.Fp r1.1.fP.G4 r1.1.fP.Fq r1.1.fL r1.1.fQ r1.1.Jp 0 0 0 0 0 0 [] [] [] [] [] []else bif r3.1==9 then(P2 K r3.2 ([0,255,256,(-1)]:List Int)).bind fun r42=>if r42.2.2.length=([0,255,256,(-1)]:List Int).length then if(r1.1.Jp++([r42.1]:List Int)).length*8<=140737488355328/\(r1.1.Jp++([r42.1]:List Int)).length<=maxLen then Aaj K r42.2.1.fb r42.2.1.fi r42.2.1.fh r1.1.fC.Ad r1.1.fC.Du r1.1.fC.Cd r1.1.fC.Ez r1.1.fC.Ce r1.1.fC.Dv r1.1.fP.Fp r1.1.fP.G4 r1.1.fP.Fq r1.1.fL r1.1.fQ (r1.1.Jp++([r42.1]:List Int)) 0 0 0 0 0 0 [] [] [] [] [] []else none else none else bif r3.1==10 then if 0<=r2.1/\r2.1<r1.1.fL.length then if 0<=r2.1/\r2.1<r1.1.fL.length then(A4 K r3.2 60).bind fun r43=>if(((gt r1.1.fL r2.1).D5)++([(Bn.mk r43.1 2 0)]:List Bn)).length*24<=140737488355328/\(((gt r1.1.fL r2.1).D5)++([(Bn.mk r43.1 2 0)]:List Bn)).length<=maxLen then if 0<=r2.1/\r2.1<r1.1.fL.length then Aaj K r43.2.fb r43.2.fi r43.2.fh r1.1.fC.Ad r1.1.fC.Du r1.1.fC.Cd r1.1.fC.Ez r1.1.fC.Ce r1.1.fC.Dv r1.1.fP.Fp r1.1.fP.G4 r1.1.fP.Fq (r1.1.fL.set r2.1.toNat (Az.mk (gt r1.1.fL r2.1).G4 (gt r1.1.fL r2.1).C7 (gt r1.1.fL r2.1).Nb (gt r1.1.fL r2.1).fUp (gt r1.1.fL r2.1).G5 (gt r1.1.fL r2.1).Bz (gt r1.1.fL r2.1).G6 (gt r1.1.fL r2.1).G7 (gt r1.1.fL r2.1).Ad (gt r1.1.fL r2.1).No (gt r1.1.fL r2.1).G8 (((gt r1.1.fL r2.1).D5)++([(Bn.mk r43.1 2 0)]:List Bn)) (gt r1.1.fL r2.1).Dh)) r1.1.fQ r1.1.Jp 0 0 0 0 0 0 [] [] [] [] [] []else none else none else none else none else bif r3.1==11 then(A4 K r3.2 4).bind fun r44=>if 0<=r2.1/\r2.1<r1.1.fL.length then Au7 (r1.1.fL.set r2.1.toNat (Az.mk (gt r1.1.fL r2.1).G4 (gt r1.1.fL r2.1).C7 (gt r1.1.fL r2.1).Nb (gt r1.1.fL r2.1).fUp (gt r1.1.fL r2.1).G5 (gt r1.1.fL r2.1).Bz r44.1 (gt r1.1.fL r2.1).G7 (gt r1.1.fL r2.1).Ad (gt r1.1.fL r2.1).No (gt r1.1.fL r2.1).G8 (gt r1.1.fL r2.1).D5 (gt r1.1.fL r2.1).Dh)) fun v45=>Aaj K r44.2.fb r44.2.fi r44.2.fh r1.1.fC.Ad r1.1.fC.Du r1.1.fC.Cd r1.1.fC.Ez r1.1.fC.Ce r1.1.fC.Dv r1.1.fP.Fp r1.1.fP.G4 r1.1.fP.Fq v45 r1.1.fQ r1.1.Jp 0 0 0 0 0 0 [] [] [] [] [] []else none else bif r3.1==12 then bif decide ((r1.1.fQ.length:Int)>0)then(A4 K r3.2 9).bind fun r46=>if(0:Int)<=0/\0<(r1.1.fQ.length:Int)then Aaj K r46.2.fb r46.2.fi r46.2.fh r1.1.fC.Ad r1.1.fC.Du r1.1.fC.Cd r1.1.fC.Ez r1.1.fC.Ce r1.1.fC.Dv r1.1.fP.Fp r1.1.fP.G4 r1.1.fP.Fq r1.1.fL (r1.1.fQ.set (0:Int).toNat (Bb.mk (gt r1.1.fQ 0).Be (gt r1.1.fQ 0).Bz (gt r1.1.fQ 0).Dh (gt r1.1.fQ 0).Ad r46.1)) r1.1.Jp 0 0 0 0 0 0 [] [] [] [] [] []else none else Aaj K r3.2.fb r3.2.fi r3.2.fh r1.1.fC.Ad r1.1.fC.Du r1.1.fC.Cd r1.1.fC.Ez r1.1.fC.Ce r1.1.fC.Dv r1.1.fP.Fp r1.1.fP.G4 r1.1.fP.Fq r1.1.fL r1.1.fQ r1.1.Jp 0 0 0 0 0 0 [] [] [] [] [] []else Aaj K r3.2.fb r3.2.fi r3.2.fh r1.1.fC.Ad r1.1.fC.Du r1.1.fC.Cd r1.1.fC.Ez r1.1.fC.Ce r1.1.fC.Dv r1.1.fP.Fp r1.1.fP.G4 r1.1.fP.Fq r1.1.fL r1.1.fQ r1.1.Jp 0 0 0 0 0 0 [] [] [] [] [] []
def Bua:=fd Tryz.func132 ⟨[.b 171 false,.v 3],[.v 38],false⟩ (gC (Bnk K) (gC (Bwa K) (gC (A8g K) (gC (Bdg K) (gC (Bwd K) (gC (Bwg K) gN)))))) [] [15] [(29,[.opn 20387 (.tmp 6),.takeE 20387 11 64779])] [(104,[.put 3104,.shal 3104]),(114,[.frzT 114])]
def B33:Fw:=⟨[(4,.p 104),(5,.p 105)],[(1,.box bx8),(105,.box bx6),(104,.box bx6)]⟩
def Bno:=jn (Bua K) 15 B33 [] (Aaj K) kN
def Bwh:=ct (Bua K) (A3t K) (kC (Bno K) kN)
def Azs (a0:List Int)(a1:Int):Option (E2×Bo):=(A18 K a0).bind fun r1=>(A3t K r1 a1).bind fun r2=>some (r2.2,r2.1)
def Bnp:=ct (fd Tryz.func130 ⟨[.v 24,.v 3],[.p 171 false,.v 38],false⟩ (gC (By2 K) (gC (Bwh K) gN))) (Azs K)
def Awp (a0:List Int):Option Bo:=(Azs K a0 60).bind fun r1=>some r1.2
def Bwi:=ct (fd Tryz.func53 ⟨[.v 24],[.v 38],false⟩ (gC (Bnp K) gN)) (Awp K)
def Awq (a0:List Int):Option (Bo×Int):=(Azs K a0 60).bind fun r1=>(P2 K r1.1 ([0,1,2,5,20,4000,4001,(-1)]:List Int)).bind fun r2=>if r2.2.2.length=([0,1,2,5,20,4000,4001,(-1)]:List Int).length then some (r1.2,r2.1)else none
def Bwj:=ct (fd Tryz.func54 ⟨[.v 24],[.v 38,.v 3],false⟩ (gC (Bnp K) (gC (Bdg K) gN))) (Awq K)
def Aw4 (K:Nat)(a0:List Int):Option (List Int):=bif a0.isEmpty then Amh (some []) ((if(([]:List Int)++a0).length*1<=140737488355328/\(([]:List Int)++a0).length<=maxLen then some (([]:List Int)++a0)else none))else if(([]:List Int)++a0).length*1<=140737488355328/\(([]:List Int)++a0).length<=maxLen then some (([]:List Int)++a0)else none
def Bwk:=ct (fd Tryz.func312 ⟨[.v 24],[.n 24 true],true⟩ gN) (Aw4 K)
def Aco (K:Nat)(a0:List Int):Option (List Int):=bif a0.isEmpty then Amh (some []) ((if(([]:List Int)++a0).length*8<=140737488355328/\(([]:List Int)++a0).length<=maxLen then some (([]:List Int)++a0)else none))else if(([]:List Int)++a0).length*8<=140737488355328/\(([]:List Int)++a0).length<=maxLen then some (([]:List Int)++a0)else none
def A9l:=ct (fd Tryz.func210 ⟨[.v 25],[.n 25 true],true⟩ gN) (Aco K)
def Awe (a0:Ef):Option Ef:=(Aw4 K a0.Fp).bind fun r1=>(Aco K a0.G4).bind fun r2=>(Aco K a0.Fq).bind fun r3=>some (Ef.mk r1 r2 r3)
def Bg4:=ct (fd Tryz.func255 ⟨[.v 34],[.n 34 true],true⟩ (gC (A9l K) (gC (Bwk K) gN))) (Awe K)
def At9 (K:Nat)(a0:List Bn):Option (List Bn):=bif a0.isEmpty then Amh (some []) ((if(([]:List Bn)++a0).length*24<=140737488355328/\(([]:List Bn)++a0).length<=maxLen then some (([]:List Bn)++a0)else none))else if(([]:List Bn)++a0).length*24<=140737488355328/\(([]:List Bn)++a0).length<=maxLen then some (([]:List Bn)++a0)else none
def Bwl:=ct (fd Tryz.func362 ⟨[.v 75],[.n 75 true],true⟩ gN) (At9 K)
def A1l (a0:Az):Option Az:=(Aco K a0.Ad).bind fun r1=>(At9 K a0.D5).bind fun r2=>(Aco K a0.Dh).bind fun r3=>some (Az.mk a0.G4 a0.C7 a0.Nb a0.fUp a0.G5 a0.Bz a0.G6 a0.G7 r1 a0.No a0.G8 r2 r3)
def Bwm:=ct (fd Tryz.func313 ⟨[.v 77],[.n 77 false],true⟩ (gC (A9l K) (gC (Bwl K) gN))) (A1l K)
def Arp (a0:List Az):Nat->(List Az)->Int->Int->Option (List Az)
 |0,_,_,_=>none
 |n1+1,v1,v2,v3=>bif decide (v3<v2)then if 0<=v3/\v3<a0.length then(A1l K (gt a0 v3)).bind fun r4=>if(v1++[r4]).length*152<=140737488355328/\(v1++[r4]).length<=maxLen then Arp a0 n1 (v1++[r4]) v2 (A1 v3 1)else none else none else some v1
def Axu (a0:List Az):Option (List Az):=Arp K a0 K ([]:List Az) (a0.length:Int) 0
def Bub:=fd Tryz.func256 ⟨[.v 35],[.n 35 true],false⟩ (gC (Bwm K) gN) (post:=[(16,[.put 3016])])
def B34:Fw:=⟨[(3,.o 1003 77 true),(7,.v 35),(8,.v 2),(9,.v 2)],[]⟩
def Bnq:=lp (Bub K) 58 B34 [] (fun n a b=>Arp K b n a) (fun n=>kN)
def Bnr:=ct (Bub K) (Axu K) (kC (Bnq K K) kN)
def A0e (a0:Bb):Option Bb:=(Aco K a0.Dh).bind fun r1=>(Aco K a0.Ad).bind fun r2=>some (Bb.mk a0.Be a0.Bz r1 r2 a0.H2)
def Bwn:=ct (fd Tryz.func257 ⟨[.v 79],[.n 79 true],true⟩ (gC (A9l K) gN)) (A0e K)
def Arq:Nat->(List Bb)->Int->Int->Bo->Bo->Option Bo
 |0,_,_,_,_,_=>none
 |n1+1,v4,v5,v6,v7,v8=>bif decide (v6<v5)then if 0<=v6/\v6<v4.length then(A0e K (gt v4 v6)).bind fun r9=>if(v7.fQ.length+1)*72<=140737488355328/\v7.fQ.length+1<=maxLen then Arq n1 v4 v5 (A1 v6 1) (Bo.mk v7.fC v7.fP v7.fL ((v7.fQ++[(default:Bb)]).set (v7.fQ.length:Int).toNat r9) v7.Jp) v8 else none else none else some v7
def Axv (a0:Bo):Option Bo:=(Awe K a0.fP).bind fun r1=>(Axu K a0.fL).bind fun r2=>(Aco K a0.Jp).bind fun r3=>Arq K K a0.fQ (a0.fQ.length:Int) 0 (Bo.mk a0.fC r1 r2 [] r3) (Bo.mk (Fi.mk 0 0 0 0 0 0) (Ef.mk [] [] []) [] [] [])
def Buc:=fd Tryz.func160 ⟨[.v 38],[.n 38 true],false⟩ (gC (A9l K) (gC (Bg4 K) (gC (Bnr K) (gC (Bwn K) gN)))) [] [] [(5,[.take 103 10 6658]),(7,[.take 103 6 6654,.take 103 7 6655,.take 103 8 6656,.take 103 9 6657,.take 103 10 6658,.take 103 11 6659])]
def B35:Fw:=⟨[(2,.p 102),(3,.p 103),(19,.v 36),(20,.v 2),(21,.v 2)],[(103,.st 38 true),(102,.st 38 true)]⟩
def Bns:=lp (Buc K) 58 B35 [] (Arq K) (fun n=>kN)
def Bnt:=ct (Buc K) (Axv K) (kC (Bns K K) kN)
def K0 (K:Nat)(a0 a1 a2:Int):Option Bool:=bif decide (a0>=a1)then some (decide (a0<=a2))else some false
def A41:=ct (fd Tryz.func156 ⟨[.v 3,.v 3,.v 3],[.v 4],true⟩ gN [9,10]) (K0 K)
def Ay0 (a0:Fi):Option Bool:=(K0 K a0.Ad 2 12).bind fun r1=>bif r1 then(K0 K a0.Du 8 16).bind fun r2=>bif r2 then(K0 K a0.Cd 2 8).bind fun r3=>bif r3 then(K0 K a0.Ez 1 8).bind fun r4=>bif r4 then(K0 K a0.Ce 1 16).bind fun r5=>bif r5 then(K0 K a0.Dv 1 4).bind fun r6=>some r6 else some false else some false else some false else some false else some false
def Bdk:=ct (fd Tryz.func47 ⟨[.v 33],[.v 4],true⟩ (gC (A41 K) gN) [5,6,9,10,11,14,15,16,19,20,21,24,25,26]) (Ay0 K)
def A2s (a0:Fi):Option Int:=(Ay0 K a0).bind fun r1=>bif !r1 then some 0 else some (K1 a0.Ad a0.Du)
def Bnu:=ct (fd Tryz.func208 ⟨[.v 33],[.v 3],true⟩ (gC (Bdk K) gN)) (A2s K)
def Au0 (K:Nat)(a0:Ef)(a1:Fi)(a2:Int):Option (List Int):=if 0<=(K1 a2 a1.Du)/\(K1 a2 a1.Du)<=(K1 (A1 a2 1) a1.Du)/\(K1 (A1 a2 1) a1.Du)<=a0.Fp.length then some ((a0.Fp.drop (K1 a2 a1.Du).toNat).take ((K1 (A1 a2 1) a1.Du) - (K1 a2 a1.Du)).toNat)else none
def Bg5:=ct (fd Tryz.func209 ⟨[.v 34,.v 33,.v 3],[.v 24],false⟩ gN) (Au0 K)
def A39 (K:Nat)(a0:Int):Option Bool:=some (a0 != 0)
def Bwo:=ct (fd Tryz.func121 ⟨[.v 5],[.v 4],true⟩ gN) (A39 K)
def Ahx (a0:List Int):Nat->Int->Int->Option Int
 |0,_,_=>none
 |n1+1,v1,v2=>bif decide (v2<v1)then if 0<=v2/\v2<a0.length then(A39 K (gt a0 v2)).bind fun r3=>bif r3 then some v2 else Ahx a0 n1 v1 (A1 v2 1)else none else some (-1)
def Ao8 (a0:List Int):Option Int:=Ahx K a0 K (a0.length:Int) 0
def Bud:=fd Tryz.func207 ⟨[.v 24,.f 121 [] []],[.v 3],true⟩ (gC (Bwo K) gN)
def B36:Fw:=⟨[(0,.v 24),(1,.f 121 [] []),(7,.v 2),(8,.v 2)],[]⟩
def Bnv:=lp (Bud K) 26 B36 [] (fun n a=>Ahx K a n) (fun n=>kN)
def Bwp:=ct (Bud K) (Ao8 K) (kC (Bnv K K) kN)
def Al9 (a0:List Int):Option Bool:=(Ao8 K a0).bind fun r1=>some (decide (r1>=0))
def Bwq:=ct (fd Tryz.func120 ⟨[.v 24,.f 121 [] []],[.v 4],true⟩ (gC (Bwp K) gN)) (Al9 K)
def Aw0 (a0:List Int):Option Bool:=(Al9 K a0).bind fun r1=>some (!r1)
def Bdl:=ct (fd Tryz.func30 ⟨[.v 24],[.v 4],true⟩ (gC (Bwq K) gN)) (Aw0 K)
def A1m (K:Nat)(v3:List Int)(v4:Int)(v6 v7 v8:List Int)(v12:Int)(C1:(List Int)->Int->Int->(List Int)->(List Int)->(List Int)->Option Bool)(v16:Bool):Option Bool:=bif v16 then some false else C1 v3 v4 (A1 v12 1) v6 v7 v8
def Au6 (a0:Fi)(v3:List Int)(v4 v5:Int)(v6 v7 v8:List Int)(C1:(List Int)->Int->Int->(List Int)->(List Int)->(List Int)->Option Bool)(v11 v12:Int)(v13:Bool):Option Bool:=bif v13 then some false else bif v11==0 then(Au0 K (Ef.mk v6 v7 v8) a0 v5).bind fun r14=>(Aw0 K r14).bind fun r15=>A1m K v3 v4 v6 v7 v8 v12 (C1) (!r15)else A1m K v3 v4 v6 v7 v8 v12 (C1) false
def Akw (a0:Fi):Nat->(List Int)->Int->Int->(List Int)->(List Int)->(List Int)->Option Bool
 |0,_,_,_,_,_,_=>none
 |n1+1,v3,v4,v5,v6,v7,v8=>bif decide (v5<v4)then if 0<=v5/\v5<v3.length then(K0 K (gt v3 v5) 0 2).bind fun r9=>bif !r9 then some false else bif (gt v3 v5)==1 then if 0<=v5/\v5<v8.length then(K0 K (gt v8 v5) 0 (Ap a0.Cd 1)).bind fun r10=>bif r10 then bif (gt v3 v5) != 1 then if 0<=v5/\v5<v8.length then Au6 K a0 v3 v4 v5 v6 v7 v8 (Akw a0 n1) (gt v3 v5) v5 ((gt v8 v5) != (-1))else none else Au6 K a0 v3 v4 v5 v6 v7 v8 (Akw a0 n1) (gt v3 v5) v5 false else Au6 K a0 v3 v4 v5 v6 v7 v8 (Akw a0 n1) (gt v3 v5) v5 true else none else bif (gt v3 v5) != 1 then if 0<=v5/\v5<v8.length then Au6 K a0 v3 v4 v5 v6 v7 v8 (Akw a0 n1) (gt v3 v5) v5 ((gt v8 v5) != (-1))else none else Au6 K a0 v3 v4 v5 v6 v7 v8 (Akw a0 n1) (gt v3 v5) v5 false else none else some true
def A0x (a0:Fi)(a1:Ef):Option Bool:=(Ay0 K a0).bind fun r1=>bif r1 then(A2s K a0).bind fun r2=>bif (a1.Fp.length:Int) != r2 then some false else bif (a1.G4.length:Int) != a0.Ad then some false else bif (a1.Fq.length:Int) != a0.Ad then some false else Akw K a0 K a1.G4 (a1.G4.length:Int) 0 a1.Fp a1.G4 a1.Fq else some false
def Bi1:=fd Tryz.func122 ⟨[.v 33,.v 34],[.v 4],true⟩ (gC (Bdl K) (gC (Bdk K) (gC (A41 K) (gC (Bnu K) (gC (Bg5 K) gN))))) [8,9,10,16,17,18,24,25,26,48,49,58,59,60,61,63,64,75,76] [29899,119599]
def B37:Fw:=⟨[(2,.p 102),(3,.p 103),(35,.v 25),(36,.v 2),(37,.v 2),(73,.v 4)],[(103,.box bx9),(102,.st 33 true)]⟩
def B38:Fw:=⟨[(2,.p 102),(3,.p 103),(5,.v 2),(6,.v 2),(35,.v 25),(36,.v 2),(37,.v 2),(46,.v 4)],[(103,.box bx9),(102,.st 33 true)]⟩
def Bnw:Fw:=⟨[(2,.p 102),(3,.p 103),(35,.v 25),(36,.v 2),(37,.v 2)],[(103,.box bx9),(102,.st 33 true)]⟩
def Bdm:=fun(C58:CT Bnw _)=>jn (Bi1 K) 119599 B37 [(58,ar Bnw C58)] (fun a b c d e f g h=>A1m K a b e f g c (fun v3 v4 v5 v6 v7 v8=>C58 v3 v4 v5 v6 v7 v8 h) d) kN
def Bfa:=fun(C58:CT Bnw _)=>jn (Bi1 K) 29899 B38 [(58,ar Bnw C58)] (fun a b c d e f g h i j=>Au6 K j c d a g h i (fun v3 v4 v5 v6 v7 v8=>C58 v3 v4 v5 v6 v7 v8 j) b e f) (kC (Bdm K _) kN)
def Bnx:=lp (Bi1 K) 58 Bnw [] (fun n a b c d e f g=>Akw K g n a b c d e f) (fun n=>kC (Bfa K _) kN)
def Bny:=ct (Bi1 K) (A0x K) (kC (Bnx K K) kN)
def Amv (K:Nat)(a0 a1:List Int):Nat->Int->Int->Option Bool
 |0,_,_=>none
 |n1+1,v1,v2=>bif decide (v2<v1)then if 0<=v2/\v2<a0.length then if 0<=v2/\v2<a1.length then bif (gt a0 v2) != (gt a1 v2)then some false else Amv K a0 a1 n1 v1 (A1 v2 1)else none else none else some true
def Arr (a0 a1:List Int):Option Bool:=bif (a0.length:Int) != (a1.length:Int)then some false else Amv K a0 a1 K (a0.length:Int) 0
def Bue:=fd Tryz.func153 ⟨[.v 25,.v 25],[.v 4],true⟩ gN
def B39:Fw:=⟨[(0,.v 25),(1,.v 25),(12,.v 2),(13,.v 2)],[]⟩
def Bnz:=lp Bue 58 B39 [] (fun n a b=>Amv K a b n) (fun n=>kN)
def Bn0:=ct Bue (Arr K) (kC (Bnz K K) kN)
def Avc (K:Nat)(a0 a1:List Bn):Nat->Int->Int->Option Bool
 |0,_,_=>none
 |n1+1,v1,v2=>bif decide (v2<v1)then if 0<=v2/\v2<a0.length then if 0<=v2/\v2<a1.length then bif !(((gt a0 v2).fAt==(gt a1 v2).fAt)&&(((gt a0 v2).Yg==(gt a1 v2).Yg)&&(((gt a0 v2).Yh==(gt a1 v2).Yh)&&true)))then some false else Avc K a0 a1 n1 v1 (A1 v2 1)else none else none else some true
def Av5 (a0 a1:List Bn):Option Bool:=bif (a0.length:Int) != (a1.length:Int)then some false else Avc K a0 a1 K (a0.length:Int) 0
def Buf:=fd Tryz.func304 ⟨[.v 75,.v 75],[.v 4],true⟩ gN
def B4a:Fw:=⟨[(0,.v 75),(1,.v 75),(12,.v 2),(13,.v 2)],[]⟩
def Bn1:=lp Buf 58 B4a [] (fun n a b=>Avc K a b n) (fun n=>kN)
def Bwr:=ct Buf (Av5 K) (kC (Bn1 K K) kN)
def A4a (a0 a1:Az):Option Bool:=bif a0.G4==a1.G4 then bif a0.C7==a1.C7 then bif a0.Nb==a1.Nb then bif a0.fUp==a1.fUp then bif a0.G5==a1.G5 then bif a0.Bz==a1.Bz then bif a0.G6==a1.G6 then bif a0.G7==a1.G7 then(Arr K a0.Ad a1.Ad).bind fun r1=>bif r1 then bif a0.No==a1.No then bif a0.G8==a1.G8 then(Av5 K a0.D5 a1.D5).bind fun r2=>bif r2 then(Arr K a0.Dh a1.Dh).bind fun r3=>some r3 else some false else some false else some false else some false else some false else some false else some false else some false else some false else some false else some false else some false
def Bws:=ct (fd Tryz.func250 ⟨[.v 77,.v 77],[.v 4],true⟩ (gC (Bn0 K) (gC (Bwr K) gN)) [9,10,15,16,17,22,23,24,29,30,31,36,37,38,43,44,45,50,51,52,57,58,59,64,65,66,71,72,73,78,79,80,85,86,87]) (A4a K)
def A5k (a0:Az):Option Bool:=(A4a K a0 (Az.mk a0.G4 a0.C7 0 0 0 0 0 0 ([]:List Int) 0 0 ([]:List Bn) ([]:List Int))).bind fun r1=>some r1
def Bwt:=ct (fd Tryz.func288 ⟨[.v 77],[.v 4],true⟩ (gC (Bws K) gN)) (A5k K)
def Arx (K:Nat)(a0:List Int)(a1:Int):Nat->Int->Int->Option Int
 |0,_,_=>none
 |n1+1,v1,v2=>bif decide (v2<v1)then if 0<=v2/\v2<a0.length then bif a1==(gt a0 v2)then some v2 else Arx K a0 a1 n1 v1 (A1 v2 1)else none else some (-1)
def A1y (a0:List Int)(a1:Int):Option Int:=Arx K a0 a1 K (a0.length:Int) 0
def Bug:=fd Tryz.func260 ⟨[.v 25,.v 3],[.v 3],true⟩ gN
def B4b:Fw:=⟨[(0,.v 25),(1,.v 2),(7,.v 2),(8,.v 2)],[]⟩
def Bn2:=lp Bug 26 B4b [] (fun n a b=>Arx K a b n) (fun n=>kN)
def Bwu:=ct Bug (A1y K) (kC (Bn2 K K) kN)
def Ap2 (a0:List Int)(a1:Int):Option Bool:=(A1y K a0 a1).bind fun r1=>some (decide (r1>=0))
def Bg6:=ct (fd Tryz.func290 ⟨[.v 25,.v 3],[.v 4],true⟩ (gC (Bwu K) gN)) (Ap2 K)
def Ate (a0:Fi)(a1:List Int):Nat->(List Int)->Int->Int->Option Bool
 |0,_,_,_=>none
 |n1+1,v1,v2,v3=>bif decide (v3<v2)then if 0<=v3/\v3<v1.length then(K0 K (gt v1 v3) 0 (Ap a0.Ad 1)).bind fun r4=>bif r4 then if(0:Int)<=0/\0<=v3/\v3<=a1.length then(Ap2 K ((a1.drop (0:Int).toNat).take (v3 - 0).toNat) (gt v1 v3)).bind fun r5=>bif r5 then some false else Ate a0 a1 n1 v1 v2 (A1 v3 1)else none else some false else none else some true
def Ayr (a0:Fi)(a1:List Int):Option Bool:=Ate K a0 a1 K a1 (a1.length:Int) 0
def Buh:=fd Tryz.func289 ⟨[.v 33,.v 25],[.v 4],true⟩ (gC (A41 K) (gC (Bg6 K) gN)) [18,19,20]
def B4c:Fw:=⟨[(1,.v 25),(2,.p 102),(7,.v 25),(8,.v 2),(9,.v 2)],[(102,.st 33 true)]⟩
def Bn3:=lp (Buh K) 26 B4c [] (fun n a b c d e=>Ate K e a n b c d) (fun n=>kN)
def Bn4:=ct (Buh K) (Ayr K) (kC (Bn3 K K) kN)
def Ay9 (a0:Int):Option Bool:=(K0 K a0 0 255).bind fun r1=>some (!r1)
def Bwv:=ct (fd Tryz.func223 ⟨[.v 3],[.v 4],true⟩ (gC (A41 K) gN)) (Ay9 K)
def Ahw (a0:List Int):Nat->Int->Int->Option Int
 |0,_,_=>none
 |n1+1,v1,v2=>bif decide (v2<v1)then if 0<=v2/\v2<a0.length then(Ay9 K (gt a0 v2)).bind fun r3=>bif r3 then some v2 else Ahw a0 n1 v1 (A1 v2 1)else none else some (-1)
def Amx (a0:List Int):Option Int:=Ahw K a0 K (a0.length:Int) 0
def Bui:=fd Tryz.func297 ⟨[.v 25,.f 223 [] []],[.v 3],true⟩ (gC (Bwv K) gN)
def B08:Fw:=⟨[(0,.v 25),(1,.f 223 [] []),(7,.v 2),(8,.v 2)],[]⟩
def Bn5:=lp (Bui K) 26 B08 [] (fun n a=>Ahw K a n) (fun n=>kN)
def Bww:=ct (Bui K) (Amx K) (kC (Bn5 K K) kN)
def Ak3 (a0:List Int):Option Bool:=(Amx K a0).bind fun r1=>some (decide (r1>=0))
def Bwx:=ct (fd Tryz.func222 ⟨[.v 25,.f 223 [] []],[.v 4],true⟩ (gC (Bww K) gN)) (Ak3 K)
def Awf (a0:List Int):Option Bool:=(Ak3 K a0).bind fun r1=>some (!r1)
def Bg7:=ct (fd Tryz.func126 ⟨[.v 25],[.v 4],true⟩ (gC (Bwx K) gN)) (Awf K)
def A69 (K:Nat)(a0:Fi)(a1:Int):Option Bool:=some (decide (a1>a0.Du))
def Bwy:=ct (fd Tryz.func336 ⟨[.v 33,.v 3],[.v 4],true⟩ gN) (A69 K)
def A7a (a0 a1:Int):Option Int:=(K0 K a0 0 1000000000).bind fun r1=>bif r1 then(K0 K a1 1 1000000000).bind fun r2=>bif !r2 then some 0 else if a1≠(0:Int)then some (Apq .i64 (Ap (A1 a0 a1) 1) a1)else none else some 0
def Bwz:=ct (fd Tryz.func321 ⟨[.v 3,.v 3],[.v 3],true⟩ (gC (A41 K) gN) [6,7,8]) (A7a K)
def A59 (a0:Fi)(a1:Int):Option Int:=(A7a K a1 a0.Du).bind fun r1=>some r1
def Bw0:=ct (fd Tryz.func337 ⟨[.v 33,.v 3],[.v 3],true⟩ (gC (Bwz K) gN)) (A59 K)
def Axw (a0:Fi)(a1:Bn):Option Bool:=(A2s K a0).bind fun r1=>bif decide (a1.Yg<=0)then some false else bif decide (a1.fAt<0)then some false else bif decide (a1.Yg>r1)then some false else bif decide (a1.fAt>(Ap r1 a1.Yg))then some false else bif a1.Yh==0 then bif decide (a1.Yg<=a0.Du)then if a0.Du≠(0:Int)then if a0.Du≠(0:Int)then some ((Apq .i64 a1.fAt a0.Du)==(Apq .i64 (Ap (A1 a1.fAt a1.Yg) 1) a0.Du))else none else none else some false else(A69 K a0 a1.Yg).bind fun r2=>bif r2 then(A59 K a0 a1.Yg).bind fun r3=>bif a1.Yh==r3 then if a0.Du≠(0:Int)then some ((Int.tmod a1.fAt a0.Du)==0)else none else some false else some false
def Bn6:=ct (fd Tryz.func292 ⟨[.v 33,.v 183],[.v 4],true⟩ (gC (Bnu K) (gC (Bwy K) (gC (Bw0 K) gN))) [10,11,14,15,16,20,21,22,38,39,59,60,67,68,69]) (Axw K)
def A1n (a0:Bn)(a1:Fi):Option Bool:=(Axw K a1 a0).bind fun r1=>some (!r1)
def Bw1:=ct (fd Tryz.func291 ⟨[.v 183,.r 33],[.v 4],true⟩ (gC (Bn6 K) gN)) (A1n K)
def Adz (a0:List Bn)(a1_0:Fi):Nat->Int->Int->Option Int
 |0,_,_=>none
 |n1+1,v1,v2=>bif decide (v2<v1)then if 0<=v2/\v2<a0.length then(A1n K (gt a0 v2) a1_0).bind fun r3=>bif r3 then some v2 else Adz a0 a1_0 n1 v1 (A1 v2 1)else none else some (-1)
def Ar2 (a0:List Bn)(a1_0:Fi):Option Int:=Adz K a0 a1_0 K (a0.length:Int) 0
def Buj:=fd Tryz.func295 ⟨[.v 75,.f 291 [] [33]],[.v 3],true⟩ (gC (Bw1 K) gN)
def B09:Fw:=⟨[(0,.v 75),(1,.f 291 [] [33]),(7,.v 2),(8,.v 2)],[]⟩
def Bn7:=lp (Buj K) 26 B09 [] (fun n a b=>Adz K a b n) (fun n=>kN)
def Bw2:=ct (Buj K) (Ar2 K) (kC (Bn7 K K) kN)
def Akh (a0:List Bn)(a1_0:Fi):Option Bool:=(Ar2 K a0 a1_0).bind fun r1=>some (decide (r1>=0))
def Bw3:=ct (fd Tryz.func215 ⟨[.v 75,.f 291 [] [33]],[.v 4],true⟩ (gC (Bw2 K) gN)) (Akh K)
def Au8 (a0:Fi)(v19:List Bn)(v20:List Int):Option Bool:=bif decide ((v19.length:Int)<=12)then bif decide ((v20.length:Int)<=6)then(Awf K v20).bind fun r25=>bif r25 then(Akh K v19 a0).bind fun r26=>some (!r26)else some false else some false else some false
def At4 (a0:Fi):Nat->(List Int)->Int->Int->Int->Int->Int->Int->Int->Int->Int->Int->(List Int)->Int->Int->(List Bn)->(List Int)->Option Bool
 |0,_,_,_,_,_,_,_,_,_,_,_,_,_,_,_,_=>none
 |n1+1,v5,v6,v7,v8,v9,v10,v11,v12,v13,v14,v15,v16,v17,v18,v19,v20=>bif decide (v7<v6)then if 0<=v7/\v7<v5.length then(K0 K (gt v5 v7) 0 a0.Cd).bind fun r21=>bif !r21 then some false else At4 a0 n1 v5 v6 (A1 v7 1) v8 v9 v10 v11 v12 v13 v14 v15 v16 v17 v18 v19 v20 else none else bif decide (v10<0)then some false else bif decide (v12<0)then some false else(Ayr K a0 v16).bind fun r22=>bif r22 then bif v17 != 0 then(Ap2 K v16 (Ap v17 1)).bind fun r23=>bif r23 then(K0 K v18 0 a0.Du).bind fun r24=>bif r24 then bif v17==0 then bif v18 != 0 then some false else Au8 K a0 v19 v20 else Au8 K a0 v19 v20 else some false else some false else(K0 K v18 0 a0.Du).bind fun r27=>bif r27 then bif v17==0 then bif v18 != 0 then some false else Au8 K a0 v19 v20 else Au8 K a0 v19 v20 else some false else some false
def A3u (a0:Fi)(a1:Az):Option Bool:=(Ay0 K a0).bind fun r1=>bif r1 then(K0 K a1.G4 0 3).bind fun r2=>bif r2 then(K0 K a1.C7 1 a0.Dv).bind fun r3=>bif !r3 then some false else bif a1.G4 != 1 then(A5k K a1).bind fun r4=>some r4 else At4 K a0 K ([a1.fUp,a1.Bz,a1.G6,a1.G7]:List Int) (([a1.fUp,a1.Bz,a1.G6,a1.G7]:List Int).length:Int) 0 a1.G4 a1.C7 a1.Nb a1.fUp a1.G5 a1.Bz a1.G6 a1.G7 a1.Ad a1.No a1.G8 a1.D5 a1.Dh else some false else some false
def Bn8:=fd Tryz.func212 ⟨[.v 33,.v 77],[.v 4],true⟩ (gC (Bdk K) (gC (Bg7 K) (gC (A41 K) (gC (Bw3 K) (gC (Bwt K) (gC (Bn4 K) (gC (Bg6 K) gN))))))) [8,9,10,13,14,15,16,51,52,55,56,57,61,62,63,64,67,68,74,75,76,77,78,83,84,85,86,89,90,99,100,104,105,106,109,110,111] [31] [(13,[.frzB 102 33])]
def B1a:Fw:=⟨[(2,.p 102),(3,.p 103)],[(103,.box bx4),(102,.st 33 true)]⟩
def B1b:Fw:=⟨[(2,.p 102),(3,.p 103),(37,.v 25),(38,.v 2),(39,.v 2)],[(103,.box bx4),(102,.st 33 true)]⟩
def Bn9:=jn (Bn8 K) 31 B1a [] (fun _ _ _ _ _ _ _ _ _ _ _ l m o=>Au8 K o l m) kN
def Bkk:=lp (Bn8 K) 122 B1b [] (fun n a b c d e f g h i j k l m o p q r=>At4 K r n a b c d e f g h i j k l m o p q) (fun n=>kC (up (Bn9 K)) kN)
def Bw4:=ct (Bn8 K) (A3u K) (kC (Bkk K K) kN)
def Axx (K:Nat)(v2 v3:Int)(v4 v5 v6:List Int)(C1:(List Int)->Int->Int->(List Int)->(List Int)->(List Int)->Option (List Int))(v7:List Int):Option (List Int):=C1 v7 v2 (A1 v3 1) v4 v5 v6
def Ao9 (a1:Int):Nat->(List Int)->Int->Int->(List Int)->(List Int)->(List Int)->Option (List Int)
 |0,_,_,_,_,_,_=>none
 |n1+1,v1,v2,v3,v4,v5,v6=>bif decide (v3<v2)then if 0<=v3/\v3<v5.length then bif (gt v5 v3)==1 then if 0<=v3/\v3<v6.length then bif (gt v6 v3)==a1 then if(v1++([v3]:List Int)).length*8<=140737488355328/\(v1++([v3]:List Int)).length<=maxLen then Axx K v2 v3 v4 v5 v6 (Ao9 a1 n1) (v1++([v3]:List Int))else none else Axx K v2 v3 v4 v5 v6 (Ao9 a1 n1) v1 else none else Axx K v2 v3 v4 v5 v6 (Ao9 a1 n1) v1 else none else some v1
def A2t (a0:Ef)(a1:Int):Option (List Int):=Ao9 K a1 K ([]:List Int) (Ada (a0.G4.length:Int) (a0.Fq.length:Int)) 0 a0.Fp a0.G4 a0.Fq
def Boa:=fd Tryz.func119 ⟨[.v 34,.v 3],[.n 25 true],true⟩ gN [23,24] [467]
def Bi2:Fw:=⟨[(1,.v 2),(2,.p 102),(5,.o 1005 3 true),(14,.v 2),(15,.v 2)],[(102,.box bx9)]⟩
def Bkl:=fun(C58:CT Bi2 _)=>jn Boa 467 Bi2 [(58,ar Bi2 C58)] (fun a b c d e f g=>Axx K c d e f g (C58 a) b) kN
def Bob:=lp Boa 58 Bi2 [] (fun n a=>Ao9 K a n) (fun n=>kC (Bkl K _) kN)
def Bw5:=ct Boa (A2t K) (kC (Bob K K) kN)
def Ape (a0:Bn)(a1:Fi)(a2:Az):Nat->Int->Option Bool
 |0,_=>none
 |n1+1,v2=>if a1.Du≠(0:Int)then bif decide (v2<=(Apq .i64 (Ap (A1 a0.fAt a0.Yg) 1) a1.Du))then(Ap2 K a2.Ad v2).bind fun r3=>bif !r3 then some true else Ape a0 a1 a2 n1 (A1 v2 1)else some false else none
def Awr (a0:Bn)(a1:Fi)(a2:Az):Option Bool:=(Axw K a1 a0).bind fun r1=>bif !r1 then some true else if a1.Du≠(0:Int)then Ape K a0 a1 a2 K (Apq .i64 a0.fAt a1.Du)else none
def Buk:=fd Tryz.func293 ⟨[.v 183,.r 33,.r 77],[.v 4],true⟩ (gC (Bg6 K) (gC (Bn6 K) gN))
def B1c:Fw:=⟨[(1,.r 33),(2,.r 77),(3,.p 103),(5,.v 2)],[(103,.st 183 true)]⟩
def Boc:=lp (Buk K) 58 B1c [] (fun n a b c d=>Ape K d a b n c) (fun n=>kN)
def Bw6:=ct (Buk K) (Awr K) (kC (Boc K K) kN)
def Acm (a0:List Bn)(a1_0:Fi)(a1_1:Az):Nat->Int->Int->Option Int
 |0,_,_=>none
 |n1+1,v1,v2=>bif decide (v2<v1)then if 0<=v2/\v2<a0.length then(Awr K (gt a0 v2) a1_0 a1_1).bind fun r3=>bif r3 then some v2 else Acm a0 a1_0 a1_1 n1 v1 (A1 v2 1)else none else some (-1)
def Arl (a0:List Bn)(a1_0:Fi)(a1_1:Az):Option Int:=Acm K a0 a1_0 a1_1 K (a0.length:Int) 0
def Bul:=fd Tryz.func295 ⟨[.v 75,.f 293 [] [33,77]],[.v 3],true⟩ (gC (Bw6 K) gN)
def B1d:Fw:=⟨[(0,.v 75),(1,.f 293 [] [33,77]),(7,.v 2),(8,.v 2)],[]⟩
def Bod:=lp (Bul K) 26 B1d [] (fun n a b c=>Acm K a b c n) (fun n=>kN)
def Bw7:=ct (Bul K) (Arl K) (kC (Bod K K) kN)
def Ahy (a0:List Bn)(a1_0:Fi)(a1_1:Az):Option Bool:=(Arl K a0 a1_0 a1_1).bind fun r1=>some (decide (r1>=0))
def Bw8:=ct (fd Tryz.func215 ⟨[.v 75,.f 293 [] [33,77]],[.v 4],true⟩ (gC (Bw7 K) gN)) (Ahy K)
def A1o (a0:Fi)(a1:Az):Option Bool:=(Ahy K a1.D5 a0 a1).bind fun r1=>some (!r1)
def Bw9:=ct (fd Tryz.func213 ⟨[.v 33,.v 77],[.v 4],true⟩ (gC (Bw8 K) gN) [] [] [(1,[.frzB 102 33,.frzB 103 77])]) (A1o K)
def A2u (K:Nat)(v1 v2:Bn):Option Bool:=some (decide ((Asu .u64 (IntKind.u64.wrap v1.fAt) (IntKind.u64.wrap v2.fAt))>=(IntKind.u64.wrap v2.Yg)))
def A2v (a0 a1:Bn):Option Bool:=bif decide (a0.Yg<=0)then some true else bif decide (a1.Yg<=0)then some true else bif decide (a0.fAt>a1.fAt)then A2u K a0 a1 else A2u K a1 a0
def Bum:=fd Tryz.func217 ⟨[.v 183,.v 183],[.v 4],true⟩ gN [7,8] [7]
def B1e:Fw:=⟨[(2,.p 102),(3,.p 103)],[(103,.st 183 true),(102,.st 183 true)]⟩
def Bsj:=jn Bum 7 B1e [] (A2u K) kN
def Boe:=ct Bum (A2v K) (kC (Bsj K) kN)
def Aza (a0 a1:Bn):Option Bool:=(A2v K a0 a1).bind fun r1=>some (!r1)
def Bxa:=ct (fd Tryz.func294 ⟨[.v 183,.r 183],[.v 4],true⟩ (gC (Boe K) gN)) (Aza K)
def Acn (a0:List Bn)(a1_0:Bn):Nat->Int->Int->Option Int
 |0,_,_=>none
 |n1+1,v1,v2=>bif decide (v2<v1)then if 0<=v2/\v2<a0.length then(Aza K (gt a0 v2) a1_0).bind fun r3=>bif r3 then some v2 else Acn a0 a1_0 n1 v1 (A1 v2 1)else none else some (-1)
def Arm (a0:List Bn)(a1_0:Bn):Option Int:=Acn K a0 a1_0 K (a0.length:Int) 0
def Bun:=fd Tryz.func295 ⟨[.v 75,.f 294 [] [183]],[.v 3],true⟩ (gC (Bxa K) gN)
def B1f:Fw:=⟨[(0,.v 75),(1,.f 294 [] [183]),(7,.v 2),(8,.v 2)],[]⟩
def Bof:=lp (Bun K) 26 B1f [] (fun n a b=>Acn K a b n) (fun n=>kN)
def Bxb:=ct (Bun K) (Arm K) (kC (Bof K K) kN)
def Ahz (a0:List Bn)(a1_0:Bn):Option Bool:=(Arm K a0 a1_0).bind fun r1=>some (decide (r1>=0))
def Bxc:=ct (fd Tryz.func215 ⟨[.v 75,.f 294 [] [183]],[.v 4],true⟩ (gC (Bxb K) gN)) (Ahz K)
def Atf (a0:List Bn):Nat->(List Bn)->Int->Int->Option Bool
 |0,_,_,_=>none
 |n1+1,v1,v2,v3=>bif decide (v3<v2)then if 0<=v3/\v3<v1.length then if(0:Int)<=0/\0<=v3/\v3<=a0.length then(Ahz K ((a0.drop (0:Int).toNat).take (v3 - 0).toNat) (gt v1 v3)).bind fun r4=>bif r4 then some false else Atf a0 n1 v1 v2 (A1 v3 1)else none else none else some true
def A1p (a0:List Bn):Option Bool:=Atf K a0 K a0 (a0.length:Int) 0
def Buo:=fd Tryz.func214 ⟨[.v 75],[.v 4],true⟩ (gC (Bxc K) gN) [] [] [(4,[.frzB 104 183])]
def B1g:Fw:=⟨[(0,.v 75),(5,.v 75),(6,.v 2),(7,.v 2)],[]⟩
def Bog:=lp (Buo K) 26 B1g [] (fun n a=>Atf K a n) (fun n=>kN)
def Bxd:=ct (Buo K) (A1p K) (kC (Bog K K) kN)
def Avd (a0 a1:Bn):Option Bool:=(A2v K a0 a1).bind fun r1=>some (!r1)
def Bxe:=ct (fd Tryz.func216 ⟨[.v 183,.r 183],[.v 4],true⟩ (gC (Boe K) gN)) (Avd K)
def W2 (a0:List Bn)(a1_0:Bn):Nat->Int->Int->Option Int
 |0,_,_=>none
 |n1+1,v1,v2=>bif decide (v2<v1)then if 0<=v2/\v2<a0.length then(Avd K (gt a0 v2) a1_0).bind fun r3=>bif r3 then some v2 else W2 a0 a1_0 n1 v1 (A1 v2 1)else none else some (-1)
def Am8 (a0:List Bn)(a1_0:Bn):Option Int:=W2 K a0 a1_0 K (a0.length:Int) 0
def Bup:=fd Tryz.func295 ⟨[.v 75,.f 216 [] [183]],[.v 3],true⟩ (gC (Bxe K) gN)
def B1h:Fw:=⟨[(0,.v 75),(1,.f 216 [] [183]),(7,.v 2),(8,.v 2)],[]⟩
def Boh:=lp (Bup K) 26 B1h [] (fun n a b=>W2 K a b n) (fun n=>kN)
def Bxf:=ct (Bup K) (Am8 K) (kC (Boh K K) kN)
def Af0 (a0:List Bn)(a1_0:Bn):Option Bool:=(Am8 K a0 a1_0).bind fun r1=>some (decide (r1>=0))
def Bxg:=ct (fd Tryz.func215 ⟨[.v 75,.f 216 [] [183]],[.v 4],true⟩ (gC (Bxf K) gN)) (Af0 K)
def Ave (K:Nat)(v1:List Az)(v2 v3:Int)(v4 v5:Int)(v6 v7:Int)(v8 v9:Int)(v10 v11 v12:List Int)(v13:List Az)(v14:List Bb)(v15:List Int)(C1:(List Az)->Int->Int->Int->Int->Int->Int->Int->Int->(List Int)->(List Int)->(List Int)->(List Az)->(List Bb)->(List Int)->Option Bool):Option Bool:=C1 v1 v2 (A1 v3 1) v4 v5 v6 v7 v8 v9 v10 v11 v12 v13 v14 v15
def Ah1:Nat->(List Az)->Int->Int->Int->Int->Int->Int->Int->Int->(List Int)->(List Int)->(List Int)->(List Az)->(List Bb)->(List Int)->Option Bool
 |0,_,_,_,_,_,_,_,_,_,_,_,_,_,_,_=>none
 |n1+1,v1,v2,v3,v4,v5,v6,v7,v8,v9,v10,v11,v12,v13,v14,v15=>bif decide (v3<v2)then if 0<=v3/\v3<v1.length then(Aco K (gt v1 v3).Ad).bind fun r16=>(Fk K r16).bind fun r17=>if r17.length=r16.length then(A3u K (Fi.mk v4 v5 v6 v7 v8 v9) (gt v1 v3)).bind fun r18=>bif r18 then(A2t K (Ef.mk v10 v11 v12) v3).bind fun r19=>(Arr K r17 r19).bind fun r20=>bif r20 then(A1o K (Fi.mk v4 v5 v6 v7 v8 v9) (gt v1 v3)).bind fun r21=>bif r21 then(A1p K (gt v1 v3).D5).bind fun r22=>bif !r22 then some false else bif (gt v1 v3).No==0 then Ave K v1 v2 v3 v4 v5 v6 v7 v8 v9 v10 v11 v12 v13 v14 v15 (Ah1 n1)else if 0<=(Bn.mk (A1 (K1 (Ap (gt v1 v3).No 1) v5) (gt v1 v3).G8) (Ap v5 (gt v1 v3).G8) 0).fAt/\(Bn.mk (A1 (K1 (Ap (gt v1 v3).No 1) v5) (gt v1 v3).G8) (Ap v5 (gt v1 v3).G8) 0).fAt<=(A1 (Bn.mk (A1 (K1 (Ap (gt v1 v3).No 1) v5) (gt v1 v3).G8) (Ap v5 (gt v1 v3).G8) 0).fAt (Bn.mk (A1 (K1 (Ap (gt v1 v3).No 1) v5) (gt v1 v3).G8) (Ap v5 (gt v1 v3).G8) 0).Yg)/\(A1 (Bn.mk (A1 (K1 (Ap (gt v1 v3).No 1) v5) (gt v1 v3).G8) (Ap v5 (gt v1 v3).G8) 0).fAt (Bn.mk (A1 (K1 (Ap (gt v1 v3).No 1) v5) (gt v1 v3).G8) (Ap v5 (gt v1 v3).G8) 0).Yg)<=v10.length then(Aw0 K ((v10.drop (Bn.mk (A1 (K1 (Ap (gt v1 v3).No 1) v5) (gt v1 v3).G8) (Ap v5 (gt v1 v3).G8) 0).fAt.toNat).take ((A1 (Bn.mk (A1 (K1 (Ap (gt v1 v3).No 1) v5) (gt v1 v3).G8) (Ap v5 (gt v1 v3).G8) 0).fAt (Bn.mk (A1 (K1 (Ap (gt v1 v3).No 1) v5) (gt v1 v3).G8) (Ap v5 (gt v1 v3).G8) 0).Yg) - (Bn.mk (A1 (K1 (Ap (gt v1 v3).No 1) v5) (gt v1 v3).G8) (Ap v5 (gt v1 v3).G8) 0).fAt).toNat)).bind fun r23=>bif r23 then(Af0 K (gt v1 v3).D5 (Bn.mk (A1 (K1 (Ap (gt v1 v3).No 1) v5) (gt v1 v3).G8) (Ap v5 (gt v1 v3).G8) 0)).bind fun r24=>bif r24 then some false else Ave K v1 v2 v3 v4 v5 v6 v7 v8 v9 v10 v11 v12 v13 v14 v15 (Ah1 n1)else some false else none else some false else some false else some false else none else none else some true
def Aws (a0:Bo):Option Bool:=Ah1 K K a0.fL (a0.fL.length:Int) 0 a0.fC.Ad a0.fC.Du a0.fC.Cd a0.fC.Ez a0.fC.Ce a0.fC.Dv a0.fP.Fp a0.fP.G4 a0.fP.Fq a0.fL a0.fQ a0.Jp
def Boi:=fd Tryz.func123 ⟨[.v 38],[.v 4],true⟩ (gC (Bdl K) (gC (Bw5 K) (gC (Bn0 K) (gC (A9l K) (gC (Yx K) (gC (Bw4 K) (gC (Bw9 K) (gC (Bxd K) (gC (Bxg K) gN))))))))) [23,24,25,31,32,33,34,38,39,40,41,78,79,80] [211] [(10,[.frzB 106 183])]
def Bi3:Fw:=⟨[(1,.p 101),(8,.v 35),(9,.v 2),(10,.v 2)],[(101,.box bx6)]⟩
def Bkm:=fun(C26:CT Bi3 _)=>jn (Boi K) 211 Bi3 [(26,ar Bi3 C26)] (fun a b c d e f g h i j k l m o p=>Ave K a b c d e f g h i j k l m o p C26) kN
def Boj:=lp (Boi K) 26 Bi3 [] (Ah1 K) (fun n=>kC (Bkm K _) kN)
def Bxh:=ct (Boi K) (Aws K) (kC (Boj K K) kN)
def Aqd (a0:List Az)(a1:Int):Option Bool:=(K0 K a1 0 (Ap a0.length 1)).bind fun r1=>some r1
def A8h:=ct (fd Tryz.func118 ⟨[.v 35,.v 3],[.v 4],true⟩ (gC (A41 K) gN)) (Aqd K)
def Ay1 (a0:List Az)(a1:Int):Option Bool:=bif a1==0 then some true else(Aqd K a0 (Ap a1 1)).bind fun r1=>bif r1 then if 0<=(Ap a1 1)/\(Ap a1 1)<a0.length then some (((gt a0 (Ap a1 1)).G4)==1)else none else some false
def Bxi:=ct (fd Tryz.func296 ⟨[.v 35,.v 3],[.v 4],true⟩ (gC (A8h K) gN) [6,7,11,12]) (Ay1 K)
def Avs (a0:List Az)(a1:Int):Option Bool:=if 0<=a1/\a1<a0.length then(Aqd K a0 (Ap (gt a0 a1).fUp 1)).bind fun r1=>bif r1 then if 0<=(Ap (gt a0 a1).fUp 1)/\(Ap (gt a0 a1).fUp 1)<a0.length then bif (gt a0 (Ap (gt a0 a1).fUp 1)).G4==1 then if 0<=(Ap (gt a0 a1).fUp 1)/\(Ap (gt a0 a1).fUp 1)<a0.length then if 0<=a1/\a1<a0.length then some (((gt a0 (Ap (gt a0 a1).fUp 1)).Nb)==(gt a0 a1).G5)else none else none else some false else none else some false else none
def Bg8:=ct (fd Tryz.func219 ⟨[.v 35,.v 3],[.v 4],true⟩ (gC (A8h K) gN) [14,15,21,22,23]) (Avs K)
def Axy (a0:List Az)(a1 v8 v12:Int):Option Bool:=bif v12 != 0 then some true else(Avs K a0 a1).bind fun r18=>bif r18 then if 0<=(Ap v8 1)/\(Ap v8 1)<a0.length then some (((gt a0 (Ap v8 1)).Bz)==(A1 a1 1))else none else some true
def Axz (a0:List Az)(a1 v8 v12:Int):Option Bool:=bif v12 != 0 then if 0<=(Ap v12 1)/\(Ap v12 1)<a0.length then bif (gt a0 (Ap v12 1)).G6 != (A1 a1 1)then some false else Axy K a0 a1 v8 v12 else none else Axy K a0 a1 v8 v12
def Ax0 (a0:List Az)(a1 v8:Int)(v9 v11 v12:Int):Option Bool:=bif v11 != 0 then if 0<=(Ap v11 1)/\(Ap v11 1)<a0.length then bif (gt a0 (Ap v11 1)).G7 != (A1 a1 1)then some false else bif (gt a0 (Ap v11 1)).fUp != v8 then some false else bif (gt a0 (Ap v11 1)).G5 != v9 then some false else Axz K a0 a1 v8 v12 else none else Axz K a0 a1 v8 v12
def Ax1 (a0:List Az)(a1 v5:Int)(v6 v7:Int)(v8 v9:Int)(v10 v11 v12:Int)(v13:List Int)(v14 v15:Int)(v16:List Bn)(v17:List Int):Option Bool:=bif v10 != 0 then if 0<=(Ap v10 1)/\(Ap v10 1)<a0.length then bif (gt a0 (Ap v10 1)).G7 != 0 then some false else bif (gt a0 (Ap v10 1)).fUp != (A1 a1 1)then some false else bif (gt a0 (Ap v10 1)).G5 != v7 then some false else Ax0 K a0 a1 v8 v9 v11 v12 else none else Ax0 K a0 a1 v8 v9 v11 v12
def A2w (a0:List Az)(a1:Int):Option Bool:=if 0<=a1/\a1<a0.length then(Ay1 K a0 (gt a0 a1).Bz).bind fun r1=>bif r1 then(Ay1 K a0 (gt a0 a1).G6).bind fun r2=>bif r2 then(Ay1 K a0 (gt a0 a1).G7).bind fun r3=>bif r3 then bif (gt a0 a1).fUp != 0 then(Aqd K a0 (Ap (gt a0 a1).fUp 1)).bind fun r4=>bif !r4 then some false else Ax1 K a0 a1 (gt a0 a1).G4 (gt a0 a1).C7 (gt a0 a1).Nb (gt a0 a1).fUp (gt a0 a1).G5 (gt a0 a1).Bz (gt a0 a1).G6 (gt a0 a1).G7 (gt a0 a1).Ad (gt a0 a1).No (gt a0 a1).G8 (gt a0 a1).D5 (gt a0 a1).Dh else Ax1 K a0 a1 (gt a0 a1).G4 (gt a0 a1).C7 (gt a0 a1).Nb (gt a0 a1).fUp (gt a0 a1).G5 (gt a0 a1).Bz (gt a0 a1).G6 (gt a0 a1).G7 (gt a0 a1).Ad (gt a0 a1).No (gt a0 a1).G8 (gt a0 a1).D5 (gt a0 a1).Dh else some false else some false else some false else none
def Bfb:=fd Tryz.func218 ⟨[.v 35,.v 3],[.v 4],true⟩ (gC (A8h K) (gC (Bg8 K) (gC (Bxi K) gN))) [15,16,17,21,22,23,24,28,29,30,31,34,35,55,56,61,62,63,83,84,89,90,91,100,101,115,116,119,120,121,122] [7,15,31,63]
def Bok:=jn (Bfb K) 63 Be6 [] (fun a b _ _ _ f _ _ _ j _ _ _ _ _=>Axy K a b f j) kN
def Bol:=jn (Bfb K) 31 Be6 [] (fun a b _ _ _ f _ _ _ j _ _ _ _ _=>Axz K a b f j) (kC (Bok K) kN)
def Bom:=jn (Bfb K) 15 Be6 [] (fun a b _ _ _ f g _ i j _ _ _ _ _=>Ax0 K a b f g i j) (kC (Bol K) kN)
def Bsk:=jn (Bfb K) 7 Be6 [] (Ax1 K) (kC (Bom K) kN)
def Bxj:=ct (Bfb K) (A2w K) (kC (Bsk K) kN)
def A0y (a0:List Az):Nat->Int->(List Int)->Option (List Int)
 |0,_,_=>none
 |n1+1,v1,v2=>(Aqd K a0 v1).bind fun r3=>bif r3 then bif decide ((v2.length:Int)<a0.length)then if(v2++([v1]:List Int)).length*8<=140737488355328/\(v2++([v1]:List Int)).length<=maxLen then if 0<=v1/\v1<a0.length then A0y a0 n1 (Ap (gt a0 v1).fUp 1) (v2++([v1]:List Int))else none else none else some v2 else some v2
def A5l (a0:List Az)(a1:Int):Option (List Int):=A0y K a0 K a1 ([]:List Int)
def Buq:=fd Tryz.func202 ⟨[.v 35,.v 3],[.n 25 true],true⟩ (gC (A8h K) gN) [9,10]
def Bon:=lp (Buq K) 28 h_4 [] (fun n a=>A0y K a n) (fun n=>kN)
def Bxk:=ct (Buq K) (A5l K) (kC (Bon K K) kN)
def A1q (K:Nat)(v1:List Az)(v2 v3:Int)(C1:(List Az)->Int->Int->Option Bool):Option Bool:=C1 v1 v2 (A1 v3 1)
def At5 (a0:List Az):Nat->(List Az)->Int->Int->Option Bool
 |0,_,_,_=>none
 |n1+1,v1,v2,v3=>bif decide (v3<v2)then if 0<=v3/\v3<v1.length then bif (gt v1 v3).G4 != 1 then A1q K v1 v2 v3 (At5 a0 n1)else(A2w K a0 v3).bind fun r4=>bif !r4 then some false else(A5l K a0 v3).bind fun r5=>bif decide ((r5.length:Int)>4)then some false else if 0<=(Ap r5.length 1)/\(Ap r5.length 1)<r5.length then(Avs K a0 (gt r5 (Ap r5.length 1))).bind fun r6=>bif r6 then some false else A1q K v1 v2 v3 (At5 a0 n1)else none else none else some true
def A3v (a0:List Az):Option Bool:=At5 K a0 K a0 (a0.length:Int) 0
def Boo:=fd Tryz.func124 ⟨[.v 35],[.v 4],true⟩ (gC (Bxk K) (gC (Bxj K) (gC (Bg8 K) gN))) [25,26] [211]
def Bi4:Fw:=⟨[(0,.v 35),(6,.v 35),(7,.v 2),(8,.v 2)],[]⟩
def Bkn:=fun(C26:CT Bi4 _)=>jn (Boo K) 211 Bi4 [(26,ar Bi4 C26)] (fun a b c d=>A1q K b c d (C26 a)) kN
def Bop:=lp (Boo K) 26 Bi4 [] (fun n a=>At5 K a n) (fun n=>kC (Bkn K _) kN)
def Bxl:=ct (Boo K) (A3v K) (kC (Bop K K) kN)
def Awg (a0:List Az)(a1:Int):Option Bool:=if 0<=a1/\a1<a0.length then bif (gt a0 a1).G4==1 then if 0<=a1/\a1<a0.length then bif (gt a0 a1).fUp != 0 then(Avs K a0 a1).bind fun r1=>some (!r1)else some false else none else some false else none
def Bxm:=ct (fd Tryz.func221 ⟨[.v 35,.v 3],[.v 4],true⟩ (gC (Bg8 K) gN) [10,11,17,18,19]) (Awg K)
def A2x (a0:Fi)(a1:Bb):Option Bool:=(Ay0 K a0).bind fun r1=>bif r1 then(K0 K a1.Be 0 a0.Cd).bind fun r2=>bif r2 then(K0 K a1.Bz 0 a0.Cd).bind fun r3=>bif r3 then bif decide ((a1.Dh.length:Int)<=6)then(Awf K a1.Dh).bind fun r4=>bif r4 then(Ayr K a0 a1.Ad).bind fun r5=>bif r5 then(K0 K a1.H2 0 (Ap a0.Du 1)).bind fun r6=>bif r6 then bif decide ((a1.Ad.length:Int)>0)then some true else some (a1.H2==0)else some false else some false else some false else some false else some false else some false else some false
def Bxn:=ct (fd Tryz.func220 ⟨[.v 33,.v 79],[.v 4],true⟩ (gC (Bdk K) (gC (Bg7 K) (gC (A41 K) (gC (Bn4 K) gN)))) [6,7,12,13,14,19,20,21,25,26,27,30,31,32,36,37,38,44,45,46,50,51]) (A2x K)
def Ays (a0:List Az):Nat->(List Int)->Int->Option (List Int)
 |0,_,_=>none
 |n1+1,v1,v2=>(Aqd K a0 v2).bind fun r3=>bif r3 then bif decide ((v1.length:Int)<a0.length)then if(v1++([v2]:List Int)).length*8<=140737488355328/\(v1++([v2]:List Int)).length<=maxLen then if 0<=v2/\v2<a0.length then Ays a0 n1 (v1++([v2]:List Int)) (Ap (gt a0 v2).G6 1)else none else none else some v1 else some v1
def A3w (a0:List Az)(a1:Int):Option (List Int):=Ays K a0 K ([]:List Int) (Ap a1 1)
def Bur:=fd Tryz.func174 ⟨[.v 35,.v 3],[.n 25 true],true⟩ (gC (A8h K) gN) [12,13]
def B1i:Fw:=⟨[(0,.v 35),(5,.o 1005 3 true),(6,.v 2)],[]⟩
def Boq:=lp (Bur K) 58 B1i [] (fun n a=>Ays K a n) (fun n=>kN)
def Bxo:=ct (Bur K) (A3w K) (kC (Boq K K) kN)
def Akp (v4:List Bb)(v5 v6:Int)(v7 v8:Int)(v9 v10:Int)(v11 v12:Int)(v13 v14 v15:List Int)(v16:List Az)(v17:List Bb)(v18 v27 v31:List Int)(r32:(List Int))(C1:(List Int)->(List Int)->(List Int)->(List Bb)->Int->Int->Int->Int->Int->Int->Int->Int->(List Int)->(List Int)->(List Int)->(List Az)->(List Bb)->(List Int)->Option Bool):Nat->(List Int)->Int->Int->Option Bool
 |0,_,_,_=>none
 |n6+1,v33,v34,v35=>bif decide (v35<v34)then if 0<=v35/\v35<r32.length then if 0<=(gt r32 v35)/\(gt r32 v35)<v33.length then if 0<=(gt r32 v35)/\(gt r32 v35)<v33.length then(Awg K v16 (gt r32 v35)).bind fun r36=>bif !r36 then some false else Akp v4 v5 v6 v7 v8 v9 v10 v11 v12 v13 v14 v15 v16 v17 v18 v27 v31 r32 C1 n6 (v33.set (gt r32 v35).toNat (A1 (gt v33 (gt r32 v35)) 1)) v34 (A1 v35 1)else none else none else none else C1 v27 v31 v33 v4 v5 (A1 v6 1) v7 v8 v9 v10 v11 v12 v13 v14 v15 v16 v17 v18
def Atg (v3:List Int)(v4:List Bb)(v5 v6:Int)(v7 v8:Int)(v9 v10:Int)(v11 v12:Int)(v13 v14 v15:List Int)(v16:List Az)(v17:List Bb)(v18:List Int)(v23:Int)(v27 v31:List Int)(C1:(List Int)->(List Int)->(List Int)->(List Bb)->Int->Int->Int->Int->Int->Int->Int->Int->(List Int)->(List Int)->(List Int)->(List Az)->(List Bb)->(List Int)->Option Bool):Option Bool:=(A3w K v16 v23).bind fun r32=>Akp K v4 v5 v6 v7 v8 v9 v10 v11 v12 v13 v14 v15 v16 v17 v18 v27 v31 r32 (C1) K v3 (r32.length:Int) 0
def Ath (v3:List Int)(v4:List Bb)(v5 v6:Int)(v7 v8:Int)(v9 v10:Int)(v11 v12:Int)(v13 v14 v15:List Int)(v16:List Az)(v17:List Bb)(v18:List Int)(v23:Int)(v27:List Int)(C1:(List Int)->(List Int)->(List Int)->(List Bb)->Int->Int->Int->Int->Int->Int->Int->Int->(List Int)->(List Int)->(List Int)->(List Az)->(List Bb)->(List Int)->Option Bool)(v31:List Int):Option Bool:=bif decide (v23>0)then if 0<=(Ap v23 1)/\(Ap v23 1)<v16.length then bif (gt v16 (Ap v23 1)).G7 != 0 then some false else Atg K v3 v4 v5 v6 v7 v8 v9 v10 v11 v12 v13 v14 v15 v16 v17 v18 v23 v27 v31 (C1)else none else Atg K v3 v4 v5 v6 v7 v8 v9 v10 v11 v12 v13 v14 v15 v16 v17 v18 v23 v27 v31 (C1)
def Aks (v2 v3:List Int)(v4:List Bb)(v5 v6:Int)(v7 v8:Int)(v9 v10:Int)(v11 v12:Int)(v13 v14 v15:List Int)(v16:List Az)(v17:List Bb)(v18:List Int)(v22 v23:Int)(v25:List Int)(C1:(List Int)->(List Int)->(List Int)->(List Bb)->Int->Int->Int->Int->Int->Int->Int->Int->(List Int)->(List Int)->(List Int)->(List Az)->(List Bb)->(List Int)->Option Bool):Nat->(List Int)->Int->Int->(List Int)->Option Bool
 |0,_,_,_,_=>none
 |n3+1,v27,v28,v29,v30=>bif decide (v29<v28)then if 0<=v29/\v29<v25.length then if 0<=(gt v25 v29)/\(gt v25 v29)<v27.length then if 0<=(gt v25 v29)/\(gt v25 v29)<v27.length then if 0<=(gt v25 v29)/\(gt v25 v29)<v14.length then bif (gt v14 (gt v25 v29)) != 2 then some false else Aks v2 v3 v4 v5 v6 v7 v8 v9 v10 v11 v12 v13 v14 v15 v16 v17 v18 v22 v23 v25 C1 n3 (v27.set (gt v25 v29).toNat (A1 (gt v27 (gt v25 v29)) 1)) v28 (A1 v29 1) v30 else none else none else none else none else bif decide (v22>0)then if 0<=(Ap v22 1)/\(Ap v22 1)<v2.length then if 0<=(Ap v22 1)/\(Ap v22 1)<v2.length then if 0<=(Ap v22 1)/\(Ap v22 1)<v16.length then bif (gt v16 (Ap v22 1)).G4 != 2 then some false else Ath K v3 v4 v5 v6 v7 v8 v9 v10 v11 v12 v13 v14 v15 v16 v17 v18 v23 v27 (C1) (v2.set (Ap v22 1).toNat (A1 (gt v2 (Ap v22 1)) 1))else none else none else none else Ath K v3 v4 v5 v6 v7 v8 v9 v10 v11 v12 v13 v14 v15 v16 v17 v18 v23 v27 (C1) v2
def Atm (v1 v2 v3:List Int)(v4:List Bb)(v5 v6:Int)(v7 v8:Int)(v9 v10:Int)(v11 v12:Int)(v13 v14 v15:List Int)(v16:List Az)(v17:List Bb)(v18:List Int)(C1:(List Int)->(List Int)->(List Int)->(List Bb)->Int->Int->Int->Int->Int->Int->Int->Int->(List Int)->(List Int)->(List Int)->(List Az)->(List Bb)->(List Int)->Option Bool)(v22 v23:Int)(v24 v25:List Int)(v26:Int):Option Bool:=Aks K v2 v3 v4 v5 v6 v7 v8 v9 v10 v11 v12 v13 v14 v15 v16 v17 v18 v22 v23 v25 (C1) K v1 (v25.length:Int) 0 v25
def Avf (K:Nat)(v37 v38:Int)(v39:List Int)(C7:Int->Int->(List Int)->Option Bool):Option Bool:=C7 v37 (A1 v38 1) v39
def Amk (K:Nat)(v40 v41:Int)(v42:List Az)(C9:Int->Int->(List Az)->Option Bool):Option Bool:=C9 v40 (A1 v41 1) v42
def Aa1 (v2 v3:List Int)(v16:List Az):Nat->Int->Int->(List Az)->Option Bool
 |0,_,_,_=>none
 |n9+1,v40,v41,v42=>bif decide (v41<v40)then if 0<=v41/\v41<v16.length then bif (gt v16 v41).G4==2 then if 0<=v41/\v41<v2.length then bif (gt v2 v41) != 1 then some false else(Awg K v42 v41).bind fun r43=>bif r43 then if 0<=v41/\v41<v3.length then bif (gt v3 v41) != 1 then some false else Amk K v40 v41 v42 (Aa1 v2 v3 v16 n9)else none else Amk K v40 v41 v42 (Aa1 v2 v3 v16 n9)else none else(Awg K v42 v41).bind fun r44=>bif r44 then if 0<=v41/\v41<v3.length then bif (gt v3 v41) != 1 then some false else Amk K v40 v41 v42 (Aa1 v2 v3 v16 n9)else none else Amk K v40 v41 v42 (Aa1 v2 v3 v16 n9)else none else some true
def Ahr (v1 v2:List Int)(v3 v14:List Int)(v16:List Az):Nat->Int->Int->(List Int)->Option Bool
 |0,_,_,_=>none
 |n7+1,v37,v38,v39=>bif decide (v38<v37)then if 0<=v38/\v38<v14.length then bif (gt v14 v38)==2 then if 0<=v38/\v38<v1.length then bif (gt v1 v38) != 1 then some false else Avf K v37 v38 v39 (Ahr v1 v2 v3 v14 v16 n7)else none else Avf K v37 v38 v39 (Ahr v1 v2 v3 v14 v16 n7)else none else Aa1 K v2 v3 v16 K (v16.length:Int) 0 v16
def Gy:Nat->(List Int)->(List Int)->(List Int)->(List Bb)->Int->Int->Int->Int->Int->Int->Int->Int->(List Int)->(List Int)->(List Int)->(List Az)->(List Bb)->(List Int)->Option Bool
 |0,_,_,_,_,_,_,_,_,_,_,_,_,_,_,_,_,_,_=>none
 |n1+1,v1,v2,v3,v4,v5,v6,v7,v8,v9,v10,v11,v12,v13,v14,v15,v16,v17,v18=>bif decide (v6<v5)then if 0<=v6/\v6<v4.length then(A2x K (Fi.mk v7 v8 v9 v10 v11 v12) (gt v4 v6)).bind fun r19=>bif r19 then bif decide (((gt v4 v6).Ad.length:Int)>0)then if(0:Int)<=0/\0<(((gt v4 v6).Ad).length:Int)then(Au0 K (Ef.mk v13 v14 v15) (Fi.mk v7 v8 v9 v10 v11 v12) (gt (gt v4 v6).Ad 0)).bind fun r20=>if(0:Int)<=0/\0<=(gt v4 v6).H2/\(gt v4 v6).H2<=r20.length then(Aw0 K ((r20.drop (0:Int).toNat).take (((gt v4 v6).H2) - 0).toNat)).bind fun r21=>bif !r21 then some false else Atm K v1 v2 v3 v4 v5 v6 v7 v8 v9 v10 v11 v12 v13 v14 v15 v16 v17 v18 (Gy n1) (gt v4 v6).Be (gt v4 v6).Bz (gt v4 v6).Dh (gt v4 v6).Ad (gt v4 v6).H2 else none else none else Atm K v1 v2 v3 v4 v5 v6 v7 v8 v9 v10 v11 v12 v13 v14 v15 v16 v17 v18 (Gy n1) (gt v4 v6).Be (gt v4 v6).Bz (gt v4 v6).Dh (gt v4 v6).Ad (gt v4 v6).H2 else some false else none else Ahr K v1 v2 v3 v14 v16 K (v14.length:Int) 0 v14
def Awt (a0:Bo):Option Bool:=if 0<=a0.fC.Ad/\a0.fC.Ad<=a0.fC.Ad/\(8:Int)*a0.fC.Ad<=281474976710656/\a0.fC.Ad<=9223372036854775807 then if 0<=a0.fC.Cd/\a0.fC.Cd<=a0.fC.Cd/\(8:Int)*a0.fC.Cd<=281474976710656/\a0.fC.Cd<=9223372036854775807 then if 0<=a0.fC.Cd/\a0.fC.Cd<=a0.fC.Cd/\(8:Int)*a0.fC.Cd<=281474976710656/\a0.fC.Cd<=9223372036854775807 then Gy K K (List.replicate a0.fC.Ad.toNat (0:Int)) (List.replicate a0.fC.Cd.toNat (0:Int)) (List.replicate a0.fC.Cd.toNat (0:Int)) a0.fQ (a0.fQ.length:Int) 0 a0.fC.Ad a0.fC.Du a0.fC.Cd a0.fC.Ez a0.fC.Ce a0.fC.Dv a0.fP.Fp a0.fP.G4 a0.fP.Fq a0.fL a0.fQ a0.Jp else none else none else none
def A7b:=fd Tryz.func125 ⟨[.v 38],[.v 4],true⟩ (gC (Bdl K) (gC (Bxo K) (gC (Bg5 K) (gC (Bxn K) (gC (Bxm K) gN))))) [38,39,40,44,45,105,106,150,151,169,170,175,176,177,181,182] [979,2003,3737,14951,29903]
def B1j:Fw:=⟨[(1,.p 101),(3,.o 1003 3 true),(4,.o 1004 3 true),(5,.o 1005 3 true),(29,.v 36),(30,.v 2),(31,.v 2),(121,.v 25),(122,.v 2),(123,.v 2)],[(101,.box bx6)]⟩
def Bor:Fw:=⟨[(1,.p 101),(3,.o 1003 3 true),(4,.o 1004 3 true),(5,.o 1005 3 true),(7,.p 107),(29,.v 36),(30,.v 2),(31,.v 2)],[(107,.box bx7),(101,.box bx6)]⟩
def B1k:Fw:=⟨[(1,.p 101),(3,.o 1003 3 true),(4,.o 1004 3 true),(5,.o 1005 3 true),(7,.p 107),(29,.v 36),(30,.v 2),(31,.v 2),(63,.v 25),(64,.v 2),(65,.v 2)],[(107,.box bx7),(101,.box bx6)]⟩
def Bi5:Fw:=⟨[(1,.p 101),(3,.o 1003 3 true),(4,.o 1004 3 true),(5,.o 1005 3 true),(142,.v 25),(143,.v 2),(144,.v 2)],[(101,.box bx6)]⟩
def Bi6:Fw:=⟨[(1,.p 101),(4,.o 1004 3 true),(5,.o 1005 3 true),(160,.v 35),(161,.v 2),(162,.v 2)],[(101,.box bx6)]⟩
def A7c:Fw:=⟨[(1,.p 101),(3,.o 1003 3 true),(4,.o 1004 3 true),(5,.o 1005 3 true),(29,.v 36),(30,.v 2),(31,.v 2)],[(101,.box bx6)]⟩
def Bdn:=fun(C58:CT A7c _)=>lp (A7b K) 239230 B1j [(58,ar A7c C58)] (fun n a b c d e f g h i j k l m o p q r s t u v=>Akp K d e f j k l m o p q r s t u v a b g C58 n c h i) (fun n=>kN)
def Bfc:=fun(C58:CT A7c _)=>jn (A7b K) 29903 Bor [(58,ar A7c C58)] (fun a b c d e f _ h _ _ _ l m o p q r s t u v w x=>Atg K c d e f l m o p q r s t u v w x h a b C58) (kC (Bdn K _ K) kN)
def Bfd:=fun(C58:CT A7c _)=>jn (A7b K) 14951 Bor [(58,ar A7c C58)] (fun a b c d e f _ h _ _ _ l m o p q r s t u v w x=>Ath K c d e f l m o p q r s t u v w x h a C58 b) (kC (Bfc K _) kN)
def Bfe:=fun(C58:CT A7c _)=>lp (A7b K) 59802 B1k [(58,ar A7c C58)] (fun n a b c d e f g h i j k _ m _ p q r s t u v w x y z a1=>Aks K b c d e f p q r s t u v w x y z a1 j k g C58 n a h i m) (fun n=>kC (up (Bfd K _)) kN)
def Bg9:=fun(C58:CT A7c _)=>jn (A7b K) 3737 Bor [(58,ar A7c C58)] (fun a b c d e f g h i j k l m o p q r s t u v w x=>Atm K a b c d e f l m o p q r s t u v w x C58 g h i j k) (kC (Bfe K _ K) kN)
def Bko:=fun(C122:CT Bi5 _)=>jn (A7b K) 979 Bi5 [(122,ar Bi5 C122)] (fun a b c d e f g h i j k l m o p q r s=>Avf K e f o (fun v37 v38 v39=>C122 a b c d v37 v38 g h i j k l m v39 p q r s)) kN
def Bha:=fun(C250:CT Bi6 _)=>jn (A7b K) 2003 Bi6 [(250,ar Bi6 C250)] (fun a b c d e f g h i j k l m o p q r=>Amk K d e p (fun v40 v41 v42=>C250 a b c v40 v41 f g h i j k l m o v42 q r)) kN
def Bkp:=lp (A7b K) 250 Bi6 [] (fun n a b c d e _ _ _ _ _ _ _ _ _ p _ _=>Aa1 K a b c n d e p) (fun n=>kC (Bha K _) kN)
def Bkq:=lp (A7b K) 122 Bi5 [] (fun n a b c d e f _ _ _ _ _ _ _ o _ q _ _=>Ahr K a b c d q n e f o) (fun n=>kC (Bko K _) (kC (up (Bkp K K)) kN))
def Bos:=lp (A7b K) 58 A7c [] (Gy K) (fun n=>kC (Bg9 K _) (kC (up (Bkq K K)) kN))
def Bxp:=ct (A7b K) (Awt K) (kC (Bos K K) kN)
def Aus (a0:Bo):Option Bool:=(A0x K a0.fC a0.fP).bind fun r1=>bif r1 then bif (a0.fL.length:Int)==a0.fC.Cd then(Aws K a0).bind fun r2=>bif r2 then(A3v K a0.fL).bind fun r3=>bif r3 then(Awt K a0).bind fun r4=>bif r4 then(Awf K a0.Jp).bind fun r5=>some r5 else some false else some false else some false else some false else some false
def Bhb:=ct (fd Tryz.func32 ⟨[.v 38],[.v 4],true⟩ (gC (Bny K) (gC (Bxh K) (gC (Bxl K) (gC (Bxp K) (gC (Bg7 K) gN))))) [7,8,15,16,17,19,20,21,24,25,26,28,29,30]) (Aus K)
def A50 (K:Nat)(a0:Bb):Option Int:=bif decide ((a0.Dh.length:Int)>0)then some 1 else bif decide ((a0.Ad.length:Int)>0)then some 2 else bif a0.Bz != 0 then some 3 else some 4
def Bxq:=ct (fd Tryz.func264 ⟨[.v 79],[.v 3],true⟩ gN) (A50 K)
def Azb (K:Nat)(v7:Bool)(v9:Ef):Option (Ef×Bool):=some (v9,v7)
def Awu (a0:Fi)(a2 a3:Int)(r1:Ef)(v7:Bool)(v8:Ef):Option (Ef×Bool):=if 0<=(K1 a2 a0.Du)/\(K1 a2 a0.Du)<(K1 (A1 a2 1) a0.Du)/\(K1 (A1 a2 1) a0.Du)<=r1.Fp.length then if 0<=a3/\a3<=(Ada (A1 a3 a0.Ce) a0.Du)/\(Ada (A1 a3 a0.Ce) a0.Du)<=(K1 (A1 a2 1) a0.Du) - (K1 a2 a0.Du)then if 0<(((K1 a2 a0.Du)+(Ada (A1 a3 a0.Ce) a0.Du)) - ((K1 a2 a0.Du)+a3)).toNat then bif v7 then if 0<=a2/\a2<r1.G4.length then Azb K v7 (Ef.mk (r1.Fp.take ((K1 a2 a0.Du)+a3).toNat++List.replicate (((K1 a2 a0.Du)+(Ada (A1 a3 a0.Ce) a0.Du)) - ((K1 a2 a0.Du)+a3)).toNat 0++r1.Fp.drop (((K1 a2 a0.Du)+a3).toNat+(((K1 a2 a0.Du)+(Ada (A1 a3 a0.Ce) a0.Du)) - ((K1 a2 a0.Du)+a3)).toNat)) (r1.G4.set a2.toNat 0) r1.Fq)else none else Azb K v7 (Ef.mk (r1.Fp.take ((K1 a2 a0.Du)+a3).toNat++List.replicate (((K1 a2 a0.Du)+(Ada (A1 a3 a0.Ce) a0.Du)) - ((K1 a2 a0.Du)+a3)).toNat 0++r1.Fp.drop (((K1 a2 a0.Du)+a3).toNat+(((K1 a2 a0.Du)+(Ada (A1 a3 a0.Ce) a0.Du)) - ((K1 a2 a0.Du)+a3)).toNat)) r1.G4 r1.Fq)else none else none else none
def A1r (a0:Fi)(a1:Ef)(a2 a3:Int):Option (Ef×Bool):=(Awe K a1).bind fun r1=>(A0x K a0 a1).bind fun r2=>bif r2 then(K0 K a2 0 (Ap a0.Ad 1)).bind fun r3=>bif r3 then if 0<=a2/\a2<a1.G4.length then bif (gt a1.G4 a2) != 2 then some (r1,false)else(K0 K a3 0 (Ap a0.Du 1)).bind fun r4=>bif !r4 then some (r1,false)else bif decide ((A1 a3 a0.Ce)>=a0.Du)then(Au0 K a1 a0 a2).bind fun r5=>if(0:Int)<=0/\0<=a3/\a3<=r5.length then(Aw0 K ((r5.drop (0:Int).toNat).take (a3 - 0).toNat)).bind fun r6=>bif !r6 then some (r1,false)else Awu K a0 a2 a3 r1 (decide ((A1 a3 a0.Ce)>=a0.Du)) (Ef.mk [] [] [])else none else Awu K a0 a2 a3 r1 (decide ((A1 a3 a0.Ce)>=a0.Du)) (Ef.mk [] [] [])else none else some (r1,false)else some (r1,false)
def Bou:=fk Tryz.func265 ⟨[.v 33,.v 34,.v 3,.v 3],[.n 34 true,.v 4],true⟩ (gC (Bdl K) (gC (Bny K) (gC (A41 K) (gC (Bg5 K) (gC (Bg4 K) gN))))) oN (Aqm (d:=65) (q:=Aqr tyU tab 209) (Ar8 Avb Asc) (Aqm (d:=74) (q:=Aqs tyU tab) (Ar7) Ar3)) [16,17,18,23,24,25,26,32,33,34,50,51] [31,127] [(7,[.take 110 0 6760,.take 110 1 6761,.take 110 2 6762]),(10,[.take 110 0 6760,.take 110 1 6761,.take 110 2 6762])]
def B1l:Fw:=⟨[(8,.p 108),(10,.p 110),(11,.v 4)],[(110,.st 34 true),(108,.st 34 true)]⟩
def B1m:Fw:=⟨[(2,.v 2),(3,.v 2),(4,.p 104),(8,.p 108),(10,.p 110),(11,.v 4)],[(110,.st 34 true),(108,.st 34 true),(104,.st 33 true)]⟩
def Bkr:=jn (Bou K) 127 B1l [] (fun a b _=>Azb K a b) kN
def Bov:=jn (Bou K) 31 B1m [] (fun a b c d e f=>Awu K f a b d c e) (kC (Bkr K) kN)
def Bxr:=ct (Bou K) (A1r K) (kC (Bov K) kN)
def Azt (K:Nat)(v3 v4:Ef):Option Ef:=some v3
def A4s (a0:Ef)(a1:Int):Option Ef:=(Awe K a0).bind fun r1=>(K0 K a1 0 (Ap (Ada (a0.G4.length:Int) (a0.Fq.length:Int)) 1)).bind fun r2=>bif r2 then if 0<=a1/\a1<a0.G4.length then bif (gt a0.G4 a1)==1 then if 0<=a1/\a1<r1.G4.length then if 0<=a1/\a1<r1.Fq.length then Azt K (Ef.mk r1.Fp (r1.G4.set a1.toNat 2) (r1.Fq.set a1.toNat (-1))) (Ef.mk [] [] [])else none else none else Azt K r1 (Ef.mk [] [] [])else none else Azt K r1 (Ef.mk [] [] [])
def Bus:=fd Tryz.func285 ⟨[.v 34,.v 3],[.n 34 true],true⟩ (gC (A41 K) (gC (Bg4 K) gN)) [17,18] [7] [(4,[.take 105 0 6680,.take 105 1 6681,.take 105 2 6682])]
def Bsl:=jn (Bus K) 7 Bzu [] (Azt K) kN
def Bxs:=ct (Bus K) (A4s K) (kC (Bsl K) kN)
def Ank:Nat->(List Int)->Int->Int->Int->Int->Int->Int->Int->Int->(List Int)->(List Int)->(List Int)->(List Az)->(List Bb)->(List Int)->Option Bo
 |0,_,_,_,_,_,_,_,_,_,_,_,_,_,_,_=>none
 |n1+1,v1,v2,v3,v4,v5,v6,v7,v8,v9,v10,v11,v12,v13,v14,v15=>bif decide (v3<v2)then if 0<=v3/\v3<v1.length then(A4s K (Ef.mk v10 v11 v12) (gt v1 v3)).bind fun r16=>Ank n1 v1 v2 (A1 v3 1) v4 v5 v6 v7 v8 v9 r16.Fp r16.G4 r16.Fq v13 v14 v15 else none else some (Bo.mk (Fi.mk v4 v5 v6 v7 v8 v9) (Ef.mk v10 v11 v12) v13 v14 v15)
def Ayb (a0:Bo)(a1:Int):Option Bo:=if 0<=a1/\a1<a0.fL.length then Ank K K (gt a0.fL a1).Ad (((gt a0.fL a1).Ad).length:Int) 0 a0.fC.Ad a0.fC.Du a0.fC.Cd a0.fC.Ez a0.fC.Ce a0.fC.Dv a0.fP.Fp a0.fP.G4 a0.fP.Fq a0.fL a0.fQ a0.Jp else none
def But:=fd Tryz.func204 ⟨[.b 10038 false,.v 3],[],false⟩ (gC (Bxs K) gN) [] [] [(0,[.take 1 9 5025]),(3,[.take 1 6 5022,.take 1 7 5023,.take 1 8 5024])]
def B1n:Fw:=⟨[(0,.p 1),(13,.v 25),(14,.v 2),(15,.v 2)],[(1,.box bx0)]⟩
def Bsm:=lp (But K) 6 B1n [] (Ank K) (fun n=>kN)
def Bxt:=ct (But K) (Ayb K) (kC (Bsm K K) kN)
def A7d (K:Nat)(a0:Az):Option Az:=some (Az.mk 2 a0.C7 0 0 0 0 0 0 [] 0 0 [] [])
def Bxu:=ct (fd Tryz.func206 ⟨[.v 77],[.n 77 false],true⟩ gN) (A7d K)
def A2y (a0:Az)(a1:Int):Option Bb:=(Aco K a0.Dh).bind fun r1=>(Aco K a0.Ad).bind fun r2=>some (Bb.mk a1 a0.Bz r1 r2 0)
def Bxv:=ct (fd Tryz.func203 ⟨[.v 77,.v 3],[.n 79 true],true⟩ (gC (A9l K) gN)) (A2y K)
def Azu (K:Nat)(v3:List Az):Option (List Az):=some v3
def A4t (a0:List Az)(a1 a2:Int):Option (List Az):=(Axu K a0).bind fun r1=>(Aqd K a0 a1).bind fun r2=>bif !r2 then Azu K r1 else if 0<=a1/\a1<a0.length then bif decide (((gt a0 a1).C7)>=a2)then if 0<=a1/\a1<r1.length then if 0<=a1/\a1<a0.length then if 0<=a1/\a1<r1.length then Azu K (r1.set a1.toNat (Az.mk 3 (gt a0 a1).C7 0 0 0 0 0 0 [] 0 0 [] []))else none else none else none else if 0<=a1/\a1<r1.length then if 0<=a1/\a1<a0.length then if 0<=a1/\a1<r1.length then Azu K (r1.set a1.toNat (Az.mk 0 (A1 (gt a0 a1).C7 1) 0 0 0 0 0 0 [] 0 0 [] []))else none else none else none else none
def Buu:=fd Tryz.func268 ⟨[.v 35,.v 3,.v 3],[.n 35 true],false⟩ (gC (A8h K) (gC (Bnr K) gN)) [] [7] [(2,[.opn 1007 (.tmp 1)]),(5,[.opn 1007 (.tmp 1)])]
def Bsn:=jn (Buu K) 7 Bvh [] (Azu K) kN
def Bxw:=ct (Buu K) (A4t K) (kC (Bsn K) kN)
def Au9 (v6 v7:Int)(v8 v9:Int)(v10 v11 v12:Int)(v13 v14 v15:List Int)(v16:List Az)(v17:List Bb)(v18:List Int)(v19 v20:Int)(v21 v22:Int)(v23 v24:Int)(v25 v26:Int)(v27:List Int)(v28 v29:Int)(v30:List Bn)(v31:List Int):Option Bo:=(A7d K (Az.mk v19 v20 v21 v22 v23 v24 v25 v26 v27 v28 v29 v30 v31)).bind fun r32=>if 0<=v6/\v6<v16.length then(A2y K (Az.mk v19 v20 v21 v22 v23 v24 v25 v26 v27 v28 v29 v30 v31) (A1 v6 1)).bind fun r33=>if(v17.length+1)*72<=140737488355328/\v17.length+1<=maxLen then some (Bo.mk (Fi.mk v7 v8 v9 v10 v11 v12) (Ef.mk v13 v14 v15) (v16.set v6.toNat r32) (((default:Bb)::v17).set (0:Int).toNat r33) v18)else none else none
def Awv (a0:Bo):Option Bo:=if(0:Int)<=0/\0<(a0.fQ.length:Int)then(A50 K (gt a0.fQ 0)).bind fun r1=>bif r1==1 then if 0<=(Ap (((gt a0.fQ 0).Dh).length:Int) 1)/\(Ap (((gt a0.fQ 0).Dh).length:Int) 1)<(((gt a0.fQ 0).Dh).length:Int)then if(a0.Jp++([(gt (gt a0.fQ 0).Dh (Ap (((gt a0.fQ 0).Dh).length:Int) 1))]:List Int)).length*8<=140737488355328/\(a0.Jp++([(gt (gt a0.fQ 0).Dh (Ap (((gt a0.fQ 0).Dh).length:Int) 1))]:List Int)).length<=maxLen then if(0:Int)<=0/\0<=(Ap (((gt a0.fQ 0).Dh).length:Int) 1)/\(Ap (((gt a0.fQ 0).Dh).length:Int) 1)<=(((gt a0.fQ 0).Dh).length:Int)then some (Bo.mk a0.fC a0.fP a0.fL (a0.fQ.set (0:Int).toNat (Bb.mk (gt a0.fQ 0).Be (gt a0.fQ 0).Bz (((gt a0.fQ 0).Dh).take (Ap (((gt a0.fQ 0).Dh).length:Int) 1).toNat) (gt a0.fQ 0).Ad (gt a0.fQ 0).H2)) (a0.Jp++([(gt (gt a0.fQ 0).Dh (Ap (((gt a0.fQ 0).Dh).length:Int) 1))]:List Int)))else none else none else none else bif r1==2 then if(0:Int)<=0/\0<(((gt a0.fQ 0).Ad).length:Int)then(A1r K a0.fC a0.fP (gt (gt a0.fQ 0).Ad 0) (gt a0.fQ 0).H2).bind fun r2=>bif r2.2 then if 0<(gt a0.fQ 0).Ad.length then some (Bo.mk a0.fC r2.1 a0.fL (a0.fQ.set (0:Int).toNat (Bb.mk (gt a0.fQ 0).Be (gt a0.fQ 0).Bz (gt a0.fQ 0).Dh (((gt a0.fQ 0).Ad).drop 1) 0)) a0.Jp)else none else some (Bo.mk a0.fC r2.1 a0.fL (a0.fQ.set (0:Int).toNat (Bb.mk (gt a0.fQ 0).Be (gt a0.fQ 0).Bz (gt a0.fQ 0).Dh (gt a0.fQ 0).Ad (A1 (gt a0.fQ 0).H2 a0.fC.Ce))) a0.Jp)else none else bif r1==3 then if 0<=(Ap (gt a0.fQ 0).Bz 1)/\(Ap (gt a0.fQ 0).Bz 1)<a0.fL.length then(Ayb K (Bo.mk a0.fC a0.fP a0.fL (a0.fQ.set (0:Int).toNat (Bb.mk (gt a0.fQ 0).Be (gt a0.fL (Ap (gt a0.fQ 0).Bz 1)).G6 (gt a0.fQ 0).Dh (gt a0.fQ 0).Ad (gt a0.fQ 0).H2)) a0.Jp) (Ap (gt a0.fQ 0).Bz 1)).bind fun r3=>(Aqd K r3.fL (Ap (gt a0.fL (Ap (gt a0.fQ 0).Bz 1)).G6 1)).bind fun r4=>bif r4 then if 0<=(Ap (gt a0.fL (Ap (gt a0.fQ 0).Bz 1)).G6 1)/\(Ap (gt a0.fL (Ap (gt a0.fQ 0).Bz 1)).G6 1)<r3.fL.length then Au7 (r3.fL.set (Ap (gt a0.fL (Ap (gt a0.fQ 0).Bz 1)).G6 1).toNat (Az.mk (gt r3.fL (Ap (gt a0.fL (Ap (gt a0.fQ 0).Bz 1)).G6 1)).G4 (gt r3.fL (Ap (gt a0.fL (Ap (gt a0.fQ 0).Bz 1)).G6 1)).C7 (gt r3.fL (Ap (gt a0.fL (Ap (gt a0.fQ 0).Bz 1)).G6 1)).Nb (gt r3.fL (Ap (gt a0.fL (Ap (gt a0.fQ 0).Bz 1)).G6 1)).fUp (gt r3.fL (Ap (gt a0.fL (Ap (gt a0.fQ 0).Bz 1)).G6 1)).G5 (gt r3.fL (Ap (gt a0.fL (Ap (gt a0.fQ 0).Bz 1)).G6 1)).Bz (gt r3.fL (Ap (gt a0.fL (Ap (gt a0.fQ 0).Bz 1)).G6 1)).G6 0 (gt r3.fL (Ap (gt a0.fL (Ap (gt a0.fQ 0).Bz 1)).G6 1)).Ad (gt r3.fL (Ap (gt a0.fL (Ap (gt a0.fQ 0).Bz 1)).G6 1)).No (gt r3.fL (Ap (gt a0.fL (Ap (gt a0.fQ 0).Bz 1)).G6 1)).G8 (gt r3.fL (Ap (gt a0.fL (Ap (gt a0.fQ 0).Bz 1)).G6 1)).D5 (gt r3.fL (Ap (gt a0.fL (Ap (gt a0.fQ 0).Bz 1)).G6 1)).Dh)) fun v5=>Au9 K (Ap (gt a0.fQ 0).Bz 1) r3.fC.Ad r3.fC.Du r3.fC.Cd r3.fC.Ez r3.fC.Ce r3.fC.Dv r3.fP.Fp r3.fP.G4 r3.fP.Fq v5 r3.fQ r3.Jp (gt a0.fL (Ap (gt a0.fQ 0).Bz 1)).G4 (gt a0.fL (Ap (gt a0.fQ 0).Bz 1)).C7 (gt a0.fL (Ap (gt a0.fQ 0).Bz 1)).Nb (gt a0.fL (Ap (gt a0.fQ 0).Bz 1)).fUp (gt a0.fL (Ap (gt a0.fQ 0).Bz 1)).G5 (gt a0.fL (Ap (gt a0.fQ 0).Bz 1)).Bz (gt a0.fL (Ap (gt a0.fQ 0).Bz 1)).G6 (gt a0.fL (Ap (gt a0.fQ 0).Bz 1)).G7 (gt a0.fL (Ap (gt a0.fQ 0).Bz 1)).Ad (gt a0.fL (Ap (gt a0.fQ 0).Bz 1)).No (gt a0.fL (Ap (gt a0.fQ 0).Bz 1)).G8 (gt a0.fL (Ap (gt a0.fQ 0).Bz 1)).D5 (gt a0.fL (Ap (gt a0.fQ 0).Bz 1)).Dh else none else Au9 K (Ap (gt a0.fQ 0).Bz 1) r3.fC.Ad r3.fC.Du r3.fC.Cd r3.fC.Ez r3.fC.Ce r3.fC.Dv r3.fP.Fp r3.fP.G4 r3.fP.Fq r3.fL r3.fQ r3.Jp (gt a0.fL (Ap (gt a0.fQ 0).Bz 1)).G4 (gt a0.fL (Ap (gt a0.fQ 0).Bz 1)).C7 (gt a0.fL (Ap (gt a0.fQ 0).Bz 1)).Nb (gt a0.fL (Ap (gt a0.fQ 0).Bz 1)).fUp (gt a0.fL (Ap (gt a0.fQ 0).Bz 1)).G5 (gt a0.fL (Ap (gt a0.fQ 0).Bz 1)).Bz (gt a0.fL (Ap (gt a0.fQ 0).Bz 1)).G6 (gt a0.fL (Ap (gt a0.fQ 0).Bz 1)).G7 (gt a0.fL (Ap (gt a0.fQ 0).Bz 1)).Ad (gt a0.fL (Ap (gt a0.fQ 0).Bz 1)).No (gt a0.fL (Ap (gt a0.fQ 0).Bz 1)).G8 (gt a0.fL (Ap (gt a0.fQ 0).Bz 1)).D5 (gt a0.fL (Ap (gt a0.fQ 0).Bz 1)).Dh else none else bif decide (((gt a0.fQ 0).Be)>0)then(A4t K a0.fL (Ap (gt a0.fQ 0).Be 1) a0.fC.Dv).bind fun r34=>if 0<(a0.fQ.set (0:Int).toNat (gt a0.fQ 0)).length then some (Bo.mk a0.fC a0.fP r34 ((a0.fQ.set (0:Int).toNat (gt a0.fQ 0)).drop 1) a0.Jp)else none else if 0<a0.fQ.length then some (Bo.mk a0.fC a0.fP a0.fL (a0.fQ.drop 1) a0.Jp)else none else none
def Buv:=fk Tryz.func171 ⟨[.b 10038 false],[],false⟩ (gC (A8h K) (gC (Bxv K) (gC (Bxt K) (gC (Bxu K) (gC (Bxq K) (gC (Bxr K) (gC (Bxw K) gN))))))) oN (Aqm (d:=45) (q:=Aqo tyU tab 269 5) (Ar4 Avb Asa) (Aqm (d:=128) (q:=Aqo tyU tab 266 1) (Ar4 Avb Ar9) (Aqm (d:=189) (q:=Aqt tyU tab) (Ar6 Avb) (Aqm (d:=190) (q:=Aqp tyU tab 267 5 72) (Ar5 Avb Asb) Ar3)))) [] [15343] [(0,[.take 1 10 5026]),(1,[.opp 5026 2,.takeE 5026 2 41666,.takeE 5026 3 41667]),(3,[.take 1 9 5025,.frz 5025]),(4,[.put 5026]),(7,[.take 1 11 5027]),(10,[.take 1 6 5022,.take 1 7 5023,.take 1 8 5024]),(17,[.take 1 9 5025]),(19,[.put 1]),(20,[.take 1 9 5025]),(22,[.take 1 9 5025]),(23,[.take 1 10 5026])] [(78,[.cut 78])]
def B1o:Fw:=⟨[(0,.p 1),(6,.v 2),(7,.p 107)],[(1,.box bx0),(107,.box bx4)]⟩
def Bff:=jn (Buv K) 15343 B1o [] (Au9 K) kN
def Bow:=ct (Buv K) (Awv K) (kC (Bff K) kN)
def Ak5 (a0:Bo):Option (Bo×Bool):=(Axv K a0).bind fun r1=>(Aus K a0).bind fun r2=>bif r2 then bif (a0.fQ.length:Int)==0 then some (r1,false)else(Awv K r1).bind fun r3=>some (r3,true)else some (r1,false)
def Bxx:=ct (fd Tryz.func55 ⟨[.v 38],[.v 38,.v 4],false⟩ (gC (Bhb K) (gC (Bnt K) (gC (Bow K) gN))) [8,9,10] [] [(4,[.put 104,.take 104 9 6673,.shal 6673,.put 104]),(5,[.take 104 6 6670,.take 104 7 6671,.take 104 8 6672,.take 104 9 6673,.take 104 10 6674,.take 104 11 6675])]) (Ak5 K)
def Ax2 (a0:Bo):Option (Bo×Bool):=(Ap6 K a0).bind fun r1=>(Asq K a0).bind fun r2=>bif r2 then bif (a0.fQ.length:Int)==0 then some (r1,false)else(Auq K r1).bind fun r3=>some (r3,true)else some (r1,false)
def Bxy:=ct (fd Tryz.func56 ⟨[.v 38],[.n 38 false,.v 4],false⟩ (gC (A9k K) (gC (Ba3 K) (gC (Bmm K) gN))) [8,9,10] [] [(4,[.put 104,.take 104 10 6674,.shal 6674,.put 104]),(5,[.take 104 6 6670,.take 104 7 6671,.take 104 8 6672,.take 104 9 6673,.take 104 10 6674,.take 104 11 6675])]) (Ax2 K)
def A51 (K:Nat):Option Bool:=some true
def Bxz:=ct (fd Tryz.func167 ⟨[],[.v 4],true⟩ gN) (A51 K)
def Aig (a1:Int):Nat->Int->Int->Int->Int->Int->Int->Int->(List Int)->(List Int)->(List Int)->(List Az)->(List Bb)->(List Int)->Option (Int×Bo)
 |0,_,_,_,_,_,_,_,_,_,_,_,_,_=>none
 |n1+1,v1,v2,v3,v4,v5,v6,v7,v8,v9,v10,v11,v12,v13=>bif decide (v1<a1)then bif decide ((v12.length:Int)>0)then(A51 K).bind fun r14=>bif r14 then(Awv K (Bo.mk (Fi.mk v2 v3 v4 v5 v6 v7) (Ef.mk v8 v9 v10) v11 v12 v13)).bind fun r15=>Aig a1 n1 (A1 v1 1) r15.fC.Ad r15.fC.Du r15.fC.Cd r15.fC.Ez r15.fC.Ce r15.fC.Dv r15.fP.Fp r15.fP.G4 r15.fP.Fq r15.fL r15.fQ r15.Jp else some (v1,(Bo.mk (Fi.mk v2 v3 v4 v5 v6 v7) (Ef.mk v8 v9 v10) v11 v12 v13))else some (v1,(Bo.mk (Fi.mk v2 v3 v4 v5 v6 v7) (Ef.mk v8 v9 v10) v11 v12 v13))else some (v1,(Bo.mk (Fi.mk v2 v3 v4 v5 v6 v7) (Ef.mk v8 v9 v10) v11 v12 v13))
def Aui (a0:Bo)(a1:Int):Option (Int×Bo):=Aig K a1 K 0 a0.fC.Ad a0.fC.Du a0.fC.Cd a0.fC.Ez a0.fC.Ce a0.fC.Dv a0.fP.Fp a0.fP.G4 a0.fP.Fq a0.fL a0.fQ a0.Jp
def Buw:=fd Tryz.func161 ⟨[.b 10038 false,.v 3,.f 167 [] []],[.v 3],false⟩ (gC (Bxz K) (gC (Bow K) gN)) [10,11,17,18,19] [] [(2,[.take 1 10 5026]),(3,[.put 1])]
def B1p:Fw:=⟨[(0,.p 1),(1,.v 2),(2,.f 167 [] []),(7,.v 2)],[(1,.box bx0)]⟩
def Box:=lp (Buw K) 28 B1p [] (fun n a=>Aig K a n) (fun n=>kN)
def Bx0:=ct (Buw K) (Aui K) (kC (Box K K) kN)
def Ax3 (a0:Bo)(a1:Int):Option (Bo×Int):=(Axv K a0).bind fun r1=>(Aus K a0).bind fun r2=>bif r2 then(K0 K a1 0 4000).bind fun r3=>bif !r3 then some (r1,0)else(Aui K r1 a1).bind fun r4=>some (r4.2,r4.1)else some (r1,0)
def Bx1:=ct (fd Tryz.func57 ⟨[.v 38,.v 3],[.v 38,.v 3],false⟩ (gC (Bhb K) (gC (A41 K) (gC (Bnt K) (gC (Bx0 K) gN)))) [11,12,13] [] [(4,[.put 106,.take 106 9 6705,.shal 6705,.put 106]),(5,[.take 106 6 6702,.take 106 7 6703,.take 106 8 6704,.take 106 9 6705,.take 106 10 6706,.take 106 11 6707])]) (Ax3 K)
def Ax4 (a0:Bo)(a1:Int):Option (Bo×Int):=(Ap6 K a0).bind fun r1=>(Asq K a0).bind fun r2=>bif r2 then(F2 K a1 0 4000).bind fun r3=>bif !r3 then some (r1,0)else(Avz K r1 a1).bind fun r4=>some (r4.2,r4.1)else some (r1,0)
def Bx2:=ct (fd Tryz.func58 ⟨[.v 38,.v 3],[.n 38 false,.v 3],false⟩ (gC (A9k K) (gC (Ba3 K) (gC (Biv K) (gC (A5f K) gN)))) [11,12,13] [] [(4,[.put 106,.take 106 10 6706,.shal 6706]),(5,[.take 106 6 6702,.take 106 7 6703,.take 106 8 6704,.take 106 9 6705,.take 106 10 6706,.take 106 11 6707])] [(19,[.put 106])]) (Ax4 K)
def A3x (K:Nat)(a0 a1:List Int):Nat->Int->Option Bool
 |0,_=>none
 |n1+1,v1=>bif decide (v1<a0.length)then if 0<=v1/\v1<a0.length then if 0<=v1/\v1<a1.length then bif (gt a0 v1) != (gt a1 v1)then some false else A3x K a0 a1 n1 (A1 v1 1)else none else none else some true
def A5m (a0 a1:List Int):Option Bool:=bif (a0.length:Int) != (a1.length:Int)then some false else A3x K a0 a1 K 0
def Bux:=fd Tryz.func232 ⟨[.v 24,.v 24],[.v 4],true⟩ gN
def B1q:Fw:=⟨[(0,.v 24),(1,.v 24),(5,.v 2)],[]⟩
def Boy:=lp Bux 58 B1q [] (fun n a b=>A3x K a b n) (fun n=>kN)
def Bx3:=ct Bux (A5m K) (kC (Boy K K) kN)
def Azc (K:Nat)(a0 a1:List Int):Nat->Int->Option Bool
 |0,_=>none
 |n1+1,v1=>bif decide (v1<a0.length)then if 0<=v1/\v1<a0.length then if 0<=v1/\v1<a1.length then bif (gt a0 v1) != (gt a1 v1)then some false else Azc K a0 a1 n1 (A1 v1 1)else none else none else some true
def Ao4 (a0 a1:List Int):Option Bool:=bif (a0.length:Int) != (a1.length:Int)then some false else Azc K a0 a1 K 0
def Buy:=fd Tryz.func44 ⟨[.v 25,.v 25],[.v 4],true⟩ gN
def B1r:Fw:=⟨[(0,.v 25),(1,.v 25),(5,.v 2)],[]⟩
def Boz:=lp Buy 58 B1r [] (fun n a b=>Azc K a b n) (fun n=>kN)
def Bdo:=ct Buy (Ao4 K) (kC (Boz K K) kN)
def A1s (a0 a1:Ef):Option Bool:=(A5m K a0.Fp a1.Fp).bind fun r1=>bif r1 then(Ao4 K a0.G4 a1.G4).bind fun r2=>bif r2 then(Ao4 K a0.Fq a1.Fq).bind fun r3=>some r3 else some false else some false
def Bx4:=ct (fd Tryz.func133 ⟨[.v 34,.v 34],[.v 4],true⟩ (gC (Bdo K) (gC (Bx3 K) gN)) [9,10,15,16,17]) (A1s K)
def Au1 (K:Nat):Nat->Int->Int->Int->Int->Int->Int->Int->Int->Int->(List Int)->Int->Int->(List Bn)->(List Int)->Int->Int->Int->Int->Int->Int->Int->Int->(List Int)->Int->Int->(List Bn)->(List Int)->Option Bool
 |0,_,_,_,_,_,_,_,_,_,_,_,_,_,_,_,_,_,_,_,_,_,_,_,_,_,_,_=>none
 |n1+1,v3,v4,v5,v6,v7,v8,v9,v10,v11,v12,v13,v14,v15,v16,v17,v18,v19,v20,v21,v22,v23,v24,v25,v26,v27,v28,v29=>bif decide (v3<v28.length)then if 0<=v3/\v3<v28.length then if 0<=v3/\v3<v15.length then bif !(((gt v28 v3).fAt==(gt v15 v3).fAt)&&(((gt v28 v3).Yg==(gt v15 v3).Yg)&&(((gt v28 v3).Yh==(gt v15 v3).Yh)&&true)))then some false else Au1 K n1 (A1 v3 1) v4 v5 v6 v7 v8 v9 v10 v11 v12 v13 v14 v15 v16 v17 v18 v19 v20 v21 v22 v23 v24 v25 v26 v27 v28 v29 else none else none else some true
def A1t (a0 a1:Az):Option Bool:=bif a0.G4 != a1.G4 then some false else bif a0.C7 != a1.C7 then some false else bif a0.Nb != a1.Nb then some false else bif a0.fUp != a1.fUp then some false else bif a0.G5 != a1.G5 then some false else bif a0.Bz != a1.Bz then some false else bif a0.G6 != a1.G6 then some false else bif a0.G7 != a1.G7 then some false else(Ao4 K a0.Ad a1.Ad).bind fun r1=>bif r1 then bif a0.No != a1.No then some false else bif a0.G8 != a1.G8 then some false else bif (a0.D5.length:Int) != (a1.D5.length:Int)then some false else(Ao4 K a0.Dh a1.Dh).bind fun r2=>bif !r2 then some false else Au1 K K 0 a1.G4 a1.C7 a1.Nb a1.fUp a1.G5 a1.Bz a1.G6 a1.G7 a1.Ad a1.No a1.G8 a1.D5 a1.Dh a0.G4 a0.C7 a0.Nb a0.fUp a0.G5 a0.Bz a0.G6 a0.G7 a0.Ad a0.No a0.G8 a0.D5 a0.Dh else some false
def Buz:=fd Tryz.func233 ⟨[.v 77,.v 77],[.v 4],true⟩ (gC (Bdo K) gN) [10,11,16,17,18,23,24,25,30,31,32,37,38,39,44,45,46,51,52,53,58,59,60,65,66,67,68,73,74,75,80,81,82,89,90,91]
def B1s:Fw:=⟨[(2,.p 102),(3,.p 103),(5,.v 2)],[(103,.box bx4),(102,.box bx4)]⟩
def Bo0:=lp (Buz K) 58 B1s [] (Au1 K) (fun n=>kN)
def Bx5:=ct (Buz K) (A1t K) (kC (Bo0 K K) kN)
def Auj (a0 a1:List Az):Nat->Int->Option Bool
 |0,_=>none
 |n1+1,v1=>bif decide (v1<a0.length)then if 0<=v1/\v1<a0.length then if 0<=v1/\v1<a1.length then(A1t K (gt a0 v1) (gt a1 v1)).bind fun r2=>bif !r2 then some false else Auj a0 a1 n1 (A1 v1 1)else none else none else some true
def A0f (a0 a1:List Az):Option Bool:=bif (a0.length:Int) != (a1.length:Int)then some false else Auj K a0 a1 K 0
def Bu0:=fd Tryz.func134 ⟨[.v 35,.v 35],[.v 4],true⟩ (gC (Bx5 K) gN)
def B1t:Fw:=⟨[(0,.v 35),(1,.v 35),(5,.v 2)],[]⟩
def Bo1:=lp (Bu0 K) 58 B1t [] (fun n a b=>Auj K a b n) (fun n=>kN)
def Bx6:=ct (Bu0 K) (A0f K) (kC (Bo1 K K) kN)
def A0g (a0 a1:Bb):Option Bool:=bif a0.Be==a1.Be then bif a0.Bz==a1.Bz then(Ao4 K a0.Dh a1.Dh).bind fun r1=>bif r1 then(Ao4 K a0.Ad a1.Ad).bind fun r2=>bif r2 then some (a0.H2==a1.H2)else some false else some false else some false else some false
def Bx7:=ct (fd Tryz.func135 ⟨[.v 79,.v 79],[.v 4],true⟩ (gC (Bdo K) gN) [9,10,15,16,17,22,23,24,29,30,31]) (A0g K)
def Auk:Nat->Int->Int->Int->Int->Int->Int->Int->(List Int)->(List Int)->(List Int)->(List Az)->(List Bb)->(List Int)->Int->Int->Int->Int->Int->Int->(List Int)->(List Int)->(List Int)->(List Az)->(List Bb)->(List Int)->Option Bool
 |0,_,_,_,_,_,_,_,_,_,_,_,_,_,_,_,_,_,_,_,_,_,_,_,_,_=>none
 |n1+1,v4,v5,v6,v7,v8,v9,v10,v11,v12,v13,v14,v15,v16,v17,v18,v19,v20,v21,v22,v23,v24,v25,v26,v27,v28=>bif decide (v4<v27.length)then if 0<=v4/\v4<v27.length then if 0<=v4/\v4<v15.length then(A0g K (gt v27 v4) (gt v15 v4)).bind fun r29=>bif !r29 then some false else Auk n1 (A1 v4 1) v5 v6 v7 v8 v9 v10 v11 v12 v13 v14 v15 v16 v17 v18 v19 v20 v21 v22 v23 v24 v25 v26 v27 v28 else none else none else some true
def Alc (a0 a1:Bo):Option Bool:=bif !((a0.fC.Ad==a1.fC.Ad)&&((a0.fC.Du==a1.fC.Du)&&((a0.fC.Cd==a1.fC.Cd)&&((a0.fC.Ez==a1.fC.Ez)&&((a0.fC.Ce==a1.fC.Ce)&&((a0.fC.Dv==a1.fC.Dv)&&true))))))then some false else(A1s K a0.fP a1.fP).bind fun r1=>bif r1 then(A0f K a0.fL a1.fL).bind fun r2=>bif r2 then bif (a0.fQ.length:Int) != (a1.fQ.length:Int)then some false else(Ao4 K a0.Jp a1.Jp).bind fun r3=>bif !r3 then some false else Auk K K 0 a1.fC.Ad a1.fC.Du a1.fC.Cd a1.fC.Ez a1.fC.Ce a1.fC.Dv a1.fP.Fp a1.fP.G4 a1.fP.Fq a1.fL a1.fQ a1.Jp a0.fC.Ad a0.fC.Du a0.fC.Cd a0.fC.Ez a0.fC.Ce a0.fC.Dv a0.fP.Fp a0.fP.G4 a0.fP.Fq a0.fL a0.fQ a0.Jp else some false else some false
def Bu1:=fd Tryz.func38 ⟨[.v 38,.v 38],[.v 4],true⟩ (gC (Bdo K) (gC (Bx4 K) (gC (Bx6 K) (gC (Bx7 K) gN)))) [10,11,16,17,18,19,24,25,26,27,34,35,36]
def B1u:Fw:=⟨[(2,.p 102),(3,.p 103),(5,.v 2)],[(103,.box bx6),(102,.box bx6)]⟩
def Bo2:=lp (Bu1 K) 58 B1u [] (Auk K) (fun n=>kN)
def Bx8:=ct (Bu1 K) (Alc K) (kC (Bo2 K K) kN)
def Aut (K:Nat)(a0:Bo):Option Bool:=some ((a0.fQ.length:Int)==0)
def Bx9:=ct (fd Tryz.func59 ⟨[.v 38],[.v 4],true⟩ gN) (Aut K)
def A2z (K:Nat)(a0:Bo):Option Bool:=some ((a0.fQ.length:Int)==0)
def Bya:=ct (fd Tryz.func60 ⟨[.v 38],[.v 4],true⟩ gN) (A2z K)
def A1u (a0:List Int):Option Bool:=(A8f K a0).bind fun r1=>bif r1 then some true else(A0c K a0).bind fun r2=>(Awp K a0).bind fun r3=>(Awq K a0).bind fun r4=>(Ak5 K r2.1).bind fun r5=>(Ak5 K r3).bind fun r6=>(Ax2 K r3).bind fun r7=>(Ax3 K r4.1 r4.2).bind fun r8=>(Ax4 K r4.1 r4.2).bind fun r9=>(Alc K r6.1 r7.1).bind fun r10=>bif r10 then bif !(r6.2==r7.2)then some false else(Alc K r8.1 r9.1).bind fun r11=>bif r11 then bif r8.2 != r9.2 then some false else(Aut K r3).bind fun r12=>(A2z K r3).bind fun r13=>bif !(r12==r13)then some false else bif !r5.2 then(Alc K r5.1 r2.1).bind fun r14=>bif r14 then(Aut K r2.1).bind fun r15=>some r15 else some false else(Aus K r5.1).bind fun r16=>bif r16 then bif decide ((r2.1.fQ.length:Int)>0)then some (decide ((r5.1.Jp.length:Int)>=r2.1.Jp.length))else some false else some false else some false else some false
def Byb:=ct (fd Tryz.func7 ⟨[.v 24],[.v 4],true⟩ (gC (B2c K) (gC (Bv9 K) (gC (Bhb K) (gC (Bx8 K) (gC (Bwi K) (gC (Bwj K) (gC (Bxx K) (gC (Bxy K) (gC (Bx1 K) (gC (Bx2 K) (gC (Bx9 K) (gC (Bya K) gN)))))))))))) [61,62,63,66,67,68,71,72,73,74,77,78,79,90,91,96,97,101,102,103] [] [(6,[.frz 20704,.frz 20705,.frz 20706,.frz 20707,.frz 20708,.frz 20709])]) (A1u K)
end
end Go.Proofs.YtgcnddnmhllahaaGreat
