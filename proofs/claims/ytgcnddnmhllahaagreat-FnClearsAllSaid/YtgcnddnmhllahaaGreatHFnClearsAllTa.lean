/- What the functions compute that FnClearsAll reaches, and that they do; no condition. Printed by gen4.py. -/
import Derived.Test.YtgcnddnmhllahaaGreatHKit
set_option linter.all false
set_option maxRecDepth 20000
namespace Go.Proofs.YtgcnddnmhllahaaGreat
open Go.Eng
noncomputable section
def A1 (a b:Int):Int:=Lc .i64 a b
def Ap (a b:Int):Int:=Asu .i64 a b
def P2 (a b:Int):Int:=Ew .i64 a b
def bx0:List T6:=[.v 2,.v 2,.v 2,.v 2,.v 2,.v 2,.T 5 true,.T 3 true,.T 3 true,.T 77 false,.T 79 true,.T 3 true]
def bx1:List T6:=[.v 2,.v 2,.v 2,.v 2,.v 2,.v 2,.T 5 true,.T 3 true,.T 3 true,.T 77 true,.T 79 false,.T 3 true]
def bx4:List T6:=[.v 2,.v 2,.v 2,.v 2,.v 2,.v 2,.v 2,.v 2,.v 25,.v 2,.v 2,.v 75,.v 25]
def bx5:List T6:=[.v 2,.v 2,.v 2,.v 2,.v 2,.v 2,.v 2,.v 24,.v 2,.v 2,.v 2]
def bx6:List T6:=[.v 2,.v 2,.v 2,.v 2,.v 2,.v 2,.v 24,.v 25,.v 25,.v 35,.v 36,.v 25]
def bx7:List T6:=[.v 2,.v 2,.v 25,.v 25,.v 2]
def bx8:List T6:=[.v 24,.v 2,.v 2]
def bx9:List T6:=[.v 24,.v 25,.v 25]
abbrev PT (h:Fw):Type:=Am tyU h.codes
abbrev Rt (s:Sig):Type:=Option (A7 tyU s.codes)
def FnP (R:Type):List TC->Type
 |[]=>R
 |c::l=>c.T tyU->FnP R l
noncomputable def unc{R:Type}:(l:List TC)->FnP R l->Am tyU l->R
 |[],f,_=>f
 |_::l,f,q=>unc l (f q.1) q.2
abbrev CT (h:Fw)(s:Sig):Type:=FnP (Rt s) h.codes
noncomputable abbrev ar{s:Sig}(h:Fw)(M:CT h s):SS Ag->Rt s:=arr tyU tab h (unc h.codes M)
abbrev OkF (f:FuncId)(c:G3 tyU):Prop:=G3.Ok tyU Tryz.prog f c/\Eu Tryz.prog f
theorem B4i:Tryz.prog.follows .mixedOrders=true:=by kernel_rfl
structure FD (f:FuncId)(s:Sig) where
 fn:Func
 hf:Tryz.prog.funcs[f]? =some fn
 G:List (Nat×G3 tyU)
 g: ∀f c,lk G f=some c->OkF f c
 O:List (Nat×List (Nat×G3 tyU))
 o: ∀d l,lk O d=some l-> ∀f c,lk l f=some c->OkF f c
 kp:List (Nat×(SS Ag->List Oper->Oper->(Ai Ag->Rt s)->Rt s))
 kk: ∀d q,lk kp d=some q->KOk tyU tab Tryz.prog q
 spl:List Nat
 js:List Nat
 pre:List (Nat×List Cmd)
 post:List (Nat×List Cmd)
noncomputable abbrev fo{f:FuncId}{fn:Func}(hf:Tryz.prog.funcs[f]? =some fn)(s:Sig){G:List (Nat×G3 tyU)}(g: ∀f c,lk G f=some c->OkF f c){O:List (Nat×List (Nat×G3 tyU))}(o: ∀d l,lk O d=some l-> ∀f c,lk l f=some c->OkF f c)(spl:List Nat:=[])(js:List Nat:=[])(pre:List (Nat×List Cmd):=[])(post:List (Nat×List Cmd):=[]):FD f s:=⟨fn,hf,G,g,O,o,[],Ar3 (U:=tyU) (T:=tab) (P:=Tryz.prog),spl,js,pre,post⟩
noncomputable abbrev fd{f:FuncId}{fn:Func}(hf:Tryz.prog.funcs[f]? =some fn)(s:Sig){G:List (Nat×G3 tyU)}(g: ∀f c,lk G f=some c->OkF f c)(spl:List Nat:=[])(js:List Nat:=[])(pre:List (Nat×List Cmd):=[])(post:List (Nat×List Cmd):=[]):FD f s:=⟨fn,hf,G,g,[],oN,[],Ar3 (U:=tyU) (T:=tab) (P:=Tryz.prog),spl,js,pre,post⟩
noncomputable abbrev fk{f:FuncId}{fn:Func}(hf:Tryz.prog.funcs[f]? =some fn)(s:Sig){G:List (Nat×G3 tyU)}(g: ∀f c,lk G f=some c->OkF f c){O:List (Nat×List (Nat×G3 tyU))}(o: ∀d l,lk O d=some l-> ∀f c,lk l f=some c->OkF f c){kp:List (Nat×(SS Ag->List Oper->Oper->(Ai Ag->Rt s)->Rt s))}(kk: ∀d q,lk kp d=some q->KOk tyU tab Tryz.prog q)(spl:List Nat:=[])(js:List Nat:=[])(pre:List (Nat×List Cmd):=[])(post:List (Nat×List Cmd):=[]):FD f s:=⟨fn,hf,G,g,O,o,kp,kk,spl,js,pre,post⟩
section
variable {f:FuncId} {s:Sig}
noncomputable abbrev FD.b (X:FD f s):Code:=X.fn.body.getD .skip
noncomputable def FD.x (X:FD f s)(L B:Λt tyU s):Ox tyU (A7 tyU s.codes):=⟨X.G,X.O,eqT eqs,X.fn.ntmps,X.spl,X.pre,X.post,X.js,L,B,Aiu tyU tab s X.fn.results.toList,X.kp⟩
abbrev CuX (X:FD f s):Λt tyU s->Nat->(SS Ag->Rt s)->Prop:=Cut tyU tab Tryz.prog X.fn.results.toList s X.fn.ntmps X.js X.b
abbrev CsX (X:FD f s):Λt tyU s->Λt tyU s->Prop:=Ye tyU tab Tryz.prog X.fn.results.toList s X.fn.ntmps X.js X.b
theorem xo (X:FD f s):XOk tyU tab Tryz.prog X.fn.results.toList s X.fn.ntmps X.js X.x:=xok Avb B4i X.g X.o Aud X.kk
theorem lp (X:FD f s)(p:Nat)(h:Fw)(B:Λt tyU s)(M:Nat->CT h s){L:Nat->Λt tyU s}(hc: ∀n,CsX X ((p,ar h (M n))::B) (L n))(e: ∀n q,unc h.codes (M (n+1)) q=Ais tyU tab (X.x (L n) ((p,ar h (M n))::B)) X.b (2*p) (h.emb tyU q):=by intro n q;kernel_rfl)(hp:Nat.ble 1 p=true:=by rfl)(hk:Vi X.js X.b p=true:=by kernel_rfl)(e0: ∀q,unc h.codes (M 0) q=none:=by intro q;rfl)(n:Nat):CuX X B p (ar h (M n)):=Aql (M:=fun n=>unc h.codes (M n)) (xo X) hp hk e0 e hc n
theorem jn (X:FD f s)(p:Nat)(h:Fw)(B:Λt tyU s)(M:CT h s){L:Λt tyU s}(hc:CsX X B L)(e: ∀q,unc h.codes M q=Ais tyU tab (X.x L B) X.b (2*p+1) (h.emb tyU q):=by intro q;kernel_rfl)(hp:Nat.ble 1 p=true:=by rfl):CuX X B p (ar h M):=Aqk (xo X) hp e hc
theorem up{X:FD f s}{B:Λt tyU s}{p x:Nat}{F G:SS Ag->Rt s}(h:CuX X B p F)(hn:Aqn X.js X.b p x=true:=by kernel_rfl):CuX X ((x,G)::B) p F:=Atl hn h
theorem ct (X:FD f s)(m:Y8 tyU s.ps (Rt s)){L:Λt tyU s}(hc:CsX X [] L:=by exact kN)(e:Xj tyU tab (X.x L []) X.b s.ps 0 [] [] m:=by(repeat intro _);show @Eq _ _ _;kernel_rfl)(hs:Zx tyU s.ps:=by(repeat (refine⟨fun _=>rfl,?_⟩));exact trivial)(h1:(X.fn.name== "runtime.NumGoroutine")=false:=by rfl)(h2:X.fn.body=some X.b:=by rfl)(h5:Nat.ble s.ps.length X.fn.ntmps=true:=by rfl)(h6:Nat.ble (Bt s.ps+1) 100=true:=by rfl)(h7:Nat.ble X.fn.results.toList.length 4=true:=by rfl):OkF f ⟨s,m⟩:=Atk (xo X) Af5 e hc X.hf h1 h2 (Array.toArray_toList).symm rfl h5 h6 h7 hs
end
variable (K:Nat)
def A81 (K:Nat)(a0:List Int):Option Bool:=some (decide ((a0.length:Int)>1048576))
def B4k:=ct (fd Tryz.func22 ⟨[.v 24],[.v 4],true⟩ gN) (A81 K)
def Azn (K:Nat)(a0:List Int):Nat->Int->Int->Option E2
 |0,_,_=>none
 |n1+1,v1,v2=>bif decide (v2<a0.length)then bif decide (v2<4000)then if 0<=v2/\v2<a0.length then Azn K a0 n1 (Asv .i64 (A1 (A1 (P2 v1 137) (IntKind.i64.wrap (gt a0 v2))) 11) 1073741823) (A1 v2 1)else none else some (E2.mk a0 0 v1)else some (E2.mk a0 0 v1)
def A2p (a0:List Int):Option E2:=Azn K a0 K (A1 161416 a0.length) 0
def X_1:=fd Tryz.func111 ⟨[.v 24],[.p 171 false],false⟩ gN [11,12]
def h_0:Fw:=⟨[(0,.v 24),(3,.v 2),(4,.v 2)],[]⟩
def Bw8:=lp X_1 58 h_0 [] (fun n a=>Azn K a n) (fun n=>kN)
def B06:=ct X_1 (A2p K) (kC (Bw8 K K) kN)
def A04 (K:Nat)(a0:List Int)(a1:Int):Option Int:=if 12≠(0:Int)then bif decide ((A1 3 (Apq .i64 (a0.length:Int) 12))>a1)then some a1 else some (A1 3 (Apq .i64 (a0.length:Int) 12))else none
def B4l:=ct (fd Tryz.func113 ⟨[.v 24,.v 3],[.v 3],true⟩ gN) (A04 K)
def A1k (K:Nat)(v1:Int)(v2:List Int)(v3 v4:Int):Option (Int×E2):=some (v1,(E2.mk v2 v3 v4))
def Avn (a0:E2):Option (Int×E2):=if(0:Int)<=33 then if(0:Int)<=47 then bif decide (a0.fi<a0.fb.length)then if 0<=a0.fi/\a0.fi<a0.fb.length then A1k K (Asv .i64 (A1 (Asv .i64 (Asw .i64 (App .i64 (A1 (P2 a0.fh 6364136223846793005) 1442695040888963407) 33) (App .i64 (A1 (P2 a0.fh 6364136223846793005) 1442695040888963407) 47)) 255) (IntKind.i64.wrap (gt a0.fb a0.fi))) 255) a0.fb (A1 a0.fi 1) (A1 (P2 a0.fh 6364136223846793005) 1442695040888963407)else none else A1k K (Asv .i64 (Asw .i64 (App .i64 (A1 (P2 a0.fh 6364136223846793005) 1442695040888963407) 33) (App .i64 (A1 (P2 a0.fh 6364136223846793005) 1442695040888963407) 47)) 255) a0.fb a0.fi (A1 (P2 a0.fh 6364136223846793005) 1442695040888963407)else none else none
def X_3:=fd Tryz.func229 ⟨[.b 171 false],[.v 3],false⟩ gN [] [15]
def h_1:Fw:=⟨[(3,.v 2)],[(1,.box bx8)]⟩
def Bw9:=jn X_3 15 h_1 [] (A1k K) kN
def B07:=ct X_3 (Avn K) (kC (Bw9 K) kN)
def A4 (a0:E2)(a1:Int):Option (Int×E2):=bif decide (a1<=0)then some (0,a0)else bif decide (a1<=256)then(Avn K a0).bind fun r1=>if a1≠(0:Int)then some ((Int.tmod r1.1 a1),r1.2)else none else(Avn K a0).bind fun r2=>(Avn K r2.2).bind fun r3=>(Avn K r3.2).bind fun r4=>if a1≠(0:Int)then some ((Int.tmod (A1 (A1 (P2 r2.1 65536) (P2 r3.1 256)) r4.1) a1),r4.2)else none
def A82:=ct (fd Tryz.func131 ⟨[.b 171 false,.v 3],[.v 3],false⟩ (gC (B07 K) gN)) (A4 K)
def V1 (a0:E2)(a1:List Int):Option (Int×E2×(List Int)):=(A4 K a0 (a1.length:Int)).bind fun r1=>if 0<=r1.1/\r1.1<a1.length then some ((gt a1 r1.1),r1.2,a1)else none
def Bf2:=ct (fd Tryz.func170 ⟨[.b 171 false,.w 25 true [(3,true)]],[.v 3],false⟩ (gC (A82 K) gN)) (V1 K)
def A05 (a0:E2):Option (Fi×E2):=(A4 K a0 11).bind fun r1=>(V1 K r1.2 ([8,8,9,12,16]:List Int)).bind fun r2=>if r2.2.2.length=([8,8,9,12,16]:List Int).length then(A4 K r2.2.1 7).bind fun r3=>(A4 K r3.2 6).bind fun r4=>(V1 K r4.2 ([1,3,4,8,16]:List Int)).bind fun r5=>if r5.2.2.length=([1,3,4,8,16]:List Int).length then(A4 K r5.2.1 4).bind fun r6=>some ((Fi.mk (A1 2 r1.1) r2.1 (A1 2 r3.1) (A1 1 r4.1) r5.1 (A1 1 r6.1)),r6.2)else none else none
def B08:=ct (fd Tryz.func224 ⟨[.b 171 false],[.v 33],false⟩ (gC (A82 K) (gC (Bf2 K) gN))) (A05 K)
def F2 (K:Nat)(a0 a1 a2:Int):Option Bool:=bif decide (a0>=a1)then some (decide (a0<=a2))else some false
def A5x:=ct (fd Tryz.func147 ⟨[.v 3,.v 3,.v 3],[.v 4],true⟩ gN [9,10]) (F2 K)
def Ap3 (a0:Fi):Option Bool:=(F2 K a0.Ad 2 12).bind fun r1=>bif r1 then(F2 K a0.Du 8 16).bind fun r2=>bif r2 then(F2 K a0.Cd 2 8).bind fun r3=>bif r3 then(F2 K a0.Ez 1 8).bind fun r4=>bif r4 then(F2 K a0.Ce 1 16).bind fun r5=>bif r5 then(F2 K a0.Dv 1 4).bind fun r6=>some r6 else some false else some false else some false else some false else some false
def Bf3:=ct (fd Tryz.func136 ⟨[.v 33],[.v 4],true⟩ (gC (A5x K) gN) [5,6,9,10,11,14,15,16,19,20,21,24,25,26]) (Ap3 K)
def Av0 (a0:Fi):Option Int:=(Ap3 K a0).bind fun r1=>bif !r1 then some 0 else some (P2 a0.Ad a0.Du)
def Bsy:=ct (fd Tryz.func235 ⟨[.v 33],[.v 3],true⟩ (gC (Bf3 K) gN)) (Av0 K)
def A61 (a0:Int):Option (List Int):=(F2 K a0 0 4096).bind fun r1=>bif !r1 then some ([]:List Int)else if 0<=a0/\a0<=a0/\(1:Int)*a0<=281474976710656/\a0<=9223372036854775807 then some (List.replicate a0.toNat (0:Int))else none
def B09:=ct (fd Tryz.func234 ⟨[.v 3],[.n 24 true],true⟩ (gC (A5x K) gN)) (A61 K)
def Axe (K:Nat)(a0:Fi):Nat->Int->Ef->Ef->Option Ef
 |0,_,_,_=>none
 |n1+1,v4,v5,v6=>bif decide (v4<a0.Ad)then if(v5.G4++([0]:List Int)).length*8<=140737488355328/\(v5.G4++([0]:List Int)).length<=maxLen then if(v5.Fq++([(-1)]:List Int)).length*8<=140737488355328/\(v5.Fq++([(-1)]:List Int)).length<=maxLen then Axe K a0 n1 (A1 v4 1) (Ef.mk v5.Fp (v5.G4++([0]:List Int)) (v5.Fq++([(-1)]:List Int))) v6 else none else none else some v5
def A2q (a0:Fi):Option Ef:=(Ap3 K a0).bind fun r1=>bif !r1 then some (Ef.mk [] [] [])else(Av0 K a0).bind fun r2=>(A61 K r2).bind fun r3=>Axe K a0 K 0 (Ef.mk r3 [] []) (Ef.mk [] [] [])
def B1a:=fd Tryz.func137 ⟨[.v 33],[.n 34 true],true⟩ (gC (Bf3 K) (gC (B09 K) (gC (Bsy K) gN))) [] [] [(3,[.take 103 0 6648,.take 103 1 6649,.take 103 2 6650]),(8,[.take 103 1 6649]),(9,[.take 103 2 6650]),(10,[.take 103 0 6648,.take 103 1 6649,.take 103 2 6650])]
def h_2:Fw:=⟨[(1,.p 101),(2,.p 102),(3,.p 103),(4,.v 2)],[(103,.st 34 true),(102,.st 34 true),(101,.st 33 true)]⟩
def Bnn:=lp (B1a K) 250 h_2 [] (fun n a b c d=>Axe K d n a b c) (fun n=>kN)
def B1b:=ct (B1a K) (A2q K) (kC (Bnn K K) kN)
def Amp (K:Nat)(a0:Int):Option Az:=some (Az.mk 0 a0 0 0 0 0 0 0 [] 0 0 [] [])
def Bf4:=ct (fd Tryz.func236 ⟨[.v 3],[.n 77 false],true⟩ gN) (Amp K)
def Awp (a0:Fi):Nat->(List Az)->Int->Option (List Az)
 |0,_,_=>none
 |n1+1,v1,v2=>bif decide (v2<a0.Cd)then(Ap3 K a0).bind fun r3=>bif r3 then(Amp K 1).bind fun r4=>if(v1++[r4]).length*152<=140737488355328/\(v1++[r4]).length<=maxLen then Awp a0 n1 (v1++[r4]) (A1 v2 1)else none else some v1 else some v1
def A4i (a0:Fi):Option (List Az):=Awp K a0 K ([]:List Az) 0
def B1c:=fd Tryz.func138 ⟨[.v 33],[.n 35 true],false⟩ (gC (Bf3 K) (gC (Bf4 K) gN)) [9,10] [] [] [(18,[.put 3018])]
def h_3:Fw:=⟨[(1,.p 101),(3,.o 1003 77 true),(4,.v 2)],[(101,.st 33 true)]⟩
def Bsz:=lp (B1c K) 58 h_3 [] (fun n a b c=>Awp K c n a b) (fun n=>kN)
def B1d:=ct (B1c K) (A4i K) (kC (Bsz K K) kN)
def A1l (a0:Fi):Option Bo:=(Ap3 K a0).bind fun r1=>bif !r1 then some (Bo.mk (Fi.mk 0 0 0 0 0 0) (Ef.mk [] [] []) [] [] [])else(A2q K a0).bind fun r2=>(A4i K a0).bind fun r3=>some (Bo.mk a0 r2 r3 [] [])
def B1e:=ct (fd Tryz.func39 ⟨[.v 33],[.n 38 true],false⟩ (gC (Bf3 K) (gC (B1b K) (gC (B1d K) gN)))) (A1l K)
def Ad9 (K:Nat)(a0:List Az)(a1:Int):Option Bool:=bif decide (a1>=1)then some (decide (a1<=a0.length))else some false
def Baq:=ct (fd Tryz.func276 ⟨[.v 35,.v 3],[.v 4],true⟩ gN [6,7]) (Ad9 K)
def A06 (a0:List Az):Nat->Int->(List Int)->Option (List Int)
 |0,_,_=>none
 |n1+1,v1,v2=>(Ad9 K a0 (A1 v1 1)).bind fun r3=>bif r3 then bif decide ((v2.length:Int)<a0.length)then if(v2++([v1]:List Int)).length*8<=140737488355328/\(v2++([v1]:List Int)).length<=maxLen then if 0<=v1/\v1<a0.length then A06 a0 n1 (Ap (gt a0 v1).fUp 1) (v2++([v1]:List Int))else none else none else some v2 else some v2
def A2j (a0:List Az)(a1:Int):Option (List Int):=A06 K a0 K a1 ([]:List Int)
def B1f:=fd Tryz.func251 ⟨[.v 35,.v 3],[.n 25 true],true⟩ (gC (Baq K) gN) [10,11]
def h_4:Fw:=⟨[(0,.v 35),(1,.v 2),(5,.o 1005 3 true)],[]⟩
def Bs0:=lp (B1f K) 28 h_4 [] (fun n a=>A06 K a n) (fun n=>kN)
def Bno:=ct (B1f K) (A2j K) (kC (Bs0 K K) kN)
def Awq (a0:List Az)(a1:Int):Option Bool:=if 0<=a1/\a1<a0.length then(Ad9 K a0 (gt a0 a1).fUp).bind fun r1=>bif r1 then if 0<=(Ap (gt a0 a1).fUp 1)/\(Ap (gt a0 a1).fUp 1)<a0.length then bif (gt a0 (Ap (gt a0 a1).fUp 1)).G4==1 then if 0<=(Ap (gt a0 a1).fUp 1)/\(Ap (gt a0 a1).fUp 1)<a0.length then if 0<=a1/\a1<a0.length then some (((gt a0 (Ap (gt a0 a1).fUp 1)).Nb)==(gt a0 a1).G5)else none else none else some false else none else some false else none
def Bnp:=ct (fd Tryz.func252 ⟨[.v 35,.v 3],[.v 4],true⟩ (gC (Baq K) gN) [13,14,21,22,23]) (Awq K)
def A2r (K:Nat)(v2:Int)(C1:Int->Option Bool):Option Bool:=C1 (A1 v2 1)
def Axf (a0:List Az)(r1:(List Int)):Nat->Int->Option Bool
 |0,_=>none
 |n1+1,v2=>bif decide (v2<r1.length)then if 0<=v2/\v2<r1.length then if 0<=(gt r1 v2)/\(gt r1 v2)<a0.length then bif (gt a0 (gt r1 v2)).G4 != 1 then some false else bif decide ((A1 v2 1)<r1.length)then if 0<=v2/\v2<r1.length then(Awq K a0 (gt r1 v2)).bind fun r3=>bif !r3 then some false else A2r K v2 (Axf a0 r1 n1)else none else A2r K v2 (Axf a0 r1 n1)else none else none else bif decide ((r1.length:Int)>0)then if 0<=(Ap r1.length 1)/\(Ap r1.length 1)<r1.length then if 0<=(gt r1 (Ap r1.length 1))/\(gt r1 (Ap r1.length 1))<a0.length then some (((gt a0 (gt r1 (Ap r1.length 1))).fUp)==0)else none else none else some false
def A0h (a0:List Az)(a1:Int):Option Bool:=(A2j K a0 a1).bind fun r1=>Axf K a0 r1 K 0
def Bxa:=fd Tryz.func154 ⟨[.v 35,.v 3],[.v 4],true⟩ (gC (Bno K) (gC (Bnp K) gN)) [24,25,30,31,43,44] [233]
def h_5:Fw:=⟨[(0,.v 35),(5,.v 25),(6,.v 2)],[]⟩
def Bnq:=fun(C58:CT h_5 _)=>jn (Bxa K) 233 h_5 [(58,ar h_5 C58)] (fun a b c=>A2r K c (C58 a b)) kN
def Bs1:=lp (Bxa K) 58 h_5 [] (fun n a b=>Axf K a b n) (fun n=>kC (Bnq K _) kN)
def Bnr:=ct (Bxa K) (A0h K) (kC (Bs1 K K) kN)
def Axg (K:Nat)(v2 v3:Int)(v4 v5:Int)(v6 v7 v8:Int)(v9 v10 v11:List Int)(v12:List Az)(v13:List Bb)(v14:List Int)(C1:(List Int)->Int->Int->Int->Int->Int->Int->Int->(List Int)->(List Int)->(List Int)->(List Az)->(List Bb)->(List Int)->Option (List Int))(v16:List Int):Option (List Int):=C1 v16 (A1 v2 1) v3 v4 v5 v6 v7 v8 v9 v10 v11 v12 v13 v14
def Avu:Nat->(List Int)->Int->Int->Int->Int->Int->Int->Int->(List Int)->(List Int)->(List Int)->(List Az)->(List Bb)->(List Int)->Option (List Int)
 |0,_,_,_,_,_,_,_,_,_,_,_,_,_,_=>none
 |n1+1,v1,v2,v3,v4,v5,v6,v7,v8,v9,v10,v11,v12,v13,v14=>bif decide (v2<v12.length)then(A0h K v12 v2).bind fun r15=>bif r15 then if(v1++([v2]:List Int)).length*8<=140737488355328/\(v1++([v2]:List Int)).length<=maxLen then Axg K v2 v3 v4 v5 v6 v7 v8 v9 v10 v11 v12 v13 v14 (Avu n1) (v1++([v2]:List Int))else none else Axg K v2 v3 v4 v5 v6 v7 v8 v9 v10 v11 v12 v13 v14 (Avu n1) v1 else some v1
def A2s (a0:Bo):Option (List Int):=Avu K K ([]:List Int) 0 a0.fC.Ad a0.fC.Du a0.fC.Cd a0.fC.Ez a0.fC.Ce a0.fC.Dv a0.fP.Fp a0.fP.G4 a0.fP.Fq a0.fL a0.fQ a0.Jp
def Bxb:=fd Tryz.func45 ⟨[.v 38],[.n 25 true],true⟩ (gC (Bnr K) gN) [] [233]
def h_6:Fw:=⟨[(1,.p 101),(3,.o 1003 3 true),(4,.v 2)],[(101,.box bx6)]⟩
def Bns:=fun(C58:CT h_6 _)=>jn (Bxb K) 233 h_6 [(58,ar h_6 C58)] (fun a b c d e f g h i j k l m o=>Axg K b c d e f g h i j k l m o C58 a) kN
def Bs2:=lp (Bxb K) 58 h_6 [] (Avu K) (fun n=>kC (Bns K _) kN)
def Bvh:=ct (Bxb K) (A2s K) (kC (Bs2 K K) kN)
def Ap4 (a0:E2)(a1:Int):Option (Bool×E2):=(A4 K a0 a1).bind fun r1=>some ((r1.1==0),r1.2)
def Bf5:=ct (fd Tryz.func198 ⟨[.b 171 false,.v 3],[.v 4],false⟩ (gC (A82 K) gN)) (Ap4 K)
def A1m (a0:E2):Option (Ch×E2):=(A4 K a0 5).bind fun r1=>(A4 K r1.2 3).bind fun r2=>some ((Ch.mk r1.1 (A1 1 r2.1)),r2.2)
def B1g:=ct (fd Tryz.func284 ⟨[.b 171 false],[.v 40],false⟩ (gC (A82 K) gN)) (A1m K)
def Axh (a1:Int):Nat->(List Int)->Int->(List Int)->Int->Int->Option ((List Int)×E2)
 |0,_,_,_,_,_=>none
 |n1+1,v1,v2,v3,v4,v5=>bif decide (v2<a1)then(Avn K (E2.mk v3 v4 v5)).bind fun r6=>if(v1++([(IntKind.u8.wrap r6.1)]:List Int)).length*1<=140737488355328/\(v1++([(IntKind.u8.wrap r6.1)]:List Int)).length<=maxLen then Axh a1 n1 (v1++([(IntKind.u8.wrap r6.1)]:List Int)) (A1 v2 1) r6.2.fb r6.2.fi r6.2.fh else none else some (v1,(E2.mk v3 v4 v5))
def A2t (a0:E2)(a1:Int):Option ((List Int)×E2):=Axh K a1 K ([]:List Int) 0 a0.fb a0.fi a0.fh
def B1h:=fd Tryz.func201 ⟨[.b 171 false,.v 3],[.n 24 true],false⟩ (gC (B07 K) gN)
def h_7:Fw:=⟨[(0,.p 1),(1,.v 2),(5,.o 1005 5 true),(6,.v 2)],[(1,.box bx8)]⟩
def Bs3:=lp (B1h K) 58 h_7 [] (fun n a=>Axh K a n) (fun n=>kN)
def Bvi:=ct (B1h K) (A2t K) (kC (Bs3 K K) kN)
def Ao5 (K:Nat)(v6:List Int)(v7 v8:Int)(v9 v10:Di):Option (Di×E2):=some (v9,(E2.mk v6 v7 v8))
def Avv (v11:Int)(v12:Bool)(v13:List Int)(v14 v15:Int)(v16:Fb)(v17:Ch)(v18 v19:Di):Option (Di×E2):=bif v12 then Ao5 K v13 v14 v15 (Di.mk v18.Aad v17 v18.fR v18.fN v18.fM v18.fB) v19 else bif v11==2 then(V1 K (E2.mk v13 v14 v15) ([1,2,3,5,8,9,17,20,0,201]:List Int)).bind fun r20=>if r20.2.2.length=([1,2,3,5,8,9,17,20,0,201]:List Int).length then(V1 K r20.2.1 ([1,1,2,4,3]:List Int)).bind fun r21=>if r21.2.2.length=([1,1,2,4,3]:List Int).length then Ao5 K r21.2.1.fb r21.2.1.fi r21.2.1.fh (Di.mk v18.Aad v17 v18.fR r20.1 r21.1 v18.fB) v19 else none else none else bif v11==3 then(A4 K (E2.mk v13 v14 v15) 4).bind fun r22=>(A4 K r22.2 5).bind fun r23=>Ao5 K r23.2.fb r23.2.fi r23.2.fh (Di.mk v18.Aad v18.fH v16 r22.1 r23.1 v18.fB) v19 else bif v11==4 then(A4 K (E2.mk v13 v14 v15) 4).bind fun r24=>(A4 K r24.2 4).bind fun r25=>(A2t K r25.2 r25.1).bind fun r26=>Ao5 K r26.2.fb r26.2.fi r26.2.fh (Di.mk v18.Aad v18.fH v16 r24.1 v18.fM r26.1) v19 else bif v11==5 then(V1 K (E2.mk v13 v14 v15) ([1,7,255,256]:List Int)).bind fun r27=>if r27.2.2.length=([1,7,255,256]:List Int).length then Ao5 K r27.2.1.fb r27.2.1.fi r27.2.1.fh (Di.mk v18.Aad v17 v18.fR r27.1 v18.fM v18.fB) v19 else none else Ao5 K v13 v14 v15 v18 v19
def Azo (a0:E2):Option (Di×E2):=(A4 K a0 9).bind fun r1=>(A1m K r1.2).bind fun r2=>(A4 K r2.2 2).bind fun r3=>(A4 K r3.2 3).bind fun r4=>bif (A1 1 r1.1)==1 then(Ap4 K r4.2 2).bind fun r5=>bif r5.1 then Ao5 K r5.2.fb r5.2.fi r5.2.fh (Di.mk (A1 1 r1.1) r2.1 (Fb.mk (Ch.mk 0 0) 0 0) 0 0 []) (Di.mk 0 (Ch.mk 0 0) (Fb.mk (Ch.mk 0 0) 0 0) 0 0 [])else Ao5 K r5.2.fb r5.2.fi r5.2.fh (Di.mk (A1 1 r1.1) (Ch.mk 0 0) (Fb.mk (Ch.mk 0 0) 0 0) 0 0 []) (Di.mk 0 (Ch.mk 0 0) (Fb.mk (Ch.mk 0 0) 0 0) 0 0 [])else bif (A1 1 r1.1)==6 then Avv K (A1 1 r1.1) ((A1 1 r1.1)==6) r4.2.fb r4.2.fi r4.2.fh (Fb.mk r2.1 r3.1 r4.1) r2.1 (Di.mk (A1 1 r1.1) (Ch.mk 0 0) (Fb.mk (Ch.mk 0 0) 0 0) 0 0 []) (Di.mk 0 (Ch.mk 0 0) (Fb.mk (Ch.mk 0 0) 0 0) 0 0 [])else bif (A1 1 r1.1)==7 then Avv K (A1 1 r1.1) ((A1 1 r1.1)==7) r4.2.fb r4.2.fi r4.2.fh (Fb.mk r2.1 r3.1 r4.1) r2.1 (Di.mk (A1 1 r1.1) (Ch.mk 0 0) (Fb.mk (Ch.mk 0 0) 0 0) 0 0 []) (Di.mk 0 (Ch.mk 0 0) (Fb.mk (Ch.mk 0 0) 0 0) 0 0 [])else Avv K (A1 1 r1.1) ((A1 1 r1.1)==8) r4.2.fb r4.2.fi r4.2.fh (Fb.mk r2.1 r3.1 r4.1) r2.1 (Di.mk (A1 1 r1.1) (Ch.mk 0 0) (Fb.mk (Ch.mk 0 0) 0 0) 0 0 []) (Di.mk 0 (Ch.mk 0 0) (Fb.mk (Ch.mk 0 0) 0 0) 0 0 [])
def Bxc:=fd Tryz.func199 ⟨[.b 171 false],[.n 55 true],false⟩ (gC (A82 K) (gC (Bf2 K) (gC (Bf5 K) (gC (Bvi K) (gC (B1g K) gN))))) [] [31,1003] [(27,[.take 103 9 6657])]
def h_8:Fw:=⟨[(2,.p 102),(3,.p 103)],[(1,.box bx8),(103,.st 55 true),(102,.st 55 true)]⟩
def h_9:Fw:=⟨[(0,.p 1),(2,.p 102),(3,.p 103),(4,.p 104),(5,.p 105),(19,.v 2),(26,.v 4)],[(1,.box bx8),(105,.st 42 true),(104,.st 40 true),(103,.st 55 true),(102,.st 55 true)]⟩
def Bjy:=jn (Bxc K) 31 h_8 [] (Ao5 K) kN
def Bk6:=jn (Bxc K) 1003 h_9 [] (Avv K) (kC (Bjy K) kN)
def B1i:=ct (Bxc K) (Azo K) (kC (Bjy K) (kC (Bk6 K) kN))
def Aym (a0:List Az)(a1:Int):Option Ch:=(F2 K a1 0 (Ap a0.length 1)).bind fun r1=>bif !r1 then some (Ch.mk 0 0)else if 0<=a1/\a1<a0.length then some (Ch.mk a1 (gt a0 a1).C7)else none
def Bvj:=ct (fd Tryz.func200 ⟨[.v 35,.v 3],[.v 40],true⟩ (gC (A5x K) gN)) (Aym K)
def Axi (r8:Ch)(v27 v28 v29:List Int)(v30:List Az)(v31:List Bb)(v32:List Int)(v34:Int)(v36:List Int)(v37 v38:Int)(v47:Bool):Option (Di×E2×(List Int)×(List Int)×(List Int)×(List Az)×(List Bb)×(List Int)):=bif v47 then(A4 K (E2.mk v36 v37 v38) 256).bind fun r48=>some ((Di.mk 5 r8 (Fb.mk (Ch.mk 0 0) 0 0) r48.1 0 []),r48.2,v27,v28,v29,v30,v31,v32)else bif v34==13 then some ((Di.mk 6 r8 (Fb.mk (Ch.mk 0 0) 0 0) 0 0 []),(E2.mk v36 v37 v38),v27,v28,v29,v30,v31,v32)else bif v34==14 then some ((Di.mk 7 r8 (Fb.mk (Ch.mk 0 0) 0 0) 0 0 []),(E2.mk v36 v37 v38),v27,v28,v29,v30,v31,v32)else(Ap4 K (E2.mk v36 v37 v38) 6).bind fun r49=>bif r49.1 then some ((Di.mk 9 (Ch.mk 0 0) (Fb.mk (Ch.mk 0 0) 0 0) 0 0 []),r49.2,v27,v28,v29,v30,v31,v32)else some ((Di.mk 8 r8 (Fb.mk (Ch.mk 0 0) 0 0) 0 0 []),r49.2,v27,v28,v29,v30,v31,v32)
def Axj (r8:Ch)(v13:Fb)(v27 v28 v29:List Int)(v30:List Az)(v31:List Bb)(v32:List Int)(v34:Int)(v36:List Int)(v37 v38:Int)(v43:Bool):Option (Di×E2×(List Int)×(List Int)×(List Int)×(List Az)×(List Bb)×(List Int)):=bif v43 then(A4 K (E2.mk v36 v37 v38) 2).bind fun r44=>(A2t K r44.2 (A1 1 r44.1)).bind fun r45=>some ((Di.mk 4 (Ch.mk 0 0) v13 0 0 r45.1),r45.2,v27,v28,v29,v30,v31,v32)else bif v34==10 then(A4 K (E2.mk v36 v37 v38) 3).bind fun r46=>some ((Di.mk 3 (Ch.mk 0 0) v13 0 r46.1 []),r46.2,v27,v28,v29,v30,v31,v32)else bif v34==11 then Axi K r8 v27 v28 v29 v30 v31 v32 v34 v36 v37 v38 (v34==11)else Axi K r8 v27 v28 v29 v30 v31 v32 v34 v36 v37 v38 (v34==12)
def Avw (r8:Ch)(v13:Fb)(v16:Int)(v27 v28 v29:List Int)(v30:List Az)(v31:List Bb)(v32:List Int)(v34:Int)(v36:List Int)(v37 v38:Int)(v39:Bool):Option (Di×E2×(List Int)×(List Int)×(List Int)×(List Az)×(List Bb)×(List Int)):=bif v39 then(V1 K (E2.mk v36 v37 v38) ([1,2,3,4,5,8]:List Int)).bind fun r40=>if r40.2.2.length=([1,2,3,4,5,8]:List Int).length then(V1 K r40.2.1 ([1,1,2,4]:List Int)).bind fun r41=>if r41.2.2.length=([1,1,2,4]:List Int).length then some ((Di.mk 2 r8 (Fb.mk (Ch.mk 0 0) 0 0) r40.1 r41.1 []),r41.2.1,v27,v28,v29,v30,v31,v32)else none else none else bif v34==7 then(A4 K (E2.mk v36 v37 v38) v16).bind fun r42=>some ((Di.mk 2 r8 (Fb.mk (Ch.mk 0 0) 0 0) (A1 (A1 v16 1) r42.1) 1 []),r42.2,v27,v28,v29,v30,v31,v32)else bif v34==8 then Axj K r8 v13 v27 v28 v29 v30 v31 v32 v34 v36 v37 v38 (v34==8)else Axj K r8 v13 v27 v28 v29 v30 v31 v32 v34 v36 v37 v38 (v34==9)
def Avx (r8:Ch)(v13:Fb)(v16:Int)(v27 v28 v29:List Int)(v30:List Az)(v31:List Bb)(v32:List Int)(v34:Int)(v35:Bool)(v36:List Int)(v37 v38:Int):Option (Di×E2×(List Int)×(List Int)×(List Int)×(List Az)×(List Bb)×(List Int)):=bif v35 then some ((Di.mk 1 r8 (Fb.mk (Ch.mk 0 0) 0 0) 0 0 []),(E2.mk v36 v37 v38),v27,v28,v29,v30,v31,v32)else bif v34==3 then some ((Di.mk 1 (Ch.mk 0 0) (Fb.mk (Ch.mk 0 0) 0 0) 0 0 []),(E2.mk v36 v37 v38),v27,v28,v29,v30,v31,v32)else bif v34==4 then Avw K r8 v13 v16 v27 v28 v29 v30 v31 v32 v34 v36 v37 v38 (v34==4)else bif v34==5 then Avw K r8 v13 v16 v27 v28 v29 v30 v31 v32 v34 v36 v37 v38 (v34==5)else Avw K r8 v13 v16 v27 v28 v29 v30 v31 v32 v34 v36 v37 v38 (v34==6)
def Axk (r8:Ch)(v10:List Int)(v11 v12:Int)(v13:Fb)(v14:Di)(v15 v16:Int)(v17 v18:Int)(v19 v20:Int)(v21 v22:Nat)(v23 v24:Nat)(v25 v26:Nat)(v27 v28 v29:List Int)(v30:List Az)(v31:List Bb)(v32:List Int):Option (Di×E2×(List Int)×(List Int)×(List Int)×(List Az)×(List Bb)×(List Int)):=(A4 K (E2.mk v10 v11 v12) 16).bind fun r33=>bif r33.1==0 then Avx K r8 v13 v16 v27 v28 v29 v30 v31 v32 r33.1 (r33.1==0) r33.2.fb r33.2.fi r33.2.fh else bif r33.1==1 then Avx K r8 v13 v16 v27 v28 v29 v30 v31 v32 r33.1 (r33.1==1) r33.2.fb r33.2.fi r33.2.fh else Avx K r8 v13 v16 v27 v28 v29 v30 v31 v32 r33.1 (r33.1==2) r33.2.fb r33.2.fi r33.2.fh
def Azp (a0:E2)(a1:Bo):Option (Di×E2×(List Int)×(List Int)×(List Int)×(List Az)×(List Bb)×(List Int)):=(A2s K a1).bind fun r1=>bif (r1.length:Int)==0 then(Ap4 K a0 2).bind fun r2=>bif r2.1 then some ((Di.mk 1 (Ch.mk 0 0) (Fb.mk (Ch.mk 0 0) 0 0) 0 0 []),r2.2,a1.fP.Fp,a1.fP.G4,a1.fP.Fq,a1.fL,a1.fQ,a1.Jp)else(Azo K r2.2).bind fun r3=>some (r3.1,r3.2,a1.fP.Fp,a1.fP.G4,a1.fP.Fq,a1.fL,a1.fQ,a1.Jp)else(Ap4 K a0 10).bind fun r4=>bif r4.1 then(Ap4 K r4.2 2).bind fun r5=>bif r5.1 then some ((Di.mk 1 (Ch.mk 0 0) (Fb.mk (Ch.mk 0 0) 0 0) 0 0 []),r5.2,a1.fP.Fp,a1.fP.G4,a1.fP.Fq,a1.fL,a1.fQ,a1.Jp)else(Azo K r5.2).bind fun r6=>some (r6.1,r6.2,a1.fP.Fp,a1.fP.G4,a1.fP.Fq,a1.fL,a1.fQ,a1.Jp)else(A4 K r4.2 (r1.length:Int)).bind fun r7=>if 0<=r7.1/\r7.1<r1.length then(Aym K a1.fL (gt r1 r7.1)).bind fun r8=>if 0<=(gt r1 r7.1)/\(gt r1 r7.1)<a1.fL.length then if 0<=(gt r1 r7.1)/\(gt r1 r7.1)<a1.fL.length then if 0<=(gt r1 r7.1)/\(gt r1 r7.1)<a1.fL.length then bif decide (((gt a1.fL (gt r1 r7.1)).D5.length:Int)>0)then if 0<=(gt r1 r7.1)/\(gt r1 r7.1)<a1.fL.length then(A4 K r7.2 (((gt a1.fL (gt r1 r7.1)).D5).length:Int)).bind fun r9=>Axk K r8 r9.2.fb r9.2.fi r9.2.fh (Fb.mk r8 (gt a1.fL (gt r1 r7.1)).Nb r9.1) (Di.mk 0 (Ch.mk 0 0) (Fb.mk (Ch.mk 0 0) 0 0) 0 0 []) a1.fC.Ad a1.fC.Du a1.fC.Cd a1.fC.Ez a1.fC.Ce a1.fC.Dv a1.fP.Fp.length a1.fP.G4.length a1.fP.Fq.length a1.fL.length a1.fQ.length a1.Jp.length a1.fP.Fp a1.fP.G4 a1.fP.Fq a1.fL a1.fQ a1.Jp else none else Axk K r8 r7.2.fb r7.2.fi r7.2.fh (Fb.mk r8 (gt a1.fL (gt r1 r7.1)).Nb 0) (Di.mk 0 (Ch.mk 0 0) (Fb.mk (Ch.mk 0 0) 0 0) 0 0 []) a1.fC.Ad a1.fC.Du a1.fC.Cd a1.fC.Ez a1.fC.Ce a1.fC.Dv a1.fP.Fp.length a1.fP.G4.length a1.fP.Fq.length a1.fL.length a1.fQ.length a1.Jp.length a1.fP.Fp a1.fP.G4 a1.fP.Fq a1.fL a1.fQ a1.Jp else none else none else none else none
def Bk7:=fd Tryz.func114 ⟨[.b 171 false,.w 38 false [(5,true),(3,true),(3,true),(77,true),(79,false),(3,true)]],[.n 55 true],false⟩ (gC (Bvh K) (gC (A82 K) (gC (Bf2 K) (gC (Bf5 K) (gC (B1i K) (gC (Bvj K) (gC (Bvi K) gN))))))) [13,14] [127,2042,32687,523007,8368127] [(9,[.opn 5 (.tmp 6),.takeE 5 11 40331])]
def B4n:Fw:=⟨[(0,.p 1),(4,.p 104),(7,.p 107),(61,.v 2),(113,.v 4)],[(1,.box bx8),(2,.rws 5 true),(3,.rws 3 true),(4,.rws 3 true),(5,.rws 77 true),(6,.rws 79 false),(7,.rws 3 true),(107,.st 40 true),(104,.st 55 true)]⟩
def B4o:Fw:=⟨[(0,.p 1),(4,.p 104),(7,.p 107),(8,.p 108),(61,.v 2),(97,.v 4)],[(1,.box bx8),(2,.rws 5 true),(3,.rws 3 true),(4,.rws 3 true),(5,.rws 77 true),(6,.rws 79 false),(7,.rws 3 true),(108,.st 42 true),(107,.st 40 true),(104,.st 55 true)]⟩
def B4p:Fw:=⟨[(0,.p 1),(3,.p 103),(4,.p 104),(7,.p 107),(8,.p 108),(61,.v 2),(71,.v 4)],[(1,.box bx8),(108,.st 42 true),(107,.st 40 true),(104,.st 55 true),(103,.ob [.v 2,.v 2,.v 2,.v 2,.v 2,.v 2,.O 2,.O 3,.O 4,.O 5,.O 6,.O 7]),(2,.rws 5 true),(3,.rws 3 true),(4,.rws 3 true),(5,.rws 77 true),(6,.rws 79 false),(7,.rws 3 true)]⟩
def B4q:Fw:=⟨[(0,.p 1),(3,.p 103),(4,.p 104),(7,.p 107),(8,.p 108),(61,.v 2),(62,.v 4)],[(1,.box bx8),(108,.st 42 true),(107,.st 40 true),(104,.st 55 true),(103,.ob [.v 2,.v 2,.v 2,.v 2,.v 2,.v 2,.O 2,.O 3,.O 4,.O 5,.O 6,.O 7]),(2,.rws 5 true),(3,.rws 3 true),(4,.rws 3 true),(5,.rws 77 true),(6,.rws 79 false),(7,.rws 3 true)]⟩
def B4r:Fw:=⟨[(0,.p 1),(3,.p 103),(4,.p 104),(7,.p 107),(8,.p 108)],[(1,.box bx8),(108,.st 42 true),(107,.st 40 true),(104,.st 55 true),(103,.ob [.v 2,.v 2,.v 2,.v 2,.v 2,.v 2,.O 2,.O 3,.O 4,.O 5,.O 6,.O 7]),(2,.rws 5 true),(3,.rws 3 true),(4,.rws 3 true),(5,.rws 77 true),(6,.rws 79 false),(7,.rws 3 true)]⟩
def Ben:=jn (Bk7 K) 8368127 B4n [] (fun a b c d e f g h i j k l _=>Axi K l f g h i j k a c d e b) kN
def Bf6:=jn (Bk7 K) 523007 B4o [] (fun a b c d e f g h i j k l m _=>Axj K m l f g h i j k a c d e b) (kC (Ben K) kN)
def Bh2:=jn (Bk7 K) 32687 B4p [] (fun a b c d e f g _ _ j _ _ _ _ _ _ _ _ _ _ v w x y z a1=>Avw K g f j v w x y z a1 a c d e b) (kC (Bf6 K) kN)
def Bk8:=jn (Bk7 K) 2042 B4q [] (fun a b c d e f g _ _ j _ _ _ _ _ _ _ _ _ _ v w x y z a1=>Avx K g f j v w x y z a1 a b c d e) (kC (Bh2 K) kN)
def Bnt:=jn (Bk7 K) 127 B4r [] (fun a b c d e=>Axk K e a b c d) (kC (Bk8 K) kN)
def Bvk:=ct (Bk7 K) (Azp K) (kC (Bnt K) kN)
def Ayn (K:Nat)(a0:Ch):Option Bool:=bif decide (a0.Be>=0)then some (decide (a0.C7>=1))else some false
def Bvl:=ct (fd Tryz.func354 ⟨[.v 40],[.v 4],true⟩ gN [5,6]) (Ayn K)
def Azq (a0:List Az)(a1:Ch):Option Int:=(F2 K a1.Be 0 (Ap a0.length 1)).bind fun r1=>bif r1 then if 0<=a1.Be/\a1.Be<a0.length then bif (gt a0 a1.Be).G4 != 1 then some (-1)else if 0<=a1.Be/\a1.Be<a0.length then bif (gt a0 a1.Be).C7 != a1.C7 then some (-1)else some a1.Be else none else none else some (-1)
def Bvm:=ct (fd Tryz.func355 ⟨[.v 35,.v 40],[.v 3],true⟩ (gC (A5x K) gN) [10,11,12,19,20,21]) (Azq K)
def Arl (a0:Bo)(a1:Ch):Option (Int×Int):=(Ayn K a1).bind fun r1=>bif !r1 then some ((-1),1)else(Azq K a0.fL a1).bind fun r2=>bif decide (r2<0)then some ((-1),2)else(A0h K a0.fL r2).bind fun r3=>bif !r3 then some ((-1),2)else some (r2,0)
def Bdv:=ct (fd Tryz.func307 ⟨[.v 38,.v 40],[.v 3,.v 3],true⟩ (gC (Bnr K) (gC (Bvl K) (gC (Bvm K) gN))) [15,16]) (Arl K)
def A4t (a0:Bo)(a1:Ch):Option (Int×Int):=bif (a1.Be==0)&&((a1.C7==0)&&true)then some ((-1),0)else(Arl K a0 a1).bind fun r1=>some (r1.1,r1.2)
def B1j:=ct (fd Tryz.func342 ⟨[.v 38,.v 40],[.v 3,.v 3],true⟩ (gC (Bdv K) gN)) (A4t K)
def A07 (a0:List Az)(a1:Int):Option Int:=(A2j K a0 a1).bind fun r1=>some (r1.length:Int)
def Bvn:=ct (fd Tryz.func343 ⟨[.v 35,.v 3],[.v 3],true⟩ (gC (Bno K) gN)) (A07 K)
def Asi (a0:Bo)(a1:Ch):Option Int:=(Azq K a0.fL a1).bind fun r1=>(A07 K a0.fL r1).bind fun r2=>some r2
def Bbv:=ct (fd Tryz.func308 ⟨[.v 38,.v 40],[.v 3],true⟩ (gC (Bvn K) (gC (Bvm K) gN))) (Asi K)
def Aph (K:Nat)(v2 v3:Int)(v4 v5:Int)(v6 v7 v8:Int)(v9 v10 v11:List Int)(v12:List Az)(v13:List Bb)(v14:List Int)(C1:Int->Int->Int->Int->Int->Int->Int->Int->(List Int)->(List Int)->(List Int)->(List Az)->(List Bb)->(List Int)->Option Int)(v15:Int):Option Int:=C1 v15 (A1 v2 1) v3 v4 v5 v6 v7 v8 v9 v10 v11 v12 v13 v14
def Aks:Nat->Int->Int->Int->Int->Int->Int->Int->Int->(List Int)->(List Int)->(List Int)->(List Az)->(List Bb)->(List Int)->Option Int
 |0,_,_,_,_,_,_,_,_,_,_,_,_,_,_=>none
 |n1+1,v1,v2,v3,v4,v5,v6,v7,v8,v9,v10,v11,v12,v13,v14=>bif decide (v2<v12.length)then if 0<=v2/\v2<v12.length then bif (gt v12 v2).G4==0 then Aph K v2 v3 v4 v5 v6 v7 v8 v9 v10 v11 v12 v13 v14 (Aks n1) (A1 v1 1)else(A0h K v12 v2).bind fun r16=>bif r16 then Aph K v2 v3 v4 v5 v6 v7 v8 v9 v10 v11 v12 v13 v14 (Aks n1) v1 else if 0<=v2/\v2<v12.length then bif (gt v12 v2).G4 != 3 then if 0<=v2/\v2<v12.length then bif decide (((gt v12 v2).C7)<v8)then Aph K v2 v3 v4 v5 v6 v7 v8 v9 v10 v11 v12 v13 v14 (Aks n1) (A1 v1 1)else Aph K v2 v3 v4 v5 v6 v7 v8 v9 v10 v11 v12 v13 v14 (Aks n1) v1 else none else Aph K v2 v3 v4 v5 v6 v7 v8 v9 v10 v11 v12 v13 v14 (Aks n1) v1 else none else none else some v1
def A4j (a0:Bo):Option Int:=Aks K K 0 0 a0.fC.Ad a0.fC.Du a0.fC.Cd a0.fC.Ez a0.fC.Ce a0.fC.Dv a0.fP.Fp a0.fP.G4 a0.fP.Fq a0.fL a0.fQ a0.Jp
def Bxd:=fd Tryz.func344 ⟨[.v 38],[.v 3],true⟩ (gC (Bnr K) gN) [18,19,23,24,25,32,33,34] [233]
def Bs4:Fw:=⟨[(1,.p 101),(3,.v 2),(4,.v 2)],[(101,.box bx6)]⟩
def Bnu:=fun(C58:CT Bs4 _)=>jn (Bxd K) 233 Bs4 [(58,ar Bs4 C58)] (fun a b c d e f g h i j k l m o=>Aph K b c d e f g h i j k l m o C58 a) kN
def Bs5:=lp (Bxd K) 58 Bs4 [] (Aks K) (fun n=>kC (Bnu K _) kN)
def B1k:=ct (Bxd K) (A4j K) (kC (Bs5 K K) kN)
def Axl (K:Nat)(v2:Int)(v3 v4 v5:List Int)(C1:(List Int)->Int->(List Int)->(List Int)->(List Int)->Option (List Int))(v6:List Int):Option (List Int):=C1 v6 (A1 v2 1) v3 v4 v5
def Ao6 (a1:Int):Nat->(List Int)->Int->(List Int)->(List Int)->(List Int)->Option (List Int)
 |0,_,_,_,_,_=>none
 |n1+1,v1,v2,v3,v4,v5=>bif decide (v2<v4.length)then bif decide (v2<v5.length)then if 0<=v2/\v2<v4.length then bif (gt v4 v2)==1 then if 0<=v2/\v2<v5.length then bif (gt v5 v2)==a1 then if(v1++([v2]:List Int)).length*8<=140737488355328/\(v1++([v2]:List Int)).length<=maxLen then Axl K v2 v3 v4 v5 (Ao6 a1 n1) (v1++([v2]:List Int))else none else Axl K v2 v3 v4 v5 (Ao6 a1 n1) v1 else none else Axl K v2 v3 v4 v5 (Ao6 a1 n1) v1 else none else some v1 else some v1
def Azr (a0:Ef)(a1:Int):Option (List Int):=Ao6 K a1 K ([]:List Int) 0 a0.Fp a0.G4 a0.Fq
def Bxe:=fd Tryz.func155 ⟨[.v 34,.v 3],[.n 25 true],true⟩ gN [12,13,27,28] [233]
def Bs6:Fw:=⟨[(1,.v 2),(2,.p 102),(5,.o 1005 3 true),(6,.v 2)],[(102,.box bx9)]⟩
def Bnv:=fun(C58:CT Bs6 _)=>jn Bxe 233 Bs6 [(58,ar Bs6 C58)] (fun a b c d e f=>Axl K c d e f (C58 a) b) kN
def Bs7:=lp Bxe 58 Bs6 [] (fun n a=>Ao6 K a n) (fun n=>kC (Bnv K _) kN)
def Bvo:=ct Bxe (Azr K) (kC (Bs7 K K) kN)
def Auw (r1:(List Int)):Nat->Int->Int->Int->Int->Int->Int->Int->Int->(List Int)->(List Int)->(List Int)->(List Az)->(List Bb)->(List Int)->Option Int
 |0,_,_,_,_,_,_,_,_,_,_,_,_,_,_=>none
 |n1+1,v2,v3,v4,v5,v6,v7,v8,v9,v10,v11,v12,v13,v14,v15=>bif decide (v3<r1.length)then if 0<=v3/\v3<r1.length then(Azr K (Ef.mk v10 v11 v12) (gt r1 v3)).bind fun r16=>Auw r1 n1 (A1 v2 r16.length) (A1 v3 1) v4 v5 v6 v7 v8 v9 v10 v11 v12 v13 v14 v15 else none else some v2
def A4k (a0:Bo):Option Int:=(A2s K a0).bind fun r1=>Auw K r1 K 0 0 a0.fC.Ad a0.fC.Du a0.fC.Cd a0.fC.Ez a0.fC.Ce a0.fC.Dv a0.fP.Fp a0.fP.G4 a0.fP.Fq a0.fL a0.fQ a0.Jp
def B1l:=fd Tryz.func46 ⟨[.v 38],[.v 3],true⟩ (gC (Bvh K) (gC (Bvo K) gN))
def B4s:Fw:=⟨[(1,.p 101),(3,.v 2),(4,.v 25),(5,.v 2)],[(101,.box bx6)]⟩
def Bnw:=lp (B1l K) 122 B4s [] (fun n a b=>Auw K b n a) (fun n=>kN)
def B1m:=ct (B1l K) (A4k K) (kC (Bnw K K) kN)
def Awf (a0:Bo)(a1:Int):Option Bool:=bif decide (a1>=0)then bif decide (a1<=a0.fC.Ad)then(A4k K a0).bind fun r1=>some (decide (r1<=(Ap a0.fC.Ad a1)))else some false else some false
def Bnx:=ct (fd Tryz.func43 ⟨[.v 38,.v 3],[.v 4],true⟩ (gC (B1m K) gN) [6,7,12,13,14]) (Awf K)
def Aw8 (K:Nat)(v2:Int)(C1:Int->Int->Option Int)(v3:Int):Option Int:=C1 v3 (A1 v2 1)
def Alj (a0:List Az)(a1:Int):Nat->Int->Int->Option Int
 |0,_,_=>none
 |n1+1,v1,v2=>bif decide (v2<a0.length)then if 0<=v2/\v2<a0.length then bif (gt a0 v2).G4==a1 then Aw8 K v2 (Alj a0 a1 n1) (A1 v1 1)else Aw8 K v2 (Alj a0 a1 n1) v1 else none else some v1
def Aux (a0:List Az)(a1:Int):Option Int:=Alj K a0 a1 K 0 0
def Bxf:=fd Tryz.func247 ⟨[.v 35,.v 3],[.v 3],true⟩ gN [] [233]
def Bs8:Fw:=⟨[(0,.v 35),(1,.v 2),(5,.v 2),(6,.v 2)],[]⟩
def Bny:=fun(C58:CT Bs8 _)=>jn Bxf 233 Bs8 [(58,ar Bs8 C58)] (fun a b c d=>Aw8 K d (C58 a b) c) kN
def Bs9:=lp Bxf 58 Bs8 [] (fun n a b=>Alj K a b n) (fun n=>kC (Bny K _) kN)
def Bvp:=ct Bxf (Aux K) (kC (Bs9 K K) kN)
def Awg (K:Nat)(a1 a2:Int):Nat->Int->(List Int)->(List Int)->(List Int)->Option Bool
 |0,_,_,_,_=>none
 |n1+1,v1,v2,v3,v4=>bif decide (v1<(A1 a1 a2))then if 0<=v1/\v1<v3.length then bif (gt v3 v1) != 0 then some false else Awg K a1 a2 n1 (A1 v1 1) v2 v3 v4 else none else some true
def A08 (a0:Ef)(a1 a2:Int):Option Bool:=bif decide (a1<0)then some false else bif decide (a2<1)then some false else bif decide (a1>a0.G4.length)then some false else bif decide (a2>(Ap a0.G4.length a1))then some false else Awg K a1 a2 K a1 a0.Fp a0.G4 a0.Fq
def B1n:=fd Tryz.func376 ⟨[.v 34,.v 3,.v 3],[.v 4],true⟩ gN [9,10,12,13,14,19,20,21]
def B4t:Fw:=⟨[(1,.v 2),(2,.v 2),(3,.p 103),(7,.v 2)],[(103,.box bx9)]⟩
def Bta:=lp B1n 58 B4t [] (fun n a b=>Awg K a b n) (fun n=>kN)
def Bvq:=ct B1n (A08 K) (kC (Bta K K) kN)
def Awr (a1:Int):Nat->Int->(List Int)->(List Int)->(List Int)->Option Int
 |0,_,_,_,_=>none
 |n1+1,v1,v2,v3,v4=>bif decide (v1<v3.length)then(A08 K (Ef.mk v2 v3 v4) v1 a1).bind fun r5=>bif r5 then some v1 else Awr a1 n1 (A1 v1 1) v2 v3 v4 else some (-1)
def A1n (a0:Ef)(a1:Int):Option Int:=Awr K a1 K 0 a0.Fp a0.G4 a0.Fq
def B1o:=fd Tryz.func375 ⟨[.v 34,.v 3],[.v 3],true⟩ (gC (Bvq K) gN)
def B4u:Fw:=⟨[(1,.v 2),(2,.p 102),(5,.v 2)],[(102,.box bx9)]⟩
def Btb:=lp (B1o K) 26 B4u [] (fun n a=>Awr K a n) (fun n=>kN)
def Bvr:=ct (B1o K) (A1n K) (kC (Btb K K) kN)
def A3v (K:Nat)(a0:Bb):Option Int:=bif decide ((a0.Dh.length:Int)>0)then some 1 else bif decide ((a0.Ad.length:Int)>0)then some 2 else bif a0.Bz != 0 then some 3 else some 4
def B1p:=ct (fd Tryz.func270 ⟨[.v 79],[.v 3],true⟩ gN) (A3v K)
def Ay4 (K:Nat)(a0:Bo):Option Bo:=if(0:Int)<=0/\0<(a0.fQ.length:Int)then if 0<=(Ap (((gt a0.fQ 0).Dh).length:Int) 1)/\(Ap (((gt a0.fQ 0).Dh).length:Int) 1)<(((gt a0.fQ 0).Dh).length:Int)then if(a0.Jp++([(gt (gt a0.fQ 0).Dh (Ap (((gt a0.fQ 0).Dh).length:Int) 1))]:List Int)).length*8<=140737488355328/\(a0.Jp++([(gt (gt a0.fQ 0).Dh (Ap (((gt a0.fQ 0).Dh).length:Int) 1))]:List Int)).length<=maxLen then if(0:Int)<=0/\0<=(Ap (((gt a0.fQ 0).Dh).length:Int) 1)/\(Ap (((gt a0.fQ 0).Dh).length:Int) 1)<=(((gt a0.fQ 0).Dh).length:Int)then if(([]:List Int)++(((gt a0.fQ 0).Dh.drop (0:Int).toNat).take ((Ap (((gt a0.fQ 0).Dh).length:Int) 1) - 0).toNat)).length*8<=140737488355328/\(([]:List Int)++(((gt a0.fQ 0).Dh.drop (0:Int).toNat).take ((Ap (((gt a0.fQ 0).Dh).length:Int) 1) - 0).toNat)).length<=maxLen then some (Bo.mk a0.fC a0.fP a0.fL (a0.fQ.set (0:Int).toNat (Bb.mk (gt a0.fQ 0).Be (gt a0.fQ 0).Bz (([]:List Int)++(((gt a0.fQ 0).Dh.drop (0:Int).toNat).take ((Ap (((gt a0.fQ 0).Dh).length:Int) 1) - 0).toNat)) (gt a0.fQ 0).Ad (gt a0.fQ 0).H2)) (a0.Jp++([(gt (gt a0.fQ 0).Dh (Ap (((gt a0.fQ 0).Dh).length:Int) 1))]:List Int)))else none else none else none else none else none
def B1q:=ct (fd Tryz.func271 ⟨[.b 38 false],[],false⟩ gN [] [] [(0,[.take 1 10 5026]),(2,[.take 1 11 5027])]) (Ay4 K)
def Avo (K:Nat)(a0:Ef):Option Ef:=if(([]:List Int)++a0.Fp).length*1<=140737488355328/\(([]:List Int)++a0.Fp).length<=maxLen then if(([]:List Int)++a0.G4).length*8<=140737488355328/\(([]:List Int)++a0.G4).length<=maxLen then if(([]:List Int)++a0.Fq).length*8<=140737488355328/\(([]:List Int)++a0.Fq).length<=maxLen then some (Ef.mk (([]:List Int)++a0.Fp) (([]:List Int)++a0.G4) (([]:List Int)++a0.Fq))else none else none else none
def Bjz:=ct (fd Tryz.func188 ⟨[.v 34],[.n 34 true],true⟩ gN) (Avo K)
def Awh (K:Nat)(a0:List Int):Nat->Int->Option Bool
 |0,_=>none
 |n1+1,v1=>bif decide (v1<a0.length)then if 0<=v1/\v1<a0.length then bif (gt a0 v1) != 0 then some false else Awh K a0 n1 (A1 v1 1)else none else some true
def Avp (a0:List Int):Option Bool:=Awh K a0 K 0
def B1r:=fd Tryz.func237 ⟨[.v 24],[.v 4],true⟩ gN
def B4v:Fw:=⟨[(0,.v 24),(3,.v 2)],[]⟩
def Btc:=lp B1r 26 B4v [] (fun n a=>Awh K a n) (fun n=>kN)
def Bj0:=ct B1r (Avp K) (kC (Btc K K) kN)
def A1o (K:Nat)(v3:Int)(v4 v5 v6:List Int)(C1:Int->(List Int)->(List Int)->(List Int)->Option Bool):Option Bool:=C1 (A1 v3 1) v4 v5 v6
def Awi (a0:Fi)(v3:Int)(v4 v5 v6:List Int)(C1:Int->(List Int)->(List Int)->(List Int)->Option Bool):Option Bool:=if 0<=v3/\v3<v5.length then bif (gt v5 v3)==0 then if 0<=(P2 v3 a0.Du)/\(P2 v3 a0.Du)<=(P2 (A1 v3 1) a0.Du)/\(P2 (A1 v3 1) a0.Du)<=v4.length then(Avp K ((v4.drop (P2 v3 a0.Du).toNat).take ((P2 (A1 v3 1) a0.Du) - (P2 v3 a0.Du)).toNat)).bind fun r9=>bif !r9 then some false else A1o K v3 v4 v5 v6 (C1)else none else A1o K v3 v4 v5 v6 (C1)else none
def Ao3 (a0:Fi):Nat->Int->(List Int)->(List Int)->(List Int)->Option Bool
 |0,_,_,_,_=>none
 |n1+1,v3,v4,v5,v6=>bif decide (v3<a0.Ad)then if 0<=v3/\v3<v5.length then(F2 K (gt v5 v3) 0 2).bind fun r7=>bif !r7 then some false else if 0<=v3/\v3<v5.length then bif (gt v5 v3)==1 then if 0<=v3/\v3<v6.length then(F2 K (gt v6 v3) 0 (Ap a0.Cd 1)).bind fun r8=>bif r8 then if 0<=v3/\v3<v5.length then bif (gt v5 v3) != 1 then if 0<=v3/\v3<v6.length then bif (gt v6 v3) != (-1)then some false else Awi K a0 v3 v4 v5 v6 (Ao3 a0 n1)else none else Awi K a0 v3 v4 v5 v6 (Ao3 a0 n1)else none else some false else none else if 0<=v3/\v3<v5.length then bif (gt v5 v3) != 1 then if 0<=v3/\v3<v6.length then bif (gt v6 v3) != (-1)then some false else Awi K a0 v3 v4 v5 v6 (Ao3 a0 n1)else none else Awi K a0 v3 v4 v5 v6 (Ao3 a0 n1)else none else none else none else some true
def A09 (a0:Fi)(a1:Ef):Option Bool:=(Ap3 K a0).bind fun r1=>bif r1 then(Av0 K a0).bind fun r2=>bif (a1.Fp.length:Int) != r2 then some false else bif (a1.G4.length:Int) != a0.Ad then some false else bif (a1.Fq.length:Int) != a0.Ad then some false else Ao3 K a0 K 0 a1.Fp a1.G4 a1.Fq else some false
def Btd:=fd Tryz.func139 ⟨[.v 33,.v 34],[.v 4],true⟩ (gC (Bf3 K) (gC (A5x K) (gC (Bsy K) (gC (Bj0 K) gN)))) [7,8,9,15,16,17,23,24,25,51,52,61,62,63,64,70,71,85,86] [233,1865]
def Bh3:Fw:=⟨[(2,.p 102),(3,.p 103),(5,.v 2)],[(103,.box bx9),(102,.st 33 true)]⟩
def Bnz:=fun(C58:CT Bh3 _)=>jn (Btd K) 233 Bh3 [(58,ar Bh3 C58)] (fun a b c d e=>A1o K a b c d (fun v3 v4 v5 v6=>C58 v3 v4 v5 v6 e)) kN
def Bk9:=fun(C58:CT Bh3 _)=>jn (Btd K) 1865 Bh3 [(58,ar Bh3 C58)] (fun a b c d e=>Awi K e a b c d (fun v3 v4 v5 v6=>C58 v3 v4 v5 v6 e)) (kC (Bnz K _) kN)
def Bte:=lp (Btd K) 58 Bh3 [] (fun n a b c d e=>Ao3 K e n a b c d) (fun n=>kC (Bk9 K _) kN)
def Bvs:=ct (Btd K) (A09 K) (kC (Bte K K) kN)
def A0i (K:Nat)(a0 a1:Int):Option Int:=bif decide (a1<a0)then some a1 else some a0
def B1s:=ct (fd Tryz.func364 ⟨[.v 3,.v 3],[.v 3],true⟩ gN) (A0i K)
def A1a (K:Nat)(a0:List Int)(a1 a2:Int):Nat->(List Int)->Int->Option (List Int)
 |0,_,_=>none
 |n1+1,v1,v2=>bif decide (v2<a0.length)then bif decide ((Ap v2 a1)<a2)then if 0<=v2/\v2<v1.length then A1a K a0 a1 a2 n1 (v1.set v2.toNat 0) (A1 v2 1)else none else some v1 else some v1
def A5z (a0:List Int)(a1 a2:Int):Option (List Int):=if(([]:List Int)++a0).length*1<=140737488355328/\(([]:List Int)++a0).length<=maxLen then bif decide (a1<0)then some (([]:List Int)++a0)else bif decide (a2<0)then some (([]:List Int)++a0)else A1a K a0 a1 a2 K (([]:List Int)++a0) a1 else none
def B1t:=fd Tryz.func365 ⟨[.v 24,.v 3,.v 3],[.n 24 true],true⟩ gN [13,14,23,24]
def B4w:Fw:=⟨[(0,.v 24),(1,.v 2),(2,.v 2),(7,.o 1007 5 true),(8,.v 2)],[]⟩
def Bn0:=lp B1t 122 B4w [] (fun n a b c=>A1a K a b c n) (fun n=>kN)
def B1u:=ct B1t (A5z K) (kC (Bn0 K K) kN)
def Awj (a0:Fi)(a1:Ef)(a2 a3:Int):Option (Ef×Bool):=(Avo K a1).bind fun r1=>(A09 K a0 a1).bind fun r2=>bif r2 then(F2 K a2 0 (Ap a0.Ad 1)).bind fun r3=>bif r3 then if 0<=a2/\a2<a1.G4.length then bif (gt a1.G4 a2) != 2 then some (r1,false)else(F2 K a3 0 (Ap a0.Du 1)).bind fun r4=>bif !r4 then some (r1,false)else(A0i K (A1 a3 a0.Ce) a0.Du).bind fun r5=>(A5z K a1.Fp (A1 (P2 a2 a0.Du) a3) (Ap r5 a3)).bind fun r6=>bif decide (r5<a0.Du)then some ((Ef.mk r6 r1.G4 r1.Fq),false)else if 0<=(P2 a2 a0.Du)/\(P2 a2 a0.Du)<=(P2 (A1 a2 1) a0.Du)/\(P2 (A1 a2 1) a0.Du)<=r6.length then(Avp K ((r6.drop (P2 a2 a0.Du).toNat).take ((P2 (A1 a2 1) a0.Du) - (P2 a2 a0.Du)).toNat)).bind fun r7=>bif !r7 then(Avo K a1).bind fun r8=>some (r8,false)else if 0<=a2/\a2<r1.G4.length then some ((Ef.mk r6 (r1.G4.set a2.toNat 0) r1.Fq),true)else none else none else none else some (r1,false)else some (r1,false)
def B1v:=ct (fd Tryz.func318 ⟨[.v 33,.v 34,.v 3,.v 3],[.n 34 true,.v 4],true⟩ (gC (Bvs K) (gC (A5x K) (gC (Bjz K) (gC (Bj0 K) (gC (B1s K) (gC (B1u K) gN)))))) [16,17,18,23,24,25,26,32,33,34]) (Awj K)
def Azs (a0:Bo):Option Bo:=if(0:Int)<=0/\0<(a0.fQ.length:Int)then if(0:Int)<=0/\0<(((gt a0.fQ 0).Ad).length:Int)then(Awj K a0.fC a0.fP (gt (gt a0.fQ 0).Ad 0) (gt a0.fQ 0).H2).bind fun r1=>bif r1.2 then if(0:Int)<=1/\1<=(((gt a0.fQ 0).Ad).length:Int)/\(((gt a0.fQ 0).Ad).length:Int)<=(((gt a0.fQ 0).Ad).length:Int)then if(([]:List Int)++(((gt a0.fQ 0).Ad.drop (1:Int).toNat).take (((gt a0.fQ 0).Ad.length:Int) - 1).toNat)).length*8<=140737488355328/\(([]:List Int)++(((gt a0.fQ 0).Ad.drop (1:Int).toNat).take (((gt a0.fQ 0).Ad.length:Int) - 1).toNat)).length<=maxLen then some (Bo.mk a0.fC r1.1 a0.fL (a0.fQ.set (0:Int).toNat (Bb.mk (gt a0.fQ 0).Be (gt a0.fQ 0).Bz (gt a0.fQ 0).Dh (([]:List Int)++(((gt a0.fQ 0).Ad.drop (1:Int).toNat).take (((gt a0.fQ 0).Ad.length:Int) - 1).toNat)) 0)) a0.Jp)else none else none else some (Bo.mk a0.fC r1.1 a0.fL (a0.fQ.set (0:Int).toNat (Bb.mk (gt a0.fQ 0).Be (gt a0.fQ 0).Bz (gt a0.fQ 0).Dh (gt a0.fQ 0).Ad (A1 (gt a0.fQ 0).H2 a0.fC.Ce))) a0.Jp)else none else none
def B1w:=ct (fd Tryz.func272 ⟨[.b 38 false],[],false⟩ (gC (B1v K) gN) [] [] [(0,[.take 1 10 5026]),(1,[.take 1 6 5022,.take 1 7 5023,.take 1 8 5024])]) (Azs K)
def Ap5 (K:Nat)(a0:Az):Option Az:=if(([]:List Int)++a0.Ad).length*8<=140737488355328/\(([]:List Int)++a0.Ad).length<=maxLen then if(([]:List Bn)++a0.D5).length*24<=140737488355328/\(([]:List Bn)++a0.D5).length<=maxLen then if(([]:List Int)++a0.Dh).length*8<=140737488355328/\(([]:List Int)++a0.Dh).length<=maxLen then some (Az.mk a0.G4 a0.C7 a0.Nb a0.fUp a0.G5 a0.Bz a0.G6 a0.G7 (([]:List Int)++a0.Ad) a0.No a0.G8 (([]:List Bn)++a0.D5) (([]:List Int)++a0.Dh))else none else none else none
def Bdw:=ct (fd Tryz.func281 ⟨[.v 77],[.n 77 false],true⟩ gN) (Ap5 K)
def Axm (K:Nat)(v3 v4:Ef):Option Ef:=some v3
def A4u (a0:Ef)(a1:Int):Option Ef:=(Avo K a0).bind fun r1=>(F2 K a1 0 (Ap a0.G4.length 1)).bind fun r2=>bif r2 then bif decide (a1<a0.Fq.length)then if 0<=a1/\a1<a0.G4.length then bif (gt a0.G4 a1)==1 then if 0<=a1/\a1<r1.G4.length then if 0<=a1/\a1<r1.Fq.length then Axm K (Ef.mk r1.Fp (r1.G4.set a1.toNat 2) (r1.Fq.set a1.toNat (-1))) (Ef.mk [] [] [])else none else none else Axm K r1 (Ef.mk [] [] [])else none else Axm K r1 (Ef.mk [] [] [])else Axm K r1 (Ef.mk [] [] [])
def B1x:=fd Tryz.func366 ⟨[.v 34,.v 3],[.n 34 true],true⟩ (gC (A5x K) (gC (Bjz K) gN)) [13,14,19,20,21] [7] [(5,[.take 105 0 6680,.take 105 1 6681,.take 105 2 6682])]
def B1y:Fw:=⟨[(4,.p 104),(5,.p 105)],[(105,.st 34 true),(104,.st 34 true)]⟩
def Bxg:=jn (B1x K) 7 B1y [] (Axm K) kN
def B1z:=ct (B1x K) (A4u K) (kC (Bxg K) kN)
def Ak4 (a1:List Int):Nat->Int->Int->Int->Int->Int->Int->Int->(List Int)->(List Int)->(List Int)->(List Az)->(List Bb)->(List Int)->Option Bo
 |0,_,_,_,_,_,_,_,_,_,_,_,_,_=>none
 |n1+1,v1,v2,v3,v4,v5,v6,v7,v8,v9,v10,v11,v12,v13=>bif decide (v1<a1.length)then if 0<=v1/\v1<a1.length then(A4u K (Ef.mk v8 v9 v10) (gt a1 v1)).bind fun r14=>Ak4 a1 n1 (A1 v1 1) v2 v3 v4 v5 v6 v7 r14.Fp r14.G4 r14.Fq v11 v12 v13 else none else some (Bo.mk (Fi.mk v2 v3 v4 v5 v6 v7) (Ef.mk v8 v9 v10) v11 v12 v13)
def Avq (a0:Bo)(a1:List Int):Option Bo:=Ak4 K a1 K 0 a0.fC.Ad a0.fC.Du a0.fC.Cd a0.fC.Ez a0.fC.Ce a0.fC.Dv a0.fP.Fp a0.fP.G4 a0.fP.Fq a0.fL a0.fQ a0.Jp
def B10:=fd Tryz.func319 ⟨[.b 38 false,.v 25],[],false⟩ (gC (B1z K) gN) [] [] [(3,[.take 1 6 5022,.take 1 7 5023,.take 1 8 5024])]
def B4x:Fw:=⟨[(0,.p 1),(1,.v 25),(4,.v 2)],[(1,.box bx1)]⟩
def Bxh:=lp (B10 K) 6 B4x [] (fun n a=>Ak4 K a n) (fun n=>kN)
def Bn1:=ct (B10 K) (Avq K) (kC (Bxh K K) kN)
def A2k (K:Nat)(a0:Az):Option Az:=some (Az.mk 2 a0.C7 0 0 0 0 0 0 [] 0 0 [] [])
def Bvt:=ct (fd Tryz.func320 ⟨[.v 77],[.n 77 false],true⟩ gN) (A2k K)
def Axn (K:Nat)(a0:Az)(a1:Int):Option Bb:=if(([]:List Int)++a0.Dh).length*8<=140737488355328/\(([]:List Int)++a0.Dh).length<=maxLen then if(([]:List Int)++a0.Ad).length*8<=140737488355328/\(([]:List Int)++a0.Ad).length<=maxLen then some (Bb.mk a1 a0.Bz (([]:List Int)++a0.Dh) (([]:List Int)++a0.Ad) 0)else none else none
def Bn2:=ct (fd Tryz.func279 ⟨[.v 77,.v 3],[.n 79 true],true⟩ gN) (Axn K)
def A1p (K:Nat)(a0:Az)(a1:Int):Option Bb:=if(([]:List Int)++a0.Dh).length*8<=140737488355328/\(([]:List Int)++a0.Dh).length<=maxLen then if(([]:List Int)++a0.Ad).length*8<=140737488355328/\(([]:List Int)++a0.Ad).length<=maxLen then some (Bb.mk a1 a0.Bz (([]:List Int)++a0.Dh) (([]:List Int)++a0.Ad) 0)else none else none
def B11:=ct (fd Tryz.func279 ⟨[.v 77,.v 3],[.v 79],false⟩ gN) (A1p K)
def Aua (r1:Az)(v4 v5:Int)(v6 v7:Int)(v8 v9 v10:Int)(v11 v12 v13:List Int)(v14:List Az)(v15:List Bb)(v16:List Int):Option Bo:=(Avq K (Bo.mk (Fi.mk v5 v6 v7 v8 v9 v10) (Ef.mk v11 v12 v13) v14 v15 v16) r1.Ad).bind fun r17=>(A2k K r1).bind fun r18=>if 0<=v4/\v4<r17.fL.length then(A1p K r1 (A1 v4 1)).bind fun r19=>if(([r19]:List Bb)++r17.fQ).length*72<=140737488355328/\(([r19]:List Bb)++r17.fQ).length<=maxLen then some (Bo.mk r17.fC r17.fP (r17.fL.set v4.toNat r18) (([r19]:List Bb)++r17.fQ) r17.Jp)else none else none
def Axo (a0:Bo):Option Bo:=if(0:Int)<=0/\0<(a0.fQ.length:Int)then if 0<=(Ap (gt a0.fQ 0).Bz 1)/\(Ap (gt a0.fQ 0).Bz 1)<a0.fL.length then if 0<=(Ap (gt a0.fQ 0).Bz 1)/\(Ap (gt a0.fQ 0).Bz 1)<a0.fL.length then(Ap5 K (gt a0.fL (Ap (gt a0.fQ 0).Bz 1))).bind fun r1=>if(0:Int)<=0/\0<(a0.fQ.length:Int)then(Ad9 K a0.fL r1.G6).bind fun r2=>bif r2 then if 0<=(Ap r1.G6 1)/\(Ap r1.G6 1)<a0.fL.length then Au7 (a0.fL.set (Ap r1.G6 1).toNat (Az.mk (gt a0.fL (Ap r1.G6 1)).G4 (gt a0.fL (Ap r1.G6 1)).C7 (gt a0.fL (Ap r1.G6 1)).Nb (gt a0.fL (Ap r1.G6 1)).fUp (gt a0.fL (Ap r1.G6 1)).G5 (gt a0.fL (Ap r1.G6 1)).Bz (gt a0.fL (Ap r1.G6 1)).G6 0 (gt a0.fL (Ap r1.G6 1)).Ad (gt a0.fL (Ap r1.G6 1)).No (gt a0.fL (Ap r1.G6 1)).G8 (gt a0.fL (Ap r1.G6 1)).D5 (gt a0.fL (Ap r1.G6 1)).Dh)) fun v3=>Aua K r1 (Ap (gt a0.fQ 0).Bz 1) a0.fC.Ad a0.fC.Du a0.fC.Cd a0.fC.Ez a0.fC.Ce a0.fC.Dv a0.fP.Fp a0.fP.G4 a0.fP.Fq v3 (a0.fQ.set (0:Int).toNat (Bb.mk (gt a0.fQ 0).Be r1.G6 (gt a0.fQ 0).Dh (gt a0.fQ 0).Ad (gt a0.fQ 0).H2)) a0.Jp else none else Aua K r1 (Ap (gt a0.fQ 0).Bz 1) a0.fC.Ad a0.fC.Du a0.fC.Cd a0.fC.Ez a0.fC.Ce a0.fC.Dv a0.fP.Fp a0.fP.G4 a0.fP.Fq a0.fL (a0.fQ.set (0:Int).toNat (Bb.mk (gt a0.fQ 0).Be r1.G6 (gt a0.fQ 0).Dh (gt a0.fQ 0).Ad (gt a0.fQ 0).H2)) a0.Jp else none else none else none else none
def B12:=fo Tryz.func273 ⟨[.b 38 false],[],false⟩ (gC (Baq K) (gC (Bdw K) (gC (Bn1 K) (gC (Bvt K) gN)))) (oC (d:=60) (gC (B11 K) gN) oN) [] [15] [(0,[.take 1 10 5026]),(1,[.take 1 9 5025,.opn 5025 (.tmp 2),.takeE 5025 11 41611,.takeE 5025 12 41612]),(3,[.put 5025]),(5,[.take 103 8 6656,.frz 6656]),(6,[.take 1 9 5025,.take 103 11 6659,.take 103 12 6660]),(7,[.take 1 10 5026,.frz 6659,.frz 6660])]
def B4y:Fw:=⟨[(0,.p 1),(2,.v 2),(3,.p 103)],[(1,.box bx1),(103,.st 77 false)]⟩
def Btf:=jn (B12 K) 15 B4y [] (fun a b c d e f g h i j k l m o=>Aua K o a b c d e f g h i j k l m) kN
def B13:=ct (B12 K) (Axo K) (kC (Btf K) kN)
def Av1 (a0:List Az):Nat->(List Az)->Int->Option (List Az)
 |0,_,_=>none
 |n1+1,v1,v2=>bif decide (v2<a0.length)then if 0<=v2/\v2<a0.length then(Ap5 K (gt a0 v2)).bind fun r3=>if(v1++[r3]).length*152<=140737488355328/\(v1++[r3]).length<=maxLen then Av1 a0 n1 (v1++[r3]) (A1 v2 1)else none else none else some v1
def Ayg (a0:List Az):Option (List Az):=Av1 K a0 K ([]:List Az) 0
def B14:=fd Tryz.func189 ⟨[.v 35],[.n 35 true],false⟩ (gC (Bdw K) gN) (post:=[(20,[.put 3020])])
def B4z:Fw:=⟨[(0,.v 35),(3,.o 1003 77 true),(4,.v 2)],[]⟩
def Btg:=lp (B14 K) 58 B4z [] (fun n a=>Av1 K a n) (fun n=>kN)
def Bj1:=ct (B14 K) (Ayg K) (kC (Btg K K) kN)
def A2u (K:Nat)(v3:List Az):Option (List Az):=some v3
def A4v (a0:List Az)(a1 a2:Int):Option (List Az):=(Ayg K a0).bind fun r1=>(F2 K a1 0 (Ap a0.length 1)).bind fun r2=>bif !r2 then some r1 else if 0<=a1/\a1<a0.length then bif decide (((gt a0 a1).C7)>=a2)then if 0<=a1/\a1<r1.length then if 0<=a1/\a1<a0.length then if 0<=a1/\a1<r1.length then A2u K (r1.set a1.toNat (Az.mk 3 (gt a0 a1).C7 0 0 0 0 0 0 [] 0 0 [] []))else none else none else none else if 0<=a1/\a1<a0.length then(Amp K (A1 (gt a0 a1).C7 1)).bind fun r4=>if 0<=a1/\a1<r1.length then A2u K (r1.set a1.toNat r4)else none else none else none
def B15:=fd Tryz.func274 ⟨[.v 35,.v 3,.v 3],[.n 35 true],false⟩ (gC (A5x K) (gC (Bj1 K) (gC (Bf4 K) gN))) [] [15] [(5,[.opn 1007 (.tmp 1)])]
def Bxi:Fw:=⟨[(7,.o 1007 77 true)],[]⟩
def Bth:=jn (B15 K) 15 Bxi [] (A2u K) kN
def B16:=ct (B15 K) (A4v K) (kC (Bth K) kN)
def Aub (K:Nat)(v6 v7:Int)(v8 v9:Int)(v10 v11:Int)(v12 v13 v14:List Int)(v15:List Az)(v16:List Bb)(v17:List Int):Option Bo:=if(0:Int)<=1/\1<=(v16.length:Int)/\(v16.length:Int)<=v16.length then if(([]:List Bb)++((v16.drop (1:Int).toNat).take ((v16.length:Int) - 1).toNat)).length*72<=140737488355328/\(([]:List Bb)++((v16.drop (1:Int).toNat).take ((v16.length:Int) - 1).toNat)).length<=maxLen then some (Bo.mk (Fi.mk v6 v7 v8 v9 v10 v11) (Ef.mk v12 v13 v14) v15 (([]:List Bb)++((v16.drop (1:Int).toNat).take ((v16.length:Int) - 1).toNat)) v17)else none else none
def Av2 (a0:Bo):Option Bo:=if(0:Int)<=0/\0<(a0.fQ.length:Int)then(A3v K (gt a0.fQ 0)).bind fun r1=>bif r1==1 then(Ay4 K a0).bind fun r2=>some r2 else bif r1==2 then(Azs K a0).bind fun r3=>some r3 else bif r1==3 then(Axo K a0).bind fun r4=>some r4 else if(0:Int)<=0/\0<(a0.fQ.length:Int)then bif (gt a0.fQ 0).Be != 0 then if(0:Int)<=0/\0<(a0.fQ.length:Int)then(A4v K a0.fL (Ap (gt a0.fQ 0).Be 1) a0.fC.Dv).bind fun r5=>Aub K a0.fC.Ad a0.fC.Du a0.fC.Cd a0.fC.Ez a0.fC.Ce a0.fC.Dv a0.fP.Fp a0.fP.G4 a0.fP.Fq r5 a0.fQ a0.Jp else none else Aub K a0.fC.Ad a0.fC.Du a0.fC.Cd a0.fC.Ez a0.fC.Ce a0.fC.Dv a0.fP.Fp a0.fP.G4 a0.fP.Fq a0.fL a0.fQ a0.Jp else none else none
def B17:=fd Tryz.func172 ⟨[.b 38 false],[],false⟩ (gC (B1p K) (gC (B1q K) (gC (B1w K) (gC (B13 K) (gC (B16 K) gN))))) [] [447] [(0,[.take 1 10 5026]),(2,[.take 1 9 5025,.frz 5025]),(3,[.take 1 10 5026]),(5,[.put 1]),(7,[.put 1]),(9,[.put 1])] [(39,[.shal 3039])]
def B40:Fw:=⟨[(0,.p 1)],[(1,.box bx1)]⟩
def Bn3:=jn (B17 K) 447 B40 [] (Aub K) kN
def Bvu:=ct (B17 K) (Av2 K) (kC (Bn3 K) kN)
def Ayo (v1 v2:Int)(v3 v4:Int)(v5 v6 v7:Int)(v8 v9 v10:List Int)(v11:List Az)(v12:List Bb)(v13:List Int)(C1:Int->Int->Int->Int->Int->Int->Int->(List Int)->(List Int)->(List Int)->(List Az)->(List Bb)->(List Int)->Option (Int×Bo)):Option (Int×Bo):=(Av2 K (Bo.mk (Fi.mk v2 v3 v4 v5 v6 v7) (Ef.mk v8 v9 v10) v11 v12 v13)).bind fun r15=>C1 (A1 v1 1) r15.fC.Ad r15.fC.Du r15.fC.Cd r15.fC.Ez r15.fC.Ce r15.fC.Dv r15.fP.Fp r15.fP.G4 r15.fP.Fq r15.fL r15.fQ r15.Jp
def Au5 (a1 a2:Int):Nat->Int->Int->Int->Int->Int->Int->Int->(List Int)->(List Int)->(List Int)->(List Az)->(List Bb)->(List Int)->Option (Int×Bo)
 |0,_,_,_,_,_,_,_,_,_,_,_,_,_=>none
 |n1+1,v1,v2,v3,v4,v5,v6,v7,v8,v9,v10,v11,v12,v13=>bif decide ((v12.length:Int)>0)then(Aux K v11 0).bind fun r14=>bif decide (r14<a1)then Ayo K v1 v2 v3 v4 v5 v6 v7 v8 v9 v10 v11 v12 v13 (Au5 a1 a2 n1)else bif decide (a2>0)then(A1n K (Ef.mk v8 v9 v10) a2).bind fun r16=>bif decide (r16<0)then Ayo K v1 v2 v3 v4 v5 v6 v7 v8 v9 v10 v11 v12 v13 (Au5 a1 a2 n1)else some (v1,(Bo.mk (Fi.mk v2 v3 v4 v5 v6 v7) (Ef.mk v8 v9 v10) v11 v12 v13))else some (v1,(Bo.mk (Fi.mk v2 v3 v4 v5 v6 v7) (Ef.mk v8 v9 v10) v11 v12 v13))else some (v1,(Bo.mk (Fi.mk v2 v3 v4 v5 v6 v7) (Ef.mk v8 v9 v10) v11 v12 v13))
def A1b (a0:Bo)(a1 a2:Int):Option (Int×Bo):=Au5 K a1 a2 K 0 a0.fC.Ad a0.fC.Du a0.fC.Cd a0.fC.Ez a0.fC.Ce a0.fC.Dv a0.fP.Fp a0.fP.G4 a0.fP.Fq a0.fL a0.fQ a0.Jp
def Bxj:=fd Tryz.func345 ⟨[.b 38 false,.v 3,.v 3],[.v 3],false⟩ (gC (Bvu K) (gC (Bvp K) (gC (Bvr K) gN))) [13,14,21,22,24,25] [56] [(2,[.take 1 10 5026,.take 1 9 5025,.take 1 6 5022,.take 1 7 5023,.take 1 8 5024])]
def Bti:Fw:=⟨[(0,.p 1),(1,.v 2),(2,.v 2),(7,.v 2)],[(1,.box bx1)]⟩
def Btj:=fun(C28:CT Bti _)=>jn (Bxj K) 56 Bti [(28,ar Bti C28)] (fun a b c d e f g h i j k l m o p=>Ayo K c d e f g h i j k l m o p (C28 a b)) kN
def Btk:=lp (Bxj K) 28 Bti [] (fun n a b=>Au5 K a b n) (fun n=>kC (Btj K _) kN)
def Bn4:=ct (Bxj K) (A1b K) (kC (Btk K K) kN)
def Av3 (K:Nat)(a0:List Az):Nat->Int->Option Int
 |0,_=>none
 |n1+1,v1=>bif decide (v1<a0.length)then if 0<=v1/\v1<a0.length then bif (gt a0 v1).G4==0 then some v1 else Av3 K a0 n1 (A1 v1 1)else none else some (-1)
def A3r (a0:List Az):Option Int:=Av3 K a0 K 0
def B18:=fd Tryz.func346 ⟨[.v 35],[.v 3],true⟩ gN
def Bn5:Fw:=⟨[(0,.v 35),(3,.v 2)],[]⟩
def Btl:=lp B18 26 Bn5 [] (fun n a=>Av3 K a n) (fun n=>kN)
def B19:=ct B18 (A3r K) (kC (Btl K K) kN)
def Av4 (K:Nat):Nat->Int->(List Int)->(List Int)->(List Int)->Option Int
 |0,_,_,_,_=>none
 |n1+1,v1,v2,v3,v4=>bif decide (v1<v3.length)then if 0<=v1/\v1<v3.length then bif (gt v3 v1)==0 then some v1 else Av4 K n1 (A1 v1 1) v2 v3 v4 else none else some (-1)
def A0j (a0:Ef):Option Int:=Av4 K K 0 a0.Fp a0.G4 a0.Fq
def B2a:=fd Tryz.func347 ⟨[.v 34],[.v 3],true⟩ gN
def B41:Fw:=⟨[(1,.p 101),(3,.v 2)],[(101,.box bx9)]⟩
def Btm:=lp B2a 26 B41 [] (Av4 K) (fun n=>kN)
def Bvv:=ct B2a (A0j K) (kC (Btm K K) kN)
def Axp (K:Nat)(a1 a2 a3:Int):Nat->Int->Ef->Ef->Option Ef
 |0,_,_,_=>none
 |n1+1,v3,v4,v5=>bif decide (v3<(A1 a1 a2))then if 0<=v3/\v3<v4.G4.length then if 0<=v3/\v3<v4.Fq.length then Axp K a1 a2 a3 n1 (A1 v3 1) (Ef.mk v4.Fp (v4.G4.set v3.toNat 1) (v4.Fq.set v3.toNat a3)) v5 else none else none else some v4
def Av5 (a0:Ef)(a1 a2 a3:Int):Option Ef:=(Avo K a0).bind fun r1=>(A08 K a0 a1 a2).bind fun r2=>bif r2 then bif (a0.Fq.length:Int) != (a0.G4.length:Int)then some r1 else Axp K a1 a2 a3 K a1 r1 (Ef.mk [] [] [])else some r1
def B2b:=fd Tryz.func348 ⟨[.v 34,.v 3,.v 3,.v 3],[.n 34 true],true⟩ (gC (Bjz K) (gC (Bvq K) gN)) [16,17,18] [] [(7,[.take 109 1 6745]),(8,[.take 109 2 6746]),(9,[.take 109 0 6744,.take 109 1 6745,.take 109 2 6746])]
def B42:Fw:=⟨[(1,.v 2),(2,.v 2),(3,.v 2),(8,.p 108),(9,.p 109),(10,.v 2)],[(109,.st 34 true),(108,.st 34 true)]⟩
def Bn6:=lp (B2b K) 122 B42 [] (fun n a b c=>Axp K a b c n) (fun n=>kN)
def Bn7:=ct (B2b K) (Av5 K) (kC (Bn6 K K) kN)
def A50 (K:Nat)(a0:Az):Option Bool:=bif a0.Nb==0 then bif a0.fUp==0 then bif a0.G5==0 then bif a0.Bz==0 then bif a0.G6==0 then bif a0.G7==0 then bif (a0.Ad.length:Int)==0 then bif a0.No==0 then bif a0.G8==0 then bif (a0.D5.length:Int)==0 then some ((a0.Dh.length:Int)==0)else some false else some false else some false else some false else some false else some false else some false else some false else some false else some false
def B2c:=ct (fd Tryz.func239 ⟨[.v 77],[.v 4],true⟩ gN [5,6,9,10,11,14,15,16,19,20,21,24,25,26,29,30,31,35,36,37,40,41,42,45,46,47,51,52,53]) (A50 K)
def Azt (K:Nat)(a0:List Int)(a1:Int):Nat->Int->Option Bool
 |0,_=>none
 |n1+1,v1=>bif decide (v1<a0.length)then if 0<=v1/\v1<a0.length then bif (gt a0 v1)==a1 then some true else Azt K a0 a1 n1 (A1 v1 1)else none else some false
def Aun (a0:List Int)(a1:Int):Option Bool:=Azt K a0 a1 K 0
def B2d:=fd Tryz.func242 ⟨[.v 25,.v 3],[.v 4],true⟩ gN
def B43:Fw:=⟨[(0,.v 25),(1,.v 2),(5,.v 2)],[]⟩
def Btn:=lp B2d 26 B43 [] (fun n a b=>Azt K a b n) (fun n=>kN)
def Bf7:=ct B2d (Aun K) (kC (Btn K K) kN)
def Asj (a0:Fi):Nat->Int->Int->Int->Int->Int->Int->Int->Int->Int->(List Int)->Int->Int->(List Bn)->(List Int)->Option Bool
 |0,_,_,_,_,_,_,_,_,_,_,_,_,_,_=>none
 |n1+1,v1,v2,v3,v4,v5,v6,v7,v8,v9,v10,v11,v12,v13,v14=>bif decide (v1<v10.length)then if 0<=v1/\v1<v10.length then(F2 K (gt v10 v1) 0 (Ap a0.Ad 1)).bind fun r15=>bif r15 then if(0:Int)<=0/\0<=v1/\v1<=v10.length then if 0<=v1/\v1<v10.length then(Aun K ((v10.drop (0:Int).toNat).take (v1 - 0).toNat) (gt v10 v1)).bind fun r16=>bif r16 then some false else Asj a0 n1 (A1 v1 1) v2 v3 v4 v5 v6 v7 v8 v9 v10 v11 v12 v13 v14 else none else none else some false else none else bif v11==0 then some (v12==0)else(Aun K v10 (Ap v11 1)).bind fun r17=>bif r17 then(F2 K v12 0 a0.Du).bind fun r18=>some r18 else some false
def A1q (a0:Fi)(a1:Az):Option Bool:=Asj K a0 K 0 a1.G4 a1.C7 a1.Nb a1.fUp a1.G5 a1.Bz a1.G6 a1.G7 a1.Ad a1.No a1.G8 a1.D5 a1.Dh
def B2e:=fd Tryz.func240 ⟨[.v 33,.v 77],[.v 4],true⟩ (gC (A5x K) (gC (Bf7 K) gN)) [21,22,23,46,47]
def Bn8:Fw:=⟨[(2,.p 102),(3,.p 103),(5,.v 2)],[(103,.box bx4),(102,.st 33 true)]⟩
def Bto:=lp (B2e K) 26 Bn8 [] (fun n a b c d e f g h i j k l m o p=>Asj K p n a b c d e f g h i j k l m o) (fun n=>kN)
def B2f:=ct (B2e K) (A1q K) (kC (Bto K K) kN)
def Asl (K:Nat)(a0:Fi)(a1:Int):Option Bool:=some (decide (a1>a0.Du))
def Bn9:=ct (fd Tryz.func302 ⟨[.v 33,.v 3],[.v 4],true⟩ gN) (Asl K)
def A2v (a0 a1:Int):Option Int:=(F2 K a0 0 1000000000).bind fun r1=>bif r1 then(F2 K a1 1 1000000000).bind fun r2=>bif !r2 then some 0 else if a1≠(0:Int)then some (Apq .i64 (Ap (A1 a0 a1) 1) a1)else none else some 0
def B2g:=ct (fd Tryz.func322 ⟨[.v 3,.v 3],[.v 3],true⟩ (gC (A5x K) gN) [6,7,8]) (A2v K)
def Ao7 (a0:Fi)(a1:Int):Option Int:=(A2v K a1 a0.Du).bind fun r1=>some r1
def Boa:=ct (fd Tryz.func303 ⟨[.v 33,.v 3],[.v 3],true⟩ (gC (B2g K) gN)) (Ao7 K)
def Axq (a0:Fi)(a1:Bn):Option Bool:=(Av0 K a0).bind fun r1=>bif r1==0 then some false else bif decide (a1.Yg<1)then some false else bif decide (a1.fAt<0)then some false else bif decide (a1.fAt>r1)then some false else bif decide (a1.Yg>(Ap r1 a1.fAt))then some false else bif a1.Yh==0 then bif decide (a1.Yg<=a0.Du)then if a0.Du≠(0:Int)then if a0.Du≠(0:Int)then some ((Apq .i64 a1.fAt a0.Du)==(Apq .i64 (Ap (A1 a1.fAt a1.Yg) 1) a0.Du))else none else none else some false else(Asl K a0 a1.Yg).bind fun r2=>bif r2 then(Ao7 K a0 a1.Yg).bind fun r3=>bif a1.Yh==r3 then if a0.Du≠(0:Int)then some ((Int.tmod a1.fAt a0.Du)==0)else none else some false else some false
def Bvw:=ct (fd Tryz.func241 ⟨[.v 33,.v 183],[.v 4],true⟩ (gC (Bsy K) (gC (Bn9 K) (gC (Boa K) gN))) [9,10,13,14,15,18,19,20,24,25,26,42,43,63,64,71,72,73]) (Axq K)
def Au6 (v23:List Int):Nat->Int->Option Bool
 |0,_=>none
 |n2+1,v25=>bif decide (v25<v23.length)then if 0<=v25/\v25<v23.length then(F2 K (gt v23 v25) 0 255).bind fun r26=>bif !r26 then some false else Au6 v23 n2 (A1 v25 1)else none else some true
def At1 (a0:Fi):Nat->Int->Int->Int->Int->Int->Int->Int->Int->Int->(List Int)->Int->Int->(List Bn)->(List Int)->Option Bool
 |0,_,_,_,_,_,_,_,_,_,_,_,_,_,_=>none
 |n1+1,v10,v11,v12,v13,v14,v15,v16,v17,v18,v19,v20,v21,v22,v23=>bif decide (v10<v22.length)then if 0<=v10/\v10<v22.length then(Axq K a0 (gt v22 v10)).bind fun r24=>bif !r24 then some false else At1 a0 n1 (A1 v10 1) v11 v12 v13 v14 v15 v16 v17 v18 v19 v20 v21 v22 v23 else none else Au6 K v23 K 0
def Auo (a0:Fi)(a1:Az):Option Bool:=(Ap3 K a0).bind fun r1=>bif r1 then(F2 K a1.G4 0 3).bind fun r2=>bif r2 then(F2 K a1.C7 1 a0.Dv).bind fun r3=>bif !r3 then some false else bif a1.G4 != 1 then(A50 K a1).bind fun r4=>some r4 else bif decide (a1.Nb<0)then some false else bif decide (a1.G5<0)then some false else(F2 K a1.fUp 0 a0.Cd).bind fun r5=>bif r5 then(F2 K a1.Bz 0 a0.Cd).bind fun r6=>bif r6 then(F2 K a1.G6 0 a0.Cd).bind fun r7=>bif r7 then(F2 K a1.G7 0 a0.Cd).bind fun r8=>bif r8 then(A1q K a0 a1).bind fun r9=>bif r9 then bif decide ((a1.D5.length:Int)>12)then some false else bif decide ((a1.Dh.length:Int)>6)then some false else At1 K a0 K 0 a1.G4 a1.C7 a1.Nb a1.fUp a1.G5 a1.Bz a1.G6 a1.G7 a1.Ad a1.No a1.G8 a1.D5 a1.Dh else some false else some false else some false else some false else some false else some false else some false
def Bxk:=fd Tryz.func141 ⟨[.v 33,.v 77],[.v 4],true⟩ (gC (Bf3 K) (gC (A5x K) (gC (B2c K) (gC (B2f K) (gC (Bvw K) gN))))) [8,9,10,13,14,15,16,31,32,35,36,37,42,43,44,45,50,51,52,53,58,59,60,61,66,67,68,69,72,73,74,75,79,80,81]
def B44:Fw:=⟨[(3,.p 103),(6,.v 2)],[(103,.box bx4)]⟩
def Bob:=lp (Bxk K) 506 B44 [] (fun n a _ _ _ _ _ _ _ _ _ _ _ _ o=>Au6 K o n a) (fun n=>kN)
def Boc:=lp (Bxk K) 250 Bn8 [] (fun n a b c d e f g h i j k l m o p=>At1 K p n a b c d e f g h i j k l m o) (fun n=>kC (up (Bob K K)) kN)
def Bdx:=ct (Bxk K) (Auo K) (kC (Boc K K) kN)
def Ay5 (a0:Fi)(a1:Az)(a2:Int):Option (Az×Bool):=(Ap5 K a1).bind fun r1=>bif a1.G4 != 1 then some (r1,false)else(F2 K a2 0 (Ap a0.Ad 1)).bind fun r2=>bif !r2 then some (r1,false)else if(r1.Ad++([a2]:List Int)).length*8<=140737488355328/\(r1.Ad++([a2]:List Int)).length<=maxLen then(Auo K a0 (Az.mk r1.G4 r1.C7 r1.Nb r1.fUp r1.G5 r1.Bz r1.G6 r1.G7 (r1.Ad++([a2]:List Int)) (A1 a2 1) 0 r1.D5 r1.Dh)).bind fun r3=>bif !r3 then(Ap5 K a1).bind fun r4=>some (r4,false)else some ((Az.mk r1.G4 r1.C7 r1.Nb r1.fUp r1.G5 r1.Bz r1.G6 r1.G7 (r1.Ad++([a2]:List Int)) (A1 a2 1) 0 r1.D5 r1.Dh),true)else none
def Bod:=ct (fd Tryz.func349 ⟨[.v 33,.v 77,.v 3],[.n 77 false,.v 4],true⟩ (gC (Bdx K) (gC (A5x K) (gC (Bdw K) gN))) [13,14]) (Ay5 K)
def A3w (K:Nat)(v11:List Az):Option (List Az):=some v11
def A2l (a0:List Az)(a1 a2:Int):Option (List Az):=(Ayg K a0).bind fun r1=>(Ad9 K a0 (A1 a1 1)).bind fun r2=>bif r2 then(Ad9 K a0 (A1 a2 1)).bind fun r3=>bif r3 then bif a1==a2 then some r1 else if 0<=a1/\a1<a0.length then if 0<=a2/\a2<r1.length then Au7 (r1.set a2.toNat (Az.mk (gt r1 a2).G4 (gt r1 a2).C7 (gt r1 a2).Nb (A1 a1 1) (gt r1 a2).G5 (gt r1 a2).Bz (gt r1 a2).G6 (gt r1 a2).G7 (gt r1 a2).Ad (gt r1 a2).No (gt r1 a2).G8 (gt r1 a2).D5 (gt r1 a2).Dh)) fun v4=>if 0<=a1/\a1<a0.length then if 0<=a2/\a2<v4.length then Au7 (v4.set a2.toNat (Az.mk (gt v4 a2).G4 (gt v4 a2).C7 (gt v4 a2).Nb (gt v4 a2).fUp (gt a0 a1).Nb (gt v4 a2).Bz (gt v4 a2).G6 (gt v4 a2).G7 (gt v4 a2).Ad (gt v4 a2).No (gt v4 a2).G8 (gt v4 a2).D5 (gt v4 a2).Dh)) fun v5=>if 0<=a2/\a2<v5.length then Au7 (v5.set a2.toNat (Az.mk (gt v5 a2).G4 (gt v5 a2).C7 (gt v5 a2).Nb (gt v5 a2).fUp (gt v5 a2).G5 (gt v5 a2).Bz (gt a0 a1).Bz (gt v5 a2).G7 (gt v5 a2).Ad (gt v5 a2).No (gt v5 a2).G8 (gt v5 a2).D5 (gt v5 a2).Dh)) fun v6=>if 0<=a2/\a2<v6.length then Au7 (v6.set a2.toNat (Az.mk (gt v6 a2).G4 (gt v6 a2).C7 (gt v6 a2).Nb (gt v6 a2).fUp (gt v6 a2).G5 (gt v6 a2).Bz (gt v6 a2).G6 0 (gt v6 a2).Ad (gt v6 a2).No (gt v6 a2).G8 (gt v6 a2).D5 (gt v6 a2).Dh)) fun v7=>if 0<=a1/\a1<v7.length then Au7 (v7.set a1.toNat (Az.mk (gt v7 a1).G4 (gt v7 a1).C7 (gt v7 a1).Nb (gt v7 a1).fUp (gt v7 a1).G5 (A1 a2 1) (gt v7 a1).G6 (gt v7 a1).G7 (gt v7 a1).Ad (gt v7 a1).No (gt v7 a1).G8 (gt v7 a1).D5 (gt v7 a1).Dh)) fun v8=>(Ad9 K a0 (gt a0 a1).Bz).bind fun r9=>bif r9 then if 0<=(Ap (gt a0 a1).Bz 1)/\(Ap (gt a0 a1).Bz 1)<v8.length then Au7 (v8.set (Ap (gt a0 a1).Bz 1).toNat (Az.mk (gt v8 (Ap (gt a0 a1).Bz 1)).G4 (gt v8 (Ap (gt a0 a1).Bz 1)).C7 (gt v8 (Ap (gt a0 a1).Bz 1)).Nb (gt v8 (Ap (gt a0 a1).Bz 1)).fUp (gt v8 (Ap (gt a0 a1).Bz 1)).G5 (gt v8 (Ap (gt a0 a1).Bz 1)).Bz (gt v8 (Ap (gt a0 a1).Bz 1)).G6 (A1 a2 1) (gt v8 (Ap (gt a0 a1).Bz 1)).Ad (gt v8 (Ap (gt a0 a1).Bz 1)).No (gt v8 (Ap (gt a0 a1).Bz 1)).G8 (gt v8 (Ap (gt a0 a1).Bz 1)).D5 (gt v8 (Ap (gt a0 a1).Bz 1)).Dh)) fun v10=>A3w K v10 else none else A3w K v8 else none else none else none else none else none else none else none else some r1 else some r1
def B2h:=fd Tryz.func350 ⟨[.v 35,.v 3,.v 3],[.n 35 true],false⟩ (gC (Bj1 K) (gC (Baq K) gN)) [14,15,16,20,21,22,23] [1023]
def Bla:=jn (B2h K) 1023 Bxi [] (A3w K) kN
def B2i:=ct (B2h K) (A2l K) (kC (Bla K) kN)
def Auc (a1:Int):Nat->Int->Int->Int->Int->Int->Int->Int->(List Int)->(List Int)->(List Int)->(List Az)->(List Bb)->(List Int)->Option (Int×Bo)
 |0,_,_,_,_,_,_,_,_,_,_,_,_,_=>none
 |n1+1,v1,v2,v3,v4,v5,v6,v7,v8,v9,v10,v11,v12,v13=>bif decide (v1<a1)then bif (v12.length:Int)==0 then some (v1,(Bo.mk (Fi.mk v2 v3 v4 v5 v6 v7) (Ef.mk v8 v9 v10) v11 v12 v13))else(Av2 K (Bo.mk (Fi.mk v2 v3 v4 v5 v6 v7) (Ef.mk v8 v9 v10) v11 v12 v13)).bind fun r14=>Auc a1 n1 (A1 v1 1) r14.fC.Ad r14.fC.Du r14.fC.Cd r14.fC.Ez r14.fC.Ce r14.fC.Dv r14.fP.Fp r14.fP.G4 r14.fP.Fq r14.fL r14.fQ r14.Jp else some (a1,(Bo.mk (Fi.mk v2 v3 v4 v5 v6 v7) (Ef.mk v8 v9 v10) v11 v12 v13))
def Av6 (a0:Bo)(a1:Int):Option (Int×Bo):=Auc K a1 K 0 a0.fC.Ad a0.fC.Du a0.fC.Cd a0.fC.Ez a0.fC.Ce a0.fC.Dv a0.fP.Fp a0.fP.G4 a0.fP.Fq a0.fL a0.fQ a0.Jp
def B2j:=fd Tryz.func86 ⟨[.b 38 false,.v 3],[.v 3],false⟩ (gC (Bvu K) gN) [] [] [(4,[.take 1 10 5026]),(6,[.put 1])]
def B45:Fw:=⟨[(0,.p 1),(1,.v 2),(5,.v 2)],[(1,.box bx1)]⟩
def Btp:=lp (B2j K) 26 B45 [] (fun n a=>Auc K a n) (fun n=>kN)
def Bj2:=ct (B2j K) (Av6 K) (kC (Btp K K) kN)
def Axr (r19 v25:Int)(v26 v27:Int)(v28 v29 v30:Int)(v31 v32 v33:List Int)(v34:List Az)(v35:List Bb)(v36:List Int)(v37:F8):Option (F8×Bo):=(Aym K v34 r19).bind fun r38=>(Av6 K (Bo.mk (Fi.mk v25 v26 v27 v28 v29 v30) (Ef.mk v31 v32 v33) v34 v35 v36) v28).bind fun r39=>some ((F8.mk v37.Aab r38 v37.fR v37.fB v37.Aac r39.1 v37.R2),r39.2)
def Art (v3 v4:Int)(v5 v6:Int)(v7 v8 v9:Int)(v10 v11 v12:List Int)(v13:List Az)(v14:List Bb)(v15:List Int)(v16 v17:F8):Option (F8×Bo):=bif v16.Aab != 0 then some (v16,(Bo.mk (Fi.mk v4 v5 v6 v7 v8 v9) (Ef.mk v10 v11 v12) v13 v14 v15))else(A1b K (Bo.mk (Fi.mk v4 v5 v6 v7 v8 v9) (Ef.mk v10 v11 v12) v13 v14 v15) 1 1).bind fun r18=>(A3r K r18.2.fL).bind fun r19=>(A0j K r18.2.fP).bind fun r20=>bif decide (r19<0)then some ((F8.mk 5 (Ch.mk 0 0) (Fb.mk (Ch.mk 0 0) 0 0) [] 0 0 0),r18.2)else bif decide (r20<0)then some ((F8.mk 5 (Ch.mk 0 0) (Fb.mk (Ch.mk 0 0) 0 0) [] 0 0 0),r18.2)else if 0<=r19/\r19<r18.2.fL.length then(Amp K (gt r18.2.fL r19).C7).bind fun r21=>(Av5 K r18.2.fP r20 1 r19).bind fun r22=>(Ay5 K r18.2.fC (Az.mk 1 r21.C7 r21.Nb r21.fUp r21.G5 r21.Bz r21.G6 r21.G7 r21.Ad r21.No r21.G8 r21.D5 r21.Dh) r20).bind fun r23=>if 0<=r19/\r19<r18.2.fL.length then bif decide (v3>=0)then(A2l K (r18.2.fL.set r19.toNat r23.1) v3 r19).bind fun r24=>Axr K r19 r18.2.fC.Ad r18.2.fC.Du r18.2.fC.Cd r18.2.fC.Ez r18.2.fC.Ce r18.2.fC.Dv r22.Fp r22.G4 r22.Fq r24 r18.2.fQ r18.2.Jp (F8.mk v16.Aab v16.fH v16.fR v16.fB v16.Aac v16.Ez r18.1)else Axr K r19 r18.2.fC.Ad r18.2.fC.Du r18.2.fC.Cd r18.2.fC.Ez r18.2.fC.Ce r18.2.fC.Dv r22.Fp r22.G4 r22.Fq (r18.2.fL.set r19.toNat r23.1) r18.2.fQ r18.2.Jp (F8.mk v16.Aab v16.fH v16.fR v16.fB v16.Aac v16.Ez r18.1)else none else none
def Axs (v41:Int)(v42:Bool)(v43 v44:Int)(v45 v46:Int)(v47 v48:Int)(v49 v50 v51:List Int)(v52:List Az)(v53:List Bb)(v54:List Int)(v55 v56:F8):Option (F8×Bo):=bif v42 then Art K v41 v43 v44 v45 v46 v47 v48 v49 v50 v51 v52 v53 v54 (F8.mk 3 v55.fH v55.fR v55.fB v55.Aac v55.Ez v55.R2) v56 else(A4j K (Bo.mk (Fi.mk v43 v44 v45 v46 v47 v48) (Ef.mk v49 v50 v51) v52 v53 v54)).bind fun r57=>bif r57==0 then Art K v41 v43 v44 v45 v46 v47 v48 v49 v50 v51 v52 v53 v54 (F8.mk 4 v55.fH v55.fR v55.fB v55.Aac v55.Ez v55.R2) v56 else(Awf K (Bo.mk (Fi.mk v43 v44 v45 v46 v47 v48) (Ef.mk v49 v50 v51) v52 v53 v54) 1).bind fun r58=>bif !r58 then Art K v41 v43 v44 v45 v46 v47 v48 v49 v50 v51 v52 v53 v54 (F8.mk 5 v55.fH v55.fR v55.fB v55.Aac v55.Ez v55.R2) v56 else Art K v41 v43 v44 v45 v46 v47 v48 v49 v50 v51 v52 v53 v54 v55 v56
def A2w (a0:Bo)(a1:Ch):Option (F8×Bo):=(A4t K a0 a1).bind fun r1=>(Asi K a0 a1).bind fun r2=>bif r1.2 != 0 then Art K r1.1 a0.fC.Ad a0.fC.Du a0.fC.Cd a0.fC.Ez a0.fC.Ce a0.fC.Dv a0.fP.Fp a0.fP.G4 a0.fP.Fq a0.fL a0.fQ a0.Jp (F8.mk r1.2 (Ch.mk 0 0) (Fb.mk (Ch.mk 0 0) 0 0) [] r2 0 0) (F8.mk 0 (Ch.mk 0 0) (Fb.mk (Ch.mk 0 0) 0 0) [] 0 0 0)else bif decide (r1.1>=0)then(A07 K a0.fL r1.1).bind fun r40=>Axs K r1.1 (decide (r40>=4)) a0.fC.Ad a0.fC.Du a0.fC.Cd a0.fC.Ez a0.fC.Ce a0.fC.Dv a0.fP.Fp a0.fP.G4 a0.fP.Fq a0.fL a0.fQ a0.Jp (F8.mk r1.2 (Ch.mk 0 0) (Fb.mk (Ch.mk 0 0) 0 0) [] r2 0 0) (F8.mk 0 (Ch.mk 0 0) (Fb.mk (Ch.mk 0 0) 0 0) [] 0 0 0)else Axs K r1.1 false a0.fC.Ad a0.fC.Du a0.fC.Cd a0.fC.Ez a0.fC.Ce a0.fC.Dv a0.fP.Fp a0.fP.G4 a0.fP.Fq a0.fL a0.fQ a0.Jp (F8.mk r1.2 (Ch.mk 0 0) (Fb.mk (Ch.mk 0 0) 0 0) [] r2 0 0) (F8.mk 0 (Ch.mk 0 0) (Fb.mk (Ch.mk 0 0) 0 0) [] 0 0 0)
def Btq:=fd Tryz.func305 ⟨[.b 38 false,.v 40],[.n 44 true],false⟩ (gC (Bnx K) (gC (Bj2 K) (gC (Bvj K) (gC (Bf4 K) (gC (Bbv K) (gC (B1j K) (gC (Bvn K) (gC (B1k K) (gC (Bn4 K) (gC (B19 K) (gC (Bvv K) (gC (Bn7 K) (gC (Bod K) (gC (B2i K) gN)))))))))))))) [31,32,74,75] [15,243,32767] [(1,[.take 1 6 5022,.take 1 7 5023,.take 1 8 5024,.take 1 9 5025,.take 1 10 5026,.take 1 11 5027]),(6,[.take 1 6 5022,.take 1 7 5023,.take 1 8 5024,.take 1 9 5025,.take 1 10 5026,.take 1 11 5027]),(11,[.take 107 7 6719]),(13,[.take 1 9 5025]),(14,[.take 1 6 5022,.take 1 7 5023,.take 1 8 5024]),(23,[.put 5025,.frz 5025]),(24,[.take 1 9 5025]),(25,[.put 1]),(26,[.take 107 7 6719])]
def B46:Fw:=⟨[(0,.p 1),(4,.p 104),(7,.p 107),(8,.v 2)],[(1,.box bx1),(107,.st 44 true),(104,.st 44 true)]⟩
def B47:Fw:=⟨[(0,.p 1),(4,.p 104),(5,.v 2),(7,.p 107)],[(1,.box bx1),(107,.st 44 true),(104,.st 44 true)]⟩
def B48:Fw:=⟨[(0,.p 1),(4,.p 104),(5,.v 2),(7,.p 107),(29,.v 4)],[(1,.box bx1),(107,.st 44 true),(104,.st 44 true)]⟩
def Bh4:=jn (Btq K) 32767 B46 [] (fun a b c d e f g h i j k l m o _=>Axr K a b c d e f g h i j k l m o) kN
def Bj3:=jn (Btq K) 15 B47 [] (Art K) (kC (Bh4 K) kN)
def Boe:=jn (Btq K) 243 B48 [] (Axs K) (kC (Bj3 K) kN)
def B2k:=ct (Btq K) (A2w K) (kC (Bj3 K) (kC (Boe K) kN))
def Av7 (K:Nat)(a0:Int):Option Bool:=bif a0==1 then some true else bif a0==2 then some true else some (a0==4)
def Bj4:=ct (fd Tryz.func351 ⟨[.v 3],[.v 4],true⟩ gN [4,5,7,8,9]) (Av7 K)
def Api (a0:Fi)(a2 a3 r6:Int):Nat->Int->Az->Az->Int->Int->Int->Int->Int->Int->Int->Int->(List Int)->Int->Int->(List Bn)->(List Int)->Option (Az×Bool)
 |0,_,_,_,_,_,_,_,_,_,_,_,_,_,_,_,_=>none
 |n1+1,v7,v8,v9,v10,v11,v12,v13,v14,v15,v16,v17,v18,v19,v20,v21,v22=>bif decide (v7<r6)then if(v8.Ad++([(A1 a2 v7)]:List Int)).length*8<=140737488355328/\(v8.Ad++([(A1 a2 v7)]:List Int)).length<=maxLen then Api a0 a2 a3 r6 n1 (A1 v7 1) (Az.mk v8.G4 v8.C7 v8.Nb v8.fUp v8.G5 v8.Bz v8.G6 v8.G7 (v8.Ad++([(A1 a2 v7)]:List Int)) v8.No v8.G8 v8.D5 v8.Dh) v9 v10 v11 v12 v13 v14 v15 v16 v17 v18 v19 v20 v21 v22 else none else if(v8.D5++([(Bn.mk (P2 a2 a0.Du) a3 r6)]:List Bn)).length*24<=140737488355328/\(v8.D5++([(Bn.mk (P2 a2 a0.Du) a3 r6)]:List Bn)).length<=maxLen then(Auo K a0 (Az.mk v8.G4 v8.C7 v8.Nb v8.fUp v8.G5 v8.Bz v8.G6 v8.G7 v8.Ad v8.No v8.G8 (v8.D5++([(Bn.mk (P2 a2 a0.Du) a3 r6)]:List Bn)) v8.Dh)).bind fun r23=>bif !r23 then(Ap5 K (Az.mk v10 v11 v12 v13 v14 v15 v16 v17 v18 v19 v20 v21 v22)).bind fun r24=>some (r24,false)else some ((Az.mk v8.G4 v8.C7 v8.Nb v8.fUp v8.G5 v8.Bz v8.G6 v8.G7 v8.Ad v8.No v8.G8 (v8.D5++([(Bn.mk (P2 a2 a0.Du) a3 r6)]:List Bn)) v8.Dh),true)else none
def Au8 (a0:Fi)(a1:Az)(a2 a3:Int):Option (Az×Bool):=(Ap5 K a1).bind fun r1=>(Ap3 K a0).bind fun r2=>bif r2 then bif a1.G4 != 1 then some (r1,false)else(Asl K a0 a3).bind fun r3=>bif r3 then(Av0 K a0).bind fun r4=>bif decide (a3>r4)then some (r1,false)else(F2 K a2 0 (Ap a0.Ad 1)).bind fun r5=>bif !r5 then some (r1,false)else(Ao7 K a0 a3).bind fun r6=>Api K a0 a2 a3 r6 K 0 r1 (Az.mk 0 0 0 0 0 0 0 0 [] 0 0 [] []) a1.G4 a1.C7 a1.Nb a1.fUp a1.G5 a1.Bz a1.G6 a1.G7 a1.Ad a1.No a1.G8 a1.D5 a1.Dh else some (r1,false)else some (r1,false)
def B2l:=fd Tryz.func374 ⟨[.v 33,.v 77,.v 3,.v 3],[.n 77 false,.v 4],true⟩ (gC (Bf3 K) (gC (Bdx K) (gC (A5x K) (gC (Bsy K) (gC (Bdw K) (gC (Bn9 K) (gC (Boa K) gN))))))) [16,17,18,21,22,23,26,27,28,29,33,34,35] [] [(8,[.take 110 8 6768]),(9,[.take 110 11 6771]),(10,[.take 110 8 6768,.take 110 12 6772])]
def B49:Fw:=⟨[(2,.v 2),(3,.v 2),(4,.p 104),(5,.p 105),(8,.p 108),(10,.p 110),(11,.v 2),(12,.v 2)],[(110,.st 77 false),(108,.st 77 false),(105,.box bx4),(104,.st 33 true)]⟩
def Bof:=lp (B2l K) 250 B49 [] (fun n a b c d e f g h i j k l m o p q r s t u=>Api K u a b c n d e f g h i j k l m o p q r s t) (fun n=>kN)
def Bvx:=ct (B2l K) (Au8 K) (kC (Bof K K) kN)
def A1r (a0:Bo)(a1 a2:Int)(a3:F8):Option (F8×Bo):=(Ao7 K a0.fC a2).bind fun r1=>(Awf K a0 r1).bind fun r2=>bif !r2 then some ((F8.mk 5 a3.fH a3.fR a3.fB a3.Aac a3.Ez a3.R2),a0)else(A1b K a0 0 r1).bind fun r3=>(A1n K r3.2.fP r1).bind fun r4=>bif decide (r4<0)then some ((F8.mk 6 a3.fH a3.fR a3.fB a3.Aac a3.Ez r3.1),r3.2)else(Av5 K r3.2.fP r4 r1 a1).bind fun r5=>if 0<=a1/\a1<r3.2.fL.length then if 0<=a1/\a1<r3.2.fL.length then(Au8 K r3.2.fC (gt r3.2.fL a1) r4 a2).bind fun r6=>if 0<=a1/\a1<r3.2.fL.length then some ((F8.mk a3.Aab a3.fH a3.fR a3.fB a3.Aac a3.Ez r3.1),(Bo.mk r3.2.fC r5 (r3.2.fL.set a1.toNat r6.1) r3.2.fQ r3.2.Jp))else none else none else none
def B2m:=ct (fd Tryz.func352 ⟨[.b 38 false,.v 3,.v 3,.v 44],[.v 44],false⟩ (gC (Bnx K) (gC (Boa K) (gC (Bn4 K) (gC (Bn7 K) (gC (Bvx K) (gC (Bvr K) gN)))))) [] [] [(2,[.take 1 6 5022,.take 1 7 5023,.take 1 8 5024,.take 1 9 5025,.take 1 10 5026,.take 1 11 5027]),(5,[.put 1]),(6,[.take 1 6 5022,.take 1 7 5023,.take 1 8 5024]),(11,[.take 1 9 5025,.opn 5025 (.tmp 1),.takeE 5025 11 41611,.takeE 5025 12 41612])]) (A1r K)
def A2x (a0 a1:Int):Option Int:=(F2 K a0 0 1000000000).bind fun r1=>bif r1 then(Av7 K a1).bind fun r2=>bif !r2 then some 0 else if a1≠(0:Int)then some (P2 (Apq .i64 (Ap (A1 a0 a1) 1) a1) a1)else none else some 0
def B2n:=ct (fd Tryz.func390 ⟨[.v 3,.v 3],[.v 3],true⟩ (gC (A5x K) (gC (Bj4 K) gN)) [6,7,8]) (A2x K)
def A1c (a0:Fi)(a1:Az)(a2 a3:Int):Option (Int×Bool):=(Auo K a0 a1).bind fun r1=>bif r1 then bif a1.No==0 then some (0,false)else(F2 K a2 1 a0.Du).bind fun r2=>bif r2 then(Av7 K a3).bind fun r3=>bif !r3 then some (0,false)else(A2x K a1.G8 a3).bind fun r4=>bif decide ((A1 r4 a2)>a0.Du)then some (0,false)else some ((A1 (P2 (Ap a1.No 1) a0.Du) r4),true)else some (0,false)else some (0,false)
def Bvy:=ct (fd Tryz.func384 ⟨[.v 33,.v 77,.v 3,.v 3],[.v 3,.v 4],true⟩ (gC (Bdx K) (gC (A5x K) (gC (Bj4 K) (gC (B2n K) gN)))) [13,14,15,18,19,20,24,25,26,27]) (A1c K)
def Azb (a0:Fi)(a1:Az)(a2 a3:Int):Option Bool:=(A1c K a0 a1 a2 a3).bind fun r1=>bif r1.2 then some false else(Auo K a0 a1).bind fun r2=>bif r2 then bif a1.G4==1 then(F2 K a2 1 a0.Du).bind fun r3=>bif r3 then(Av7 K a3).bind fun r4=>some r4 else some false else some false else some false
def B2o:=ct (fd Tryz.func377 ⟨[.v 33,.v 77,.v 3,.v 3],[.v 4],true⟩ (gC (Bdx K) (gC (A5x K) (gC (Bj4 K) (gC (Bvy K) gN)))) [19,20,21,24,25,26,29,30,31,35,36,37]) (Azb K)
def Ayp (a0:Fi)(a1:Az)(a2 a3:Int):Option (Az×Bool):=(Ap5 K a1).bind fun r1=>(A1c K a0 a1 a2 a3).bind fun r2=>bif r2.2 then bif decide ((a1.D5.length:Int)>=12)then some (r1,false)else if(r1.D5++([(Bn.mk r2.1 a2 0)]:List Bn)).length*24<=140737488355328/\(r1.D5++([(Bn.mk r2.1 a2 0)]:List Bn)).length<=maxLen then some ((Az.mk r1.G4 r1.C7 r1.Nb r1.fUp r1.G5 r1.Bz r1.G6 r1.G7 r1.Ad r1.No (A1 (Ap r2.1 (P2 (Ap a1.No 1) a0.Du)) a2) (r1.D5++([(Bn.mk r2.1 a2 0)]:List Bn)) r1.Dh),true)else none else some (r1,false)
def Bvz:=ct (fd Tryz.func373 ⟨[.v 33,.v 77,.v 3,.v 3],[.n 77 false,.v 4],true⟩ (gC (Bdw K) (gC (Bvy K) gN)) [23,24,25]) (Ayp K)
def Aws (a1 a2:Int)(a3 v7:Int)(v8 v9:Int)(v10 v11 v12:Int)(v13 v14 v15:List Int)(v16:List Az)(v17:List Bb)(v18:List Int)(v19:F8)(v20 v21:Int)(v22 v23:Int)(v24 v25 v26:Int)(v27:List Int)(v28 v29 v30:Int):Option (F8×Bo):=if 0<=a1/\a1<v16.length then if 0<=a1/\a1<v16.length then(Ayp K (Fi.mk v7 v8 v9 v10 v11 v12) (gt v16 a1) a2 a3).bind fun r31=>if 0<=a1/\a1<v16.length then some ((F8.mk v20 (Ch.mk v21 v22) (Fb.mk (Ch.mk v23 v24) v25 v26) v27 v28 v29 v30),(Bo.mk (Fi.mk v7 v8 v9 v10 v11 v12) (Ef.mk v13 v14 v15) (v16.set a1.toNat r31.1) v17 v18))else none else none else none
def A1s (a0:Bo)(a1 a2 a3:Int)(a4:F8):Option (F8×Bo):=if 0<=a1/\a1<a0.fL.length then if 0<=a1/\a1<a0.fL.length then(Azb K a0.fC (gt a0.fL a1) a2 a3).bind fun r1=>bif r1 then(Awf K a0 1).bind fun r2=>bif !r2 then some ((F8.mk 5 a4.fH a4.fR a4.fB a4.Aac a4.Ez a4.R2),a0)else(A1b K a0 0 1).bind fun r3=>(A0j K r3.2.fP).bind fun r4=>bif decide (r4<0)then some ((F8.mk 5 a4.fH a4.fR a4.fB a4.Aac a4.Ez r3.1),r3.2)else(Av5 K r3.2.fP r4 1 a1).bind fun r5=>if 0<=a1/\a1<r3.2.fL.length then if 0<=a1/\a1<r3.2.fL.length then(Ay5 K r3.2.fC (gt r3.2.fL a1) r4).bind fun r6=>if 0<=a1/\a1<r3.2.fL.length then Aws K a1 a2 a3 r3.2.fC.Ad r3.2.fC.Du r3.2.fC.Cd r3.2.fC.Ez r3.2.fC.Ce r3.2.fC.Dv r5.Fp r5.G4 r5.Fq (r3.2.fL.set a1.toNat r6.1) r3.2.fQ r3.2.Jp (F8.mk 0 (Ch.mk 0 0) (Fb.mk (Ch.mk 0 0) 0 0) [] 0 0 0) a4.Aab a4.fH.Be a4.fH.C7 a4.fR.fH.Be a4.fR.fH.C7 a4.fR.Nb a4.fR.fNo a4.fB a4.Aac a4.Ez r3.1 else none else none else none else Aws K a1 a2 a3 a0.fC.Ad a0.fC.Du a0.fC.Cd a0.fC.Ez a0.fC.Ce a0.fC.Dv a0.fP.Fp a0.fP.G4 a0.fP.Fq a0.fL a0.fQ a0.Jp (F8.mk 0 (Ch.mk 0 0) (Fb.mk (Ch.mk 0 0) 0 0) [] 0 0 0) a4.Aab a4.fH.Be a4.fH.C7 a4.fR.fH.Be a4.fR.fH.C7 a4.fR.Nb a4.fR.fNo a4.fB a4.Aac a4.Ez a4.R2 else none else none
def B2p:=fd Tryz.func353 ⟨[.b 38 false,.v 3,.v 3,.v 3,.v 44],[.v 44],false⟩ (gC (Bnx K) (gC (Bn4 K) (gC (Bvv K) (gC (Bn7 K) (gC (Bod K) (gC (Bvz K) (gC (B2o K) gN))))))) [] [3] [(1,[.take 1 9 5025,.opn 5025 (.tmp 1),.takeE 5025 11 41611,.takeE 5025 12 41612]),(2,[.take 1 6 5022,.take 1 7 5023,.take 1 8 5024,.take 1 10 5026,.take 1 11 5027,.put 5025]),(5,[.put 1]),(6,[.take 1 6 5022,.take 1 7 5023,.take 1 8 5024]),(11,[.take 1 9 5025,.opn 5025 (.tmp 1),.takeE 5025 11 41611,.takeE 5025 12 41612]),(13,[.take 1 9 5025,.opn 5025 (.tmp 1),.takeE 5025 11 41611,.takeE 5025 12 41612])]
def B5a:Fw:=⟨[(0,.p 1),(1,.v 2),(2,.v 2),(3,.v 2),(9,.p 109),(10,.p 110)],[(1,.box bx1),(110,.st 44 true),(109,.box bx5)]⟩
def Bxl:=jn (B2p K) 3 B5a [] (Aws K) kN
def B2q:=ct (B2p K) (A1s K) (kC (Bxl K) kN)
def Awt (a1:Ch)(v5 v22:Int)(v23 v24:Int)(v25 v26 v27:Int)(v28 v29 v30:List Int)(v31:List Az)(v32:List Bb)(v33:List Int)(v34 v35:Int)(v36 v37:Int)(v38 v39 v40:Int)(v41:List Int)(v42 v43 v44:Int):Option (F8×Bo):=bif v34 != 0 then some ((F8.mk v34 (Ch.mk v35 v36) (Fb.mk (Ch.mk v37 v38) v39 v40) v41 v42 v43 v44),(Bo.mk (Fi.mk v22 v23 v24 v25 v26 v27) (Ef.mk v28 v29 v30) v31 v32 v33))else if 0<=v5/\v5<v31.length then if 0<=v5/\v5<v31.length then if 0<=v5/\v5<v31.length then(Av6 K (Bo.mk (Fi.mk v22 v23 v24 v25 v26 v27) (Ef.mk v28 v29 v30) v31 v32 v33) v25).bind fun r45=>some ((F8.mk v34 (Ch.mk v35 v36) (Fb.mk a1 (gt v31 v5).Nb (Ap (((gt v31 v5).D5).length:Int) 1)) v41 v42 r45.1 v44),r45.2)else none else none else none
def Auy (a1:Ch)(a2 a3:Int)(v5 v6:Int)(v7 v8:Int)(v9 v10 v11:Int)(v12 v13 v14:List Int)(v15:List Az)(v16:List Bb)(v17:List Int)(v18 v19:F8):Option (F8×Bo):=bif v18.Aab != 0 then some (v18,(Bo.mk (Fi.mk v6 v7 v8 v9 v10 v11) (Ef.mk v12 v13 v14) v15 v16 v17))else(Asl K (Fi.mk v6 v7 v8 v9 v10 v11) a2).bind fun r20=>bif r20 then(A1r K (Bo.mk (Fi.mk v6 v7 v8 v9 v10 v11) (Ef.mk v12 v13 v14) v15 v16 v17) v5 a2 v18).bind fun r21=>Awt K a1 v5 r21.2.fC.Ad r21.2.fC.Du r21.2.fC.Cd r21.2.fC.Ez r21.2.fC.Ce r21.2.fC.Dv r21.2.fP.Fp r21.2.fP.G4 r21.2.fP.Fq r21.2.fL r21.2.fQ r21.2.Jp r21.1.Aab r21.1.fH.Be r21.1.fH.C7 r21.1.fR.fH.Be r21.1.fR.fH.C7 r21.1.fR.Nb r21.1.fR.fNo r21.1.fB r21.1.Aac r21.1.Ez r21.1.R2 else(A1s K (Bo.mk (Fi.mk v6 v7 v8 v9 v10 v11) (Ef.mk v12 v13 v14) v15 v16 v17) v5 a2 a3 v18).bind fun r46=>Awt K a1 v5 r46.2.fC.Ad r46.2.fC.Du r46.2.fC.Cd r46.2.fC.Ez r46.2.fC.Ce r46.2.fC.Dv r46.2.fP.Fp r46.2.fP.G4 r46.2.fP.Fq r46.2.fL r46.2.fQ r46.2.Jp r46.1.Aab r46.1.fH.Be r46.1.fH.C7 r46.1.fR.fH.Be r46.1.fR.fH.C7 r46.1.fR.Nb r46.1.fR.fNo r46.1.fB r46.1.Aac r46.1.Ez r46.1.R2
def A1t (a0:Bo)(a1:Ch)(a2 a3:Int):Option (F8×Bo):=(F2 K a2 1 200).bind fun r1=>bif r1 then(Av7 K a3).bind fun r2=>bif !r2 then some ((F8.mk 1 (Ch.mk 0 0) (Fb.mk (Ch.mk 0 0) 0 0) [] 0 0 0),a0)else(Arl K a0 a1).bind fun r3=>(Asi K a0 a1).bind fun r4=>bif r3.2==0 then if 0<=r3.1/\r3.1<a0.fL.length then if 0<=r3.1/\r3.1<a0.fL.length then bif decide (((gt a0.fL r3.1).D5.length:Int)>=12)then Auy K a1 a2 a3 r3.1 a0.fC.Ad a0.fC.Du a0.fC.Cd a0.fC.Ez a0.fC.Ce a0.fC.Dv a0.fP.Fp a0.fP.G4 a0.fP.Fq a0.fL a0.fQ a0.Jp (F8.mk 8 (Ch.mk 0 0) (Fb.mk (Ch.mk 0 0) 0 0) [] r4 0 0) (F8.mk 0 (Ch.mk 0 0) (Fb.mk (Ch.mk 0 0) 0 0) [] 0 0 0)else Auy K a1 a2 a3 r3.1 a0.fC.Ad a0.fC.Du a0.fC.Cd a0.fC.Ez a0.fC.Ce a0.fC.Dv a0.fP.Fp a0.fP.G4 a0.fP.Fq a0.fL a0.fQ a0.Jp (F8.mk r3.2 (Ch.mk 0 0) (Fb.mk (Ch.mk 0 0) 0 0) [] r4 0 0) (F8.mk 0 (Ch.mk 0 0) (Fb.mk (Ch.mk 0 0) 0 0) [] 0 0 0)else none else none else Auy K a1 a2 a3 r3.1 a0.fC.Ad a0.fC.Du a0.fC.Cd a0.fC.Ez a0.fC.Ce a0.fC.Dv a0.fP.Fp a0.fP.G4 a0.fP.Fq a0.fL a0.fQ a0.Jp (F8.mk r3.2 (Ch.mk 0 0) (Fb.mk (Ch.mk 0 0) 0 0) [] r4 0 0) (F8.mk 0 (Ch.mk 0 0) (Fb.mk (Ch.mk 0 0) 0 0) [] 0 0 0)else some ((F8.mk 1 (Ch.mk 0 0) (Fb.mk (Ch.mk 0 0) 0 0) [] 0 0 0),a0)
def Bxm:=fd Tryz.func306 ⟨[.b 38 false,.v 40,.v 3,.v 3],[.v 44],false⟩ (gC (Bj2 K) (gC (A5x K) (gC (Bn9 K) (gC (Bdv K) (gC (Bbv K) (gC (Bj4 K) (gC (B2m K) (gC (B2q K) gN)))))))) [13,14,15,37,38] [31,127] [(3,[.take 1 6 5022,.take 1 7 5023,.take 1 8 5024,.take 1 9 5025,.take 1 10 5026,.take 1 11 5027]),(8,[.take 111 7 6783]),(10,[.take 111 7 6783,.frz 6783]),(11,[.take 111 7 6783,.frz 6783]),(14,[.take 1 9 5025,.opn 5025 (.tmp 9),.takeE 5025 11 41611]),(15,[.put 1])] [(43,[.opn 5025 (.tmp 43)]),(45,[.takeE 5025 11 41611])]
def B5b:Fw:=⟨[(0,.p 1),(5,.p 105),(8,.p 108),(9,.v 2),(11,.p 111)],[(1,.box bx1),(111,.box bx5),(108,.st 44 true),(105,.st 40 true)]⟩
def B5c:Fw:=⟨[(0,.p 1),(2,.v 2),(3,.v 2),(5,.p 105),(8,.p 108),(9,.v 2),(11,.p 111)],[(1,.box bx1),(111,.st 44 true),(108,.st 44 true),(105,.st 40 true)]⟩
def Bog:=jn (Bxm K) 127 B5b [] (fun a b c d e f g h i j k l m o p q r s t u v w x y _ a1=>Awt K a1 a b c d e f g h i j k l m o p q r s t u v w x y) kN
def Btr:=jn (Bxm K) 31 B5c [] (fun a b c d e f g h i j k l m o p q r s=>Auy K s a b c d e f g h i j k l m o p q r) (kC (Bog K) kN)
def B2r:=ct (Bxm K) (A1t K) (kC (Btr K) kN)
def A2y (a0:Az):Option Az:=(Ap5 K a0).bind fun r1=>some (Az.mk r1.G4 r1.C7 (A1 a0.Nb 1) r1.fUp r1.G5 0 r1.G6 r1.G7 ([]:List Int) 0 0 ([]:List Bn) ([]:List Int))
def B2s:=ct (fd Tryz.func356 ⟨[.v 77],[.n 77 false],true⟩ (gC (Bdw K) gN)) (A2y K)
def Azc (a0:Bo)(a1:Int):Option Bo:=if 0<=a1/\a1<a0.fL.length then if 0<=a1/\a1<a0.fL.length then(Axn K (gt a0.fL a1) 0).bind fun r1=>if 0<=a1/\a1<a0.fL.length then(Avq K a0 (gt a0.fL a1).Ad).bind fun r2=>if 0<=a1/\a1<r2.fL.length then if 0<=a1/\a1<r2.fL.length then(A2y K (gt r2.fL a1)).bind fun r3=>if 0<=a1/\a1<r2.fL.length then if(r2.fQ++([r1]:List Bb)).length*72<=140737488355328/\(r2.fQ++([r1]:List Bb)).length<=maxLen then some (Bo.mk r2.fC r2.fP (r2.fL.set a1.toNat r3) (r2.fQ++([r1]:List Bb)) r2.Jp)else none else none else none else none else none else none else none
def B2t:=ct (fd Tryz.func309 ⟨[.b 38 false,.v 3],[],false⟩ (gC (Bn2 K) (gC (Bn1 K) (gC (B2s K) gN))) [] [] [(0,[.take 1 9 5025,.opn 5025 (.tmp 1),.takeE 5025 11 41611,.takeE 5025 12 41612]),(1,[.put 1,.take 1 9 5025]),(2,[.take 1 9 5025,.opn 5025 (.tmp 1),.takeE 5025 11 41611,.takeE 5025 12 41612]),(3,[.take 1 10 5026,.frz 20384,.frz 20385])] [(21,[.put 1])]) (Azc K)
def Ayq (K:Nat)(a1:Int)(v21:List Az):Option (List Az):=if 0<=a1/\a1<v21.length then Au7 (v21.set a1.toNat (Az.mk (gt v21 a1).G4 (gt v21 a1).C7 (gt v21 a1).Nb 0 (gt v21 a1).G5 (gt v21 a1).Bz (gt v21 a1).G6 (gt v21 a1).G7 (gt v21 a1).Ad (gt v21 a1).No (gt v21 a1).G8 (gt v21 a1).D5 (gt v21 a1).Dh)) fun v22=>if 0<=a1/\a1<v22.length then Au7 (v22.set a1.toNat (Az.mk (gt v22 a1).G4 (gt v22 a1).C7 (gt v22 a1).Nb (gt v22 a1).fUp 0 (gt v22 a1).Bz (gt v22 a1).G6 (gt v22 a1).G7 (gt v22 a1).Ad (gt v22 a1).No (gt v22 a1).G8 (gt v22 a1).D5 (gt v22 a1).Dh)) fun v23=>if 0<=a1/\a1<v23.length then Au7 (v23.set a1.toNat (Az.mk (gt v23 a1).G4 (gt v23 a1).C7 (gt v23 a1).Nb (gt v23 a1).fUp (gt v23 a1).G5 (gt v23 a1).Bz 0 (gt v23 a1).G7 (gt v23 a1).Ad (gt v23 a1).No (gt v23 a1).G8 (gt v23 a1).D5 (gt v23 a1).Dh)) fun v24=>if 0<=a1/\a1<v24.length then Au7 (v24.set a1.toNat (Az.mk (gt v24 a1).G4 (gt v24 a1).C7 (gt v24 a1).Nb (gt v24 a1).fUp (gt v24 a1).G5 (gt v24 a1).Bz (gt v24 a1).G6 0 (gt v24 a1).Ad (gt v24 a1).No (gt v24 a1).G8 (gt v24 a1).D5 (gt v24 a1).Dh)) fun v25=>some v25 else none else none else none else none
def Awk (a0:List Az)(a1:Int)(v5:List Az)(v6 v7:Int)(v8 v9:Int)(v10 v11:Int)(v12 v13:Int)(v14:List Int)(v15 v16:Int)(v17:List Bn)(v18:List Int):Option (List Az):=(Ad9 K a0 v12).bind fun r19=>bif r19 then if 0<=(Ap v12 1)/\(Ap v12 1)<v5.length then Au7 (v5.set (Ap v12 1).toNat (Az.mk (gt v5 (Ap v12 1)).G4 (gt v5 (Ap v12 1)).C7 (gt v5 (Ap v12 1)).Nb (gt v5 (Ap v12 1)).fUp (gt v5 (Ap v12 1)).G5 (gt v5 (Ap v12 1)).Bz (gt v5 (Ap v12 1)).G6 v13 (gt v5 (Ap v12 1)).Ad (gt v5 (Ap v12 1)).No (gt v5 (Ap v12 1)).G8 (gt v5 (Ap v12 1)).D5 (gt v5 (Ap v12 1)).Dh)) fun v20=>Ayq K a1 v20 else none else Ayq K a1 v5
def Au9 (a0:List Az)(a1:Int)(r1:(List Az))(v27:Bool)(v28 v29:Int)(v30 v31:Int)(v32 v33:Int)(v34 v35:Int)(v36:List Int)(v37 v38:Int)(v39:List Bn)(v40:List Int):Option (List Az):=bif v27 then if 0<=(Ap v31 1)/\(Ap v31 1)<r1.length then Au7 (r1.set (Ap v31 1).toNat (Az.mk (gt r1 (Ap v31 1)).G4 (gt r1 (Ap v31 1)).C7 (gt r1 (Ap v31 1)).Nb (gt r1 (Ap v31 1)).fUp (gt r1 (Ap v31 1)).G5 v34 (gt r1 (Ap v31 1)).G6 (gt r1 (Ap v31 1)).G7 (gt r1 (Ap v31 1)).Ad (gt r1 (Ap v31 1)).No (gt r1 (Ap v31 1)).G8 (gt r1 (Ap v31 1)).D5 (gt r1 (Ap v31 1)).Dh)) fun v41=>Awk K a0 a1 v41 v28 v29 v30 v31 v32 v33 v34 v35 v36 v37 v38 v39 v40 else none else Awk K a0 a1 r1 v28 v29 v30 v31 v32 v33 v34 v35 v36 v37 v38 v39 v40
def A3x (a0:List Az)(a1:Int):Option (List Az):=(Ayg K a0).bind fun r1=>(Ad9 K a0 (A1 a1 1)).bind fun r2=>bif !r2 then some r1 else if 0<=a1/\a1<a0.length then(Ad9 K a0 (gt a0 a1).G7).bind fun r3=>bif r3 then if 0<=(Ap (gt a0 a1).G7 1)/\(Ap (gt a0 a1).G7 1)<r1.length then Au7 (r1.set (Ap (gt a0 a1).G7 1).toNat (Az.mk (gt r1 (Ap (gt a0 a1).G7 1)).G4 (gt r1 (Ap (gt a0 a1).G7 1)).C7 (gt r1 (Ap (gt a0 a1).G7 1)).Nb (gt r1 (Ap (gt a0 a1).G7 1)).fUp (gt r1 (Ap (gt a0 a1).G7 1)).G5 (gt r1 (Ap (gt a0 a1).G7 1)).Bz (gt a0 a1).G6 (gt r1 (Ap (gt a0 a1).G7 1)).G7 (gt r1 (Ap (gt a0 a1).G7 1)).Ad (gt r1 (Ap (gt a0 a1).G7 1)).No (gt r1 (Ap (gt a0 a1).G7 1)).G8 (gt r1 (Ap (gt a0 a1).G7 1)).D5 (gt r1 (Ap (gt a0 a1).G7 1)).Dh)) fun v4=>Awk K a0 a1 v4 (gt a0 a1).G4 (gt a0 a1).C7 (gt a0 a1).Nb (gt a0 a1).fUp (gt a0 a1).G5 (gt a0 a1).Bz (gt a0 a1).G6 (gt a0 a1).G7 (gt a0 a1).Ad (gt a0 a1).No (gt a0 a1).G8 (gt a0 a1).D5 (gt a0 a1).Dh else none else bif (gt a0 a1).G7==0 then(Ad9 K a0 (gt a0 a1).fUp).bind fun r26=>bif r26 then if 0<=(Ap (gt a0 a1).fUp 1)/\(Ap (gt a0 a1).fUp 1)<a0.length then Au9 K a0 a1 r1 (((gt a0 (Ap (gt a0 a1).fUp 1)).Bz)==(A1 a1 1)) (gt a0 a1).G4 (gt a0 a1).C7 (gt a0 a1).Nb (gt a0 a1).fUp (gt a0 a1).G5 (gt a0 a1).Bz (gt a0 a1).G6 (gt a0 a1).G7 (gt a0 a1).Ad (gt a0 a1).No (gt a0 a1).G8 (gt a0 a1).D5 (gt a0 a1).Dh else none else Au9 K a0 a1 r1 false (gt a0 a1).G4 (gt a0 a1).C7 (gt a0 a1).Nb (gt a0 a1).fUp (gt a0 a1).G5 (gt a0 a1).Bz (gt a0 a1).G6 (gt a0 a1).G7 (gt a0 a1).Ad (gt a0 a1).No (gt a0 a1).G8 (gt a0 a1).D5 (gt a0 a1).Dh else Au9 K a0 a1 r1 false (gt a0 a1).G4 (gt a0 a1).C7 (gt a0 a1).Nb (gt a0 a1).fUp (gt a0 a1).G5 (gt a0 a1).Bz (gt a0 a1).G6 (gt a0 a1).G7 (gt a0 a1).Ad (gt a0 a1).No (gt a0 a1).G8 (gt a0 a1).D5 (gt a0 a1).Dh else none
def Bts:=fd Tryz.func357 ⟨[.v 35,.v 3],[.n 35 true],false⟩ (gC (Bj1 K) (gC (Baq K) gN)) [35,36,40,41,42] [31,63,499]
def B5d:Fw:=⟨[(1,.v 2),(5,.o 1005 77 true)],[]⟩
def B5e:Fw:=⟨[(0,.v 35),(1,.v 2),(5,.o 1005 77 true),(6,.p 106)],[(106,.box bx4)]⟩
def B5f:Fw:=⟨[(0,.v 35),(1,.v 2),(5,.o 1005 77 true),(6,.p 106),(32,.v 4)],[(106,.box bx4)]⟩
def Btt:=jn (Bts K) 63 B5d [] (Ayq K) kN
def Bj5:=jn (Bts K) 31 B5e [] (Awk K) (kC (Btt K) kN)
def Boh:=jn (Bts K) 499 B5f [] (Au9 K) (kC (Bj5 K) kN)
def B2u:=ct (Bts K) (A3x K) (kC (Bj5 K) (kC (Boh K) kN))
def A1u (a0:Bo)(a1:Int):Option Bo:=if 0<=a1/\a1<a0.fL.length then if 0<=a1/\a1<a0.fL.length then(Axn K (gt a0.fL a1) (A1 a1 1)).bind fun r1=>if 0<=a1/\a1<a0.fL.length then(Avq K a0 (gt a0.fL a1).Ad).bind fun r2=>(A3x K r2.fL a1).bind fun r3=>if 0<=a1/\a1<r3.length then if 0<=a1/\a1<r3.length then(A2k K (gt r3 a1)).bind fun r4=>if 0<=a1/\a1<r3.length then if(r2.fQ++([r1]:List Bb)).length*72<=140737488355328/\(r2.fQ++([r1]:List Bb)).length<=maxLen then some (Bo.mk r2.fC r2.fP (r3.set a1.toNat r4) (r2.fQ++([r1]:List Bb)) r2.Jp)else none else none else none else none else none else none else none
def B2v:=ct (fd Tryz.func310 ⟨[.b 38 false,.v 3],[],false⟩ (gC (Bn2 K) (gC (Bn1 K) (gC (Bvt K) (gC (B2u K) gN)))) [] [] [(0,[.take 1 9 5025,.opn 5025 (.tmp 1),.takeE 5025 11 41611,.takeE 5025 12 41612]),(1,[.put 1,.take 1 9 5025]),(2,[.take 1 9 5025,.frz 5025]),(3,[.opn 3031 (.tmp 1),.takeE 3031 11 41995,.takeE 3031 12 41996]),(4,[.take 1 10 5026,.frz 20448,.frz 20449])] [(23,[.put 1])]) (A1u K)
def A2z (K:Nat)(a0:Bb):Option Bb:=if(([]:List Int)++a0.Dh).length*8<=140737488355328/\(([]:List Int)++a0.Dh).length<=maxLen then if(([]:List Int)++a0.Ad).length*8<=140737488355328/\(([]:List Int)++a0.Ad).length<=maxLen then some (Bb.mk a0.Be a0.Bz (([]:List Int)++a0.Dh) (([]:List Int)++a0.Ad) a0.H2)else none else none
def B2w:=ct (fd Tryz.func190 ⟨[.v 79],[.n 79 true],true⟩ gN) (A2z K)
def Aue:Nat->Int->Int->Int->Int->Int->Int->Int->(List Int)->(List Int)->(List Int)->(List Az)->(List Bb)->(List Int)->Bo->Int->Int->Int->Int->Int->Int->(List Int)->(List Int)->(List Int)->(List Az)->(List Bb)->(List Int)->Option Bo
 |0,_,_,_,_,_,_,_,_,_,_,_,_,_,_,_,_,_,_,_,_,_,_,_,_,_,_=>none
 |n1+1,v3,v4,v5,v6,v7,v8,v9,v10,v11,v12,v13,v14,v15,v16,v17,v18,v19,v20,v21,v22,v23,v24,v25,v26,v27,v28=>bif decide (v3<v27.length)then if 0<=v3/\v3<v27.length then(A2z K (gt v27 v3)).bind fun r29=>if(v14++[r29]).length*72<=140737488355328/\(v14++[r29]).length<=maxLen then Aue n1 (A1 v3 1) v4 v5 v6 v7 v8 v9 v10 v11 v12 v13 (v14++[r29]) v15 v16 v17 v18 v19 v20 v21 v22 v23 v24 v25 v26 v27 v28 else none else none else if(([]:List Int)++v28).length*8<=140737488355328/\(([]:List Int)++v28).length<=maxLen then some (Bo.mk (Fi.mk v4 v5 v6 v7 v8 v9) (Ef.mk v10 v11 v12) v13 v14 (([]:List Int)++v28))else none
def Asm (a0:Bo):Option Bo:=(Avo K a0.fP).bind fun r1=>(Ayg K a0.fL).bind fun r2=>Aue K K 0 a0.fC.Ad a0.fC.Du a0.fC.Cd a0.fC.Ez a0.fC.Ce a0.fC.Dv r1.Fp r1.G4 r1.Fq r2 ([]:List Bb) a0.Jp (Bo.mk (Fi.mk 0 0 0 0 0 0) (Ef.mk [] [] []) [] [] []) a0.fC.Ad a0.fC.Du a0.fC.Cd a0.fC.Ez a0.fC.Ce a0.fC.Dv a0.fP.Fp a0.fP.G4 a0.fP.Fq a0.fL a0.fQ a0.Jp
def B2x:=fd Tryz.func85 ⟨[.v 38],[.n 38 true],false⟩ (gC (Bjz K) (gC (Bj1 K) (gC (B2w K) gN))) [] [] [(9,[.take 103 10 6658]),(11,[.take 103 6 6654,.take 103 7 6655,.take 103 8 6656,.take 103 9 6657,.take 103 10 6658])] [(33,[.put 3033])]
def B5g:Fw:=⟨[(1,.p 101),(2,.p 102),(3,.p 103),(4,.v 2)],[(103,.box [.v 2,.v 2,.v 2,.v 2,.v 2,.v 2,.T 5 true,.T 3 true,.T 3 true,.T 77 true,.T 79 true,.v 25]),(102,.st 38 true),(101,.box bx6)]⟩
def Boi:=lp (B2x K) 506 B5g [] (Aue K) (fun n=>kN)
def Bdy:=ct (B2x K) (Asm K) (kC (Boi K K) kN)
def Aup (a0:List Az)(a1:Int):Option Bool:=bif a1==0 then some true else(Ad9 K a0 a1).bind fun r1=>bif r1 then if 0<=(Ap a1 1)/\(Ap a1 1)<a0.length then some (((gt a0 (Ap a1 1)).G4)==1)else none else some false
def B2y:=ct (fd Tryz.func301 ⟨[.v 35,.v 3],[.v 4],true⟩ (gC (Baq K) gN) [6,7,10,11]) (Aup K)
def Axt (a0:List Az)(a1:Int):Option Bool:=(A2j K a0 a1).bind fun r19=>bif decide ((r19.length:Int)<=4)then if 0<=(Ap r19.length 1)/\(Ap r19.length 1)<r19.length then(Awq K a0 (gt r19 (Ap r19.length 1))).bind fun r20=>some (!r20)else none else some false
def Azu (a0:List Az)(a1 v8 v12:Int):Option Bool:=bif v12==0 then(Awq K a0 a1).bind fun r18=>bif r18 then if 0<=(Ap v8 1)/\(Ap v8 1)<a0.length then bif (gt a0 (Ap v8 1)).Bz != (A1 a1 1)then some false else Axt K a0 a1 else none else Axt K a0 a1 else Axt K a0 a1
def Azv (a0:List Az)(a1 v8 v12:Int):Option Bool:=bif v12 != 0 then if 0<=(Ap v12 1)/\(Ap v12 1)<a0.length then bif (gt a0 (Ap v12 1)).G6 != (A1 a1 1)then some false else Azu K a0 a1 v8 v12 else none else Azu K a0 a1 v8 v12
def Azw (a0:List Az)(a1 v8:Int)(v9 v11 v12:Int):Option Bool:=bif v11 != 0 then if 0<=(Ap v11 1)/\(Ap v11 1)<a0.length then bif (gt a0 (Ap v11 1)).G7 != (A1 a1 1)then some false else bif (gt a0 (Ap v11 1)).fUp != v8 then some false else bif (gt a0 (Ap v11 1)).G5 != v9 then some false else Azv K a0 a1 v8 v12 else none else Azv K a0 a1 v8 v12
def Azx (a0:List Az)(a1 v5:Int)(v6 v7:Int)(v8 v9:Int)(v10 v11 v12:Int)(v13:List Int)(v14 v15:Int)(v16:List Bn)(v17:List Int):Option Bool:=bif v10 != 0 then if 0<=(Ap v10 1)/\(Ap v10 1)<a0.length then bif (gt a0 (Ap v10 1)).G7 != 0 then some false else bif (gt a0 (Ap v10 1)).fUp != (A1 a1 1)then some false else bif (gt a0 (Ap v10 1)).G5 != v7 then some false else Azw K a0 a1 v8 v9 v11 v12 else none else Azw K a0 a1 v8 v9 v11 v12
def A4w (a0:List Az)(a1:Int):Option Bool:=if 0<=a1/\a1<a0.length then bif (gt a0 a1).fUp != 0 then(Ad9 K a0 (gt a0 a1).fUp).bind fun r1=>bif r1 then(Aup K a0 (gt a0 a1).Bz).bind fun r2=>bif r2 then(Aup K a0 (gt a0 a1).G6).bind fun r3=>bif r3 then(Aup K a0 (gt a0 a1).G7).bind fun r4=>bif !r4 then some false else Azx K a0 a1 (gt a0 a1).G4 (gt a0 a1).C7 (gt a0 a1).Nb (gt a0 a1).fUp (gt a0 a1).G5 (gt a0 a1).Bz (gt a0 a1).G6 (gt a0 a1).G7 (gt a0 a1).Ad (gt a0 a1).No (gt a0 a1).G8 (gt a0 a1).D5 (gt a0 a1).Dh else some false else some false else some false else(Aup K a0 (gt a0 a1).Bz).bind fun r21=>bif r21 then(Aup K a0 (gt a0 a1).G6).bind fun r22=>bif r22 then(Aup K a0 (gt a0 a1).G7).bind fun r23=>bif !r23 then some false else Azx K a0 a1 (gt a0 a1).G4 (gt a0 a1).C7 (gt a0 a1).Nb (gt a0 a1).fUp (gt a0 a1).G5 (gt a0 a1).Bz (gt a0 a1).G6 (gt a0 a1).G7 (gt a0 a1).Ad (gt a0 a1).No (gt a0 a1).G8 (gt a0 a1).D5 (gt a0 a1).Dh else some false else some false else none
def Blb:=fd Tryz.func238 ⟨[.v 35,.v 3],[.v 4],true⟩ (gC (Bno K) (gC (Bnp K) (gC (Baq K) (gC (B2y K) gN)))) [15,16,20,21,22,23,27,28,29,30,34,35,36,37,55,56,61,62,63,83,84,89,90,91,100,101,115,116,119,120,121,138,139] [7,15,31,63,127]
def B5h:Fw:=⟨[(0,.v 35),(1,.v 2)],[]⟩
def Bf8:Fw:=⟨[(0,.v 35),(1,.v 2),(5,.p 105)],[(105,.box bx4)]⟩
def Boj:=jn (Blb K) 127 B5h [] (Axt K) kN
def Btu:=jn (Blb K) 63 Bf8 [] (fun a b _ _ _ f _ _ _ j _ _ _ _ _=>Azu K a b f j) (kC (Boj K) kN)
def Btv:=jn (Blb K) 31 Bf8 [] (fun a b _ _ _ f _ _ _ j _ _ _ _ _=>Azv K a b f j) (kC (Btu K) kN)
def Btw:=jn (Blb K) 15 Bf8 [] (fun a b _ _ _ f g _ i j _ _ _ _ _=>Azw K a b f g i j) (kC (Btv K) kN)
def Bxn:=jn (Blb K) 7 Bf8 [] (Azx K) (kC (Btw K) kN)
def B2z:=ct (Blb K) (A4w K) (kC (Bxn K) kN)
def A1v (K:Nat)(v1:Int)(C1:Int->Option Bool):Option Bool:=C1 (A1 v1 1)
def At2 (a0:List Az):Nat->Int->Option Bool
 |0,_=>none
 |n1+1,v1=>bif decide (v1<a0.length)then if 0<=v1/\v1<a0.length then bif (gt a0 v1).G4==1 then(A4w K a0 v1).bind fun r2=>bif !r2 then some false else A1v K v1 (At2 a0 n1)else A1v K v1 (At2 a0 n1)else none else some true
def A3y (a0:List Az):Option Bool:=At2 K a0 K 0
def Bxo:=fd Tryz.func140 ⟨[.v 35],[.v 4],true⟩ (gC (B2z K) gN) [15,16] [105]
def Bok:=fun(C26:CT Bn5 _)=>jn (Bxo K) 105 Bn5 [(26,ar Bn5 C26)] (fun a b=>A1v K b (C26 a)) kN
def Btx:=lp (Bxo K) 26 Bn5 [] (fun n a=>At2 K a n) (fun n=>kC (Bok K _) kN)
def B20:=ct (Bxo K) (A3y K) (kC (Btx K K) kN)
def A0k (K:Nat)(v2:Int)(v3 v4 v5:List Int)(C1:Int->Int->(List Int)->(List Int)->(List Int)->Option Int)(v6:Int):Option Int:=C1 v6 (A1 v2 1) v3 v4 v5
def Aru (a1:Int):Nat->Int->Int->(List Int)->(List Int)->(List Int)->Option Int
 |0,_,_,_,_,_=>none
 |n1+1,v1,v2,v3,v4,v5=>bif decide (v2<v4.length)then if 0<=v2/\v2<v4.length then bif (gt v4 v2)==a1 then A0k K v2 v3 v4 v5 (Aru a1 n1) (A1 v1 1)else A0k K v2 v3 v4 v5 (Aru a1 n1) v1 else none else some v1
def A20 (a0:Ef)(a1:Int):Option Int:=Aru K a1 K 0 0 a0.Fp a0.G4 a0.Fq
def Bxp:=fd Tryz.func246 ⟨[.v 34,.v 3],[.v 3],true⟩ gN [] [233]
def Bty:Fw:=⟨[(1,.v 2),(2,.p 102),(5,.v 2),(6,.v 2)],[(102,.box bx9)]⟩
def Bol:=fun(C58:CT Bty _)=>jn Bxp 233 Bty [(58,ar Bty C58)] (fun a b c d e f=>A0k K c d e f (C58 a) b) kN
def Btz:=lp Bxp 58 Bty [] (fun n a=>Aru K a n) (fun n=>kC (Bol K _) kN)
def B21:=ct Bxp (A20 K) (kC (Btz K K) kN)
def Axu (a0:List Az)(a1:Int):Option Bool:=if 0<=a1/\a1<a0.length then bif (gt a0 a1).G4==1 then if 0<=a1/\a1<a0.length then bif (gt a0 a1).fUp != 0 then(Awq K a0 a1).bind fun r1=>some (!r1)else some false else none else some false else none
def Bv0:=ct (fd Tryz.func245 ⟨[.v 35,.v 3],[.v 4],true⟩ (gC (Bnp K) gN) [10,11,17,18,19]) (Axu K)
def Ayr (a0:List Az):Nat->Int->(List Int)->Option (List Int)
 |0,_,_=>none
 |n1+1,v1,v2=>(Ad9 K a0 v1).bind fun r3=>bif r3 then bif decide ((v2.length:Int)<a0.length)then if(v2++([(Ap v1 1)]:List Int)).length*8<=140737488355328/\(v2++([(Ap v1 1)]:List Int)).length<=maxLen then if 0<=(Ap v1 1)/\(Ap v1 1)<a0.length then Ayr a0 n1 (gt a0 (Ap v1 1)).G6 (v2++([(Ap v1 1)]:List Int))else none else none else some v2 else some v2
def A1d (a0:List Az)(a1:Int):Option (List Int):=Ayr K a0 K a1 ([]:List Int)
def B22:=fd Tryz.func176 ⟨[.v 35,.v 3],[.n 25 true],true⟩ (gC (Baq K) gN) [9,10]
def Bt0:=lp (B22 K) 28 h_4 [] (fun n a=>Ayr K a n) (fun n=>kN)
def Bv1:=ct (B22 K) (A1d K) (kC (Bt0 K K) kN)
def Aro (v4:Int)(v15:List Bb)(v20:List Int)(v21:Int)(C3:(List Int)->Int->Option Bool):Nat->Int->Option Bool
 |0,_=>none
 |n5+1,v22=>if 0<=v4/\v4<v15.length then bif decide (v22<(((gt v15 v4).Ad).length:Int))then if 0<=v21/\v21<v15.length then if 0<=v4/\v4<v15.length then if 0<=v22/\v22<(((gt v15 v4).Ad).length:Int)then(Aun K (gt v15 v21).Ad (gt (gt v15 v4).Ad v22)).bind fun r23=>bif r23 then some false else Aro v4 v15 v20 v21 C3 n5 (A1 v22 1)else none else none else none else C3 v20 (A1 v21 1)else none
def Av8 (v4:Int)(v15:List Bb)(v20:List Int)(v21:Int)(C3:(List Int)->Int->Option Bool):Option Bool:=Aro K v4 v15 v20 v21 (C3) K 0
def Amu (v4 v5:Int)(v6 v7:Int)(v8 v9 v10:Int)(v11 v12 v13:List Int)(v14:List Az)(v15:List Bb)(v16:List Int)(v17 v18:Int)(C1:Int->Int->(List Int)->Int->Int->Int->Int->Int->Int->Int->(List Int)->(List Int)->(List Int)->(List Az)->(List Bb)->(List Int)->Option Bool):Nat->(List Int)->Int->Option Bool
 |0,_,_=>none
 |n3+1,v20,v21=>bif decide (v21<v4)then if 0<=v4/\v4<v15.length then bif (gt v15 v4).Be != 0 then if 0<=v21/\v21<v15.length then if 0<=v4/\v4<v15.length then bif (gt v15 v21).Be==(gt v15 v4).Be then some false else Av8 K v4 v15 v20 v21 (Amu v4 v5 v6 v7 v8 v9 v10 v11 v12 v13 v14 v15 v16 v17 v18 C1 n3)else none else none else Av8 K v4 v15 v20 v21 (Amu v4 v5 v6 v7 v8 v9 v10 v11 v12 v13 v14 v15 v16 v17 v18 C1 n3)else none else C1 v17 v18 v20 (A1 v4 1) v5 v6 v7 v8 v9 v10 v11 v12 v13 v14 v15 v16
def Av9 (v3:List Int)(v4 v5:Int)(v6 v7:Int)(v8 v9 v10:Int)(v11 v12 v13:List Int)(v14:List Az)(v15:List Bb)(v16:List Int)(C1:Int->Int->(List Int)->Int->Int->Int->Int->Int->Int->Int->(List Int)->(List Int)->(List Int)->(List Az)->(List Bb)->(List Int)->Option Bool)(v17 v18:Int):Option Bool:=if 0<=v4/\v4<v15.length then(A1d K v14 (gt v15 v4).Bz).bind fun r19=>if(v3++r19).length*8<=140737488355328/\(v3++r19).length<=maxLen then Amu K v4 v5 v6 v7 v8 v9 v10 v11 v12 v13 v14 v15 v16 v17 v18 (C1) K (v3++r19) 0 else none else none
def Ayh (K:Nat)(v25:Int)(C6:Int->Int->Option Bool)(v27:Int):Option Bool:=C6 v27 (A1 v25 1)
def Amv (v1 v2:Int)(v3 v11:List Int)(v12 v13:List Int)(v14:List Az)(v24:Int):Nat->Int->Option Bool
 |0,_=>none
 |n8+1,v28=>bif decide (v28<v3.length)then if(0:Int)<=0/\0<=v28/\v28<=v3.length then if 0<=v28/\v28<v3.length then(Aun K ((v3.drop (0:Int).toNat).take (v28 - 0).toNat) (gt v3 v28)).bind fun r29=>bif r29 then some false else Amv v1 v2 v3 v11 v12 v13 v14 v24 n8 (A1 v28 1)else none else none else(A20 K (Ef.mk v11 v12 v13) 2).bind fun r30=>bif v1==r30 then(Aux K v14 2).bind fun r31=>bif v2==r31 then some ((v3.length:Int)==v24)else some false else some false
def Akh (v1 v2:Int)(v3 v11:List Int)(v12 v13:List Int)(v14:List Az):Nat->Int->Int->Option Bool
 |0,_,_=>none
 |n6+1,v24,v25=>bif decide (v25<v14.length)then(Axu K v14 v25).bind fun r26=>bif r26 then Ayh K v25 (Akh v1 v2 v3 v11 v12 v13 v14 n6) (A1 v24 1)else Ayh K v25 (Akh v1 v2 v3 v11 v12 v13 v14 n6) v24 else Amv K v1 v2 v3 v11 v12 v13 v14 v24 K 0
def Af0:Nat->Int->Int->(List Int)->Int->Int->Int->Int->Int->Int->Int->(List Int)->(List Int)->(List Int)->(List Az)->(List Bb)->(List Int)->Option Bool
 |0,_,_,_,_,_,_,_,_,_,_,_,_,_,_,_,_=>none
 |n1+1,v1,v2,v3,v4,v5,v6,v7,v8,v9,v10,v11,v12,v13,v14,v15,v16=>bif decide (v4<v15.length)then if 0<=v4/\v4<v15.length then if 0<=v4/\v4<v15.length then bif (gt v15 v4).Be != 0 then Av9 K v3 v4 v5 v6 v7 v8 v9 v10 v11 v12 v13 v14 v15 v16 (Af0 n1) (A1 v1 (((gt v15 v4).Ad).length:Int)) (A1 v2 1)else Av9 K v3 v4 v5 v6 v7 v8 v9 v10 v11 v12 v13 v14 v15 v16 (Af0 n1) (A1 v1 (((gt v15 v4).Ad).length:Int)) v2 else none else none else Akh K v1 v2 v3 v11 v12 v13 v14 K 0 0
def A0l (a0:Bo):Option Bool:=Af0 K K 0 0 ([]:List Int) 0 a0.fC.Ad a0.fC.Du a0.fC.Cd a0.fC.Ez a0.fC.Ce a0.fC.Dv a0.fP.Fp a0.fP.G4 a0.fP.Fq a0.fL a0.fQ a0.Jp
def Beo:=fd Tryz.func148 ⟨[.v 38],[.v 4],true⟩ (gC (Bv1 K) (gC (Bf7 K) (gC (Bv0 K) (gC (B21 K) (gC (Bvp K) gN))))) [60,61,134,135,140,141,142] [4073,8009,2050532]
def B5i:Fw:=⟨[(1,.p 101),(3,.v 2),(4,.v 2),(5,.o 1005 3 true),(6,.v 2),(7,.v 2),(8,.v 2)],[(101,.box bx6)]⟩
def Blc:Fw:=⟨[(1,.p 101),(3,.v 2),(4,.v 2),(5,.o 1005 3 true),(6,.v 2),(7,.v 2)],[(101,.box bx6)]⟩
def Bde:Fw:=⟨[(1,.p 101),(3,.v 2),(4,.v 2),(5,.o 1005 3 true),(6,.v 2)],[(101,.box bx6)]⟩
def Bt1:Fw:=⟨[(1,.p 101),(3,.v 2),(4,.v 2),(5,.o 1005 3 true),(9,.v 2),(10,.v 2)],[(101,.box bx6)]⟩
def B5j:Fw:=⟨[(1,.p 101),(3,.v 2),(4,.v 2),(5,.o 1005 3 true),(9,.v 2),(11,.v 2)],[(101,.box bx6)]⟩
def Bdf:=fun(C250:CT Bde _) (C128158:CT Blc _)=>lp (Beo K) 16404262 B5i [(128158,ar Blc C128158),(250,ar Bde C250)] (fun n a b c d e f g h i j k l m o p q r s=>Aro K d r c e (fun v20 v21=>C128158 a b v20 d v21 g h i j k l m o p q r s) n f) (fun n=>kN)
def Bep:=fun(C250:CT Bde _) (C128158:CT Blc _)=>jn (Beo K) 2050532 Blc [(128158,ar Blc C128158),(250,ar Bde C250)] (fun a b c d e f g h i j k l m o p q r=>Av8 K d q c e (fun v20 v21=>C128158 a b v20 d v21 f g h i j k l m o p q r)) (kC (Bdf K _ _ K) kN)
def Bf9:=fun(C250:CT Bde _)=>lp (Beo K) 128158 Blc [(250,ar Bde C250)] (fun n a b c d e f g h i j k l m o p q r=>Amu K d f g h i j k l m o p q r a b C250 n c e) (fun n=>kC (Bep K _ _) kN)
def Bld:=fun(C250:CT Bde _)=>jn (Beo K) 8009 Bde [(250,ar Bde C250)] (fun a b c d e f g h i j k l m o p q=>Av9 K c d e f g h i j k l m o p q C250 a b) (kC (Bf9 K _ K) kN)
def Ble:=fun(C1018:CT Bt1 _)=>jn (Beo K) 4073 Bt1 [(1018,ar Bt1 C1018)] (fun a b c d e f g h i j k l m o p q r=>Ayh K e (fun v24 v25=>C1018 a b c v24 v25 f g h i j k l m o p q r) d) kN
def Blf:=lp (Beo K) 2042 B5j [] (fun n a b c d e _ _ _ _ _ _ l m o p _ _=>Amv K a b c l m o p d n e) (fun n=>kN)
def Blg:=lp (Beo K) 1018 Bt1 [] (fun n a b c d e _ _ _ _ _ _ l m o p _ _=>Akh K a b c l m o p n d e) (fun n=>kC (Ble K _) (kC (up (Blf K K)) kN))
def Bom:=lp (Beo K) 250 Bde [] (Af0 K) (fun n=>kC (Bld K _) (kC (up (Blg K K)) kN))
def B23:=ct (Beo K) (A0l K) (kC (Bom K K) kN)
def Arv (a0:Fi)(v8:List Int):Nat->Int->Option Bool
 |0,_=>none
 |n3+1,v12=>bif decide (v12<v8.length)then if 0<=v12/\v12<v8.length then(F2 K (gt v8 v12) 0 (Ap a0.Ad 1)).bind fun r13=>bif r13 then if(0:Int)<=0/\0<=v12/\v12<=v8.length then if 0<=v12/\v12<v8.length then(Aun K ((v8.drop (0:Int).toNat).take (v12 - 0).toNat) (gt v8 v12)).bind fun r14=>bif r14 then some false else Arv a0 v8 n3 (A1 v12 1)else none else none else some false else none else some true
def Auf (a0:Fi)(v7 v8:List Int):Nat->Int->Option Bool
 |0,_=>none
 |n2+1,v10=>bif decide (v10<v7.length)then if 0<=v10/\v10<v7.length then(F2 K (gt v7 v10) 0 255).bind fun r11=>bif !r11 then some false else Auf a0 v7 v8 n2 (A1 v10 1)else none else Arv K a0 v8 K 0
def A0m (a0:Fi)(v5 v6:Int)(v7 v8:List Int)(v9:Int):Option Bool:=Auf K a0 v7 v8 K 0
def A21 (a0:Fi)(a1:Bb):Option Bool:=(Ap3 K a0).bind fun r1=>bif r1 then(F2 K a1.Be 0 a0.Cd).bind fun r2=>bif r2 then(F2 K a1.Bz 0 a0.Cd).bind fun r3=>bif r3 then bif decide ((a1.Dh.length:Int)>6)then some false else(F2 K a1.H2 0 (Ap a0.Du 1)).bind fun r4=>bif r4 then bif (a1.Ad.length:Int)==0 then bif a1.H2 != 0 then some false else A0m K a0 a1.Be a1.Bz a1.Dh a1.Ad a1.H2 else A0m K a0 a1.Be a1.Bz a1.Dh a1.Ad a1.H2 else some false else some false else some false else some false
def Bt2:=fd Tryz.func244 ⟨[.v 33,.v 79],[.v 4],true⟩ (gC (Bf3 K) (gC (A5x K) (gC (Bf7 K) gN))) [8,9,10,15,16,17,18,23,24,25,26,30,31,32,38,39,40,41,45,46,81,82,83] [3]
def B5k:Fw:=⟨[(2,.p 102),(3,.p 103),(6,.v 2)],[(103,.box bx7),(102,.st 33 true)]⟩
def B5l:Fw:=⟨[(2,.p 102),(3,.p 103),(5,.v 2)],[(103,.box bx7),(102,.st 33 true)]⟩
def B5m:Fw:=⟨[(2,.p 102),(3,.p 103)],[(103,.box bx7),(102,.st 33 true)]⟩
def Bon:=lp (Bt2 K) 122 B5k [] (fun n a _ _ _ e _ g=>Arv K g e n a) (fun n=>kN)
def Bt3:=lp (Bt2 K) 58 B5l [] (fun n a _ _ d e _ g=>Auf K g d e n a) (fun n=>kC (up (Bon K K)) kN)
def Bxq:=jn (Bt2 K) 3 B5m [] (fun a b c d e f=>A0m K f a b c d e) (kC (Bt3 K K) kN)
def B24:=ct (Bt2 K) (A21 K) (kC (Bxq K) kN)
def Auz (v17:List Az)(r21:(List Int)):Nat->Int->Option Bool
 |0,_=>none
 |n4+1,v22=>bif decide (v22<r21.length)then if 0<=v22/\v22<r21.length then(Axu K v17 (gt r21 v22)).bind fun r23=>bif !r23 then some false else Auz v17 r21 n4 (A1 v22 1)else none else some true
def Asn (v4:Int)(v17:List Az):Option Bool:=(A1d K v17 v4).bind fun r21=>Auz K v17 r21 K 0
def Awu (v3 v4:Int)(v17:List Az):Option Bool:=bif v3 != 0 then if 0<=(Ap v3 1)/\(Ap v3 1)<v17.length then bif (gt v17 (Ap v3 1)).G4 != 2 then some false else bif v4 != 0 then if 0<=(Ap v4 1)/\(Ap v4 1)<v17.length then bif (gt v17 (Ap v4 1)).G7 != 0 then some false else Asn K v4 v17 else none else Asn K v4 v17 else none else bif v4 != 0 then if 0<=(Ap v4 1)/\(Ap v4 1)<v17.length then bif (gt v17 (Ap v4 1)).G7 != 0 then some false else Asn K v4 v17 else none else Asn K v4 v17
def Aso:Nat->Int->Int->Int->(List Int)->(List Int)->Int->Int->Int->Int->Int->Int->Int->(List Int)->(List Int)->(List Int)->(List Az)->(List Bb)->(List Int)->Option Bool
 |0,_,_,_,_,_,_,_,_,_,_,_,_,_,_,_,_,_,_=>none
 |n1+1,v2,v3,v4,v5,v6,v7,v8,v9,v10,v11,v12,v13,v14,v15,v16,v17,v18,v19=>bif decide (v2<v6.length)then if 0<=v2/\v2<v6.length then if 0<=(gt v6 v2)/\(gt v6 v2)<v15.length then bif (gt v15 (gt v6 v2)) != 2 then some false else Aso n1 (A1 v2 1) v3 v4 v5 v6 v7 v8 v9 v10 v11 v12 v13 v14 v15 v16 v17 v18 v19 else none else none else bif decide ((v6.length:Int)>0)then if(0:Int)<=0/\0<(v6.length:Int)then if(0:Int)<=0/\0<(v6.length:Int)then if 0<=(P2 (gt v6 0) v9)/\(P2 (gt v6 0) v9)<=(A1 (P2 (gt v6 0) v9) v7)/\(A1 (P2 (gt v6 0) v9) v7)<=v14.length then(Avp K ((v14.drop (P2 (gt v6 0) v9).toNat).take ((A1 (P2 (gt v6 0) v9) v7) - (P2 (gt v6 0) v9)).toNat)).bind fun r20=>bif !r20 then some false else Awu K v3 v4 v17 else none else none else none else Awu K v3 v4 v17
def A1w (a0:Bo)(a1:Int):Option Bool:=if 0<=a1/\a1<a0.fQ.length then(A21 K a0.fC (gt a0.fQ a1)).bind fun r1=>bif !r1 then some false else Aso K K 0 (gt a0.fQ a1).Be (gt a0.fQ a1).Bz (gt a0.fQ a1).Dh (gt a0.fQ a1).Ad (gt a0.fQ a1).H2 a0.fC.Ad a0.fC.Du a0.fC.Cd a0.fC.Ez a0.fC.Ce a0.fC.Dv a0.fP.Fp a0.fP.G4 a0.fP.Fq a0.fL a0.fQ a0.Jp else none
def Boo:=fd Tryz.func146 ⟨[.v 38,.v 3],[.v 4],true⟩ (gC (Bv1 K) (gC (Bj0 K) (gC (B24 K) (gC (Bv0 K) gN)))) [40,41,70,71,80,81,82,85,86] [31,63]
def B5n:Fw:=⟨[(2,.p 102),(7,.v 25),(8,.v 2)],[(102,.box bx6)]⟩
def B25:Fw:=⟨[(2,.p 102),(5,.p 105)],[(105,.box bx7),(102,.box bx6)]⟩
def B5o:Fw:=⟨[(2,.p 102),(5,.p 105),(6,.v 2)],[(105,.box bx7),(102,.box bx6)]⟩
def Blh:=lp (Boo K) 2042 B5n [] (fun n a b _ _ _ _ _ _ _ _ _ l _ _=>Auz K l a n b) (fun n=>kN)
def Bt4:=jn (Boo K) 63 B25 [] (fun _ b _ _ _ _ _ _ _ _ _ _ _ _ p _ _=>Asn K b p) (kC (Blh K K) kN)
def Bt5:=jn (Boo K) 31 B25 [] (fun a b _ _ _ _ _ _ _ _ _ _ _ _ p _ _=>Awu K a b p) (kC (Bt4 K) kN)
def Bop:=lp (Boo K) 122 B5o [] (Aso K) (fun n=>kC (up (Bt5 K)) kN)
def B26:=ct (Boo K) (A1w K) (kC (Bop K K) kN)
def Arp (a1:Int)(r1:(List Int)):Nat->Int->Int->Int->Int->Int->Int->Int->(List Int)->(List Int)->(List Int)->(List Az)->(List Bb)->(List Int)->Option Bool
 |0,_,_,_,_,_,_,_,_,_,_,_,_,_=>none
 |n1+1,v2,v3,v4,v5,v6,v7,v8,v9,v10,v11,v12,v13,v14=>bif decide (v2<r1.length)then if 0<=a1/\a1<v12.length then if 0<=v2/\v2<r1.length then(Aun K (gt v12 a1).Ad (gt r1 v2)).bind fun r15=>bif !r15 then some false else Arp a1 r1 n1 (A1 v2 1) v3 v4 v5 v6 v7 v8 v9 v10 v11 v12 v13 v14 else none else none else if 0<=a1/\a1<v12.length then some ((r1.length:Int)==(((gt v12 a1).Ad).length:Int))else none
def A0n (a0:Bo)(a1:Int):Option Bool:=(Azr K a0.fP a1).bind fun r1=>Arp K a1 r1 K 0 a0.fC.Ad a0.fC.Du a0.fC.Cd a0.fC.Ez a0.fC.Ce a0.fC.Dv a0.fP.Fp a0.fP.G4 a0.fP.Fq a0.fL a0.fQ a0.Jp
def B27:=fd Tryz.func142 ⟨[.v 38,.v 3],[.v 4],true⟩ (gC (Bvo K) (gC (Bf7 K) gN))
def B5p:Fw:=⟨[(1,.v 2),(2,.p 102),(5,.v 25),(6,.v 2)],[(102,.box bx6)]⟩
def Bt6:=lp (B27 K) 58 B5p [] (fun n a b=>Arp K a b n) (fun n=>kN)
def B28:=ct (B27 K) (A0n K) (kC (Bt6 K K) kN)
def Asq (a0:Fi)(v1 v2:Int)(v3 v4:Int)(v5 v6:Int)(v7 v8 v9:Int)(v10:List Int)(v11 v12:Int)(v13:List Bn)(v14:List Int)(C1:Int->Int->Int->Int->Int->Int->Int->Int->Int->(List Int)->Int->Int->(List Bn)->(List Int)->Option Bool):Nat->Int->Bn->Option Bool
 |0,_,_=>none
 |n2+1,v16,v17=>if a0.Du≠(0:Int)then bif decide (v16<=(Apq .i64 (Ap (A1 v17.fAt v17.Yg) 1) a0.Du))then(Aun K v10 v16).bind fun r18=>bif !r18 then some false else Asq a0 v1 v2 v3 v4 v5 v6 v7 v8 v9 v10 v11 v12 v13 v14 C1 n2 (A1 v16 1) v17 else C1 (A1 v1 1) v2 v3 v4 v5 v6 v7 v8 v9 v10 v11 v12 v13 v14 else none
def Ami (a0:Fi):Nat->Int->Int->Int->Int->Int->Int->Int->Int->Int->(List Int)->Int->Int->(List Bn)->(List Int)->Option Bool
 |0,_,_,_,_,_,_,_,_,_,_,_,_,_,_=>none
 |n1+1,v1,v2,v3,v4,v5,v6,v7,v8,v9,v10,v11,v12,v13,v14=>bif decide (v1<v13.length)then if 0<=v1/\v1<v13.length then(Axq K a0 (gt v13 v1)).bind fun r15=>bif !r15 then some false else if a0.Du≠(0:Int)then Asq K a0 v1 v2 v3 v4 v5 v6 v7 v8 v9 v10 v11 v12 v13 v14 (Ami a0 n1) K (Apq .i64 (gt v13 v1).fAt a0.Du) (gt v13 v1)else none else none else some true
def A1x (a0:Fi)(a1:Az):Option Bool:=Ami K a0 K 0 a1.G4 a1.C7 a1.Nb a1.fUp a1.G5 a1.Bz a1.G6 a1.G7 a1.Ad a1.No a1.G8 a1.D5 a1.Dh
def Bxr:=fd Tryz.func143 ⟨[.v 33,.v 77],[.v 4],true⟩ (gC (Bvw K) (gC (Bf7 K) gN))
def B5q:Fw:=⟨[(2,.p 102),(3,.p 103),(5,.v 2),(6,.p 106),(7,.v 2)],[(106,.st 183 true),(103,.box bx4),(102,.st 33 true)]⟩
def Bli:=fun(C26:CT Bn8 _)=>lp (Bxr K) 6734 B5q [(26,ar Bn8 C26)] (fun n a b c d e f g h i j k l m o p q r=>Asq K r a d e f g h i j k l m o p q (fun v1 v2 v3 v4 v5 v6 v7 v8 v9 v10 v11 v12 v13 v14=>C26 v1 v2 v3 v4 v5 v6 v7 v8 v9 v10 v11 v12 v13 v14 r) n b c) (fun n=>kN)
def Bt7:=lp (Bxr K) 26 Bn8 [] (fun n a b c d e f g h i j k l m o p=>Ami K p n a b c d e f g h i j k l m o) (fun n=>kC (Bli K _ K) kN)
def B29:=ct (Bxr K) (A1x K) (kC (Bt7 K K) kN)
def A4x (K:Nat)(a0 a1:Bn):Option Bool:=bif decide (a0.Yg<1)then some true else bif decide (a1.Yg<1)then some true else bif decide (a0.fAt<=a1.fAt)then bif decide ((Ap a1.fAt a0.fAt)>=a0.Yg)then some true else some (decide ((Ap a1.fAt a0.fAt)<0))else bif decide ((Ap a0.fAt a1.fAt)>=a1.Yg)then some true else some (decide ((Ap a0.fAt a1.fAt)<0))
def Bxs:=ct (fd Tryz.func243 ⟨[.v 183,.v 183],[.v 4],true⟩ gN [7,8,25,26,41,42]) (A4x K)
def As2 (a0:List Bn)(v1:Int)(C1:Int->Option Bool):Nat->Int->Option Bool
 |0,_=>none
 |n2+1,v2=>bif decide (v2<v1)then if 0<=v1/\v1<a0.length then if 0<=v2/\v2<a0.length then(A4x K (gt a0 v1) (gt a0 v2)).bind fun r3=>bif !r3 then some false else As2 a0 v1 C1 n2 (A1 v2 1)else none else none else C1 (A1 v1 1)
def Amj (a0:List Bn):Nat->Int->Option Bool
 |0,_=>none
 |n1+1,v1=>bif decide (v1<a0.length)then As2 K a0 v1 (Amj a0 n1) K 0 else some true
def A1y (a0:List Bn):Option Bool:=Amj K a0 K 0
def Boq:=fd Tryz.func144 ⟨[.v 75],[.v 4],true⟩ (gC (Bxs K) gN)
def B5r:Fw:=⟨[(0,.v 75),(3,.v 2),(4,.v 2)],[]⟩
def Bxt:Fw:=⟨[(0,.v 75),(3,.v 2)],[]⟩
def Bh5:=fun(C26:CT Bxt _)=>lp (Boq K) 1682 B5r [(26,ar Bxt C26)] (fun n a b=>As2 K a b (C26 a) n) (fun n=>kN)
def Bor:=lp (Boq K) 26 Bxt [] (fun n a=>Amj K a n) (fun n=>kC (Bh5 K _ K) kN)
def Bxu:=ct (Boq K) (A1y K) (kC (Bor K K) kN)
def Azd (K:Nat)(v1 v2:Int)(v3 v4:Int)(v5 v6:Int)(v7 v8:Int)(v9 v10 v11:Int)(v12:List Int)(v13 v14:Int)(v15:List Bn)(v16:List Int)(v17 v18:Int)(v19 v20:Int)(v21 v22:Int)(v23 v24 v25:List Int)(v26:List Az)(v27:List Bb)(v28:List Int)(C1:Int->Int->Int->Int->Int->Int->Int->Int->Int->Int->Int->(List Int)->Int->Int->(List Bn)->(List Int)->Int->Int->Int->Int->Int->Int->(List Int)->(List Int)->(List Int)->(List Az)->(List Bb)->(List Int)->Option Bool):Option Bool:=C1 v1 v2 (A1 v3 1) v4 v5 v6 v7 v8 v9 v10 v11 v12 v13 v14 v15 v16 v17 v18 v19 v20 v21 v22 v23 v24 v25 v26 v27 v28
def Apl:Nat->Int->Int->Int->Int->Int->Int->Int->Int->Int->Int->Int->(List Int)->Int->Int->(List Bn)->(List Int)->Int->Int->Int->Int->Int->Int->(List Int)->(List Int)->(List Int)->(List Az)->(List Bb)->(List Int)->Option Bool
 |0,_,_,_,_,_,_,_,_,_,_,_,_,_,_,_,_,_,_,_,_,_,_,_,_,_,_,_,_=>none
 |n1+1,v1,v2,v3,v4,v5,v6,v7,v8,v9,v10,v11,v12,v13,v14,v15,v16,v17,v18,v19,v20,v21,v22,v23,v24,v25,v26,v27,v28=>bif decide (v3<v15.length)then if 0<=v3/\v3<v15.length then bif decide (((gt v15 v3).fAt)<v2)then bif decide ((A1 (gt v15 v3).fAt (gt v15 v3).Yg)>v1)then some false else Azd K v1 v2 v3 v4 v5 v6 v7 v8 v9 v10 v11 v12 v13 v14 v15 v16 v17 v18 v19 v20 v21 v22 v23 v24 v25 v26 v27 v28 (Apl n1)else Azd K v1 v2 v3 v4 v5 v6 v7 v8 v9 v10 v11 v12 v13 v14 v15 v16 v17 v18 v19 v20 v21 v22 v23 v24 v25 v26 v27 v28 (Apl n1)else none else if 0<=v1/\v1<=v2/\v2<=v23.length then(Avp K ((v23.drop v1.toNat).take (v2 - v1).toNat)).bind fun r29=>some r29 else none
def A1z (a0:Bo)(a1:Int):Option Bool:=if 0<=a1/\a1<a0.fL.length then bif (gt a0.fL a1).No==0 then some true else bif decide ((A1 (P2 (Ap (gt a0.fL a1).No 1) a0.fC.Du) (gt a0.fL a1).G8)>=(P2 (gt a0.fL a1).No a0.fC.Du))then some true else Apl K K (A1 (P2 (Ap (gt a0.fL a1).No 1) a0.fC.Du) (gt a0.fL a1).G8) (P2 (gt a0.fL a1).No a0.fC.Du) 0 (gt a0.fL a1).G4 (gt a0.fL a1).C7 (gt a0.fL a1).Nb (gt a0.fL a1).fUp (gt a0.fL a1).G5 (gt a0.fL a1).Bz (gt a0.fL a1).G6 (gt a0.fL a1).G7 (gt a0.fL a1).Ad (gt a0.fL a1).No (gt a0.fL a1).G8 (gt a0.fL a1).D5 (gt a0.fL a1).Dh a0.fC.Ad a0.fC.Du a0.fC.Cd a0.fC.Ez a0.fC.Ce a0.fC.Dv a0.fP.Fp a0.fP.G4 a0.fP.Fq a0.fL a0.fQ a0.Jp else none
def Bos:=fd Tryz.func145 ⟨[.v 38,.v 3],[.v 4],true⟩ (gC (Bj0 K) gN) [33,34,54,55] [2025]
def Bt8:Fw:=⟨[(2,.p 102),(5,.p 105),(6,.v 2),(7,.v 2),(8,.v 2)],[(105,.box bx4),(102,.box bx6)]⟩
def Bh6:=fun(C506:CT Bt8 _)=>jn (Bos K) 2025 Bt8 [(506,ar Bt8 C506)] (fun a b c d e f g h i j k l m o p q r s t u v w x y z a1 b1 c1=>Azd K a b c d e f g h i j k l m o p q r s t u v w x y z a1 b1 c1 C506) kN
def Blj:=lp (Bos K) 506 Bt8 [] (Apl K) (fun n=>kC (Bh6 K _) kN)
def Bxv:=ct (Bos K) (A1z K) (kC (Blj K K) kN)
def Arw (v4 v5:Int)(v6 v7:Int)(v8 v9:Int)(v10 v11 v12:List Int)(v13:List Az)(v14:List Bb)(v15:List Int):Nat->Int->Option Bool
 |0,_=>none
 |n3+1,v23=>bif decide (v23<v15.length)then if 0<=v23/\v23<v15.length then(F2 K (gt v15 v23) 0 255).bind fun r24=>bif !r24 then some false else Arw v4 v5 v6 v7 v8 v9 v10 v11 v12 v13 v14 v15 n3 (A1 v23 1)else none else(A0l K (Bo.mk (Fi.mk v4 v5 v6 v7 v8 v9) (Ef.mk v10 v11 v12) v13 v14 v15)).bind fun r25=>some r25
def Aug (v4 v5:Int)(v6 v7:Int)(v8 v9:Int)(v10 v11 v12:List Int)(v13:List Az)(v14:List Bb)(v15:List Int):Nat->Int->Option Bool
 |0,_=>none
 |n2+1,v21=>bif decide (v21<v14.length)then(A1w K (Bo.mk (Fi.mk v4 v5 v6 v7 v8 v9) (Ef.mk v10 v11 v12) v13 v14 v15) v21).bind fun r22=>bif !r22 then some false else Aug v4 v5 v6 v7 v8 v9 v10 v11 v12 v13 v14 v15 n2 (A1 v21 1)else Arw K v4 v5 v6 v7 v8 v9 v10 v11 v12 v13 v14 v15 K 0
def Arx:Nat->Int->Int->Int->Int->Int->Int->Int->(List Int)->(List Int)->(List Int)->(List Az)->(List Bb)->(List Int)->Option Bool
 |0,_,_,_,_,_,_,_,_,_,_,_,_,_=>none
 |n1+1,v3,v4,v5,v6,v7,v8,v9,v10,v11,v12,v13,v14,v15=>bif decide (v3<v13.length)then if 0<=v3/\v3<v13.length then(Auo K (Fi.mk v4 v5 v6 v7 v8 v9) (gt v13 v3)).bind fun r16=>bif r16 then(A0n K (Bo.mk (Fi.mk v4 v5 v6 v7 v8 v9) (Ef.mk v10 v11 v12) v13 v14 v15) v3).bind fun r17=>bif r17 then if 0<=v3/\v3<v13.length then(A1x K (Fi.mk v4 v5 v6 v7 v8 v9) (gt v13 v3)).bind fun r18=>bif r18 then if 0<=v3/\v3<v13.length then(A1y K (gt v13 v3).D5).bind fun r19=>bif r19 then(A1z K (Bo.mk (Fi.mk v4 v5 v6 v7 v8 v9) (Ef.mk v10 v11 v12) v13 v14 v15) v3).bind fun r20=>bif !r20 then some false else Arx n1 (A1 v3 1) v4 v5 v6 v7 v8 v9 v10 v11 v12 v13 v14 v15 else some false else none else some false else none else some false else some false else none else Aug K v4 v5 v6 v7 v8 v9 v10 v11 v12 v13 v14 v15 K 0
def Aur (a0:Bo):Option Bool:=(A09 K a0.fC a0.fP).bind fun r1=>bif r1 then bif (a0.fL.length:Int) != a0.fC.Cd then some false else(A3y K a0.fL).bind fun r2=>bif !r2 then some false else Arx K K 0 a0.fC.Ad a0.fC.Du a0.fC.Cd a0.fC.Ez a0.fC.Ce a0.fC.Dv a0.fP.Fp a0.fP.G4 a0.fP.Fq a0.fL a0.fQ a0.Jp else some false
def Bj6:=fd Tryz.func40 ⟨[.v 38],[.v 4],true⟩ (gC (Bvs K) (gC (B20 K) (gC (Bdx K) (gC (B28 K) (gC (B29 K) (gC (Bxu K) (gC (Bxv K) (gC (B26 K) (gC (A5x K) (gC (B23 K) gN)))))))))) [10,11,12,19,20,21,41,42,43,46,47,48,49,57,58,59,60,67,68,69,70]
def B5s:Fw:=⟨[(1,.p 101),(5,.v 2)],[(101,.box bx6)]⟩
def B5t:Fw:=⟨[(1,.p 101),(4,.v 2)],[(101,.box bx6)]⟩
def B5u:Fw:=⟨[(1,.p 101),(3,.v 2)],[(101,.box bx6)]⟩
def Bll:=lp (Bj6 K) 250 B5s [] (fun n a b c d e f g h i j k l m=>Arw K b c d e f g h i j k l m n a) (fun n=>kN)
def Blm:=lp (Bj6 K) 122 B5t [] (fun n a b c d e f g h i j k l m=>Aug K b c d e f g h i j k l m n a) (fun n=>kC (up (Bll K K)) kN)
def Bou:=lp (Bj6 K) 58 B5u [] (Arx K) (fun n=>kC (up (Blm K K)) kN)
def Bbw:=ct (Bj6 K) (Aur K) (kC (Bou K K) kN)
def A4y (a0:Fb):Option Bool:=(Ayn K a0.fH).bind fun r1=>bif r1 then bif decide (a0.Nb>=0)then some (decide (a0.fNo>=0))else some false else some false
def Bxw:=ct (fd Tryz.func385 ⟨[.v 42],[.v 4],true⟩ (gC (Bvl K) gN) [5,6,9,10,11]) (A4y K)
def A22 (a0:Az)(a1:Fb):Option (Bn×Bool):=bif a0.G4 != 1 then some ((Bn.mk 0 0 0),false)else bif a0.Nb != a1.Nb then some ((Bn.mk 0 0 0),false)else(F2 K a1.fNo 0 (Ap a0.D5.length 1)).bind fun r1=>bif !r1 then some ((Bn.mk 0 0 0),false)else if 0<=a1.fNo/\a1.fNo<a0.D5.length then some ((gt a0.D5 a1.fNo),true)else none
def Bxx:=ct (fd Tryz.func386 ⟨[.v 77,.v 42],[.v 183,.v 4],true⟩ (gC (A5x K) gN) [8,9,14,15,16]) (A22 K)
def Axv (a0:Bo)(a1:Fb):Option (Int×Bn×Int):=(A4y K a1).bind fun r1=>bif !r1 then some ((-1),(Bn.mk 0 0 0),1)else(Arl K a0 a1.fH).bind fun r2=>bif r2.2 != 0 then some ((-1),(Bn.mk 0 0 0),r2.2)else if 0<=r2.1/\r2.1<a0.fL.length then(A22 K (gt a0.fL r2.1) a1).bind fun r3=>bif !r3.2 then some ((-1),(Bn.mk 0 0 0),2)else some (r2.1,r3.1,0)else none
def Bov:=ct (fd Tryz.func378 ⟨[.v 38,.v 42],[.v 3,.v 183,.v 3],true⟩ (gC (Bdv K) (gC (Bxw K) (gC (Bxx K) gN)))) (Axv K)
def A23 (K:Nat)(a0:Bn)(a1 a2:Int):Option Bool:=bif decide (a1>=0)then bif decide (a2>=0)then bif decide (a1<=a0.Yg)then bif decide (a2<=(Ap a0.Yg a1))then bif decide (a0.fAt<0)then some true else some (decide ((A1 a0.fAt a1)>=0))else some false else some false else some false else some false
def Bow:=ct (fd Tryz.func387 ⟨[.v 183,.v 3,.v 3],[.v 4],true⟩ gN [8,9,11,12,13,17,18,19,25,26,27,30,31]) (A23 K)
def Azy (K:Nat)(a0:List Int)(a1 a2:Int):Option Bool:=bif decide (a1>=0)then bif decide (a2>=0)then bif decide (a1<=a0.length)then some (decide (a2<=(Ap a0.length a1)))else some false else some false else some false
def Box:=ct (fd Tryz.func391 ⟨[.v 24,.v 3,.v 3],[.v 4],true⟩ gN [8,9,11,12,13,17,18,19]) (Azy K)
def A4z (a0:List Int)(a1 a2:Int):Option ((List Int)×Bool):=(Azy K a0 a1 a2).bind fun r1=>bif !r1 then some (([]:List Int),false)else if 0<=a1/\a1<=(A1 a1 a2)/\(A1 a1 a2)<=a0.length then if(([]:List Int)++((a0.drop a1.toNat).take ((A1 a1 a2) - a1).toNat)).length*1<=140737488355328/\(([]:List Int)++((a0.drop a1.toNat).take ((A1 a1 a2) - a1).toNat)).length<=maxLen then some ((([]:List Int)++((a0.drop a1.toNat).take ((A1 a1 a2) - a1).toNat)),true)else none else none
def Bxy:=ct (fd Tryz.func388 ⟨[.v 24,.v 3,.v 3],[.n 24 true,.v 4],true⟩ (gC (Box K) gN)) (A4z K)
def A0o (a0:List Int)(a1:Bn)(a2 a3:Int):Option ((List Int)×Bool):=(A23 K a1 a2 a3).bind fun r1=>bif !r1 then some (([]:List Int),false)else(A4z K a0 (A1 a1.fAt a2) a3).bind fun r2=>some (r2.1,r2.2)
def Bxz:=ct (fd Tryz.func379 ⟨[.v 24,.v 183,.v 3,.v 3],[.n 24 true,.v 4],true⟩ (gC (Bow K) (gC (Bxy K) gN))) (A0o K)
def A51 (a0:Bo)(a1:Fb)(a2 a3:Int):Option (Bo×F8):=(Asm K a0).bind fun r1=>(Aur K a0).bind fun r2=>bif !r2 then some (r1,(F8.mk 1 (Ch.mk 0 0) (Fb.mk (Ch.mk 0 0) 0 0) [] 0 0 0))else(Axv K a0 a1).bind fun r3=>(Asi K a0 a1.fH).bind fun r4=>bif r3.2.2 != 0 then some (r1,(F8.mk r3.2.2 (Ch.mk 0 0) (Fb.mk (Ch.mk 0 0) 0 0) [] r4 0 0))else(A0o K a0.fP.Fp r3.2.1 a2 a3).bind fun r5=>bif !r5.2 then some (r1,(F8.mk 7 (Ch.mk 0 0) (Fb.mk (Ch.mk 0 0) 0 0) [] r4 0 0))else some (r1,(F8.mk r3.2.2 (Ch.mk 0 0) (Fb.mk (Ch.mk 0 0) 0 0) r5.1 r4 0 0))
def Bx0:=ct (fd Tryz.func358 ⟨[.v 38,.v 42,.v 3,.v 3],[.n 38 true,.n 44 true],false⟩ (gC (Bbw K) (gC (Bdy K) (gC (Bbv K) (gC (Bov K) (gC (Bxz K) gN))))) [] [] [(7,[.take 114 7 6831]),(11,[.take 114 7 6831])]) (A51 K)
def Aus (K:Nat)(a1:Int)(a2:List Int):Nat->(List Int)->Int->Option ((List Int)×Bool)
 |0,_,_=>none
 |n1+1,v2,v3=>bif decide (v3<a2.length)then if 0<=v3/\v3<a2.length then if 0<=(A1 a1 v3)/\(A1 a1 v3)<v2.length then Aus K a1 a2 n1 (v2.set (A1 a1 v3).toNat (gt a2 v3)) (A1 v3 1)else none else none else some (v2,true)
def A40 (a0:List Int)(a1:Int)(a2:List Int):Option ((List Int)×Bool):=if(([]:List Int)++a0).length*1<=140737488355328/\(([]:List Int)++a0).length<=maxLen then(Azy K a0 a1 (a2.length:Int)).bind fun r1=>bif !r1 then some ((([]:List Int)++a0),false)else Aus K a1 a2 K (([]:List Int)++a0) 0 else none
def Bv2:=fd Tryz.func389 ⟨[.v 24,.v 3,.v 24],[.n 24 true,.v 4],true⟩ (gC (Box K) gN)
def B5v:Fw:=⟨[(1,.v 2),(2,.v 24),(8,.o 1008 5 true),(9,.v 2)],[]⟩
def Bln:=lp (Bv2 K) 122 B5v [] (fun n a b=>Aus K a b n) (fun n=>kN)
def Bx1:=ct (Bv2 K) (A40 K) (kC (Bln K K) kN)
def Aze (a0:List Int)(a1:Bn)(a2:Int)(a3:List Int):Option ((List Int)×Bool):=(A23 K a1 a2 (a3.length:Int)).bind fun r1=>bif !r1 then if(([]:List Int)++a0).length*1<=140737488355328/\(([]:List Int)++a0).length<=maxLen then some ((([]:List Int)++a0),false)else none else(A40 K a0 (A1 a1.fAt a2) a3).bind fun r2=>some (r2.1,r2.2)
def Bx2:=ct (fd Tryz.func380 ⟨[.v 24,.v 183,.v 3,.v 24],[.n 24 true,.v 4],true⟩ (gC (Bow K) (gC (Bx1 K) gN))) (Aze K)
def A41 (a0:Bo)(a1:Fb)(a2:Int)(a3:List Int):Option (Bo×F8):=(Asm K a0).bind fun r1=>(Aur K a0).bind fun r2=>bif !r2 then some (r1,(F8.mk 1 (Ch.mk 0 0) (Fb.mk (Ch.mk 0 0) 0 0) [] 0 0 0))else(Axv K a0 a1).bind fun r3=>(Asi K a0 a1.fH).bind fun r4=>bif r3.2.2 != 0 then some (r1,(F8.mk r3.2.2 (Ch.mk 0 0) (Fb.mk (Ch.mk 0 0) 0 0) [] r4 0 0))else(Aze K a0.fP.Fp r3.2.1 a2 a3).bind fun r5=>bif !r5.2 then some (r1,(F8.mk 7 (Ch.mk 0 0) (Fb.mk (Ch.mk 0 0) 0 0) [] r4 0 0))else some ((Bo.mk r1.fC (Ef.mk r5.1 r1.fP.G4 r1.fP.Fq) r1.fL r1.fQ r1.Jp),(F8.mk r3.2.2 (Ch.mk 0 0) (Fb.mk (Ch.mk 0 0) 0 0) [] r4 0 0))
def Bx3:=ct (fd Tryz.func359 ⟨[.v 38,.v 42,.v 3,.v 24],[.n 38 true,.n 44 true],false⟩ (gC (Bbw K) (gC (Bdy K) (gC (Bbv K) (gC (Bov K) (gC (Bx2 K) gN))))) [] [] [(7,[.take 114 7 6831]),(11,[.take 114 7 6831]),(13,[.take 114 7 6831])]) (A41 K)
def A42 (K:Nat)(v7:F8)(v10:Bo):Option (Bo×F8):=some (v10,v7)
def A24 (a2:Int)(r1:Bo)(v6:Int)(v7 v8:F8)(v9:Bo):Option (Bo×F8):=bif v7.Aab==0 then if 0<=v6/\v6<r1.fL.length then if 0<=v6/\v6<r1.fL.length then if(((gt r1.fL v6).Dh)++([a2]:List Int)).length*8<=140737488355328/\(((gt r1.fL v6).Dh)++([a2]:List Int)).length<=maxLen then if 0<=v6/\v6<r1.fL.length then A42 K v7 (Bo.mk r1.fC r1.fP (r1.fL.set v6.toNat (Az.mk (gt r1.fL v6).G4 (gt r1.fL v6).C7 (gt r1.fL v6).Nb (gt r1.fL v6).fUp (gt r1.fL v6).G5 (gt r1.fL v6).Bz (gt r1.fL v6).G6 (gt r1.fL v6).G7 (gt r1.fL v6).Ad (gt r1.fL v6).No (gt r1.fL v6).G8 (gt r1.fL v6).D5 (((gt r1.fL v6).Dh)++([a2]:List Int)))) r1.fQ r1.Jp)else none else none else none else none else A42 K v7 r1
def A62 (a0:Bo)(a1:Ch)(a2:Int):Option (Bo×F8):=(Asm K a0).bind fun r1=>(Aur K a0).bind fun r2=>bif r2 then(F2 K a2 0 255).bind fun r3=>bif !r3 then some (r1,(F8.mk 1 (Ch.mk 0 0) (Fb.mk (Ch.mk 0 0) 0 0) [] 0 0 0))else(Arl K a0 a1).bind fun r4=>(Asi K a0 a1).bind fun r5=>bif r4.2==0 then if 0<=r4.1/\r4.1<a0.fL.length then bif decide (((gt a0.fL r4.1).Dh.length:Int)>=6)then A24 K a2 r1 r4.1 (F8.mk 8 (Ch.mk 0 0) (Fb.mk (Ch.mk 0 0) 0 0) [] r5 0 0) (F8.mk 0 (Ch.mk 0 0) (Fb.mk (Ch.mk 0 0) 0 0) [] 0 0 0) (Bo.mk (Fi.mk 0 0 0 0 0 0) (Ef.mk [] [] []) [] [] [])else A24 K a2 r1 r4.1 (F8.mk r4.2 (Ch.mk 0 0) (Fb.mk (Ch.mk 0 0) 0 0) [] r5 0 0) (F8.mk 0 (Ch.mk 0 0) (Fb.mk (Ch.mk 0 0) 0 0) [] 0 0 0) (Bo.mk (Fi.mk 0 0 0 0 0 0) (Ef.mk [] [] []) [] [] [])else none else A24 K a2 r1 r4.1 (F8.mk r4.2 (Ch.mk 0 0) (Fb.mk (Ch.mk 0 0) 0 0) [] r5 0 0) (F8.mk 0 (Ch.mk 0 0) (Fb.mk (Ch.mk 0 0) 0 0) [] 0 0 0) (Bo.mk (Fi.mk 0 0 0 0 0 0) (Ef.mk [] [] []) [] [] [])else some (r1,(F8.mk 1 (Ch.mk 0 0) (Fb.mk (Ch.mk 0 0) 0 0) [] 0 0 0))
def Boy:=fd Tryz.func360 ⟨[.v 38,.v 40,.v 3],[.n 38 true,.n 44 true],false⟩ (gC (Bbw K) (gC (Bdy K) (gC (A5x K) (gC (Bdv K) (gC (Bbv K) gN))))) [15,16,17,36,37] [63,127] [(9,[.take 108 9 6737,.opn 6737 (.tmp 9),.takeE 6737 12 87180]),(10,[.take 108 6 6734,.take 108 7 6735,.take 108 8 6736,.take 108 9 6737,.take 108 10 6738,.take 108 11 6739,.take 111 7 6783])]
def B5w:Fw:=⟨[(6,.p 106),(7,.p 107),(8,.p 108),(11,.p 111)],[(111,.st 44 true),(108,.st 38 true),(107,.st 44 true),(106,.st 38 true)]⟩
def B5x:Fw:=⟨[(2,.v 2),(6,.p 106),(7,.p 107),(8,.p 108),(9,.v 2),(11,.p 111)],[(111,.st 44 true),(108,.st 38 true),(107,.st 44 true),(106,.st 38 true)]⟩
def Blo:=jn (Boy K) 127 B5w [] (fun a b _ _=>A42 K a b) kN
def Boz:=jn (Boy K) 63 B5x [] (fun a b c d=>A24 K a d b c) (kC (Blo K) kN)
def Bx4:=ct (Boy K) (A62 K) (kC (Boz K) kN)
def A5h (a0:Fi)(a1:Az):Option Int:=bif a1.No==0 then some 0 else(Auo K a0 a1).bind fun r1=>bif !r1 then some 0 else some (Ap a0.Du a1.G8)
def Bx5:=ct (fd Tryz.func381 ⟨[.v 33,.v 77],[.v 3],true⟩ (gC (Bdx K) gN) [7,8]) (A5h K)
def A25 (K:Nat)(r1:Bo)(v6 v7:F8)(v8:Bo):Option (Bo×F8):=some (r1,v6)
def A43 (a0:Bo)(a1:Ch):Option (Bo×F8):=(Asm K a0).bind fun r1=>(Aur K a0).bind fun r2=>bif !r2 then some (r1,(F8.mk 1 (Ch.mk 0 0) (Fb.mk (Ch.mk 0 0) 0 0) [] 0 0 0))else(Arl K a0 a1).bind fun r3=>(Asi K a0 a1).bind fun r4=>bif r3.2==0 then if 0<=r3.1/\r3.1<a0.fL.length then(A5h K a0.fC (gt a0.fL r3.1)).bind fun r5=>A25 K r1 (F8.mk r3.2 (Ch.mk 0 0) (Fb.mk (Ch.mk 0 0) 0 0) ([(IntKind.u8.wrap (((gt a0.fL r3.1).Ad).length:Int)),(IntKind.u8.wrap (((gt a0.fL r3.1).D5).length:Int)),(IntKind.u8.wrap (((gt a0.fL r3.1).Dh).length:Int)),(IntKind.u8.wrap r5)]:List Int) r4 0 0) (F8.mk 0 (Ch.mk 0 0) (Fb.mk (Ch.mk 0 0) 0 0) [] 0 0 0) (Bo.mk (Fi.mk 0 0 0 0 0 0) (Ef.mk [] [] []) [] [] [])else none else A25 K r1 (F8.mk r3.2 (Ch.mk 0 0) (Fb.mk (Ch.mk 0 0) 0 0) [] r4 0 0) (F8.mk 0 (Ch.mk 0 0) (Fb.mk (Ch.mk 0 0) 0 0) [] 0 0 0) (Bo.mk (Fi.mk 0 0 0 0 0 0) (Ef.mk [] [] []) [] [] [])
def Bv3:=fd Tryz.func361 ⟨[.v 38,.v 40],[.n 38 true,.n 44 true],false⟩ (gC (Bbw K) (gC (Bdy K) (gC (Bdv K) (gC (Bbv K) (gC (Bx5 K) gN))))) [] [63] [(9,[.take 106 6 6702,.take 106 7 6703,.take 106 8 6704,.take 106 9 6705,.take 106 10 6706,.take 106 11 6707,.take 109 7 6751])]
def B5y:Fw:=⟨[(4,.p 104),(5,.p 105),(6,.p 106),(9,.p 109)],[(109,.st 44 true),(106,.st 38 true),(105,.st 44 true),(104,.st 38 true)]⟩
def Bo0:=jn (Bv3 K) 63 B5y [] (fun a b=>A25 K b a) kN
def Bx6:=ct (Bv3 K) (A43 K) (kC (Bo0 K) kN)
def A3z (a0:Bo)(a1:Di):Option (Bo×F8):=bif a1.Aad==3 then(A51 K a0 a1.fR a1.fN a1.fM).bind fun r1=>some (r1.1,r1.2)else bif a1.Aad==4 then(A41 K a0 a1.fR a1.fN a1.fB).bind fun r2=>some (r2.1,r2.2)else bif a1.Aad==5 then(A62 K a0 a1.fH a1.fN).bind fun r3=>some (r3.1,r3.2)else bif a1.Aad==8 then(A43 K a0 a1.fH).bind fun r4=>some (r4.1,r4.2)else(Asm K a0).bind fun r5=>some (r5,(F8.mk 1 (Ch.mk 0 0) (Fb.mk (Ch.mk 0 0) 0 0) [] 0 0 0))
def Bx7:=ct (fd Tryz.func311 ⟨[.v 38,.v 55],[.n 38 true,.n 44 true],false⟩ (gC (Bdy K) (gC (Bx0 K) (gC (Bx3 K) (gC (Bx4 K) (gC (Bx6 K) gN)))))) (A3z K)
def A5i (K:Nat)(v31 v32:Int)(v33 v34:Int)(v35 v36:Int)(v37 v38 v39:List Int)(v40:List Az)(v41:List Bb)(v42:List Int)(v43:F8):Option (F8×Bo):=some (v43,(Bo.mk (Fi.mk v31 v32 v33 v34 v35 v36) (Ef.mk v37 v38 v39) v40 v41 v42))
def Azz (v4:Bool)(v5 v6:Int)(v7 v8:Int)(v9 v10:Int)(v11 v12 v13:List Int)(v14:List Az)(v15:List Bb)(v16:List Int)(v17:F8)(v18 v19:Int)(v20 v21:Int)(v22 v23:Int)(v24 v25 v26:Int)(v27:List Int):Option (F8×Bo):=bif v4 then(Arl K (Bo.mk (Fi.mk v5 v6 v7 v8 v9 v10) (Ef.mk v11 v12 v13) v14 v15 v16) (Ch.mk v19 v20)).bind fun r28=>(Asi K (Bo.mk (Fi.mk v5 v6 v7 v8 v9 v10) (Ef.mk v11 v12 v13) v14 v15 v16) (Ch.mk v19 v20)).bind fun r29=>bif r28.2 != 0 then some ((F8.mk r28.2 (Ch.mk 0 0) (Fb.mk (Ch.mk 0 0) 0 0) [] r29 0 0),(Bo.mk (Fi.mk v5 v6 v7 v8 v9 v10) (Ef.mk v11 v12 v13) v14 v15 v16))else bif v18==6 then(Azc K (Bo.mk (Fi.mk v5 v6 v7 v8 v9 v10) (Ef.mk v11 v12 v13) v14 v15 v16) r28.1).bind fun r30=>A5i K r30.fC.Ad r30.fC.Du r30.fC.Cd r30.fC.Ez r30.fC.Ce r30.fC.Dv r30.fP.Fp r30.fP.G4 r30.fP.Fq r30.fL r30.fQ r30.Jp (F8.mk r28.2 (Ch.mk 0 0) (Fb.mk (Ch.mk 0 0) 0 0) [] r29 0 0)else(A1u K (Bo.mk (Fi.mk v5 v6 v7 v8 v9 v10) (Ef.mk v11 v12 v13) v14 v15 v16) r28.1).bind fun r44=>A5i K r44.fC.Ad r44.fC.Du r44.fC.Cd r44.fC.Ez r44.fC.Ce r44.fC.Dv r44.fP.Fp r44.fP.G4 r44.fP.Fq r44.fL r44.fQ r44.Jp (F8.mk r28.2 (Ch.mk 0 0) (Fb.mk (Ch.mk 0 0) 0 0) [] r29 0 0)else(A3z K (Bo.mk (Fi.mk v5 v6 v7 v8 v9 v10) (Ef.mk v11 v12 v13) v14 v15 v16) (Di.mk v18 (Ch.mk v19 v20) (Fb.mk (Ch.mk v21 v22) v23 v24) v25 v26 v27)).bind fun r45=>some (r45.2,r45.1)
def A44 (a0:Bo)(a1:Di):Option (F8×Bo):=bif a1.Aad==1 then(A2w K a0 a1.fH).bind fun r1=>some (r1.1,r1.2)else bif a1.Aad==2 then(A1t K a0 a1.fH a1.fN a1.fM).bind fun r2=>some (r2.1,r2.2)else bif a1.Aad==9 then(Av6 K a0 4000).bind fun r3=>some ((F8.mk 0 (Ch.mk 0 0) (Fb.mk (Ch.mk 0 0) 0 0) [] 0 0 r3.1),r3.2)else bif a1.Aad==6 then Azz K (a1.Aad==6) a0.fC.Ad a0.fC.Du a0.fC.Cd a0.fC.Ez a0.fC.Ce a0.fC.Dv a0.fP.Fp a0.fP.G4 a0.fP.Fq a0.fL a0.fQ a0.Jp (F8.mk 0 (Ch.mk 0 0) (Fb.mk (Ch.mk 0 0) 0 0) [] 0 0 0) a1.Aad a1.fH.Be a1.fH.C7 a1.fR.fH.Be a1.fR.fH.C7 a1.fR.Nb a1.fR.fNo a1.fN a1.fM a1.fB else Azz K (a1.Aad==7) a0.fC.Ad a0.fC.Du a0.fC.Cd a0.fC.Ez a0.fC.Ce a0.fC.Dv a0.fP.Fp a0.fP.G4 a0.fP.Fq a0.fL a0.fQ a0.Jp (F8.mk 0 (Ch.mk 0 0) (Fb.mk (Ch.mk 0 0) 0 0) [] 0 0 0) a1.Aad a1.fH.Be a1.fH.C7 a1.fR.fH.Be a1.fR.fH.C7 a1.fR.Nb a1.fR.fNo a1.fN a1.fM a1.fB
def Bo1:=fd Tryz.func253 ⟨[.b 38 false,.v 55],[.v 44],false⟩ (gC (Bj2 K) (gC (B2k K) (gC (B2r K) (gC (Bdv K) (gC (Bbv K) (gC (B2t K) (gC (B2v K) (gC (Bx7 K) gN)))))))) [] [1727,55287] [(10,[.take 1 6 5022,.take 1 7 5023,.take 1 8 5024,.take 1 9 5025,.take 1 10 5026,.take 1 11 5027]),(13,[.take 107 7 6719]),(15,[.put 1]),(16,[.put 1]),(17,[.take 107 7 6719]),(18,[.take 1 6 5022,.take 1 7 5023,.take 1 8 5024,.take 1 9 5025,.take 1 10 5026,.take 1 11 5027,.frz 5022,.frz 5023,.frz 5024,.frz 5025,.frz 5026,.frz 5027])]
def B5z:Fw:=⟨[(4,.p 104),(7,.p 107)],[(1,.box bx1),(107,.st 44 true),(104,.st 44 true)]⟩
def B50:Fw:=⟨[(0,.p 1),(3,.p 103),(4,.p 104),(33,.v 4)],[(1,.box bx1),(104,.st 44 true),(103,.box [.v 2,.v 2,.v 2,.v 2,.v 2,.v 2,.v 2,.v 2,.v 2,.v 24])]⟩
def Bga:=jn (Bo1 K) 55287 B5z [] (fun a b c d e f g h i j k l m _=>A5i K a b c d e f g h i j k l m) kN
def Bh7:=jn (Bo1 K) 1727 B50 [] (Azz K) (kC (Bga K) kN)
def Bx8:=ct (Bo1 K) (A44 K) (kC (Bh7 K) kN)
def Ays:Nat->(List Di)->Int->(List Int)->Int->Int->Bo->Fi->Bo->Fi->Option (Fi×(List Di)×Bo×E2)
 |0,_,_,_,_,_,_,_,_,_=>none
 |n1+1,v4,v5,v6,v7,v8,v9,v10,v11,v12=>bif decide (v5>0)then bif decide ((v4.length:Int)<200)then(Azp K (E2.mk v6 v7 v8) v9).bind fun r13=>if r13.2.2.1.length=v9.fP.Fp.length/\r13.2.2.2.1.length=v9.fP.G4.length/\r13.2.2.2.2.1.length=v9.fP.Fq.length/\r13.2.2.2.2.2.1.length=v9.fL.length/\r13.2.2.2.2.2.2.1.length=v9.fQ.length/\r13.2.2.2.2.2.2.2.length=v9.Jp.length then if(v4++([r13.1]:List Di)).length*96<=140737488355328/\(v4++([r13.1]:List Di)).length<=maxLen then(A44 K (Bo.mk v9.fC (Ef.mk r13.2.2.1 r13.2.2.2.1 r13.2.2.2.2.1) r13.2.2.2.2.2.1 r13.2.2.2.2.2.2.1 r13.2.2.2.2.2.2.2) r13.1).bind fun r14=>Ays n1 (v4++([r13.1]:List Di)) (Ap v5 1) r13.2.1.fb r13.2.1.fi r13.2.1.fh r14.2 v10 v11 v12 else none else none else some (v10,v4,v9,(E2.mk v6 v7 v8))else some (v10,v4,v9,(E2.mk v6 v7 v8))
def A30 (a0:E2)(a1:Int):Option (Fi×(List Di)×Bo×E2):=(A05 K a0).bind fun r1=>(A1l K r1.1).bind fun r2=>(A4 K r1.2 a1).bind fun r3=>Ays K K ([]:List Di) (A1 4 r3.1) r3.2.fb r3.2.fi r3.2.fh r2 r1.1 (Bo.mk (Fi.mk 0 0 0 0 0 0) (Ef.mk [] [] []) [] [] []) (Fi.mk 0 0 0 0 0 0)
def Bv4:=fd Tryz.func157 ⟨[.b 171 false,.v 3],[.v 33,.n 81 false,.n 38 false],false⟩ (gC (B1e K) (gC (Bvk K) (gC (A82 K) (gC (B08 K) (gC (Bx8 K) gN))))) [22,23] [] [(4,[.put 108,.take 108 10 6738,.shal 6738,.put 108,.shal 1009]),(7,[.take 108 6 6734,.take 108 7 6735,.take 108 8 6736,.take 108 9 6737,.take 108 10 6738,.take 108 11 6739]),(9,[.put 108]),(10,[.take 108 6 6734,.take 108 7 6735,.take 108 8 6736,.take 108 9 6737,.take 108 10 6738,.take 108 11 6739])] [(32,[.frz 3032])]
def B51:Fw:=⟨[(0,.p 1),(4,.p 104),(6,.p 106),(7,.p 107),(8,.p 108),(9,.o 1009 55 false),(10,.v 2)],[(1,.box bx8),(108,.st 38 false),(107,.st 33 true),(106,.st 38 true),(104,.st 33 true)]⟩
def Blp:=lp (Bv4 K) 250 B51 [] (Ays K) (fun n=>kN)
def Bx9:=ct (Bv4 K) (A30 K) (kC (Blp K K) kN)
def Ayt (a0:E2)(a1:Int):Option (Bo×E2):=(A30 K a0 a1).bind fun r1=>some (r1.2.2.1,r1.2.2.2)
def Bo2:=ct (fd Tryz.func112 ⟨[.b 171 false,.v 3],[.n 38 false],false⟩ (gC (Bx9 K) gN)) (Ayt K)
def A0p (a0:List Int):Option (Bo×Di):=(A2p K a0).bind fun r1=>(A04 K a0 50).bind fun r2=>(Ayt K r1 (A1 20 r2)).bind fun r3=>(Azp K r3.2 r3.1).bind fun r4=>if r4.2.2.1.length=r3.1.fP.Fp.length/\r4.2.2.2.1.length=r3.1.fP.G4.length/\r4.2.2.2.2.1.length=r3.1.fP.Fq.length/\r4.2.2.2.2.2.1.length=r3.1.fL.length/\r4.2.2.2.2.2.2.1.length=r3.1.fQ.length/\r4.2.2.2.2.2.2.2.length=r3.1.Jp.length then some ((Bo.mk r3.1.fC (Ef.mk r4.2.2.1 r4.2.2.2.1 r4.2.2.2.2.1) r4.2.2.2.2.2.1 r4.2.2.2.2.2.2.1 r4.2.2.2.2.2.2.2),r4.1)else none
def Bya:=ct (fd Tryz.func23 ⟨[.v 24],[.n 38 false,.n 55 true],false⟩ (gC (B06 K) (gC (Bo2 K) (gC (B4l K) (gC (Bvk K) gN))))) (A0p K)
def Ate (K:Nat)(v4:List Int)(v5 v6:Int)(v7 v8:Fi):Option (Fi×E2):=some (v7,(E2.mk v4 v5 v6))
def A45 (a0:E2):Option (Fi×E2):=(A05 K a0).bind fun r1=>(A4 K r1.2 14).bind fun r2=>bif r2.1==0 then(V1 K r2.2 ([1,2,12,13]:List Int)).bind fun r3=>if r3.2.2.length=([1,2,12,13]:List Int).length then Ate K r3.2.1.fb r3.2.1.fi r3.2.1.fh (Fi.mk r3.1 r1.1.Du r1.1.Cd r1.1.Ez r1.1.Ce r1.1.Dv) (Fi.mk 0 0 0 0 0 0)else none else bif r2.1==1 then(V1 K r2.2 ([7,8,16,17]:List Int)).bind fun r9=>if r9.2.2.length=([7,8,16,17]:List Int).length then Ate K r9.2.1.fb r9.2.1.fi r9.2.1.fh (Fi.mk r1.1.Ad r9.1 r1.1.Cd r1.1.Ez r1.1.Ce r1.1.Dv) (Fi.mk 0 0 0 0 0 0)else none else bif r2.1==2 then(V1 K r2.2 ([1,8,9]:List Int)).bind fun r10=>if r10.2.2.length=([1,8,9]:List Int).length then Ate K r10.2.1.fb r10.2.1.fi r10.2.1.fh (Fi.mk r1.1.Ad r1.1.Du r10.1 r1.1.Ez r1.1.Ce r1.1.Dv) (Fi.mk 0 0 0 0 0 0)else none else bif r2.1==3 then(V1 K r2.2 ([0,8,9]:List Int)).bind fun r11=>if r11.2.2.length=([0,8,9]:List Int).length then Ate K r11.2.1.fb r11.2.1.fi r11.2.1.fh (Fi.mk r1.1.Ad r1.1.Du r1.1.Cd r11.1 r1.1.Ce r1.1.Dv) (Fi.mk 0 0 0 0 0 0)else none else bif r2.1==4 then(V1 K r2.2 ([0,17]:List Int)).bind fun r12=>if r12.2.2.length=([0,17]:List Int).length then Ate K r12.2.1.fb r12.2.1.fi r12.2.1.fh (Fi.mk r1.1.Ad r1.1.Du r1.1.Cd r1.1.Ez r12.1 r1.1.Dv) (Fi.mk 0 0 0 0 0 0)else none else bif r2.1==5 then(V1 K r2.2 ([0,5]:List Int)).bind fun r13=>if r13.2.2.length=([0,5]:List Int).length then Ate K r13.2.1.fb r13.2.1.fi r13.2.1.fh (Fi.mk r1.1.Ad r1.1.Du r1.1.Cd r1.1.Ez r1.1.Ce r13.1) (Fi.mk 0 0 0 0 0 0)else none else Ate K r2.2.fb r2.2.fi r2.2.fh r1.1 (Fi.mk 0 0 0 0 0 0)
def Bv5:=fd Tryz.func127 ⟨[.b 171 false],[.v 33],false⟩ (gC (A82 K) (gC (Bf2 K) (gC (B08 K) gN))) [] [7]
def B52:Fw:=⟨[(2,.p 102),(3,.p 103)],[(1,.box bx8),(103,.st 33 true),(102,.st 33 true)]⟩
def Bt9:=jn (Bv5 K) 7 B52 [] (Ate K) kN
def Byb:=ct (Bv5 K) (A45 K) (kC (Bt9 K) kN)
def Axw (a1:Fi)(v4:List Int)(v5 v6:Int)(v7:Bn):Option (Bn×E2):=(A4 K (E2.mk v4 v5 v6) a1.Ad).bind fun r8=>(A4 K r8.2 a1.Du).bind fun r9=>(A4 K r9.2 (Ap a1.Du r9.1)).bind fun r10=>some ((Bn.mk (A1 (P2 r8.1 a1.Du) r9.1) (A1 1 r10.1) 0),r10.2)
def A26 (a0:E2)(a1:Fi):Option (Bn×E2):=(Ap4 K a0 4).bind fun r1=>bif r1.1 then bif decide (a1.Ad>2)then(A4 K r1.2 (Ap a1.Ad 1)).bind fun r2=>(A4 K r2.2 a1.Du).bind fun r3=>some ((Bn.mk (P2 a1.Du r2.1) (A1 (A1 a1.Du 1) r3.1) 2),r3.2)else Axw K a1 r1.2.fb r1.2.fi r1.2.fh (Bn.mk 0 0 0)else Axw K a1 r1.2.fb r1.2.fi r1.2.fh (Bn.mk 0 0 0)
def Bv6:=fd Tryz.func340 ⟨[.b 171 false,.v 33],[.v 183],false⟩ (gC (A82 K) (gC (Bf5 K) gN)) [8,9] [3]
def B53:Fw:=⟨[(0,.p 1),(3,.p 103),(4,.p 104)],[(1,.box bx8),(104,.st 183 true),(103,.st 33 true)]⟩
def Bua:=jn (Bv6 K) 3 B53 [] (fun a b c d e=>Axw K e a b c d) kN
def Byc:=ct (Bv6 K) (A26 K) (kC (Bua K) kN)
def Ayu:Nat->Int->(List Int)->Int->Int->Az->Option (Az×E2)
 |0,_,_,_,_,_=>none
 |n4+1,v25,v26,v27,v28,v29=>bif decide (v25>0)then(A4 K (E2.mk v26 v27 v28) 256).bind fun r30=>if(v29.Dh++([r30.1]:List Int)).length*8<=140737488355328/\(v29.Dh++([r30.1]:List Int)).length<=maxLen then Ayu n4 (Ap v25 1) r30.2.fb r30.2.fi r30.2.fh (Az.mk v29.G4 v29.C7 v29.Nb v29.fUp v29.G5 v29.Bz v29.G6 v29.G7 v29.Ad v29.No v29.G8 v29.D5 (v29.Dh++([r30.1]:List Int)))else none else some (v29,(E2.mk v26 v27 v28))
def Ayv (a1:Fi):Nat->Int->(List Int)->Int->Int->Az->Option (Az×E2)
 |0,_,_,_,_,_=>none
 |n3+1,v18,v19,v20,v21,v22=>bif decide (v18>0)then(A26 K (E2.mk v19 v20 v21) a1).bind fun r23=>if(v22.D5++([r23.1]:List Bn)).length*24<=140737488355328/\(v22.D5++([r23.1]:List Bn)).length<=maxLen then Ayv a1 n3 (Ap v18 1) r23.2.fb r23.2.fi r23.2.fh (Az.mk v22.G4 v22.C7 v22.Nb v22.fUp v22.G5 v22.Bz v22.G6 v22.G7 v22.Ad v22.No v22.G8 (v22.D5++([r23.1]:List Bn)) v22.Dh)else none else(A4 K (E2.mk v19 v20 v21) 3).bind fun r24=>Ayu K K r24.1 r24.2.fb r24.2.fi r24.2.fh v22
def Ayw (a1:Fi)(v13:List Int)(v14 v15:Int)(v16:Az):Option (Az×E2):=(A4 K (E2.mk v13 v14 v15) 3).bind fun r17=>Ayv K a1 K r17.1 r17.2.fb r17.2.fi r17.2.fh v16
def Ayx (a1:Fi):Nat->Int->(List Int)->Int->Int->Az->Az->Option (Az×E2)
 |0,_,_,_,_,_,_=>none
 |n1+1,v6,v7,v8,v9,v10,v11=>bif decide (v6>0)then if(v10.Ad++([(Ap v6 1)]:List Int)).length*8<=140737488355328/\(v10.Ad++([(Ap v6 1)]:List Int)).length<=maxLen then Ayx a1 n1 (Ap v6 1) v7 v8 v9 (Az.mk v10.G4 v10.C7 v10.Nb v10.fUp v10.G5 v10.Bz v10.G6 v10.G7 (v10.Ad++([(Ap v6 1)]:List Int)) v10.No v10.G8 v10.D5 v10.Dh) v11 else none else bif decide ((v10.Ad.length:Int)>0)then if(0:Int)<=0/\0<(v10.Ad.length:Int)then(A4 K (E2.mk v7 v8 v9) (A1 a1.Du 1)).bind fun r12=>Ayw K a1 r12.2.fb r12.2.fi r12.2.fh (Az.mk v10.G4 v10.C7 v10.Nb v10.fUp v10.G5 v10.Bz v10.G6 v10.G7 v10.Ad (A1 (gt v10.Ad 0) 1) r12.1 v10.D5 v10.Dh)else none else Ayw K a1 v7 v8 v9 v10
def A31 (a0:E2)(a1:Fi):Option (Az×E2):=(A4 K a0 a1.Dv).bind fun r1=>(Amp K (A1 1 r1.1)).bind fun r2=>(A4 K r1.2 4).bind fun r3=>bif r3.1 != 1 then some ((Az.mk r3.1 r2.C7 r2.Nb r2.fUp r2.G5 r2.Bz r2.G6 r2.G7 r2.Ad r2.No r2.G8 r2.D5 r2.Dh),r3.2)else(A4 K r3.2 3).bind fun r4=>(A4 K r4.2 3).bind fun r5=>Ayx K a1 K r5.1 r5.2.fb r5.2.fi r5.2.fh (Az.mk r3.1 r2.C7 r4.1 r2.fUp r2.G5 r2.Bz r2.G6 r2.G7 r2.Ad r2.No r2.G8 r2.D5 r2.Dh) (Az.mk 0 0 0 0 0 0 0 0 [] 0 0 [] [])
def Bgb:=fd Tryz.func299 ⟨[.b 171 false,.v 33],[.n 77 false],false⟩ (gC (A82 K) (gC (Bf4 K) (gC (Byc K) gN))) [] [127] [(9,[.take 105 8 6688]),(10,[.take 105 8 6688]),(17,[.take 105 11 6691]),(21,[.take 105 12 6692]),(22,[.take 105 8 6688,.take 105 11 6691,.take 105 12 6692])]
def B54:Fw:=⟨[(0,.p 1),(4,.p 104),(5,.p 105),(9,.v 2)],[(1,.box bx8),(105,.st 77 false),(104,.st 77 false)]⟩
def B3a:Fw:=⟨[(0,.p 1),(3,.p 103),(4,.p 104),(5,.p 105),(7,.v 2)],[(1,.box bx8),(105,.st 77 false),(104,.st 77 false),(103,.st 33 true)]⟩
def B55:Fw:=⟨[(0,.p 1),(3,.p 103),(4,.p 104),(5,.p 105)],[(1,.box bx8),(105,.st 77 false),(104,.st 77 false),(103,.st 33 true)]⟩
def B56:Fw:=⟨[(0,.p 1),(3,.p 103),(4,.p 104),(5,.p 105),(6,.v 2)],[(1,.box bx8),(105,.st 77 false),(104,.st 77 false),(103,.st 33 true)]⟩
def Bh8:=lp (Bgb K) 4090 B54 [] (fun n a b c d e _=>Ayu K n a b c d e) (fun n=>kN)
def Bh9:=lp (Bgb K) 2042 B3a [] (fun n a b c d e _ g=>Ayv K g n a b c d e) (fun n=>kC (up (Bh8 K K)) kN)
def Blq:=jn (Bgb K) 127 B55 [] (fun a b c d _ f=>Ayw K f a b c d) (kC (Bh9 K K) kN)
def Blr:=lp (Bgb K) 506 B56 [] (fun n a b c d e f g=>Ayx K g n a b c d e f) (fun n=>kC (up (Blq K)) kN)
def Byd:=ct (Bgb K) (A31 K) (kC (Blr K K) kN)
def Amx (K:Nat)(v4:List Int)(v5 v6:Int)(v7 v8:Az):Option (Az×E2):=some (v7,(E2.mk v4 v5 v6))
def A46 (a0:E2)(a1:Fi):Option (Az×E2):=(A31 K a0 a1).bind fun r1=>(A4 K r1.2 14).bind fun r2=>bif r2.1==0 then(A4 K r2.2 6).bind fun r3=>Amx K r3.2.fb r3.2.fi r3.2.fh (Az.mk (Ap r3.1 1) r1.1.C7 r1.1.Nb r1.1.fUp r1.1.G5 r1.1.Bz r1.1.G6 r1.1.G7 r1.1.Ad r1.1.No r1.1.G8 r1.1.D5 r1.1.Dh) (Az.mk 0 0 0 0 0 0 0 0 [] 0 0 [] [])else bif r2.1==1 then(V1 K r2.2 ([0,4,5]:List Int)).bind fun r9=>if r9.2.2.length=([0,4,5]:List Int).length then Amx K r9.2.1.fb r9.2.1.fi r9.2.1.fh (Az.mk r1.1.G4 r9.1 r1.1.Nb r1.1.fUp r1.1.G5 r1.1.Bz r1.1.G6 r1.1.G7 r1.1.Ad r1.1.No r1.1.G8 r1.1.D5 r1.1.Dh) (Az.mk 0 0 0 0 0 0 0 0 [] 0 0 [] [])else none else bif r2.1==2 then(V1 K r2.2 ([(-1),1,8,9]:List Int)).bind fun r10=>if r10.2.2.length=([(-1),1,8,9]:List Int).length then Amx K r10.2.1.fb r10.2.1.fi r10.2.1.fh (Az.mk r1.1.G4 r1.1.C7 r1.1.Nb r10.1 r1.1.G5 r1.1.Bz r1.1.G6 r1.1.G7 r1.1.Ad r1.1.No r1.1.G8 r1.1.D5 r1.1.Dh) (Az.mk 0 0 0 0 0 0 0 0 [] 0 0 [] [])else none else bif r2.1==3 then(V1 K r2.2 ([0,12,(-1)]:List Int)).bind fun r11=>if r11.2.2.length=([0,12,(-1)]:List Int).length then if(r1.1.Ad++([r11.1]:List Int)).length*8<=140737488355328/\(r1.1.Ad++([r11.1]:List Int)).length<=maxLen then Amx K r11.2.1.fb r11.2.1.fi r11.2.1.fh (Az.mk r1.1.G4 r1.1.C7 r1.1.Nb r1.1.fUp r1.1.G5 r1.1.Bz r1.1.G6 r1.1.G7 (r1.1.Ad++([r11.1]:List Int)) r1.1.No r1.1.G8 r1.1.D5 r1.1.Dh) (Az.mk 0 0 0 0 0 0 0 0 [] 0 0 [] [])else none else none else bif r2.1==4 then(A4 K r2.2 4).bind fun r12=>Amx K r12.2.fb r12.2.fi r12.2.fh (Az.mk r1.1.G4 r1.1.C7 r1.1.Nb r1.1.fUp r1.1.G5 r1.1.Bz r1.1.G6 r1.1.G7 r1.1.Ad r12.1 r1.1.G8 r1.1.D5 r1.1.Dh) (Az.mk 0 0 0 0 0 0 0 0 [] 0 0 [] [])else bif r2.1==5 then(V1 K r2.2 ([0,8,17,(-1)]:List Int)).bind fun r13=>if r13.2.2.length=([0,8,17,(-1)]:List Int).length then Amx K r13.2.1.fb r13.2.1.fi r13.2.1.fh (Az.mk r1.1.G4 r1.1.C7 r1.1.Nb r1.1.fUp r1.1.G5 r1.1.Bz r1.1.G6 r1.1.G7 r1.1.Ad r1.1.No r13.1 r1.1.D5 r1.1.Dh) (Az.mk 0 0 0 0 0 0 0 0 [] 0 0 [] [])else none else bif r2.1==6 then(V1 K r2.2 ([255,256,(-1)]:List Int)).bind fun r14=>if r14.2.2.length=([255,256,(-1)]:List Int).length then if(r1.1.Dh++([r14.1]:List Int)).length*8<=140737488355328/\(r1.1.Dh++([r14.1]:List Int)).length<=maxLen then Amx K r14.2.1.fb r14.2.1.fi r14.2.1.fh (Az.mk r1.1.G4 r1.1.C7 r1.1.Nb r1.1.fUp r1.1.G5 r1.1.Bz r1.1.G6 r1.1.G7 r1.1.Ad r1.1.No r1.1.G8 r1.1.D5 (r1.1.Dh++([r14.1]:List Int))) (Az.mk 0 0 0 0 0 0 0 0 [] 0 0 [] [])else none else none else bif r2.1==7 then(A4 K r2.2 100).bind fun r15=>(A4 K r15.2 20).bind fun r16=>(A4 K r16.2 3).bind fun r17=>if(r1.1.D5++([(Bn.mk r15.1 r16.1 r17.1)]:List Bn)).length*24<=140737488355328/\(r1.1.D5++([(Bn.mk r15.1 r16.1 r17.1)]:List Bn)).length<=maxLen then Amx K r17.2.fb r17.2.fi r17.2.fh (Az.mk r1.1.G4 r1.1.C7 r1.1.Nb r1.1.fUp r1.1.G5 r1.1.Bz r1.1.G6 r1.1.G7 r1.1.Ad r1.1.No r1.1.G8 (r1.1.D5++([(Bn.mk r15.1 r16.1 r17.1)]:List Bn)) r1.1.Dh) (Az.mk 0 0 0 0 0 0 0 0 [] 0 0 [] [])else none else Amx K r2.2.fb r2.2.fi r2.2.fh r1.1 (Az.mk 0 0 0 0 0 0 0 0 [] 0 0 [] [])
def Bv7:=fd Tryz.func230 ⟨[.b 171 false,.v 33],[.n 77 false],false⟩ (gC (A82 K) (gC (Bf2 K) (gC (Byd K) gN))) [] [7] [(19,[.take 105 8 6688,.take 105 11 6691,.take 105 12 6692])]
def B57:Fw:=⟨[(4,.p 104),(5,.p 105)],[(1,.box bx8),(105,.st 77 false),(104,.st 77 false)]⟩
def Bub:=jn (Bv7 K) 7 B57 [] (Amx K) kN
def Bye:=ct (Bv7 K) (A46 K) (kC (Bub K) kN)
def Axx:Nat->Int->(List Int)->Int->Int->Az->Option (Az×E2)
 |0,_,_,_,_,_=>none
 |n3+1,v23,v24,v25,v26,v27=>bif decide (v23>0)then(A4 K (E2.mk v24 v25 v26) 256).bind fun r28=>if(v27.Dh++([r28.1]:List Int)).length*8<=140737488355328/\(v27.Dh++([r28.1]:List Int)).length<=maxLen then Axx n3 (Ap v23 1) r28.2.fb r28.2.fi r28.2.fh (Az.mk v27.G4 v27.C7 v27.Nb v27.fUp v27.G5 v27.Bz v27.G6 v27.G7 v27.Ad v27.No v27.G8 v27.D5 (v27.Dh++([r28.1]:List Int)))else none else some (v27,(E2.mk v24 v25 v26))
def Axy (v18:List Int)(v19 v20:Int)(v21:Az):Option (Az×E2):=(A4 K (E2.mk v18 v19 v20) 3).bind fun r22=>Axx K K r22.1 r22.2.fb r22.2.fi r22.2.fh v21
def Axz (a1:Fi):Nat->Int->(List Int)->Int->Int->Az->Az->Option (Az×E2)
 |0,_,_,_,_,_,_=>none
 |n1+1,v7,v8,v9,v10,v11,v12=>bif decide (v7>0)then(A4 K (E2.mk v8 v9 v10) 5).bind fun r13=>(V1 K r13.2 ([1,2,4]:List Int)).bind fun r14=>if r14.2.2.length=([1,2,4]:List Int).length then(Ayp K a1 v11 (A1 1 r13.1) r14.1).bind fun r15=>Axz a1 n1 (Ap v7 1) r14.2.1.fb r14.2.1.fi r14.2.1.fh r15.1 v12 else none else(Ap4 K (E2.mk v8 v9 v10) 3).bind fun r16=>bif r16.1 then(Au8 K a1 v11 2 (A1 a1.Du 1)).bind fun r17=>Axy K r16.2.fb r16.2.fi r16.2.fh r17.1 else Axy K r16.2.fb r16.2.fi r16.2.fh v11
def A27 (a0:E2)(a1:Fi):Option (Az×E2):=(A4 K a0 a1.Dv).bind fun r1=>(Amp K (A1 1 r1.1)).bind fun r2=>(A4 K r1.2 2).bind fun r3=>(A4 K r3.2 2).bind fun r4=>(Ay5 K a1 (Az.mk 1 r2.C7 r3.1 r2.fUp r2.G5 r2.Bz r2.G6 r2.G7 r2.Ad r2.No r2.G8 r2.D5 r2.Dh) r4.1).bind fun r5=>(A4 K r4.2 4).bind fun r6=>Axz K a1 K r6.1 r6.2.fb r6.2.fi r6.2.fh r5.1 (Az.mk 0 0 0 0 0 0 0 0 [] 0 0 [] [])
def Bj7:=fd Tryz.func341 ⟨[.b 171 false,.v 33],[.n 77 false],false⟩ (gC (A82 K) (gC (Bf2 K) (gC (Bf5 K) (gC (Bf4 K) (gC (Bod K) (gC (Bvz K) (gC (Bvx K) gN))))))) [] [255] [(9,[.take 105 8 6688,.take 105 11 6691,.take 105 12 6692]),(11,[.take 105 8 6688,.take 105 11 6691,.take 105 12 6692]),(15,[.take 105 12 6692]),(16,[.take 105 8 6688,.take 105 11 6691,.take 105 12 6692])]
def B58:Fw:=⟨[(0,.p 1),(4,.p 104),(5,.p 105),(8,.v 2)],[(1,.box bx8),(105,.st 77 false),(104,.st 77 false)]⟩
def B59:Fw:=⟨[(0,.p 1),(4,.p 104),(5,.p 105)],[(1,.box bx8),(105,.st 77 false),(104,.st 77 false)]⟩
def Bia:=lp (Bj7 K) 4090 B58 [] (fun n a b c d e _=>Axx K n a b c d e) (fun n=>kN)
def Bls:=jn (Bj7 K) 255 B59 [] (fun a b c d _=>Axy K a b c d) (kC (Bia K K) kN)
def Bib:=lp (Bj7 K) 1018 B3a [] (fun n a b c d e f g=>Axz K g n a b c d e f) (fun n=>kC (up (Bls K)) kN)
def Byf:=ct (Bj7 K) (A27 K) (kC (Bib K K) kN)
def A0q (K:Nat)(v12:List Int)(v13 v14:Int)(v15:Bb):Option (Bb×E2):=some (v15,(E2.mk v12 v13 v14))
def Ax0 (v6:List Int)(v7 v8:Int)(v9 v10:Bb):Option (Bb×E2):=(Ap4 K (E2.mk v6 v7 v8) 4).bind fun r11=>bif r11.1 then A0q K r11.2.fb r11.2.fi r11.2.fh (Bb.mk v9.Be v9.Bz ([]:List Int) ([]:List Int) 0)else A0q K r11.2.fb r11.2.fi r11.2.fh v9
def A28 (a0:E2)(a1:Fi):Option (Bb×E2):=(A27 K a0 a1).bind fun r1=>(A4 K r1.2 (A1 a1.Cd 1)).bind fun r2=>(Axn K r1.1 r2.1).bind fun r3=>(A4 K r2.2 3).bind fun r4=>bif decide ((r3.Ad.length:Int)>0)then(A4 K r4.2 a1.Du).bind fun r5=>Ax0 K r5.2.fb r5.2.fi r5.2.fh (Bb.mk r3.Be r4.1 r3.Dh r3.Ad r5.1) (Bb.mk 0 0 [] [] 0)else Ax0 K r4.2.fb r4.2.fi r4.2.fh (Bb.mk r3.Be r4.1 r3.Dh r3.Ad r3.H2) (Bb.mk 0 0 [] [] 0)
def Bo3:=fd Tryz.func300 ⟨[.b 171 false,.v 33],[.n 79 true],false⟩ (gC (A82 K) (gC (Bf5 K) (gC (Bn2 K) (gC (Byf K) gN)))) [] [15,31] [(9,[.take 105 2 6682,.take 105 3 6683])]
def B3b:Fw:=⟨[(4,.p 104),(5,.p 105)],[(1,.box bx8),(105,.st 79 true),(104,.st 79 true)]⟩
def B6a:Fw:=⟨[(0,.p 1),(4,.p 104),(5,.p 105)],[(1,.box bx8),(105,.st 79 true),(104,.st 79 true)]⟩
def Bo4:=jn (Bo3 K) 31 B3b [] (fun a b c d _=>A0q K a b c d) kN
def Bo5:=jn (Bo3 K) 15 B6a [] (Ax0 K) (kC (Bo4 K) kN)
def Byg:=ct (Bo3 K) (A28 K) (kC (Bo5 K) kN)
def At3 (K:Nat)(v4:List Int)(v5 v6:Int)(v7 v8:Bb):Option (Bb×E2):=some (v7,(E2.mk v4 v5 v6))
def A32 (a0:E2)(a1:Fi):Option (Bb×E2):=(A28 K a0 a1).bind fun r1=>(A4 K r1.2 10).bind fun r2=>bif r2.1==0 then(V1 K r2.2 ([(-1),0,8,9]:List Int)).bind fun r3=>if r3.2.2.length=([(-1),0,8,9]:List Int).length then At3 K r3.2.1.fb r3.2.1.fi r3.2.1.fh (Bb.mk r3.1 r1.1.Bz r1.1.Dh r1.1.Ad r1.1.H2) (Bb.mk 0 0 [] [] 0)else none else bif r2.1==1 then(V1 K r2.2 ([(-1),9,0]:List Int)).bind fun r9=>if r9.2.2.length=([(-1),9,0]:List Int).length then At3 K r9.2.1.fb r9.2.1.fi r9.2.1.fh (Bb.mk r1.1.Be r9.1 r1.1.Dh r1.1.Ad r1.1.H2) (Bb.mk 0 0 [] [] 0)else none else bif r2.1==2 then(V1 K r2.2 ([(-1),0,8,16]:List Int)).bind fun r10=>if r10.2.2.length=([(-1),0,8,16]:List Int).length then At3 K r10.2.1.fb r10.2.1.fi r10.2.1.fh (Bb.mk r1.1.Be r1.1.Bz r1.1.Dh r1.1.Ad r10.1) (Bb.mk 0 0 [] [] 0)else none else bif r2.1==3 then(V1 K r2.2 ([(-1),255,256]:List Int)).bind fun r11=>if r11.2.2.length=([(-1),255,256]:List Int).length then if(r1.1.Dh++([r11.1]:List Int)).length*8<=140737488355328/\(r1.1.Dh++([r11.1]:List Int)).length<=maxLen then At3 K r11.2.1.fb r11.2.1.fi r11.2.1.fh (Bb.mk r1.1.Be r1.1.Bz (r1.1.Dh++([r11.1]:List Int)) r1.1.Ad r1.1.H2) (Bb.mk 0 0 [] [] 0)else none else none else bif r2.1==4 then(V1 K r2.2 ([(-1),0,12]:List Int)).bind fun r12=>if r12.2.2.length=([(-1),0,12]:List Int).length then if(r1.1.Ad++([r12.1]:List Int)).length*8<=140737488355328/\(r1.1.Ad++([r12.1]:List Int)).length<=maxLen then At3 K r12.2.1.fb r12.2.1.fi r12.2.1.fh (Bb.mk r1.1.Be r1.1.Bz r1.1.Dh (r1.1.Ad++([r12.1]:List Int)) r1.1.H2) (Bb.mk 0 0 [] [] 0)else none else none else At3 K r2.2.fb r2.2.fi r2.2.fh r1.1 (Bb.mk 0 0 [] [] 0)
def Bv8:=fd Tryz.func231 ⟨[.b 171 false,.v 33],[.n 79 true],false⟩ (gC (A82 K) (gC (Bf2 K) (gC (Byg K) gN))) [] [7] [(13,[.take 105 2 6682,.take 105 3 6683])]
def Buc:=jn (Bv8 K) 7 B3b [] (At3 K) kN
def Byh:=ct (Bv8 K) (A32 K) (kC (Buc K) kN)
def Aaj (K:Nat)(v5:List Int)(v6 v7:Int)(v8 v9:Int)(v10 v11:Int)(v12 v13:Int)(v14 v15 v16:List Int)(v17:List Az)(v18:List Bb)(v19:List Int)(v20 v21:Int)(v22 v23:Int)(v24 v25:Int)(v26 v27 v28:List Int)(v29:List Az)(v30:List Bb)(v31:List Int):Option (Bo×E2):=some ((Bo.mk (Fi.mk v8 v9 v10 v11 v12 v13) (Ef.mk v14 v15 v16) v17 v18 v19),(E2.mk v5 v6 v7))
def A33 (a0:E2)(a1:Int):Option (Bo×E2):=(Ayt K a0 a1).bind fun r1=>(A4 K r1.2 (r1.1.fL.length:Int)).bind fun r2=>(A4 K r2.2 40).bind fun r3=>bif r3.1==0 then(A45 K r3.2).bind fun r4=>Aaj K r4.2.fb r4.2.fi r4.2.fh r4.1.Ad r4.1.Du r4.1.Cd r4.1.Ez r4.1.Ce r4.1.Dv r1.1.fP.Fp r1.1.fP.G4 r1.1.fP.Fq r1.1.fL r1.1.fQ r1.1.Jp 0 0 0 0 0 0 [] [] [] [] [] []else bif r3.1==1 then(A4 K r3.2 (r1.1.fP.G4.length:Int)).bind fun r32=>(A4 K r32.2 4).bind fun r33=>if 0<=r32.1/\r32.1<r1.1.fP.G4.length then Aaj K r33.2.fb r33.2.fi r33.2.fh r1.1.fC.Ad r1.1.fC.Du r1.1.fC.Cd r1.1.fC.Ez r1.1.fC.Ce r1.1.fC.Dv r1.1.fP.Fp (r1.1.fP.G4.set r32.1.toNat r33.1) r1.1.fP.Fq r1.1.fL r1.1.fQ r1.1.Jp 0 0 0 0 0 0 [] [] [] [] [] []else none else bif r3.1==2 then(A4 K r3.2 (r1.1.fP.Fp.length:Int)).bind fun r34=>if 0<=r34.1/\r34.1<r1.1.fP.Fp.length then Aaj K r34.2.fb r34.2.fi r34.2.fh r1.1.fC.Ad r1.1.fC.Du r1.1.fC.Cd r1.1.fC.Ez r1.1.fC.Ce r1.1.fC.Dv (r1.1.fP.Fp.set r34.1.toNat 9) r1.1.fP.G4 r1.1.fP.Fq r1.1.fL r1.1.fQ r1.1.Jp 0 0 0 0 0 0 [] [] [] [] [] []else none else bif r3.1==3 then(A46 K r3.2 r1.1.fC).bind fun r35=>if 0<=r2.1/\r2.1<r1.1.fL.length then Aaj K r35.2.fb r35.2.fi r35.2.fh r1.1.fC.Ad r1.1.fC.Du r1.1.fC.Cd r1.1.fC.Ez r1.1.fC.Ce r1.1.fC.Dv r1.1.fP.Fp r1.1.fP.G4 r1.1.fP.Fq (r1.1.fL.set r2.1.toNat r35.1) r1.1.fQ r1.1.Jp 0 0 0 0 0 0 [] [] [] [] [] []else none else bif r3.1==4 then(A4 K r3.2 4).bind fun r36=>if 0<=r2.1/\r2.1<r1.1.fL.length then Au7 (r1.1.fL.set r2.1.toNat (Az.mk r36.1 (gt r1.1.fL r2.1).C7 (gt r1.1.fL r2.1).Nb (gt r1.1.fL r2.1).fUp (gt r1.1.fL r2.1).G5 (gt r1.1.fL r2.1).Bz (gt r1.1.fL r2.1).G6 (gt r1.1.fL r2.1).G7 (gt r1.1.fL r2.1).Ad (gt r1.1.fL r2.1).No (gt r1.1.fL r2.1).G8 (gt r1.1.fL r2.1).D5 (gt r1.1.fL r2.1).Dh)) fun v37=>Aaj K r36.2.fb r36.2.fi r36.2.fh r1.1.fC.Ad r1.1.fC.Du r1.1.fC.Cd r1.1.fC.Ez r1.1.fC.Ce r1.1.fC.Dv r1.1.fP.Fp r1.1.fP.G4 r1.1.fP.Fq v37 r1.1.fQ r1.1.Jp 0 0 0 0 0 0 [] [] [] [] [] []else none else bif r3.1==5 then(A4 K r3.2 4).bind fun r38=>if 0<=r2.1/\r2.1<r1.1.fL.length then Au7 (r1.1.fL.set r2.1.toNat (Az.mk (gt r1.1.fL r2.1).G4 (gt r1.1.fL r2.1).C7 (gt r1.1.fL r2.1).Nb r38.1 (gt r1.1.fL r2.1).G5 (gt r1.1.fL r2.1).Bz (gt r1.1.fL r2.1).G6 (gt r1.1.fL r2.1).G7 (gt r1.1.fL r2.1).Ad (gt r1.1.fL r2.1).No (gt r1.1.fL r2.1).G8 (gt r1.1.fL r2.1).D5 (gt r1.1.fL r2.1).Dh)) fun v39=>Aaj K r38.2.fb r38.2.fi r38.2.fh r1.1.fC.Ad r1.1.fC.Du r1.1.fC.Cd r1.1.fC.Ez r1.1.fC.Ce r1.1.fC.Dv r1.1.fP.Fp r1.1.fP.G4 r1.1.fP.Fq v39 r1.1.fQ r1.1.Jp 0 0 0 0 0 0 [] [] [] [] [] []else none else bif r3.1==6 then if 0<=r2.1/\r2.1<r1.1.fL.length then if 0<=r2.1/\r2.1<r1.1.fL.length then Au7 (r1.1.fL.set r2.1.toNat (Az.mk (gt r1.1.fL r2.1).G4 (gt r1.1.fL r2.1).C7 (A1 (gt r1.1.fL r2.1).Nb 1) (gt r1.1.fL r2.1).fUp (gt r1.1.fL r2.1).G5 (gt r1.1.fL r2.1).Bz (gt r1.1.fL r2.1).G6 (gt r1.1.fL r2.1).G7 (gt r1.1.fL r2.1).Ad (gt r1.1.fL r2.1).No (gt r1.1.fL r2.1).G8 (gt r1.1.fL r2.1).D5 (gt r1.1.fL r2.1).Dh)) fun v40=>Aaj K r3.2.fb r3.2.fi r3.2.fh r1.1.fC.Ad r1.1.fC.Du r1.1.fC.Cd r1.1.fC.Ez r1.1.fC.Ce r1.1.fC.Dv r1.1.fP.Fp r1.1.fP.G4 r1.1.fP.Fq v40 r1.1.fQ r1.1.Jp 0 0 0 0 0 0 [] [] [] [] [] []else none else none else bif r3.1==7 then(A32 K r3.2 r1.1.fC).bind fun r41=>if(r1.1.fQ++[r41.1]).length*72<=140737488355328/\(r1.1.fQ++[r41.1]).length<=maxLen then Aaj K r41.2.fb r41.2.fi r41.2.fh r1.1.fC.Ad r1.1.fC.Du r1.1.fC.Cd r1.1.fC.Ez r1.1.fC.Ce r1.1.fC.Dv r1.1.fP.Fp r1.1.fP.G4 r1.1.fP.Fq r1.1.fL (r1.1.fQ++[r41.1]) r1.1.Jp 0 0 0 0 0 0 [] [] [] [] [] []else none else bif r3.1==8 then bif decide ((r1.1.fQ.length:Int)>0)then if(0:Int)<=1/\1<=(r1.1.fQ.length:Int)/\(r1.1.fQ.length:Int)<=r1.1.fQ.length then Aaj K r3.2.fb r3.2.fi r3.2.fh r1.1.fC.Ad r1.1.fC.Du r1.1.fC.Cd r1.1.fC.Ez r1.1.fC.Ce r1.1.fC.Dv r1.1.fP.Fp r1.1.fP.G4 r1.1.fP.Fq r1.1.fL ((r1.1.fQ.drop (1:Int).toNat).take ((r1.1.fQ.length:Int) - 1).toNat) r1.1.Jp 0 0 0 0 0 0 [] [] [] [] [] []else none else Aaj K r3.2.fb r3.2.fi r3.2.fh r1.1.fC.Ad r1.1.fC.Du r1.1.fC.Cd r1.1.fC.Ez r1.1.fC.Ce r1.1.fC.Dv r1.1.fP.Fp r1.1.fP.G4 r1.1.fP.Fq r1.1.fL r1.1.fQ r1.1.Jp 0 0 0 0 0 0 [] [] [] [] [] []else bif r3.1==9 then(V1 K r3.2 ([0,255,256,(-1)]:List Int)).bind fun r42=>if r42.2.2.length=([0,255,256,(-1)]:List Int).length then if(r1.1.Jp++([r42.1]:List Int)).length*8<=140737488355328/\(r1.1.Jp++([r42.1]:List Int)).length<=maxLen then Aaj K r42.2.1.fb r42.2.1.fi r42.2.1.fh r1.1.fC.Ad r1.1.fC.Du r1.1.fC.Cd r1.1.fC.Ez r1.1.fC.Ce r1.1.fC.Dv r1.1.fP.Fp r1.1.fP.G4 r1.1.fP.Fq r1.1.fL r1.1.fQ (r1.1.Jp++([r42.1]:List Int)) 0 0 0 0 0 0 [] [] [] [] [] []else none else none else bif r3.1==10 then if 0<=r2.1/\r2.1<r1.1.fL.length then if 0<=r2.1/\r2.1<r1.1.fL.length then(A4 K r3.2 60).bind fun r43=>if(((gt r1.1.fL r2.1).D5)++([(Bn.mk r43.1 2 0)]:List Bn)).length*24<=140737488355328/\(((gt r1.1.fL r2.1).D5)++([(Bn.mk r43.1 2 0)]:List Bn)).length<=maxLen then if 0<=r2.1/\r2.1<r1.1.fL.length then Aaj K r43.2.fb r43.2.fi r43.2.fh r1.1.fC.Ad r1.1.fC.Du r1.1.fC.Cd r1.1.fC.Ez r1.1.fC.Ce r1.1.fC.Dv r1.1.fP.Fp r1.1.fP.G4 r1.1.fP.Fq (r1.1.fL.set r2.1.toNat (Az.mk (gt r1.1.fL r2.1).G4 (gt r1.1.fL r2.1).C7 (gt r1.1.fL r2.1).Nb (gt r1.1.fL r2.1).fUp (gt r1.1.fL r2.1).G5 (gt r1.1.fL r2.1).Bz (gt r1.1.fL r2.1).G6 (gt r1.1.fL r2.1).G7 (gt r1.1.fL r2.1).Ad (gt r1.1.fL r2.1).No (gt r1.1.fL r2.1).G8 (((gt r1.1.fL r2.1).D5)++([(Bn.mk r43.1 2 0)]:List Bn)) (gt r1.1.fL r2.1).Dh)) r1.1.fQ r1.1.Jp 0 0 0 0 0 0 [] [] [] [] [] []else none else none else none else none else bif r3.1==11 then(A4 K r3.2 4).bind fun r44=>if 0<=r2.1/\r2.1<r1.1.fL.length then Au7 (r1.1.fL.set r2.1.toNat (Az.mk (gt r1.1.fL r2.1).G4 (gt r1.1.fL r2.1).C7 (gt r1.1.fL r2.1).Nb (gt r1.1.fL r2.1).fUp (gt r1.1.fL r2.1).G5 (gt r1.1.fL r2.1).Bz r44.1 (gt r1.1.fL r2.1).G7 (gt r1.1.fL r2.1).Ad (gt r1.1.fL r2.1).No (gt r1.1.fL r2.1).G8 (gt r1.1.fL r2.1).D5 (gt r1.1.fL r2.1).Dh)) fun v45=>Aaj K r44.2.fb r44.2.fi r44.2.fh r1.1.fC.Ad r1.1.fC.Du r1.1.fC.Cd r1.1.fC.Ez r1.1.fC.Ce r1.1.fC.Dv r1.1.fP.Fp r1.1.fP.G4 r1.1.fP.Fq v45 r1.1.fQ r1.1.Jp 0 0 0 0 0 0 [] [] [] [] [] []else none else bif r3.1==12 then bif decide ((r1.1.fQ.length:Int)>0)then(A4 K r3.2 9).bind fun r46=>if(0:Int)<=0/\0<(r1.1.fQ.length:Int)then Aaj K r46.2.fb r46.2.fi r46.2.fh r1.1.fC.Ad r1.1.fC.Du r1.1.fC.Cd r1.1.fC.Ez r1.1.fC.Ce r1.1.fC.Dv r1.1.fP.Fp r1.1.fP.G4 r1.1.fP.Fq r1.1.fL (r1.1.fQ.set (0:Int).toNat (Bb.mk (gt r1.1.fQ 0).Be (gt r1.1.fQ 0).Bz (gt r1.1.fQ 0).Dh (gt r1.1.fQ 0).Ad r46.1)) r1.1.Jp 0 0 0 0 0 0 [] [] [] [] [] []else none else Aaj K r3.2.fb r3.2.fi r3.2.fh r1.1.fC.Ad r1.1.fC.Du r1.1.fC.Cd r1.1.fC.Ez r1.1.fC.Ce r1.1.fC.Dv r1.1.fP.Fp r1.1.fP.G4 r1.1.fP.Fq r1.1.fL r1.1.fQ r1.1.Jp 0 0 0 0 0 0 [] [] [] [] [] []else Aaj K r3.2.fb r3.2.fi r3.2.fh r1.1.fC.Ad r1.1.fC.Du r1.1.fC.Cd r1.1.fC.Ez r1.1.fC.Ce r1.1.fC.Dv r1.1.fP.Fp r1.1.fP.G4 r1.1.fP.Fq r1.1.fL r1.1.fQ r1.1.Jp 0 0 0 0 0 0 [] [] [] [] [] []
def Bv9:=fd Tryz.func132 ⟨[.b 171 false,.v 3],[.v 38],false⟩ (gC (Bo2 K) (gC (Byb K) (gC (A82 K) (gC (Bf2 K) (gC (Bye K) (gC (Byh K) gN)))))) [] [15] [(29,[.opn 20387 (.tmp 6),.takeE 20387 11 64779])] [(104,[.put 3104,.shal 3104]),(114,[.frzT 114])]
def B6b:Fw:=⟨[(4,.p 104),(5,.p 105)],[(1,.box bx8),(105,.box bx6),(104,.box bx6)]⟩
def Bo6:=jn (Bv9 K) 15 B6b [] (Aaj K) kN
def Byi:=ct (Bv9 K) (A33 K) (kC (Bo6 K) kN)
def A29 (a0:List Int)(a1:Int):Option (E2×Bo):=(A2p K a0).bind fun r1=>(A33 K r1 a1).bind fun r2=>some (r2.2,r2.1)
def Byj:=ct (fd Tryz.func130 ⟨[.v 24,.v 3],[.p 171 false,.v 38],false⟩ (gC (B06 K) (gC (Byi K) gN))) (A29 K)
def Aw9 (a0:List Int):Option Bo:=(A29 K a0 60).bind fun r1=>some r1.2
def Byk:=ct (fd Tryz.func67 ⟨[.v 24],[.v 38],false⟩ (gC (Byj K) gN)) (Aw9 K)
def Axa (K:Nat)(a0:List Int):Option (List Int):=bif a0.isEmpty then Amh (some []) ((if(([]:List Int)++a0).length*1<=140737488355328/\(([]:List Int)++a0).length<=maxLen then some (([]:List Int)++a0)else none))else if(([]:List Int)++a0).length*1<=140737488355328/\(([]:List Int)++a0).length<=maxLen then some (([]:List Int)++a0)else none
def Byl:=ct (fd Tryz.func312 ⟨[.v 24],[.n 24 true],true⟩ gN) (Axa K)
def Acs (K:Nat)(a0:List Int):Option (List Int):=bif a0.isEmpty then Amh (some []) ((if(([]:List Int)++a0).length*8<=140737488355328/\(([]:List Int)++a0).length<=maxLen then some (([]:List Int)++a0)else none))else if(([]:List Int)++a0).length*8<=140737488355328/\(([]:List Int)++a0).length<=maxLen then some (([]:List Int)++a0)else none
def Bac:=ct (fd Tryz.func210 ⟨[.v 25],[.n 25 true],true⟩ gN) (Acs K)
def Awl (a0:Ef):Option Ef:=(Axa K a0.Fp).bind fun r1=>(Acs K a0.G4).bind fun r2=>(Acs K a0.Fq).bind fun r3=>some (Ef.mk r1 r2 r3)
def Bic:=ct (fd Tryz.func255 ⟨[.v 34],[.n 34 true],true⟩ (gC (Bac K) (gC (Byl K) gN))) (Awl K)
def At8 (K:Nat)(a0:List Bn):Option (List Bn):=bif a0.isEmpty then Amh (some []) ((if(([]:List Bn)++a0).length*24<=140737488355328/\(([]:List Bn)++a0).length<=maxLen then some (([]:List Bn)++a0)else none))else if(([]:List Bn)++a0).length*24<=140737488355328/\(([]:List Bn)++a0).length<=maxLen then some (([]:List Bn)++a0)else none
def Bym:=ct (fd Tryz.func362 ⟨[.v 75],[.n 75 true],true⟩ gN) (At8 K)
def A10 (a0:Az):Option Az:=(Acs K a0.Ad).bind fun r1=>(At8 K a0.D5).bind fun r2=>(Acs K a0.Dh).bind fun r3=>some (Az.mk a0.G4 a0.C7 a0.Nb a0.fUp a0.G5 a0.Bz a0.G6 a0.G7 r1 a0.No a0.G8 r2 r3)
def Byn:=ct (fd Tryz.func313 ⟨[.v 77],[.n 77 false],true⟩ (gC (Bac K) (gC (Bym K) gN))) (A10 K)
def Arq (a0:List Az):Nat->(List Az)->Int->Int->Option (List Az)
 |0,_,_,_=>none
 |n1+1,v1,v2,v3=>bif decide (v3<v2)then if 0<=v3/\v3<a0.length then(A10 K (gt a0 v3)).bind fun r4=>if(v1++[r4]).length*152<=140737488355328/\(v1++[r4]).length<=maxLen then Arq a0 n1 (v1++[r4]) v2 (A1 v3 1)else none else none else some v1
def Ax1 (a0:List Az):Option (List Az):=Arq K a0 K ([]:List Az) (a0.length:Int) 0
def Bwa:=fd Tryz.func256 ⟨[.v 35],[.n 35 true],false⟩ (gC (Byn K) gN) (post:=[(16,[.put 3016])])
def B6c:Fw:=⟨[(3,.o 1003 77 true),(7,.v 35),(8,.v 2),(9,.v 2)],[]⟩
def Bo7:=lp (Bwa K) 58 B6c [] (fun n a b=>Arq K b n a) (fun n=>kN)
def Bo8:=ct (Bwa K) (Ax1 K) (kC (Bo7 K K) kN)
def A0r (a0:Bb):Option Bb:=(Acs K a0.Dh).bind fun r1=>(Acs K a0.Ad).bind fun r2=>some (Bb.mk a0.Be a0.Bz r1 r2 a0.H2)
def Byo:=ct (fd Tryz.func257 ⟨[.v 79],[.n 79 true],true⟩ (gC (Bac K) gN)) (A0r K)
def Arr:Nat->(List Bb)->Int->Int->Bo->Bo->Option Bo
 |0,_,_,_,_,_=>none
 |n1+1,v4,v5,v6,v7,v8=>bif decide (v6<v5)then if 0<=v6/\v6<v4.length then(A0r K (gt v4 v6)).bind fun r9=>if(v7.fQ.length+1)*72<=140737488355328/\v7.fQ.length+1<=maxLen then Arr n1 v4 v5 (A1 v6 1) (Bo.mk v7.fC v7.fP v7.fL ((v7.fQ++[(default:Bb)]).set (v7.fQ.length:Int).toNat r9) v7.Jp) v8 else none else none else some v7
def A0s (a0:Bo):Option Bo:=(Awl K a0.fP).bind fun r1=>(Ax1 K a0.fL).bind fun r2=>(Acs K a0.Jp).bind fun r3=>Arr K K a0.fQ (a0.fQ.length:Int) 0 (Bo.mk a0.fC r1 r2 [] r3) (Bo.mk (Fi.mk 0 0 0 0 0 0) (Ef.mk [] [] []) [] [] [])
def Bwb:=fd Tryz.func160 ⟨[.v 38],[.n 38 true],false⟩ (gC (Bac K) (gC (Bic K) (gC (Bo8 K) (gC (Byo K) gN)))) [] [] [(5,[.take 103 10 6658]),(7,[.take 103 6 6654,.take 103 7 6655,.take 103 8 6656,.take 103 9 6657,.take 103 10 6658,.take 103 11 6659])]
def B6d:Fw:=⟨[(2,.p 102),(3,.p 103),(19,.v 36),(20,.v 2),(21,.v 2)],[(103,.st 38 true),(102,.st 38 true)]⟩
def Bo9:=lp (Bwb K) 58 B6d [] (Arr K) (fun n=>kN)
def Byp:=ct (Bwb K) (A0s K) (kC (Bo9 K K) kN)
def K0 (K:Nat)(a0 a1 a2:Int):Option Bool:=bif decide (a0>=a1)then some (decide (a0<=a2))else some false
def A5j:=ct (fd Tryz.func156 ⟨[.v 3,.v 3,.v 3],[.v 4],true⟩ gN [9,10]) (K0 K)
def Ay6 (a0:Fi):Option Bool:=(K0 K a0.Ad 2 12).bind fun r1=>bif r1 then(K0 K a0.Du 8 16).bind fun r2=>bif r2 then(K0 K a0.Cd 2 8).bind fun r3=>bif r3 then(K0 K a0.Ez 1 8).bind fun r4=>bif r4 then(K0 K a0.Ce 1 16).bind fun r5=>bif r5 then(K0 K a0.Dv 1 4).bind fun r6=>some r6 else some false else some false else some false else some false else some false
def Beq:=ct (fd Tryz.func47 ⟨[.v 33],[.v 4],true⟩ (gC (A5j K) gN) [5,6,9,10,11,14,15,16,19,20,21,24,25,26]) (Ay6 K)
def A3a (a0:Fi):Option Int:=(Ay6 K a0).bind fun r1=>bif !r1 then some 0 else some (P2 a0.Ad a0.Du)
def Bpa:=ct (fd Tryz.func208 ⟨[.v 33],[.v 3],true⟩ (gC (Beq K) gN)) (A3a K)
def Au0 (K:Nat)(a0:Ef)(a1:Fi)(a2:Int):Option (List Int):=if 0<=(P2 a2 a1.Du)/\(P2 a2 a1.Du)<=(P2 (A1 a2 1) a1.Du)/\(P2 (A1 a2 1) a1.Du)<=a0.Fp.length then some ((a0.Fp.drop (P2 a2 a1.Du).toNat).take ((P2 (A1 a2 1) a1.Du) - (P2 a2 a1.Du)).toNat)else none
def Bid:=ct (fd Tryz.func209 ⟨[.v 34,.v 33,.v 3],[.v 24],false⟩ gN) (Au0 K)
def A4l (K:Nat)(a0:Int):Option Bool:=some (a0 != 0)
def Byq:=ct (fd Tryz.func121 ⟨[.v 5],[.v 4],true⟩ gN) (A4l K)
def Ahy (a0:List Int):Nat->Int->Int->Option Int
 |0,_,_=>none
 |n1+1,v1,v2=>bif decide (v2<v1)then if 0<=v2/\v2<a0.length then(A4l K (gt a0 v2)).bind fun r3=>bif r3 then some v2 else Ahy a0 n1 v1 (A1 v2 1)else none else some (-1)
def Ao8 (a0:List Int):Option Int:=Ahy K a0 K (a0.length:Int) 0
def Bwc:=fd Tryz.func207 ⟨[.v 24,.f 121 [] []],[.v 3],true⟩ (gC (Byq K) gN)
def B6e:Fw:=⟨[(0,.v 24),(1,.f 121 [] []),(7,.v 2),(8,.v 2)],[]⟩
def Bpb:=lp (Bwc K) 26 B6e [] (fun n a=>Ahy K a n) (fun n=>kN)
def Byr:=ct (Bwc K) (Ao8 K) (kC (Bpb K K) kN)
def Al9 (a0:List Int):Option Bool:=(Ao8 K a0).bind fun r1=>some (decide (r1>=0))
def Bys:=ct (fd Tryz.func120 ⟨[.v 24,.f 121 [] []],[.v 4],true⟩ (gC (Byr K) gN)) (Al9 K)
def Aw3 (a0:List Int):Option Bool:=(Al9 K a0).bind fun r1=>some (!r1)
def Ber:=ct (fd Tryz.func30 ⟨[.v 24],[.v 4],true⟩ (gC (Bys K) gN)) (Aw3 K)
def A11 (K:Nat)(v3:List Int)(v4:Int)(v6 v7 v8:List Int)(v12:Int)(C1:(List Int)->Int->Int->(List Int)->(List Int)->(List Int)->Option Bool)(v16:Bool):Option Bool:=bif v16 then some false else C1 v3 v4 (A1 v12 1) v6 v7 v8
def Ava (a0:Fi)(v3:List Int)(v4 v5:Int)(v6 v7 v8:List Int)(C1:(List Int)->Int->Int->(List Int)->(List Int)->(List Int)->Option Bool)(v11 v12:Int)(v13:Bool):Option Bool:=bif v13 then some false else bif v11==0 then(Au0 K (Ef.mk v6 v7 v8) a0 v5).bind fun r14=>(Aw3 K r14).bind fun r15=>A11 K v3 v4 v6 v7 v8 v12 (C1) (!r15)else A11 K v3 v4 v6 v7 v8 v12 (C1) false
def Ak5 (a0:Fi):Nat->(List Int)->Int->Int->(List Int)->(List Int)->(List Int)->Option Bool
 |0,_,_,_,_,_,_=>none
 |n1+1,v3,v4,v5,v6,v7,v8=>bif decide (v5<v4)then if 0<=v5/\v5<v3.length then(K0 K (gt v3 v5) 0 2).bind fun r9=>bif !r9 then some false else bif (gt v3 v5)==1 then if 0<=v5/\v5<v8.length then(K0 K (gt v8 v5) 0 (Ap a0.Cd 1)).bind fun r10=>bif r10 then bif (gt v3 v5) != 1 then if 0<=v5/\v5<v8.length then Ava K a0 v3 v4 v5 v6 v7 v8 (Ak5 a0 n1) (gt v3 v5) v5 ((gt v8 v5) != (-1))else none else Ava K a0 v3 v4 v5 v6 v7 v8 (Ak5 a0 n1) (gt v3 v5) v5 false else Ava K a0 v3 v4 v5 v6 v7 v8 (Ak5 a0 n1) (gt v3 v5) v5 true else none else bif (gt v3 v5) != 1 then if 0<=v5/\v5<v8.length then Ava K a0 v3 v4 v5 v6 v7 v8 (Ak5 a0 n1) (gt v3 v5) v5 ((gt v8 v5) != (-1))else none else Ava K a0 v3 v4 v5 v6 v7 v8 (Ak5 a0 n1) (gt v3 v5) v5 false else none else some true
def A1e (a0:Fi)(a1:Ef):Option Bool:=(Ay6 K a0).bind fun r1=>bif r1 then(A3a K a0).bind fun r2=>bif (a1.Fp.length:Int) != r2 then some false else bif (a1.G4.length:Int) != a0.Ad then some false else bif (a1.Fq.length:Int) != a0.Ad then some false else Ak5 K a0 K a1.G4 (a1.G4.length:Int) 0 a1.Fp a1.G4 a1.Fq else some false
def Bj8:=fd Tryz.func122 ⟨[.v 33,.v 34],[.v 4],true⟩ (gC (Ber K) (gC (Beq K) (gC (A5j K) (gC (Bpa K) (gC (Bid K) gN))))) [8,9,10,16,17,18,24,25,26,48,49,58,59,60,61,63,64,75,76] [29899,119599]
def B6f:Fw:=⟨[(2,.p 102),(3,.p 103),(35,.v 25),(36,.v 2),(37,.v 2),(73,.v 4)],[(103,.box bx9),(102,.st 33 true)]⟩
def B6g:Fw:=⟨[(2,.p 102),(3,.p 103),(5,.v 2),(6,.v 2),(35,.v 25),(36,.v 2),(37,.v 2),(46,.v 4)],[(103,.box bx9),(102,.st 33 true)]⟩
def Bpc:Fw:=⟨[(2,.p 102),(3,.p 103),(35,.v 25),(36,.v 2),(37,.v 2)],[(103,.box bx9),(102,.st 33 true)]⟩
def Bes:=fun(C58:CT Bpc _)=>jn (Bj8 K) 119599 B6f [(58,ar Bpc C58)] (fun a b c d e f g h=>A11 K a b e f g c (fun v3 v4 v5 v6 v7 v8=>C58 v3 v4 v5 v6 v7 v8 h) d) kN
def Bgc:=fun(C58:CT Bpc _)=>jn (Bj8 K) 29899 B6g [(58,ar Bpc C58)] (fun a b c d e f g h i j=>Ava K j c d a g h i (fun v3 v4 v5 v6 v7 v8=>C58 v3 v4 v5 v6 v7 v8 j) b e f) (kC (Bes K _) kN)
def Bpd:=lp (Bj8 K) 58 Bpc [] (fun n a b c d e f g=>Ak5 K g n a b c d e f) (fun n=>kC (Bgc K _) kN)
def Bpe:=ct (Bj8 K) (A1e K) (kC (Bpd K K) kN)
def Am8 (K:Nat)(a0 a1:List Int):Nat->Int->Int->Option Bool
 |0,_,_=>none
 |n1+1,v1,v2=>bif decide (v2<v1)then if 0<=v2/\v2<a0.length then if 0<=v2/\v2<a1.length then bif (gt a0 v2) != (gt a1 v2)then some false else Am8 K a0 a1 n1 v1 (A1 v2 1)else none else none else some true
def Ars (a0 a1:List Int):Option Bool:=bif (a0.length:Int) != (a1.length:Int)then some false else Am8 K a0 a1 K (a0.length:Int) 0
def Bwd:=fd Tryz.func153 ⟨[.v 25,.v 25],[.v 4],true⟩ gN
def B6h:Fw:=⟨[(0,.v 25),(1,.v 25),(12,.v 2),(13,.v 2)],[]⟩
def Bpf:=lp Bwd 58 B6h [] (fun n a b=>Am8 K a b n) (fun n=>kN)
def Bpg:=ct Bwd (Ars K) (kC (Bpf K K) kN)
def Avh (K:Nat)(a0 a1:List Bn):Nat->Int->Int->Option Bool
 |0,_,_=>none
 |n1+1,v1,v2=>bif decide (v2<v1)then if 0<=v2/\v2<a0.length then if 0<=v2/\v2<a1.length then bif !(((gt a0 v2).fAt==(gt a1 v2).fAt)&&(((gt a0 v2).Yg==(gt a1 v2).Yg)&&(((gt a0 v2).Yh==(gt a1 v2).Yh)&&true)))then some false else Avh K a0 a1 n1 v1 (A1 v2 1)else none else none else some true
def Awc (a0 a1:List Bn):Option Bool:=bif (a0.length:Int) != (a1.length:Int)then some false else Avh K a0 a1 K (a0.length:Int) 0
def Bwe:=fd Tryz.func304 ⟨[.v 75,.v 75],[.v 4],true⟩ gN
def B6i:Fw:=⟨[(0,.v 75),(1,.v 75),(12,.v 2),(13,.v 2)],[]⟩
def Bph:=lp Bwe 58 B6i [] (fun n a b=>Avh K a b n) (fun n=>kN)
def Byt:=ct Bwe (Awc K) (kC (Bph K K) kN)
def A4m (a0 a1:Az):Option Bool:=bif a0.G4==a1.G4 then bif a0.C7==a1.C7 then bif a0.Nb==a1.Nb then bif a0.fUp==a1.fUp then bif a0.G5==a1.G5 then bif a0.Bz==a1.Bz then bif a0.G6==a1.G6 then bif a0.G7==a1.G7 then(Ars K a0.Ad a1.Ad).bind fun r1=>bif r1 then bif a0.No==a1.No then bif a0.G8==a1.G8 then(Awc K a0.D5 a1.D5).bind fun r2=>bif r2 then(Ars K a0.Dh a1.Dh).bind fun r3=>some r3 else some false else some false else some false else some false else some false else some false else some false else some false else some false else some false else some false else some false
def Byu:=ct (fd Tryz.func250 ⟨[.v 77,.v 77],[.v 4],true⟩ (gC (Bpg K) (gC (Byt K) gN)) [9,10,15,16,17,22,23,24,29,30,31,36,37,38,43,44,45,50,51,52,57,58,59,64,65,66,71,72,73,78,79,80,85,86,87]) (A4m K)
def A52 (a0:Az):Option Bool:=(A4m K a0 (Az.mk a0.G4 a0.C7 0 0 0 0 0 0 ([]:List Int) 0 0 ([]:List Bn) ([]:List Int))).bind fun r1=>some r1
def Byv:=ct (fd Tryz.func288 ⟨[.v 77],[.v 4],true⟩ (gC (Byu K) gN)) (A52 K)
def Ary (K:Nat)(a0:List Int)(a1:Int):Nat->Int->Int->Option Int
 |0,_,_=>none
 |n1+1,v1,v2=>bif decide (v2<v1)then if 0<=v2/\v2<a0.length then bif a1==(gt a0 v2)then some v2 else Ary K a0 a1 n1 v1 (A1 v2 1)else none else some (-1)
def A2f (a0:List Int)(a1:Int):Option Int:=Ary K a0 a1 K (a0.length:Int) 0
def Bwf:=fd Tryz.func260 ⟨[.v 25,.v 3],[.v 3],true⟩ gN
def B6j:Fw:=⟨[(0,.v 25),(1,.v 2),(7,.v 2),(8,.v 2)],[]⟩
def Bpi:=lp Bwf 26 B6j [] (fun n a b=>Ary K a b n) (fun n=>kN)
def Byw:=ct Bwf (A2f K) (kC (Bpi K K) kN)
def Ap2 (a0:List Int)(a1:Int):Option Bool:=(A2f K a0 a1).bind fun r1=>some (decide (r1>=0))
def Bie:=ct (fd Tryz.func290 ⟨[.v 25,.v 3],[.v 4],true⟩ (gC (Byw K) gN)) (Ap2 K)
def Atf (a0:Fi)(a1:List Int):Nat->(List Int)->Int->Int->Option Bool
 |0,_,_,_=>none
 |n1+1,v1,v2,v3=>bif decide (v3<v2)then if 0<=v3/\v3<v1.length then(K0 K (gt v1 v3) 0 (Ap a0.Ad 1)).bind fun r4=>bif r4 then if(0:Int)<=0/\0<=v3/\v3<=a1.length then(Ap2 K ((a1.drop (0:Int).toNat).take (v3 - 0).toNat) (gt v1 v3)).bind fun r5=>bif r5 then some false else Atf a0 a1 n1 v1 v2 (A1 v3 1)else none else some false else none else some true
def Ayy (a0:Fi)(a1:List Int):Option Bool:=Atf K a0 a1 K a1 (a1.length:Int) 0
def Bwg:=fd Tryz.func289 ⟨[.v 33,.v 25],[.v 4],true⟩ (gC (A5j K) (gC (Bie K) gN)) [18,19,20]
def B6k:Fw:=⟨[(1,.v 25),(2,.p 102),(7,.v 25),(8,.v 2),(9,.v 2)],[(102,.st 33 true)]⟩
def Bpj:=lp (Bwg K) 26 B6k [] (fun n a b c d e=>Atf K e a n b c d) (fun n=>kN)
def Bpk:=ct (Bwg K) (Ayy K) (kC (Bpj K K) kN)
def Azf (a0:Int):Option Bool:=(K0 K a0 0 255).bind fun r1=>some (!r1)
def Byx:=ct (fd Tryz.func223 ⟨[.v 3],[.v 4],true⟩ (gC (A5j K) gN)) (Azf K)
def Ahx (a0:List Int):Nat->Int->Int->Option Int
 |0,_,_=>none
 |n1+1,v1,v2=>bif decide (v2<v1)then if 0<=v2/\v2<a0.length then(Azf K (gt a0 v2)).bind fun r3=>bif r3 then some v2 else Ahx a0 n1 v1 (A1 v2 1)else none else some (-1)
def Ank (a0:List Int):Option Int:=Ahx K a0 K (a0.length:Int) 0
def Bwh:=fd Tryz.func297 ⟨[.v 25,.f 223 [] []],[.v 3],true⟩ (gC (Byx K) gN)
def B3c:Fw:=⟨[(0,.v 25),(1,.f 223 [] []),(7,.v 2),(8,.v 2)],[]⟩
def Bpl:=lp (Bwh K) 26 B3c [] (fun n a=>Ahx K a n) (fun n=>kN)
def Byy:=ct (Bwh K) (Ank K) (kC (Bpl K K) kN)
def Alc (a0:List Int):Option Bool:=(Ank K a0).bind fun r1=>some (decide (r1>=0))
def Byz:=ct (fd Tryz.func222 ⟨[.v 25,.f 223 [] []],[.v 4],true⟩ (gC (Byy K) gN)) (Alc K)
def Awm (a0:List Int):Option Bool:=(Alc K a0).bind fun r1=>some (!r1)
def Bif:=ct (fd Tryz.func126 ⟨[.v 25],[.v 4],true⟩ (gC (Byz K) gN)) (Awm K)
def A7q (K:Nat)(a0:Fi)(a1:Int):Option Bool:=some (decide (a1>a0.Du))
def By0:=ct (fd Tryz.func336 ⟨[.v 33,.v 3],[.v 4],true⟩ gN) (A7q K)
def A7r (a0 a1:Int):Option Int:=(K0 K a0 0 1000000000).bind fun r1=>bif r1 then(K0 K a1 1 1000000000).bind fun r2=>bif !r2 then some 0 else if a1≠(0:Int)then some (Apq .i64 (Ap (A1 a0 a1) 1) a1)else none else some 0
def By1:=ct (fd Tryz.func321 ⟨[.v 3,.v 3],[.v 3],true⟩ (gC (A5j K) gN) [6,7,8]) (A7r K)
def A6o (a0:Fi)(a1:Int):Option Int:=(A7r K a1 a0.Du).bind fun r1=>some r1
def By2:=ct (fd Tryz.func337 ⟨[.v 33,.v 3],[.v 3],true⟩ (gC (By1 K) gN)) (A6o K)
def Ax2 (a0:Fi)(a1:Bn):Option Bool:=(A3a K a0).bind fun r1=>bif decide (a1.Yg<=0)then some false else bif decide (a1.fAt<0)then some false else bif decide (a1.Yg>r1)then some false else bif decide (a1.fAt>(Ap r1 a1.Yg))then some false else bif a1.Yh==0 then bif decide (a1.Yg<=a0.Du)then if a0.Du≠(0:Int)then if a0.Du≠(0:Int)then some ((Apq .i64 a1.fAt a0.Du)==(Apq .i64 (Ap (A1 a1.fAt a1.Yg) 1) a0.Du))else none else none else some false else(A7q K a0 a1.Yg).bind fun r2=>bif r2 then(A6o K a0 a1.Yg).bind fun r3=>bif a1.Yh==r3 then if a0.Du≠(0:Int)then some ((Int.tmod a1.fAt a0.Du)==0)else none else some false else some false
def Bpm:=ct (fd Tryz.func292 ⟨[.v 33,.v 183],[.v 4],true⟩ (gC (Bpa K) (gC (By0 K) (gC (By2 K) gN))) [10,11,14,15,16,20,21,22,38,39,59,60,67,68,69]) (Ax2 K)
def A12 (a0:Bn)(a1:Fi):Option Bool:=(Ax2 K a1 a0).bind fun r1=>some (!r1)
def By3:=ct (fd Tryz.func291 ⟨[.v 183,.r 33],[.v 4],true⟩ (gC (Bpm K) gN)) (A12 K)
def Aen (a0:List Bn)(a1_0:Fi):Nat->Int->Int->Option Int
 |0,_,_=>none
 |n1+1,v1,v2=>bif decide (v2<v1)then if 0<=v2/\v2<a0.length then(A12 K (gt a0 v2) a1_0).bind fun r3=>bif r3 then some v2 else Aen a0 a1_0 n1 v1 (A1 v2 1)else none else some (-1)
def Asf (a0:List Bn)(a1_0:Fi):Option Int:=Aen K a0 a1_0 K (a0.length:Int) 0
def Bwi:=fd Tryz.func295 ⟨[.v 75,.f 291 [] [33]],[.v 3],true⟩ (gC (By3 K) gN)
def B3d:Fw:=⟨[(0,.v 75),(1,.f 291 [] [33]),(7,.v 2),(8,.v 2)],[]⟩
def Bpn:=lp (Bwi K) 26 B3d [] (fun n a b=>Aen K a b n) (fun n=>kN)
def By4:=ct (Bwi K) (Asf K) (kC (Bpn K K) kN)
def Aki (a0:List Bn)(a1_0:Fi):Option Bool:=(Asf K a0 a1_0).bind fun r1=>some (decide (r1>=0))
def By5:=ct (fd Tryz.func215 ⟨[.v 75,.f 291 [] [33]],[.v 4],true⟩ (gC (By4 K) gN)) (Aki K)
def Avc (a0:Fi)(v19:List Bn)(v20:List Int):Option Bool:=bif decide ((v19.length:Int)<=12)then bif decide ((v20.length:Int)<=6)then(Awm K v20).bind fun r25=>bif r25 then(Aki K v19 a0).bind fun r26=>some (!r26)else some false else some false else some false
def At4 (a0:Fi):Nat->(List Int)->Int->Int->Int->Int->Int->Int->Int->Int->Int->Int->(List Int)->Int->Int->(List Bn)->(List Int)->Option Bool
 |0,_,_,_,_,_,_,_,_,_,_,_,_,_,_,_,_=>none
 |n1+1,v5,v6,v7,v8,v9,v10,v11,v12,v13,v14,v15,v16,v17,v18,v19,v20=>bif decide (v7<v6)then if 0<=v7/\v7<v5.length then(K0 K (gt v5 v7) 0 a0.Cd).bind fun r21=>bif !r21 then some false else At4 a0 n1 v5 v6 (A1 v7 1) v8 v9 v10 v11 v12 v13 v14 v15 v16 v17 v18 v19 v20 else none else bif decide (v10<0)then some false else bif decide (v12<0)then some false else(Ayy K a0 v16).bind fun r22=>bif r22 then bif v17 != 0 then(Ap2 K v16 (Ap v17 1)).bind fun r23=>bif r23 then(K0 K v18 0 a0.Du).bind fun r24=>bif r24 then bif v17==0 then bif v18 != 0 then some false else Avc K a0 v19 v20 else Avc K a0 v19 v20 else some false else some false else(K0 K v18 0 a0.Du).bind fun r27=>bif r27 then bif v17==0 then bif v18 != 0 then some false else Avc K a0 v19 v20 else Avc K a0 v19 v20 else some false else some false
def A34 (a0:Fi)(a1:Az):Option Bool:=(Ay6 K a0).bind fun r1=>bif r1 then(K0 K a1.G4 0 3).bind fun r2=>bif r2 then(K0 K a1.C7 1 a0.Dv).bind fun r3=>bif !r3 then some false else bif a1.G4 != 1 then(A52 K a1).bind fun r4=>some r4 else At4 K a0 K ([a1.fUp,a1.Bz,a1.G6,a1.G7]:List Int) (([a1.fUp,a1.Bz,a1.G6,a1.G7]:List Int).length:Int) 0 a1.G4 a1.C7 a1.Nb a1.fUp a1.G5 a1.Bz a1.G6 a1.G7 a1.Ad a1.No a1.G8 a1.D5 a1.Dh else some false else some false
def Bpo:=fd Tryz.func212 ⟨[.v 33,.v 77],[.v 4],true⟩ (gC (Beq K) (gC (Bif K) (gC (A5j K) (gC (By5 K) (gC (Byv K) (gC (Bpk K) (gC (Bie K) gN))))))) [8,9,10,13,14,15,16,51,52,55,56,57,61,62,63,64,67,68,74,75,76,77,78,83,84,85,86,89,90,99,100,104,105,106,109,110,111] [31] [(13,[.frzB 102 33])]
def B3e:Fw:=⟨[(2,.p 102),(3,.p 103)],[(103,.box bx4),(102,.st 33 true)]⟩
def B3f:Fw:=⟨[(2,.p 102),(3,.p 103),(37,.v 25),(38,.v 2),(39,.v 2)],[(103,.box bx4),(102,.st 33 true)]⟩
def Bpp:=jn (Bpo K) 31 B3e [] (fun _ _ _ _ _ _ _ _ _ _ _ l m o=>Avc K o l m) kN
def Blt:=lp (Bpo K) 122 B3f [] (fun n a b c d e f g h i j k l m o p q r=>At4 K r n a b c d e f g h i j k l m o p q) (fun n=>kC (up (Bpp K)) kN)
def By6:=ct (Bpo K) (A34 K) (kC (Blt K K) kN)
def Ax3 (K:Nat)(v2 v3:Int)(v4 v5 v6:List Int)(C1:(List Int)->Int->Int->(List Int)->(List Int)->(List Int)->Option (List Int))(v7:List Int):Option (List Int):=C1 v7 v2 (A1 v3 1) v4 v5 v6
def Ao9 (a1:Int):Nat->(List Int)->Int->Int->(List Int)->(List Int)->(List Int)->Option (List Int)
 |0,_,_,_,_,_,_=>none
 |n1+1,v1,v2,v3,v4,v5,v6=>bif decide (v3<v2)then if 0<=v3/\v3<v5.length then bif (gt v5 v3)==1 then if 0<=v3/\v3<v6.length then bif (gt v6 v3)==a1 then if(v1++([v3]:List Int)).length*8<=140737488355328/\(v1++([v3]:List Int)).length<=maxLen then Ax3 K v2 v3 v4 v5 v6 (Ao9 a1 n1) (v1++([v3]:List Int))else none else Ax3 K v2 v3 v4 v5 v6 (Ao9 a1 n1) v1 else none else Ax3 K v2 v3 v4 v5 v6 (Ao9 a1 n1) v1 else none else some v1
def Az0 (a0:Ef)(a1:Int):Option (List Int):=Ao9 K a1 K ([]:List Int) (Ada (a0.G4.length:Int) (a0.Fq.length:Int)) 0 a0.Fp a0.G4 a0.Fq
def Bpq:=fd Tryz.func119 ⟨[.v 34,.v 3],[.n 25 true],true⟩ gN [23,24] [467]
def Bj9:Fw:=⟨[(1,.v 2),(2,.p 102),(5,.o 1005 3 true),(14,.v 2),(15,.v 2)],[(102,.box bx9)]⟩
def Blu:=fun(C58:CT Bj9 _)=>jn Bpq 467 Bj9 [(58,ar Bj9 C58)] (fun a b c d e f g=>Ax3 K c d e f g (C58 a) b) kN
def Bpr:=lp Bpq 58 Bj9 [] (fun n a=>Ao9 K a n) (fun n=>kC (Blu K _) kN)
def Bps:=ct Bpq (Az0 K) (kC (Bpr K K) kN)
def Ape (a0:Bn)(a1:Fi)(a2:Az):Nat->Int->Option Bool
 |0,_=>none
 |n1+1,v2=>if a1.Du≠(0:Int)then bif decide (v2<=(Apq .i64 (Ap (A1 a0.fAt a0.Yg) 1) a1.Du))then(Ap2 K a2.Ad v2).bind fun r3=>bif !r3 then some true else Ape a0 a1 a2 n1 (A1 v2 1)else some false else none
def Awv (a0:Bn)(a1:Fi)(a2:Az):Option Bool:=(Ax2 K a1 a0).bind fun r1=>bif !r1 then some true else if a1.Du≠(0:Int)then Ape K a0 a1 a2 K (Apq .i64 a0.fAt a1.Du)else none
def Bwj:=fd Tryz.func293 ⟨[.v 183,.r 33,.r 77],[.v 4],true⟩ (gC (Bie K) (gC (Bpm K) gN))
def B3g:Fw:=⟨[(1,.r 33),(2,.r 77),(3,.p 103),(5,.v 2)],[(103,.st 183 true)]⟩
def Bpt:=lp (Bwj K) 58 B3g [] (fun n a b c d=>Ape K d a b n c) (fun n=>kN)
def By7:=ct (Bwj K) (Awv K) (kC (Bpt K K) kN)
def Aco (a0:List Bn)(a1_0:Fi)(a1_1:Az):Nat->Int->Int->Option Int
 |0,_,_=>none
 |n1+1,v1,v2=>bif decide (v2<v1)then if 0<=v2/\v2<a0.length then(Awv K (gt a0 v2) a1_0 a1_1).bind fun r3=>bif r3 then some v2 else Aco a0 a1_0 a1_1 n1 v1 (A1 v2 1)else none else some (-1)
def Arm (a0:List Bn)(a1_0:Fi)(a1_1:Az):Option Int:=Aco K a0 a1_0 a1_1 K (a0.length:Int) 0
def Bwk:=fd Tryz.func295 ⟨[.v 75,.f 293 [] [33,77]],[.v 3],true⟩ (gC (By7 K) gN)
def B3h:Fw:=⟨[(0,.v 75),(1,.f 293 [] [33,77]),(7,.v 2),(8,.v 2)],[]⟩
def Bpu:=lp (Bwk K) 26 B3h [] (fun n a b c=>Aco K a b c n) (fun n=>kN)
def By8:=ct (Bwk K) (Arm K) (kC (Bpu K K) kN)
def Ahz (a0:List Bn)(a1_0:Fi)(a1_1:Az):Option Bool:=(Arm K a0 a1_0 a1_1).bind fun r1=>some (decide (r1>=0))
def By9:=ct (fd Tryz.func215 ⟨[.v 75,.f 293 [] [33,77]],[.v 4],true⟩ (gC (By8 K) gN)) (Ahz K)
def A13 (a0:Fi)(a1:Az):Option Bool:=(Ahz K a1.D5 a0 a1).bind fun r1=>some (!r1)
def Bza:=ct (fd Tryz.func213 ⟨[.v 33,.v 77],[.v 4],true⟩ (gC (By9 K) gN) [] [] [(1,[.frzB 102 33,.frzB 103 77])]) (A13 K)
def A3b (K:Nat)(v1 v2:Bn):Option Bool:=some (decide ((Asu .u64 (IntKind.u64.wrap v1.fAt) (IntKind.u64.wrap v2.fAt))>=(IntKind.u64.wrap v2.Yg)))
def A3c (a0 a1:Bn):Option Bool:=bif decide (a0.Yg<=0)then some true else bif decide (a1.Yg<=0)then some true else bif decide (a0.fAt>a1.fAt)then A3b K a0 a1 else A3b K a1 a0
def Bwl:=fd Tryz.func217 ⟨[.v 183,.v 183],[.v 4],true⟩ gN [7,8] [7]
def B3i:Fw:=⟨[(2,.p 102),(3,.p 103)],[(103,.st 183 true),(102,.st 183 true)]⟩
def Bud:=jn Bwl 7 B3i [] (A3b K) kN
def Bpv:=ct Bwl (A3c K) (kC (Bud K) kN)
def Azg (a0 a1:Bn):Option Bool:=(A3c K a0 a1).bind fun r1=>some (!r1)
def Bzb:=ct (fd Tryz.func294 ⟨[.v 183,.r 183],[.v 4],true⟩ (gC (Bpv K) gN)) (Azg K)
def Acp (a0:List Bn)(a1_0:Bn):Nat->Int->Int->Option Int
 |0,_,_=>none
 |n1+1,v1,v2=>bif decide (v2<v1)then if 0<=v2/\v2<a0.length then(Azg K (gt a0 v2) a1_0).bind fun r3=>bif r3 then some v2 else Acp a0 a1_0 n1 v1 (A1 v2 1)else none else some (-1)
def Arn (a0:List Bn)(a1_0:Bn):Option Int:=Acp K a0 a1_0 K (a0.length:Int) 0
def Bwm:=fd Tryz.func295 ⟨[.v 75,.f 294 [] [183]],[.v 3],true⟩ (gC (Bzb K) gN)
def B3j:Fw:=⟨[(0,.v 75),(1,.f 294 [] [183]),(7,.v 2),(8,.v 2)],[]⟩
def Bpw:=lp (Bwm K) 26 B3j [] (fun n a b=>Acp K a b n) (fun n=>kN)
def Bzc:=ct (Bwm K) (Arn K) (kC (Bpw K K) kN)
def Ah0 (a0:List Bn)(a1_0:Bn):Option Bool:=(Arn K a0 a1_0).bind fun r1=>some (decide (r1>=0))
def Bzd:=ct (fd Tryz.func215 ⟨[.v 75,.f 294 [] [183]],[.v 4],true⟩ (gC (Bzc K) gN)) (Ah0 K)
def Atg (a0:List Bn):Nat->(List Bn)->Int->Int->Option Bool
 |0,_,_,_=>none
 |n1+1,v1,v2,v3=>bif decide (v3<v2)then if 0<=v3/\v3<v1.length then if(0:Int)<=0/\0<=v3/\v3<=a0.length then(Ah0 K ((a0.drop (0:Int).toNat).take (v3 - 0).toNat) (gt v1 v3)).bind fun r4=>bif r4 then some false else Atg a0 n1 v1 v2 (A1 v3 1)else none else none else some true
def A14 (a0:List Bn):Option Bool:=Atg K a0 K a0 (a0.length:Int) 0
def Bwn:=fd Tryz.func214 ⟨[.v 75],[.v 4],true⟩ (gC (Bzd K) gN) [] [] [(4,[.frzB 104 183])]
def B3k:Fw:=⟨[(0,.v 75),(5,.v 75),(6,.v 2),(7,.v 2)],[]⟩
def Bpx:=lp (Bwn K) 26 B3k [] (fun n a=>Atg K a n) (fun n=>kN)
def Bze:=ct (Bwn K) (A14 K) (kC (Bpx K K) kN)
def Avi (a0 a1:Bn):Option Bool:=(A3c K a0 a1).bind fun r1=>some (!r1)
def Bzf:=ct (fd Tryz.func216 ⟨[.v 183,.r 183],[.v 4],true⟩ (gC (Bpv K) gN)) (Avi K)
def W2 (a0:List Bn)(a1_0:Bn):Nat->Int->Int->Option Int
 |0,_,_=>none
 |n1+1,v1,v2=>bif decide (v2<v1)then if 0<=v2/\v2<a0.length then(Avi K (gt a0 v2) a1_0).bind fun r3=>bif r3 then some v2 else W2 a0 a1_0 n1 v1 (A1 v2 1)else none else some (-1)
def Aoy (a0:List Bn)(a1_0:Bn):Option Int:=W2 K a0 a1_0 K (a0.length:Int) 0
def Bwo:=fd Tryz.func295 ⟨[.v 75,.f 216 [] [183]],[.v 3],true⟩ (gC (Bzf K) gN)
def B3l:Fw:=⟨[(0,.v 75),(1,.f 216 [] [183]),(7,.v 2),(8,.v 2)],[]⟩
def Bpy:=lp (Bwo K) 26 B3l [] (fun n a b=>W2 K a b n) (fun n=>kN)
def Bzg:=ct (Bwo K) (Aoy K) (kC (Bpy K K) kN)
def Af6 (a0:List Bn)(a1_0:Bn):Option Bool:=(Aoy K a0 a1_0).bind fun r1=>some (decide (r1>=0))
def Bzh:=ct (fd Tryz.func215 ⟨[.v 75,.f 216 [] [183]],[.v 4],true⟩ (gC (Bzg K) gN)) (Af6 K)
def Avj (K:Nat)(v1:List Az)(v2 v3:Int)(v4 v5:Int)(v6 v7:Int)(v8 v9:Int)(v10 v11 v12:List Int)(v13:List Az)(v14:List Bb)(v15:List Int)(C1:(List Az)->Int->Int->Int->Int->Int->Int->Int->Int->(List Int)->(List Int)->(List Int)->(List Az)->(List Bb)->(List Int)->Option Bool):Option Bool:=C1 v1 v2 (A1 v3 1) v4 v5 v6 v7 v8 v9 v10 v11 v12 v13 v14 v15
def Aio:Nat->(List Az)->Int->Int->Int->Int->Int->Int->Int->Int->(List Int)->(List Int)->(List Int)->(List Az)->(List Bb)->(List Int)->Option Bool
 |0,_,_,_,_,_,_,_,_,_,_,_,_,_,_,_=>none
 |n1+1,v1,v2,v3,v4,v5,v6,v7,v8,v9,v10,v11,v12,v13,v14,v15=>bif decide (v3<v2)then if 0<=v3/\v3<v1.length then(Acs K (gt v1 v3).Ad).bind fun r16=>(Fk K r16).bind fun r17=>if r17.length=r16.length then(A34 K (Fi.mk v4 v5 v6 v7 v8 v9) (gt v1 v3)).bind fun r18=>bif r18 then(Az0 K (Ef.mk v10 v11 v12) v3).bind fun r19=>(Ars K r17 r19).bind fun r20=>bif r20 then(A13 K (Fi.mk v4 v5 v6 v7 v8 v9) (gt v1 v3)).bind fun r21=>bif r21 then(A14 K (gt v1 v3).D5).bind fun r22=>bif !r22 then some false else bif (gt v1 v3).No==0 then Avj K v1 v2 v3 v4 v5 v6 v7 v8 v9 v10 v11 v12 v13 v14 v15 (Aio n1)else if 0<=(Bn.mk (A1 (P2 (Ap (gt v1 v3).No 1) v5) (gt v1 v3).G8) (Ap v5 (gt v1 v3).G8) 0).fAt/\(Bn.mk (A1 (P2 (Ap (gt v1 v3).No 1) v5) (gt v1 v3).G8) (Ap v5 (gt v1 v3).G8) 0).fAt<=(A1 (Bn.mk (A1 (P2 (Ap (gt v1 v3).No 1) v5) (gt v1 v3).G8) (Ap v5 (gt v1 v3).G8) 0).fAt (Bn.mk (A1 (P2 (Ap (gt v1 v3).No 1) v5) (gt v1 v3).G8) (Ap v5 (gt v1 v3).G8) 0).Yg)/\(A1 (Bn.mk (A1 (P2 (Ap (gt v1 v3).No 1) v5) (gt v1 v3).G8) (Ap v5 (gt v1 v3).G8) 0).fAt (Bn.mk (A1 (P2 (Ap (gt v1 v3).No 1) v5) (gt v1 v3).G8) (Ap v5 (gt v1 v3).G8) 0).Yg)<=v10.length then(Aw3 K ((v10.drop (Bn.mk (A1 (P2 (Ap (gt v1 v3).No 1) v5) (gt v1 v3).G8) (Ap v5 (gt v1 v3).G8) 0).fAt.toNat).take ((A1 (Bn.mk (A1 (P2 (Ap (gt v1 v3).No 1) v5) (gt v1 v3).G8) (Ap v5 (gt v1 v3).G8) 0).fAt (Bn.mk (A1 (P2 (Ap (gt v1 v3).No 1) v5) (gt v1 v3).G8) (Ap v5 (gt v1 v3).G8) 0).Yg) - (Bn.mk (A1 (P2 (Ap (gt v1 v3).No 1) v5) (gt v1 v3).G8) (Ap v5 (gt v1 v3).G8) 0).fAt).toNat)).bind fun r23=>bif r23 then(Af6 K (gt v1 v3).D5 (Bn.mk (A1 (P2 (Ap (gt v1 v3).No 1) v5) (gt v1 v3).G8) (Ap v5 (gt v1 v3).G8) 0)).bind fun r24=>bif r24 then some false else Avj K v1 v2 v3 v4 v5 v6 v7 v8 v9 v10 v11 v12 v13 v14 v15 (Aio n1)else some false else none else some false else some false else some false else none else none else some true
def Aww (a0:Bo):Option Bool:=Aio K K a0.fL (a0.fL.length:Int) 0 a0.fC.Ad a0.fC.Du a0.fC.Cd a0.fC.Ez a0.fC.Ce a0.fC.Dv a0.fP.Fp a0.fP.G4 a0.fP.Fq a0.fL a0.fQ a0.Jp
def Bpz:=fd Tryz.func123 ⟨[.v 38],[.v 4],true⟩ (gC (Ber K) (gC (Bps K) (gC (Bpg K) (gC (Bac K) (gC (Yx K) (gC (By6 K) (gC (Bza K) (gC (Bze K) (gC (Bzh K) gN))))))))) [23,24,25,31,32,33,34,38,39,40,41,78,79,80] [211] [(10,[.frzB 106 183])]
def Bka:Fw:=⟨[(1,.p 101),(8,.v 35),(9,.v 2),(10,.v 2)],[(101,.box bx6)]⟩
def Blv:=fun(C26:CT Bka _)=>jn (Bpz K) 211 Bka [(26,ar Bka C26)] (fun a b c d e f g h i j k l m o p=>Avj K a b c d e f g h i j k l m o p C26) kN
def Bp0:=lp (Bpz K) 26 Bka [] (Aio K) (fun n=>kC (Blv K _) kN)
def Bzi:=ct (Bpz K) (Aww K) (kC (Bp0 K K) kN)
def Ap6 (a0:List Az)(a1:Int):Option Bool:=(K0 K a1 0 (Ap a0.length 1)).bind fun r1=>some r1
def A83:=ct (fd Tryz.func118 ⟨[.v 35,.v 3],[.v 4],true⟩ (gC (A5j K) gN)) (Ap6 K)
def Ay7 (a0:List Az)(a1:Int):Option Bool:=bif a1==0 then some true else(Ap6 K a0 (Ap a1 1)).bind fun r1=>bif r1 then if 0<=(Ap a1 1)/\(Ap a1 1)<a0.length then some (((gt a0 (Ap a1 1)).G4)==1)else none else some false
def Bzj:=ct (fd Tryz.func296 ⟨[.v 35,.v 3],[.v 4],true⟩ (gC (A83 K) gN) [6,7,11,12]) (Ay7 K)
def Avy (a0:List Az)(a1:Int):Option Bool:=if 0<=a1/\a1<a0.length then(Ap6 K a0 (Ap (gt a0 a1).fUp 1)).bind fun r1=>bif r1 then if 0<=(Ap (gt a0 a1).fUp 1)/\(Ap (gt a0 a1).fUp 1)<a0.length then bif (gt a0 (Ap (gt a0 a1).fUp 1)).G4==1 then if 0<=(Ap (gt a0 a1).fUp 1)/\(Ap (gt a0 a1).fUp 1)<a0.length then if 0<=a1/\a1<a0.length then some (((gt a0 (Ap (gt a0 a1).fUp 1)).Nb)==(gt a0 a1).G5)else none else none else some false else none else some false else none
def Big:=ct (fd Tryz.func219 ⟨[.v 35,.v 3],[.v 4],true⟩ (gC (A83 K) gN) [14,15,21,22,23]) (Avy K)
def Ax4 (a0:List Az)(a1 v8 v12:Int):Option Bool:=bif v12 != 0 then some true else(Avy K a0 a1).bind fun r18=>bif r18 then if 0<=(Ap v8 1)/\(Ap v8 1)<a0.length then some (((gt a0 (Ap v8 1)).Bz)==(A1 a1 1))else none else some true
def Ax5 (a0:List Az)(a1 v8 v12:Int):Option Bool:=bif v12 != 0 then if 0<=(Ap v12 1)/\(Ap v12 1)<a0.length then bif (gt a0 (Ap v12 1)).G6 != (A1 a1 1)then some false else Ax4 K a0 a1 v8 v12 else none else Ax4 K a0 a1 v8 v12
def Ax6 (a0:List Az)(a1 v8:Int)(v9 v11 v12:Int):Option Bool:=bif v11 != 0 then if 0<=(Ap v11 1)/\(Ap v11 1)<a0.length then bif (gt a0 (Ap v11 1)).G7 != (A1 a1 1)then some false else bif (gt a0 (Ap v11 1)).fUp != v8 then some false else bif (gt a0 (Ap v11 1)).G5 != v9 then some false else Ax5 K a0 a1 v8 v12 else none else Ax5 K a0 a1 v8 v12
def Ax7 (a0:List Az)(a1 v5:Int)(v6 v7:Int)(v8 v9:Int)(v10 v11 v12:Int)(v13:List Int)(v14 v15:Int)(v16:List Bn)(v17:List Int):Option Bool:=bif v10 != 0 then if 0<=(Ap v10 1)/\(Ap v10 1)<a0.length then bif (gt a0 (Ap v10 1)).G7 != 0 then some false else bif (gt a0 (Ap v10 1)).fUp != (A1 a1 1)then some false else bif (gt a0 (Ap v10 1)).G5 != v7 then some false else Ax6 K a0 a1 v8 v9 v11 v12 else none else Ax6 K a0 a1 v8 v9 v11 v12
def A3d (a0:List Az)(a1:Int):Option Bool:=if 0<=a1/\a1<a0.length then(Ay7 K a0 (gt a0 a1).Bz).bind fun r1=>bif r1 then(Ay7 K a0 (gt a0 a1).G6).bind fun r2=>bif r2 then(Ay7 K a0 (gt a0 a1).G7).bind fun r3=>bif r3 then bif (gt a0 a1).fUp != 0 then(Ap6 K a0 (Ap (gt a0 a1).fUp 1)).bind fun r4=>bif !r4 then some false else Ax7 K a0 a1 (gt a0 a1).G4 (gt a0 a1).C7 (gt a0 a1).Nb (gt a0 a1).fUp (gt a0 a1).G5 (gt a0 a1).Bz (gt a0 a1).G6 (gt a0 a1).G7 (gt a0 a1).Ad (gt a0 a1).No (gt a0 a1).G8 (gt a0 a1).D5 (gt a0 a1).Dh else Ax7 K a0 a1 (gt a0 a1).G4 (gt a0 a1).C7 (gt a0 a1).Nb (gt a0 a1).fUp (gt a0 a1).G5 (gt a0 a1).Bz (gt a0 a1).G6 (gt a0 a1).G7 (gt a0 a1).Ad (gt a0 a1).No (gt a0 a1).G8 (gt a0 a1).D5 (gt a0 a1).Dh else some false else some false else some false else none
def Bgd:=fd Tryz.func218 ⟨[.v 35,.v 3],[.v 4],true⟩ (gC (A83 K) (gC (Big K) (gC (Bzj K) gN))) [15,16,17,21,22,23,24,28,29,30,31,34,35,55,56,61,62,63,83,84,89,90,91,100,101,115,116,119,120,121,122] [7,15,31,63]
def Bp1:=jn (Bgd K) 63 Bf8 [] (fun a b _ _ _ f _ _ _ j _ _ _ _ _=>Ax4 K a b f j) kN
def Bp2:=jn (Bgd K) 31 Bf8 [] (fun a b _ _ _ f _ _ _ j _ _ _ _ _=>Ax5 K a b f j) (kC (Bp1 K) kN)
def Bp3:=jn (Bgd K) 15 Bf8 [] (fun a b _ _ _ f g _ i j _ _ _ _ _=>Ax6 K a b f g i j) (kC (Bp2 K) kN)
def Bue:=jn (Bgd K) 7 Bf8 [] (Ax7 K) (kC (Bp3 K) kN)
def Bzk:=ct (Bgd K) (A3d K) (kC (Bue K) kN)
def A1f (a0:List Az):Nat->Int->(List Int)->Option (List Int)
 |0,_,_=>none
 |n1+1,v1,v2=>(Ap6 K a0 v1).bind fun r3=>bif r3 then bif decide ((v2.length:Int)<a0.length)then if(v2++([v1]:List Int)).length*8<=140737488355328/\(v2++([v1]:List Int)).length<=maxLen then if 0<=v1/\v1<a0.length then A1f a0 n1 (Ap (gt a0 v1).fUp 1) (v2++([v1]:List Int))else none else none else some v2 else some v2
def A39 (a0:List Az)(a1:Int):Option (List Int):=A1f K a0 K a1 ([]:List Int)
def Bwp:=fd Tryz.func202 ⟨[.v 35,.v 3],[.n 25 true],true⟩ (gC (A83 K) gN) [9,10]
def Bp4:=lp (Bwp K) 28 h_4 [] (fun n a=>A1f K a n) (fun n=>kN)
def Bp5:=ct (Bwp K) (A39 K) (kC (Bp4 K K) kN)
def A15 (K:Nat)(v1:List Az)(v2 v3:Int)(C1:(List Az)->Int->Int->Option Bool):Option Bool:=C1 v1 v2 (A1 v3 1)
def At5 (a0:List Az):Nat->(List Az)->Int->Int->Option Bool
 |0,_,_,_=>none
 |n1+1,v1,v2,v3=>bif decide (v3<v2)then if 0<=v3/\v3<v1.length then bif (gt v1 v3).G4 != 1 then A15 K v1 v2 v3 (At5 a0 n1)else(A3d K a0 v3).bind fun r4=>bif !r4 then some false else(A39 K a0 v3).bind fun r5=>bif decide ((r5.length:Int)>4)then some false else if 0<=(Ap r5.length 1)/\(Ap r5.length 1)<r5.length then(Avy K a0 (gt r5 (Ap r5.length 1))).bind fun r6=>bif r6 then some false else A15 K v1 v2 v3 (At5 a0 n1)else none else none else some true
def A35 (a0:List Az):Option Bool:=At5 K a0 K a0 (a0.length:Int) 0
def Bp6:=fd Tryz.func124 ⟨[.v 35],[.v 4],true⟩ (gC (Bp5 K) (gC (Bzk K) (gC (Big K) gN))) [25,26] [211]
def Bkb:Fw:=⟨[(0,.v 35),(6,.v 35),(7,.v 2),(8,.v 2)],[]⟩
def Blw:=fun(C26:CT Bkb _)=>jn (Bp6 K) 211 Bkb [(26,ar Bkb C26)] (fun a b c d=>A15 K b c d (C26 a)) kN
def Bp7:=lp (Bp6 K) 26 Bkb [] (fun n a=>At5 K a n) (fun n=>kC (Blw K _) kN)
def Bzl:=ct (Bp6 K) (A35 K) (kC (Bp7 K K) kN)
def Awn (a0:List Az)(a1:Int):Option Bool:=if 0<=a1/\a1<a0.length then bif (gt a0 a1).G4==1 then if 0<=a1/\a1<a0.length then bif (gt a0 a1).fUp != 0 then(Avy K a0 a1).bind fun r1=>some (!r1)else some false else none else some false else none
def Bzm:=ct (fd Tryz.func221 ⟨[.v 35,.v 3],[.v 4],true⟩ (gC (Big K) gN) [10,11,17,18,19]) (Awn K)
def A3e (a0:Fi)(a1:Bb):Option Bool:=(Ay6 K a0).bind fun r1=>bif r1 then(K0 K a1.Be 0 a0.Cd).bind fun r2=>bif r2 then(K0 K a1.Bz 0 a0.Cd).bind fun r3=>bif r3 then bif decide ((a1.Dh.length:Int)<=6)then(Awm K a1.Dh).bind fun r4=>bif r4 then(Ayy K a0 a1.Ad).bind fun r5=>bif r5 then(K0 K a1.H2 0 (Ap a0.Du 1)).bind fun r6=>bif r6 then bif decide ((a1.Ad.length:Int)>0)then some true else some (a1.H2==0)else some false else some false else some false else some false else some false else some false else some false
def Bzn:=ct (fd Tryz.func220 ⟨[.v 33,.v 79],[.v 4],true⟩ (gC (Beq K) (gC (Bif K) (gC (A5j K) (gC (Bpk K) gN)))) [6,7,12,13,14,19,20,21,25,26,27,30,31,32,36,37,38,44,45,46,50,51]) (A3e K)
def Ayz (a0:List Az):Nat->(List Int)->Int->Option (List Int)
 |0,_,_=>none
 |n1+1,v1,v2=>(Ap6 K a0 v2).bind fun r3=>bif r3 then bif decide ((v1.length:Int)<a0.length)then if(v1++([v2]:List Int)).length*8<=140737488355328/\(v1++([v2]:List Int)).length<=maxLen then if 0<=v2/\v2<a0.length then Ayz a0 n1 (v1++([v2]:List Int)) (Ap (gt a0 v2).G6 1)else none else none else some v1 else some v1
def A36 (a0:List Az)(a1:Int):Option (List Int):=Ayz K a0 K ([]:List Int) (Ap a1 1)
def Bwq:=fd Tryz.func174 ⟨[.v 35,.v 3],[.n 25 true],true⟩ (gC (A83 K) gN) [12,13]
def B3m:Fw:=⟨[(0,.v 35),(5,.o 1005 3 true),(6,.v 2)],[]⟩
def Bp8:=lp (Bwq K) 58 B3m [] (fun n a=>Ayz K a n) (fun n=>kN)
def Bzo:=ct (Bwq K) (A36 K) (kC (Bp8 K K) kN)
def Akw (v4:List Bb)(v5 v6:Int)(v7 v8:Int)(v9 v10:Int)(v11 v12:Int)(v13 v14 v15:List Int)(v16:List Az)(v17:List Bb)(v18 v27 v31:List Int)(r32:(List Int))(C1:(List Int)->(List Int)->(List Int)->(List Bb)->Int->Int->Int->Int->Int->Int->Int->Int->(List Int)->(List Int)->(List Int)->(List Az)->(List Bb)->(List Int)->Option Bool):Nat->(List Int)->Int->Int->Option Bool
 |0,_,_,_=>none
 |n6+1,v33,v34,v35=>bif decide (v35<v34)then if 0<=v35/\v35<r32.length then if 0<=(gt r32 v35)/\(gt r32 v35)<v33.length then if 0<=(gt r32 v35)/\(gt r32 v35)<v33.length then(Awn K v16 (gt r32 v35)).bind fun r36=>bif !r36 then some false else Akw v4 v5 v6 v7 v8 v9 v10 v11 v12 v13 v14 v15 v16 v17 v18 v27 v31 r32 C1 n6 (v33.set (gt r32 v35).toNat (A1 (gt v33 (gt r32 v35)) 1)) v34 (A1 v35 1)else none else none else none else C1 v27 v31 v33 v4 v5 (A1 v6 1) v7 v8 v9 v10 v11 v12 v13 v14 v15 v16 v17 v18
def Ath (v3:List Int)(v4:List Bb)(v5 v6:Int)(v7 v8:Int)(v9 v10:Int)(v11 v12:Int)(v13 v14 v15:List Int)(v16:List Az)(v17:List Bb)(v18:List Int)(v23:Int)(v27 v31:List Int)(C1:(List Int)->(List Int)->(List Int)->(List Bb)->Int->Int->Int->Int->Int->Int->Int->Int->(List Int)->(List Int)->(List Int)->(List Az)->(List Bb)->(List Int)->Option Bool):Option Bool:=(A36 K v16 v23).bind fun r32=>Akw K v4 v5 v6 v7 v8 v9 v10 v11 v12 v13 v14 v15 v16 v17 v18 v27 v31 r32 (C1) K v3 (r32.length:Int) 0
def Atm (v3:List Int)(v4:List Bb)(v5 v6:Int)(v7 v8:Int)(v9 v10:Int)(v11 v12:Int)(v13 v14 v15:List Int)(v16:List Az)(v17:List Bb)(v18:List Int)(v23:Int)(v27:List Int)(C1:(List Int)->(List Int)->(List Int)->(List Bb)->Int->Int->Int->Int->Int->Int->Int->Int->(List Int)->(List Int)->(List Int)->(List Az)->(List Bb)->(List Int)->Option Bool)(v31:List Int):Option Bool:=bif decide (v23>0)then if 0<=(Ap v23 1)/\(Ap v23 1)<v16.length then bif (gt v16 (Ap v23 1)).G7 != 0 then some false else Ath K v3 v4 v5 v6 v7 v8 v9 v10 v11 v12 v13 v14 v15 v16 v17 v18 v23 v27 v31 (C1)else none else Ath K v3 v4 v5 v6 v7 v8 v9 v10 v11 v12 v13 v14 v15 v16 v17 v18 v23 v27 v31 (C1)
def Ak3 (v2 v3:List Int)(v4:List Bb)(v5 v6:Int)(v7 v8:Int)(v9 v10:Int)(v11 v12:Int)(v13 v14 v15:List Int)(v16:List Az)(v17:List Bb)(v18:List Int)(v22 v23:Int)(v25:List Int)(C1:(List Int)->(List Int)->(List Int)->(List Bb)->Int->Int->Int->Int->Int->Int->Int->Int->(List Int)->(List Int)->(List Int)->(List Az)->(List Bb)->(List Int)->Option Bool):Nat->(List Int)->Int->Int->(List Int)->Option Bool
 |0,_,_,_,_=>none
 |n3+1,v27,v28,v29,v30=>bif decide (v29<v28)then if 0<=v29/\v29<v25.length then if 0<=(gt v25 v29)/\(gt v25 v29)<v27.length then if 0<=(gt v25 v29)/\(gt v25 v29)<v27.length then if 0<=(gt v25 v29)/\(gt v25 v29)<v14.length then bif (gt v14 (gt v25 v29)) != 2 then some false else Ak3 v2 v3 v4 v5 v6 v7 v8 v9 v10 v11 v12 v13 v14 v15 v16 v17 v18 v22 v23 v25 C1 n3 (v27.set (gt v25 v29).toNat (A1 (gt v27 (gt v25 v29)) 1)) v28 (A1 v29 1) v30 else none else none else none else none else bif decide (v22>0)then if 0<=(Ap v22 1)/\(Ap v22 1)<v2.length then if 0<=(Ap v22 1)/\(Ap v22 1)<v2.length then if 0<=(Ap v22 1)/\(Ap v22 1)<v16.length then bif (gt v16 (Ap v22 1)).G4 != 2 then some false else Atm K v3 v4 v5 v6 v7 v8 v9 v10 v11 v12 v13 v14 v15 v16 v17 v18 v23 v27 (C1) (v2.set (Ap v22 1).toNat (A1 (gt v2 (Ap v22 1)) 1))else none else none else none else Atm K v3 v4 v5 v6 v7 v8 v9 v10 v11 v12 v13 v14 v15 v16 v17 v18 v23 v27 (C1) v2
def Aty (v1 v2 v3:List Int)(v4:List Bb)(v5 v6:Int)(v7 v8:Int)(v9 v10:Int)(v11 v12:Int)(v13 v14 v15:List Int)(v16:List Az)(v17:List Bb)(v18:List Int)(C1:(List Int)->(List Int)->(List Int)->(List Bb)->Int->Int->Int->Int->Int->Int->Int->Int->(List Int)->(List Int)->(List Int)->(List Az)->(List Bb)->(List Int)->Option Bool)(v22 v23:Int)(v24 v25:List Int)(v26:Int):Option Bool:=Ak3 K v2 v3 v4 v5 v6 v7 v8 v9 v10 v11 v12 v13 v14 v15 v16 v17 v18 v22 v23 v25 (C1) K v1 (v25.length:Int) 0 v25
def Avk (K:Nat)(v37 v38:Int)(v39:List Int)(C7:Int->Int->(List Int)->Option Bool):Option Bool:=C7 v37 (A1 v38 1) v39
def Aml (K:Nat)(v40 v41:Int)(v42:List Az)(C9:Int->Int->(List Az)->Option Bool):Option Bool:=C9 v40 (A1 v41 1) v42
def Aa1 (v2 v3:List Int)(v16:List Az):Nat->Int->Int->(List Az)->Option Bool
 |0,_,_,_=>none
 |n9+1,v40,v41,v42=>bif decide (v41<v40)then if 0<=v41/\v41<v16.length then bif (gt v16 v41).G4==2 then if 0<=v41/\v41<v2.length then bif (gt v2 v41) != 1 then some false else(Awn K v42 v41).bind fun r43=>bif r43 then if 0<=v41/\v41<v3.length then bif (gt v3 v41) != 1 then some false else Aml K v40 v41 v42 (Aa1 v2 v3 v16 n9)else none else Aml K v40 v41 v42 (Aa1 v2 v3 v16 n9)else none else(Awn K v42 v41).bind fun r44=>bif r44 then if 0<=v41/\v41<v3.length then bif (gt v3 v41) != 1 then some false else Aml K v40 v41 v42 (Aa1 v2 v3 v16 n9)else none else Aml K v40 v41 v42 (Aa1 v2 v3 v16 n9)else none else some true
def Ahs (v1 v2:List Int)(v3 v14:List Int)(v16:List Az):Nat->Int->Int->(List Int)->Option Bool
 |0,_,_,_=>none
 |n7+1,v37,v38,v39=>bif decide (v38<v37)then if 0<=v38/\v38<v14.length then bif (gt v14 v38)==2 then if 0<=v38/\v38<v1.length then bif (gt v1 v38) != 1 then some false else Avk K v37 v38 v39 (Ahs v1 v2 v3 v14 v16 n7)else none else Avk K v37 v38 v39 (Ahs v1 v2 v3 v14 v16 n7)else none else Aa1 K v2 v3 v16 K (v16.length:Int) 0 v16
def Gy:Nat->(List Int)->(List Int)->(List Int)->(List Bb)->Int->Int->Int->Int->Int->Int->Int->Int->(List Int)->(List Int)->(List Int)->(List Az)->(List Bb)->(List Int)->Option Bool
 |0,_,_,_,_,_,_,_,_,_,_,_,_,_,_,_,_,_,_=>none
 |n1+1,v1,v2,v3,v4,v5,v6,v7,v8,v9,v10,v11,v12,v13,v14,v15,v16,v17,v18=>bif decide (v6<v5)then if 0<=v6/\v6<v4.length then(A3e K (Fi.mk v7 v8 v9 v10 v11 v12) (gt v4 v6)).bind fun r19=>bif r19 then bif decide (((gt v4 v6).Ad.length:Int)>0)then if(0:Int)<=0/\0<(((gt v4 v6).Ad).length:Int)then(Au0 K (Ef.mk v13 v14 v15) (Fi.mk v7 v8 v9 v10 v11 v12) (gt (gt v4 v6).Ad 0)).bind fun r20=>if(0:Int)<=0/\0<=(gt v4 v6).H2/\(gt v4 v6).H2<=r20.length then(Aw3 K ((r20.drop (0:Int).toNat).take (((gt v4 v6).H2) - 0).toNat)).bind fun r21=>bif !r21 then some false else Aty K v1 v2 v3 v4 v5 v6 v7 v8 v9 v10 v11 v12 v13 v14 v15 v16 v17 v18 (Gy n1) (gt v4 v6).Be (gt v4 v6).Bz (gt v4 v6).Dh (gt v4 v6).Ad (gt v4 v6).H2 else none else none else Aty K v1 v2 v3 v4 v5 v6 v7 v8 v9 v10 v11 v12 v13 v14 v15 v16 v17 v18 (Gy n1) (gt v4 v6).Be (gt v4 v6).Bz (gt v4 v6).Dh (gt v4 v6).Ad (gt v4 v6).H2 else some false else none else Ahs K v1 v2 v3 v14 v16 K (v14.length:Int) 0 v14
def Awx (a0:Bo):Option Bool:=if 0<=a0.fC.Ad/\a0.fC.Ad<=a0.fC.Ad/\(8:Int)*a0.fC.Ad<=281474976710656/\a0.fC.Ad<=9223372036854775807 then if 0<=a0.fC.Cd/\a0.fC.Cd<=a0.fC.Cd/\(8:Int)*a0.fC.Cd<=281474976710656/\a0.fC.Cd<=9223372036854775807 then if 0<=a0.fC.Cd/\a0.fC.Cd<=a0.fC.Cd/\(8:Int)*a0.fC.Cd<=281474976710656/\a0.fC.Cd<=9223372036854775807 then Gy K K (List.replicate a0.fC.Ad.toNat (0:Int)) (List.replicate a0.fC.Cd.toNat (0:Int)) (List.replicate a0.fC.Cd.toNat (0:Int)) a0.fQ (a0.fQ.length:Int) 0 a0.fC.Ad a0.fC.Du a0.fC.Cd a0.fC.Ez a0.fC.Ce a0.fC.Dv a0.fP.Fp a0.fP.G4 a0.fP.Fq a0.fL a0.fQ a0.Jp else none else none else none
def A7s:=fd Tryz.func125 ⟨[.v 38],[.v 4],true⟩ (gC (Ber K) (gC (Bzo K) (gC (Bid K) (gC (Bzn K) (gC (Bzm K) gN))))) [38,39,40,44,45,105,106,150,151,169,170,175,176,177,181,182] [979,2003,3737,14951,29903]
def B3n:Fw:=⟨[(1,.p 101),(3,.o 1003 3 true),(4,.o 1004 3 true),(5,.o 1005 3 true),(29,.v 36),(30,.v 2),(31,.v 2),(121,.v 25),(122,.v 2),(123,.v 2)],[(101,.box bx6)]⟩
def Bp9:Fw:=⟨[(1,.p 101),(3,.o 1003 3 true),(4,.o 1004 3 true),(5,.o 1005 3 true),(7,.p 107),(29,.v 36),(30,.v 2),(31,.v 2)],[(107,.box bx7),(101,.box bx6)]⟩
def B3o:Fw:=⟨[(1,.p 101),(3,.o 1003 3 true),(4,.o 1004 3 true),(5,.o 1005 3 true),(7,.p 107),(29,.v 36),(30,.v 2),(31,.v 2),(63,.v 25),(64,.v 2),(65,.v 2)],[(107,.box bx7),(101,.box bx6)]⟩
def Bkc:Fw:=⟨[(1,.p 101),(3,.o 1003 3 true),(4,.o 1004 3 true),(5,.o 1005 3 true),(142,.v 25),(143,.v 2),(144,.v 2)],[(101,.box bx6)]⟩
def Bkd:Fw:=⟨[(1,.p 101),(4,.o 1004 3 true),(5,.o 1005 3 true),(160,.v 35),(161,.v 2),(162,.v 2)],[(101,.box bx6)]⟩
def A7t:Fw:=⟨[(1,.p 101),(3,.o 1003 3 true),(4,.o 1004 3 true),(5,.o 1005 3 true),(29,.v 36),(30,.v 2),(31,.v 2)],[(101,.box bx6)]⟩
def Bet:=fun(C58:CT A7t _)=>lp (A7s K) 239230 B3n [(58,ar A7t C58)] (fun n a b c d e f g h i j k l m o p q r s t u v=>Akw K d e f j k l m o p q r s t u v a b g C58 n c h i) (fun n=>kN)
def Bge:=fun(C58:CT A7t _)=>jn (A7s K) 29903 Bp9 [(58,ar A7t C58)] (fun a b c d e f _ h _ _ _ l m o p q r s t u v w x=>Ath K c d e f l m o p q r s t u v w x h a b C58) (kC (Bet K _ K) kN)
def Bgf:=fun(C58:CT A7t _)=>jn (A7s K) 14951 Bp9 [(58,ar A7t C58)] (fun a b c d e f _ h _ _ _ l m o p q r s t u v w x=>Atm K c d e f l m o p q r s t u v w x h a C58 b) (kC (Bge K _) kN)
def Bgg:=fun(C58:CT A7t _)=>lp (A7s K) 59802 B3o [(58,ar A7t C58)] (fun n a b c d e f g h i j k _ m _ p q r s t u v w x y z a1=>Ak3 K b c d e f p q r s t u v w x y z a1 j k g C58 n a h i m) (fun n=>kC (up (Bgf K _)) kN)
def Bih:=fun(C58:CT A7t _)=>jn (A7s K) 3737 Bp9 [(58,ar A7t C58)] (fun a b c d e f g h i j k l m o p q r s t u v w x=>Aty K a b c d e f l m o p q r s t u v w x C58 g h i j k) (kC (Bgg K _ K) kN)
def Blx:=fun(C122:CT Bkc _)=>jn (A7s K) 979 Bkc [(122,ar Bkc C122)] (fun a b c d e f g h i j k l m o p q r s=>Avk K e f o (fun v37 v38 v39=>C122 a b c d v37 v38 g h i j k l m v39 p q r s)) kN
def Bii:=fun(C250:CT Bkd _)=>jn (A7s K) 2003 Bkd [(250,ar Bkd C250)] (fun a b c d e f g h i j k l m o p q r=>Aml K d e p (fun v40 v41 v42=>C250 a b c v40 v41 f g h i j k l m o v42 q r)) kN
def Bly:=lp (A7s K) 250 Bkd [] (fun n a b c d e _ _ _ _ _ _ _ _ _ p _ _=>Aa1 K a b c n d e p) (fun n=>kC (Bii K _) kN)
def Blz:=lp (A7s K) 122 Bkc [] (fun n a b c d e f _ _ _ _ _ _ _ o _ q _ _=>Ahs K a b c d q n e f o) (fun n=>kC (Blx K _) (kC (up (Bly K K)) kN))
def Bqa:=lp (A7s K) 58 A7t [] (Gy K) (fun n=>kC (Bih K _) (kC (up (Blz K K)) kN))
def Bzp:=ct (A7s K) (Awx K) (kC (Bqa K K) kN)
def Az1 (a0:Bo):Option Bool:=(A1e K a0.fC a0.fP).bind fun r1=>bif r1 then bif (a0.fL.length:Int)==a0.fC.Cd then(Aww K a0).bind fun r2=>bif r2 then(A35 K a0.fL).bind fun r3=>bif r3 then(Awx K a0).bind fun r4=>bif r4 then(Awm K a0.Jp).bind fun r5=>some r5 else some false else some false else some false else some false else some false
def Bqb:=ct (fd Tryz.func32 ⟨[.v 38],[.v 4],true⟩ (gC (Bpe K) (gC (Bzi K) (gC (Bzl K) (gC (Bzp K) (gC (Bif K) gN))))) [7,8,15,16,17,19,20,21,24,25,26,28,29,30]) (Az1 K)
def A37 (K:Nat):Option Bool:=some true
def Bzq:=ct (fd Tryz.func167 ⟨[],[.v 4],true⟩ gN) (A37 K)
def A6h (K:Nat)(a0:Bb):Option Int:=bif decide ((a0.Dh.length:Int)>0)then some 1 else bif decide ((a0.Ad.length:Int)>0)then some 2 else bif a0.Bz != 0 then some 3 else some 4
def Bzr:=ct (fd Tryz.func264 ⟨[.v 79],[.v 3],true⟩ gN) (A6h K)
def Azh (K:Nat)(v7:Bool)(v9:Ef):Option (Ef×Bool):=some (v9,v7)
def Awy (a0:Fi)(a2 a3:Int)(r1:Ef)(v7:Bool)(v8:Ef):Option (Ef×Bool):=if 0<=(P2 a2 a0.Du)/\(P2 a2 a0.Du)<(P2 (A1 a2 1) a0.Du)/\(P2 (A1 a2 1) a0.Du)<=r1.Fp.length then if 0<=a3/\a3<=(Ada (A1 a3 a0.Ce) a0.Du)/\(Ada (A1 a3 a0.Ce) a0.Du)<=(P2 (A1 a2 1) a0.Du) - (P2 a2 a0.Du)then if 0<(((P2 a2 a0.Du)+(Ada (A1 a3 a0.Ce) a0.Du)) - ((P2 a2 a0.Du)+a3)).toNat then bif v7 then if 0<=a2/\a2<r1.G4.length then Azh K v7 (Ef.mk (r1.Fp.take ((P2 a2 a0.Du)+a3).toNat++List.replicate (((P2 a2 a0.Du)+(Ada (A1 a3 a0.Ce) a0.Du)) - ((P2 a2 a0.Du)+a3)).toNat 0++r1.Fp.drop (((P2 a2 a0.Du)+a3).toNat+(((P2 a2 a0.Du)+(Ada (A1 a3 a0.Ce) a0.Du)) - ((P2 a2 a0.Du)+a3)).toNat)) (r1.G4.set a2.toNat 0) r1.Fq)else none else Azh K v7 (Ef.mk (r1.Fp.take ((P2 a2 a0.Du)+a3).toNat++List.replicate (((P2 a2 a0.Du)+(Ada (A1 a3 a0.Ce) a0.Du)) - ((P2 a2 a0.Du)+a3)).toNat 0++r1.Fp.drop (((P2 a2 a0.Du)+a3).toNat+(((P2 a2 a0.Du)+(Ada (A1 a3 a0.Ce) a0.Du)) - ((P2 a2 a0.Du)+a3)).toNat)) r1.G4 r1.Fq)else none else none else none
def A16 (a0:Fi)(a1:Ef)(a2 a3:Int):Option (Ef×Bool):=(Awl K a1).bind fun r1=>(A1e K a0 a1).bind fun r2=>bif r2 then(K0 K a2 0 (Ap a0.Ad 1)).bind fun r3=>bif r3 then if 0<=a2/\a2<a1.G4.length then bif (gt a1.G4 a2) != 2 then some (r1,false)else(K0 K a3 0 (Ap a0.Du 1)).bind fun r4=>bif !r4 then some (r1,false)else bif decide ((A1 a3 a0.Ce)>=a0.Du)then(Au0 K a1 a0 a2).bind fun r5=>if(0:Int)<=0/\0<=a3/\a3<=r5.length then(Aw3 K ((r5.drop (0:Int).toNat).take (a3 - 0).toNat)).bind fun r6=>bif !r6 then some (r1,false)else Awy K a0 a2 a3 r1 (decide ((A1 a3 a0.Ce)>=a0.Du)) (Ef.mk [] [] [])else none else Awy K a0 a2 a3 r1 (decide ((A1 a3 a0.Ce)>=a0.Du)) (Ef.mk [] [] [])else none else some (r1,false)else some (r1,false)
def Bqc:=fk Tryz.func265 ⟨[.v 33,.v 34,.v 3,.v 3],[.n 34 true,.v 4],true⟩ (gC (Ber K) (gC (Bpe K) (gC (A5j K) (gC (Bid K) (gC (Bic K) gN))))) oN (Aqm (d:=65) (q:=Aqr tyU tab 209) (Ar8 Avb Asc) (Aqm (d:=74) (q:=Aqs tyU tab) (Ar7) Ar3)) [16,17,18,23,24,25,26,32,33,34,50,51] [31,127] [(7,[.take 110 0 6760,.take 110 1 6761,.take 110 2 6762]),(10,[.take 110 0 6760,.take 110 1 6761,.take 110 2 6762])]
def B3p:Fw:=⟨[(8,.p 108),(10,.p 110),(11,.v 4)],[(110,.st 34 true),(108,.st 34 true)]⟩
def B3q:Fw:=⟨[(2,.v 2),(3,.v 2),(4,.p 104),(8,.p 108),(10,.p 110),(11,.v 4)],[(110,.st 34 true),(108,.st 34 true),(104,.st 33 true)]⟩
def Bl0:=jn (Bqc K) 127 B3p [] (fun a b _=>Azh K a b) kN
def Bqd:=jn (Bqc K) 31 B3q [] (fun a b c d e f=>Awy K f a b d c e) (kC (Bl0 K) kN)
def Bzs:=ct (Bqc K) (A16 K) (kC (Bqd K) kN)
def Az2 (K:Nat)(v3 v4:Ef):Option Ef:=some v3
def A47 (a0:Ef)(a1:Int):Option Ef:=(Awl K a0).bind fun r1=>(K0 K a1 0 (Ap (Ada (a0.G4.length:Int) (a0.Fq.length:Int)) 1)).bind fun r2=>bif r2 then if 0<=a1/\a1<a0.G4.length then bif (gt a0.G4 a1)==1 then if 0<=a1/\a1<r1.G4.length then if 0<=a1/\a1<r1.Fq.length then Az2 K (Ef.mk r1.Fp (r1.G4.set a1.toNat 2) (r1.Fq.set a1.toNat (-1))) (Ef.mk [] [] [])else none else none else Az2 K r1 (Ef.mk [] [] [])else none else Az2 K r1 (Ef.mk [] [] [])
def Bwr:=fd Tryz.func285 ⟨[.v 34,.v 3],[.n 34 true],true⟩ (gC (A5j K) (gC (Bic K) gN)) [17,18] [7] [(4,[.take 105 0 6680,.take 105 1 6681,.take 105 2 6682])]
def Buf:=jn (Bwr K) 7 B1y [] (Az2 K) kN
def Bzt:=ct (Bwr K) (A47 K) (kC (Buf K) kN)
def Aoz:Nat->(List Int)->Int->Int->Int->Int->Int->Int->Int->Int->(List Int)->(List Int)->(List Int)->(List Az)->(List Bb)->(List Int)->Option Bo
 |0,_,_,_,_,_,_,_,_,_,_,_,_,_,_,_=>none
 |n1+1,v1,v2,v3,v4,v5,v6,v7,v8,v9,v10,v11,v12,v13,v14,v15=>bif decide (v3<v2)then if 0<=v3/\v3<v1.length then(A47 K (Ef.mk v10 v11 v12) (gt v1 v3)).bind fun r16=>Aoz n1 v1 v2 (A1 v3 1) v4 v5 v6 v7 v8 v9 r16.Fp r16.G4 r16.Fq v13 v14 v15 else none else some (Bo.mk (Fi.mk v4 v5 v6 v7 v8 v9) (Ef.mk v10 v11 v12) v13 v14 v15)
def Ayi (a0:Bo)(a1:Int):Option Bo:=if 0<=a1/\a1<a0.fL.length then Aoz K K (gt a0.fL a1).Ad (((gt a0.fL a1).Ad).length:Int) 0 a0.fC.Ad a0.fC.Du a0.fC.Cd a0.fC.Ez a0.fC.Ce a0.fC.Dv a0.fP.Fp a0.fP.G4 a0.fP.Fq a0.fL a0.fQ a0.Jp else none
def Bws:=fd Tryz.func204 ⟨[.b 10038 false,.v 3],[],false⟩ (gC (Bzt K) gN) [] [] [(0,[.take 1 9 5025]),(3,[.take 1 6 5022,.take 1 7 5023,.take 1 8 5024])]
def B3r:Fw:=⟨[(0,.p 1),(13,.v 25),(14,.v 2),(15,.v 2)],[(1,.box bx0)]⟩
def Bug:=lp (Bws K) 6 B3r [] (Aoz K) (fun n=>kN)
def Bzu:=ct (Bws K) (Ayi K) (kC (Bug K K) kN)
def A7u (K:Nat)(a0:Az):Option Az:=some (Az.mk 2 a0.C7 0 0 0 0 0 0 [] 0 0 [] [])
def Bzv:=ct (fd Tryz.func206 ⟨[.v 77],[.n 77 false],true⟩ gN) (A7u K)
def A3f (a0:Az)(a1:Int):Option Bb:=(Acs K a0.Dh).bind fun r1=>(Acs K a0.Ad).bind fun r2=>some (Bb.mk a1 a0.Bz r1 r2 0)
def Bzw:=ct (fd Tryz.func203 ⟨[.v 77,.v 3],[.n 79 true],true⟩ (gC (Bac K) gN)) (A3f K)
def Az3 (K:Nat)(v3:List Az):Option (List Az):=some v3
def A48 (a0:List Az)(a1 a2:Int):Option (List Az):=(Ax1 K a0).bind fun r1=>(Ap6 K a0 a1).bind fun r2=>bif !r2 then Az3 K r1 else if 0<=a1/\a1<a0.length then bif decide (((gt a0 a1).C7)>=a2)then if 0<=a1/\a1<r1.length then if 0<=a1/\a1<a0.length then if 0<=a1/\a1<r1.length then Az3 K (r1.set a1.toNat (Az.mk 3 (gt a0 a1).C7 0 0 0 0 0 0 [] 0 0 [] []))else none else none else none else if 0<=a1/\a1<r1.length then if 0<=a1/\a1<a0.length then if 0<=a1/\a1<r1.length then Az3 K (r1.set a1.toNat (Az.mk 0 (A1 (gt a0 a1).C7 1) 0 0 0 0 0 0 [] 0 0 [] []))else none else none else none else none
def Bwt:=fd Tryz.func268 ⟨[.v 35,.v 3,.v 3],[.n 35 true],false⟩ (gC (A83 K) (gC (Bo8 K) gN)) [] [7] [(2,[.opn 1007 (.tmp 1)]),(5,[.opn 1007 (.tmp 1)])]
def Buh:=jn (Bwt K) 7 Bxi [] (Az3 K) kN
def Bzx:=ct (Bwt K) (A48 K) (kC (Buh K) kN)
def Avf (v6 v7:Int)(v8 v9:Int)(v10 v11 v12:Int)(v13 v14 v15:List Int)(v16:List Az)(v17:List Bb)(v18:List Int)(v19 v20:Int)(v21 v22:Int)(v23 v24:Int)(v25 v26:Int)(v27:List Int)(v28 v29:Int)(v30:List Bn)(v31:List Int):Option Bo:=(A7u K (Az.mk v19 v20 v21 v22 v23 v24 v25 v26 v27 v28 v29 v30 v31)).bind fun r32=>if 0<=v6/\v6<v16.length then(A3f K (Az.mk v19 v20 v21 v22 v23 v24 v25 v26 v27 v28 v29 v30 v31) (A1 v6 1)).bind fun r33=>if(v17.length+1)*72<=140737488355328/\v17.length+1<=maxLen then some (Bo.mk (Fi.mk v7 v8 v9 v10 v11 v12) (Ef.mk v13 v14 v15) (v16.set v6.toNat r32) (((default:Bb)::v17).set (0:Int).toNat r33) v18)else none else none
def Azi (a0:Bo):Option Bo:=if(0:Int)<=0/\0<(a0.fQ.length:Int)then(A6h K (gt a0.fQ 0)).bind fun r1=>bif r1==1 then if 0<=(Ap (((gt a0.fQ 0).Dh).length:Int) 1)/\(Ap (((gt a0.fQ 0).Dh).length:Int) 1)<(((gt a0.fQ 0).Dh).length:Int)then if(a0.Jp++([(gt (gt a0.fQ 0).Dh (Ap (((gt a0.fQ 0).Dh).length:Int) 1))]:List Int)).length*8<=140737488355328/\(a0.Jp++([(gt (gt a0.fQ 0).Dh (Ap (((gt a0.fQ 0).Dh).length:Int) 1))]:List Int)).length<=maxLen then if(0:Int)<=0/\0<=(Ap (((gt a0.fQ 0).Dh).length:Int) 1)/\(Ap (((gt a0.fQ 0).Dh).length:Int) 1)<=(((gt a0.fQ 0).Dh).length:Int)then some (Bo.mk a0.fC a0.fP a0.fL (a0.fQ.set (0:Int).toNat (Bb.mk (gt a0.fQ 0).Be (gt a0.fQ 0).Bz (((gt a0.fQ 0).Dh).take (Ap (((gt a0.fQ 0).Dh).length:Int) 1).toNat) (gt a0.fQ 0).Ad (gt a0.fQ 0).H2)) (a0.Jp++([(gt (gt a0.fQ 0).Dh (Ap (((gt a0.fQ 0).Dh).length:Int) 1))]:List Int)))else none else none else none else bif r1==2 then if(0:Int)<=0/\0<(((gt a0.fQ 0).Ad).length:Int)then(A16 K a0.fC a0.fP (gt (gt a0.fQ 0).Ad 0) (gt a0.fQ 0).H2).bind fun r2=>bif r2.2 then if 0<(gt a0.fQ 0).Ad.length then some (Bo.mk a0.fC r2.1 a0.fL (a0.fQ.set (0:Int).toNat (Bb.mk (gt a0.fQ 0).Be (gt a0.fQ 0).Bz (gt a0.fQ 0).Dh (((gt a0.fQ 0).Ad).drop 1) 0)) a0.Jp)else none else some (Bo.mk a0.fC r2.1 a0.fL (a0.fQ.set (0:Int).toNat (Bb.mk (gt a0.fQ 0).Be (gt a0.fQ 0).Bz (gt a0.fQ 0).Dh (gt a0.fQ 0).Ad (A1 (gt a0.fQ 0).H2 a0.fC.Ce))) a0.Jp)else none else bif r1==3 then if 0<=(Ap (gt a0.fQ 0).Bz 1)/\(Ap (gt a0.fQ 0).Bz 1)<a0.fL.length then(Ayi K (Bo.mk a0.fC a0.fP a0.fL (a0.fQ.set (0:Int).toNat (Bb.mk (gt a0.fQ 0).Be (gt a0.fL (Ap (gt a0.fQ 0).Bz 1)).G6 (gt a0.fQ 0).Dh (gt a0.fQ 0).Ad (gt a0.fQ 0).H2)) a0.Jp) (Ap (gt a0.fQ 0).Bz 1)).bind fun r3=>(Ap6 K r3.fL (Ap (gt a0.fL (Ap (gt a0.fQ 0).Bz 1)).G6 1)).bind fun r4=>bif r4 then if 0<=(Ap (gt a0.fL (Ap (gt a0.fQ 0).Bz 1)).G6 1)/\(Ap (gt a0.fL (Ap (gt a0.fQ 0).Bz 1)).G6 1)<r3.fL.length then Au7 (r3.fL.set (Ap (gt a0.fL (Ap (gt a0.fQ 0).Bz 1)).G6 1).toNat (Az.mk (gt r3.fL (Ap (gt a0.fL (Ap (gt a0.fQ 0).Bz 1)).G6 1)).G4 (gt r3.fL (Ap (gt a0.fL (Ap (gt a0.fQ 0).Bz 1)).G6 1)).C7 (gt r3.fL (Ap (gt a0.fL (Ap (gt a0.fQ 0).Bz 1)).G6 1)).Nb (gt r3.fL (Ap (gt a0.fL (Ap (gt a0.fQ 0).Bz 1)).G6 1)).fUp (gt r3.fL (Ap (gt a0.fL (Ap (gt a0.fQ 0).Bz 1)).G6 1)).G5 (gt r3.fL (Ap (gt a0.fL (Ap (gt a0.fQ 0).Bz 1)).G6 1)).Bz (gt r3.fL (Ap (gt a0.fL (Ap (gt a0.fQ 0).Bz 1)).G6 1)).G6 0 (gt r3.fL (Ap (gt a0.fL (Ap (gt a0.fQ 0).Bz 1)).G6 1)).Ad (gt r3.fL (Ap (gt a0.fL (Ap (gt a0.fQ 0).Bz 1)).G6 1)).No (gt r3.fL (Ap (gt a0.fL (Ap (gt a0.fQ 0).Bz 1)).G6 1)).G8 (gt r3.fL (Ap (gt a0.fL (Ap (gt a0.fQ 0).Bz 1)).G6 1)).D5 (gt r3.fL (Ap (gt a0.fL (Ap (gt a0.fQ 0).Bz 1)).G6 1)).Dh)) fun v5=>Avf K (Ap (gt a0.fQ 0).Bz 1) r3.fC.Ad r3.fC.Du r3.fC.Cd r3.fC.Ez r3.fC.Ce r3.fC.Dv r3.fP.Fp r3.fP.G4 r3.fP.Fq v5 r3.fQ r3.Jp (gt a0.fL (Ap (gt a0.fQ 0).Bz 1)).G4 (gt a0.fL (Ap (gt a0.fQ 0).Bz 1)).C7 (gt a0.fL (Ap (gt a0.fQ 0).Bz 1)).Nb (gt a0.fL (Ap (gt a0.fQ 0).Bz 1)).fUp (gt a0.fL (Ap (gt a0.fQ 0).Bz 1)).G5 (gt a0.fL (Ap (gt a0.fQ 0).Bz 1)).Bz (gt a0.fL (Ap (gt a0.fQ 0).Bz 1)).G6 (gt a0.fL (Ap (gt a0.fQ 0).Bz 1)).G7 (gt a0.fL (Ap (gt a0.fQ 0).Bz 1)).Ad (gt a0.fL (Ap (gt a0.fQ 0).Bz 1)).No (gt a0.fL (Ap (gt a0.fQ 0).Bz 1)).G8 (gt a0.fL (Ap (gt a0.fQ 0).Bz 1)).D5 (gt a0.fL (Ap (gt a0.fQ 0).Bz 1)).Dh else none else Avf K (Ap (gt a0.fQ 0).Bz 1) r3.fC.Ad r3.fC.Du r3.fC.Cd r3.fC.Ez r3.fC.Ce r3.fC.Dv r3.fP.Fp r3.fP.G4 r3.fP.Fq r3.fL r3.fQ r3.Jp (gt a0.fL (Ap (gt a0.fQ 0).Bz 1)).G4 (gt a0.fL (Ap (gt a0.fQ 0).Bz 1)).C7 (gt a0.fL (Ap (gt a0.fQ 0).Bz 1)).Nb (gt a0.fL (Ap (gt a0.fQ 0).Bz 1)).fUp (gt a0.fL (Ap (gt a0.fQ 0).Bz 1)).G5 (gt a0.fL (Ap (gt a0.fQ 0).Bz 1)).Bz (gt a0.fL (Ap (gt a0.fQ 0).Bz 1)).G6 (gt a0.fL (Ap (gt a0.fQ 0).Bz 1)).G7 (gt a0.fL (Ap (gt a0.fQ 0).Bz 1)).Ad (gt a0.fL (Ap (gt a0.fQ 0).Bz 1)).No (gt a0.fL (Ap (gt a0.fQ 0).Bz 1)).G8 (gt a0.fL (Ap (gt a0.fQ 0).Bz 1)).D5 (gt a0.fL (Ap (gt a0.fQ 0).Bz 1)).Dh else none else bif decide (((gt a0.fQ 0).Be)>0)then(A48 K a0.fL (Ap (gt a0.fQ 0).Be 1) a0.fC.Dv).bind fun r34=>if 0<(a0.fQ.set (0:Int).toNat (gt a0.fQ 0)).length then some (Bo.mk a0.fC a0.fP r34 ((a0.fQ.set (0:Int).toNat (gt a0.fQ 0)).drop 1) a0.Jp)else none else if 0<a0.fQ.length then some (Bo.mk a0.fC a0.fP a0.fL (a0.fQ.drop 1) a0.Jp)else none else none
def Bwu:=fk Tryz.func171 ⟨[.b 10038 false],[],false⟩ (gC (A83 K) (gC (Bzw K) (gC (Bzu K) (gC (Bzv K) (gC (Bzr K) (gC (Bzs K) (gC (Bzx K) gN))))))) oN (Aqm (d:=45) (q:=Aqo tyU tab 269 5) (Ar4 Avb Asa) (Aqm (d:=128) (q:=Aqo tyU tab 266 1) (Ar4 Avb Ar9) (Aqm (d:=189) (q:=Aqt tyU tab) (Ar6 Avb) (Aqm (d:=190) (q:=Aqp tyU tab 267 5 72) (Ar5 Avb Asb) Ar3)))) [] [15343] [(0,[.take 1 10 5026]),(1,[.opp 5026 2,.takeE 5026 2 41666,.takeE 5026 3 41667]),(3,[.take 1 9 5025,.frz 5025]),(4,[.put 5026]),(7,[.take 1 11 5027]),(10,[.take 1 6 5022,.take 1 7 5023,.take 1 8 5024]),(17,[.take 1 9 5025]),(19,[.put 1]),(20,[.take 1 9 5025]),(22,[.take 1 9 5025]),(23,[.take 1 10 5026])] [(78,[.cut 78])]
def B3s:Fw:=⟨[(0,.p 1),(6,.v 2),(7,.p 107)],[(1,.box bx0),(107,.box bx4)]⟩
def Bgh:=jn (Bwu K) 15343 B3s [] (Avf K) kN
def Bzy:=ct (Bwu K) (Azi K) (kC (Bgh K) kN)
def Wx (a1:Int):Nat->Int->Int->Int->Int->Int->Int->Int->(List Int)->(List Int)->(List Int)->(List Az)->(List Bb)->(List Int)->Option (Int×Bo)
 |0,_,_,_,_,_,_,_,_,_,_,_,_,_=>none
 |n1+1,v1,v2,v3,v4,v5,v6,v7,v8,v9,v10,v11,v12,v13=>bif decide (v1<a1)then bif decide ((v12.length:Int)>0)then(A37 K).bind fun r14=>bif r14 then(Azi K (Bo.mk (Fi.mk v2 v3 v4 v5 v6 v7) (Ef.mk v8 v9 v10) v11 v12 v13)).bind fun r15=>Wx a1 n1 (A1 v1 1) r15.fC.Ad r15.fC.Du r15.fC.Cd r15.fC.Ez r15.fC.Ce r15.fC.Dv r15.fP.Fp r15.fP.G4 r15.fP.Fq r15.fL r15.fQ r15.Jp else some (v1,(Bo.mk (Fi.mk v2 v3 v4 v5 v6 v7) (Ef.mk v8 v9 v10) v11 v12 v13))else some (v1,(Bo.mk (Fi.mk v2 v3 v4 v5 v6 v7) (Ef.mk v8 v9 v10) v11 v12 v13))else some (v1,(Bo.mk (Fi.mk v2 v3 v4 v5 v6 v7) (Ef.mk v8 v9 v10) v11 v12 v13))
def Akn (a0:Bo)(a1:Int):Option (Int×Bo):=Wx K a1 K 0 a0.fC.Ad a0.fC.Du a0.fC.Cd a0.fC.Ez a0.fC.Ce a0.fC.Dv a0.fP.Fp a0.fP.G4 a0.fP.Fq a0.fL a0.fQ a0.Jp
def Bwv:=fd Tryz.func161 ⟨[.b 10038 false,.v 3,.f 167 [] []],[.v 3],false⟩ (gC (Bzq K) (gC (Bzy K) gN)) [10,11,17,18,19] [] [(2,[.take 1 10 5026]),(3,[.put 1])]
def B3t:Fw:=⟨[(0,.p 1),(1,.v 2),(2,.f 167 [] []),(7,.v 2)],[(1,.box bx0)]⟩
def Bqe:=lp (Bwv K) 28 B3t [] (fun n a=>Wx K a n) (fun n=>kN)
def Bzz:=ct (Bwv K) (Akn K) (kC (Bqe K K) kN)
def Auh (a0:Bo)(a1:Int):Option (Bo×Int):=(A0s K a0).bind fun r1=>(Az1 K a0).bind fun r2=>bif r2 then(K0 K a1 0 4000).bind fun r3=>bif !r3 then some (r1,0)else(Akn K r1 a1).bind fun r4=>some (r4.2,r4.1)else some (r1,0)
def Bz0:=ct (fd Tryz.func57 ⟨[.v 38,.v 3],[.v 38,.v 3],false⟩ (gC (Bqb K) (gC (A5j K) (gC (Byp K) (gC (Bzz K) gN)))) [11,12,13] [] [(4,[.put 106,.take 106 9 6705,.shal 6705,.put 106]),(5,[.take 106 6 6702,.take 106 7 6703,.take 106 8 6704,.take 106 9 6705,.take 106 10 6706,.take 106 11 6707])]) (Auh K)
def Ao4 (a0:Bo):Option Bo:=(Auh K a0 4000).bind fun r1=>some r1.1
def Bz1:=ct (fd Tryz.func27 ⟨[.v 38],[.v 38],false⟩ (gC (Bz0 K) gN)) (Ao4 K)
def A0t (a0:Bo)(a1:Int):Option (Bo×Int):=(Asm K a0).bind fun r1=>(Aur K a0).bind fun r2=>bif r2 then(F2 K a1 0 4000).bind fun r3=>bif !r3 then some (r1,0)else(Av6 K r1 a1).bind fun r4=>some (r4.2,r4.1)else some (r1,0)
def Bz2:=ct (fd Tryz.func58 ⟨[.v 38,.v 3],[.n 38 false,.v 3],false⟩ (gC (Bbw K) (gC (Bdy K) (gC (Bj2 K) (gC (A5x K) gN)))) [11,12,13] [] [(4,[.put 106,.take 106 10 6706,.shal 6706]),(5,[.take 106 6 6702,.take 106 7 6703,.take 106 8 6704,.take 106 9 6705,.take 106 10 6706,.take 106 11 6707])] [(19,[.put 106])]) (A0t K)
def A17 (a0:Bo):Option Bo:=(A0t K a0 4000).bind fun r1=>some r1.1
def Bz3:=ct (fd Tryz.func68 ⟨[.v 38],[.n 38 false],false⟩ (gC (Bz2 K) gN)) (A17 K)
def A38 (K:Nat)(a0 a1:List Int):Nat->Int->Option Bool
 |0,_=>none
 |n1+1,v1=>bif decide (v1<a0.length)then if 0<=v1/\v1<a0.length then if 0<=v1/\v1<a1.length then bif (gt a0 v1) != (gt a1 v1)then some false else A38 K a0 a1 n1 (A1 v1 1)else none else none else some true
def A53 (a0 a1:List Int):Option Bool:=bif (a0.length:Int) != (a1.length:Int)then some false else A38 K a0 a1 K 0
def Bww:=fd Tryz.func232 ⟨[.v 24,.v 24],[.v 4],true⟩ gN
def B3u:Fw:=⟨[(0,.v 24),(1,.v 24),(5,.v 2)],[]⟩
def Bqf:=lp Bww 58 B3u [] (fun n a b=>A38 K a b n) (fun n=>kN)
def Bz4:=ct Bww (A53 K) (kC (Bqf K K) kN)
def Azj (K:Nat)(a0 a1:List Int):Nat->Int->Option Bool
 |0,_=>none
 |n1+1,v1=>bif decide (v1<a0.length)then if 0<=v1/\v1<a0.length then if 0<=v1/\v1<a1.length then bif (gt a0 v1) != (gt a1 v1)then some false else Azj K a0 a1 n1 (A1 v1 1)else none else none else some true
def Akl (a0 a1:List Int):Option Bool:=bif (a0.length:Int) != (a1.length:Int)then some false else Azj K a0 a1 K 0
def Bwx:=fd Tryz.func44 ⟨[.v 25,.v 25],[.v 4],true⟩ gN
def B3v:Fw:=⟨[(0,.v 25),(1,.v 25),(5,.v 2)],[]⟩
def Bqg:=lp Bwx 58 B3v [] (fun n a b=>Azj K a b n) (fun n=>kN)
def Bbx:=ct Bwx (Akl K) (kC (Bqg K K) kN)
def A18 (a0 a1:Ef):Option Bool:=(A53 K a0.Fp a1.Fp).bind fun r1=>bif r1 then(Akl K a0.G4 a1.G4).bind fun r2=>bif r2 then(Akl K a0.Fq a1.Fq).bind fun r3=>some r3 else some false else some false
def Bz5:=ct (fd Tryz.func133 ⟨[.v 34,.v 34],[.v 4],true⟩ (gC (Bbx K) (gC (Bz4 K) gN)) [9,10,15,16,17]) (A18 K)
def Au1 (K:Nat):Nat->Int->Int->Int->Int->Int->Int->Int->Int->Int->(List Int)->Int->Int->(List Bn)->(List Int)->Int->Int->Int->Int->Int->Int->Int->Int->(List Int)->Int->Int->(List Bn)->(List Int)->Option Bool
 |0,_,_,_,_,_,_,_,_,_,_,_,_,_,_,_,_,_,_,_,_,_,_,_,_,_,_,_=>none
 |n1+1,v3,v4,v5,v6,v7,v8,v9,v10,v11,v12,v13,v14,v15,v16,v17,v18,v19,v20,v21,v22,v23,v24,v25,v26,v27,v28,v29=>bif decide (v3<v28.length)then if 0<=v3/\v3<v28.length then if 0<=v3/\v3<v15.length then bif !(((gt v28 v3).fAt==(gt v15 v3).fAt)&&(((gt v28 v3).Yg==(gt v15 v3).Yg)&&(((gt v28 v3).Yh==(gt v15 v3).Yh)&&true)))then some false else Au1 K n1 (A1 v3 1) v4 v5 v6 v7 v8 v9 v10 v11 v12 v13 v14 v15 v16 v17 v18 v19 v20 v21 v22 v23 v24 v25 v26 v27 v28 v29 else none else none else some true
def A19 (a0 a1:Az):Option Bool:=bif a0.G4 != a1.G4 then some false else bif a0.C7 != a1.C7 then some false else bif a0.Nb != a1.Nb then some false else bif a0.fUp != a1.fUp then some false else bif a0.G5 != a1.G5 then some false else bif a0.Bz != a1.Bz then some false else bif a0.G6 != a1.G6 then some false else bif a0.G7 != a1.G7 then some false else(Akl K a0.Ad a1.Ad).bind fun r1=>bif r1 then bif a0.No != a1.No then some false else bif a0.G8 != a1.G8 then some false else bif (a0.D5.length:Int) != (a1.D5.length:Int)then some false else(Akl K a0.Dh a1.Dh).bind fun r2=>bif !r2 then some false else Au1 K K 0 a1.G4 a1.C7 a1.Nb a1.fUp a1.G5 a1.Bz a1.G6 a1.G7 a1.Ad a1.No a1.G8 a1.D5 a1.Dh a0.G4 a0.C7 a0.Nb a0.fUp a0.G5 a0.Bz a0.G6 a0.G7 a0.Ad a0.No a0.G8 a0.D5 a0.Dh else some false
def Bwy:=fd Tryz.func233 ⟨[.v 77,.v 77],[.v 4],true⟩ (gC (Bbx K) gN) [10,11,16,17,18,23,24,25,30,31,32,37,38,39,44,45,46,51,52,53,58,59,60,65,66,67,68,73,74,75,80,81,82,89,90,91]
def B3w:Fw:=⟨[(2,.p 102),(3,.p 103),(5,.v 2)],[(103,.box bx4),(102,.box bx4)]⟩
def Bqh:=lp (Bwy K) 58 B3w [] (Au1 K) (fun n=>kN)
def Bz6:=ct (Bwy K) (A19 K) (kC (Bqh K K) kN)
def Aui (a0 a1:List Az):Nat->Int->Option Bool
 |0,_=>none
 |n1+1,v1=>bif decide (v1<a0.length)then if 0<=v1/\v1<a0.length then if 0<=v1/\v1<a1.length then(A19 K (gt a0 v1) (gt a1 v1)).bind fun r2=>bif !r2 then some false else Aui a0 a1 n1 (A1 v1 1)else none else none else some true
def A0u (a0 a1:List Az):Option Bool:=bif (a0.length:Int) != (a1.length:Int)then some false else Aui K a0 a1 K 0
def Bwz:=fd Tryz.func134 ⟨[.v 35,.v 35],[.v 4],true⟩ (gC (Bz6 K) gN)
def B3x:Fw:=⟨[(0,.v 35),(1,.v 35),(5,.v 2)],[]⟩
def Bqi:=lp (Bwz K) 58 B3x [] (fun n a b=>Aui K a b n) (fun n=>kN)
def Bz7:=ct (Bwz K) (A0u K) (kC (Bqi K K) kN)
def A0v (a0 a1:Bb):Option Bool:=bif a0.Be==a1.Be then bif a0.Bz==a1.Bz then(Akl K a0.Dh a1.Dh).bind fun r1=>bif r1 then(Akl K a0.Ad a1.Ad).bind fun r2=>bif r2 then some (a0.H2==a1.H2)else some false else some false else some false else some false
def Bz8:=ct (fd Tryz.func135 ⟨[.v 79,.v 79],[.v 4],true⟩ (gC (Bbx K) gN) [9,10,15,16,17,22,23,24,29,30,31]) (A0v K)
def Auj:Nat->Int->Int->Int->Int->Int->Int->Int->(List Int)->(List Int)->(List Int)->(List Az)->(List Bb)->(List Int)->Int->Int->Int->Int->Int->Int->(List Int)->(List Int)->(List Int)->(List Az)->(List Bb)->(List Int)->Option Bool
 |0,_,_,_,_,_,_,_,_,_,_,_,_,_,_,_,_,_,_,_,_,_,_,_,_,_=>none
 |n1+1,v4,v5,v6,v7,v8,v9,v10,v11,v12,v13,v14,v15,v16,v17,v18,v19,v20,v21,v22,v23,v24,v25,v26,v27,v28=>bif decide (v4<v27.length)then if 0<=v4/\v4<v27.length then if 0<=v4/\v4<v15.length then(A0v K (gt v27 v4) (gt v15 v4)).bind fun r29=>bif !r29 then some false else Auj n1 (A1 v4 1) v5 v6 v7 v8 v9 v10 v11 v12 v13 v14 v15 v16 v17 v18 v19 v20 v21 v22 v23 v24 v25 v26 v27 v28 else none else none else some true
def Ax8 (a0 a1:Bo):Option Bool:=bif !((a0.fC.Ad==a1.fC.Ad)&&((a0.fC.Du==a1.fC.Du)&&((a0.fC.Cd==a1.fC.Cd)&&((a0.fC.Ez==a1.fC.Ez)&&((a0.fC.Ce==a1.fC.Ce)&&((a0.fC.Dv==a1.fC.Dv)&&true))))))then some false else(A18 K a0.fP a1.fP).bind fun r1=>bif r1 then(A0u K a0.fL a1.fL).bind fun r2=>bif r2 then bif (a0.fQ.length:Int) != (a1.fQ.length:Int)then some false else(Akl K a0.Jp a1.Jp).bind fun r3=>bif !r3 then some false else Auj K K 0 a1.fC.Ad a1.fC.Du a1.fC.Cd a1.fC.Ez a1.fC.Ce a1.fC.Dv a1.fP.Fp a1.fP.G4 a1.fP.Fq a1.fL a1.fQ a1.Jp a0.fC.Ad a0.fC.Du a0.fC.Cd a0.fC.Ez a0.fC.Ce a0.fC.Dv a0.fP.Fp a0.fP.G4 a0.fP.Fq a0.fL a0.fQ a0.Jp else some false else some false
def Bw0:=fd Tryz.func38 ⟨[.v 38,.v 38],[.v 4],true⟩ (gC (Bbx K) (gC (Bz5 K) (gC (Bz7 K) (gC (Bz8 K) gN)))) [10,11,16,17,18,19,24,25,26,27,34,35,36]
def B3y:Fw:=⟨[(2,.p 102),(3,.p 103),(5,.v 2)],[(103,.box bx6),(102,.box bx6)]⟩
def Bqj:=lp (Bw0 K) 58 B3y [] (Auj K) (fun n=>kN)
def Bz9:=ct (Bw0 K) (Ax8 K) (kC (Bqj K K) kN)
def A5k (K:Nat)(a0:Bo):Option Bool:=some ((a0.fQ.length:Int)==0)
def B0a:=ct (fd Tryz.func59 ⟨[.v 38],[.v 4],true⟩ gN) (A5k K)
def A0w (K:Nat)(v2:List Int)(v3 v4:Int)(C1:Int->(List Int)->Int->Int->Option Int)(v5:Int):Option Int:=C1 v5 v2 v3 (A1 v4 1)
def Auk (a1:Int):Nat->Int->(List Int)->Int->Int->Option Int
 |0,_,_,_,_=>none
 |n1+1,v1,v2,v3,v4=>bif decide (v4<v3)then if 0<=v4/\v4<v2.length then bif (gt v2 v4)==a1 then A0w K v2 v3 v4 (Auk a1 n1) (A1 v1 1)else A0w K v2 v3 v4 (Auk a1 n1) v1 else none else some v1
def Az4 (a0:Ef)(a1:Int):Option Int:=Auk K a1 K 0 a0.G4 (a0.G4.length:Int) 0
def Bqk:=fd Tryz.func29 ⟨[.v 34,.v 3],[.v 3],true⟩ gN [] [467]
def Bke:Fw:=⟨[(1,.v 2),(5,.v 2),(9,.v 25),(10,.v 2),(11,.v 2)],[]⟩
def Bl1:=fun(C58:CT Bke _)=>jn Bqk 467 Bke [(58,ar Bke C58)] (fun a b c d e=>A0w K c d e (C58 a) b) kN
def Bql:=lp Bqk 58 Bke [] (fun n a=>Auk K a n) (fun n=>kC (Bl1 K _) kN)
def B0b:=ct Bqk (Az4 K) (kC (Bql K K) kN)
def Axb (K:Nat)(v2 v3:Int)(C1:Int->Int->Int->Option Int)(v4:Int):Option Int:=C1 v4 v2 (A1 v3 1)
def Apf (a0:List Az)(a1:Int):Nat->Int->Int->Int->Option Int
 |0,_,_,_=>none
 |n1+1,v1,v2,v3=>bif decide (v3<v2)then if 0<=v3/\v3<a0.length then bif (gt a0 v3).G4==a1 then Axb K v2 v3 (Apf a0 a1 n1) (A1 v1 1)else Axb K v2 v3 (Apf a0 a1 n1) v1 else none else some v1
def Azk (a0:List Az)(a1:Int):Option Int:=Apf K a0 a1 K 0 (a0.length:Int) 0
def Bqm:=fd Tryz.func31 ⟨[.v 35,.v 3],[.v 3],true⟩ gN [] [467]
def Bkf:Fw:=⟨[(1,.v 2),(5,.v 2),(8,.v 35),(9,.v 2),(10,.v 2)],[]⟩
def Bl2:=fun(C58:CT Bkf _)=>jn Bqm 467 Bkf [(58,ar Bkf C58)] (fun a b c d e=>Axb K d e (fun v1=>C58 a v1 c) b) kN
def Bqn:=lp Bqm 58 Bkf [] (fun n a b c=>Apf K c a n b) (fun n=>kC (Bl2 K _) kN)
def B0c:=ct Bqm (Azk K) (kC (Bqn K K) kN)
def A3g (K:Nat)(v2:List Int)(v3 v4:Int)(C1:(List Int)->Int->Int->Option Bool):Option Bool:=C1 v2 v3 (A1 v4 1)
def Ax9 (a0:List Az)(r1:(List Int)):Nat->(List Int)->Int->Int->Option Bool
 |0,_,_,_=>none
 |n1+1,v2,v3,v4=>bif decide (v4<v3)then if 0<=v4/\v4<v2.length then if 0<=(gt v2 v4)/\(gt v2 v4)<a0.length then bif (gt a0 (gt v2 v4)).G4 != 1 then some false else bif decide ((A1 v4 1)<r1.length)then if 0<=(gt v2 v4)/\(gt v2 v4)<a0.length then if 0<=(A1 v4 1)/\(A1 v4 1)<r1.length then if 0<=(gt r1 (A1 v4 1))/\(gt r1 (A1 v4 1))<a0.length then bif (gt a0 (gt v2 v4)).G5 != (gt a0 (gt r1 (A1 v4 1))).Nb then some false else A3g K v2 v3 v4 (Ax9 a0 r1 n1)else none else none else none else A3g K v2 v3 v4 (Ax9 a0 r1 n1)else none else none else bif decide ((r1.length:Int)>0)then if 0<=(Ap r1.length 1)/\(Ap r1.length 1)<r1.length then if 0<=(gt r1 (Ap r1.length 1))/\(gt r1 (Ap r1.length 1))<a0.length then some (((gt a0 (gt r1 (Ap r1.length 1))).fUp)==0)else none else none else some false
def A49 (a0:List Az)(a1:Int):Option Bool:=(A39 K a0 a1).bind fun r1=>Ax9 K a0 r1 K r1 (r1.length:Int) 0
def Bqo:=fd Tryz.func115 ⟨[.v 35,.v 3],[.v 4],true⟩ (gC (Bp5 K) gN) [28,29,49,50] [467]
def Bkg:Fw:=⟨[(0,.v 35),(5,.v 25),(11,.v 25),(12,.v 2),(13,.v 2)],[]⟩
def Bl3:=fun(C58:CT Bkg _)=>jn (Bqo K) 467 Bkg [(58,ar Bkg C58)] (fun a b c d e=>A3g K c d e (C58 a b)) kN
def Bqp:=lp (Bqo K) 58 Bkg [] (fun n a b=>Ax9 K a b n) (fun n=>kC (Bl3 K _) kN)
def B0d:=ct (Bqo K) (A49 K) (kC (Bqp K K) kN)
def Aya (K:Nat)(v2 v3:Int)(v4 v5:Int)(v6 v7:Int)(v8 v9:Int)(v10 v11 v12:List Int)(v13:List Az)(v14:List Bb)(v15:List Int)(C1:(List Int)->Int->Int->Int->Int->Int->Int->Int->Int->(List Int)->(List Int)->(List Int)->(List Az)->(List Bb)->(List Int)->Option (List Int))(v17:List Int):Option (List Int):=C1 v17 v2 (A1 v3 1) v4 v5 v6 v7 v8 v9 v10 v11 v12 v13 v14 v15
def Avz:Nat->(List Int)->Int->Int->Int->Int->Int->Int->Int->Int->(List Int)->(List Int)->(List Int)->(List Az)->(List Bb)->(List Int)->Option (List Int)
 |0,_,_,_,_,_,_,_,_,_,_,_,_,_,_,_=>none
 |n1+1,v1,v2,v3,v4,v5,v6,v7,v8,v9,v10,v11,v12,v13,v14,v15=>bif decide (v3<v2)then(A49 K v13 v3).bind fun r16=>bif r16 then if(v1++([v3]:List Int)).length*8<=140737488355328/\(v1++([v3]:List Int)).length<=maxLen then Aya K v2 v3 v4 v5 v6 v7 v8 v9 v10 v11 v12 v13 v14 v15 (Avz n1) (v1++([v3]:List Int))else none else Aya K v2 v3 v4 v5 v6 v7 v8 v9 v10 v11 v12 v13 v14 v15 (Avz n1) v1 else some v1
def Az5 (a0:Bo):Option (List Int):=Avz K K ([]:List Int) (a0.fL.length:Int) 0 a0.fC.Ad a0.fC.Du a0.fC.Cd a0.fC.Ez a0.fC.Ce a0.fC.Dv a0.fP.Fp a0.fP.G4 a0.fP.Fq a0.fL a0.fQ a0.Jp
def Bqq:=fd Tryz.func24 ⟨[.v 38],[.n 25 true],true⟩ (gC (B0d K) gN) [] [467]
def Bkh:Fw:=⟨[(1,.p 101),(3,.o 1003 3 true),(8,.v 2),(9,.v 2)],[(101,.box bx6)]⟩
def Bl4:=fun(C58:CT Bkh _)=>jn (Bqq K) 467 Bkh [(58,ar Bkh C58)] (fun a b c d e f g h i j k l m o p=>Aya K b c d e f g h i j k l m o p C58 a) kN
def Bqr:=lp (Bqq K) 58 Bkh [] (Avz K) (fun n=>kC (Bl4 K _) kN)
def Bqs:=ct (Bqq K) (Az5 K) (kC (Bqr K K) kN)
def Au2 (r1:(List Int)):Nat->Int->Int->Int->Int->Int->Int->Int->Int->Int->(List Int)->(List Int)->(List Int)->(List Az)->(List Bb)->(List Int)->Option Int
 |0,_,_,_,_,_,_,_,_,_,_,_,_,_,_,_=>none
 |n1+1,v2,v3,v4,v5,v6,v7,v8,v9,v10,v11,v12,v13,v14,v15,v16=>bif decide (v4<v3)then if 0<=v4/\v4<r1.length then(Az0 K (Ef.mk v11 v12 v13) (gt r1 v4)).bind fun r17=>Au2 r1 n1 (A1 v2 r17.length) v3 (A1 v4 1) v5 v6 v7 v8 v9 v10 v11 v12 v13 v14 v15 v16 else none else some v2
def Awo (a0:Bo):Option Int:=(Az5 K a0).bind fun r1=>Au2 K r1 K 0 (r1.length:Int) 0 a0.fC.Ad a0.fC.Du a0.fC.Cd a0.fC.Ez a0.fC.Ce a0.fC.Dv a0.fP.Fp a0.fP.G4 a0.fP.Fq a0.fL a0.fQ a0.Jp
def Bw1:=fd Tryz.func28 ⟨[.v 38],[.v 3],true⟩ (gC (Bqs K) (gC (Bps K) gN))
def B3z:Fw:=⟨[(1,.p 101),(3,.v 2),(7,.v 25),(8,.v 2),(9,.v 2)],[(101,.box bx6)]⟩
def Bqt:=lp (Bw1 K) 58 B3z [] (fun n a b=>Au2 K b n a) (fun n=>kN)
def B0e:=ct (Bw1 K) (Awo K) (kC (Bqt K K) kN)
def Aut (r12:(List Int)):Nat->Int->Int->Int->Int->Int->Int->Int->(List Int)->(List Int)->(List Int)->(List Az)->(List Bb)->(List Int)->Int->Int->Int->Int->Int->Int->(List Int)->(List Int)->(List Int)->(List Az)->(List Bb)->(List Int)->Option Bool
 |0,_,_,_,_,_,_,_,_,_,_,_,_,_,_,_,_,_,_,_,_,_,_,_,_,_=>none
 |n1+1,v19,v20,v21,v22,v23,v24,v25,v26,v27,v28,v29,v30,v31,v32,v33,v34,v35,v36,v37,v38,v39,v40,v41,v42,v43=>bif decide (v19<r12.length)then if 0<=v19/\v19<r12.length then if 0<=(gt r12 v19)/\(gt r12 v19)<v29.length then if 0<=v19/\v19<r12.length then if 0<=(gt r12 v19)/\(gt r12 v19)<v41.length then(Akl K (gt v29 (gt r12 v19)).Ad (gt v41 (gt r12 v19)).Ad).bind fun r44=>bif r44 then if 0<=v19/\v19<r12.length then if 0<=(gt r12 v19)/\(gt r12 v19)<v29.length then if 0<=v19/\v19<r12.length then if 0<=(gt r12 v19)/\(gt r12 v19)<v41.length then bif (gt v29 (gt r12 v19)).C7 != (gt v41 (gt r12 v19)).C7 then some false else Aut r12 n1 (A1 v19 1) v20 v21 v22 v23 v24 v25 v26 v27 v28 v29 v30 v31 v32 v33 v34 v35 v36 v37 v38 v39 v40 v41 v42 v43 else none else none else none else none else some false else none else none else none else none else(Ao4 K (Bo.mk (Fi.mk v20 v21 v22 v23 v24 v25) (Ef.mk v26 v27 v28) v29 v30 v31)).bind fun r45=>(Ax8 K r45 (Bo.mk (Fi.mk v20 v21 v22 v23 v24 v25) (Ef.mk v26 v27 v28) v29 v30 v31)).bind fun r46=>some r46
def Ayj (a0:List Int):Option Bool:=(A81 K a0).bind fun r1=>bif r1 then some true else(A0p K a0).bind fun r2=>(Aw9 K a0).bind fun r3=>(Ao4 K r2.1).bind fun r4=>(Ao4 K r3).bind fun r5=>(A17 K r3).bind fun r6=>(Ax8 K r5 r6).bind fun r7=>bif r7 then(Az1 K r4).bind fun r8=>bif r8 then(A5k K r4).bind fun r9=>bif r9 then(Az4 K r4.fP 2).bind fun r10=>bif r10 != 0 then some false else(Azk K r4.fL 2).bind fun r11=>bif r11 != 0 then some false else(Az5 K r2.1).bind fun r12=>(Az5 K r4).bind fun r13=>(Akl K r12 r13).bind fun r14=>bif r14 then(Awo K r4).bind fun r15=>(Awo K r2.1).bind fun r16=>bif r15 != r16 then some false else(Az4 K r4.fP 0).bind fun r17=>(Awo K r2.1).bind fun r18=>bif r17 != (Ap r2.1.fC.Ad r18)then some false else Aut K r12 K 0 r4.fC.Ad r4.fC.Du r4.fC.Cd r4.fC.Ez r4.fC.Ce r4.fC.Dv r4.fP.Fp r4.fP.G4 r4.fP.Fq r4.fL r4.fQ r4.Jp r2.1.fC.Ad r2.1.fC.Du r2.1.fC.Cd r2.1.fC.Ez r2.1.fC.Ce r2.1.fC.Dv r2.1.fP.Fp r2.1.fP.G4 r2.1.fP.Fq r2.1.fL r2.1.fQ r2.1.Jp else some false else some false else some false else some false
def Bw2:=fd Tryz.func9 ⟨[.v 24],[.v 4],true⟩ (gC (B4k K) (gC (Bya K) (gC (Bqs K) (gC (Bz1 K) (gC (B0e K) (gC (B0b K) (gC (B0c K) (gC (Bqb K) (gC (Bz9 K) (gC (Bbx K) (gC (B0a K) (gC (Byk K) (gC (Bz3 K) gN))))))))))))) [24,25,26,28,29,30,31,33,34,35,36,40,41,42,53,54,55,60,61,62,98,99,100] [] [(5,[.frz 20416,.frz 20417,.frz 20418,.frz 20419,.frz 20420,.frz 20421])]
def B30:Fw:=⟨[(3,.p 103),(6,.p 106),(7,.v 25),(8,.v 2)],[(106,.box bx6),(103,.box bx6)]⟩
def Bij:=lp (Bw2 K) 4090 B30 [] (fun n a=>Aut K a n) (fun n=>kN)
def B0f:=ct (Bw2 K) (Ayj K) (kC (Bij K K) kN)
end
end Go.Proofs.YtgcnddnmhllahaaGreat
