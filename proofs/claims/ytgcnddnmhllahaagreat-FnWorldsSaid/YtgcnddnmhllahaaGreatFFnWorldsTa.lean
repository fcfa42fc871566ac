/- What the functions compute that FnWorlds reaches, and that they do; no condition. Printed by gen4.py. -/
import Derived.Test.YtgcnddnmhllahaaGreatFSrt
set_option linter.all false
set_option maxRecDepth 20000
namespace Go.Proofs.YtgcnddnmhllahaaGreat
open Go.Eng
noncomputable section
abbrev PT (h:Fs):Type:=Am tyU h.codes
abbrev Rt (s:Sig):Type:=Option (A3 tyU s.codes)
def FnP (R:Type):List TC->Type
 |[]=>R
 |c::l=>c.T tyU->FnP R l
noncomputable def unc{R:Type}:(l:List TC)->FnP R l->Am tyU l->R
 |[],f,_=>f
 |_::l,f,q=>unc l (f q.1) q.2
abbrev CT (h:Fs)(s:Sig):Type:=FnP (Rt s) h.codes
noncomputable abbrev ar{s:Sig}(h:Fs)(M:CT h s):SS Af->Rt s:=arr tyU tab h (unc h.codes M)
abbrev OkF (f:FuncId)(c:Gs tyU):Prop:=Gs.Ok tyU Tryz.prog f c∧Fp Tryz.prog f
theorem B11:Tryz.prog.follows .mixedOrders=true:=by kernel_rfl
structure FD (f:FuncId)(s:Sig) where
 fn:Func
 hf:Tryz.prog.funcs[f]? =some fn
 G:List (Nat×Gs tyU)
 g: ∀f c,lk G f=some c->OkF f c
 O:List (Nat×List (Nat×Gs tyU))
 o: ∀d l,lk O d=some l-> ∀f c,lk l f=some c->OkF f c
 kp:List (Nat×(SS Af->List Oper->Oper->(Ai Af->Rt s)->Rt s))
 kk: ∀d q,lk kp d=some q->KOk tyU tab Tryz.prog q
 spl:List Nat
 js:List Nat
 pre:List (Nat×List Cmd)
 post:List (Nat×List Cmd)
noncomputable abbrev fo{f:FuncId}{fn:Func}(hf:Tryz.prog.funcs[f]? =some fn)(s:Sig){G:List (Nat×Gs tyU)}(g: ∀f c,lk G f=some c->OkF f c){O:List (Nat×List (Nat×Gs tyU))}(o: ∀d l,lk O d=some l-> ∀f c,lk l f=some c->OkF f c)(spl:List Nat:=[])(js:List Nat:=[])(pre:List (Nat×List Cmd):=[])(post:List (Nat×List Cmd):=[]):FD f s:=⟨fn,hf,G,g,O,o,[],Aq1 (U:=tyU) (T:=tab) (P:=Tryz.prog),spl,js,pre,post⟩
noncomputable abbrev fd{f:FuncId}{fn:Func}(hf:Tryz.prog.funcs[f]? =some fn)(s:Sig){G:List (Nat×Gs tyU)}(g: ∀f c,lk G f=some c->OkF f c)(spl:List Nat:=[])(js:List Nat:=[])(pre:List (Nat×List Cmd):=[])(post:List (Nat×List Cmd):=[]):FD f s:=⟨fn,hf,G,g,[],oN,[],Aq1 (U:=tyU) (T:=tab) (P:=Tryz.prog),spl,js,pre,post⟩
noncomputable abbrev fk{f:FuncId}{fn:Func}(hf:Tryz.prog.funcs[f]? =some fn)(s:Sig){G:List (Nat×Gs tyU)}(g: ∀f c,lk G f=some c->OkF f c){O:List (Nat×List (Nat×Gs tyU))}(o: ∀d l,lk O d=some l-> ∀f c,lk l f=some c->OkF f c){kp:List (Nat×(SS Af->List Oper->Oper->(Ai Af->Rt s)->Rt s))}(kk: ∀d q,lk kp d=some q->KOk tyU tab Tryz.prog q)(spl:List Nat:=[])(js:List Nat:=[])(pre:List (Nat×List Cmd):=[])(post:List (Nat×List Cmd):=[]):FD f s:=⟨fn,hf,G,g,O,o,kp,kk,spl,js,pre,post⟩
section
variable {f:FuncId} {s:Sig}
noncomputable abbrev FD.b (X:FD f s):Code:=X.fn.body.getD .skip
noncomputable def FD.x (X:FD f s)(L B:Λt tyU s):Ox tyU (A3 tyU s.codes):=⟨X.G,X.O,eqT eqs,X.fn.ntmps,X.spl,X.pre,X.post,X.js,L,B,Ahv tyU tab s X.fn.results.toList,X.kp⟩
abbrev CuX (X:FD f s):Λt tyU s->Nat->(SS Af->Rt s)->Prop:=Cut tyU tab Tryz.prog X.fn.results.toList s X.fn.ntmps X.js X.b
abbrev CsX (X:FD f s):Λt tyU s->Λt tyU s->Prop:=Xs tyU tab Tryz.prog X.fn.results.toList s X.fn.ntmps X.js X.b
theorem xo (X:FD f s):XOk tyU tab Tryz.prog X.fn.results.toList s X.fn.ntmps X.js X.x:=xok At2 B11 X.g X.o As4 X.kk
theorem lp (X:FD f s)(p:Nat)(h:Fs)(B:Λt tyU s)(M:Nat->CT h s){L:Nat->Λt tyU s}(hc: ∀n,CsX X ((p,ar h (M n))::B) (L n))(e: ∀n q,unc h.codes (M (n+1)) q=Aht tyU tab (X.x (L n) ((p,ar h (M n))::B)) X.b (2*p) (h.emb tyU q):=by intro n q;kernel_rfl)(hp:Nat.ble 1 p=true:=by rfl)(hk:Uy X.js X.b p=true:=by kernel_rfl)(e0: ∀q,unc h.codes (M 0) q=none:=by intro q;rfl)(n:Nat):CuX X B p (ar h (M n)):=Apr (M:=fun n=>unc h.codes (M n)) (xo X) hp hk e0 e hc n
theorem jn (X:FD f s)(p:Nat)(h:Fs)(B:Λt tyU s)(M:CT h s){L:Λt tyU s}(hc:CsX X B L)(e: ∀q,unc h.codes M q=Aht tyU tab (X.x L B) X.b (2*p+1) (h.emb tyU q):=by intro q;kernel_rfl)(hp:Nat.ble 1 p=true:=by rfl):CuX X B p (ar h M):=Apq (xo X) hp e hc
theorem up{X:FD f s}{B:Λt tyU s}{p x:Nat}{F G:SS Af->Rt s}(h:CuX X B p F)(hn:Apt X.js X.b p x=true:=by kernel_rfl):CuX X ((x,G)::B) p F:=Asc hn h
theorem ct (X:FD f s)(m:Yl tyU s.ps (Rt s)){L:Λt tyU s}(hc:CsX X [] L:=by exact kN)(e:Wr tyU tab (X.x L []) X.b s.ps 0 [] [] m:=by(repeat intro _);show @Eq _ _ _;kernel_rfl)(hs:Za tyU s.ps:=by(repeat (refine⟨fun _=>rfl,?_⟩));exact trivial)(h1:(X.fn.name== "runtime.NumGoroutine")=false:=by rfl)(h2:X.fn.body=some X.b:=by rfl)(h5:Nat.ble s.ps.length X.fn.ntmps=true:=by rfl)(h6:Nat.ble (Bq s.ps+1) 100=true:=by rfl)(h7:Nat.ble X.fn.results.toList.length 4=true:=by rfl):OkF f ⟨s,m⟩:=Asb (xo X) As3 e hc X.hf h1 h2 (Array.toArray_toList).symm rfl h5 h6 h7 hs
end
variable (K:Nat)
def A68 (K:Nat)(a0:List Int):Option (Bool):=some (decide ((a0.length:Int)>1048576))
def B13:=ct (fd Tryz.func22 ⟨[.v 24],[.v 4],true⟩ gN) (A68 K)
def Ayg (K:Nat)(a0:List Int):Nat->Int->Int->Option (Ew)
 |0,_,_=>none
 |n1+1,v1,v2=>(bif (decide (v2<(a0.length:Int)))then(bif (decide (v2<4000))then(if(0:Int)≤v2∧v2<(a0.length:Int)then(Ayg K a0 n1 (Arm .i64 (Arj .i64 (Arj .i64 (Arl .i64 v1 137) (IntKind.i64.wrap (gt a0 v2))) 11) 1073741823) (Arj .i64 v2 1))else none)else some (Ew.mk a0 0 v1))else some (Ew.mk a0 0 v1))
def Ay8 (K:Nat)(a0:List Int):Option (Ew):=(Ayg K a0 K (Arj .i64 161416 (a0.length:Int)) 0)
def X_1:=fd Tryz.func111 ⟨[.v 24],[.p 171 false],false⟩ gN [11,12]
def h_0:Fs:=⟨[(0,.v 24),(3,.v 2),(4,.v 2)],[]⟩
def Bu0:=lp X_1 58 h_0 [] (fun n a=>Ayg K a n) (fun n=>kN)
def Bu1:=ct X_1 (Ay8 K) (kC (Bu0 K K) kN)
def Az6 (K:Nat)(v1:Int)(v2:List Int)(v3:Int)(v4:Int):Option (Int×Ew):=some (v1,(Ew.mk v2 v3 v4))
def Aui (K:Nat)(a0:Ew):Option (Int×Ew):=(if(0:Int)≤33 then(if(0:Int)≤47 then(bif (decide (a0.fi<(a0.fb.length:Int)))then(if(0:Int)≤a0.fi∧a0.fi<(a0.fb.length:Int)then(Az6 K (Arm .i64 (Arj .i64 (Arm .i64 (Arn .i64 (Aov .i64 (Arj .i64 (Arl .i64 a0.fh 6364136223846793005) 1442695040888963407) 33) (Aov .i64 (Arj .i64 (Arl .i64 a0.fh 6364136223846793005) 1442695040888963407) 47)) 255) (IntKind.i64.wrap (gt a0.fb a0.fi))) 255) a0.fb (Arj .i64 a0.fi 1) (Arj .i64 (Arl .i64 a0.fh 6364136223846793005) 1442695040888963407))else none)else(Az6 K (Arm .i64 (Arn .i64 (Aov .i64 (Arj .i64 (Arl .i64 a0.fh 6364136223846793005) 1442695040888963407) 33) (Aov .i64 (Arj .i64 (Arl .i64 a0.fh 6364136223846793005) 1442695040888963407) 47)) 255) a0.fb a0.fi (Arj .i64 (Arl .i64 a0.fh 6364136223846793005) 1442695040888963407)))else none)else none)
def X_2:=fd Tryz.func229 ⟨[.b 171 false],[.v 3],false⟩ gN [] [15]
def h_1:Fs:=⟨[(3,.v 2)],[(1,.box [.v 24,.v 2,.v 2])]⟩
def Bu2:=jn X_2 15 h_1 [] (Az6 K) kN
def Byw:=ct X_2 (Aui K) (kC (Bu2 K) kN)
def Ap (K:Nat)(a0:Ew)(a1:Int):Option (Int×Ew):=(bif (decide (a1≤0))then some (0,a0)else(bif (decide (a1≤256))then((Aui K a0).bind fun r1=>(if a1≠(0:Int)then some ((Int.tmod r1.1 a1),r1.2)else none))else((Aui K a0).bind fun r2=>((Aui K r2.2).bind fun r3=>((Aui K r3.2).bind fun r4=>(if a1≠(0:Int)then some ((Int.tmod (Arj .i64 (Arj .i64 (Arl .i64 r2.1 65536) (Arl .i64 r3.1 256)) r4.1) a1),r4.2)else none))))))
def A5x:=ct (fd Tryz.func131 ⟨[.b 171 false,.v 3],[.v 3],false⟩ (gC (Byw K) gN)) (Ap K)
def K0 (K:Nat)(a0:Ew)(a1:List Int):Option (Int×Ew×(List Int)):=((Ap K a0 (a1.length:Int)).bind fun r1=>(if(0:Int)≤r1.1∧r1.1<(a1.length:Int)then some ((gt a1 r1.1),r1.2,a1)else none))
def Bd2:=ct (fd Tryz.func170 ⟨[.b 171 false,.w 25 true [(3,true)]],[.v 3],false⟩ (gC (A5x K) gN)) (K0 K)
def Azr (K:Nat)(a0:Ew):Option (Fc×Ew):=((Ap K a0 11).bind fun r1=>((K0 K r1.2 ([8,8,9,12,16]:List Int)).bind fun r2=>(if r2.2.2.length=([8,8,9,12,16]:List Int).length then((Ap K r2.2.1 7).bind fun r3=>((Ap K r3.2 6).bind fun r4=>((K0 K r4.2 ([1,3,4,8,16]:List Int)).bind fun r5=>(if r5.2.2.length=([1,3,4,8,16]:List Int).length then((Ap K r5.2.1 4).bind fun r6=>some ((Fc.mk (Arj .i64 2 r1.1) r2.1 (Arj .i64 2 r3.1) (Arj .i64 1 r4.1) r5.1 (Arj .i64 1 r6.1)),r6.2))else none))))else none)))
def Byx:=ct (fd Tryz.func224 ⟨[.b 171 false],[.v 33],false⟩ (gC (A5x K) (gC (Bd2 K) gN))) (Azr K)
def Arc (K:Nat)(v4:List Int)(v5:Int)(v6:Int)(v7:Fc)(v8:Fc):Option (Fc×Ew):=some (v7,(Ew.mk v4 v5 v6))
def A1d (K:Nat)(a0:Ew):Option (Fc×Ew):=((Azr K a0).bind fun r1=>((Ap K r1.2 14).bind fun r2=>(bif (r2.1==0)then((K0 K r2.2 ([1,2,12,13]:List Int)).bind fun r3=>(if r3.2.2.length=([1,2,12,13]:List Int).length then(Arc K r3.2.1.fb r3.2.1.fi r3.2.1.fh (Fc.mk r3.1 r1.1.Ds r1.1.B9 r1.1.Eu r1.1.Ca r1.1.Dt) (Fc.mk 0 0 0 0 0 0))else none))else(bif (r2.1==1)then((K0 K r2.2 ([7,8,16,17]:List Int)).bind fun r9=>(if r9.2.2.length=([7,8,16,17]:List Int).length then(Arc K r9.2.1.fb r9.2.1.fi r9.2.1.fh (Fc.mk r1.1.Ad r9.1 r1.1.B9 r1.1.Eu r1.1.Ca r1.1.Dt) (Fc.mk 0 0 0 0 0 0))else none))else(bif (r2.1==2)then((K0 K r2.2 ([1,8,9]:List Int)).bind fun r10=>(if r10.2.2.length=([1,8,9]:List Int).length then(Arc K r10.2.1.fb r10.2.1.fi r10.2.1.fh (Fc.mk r1.1.Ad r1.1.Ds r10.1 r1.1.Eu r1.1.Ca r1.1.Dt) (Fc.mk 0 0 0 0 0 0))else none))else(bif (r2.1==3)then((K0 K r2.2 ([0,8,9]:List Int)).bind fun r11=>(if r11.2.2.length=([0,8,9]:List Int).length then(Arc K r11.2.1.fb r11.2.1.fi r11.2.1.fh (Fc.mk r1.1.Ad r1.1.Ds r1.1.B9 r11.1 r1.1.Ca r1.1.Dt) (Fc.mk 0 0 0 0 0 0))else none))else(bif (r2.1==4)then((K0 K r2.2 ([0,17]:List Int)).bind fun r12=>(if r12.2.2.length=([0,17]:List Int).length then(Arc K r12.2.1.fb r12.2.1.fi r12.2.1.fh (Fc.mk r1.1.Ad r1.1.Ds r1.1.B9 r1.1.Eu r12.1 r1.1.Dt) (Fc.mk 0 0 0 0 0 0))else none))else(bif (r2.1==5)then((K0 K r2.2 ([0,5]:List Int)).bind fun r13=>(if r13.2.2.length=([0,5]:List Int).length then(Arc K r13.2.1.fb r13.2.1.fi r13.2.1.fh (Fc.mk r1.1.Ad r1.1.Ds r1.1.B9 r1.1.Eu r1.1.Ca r13.1) (Fc.mk 0 0 0 0 0 0))else none))else(Arc K r2.2.fb r2.2.fi r2.2.fh r1.1 (Fc.mk 0 0 0 0 0 0))))))))))
def X_6:=fd Tryz.func127 ⟨[.b 171 false],[.v 33],false⟩ (gC (A5x K) (gC (Bd2 K) (gC (Byx K) gN))) [] [7]
def h_2:Fs:=⟨[(2,.p 102),(3,.p 103)],[(1,.box [.v 24,.v 2,.v 2]),(103,.st 33 true),(102,.st 33 true)]⟩
def Byy:=jn (X_6 K) 7 h_2 [] (Arc K) kN
def Byz:=ct (X_6 K) (A1d K) (kC (Byy K) kN)
def Avx (K:Nat)(a0:List Int):Option (Fc):=((Ay8 K a0).bind fun r1=>((A1d K r1).bind fun r2=>some r2.1))
def B14:=ct (fd Tryz.func33 ⟨[.v 24],[.v 33],true⟩ (gC (Bu1 K) (gC (Byz K) gN))) (Avx K)
def V1 (K:Nat)(a0:Int)(a1:Int)(a2:Int):Option (Bool):=(bif (decide (a0≥a1))then some (decide (a0≤a2))else some false)
def Bcj:=ct (fd Tryz.func156 ⟨[.v 3,.v 3,.v 3],[.v 4],true⟩ gN [9,10]) (V1 K)
def Aqk (K:Nat)(a0:Fc):Option (Bool):=((V1 K a0.Ad 2 12).bind fun r1=>(bif r1 then((V1 K a0.Ds 8 16).bind fun r2=>(bif r2 then((V1 K a0.B9 2 8).bind fun r3=>(bif r3 then((V1 K a0.Eu 1 8).bind fun r4=>(bif r4 then((V1 K a0.Ca 1 16).bind fun r5=>(bif r5 then((V1 K a0.Dt 1 4).bind fun r6=>some r6)else some false))else some false))else some false))else some false))else some false))
def Bd3:=ct (fd Tryz.func47 ⟨[.v 33],[.v 4],true⟩ (gC (Bcj K) gN) [5,6,9,10,11,14,15,16,19,20,21,24,25,26]) (Aqk K)
def Ayh (K:Nat)(a0:Fc):Option (Int):=((Aqk K a0).bind fun r1=>(bif (!r1)then some 0 else some (Arl .i64 a0.Ad a0.Ds)))
def Blp:=ct (fd Tryz.func208 ⟨[.v 33],[.v 3],true⟩ (gC (Bd3 K) gN)) (Ayh K)
def A49 (K:Nat)(a0:Int):Option ((List Int)):=((V1 K a0 0 4096).bind fun r1=>(bif (!r1)then some []else(if(0:Int)≤a0∧a0≤a0∧(1:Int)*a0≤281474976710656∧a0≤9223372036854775807 then some (List.replicate a0.toNat (0:Int))else none)))
def By0:=ct (fd Tryz.func225 ⟨[.v 3],[.n 24 true],true⟩ (gC (Bcj K) gN)) (A49 K)
def A7p (K:Nat)(a0:Int)(a1:Int):Option (Int×Int):=(if(0:Int)≤32 then(if(0:Int)≤32 then(if(0:Int)≤32 then(if(0:Int)≤32 then(if(0:Int)≤32 then some ((Arj .u64 (Arj .u64 (Arl .u64 (Aov .u64 a0 32) (Aov .u64 a1 32)) (Aov .u64 (Arj .u64 (Arl .u64 (Aov .u64 a0 32) (Arm .u64 a1 4294967295)) (Aov .u64 (Arl .u64 (Arm .u64 a0 4294967295) (Arm .u64 a1 4294967295)) 32)) 32)) (Aov .u64 (Arj .u64 (Arm .u64 (Arj .u64 (Arl .u64 (Aov .u64 a0 32) (Arm .u64 a1 4294967295)) (Aov .u64 (Arl .u64 (Arm .u64 a0 4294967295) (Arm .u64 a1 4294967295)) 32)) 4294967295) (Arl .u64 (Arm .u64 a0 4294967295) (Aov .u64 a1 32))) 32)),(Arl .u64 a0 a1))else none)else none)else none)else none)else none)
def By1:=ct (fd Tryz.func339 ⟨[.v 225,.v 225],[.v 225,.v 225],true⟩ gN) (A7p K)
def A69 (K:Nat)(a0:Int)(a1:Int):Option (Int×Int):=((A7p K a0 a1).bind fun r1=>some (r1.1,r1.2))
def Bs9:=ct (fd Tryz.func298 ⟨[.v 222,.v 222],[.v 222,.v 222],true⟩ (gC (By1 K) gN)) (A69 K)
def Ax6 (K:Nat):Nat->(List Int)->Int->Option ((List Int))
 |0,_,_=>none
 |n1+1,v2,v3=>(bif (decide (v3<(v2.length:Int)))then(if(0:Int)≤v3∧v3≤(v2.length:Int)∧(v2.length:Int)≤(v2.length:Int)then(if(0:Int)≤0∧0≤v3∧v3≤(v2.length:Int)then(Ax6 K n1 (v2.take v3.toNat++((v2.drop (0:Int).toNat).take (v3 - 0).toNat).take (Nat.min ((v2.drop (0:Int).toNat).take (v3 - 0).toNat).length (((v2.length:Int) - v3).toNat))++v2.drop (v3.toNat+(Nat.min ((v2.drop (0:Int).toNat).take (v3 - 0).toNat).length (((v2.length:Int) - v3).toNat)))) (Arj .i64 v3 ((Nat.min ((v2.drop (0:Int).toNat).take (v3 - 0).toNat).length (((v2.length:Int) - v3).toNat)):Int)))else none)else none)else some v2)
def Azp (K:Nat)(a0:List Int)(a1:Int):Option ((List Int)):=(bif (decide (a1<0))then none else((A69 K (IntKind.u64.wrap (a0.length:Int)) (IntKind.u64.wrap a1)).bind fun r1=>(bif (decide (r1.1>0))then none else(bif (decide (r1.2>9223372036854775807))then none else(if(0:Int)≤(IntKind.i64.wrap r1.2)∧(IntKind.i64.wrap r1.2)≤(IntKind.i64.wrap r1.2)∧(8:Int)*(IntKind.i64.wrap r1.2)≤281474976710656∧(IntKind.i64.wrap r1.2)≤9223372036854775807 then(Ax6 K K ((List.replicate (IntKind.i64.wrap r1.2).toNat (0:Int)).take 0++a0.take (Nat.min a0.length ((List.replicate (IntKind.i64.wrap r1.2).toNat (0:Int)).length))++(List.replicate (IntKind.i64.wrap r1.2).toNat (0:Int)).drop (0+(Nat.min a0.length ((List.replicate (IntKind.i64.wrap r1.2).toNat (0:Int)).length)))) ((Nat.min a0.length ((List.replicate (IntKind.i64.wrap r1.2).toNat (0:Int)).length)):Int))else none)))))
def By2:=fd Tryz.func226 ⟨[.v 25,.v 3],[.n 25 true],true⟩ (gC (Bs9 K) gN) [22,23]
def h_3:Fs:=⟨[(7,.o 1007 3 true),(8,.v 2)],[]⟩
def Blq:=lp (By2 K) 508 h_3 [] (Ax6 K) (fun n=>kN)
def By3:=ct (By2 K) (Azp K) (kC (Blq K K) kN)
def A1e (K:Nat)(a0:Fc):Option (Ed):=((Aqk K a0).bind fun r1=>(bif (!r1)then some (Ed.mk [] [] [])else((Ayh K a0).bind fun r2=>((A49 K r2).bind fun r3=>(if(0:Int)≤a0.Ad∧a0.Ad≤a0.Ad∧(8:Int)*a0.Ad≤281474976710656∧a0.Ad≤9223372036854775807 then((Azp K ([(-1)]:List Int) a0.Ad).bind fun r4=>some (Ed.mk r3 (List.replicate a0.Ad.toNat (0:Int)) r4))else none)))))
def By4:=ct (fd Tryz.func128 ⟨[.v 33],[.n 34 true],true⟩ (gC (Bd3 K) (gC (Blp K) (gC (By0 K) (gC (By3 K) gN))))) (A1e K)
def A9u (K:Nat)(a0:Int):Option (Ax):=some (Ax.mk 0 a0 0 0 0 0 0 0 [] 0 0 [] [])
def B4b:=ct (fd Tryz.func228 ⟨[.v 3],[.n 77 false],true⟩ gN) (A9u K)
def A26 (K:Nat)(a0:Int):Option (Ax):=some (Ax.mk 0 a0 0 0 0 0 0 0 [] 0 0 [] [])
def By5:=ct (fd Tryz.func228 ⟨[.v 3],[.v 77],false⟩ gN) (A26 K)
def Auc (K:Nat):Nat->(List Ax)->Int->Option ((List Ax))
 |0,_,_=>none
 |n1+1,v2,v3=>(bif (decide (v3<(v2.length:Int)))then(if(0:Int)≤v3∧v3≤(v2.length:Int)∧(v2.length:Int)≤(v2.length:Int)then(if(0:Int)≤0∧0≤v3∧v3≤(v2.length:Int)then(Auc K n1 (v2.take v3.toNat++((v2.drop (0:Int).toNat).take (v3 - 0).toNat).take (Nat.min ((v2.drop (0:Int).toNat).take (v3 - 0).toNat).length (((v2.length:Int) - v3).toNat))++v2.drop (v3.toNat+(Nat.min ((v2.drop (0:Int).toNat).take (v3 - 0).toNat).length (((v2.length:Int) - v3).toNat)))) (Arj .i64 v3 ((Nat.min ((v2.drop (0:Int).toNat).take (v3 - 0).toNat).length (((v2.length:Int) - v3).toNat)):Int)))else none)else none)else some v2)
def Au7 (K:Nat)(a0:List Ax)(a1:Int):Option ((List Ax)):=(bif (decide (a1<0))then none else((A69 K (IntKind.u64.wrap (a0.length:Int)) (IntKind.u64.wrap a1)).bind fun r1=>(bif (decide (r1.1>0))then none else(bif (decide (r1.2>9223372036854775807))then none else(if(0:Int)≤(IntKind.i64.wrap r1.2)∧(IntKind.i64.wrap r1.2)≤(IntKind.i64.wrap r1.2)∧(152:Int)*(IntKind.i64.wrap r1.2)≤281474976710656∧(IntKind.i64.wrap r1.2)≤9223372036854775807 then(Auc K K ((List.replicate (IntKind.i64.wrap r1.2).toNat (Ax.mk 0 0 0 0 0 0 0 0 [] 0 0 [] [])).take 0++a0.take (Nat.min a0.length ((List.replicate (IntKind.i64.wrap r1.2).toNat (Ax.mk 0 0 0 0 0 0 0 0 [] 0 0 [] [])).length))++(List.replicate (IntKind.i64.wrap r1.2).toNat (Ax.mk 0 0 0 0 0 0 0 0 [] 0 0 [] [])).drop (0+(Nat.min a0.length ((List.replicate (IntKind.i64.wrap r1.2).toNat (Ax.mk 0 0 0 0 0 0 0 0 [] 0 0 [] [])).length)))) ((Nat.min a0.length ((List.replicate (IntKind.i64.wrap r1.2).toNat (Ax.mk 0 0 0 0 0 0 0 0 [] 0 0 [] [])).length)):Int))else none)))))
def By6:=fk Tryz.func227 ⟨[.v 35,.v 3],[.n 35 false],false⟩ (gC (Bs9 K) gN) oN (Aps (d:=30) (q:=kMk tyU tab) (Ase At2) Aq1) [22,23]
def h_4:Fs:=⟨[(7,.o 1007 77 false),(8,.v 2)],[]⟩
def Blr:=lp (By6 K) 508 h_4 [] (Auc K) (fun n=>kN)
def By7:=ct (By6 K) (Au7 K) (kC (Blr K K) kN)
def Az7 (K:Nat)(a0:Fc):Option ((List Ax)):=((Aqk K a0).bind fun r1=>(bif (!r1)then some []else((A26 K 1).bind fun r2=>((Au7 K ([r2]:List Ax) a0.B9).bind fun r3=>some r3))))
def By8:=ct (fo Tryz.func129 ⟨[.v 33],[.n 35 false],false⟩ (gC (Bd3 K) (gC (By7 K) gN)) (oC (d:=6) (gC (By5 K) gN) oN)) (Az7 K)
def Av3 (K:Nat)(a0:Fc):Option (Bm):=((Aqk K a0).bind fun r1=>(bif (!r1)then some (Bm.mk (Fc.mk 0 0 0 0 0 0) (Ed.mk [] [] []) [] [] [])else((A1e K a0).bind fun r2=>((Az7 K a0).bind fun r3=>some (Bm.mk a0 r2 r3 [] [])))))
def By9:=ct (fd Tryz.func34 ⟨[.v 33],[.v 38],false⟩ (gC (Bd3 K) (gC (By4 K) (gC (By8 K) gN)))) (Av3 K)
def Azs (K:Nat)(a0:List Int)(a1:Int):Option (Int):=(if 12≠(0:Int)then(bif (decide ((Arj .i64 3 (Aow .i64 (a0.length:Int) 12))>a1))then some a1 else some (Arj .i64 3 (Aow .i64 (a0.length:Int) 12)))else none)
def Bza:=ct (fd Tryz.func113 ⟨[.v 24,.v 3],[.v 3],true⟩ gN) (Azs K)
def Bd (K:Nat)(a0:Int)(a1:Int)(a2:Int):Option (Bool):=(bif (decide (a0≥a1))then some (decide (a0≤a2))else some false)
def Azt:=ct (fd Tryz.func147 ⟨[.v 3,.v 3,.v 3],[.v 4],true⟩ gN [9,10]) (Bd K)
def Aql (K:Nat)(a0:Fc):Option (Bool):=((Bd K a0.Ad 2 12).bind fun r1=>(bif r1 then((Bd K a0.Ds 8 16).bind fun r2=>(bif r2 then((Bd K a0.B9 2 8).bind fun r3=>(bif r3 then((Bd K a0.Eu 1 8).bind fun r4=>(bif r4 then((Bd K a0.Ca 1 16).bind fun r5=>(bif r5 then((Bd K a0.Dt 1 4).bind fun r6=>some r6)else some false))else some false))else some false))else some false))else some false))
def A8t:=ct (fd Tryz.func136 ⟨[.v 33],[.v 4],true⟩ (gC (Azt K) gN) [5,6,9,10,11,14,15,16,19,20,21,24,25,26]) (Aql K)
def Auu (K:Nat)(a0:Fc):Option (Int):=((Aql K a0).bind fun r1=>(bif (!r1)then some 0 else some (Arl .i64 a0.Ad a0.Ds)))
def Bh7:=ct (fd Tryz.func235 ⟨[.v 33],[.v 3],true⟩ (gC (A8t K) gN)) (Auu K)
def A5a (K:Nat)(a0:Int):Option ((List Int)):=((Bd K a0 0 4096).bind fun r1=>(bif (!r1)then some ([]:List Int)else(if(0:Int)≤a0∧a0≤a0∧(1:Int)*a0≤281474976710656∧a0≤9223372036854775807 then some (List.replicate a0.toNat (0:Int))else none)))
def Bzb:=ct (fd Tryz.func234 ⟨[.v 3],[.n 24 true],true⟩ (gC (Azt K) gN)) (A5a K)
def Av4 (K:Nat)(a0:Fc):Nat->Int->Ed->Ed->Option (Ed)
 |0,_,_,_=>none
 |n1+1,v4,v5,v6=>(bif (decide (v4<a0.Ad))then(if(v5.Gt++([0]:List Int)).length*8≤140737488355328∧(v5.Gt++([0]:List Int)).length≤maxLen then(if(v5.Fj++([(-1)]:List Int)).length*8≤140737488355328∧(v5.Fj++([(-1)]:List Int)).length≤maxLen then(Av4 K a0 n1 (Arj .i64 v4 1) (Ed.mk v5.Fi (v5.Gt++([0]:List Int)) (v5.Fj++([(-1)]:List Int))) v6)else none)else none)else some v5)
def A1f (K:Nat)(a0:Fc):Option (Ed):=((Aql K a0).bind fun r1=>(bif (!r1)then some (Ed.mk [] [] [])else((Auu K a0).bind fun r2=>((A5a K r2).bind fun r3=>(Av4 K a0 K 0 (Ed.mk r3 [] []) (Ed.mk [] [] []))))))
def Bzc:=fd Tryz.func137 ⟨[.v 33],[.n 34 true],true⟩ (gC (A8t K) (gC (Bzb K) (gC (Bh7 K) gN))) [] [] [(3,[.take 103 0 6648,.take 103 1 6649,.take 103 2 6650]),(8,[.take 103 1 6649]),(9,[.take 103 2 6650]),(10,[.take 103 0 6648,.take 103 1 6649,.take 103 2 6650])]
def h_5:Fs:=⟨[(1,.p 101),(2,.p 102),(3,.p 103),(4,.v 2)],[(103,.st 34 true),(102,.st 34 true),(101,.st 33 true)]⟩
def Bls:=lp (Bzc K) 250 h_5 [] (fun n a b c d=>Av4 K d n a b c) (fun n=>kN)
def Bzd:=ct (Bzc K) (A1f K) (kC (Bls K K) kN)
def Amo (K:Nat)(a0:Int):Option (Ax):=some (Ax.mk 0 a0 0 0 0 0 0 0 [] 0 0 [] [])
def Bd4:=ct (fd Tryz.func236 ⟨[.v 3],[.n 77 false],true⟩ gN) (Amo K)
def Avj (K:Nat)(a0:Fc):Nat->(List Ax)->Int->Option ((List Ax))
 |0,_,_=>none
 |n1+1,v1,v2=>(bif (decide (v2<a0.B9))then((Aql K a0).bind fun r3=>(bif r3 then((Amo K 1).bind fun r4=>(if(v1++[r4]).length*152≤140737488355328∧(v1++[r4]).length≤maxLen then(Avj K a0 n1 (v1++[r4]) (Arj .i64 v2 1))else none))else some v1))else some v1)
def A27 (K:Nat)(a0:Fc):Option ((List Ax)):=(Avj K a0 K ([]:List Ax) 0)
def Bze:=fd Tryz.func138 ⟨[.v 33],[.n 35 true],false⟩ (gC (A8t K) (gC (Bd4 K) gN)) [9,10] [] [] [(18,[.put 3018])]
def h_6:Fs:=⟨[(1,.p 101),(3,.o 1003 77 true),(4,.v 2)],[(101,.st 33 true)]⟩
def Bq8:=lp (Bze K) 58 h_6 [] (fun n a b c=>Avj K c n a b) (fun n=>kN)
def Bzf:=ct (Bze K) (A27 K) (kC (Bq8 K K) kN)
def Atz (K:Nat)(a0:Fc):Option (Bm):=((Aql K a0).bind fun r1=>(bif (!r1)then some (Bm.mk (Fc.mk 0 0 0 0 0 0) (Ed.mk [] [] []) [] [] [])else((A1f K a0).bind fun r2=>((A27 K a0).bind fun r3=>some (Bm.mk a0 r2 r3 [] [])))))
def Bta:=ct (fd Tryz.func39 ⟨[.v 33],[.n 38 true],false⟩ (gC (A8t K) (gC (Bzd K) (gC (Bzf K) gN)))) (Atz K)
def Ab4 (K:Nat)(a0:List Ax)(a1:Int):Option (Bool):=(bif (decide (a1≥1))then some (decide (a1≤(a0.length:Int)))else some false)
def A8u:=ct (fd Tryz.func276 ⟨[.v 35,.v 3],[.v 4],true⟩ gN [6,7]) (Ab4 K)
def Azu (K:Nat)(a0:List Ax):Nat->Int->(List Int)->Option ((List Int))
 |0,_,_=>none
 |n1+1,v1,v2=>((Ab4 K a0 (Arj .i64 v1 1)).bind fun r3=>(bif r3 then(bif (decide ((v2.length:Int)<(a0.length:Int)))then(if(v2++([v1]:List Int)).length*8≤140737488355328∧(v2++([v1]:List Int)).length≤maxLen then(if(0:Int)≤v1∧v1<(a0.length:Int)then(Azu K a0 n1 (Ark .i64 ((gt a0 v1).fUp) 1) (v2++([v1]:List Int)))else none)else none)else some v2)else some v2))
def A03 (K:Nat)(a0:List Ax)(a1:Int):Option ((List Int)):=(Azu K a0 K a1 ([]:List Int))
def Bzg:=fd Tryz.func251 ⟨[.v 35,.v 3],[.n 25 true],true⟩ (gC (A8u K) gN) [10,11]
def h_7:Fs:=⟨[(0,.v 35),(1,.v 2),(5,.o 1005 3 true)],[]⟩
def Bq9:=lp (Bzg K) 28 h_7 [] (fun n a=>Azu K a n) (fun n=>kN)
def Blt:=ct (Bzg K) (A03 K) (kC (Bq9 K K) kN)
def Avk (K:Nat)(a0:List Ax)(a1:Int):Option (Bool):=(if(0:Int)≤a1∧a1<(a0.length:Int)then((Ab4 K a0 ((gt a0 a1).fUp)).bind fun r1=>(bif r1 then(if(0:Int)≤(Ark .i64 ((gt a0 a1).fUp) 1)∧(Ark .i64 ((gt a0 a1).fUp) 1)<(a0.length:Int)then(bif (((gt a0 (Ark .i64 ((gt a0 a1).fUp) 1)).Gt)==1)then(if(0:Int)≤(Ark .i64 ((gt a0 a1).fUp) 1)∧(Ark .i64 ((gt a0 a1).fUp) 1)<(a0.length:Int)then(if(0:Int)≤a1∧a1<(a0.length:Int)then some (((gt a0 (Ark .i64 ((gt a0 a1).fUp) 1)).Mu)==((gt a0 a1).Gu))else none)else none)else some false)else none)else some false))else none)
def Blu:=ct (fd Tryz.func252 ⟨[.v 35,.v 3],[.v 4],true⟩ (gC (A8u K) gN) [13,14,21,22,23]) (Avk K)
def A1g (K:Nat)(v2:Int)(C1:Int->Option (Bool)):Option (Bool):=(C1 (Arj .i64 v2 1))
def Av5 (K:Nat)(a0:List Ax)(r1:(List Int)):Nat->Int->Option (Bool)
 |0,_=>none
 |n1+1,v2=>(bif (decide (v2<(r1.length:Int)))then(if(0:Int)≤v2∧v2<(r1.length:Int)then(if(0:Int)≤(gt r1 v2)∧(gt r1 v2)<(a0.length:Int)then(bif (((gt a0 (gt r1 v2)).Gt) != 1)then some false else(bif (decide ((Arj .i64 v2 1)<(r1.length:Int)))then(if(0:Int)≤v2∧v2<(r1.length:Int)then((Avk K a0 (gt r1 v2)).bind fun r3=>(bif (!r3)then some false else(A1g K v2 (Av5 K a0 r1 n1))))else none)else(A1g K v2 (Av5 K a0 r1 n1))))else none)else none)else(bif (decide ((r1.length:Int)>0))then(if(0:Int)≤(Ark .i64 (r1.length:Int) 1)∧(Ark .i64 (r1.length:Int) 1)<(r1.length:Int)then(if(0:Int)≤(gt r1 (Ark .i64 (r1.length:Int) 1))∧(gt r1 (Ark .i64 (r1.length:Int) 1))<(a0.length:Int)then some (((gt a0 (gt r1 (Ark .i64 (r1.length:Int) 1))).fUp)==0)else none)else none)else some false))
def Ay9 (K:Nat)(a0:List Ax)(a1:Int):Option (Bool):=((A03 K a0 a1).bind fun r1=>(Av5 K a0 r1 K 0))
def Bu3:=fd Tryz.func154 ⟨[.v 35,.v 3],[.v 4],true⟩ (gC (Blt K) (gC (Blu K) gN)) [24,25,30,31,43,44] [233]
def h_8:Fs:=⟨[(0,.v 35),(5,.v 25),(6,.v 2)],[]⟩
def Blv:=fun(C58:CT h_8 _)=>jn (Bu3 K) 233 h_8 [(58,ar h_8 C58)] (fun a b c=>A1g K c (C58 a b)) kN
def Bra:=lp (Bu3 K) 58 h_8 [] (fun n a b=>Av5 K a b n) (fun n=>(kC (Blv K _) kN))
def Blw:=ct (Bu3 K) (Ay9 K) (kC (Bra K K) kN)
def As6 (K:Nat)(v2:Int)(v3:Int)(v4:Int)(v5:Int)(v6:Int)(v7:Int)(v8:Int)(v9:List Int)(v10:List Int)(v11:List Int)(v12:List Ax)(v13:List A7)(v14:List Int)(C1:(List Int)->Int->Int->Int->Int->Int->Int->Int->(List Int)->(List Int)->(List Int)->(List Ax)->(List A7)->(List Int)->Option ((List Int)))(v16:List Int):Option ((List Int)):=(C1 v16 (Arj .i64 v2 1) v3 v4 v5 v6 v7 v8 v9 v10 v11 v12 v13 v14)
def Aqw (K:Nat):Nat->(List Int)->Int->Int->Int->Int->Int->Int->Int->(List Int)->(List Int)->(List Int)->(List Ax)->(List A7)->(List Int)->Option ((List Int))
 |0,_,_,_,_,_,_,_,_,_,_,_,_,_,_=>none
 |n1+1,v1,v2,v3,v4,v5,v6,v7,v8,v9,v10,v11,v12,v13,v14=>(bif (decide (v2<(v12.length:Int)))then((Ay9 K v12 v2).bind fun r15=>(bif r15 then(if(v1++([v2]:List Int)).length*8≤140737488355328∧(v1++([v2]:List Int)).length≤maxLen then(As6 K v2 v3 v4 v5 v6 v7 v8 v9 v10 v11 v12 v13 v14 (Aqw K n1) (v1++([v2]:List Int)))else none)else(As6 K v2 v3 v4 v5 v6 v7 v8 v9 v10 v11 v12 v13 v14 (Aqw K n1) v1)))else some v1)
def Av6 (K:Nat)(a0:Bm):Option ((List Int)):=(Aqw K K ([]:List Int) 0 a0.fC.Ad a0.fC.Ds a0.fC.B9 a0.fC.Eu a0.fC.Ca a0.fC.Dt a0.fP.Fi a0.fP.Gt a0.fP.Fj a0.fL a0.fQ a0.Jc)
def Bu4:=fd Tryz.func45 ⟨[.v 38],[.n 25 true],true⟩ (gC (Blw K) gN) [] [233]
def h_9:Fs:=⟨[(1,.p 101),(3,.o 1003 3 true),(4,.v 2)],[(101,.box [.v 2,.v 2,.v 2,.v 2,.v 2,.v 2,.v 24,.v 25,.v 25,.v 35,.v 36,.v 25])]⟩
def Blx:=fun(C58:CT h_9 _)=>jn (Bu4 K) 233 h_9 [(58,ar h_9 C58)] (fun a b c d e f g h i j k l m o=>As6 K b c d e f g h i j k l m o C58 a) kN
def Brb:=lp (Bu4 K) 58 h_9 [] (Aqw K) (fun n=>(kC (Blx K _) kN))
def Bly:=ct (Bu4 K) (Av6 K) (kC (Brb K K) kN)
def Aqm (K:Nat)(a0:Ew)(a1:Int):Option (Bool×Ew):=((Ap K a0 a1).bind fun r1=>some ((r1.1==0),r1.2))
def Bd5:=ct (fd Tryz.func198 ⟨[.b 171 false,.v 3],[.v 4],false⟩ (gC (A5x K) gN)) (Aqm K)
def Az8 (K:Nat)(a0:Ew):Option (Ce×Ew):=((Ap K a0 5).bind fun r1=>((Ap K r1.2 3).bind fun r2=>some ((Ce.mk r1.1 (Arj .i64 1 r2.1)),r2.2)))
def Bzh:=ct (fd Tryz.func284 ⟨[.b 171 false],[.v 40],false⟩ (gC (A5x K) gN)) (Az8 K)
def Av7 (K:Nat)(a1:Int):Nat->(List Int)->Int->(List Int)->Int->Int->Option ((List Int)×Ew)
 |0,_,_,_,_,_=>none
 |n1+1,v1,v2,v3,v4,v5=>(bif (decide (v2<a1))then((Aui K (Ew.mk v3 v4 v5)).bind fun r6=>(if(v1++([(IntKind.u8.wrap r6.1)]:List Int)).length*1≤140737488355328∧(v1++([(IntKind.u8.wrap r6.1)]:List Int)).length≤maxLen then(Av7 K a1 n1 (v1++([(IntKind.u8.wrap r6.1)]:List Int)) (Arj .i64 v2 1) r6.2.fb r6.2.fi r6.2.fh)else none))else some (v1,(Ew.mk v3 v4 v5)))
def A1h (K:Nat)(a0:Ew)(a1:Int):Option ((List Int)×Ew):=(Av7 K a1 K ([]:List Int) 0 a0.fb a0.fi a0.fh)
def Bzi:=fd Tryz.func201 ⟨[.b 171 false,.v 3],[.n 24 true],false⟩ (gC (Byw K) gN)
def B16:Fs:=⟨[(0,.p 1),(1,.v 2),(5,.o 1005 5 true),(6,.v 2)],[(1,.box [.v 24,.v 2,.v 2])]⟩
def Brc:=lp (Bzi K) 58 B16 [] (fun n a=>Av7 K a n) (fun n=>kN)
def Btb:=ct (Bzi K) (A1h K) (kC (Brc K K) kN)
def Aod (K:Nat)(v6:List Int)(v7:Int)(v8:Int)(v9:Df)(v10:Df):Option (Df×Ew):=some (v9,(Ew.mk v6 v7 v8))
def Aun (K:Nat)(v11:Int)(v12:Bool)(v13:List Int)(v14:Int)(v15:Int)(v16:E5)(v17:Ce)(v18:Df)(v19:Df):Option (Df×Ew):=(bif v12 then(Aod K v13 v14 v15 (Df.mk v18.Zd v17 v18.fR v18.fN v18.fM v18.fB) v19)else(bif (v11==2)then((K0 K (Ew.mk v13 v14 v15) ([1,2,3,5,8,9,17,20,0,201]:List Int)).bind fun r20=>(if r20.2.2.length=([1,2,3,5,8,9,17,20,0,201]:List Int).length then((K0 K r20.2.1 ([1,1,2,4,3]:List Int)).bind fun r21=>(if r21.2.2.length=([1,1,2,4,3]:List Int).length then(Aod K r21.2.1.fb r21.2.1.fi r21.2.1.fh (Df.mk v18.Zd v17 v18.fR r20.1 r21.1 v18.fB) v19)else none))else none))else(bif (v11==3)then((Ap K (Ew.mk v13 v14 v15) 4).bind fun r22=>((Ap K r22.2 5).bind fun r23=>(Aod K r23.2.fb r23.2.fi r23.2.fh (Df.mk v18.Zd v18.fH v16 r22.1 r23.1 v18.fB) v19)))else(bif (v11==4)then((Ap K (Ew.mk v13 v14 v15) 4).bind fun r24=>((Ap K r24.2 4).bind fun r25=>((A1h K r25.2 r25.1).bind fun r26=>(Aod K r26.2.fb r26.2.fi r26.2.fh (Df.mk v18.Zd v18.fH v16 r24.1 v18.fM r26.1) v19))))else(bif (v11==5)then((K0 K (Ew.mk v13 v14 v15) ([1,7,255,256]:List Int)).bind fun r27=>(if r27.2.2.length=([1,7,255,256]:List Int).length then(Aod K r27.2.1.fb r27.2.1.fi r27.2.1.fh (Df.mk v18.Zd v17 v18.fR r27.1 v18.fM v18.fB) v19)else none))else(Aod K v13 v14 v15 v18 v19))))))
def Ayi (K:Nat)(a0:Ew):Option (Df×Ew):=((Ap K a0 9).bind fun r1=>((Az8 K r1.2).bind fun r2=>((Ap K r2.2 2).bind fun r3=>((Ap K r3.2 3).bind fun r4=>(bif ((Arj .i64 1 r1.1)==1)then((Aqm K r4.2 2).bind fun r5=>(bif r5.1 then(Aod K r5.2.fb r5.2.fi r5.2.fh (Df.mk (Arj .i64 1 r1.1) r2.1 (E5.mk (Ce.mk 0 0) 0 0) 0 0 []) (Df.mk 0 (Ce.mk 0 0) (E5.mk (Ce.mk 0 0) 0 0) 0 0 []))else(Aod K r5.2.fb r5.2.fi r5.2.fh (Df.mk (Arj .i64 1 r1.1) (Ce.mk 0 0) (E5.mk (Ce.mk 0 0) 0 0) 0 0 []) (Df.mk 0 (Ce.mk 0 0) (E5.mk (Ce.mk 0 0) 0 0) 0 0 []))))else(bif ((Arj .i64 1 r1.1)==6)then(Aun K (Arj .i64 1 r1.1) ((Arj .i64 1 r1.1)==6) r4.2.fb r4.2.fi r4.2.fh (E5.mk r2.1 r3.1 r4.1) r2.1 (Df.mk (Arj .i64 1 r1.1) (Ce.mk 0 0) (E5.mk (Ce.mk 0 0) 0 0) 0 0 []) (Df.mk 0 (Ce.mk 0 0) (E5.mk (Ce.mk 0 0) 0 0) 0 0 []))else(bif ((Arj .i64 1 r1.1)==7)then(Aun K (Arj .i64 1 r1.1) ((Arj .i64 1 r1.1)==7) r4.2.fb r4.2.fi r4.2.fh (E5.mk r2.1 r3.1 r4.1) r2.1 (Df.mk (Arj .i64 1 r1.1) (Ce.mk 0 0) (E5.mk (Ce.mk 0 0) 0 0) 0 0 []) (Df.mk 0 (Ce.mk 0 0) (E5.mk (Ce.mk 0 0) 0 0) 0 0 []))else(Aun K (Arj .i64 1 r1.1) ((Arj .i64 1 r1.1)==8) r4.2.fb r4.2.fi r4.2.fh (E5.mk r2.1 r3.1 r4.1) r2.1 (Df.mk (Arj .i64 1 r1.1) (Ce.mk 0 0) (E5.mk (Ce.mk 0 0) 0 0) 0 0 []) (Df.mk 0 (Ce.mk 0 0) (E5.mk (Ce.mk 0 0) 0 0) 0 0 [])))))))))
def Bu5:=fd Tryz.func199 ⟨[.b 171 false],[.n 55 true],false⟩ (gC (A5x K) (gC (Bd2 K) (gC (Bd5 K) (gC (Btb K) (gC (Bzh K) gN))))) [] [31,1003] [(27,[.take 103 9 6657])]
def B17:Fs:=⟨[(2,.p 102),(3,.p 103)],[(1,.box [.v 24,.v 2,.v 2]),(103,.st 55 true),(102,.st 55 true)]⟩
def B18:Fs:=⟨[(0,.p 1),(2,.p 102),(3,.p 103),(4,.p 104),(5,.p 105),(19,.v 2),(26,.v 4)],[(1,.box [.v 24,.v 2,.v 2]),(105,.st 42 true),(104,.st 40 true),(103,.st 55 true),(102,.st 55 true)]⟩
def Bh8:=jn (Bu5 K) 31 B17 [] (Aod K) kN
def Bji:=jn (Bu5 K) 1003 B18 [] (Aun K) (kC (Bh8 K) kN)
def Bzj:=ct (Bu5 K) (Ayi K) (kC (Bh8 K) (kC (Bji K) kN))
def Axi (K:Nat)(a0:List Ax)(a1:Int):Option (Ce):=((Bd K a1 0 (Ark .i64 (a0.length:Int) 1)).bind fun r1=>(bif (!r1)then some (Ce.mk 0 0)else(if(0:Int)≤a1∧a1<(a0.length:Int)then some (Ce.mk a1 ((gt a0 a1).C5))else none)))
def Btc:=ct (fd Tryz.func200 ⟨[.v 35,.v 3],[.v 40],true⟩ (gC (Azt K) gN)) (Axi K)
def Av8 (K:Nat)(r8:Ce)(v27:List Int)(v28:List Int)(v29:List Int)(v30:List Ax)(v31:List A7)(v32:List Int)(v34:Int)(v36:List Int)(v37:Int)(v38:Int)(v47:Bool):Option (Df×Ew×(List Int)×(List Int)×(List Int)×(List Ax)×(List A7)×(List Int)):=(bif v47 then((Ap K (Ew.mk v36 v37 v38) 256).bind fun r48=>some ((Df.mk 5 r8 (E5.mk (Ce.mk 0 0) 0 0) r48.1 0 []),r48.2,v27,v28,v29,v30,v31,v32))else(bif (v34==13)then some ((Df.mk 6 r8 (E5.mk (Ce.mk 0 0) 0 0) 0 0 []),(Ew.mk v36 v37 v38),v27,v28,v29,v30,v31,v32)else(bif (v34==14)then some ((Df.mk 7 r8 (E5.mk (Ce.mk 0 0) 0 0) 0 0 []),(Ew.mk v36 v37 v38),v27,v28,v29,v30,v31,v32)else((Aqm K (Ew.mk v36 v37 v38) 6).bind fun r49=>(bif r49.1 then some ((Df.mk 9 (Ce.mk 0 0) (E5.mk (Ce.mk 0 0) 0 0) 0 0 []),r49.2,v27,v28,v29,v30,v31,v32)else some ((Df.mk 8 r8 (E5.mk (Ce.mk 0 0) 0 0) 0 0 []),r49.2,v27,v28,v29,v30,v31,v32))))))
def Av9 (K:Nat)(r8:Ce)(v13:E5)(v27:List Int)(v28:List Int)(v29:List Int)(v30:List Ax)(v31:List A7)(v32:List Int)(v34:Int)(v36:List Int)(v37:Int)(v38:Int)(v43:Bool):Option (Df×Ew×(List Int)×(List Int)×(List Int)×(List Ax)×(List A7)×(List Int)):=(bif v43 then((Ap K (Ew.mk v36 v37 v38) 2).bind fun r44=>((A1h K r44.2 (Arj .i64 1 r44.1)).bind fun r45=>some ((Df.mk 4 (Ce.mk 0 0) v13 0 0 r45.1),r45.2,v27,v28,v29,v30,v31,v32)))else(bif (v34==10)then((Ap K (Ew.mk v36 v37 v38) 3).bind fun r46=>some ((Df.mk 3 (Ce.mk 0 0) v13 0 r46.1 []),r46.2,v27,v28,v29,v30,v31,v32))else(bif (v34==11)then(Av8 K r8 v27 v28 v29 v30 v31 v32 v34 v36 v37 v38 (v34==11))else(Av8 K r8 v27 v28 v29 v30 v31 v32 v34 v36 v37 v38 (v34==12)))))
def Auo (K:Nat)(r8:Ce)(v13:E5)(v16:Int)(v27:List Int)(v28:List Int)(v29:List Int)(v30:List Ax)(v31:List A7)(v32:List Int)(v34:Int)(v36:List Int)(v37:Int)(v38:Int)(v39:Bool):Option (Df×Ew×(List Int)×(List Int)×(List Int)×(List Ax)×(List A7)×(List Int)):=(bif v39 then((K0 K (Ew.mk v36 v37 v38) ([1,2,3,4,5,8]:List Int)).bind fun r40=>(if r40.2.2.length=([1,2,3,4,5,8]:List Int).length then((K0 K r40.2.1 ([1,1,2,4]:List Int)).bind fun r41=>(if r41.2.2.length=([1,1,2,4]:List Int).length then some ((Df.mk 2 r8 (E5.mk (Ce.mk 0 0) 0 0) r40.1 r41.1 []),r41.2.1,v27,v28,v29,v30,v31,v32)else none))else none))else(bif (v34==7)then((Ap K (Ew.mk v36 v37 v38) v16).bind fun r42=>some ((Df.mk 2 r8 (E5.mk (Ce.mk 0 0) 0 0) (Arj .i64 (Arj .i64 v16 1) r42.1) 1 []),r42.2,v27,v28,v29,v30,v31,v32))else(bif (v34==8)then(Av9 K r8 v13 v27 v28 v29 v30 v31 v32 v34 v36 v37 v38 (v34==8))else(Av9 K r8 v13 v27 v28 v29 v30 v31 v32 v34 v36 v37 v38 (v34==9)))))
def Aup (K:Nat)(r8:Ce)(v13:E5)(v16:Int)(v27:List Int)(v28:List Int)(v29:List Int)(v30:List Ax)(v31:List A7)(v32:List Int)(v34:Int)(v35:Bool)(v36:List Int)(v37:Int)(v38:Int):Option (Df×Ew×(List Int)×(List Int)×(List Int)×(List Ax)×(List A7)×(List Int)):=(bif v35 then some ((Df.mk 1 r8 (E5.mk (Ce.mk 0 0) 0 0) 0 0 []),(Ew.mk v36 v37 v38),v27,v28,v29,v30,v31,v32)else(bif (v34==3)then some ((Df.mk 1 (Ce.mk 0 0) (E5.mk (Ce.mk 0 0) 0 0) 0 0 []),(Ew.mk v36 v37 v38),v27,v28,v29,v30,v31,v32)else(bif (v34==4)then(Auo K r8 v13 v16 v27 v28 v29 v30 v31 v32 v34 v36 v37 v38 (v34==4))else(bif (v34==5)then(Auo K r8 v13 v16 v27 v28 v29 v30 v31 v32 v34 v36 v37 v38 (v34==5))else(Auo K r8 v13 v16 v27 v28 v29 v30 v31 v32 v34 v36 v37 v38 (v34==6))))))
def Awa (K:Nat)(r8:Ce)(v10:List Int)(v11:Int)(v12:Int)(v13:E5)(v14:Df)(v15:Int)(v16:Int)(v17:Int)(v18:Int)(v19:Int)(v20:Int)(v21:Nat)(v22:Nat)(v23:Nat)(v24:Nat)(v25:Nat)(v26:Nat)(v27:List Int)(v28:List Int)(v29:List Int)(v30:List Ax)(v31:List A7)(v32:List Int):Option (Df×Ew×(List Int)×(List Int)×(List Int)×(List Ax)×(List A7)×(List Int)):=((Ap K (Ew.mk v10 v11 v12) 16).bind fun r33=>(bif (r33.1==0)then(Aup K r8 v13 v16 v27 v28 v29 v30 v31 v32 r33.1 (r33.1==0) r33.2.fb r33.2.fi r33.2.fh)else(bif (r33.1==1)then(Aup K r8 v13 v16 v27 v28 v29 v30 v31 v32 r33.1 (r33.1==1) r33.2.fb r33.2.fi r33.2.fh)else(Aup K r8 v13 v16 v27 v28 v29 v30 v31 v32 r33.1 (r33.1==2) r33.2.fb r33.2.fi r33.2.fh))))
def Ayj (K:Nat)(a0:Ew)(a1:Bm):Option (Df×Ew×(List Int)×(List Int)×(List Int)×(List Ax)×(List A7)×(List Int)):=((Av6 K a1).bind fun r1=>(bif ((r1.length:Int)==0)then((Aqm K a0 2).bind fun r2=>(bif r2.1 then some ((Df.mk 1 (Ce.mk 0 0) (E5.mk (Ce.mk 0 0) 0 0) 0 0 []),r2.2,a1.fP.Fi,a1.fP.Gt,a1.fP.Fj,a1.fL,a1.fQ,a1.Jc)else((Ayi K r2.2).bind fun r3=>some (r3.1,r3.2,a1.fP.Fi,a1.fP.Gt,a1.fP.Fj,a1.fL,a1.fQ,a1.Jc))))else((Aqm K a0 10).bind fun r4=>(bif r4.1 then((Aqm K r4.2 2).bind fun r5=>(bif r5.1 then some ((Df.mk 1 (Ce.mk 0 0) (E5.mk (Ce.mk 0 0) 0 0) 0 0 []),r5.2,a1.fP.Fi,a1.fP.Gt,a1.fP.Fj,a1.fL,a1.fQ,a1.Jc)else((Ayi K r5.2).bind fun r6=>some (r6.1,r6.2,a1.fP.Fi,a1.fP.Gt,a1.fP.Fj,a1.fL,a1.fQ,a1.Jc))))else((Ap K r4.2 (r1.length:Int)).bind fun r7=>(if(0:Int)≤r7.1∧r7.1<(r1.length:Int)then((Axi K a1.fL (gt r1 r7.1)).bind fun r8=>(if(0:Int)≤(gt r1 r7.1)∧(gt r1 r7.1)<(a1.fL.length:Int)then(if(0:Int)≤(gt r1 r7.1)∧(gt r1 r7.1)<(a1.fL.length:Int)then(if(0:Int)≤(gt r1 r7.1)∧(gt r1 r7.1)<(a1.fL.length:Int)then(bif (decide ((((gt a1.fL (gt r1 r7.1)).D3).length:Int)>0))then(if(0:Int)≤(gt r1 r7.1)∧(gt r1 r7.1)<(a1.fL.length:Int)then((Ap K r7.2 (((gt a1.fL (gt r1 r7.1)).D3).length:Int)).bind fun r9=>(Awa K r8 r9.2.fb r9.2.fi r9.2.fh (E5.mk r8 ((gt a1.fL (gt r1 r7.1)).Mu) r9.1) (Df.mk 0 (Ce.mk 0 0) (E5.mk (Ce.mk 0 0) 0 0) 0 0 []) a1.fC.Ad a1.fC.Ds a1.fC.B9 a1.fC.Eu a1.fC.Ca a1.fC.Dt a1.fP.Fi.length a1.fP.Gt.length a1.fP.Fj.length a1.fL.length a1.fQ.length a1.Jc.length a1.fP.Fi a1.fP.Gt a1.fP.Fj a1.fL a1.fQ a1.Jc))else none)else(Awa K r8 r7.2.fb r7.2.fi r7.2.fh (E5.mk r8 ((gt a1.fL (gt r1 r7.1)).Mu) 0) (Df.mk 0 (Ce.mk 0 0) (E5.mk (Ce.mk 0 0) 0 0) 0 0 []) a1.fC.Ad a1.fC.Ds a1.fC.B9 a1.fC.Eu a1.fC.Ca a1.fC.Dt a1.fP.Fi.length a1.fP.Gt.length a1.fP.Fj.length a1.fL.length a1.fQ.length a1.Jc.length a1.fP.Fi a1.fP.Gt a1.fP.Fj a1.fL a1.fQ a1.Jc))else none)else none)else none))else none))))))
def Bjj:=fd Tryz.func114 ⟨[.b 171 false,.w 38 false [(5,true),(3,true),(3,true),(77,true),(79,false),(3,true)]],[.n 55 true],false⟩ (gC (Bly K) (gC (A5x K) (gC (Bd2 K) (gC (Bd5 K) (gC (Bzj K) (gC (Btc K) (gC (Btb K) gN))))))) [13,14] [127,2042,32687,523007,8368127] [(9,[.opn 5 (.tmp 6),.takeE 5 11 40331])]
def B19:Fs:=⟨[(0,.p 1),(4,.p 104),(7,.p 107),(61,.v 2),(113,.v 4)],[(1,.box [.v 24,.v 2,.v 2]),(2,.rws 5 true),(3,.rws 3 true),(4,.rws 3 true),(5,.rws 77 true),(6,.rws 79 false),(7,.rws 3 true),(107,.st 40 true),(104,.st 55 true)]⟩
def B2a:Fs:=⟨[(0,.p 1),(4,.p 104),(7,.p 107),(8,.p 108),(61,.v 2),(97,.v 4)],[(1,.box [.v 24,.v 2,.v 2]),(2,.rws 5 true),(3,.rws 3 true),(4,.rws 3 true),(5,.rws 77 true),(6,.rws 79 false),(7,.rws 3 true),(108,.st 42 true),(107,.st 40 true),(104,.st 55 true)]⟩
def B2b:Fs:=⟨[(0,.p 1),(3,.p 103),(4,.p 104),(7,.p 107),(8,.p 108),(61,.v 2),(71,.v 4)],[(1,.box [.v 24,.v 2,.v 2]),(108,.st 42 true),(107,.st 40 true),(104,.st 55 true),(103,.ob [.v 2,.v 2,.v 2,.v 2,.v 2,.v 2,.O 2,.O 3,.O 4,.O 5,.O 6,.O 7]),(2,.rws 5 true),(3,.rws 3 true),(4,.rws 3 true),(5,.rws 77 true),(6,.rws 79 false),(7,.rws 3 true)]⟩
def B2c:Fs:=⟨[(0,.p 1),(3,.p 103),(4,.p 104),(7,.p 107),(8,.p 108),(61,.v 2),(62,.v 4)],[(1,.box [.v 24,.v 2,.v 2]),(108,.st 42 true),(107,.st 40 true),(104,.st 55 true),(103,.ob [.v 2,.v 2,.v 2,.v 2,.v 2,.v 2,.O 2,.O 3,.O 4,.O 5,.O 6,.O 7]),(2,.rws 5 true),(3,.rws 3 true),(4,.rws 3 true),(5,.rws 77 true),(6,.rws 79 false),(7,.rws 3 true)]⟩
def B2d:Fs:=⟨[(0,.p 1),(3,.p 103),(4,.p 104),(7,.p 107),(8,.p 108)],[(1,.box [.v 24,.v 2,.v 2]),(108,.st 42 true),(107,.st 40 true),(104,.st 55 true),(103,.ob [.v 2,.v 2,.v 2,.v 2,.v 2,.v 2,.O 2,.O 3,.O 4,.O 5,.O 6,.O 7]),(2,.rws 5 true),(3,.rws 3 true),(4,.rws 3 true),(5,.rws 77 true),(6,.rws 79 false),(7,.rws 3 true)]⟩
def Bck:=jn (Bjj K) 8368127 B19 [] (fun a b c d e f g h i j k l _=>Av8 K l f g h i j k a c d e b) kN
def Bd6:=jn (Bjj K) 523007 B2a [] (fun a b c d e f g h i j k l m _=>Av9 K m l f g h i j k a c d e b) (kC (Bck K) kN)
def Bgc:=jn (Bjj K) 32687 B2b [] (fun a b c d e f g _ _ j _ _ _ _ _ _ _ _ _ _ v w x y z a1=>Auo K g f j v w x y z a1 a c d e b) (kC (Bd6 K) kN)
def Bjk:=jn (Bjj K) 2042 B2c [] (fun a b c d e f g _ _ j _ _ _ _ _ _ _ _ _ _ v w x y z a1=>Aup K g f j v w x y z a1 a b c d e) (kC (Bgc K) kN)
def Blz:=jn (Bjj K) 127 B2d [] (fun a b c d e=>Awa K e a b c d) (kC (Bjk K) kN)
def Btd:=ct (Bjj K) (Ayj K) (kC (Blz K) kN)
def Axj (K:Nat)(a0:Ce):Option (Bool):=(bif (decide (a0.A9≥0))then some (decide (a0.C5≥1))else some false)
def Bte:=ct (fd Tryz.func354 ⟨[.v 40],[.v 4],true⟩ gN [5,6]) (Axj K)
def Ayk (K:Nat)(a0:List Ax)(a1:Ce):Option (Int):=((Bd K a1.A9 0 (Ark .i64 (a0.length:Int) 1)).bind fun r1=>(bif r1 then(if(0:Int)≤a1.A9∧a1.A9<(a0.length:Int)then(bif (((gt a0 a1.A9).Gt) != 1)then some (-1)else(if(0:Int)≤a1.A9∧a1.A9<(a0.length:Int)then(bif (((gt a0 a1.A9).C5) != a1.C5)then some (-1)else some a1.A9)else none))else none)else some (-1)))
def Btf:=ct (fd Tryz.func355 ⟨[.v 35,.v 40],[.v 3],true⟩ (gC (Azt K) gN) [10,11,12,19,20,21]) (Ayk K)
def Aqp (K:Nat)(a0:Bm)(a1:Ce):Option (Int×Int):=((Axj K a1).bind fun r1=>(bif (!r1)then some ((-1),1)else((Ayk K a0.fL a1).bind fun r2=>(bif (decide (r2<0))then some ((-1),2)else((Ay9 K a0.fL r2).bind fun r3=>(bif (!r3)then some ((-1),2)else some (r2,0)))))))
def Bbs:=ct (fd Tryz.func307 ⟨[.v 38,.v 40],[.v 3,.v 3],true⟩ (gC (Blw K) (gC (Bte K) (gC (Btf K) gN))) [15,16]) (Aqp K)
def A3d (K:Nat)(a0:Bm)(a1:Ce):Option (Int×Int):=(bif ((a1.A9==0)&&((a1.C5==0)&&true))then some ((-1),0)else((Aqp K a0 a1).bind fun r1=>some (r1.1,r1.2)))
def Bzk:=ct (fd Tryz.func342 ⟨[.v 38,.v 40],[.v 3,.v 3],true⟩ (gC (Bbs K) gN)) (A3d K)
def Azv (K:Nat)(a0:List Ax)(a1:Int):Option (Int):=((A03 K a0 a1).bind fun r1=>some (r1.length:Int))
def Btg:=ct (fd Tryz.func343 ⟨[.v 35,.v 3],[.v 3],true⟩ (gC (Blt K) gN)) (Azv K)
def Arb (K:Nat)(a0:Bm)(a1:Ce):Option (Int):=((Ayk K a0.fL a1).bind fun r1=>((Azv K a0.fL r1).bind fun r2=>some r2))
def A9v:=ct (fd Tryz.func308 ⟨[.v 38,.v 40],[.v 3],true⟩ (gC (Btg K) (gC (Btf K) gN))) (Arb K)
def Ao7 (K:Nat)(v2:Int)(v3:Int)(v4:Int)(v5:Int)(v6:Int)(v7:Int)(v8:Int)(v9:List Int)(v10:List Int)(v11:List Int)(v12:List Ax)(v13:List A7)(v14:List Int)(C1:Int->Int->Int->Int->Int->Int->Int->Int->(List Int)->(List Int)->(List Int)->(List Ax)->(List A7)->(List Int)->Option (Int))(v15:Int):Option (Int):=(C1 v15 (Arj .i64 v2 1) v3 v4 v5 v6 v7 v8 v9 v10 v11 v12 v13 v14)
def Ajw (K:Nat):Nat->Int->Int->Int->Int->Int->Int->Int->Int->(List Int)->(List Int)->(List Int)->(List Ax)->(List A7)->(List Int)->Option (Int)
 |0,_,_,_,_,_,_,_,_,_,_,_,_,_,_=>none
 |n1+1,v1,v2,v3,v4,v5,v6,v7,v8,v9,v10,v11,v12,v13,v14=>(bif (decide (v2<(v12.length:Int)))then(if(0:Int)≤v2∧v2<(v12.length:Int)then(bif (((gt v12 v2).Gt)==0)then(Ao7 K v2 v3 v4 v5 v6 v7 v8 v9 v10 v11 v12 v13 v14 (Ajw K n1) (Arj .i64 v1 1))else((Ay9 K v12 v2).bind fun r16=>(bif r16 then(Ao7 K v2 v3 v4 v5 v6 v7 v8 v9 v10 v11 v12 v13 v14 (Ajw K n1) v1)else(if(0:Int)≤v2∧v2<(v12.length:Int)then(bif (((gt v12 v2).Gt) != 3)then(if(0:Int)≤v2∧v2<(v12.length:Int)then(bif (decide (((gt v12 v2).C5)<v8))then(Ao7 K v2 v3 v4 v5 v6 v7 v8 v9 v10 v11 v12 v13 v14 (Ajw K n1) (Arj .i64 v1 1))else(Ao7 K v2 v3 v4 v5 v6 v7 v8 v9 v10 v11 v12 v13 v14 (Ajw K n1) v1))else none)else(Ao7 K v2 v3 v4 v5 v6 v7 v8 v9 v10 v11 v12 v13 v14 (Ajw K n1) v1))else none))))else none)else some v1)
def A28 (K:Nat)(a0:Bm):Option (Int):=(Ajw K K 0 0 a0.fC.Ad a0.fC.Ds a0.fC.B9 a0.fC.Eu a0.fC.Ca a0.fC.Dt a0.fP.Fi a0.fP.Gt a0.fP.Fj a0.fL a0.fQ a0.Jc)
def Bu6:=fd Tryz.func344 ⟨[.v 38],[.v 3],true⟩ (gC (Blw K) gN) [18,19,23,24,25,32,33,34] [233]
def Brd:Fs:=⟨[(1,.p 101),(3,.v 2),(4,.v 2)],[(101,.box [.v 2,.v 2,.v 2,.v 2,.v 2,.v 2,.v 24,.v 25,.v 25,.v 35,.v 36,.v 25])]⟩
def Bl0:=fun(C58:CT Brd _)=>jn (Bu6 K) 233 Brd [(58,ar Brd C58)] (fun a b c d e f g h i j k l m o=>Ao7 K b c d e f g h i j k l m o C58 a) kN
def Bre:=lp (Bu6 K) 58 Brd [] (Ajw K) (fun n=>(kC (Bl0 K _) kN))
def Bzl:=ct (Bu6 K) (A28 K) (kC (Bre K K) kN)
def Awb (K:Nat)(v2:Int)(v3:List Int)(v4:List Int)(v5:List Int)(C1:(List Int)->Int->(List Int)->(List Int)->(List Int)->Option ((List Int)))(v6:List Int):Option ((List Int)):=(C1 v6 (Arj .i64 v2 1) v3 v4 v5)
def Aoe (K:Nat)(a1:Int):Nat->(List Int)->Int->(List Int)->(List Int)->(List Int)->Option ((List Int))
 |0,_,_,_,_,_=>none
 |n1+1,v1,v2,v3,v4,v5=>(bif (decide (v2<(v4.length:Int)))then(bif (decide (v2<(v5.length:Int)))then(if(0:Int)≤v2∧v2<(v4.length:Int)then(bif ((gt v4 v2)==1)then(if(0:Int)≤v2∧v2<(v5.length:Int)then(bif ((gt v5 v2)==a1)then(if(v1++([v2]:List Int)).length*8≤140737488355328∧(v1++([v2]:List Int)).length≤maxLen then(Awb K v2 v3 v4 v5 (Aoe K a1 n1) (v1++([v2]:List Int)))else none)else(Awb K v2 v3 v4 v5 (Aoe K a1 n1) v1))else none)else(Awb K v2 v3 v4 v5 (Aoe K a1 n1) v1))else none)else some v1)else some v1)
def Ayl (K:Nat)(a0:Ed)(a1:Int):Option ((List Int)):=(Aoe K a1 K ([]:List Int) 0 a0.Fi a0.Gt a0.Fj)
def Bu7:=fd Tryz.func155 ⟨[.v 34,.v 3],[.n 25 true],true⟩ gN [12,13,27,28] [233]
def Brf:Fs:=⟨[(1,.v 2),(2,.p 102),(5,.o 1005 3 true),(6,.v 2)],[(102,.box [.v 24,.v 25,.v 25])]⟩
def Bl1:=fun(C58:CT Brf _)=>jn Bu7 233 Brf [(58,ar Brf C58)] (fun a b c d e f=>Awb K c d e f (C58 a) b) kN
def Brg:=lp Bu7 58 Brf [] (fun n a=>Aoe K a n) (fun n=>(kC (Bl1 K _) kN))
def Bth:=ct Bu7 (Ayl K) (kC (Brg K K) kN)
def Alt (K:Nat)(r1:(List Int)):Nat->Int->Int->Int->Int->Int->Int->Int->Int->(List Int)->(List Int)->(List Int)->(List Ax)->(List A7)->(List Int)->Option (Int)
 |0,_,_,_,_,_,_,_,_,_,_,_,_,_,_=>none
 |n1+1,v2,v3,v4,v5,v6,v7,v8,v9,v10,v11,v12,v13,v14,v15=>(bif (decide (v3<(r1.length:Int)))then(if(0:Int)≤v3∧v3<(r1.length:Int)then((Ayl K (Ed.mk v10 v11 v12) (gt r1 v3)).bind fun r16=>(Alt K r1 n1 (Arj .i64 v2 (r16.length:Int)) (Arj .i64 v3 1) v4 v5 v6 v7 v8 v9 v10 v11 v12 v13 v14 v15))else none)else some v2)
def Ava (K:Nat)(a0:Bm):Option (Int):=((Av6 K a0).bind fun r1=>(Alt K r1 K 0 0 a0.fC.Ad a0.fC.Ds a0.fC.B9 a0.fC.Eu a0.fC.Ca a0.fC.Dt a0.fP.Fi a0.fP.Gt a0.fP.Fj a0.fL a0.fQ a0.Jc))
def Bzm:=fd Tryz.func46 ⟨[.v 38],[.v 3],true⟩ (gC (Bly K) (gC (Bth K) gN))
def B2e:Fs:=⟨[(1,.p 101),(3,.v 2),(4,.v 25),(5,.v 2)],[(101,.box [.v 2,.v 2,.v 2,.v 2,.v 2,.v 2,.v 24,.v 25,.v 25,.v 35,.v 36,.v 25])]⟩
def Bl2:=lp (Bzm K) 122 B2e [] (fun n a b=>Alt K b n a) (fun n=>kN)
def Bti:=ct (Bzm K) (Ava K) (kC (Bl2 K K) kN)
def Aqq (K:Nat)(a0:Bm)(a1:Int):Option (Bool):=(bif (decide (a1≥0))then(bif (decide (a1≤a0.fC.Ad))then((Ava K a0).bind fun r1=>some (decide (r1≤(Ark .i64 a0.fC.Ad a1))))else some false)else some false)
def Bh9:=ct (fd Tryz.func43 ⟨[.v 38,.v 3],[.v 4],true⟩ (gC (Bti K) gN) [6,7,12,13,14]) (Aqq K)
def Avy (K:Nat)(v2:Int)(C1:Int->Int->Option (Int))(v3:Int):Option (Int):=(C1 v3 (Arj .i64 v2 1))
def Aln (K:Nat)(a0:List Ax)(a1:Int):Nat->Int->Int->Option (Int)
 |0,_,_=>none
 |n1+1,v1,v2=>(bif (decide (v2<(a0.length:Int)))then(if(0:Int)≤v2∧v2<(a0.length:Int)then(bif (((gt a0 v2).Gt)==a1)then(Avy K v2 (Aln K a0 a1 n1) (Arj .i64 v1 1))else(Avy K v2 (Aln K a0 a1 n1) v1))else none)else some v1)
def Atr (K:Nat)(a0:List Ax)(a1:Int):Option (Int):=(Aln K a0 a1 K 0 0)
def Bu8:=fd Tryz.func247 ⟨[.v 35,.v 3],[.v 3],true⟩ gN [] [233]
def Brh:Fs:=⟨[(0,.v 35),(1,.v 2),(5,.v 2),(6,.v 2)],[]⟩
def Bl3:=fun(C58:CT Brh _)=>jn Bu8 233 Brh [(58,ar Brh C58)] (fun a b c d=>Avy K d (C58 a b) c) kN
def Bri:=lp Bu8 58 Brh [] (fun n a b=>Aln K a b n) (fun n=>(kC (Bl3 K _) kN))
def Btj:=ct Bu8 (Atr K) (kC (Bri K K) kN)
def Avb (K:Nat)(a1:Int)(a2:Int):Nat->Int->(List Int)->(List Int)->(List Int)->Option (Bool)
 |0,_,_,_,_=>none
 |n1+1,v1,v2,v3,v4=>(bif (decide (v1<(Arj .i64 a1 a2)))then(if(0:Int)≤v1∧v1<(v3.length:Int)then(bif ((gt v3 v1) != 0)then some false else(Avb K a1 a2 n1 (Arj .i64 v1 1) v2 v3 v4))else none)else some true)
def Azw (K:Nat)(a0:Ed)(a1:Int)(a2:Int):Option (Bool):=(bif (decide (a1<0))then some false else(bif (decide (a2<1))then some false else(bif (decide (a1>(a0.Gt.length:Int)))then some false else(bif (decide (a2>(Ark .i64 (a0.Gt.length:Int) a1)))then some false else(Avb K a1 a2 K a1 a0.Fi a0.Gt a0.Fj)))))
def Bzn:=fd Tryz.func376 ⟨[.v 34,.v 3,.v 3],[.v 4],true⟩ gN [9,10,12,13,14,19,20,21]
def B2f:Fs:=⟨[(1,.v 2),(2,.v 2),(3,.p 103),(7,.v 2)],[(103,.box [.v 24,.v 25,.v 25])]⟩
def Brj:=lp Bzn 58 B2f [] (fun n a b=>Avb K a b n) (fun n=>kN)
def Btk:=ct Bzn (Azw K) (kC (Brj K K) kN)
def Avl (K:Nat)(a1:Int):Nat->Int->(List Int)->(List Int)->(List Int)->Option (Int)
 |0,_,_,_,_=>none
 |n1+1,v1,v2,v3,v4=>(bif (decide (v1<(v3.length:Int)))then((Azw K (Ed.mk v2 v3 v4) v1 a1).bind fun r5=>(bif r5 then some v1 else(Avl K a1 n1 (Arj .i64 v1 1) v2 v3 v4)))else some (-1))
def Az9 (K:Nat)(a0:Ed)(a1:Int):Option (Int):=(Avl K a1 K 0 a0.Fi a0.Gt a0.Fj)
def Bzo:=fd Tryz.func375 ⟨[.v 34,.v 3],[.v 3],true⟩ (gC (Btk K) gN)
def B2g:Fs:=⟨[(1,.v 2),(2,.p 102),(5,.v 2)],[(102,.box [.v 24,.v 25,.v 25])]⟩
def Brk:=lp (Bzo K) 26 B2g [] (fun n a=>Avl K a n) (fun n=>kN)
def Btl:=ct (Bzo K) (Az9 K) (kC (Brk K K) kN)
def A2n (K:Nat)(a0:A7):Option (Int):=(bif (decide ((a0.De.length:Int)>0))then some 1 else(bif (decide ((a0.Ad.length:Int)>0))then some 2 else(bif (a0.Bw != 0)then some 3 else some 4)))
def Bzp:=ct (fd Tryz.func270 ⟨[.v 79],[.v 3],true⟩ gN) (A2n K)
def Ax0 (K:Nat)(a0:Bm):Option (Bm):=(if(0:Int)≤0∧0<(a0.fQ.length:Int)then(if(0:Int)≤(Ark .i64 (((gt a0.fQ 0).De).length:Int) 1)∧(Ark .i64 (((gt a0.fQ 0).De).length:Int) 1)<(((gt a0.fQ 0).De).length:Int)then(if(a0.Jc++([(gt ((gt a0.fQ 0).De) (Ark .i64 (((gt a0.fQ 0).De).length:Int) 1))]:List Int)).length*8≤140737488355328∧(a0.Jc++([(gt ((gt a0.fQ 0).De) (Ark .i64 (((gt a0.fQ 0).De).length:Int) 1))]:List Int)).length≤maxLen then(if(0:Int)≤0∧0≤(Ark .i64 (((gt a0.fQ 0).De).length:Int) 1)∧(Ark .i64 (((gt a0.fQ 0).De).length:Int) 1)≤(((gt a0.fQ 0).De).length:Int)then(if(([]:List Int)++((((gt a0.fQ 0).De).drop (0:Int).toNat).take ((Ark .i64 (((gt a0.fQ 0).De).length:Int) 1) - 0).toNat)).length*8≤140737488355328∧(([]:List Int)++((((gt a0.fQ 0).De).drop (0:Int).toNat).take ((Ark .i64 (((gt a0.fQ 0).De).length:Int) 1) - 0).toNat)).length≤maxLen then some (Bm.mk a0.fC a0.fP a0.fL (a0.fQ.set (0:Int).toNat (A7.mk ((gt a0.fQ 0).A9) ((gt a0.fQ 0).Bw) (([]:List Int)++((((gt a0.fQ 0).De).drop (0:Int).toNat).take ((Ark .i64 (((gt a0.fQ 0).De).length:Int) 1) - 0).toNat)) ((gt a0.fQ 0).Ad) ((gt a0.fQ 0).Hp))) (a0.Jc++([(gt ((gt a0.fQ 0).De) (Ark .i64 (((gt a0.fQ 0).De).length:Int) 1))]:List Int)))else none)else none)else none)else none)else none)
def Bzq:=ct (fd Tryz.func271 ⟨[.b 38 false],[],false⟩ gN [] [] [(0,[.take 1 10 5026]),(2,[.take 1 11 5027])]) (Ax0 K)
def Auj (K:Nat)(a0:Ed):Option (Ed):=(if(([]:List Int)++a0.Fi).length*1≤140737488355328∧(([]:List Int)++a0.Fi).length≤maxLen then(if(([]:List Int)++a0.Gt).length*8≤140737488355328∧(([]:List Int)++a0.Gt).length≤maxLen then(if(([]:List Int)++a0.Fj).length*8≤140737488355328∧(([]:List Int)++a0.Fj).length≤maxLen then some (Ed.mk (([]:List Int)++a0.Fi) (([]:List Int)++a0.Gt) (([]:List Int)++a0.Fj))else none)else none)else none)
def Bia:=ct (fd Tryz.func188 ⟨[.v 34],[.n 34 true],true⟩ gN) (Auj K)
def Avc (K:Nat)(a0:List Int):Nat->Int->Option (Bool)
 |0,_=>none
 |n1+1,v1=>(bif (decide (v1<(a0.length:Int)))then(if(0:Int)≤v1∧v1<(a0.length:Int)then(bif ((gt a0 v1) != 0)then some false else(Avc K a0 n1 (Arj .i64 v1 1)))else none)else some true)
def Auk (K:Nat)(a0:List Int):Option (Bool):=(Avc K a0 K 0)
def Bzr:=fd Tryz.func237 ⟨[.v 24],[.v 4],true⟩ gN
def B2h:Fs:=⟨[(0,.v 24),(3,.v 2)],[]⟩
def Brl:=lp Bzr 26 B2h [] (fun n a=>Avc K a n) (fun n=>kN)
def Bib:=ct Bzr (Auk K) (kC (Brl K K) kN)
def A0a (K:Nat)(v3:Int)(v4:List Int)(v5:List Int)(v6:List Int)(C1:Int->(List Int)->(List Int)->(List Int)->Option (Bool)):Option (Bool):=(C1 (Arj .i64 v3 1) v4 v5 v6)
def Avd (K:Nat)(a0:Fc)(v3:Int)(v4:List Int)(v5:List Int)(v6:List Int)(C1:Int->(List Int)->(List Int)->(List Int)->Option (Bool)):Option (Bool):=(if(0:Int)≤v3∧v3<(v5.length:Int)then(bif ((gt v5 v3)==0)then(if(0:Int)≤(Arl .i64 v3 a0.Ds)∧(Arl .i64 v3 a0.Ds)≤(Arl .i64 (Arj .i64 v3 1) a0.Ds)∧(Arl .i64 (Arj .i64 v3 1) a0.Ds)≤(v4.length:Int)then((Auk K ((v4.drop (Arl .i64 v3 a0.Ds).toNat).take ((Arl .i64 (Arj .i64 v3 1) a0.Ds) - (Arl .i64 v3 a0.Ds)).toNat)).bind fun r9=>(bif (!r9)then some false else(A0a K v3 v4 v5 v6 (C1))))else none)else(A0a K v3 v4 v5 v6 (C1)))else none)
def Aoc (K:Nat)(a0:Fc):Nat->Int->(List Int)->(List Int)->(List Int)->Option (Bool)
 |0,_,_,_,_=>none
 |n1+1,v3,v4,v5,v6=>(bif (decide (v3<a0.Ad))then(if(0:Int)≤v3∧v3<(v5.length:Int)then((Bd K (gt v5 v3) 0 2).bind fun r7=>(bif (!r7)then some false else(if(0:Int)≤v3∧v3<(v5.length:Int)then(bif ((gt v5 v3)==1)then(if(0:Int)≤v3∧v3<(v6.length:Int)then((Bd K (gt v6 v3) 0 (Ark .i64 a0.B9 1)).bind fun r8=>(bif r8 then(if(0:Int)≤v3∧v3<(v5.length:Int)then(bif ((gt v5 v3) != 1)then(if(0:Int)≤v3∧v3<(v6.length:Int)then(bif ((gt v6 v3) != (-1))then some false else(Avd K a0 v3 v4 v5 v6 (Aoc K a0 n1)))else none)else(Avd K a0 v3 v4 v5 v6 (Aoc K a0 n1)))else none)else some false))else none)else(if(0:Int)≤v3∧v3<(v5.length:Int)then(bif ((gt v5 v3) != 1)then(if(0:Int)≤v3∧v3<(v6.length:Int)then(bif ((gt v6 v3) != (-1))then some false else(Avd K a0 v3 v4 v5 v6 (Aoc K a0 n1)))else none)else(Avd K a0 v3 v4 v5 v6 (Aoc K a0 n1)))else none))else none)))else none)else some true)
def Azx (K:Nat)(a0:Fc)(a1:Ed):Option (Bool):=((Aql K a0).bind fun r1=>(bif r1 then((Auu K a0).bind fun r2=>(bif ((a1.Fi.length:Int) != r2)then some false else(bif ((a1.Gt.length:Int) != a0.Ad)then some false else(bif ((a1.Fj.length:Int) != a0.Ad)then some false else(Aoc K a0 K 0 a1.Fi a1.Gt a1.Fj)))))else some false))
def Brm:=fd Tryz.func139 ⟨[.v 33,.v 34],[.v 4],true⟩ (gC (A8t K) (gC (Azt K) (gC (Bh7 K) (gC (Bib K) gN)))) [7,8,9,15,16,17,23,24,25,51,52,61,62,63,64,70,71,85,86] [233,1865]
def Bgd:Fs:=⟨[(2,.p 102),(3,.p 103),(5,.v 2)],[(103,.box [.v 24,.v 25,.v 25]),(102,.st 33 true)]⟩
def Bl4:=fun(C58:CT Bgd _)=>jn (Brm K) 233 Bgd [(58,ar Bgd C58)] (fun a b c d e=>A0a K a b c d (fun v3 v4 v5 v6=>C58 v3 v4 v5 v6 e)) kN
def Bjl:=fun(C58:CT Bgd _)=>jn (Brm K) 1865 Bgd [(58,ar Bgd C58)] (fun a b c d e=>Avd K e a b c d (fun v3 v4 v5 v6=>C58 v3 v4 v5 v6 e)) (kC (Bl4 K _) kN)
def Brn:=lp (Brm K) 58 Bgd [] (fun n a b c d e=>Aoc K e n a b c d) (fun n=>(kC (Bjl K _) kN))
def Btm:=ct (Brm K) (Azx K) (kC (Brn K K) kN)
def Aza (K:Nat)(a0:Int)(a1:Int):Option (Int):=(bif (decide (a1<a0))then some a1 else some a0)
def Bzs:=ct (fd Tryz.func364 ⟨[.v 3,.v 3],[.v 3],true⟩ gN) (Aza K)
def Azy (K:Nat)(a0:List Int)(a1:Int)(a2:Int):Nat->(List Int)->Int->Option ((List Int))
 |0,_,_=>none
 |n1+1,v1,v2=>(bif (decide (v2<(a0.length:Int)))then(bif (decide ((Ark .i64 v2 a1)<a2))then(if(0:Int)≤v2∧v2<(v1.length:Int)then(Azy K a0 a1 a2 n1 (v1.set v2.toNat 0) (Arj .i64 v2 1))else none)else some v1)else some v1)
def A4e (K:Nat)(a0:List Int)(a1:Int)(a2:Int):Option ((List Int)):=(if(([]:List Int)++a0).length*1≤140737488355328∧(([]:List Int)++a0).length≤maxLen then(bif (decide (a1<0))then some (([]:List Int)++a0)else(bif (decide (a2<0))then some (([]:List Int)++a0)else(Azy K a0 a1 a2 K (([]:List Int)++a0) a1)))else none)
def Bzt:=fd Tryz.func365 ⟨[.v 24,.v 3,.v 3],[.n 24 true],true⟩ gN [13,14,23,24]
def B2i:Fs:=⟨[(0,.v 24),(1,.v 2),(2,.v 2),(7,.o 1007 5 true),(8,.v 2)],[]⟩
def Bl5:=lp Bzt 122 B2i [] (fun n a b c=>Azy K a b c n) (fun n=>kN)
def Bzu:=ct Bzt (A4e K) (kC (Bl5 K K) kN)
def Ave (K:Nat)(a0:Fc)(a1:Ed)(a2:Int)(a3:Int):Option (Ed×Bool):=((Auj K a1).bind fun r1=>((Azx K a0 a1).bind fun r2=>(bif r2 then((Bd K a2 0 (Ark .i64 a0.Ad 1)).bind fun r3=>(bif r3 then(if(0:Int)≤a2∧a2<(a1.Gt.length:Int)then(bif ((gt a1.Gt a2) != 2)then some (r1,false)else((Bd K a3 0 (Ark .i64 a0.Ds 1)).bind fun r4=>(bif (!r4)then some (r1,false)else((Aza K (Arj .i64 a3 a0.Ca) a0.Ds).bind fun r5=>((A4e K a1.Fi (Arj .i64 (Arl .i64 a2 a0.Ds) a3) (Ark .i64 r5 a3)).bind fun r6=>(bif (decide (r5<a0.Ds))then some ((Ed.mk r6 r1.Gt r1.Fj),false)else(if(0:Int)≤(Arl .i64 a2 a0.Ds)∧(Arl .i64 a2 a0.Ds)≤(Arl .i64 (Arj .i64 a2 1) a0.Ds)∧(Arl .i64 (Arj .i64 a2 1) a0.Ds)≤(r6.length:Int)then((Auk K ((r6.drop (Arl .i64 a2 a0.Ds).toNat).take ((Arl .i64 (Arj .i64 a2 1) a0.Ds) - (Arl .i64 a2 a0.Ds)).toNat)).bind fun r7=>(bif (!r7)then((Auj K a1).bind fun r8=>some (r8,false))else(if(0:Int)≤a2∧a2<(r1.Gt.length:Int)then some ((Ed.mk r6 (r1.Gt.set a2.toNat 0) r1.Fj),true)else none)))else none)))))))else none)else some (r1,false)))else some (r1,false))))
def Bzv:=ct (fd Tryz.func318 ⟨[.v 33,.v 34,.v 3,.v 3],[.n 34 true,.v 4],true⟩ (gC (Btm K) (gC (Azt K) (gC (Bia K) (gC (Bib K) (gC (Bzs K) (gC (Bzu K) gN)))))) [16,17,18,23,24,25,26,32,33,34]) (Ave K)
def Aym (K:Nat)(a0:Bm):Option (Bm):=(if(0:Int)≤0∧0<(a0.fQ.length:Int)then(if(0:Int)≤0∧0<(((gt a0.fQ 0).Ad).length:Int)then((Ave K a0.fC a0.fP (gt ((gt a0.fQ 0).Ad) 0) ((gt a0.fQ 0).Hp)).bind fun r1=>(bif r1.2 then(if(0:Int)≤1∧1≤(((gt a0.fQ 0).Ad).length:Int)∧(((gt a0.fQ 0).Ad).length:Int)≤(((gt a0.fQ 0).Ad).length:Int)then(if(([]:List Int)++((((gt a0.fQ 0).Ad).drop (1:Int).toNat).take ((((gt a0.fQ 0).Ad).length:Int) - 1).toNat)).length*8≤140737488355328∧(([]:List Int)++((((gt a0.fQ 0).Ad).drop (1:Int).toNat).take ((((gt a0.fQ 0).Ad).length:Int) - 1).toNat)).length≤maxLen then some (Bm.mk a0.fC r1.1 a0.fL (a0.fQ.set (0:Int).toNat (A7.mk ((gt a0.fQ 0).A9) ((gt a0.fQ 0).Bw) ((gt a0.fQ 0).De) (([]:List Int)++((((gt a0.fQ 0).Ad).drop (1:Int).toNat).take ((((gt a0.fQ 0).Ad).length:Int) - 1).toNat)) 0)) a0.Jc)else none)else none)else some (Bm.mk a0.fC r1.1 a0.fL (a0.fQ.set (0:Int).toNat (A7.mk ((gt a0.fQ 0).A9) ((gt a0.fQ 0).Bw) ((gt a0.fQ 0).De) ((gt a0.fQ 0).Ad) (Arj .i64 ((gt a0.fQ 0).Hp) a0.fC.Ca))) a0.Jc)))else none)else none)
def Bzw:=ct (fd Tryz.func272 ⟨[.b 38 false],[],false⟩ (gC (Bzv K) gN) [] [] [(0,[.take 1 10 5026]),(1,[.take 1 6 5022,.take 1 7 5023,.take 1 8 5024])]) (Aym K)
def Aqn (K:Nat)(a0:Ax):Option (Ax):=(if(([]:List Int)++a0.Ad).length*8≤140737488355328∧(([]:List Int)++a0.Ad).length≤maxLen then(if(([]:List Bl)++a0.D3).length*24≤140737488355328∧(([]:List Bl)++a0.D3).length≤maxLen then(if(([]:List Int)++a0.De).length*8≤140737488355328∧(([]:List Int)++a0.De).length≤maxLen then some (Ax.mk a0.Gt a0.C5 a0.Mu a0.fUp a0.Gu a0.Bw a0.Gv a0.Gw (([]:List Int)++a0.Ad) a0.M7 a0.Gz (([]:List Bl)++a0.D3) (([]:List Int)++a0.De))else none)else none)else none)
def Bbt:=ct (fd Tryz.func281 ⟨[.v 77],[.n 77 false],true⟩ gN) (Aqn K)
def Awc (K:Nat)(v3:Ed)(v4:Ed):Option (Ed):=some v3
def A3e (K:Nat)(a0:Ed)(a1:Int):Option (Ed):=((Auj K a0).bind fun r1=>((Bd K a1 0 (Ark .i64 (a0.Gt.length:Int) 1)).bind fun r2=>(bif r2 then(bif (decide (a1<(a0.Fj.length:Int)))then(if(0:Int)≤a1∧a1<(a0.Gt.length:Int)then(bif ((gt a0.Gt a1)==1)then(if(0:Int)≤a1∧a1<(r1.Gt.length:Int)then(if(0:Int)≤a1∧a1<(r1.Fj.length:Int)then(Awc K (Ed.mk r1.Fi (r1.Gt.set a1.toNat 2) (r1.Fj.set a1.toNat (-1))) (Ed.mk [] [] []))else none)else none)else(Awc K r1 (Ed.mk [] [] [])))else none)else(Awc K r1 (Ed.mk [] [] [])))else(Awc K r1 (Ed.mk [] [] [])))))
def Bzx:=fd Tryz.func366 ⟨[.v 34,.v 3],[.n 34 true],true⟩ (gC (Azt K) (gC (Bia K) gN)) [13,14,19,20,21] [7] [(5,[.take 105 0 6680,.take 105 1 6681,.take 105 2 6682])]
def B2j:Fs:=⟨[(4,.p 104),(5,.p 105)],[(105,.st 34 true),(104,.st 34 true)]⟩
def Bu9:=jn (Bzx K) 7 B2j [] (Awc K) kN
def Bzy:=ct (Bzx K) (A3e K) (kC (Bu9 K) kN)
def Akg (K:Nat)(a1:List Int):Nat->Int->Int->Int->Int->Int->Int->Int->(List Int)->(List Int)->(List Int)->(List Ax)->(List A7)->(List Int)->Option (Bm)
 |0,_,_,_,_,_,_,_,_,_,_,_,_,_=>none
 |n1+1,v1,v2,v3,v4,v5,v6,v7,v8,v9,v10,v11,v12,v13=>(bif (decide (v1<(a1.length:Int)))then(if(0:Int)≤v1∧v1<(a1.length:Int)then((A3e K (Ed.mk v8 v9 v10) (gt a1 v1)).bind fun r14=>(Akg K a1 n1 (Arj .i64 v1 1) v2 v3 v4 v5 v6 v7 r14.Fi r14.Gt r14.Fj v11 v12 v13))else none)else some (Bm.mk (Fc.mk v2 v3 v4 v5 v6 v7) (Ed.mk v8 v9 v10) v11 v12 v13))
def Aul (K:Nat)(a0:Bm)(a1:List Int):Option (Bm):=(Akg K a1 K 0 a0.fC.Ad a0.fC.Ds a0.fC.B9 a0.fC.Eu a0.fC.Ca a0.fC.Dt a0.fP.Fi a0.fP.Gt a0.fP.Fj a0.fL a0.fQ a0.Jc)
def Bzz:=fd Tryz.func319 ⟨[.b 38 false,.v 25],[],false⟩ (gC (Bzy K) gN) [] [] [(3,[.take 1 6 5022,.take 1 7 5023,.take 1 8 5024])]
def B2k:Fs:=⟨[(0,.p 1),(1,.v 25),(4,.v 2)],[(1,.box [.v 2,.v 2,.v 2,.v 2,.v 2,.v 2,.T 5 true,.T 3 true,.T 3 true,.T 77 true,.T 79 false,.T 3 true])]⟩
def Bva:=lp (Bzz K) 6 B2k [] (fun n a=>Akg K a n) (fun n=>kN)
def Bl6:=ct (Bzz K) (Aul K) (kC (Bva K K) kN)
def A04 (K:Nat)(a0:Ax):Option (Ax):=some (Ax.mk 2 a0.C5 0 0 0 0 0 0 [] 0 0 [] [])
def Btn:=ct (fd Tryz.func320 ⟨[.v 77],[.n 77 false],true⟩ gN) (A04 K)
def Awd (K:Nat)(a0:Ax)(a1:Int):Option (A7):=(if(([]:List Int)++a0.De).length*8≤140737488355328∧(([]:List Int)++a0.De).length≤maxLen then(if(([]:List Int)++a0.Ad).length*8≤140737488355328∧(([]:List Int)++a0.Ad).length≤maxLen then some (A7.mk a1 a0.Bw (([]:List Int)++a0.De) (([]:List Int)++a0.Ad) 0)else none)else none)
def Bl7:=ct (fd Tryz.func279 ⟨[.v 77,.v 3],[.n 79 true],true⟩ gN) (Awd K)
def A0b (K:Nat)(a0:Ax)(a1:Int):Option (A7):=(if(([]:List Int)++a0.De).length*8≤140737488355328∧(([]:List Int)++a0.De).length≤maxLen then(if(([]:List Int)++a0.Ad).length*8≤140737488355328∧(([]:List Int)++a0.Ad).length≤maxLen then some (A7.mk a1 a0.Bw (([]:List Int)++a0.De) (([]:List Int)++a0.Ad) 0)else none)else none)
def Bz0:=ct (fd Tryz.func279 ⟨[.v 77,.v 3],[.v 79],false⟩ gN) (A0b K)
def As7 (K:Nat)(r1:Ax)(v4:Int)(v5:Int)(v6:Int)(v7:Int)(v8:Int)(v9:Int)(v10:Int)(v11:List Int)(v12:List Int)(v13:List Int)(v14:List Ax)(v15:List A7)(v16:List Int):Option (Bm):=((Aul K (Bm.mk (Fc.mk v5 v6 v7 v8 v9 v10) (Ed.mk v11 v12 v13) v14 v15 v16) r1.Ad).bind fun r17=>((A04 K r1).bind fun r18=>(if(0:Int)≤v4∧v4<(r17.fL.length:Int)then((A0b K r1 (Arj .i64 v4 1)).bind fun r19=>(if(([r19]:List A7)++r17.fQ).length*72≤140737488355328∧(([r19]:List A7)++r17.fQ).length≤maxLen then some (Bm.mk r17.fC r17.fP (r17.fL.set v4.toNat r18) (([r19]:List A7)++r17.fQ) r17.Jc)else none))else none)))
def Awe (K:Nat)(a0:Bm):Option (Bm):=(if(0:Int)≤0∧0<(a0.fQ.length:Int)then(if(0:Int)≤(Ark .i64 ((gt a0.fQ 0).Bw) 1)∧(Ark .i64 ((gt a0.fQ 0).Bw) 1)<(a0.fL.length:Int)then(if(0:Int)≤(Ark .i64 ((gt a0.fQ 0).Bw) 1)∧(Ark .i64 ((gt a0.fQ 0).Bw) 1)<(a0.fL.length:Int)then((Aqn K (gt a0.fL (Ark .i64 ((gt a0.fQ 0).Bw) 1))).bind fun r1=>(if(0:Int)≤0∧0<(a0.fQ.length:Int)then((Ab4 K a0.fL r1.Gv).bind fun r2=>(bif r2 then(if(0:Int)≤(Ark .i64 r1.Gv 1)∧(Ark .i64 r1.Gv 1)<(a0.fL.length:Int)then(Aty (a0.fL.set (Ark .i64 r1.Gv 1).toNat (Ax.mk ((gt a0.fL (Ark .i64 r1.Gv 1)).Gt) ((gt a0.fL (Ark .i64 r1.Gv 1)).C5) ((gt a0.fL (Ark .i64 r1.Gv 1)).Mu) ((gt a0.fL (Ark .i64 r1.Gv 1)).fUp) ((gt a0.fL (Ark .i64 r1.Gv 1)).Gu) ((gt a0.fL (Ark .i64 r1.Gv 1)).Bw) ((gt a0.fL (Ark .i64 r1.Gv 1)).Gv) 0 ((gt a0.fL (Ark .i64 r1.Gv 1)).Ad) ((gt a0.fL (Ark .i64 r1.Gv 1)).M7) ((gt a0.fL (Ark .i64 r1.Gv 1)).Gz) ((gt a0.fL (Ark .i64 r1.Gv 1)).D3) ((gt a0.fL (Ark .i64 r1.Gv 1)).De))) fun v3=>(As7 K r1 (Ark .i64 ((gt a0.fQ 0).Bw) 1) a0.fC.Ad a0.fC.Ds a0.fC.B9 a0.fC.Eu a0.fC.Ca a0.fC.Dt a0.fP.Fi a0.fP.Gt a0.fP.Fj v3 (a0.fQ.set (0:Int).toNat (A7.mk ((gt a0.fQ 0).A9) r1.Gv ((gt a0.fQ 0).De) ((gt a0.fQ 0).Ad) ((gt a0.fQ 0).Hp))) a0.Jc))else none)else(As7 K r1 (Ark .i64 ((gt a0.fQ 0).Bw) 1) a0.fC.Ad a0.fC.Ds a0.fC.B9 a0.fC.Eu a0.fC.Ca a0.fC.Dt a0.fP.Fi a0.fP.Gt a0.fP.Fj a0.fL (a0.fQ.set (0:Int).toNat (A7.mk ((gt a0.fQ 0).A9) r1.Gv ((gt a0.fQ 0).De) ((gt a0.fQ 0).Ad) ((gt a0.fQ 0).Hp))) a0.Jc)))else none))else none)else none)else none)
def Bz1:=fo Tryz.func273 ⟨[.b 38 false],[],false⟩ (gC (A8u K) (gC (Bbt K) (gC (Bl6 K) (gC (Btn K) gN)))) (oC (d:=60) (gC (Bz0 K) gN) oN) [] [15] [(0,[.take 1 10 5026]),(1,[.take 1 9 5025,.opn 5025 (.tmp 2),.takeE 5025 11 41611,.takeE 5025 12 41612]),(3,[.put 5025]),(5,[.take 103 8 6656,.frz 6656]),(6,[.take 1 9 5025,.take 103 11 6659,.take 103 12 6660]),(7,[.take 1 10 5026,.frz 6659,.frz 6660])]
def B2l:Fs:=⟨[(0,.p 1),(2,.v 2),(3,.p 103)],[(1,.box [.v 2,.v 2,.v 2,.v 2,.v 2,.v 2,.T 5 true,.T 3 true,.T 3 true,.T 77 true,.T 79 false,.T 3 true]),(103,.st 77 false)]⟩
def Bro:=jn (Bz1 K) 15 B2l [] (fun a b c d e f g h i j k l m o=>As7 K o a b c d e f g h i j k l m) kN
def Bz2:=ct (Bz1 K) (Awe K) (kC (Bro K) kN)
def Auv (K:Nat)(a0:List Ax):Nat->(List Ax)->Int->Option ((List Ax))
 |0,_,_=>none
 |n1+1,v1,v2=>(bif (decide (v2<(a0.length:Int)))then(if(0:Int)≤v2∧v2<(a0.length:Int)then((Aqn K (gt a0 v2)).bind fun r3=>(if(v1++[r3]).length*152≤140737488355328∧(v1++[r3]).length≤maxLen then(Auv K a0 n1 (v1++[r3]) (Arj .i64 v2 1))else none))else none)else some v1)
def Aw9 (K:Nat)(a0:List Ax):Option ((List Ax)):=(Auv K a0 K ([]:List Ax) 0)
def Bz3:=fd Tryz.func189 ⟨[.v 35],[.n 35 true],false⟩ (gC (Bbt K) gN) (post:=[(20,[.put 3020])])
def B2m:Fs:=⟨[(0,.v 35),(3,.o 1003 77 true),(4,.v 2)],[]⟩
def Brp:=lp (Bz3 K) 58 B2m [] (fun n a=>Auv K a n) (fun n=>kN)
def Bic:=ct (Bz3 K) (Aw9 K) (kC (Brp K K) kN)
def A1i (K:Nat)(v3:List Ax):Option ((List Ax)):=some v3
def A3f (K:Nat)(a0:List Ax)(a1:Int)(a2:Int):Option ((List Ax)):=((Aw9 K a0).bind fun r1=>((Bd K a1 0 (Ark .i64 (a0.length:Int) 1)).bind fun r2=>(bif (!r2)then some r1 else(if(0:Int)≤a1∧a1<(a0.length:Int)then(bif (decide (((gt a0 a1).C5)≥a2))then(if(0:Int)≤a1∧a1<(r1.length:Int)then(if(0:Int)≤a1∧a1<(a0.length:Int)then(if(0:Int)≤a1∧a1<(r1.length:Int)then(A1i K (r1.set a1.toNat (Ax.mk 3 ((gt a0 a1).C5) 0 0 0 0 0 0 [] 0 0 [] [])))else none)else none)else none)else(if(0:Int)≤a1∧a1<(a0.length:Int)then((Amo K (Arj .i64 ((gt a0 a1).C5) 1)).bind fun r4=>(if(0:Int)≤a1∧a1<(r1.length:Int)then(A1i K (r1.set a1.toNat r4))else none))else none))else none))))
def Bz4:=fd Tryz.func274 ⟨[.v 35,.v 3,.v 3],[.n 35 true],false⟩ (gC (Azt K) (gC (Bic K) (gC (Bd4 K) gN))) [] [15] [(5,[.opn 1007 (.tmp 1)])]
def Bz5:Fs:=⟨[(7,.o 1007 77 true)],[]⟩
def Brq:=jn (Bz4 K) 15 Bz5 [] (A1i K) kN
def Bz6:=ct (Bz4 K) (A3f K) (kC (Brq K) kN)
def As8 (K:Nat)(v6:Int)(v7:Int)(v8:Int)(v9:Int)(v10:Int)(v11:Int)(v12:List Int)(v13:List Int)(v14:List Int)(v15:List Ax)(v16:List A7)(v17:List Int):Option (Bm):=(if(0:Int)≤1∧1≤(v16.length:Int)∧(v16.length:Int)≤(v16.length:Int)then(if(([]:List A7)++((v16.drop (1:Int).toNat).take ((v16.length:Int) - 1).toNat)).length*72≤140737488355328∧(([]:List A7)++((v16.drop (1:Int).toNat).take ((v16.length:Int) - 1).toNat)).length≤maxLen then some (Bm.mk (Fc.mk v6 v7 v8 v9 v10 v11) (Ed.mk v12 v13 v14) v15 (([]:List A7)++((v16.drop (1:Int).toNat).take ((v16.length:Int) - 1).toNat)) v17)else none)else none)
def Atk (K:Nat)(a0:Bm):Option (Bm):=(if(0:Int)≤0∧0<(a0.fQ.length:Int)then((A2n K (gt a0.fQ 0)).bind fun r1=>(bif (r1==1)then((Ax0 K a0).bind fun r2=>some r2)else(bif (r1==2)then((Aym K a0).bind fun r3=>some r3)else(bif (r1==3)then((Awe K a0).bind fun r4=>some r4)else(if(0:Int)≤0∧0<(a0.fQ.length:Int)then(bif (((gt a0.fQ 0).A9) != 0)then(if(0:Int)≤0∧0<(a0.fQ.length:Int)then((A3f K a0.fL (Ark .i64 ((gt a0.fQ 0).A9) 1) a0.fC.Dt).bind fun r5=>(As8 K a0.fC.Ad a0.fC.Ds a0.fC.B9 a0.fC.Eu a0.fC.Ca a0.fC.Dt a0.fP.Fi a0.fP.Gt a0.fP.Fj r5 a0.fQ a0.Jc))else none)else(As8 K a0.fC.Ad a0.fC.Ds a0.fC.B9 a0.fC.Eu a0.fC.Ca a0.fC.Dt a0.fP.Fi a0.fP.Gt a0.fP.Fj a0.fL a0.fQ a0.Jc))else none)))))else none)
def Bz7:=fd Tryz.func172 ⟨[.b 38 false],[],false⟩ (gC (Bzp K) (gC (Bzq K) (gC (Bzw K) (gC (Bz2 K) (gC (Bz6 K) gN))))) [] [447] [(0,[.take 1 10 5026]),(2,[.take 1 9 5025,.frz 5025]),(3,[.take 1 10 5026]),(5,[.put 1]),(7,[.put 1]),(9,[.put 1])] [(39,[.shal 3039])]
def B2n:Fs:=⟨[(0,.p 1)],[(1,.box [.v 2,.v 2,.v 2,.v 2,.v 2,.v 2,.T 5 true,.T 3 true,.T 3 true,.T 77 true,.T 79 false,.T 3 true])]⟩
def Bl8:=jn (Bz7 K) 447 B2n [] (As8 K) kN
def Bl9:=ct (Bz7 K) (Atk K) (kC (Bl8 K) kN)
def Axk (K:Nat)(v1:Int)(v2:Int)(v3:Int)(v4:Int)(v5:Int)(v6:Int)(v7:Int)(v8:List Int)(v9:List Int)(v10:List Int)(v11:List Ax)(v12:List A7)(v13:List Int)(C1:Int->Int->Int->Int->Int->Int->Int->(List Int)->(List Int)->(List Int)->(List Ax)->(List A7)->(List Int)->Option (Int×Bm)):Option (Int×Bm):=((Atk K (Bm.mk (Fc.mk v2 v3 v4 v5 v6 v7) (Ed.mk v8 v9 v10) v11 v12 v13)).bind fun r15=>(C1 (Arj .i64 v1 1) r15.fC.Ad r15.fC.Ds r15.fC.B9 r15.fC.Eu r15.fC.Ca r15.fC.Dt r15.fP.Fi r15.fP.Gt r15.fP.Fj r15.fL r15.fQ r15.Jc))
def At0 (K:Nat)(a1:Int)(a2:Int):Nat->Int->Int->Int->Int->Int->Int->Int->(List Int)->(List Int)->(List Int)->(List Ax)->(List A7)->(List Int)->Option (Int×Bm)
 |0,_,_,_,_,_,_,_,_,_,_,_,_,_=>none
 |n1+1,v1,v2,v3,v4,v5,v6,v7,v8,v9,v10,v11,v12,v13=>(bif (decide ((v12.length:Int)>0))then((Atr K v11 0).bind fun r14=>(bif (decide (r14<a1))then(Axk K v1 v2 v3 v4 v5 v6 v7 v8 v9 v10 v11 v12 v13 (At0 K a1 a2 n1))else(bif (decide (a2>0))then((Az9 K (Ed.mk v8 v9 v10) a2).bind fun r16=>(bif (decide (r16<0))then(Axk K v1 v2 v3 v4 v5 v6 v7 v8 v9 v10 v11 v12 v13 (At0 K a1 a2 n1))else some (v1,(Bm.mk (Fc.mk v2 v3 v4 v5 v6 v7) (Ed.mk v8 v9 v10) v11 v12 v13))))else some (v1,(Bm.mk (Fc.mk v2 v3 v4 v5 v6 v7) (Ed.mk v8 v9 v10) v11 v12 v13)))))else some (v1,(Bm.mk (Fc.mk v2 v3 v4 v5 v6 v7) (Ed.mk v8 v9 v10) v11 v12 v13)))
def Azz (K:Nat)(a0:Bm)(a1:Int)(a2:Int):Option (Int×Bm):=(At0 K a1 a2 K 0 a0.fC.Ad a0.fC.Ds a0.fC.B9 a0.fC.Eu a0.fC.Ca a0.fC.Dt a0.fP.Fi a0.fP.Gt a0.fP.Fj a0.fL a0.fQ a0.Jc)
def Bvb:=fd Tryz.func345 ⟨[.b 38 false,.v 3,.v 3],[.v 3],false⟩ (gC (Bl9 K) (gC (Btj K) (gC (Btl K) gN))) [13,14,21,22,24,25] [56] [(2,[.take 1 10 5026,.take 1 9 5025,.take 1 6 5022,.take 1 7 5023,.take 1 8 5024])]
def Brr:Fs:=⟨[(0,.p 1),(1,.v 2),(2,.v 2),(7,.v 2)],[(1,.box [.v 2,.v 2,.v 2,.v 2,.v 2,.v 2,.T 5 true,.T 3 true,.T 3 true,.T 77 true,.T 79 false,.T 3 true])]⟩
def Brs:=fun(C28:CT Brr _)=>jn (Bvb K) 56 Brr [(28,ar Brr C28)] (fun a b c d e f g h i j k l m o p=>Axk K c d e f g h i j k l m o p (C28 a b)) kN
def Brt:=lp (Bvb K) 28 Brr [] (fun n a b=>At0 K a b n) (fun n=>(kC (Brs K _) kN))
def Bma:=ct (Bvb K) (Azz K) (kC (Brt K K) kN)
def Auw (K:Nat)(a0:List Ax):Nat->Int->Option (Int)
 |0,_=>none
 |n1+1,v1=>(bif (decide (v1<(a0.length:Int)))then(if(0:Int)≤v1∧v1<(a0.length:Int)then(bif (((gt a0 v1).Gt)==0)then some v1 else(Auw K a0 n1 (Arj .i64 v1 1)))else none)else some (-1))
def A2i (K:Nat)(a0:List Ax):Option (Int):=(Auw K a0 K 0)
def Bz8:=fd Tryz.func346 ⟨[.v 35],[.v 3],true⟩ gN
def Bmb:Fs:=⟨[(0,.v 35),(3,.v 2)],[]⟩
def Bru:=lp Bz8 26 Bmb [] (fun n a=>Auw K a n) (fun n=>kN)
def Bz9:=ct Bz8 (A2i K) (kC (Bru K K) kN)
def Aux (K:Nat):Nat->Int->(List Int)->(List Int)->(List Int)->Option (Int)
 |0,_,_,_,_=>none
 |n1+1,v1,v2,v3,v4=>(bif (decide (v1<(v3.length:Int)))then(if(0:Int)≤v1∧v1<(v3.length:Int)then(bif ((gt v3 v1)==0)then some v1 else(Aux K n1 (Arj .i64 v1 1) v2 v3 v4))else none)else some (-1))
def Azb (K:Nat)(a0:Ed):Option (Int):=(Aux K K 0 a0.Fi a0.Gt a0.Fj)
def B0a:=fd Tryz.func347 ⟨[.v 34],[.v 3],true⟩ gN
def B2o:Fs:=⟨[(1,.p 101),(3,.v 2)],[(101,.box [.v 24,.v 25,.v 25])]⟩
def Brv:=lp B0a 26 B2o [] (Aux K) (fun n=>kN)
def Bto:=ct B0a (Azb K) (kC (Brv K K) kN)
def Awf (K:Nat)(a1:Int)(a2:Int)(a3:Int):Nat->Int->Ed->Ed->Option (Ed)
 |0,_,_,_=>none
 |n1+1,v3,v4,v5=>(bif (decide (v3<(Arj .i64 a1 a2)))then(if(0:Int)≤v3∧v3<(v4.Gt.length:Int)then(if(0:Int)≤v3∧v3<(v4.Fj.length:Int)then(Awf K a1 a2 a3 n1 (Arj .i64 v3 1) (Ed.mk v4.Fi (v4.Gt.set v3.toNat 1) (v4.Fj.set v3.toNat a3)) v5)else none)else none)else some v4)
def Auy (K:Nat)(a0:Ed)(a1:Int)(a2:Int)(a3:Int):Option (Ed):=((Auj K a0).bind fun r1=>((Azw K a0 a1 a2).bind fun r2=>(bif r2 then(bif ((a0.Fj.length:Int) != (a0.Gt.length:Int))then some r1 else(Awf K a1 a2 a3 K a1 r1 (Ed.mk [] [] [])))else some r1)))
def B0b:=fd Tryz.func348 ⟨[.v 34,.v 3,.v 3,.v 3],[.n 34 true],true⟩ (gC (Bia K) (gC (Btk K) gN)) [16,17,18] [] [(7,[.take 109 1 6745]),(8,[.take 109 2 6746]),(9,[.take 109 0 6744,.take 109 1 6745,.take 109 2 6746])]
def B2p:Fs:=⟨[(1,.v 2),(2,.v 2),(3,.v 2),(8,.p 108),(9,.p 109),(10,.v 2)],[(109,.st 34 true),(108,.st 34 true)]⟩
def Bmc:=lp (B0b K) 122 B2p [] (fun n a b c=>Awf K a b c n) (fun n=>kN)
def Bmd:=ct (B0b K) (Auy K) (kC (Bmc K K) kN)
def A4f (K:Nat)(a0:Ax):Option (Bool):=(bif (a0.Mu==0)then(bif (a0.fUp==0)then(bif (a0.Gu==0)then(bif (a0.Bw==0)then(bif (a0.Gv==0)then(bif (a0.Gw==0)then(bif ((a0.Ad.length:Int)==0)then(bif (a0.M7==0)then(bif (a0.Gz==0)then(bif ((a0.D3.length:Int)==0)then some ((a0.De.length:Int)==0)else some false)else some false)else some false)else some false)else some false)else some false)else some false)else some false)else some false)else some false)
def B0c:=ct (fd Tryz.func239 ⟨[.v 77],[.v 4],true⟩ gN [5,6,9,10,11,14,15,16,19,20,21,24,25,26,29,30,31,35,36,37,40,41,42,45,46,47,51,52,53]) (A4f K)
def Ayn (K:Nat)(a0:List Int)(a1:Int):Nat->Int->Option (Bool)
 |0,_=>none
 |n1+1,v1=>(bif (decide (v1<(a0.length:Int)))then(if(0:Int)≤v1∧v1<(a0.length:Int)then(bif ((gt a0 v1)==a1)then some true else(Ayn K a0 a1 n1 (Arj .i64 v1 1)))else none)else some false)
def Atg (K:Nat)(a0:List Int)(a1:Int):Option (Bool):=(Ayn K a0 a1 K 0)
def B0d:=fd Tryz.func242 ⟨[.v 25,.v 3],[.v 4],true⟩ gN
def B2q:Fs:=⟨[(0,.v 25),(1,.v 2),(5,.v 2)],[]⟩
def Brw:=lp B0d 26 B2q [] (fun n a b=>Ayn K a b n) (fun n=>kN)
def Bd7:=ct B0d (Atg K) (kC (Brw K K) kN)
def Ard (K:Nat)(a0:Fc):Nat->Int->Int->Int->Int->Int->Int->Int->Int->Int->(List Int)->Int->Int->(List Bl)->(List Int)->Option (Bool)
 |0,_,_,_,_,_,_,_,_,_,_,_,_,_,_=>none
 |n1+1,v1,v2,v3,v4,v5,v6,v7,v8,v9,v10,v11,v12,v13,v14=>(bif (decide (v1<(v10.length:Int)))then(if(0:Int)≤v1∧v1<(v10.length:Int)then((Bd K (gt v10 v1) 0 (Ark .i64 a0.Ad 1)).bind fun r15=>(bif r15 then(if(0:Int)≤0∧0≤v1∧v1≤(v10.length:Int)then(if(0:Int)≤v1∧v1<(v10.length:Int)then((Atg K ((v10.drop (0:Int).toNat).take (v1 - 0).toNat) (gt v10 v1)).bind fun r16=>(bif r16 then some false else(Ard K a0 n1 (Arj .i64 v1 1) v2 v3 v4 v5 v6 v7 v8 v9 v10 v11 v12 v13 v14)))else none)else none)else some false))else none)else(bif (v11==0)then some (v12==0)else((Atg K v10 (Ark .i64 v11 1)).bind fun r17=>(bif r17 then((Bd K v12 0 a0.Ds).bind fun r18=>some r18)else some false))))
def A0c (K:Nat)(a0:Fc)(a1:Ax):Option (Bool):=(Ard K a0 K 0 a1.Gt a1.C5 a1.Mu a1.fUp a1.Gu a1.Bw a1.Gv a1.Gw a1.Ad a1.M7 a1.Gz a1.D3 a1.De)
def B0e:=fd Tryz.func240 ⟨[.v 33,.v 77],[.v 4],true⟩ (gC (Azt K) (gC (Bd7 K) gN)) [21,22,23,46,47]
def Bme:Fs:=⟨[(2,.p 102),(3,.p 103),(5,.v 2)],[(103,.box [.v 2,.v 2,.v 2,.v 2,.v 2,.v 2,.v 2,.v 2,.v 25,.v 2,.v 2,.v 75,.v 25]),(102,.st 33 true)]⟩
def Brx:=lp (B0e K) 26 Bme [] (fun n a b c d e f g h i j k l m o p=>Ard K p n a b c d e f g h i j k l m o) (fun n=>kN)
def B0f:=ct (B0e K) (A0c K) (kC (Brx K K) kN)
def Arf (K:Nat)(a0:Fc)(a1:Int):Option (Bool):=some (decide (a1>a0.Ds))
def Bmf:=ct (fd Tryz.func302 ⟨[.v 33,.v 3],[.v 4],true⟩ gN) (Arf K)
def A1j (K:Nat)(a0:Int)(a1:Int):Option (Int):=((Bd K a0 0 1000000000).bind fun r1=>(bif r1 then((Bd K a1 1 1000000000).bind fun r2=>(bif (!r2)then some 0 else(if a1≠(0:Int)then some (Aow .i64 (Ark .i64 (Arj .i64 a0 a1) 1) a1)else none)))else some 0))
def B0g:=ct (fd Tryz.func322 ⟨[.v 3,.v 3],[.v 3],true⟩ (gC (Azt K) gN) [6,7,8]) (A1j K)
def Aof (K:Nat)(a0:Fc)(a1:Int):Option (Int):=((A1j K a1 a0.Ds).bind fun r1=>some r1)
def Bmg:=ct (fd Tryz.func303 ⟨[.v 33,.v 3],[.v 3],true⟩ (gC (B0g K) gN)) (Aof K)
def Awg (K:Nat)(a0:Fc)(a1:Bl):Option (Bool):=((Auu K a0).bind fun r1=>(bif (r1==0)then some false else(bif (decide (a1.Xu<1))then some false else(bif (decide (a1.fAt<0))then some false else(bif (decide (a1.fAt>r1))then some false else(bif (decide (a1.Xu>(Ark .i64 r1 a1.fAt)))then some false else(bif (a1.Xv==0)then(bif (decide (a1.Xu≤a0.Ds))then(if a0.Ds≠(0:Int)then(if a0.Ds≠(0:Int)then some ((Aow .i64 a1.fAt a0.Ds)==(Aow .i64 (Ark .i64 (Arj .i64 a1.fAt a1.Xu) 1) a0.Ds))else none)else none)else some false)else((Arf K a0 a1.Xu).bind fun r2=>(bif r2 then((Aof K a0 a1.Xu).bind fun r3=>(bif (a1.Xv==r3)then(if a0.Ds≠(0:Int)then some ((Int.tmod a1.fAt a0.Ds)==0)else none)else some false))else some false)))))))))
def Btp:=ct (fd Tryz.func241 ⟨[.v 33,.v 183],[.v 4],true⟩ (gC (Bh7 K) (gC (Bmf K) (gC (Bmg K) gN))) [9,10,13,14,15,18,19,20,24,25,26,42,43,63,64,71,72,73]) (Awg K)
def At1 (K:Nat)(v23:List Int):Nat->Int->Option (Bool)
 |0,_=>none
 |n2+1,v25=>(bif (decide (v25<(v23.length:Int)))then(if(0:Int)≤v25∧v25<(v23.length:Int)then((Bd K (gt v23 v25) 0 255).bind fun r26=>(bif (!r26)then some false else(At1 K v23 n2 (Arj .i64 v25 1))))else none)else some true)
def Asx (K:Nat)(a0:Fc):Nat->Int->Int->Int->Int->Int->Int->Int->Int->Int->(List Int)->Int->Int->(List Bl)->(List Int)->Option (Bool)
 |0,_,_,_,_,_,_,_,_,_,_,_,_,_,_=>none
 |n1+1,v10,v11,v12,v13,v14,v15,v16,v17,v18,v19,v20,v21,v22,v23=>(bif (decide (v10<(v22.length:Int)))then(if(0:Int)≤v10∧v10<(v22.length:Int)then((Awg K a0 (gt v22 v10)).bind fun r24=>(bif (!r24)then some false else(Asx K a0 n1 (Arj .i64 v10 1) v11 v12 v13 v14 v15 v16 v17 v18 v19 v20 v21 v22 v23)))else none)else(At1 K v23 K 0))
def Ath (K:Nat)(a0:Fc)(a1:Ax):Option (Bool):=((Aql K a0).bind fun r1=>(bif r1 then((Bd K a1.Gt 0 3).bind fun r2=>(bif r2 then((Bd K a1.C5 1 a0.Dt).bind fun r3=>(bif (!r3)then some false else(bif (a1.Gt != 1)then((A4f K a1).bind fun r4=>some r4)else(bif (decide (a1.Mu<0))then some false else(bif (decide (a1.Gu<0))then some false else((Bd K a1.fUp 0 a0.B9).bind fun r5=>(bif r5 then((Bd K a1.Bw 0 a0.B9).bind fun r6=>(bif r6 then((Bd K a1.Gv 0 a0.B9).bind fun r7=>(bif r7 then((Bd K a1.Gw 0 a0.B9).bind fun r8=>(bif r8 then((A0c K a0 a1).bind fun r9=>(bif r9 then(bif (decide ((a1.D3.length:Int)>12))then some false else(bif (decide ((a1.De.length:Int)>6))then some false else(Asx K a0 K 0 a1.Gt a1.C5 a1.Mu a1.fUp a1.Gu a1.Bw a1.Gv a1.Gw a1.Ad a1.M7 a1.Gz a1.D3 a1.De)))else some false))else some false))else some false))else some false))else some false)))))))else some false))else some false))
def Bvc:=fd Tryz.func141 ⟨[.v 33,.v 77],[.v 4],true⟩ (gC (A8t K) (gC (Azt K) (gC (B0c K) (gC (B0f K) (gC (Btp K) gN))))) [8,9,10,13,14,15,16,31,32,35,36,37,42,43,44,45,50,51,52,53,58,59,60,61,66,67,68,69,72,73,74,75,79,80,81]
def B2r:Fs:=⟨[(3,.p 103),(6,.v 2)],[(103,.box [.v 2,.v 2,.v 2,.v 2,.v 2,.v 2,.v 2,.v 2,.v 25,.v 2,.v 2,.v 75,.v 25])]⟩
def Bmh:=lp (Bvc K) 506 B2r [] (fun n a _ _ _ _ _ _ _ _ _ _ _ _ o=>At1 K o n a) (fun n=>kN)
def Bmi:=lp (Bvc K) 250 Bme [] (fun n a b c d e f g h i j k l m o p=>Asx K p n a b c d e f g h i j k l m o) (fun n=>(kC (up (Bmh K K)) kN))
def Bbu:=ct (Bvc K) (Ath K) (kC (Bmi K K) kN)
def Ax1 (K:Nat)(a0:Fc)(a1:Ax)(a2:Int):Option (Ax×Bool):=((Aqn K a1).bind fun r1=>(bif (a1.Gt != 1)then some (r1,false)else((Bd K a2 0 (Ark .i64 a0.Ad 1)).bind fun r2=>(bif (!r2)then some (r1,false)else(if(r1.Ad++([a2]:List Int)).length*8≤140737488355328∧(r1.Ad++([a2]:List Int)).length≤maxLen then((Ath K a0 (Ax.mk r1.Gt r1.C5 r1.Mu r1.fUp r1.Gu r1.Bw r1.Gv r1.Gw (r1.Ad++([a2]:List Int)) (Arj .i64 a2 1) 0 r1.D3 r1.De)).bind fun r3=>(bif (!r3)then((Aqn K a1).bind fun r4=>some (r4,false))else some ((Ax.mk r1.Gt r1.C5 r1.Mu r1.fUp r1.Gu r1.Bw r1.Gv r1.Gw (r1.Ad++([a2]:List Int)) (Arj .i64 a2 1) 0 r1.D3 r1.De),true)))else none)))))
def Bmj:=ct (fd Tryz.func349 ⟨[.v 33,.v 77,.v 3],[.n 77 false,.v 4],true⟩ (gC (Bbu K) (gC (Azt K) (gC (Bbt K) gN))) [13,14]) (Ax1 K)
def A2o (K:Nat)(v11:List Ax):Option ((List Ax)):=some v11
def A05 (K:Nat)(a0:List Ax)(a1:Int)(a2:Int):Option ((List Ax)):=((Aw9 K a0).bind fun r1=>((Ab4 K a0 (Arj .i64 a1 1)).bind fun r2=>(bif r2 then((Ab4 K a0 (Arj .i64 a2 1)).bind fun r3=>(bif r3 then(bif (a1==a2)then some r1 else(if(0:Int)≤a1∧a1<(a0.length:Int)then(if(0:Int)≤a2∧a2<(r1.length:Int)then(Aty (r1.set a2.toNat (Ax.mk ((gt r1 a2).Gt) ((gt r1 a2).C5) ((gt r1 a2).Mu) (Arj .i64 a1 1) ((gt r1 a2).Gu) ((gt r1 a2).Bw) ((gt r1 a2).Gv) ((gt r1 a2).Gw) ((gt r1 a2).Ad) ((gt r1 a2).M7) ((gt r1 a2).Gz) ((gt r1 a2).D3) ((gt r1 a2).De))) fun v4=>(if(0:Int)≤a1∧a1<(a0.length:Int)then(if(0:Int)≤a2∧a2<(v4.length:Int)then(Aty (v4.set a2.toNat (Ax.mk ((gt v4 a2).Gt) ((gt v4 a2).C5) ((gt v4 a2).Mu) ((gt v4 a2).fUp) ((gt a0 a1).Mu) ((gt v4 a2).Bw) ((gt v4 a2).Gv) ((gt v4 a2).Gw) ((gt v4 a2).Ad) ((gt v4 a2).M7) ((gt v4 a2).Gz) ((gt v4 a2).D3) ((gt v4 a2).De))) fun v5=>(if(0:Int)≤a2∧a2<(v5.length:Int)then(Aty (v5.set a2.toNat (Ax.mk ((gt v5 a2).Gt) ((gt v5 a2).C5) ((gt v5 a2).Mu) ((gt v5 a2).fUp) ((gt v5 a2).Gu) ((gt v5 a2).Bw) ((gt a0 a1).Bw) ((gt v5 a2).Gw) ((gt v5 a2).Ad) ((gt v5 a2).M7) ((gt v5 a2).Gz) ((gt v5 a2).D3) ((gt v5 a2).De))) fun v6=>(if(0:Int)≤a2∧a2<(v6.length:Int)then(Aty (v6.set a2.toNat (Ax.mk ((gt v6 a2).Gt) ((gt v6 a2).C5) ((gt v6 a2).Mu) ((gt v6 a2).fUp) ((gt v6 a2).Gu) ((gt v6 a2).Bw) ((gt v6 a2).Gv) 0 ((gt v6 a2).Ad) ((gt v6 a2).M7) ((gt v6 a2).Gz) ((gt v6 a2).D3) ((gt v6 a2).De))) fun v7=>(if(0:Int)≤a1∧a1<(v7.length:Int)then(Aty (v7.set a1.toNat (Ax.mk ((gt v7 a1).Gt) ((gt v7 a1).C5) ((gt v7 a1).Mu) ((gt v7 a1).fUp) ((gt v7 a1).Gu) (Arj .i64 a2 1) ((gt v7 a1).Gv) ((gt v7 a1).Gw) ((gt v7 a1).Ad) ((gt v7 a1).M7) ((gt v7 a1).Gz) ((gt v7 a1).D3) ((gt v7 a1).De))) fun v8=>((Ab4 K a0 ((gt a0 a1).Bw)).bind fun r9=>(bif r9 then(if(0:Int)≤(Ark .i64 ((gt a0 a1).Bw) 1)∧(Ark .i64 ((gt a0 a1).Bw) 1)<(v8.length:Int)then(Aty (v8.set (Ark .i64 ((gt a0 a1).Bw) 1).toNat (Ax.mk ((gt v8 (Ark .i64 ((gt a0 a1).Bw) 1)).Gt) ((gt v8 (Ark .i64 ((gt a0 a1).Bw) 1)).C5) ((gt v8 (Ark .i64 ((gt a0 a1).Bw) 1)).Mu) ((gt v8 (Ark .i64 ((gt a0 a1).Bw) 1)).fUp) ((gt v8 (Ark .i64 ((gt a0 a1).Bw) 1)).Gu) ((gt v8 (Ark .i64 ((gt a0 a1).Bw) 1)).Bw) ((gt v8 (Ark .i64 ((gt a0 a1).Bw) 1)).Gv) (Arj .i64 a2 1) ((gt v8 (Ark .i64 ((gt a0 a1).Bw) 1)).Ad) ((gt v8 (Ark .i64 ((gt a0 a1).Bw) 1)).M7) ((gt v8 (Ark .i64 ((gt a0 a1).Bw) 1)).Gz) ((gt v8 (Ark .i64 ((gt a0 a1).Bw) 1)).D3) ((gt v8 (Ark .i64 ((gt a0 a1).Bw) 1)).De))) fun v10=>(A2o K v10))else none)else(A2o K v8))))else none))else none))else none))else none)else none))else none)else none))else some r1))else some r1)))
def B0h:=fd Tryz.func350 ⟨[.v 35,.v 3,.v 3],[.n 35 true],false⟩ (gC (Bic K) (gC (A8u K) gN)) [14,15,16,20,21,22,23] [1023]
def Bjm:=jn (B0h K) 1023 Bz5 [] (A2o K) kN
def B0i:=ct (B0h K) (A05 K) (kC (Bjm K) kN)
def Awh (K:Nat)(a1:Int):Nat->Int->Int->Int->Int->Int->Int->Int->(List Int)->(List Int)->(List Int)->(List Ax)->(List A7)->(List Int)->Option (Int×Bm)
 |0,_,_,_,_,_,_,_,_,_,_,_,_,_=>none
 |n1+1,v1,v2,v3,v4,v5,v6,v7,v8,v9,v10,v11,v12,v13=>(bif (decide (v1<a1))then(bif ((v12.length:Int)==0)then some (v1,(Bm.mk (Fc.mk v2 v3 v4 v5 v6 v7) (Ed.mk v8 v9 v10) v11 v12 v13))else((Atk K (Bm.mk (Fc.mk v2 v3 v4 v5 v6 v7) (Ed.mk v8 v9 v10) v11 v12 v13)).bind fun r14=>(Awh K a1 n1 (Arj .i64 v1 1) r14.fC.Ad r14.fC.Ds r14.fC.B9 r14.fC.Eu r14.fC.Ca r14.fC.Dt r14.fP.Fi r14.fP.Gt r14.fP.Fj r14.fL r14.fQ r14.Jc)))else some (a1,(Bm.mk (Fc.mk v2 v3 v4 v5 v6 v7) (Ed.mk v8 v9 v10) v11 v12 v13)))
def Ayo (K:Nat)(a0:Bm)(a1:Int):Option (Int×Bm):=(Awh K a1 K 0 a0.fC.Ad a0.fC.Ds a0.fC.B9 a0.fC.Eu a0.fC.Ca a0.fC.Dt a0.fP.Fi a0.fP.Gt a0.fP.Fj a0.fL a0.fQ a0.Jc)
def B0j:=fd Tryz.func86 ⟨[.b 38 false,.v 3],[.v 3],false⟩ (gC (Bl9 K) gN) [] [] [(4,[.take 1 10 5026]),(6,[.put 1])]
def B2s:Fs:=⟨[(0,.p 1),(1,.v 2),(5,.v 2)],[(1,.box [.v 2,.v 2,.v 2,.v 2,.v 2,.v 2,.T 5 true,.T 3 true,.T 3 true,.T 77 true,.T 79 false,.T 3 true])]⟩
def Bry:=lp (B0j K) 26 B2s [] (fun n a=>Awh K a n) (fun n=>kN)
def Bmk:=ct (B0j K) (Ayo K) (kC (Bry K K) kN)
def Awi (K:Nat)(r19:Int)(v25:Int)(v26:Int)(v27:Int)(v28:Int)(v29:Int)(v30:Int)(v31:List Int)(v32:List Int)(v33:List Int)(v34:List Ax)(v35:List A7)(v36:List Int)(v37:Fz):Option (Fz×Bm):=((Axi K v34 r19).bind fun r38=>((Ayo K (Bm.mk (Fc.mk v25 v26 v27 v28 v29 v30) (Ed.mk v31 v32 v33) v34 v35 v36) v28).bind fun r39=>some ((Fz.mk v37.Zb r38 v37.fR v37.fB v37.Zc r39.1 v37.Rd),r39.2)))
def Aqx (K:Nat)(v3:Int)(v4:Int)(v5:Int)(v6:Int)(v7:Int)(v8:Int)(v9:Int)(v10:List Int)(v11:List Int)(v12:List Int)(v13:List Ax)(v14:List A7)(v15:List Int)(v16:Fz)(v17:Fz):Option (Fz×Bm):=(bif (v16.Zb != 0)then some (v16,(Bm.mk (Fc.mk v4 v5 v6 v7 v8 v9) (Ed.mk v10 v11 v12) v13 v14 v15))else((Azz K (Bm.mk (Fc.mk v4 v5 v6 v7 v8 v9) (Ed.mk v10 v11 v12) v13 v14 v15) 1 1).bind fun r18=>((A2i K r18.2.fL).bind fun r19=>((Azb K r18.2.fP).bind fun r20=>(bif (decide (r19<0))then some ((Fz.mk 5 (Ce.mk 0 0) (E5.mk (Ce.mk 0 0) 0 0) [] 0 0 0),r18.2)else(bif (decide (r20<0))then some ((Fz.mk 5 (Ce.mk 0 0) (E5.mk (Ce.mk 0 0) 0 0) [] 0 0 0),r18.2)else(if(0:Int)≤r19∧r19<(r18.2.fL.length:Int)then((Amo K ((gt r18.2.fL r19).C5)).bind fun r21=>((Auy K r18.2.fP r20 1 r19).bind fun r22=>((Ax1 K r18.2.fC (Ax.mk 1 r21.C5 r21.Mu r21.fUp r21.Gu r21.Bw r21.Gv r21.Gw r21.Ad r21.M7 r21.Gz r21.D3 r21.De) r20).bind fun r23=>(if(0:Int)≤r19∧r19<(r18.2.fL.length:Int)then(bif (decide (v3≥0))then((A05 K (r18.2.fL.set r19.toNat r23.1) v3 r19).bind fun r24=>(Awi K r19 r18.2.fC.Ad r18.2.fC.Ds r18.2.fC.B9 r18.2.fC.Eu r18.2.fC.Ca r18.2.fC.Dt r22.Fi r22.Gt r22.Fj r24 r18.2.fQ r18.2.Jc (Fz.mk v16.Zb v16.fH v16.fR v16.fB v16.Zc v16.Eu r18.1)))else(Awi K r19 r18.2.fC.Ad r18.2.fC.Ds r18.2.fC.B9 r18.2.fC.Eu r18.2.fC.Ca r18.2.fC.Dt r22.Fi r22.Gt r22.Fj (r18.2.fL.set r19.toNat r23.1) r18.2.fQ r18.2.Jc (Fz.mk v16.Zb v16.fH v16.fR v16.fB v16.Zc v16.Eu r18.1)))else none))))else none)))))))
def Awj (K:Nat)(v41:Int)(v42:Bool)(v43:Int)(v44:Int)(v45:Int)(v46:Int)(v47:Int)(v48:Int)(v49:List Int)(v50:List Int)(v51:List Int)(v52:List Ax)(v53:List A7)(v54:List Int)(v55:Fz)(v56:Fz):Option (Fz×Bm):=(bif v42 then(Aqx K v41 v43 v44 v45 v46 v47 v48 v49 v50 v51 v52 v53 v54 (Fz.mk 3 v55.fH v55.fR v55.fB v55.Zc v55.Eu v55.Rd) v56)else((A28 K (Bm.mk (Fc.mk v43 v44 v45 v46 v47 v48) (Ed.mk v49 v50 v51) v52 v53 v54)).bind fun r57=>(bif (r57==0)then(Aqx K v41 v43 v44 v45 v46 v47 v48 v49 v50 v51 v52 v53 v54 (Fz.mk 4 v55.fH v55.fR v55.fB v55.Zc v55.Eu v55.Rd) v56)else((Aqq K (Bm.mk (Fc.mk v43 v44 v45 v46 v47 v48) (Ed.mk v49 v50 v51) v52 v53 v54) 1).bind fun r58=>(bif (!r58)then(Aqx K v41 v43 v44 v45 v46 v47 v48 v49 v50 v51 v52 v53 v54 (Fz.mk 5 v55.fH v55.fR v55.fB v55.Zc v55.Eu v55.Rd) v56)else(Aqx K v41 v43 v44 v45 v46 v47 v48 v49 v50 v51 v52 v53 v54 v55 v56))))))
def A1k (K:Nat)(a0:Bm)(a1:Ce):Option (Fz×Bm):=((A3d K a0 a1).bind fun r1=>((Arb K a0 a1).bind fun r2=>(bif (r1.2 != 0)then(Aqx K r1.1 a0.fC.Ad a0.fC.Ds a0.fC.B9 a0.fC.Eu a0.fC.Ca a0.fC.Dt a0.fP.Fi a0.fP.Gt a0.fP.Fj a0.fL a0.fQ a0.Jc (Fz.mk r1.2 (Ce.mk 0 0) (E5.mk (Ce.mk 0 0) 0 0) [] r2 0 0) (Fz.mk 0 (Ce.mk 0 0) (E5.mk (Ce.mk 0 0) 0 0) [] 0 0 0))else(bif (decide (r1.1≥0))then((Azv K a0.fL r1.1).bind fun r40=>(Awj K r1.1 (decide (r40≥4)) a0.fC.Ad a0.fC.Ds a0.fC.B9 a0.fC.Eu a0.fC.Ca a0.fC.Dt a0.fP.Fi a0.fP.Gt a0.fP.Fj a0.fL a0.fQ a0.Jc (Fz.mk r1.2 (Ce.mk 0 0) (E5.mk (Ce.mk 0 0) 0 0) [] r2 0 0) (Fz.mk 0 (Ce.mk 0 0) (E5.mk (Ce.mk 0 0) 0 0) [] 0 0 0)))else(Awj K r1.1 false a0.fC.Ad a0.fC.Ds a0.fC.B9 a0.fC.Eu a0.fC.Ca a0.fC.Dt a0.fP.Fi a0.fP.Gt a0.fP.Fj a0.fL a0.fQ a0.Jc (Fz.mk r1.2 (Ce.mk 0 0) (E5.mk (Ce.mk 0 0) 0 0) [] r2 0 0) (Fz.mk 0 (Ce.mk 0 0) (E5.mk (Ce.mk 0 0) 0 0) [] 0 0 0))))))
def Brz:=fd Tryz.func305 ⟨[.b 38 false,.v 40],[.n 44 true],false⟩ (gC (Bh9 K) (gC (Bmk K) (gC (Btc K) (gC (Bd4 K) (gC (A9v K) (gC (Bzk K) (gC (Btg K) (gC (Bzl K) (gC (Bma K) (gC (Bz9 K) (gC (Bto K) (gC (Bmd K) (gC (Bmj K) (gC (B0i K) gN)))))))))))))) [31,32,74,75] [15,243,32767] [(1,[.take 1 6 5022,.take 1 7 5023,.take 1 8 5024,.take 1 9 5025,.take 1 10 5026,.take 1 11 5027]),(6,[.take 1 6 5022,.take 1 7 5023,.take 1 8 5024,.take 1 9 5025,.take 1 10 5026,.take 1 11 5027]),(11,[.take 107 7 6719]),(13,[.take 1 9 5025]),(14,[.take 1 6 5022,.take 1 7 5023,.take 1 8 5024]),(23,[.put 5025,.frz 5025]),(24,[.take 1 9 5025]),(25,[.put 1]),(26,[.take 107 7 6719])]
def B2t:Fs:=⟨[(0,.p 1),(4,.p 104),(7,.p 107),(8,.v 2)],[(1,.box [.v 2,.v 2,.v 2,.v 2,.v 2,.v 2,.T 5 true,.T 3 true,.T 3 true,.T 77 true,.T 79 false,.T 3 true]),(107,.st 44 true),(104,.st 44 true)]⟩
def B2u:Fs:=⟨[(0,.p 1),(4,.p 104),(5,.v 2),(7,.p 107)],[(1,.box [.v 2,.v 2,.v 2,.v 2,.v 2,.v 2,.T 5 true,.T 3 true,.T 3 true,.T 77 true,.T 79 false,.T 3 true]),(107,.st 44 true),(104,.st 44 true)]⟩
def B2v:Fs:=⟨[(0,.p 1),(4,.p 104),(5,.v 2),(7,.p 107),(29,.v 4)],[(1,.box [.v 2,.v 2,.v 2,.v 2,.v 2,.v 2,.T 5 true,.T 3 true,.T 3 true,.T 77 true,.T 79 false,.T 3 true]),(107,.st 44 true),(104,.st 44 true)]⟩
def Bge:=jn (Brz K) 32767 B2t [] (fun a b c d e f g h i j k l m o _=>Awi K a b c d e f g h i j k l m o) kN
def Bid:=jn (Brz K) 15 B2u [] (Aqx K) (kC (Bge K) kN)
def Bml:=jn (Brz K) 243 B2v [] (Awj K) (kC (Bid K) kN)
def B0k:=ct (Brz K) (A1k K) (kC (Bid K) (kC (Bml K) kN))
def Auz (K:Nat)(a0:Int):Option (Bool):=(bif (a0==1)then some true else(bif (a0==2)then some true else some (a0==4)))
def Bie:=ct (fd Tryz.func351 ⟨[.v 3],[.v 4],true⟩ gN [4,5,7,8,9]) (Auz K)
def Ao8 (K:Nat)(a0:Fc)(a2:Int)(a3:Int)(r6:Int):Nat->Int->Ax->Ax->Int->Int->Int->Int->Int->Int->Int->Int->(List Int)->Int->Int->(List Bl)->(List Int)->Option (Ax×Bool)
 |0,_,_,_,_,_,_,_,_,_,_,_,_,_,_,_,_=>none
 |n1+1,v7,v8,v9,v10,v11,v12,v13,v14,v15,v16,v17,v18,v19,v20,v21,v22=>(bif (decide (v7<r6))then(if(v8.Ad++([(Arj .i64 a2 v7)]:List Int)).length*8≤140737488355328∧(v8.Ad++([(Arj .i64 a2 v7)]:List Int)).length≤maxLen then(Ao8 K a0 a2 a3 r6 n1 (Arj .i64 v7 1) (Ax.mk v8.Gt v8.C5 v8.Mu v8.fUp v8.Gu v8.Bw v8.Gv v8.Gw (v8.Ad++([(Arj .i64 a2 v7)]:List Int)) v8.M7 v8.Gz v8.D3 v8.De) v9 v10 v11 v12 v13 v14 v15 v16 v17 v18 v19 v20 v21 v22)else none)else(if(v8.D3++([(Bl.mk (Arl .i64 a2 a0.Ds) a3 r6)]:List Bl)).length*24≤140737488355328∧(v8.D3++([(Bl.mk (Arl .i64 a2 a0.Ds) a3 r6)]:List Bl)).length≤maxLen then((Ath K a0 (Ax.mk v8.Gt v8.C5 v8.Mu v8.fUp v8.Gu v8.Bw v8.Gv v8.Gw v8.Ad v8.M7 v8.Gz (v8.D3++([(Bl.mk (Arl .i64 a2 a0.Ds) a3 r6)]:List Bl)) v8.De)).bind fun r23=>(bif (!r23)then((Aqn K (Ax.mk v10 v11 v12 v13 v14 v15 v16 v17 v18 v19 v20 v21 v22)).bind fun r24=>some (r24,false))else some ((Ax.mk v8.Gt v8.C5 v8.Mu v8.fUp v8.Gu v8.Bw v8.Gv v8.Gw v8.Ad v8.M7 v8.Gz (v8.D3++([(Bl.mk (Arl .i64 a2 a0.Ds) a3 r6)]:List Bl)) v8.De),true)))else none))
def At3 (K:Nat)(a0:Fc)(a1:Ax)(a2:Int)(a3:Int):Option (Ax×Bool):=((Aqn K a1).bind fun r1=>((Aql K a0).bind fun r2=>(bif r2 then(bif (a1.Gt != 1)then some (r1,false)else((Arf K a0 a3).bind fun r3=>(bif r3 then((Auu K a0).bind fun r4=>(bif (decide (a3>r4))then some (r1,false)else((Bd K a2 0 (Ark .i64 a0.Ad 1)).bind fun r5=>(bif (!r5)then some (r1,false)else((Aof K a0 a3).bind fun r6=>(Ao8 K a0 a2 a3 r6 K 0 r1 (Ax.mk 0 0 0 0 0 0 0 0 [] 0 0 [] []) a1.Gt a1.C5 a1.Mu a1.fUp a1.Gu a1.Bw a1.Gv a1.Gw a1.Ad a1.M7 a1.Gz a1.D3 a1.De))))))else some (r1,false))))else some (r1,false))))
def B0l:=fd Tryz.func374 ⟨[.v 33,.v 77,.v 3,.v 3],[.n 77 false,.v 4],true⟩ (gC (A8t K) (gC (Bbu K) (gC (Azt K) (gC (Bh7 K) (gC (Bbt K) (gC (Bmf K) (gC (Bmg K) gN))))))) [16,17,18,21,22,23,26,27,28,29,33,34,35] [] [(8,[.take 110 8 6768]),(9,[.take 110 11 6771]),(10,[.take 110 8 6768,.take 110 12 6772])]
def B2w:Fs:=⟨[(2,.v 2),(3,.v 2),(4,.p 104),(5,.p 105),(8,.p 108),(10,.p 110),(11,.v 2),(12,.v 2)],[(110,.st 77 false),(108,.st 77 false),(105,.box [.v 2,.v 2,.v 2,.v 2,.v 2,.v 2,.v 2,.v 2,.v 25,.v 2,.v 2,.v 75,.v 25]),(104,.st 33 true)]⟩
def Bmm:=lp (B0l K) 250 B2w [] (fun n a b c d e f g h i j k l m o p q r s t u=>Ao8 K u a b c n d e f g h i j k l m o p q r s t) (fun n=>kN)
def Btq:=ct (B0l K) (At3 K) (kC (Bmm K K) kN)
def A0d (K:Nat)(a0:Bm)(a1:Int)(a2:Int)(a3:Fz):Option (Fz×Bm):=((Aof K a0.fC a2).bind fun r1=>((Aqq K a0 r1).bind fun r2=>(bif (!r2)then some ((Fz.mk 5 a3.fH a3.fR a3.fB a3.Zc a3.Eu a3.Rd),a0)else((Azz K a0 0 r1).bind fun r3=>((Az9 K r3.2.fP r1).bind fun r4=>(bif (decide (r4<0))then some ((Fz.mk 6 a3.fH a3.fR a3.fB a3.Zc a3.Eu r3.1),r3.2)else((Auy K r3.2.fP r4 r1 a1).bind fun r5=>(if(0:Int)≤a1∧a1<(r3.2.fL.length:Int)then(if(0:Int)≤a1∧a1<(r3.2.fL.length:Int)then((At3 K r3.2.fC (gt r3.2.fL a1) r4 a2).bind fun r6=>(if(0:Int)≤a1∧a1<(r3.2.fL.length:Int)then some ((Fz.mk a3.Zb a3.fH a3.fR a3.fB a3.Zc a3.Eu r3.1),(Bm.mk r3.2.fC r5 (r3.2.fL.set a1.toNat r6.1) r3.2.fQ r3.2.Jc))else none))else none)else none))))))))
def B0m:=ct (fd Tryz.func352 ⟨[.b 38 false,.v 3,.v 3,.v 44],[.v 44],false⟩ (gC (Bh9 K) (gC (Bmg K) (gC (Bma K) (gC (Bmd K) (gC (Btq K) (gC (Btl K) gN)))))) [] [] [(2,[.take 1 6 5022,.take 1 7 5023,.take 1 8 5024,.take 1 9 5025,.take 1 10 5026,.take 1 11 5027]),(5,[.put 1]),(6,[.take 1 6 5022,.take 1 7 5023,.take 1 8 5024]),(11,[.take 1 9 5025,.opn 5025 (.tmp 1),.takeE 5025 11 41611,.takeE 5025 12 41612])]) (A0d K)
def A1l (K:Nat)(a0:Int)(a1:Int):Option (Int):=((Bd K a0 0 1000000000).bind fun r1=>(bif r1 then((Auz K a1).bind fun r2=>(bif (!r2)then some 0 else(if a1≠(0:Int)then some (Arl .i64 (Aow .i64 (Ark .i64 (Arj .i64 a0 a1) 1) a1) a1)else none)))else some 0))
def B0n:=ct (fd Tryz.func390 ⟨[.v 3,.v 3],[.v 3],true⟩ (gC (Azt K) (gC (Bie K) gN)) [6,7,8]) (A1l K)
def Az0 (K:Nat)(a0:Fc)(a1:Ax)(a2:Int)(a3:Int):Option (Int×Bool):=((Ath K a0 a1).bind fun r1=>(bif r1 then(bif (a1.M7==0)then some (0,false)else((Bd K a2 1 a0.Ds).bind fun r2=>(bif r2 then((Auz K a3).bind fun r3=>(bif (!r3)then some (0,false)else((A1l K a1.Gz a3).bind fun r4=>(bif (decide ((Arj .i64 r4 a2)>a0.Ds))then some (0,false)else some ((Arj .i64 (Arl .i64 (Ark .i64 a1.M7 1) a0.Ds) r4),true)))))else some (0,false))))else some (0,false)))
def Btr:=ct (fd Tryz.func384 ⟨[.v 33,.v 77,.v 3,.v 3],[.v 3,.v 4],true⟩ (gC (Bbu K) (gC (Azt K) (gC (Bie K) (gC (B0n K) gN)))) [13,14,15,18,19,20,24,25,26,27]) (Az0 K)
def Ax9 (K:Nat)(a0:Fc)(a1:Ax)(a2:Int)(a3:Int):Option (Bool):=((Az0 K a0 a1 a2 a3).bind fun r1=>(bif r1.2 then some false else((Ath K a0 a1).bind fun r2=>(bif r2 then(bif (a1.Gt==1)then((Bd K a2 1 a0.Ds).bind fun r3=>(bif r3 then((Auz K a3).bind fun r4=>some r4)else some false))else some false)else some false))))
def B0o:=ct (fd Tryz.func377 ⟨[.v 33,.v 77,.v 3,.v 3],[.v 4],true⟩ (gC (Bbu K) (gC (Azt K) (gC (Bie K) (gC (Btr K) gN)))) [19,20,21,24,25,26,29,30,31,35,36,37]) (Ax9 K)
def Axl (K:Nat)(a0:Fc)(a1:Ax)(a2:Int)(a3:Int):Option (Ax×Bool):=((Aqn K a1).bind fun r1=>((Az0 K a0 a1 a2 a3).bind fun r2=>(bif r2.2 then(bif (decide ((a1.D3.length:Int)≥12))then some (r1,false)else(if(r1.D3++([(Bl.mk r2.1 a2 0)]:List Bl)).length*24≤140737488355328∧(r1.D3++([(Bl.mk r2.1 a2 0)]:List Bl)).length≤maxLen then some ((Ax.mk r1.Gt r1.C5 r1.Mu r1.fUp r1.Gu r1.Bw r1.Gv r1.Gw r1.Ad r1.M7 (Arj .i64 (Ark .i64 r2.1 (Arl .i64 (Ark .i64 a1.M7 1) a0.Ds)) a2) (r1.D3++([(Bl.mk r2.1 a2 0)]:List Bl)) r1.De),true)else none))else some (r1,false))))
def Bts:=ct (fd Tryz.func373 ⟨[.v 33,.v 77,.v 3,.v 3],[.n 77 false,.v 4],true⟩ (gC (Bbt K) (gC (Btr K) gN)) [23,24,25]) (Axl K)
def Avm (K:Nat)(a1:Int)(a2:Int)(a3:Int)(v7:Int)(v8:Int)(v9:Int)(v10:Int)(v11:Int)(v12:Int)(v13:List Int)(v14:List Int)(v15:List Int)(v16:List Ax)(v17:List A7)(v18:List Int)(v19:Fz)(v20:Int)(v21:Int)(v22:Int)(v23:Int)(v24:Int)(v25:Int)(v26:Int)(v27:List Int)(v28:Int)(v29:Int)(v30:Int):Option (Fz×Bm):=(if(0:Int)≤a1∧a1<(v16.length:Int)then(if(0:Int)≤a1∧a1<(v16.length:Int)then((Axl K (Fc.mk v7 v8 v9 v10 v11 v12) (gt v16 a1) a2 a3).bind fun r31=>(if(0:Int)≤a1∧a1<(v16.length:Int)then some ((Fz.mk v20 (Ce.mk v21 v22) (E5.mk (Ce.mk v23 v24) v25 v26) v27 v28 v29 v30),(Bm.mk (Fc.mk v7 v8 v9 v10 v11 v12) (Ed.mk v13 v14 v15) (v16.set a1.toNat r31.1) v17 v18))else none))else none)else none)
def A0e (K:Nat)(a0:Bm)(a1:Int)(a2:Int)(a3:Int)(a4:Fz):Option (Fz×Bm):=(if(0:Int)≤a1∧a1<(a0.fL.length:Int)then(if(0:Int)≤a1∧a1<(a0.fL.length:Int)then((Ax9 K a0.fC (gt a0.fL a1) a2 a3).bind fun r1=>(bif r1 then((Aqq K a0 1).bind fun r2=>(bif (!r2)then some ((Fz.mk 5 a4.fH a4.fR a4.fB a4.Zc a4.Eu a4.Rd),a0)else((Azz K a0 0 1).bind fun r3=>((Azb K r3.2.fP).bind fun r4=>(bif (decide (r4<0))then some ((Fz.mk 5 a4.fH a4.fR a4.fB a4.Zc a4.Eu r3.1),r3.2)else((Auy K r3.2.fP r4 1 a1).bind fun r5=>(if(0:Int)≤a1∧a1<(r3.2.fL.length:Int)then(if(0:Int)≤a1∧a1<(r3.2.fL.length:Int)then((Ax1 K r3.2.fC (gt r3.2.fL a1) r4).bind fun r6=>(if(0:Int)≤a1∧a1<(r3.2.fL.length:Int)then(Avm K a1 a2 a3 r3.2.fC.Ad r3.2.fC.Ds r3.2.fC.B9 r3.2.fC.Eu r3.2.fC.Ca r3.2.fC.Dt r5.Fi r5.Gt r5.Fj (r3.2.fL.set a1.toNat r6.1) r3.2.fQ r3.2.Jc (Fz.mk 0 (Ce.mk 0 0) (E5.mk (Ce.mk 0 0) 0 0) [] 0 0 0) a4.Zb a4.fH.A9 a4.fH.C5 a4.fR.fH.A9 a4.fR.fH.C5 a4.fR.Mu a4.fR.fNo a4.fB a4.Zc a4.Eu r3.1)else none))else none)else none)))))))else(Avm K a1 a2 a3 a0.fC.Ad a0.fC.Ds a0.fC.B9 a0.fC.Eu a0.fC.Ca a0.fC.Dt a0.fP.Fi a0.fP.Gt a0.fP.Fj a0.fL a0.fQ a0.Jc (Fz.mk 0 (Ce.mk 0 0) (E5.mk (Ce.mk 0 0) 0 0) [] 0 0 0) a4.Zb a4.fH.A9 a4.fH.C5 a4.fR.fH.A9 a4.fR.fH.C5 a4.fR.Mu a4.fR.fNo a4.fB a4.Zc a4.Eu a4.Rd)))else none)else none)
def B0p:=fd Tryz.func353 ⟨[.b 38 false,.v 3,.v 3,.v 3,.v 44],[.v 44],false⟩ (gC (Bh9 K) (gC (Bma K) (gC (Bto K) (gC (Bmd K) (gC (Bmj K) (gC (Bts K) (gC (B0o K) gN))))))) [] [3] [(1,[.take 1 9 5025,.opn 5025 (.tmp 1),.takeE 5025 11 41611,.takeE 5025 12 41612]),(2,[.take 1 6 5022,.take 1 7 5023,.take 1 8 5024,.take 1 10 5026,.take 1 11 5027,.put 5025]),(5,[.put 1]),(6,[.take 1 6 5022,.take 1 7 5023,.take 1 8 5024]),(11,[.take 1 9 5025,.opn 5025 (.tmp 1),.takeE 5025 11 41611,.takeE 5025 12 41612]),(13,[.take 1 9 5025,.opn 5025 (.tmp 1),.takeE 5025 11 41611,.takeE 5025 12 41612])]
def B2x:Fs:=⟨[(0,.p 1),(1,.v 2),(2,.v 2),(3,.v 2),(9,.p 109),(10,.p 110)],[(1,.box [.v 2,.v 2,.v 2,.v 2,.v 2,.v 2,.T 5 true,.T 3 true,.T 3 true,.T 77 true,.T 79 false,.T 3 true]),(110,.st 44 true),(109,.box [.v 2,.v 2,.v 2,.v 2,.v 2,.v 2,.v 2,.v 24,.v 2,.v 2,.v 2])]⟩
def Bvd:=jn (B0p K) 3 B2x [] (Avm K) kN
def B0q:=ct (B0p K) (A0e K) (kC (Bvd K) kN)
def Avn (K:Nat)(a1:Ce)(v5:Int)(v22:Int)(v23:Int)(v24:Int)(v25:Int)(v26:Int)(v27:Int)(v28:List Int)(v29:List Int)(v30:List Int)(v31:List Ax)(v32:List A7)(v33:List Int)(v34:Int)(v35:Int)(v36:Int)(v37:Int)(v38:Int)(v39:Int)(v40:Int)(v41:List Int)(v42:Int)(v43:Int)(v44:Int):Option (Fz×Bm):=(bif (v34 != 0)then some ((Fz.mk v34 (Ce.mk v35 v36) (E5.mk (Ce.mk v37 v38) v39 v40) v41 v42 v43 v44),(Bm.mk (Fc.mk v22 v23 v24 v25 v26 v27) (Ed.mk v28 v29 v30) v31 v32 v33))else(if(0:Int)≤v5∧v5<(v31.length:Int)then(if(0:Int)≤v5∧v5<(v31.length:Int)then(if(0:Int)≤v5∧v5<(v31.length:Int)then((Ayo K (Bm.mk (Fc.mk v22 v23 v24 v25 v26 v27) (Ed.mk v28 v29 v30) v31 v32 v33) v25).bind fun r45=>some ((Fz.mk v34 (Ce.mk v35 v36) (E5.mk a1 ((gt v31 v5).Mu) (Ark .i64 (((gt v31 v5).D3).length:Int) 1)) v41 v42 r45.1 v44),r45.2))else none)else none)else none))
def Ats (K:Nat)(a1:Ce)(a2:Int)(a3:Int)(v5:Int)(v6:Int)(v7:Int)(v8:Int)(v9:Int)(v10:Int)(v11:Int)(v12:List Int)(v13:List Int)(v14:List Int)(v15:List Ax)(v16:List A7)(v17:List Int)(v18:Fz)(v19:Fz):Option (Fz×Bm):=(bif (v18.Zb != 0)then some (v18,(Bm.mk (Fc.mk v6 v7 v8 v9 v10 v11) (Ed.mk v12 v13 v14) v15 v16 v17))else((Arf K (Fc.mk v6 v7 v8 v9 v10 v11) a2).bind fun r20=>(bif r20 then((A0d K (Bm.mk (Fc.mk v6 v7 v8 v9 v10 v11) (Ed.mk v12 v13 v14) v15 v16 v17) v5 a2 v18).bind fun r21=>(Avn K a1 v5 r21.2.fC.Ad r21.2.fC.Ds r21.2.fC.B9 r21.2.fC.Eu r21.2.fC.Ca r21.2.fC.Dt r21.2.fP.Fi r21.2.fP.Gt r21.2.fP.Fj r21.2.fL r21.2.fQ r21.2.Jc r21.1.Zb r21.1.fH.A9 r21.1.fH.C5 r21.1.fR.fH.A9 r21.1.fR.fH.C5 r21.1.fR.Mu r21.1.fR.fNo r21.1.fB r21.1.Zc r21.1.Eu r21.1.Rd))else((A0e K (Bm.mk (Fc.mk v6 v7 v8 v9 v10 v11) (Ed.mk v12 v13 v14) v15 v16 v17) v5 a2 a3 v18).bind fun r46=>(Avn K a1 v5 r46.2.fC.Ad r46.2.fC.Ds r46.2.fC.B9 r46.2.fC.Eu r46.2.fC.Ca r46.2.fC.Dt r46.2.fP.Fi r46.2.fP.Gt r46.2.fP.Fj r46.2.fL r46.2.fQ r46.2.Jc r46.1.Zb r46.1.fH.A9 r46.1.fH.C5 r46.1.fR.fH.A9 r46.1.fR.fH.C5 r46.1.fR.Mu r46.1.fR.fNo r46.1.fB r46.1.Zc r46.1.Eu r46.1.Rd)))))
def A0f (K:Nat)(a0:Bm)(a1:Ce)(a2:Int)(a3:Int):Option (Fz×Bm):=((Bd K a2 1 200).bind fun r1=>(bif r1 then((Auz K a3).bind fun r2=>(bif (!r2)then some ((Fz.mk 1 (Ce.mk 0 0) (E5.mk (Ce.mk 0 0) 0 0) [] 0 0 0),a0)else((Aqp K a0 a1).bind fun r3=>((Arb K a0 a1).bind fun r4=>(bif (r3.2==0)then(if(0:Int)≤r3.1∧r3.1<(a0.fL.length:Int)then(if(0:Int)≤r3.1∧r3.1<(a0.fL.length:Int)then(bif (decide ((((gt a0.fL r3.1).D3).length:Int)≥12))then(Ats K a1 a2 a3 r3.1 a0.fC.Ad a0.fC.Ds a0.fC.B9 a0.fC.Eu a0.fC.Ca a0.fC.Dt a0.fP.Fi a0.fP.Gt a0.fP.Fj a0.fL a0.fQ a0.Jc (Fz.mk 8 (Ce.mk 0 0) (E5.mk (Ce.mk 0 0) 0 0) [] r4 0 0) (Fz.mk 0 (Ce.mk 0 0) (E5.mk (Ce.mk 0 0) 0 0) [] 0 0 0))else(Ats K a1 a2 a3 r3.1 a0.fC.Ad a0.fC.Ds a0.fC.B9 a0.fC.Eu a0.fC.Ca a0.fC.Dt a0.fP.Fi a0.fP.Gt a0.fP.Fj a0.fL a0.fQ a0.Jc (Fz.mk r3.2 (Ce.mk 0 0) (E5.mk (Ce.mk 0 0) 0 0) [] r4 0 0) (Fz.mk 0 (Ce.mk 0 0) (E5.mk (Ce.mk 0 0) 0 0) [] 0 0 0)))else none)else none)else(Ats K a1 a2 a3 r3.1 a0.fC.Ad a0.fC.Ds a0.fC.B9 a0.fC.Eu a0.fC.Ca a0.fC.Dt a0.fP.Fi a0.fP.Gt a0.fP.Fj a0.fL a0.fQ a0.Jc (Fz.mk r3.2 (Ce.mk 0 0) (E5.mk (Ce.mk 0 0) 0 0) [] r4 0 0) (Fz.mk 0 (Ce.mk 0 0) (E5.mk (Ce.mk 0 0) 0 0) [] 0 0 0)))))))else some ((Fz.mk 1 (Ce.mk 0 0) (E5.mk (Ce.mk 0 0) 0 0) [] 0 0 0),a0)))
def Bve:=fd Tryz.func306 ⟨[.b 38 false,.v 40,.v 3,.v 3],[.v 44],false⟩ (gC (Bmk K) (gC (Azt K) (gC (Bmf K) (gC (Bbs K) (gC (A9v K) (gC (Bie K) (gC (B0m K) (gC (B0q K) gN)))))))) [13,14,15,37,38] [31,127] [(3,[.take 1 6 5022,.take 1 7 5023,.take 1 8 5024,.take 1 9 5025,.take 1 10 5026,.take 1 11 5027]),(8,[.take 111 7 6783]),(10,[.take 111 7 6783,.frz 6783]),(11,[.take 111 7 6783,.frz 6783]),(14,[.take 1 9 5025,.opn 5025 (.tmp 9),.takeE 5025 11 41611]),(15,[.put 1])] [(43,[.opn 5025 (.tmp 43)]),(45,[.takeE 5025 11 41611])]
def B2y:Fs:=⟨[(0,.p 1),(5,.p 105),(8,.p 108),(9,.v 2),(11,.p 111)],[(1,.box [.v 2,.v 2,.v 2,.v 2,.v 2,.v 2,.T 5 true,.T 3 true,.T 3 true,.T 77 true,.T 79 false,.T 3 true]),(111,.box [.v 2,.v 2,.v 2,.v 2,.v 2,.v 2,.v 2,.v 24,.v 2,.v 2,.v 2]),(108,.st 44 true),(105,.st 40 true)]⟩
def B2z:Fs:=⟨[(0,.p 1),(2,.v 2),(3,.v 2),(5,.p 105),(8,.p 108),(9,.v 2),(11,.p 111)],[(1,.box [.v 2,.v 2,.v 2,.v 2,.v 2,.v 2,.T 5 true,.T 3 true,.T 3 true,.T 77 true,.T 79 false,.T 3 true]),(111,.st 44 true),(108,.st 44 true),(105,.st 40 true)]⟩
def Bmn:=jn (Bve K) 127 B2y [] (fun a b c d e f g h i j k l m o p q r s t u v w x y _ a1=>Avn K a1 a b c d e f g h i j k l m o p q r s t u v w x y) kN
def Br0:=jn (Bve K) 31 B2z [] (fun a b c d e f g h i j k l m o p q r s=>Ats K s a b c d e f g h i j k l m o p q r) (kC (Bmn K) kN)
def B0r:=ct (Bve K) (A0f K) (kC (Br0 K) kN)
def A1m (K:Nat)(a0:Ax):Option (Ax):=((Aqn K a0).bind fun r1=>some (Ax.mk r1.Gt r1.C5 (Arj .i64 a0.Mu 1) r1.fUp r1.Gu 0 r1.Gv r1.Gw ([]:List Int) 0 0 ([]:List Bl) ([]:List Int)))
def B0s:=ct (fd Tryz.func356 ⟨[.v 77],[.n 77 false],true⟩ (gC (Bbt K) gN)) (A1m K)
def Aya (K:Nat)(a0:Bm)(a1:Int):Option (Bm):=(if(0:Int)≤a1∧a1<(a0.fL.length:Int)then(if(0:Int)≤a1∧a1<(a0.fL.length:Int)then((Awd K (gt a0.fL a1) 0).bind fun r1=>(if(0:Int)≤a1∧a1<(a0.fL.length:Int)then((Aul K a0 ((gt a0.fL a1).Ad)).bind fun r2=>(if(0:Int)≤a1∧a1<(r2.fL.length:Int)then(if(0:Int)≤a1∧a1<(r2.fL.length:Int)then((A1m K (gt r2.fL a1)).bind fun r3=>(if(0:Int)≤a1∧a1<(r2.fL.length:Int)then(if(r2.fQ++([r1]:List A7)).length*72≤140737488355328∧(r2.fQ++([r1]:List A7)).length≤maxLen then some (Bm.mk r2.fC r2.fP (r2.fL.set a1.toNat r3) (r2.fQ++([r1]:List A7)) r2.Jc)else none)else none))else none)else none))else none))else none)else none)
def B0t:=ct (fd Tryz.func309 ⟨[.b 38 false,.v 3],[],false⟩ (gC (Bl7 K) (gC (Bl6 K) (gC (B0s K) gN))) [] [] [(0,[.take 1 9 5025,.opn 5025 (.tmp 1),.takeE 5025 11 41611,.takeE 5025 12 41612]),(1,[.put 1,.take 1 9 5025]),(2,[.take 1 9 5025,.opn 5025 (.tmp 1),.takeE 5025 11 41611,.takeE 5025 12 41612]),(3,[.take 1 10 5026,.frz 20384,.frz 20385])] [(21,[.put 1])]) (Aya K)
def Axm (K:Nat)(a1:Int)(v21:List Ax):Option ((List Ax)):=(if(0:Int)≤a1∧a1<(v21.length:Int)then(Aty (v21.set a1.toNat (Ax.mk ((gt v21 a1).Gt) ((gt v21 a1).C5) ((gt v21 a1).Mu) 0 ((gt v21 a1).Gu) ((gt v21 a1).Bw) ((gt v21 a1).Gv) ((gt v21 a1).Gw) ((gt v21 a1).Ad) ((gt v21 a1).M7) ((gt v21 a1).Gz) ((gt v21 a1).D3) ((gt v21 a1).De))) fun v22=>(if(0:Int)≤a1∧a1<(v22.length:Int)then(Aty (v22.set a1.toNat (Ax.mk ((gt v22 a1).Gt) ((gt v22 a1).C5) ((gt v22 a1).Mu) ((gt v22 a1).fUp) 0 ((gt v22 a1).Bw) ((gt v22 a1).Gv) ((gt v22 a1).Gw) ((gt v22 a1).Ad) ((gt v22 a1).M7) ((gt v22 a1).Gz) ((gt v22 a1).D3) ((gt v22 a1).De))) fun v23=>(if(0:Int)≤a1∧a1<(v23.length:Int)then(Aty (v23.set a1.toNat (Ax.mk ((gt v23 a1).Gt) ((gt v23 a1).C5) ((gt v23 a1).Mu) ((gt v23 a1).fUp) ((gt v23 a1).Gu) ((gt v23 a1).Bw) 0 ((gt v23 a1).Gw) ((gt v23 a1).Ad) ((gt v23 a1).M7) ((gt v23 a1).Gz) ((gt v23 a1).D3) ((gt v23 a1).De))) fun v24=>(if(0:Int)≤a1∧a1<(v24.length:Int)then(Aty (v24.set a1.toNat (Ax.mk ((gt v24 a1).Gt) ((gt v24 a1).C5) ((gt v24 a1).Mu) ((gt v24 a1).fUp) ((gt v24 a1).Gu) ((gt v24 a1).Bw) ((gt v24 a1).Gv) 0 ((gt v24 a1).Ad) ((gt v24 a1).M7) ((gt v24 a1).Gz) ((gt v24 a1).D3) ((gt v24 a1).De))) fun v25=>some v25)else none))else none))else none))else none)
def Avf (K:Nat)(a0:List Ax)(a1:Int)(v5:List Ax)(v6:Int)(v7:Int)(v8:Int)(v9:Int)(v10:Int)(v11:Int)(v12:Int)(v13:Int)(v14:List Int)(v15:Int)(v16:Int)(v17:List Bl)(v18:List Int):Option ((List Ax)):=((Ab4 K a0 v12).bind fun r19=>(bif r19 then(if(0:Int)≤(Ark .i64 v12 1)∧(Ark .i64 v12 1)<(v5.length:Int)then(Aty (v5.set (Ark .i64 v12 1).toNat (Ax.mk ((gt v5 (Ark .i64 v12 1)).Gt) ((gt v5 (Ark .i64 v12 1)).C5) ((gt v5 (Ark .i64 v12 1)).Mu) ((gt v5 (Ark .i64 v12 1)).fUp) ((gt v5 (Ark .i64 v12 1)).Gu) ((gt v5 (Ark .i64 v12 1)).Bw) ((gt v5 (Ark .i64 v12 1)).Gv) v13 ((gt v5 (Ark .i64 v12 1)).Ad) ((gt v5 (Ark .i64 v12 1)).M7) ((gt v5 (Ark .i64 v12 1)).Gz) ((gt v5 (Ark .i64 v12 1)).D3) ((gt v5 (Ark .i64 v12 1)).De))) fun v20=>(Axm K a1 v20))else none)else(Axm K a1 v5)))
def At4 (K:Nat)(a0:List Ax)(a1:Int)(r1:(List Ax))(v27:Bool)(v28:Int)(v29:Int)(v30:Int)(v31:Int)(v32:Int)(v33:Int)(v34:Int)(v35:Int)(v36:List Int)(v37:Int)(v38:Int)(v39:List Bl)(v40:List Int):Option ((List Ax)):=(bif v27 then(if(0:Int)≤(Ark .i64 v31 1)∧(Ark .i64 v31 1)<(r1.length:Int)then(Aty (r1.set (Ark .i64 v31 1).toNat (Ax.mk ((gt r1 (Ark .i64 v31 1)).Gt) ((gt r1 (Ark .i64 v31 1)).C5) ((gt r1 (Ark .i64 v31 1)).Mu) ((gt r1 (Ark .i64 v31 1)).fUp) ((gt r1 (Ark .i64 v31 1)).Gu) v34 ((gt r1 (Ark .i64 v31 1)).Gv) ((gt r1 (Ark .i64 v31 1)).Gw) ((gt r1 (Ark .i64 v31 1)).Ad) ((gt r1 (Ark .i64 v31 1)).M7) ((gt r1 (Ark .i64 v31 1)).Gz) ((gt r1 (Ark .i64 v31 1)).D3) ((gt r1 (Ark .i64 v31 1)).De))) fun v41=>(Avf K a0 a1 v41 v28 v29 v30 v31 v32 v33 v34 v35 v36 v37 v38 v39 v40))else none)else(Avf K a0 a1 r1 v28 v29 v30 v31 v32 v33 v34 v35 v36 v37 v38 v39 v40))
def A2p (K:Nat)(a0:List Ax)(a1:Int):Option ((List Ax)):=((Aw9 K a0).bind fun r1=>((Ab4 K a0 (Arj .i64 a1 1)).bind fun r2=>(bif (!r2)then some r1 else(if(0:Int)≤a1∧a1<(a0.length:Int)then((Ab4 K a0 ((gt a0 a1).Gw)).bind fun r3=>(bif r3 then(if(0:Int)≤(Ark .i64 ((gt a0 a1).Gw) 1)∧(Ark .i64 ((gt a0 a1).Gw) 1)<(r1.length:Int)then(Aty (r1.set (Ark .i64 ((gt a0 a1).Gw) 1).toNat (Ax.mk ((gt r1 (Ark .i64 ((gt a0 a1).Gw) 1)).Gt) ((gt r1 (Ark .i64 ((gt a0 a1).Gw) 1)).C5) ((gt r1 (Ark .i64 ((gt a0 a1).Gw) 1)).Mu) ((gt r1 (Ark .i64 ((gt a0 a1).Gw) 1)).fUp) ((gt r1 (Ark .i64 ((gt a0 a1).Gw) 1)).Gu) ((gt r1 (Ark .i64 ((gt a0 a1).Gw) 1)).Bw) ((gt a0 a1).Gv) ((gt r1 (Ark .i64 ((gt a0 a1).Gw) 1)).Gw) ((gt r1 (Ark .i64 ((gt a0 a1).Gw) 1)).Ad) ((gt r1 (Ark .i64 ((gt a0 a1).Gw) 1)).M7) ((gt r1 (Ark .i64 ((gt a0 a1).Gw) 1)).Gz) ((gt r1 (Ark .i64 ((gt a0 a1).Gw) 1)).D3) ((gt r1 (Ark .i64 ((gt a0 a1).Gw) 1)).De))) fun v4=>(Avf K a0 a1 v4 ((gt a0 a1).Gt) ((gt a0 a1).C5) ((gt a0 a1).Mu) ((gt a0 a1).fUp) ((gt a0 a1).Gu) ((gt a0 a1).Bw) ((gt a0 a1).Gv) ((gt a0 a1).Gw) ((gt a0 a1).Ad) ((gt a0 a1).M7) ((gt a0 a1).Gz) ((gt a0 a1).D3) ((gt a0 a1).De)))else none)else(bif (((gt a0 a1).Gw)==0)then((Ab4 K a0 ((gt a0 a1).fUp)).bind fun r26=>(bif r26 then(if(0:Int)≤(Ark .i64 ((gt a0 a1).fUp) 1)∧(Ark .i64 ((gt a0 a1).fUp) 1)<(a0.length:Int)then(At4 K a0 a1 r1 (((gt a0 (Ark .i64 ((gt a0 a1).fUp) 1)).Bw)==(Arj .i64 a1 1)) ((gt a0 a1).Gt) ((gt a0 a1).C5) ((gt a0 a1).Mu) ((gt a0 a1).fUp) ((gt a0 a1).Gu) ((gt a0 a1).Bw) ((gt a0 a1).Gv) ((gt a0 a1).Gw) ((gt a0 a1).Ad) ((gt a0 a1).M7) ((gt a0 a1).Gz) ((gt a0 a1).D3) ((gt a0 a1).De))else none)else(At4 K a0 a1 r1 false ((gt a0 a1).Gt) ((gt a0 a1).C5) ((gt a0 a1).Mu) ((gt a0 a1).fUp) ((gt a0 a1).Gu) ((gt a0 a1).Bw) ((gt a0 a1).Gv) ((gt a0 a1).Gw) ((gt a0 a1).Ad) ((gt a0 a1).M7) ((gt a0 a1).Gz) ((gt a0 a1).D3) ((gt a0 a1).De))))else(At4 K a0 a1 r1 false ((gt a0 a1).Gt) ((gt a0 a1).C5) ((gt a0 a1).Mu) ((gt a0 a1).fUp) ((gt a0 a1).Gu) ((gt a0 a1).Bw) ((gt a0 a1).Gv) ((gt a0 a1).Gw) ((gt a0 a1).Ad) ((gt a0 a1).M7) ((gt a0 a1).Gz) ((gt a0 a1).D3) ((gt a0 a1).De)))))else none))))
def Bif:=fd Tryz.func357 ⟨[.v 35,.v 3],[.n 35 true],false⟩ (gC (Bic K) (gC (A8u K) gN)) [35,36,40,41,42] [31,63,499]
def B20:Fs:=⟨[(1,.v 2),(5,.o 1005 77 true)],[]⟩
def B21:Fs:=⟨[(0,.v 35),(1,.v 2),(5,.o 1005 77 true),(6,.p 106)],[(106,.box [.v 2,.v 2,.v 2,.v 2,.v 2,.v 2,.v 2,.v 2,.v 25,.v 2,.v 2,.v 75,.v 25])]⟩
def B22:Fs:=⟨[(0,.v 35),(1,.v 2),(5,.o 1005 77 true),(6,.p 106),(32,.v 4)],[(106,.box [.v 2,.v 2,.v 2,.v 2,.v 2,.v 2,.v 2,.v 2,.v 25,.v 2,.v 2,.v 75,.v 25])]⟩
def Bmo:=jn (Bif K) 63 B20 [] (Axm K) kN
def Bd8:=jn (Bif K) 31 B21 [] (Avf K) (kC (Bmo K) kN)
def Bjn:=jn (Bif K) 499 B22 [] (At4 K) (kC (Bd8 K) kN)
def Bvf:=ct (Bif K) (A2p K) (kC (Bd8 K) (kC (Bjn K) kN))
def A0g (K:Nat)(a0:Bm)(a1:Int):Option (Bm):=(if(0:Int)≤a1∧a1<(a0.fL.length:Int)then(if(0:Int)≤a1∧a1<(a0.fL.length:Int)then((Awd K (gt a0.fL a1) (Arj .i64 a1 1)).bind fun r1=>(if(0:Int)≤a1∧a1<(a0.fL.length:Int)then((Aul K a0 ((gt a0.fL a1).Ad)).bind fun r2=>((A2p K r2.fL a1).bind fun r3=>(if(0:Int)≤a1∧a1<(r3.length:Int)then(if(0:Int)≤a1∧a1<(r3.length:Int)then((A04 K (gt r3 a1)).bind fun r4=>(if(0:Int)≤a1∧a1<(r3.length:Int)then(if(r2.fQ++([r1]:List A7)).length*72≤140737488355328∧(r2.fQ++([r1]:List A7)).length≤maxLen then some (Bm.mk r2.fC r2.fP (r3.set a1.toNat r4) (r2.fQ++([r1]:List A7)) r2.Jc)else none)else none))else none)else none)))else none))else none)else none)
def Bvg:=ct (fd Tryz.func310 ⟨[.b 38 false,.v 3],[],false⟩ (gC (Bl7 K) (gC (Bl6 K) (gC (Btn K) (gC (Bvf K) gN)))) [] [] [(0,[.take 1 9 5025,.opn 5025 (.tmp 1),.takeE 5025 11 41611,.takeE 5025 12 41612]),(1,[.put 1,.take 1 9 5025]),(2,[.take 1 9 5025,.frz 5025]),(3,[.opn 3031 (.tmp 1),.takeE 3031 11 41995,.takeE 3031 12 41996]),(4,[.take 1 10 5026,.frz 20448,.frz 20449])] [(23,[.put 1])]) (A0g K)
def A1n (K:Nat)(a0:A7):Option (A7):=(if(([]:List Int)++a0.De).length*8≤140737488355328∧(([]:List Int)++a0.De).length≤maxLen then(if(([]:List Int)++a0.Ad).length*8≤140737488355328∧(([]:List Int)++a0.Ad).length≤maxLen then some (A7.mk a0.A9 a0.Bw (([]:List Int)++a0.De) (([]:List Int)++a0.Ad) a0.Hp)else none)else none)
def Bvh:=ct (fd Tryz.func190 ⟨[.v 79],[.n 79 true],true⟩ gN) (A1n K)
def As9 (K:Nat):Nat->Int->Int->Int->Int->Int->Int->Int->(List Int)->(List Int)->(List Int)->(List Ax)->(List A7)->(List Int)->Bm->Int->Int->Int->Int->Int->Int->(List Int)->(List Int)->(List Int)->(List Ax)->(List A7)->(List Int)->Option (Bm)
 |0,_,_,_,_,_,_,_,_,_,_,_,_,_,_,_,_,_,_,_,_,_,_,_,_,_,_=>none
 |n1+1,v3,v4,v5,v6,v7,v8,v9,v10,v11,v12,v13,v14,v15,v16,v17,v18,v19,v20,v21,v22,v23,v24,v25,v26,v27,v28=>(bif (decide (v3<(v27.length:Int)))then(if(0:Int)≤v3∧v3<(v27.length:Int)then((A1n K (gt v27 v3)).bind fun r29=>(if(v14++[r29]).length*72≤140737488355328∧(v14++[r29]).length≤maxLen then(As9 K n1 (Arj .i64 v3 1) v4 v5 v6 v7 v8 v9 v10 v11 v12 v13 (v14++[r29]) v15 v16 v17 v18 v19 v20 v21 v22 v23 v24 v25 v26 v27 v28)else none))else none)else(if(([]:List Int)++v28).length*8≤140737488355328∧(([]:List Int)++v28).length≤maxLen then some (Bm.mk (Fc.mk v4 v5 v6 v7 v8 v9) (Ed.mk v10 v11 v12) v13 v14 (([]:List Int)++v28))else none))
def Aqo (K:Nat)(a0:Bm):Option (Bm):=((Auj K a0.fP).bind fun r1=>((Aw9 K a0.fL).bind fun r2=>(As9 K K 0 a0.fC.Ad a0.fC.Ds a0.fC.B9 a0.fC.Eu a0.fC.Ca a0.fC.Dt r1.Fi r1.Gt r1.Fj r2 ([]:List A7) a0.Jc (Bm.mk (Fc.mk 0 0 0 0 0 0) (Ed.mk [] [] []) [] [] []) a0.fC.Ad a0.fC.Ds a0.fC.B9 a0.fC.Eu a0.fC.Ca a0.fC.Dt a0.fP.Fi a0.fP.Gt a0.fP.Fj a0.fL a0.fQ a0.Jc)))
def Btt:=fd Tryz.func85 ⟨[.v 38],[.n 38 true],false⟩ (gC (Bia K) (gC (Bic K) (gC (Bvh K) gN))) [] [] [(9,[.take 103 10 6658]),(11,[.take 103 6 6654,.take 103 7 6655,.take 103 8 6656,.take 103 9 6657,.take 103 10 6658])] [(33,[.put 3033])]
def B23:Fs:=⟨[(1,.p 101),(2,.p 102),(3,.p 103),(4,.v 2)],[(103,.box [.v 2,.v 2,.v 2,.v 2,.v 2,.v 2,.T 5 true,.T 3 true,.T 3 true,.T 77 true,.T 79 true,.v 25]),(102,.st 38 true),(101,.box [.v 2,.v 2,.v 2,.v 2,.v 2,.v 2,.v 24,.v 25,.v 25,.v 35,.v 36,.v 25])]⟩
def Bjo:=lp (Btt K) 506 B23 [] (As9 K) (fun n=>kN)
def A7a:=ct (Btt K) (Aqo K) (kC (Bjo K K) kN)
def Ati (K:Nat)(a0:List Ax)(a1:Int):Option (Bool):=(bif (a1==0)then some true else((Ab4 K a0 a1).bind fun r1=>(bif r1 then(if(0:Int)≤(Ark .i64 a1 1)∧(Ark .i64 a1 1)<(a0.length:Int)then some (((gt a0 (Ark .i64 a1 1)).Gt)==1)else none)else some false)))
def Bvi:=ct (fd Tryz.func301 ⟨[.v 35,.v 3],[.v 4],true⟩ (gC (A8u K) gN) [6,7,10,11]) (Ati K)
def Awk (K:Nat)(a0:List Ax)(a1:Int):Option (Bool):=((A03 K a0 a1).bind fun r19=>(bif (decide ((r19.length:Int)≤4))then(if(0:Int)≤(Ark .i64 (r19.length:Int) 1)∧(Ark .i64 (r19.length:Int) 1)<(r19.length:Int)then((Avk K a0 (gt r19 (Ark .i64 (r19.length:Int) 1))).bind fun r20=>some (!r20))else none)else some false))
def Ayp (K:Nat)(a0:List Ax)(a1:Int)(v8:Int)(v12:Int):Option (Bool):=(bif (v12==0)then((Avk K a0 a1).bind fun r18=>(bif r18 then(if(0:Int)≤(Ark .i64 v8 1)∧(Ark .i64 v8 1)<(a0.length:Int)then(bif (((gt a0 (Ark .i64 v8 1)).Bw) != (Arj .i64 a1 1))then some false else(Awk K a0 a1))else none)else(Awk K a0 a1)))else(Awk K a0 a1))
def Ayq (K:Nat)(a0:List Ax)(a1:Int)(v8:Int)(v12:Int):Option (Bool):=(bif (v12 != 0)then(if(0:Int)≤(Ark .i64 v12 1)∧(Ark .i64 v12 1)<(a0.length:Int)then(bif (((gt a0 (Ark .i64 v12 1)).Gv) != (Arj .i64 a1 1))then some false else(Ayp K a0 a1 v8 v12))else none)else(Ayp K a0 a1 v8 v12))
def Ayr (K:Nat)(a0:List Ax)(a1:Int)(v8:Int)(v9:Int)(v11:Int)(v12:Int):Option (Bool):=(bif (v11 != 0)then(if(0:Int)≤(Ark .i64 v11 1)∧(Ark .i64 v11 1)<(a0.length:Int)then(bif (((gt a0 (Ark .i64 v11 1)).Gw) != (Arj .i64 a1 1))then some false else(bif (((gt a0 (Ark .i64 v11 1)).fUp) != v8)then some false else(bif (((gt a0 (Ark .i64 v11 1)).Gu) != v9)then some false else(Ayq K a0 a1 v8 v12))))else none)else(Ayq K a0 a1 v8 v12))
def Ays (K:Nat)(a0:List Ax)(a1:Int)(v5:Int)(v6:Int)(v7:Int)(v8:Int)(v9:Int)(v10:Int)(v11:Int)(v12:Int)(v13:List Int)(v14:Int)(v15:Int)(v16:List Bl)(v17:List Int):Option (Bool):=(bif (v10 != 0)then(if(0:Int)≤(Ark .i64 v10 1)∧(Ark .i64 v10 1)<(a0.length:Int)then(bif (((gt a0 (Ark .i64 v10 1)).Gw) != 0)then some false else(bif (((gt a0 (Ark .i64 v10 1)).fUp) != (Arj .i64 a1 1))then some false else(bif (((gt a0 (Ark .i64 v10 1)).Gu) != v7)then some false else(Ayr K a0 a1 v8 v9 v11 v12))))else none)else(Ayr K a0 a1 v8 v9 v11 v12))
def A3g (K:Nat)(a0:List Ax)(a1:Int):Option (Bool):=(if(0:Int)≤a1∧a1<(a0.length:Int)then(bif (((gt a0 a1).fUp) != 0)then((Ab4 K a0 ((gt a0 a1).fUp)).bind fun r1=>(bif r1 then((Ati K a0 ((gt a0 a1).Bw)).bind fun r2=>(bif r2 then((Ati K a0 ((gt a0 a1).Gv)).bind fun r3=>(bif r3 then((Ati K a0 ((gt a0 a1).Gw)).bind fun r4=>(bif (!r4)then some false else(Ays K a0 a1 ((gt a0 a1).Gt) ((gt a0 a1).C5) ((gt a0 a1).Mu) ((gt a0 a1).fUp) ((gt a0 a1).Gu) ((gt a0 a1).Bw) ((gt a0 a1).Gv) ((gt a0 a1).Gw) ((gt a0 a1).Ad) ((gt a0 a1).M7) ((gt a0 a1).Gz) ((gt a0 a1).D3) ((gt a0 a1).De))))else some false))else some false))else some false))else((Ati K a0 ((gt a0 a1).Bw)).bind fun r21=>(bif r21 then((Ati K a0 ((gt a0 a1).Gv)).bind fun r22=>(bif r22 then((Ati K a0 ((gt a0 a1).Gw)).bind fun r23=>(bif (!r23)then some false else(Ays K a0 a1 ((gt a0 a1).Gt) ((gt a0 a1).C5) ((gt a0 a1).Mu) ((gt a0 a1).fUp) ((gt a0 a1).Gu) ((gt a0 a1).Bw) ((gt a0 a1).Gv) ((gt a0 a1).Gw) ((gt a0 a1).Ad) ((gt a0 a1).M7) ((gt a0 a1).Gz) ((gt a0 a1).D3) ((gt a0 a1).De))))else some false))else some false)))else none)
def Bbv:=fd Tryz.func238 ⟨[.v 35,.v 3],[.v 4],true⟩ (gC (Blt K) (gC (Blu K) (gC (A8u K) (gC (Bvi K) gN)))) [15,16,20,21,22,23,27,28,29,30,34,35,36,37,55,56,61,62,63,83,84,89,90,91,100,101,115,116,119,120,121,138,139] [7,15,31,63,127]
def B24:Fs:=⟨[(0,.v 35),(1,.v 2)],[]⟩
def Bd9:Fs:=⟨[(0,.v 35),(1,.v 2),(5,.p 105)],[(105,.box [.v 2,.v 2,.v 2,.v 2,.v 2,.v 2,.v 2,.v 2,.v 25,.v 2,.v 2,.v 75,.v 25])]⟩
def Bjp:=jn (Bbv K) 127 B24 [] (Awk K) kN
def Bmp:=jn (Bbv K) 63 Bd9 [] (fun a b _ _ _ f _ _ _ j _ _ _ _ _=>Ayp K a b f j) (kC (Bjp K) kN)
def Bmq:=jn (Bbv K) 31 Bd9 [] (fun a b _ _ _ f _ _ _ j _ _ _ _ _=>Ayq K a b f j) (kC (Bmp K) kN)
def Bmr:=jn (Bbv K) 15 Bd9 [] (fun a b _ _ _ f g _ i j _ _ _ _ _=>Ayr K a b f g i j) (kC (Bmq K) kN)
def Br1:=jn (Bbv K) 7 Bd9 [] (Ays K) (kC (Bmr K) kN)
def Bvj:=ct (Bbv K) (A3g K) (kC (Br1 K) kN)
def A0h (K:Nat)(v1:Int)(C1:Int->Option (Bool)):Option (Bool):=(C1 (Arj .i64 v1 1))
def Asy (K:Nat)(a0:List Ax):Nat->Int->Option (Bool)
 |0,_=>none
 |n1+1,v1=>(bif (decide (v1<(a0.length:Int)))then(if(0:Int)≤v1∧v1<(a0.length:Int)then(bif (((gt a0 v1).Gt)==1)then((A3g K a0 v1).bind fun r2=>(bif (!r2)then some false else(A0h K v1 (Asy K a0 n1))))else(A0h K v1 (Asy K a0 n1)))else none)else some true)
def A2q (K:Nat)(a0:List Ax):Option (Bool):=(Asy K a0 K 0)
def Bms:=fd Tryz.func140 ⟨[.v 35],[.v 4],true⟩ (gC (Bvj K) gN) [15,16] [105]
def Bjq:=fun(C26:CT Bmb _)=>jn (Bms K) 105 Bmb [(26,ar Bmb C26)] (fun a b=>A0h K b (C26 a)) kN
def Bmt:=lp (Bms K) 26 Bmb [] (fun n a=>Asy K a n) (fun n=>(kC (Bjq K _) kN))
def Bvk:=ct (Bms K) (A2q K) (kC (Bmt K K) kN)
def Azc (K:Nat)(v2:Int)(v3:List Int)(v4:List Int)(v5:List Int)(C1:Int->Int->(List Int)->(List Int)->(List Int)->Option (Int))(v6:Int):Option (Int):=(C1 v6 (Arj .i64 v2 1) v3 v4 v5)
def Aqy (K:Nat)(a1:Int):Nat->Int->Int->(List Int)->(List Int)->(List Int)->Option (Int)
 |0,_,_,_,_,_=>none
 |n1+1,v1,v2,v3,v4,v5=>(bif (decide (v2<(v4.length:Int)))then(if(0:Int)≤v2∧v2<(v4.length:Int)then(bif ((gt v4 v2)==a1)then(Azc K v2 v3 v4 v5 (Aqy K a1 n1) (Arj .i64 v1 1))else(Azc K v2 v3 v4 v5 (Aqy K a1 n1) v1))else none)else some v1)
def A1o (K:Nat)(a0:Ed)(a1:Int):Option (Int):=(Aqy K a1 K 0 0 a0.Fi a0.Gt a0.Fj)
def Bmu:=fd Tryz.func246 ⟨[.v 34,.v 3],[.v 3],true⟩ gN [] [233]
def Br2:Fs:=⟨[(1,.v 2),(2,.p 102),(5,.v 2),(6,.v 2)],[(102,.box [.v 24,.v 25,.v 25])]⟩
def Bjr:=fun(C58:CT Br2 _)=>jn Bmu 233 Br2 [(58,ar Br2 C58)] (fun a b c d e f=>Azc K c d e f (C58 a) b) kN
def Bmv:=lp Bmu 58 Br2 [] (fun n a=>Aqy K a n) (fun n=>(kC (Bjr K _) kN))
def Bvl:=ct Bmu (A1o K) (kC (Bmv K K) kN)
def Awl (K:Nat)(a0:List Ax)(a1:Int):Option (Bool):=(if(0:Int)≤a1∧a1<(a0.length:Int)then(bif (((gt a0 a1).Gt)==1)then(if(0:Int)≤a1∧a1<(a0.length:Int)then(bif (((gt a0 a1).fUp) != 0)then((Avk K a0 a1).bind fun r1=>some (!r1))else some false)else none)else some false)else none)
def Bmw:=ct (fd Tryz.func245 ⟨[.v 35,.v 3],[.v 4],true⟩ (gC (Blu K) gN) [10,11,17,18,19]) (Awl K)
def Axn (K:Nat)(a0:List Ax):Nat->Int->(List Int)->Option ((List Int))
 |0,_,_=>none
 |n1+1,v1,v2=>((Ab4 K a0 v1).bind fun r3=>(bif r3 then(bif (decide ((v2.length:Int)<(a0.length:Int)))then(if(v2++([(Ark .i64 v1 1)]:List Int)).length*8≤140737488355328∧(v2++([(Ark .i64 v1 1)]:List Int)).length≤maxLen then(if(0:Int)≤(Ark .i64 v1 1)∧(Ark .i64 v1 1)<(a0.length:Int)then(Axn K a0 n1 ((gt a0 (Ark .i64 v1 1)).Gv) (v2++([(Ark .i64 v1 1)]:List Int)))else none)else none)else some v2)else some v2))
def Az1 (K:Nat)(a0:List Ax)(a1:Int):Option ((List Int)):=(Axn K a0 K a1 ([]:List Int))
def Btu:=fd Tryz.func176 ⟨[.v 35,.v 3],[.n 25 true],true⟩ (gC (A8u K) gN) [9,10]
def Bmx:=lp (Btu K) 28 h_7 [] (fun n a=>Axn K a n) (fun n=>kN)
def Bmy:=ct (Btu K) (Az1 K) (kC (Bmx K K) kN)
def Aqu (K:Nat)(v4:Int)(v15:List A7)(v20:List Int)(v21:Int)(C3:(List Int)->Int->Option (Bool)):Nat->Int->Option (Bool)
 |0,_=>none
 |n5+1,v22=>(if(0:Int)≤v4∧v4<(v15.length:Int)then(bif (decide (v22<(((gt v15 v4).Ad).length:Int)))then(if(0:Int)≤v21∧v21<(v15.length:Int)then(if(0:Int)≤v4∧v4<(v15.length:Int)then(if(0:Int)≤v22∧v22<(((gt v15 v4).Ad).length:Int)then((Atg K ((gt v15 v21).Ad) (gt ((gt v15 v4).Ad) v22)).bind fun r23=>(bif r23 then some false else(Aqu K v4 v15 v20 v21 C3 n5 (Arj .i64 v22 1))))else none)else none)else none)else(C3 v20 (Arj .i64 v21 1)))else none)
def Au0 (K:Nat)(v4:Int)(v15:List A7)(v20:List Int)(v21:Int)(C3:(List Int)->Int->Option (Bool)):Option (Bool):=(Aqu K v4 v15 v20 v21 (C3) K 0)
def An1 (K:Nat)(v4:Int)(v5:Int)(v6:Int)(v7:Int)(v8:Int)(v9:Int)(v10:Int)(v11:List Int)(v12:List Int)(v13:List Int)(v14:List Ax)(v15:List A7)(v16:List Int)(v17:Int)(v18:Int)(C1:Int->Int->(List Int)->Int->Int->Int->Int->Int->Int->Int->(List Int)->(List Int)->(List Int)->(List Ax)->(List A7)->(List Int)->Option (Bool)):Nat->(List Int)->Int->Option (Bool)
 |0,_,_=>none
 |n3+1,v20,v21=>(bif (decide (v21<v4))then(if(0:Int)≤v4∧v4<(v15.length:Int)then(bif (((gt v15 v4).A9) != 0)then(if(0:Int)≤v21∧v21<(v15.length:Int)then(if(0:Int)≤v4∧v4<(v15.length:Int)then(bif (((gt v15 v21).A9)==((gt v15 v4).A9))then some false else(Au0 K v4 v15 v20 v21 (An1 K v4 v5 v6 v7 v8 v9 v10 v11 v12 v13 v14 v15 v16 v17 v18 C1 n3)))else none)else none)else(Au0 K v4 v15 v20 v21 (An1 K v4 v5 v6 v7 v8 v9 v10 v11 v12 v13 v14 v15 v16 v17 v18 C1 n3)))else none)else(C1 v17 v18 v20 (Arj .i64 v4 1) v5 v6 v7 v8 v9 v10 v11 v12 v13 v14 v15 v16))
def Au1 (K:Nat)(v3:List Int)(v4:Int)(v5:Int)(v6:Int)(v7:Int)(v8:Int)(v9:Int)(v10:Int)(v11:List Int)(v12:List Int)(v13:List Int)(v14:List Ax)(v15:List A7)(v16:List Int)(C1:Int->Int->(List Int)->Int->Int->Int->Int->Int->Int->Int->(List Int)->(List Int)->(List Int)->(List Ax)->(List A7)->(List Int)->Option (Bool))(v17:Int)(v18:Int):Option (Bool):=(if(0:Int)≤v4∧v4<(v15.length:Int)then((Az1 K v14 ((gt v15 v4).Bw)).bind fun r19=>(if(v3++r19).length*8≤140737488355328∧(v3++r19).length≤maxLen then(An1 K v4 v5 v6 v7 v8 v9 v10 v11 v12 v13 v14 v15 v16 v17 v18 (C1) K (v3++r19) 0)else none))else none)
def Axa (K:Nat)(v25:Int)(C6:Int->Int->Option (Bool))(v27:Int):Option (Bool):=(C6 v27 (Arj .i64 v25 1))
def An2 (K:Nat)(v1:Int)(v2:Int)(v3:List Int)(v11:List Int)(v12:List Int)(v13:List Int)(v14:List Ax)(v24:Int):Nat->Int->Option (Bool)
 |0,_=>none
 |n8+1,v28=>(bif (decide (v28<(v3.length:Int)))then(if(0:Int)≤0∧0≤v28∧v28≤(v3.length:Int)then(if(0:Int)≤v28∧v28<(v3.length:Int)then((Atg K ((v3.drop (0:Int).toNat).take (v28 - 0).toNat) (gt v3 v28)).bind fun r29=>(bif r29 then some false else(An2 K v1 v2 v3 v11 v12 v13 v14 v24 n8 (Arj .i64 v28 1))))else none)else none)else((A1o K (Ed.mk v11 v12 v13) 2).bind fun r30=>(bif (v1==r30)then((Atr K v14 2).bind fun r31=>(bif (v2==r31)then some ((v3.length:Int)==v24)else some false))else some false)))
def Ajn (K:Nat)(v1:Int)(v2:Int)(v3:List Int)(v11:List Int)(v12:List Int)(v13:List Int)(v14:List Ax):Nat->Int->Int->Option (Bool)
 |0,_,_=>none
 |n6+1,v24,v25=>(bif (decide (v25<(v14.length:Int)))then((Awl K v14 v25).bind fun r26=>(bif r26 then(Axa K v25 (Ajn K v1 v2 v3 v11 v12 v13 v14 n6) (Arj .i64 v24 1))else(Axa K v25 (Ajn K v1 v2 v3 v11 v12 v13 v14 n6) v24)))else(An2 K v1 v2 v3 v11 v12 v13 v14 v24 K 0))
def Ad1 (K:Nat):Nat->Int->Int->(List Int)->Int->Int->Int->Int->Int->Int->Int->(List Int)->(List Int)->(List Int)->(List Ax)->(List A7)->(List Int)->Option (Bool)
 |0,_,_,_,_,_,_,_,_,_,_,_,_,_,_,_,_=>none
 |n1+1,v1,v2,v3,v4,v5,v6,v7,v8,v9,v10,v11,v12,v13,v14,v15,v16=>(bif (decide (v4<(v15.length:Int)))then(if(0:Int)≤v4∧v4<(v15.length:Int)then(if(0:Int)≤v4∧v4<(v15.length:Int)then(bif (((gt v15 v4).A9) != 0)then(Au1 K v3 v4 v5 v6 v7 v8 v9 v10 v11 v12 v13 v14 v15 v16 (Ad1 K n1) (Arj .i64 v1 (((gt v15 v4).Ad).length:Int)) (Arj .i64 v2 1))else(Au1 K v3 v4 v5 v6 v7 v8 v9 v10 v11 v12 v13 v14 v15 v16 (Ad1 K n1) (Arj .i64 v1 (((gt v15 v4).Ad).length:Int)) v2))else none)else none)else(Ajn K v1 v2 v3 v11 v12 v13 v14 K 0 0))
def Azd (K:Nat)(a0:Bm):Option (Bool):=(Ad1 K K 0 0 ([]:List Int) 0 a0.fC.Ad a0.fC.Ds a0.fC.B9 a0.fC.Eu a0.fC.Ca a0.fC.Dt a0.fP.Fi a0.fP.Gt a0.fP.Fj a0.fL a0.fQ a0.Jc)
def A7q:=fd Tryz.func148 ⟨[.v 38],[.v 4],true⟩ (gC (Bmy K) (gC (Bd7 K) (gC (Bmw K) (gC (Bvl K) (gC (Btj K) gN))))) [60,61,134,135,140,141,142] [4073,8009,2050532]
def B25:Fs:=⟨[(1,.p 101),(3,.v 2),(4,.v 2),(5,.o 1005 3 true),(6,.v 2),(7,.v 2),(8,.v 2)],[(101,.box [.v 2,.v 2,.v 2,.v 2,.v 2,.v 2,.v 24,.v 25,.v 25,.v 35,.v 36,.v 25])]⟩
def Bjs:Fs:=⟨[(1,.p 101),(3,.v 2),(4,.v 2),(5,.o 1005 3 true),(6,.v 2),(7,.v 2)],[(101,.box [.v 2,.v 2,.v 2,.v 2,.v 2,.v 2,.v 24,.v 25,.v 25,.v 35,.v 36,.v 25])]⟩
def Bba:Fs:=⟨[(1,.p 101),(3,.v 2),(4,.v 2),(5,.o 1005 3 true),(6,.v 2)],[(101,.box [.v 2,.v 2,.v 2,.v 2,.v 2,.v 2,.v 24,.v 25,.v 25,.v 35,.v 36,.v 25])]⟩
def Br3:Fs:=⟨[(1,.p 101),(3,.v 2),(4,.v 2),(5,.o 1005 3 true),(9,.v 2),(10,.v 2)],[(101,.box [.v 2,.v 2,.v 2,.v 2,.v 2,.v 2,.v 24,.v 25,.v 25,.v 35,.v 36,.v 25])]⟩
def B26:Fs:=⟨[(1,.p 101),(3,.v 2),(4,.v 2),(5,.o 1005 3 true),(9,.v 2),(11,.v 2)],[(101,.box [.v 2,.v 2,.v 2,.v 2,.v 2,.v 2,.v 24,.v 25,.v 25,.v 35,.v 36,.v 25])]⟩
def A9w:=fun(C250:CT Bba _) (C128158:CT Bjs _)=>lp (A7q K) 16404262 B25 [(128158,ar Bjs C128158),(250,ar Bba C250)] (fun n a b c d e f g h i j k l m o p q r s=>Aqu K d r c e (fun v20 v21=>C128158 a b v20 d v21 g h i j k l m o p q r s) n f) (fun n=>kN)
def Bbb:=fun(C250:CT Bba _) (C128158:CT Bjs _)=>jn (A7q K) 2050532 Bjs [(128158,ar Bjs C128158),(250,ar Bba C250)] (fun a b c d e f g h i j k l m o p q r=>Au0 K d q c e (fun v20 v21=>C128158 a b v20 d v21 f g h i j k l m o p q r)) (kC (A9w K _ _ K) kN)
def Bcl:=fun(C250:CT Bba _)=>lp (A7q K) 128158 Bjs [(250,ar Bba C250)] (fun n a b c d e f g h i j k l m o p q r=>An1 K d f g h i j k l m o p q r a b C250 n c e) (fun n=>(kC (Bbb K _ _) kN))
def Bgf:=fun(C250:CT Bba _)=>jn (A7q K) 8009 Bba [(250,ar Bba C250)] (fun a b c d e f g h i j k l m o p q=>Au1 K c d e f g h i j k l m o p q C250 a b) (kC (Bcl K _ K) kN)
def Bgg:=fun(C1018:CT Br3 _)=>jn (A7q K) 4073 Br3 [(1018,ar Br3 C1018)] (fun a b c d e f g h i j k l m o p q r=>Axa K e (fun v24 v25=>C1018 a b c v24 v25 f g h i j k l m o p q r) d) kN
def Bgh:=lp (A7q K) 2042 B26 [] (fun n a b c d e _ _ _ _ _ _ l m o p _ _=>An2 K a b c l m o p d n e) (fun n=>kN)
def Bgi:=lp (A7q K) 1018 Br3 [] (fun n a b c d e _ _ _ _ _ _ l m o p _ _=>Ajn K a b c l m o p n d e) (fun n=>(kC (Bgg K _) (kC (up (Bgh K K)) kN)))
def Bjt:=lp (A7q K) 250 Bba [] (Ad1 K) (fun n=>(kC (Bgf K _) (kC (up (Bgi K K)) kN)))
def Bvm:=ct (A7q K) (Azd K) (kC (Bjt K K) kN)
def Aqz (K:Nat)(a0:Fc)(v8:List Int):Nat->Int->Option (Bool)
 |0,_=>none
 |n3+1,v12=>(bif (decide (v12<(v8.length:Int)))then(if(0:Int)≤v12∧v12<(v8.length:Int)then((Bd K (gt v8 v12) 0 (Ark .i64 a0.Ad 1)).bind fun r13=>(bif r13 then(if(0:Int)≤0∧0≤v12∧v12≤(v8.length:Int)then(if(0:Int)≤v12∧v12<(v8.length:Int)then((Atg K ((v8.drop (0:Int).toNat).take (v12 - 0).toNat) (gt v8 v12)).bind fun r14=>(bif r14 then some false else(Aqz K a0 v8 n3 (Arj .i64 v12 1))))else none)else none)else some false))else none)else some true)
def Ata (K:Nat)(a0:Fc)(v7:List Int)(v8:List Int):Nat->Int->Option (Bool)
 |0,_=>none
 |n2+1,v10=>(bif (decide (v10<(v7.length:Int)))then(if(0:Int)≤v10∧v10<(v7.length:Int)then((Bd K (gt v7 v10) 0 255).bind fun r11=>(bif (!r11)then some false else(Ata K a0 v7 v8 n2 (Arj .i64 v10 1))))else none)else(Aqz K a0 v8 K 0))
def Aze (K:Nat)(a0:Fc)(v5:Int)(v6:Int)(v7:List Int)(v8:List Int)(v9:Int):Option (Bool):=(Ata K a0 v7 v8 K 0)
def A1p (K:Nat)(a0:Fc)(a1:A7):Option (Bool):=((Aql K a0).bind fun r1=>(bif r1 then((Bd K a1.A9 0 a0.B9).bind fun r2=>(bif r2 then((Bd K a1.Bw 0 a0.B9).bind fun r3=>(bif r3 then(bif (decide ((a1.De.length:Int)>6))then some false else((Bd K a1.Hp 0 (Ark .i64 a0.Ds 1)).bind fun r4=>(bif r4 then(bif ((a1.Ad.length:Int)==0)then(bif (a1.Hp != 0)then some false else(Aze K a0 a1.A9 a1.Bw a1.De a1.Ad a1.Hp))else(Aze K a0 a1.A9 a1.Bw a1.De a1.Ad a1.Hp))else some false)))else some false))else some false))else some false))
def Big:=fd Tryz.func244 ⟨[.v 33,.v 79],[.v 4],true⟩ (gC (A8t K) (gC (Azt K) (gC (Bd7 K) gN))) [8,9,10,15,16,17,18,23,24,25,26,30,31,32,38,39,40,41,45,46,81,82,83] [3]
def B27:Fs:=⟨[(2,.p 102),(3,.p 103),(6,.v 2)],[(103,.box [.v 2,.v 2,.v 25,.v 25,.v 2]),(102,.st 33 true)]⟩
def B28:Fs:=⟨[(2,.p 102),(3,.p 103),(5,.v 2)],[(103,.box [.v 2,.v 2,.v 25,.v 25,.v 2]),(102,.st 33 true)]⟩
def B29:Fs:=⟨[(2,.p 102),(3,.p 103)],[(103,.box [.v 2,.v 2,.v 25,.v 25,.v 2]),(102,.st 33 true)]⟩
def Bju:=lp (Big K) 122 B27 [] (fun n a _ _ _ e _ g=>Aqz K g e n a) (fun n=>kN)
def Bmz:=lp (Big K) 58 B28 [] (fun n a _ _ d e _ g=>Ata K g d e n a) (fun n=>(kC (up (Bju K K)) kN))
def Br4:=jn (Big K) 3 B29 [] (fun a b c d e f=>Aze K f a b c d e) (kC (Bmz K K) kN)
def Bvn:=ct (Big K) (A1p K) (kC (Br4 K) kN)
def Att (K:Nat)(v17:List Ax)(r21:(List Int)):Nat->Int->Option (Bool)
 |0,_=>none
 |n4+1,v22=>(bif (decide (v22<(r21.length:Int)))then(if(0:Int)≤v22∧v22<(r21.length:Int)then((Awl K v17 (gt r21 v22)).bind fun r23=>(bif (!r23)then some false else(Att K v17 r21 n4 (Arj .i64 v22 1))))else none)else some true)
def Art (K:Nat)(v4:Int)(v17:List Ax):Option (Bool):=((Az1 K v17 v4).bind fun r21=>(Att K v17 r21 K 0))
def Avo (K:Nat)(v3:Int)(v4:Int)(v17:List Ax):Option (Bool):=(bif (v3 != 0)then(if(0:Int)≤(Ark .i64 v3 1)∧(Ark .i64 v3 1)<(v17.length:Int)then(bif (((gt v17 (Ark .i64 v3 1)).Gt) != 2)then some false else(bif (v4 != 0)then(if(0:Int)≤(Ark .i64 v4 1)∧(Ark .i64 v4 1)<(v17.length:Int)then(bif (((gt v17 (Ark .i64 v4 1)).Gw) != 0)then some false else(Art K v4 v17))else none)else(Art K v4 v17)))else none)else(bif (v4 != 0)then(if(0:Int)≤(Ark .i64 v4 1)∧(Ark .i64 v4 1)<(v17.length:Int)then(bif (((gt v17 (Ark .i64 v4 1)).Gw) != 0)then some false else(Art K v4 v17))else none)else(Art K v4 v17)))
def Ar5 (K:Nat):Nat->Int->Int->Int->(List Int)->(List Int)->Int->Int->Int->Int->Int->Int->Int->(List Int)->(List Int)->(List Int)->(List Ax)->(List A7)->(List Int)->Option (Bool)
 |0,_,_,_,_,_,_,_,_,_,_,_,_,_,_,_,_,_,_=>none
 |n1+1,v2,v3,v4,v5,v6,v7,v8,v9,v10,v11,v12,v13,v14,v15,v16,v17,v18,v19=>(bif (decide (v2<(v6.length:Int)))then(if(0:Int)≤v2∧v2<(v6.length:Int)then(if(0:Int)≤(gt v6 v2)∧(gt v6 v2)<(v15.length:Int)then(bif ((gt v15 (gt v6 v2)) != 2)then some false else(Ar5 K n1 (Arj .i64 v2 1) v3 v4 v5 v6 v7 v8 v9 v10 v11 v12 v13 v14 v15 v16 v17 v18 v19))else none)else none)else(bif (decide ((v6.length:Int)>0))then(if(0:Int)≤0∧0<(v6.length:Int)then(if(0:Int)≤0∧0<(v6.length:Int)then(if(0:Int)≤(Arl .i64 (gt v6 0) v9)∧(Arl .i64 (gt v6 0) v9)≤(Arj .i64 (Arl .i64 (gt v6 0) v9) v7)∧(Arj .i64 (Arl .i64 (gt v6 0) v9) v7)≤(v14.length:Int)then((Auk K ((v14.drop (Arl .i64 (gt v6 0) v9).toNat).take ((Arj .i64 (Arl .i64 (gt v6 0) v9) v7) - (Arl .i64 (gt v6 0) v9)).toNat)).bind fun r20=>(bif (!r20)then some false else(Avo K v3 v4 v17)))else none)else none)else none)else(Avo K v3 v4 v17)))
def A0i (K:Nat)(a0:Bm)(a1:Int):Option (Bool):=(if(0:Int)≤a1∧a1<(a0.fQ.length:Int)then((A1p K a0.fC (gt a0.fQ a1)).bind fun r1=>(bif (!r1)then some false else(Ar5 K K 0 ((gt a0.fQ a1).A9) ((gt a0.fQ a1).Bw) ((gt a0.fQ a1).De) ((gt a0.fQ a1).Ad) ((gt a0.fQ a1).Hp) a0.fC.Ad a0.fC.Ds a0.fC.B9 a0.fC.Eu a0.fC.Ca a0.fC.Dt a0.fP.Fi a0.fP.Gt a0.fP.Fj a0.fL a0.fQ a0.Jc)))else none)
def Bea:=fd Tryz.func146 ⟨[.v 38,.v 3],[.v 4],true⟩ (gC (Bmy K) (gC (Bib K) (gC (Bvn K) (gC (Bmw K) gN)))) [40,41,70,71,80,81,82,85,86] [31,63]
def B3a:Fs:=⟨[(2,.p 102),(7,.v 25),(8,.v 2)],[(102,.box [.v 2,.v 2,.v 2,.v 2,.v 2,.v 2,.v 24,.v 25,.v 25,.v 35,.v 36,.v 25])]⟩
def B0u:Fs:=⟨[(2,.p 102),(5,.p 105)],[(105,.box [.v 2,.v 2,.v 25,.v 25,.v 2]),(102,.box [.v 2,.v 2,.v 2,.v 2,.v 2,.v 2,.v 24,.v 25,.v 25,.v 35,.v 36,.v 25])]⟩
def B3b:Fs:=⟨[(2,.p 102),(5,.p 105),(6,.v 2)],[(105,.box [.v 2,.v 2,.v 25,.v 25,.v 2]),(102,.box [.v 2,.v 2,.v 2,.v 2,.v 2,.v 2,.v 24,.v 25,.v 25,.v 35,.v 36,.v 25])]⟩
def Bgj:=lp (Bea K) 2042 B3a [] (fun n a b _ _ _ _ _ _ _ _ _ l _ _=>Att K l a n b) (fun n=>kN)
def Bm0:=jn (Bea K) 63 B0u [] (fun _ b _ _ _ _ _ _ _ _ _ _ _ _ p _ _=>Art K b p) (kC (Bgj K K) kN)
def Bm1:=jn (Bea K) 31 B0u [] (fun a b _ _ _ _ _ _ _ _ _ _ _ _ p _ _=>Avo K a b p) (kC (Bm0 K) kN)
def Bjv:=lp (Bea K) 122 B3b [] (Ar5 K) (fun n=>(kC (up (Bm1 K)) kN))
def Bvo:=ct (Bea K) (A0i K) (kC (Bjv K K) kN)
def Aqv (K:Nat)(a1:Int)(r1:(List Int)):Nat->Int->Int->Int->Int->Int->Int->Int->(List Int)->(List Int)->(List Int)->(List Ax)->(List A7)->(List Int)->Option (Bool)
 |0,_,_,_,_,_,_,_,_,_,_,_,_,_=>none
 |n1+1,v2,v3,v4,v5,v6,v7,v8,v9,v10,v11,v12,v13,v14=>(bif (decide (v2<(r1.length:Int)))then(if(0:Int)≤a1∧a1<(v12.length:Int)then(if(0:Int)≤v2∧v2<(r1.length:Int)then((Atg K ((gt v12 a1).Ad) (gt r1 v2)).bind fun r15=>(bif (!r15)then some false else(Aqv K a1 r1 n1 (Arj .i64 v2 1) v3 v4 v5 v6 v7 v8 v9 v10 v11 v12 v13 v14)))else none)else none)else(if(0:Int)≤a1∧a1<(v12.length:Int)then some ((r1.length:Int)==(((gt v12 a1).Ad).length:Int))else none))
def Azf (K:Nat)(a0:Bm)(a1:Int):Option (Bool):=((Ayl K a0.fP a1).bind fun r1=>(Aqv K a1 r1 K 0 a0.fC.Ad a0.fC.Ds a0.fC.B9 a0.fC.Eu a0.fC.Ca a0.fC.Dt a0.fP.Fi a0.fP.Gt a0.fP.Fj a0.fL a0.fQ a0.Jc))
def Btv:=fd Tryz.func142 ⟨[.v 38,.v 3],[.v 4],true⟩ (gC (Bth K) (gC (Bd7 K) gN))
def B3c:Fs:=⟨[(1,.v 2),(2,.p 102),(5,.v 25),(6,.v 2)],[(102,.box [.v 2,.v 2,.v 2,.v 2,.v 2,.v 2,.v 24,.v 25,.v 25,.v 35,.v 36,.v 25])]⟩
def Bm2:=lp (Btv K) 58 B3c [] (fun n a b=>Aqv K a b n) (fun n=>kN)
def Bvp:=ct (Btv K) (Azf K) (kC (Bm2 K K) kN)
def Ar6 (K:Nat)(a0:Fc)(v1:Int)(v2:Int)(v3:Int)(v4:Int)(v5:Int)(v6:Int)(v7:Int)(v8:Int)(v9:Int)(v10:List Int)(v11:Int)(v12:Int)(v13:List Bl)(v14:List Int)(C1:Int->Int->Int->Int->Int->Int->Int->Int->Int->(List Int)->Int->Int->(List Bl)->(List Int)->Option (Bool)):Nat->Int->Bl->Option (Bool)
 |0,_,_=>none
 |n2+1,v16,v17=>(if a0.Ds≠(0:Int)then(bif (decide (v16≤(Aow .i64 (Ark .i64 (Arj .i64 v17.fAt v17.Xu) 1) a0.Ds)))then((Atg K v10 v16).bind fun r18=>(bif (!r18)then some false else(Ar6 K a0 v1 v2 v3 v4 v5 v6 v7 v8 v9 v10 v11 v12 v13 v14 C1 n2 (Arj .i64 v16 1) v17)))else(C1 (Arj .i64 v1 1) v2 v3 v4 v5 v6 v7 v8 v9 v10 v11 v12 v13 v14))else none)
def Aly (K:Nat)(a0:Fc):Nat->Int->Int->Int->Int->Int->Int->Int->Int->Int->(List Int)->Int->Int->(List Bl)->(List Int)->Option (Bool)
 |0,_,_,_,_,_,_,_,_,_,_,_,_,_,_=>none
 |n1+1,v1,v2,v3,v4,v5,v6,v7,v8,v9,v10,v11,v12,v13,v14=>(bif (decide (v1<(v13.length:Int)))then(if(0:Int)≤v1∧v1<(v13.length:Int)then((Awg K a0 (gt v13 v1)).bind fun r15=>(bif (!r15)then some false else(if a0.Ds≠(0:Int)then(Ar6 K a0 v1 v2 v3 v4 v5 v6 v7 v8 v9 v10 v11 v12 v13 v14 (Aly K a0 n1) K (Aow .i64 ((gt v13 v1).fAt) a0.Ds) (gt v13 v1))else none)))else none)else some true)
def A0j (K:Nat)(a0:Fc)(a1:Ax):Option (Bool):=(Aly K a0 K 0 a1.Gt a1.C5 a1.Mu a1.fUp a1.Gu a1.Bw a1.Gv a1.Gw a1.Ad a1.M7 a1.Gz a1.D3 a1.De)
def Bm3:=fd Tryz.func143 ⟨[.v 33,.v 77],[.v 4],true⟩ (gC (Btp K) (gC (Bd7 K) gN))
def B3d:Fs:=⟨[(2,.p 102),(3,.p 103),(5,.v 2),(6,.p 106),(7,.v 2)],[(106,.st 183 true),(103,.box [.v 2,.v 2,.v 2,.v 2,.v 2,.v 2,.v 2,.v 2,.v 25,.v 2,.v 2,.v 75,.v 25]),(102,.st 33 true)]⟩
def Bgk:=fun(C26:CT Bme _)=>lp (Bm3 K) 6734 B3d [(26,ar Bme C26)] (fun n a b c d e f g h i j k l m o p q r=>Ar6 K r a d e f g h i j k l m o p q (fun v1 v2 v3 v4 v5 v6 v7 v8 v9 v10 v11 v12 v13 v14=>C26 v1 v2 v3 v4 v5 v6 v7 v8 v9 v10 v11 v12 v13 v14 r) n b c) (fun n=>kN)
def Bm4:=lp (Bm3 K) 26 Bme [] (fun n a b c d e f g h i j k l m o p=>Aly K p n a b c d e f g h i j k l m o) (fun n=>(kC (Bgk K _ K) kN))
def Bvq:=ct (Bm3 K) (A0j K) (kC (Bm4 K K) kN)
def A3h (K:Nat)(a0:Bl)(a1:Bl):Option (Bool):=(bif (decide (a0.Xu<1))then some true else(bif (decide (a1.Xu<1))then some true else(bif (decide (a0.fAt≤a1.fAt))then(bif (decide ((Ark .i64 a1.fAt a0.fAt)≥a0.Xu))then some true else some (decide ((Ark .i64 a1.fAt a0.fAt)<0)))else(bif (decide ((Ark .i64 a0.fAt a1.fAt)≥a1.Xu))then some true else some (decide ((Ark .i64 a0.fAt a1.fAt)<0))))))
def Bvr:=ct (fd Tryz.func243 ⟨[.v 183,.v 183],[.v 4],true⟩ gN [7,8,25,26,41,42]) (A3h K)
def Ar7 (K:Nat)(a0:List Bl)(v1:Int)(C1:Int->Option (Bool)):Nat->Int->Option (Bool)
 |0,_=>none
 |n2+1,v2=>(bif (decide (v2<v1))then(if(0:Int)≤v1∧v1<(a0.length:Int)then(if(0:Int)≤v2∧v2<(a0.length:Int)then((A3h K (gt a0 v1) (gt a0 v2)).bind fun r3=>(bif (!r3)then some false else(Ar7 K a0 v1 C1 n2 (Arj .i64 v2 1))))else none)else none)else(C1 (Arj .i64 v1 1)))
def Alz (K:Nat)(a0:List Bl):Nat->Int->Option (Bool)
 |0,_=>none
 |n1+1,v1=>(bif (decide (v1<(a0.length:Int)))then(Ar7 K a0 v1 (Alz K a0 n1) K 0)else some true)
def A0k (K:Nat)(a0:List Bl):Option (Bool):=(Alz K a0 K 0)
def Bm5:=fd Tryz.func144 ⟨[.v 75],[.v 4],true⟩ (gC (Bvr K) gN)
def B3e:Fs:=⟨[(0,.v 75),(3,.v 2),(4,.v 2)],[]⟩
def Bvs:Fs:=⟨[(0,.v 75),(3,.v 2)],[]⟩
def Bgl:=fun(C26:CT Bvs _)=>lp (Bm5 K) 1682 B3e [(26,ar Bvs C26)] (fun n a b=>Ar7 K a b (C26 a) n) (fun n=>kN)
def Bm6:=lp (Bm5 K) 26 Bvs [] (fun n a=>Alz K a n) (fun n=>(kC (Bgl K _ K) kN))
def Bvt:=ct (Bm5 K) (A0k K) (kC (Bm6 K K) kN)
def Ayb (K:Nat)(v1:Int)(v2:Int)(v3:Int)(v4:Int)(v5:Int)(v6:Int)(v7:Int)(v8:Int)(v9:Int)(v10:Int)(v11:Int)(v12:List Int)(v13:Int)(v14:Int)(v15:List Bl)(v16:List Int)(v17:Int)(v18:Int)(v19:Int)(v20:Int)(v21:Int)(v22:Int)(v23:List Int)(v24:List Int)(v25:List Int)(v26:List Ax)(v27:List A7)(v28:List Int)(C1:Int->Int->Int->Int->Int->Int->Int->Int->Int->Int->Int->(List Int)->Int->Int->(List Bl)->(List Int)->Int->Int->Int->Int->Int->Int->(List Int)->(List Int)->(List Int)->(List Ax)->(List A7)->(List Int)->Option (Bool)):Option (Bool):=(C1 v1 v2 (Arj .i64 v3 1) v4 v5 v6 v7 v8 v9 v10 v11 v12 v13 v14 v15 v16 v17 v18 v19 v20 v21 v22 v23 v24 v25 v26 v27 v28)
def Ao9 (K:Nat):Nat->Int->Int->Int->Int->Int->Int->Int->Int->Int->Int->Int->(List Int)->Int->Int->(List Bl)->(List Int)->Int->Int->Int->Int->Int->Int->(List Int)->(List Int)->(List Int)->(List Ax)->(List A7)->(List Int)->Option (Bool)
 |0,_,_,_,_,_,_,_,_,_,_,_,_,_,_,_,_,_,_,_,_,_,_,_,_,_,_,_,_=>none
 |n1+1,v1,v2,v3,v4,v5,v6,v7,v8,v9,v10,v11,v12,v13,v14,v15,v16,v17,v18,v19,v20,v21,v22,v23,v24,v25,v26,v27,v28=>(bif (decide (v3<(v15.length:Int)))then(if(0:Int)≤v3∧v3<(v15.length:Int)then(bif (decide (((gt v15 v3).fAt)<v2))then(bif (decide ((Arj .i64 ((gt v15 v3).fAt) ((gt v15 v3).Xu))>v1))then some false else(Ayb K v1 v2 v3 v4 v5 v6 v7 v8 v9 v10 v11 v12 v13 v14 v15 v16 v17 v18 v19 v20 v21 v22 v23 v24 v25 v26 v27 v28 (Ao9 K n1)))else(Ayb K v1 v2 v3 v4 v5 v6 v7 v8 v9 v10 v11 v12 v13 v14 v15 v16 v17 v18 v19 v20 v21 v22 v23 v24 v25 v26 v27 v28 (Ao9 K n1)))else none)else(if(0:Int)≤v1∧v1≤v2∧v2≤(v23.length:Int)then((Auk K ((v23.drop v1.toNat).take (v2 - v1).toNat)).bind fun r29=>some r29)else none))
def A0l (K:Nat)(a0:Bm)(a1:Int):Option (Bool):=(if(0:Int)≤a1∧a1<(a0.fL.length:Int)then(bif (((gt a0.fL a1).M7)==0)then some true else(bif (decide ((Arj .i64 (Arl .i64 (Ark .i64 ((gt a0.fL a1).M7) 1) a0.fC.Ds) ((gt a0.fL a1).Gz))≥(Arl .i64 ((gt a0.fL a1).M7) a0.fC.Ds)))then some true else(Ao9 K K (Arj .i64 (Arl .i64 (Ark .i64 ((gt a0.fL a1).M7) 1) a0.fC.Ds) ((gt a0.fL a1).Gz)) (Arl .i64 ((gt a0.fL a1).M7) a0.fC.Ds) 0 ((gt a0.fL a1).Gt) ((gt a0.fL a1).C5) ((gt a0.fL a1).Mu) ((gt a0.fL a1).fUp) ((gt a0.fL a1).Gu) ((gt a0.fL a1).Bw) ((gt a0.fL a1).Gv) ((gt a0.fL a1).Gw) ((gt a0.fL a1).Ad) ((gt a0.fL a1).M7) ((gt a0.fL a1).Gz) ((gt a0.fL a1).D3) ((gt a0.fL a1).De) a0.fC.Ad a0.fC.Ds a0.fC.B9 a0.fC.Eu a0.fC.Ca a0.fC.Dt a0.fP.Fi a0.fP.Gt a0.fP.Fj a0.fL a0.fQ a0.Jc)))else none)
def Bm7:=fd Tryz.func145 ⟨[.v 38,.v 3],[.v 4],true⟩ (gC (Bib K) gN) [33,34,54,55] [2025]
def Br5:Fs:=⟨[(2,.p 102),(5,.p 105),(6,.v 2),(7,.v 2),(8,.v 2)],[(105,.box [.v 2,.v 2,.v 2,.v 2,.v 2,.v 2,.v 2,.v 2,.v 25,.v 2,.v 2,.v 75,.v 25]),(102,.box [.v 2,.v 2,.v 2,.v 2,.v 2,.v 2,.v 24,.v 25,.v 25,.v 35,.v 36,.v 25])]⟩
def Bgm:=fun(C506:CT Br5 _)=>jn (Bm7 K) 2025 Br5 [(506,ar Br5 C506)] (fun a b c d e f g h i j k l m o p q r s t u v w x y z a1 b1 c1=>Ayb K a b c d e f g h i j k l m o p q r s t u v w x y z a1 b1 c1 C506) kN
def Bjw:=lp (Bm7 K) 506 Br5 [] (Ao9 K) (fun n=>(kC (Bgm K _) kN))
def Bvu:=ct (Bm7 K) (A0l K) (kC (Bjw K K) kN)
def Aq0 (K:Nat)(v4:Int)(v5:Int)(v6:Int)(v7:Int)(v8:Int)(v9:Int)(v10:List Int)(v11:List Int)(v12:List Int)(v13:List Ax)(v14:List A7)(v15:List Int):Nat->Int->Option (Bool)
 |0,_=>none
 |n3+1,v23=>(bif (decide (v23<(v15.length:Int)))then(if(0:Int)≤v23∧v23<(v15.length:Int)then((Bd K (gt v15 v23) 0 255).bind fun r24=>(bif (!r24)then some false else(Aq0 K v4 v5 v6 v7 v8 v9 v10 v11 v12 v13 v14 v15 n3 (Arj .i64 v23 1))))else none)else((Azd K (Bm.mk (Fc.mk v4 v5 v6 v7 v8 v9) (Ed.mk v10 v11 v12) v13 v14 v15)).bind fun r25=>some r25))
def Atb (K:Nat)(v4:Int)(v5:Int)(v6:Int)(v7:Int)(v8:Int)(v9:Int)(v10:List Int)(v11:List Int)(v12:List Int)(v13:List Ax)(v14:List A7)(v15:List Int):Nat->Int->Option (Bool)
 |0,_=>none
 |n2+1,v21=>(bif (decide (v21<(v14.length:Int)))then((A0i K (Bm.mk (Fc.mk v4 v5 v6 v7 v8 v9) (Ed.mk v10 v11 v12) v13 v14 v15) v21).bind fun r22=>(bif (!r22)then some false else(Atb K v4 v5 v6 v7 v8 v9 v10 v11 v12 v13 v14 v15 n2 (Arj .i64 v21 1))))else(Aq0 K v4 v5 v6 v7 v8 v9 v10 v11 v12 v13 v14 v15 K 0))
def Aq2 (K:Nat):Nat->Int->Int->Int->Int->Int->Int->Int->(List Int)->(List Int)->(List Int)->(List Ax)->(List A7)->(List Int)->Option (Bool)
 |0,_,_,_,_,_,_,_,_,_,_,_,_,_=>none
 |n1+1,v3,v4,v5,v6,v7,v8,v9,v10,v11,v12,v13,v14,v15=>(bif (decide (v3<(v13.length:Int)))then(if(0:Int)≤v3∧v3<(v13.length:Int)then((Ath K (Fc.mk v4 v5 v6 v7 v8 v9) (gt v13 v3)).bind fun r16=>(bif r16 then((Azf K (Bm.mk (Fc.mk v4 v5 v6 v7 v8 v9) (Ed.mk v10 v11 v12) v13 v14 v15) v3).bind fun r17=>(bif r17 then(if(0:Int)≤v3∧v3<(v13.length:Int)then((A0j K (Fc.mk v4 v5 v6 v7 v8 v9) (gt v13 v3)).bind fun r18=>(bif r18 then(if(0:Int)≤v3∧v3<(v13.length:Int)then((A0k K ((gt v13 v3).D3)).bind fun r19=>(bif r19 then((A0l K (Bm.mk (Fc.mk v4 v5 v6 v7 v8 v9) (Ed.mk v10 v11 v12) v13 v14 v15) v3).bind fun r20=>(bif (!r20)then some false else(Aq2 K n1 (Arj .i64 v3 1) v4 v5 v6 v7 v8 v9 v10 v11 v12 v13 v14 v15)))else some false))else none)else some false))else none)else some false))else some false))else none)else(Atb K v4 v5 v6 v7 v8 v9 v10 v11 v12 v13 v14 v15 K 0))
def Ar8 (K:Nat)(a0:Bm):Option (Bool):=((Azx K a0.fC a0.fP).bind fun r1=>(bif r1 then(bif ((a0.fL.length:Int) != a0.fC.B9)then some false else((A2q K a0.fL).bind fun r2=>(bif (!r2)then some false else(Aq2 K K 0 a0.fC.Ad a0.fC.Ds a0.fC.B9 a0.fC.Eu a0.fC.Ca a0.fC.Dt a0.fP.Fi a0.fP.Gt a0.fP.Fj a0.fL a0.fQ a0.Jc))))else some false))
def Bih:=fd Tryz.func40 ⟨[.v 38],[.v 4],true⟩ (gC (Btm K) (gC (Bvk K) (gC (Bbu K) (gC (Bvp K) (gC (Bvq K) (gC (Bvt K) (gC (Bvu K) (gC (Bvo K) (gC (Azt K) (gC (Bvm K) gN)))))))))) [10,11,12,19,20,21,41,42,43,46,47,48,49,57,58,59,60,67,68,69,70]
def B3f:Fs:=⟨[(1,.p 101),(5,.v 2)],[(101,.box [.v 2,.v 2,.v 2,.v 2,.v 2,.v 2,.v 24,.v 25,.v 25,.v 35,.v 36,.v 25])]⟩
def B3g:Fs:=⟨[(1,.p 101),(4,.v 2)],[(101,.box [.v 2,.v 2,.v 2,.v 2,.v 2,.v 2,.v 24,.v 25,.v 25,.v 35,.v 36,.v 25])]⟩
def B3h:Fs:=⟨[(1,.p 101),(3,.v 2)],[(101,.box [.v 2,.v 2,.v 2,.v 2,.v 2,.v 2,.v 24,.v 25,.v 25,.v 35,.v 36,.v 25])]⟩
def Bjx:=lp (Bih K) 250 B3f [] (fun n a b c d e f g h i j k l m=>Aq0 K b c d e f g h i j k l m n a) (fun n=>kN)
def Bjy:=lp (Bih K) 122 B3g [] (fun n a b c d e f g h i j k l m=>Atb K b c d e f g h i j k l m n a) (fun n=>(kC (up (Bjx K K)) kN))
def Bm8:=lp (Bih K) 58 B3h [] (Aq2 K) (fun n=>(kC (up (Bjy K K)) kN))
def A8g:=ct (Bih K) (Ar8 K) (kC (Bm8 K K) kN)
def A3i (K:Nat)(a0:E5):Option (Bool):=((Axj K a0.fH).bind fun r1=>(bif r1 then(bif (decide (a0.Mu≥0))then some (decide (a0.fNo≥0))else some false)else some false))
def Bvv:=ct (fd Tryz.func385 ⟨[.v 42],[.v 4],true⟩ (gC (Bte K) gN) [5,6,9,10,11]) (A3i K)
def A1q (K:Nat)(a0:Ax)(a1:E5):Option (Bl×Bool):=(bif (a0.Gt != 1)then some ((Bl.mk 0 0 0),false)else(bif (a0.Mu != a1.Mu)then some ((Bl.mk 0 0 0),false)else((Bd K a1.fNo 0 (Ark .i64 (a0.D3.length:Int) 1)).bind fun r1=>(bif (!r1)then some ((Bl.mk 0 0 0),false)else(if(0:Int)≤a1.fNo∧a1.fNo<(a0.D3.length:Int)then some ((gt a0.D3 a1.fNo),true)else none)))))
def Bvw:=ct (fd Tryz.func386 ⟨[.v 77,.v 42],[.v 183,.v 4],true⟩ (gC (Azt K) gN) [8,9,14,15,16]) (A1q K)
def Awm (K:Nat)(a0:Bm)(a1:E5):Option (Int×Bl×Int):=((A3i K a1).bind fun r1=>(bif (!r1)then some ((-1),(Bl.mk 0 0 0),1)else((Aqp K a0 a1.fH).bind fun r2=>(bif (r2.2 != 0)then some ((-1),(Bl.mk 0 0 0),r2.2)else(if(0:Int)≤r2.1∧r2.1<(a0.fL.length:Int)then((A1q K (gt a0.fL r2.1) a1).bind fun r3=>(bif (!r3.2)then some ((-1),(Bl.mk 0 0 0),2)else some (r2.1,r3.1,0)))else none)))))
def Bm9:=ct (fd Tryz.func378 ⟨[.v 38,.v 42],[.v 3,.v 183,.v 3],true⟩ (gC (Bbs K) (gC (Bvv K) (gC (Bvw K) gN)))) (Awm K)
def A1r (K:Nat)(a0:Bl)(a1:Int)(a2:Int):Option (Bool):=(bif (decide (a1≥0))then(bif (decide (a2≥0))then(bif (decide (a1≤a0.Xu))then(bif (decide (a2≤(Ark .i64 a0.Xu a1)))then(bif (decide (a0.fAt<0))then some true else some (decide ((Arj .i64 a0.fAt a1)≥0)))else some false)else some false)else some false)else some false)
def Bna:=ct (fd Tryz.func387 ⟨[.v 183,.v 3,.v 3],[.v 4],true⟩ gN [8,9,11,12,13,17,18,19,25,26,27,30,31]) (A1r K)
def Ayt (K:Nat)(a0:List Int)(a1:Int)(a2:Int):Option (Bool):=(bif (decide (a1≥0))then(bif (decide (a2≥0))then(bif (decide (a1≤(a0.length:Int)))then some (decide (a2≤(Ark .i64 (a0.length:Int) a1)))else some false)else some false)else some false)
def Bnb:=ct (fd Tryz.func391 ⟨[.v 24,.v 3,.v 3],[.v 4],true⟩ gN [8,9,11,12,13,17,18,19]) (Ayt K)
def A3j (K:Nat)(a0:List Int)(a1:Int)(a2:Int):Option ((List Int)×Bool):=((Ayt K a0 a1 a2).bind fun r1=>(bif (!r1)then some (([]:List Int),false)else(if(0:Int)≤a1∧a1≤(Arj .i64 a1 a2)∧(Arj .i64 a1 a2)≤(a0.length:Int)then(if(([]:List Int)++((a0.drop a1.toNat).take ((Arj .i64 a1 a2) - a1).toNat)).length*1≤140737488355328∧(([]:List Int)++((a0.drop a1.toNat).take ((Arj .i64 a1 a2) - a1).toNat)).length≤maxLen then some ((([]:List Int)++((a0.drop a1.toNat).take ((Arj .i64 a1 a2) - a1).toNat)),true)else none)else none)))
def Bvx:=ct (fd Tryz.func388 ⟨[.v 24,.v 3,.v 3],[.n 24 true,.v 4],true⟩ (gC (Bnb K) gN)) (A3j K)
def Azg (K:Nat)(a0:List Int)(a1:Bl)(a2:Int)(a3:Int):Option ((List Int)×Bool):=((A1r K a1 a2 a3).bind fun r1=>(bif (!r1)then some (([]:List Int),false)else((A3j K a0 (Arj .i64 a1.fAt a2) a3).bind fun r2=>some (r2.1,r2.2))))
def Bvy:=ct (fd Tryz.func379 ⟨[.v 24,.v 183,.v 3,.v 3],[.n 24 true,.v 4],true⟩ (gC (Bna K) (gC (Bvx K) gN))) (Azg K)
def A4g (K:Nat)(a0:Bm)(a1:E5)(a2:Int)(a3:Int):Option (Bm×Fz):=((Aqo K a0).bind fun r1=>((Ar8 K a0).bind fun r2=>(bif (!r2)then some (r1,(Fz.mk 1 (Ce.mk 0 0) (E5.mk (Ce.mk 0 0) 0 0) [] 0 0 0))else((Awm K a0 a1).bind fun r3=>((Arb K a0 a1.fH).bind fun r4=>(bif (r3.2.2 != 0)then some (r1,(Fz.mk r3.2.2 (Ce.mk 0 0) (E5.mk (Ce.mk 0 0) 0 0) [] r4 0 0))else((Azg K a0.fP.Fi r3.2.1 a2 a3).bind fun r5=>(bif (!r5.2)then some (r1,(Fz.mk 7 (Ce.mk 0 0) (E5.mk (Ce.mk 0 0) 0 0) [] r4 0 0))else some (r1,(Fz.mk r3.2.2 (Ce.mk 0 0) (E5.mk (Ce.mk 0 0) 0 0) r5.1 r4 0 0))))))))))
def Bvz:=ct (fd Tryz.func358 ⟨[.v 38,.v 42,.v 3,.v 3],[.n 38 true,.n 44 true],false⟩ (gC (A8g K) (gC (A7a K) (gC (A9v K) (gC (Bm9 K) (gC (Bvy K) gN))))) [] [] [(7,[.take 114 7 6831]),(11,[.take 114 7 6831])]) (A4g K)
def Atl (K:Nat)(a1:Int)(a2:List Int):Nat->(List Int)->Int->Option ((List Int)×Bool)
 |0,_,_=>none
 |n1+1,v2,v3=>(bif (decide (v3<(a2.length:Int)))then(if(0:Int)≤v3∧v3<(a2.length:Int)then(if(0:Int)≤(Arj .i64 a1 v3)∧(Arj .i64 a1 v3)<(v2.length:Int)then(Atl K a1 a2 n1 (v2.set (Arj .i64 a1 v3).toNat (gt a2 v3)) (Arj .i64 v3 1))else none)else none)else some (v2,true))
def A3k (K:Nat)(a0:List Int)(a1:Int)(a2:List Int):Option ((List Int)×Bool):=(if(([]:List Int)++a0).length*1≤140737488355328∧(([]:List Int)++a0).length≤maxLen then((Ayt K a0 a1 (a2.length:Int)).bind fun r1=>(bif (!r1)then some ((([]:List Int)++a0),false)else(Atl K a1 a2 K (([]:List Int)++a0) 0)))else none)
def Btw:=fd Tryz.func389 ⟨[.v 24,.v 3,.v 24],[.n 24 true,.v 4],true⟩ (gC (Bnb K) gN)
def B3i:Fs:=⟨[(1,.v 2),(2,.v 24),(8,.o 1008 5 true),(9,.v 2)],[]⟩
def Bjz:=lp (Btw K) 122 B3i [] (fun n a b=>Atl K a b n) (fun n=>kN)
def Bv0:=ct (Btw K) (A3k K) (kC (Bjz K K) kN)
def Ayc (K:Nat)(a0:List Int)(a1:Bl)(a2:Int)(a3:List Int):Option ((List Int)×Bool):=((A1r K a1 a2 (a3.length:Int)).bind fun r1=>(bif (!r1)then(if(([]:List Int)++a0).length*1≤140737488355328∧(([]:List Int)++a0).length≤maxLen then some ((([]:List Int)++a0),false)else none)else((A3k K a0 (Arj .i64 a1.fAt a2) a3).bind fun r2=>some (r2.1,r2.2))))
def Bv1:=ct (fd Tryz.func380 ⟨[.v 24,.v 183,.v 3,.v 24],[.n 24 true,.v 4],true⟩ (gC (Bna K) (gC (Bv0 K) gN))) (Ayc K)
def A3l (K:Nat)(a0:Bm)(a1:E5)(a2:Int)(a3:List Int):Option (Bm×Fz):=((Aqo K a0).bind fun r1=>((Ar8 K a0).bind fun r2=>(bif (!r2)then some (r1,(Fz.mk 1 (Ce.mk 0 0) (E5.mk (Ce.mk 0 0) 0 0) [] 0 0 0))else((Awm K a0 a1).bind fun r3=>((Arb K a0 a1.fH).bind fun r4=>(bif (r3.2.2 != 0)then some (r1,(Fz.mk r3.2.2 (Ce.mk 0 0) (E5.mk (Ce.mk 0 0) 0 0) [] r4 0 0))else((Ayc K a0.fP.Fi r3.2.1 a2 a3).bind fun r5=>(bif (!r5.2)then some (r1,(Fz.mk 7 (Ce.mk 0 0) (E5.mk (Ce.mk 0 0) 0 0) [] r4 0 0))else some ((Bm.mk r1.fC (Ed.mk r5.1 r1.fP.Gt r1.fP.Fj) r1.fL r1.fQ r1.Jc),(Fz.mk r3.2.2 (Ce.mk 0 0) (E5.mk (Ce.mk 0 0) 0 0) [] r4 0 0))))))))))
def Bv2:=ct (fd Tryz.func359 ⟨[.v 38,.v 42,.v 3,.v 24],[.n 38 true,.n 44 true],false⟩ (gC (A8g K) (gC (A7a K) (gC (A9v K) (gC (Bm9 K) (gC (Bv1 K) gN))))) [] [] [(7,[.take 114 7 6831]),(11,[.take 114 7 6831]),(13,[.take 114 7 6831])]) (A3l K)
def A3m (K:Nat)(v7:Fz)(v10:Bm):Option (Bm×Fz):=some (v10,v7)
def A1s (K:Nat)(a2:Int)(r1:Bm)(v6:Int)(v7:Fz)(v8:Fz)(v9:Bm):Option (Bm×Fz):=(bif (v7.Zb==0)then(if(0:Int)≤v6∧v6<(r1.fL.length:Int)then(if(0:Int)≤v6∧v6<(r1.fL.length:Int)then(if(((gt r1.fL v6).De)++([a2]:List Int)).length*8≤140737488355328∧(((gt r1.fL v6).De)++([a2]:List Int)).length≤maxLen then(if(0:Int)≤v6∧v6<(r1.fL.length:Int)then(A3m K v7 (Bm.mk r1.fC r1.fP (r1.fL.set v6.toNat (Ax.mk ((gt r1.fL v6).Gt) ((gt r1.fL v6).C5) ((gt r1.fL v6).Mu) ((gt r1.fL v6).fUp) ((gt r1.fL v6).Gu) ((gt r1.fL v6).Bw) ((gt r1.fL v6).Gv) ((gt r1.fL v6).Gw) ((gt r1.fL v6).Ad) ((gt r1.fL v6).M7) ((gt r1.fL v6).Gz) ((gt r1.fL v6).D3) (((gt r1.fL v6).De)++([a2]:List Int)))) r1.fQ r1.Jc))else none)else none)else none)else none)else(A3m K v7 r1))
def A5b (K:Nat)(a0:Bm)(a1:Ce)(a2:Int):Option (Bm×Fz):=((Aqo K a0).bind fun r1=>((Ar8 K a0).bind fun r2=>(bif r2 then((Bd K a2 0 255).bind fun r3=>(bif (!r3)then some (r1,(Fz.mk 1 (Ce.mk 0 0) (E5.mk (Ce.mk 0 0) 0 0) [] 0 0 0))else((Aqp K a0 a1).bind fun r4=>((Arb K a0 a1).bind fun r5=>(bif (r4.2==0)then(if(0:Int)≤r4.1∧r4.1<(a0.fL.length:Int)then(bif (decide ((((gt a0.fL r4.1).De).length:Int)≥6))then(A1s K a2 r1 r4.1 (Fz.mk 8 (Ce.mk 0 0) (E5.mk (Ce.mk 0 0) 0 0) [] r5 0 0) (Fz.mk 0 (Ce.mk 0 0) (E5.mk (Ce.mk 0 0) 0 0) [] 0 0 0) (Bm.mk (Fc.mk 0 0 0 0 0 0) (Ed.mk [] [] []) [] [] []))else(A1s K a2 r1 r4.1 (Fz.mk r4.2 (Ce.mk 0 0) (E5.mk (Ce.mk 0 0) 0 0) [] r5 0 0) (Fz.mk 0 (Ce.mk 0 0) (E5.mk (Ce.mk 0 0) 0 0) [] 0 0 0) (Bm.mk (Fc.mk 0 0 0 0 0 0) (Ed.mk [] [] []) [] [] [])))else none)else(A1s K a2 r1 r4.1 (Fz.mk r4.2 (Ce.mk 0 0) (E5.mk (Ce.mk 0 0) 0 0) [] r5 0 0) (Fz.mk 0 (Ce.mk 0 0) (E5.mk (Ce.mk 0 0) 0 0) [] 0 0 0) (Bm.mk (Fc.mk 0 0 0 0 0 0) (Ed.mk [] [] []) [] [] [])))))))else some (r1,(Fz.mk 1 (Ce.mk 0 0) (E5.mk (Ce.mk 0 0) 0 0) [] 0 0 0)))))
def Bnc:=fd Tryz.func360 ⟨[.v 38,.v 40,.v 3],[.n 38 true,.n 44 true],false⟩ (gC (A8g K) (gC (A7a K) (gC (Azt K) (gC (Bbs K) (gC (A9v K) gN))))) [15,16,17,36,37] [63,127] [(9,[.take 108 9 6737,.opn 6737 (.tmp 9),.takeE 6737 12 87180]),(10,[.take 108 6 6734,.take 108 7 6735,.take 108 8 6736,.take 108 9 6737,.take 108 10 6738,.take 108 11 6739,.take 111 7 6783])]
def B3j:Fs:=⟨[(6,.p 106),(7,.p 107),(8,.p 108),(11,.p 111)],[(111,.st 44 true),(108,.st 38 true),(107,.st 44 true),(106,.st 38 true)]⟩
def B3k:Fs:=⟨[(2,.v 2),(6,.p 106),(7,.p 107),(8,.p 108),(9,.v 2),(11,.p 111)],[(111,.st 44 true),(108,.st 38 true),(107,.st 44 true),(106,.st 38 true)]⟩
def Bj0:=jn (Bnc K) 127 B3j [] (fun a b _ _=>A3m K a b) kN
def Bnd:=jn (Bnc K) 63 B3k [] (fun a b c d=>A1s K a d b c) (kC (Bj0 K) kN)
def Bv3:=ct (Bnc K) (A5b K) (kC (Bnd K) kN)
def A3x (K:Nat)(a0:Fc)(a1:Ax):Option (Int):=(bif (a1.M7==0)then some 0 else((Ath K a0 a1).bind fun r1=>(bif (!r1)then some 0 else some (Ark .i64 a0.Ds a1.Gz))))
def Bv4:=ct (fd Tryz.func381 ⟨[.v 33,.v 77],[.v 3],true⟩ (gC (Bbu K) gN) [7,8]) (A3x K)
def A1t (K:Nat)(r1:Bm)(v6:Fz)(v7:Fz)(v8:Bm):Option (Bm×Fz):=some (r1,v6)
def A3n (K:Nat)(a0:Bm)(a1:Ce):Option (Bm×Fz):=((Aqo K a0).bind fun r1=>((Ar8 K a0).bind fun r2=>(bif (!r2)then some (r1,(Fz.mk 1 (Ce.mk 0 0) (E5.mk (Ce.mk 0 0) 0 0) [] 0 0 0))else((Aqp K a0 a1).bind fun r3=>((Arb K a0 a1).bind fun r4=>(bif (r3.2==0)then(if(0:Int)≤r3.1∧r3.1<(a0.fL.length:Int)then((A3x K a0.fC (gt a0.fL r3.1)).bind fun r5=>(A1t K r1 (Fz.mk r3.2 (Ce.mk 0 0) (E5.mk (Ce.mk 0 0) 0 0) ([(IntKind.u8.wrap (((gt a0.fL r3.1).Ad).length:Int)),(IntKind.u8.wrap (((gt a0.fL r3.1).D3).length:Int)),(IntKind.u8.wrap (((gt a0.fL r3.1).De).length:Int)),(IntKind.u8.wrap r5)]:List Int) r4 0 0) (Fz.mk 0 (Ce.mk 0 0) (E5.mk (Ce.mk 0 0) 0 0) [] 0 0 0) (Bm.mk (Fc.mk 0 0 0 0 0 0) (Ed.mk [] [] []) [] [] [])))else none)else(A1t K r1 (Fz.mk r3.2 (Ce.mk 0 0) (E5.mk (Ce.mk 0 0) 0 0) [] r4 0 0) (Fz.mk 0 (Ce.mk 0 0) (E5.mk (Ce.mk 0 0) 0 0) [] 0 0 0) (Bm.mk (Fc.mk 0 0 0 0 0 0) (Ed.mk [] [] []) [] [] []))))))))
def Btx:=fd Tryz.func361 ⟨[.v 38,.v 40],[.n 38 true,.n 44 true],false⟩ (gC (A8g K) (gC (A7a K) (gC (Bbs K) (gC (A9v K) (gC (Bv4 K) gN))))) [] [63] [(9,[.take 106 6 6702,.take 106 7 6703,.take 106 8 6704,.take 106 9 6705,.take 106 10 6706,.take 106 11 6707,.take 109 7 6751])]
def B3l:Fs:=⟨[(4,.p 104),(5,.p 105),(6,.p 106),(9,.p 109)],[(109,.st 44 true),(106,.st 38 true),(105,.st 44 true),(104,.st 38 true)]⟩
def Bne:=jn (Btx K) 63 B3l [] (fun a b=>A1t K b a) kN
def Bv5:=ct (Btx K) (A3n K) (kC (Bne K) kN)
def A2r (K:Nat)(a0:Bm)(a1:Df):Option (Bm×Fz):=(bif (a1.Zd==3)then((A4g K a0 a1.fR a1.fN a1.fM).bind fun r1=>some (r1.1,r1.2))else(bif (a1.Zd==4)then((A3l K a0 a1.fR a1.fN a1.fB).bind fun r2=>some (r2.1,r2.2))else(bif (a1.Zd==5)then((A5b K a0 a1.fH a1.fN).bind fun r3=>some (r3.1,r3.2))else(bif (a1.Zd==8)then((A3n K a0 a1.fH).bind fun r4=>some (r4.1,r4.2))else((Aqo K a0).bind fun r5=>some (r5,(Fz.mk 1 (Ce.mk 0 0) (E5.mk (Ce.mk 0 0) 0 0) [] 0 0 0)))))))
def Bv6:=ct (fd Tryz.func311 ⟨[.v 38,.v 55],[.n 38 true,.n 44 true],false⟩ (gC (A7a K) (gC (Bvz K) (gC (Bv2 K) (gC (Bv3 K) (gC (Bv5 K) gN)))))) (A2r K)
def A3y (K:Nat)(v31:Int)(v32:Int)(v33:Int)(v34:Int)(v35:Int)(v36:Int)(v37:List Int)(v38:List Int)(v39:List Int)(v40:List Ax)(v41:List A7)(v42:List Int)(v43:Fz):Option (Fz×Bm):=some (v43,(Bm.mk (Fc.mk v31 v32 v33 v34 v35 v36) (Ed.mk v37 v38 v39) v40 v41 v42))
def Ayu (K:Nat)(v4:Bool)(v5:Int)(v6:Int)(v7:Int)(v8:Int)(v9:Int)(v10:Int)(v11:List Int)(v12:List Int)(v13:List Int)(v14:List Ax)(v15:List A7)(v16:List Int)(v17:Fz)(v18:Int)(v19:Int)(v20:Int)(v21:Int)(v22:Int)(v23:Int)(v24:Int)(v25:Int)(v26:Int)(v27:List Int):Option (Fz×Bm):=(bif v4 then((Aqp K (Bm.mk (Fc.mk v5 v6 v7 v8 v9 v10) (Ed.mk v11 v12 v13) v14 v15 v16) (Ce.mk v19 v20)).bind fun r28=>((Arb K (Bm.mk (Fc.mk v5 v6 v7 v8 v9 v10) (Ed.mk v11 v12 v13) v14 v15 v16) (Ce.mk v19 v20)).bind fun r29=>(bif (r28.2 != 0)then some ((Fz.mk r28.2 (Ce.mk 0 0) (E5.mk (Ce.mk 0 0) 0 0) [] r29 0 0),(Bm.mk (Fc.mk v5 v6 v7 v8 v9 v10) (Ed.mk v11 v12 v13) v14 v15 v16))else(bif (v18==6)then((Aya K (Bm.mk (Fc.mk v5 v6 v7 v8 v9 v10) (Ed.mk v11 v12 v13) v14 v15 v16) r28.1).bind fun r30=>(A3y K r30.fC.Ad r30.fC.Ds r30.fC.B9 r30.fC.Eu r30.fC.Ca r30.fC.Dt r30.fP.Fi r30.fP.Gt r30.fP.Fj r30.fL r30.fQ r30.Jc (Fz.mk r28.2 (Ce.mk 0 0) (E5.mk (Ce.mk 0 0) 0 0) [] r29 0 0)))else((A0g K (Bm.mk (Fc.mk v5 v6 v7 v8 v9 v10) (Ed.mk v11 v12 v13) v14 v15 v16) r28.1).bind fun r44=>(A3y K r44.fC.Ad r44.fC.Ds r44.fC.B9 r44.fC.Eu r44.fC.Ca r44.fC.Dt r44.fP.Fi r44.fP.Gt r44.fP.Fj r44.fL r44.fQ r44.Jc (Fz.mk r28.2 (Ce.mk 0 0) (E5.mk (Ce.mk 0 0) 0 0) [] r29 0 0)))))))else((A2r K (Bm.mk (Fc.mk v5 v6 v7 v8 v9 v10) (Ed.mk v11 v12 v13) v14 v15 v16) (Df.mk v18 (Ce.mk v19 v20) (E5.mk (Ce.mk v21 v22) v23 v24) v25 v26 v27)).bind fun r45=>some (r45.2,r45.1)))
def A3o (K:Nat)(a0:Bm)(a1:Df):Option (Fz×Bm):=(bif (a1.Zd==1)then((A1k K a0 a1.fH).bind fun r1=>some (r1.1,r1.2))else(bif (a1.Zd==2)then((A0f K a0 a1.fH a1.fN a1.fM).bind fun r2=>some (r2.1,r2.2))else(bif (a1.Zd==9)then((Ayo K a0 4000).bind fun r3=>some ((Fz.mk 0 (Ce.mk 0 0) (E5.mk (Ce.mk 0 0) 0 0) [] 0 0 r3.1),r3.2))else(bif (a1.Zd==6)then(Ayu K (a1.Zd==6) a0.fC.Ad a0.fC.Ds a0.fC.B9 a0.fC.Eu a0.fC.Ca a0.fC.Dt a0.fP.Fi a0.fP.Gt a0.fP.Fj a0.fL a0.fQ a0.Jc (Fz.mk 0 (Ce.mk 0 0) (E5.mk (Ce.mk 0 0) 0 0) [] 0 0 0) a1.Zd a1.fH.A9 a1.fH.C5 a1.fR.fH.A9 a1.fR.fH.C5 a1.fR.Mu a1.fR.fNo a1.fN a1.fM a1.fB)else(Ayu K (a1.Zd==7) a0.fC.Ad a0.fC.Ds a0.fC.B9 a0.fC.Eu a0.fC.Ca a0.fC.Dt a0.fP.Fi a0.fP.Gt a0.fP.Fj a0.fL a0.fQ a0.Jc (Fz.mk 0 (Ce.mk 0 0) (E5.mk (Ce.mk 0 0) 0 0) [] 0 0 0) a1.Zd a1.fH.A9 a1.fH.C5 a1.fR.fH.A9 a1.fR.fH.C5 a1.fR.Mu a1.fR.fNo a1.fN a1.fM a1.fB)))))
def Bnf:=fd Tryz.func253 ⟨[.b 38 false,.v 55],[.v 44],false⟩ (gC (Bmk K) (gC (B0k K) (gC (B0r K) (gC (Bbs K) (gC (A9v K) (gC (B0t K) (gC (Bvg K) (gC (Bv6 K) gN)))))))) [] [1727,55287] [(10,[.take 1 6 5022,.take 1 7 5023,.take 1 8 5024,.take 1 9 5025,.take 1 10 5026,.take 1 11 5027]),(13,[.take 107 7 6719]),(15,[.put 1]),(16,[.put 1]),(17,[.take 107 7 6719]),(18,[.take 1 6 5022,.take 1 7 5023,.take 1 8 5024,.take 1 9 5025,.take 1 10 5026,.take 1 11 5027,.frz 5022,.frz 5023,.frz 5024,.frz 5025,.frz 5026,.frz 5027])]
def B3m:Fs:=⟨[(4,.p 104),(7,.p 107)],[(1,.box [.v 2,.v 2,.v 2,.v 2,.v 2,.v 2,.T 5 true,.T 3 true,.T 3 true,.T 77 true,.T 79 false,.T 3 true]),(107,.st 44 true),(104,.st 44 true)]⟩
def B3n:Fs:=⟨[(0,.p 1),(3,.p 103),(4,.p 104),(33,.v 4)],[(1,.box [.v 2,.v 2,.v 2,.v 2,.v 2,.v 2,.T 5 true,.T 3 true,.T 3 true,.T 77 true,.T 79 false,.T 3 true]),(104,.st 44 true),(103,.box [.v 2,.v 2,.v 2,.v 2,.v 2,.v 2,.v 2,.v 2,.v 2,.v 24])]⟩
def Beb:=jn (Bnf K) 55287 B3m [] (fun a b c d e f g h i j k l m _=>A3y K a b c d e f g h i j k l m) kN
def Bgn:=jn (Bnf K) 1727 B3n [] (Ayu K) (kC (Beb K) kN)
def Bv7:=ct (Bnf K) (A3o K) (kC (Bgn K) kN)
def Axo (K:Nat):Nat->(List Df)->Int->(List Int)->Int->Int->Bm->Fc->Bm->Fc->Option (Fc×(List Df)×Bm×Ew)
 |0,_,_,_,_,_,_,_,_,_=>none
 |n1+1,v4,v5,v6,v7,v8,v9,v10,v11,v12=>(bif (decide (v5>0))then(bif (decide ((v4.length:Int)<200))then((Ayj K (Ew.mk v6 v7 v8) v9).bind fun r13=>(if r13.2.2.1.length=v9.fP.Fi.length∧r13.2.2.2.1.length=v9.fP.Gt.length∧r13.2.2.2.2.1.length=v9.fP.Fj.length∧r13.2.2.2.2.2.1.length=v9.fL.length∧r13.2.2.2.2.2.2.1.length=v9.fQ.length∧r13.2.2.2.2.2.2.2.length=v9.Jc.length then(if(v4++([r13.1]:List Df)).length*96≤140737488355328∧(v4++([r13.1]:List Df)).length≤maxLen then((A3o K (Bm.mk v9.fC (Ed.mk r13.2.2.1 r13.2.2.2.1 r13.2.2.2.2.1) r13.2.2.2.2.2.1 r13.2.2.2.2.2.2.1 r13.2.2.2.2.2.2.2) r13.1).bind fun r14=>(Axo K n1 (v4++([r13.1]:List Df)) (Ark .i64 v5 1) r13.2.1.fb r13.2.1.fi r13.2.1.fh r14.2 v10 v11 v12))else none)else none))else some (v10,v4,v9,(Ew.mk v6 v7 v8)))else some (v10,v4,v9,(Ew.mk v6 v7 v8)))
def A2s (K:Nat)(a0:Ew)(a1:Int):Option (Fc×(List Df)×Bm×Ew):=((Azr K a0).bind fun r1=>((Atz K r1.1).bind fun r2=>((Ap K r1.2 a1).bind fun r3=>(Axo K K ([]:List Df) (Arj .i64 4 r3.1) r3.2.fb r3.2.fi r3.2.fh r2 r1.1 (Bm.mk (Fc.mk 0 0 0 0 0 0) (Ed.mk [] [] []) [] [] []) (Fc.mk 0 0 0 0 0 0)))))
def Bty:=fd Tryz.func157 ⟨[.b 171 false,.v 3],[.v 33,.n 81 false,.n 38 false],false⟩ (gC (Bta K) (gC (Btd K) (gC (A5x K) (gC (Byx K) (gC (Bv7 K) gN))))) [22,23] [] [(4,[.put 108,.take 108 10 6738,.shal 6738,.put 108,.shal 1009]),(7,[.take 108 6 6734,.take 108 7 6735,.take 108 8 6736,.take 108 9 6737,.take 108 10 6738,.take 108 11 6739]),(9,[.put 108]),(10,[.take 108 6 6734,.take 108 7 6735,.take 108 8 6736,.take 108 9 6737,.take 108 10 6738,.take 108 11 6739])] [(32,[.frz 3032])]
def B3o:Fs:=⟨[(0,.p 1),(4,.p 104),(6,.p 106),(7,.p 107),(8,.p 108),(9,.o 1009 55 false),(10,.v 2)],[(1,.box [.v 24,.v 2,.v 2]),(108,.st 38 false),(107,.st 33 true),(106,.st 38 true),(104,.st 33 true)]⟩
def Bj1:=lp (Bty K) 250 B3o [] (Axo K) (fun n=>kN)
def Bv8:=ct (Bty K) (A2s K) (kC (Bj1 K K) kN)
def Axp (K:Nat)(a0:Ew)(a1:Int):Option (Bm×Ew):=((A2s K a0 a1).bind fun r1=>some (r1.2.2.1,r1.2.2.2))
def Bng:=ct (fd Tryz.func112 ⟨[.b 171 false,.v 3],[.n 38 false],false⟩ (gC (Bv8 K) gN)) (Axp K)
def Azh (K:Nat)(a0:List Int):Option (Bm×Df):=((Ay8 K a0).bind fun r1=>((Azs K a0 50).bind fun r2=>((Axp K r1 (Arj .i64 20 r2)).bind fun r3=>((Ayj K r3.2 r3.1).bind fun r4=>(if r4.2.2.1.length=r3.1.fP.Fi.length∧r4.2.2.2.1.length=r3.1.fP.Gt.length∧r4.2.2.2.2.1.length=r3.1.fP.Fj.length∧r4.2.2.2.2.2.1.length=r3.1.fL.length∧r4.2.2.2.2.2.2.1.length=r3.1.fQ.length∧r4.2.2.2.2.2.2.2.length=r3.1.Jc.length then some ((Bm.mk r3.1.fC (Ed.mk r4.2.2.1 r4.2.2.2.1 r4.2.2.2.2.1) r4.2.2.2.2.2.1 r4.2.2.2.2.2.2.1 r4.2.2.2.2.2.2.2),r4.1)else none)))))
def Bv9:=ct (fd Tryz.func23 ⟨[.v 24],[.n 38 false,.n 55 true],false⟩ (gC (Bu1 K) (gC (Bng K) (gC (Bza K) (gC (Btd K) gN))))) (Azh K)
def Awn (K:Nat)(a1:Fc)(v4:List Int)(v5:Int)(v6:Int)(v7:Bl):Option (Bl×Ew):=((Ap K (Ew.mk v4 v5 v6) a1.Ad).bind fun r8=>((Ap K r8.2 a1.Ds).bind fun r9=>((Ap K r9.2 (Ark .i64 a1.Ds r9.1)).bind fun r10=>some ((Bl.mk (Arj .i64 (Arl .i64 r8.1 a1.Ds) r9.1) (Arj .i64 1 r10.1) 0),r10.2))))
def A1u (K:Nat)(a0:Ew)(a1:Fc):Option (Bl×Ew):=((Aqm K a0 4).bind fun r1=>(bif r1.1 then(bif (decide (a1.Ad>2))then((Ap K r1.2 (Ark .i64 a1.Ad 1)).bind fun r2=>((Ap K r2.2 a1.Ds).bind fun r3=>some ((Bl.mk (Arl .i64 a1.Ds r2.1) (Arj .i64 (Arj .i64 a1.Ds 1) r3.1) 2),r3.2)))else(Awn K a1 r1.2.fb r1.2.fi r1.2.fh (Bl.mk 0 0 0)))else(Awn K a1 r1.2.fb r1.2.fi r1.2.fh (Bl.mk 0 0 0))))
def Btz:=fd Tryz.func340 ⟨[.b 171 false,.v 33],[.v 183],false⟩ (gC (A5x K) (gC (Bd5 K) gN)) [8,9] [3]
def B3p:Fs:=⟨[(0,.p 1),(3,.p 103),(4,.p 104)],[(1,.box [.v 24,.v 2,.v 2]),(104,.st 183 true),(103,.st 33 true)]⟩
def Br6:=jn (Btz K) 3 B3p [] (fun a b c d e=>Awn K e a b c d) kN
def Bwa:=ct (Btz K) (A1u K) (kC (Br6 K) kN)
def Axq (K:Nat):Nat->Int->(List Int)->Int->Int->Ax->Option (Ax×Ew)
 |0,_,_,_,_,_=>none
 |n4+1,v25,v26,v27,v28,v29=>(bif (decide (v25>0))then((Ap K (Ew.mk v26 v27 v28) 256).bind fun r30=>(if(v29.De++([r30.1]:List Int)).length*8≤140737488355328∧(v29.De++([r30.1]:List Int)).length≤maxLen then(Axq K n4 (Ark .i64 v25 1) r30.2.fb r30.2.fi r30.2.fh (Ax.mk v29.Gt v29.C5 v29.Mu v29.fUp v29.Gu v29.Bw v29.Gv v29.Gw v29.Ad v29.M7 v29.Gz v29.D3 (v29.De++([r30.1]:List Int))))else none))else some (v29,(Ew.mk v26 v27 v28)))
def Axr (K:Nat)(a1:Fc):Nat->Int->(List Int)->Int->Int->Ax->Option (Ax×Ew)
 |0,_,_,_,_,_=>none
 |n3+1,v18,v19,v20,v21,v22=>(bif (decide (v18>0))then((A1u K (Ew.mk v19 v20 v21) a1).bind fun r23=>(if(v22.D3++([r23.1]:List Bl)).length*24≤140737488355328∧(v22.D3++([r23.1]:List Bl)).length≤maxLen then(Axr K a1 n3 (Ark .i64 v18 1) r23.2.fb r23.2.fi r23.2.fh (Ax.mk v22.Gt v22.C5 v22.Mu v22.fUp v22.Gu v22.Bw v22.Gv v22.Gw v22.Ad v22.M7 v22.Gz (v22.D3++([r23.1]:List Bl)) v22.De))else none))else((Ap K (Ew.mk v19 v20 v21) 3).bind fun r24=>(Axq K K r24.1 r24.2.fb r24.2.fi r24.2.fh v22)))
def Axs (K:Nat)(a1:Fc)(v13:List Int)(v14:Int)(v15:Int)(v16:Ax):Option (Ax×Ew):=((Ap K (Ew.mk v13 v14 v15) 3).bind fun r17=>(Axr K a1 K r17.1 r17.2.fb r17.2.fi r17.2.fh v16))
def Axt (K:Nat)(a1:Fc):Nat->Int->(List Int)->Int->Int->Ax->Ax->Option (Ax×Ew)
 |0,_,_,_,_,_,_=>none
 |n1+1,v6,v7,v8,v9,v10,v11=>(bif (decide (v6>0))then(if(v10.Ad++([(Ark .i64 v6 1)]:List Int)).length*8≤140737488355328∧(v10.Ad++([(Ark .i64 v6 1)]:List Int)).length≤maxLen then(Axt K a1 n1 (Ark .i64 v6 1) v7 v8 v9 (Ax.mk v10.Gt v10.C5 v10.Mu v10.fUp v10.Gu v10.Bw v10.Gv v10.Gw (v10.Ad++([(Ark .i64 v6 1)]:List Int)) v10.M7 v10.Gz v10.D3 v10.De) v11)else none)else(bif (decide ((v10.Ad.length:Int)>0))then(if(0:Int)≤0∧0<(v10.Ad.length:Int)then((Ap K (Ew.mk v7 v8 v9) (Arj .i64 a1.Ds 1)).bind fun r12=>(Axs K a1 r12.2.fb r12.2.fi r12.2.fh (Ax.mk v10.Gt v10.C5 v10.Mu v10.fUp v10.Gu v10.Bw v10.Gv v10.Gw v10.Ad (Arj .i64 (gt v10.Ad 0) 1) r12.1 v10.D3 v10.De)))else none)else(Axs K a1 v7 v8 v9 v10)))
def A2t (K:Nat)(a0:Ew)(a1:Fc):Option (Ax×Ew):=((Ap K a0 a1.Dt).bind fun r1=>((Amo K (Arj .i64 1 r1.1)).bind fun r2=>((Ap K r1.2 4).bind fun r3=>(bif (r3.1 != 1)then some ((Ax.mk r3.1 r2.C5 r2.Mu r2.fUp r2.Gu r2.Bw r2.Gv r2.Gw r2.Ad r2.M7 r2.Gz r2.D3 r2.De),r3.2)else((Ap K r3.2 3).bind fun r4=>((Ap K r4.2 3).bind fun r5=>(Axt K a1 K r5.1 r5.2.fb r5.2.fi r5.2.fh (Ax.mk r3.1 r2.C5 r4.1 r2.fUp r2.Gu r2.Bw r2.Gv r2.Gw r2.Ad r2.M7 r2.Gz r2.D3 r2.De) (Ax.mk 0 0 0 0 0 0 0 0 [] 0 0 [] []))))))))
def Bec:=fd Tryz.func299 ⟨[.b 171 false,.v 33],[.n 77 false],false⟩ (gC (A5x K) (gC (Bd4 K) (gC (Bwa K) gN))) [] [127] [(9,[.take 105 8 6688]),(10,[.take 105 8 6688]),(17,[.take 105 11 6691]),(21,[.take 105 12 6692]),(22,[.take 105 8 6688,.take 105 11 6691,.take 105 12 6692])]
def B3q:Fs:=⟨[(0,.p 1),(4,.p 104),(5,.p 105),(9,.v 2)],[(1,.box [.v 24,.v 2,.v 2]),(105,.st 77 false),(104,.st 77 false)]⟩
def B0v:Fs:=⟨[(0,.p 1),(3,.p 103),(4,.p 104),(5,.p 105),(7,.v 2)],[(1,.box [.v 24,.v 2,.v 2]),(105,.st 77 false),(104,.st 77 false),(103,.st 33 true)]⟩
def B3r:Fs:=⟨[(0,.p 1),(3,.p 103),(4,.p 104),(5,.p 105)],[(1,.box [.v 24,.v 2,.v 2]),(105,.st 77 false),(104,.st 77 false),(103,.st 33 true)]⟩
def B3s:Fs:=⟨[(0,.p 1),(3,.p 103),(4,.p 104),(5,.p 105),(6,.v 2)],[(1,.box [.v 24,.v 2,.v 2]),(105,.st 77 false),(104,.st 77 false),(103,.st 33 true)]⟩
def Bgo:=lp (Bec K) 4090 B3q [] (fun n a b c d e _=>Axq K n a b c d e) (fun n=>kN)
def Bgp:=lp (Bec K) 2042 B0v [] (fun n a b c d e _ g=>Axr K g n a b c d e) (fun n=>(kC (up (Bgo K K)) kN))
def Bj2:=jn (Bec K) 127 B3r [] (fun a b c d _ f=>Axs K f a b c d) (kC (Bgp K K) kN)
def Bj3:=lp (Bec K) 506 B3s [] (fun n a b c d e f g=>Axt K g n a b c d e f) (fun n=>(kC (up (Bj2 K)) kN))
def Bwb:=ct (Bec K) (A2t K) (kC (Bj3 K K) kN)
def An3 (K:Nat)(v4:List Int)(v5:Int)(v6:Int)(v7:Ax)(v8:Ax):Option (Ax×Ew):=some (v7,(Ew.mk v4 v5 v6))
def A3p (K:Nat)(a0:Ew)(a1:Fc):Option (Ax×Ew):=((A2t K a0 a1).bind fun r1=>((Ap K r1.2 14).bind fun r2=>(bif (r2.1==0)then((Ap K r2.2 6).bind fun r3=>(An3 K r3.2.fb r3.2.fi r3.2.fh (Ax.mk (Ark .i64 r3.1 1) r1.1.C5 r1.1.Mu r1.1.fUp r1.1.Gu r1.1.Bw r1.1.Gv r1.1.Gw r1.1.Ad r1.1.M7 r1.1.Gz r1.1.D3 r1.1.De) (Ax.mk 0 0 0 0 0 0 0 0 [] 0 0 [] [])))else(bif (r2.1==1)then((K0 K r2.2 ([0,4,5]:List Int)).bind fun r9=>(if r9.2.2.length=([0,4,5]:List Int).length then(An3 K r9.2.1.fb r9.2.1.fi r9.2.1.fh (Ax.mk r1.1.Gt r9.1 r1.1.Mu r1.1.fUp r1.1.Gu r1.1.Bw r1.1.Gv r1.1.Gw r1.1.Ad r1.1.M7 r1.1.Gz r1.1.D3 r1.1.De) (Ax.mk 0 0 0 0 0 0 0 0 [] 0 0 [] []))else none))else(bif (r2.1==2)then((K0 K r2.2 ([(-1),1,8,9]:List Int)).bind fun r10=>(if r10.2.2.length=([(-1),1,8,9]:List Int).length then(An3 K r10.2.1.fb r10.2.1.fi r10.2.1.fh (Ax.mk r1.1.Gt r1.1.C5 r1.1.Mu r10.1 r1.1.Gu r1.1.Bw r1.1.Gv r1.1.Gw r1.1.Ad r1.1.M7 r1.1.Gz r1.1.D3 r1.1.De) (Ax.mk 0 0 0 0 0 0 0 0 [] 0 0 [] []))else none))else(bif (r2.1==3)then((K0 K r2.2 ([0,12,(-1)]:List Int)).bind fun r11=>(if r11.2.2.length=([0,12,(-1)]:List Int).length then(if(r1.1.Ad++([r11.1]:List Int)).length*8≤140737488355328∧(r1.1.Ad++([r11.1]:List Int)).length≤maxLen then(An3 K r11.2.1.fb r11.2.1.fi r11.2.1.fh (Ax.mk r1.1.Gt r1.1.C5 r1.1.Mu r1.1.fUp r1.1.Gu r1.1.Bw r1.1.Gv r1.1.Gw (r1.1.Ad++([r11.1]:List Int)) r1.1.M7 r1.1.Gz r1.1.D3 r1.1.De) (Ax.mk 0 0 0 0 0 0 0 0 [] 0 0 [] []))else none)else none))else(bif (r2.1==4)then((Ap K r2.2 4).bind fun r12=>(An3 K r12.2.fb r12.2.fi r12.2.fh (Ax.mk r1.1.Gt r1.1.C5 r1.1.Mu r1.1.fUp r1.1.Gu r1.1.Bw r1.1.Gv r1.1.Gw r1.1.Ad r12.1 r1.1.Gz r1.1.D3 r1.1.De) (Ax.mk 0 0 0 0 0 0 0 0 [] 0 0 [] [])))else(bif (r2.1==5)then((K0 K r2.2 ([0,8,17,(-1)]:List Int)).bind fun r13=>(if r13.2.2.length=([0,8,17,(-1)]:List Int).length then(An3 K r13.2.1.fb r13.2.1.fi r13.2.1.fh (Ax.mk r1.1.Gt r1.1.C5 r1.1.Mu r1.1.fUp r1.1.Gu r1.1.Bw r1.1.Gv r1.1.Gw r1.1.Ad r1.1.M7 r13.1 r1.1.D3 r1.1.De) (Ax.mk 0 0 0 0 0 0 0 0 [] 0 0 [] []))else none))else(bif (r2.1==6)then((K0 K r2.2 ([255,256,(-1)]:List Int)).bind fun r14=>(if r14.2.2.length=([255,256,(-1)]:List Int).length then(if(r1.1.De++([r14.1]:List Int)).length*8≤140737488355328∧(r1.1.De++([r14.1]:List Int)).length≤maxLen then(An3 K r14.2.1.fb r14.2.1.fi r14.2.1.fh (Ax.mk r1.1.Gt r1.1.C5 r1.1.Mu r1.1.fUp r1.1.Gu r1.1.Bw r1.1.Gv r1.1.Gw r1.1.Ad r1.1.M7 r1.1.Gz r1.1.D3 (r1.1.De++([r14.1]:List Int))) (Ax.mk 0 0 0 0 0 0 0 0 [] 0 0 [] []))else none)else none))else(bif (r2.1==7)then((Ap K r2.2 100).bind fun r15=>((Ap K r15.2 20).bind fun r16=>((Ap K r16.2 3).bind fun r17=>(if(r1.1.D3++([(Bl.mk r15.1 r16.1 r17.1)]:List Bl)).length*24≤140737488355328∧(r1.1.D3++([(Bl.mk r15.1 r16.1 r17.1)]:List Bl)).length≤maxLen then(An3 K r17.2.fb r17.2.fi r17.2.fh (Ax.mk r1.1.Gt r1.1.C5 r1.1.Mu r1.1.fUp r1.1.Gu r1.1.Bw r1.1.Gv r1.1.Gw r1.1.Ad r1.1.M7 r1.1.Gz (r1.1.D3++([(Bl.mk r15.1 r16.1 r17.1)]:List Bl)) r1.1.De) (Ax.mk 0 0 0 0 0 0 0 0 [] 0 0 [] []))else none))))else(An3 K r2.2.fb r2.2.fi r2.2.fh r1.1 (Ax.mk 0 0 0 0 0 0 0 0 [] 0 0 [] []))))))))))))
def Bt0:=fd Tryz.func230 ⟨[.b 171 false,.v 33],[.n 77 false],false⟩ (gC (A5x K) (gC (Bd2 K) (gC (Bwb K) gN))) [] [7] [(19,[.take 105 8 6688,.take 105 11 6691,.take 105 12 6692])]
def B3t:Fs:=⟨[(4,.p 104),(5,.p 105)],[(1,.box [.v 24,.v 2,.v 2]),(105,.st 77 false),(104,.st 77 false)]⟩
def Br7:=jn (Bt0 K) 7 B3t [] (An3 K) kN
def Bwc:=ct (Bt0 K) (A3p K) (kC (Br7 K) kN)
def Awo (K:Nat):Nat->Int->(List Int)->Int->Int->Ax->Option (Ax×Ew)
 |0,_,_,_,_,_=>none
 |n3+1,v23,v24,v25,v26,v27=>(bif (decide (v23>0))then((Ap K (Ew.mk v24 v25 v26) 256).bind fun r28=>(if(v27.De++([r28.1]:List Int)).length*8≤140737488355328∧(v27.De++([r28.1]:List Int)).length≤maxLen then(Awo K n3 (Ark .i64 v23 1) r28.2.fb r28.2.fi r28.2.fh (Ax.mk v27.Gt v27.C5 v27.Mu v27.fUp v27.Gu v27.Bw v27.Gv v27.Gw v27.Ad v27.M7 v27.Gz v27.D3 (v27.De++([r28.1]:List Int))))else none))else some (v27,(Ew.mk v24 v25 v26)))
def Awp (K:Nat)(v18:List Int)(v19:Int)(v20:Int)(v21:Ax):Option (Ax×Ew):=((Ap K (Ew.mk v18 v19 v20) 3).bind fun r22=>(Awo K K r22.1 r22.2.fb r22.2.fi r22.2.fh v21))
def Awq (K:Nat)(a1:Fc):Nat->Int->(List Int)->Int->Int->Ax->Ax->Option (Ax×Ew)
 |0,_,_,_,_,_,_=>none
 |n1+1,v7,v8,v9,v10,v11,v12=>(bif (decide (v7>0))then((Ap K (Ew.mk v8 v9 v10) 5).bind fun r13=>((K0 K r13.2 ([1,2,4]:List Int)).bind fun r14=>(if r14.2.2.length=([1,2,4]:List Int).length then((Axl K a1 v11 (Arj .i64 1 r13.1) r14.1).bind fun r15=>(Awq K a1 n1 (Ark .i64 v7 1) r14.2.1.fb r14.2.1.fi r14.2.1.fh r15.1 v12))else none)))else((Aqm K (Ew.mk v8 v9 v10) 3).bind fun r16=>(bif r16.1 then((At3 K a1 v11 2 (Arj .i64 a1.Ds 1)).bind fun r17=>(Awp K r16.2.fb r16.2.fi r16.2.fh r17.1))else(Awp K r16.2.fb r16.2.fi r16.2.fh v11))))
def A1v (K:Nat)(a0:Ew)(a1:Fc):Option (Ax×Ew):=((Ap K a0 a1.Dt).bind fun r1=>((Amo K (Arj .i64 1 r1.1)).bind fun r2=>((Ap K r1.2 2).bind fun r3=>((Ap K r3.2 2).bind fun r4=>((Ax1 K a1 (Ax.mk 1 r2.C5 r3.1 r2.fUp r2.Gu r2.Bw r2.Gv r2.Gw r2.Ad r2.M7 r2.Gz r2.D3 r2.De) r4.1).bind fun r5=>((Ap K r4.2 4).bind fun r6=>(Awq K a1 K r6.1 r6.2.fb r6.2.fi r6.2.fh r5.1 (Ax.mk 0 0 0 0 0 0 0 0 [] 0 0 [] []))))))))
def Bii:=fd Tryz.func341 ⟨[.b 171 false,.v 33],[.n 77 false],false⟩ (gC (A5x K) (gC (Bd2 K) (gC (Bd5 K) (gC (Bd4 K) (gC (Bmj K) (gC (Bts K) (gC (Btq K) gN))))))) [] [255] [(9,[.take 105 8 6688,.take 105 11 6691,.take 105 12 6692]),(11,[.take 105 8 6688,.take 105 11 6691,.take 105 12 6692]),(15,[.take 105 12 6692]),(16,[.take 105 8 6688,.take 105 11 6691,.take 105 12 6692])]
def B3u:Fs:=⟨[(0,.p 1),(4,.p 104),(5,.p 105),(8,.v 2)],[(1,.box [.v 24,.v 2,.v 2]),(105,.st 77 false),(104,.st 77 false)]⟩
def B3v:Fs:=⟨[(0,.p 1),(4,.p 104),(5,.p 105)],[(1,.box [.v 24,.v 2,.v 2]),(105,.st 77 false),(104,.st 77 false)]⟩
def Bgq:=lp (Bii K) 4090 B3u [] (fun n a b c d e _=>Awo K n a b c d e) (fun n=>kN)
def Bj4:=jn (Bii K) 255 B3v [] (fun a b c d _=>Awp K a b c d) (kC (Bgq K K) kN)
def Bgr:=lp (Bii K) 1018 B0v [] (fun n a b c d e f g=>Awq K g n a b c d e f) (fun n=>(kC (up (Bj4 K)) kN))
def Bwd:=ct (Bii K) (A1v K) (kC (Bgr K K) kN)
def Azi (K:Nat)(v12:List Int)(v13:Int)(v14:Int)(v15:A7):Option (A7×Ew):=some (v15,(Ew.mk v12 v13 v14))
def Awr (K:Nat)(v6:List Int)(v7:Int)(v8:Int)(v9:A7)(v10:A7):Option (A7×Ew):=((Aqm K (Ew.mk v6 v7 v8) 4).bind fun r11=>(bif r11.1 then(Azi K r11.2.fb r11.2.fi r11.2.fh (A7.mk v9.A9 v9.Bw ([]:List Int) ([]:List Int) 0))else(Azi K r11.2.fb r11.2.fi r11.2.fh v9)))
def A1w (K:Nat)(a0:Ew)(a1:Fc):Option (A7×Ew):=((A1v K a0 a1).bind fun r1=>((Ap K r1.2 (Arj .i64 a1.B9 1)).bind fun r2=>((Awd K r1.1 r2.1).bind fun r3=>((Ap K r2.2 3).bind fun r4=>(bif (decide ((r3.Ad.length:Int)>0))then((Ap K r4.2 a1.Ds).bind fun r5=>(Awr K r5.2.fb r5.2.fi r5.2.fh (A7.mk r3.A9 r4.1 r3.De r3.Ad r5.1) (A7.mk 0 0 [] [] 0)))else(Awr K r4.2.fb r4.2.fi r4.2.fh (A7.mk r3.A9 r4.1 r3.De r3.Ad r3.Hp) (A7.mk 0 0 [] [] 0)))))))
def Bnh:=fd Tryz.func300 ⟨[.b 171 false,.v 33],[.n 79 true],false⟩ (gC (A5x K) (gC (Bd5 K) (gC (Bl7 K) (gC (Bwd K) gN)))) [] [15,31] [(9,[.take 105 2 6682,.take 105 3 6683])]
def B0w:Fs:=⟨[(4,.p 104),(5,.p 105)],[(1,.box [.v 24,.v 2,.v 2]),(105,.st 79 true),(104,.st 79 true)]⟩
def B3w:Fs:=⟨[(0,.p 1),(4,.p 104),(5,.p 105)],[(1,.box [.v 24,.v 2,.v 2]),(105,.st 79 true),(104,.st 79 true)]⟩
def Bni:=jn (Bnh K) 31 B0w [] (fun a b c d _=>Azi K a b c d) kN
def Bnj:=jn (Bnh K) 15 B3w [] (Awr K) (kC (Bni K) kN)
def Bwe:=ct (Bnh K) (A1w K) (kC (Bnj K) kN)
def Asz (K:Nat)(v4:List Int)(v5:Int)(v6:Int)(v7:A7)(v8:A7):Option (A7×Ew):=some (v7,(Ew.mk v4 v5 v6))
def A2u (K:Nat)(a0:Ew)(a1:Fc):Option (A7×Ew):=((A1w K a0 a1).bind fun r1=>((Ap K r1.2 10).bind fun r2=>(bif (r2.1==0)then((K0 K r2.2 ([(-1),0,8,9]:List Int)).bind fun r3=>(if r3.2.2.length=([(-1),0,8,9]:List Int).length then(Asz K r3.2.1.fb r3.2.1.fi r3.2.1.fh (A7.mk r3.1 r1.1.Bw r1.1.De r1.1.Ad r1.1.Hp) (A7.mk 0 0 [] [] 0))else none))else(bif (r2.1==1)then((K0 K r2.2 ([(-1),9,0]:List Int)).bind fun r9=>(if r9.2.2.length=([(-1),9,0]:List Int).length then(Asz K r9.2.1.fb r9.2.1.fi r9.2.1.fh (A7.mk r1.1.A9 r9.1 r1.1.De r1.1.Ad r1.1.Hp) (A7.mk 0 0 [] [] 0))else none))else(bif (r2.1==2)then((K0 K r2.2 ([(-1),0,8,16]:List Int)).bind fun r10=>(if r10.2.2.length=([(-1),0,8,16]:List Int).length then(Asz K r10.2.1.fb r10.2.1.fi r10.2.1.fh (A7.mk r1.1.A9 r1.1.Bw r1.1.De r1.1.Ad r10.1) (A7.mk 0 0 [] [] 0))else none))else(bif (r2.1==3)then((K0 K r2.2 ([(-1),255,256]:List Int)).bind fun r11=>(if r11.2.2.length=([(-1),255,256]:List Int).length then(if(r1.1.De++([r11.1]:List Int)).length*8≤140737488355328∧(r1.1.De++([r11.1]:List Int)).length≤maxLen then(Asz K r11.2.1.fb r11.2.1.fi r11.2.1.fh (A7.mk r1.1.A9 r1.1.Bw (r1.1.De++([r11.1]:List Int)) r1.1.Ad r1.1.Hp) (A7.mk 0 0 [] [] 0))else none)else none))else(bif (r2.1==4)then((K0 K r2.2 ([(-1),0,12]:List Int)).bind fun r12=>(if r12.2.2.length=([(-1),0,12]:List Int).length then(if(r1.1.Ad++([r12.1]:List Int)).length*8≤140737488355328∧(r1.1.Ad++([r12.1]:List Int)).length≤maxLen then(Asz K r12.2.1.fb r12.2.1.fi r12.2.1.fh (A7.mk r1.1.A9 r1.1.Bw r1.1.De (r1.1.Ad++([r12.1]:List Int)) r1.1.Hp) (A7.mk 0 0 [] [] 0))else none)else none))else(Asz K r2.2.fb r2.2.fi r2.2.fh r1.1 (A7.mk 0 0 [] [] 0)))))))))
def Bt1:=fd Tryz.func231 ⟨[.b 171 false,.v 33],[.n 79 true],false⟩ (gC (A5x K) (gC (Bd2 K) (gC (Bwe K) gN))) [] [7] [(13,[.take 105 2 6682,.take 105 3 6683])]
def Br8:=jn (Bt1 K) 7 B0w [] (Asz K) kN
def Bwf:=ct (Bt1 K) (A2u K) (kC (Br8 K) kN)
def Aac (K:Nat)(v5:List Int)(v6:Int)(v7:Int)(v8:Int)(v9:Int)(v10:Int)(v11:Int)(v12:Int)(v13:Int)(v14:List Int)(v15:List Int)(v16:List Int)(v17:List Ax)(v18:List A7)(v19:List Int)(v20:Int)(v21:Int)(v22:Int)(v23:Int)(v24:Int)(v25:Int)(v26:List Int)(v27:List Int)(v28:List Int)(v29:List Ax)(v30:List A7)(v31:List Int):Option (Bm×Ew):=some ((Bm.mk (Fc.mk v8 v9 v10 v11 v12 v13) (Ed.mk v14 v15 v16) v17 v18 v19),(Ew.mk v5 v6 v7))
def Az2 (K:Nat)(a0:Ew)(a1:Int):Option (Bm×Ew):=((Axp K a0 a1).bind fun r1=>((Ap K r1.2 (r1.1.fL.length:Int)).bind fun r2=>((Ap K r2.2 40).bind fun r3=>(bif (r3.1==0)then((A1d K r3.2).bind fun r4=>(Aac K r4.2.fb r4.2.fi r4.2.fh r4.1.Ad r4.1.Ds r4.1.B9 r4.1.Eu r4.1.Ca r4.1.Dt r1.1.fP.Fi r1.1.fP.Gt r1.1.fP.Fj r1.1.fL r1.1.fQ r1.1.Jc 0 0 0 0 0 0 [] [] [] [] [] []))else(bif (r3.1==1)then((Ap K r3.2 (r1.1.fP.Gt.length:Int)).bind fun r32=>((Ap K r32.2 4).bind fun r33=>(if(0:Int)≤r32.1∧r32.1<(r1.1.fP.Gt.length:Int)then(Aac K r33.2.fb r33.2.fi r33.2.fh r1.1.fC.Ad r1.1.fC.Ds r1.1.fC.B9 r1.1.fC.Eu r1.1.fC.Ca r1.1.fC.Dt r1.1.fP.Fi (r1.1.fP.Gt.set r32.1.toNat r33.1) r1.1.fP.Fj r1.1.fL r1.1.fQ r1.1.Jc 0 0 0 0 0 0 [] [] [] [] [] [])else none)))else(bif (r3.1==2)then((Ap K r3.2 (r1.1.fP.Fi.length:Int)).bind fun r34=>(if(0:Int)≤r34.1∧r34.1<(r1.1.fP.Fi.length:Int)then(Aac K r34.2.fb r34.2.fi r34.2.fh r1.1.fC.Ad r1.1.fC.Ds r1.1.fC.B9 r1.1.fC.Eu r1.1.fC.Ca r1.1.fC.Dt (r1.1.fP.Fi.set r34.1.toNat 9) r1.1.fP.Gt r1.1.fP.Fj r1.1.fL r1.1.fQ r1.1.Jc 0 0 0 0 0 0 [] [] [] [] [] [])else none))else(bif (r3.1==3)then((A3p K r3.2 r1.1.fC).bind fun r35=>(if(0:Int)≤r2.1∧r2.1<(r1.1.fL.length:Int)then(Aac K r35.2.fb r35.2.fi r35.2.fh r1.1.fC.Ad r1.1.fC.Ds r1.1.fC.B9 r1.1.fC.Eu r1.1.fC.Ca r1.1.fC.Dt r1.1.fP.Fi r1.1.fP.Gt r1.1.fP.Fj (r1.1.fL.set r2.1.toNat r35.1) r1.1.fQ r1.1.Jc 0 0 0 0 0 0 [] [] [] [] [] [])else none))else(bif (r3.1==4)then((Ap K r3.2 4).bind fun r36=>(if(0:Int)≤r2.1∧r2.1<(r1.1.fL.length:Int)then(Aty (r1.1.fL.set r2.1.toNat (Ax.mk r36.1 ((gt r1.1.fL r2.1).C5) ((gt r1.1.fL r2.1).Mu) ((gt r1.1.fL r2.1).fUp) ((gt r1.1.fL r2.1).Gu) ((gt r1.1.fL r2.1).Bw) ((gt r1.1.fL r2.1).Gv) ((gt r1.1.fL r2.1).Gw) ((gt r1.1.fL r2.1).Ad) ((gt r1.1.fL r2.1).M7) ((gt r1.1.fL r2.1).Gz) ((gt r1.1.fL r2.1).D3) ((gt r1.1.fL r2.1).De))) fun v37=>(Aac K r36.2.fb r36.2.fi r36.2.fh r1.1.fC.Ad r1.1.fC.Ds r1.1.fC.B9 r1.1.fC.Eu r1.1.fC.Ca r1.1.fC.Dt r1.1.fP.Fi r1.1.fP.Gt r1.1.fP.Fj v37 r1.1.fQ r1.1.Jc 0 0 0 0 0 0 [] [] [] [] [] []))else none))else(bif (r3.1==5)then((Ap K r3.2 4).bind fun r38=>(if(0:Int)≤r2.1∧r2.1<(r1.1.fL.length:Int)then(Aty (r1.1.fL.set r2.1.toNat (Ax.mk ((gt r1.1.fL r2.1).Gt) ((gt r1.1.fL r2.1).C5) ((gt r1.1.fL r2.1).Mu) r38.1 ((gt r1.1.fL r2.1).Gu) ((gt r1.1.fL r2.1).Bw) ((gt r1.1.fL r2.1).Gv) ((gt r1.1.fL r2.1).Gw) ((gt r1.1.fL r2.1).Ad) ((gt r1.1.fL r2.1).M7) ((gt r1.1.fL r2.1).Gz) ((gt r1.1.fL r2.1).D3) ((gt r1.1.fL r2.1).De))) fun v39=>(Aac K r38.2.fb r38.2.fi r38.2.fh r1.1.fC.Ad r1.1.fC.Ds r1.1.fC.B9 r1.1.fC.Eu r1.1.fC.Ca r1.1.fC.Dt r1.1.fP.Fi r1.1.fP.Gt r1.1.fP.Fj v39 r1.1.fQ r1.1.Jc 0 0 0 0 0 0 [] [] [] [] [] []))else none))else(bif (r3.1==6)then(if(0:Int)≤r2.1∧r2.1<(r1.1.fL.length:Int)then(if(0:Int)≤r2.1∧r2.1<(r1.1.fL.length:Int)then(Aty (r1.1.fL.set r2.1.toNat (Ax.mk ((gt r1.1.fL r2.1).Gt) ((gt r1.1.fL r2.1).C5) (Arj .i64 ((gt r1.1.fL r2.1).Mu) 1) ((gt r1.1.fL r2.1).fUp) ((gt r1.1.fL r2.1).Gu) ((gt r1.1.fL r2.1).Bw) ((gt r1.1.fL r2.1).Gv) ((gt r1.1.fL r2.1).Gw) ((gt r1.1.fL r2.1).Ad) ((gt r1.1.fL r2.1).M7) ((gt r1.1.fL r2.1).Gz) ((gt r1.1.fL r2.1).D3) ((gt r1.1.fL r2.1).De))) fun v40=>(Aac K r3.2.fb r3.2.fi r3.2.fh r1.1.fC.Ad r1.1.fC.Ds r1.1.fC.B9 r1.1.fC.Eu r1.1.fC.Ca r1.1.fC.Dt r1.1.fP.Fi r1.1.fP.Gt r1.1.fP.Fj v40 r1.1.fQ r1.1.Jc 0 0 0 0 0 0 [] [] [] [] [] []))else none)else none)else(bif (r3.1==7)then((A2u K r3.2 r1.1.fC).bind fun r41=>(if(r1.1.fQ++[r41.1]).length*72≤140737488355328∧(r1.1.fQ++[r41.1]).length≤maxLen then(Aac K r41.2.fb r41.2.fi r41.2.fh r1.1.fC.Ad r1.1.fC.Ds r1.1.fC.B9 r1.1.fC.Eu r1.1.fC.Ca r1.1.fC.Dt r1.1.fP.Fi r1.1.fP.Gt r1.1.fP.Fj r1.1.fL (r1.1.fQ++[r41.1]) r1.1.Jc 0 0 0 0 0 0 [] [] [] [] [] [])else none))else(bif (r3.1==8)then(bif (decide ((r1.1.fQ.length:Int)>0))then(if(0:Int)≤1∧1≤(r1.1.fQ.length:Int)∧(r1.1.fQ.length:Int)≤(r1.1.fQ.length:Int)then(Aac K r3.2.fb r3.2.fi r3.2.fh r1.1.fC.Ad r1.1.fC.Ds r1.1.fC.B9 r1.1.fC.Eu r1.1.fC.Ca r1.1.fC.Dt r1.1.fP.Fi r1.1.fP.Gt r1.1.fP.Fj r1.1.fL ((r1.1.fQ.drop (1:Int).toNat).take ((r1.1.fQ.length:Int) - 1).toNat) r1.1.Jc 0 0 0 0 0 0 [] [] [] [] [] [])else none)else(Aac K r3.2.fb r3.2.fi r3.2.fh r1.1.fC.Ad r1.1.fC.Ds r1.1.fC.B9 r1.1.fC.Eu r1.1.fC.Ca r1.1.fC.Dt r1.1.fP.Fi r1.1.fP.Gt r1.1.fP.Fj r1.1.fL r1.1.fQ r1.1.Jc 0 0 0 0 0 0 [] [] [] [] [] []))else(bif (r3.1==9)then((K0 K r3.2 ([0,255,256,(-1)]:List Int)).bind fun r42=>(if r42.2.2.length=([0,255,256,(-1)]:List Int).length then(if(r1.1.Jc++([r42.1]:List Int)).length*8≤140737488355328∧(r1.1.Jc++([r42.1]:List Int)).length≤maxLen then(Aac K r42.2.1.fb r42.2.1.fi r42.2.1.fh r1.1.fC.Ad r1.1.fC.Ds r1.1.fC.B9 r1.1.fC.Eu r1.1.fC.Ca r1.1.fC.Dt r1.1.fP.Fi r1.1.fP.Gt r1.1.fP.Fj r1.1.fL r1.1.fQ (r1.1.Jc++([r42.1]:List Int)) 0 0 0 0 0 0 [] [] [] [] [] [])else none)else none))else(bif (r3.1==10)then(if(0:Int)≤r2.1∧r2.1<(r1.1.fL.length:Int)then(if(0:Int)≤r2.1∧r2.1<(r1.1.fL.length:Int)then((Ap K r3.2 60).bind fun r43=>(if(((gt r1.1.fL r2.1).D3)++([(Bl.mk r43.1 2 0)]:List Bl)).length*24≤140737488355328∧(((gt r1.1.fL r2.1).D3)++([(Bl.mk r43.1 2 0)]:List Bl)).length≤maxLen then(if(0:Int)≤r2.1∧r2.1<(r1.1.fL.length:Int)then(Aac K r43.2.fb r43.2.fi r43.2.fh r1.1.fC.Ad r1.1.fC.Ds r1.1.fC.B9 r1.1.fC.Eu r1.1.fC.Ca r1.1.fC.Dt r1.1.fP.Fi r1.1.fP.Gt r1.1.fP.Fj (r1.1.fL.set r2.1.toNat (Ax.mk ((gt r1.1.fL r2.1).Gt) ((gt r1.1.fL r2.1).C5) ((gt r1.1.fL r2.1).Mu) ((gt r1.1.fL r2.1).fUp) ((gt r1.1.fL r2.1).Gu) ((gt r1.1.fL r2.1).Bw) ((gt r1.1.fL r2.1).Gv) ((gt r1.1.fL r2.1).Gw) ((gt r1.1.fL r2.1).Ad) ((gt r1.1.fL r2.1).M7) ((gt r1.1.fL r2.1).Gz) (((gt r1.1.fL r2.1).D3)++([(Bl.mk r43.1 2 0)]:List Bl)) ((gt r1.1.fL r2.1).De))) r1.1.fQ r1.1.Jc 0 0 0 0 0 0 [] [] [] [] [] [])else none)else none))else none)else none)else(bif (r3.1==11)then((Ap K r3.2 4).bind fun r44=>(if(0:Int)≤r2.1∧r2.1<(r1.1.fL.length:Int)then(Aty (r1.1.fL.set r2.1.toNat (Ax.mk ((gt r1.1.fL r2.1).Gt) ((gt r1.1.fL r2.1).C5) ((gt r1.1.fL r2.1).Mu) ((gt r1.1.fL r2.1).fUp) ((gt r1.1.fL r2.1).Gu) ((gt r1.1.fL r2.1).Bw) r44.1 ((gt r1.1.fL r2.1).Gw) ((gt r1.1.fL r2.1).Ad) ((gt r1.1.fL r2.1).M7) ((gt r1.1.fL r2.1).Gz) ((gt r1.1.fL r2.1).D3) ((gt r1.1.fL r2.1).De))) fun v45=>(Aac K r44.2.fb r44.2.fi r44.2.fh r1.1.fC.Ad r1.1.fC.Ds r1.1.fC.B9 r1.1.fC.Eu r1.1.fC.Ca r1.1.fC.Dt r1.1.fP.Fi r1.1.fP.Gt r1.1.fP.Fj v45 r1.1.fQ r1.1.Jc 0 0 0 0 0 0 [] [] [] [] [] []))else none))else(bif (r3.1==12)then(bif (decide ((r1.1.fQ.length:Int)>0))then((Ap K r3.2 9).bind fun r46=>(if(0:Int)≤0∧0<(r1.1.fQ.length:Int)then(Aac K r46.2.fb r46.2.fi r46.2.fh r1.1.fC.Ad r1.1.fC.Ds r1.1.fC.B9 r1.1.fC.Eu r1.1.fC.Ca r1.1.fC.Dt r1.1.fP.Fi r1.1.fP.Gt r1.1.fP.Fj r1.1.fL (r1.1.fQ.set (0:Int).toNat (A7.mk ((gt r1.1.fQ 0).A9) ((gt r1.1.fQ 0).Bw) ((gt r1.1.fQ 0).De) ((gt r1.1.fQ 0).Ad) r46.1)) r1.1.Jc 0 0 0 0 0 0 [] [] [] [] [] [])else none))else(Aac K r3.2.fb r3.2.fi r3.2.fh r1.1.fC.Ad r1.1.fC.Ds r1.1.fC.B9 r1.1.fC.Eu r1.1.fC.Ca r1.1.fC.Dt r1.1.fP.Fi r1.1.fP.Gt r1.1.fP.Fj r1.1.fL r1.1.fQ r1.1.Jc 0 0 0 0 0 0 [] [] [] [] [] []))else(Aac K r3.2.fb r3.2.fi r3.2.fh r1.1.fC.Ad r1.1.fC.Ds r1.1.fC.B9 r1.1.fC.Eu r1.1.fC.Ca r1.1.fC.Dt r1.1.fP.Fi r1.1.fP.Gt r1.1.fP.Fj r1.1.fL r1.1.fQ r1.1.Jc 0 0 0 0 0 0 [] [] [] [] [] [])))))))))))))))))
def Bt2:=fd Tryz.func132 ⟨[.b 171 false,.v 3],[.v 38],false⟩ (gC (Bng K) (gC (Byz K) (gC (A5x K) (gC (Bd2 K) (gC (Bwc K) (gC (Bwf K) gN)))))) [] [15] [(29,[.opn 20387 (.tmp 6),.takeE 20387 11 64779])] [(104,[.put 3104,.shal 3104]),(114,[.frzT 114])]
def B3x:Fs:=⟨[(4,.p 104),(5,.p 105)],[(1,.box [.v 24,.v 2,.v 2]),(105,.box [.v 2,.v 2,.v 2,.v 2,.v 2,.v 2,.v 24,.v 25,.v 25,.v 35,.v 36,.v 25]),(104,.box [.v 2,.v 2,.v 2,.v 2,.v 2,.v 2,.v 24,.v 25,.v 25,.v 35,.v 36,.v 25])]⟩
def Bnk:=jn (Bt2 K) 15 B3x [] (Aac K) kN
def Bnl:=ct (Bt2 K) (Az2 K) (kC (Bnk K) kN)
def Aws (K:Nat)(a0:List Int)(a1:Int):Option (Ew×Bm):=((Ay8 K a0).bind fun r1=>((Az2 K r1 a1).bind fun r2=>some (r2.2,r2.1)))
def Bgs:=ct (fd Tryz.func130 ⟨[.v 24,.v 3],[.p 171 false,.v 38],false⟩ (gC (Bu1 K) (gC (Bnl K) gN))) (Aws K)
def Axb (K:Nat)(a0:List Int):Option (Bm):=((Aws K a0 40).bind fun r1=>some r1.2)
def Bwg:=ct (fd Tryz.func35 ⟨[.v 24],[.v 38],false⟩ (gC (Bgs K) gN)) (Axb K)
def Azj (K:Nat)(a0:Bm):Option (Bm×Bool):=((Aqo K a0).bind fun r1=>((Ar8 K a0).bind fun r2=>(bif r2 then(bif ((a0.fQ.length:Int)==0)then some (r1,false)else((Atk K r1).bind fun r3=>some (r3,true)))else some (r1,false))))
def Bwh:=ct (fd Tryz.func56 ⟨[.v 38],[.n 38 false,.v 4],false⟩ (gC (A8g K) (gC (A7a K) (gC (Bl9 K) gN))) [8,9,10] [] [(4,[.put 104,.take 104 10 6674,.shal 6674,.put 104]),(5,[.take 104 6 6670,.take 104 7 6671,.take 104 8 6672,.take 104 9 6673,.take 104 10 6674,.take 104 11 6675])]) (Azj K)
def Asd (K:Nat)(v5:Int)(v6:Int)(v7:Int)(v8:Int)(v9:Int)(v10:Int)(v11:List Int)(v12:List Int)(v13:List Int)(v14:List Ax)(v15:List A7)(v16:List Int)(v17:Int)(v18:Int)(v19:Int)(v20:Int)(v21:Int)(v22:Int)(v23:List Int)(v24:List Int)(v25:List Int)(v26:List Ax)(v27:List A7)(v28:List Int)(v29:Int)(v30:Int)(v31:Int)(v32:Int)(v33:Int)(v34:Int)(v35:List Int)(v36:List Int)(v37:List Int)(v38:List Ax)(v39:List A7)(v40:List Int)(v41:Int)(v42:Int)(v43:Int)(v44:Int)(v45:Int)(v46:Int)(v47:List Int)(v48:List Int)(v49:List Int)(v50:List Ax)(v51:List A7)(v52:List Int):Option (Bm×Bm):=some ((Bm.mk (Fc.mk v17 v18 v19 v20 v21 v22) (Ed.mk v23 v24 v25) v26 v27 v28),(Bm.mk (Fc.mk v5 v6 v7 v8 v9 v10) (Ed.mk v11 v12 v13) v14 v15 v16))
def Avp (K:Nat)(a0:List Int):Option (Bm×Bm):=((Aws K a0 40).bind fun r1=>((Aqo K r1.2).bind fun r2=>((Ap K r1.1 4).bind fun r3=>(bif (r3.1==0)then((Azj K r2).bind fun r4=>(Asd K r4.1.fC.Ad r4.1.fC.Ds r4.1.fC.B9 r4.1.fC.Eu r4.1.fC.Ca r4.1.fC.Dt r4.1.fP.Fi r4.1.fP.Gt r4.1.fP.Fj r4.1.fL r4.1.fQ r4.1.Jc r1.2.fC.Ad r1.2.fC.Ds r1.2.fC.B9 r1.2.fC.Eu r1.2.fC.Ca r1.2.fC.Dt r1.2.fP.Fi r1.2.fP.Gt r1.2.fP.Fj r1.2.fL r1.2.fQ r1.2.Jc 0 0 0 0 0 0 [] [] [] [] [] [] 0 0 0 0 0 0 [] [] [] [] [] []))else(bif (r3.1==1)then((Az2 K r3.2 20).bind fun r53=>(Asd K r53.1.fC.Ad r53.1.fC.Ds r53.1.fC.B9 r53.1.fC.Eu r53.1.fC.Ca r53.1.fC.Dt r53.1.fP.Fi r53.1.fP.Gt r53.1.fP.Fj r53.1.fL r53.1.fQ r53.1.Jc r1.2.fC.Ad r1.2.fC.Ds r1.2.fC.B9 r1.2.fC.Eu r1.2.fC.Ca r1.2.fC.Dt r1.2.fP.Fi r1.2.fP.Gt r1.2.fP.Fj r1.2.fL r1.2.fQ r1.2.Jc 0 0 0 0 0 0 [] [] [] [] [] [] 0 0 0 0 0 0 [] [] [] [] [] []))else(Asd K r2.fC.Ad r2.fC.Ds r2.fC.B9 r2.fC.Eu r2.fC.Ca r2.fC.Dt r2.fP.Fi r2.fP.Gt r2.fP.Fj r2.fL r2.fQ r2.Jc r1.2.fC.Ad r1.2.fC.Ds r1.2.fC.B9 r1.2.fC.Eu r1.2.fC.Ca r1.2.fC.Dt r1.2.fP.Fi r1.2.fP.Gt r1.2.fP.Fj r1.2.fL r1.2.fQ r1.2.Jc 0 0 0 0 0 0 [] [] [] [] [] [] 0 0 0 0 0 0 [] [] [] [] [] []))))))
def Bt3:=fd Tryz.func36 ⟨[.v 24],[.v 38,.v 38],false⟩ (gC (Bwh K) (gC (A7a K) (gC (Bgs K) (gC (A5x K) (gC (Bnl K) gN))))) [] [15] [(5,[.frz 20416,.frz 20417,.frz 20418,.frz 20419,.frz 20420,.frz 20421])]
def B3y:Fs:=⟨[(2,.p 102),(3,.p 103),(5,.p 105),(6,.p 106)],[(106,.box [.v 2,.v 2,.v 2,.v 2,.v 2,.v 2,.v 24,.v 25,.v 25,.v 35,.v 36,.v 25]),(105,.box [.v 2,.v 2,.v 2,.v 2,.v 2,.v 2,.v 24,.v 25,.v 25,.v 35,.v 36,.v 25]),(103,.box [.v 2,.v 2,.v 2,.v 2,.v 2,.v 2,.v 24,.v 25,.v 25,.v 35,.v 36,.v 25]),(102,.box [.v 2,.v 2,.v 2,.v 2,.v 2,.v 2,.v 24,.v 25,.v 25,.v 35,.v 36,.v 25])]⟩
def Bnm:=jn (Bt3 K) 15 B3y [] (Asd K) kN
def Bwi:=ct (Bt3 K) (Avp K) (kC (Bnm K) kN)
def Avz (K:Nat)(a0:List Int):Option (Bm×Int):=((Aws K a0 40).bind fun r1=>((Ap K r1.1 9).bind fun r2=>some (r1.2,(Ark .i64 r2.1 1))))
def Bwj:=ct (fd Tryz.func37 ⟨[.v 24],[.v 38,.v 3],false⟩ (gC (Bgs K) (gC (A5x K) gN))) (Avz K)
def Avw (K:Nat)(a0:List Int)(a1:List Int):Nat->Int->Option (Bool)
 |0,_=>none
 |n1+1,v1=>(bif (decide (v1<(a0.length:Int)))then(if(0:Int)≤v1∧v1<(a0.length:Int)then(if(0:Int)≤v1∧v1<(a1.length:Int)then(bif ((gt a0 v1) != (gt a1 v1))then some false else(Avw K a0 a1 n1 (Arj .i64 v1 1)))else none)else none)else some true)
def A06 (K:Nat)(a0:List Int)(a1:List Int):Option (Bool):=(bif ((a0.length:Int) != (a1.length:Int))then some false else(Avw K a0 a1 K 0))
def Bt4:=fd Tryz.func232 ⟨[.v 24,.v 24],[.v 4],true⟩ gN
def B3z:Fs:=⟨[(0,.v 24),(1,.v 24),(5,.v 2)],[]⟩
def Bnn:=lp Bt4 58 B3z [] (fun n a b=>Avw K a b n) (fun n=>kN)
def Bwk:=ct Bt4 (A06 K) (kC (Bnn K K) kN)
def Asm (K:Nat)(a0:List Int)(a1:List Int):Nat->Int->Option (Bool)
 |0,_=>none
 |n1+1,v1=>(bif (decide (v1<(a0.length:Int)))then(if(0:Int)≤v1∧v1<(a0.length:Int)then(if(0:Int)≤v1∧v1<(a1.length:Int)then(bif ((gt a0 v1) != (gt a1 v1))then some false else(Asm K a0 a1 n1 (Arj .i64 v1 1)))else none)else none)else some true)
def Ajk (K:Nat)(a0:List Int)(a1:List Int):Option (Bool):=(bif ((a0.length:Int) != (a1.length:Int))then some false else(Asm K a0 a1 K 0))
def Bt5:=fd Tryz.func44 ⟨[.v 25,.v 25],[.v 4],true⟩ gN
def B30:Fs:=⟨[(0,.v 25),(1,.v 25),(5,.v 2)],[]⟩
def Bno:=lp Bt5 58 B30 [] (fun n a b=>Asm K a b n) (fun n=>kN)
def A9x:=ct Bt5 (Ajk K) (kC (Bno K K) kN)
def Avg (K:Nat)(a0:Ed)(a1:Ed):Option (Bool):=((A06 K a0.Fi a1.Fi).bind fun r1=>(bif r1 then((Ajk K a0.Gt a1.Gt).bind fun r2=>(bif r2 then((Ajk K a0.Fj a1.Fj).bind fun r3=>some r3)else some false))else some false))
def Bwl:=ct (fd Tryz.func133 ⟨[.v 34,.v 34],[.v 4],true⟩ (gC (A9x K) (gC (Bwk K) gN)) [9,10,15,16,17]) (Avg K)
def Al1 (K:Nat):Nat->Int->Int->Int->Int->Int->Int->Int->Int->Int->(List Int)->Int->Int->(List Bl)->(List Int)->Int->Int->Int->Int->Int->Int->Int->Int->(List Int)->Int->Int->(List Bl)->(List Int)->Option (Bool)
 |0,_,_,_,_,_,_,_,_,_,_,_,_,_,_,_,_,_,_,_,_,_,_,_,_,_,_,_=>none
 |n1+1,v3,v4,v5,v6,v7,v8,v9,v10,v11,v12,v13,v14,v15,v16,v17,v18,v19,v20,v21,v22,v23,v24,v25,v26,v27,v28,v29=>(bif (decide (v3<(v28.length:Int)))then(if(0:Int)≤v3∧v3<(v28.length:Int)then(if(0:Int)≤v3∧v3<(v15.length:Int)then(bif (!((((gt v28 v3).fAt)==((gt v15 v3).fAt))&&((((gt v28 v3).Xu)==((gt v15 v3).Xu))&&((((gt v28 v3).Xv)==((gt v15 v3).Xv))&&true))))then some false else(Al1 K n1 (Arj .i64 v3 1) v4 v5 v6 v7 v8 v9 v10 v11 v12 v13 v14 v15 v16 v17 v18 v19 v20 v21 v22 v23 v24 v25 v26 v27 v28 v29))else none)else none)else some true)
def At5 (K:Nat)(a0:Ax)(a1:Ax):Option (Bool):=(bif (a0.Gt != a1.Gt)then some false else(bif (a0.C5 != a1.C5)then some false else(bif (a0.Mu != a1.Mu)then some false else(bif (a0.fUp != a1.fUp)then some false else(bif (a0.Gu != a1.Gu)then some false else(bif (a0.Bw != a1.Bw)then some false else(bif (a0.Gv != a1.Gv)then some false else(bif (a0.Gw != a1.Gw)then some false else((Ajk K a0.Ad a1.Ad).bind fun r1=>(bif r1 then(bif (a0.M7 != a1.M7)then some false else(bif (a0.Gz != a1.Gz)then some false else(bif ((a0.D3.length:Int) != (a1.D3.length:Int))then some false else((Ajk K a0.De a1.De).bind fun r2=>(bif (!r2)then some false else(Al1 K K 0 a1.Gt a1.C5 a1.Mu a1.fUp a1.Gu a1.Bw a1.Gv a1.Gw a1.Ad a1.M7 a1.Gz a1.D3 a1.De a0.Gt a0.C5 a0.Mu a0.fUp a0.Gu a0.Bw a0.Gv a0.Gw a0.Ad a0.M7 a0.Gz a0.D3 a0.De))))))else some false))))))))))
def Bt6:=fd Tryz.func233 ⟨[.v 77,.v 77],[.v 4],true⟩ (gC (A9x K) gN) [10,11,16,17,18,23,24,25,30,31,32,37,38,39,44,45,46,51,52,53,58,59,60,65,66,67,68,73,74,75,80,81,82,89,90,91]
def B31:Fs:=⟨[(2,.p 102),(3,.p 103),(5,.v 2)],[(103,.box [.v 2,.v 2,.v 2,.v 2,.v 2,.v 2,.v 2,.v 2,.v 25,.v 2,.v 2,.v 75,.v 25]),(102,.box [.v 2,.v 2,.v 2,.v 2,.v 2,.v 2,.v 2,.v 2,.v 25,.v 2,.v 2,.v 75,.v 25])]⟩
def Bnp:=lp (Bt6 K) 58 B31 [] (Al1 K) (fun n=>kN)
def Bwm:=ct (Bt6 K) (At5 K) (kC (Bnp K K) kN)
def Ajz (K:Nat)(a0:List Ax)(a1:List Ax):Nat->Int->Option (Bool)
 |0,_=>none
 |n1+1,v1=>(bif (decide (v1<(a0.length:Int)))then(if(0:Int)≤v1∧v1<(a0.length:Int)then(if(0:Int)≤v1∧v1<(a1.length:Int)then((At5 K (gt a0 v1) (gt a1 v1)).bind fun r2=>(bif (!r2)then some false else(Ajz K a0 a1 n1 (Arj .i64 v1 1))))else none)else none)else some true)
def Auq (K:Nat)(a0:List Ax)(a1:List Ax):Option (Bool):=(bif ((a0.length:Int) != (a1.length:Int))then some false else(Ajz K a0 a1 K 0))
def Bt7:=fd Tryz.func134 ⟨[.v 35,.v 35],[.v 4],true⟩ (gC (Bwm K) gN)
def B32:Fs:=⟨[(0,.v 35),(1,.v 35),(5,.v 2)],[]⟩
def Bnq:=lp (Bt7 K) 58 B32 [] (fun n a b=>Ajz K a b n) (fun n=>kN)
def Bwn:=ct (Bt7 K) (Auq K) (kC (Bnq K K) kN)
def Atc (K:Nat)(a0:A7)(a1:A7):Option (Bool):=(bif (a0.A9==a1.A9)then(bif (a0.Bw==a1.Bw)then((Ajk K a0.De a1.De).bind fun r1=>(bif r1 then((Ajk K a0.Ad a1.Ad).bind fun r2=>(bif r2 then some (a0.Hp==a1.Hp)else some false))else some false))else some false)else some false)
def Bwo:=ct (fd Tryz.func135 ⟨[.v 79,.v 79],[.v 4],true⟩ (gC (A9x K) gN) [9,10,15,16,17,22,23,24,29,30,31]) (Atc K)
def Aj6 (K:Nat):Nat->Int->Int->Int->Int->Int->Int->Int->(List Int)->(List Int)->(List Int)->(List Ax)->(List A7)->(List Int)->Int->Int->Int->Int->Int->Int->(List Int)->(List Int)->(List Int)->(List Ax)->(List A7)->(List Int)->Option (Bool)
 |0,_,_,_,_,_,_,_,_,_,_,_,_,_,_,_,_,_,_,_,_,_,_,_,_,_=>none
 |n1+1,v4,v5,v6,v7,v8,v9,v10,v11,v12,v13,v14,v15,v16,v17,v18,v19,v20,v21,v22,v23,v24,v25,v26,v27,v28=>(bif (decide (v4<(v27.length:Int)))then(if(0:Int)≤v4∧v4<(v27.length:Int)then(if(0:Int)≤v4∧v4<(v15.length:Int)then((Atc K (gt v27 v4) (gt v15 v4)).bind fun r29=>(bif (!r29)then some false else(Aj6 K n1 (Arj .i64 v4 1) v5 v6 v7 v8 v9 v10 v11 v12 v13 v14 v15 v16 v17 v18 v19 v20 v21 v22 v23 v24 v25 v26 v27 v28)))else none)else none)else some true)
def Aq3 (K:Nat)(a0:Bm)(a1:Bm):Option (Bool):=(bif (!((a0.fC.Ad==a1.fC.Ad)&&((a0.fC.Ds==a1.fC.Ds)&&((a0.fC.B9==a1.fC.B9)&&((a0.fC.Eu==a1.fC.Eu)&&((a0.fC.Ca==a1.fC.Ca)&&((a0.fC.Dt==a1.fC.Dt)&&true)))))))then some false else((Avg K a0.fP a1.fP).bind fun r1=>(bif r1 then((Auq K a0.fL a1.fL).bind fun r2=>(bif r2 then(bif ((a0.fQ.length:Int) != (a1.fQ.length:Int))then some false else((Ajk K a0.Jc a1.Jc).bind fun r3=>(bif (!r3)then some false else(Aj6 K K 0 a1.fC.Ad a1.fC.Ds a1.fC.B9 a1.fC.Eu a1.fC.Ca a1.fC.Dt a1.fP.Fi a1.fP.Gt a1.fP.Fj a1.fL a1.fQ a1.Jc a0.fC.Ad a0.fC.Ds a0.fC.B9 a0.fC.Eu a0.fC.Ca a0.fC.Dt a0.fP.Fi a0.fP.Gt a0.fP.Fj a0.fL a0.fQ a0.Jc))))else some false))else some false)))
def Bt8:=fd Tryz.func38 ⟨[.v 38,.v 38],[.v 4],true⟩ (gC (A9x K) (gC (Bwl K) (gC (Bwn K) (gC (Bwo K) gN)))) [10,11,16,17,18,19,24,25,26,27,34,35,36]
def B33:Fs:=⟨[(2,.p 102),(3,.p 103),(5,.v 2)],[(103,.box [.v 2,.v 2,.v 2,.v 2,.v 2,.v 2,.v 24,.v 25,.v 25,.v 35,.v 36,.v 25]),(102,.box [.v 2,.v 2,.v 2,.v 2,.v 2,.v 2,.v 24,.v 25,.v 25,.v 35,.v 36,.v 25])]⟩
def Bnr:=lp (Bt8 K) 58 B33 [] (Aj6 K) (fun n=>kN)
def Bwp:=ct (Bt8 K) (Aq3 K) (kC (Bnr K K) kN)
def Avq (K:Nat)(a0:Ed)(a1:Fc)(a2:Int):Option ((List Int)):=(if(0:Int)≤(Arl .i64 a2 a1.Ds)∧(Arl .i64 a2 a1.Ds)≤(Arl .i64 (Arj .i64 a2 1) a1.Ds)∧(Arl .i64 (Arj .i64 a2 1) a1.Ds)≤(a0.Fi.length:Int)then some ((a0.Fi.drop (Arl .i64 a2 a1.Ds).toNat).take ((Arl .i64 (Arj .i64 a2 1) a1.Ds) - (Arl .i64 a2 a1.Ds)).toNat)else none)
def Bns:=ct (fd Tryz.func209 ⟨[.v 34,.v 33,.v 3],[.v 24],false⟩ gN) (Avq K)
def A29 (K:Nat)(a0:Int):Option (Bool):=some (a0 != 0)
def Bwq:=ct (fd Tryz.func121 ⟨[.v 5],[.v 4],true⟩ gN) (A29 K)
def Ahx (K:Nat)(a0:List Int):Nat->Int->Int->Option (Int)
 |0,_,_=>none
 |n1+1,v1,v2=>(bif (decide (v2<v1))then(if(0:Int)≤v2∧v2<(a0.length:Int)then((A29 K (gt a0 v2)).bind fun r3=>(bif r3 then some v2 else(Ahx K a0 n1 v1 (Arj .i64 v2 1))))else none)else some (-1))
def Aoh (K:Nat)(a0:List Int):Option (Int):=(Ahx K a0 K (a0.length:Int) 0)
def Bt9:=fd Tryz.func207 ⟨[.v 24,.f 121 [] []],[.v 3],true⟩ (gC (Bwq K) gN)
def B34:Fs:=⟨[(0,.v 24),(1,.f 121 [] []),(7,.v 2),(8,.v 2)],[]⟩
def Bnt:=lp (Bt9 K) 26 B34 [] (fun n a=>Ahx K a n) (fun n=>kN)
def Bwr:=ct (Bt9 K) (Aoh K) (kC (Bnt K K) kN)
def Alo (K:Nat)(a0:List Int):Option (Bool):=((Aoh K a0).bind fun r1=>some (decide (r1≥0)))
def Bws:=ct (fd Tryz.func120 ⟨[.v 24,.f 121 [] []],[.v 4],true⟩ (gC (Bwr K) gN)) (Alo K)
def Ax2 (K:Nat)(a0:List Int):Option (Bool):=((Alo K a0).bind fun r1=>some (!r1))
def Bgt:=ct (fd Tryz.func30 ⟨[.v 24],[.v 4],true⟩ (gC (Bws K) gN)) (Ax2 K)
def A0m (K:Nat)(v3:List Int)(v4:Int)(v6:List Int)(v7:List Int)(v8:List Int)(v12:Int)(C1:(List Int)->Int->Int->(List Int)->(List Int)->(List Int)->Option (Bool))(v16:Bool):Option (Bool):=(bif v16 then some false else(C1 v3 v4 (Arj .i64 v12 1) v6 v7 v8))
def At6 (K:Nat)(a0:Fc)(v3:List Int)(v4:Int)(v5:Int)(v6:List Int)(v7:List Int)(v8:List Int)(C1:(List Int)->Int->Int->(List Int)->(List Int)->(List Int)->Option (Bool))(v11:Int)(v12:Int)(v13:Bool):Option (Bool):=(bif v13 then some false else(bif (v11==0)then((Avq K (Ed.mk v6 v7 v8) a0 v5).bind fun r14=>((Ax2 K r14).bind fun r15=>(A0m K v3 v4 v6 v7 v8 v12 (C1) (!r15))))else(A0m K v3 v4 v6 v7 v8 v12 (C1) false)))
def Akm (K:Nat)(a0:Fc):Nat->(List Int)->Int->Int->(List Int)->(List Int)->(List Int)->Option (Bool)
 |0,_,_,_,_,_,_=>none
 |n1+1,v3,v4,v5,v6,v7,v8=>(bif (decide (v5<v4))then(if(0:Int)≤v5∧v5<(v3.length:Int)then((V1 K (gt v3 v5) 0 2).bind fun r9=>(bif (!r9)then some false else(bif ((gt v3 v5)==1)then(if(0:Int)≤v5∧v5<(v8.length:Int)then((V1 K (gt v8 v5) 0 (Ark .i64 a0.B9 1)).bind fun r10=>(bif r10 then(bif ((gt v3 v5) != 1)then(if(0:Int)≤v5∧v5<(v8.length:Int)then(At6 K a0 v3 v4 v5 v6 v7 v8 (Akm K a0 n1) (gt v3 v5) v5 ((gt v8 v5) != (-1)))else none)else(At6 K a0 v3 v4 v5 v6 v7 v8 (Akm K a0 n1) (gt v3 v5) v5 false))else(At6 K a0 v3 v4 v5 v6 v7 v8 (Akm K a0 n1) (gt v3 v5) v5 true)))else none)else(bif ((gt v3 v5) != 1)then(if(0:Int)≤v5∧v5<(v8.length:Int)then(At6 K a0 v3 v4 v5 v6 v7 v8 (Akm K a0 n1) (gt v3 v5) v5 ((gt v8 v5) != (-1)))else none)else(At6 K a0 v3 v4 v5 v6 v7 v8 (Akm K a0 n1) (gt v3 v5) v5 false)))))else none)else some true)
def A2v (K:Nat)(a0:Fc)(a1:Ed):Option (Bool):=((Aqk K a0).bind fun r1=>(bif r1 then((Ayh K a0).bind fun r2=>(bif ((a1.Fi.length:Int) != r2)then some false else(bif ((a1.Gt.length:Int) != a0.Ad)then some false else(bif ((a1.Fj.length:Int) != a0.Ad)then some false else(Akm K a0 K a1.Gt (a1.Gt.length:Int) 0 a1.Fi a1.Gt a1.Fj)))))else some false))
def Bij:=fd Tryz.func122 ⟨[.v 33,.v 34],[.v 4],true⟩ (gC (Bgt K) (gC (Bd3 K) (gC (Bcj K) (gC (Blp K) (gC (Bns K) gN))))) [8,9,10,16,17,18,24,25,26,48,49,58,59,60,61,63,64,75,76] [29899,119599]
def B35:Fs:=⟨[(2,.p 102),(3,.p 103),(35,.v 25),(36,.v 2),(37,.v 2),(73,.v 4)],[(103,.box [.v 24,.v 25,.v 25]),(102,.st 33 true)]⟩
def B0x:Fs:=⟨[(2,.p 102),(3,.p 103),(5,.v 2),(6,.v 2),(35,.v 25),(36,.v 2),(37,.v 2),(46,.v 4)],[(103,.box [.v 24,.v 25,.v 25]),(102,.st 33 true)]⟩
def Bed:Fs:=⟨[(2,.p 102),(3,.p 103),(35,.v 25),(36,.v 2),(37,.v 2)],[(103,.box [.v 24,.v 25,.v 25]),(102,.st 33 true)]⟩
def Bcm:=fun(C58:CT Bed _)=>jn (Bij K) 119599 B35 [(58,ar Bed C58)] (fun a b c d e f g h=>A0m K a b e f g c (fun v3 v4 v5 v6 v7 v8=>C58 v3 v4 v5 v6 v7 v8 h) d) kN
def Bee:=fun(C58:CT Bed _)=>jn (Bij K) 29899 B0x [(58,ar Bed C58)] (fun a b c d e f g h i j=>At6 K j c d a g h i (fun v3 v4 v5 v6 v7 v8=>C58 v3 v4 v5 v6 v7 v8 j) b e f) (kC (Bcm K _) kN)
def Bnu:=lp (Bij K) 58 Bed [] (fun n a b c d e f g=>Akm K g n a b c d e f) (fun n=>(kC (Bee K _) kN))
def Bwt:=ct (Bij K) (A2v K) (kC (Bnu K K) kN)
def Axc (K:Nat)(a0:List Int):Option ((List Int)):=(bif a0.isEmpty then Alm (some []) ((if(([]:List Int)++a0).length*8≤140737488355328∧(([]:List Int)++a0).length≤maxLen then some (([]:List Int)++a0)else none))else(if(([]:List Int)++a0).length*8≤140737488355328∧(([]:List Int)++a0).length≤maxLen then some (([]:List Int)++a0)else none))
def Bwu:=ct (fd Tryz.func210 ⟨[.v 25],[.n 25 true],true⟩ gN) (Axc K)
def An4 (K:Nat)(a0:List Int)(a1:List Int):Nat->Int->Int->Option (Bool)
 |0,_,_=>none
 |n1+1,v1,v2=>(bif (decide (v2<v1))then(if(0:Int)≤v2∧v2<(a0.length:Int)then(if(0:Int)≤v2∧v2<(a1.length:Int)then(bif ((gt a0 v2) != (gt a1 v2))then some false else(An4 K a0 a1 n1 v1 (Arj .i64 v2 1)))else none)else none)else some true)
def Ab0 (K:Nat)(a0:List Int)(a1:List Int):Option (Bool):=(bif ((a0.length:Int) != (a1.length:Int))then some false else(An4 K a0 a1 K (a0.length:Int) 0))
def Bua:=fd Tryz.func153 ⟨[.v 25,.v 25],[.v 4],true⟩ gN
def B0y:Fs:=⟨[(0,.v 25),(1,.v 25),(12,.v 2),(13,.v 2)],[]⟩
def Bnv:=lp Bua 58 B0y [] (fun n a b=>An4 K a b n) (fun n=>kN)
def A9y:=ct Bua (Ab0 K) (kC (Bnv K K) kN)
def Ajs (K:Nat)(a0:List Bl)(a1:List Bl):Nat->Int->Int->Option (Bool)
 |0,_,_=>none
 |n1+1,v1,v2=>(bif (decide (v2<v1))then(if(0:Int)≤v2∧v2<(a0.length:Int)then(if(0:Int)≤v2∧v2<(a1.length:Int)then(bif (!((((gt a0 v2).fAt)==((gt a1 v2).fAt))&&((((gt a0 v2).Xu)==((gt a1 v2).Xu))&&((((gt a0 v2).Xv)==((gt a1 v2).Xv))&&true))))then some false else(Ajs K a0 a1 n1 v1 (Arj .i64 v2 1)))else none)else none)else some true)
def Aom (K:Nat)(a0:List Bl)(a1:List Bl):Option (Bool):=(bif ((a0.length:Int) != (a1.length:Int))then some false else(Ajs K a0 a1 K (a0.length:Int) 0))
def Bub:=fd Tryz.func304 ⟨[.v 75,.v 75],[.v 4],true⟩ gN
def B0z:Fs:=⟨[(0,.v 75),(1,.v 75),(12,.v 2),(13,.v 2)],[]⟩
def Bnw:=lp Bub 58 B0z [] (fun n a b=>Ajs K a b n) (fun n=>kN)
def Bwv:=ct Bub (Aom K) (kC (Bnw K K) kN)
def At7 (K:Nat)(a0:Ax)(a1:Ax):Option (Bool):=(bif (a0.Gt==a1.Gt)then(bif (a0.C5==a1.C5)then(bif (a0.Mu==a1.Mu)then(bif (a0.fUp==a1.fUp)then(bif (a0.Gu==a1.Gu)then(bif (a0.Bw==a1.Bw)then(bif (a0.Gv==a1.Gv)then(bif (a0.Gw==a1.Gw)then((Ab0 K a0.Ad a1.Ad).bind fun r1=>(bif r1 then(bif (a0.M7==a1.M7)then(bif (a0.Gz==a1.Gz)then((Aom K a0.D3 a1.D3).bind fun r2=>(bif r2 then((Ab0 K a0.De a1.De).bind fun r3=>some r3)else some false))else some false)else some false)else some false))else some false)else some false)else some false)else some false)else some false)else some false)else some false)else some false)
def Bnx:=ct (fd Tryz.func250 ⟨[.v 77,.v 77],[.v 4],true⟩ (gC (A9y K) (gC (Bwv K) gN)) [9,10,15,16,17,22,23,24,29,30,31,36,37,38,43,44,45,50,51,52,57,58,59,64,65,66,71,72,73,78,79,80,85,86,87]) (At7 K)
def A4h (K:Nat)(a0:Ax):Option (Bool):=((At7 K a0 (Ax.mk a0.Gt a0.C5 0 0 0 0 0 0 ([]:List Int) 0 0 ([]:List Bl) ([]:List Int))).bind fun r1=>some r1)
def Bww:=ct (fd Tryz.func288 ⟨[.v 77],[.v 4],true⟩ (gC (Bnx K) gN)) (A4h K)
def Aq5 (K:Nat)(a0:List Int)(a1:Int):Nat->Int->Int->Option (Int)
 |0,_,_=>none
 |n1+1,v1,v2=>(bif (decide (v2<v1))then(if(0:Int)≤v2∧v2<(a0.length:Int)then(bif (a1==(gt a0 v2))then some v2 else(Aq5 K a0 a1 n1 v1 (Arj .i64 v2 1)))else none)else some (-1))
def A0y (K:Nat)(a0:List Int)(a1:Int):Option (Int):=(Aq5 K a0 a1 K (a0.length:Int) 0)
def Buc:=fd Tryz.func260 ⟨[.v 25,.v 3],[.v 3],true⟩ gN
def B00:Fs:=⟨[(0,.v 25),(1,.v 2),(7,.v 2),(8,.v 2)],[]⟩
def Bny:=lp Buc 26 B00 [] (fun n a b=>Aq5 K a b n) (fun n=>kN)
def Bwx:=ct Buc (A0y K) (kC (Bny K K) kN)
def Api (K:Nat)(a0:List Int)(a1:Int):Option (Bool):=((A0y K a0 a1).bind fun r1=>some (decide (r1≥0)))
def Bgu:=ct (fd Tryz.func290 ⟨[.v 25,.v 3],[.v 4],true⟩ (gC (Bwx K) gN)) (Api K)
def Asn (K:Nat)(a0:Fc)(a1:List Int):Nat->(List Int)->Int->Int->Option (Bool)
 |0,_,_,_=>none
 |n1+1,v1,v2,v3=>(bif (decide (v3<v2))then(if(0:Int)≤v3∧v3<(v1.length:Int)then((V1 K (gt v1 v3) 0 (Ark .i64 a0.Ad 1)).bind fun r4=>(bif r4 then(if(0:Int)≤0∧0≤v3∧v3≤(a1.length:Int)then((Api K ((a1.drop (0:Int).toNat).take (v3 - 0).toNat) (gt v1 v3)).bind fun r5=>(bif r5 then some false else(Asn K a0 a1 n1 v1 v2 (Arj .i64 v3 1))))else none)else some false))else none)else some true)
def Axu (K:Nat)(a0:Fc)(a1:List Int):Option (Bool):=(Asn K a0 a1 K a1 (a1.length:Int) 0)
def Bud:=fd Tryz.func289 ⟨[.v 33,.v 25],[.v 4],true⟩ (gC (Bcj K) (gC (Bgu K) gN)) [18,19,20]
def B01:Fs:=⟨[(1,.v 25),(2,.p 102),(7,.v 25),(8,.v 2),(9,.v 2)],[(102,.st 33 true)]⟩
def Bnz:=lp (Bud K) 26 B01 [] (fun n a b c d e=>Asn K e a n b c d) (fun n=>kN)
def Bn0:=ct (Bud K) (Axu K) (kC (Bnz K K) kN)
def Ayd (K:Nat)(a0:Int):Option (Bool):=((V1 K a0 0 255).bind fun r1=>some (!r1))
def Bwy:=ct (fd Tryz.func223 ⟨[.v 3],[.v 4],true⟩ (gC (Bcj K) gN)) (Ayd K)
def Ahh (K:Nat)(a0:List Int):Nat->Int->Int->Option (Int)
 |0,_,_=>none
 |n1+1,v1,v2=>(bif (decide (v2<v1))then(if(0:Int)≤v2∧v2<(a0.length:Int)then((Ayd K (gt a0 v2)).bind fun r3=>(bif r3 then some v2 else(Ahh K a0 n1 v1 (Arj .i64 v2 1))))else none)else some (-1))
def An5 (K:Nat)(a0:List Int):Option (Int):=(Ahh K a0 K (a0.length:Int) 0)
def Bue:=fd Tryz.func297 ⟨[.v 25,.f 223 [] []],[.v 3],true⟩ (gC (Bwy K) gN)
def B02:Fs:=⟨[(0,.v 25),(1,.f 223 [] []),(7,.v 2),(8,.v 2)],[]⟩
def Bn1:=lp (Bue K) 26 B02 [] (fun n a=>Ahh K a n) (fun n=>kN)
def Bwz:=ct (Bue K) (An5 K) (kC (Bn1 K K) kN)
def Akw (K:Nat)(a0:List Int):Option (Bool):=((An5 K a0).bind fun r1=>some (decide (r1≥0)))
def Bw0:=ct (fd Tryz.func222 ⟨[.v 25,.f 223 [] []],[.v 4],true⟩ (gC (Bwz K) gN)) (Akw K)
def Avh (K:Nat)(a0:List Int):Option (Bool):=((Akw K a0).bind fun r1=>some (!r1))
def Bgv:=ct (fd Tryz.func126 ⟨[.v 25],[.v 4],true⟩ (gC (Bw0 K) gN)) (Avh K)
def A5y (K:Nat)(a0:Fc)(a1:Int):Option (Bool):=some (decide (a1>a0.Ds))
def Bw1:=ct (fd Tryz.func336 ⟨[.v 33,.v 3],[.v 4],true⟩ gN) (A5y K)
def A5z (K:Nat)(a0:Int)(a1:Int):Option (Int):=((V1 K a0 0 1000000000).bind fun r1=>(bif r1 then((V1 K a1 1 1000000000).bind fun r2=>(bif (!r2)then some 0 else(if a1≠(0:Int)then some (Aow .i64 (Ark .i64 (Arj .i64 a0 a1) 1) a1)else none)))else some 0))
def Bw2:=ct (fd Tryz.func321 ⟨[.v 3,.v 3],[.v 3],true⟩ (gC (Bcj K) gN) [6,7,8]) (A5z K)
def A4y (K:Nat)(a0:Fc)(a1:Int):Option (Int):=((A5z K a1 a0.Ds).bind fun r1=>some r1)
def Bw3:=ct (fd Tryz.func337 ⟨[.v 33,.v 3],[.v 3],true⟩ (gC (Bw2 K) gN)) (A4y K)
def Awt (K:Nat)(a0:Fc)(a1:Bl):Option (Bool):=((Ayh K a0).bind fun r1=>(bif (decide (a1.Xu≤0))then some false else(bif (decide (a1.fAt<0))then some false else(bif (decide (a1.Xu>r1))then some false else(bif (decide (a1.fAt>(Ark .i64 r1 a1.Xu)))then some false else(bif (a1.Xv==0)then(bif (decide (a1.Xu≤a0.Ds))then(if a0.Ds≠(0:Int)then(if a0.Ds≠(0:Int)then some ((Aow .i64 a1.fAt a0.Ds)==(Aow .i64 (Ark .i64 (Arj .i64 a1.fAt a1.Xu) 1) a0.Ds))else none)else none)else some false)else((A5y K a0 a1.Xu).bind fun r2=>(bif r2 then((A4y K a0 a1.Xu).bind fun r3=>(bif (a1.Xv==r3)then(if a0.Ds≠(0:Int)then some ((Int.tmod a1.fAt a0.Ds)==0)else none)else some false))else some false))))))))
def Bn2:=ct (fd Tryz.func292 ⟨[.v 33,.v 183],[.v 4],true⟩ (gC (Blp K) (gC (Bw1 K) (gC (Bw3 K) gN))) [10,11,14,15,16,20,21,22,38,39,59,60,67,68,69]) (Awt K)
def A0n (K:Nat)(a0:Bl)(a1:Fc):Option (Bool):=((Awt K a1 a0).bind fun r1=>some (!r1))
def Bw4:=ct (fd Tryz.func291 ⟨[.v 183,.r 33],[.v 4],true⟩ (gC (Bn2 K) gN)) (A0n K)
def Adc (K:Nat)(a0:List Bl)(a1_0:Fc):Nat->Int->Int->Option (Int)
 |0,_,_=>none
 |n1+1,v1,v2=>(bif (decide (v2<v1))then(if(0:Int)≤v2∧v2<(a0.length:Int)then((A0n K (gt a0 v2) a1_0).bind fun r3=>(bif r3 then some v2 else(Adc K a0 a1_0 n1 v1 (Arj .i64 v2 1))))else none)else some (-1))
def Ara (K:Nat)(a0:List Bl)(a1_0:Fc):Option (Int):=(Adc K a0 a1_0 K (a0.length:Int) 0)
def Buf:=fd Tryz.func295 ⟨[.v 75,.f 291 [] [33]],[.v 3],true⟩ (gC (Bw4 K) gN)
def B03:Fs:=⟨[(0,.v 75),(1,.f 291 [] [33]),(7,.v 2),(8,.v 2)],[]⟩
def Bn3:=lp (Buf K) 26 B03 [] (fun n a b=>Adc K a b n) (fun n=>kN)
def Bw5:=ct (Buf K) (Ara K) (kC (Bn3 K K) kN)
def Ajp (K:Nat)(a0:List Bl)(a1_0:Fc):Option (Bool):=((Ara K a0 a1_0).bind fun r1=>some (decide (r1≥0)))
def Bw6:=ct (fd Tryz.func215 ⟨[.v 75,.f 291 [] [33]],[.v 4],true⟩ (gC (Bw5 K) gN)) (Ajp K)
def At8 (K:Nat)(a0:Fc)(v19:List Bl)(v20:List Int):Option (Bool):=(bif (decide ((v19.length:Int)≤12))then(bif (decide ((v20.length:Int)≤6))then((Avh K v20).bind fun r25=>(bif r25 then((Ajp K v19 a0).bind fun r26=>some (!r26))else some false))else some false)else some false)
def As0 (K:Nat)(a0:Fc):Nat->(List Int)->Int->Int->Int->Int->Int->Int->Int->Int->Int->Int->(List Int)->Int->Int->(List Bl)->(List Int)->Option (Bool)
 |0,_,_,_,_,_,_,_,_,_,_,_,_,_,_,_,_=>none
 |n1+1,v5,v6,v7,v8,v9,v10,v11,v12,v13,v14,v15,v16,v17,v18,v19,v20=>(bif (decide (v7<v6))then(if(0:Int)≤v7∧v7<(v5.length:Int)then((V1 K (gt v5 v7) 0 a0.B9).bind fun r21=>(bif (!r21)then some false else(As0 K a0 n1 v5 v6 (Arj .i64 v7 1) v8 v9 v10 v11 v12 v13 v14 v15 v16 v17 v18 v19 v20)))else none)else(bif (decide (v10<0))then some false else(bif (decide (v12<0))then some false else((Axu K a0 v16).bind fun r22=>(bif r22 then(bif (v17 != 0)then((Api K v16 (Ark .i64 v17 1)).bind fun r23=>(bif r23 then((V1 K v18 0 a0.Ds).bind fun r24=>(bif r24 then(bif (v17==0)then(bif (v18 != 0)then some false else(At8 K a0 v19 v20))else(At8 K a0 v19 v20))else some false))else some false))else((V1 K v18 0 a0.Ds).bind fun r27=>(bif r27 then(bif (v17==0)then(bif (v18 != 0)then some false else(At8 K a0 v19 v20))else(At8 K a0 v19 v20))else some false)))else some false)))))
def A2w (K:Nat)(a0:Fc)(a1:Ax):Option (Bool):=((Aqk K a0).bind fun r1=>(bif r1 then((V1 K a1.Gt 0 3).bind fun r2=>(bif r2 then((V1 K a1.C5 1 a0.Dt).bind fun r3=>(bif (!r3)then some false else(bif (a1.Gt != 1)then((A4h K a1).bind fun r4=>some r4)else(As0 K a0 K ([a1.fUp,a1.Bw,a1.Gv,a1.Gw]:List Int) (([a1.fUp,a1.Bw,a1.Gv,a1.Gw]:List Int).length:Int) 0 a1.Gt a1.C5 a1.Mu a1.fUp a1.Gu a1.Bw a1.Gv a1.Gw a1.Ad a1.M7 a1.Gz a1.D3 a1.De))))else some false))else some false))
def Bn4:=fd Tryz.func212 ⟨[.v 33,.v 77],[.v 4],true⟩ (gC (Bd3 K) (gC (Bgv K) (gC (Bcj K) (gC (Bw6 K) (gC (Bww K) (gC (Bn0 K) (gC (Bgu K) gN))))))) [8,9,10,13,14,15,16,51,52,55,56,57,61,62,63,64,67,68,74,75,76,77,78,83,84,85,86,89,90,99,100,104,105,106,109,110,111] [31] [(13,[.frzB 102 33])]
def B04:Fs:=⟨[(2,.p 102),(3,.p 103)],[(103,.box [.v 2,.v 2,.v 2,.v 2,.v 2,.v 2,.v 2,.v 2,.v 25,.v 2,.v 2,.v 75,.v 25]),(102,.st 33 true)]⟩
def B05:Fs:=⟨[(2,.p 102),(3,.p 103),(37,.v 25),(38,.v 2),(39,.v 2)],[(103,.box [.v 2,.v 2,.v 2,.v 2,.v 2,.v 2,.v 2,.v 2,.v 25,.v 2,.v 2,.v 75,.v 25]),(102,.st 33 true)]⟩
def Bn5:=jn (Bn4 K) 31 B04 [] (fun _ _ _ _ _ _ _ _ _ _ _ l m o=>At8 K o l m) kN
def Bj5:=lp (Bn4 K) 122 B05 [] (fun n a b c d e f g h i j k l m o p q r=>As0 K r n a b c d e f g h i j k l m o p q) (fun n=>(kC (up (Bn5 K)) kN))
def Bw7:=ct (Bn4 K) (A2w K) (kC (Bj5 K K) kN)
def Awu (K:Nat)(v2:Int)(v3:Int)(v4:List Int)(v5:List Int)(v6:List Int)(C1:(List Int)->Int->Int->(List Int)->(List Int)->(List Int)->Option ((List Int)))(v7:List Int):Option ((List Int)):=(C1 v7 v2 (Arj .i64 v3 1) v4 v5 v6)
def Aoi (K:Nat)(a1:Int):Nat->(List Int)->Int->Int->(List Int)->(List Int)->(List Int)->Option ((List Int))
 |0,_,_,_,_,_,_=>none
 |n1+1,v1,v2,v3,v4,v5,v6=>(bif (decide (v3<v2))then(if(0:Int)≤v3∧v3<(v5.length:Int)then(bif ((gt v5 v3)==1)then(if(0:Int)≤v3∧v3<(v6.length:Int)then(bif ((gt v6 v3)==a1)then(if(v1++([v3]:List Int)).length*8≤140737488355328∧(v1++([v3]:List Int)).length≤maxLen then(Awu K v2 v3 v4 v5 v6 (Aoi K a1 n1) (v1++([v3]:List Int)))else none)else(Awu K v2 v3 v4 v5 v6 (Aoi K a1 n1) v1))else none)else(Awu K v2 v3 v4 v5 v6 (Aoi K a1 n1) v1))else none)else some v1)
def Ayv (K:Nat)(a0:Ed)(a1:Int):Option ((List Int)):=(Aoi K a1 K ([]:List Int) (Acm (a0.Gt.length:Int) (a0.Fj.length:Int)) 0 a0.Fi a0.Gt a0.Fj)
def Bn6:=fd Tryz.func119 ⟨[.v 34,.v 3],[.n 25 true],true⟩ gN [23,24] [467]
def Bik:Fs:=⟨[(1,.v 2),(2,.p 102),(5,.o 1005 3 true),(14,.v 2),(15,.v 2)],[(102,.box [.v 24,.v 25,.v 25])]⟩
def Bj6:=fun(C58:CT Bik _)=>jn Bn6 467 Bik [(58,ar Bik C58)] (fun a b c d e f g=>Awu K c d e f g (C58 a) b) kN
def Bn7:=lp Bn6 58 Bik [] (fun n a=>Aoi K a n) (fun n=>(kC (Bj6 K _) kN))
def Bn8:=ct Bn6 (Ayv K) (kC (Bn7 K K) kN)
def Aoo (K:Nat)(a0:Bl)(a1:Fc)(a2:Ax):Nat->Int->Option (Bool)
 |0,_=>none
 |n1+1,v2=>(if a1.Ds≠(0:Int)then(bif (decide (v2≤(Aow .i64 (Ark .i64 (Arj .i64 a0.fAt a0.Xu) 1) a1.Ds)))then((Api K a2.Ad v2).bind fun r3=>(bif (!r3)then some true else(Aoo K a0 a1 a2 n1 (Arj .i64 v2 1))))else some false)else none)
def Avr (K:Nat)(a0:Bl)(a1:Fc)(a2:Ax):Option (Bool):=((Awt K a1 a0).bind fun r1=>(bif (!r1)then some true else(if a1.Ds≠(0:Int)then(Aoo K a0 a1 a2 K (Aow .i64 a0.fAt a1.Ds))else none)))
def Bug:=fd Tryz.func293 ⟨[.v 183,.r 33,.r 77],[.v 4],true⟩ (gC (Bgu K) (gC (Bn2 K) gN))
def B06:Fs:=⟨[(1,.r 33),(2,.r 77),(3,.p 103),(5,.v 2)],[(103,.st 183 true)]⟩
def Bn9:=lp (Bug K) 58 B06 [] (fun n a b c d=>Aoo K d a b n c) (fun n=>kN)
def Bw8:=ct (Bug K) (Avr K) (kC (Bn9 K K) kN)
def Aby (K:Nat)(a0:List Bl)(a1_0:Fc)(a1_1:Ax):Nat->Int->Int->Option (Int)
 |0,_,_=>none
 |n1+1,v1,v2=>(bif (decide (v2<v1))then(if(0:Int)≤v2∧v2<(a0.length:Int)then((Avr K (gt a0 v2) a1_0 a1_1).bind fun r3=>(bif r3 then some v2 else(Aby K a0 a1_0 a1_1 n1 v1 (Arj .i64 v2 1))))else none)else some (-1))
def Aqr (K:Nat)(a0:List Bl)(a1_0:Fc)(a1_1:Ax):Option (Int):=(Aby K a0 a1_0 a1_1 K (a0.length:Int) 0)
def Buh:=fd Tryz.func295 ⟨[.v 75,.f 293 [] [33,77]],[.v 3],true⟩ (gC (Bw8 K) gN)
def B07:Fs:=⟨[(0,.v 75),(1,.f 293 [] [33,77]),(7,.v 2),(8,.v 2)],[]⟩
def Boa:=lp (Buh K) 26 B07 [] (fun n a b c=>Aby K a b c n) (fun n=>kN)
def Bw9:=ct (Buh K) (Aqr K) (kC (Boa K K) kN)
def Aji (K:Nat)(a0:List Bl)(a1_0:Fc)(a1_1:Ax):Option (Bool):=((Aqr K a0 a1_0 a1_1).bind fun r1=>some (decide (r1≥0)))
def Bxa:=ct (fd Tryz.func215 ⟨[.v 75,.f 293 [] [33,77]],[.v 4],true⟩ (gC (Bw9 K) gN)) (Aji K)
def A0o (K:Nat)(a0:Fc)(a1:Ax):Option (Bool):=((Aji K a1.D3 a0 a1).bind fun r1=>some (!r1))
def Bxb:=ct (fd Tryz.func213 ⟨[.v 33,.v 77],[.v 4],true⟩ (gC (Bxa K) gN) [] [] [(1,[.frzB 102 33,.frzB 103 77])]) (A0o K)
def A1x (K:Nat)(v1:Bl)(v2:Bl):Option (Bool):=some (decide ((Ark .u64 (IntKind.u64.wrap v1.fAt) (IntKind.u64.wrap v2.fAt))≥(IntKind.u64.wrap v2.Xu)))
def A1y (K:Nat)(a0:Bl)(a1:Bl):Option (Bool):=(bif (decide (a0.Xu≤0))then some true else(bif (decide (a1.Xu≤0))then some true else(bif (decide (a0.fAt>a1.fAt))then(A1x K a0 a1)else(A1x K a1 a0))))
def Bui:=fd Tryz.func217 ⟨[.v 183,.v 183],[.v 4],true⟩ gN [7,8] [7]
def B08:Fs:=⟨[(2,.p 102),(3,.p 103)],[(103,.st 183 true),(102,.st 183 true)]⟩
def Br9:=jn Bui 7 B08 [] (A1x K) kN
def Bob:=ct Bui (A1y K) (kC (Br9 K) kN)
def Aye (K:Nat)(a0:Bl)(a1:Bl):Option (Bool):=((A1y K a0 a1).bind fun r1=>some (!r1))
def Bxc:=ct (fd Tryz.func294 ⟨[.v 183,.r 183],[.v 4],true⟩ (gC (Bob K) gN)) (Aye K)
def Abz (K:Nat)(a0:List Bl)(a1_0:Bl):Nat->Int->Int->Option (Int)
 |0,_,_=>none
 |n1+1,v1,v2=>(bif (decide (v2<v1))then(if(0:Int)≤v2∧v2<(a0.length:Int)then((Aye K (gt a0 v2) a1_0).bind fun r3=>(bif r3 then some v2 else(Abz K a0 a1_0 n1 v1 (Arj .i64 v2 1))))else none)else some (-1))
def Aqs (K:Nat)(a0:List Bl)(a1_0:Bl):Option (Int):=(Abz K a0 a1_0 K (a0.length:Int) 0)
def Buj:=fd Tryz.func295 ⟨[.v 75,.f 294 [] [183]],[.v 3],true⟩ (gC (Bxc K) gN)
def B09:Fs:=⟨[(0,.v 75),(1,.f 294 [] [183]),(7,.v 2),(8,.v 2)],[]⟩
def Boc:=lp (Buj K) 26 B09 [] (fun n a b=>Abz K a b n) (fun n=>kN)
def Bxd:=ct (Buj K) (Aqs K) (kC (Boc K K) kN)
def Ajj (K:Nat)(a0:List Bl)(a1_0:Bl):Option (Bool):=((Aqs K a0 a1_0).bind fun r1=>some (decide (r1≥0)))
def Bxe:=ct (fd Tryz.func215 ⟨[.v 75,.f 294 [] [183]],[.v 4],true⟩ (gC (Bxd K) gN)) (Ajj K)
def Aso (K:Nat)(a0:List Bl):Nat->(List Bl)->Int->Int->Option (Bool)
 |0,_,_,_=>none
 |n1+1,v1,v2,v3=>(bif (decide (v3<v2))then(if(0:Int)≤v3∧v3<(v1.length:Int)then(if(0:Int)≤0∧0≤v3∧v3≤(a0.length:Int)then((Ajj K ((a0.drop (0:Int).toNat).take (v3 - 0).toNat) (gt v1 v3)).bind fun r4=>(bif r4 then some false else(Aso K a0 n1 v1 v2 (Arj .i64 v3 1))))else none)else none)else some true)
def A0p (K:Nat)(a0:List Bl):Option (Bool):=(Aso K a0 K a0 (a0.length:Int) 0)
def Buk:=fd Tryz.func214 ⟨[.v 75],[.v 4],true⟩ (gC (Bxe K) gN) [] [] [(4,[.frzB 104 183])]
def B1a:Fs:=⟨[(0,.v 75),(5,.v 75),(6,.v 2),(7,.v 2)],[]⟩
def Bod:=lp (Buk K) 26 B1a [] (fun n a=>Aso K a n) (fun n=>kN)
def Bxf:=ct (Buk K) (A0p K) (kC (Bod K K) kN)
def Aud (K:Nat)(a0:Bl)(a1:Bl):Option (Bool):=((A1y K a0 a1).bind fun r1=>some (!r1))
def Bxg:=ct (fd Tryz.func216 ⟨[.v 183,.r 183],[.v 4],true⟩ (gC (Bob K) gN)) (Aud K)
def W2 (K:Nat)(a0:List Bl)(a1_0:Bl):Nat->Int->Int->Option (Int)
 |0,_,_=>none
 |n1+1,v1,v2=>(bif (decide (v2<v1))then(if(0:Int)≤v2∧v2<(a0.length:Int)then((Aud K (gt a0 v2) a1_0).bind fun r3=>(bif r3 then some v2 else(W2 K a0 a1_0 n1 v1 (Arj .i64 v2 1))))else none)else some (-1))
def An6 (K:Nat)(a0:List Bl)(a1_0:Bl):Option (Int):=(W2 K a0 a1_0 K (a0.length:Int) 0)
def Bul:=fd Tryz.func295 ⟨[.v 75,.f 216 [] [183]],[.v 3],true⟩ (gC (Bxg K) gN)
def B1b:Fs:=⟨[(0,.v 75),(1,.f 216 [] [183]),(7,.v 2),(8,.v 2)],[]⟩
def Boe:=lp (Bul K) 26 B1b [] (fun n a b=>W2 K a b n) (fun n=>kN)
def Bxh:=ct (Bul K) (An6 K) (kC (Boe K K) kN)
def Afd (K:Nat)(a0:List Bl)(a1_0:Bl):Option (Bool):=((An6 K a0 a1_0).bind fun r1=>some (decide (r1≥0)))
def Bxi:=ct (fd Tryz.func215 ⟨[.v 75,.f 216 [] [183]],[.v 4],true⟩ (gC (Bxh K) gN)) (Afd K)
def Aue (K:Nat)(v1:List Ax)(v2:Int)(v3:Int)(v4:Int)(v5:Int)(v6:Int)(v7:Int)(v8:Int)(v9:Int)(v10:List Int)(v11:List Int)(v12:List Int)(v13:List Ax)(v14:List A7)(v15:List Int)(C1:(List Ax)->Int->Int->Int->Int->Int->Int->Int->Int->(List Int)->(List Int)->(List Int)->(List Ax)->(List A7)->(List Int)->Option (Bool)):Option (Bool):=(C1 v1 v2 (Arj .i64 v3 1) v4 v5 v6 v7 v8 v9 v10 v11 v12 v13 v14 v15)
def Ajl (K:Nat):Nat->(List Ax)->Int->Int->Int->Int->Int->Int->Int->Int->(List Int)->(List Int)->(List Int)->(List Ax)->(List A7)->(List Int)->Option (Bool)
 |0,_,_,_,_,_,_,_,_,_,_,_,_,_,_,_=>none
 |n1+1,v1,v2,v3,v4,v5,v6,v7,v8,v9,v10,v11,v12,v13,v14,v15=>(bif (decide (v3<v2))then(if(0:Int)≤v3∧v3<(v1.length:Int)then((Axc K ((gt v1 v3).Ad)).bind fun r16=>((Ff K r16).bind fun r17=>(if r17.length=r16.length then((A2w K (Fc.mk v4 v5 v6 v7 v8 v9) (gt v1 v3)).bind fun r18=>(bif r18 then((Ayv K (Ed.mk v10 v11 v12) v3).bind fun r19=>((Ab0 K r17 r19).bind fun r20=>(bif r20 then((A0o K (Fc.mk v4 v5 v6 v7 v8 v9) (gt v1 v3)).bind fun r21=>(bif r21 then((A0p K ((gt v1 v3).D3)).bind fun r22=>(bif (!r22)then some false else(bif (((gt v1 v3).M7)==0)then(Aue K v1 v2 v3 v4 v5 v6 v7 v8 v9 v10 v11 v12 v13 v14 v15 (Ajl K n1))else(if(0:Int)≤((Bl.mk (Arj .i64 (Arl .i64 (Ark .i64 ((gt v1 v3).M7) 1) v5) ((gt v1 v3).Gz)) (Ark .i64 v5 ((gt v1 v3).Gz)) 0).fAt)∧((Bl.mk (Arj .i64 (Arl .i64 (Ark .i64 ((gt v1 v3).M7) 1) v5) ((gt v1 v3).Gz)) (Ark .i64 v5 ((gt v1 v3).Gz)) 0).fAt)≤(Arj .i64 ((Bl.mk (Arj .i64 (Arl .i64 (Ark .i64 ((gt v1 v3).M7) 1) v5) ((gt v1 v3).Gz)) (Ark .i64 v5 ((gt v1 v3).Gz)) 0).fAt) ((Bl.mk (Arj .i64 (Arl .i64 (Ark .i64 ((gt v1 v3).M7) 1) v5) ((gt v1 v3).Gz)) (Ark .i64 v5 ((gt v1 v3).Gz)) 0).Xu))∧(Arj .i64 ((Bl.mk (Arj .i64 (Arl .i64 (Ark .i64 ((gt v1 v3).M7) 1) v5) ((gt v1 v3).Gz)) (Ark .i64 v5 ((gt v1 v3).Gz)) 0).fAt) ((Bl.mk (Arj .i64 (Arl .i64 (Ark .i64 ((gt v1 v3).M7) 1) v5) ((gt v1 v3).Gz)) (Ark .i64 v5 ((gt v1 v3).Gz)) 0).Xu))≤(v10.length:Int)then((Ax2 K ((v10.drop ((Bl.mk (Arj .i64 (Arl .i64 (Ark .i64 ((gt v1 v3).M7) 1) v5) ((gt v1 v3).Gz)) (Ark .i64 v5 ((gt v1 v3).Gz)) 0).fAt).toNat).take ((Arj .i64 ((Bl.mk (Arj .i64 (Arl .i64 (Ark .i64 ((gt v1 v3).M7) 1) v5) ((gt v1 v3).Gz)) (Ark .i64 v5 ((gt v1 v3).Gz)) 0).fAt) ((Bl.mk (Arj .i64 (Arl .i64 (Ark .i64 ((gt v1 v3).M7) 1) v5) ((gt v1 v3).Gz)) (Ark .i64 v5 ((gt v1 v3).Gz)) 0).Xu)) - ((Bl.mk (Arj .i64 (Arl .i64 (Ark .i64 ((gt v1 v3).M7) 1) v5) ((gt v1 v3).Gz)) (Ark .i64 v5 ((gt v1 v3).Gz)) 0).fAt)).toNat)).bind fun r23=>(bif r23 then((Afd K ((gt v1 v3).D3) (Bl.mk (Arj .i64 (Arl .i64 (Ark .i64 ((gt v1 v3).M7) 1) v5) ((gt v1 v3).Gz)) (Ark .i64 v5 ((gt v1 v3).Gz)) 0)).bind fun r24=>(bif r24 then some false else(Aue K v1 v2 v3 v4 v5 v6 v7 v8 v9 v10 v11 v12 v13 v14 v15 (Ajl K n1))))else some false))else none))))else some false))else some false)))else some false))else none)))else none)else some true)
def Avs (K:Nat)(a0:Bm):Option (Bool):=(Ajl K K a0.fL (a0.fL.length:Int) 0 a0.fC.Ad a0.fC.Ds a0.fC.B9 a0.fC.Eu a0.fC.Ca a0.fC.Dt a0.fP.Fi a0.fP.Gt a0.fP.Fj a0.fL a0.fQ a0.Jc)
def Bof:=fd Tryz.func123 ⟨[.v 38],[.v 4],true⟩ (gC (Bgt K) (gC (Bn8 K) (gC (A9y K) (gC (Bwu K) (gC (Yb K) (gC (Bw7 K) (gC (Bxb K) (gC (Bxf K) (gC (Bxi K) gN))))))))) [23,24,25,31,32,33,34,38,39,40,41,78,79,80] [211] [(10,[.frzB 106 183])]
def Bil:Fs:=⟨[(1,.p 101),(8,.v 35),(9,.v 2),(10,.v 2)],[(101,.box [.v 2,.v 2,.v 2,.v 2,.v 2,.v 2,.v 24,.v 25,.v 25,.v 35,.v 36,.v 25])]⟩
def Bj7:=fun(C26:CT Bil _)=>jn (Bof K) 211 Bil [(26,ar Bil C26)] (fun a b c d e f g h i j k l m o p=>Aue K a b c d e f g h i j k l m o p C26) kN
def Bog:=lp (Bof K) 26 Bil [] (Ajl K) (fun n=>(kC (Bj7 K _) kN))
def Bxj:=ct (Bof K) (Avs K) (kC (Bog K K) kN)
def Atj (K:Nat)(a0:List Ax)(a1:Int):Option (Bool):=((V1 K a1 0 (Ark .i64 (a0.length:Int) 1)).bind fun r1=>some r1)
def A9z:=ct (fd Tryz.func118 ⟨[.v 35,.v 3],[.v 4],true⟩ (gC (Bcj K) gN)) (Atj K)
def Ax3 (K:Nat)(a0:List Ax)(a1:Int):Option (Bool):=(bif (a1==0)then some true else((Atj K a0 (Ark .i64 a1 1)).bind fun r1=>(bif r1 then(if(0:Int)≤(Ark .i64 a1 1)∧(Ark .i64 a1 1)<(a0.length:Int)then some (((gt a0 (Ark .i64 a1 1)).Gt)==1)else none)else some false)))
def Bxk:=ct (fd Tryz.func296 ⟨[.v 35,.v 3],[.v 4],true⟩ (gC (A9z K) gN) [6,7,11,12]) (Ax3 K)
def Aur (K:Nat)(a0:List Ax)(a1:Int):Option (Bool):=(if(0:Int)≤a1∧a1<(a0.length:Int)then((Atj K a0 (Ark .i64 ((gt a0 a1).fUp) 1)).bind fun r1=>(bif r1 then(if(0:Int)≤(Ark .i64 ((gt a0 a1).fUp) 1)∧(Ark .i64 ((gt a0 a1).fUp) 1)<(a0.length:Int)then(bif (((gt a0 (Ark .i64 ((gt a0 a1).fUp) 1)).Gt)==1)then(if(0:Int)≤(Ark .i64 ((gt a0 a1).fUp) 1)∧(Ark .i64 ((gt a0 a1).fUp) 1)<(a0.length:Int)then(if(0:Int)≤a1∧a1<(a0.length:Int)then some (((gt a0 (Ark .i64 ((gt a0 a1).fUp) 1)).Mu)==((gt a0 a1).Gu))else none)else none)else some false)else none)else some false))else none)
def Bgw:=ct (fd Tryz.func219 ⟨[.v 35,.v 3],[.v 4],true⟩ (gC (A9z K) gN) [14,15,21,22,23]) (Aur K)
def Awv (K:Nat)(a0:List Ax)(a1:Int)(v8:Int)(v12:Int):Option (Bool):=(bif (v12 != 0)then some true else((Aur K a0 a1).bind fun r18=>(bif r18 then(if(0:Int)≤(Ark .i64 v8 1)∧(Ark .i64 v8 1)<(a0.length:Int)then some (((gt a0 (Ark .i64 v8 1)).Bw)==(Arj .i64 a1 1))else none)else some true)))
def Aww (K:Nat)(a0:List Ax)(a1:Int)(v8:Int)(v12:Int):Option (Bool):=(bif (v12 != 0)then(if(0:Int)≤(Ark .i64 v12 1)∧(Ark .i64 v12 1)<(a0.length:Int)then(bif (((gt a0 (Ark .i64 v12 1)).Gv) != (Arj .i64 a1 1))then some false else(Awv K a0 a1 v8 v12))else none)else(Awv K a0 a1 v8 v12))
def Awx (K:Nat)(a0:List Ax)(a1:Int)(v8:Int)(v9:Int)(v11:Int)(v12:Int):Option (Bool):=(bif (v11 != 0)then(if(0:Int)≤(Ark .i64 v11 1)∧(Ark .i64 v11 1)<(a0.length:Int)then(bif (((gt a0 (Ark .i64 v11 1)).Gw) != (Arj .i64 a1 1))then some false else(bif (((gt a0 (Ark .i64 v11 1)).fUp) != v8)then some false else(bif (((gt a0 (Ark .i64 v11 1)).Gu) != v9)then some false else(Aww K a0 a1 v8 v12))))else none)else(Aww K a0 a1 v8 v12))
def Awy (K:Nat)(a0:List Ax)(a1:Int)(v5:Int)(v6:Int)(v7:Int)(v8:Int)(v9:Int)(v10:Int)(v11:Int)(v12:Int)(v13:List Int)(v14:Int)(v15:Int)(v16:List Bl)(v17:List Int):Option (Bool):=(bif (v10 != 0)then(if(0:Int)≤(Ark .i64 v10 1)∧(Ark .i64 v10 1)<(a0.length:Int)then(bif (((gt a0 (Ark .i64 v10 1)).Gw) != 0)then some false else(bif (((gt a0 (Ark .i64 v10 1)).fUp) != (Arj .i64 a1 1))then some false else(bif (((gt a0 (Ark .i64 v10 1)).Gu) != v7)then some false else(Awx K a0 a1 v8 v9 v11 v12))))else none)else(Awx K a0 a1 v8 v9 v11 v12))
def A1z (K:Nat)(a0:List Ax)(a1:Int):Option (Bool):=(if(0:Int)≤a1∧a1<(a0.length:Int)then((Ax3 K a0 ((gt a0 a1).Bw)).bind fun r1=>(bif r1 then((Ax3 K a0 ((gt a0 a1).Gv)).bind fun r2=>(bif r2 then((Ax3 K a0 ((gt a0 a1).Gw)).bind fun r3=>(bif r3 then(bif (((gt a0 a1).fUp) != 0)then((Atj K a0 (Ark .i64 ((gt a0 a1).fUp) 1)).bind fun r4=>(bif (!r4)then some false else(Awy K a0 a1 ((gt a0 a1).Gt) ((gt a0 a1).C5) ((gt a0 a1).Mu) ((gt a0 a1).fUp) ((gt a0 a1).Gu) ((gt a0 a1).Bw) ((gt a0 a1).Gv) ((gt a0 a1).Gw) ((gt a0 a1).Ad) ((gt a0 a1).M7) ((gt a0 a1).Gz) ((gt a0 a1).D3) ((gt a0 a1).De))))else(Awy K a0 a1 ((gt a0 a1).Gt) ((gt a0 a1).C5) ((gt a0 a1).Mu) ((gt a0 a1).fUp) ((gt a0 a1).Gu) ((gt a0 a1).Bw) ((gt a0 a1).Gv) ((gt a0 a1).Gw) ((gt a0 a1).Ad) ((gt a0 a1).M7) ((gt a0 a1).Gz) ((gt a0 a1).D3) ((gt a0 a1).De)))else some false))else some false))else some false))else none)
def Bef:=fd Tryz.func218 ⟨[.v 35,.v 3],[.v 4],true⟩ (gC (A9z K) (gC (Bgw K) (gC (Bxk K) gN))) [15,16,17,21,22,23,24,28,29,30,31,34,35,55,56,61,62,63,83,84,89,90,91,100,101,115,116,119,120,121,122] [7,15,31,63]
def Boh:=jn (Bef K) 63 Bd9 [] (fun a b _ _ _ f _ _ _ j _ _ _ _ _=>Awv K a b f j) kN
def Boi:=jn (Bef K) 31 Bd9 [] (fun a b _ _ _ f _ _ _ j _ _ _ _ _=>Aww K a b f j) (kC (Boh K) kN)
def Boj:=jn (Bef K) 15 Bd9 [] (fun a b _ _ _ f g _ i j _ _ _ _ _=>Awx K a b f g i j) (kC (Boi K) kN)
def Bsa:=jn (Bef K) 7 Bd9 [] (Awy K) (kC (Boj K) kN)
def Bxl:=ct (Bef K) (A1z K) (kC (Bsa K) kN)
def Az3 (K:Nat)(a0:List Ax):Nat->Int->(List Int)->Option ((List Int))
 |0,_,_=>none
 |n1+1,v1,v2=>((Atj K a0 v1).bind fun r3=>(bif r3 then(bif (decide ((v2.length:Int)<(a0.length:Int)))then(if(v2++([v1]:List Int)).length*8≤140737488355328∧(v2++([v1]:List Int)).length≤maxLen then(if(0:Int)≤v1∧v1<(a0.length:Int)then(Az3 K a0 n1 (Ark .i64 ((gt a0 v1).fUp) 1) (v2++([v1]:List Int)))else none)else none)else some v2)else some v2))
def A2z (K:Nat)(a0:List Ax)(a1:Int):Option ((List Int)):=(Az3 K a0 K a1 ([]:List Int))
def Bum:=fd Tryz.func202 ⟨[.v 35,.v 3],[.n 25 true],true⟩ (gC (A9z K) gN) [9,10]
def Bok:=lp (Bum K) 28 h_7 [] (fun n a=>Az3 K a n) (fun n=>kN)
def Bol:=ct (Bum K) (A2z K) (kC (Bok K K) kN)
def A0q (K:Nat)(v1:List Ax)(v2:Int)(v3:Int)(C1:(List Ax)->Int->Int->Option (Bool)):Option (Bool):=(C1 v1 v2 (Arj .i64 v3 1))
def As1 (K:Nat)(a0:List Ax):Nat->(List Ax)->Int->Int->Option (Bool)
 |0,_,_,_=>none
 |n1+1,v1,v2,v3=>(bif (decide (v3<v2))then(if(0:Int)≤v3∧v3<(v1.length:Int)then(bif (((gt v1 v3).Gt) != 1)then(A0q K v1 v2 v3 (As1 K a0 n1))else((A1z K a0 v3).bind fun r4=>(bif (!r4)then some false else((A2z K a0 v3).bind fun r5=>(bif (decide ((r5.length:Int)>4))then some false else(if(0:Int)≤(Ark .i64 (r5.length:Int) 1)∧(Ark .i64 (r5.length:Int) 1)<(r5.length:Int)then((Aur K a0 (gt r5 (Ark .i64 (r5.length:Int) 1))).bind fun r6=>(bif r6 then some false else(A0q K v1 v2 v3 (As1 K a0 n1))))else none))))))else none)else some true)
def A2x (K:Nat)(a0:List Ax):Option (Bool):=(As1 K a0 K a0 (a0.length:Int) 0)
def Bom:=fd Tryz.func124 ⟨[.v 35],[.v 4],true⟩ (gC (Bol K) (gC (Bxl K) (gC (Bgw K) gN))) [25,26] [211]
def Bim:Fs:=⟨[(0,.v 35),(6,.v 35),(7,.v 2),(8,.v 2)],[]⟩
def Bj8:=fun(C26:CT Bim _)=>jn (Bom K) 211 Bim [(26,ar Bim C26)] (fun a b c d=>A0q K b c d (C26 a)) kN
def Bon:=lp (Bom K) 26 Bim [] (fun n a=>As1 K a n) (fun n=>(kC (Bj8 K _) kN))
def Bxm:=ct (Bom K) (A2x K) (kC (Bon K K) kN)
def Avi (K:Nat)(a0:List Ax)(a1:Int):Option (Bool):=(if(0:Int)≤a1∧a1<(a0.length:Int)then(bif (((gt a0 a1).Gt)==1)then(if(0:Int)≤a1∧a1<(a0.length:Int)then(bif (((gt a0 a1).fUp) != 0)then((Aur K a0 a1).bind fun r1=>some (!r1))else some false)else none)else some false)else none)
def Bxn:=ct (fd Tryz.func221 ⟨[.v 35,.v 3],[.v 4],true⟩ (gC (Bgw K) gN) [10,11,17,18,19]) (Avi K)
def A10 (K:Nat)(a0:Fc)(a1:A7):Option (Bool):=((Aqk K a0).bind fun r1=>(bif r1 then((V1 K a1.A9 0 a0.B9).bind fun r2=>(bif r2 then((V1 K a1.Bw 0 a0.B9).bind fun r3=>(bif r3 then(bif (decide ((a1.De.length:Int)≤6))then((Avh K a1.De).bind fun r4=>(bif r4 then((Axu K a0 a1.Ad).bind fun r5=>(bif r5 then((V1 K a1.Hp 0 (Ark .i64 a0.Ds 1)).bind fun r6=>(bif r6 then(bif (decide ((a1.Ad.length:Int)>0))then some true else some (a1.Hp==0))else some false))else some false))else some false))else some false)else some false))else some false))else some false))
def Bxo:=ct (fd Tryz.func220 ⟨[.v 33,.v 79],[.v 4],true⟩ (gC (Bd3 K) (gC (Bgv K) (gC (Bcj K) (gC (Bn0 K) gN)))) [6,7,12,13,14,19,20,21,25,26,27,30,31,32,36,37,38,44,45,46,50,51]) (A10 K)
def Axv (K:Nat)(a0:List Ax):Nat->(List Int)->Int->Option ((List Int))
 |0,_,_=>none
 |n1+1,v1,v2=>((Atj K a0 v2).bind fun r3=>(bif r3 then(bif (decide ((v1.length:Int)<(a0.length:Int)))then(if(v1++([v2]:List Int)).length*8≤140737488355328∧(v1++([v2]:List Int)).length≤maxLen then(if(0:Int)≤v2∧v2<(a0.length:Int)then(Axv K a0 n1 (v1++([v2]:List Int)) (Ark .i64 ((gt a0 v2).Gv) 1))else none)else none)else some v1)else some v1))
def A2y (K:Nat)(a0:List Ax)(a1:Int):Option ((List Int)):=(Axv K a0 K ([]:List Int) (Ark .i64 a1 1))
def Bun:=fd Tryz.func174 ⟨[.v 35,.v 3],[.n 25 true],true⟩ (gC (A9z K) gN) [12,13]
def B1c:Fs:=⟨[(0,.v 35),(5,.o 1005 3 true),(6,.v 2)],[]⟩
def Boo:=lp (Bun K) 58 B1c [] (fun n a=>Axv K a n) (fun n=>kN)
def Bxp:=ct (Bun K) (A2y K) (kC (Boo K K) kN)
def Aj7 (K:Nat)(v4:List A7)(v5:Int)(v6:Int)(v7:Int)(v8:Int)(v9:Int)(v10:Int)(v11:Int)(v12:Int)(v13:List Int)(v14:List Int)(v15:List Int)(v16:List Ax)(v17:List A7)(v18:List Int)(v27:List Int)(v31:List Int)(r32:(List Int))(C1:(List Int)->(List Int)->(List Int)->(List A7)->Int->Int->Int->Int->Int->Int->Int->Int->(List Int)->(List Int)->(List Int)->(List Ax)->(List A7)->(List Int)->Option (Bool)):Nat->(List Int)->Int->Int->Option (Bool)
 |0,_,_,_=>none
 |n6+1,v33,v34,v35=>(bif (decide (v35<v34))then(if(0:Int)≤v35∧v35<(r32.length:Int)then(if(0:Int)≤(gt r32 v35)∧(gt r32 v35)<(v33.length:Int)then(if(0:Int)≤(gt r32 v35)∧(gt r32 v35)<(v33.length:Int)then((Avi K v16 (gt r32 v35)).bind fun r36=>(bif (!r36)then some false else(Aj7 K v4 v5 v6 v7 v8 v9 v10 v11 v12 v13 v14 v15 v16 v17 v18 v27 v31 r32 C1 n6 (v33.set (gt r32 v35).toNat (Arj .i64 (gt v33 (gt r32 v35)) 1)) v34 (Arj .i64 v35 1))))else none)else none)else none)else(C1 v27 v31 v33 v4 v5 (Arj .i64 v6 1) v7 v8 v9 v10 v11 v12 v13 v14 v15 v16 v17 v18))
def Asp (K:Nat)(v3:List Int)(v4:List A7)(v5:Int)(v6:Int)(v7:Int)(v8:Int)(v9:Int)(v10:Int)(v11:Int)(v12:Int)(v13:List Int)(v14:List Int)(v15:List Int)(v16:List Ax)(v17:List A7)(v18:List Int)(v23:Int)(v27:List Int)(v31:List Int)(C1:(List Int)->(List Int)->(List Int)->(List A7)->Int->Int->Int->Int->Int->Int->Int->Int->(List Int)->(List Int)->(List Int)->(List Ax)->(List A7)->(List Int)->Option (Bool)):Option (Bool):=((A2y K v16 v23).bind fun r32=>(Aj7 K v4 v5 v6 v7 v8 v9 v10 v11 v12 v13 v14 v15 v16 v17 v18 v27 v31 r32 (C1) K v3 (r32.length:Int) 0))
def Asq (K:Nat)(v3:List Int)(v4:List A7)(v5:Int)(v6:Int)(v7:Int)(v8:Int)(v9:Int)(v10:Int)(v11:Int)(v12:Int)(v13:List Int)(v14:List Int)(v15:List Int)(v16:List Ax)(v17:List A7)(v18:List Int)(v23:Int)(v27:List Int)(C1:(List Int)->(List Int)->(List Int)->(List A7)->Int->Int->Int->Int->Int->Int->Int->Int->(List Int)->(List Int)->(List Int)->(List Ax)->(List A7)->(List Int)->Option (Bool))(v31:List Int):Option (Bool):=(bif (decide (v23>0))then(if(0:Int)≤(Ark .i64 v23 1)∧(Ark .i64 v23 1)<(v16.length:Int)then(bif (((gt v16 (Ark .i64 v23 1)).Gw) != 0)then some false else(Asp K v3 v4 v5 v6 v7 v8 v9 v10 v11 v12 v13 v14 v15 v16 v17 v18 v23 v27 v31 (C1)))else none)else(Asp K v3 v4 v5 v6 v7 v8 v9 v10 v11 v12 v13 v14 v15 v16 v17 v18 v23 v27 v31 (C1)))
def Aj8 (K:Nat)(v2:List Int)(v3:List Int)(v4:List A7)(v5:Int)(v6:Int)(v7:Int)(v8:Int)(v9:Int)(v10:Int)(v11:Int)(v12:Int)(v13:List Int)(v14:List Int)(v15:List Int)(v16:List Ax)(v17:List A7)(v18:List Int)(v22:Int)(v23:Int)(v25:List Int)(C1:(List Int)->(List Int)->(List Int)->(List A7)->Int->Int->Int->Int->Int->Int->Int->Int->(List Int)->(List Int)->(List Int)->(List Ax)->(List A7)->(List Int)->Option (Bool)):Nat->(List Int)->Int->Int->(List Int)->Option (Bool)
 |0,_,_,_,_=>none
 |n3+1,v27,v28,v29,v30=>(bif (decide (v29<v28))then(if(0:Int)≤v29∧v29<(v25.length:Int)then(if(0:Int)≤(gt v25 v29)∧(gt v25 v29)<(v27.length:Int)then(if(0:Int)≤(gt v25 v29)∧(gt v25 v29)<(v27.length:Int)then(if(0:Int)≤(gt v25 v29)∧(gt v25 v29)<(v14.length:Int)then(bif ((gt v14 (gt v25 v29)) != 2)then some false else(Aj8 K v2 v3 v4 v5 v6 v7 v8 v9 v10 v11 v12 v13 v14 v15 v16 v17 v18 v22 v23 v25 C1 n3 (v27.set (gt v25 v29).toNat (Arj .i64 (gt v27 (gt v25 v29)) 1)) v28 (Arj .i64 v29 1) v30))else none)else none)else none)else none)else(bif (decide (v22>0))then(if(0:Int)≤(Ark .i64 v22 1)∧(Ark .i64 v22 1)<(v2.length:Int)then(if(0:Int)≤(Ark .i64 v22 1)∧(Ark .i64 v22 1)<(v2.length:Int)then(if(0:Int)≤(Ark .i64 v22 1)∧(Ark .i64 v22 1)<(v16.length:Int)then(bif (((gt v16 (Ark .i64 v22 1)).Gt) != 2)then some false else(Asq K v3 v4 v5 v6 v7 v8 v9 v10 v11 v12 v13 v14 v15 v16 v17 v18 v23 v27 (C1) (v2.set (Ark .i64 v22 1).toNat (Arj .i64 (gt v2 (Ark .i64 v22 1)) 1))))else none)else none)else none)else(Asq K v3 v4 v5 v6 v7 v8 v9 v10 v11 v12 v13 v14 v15 v16 v17 v18 v23 v27 (C1) v2)))
def Asr (K:Nat)(v1:List Int)(v2:List Int)(v3:List Int)(v4:List A7)(v5:Int)(v6:Int)(v7:Int)(v8:Int)(v9:Int)(v10:Int)(v11:Int)(v12:Int)(v13:List Int)(v14:List Int)(v15:List Int)(v16:List Ax)(v17:List A7)(v18:List Int)(C1:(List Int)->(List Int)->(List Int)->(List A7)->Int->Int->Int->Int->Int->Int->Int->Int->(List Int)->(List Int)->(List Int)->(List Ax)->(List A7)->(List Int)->Option (Bool))(v22:Int)(v23:Int)(v24:List Int)(v25:List Int)(v26:Int):Option (Bool):=(Aj8 K v2 v3 v4 v5 v6 v7 v8 v9 v10 v11 v12 v13 v14 v15 v16 v17 v18 v22 v23 v25 (C1) K v1 (v25.length:Int) 0 v25)
def Auf (K:Nat)(v37:Int)(v38:Int)(v39:List Int)(C7:Int->Int->(List Int)->Option (Bool)):Option (Bool):=(C7 v37 (Arj .i64 v38 1) v39)
def Amd (K:Nat)(v40:Int)(v41:Int)(v42:List Ax)(C9:Int->Int->(List Ax)->Option (Bool)):Option (Bool):=(C9 v40 (Arj .i64 v41 1) v42)
def Abw (K:Nat)(v2:List Int)(v3:List Int)(v16:List Ax):Nat->Int->Int->(List Ax)->Option (Bool)
 |0,_,_,_=>none
 |n9+1,v40,v41,v42=>(bif (decide (v41<v40))then(if(0:Int)≤v41∧v41<(v16.length:Int)then(bif (((gt v16 v41).Gt)==2)then(if(0:Int)≤v41∧v41<(v2.length:Int)then(bif ((gt v2 v41) != 1)then some false else((Avi K v42 v41).bind fun r43=>(bif r43 then(if(0:Int)≤v41∧v41<(v3.length:Int)then(bif ((gt v3 v41) != 1)then some false else(Amd K v40 v41 v42 (Abw K v2 v3 v16 n9)))else none)else(Amd K v40 v41 v42 (Abw K v2 v3 v16 n9)))))else none)else((Avi K v42 v41).bind fun r44=>(bif r44 then(if(0:Int)≤v41∧v41<(v3.length:Int)then(bif ((gt v3 v41) != 1)then some false else(Amd K v40 v41 v42 (Abw K v2 v3 v16 n9)))else none)else(Amd K v40 v41 v42 (Abw K v2 v3 v16 n9)))))else none)else some true)
def Agu (K:Nat)(v1:List Int)(v2:List Int)(v3:List Int)(v14:List Int)(v16:List Ax):Nat->Int->Int->(List Int)->Option (Bool)
 |0,_,_,_=>none
 |n7+1,v37,v38,v39=>(bif (decide (v38<v37))then(if(0:Int)≤v38∧v38<(v14.length:Int)then(bif ((gt v14 v38)==2)then(if(0:Int)≤v38∧v38<(v1.length:Int)then(bif ((gt v1 v38) != 1)then some false else(Auf K v37 v38 v39 (Agu K v1 v2 v3 v14 v16 n7)))else none)else(Auf K v37 v38 v39 (Agu K v1 v2 v3 v14 v16 n7)))else none)else(Abw K v2 v3 v16 K (v16.length:Int) 0 v16))
def F2 (K:Nat):Nat->(List Int)->(List Int)->(List Int)->(List A7)->Int->Int->Int->Int->Int->Int->Int->Int->(List Int)->(List Int)->(List Int)->(List Ax)->(List A7)->(List Int)->Option (Bool)
 |0,_,_,_,_,_,_,_,_,_,_,_,_,_,_,_,_,_,_=>none
 |n1+1,v1,v2,v3,v4,v5,v6,v7,v8,v9,v10,v11,v12,v13,v14,v15,v16,v17,v18=>(bif (decide (v6<v5))then(if(0:Int)≤v6∧v6<(v4.length:Int)then((A10 K (Fc.mk v7 v8 v9 v10 v11 v12) (gt v4 v6)).bind fun r19=>(bif r19 then(bif (decide ((((gt v4 v6).Ad).length:Int)>0))then(if(0:Int)≤0∧0<(((gt v4 v6).Ad).length:Int)then((Avq K (Ed.mk v13 v14 v15) (Fc.mk v7 v8 v9 v10 v11 v12) (gt ((gt v4 v6).Ad) 0)).bind fun r20=>(if(0:Int)≤0∧0≤((gt v4 v6).Hp)∧((gt v4 v6).Hp)≤(r20.length:Int)then((Ax2 K ((r20.drop (0:Int).toNat).take (((gt v4 v6).Hp) - 0).toNat)).bind fun r21=>(bif (!r21)then some false else(Asr K v1 v2 v3 v4 v5 v6 v7 v8 v9 v10 v11 v12 v13 v14 v15 v16 v17 v18 (F2 K n1) ((gt v4 v6).A9) ((gt v4 v6).Bw) ((gt v4 v6).De) ((gt v4 v6).Ad) ((gt v4 v6).Hp))))else none))else none)else(Asr K v1 v2 v3 v4 v5 v6 v7 v8 v9 v10 v11 v12 v13 v14 v15 v16 v17 v18 (F2 K n1) ((gt v4 v6).A9) ((gt v4 v6).Bw) ((gt v4 v6).De) ((gt v4 v6).Ad) ((gt v4 v6).Hp)))else some false))else none)else(Agu K v1 v2 v3 v14 v16 K (v14.length:Int) 0 v14))
def Avt (K:Nat)(a0:Bm):Option (Bool):=(if(0:Int)≤a0.fC.Ad∧a0.fC.Ad≤a0.fC.Ad∧(8:Int)*a0.fC.Ad≤281474976710656∧a0.fC.Ad≤9223372036854775807 then(if(0:Int)≤a0.fC.B9∧a0.fC.B9≤a0.fC.B9∧(8:Int)*a0.fC.B9≤281474976710656∧a0.fC.B9≤9223372036854775807 then(if(0:Int)≤a0.fC.B9∧a0.fC.B9≤a0.fC.B9∧(8:Int)*a0.fC.B9≤281474976710656∧a0.fC.B9≤9223372036854775807 then(F2 K K (List.replicate a0.fC.Ad.toNat (0:Int)) (List.replicate a0.fC.B9.toNat (0:Int)) (List.replicate a0.fC.B9.toNat (0:Int)) a0.fQ (a0.fQ.length:Int) 0 a0.fC.Ad a0.fC.Ds a0.fC.B9 a0.fC.Eu a0.fC.Ca a0.fC.Dt a0.fP.Fi a0.fP.Gt a0.fP.Fj a0.fL a0.fQ a0.Jc)else none)else none)else none)
def A50:=fd Tryz.func125 ⟨[.v 38],[.v 4],true⟩ (gC (Bgt K) (gC (Bxp K) (gC (Bns K) (gC (Bxo K) (gC (Bxn K) gN))))) [38,39,40,44,45,105,106,150,151,169,170,175,176,177,181,182] [979,2003,3737,14951,29903]
def B1d:Fs:=⟨[(1,.p 101),(3,.o 1003 3 true),(4,.o 1004 3 true),(5,.o 1005 3 true),(29,.v 36),(30,.v 2),(31,.v 2),(121,.v 25),(122,.v 2),(123,.v 2)],[(101,.box [.v 2,.v 2,.v 2,.v 2,.v 2,.v 2,.v 24,.v 25,.v 25,.v 35,.v 36,.v 25])]⟩
def Bop:Fs:=⟨[(1,.p 101),(3,.o 1003 3 true),(4,.o 1004 3 true),(5,.o 1005 3 true),(7,.p 107),(29,.v 36),(30,.v 2),(31,.v 2)],[(107,.box [.v 2,.v 2,.v 25,.v 25,.v 2]),(101,.box [.v 2,.v 2,.v 2,.v 2,.v 2,.v 2,.v 24,.v 25,.v 25,.v 35,.v 36,.v 25])]⟩
def B1e:Fs:=⟨[(1,.p 101),(3,.o 1003 3 true),(4,.o 1004 3 true),(5,.o 1005 3 true),(7,.p 107),(29,.v 36),(30,.v 2),(31,.v 2),(63,.v 25),(64,.v 2),(65,.v 2)],[(107,.box [.v 2,.v 2,.v 25,.v 25,.v 2]),(101,.box [.v 2,.v 2,.v 2,.v 2,.v 2,.v 2,.v 24,.v 25,.v 25,.v 35,.v 36,.v 25])]⟩
def Bin:Fs:=⟨[(1,.p 101),(3,.o 1003 3 true),(4,.o 1004 3 true),(5,.o 1005 3 true),(142,.v 25),(143,.v 2),(144,.v 2)],[(101,.box [.v 2,.v 2,.v 2,.v 2,.v 2,.v 2,.v 24,.v 25,.v 25,.v 35,.v 36,.v 25])]⟩
def Bio:Fs:=⟨[(1,.p 101),(4,.o 1004 3 true),(5,.o 1005 3 true),(160,.v 35),(161,.v 2),(162,.v 2)],[(101,.box [.v 2,.v 2,.v 2,.v 2,.v 2,.v 2,.v 24,.v 25,.v 25,.v 35,.v 36,.v 25])]⟩
def A51:Fs:=⟨[(1,.p 101),(3,.o 1003 3 true),(4,.o 1004 3 true),(5,.o 1005 3 true),(29,.v 36),(30,.v 2),(31,.v 2)],[(101,.box [.v 2,.v 2,.v 2,.v 2,.v 2,.v 2,.v 24,.v 25,.v 25,.v 35,.v 36,.v 25])]⟩
def Bcn:=fun(C58:CT A51 _)=>lp (A50 K) 239230 B1d [(58,ar A51 C58)] (fun n a b c d e f g h i j k l m o p q r s t u v=>Aj7 K d e f j k l m o p q r s t u v a b g C58 n c h i) (fun n=>kN)
def Beg:=fun(C58:CT A51 _)=>jn (A50 K) 29903 Bop [(58,ar A51 C58)] (fun a b c d e f _ h _ _ _ l m o p q r s t u v w x=>Asp K c d e f l m o p q r s t u v w x h a b C58) (kC (Bcn K _ K) kN)
def Beh:=fun(C58:CT A51 _)=>jn (A50 K) 14951 Bop [(58,ar A51 C58)] (fun a b c d e f _ h _ _ _ l m o p q r s t u v w x=>Asq K c d e f l m o p q r s t u v w x h a C58 b) (kC (Beg K _) kN)
def Bei:=fun(C58:CT A51 _)=>lp (A50 K) 59802 B1e [(58,ar A51 C58)] (fun n a b c d e f g h i j k _ m _ p q r s t u v w x y z a1=>Aj8 K b c d e f p q r s t u v w x y z a1 j k g C58 n a h i m) (fun n=>(kC (up (Beh K _)) kN))
def Bgx:=fun(C58:CT A51 _)=>jn (A50 K) 3737 Bop [(58,ar A51 C58)] (fun a b c d e f g h i j k l m o p q r s t u v w x=>Asr K a b c d e f l m o p q r s t u v w x C58 g h i j k) (kC (Bei K _ K) kN)
def Bj9:=fun(C122:CT Bin _)=>jn (A50 K) 979 Bin [(122,ar Bin C122)] (fun a b c d e f g h i j k l m o p q r s=>Auf K e f o (fun v37 v38 v39=>C122 a b c d v37 v38 g h i j k l m v39 p q r s)) kN
def Bgy:=fun(C250:CT Bio _)=>jn (A50 K) 2003 Bio [(250,ar Bio C250)] (fun a b c d e f g h i j k l m o p q r=>Amd K d e p (fun v40 v41 v42=>C250 a b c v40 v41 f g h i j k l m o v42 q r)) kN
def Bka:=lp (A50 K) 250 Bio [] (fun n a b c d e _ _ _ _ _ _ _ _ _ p _ _=>Abw K a b c n d e p) (fun n=>(kC (Bgy K _) kN))
def Bkb:=lp (A50 K) 122 Bin [] (fun n a b c d e f _ _ _ _ _ _ _ o _ q _ _=>Agu K a b c d q n e f o) (fun n=>(kC (Bj9 K _) (kC (up (Bka K K)) kN)))
def Boq:=lp (A50 K) 58 A51 [] (F2 K) (fun n=>(kC (Bgx K _) (kC (up (Bkb K K)) kN)))
def Bxq:=ct (A50 K) (Avt K) (kC (Boq K K) kN)
def Au2 (K:Nat)(a0:Bm):Option (Bool):=((A2v K a0.fC a0.fP).bind fun r1=>(bif r1 then(bif ((a0.fL.length:Int)==a0.fC.B9)then((Avs K a0).bind fun r2=>(bif r2 then((A2x K a0.fL).bind fun r3=>(bif r3 then((Avt K a0).bind fun r4=>(bif r4 then((Avh K a0.Jc).bind fun r5=>some r5)else some false))else some false))else some false))else some false)else some false))
def Bxr:=ct (fd Tryz.func32 ⟨[.v 38],[.v 4],true⟩ (gC (Bwt K) (gC (Bxj K) (gC (Bxm K) (gC (Bxq K) (gC (Bgv K) gN))))) [7,8,15,16,17,19,20,21,24,25,26,28,29,30]) (Au2 K)
def Apl (K:Nat)(a0:List Int)(a1:List Int):Nat->Int->Int->Option (Bool)
 |0,_,_=>none
 |n1+1,v1,v2=>(bif (decide (v2<v1))then(if(0:Int)≤v2∧v2<(a0.length:Int)then(if(0:Int)≤v2∧v2<(a1.length:Int)then(bif ((gt a0 v2) != (gt a1 v2))then some false else(Apl K a0 a1 n1 v1 (Arj .i64 v2 1)))else none)else none)else some true)
def Av0 (K:Nat)(a0:List Int)(a1:List Int):Option (Bool):=(bif ((a0.length:Int) != (a1.length:Int))then some false else(Apl K a0 a1 K (a0.length:Int) 0))
def Buo:=fd Tryz.func248 ⟨[.v 24,.v 24],[.v 4],true⟩ gN
def B1f:Fs:=⟨[(0,.v 24),(1,.v 24),(12,.v 2),(13,.v 2)],[]⟩
def Bor:=lp Buo 58 B1f [] (fun n a b=>Apl K a b n) (fun n=>kN)
def Bxs:=ct Buo (Av0 K) (kC (Bor K K) kN)
def A0r (K:Nat)(a0:Ed)(a1:Ed):Option (Bool):=((Av0 K a0.Fi a1.Fi).bind fun r1=>(bif r1 then((Ab0 K a0.Gt a1.Gt).bind fun r2=>(bif r2 then((Ab0 K a0.Fj a1.Fj).bind fun r3=>some r3)else some false))else some false))
def Bxt:=ct (fd Tryz.func149 ⟨[.v 34,.v 34],[.v 4],true⟩ (gC (A9y K) (gC (Bxs K) gN)) [9,10,15,16,17]) (A0r K)
def K1 (K:Nat)(a0:List Ax)(a1:List Ax):Nat->Int->Int->Option (Bool)
 |0,_,_=>none
 |n1+1,v1,v2=>(bif (decide (v2<v1))then(if(0:Int)≤v2∧v2<(a0.length:Int)then(if(0:Int)≤v2∧v2<(a1.length:Int)then((At7 K (gt a0 v2) (gt a1 v2)).bind fun r3=>(bif (!r3)then some false else(K1 K a0 a1 n1 v1 (Arj .i64 v2 1))))else none)else none)else some true)
def Agv (K:Nat)(a0:List Ax)(a1:List Ax):Option (Bool):=(bif ((a0.length:Int) != (a1.length:Int))then some false else(K1 K a0 a1 K (a0.length:Int) 0))
def Bup:=fd Tryz.func249 ⟨[.v 35,.v 35,.f 250 [] []],[.v 4],true⟩ (gC (Bnx K) gN)
def B1g:Fs:=⟨[(1,.v 35),(2,.f 250 [] []),(15,.v 35),(16,.v 2),(17,.v 2)],[]⟩
def Bos:=lp (Bup K) 58 B1g [] (fun n a b=>K1 K b a n) (fun n=>kN)
def Bxu:=ct (Bup K) (Agv K) (kC (Bos K K) kN)
def A2j (K:Nat)(a0:List Ax)(a1:List Ax):Option (Bool):=((Agv K a0 a1).bind fun r1=>some r1)
def Bxv:=ct (fd Tryz.func150 ⟨[.v 35,.v 35],[.v 4],true⟩ (gC (Bxu K) gN)) (A2j K)
def Awz (K:Nat)(a0:A7)(a1:A7):Option (Bool):=(bif (a0.A9==a1.A9)then(bif (a0.Bw==a1.Bw)then(bif (a0.Hp==a1.Hp)then((Ab0 K a0.De a1.De).bind fun r1=>(bif r1 then((Ab0 K a0.Ad a1.Ad).bind fun r2=>some r2)else some false))else some false)else some false)else some false)
def Bxw:=ct (fd Tryz.func152 ⟨[.v 79,.v 79],[.v 4],true⟩ (gC (A9y K) gN) [9,10,15,16,17,22,23,24,29,30,31]) (Awz K)
def Ht (K:Nat)(a0:List A7)(a1:List A7):Nat->Int->Int->Option (Bool)
 |0,_,_=>none
 |n1+1,v1,v2=>(bif (decide (v2<v1))then(if(0:Int)≤v2∧v2<(a0.length:Int)then(if(0:Int)≤v2∧v2<(a1.length:Int)then((Awz K (gt a0 v2) (gt a1 v2)).bind fun r3=>(bif (!r3)then some false else(Ht K a0 a1 n1 v1 (Arj .i64 v2 1))))else none)else none)else some true)
def Adv (K:Nat)(a0:List A7)(a1:List A7):Option (Bool):=(bif ((a0.length:Int) != (a1.length:Int))then some false else(Ht K a0 a1 K (a0.length:Int) 0))
def Buq:=fd Tryz.func151 ⟨[.v 36,.v 36,.f 152 [] []],[.v 4],true⟩ (gC (Bxw K) gN)
def B1h:Fs:=⟨[(1,.v 36),(2,.f 152 [] []),(15,.v 36),(16,.v 2),(17,.v 2)],[]⟩
def Bou:=lp (Buq K) 58 B1h [] (fun n a b=>Ht K b a n) (fun n=>kN)
def Bxx:=ct (Buq K) (Adv K) (kC (Bou K K) kN)
def Aw0 (K:Nat)(a0:Bm)(a1:Bm):Option (Bool):=(bif ((a0.fC.Ad==a1.fC.Ad)&&((a0.fC.Ds==a1.fC.Ds)&&((a0.fC.B9==a1.fC.B9)&&((a0.fC.Eu==a1.fC.Eu)&&((a0.fC.Ca==a1.fC.Ca)&&((a0.fC.Dt==a1.fC.Dt)&&true))))))then((A0r K a0.fP a1.fP).bind fun r1=>(bif r1 then((A2j K a0.fL a1.fL).bind fun r2=>(bif r2 then((Adv K a0.fQ a1.fQ).bind fun r3=>(bif r3 then((Ab0 K a0.Jc a1.Jc).bind fun r4=>some r4)else some false))else some false))else some false))else some false)
def Bxy:=ct (fd Tryz.func41 ⟨[.v 38,.v 38],[.v 4],true⟩ (gC (Bxt K) (gC (Bxv K) (gC (Bxx K) (gC (A9y K) gN)))) [9,10,15,16,17,22,23,24,29,30,31]) (Aw0 K)
def A11 (K:Nat)(v2:List Int)(v3:Int)(v4:Int)(C1:(List Int)->Int->Int->Option (Bool)):Option (Bool):=(C1 v2 v3 (Arj .i64 v4 1))
def Aw1 (K:Nat)(a0:List Ax)(r1:(List Int)):Nat->(List Int)->Int->Int->Option (Bool)
 |0,_,_,_=>none
 |n1+1,v2,v3,v4=>(bif (decide (v4<v3))then(if(0:Int)≤v4∧v4<(v2.length:Int)then(if(0:Int)≤(gt v2 v4)∧(gt v2 v4)<(a0.length:Int)then(bif (((gt a0 (gt v2 v4)).Gt) != 1)then some false else(bif (decide ((Arj .i64 v4 1)<(r1.length:Int)))then(if(0:Int)≤(gt v2 v4)∧(gt v2 v4)<(a0.length:Int)then(if(0:Int)≤(Arj .i64 v4 1)∧(Arj .i64 v4 1)<(r1.length:Int)then(if(0:Int)≤(gt r1 (Arj .i64 v4 1))∧(gt r1 (Arj .i64 v4 1))<(a0.length:Int)then(bif (((gt a0 (gt v2 v4)).Gu) != ((gt a0 (gt r1 (Arj .i64 v4 1))).Mu))then some false else(A11 K v2 v3 v4 (Aw1 K a0 r1 n1)))else none)else none)else none)else(A11 K v2 v3 v4 (Aw1 K a0 r1 n1))))else none)else none)else(bif (decide ((r1.length:Int)>0))then(if(0:Int)≤(Ark .i64 (r1.length:Int) 1)∧(Ark .i64 (r1.length:Int) 1)<(r1.length:Int)then(if(0:Int)≤(gt r1 (Ark .i64 (r1.length:Int) 1))∧(gt r1 (Ark .i64 (r1.length:Int) 1))<(a0.length:Int)then some (((gt a0 (gt r1 (Ark .i64 (r1.length:Int) 1))).fUp)==0)else none)else none)else some false))
def A3q (K:Nat)(a0:List Ax)(a1:Int):Option (Bool):=((A2z K a0 a1).bind fun r1=>(Aw1 K a0 r1 K r1 (r1.length:Int) 0))
def Bov:=fd Tryz.func115 ⟨[.v 35,.v 3],[.v 4],true⟩ (gC (Bol K) gN) [28,29,49,50] [467]
def Bip:Fs:=⟨[(0,.v 35),(5,.v 25),(11,.v 25),(12,.v 2),(13,.v 2)],[]⟩
def Bkc:=fun(C58:CT Bip _)=>jn (Bov K) 467 Bip [(58,ar Bip C58)] (fun a b c d e=>A11 K c d e (C58 a b)) kN
def Bow:=lp (Bov K) 58 Bip [] (fun n a b=>Aw1 K a b n) (fun n=>(kC (Bkc K _) kN))
def Bxz:=ct (Bov K) (A3q K) (kC (Bow K K) kN)
def Aw2 (K:Nat)(v2:Int)(v3:Int)(v4:Int)(v5:Int)(v6:Int)(v7:Int)(v8:Int)(v9:Int)(v10:List Int)(v11:List Int)(v12:List Int)(v13:List Ax)(v14:List A7)(v15:List Int)(C1:(List Int)->Int->Int->Int->Int->Int->Int->Int->Int->(List Int)->(List Int)->(List Int)->(List Ax)->(List A7)->(List Int)->Option ((List Int)))(v17:List Int):Option ((List Int)):=(C1 v17 v2 (Arj .i64 v3 1) v4 v5 v6 v7 v8 v9 v10 v11 v12 v13 v14 v15)
def Aus (K:Nat):Nat->(List Int)->Int->Int->Int->Int->Int->Int->Int->Int->(List Int)->(List Int)->(List Int)->(List Ax)->(List A7)->(List Int)->Option ((List Int))
 |0,_,_,_,_,_,_,_,_,_,_,_,_,_,_,_=>none
 |n1+1,v1,v2,v3,v4,v5,v6,v7,v8,v9,v10,v11,v12,v13,v14,v15=>(bif (decide (v3<v2))then((A3q K v13 v3).bind fun r16=>(bif r16 then(if(v1++([v3]:List Int)).length*8≤140737488355328∧(v1++([v3]:List Int)).length≤maxLen then(Aw2 K v2 v3 v4 v5 v6 v7 v8 v9 v10 v11 v12 v13 v14 v15 (Aus K n1) (v1++([v3]:List Int)))else none)else(Aw2 K v2 v3 v4 v5 v6 v7 v8 v9 v10 v11 v12 v13 v14 v15 (Aus K n1) v1)))else some v1)
def A12 (K:Nat)(a0:Bm):Option ((List Int)):=(Aus K K ([]:List Int) (a0.fL.length:Int) 0 a0.fC.Ad a0.fC.Ds a0.fC.B9 a0.fC.Eu a0.fC.Ca a0.fC.Dt a0.fP.Fi a0.fP.Gt a0.fP.Fj a0.fL a0.fQ a0.Jc)
def Box:=fd Tryz.func24 ⟨[.v 38],[.n 25 true],true⟩ (gC (Bxz K) gN) [] [467]
def Biq:Fs:=⟨[(1,.p 101),(3,.o 1003 3 true),(8,.v 2),(9,.v 2)],[(101,.box [.v 2,.v 2,.v 2,.v 2,.v 2,.v 2,.v 24,.v 25,.v 25,.v 35,.v 36,.v 25])]⟩
def Bkd:=fun(C58:CT Biq _)=>jn (Box K) 467 Biq [(58,ar Biq C58)] (fun a b c d e f g h i j k l m o p=>Aw2 K b c d e f g h i j k l m o p C58 a) kN
def Boy:=lp (Box K) 58 Biq [] (Aus K) (fun n=>(kC (Bkd K _) kN))
def Boz:=ct (Box K) (A12 K) (kC (Boy K K) kN)
def Atu (K:Nat)(r1:(List Int)):Nat->Int->Int->Int->Int->Int->Int->Int->Int->Int->(List Int)->(List Int)->(List Int)->(List Ax)->(List A7)->(List Int)->Option (Int)
 |0,_,_,_,_,_,_,_,_,_,_,_,_,_,_,_=>none
 |n1+1,v2,v3,v4,v5,v6,v7,v8,v9,v10,v11,v12,v13,v14,v15,v16=>(bif (decide (v4<v3))then(if(0:Int)≤v4∧v4<(r1.length:Int)then((Ayv K (Ed.mk v11 v12 v13) (gt r1 v4)).bind fun r17=>(Atu K r1 n1 (Arj .i64 v2 (r17.length:Int)) v3 (Arj .i64 v4 1) v5 v6 v7 v8 v9 v10 v11 v12 v13 v14 v15 v16))else none)else some v2)
def At9 (K:Nat)(a0:Bm):Option (Int):=((A12 K a0).bind fun r1=>(Atu K r1 K 0 (r1.length:Int) 0 a0.fC.Ad a0.fC.Ds a0.fC.B9 a0.fC.Eu a0.fC.Ca a0.fC.Dt a0.fP.Fi a0.fP.Gt a0.fP.Fj a0.fL a0.fQ a0.Jc))
def Bur:=fd Tryz.func28 ⟨[.v 38],[.v 3],true⟩ (gC (Boz K) (gC (Bn8 K) gN))
def B1i:Fs:=⟨[(1,.p 101),(3,.v 2),(7,.v 25),(8,.v 2),(9,.v 2)],[(101,.box [.v 2,.v 2,.v 2,.v 2,.v 2,.v 2,.v 24,.v 25,.v 25,.v 35,.v 36,.v 25])]⟩
def Bo0:=lp (Bur K) 58 B1i [] (fun n a b=>Atu K b n a) (fun n=>kN)
def Bo1:=ct (Bur K) (At9 K) (kC (Bo0 K K) kN)
def A0s (K:Nat)(a0:Bm)(a1:Int):Option (Bool):=(bif (decide (a1≥0))then(bif (decide (a1≤a0.fC.Ad))then((At9 K a0).bind fun r1=>some (decide (r1≤(Ark .i64 a0.fC.Ad a1))))else some false)else some false)
def Bx0:=ct (fd Tryz.func42 ⟨[.v 38,.v 3],[.v 4],true⟩ (gC (Bo1 K) gN) [6,7,12,13,14]) (A0s K)
def Azk (K:Nat)(v2:List Int)(v3:Int)(v4:Int)(C1:Int->(List Int)->Int->Int->Option (Int))(v5:Int):Option (Int):=(C1 v5 v2 v3 (Arj .i64 v4 1))
def Atd (K:Nat)(a1:Int):Nat->Int->(List Int)->Int->Int->Option (Int)
 |0,_,_,_,_=>none
 |n1+1,v1,v2,v3,v4=>(bif (decide (v4<v3))then(if(0:Int)≤v4∧v4<(v2.length:Int)then(bif ((gt v2 v4)==a1)then(Azk K v2 v3 v4 (Atd K a1 n1) (Arj .i64 v1 1))else(Azk K v2 v3 v4 (Atd K a1 n1) v1))else none)else some v1)
def Ayw (K:Nat)(a0:Ed)(a1:Int):Option (Int):=(Atd K a1 K 0 a0.Gt (a0.Gt.length:Int) 0)
def Bo2:=fd Tryz.func29 ⟨[.v 34,.v 3],[.v 3],true⟩ gN [] [467]
def Bir:Fs:=⟨[(1,.v 2),(5,.v 2),(9,.v 25),(10,.v 2),(11,.v 2)],[]⟩
def Bke:=fun(C58:CT Bir _)=>jn Bo2 467 Bir [(58,ar Bir C58)] (fun a b c d e=>Azk K c d e (C58 a) b) kN
def Bo3:=lp Bo2 58 Bir [] (fun n a=>Atd K a n) (fun n=>(kC (Bke K _) kN))
def Bx1:=ct Bo2 (Ayw K) (kC (Bo3 K K) kN)
def Ass (K:Nat)(r2:Fc)(v24:Bm)(v25:Int)(v26:Int)(v27:Int)(v28:Int)(v29:Int)(v30:Int)(v31:List Int)(v32:List Int)(v33:List Int)(v34:List Ax)(v35:List A7)(v36:List Int):Nat->Int->Int->Option (Bool)
 |0,_,_=>none
 |n2+1,v37,v38=>(bif (decide (v38<(v24.fQ.length:Int)))then(if(0:Int)≤v38∧v38<(v24.fQ.length:Int)then(Ass K r2 v24 v25 v26 v27 v28 v29 v30 v31 v32 v33 v34 v35 v36 n2 (Arj .i64 v37 (((gt v24.fQ v38).Ad).length:Int)) (Arj .i64 v38 1))else none)else((Au2 K (Bm.mk (Fc.mk v25 v26 v27 v28 v29 v30) (Ed.mk v31 v32 v33) v34 v35 v36)).bind fun r39=>((Aqk K r2).bind fun r40=>(bif (r39==r40)then((Ayw K v24.fP 0).bind fun r41=>(bif ((Arj .i64 v37 r41)==v24.fC.Ad)then((At9 K v24).bind fun r42=>some (decide (r42≤v24.fC.Ad)))else some false))else some false))))
def Atv (K:Nat)(r2:Fc):Nat->Int->Int->Bm->Int->Int->Int->Int->Int->Int->(List Int)->(List Int)->(List Int)->(List Ax)->(List A7)->(List Int)->Option (Bool)
 |0,_,_,_,_,_,_,_,_,_,_,_,_,_,_,_=>none
 |n1+1,v22,v23,v24,v25,v26,v27,v28,v29,v30,v31,v32,v33,v34,v35,v36=>(bif (decide (v23<(v24.fL.length:Int)))then(if(0:Int)≤v23∧v23<(v24.fL.length:Int)then(Atv K r2 n1 (Arj .i64 v22 (((gt v24.fL v23).Ad).length:Int)) (Arj .i64 v23 1) v24 v25 v26 v27 v28 v29 v30 v31 v32 v33 v34 v35 v36)else none)else(Ass K r2 v24 v25 v26 v27 v28 v29 v30 v31 v32 v33 v34 v35 v36 K v22 0))
def A0t (K:Nat)(a0:List Int):Option (Bool):=((A68 K a0).bind fun r1=>(bif r1 then some true else((Avx K a0).bind fun r2=>((Av3 K r2).bind fun r3=>((Azh K a0).bind fun r4=>((Axb K a0).bind fun r5=>((Avp K a0).bind fun r6=>((Avz K a0).bind fun r7=>((Atz K r2).bind fun r8=>((Aq3 K r3 r8).bind fun r9=>(bif r9 then((Au2 K r5).bind fun r10=>((Ar8 K r5).bind fun r11=>(bif (!(r10==r11))then some false else((Aw0 K r6.1 r6.2).bind fun r12=>((Aq3 K r6.1 r6.2).bind fun r13=>(bif (!(r12==r13))then some false else((A0s K r7.1 r7.2).bind fun r14=>((Aqq K r7.1 r7.2).bind fun r15=>(bif (!(r14==r15))then some false else((A12 K r5).bind fun r16=>((Av6 K r5).bind fun r17=>((Ajk K r16 r17).bind fun r18=>(bif r18 then((At9 K r5).bind fun r19=>((Ava K r5).bind fun r20=>(bif (r19 != r20)then some false else((Au2 K r4.1).bind fun r21=>(bif (!r21)then some false else(Atv K r2 K 0 0 r4.1 r3.fC.Ad r3.fC.Ds r3.fC.B9 r3.fC.Eu r3.fC.Ca r3.fC.Dt r3.fP.Fi r3.fP.Gt r3.fP.Fj r3.fL r3.fQ r3.Jc))))))else some false)))))))))))))else some false)))))))))))
def Bo4:=fo Tryz.func5 ⟨[.v 24],[.v 4],true⟩ (gC (B13 K) (gC (Bv9 K) (gC (Boz K) (gC (Bo1 K) (gC (Bx1 K) (gC (Bxr K) (gC (B14 K) (gC (Bwg K) (gC (Bwi K) (gC (Bwj K) (gC (Bwp K) (gC (Bta K) (gC (A8g K) (gC (Bxy K) (gC (Bx0 K) (gC (Bh9 K) (gC (A9x K) (gC (Bly K) (gC (Bti K) (gC (Bd3 K) gN)))))))))))))))))))) (oC (d:=20) (gC (By9 K) gN) oN) [41,42,43,48,49,50,57,58,59,66,67,68,73,74,75,76,81,82,83,124,125,134,135,136] [] [(13,[.take 105 9 6689]),(17,[.take 105 10 6690]),(20,[.take 105 6 6686,.take 105 7 6687,.take 105 8 6688,.take 105 9 6689,.take 105 11 6691])]
def B1j:Fs:=⟨[(3,.p 103),(4,.p 104),(5,.p 105),(12,.v 2),(14,.v 2)],[(105,.st 38 false),(104,.box [.v 2,.v 2,.v 2,.v 2,.v 2,.v 2,.v 24,.v 25,.v 25,.v 35,.v 36,.v 25]),(103,.st 33 true)]⟩
def B1k:Fs:=⟨[(3,.p 103),(4,.p 104),(5,.p 105),(12,.v 2),(13,.v 2)],[(105,.st 38 false),(104,.box [.v 2,.v 2,.v 2,.v 2,.v 2,.v 2,.v 24,.v 25,.v 25,.v 35,.v 36,.v 25]),(103,.st 33 true)]⟩
def Bej:=lp (Bo4 K) 32762 B1j [] (fun n a b c d e f g h i j k l m o p q=>Ass K q c d e f g h i j k l m o p n a b) (fun n=>kN)
def Bek:=lp (Bo4 K) 16378 B1k [] (fun n a b c d e f g h i j k l m o p q=>Atv K q n a b c d e f g h i j k l m o p) (fun n=>(kC (up (Bej K K)) kN))
def Bx2:=ct (Bo4 K) (A0t K) (kC (Bek K K) kN)
end
end Go.Proofs.YtgcnddnmhllahaaGreat
