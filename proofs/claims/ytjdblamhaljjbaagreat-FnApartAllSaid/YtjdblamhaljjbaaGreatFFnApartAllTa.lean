/- What the functions compute that FnApartAll reaches, and that they do; no condition. Printed by gen3.py. -/
import Derived.Test.YtjdblamhaljjbaaGreatFSrt
set_option linter.all false
set_option maxRecDepth 20000
namespace Go.Proofs.YtjdblamhaljjbaaGreat
open Go.Eng
noncomputable section
abbrev bd (f:Func):Code:=f.body.getD .skip
abbrev PT (h:Fs):Type:=Aj tyU h.codes
abbrev Rt (s:Sig):Type:=Option (Aw tyU s.codes)
abbrev CT (h:Fs)(s:Sig):Type:=Aj tyU h.codes->Option (Aw tyU s.codes)
abbrev ar{s:Sig}(h:Fs)(M:CT h s):SS Ah->Rt s:=arr tyU tab h M
def xF (s:Sig)(G:List (Nat×Gu tyU))(O:List (Nat×List (Nat×Gu tyU)))(N:Nat)(spl:List Nat)(pre post:List (Nat×List Cmd))(js:List Nat)(rl:List ResultVar)(L B:Λt tyU s):Ox tyU (Aw tyU s.codes):=⟨G,O,eqT eqs,N,spl,pre,post,js,L,B,Ahd tyU tab s rl⟩
abbrev XF (rl:List ResultVar)(s:Sig)(N:Nat)(js:List Nat)(x:Λt tyU s->Λt tyU s->Ox tyU (Aw tyU s.codes)):Prop:=XOk tyU tab Tryz.prog rl s N js x
theorem B3x:Tryz.prog.follows .mixedOrders=true:=by kernel_rfl
theorem xkF{rl:List ResultVar}{s:Sig}{N:Nat}{js:List Nat}{G:List (Nat×Gu tyU)}{O:List (Nat×List (Nat×Gu tyU))}{spl:List Nat}{pre post:List (Nat×List Cmd)}(hΓ: ∀f c,lk G f=some c->Gu.Ok tyU Tryz.prog f c∧Fo Tryz.prog f)(hov: ∀d l,lk O d=some l-> ∀f c,lk l f=some c->Gu.Ok tyU Tryz.prog f c∧Fo Tryz.prog f):XF rl s N js (xF s G O N spl pre post js rl):=xok Asr B3x hΓ hov Arp
abbrev OkF (f:FuncId)(c:Gu tyU):Prop:=Gu.Ok tyU Tryz.prog f c∧Fo Tryz.prog f
abbrev CF (rl:List ResultVar)(s:Sig)(N:Nat)(js:List Nat)(c:Code)(B:Λt tyU s)(p:Nat)(f:SS Ah->Rt s):Prop:=Cut tyU tab Tryz.prog rl s N js c B p f
abbrev EqF (s:Sig)(x:Ox tyU (Aw tyU s.codes))(c:Code)(m:X7 tyU s.ps (Rt s)):Prop:=Wi tyU tab x c s.ps 0 [] [] m
abbrev AtL{s:Sig}{h:Fs}(x:Λt tyU s->Λt tyU s->Ox tyU (Aw tyU s.codes))(L:Nat->Λt tyU s)(B:Λt tyU s)(c:Code)(p:Nat)(M:Nat->CT h s):Prop:= ∀n q,M (n+1) q=Ahb tyU tab (x (L n) ((p,ar h (M n))::B)) c (2*p) (h.emb tyU q)
abbrev AtJ{s:Sig}{h:Fs}(x:Λt tyU s->Λt tyU s->Ox tyU (Aw tyU s.codes))(L B:Λt tyU s)(c:Code)(p:Nat)(M:CT h s):Prop:= ∀q,M q=Ahb tyU tab (x L B) c (2*p+1) (h.emb tyU q)
theorem Agc{rl:List ResultVar}{s:Sig}{N:Nat}{js:List Nat}{x:Λt tyU s->Λt tyU s->Ox tyU (Aw tyU s.codes)}{c:Code}{L:Nat->Λt tyU s}{B:Λt tyU s}{p:Nat}{h:Fs}{M:Nat->CT h s}(hx:XF rl s N js x)(e:AtL x L B c p M)(hc: ∀n,Xd tyU tab Tryz.prog rl s N js c ((p,ar h (M n))::B) (L n))(n:Nat)(hp:Nat.ble 1 p=true:=by rfl)(hk:Uz js c p=true:=by kernel_rfl)(e0: ∀q,M 0 q=none:=by intro q;rfl):CF rl s N js c B p (ar h (M n)):=Aoo hx hp hk e0 e hc n
theorem Aiz{rl:List ResultVar}{s:Sig}{N:Nat}{js:List Nat}{x:Λt tyU s->Λt tyU s->Ox tyU (Aw tyU s.codes)}{c:Code}{L B:Λt tyU s}{p:Nat}{h:Fs}{M:CT h s}(hx:XF rl s N js x)(e:AtJ x L B c p M)(hc:Xd tyU tab Tryz.prog rl s N js c B L)(hp:Nat.ble 1 p=true:=by rfl):CF rl s N js c B p (ar h M):=Aon hx hp e hc
theorem Abg{rl:List ResultVar}{s:Sig}{N:Nat}{js:List Nat}{x:Λt tyU s->Λt tyU s->Ox tyU (Aw tyU s.codes)}{c0:Code}(hx:XF rl s N js x){L:Λt tyU s}{f:FuncId}{fn:Func}{m:X7 tyU s.ps (Rt s)}(e:EqF s (x L []) c0 m)(hc:Xd tyU tab Tryz.prog rl s N js c0 [] L)(hf:Tryz.prog.funcs[f]? =some fn)(hs:Yu tyU s.ps)(h1:(fn.name== "runtime.NumGoroutine")=false:=by rfl)(h2:fn.body=some c0:=by rfl)(h3:fn.results=rl.toArray:=by rfl)(h4:fn.ntmps=N:=by rfl)(h5:Nat.ble s.ps.length N=true:=by rfl)(h6:Nat.ble (Be s.ps+1) 100=true:=by rfl)(h7:Nat.ble rl.length 4=true:=by rfl):OkF f ⟨s,m⟩:=Aq2 hx Aro e hc hf h1 h2 h3 h4 h5 h6 h7 hs
def A12 (K:Nat)(a0:List Int):Option (Bool):=some (decide ((a0.length:Int)>1048576))
def s_0:Sig:=⟨[.v 22],[.v 4],true⟩
def c_0 (K:Nat):Gu tyU:=⟨s_0,A12 K⟩
def x_0 (K:Nat):=xF s_0 [] [] 6 [] [] [] [] [.tmp 2]
theorem B3y (K:Nat):OkF 13 (c_0 K):=
 Abg (x:=x_0 K) (L:=[]) (c0:=bd Tryz.f13) (xkF gN oN) (by intro a0;show @Eq _ _ _;kernel_rfl) kN Tryz.func13 trivial
def Atz (K:Nat)(a0:List Int):Nat->Int->Int->Option (Eu)
 |0,_,_=>none
 |n1+1,v1,v2=>(bif (decide (v2<(a0.length:Int)))then(bif (decide (v2<4000))then(if(0:Int)≤v2∧v2<(a0.length:Int)then(Atz K a0 n1 (Aqf .i64 (Aqc .i64 (Aqc .i64 (Aqe .i64 v1 137) (IntKind.i64.wrap (gt a0 v2))) 11) 1073741823) (Aqc .i64 v2 1))else none)else some (Eu.mk a0 0 v1))else some (Eu.mk a0 0 v1))
def Ax2 (K:Nat)(a0:List Int):Option (Eu):=(Atz K a0 K (Aqc .i64 161416 (a0.length:Int)) 0)
def s_1:Sig:=⟨[.v 22],[.p 135 false],false⟩
def c_1 (K:Nat):Gu tyU:=⟨s_1,Ax2 K⟩
def x_1 (K:Nat):=xF s_1 [] [] 32 [11,12] [] [] [] [.tmp 2]
def Bd4:Fs:=⟨[(0,.v 22),(3,.v 2),(4,.v 2)],[]⟩
def Bd5 (K:Nat)(n:Nat)(q:PT Bd4):Rt s_1:=Atz K q.1 n q.2.1 q.2.2.1
theorem Bvi (K:Nat):AtL (x_1 K) (fun n=>[]) [] (bd Tryz.f50) 58 (Bd5 K):=fun n q=>by kernel_rfl
theorem Byz (K:Nat):XF [.tmp 2] s_1 32 [] (x_1 K):=xkF gN oN
theorem Bvj (K:Nat)(n:Nat):CF [.tmp 2] s_1 32 [] (bd Tryz.f50) [] 58 (ar Bd4 (Bd5 K n)):=
 Agc (Byz K) (Bvi K) (fun n=>kN) n
theorem B30 (K:Nat):OkF 50 (c_1 K):=
 Abg (x:=x_1 K) (L:=[(58,ar Bd4 (Bd5 K K))]) (c0:=bd Tryz.f50) (Byz K) (by intro a0;show @Eq _ _ _;kernel_rfl) (kC (Bvj K K) kN) Tryz.func50 trivial
def Auz (K:Nat)(a0:List Int)(a1:Int):Option (Int):=(if 12≠(0:Int)then(bif (decide ((Aqc .i64 3 (Anr .i64 (a0.length:Int) 12))>a1))then some a1 else some (Aqc .i64 3 (Anr .i64 (a0.length:Int) 12)))else none)
def s_2:Sig:=⟨[.v 22,.v 3],[.v 3],true⟩
def c_2 (K:Nat):Gu tyU:=⟨s_2,Auz K⟩
def x_2 (K:Nat):=xF s_2 [] [] 15 [] [] [] [] [.tmp 4]
theorem B31 (K:Nat):OkF 52 (c_2 K):=
 Abg (x:=x_2 K) (L:=[]) (c0:=bd Tryz.f52) (xkF gN oN) (by intro a0 a1;show @Eq _ _ _;kernel_rfl) kN Tryz.func52 trivial
def Avb (K:Nat)(v1:Int)(v2:List Int)(v3:Int)(v4:Int):Option (Int×Eu):=some (v1,(Eu.mk v2 v3 v4))
def Are (K:Nat)(a0:Eu):Option (Int×Eu):=(if(0:Int)≤33 then(if(0:Int)≤47 then(bif (decide (a0.fi<(a0.fb.length:Int)))then(if(0:Int)≤a0.fi∧a0.fi<(a0.fb.length:Int)then(Avb K (Aqf .i64 (Aqc .i64 (Aqf .i64 (Aqg .i64 (Anq .i64 (Aqc .i64 (Aqe .i64 a0.fh 6364136223846793005) 1442695040888963407) 33) (Anq .i64 (Aqc .i64 (Aqe .i64 a0.fh 6364136223846793005) 1442695040888963407) 47)) 255) (IntKind.i64.wrap (gt a0.fb a0.fi))) 255) a0.fb (Aqc .i64 a0.fi 1) (Aqc .i64 (Aqe .i64 a0.fh 6364136223846793005) 1442695040888963407))else none)else(Avb K (Aqf .i64 (Aqg .i64 (Anq .i64 (Aqc .i64 (Aqe .i64 a0.fh 6364136223846793005) 1442695040888963407) 33) (Anq .i64 (Aqc .i64 (Aqe .i64 a0.fh 6364136223846793005) 1442695040888963407) 47)) 255) a0.fb a0.fi (Aqc .i64 (Aqe .i64 a0.fh 6364136223846793005) 1442695040888963407)))else none)else none)
def s_3:Sig:=⟨[.b 135 false],[.v 3],false⟩
def c_3 (K:Nat):Gu tyU:=⟨s_3,Are K⟩
def x_3 (K:Nat):=xF s_3 [] [] 58 [] [] [] [15] [.tmp 2]
def Bd6:Fs:=⟨[(3,.v 2)],[(1,.box [.v 22,.v 2,.v 2])]⟩
def Bd7 (K:Nat)(q:PT Bd6):Rt s_3:=Avb K q.1 q.2.1 q.2.2.1 q.2.2.2.1
theorem Bvk (K:Nat):AtJ (x_3 K) [] [] (bd Tryz.f197) 15 (Bd7 K):=fun q=>by kernel_rfl
theorem By0 (K:Nat):XF [.tmp 2] s_3 58 [15] (x_3 K):=xkF gN oN
theorem Bvl (K:Nat):CF [.tmp 2] s_3 58 [15] (bd Tryz.f197) [] 15 (ar Bd6 (Bd7 K)):=
 Aiz (By0 K) (Bvk K) kN
theorem By1 (K:Nat):OkF 197 (c_3 K):=
 Abg (x:=x_3 K) (L:=[(15,ar Bd6 (Bd7 K))]) (c0:=bd Tryz.f197) (By0 K) (by intro a0;show @Eq _ _ _;kernel_rfl) (kC (Bvl K) kN) Tryz.func197 trivial
def Abe (K:Nat)(a0:Eu)(a1:Int):Option (Int×Eu):=(bif (decide (a1≤0))then some (0,a0)else(bif (decide (a1≤256))then((Are K a0).bind fun r1=>(if a1≠(0:Int)then some ((Int.tmod r1.1 a1),r1.2)else none))else((Are K a0).bind fun r2=>((Are K r2.2).bind fun r3=>((Are K r3.2).bind fun r4=>(if a1≠(0:Int)then some ((Int.tmod (Aqc .i64 (Aqc .i64 (Aqe .i64 r2.1 65536) (Aqe .i64 r3.1 256)) r4.1) a1),r4.2)else none))))))
def s_4:Sig:=⟨[.b 135 false,.v 3],[.v 3],false⟩
def c_4 (K:Nat):Gu tyU:=⟨s_4,Abe K⟩
def x_4 (K:Nat):=xF s_4 [(197,c_3 K)] [] 31 [] [] [] [] [.tmp 4]
theorem Bd8 (K:Nat):OkF 118 (c_4 K):=
 Abg (x:=x_4 K) (L:=[]) (c0:=bd Tryz.f118) (xkF (gC (By1 K) gN) oN) (by intro a0 a1;show @Eq _ _ _;kernel_rfl) kN Tryz.func118 trivial
def Apt (K:Nat)(a0:Eu)(a1:List Int):Option (Int×Eu×(List Int)):=((Abe K a0 (a1.length:Int)).bind fun r1=>(if(0:Int)≤r1.1∧r1.1<(a1.length:Int)then some ((gt a1 r1.1),r1.2,a1)else none))
def s_5:Sig:=⟨[.b 135 false,.w 26 true [(3,true)]],[.v 3],false⟩
def c_5 (K:Nat):Gu tyU:=⟨s_5,Apt K⟩
def x_5 (K:Nat):=xF s_5 [(118,c_4 K)] [] 12 [] [] [] [] [.tmp 4]
theorem Bvm (K:Nat):OkF 120 (c_5 K):=
 Abg (x:=x_5 K) (L:=[]) (c0:=bd Tryz.f120) (xkF (gC (Bd8 K) gN) oN) (by intro a0 a1;show @Eq _ _ _;kernel_rfl) kN Tryz.func120 ⟨fun _=>rfl,trivial⟩
def Axd (K:Nat)(a0:Eu):Option (Fa×Eu):=((Abe K a0 11).bind fun r1=>((Apt K r1.2 ([8,8,9,12,16]:List Int)).bind fun r2=>(if r2.2.2.length=([8,8,9,12,16]:List Int).length then((Abe K r2.2.1 7).bind fun r3=>((Abe K r3.2 6).bind fun r4=>((Apt K r4.2 ([1,3,4,8,16]:List Int)).bind fun r5=>(if r5.2.2.length=([1,3,4,8,16]:List Int).length then((Abe K r5.2.1 4).bind fun r6=>some ((Fa.mk (Aqc .i64 2 r1.1) r2.1 (Aqc .i64 2 r3.1) (Aqc .i64 1 r4.1) r5.1 (Aqc .i64 1 r6.1)),r6.2))else none))))else none)))
def s_6:Sig:=⟨[.b 135 false],[.v 25],false⟩
def c_6 (K:Nat):Gu tyU:=⟨s_6,Axd K⟩
def x_6 (K:Nat):=xF s_6 [(118,c_4 K),(120,c_5 K)] [] 22 [] [] [] [] [.cell 2 25]
theorem B34 (K:Nat):OkF 193 (c_6 K):=
 Abg (x:=x_6 K) (L:=[]) (c0:=bd Tryz.f193) (xkF (gC (Bd8 K) (gC (Bvm K) gN)) oN) (by intro a0;show @Eq _ _ _;kernel_rfl) kN Tryz.func193 trivial
def Aaa (K:Nat)(a0:Int)(a1:Int)(a2:Int):Option (Bool):=(bif (decide (a0≥a1))then some (decide (a0≤a2))else some false)
def s_7:Sig:=⟨[.v 3,.v 3,.v 3],[.v 4],true⟩
def c_7 (K:Nat):Gu tyU:=⟨s_7,Aaa K⟩
def x_7 (K:Nat):=xF s_7 [] [] 15 [9,10] [] [] [] [.tmp 6]
theorem Azn (K:Nat):OkF 84 (c_7 K):=
 Abg (x:=x_7 K) (L:=[]) (c0:=bd Tryz.f84) (xkF gN oN) (by intro a0 a1 a2;show @Eq _ _ _;kernel_rfl) kN Tryz.func84 trivial
def Ak9 (K:Nat)(a0:Fa):Option (Bool):=((Aaa K a0.Af 2 12).bind fun r1=>(bif r1 then((Aaa K a0.Ez 8 16).bind fun r2=>(bif r2 then((Aaa K a0.Db 2 8).bind fun r3=>(bif r3 then((Aaa K a0.Fv 1 8).bind fun r4=>(bif r4 then((Aaa K a0.Dc 1 16).bind fun r5=>(bif r5 then((Aaa K a0.E0 1 4).bind fun r6=>some r6)else some false))else some false))else some false))else some false))else some false))
def s_8:Sig:=⟨[.v 25],[.v 4],true⟩
def c_8 (K:Nat):Gu tyU:=⟨s_8,Ak9 K⟩
def x_8 (K:Nat):=xF s_8 [(84,c_7 K)] [] 31 [5,6,9,10,11,14,15,16,19,20,21,24,25,26] [] [] [] [.tmp 2]
theorem Bcl (K:Nat):OkF 210 (c_8 K):=
 Abg (x:=x_8 K) (L:=[]) (c0:=bd Tryz.f210) (xkF (gC (Azn K) gN) oN) (by intro a0;show @Eq _ _ _;kernel_rfl) kN Tryz.func210 trivial
def Arn (K:Nat)(a0:Fa):Option (Int):=((Ak9 K a0).bind fun r1=>(bif (!r1)then some 0 else some (Aqe .i64 a0.Af a0.Ez)))
def s_9:Sig:=⟨[.v 25],[.v 3],true⟩
def c_9 (K:Nat):Gu tyU:=⟨s_9,Arn K⟩
def x_9 (K:Nat):=xF s_9 [(210,c_8 K)] [] 11 [] [] [] [] [.tmp 2]
theorem Bon (K:Nat):OkF 211 (c_9 K):=
 Abg (x:=x_9 K) (L:=[]) (c0:=bd Tryz.f211) (xkF (gC (Bcl K) gN) oN) (by intro a0;show @Eq _ _ _;kernel_rfl) kN Tryz.func211 trivial
def Az9 (K:Nat)(a0:Int):Option ((List Int)):=((Aaa K a0 0 4096).bind fun r1=>(bif (!r1)then some ([]:List Int)else(if(0:Int)≤a0∧a0≤a0∧(1:Int)*a0≤281474976710656∧a0≤9223372036854775807 then some (List.replicate a0.toNat 0)else none)))
def By3:Sig:=⟨[.v 3],[.n 22 true],true⟩
def By4 (K:Nat):Gu tyU:=⟨By3,Az9 K⟩
def B35 (K:Nat):=xF By3 [(84,c_7 K)] [] 9 [] [] [] [] [.tmp 2]
theorem By5 (K:Nat):OkF 283 (By4 K):=
 Abg (x:=B35 K) (L:=[]) (c0:=bd Tryz.f283) (xkF (gC (Azn K) gN) oN) (by intro a0;show @Eq _ _ _;kernel_rfl) kN Tryz.func283 trivial
def Asq (K:Nat)(a0:Fa):Nat->Int->Eb->Eb->Option (Eb)
 |0,_,_,_=>none
 |n1+1,v4,v5,v6=>(bif (decide (v4<a0.Af))then(if(v5.Ja++([0]:List Int)).length*8≤140737488355328∧(v5.Ja++([0]:List Int)).length≤maxLen then(if(v5.Gm++([(-1)]:List Int)).length*8≤140737488355328∧(v5.Gm++([(-1)]:List Int)).length≤maxLen then(Asq K a0 n1 (Aqc .i64 v4 1) (Eb.mk v5.Gl (v5.Ja++([0]:List Int)) (v5.Gm++([(-1)]:List Int))) v6)else none)else none)else some v5)
def Awd (K:Nat)(a0:Fa):Option (Eb):=((Ak9 K a0).bind fun r1=>(bif (!r1)then some (Eb.mk [] [] [])else((Arn K a0).bind fun r2=>((Az9 K r2).bind fun r3=>(Asq K a0 K 0 (Eb.mk r3 [] []) (Eb.mk [] [] []))))))
def s_11:Sig:=⟨[.v 25],[.n 28 true],true⟩
def By6 (K:Nat):Gu tyU:=⟨s_11,Awd K⟩
def Bvn (K:Nat):=xF s_11 [(210,c_8 K),(211,c_9 K),(283,By4 K)] [] 31 [] [(3,[.take 103 0 6648,.take 103 1 6649,.take 103 2 6650]),(8,[.take 103 1 6649]),(9,[.take 103 2 6650]),(10,[.take 103 0 6648,.take 103 1 6649,.take 103 2 6650])] [] [] [.cell 2 28]
def A5y:Fs:=⟨[(1,.p 101),(2,.p 102),(3,.p 103),(4,.v 2)],[(103,.st 28 true),(102,.st 28 true),(101,.st 25 true)]⟩
def A5z (K:Nat)(n:Nat)(q:PT A5y):Rt s_11:=Asq K q.2.2.2.1 n q.1 q.2.1 q.2.2.1
theorem Bi6 (K:Nat):AtL (Bvn K) (fun n=>[]) [] (bd Tryz.f253) 250 (A5z K):=fun n q=>by kernel_rfl
theorem Br8 (K:Nat):XF [.cell 2 28] s_11 31 [] (Bvn K):=xkF (gC (Bcl K) (gC (Bon K) (gC (By5 K) gN))) oN
theorem Bi7 (K:Nat)(n:Nat):CF [.cell 2 28] s_11 31 [] (bd Tryz.f253) [] 250 (ar A5y (A5z K n)):=
 Agc (Br8 K) (Bi6 K) (fun n=>kN) n
theorem By7 (K:Nat):OkF 253 (By6 K):=
 Abg (x:=Bvn K) (L:=[(250,ar A5y (A5z K K))]) (c0:=bd Tryz.f253) (Br8 K) (by intro a0;show @Eq _ _ _;kernel_rfl) (kC (Bi7 K K) kN) Tryz.func253 trivial
def Arq (K:Nat)(a0:Int):Option (Bg):=some (Bg.mk 0 a0 0 0 0 0 0 0 [] 0 0 [] [])
def By8:Sig:=⟨[.v 3],[.n 44 true],true⟩
def Boo (K:Nat):Gu tyU:=⟨By8,Arq K⟩
def B36 (K:Nat):=xF By8 [] [] 5 [] [] [] [] [.cell 2 44]
theorem Bi8 (K:Nat):OkF 276 (Boo K):=
 Abg (x:=B36 K) (L:=[]) (c0:=bd Tryz.f276) (xkF gN oN) (by intro a0;show @Eq _ _ _;kernel_rfl) kN Tryz.func276 trivial
def Asc (K:Nat)(a0:Fa):Nat->(List Bg)->Int->Option ((List Bg))
 |0,_,_=>none
 |n1+1,v1,v2=>(bif (decide (v2<a0.Db))then((Ak9 K a0).bind fun r3=>(bif r3 then((Arq K 1).bind fun r4=>(if(v1++[r4]).length*152≤140737488355328∧(v1++[r4]).length≤maxLen then(Asc K a0 n1 (v1++[r4]) (Aqc .i64 v2 1))else none))else some v1))else some v1)
def Axs (K:Nat)(a0:Fa):Option ((List Bg)):=(Asc K a0 K ([]:List Bg) 0)
def s_13:Sig:=⟨[.v 25],[.n 29 true],true⟩
def By9 (K:Nat):Gu tyU:=⟨s_13,Axs K⟩
def Bvo (K:Nat):=xF s_13 [(210,c_8 K),(276,Boo K)] [] 21 [9,10] [] [(18,[.put 3018])] [] [.tmp 2]
def A9u:Fs:=⟨[(1,.p 101),(3,.o 1003 44 true),(4,.v 2)],[(101,.st 25 true)]⟩
def A9v (K:Nat)(n:Nat)(q:PT A9u):Rt s_13:=Asc K q.2.2.1 n q.1 q.2.1
theorem Bop (K:Nat):AtL (Bvo K) (fun n=>[]) [] (bd Tryz.f254) 58 (A9v K):=fun n q=>by kernel_rfl
theorem Br9 (K:Nat):XF [.tmp 2] s_13 21 [] (Bvo K):=xkF (gC (Bcl K) (gC (Bi8 K) gN)) oN
theorem Boq (K:Nat)(n:Nat):CF [.tmp 2] s_13 21 [] (bd Tryz.f254) [] 58 (ar A9u (A9v K n)):=
 Agc (Br9 K) (Bop K) (fun n=>kN) n
theorem Bza (K:Nat):OkF 254 (By9 K):=
 Abg (x:=Bvo K) (L:=[(58,ar A9u (A9v K K))]) (c0:=bd Tryz.f254) (Br9 K) (by intro a0;show @Eq _ _ _;kernel_rfl) (kC (Boq K K) kN) Tryz.func254 trivial
def Avc (K:Nat)(a0:Fa):Option (Es):=((Ak9 K a0).bind fun r1=>(bif (!r1)then some (Es.mk (Fa.mk 0 0 0 0 0 0) (Eb.mk [] [] []) [] [] [])else((Awd K a0).bind fun r2=>((Axs K a0).bind fun r3=>some (Es.mk a0 r2 r3 [] [])))))
def Bzb:Sig:=⟨[.v 25],[.n 32 true],true⟩
def Bzc (K:Nat):Gu tyU:=⟨Bzb,Avc K⟩
def B37 (K:Nat):=xF Bzb [(210,c_8 K),(253,By6 K),(254,By9 K)] [] 13 [] [] [] [] [.cell 2 32]
theorem Bzd (K:Nat):OkF 194 (Bzc K):=
 Abg (x:=B37 K) (L:=[]) (c0:=bd Tryz.f194) (xkF (gC (Bcl K) (gC (By7 K) (gC (Bza K) gN))) oN) (by intro a0;show @Eq _ _ _;kernel_rfl) kN Tryz.func194 trivial
def Abl (K:Nat)(a0:List Bg)(a1:Int):Option (Bool):=(bif (decide (a1≥1))then some (decide (a1≤(a0.length:Int)))else some false)
def Bze:Sig:=⟨[.v 29,.v 3],[.v 4],true⟩
def A9w (K:Nat):Gu tyU:=⟨Bze,Abl K⟩
def B38 (K:Nat):=xF Bze [] [] 13 [6,7] [] [] [] [.tmp 4]
theorem A40 (K:Nat):OkF 244 (A9w K):=
 Abg (x:=B38 K) (L:=[]) (c0:=bd Tryz.f244) (xkF gN oN) (by intro a0 a1;show @Eq _ _ _;kernel_rfl) kN Tryz.func244 trivial
def Au0 (K:Nat)(a0:List Bg):Nat->Int->(List Int)->Option ((List Int))
 |0,_,_=>none
 |n1+1,v1,v2=>((Abl K a0 (Aqc .i64 v1 1)).bind fun r3=>(bif r3 then(bif (decide ((v2.length:Int)<(a0.length:Int)))then(if(v2++([v1]:List Int)).length*8≤140737488355328∧(v2++([v1]:List Int)).length≤maxLen then(if(0:Int)≤v1∧v1<(a0.length:Int)then(Au0 K a0 n1 (Aqd .i64 ((gt a0 v1).fUp) 1) (v2++([v1]:List Int)))else none)else none)else some v2)else some v2))
def Av1 (K:Nat)(a0:List Bg)(a1:Int):Option ((List Int)):=(Au0 K a0 K a1 ([]:List Int))
def s_16:Sig:=⟨[.v 29,.v 3],[.n 26 true],true⟩
def Bor (K:Nat):Gu tyU:=⟨s_16,Av1 K⟩
def Bvp (K:Nat):=xF s_16 [(244,A9w K)] [] 29 [10,11] [] [] [] [.tmp 4]
def A9x:Fs:=⟨[(0,.v 29),(1,.v 2),(5,.o 1005 3 true)],[]⟩
def A9y (K:Nat)(n:Nat)(q:PT A9x):Rt s_16:=Au0 K q.1 n q.2.1 q.2.2.1
theorem Bos (K:Nat):AtL (Bvp K) (fun n=>[]) [] (bd Tryz.f224) 28 (A9y K):=fun n q=>by kernel_rfl
theorem Bsa (K:Nat):XF [.tmp 4] s_16 29 [] (Bvp K):=xkF (gC (A40 K) gN) oN
theorem Bou (K:Nat)(n:Nat):CF [.tmp 4] s_16 29 [] (bd Tryz.f224) [] 28 (ar A9x (A9y K n)):=
 Agc (Bsa K) (Bos K) (fun n=>kN) n
theorem Bi9 (K:Nat):OkF 224 (Bor K):=
 Abg (x:=Bvp K) (L:=[(28,ar A9x (A9y K K))]) (c0:=bd Tryz.f224) (Bsa K) (by intro a0 a1;show @Eq _ _ _;kernel_rfl) (kC (Bou K K) kN) Tryz.func224 trivial
def Asd (K:Nat)(a0:List Bg)(a1:Int):Option (Bool):=(if(0:Int)≤a1∧a1<(a0.length:Int)then((Abl K a0 ((gt a0 a1).fUp)).bind fun r1=>(bif r1 then(if(0:Int)≤(Aqd .i64 ((gt a0 a1).fUp) 1)∧(Aqd .i64 ((gt a0 a1).fUp) 1)<(a0.length:Int)then(bif (((gt a0 (Aqd .i64 ((gt a0 a1).fUp) 1)).Ja)==1)then(if(0:Int)≤(Aqd .i64 ((gt a0 a1).fUp) 1)∧(Aqd .i64 ((gt a0 a1).fUp) 1)<(a0.length:Int)then(if(0:Int)≤a1∧a1<(a0.length:Int)then some (((gt a0 (Aqd .i64 ((gt a0 a1).fUp) 1)).Js)==((gt a0 a1).Hf))else none)else none)else some false)else none)else some false))else none)
def Bzf:Sig:=⟨[.v 29,.v 3],[.v 4],true⟩
def Bov (K:Nat):Gu tyU:=⟨Bzf,Asd K⟩
def B39 (K:Nat):=xF Bzf [(244,A9w K)] [] 37 [13,14,21,22,23] [] [] [] [.tmp 4]
theorem Bja (K:Nat):OkF 225 (Bov K):=
 Abg (x:=B39 K) (L:=[]) (c0:=bd Tryz.f225) (xkF (gC (A40 K) gN) oN) (by intro a0 a1;show @Eq _ _ _;kernel_rfl) kN Tryz.func225 trivial
def Awe (K:Nat)(v2:Int)(C1:Int->Option (Bool)):Option (Bool):=(C1 (Aqc .i64 v2 1))
def Ass (K:Nat)(a0:List Bg)(r1:(List Int)):Nat->Int->Option (Bool)
 |0,_=>none
 |n1+1,v2=>(bif (decide (v2<(r1.length:Int)))then(if(0:Int)≤v2∧v2<(r1.length:Int)then(if(0:Int)≤(gt r1 v2)∧(gt r1 v2)<(a0.length:Int)then(bif (((gt a0 (gt r1 v2)).Ja) != 1)then some false else(bif (decide ((Aqc .i64 v2 1)<(r1.length:Int)))then(if(0:Int)≤v2∧v2<(r1.length:Int)then((Asd K a0 (gt r1 v2)).bind fun r3=>(bif (!r3)then some false else(Awe K v2 (Ass K a0 r1 n1))))else none)else(Awe K v2 (Ass K a0 r1 n1))))else none)else none)else(bif (decide ((r1.length:Int)>0))then(if(0:Int)≤(Aqd .i64 (r1.length:Int) 1)∧(Aqd .i64 (r1.length:Int) 1)<(r1.length:Int)then(if(0:Int)≤(gt r1 (Aqd .i64 (r1.length:Int) 1))∧(gt r1 (Aqd .i64 (r1.length:Int) 1))<(a0.length:Int)then some (((gt a0 (gt r1 (Aqd .i64 (r1.length:Int) 1))).fUp)==0)else none)else none)else some false))
def Aul (K:Nat)(a0:List Bg)(a1:Int):Option (Bool):=((Av1 K a0 a1).bind fun r1=>(Ass K a0 r1 K 0))
def s_18:Sig:=⟨[.v 29,.v 3],[.v 4],true⟩
def Bow (K:Nat):Gu tyU:=⟨s_18,Aul K⟩
def Box (K:Nat):=xF s_18 [(224,Bor K),(225,Bov K)] [] 57 [24,25,30,31,43,44] [] [] [233] [.tmp 4]
def A50:Fs:=⟨[(0,.v 29),(5,.v 26),(6,.v 2)],[]⟩
def Ay6:Fs:=⟨[(0,.v 29),(5,.v 26),(6,.v 2)],[]⟩
def A51 (K:Nat)(C58:CT Ay6 s_18)(q:PT A50):Rt s_18:=Awe K q.2.2.1 (fun v2=>C58 (q.1,q.2.1,v2,()))
def A2q (K:Nat)(n:Nat)(q:PT Ay6):Rt s_18:=Ass K q.1 q.2.1 n q.2.2.1
theorem Bjb (K:Nat)(C58:CT Ay6 s_18):AtJ (Box K) [] [(58,ar Ay6 C58)] (bd Tryz.f151) 233 (A51 K C58):=fun q=>by kernel_rfl
theorem Boy (K:Nat):AtL (Box K) (fun n=>[(233,ar A50 (A51 K (A2q K n)))]) [] (bd Tryz.f151) 58 (A2q K):=fun n q=>by kernel_rfl
theorem Bjc (K:Nat):XF [.tmp 4] s_18 57 [233] (Box K):=xkF (gC (Bi9 K) (gC (Bja K) gN)) oN
theorem Bjd (K:Nat)(C58:CT Ay6 s_18):CF [.tmp 4] s_18 57 [233] (bd Tryz.f151) [(58,ar Ay6 C58)] 233 (ar A50 (A51 K C58)):=
 Aiz (Bjc K) (Bjb K C58) kN
theorem Boz (K:Nat)(n:Nat):CF [.tmp 4] s_18 57 [233] (bd Tryz.f151) [] 58 (ar Ay6 (A2q K n)):=
 Agc (Bjc K) (Boy K) (fun n=>(kC (Bjd K (A2q K n)) kN)) n
theorem Bje (K:Nat):OkF 151 (Bow K):=
 Abg (x:=Box K) (L:=[(58,ar Ay6 (A2q K K))]) (c0:=bd Tryz.f151) (Bjc K) (by intro a0 a1;show @Eq _ _ _;kernel_rfl) (kC (Boz K K) kN) Tryz.func151 trivial
def Ast (K:Nat)(v2:Int)(v3:Int)(v4:Int)(v5:Int)(v6:Int)(v7:Int)(v8:Int)(v9:List Int)(v10:List Int)(v11:List Int)(v12:List Bg)(v13:List A3)(v14:List Int)(C1:(List Int)->Int->Int->Int->Int->Int->Int->Int->(List Int)->(List Int)->(List Int)->(List Bg)->(List A3)->(List Int)->Option ((List Int)))(v16:List Int):Option ((List Int)):=(C1 v16 (Aqc .i64 v2 1) v3 v4 v5 v6 v7 v8 v9 v10 v11 v12 v13 v14)
def Arj (K:Nat):Nat->(List Int)->Int->Int->Int->Int->Int->Int->Int->(List Int)->(List Int)->(List Int)->(List Bg)->(List A3)->(List Int)->Option ((List Int))
 |0,_,_,_,_,_,_,_,_,_,_,_,_,_,_=>none
 |n1+1,v1,v2,v3,v4,v5,v6,v7,v8,v9,v10,v11,v12,v13,v14=>(bif (decide (v2<(v12.length:Int)))then((Aul K v12 v2).bind fun r15=>(bif r15 then(if(v1++([v2]:List Int)).length*8≤140737488355328∧(v1++([v2]:List Int)).length≤maxLen then(Ast K v2 v3 v4 v5 v6 v7 v8 v9 v10 v11 v12 v13 v14 (Arj K n1) (v1++([v2]:List Int)))else none)else(Ast K v2 v3 v4 v5 v6 v7 v8 v9 v10 v11 v12 v13 v14 (Arj K n1) v1)))else some v1)
def Awf (K:Nat)(a0:Es):Option ((List Int)):=(Arj K K ([]:List Int) 0 a0.fC.Af a0.fC.Ez a0.fC.Db a0.fC.Fv a0.fC.Dc a0.fC.E0 a0.fP.Gl a0.fP.Ja a0.fP.Gm a0.fL a0.fQ a0.Rl)
def s_19:Sig:=⟨[.v 32],[.n 26 true],true⟩
def Bvq (K:Nat):Gu tyU:=⟨s_19,Awf K⟩
def Bo0 (K:Nat):=xF s_19 [(151,Bow K)] [] 22 [] [] [] [233] [.tmp 2]
def A52:Fs:=⟨[(1,.p 101),(3,.o 1003 3 true),(4,.v 2)],[(101,.box [.v 2,.v 2,.v 2,.v 2,.v 2,.v 2,.v 22,.v 26,.v 26,.v 29,.v 30,.v 26])]⟩
def Ay7:Fs:=⟨[(1,.p 101),(3,.o 1003 3 true),(4,.v 2)],[(101,.box [.v 2,.v 2,.v 2,.v 2,.v 2,.v 2,.v 22,.v 26,.v 26,.v 29,.v 30,.v 26])]⟩
def A53 (K:Nat)(C58:CT Ay7 s_19)(q:PT A52):Rt s_19:=Ast K q.2.1 q.2.2.1 q.2.2.2.1 q.2.2.2.2.1 q.2.2.2.2.2.1 q.2.2.2.2.2.2.1 q.2.2.2.2.2.2.2.1 q.2.2.2.2.2.2.2.2.1 q.2.2.2.2.2.2.2.2.2.1 q.2.2.2.2.2.2.2.2.2.2.1 q.2.2.2.2.2.2.2.2.2.2.2.1 q.2.2.2.2.2.2.2.2.2.2.2.2.1 q.2.2.2.2.2.2.2.2.2.2.2.2.2.1 (fun v1 v2 v3 v4 v5 v6 v7 v8 v9 v10 v11 v12 v13 v14=>C58 (v1,v2,v3,v4,v5,v6,v7,v8,v9,v10,v11,v12,v13,v14,())) q.1
def A2r (K:Nat)(n:Nat)(q:PT Ay7):Rt s_19:=Arj K n q.1 q.2.1 q.2.2.1 q.2.2.2.1 q.2.2.2.2.1 q.2.2.2.2.2.1 q.2.2.2.2.2.2.1 q.2.2.2.2.2.2.2.1 q.2.2.2.2.2.2.2.2.1 q.2.2.2.2.2.2.2.2.2.1 q.2.2.2.2.2.2.2.2.2.2.1 q.2.2.2.2.2.2.2.2.2.2.2.1 q.2.2.2.2.2.2.2.2.2.2.2.2.1 q.2.2.2.2.2.2.2.2.2.2.2.2.2.1
theorem Bjf (K:Nat)(C58:CT Ay7 s_19):AtJ (Bo0 K) [] [(58,ar Ay7 C58)] (bd Tryz.f115) 233 (A53 K C58):=fun q=>by kernel_rfl
theorem Bo1 (K:Nat):AtL (Bo0 K) (fun n=>[(233,ar A52 (A53 K (A2r K n)))]) [] (bd Tryz.f115) 58 (A2r K):=fun n q=>by kernel_rfl
theorem Bjg (K:Nat):XF [.tmp 2] s_19 22 [233] (Bo0 K):=xkF (gC (Bje K) gN) oN
theorem Bjh (K:Nat)(C58:CT Ay7 s_19):CF [.tmp 2] s_19 22 [233] (bd Tryz.f115) [(58,ar Ay7 C58)] 233 (ar A52 (A53 K C58)):=
 Aiz (Bjg K) (Bjf K C58) kN
theorem Bo2 (K:Nat)(n:Nat):CF [.tmp 2] s_19 22 [233] (bd Tryz.f115) [] 58 (ar Ay7 (A2r K n)):=
 Agc (Bjg K) (Bo1 K) (fun n=>(kC (Bjh K (A2r K n)) kN)) n
theorem Bsb (K:Nat):OkF 115 (Bvq K):=
 Abg (x:=Bo0 K) (L:=[(58,ar Ay7 (A2r K K))]) (c0:=bd Tryz.f115) (Bjg K) (by intro a0;show @Eq _ _ _;kernel_rfl) (kC (Bo2 K K) kN) Tryz.func115 trivial
def Arf (K:Nat)(a0:Eu)(a1:Int):Option (Bool×Eu):=((Abe K a0 a1).bind fun r1=>some ((r1.1==0),r1.2))
def Bzg:Sig:=⟨[.b 135 false,.v 3],[.v 4],false⟩
def Bvr (K:Nat):Gu tyU:=⟨Bzg,Arf K⟩
def B4a (K:Nat):=xF Bzg [(118,c_4 K)] [] 9 [] [] [] [] [.tmp 4]
theorem Bsc (K:Nat):OkF 116 (Bvr K):=
 Abg (x:=B4a K) (L:=[]) (c0:=bd Tryz.f116) (xkF (gC (Bd8 K) gN) oN) (by intro a0 a1;show @Eq _ _ _;kernel_rfl) kN Tryz.func116 trivial
def Avd (K:Nat)(a0:Eu):Option (Ca×Eu):=((Abe K a0 5).bind fun r1=>((Abe K r1.2 3).bind fun r2=>some ((Ca.mk r1.1 (Aqc .i64 1 r2.1)),r2.2)))
def Bzh:Sig:=⟨[.b 135 false],[.v 34],false⟩
def Bzi (K:Nat):Gu tyU:=⟨Bzh,Avd K⟩
def B4b (K:Nat):=xF Bzh [(118,c_4 K)] [] 9 [] [] [] [] [.cell 2 34]
theorem Bzj (K:Nat):OkF 196 (Bzi K):=
 Abg (x:=B4b K) (L:=[]) (c0:=bd Tryz.f196) (xkF (gC (Bd8 K) gN) oN) (by intro a0;show @Eq _ _ _;kernel_rfl) kN Tryz.func196 trivial
def Asu (K:Nat)(a1:Int):Nat->(List Int)->Int->(List Int)->Int->Int->Option ((List Int)×Eu)
 |0,_,_,_,_,_=>none
 |n1+1,v1,v2,v3,v4,v5=>(bif (decide (v2<a1))then((Are K (Eu.mk v3 v4 v5)).bind fun r6=>(if(v1++([(IntKind.u8.wrap r6.1)]:List Int)).length*1≤140737488355328∧(v1++([(IntKind.u8.wrap r6.1)]:List Int)).length≤maxLen then(Asu K a1 n1 (v1++([(IntKind.u8.wrap r6.1)]:List Int)) (Aqc .i64 v2 1) r6.2.fb r6.2.fi r6.2.fh)else none))else some (v1,(Eu.mk v3 v4 v5)))
def Awg (K:Nat)(a0:Eu)(a1:Int):Option ((List Int)×Eu):=(Asu K a1 K ([]:List Int) 0 a0.fb a0.fi a0.fh)
def s_22:Sig:=⟨[.b 135 false,.v 3],[.n 22 true],false⟩
def Bvs (K:Nat):Gu tyU:=⟨s_22,Awg K⟩
def Bvt (K:Nat):=xF s_22 [(197,c_3 K)] [] 20 [] [] [] [] [.tmp 4]
def A9z:Fs:=⟨[(0,.p 1),(1,.v 2),(5,.o 1005 5 true),(6,.v 2)],[(1,.box [.v 22,.v 2,.v 2])]⟩
def A90 (K:Nat)(n:Nat)(q:PT A9z):Rt s_22:=Asu K q.1 n q.2.1 q.2.2.1 q.2.2.2.1 q.2.2.2.2.1 q.2.2.2.2.2.1
theorem Bo3 (K:Nat):AtL (Bvt K) (fun n=>[]) [] (bd Tryz.f121) 58 (A90 K):=fun n q=>by kernel_rfl
theorem Bsd (K:Nat):XF [.tmp 4] s_22 20 [] (Bvt K):=xkF (gC (By1 K) gN) oN
theorem Bo4 (K:Nat)(n:Nat):CF [.tmp 4] s_22 20 [] (bd Tryz.f121) [] 58 (ar A9z (A90 K n)):=
 Agc (Bsd K) (Bo3 K) (fun n=>kN) n
theorem Bse (K:Nat):OkF 121 (Bvs K):=
 Abg (x:=Bvt K) (L:=[(58,ar A9z (A90 K K))]) (c0:=bd Tryz.f121) (Bsd K) (by intro a0 a1;show @Eq _ _ _;kernel_rfl) (kC (Bo4 K K) kN) Tryz.func121 trivial
def Akv (K:Nat)(v6:List Int)(v7:Int)(v8:Int)(v9:Dg)(v10:Dg):Option (Dg×Eu):=some (v9,(Eu.mk v6 v7 v8))
def Ark (K:Nat)(v11:Int)(v12:Bool)(v13:List Int)(v14:Int)(v15:Int)(v16:E2)(v17:Ca)(v18:Dg)(v19:Dg):Option (Dg×Eu):=(bif v12 then(Akv K v13 v14 v15 (Dg.mk v18.Yv v17 v18.fR v18.fN v18.fM v18.fB) v19)else(bif (v11==2)then((Apt K (Eu.mk v13 v14 v15) ([1,2,3,5,8,9,17,20,0,201]:List Int)).bind fun r20=>(if r20.2.2.length=([1,2,3,5,8,9,17,20,0,201]:List Int).length then((Apt K r20.2.1 ([1,1,2,4,3]:List Int)).bind fun r21=>(if r21.2.2.length=([1,1,2,4,3]:List Int).length then(Akv K r21.2.1.fb r21.2.1.fi r21.2.1.fh (Dg.mk v18.Yv v17 v18.fR r20.1 r21.1 v18.fB) v19)else none))else none))else(bif (v11==3)then((Abe K (Eu.mk v13 v14 v15) 4).bind fun r22=>((Abe K r22.2 5).bind fun r23=>(Akv K r23.2.fb r23.2.fi r23.2.fh (Dg.mk v18.Yv v18.fH v16 r22.1 r23.1 v18.fB) v19)))else(bif (v11==4)then((Abe K (Eu.mk v13 v14 v15) 4).bind fun r24=>((Abe K r24.2 4).bind fun r25=>((Awg K r25.2 r25.1).bind fun r26=>(Akv K r26.2.fb r26.2.fi r26.2.fh (Dg.mk v18.Yv v18.fH v16 r24.1 v18.fM r26.1) v19))))else(bif (v11==5)then((Apt K (Eu.mk v13 v14 v15) ([1,7,255,256]:List Int)).bind fun r27=>(if r27.2.2.length=([1,7,255,256]:List Int).length then(Akv K r27.2.1.fb r27.2.1.fi r27.2.1.fh (Dg.mk v18.Yv v17 v18.fR r27.1 v18.fM v18.fB) v19)else none))else(Akv K v13 v14 v15 v18 v19))))))
def At0 (K:Nat)(a0:Eu):Option (Dg×Eu):=((Abe K a0 9).bind fun r1=>((Avd K r1.2).bind fun r2=>((Abe K r2.2 2).bind fun r3=>((Abe K r3.2 3).bind fun r4=>(bif ((Aqc .i64 1 r1.1)==1)then((Arf K r4.2 2).bind fun r5=>(bif r5.1 then(Akv K r5.2.fb r5.2.fi r5.2.fh (Dg.mk (Aqc .i64 1 r1.1) r2.1 (E2.mk (Ca.mk 0 0) 0 0) 0 0 []) (Dg.mk 0 (Ca.mk 0 0) (E2.mk (Ca.mk 0 0) 0 0) 0 0 []))else(Akv K r5.2.fb r5.2.fi r5.2.fh (Dg.mk (Aqc .i64 1 r1.1) (Ca.mk 0 0) (E2.mk (Ca.mk 0 0) 0 0) 0 0 []) (Dg.mk 0 (Ca.mk 0 0) (E2.mk (Ca.mk 0 0) 0 0) 0 0 []))))else(bif ((Aqc .i64 1 r1.1)==6)then(Ark K (Aqc .i64 1 r1.1) ((Aqc .i64 1 r1.1)==6) r4.2.fb r4.2.fi r4.2.fh (E2.mk r2.1 r3.1 r4.1) r2.1 (Dg.mk (Aqc .i64 1 r1.1) (Ca.mk 0 0) (E2.mk (Ca.mk 0 0) 0 0) 0 0 []) (Dg.mk 0 (Ca.mk 0 0) (E2.mk (Ca.mk 0 0) 0 0) 0 0 []))else(bif ((Aqc .i64 1 r1.1)==7)then(Ark K (Aqc .i64 1 r1.1) ((Aqc .i64 1 r1.1)==7) r4.2.fb r4.2.fi r4.2.fh (E2.mk r2.1 r3.1 r4.1) r2.1 (Dg.mk (Aqc .i64 1 r1.1) (Ca.mk 0 0) (E2.mk (Ca.mk 0 0) 0 0) 0 0 []) (Dg.mk 0 (Ca.mk 0 0) (E2.mk (Ca.mk 0 0) 0 0) 0 0 []))else(Ark K (Aqc .i64 1 r1.1) ((Aqc .i64 1 r1.1)==8) r4.2.fb r4.2.fi r4.2.fh (E2.mk r2.1 r3.1 r4.1) r2.1 (Dg.mk (Aqc .i64 1 r1.1) (Ca.mk 0 0) (E2.mk (Ca.mk 0 0) 0 0) 0 0 []) (Dg.mk 0 (Ca.mk 0 0) (E2.mk (Ca.mk 0 0) 0 0) 0 0 [])))))))))
def s_23:Sig:=⟨[.b 135 false],[.n 38 true],false⟩
def Bzk (K:Nat):Gu tyU:=⟨s_23,At0 K⟩
def Bo5 (K:Nat):=xF s_23 [(116,Bvr K),(118,c_4 K),(120,c_5 K),(121,Bvs K),(196,Bzi K)] [] 75 [] [(27,[.take 103 9 6657])] [] [31,1003] [.cell 2 38]
def A5k:Fs:=⟨[(2,.p 102),(3,.p 103)],[(1,.box [.v 22,.v 2,.v 2]),(103,.st 38 true),(102,.st 38 true)]⟩
def A3q:Fs:=⟨[(0,.p 1),(2,.p 102),(3,.p 103),(4,.p 104),(5,.p 105),(19,.v 2),(26,.v 4)],[(1,.box [.v 22,.v 2,.v 2]),(105,.st 36 true),(104,.st 34 true),(103,.st 38 true),(102,.st 38 true)]⟩
def A5l (K:Nat)(q:PT A5k):Rt s_23:=Akv K q.1 q.2.1 q.2.2.1 q.2.2.2.1 q.2.2.2.2.1
def A3r (K:Nat)(q:PT A3q):Rt s_23:=Ark K q.1 q.2.1 q.2.2.1 q.2.2.2.1 q.2.2.2.2.1 q.2.2.2.2.2.1 q.2.2.2.2.2.2.1 q.2.2.2.2.2.2.2.1 q.2.2.2.2.2.2.2.2.1
theorem Bo6 (K:Nat):AtJ (Bo5 K) [] [] (bd Tryz.f117) 31 (A5l K):=fun q=>by kernel_rfl
theorem Bg7 (K:Nat):AtJ (Bo5 K) [(31,ar A5k (A5l K))] [] (bd Tryz.f117) 1003 (A3r K):=fun q=>by kernel_rfl
theorem Bji (K:Nat):XF [.cell 2 38] s_23 75 [31,1003] (Bo5 K):=xkF (gC (Bsc K) (gC (Bd8 K) (gC (Bvm K) (gC (Bse K) (gC (Bzj K) gN))))) oN
theorem Bfz (K:Nat):CF [.cell 2 38] s_23 75 [31,1003] (bd Tryz.f117) [] 31 (ar A5k (A5l K)):=
 Aiz (Bji K) (Bo6 K) kN
theorem Bg8 (K:Nat):CF [.cell 2 38] s_23 75 [31,1003] (bd Tryz.f117) [] 1003 (ar A3q (A3r K)):=
 Aiz (Bji K) (Bg7 K) (kC (Bfz K) kN)
theorem Bzl (K:Nat):OkF 117 (Bzk K):=
 Abg (x:=Bo5 K) (L:=[(31,ar A5k (A5l K)),(1003,ar A3q (A3r K))]) (c0:=bd Tryz.f117) (Bji K) (by intro a0;show @Eq _ _ _;kernel_rfl) (kC (Bfz K) (kC (Bg8 K) kN)) Tryz.func117 trivial
def Ar6 (K:Nat)(a0:List Bg)(a1:Int):Option (Ca):=((Aaa K a1 0 (Aqd .i64 (a0.length:Int) 1)).bind fun r1=>(bif (!r1)then some (Ca.mk 0 0)else(if(0:Int)≤a1∧a1<(a0.length:Int)then some (Ca.mk a1 ((gt a0 a1).Bz))else none)))
def Bzm:Sig:=⟨[.v 29,.v 3],[.v 34],true⟩
def Bvu (K:Nat):Gu tyU:=⟨Bzm,Ar6 K⟩
def B4c (K:Nat):=xF Bzm [(84,c_7 K)] [] 19 [] [] [] [] [.cell 4 34]
theorem Bsf (K:Nat):OkF 119 (Bvu K):=
 Abg (x:=B4c K) (L:=[]) (c0:=bd Tryz.f119) (xkF (gC (Azn K) gN) oN) (by intro a0 a1;show @Eq _ _ _;kernel_rfl) kN Tryz.func119 trivial
def Asv (K:Nat)(r8:Ca)(v27:List Int)(v28:List Int)(v29:List Int)(v30:List Bg)(v31:List A3)(v32:List Int)(v34:Int)(v36:List Int)(v37:Int)(v38:Int)(v47:Bool):Option (Dg×Eu×(List Int)×(List Int)×(List Int)×(List Bg)×(List A3)×(List Int)):=(bif v47 then((Abe K (Eu.mk v36 v37 v38) 256).bind fun r48=>some ((Dg.mk 5 r8 (E2.mk (Ca.mk 0 0) 0 0) r48.1 0 []),r48.2,v27,v28,v29,v30,v31,v32))else(bif (v34==13)then some ((Dg.mk 6 r8 (E2.mk (Ca.mk 0 0) 0 0) 0 0 []),(Eu.mk v36 v37 v38),v27,v28,v29,v30,v31,v32)else(bif (v34==14)then some ((Dg.mk 7 r8 (E2.mk (Ca.mk 0 0) 0 0) 0 0 []),(Eu.mk v36 v37 v38),v27,v28,v29,v30,v31,v32)else((Arf K (Eu.mk v36 v37 v38) 6).bind fun r49=>(bif r49.1 then some ((Dg.mk 9 (Ca.mk 0 0) (E2.mk (Ca.mk 0 0) 0 0) 0 0 []),r49.2,v27,v28,v29,v30,v31,v32)else some ((Dg.mk 8 r8 (E2.mk (Ca.mk 0 0) 0 0) 0 0 []),r49.2,v27,v28,v29,v30,v31,v32))))))
def Asw (K:Nat)(r8:Ca)(v13:E2)(v27:List Int)(v28:List Int)(v29:List Int)(v30:List Bg)(v31:List A3)(v32:List Int)(v34:Int)(v36:List Int)(v37:Int)(v38:Int)(v43:Bool):Option (Dg×Eu×(List Int)×(List Int)×(List Int)×(List Bg)×(List A3)×(List Int)):=(bif v43 then((Abe K (Eu.mk v36 v37 v38) 2).bind fun r44=>((Awg K r44.2 (Aqc .i64 1 r44.1)).bind fun r45=>some ((Dg.mk 4 (Ca.mk 0 0) v13 0 0 r45.1),r45.2,v27,v28,v29,v30,v31,v32)))else(bif (v34==10)then((Abe K (Eu.mk v36 v37 v38) 3).bind fun r46=>some ((Dg.mk 3 (Ca.mk 0 0) v13 0 r46.1 []),r46.2,v27,v28,v29,v30,v31,v32))else(bif (v34==11)then(Asv K r8 v27 v28 v29 v30 v31 v32 v34 v36 v37 v38 (v34==11))else(Asv K r8 v27 v28 v29 v30 v31 v32 v34 v36 v37 v38 (v34==12)))))
def Arl (K:Nat)(r8:Ca)(v13:E2)(v16:Int)(v27:List Int)(v28:List Int)(v29:List Int)(v30:List Bg)(v31:List A3)(v32:List Int)(v34:Int)(v36:List Int)(v37:Int)(v38:Int)(v39:Bool):Option (Dg×Eu×(List Int)×(List Int)×(List Int)×(List Bg)×(List A3)×(List Int)):=(bif v39 then((Apt K (Eu.mk v36 v37 v38) ([1,2,3,4,5,8]:List Int)).bind fun r40=>(if r40.2.2.length=([1,2,3,4,5,8]:List Int).length then((Apt K r40.2.1 ([1,1,2,4]:List Int)).bind fun r41=>(if r41.2.2.length=([1,1,2,4]:List Int).length then some ((Dg.mk 2 r8 (E2.mk (Ca.mk 0 0) 0 0) r40.1 r41.1 []),r41.2.1,v27,v28,v29,v30,v31,v32)else none))else none))else(bif (v34==7)then((Abe K (Eu.mk v36 v37 v38) v16).bind fun r42=>some ((Dg.mk 2 r8 (E2.mk (Ca.mk 0 0) 0 0) (Aqc .i64 (Aqc .i64 v16 1) r42.1) 1 []),r42.2,v27,v28,v29,v30,v31,v32))else(bif (v34==8)then(Asw K r8 v13 v27 v28 v29 v30 v31 v32 v34 v36 v37 v38 (v34==8))else(Asw K r8 v13 v27 v28 v29 v30 v31 v32 v34 v36 v37 v38 (v34==9)))))
def Arm (K:Nat)(r8:Ca)(v13:E2)(v16:Int)(v27:List Int)(v28:List Int)(v29:List Int)(v30:List Bg)(v31:List A3)(v32:List Int)(v34:Int)(v35:Bool)(v36:List Int)(v37:Int)(v38:Int):Option (Dg×Eu×(List Int)×(List Int)×(List Int)×(List Bg)×(List A3)×(List Int)):=(bif v35 then some ((Dg.mk 1 r8 (E2.mk (Ca.mk 0 0) 0 0) 0 0 []),(Eu.mk v36 v37 v38),v27,v28,v29,v30,v31,v32)else(bif (v34==3)then some ((Dg.mk 1 (Ca.mk 0 0) (E2.mk (Ca.mk 0 0) 0 0) 0 0 []),(Eu.mk v36 v37 v38),v27,v28,v29,v30,v31,v32)else(bif (v34==4)then(Arl K r8 v13 v16 v27 v28 v29 v30 v31 v32 v34 v36 v37 v38 (v34==4))else(bif (v34==5)then(Arl K r8 v13 v16 v27 v28 v29 v30 v31 v32 v34 v36 v37 v38 (v34==5))else(Arl K r8 v13 v16 v27 v28 v29 v30 v31 v32 v34 v36 v37 v38 (v34==6))))))
def Asx (K:Nat)(r8:Ca)(v10:List Int)(v11:Int)(v12:Int)(v13:E2)(v14:Dg)(v15:Int)(v16:Int)(v17:Int)(v18:Int)(v19:Int)(v20:Int)(v21:Nat)(v22:Nat)(v23:Nat)(v24:Nat)(v25:Nat)(v26:Nat)(v27:List Int)(v28:List Int)(v29:List Int)(v30:List Bg)(v31:List A3)(v32:List Int):Option (Dg×Eu×(List Int)×(List Int)×(List Int)×(List Bg)×(List A3)×(List Int)):=((Abe K (Eu.mk v10 v11 v12) 16).bind fun r33=>(bif (r33.1==0)then(Arm K r8 v13 v16 v27 v28 v29 v30 v31 v32 r33.1 (r33.1==0) r33.2.fb r33.2.fi r33.2.fh)else(bif (r33.1==1)then(Arm K r8 v13 v16 v27 v28 v29 v30 v31 v32 r33.1 (r33.1==1) r33.2.fb r33.2.fi r33.2.fh)else(Arm K r8 v13 v16 v27 v28 v29 v30 v31 v32 r33.1 (r33.1==2) r33.2.fb r33.2.fi r33.2.fh))))
def At1 (K:Nat)(a0:Eu)(a1:Es):Option (Dg×Eu×(List Int)×(List Int)×(List Int)×(List Bg)×(List A3)×(List Int)):=((Awf K a1).bind fun r1=>(bif ((r1.length:Int)==0)then((Arf K a0 2).bind fun r2=>(bif r2.1 then some ((Dg.mk 1 (Ca.mk 0 0) (E2.mk (Ca.mk 0 0) 0 0) 0 0 []),r2.2,a1.fP.Gl,a1.fP.Ja,a1.fP.Gm,a1.fL,a1.fQ,a1.Rl)else((At0 K r2.2).bind fun r3=>some (r3.1,r3.2,a1.fP.Gl,a1.fP.Ja,a1.fP.Gm,a1.fL,a1.fQ,a1.Rl))))else((Arf K a0 10).bind fun r4=>(bif r4.1 then((Arf K r4.2 2).bind fun r5=>(bif r5.1 then some ((Dg.mk 1 (Ca.mk 0 0) (E2.mk (Ca.mk 0 0) 0 0) 0 0 []),r5.2,a1.fP.Gl,a1.fP.Ja,a1.fP.Gm,a1.fL,a1.fQ,a1.Rl)else((At0 K r5.2).bind fun r6=>some (r6.1,r6.2,a1.fP.Gl,a1.fP.Ja,a1.fP.Gm,a1.fL,a1.fQ,a1.Rl))))else((Abe K r4.2 (r1.length:Int)).bind fun r7=>(if(0:Int)≤r7.1∧r7.1<(r1.length:Int)then((Ar6 K a1.fL (gt r1 r7.1)).bind fun r8=>(if(0:Int)≤(gt r1 r7.1)∧(gt r1 r7.1)<(a1.fL.length:Int)then(if(0:Int)≤(gt r1 r7.1)∧(gt r1 r7.1)<(a1.fL.length:Int)then(bif (decide ((((gt a1.fL (gt r1 r7.1)).Er).length:Int)>0))then(if(0:Int)≤(gt r1 r7.1)∧(gt r1 r7.1)<(a1.fL.length:Int)then((Abe K r7.2 (((gt a1.fL (gt r1 r7.1)).Er).length:Int)).bind fun r9=>(Asx K r8 r9.2.fb r9.2.fi r9.2.fh (E2.mk r8 ((gt a1.fL (gt r1 r7.1)).Js) r9.1) (Dg.mk 0 (Ca.mk 0 0) (E2.mk (Ca.mk 0 0) 0 0) 0 0 []) a1.fC.Af a1.fC.Ez a1.fC.Db a1.fC.Fv a1.fC.Dc a1.fC.E0 a1.fP.Gl.length a1.fP.Ja.length a1.fP.Gm.length a1.fL.length a1.fQ.length a1.Rl.length a1.fP.Gl a1.fP.Ja a1.fP.Gm a1.fL a1.fQ a1.Rl))else none)else(Asx K r8 r7.2.fb r7.2.fi r7.2.fh (E2.mk r8 ((gt a1.fL (gt r1 r7.1)).Js) 0) (Dg.mk 0 (Ca.mk 0 0) (E2.mk (Ca.mk 0 0) 0 0) 0 0 []) a1.fC.Af a1.fC.Ez a1.fC.Db a1.fC.Fv a1.fC.Dc a1.fC.E0 a1.fP.Gl.length a1.fP.Ja.length a1.fP.Gm.length a1.fL.length a1.fQ.length a1.Rl.length a1.fP.Gl a1.fP.Ja a1.fP.Gm a1.fL a1.fQ a1.Rl))else none)else none))else none))))))
def s_25:Sig:=⟨[.b 135 false,.w 32 false [(5,true),(3,true),(3,true),(44,false),(159,false),(3,true)]],[.n 38 true],false⟩
def Bvv (K:Nat):Gu tyU:=⟨s_25,At1 K⟩
def Bd9 (K:Nat):=xF s_25 [(115,Bvq K),(116,Bvr K),(117,Bzk K),(118,c_4 K),(119,Bvu K),(120,c_5 K),(121,Bvs K)] [] 133 [13,14] [] [] [127,2042,32687,523007,8368127] [.cell 4 38]
def A0a:Fs:=⟨[(0,.p 1),(4,.p 104),(7,.p 107),(61,.v 2),(113,.v 4)],[(1,.box [.v 22,.v 2,.v 2]),(2,.rws 5 true),(3,.rws 3 true),(4,.rws 3 true),(5,.rws 44 false),(6,.rws 159 false),(7,.rws 3 true),(107,.st 34 true),(104,.st 38 true)]⟩
def A0u:Fs:=⟨[(0,.p 1),(4,.p 104),(7,.p 107),(8,.p 108),(61,.v 2),(97,.v 4)],[(1,.box [.v 22,.v 2,.v 2]),(2,.rws 5 true),(3,.rws 3 true),(4,.rws 3 true),(5,.rws 44 false),(6,.rws 159 false),(7,.rws 3 true),(108,.st 36 true),(107,.st 34 true),(104,.st 38 true)]⟩
def A13:Fs:=⟨[(0,.p 1),(3,.p 103),(4,.p 104),(7,.p 107),(8,.p 108),(61,.v 2),(71,.v 4)],[(1,.box [.v 22,.v 2,.v 2]),(108,.st 36 true),(107,.st 34 true),(104,.st 38 true),(103,.ob [.v 2,.v 2,.v 2,.v 2,.v 2,.v 2,.O 2,.O 3,.O 4,.O 5,.O 6,.O 7]),(2,.rws 5 true),(3,.rws 3 true),(4,.rws 3 true),(5,.rws 44 false),(6,.rws 159 false),(7,.rws 3 true)]⟩
def A3s:Fs:=⟨[(0,.p 1),(3,.p 103),(4,.p 104),(7,.p 107),(8,.p 108),(61,.v 2),(62,.v 4)],[(1,.box [.v 22,.v 2,.v 2]),(108,.st 36 true),(107,.st 34 true),(104,.st 38 true),(103,.ob [.v 2,.v 2,.v 2,.v 2,.v 2,.v 2,.O 2,.O 3,.O 4,.O 5,.O 6,.O 7]),(2,.rws 5 true),(3,.rws 3 true),(4,.rws 3 true),(5,.rws 44 false),(6,.rws 159 false),(7,.rws 3 true)]⟩
def A54:Fs:=⟨[(0,.p 1),(3,.p 103),(4,.p 104),(7,.p 107),(8,.p 108)],[(1,.box [.v 22,.v 2,.v 2]),(108,.st 36 true),(107,.st 34 true),(104,.st 38 true),(103,.ob [.v 2,.v 2,.v 2,.v 2,.v 2,.v 2,.O 2,.O 3,.O 4,.O 5,.O 6,.O 7]),(2,.rws 5 true),(3,.rws 3 true),(4,.rws 3 true),(5,.rws 44 false),(6,.rws 159 false),(7,.rws 3 true)]⟩
def A0b (K:Nat)(q:PT A0a):Rt s_25:=Asv K q.2.2.2.2.2.2.2.2.2.2.2.1 q.2.2.2.2.2.1 q.2.2.2.2.2.2.1 q.2.2.2.2.2.2.2.1 q.2.2.2.2.2.2.2.2.1 q.2.2.2.2.2.2.2.2.2.1 q.2.2.2.2.2.2.2.2.2.2.1 q.1 q.2.2.1 q.2.2.2.1 q.2.2.2.2.1 q.2.1
def A0v (K:Nat)(q:PT A0u):Rt s_25:=Asw K q.2.2.2.2.2.2.2.2.2.2.2.2.1 q.2.2.2.2.2.2.2.2.2.2.2.1 q.2.2.2.2.2.1 q.2.2.2.2.2.2.1 q.2.2.2.2.2.2.2.1 q.2.2.2.2.2.2.2.2.1 q.2.2.2.2.2.2.2.2.2.1 q.2.2.2.2.2.2.2.2.2.2.1 q.1 q.2.2.1 q.2.2.2.1 q.2.2.2.2.1 q.2.1
def A14 (K:Nat)(q:PT A13):Rt s_25:=Arl K q.2.2.2.2.2.2.1 q.2.2.2.2.2.1 q.2.2.2.2.2.2.2.2.2.1 q.2.2.2.2.2.2.2.2.2.2.2.2.2.2.2.2.2.2.2.2.1 q.2.2.2.2.2.2.2.2.2.2.2.2.2.2.2.2.2.2.2.2.2.1 q.2.2.2.2.2.2.2.2.2.2.2.2.2.2.2.2.2.2.2.2.2.2.1 q.2.2.2.2.2.2.2.2.2.2.2.2.2.2.2.2.2.2.2.2.2.2.2.1 q.2.2.2.2.2.2.2.2.2.2.2.2.2.2.2.2.2.2.2.2.2.2.2.2.1 q.2.2.2.2.2.2.2.2.2.2.2.2.2.2.2.2.2.2.2.2.2.2.2.2.2.1 q.1 q.2.2.1 q.2.2.2.1 q.2.2.2.2.1 q.2.1
def A3t (K:Nat)(q:PT A3s):Rt s_25:=Arm K q.2.2.2.2.2.2.1 q.2.2.2.2.2.1 q.2.2.2.2.2.2.2.2.2.1 q.2.2.2.2.2.2.2.2.2.2.2.2.2.2.2.2.2.2.2.2.1 q.2.2.2.2.2.2.2.2.2.2.2.2.2.2.2.2.2.2.2.2.2.1 q.2.2.2.2.2.2.2.2.2.2.2.2.2.2.2.2.2.2.2.2.2.2.1 q.2.2.2.2.2.2.2.2.2.2.2.2.2.2.2.2.2.2.2.2.2.2.2.1 q.2.2.2.2.2.2.2.2.2.2.2.2.2.2.2.2.2.2.2.2.2.2.2.2.1 q.2.2.2.2.2.2.2.2.2.2.2.2.2.2.2.2.2.2.2.2.2.2.2.2.2.1 q.1 q.2.1 q.2.2.1 q.2.2.2.1 q.2.2.2.2.1
def A55 (K:Nat)(q:PT A54):Rt s_25:=Asx K q.2.2.2.2.1 q.1 q.2.1 q.2.2.1 q.2.2.2.1 q.2.2.2.2.2.1 q.2.2.2.2.2.2.1 q.2.2.2.2.2.2.2.1 q.2.2.2.2.2.2.2.2.1 q.2.2.2.2.2.2.2.2.2.1 q.2.2.2.2.2.2.2.2.2.2.1 q.2.2.2.2.2.2.2.2.2.2.2.1 q.2.2.2.2.2.2.2.2.2.2.2.2.1 q.2.2.2.2.2.2.2.2.2.2.2.2.2.1 q.2.2.2.2.2.2.2.2.2.2.2.2.2.2.1 q.2.2.2.2.2.2.2.2.2.2.2.2.2.2.2.1 q.2.2.2.2.2.2.2.2.2.2.2.2.2.2.2.2.1 q.2.2.2.2.2.2.2.2.2.2.2.2.2.2.2.2.2.1 q.2.2.2.2.2.2.2.2.2.2.2.2.2.2.2.2.2.2.1 q.2.2.2.2.2.2.2.2.2.2.2.2.2.2.2.2.2.2.2.1 q.2.2.2.2.2.2.2.2.2.2.2.2.2.2.2.2.2.2.2.2.1 q.2.2.2.2.2.2.2.2.2.2.2.2.2.2.2.2.2.2.2.2.2.1 q.2.2.2.2.2.2.2.2.2.2.2.2.2.2.2.2.2.2.2.2.2.2.1 q.2.2.2.2.2.2.2.2.2.2.2.2.2.2.2.2.2.2.2.2.2.2.2.1
theorem A91 (K:Nat):AtJ (Bd9 K) [] [] (bd Tryz.f53) 8368127 (A0b K):=fun q=>by kernel_rfl
theorem Bcm (K:Nat):AtJ (Bd9 K) [(8368127,ar A0a (A0b K))] [] (bd Tryz.f53) 523007 (A0v K):=fun q=>by kernel_rfl
theorem Bea (K:Nat):AtJ (Bd9 K) [(523007,ar A0u (A0v K))] [] (bd Tryz.f53) 32687 (A14 K):=fun q=>by kernel_rfl
theorem Bg9 (K:Nat):AtJ (Bd9 K) [(32687,ar A13 (A14 K))] [] (bd Tryz.f53) 2042 (A3t K):=fun q=>by kernel_rfl
theorem Bjj (K:Nat):AtJ (Bd9 K) [(2042,ar A3s (A3t K))] [] (bd Tryz.f53) 127 (A55 K):=fun q=>by kernel_rfl
theorem A83 (K:Nat):XF [.cell 4 38] s_25 133 [127,2042,32687,523007,8368127] (Bd9 K):=xkF (gC (Bsb K) (gC (Bsc K) (gC (Bzl K) (gC (Bd8 K) (gC (Bsf K) (gC (Bvm K) (gC (Bse K) gN))))))) oN
theorem A92 (K:Nat):CF [.cell 4 38] s_25 133 [127,2042,32687,523007,8368127] (bd Tryz.f53) [] 8368127 (ar A0a (A0b K)):=
 Aiz (A83 K) (A91 K) kN
theorem Bcn (K:Nat):CF [.cell 4 38] s_25 133 [127,2042,32687,523007,8368127] (bd Tryz.f53) [] 523007 (ar A0u (A0v K)):=
 Aiz (A83 K) (Bcm K) (kC (A92 K) kN)
theorem Beb (K:Nat):CF [.cell 4 38] s_25 133 [127,2042,32687,523007,8368127] (bd Tryz.f53) [] 32687 (ar A13 (A14 K)):=
 Aiz (A83 K) (Bea K) (kC (Bcn K) kN)
theorem Bha (K:Nat):CF [.cell 4 38] s_25 133 [127,2042,32687,523007,8368127] (bd Tryz.f53) [] 2042 (ar A3s (A3t K)):=
 Aiz (A83 K) (Bg9 K) (kC (Beb K) kN)
theorem Bjk (K:Nat):CF [.cell 4 38] s_25 133 [127,2042,32687,523007,8368127] (bd Tryz.f53) [] 127 (ar A54 (A55 K)):=
 Aiz (A83 K) (Bjj K) (kC (Bha K) kN)
theorem Bsg (K:Nat):OkF 53 (Bvv K):=
 Abg (x:=Bd9 K) (L:=[(127,ar A54 (A55 K))]) (c0:=bd Tryz.f53) (A83 K) (by intro a0 a1;show @Eq _ _ _;kernel_rfl) (kC (Bjk K) kN) Tryz.func53 ⟨fun _=>rfl,trivial⟩
def Atj (K:Nat)(a0:Ca):Option (Bool):=(bif (decide (a0.As≥0))then some (decide (a0.Bz≥1))else some false)
def Bzn:Sig:=⟨[.v 34],[.v 4],true⟩
def Bvw (K:Nat):Gu tyU:=⟨Bzn,Atj K⟩
def B4d (K:Nat):=xF Bzn [] [] 11 [5,6] [] [] [] [.tmp 2]
theorem Bsh (K:Nat):OkF 149 (Bvw K):=
 Abg (x:=B4d K) (L:=[]) (c0:=bd Tryz.f149) (xkF gN oN) (by intro a0;show @Eq _ _ _;kernel_rfl) kN Tryz.func149 trivial
def At2 (K:Nat)(a0:List Bg)(a1:Ca):Option (Int):=((Aaa K a1.As 0 (Aqd .i64 (a0.length:Int) 1)).bind fun r1=>(bif r1 then(if(0:Int)≤a1.As∧a1.As<(a0.length:Int)then(bif (((gt a0 a1.As).Ja) != 1)then some (-1)else(if(0:Int)≤a1.As∧a1.As<(a0.length:Int)then(bif (((gt a0 a1.As).Bz) != a1.Bz)then some (-1)else some a1.As)else none))else none)else some (-1)))
def Bzo:Sig:=⟨[.v 29,.v 34],[.v 3],true⟩
def Bvx (K:Nat):Gu tyU:=⟨Bzo,At2 K⟩
def B4e (K:Nat):=xF Bzo [(84,c_7 K)] [] 34 [10,11,12,19,20,21] [] [] [] [.tmp 4]
theorem Bsi (K:Nat):OkF 150 (Bvx K):=
 Abg (x:=B4e K) (L:=[]) (c0:=bd Tryz.f150) (xkF (gC (Azn K) gN) oN) (by intro a0 a1;show @Eq _ _ _;kernel_rfl) kN Tryz.func150 trivial
def Alx (K:Nat)(a0:Es)(a1:Ca):Option (Int×Int):=((Atj K a1).bind fun r1=>(bif (!r1)then some ((-1),1)else((At2 K a0.fL a1).bind fun r2=>(bif (decide (r2<0))then some ((-1),2)else((Aul K a0.fL r2).bind fun r3=>(bif (!r3)then some ((-1),2)else some (r2,0)))))))
def Bzp:Sig:=⟨[.v 32,.v 34],[.v 3,.v 3],true⟩
def Bec (K:Nat):Gu tyU:=⟨Bzp,Alx K⟩
def B4f (K:Nat):=xF Bzp [(149,Bvw K),(150,Bvx K),(151,Bow K)] [] 24 [15,16] [] [] [] [.tmp 4,.tmp 5]
theorem A84 (K:Nat):OkF 85 (Bec K):=
 Abg (x:=B4f K) (L:=[]) (c0:=bd Tryz.f85) (xkF (gC (Bsh K) (gC (Bsi K) (gC (Bje K) gN))) oN) (by intro a0 a1;show @Eq _ _ _;kernel_rfl) kN Tryz.func85 trivial
def Ax3 (K:Nat)(a0:Es)(a1:Ca):Option (Int×Int):=(bif ((a1.As==0)&&((a1.Bz==0)&&true))then some ((-1),0)else((Alx K a0 a1).bind fun r1=>some (r1.1,r1.2)))
def Bzq:Sig:=⟨[.v 32,.v 34],[.v 3,.v 3],true⟩
def Bzr (K:Nat):Gu tyU:=⟨Bzq,Ax3 K⟩
def B4g (K:Nat):=xF Bzq [(85,Bec K)] [] 16 [] [] [] [] [.tmp 4,.tmp 5]
theorem Bzs (K:Nat):OkF 284 (Bzr K):=
 Abg (x:=B4g K) (L:=[]) (c0:=bd Tryz.f284) (xkF (gC (A84 K) gN) oN) (by intro a0 a1;show @Eq _ _ _;kernel_rfl) kN Tryz.func284 trivial
def Au1 (K:Nat)(a0:List Bg)(a1:Int):Option (Int):=((Av1 K a0 a1).bind fun r1=>some (r1.length:Int))
def Bzt:Sig:=⟨[.v 29,.v 3],[.v 3],true⟩
def Bvy (K:Nat):Gu tyU:=⟨Bzt,Au1 K⟩
def B4h (K:Nat):=xF Bzt [(224,Bor K)] [] 9 [] [] [] [] [.tmp 4]
theorem Bsj (K:Nat):OkF 152 (Bvy K):=
 Abg (x:=B4h K) (L:=[]) (c0:=bd Tryz.f152) (xkF (gC (Bi9 K) gN) oN) (by intro a0 a1;show @Eq _ _ _;kernel_rfl) kN Tryz.func152 trivial
def An4 (K:Nat)(a0:Es)(a1:Ca):Option (Int):=((At2 K a0.fL a1).bind fun r1=>((Au1 K a0.fL r1).bind fun r2=>some r2))
def Bzu:Sig:=⟨[.v 32,.v 34],[.v 3],true⟩
def Bco (K:Nat):Gu tyU:=⟨Bzu,An4 K⟩
def B4i (K:Nat):=xF Bzu [(150,Bvx K),(152,Bvy K)] [] 12 [] [] [] [] [.tmp 4]
theorem A56 (K:Nat):OkF 86 (Bco K):=
 Abg (x:=B4i K) (L:=[]) (c0:=bd Tryz.f86) (xkF (gC (Bsi K) (gC (Bsj K) gN)) oN) (by intro a0 a1;show @Eq _ _ _;kernel_rfl) kN Tryz.func86 trivial
def Ak1 (K:Nat)(v2:Int)(v3:Int)(v4:Int)(v5:Int)(v6:Int)(v7:Int)(v8:Int)(v9:List Int)(v10:List Int)(v11:List Int)(v12:List Bg)(v13:List A3)(v14:List Int)(C1:Int->Int->Int->Int->Int->Int->Int->Int->(List Int)->(List Int)->(List Int)->(List Bg)->(List A3)->(List Int)->Option (Int))(v15:Int):Option (Int):=(C1 v15 (Aqc .i64 v2 1) v3 v4 v5 v6 v7 v8 v9 v10 v11 v12 v13 v14)
def Agg (K:Nat):Nat->Int->Int->Int->Int->Int->Int->Int->Int->(List Int)->(List Int)->(List Int)->(List Bg)->(List A3)->(List Int)->Option (Int)
 |0,_,_,_,_,_,_,_,_,_,_,_,_,_,_=>none
 |n1+1,v1,v2,v3,v4,v5,v6,v7,v8,v9,v10,v11,v12,v13,v14=>(bif (decide (v2<(v12.length:Int)))then(if(0:Int)≤v2∧v2<(v12.length:Int)then(bif (((gt v12 v2).Ja)==0)then(Ak1 K v2 v3 v4 v5 v6 v7 v8 v9 v10 v11 v12 v13 v14 (Agg K n1) (Aqc .i64 v1 1))else((Aul K v12 v2).bind fun r16=>(bif r16 then(Ak1 K v2 v3 v4 v5 v6 v7 v8 v9 v10 v11 v12 v13 v14 (Agg K n1) v1)else(if(0:Int)≤v2∧v2<(v12.length:Int)then(bif (((gt v12 v2).Ja) != 3)then(if(0:Int)≤v2∧v2<(v12.length:Int)then(bif (decide (((gt v12 v2).Bz)<v8))then(Ak1 K v2 v3 v4 v5 v6 v7 v8 v9 v10 v11 v12 v13 v14 (Agg K n1) (Aqc .i64 v1 1))else(Ak1 K v2 v3 v4 v5 v6 v7 v8 v9 v10 v11 v12 v13 v14 (Agg K n1) v1))else none)else(Ak1 K v2 v3 v4 v5 v6 v7 v8 v9 v10 v11 v12 v13 v14 (Agg K n1) v1))else none))))else none)else some v1)
def Axt (K:Nat)(a0:Es):Option (Int):=(Agg K K 0 0 a0.fC.Af a0.fC.Ez a0.fC.Db a0.fC.Fv a0.fC.Dc a0.fC.E0 a0.fP.Gl a0.fP.Ja a0.fP.Gm a0.fL a0.fQ a0.Rl)
def s_32:Sig:=⟨[.v 32],[.v 3],true⟩
def Bzv (K:Nat):Gu tyU:=⟨s_32,Axt K⟩
def Bo7 (K:Nat):=xF s_32 [(151,Bow K)] [] 50 [18,19,23,24,25,32,33,34] [] [] [233] [.tmp 2]
def A57:Fs:=⟨[(1,.p 101),(3,.v 2),(4,.v 2)],[(101,.box [.v 2,.v 2,.v 2,.v 2,.v 2,.v 2,.v 22,.v 26,.v 26,.v 29,.v 30,.v 26])]⟩
def Ay8:Fs:=⟨[(1,.p 101),(3,.v 2),(4,.v 2)],[(101,.box [.v 2,.v 2,.v 2,.v 2,.v 2,.v 2,.v 22,.v 26,.v 26,.v 29,.v 30,.v 26])]⟩
def A58 (K:Nat)(C58:CT Ay8 s_32)(q:PT A57):Rt s_32:=Ak1 K q.2.1 q.2.2.1 q.2.2.2.1 q.2.2.2.2.1 q.2.2.2.2.2.1 q.2.2.2.2.2.2.1 q.2.2.2.2.2.2.2.1 q.2.2.2.2.2.2.2.2.1 q.2.2.2.2.2.2.2.2.2.1 q.2.2.2.2.2.2.2.2.2.2.1 q.2.2.2.2.2.2.2.2.2.2.2.1 q.2.2.2.2.2.2.2.2.2.2.2.2.1 q.2.2.2.2.2.2.2.2.2.2.2.2.2.1 (fun v1 v2 v3 v4 v5 v6 v7 v8 v9 v10 v11 v12 v13 v14=>C58 (v1,v2,v3,v4,v5,v6,v7,v8,v9,v10,v11,v12,v13,v14,())) q.1
def A2s (K:Nat)(n:Nat)(q:PT Ay8):Rt s_32:=Agg K n q.1 q.2.1 q.2.2.1 q.2.2.2.1 q.2.2.2.2.1 q.2.2.2.2.2.1 q.2.2.2.2.2.2.1 q.2.2.2.2.2.2.2.1 q.2.2.2.2.2.2.2.2.1 q.2.2.2.2.2.2.2.2.2.1 q.2.2.2.2.2.2.2.2.2.2.1 q.2.2.2.2.2.2.2.2.2.2.2.1 q.2.2.2.2.2.2.2.2.2.2.2.2.1 q.2.2.2.2.2.2.2.2.2.2.2.2.2.1
theorem Bjl (K:Nat)(C58:CT Ay8 s_32):AtJ (Bo7 K) [] [(58,ar Ay8 C58)] (bd Tryz.f285) 233 (A58 K C58):=fun q=>by kernel_rfl
theorem Bo8 (K:Nat):AtL (Bo7 K) (fun n=>[(233,ar A57 (A58 K (A2s K n)))]) [] (bd Tryz.f285) 58 (A2s K):=fun n q=>by kernel_rfl
theorem Bjm (K:Nat):XF [.tmp 2] s_32 50 [233] (Bo7 K):=xkF (gC (Bje K) gN) oN
theorem Bjn (K:Nat)(C58:CT Ay8 s_32):CF [.tmp 2] s_32 50 [233] (bd Tryz.f285) [(58,ar Ay8 C58)] 233 (ar A57 (A58 K C58)):=
 Aiz (Bjm K) (Bjl K C58) kN
theorem Bo9 (K:Nat)(n:Nat):CF [.tmp 2] s_32 50 [233] (bd Tryz.f285) [] 58 (ar Ay8 (A2s K n)):=
 Agc (Bjm K) (Bo8 K) (fun n=>(kC (Bjn K (A2s K n)) kN)) n
theorem Bzw (K:Nat):OkF 285 (Bzv K):=
 Abg (x:=Bo7 K) (L:=[(58,ar Ay8 (A2s K K))]) (c0:=bd Tryz.f285) (Bjm K) (by intro a0;show @Eq _ _ _;kernel_rfl) (kC (Bo9 K K) kN) Tryz.func285 trivial
def Asy (K:Nat)(v2:Int)(v3:List Int)(v4:List Int)(v5:List Int)(C1:(List Int)->Int->(List Int)->(List Int)->(List Int)->Option ((List Int)))(v6:List Int):Option ((List Int)):=(C1 v6 (Aqc .i64 v2 1) v3 v4 v5)
def Akw (K:Nat)(a1:Int):Nat->(List Int)->Int->(List Int)->(List Int)->(List Int)->Option ((List Int))
 |0,_,_,_,_,_=>none
 |n1+1,v1,v2,v3,v4,v5=>(bif (decide (v2<(v4.length:Int)))then(bif (decide (v2<(v5.length:Int)))then(if(0:Int)≤v2∧v2<(v4.length:Int)then(bif ((gt v4 v2)==1)then(if(0:Int)≤v2∧v2<(v5.length:Int)then(bif ((gt v5 v2)==a1)then(if(v1++([v2]:List Int)).length*8≤140737488355328∧(v1++([v2]:List Int)).length≤maxLen then(Asy K v2 v3 v4 v5 (Akw K a1 n1) (v1++([v2]:List Int)))else none)else(Asy K v2 v3 v4 v5 (Akw K a1 n1) v1))else none)else(Asy K v2 v3 v4 v5 (Akw K a1 n1) v1))else none)else some v1)else some v1)
def At3 (K:Nat)(a0:Eb)(a1:Int):Option ((List Int)):=(Akw K a1 K ([]:List Int) 0 a0.Gl a0.Ja a0.Gm)
def s_33:Sig:=⟨[.v 28,.v 3],[.n 26 true],true⟩
def Bvz (K:Nat):Gu tyU:=⟨s_33,At3 K⟩
def Bpa (K:Nat):=xF s_33 [] [] 42 [12,13,27,28] [] [] [233] [.tmp 4]
def A59:Fs:=⟨[(1,.v 2),(2,.p 102),(5,.o 1005 3 true),(6,.v 2)],[(102,.box [.v 22,.v 26,.v 26])]⟩
def Ay9:Fs:=⟨[(1,.v 2),(2,.p 102),(5,.o 1005 3 true),(6,.v 2)],[(102,.box [.v 22,.v 26,.v 26])]⟩
def A6a (K:Nat)(C58:CT Ay9 s_33)(q:PT A59):Rt s_33:=Asy K q.2.2.1 q.2.2.2.1 q.2.2.2.2.1 q.2.2.2.2.2.1 (fun v1 v2 v3 v4 v5=>C58 (q.1,v1,v2,v3,v4,v5,())) q.2.1
def A2t (K:Nat)(n:Nat)(q:PT Ay9):Rt s_33:=Akw K q.1 n q.2.1 q.2.2.1 q.2.2.2.1 q.2.2.2.2.1 q.2.2.2.2.2.1
theorem Bjo (K:Nat)(C58:CT Ay9 s_33):AtJ (Bpa K) [] [(58,ar Ay9 C58)] (bd Tryz.f217) 233 (A6a K C58):=fun q=>by kernel_rfl
theorem Bpb (K:Nat):AtL (Bpa K) (fun n=>[(233,ar A59 (A6a K (A2t K n)))]) [] (bd Tryz.f217) 58 (A2t K):=fun n q=>by kernel_rfl
theorem Bjp (K:Nat):XF [.tmp 4] s_33 42 [233] (Bpa K):=xkF gN oN
theorem Bjq (K:Nat)(C58:CT Ay9 s_33):CF [.tmp 4] s_33 42 [233] (bd Tryz.f217) [(58,ar Ay9 C58)] 233 (ar A59 (A6a K C58)):=
 Aiz (Bjp K) (Bjo K C58) kN
theorem Bpc (K:Nat)(n:Nat):CF [.tmp 4] s_33 42 [233] (bd Tryz.f217) [] 58 (ar Ay9 (A2t K n)):=
 Agc (Bjp K) (Bpb K) (fun n=>(kC (Bjq K (A2t K n)) kN)) n
theorem Bsk (K:Nat):OkF 217 (Bvz K):=
 Abg (x:=Bpa K) (L:=[(58,ar Ay9 (A2t K K))]) (c0:=bd Tryz.f217) (Bjp K) (by intro a0 a1;show @Eq _ _ _;kernel_rfl) (kC (Bpc K K) kN) Tryz.func217 trivial
def Ap5 (K:Nat)(r1:(List Int)):Nat->Int->Int->Int->Int->Int->Int->Int->Int->(List Int)->(List Int)->(List Int)->(List Bg)->(List A3)->(List Int)->Option (Int)
 |0,_,_,_,_,_,_,_,_,_,_,_,_,_,_=>none
 |n1+1,v2,v3,v4,v5,v6,v7,v8,v9,v10,v11,v12,v13,v14,v15=>(bif (decide (v3<(r1.length:Int)))then(if(0:Int)≤v3∧v3<(r1.length:Int)then((At3 K (Eb.mk v10 v11 v12) (gt r1 v3)).bind fun r16=>(Ap5 K r1 n1 (Aqc .i64 v2 (r16.length:Int)) (Aqc .i64 v3 1) v4 v5 v6 v7 v8 v9 v10 v11 v12 v13 v14 v15))else none)else some v2)
def Axu (K:Nat)(a0:Es):Option (Int):=((Awf K a0).bind fun r1=>(Ap5 K r1 K 0 0 a0.fC.Af a0.fC.Ez a0.fC.Db a0.fC.Fv a0.fC.Dc a0.fC.E0 a0.fP.Gl a0.fP.Ja a0.fP.Gm a0.fL a0.fQ a0.Rl))
def s_34:Sig:=⟨[.v 32],[.v 3],true⟩
def Bzx (K:Nat):Gu tyU:=⟨s_34,Axu K⟩
def Bv0 (K:Nat):=xF s_34 [(115,Bvq K),(217,Bvz K)] [] 25 [] [] [] [] [.tmp 2]
def A6b:Fs:=⟨[(1,.p 101),(3,.v 2),(4,.v 26),(5,.v 2)],[(101,.box [.v 2,.v 2,.v 2,.v 2,.v 2,.v 2,.v 22,.v 26,.v 26,.v 29,.v 30,.v 26])]⟩
def A6c (K:Nat)(n:Nat)(q:PT A6b):Rt s_34:=Ap5 K q.2.1 n q.1 q.2.2.1 q.2.2.2.1 q.2.2.2.2.1 q.2.2.2.2.2.1 q.2.2.2.2.2.2.1 q.2.2.2.2.2.2.2.1 q.2.2.2.2.2.2.2.2.1 q.2.2.2.2.2.2.2.2.2.1 q.2.2.2.2.2.2.2.2.2.2.1 q.2.2.2.2.2.2.2.2.2.2.2.1 q.2.2.2.2.2.2.2.2.2.2.2.2.1 q.2.2.2.2.2.2.2.2.2.2.2.2.2.1 q.2.2.2.2.2.2.2.2.2.2.2.2.2.2.1
theorem Bjr (K:Nat):AtL (Bv0 K) (fun n=>[]) [] (bd Tryz.f314) 122 (A6c K):=fun n q=>by kernel_rfl
theorem Bsl (K:Nat):XF [.tmp 2] s_34 25 [] (Bv0 K):=xkF (gC (Bsb K) (gC (Bsk K) gN)) oN
theorem Bjs (K:Nat)(n:Nat):CF [.tmp 2] s_34 25 [] (bd Tryz.f314) [] 122 (ar A6b (A6c K n)):=
 Agc (Bsl K) (Bjr K) (fun n=>kN) n
theorem Bzy (K:Nat):OkF 314 (Bzx K):=
 Abg (x:=Bv0 K) (L:=[(122,ar A6b (A6c K K))]) (c0:=bd Tryz.f314) (Bsl K) (by intro a0;show @Eq _ _ _;kernel_rfl) (kC (Bjs K K) kN) Tryz.func314 trivial
def Ar7 (K:Nat)(a0:Es)(a1:Int):Option (Bool):=(bif (decide (a1≥0))then(bif (decide (a1≤a0.fC.Af))then((Axu K a0).bind fun r1=>some (decide (r1≤(Aqd .i64 a0.fC.Af a1))))else some false)else some false)
def Bzz:Sig:=⟨[.v 32,.v 3],[.v 4],true⟩
def Bpd (K:Nat):Gu tyU:=⟨Bzz,Ar7 K⟩
def B4j (K:Nat):=xF Bzz [(314,Bzx K)] [] 24 [6,7,12,13,14] [] [] [] [.tmp 4]
theorem Bjt (K:Nat):OkF 286 (Bpd K):=
 Abg (x:=B4j K) (L:=[]) (c0:=bd Tryz.f286) (xkF (gC (Bzy K) gN) oN) (by intro a0 a1;show @Eq _ _ _;kernel_rfl) kN Tryz.func286 trivial
def Asp (K:Nat)(v2:Int)(C1:Int->Int->Option (Int))(v3:Int):Option (Int):=(C1 v3 (Aqc .i64 v2 1))
def Ag5 (K:Nat)(a0:List Bg)(a1:Int):Nat->Int->Int->Option (Int)
 |0,_,_=>none
 |n1+1,v1,v2=>(bif (decide (v2<(a0.length:Int)))then(if(0:Int)≤v2∧v2<(a0.length:Int)then(bif (((gt a0 v2).Ja)==a1)then(Asp K v2 (Ag5 K a0 a1 n1) (Aqc .i64 v1 1))else(Asp K v2 (Ag5 K a0 a1 n1) v1))else none)else some v1)
def Ap6 (K:Nat)(a0:List Bg)(a1:Int):Option (Int):=(Ag5 K a0 a1 K 0 0)
def s_36:Sig:=⟨[.v 29,.v 3],[.v 3],true⟩
def Bv1 (K:Nat):Gu tyU:=⟨s_36,Ap6 K⟩
def Bpe (K:Nat):=xF s_36 [] [] 23 [] [] [] [233] [.tmp 4]
def A6d:Fs:=⟨[(0,.v 29),(1,.v 2),(5,.v 2),(6,.v 2)],[]⟩
def Aza:Fs:=⟨[(0,.v 29),(1,.v 2),(5,.v 2),(6,.v 2)],[]⟩
def A6e (K:Nat)(C58:CT Aza s_36)(q:PT A6d):Rt s_36:=Asp K q.2.2.2.1 (fun v1 v2=>C58 (q.1,q.2.1,v1,v2,())) q.2.2.1
def A2u (K:Nat)(n:Nat)(q:PT Aza):Rt s_36:=Ag5 K q.1 q.2.1 n q.2.2.1 q.2.2.2.1
theorem Bju (K:Nat)(C58:CT Aza s_36):AtJ (Bpe K) [] [(58,ar Aza C58)] (bd Tryz.f223) 233 (A6e K C58):=fun q=>by kernel_rfl
theorem Bpf (K:Nat):AtL (Bpe K) (fun n=>[(233,ar A6d (A6e K (A2u K n)))]) [] (bd Tryz.f223) 58 (A2u K):=fun n q=>by kernel_rfl
theorem Bjv (K:Nat):XF [.tmp 4] s_36 23 [233] (Bpe K):=xkF gN oN
theorem Bjw (K:Nat)(C58:CT Aza s_36):CF [.tmp 4] s_36 23 [233] (bd Tryz.f223) [(58,ar Aza C58)] 233 (ar A6d (A6e K C58)):=
 Aiz (Bjv K) (Bju K C58) kN
theorem Bpg (K:Nat)(n:Nat):CF [.tmp 4] s_36 23 [233] (bd Tryz.f223) [] 58 (ar Aza (A2u K n)):=
 Agc (Bjv K) (Bpf K) (fun n=>(kC (Bjw K (A2u K n)) kN)) n
theorem Bsm (K:Nat):OkF 223 (Bv1 K):=
 Abg (x:=Bpe K) (L:=[(58,ar Aza (A2u K K))]) (c0:=bd Tryz.f223) (Bjv K) (by intro a0 a1;show @Eq _ _ _;kernel_rfl) (kC (Bpg K K) kN) Tryz.func223 trivial
def Ar8 (K:Nat)(a1:Int)(a2:Int):Nat->Int->(List Int)->(List Int)->(List Int)->Option (Bool)
 |0,_,_,_,_=>none
 |n1+1,v1,v2,v3,v4=>(bif (decide (v1<(Aqc .i64 a1 a2)))then(if(0:Int)≤v1∧v1<(v3.length:Int)then(bif ((gt v3 v1) != 0)then some false else(Ar8 K a1 a2 n1 (Aqc .i64 v1 1) v2 v3 v4))else none)else some true)
def Au2 (K:Nat)(a0:Eb)(a1:Int)(a2:Int):Option (Bool):=(bif (decide (a1<0))then some false else(bif (decide (a2<1))then some false else(bif (decide (a1>(a0.Ja.length:Int)))then some false else(bif (decide (a2>(Aqd .i64 (a0.Ja.length:Int) a1)))then some false else(Ar8 K a1 a2 K a1 a0.Gl a0.Ja a0.Gm)))))
def s_37:Sig:=⟨[.v 28,.v 3,.v 3],[.v 4],true⟩
def Bv2 (K:Nat):Gu tyU:=⟨s_37,Au2 K⟩
def Bv3 (K:Nat):=xF s_37 [] [] 44 [9,10,12,13,14,19,20,21] [] [] [] [.tmp 6]
def A93:Fs:=⟨[(1,.v 2),(2,.v 2),(3,.p 103),(7,.v 2)],[(103,.box [.v 22,.v 26,.v 26])]⟩
def A94 (K:Nat)(n:Nat)(q:PT A93):Rt s_37:=Ar8 K q.1 q.2.1 n q.2.2.1 q.2.2.2.1 q.2.2.2.2.1 q.2.2.2.2.2.1
theorem Bph (K:Nat):AtL (Bv3 K) (fun n=>[]) [] (bd Tryz.f316) 58 (A94 K):=fun n q=>by kernel_rfl
theorem Bsn (K:Nat):XF [.tmp 6] s_37 44 [] (Bv3 K):=xkF gN oN
theorem Bpi (K:Nat)(n:Nat):CF [.tmp 6] s_37 44 [] (bd Tryz.f316) [] 58 (ar A93 (A94 K n)):=
 Agc (Bsn K) (Bph K) (fun n=>kN) n
theorem Bso (K:Nat):OkF 316 (Bv2 K):=
 Abg (x:=Bv3 K) (L:=[(58,ar A93 (A94 K K))]) (c0:=bd Tryz.f316) (Bsn K) (by intro a0 a1 a2;show @Eq _ _ _;kernel_rfl) (kC (Bpi K K) kN) Tryz.func316 trivial
def Ase (K:Nat)(a1:Int):Nat->Int->(List Int)->(List Int)->(List Int)->Option (Int)
 |0,_,_,_,_=>none
 |n1+1,v1,v2,v3,v4=>(bif (decide (v1<(v3.length:Int)))then((Au2 K (Eb.mk v2 v3 v4) v1 a1).bind fun r5=>(bif r5 then some v1 else(Ase K a1 n1 (Aqc .i64 v1 1) v2 v3 v4)))else some (-1))
def Ave (K:Nat)(a0:Eb)(a1:Int):Option (Int):=(Ase K a1 K 0 a0.Gl a0.Ja a0.Gm)
def s_38:Sig:=⟨[.v 28,.v 3],[.v 3],true⟩
def Bv4 (K:Nat):Gu tyU:=⟨s_38,Ave K⟩
def Bv5 (K:Nat):=xF s_38 [(316,Bv2 K)] [] 18 [] [] [] [] [.tmp 4]
def A95:Fs:=⟨[(1,.v 2),(2,.p 102),(5,.v 2)],[(102,.box [.v 22,.v 26,.v 26])]⟩
def A96 (K:Nat)(n:Nat)(q:PT A95):Rt s_38:=Ase K q.1 n q.2.1 q.2.2.1 q.2.2.2.1 q.2.2.2.2.1
theorem Bpj (K:Nat):AtL (Bv5 K) (fun n=>[]) [] (bd Tryz.f315) 26 (A96 K):=fun n q=>by kernel_rfl
theorem Bsp (K:Nat):XF [.tmp 4] s_38 18 [] (Bv5 K):=xkF (gC (Bso K) gN) oN
theorem Bpk (K:Nat)(n:Nat):CF [.tmp 4] s_38 18 [] (bd Tryz.f315) [] 26 (ar A95 (A96 K n)):=
 Agc (Bsp K) (Bpj K) (fun n=>kN) n
theorem Bsq (K:Nat):OkF 315 (Bv4 K):=
 Abg (x:=Bv5 K) (L:=[(26,ar A95 (A96 K K))]) (c0:=bd Tryz.f315) (Bsp K) (by intro a0 a1;show @Eq _ _ _;kernel_rfl) (kC (Bpk K K) kN) Tryz.func315 trivial
def Azo (K:Nat)(a0:A3):Option (Int):=(bif (decide ((a0.Dt.length:Int)>0))then some 1 else(bif (decide ((a0.Af.length:Int)>0))then some 2 else(bif (a0.B5 != 0)then some 3 else some 4)))
def Bz0:Sig:=⟨[.v 159],[.v 3],true⟩
def Bz1 (K:Nat):Gu tyU:=⟨Bz0,Azo K⟩
def B4k (K:Nat):=xF Bz0 [] [] 17 [] [] [] [] [.tmp 2]
theorem Bz2 (K:Nat):OkF 247 (Bz1 K):=
 Abg (x:=B4k K) (L:=[]) (c0:=bd Tryz.f247) (xkF gN oN) (by intro a0;show @Eq _ _ _;kernel_rfl) kN Tryz.func247 trivial
def Axe (K:Nat)(a0:Es):Option (Es):=(if(0:Int)≤0∧0<(a0.fQ.length:Int)then(if(0:Int)≤(Aqd .i64 (((gt a0.fQ 0).Dt).length:Int) 1)∧(Aqd .i64 (((gt a0.fQ 0).Dt).length:Int) 1)<(((gt a0.fQ 0).Dt).length:Int)then(if(a0.Rl++([(gt ((gt a0.fQ 0).Dt) (Aqd .i64 (((gt a0.fQ 0).Dt).length:Int) 1))]:List Int)).length*8≤140737488355328∧(a0.Rl++([(gt ((gt a0.fQ 0).Dt) (Aqd .i64 (((gt a0.fQ 0).Dt).length:Int) 1))]:List Int)).length≤maxLen then(if(0:Int)≤0∧0≤(Aqd .i64 (((gt a0.fQ 0).Dt).length:Int) 1)∧(Aqd .i64 (((gt a0.fQ 0).Dt).length:Int) 1)≤(((gt a0.fQ 0).Dt).length:Int)then(if(([]:List Int)++((((gt a0.fQ 0).Dt).drop (0:Int).toNat).take ((Aqd .i64 (((gt a0.fQ 0).Dt).length:Int) 1) - 0).toNat)).length*8≤140737488355328∧(([]:List Int)++((((gt a0.fQ 0).Dt).drop (0:Int).toNat).take ((Aqd .i64 (((gt a0.fQ 0).Dt).length:Int) 1) - 0).toNat)).length≤maxLen then some (Es.mk a0.fC a0.fP a0.fL (a0.fQ.set (0:Int).toNat (A3.mk ((gt a0.fQ 0).As) ((gt a0.fQ 0).B5) (([]:List Int)++((((gt a0.fQ 0).Dt).drop (0:Int).toNat).take ((Aqd .i64 (((gt a0.fQ 0).Dt).length:Int) 1) - 0).toNat)) ((gt a0.fQ 0).Af) ((gt a0.fQ 0).Hj))) (a0.Rl++([(gt ((gt a0.fQ 0).Dt) (Aqd .i64 (((gt a0.fQ 0).Dt).length:Int) 1))]:List Int)))else none)else none)else none)else none)else none)
def Bz3:Sig:=⟨[.b 32 false],[],false⟩
def Bz4 (K:Nat):Gu tyU:=⟨Bz3,Axe K⟩
def B4l (K:Nat):=xF Bz3 [] [] 42 [] [(0,[.take 1 10 5026]),(2,[.take 1 11 5027])] [] [] []
theorem Bz5 (K:Nat):OkF 248 (Bz4 K):=
 Abg (x:=B4l K) (L:=[]) (c0:=bd Tryz.f248) (xkF gN oN) (by intro a0;show @Eq _ _ _;kernel_rfl) kN Tryz.func248 trivial
def Arg (K:Nat)(a0:Eb):Option (Eb):=(if(([]:List Int)++a0.Gl).length*1≤140737488355328∧(([]:List Int)++a0.Gl).length≤maxLen then(if(([]:List Int)++a0.Ja).length*8≤140737488355328∧(([]:List Int)++a0.Ja).length≤maxLen then(if(([]:List Int)++a0.Gm).length*8≤140737488355328∧(([]:List Int)++a0.Gm).length≤maxLen then some (Eb.mk (([]:List Int)++a0.Gl) (([]:List Int)++a0.Ja) (([]:List Int)++a0.Gm))else none)else none)else none)
def Bz6:Sig:=⟨[.v 28],[.n 28 true],true⟩
def Bjx (K:Nat):Gu tyU:=⟨Bz6,Arg K⟩
def B4m (K:Nat):=xF Bz6 [] [] 16 [] [] [] [] [.cell 2 28]
theorem Bf0 (K:Nat):OkF 137 (Bjx K):=
 Abg (x:=B4m K) (L:=[]) (c0:=bd Tryz.f137) (xkF gN oN) (by intro a0;show @Eq _ _ _;kernel_rfl) kN Tryz.func137 trivial
def Ar9 (K:Nat)(a0:List Int):Nat->Int->Option (Bool)
 |0,_=>none
 |n1+1,v1=>(bif (decide (v1<(a0.length:Int)))then(if(0:Int)≤v1∧v1<(a0.length:Int)then(bif ((gt a0 v1) != 0)then some false else(Ar9 K a0 n1 (Aqc .i64 v1 1)))else none)else some true)
def Asl (K:Nat)(a0:List Int):Option (Bool):=(Ar9 K a0 K 0)
def s_42:Sig:=⟨[.v 22],[.v 4],true⟩
def Bjy (K:Nat):Gu tyU:=⟨s_42,Asl K⟩
def Bv6 (K:Nat):=xF s_42 [] [] 15 [] [] [] [] [.tmp 2]
def A97:Fs:=⟨[(0,.v 22),(3,.v 2)],[]⟩
def A98 (K:Nat)(n:Nat)(q:PT A97):Rt s_42:=Ar9 K q.1 n q.2.1
theorem Bpl (K:Nat):AtL (Bv6 K) (fun n=>[]) [] (bd Tryz.f212) 26 (A98 K):=fun n q=>by kernel_rfl
theorem Bsr (K:Nat):XF [.tmp 2] s_42 15 [] (Bv6 K):=xkF gN oN
theorem Bpm (K:Nat)(n:Nat):CF [.tmp 2] s_42 15 [] (bd Tryz.f212) [] 26 (ar A97 (A98 K n)):=
 Agc (Bsr K) (Bpl K) (fun n=>kN) n
theorem Bf1 (K:Nat):OkF 212 (Bjy K):=
 Abg (x:=Bv6 K) (L:=[(26,ar A97 (A98 K K))]) (c0:=bd Tryz.f212) (Bsr K) (by intro a0;show @Eq _ _ _;kernel_rfl) (kC (Bpm K K) kN) Tryz.func212 trivial
def Avf (K:Nat)(v3:Int)(v4:List Int)(v5:List Int)(v6:List Int)(C1:Int->(List Int)->(List Int)->(List Int)->Option (Bool)):Option (Bool):=(C1 (Aqc .i64 v3 1) v4 v5 v6)
def Asa (K:Nat)(a0:Fa)(v3:Int)(v4:List Int)(v5:List Int)(v6:List Int)(C1:Int->(List Int)->(List Int)->(List Int)->Option (Bool)):Option (Bool):=(if(0:Int)≤v3∧v3<(v5.length:Int)then(bif ((gt v5 v3)==0)then(if(0:Int)≤(Aqe .i64 v3 a0.Ez)∧(Aqe .i64 v3 a0.Ez)≤(Aqe .i64 (Aqc .i64 v3 1) a0.Ez)∧(Aqe .i64 (Aqc .i64 v3 1) a0.Ez)≤(v4.length:Int)then((Asl K ((v4.drop (Aqe .i64 v3 a0.Ez).toNat).take ((Aqe .i64 (Aqc .i64 v3 1) a0.Ez) - (Aqe .i64 v3 a0.Ez)).toNat)).bind fun r9=>(bif (!r9)then some false else(Avf K v3 v4 v5 v6 (C1))))else none)else(Avf K v3 v4 v5 v6 (C1)))else none)
def Ako (K:Nat)(a0:Fa):Nat->Int->(List Int)->(List Int)->(List Int)->Option (Bool)
 |0,_,_,_,_=>none
 |n1+1,v3,v4,v5,v6=>(bif (decide (v3<a0.Af))then(if(0:Int)≤v3∧v3<(v5.length:Int)then((Aaa K (gt v5 v3) 0 2).bind fun r7=>(bif (!r7)then some false else(if(0:Int)≤v3∧v3<(v5.length:Int)then(bif ((gt v5 v3)==1)then(if(0:Int)≤v3∧v3<(v6.length:Int)then((Aaa K (gt v6 v3) 0 (Aqd .i64 a0.Db 1)).bind fun r8=>(bif r8 then(if(0:Int)≤v3∧v3<(v5.length:Int)then(bif ((gt v5 v3) != 1)then(if(0:Int)≤v3∧v3<(v6.length:Int)then(bif ((gt v6 v3) != (-1))then some false else(Asa K a0 v3 v4 v5 v6 (Ako K a0 n1)))else none)else(Asa K a0 v3 v4 v5 v6 (Ako K a0 n1)))else none)else some false))else none)else(if(0:Int)≤v3∧v3<(v5.length:Int)then(bif ((gt v5 v3) != 1)then(if(0:Int)≤v3∧v3<(v6.length:Int)then(bif ((gt v6 v3) != (-1))then some false else(Asa K a0 v3 v4 v5 v6 (Ako K a0 n1)))else none)else(Asa K a0 v3 v4 v5 v6 (Ako K a0 n1)))else none))else none)))else none)else some true)
def Au3 (K:Nat)(a0:Fa)(a1:Eb):Option (Bool):=((Ak9 K a0).bind fun r1=>(bif r1 then((Arn K a0).bind fun r2=>(bif ((a1.Gl.length:Int) != r2)then some false else(bif ((a1.Ja.length:Int) != a0.Af)then some false else(bif ((a1.Gm.length:Int) != a0.Af)then some false else(Ako K a0 K 0 a1.Gl a1.Ja a1.Gm)))))else some false))
def s_43:Sig:=⟨[.v 25,.v 28],[.v 4],true⟩
def Bv7 (K:Nat):Gu tyU:=⟨s_43,Au3 K⟩
def Bjz (K:Nat):=xF s_43 [(84,c_7 K),(210,c_8 K),(211,c_9 K),(212,Bjy K)] [] 102 [7,8,9,15,16,17,23,24,25,51,52,61,62,63,64,70,71,85,86] [] [] [233,1865] [.tmp 4]
def A6f:Fs:=⟨[(2,.p 102),(3,.p 103),(5,.v 2)],[(103,.box [.v 22,.v 26,.v 26]),(102,.st 25 true)]⟩
def A3u:Fs:=⟨[(2,.p 102),(3,.p 103),(5,.v 2)],[(103,.box [.v 22,.v 26,.v 26]),(102,.st 25 true)]⟩
def Aum:Fs:=⟨[(2,.p 102),(3,.p 103),(5,.v 2)],[(103,.box [.v 22,.v 26,.v 26]),(102,.st 25 true)]⟩
def A6g (K:Nat)(C58:CT Aum s_43)(q:PT A6f):Rt s_43:=Avf K q.1 q.2.1 q.2.2.1 q.2.2.2.1 (fun v3 v4 v5 v6=>C58 (v3,v4,v5,v6,q.2.2.2.2.1,()))
def A3v (K:Nat)(C58:CT Aum s_43)(q:PT A3u):Rt s_43:=Asa K q.2.2.2.2.1 q.1 q.2.1 q.2.2.1 q.2.2.2.1 (fun v3 v4 v5 v6=>C58 (v3,v4,v5,v6,q.2.2.2.2.1,()))
def A2v (K:Nat)(n:Nat)(q:PT Aum):Rt s_43:=Ako K q.2.2.2.2.1 n q.1 q.2.1 q.2.2.1 q.2.2.2.1
theorem Bj0 (K:Nat)(C58:CT Aum s_43):AtJ (Bjz K) [] [(58,ar Aum C58)] (bd Tryz.f140) 233 (A6g K C58):=fun q=>by kernel_rfl
theorem Bhb (K:Nat)(C58:CT Aum s_43):AtJ (Bjz K) [(233,ar A6f (A6g K C58))] [(58,ar Aum C58)] (bd Tryz.f140) 1865 (A3v K C58):=fun q=>by kernel_rfl
theorem Bpn (K:Nat):AtL (Bjz K) (fun n=>[(1865,ar A3u (A3v K (A2v K n)))]) [] (bd Tryz.f140) 58 (A2v K):=fun n q=>by kernel_rfl
theorem Bf2 (K:Nat):XF [.tmp 4] s_43 102 [233,1865] (Bjz K):=xkF (gC (Azn K) (gC (Bcl K) (gC (Bon K) (gC (Bf1 K) gN)))) oN
theorem Bj1 (K:Nat)(C58:CT Aum s_43):CF [.tmp 4] s_43 102 [233,1865] (bd Tryz.f140) [(58,ar Aum C58)] 233 (ar A6f (A6g K C58)):=
 Aiz (Bf2 K) (Bj0 K C58) kN
theorem Bhc (K:Nat)(C58:CT Aum s_43):CF [.tmp 4] s_43 102 [233,1865] (bd Tryz.f140) [(58,ar Aum C58)] 1865 (ar A3u (A3v K C58)):=
 Aiz (Bf2 K) (Bhb K C58) (kC (Bj1 K C58) kN)
theorem Bpo (K:Nat)(n:Nat):CF [.tmp 4] s_43 102 [233,1865] (bd Tryz.f140) [] 58 (ar Aum (A2v K n)):=
 Agc (Bf2 K) (Bpn K) (fun n=>(kC (Bhc K (A2v K n)) kN)) n
theorem Bss (K:Nat):OkF 140 (Bv7 K):=
 Abg (x:=Bjz K) (L:=[(58,ar Aum (A2v K K))]) (c0:=bd Tryz.f140) (Bf2 K) (by intro a0 a1;show @Eq _ _ _;kernel_rfl) (kC (Bpo K K) kN) Tryz.func140 trivial
def Ax4 (K:Nat)(a0:Int)(a1:Int):Option (Int):=(bif (decide (a1<a0))then some a1 else some a0)
def Bz7:Sig:=⟨[.v 3,.v 3],[.v 3],true⟩
def Bz8 (K:Nat):Gu tyU:=⟨Bz7,Ax4 K⟩
def B4n (K:Nat):=xF Bz7 [] [] 10 [] [] [] [] [.tmp 4]
theorem Bz9 (K:Nat):OkF 310 (Bz8 K):=
 Abg (x:=B4n K) (L:=[]) (c0:=bd Tryz.f310) (xkF gN oN) (by intro a0 a1;show @Eq _ _ _;kernel_rfl) kN Tryz.func310 trivial
def Au4 (K:Nat)(a0:List Int)(a1:Int)(a2:Int):Nat->(List Int)->Int->Option ((List Int))
 |0,_,_=>none
 |n1+1,v1,v2=>(bif (decide (v2<(a0.length:Int)))then(bif (decide ((Aqd .i64 v2 a1)<a2))then(if(0:Int)≤v2∧v2<(v1.length:Int)then(Au4 K a0 a1 a2 n1 (v1.set v2.toNat 0) (Aqc .i64 v2 1))else none)else some v1)else some v1)
def Azb (K:Nat)(a0:List Int)(a1:Int)(a2:Int):Option ((List Int)):=(if(([]:List Int)++a0).length*1≤140737488355328∧(([]:List Int)++a0).length≤maxLen then(bif (decide (a1<0))then some (([]:List Int)++a0)else(bif (decide (a2<0))then some (([]:List Int)++a0)else(Au4 K a0 a1 a2 K (([]:List Int)++a0) a1)))else none)
def s_45:Sig:=⟨[.v 22,.v 3,.v 3],[.n 22 true],true⟩
def B0a (K:Nat):Gu tyU:=⟨s_45,Azb K⟩
def Bv8 (K:Nat):=xF s_45 [] [] 37 [13,14,23,24] [] [] [] [.tmp 6]
def A6h:Fs:=⟨[(0,.v 22),(1,.v 2),(2,.v 2),(7,.o 1007 5 true),(8,.v 2)],[]⟩
def A6i (K:Nat)(n:Nat)(q:PT A6h):Rt s_45:=Au4 K q.1 q.2.1 q.2.2.1 n q.2.2.2.1 q.2.2.2.2.1
theorem Bj2 (K:Nat):AtL (Bv8 K) (fun n=>[]) [] (bd Tryz.f311) 122 (A6i K):=fun n q=>by kernel_rfl
theorem Bst (K:Nat):XF [.tmp 6] s_45 37 [] (Bv8 K):=xkF gN oN
theorem Bj3 (K:Nat)(n:Nat):CF [.tmp 6] s_45 37 [] (bd Tryz.f311) [] 122 (ar A6h (A6i K n)):=
 Agc (Bst K) (Bj2 K) (fun n=>kN) n
theorem B0b (K:Nat):OkF 311 (B0a K):=
 Abg (x:=Bv8 K) (L:=[(122,ar A6h (A6i K K))]) (c0:=bd Tryz.f311) (Bst K) (by intro a0 a1 a2;show @Eq _ _ _;kernel_rfl) (kC (Bj3 K K) kN) Tryz.func311 trivial
def Avg (K:Nat)(a0:Fa)(a1:Eb)(a2:Int)(a3:Int):Option (Eb×Bool):=((Arg K a1).bind fun r1=>((Au3 K a0 a1).bind fun r2=>(bif r2 then((Aaa K a2 0 (Aqd .i64 a0.Af 1)).bind fun r3=>(bif r3 then(if(0:Int)≤a2∧a2<(a1.Ja.length:Int)then(bif ((gt a1.Ja a2) != 2)then some (r1,false)else((Aaa K a3 0 (Aqd .i64 a0.Ez 1)).bind fun r4=>(bif (!r4)then some (r1,false)else((Ax4 K (Aqc .i64 a3 a0.Dc) a0.Ez).bind fun r5=>((Azb K a1.Gl (Aqc .i64 (Aqe .i64 a2 a0.Ez) a3) (Aqd .i64 r5 a3)).bind fun r6=>(bif (decide (r5<a0.Ez))then some ((Eb.mk r6 r1.Ja r1.Gm),false)else(if(0:Int)≤(Aqe .i64 a2 a0.Ez)∧(Aqe .i64 a2 a0.Ez)≤(Aqe .i64 (Aqc .i64 a2 1) a0.Ez)∧(Aqe .i64 (Aqc .i64 a2 1) a0.Ez)≤(r6.length:Int)then((Asl K ((r6.drop (Aqe .i64 a2 a0.Ez).toNat).take ((Aqe .i64 (Aqc .i64 a2 1) a0.Ez) - (Aqe .i64 a2 a0.Ez)).toNat)).bind fun r7=>(bif (!r7)then((Arg K a1).bind fun r8=>some (r8,false))else(if(0:Int)≤a2∧a2<(r1.Ja.length:Int)then some ((Eb.mk r6 (r1.Ja.set a2.toNat 0) r1.Gm),true)else none)))else none)))))))else none)else some (r1,false)))else some (r1,false))))
def B0c:Sig:=⟨[.v 25,.v 28,.v 3,.v 3],[.n 28 true,.v 4],true⟩
def B0d (K:Nat):Gu tyU:=⟨B0c,Avg K⟩
def B4o (K:Nat):=xF B0c [(84,c_7 K),(137,Bjx K),(140,Bv7 K),(212,Bjy K),(310,Bz8 K),(311,B0a K)] [] 89 [16,17,18,23,24,25,26,32,33,34] [] [] [] [.cell 8 28,.tmp 9]
theorem B0e (K:Nat):OkF 275 (B0d K):=
 Abg (x:=B4o K) (L:=[]) (c0:=bd Tryz.f275) (xkF (gC (Azn K) (gC (Bf0 K) (gC (Bss K) (gC (Bf1 K) (gC (Bz9 K) (gC (B0b K) gN)))))) oN) (by intro a0 a1 a2 a3;show @Eq _ _ _;kernel_rfl) kN Tryz.func275 trivial
def Awh (K:Nat)(a0:Es):Option (Es):=(if(0:Int)≤0∧0<(a0.fQ.length:Int)then(if(0:Int)≤0∧0<(((gt a0.fQ 0).Af).length:Int)then((Avg K a0.fC a0.fP (gt ((gt a0.fQ 0).Af) 0) ((gt a0.fQ 0).Hj)).bind fun r1=>(bif r1.2 then(if(0:Int)≤1∧1≤(((gt a0.fQ 0).Af).length:Int)∧(((gt a0.fQ 0).Af).length:Int)≤(((gt a0.fQ 0).Af).length:Int)then(if(([]:List Int)++((((gt a0.fQ 0).Af).drop (1:Int).toNat).take ((((gt a0.fQ 0).Af).length:Int) - 1).toNat)).length*8≤140737488355328∧(([]:List Int)++((((gt a0.fQ 0).Af).drop (1:Int).toNat).take ((((gt a0.fQ 0).Af).length:Int) - 1).toNat)).length≤maxLen then some (Es.mk a0.fC r1.1 a0.fL (a0.fQ.set (0:Int).toNat (A3.mk ((gt a0.fQ 0).As) ((gt a0.fQ 0).B5) ((gt a0.fQ 0).Dt) (([]:List Int)++((((gt a0.fQ 0).Af).drop (1:Int).toNat).take ((((gt a0.fQ 0).Af).length:Int) - 1).toNat)) 0)) a0.Rl)else none)else none)else some (Es.mk a0.fC r1.1 a0.fL (a0.fQ.set (0:Int).toNat (A3.mk ((gt a0.fQ 0).As) ((gt a0.fQ 0).B5) ((gt a0.fQ 0).Dt) ((gt a0.fQ 0).Af) (Aqc .i64 ((gt a0.fQ 0).Hj) a0.fC.Dc))) a0.Rl)))else none)else none)
def B0f:Sig:=⟨[.b 32 false],[],false⟩
def B0g (K:Nat):Gu tyU:=⟨B0f,Awh K⟩
def B4p (K:Nat):=xF B0f [(275,B0d K)] [] 63 [] [(0,[.take 1 10 5026]),(1,[.take 1 6 5022,.take 1 7 5023,.take 1 8 5024])] [] [] []
theorem B0h (K:Nat):OkF 249 (B0g K):=
 Abg (x:=B4p K) (L:=[]) (c0:=bd Tryz.f249) (xkF (gC (B0e K) gN) oN) (by intro a0;show @Eq _ _ _;kernel_rfl) kN Tryz.func249 trivial
def Alb (K:Nat)(a0:Bg):Option (Bg):=(if(([]:List Int)++a0.Af).length*8≤140737488355328∧(([]:List Int)++a0.Af).length≤maxLen then(if(([]:List Bf)++a0.Er).length*24≤140737488355328∧(([]:List Bf)++a0.Er).length≤maxLen then(if(([]:List Int)++a0.Dt).length*8≤140737488355328∧(([]:List Int)++a0.Dt).length≤maxLen then some (Bg.mk a0.Ja a0.Bz a0.Js a0.fUp a0.Hf a0.B5 a0.Hg a0.Hh (([]:List Int)++a0.Af) a0.Rk a0.Hi (([]:List Bf)++a0.Er) (([]:List Int)++a0.Dt))else none)else none)else none)
def B0i:Sig:=⟨[.v 44],[.n 44 true],true⟩
def Bed (K:Nat):Gu tyU:=⟨B0i,Alb K⟩
def B4q (K:Nat):=xF B0i [] [] 21 [] [] [] [] [.cell 2 44]
theorem A85 (K:Nat):OkF 209 (Bed K):=
 Abg (x:=B4q K) (L:=[]) (c0:=bd Tryz.f209) (xkF gN oN) (by intro a0;show @Eq _ _ _;kernel_rfl) kN Tryz.func209 trivial
def Asz (K:Nat)(v3:Eb)(v4:Eb):Option (Eb):=some v3
def Ax5 (K:Nat)(a0:Eb)(a1:Int):Option (Eb):=((Arg K a0).bind fun r1=>((Aaa K a1 0 (Aqd .i64 (a0.Ja.length:Int) 1)).bind fun r2=>(bif r2 then(bif (decide (a1<(a0.Gm.length:Int)))then(if(0:Int)≤a1∧a1<(a0.Ja.length:Int)then(bif ((gt a0.Ja a1)==1)then(if(0:Int)≤a1∧a1<(r1.Ja.length:Int)then(if(0:Int)≤a1∧a1<(r1.Gm.length:Int)then(Asz K (Eb.mk r1.Gl (r1.Ja.set a1.toNat 2) (r1.Gm.set a1.toNat (-1))) (Eb.mk [] [] []))else none)else none)else(Asz K r1 (Eb.mk [] [] [])))else none)else(Asz K r1 (Eb.mk [] [] [])))else(Asz K r1 (Eb.mk [] [] [])))))
def s_49:Sig:=⟨[.v 28,.v 3],[.n 28 true],true⟩
def B0j (K:Nat):Gu tyU:=⟨s_49,Ax5 K⟩
def Bv9 (K:Nat):=xF s_49 [(84,c_7 K),(137,Bjx K)] [] 38 [13,14,19,20,21] [(5,[.take 105 0 6680,.take 105 1 6681,.take 105 2 6682])] [] [7] [.cell 4 28]
def Bee:Fs:=⟨[(4,.p 104),(5,.p 105)],[(105,.st 28 true),(104,.st 28 true)]⟩
def Bef (K:Nat)(q:PT Bee):Rt s_49:=Asz K q.1 q.2.1
theorem Bwa (K:Nat):AtJ (Bv9 K) [] [] (bd Tryz.f242) 7 (Bef K):=fun q=>by kernel_rfl
theorem Bsu (K:Nat):XF [.cell 4 28] s_49 38 [7] (Bv9 K):=xkF (gC (Azn K) (gC (Bf0 K) gN)) oN
theorem Bwb (K:Nat):CF [.cell 4 28] s_49 38 [7] (bd Tryz.f242) [] 7 (ar Bee (Bef K)):=
 Aiz (Bsu K) (Bwa K) kN
theorem B0k (K:Nat):OkF 242 (B0j K):=
 Abg (x:=Bv9 K) (L:=[(7,ar Bee (Bef K))]) (c0:=bd Tryz.f242) (Bsu K) (by intro a0 a1;show @Eq _ _ _;kernel_rfl) (kC (Bwb K) kN) Tryz.func242 trivial
def Agi (K:Nat)(a1:List Int):Nat->Int->Int->Int->Int->Int->Int->Int->(List Int)->(List Int)->(List Int)->(List Bg)->(List A3)->(List Int)->Option (Es)
 |0,_,_,_,_,_,_,_,_,_,_,_,_,_=>none
 |n1+1,v1,v2,v3,v4,v5,v6,v7,v8,v9,v10,v11,v12,v13=>(bif (decide (v1<(a1.length:Int)))then(if(0:Int)≤v1∧v1<(a1.length:Int)then((Ax5 K (Eb.mk v8 v9 v10) (gt a1 v1)).bind fun r14=>(Agi K a1 n1 (Aqc .i64 v1 1) v2 v3 v4 v5 v6 v7 r14.Gl r14.Ja r14.Gm v11 v12 v13))else none)else some (Es.mk (Fa.mk v2 v3 v4 v5 v6 v7) (Eb.mk v8 v9 v10) v11 v12 v13))
def Arh (K:Nat)(a0:Es)(a1:List Int):Option (Es):=(Agi K a1 K 0 a0.fC.Af a0.fC.Ez a0.fC.Db a0.fC.Fv a0.fC.Dc a0.fC.E0 a0.fP.Gl a0.fP.Ja a0.fP.Gm a0.fL a0.fQ a0.Rl)
def s_50:Sig:=⟨[.b 32 false,.v 26],[],false⟩
def Bpp (K:Nat):Gu tyU:=⟨s_50,Arh K⟩
def Bwc (K:Nat):=xF s_50 [(242,B0j K)] [] 23 [] [(3,[.take 1 6 5022,.take 1 7 5023,.take 1 8 5024])] [] [] []
def Beg:Fs:=⟨[(0,.p 1),(1,.v 26),(4,.v 2)],[(1,.box [.v 2,.v 2,.v 2,.v 2,.v 2,.v 2,.T 5 true,.T 3 true,.T 3 true,.T 44 false,.T 159 false,.T 3 true])]⟩
def Beh (K:Nat)(n:Nat)(q:PT Beg):Rt s_50:=Agi K q.1 n q.2.1 q.2.2.1 q.2.2.2.1 q.2.2.2.2.1 q.2.2.2.2.2.1 q.2.2.2.2.2.2.1 q.2.2.2.2.2.2.2.1 q.2.2.2.2.2.2.2.2.1 q.2.2.2.2.2.2.2.2.2.1 q.2.2.2.2.2.2.2.2.2.2.1 q.2.2.2.2.2.2.2.2.2.2.2.1 q.2.2.2.2.2.2.2.2.2.2.2.2.1 q.2.2.2.2.2.2.2.2.2.2.2.2.2.1
theorem Bwd (K:Nat):AtL (Bwc K) (fun n=>[]) [] (bd Tryz.f169) 6 (Beh K):=fun n q=>by kernel_rfl
theorem Bsv (K:Nat):XF [] s_50 23 [] (Bwc K):=xkF (gC (B0k K) gN) oN
theorem Bwe (K:Nat)(n:Nat):CF [] s_50 23 [] (bd Tryz.f169) [] 6 (ar Beg (Beh K n)):=
 Agc (Bsv K) (Bwd K) (fun n=>kN) n
theorem Bj4 (K:Nat):OkF 169 (Bpp K):=
 Abg (x:=Bwc K) (L:=[(6,ar Beg (Beh K K))]) (c0:=bd Tryz.f169) (Bsv K) (by intro a0 a1;show @Eq _ _ _;kernel_rfl) (kC (Bwe K K) kN) Tryz.func169 trivial
def Axl (K:Nat)(a0:Bg):Option (Bg):=some (Bg.mk 2 a0.Bz 0 0 0 0 0 0 [] 0 0 [] [])
def B0l:Sig:=⟨[.v 44],[.n 44 true],true⟩
def Bwf (K:Nat):Gu tyU:=⟨B0l,Axl K⟩
def B4r (K:Nat):=xF B0l [] [] 6 [] [] [] [] [.cell 2 44]
theorem Bsw (K:Nat):OkF 176 (Bwf K):=
 Abg (x:=B4r K) (L:=[]) (c0:=bd Tryz.f176) (xkF gN oN) (by intro a0;show @Eq _ _ _;kernel_rfl) kN Tryz.func176 trivial
def At4 (K:Nat)(a0:Bg)(a1:Int):Option (A3):=(if(([]:List Int)++a0.Dt).length*8≤140737488355328∧(([]:List Int)++a0.Dt).length≤maxLen then(if(([]:List Int)++a0.Af).length*8≤140737488355328∧(([]:List Int)++a0.Af).length≤maxLen then some (A3.mk a1 a0.B5 (([]:List Int)++a0.Dt) (([]:List Int)++a0.Af) 0)else none)else none)
def B0m:Sig:=⟨[.v 44,.v 3],[.n 159 true],true⟩
def Bwg (K:Nat):Gu tyU:=⟨B0m,At4 K⟩
def B4s (K:Nat):=xF B0m [] [] 17 [] [] [] [] [.cell 4 159]
theorem Bsx (K:Nat):OkF 168 (Bwg K):=
 Abg (x:=B4s K) (L:=[]) (c0:=bd Tryz.f168) (xkF gN oN) (by intro a0 a1;show @Eq _ _ _;kernel_rfl) kN Tryz.func168 trivial
def Axv (K:Nat)(a0:Bg)(a1:Int):Option (A3):=(if(([]:List Int)++a0.Dt).length*8≤140737488355328∧(([]:List Int)++a0.Dt).length≤maxLen then(if(([]:List Int)++a0.Af).length*8≤140737488355328∧(([]:List Int)++a0.Af).length≤maxLen then some (A3.mk a1 a0.B5 (([]:List Int)++a0.Dt) (([]:List Int)++a0.Af) 0)else none)else none)
def B0n:Sig:=⟨[.v 44,.v 3],[.v 159],false⟩
def B0o (K:Nat):Gu tyU:=⟨B0n,Axv K⟩
def B4t (K:Nat):=xF B0n [] [] 17 [] [] [] [] [.cell 4 159]
theorem B0p (K:Nat):OkF 168 (B0o K):=
 Abg (x:=B4t K) (L:=[]) (c0:=bd Tryz.f168) (xkF gN oN) (by intro a0 a1;show @Eq _ _ _;kernel_rfl) kN Tryz.func168 trivial
def As0 (K:Nat)(r1:Bg)(v4:Int)(v5:Int)(v6:Int)(v7:Int)(v8:Int)(v9:Int)(v10:Int)(v11:List Int)(v12:List Int)(v13:List Int)(v14:List Bg)(v15:List A3)(v16:List Int):Option (Es):=((Arh K (Es.mk (Fa.mk v5 v6 v7 v8 v9 v10) (Eb.mk v11 v12 v13) v14 v15 v16) r1.Af).bind fun r17=>((Axl K r1).bind fun r18=>(if(0:Int)≤v4∧v4<(r17.fL.length:Int)then((Axv K r1 (Aqc .i64 v4 1)).bind fun r19=>(if(([r19]:List A3)++r17.fQ).length*72≤140737488355328∧(([r19]:List A3)++r17.fQ).length≤maxLen then some (Es.mk r17.fC r17.fP (r17.fL.set v4.toNat r18) (([r19]:List A3)++r17.fQ) r17.Rl)else none))else none)))
def Awi (K:Nat)(a0:Es):Option (Es):=(if(0:Int)≤0∧0<(a0.fQ.length:Int)then(if(0:Int)≤(Aqd .i64 ((gt a0.fQ 0).B5) 1)∧(Aqd .i64 ((gt a0.fQ 0).B5) 1)<(a0.fL.length:Int)then((Alb K (gt a0.fL (Aqd .i64 ((gt a0.fQ 0).B5) 1))).bind fun r1=>(if(0:Int)≤0∧0<(a0.fQ.length:Int)then((Abl K a0.fL r1.Hg).bind fun r2=>(bif r2 then(if(0:Int)≤(Aqd .i64 r1.Hg 1)∧(Aqd .i64 r1.Hg 1)<(a0.fL.length:Int)then(Asn (a0.fL.set (Aqd .i64 r1.Hg 1).toNat (Bg.mk ((gt a0.fL (Aqd .i64 r1.Hg 1)).Ja) ((gt a0.fL (Aqd .i64 r1.Hg 1)).Bz) ((gt a0.fL (Aqd .i64 r1.Hg 1)).Js) ((gt a0.fL (Aqd .i64 r1.Hg 1)).fUp) ((gt a0.fL (Aqd .i64 r1.Hg 1)).Hf) ((gt a0.fL (Aqd .i64 r1.Hg 1)).B5) ((gt a0.fL (Aqd .i64 r1.Hg 1)).Hg) 0 ((gt a0.fL (Aqd .i64 r1.Hg 1)).Af) ((gt a0.fL (Aqd .i64 r1.Hg 1)).Rk) ((gt a0.fL (Aqd .i64 r1.Hg 1)).Hi) ((gt a0.fL (Aqd .i64 r1.Hg 1)).Er) ((gt a0.fL (Aqd .i64 r1.Hg 1)).Dt))) fun v3=>(As0 K r1 (Aqd .i64 ((gt a0.fQ 0).B5) 1) a0.fC.Af a0.fC.Ez a0.fC.Db a0.fC.Fv a0.fC.Dc a0.fC.E0 a0.fP.Gl a0.fP.Ja a0.fP.Gm v3 (a0.fQ.set (0:Int).toNat (A3.mk ((gt a0.fQ 0).As) r1.Hg ((gt a0.fQ 0).Dt) ((gt a0.fQ 0).Af) ((gt a0.fQ 0).Hj))) a0.Rl))else none)else(As0 K r1 (Aqd .i64 ((gt a0.fQ 0).B5) 1) a0.fC.Af a0.fC.Ez a0.fC.Db a0.fC.Fv a0.fC.Dc a0.fC.E0 a0.fP.Gl a0.fP.Ja a0.fP.Gm a0.fL (a0.fQ.set (0:Int).toNat (A3.mk ((gt a0.fQ 0).As) r1.Hg ((gt a0.fQ 0).Dt) ((gt a0.fQ 0).Af) ((gt a0.fQ 0).Hj))) a0.Rl)))else none))else none)else none)
def s_54:Sig:=⟨[.b 32 false],[],false⟩
def B0q (K:Nat):Gu tyU:=⟨s_54,Awi K⟩
def Bwh (K:Nat):=xF s_54 [(169,Bpp K),(176,Bwf K),(209,Bed K),(244,A9w K)] [(60,[(168,B0o K)])] 69 [] [(0,[.take 1 10 5026]),(1,[.take 1 9 5025]),(5,[.take 103 8 6656,.frz 6656]),(6,[.take 1 9 5025,.take 103 11 6659,.take 103 12 6660]),(7,[.take 1 10 5026,.frz 6659,.frz 6660])] [] [15] []
def A99:Fs:=⟨[(0,.p 1),(2,.v 2),(3,.p 103)],[(1,.box [.v 2,.v 2,.v 2,.v 2,.v 2,.v 2,.T 5 true,.T 3 true,.T 3 true,.T 44 false,.T 159 false,.T 3 true]),(103,.st 44 true)]⟩
def Baa (K:Nat)(q:PT A99):Rt s_54:=As0 K q.2.2.2.2.2.2.2.2.2.2.2.2.2.1 q.1 q.2.1 q.2.2.1 q.2.2.2.1 q.2.2.2.2.1 q.2.2.2.2.2.1 q.2.2.2.2.2.2.1 q.2.2.2.2.2.2.2.1 q.2.2.2.2.2.2.2.2.1 q.2.2.2.2.2.2.2.2.2.1 q.2.2.2.2.2.2.2.2.2.2.1 q.2.2.2.2.2.2.2.2.2.2.2.1 q.2.2.2.2.2.2.2.2.2.2.2.2.1
theorem Bpq (K:Nat):AtJ (Bwh K) [] [] (bd Tryz.f250) 15 (Baa K):=fun q=>by kernel_rfl
theorem Bsy (K:Nat):XF [] s_54 69 [15] (Bwh K):=xkF (gC (Bj4 K) (gC (Bsw K) (gC (A85 K) (gC (A40 K) gN)))) (oC (gC (B0p K) gN) oN)
theorem Bpr (K:Nat):CF [] s_54 69 [15] (bd Tryz.f250) [] 15 (ar A99 (Baa K)):=
 Aiz (Bsy K) (Bpq K) kN
theorem B0r (K:Nat):OkF 250 (B0q K):=
 Abg (x:=Bwh K) (L:=[(15,ar A99 (Baa K))]) (c0:=bd Tryz.f250) (Bsy K) (by intro a0;show @Eq _ _ _;kernel_rfl) (kC (Bpr K) kN) Tryz.func250 trivial
def Arr (K:Nat)(a0:List Bg):Nat->(List Bg)->Int->Option ((List Bg))
 |0,_,_=>none
 |n1+1,v1,v2=>(bif (decide (v2<(a0.length:Int)))then(if(0:Int)≤v2∧v2<(a0.length:Int)then((Alb K (gt a0 v2)).bind fun r3=>(if(v1++[r3]).length*152≤140737488355328∧(v1++[r3]).length≤maxLen then(Arr K a0 n1 (v1++[r3]) (Aqc .i64 v2 1))else none))else none)else some v1)
def Atd (K:Nat)(a0:List Bg):Option ((List Bg)):=(Arr K a0 K ([]:List Bg) 0)
def s_55:Sig:=⟨[.v 29],[.n 29 true],true⟩
def Bj5 (K:Nat):Gu tyU:=⟨s_55,Atd K⟩
def Bwi (K:Nat):=xF s_55 [(209,Bed K)] [] 23 [] [] [(20,[.put 3020])] [] [.tmp 2]
def Bab:Fs:=⟨[(0,.v 29),(3,.o 1003 44 true),(4,.v 2)],[]⟩
def Bac (K:Nat)(n:Nat)(q:PT Bab):Rt s_55:=Arr K q.1 n q.2.1 q.2.2.1
theorem Bps (K:Nat):AtL (Bwi K) (fun n=>[]) [] (bd Tryz.f138) 58 (Bac K):=fun n q=>by kernel_rfl
theorem Bsz (K:Nat):XF [.tmp 2] s_55 23 [] (Bwi K):=xkF (gC (A85 K) gN) oN
theorem Bpt (K:Nat)(n:Nat):CF [.tmp 2] s_55 23 [] (bd Tryz.f138) [] 58 (ar Bab (Bac K n)):=
 Agc (Bsz K) (Bps K) (fun n=>kN) n
theorem Bf3 (K:Nat):OkF 138 (Bj5 K):=
 Abg (x:=Bwi K) (L:=[(58,ar Bab (Bac K K))]) (c0:=bd Tryz.f138) (Bsz K) (by intro a0;show @Eq _ _ _;kernel_rfl) (kC (Bpt K K) kN) Tryz.func138 trivial
def Awj (K:Nat)(v3:List Bg):Option ((List Bg)):=some v3
def Ax6 (K:Nat)(a0:List Bg)(a1:Int)(a2:Int):Option ((List Bg)):=((Atd K a0).bind fun r1=>((Aaa K a1 0 (Aqd .i64 (a0.length:Int) 1)).bind fun r2=>(bif (!r2)then some r1 else(if(0:Int)≤a1∧a1<(a0.length:Int)then(bif (decide (((gt a0 a1).Bz)≥a2))then(if(0:Int)≤a1∧a1<(a0.length:Int)then(if(0:Int)≤a1∧a1<(r1.length:Int)then(Awj K (r1.set a1.toNat (Bg.mk 3 ((gt a0 a1).Bz) 0 0 0 0 0 0 [] 0 0 [] [])))else none)else none)else(if(0:Int)≤a1∧a1<(a0.length:Int)then((Arq K (Aqc .i64 ((gt a0 a1).Bz) 1)).bind fun r4=>(if(0:Int)≤a1∧a1<(r1.length:Int)then(Awj K (r1.set a1.toNat r4))else none))else none))else none))))
def s_56:Sig:=⟨[.v 29,.v 3,.v 3],[.n 29 true],true⟩
def B0s (K:Nat):Gu tyU:=⟨s_56,Ax6 K⟩
def Bwj (K:Nat):=xF s_56 [(84,c_7 K),(138,Bj5 K),(276,Boo K)] [] 44 [] [] [] [15] [.tmp 6]
def Bad:Fs:=⟨[(7,.o 1007 44 true)],[]⟩
def Bae (K:Nat)(q:PT Bad):Rt s_56:=Awj K q.1
theorem Bpu (K:Nat):AtJ (Bwj K) [] [] (bd Tryz.f251) 15 (Bae K):=fun q=>by kernel_rfl
theorem Bs0 (K:Nat):XF [.tmp 6] s_56 44 [15] (Bwj K):=xkF (gC (Azn K) (gC (Bf3 K) (gC (Bi8 K) gN))) oN
theorem Bpv (K:Nat):CF [.tmp 6] s_56 44 [15] (bd Tryz.f251) [] 15 (ar Bad (Bae K)):=
 Aiz (Bs0 K) (Bpu K) kN
theorem B0t (K:Nat):OkF 251 (B0s K):=
 Abg (x:=Bwj K) (L:=[(15,ar Bad (Bae K))]) (c0:=bd Tryz.f251) (Bs0 K) (by intro a0 a1 a2;show @Eq _ _ _;kernel_rfl) (kC (Bpv K) kN) Tryz.func251 trivial
def At5 (K:Nat)(a0:Es):Option (Es):=(if(0:Int)≤0∧0<(a0.fQ.length:Int)then((Azo K (gt a0.fQ 0)).bind fun r1=>(bif (r1==1)then((Axe K a0).bind fun r2=>some r2)else(bif (r1==2)then((Awh K a0).bind fun r3=>some r3)else(bif (r1==3)then((Awi K a0).bind fun r4=>some r4)else(if(0:Int)≤0∧0<(a0.fQ.length:Int)then(bif (((gt a0.fQ 0).As) != 0)then(if(0:Int)≤0∧0<(a0.fQ.length:Int)then((Ax6 K a0.fL (Aqd .i64 ((gt a0.fQ 0).As) 1) a0.fC.E0).bind fun r5=>(if(0:Int)≤1∧1≤(a0.fQ.length:Int)∧(a0.fQ.length:Int)≤(a0.fQ.length:Int)then(if(([]:List A3)++((a0.fQ.drop (1:Int).toNat).take ((a0.fQ.length:Int) - 1).toNat)).length*72≤140737488355328∧(([]:List A3)++((a0.fQ.drop (1:Int).toNat).take ((a0.fQ.length:Int) - 1).toNat)).length≤maxLen then some (Es.mk a0.fC a0.fP r5 (([]:List A3)++((a0.fQ.drop (1:Int).toNat).take ((a0.fQ.length:Int) - 1).toNat)) a0.Rl)else none)else none))else none)else(if(0:Int)≤1∧1≤(a0.fQ.length:Int)∧(a0.fQ.length:Int)≤(a0.fQ.length:Int)then(if(([]:List A3)++((a0.fQ.drop (1:Int).toNat).take ((a0.fQ.length:Int) - 1).toNat)).length*72≤140737488355328∧(([]:List A3)++((a0.fQ.drop (1:Int).toNat).take ((a0.fQ.length:Int) - 1).toNat)).length≤maxLen then some (Es.mk a0.fC a0.fP a0.fL (([]:List A3)++((a0.fQ.drop (1:Int).toNat).take ((a0.fQ.length:Int) - 1).toNat)) a0.Rl)else none)else none))else none)))))else none)
def B0u:Sig:=⟨[.b 32 false],[],false⟩
def Bwk (K:Nat):Gu tyU:=⟨B0u,At5 K⟩
def B4u (K:Nat):=xF B0u [(247,Bz1 K),(248,Bz4 K),(249,B0g K),(250,B0q K),(251,B0s K)] [] 60 [] [(0,[.take 1 10 5026]),(2,[.take 1 9 5025]),(5,[.put 1]),(7,[.put 1]),(9,[.put 1])] [(39,[.shal 3039])] [] []
theorem Bs1 (K:Nat):OkF 190 (Bwk K):=
 Abg (x:=B4u K) (L:=[]) (c0:=bd Tryz.f190) (xkF (gC (Bz2 K) (gC (Bz5 K) (gC (B0h K) (gC (B0r K) (gC (B0t K) gN))))) oN) (by intro a0;show @Eq _ _ _;kernel_rfl) kN Tryz.func190 trivial
def Atk (K:Nat)(v1:Int)(v2:Int)(v3:Int)(v4:Int)(v5:Int)(v6:Int)(v7:Int)(v8:List Int)(v9:List Int)(v10:List Int)(v11:List Bg)(v12:List A3)(v13:List Int)(C1:Int->Int->Int->Int->Int->Int->Int->(List Int)->(List Int)->(List Int)->(List Bg)->(List A3)->(List Int)->Option (Int×Es)):Option (Int×Es):=((At5 K (Es.mk (Fa.mk v2 v3 v4 v5 v6 v7) (Eb.mk v8 v9 v10) v11 v12 v13)).bind fun r15=>(C1 (Aqc .i64 v1 1) r15.fC.Af r15.fC.Ez r15.fC.Db r15.fC.Fv r15.fC.Dc r15.fC.E0 r15.fP.Gl r15.fP.Ja r15.fP.Gm r15.fL r15.fQ r15.Rl))
def Aqz (K:Nat)(a1:Int)(a2:Int):Nat->Int->Int->Int->Int->Int->Int->Int->(List Int)->(List Int)->(List Int)->(List Bg)->(List A3)->(List Int)->Option (Int×Es)
 |0,_,_,_,_,_,_,_,_,_,_,_,_,_=>none
 |n1+1,v1,v2,v3,v4,v5,v6,v7,v8,v9,v10,v11,v12,v13=>(bif (decide ((v12.length:Int)>0))then((Ap6 K v11 0).bind fun r14=>(bif (decide (r14<a1))then(Atk K v1 v2 v3 v4 v5 v6 v7 v8 v9 v10 v11 v12 v13 (Aqz K a1 a2 n1))else(bif (decide (a2>0))then((Ave K (Eb.mk v8 v9 v10) a2).bind fun r16=>(bif (decide (r16<0))then(Atk K v1 v2 v3 v4 v5 v6 v7 v8 v9 v10 v11 v12 v13 (Aqz K a1 a2 n1))else some (v1,(Es.mk (Fa.mk v2 v3 v4 v5 v6 v7) (Eb.mk v8 v9 v10) v11 v12 v13))))else some (v1,(Es.mk (Fa.mk v2 v3 v4 v5 v6 v7) (Eb.mk v8 v9 v10) v11 v12 v13)))))else some (v1,(Es.mk (Fa.mk v2 v3 v4 v5 v6 v7) (Eb.mk v8 v9 v10) v11 v12 v13)))
def Au5 (K:Nat)(a0:Es)(a1:Int)(a2:Int):Option (Int×Es):=(Aqz K a1 a2 K 0 a0.fC.Af a0.fC.Ez a0.fC.Db a0.fC.Fv a0.fC.Dc a0.fC.E0 a0.fP.Gl a0.fP.Ja a0.fP.Gm a0.fL a0.fQ a0.Rl)
def s_58:Sig:=⟨[.b 32 false,.v 3,.v 3],[.v 3],false⟩
def Bpw (K:Nat):Gu tyU:=⟨s_58,Au5 K⟩
def Bpx (K:Nat):=xF s_58 [(190,Bwk K),(223,Bv1 K),(315,Bv4 K)] [] 41 [13,14,21,22,24,25] [(2,[.take 1 10 5026,.take 1 9 5025,.take 1 6 5022,.take 1 7 5023,.take 1 8 5024])] [] [56] [.tmp 6]
def Baf:Fs:=⟨[(0,.p 1),(1,.v 2),(2,.v 2),(7,.v 2)],[(1,.box [.v 2,.v 2,.v 2,.v 2,.v 2,.v 2,.T 5 true,.T 3 true,.T 3 true,.T 44 false,.T 159 false,.T 3 true])]⟩
def Azc:Fs:=⟨[(0,.p 1),(1,.v 2),(2,.v 2),(7,.v 2)],[(1,.box [.v 2,.v 2,.v 2,.v 2,.v 2,.v 2,.T 5 true,.T 3 true,.T 3 true,.T 44 false,.T 159 false,.T 3 true])]⟩
def Bag (K:Nat)(C28:CT Azc s_58)(q:PT Baf):Rt s_58:=Atk K q.2.2.1 q.2.2.2.1 q.2.2.2.2.1 q.2.2.2.2.2.1 q.2.2.2.2.2.2.1 q.2.2.2.2.2.2.2.1 q.2.2.2.2.2.2.2.2.1 q.2.2.2.2.2.2.2.2.2.1 q.2.2.2.2.2.2.2.2.2.2.1 q.2.2.2.2.2.2.2.2.2.2.2.1 q.2.2.2.2.2.2.2.2.2.2.2.2.1 q.2.2.2.2.2.2.2.2.2.2.2.2.2.1 q.2.2.2.2.2.2.2.2.2.2.2.2.2.2.1 (fun v1 v2 v3 v4 v5 v6 v7 v8 v9 v10 v11 v12 v13=>C28 (q.1,q.2.1,v1,v2,v3,v4,v5,v6,v7,v8,v9,v10,v11,v12,v13,()))
def A2w (K:Nat)(n:Nat)(q:PT Azc):Rt s_58:=Aqz K q.1 q.2.1 n q.2.2.1 q.2.2.2.1 q.2.2.2.2.1 q.2.2.2.2.2.1 q.2.2.2.2.2.2.1 q.2.2.2.2.2.2.2.1 q.2.2.2.2.2.2.2.2.1 q.2.2.2.2.2.2.2.2.2.1 q.2.2.2.2.2.2.2.2.2.2.1 q.2.2.2.2.2.2.2.2.2.2.2.1 q.2.2.2.2.2.2.2.2.2.2.2.2.1 q.2.2.2.2.2.2.2.2.2.2.2.2.2.1 q.2.2.2.2.2.2.2.2.2.2.2.2.2.2.1
theorem Bpy (K:Nat)(C28:CT Azc s_58):AtJ (Bpx K) [] [(28,ar Azc C28)] (bd Tryz.f287) 56 (Bag K C28):=fun q=>by kernel_rfl
theorem Bpz (K:Nat):AtL (Bpx K) (fun n=>[(56,ar Baf (Bag K (A2w K n)))]) [] (bd Tryz.f287) 28 (A2w K):=fun n q=>by kernel_rfl
theorem Bj6 (K:Nat):XF [.tmp 6] s_58 41 [56] (Bpx K):=xkF (gC (Bs1 K) (gC (Bsm K) (gC (Bsq K) gN))) oN
theorem Bp0 (K:Nat)(C28:CT Azc s_58):CF [.tmp 6] s_58 41 [56] (bd Tryz.f287) [(28,ar Azc C28)] 56 (ar Baf (Bag K C28)):=
 Aiz (Bj6 K) (Bpy K C28) kN
theorem Bp1 (K:Nat)(n:Nat):CF [.tmp 6] s_58 41 [56] (bd Tryz.f287) [] 28 (ar Azc (A2w K n)):=
 Agc (Bj6 K) (Bpz K) (fun n=>(kC (Bp0 K (A2w K n)) kN)) n
theorem Bj7 (K:Nat):OkF 287 (Bpw K):=
 Abg (x:=Bpx K) (L:=[(28,ar Azc (A2w K K))]) (c0:=bd Tryz.f287) (Bj6 K) (by intro a0 a1 a2;show @Eq _ _ _;kernel_rfl) (kC (Bp1 K K) kN) Tryz.func287 trivial
def Ars (K:Nat)(a0:List Bg):Nat->Int->Option (Int)
 |0,_=>none
 |n1+1,v1=>(bif (decide (v1<(a0.length:Int)))then(if(0:Int)≤v1∧v1<(a0.length:Int)then(bif (((gt a0 v1).Ja)==0)then some v1 else(Ars K a0 n1 (Aqc .i64 v1 1)))else none)else some (-1))
def Aw7 (K:Nat)(a0:List Bg):Option (Int):=(Ars K a0 K 0)
def s_59:Sig:=⟨[.v 29],[.v 3],true⟩
def B0v (K:Nat):Gu tyU:=⟨s_59,Aw7 K⟩
def Bwl (K:Nat):=xF s_59 [] [] 17 [] [] [] [] [.tmp 2]
def Bah:Fs:=⟨[(0,.v 29),(3,.v 2)],[]⟩
def Bai (K:Nat)(n:Nat)(q:PT Bah):Rt s_59:=Ars K q.1 n q.2.1
theorem Bp2 (K:Nat):AtL (Bwl K) (fun n=>[]) [] (bd Tryz.f288) 26 (Bai K):=fun n q=>by kernel_rfl
theorem Bs2 (K:Nat):XF [.tmp 2] s_59 17 [] (Bwl K):=xkF gN oN
theorem Bp3 (K:Nat)(n:Nat):CF [.tmp 2] s_59 17 [] (bd Tryz.f288) [] 26 (ar Bah (Bai K n)):=
 Agc (Bs2 K) (Bp2 K) (fun n=>kN) n
theorem B0w (K:Nat):OkF 288 (B0v K):=
 Abg (x:=Bwl K) (L:=[(26,ar Bah (Bai K K))]) (c0:=bd Tryz.f288) (Bs2 K) (by intro a0;show @Eq _ _ _;kernel_rfl) (kC (Bp3 K K) kN) Tryz.func288 trivial
def Art (K:Nat):Nat->Int->(List Int)->(List Int)->(List Int)->Option (Int)
 |0,_,_,_,_=>none
 |n1+1,v1,v2,v3,v4=>(bif (decide (v1<(v3.length:Int)))then(if(0:Int)≤v1∧v1<(v3.length:Int)then(bif ((gt v3 v1)==0)then some v1 else(Art K n1 (Aqc .i64 v1 1) v2 v3 v4))else none)else some (-1))
def Aun (K:Nat)(a0:Eb):Option (Int):=(Art K K 0 a0.Gl a0.Ja a0.Gm)
def s_60:Sig:=⟨[.v 28],[.v 3],true⟩
def Bwm (K:Nat):Gu tyU:=⟨s_60,Aun K⟩
def Bwn (K:Nat):=xF s_60 [] [] 18 [] [] [] [] [.tmp 2]
def Baj:Fs:=⟨[(1,.p 101),(3,.v 2)],[(101,.box [.v 22,.v 26,.v 26])]⟩
def Bak (K:Nat)(n:Nat)(q:PT Baj):Rt s_60:=Art K n q.1 q.2.1 q.2.2.1 q.2.2.2.1
theorem Bp4 (K:Nat):AtL (Bwn K) (fun n=>[]) [] (bd Tryz.f289) 26 (Bak K):=fun n q=>by kernel_rfl
theorem Bs3 (K:Nat):XF [.tmp 2] s_60 18 [] (Bwn K):=xkF gN oN
theorem Bp5 (K:Nat)(n:Nat):CF [.tmp 2] s_60 18 [] (bd Tryz.f289) [] 26 (ar Baj (Bak K n)):=
 Agc (Bs3 K) (Bp4 K) (fun n=>kN) n
theorem Bs4 (K:Nat):OkF 289 (Bwm K):=
 Abg (x:=Bwn K) (L:=[(26,ar Baj (Bak K K))]) (c0:=bd Tryz.f289) (Bs3 K) (by intro a0;show @Eq _ _ _;kernel_rfl) (kC (Bp5 K K) kN) Tryz.func289 trivial
def As1 (K:Nat)(a1:Int)(a2:Int)(a3:Int):Nat->Int->Eb->Eb->Option (Eb)
 |0,_,_,_=>none
 |n1+1,v3,v4,v5=>(bif (decide (v3<(Aqc .i64 a1 a2)))then(if(0:Int)≤v3∧v3<(v4.Ja.length:Int)then(if(0:Int)≤v3∧v3<(v4.Gm.length:Int)then(As1 K a1 a2 a3 n1 (Aqc .i64 v3 1) (Eb.mk v4.Gl (v4.Ja.set v3.toNat 1) (v4.Gm.set v3.toNat a3)) v5)else none)else none)else some v4)
def Aru (K:Nat)(a0:Eb)(a1:Int)(a2:Int)(a3:Int):Option (Eb):=((Arg K a0).bind fun r1=>((Au2 K a0 a1 a2).bind fun r2=>(bif r2 then(bif ((a0.Gm.length:Int) != (a0.Ja.length:Int))then some r1 else(As1 K a1 a2 a3 K a1 r1 (Eb.mk [] [] [])))else some r1)))
def s_61:Sig:=⟨[.v 28,.v 3,.v 3,.v 3],[.n 28 true],true⟩
def Bp6 (K:Nat):Gu tyU:=⟨s_61,Aru K⟩
def Bwo (K:Nat):=xF s_61 [(137,Bjx K),(316,Bv2 K)] [] 46 [16,17,18] [(7,[.take 109 1 6745]),(8,[.take 109 2 6746]),(9,[.take 109 0 6744,.take 109 1 6745,.take 109 2 6746])] [] [] [.cell 8 28]
def A6j:Fs:=⟨[(1,.v 2),(2,.v 2),(3,.v 2),(8,.p 108),(9,.p 109),(10,.v 2)],[(109,.st 28 true),(108,.st 28 true)]⟩
def A6k (K:Nat)(n:Nat)(q:PT A6j):Rt s_61:=As1 K q.1 q.2.1 q.2.2.1 n q.2.2.2.1 q.2.2.2.2.1 q.2.2.2.2.2.1
theorem Bj8 (K:Nat):AtL (Bwo K) (fun n=>[]) [] (bd Tryz.f290) 122 (A6k K):=fun n q=>by kernel_rfl
theorem Bs5 (K:Nat):XF [.cell 8 28] s_61 46 [] (Bwo K):=xkF (gC (Bf0 K) (gC (Bso K) gN)) oN
theorem Bj9 (K:Nat)(n:Nat):CF [.cell 8 28] s_61 46 [] (bd Tryz.f290) [] 122 (ar A6j (A6k K n)):=
 Agc (Bs5 K) (Bj8 K) (fun n=>kN) n
theorem Bka (K:Nat):OkF 290 (Bp6 K):=
 Abg (x:=Bwo K) (L:=[(122,ar A6j (A6k K K))]) (c0:=bd Tryz.f290) (Bs5 K) (by intro a0 a1 a2 a3;show @Eq _ _ _;kernel_rfl) (kC (Bj9 K K) kN) Tryz.func290 trivial
def Azd (K:Nat)(a0:Bg):Option (Bool):=(bif (a0.Js==0)then(bif (a0.fUp==0)then(bif (a0.Hf==0)then(bif (a0.B5==0)then(bif (a0.Hg==0)then(bif (a0.Hh==0)then(bif ((a0.Af.length:Int)==0)then(bif (a0.Rk==0)then(bif (a0.Hi==0)then(bif ((a0.Er.length:Int)==0)then some ((a0.Dt.length:Int)==0)else some false)else some false)else some false)else some false)else some false)else some false)else some false)else some false)else some false)else some false)
def B0x:Sig:=⟨[.v 44],[.v 4],true⟩
def B0y (K:Nat):Gu tyU:=⟨B0x,Azd K⟩
def B4v (K:Nat):=xF B0x [] [] 59 [5,6,9,10,11,14,15,16,19,20,21,24,25,26,29,30,31,35,36,37,40,41,42,45,46,47,51,52,53] [] [] [] [.tmp 2]
theorem B0z (K:Nat):OkF 214 (B0y K):=
 Abg (x:=B4v K) (L:=[]) (c0:=bd Tryz.f214) (xkF gN oN) (by intro a0;show @Eq _ _ _;kernel_rfl) kN Tryz.func214 trivial
def At6 (K:Nat)(a0:List Int)(a1:Int):Nat->Int->Option (Bool)
 |0,_=>none
 |n1+1,v1=>(bif (decide (v1<(a0.length:Int)))then(if(0:Int)≤v1∧v1<(a0.length:Int)then(bif ((gt a0 v1)==a1)then some true else(At6 K a0 a1 n1 (Aqc .i64 v1 1)))else none)else some false)
def Apu (K:Nat)(a0:List Int)(a1:Int):Option (Bool):=(At6 K a0 a1 K 0)
def s_63:Sig:=⟨[.v 26,.v 3],[.v 4],true⟩
def Bhd (K:Nat):Gu tyU:=⟨s_63,Apu K⟩
def Bwp (K:Nat):=xF s_63 [] [] 18 [] [] [] [] [.tmp 4]
def Bal:Fs:=⟨[(0,.v 26),(1,.v 2),(5,.v 2)],[]⟩
def Bam (K:Nat)(n:Nat)(q:PT Bal):Rt s_63:=At6 K q.1 q.2.1 n q.2.2.1
theorem Bp7 (K:Nat):AtL (Bwp K) (fun n=>[]) [] (bd Tryz.f218) 26 (Bam K):=fun n q=>by kernel_rfl
theorem Bs6 (K:Nat):XF [.tmp 4] s_63 18 [] (Bwp K):=xkF gN oN
theorem Bp8 (K:Nat)(n:Nat):CF [.tmp 4] s_63 18 [] (bd Tryz.f218) [] 26 (ar Bal (Bam K n)):=
 Agc (Bs6 K) (Bp7 K) (fun n=>kN) n
theorem Bcp (K:Nat):OkF 218 (Bhd K):=
 Abg (x:=Bwp K) (L:=[(26,ar Bal (Bam K K))]) (c0:=bd Tryz.f218) (Bs6 K) (by intro a0 a1;show @Eq _ _ _;kernel_rfl) (kC (Bp8 K K) kN) Tryz.func218 trivial
def An5 (K:Nat)(a0:Fa):Nat->Int->Int->Int->Int->Int->Int->Int->Int->Int->(List Int)->Int->Int->(List Bf)->(List Int)->Option (Bool)
 |0,_,_,_,_,_,_,_,_,_,_,_,_,_,_=>none
 |n1+1,v1,v2,v3,v4,v5,v6,v7,v8,v9,v10,v11,v12,v13,v14=>(bif (decide (v1<(v10.length:Int)))then(if(0:Int)≤v1∧v1<(v10.length:Int)then((Aaa K (gt v10 v1) 0 (Aqd .i64 a0.Af 1)).bind fun r15=>(bif r15 then(if(0:Int)≤0∧0≤v1∧v1≤(v10.length:Int)then(if(0:Int)≤v1∧v1<(v10.length:Int)then((Apu K ((v10.drop (0:Int).toNat).take (v1 - 0).toNat) (gt v10 v1)).bind fun r16=>(bif r16 then some false else(An5 K a0 n1 (Aqc .i64 v1 1) v2 v3 v4 v5 v6 v7 v8 v9 v10 v11 v12 v13 v14)))else none)else none)else some false))else none)else(bif (v11==0)then some (v12==0)else((Apu K v10 (Aqd .i64 v11 1)).bind fun r17=>(bif r17 then((Aaa K v12 0 a0.Ez).bind fun r18=>some r18)else some false))))
def Avh (K:Nat)(a0:Fa)(a1:Bg):Option (Bool):=(An5 K a0 K 0 a1.Ja a1.Bz a1.Js a1.fUp a1.Hf a1.B5 a1.Hg a1.Hh a1.Af a1.Rk a1.Hi a1.Er a1.Dt)
def s_64:Sig:=⟨[.v 25,.v 44],[.v 4],true⟩
def B00 (K:Nat):Gu tyU:=⟨s_64,Avh K⟩
def Bwq (K:Nat):=xF s_64 [(84,c_7 K),(218,Bhd K)] [] 54 [21,22,23,46,47] [] [] [] [.tmp 4]
def Ban:Fs:=⟨[(2,.p 102),(3,.p 103),(5,.v 2)],[(103,.box [.v 2,.v 2,.v 2,.v 2,.v 2,.v 2,.v 2,.v 2,.v 26,.v 2,.v 2,.v 41,.v 26]),(102,.st 25 true)]⟩
def Bao (K:Nat)(n:Nat)(q:PT Ban):Rt s_64:=An5 K q.2.2.2.2.2.2.2.2.2.2.2.2.2.2.1 n q.1 q.2.1 q.2.2.1 q.2.2.2.1 q.2.2.2.2.1 q.2.2.2.2.2.1 q.2.2.2.2.2.2.1 q.2.2.2.2.2.2.2.1 q.2.2.2.2.2.2.2.2.1 q.2.2.2.2.2.2.2.2.2.1 q.2.2.2.2.2.2.2.2.2.2.1 q.2.2.2.2.2.2.2.2.2.2.2.1 q.2.2.2.2.2.2.2.2.2.2.2.2.1 q.2.2.2.2.2.2.2.2.2.2.2.2.2.1
theorem Bp9 (K:Nat):AtL (Bwq K) (fun n=>[]) [] (bd Tryz.f215) 26 (Bao K):=fun n q=>by kernel_rfl
theorem Bs7 (K:Nat):XF [.tmp 4] s_64 54 [] (Bwq K):=xkF (gC (Azn K) (gC (Bcp K) gN)) oN
theorem Bqa (K:Nat)(n:Nat):CF [.tmp 4] s_64 54 [] (bd Tryz.f215) [] 26 (ar Ban (Bao K n)):=
 Agc (Bs7 K) (Bp9 K) (fun n=>kN) n
theorem B01 (K:Nat):OkF 215 (B00 K):=
 Abg (x:=Bwq K) (L:=[(26,ar Ban (Bao K K))]) (c0:=bd Tryz.f215) (Bs7 K) (by intro a0 a1;show @Eq _ _ _;kernel_rfl) (kC (Bqa K K) kN) Tryz.func215 trivial
def Ap1 (K:Nat)(a0:Fa)(a1:Int):Option (Bool):=some (decide (a1>a0.Ez))
def B02:Sig:=⟨[.v 25,.v 3],[.v 4],true⟩
def Bqb (K:Nat):Gu tyU:=⟨B02,Ap1 K⟩
def B4w (K:Nat):=xF B02 [] [] 9 [] [] [] [] [.tmp 4]
theorem Bkb (K:Nat):OkF 265 (Bqb K):=
 Abg (x:=B4w K) (L:=[]) (c0:=bd Tryz.f265) (xkF gN oN) (by intro a0 a1;show @Eq _ _ _;kernel_rfl) kN Tryz.func265 trivial
def Awk (K:Nat)(a0:Int)(a1:Int):Option (Int):=((Aaa K a0 0 1000000000).bind fun r1=>(bif r1 then((Aaa K a1 1 1000000000).bind fun r2=>(bif (!r2)then some 0 else(if a1≠(0:Int)then some (Anr .i64 (Aqd .i64 (Aqc .i64 a0 a1) 1) a1)else none)))else some 0))
def B03:Sig:=⟨[.v 3,.v 3],[.v 3],true⟩
def B04 (K:Nat):Gu tyU:=⟨B03,Awk K⟩
def B4x (K:Nat):=xF B03 [(84,c_7 K)] [] 19 [6,7,8] [] [] [] [.tmp 4]
theorem B05 (K:Nat):OkF 296 (B04 K):=
 Abg (x:=B4x K) (L:=[]) (c0:=bd Tryz.f296) (xkF (gC (Azn K) gN) oN) (by intro a0 a1;show @Eq _ _ _;kernel_rfl) kN Tryz.func296 trivial
def Anb (K:Nat)(a0:Fa)(a1:Int):Option (Int):=((Awk K a1 a0.Ez).bind fun r1=>some r1)
def B06:Sig:=⟨[.v 25,.v 3],[.v 3],true⟩
def Bqc (K:Nat):Gu tyU:=⟨B06,Anb K⟩
def B4y (K:Nat):=xF B06 [(296,B04 K)] [] 9 [] [] [] [] [.tmp 4]
theorem Bkc (K:Nat):OkF 266 (Bqc K):=
 Abg (x:=B4y K) (L:=[]) (c0:=bd Tryz.f266) (xkF (gC (B05 K) gN) oN) (by intro a0 a1;show @Eq _ _ _;kernel_rfl) kN Tryz.func266 trivial
def As2 (K:Nat)(a0:Fa)(a1:Bf):Option (Bool):=((Arn K a0).bind fun r1=>(bif (r1==0)then some false else(bif (decide (a1.Xf<1))then some false else(bif (decide (a1.fAt<0))then some false else(bif (decide (a1.fAt>r1))then some false else(bif (decide (a1.Xf>(Aqd .i64 r1 a1.fAt)))then some false else(bif (a1.Xg==0)then(bif (decide (a1.Xf≤a0.Ez))then(if a0.Ez≠(0:Int)then(if a0.Ez≠(0:Int)then some ((Anr .i64 a1.fAt a0.Ez)==(Anr .i64 (Aqd .i64 (Aqc .i64 a1.fAt a1.Xf) 1) a0.Ez))else none)else none)else some false)else((Ap1 K a0 a1.Xf).bind fun r2=>(bif r2 then((Anb K a0 a1.Xf).bind fun r3=>(bif (a1.Xg==r3)then(if a0.Ez≠(0:Int)then some ((Int.tmod a1.fAt a0.Ez)==0)else none)else some false))else some false)))))))))
def B07:Sig:=⟨[.v 25,.v 89],[.v 4],true⟩
def Bwr (K:Nat):Gu tyU:=⟨B07,As2 K⟩
def B4z (K:Nat):=xF B07 [(211,c_9 K),(265,Bqb K),(266,Bqc K)] [] 81 [9,10,13,14,15,18,19,20,24,25,26,42,43,63,64,71,72,73] [] [] [] [.tmp 4]
theorem Bs8 (K:Nat):OkF 216 (Bwr K):=
 Abg (x:=B4z K) (L:=[]) (c0:=bd Tryz.f216) (xkF (gC (Bon K) (gC (Bkb K) (gC (Bkc K) gN))) oN) (by intro a0 a1;show @Eq _ _ _;kernel_rfl) kN Tryz.func216 trivial
def Aq0 (K:Nat)(v23:List Int):Nat->Int->Option (Bool)
 |0,_=>none
 |n2+1,v25=>(bif (decide (v25<(v23.length:Int)))then(if(0:Int)≤v25∧v25<(v23.length:Int)then((Aaa K (gt v23 v25) 0 255).bind fun r26=>(bif (!r26)then some false else(Aq0 K v23 n2 (Aqc .i64 v25 1))))else none)else some true)
def Apm (K:Nat)(a0:Fa):Nat->Int->Int->Int->Int->Int->Int->Int->Int->Int->(List Int)->Int->Int->(List Bf)->(List Int)->Option (Bool)
 |0,_,_,_,_,_,_,_,_,_,_,_,_,_,_=>none
 |n1+1,v10,v11,v12,v13,v14,v15,v16,v17,v18,v19,v20,v21,v22,v23=>(bif (decide (v10<(v22.length:Int)))then(if(0:Int)≤v10∧v10<(v22.length:Int)then((As2 K a0 (gt v22 v10)).bind fun r24=>(bif (!r24)then some false else(Apm K a0 n1 (Aqc .i64 v10 1) v11 v12 v13 v14 v15 v16 v17 v18 v19 v20 v21 v22 v23)))else none)else(Aq0 K v23 K 0))
def Apv (K:Nat)(a0:Fa)(a1:Bg):Option (Bool):=((Ak9 K a0).bind fun r1=>(bif r1 then((Aaa K a1.Ja 0 3).bind fun r2=>(bif r2 then((Aaa K a1.Bz 1 a0.E0).bind fun r3=>(bif (!r3)then some false else(bif (a1.Ja != 1)then((Azd K a1).bind fun r4=>some r4)else(bif (decide (a1.Js<0))then some false else(bif (decide (a1.Hf<0))then some false else((Aaa K a1.fUp 0 a0.Db).bind fun r5=>(bif r5 then((Aaa K a1.B5 0 a0.Db).bind fun r6=>(bif r6 then((Aaa K a1.Hg 0 a0.Db).bind fun r7=>(bif r7 then((Aaa K a1.Hh 0 a0.Db).bind fun r8=>(bif r8 then((Avh K a0 a1).bind fun r9=>(bif r9 then(bif (decide ((a1.Er.length:Int)>12))then some false else(bif (decide ((a1.Dt.length:Int)>6))then some false else(Apm K a0 K 0 a1.Ja a1.Bz a1.Js a1.fUp a1.Hf a1.B5 a1.Hg a1.Hh a1.Af a1.Rk a1.Hi a1.Er a1.Dt)))else some false))else some false))else some false))else some false))else some false)))))))else some false))else some false))
def s_69:Sig:=⟨[.v 25,.v 44],[.v 4],true⟩
def Bei (K:Nat):Gu tyU:=⟨s_69,Apv K⟩
def Bqd (K:Nat):=xF s_69 [(84,c_7 K),(210,c_8 K),(214,B0y K),(215,B00 K),(216,Bwr K)] [] 116 [8,9,10,13,14,15,16,31,32,35,36,37,42,43,44,45,50,51,52,53,58,59,60,61,66,67,68,69,72,73,74,75,79,80,81] [] [] [] [.tmp 4]
def A6l:Fs:=⟨[(3,.p 103),(6,.v 2)],[(103,.box [.v 2,.v 2,.v 2,.v 2,.v 2,.v 2,.v 2,.v 2,.v 26,.v 2,.v 2,.v 41,.v 26])]⟩
def A6m:Fs:=⟨[(2,.p 102),(3,.p 103),(5,.v 2)],[(103,.box [.v 2,.v 2,.v 2,.v 2,.v 2,.v 2,.v 2,.v 2,.v 26,.v 2,.v 2,.v 41,.v 26]),(102,.st 25 true)]⟩
def A6n (K:Nat)(n:Nat)(q:PT A6l):Rt s_69:=Aq0 K q.2.2.2.2.2.2.2.2.2.2.2.2.2.1 n q.1
def A6o (K:Nat)(n:Nat)(q:PT A6m):Rt s_69:=Apm K q.2.2.2.2.2.2.2.2.2.2.2.2.2.2.1 n q.1 q.2.1 q.2.2.1 q.2.2.2.1 q.2.2.2.2.1 q.2.2.2.2.2.1 q.2.2.2.2.2.2.1 q.2.2.2.2.2.2.2.1 q.2.2.2.2.2.2.2.2.1 q.2.2.2.2.2.2.2.2.2.1 q.2.2.2.2.2.2.2.2.2.2.1 q.2.2.2.2.2.2.2.2.2.2.2.1 q.2.2.2.2.2.2.2.2.2.2.2.2.1 q.2.2.2.2.2.2.2.2.2.2.2.2.2.1
theorem Bkd (K:Nat):AtL (Bqd K) (fun n=>[]) [] (bd Tryz.f142) 506 (A6n K):=fun n q=>by kernel_rfl
theorem Bke (K:Nat):AtL (Bqd K) (fun n=>[(506,ar A6l (A6n K K))]) [] (bd Tryz.f142) 250 (A6o K):=fun n q=>by kernel_rfl
theorem Bkf (K:Nat):XF [.tmp 4] s_69 116 [] (Bqd K):=xkF (gC (Azn K) (gC (Bcl K) (gC (B0z K) (gC (B01 K) (gC (Bs8 K) gN))))) oN
theorem Bkg (K:Nat)(n:Nat):CF [.tmp 4] s_69 116 [] (bd Tryz.f142) [] 506 (ar A6l (A6n K n)):=
 Agc (Bkf K) (Bkd K) (fun n=>kN) n
theorem Bkh (K:Nat)(n:Nat):CF [.tmp 4] s_69 116 [] (bd Tryz.f142) [] 250 (ar A6m (A6o K n)):=
 Agc (Bkf K) (Bke K) (fun n=>(kC (Aq3 (by kernel_rfl) (Bkg K K)) kN)) n
theorem A86 (K:Nat):OkF 142 (Bei K):=
 Abg (x:=Bqd K) (L:=[(250,ar A6m (A6o K K))]) (c0:=bd Tryz.f142) (Bkf K) (by intro a0 a1;show @Eq _ _ _;kernel_rfl) (kC (Bkh K K) kN) Tryz.func142 trivial
def Au6 (K:Nat)(a0:Fa)(a1:Bg)(a2:Int):Option (Bg×Bool):=((Alb K a1).bind fun r1=>(bif (a1.Ja != 1)then some (r1,false)else((Aaa K a2 0 (Aqd .i64 a0.Af 1)).bind fun r2=>(bif (!r2)then some (r1,false)else(if(r1.Af++([a2]:List Int)).length*8≤140737488355328∧(r1.Af++([a2]:List Int)).length≤maxLen then((Apv K a0 (Bg.mk r1.Ja r1.Bz r1.Js r1.fUp r1.Hf r1.B5 r1.Hg r1.Hh (r1.Af++([a2]:List Int)) (Aqc .i64 a2 1) 0 r1.Er r1.Dt)).bind fun r3=>(bif (!r3)then((Alb K a1).bind fun r4=>some (r4,false))else some ((Bg.mk r1.Ja r1.Bz r1.Js r1.fUp r1.Hf r1.B5 r1.Hg r1.Hh (r1.Af++([a2]:List Int)) (Aqc .i64 a2 1) 0 r1.Er r1.Dt),true)))else none)))))
def B08:Sig:=⟨[.v 25,.v 44,.v 3],[.n 44 true,.v 4],true⟩
def Bws (K:Nat):Gu tyU:=⟨B08,Au6 K⟩
def B40 (K:Nat):=xF B08 [(84,c_7 K),(142,Bei K),(209,Bed K)] [] 40 [13,14] [] [] [] [.cell 6 44,.tmp 7]
theorem Bs9 (K:Nat):OkF 291 (Bws K):=
 Abg (x:=B40 K) (L:=[]) (c0:=bd Tryz.f291) (xkF (gC (Azn K) (gC (A86 K) (gC (A85 K) gN))) oN) (by intro a0 a1 a2;show @Eq _ _ _;kernel_rfl) kN Tryz.func291 trivial
def Axf (K:Nat)(v11:List Bg):Option ((List Bg)):=some v11
def Av2 (K:Nat)(a0:List Bg)(a1:Int)(a2:Int):Option ((List Bg)):=((Atd K a0).bind fun r1=>((Abl K a0 (Aqc .i64 a1 1)).bind fun r2=>(bif r2 then((Abl K a0 (Aqc .i64 a2 1)).bind fun r3=>(bif r3 then(bif (a1==a2)then some r1 else(if(0:Int)≤a1∧a1<(a0.length:Int)then(if(0:Int)≤a2∧a2<(r1.length:Int)then(Asn (r1.set a2.toNat (Bg.mk ((gt r1 a2).Ja) ((gt r1 a2).Bz) ((gt r1 a2).Js) (Aqc .i64 a1 1) ((gt r1 a2).Hf) ((gt r1 a2).B5) ((gt r1 a2).Hg) ((gt r1 a2).Hh) ((gt r1 a2).Af) ((gt r1 a2).Rk) ((gt r1 a2).Hi) ((gt r1 a2).Er) ((gt r1 a2).Dt))) fun v4=>(if(0:Int)≤a1∧a1<(a0.length:Int)then(if(0:Int)≤a2∧a2<(v4.length:Int)then(Asn (v4.set a2.toNat (Bg.mk ((gt v4 a2).Ja) ((gt v4 a2).Bz) ((gt v4 a2).Js) ((gt v4 a2).fUp) ((gt a0 a1).Js) ((gt v4 a2).B5) ((gt v4 a2).Hg) ((gt v4 a2).Hh) ((gt v4 a2).Af) ((gt v4 a2).Rk) ((gt v4 a2).Hi) ((gt v4 a2).Er) ((gt v4 a2).Dt))) fun v5=>(if(0:Int)≤a2∧a2<(v5.length:Int)then(Asn (v5.set a2.toNat (Bg.mk ((gt v5 a2).Ja) ((gt v5 a2).Bz) ((gt v5 a2).Js) ((gt v5 a2).fUp) ((gt v5 a2).Hf) ((gt v5 a2).B5) ((gt a0 a1).B5) ((gt v5 a2).Hh) ((gt v5 a2).Af) ((gt v5 a2).Rk) ((gt v5 a2).Hi) ((gt v5 a2).Er) ((gt v5 a2).Dt))) fun v6=>(if(0:Int)≤a2∧a2<(v6.length:Int)then(Asn (v6.set a2.toNat (Bg.mk ((gt v6 a2).Ja) ((gt v6 a2).Bz) ((gt v6 a2).Js) ((gt v6 a2).fUp) ((gt v6 a2).Hf) ((gt v6 a2).B5) ((gt v6 a2).Hg) 0 ((gt v6 a2).Af) ((gt v6 a2).Rk) ((gt v6 a2).Hi) ((gt v6 a2).Er) ((gt v6 a2).Dt))) fun v7=>(if(0:Int)≤a1∧a1<(v7.length:Int)then(Asn (v7.set a1.toNat (Bg.mk ((gt v7 a1).Ja) ((gt v7 a1).Bz) ((gt v7 a1).Js) ((gt v7 a1).fUp) ((gt v7 a1).Hf) (Aqc .i64 a2 1) ((gt v7 a1).Hg) ((gt v7 a1).Hh) ((gt v7 a1).Af) ((gt v7 a1).Rk) ((gt v7 a1).Hi) ((gt v7 a1).Er) ((gt v7 a1).Dt))) fun v8=>((Abl K a0 ((gt a0 a1).B5)).bind fun r9=>(bif r9 then(if(0:Int)≤(Aqd .i64 ((gt a0 a1).B5) 1)∧(Aqd .i64 ((gt a0 a1).B5) 1)<(v8.length:Int)then(Asn (v8.set (Aqd .i64 ((gt a0 a1).B5) 1).toNat (Bg.mk ((gt v8 (Aqd .i64 ((gt a0 a1).B5) 1)).Ja) ((gt v8 (Aqd .i64 ((gt a0 a1).B5) 1)).Bz) ((gt v8 (Aqd .i64 ((gt a0 a1).B5) 1)).Js) ((gt v8 (Aqd .i64 ((gt a0 a1).B5) 1)).fUp) ((gt v8 (Aqd .i64 ((gt a0 a1).B5) 1)).Hf) ((gt v8 (Aqd .i64 ((gt a0 a1).B5) 1)).B5) ((gt v8 (Aqd .i64 ((gt a0 a1).B5) 1)).Hg) (Aqc .i64 a2 1) ((gt v8 (Aqd .i64 ((gt a0 a1).B5) 1)).Af) ((gt v8 (Aqd .i64 ((gt a0 a1).B5) 1)).Rk) ((gt v8 (Aqd .i64 ((gt a0 a1).B5) 1)).Hi) ((gt v8 (Aqd .i64 ((gt a0 a1).B5) 1)).Er) ((gt v8 (Aqd .i64 ((gt a0 a1).B5) 1)).Dt))) fun v10=>(Axf K v10))else none)else(Axf K v8))))else none))else none))else none))else none)else none))else none)else none))else some r1))else some r1)))
def s_71:Sig:=⟨[.v 29,.v 3,.v 3],[.n 29 true],true⟩
def B09 (K:Nat):Gu tyU:=⟨s_71,Av2 K⟩
def Bwt (K:Nat):=xF s_71 [(138,Bj5 K),(244,A9w K)] [] 75 [14,15,16,20,21,22,23] [] [] [1023] [.tmp 6]
def A3w:Fs:=⟨[(7,.o 1007 44 true)],[]⟩
def A3x (K:Nat)(q:PT A3w):Rt s_71:=Axf K q.1
theorem Bhe (K:Nat):AtJ (Bwt K) [] [] (bd Tryz.f292) 1023 (A3x K):=fun q=>by kernel_rfl
theorem Bta (K:Nat):XF [.tmp 6] s_71 75 [1023] (Bwt K):=xkF (gC (Bf3 K) (gC (A40 K) gN)) oN
theorem Bhf (K:Nat):CF [.tmp 6] s_71 75 [1023] (bd Tryz.f292) [] 1023 (ar A3w (A3x K)):=
 Aiz (Bta K) (Bhe K) kN
theorem B1a (K:Nat):OkF 292 (B09 K):=
 Abg (x:=Bwt K) (L:=[(1023,ar A3w (A3x K))]) (c0:=bd Tryz.f292) (Bta K) (by intro a0 a1 a2;show @Eq _ _ _;kernel_rfl) (kC (Bhf K) kN) Tryz.func292 trivial
def As3 (K:Nat)(a1:Int):Nat->Int->Int->Int->Int->Int->Int->Int->(List Int)->(List Int)->(List Int)->(List Bg)->(List A3)->(List Int)->Option (Int×Es)
 |0,_,_,_,_,_,_,_,_,_,_,_,_,_=>none
 |n1+1,v1,v2,v3,v4,v5,v6,v7,v8,v9,v10,v11,v12,v13=>(bif (decide (v1<a1))then(bif ((v12.length:Int)==0)then some (v1,(Es.mk (Fa.mk v2 v3 v4 v5 v6 v7) (Eb.mk v8 v9 v10) v11 v12 v13))else((At5 K (Es.mk (Fa.mk v2 v3 v4 v5 v6 v7) (Eb.mk v8 v9 v10) v11 v12 v13)).bind fun r14=>(As3 K a1 n1 (Aqc .i64 v1 1) r14.fC.Af r14.fC.Ez r14.fC.Db r14.fC.Fv r14.fC.Dc r14.fC.E0 r14.fP.Gl r14.fP.Ja r14.fP.Gm r14.fL r14.fQ r14.Rl)))else some (a1,(Es.mk (Fa.mk v2 v3 v4 v5 v6 v7) (Eb.mk v8 v9 v10) v11 v12 v13)))
def As4 (K:Nat)(a0:Es)(a1:Int):Option (Int×Es):=(As3 K a1 K 0 a0.fC.Af a0.fC.Ez a0.fC.Db a0.fC.Fv a0.fC.Dc a0.fC.E0 a0.fP.Gl a0.fP.Ja a0.fP.Gm a0.fL a0.fQ a0.Rl)
def s_72:Sig:=⟨[.b 32 false,.v 3],[.v 3],false⟩
def Bqe (K:Nat):Gu tyU:=⟨s_72,As4 K⟩
def Bwu (K:Nat):=xF s_72 [(190,Bwk K)] [] 21 [] [(4,[.take 1 10 5026]),(6,[.put 1])] [] [] [.tmp 4]
def Bap:Fs:=⟨[(0,.p 1),(1,.v 2),(5,.v 2)],[(1,.box [.v 2,.v 2,.v 2,.v 2,.v 2,.v 2,.T 5 true,.T 3 true,.T 3 true,.T 44 false,.T 159 false,.T 3 true])]⟩
def Baq (K:Nat)(n:Nat)(q:PT Bap):Rt s_72:=As3 K q.1 n q.2.1 q.2.2.1 q.2.2.2.1 q.2.2.2.2.1 q.2.2.2.2.2.1 q.2.2.2.2.2.2.1 q.2.2.2.2.2.2.2.1 q.2.2.2.2.2.2.2.2.1 q.2.2.2.2.2.2.2.2.2.1 q.2.2.2.2.2.2.2.2.2.2.1 q.2.2.2.2.2.2.2.2.2.2.2.1 q.2.2.2.2.2.2.2.2.2.2.2.2.1 q.2.2.2.2.2.2.2.2.2.2.2.2.2.1
theorem Bqf (K:Nat):AtL (Bwu K) (fun n=>[]) [] (bd Tryz.f112) 26 (Baq K):=fun n q=>by kernel_rfl
theorem Btb (K:Nat):XF [.tmp 4] s_72 21 [] (Bwu K):=xkF (gC (Bs1 K) gN) oN
theorem Bqg (K:Nat)(n:Nat):CF [.tmp 4] s_72 21 [] (bd Tryz.f112) [] 26 (ar Bap (Baq K n)):=
 Agc (Btb K) (Bqf K) (fun n=>kN) n
theorem Bki (K:Nat):OkF 112 (Bqe K):=
 Abg (x:=Bwu K) (L:=[(26,ar Bap (Baq K K))]) (c0:=bd Tryz.f112) (Btb K) (by intro a0 a1;show @Eq _ _ _;kernel_rfl) (kC (Bqg K K) kN) Tryz.func112 trivial
def Anc (K:Nat)(v3:Int)(v4:Int)(v5:Int)(v6:Int)(v7:Int)(v8:Int)(v9:Int)(v10:List Int)(v11:List Int)(v12:List Int)(v13:List Bg)(v14:List A3)(v15:List Int)(v16:F4)(v17:F4):Option (F4×Es):=(bif (v16.Yw != 0)then some (v16,(Es.mk (Fa.mk v4 v5 v6 v7 v8 v9) (Eb.mk v10 v11 v12) v13 v14 v15))else((Au5 K (Es.mk (Fa.mk v4 v5 v6 v7 v8 v9) (Eb.mk v10 v11 v12) v13 v14 v15) 1 1).bind fun r18=>((Aw7 K r18.2.fL).bind fun r19=>((Aun K r18.2.fP).bind fun r20=>(bif (decide (r19<0))then some ((F4.mk 5 (Ca.mk 0 0) (E2.mk (Ca.mk 0 0) 0 0) [] 0 0 0),r18.2)else(bif (decide (r20<0))then some ((F4.mk 5 (Ca.mk 0 0) (E2.mk (Ca.mk 0 0) 0 0) [] 0 0 0),r18.2)else(if(0:Int)≤r19∧r19<(r18.2.fL.length:Int)then((Arq K ((gt r18.2.fL r19).Bz)).bind fun r21=>((Aru K r18.2.fP r20 1 r19).bind fun r22=>((Au6 K r18.2.fC (Bg.mk 1 r21.Bz r21.Js r21.fUp r21.Hf r21.B5 r21.Hg r21.Hh r21.Af r21.Rk r21.Hi r21.Er r21.Dt) r20).bind fun r23=>(if(0:Int)≤r19∧r19<(r18.2.fL.length:Int)then(bif (decide (v3≥0))then((Av2 K (r18.2.fL.set r19.toNat r23.1) v3 r19).bind fun r24=>((Ar6 K r24 r19).bind fun r25=>((As4 K (Es.mk r18.2.fC r22 r24 r18.2.fQ r18.2.Rl) r18.2.fC.Fv).bind fun r26=>some ((F4.mk v16.Yw r25 v16.fR v16.fB v16.Yx r26.1 r18.1),r26.2))))else((Ar6 K (r18.2.fL.set r19.toNat r23.1) r19).bind fun r27=>((As4 K (Es.mk r18.2.fC r22 (r18.2.fL.set r19.toNat r23.1) r18.2.fQ r18.2.Rl) r18.2.fC.Fv).bind fun r28=>some ((F4.mk v16.Yw r27 v16.fR v16.fB v16.Yx r28.1 r18.1),r28.2))))else none))))else none)))))))
def As5 (K:Nat)(v30:Int)(v31:Bool)(v32:Int)(v33:Int)(v34:Int)(v35:Int)(v36:Int)(v37:Int)(v38:List Int)(v39:List Int)(v40:List Int)(v41:List Bg)(v42:List A3)(v43:List Int)(v44:F4)(v45:F4):Option (F4×Es):=(bif v31 then(Anc K v30 v32 v33 v34 v35 v36 v37 v38 v39 v40 v41 v42 v43 (F4.mk 3 v44.fH v44.fR v44.fB v44.Yx v44.Fv v44.Rm) v45)else((Axt K (Es.mk (Fa.mk v32 v33 v34 v35 v36 v37) (Eb.mk v38 v39 v40) v41 v42 v43)).bind fun r46=>(bif (r46==0)then(Anc K v30 v32 v33 v34 v35 v36 v37 v38 v39 v40 v41 v42 v43 (F4.mk 4 v44.fH v44.fR v44.fB v44.Yx v44.Fv v44.Rm) v45)else((Ar7 K (Es.mk (Fa.mk v32 v33 v34 v35 v36 v37) (Eb.mk v38 v39 v40) v41 v42 v43) 1).bind fun r47=>(bif (!r47)then(Anc K v30 v32 v33 v34 v35 v36 v37 v38 v39 v40 v41 v42 v43 (F4.mk 5 v44.fH v44.fR v44.fB v44.Yx v44.Fv v44.Rm) v45)else(Anc K v30 v32 v33 v34 v35 v36 v37 v38 v39 v40 v41 v42 v43 v44 v45))))))
def Awl (K:Nat)(a0:Es)(a1:Ca):Option (F4×Es):=((Ax3 K a0 a1).bind fun r1=>((An4 K a0 a1).bind fun r2=>(bif (r1.2 != 0)then(Anc K r1.1 a0.fC.Af a0.fC.Ez a0.fC.Db a0.fC.Fv a0.fC.Dc a0.fC.E0 a0.fP.Gl a0.fP.Ja a0.fP.Gm a0.fL a0.fQ a0.Rl (F4.mk r1.2 (Ca.mk 0 0) (E2.mk (Ca.mk 0 0) 0 0) [] r2 0 0) (F4.mk 0 (Ca.mk 0 0) (E2.mk (Ca.mk 0 0) 0 0) [] 0 0 0))else(bif (decide (r1.1≥0))then((Au1 K a0.fL r1.1).bind fun r29=>(As5 K r1.1 (decide (r29≥4)) a0.fC.Af a0.fC.Ez a0.fC.Db a0.fC.Fv a0.fC.Dc a0.fC.E0 a0.fP.Gl a0.fP.Ja a0.fP.Gm a0.fL a0.fQ a0.Rl (F4.mk r1.2 (Ca.mk 0 0) (E2.mk (Ca.mk 0 0) 0 0) [] r2 0 0) (F4.mk 0 (Ca.mk 0 0) (E2.mk (Ca.mk 0 0) 0 0) [] 0 0 0)))else(As5 K r1.1 false a0.fC.Af a0.fC.Ez a0.fC.Db a0.fC.Fv a0.fC.Dc a0.fC.E0 a0.fP.Gl a0.fP.Ja a0.fP.Gm a0.fL a0.fQ a0.Rl (F4.mk r1.2 (Ca.mk 0 0) (E2.mk (Ca.mk 0 0) 0 0) [] r2 0 0) (F4.mk 0 (Ca.mk 0 0) (E2.mk (Ca.mk 0 0) 0 0) [] 0 0 0))))))
def s_73:Sig:=⟨[.b 32 false,.v 34],[.n 69 true],false⟩
def B1b (K:Nat):Gu tyU:=⟨s_73,Awl K⟩
def Bqh (K:Nat):=xF s_73 [(86,Bco K),(112,Bqe K),(119,Bvu K),(152,Bvy K),(276,Boo K),(284,Bzr K),(285,Bzv K),(286,Bpd K),(287,Bpw K),(288,B0v K),(289,Bwm K),(290,Bp6 K),(291,Bws K),(292,B09 K)] [] 145 [31,32,74,75] [(1,[.take 1 6 5022,.take 1 7 5023,.take 1 8 5024,.take 1 9 5025,.take 1 10 5026,.take 1 11 5027]),(6,[.take 1 6 5022,.take 1 7 5023,.take 1 8 5024,.take 1 9 5025,.take 1 10 5026,.take 1 11 5027]),(11,[.take 107 7 6719]),(13,[.take 1 9 5025]),(14,[.take 1 6 5022,.take 1 7 5023,.take 1 8 5024]),(23,[.put 5025]),(24,[.put 5025]),(25,[.put 1,.take 1 9 5025,.shal 5025]),(26,[.take 107 7 6719])] [(141,[.put 1])] [15,243] [.cell 4 69]
def A5m:Fs:=⟨[(0,.p 1),(4,.p 104),(5,.v 2),(7,.p 107)],[(1,.box [.v 2,.v 2,.v 2,.v 2,.v 2,.v 2,.T 5 true,.T 3 true,.T 3 true,.T 44 false,.T 159 false,.T 3 true]),(107,.st 69 true),(104,.st 69 true)]⟩
def A6p:Fs:=⟨[(0,.p 1),(4,.p 104),(5,.v 2),(7,.p 107),(29,.v 4)],[(1,.box [.v 2,.v 2,.v 2,.v 2,.v 2,.v 2,.T 5 true,.T 3 true,.T 3 true,.T 44 false,.T 159 false,.T 3 true]),(107,.st 69 true),(104,.st 69 true)]⟩
def A5n (K:Nat)(q:PT A5m):Rt s_73:=Anc K q.1 q.2.1 q.2.2.1 q.2.2.2.1 q.2.2.2.2.1 q.2.2.2.2.2.1 q.2.2.2.2.2.2.1 q.2.2.2.2.2.2.2.1 q.2.2.2.2.2.2.2.2.1 q.2.2.2.2.2.2.2.2.2.1 q.2.2.2.2.2.2.2.2.2.2.1 q.2.2.2.2.2.2.2.2.2.2.2.1 q.2.2.2.2.2.2.2.2.2.2.2.2.1 q.2.2.2.2.2.2.2.2.2.2.2.2.2.1 q.2.2.2.2.2.2.2.2.2.2.2.2.2.2.1
def A6q (K:Nat)(q:PT A6p):Rt s_73:=As5 K q.1 q.2.1 q.2.2.1 q.2.2.2.1 q.2.2.2.2.1 q.2.2.2.2.2.1 q.2.2.2.2.2.2.1 q.2.2.2.2.2.2.2.1 q.2.2.2.2.2.2.2.2.1 q.2.2.2.2.2.2.2.2.2.1 q.2.2.2.2.2.2.2.2.2.2.1 q.2.2.2.2.2.2.2.2.2.2.2.1 q.2.2.2.2.2.2.2.2.2.2.2.2.1 q.2.2.2.2.2.2.2.2.2.2.2.2.2.1 q.2.2.2.2.2.2.2.2.2.2.2.2.2.2.1 q.2.2.2.2.2.2.2.2.2.2.2.2.2.2.2.1
theorem Bqi (K:Nat):AtJ (Bqh K) [] [] (bd Tryz.f255) 15 (A5n K):=fun q=>by kernel_rfl
theorem Bkj (K:Nat):AtJ (Bqh K) [(15,ar A5m (A5n K))] [] (bd Tryz.f255) 243 (A6q K):=fun q=>by kernel_rfl
theorem Bkk (K:Nat):XF [.cell 4 69] s_73 145 [15,243] (Bqh K):=xkF (gC (A56 K) (gC (Bki K) (gC (Bsf K) (gC (Bsj K) (gC (Bi8 K) (gC (Bzs K) (gC (Bzw K) (gC (Bjt K) (gC (Bj7 K) (gC (B0w K) (gC (Bs4 K) (gC (Bka K) (gC (Bs9 K) (gC (B1a K) gN)))))))))))))) oN
theorem Bf4 (K:Nat):CF [.cell 4 69] s_73 145 [15,243] (bd Tryz.f255) [] 15 (ar A5m (A5n K)):=
 Aiz (Bkk K) (Bqi K) kN
theorem Bkl (K:Nat):CF [.cell 4 69] s_73 145 [15,243] (bd Tryz.f255) [] 243 (ar A6p (A6q K)):=
 Aiz (Bkk K) (Bkj K) (kC (Bf4 K) kN)
theorem B1c (K:Nat):OkF 255 (B1b K):=
 Abg (x:=Bqh K) (L:=[(15,ar A5m (A5n K)),(243,ar A6p (A6q K))]) (c0:=bd Tryz.f255) (Bkk K) (by intro a0 a1;show @Eq _ _ _;kernel_rfl) (kC (Bf4 K) (kC (Bkl K) kN)) Tryz.func255 trivial
def Arv (K:Nat)(a0:Int):Option (Bool):=(bif (a0==1)then some true else(bif (a0==2)then some true else some (a0==4)))
def B1d:Sig:=⟨[.v 3],[.v 4],true⟩
def Bkm (K:Nat):Gu tyU:=⟨B1d,Arv K⟩
def B41 (K:Nat):=xF B1d [] [] 13 [4,5,7,8,9] [] [] [] [.tmp 2]
theorem Bf5 (K:Nat):OkF 293 (Bkm K):=
 Abg (x:=B41 K) (L:=[]) (c0:=bd Tryz.f293) (xkF gN oN) (by intro a0;show @Eq _ _ _;kernel_rfl) kN Tryz.func293 trivial
def Asf (K:Nat)(a0:Fa)(a2:Int)(a3:Int)(r6:Int):Nat->Int->Bg->Bg->Int->Int->Int->Int->Int->Int->Int->Int->(List Int)->Int->Int->(List Bf)->(List Int)->Option (Bg×Bool)
 |0,_,_,_,_,_,_,_,_,_,_,_,_,_,_,_,_=>none
 |n1+1,v7,v8,v9,v10,v11,v12,v13,v14,v15,v16,v17,v18,v19,v20,v21,v22=>(bif (decide (v7<r6))then(if(v8.Af++([(Aqc .i64 a2 v7)]:List Int)).length*8≤140737488355328∧(v8.Af++([(Aqc .i64 a2 v7)]:List Int)).length≤maxLen then(Asf K a0 a2 a3 r6 n1 (Aqc .i64 v7 1) (Bg.mk v8.Ja v8.Bz v8.Js v8.fUp v8.Hf v8.B5 v8.Hg v8.Hh (v8.Af++([(Aqc .i64 a2 v7)]:List Int)) v8.Rk v8.Hi v8.Er v8.Dt) v9 v10 v11 v12 v13 v14 v15 v16 v17 v18 v19 v20 v21 v22)else none)else(if(v8.Er++([(Bf.mk (Aqe .i64 a2 a0.Ez) a3 r6)]:List Bf)).length*24≤140737488355328∧(v8.Er++([(Bf.mk (Aqe .i64 a2 a0.Ez) a3 r6)]:List Bf)).length≤maxLen then((Apv K a0 (Bg.mk v8.Ja v8.Bz v8.Js v8.fUp v8.Hf v8.B5 v8.Hg v8.Hh v8.Af v8.Rk v8.Hi (v8.Er++([(Bf.mk (Aqe .i64 a2 a0.Ez) a3 r6)]:List Bf)) v8.Dt)).bind fun r23=>(bif (!r23)then((Alb K (Bg.mk v10 v11 v12 v13 v14 v15 v16 v17 v18 v19 v20 v21 v22)).bind fun r24=>some (r24,false))else some ((Bg.mk v8.Ja v8.Bz v8.Js v8.fUp v8.Hf v8.B5 v8.Hg v8.Hh v8.Af v8.Rk v8.Hi (v8.Er++([(Bf.mk (Aqe .i64 a2 a0.Ez) a3 r6)]:List Bf)) v8.Dt),true)))else none))
def Avi (K:Nat)(a0:Fa)(a1:Bg)(a2:Int)(a3:Int):Option (Bg×Bool):=((Alb K a1).bind fun r1=>((Ak9 K a0).bind fun r2=>(bif r2 then(bif (a1.Ja != 1)then some (r1,false)else((Ap1 K a0 a3).bind fun r3=>(bif r3 then((Arn K a0).bind fun r4=>(bif (decide (a3>r4))then some (r1,false)else((Aaa K a2 0 (Aqd .i64 a0.Af 1)).bind fun r5=>(bif (!r5)then some (r1,false)else((Anb K a0 a3).bind fun r6=>(Asf K a0 a2 a3 r6 K 0 r1 (Bg.mk 0 0 0 0 0 0 0 0 [] 0 0 [] []) a1.Ja a1.Bz a1.Js a1.fUp a1.Hf a1.B5 a1.Hg a1.Hh a1.Af a1.Rk a1.Hi a1.Er a1.Dt))))))else some (r1,false))))else some (r1,false))))
def s_75:Sig:=⟨[.v 25,.v 44,.v 3,.v 3],[.n 44 true,.v 4],true⟩
def B1e (K:Nat):Gu tyU:=⟨s_75,Avi K⟩
def Bwv (K:Nat):=xF s_75 [(84,c_7 K),(142,Bei K),(209,Bed K),(210,c_8 K),(211,c_9 K),(265,Bqb K),(266,Bqc K)] [] 79 [16,17,18,21,22,23,26,27,28,29,33,34,35] [(8,[.take 110 8 6768]),(9,[.take 110 11 6771]),(10,[.take 110 8 6768,.take 110 12 6772])] [] [] [.cell 8 44,.tmp 9]
def A6r:Fs:=⟨[(2,.v 2),(3,.v 2),(4,.p 104),(5,.p 105),(8,.p 108),(10,.p 110),(11,.v 2),(12,.v 2)],[(110,.st 44 true),(108,.st 44 true),(105,.box [.v 2,.v 2,.v 2,.v 2,.v 2,.v 2,.v 2,.v 2,.v 26,.v 2,.v 2,.v 41,.v 26]),(104,.st 25 true)]⟩
def A6s (K:Nat)(n:Nat)(q:PT A6r):Rt s_75:=Asf K q.2.2.2.2.2.2.2.2.2.2.2.2.2.2.2.2.2.2.2.1 q.1 q.2.1 q.2.2.1 n q.2.2.2.1 q.2.2.2.2.1 q.2.2.2.2.2.1 q.2.2.2.2.2.2.1 q.2.2.2.2.2.2.2.1 q.2.2.2.2.2.2.2.2.1 q.2.2.2.2.2.2.2.2.2.1 q.2.2.2.2.2.2.2.2.2.2.1 q.2.2.2.2.2.2.2.2.2.2.2.1 q.2.2.2.2.2.2.2.2.2.2.2.2.1 q.2.2.2.2.2.2.2.2.2.2.2.2.2.1 q.2.2.2.2.2.2.2.2.2.2.2.2.2.2.1 q.2.2.2.2.2.2.2.2.2.2.2.2.2.2.2.1 q.2.2.2.2.2.2.2.2.2.2.2.2.2.2.2.2.1 q.2.2.2.2.2.2.2.2.2.2.2.2.2.2.2.2.2.1 q.2.2.2.2.2.2.2.2.2.2.2.2.2.2.2.2.2.2.1
theorem Bkn (K:Nat):AtL (Bwv K) (fun n=>[]) [] (bd Tryz.f317) 250 (A6s K):=fun n q=>by kernel_rfl
theorem Btc (K:Nat):XF [.cell 8 44,.tmp 9] s_75 79 [] (Bwv K):=xkF (gC (Azn K) (gC (A86 K) (gC (A85 K) (gC (Bcl K) (gC (Bon K) (gC (Bkb K) (gC (Bkc K) gN))))))) oN
theorem Bko (K:Nat)(n:Nat):CF [.cell 8 44,.tmp 9] s_75 79 [] (bd Tryz.f317) [] 250 (ar A6r (A6s K n)):=
 Agc (Btc K) (Bkn K) (fun n=>kN) n
theorem B1f (K:Nat):OkF 317 (B1e K):=
 Abg (x:=Bwv K) (L:=[(250,ar A6r (A6s K K))]) (c0:=bd Tryz.f317) (Btc K) (by intro a0 a1 a2 a3;show @Eq _ _ _;kernel_rfl) (kC (Bko K K) kN) Tryz.func317 trivial
def Avj (K:Nat)(a0:Es)(a1:Int)(a2:Int)(a3:F4):Option (F4×Es):=((Anb K a0.fC a2).bind fun r1=>((Ar7 K a0 r1).bind fun r2=>(bif (!r2)then some ((F4.mk 5 a3.fH a3.fR a3.fB a3.Yx a3.Fv a3.Rm),a0)else((Au5 K a0 0 r1).bind fun r3=>((Ave K r3.2.fP r1).bind fun r4=>(bif (decide (r4<0))then some ((F4.mk 6 a3.fH a3.fR a3.fB a3.Yx a3.Fv r3.1),r3.2)else((Aru K r3.2.fP r4 r1 a1).bind fun r5=>(if(0:Int)≤a1∧a1<(r3.2.fL.length:Int)then((Avi K r3.2.fC (gt r3.2.fL a1) r4 a2).bind fun r6=>(if(0:Int)≤a1∧a1<(r3.2.fL.length:Int)then some ((F4.mk a3.Yw a3.fH a3.fR a3.fB a3.Yx a3.Fv r3.1),(Es.mk r3.2.fC r5 (r3.2.fL.set a1.toNat r6.1) r3.2.fQ r3.2.Rl))else none))else none))))))))
def B1g:Sig:=⟨[.b 32 false,.v 3,.v 3,.v 69],[.v 69],false⟩
def B1h (K:Nat):Gu tyU:=⟨B1g,Avj K⟩
def B42 (K:Nat):=xF B1g [(266,Bqc K),(286,Bpd K),(287,Bpw K),(290,Bp6 K),(315,Bv4 K),(317,B1e K)] [] 77 [] [(2,[.take 1 6 5022,.take 1 7 5023,.take 1 8 5024,.take 1 9 5025,.take 1 10 5026,.take 1 11 5027]),(5,[.put 1]),(6,[.take 1 6 5022,.take 1 7 5023,.take 1 8 5024]),(11,[.take 1 9 5025])] [] [] [.cell 8 69]
theorem B1i (K:Nat):OkF 294 (B1h K):=
 Abg (x:=B42 K) (L:=[]) (c0:=bd Tryz.f294) (xkF (gC (Bkc K) (gC (Bjt K) (gC (Bj7 K) (gC (Bka K) (gC (Bsq K) (gC (B1f K) gN)))))) oN) (by intro a0 a1 a2 a3;show @Eq _ _ _;kernel_rfl) kN Tryz.func294 trivial
def Awm (K:Nat)(a0:Int)(a1:Int):Option (Int):=((Aaa K a0 0 1000000000).bind fun r1=>(bif r1 then((Arv K a1).bind fun r2=>(bif (!r2)then some 0 else(if a1≠(0:Int)then some (Aqe .i64 (Anr .i64 (Aqd .i64 (Aqc .i64 a0 a1) 1) a1) a1)else none)))else some 0))
def B1j:Sig:=⟨[.v 3,.v 3],[.v 3],true⟩
def B1k (K:Nat):Gu tyU:=⟨B1j,Awm K⟩
def B43 (K:Nat):=xF B1j [(84,c_7 K),(293,Bkm K)] [] 21 [6,7,8] [] [] [] [.tmp 4]
theorem B1l (K:Nat):OkF 330 (B1k K):=
 Abg (x:=B43 K) (L:=[]) (c0:=bd Tryz.f330) (xkF (gC (Azn K) (gC (Bf5 K) gN)) oN) (by intro a0 a1;show @Eq _ _ _;kernel_rfl) kN Tryz.func330 trivial
def Au7 (K:Nat)(a0:Fa)(a1:Bg)(a2:Int)(a3:Int):Option (Int×Bool):=((Apv K a0 a1).bind fun r1=>(bif r1 then(bif (a1.Rk==0)then some (0,false)else((Aaa K a2 1 a0.Ez).bind fun r2=>(bif r2 then((Arv K a3).bind fun r3=>(bif (!r3)then some (0,false)else((Awm K a1.Hi a3).bind fun r4=>(bif (decide ((Aqc .i64 r4 a2)>a0.Ez))then some (0,false)else some ((Aqc .i64 (Aqe .i64 (Aqd .i64 a1.Rk 1) a0.Ez) r4),true)))))else some (0,false))))else some (0,false)))
def B1m:Sig:=⟨[.v 25,.v 44,.v 3,.v 3],[.v 3,.v 4],true⟩
def Bww (K:Nat):Gu tyU:=⟨B1m,Au7 K⟩
def B44 (K:Nat):=xF B1m [(84,c_7 K),(142,Bei K),(293,Bkm K),(330,B1k K)] [] 50 [13,14,15,18,19,20,24,25,26,27] [] [] [] [.tmp 8,.tmp 9]
theorem Btd (K:Nat):OkF 327 (Bww K):=
 Abg (x:=B44 K) (L:=[]) (c0:=bd Tryz.f327) (xkF (gC (Azn K) (gC (A86 K) (gC (Bf5 K) (gC (B1l K) gN)))) oN) (by intro a0 a1 a2 a3;show @Eq _ _ _;kernel_rfl) kN Tryz.func327 trivial
def Ats (K:Nat)(a0:Fa)(a1:Bg)(a2:Int)(a3:Int):Option (Bool):=((Au7 K a0 a1 a2 a3).bind fun r1=>(bif r1.2 then some false else((Apv K a0 a1).bind fun r2=>(bif r2 then(bif (a1.Ja==1)then((Aaa K a2 1 a0.Ez).bind fun r3=>(bif r3 then((Arv K a3).bind fun r4=>some r4)else some false))else some false)else some false))))
def B1n:Sig:=⟨[.v 25,.v 44,.v 3,.v 3],[.v 4],true⟩
def B1o (K:Nat):Gu tyU:=⟨B1n,Ats K⟩
def B45 (K:Nat):=xF B1n [(84,c_7 K),(142,Bei K),(293,Bkm K),(327,Bww K)] [] 41 [19,20,21,24,25,26,29,30,31,35,36,37] [] [] [] [.tmp 8]
theorem B1p (K:Nat):OkF 318 (B1o K):=
 Abg (x:=B45 K) (L:=[]) (c0:=bd Tryz.f318) (xkF (gC (Azn K) (gC (A86 K) (gC (Bf5 K) (gC (Btd K) gN)))) oN) (by intro a0 a1 a2 a3;show @Eq _ _ _;kernel_rfl) kN Tryz.func318 trivial
def Avk (K:Nat)(a0:Fa)(a1:Bg)(a2:Int)(a3:Int):Option (Bg×Bool):=((Alb K a1).bind fun r1=>((Au7 K a0 a1 a2 a3).bind fun r2=>(bif r2.2 then(bif (decide ((a1.Er.length:Int)≥12))then some (r1,false)else(if(r1.Er++([(Bf.mk r2.1 a2 0)]:List Bf)).length*24≤140737488355328∧(r1.Er++([(Bf.mk r2.1 a2 0)]:List Bf)).length≤maxLen then some ((Bg.mk r1.Ja r1.Bz r1.Js r1.fUp r1.Hf r1.B5 r1.Hg r1.Hh r1.Af r1.Rk (Aqc .i64 (Aqd .i64 r2.1 (Aqe .i64 (Aqd .i64 a1.Rk 1) a0.Ez)) a2) (r1.Er++([(Bf.mk r2.1 a2 0)]:List Bf)) r1.Dt),true)else none))else some (r1,false))))
def B1q:Sig:=⟨[.v 25,.v 44,.v 3,.v 3],[.n 44 true,.v 4],true⟩
def B1r (K:Nat):Gu tyU:=⟨B1q,Avk K⟩
def B46 (K:Nat):=xF B1q [(209,Bed K),(327,Bww K)] [] 52 [23,24,25] [] [] [] [.cell 8 44,.tmp 9]
theorem B1s (K:Nat):OkF 319 (B1r K):=
 Abg (x:=B46 K) (L:=[]) (c0:=bd Tryz.f319) (xkF (gC (A85 K) (gC (Btd K) gN)) oN) (by intro a0 a1 a2 a3;show @Eq _ _ _;kernel_rfl) kN Tryz.func319 trivial
def Asg (K:Nat)(a1:Int)(a2:Int)(a3:Int)(v7:Int)(v8:Int)(v9:Int)(v10:Int)(v11:Int)(v12:Int)(v13:List Int)(v14:List Int)(v15:List Int)(v16:List Bg)(v17:List A3)(v18:List Int)(v19:F4)(v20:Int)(v21:Int)(v22:Int)(v23:Int)(v24:Int)(v25:Int)(v26:Int)(v27:List Int)(v28:Int)(v29:Int)(v30:Int):Option (F4×Es):=(if(0:Int)≤a1∧a1<(v16.length:Int)then((Avk K (Fa.mk v7 v8 v9 v10 v11 v12) (gt v16 a1) a2 a3).bind fun r31=>(if(0:Int)≤a1∧a1<(v16.length:Int)then some ((F4.mk v20 (Ca.mk v21 v22) (E2.mk (Ca.mk v23 v24) v25 v26) v27 v28 v29 v30),(Es.mk (Fa.mk v7 v8 v9 v10 v11 v12) (Eb.mk v13 v14 v15) (v16.set a1.toNat r31.1) v17 v18))else none))else none)
def Avl (K:Nat)(a0:Es)(a1:Int)(a2:Int)(a3:Int)(a4:F4):Option (F4×Es):=(if(0:Int)≤a1∧a1<(a0.fL.length:Int)then((Ats K a0.fC (gt a0.fL a1) a2 a3).bind fun r1=>(bif r1 then((Ar7 K a0 1).bind fun r2=>(bif (!r2)then some ((F4.mk 5 a4.fH a4.fR a4.fB a4.Yx a4.Fv a4.Rm),a0)else((Au5 K a0 0 1).bind fun r3=>((Aun K r3.2.fP).bind fun r4=>(bif (decide (r4<0))then some ((F4.mk 5 a4.fH a4.fR a4.fB a4.Yx a4.Fv r3.1),r3.2)else((Aru K r3.2.fP r4 1 a1).bind fun r5=>(if(0:Int)≤a1∧a1<(r3.2.fL.length:Int)then((Au6 K r3.2.fC (gt r3.2.fL a1) r4).bind fun r6=>(if(0:Int)≤a1∧a1<(r3.2.fL.length:Int)then(Asg K a1 a2 a3 r3.2.fC.Af r3.2.fC.Ez r3.2.fC.Db r3.2.fC.Fv r3.2.fC.Dc r3.2.fC.E0 r5.Gl r5.Ja r5.Gm (r3.2.fL.set a1.toNat r6.1) r3.2.fQ r3.2.Rl (F4.mk 0 (Ca.mk 0 0) (E2.mk (Ca.mk 0 0) 0 0) [] 0 0 0) a4.Yw a4.fH.As a4.fH.Bz a4.fR.fH.As a4.fR.fH.Bz a4.fR.Js a4.fR.Xh a4.fB a4.Yx a4.Fv r3.1)else none))else none)))))))else(Asg K a1 a2 a3 a0.fC.Af a0.fC.Ez a0.fC.Db a0.fC.Fv a0.fC.Dc a0.fC.E0 a0.fP.Gl a0.fP.Ja a0.fP.Gm a0.fL a0.fQ a0.Rl (F4.mk 0 (Ca.mk 0 0) (E2.mk (Ca.mk 0 0) 0 0) [] 0 0 0) a4.Yw a4.fH.As a4.fH.Bz a4.fR.fH.As a4.fR.fH.Bz a4.fR.Js a4.fR.Xh a4.fB a4.Yx a4.Fv a4.Rm)))else none)
def s_81:Sig:=⟨[.b 32 false,.v 3,.v 3,.v 3,.v 69],[.v 69],false⟩
def B1t (K:Nat):Gu tyU:=⟨s_81,Avl K⟩
def Bwx (K:Nat):=xF s_81 [(286,Bpd K),(287,Bpw K),(289,Bwm K),(290,Bp6 K),(291,Bws K),(318,B1o K),(319,B1r K)] [] 107 [] [(1,[.take 1 9 5025]),(2,[.take 1 6 5022,.take 1 7 5023,.take 1 8 5024,.take 1 10 5026,.take 1 11 5027]),(5,[.put 1]),(6,[.take 1 6 5022,.take 1 7 5023,.take 1 8 5024]),(11,[.take 1 9 5025]),(13,[.take 1 9 5025])] [] [3] [.cell 10 69]
def Bej:Fs:=⟨[(0,.p 1),(1,.v 2),(2,.v 2),(3,.v 2),(9,.p 109),(10,.p 110)],[(1,.box [.v 2,.v 2,.v 2,.v 2,.v 2,.v 2,.T 5 true,.T 3 true,.T 3 true,.T 44 false,.T 159 false,.T 3 true]),(110,.st 69 true),(109,.box [.v 2,.v 2,.v 2,.v 2,.v 2,.v 2,.v 2,.v 22,.v 2,.v 2,.v 2])]⟩
def Bek (K:Nat)(q:PT Bej):Rt s_81:=Asg K q.1 q.2.1 q.2.2.1 q.2.2.2.1 q.2.2.2.2.1 q.2.2.2.2.2.1 q.2.2.2.2.2.2.1 q.2.2.2.2.2.2.2.1 q.2.2.2.2.2.2.2.2.1 q.2.2.2.2.2.2.2.2.2.1 q.2.2.2.2.2.2.2.2.2.2.1 q.2.2.2.2.2.2.2.2.2.2.2.1 q.2.2.2.2.2.2.2.2.2.2.2.2.1 q.2.2.2.2.2.2.2.2.2.2.2.2.2.1 q.2.2.2.2.2.2.2.2.2.2.2.2.2.2.1 q.2.2.2.2.2.2.2.2.2.2.2.2.2.2.2.1 q.2.2.2.2.2.2.2.2.2.2.2.2.2.2.2.2.1 q.2.2.2.2.2.2.2.2.2.2.2.2.2.2.2.2.2.1 q.2.2.2.2.2.2.2.2.2.2.2.2.2.2.2.2.2.2.1 q.2.2.2.2.2.2.2.2.2.2.2.2.2.2.2.2.2.2.2.1 q.2.2.2.2.2.2.2.2.2.2.2.2.2.2.2.2.2.2.2.2.1 q.2.2.2.2.2.2.2.2.2.2.2.2.2.2.2.2.2.2.2.2.2.1 q.2.2.2.2.2.2.2.2.2.2.2.2.2.2.2.2.2.2.2.2.2.2.1 q.2.2.2.2.2.2.2.2.2.2.2.2.2.2.2.2.2.2.2.2.2.2.2.1 q.2.2.2.2.2.2.2.2.2.2.2.2.2.2.2.2.2.2.2.2.2.2.2.2.1 q.2.2.2.2.2.2.2.2.2.2.2.2.2.2.2.2.2.2.2.2.2.2.2.2.2.1 q.2.2.2.2.2.2.2.2.2.2.2.2.2.2.2.2.2.2.2.2.2.2.2.2.2.2.1
theorem Bwy (K:Nat):AtJ (Bwx K) [] [] (bd Tryz.f295) 3 (Bek K):=fun q=>by kernel_rfl
theorem Bte (K:Nat):XF [.cell 10 69] s_81 107 [3] (Bwx K):=xkF (gC (Bjt K) (gC (Bj7 K) (gC (Bs4 K) (gC (Bka K) (gC (Bs9 K) (gC (B1p K) (gC (B1s K) gN))))))) oN
theorem Bwz (K:Nat):CF [.cell 10 69] s_81 107 [3] (bd Tryz.f295) [] 3 (ar Bej (Bek K)):=
 Aiz (Bte K) (Bwy K) kN
theorem B1u (K:Nat):OkF 295 (B1t K):=
 Abg (x:=Bwx K) (L:=[(3,ar Bej (Bek K))]) (c0:=bd Tryz.f295) (Bte K) (by intro a0 a1 a2 a3 a4;show @Eq _ _ _;kernel_rfl) (kC (Bwz K) kN) Tryz.func295 trivial
def Ash (K:Nat)(a1:Ca)(v5:Int)(v22:Int)(v23:Int)(v24:Int)(v25:Int)(v26:Int)(v27:Int)(v28:List Int)(v29:List Int)(v30:List Int)(v31:List Bg)(v32:List A3)(v33:List Int)(v34:Int)(v35:Int)(v36:Int)(v37:Int)(v38:Int)(v39:Int)(v40:Int)(v41:List Int)(v42:Int)(v43:Int)(v44:Int):Option (F4×Es):=(bif (v34 != 0)then some ((F4.mk v34 (Ca.mk v35 v36) (E2.mk (Ca.mk v37 v38) v39 v40) v41 v42 v43 v44),(Es.mk (Fa.mk v22 v23 v24 v25 v26 v27) (Eb.mk v28 v29 v30) v31 v32 v33))else(if(0:Int)≤v5∧v5<(v31.length:Int)then(if(0:Int)≤v5∧v5<(v31.length:Int)then((As4 K (Es.mk (Fa.mk v22 v23 v24 v25 v26 v27) (Eb.mk v28 v29 v30) v31 v32 v33) v25).bind fun r45=>some ((F4.mk v34 (Ca.mk v35 v36) (E2.mk a1 ((gt v31 v5).Js) (Aqd .i64 (((gt v31 v5).Er).length:Int) 1)) v41 v42 r45.1 v44),r45.2))else none)else none))
def Ap8 (K:Nat)(a1:Ca)(a2:Int)(a3:Int)(v5:Int)(v6:Int)(v7:Int)(v8:Int)(v9:Int)(v10:Int)(v11:Int)(v12:List Int)(v13:List Int)(v14:List Int)(v15:List Bg)(v16:List A3)(v17:List Int)(v18:F4)(v19:F4):Option (F4×Es):=(bif (v18.Yw != 0)then some (v18,(Es.mk (Fa.mk v6 v7 v8 v9 v10 v11) (Eb.mk v12 v13 v14) v15 v16 v17))else((Ap1 K (Fa.mk v6 v7 v8 v9 v10 v11) a2).bind fun r20=>(bif r20 then((Avj K (Es.mk (Fa.mk v6 v7 v8 v9 v10 v11) (Eb.mk v12 v13 v14) v15 v16 v17) v5 a2 v18).bind fun r21=>(Ash K a1 v5 r21.2.fC.Af r21.2.fC.Ez r21.2.fC.Db r21.2.fC.Fv r21.2.fC.Dc r21.2.fC.E0 r21.2.fP.Gl r21.2.fP.Ja r21.2.fP.Gm r21.2.fL r21.2.fQ r21.2.Rl r21.1.Yw r21.1.fH.As r21.1.fH.Bz r21.1.fR.fH.As r21.1.fR.fH.Bz r21.1.fR.Js r21.1.fR.Xh r21.1.fB r21.1.Yx r21.1.Fv r21.1.Rm))else((Avl K (Es.mk (Fa.mk v6 v7 v8 v9 v10 v11) (Eb.mk v12 v13 v14) v15 v16 v17) v5 a2 a3 v18).bind fun r46=>(Ash K a1 v5 r46.2.fC.Af r46.2.fC.Ez r46.2.fC.Db r46.2.fC.Fv r46.2.fC.Dc r46.2.fC.E0 r46.2.fP.Gl r46.2.fP.Ja r46.2.fP.Gm r46.2.fL r46.2.fQ r46.2.Rl r46.1.Yw r46.1.fH.As r46.1.fH.Bz r46.1.fR.fH.As r46.1.fR.fH.Bz r46.1.fR.Js r46.1.fR.Xh r46.1.fB r46.1.Yx r46.1.Fv r46.1.Rm)))))
def Avm (K:Nat)(a0:Es)(a1:Ca)(a2:Int)(a3:Int):Option (F4×Es):=((Aaa K a2 1 200).bind fun r1=>(bif r1 then((Arv K a3).bind fun r2=>(bif (!r2)then some ((F4.mk 1 (Ca.mk 0 0) (E2.mk (Ca.mk 0 0) 0 0) [] 0 0 0),a0)else((Alx K a0 a1).bind fun r3=>((An4 K a0 a1).bind fun r4=>(bif (r3.2==0)then(if(0:Int)≤r3.1∧r3.1<(a0.fL.length:Int)then(bif (decide ((((gt a0.fL r3.1).Er).length:Int)≥12))then(Ap8 K a1 a2 a3 r3.1 a0.fC.Af a0.fC.Ez a0.fC.Db a0.fC.Fv a0.fC.Dc a0.fC.E0 a0.fP.Gl a0.fP.Ja a0.fP.Gm a0.fL a0.fQ a0.Rl (F4.mk 8 (Ca.mk 0 0) (E2.mk (Ca.mk 0 0) 0 0) [] r4 0 0) (F4.mk 0 (Ca.mk 0 0) (E2.mk (Ca.mk 0 0) 0 0) [] 0 0 0))else(Ap8 K a1 a2 a3 r3.1 a0.fC.Af a0.fC.Ez a0.fC.Db a0.fC.Fv a0.fC.Dc a0.fC.E0 a0.fP.Gl a0.fP.Ja a0.fP.Gm a0.fL a0.fQ a0.Rl (F4.mk r3.2 (Ca.mk 0 0) (E2.mk (Ca.mk 0 0) 0 0) [] r4 0 0) (F4.mk 0 (Ca.mk 0 0) (E2.mk (Ca.mk 0 0) 0 0) [] 0 0 0)))else none)else(Ap8 K a1 a2 a3 r3.1 a0.fC.Af a0.fC.Ez a0.fC.Db a0.fC.Fv a0.fC.Dc a0.fC.E0 a0.fP.Gl a0.fP.Ja a0.fP.Gm a0.fL a0.fQ a0.Rl (F4.mk r3.2 (Ca.mk 0 0) (E2.mk (Ca.mk 0 0) 0 0) [] r4 0 0) (F4.mk 0 (Ca.mk 0 0) (E2.mk (Ca.mk 0 0) 0 0) [] 0 0 0)))))))else some ((F4.mk 1 (Ca.mk 0 0) (E2.mk (Ca.mk 0 0) 0 0) [] 0 0 0),a0)))
def s_82:Sig:=⟨[.b 32 false,.v 34,.v 3,.v 3],[.v 69],false⟩
def B1v (K:Nat):Gu tyU:=⟨s_82,Avm K⟩
def Bqj (K:Nat):=xF s_82 [(84,c_7 K),(85,Bec K),(86,Bco K),(112,Bqe K),(265,Bqb K),(293,Bkm K),(294,B1h K),(295,B1t K)] [] 106 [13,14,15,37,38] [(3,[.take 1 6 5022,.take 1 7 5023,.take 1 8 5024,.take 1 9 5025,.take 1 10 5026,.take 1 11 5027]),(8,[.take 111 7 6783]),(10,[.take 111 7 6783,.frz 6783]),(11,[.take 111 7 6783,.frz 6783]),(14,[.take 1 9 5025]),(15,[.put 1])] [] [31,127] [.cell 8 69]
def A6t:Fs:=⟨[(0,.p 1),(5,.p 105),(8,.p 108),(9,.v 2),(11,.p 111)],[(1,.box [.v 2,.v 2,.v 2,.v 2,.v 2,.v 2,.T 5 true,.T 3 true,.T 3 true,.T 44 false,.T 159 false,.T 3 true]),(111,.box [.v 2,.v 2,.v 2,.v 2,.v 2,.v 2,.v 2,.v 22,.v 2,.v 2,.v 2]),(108,.st 69 true),(105,.st 34 true)]⟩
def Bar:Fs:=⟨[(0,.p 1),(2,.v 2),(3,.v 2),(5,.p 105),(8,.p 108),(9,.v 2),(11,.p 111)],[(1,.box [.v 2,.v 2,.v 2,.v 2,.v 2,.v 2,.T 5 true,.T 3 true,.T 3 true,.T 44 false,.T 159 false,.T 3 true]),(111,.st 69 true),(108,.st 69 true),(105,.st 34 true)]⟩
def A6u (K:Nat)(q:PT A6t):Rt s_82:=Ash K q.2.2.2.2.2.2.2.2.2.2.2.2.2.2.2.2.2.2.2.2.2.2.2.2.2.1 q.1 q.2.1 q.2.2.1 q.2.2.2.1 q.2.2.2.2.1 q.2.2.2.2.2.1 q.2.2.2.2.2.2.1 q.2.2.2.2.2.2.2.1 q.2.2.2.2.2.2.2.2.1 q.2.2.2.2.2.2.2.2.2.1 q.2.2.2.2.2.2.2.2.2.2.1 q.2.2.2.2.2.2.2.2.2.2.2.1 q.2.2.2.2.2.2.2.2.2.2.2.2.1 q.2.2.2.2.2.2.2.2.2.2.2.2.2.1 q.2.2.2.2.2.2.2.2.2.2.2.2.2.2.1 q.2.2.2.2.2.2.2.2.2.2.2.2.2.2.2.1 q.2.2.2.2.2.2.2.2.2.2.2.2.2.2.2.2.1 q.2.2.2.2.2.2.2.2.2.2.2.2.2.2.2.2.2.1 q.2.2.2.2.2.2.2.2.2.2.2.2.2.2.2.2.2.2.1 q.2.2.2.2.2.2.2.2.2.2.2.2.2.2.2.2.2.2.2.1 q.2.2.2.2.2.2.2.2.2.2.2.2.2.2.2.2.2.2.2.2.1 q.2.2.2.2.2.2.2.2.2.2.2.2.2.2.2.2.2.2.2.2.2.1 q.2.2.2.2.2.2.2.2.2.2.2.2.2.2.2.2.2.2.2.2.2.2.1 q.2.2.2.2.2.2.2.2.2.2.2.2.2.2.2.2.2.2.2.2.2.2.2.1
def Bas (K:Nat)(q:PT Bar):Rt s_82:=Ap8 K q.2.2.2.2.2.2.2.2.2.2.2.2.2.2.2.2.2.1 q.1 q.2.1 q.2.2.1 q.2.2.2.1 q.2.2.2.2.1 q.2.2.2.2.2.1 q.2.2.2.2.2.2.1 q.2.2.2.2.2.2.2.1 q.2.2.2.2.2.2.2.2.1 q.2.2.2.2.2.2.2.2.2.1 q.2.2.2.2.2.2.2.2.2.2.1 q.2.2.2.2.2.2.2.2.2.2.2.1 q.2.2.2.2.2.2.2.2.2.2.2.2.1 q.2.2.2.2.2.2.2.2.2.2.2.2.2.1 q.2.2.2.2.2.2.2.2.2.2.2.2.2.2.1 q.2.2.2.2.2.2.2.2.2.2.2.2.2.2.2.1 q.2.2.2.2.2.2.2.2.2.2.2.2.2.2.2.2.1
theorem Bkp (K:Nat):AtJ (Bqj K) [] [] (bd Tryz.f256) 127 (A6u K):=fun q=>by kernel_rfl
theorem Bqk (K:Nat):AtJ (Bqj K) [(127,ar A6t (A6u K))] [] (bd Tryz.f256) 31 (Bas K):=fun q=>by kernel_rfl
theorem Bkq (K:Nat):XF [.cell 8 69] s_82 106 [31,127] (Bqj K):=xkF (gC (Azn K) (gC (A84 K) (gC (A56 K) (gC (Bki K) (gC (Bkb K) (gC (Bf5 K) (gC (B1i K) (gC (B1u K) gN)))))))) oN
theorem Bkr (K:Nat):CF [.cell 8 69] s_82 106 [31,127] (bd Tryz.f256) [] 127 (ar A6t (A6u K)):=
 Aiz (Bkq K) (Bkp K) kN
theorem Bql (K:Nat):CF [.cell 8 69] s_82 106 [31,127] (bd Tryz.f256) [] 31 (ar Bar (Bas K)):=
 Aiz (Bkq K) (Bqk K) (kC (Bkr K) kN)
theorem B1w (K:Nat):OkF 256 (B1v K):=
 Abg (x:=Bqj K) (L:=[(31,ar Bar (Bas K))]) (c0:=bd Tryz.f256) (Bkq K) (by intro a0 a1 a2 a3;show @Eq _ _ _;kernel_rfl) (kC (Bql K) kN) Tryz.func256 trivial
def Awn (K:Nat)(a0:Bg):Option (Bg):=((Alb K a0).bind fun r1=>some (Bg.mk r1.Ja r1.Bz (Aqc .i64 a0.Js 1) r1.fUp r1.Hf 0 r1.Hg r1.Hh ([]:List Int) 0 0 ([]:List Bf) ([]:List Int)))
def B1x:Sig:=⟨[.v 44],[.n 44 true],true⟩
def B1y (K:Nat):Gu tyU:=⟨B1x,Awn K⟩
def B47 (K:Nat):=xF B1x [(209,Bed K)] [] 20 [] [] [] [] [.cell 2 44]
theorem B1z (K:Nat):OkF 170 (B1y K):=
 Abg (x:=B47 K) (L:=[]) (c0:=bd Tryz.f170) (xkF (gC (A85 K) gN) oN) (by intro a0;show @Eq _ _ _;kernel_rfl) kN Tryz.func170 trivial
def Att (K:Nat)(a0:Es)(a1:Int):Option (Es):=(if(0:Int)≤a1∧a1<(a0.fL.length:Int)then((At4 K (gt a0.fL a1) 0).bind fun r1=>(if(0:Int)≤a1∧a1<(a0.fL.length:Int)then((Arh K a0 ((gt a0.fL a1).Af)).bind fun r2=>(if(0:Int)≤a1∧a1<(r2.fL.length:Int)then((Awn K (gt r2.fL a1)).bind fun r3=>(if(0:Int)≤a1∧a1<(r2.fL.length:Int)then(if(r2.fQ++([r1]:List A3)).length*72≤140737488355328∧(r2.fQ++([r1]:List A3)).length≤maxLen then some (Es.mk r2.fC r2.fP (r2.fL.set a1.toNat r3) (r2.fQ++([r1]:List A3)) r2.Rl)else none)else none))else none))else none))else none)
def B10:Sig:=⟨[.b 32 false,.v 3],[],false⟩
def B11 (K:Nat):Gu tyU:=⟨B10,Att K⟩
def B48 (K:Nat):=xF B10 [(168,Bwg K),(169,Bpp K),(170,B1y K)] [] 47 [] [(0,[.take 1 9 5025]),(1,[.put 1,.take 1 9 5025]),(2,[.take 1 9 5025]),(3,[.take 1 10 5026,.frz 20384,.frz 20385])] [(21,[.put 1])] [] []
theorem B12 (K:Nat):OkF 101 (B11 K):=
 Abg (x:=B48 K) (L:=[]) (c0:=bd Tryz.f101) (xkF (gC (Bsx K) (gC (Bj4 K) (gC (B1z K) gN))) oN) (by intro a0 a1;show @Eq _ _ _;kernel_rfl) kN Tryz.func101 trivial
def Atl (K:Nat)(a1:Int)(v21:List Bg):Option ((List Bg)):=(if(0:Int)≤a1∧a1<(v21.length:Int)then(Asn (v21.set a1.toNat (Bg.mk ((gt v21 a1).Ja) ((gt v21 a1).Bz) ((gt v21 a1).Js) 0 ((gt v21 a1).Hf) ((gt v21 a1).B5) ((gt v21 a1).Hg) ((gt v21 a1).Hh) ((gt v21 a1).Af) ((gt v21 a1).Rk) ((gt v21 a1).Hi) ((gt v21 a1).Er) ((gt v21 a1).Dt))) fun v22=>(if(0:Int)≤a1∧a1<(v22.length:Int)then(Asn (v22.set a1.toNat (Bg.mk ((gt v22 a1).Ja) ((gt v22 a1).Bz) ((gt v22 a1).Js) ((gt v22 a1).fUp) 0 ((gt v22 a1).B5) ((gt v22 a1).Hg) ((gt v22 a1).Hh) ((gt v22 a1).Af) ((gt v22 a1).Rk) ((gt v22 a1).Hi) ((gt v22 a1).Er) ((gt v22 a1).Dt))) fun v23=>(if(0:Int)≤a1∧a1<(v23.length:Int)then(Asn (v23.set a1.toNat (Bg.mk ((gt v23 a1).Ja) ((gt v23 a1).Bz) ((gt v23 a1).Js) ((gt v23 a1).fUp) ((gt v23 a1).Hf) ((gt v23 a1).B5) 0 ((gt v23 a1).Hh) ((gt v23 a1).Af) ((gt v23 a1).Rk) ((gt v23 a1).Hi) ((gt v23 a1).Er) ((gt v23 a1).Dt))) fun v24=>(if(0:Int)≤a1∧a1<(v24.length:Int)then(Asn (v24.set a1.toNat (Bg.mk ((gt v24 a1).Ja) ((gt v24 a1).Bz) ((gt v24 a1).Js) ((gt v24 a1).fUp) ((gt v24 a1).Hf) ((gt v24 a1).B5) ((gt v24 a1).Hg) 0 ((gt v24 a1).Af) ((gt v24 a1).Rk) ((gt v24 a1).Hi) ((gt v24 a1).Er) ((gt v24 a1).Dt))) fun v25=>some v25)else none))else none))else none))else none)
def Asb (K:Nat)(a0:List Bg)(a1:Int)(v5:List Bg)(v6:Int)(v7:Int)(v8:Int)(v9:Int)(v10:Int)(v11:Int)(v12:Int)(v13:Int)(v14:List Int)(v15:Int)(v16:Int)(v17:List Bf)(v18:List Int):Option ((List Bg)):=((Abl K a0 v12).bind fun r19=>(bif r19 then(if(0:Int)≤(Aqd .i64 v12 1)∧(Aqd .i64 v12 1)<(v5.length:Int)then(Asn (v5.set (Aqd .i64 v12 1).toNat (Bg.mk ((gt v5 (Aqd .i64 v12 1)).Ja) ((gt v5 (Aqd .i64 v12 1)).Bz) ((gt v5 (Aqd .i64 v12 1)).Js) ((gt v5 (Aqd .i64 v12 1)).fUp) ((gt v5 (Aqd .i64 v12 1)).Hf) ((gt v5 (Aqd .i64 v12 1)).B5) ((gt v5 (Aqd .i64 v12 1)).Hg) v13 ((gt v5 (Aqd .i64 v12 1)).Af) ((gt v5 (Aqd .i64 v12 1)).Rk) ((gt v5 (Aqd .i64 v12 1)).Hi) ((gt v5 (Aqd .i64 v12 1)).Er) ((gt v5 (Aqd .i64 v12 1)).Dt))) fun v20=>(Atl K a1 v20))else none)else(Atl K a1 v5)))
def Aq4 (K:Nat)(a0:List Bg)(a1:Int)(r1:(List Bg))(v27:Bool)(v28:Int)(v29:Int)(v30:Int)(v31:Int)(v32:Int)(v33:Int)(v34:Int)(v35:Int)(v36:List Int)(v37:Int)(v38:Int)(v39:List Bf)(v40:List Int):Option ((List Bg)):=(bif v27 then(if(0:Int)≤(Aqd .i64 v31 1)∧(Aqd .i64 v31 1)<(r1.length:Int)then(Asn (r1.set (Aqd .i64 v31 1).toNat (Bg.mk ((gt r1 (Aqd .i64 v31 1)).Ja) ((gt r1 (Aqd .i64 v31 1)).Bz) ((gt r1 (Aqd .i64 v31 1)).Js) ((gt r1 (Aqd .i64 v31 1)).fUp) ((gt r1 (Aqd .i64 v31 1)).Hf) v34 ((gt r1 (Aqd .i64 v31 1)).Hg) ((gt r1 (Aqd .i64 v31 1)).Hh) ((gt r1 (Aqd .i64 v31 1)).Af) ((gt r1 (Aqd .i64 v31 1)).Rk) ((gt r1 (Aqd .i64 v31 1)).Hi) ((gt r1 (Aqd .i64 v31 1)).Er) ((gt r1 (Aqd .i64 v31 1)).Dt))) fun v41=>(Asb K a0 a1 v41 v28 v29 v30 v31 v32 v33 v34 v35 v36 v37 v38 v39 v40))else none)else(Asb K a0 a1 r1 v28 v29 v30 v31 v32 v33 v34 v35 v36 v37 v38 v39 v40))
def Axg (K:Nat)(a0:List Bg)(a1:Int):Option ((List Bg)):=((Atd K a0).bind fun r1=>((Abl K a0 (Aqc .i64 a1 1)).bind fun r2=>(bif (!r2)then some r1 else(if(0:Int)≤a1∧a1<(a0.length:Int)then((Abl K a0 ((gt a0 a1).Hh)).bind fun r3=>(bif r3 then(if(0:Int)≤(Aqd .i64 ((gt a0 a1).Hh) 1)∧(Aqd .i64 ((gt a0 a1).Hh) 1)<(r1.length:Int)then(Asn (r1.set (Aqd .i64 ((gt a0 a1).Hh) 1).toNat (Bg.mk ((gt r1 (Aqd .i64 ((gt a0 a1).Hh) 1)).Ja) ((gt r1 (Aqd .i64 ((gt a0 a1).Hh) 1)).Bz) ((gt r1 (Aqd .i64 ((gt a0 a1).Hh) 1)).Js) ((gt r1 (Aqd .i64 ((gt a0 a1).Hh) 1)).fUp) ((gt r1 (Aqd .i64 ((gt a0 a1).Hh) 1)).Hf) ((gt r1 (Aqd .i64 ((gt a0 a1).Hh) 1)).B5) ((gt a0 a1).Hg) ((gt r1 (Aqd .i64 ((gt a0 a1).Hh) 1)).Hh) ((gt r1 (Aqd .i64 ((gt a0 a1).Hh) 1)).Af) ((gt r1 (Aqd .i64 ((gt a0 a1).Hh) 1)).Rk) ((gt r1 (Aqd .i64 ((gt a0 a1).Hh) 1)).Hi) ((gt r1 (Aqd .i64 ((gt a0 a1).Hh) 1)).Er) ((gt r1 (Aqd .i64 ((gt a0 a1).Hh) 1)).Dt))) fun v4=>(Asb K a0 a1 v4 ((gt a0 a1).Ja) ((gt a0 a1).Bz) ((gt a0 a1).Js) ((gt a0 a1).fUp) ((gt a0 a1).Hf) ((gt a0 a1).B5) ((gt a0 a1).Hg) ((gt a0 a1).Hh) ((gt a0 a1).Af) ((gt a0 a1).Rk) ((gt a0 a1).Hi) ((gt a0 a1).Er) ((gt a0 a1).Dt)))else none)else(bif (((gt a0 a1).Hh)==0)then((Abl K a0 ((gt a0 a1).fUp)).bind fun r26=>(bif r26 then(if(0:Int)≤(Aqd .i64 ((gt a0 a1).fUp) 1)∧(Aqd .i64 ((gt a0 a1).fUp) 1)<(a0.length:Int)then(Aq4 K a0 a1 r1 (((gt a0 (Aqd .i64 ((gt a0 a1).fUp) 1)).B5)==(Aqc .i64 a1 1)) ((gt a0 a1).Ja) ((gt a0 a1).Bz) ((gt a0 a1).Js) ((gt a0 a1).fUp) ((gt a0 a1).Hf) ((gt a0 a1).B5) ((gt a0 a1).Hg) ((gt a0 a1).Hh) ((gt a0 a1).Af) ((gt a0 a1).Rk) ((gt a0 a1).Hi) ((gt a0 a1).Er) ((gt a0 a1).Dt))else none)else(Aq4 K a0 a1 r1 false ((gt a0 a1).Ja) ((gt a0 a1).Bz) ((gt a0 a1).Js) ((gt a0 a1).fUp) ((gt a0 a1).Hf) ((gt a0 a1).B5) ((gt a0 a1).Hg) ((gt a0 a1).Hh) ((gt a0 a1).Af) ((gt a0 a1).Rk) ((gt a0 a1).Hi) ((gt a0 a1).Er) ((gt a0 a1).Dt))))else(Aq4 K a0 a1 r1 false ((gt a0 a1).Ja) ((gt a0 a1).Bz) ((gt a0 a1).Js) ((gt a0 a1).fUp) ((gt a0 a1).Hf) ((gt a0 a1).B5) ((gt a0 a1).Hg) ((gt a0 a1).Hh) ((gt a0 a1).Af) ((gt a0 a1).Rk) ((gt a0 a1).Hi) ((gt a0 a1).Er) ((gt a0 a1).Dt)))))else none))))
def s_85:Sig:=⟨[.v 29,.v 3],[.n 29 true],true⟩
def B13 (K:Nat):Gu tyU:=⟨s_85,Axg K⟩
def Bks (K:Nat):=xF s_85 [(138,Bj5 K),(244,A9w K)] [] 91 [35,36,40,41,42] [] [] [31,63,499] [.tmp 4]
def Bat:Fs:=⟨[(1,.v 2),(5,.o 1005 44 true)],[]⟩
def A5o:Fs:=⟨[(0,.v 29),(1,.v 2),(5,.o 1005 44 true),(6,.p 106)],[(106,.box [.v 2,.v 2,.v 2,.v 2,.v 2,.v 2,.v 2,.v 2,.v 26,.v 2,.v 2,.v 41,.v 26])]⟩
def A6v:Fs:=⟨[(0,.v 29),(1,.v 2),(5,.o 1005 44 true),(6,.p 106),(32,.v 4)],[(106,.box [.v 2,.v 2,.v 2,.v 2,.v 2,.v 2,.v 2,.v 2,.v 26,.v 2,.v 2,.v 41,.v 26])]⟩
def Bau (K:Nat)(q:PT Bat):Rt s_85:=Atl K q.1 q.2.1
def A5p (K:Nat)(q:PT A5o):Rt s_85:=Asb K q.1 q.2.1 q.2.2.1 q.2.2.2.1 q.2.2.2.2.1 q.2.2.2.2.2.1 q.2.2.2.2.2.2.1 q.2.2.2.2.2.2.2.1 q.2.2.2.2.2.2.2.2.1 q.2.2.2.2.2.2.2.2.2.1 q.2.2.2.2.2.2.2.2.2.2.1 q.2.2.2.2.2.2.2.2.2.2.2.1 q.2.2.2.2.2.2.2.2.2.2.2.2.1 q.2.2.2.2.2.2.2.2.2.2.2.2.2.1 q.2.2.2.2.2.2.2.2.2.2.2.2.2.2.1 q.2.2.2.2.2.2.2.2.2.2.2.2.2.2.2.1
def A6w (K:Nat)(q:PT A6v):Rt s_85:=Aq4 K q.1 q.2.1 q.2.2.1 q.2.2.2.1 q.2.2.2.2.1 q.2.2.2.2.2.1 q.2.2.2.2.2.2.1 q.2.2.2.2.2.2.2.1 q.2.2.2.2.2.2.2.2.1 q.2.2.2.2.2.2.2.2.2.1 q.2.2.2.2.2.2.2.2.2.2.1 q.2.2.2.2.2.2.2.2.2.2.2.1 q.2.2.2.2.2.2.2.2.2.2.2.2.1 q.2.2.2.2.2.2.2.2.2.2.2.2.2.1 q.2.2.2.2.2.2.2.2.2.2.2.2.2.2.1 q.2.2.2.2.2.2.2.2.2.2.2.2.2.2.2.1 q.2.2.2.2.2.2.2.2.2.2.2.2.2.2.2.2.1
theorem Bqm (K:Nat):AtJ (Bks K) [] [] (bd Tryz.f175) 63 (Bau K):=fun q=>by kernel_rfl
theorem Bqn (K:Nat):AtJ (Bks K) [(63,ar Bat (Bau K))] [] (bd Tryz.f175) 31 (A5p K):=fun q=>by kernel_rfl
theorem Bkt (K:Nat):AtJ (Bks K) [(31,ar A5o (A5p K))] [] (bd Tryz.f175) 499 (A6w K):=fun q=>by kernel_rfl
theorem Bf6 (K:Nat):XF [.tmp 4] s_85 91 [31,63,499] (Bks K):=xkF (gC (Bf3 K) (gC (A40 K) gN)) oN
theorem Bqo (K:Nat):CF [.tmp 4] s_85 91 [31,63,499] (bd Tryz.f175) [] 63 (ar Bat (Bau K)):=
 Aiz (Bf6 K) (Bqm K) kN
theorem Bf7 (K:Nat):CF [.tmp 4] s_85 91 [31,63,499] (bd Tryz.f175) [] 31 (ar A5o (A5p K)):=
 Aiz (Bf6 K) (Bqn K) (kC (Bqo K) kN)
theorem Bku (K:Nat):CF [.tmp 4] s_85 91 [31,63,499] (bd Tryz.f175) [] 499 (ar A6v (A6w K)):=
 Aiz (Bf6 K) (Bkt K) (kC (Bf7 K) kN)
theorem B14 (K:Nat):OkF 175 (B13 K):=
 Abg (x:=Bks K) (L:=[(31,ar A5o (A5p K)),(499,ar A6v (A6w K))]) (c0:=bd Tryz.f175) (Bf6 K) (by intro a0 a1;show @Eq _ _ _;kernel_rfl) (kC (Bf7 K) (kC (Bku K) kN)) Tryz.func175 trivial
def Avn (K:Nat)(a0:Es)(a1:Int):Option (Es):=(if(0:Int)≤a1∧a1<(a0.fL.length:Int)then((At4 K (gt a0.fL a1) (Aqc .i64 a1 1)).bind fun r1=>(if(0:Int)≤a1∧a1<(a0.fL.length:Int)then((Arh K a0 ((gt a0.fL a1).Af)).bind fun r2=>((Axg K r2.fL a1).bind fun r3=>(if(0:Int)≤a1∧a1<(r3.length:Int)then(if(0:Int)≤a1∧a1<(r3.length:Int)then((Axl K (gt r3 a1)).bind fun r4=>(if(0:Int)≤a1∧a1<(r3.length:Int)then(if(r2.fQ++([r1]:List A3)).length*72≤140737488355328∧(r2.fQ++([r1]:List A3)).length≤maxLen then some (Es.mk r2.fC r2.fP (r3.set a1.toNat r4) (r2.fQ++([r1]:List A3)) r2.Rl)else none)else none))else none)else none)))else none))else none)
def B15:Sig:=⟨[.b 32 false,.v 3],[],false⟩
def B16 (K:Nat):Gu tyU:=⟨B15,Avn K⟩
def B49 (K:Nat):=xF B15 [(168,Bwg K),(169,Bpp K),(175,B13 K),(176,Bwf K)] [] 58 [] [(0,[.take 1 9 5025]),(1,[.put 1,.take 1 9 5025]),(2,[.take 1 9 5025]),(3,[.opn 3031 (.tmp 1),.takeE 3031 8 41992,.takeE 3031 11 41995,.takeE 3031 12 41996]),(4,[.take 1 10 5026,.frz 20448,.frz 20449])] [(23,[.put 1])] [] []
theorem B17 (K:Nat):OkF 104 (B16 K):=
 Abg (x:=B49 K) (L:=[]) (c0:=bd Tryz.f104) (xkF (gC (Bsx K) (gC (Bj4 K) (gC (B14 K) (gC (Bsw K) gN)))) oN) (by intro a0 a1;show @Eq _ _ _;kernel_rfl) kN Tryz.func104 trivial
def Awo (K:Nat)(a0:A3):Option (A3):=(if(([]:List Int)++a0.Dt).length*8≤140737488355328∧(([]:List Int)++a0.Dt).length≤maxLen then(if(([]:List Int)++a0.Af).length*8≤140737488355328∧(([]:List Int)++a0.Af).length≤maxLen then some (A3.mk a0.As a0.B5 (([]:List Int)++a0.Dt) (([]:List Int)++a0.Af) a0.Hj)else none)else none)
def B18:Sig:=⟨[.v 159],[.n 159 true],true⟩
def B19 (K:Nat):Gu tyU:=⟨B18,Awo K⟩
def B5a (K:Nat):=xF B18 [] [] 16 [] [] [] [] [.cell 2 159]
theorem B2a (K:Nat):OkF 139 (B19 K):=
 Abg (x:=B5a K) (L:=[]) (c0:=bd Tryz.f139) (xkF gN oN) (by intro a0;show @Eq _ _ _;kernel_rfl) kN Tryz.func139 trivial
def App (K:Nat):Nat->Int->Int->Int->Int->Int->Int->Int->(List Int)->(List Int)->(List Int)->(List Bg)->(List A3)->(List Int)->Es->Int->Int->Int->Int->Int->Int->(List Int)->(List Int)->(List Int)->(List Bg)->(List A3)->(List Int)->Option (Es)
 |0,_,_,_,_,_,_,_,_,_,_,_,_,_,_,_,_,_,_,_,_,_,_,_,_,_,_=>none
 |n1+1,v3,v4,v5,v6,v7,v8,v9,v10,v11,v12,v13,v14,v15,v16,v17,v18,v19,v20,v21,v22,v23,v24,v25,v26,v27,v28=>(bif (decide (v3<(v27.length:Int)))then(if(0:Int)≤v3∧v3<(v27.length:Int)then((Awo K (gt v27 v3)).bind fun r29=>(if(v14++[r29]).length*72≤140737488355328∧(v14++[r29]).length≤maxLen then(App K n1 (Aqc .i64 v3 1) v4 v5 v6 v7 v8 v9 v10 v11 v12 v13 (v14++[r29]) v15 v16 v17 v18 v19 v20 v21 v22 v23 v24 v25 v26 v27 v28)else none))else none)else(if(([]:List Int)++v28).length*8≤140737488355328∧(([]:List Int)++v28).length≤maxLen then some (Es.mk (Fa.mk v4 v5 v6 v7 v8 v9) (Eb.mk v10 v11 v12) v13 v14 (([]:List Int)++v28))else none))
def Ap2 (K:Nat)(a0:Es):Option (Es):=((Arg K a0.fP).bind fun r1=>((Atd K a0.fL).bind fun r2=>(App K K 0 a0.fC.Af a0.fC.Ez a0.fC.Db a0.fC.Fv a0.fC.Dc a0.fC.E0 r1.Gl r1.Ja r1.Gm r2 ([]:List A3) a0.Rl (Es.mk (Fa.mk 0 0 0 0 0 0) (Eb.mk [] [] []) [] [] []) a0.fC.Af a0.fC.Ez a0.fC.Db a0.fC.Fv a0.fC.Dc a0.fC.E0 a0.fP.Gl a0.fP.Ja a0.fP.Gm a0.fL a0.fQ a0.Rl)))
def s_88:Sig:=⟨[.v 32],[.n 32 true],true⟩
def Bhg (K:Nat):Gu tyU:=⟨s_88,Ap2 K⟩
def Bw0 (K:Nat):=xF s_88 [(137,Bjx K),(138,Bj5 K),(139,B19 K)] [] 42 [] [(9,[.take 103 10 6658]),(11,[.take 103 6 6654,.take 103 7 6655,.take 103 8 6656,.take 103 9 6657,.take 103 10 6658])] [(33,[.put 3033])] [] [.cell 2 32]
def A6x:Fs:=⟨[(1,.p 101),(2,.p 102),(3,.p 103),(4,.v 2)],[(103,.box [.v 2,.v 2,.v 2,.v 2,.v 2,.v 2,.T 5 true,.T 3 true,.T 3 true,.T 44 true,.T 159 true,.v 26]),(102,.st 32 true),(101,.box [.v 2,.v 2,.v 2,.v 2,.v 2,.v 2,.v 22,.v 26,.v 26,.v 29,.v 30,.v 26])]⟩
def A6y (K:Nat)(n:Nat)(q:PT A6x):Rt s_88:=App K n q.1 q.2.1 q.2.2.1 q.2.2.2.1 q.2.2.2.2.1 q.2.2.2.2.2.1 q.2.2.2.2.2.2.1 q.2.2.2.2.2.2.2.1 q.2.2.2.2.2.2.2.2.1 q.2.2.2.2.2.2.2.2.2.1 q.2.2.2.2.2.2.2.2.2.2.1 q.2.2.2.2.2.2.2.2.2.2.2.1 q.2.2.2.2.2.2.2.2.2.2.2.2.1 q.2.2.2.2.2.2.2.2.2.2.2.2.2.1 q.2.2.2.2.2.2.2.2.2.2.2.2.2.2.1 q.2.2.2.2.2.2.2.2.2.2.2.2.2.2.2.1 q.2.2.2.2.2.2.2.2.2.2.2.2.2.2.2.2.1 q.2.2.2.2.2.2.2.2.2.2.2.2.2.2.2.2.2.1 q.2.2.2.2.2.2.2.2.2.2.2.2.2.2.2.2.2.2.1 q.2.2.2.2.2.2.2.2.2.2.2.2.2.2.2.2.2.2.2.1 q.2.2.2.2.2.2.2.2.2.2.2.2.2.2.2.2.2.2.2.2.1 q.2.2.2.2.2.2.2.2.2.2.2.2.2.2.2.2.2.2.2.2.2.1 q.2.2.2.2.2.2.2.2.2.2.2.2.2.2.2.2.2.2.2.2.2.2.1 q.2.2.2.2.2.2.2.2.2.2.2.2.2.2.2.2.2.2.2.2.2.2.2.1 q.2.2.2.2.2.2.2.2.2.2.2.2.2.2.2.2.2.2.2.2.2.2.2.2.1 q.2.2.2.2.2.2.2.2.2.2.2.2.2.2.2.2.2.2.2.2.2.2.2.2.2.1
theorem Bkv (K:Nat):AtL (Bw0 K) (fun n=>[]) [] (bd Tryz.f82) 506 (A6y K):=fun n q=>by kernel_rfl
theorem Btf (K:Nat):XF [.cell 2 32] s_88 42 [] (Bw0 K):=xkF (gC (Bf0 K) (gC (Bf3 K) (gC (B2a K) gN))) oN
theorem Bkw (K:Nat)(n:Nat):CF [.cell 2 32] s_88 42 [] (bd Tryz.f82) [] 506 (ar A6x (A6y K n)):=
 Agc (Btf K) (Bkv K) (fun n=>kN) n
theorem Bcq (K:Nat):OkF 82 (Bhg K):=
 Abg (x:=Bw0 K) (L:=[(506,ar A6x (A6y K K))]) (c0:=bd Tryz.f82) (Btf K) (by intro a0;show @Eq _ _ _;kernel_rfl) (kC (Bkw K K) kN) Tryz.func82 trivial
def Apw (K:Nat)(a0:List Bg)(a1:Int):Option (Bool):=(bif (a1==0)then some true else((Abl K a0 a1).bind fun r1=>(bif r1 then(if(0:Int)≤(Aqd .i64 a1 1)∧(Aqd .i64 a1 1)<(a0.length:Int)then some (((gt a0 (Aqd .i64 a1 1)).Ja)==1)else none)else some false)))
def B2b:Sig:=⟨[.v 29,.v 3],[.v 4],true⟩
def B2c (K:Nat):Gu tyU:=⟨B2b,Apw K⟩
def B5b (K:Nat):=xF B2b [(244,A9w K)] [] 21 [6,7,10,11] [] [] [] [.tmp 4]
theorem B2d (K:Nat):OkF 264 (B2c K):=
 Abg (x:=B5b K) (L:=[]) (c0:=bd Tryz.f264) (xkF (gC (A40 K) gN) oN) (by intro a0 a1;show @Eq _ _ _;kernel_rfl) kN Tryz.func264 trivial
def As6 (K:Nat)(a0:List Bg)(a1:Int):Option (Bool):=((Av1 K a0 a1).bind fun r19=>(bif (decide ((r19.length:Int)≤4))then(if(0:Int)≤(Aqd .i64 (r19.length:Int) 1)∧(Aqd .i64 (r19.length:Int) 1)<(r19.length:Int)then((Asd K a0 (gt r19 (Aqd .i64 (r19.length:Int) 1))).bind fun r20=>some (!r20))else none)else some false))
def At7 (K:Nat)(a0:List Bg)(a1:Int)(v8:Int)(v12:Int):Option (Bool):=(bif (v12==0)then((Asd K a0 a1).bind fun r18=>(bif r18 then(if(0:Int)≤(Aqd .i64 v8 1)∧(Aqd .i64 v8 1)<(a0.length:Int)then(bif (((gt a0 (Aqd .i64 v8 1)).B5) != (Aqc .i64 a1 1))then some false else(As6 K a0 a1))else none)else(As6 K a0 a1)))else(As6 K a0 a1))
def At8 (K:Nat)(a0:List Bg)(a1:Int)(v8:Int)(v12:Int):Option (Bool):=(bif (v12 != 0)then(if(0:Int)≤(Aqd .i64 v12 1)∧(Aqd .i64 v12 1)<(a0.length:Int)then(bif (((gt a0 (Aqd .i64 v12 1)).Hg) != (Aqc .i64 a1 1))then some false else(At7 K a0 a1 v8 v12))else none)else(At7 K a0 a1 v8 v12))
def At9 (K:Nat)(a0:List Bg)(a1:Int)(v8:Int)(v9:Int)(v11:Int)(v12:Int):Option (Bool):=(bif (v11 != 0)then(if(0:Int)≤(Aqd .i64 v11 1)∧(Aqd .i64 v11 1)<(a0.length:Int)then(bif (((gt a0 (Aqd .i64 v11 1)).Hh) != (Aqc .i64 a1 1))then some false else(bif (((gt a0 (Aqd .i64 v11 1)).fUp) != v8)then some false else(bif (((gt a0 (Aqd .i64 v11 1)).Hf) != v9)then some false else(At8 K a0 a1 v8 v12))))else none)else(At8 K a0 a1 v8 v12))
def Aua (K:Nat)(a0:List Bg)(a1:Int)(v5:Int)(v6:Int)(v7:Int)(v8:Int)(v9:Int)(v10:Int)(v11:Int)(v12:Int)(v13:List Int)(v14:Int)(v15:Int)(v16:List Bf)(v17:List Int):Option (Bool):=(bif (v10 != 0)then(if(0:Int)≤(Aqd .i64 v10 1)∧(Aqd .i64 v10 1)<(a0.length:Int)then(bif (((gt a0 (Aqd .i64 v10 1)).Hh) != 0)then some false else(bif (((gt a0 (Aqd .i64 v10 1)).fUp) != (Aqc .i64 a1 1))then some false else(bif (((gt a0 (Aqd .i64 v10 1)).Hf) != v7)then some false else(At9 K a0 a1 v8 v9 v11 v12))))else none)else(At9 K a0 a1 v8 v9 v11 v12))
def Ax7 (K:Nat)(a0:List Bg)(a1:Int):Option (Bool):=(if(0:Int)≤a1∧a1<(a0.length:Int)then(bif (((gt a0 a1).fUp) != 0)then((Abl K a0 ((gt a0 a1).fUp)).bind fun r1=>(bif r1 then((Apw K a0 ((gt a0 a1).B5)).bind fun r2=>(bif r2 then((Apw K a0 ((gt a0 a1).Hg)).bind fun r3=>(bif r3 then((Apw K a0 ((gt a0 a1).Hh)).bind fun r4=>(bif (!r4)then some false else(Aua K a0 a1 ((gt a0 a1).Ja) ((gt a0 a1).Bz) ((gt a0 a1).Js) ((gt a0 a1).fUp) ((gt a0 a1).Hf) ((gt a0 a1).B5) ((gt a0 a1).Hg) ((gt a0 a1).Hh) ((gt a0 a1).Af) ((gt a0 a1).Rk) ((gt a0 a1).Hi) ((gt a0 a1).Er) ((gt a0 a1).Dt))))else some false))else some false))else some false))else((Apw K a0 ((gt a0 a1).B5)).bind fun r21=>(bif r21 then((Apw K a0 ((gt a0 a1).Hg)).bind fun r22=>(bif r22 then((Apw K a0 ((gt a0 a1).Hh)).bind fun r23=>(bif (!r23)then some false else(Aua K a0 a1 ((gt a0 a1).Ja) ((gt a0 a1).Bz) ((gt a0 a1).Js) ((gt a0 a1).fUp) ((gt a0 a1).Hf) ((gt a0 a1).B5) ((gt a0 a1).Hg) ((gt a0 a1).Hh) ((gt a0 a1).Af) ((gt a0 a1).Rk) ((gt a0 a1).Hi) ((gt a0 a1).Er) ((gt a0 a1).Dt))))else some false))else some false)))else none)
def s_90:Sig:=⟨[.v 29,.v 3],[.v 4],true⟩
def B2e (K:Nat):Gu tyU:=⟨s_90,Ax7 K⟩
def Bel (K:Nat):=xF s_90 [(224,Bor K),(225,Bov K),(244,A9w K),(264,B2c K)] [] 150 [15,16,20,21,22,23,27,28,29,30,34,35,36,37,55,56,61,62,63,83,84,89,90,91,100,101,115,116,119,120,121,138,139] [] [] [7,15,31,63,127] [.tmp 4]
def A6z:Fs:=⟨[(0,.v 29),(1,.v 2)],[]⟩
def Bav:Fs:=⟨[(0,.v 29),(1,.v 2),(5,.p 105)],[(105,.box [.v 2,.v 2,.v 2,.v 2,.v 2,.v 2,.v 2,.v 2,.v 26,.v 2,.v 2,.v 41,.v 26])]⟩
def Baw:Fs:=⟨[(0,.v 29),(1,.v 2),(5,.p 105)],[(105,.box [.v 2,.v 2,.v 2,.v 2,.v 2,.v 2,.v 2,.v 2,.v 26,.v 2,.v 2,.v 41,.v 26])]⟩
def Bax:Fs:=⟨[(0,.v 29),(1,.v 2),(5,.p 105)],[(105,.box [.v 2,.v 2,.v 2,.v 2,.v 2,.v 2,.v 2,.v 2,.v 26,.v 2,.v 2,.v 41,.v 26])]⟩
def Bem:Fs:=⟨[(0,.v 29),(1,.v 2),(5,.p 105)],[(105,.box [.v 2,.v 2,.v 2,.v 2,.v 2,.v 2,.v 2,.v 2,.v 26,.v 2,.v 2,.v 41,.v 26])]⟩
def A60 (K:Nat)(q:PT A6z):Rt s_90:=As6 K q.1 q.2.1
def Bay (K:Nat)(q:PT Bav):Rt s_90:=At7 K q.1 q.2.1 q.2.2.2.2.2.1 q.2.2.2.2.2.2.2.2.2.1
def Baz (K:Nat)(q:PT Baw):Rt s_90:=At8 K q.1 q.2.1 q.2.2.2.2.2.1 q.2.2.2.2.2.2.2.2.2.1
def Ba0 (K:Nat)(q:PT Bax):Rt s_90:=At9 K q.1 q.2.1 q.2.2.2.2.2.1 q.2.2.2.2.2.2.1 q.2.2.2.2.2.2.2.2.1 q.2.2.2.2.2.2.2.2.2.1
def Ben (K:Nat)(q:PT Bem):Rt s_90:=Aua K q.1 q.2.1 q.2.2.1 q.2.2.2.1 q.2.2.2.2.1 q.2.2.2.2.2.1 q.2.2.2.2.2.2.1 q.2.2.2.2.2.2.2.1 q.2.2.2.2.2.2.2.2.1 q.2.2.2.2.2.2.2.2.2.1 q.2.2.2.2.2.2.2.2.2.2.1 q.2.2.2.2.2.2.2.2.2.2.2.1 q.2.2.2.2.2.2.2.2.2.2.2.2.1 q.2.2.2.2.2.2.2.2.2.2.2.2.2.1 q.2.2.2.2.2.2.2.2.2.2.2.2.2.2.1
theorem Bkx (K:Nat):AtJ (Bel K) [] [] (bd Tryz.f213) 127 (A60 K):=fun q=>by kernel_rfl
theorem Bqp (K:Nat):AtJ (Bel K) [(127,ar A6z (A60 K))] [] (bd Tryz.f213) 63 (Bay K):=fun q=>by kernel_rfl
theorem Bqq (K:Nat):AtJ (Bel K) [(63,ar Bav (Bay K))] [] (bd Tryz.f213) 31 (Baz K):=fun q=>by kernel_rfl
theorem Bqr (K:Nat):AtJ (Bel K) [(31,ar Baw (Baz K))] [] (bd Tryz.f213) 15 (Ba0 K):=fun q=>by kernel_rfl
theorem Bw1 (K:Nat):AtJ (Bel K) [(15,ar Bax (Ba0 K))] [] (bd Tryz.f213) 7 (Ben K):=fun q=>by kernel_rfl
theorem A87 (K:Nat):XF [.tmp 4] s_90 150 [7,15,31,63,127] (Bel K):=xkF (gC (Bi9 K) (gC (Bja K) (gC (A40 K) (gC (B2d K) gN)))) oN
theorem Bky (K:Nat):CF [.tmp 4] s_90 150 [7,15,31,63,127] (bd Tryz.f213) [] 127 (ar A6z (A60 K)):=
 Aiz (A87 K) (Bkx K) kN
theorem Bqs (K:Nat):CF [.tmp 4] s_90 150 [7,15,31,63,127] (bd Tryz.f213) [] 63 (ar Bav (Bay K)):=
 Aiz (A87 K) (Bqp K) (kC (Bky K) kN)
theorem Bqt (K:Nat):CF [.tmp 4] s_90 150 [7,15,31,63,127] (bd Tryz.f213) [] 31 (ar Baw (Baz K)):=
 Aiz (A87 K) (Bqq K) (kC (Bqs K) kN)
theorem Bqu (K:Nat):CF [.tmp 4] s_90 150 [7,15,31,63,127] (bd Tryz.f213) [] 15 (ar Bax (Ba0 K)):=
 Aiz (A87 K) (Bqr K) (kC (Bqt K) kN)
theorem Bw2 (K:Nat):CF [.tmp 4] s_90 150 [7,15,31,63,127] (bd Tryz.f213) [] 7 (ar Bem (Ben K)):=
 Aiz (A87 K) (Bw1 K) (kC (Bqu K) kN)
theorem B2f (K:Nat):OkF 213 (B2e K):=
 Abg (x:=Bel K) (L:=[(7,ar Bem (Ben K))]) (c0:=bd Tryz.f213) (A87 K) (by intro a0 a1;show @Eq _ _ _;kernel_rfl) (kC (Bw2 K) kN) Tryz.func213 trivial
def Avo (K:Nat)(v1:Int)(C1:Int->Option (Bool)):Option (Bool):=(C1 (Aqc .i64 v1 1))
def Apn (K:Nat)(a0:List Bg):Nat->Int->Option (Bool)
 |0,_=>none
 |n1+1,v1=>(bif (decide (v1<(a0.length:Int)))then(if(0:Int)≤v1∧v1<(a0.length:Int)then(bif (((gt a0 v1).Ja)==1)then((Ax7 K a0 v1).bind fun r2=>(bif (!r2)then some false else(Avo K v1 (Apn K a0 n1))))else(Avo K v1 (Apn K a0 n1)))else none)else some true)
def Axh (K:Nat)(a0:List Bg):Option (Bool):=(Apn K a0 K 0)
def s_91:Sig:=⟨[.v 29],[.v 4],true⟩
def B2g (K:Nat):Gu tyU:=⟨s_91,Axh K⟩
def Bqv (K:Nat):=xF s_91 [(213,B2e K)] [] 22 [15,16] [] [] [105] [.tmp 2]
def A61:Fs:=⟨[(0,.v 29),(3,.v 2)],[]⟩
def Aze:Fs:=⟨[(0,.v 29),(3,.v 2)],[]⟩
def A62 (K:Nat)(C26:CT Aze s_91)(q:PT A61):Rt s_91:=Avo K q.2.1 (fun v1=>C26 (q.1,v1,()))
def A2x (K:Nat)(n:Nat)(q:PT Aze):Rt s_91:=Apn K q.1 n q.2.1
theorem Bkz (K:Nat)(C26:CT Aze s_91):AtJ (Bqv K) [] [(26,ar Aze C26)] (bd Tryz.f141) 105 (A62 K C26):=fun q=>by kernel_rfl
theorem Bqw (K:Nat):AtL (Bqv K) (fun n=>[(105,ar A61 (A62 K (A2x K n)))]) [] (bd Tryz.f141) 26 (A2x K):=fun n q=>by kernel_rfl
theorem Bk0 (K:Nat):XF [.tmp 2] s_91 22 [105] (Bqv K):=xkF (gC (B2f K) gN) oN
theorem Bk1 (K:Nat)(C26:CT Aze s_91):CF [.tmp 2] s_91 22 [105] (bd Tryz.f141) [(26,ar Aze C26)] 105 (ar A61 (A62 K C26)):=
 Aiz (Bk0 K) (Bkz K C26) kN
theorem Bqx (K:Nat)(n:Nat):CF [.tmp 2] s_91 22 [105] (bd Tryz.f141) [] 26 (ar Aze (A2x K n)):=
 Agc (Bk0 K) (Bqw K) (fun n=>(kC (Bk1 K (A2x K n)) kN)) n
theorem B2h (K:Nat):OkF 141 (B2g K):=
 Abg (x:=Bqv K) (L:=[(26,ar Aze (A2x K K))]) (c0:=bd Tryz.f141) (Bk0 K) (by intro a0;show @Eq _ _ _;kernel_rfl) (kC (Bqx K K) kN) Tryz.func141 trivial
def Auo (K:Nat)(v2:Int)(v3:List Int)(v4:List Int)(v5:List Int)(C1:Int->Int->(List Int)->(List Int)->(List Int)->Option (Int))(v6:Int):Option (Int):=(C1 v6 (Aqc .i64 v2 1) v3 v4 v5)
def Ane (K:Nat)(a1:Int):Nat->Int->Int->(List Int)->(List Int)->(List Int)->Option (Int)
 |0,_,_,_,_,_=>none
 |n1+1,v1,v2,v3,v4,v5=>(bif (decide (v2<(v4.length:Int)))then(if(0:Int)≤v2∧v2<(v4.length:Int)then(bif ((gt v4 v2)==a1)then(Auo K v2 v3 v4 v5 (Ane K a1 n1) (Aqc .i64 v1 1))else(Auo K v2 v3 v4 v5 (Ane K a1 n1) v1))else none)else some v1)
def Awp (K:Nat)(a0:Eb)(a1:Int):Option (Int):=(Ane K a1 K 0 0 a0.Gl a0.Ja a0.Gm)
def s_92:Sig:=⟨[.v 28,.v 3],[.v 3],true⟩
def B2i (K:Nat):Gu tyU:=⟨s_92,Awp K⟩
def Bqy (K:Nat):=xF s_92 [] [] 24 [] [] [] [233] [.tmp 4]
def A63:Fs:=⟨[(1,.v 2),(2,.p 102),(5,.v 2),(6,.v 2)],[(102,.box [.v 22,.v 26,.v 26])]⟩
def Azf:Fs:=⟨[(1,.v 2),(2,.p 102),(5,.v 2),(6,.v 2)],[(102,.box [.v 22,.v 26,.v 26])]⟩
def A64 (K:Nat)(C58:CT Azf s_92)(q:PT A63):Rt s_92:=Auo K q.2.2.1 q.2.2.2.1 q.2.2.2.2.1 q.2.2.2.2.2.1 (fun v1 v2 v3 v4 v5=>C58 (q.1,v1,v2,v3,v4,v5,())) q.2.1
def A2y (K:Nat)(n:Nat)(q:PT Azf):Rt s_92:=Ane K q.1 n q.2.1 q.2.2.1 q.2.2.2.1 q.2.2.2.2.1 q.2.2.2.2.2.1
theorem Bk2 (K:Nat)(C58:CT Azf s_92):AtJ (Bqy K) [] [(58,ar Azf C58)] (bd Tryz.f222) 233 (A64 K C58):=fun q=>by kernel_rfl
theorem Bqz (K:Nat):AtL (Bqy K) (fun n=>[(233,ar A63 (A64 K (A2y K n)))]) [] (bd Tryz.f222) 58 (A2y K):=fun n q=>by kernel_rfl
theorem Bk3 (K:Nat):XF [.tmp 4] s_92 24 [233] (Bqy K):=xkF gN oN
theorem Bk4 (K:Nat)(C58:CT Azf s_92):CF [.tmp 4] s_92 24 [233] (bd Tryz.f222) [(58,ar Azf C58)] 233 (ar A63 (A64 K C58)):=
 Aiz (Bk3 K) (Bk2 K C58) kN
theorem Bq0 (K:Nat)(n:Nat):CF [.tmp 4] s_92 24 [233] (bd Tryz.f222) [] 58 (ar Azf (A2y K n)):=
 Agc (Bk3 K) (Bqz K) (fun n=>(kC (Bk4 K (A2y K n)) kN)) n
theorem B2j (K:Nat):OkF 222 (B2i K):=
 Abg (x:=Bqy K) (L:=[(58,ar Azf (A2y K K))]) (c0:=bd Tryz.f222) (Bk3 K) (by intro a0 a1;show @Eq _ _ _;kernel_rfl) (kC (Bq0 K K) kN) Tryz.func222 trivial
def As7 (K:Nat)(a0:List Bg)(a1:Int):Option (Bool):=(if(0:Int)≤a1∧a1<(a0.length:Int)then(bif (((gt a0 a1).Ja)==1)then(if(0:Int)≤a1∧a1<(a0.length:Int)then(bif (((gt a0 a1).fUp) != 0)then((Asd K a0 a1).bind fun r1=>some (!r1))else some false)else none)else some false)else none)
def B2k:Sig:=⟨[.v 29,.v 3],[.v 4],true⟩
def Bw3 (K:Nat):Gu tyU:=⟨B2k,As7 K⟩
def B5c (K:Nat):=xF B2k [(225,Bov K)] [] 25 [10,11,17,18,19] [] [] [] [.tmp 4]
theorem Btg (K:Nat):OkF 221 (Bw3 K):=
 Abg (x:=B5c K) (L:=[]) (c0:=bd Tryz.f221) (xkF (gC (Bja K) gN) oN) (by intro a0 a1;show @Eq _ _ _;kernel_rfl) kN Tryz.func221 trivial
def Atm (K:Nat)(a0:List Bg):Nat->Int->(List Int)->Option ((List Int))
 |0,_,_=>none
 |n1+1,v1,v2=>((Abl K a0 v1).bind fun r3=>(bif r3 then(bif (decide ((v2.length:Int)<(a0.length:Int)))then(if(v2++([(Aqd .i64 v1 1)]:List Int)).length*8≤140737488355328∧(v2++([(Aqd .i64 v1 1)]:List Int)).length≤maxLen then(if(0:Int)≤(Aqd .i64 v1 1)∧(Aqd .i64 v1 1)<(a0.length:Int)then(Atm K a0 n1 ((gt a0 (Aqd .i64 v1 1)).Hg) (v2++([(Aqd .i64 v1 1)]:List Int)))else none)else none)else some v2)else some v2))
def Au8 (K:Nat)(a0:List Bg)(a1:Int):Option ((List Int)):=(Atm K a0 K a1 ([]:List Int))
def s_94:Sig:=⟨[.v 29,.v 3],[.n 26 true],true⟩
def Bw4 (K:Nat):Gu tyU:=⟨s_94,Au8 K⟩
def Bw5 (K:Nat):=xF s_94 [(244,A9w K)] [] 29 [9,10] [] [] [] [.tmp 4]
def Ba1:Fs:=⟨[(0,.v 29),(1,.v 2),(5,.o 1005 3 true)],[]⟩
def Ba2 (K:Nat)(n:Nat)(q:PT Ba1):Rt s_94:=Atm K q.1 n q.2.1 q.2.2.1
theorem Bq1 (K:Nat):AtL (Bw5 K) (fun n=>[]) [] (bd Tryz.f202) 28 (Ba2 K):=fun n q=>by kernel_rfl
theorem Bth (K:Nat):XF [.tmp 4] s_94 29 [] (Bw5 K):=xkF (gC (A40 K) gN) oN
theorem Bq2 (K:Nat)(n:Nat):CF [.tmp 4] s_94 29 [] (bd Tryz.f202) [] 28 (ar Ba1 (Ba2 K n)):=
 Agc (Bth K) (Bq1 K) (fun n=>kN) n
theorem Bti (K:Nat):OkF 202 (Bw4 K):=
 Abg (x:=Bw5 K) (L:=[(28,ar Ba1 (Ba2 K K))]) (c0:=bd Tryz.f202) (Bth K) (by intro a0 a1;show @Eq _ _ _;kernel_rfl) (kC (Bq2 K K) kN) Tryz.func202 trivial
def Am7 (K:Nat)(v4:Int)(v15:List A3)(v20:List Int)(v21:Int)(C3:(List Int)->Int->Option (Bool)):Nat->Int->Option (Bool)
 |0,_=>none
 |n5+1,v22=>(if(0:Int)≤v4∧v4<(v15.length:Int)then(bif (decide (v22<(((gt v15 v4).Af).length:Int)))then(if(0:Int)≤v21∧v21<(v15.length:Int)then(if(0:Int)≤v4∧v4<(v15.length:Int)then(if(0:Int)≤v22∧v22<(((gt v15 v4).Af).length:Int)then((Apu K ((gt v15 v21).Af) (gt ((gt v15 v4).Af) v22)).bind fun r23=>(bif r23 then some false else(Am7 K v4 v15 v20 v21 C3 n5 (Aqc .i64 v22 1))))else none)else none)else none)else(C3 v20 (Aqc .i64 v21 1)))else none)
def Arw (K:Nat)(v4:Int)(v15:List A3)(v20:List Int)(v21:Int)(C3:(List Int)->Int->Option (Bool)):Option (Bool):=(Am7 K v4 v15 v20 v21 (C3) K 0)
def Ai9 (K:Nat)(v4:Int)(v5:Int)(v6:Int)(v7:Int)(v8:Int)(v9:Int)(v10:Int)(v11:List Int)(v12:List Int)(v13:List Int)(v14:List Bg)(v15:List A3)(v16:List Int)(v17:Int)(v18:Int)(C1:Int->Int->(List Int)->Int->Int->Int->Int->Int->Int->Int->(List Int)->(List Int)->(List Int)->(List Bg)->(List A3)->(List Int)->Option (Bool)):Nat->(List Int)->Int->Option (Bool)
 |0,_,_=>none
 |n3+1,v20,v21=>(bif (decide (v21<v4))then(if(0:Int)≤v4∧v4<(v15.length:Int)then(bif (((gt v15 v4).As) != 0)then(if(0:Int)≤v21∧v21<(v15.length:Int)then(if(0:Int)≤v4∧v4<(v15.length:Int)then(bif (((gt v15 v21).As)==((gt v15 v4).As))then some false else(Arw K v4 v15 v20 v21 (Ai9 K v4 v5 v6 v7 v8 v9 v10 v11 v12 v13 v14 v15 v16 v17 v18 C1 n3)))else none)else none)else(Arw K v4 v15 v20 v21 (Ai9 K v4 v5 v6 v7 v8 v9 v10 v11 v12 v13 v14 v15 v16 v17 v18 C1 n3)))else none)else(C1 v17 v18 v20 (Aqc .i64 v4 1) v5 v6 v7 v8 v9 v10 v11 v12 v13 v14 v15 v16))
def Arx (K:Nat)(v3:List Int)(v4:Int)(v5:Int)(v6:Int)(v7:Int)(v8:Int)(v9:Int)(v10:Int)(v11:List Int)(v12:List Int)(v13:List Int)(v14:List Bg)(v15:List A3)(v16:List Int)(C1:Int->Int->(List Int)->Int->Int->Int->Int->Int->Int->Int->(List Int)->(List Int)->(List Int)->(List Bg)->(List A3)->(List Int)->Option (Bool))(v17:Int)(v18:Int):Option (Bool):=(if(0:Int)≤v4∧v4<(v15.length:Int)then((Au8 K v14 ((gt v15 v4).B5)).bind fun r19=>(if(v3++r19).length*8≤140737488355328∧(v3++r19).length≤maxLen then(Ai9 K v4 v5 v6 v7 v8 v9 v10 v11 v12 v13 v14 v15 v16 v17 v18 (C1) K (v3++r19) 0)else none))else none)
def Ate (K:Nat)(v25:Int)(C6:Int->Int->Option (Bool))(v27:Int):Option (Bool):=(C6 v27 (Aqc .i64 v25 1))
def Ajb (K:Nat)(v1:Int)(v2:Int)(v3:List Int)(v11:List Int)(v12:List Int)(v13:List Int)(v14:List Bg)(v24:Int):Nat->Int->Option (Bool)
 |0,_=>none
 |n8+1,v28=>(bif (decide (v28<(v3.length:Int)))then(if(0:Int)≤0∧0≤v28∧v28≤(v3.length:Int)then(if(0:Int)≤v28∧v28<(v3.length:Int)then((Apu K ((v3.drop (0:Int).toNat).take (v28 - 0).toNat) (gt v3 v28)).bind fun r29=>(bif r29 then some false else(Ajb K v1 v2 v3 v11 v12 v13 v14 v24 n8 (Aqc .i64 v28 1))))else none)else none)else((Awp K (Eb.mk v11 v12 v13) 2).bind fun r30=>(bif (v1==r30)then((Ap6 K v14 2).bind fun r31=>(bif (v2==r31)then some ((v3.length:Int)==v24)else some false))else some false)))
def Agd (K:Nat)(v1:Int)(v2:Int)(v3:List Int)(v11:List Int)(v12:List Int)(v13:List Int)(v14:List Bg):Nat->Int->Int->Option (Bool)
 |0,_,_=>none
 |n6+1,v24,v25=>(bif (decide (v25<(v14.length:Int)))then((As7 K v14 v25).bind fun r26=>(bif r26 then(Ate K v25 (Agd K v1 v2 v3 v11 v12 v13 v14 n6) (Aqc .i64 v24 1))else(Ate K v25 (Agd K v1 v2 v3 v11 v12 v13 v14 n6) v24)))else(Ajb K v1 v2 v3 v11 v12 v13 v14 v24 K 0))
def Abq (K:Nat):Nat->Int->Int->(List Int)->Int->Int->Int->Int->Int->Int->Int->(List Int)->(List Int)->(List Int)->(List Bg)->(List A3)->(List Int)->Option (Bool)
 |0,_,_,_,_,_,_,_,_,_,_,_,_,_,_,_,_=>none
 |n1+1,v1,v2,v3,v4,v5,v6,v7,v8,v9,v10,v11,v12,v13,v14,v15,v16=>(bif (decide (v4<(v15.length:Int)))then(if(0:Int)≤v4∧v4<(v15.length:Int)then(if(0:Int)≤v4∧v4<(v15.length:Int)then(bif (((gt v15 v4).As) != 0)then(Arx K v3 v4 v5 v6 v7 v8 v9 v10 v11 v12 v13 v14 v15 v16 (Abq K n1) (Aqc .i64 v1 (((gt v15 v4).Af).length:Int)) (Aqc .i64 v2 1))else(Arx K v3 v4 v5 v6 v7 v8 v9 v10 v11 v12 v13 v14 v15 v16 (Abq K n1) (Aqc .i64 v1 (((gt v15 v4).Af).length:Int)) v2))else none)else none)else(Agd K v1 v2 v3 v11 v12 v13 v14 K 0 0))
def Aup (K:Nat)(a0:Es):Option (Bool):=(Abq K K 0 0 ([]:List Int) 0 a0.fC.Af a0.fC.Ez a0.fC.Db a0.fC.Fv a0.fC.Dc a0.fC.E0 a0.fP.Gl a0.fP.Ja a0.fP.Gm a0.fL a0.fQ a0.Rl)
def s_95:Sig:=⟨[.v 32],[.v 4],true⟩
def B2l (K:Nat):Gu tyU:=⟨s_95,Aup K⟩
def A8r (K:Nat):=xF s_95 [(202,Bw4 K),(218,Bhd K),(221,Bw3 K),(222,B2i K),(223,Bv1 K)] [] 148 [60,61,134,135,140,141,142] [] [] [4073,8009,2050532] [.tmp 2]
def Azp:Fs:=⟨[(1,.p 101),(3,.v 2),(4,.v 2),(5,.o 1005 3 true),(6,.v 2),(7,.v 2),(8,.v 2)],[(101,.box [.v 2,.v 2,.v 2,.v 2,.v 2,.v 2,.v 22,.v 26,.v 26,.v 29,.v 30,.v 26])]⟩
def A0c:Fs:=⟨[(1,.p 101),(3,.v 2),(4,.v 2),(5,.o 1005 3 true),(6,.v 2),(7,.v 2)],[(101,.box [.v 2,.v 2,.v 2,.v 2,.v 2,.v 2,.v 22,.v 26,.v 26,.v 29,.v 30,.v 26])]⟩
def Anf:Fs:=⟨[(1,.p 101),(3,.v 2),(4,.v 2),(5,.o 1005 3 true),(6,.v 2),(7,.v 2)],[(101,.box [.v 2,.v 2,.v 2,.v 2,.v 2,.v 2,.v 22,.v 26,.v 26,.v 29,.v 30,.v 26])]⟩
def A3y:Fs:=⟨[(1,.p 101),(3,.v 2),(4,.v 2),(5,.o 1005 3 true),(6,.v 2)],[(101,.box [.v 2,.v 2,.v 2,.v 2,.v 2,.v 2,.v 22,.v 26,.v 26,.v 29,.v 30,.v 26])]⟩
def A3z:Fs:=⟨[(1,.p 101),(3,.v 2),(4,.v 2),(5,.o 1005 3 true),(9,.v 2),(10,.v 2)],[(101,.box [.v 2,.v 2,.v 2,.v 2,.v 2,.v 2,.v 22,.v 26,.v 26,.v 29,.v 30,.v 26])]⟩
def A30:Fs:=⟨[(1,.p 101),(3,.v 2),(4,.v 2),(5,.o 1005 3 true),(9,.v 2),(11,.v 2)],[(101,.box [.v 2,.v 2,.v 2,.v 2,.v 2,.v 2,.v 22,.v 26,.v 26,.v 29,.v 30,.v 26])]⟩
def Av3:Fs:=⟨[(1,.p 101),(3,.v 2),(4,.v 2),(5,.o 1005 3 true),(9,.v 2),(10,.v 2)],[(101,.box [.v 2,.v 2,.v 2,.v 2,.v 2,.v 2,.v 22,.v 26,.v 26,.v 29,.v 30,.v 26])]⟩
def Ajd:Fs:=⟨[(1,.p 101),(3,.v 2),(4,.v 2),(5,.o 1005 3 true),(6,.v 2)],[(101,.box [.v 2,.v 2,.v 2,.v 2,.v 2,.v 2,.v 22,.v 26,.v 26,.v 29,.v 30,.v 26])]⟩
def Azq (K:Nat)(C250:CT Ajd s_95)(C128158:CT Anf s_95)(n:Nat)(q:PT Azp):Rt s_95:=Am7 K q.2.2.2.1 q.2.2.2.2.2.2.2.2.2.2.2.2.2.2.2.2.1 q.2.2.1 q.2.2.2.2.1 (fun v20 v21=>C128158 (q.1,q.2.1,v20,q.2.2.2.1,v21,q.2.2.2.2.2.2.1,q.2.2.2.2.2.2.2.1,q.2.2.2.2.2.2.2.2.1,q.2.2.2.2.2.2.2.2.2.1,q.2.2.2.2.2.2.2.2.2.2.1,q.2.2.2.2.2.2.2.2.2.2.2.1,q.2.2.2.2.2.2.2.2.2.2.2.2.1,q.2.2.2.2.2.2.2.2.2.2.2.2.2.1,q.2.2.2.2.2.2.2.2.2.2.2.2.2.2.1,q.2.2.2.2.2.2.2.2.2.2.2.2.2.2.2.1,q.2.2.2.2.2.2.2.2.2.2.2.2.2.2.2.2.1,q.2.2.2.2.2.2.2.2.2.2.2.2.2.2.2.2.2.1,())) n q.2.2.2.2.2.1
def A0d (K:Nat)(C250:CT Ajd s_95)(C128158:CT Anf s_95)(q:PT A0c):Rt s_95:=Arw K q.2.2.2.1 q.2.2.2.2.2.2.2.2.2.2.2.2.2.2.2.1 q.2.2.1 q.2.2.2.2.1 (fun v20 v21=>C128158 (q.1,q.2.1,v20,q.2.2.2.1,v21,q.2.2.2.2.2.1,q.2.2.2.2.2.2.1,q.2.2.2.2.2.2.2.1,q.2.2.2.2.2.2.2.2.1,q.2.2.2.2.2.2.2.2.2.1,q.2.2.2.2.2.2.2.2.2.2.1,q.2.2.2.2.2.2.2.2.2.2.2.1,q.2.2.2.2.2.2.2.2.2.2.2.2.1,q.2.2.2.2.2.2.2.2.2.2.2.2.2.1,q.2.2.2.2.2.2.2.2.2.2.2.2.2.2.1,q.2.2.2.2.2.2.2.2.2.2.2.2.2.2.2.1,q.2.2.2.2.2.2.2.2.2.2.2.2.2.2.2.2.1,()))
def Axm (K:Nat)(C250:CT Ajd s_95)(n:Nat)(q:PT Anf):Rt s_95:=Ai9 K q.2.2.2.1 q.2.2.2.2.2.1 q.2.2.2.2.2.2.1 q.2.2.2.2.2.2.2.1 q.2.2.2.2.2.2.2.2.1 q.2.2.2.2.2.2.2.2.2.1 q.2.2.2.2.2.2.2.2.2.2.1 q.2.2.2.2.2.2.2.2.2.2.2.1 q.2.2.2.2.2.2.2.2.2.2.2.2.1 q.2.2.2.2.2.2.2.2.2.2.2.2.2.1 q.2.2.2.2.2.2.2.2.2.2.2.2.2.2.1 q.2.2.2.2.2.2.2.2.2.2.2.2.2.2.2.1 q.2.2.2.2.2.2.2.2.2.2.2.2.2.2.2.2.1 q.1 q.2.1 (fun v1 v2 v3 v4 v5 v6 v7 v8 v9 v10 v11 v12 v13 v14 v15 v16=>C250 (v1,v2,v3,v4,v5,v6,v7,v8,v9,v10,v11,v12,v13,v14,v15,v16,())) n q.2.2.1 q.2.2.2.2.1
def A31 (K:Nat)(C250:CT Ajd s_95)(q:PT A3y):Rt s_95:=Arx K q.2.2.1 q.2.2.2.1 q.2.2.2.2.1 q.2.2.2.2.2.1 q.2.2.2.2.2.2.1 q.2.2.2.2.2.2.2.1 q.2.2.2.2.2.2.2.2.1 q.2.2.2.2.2.2.2.2.2.1 q.2.2.2.2.2.2.2.2.2.2.1 q.2.2.2.2.2.2.2.2.2.2.2.1 q.2.2.2.2.2.2.2.2.2.2.2.2.1 q.2.2.2.2.2.2.2.2.2.2.2.2.2.1 q.2.2.2.2.2.2.2.2.2.2.2.2.2.2.1 q.2.2.2.2.2.2.2.2.2.2.2.2.2.2.2.1 (fun v1 v2 v3 v4 v5 v6 v7 v8 v9 v10 v11 v12 v13 v14 v15 v16=>C250 (v1,v2,v3,v4,v5,v6,v7,v8,v9,v10,v11,v12,v13,v14,v15,v16,())) q.1 q.2.1
def A32 (K:Nat)(C1018:CT Av3 s_95)(q:PT A3z):Rt s_95:=Ate K q.2.2.2.2.1 (fun v24 v25=>C1018 (q.1,q.2.1,q.2.2.1,v24,v25,q.2.2.2.2.2.1,q.2.2.2.2.2.2.1,q.2.2.2.2.2.2.2.1,q.2.2.2.2.2.2.2.2.1,q.2.2.2.2.2.2.2.2.2.1,q.2.2.2.2.2.2.2.2.2.2.1,q.2.2.2.2.2.2.2.2.2.2.2.1,q.2.2.2.2.2.2.2.2.2.2.2.2.1,q.2.2.2.2.2.2.2.2.2.2.2.2.2.1,q.2.2.2.2.2.2.2.2.2.2.2.2.2.2.1,q.2.2.2.2.2.2.2.2.2.2.2.2.2.2.2.1,q.2.2.2.2.2.2.2.2.2.2.2.2.2.2.2.2.1,())) q.2.2.2.1
def A33 (K:Nat)(n:Nat)(q:PT A30):Rt s_95:=Ajb K q.1 q.2.1 q.2.2.1 q.2.2.2.2.2.2.2.2.2.2.2.1 q.2.2.2.2.2.2.2.2.2.2.2.2.1 q.2.2.2.2.2.2.2.2.2.2.2.2.2.1 q.2.2.2.2.2.2.2.2.2.2.2.2.2.2.1 q.2.2.2.1 n q.2.2.2.2.1
def Azw (K:Nat)(n:Nat)(q:PT Av3):Rt s_95:=Agd K q.1 q.2.1 q.2.2.1 q.2.2.2.2.2.2.2.2.2.2.2.1 q.2.2.2.2.2.2.2.2.2.2.2.2.1 q.2.2.2.2.2.2.2.2.2.2.2.2.2.1 q.2.2.2.2.2.2.2.2.2.2.2.2.2.2.1 n q.2.2.2.1 q.2.2.2.2.1
def A0w (K:Nat)(n:Nat)(q:PT Ajd):Rt s_95:=Abq K n q.1 q.2.1 q.2.2.1 q.2.2.2.1 q.2.2.2.2.1 q.2.2.2.2.2.1 q.2.2.2.2.2.2.1 q.2.2.2.2.2.2.2.1 q.2.2.2.2.2.2.2.2.1 q.2.2.2.2.2.2.2.2.2.1 q.2.2.2.2.2.2.2.2.2.2.1 q.2.2.2.2.2.2.2.2.2.2.2.1 q.2.2.2.2.2.2.2.2.2.2.2.2.1 q.2.2.2.2.2.2.2.2.2.2.2.2.2.1 q.2.2.2.2.2.2.2.2.2.2.2.2.2.2.1 q.2.2.2.2.2.2.2.2.2.2.2.2.2.2.2.1
theorem A8s (K:Nat)(C250:CT Ajd s_95)(C128158:CT Anf s_95):AtL (A8r K) (fun n=>[]) [(128158,ar Anf C128158),(250,ar Ajd C250)] (bd Tryz.f148) 16404262 (Azq K C250 C128158):=fun n q=>by kernel_rfl
theorem Ba3 (K:Nat)(C250:CT Ajd s_95)(C128158:CT Anf s_95):AtJ (A8r K) [(16404262,ar Azp (Azq K C250 C128158 K))] [(128158,ar Anf C128158),(250,ar Ajd C250)] (bd Tryz.f148) 2050532 (A0d K C250 C128158):=fun q=>by kernel_rfl
theorem Bcr (K:Nat)(C250:CT Ajd s_95):AtL (A8r K) (fun n=>[(2050532,ar A0c (A0d K C250 (Axm K C250 n)))]) [(250,ar Ajd C250)] (bd Tryz.f148) 128158 (Axm K C250):=fun n q=>by kernel_rfl
theorem Bhh (K:Nat)(C250:CT Ajd s_95):AtJ (A8r K) [(128158,ar Anf (Axm K C250 K))] [(250,ar Ajd C250)] (bd Tryz.f148) 8009 (A31 K C250):=fun q=>by kernel_rfl
theorem Bhi (K:Nat)(C1018:CT Av3 s_95):AtJ (A8r K) [] [(1018,ar Av3 C1018)] (bd Tryz.f148) 4073 (A32 K C1018):=fun q=>by kernel_rfl
theorem Bhj (K:Nat):AtL (A8r K) (fun n=>[]) [] (bd Tryz.f148) 2042 (A33 K):=fun n q=>by kernel_rfl
theorem Bhk (K:Nat):AtL (A8r K) (fun n=>[(4073,ar A3z (A32 K (Azw K n))),(2042,ar A30 (A33 K K))]) [] (bd Tryz.f148) 1018 (Azw K):=fun n q=>by kernel_rfl
theorem Bk5 (K:Nat):AtL (A8r K) (fun n=>[(8009,ar A3y (A31 K (A0w K n))),(1018,ar Av3 (Azw K K))]) [] (bd Tryz.f148) 250 (A0w K):=fun n q=>by kernel_rfl
theorem A2z (K:Nat):XF [.tmp 2] s_95 148 [4073,8009,2050532] (A8r K):=xkF (gC (Bti K) (gC (Bcp K) (gC (Btg K) (gC (B2j K) (gC (Bsm K) gN))))) oN
theorem A8t (K:Nat)(C250:CT Ajd s_95)(C128158:CT Anf s_95)(n:Nat):CF [.tmp 2] s_95 148 [4073,8009,2050532] (bd Tryz.f148) [(128158,ar Anf C128158),(250,ar Ajd C250)] 16404262 (ar Azp (Azq K C250 C128158 n)):=
 Agc (A2z K) (A8s K C250 C128158) (fun n=>kN) n
theorem Ba4 (K:Nat)(C250:CT Ajd s_95)(C128158:CT Anf s_95):CF [.tmp 2] s_95 148 [4073,8009,2050532] (bd Tryz.f148) [(128158,ar Anf C128158),(250,ar Ajd C250)] 2050532 (ar A0c (A0d K C250 C128158)):=
 Aiz (A2z K) (Ba3 K C250 C128158) (kC (A8t K C250 C128158 K) kN)
theorem Bcs (K:Nat)(C250:CT Ajd s_95)(n:Nat):CF [.tmp 2] s_95 148 [4073,8009,2050532] (bd Tryz.f148) [(250,ar Ajd C250)] 128158 (ar Anf (Axm K C250 n)):=
 Agc (A2z K) (Bcr K C250) (fun n=>(kC (Ba4 K C250 (Axm K C250 n)) kN)) n
theorem Bhl (K:Nat)(C250:CT Ajd s_95):CF [.tmp 2] s_95 148 [4073,8009,2050532] (bd Tryz.f148) [(250,ar Ajd C250)] 8009 (ar A3y (A31 K C250)):=
 Aiz (A2z K) (Bhh K C250) (kC (Bcs K C250 K) kN)
theorem Bhm (K:Nat)(C1018:CT Av3 s_95):CF [.tmp 2] s_95 148 [4073,8009,2050532] (bd Tryz.f148) [(1018,ar Av3 C1018)] 4073 (ar A3z (A32 K C1018)):=
 Aiz (A2z K) (Bhi K C1018) kN
theorem Bhn (K:Nat)(n:Nat):CF [.tmp 2] s_95 148 [4073,8009,2050532] (bd Tryz.f148) [] 2042 (ar A30 (A33 K n)):=
 Agc (A2z K) (Bhj K) (fun n=>kN) n
theorem Bho (K:Nat)(n:Nat):CF [.tmp 2] s_95 148 [4073,8009,2050532] (bd Tryz.f148) [] 1018 (ar Av3 (Azw K n)):=
 Agc (A2z K) (Bhk K) (fun n=>(kC (Bhm K (Azw K n)) (kC (Aq3 (by kernel_rfl) (Bhn K K)) kN))) n
theorem Bk6 (K:Nat)(n:Nat):CF [.tmp 2] s_95 148 [4073,8009,2050532] (bd Tryz.f148) [] 250 (ar Ajd (A0w K n)):=
 Agc (A2z K) (Bk5 K) (fun n=>(kC (Bhl K (A0w K n)) (kC (Aq3 (by kernel_rfl) (Bho K K)) kN))) n
theorem B2m (K:Nat):OkF 148 (B2l K):=
 Abg (x:=A8r K) (L:=[(250,ar Ajd (A0w K K))]) (c0:=bd Tryz.f148) (A2z K) (by intro a0;show @Eq _ _ _;kernel_rfl) (kC (Bk6 K K) kN) Tryz.func148 trivial
def Ang (K:Nat)(a0:Fa)(v8:List Int):Nat->Int->Option (Bool)
 |0,_=>none
 |n3+1,v12=>(bif (decide (v12<(v8.length:Int)))then(if(0:Int)≤v12∧v12<(v8.length:Int)then((Aaa K (gt v8 v12) 0 (Aqd .i64 a0.Af 1)).bind fun r13=>(bif r13 then(if(0:Int)≤0∧0≤v12∧v12≤(v8.length:Int)then(if(0:Int)≤v12∧v12<(v8.length:Int)then((Apu K ((v8.drop (0:Int).toNat).take (v12 - 0).toNat) (gt v8 v12)).bind fun r14=>(bif r14 then some false else(Ang K a0 v8 n3 (Aqc .i64 v12 1))))else none)else none)else some false))else none)else some true)
def Apq (K:Nat)(a0:Fa)(v7:List Int)(v8:List Int):Nat->Int->Option (Bool)
 |0,_=>none
 |n2+1,v10=>(bif (decide (v10<(v7.length:Int)))then(if(0:Int)≤v10∧v10<(v7.length:Int)then((Aaa K (gt v7 v10) 0 255).bind fun r11=>(bif (!r11)then some false else(Apq K a0 v7 v8 n2 (Aqc .i64 v10 1))))else none)else(Ang K a0 v8 K 0))
def Auq (K:Nat)(a0:Fa)(v5:Int)(v6:Int)(v7:List Int)(v8:List Int)(v9:Int):Option (Bool):=(Apq K a0 v7 v8 K 0)
def Awq (K:Nat)(a0:Fa)(a1:A3):Option (Bool):=((Ak9 K a0).bind fun r1=>(bif r1 then((Aaa K a1.As 0 a0.Db).bind fun r2=>(bif r2 then((Aaa K a1.B5 0 a0.Db).bind fun r3=>(bif r3 then(bif (decide ((a1.Dt.length:Int)>6))then some false else((Aaa K a1.Hj 0 (Aqd .i64 a0.Ez 1)).bind fun r4=>(bif r4 then(bif ((a1.Af.length:Int)==0)then(bif (a1.Hj != 0)then some false else(Auq K a0 a1.As a1.B5 a1.Dt a1.Af a1.Hj))else(Auq K a0 a1.As a1.B5 a1.Dt a1.Af a1.Hj))else some false)))else some false))else some false))else some false))
def s_96:Sig:=⟨[.v 25,.v 159],[.v 4],true⟩
def B2n (K:Nat):Gu tyU:=⟨s_96,Awq K⟩
def Bk7 (K:Nat):=xF s_96 [(84,c_7 K),(210,c_8 K),(218,Bhd K)] [] 95 [8,9,10,15,16,17,18,23,24,25,26,30,31,32,38,39,40,41,45,46,81,82,83] [] [] [3] [.tmp 4]
def A65:Fs:=⟨[(2,.p 102),(3,.p 103),(6,.v 2)],[(103,.box [.v 2,.v 2,.v 26,.v 26,.v 2]),(102,.st 25 true)]⟩
def Ba5:Fs:=⟨[(2,.p 102),(3,.p 103),(5,.v 2)],[(103,.box [.v 2,.v 2,.v 26,.v 26,.v 2]),(102,.st 25 true)]⟩
def Beo:Fs:=⟨[(2,.p 102),(3,.p 103)],[(103,.box [.v 2,.v 2,.v 26,.v 26,.v 2]),(102,.st 25 true)]⟩
def A66 (K:Nat)(n:Nat)(q:PT A65):Rt s_96:=Ang K q.2.2.2.2.2.2.1 q.2.2.2.2.1 n q.1
def Ba6 (K:Nat)(n:Nat)(q:PT Ba5):Rt s_96:=Apq K q.2.2.2.2.2.2.1 q.2.2.2.1 q.2.2.2.2.1 n q.1
def Bep (K:Nat)(q:PT Beo):Rt s_96:=Auq K q.2.2.2.2.2.1 q.1 q.2.1 q.2.2.1 q.2.2.2.1 q.2.2.2.2.1
theorem Bk8 (K:Nat):AtL (Bk7 K) (fun n=>[]) [] (bd Tryz.f220) 122 (A66 K):=fun n q=>by kernel_rfl
theorem Bq3 (K:Nat):AtL (Bk7 K) (fun n=>[(122,ar A65 (A66 K K))]) [] (bd Tryz.f220) 58 (Ba6 K):=fun n q=>by kernel_rfl
theorem Bw6 (K:Nat):AtJ (Bk7 K) [(58,ar Ba5 (Ba6 K K))] [] (bd Tryz.f220) 3 (Bep K):=fun q=>by kernel_rfl
theorem Bf8 (K:Nat):XF [.tmp 4] s_96 95 [3] (Bk7 K):=xkF (gC (Azn K) (gC (Bcl K) (gC (Bcp K) gN))) oN
theorem Bk9 (K:Nat)(n:Nat):CF [.tmp 4] s_96 95 [3] (bd Tryz.f220) [] 122 (ar A65 (A66 K n)):=
 Agc (Bf8 K) (Bk8 K) (fun n=>kN) n
theorem Bq4 (K:Nat)(n:Nat):CF [.tmp 4] s_96 95 [3] (bd Tryz.f220) [] 58 (ar Ba5 (Ba6 K n)):=
 Agc (Bf8 K) (Bq3 K) (fun n=>(kC (Aq3 (by kernel_rfl) (Bk9 K K)) kN)) n
theorem Bw7 (K:Nat):CF [.tmp 4] s_96 95 [3] (bd Tryz.f220) [] 3 (ar Beo (Bep K)):=
 Aiz (Bf8 K) (Bw6 K) (kC (Bq4 K K) kN)
theorem B2o (K:Nat):OkF 220 (B2n K):=
 Abg (x:=Bk7 K) (L:=[(3,ar Beo (Bep K))]) (c0:=bd Tryz.f220) (Bf8 K) (by intro a0 a1;show @Eq _ _ _;kernel_rfl) (kC (Bw7 K) kN) Tryz.func220 trivial
def Aqm (K:Nat)(v17:List Bg)(r21:(List Int)):Nat->Int->Option (Bool)
 |0,_=>none
 |n4+1,v22=>(bif (decide (v22<(r21.length:Int)))then(if(0:Int)≤v22∧v22<(r21.length:Int)then((As7 K v17 (gt r21 v22)).bind fun r23=>(bif (!r23)then some false else(Aqm K v17 r21 n4 (Aqc .i64 v22 1))))else none)else some true)
def An6 (K:Nat)(v4:Int)(v17:List Bg):Option (Bool):=((Au8 K v17 v4).bind fun r21=>(Aqm K v17 r21 K 0))
def Asi (K:Nat)(v3:Int)(v4:Int)(v17:List Bg):Option (Bool):=(bif (v3 != 0)then(if(0:Int)≤(Aqd .i64 v3 1)∧(Aqd .i64 v3 1)<(v17.length:Int)then(bif (((gt v17 (Aqd .i64 v3 1)).Ja) != 2)then some false else(bif (v4 != 0)then(if(0:Int)≤(Aqd .i64 v4 1)∧(Aqd .i64 v4 1)<(v17.length:Int)then(bif (((gt v17 (Aqd .i64 v4 1)).Hh) != 0)then some false else(An6 K v4 v17))else none)else(An6 K v4 v17)))else none)else(bif (v4 != 0)then(if(0:Int)≤(Aqd .i64 v4 1)∧(Aqd .i64 v4 1)<(v17.length:Int)then(bif (((gt v17 (Aqd .i64 v4 1)).Hh) != 0)then some false else(An6 K v4 v17))else none)else(An6 K v4 v17)))
def An7 (K:Nat):Nat->Int->Int->Int->(List Int)->(List Int)->Int->Int->Int->Int->Int->Int->Int->(List Int)->(List Int)->(List Int)->(List Bg)->(List A3)->(List Int)->Option (Bool)
 |0,_,_,_,_,_,_,_,_,_,_,_,_,_,_,_,_,_,_=>none
 |n1+1,v2,v3,v4,v5,v6,v7,v8,v9,v10,v11,v12,v13,v14,v15,v16,v17,v18,v19=>(bif (decide (v2<(v6.length:Int)))then(if(0:Int)≤v2∧v2<(v6.length:Int)then(if(0:Int)≤(gt v6 v2)∧(gt v6 v2)<(v15.length:Int)then(bif ((gt v15 (gt v6 v2)) != 2)then some false else(An7 K n1 (Aqc .i64 v2 1) v3 v4 v5 v6 v7 v8 v9 v10 v11 v12 v13 v14 v15 v16 v17 v18 v19))else none)else none)else(bif (decide ((v6.length:Int)>0))then(if(0:Int)≤0∧0<(v6.length:Int)then(if(0:Int)≤0∧0<(v6.length:Int)then(if(0:Int)≤(Aqe .i64 (gt v6 0) v9)∧(Aqe .i64 (gt v6 0) v9)≤(Aqc .i64 (Aqe .i64 (gt v6 0) v9) v7)∧(Aqc .i64 (Aqe .i64 (gt v6 0) v9) v7)≤(v14.length:Int)then((Asl K ((v14.drop (Aqe .i64 (gt v6 0) v9).toNat).take ((Aqc .i64 (Aqe .i64 (gt v6 0) v9) v7) - (Aqe .i64 (gt v6 0) v9)).toNat)).bind fun r20=>(bif (!r20)then some false else(Asi K v3 v4 v17)))else none)else none)else none)else(Asi K v3 v4 v17)))
def Avp (K:Nat)(a0:Es)(a1:Int):Option (Bool):=(if(0:Int)≤a1∧a1<(a0.fQ.length:Int)then((Awq K a0.fC (gt a0.fQ a1)).bind fun r1=>(bif (!r1)then some false else(An7 K K 0 ((gt a0.fQ a1).As) ((gt a0.fQ a1).B5) ((gt a0.fQ a1).Dt) ((gt a0.fQ a1).Af) ((gt a0.fQ a1).Hj) a0.fC.Af a0.fC.Ez a0.fC.Db a0.fC.Fv a0.fC.Dc a0.fC.E0 a0.fP.Gl a0.fP.Ja a0.fP.Gm a0.fL a0.fQ a0.Rl)))else none)
def s_97:Sig:=⟨[.v 32,.v 3],[.v 4],true⟩
def B2p (K:Nat):Gu tyU:=⟨s_97,Avp K⟩
def Bhp (K:Nat):=xF s_97 [(202,Bw4 K),(212,Bjy K),(220,B2n K),(221,Bw3 K)] [] 117 [40,41,70,71,80,81,82,85,86] [] [] [31,63] [.tmp 4]
def A34:Fs:=⟨[(2,.p 102),(7,.v 26),(8,.v 2)],[(102,.box [.v 2,.v 2,.v 2,.v 2,.v 2,.v 2,.v 22,.v 26,.v 26,.v 29,.v 30,.v 26])]⟩
def Ba7:Fs:=⟨[(2,.p 102),(5,.p 105)],[(105,.box [.v 2,.v 2,.v 26,.v 26,.v 2]),(102,.box [.v 2,.v 2,.v 2,.v 2,.v 2,.v 2,.v 22,.v 26,.v 26,.v 29,.v 30,.v 26])]⟩
def Ba8:Fs:=⟨[(2,.p 102),(5,.p 105)],[(105,.box [.v 2,.v 2,.v 26,.v 26,.v 2]),(102,.box [.v 2,.v 2,.v 2,.v 2,.v 2,.v 2,.v 22,.v 26,.v 26,.v 29,.v 30,.v 26])]⟩
def A67:Fs:=⟨[(2,.p 102),(5,.p 105),(6,.v 2)],[(105,.box [.v 2,.v 2,.v 26,.v 26,.v 2]),(102,.box [.v 2,.v 2,.v 2,.v 2,.v 2,.v 2,.v 22,.v 26,.v 26,.v 29,.v 30,.v 26])]⟩
def A35 (K:Nat)(n:Nat)(q:PT A34):Rt s_97:=Aqm K q.2.2.2.2.2.2.2.2.2.2.2.1 q.1 n q.2.1
def Ba9 (K:Nat)(q:PT Ba7):Rt s_97:=An6 K q.2.1 q.2.2.2.2.2.2.2.2.2.2.2.2.2.2.1
def Bba (K:Nat)(q:PT Ba8):Rt s_97:=Asi K q.1 q.2.1 q.2.2.2.2.2.2.2.2.2.2.2.2.2.2.1
def A68 (K:Nat)(n:Nat)(q:PT A67):Rt s_97:=An7 K n q.1 q.2.1 q.2.2.1 q.2.2.2.1 q.2.2.2.2.1 q.2.2.2.2.2.1 q.2.2.2.2.2.2.1 q.2.2.2.2.2.2.2.1 q.2.2.2.2.2.2.2.2.1 q.2.2.2.2.2.2.2.2.2.1 q.2.2.2.2.2.2.2.2.2.2.1 q.2.2.2.2.2.2.2.2.2.2.2.1 q.2.2.2.2.2.2.2.2.2.2.2.2.1 q.2.2.2.2.2.2.2.2.2.2.2.2.2.1 q.2.2.2.2.2.2.2.2.2.2.2.2.2.2.1 q.2.2.2.2.2.2.2.2.2.2.2.2.2.2.2.1 q.2.2.2.2.2.2.2.2.2.2.2.2.2.2.2.2.1 q.2.2.2.2.2.2.2.2.2.2.2.2.2.2.2.2.2.1
theorem Bhq (K:Nat):AtL (Bhp K) (fun n=>[]) [] (bd Tryz.f147) 2042 (A35 K):=fun n q=>by kernel_rfl
theorem Bq5 (K:Nat):AtJ (Bhp K) [(2042,ar A34 (A35 K K))] [] (bd Tryz.f147) 63 (Ba9 K):=fun q=>by kernel_rfl
theorem Bq6 (K:Nat):AtJ (Bhp K) [(63,ar Ba7 (Ba9 K))] [] (bd Tryz.f147) 31 (Bba K):=fun q=>by kernel_rfl
theorem Bla (K:Nat):AtL (Bhp K) (fun n=>[(31,ar Ba8 (Bba K))]) [] (bd Tryz.f147) 122 (A68 K):=fun n q=>by kernel_rfl
theorem Bct (K:Nat):XF [.tmp 4] s_97 117 [31,63] (Bhp K):=xkF (gC (Bti K) (gC (Bf1 K) (gC (B2o K) (gC (Btg K) gN)))) oN
theorem Bhr (K:Nat)(n:Nat):CF [.tmp 4] s_97 117 [31,63] (bd Tryz.f147) [] 2042 (ar A34 (A35 K n)):=
 Agc (Bct K) (Bhq K) (fun n=>kN) n
theorem Bq7 (K:Nat):CF [.tmp 4] s_97 117 [31,63] (bd Tryz.f147) [] 63 (ar Ba7 (Ba9 K)):=
 Aiz (Bct K) (Bq5 K) (kC (Bhr K K) kN)
theorem Bq8 (K:Nat):CF [.tmp 4] s_97 117 [31,63] (bd Tryz.f147) [] 31 (ar Ba8 (Bba K)):=
 Aiz (Bct K) (Bq6 K) (kC (Bq7 K) kN)
theorem Blb (K:Nat)(n:Nat):CF [.tmp 4] s_97 117 [31,63] (bd Tryz.f147) [] 122 (ar A67 (A68 K n)):=
 Agc (Bct K) (Bla K) (fun n=>(kC (Aq3 (by kernel_rfl) (Bq8 K)) kN)) n
theorem B2q (K:Nat):OkF 147 (B2p K):=
 Abg (x:=Bhp K) (L:=[(122,ar A67 (A68 K K))]) (c0:=bd Tryz.f147) (Bct K) (by intro a0 a1;show @Eq _ _ _;kernel_rfl) (kC (Blb K K) kN) Tryz.func147 trivial
def Am9 (K:Nat)(a1:Int)(r1:(List Int)):Nat->Int->Int->Int->Int->Int->Int->Int->(List Int)->(List Int)->(List Int)->(List Bg)->(List A3)->(List Int)->Option (Bool)
 |0,_,_,_,_,_,_,_,_,_,_,_,_,_=>none
 |n1+1,v2,v3,v4,v5,v6,v7,v8,v9,v10,v11,v12,v13,v14=>(bif (decide (v2<(r1.length:Int)))then(if(0:Int)≤a1∧a1<(v12.length:Int)then(if(0:Int)≤v2∧v2<(r1.length:Int)then((Apu K ((gt v12 a1).Af) (gt r1 v2)).bind fun r15=>(bif (!r15)then some false else(Am9 K a1 r1 n1 (Aqc .i64 v2 1) v3 v4 v5 v6 v7 v8 v9 v10 v11 v12 v13 v14)))else none)else none)else(if(0:Int)≤a1∧a1<(v12.length:Int)then some ((r1.length:Int)==(((gt v12 a1).Af).length:Int))else none))
def Aur (K:Nat)(a0:Es)(a1:Int):Option (Bool):=((At3 K a0.fP a1).bind fun r1=>(Am9 K a1 r1 K 0 a0.fC.Af a0.fC.Ez a0.fC.Db a0.fC.Fv a0.fC.Dc a0.fC.E0 a0.fP.Gl a0.fP.Ja a0.fP.Gm a0.fL a0.fQ a0.Rl))
def s_98:Sig:=⟨[.v 32,.v 3],[.v 4],true⟩
def B2r (K:Nat):Gu tyU:=⟨s_98,Aur K⟩
def Bw8 (K:Nat):=xF s_98 [(217,Bvz K),(218,Bhd K)] [] 39 [] [] [] [] [.tmp 4]
def Bbb:Fs:=⟨[(1,.v 2),(2,.p 102),(5,.v 26),(6,.v 2)],[(102,.box [.v 2,.v 2,.v 2,.v 2,.v 2,.v 2,.v 22,.v 26,.v 26,.v 29,.v 30,.v 26])]⟩
def Bbc (K:Nat)(n:Nat)(q:PT Bbb):Rt s_98:=Am9 K q.1 q.2.1 n q.2.2.1 q.2.2.2.1 q.2.2.2.2.1 q.2.2.2.2.2.1 q.2.2.2.2.2.2.1 q.2.2.2.2.2.2.2.1 q.2.2.2.2.2.2.2.2.1 q.2.2.2.2.2.2.2.2.2.1 q.2.2.2.2.2.2.2.2.2.2.1 q.2.2.2.2.2.2.2.2.2.2.2.1 q.2.2.2.2.2.2.2.2.2.2.2.2.1 q.2.2.2.2.2.2.2.2.2.2.2.2.2.1 q.2.2.2.2.2.2.2.2.2.2.2.2.2.2.1
theorem Bq9 (K:Nat):AtL (Bw8 K) (fun n=>[]) [] (bd Tryz.f143) 58 (Bbc K):=fun n q=>by kernel_rfl
theorem Btj (K:Nat):XF [.tmp 4] s_98 39 [] (Bw8 K):=xkF (gC (Bsk K) (gC (Bcp K) gN)) oN
theorem Bra (K:Nat)(n:Nat):CF [.tmp 4] s_98 39 [] (bd Tryz.f143) [] 58 (ar Bbb (Bbc K n)):=
 Agc (Btj K) (Bq9 K) (fun n=>kN) n
theorem B2s (K:Nat):OkF 143 (B2r K):=
 Abg (x:=Bw8 K) (L:=[(58,ar Bbb (Bbc K K))]) (c0:=bd Tryz.f143) (Btj K) (by intro a0 a1;show @Eq _ _ _;kernel_rfl) (kC (Bra K K) kN) Tryz.func143 trivial
def An8 (K:Nat)(a0:Fa)(v1:Int)(v2:Int)(v3:Int)(v4:Int)(v5:Int)(v6:Int)(v7:Int)(v8:Int)(v9:Int)(v10:List Int)(v11:Int)(v12:Int)(v13:List Bf)(v14:List Int)(C1:Int->Int->Int->Int->Int->Int->Int->Int->Int->(List Int)->Int->Int->(List Bf)->(List Int)->Option (Bool)):Nat->Int->Bf->Option (Bool)
 |0,_,_=>none
 |n2+1,v16,v17=>(if a0.Ez≠(0:Int)then(bif (decide (v16≤(Anr .i64 (Aqd .i64 (Aqc .i64 v17.fAt v17.Xf) 1) a0.Ez)))then((Apu K v10 v16).bind fun r18=>(bif (!r18)then some false else(An8 K a0 v1 v2 v3 v4 v5 v6 v7 v8 v9 v10 v11 v12 v13 v14 C1 n2 (Aqc .i64 v16 1) v17)))else(C1 (Aqc .i64 v1 1) v2 v3 v4 v5 v6 v7 v8 v9 v10 v11 v12 v13 v14))else none)
def Ai0 (K:Nat)(a0:Fa):Nat->Int->Int->Int->Int->Int->Int->Int->Int->Int->(List Int)->Int->Int->(List Bf)->(List Int)->Option (Bool)
 |0,_,_,_,_,_,_,_,_,_,_,_,_,_,_=>none
 |n1+1,v1,v2,v3,v4,v5,v6,v7,v8,v9,v10,v11,v12,v13,v14=>(bif (decide (v1<(v13.length:Int)))then(if(0:Int)≤v1∧v1<(v13.length:Int)then((As2 K a0 (gt v13 v1)).bind fun r15=>(bif (!r15)then some false else(if a0.Ez≠(0:Int)then(An8 K a0 v1 v2 v3 v4 v5 v6 v7 v8 v9 v10 v11 v12 v13 v14 (Ai0 K a0 n1) K (Anr .i64 ((gt v13 v1).fAt) a0.Ez) (gt v13 v1))else none)))else none)else some true)
def Avq (K:Nat)(a0:Fa)(a1:Bg):Option (Bool):=(Ai0 K a0 K 0 a1.Ja a1.Bz a1.Js a1.fUp a1.Hf a1.B5 a1.Hg a1.Hh a1.Af a1.Rk a1.Hi a1.Er a1.Dt)
def s_99:Sig:=⟨[.v 25,.v 44],[.v 4],true⟩
def B2t (K:Nat):Gu tyU:=⟨s_99,Avq K⟩
def Brb (K:Nat):=xF s_99 [(216,Bwr K),(218,Bhd K)] [] 47 [] [] [] [] [.tmp 4]
def A36:Fs:=⟨[(2,.p 102),(3,.p 103),(5,.v 2),(6,.p 106),(7,.v 2)],[(106,.st 89 true),(103,.box [.v 2,.v 2,.v 2,.v 2,.v 2,.v 2,.v 2,.v 2,.v 26,.v 2,.v 2,.v 41,.v 26]),(102,.st 25 true)]⟩
def Azg:Fs:=⟨[(2,.p 102),(3,.p 103),(5,.v 2)],[(103,.box [.v 2,.v 2,.v 2,.v 2,.v 2,.v 2,.v 2,.v 2,.v 26,.v 2,.v 2,.v 41,.v 26]),(102,.st 25 true)]⟩
def A37 (K:Nat)(C26:CT Azg s_99)(n:Nat)(q:PT A36):Rt s_99:=An8 K q.2.2.2.2.2.2.2.2.2.2.2.2.2.2.2.2.1 q.1 q.2.2.2.1 q.2.2.2.2.1 q.2.2.2.2.2.1 q.2.2.2.2.2.2.1 q.2.2.2.2.2.2.2.1 q.2.2.2.2.2.2.2.2.1 q.2.2.2.2.2.2.2.2.2.1 q.2.2.2.2.2.2.2.2.2.2.1 q.2.2.2.2.2.2.2.2.2.2.2.1 q.2.2.2.2.2.2.2.2.2.2.2.2.1 q.2.2.2.2.2.2.2.2.2.2.2.2.2.1 q.2.2.2.2.2.2.2.2.2.2.2.2.2.2.1 q.2.2.2.2.2.2.2.2.2.2.2.2.2.2.2.1 (fun v1 v2 v3 v4 v5 v6 v7 v8 v9 v10 v11 v12 v13 v14=>C26 (v1,v2,v3,v4,v5,v6,v7,v8,v9,v10,v11,v12,v13,v14,q.2.2.2.2.2.2.2.2.2.2.2.2.2.2.2.2.1,())) n q.2.1 q.2.2.1
def A20 (K:Nat)(n:Nat)(q:PT Azg):Rt s_99:=Ai0 K q.2.2.2.2.2.2.2.2.2.2.2.2.2.2.1 n q.1 q.2.1 q.2.2.1 q.2.2.2.1 q.2.2.2.2.1 q.2.2.2.2.2.1 q.2.2.2.2.2.2.1 q.2.2.2.2.2.2.2.1 q.2.2.2.2.2.2.2.2.1 q.2.2.2.2.2.2.2.2.2.1 q.2.2.2.2.2.2.2.2.2.2.1 q.2.2.2.2.2.2.2.2.2.2.2.1 q.2.2.2.2.2.2.2.2.2.2.2.2.1 q.2.2.2.2.2.2.2.2.2.2.2.2.2.1
theorem Bhs (K:Nat)(C26:CT Azg s_99):AtL (Brb K) (fun n=>[]) [(26,ar Azg C26)] (bd Tryz.f144) 6734 (A37 K C26):=fun n q=>by kernel_rfl
theorem Brc (K:Nat):AtL (Brb K) (fun n=>[(6734,ar A36 (A37 K (A20 K n) K))]) [] (bd Tryz.f144) 26 (A20 K):=fun n q=>by kernel_rfl
theorem Blc (K:Nat):XF [.tmp 4] s_99 47 [] (Brb K):=xkF (gC (Bs8 K) (gC (Bcp K) gN)) oN
theorem Bht (K:Nat)(C26:CT Azg s_99)(n:Nat):CF [.tmp 4] s_99 47 [] (bd Tryz.f144) [(26,ar Azg C26)] 6734 (ar A36 (A37 K C26 n)):=
 Agc (Blc K) (Bhs K C26) (fun n=>kN) n
theorem Brd (K:Nat)(n:Nat):CF [.tmp 4] s_99 47 [] (bd Tryz.f144) [] 26 (ar Azg (A20 K n)):=
 Agc (Blc K) (Brc K) (fun n=>(kC (Bht K (A20 K n) K) kN)) n
theorem B2u (K:Nat):OkF 144 (B2t K):=
 Abg (x:=Brb K) (L:=[(26,ar Azg (A20 K K))]) (c0:=bd Tryz.f144) (Blc K) (by intro a0 a1;show @Eq _ _ _;kernel_rfl) (kC (Brd K K) kN) Tryz.func144 trivial
def Ax8 (K:Nat)(a0:Bf)(a1:Bf):Option (Bool):=(bif (decide (a0.Xf<1))then some true else(bif (decide (a1.Xf<1))then some true else(bif (decide (a0.fAt≤a1.fAt))then(bif (decide ((Aqd .i64 a1.fAt a0.fAt)≥a0.Xf))then some true else some (decide ((Aqd .i64 a1.fAt a0.fAt)<0)))else(bif (decide ((Aqd .i64 a0.fAt a1.fAt)≥a1.Xf))then some true else some (decide ((Aqd .i64 a0.fAt a1.fAt)<0))))))
def Btk:Sig:=⟨[.v 89,.v 89],[.v 4],true⟩
def Btl (K:Nat):Gu tyU:=⟨Btk,Ax8 K⟩
def B2v (K:Nat):=xF Btk [] [] 50 [7,8,25,26,41,42] [] [] [] [.tmp 4]
theorem Bw9 (K:Nat):OkF 219 (Btl K):=
 Abg (x:=B2v K) (L:=[]) (c0:=bd Tryz.f219) (xkF gN oN) (by intro a0 a1;show @Eq _ _ _;kernel_rfl) kN Tryz.func219 trivial
def Aoc (K:Nat)(a0:List Bf)(v1:Int)(C1:Int->Option (Bool)):Nat->Int->Option (Bool)
 |0,_=>none
 |n2+1,v2=>(bif (decide (v2<v1))then(if(0:Int)≤v1∧v1<(a0.length:Int)then(if(0:Int)≤v2∧v2<(a0.length:Int)then((Ax8 K (gt a0 v1) (gt a0 v2)).bind fun r3=>(bif (!r3)then some false else(Aoc K a0 v1 C1 n2 (Aqc .i64 v2 1))))else none)else none)else(C1 (Aqc .i64 v1 1)))
def Ai1 (K:Nat)(a0:List Bf):Nat->Int->Option (Bool)
 |0,_=>none
 |n1+1,v1=>(bif (decide (v1<(a0.length:Int)))then(Aoc K a0 v1 (Ai1 K a0 n1) K 0)else some true)
def Avr (K:Nat)(a0:List Bf):Option (Bool):=(Ai1 K a0 K 0)
def s_101:Sig:=⟨[.v 41],[.v 4],true⟩
def Btm (K:Nat):Gu tyU:=⟨s_101,Avr K⟩
def Bf9 (K:Nat):=xF s_101 [(219,Btl K)] [] 26 [] [] [] [] [.tmp 2]
def A15:Fs:=⟨[(0,.v 41),(3,.v 2),(4,.v 2)],[]⟩
def Axn:Fs:=⟨[(0,.v 41),(3,.v 2)],[]⟩
def A16 (K:Nat)(C26:CT Axn s_101)(n:Nat)(q:PT A15):Rt s_101:=Aoc K q.1 q.2.1 (fun v1=>C26 (q.1,v1,())) n q.2.2.1
def A0x (K:Nat)(n:Nat)(q:PT Axn):Rt s_101:=Ai1 K q.1 n q.2.1
theorem Beq (K:Nat)(C26:CT Axn s_101):AtL (Bf9 K) (fun n=>[]) [(26,ar Axn C26)] (bd Tryz.f145) 1682 (A16 K C26):=fun n q=>by kernel_rfl
theorem Bld (K:Nat):AtL (Bf9 K) (fun n=>[(1682,ar A15 (A16 K (A0x K n) K))]) [] (bd Tryz.f145) 26 (A0x K):=fun n q=>by kernel_rfl
theorem Ber (K:Nat):XF [.tmp 2] s_101 26 [] (Bf9 K):=xkF (gC (Bw9 K) gN) oN
theorem Bes (K:Nat)(C26:CT Axn s_101)(n:Nat):CF [.tmp 2] s_101 26 [] (bd Tryz.f145) [(26,ar Axn C26)] 1682 (ar A15 (A16 K C26 n)):=
 Agc (Ber K) (Beq K C26) (fun n=>kN) n
theorem Ble (K:Nat)(n:Nat):CF [.tmp 2] s_101 26 [] (bd Tryz.f145) [] 26 (ar Axn (A0x K n)):=
 Agc (Ber K) (Bld K) (fun n=>(kC (Bes K (A0x K n) K) kN)) n
theorem Bxa (K:Nat):OkF 145 (Btm K):=
 Abg (x:=Bf9 K) (L:=[(26,ar Axn (A0x K K))]) (c0:=bd Tryz.f145) (Ber K) (by intro a0;show @Eq _ _ _;kernel_rfl) (kC (Ble K K) kN) Tryz.func145 trivial
def Atu (K:Nat)(v1:Int)(v2:Int)(v3:Int)(v4:Int)(v5:Int)(v6:Int)(v7:Int)(v8:Int)(v9:Int)(v10:Int)(v11:Int)(v12:List Int)(v13:Int)(v14:Int)(v15:List Bf)(v16:List Int)(v17:Int)(v18:Int)(v19:Int)(v20:Int)(v21:Int)(v22:Int)(v23:List Int)(v24:List Int)(v25:List Int)(v26:List Bg)(v27:List A3)(v28:List Int)(C1:Int->Int->Int->Int->Int->Int->Int->Int->Int->Int->Int->(List Int)->Int->Int->(List Bf)->(List Int)->Int->Int->Int->Int->Int->Int->(List Int)->(List Int)->(List Int)->(List Bg)->(List A3)->(List Int)->Option (Bool)):Option (Bool):=(C1 v1 v2 (Aqc .i64 v3 1) v4 v5 v6 v7 v8 v9 v10 v11 v12 v13 v14 v15 v16 v17 v18 v19 v20 v21 v22 v23 v24 v25 v26 v27 v28)
def Ak2 (K:Nat):Nat->Int->Int->Int->Int->Int->Int->Int->Int->Int->Int->Int->(List Int)->Int->Int->(List Bf)->(List Int)->Int->Int->Int->Int->Int->Int->(List Int)->(List Int)->(List Int)->(List Bg)->(List A3)->(List Int)->Option (Bool)
 |0,_,_,_,_,_,_,_,_,_,_,_,_,_,_,_,_,_,_,_,_,_,_,_,_,_,_,_,_=>none
 |n1+1,v1,v2,v3,v4,v5,v6,v7,v8,v9,v10,v11,v12,v13,v14,v15,v16,v17,v18,v19,v20,v21,v22,v23,v24,v25,v26,v27,v28=>(bif (decide (v3<(v15.length:Int)))then(if(0:Int)≤v3∧v3<(v15.length:Int)then(bif (decide (((gt v15 v3).fAt)<v2))then(bif (decide ((Aqc .i64 ((gt v15 v3).fAt) ((gt v15 v3).Xf))>v1))then some false else(Atu K v1 v2 v3 v4 v5 v6 v7 v8 v9 v10 v11 v12 v13 v14 v15 v16 v17 v18 v19 v20 v21 v22 v23 v24 v25 v26 v27 v28 (Ak2 K n1)))else(Atu K v1 v2 v3 v4 v5 v6 v7 v8 v9 v10 v11 v12 v13 v14 v15 v16 v17 v18 v19 v20 v21 v22 v23 v24 v25 v26 v27 v28 (Ak2 K n1)))else none)else(if(0:Int)≤v1∧v1≤v2∧v2≤(v23.length:Int)then((Asl K ((v23.drop v1.toNat).take (v2 - v1).toNat)).bind fun r29=>some r29)else none))
def Avs (K:Nat)(a0:Es)(a1:Int):Option (Bool):=(if(0:Int)≤a1∧a1<(a0.fL.length:Int)then(bif (((gt a0.fL a1).Rk)==0)then some true else(bif (decide ((Aqc .i64 (Aqe .i64 (Aqd .i64 ((gt a0.fL a1).Rk) 1) a0.fC.Ez) ((gt a0.fL a1).Hi))≥(Aqe .i64 ((gt a0.fL a1).Rk) a0.fC.Ez)))then some true else(Ak2 K K (Aqc .i64 (Aqe .i64 (Aqd .i64 ((gt a0.fL a1).Rk) 1) a0.fC.Ez) ((gt a0.fL a1).Hi)) (Aqe .i64 ((gt a0.fL a1).Rk) a0.fC.Ez) 0 ((gt a0.fL a1).Ja) ((gt a0.fL a1).Bz) ((gt a0.fL a1).Js) ((gt a0.fL a1).fUp) ((gt a0.fL a1).Hf) ((gt a0.fL a1).B5) ((gt a0.fL a1).Hg) ((gt a0.fL a1).Hh) ((gt a0.fL a1).Af) ((gt a0.fL a1).Rk) ((gt a0.fL a1).Hi) ((gt a0.fL a1).Er) ((gt a0.fL a1).Dt) a0.fC.Af a0.fC.Ez a0.fC.Db a0.fC.Fv a0.fC.Dc a0.fC.E0 a0.fP.Gl a0.fP.Ja a0.fP.Gm a0.fL a0.fQ a0.Rl)))else none)
def s_102:Sig:=⟨[.v 32,.v 3],[.v 4],true⟩
def Btn (K:Nat):Gu tyU:=⟨s_102,Avs K⟩
def Bga (K:Nat):=xF s_102 [(212,Bjy K)] [] 71 [33,34,54,55] [] [] [2025] [.tmp 4]
def A17:Fs:=⟨[(2,.p 102),(5,.p 105),(6,.v 2),(7,.v 2),(8,.v 2)],[(105,.box [.v 2,.v 2,.v 2,.v 2,.v 2,.v 2,.v 2,.v 2,.v 26,.v 2,.v 2,.v 41,.v 26]),(102,.box [.v 2,.v 2,.v 2,.v 2,.v 2,.v 2,.v 22,.v 26,.v 26,.v 29,.v 30,.v 26])]⟩
def Av4:Fs:=⟨[(2,.p 102),(5,.p 105),(6,.v 2),(7,.v 2),(8,.v 2)],[(105,.box [.v 2,.v 2,.v 2,.v 2,.v 2,.v 2,.v 2,.v 2,.v 26,.v 2,.v 2,.v 41,.v 26]),(102,.box [.v 2,.v 2,.v 2,.v 2,.v 2,.v 2,.v 22,.v 26,.v 26,.v 29,.v 30,.v 26])]⟩
def A18 (K:Nat)(C506:CT Av4 s_102)(q:PT A17):Rt s_102:=Atu K q.1 q.2.1 q.2.2.1 q.2.2.2.1 q.2.2.2.2.1 q.2.2.2.2.2.1 q.2.2.2.2.2.2.1 q.2.2.2.2.2.2.2.1 q.2.2.2.2.2.2.2.2.1 q.2.2.2.2.2.2.2.2.2.1 q.2.2.2.2.2.2.2.2.2.2.1 q.2.2.2.2.2.2.2.2.2.2.2.1 q.2.2.2.2.2.2.2.2.2.2.2.2.1 q.2.2.2.2.2.2.2.2.2.2.2.2.2.1 q.2.2.2.2.2.2.2.2.2.2.2.2.2.2.1 q.2.2.2.2.2.2.2.2.2.2.2.2.2.2.2.1 q.2.2.2.2.2.2.2.2.2.2.2.2.2.2.2.2.1 q.2.2.2.2.2.2.2.2.2.2.2.2.2.2.2.2.2.1 q.2.2.2.2.2.2.2.2.2.2.2.2.2.2.2.2.2.2.1 q.2.2.2.2.2.2.2.2.2.2.2.2.2.2.2.2.2.2.2.1 q.2.2.2.2.2.2.2.2.2.2.2.2.2.2.2.2.2.2.2.2.1 q.2.2.2.2.2.2.2.2.2.2.2.2.2.2.2.2.2.2.2.2.2.1 q.2.2.2.2.2.2.2.2.2.2.2.2.2.2.2.2.2.2.2.2.2.2.1 q.2.2.2.2.2.2.2.2.2.2.2.2.2.2.2.2.2.2.2.2.2.2.2.1 q.2.2.2.2.2.2.2.2.2.2.2.2.2.2.2.2.2.2.2.2.2.2.2.2.1 q.2.2.2.2.2.2.2.2.2.2.2.2.2.2.2.2.2.2.2.2.2.2.2.2.2.1 q.2.2.2.2.2.2.2.2.2.2.2.2.2.2.2.2.2.2.2.2.2.2.2.2.2.2.1 q.2.2.2.2.2.2.2.2.2.2.2.2.2.2.2.2.2.2.2.2.2.2.2.2.2.2.2.1 (fun v1 v2 v3 v4 v5 v6 v7 v8 v9 v10 v11 v12 v13 v14 v15 v16 v17 v18 v19 v20 v21 v22 v23 v24 v25 v26 v27 v28=>C506 (v1,v2,v3,v4,v5,v6,v7,v8,v9,v10,v11,v12,v13,v14,v15,v16,v17,v18,v19,v20,v21,v22,v23,v24,v25,v26,v27,v28,()))
def Azx (K:Nat)(n:Nat)(q:PT Av4):Rt s_102:=Ak2 K n q.1 q.2.1 q.2.2.1 q.2.2.2.1 q.2.2.2.2.1 q.2.2.2.2.2.1 q.2.2.2.2.2.2.1 q.2.2.2.2.2.2.2.1 q.2.2.2.2.2.2.2.2.1 q.2.2.2.2.2.2.2.2.2.1 q.2.2.2.2.2.2.2.2.2.2.1 q.2.2.2.2.2.2.2.2.2.2.2.1 q.2.2.2.2.2.2.2.2.2.2.2.2.1 q.2.2.2.2.2.2.2.2.2.2.2.2.2.1 q.2.2.2.2.2.2.2.2.2.2.2.2.2.2.1 q.2.2.2.2.2.2.2.2.2.2.2.2.2.2.2.1 q.2.2.2.2.2.2.2.2.2.2.2.2.2.2.2.2.1 q.2.2.2.2.2.2.2.2.2.2.2.2.2.2.2.2.2.1 q.2.2.2.2.2.2.2.2.2.2.2.2.2.2.2.2.2.2.1 q.2.2.2.2.2.2.2.2.2.2.2.2.2.2.2.2.2.2.2.1 q.2.2.2.2.2.2.2.2.2.2.2.2.2.2.2.2.2.2.2.2.1 q.2.2.2.2.2.2.2.2.2.2.2.2.2.2.2.2.2.2.2.2.2.1 q.2.2.2.2.2.2.2.2.2.2.2.2.2.2.2.2.2.2.2.2.2.2.1 q.2.2.2.2.2.2.2.2.2.2.2.2.2.2.2.2.2.2.2.2.2.2.2.1 q.2.2.2.2.2.2.2.2.2.2.2.2.2.2.2.2.2.2.2.2.2.2.2.2.1 q.2.2.2.2.2.2.2.2.2.2.2.2.2.2.2.2.2.2.2.2.2.2.2.2.2.1 q.2.2.2.2.2.2.2.2.2.2.2.2.2.2.2.2.2.2.2.2.2.2.2.2.2.2.1 q.2.2.2.2.2.2.2.2.2.2.2.2.2.2.2.2.2.2.2.2.2.2.2.2.2.2.2.1
theorem Bet (K:Nat)(C506:CT Av4 s_102):AtJ (Bga K) [] [(506,ar Av4 C506)] (bd Tryz.f146) 2025 (A18 K C506):=fun q=>by kernel_rfl
theorem Bhu (K:Nat):AtL (Bga K) (fun n=>[(2025,ar A17 (A18 K (Azx K n)))]) [] (bd Tryz.f146) 506 (Azx K):=fun n q=>by kernel_rfl
theorem Beu (K:Nat):XF [.tmp 4] s_102 71 [2025] (Bga K):=xkF (gC (Bf1 K) gN) oN
theorem Bev (K:Nat)(C506:CT Av4 s_102):CF [.tmp 4] s_102 71 [2025] (bd Tryz.f146) [(506,ar Av4 C506)] 2025 (ar A17 (A18 K C506)):=
 Aiz (Beu K) (Bet K C506) kN
theorem Bhv (K:Nat)(n:Nat):CF [.tmp 4] s_102 71 [2025] (bd Tryz.f146) [] 506 (ar Av4 (Azx K n)):=
 Agc (Beu K) (Bhu K) (fun n=>(kC (Bev K (Azx K n)) kN)) n
theorem Bxb (K:Nat):OkF 146 (Btn K):=
 Abg (x:=Bga K) (L:=[(506,ar Av4 (Azx K K))]) (c0:=bd Tryz.f146) (Beu K) (by intro a0 a1;show @Eq _ _ _;kernel_rfl) (kC (Bhv K K) kN) Tryz.func146 trivial
def Anh (K:Nat)(v4:Int)(v5:Int)(v6:Int)(v7:Int)(v8:Int)(v9:Int)(v10:List Int)(v11:List Int)(v12:List Int)(v13:List Bg)(v14:List A3)(v15:List Int):Nat->Int->Option (Bool)
 |0,_=>none
 |n3+1,v23=>(bif (decide (v23<(v15.length:Int)))then(if(0:Int)≤v23∧v23<(v15.length:Int)then((Aaa K (gt v15 v23) 0 255).bind fun r24=>(bif (!r24)then some false else(Anh K v4 v5 v6 v7 v8 v9 v10 v11 v12 v13 v14 v15 n3 (Aqc .i64 v23 1))))else none)else((Aup K (Es.mk (Fa.mk v4 v5 v6 v7 v8 v9) (Eb.mk v10 v11 v12) v13 v14 v15)).bind fun r25=>some r25))
def Apr (K:Nat)(v4:Int)(v5:Int)(v6:Int)(v7:Int)(v8:Int)(v9:Int)(v10:List Int)(v11:List Int)(v12:List Int)(v13:List Bg)(v14:List A3)(v15:List Int):Nat->Int->Option (Bool)
 |0,_=>none
 |n2+1,v21=>(bif (decide (v21<(v14.length:Int)))then((Avp K (Es.mk (Fa.mk v4 v5 v6 v7 v8 v9) (Eb.mk v10 v11 v12) v13 v14 v15) v21).bind fun r22=>(bif (!r22)then some false else(Apr K v4 v5 v6 v7 v8 v9 v10 v11 v12 v13 v14 v15 n2 (Aqc .i64 v21 1))))else(Anh K v4 v5 v6 v7 v8 v9 v10 v11 v12 v13 v14 v15 K 0))
def Ani (K:Nat):Nat->Int->Int->Int->Int->Int->Int->Int->(List Int)->(List Int)->(List Int)->(List Bg)->(List A3)->(List Int)->Option (Bool)
 |0,_,_,_,_,_,_,_,_,_,_,_,_,_=>none
 |n1+1,v3,v4,v5,v6,v7,v8,v9,v10,v11,v12,v13,v14,v15=>(bif (decide (v3<(v13.length:Int)))then(if(0:Int)≤v3∧v3<(v13.length:Int)then((Apv K (Fa.mk v4 v5 v6 v7 v8 v9) (gt v13 v3)).bind fun r16=>(bif r16 then((Aur K (Es.mk (Fa.mk v4 v5 v6 v7 v8 v9) (Eb.mk v10 v11 v12) v13 v14 v15) v3).bind fun r17=>(bif r17 then(if(0:Int)≤v3∧v3<(v13.length:Int)then((Avq K (Fa.mk v4 v5 v6 v7 v8 v9) (gt v13 v3)).bind fun r18=>(bif r18 then(if(0:Int)≤v3∧v3<(v13.length:Int)then((Avr K ((gt v13 v3).Er)).bind fun r19=>(bif r19 then((Avs K (Es.mk (Fa.mk v4 v5 v6 v7 v8 v9) (Eb.mk v10 v11 v12) v13 v14 v15) v3).bind fun r20=>(bif (!r20)then some false else(Ani K n1 (Aqc .i64 v3 1) v4 v5 v6 v7 v8 v9 v10 v11 v12 v13 v14 v15)))else some false))else none)else some false))else none)else some false))else some false))else none)else(Apr K v4 v5 v6 v7 v8 v9 v10 v11 v12 v13 v14 v15 K 0))
def Ary (K:Nat)(a0:Es):Option (Bool):=((Au3 K a0.fC a0.fP).bind fun r1=>(bif r1 then(bif ((a0.fL.length:Int) != a0.fC.Db)then some false else((Axh K a0.fL).bind fun r2=>(bif (!r2)then some false else(Ani K K 0 a0.fC.Af a0.fC.Ez a0.fC.Db a0.fC.Fv a0.fC.Dc a0.fC.E0 a0.fP.Gl a0.fP.Ja a0.fP.Gm a0.fL a0.fQ a0.Rl))))else some false))
def s_103:Sig:=⟨[.v 32],[.v 4],true⟩
def Bcu (K:Nat):Gu tyU:=⟨s_103,Ary K⟩
def Bcv (K:Nat):=xF s_103 [(84,c_7 K),(140,Bv7 K),(141,B2g K),(142,Bei K),(143,B2r K),(144,B2t K),(145,Btm K),(146,Btn K),(147,B2p K),(148,B2l K)] [] 103 [10,11,12,19,20,21,41,42,43,46,47,48,49,57,58,59,60,67,68,69,70] [] [] [] [.tmp 2]
def A38:Fs:=⟨[(1,.p 101),(5,.v 2)],[(101,.box [.v 2,.v 2,.v 2,.v 2,.v 2,.v 2,.v 22,.v 26,.v 26,.v 29,.v 30,.v 26])]⟩
def A39:Fs:=⟨[(1,.p 101),(4,.v 2)],[(101,.box [.v 2,.v 2,.v 2,.v 2,.v 2,.v 2,.v 22,.v 26,.v 26,.v 29,.v 30,.v 26])]⟩
def A69:Fs:=⟨[(1,.p 101),(3,.v 2)],[(101,.box [.v 2,.v 2,.v 2,.v 2,.v 2,.v 2,.v 22,.v 26,.v 26,.v 29,.v 30,.v 26])]⟩
def A4a (K:Nat)(n:Nat)(q:PT A38):Rt s_103:=Anh K q.2.1 q.2.2.1 q.2.2.2.1 q.2.2.2.2.1 q.2.2.2.2.2.1 q.2.2.2.2.2.2.1 q.2.2.2.2.2.2.2.1 q.2.2.2.2.2.2.2.2.1 q.2.2.2.2.2.2.2.2.2.1 q.2.2.2.2.2.2.2.2.2.2.1 q.2.2.2.2.2.2.2.2.2.2.2.1 q.2.2.2.2.2.2.2.2.2.2.2.2.1 n q.1
def A4b (K:Nat)(n:Nat)(q:PT A39):Rt s_103:=Apr K q.2.1 q.2.2.1 q.2.2.2.1 q.2.2.2.2.1 q.2.2.2.2.2.1 q.2.2.2.2.2.2.1 q.2.2.2.2.2.2.2.1 q.2.2.2.2.2.2.2.2.1 q.2.2.2.2.2.2.2.2.2.1 q.2.2.2.2.2.2.2.2.2.2.1 q.2.2.2.2.2.2.2.2.2.2.2.1 q.2.2.2.2.2.2.2.2.2.2.2.2.1 n q.1
def A7a (K:Nat)(n:Nat)(q:PT A69):Rt s_103:=Ani K n q.1 q.2.1 q.2.2.1 q.2.2.2.1 q.2.2.2.2.1 q.2.2.2.2.2.1 q.2.2.2.2.2.2.1 q.2.2.2.2.2.2.2.1 q.2.2.2.2.2.2.2.2.1 q.2.2.2.2.2.2.2.2.2.1 q.2.2.2.2.2.2.2.2.2.2.1 q.2.2.2.2.2.2.2.2.2.2.2.1 q.2.2.2.2.2.2.2.2.2.2.2.2.1
theorem Bhw (K:Nat):AtL (Bcv K) (fun n=>[]) [] (bd Tryz.f83) 250 (A4a K):=fun n q=>by kernel_rfl
theorem Bhx (K:Nat):AtL (Bcv K) (fun n=>[(250,ar A38 (A4a K K))]) [] (bd Tryz.f83) 122 (A4b K):=fun n q=>by kernel_rfl
theorem Blf (K:Nat):AtL (Bcv K) (fun n=>[(122,ar A39 (A4b K K))]) [] (bd Tryz.f83) 58 (A7a K):=fun n q=>by kernel_rfl
theorem Bbd (K:Nat):XF [.tmp 2] s_103 103 [] (Bcv K):=xkF (gC (Azn K) (gC (Bss K) (gC (B2h K) (gC (A86 K) (gC (B2s K) (gC (B2u K) (gC (Bxa K) (gC (Bxb K) (gC (B2q K) (gC (B2m K) gN)))))))))) oN
theorem Bhy (K:Nat)(n:Nat):CF [.tmp 2] s_103 103 [] (bd Tryz.f83) [] 250 (ar A38 (A4a K n)):=
 Agc (Bbd K) (Bhw K) (fun n=>kN) n
theorem Bhz (K:Nat)(n:Nat):CF [.tmp 2] s_103 103 [] (bd Tryz.f83) [] 122 (ar A39 (A4b K n)):=
 Agc (Bbd K) (Bhx K) (fun n=>(kC (Aq3 (by kernel_rfl) (Bhy K K)) kN)) n
theorem Blg (K:Nat)(n:Nat):CF [.tmp 2] s_103 103 [] (bd Tryz.f83) [] 58 (ar A69 (A7a K n)):=
 Agc (Bbd K) (Blf K) (fun n=>(kC (Aq3 (by kernel_rfl) (Bhz K K)) kN)) n
theorem Bbe (K:Nat):OkF 83 (Bcu K):=
 Abg (x:=Bcv K) (L:=[(58,ar A69 (A7a K K))]) (c0:=bd Tryz.f83) (Bbd K) (by intro a0;show @Eq _ _ _;kernel_rfl) (kC (Blg K K) kN) Tryz.func83 trivial
def Ax9 (K:Nat)(a0:E2):Option (Bool):=((Atj K a0.fH).bind fun r1=>(bif r1 then(bif (decide (a0.Js≥0))then some (decide (a0.Xh≥0))else some false)else some false))
def Bto:Sig:=⟨[.v 36],[.v 4],true⟩
def Btp (K:Nat):Gu tyU:=⟨Bto,Ax9 K⟩
def B2w (K:Nat):=xF Bto [(149,Bvw K)] [] 16 [5,6,9,10,11] [] [] [] [.tmp 2]
theorem Bxc (K:Nat):OkF 179 (Btp K):=
 Abg (x:=B2w K) (L:=[]) (c0:=bd Tryz.f179) (xkF (gC (Bsh K) gN) oN) (by intro a0;show @Eq _ _ _;kernel_rfl) kN Tryz.func179 trivial
def Awr (K:Nat)(a0:Bg)(a1:E2):Option (Bf×Bool):=(bif (a0.Ja != 1)then some ((Bf.mk 0 0 0),false)else(bif (a0.Js != a1.Js)then some ((Bf.mk 0 0 0),false)else((Aaa K a1.Xh 0 (Aqd .i64 (a0.Er.length:Int) 1)).bind fun r1=>(bif (!r1)then some ((Bf.mk 0 0 0),false)else(if(0:Int)≤a1.Xh∧a1.Xh<(a0.Er.length:Int)then some ((gt a0.Er a1.Xh),true)else none)))))
def Btq:Sig:=⟨[.v 44,.v 36],[.v 89,.v 4],true⟩
def Btr (K:Nat):Gu tyU:=⟨Btq,Awr K⟩
def B2x (K:Nat):=xF Btq [(84,c_7 K)] [] 33 [8,9,14,15,16] [] [] [] [.cell 4 89,.tmp 5]
theorem Bxd (K:Nat):OkF 180 (Btr K):=
 Abg (x:=B2x K) (L:=[]) (c0:=bd Tryz.f180) (xkF (gC (Azn K) gN) oN) (by intro a0 a1;show @Eq _ _ _;kernel_rfl) kN Tryz.func180 trivial
def As8 (K:Nat)(a0:Es)(a1:E2):Option (Int×Bf×Int):=((Ax9 K a1).bind fun r1=>(bif (!r1)then some ((-1),(Bf.mk 0 0 0),1)else((Alx K a0 a1.fH).bind fun r2=>(bif (r2.2 != 0)then some ((-1),(Bf.mk 0 0 0),r2.2)else(if(0:Int)≤r2.1∧r2.1<(a0.fL.length:Int)then((Awr K (gt a0.fL r2.1) a1).bind fun r3=>(bif (!r3.2)then some ((-1),(Bf.mk 0 0 0),2)else some (r2.1,r3.1,0)))else none)))))
def Bts:Sig:=⟨[.v 32,.v 36],[.v 3,.v 89,.v 3],true⟩
def Blh (K:Nat):Gu tyU:=⟨Bts,As8 K⟩
def B2y (K:Nat):=xF Bts [(85,Bec K),(179,Btp K),(180,Btr K)] [] 41 [] [] [] [] [.tmp 4,.cell 5 89,.tmp 6]
theorem Bli (K:Nat):OkF 106 (Blh K):=
 Abg (x:=B2y K) (L:=[]) (c0:=bd Tryz.f106) (xkF (gC (A84 K) (gC (Bxc K) (gC (Bxd K) gN))) oN) (by intro a0 a1;show @Eq _ _ _;kernel_rfl) kN Tryz.func106 trivial
def Aws (K:Nat)(a0:Bf)(a1:Int)(a2:Int):Option (Bool):=(bif (decide (a1≥0))then(bif (decide (a2≥0))then(bif (decide (a1≤a0.Xf))then(bif (decide (a2≤(Aqd .i64 a0.Xf a1)))then(bif (decide (a0.fAt<0))then some true else some (decide ((Aqc .i64 a0.fAt a1)≥0)))else some false)else some false)else some false)else some false)
def Btt:Sig:=⟨[.v 89,.v 3,.v 3],[.v 4],true⟩
def Blj (K:Nat):Gu tyU:=⟨Btt,Aws K⟩
def B2z (K:Nat):=xF Btt [] [] 39 [8,9,11,12,13,17,18,19,25,26,27,30,31] [] [] [] [.tmp 6]
theorem Bll (K:Nat):OkF 181 (Blj K):=
 Abg (x:=B2z K) (L:=[]) (c0:=bd Tryz.f181) (xkF gN oN) (by intro a0 a1 a2;show @Eq _ _ _;kernel_rfl) kN Tryz.func181 trivial
def Aub (K:Nat)(a0:List Int)(a1:Int)(a2:Int):Option (Bool):=(bif (decide (a1≥0))then(bif (decide (a2≥0))then(bif (decide (a1≤(a0.length:Int)))then some (decide (a2≤(Aqd .i64 (a0.length:Int) a1)))else some false)else some false)else some false)
def Btu:Sig:=⟨[.v 22,.v 3,.v 3],[.v 4],true⟩
def Blm (K:Nat):Gu tyU:=⟨Btu,Aub K⟩
def B20 (K:Nat):=xF Btu [] [] 27 [8,9,11,12,13,17,18,19] [] [] [] [.tmp 6]
theorem Bln (K:Nat):OkF 245 (Blm K):=
 Abg (x:=B20 K) (L:=[]) (c0:=bd Tryz.f245) (xkF gN oN) (by intro a0 a1 a2;show @Eq _ _ _;kernel_rfl) kN Tryz.func245 trivial
def Aya (K:Nat)(a0:List Int)(a1:Int)(a2:Int):Option ((List Int)×Bool):=((Aub K a0 a1 a2).bind fun r1=>(bif (!r1)then some (([]:List Int),false)else(if(0:Int)≤a1∧a1≤(Aqc .i64 a1 a2)∧(Aqc .i64 a1 a2)≤(a0.length:Int)then(if(([]:List Int)++((a0.drop a1.toNat).take ((Aqc .i64 a1 a2) - a1).toNat)).length*1≤140737488355328∧(([]:List Int)++((a0.drop a1.toNat).take ((Aqc .i64 a1 a2) - a1).toNat)).length≤maxLen then some ((([]:List Int)++((a0.drop a1.toNat).take ((Aqc .i64 a1 a2) - a1).toNat)),true)else none)else none)))
def Btv:Sig:=⟨[.v 22,.v 3,.v 3],[.n 22 true,.v 4],true⟩
def Btw (K:Nat):Gu tyU:=⟨Btv,Aya K⟩
def B21 (K:Nat):=xF Btv [(245,Blm K)] [] 22 [] [] [] [] [.tmp 6,.tmp 7]
theorem Bxe (K:Nat):OkF 182 (Btw K):=
 Abg (x:=B21 K) (L:=[]) (c0:=bd Tryz.f182) (xkF (gC (Bln K) gN) oN) (by intro a0 a1 a2;show @Eq _ _ _;kernel_rfl) kN Tryz.func182 trivial
def Aus (K:Nat)(a0:List Int)(a1:Bf)(a2:Int)(a3:Int):Option ((List Int)×Bool):=((Aws K a1 a2 a3).bind fun r1=>(bif (!r1)then some (([]:List Int),false)else((Aya K a0 (Aqc .i64 a1.fAt a2) a3).bind fun r2=>some (r2.1,r2.2))))
def Btx:Sig:=⟨[.v 22,.v 89,.v 3,.v 3],[.n 22 true,.v 4],true⟩
def Bty (K:Nat):Gu tyU:=⟨Btx,Aus K⟩
def B22 (K:Nat):=xF Btx [(181,Blj K),(182,Btw K)] [] 25 [] [] [] [] [.tmp 8,.tmp 9]
theorem Bxf (K:Nat):OkF 107 (Bty K):=
 Abg (x:=B22 K) (L:=[]) (c0:=bd Tryz.f107) (xkF (gC (Bll K) (gC (Bxe K) gN)) oN) (by intro a0 a1 a2 a3;show @Eq _ _ _;kernel_rfl) kN Tryz.func107 trivial
def Azh (K:Nat)(a0:Es)(a1:E2)(a2:Int)(a3:Int):Option (Es×F4):=((Ap2 K a0).bind fun r1=>((Ary K a0).bind fun r2=>(bif (!r2)then some (r1,(F4.mk 1 (Ca.mk 0 0) (E2.mk (Ca.mk 0 0) 0 0) [] 0 0 0))else((As8 K a0 a1).bind fun r3=>((An4 K a0 a1.fH).bind fun r4=>(bif (r3.2.2 != 0)then some (r1,(F4.mk r3.2.2 (Ca.mk 0 0) (E2.mk (Ca.mk 0 0) 0 0) [] r4 0 0))else((Aus K a0.fP.Gl r3.2.1 a2 a3).bind fun r5=>(bif (!r5.2)then some (r1,(F4.mk 7 (Ca.mk 0 0) (E2.mk (Ca.mk 0 0) 0 0) [] r4 0 0))else some (r1,(F4.mk r3.2.2 (Ca.mk 0 0) (E2.mk (Ca.mk 0 0) 0 0) r5.1 r4 0 0))))))))))
def Btz:Sig:=⟨[.v 32,.v 36,.v 3,.v 3],[.n 32 true,.n 69 true],true⟩
def Bt0 (K:Nat):Gu tyU:=⟨Btz,Azh K⟩
def B23 (K:Nat):=xF Btz [(82,Bhg K),(83,Bcu K),(86,Bco K),(106,Blh K),(107,Bty K)] [] 60 [] [(7,[.take 114 7 6831]),(11,[.take 114 7 6831])] [] [] [.cell 8 32,.cell 9 69]
theorem Bxg (K:Nat):OkF 43 (Bt0 K):=
 Abg (x:=B23 K) (L:=[]) (c0:=bd Tryz.f43) (xkF (gC (Bcq K) (gC (Bbe K) (gC (A56 K) (gC (Bli K) (gC (Bxf K) gN))))) oN) (by intro a0 a1 a2 a3;show @Eq _ _ _;kernel_rfl) kN Tryz.func43 trivial
def Ap3 (K:Nat)(a1:Int)(a2:List Int):Nat->(List Int)->Int->Option ((List Int)×Bool)
 |0,_,_=>none
 |n1+1,v2,v3=>(bif (decide (v3<(a2.length:Int)))then(if(0:Int)≤v3∧v3<(a2.length:Int)then(if(0:Int)≤(Aqc .i64 a1 v3)∧(Aqc .i64 a1 v3)<(v2.length:Int)then(Ap3 K a1 a2 n1 (v2.set (Aqc .i64 a1 v3).toNat (gt a2 v3)) (Aqc .i64 v3 1))else none)else none)else some (v2,true))
def Ayb (K:Nat)(a0:List Int)(a1:Int)(a2:List Int):Option ((List Int)×Bool):=(if(([]:List Int)++a0).length*1≤140737488355328∧(([]:List Int)++a0).length≤maxLen then((Aub K a0 a1 (a2.length:Int)).bind fun r1=>(bif (!r1)then some ((([]:List Int)++a0),false)else(Ap3 K a1 a2 K (([]:List Int)++a0) 0)))else none)
def s_112:Sig:=⟨[.v 22,.v 3,.v 22],[.n 22 true,.v 4],true⟩
def Bt1 (K:Nat):Gu tyU:=⟨s_112,Ayb K⟩
def Blo (K:Nat):=xF s_112 [(245,Blm K)] [] 36 [] [] [] [] [.tmp 6,.tmp 7]
def A4c:Fs:=⟨[(1,.v 2),(2,.v 22),(8,.o 1008 5 true),(9,.v 2)],[]⟩
def A4d (K:Nat)(n:Nat)(q:PT A4c):Rt s_112:=Ap3 K q.1 q.2.1 n q.2.2.1 q.2.2.2.1
theorem Bh0 (K:Nat):AtL (Blo K) (fun n=>[]) [] (bd Tryz.f187) 122 (A4d K):=fun n q=>by kernel_rfl
theorem Blp (K:Nat):XF [.tmp 6,.tmp 7] s_112 36 [] (Blo K):=xkF (gC (Bln K) gN) oN
theorem Bh1 (K:Nat)(n:Nat):CF [.tmp 6,.tmp 7] s_112 36 [] (bd Tryz.f187) [] 122 (ar A4c (A4d K n)):=
 Agc (Blp K) (Bh0 K) (fun n=>kN) n
theorem Bxh (K:Nat):OkF 187 (Bt1 K):=
 Abg (x:=Blo K) (L:=[(122,ar A4c (A4d K K))]) (c0:=bd Tryz.f187) (Blp K) (by intro a0 a1 a2;show @Eq _ _ _;kernel_rfl) (kC (Bh1 K K) kN) Tryz.func187 trivial
def Atv (K:Nat)(a0:List Int)(a1:Bf)(a2:Int)(a3:List Int):Option ((List Int)×Bool):=((Aws K a1 a2 (a3.length:Int)).bind fun r1=>(bif (!r1)then(if(([]:List Int)++a0).length*1≤140737488355328∧(([]:List Int)++a0).length≤maxLen then some ((([]:List Int)++a0),false)else none)else((Ayb K a0 (Aqc .i64 a1.fAt a2) a3).bind fun r2=>some (r2.1,r2.2))))
def Bt2:Sig:=⟨[.v 22,.v 89,.v 3,.v 22],[.n 22 true,.v 4],true⟩
def Bt3 (K:Nat):Gu tyU:=⟨Bt2,Atv K⟩
def B24 (K:Nat):=xF Bt2 [(181,Blj K),(187,Bt1 K)] [] 28 [] [] [] [] [.tmp 8,.tmp 9]
theorem Bxi (K:Nat):OkF 110 (Bt3 K):=
 Abg (x:=B24 K) (L:=[]) (c0:=bd Tryz.f110) (xkF (gC (Bll K) (gC (Bxh K) gN)) oN) (by intro a0 a1 a2 a3;show @Eq _ _ _;kernel_rfl) kN Tryz.func110 trivial
def Ayc (K:Nat)(a0:Es)(a1:E2)(a2:Int)(a3:List Int):Option (Es×F4):=((Ap2 K a0).bind fun r1=>((Ary K a0).bind fun r2=>(bif (!r2)then some (r1,(F4.mk 1 (Ca.mk 0 0) (E2.mk (Ca.mk 0 0) 0 0) [] 0 0 0))else((As8 K a0 a1).bind fun r3=>((An4 K a0 a1.fH).bind fun r4=>(bif (r3.2.2 != 0)then some (r1,(F4.mk r3.2.2 (Ca.mk 0 0) (E2.mk (Ca.mk 0 0) 0 0) [] r4 0 0))else((Atv K a0.fP.Gl r3.2.1 a2 a3).bind fun r5=>(bif (!r5.2)then some (r1,(F4.mk 7 (Ca.mk 0 0) (E2.mk (Ca.mk 0 0) 0 0) [] r4 0 0))else some ((Es.mk r1.fC (Eb.mk r5.1 r1.fP.Ja r1.fP.Gm) r1.fL r1.fQ r1.Rl),(F4.mk r3.2.2 (Ca.mk 0 0) (E2.mk (Ca.mk 0 0) 0 0) [] r4 0 0))))))))))
def Bt4:Sig:=⟨[.v 32,.v 36,.v 3,.v 22],[.n 32 true,.n 69 true],true⟩
def Bt5 (K:Nat):Gu tyU:=⟨Bt4,Ayc K⟩
def B25 (K:Nat):=xF Bt4 [(82,Bhg K),(83,Bcu K),(86,Bco K),(106,Blh K),(110,Bt3 K)] [] 61 [] [(7,[.take 114 7 6831]),(11,[.take 114 7 6831]),(13,[.take 114 7 6831])] [] [] [.cell 8 32,.cell 9 69]
theorem Bxj (K:Nat):OkF 45 (Bt5 K):=
 Abg (x:=B25 K) (L:=[]) (c0:=bd Tryz.f45) (xkF (gC (Bcq K) (gC (Bbe K) (gC (A56 K) (gC (Bli K) (gC (Bxi K) gN))))) oN) (by intro a0 a1 a2 a3;show @Eq _ _ _;kernel_rfl) kN Tryz.func45 trivial
def Ayd (K:Nat)(v7:F4)(v10:Es):Option (Es×F4):=some (v10,v7)
def Awt (K:Nat)(a2:Int)(r1:Es)(v6:Int)(v7:F4)(v8:F4)(v9:Es):Option (Es×F4):=(bif (v7.Yw==0)then(if(0:Int)≤v6∧v6<(r1.fL.length:Int)then(if(0:Int)≤v6∧v6<(r1.fL.length:Int)then(if(((gt r1.fL v6).Dt)++([a2]:List Int)).length*8≤140737488355328∧(((gt r1.fL v6).Dt)++([a2]:List Int)).length≤maxLen then(if(0:Int)≤v6∧v6<(r1.fL.length:Int)then(Ayd K v7 (Es.mk r1.fC r1.fP (r1.fL.set v6.toNat (Bg.mk ((gt r1.fL v6).Ja) ((gt r1.fL v6).Bz) ((gt r1.fL v6).Js) ((gt r1.fL v6).fUp) ((gt r1.fL v6).Hf) ((gt r1.fL v6).B5) ((gt r1.fL v6).Hg) ((gt r1.fL v6).Hh) ((gt r1.fL v6).Af) ((gt r1.fL v6).Rk) ((gt r1.fL v6).Hi) ((gt r1.fL v6).Er) (((gt r1.fL v6).Dt)++([a2]:List Int)))) r1.fQ r1.Rl))else none)else none)else none)else none)else(Ayd K v7 r1))
def A0e (K:Nat)(a0:Es)(a1:Ca)(a2:Int):Option (Es×F4):=((Ap2 K a0).bind fun r1=>((Ary K a0).bind fun r2=>(bif r2 then((Aaa K a2 0 255).bind fun r3=>(bif (!r3)then some (r1,(F4.mk 1 (Ca.mk 0 0) (E2.mk (Ca.mk 0 0) 0 0) [] 0 0 0))else((Alx K a0 a1).bind fun r4=>((An4 K a0 a1).bind fun r5=>(bif (r4.2==0)then(if(0:Int)≤r4.1∧r4.1<(a0.fL.length:Int)then(bif (decide ((((gt a0.fL r4.1).Dt).length:Int)≥6))then(Awt K a2 r1 r4.1 (F4.mk 8 (Ca.mk 0 0) (E2.mk (Ca.mk 0 0) 0 0) [] r5 0 0) (F4.mk 0 (Ca.mk 0 0) (E2.mk (Ca.mk 0 0) 0 0) [] 0 0 0) (Es.mk (Fa.mk 0 0 0 0 0 0) (Eb.mk [] [] []) [] [] []))else(Awt K a2 r1 r4.1 (F4.mk r4.2 (Ca.mk 0 0) (E2.mk (Ca.mk 0 0) 0 0) [] r5 0 0) (F4.mk 0 (Ca.mk 0 0) (E2.mk (Ca.mk 0 0) 0 0) [] 0 0 0) (Es.mk (Fa.mk 0 0 0 0 0 0) (Eb.mk [] [] []) [] [] [])))else none)else(Awt K a2 r1 r4.1 (F4.mk r4.2 (Ca.mk 0 0) (E2.mk (Ca.mk 0 0) 0 0) [] r5 0 0) (F4.mk 0 (Ca.mk 0 0) (E2.mk (Ca.mk 0 0) 0 0) [] 0 0 0) (Es.mk (Fa.mk 0 0 0 0 0 0) (Eb.mk [] [] []) [] [] [])))))))else some (r1,(F4.mk 1 (Ca.mk 0 0) (E2.mk (Ca.mk 0 0) 0 0) [] 0 0 0)))))
def s_115:Sig:=⟨[.v 32,.v 34,.v 3],[.n 32 true,.n 69 true],true⟩
def Bt6 (K:Nat):Gu tyU:=⟨s_115,A0e K⟩
def Bgb (K:Nat):=xF s_115 [(82,Bhg K),(83,Bcu K),(84,c_7 K),(85,Bec K),(86,Bco K)] [] 67 [15,16,17,36,37] [(9,[.take 108 9 6737,.opn 6737 (.tmp 9),.takeE 6737 12 87180]),(10,[.take 108 6 6734,.take 108 7 6735,.take 108 8 6736,.take 108 9 6737,.take 108 10 6738,.take 108 11 6739,.take 111 7 6783])] [] [63,127] [.cell 6 32,.cell 7 69]
def A4e:Fs:=⟨[(6,.p 106),(7,.p 107),(8,.p 108),(11,.p 111)],[(111,.st 69 true),(108,.st 32 true),(107,.st 69 true),(106,.st 32 true)]⟩
def A7b:Fs:=⟨[(2,.v 2),(6,.p 106),(7,.p 107),(8,.p 108),(9,.v 2),(11,.p 111)],[(111,.st 69 true),(108,.st 32 true),(107,.st 69 true),(106,.st 32 true)]⟩
def A4f (K:Nat)(q:PT A4e):Rt s_115:=Ayd K q.1 q.2.1
def A7c (K:Nat)(q:PT A7b):Rt s_115:=Awt K q.1 q.2.2.2.1 q.2.1 q.2.2.1 q.2.2.2.2.1 q.2.2.2.2.2.1
theorem Bh2 (K:Nat):AtJ (Bgb K) [] [] (bd Tryz.f31) 127 (A4f K):=fun q=>by kernel_rfl
theorem Blq (K:Nat):AtJ (Bgb K) [(127,ar A4e (A4f K))] [] (bd Tryz.f31) 63 (A7c K):=fun q=>by kernel_rfl
theorem Bew (K:Nat):XF [.cell 6 32,.cell 7 69] s_115 67 [63,127] (Bgb K):=xkF (gC (Bcq K) (gC (Bbe K) (gC (Azn K) (gC (A84 K) (gC (A56 K) gN))))) oN
theorem Bh3 (K:Nat):CF [.cell 6 32,.cell 7 69] s_115 67 [63,127] (bd Tryz.f31) [] 127 (ar A4e (A4f K)):=
 Aiz (Bew K) (Bh2 K) kN
theorem Blr (K:Nat):CF [.cell 6 32,.cell 7 69] s_115 67 [63,127] (bd Tryz.f31) [] 63 (ar A7b (A7c K)):=
 Aiz (Bew K) (Blq K) (kC (Bh3 K) kN)
theorem Bxk (K:Nat):OkF 31 (Bt6 K):=
 Abg (x:=Bgb K) (L:=[(63,ar A7b (A7c K))]) (c0:=bd Tryz.f31) (Bew K) (by intro a0 a1 a2;show @Eq _ _ _;kernel_rfl) (kC (Blr K) kN) Tryz.func31 trivial
def Ayp (K:Nat)(a0:Fa)(a1:Bg):Option (Int):=(bif (a1.Rk==0)then some 0 else((Apv K a0 a1).bind fun r1=>(bif (!r1)then some 0 else some (Aqd .i64 a0.Ez a1.Hi))))
def Bt7:Sig:=⟨[.v 25,.v 44],[.v 3],true⟩
def Bt8 (K:Nat):Gu tyU:=⟨Bt7,Ayp K⟩
def B26 (K:Nat):=xF Bt7 [(142,Bei K)] [] 19 [7,8] [] [] [] [.tmp 4]
theorem Bxl (K:Nat):OkF 99 (Bt8 K):=
 Abg (x:=B26 K) (L:=[]) (c0:=bd Tryz.f99) (xkF (gC (A86 K) gN) oN) (by intro a0 a1;show @Eq _ _ _;kernel_rfl) kN Tryz.func99 trivial
def Awu (K:Nat)(r1:Es)(v6:F4)(v7:F4)(v8:Es):Option (Es×F4):=some (r1,v6)
def Aye (K:Nat)(a0:Es)(a1:Ca):Option (Es×F4):=((Ap2 K a0).bind fun r1=>((Ary K a0).bind fun r2=>(bif (!r2)then some (r1,(F4.mk 1 (Ca.mk 0 0) (E2.mk (Ca.mk 0 0) 0 0) [] 0 0 0))else((Alx K a0 a1).bind fun r3=>((An4 K a0 a1).bind fun r4=>(bif (r3.2==0)then(if(0:Int)≤r3.1∧r3.1<(a0.fL.length:Int)then((Ayp K a0.fC (gt a0.fL r3.1)).bind fun r5=>(Awu K r1 (F4.mk r3.2 (Ca.mk 0 0) (E2.mk (Ca.mk 0 0) 0 0) ([(IntKind.u8.wrap (((gt a0.fL r3.1).Af).length:Int)),(IntKind.u8.wrap (((gt a0.fL r3.1).Er).length:Int)),(IntKind.u8.wrap (((gt a0.fL r3.1).Dt).length:Int)),(IntKind.u8.wrap r5)]:List Int) r4 0 0) (F4.mk 0 (Ca.mk 0 0) (E2.mk (Ca.mk 0 0) 0 0) [] 0 0 0) (Es.mk (Fa.mk 0 0 0 0 0 0) (Eb.mk [] [] []) [] [] [])))else none)else(Awu K r1 (F4.mk r3.2 (Ca.mk 0 0) (E2.mk (Ca.mk 0 0) 0 0) [] r4 0 0) (F4.mk 0 (Ca.mk 0 0) (E2.mk (Ca.mk 0 0) 0 0) [] 0 0 0) (Es.mk (Fa.mk 0 0 0 0 0 0) (Eb.mk [] [] []) [] [] []))))))))
def s_117:Sig:=⟨[.v 32,.v 34],[.n 32 true,.n 69 true],true⟩
def Bt9 (K:Nat):Gu tyU:=⟨s_117,Aye K⟩
def Bls (K:Nat):=xF s_117 [(82,Bhg K),(83,Bcu K),(85,Bec K),(86,Bco K),(99,Bt8 K)] [] 57 [] [(9,[.take 106 6 6702,.take 106 7 6703,.take 106 8 6704,.take 106 9 6705,.take 106 10 6706,.take 106 11 6707,.take 109 7 6751])] [] [63] [.cell 4 32,.cell 5 69]
def A7d:Fs:=⟨[(4,.p 104),(5,.p 105),(6,.p 106),(9,.p 109)],[(109,.st 69 true),(106,.st 32 true),(105,.st 69 true),(104,.st 32 true)]⟩
def A7e (K:Nat)(q:PT A7d):Rt s_117:=Awu K q.2.1 q.1 q.2.2.1 q.2.2.2.1
theorem Blt (K:Nat):AtJ (Bls K) [] [] (bd Tryz.f37) 63 (A7e K):=fun q=>by kernel_rfl
theorem Blu (K:Nat):XF [.cell 4 32,.cell 5 69] s_117 57 [63] (Bls K):=xkF (gC (Bcq K) (gC (Bbe K) (gC (A84 K) (gC (A56 K) (gC (Bxl K) gN))))) oN
theorem Blv (K:Nat):CF [.cell 4 32,.cell 5 69] s_117 57 [63] (bd Tryz.f37) [] 63 (ar A7d (A7e K)):=
 Aiz (Blu K) (Blt K) kN
theorem Bxm (K:Nat):OkF 37 (Bt9 K):=
 Abg (x:=Bls K) (L:=[(63,ar A7d (A7e K))]) (c0:=bd Tryz.f37) (Blu K) (by intro a0 a1;show @Eq _ _ _;kernel_rfl) (kC (Blv K) kN) Tryz.func37 trivial
def Axi (K:Nat)(a0:Es)(a1:Dg):Option (Es×F4):=(bif (a1.Yv==3)then((Azh K a0 a1.fR a1.fN a1.fM).bind fun r1=>some (r1.1,r1.2))else(bif (a1.Yv==4)then((Ayc K a0 a1.fR a1.fN a1.fB).bind fun r2=>some (r2.1,r2.2))else(bif (a1.Yv==5)then((A0e K a0 a1.fH a1.fN).bind fun r3=>some (r3.1,r3.2))else(bif (a1.Yv==8)then((Aye K a0 a1.fH).bind fun r4=>some (r4.1,r4.2))else((Ap2 K a0).bind fun r5=>some (r5,(F4.mk 1 (Ca.mk 0 0) (E2.mk (Ca.mk 0 0) 0 0) [] 0 0 0)))))))
def Bua:Sig:=⟨[.v 32,.v 38],[.n 32 true,.n 69 true],true⟩
def Bub (K:Nat):Gu tyU:=⟨Bua,Axi K⟩
def B27 (K:Nat):=xF Bua [(31,Bt6 K),(37,Bt9 K),(43,Bt0 K),(45,Bt5 K),(82,Bhg K)] [] 53 [] [] [] [] [.cell 4 32,.cell 5 69]
theorem Bxn (K:Nat):OkF 257 (Bub K):=
 Abg (x:=B27 K) (L:=[]) (c0:=bd Tryz.f257) (xkF (gC (Bxk K) (gC (Bxm K) (gC (Bxg K) (gC (Bxj K) (gC (Bcq K) gN))))) oN) (by intro a0 a1;show @Eq _ _ _;kernel_rfl) kN Tryz.func257 trivial
def Ayq (K:Nat)(v31:Int)(v32:Int)(v33:Int)(v34:Int)(v35:Int)(v36:Int)(v37:List Int)(v38:List Int)(v39:List Int)(v40:List Bg)(v41:List A3)(v42:List Int)(v43:F4):Option (F4×Es):=some (v43,(Es.mk (Fa.mk v31 v32 v33 v34 v35 v36) (Eb.mk v37 v38 v39) v40 v41 v42))
def Auc (K:Nat)(v4:Bool)(v5:Int)(v6:Int)(v7:Int)(v8:Int)(v9:Int)(v10:Int)(v11:List Int)(v12:List Int)(v13:List Int)(v14:List Bg)(v15:List A3)(v16:List Int)(v17:F4)(v18:Int)(v19:Int)(v20:Int)(v21:Int)(v22:Int)(v23:Int)(v24:Int)(v25:Int)(v26:Int)(v27:List Int):Option (F4×Es):=(bif v4 then((Alx K (Es.mk (Fa.mk v5 v6 v7 v8 v9 v10) (Eb.mk v11 v12 v13) v14 v15 v16) (Ca.mk v19 v20)).bind fun r28=>((An4 K (Es.mk (Fa.mk v5 v6 v7 v8 v9 v10) (Eb.mk v11 v12 v13) v14 v15 v16) (Ca.mk v19 v20)).bind fun r29=>(bif (r28.2 != 0)then some ((F4.mk r28.2 (Ca.mk 0 0) (E2.mk (Ca.mk 0 0) 0 0) [] r29 0 0),(Es.mk (Fa.mk v5 v6 v7 v8 v9 v10) (Eb.mk v11 v12 v13) v14 v15 v16))else(bif (v18==6)then((Att K (Es.mk (Fa.mk v5 v6 v7 v8 v9 v10) (Eb.mk v11 v12 v13) v14 v15 v16) r28.1).bind fun r30=>(Ayq K r30.fC.Af r30.fC.Ez r30.fC.Db r30.fC.Fv r30.fC.Dc r30.fC.E0 r30.fP.Gl r30.fP.Ja r30.fP.Gm r30.fL r30.fQ r30.Rl (F4.mk r28.2 (Ca.mk 0 0) (E2.mk (Ca.mk 0 0) 0 0) [] r29 0 0)))else((Avn K (Es.mk (Fa.mk v5 v6 v7 v8 v9 v10) (Eb.mk v11 v12 v13) v14 v15 v16) r28.1).bind fun r44=>(Ayq K r44.fC.Af r44.fC.Ez r44.fC.Db r44.fC.Fv r44.fC.Dc r44.fC.E0 r44.fP.Gl r44.fP.Ja r44.fP.Gm r44.fL r44.fQ r44.Rl (F4.mk r28.2 (Ca.mk 0 0) (E2.mk (Ca.mk 0 0) 0 0) [] r29 0 0)))))))else((Axi K (Es.mk (Fa.mk v5 v6 v7 v8 v9 v10) (Eb.mk v11 v12 v13) v14 v15 v16) (Dg.mk v18 (Ca.mk v19 v20) (E2.mk (Ca.mk v21 v22) v23 v24) v25 v26 v27)).bind fun r45=>some (r45.2,r45.1)))
def Ayf (K:Nat)(a0:Es)(a1:Dg):Option (F4×Es):=(bif (a1.Yv==1)then((Awl K a0 a1.fH).bind fun r1=>some (r1.1,r1.2))else(bif (a1.Yv==2)then((Avm K a0 a1.fH a1.fN a1.fM).bind fun r2=>some (r2.1,r2.2))else(bif (a1.Yv==9)then((As4 K a0 4000).bind fun r3=>some ((F4.mk 0 (Ca.mk 0 0) (E2.mk (Ca.mk 0 0) 0 0) [] 0 0 r3.1),r3.2))else(bif (a1.Yv==6)then(Auc K (a1.Yv==6) a0.fC.Af a0.fC.Ez a0.fC.Db a0.fC.Fv a0.fC.Dc a0.fC.E0 a0.fP.Gl a0.fP.Ja a0.fP.Gm a0.fL a0.fQ a0.Rl (F4.mk 0 (Ca.mk 0 0) (E2.mk (Ca.mk 0 0) 0 0) [] 0 0 0) a1.Yv a1.fH.As a1.fH.Bz a1.fR.fH.As a1.fR.fH.Bz a1.fR.Js a1.fR.Xh a1.fN a1.fM a1.fB)else(Auc K (a1.Yv==7) a0.fC.Af a0.fC.Ez a0.fC.Db a0.fC.Fv a0.fC.Dc a0.fC.E0 a0.fP.Gl a0.fP.Ja a0.fP.Gm a0.fL a0.fQ a0.Rl (F4.mk 0 (Ca.mk 0 0) (E2.mk (Ca.mk 0 0) 0 0) [] 0 0 0) a1.Yv a1.fH.As a1.fH.Bz a1.fR.fH.As a1.fR.fH.Bz a1.fR.Js a1.fR.Xh a1.fN a1.fM a1.fB)))))
def s_119:Sig:=⟨[.b 32 false,.v 38],[.v 69],false⟩
def Buc (K:Nat):Gu tyU:=⟨s_119,Ayf K⟩
def Bgc (K:Nat):=xF s_119 [(85,Bec K),(86,Bco K),(101,B11 K),(104,B16 K),(112,Bqe K),(255,B1b K),(256,B1v K),(257,Bub K)] [] 78 [] [(10,[.take 1 6 5022,.take 1 7 5023,.take 1 8 5024,.take 1 9 5025,.take 1 10 5026,.take 1 11 5027]),(13,[.take 107 7 6719]),(15,[.put 1]),(16,[.put 1]),(17,[.take 107 7 6719]),(18,[.take 1 6 5022,.take 1 7 5023,.take 1 8 5024,.take 1 9 5025,.take 1 10 5026,.take 1 11 5027])] [] [1727,55287] [.cell 4 69]
def A0y:Fs:=⟨[(4,.p 104),(7,.p 107)],[(1,.box [.v 2,.v 2,.v 2,.v 2,.v 2,.v 2,.T 5 true,.T 3 true,.T 3 true,.T 44 false,.T 159 false,.T 3 true]),(107,.st 69 true),(104,.st 69 true)]⟩
def A19:Fs:=⟨[(0,.p 1),(3,.p 103),(4,.p 104),(33,.v 4)],[(1,.box [.v 2,.v 2,.v 2,.v 2,.v 2,.v 2,.T 5 true,.T 3 true,.T 3 true,.T 44 false,.T 159 false,.T 3 true]),(104,.st 69 true),(103,.box [.v 2,.v 2,.v 2,.v 2,.v 2,.v 2,.v 2,.v 2,.v 2,.v 22])]⟩
def A0z (K:Nat)(q:PT A0y):Rt s_119:=Ayq K q.1 q.2.1 q.2.2.1 q.2.2.2.1 q.2.2.2.2.1 q.2.2.2.2.2.1 q.2.2.2.2.2.2.1 q.2.2.2.2.2.2.2.1 q.2.2.2.2.2.2.2.2.1 q.2.2.2.2.2.2.2.2.2.1 q.2.2.2.2.2.2.2.2.2.2.1 q.2.2.2.2.2.2.2.2.2.2.2.1 q.2.2.2.2.2.2.2.2.2.2.2.2.1
def A2a (K:Nat)(q:PT A19):Rt s_119:=Auc K q.1 q.2.1 q.2.2.1 q.2.2.2.1 q.2.2.2.2.1 q.2.2.2.2.2.1 q.2.2.2.2.2.2.1 q.2.2.2.2.2.2.2.1 q.2.2.2.2.2.2.2.2.1 q.2.2.2.2.2.2.2.2.2.1 q.2.2.2.2.2.2.2.2.2.2.1 q.2.2.2.2.2.2.2.2.2.2.2.1 q.2.2.2.2.2.2.2.2.2.2.2.2.1 q.2.2.2.2.2.2.2.2.2.2.2.2.2.1 q.2.2.2.2.2.2.2.2.2.2.2.2.2.2.1 q.2.2.2.2.2.2.2.2.2.2.2.2.2.2.2.1 q.2.2.2.2.2.2.2.2.2.2.2.2.2.2.2.2.1 q.2.2.2.2.2.2.2.2.2.2.2.2.2.2.2.2.2.1 q.2.2.2.2.2.2.2.2.2.2.2.2.2.2.2.2.2.2.1 q.2.2.2.2.2.2.2.2.2.2.2.2.2.2.2.2.2.2.2.1 q.2.2.2.2.2.2.2.2.2.2.2.2.2.2.2.2.2.2.2.2.1 q.2.2.2.2.2.2.2.2.2.2.2.2.2.2.2.2.2.2.2.2.2.1 q.2.2.2.2.2.2.2.2.2.2.2.2.2.2.2.2.2.2.2.2.2.2.1 q.2.2.2.2.2.2.2.2.2.2.2.2.2.2.2.2.2.2.2.2.2.2.2.1
theorem Bcw (K:Nat):AtJ (Bgc K) [] [] (bd Tryz.f195) 55287 (A0z K):=fun q=>by kernel_rfl
theorem Bex (K:Nat):AtJ (Bgc K) [(55287,ar A0y (A0z K))] [] (bd Tryz.f195) 1727 (A2a K):=fun q=>by kernel_rfl
theorem Bey (K:Nat):XF [.cell 4 69] s_119 78 [1727,55287] (Bgc K):=xkF (gC (A84 K) (gC (A56 K) (gC (B12 K) (gC (B17 K) (gC (Bki K) (gC (B1c K) (gC (B1w K) (gC (Bxn K) gN)))))))) oN
theorem Bcx (K:Nat):CF [.cell 4 69] s_119 78 [1727,55287] (bd Tryz.f195) [] 55287 (ar A0y (A0z K)):=
 Aiz (Bey K) (Bcw K) kN
theorem Bez (K:Nat):CF [.cell 4 69] s_119 78 [1727,55287] (bd Tryz.f195) [] 1727 (ar A19 (A2a K)):=
 Aiz (Bey K) (Bex K) (kC (Bcx K) kN)
theorem Bxo (K:Nat):OkF 195 (Buc K):=
 Abg (x:=Bgc K) (L:=[(1727,ar A19 (A2a K))]) (c0:=bd Tryz.f195) (Bey K) (by intro a0 a1;show @Eq _ _ _;kernel_rfl) (kC (Bez K) kN) Tryz.func195 trivial
def Atn (K:Nat):Nat->(List Dg)->Int->(List Int)->Int->Int->Es->Fa->Es->Fa->Option (Fa×(List Dg)×Es×Eu)
 |0,_,_,_,_,_,_,_,_,_=>none
 |n1+1,v4,v5,v6,v7,v8,v9,v10,v11,v12=>(bif (decide (v5>0))then(bif (decide ((v4.length:Int)<200))then((At1 K (Eu.mk v6 v7 v8) v9).bind fun r13=>(if r13.2.2.1.length=v9.fP.Gl.length∧r13.2.2.2.1.length=v9.fP.Ja.length∧r13.2.2.2.2.1.length=v9.fP.Gm.length∧r13.2.2.2.2.2.1.length=v9.fL.length∧r13.2.2.2.2.2.2.1.length=v9.fQ.length∧r13.2.2.2.2.2.2.2.length=v9.Rl.length then(if(v4++([r13.1]:List Dg)).length*96≤140737488355328∧(v4++([r13.1]:List Dg)).length≤maxLen then((Ayf K (Es.mk v9.fC (Eb.mk r13.2.2.1 r13.2.2.2.1 r13.2.2.2.2.1) r13.2.2.2.2.2.1 r13.2.2.2.2.2.2.1 r13.2.2.2.2.2.2.2) r13.1).bind fun r14=>(Atn K n1 (v4++([r13.1]:List Dg)) (Aqd .i64 v5 1) r13.2.1.fb r13.2.1.fi r13.2.1.fh r14.2 v10 v11 v12))else none)else none))else some (v10,v4,v9,(Eu.mk v6 v7 v8)))else some (v10,v4,v9,(Eu.mk v6 v7 v8)))
def Axj (K:Nat)(a0:Eu)(a1:Int):Option (Fa×(List Dg)×Es×Eu):=((Axd K a0).bind fun r1=>((Avc K r1.1).bind fun r2=>((Abe K r1.2 a1).bind fun r3=>(Atn K K ([]:List Dg) (Aqc .i64 4 r3.1) r3.2.fb r3.2.fi r3.2.fh r2 r1.1 (Es.mk (Fa.mk 0 0 0 0 0 0) (Eb.mk [] [] []) [] [] []) (Fa.mk 0 0 0 0 0 0)))))
def s_120:Sig:=⟨[.b 135 false,.v 3],[.v 25,.n 136 false,.n 32 false],false⟩
def Bud (K:Nat):Gu tyU:=⟨s_120,Axj K⟩
def Blw (K:Nat):=xF s_120 [(53,Bvv K),(118,c_4 K),(193,c_6 K),(194,Bzc K),(195,Buc K)] [] 42 [22,23] [(4,[.put 108,.take 108 9 6737,.shal 6737,.take 108 10 6738,.shal 6738,.put 108,.shal 1009]),(7,[.take 108 6 6734,.take 108 7 6735,.take 108 8 6736,.take 108 9 6737,.take 108 10 6738,.take 108 11 6739]),(9,[.put 108]),(10,[.take 108 6 6734,.take 108 7 6735,.take 108 8 6736,.take 108 9 6737,.take 108 10 6738,.take 108 11 6739])] [(32,[.frz 3032])] [] [.cell 4 25,.tmp 5,.cell 6 32]
def A4g:Fs:=⟨[(0,.p 1),(4,.p 104),(6,.p 106),(7,.p 107),(8,.p 108),(9,.o 1009 38 false),(10,.v 2)],[(1,.box [.v 22,.v 2,.v 2]),(108,.st 32 false),(107,.st 25 true),(106,.st 32 true),(104,.st 25 true)]⟩
def A4h (K:Nat)(n:Nat)(q:PT A4g):Rt s_120:=Atn K n q.1 q.2.1 q.2.2.1 q.2.2.2.1 q.2.2.2.2.1 q.2.2.2.2.2.1 q.2.2.2.2.2.2.1 q.2.2.2.2.2.2.2.1 q.2.2.2.2.2.2.2.2.1
theorem Bh4 (K:Nat):AtL (Blw K) (fun n=>[]) [] (bd Tryz.f114) 250 (A4h K):=fun n q=>by kernel_rfl
theorem Blx (K:Nat):XF [.cell 4 25,.tmp 5,.cell 6 32] s_120 42 [] (Blw K):=xkF (gC (Bsg K) (gC (Bd8 K) (gC (B34 K) (gC (Bzd K) (gC (Bxo K) gN))))) oN
theorem Bh5 (K:Nat)(n:Nat):CF [.cell 4 25,.tmp 5,.cell 6 32] s_120 42 [] (bd Tryz.f114) [] 250 (ar A4g (A4h K n)):=
 Agc (Blx K) (Bh4 K) (fun n=>kN) n
theorem Bxp (K:Nat):OkF 114 (Bud K):=
 Abg (x:=Blw K) (L:=[(250,ar A4g (A4h K K))]) (c0:=bd Tryz.f114) (Blx K) (by intro a0 a1;show @Eq _ _ _;kernel_rfl) (kC (Bh5 K K) kN) Tryz.func114 trivial
def Axw (K:Nat)(a0:Eu)(a1:Int):Option (Es×Eu):=((Axj K a0 a1).bind fun r1=>some (r1.2.2.1,r1.2.2.2))
def Bue:Sig:=⟨[.b 135 false,.v 3],[.n 32 false],false⟩
def Buf (K:Nat):Gu tyU:=⟨Bue,Axw K⟩
def B28 (K:Nat):=xF Bue [(114,Bud K)] [] 16 [] [] [] [] [.cell 4 32]
theorem Bxq (K:Nat):OkF 51 (Buf K):=
 Abg (x:=B28 K) (L:=[]) (c0:=bd Tryz.f51) (xkF (gC (Bxp K) gN) oN) (by intro a0 a1;show @Eq _ _ _;kernel_rfl) kN Tryz.func51 trivial
def Aut (K:Nat)(a0:List Int):Option (Es×Dg):=((Ax2 K a0).bind fun r1=>((Auz K a0 50).bind fun r2=>((Axw K r1 (Aqc .i64 20 r2)).bind fun r3=>((At1 K r3.2 r3.1).bind fun r4=>(if r4.2.2.1.length=r3.1.fP.Gl.length∧r4.2.2.2.1.length=r3.1.fP.Ja.length∧r4.2.2.2.2.1.length=r3.1.fP.Gm.length∧r4.2.2.2.2.2.1.length=r3.1.fL.length∧r4.2.2.2.2.2.2.1.length=r3.1.fQ.length∧r4.2.2.2.2.2.2.2.length=r3.1.Rl.length then some ((Es.mk r3.1.fC (Eb.mk r4.2.2.1 r4.2.2.2.1 r4.2.2.2.2.1) r4.2.2.2.2.2.1 r4.2.2.2.2.2.2.1 r4.2.2.2.2.2.2.2),r4.1)else none)))))
def Bug:Sig:=⟨[.v 22],[.n 32 false,.n 38 true],false⟩
def Buh (K:Nat):Gu tyU:=⟨Bug,Aut K⟩
def B29 (K:Nat):=xF Bug [(50,c_1 K),(51,Buf K),(52,c_2 K),(53,Bvv K)] [] 17 [] [] [] [] [.cell 2 32,.cell 3 38]
theorem Bxr (K:Nat):OkF 14 (Buh K):=
 Abg (x:=B29 K) (L:=[]) (c0:=bd Tryz.f14) (xkF (gC (B30 K) (gC (Bxq K) (gC (B31 K) (gC (Bsg K) gN)))) oN) (by intro a0;show @Eq _ _ _;kernel_rfl) kN Tryz.func14 trivial
def Awv (K:Nat)(v1:Bf)(v2:Bf):Option (Bool):=some (decide ((Aqd .u64 (IntKind.u64.wrap v1.fAt) (IntKind.u64.wrap v2.fAt))≥(IntKind.u64.wrap v2.Xf)))
def Ayg (K:Nat)(a0:Bf)(a1:Bf):Option (Bool):=(bif (decide (a0.Xf≤0))then some true else(bif (decide (a1.Xf≤0))then some true else(bif (decide (a0.fAt>a1.fAt))then(Awv K a0 a1)else(Awv K a1 a0))))
def s_123:Sig:=⟨[.v 89,.v 89],[.v 4],true⟩
def Bui (K:Nat):Gu tyU:=⟨s_123,Ayg K⟩
def Bly (K:Nat):=xF s_123 [] [] 31 [7,8] [] [] [7] [.tmp 4]
def Bbf:Fs:=⟨[(2,.p 102),(3,.p 103)],[(103,.st 89 true),(102,.st 89 true)]⟩
def Bbg (K:Nat)(q:PT Bbf):Rt s_123:=Awv K q.1 q.2.1
theorem Bre (K:Nat):AtJ (Bly K) [] [] (bd Tryz.f59) 7 (Bbg K):=fun q=>by kernel_rfl
theorem Blz (K:Nat):XF [.tmp 4] s_123 31 [7] (Bly K):=xkF gN oN
theorem Brf (K:Nat):CF [.tmp 4] s_123 31 [7] (bd Tryz.f59) [] 7 (ar Bbf (Bbg K)):=
 Aiz (Blz K) (Bre K) kN
theorem Bxs (K:Nat):OkF 59 (Bui K):=
 Abg (x:=Bly K) (L:=[(7,ar Bbf (Bbg K))]) (c0:=bd Tryz.f59) (Blz K) (by intro a0 a1;show @Eq _ _ _;kernel_rfl) (kC (Brf K) kN) Tryz.func59 trivial
def Atw (K:Nat)(a0:Bf)(a1:Bf):Option (Bool):=((Ayg K a0 a1).bind fun r1=>some (!r1))
def Buj:Sig:=⟨[.v 89,.r 89],[.v 4],true⟩
def Buk (K:Nat):Gu tyU:=⟨Buj,Atw K⟩
def B3a (K:Nat):=xF Buj [(59,Bui K)] [] 8 [] [] [] [] [.tmp 3]
theorem Bxt (K:Nat):OkF 58 (Buk K):=
 Abg (x:=B3a K) (L:=[]) (c0:=bd Tryz.f58) (xkF (gC (Bxs K) gN) oN) (by intro a0 a1;show @Eq _ _ _;kernel_rfl) kN Tryz.func58 trivial
def Abi (K:Nat)(a0:List Bf)(a1_0:Bf):Nat->Int->Int->Option (Int)
 |0,_,_=>none
 |n1+1,v1,v2=>(bif (decide (v2<v1))then(if(0:Int)≤v2∧v2<(a0.length:Int)then((Atw K (gt a0 v2) a1_0).bind fun r3=>(bif r3 then some v2 else(Abi K a0 a1_0 n1 v1 (Aqc .i64 v2 1))))else none)else some (-1))
def Am4 (K:Nat)(a0:List Bf)(a1_0:Bf):Option (Int):=(Abi K a0 a1_0 K (a0.length:Int) 0)
def s_125:Sig:=⟨[.v 41,.f 58 [] [89]],[.v 3],true⟩
def Bul (K:Nat):Gu tyU:=⟨s_125,Am4 K⟩
def Bl0 (K:Nat):=xF s_125 [(58,Buk K)] [] 19 [] [] [] [] [.tmp 4]
def A7f:Fs:=⟨[(0,.v 41),(1,.f 58 [] [89]),(7,.v 2),(8,.v 2)],[]⟩
def A7g (K:Nat)(n:Nat)(q:PT A7f):Rt s_125:=Abi K q.1 q.2.1 n q.2.2.1 q.2.2.2.1
theorem Bl1 (K:Nat):AtL (Bl0 K) (fun n=>[]) [] (bd Tryz.f122) 26 (A7g K):=fun n q=>by kernel_rfl
theorem Bl2 (K:Nat):XF [.tmp 4] s_125 19 [] (Bl0 K):=xkF (gC (Bxt K) gN) oN
theorem Bl3 (K:Nat)(n:Nat):CF [.tmp 4] s_125 19 [] (bd Tryz.f122) [] 26 (ar A7f (A7g K n)):=
 Agc (Bl2 K) (Bl1 K) (fun n=>kN) n
theorem Bxu (K:Nat):OkF 122 (Bul K):=
 Abg (x:=Bl0 K) (L:=[(26,ar A7f (A7g K K))]) (c0:=bd Tryz.f122) (Bl2 K) (by intro a0 a1_0;show @Eq _ _ _;kernel_rfl) (kC (Bl3 K K) kN) Tryz.func122 trivial
def Acx (K:Nat)(a0:List Bf)(a1_0:Bf):Option (Bool):=((Am4 K a0 a1_0).bind fun r1=>some (decide (r1≥0)))
def Bum:Sig:=⟨[.v 41,.f 58 [] [89]],[.v 4],true⟩
def Bun (K:Nat):Gu tyU:=⟨Bum,Acx K⟩
def B3b (K:Nat):=xF Bum [(122,Bul K)] [] 9 [] [] [] [] [.tmp 4]
theorem Bxv (K:Nat):OkF 54 (Bun K):=
 Abg (x:=B3b K) (L:=[]) (c0:=bd Tryz.f54) (xkF (gC (Bxu K) gN) oN) (by intro a0 a1_0;show @Eq _ _ _;kernel_rfl) kN Tryz.func54 trivial
def Aog (K:Nat)(a0:List Bf):Nat->(List Bf)->Int->Int->Option (Bool)
 |0,_,_,_=>none
 |n1+1,v1,v2,v3=>(bif (decide (v3<v2))then(if(0:Int)≤v3∧v3<(v1.length:Int)then(if(0:Int)≤0∧0≤v3∧v3≤(a0.length:Int)then((Acx K ((a0.drop (0:Int).toNat).take (v3 - 0).toNat) (gt v1 v3)).bind fun r4=>(bif r4 then some false else(Aog K a0 n1 v1 v2 (Aqc .i64 v3 1))))else none)else none)else some true)
def Avt (K:Nat)(a0:List Bf):Option (Bool):=(Aog K a0 K a0 (a0.length:Int) 0)
def s_127:Sig:=⟨[.v 41],[.v 4],true⟩
def Buo (K:Nat):Gu tyU:=⟨s_127,Avt K⟩
def Bl4 (K:Nat):=xF s_127 [(54,Bun K)] [] 18 [] [(4,[.frzB 104 89])] [] [] [.tmp 2]
def A7h:Fs:=⟨[(0,.v 41),(5,.v 41),(6,.v 2),(7,.v 2)],[]⟩
def A7i (K:Nat)(n:Nat)(q:PT A7h):Rt s_127:=Aog K q.1 n q.2.1 q.2.2.1 q.2.2.2.1
theorem Bl5 (K:Nat):AtL (Bl4 K) (fun n=>[]) [] (bd Tryz.f17) 26 (A7i K):=fun n q=>by kernel_rfl
theorem Bl6 (K:Nat):XF [.tmp 2] s_127 18 [] (Bl4 K):=xkF (gC (Bxv K) gN) oN
theorem Bl7 (K:Nat)(n:Nat):CF [.tmp 2] s_127 18 [] (bd Tryz.f17) [] 26 (ar A7h (A7i K n)):=
 Agc (Bl6 K) (Bl5 K) (fun n=>kN) n
theorem Bxw (K:Nat):OkF 17 (Buo K):=
 Abg (x:=Bl4 K) (L:=[(26,ar A7h (A7i K K))]) (c0:=bd Tryz.f17) (Bl6 K) (by intro a0;show @Eq _ _ _;kernel_rfl) (kC (Bl7 K K) kN) Tryz.func17 trivial
def Apy (K:Nat)(a0:Int)(a1:Int)(a2:Int):Option (Bool):=(bif (decide (a0≥a1))then some (decide (a0≤a2))else some false)
def Bup:Sig:=⟨[.v 3,.v 3,.v 3],[.v 4],true⟩
def Bl8 (K:Nat):Gu tyU:=⟨Bup,Apy K⟩
def B3c (K:Nat):=xF Bup [] [] 15 [9,10] [] [] [] [.tmp 6]
theorem Bl9 (K:Nat):OkF 88 (Bl8 K):=
 Abg (x:=B3c K) (L:=[]) (c0:=bd Tryz.f88) (xkF gN oN) (by intro a0 a1 a2;show @Eq _ _ _;kernel_rfl) kN Tryz.func88 trivial
def A1x (K:Nat)(a0:Fa):Option (Bool):=((Apy K a0.Af 2 12).bind fun r1=>(bif r1 then((Apy K a0.Ez 8 16).bind fun r2=>(bif r2 then((Apy K a0.Db 2 8).bind fun r3=>(bif r3 then((Apy K a0.Fv 1 8).bind fun r4=>(bif r4 then((Apy K a0.Dc 1 16).bind fun r5=>(bif r5 then((Apy K a0.E0 1 4).bind fun r6=>some r6)else some false))else some false))else some false))else some false))else some false))
def Buq:Sig:=⟨[.v 25],[.v 4],true⟩
def Bur (K:Nat):Gu tyU:=⟨Buq,A1x K⟩
def B3d (K:Nat):=xF Buq [(88,Bl8 K)] [] 31 [5,6,9,10,11,14,15,16,19,20,21,24,25,26] [] [] [] [.tmp 2]
theorem Bxx (K:Nat):OkF 198 (Bur K):=
 Abg (x:=B3d K) (L:=[]) (c0:=bd Tryz.f198) (xkF (gC (Bl9 K) gN) oN) (by intro a0;show @Eq _ _ _;kernel_rfl) kN Tryz.func198 trivial
def Ayr (K:Nat)(a0:Fa):Option (Int):=((A1x K a0).bind fun r1=>(bif (!r1)then some 0 else some (Aqe .i64 a0.Af a0.Ez)))
def Bus:Sig:=⟨[.v 25],[.v 3],true⟩
def But (K:Nat):Gu tyU:=⟨Bus,Ayr K⟩
def B3e (K:Nat):=xF Bus [(198,Bur K)] [] 11 [] [] [] [] [.tmp 2]
theorem Bxy (K:Nat):OkF 123 (But K):=
 Abg (x:=B3e K) (L:=[]) (c0:=bd Tryz.f123) (xkF (gC (Bxx K) gN) oN) (by intro a0;show @Eq _ _ _;kernel_rfl) kN Tryz.func123 trivial
def A00 (K:Nat)(a0:Fa)(a1:Int):Option (Bool):=some (decide (a1>a0.Ez))
def Buu:Sig:=⟨[.v 25,.v 3],[.v 4],true⟩
def Buv (K:Nat):Gu tyU:=⟨Buu,A00 K⟩
def B3f (K:Nat):=xF Buu [] [] 9 [] [] [] [] [.tmp 4]
theorem Bxz (K:Nat):OkF 124 (Buv K):=
 Abg (x:=B3f K) (L:=[]) (c0:=bd Tryz.f124) (xkF gN oN) (by intro a0 a1;show @Eq _ _ _;kernel_rfl) kN Tryz.func124 trivial
def A01 (K:Nat)(a0:Int)(a1:Int):Option (Int):=((Apy K a0 0 1000000000).bind fun r1=>(bif r1 then((Apy K a1 1 1000000000).bind fun r2=>(bif (!r2)then some 0 else(if a1≠(0:Int)then some (Anr .i64 (Aqd .i64 (Aqc .i64 a0 a1) 1) a1)else none)))else some 0))
def Buw:Sig:=⟨[.v 3,.v 3],[.v 3],true⟩
def Bux (K:Nat):Gu tyU:=⟨Buw,A01 K⟩
def B3g (K:Nat):=xF Buw [(88,Bl8 K)] [] 19 [6,7,8] [] [] [] [.tmp 4]
theorem Bx0 (K:Nat):OkF 199 (Bux K):=
 Abg (x:=B3g K) (L:=[]) (c0:=bd Tryz.f199) (xkF (gC (Bl9 K) gN) oN) (by intro a0 a1;show @Eq _ _ _;kernel_rfl) kN Tryz.func199 trivial
def Azy (K:Nat)(a0:Fa)(a1:Int):Option (Int):=((A01 K a1 a0.Ez).bind fun r1=>some r1)
def Buy:Sig:=⟨[.v 25,.v 3],[.v 3],true⟩
def Buz (K:Nat):Gu tyU:=⟨Buy,Azy K⟩
def B3h (K:Nat):=xF Buy [(199,Bux K)] [] 9 [] [] [] [] [.tmp 4]
theorem Bx1 (K:Nat):OkF 125 (Buz K):=
 Abg (x:=B3h K) (L:=[]) (c0:=bd Tryz.f125) (xkF (gC (Bx0 K) gN) oN) (by intro a0 a1;show @Eq _ _ _;kernel_rfl) kN Tryz.func125 trivial
def Aud (K:Nat)(a0:Fa)(a1:Bf):Option (Bool):=((Ayr K a0).bind fun r1=>(bif (decide (a1.Xf≤0))then some false else(bif (decide (a1.fAt<0))then some false else(bif (decide (a1.Xf>r1))then some false else(bif (decide (a1.fAt>(Aqd .i64 r1 a1.Xf)))then some false else(bif (a1.Xg==0)then(bif (decide (a1.Xf≤a0.Ez))then(if a0.Ez≠(0:Int)then(if a0.Ez≠(0:Int)then some ((Anr .i64 a1.fAt a0.Ez)==(Anr .i64 (Aqd .i64 (Aqc .i64 a1.fAt a1.Xf) 1) a0.Ez))else none)else none)else some false)else((A00 K a0 a1.Xf).bind fun r2=>(bif r2 then((Azy K a0 a1.Xf).bind fun r3=>(bif (a1.Xg==r3)then(if a0.Ez≠(0:Int)then some ((Int.tmod a1.fAt a0.Ez)==0)else none)else some false))else some false))))))))
def Bu0:Sig:=⟨[.v 25,.v 89],[.v 4],true⟩
def Bu1 (K:Nat):Gu tyU:=⟨Bu0,Aud K⟩
def B3i (K:Nat):=xF Bu0 [(123,But K),(124,Buv K),(125,Buz K)] [] 77 [10,11,14,15,16,20,21,22,38,39,59,60,67,68,69] [] [] [] [.tmp 4]
theorem Bx2 (K:Nat):OkF 56 (Bu1 K):=
 Abg (x:=B3i K) (L:=[]) (c0:=bd Tryz.f56) (xkF (gC (Bxy K) (gC (Bxz K) (gC (Bx1 K) gN))) oN) (by intro a0 a1;show @Eq _ _ _;kernel_rfl) kN Tryz.func56 trivial
def Anj (K:Nat)(a0:List Int)(a1:Int):Nat->Int->Int->Option (Int)
 |0,_,_=>none
 |n1+1,v1,v2=>(bif (decide (v2<v1))then(if(0:Int)≤v2∧v2<(a0.length:Int)then(bif (a1==(gt a0 v2))then some v2 else(Anj K a0 a1 n1 v1 (Aqc .i64 v2 1)))else none)else some (-1))
def Avw (K:Nat)(a0:List Int)(a1:Int):Option (Int):=(Anj K a0 a1 K (a0.length:Int) 0)
def s_135:Sig:=⟨[.v 26,.v 3],[.v 3],true⟩
def Bu2 (K:Nat):Gu tyU:=⟨s_135,Avw K⟩
def Bma (K:Nat):=xF s_135 [] [] 19 [] [] [] [] [.tmp 4]
def A7j:Fs:=⟨[(0,.v 26),(1,.v 2),(7,.v 2),(8,.v 2)],[]⟩
def A7k (K:Nat)(n:Nat)(q:PT A7j):Rt s_135:=Anj K q.1 q.2.1 n q.2.2.1 q.2.2.2.1
theorem Bmb (K:Nat):AtL (Bma K) (fun n=>[]) [] (bd Tryz.f126) 26 (A7k K):=fun n q=>by kernel_rfl
theorem Bmc (K:Nat):XF [.tmp 4] s_135 19 [] (Bma K):=xkF gN oN
theorem Bmd (K:Nat)(n:Nat):CF [.tmp 4] s_135 19 [] (bd Tryz.f126) [] 26 (ar A7j (A7k K n)):=
 Agc (Bmc K) (Bmb K) (fun n=>kN) n
theorem Bx3 (K:Nat):OkF 126 (Bu2 K):=
 Abg (x:=Bma K) (L:=[(26,ar A7j (A7k K K))]) (c0:=bd Tryz.f126) (Bmc K) (by intro a0 a1;show @Eq _ _ _;kernel_rfl) (kC (Bmd K K) kN) Tryz.func126 trivial
def Ar3 (K:Nat)(a0:List Int)(a1:Int):Option (Bool):=((Avw K a0 a1).bind fun r1=>some (decide (r1≥0)))
def Bu3:Sig:=⟨[.v 26,.v 3],[.v 4],true⟩
def Bu4 (K:Nat):Gu tyU:=⟨Bu3,Ar3 K⟩
def B3j (K:Nat):=xF Bu3 [(126,Bu2 K)] [] 9 [] [] [] [] [.tmp 4]
theorem Bx4 (K:Nat):OkF 57 (Bu4 K):=
 Abg (x:=B3j K) (L:=[]) (c0:=bd Tryz.f57) (xkF (gC (Bx3 K) gN) oN) (by intro a0 a1;show @Eq _ _ _;kernel_rfl) kN Tryz.func57 trivial
def Ak0 (K:Nat)(a0:Bf)(a1:Fa)(a2:Bg):Nat->Int->Option (Bool)
 |0,_=>none
 |n1+1,v2=>(if a1.Ez≠(0:Int)then(bif (decide (v2≤(Anr .i64 (Aqd .i64 (Aqc .i64 a0.fAt a0.Xf) 1) a1.Ez)))then((Ar3 K a2.Af v2).bind fun r3=>(bif (!r3)then some true else(Ak0 K a0 a1 a2 n1 (Aqc .i64 v2 1))))else some false)else none)
def Asj (K:Nat)(a0:Bf)(a1:Fa)(a2:Bg):Option (Bool):=((Aud K a1 a0).bind fun r1=>(bif (!r1)then some true else(if a1.Ez≠(0:Int)then(Ak0 K a0 a1 a2 K (Anr .i64 a0.fAt a1.Ez))else none)))
def s_137:Sig:=⟨[.v 89,.r 25,.r 44],[.v 4],true⟩
def Bu5 (K:Nat):Gu tyU:=⟨s_137,Asj K⟩
def Bme (K:Nat):=xF s_137 [(56,Bu1 K),(57,Bu4 K)] [] 33 [] [] [] [] [.tmp 4]
def A7l:Fs:=⟨[(1,.r 25),(2,.r 44),(3,.p 103),(5,.v 2)],[(103,.st 89 true)]⟩
def A7m (K:Nat)(n:Nat)(q:PT A7l):Rt s_137:=Ak0 K q.2.2.2.1 q.1 q.2.1 n q.2.2.1
theorem Bmf (K:Nat):AtL (Bme K) (fun n=>[]) [] (bd Tryz.f55) 58 (A7m K):=fun n q=>by kernel_rfl
theorem Bmg (K:Nat):XF [.tmp 4] s_137 33 [] (Bme K):=xkF (gC (Bx2 K) (gC (Bx4 K) gN)) oN
theorem Bmh (K:Nat)(n:Nat):CF [.tmp 4] s_137 33 [] (bd Tryz.f55) [] 58 (ar A7l (A7m K n)):=
 Agc (Bmg K) (Bmf K) (fun n=>kN) n
theorem Bx5 (K:Nat):OkF 55 (Bu5 K):=
 Abg (x:=Bme K) (L:=[(58,ar A7l (A7m K K))]) (c0:=bd Tryz.f55) (Bmg K) (by intro a0 a1 a2;show @Eq _ _ _;kernel_rfl) (kC (Bmh K K) kN) Tryz.func55 trivial
def Abj (K:Nat)(a0:List Bf)(a1_0:Fa)(a1_1:Bg):Nat->Int->Int->Option (Int)
 |0,_,_=>none
 |n1+1,v1,v2=>(bif (decide (v2<v1))then(if(0:Int)≤v2∧v2<(a0.length:Int)then((Asj K (gt a0 v2) a1_0 a1_1).bind fun r3=>(bif r3 then some v2 else(Abj K a0 a1_0 a1_1 n1 v1 (Aqc .i64 v2 1))))else none)else some (-1))
def Am5 (K:Nat)(a0:List Bf)(a1_0:Fa)(a1_1:Bg):Option (Int):=(Abj K a0 a1_0 a1_1 K (a0.length:Int) 0)
def s_138:Sig:=⟨[.v 41,.f 55 [] [25,44]],[.v 3],true⟩
def Bu6 (K:Nat):Gu tyU:=⟨s_138,Am5 K⟩
def Bmi (K:Nat):=xF s_138 [(55,Bu5 K)] [] 19 [] [] [] [] [.tmp 4]
def A7n:Fs:=⟨[(0,.v 41),(1,.f 55 [] [25,44]),(7,.v 2),(8,.v 2)],[]⟩
def A7o (K:Nat)(n:Nat)(q:PT A7n):Rt s_138:=Abj K q.1 q.2.1 q.2.2.1 n q.2.2.2.1 q.2.2.2.2.1
theorem Bmj (K:Nat):AtL (Bmi K) (fun n=>[]) [] (bd Tryz.f122) 26 (A7o K):=fun n q=>by kernel_rfl
theorem Bmk (K:Nat):XF [.tmp 4] s_138 19 [] (Bmi K):=xkF (gC (Bx5 K) gN) oN
theorem Bml (K:Nat)(n:Nat):CF [.tmp 4] s_138 19 [] (bd Tryz.f122) [] 26 (ar A7n (A7o K n)):=
 Agc (Bmk K) (Bmj K) (fun n=>kN) n
theorem Bx6 (K:Nat):OkF 122 (Bu6 K):=
 Abg (x:=Bmi K) (L:=[(26,ar A7n (A7o K K))]) (c0:=bd Tryz.f122) (Bmk K) (by intro a0 a1_0 a1_1;show @Eq _ _ _;kernel_rfl) (kC (Bml K K) kN) Tryz.func122 trivial
def Adg (K:Nat)(a0:List Bf)(a1_0:Fa)(a1_1:Bg):Option (Bool):=((Am5 K a0 a1_0 a1_1).bind fun r1=>some (decide (r1≥0)))
def Bu7:Sig:=⟨[.v 41,.f 55 [] [25,44]],[.v 4],true⟩
def Bu8 (K:Nat):Gu tyU:=⟨Bu7,Adg K⟩
def B3k (K:Nat):=xF Bu7 [(122,Bu6 K)] [] 9 [] [] [] [] [.tmp 4]
theorem Bx7 (K:Nat):OkF 54 (Bu8 K):=
 Abg (x:=B3k K) (L:=[]) (c0:=bd Tryz.f54) (xkF (gC (Bx6 K) gN) oN) (by intro a0 a1_0 a1_1;show @Eq _ _ _;kernel_rfl) kN Tryz.func54 trivial
def Avu (K:Nat)(a0:Fa)(a1:Bg):Option (Bool):=((Adg K a1.Er a0 a1).bind fun r1=>some (!r1))
def Bu9:Sig:=⟨[.v 25,.v 44],[.v 4],true⟩
def Bva (K:Nat):Gu tyU:=⟨Bu9,Avu K⟩
def B3l (K:Nat):=xF Bu9 [(54,Bu8 K)] [] 10 [] [(1,[.frzB 102 25,.frzB 103 44])] [] [] [.tmp 4]
theorem Bx8 (K:Nat):OkF 15 (Bva K):=
 Abg (x:=B3l K) (L:=[]) (c0:=bd Tryz.f15) (xkF (gC (Bx7 K) gN) oN) (by intro a0 a1;show @Eq _ _ _;kernel_rfl) kN Tryz.func15 trivial
def As9 (K:Nat)(v2:Int)(v3:Int)(v4:List Int)(v5:List Int)(v6:List Int)(C1:(List Int)->Int->Int->(List Int)->(List Int)->(List Int)->Option ((List Int)))(v7:List Int):Option ((List Int)):=(C1 v7 v2 (Aqc .i64 v3 1) v4 v5 v6)
def Akx (K:Nat)(a1:Int):Nat->(List Int)->Int->Int->(List Int)->(List Int)->(List Int)->Option ((List Int))
 |0,_,_,_,_,_,_=>none
 |n1+1,v1,v2,v3,v4,v5,v6=>(bif (decide (v3<v2))then(if(0:Int)≤v3∧v3<(v5.length:Int)then(bif ((gt v5 v3)==1)then(if(0:Int)≤v3∧v3<(v6.length:Int)then(bif ((gt v6 v3)==a1)then(if(v1++([v3]:List Int)).length*8≤140737488355328∧(v1++([v3]:List Int)).length≤maxLen then(As9 K v2 v3 v4 v5 v6 (Akx K a1 n1) (v1++([v3]:List Int)))else none)else(As9 K v2 v3 v4 v5 v6 (Akx K a1 n1) v1))else none)else(As9 K v2 v3 v4 v5 v6 (Akx K a1 n1) v1))else none)else some v1)
def Aww (K:Nat)(a0:Eb)(a1:Int):Option ((List Int)):=(Akx K a1 K ([]:List Int) (Ab9 (a0.Ja.length:Int) (a0.Gm.length:Int)) 0 a0.Gl a0.Ja a0.Gm)
def s_141:Sig:=⟨[.v 28,.v 3],[.n 26 true],true⟩
def Bvb (K:Nat):Gu tyU:=⟨s_141,Aww K⟩
def Bgd (K:Nat):=xF s_141 [] [] 39 [23,24] [] [] [467] [.tmp 4]
def A4i:Fs:=⟨[(1,.v 2),(2,.p 102),(5,.o 1005 3 true),(14,.v 2),(15,.v 2)],[(102,.box [.v 22,.v 26,.v 26])]⟩
def Axo:Fs:=⟨[(1,.v 2),(2,.p 102),(5,.o 1005 3 true),(14,.v 2),(15,.v 2)],[(102,.box [.v 22,.v 26,.v 26])]⟩
def A4j (K:Nat)(C58:CT Axo s_141)(q:PT A4i):Rt s_141:=As9 K q.2.2.1 q.2.2.2.1 q.2.2.2.2.1 q.2.2.2.2.2.1 q.2.2.2.2.2.2.1 (fun v1 v2 v3 v4 v5 v6=>C58 (q.1,v1,v2,v3,v4,v5,v6,())) q.2.1
def A02 (K:Nat)(n:Nat)(q:PT Axo):Rt s_141:=Akx K q.1 n q.2.1 q.2.2.1 q.2.2.2.1 q.2.2.2.2.1 q.2.2.2.2.2.1 q.2.2.2.2.2.2.1
theorem Bh6 (K:Nat)(C58:CT Axo s_141):AtJ (Bgd K) [] [(58,ar Axo C58)] (bd Tryz.f16) 467 (A4j K C58):=fun q=>by kernel_rfl
theorem Bmm (K:Nat):AtL (Bgd K) (fun n=>[(467,ar A4i (A4j K (A02 K n)))]) [] (bd Tryz.f16) 58 (A02 K):=fun n q=>by kernel_rfl
theorem Be0 (K:Nat):XF [.tmp 4] s_141 39 [467] (Bgd K):=xkF gN oN
theorem Bh7 (K:Nat)(C58:CT Axo s_141):CF [.tmp 4] s_141 39 [467] (bd Tryz.f16) [(58,ar Axo C58)] 467 (ar A4i (A4j K C58)):=
 Aiz (Be0 K) (Bh6 K C58) kN
theorem Bmn (K:Nat)(n:Nat):CF [.tmp 4] s_141 39 [467] (bd Tryz.f16) [] 58 (ar Axo (A02 K n)):=
 Agc (Be0 K) (Bmm K) (fun n=>(kC (Bh7 K (A02 K n)) kN)) n
theorem Bx9 (K:Nat):OkF 16 (Bvb K):=
 Abg (x:=Bgd K) (L:=[(58,ar Axo (A02 K K))]) (c0:=bd Tryz.f16) (Be0 K) (by intro a0 a1;show @Eq _ _ _;kernel_rfl) (kC (Bmn K K) kN) Tryz.func16 trivial
def Arc (K:Nat):Nat->(List Bf)->Int->Es->Option (Bool)
 |0,_,_,_=>none
 |n1+1,v3,v4,v5=>(bif (decide (v4<(v5.fL.length:Int)))then(if(0:Int)≤v4∧v4<(v5.fL.length:Int)then((Avu K v5.fC (gt v5.fL v4)).bind fun r6=>(bif r6 then(if(0:Int)≤v4∧v4<(v5.fL.length:Int)then((Aww K v5.fP v4).bind fun r7=>(bif ((((gt v5.fL v4).Af).length:Int) != (r7.length:Int))then some false else(if(0:Int)≤v4∧v4<(v5.fL.length:Int)then(if(v3++((gt v5.fL v4).Er)).length*24≤140737488355328∧(v3++((gt v5.fL v4).Er)).length≤maxLen then(Arc K n1 (v3++((gt v5.fL v4).Er)) (Aqc .i64 v4 1) v5)else none)else none)))else none)else some false))else none)else((Avt K v3).bind fun r8=>some r8))
def Atx (K:Nat)(a0:List Int):Option (Bool):=((A12 K a0).bind fun r1=>(bif r1 then some true else((Aut K a0).bind fun r2=>(Arc K K ([]:List Bf) 0 r2.1))))
def s_142:Sig:=⟨[.v 22],[.v 4],true⟩
def B3m (K:Nat):Gu tyU:=⟨s_142,Atx K⟩
def Bmo (K:Nat):=xF s_142 [(13,c_0 K),(14,Buh K),(15,Bva K),(16,Bvb K),(17,Buo K)] [] 56 [29,30,31] [(6,[.take 103 9 6657]),(8,[.take 103 6 6654,.take 103 7 6655,.take 103 8 6656])] [] [] [.tmp 2]
def A4k:Fs:=⟨[(3,.p 103),(5,.o 1005 89 true),(6,.v 2)],[(103,.st 32 false)]⟩
def A4l (K:Nat)(n:Nat)(q:PT A4k):Rt s_142:=Arc K n q.1 q.2.1 q.2.2.1
theorem Bh8 (K:Nat):AtL (Bmo K) (fun n=>[]) [] (bd Tryz.f3) 250 (A4l K):=fun n q=>by kernel_rfl
theorem Bmp (K:Nat):XF [.tmp 2] s_142 56 [] (Bmo K):=xkF (gC (B3y K) (gC (Bxr K) (gC (Bx8 K) (gC (Bx9 K) (gC (Bxw K) gN))))) oN
theorem Bh9 (K:Nat)(n:Nat):CF [.tmp 2] s_142 56 [] (bd Tryz.f3) [] 250 (ar A4k (A4l K n)):=
 Agc (Bmp K) (Bh8 K) (fun n=>kN) n
theorem Bya (K:Nat):OkF 3 (B3m K):=
 Abg (x:=Bmo K) (L:=[(250,ar A4k (A4l K K))]) (c0:=bd Tryz.f3) (Bmp K) (by intro a0;show @Eq _ _ _;kernel_rfl) (kC (Bh9 K K) kN) Tryz.func3 trivial
end
end Go.Proofs.YtjdblamhaljjbaaGreat
