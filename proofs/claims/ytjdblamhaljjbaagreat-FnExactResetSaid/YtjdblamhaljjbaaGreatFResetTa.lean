/- What the functions compute that FnExactReset reaches, and that they do; no condition. Printed by gen3.py. -/
import Derived.Test.YtjdblamhaljjbaaGreatFSrt
set_option linter.all false
set_option maxRecDepth 20000
namespace Go.Proofs.YtjdblamhaljjbaaGreat
open Go.Eng
noncomputable section
abbrev bd (f:Func):Code:=f.body.getD .skip
abbrev PT (h:E5):Type:=Am tyU h.codes
abbrev Rt (s:Sig):Type:=Option (Au tyU s.codes)
abbrev CT (h:E5)(s:Sig):Type:=Am tyU h.codes->Option (Au tyU s.codes)
abbrev ar{s:Sig}(h:E5)(M:CT h s):SS Ah->Rt s:=arr tyU tab h M
def xF (s:Sig)(G:List (Nat×Gb tyU))(O:List (Nat×List (Nat×Gb tyU)))(N:Nat)(spl:List Nat)(pre post:List (Nat×List Cmd))(js:List Nat)(rl:List ResultVar)(L B:Λt tyU s):Ox tyU (Au tyU s.codes):=⟨G,O,eqT eqs,N,spl,pre,post,js,L,B,Afh tyU tab s rl⟩
abbrev XF (rl:List ResultVar)(s:Sig)(N:Nat)(js:List Nat)(x:Λt tyU s->Λt tyU s->Ox tyU (Au tyU s.codes)):Prop:=XOk tyU tab Tryz.prog rl s N js x
theorem B22:Tryz.prog.follows .mixedOrders=true:=by kernel_rfl
theorem xkF{rl:List ResultVar}{s:Sig}{N:Nat}{js:List Nat}{G:List (Nat×Gb tyU)}{O:List (Nat×List (Nat×Gb tyU))}{spl:List Nat}{pre post:List (Nat×List Cmd)}(hΓ: ∀f c,lk G f=some c->Gb.Ok tyU Tryz.prog f c∧E2 Tryz.prog f)(hov: ∀d l,lk O d=some l-> ∀f c,lk l f=some c->Gb.Ok tyU Tryz.prog f c∧E2 Tryz.prog f):XF rl s N js (xF s G O N spl pre post js rl):=xok Aqp B22 hΓ hov Apo
abbrev OkF (f:FuncId)(c:Gb tyU):Prop:=Gb.Ok tyU Tryz.prog f c∧E2 Tryz.prog f
abbrev CF (rl:List ResultVar)(s:Sig)(N:Nat)(js:List Nat)(c:Code)(B:Λt tyU s)(p:Nat)(f:SS Ah->Rt s):Prop:=Cut tyU tab Tryz.prog rl s N js c B p f
abbrev EqF (s:Sig)(x:Ox tyU (Au tyU s.codes))(c:Code)(m:Wk tyU s.ps (Rt s)):Prop:=Uy tyU tab x c s.ps 0 [] [] m
abbrev AtL{s:Sig}{h:E5}(x:Λt tyU s->Λt tyU s->Ox tyU (Au tyU s.codes))(L:Nat->Λt tyU s)(B:Λt tyU s)(c:Code)(p:Nat)(M:Nat->CT h s):Prop:= ∀n q,M (n+1) q=Aff tyU tab (x (L n) ((p,ar h (M n))::B)) c (2*p) (h.emb tyU q)
abbrev AtJ{s:Sig}{h:E5}(x:Λt tyU s->Λt tyU s->Ox tyU (Au tyU s.codes))(L B:Λt tyU s)(c:Code)(p:Nat)(M:CT h s):Prop:= ∀q,M q=Aff tyU tab (x L B) c (2*p+1) (h.emb tyU q)
theorem Aeg{rl:List ResultVar}{s:Sig}{N:Nat}{js:List Nat}{x:Λt tyU s->Λt tyU s->Ox tyU (Au tyU s.codes)}{c:Code}{L:Nat->Λt tyU s}{B:Λt tyU s}{p:Nat}{h:E5}{M:Nat->CT h s}(hx:XF rl s N js x)(e:AtL x L B c p M)(hc: ∀n,Vs tyU tab Tryz.prog rl s N js c ((p,ar h (M n))::B) (L n))(n:Nat)(hp:Nat.ble 1 p=true:=by rfl)(hk:Tc js c p=true:=by kernel_rfl)(e0: ∀q,M 0 q=none:=by intro q;rfl):CF rl s N js c B p (ar h (M n)):=Amn hx hp hk e0 e hc n
theorem Apg{rl:List ResultVar}{s:Sig}{N:Nat}{js:List Nat}{x:Λt tyU s->Λt tyU s->Ox tyU (Au tyU s.codes)}{c:Code}{L B:Λt tyU s}{p:Nat}{h:E5}{M:CT h s}(hx:XF rl s N js x)(e:AtJ x L B c p M)(hc:Vs tyU tab Tryz.prog rl s N js c B L)(hp:Nat.ble 1 p=true:=by rfl):CF rl s N js c B p (ar h M):=Amm hx hp e hc
theorem Aa6{rl:List ResultVar}{s:Sig}{N:Nat}{js:List Nat}{x:Λt tyU s->Λt tyU s->Ox tyU (Au tyU s.codes)}{c0:Code}(hx:XF rl s N js x){L:Λt tyU s}{f:FuncId}{fn:Func}{m:Wk tyU s.ps (Rt s)}(e:EqF s (x L []) c0 m)(hc:Vs tyU tab Tryz.prog rl s N js c0 [] L)(hf:Tryz.prog.funcs[f]? =some fn)(hs:W8 tyU s.ps)(h1:(fn.name== "runtime.NumGoroutine")=false:=by rfl)(h2:fn.body=some c0:=by rfl)(h3:fn.results=rl.toArray:=by rfl)(h4:fn.ntmps=N:=by rfl)(h5:Nat.ble s.ps.length N=true:=by rfl)(h6:Nat.ble (A8 s.ps+1) 100=true:=by rfl)(h7:Nat.ble rl.length 4=true:=by rfl):OkF f ⟨s,m⟩:=Ao1 hx Apn e hc hf h1 h2 h3 h4 h5 h6 h7 hs
def Au0 (K:Nat)(a0:List Int)(a1:Int):Option (Int):=(bif (decide ((Aob .i64 a1 (a0.length:Int))<0))then some (-1)else some (Aob .i64 a1 (a0.length:Int)))
def s_0:Sig:=⟨[.v 22,.v 3],[.v 3],true⟩
def c_0 (K:Nat):Gb tyU:=⟨s_0,Au0 K⟩
def x_0 (K:Nat):=xF s_0 [] [] 12 [] [] [] [] [.tmp 4]
theorem B23 (K:Nat):OkF 127 (c_0 K):=
 Aa6 (x:=x_0 K) (L:=[]) (c0:=bd Tryz.f127) (xkF gN oN) (by intro a0 a1;show @Eq _ _ _;kernel_rfl) kN Tryz.func127 trivial
def Aok (K:Nat)(a0:List Int)(a1:Int):Option (Int):=(bif (decide ((Aob .i64 a1 (a0.length:Int))<0))then some (-1)else some (Aob .i64 a1 (a0.length:Int)))
def s_1:Sig:=⟨[.v 26,.v 3],[.v 3],true⟩
def c_1 (K:Nat):Gb tyU:=⟨s_1,Aok K⟩
def x_1 (K:Nat):=xF s_1 [] [] 12 [] [] [] [] [.tmp 4]
theorem Bl0 (K:Nat):OkF 63 (c_1 K):=
 Aa6 (x:=x_1 K) (L:=[]) (c0:=bd Tryz.f63) (xkF gN oN) (by intro a0 a1;show @Eq _ _ _;kernel_rfl) kN Tryz.func63 trivial
def Ats (K:Nat)(a0:Dx)(a1:Int):Option (Int):=((Au0 K a0.Fy a1).bind fun r1=>(bif (decide (r1<0))then some (-1)else((Aok K a0.Hh r1).bind fun r2=>(bif (decide (r2<0))then some (-1)else((Aok K a0.Fz r2).bind fun r3=>(bif (decide (r3<0))then some (-1)else some r3))))))
def s_2:Sig:=⟨[.v 48,.v 3],[.v 3],true⟩
def c_2 (K:Nat):Gb tyU:=⟨s_2,Ats K⟩
def x_2 (K:Nat):=xF s_2 [(63,c_1 K),(127,c_0 K)] [] 24 [] [] [] [] [.tmp 4]
theorem B24 (K:Nat):OkF 60 (c_2 K):=
 Aa6 (x:=x_2 K) (L:=[]) (c0:=bd Tryz.f60) (xkF (gC (Bl0 K) (gC (B23 K) gN)) oN) (by intro a0 a1;show @Eq _ _ _;kernel_rfl) kN Tryz.func60 trivial
def At2 (K:Nat)(a0:List Bb)(a1:Int):Option (Int):=(bif (decide ((Aob .i64 a1 (a0.length:Int))<0))then some (-1)else some (Aob .i64 a1 (a0.length:Int)))
def s_3:Sig:=⟨[.v 152,.v 3],[.v 3],true⟩
def c_3 (K:Nat):Gb tyU:=⟨s_3,At2 K⟩
def x_3 (K:Nat):=xF s_3 [] [] 12 [] [] [] [] [.tmp 4]
theorem B25 (K:Nat):OkF 200 (c_3 K):=
 Aa6 (x:=x_3 K) (L:=[]) (c0:=bd Tryz.f200) (xkF gN oN) (by intro a0 a1;show @Eq _ _ _;kernel_rfl) kN Tryz.func200 trivial
def Aqa (K:Nat)(a0:Bc)(a1:Int):Option (Int):=((Aok K a0.Ae a1).bind fun r1=>(bif (decide (r1<0))then some (-1)else((At2 K a0.Ea r1).bind fun r2=>(bif (decide (r2<0))then some (-1)else((Aok K a0.Dg r2).bind fun r3=>(bif (decide (r3<0))then some (-1)else some r3))))))
def s_4:Sig:=⟨[.v 154,.v 3],[.v 3],true⟩
def c_4 (K:Nat):Gb tyU:=⟨s_4,Aqa K⟩
def x_4 (K:Nat):=xF s_4 [(63,c_1 K),(200,c_3 K)] [] 24 [] [] [] [] [.tmp 4]
theorem B26 (K:Nat):OkF 128 (c_4 K):=
 Aa6 (x:=x_4 K) (L:=[]) (c0:=bd Tryz.f128) (xkF (gC (Bl0 K) (gC (B25 K) gN)) oN) (by intro a0 a1;show @Eq _ _ _;kernel_rfl) kN Tryz.func128 trivial
def Aqc (K:Nat)(a0:List Bc):Nat->Int->Int->Option (Int)
 |0,_,_=>none
 |n1+1,v1,v2=>(bif (decide (v2<(a0.length:Int)))then(if(0:Int)≤v2∧v2<(a0.length:Int)then((Aqa K (gt a0 v2) v1).bind fun r3=>(bif (decide (r3<0))then some (-1)else(Aqc K a0 n1 r3 (Aoa .i64 v2 1))))else none)else some v1)
def Ass (K:Nat)(a0:List Bc)(a1:Int):Option (Int):=(bif (decide ((Aob .i64 a1 (a0.length:Int))<0))then some (-1)else(Aqc K a0 K (Aob .i64 a1 (a0.length:Int)) 0))
def s_5:Sig:=⟨[.v 49,.v 3],[.v 3],true⟩
def c_5 (K:Nat):Gb tyU:=⟨s_5,Ass K⟩
def x_5 (K:Nat):=xF s_5 [(128,c_4 K)] [] 27 [] [] [] [] [.tmp 4]
def A7e:E5:=⟨[(0,.v 49),(1,.v 2),(5,.v 2)],[]⟩
def A7f (K:Nat)(n:Nat)(q:PT A7e):Rt s_5:=Aqc K q.1 n q.2.1 q.2.2.1
theorem Bl1 (K:Nat):AtL (x_5 K) (fun n=>[]) [] (bd Tryz.f61) 122 (A7f K):=fun n q=>by kernel_rfl
theorem Bwr (K:Nat):XF [.tmp 4] s_5 27 [] (x_5 K):=xkF (gC (B26 K) gN) oN
theorem Bl2 (K:Nat)(n:Nat):CF [.tmp 4] s_5 27 [] (bd Tryz.f61) [] 122 (ar A7e (A7f K n)):=
 Aeg (Bwr K) (Bl1 K) (fun n=>kN) n
theorem B28 (K:Nat):OkF 61 (c_5 K):=
 Aa6 (x:=x_5 K) (L:=[(122,ar A7e (A7f K K))]) (c0:=bd Tryz.f61) (Bwr K) (by intro a0 a1;show @Eq _ _ _;kernel_rfl) (kC (Bl2 K K) kN) Tryz.func61 trivial
def Apv (K:Nat)(a0:Ay)(a1:Int):Option (Int):=((Aok K a0.Dg a1).bind fun r1=>(bif (decide (r1<0))then some (-1)else((Aok K a0.Ae r1).bind fun r2=>(bif (decide (r2<0))then some (-1)else some r2))))
def s_6:Sig:=⟨[.v 157,.v 3],[.v 3],true⟩
def c_6 (K:Nat):Gb tyU:=⟨s_6,Apv K⟩
def x_6 (K:Nat):=xF s_6 [(63,c_1 K)] [] 18 [] [] [] [] [.tmp 4]
theorem B29 (K:Nat):OkF 129 (c_6 K):=
 Aa6 (x:=x_6 K) (L:=[]) (c0:=bd Tryz.f129) (xkF (gC (Bl0 K) gN) oN) (by intro a0 a1;show @Eq _ _ _;kernel_rfl) kN Tryz.func129 trivial
def Apy (K:Nat)(a0:List Ay):Nat->Int->Int->Option (Int)
 |0,_,_=>none
 |n1+1,v1,v2=>(bif (decide (v2<(a0.length:Int)))then(if(0:Int)≤v2∧v2<(a0.length:Int)then((Apv K (gt a0 v2) v1).bind fun r3=>(bif (decide (r3<0))then some (-1)else(Apy K a0 n1 r3 (Aoa .i64 v2 1))))else none)else some v1)
def Ar4 (K:Nat)(a0:List Ay)(a1:Int):Option (Int):=(bif (decide ((Aob .i64 a1 (a0.length:Int))<0))then some (-1)else(Apy K a0 K (Aob .i64 a1 (a0.length:Int)) 0))
def s_7:Sig:=⟨[.v 50,.v 3],[.v 3],true⟩
def c_7 (K:Nat):Gb tyU:=⟨s_7,Ar4 K⟩
def x_7 (K:Nat):=xF s_7 [(129,c_6 K)] [] 27 [] [] [] [] [.tmp 4]
def A7g:E5:=⟨[(0,.v 50),(1,.v 2),(5,.v 2)],[]⟩
def A7h (K:Nat)(n:Nat)(q:PT A7g):Rt s_7:=Apy K q.1 n q.2.1 q.2.2.1
theorem Bl3 (K:Nat):AtL (x_7 K) (fun n=>[]) [] (bd Tryz.f62) 122 (A7h K):=fun n q=>by kernel_rfl
theorem Bws (K:Nat):XF [.tmp 4] s_7 27 [] (x_7 K):=xkF (gC (B29 K) gN) oN
theorem Bl4 (K:Nat)(n:Nat):CF [.tmp 4] s_7 27 [] (bd Tryz.f62) [] 122 (ar A7g (A7h K n)):=
 Aeg (Bws K) (Bl3 K) (fun n=>kN) n
theorem B3b (K:Nat):OkF 62 (c_7 K):=
 Aa6 (x:=x_7 K) (L:=[(122,ar A7g (A7h K K))]) (c0:=bd Tryz.f62) (Bws K) (by intro a0 a1;show @Eq _ _ _;kernel_rfl) (kC (Bl4 K K) kN) Tryz.func62 trivial
def Aqg (K:Nat)(a0:Ec)(a1:Int):Option (Int):=((Ats K a0.fP a1).bind fun r1=>(bif (decide (r1<0))then some (-1)else((Ass K a0.fL r1).bind fun r2=>(bif (decide (r2<0))then some (-1)else((Ar4 K a0.fQ r2).bind fun r3=>(bif (decide (r3<0))then some (-1)else((Aok K a0.Pr r3).bind fun r4=>(bif (decide (r4<0))then some (-1)else some r4))))))))
def s_8:Sig:=⟨[.v 52,.v 3],[.v 3],true⟩
def c_8 (K:Nat):Gb tyU:=⟨s_8,Aqg K⟩
def x_8 (K:Nat):=xF s_8 [(60,c_2 K),(61,c_5 K),(62,c_7 K),(63,c_1 K)] [] 30 [] [] [] [] [.tmp 4]
theorem B3c (K:Nat):OkF 18 (c_8 K):=
 Aa6 (x:=x_8 K) (L:=[]) (c0:=bd Tryz.f18) (xkF (gC (B24 K) (gC (B28 K) (gC (B3b K) (gC (Bl0 K) gN)))) oN) (by intro a0 a1;show @Eq _ _ _;kernel_rfl) kN Tryz.func18 trivial
def Av7 (K:Nat)(a0:Es):Option (Er):=some (Er.mk a0.Ae a0.Eg a0.C0 a0.E9 a0.C1 a0.Eh)
def s_9:Sig:=⟨[.v 47],[.v 25],true⟩
def c_9 (K:Nat):Gb tyU:=⟨s_9,Av7 K⟩
def x_9 (K:Nat):=xF s_9 [] [] 23 [] [] [] [] [.cell 2 25]
theorem Bwt (K:Nat):OkF 65 (c_9 K):=
 Aa6 (x:=x_9 K) (L:=[]) (c0:=bd Tryz.f65) (xkF gN oN) (by intro a0;show @Eq _ _ _;kernel_rfl) kN Tryz.func65 trivial
def As9 (K:Nat)(a0:List Int):Nat->(List Int)->Int->Option ((List Int))
 |0,_,_=>none
 |n1+1,v1,v2=>(bif (decide (v2<(a0.length:Int)))then(if(0:Int)≤v2∧v2<(a0.length:Int)then(if(0:Int)≤v2∧v2<(v1.length:Int)then(As9 K a0 n1 (v1.set v2.toNat (gt a0 v2)) (Aoa .i64 v2 1))else none)else none)else some v1)
def Au1 (K:Nat)(a0:List Int):Option ((List Int)):=(if(0:Int)≤(a0.length:Int)∧(a0.length:Int)≤(a0.length:Int)∧(1:Int)*(a0.length:Int)≤281474976710656∧(a0.length:Int)≤9223372036854775807 then(As9 K a0 K (List.replicate (a0.length:Int).toNat 0) 0)else none)
def s_10:Sig:=⟨[.v 22],[.n 22 true],true⟩
def Bwu (K:Nat):Gb tyU:=⟨s_10,Au1 K⟩
def Btc (K:Nat):=xF s_10 [] [] 22 [] [] [] [] [.tmp 2]
def A7i:E5:=⟨[(0,.v 22),(3,.o 1003 5 true),(4,.v 2)],[]⟩
def A7j (K:Nat)(n:Nat)(q:PT A7i):Rt s_10:=As9 K q.1 n q.2.1 q.2.2.1
theorem Bl5 (K:Nat):AtL (Btc K) (fun n=>[]) [] (bd Tryz.f46) 58 (A7j K):=fun n q=>by kernel_rfl
theorem Bo6 (K:Nat):XF [.tmp 2] s_10 22 [] (Btc K):=xkF gN oN
theorem Bl6 (K:Nat)(n:Nat):CF [.tmp 2] s_10 22 [] (bd Tryz.f46) [] 58 (ar A7i (A7j K n)):=
 Aeg (Bo6 K) (Bl5 K) (fun n=>kN) n
theorem Bwv (K:Nat):OkF 46 (Bwu K):=
 Aa6 (x:=Btc K) (L:=[(58,ar A7i (A7j K K))]) (c0:=bd Tryz.f46) (Bo6 K) (by intro a0;show @Eq _ _ _;kernel_rfl) (kC (Bl6 K K) kN) Tryz.func46 trivial
def At3 (K:Nat)(a0:List Int):Nat->(List Int)->Int->Option ((List Int))
 |0,_,_=>none
 |n1+1,v1,v2=>(bif (decide (v2<(a0.length:Int)))then(if(0:Int)≤v2∧v2<(a0.length:Int)then(if(0:Int)≤v2∧v2<(v1.length:Int)then(At3 K a0 n1 (v1.set v2.toNat (gt a0 v2)) (Aoa .i64 v2 1))else none)else none)else some v1)
def Ang (K:Nat)(a0:List Int):Option ((List Int)):=(if(0:Int)≤(a0.length:Int)∧(a0.length:Int)≤(a0.length:Int)∧(8:Int)*(a0.length:Int)≤281474976710656∧(a0.length:Int)≤9223372036854775807 then(At3 K a0 K (List.replicate (a0.length:Int).toNat 0) 0)else none)
def s_11:Sig:=⟨[.v 26],[.n 26 true],true⟩
def Bdx (K:Nat):Gb tyU:=⟨s_11,Ang K⟩
def Btd (K:Nat):=xF s_11 [] [] 22 [] [] [] [] [.tmp 2]
def A7k:E5:=⟨[(0,.v 26),(3,.o 1003 3 true),(4,.v 2)],[]⟩
def A7l (K:Nat)(n:Nat)(q:PT A7k):Rt s_11:=At3 K q.1 n q.2.1 q.2.2.1
theorem Bl7 (K:Nat):AtL (Btd K) (fun n=>[]) [] (bd Tryz.f69) 58 (A7l K):=fun n q=>by kernel_rfl
theorem Bo7 (K:Nat):XF [.tmp 2] s_11 22 [] (Btd K):=xkF gN oN
theorem Bl8 (K:Nat)(n:Nat):CF [.tmp 2] s_11 22 [] (bd Tryz.f69) [] 58 (ar A7k (A7l K n)):=
 Aeg (Bo7 K) (Bl7 K) (fun n=>kN) n
theorem A97 (K:Nat):OkF 69 (Bdx K):=
 Aa6 (x:=Btd K) (L:=[(58,ar A7k (A7l K K))]) (c0:=bd Tryz.f69) (Bo7 K) (by intro a0;show @Eq _ _ _;kernel_rfl) (kC (Bl8 K K) kN) Tryz.func69 trivial
def Av8 (K:Nat)(a0:Dx):Option (Dw):=((Au1 K a0.Fy).bind fun r1=>((Ang K a0.Hh).bind fun r2=>((Ang K a0.Fz).bind fun r3=>some (Dw.mk r1 r2 r3))))
def Bww:Sig:=⟨[.v 48],[.n 28 true],true⟩
def Bte (K:Nat):Gb tyU:=⟨Bww,Av8 K⟩
def B3e (K:Nat):=xF Bww [(46,Bwu K),(69,Bdx K)] [] 17 [] [] [] [] [.cell 2 28]
theorem Bo8 (K:Nat):OkF 66 (Bte K):=
 Aa6 (x:=B3e K) (L:=[]) (c0:=bd Tryz.f66) (xkF (gC (Bwv K) (gC (A97 K) gN)) oN) (by intro a0;show @Eq _ _ _;kernel_rfl) kN Tryz.func66 trivial
def Axe (K:Nat)(a0:Bb):Option (A9):=some (A9.mk a0.fAt a0.Vu a0.Vv)
def Bwx:Sig:=⟨[.v 222],[.v 89],true⟩
def Bwy (K:Nat):Gb tyU:=⟨Bwx,Axe K⟩
def B3f (K:Nat):=xF Bwx [] [] 14 [] [] [] [] [.cell 2 89]
theorem Bwz (K:Nat):OkF 260 (Bwy K):=
 Aa6 (x:=B3f K) (L:=[]) (c0:=bd Tryz.f260) (xkF gN oN) (by intro a0;show @Eq _ _ _;kernel_rfl) kN Tryz.func260 trivial
def Asg (K:Nat)(a0:List Bb):Nat->(List A9)->Int->Option ((List A9))
 |0,_,_=>none
 |n1+1,v1,v2=>(bif (decide (v2<(a0.length:Int)))then(if(0:Int)≤v2∧v2<(a0.length:Int)then((Axe K (gt a0 v2)).bind fun r3=>(if(0:Int)≤v2∧v2<(v1.length:Int)then(Asg K a0 n1 (v1.set v2.toNat r3) (Aoa .i64 v2 1))else none))else none)else some v1)
def At4 (K:Nat)(a0:List Bb):Option ((List A9)):=(if(0:Int)≤(a0.length:Int)∧(a0.length:Int)≤(a0.length:Int)∧(24:Int)*(a0.length:Int)≤281474976710656∧(a0.length:Int)≤9223372036854775807 then(Asg K a0 K (List.replicate (a0.length:Int).toNat (A9.mk 0 0 0)) 0)else none)
def s_14:Sig:=⟨[.v 152],[.n 41 true],true⟩
def Bw0 (K:Nat):Gb tyU:=⟨s_14,At4 K⟩
def Btf (K:Nat):=xF s_14 [(260,Bwy K)] [] 23 [] [] [] [] [.tmp 2]
def A7m:E5:=⟨[(0,.v 152),(3,.o 1003 89 true),(4,.v 2)],[]⟩
def A7n (K:Nat)(n:Nat)(q:PT A7m):Rt s_14:=Asg K q.1 n q.2.1 q.2.2.1
theorem Bl9 (K:Nat):AtL (Btf K) (fun n=>[]) [] (bd Tryz.f204) 58 (A7n K):=fun n q=>by kernel_rfl
theorem Bo9 (K:Nat):XF [.tmp 2] s_14 23 [] (Btf K):=xkF (gC (Bwz K) gN) oN
theorem Bma (K:Nat)(n:Nat):CF [.tmp 2] s_14 23 [] (bd Tryz.f204) [] 58 (ar A7m (A7n K n)):=
 Aeg (Bo9 K) (Bl9 K) (fun n=>kN) n
theorem Bw1 (K:Nat):OkF 204 (Bw0 K):=
 Aa6 (x:=Btf K) (L:=[(58,ar A7m (A7n K K))]) (c0:=bd Tryz.f204) (Bo9 K) (by intro a0;show @Eq _ _ _;kernel_rfl) (kC (Bma K K) kN) Tryz.func204 trivial
def Att (K:Nat)(a0:Bc):Option (Ba):=((Ang K a0.Ae).bind fun r1=>((At4 K a0.Ea).bind fun r2=>((Ang K a0.Dg).bind fun r3=>some (Ba.mk a0.Hh a0.C2 a0.Ly a0.fUp a0.Gq a0.Bt a0.Gr a0.Gs r1 a0.Pq a0.Gt r2 r3))))
def Bw2:Sig:=⟨[.v 154],[.n 44 true],true⟩
def Bw3 (K:Nat):Gb tyU:=⟨Bw2,Att K⟩
def B3g (K:Nat):=xF Bw2 [(69,Bdx K),(204,Bw0 K)] [] 47 [] [] [] [] [.cell 2 44]
theorem Bw4 (K:Nat):OkF 131 (Bw3 K):=
 Aa6 (x:=B3g K) (L:=[]) (c0:=bd Tryz.f131) (xkF (gC (A97 K) (gC (Bw1 K) gN)) oN) (by intro a0;show @Eq _ _ _;kernel_rfl) kN Tryz.func131 trivial
def Ata (K:Nat)(a0:List Bc):Nat->(List Ba)->Int->Option ((List Ba))
 |0,_,_=>none
 |n1+1,v1,v2=>(bif (decide (v2<(a0.length:Int)))then(if(0:Int)≤v2∧v2<(a0.length:Int)then((Att K (gt a0 v2)).bind fun r3=>(if(0:Int)≤v2∧v2<(v1.length:Int)then(Ata K a0 n1 (v1.set v2.toNat r3) (Aoa .i64 v2 1))else none))else none)else some v1)
def Ast (K:Nat)(a0:List Bc):Option ((List Ba)):=(if(0:Int)≤(a0.length:Int)∧(a0.length:Int)≤(a0.length:Int)∧(152:Int)*(a0.length:Int)≤281474976710656∧(a0.length:Int)≤9223372036854775807 then(Ata K a0 K (List.replicate (a0.length:Int).toNat (Ba.mk 0 0 0 0 0 0 0 0 [] 0 0 [] [])) 0)else none)
def s_16:Sig:=⟨[.v 49],[.n 29 true],true⟩
def Btg (K:Nat):Gb tyU:=⟨s_16,Ast K⟩
def Bth (K:Nat):=xF s_16 [(131,Bw3 K)] [] 23 [] [] [] [] [.tmp 2]
def A7o:E5:=⟨[(0,.v 49),(3,.o 1003 44 true),(4,.v 2)],[]⟩
def A7p (K:Nat)(n:Nat)(q:PT A7o):Rt s_16:=Ata K q.1 n q.2.1 q.2.2.1
theorem Bmb (K:Nat):AtL (Bth K) (fun n=>[]) [] (bd Tryz.f67) 58 (A7p K):=fun n q=>by kernel_rfl
theorem Bpa (K:Nat):XF [.tmp 2] s_16 23 [] (Bth K):=xkF (gC (Bw4 K) gN) oN
theorem Bmc (K:Nat)(n:Nat):CF [.tmp 2] s_16 23 [] (bd Tryz.f67) [] 58 (ar A7o (A7p K n)):=
 Aeg (Bpa K) (Bmb K) (fun n=>kN) n
theorem Bpb (K:Nat):OkF 67 (Btg K):=
 Aa6 (x:=Bth K) (L:=[(58,ar A7o (A7p K K))]) (c0:=bd Tryz.f67) (Bpa K) (by intro a0;show @Eq _ _ _;kernel_rfl) (kC (Bmc K K) kN) Tryz.func67 trivial
def Asu (K:Nat)(a0:Ay):Option (Ax):=((Ang K a0.Dg).bind fun r1=>((Ang K a0.Ae).bind fun r2=>some (Ax.mk a0.A5 a0.Bt r1 r2 a0.Gu)))
def Bw5:Sig:=⟨[.v 157],[.n 159 true],true⟩
def Bw6 (K:Nat):Gb tyU:=⟨Bw5,Asu K⟩
def B3h (K:Nat):=xF Bw5 [(69,Bdx K)] [] 22 [] [] [] [] [.cell 2 159]
theorem Bw7 (K:Nat):OkF 132 (Bw6 K):=
 Aa6 (x:=B3h K) (L:=[]) (c0:=bd Tryz.f132) (xkF (gC (A97 K) gN) oN) (by intro a0;show @Eq _ _ _;kernel_rfl) kN Tryz.func132 trivial
def Ash (K:Nat)(a0:List Ay):Nat->(List Ax)->Int->Option ((List Ax))
 |0,_,_=>none
 |n1+1,v1,v2=>(bif (decide (v2<(a0.length:Int)))then(if(0:Int)≤v2∧v2<(a0.length:Int)then((Asu K (gt a0 v2)).bind fun r3=>(if(0:Int)≤v2∧v2<(v1.length:Int)then(Ash K a0 n1 (v1.set v2.toNat r3) (Aoa .i64 v2 1))else none))else none)else some v1)
def Ar5 (K:Nat)(a0:List Ay):Option ((List Ax)):=(if(0:Int)≤(a0.length:Int)∧(a0.length:Int)≤(a0.length:Int)∧(72:Int)*(a0.length:Int)≤281474976710656∧(a0.length:Int)≤9223372036854775807 then(Ash K a0 K (List.replicate (a0.length:Int).toNat (Ax.mk 0 0 [] [] 0)) 0)else none)
def s_18:Sig:=⟨[.v 50],[.n 30 true],true⟩
def Bti (K:Nat):Gb tyU:=⟨s_18,Ar5 K⟩
def Btj (K:Nat):=xF s_18 [(132,Bw6 K)] [] 23 [] [] [] [] [.tmp 2]
def A7q:E5:=⟨[(0,.v 50),(3,.o 1003 159 true),(4,.v 2)],[]⟩
def A7r (K:Nat)(n:Nat)(q:PT A7q):Rt s_18:=Ash K q.1 n q.2.1 q.2.2.1
theorem Bmd (K:Nat):AtL (Btj K) (fun n=>[]) [] (bd Tryz.f68) 58 (A7r K):=fun n q=>by kernel_rfl
theorem Bpc (K:Nat):XF [.tmp 2] s_18 23 [] (Btj K):=xkF (gC (Bw7 K) gN) oN
theorem Bme (K:Nat)(n:Nat):CF [.tmp 2] s_18 23 [] (bd Tryz.f68) [] 58 (ar A7q (A7r K n)):=
 Aeg (Bpc K) (Bmd K) (fun n=>kN) n
theorem Bpd (K:Nat):OkF 68 (Bti K):=
 Aa6 (x:=Btj K) (L:=[(58,ar A7q (A7r K K))]) (c0:=bd Tryz.f68) (Bpc K) (by intro a0;show @Eq _ _ _;kernel_rfl) (kC (Bme K K) kN) Tryz.func68 trivial
def Ard (K:Nat)(a0:Ec):Option (Eb):=((Av7 K a0.fC).bind fun r1=>((Av8 K a0.fP).bind fun r2=>((Ast K a0.fL).bind fun r3=>((Ar5 K a0.fQ).bind fun r4=>((Ang K a0.Pr).bind fun r5=>some (Eb.mk r1 r2 r3 r4 r5))))))
def Bw8:Sig:=⟨[.v 52],[.n 32 true],true⟩
def Bw9 (K:Nat):Gb tyU:=⟨Bw8,Ard K⟩
def B3i (K:Nat):=xF Bw8 [(65,c_9 K),(66,Bte K),(67,Btg K),(68,Bti K),(69,Bdx K)] [] 25 [] [] [] [] [.cell 2 32]
theorem Bxa (K:Nat):OkF 20 (Bw9 K):=
 Aa6 (x:=B3i K) (L:=[]) (c0:=bd Tryz.f20) (xkF (gC (Bwt K) (gC (Bo8 K) (gC (Bpb K) (gC (Bpd K) (gC (A97 K) gN))))) oN) (by intro a0;show @Eq _ _ _;kernel_rfl) kN Tryz.func20 trivial
def Ar6 (K:Nat)(a0:Dn):Option (Ct):=some (Ct.mk a0.A5 a0.C2)
def Bxb:Sig:=⟨[.v 53],[.v 34],true⟩
def Bxc (K:Nat):Gb tyU:=⟨Bxb,Ar6 K⟩
def B3j (K:Nat):=xF Bxb [] [] 11 [] [] [] [] [.cell 2 34]
theorem Bxd (K:Nat):OkF 21 (Bxc K):=
 Aa6 (x:=B3j K) (L:=[]) (c0:=bd Tryz.f21) (xkF gN oN) (by intro a0;show @Eq _ _ _;kernel_rfl) kN Tryz.func21 trivial
def Atu (K:Nat)(a0:Dw):Option (Dw):=(if(([]:List Int)++a0.Fy).length*1≤140737488355328∧(([]:List Int)++a0.Fy).length≤maxLen then(if(([]:List Int)++a0.Hh).length*8≤140737488355328∧(([]:List Int)++a0.Hh).length≤maxLen then(if(([]:List Int)++a0.Fz).length*8≤140737488355328∧(([]:List Int)++a0.Fz).length≤maxLen then some (Dw.mk (([]:List Int)++a0.Fy) (([]:List Int)++a0.Hh) (([]:List Int)++a0.Fz))else none)else none)else none)
def Bxe:Sig:=⟨[.v 28],[.n 28 true],true⟩
def Btk (K:Nat):Gb tyU:=⟨Bxe,Atu K⟩
def B3k (K:Nat):=xF Bxe [] [] 16 [] [] [] [] [.cell 2 28]
theorem Bpe (K:Nat):OkF 137 (Btk K):=
 Aa6 (x:=B3k K) (L:=[]) (c0:=bd Tryz.f137) (xkF gN oN) (by intro a0;show @Eq _ _ _;kernel_rfl) kN Tryz.func137 trivial
def Atv (K:Nat)(a0:Ba):Option (Ba):=(if(([]:List Int)++a0.Ae).length*8≤140737488355328∧(([]:List Int)++a0.Ae).length≤maxLen then(if(([]:List A9)++a0.Ea).length*24≤140737488355328∧(([]:List A9)++a0.Ea).length≤maxLen then(if(([]:List Int)++a0.Dg).length*8≤140737488355328∧(([]:List Int)++a0.Dg).length≤maxLen then some (Ba.mk a0.Hh a0.C2 a0.Ly a0.fUp a0.Gq a0.Bt a0.Gr a0.Gs (([]:List Int)++a0.Ae) a0.Pq a0.Gt (([]:List A9)++a0.Ea) (([]:List Int)++a0.Dg))else none)else none)else none)
def Bxf:Sig:=⟨[.v 44],[.n 44 true],true⟩
def Btl (K:Nat):Gb tyU:=⟨Bxf,Atv K⟩
def B3l (K:Nat):=xF Bxf [] [] 21 [] [] [] [] [.cell 2 44]
theorem Bpf (K:Nat):OkF 209 (Btl K):=
 Aa6 (x:=B3l K) (L:=[]) (c0:=bd Tryz.f209) (xkF gN oN) (by intro a0;show @Eq _ _ _;kernel_rfl) kN Tryz.func209 trivial
def Aqh (K:Nat)(a0:List Ba):Nat->(List Ba)->Int->Option ((List Ba))
 |0,_,_=>none
 |n1+1,v1,v2=>(bif (decide (v2<(a0.length:Int)))then(if(0:Int)≤v2∧v2<(a0.length:Int)then((Atv K (gt a0 v2)).bind fun r3=>(if(v1++[r3]).length*152≤140737488355328∧(v1++[r3]).length≤maxLen then(Aqh K a0 n1 (v1++[r3]) (Aoa .i64 v2 1))else none))else none)else some v1)
def Aw3 (K:Nat)(a0:List Ba):Option ((List Ba)):=(Aqh K a0 K ([]:List Ba) 0)
def s_23:Sig:=⟨[.v 29],[.n 29 true],true⟩
def Bxg (K:Nat):Gb tyU:=⟨s_23,Aw3 K⟩
def Btm (K:Nat):=xF s_23 [(209,Btl K)] [] 23 [] [] [(20,[.put 3020])] [] [.tmp 2]
def A7s:E5:=⟨[(0,.v 29),(3,.o 1003 44 true),(4,.v 2)],[]⟩
def A7t (K:Nat)(n:Nat)(q:PT A7s):Rt s_23:=Aqh K q.1 n q.2.1 q.2.2.1
theorem Bmf (K:Nat):AtL (Btm K) (fun n=>[]) [] (bd Tryz.f138) 58 (A7t K):=fun n q=>by kernel_rfl
theorem Bpg (K:Nat):XF [.tmp 2] s_23 23 [] (Btm K):=xkF (gC (Bpf K) gN) oN
theorem Bmg (K:Nat)(n:Nat):CF [.tmp 2] s_23 23 [] (bd Tryz.f138) [] 58 (ar A7s (A7t K n)):=
 Aeg (Bpg K) (Bmf K) (fun n=>kN) n
theorem Bxh (K:Nat):OkF 138 (Bxg K):=
 Aa6 (x:=Btm K) (L:=[(58,ar A7s (A7t K K))]) (c0:=bd Tryz.f138) (Bpg K) (by intro a0;show @Eq _ _ _;kernel_rfl) (kC (Bmg K K) kN) Tryz.func138 trivial
def Au2 (K:Nat)(a0:Ax):Option (Ax):=(if(([]:List Int)++a0.Dg).length*8≤140737488355328∧(([]:List Int)++a0.Dg).length≤maxLen then(if(([]:List Int)++a0.Ae).length*8≤140737488355328∧(([]:List Int)++a0.Ae).length≤maxLen then some (Ax.mk a0.A5 a0.Bt (([]:List Int)++a0.Dg) (([]:List Int)++a0.Ae) a0.Gu)else none)else none)
def Bxi:Sig:=⟨[.v 159],[.n 159 true],true⟩
def Bxj (K:Nat):Gb tyU:=⟨Bxi,Au2 K⟩
def B3m (K:Nat):=xF Bxi [] [] 16 [] [] [] [] [.cell 2 159]
theorem Bxk (K:Nat):OkF 139 (Bxj K):=
 Aa6 (x:=B3m K) (L:=[]) (c0:=bd Tryz.f139) (xkF gN oN) (by intro a0;show @Eq _ _ _;kernel_rfl) kN Tryz.func139 trivial
def Apq (K:Nat):Nat->Int->Int->Int->Int->Int->Int->Int->(List Int)->(List Int)->(List Int)->(List Ba)->(List Ax)->(List Int)->Eb->Int->Int->Int->Int->Int->Int->(List Int)->(List Int)->(List Int)->(List Ba)->(List Ax)->(List Int)->Option (Eb)
 |0,_,_,_,_,_,_,_,_,_,_,_,_,_,_,_,_,_,_,_,_,_,_,_,_,_,_=>none
 |n1+1,v3,v4,v5,v6,v7,v8,v9,v10,v11,v12,v13,v14,v15,v16,v17,v18,v19,v20,v21,v22,v23,v24,v25,v26,v27,v28=>(bif (decide (v3<(v27.length:Int)))then(if(0:Int)≤v3∧v3<(v27.length:Int)then((Au2 K (gt v27 v3)).bind fun r29=>(if(v14++[r29]).length*72≤140737488355328∧(v14++[r29]).length≤maxLen then(Apq K n1 (Aoa .i64 v3 1) v4 v5 v6 v7 v8 v9 v10 v11 v12 v13 (v14++[r29]) v15 v16 v17 v18 v19 v20 v21 v22 v23 v24 v25 v26 v27 v28)else none))else none)else(if(([]:List Int)++v28).length*8≤140737488355328∧(([]:List Int)++v28).length≤maxLen then some (Eb.mk (Er.mk v4 v5 v6 v7 v8 v9) (Dw.mk v10 v11 v12) v13 v14 (([]:List Int)++v28))else none))
def Au3 (K:Nat)(a0:Eb):Option (Eb):=((Atu K a0.fP).bind fun r1=>((Aw3 K a0.fL).bind fun r2=>(Apq K K 0 a0.fC.Ae a0.fC.Eg a0.fC.C0 a0.fC.E9 a0.fC.C1 a0.fC.Eh r1.Fy r1.Hh r1.Fz r2 ([]:List Ax) a0.Pr (Eb.mk (Er.mk 0 0 0 0 0 0) (Dw.mk [] [] []) [] [] []) a0.fC.Ae a0.fC.Eg a0.fC.C0 a0.fC.E9 a0.fC.C1 a0.fC.Eh a0.fP.Fy a0.fP.Hh a0.fP.Fz a0.fL a0.fQ a0.Pr)))
def s_25:Sig:=⟨[.v 32],[.n 32 true],true⟩
def Bxl (K:Nat):Gb tyU:=⟨s_25,Au3 K⟩
def Btn (K:Nat):=xF s_25 [(137,Btk K),(138,Bxg K),(139,Bxj K)] [] 42 [] [(9,[.take 103 10 6658]),(11,[.take 103 6 6654,.take 103 7 6655,.take 103 8 6656,.take 103 9 6657,.take 103 10 6658])] [(33,[.put 3033])] [] [.cell 2 32]
def A24:E5:=⟨[(1,.p 101),(2,.p 102),(3,.p 103),(4,.v 2)],[(103,.box [.v 2,.v 2,.v 2,.v 2,.v 2,.v 2,.T 5 true,.T 3 true,.T 3 true,.T 44 true,.T 159 true,.v 26]),(102,.st 32 true),(101,.box [.v 2,.v 2,.v 2,.v 2,.v 2,.v 2,.v 22,.v 26,.v 26,.v 29,.v 30,.v 26])]⟩
def A25 (K:Nat)(n:Nat)(q:PT A24):Rt s_25:=Apq K n q.1 q.2.1 q.2.2.1 q.2.2.2.1 q.2.2.2.2.1 q.2.2.2.2.2.1 q.2.2.2.2.2.2.1 q.2.2.2.2.2.2.2.1 q.2.2.2.2.2.2.2.2.1 q.2.2.2.2.2.2.2.2.2.1 q.2.2.2.2.2.2.2.2.2.2.1 q.2.2.2.2.2.2.2.2.2.2.2.1 q.2.2.2.2.2.2.2.2.2.2.2.2.1 q.2.2.2.2.2.2.2.2.2.2.2.2.2.1 q.2.2.2.2.2.2.2.2.2.2.2.2.2.2.1 q.2.2.2.2.2.2.2.2.2.2.2.2.2.2.2.1 q.2.2.2.2.2.2.2.2.2.2.2.2.2.2.2.2.1 q.2.2.2.2.2.2.2.2.2.2.2.2.2.2.2.2.2.1 q.2.2.2.2.2.2.2.2.2.2.2.2.2.2.2.2.2.2.1 q.2.2.2.2.2.2.2.2.2.2.2.2.2.2.2.2.2.2.2.1 q.2.2.2.2.2.2.2.2.2.2.2.2.2.2.2.2.2.2.2.2.1 q.2.2.2.2.2.2.2.2.2.2.2.2.2.2.2.2.2.2.2.2.2.1 q.2.2.2.2.2.2.2.2.2.2.2.2.2.2.2.2.2.2.2.2.2.2.1 q.2.2.2.2.2.2.2.2.2.2.2.2.2.2.2.2.2.2.2.2.2.2.2.1 q.2.2.2.2.2.2.2.2.2.2.2.2.2.2.2.2.2.2.2.2.2.2.2.2.1 q.2.2.2.2.2.2.2.2.2.2.2.2.2.2.2.2.2.2.2.2.2.2.2.2.2.1
theorem Bf5 (K:Nat):AtL (Btn K) (fun n=>[]) [] (bd Tryz.f82) 506 (A25 K):=fun n q=>by kernel_rfl
theorem Bph (K:Nat):XF [.cell 2 32] s_25 42 [] (Btn K):=xkF (gC (Bpe K) (gC (Bxh K) (gC (Bxk K) gN))) oN
theorem Bf6 (K:Nat)(n:Nat):CF [.cell 2 32] s_25 42 [] (bd Tryz.f82) [] 506 (ar A24 (A25 K n)):=
 Aeg (Bph K) (Bf5 K) (fun n=>kN) n
theorem Bxm (K:Nat):OkF 82 (Bxl K):=
 Aa6 (x:=Btn K) (L:=[(506,ar A24 (A25 K K))]) (c0:=bd Tryz.f82) (Bph K) (by intro a0;show @Eq _ _ _;kernel_rfl) (kC (Bf6 K K) kN) Tryz.func82 trivial
def Abk (K:Nat)(a0:Int)(a1:Int)(a2:Int):Option (Bool):=(bif (decide (a0≥a1))then some (decide (a0≤a2))else some false)
def Bxn:Sig:=⟨[.v 3,.v 3,.v 3],[.v 4],true⟩
def A57 (K:Nat):Gb tyU:=⟨Bxn,Abk K⟩
def B3n (K:Nat):=xF Bxn [] [] 15 [9,10] [] [] [] [.tmp 6]
theorem A00 (K:Nat):OkF 84 (A57 K):=
 Aa6 (x:=B3n K) (L:=[]) (c0:=bd Tryz.f84) (xkF gN oN) (by intro a0 a1 a2;show @Eq _ _ _;kernel_rfl) kN Tryz.func84 trivial
def Aq8 (K:Nat)(a0:Er):Option (Bool):=((Abk K a0.Ae 2 12).bind fun r1=>(bif r1 then((Abk K a0.Eg 8 16).bind fun r2=>(bif r2 then((Abk K a0.C0 2 8).bind fun r3=>(bif r3 then((Abk K a0.E9 1 8).bind fun r4=>(bif r4 then((Abk K a0.C1 1 16).bind fun r5=>(bif r5 then((Abk K a0.Eh 1 4).bind fun r6=>some r6)else some false))else some false))else some false))else some false))else some false))
def Bxo:Sig:=⟨[.v 25],[.v 4],true⟩
def Bf7 (K:Nat):Gb tyU:=⟨Bxo,Aq8 K⟩
def B3o (K:Nat):=xF Bxo [(84,A57 K)] [] 31 [5,6,9,10,11,14,15,16,19,20,21,24,25,26] [] [] [] [.tmp 2]
theorem Bc8 (K:Nat):OkF 210 (Bf7 K):=
 Aa6 (x:=B3o K) (L:=[]) (c0:=bd Tryz.f210) (xkF (gC (A00 K) gN) oN) (by intro a0;show @Eq _ _ _;kernel_rfl) kN Tryz.func210 trivial
def Asv (K:Nat)(a0:Er):Option (Int):=((Aq8 K a0).bind fun r1=>(bif (!r1)then some 0 else some (Aoc .i64 a0.Ae a0.Eg)))
def Bxp:Sig:=⟨[.v 25],[.v 3],true⟩
def Bto (K:Nat):Gb tyU:=⟨Bxp,Asv K⟩
def B3p (K:Nat):=xF Bxp [(210,Bf7 K)] [] 11 [] [] [] [] [.tmp 2]
theorem Bpi (K:Nat):OkF 211 (Bto K):=
 Aa6 (x:=B3p K) (L:=[]) (c0:=bd Tryz.f211) (xkF (gC (Bc8 K) gN) oN) (by intro a0;show @Eq _ _ _;kernel_rfl) kN Tryz.func211 trivial
def Aqu (K:Nat)(a0:List Int):Nat->Int->Option (Bool)
 |0,_=>none
 |n1+1,v1=>(bif (decide (v1<(a0.length:Int)))then(if(0:Int)≤v1∧v1<(a0.length:Int)then(bif ((gt a0 v1) != 0)then some false else(Aqu K a0 n1 (Aoa .i64 v1 1)))else none)else some true)
def Asb (K:Nat)(a0:List Int):Option (Bool):=(Aqu K a0 K 0)
def s_29:Sig:=⟨[.v 22],[.v 4],true⟩
def Bmh (K:Nat):Gb tyU:=⟨s_29,Asb K⟩
def Btp (K:Nat):=xF s_29 [] [] 15 [] [] [] [] [.tmp 2]
def A7u:E5:=⟨[(0,.v 22),(3,.v 2)],[]⟩
def A7v (K:Nat)(n:Nat)(q:PT A7u):Rt s_29:=Aqu K q.1 n q.2.1
theorem Bmi (K:Nat):AtL (Btp K) (fun n=>[]) [] (bd Tryz.f212) 26 (A7v K):=fun n q=>by kernel_rfl
theorem Bpj (K:Nat):XF [.tmp 2] s_29 15 [] (Btp K):=xkF gN oN
theorem Bmj (K:Nat)(n:Nat):CF [.tmp 2] s_29 15 [] (bd Tryz.f212) [] 26 (ar A7u (A7v K n)):=
 Aeg (Bpj K) (Bmi K) (fun n=>kN) n
theorem Bf8 (K:Nat):OkF 212 (Bmh K):=
 Aa6 (x:=Btp K) (L:=[(26,ar A7u (A7v K K))]) (c0:=bd Tryz.f212) (Bpj K) (by intro a0;show @Eq _ _ _;kernel_rfl) (kC (Bmj K K) kN) Tryz.func212 trivial
def At5 (K:Nat)(v3:Int)(v4:List Int)(v5:List Int)(v6:List Int)(C1:Int->(List Int)->(List Int)->(List Int)->Option (Bool)):Option (Bool):=(C1 (Aoa .i64 v3 1) v4 v5 v6)
def Aqv (K:Nat)(a0:Er)(v3:Int)(v4:List Int)(v5:List Int)(v6:List Int)(C1:Int->(List Int)->(List Int)->(List Int)->Option (Bool)):Option (Bool):=(if(0:Int)≤v3∧v3<(v5.length:Int)then(bif ((gt v5 v3)==0)then(if(0:Int)≤(Aoc .i64 v3 a0.Eg)∧(Aoc .i64 v3 a0.Eg)≤(Aoc .i64 (Aoa .i64 v3 1) a0.Eg)∧(Aoc .i64 (Aoa .i64 v3 1) a0.Eg)≤(v4.length:Int)then((Asb K ((v4.drop (Aoc .i64 v3 a0.Eg).toNat).take ((Aoc .i64 (Aoa .i64 v3 1) a0.Eg) - (Aoc .i64 v3 a0.Eg)).toNat)).bind fun r9=>(bif (!r9)then some false else(At5 K v3 v4 v5 v6 (C1))))else none)else(At5 K v3 v4 v5 v6 (C1)))else none)
def Alc (K:Nat)(a0:Er):Nat->Int->(List Int)->(List Int)->(List Int)->Option (Bool)
 |0,_,_,_,_=>none
 |n1+1,v3,v4,v5,v6=>(bif (decide (v3<a0.Ae))then(if(0:Int)≤v3∧v3<(v5.length:Int)then((Abk K (gt v5 v3) 0 2).bind fun r7=>(bif (!r7)then some false else(if(0:Int)≤v3∧v3<(v5.length:Int)then(bif ((gt v5 v3)==1)then(if(0:Int)≤v3∧v3<(v6.length:Int)then((Abk K (gt v6 v3) 0 (Aob .i64 a0.C0 1)).bind fun r8=>(bif r8 then(if(0:Int)≤v3∧v3<(v5.length:Int)then(bif ((gt v5 v3) != 1)then(if(0:Int)≤v3∧v3<(v6.length:Int)then(bif ((gt v6 v3) != (-1))then some false else(Aqv K a0 v3 v4 v5 v6 (Alc K a0 n1)))else none)else(Aqv K a0 v3 v4 v5 v6 (Alc K a0 n1)))else none)else some false))else none)else(if(0:Int)≤v3∧v3<(v5.length:Int)then(bif ((gt v5 v3) != 1)then(if(0:Int)≤v3∧v3<(v6.length:Int)then(bif ((gt v6 v3) != (-1))then some false else(Aqv K a0 v3 v4 v5 v6 (Alc K a0 n1)))else none)else(Aqv K a0 v3 v4 v5 v6 (Alc K a0 n1)))else none))else none)))else none)else some true)
def Av9 (K:Nat)(a0:Er)(a1:Dw):Option (Bool):=((Aq8 K a0).bind fun r1=>(bif r1 then((Asv K a0).bind fun r2=>(bif ((a1.Fy.length:Int) != r2)then some false else(bif ((a1.Hh.length:Int) != a0.Ae)then some false else(bif ((a1.Fz.length:Int) != a0.Ae)then some false else(Alc K a0 K 0 a1.Fy a1.Hh a1.Fz)))))else some false))
def s_30:Sig:=⟨[.v 25,.v 28],[.v 4],true⟩
def Bxq (K:Nat):Gb tyU:=⟨s_30,Av9 K⟩
def Bf9 (K:Nat):=xF s_30 [(84,A57 K),(210,Bf7 K),(211,Bto K),(212,Bmh K)] [] 102 [7,8,9,15,16,17,23,24,25,51,52,61,62,63,64,70,71,85,86] [] [] [233,1865] [.tmp 4]
def A26:E5:=⟨[(2,.p 102),(3,.p 103),(5,.v 2)],[(103,.box [.v 22,.v 26,.v 26]),(102,.st 25 true)]⟩
def A1q:E5:=⟨[(2,.p 102),(3,.p 103),(5,.v 2)],[(103,.box [.v 22,.v 26,.v 26]),(102,.st 25 true)]⟩
def Atb:E5:=⟨[(2,.p 102),(3,.p 103),(5,.v 2)],[(103,.box [.v 22,.v 26,.v 26]),(102,.st 25 true)]⟩
def A27 (K:Nat)(C58:CT Atb s_30)(q:PT A26):Rt s_30:=At5 K q.1 q.2.1 q.2.2.1 q.2.2.2.1 (fun v3 v4 v5 v6=>C58 (v3,v4,v5,v6,q.2.2.2.2.1,()))
def A1r (K:Nat)(C58:CT Atb s_30)(q:PT A1q):Rt s_30:=Aqv K q.2.2.2.2.1 q.1 q.2.1 q.2.2.1 q.2.2.2.1 (fun v3 v4 v5 v6=>C58 (v3,v4,v5,v6,q.2.2.2.2.1,()))
def A01 (K:Nat)(n:Nat)(q:PT Atb):Rt s_30:=Alc K q.2.2.2.2.1 n q.1 q.2.1 q.2.2.1 q.2.2.2.1
theorem Bga (K:Nat)(C58:CT Atb s_30):AtJ (Bf9 K) [] [(58,ar Atb C58)] (bd Tryz.f140) 233 (A27 K C58):=fun q=>by kernel_rfl
theorem Bdy (K:Nat)(C58:CT Atb s_30):AtJ (Bf9 K) [(233,ar A26 (A27 K C58))] [(58,ar Atb C58)] (bd Tryz.f140) 1865 (A1r K C58):=fun q=>by kernel_rfl
theorem Bmk (K:Nat):AtL (Bf9 K) (fun n=>[(1865,ar A1q (A1r K (A01 K n)))]) [] (bd Tryz.f140) 58 (A01 K):=fun n q=>by kernel_rfl
theorem Bc9 (K:Nat):XF [.tmp 4] s_30 102 [233,1865] (Bf9 K):=xkF (gC (A00 K) (gC (Bc8 K) (gC (Bpi K) (gC (Bf8 K) gN)))) oN
theorem Bgb (K:Nat)(C58:CT Atb s_30):CF [.tmp 4] s_30 102 [233,1865] (bd Tryz.f140) [(58,ar Atb C58)] 233 (ar A26 (A27 K C58)):=
 Apg (Bc9 K) (Bga K C58) kN
theorem Bdz (K:Nat)(C58:CT Atb s_30):CF [.tmp 4] s_30 102 [233,1865] (bd Tryz.f140) [(58,ar Atb C58)] 1865 (ar A1q (A1r K C58)):=
 Apg (Bc9 K) (Bdy K C58) (kC (Bgb K C58) kN)
theorem Bml (K:Nat)(n:Nat):CF [.tmp 4] s_30 102 [233,1865] (bd Tryz.f140) [] 58 (ar Atb (A01 K n)):=
 Aeg (Bc9 K) (Bmk K) (fun n=>(kC (Bdz K (A01 K n)) kN)) n
theorem Bxr (K:Nat):OkF 140 (Bxq K):=
 Aa6 (x:=Bf9 K) (L:=[(58,ar Atb (A01 K K))]) (c0:=bd Tryz.f140) (Bc9 K) (by intro a0 a1;show @Eq _ _ _;kernel_rfl) (kC (Bml K K) kN) Tryz.func140 trivial
def Aov (K:Nat)(a0:List Ba)(a1:Int):Option (Bool):=(bif (decide (a1≥1))then some (decide (a1≤(a0.length:Int)))else some false)
def Bxs:Sig:=⟨[.v 29,.v 3],[.v 4],true⟩
def Bd0 (K:Nat):Gb tyU:=⟨Bxs,Aov K⟩
def B3q (K:Nat):=xF Bxs [] [] 13 [6,7] [] [] [] [.tmp 4]
theorem A98 (K:Nat):OkF 244 (Bd0 K):=
 Aa6 (x:=B3q K) (L:=[]) (c0:=bd Tryz.f244) (xkF gN oN) (by intro a0 a1;show @Eq _ _ _;kernel_rfl) kN Tryz.func244 trivial
def Apt (K:Nat)(a0:List Ba)(a1:Int):Option (Bool):=(bif (a1==0)then some true else((Aov K a0 a1).bind fun r1=>(bif r1 then(if(0:Int)≤(Aob .i64 a1 1)∧(Aob .i64 a1 1)<(a0.length:Int)then some (((gt a0 (Aob .i64 a1 1)).Hh)==1)else none)else some false)))
def Bxt:Sig:=⟨[.v 29,.v 3],[.v 4],true⟩
def Bxu (K:Nat):Gb tyU:=⟨Bxt,Apt K⟩
def B3r (K:Nat):=xF Bxt [(244,Bd0 K)] [] 21 [6,7,10,11] [] [] [] [.tmp 4]
theorem Bxv (K:Nat):OkF 264 (Bxu K):=
 Aa6 (x:=B3r K) (L:=[]) (c0:=bd Tryz.f264) (xkF (gC (A98 K) gN) oN) (by intro a0 a1;show @Eq _ _ _;kernel_rfl) kN Tryz.func264 trivial
def Aqy (K:Nat)(a0:List Ba)(a1:Int):Option (Bool):=(if(0:Int)≤a1∧a1<(a0.length:Int)then((Aov K a0 ((gt a0 a1).fUp)).bind fun r1=>(bif r1 then(if(0:Int)≤(Aob .i64 ((gt a0 a1).fUp) 1)∧(Aob .i64 ((gt a0 a1).fUp) 1)<(a0.length:Int)then(bif (((gt a0 (Aob .i64 ((gt a0 a1).fUp) 1)).Hh)==1)then(if(0:Int)≤(Aob .i64 ((gt a0 a1).fUp) 1)∧(Aob .i64 ((gt a0 a1).fUp) 1)<(a0.length:Int)then(if(0:Int)≤a1∧a1<(a0.length:Int)then some (((gt a0 (Aob .i64 ((gt a0 a1).fUp) 1)).Ly)==((gt a0 a1).Gq))else none)else none)else some false)else none)else some false))else none)
def Bxw:Sig:=⟨[.v 29,.v 3],[.v 4],true⟩
def Bmm (K:Nat):Gb tyU:=⟨Bxw,Aqy K⟩
def B3s (K:Nat):=xF Bxw [(244,Bd0 K)] [] 37 [13,14,21,22,23] [] [] [] [.tmp 4]
theorem Bgc (K:Nat):OkF 225 (Bmm K):=
 Aa6 (x:=B3s K) (L:=[]) (c0:=bd Tryz.f225) (xkF (gC (A98 K) gN) oN) (by intro a0 a1;show @Eq _ _ _;kernel_rfl) kN Tryz.func225 trivial
def Atw (K:Nat)(a0:List Ba):Nat->Int->(List Int)->Option ((List Int))
 |0,_,_=>none
 |n1+1,v1,v2=>((Aov K a0 (Aoa .i64 v1 1)).bind fun r3=>(bif r3 then(bif (decide ((v2.length:Int)<(a0.length:Int)))then(if(v2++([v1]:List Int)).length*8≤140737488355328∧(v2++([v1]:List Int)).length≤maxLen then(if(0:Int)≤v1∧v1<(a0.length:Int)then(Atw K a0 n1 (Aob .i64 ((gt a0 v1).fUp) 1) (v2++([v1]:List Int)))else none)else none)else some v2)else some v2))
def Auu (K:Nat)(a0:List Ba)(a1:Int):Option ((List Int)):=(Atw K a0 K a1 ([]:List Int))
def s_34:Sig:=⟨[.v 29,.v 3],[.n 26 true],true⟩
def Bmn (K:Nat):Gb tyU:=⟨s_34,Auu K⟩
def Btq (K:Nat):=xF s_34 [(244,Bd0 K)] [] 29 [10,11] [] [] [] [.tmp 4]
def A7w:E5:=⟨[(0,.v 29),(1,.v 2),(5,.o 1005 3 true)],[]⟩
def A7x (K:Nat)(n:Nat)(q:PT A7w):Rt s_34:=Atw K q.1 n q.2.1 q.2.2.1
theorem Bmo (K:Nat):AtL (Btq K) (fun n=>[]) [] (bd Tryz.f224) 28 (A7x K):=fun n q=>by kernel_rfl
theorem Bpk (K:Nat):XF [.tmp 4] s_34 29 [] (Btq K):=xkF (gC (A98 K) gN) oN
theorem Bmp (K:Nat)(n:Nat):CF [.tmp 4] s_34 29 [] (bd Tryz.f224) [] 28 (ar A7w (A7x K n)):=
 Aeg (Bpk K) (Bmo K) (fun n=>kN) n
theorem Bgd (K:Nat):OkF 224 (Bmn K):=
 Aa6 (x:=Btq K) (L:=[(28,ar A7w (A7x K K))]) (c0:=bd Tryz.f224) (Bpk K) (by intro a0 a1;show @Eq _ _ _;kernel_rfl) (kC (Bmp K K) kN) Tryz.func224 trivial
def Are (K:Nat)(a0:List Ba)(a1:Int):Option (Bool):=((Auu K a0 a1).bind fun r19=>(bif (decide ((r19.length:Int)≤4))then(if(0:Int)≤(Aob .i64 (r19.length:Int) 1)∧(Aob .i64 (r19.length:Int) 1)<(r19.length:Int)then((Aqy K a0 (gt r19 (Aob .i64 (r19.length:Int) 1))).bind fun r20=>some (!r20))else none)else some false))
def Asw (K:Nat)(a0:List Ba)(a1:Int)(v8:Int)(v12:Int):Option (Bool):=(bif (v12==0)then((Aqy K a0 a1).bind fun r18=>(bif r18 then(if(0:Int)≤(Aob .i64 v8 1)∧(Aob .i64 v8 1)<(a0.length:Int)then(bif (((gt a0 (Aob .i64 v8 1)).Bt) != (Aoa .i64 a1 1))then some false else(Are K a0 a1))else none)else(Are K a0 a1)))else(Are K a0 a1))
def Asx (K:Nat)(a0:List Ba)(a1:Int)(v8:Int)(v12:Int):Option (Bool):=(bif (v12 != 0)then(if(0:Int)≤(Aob .i64 v12 1)∧(Aob .i64 v12 1)<(a0.length:Int)then(bif (((gt a0 (Aob .i64 v12 1)).Gr) != (Aoa .i64 a1 1))then some false else(Asw K a0 a1 v8 v12))else none)else(Asw K a0 a1 v8 v12))
def Asy (K:Nat)(a0:List Ba)(a1:Int)(v8:Int)(v9:Int)(v11:Int)(v12:Int):Option (Bool):=(bif (v11 != 0)then(if(0:Int)≤(Aob .i64 v11 1)∧(Aob .i64 v11 1)<(a0.length:Int)then(bif (((gt a0 (Aob .i64 v11 1)).Gs) != (Aoa .i64 a1 1))then some false else(bif (((gt a0 (Aob .i64 v11 1)).fUp) != v8)then some false else(bif (((gt a0 (Aob .i64 v11 1)).Gq) != v9)then some false else(Asx K a0 a1 v8 v12))))else none)else(Asx K a0 a1 v8 v12))
def Asz (K:Nat)(a0:List Ba)(a1:Int)(v5:Int)(v6:Int)(v7:Int)(v8:Int)(v9:Int)(v10:Int)(v11:Int)(v12:Int)(v13:List Int)(v14:Int)(v15:Int)(v16:List A9)(v17:List Int):Option (Bool):=(bif (v10 != 0)then(if(0:Int)≤(Aob .i64 v10 1)∧(Aob .i64 v10 1)<(a0.length:Int)then(bif (((gt a0 (Aob .i64 v10 1)).Gs) != 0)then some false else(bif (((gt a0 (Aob .i64 v10 1)).fUp) != (Aoa .i64 a1 1))then some false else(bif (((gt a0 (Aob .i64 v10 1)).Gq) != v7)then some false else(Asy K a0 a1 v8 v9 v11 v12))))else none)else(Asy K a0 a1 v8 v9 v11 v12))
def Aw4 (K:Nat)(a0:List Ba)(a1:Int):Option (Bool):=(if(0:Int)≤a1∧a1<(a0.length:Int)then(bif (((gt a0 a1).fUp) != 0)then((Aov K a0 ((gt a0 a1).fUp)).bind fun r1=>(bif r1 then((Apt K a0 ((gt a0 a1).Bt)).bind fun r2=>(bif r2 then((Apt K a0 ((gt a0 a1).Gr)).bind fun r3=>(bif r3 then((Apt K a0 ((gt a0 a1).Gs)).bind fun r4=>(bif (!r4)then some false else(Asz K a0 a1 ((gt a0 a1).Hh) ((gt a0 a1).C2) ((gt a0 a1).Ly) ((gt a0 a1).fUp) ((gt a0 a1).Gq) ((gt a0 a1).Bt) ((gt a0 a1).Gr) ((gt a0 a1).Gs) ((gt a0 a1).Ae) ((gt a0 a1).Pq) ((gt a0 a1).Gt) ((gt a0 a1).Ea) ((gt a0 a1).Dg))))else some false))else some false))else some false))else((Apt K a0 ((gt a0 a1).Bt)).bind fun r21=>(bif r21 then((Apt K a0 ((gt a0 a1).Gr)).bind fun r22=>(bif r22 then((Apt K a0 ((gt a0 a1).Gs)).bind fun r23=>(bif (!r23)then some false else(Asz K a0 a1 ((gt a0 a1).Hh) ((gt a0 a1).C2) ((gt a0 a1).Ly) ((gt a0 a1).fUp) ((gt a0 a1).Gq) ((gt a0 a1).Bt) ((gt a0 a1).Gr) ((gt a0 a1).Gs) ((gt a0 a1).Ae) ((gt a0 a1).Pq) ((gt a0 a1).Gt) ((gt a0 a1).Ea) ((gt a0 a1).Dg))))else some false))else some false)))else none)
def s_35:Sig:=⟨[.v 29,.v 3],[.v 4],true⟩
def Bxx (K:Nat):Gb tyU:=⟨s_35,Aw4 K⟩
def Bbl (K:Nat):=xF s_35 [(224,Bmn K),(225,Bmm K),(244,Bd0 K),(264,Bxu K)] [] 150 [15,16,20,21,22,23,27,28,29,30,34,35,36,37,55,56,61,62,63,83,84,89,90,91,100,101,115,116,119,120,121,138,139] [] [] [7,15,31,63,127] [.tmp 4]
def A28:E5:=⟨[(0,.v 29),(1,.v 2)],[]⟩
def A7y:E5:=⟨[(0,.v 29),(1,.v 2),(5,.p 105)],[(105,.box [.v 2,.v 2,.v 2,.v 2,.v 2,.v 2,.v 2,.v 2,.v 26,.v 2,.v 2,.v 41,.v 26])]⟩
def A7z:E5:=⟨[(0,.v 29),(1,.v 2),(5,.p 105)],[(105,.box [.v 2,.v 2,.v 2,.v 2,.v 2,.v 2,.v 2,.v 2,.v 26,.v 2,.v 2,.v 41,.v 26])]⟩
def A70:E5:=⟨[(0,.v 29),(1,.v 2),(5,.p 105)],[(105,.box [.v 2,.v 2,.v 2,.v 2,.v 2,.v 2,.v 2,.v 2,.v 26,.v 2,.v 2,.v 41,.v 26])]⟩
def Bbm:E5:=⟨[(0,.v 29),(1,.v 2),(5,.p 105)],[(105,.box [.v 2,.v 2,.v 2,.v 2,.v 2,.v 2,.v 2,.v 2,.v 26,.v 2,.v 2,.v 41,.v 26])]⟩
def A29 (K:Nat)(q:PT A28):Rt s_35:=Are K q.1 q.2.1
def A71 (K:Nat)(q:PT A7y):Rt s_35:=Asw K q.1 q.2.1 q.2.2.2.2.2.1 q.2.2.2.2.2.2.2.2.2.1
def A72 (K:Nat)(q:PT A7z):Rt s_35:=Asx K q.1 q.2.1 q.2.2.2.2.2.1 q.2.2.2.2.2.2.2.2.2.1
def A73 (K:Nat)(q:PT A70):Rt s_35:=Asy K q.1 q.2.1 q.2.2.2.2.2.1 q.2.2.2.2.2.2.1 q.2.2.2.2.2.2.2.2.1 q.2.2.2.2.2.2.2.2.2.1
def Bbn (K:Nat)(q:PT Bbm):Rt s_35:=Asz K q.1 q.2.1 q.2.2.1 q.2.2.2.1 q.2.2.2.2.1 q.2.2.2.2.2.1 q.2.2.2.2.2.2.1 q.2.2.2.2.2.2.2.1 q.2.2.2.2.2.2.2.2.1 q.2.2.2.2.2.2.2.2.2.1 q.2.2.2.2.2.2.2.2.2.2.1 q.2.2.2.2.2.2.2.2.2.2.2.1 q.2.2.2.2.2.2.2.2.2.2.2.2.1 q.2.2.2.2.2.2.2.2.2.2.2.2.2.1 q.2.2.2.2.2.2.2.2.2.2.2.2.2.2.1
theorem Bge (K:Nat):AtJ (Bbl K) [] [] (bd Tryz.f213) 127 (A29 K):=fun q=>by kernel_rfl
theorem Bmq (K:Nat):AtJ (Bbl K) [(127,ar A28 (A29 K))] [] (bd Tryz.f213) 63 (A71 K):=fun q=>by kernel_rfl
theorem Bmr (K:Nat):AtJ (Bbl K) [(63,ar A7y (A71 K))] [] (bd Tryz.f213) 31 (A72 K):=fun q=>by kernel_rfl
theorem Bms (K:Nat):AtJ (Bbl K) [(31,ar A7z (A72 K))] [] (bd Tryz.f213) 15 (A73 K):=fun q=>by kernel_rfl
theorem Btr (K:Nat):AtJ (Bbl K) [(15,ar A70 (A73 K))] [] (bd Tryz.f213) 7 (Bbn K):=fun q=>by kernel_rfl
theorem A6w (K:Nat):XF [.tmp 4] s_35 150 [7,15,31,63,127] (Bbl K):=xkF (gC (Bgd K) (gC (Bgc K) (gC (A98 K) (gC (Bxv K) gN)))) oN
theorem Bgf (K:Nat):CF [.tmp 4] s_35 150 [7,15,31,63,127] (bd Tryz.f213) [] 127 (ar A28 (A29 K)):=
 Apg (A6w K) (Bge K) kN
theorem Bmt (K:Nat):CF [.tmp 4] s_35 150 [7,15,31,63,127] (bd Tryz.f213) [] 63 (ar A7y (A71 K)):=
 Apg (A6w K) (Bmq K) (kC (Bgf K) kN)
theorem Bmu (K:Nat):CF [.tmp 4] s_35 150 [7,15,31,63,127] (bd Tryz.f213) [] 31 (ar A7z (A72 K)):=
 Apg (A6w K) (Bmr K) (kC (Bmt K) kN)
theorem Bmv (K:Nat):CF [.tmp 4] s_35 150 [7,15,31,63,127] (bd Tryz.f213) [] 15 (ar A70 (A73 K)):=
 Apg (A6w K) (Bms K) (kC (Bmu K) kN)
theorem Bts (K:Nat):CF [.tmp 4] s_35 150 [7,15,31,63,127] (bd Tryz.f213) [] 7 (ar Bbm (Bbn K)):=
 Apg (A6w K) (Btr K) (kC (Bmv K) kN)
theorem Bxy (K:Nat):OkF 213 (Bxx K):=
 Aa6 (x:=Bbl K) (L:=[(7,ar Bbm (Bbn K))]) (c0:=bd Tryz.f213) (A6w K) (by intro a0 a1;show @Eq _ _ _;kernel_rfl) (kC (Bts K) kN) Tryz.func213 trivial
def At6 (K:Nat)(v1:Int)(C1:Int->Option (Bool)):Option (Bool):=(C1 (Aoa .i64 v1 1))
def Aph (K:Nat)(a0:List Ba):Nat->Int->Option (Bool)
 |0,_=>none
 |n1+1,v1=>(bif (decide (v1<(a0.length:Int)))then(if(0:Int)≤v1∧v1<(a0.length:Int)then(bif (((gt a0 v1).Hh)==1)then((Aw4 K a0 v1).bind fun r2=>(bif (!r2)then some false else(At6 K v1 (Aph K a0 n1))))else(At6 K v1 (Aph K a0 n1)))else none)else some true)
def Awa (K:Nat)(a0:List Ba):Option (Bool):=(Aph K a0 K 0)
def s_36:Sig:=⟨[.v 29],[.v 4],true⟩
def Bxz (K:Nat):Gb tyU:=⟨s_36,Awa K⟩
def Bmw (K:Nat):=xF s_36 [(213,Bxx K)] [] 22 [15,16] [] [] [105] [.tmp 2]
def A3a:E5:=⟨[(0,.v 29),(3,.v 2)],[]⟩
def Axw:E5:=⟨[(0,.v 29),(3,.v 2)],[]⟩
def A3b (K:Nat)(C26:CT Axw s_36)(q:PT A3a):Rt s_36:=At6 K q.2.1 (fun v1=>C26 (q.1,v1,()))
def A02 (K:Nat)(n:Nat)(q:PT Axw):Rt s_36:=Aph K q.1 n q.2.1
theorem Bgg (K:Nat)(C26:CT Axw s_36):AtJ (Bmw K) [] [(26,ar Axw C26)] (bd Tryz.f141) 105 (A3b K C26):=fun q=>by kernel_rfl
theorem Bmx (K:Nat):AtL (Bmw K) (fun n=>[(105,ar A3a (A3b K (A02 K n)))]) [] (bd Tryz.f141) 26 (A02 K):=fun n q=>by kernel_rfl
theorem Bgh (K:Nat):XF [.tmp 2] s_36 22 [105] (Bmw K):=xkF (gC (Bxy K) gN) oN
theorem Bgi (K:Nat)(C26:CT Axw s_36):CF [.tmp 2] s_36 22 [105] (bd Tryz.f141) [(26,ar Axw C26)] 105 (ar A3a (A3b K C26)):=
 Apg (Bgh K) (Bgg K C26) kN
theorem Bmy (K:Nat)(n:Nat):CF [.tmp 2] s_36 22 [105] (bd Tryz.f141) [] 26 (ar Axw (A02 K n)):=
 Aeg (Bgh K) (Bmx K) (fun n=>(kC (Bgi K (A02 K n)) kN)) n
theorem Bx0 (K:Nat):OkF 141 (Bxz K):=
 Aa6 (x:=Bmw K) (L:=[(26,ar Axw (A02 K K))]) (c0:=bd Tryz.f141) (Bgh K) (by intro a0;show @Eq _ _ _;kernel_rfl) (kC (Bmy K K) kN) Tryz.func141 trivial
def Atc (K:Nat)(v2:Int)(v3:List Int)(v4:List Int)(v5:List Int)(C1:Int->Int->(List Int)->(List Int)->(List Int)->Option (Int))(v6:Int):Option (Int):=(C1 v6 (Aoa .i64 v2 1) v3 v4 v5)
def Anr (K:Nat)(a1:Int):Nat->Int->Int->(List Int)->(List Int)->(List Int)->Option (Int)
 |0,_,_,_,_,_=>none
 |n1+1,v1,v2,v3,v4,v5=>(bif (decide (v2<(v4.length:Int)))then(if(0:Int)≤v2∧v2<(v4.length:Int)then(bif ((gt v4 v2)==a1)then(Atc K v2 v3 v4 v5 (Anr K a1 n1) (Aoa .i64 v1 1))else(Atc K v2 v3 v4 v5 (Anr K a1 n1) v1))else none)else some v1)
def Au4 (K:Nat)(a0:Dw)(a1:Int):Option (Int):=(Anr K a1 K 0 0 a0.Fy a0.Hh a0.Fz)
def s_37:Sig:=⟨[.v 28,.v 3],[.v 3],true⟩
def Bx1 (K:Nat):Gb tyU:=⟨s_37,Au4 K⟩
def Bmz (K:Nat):=xF s_37 [] [] 24 [] [] [] [233] [.tmp 4]
def A3c:E5:=⟨[(1,.v 2),(2,.p 102),(5,.v 2),(6,.v 2)],[(102,.box [.v 22,.v 26,.v 26])]⟩
def Axx:E5:=⟨[(1,.v 2),(2,.p 102),(5,.v 2),(6,.v 2)],[(102,.box [.v 22,.v 26,.v 26])]⟩
def A3d (K:Nat)(C58:CT Axx s_37)(q:PT A3c):Rt s_37:=Atc K q.2.2.1 q.2.2.2.1 q.2.2.2.2.1 q.2.2.2.2.2.1 (fun v1 v2 v3 v4 v5=>C58 (q.1,v1,v2,v3,v4,v5,())) q.2.1
def A03 (K:Nat)(n:Nat)(q:PT Axx):Rt s_37:=Anr K q.1 n q.2.1 q.2.2.1 q.2.2.2.1 q.2.2.2.2.1 q.2.2.2.2.2.1
theorem Bgj (K:Nat)(C58:CT Axx s_37):AtJ (Bmz K) [] [(58,ar Axx C58)] (bd Tryz.f222) 233 (A3d K C58):=fun q=>by kernel_rfl
theorem Bm0 (K:Nat):AtL (Bmz K) (fun n=>[(233,ar A3c (A3d K (A03 K n)))]) [] (bd Tryz.f222) 58 (A03 K):=fun n q=>by kernel_rfl
theorem Bgk (K:Nat):XF [.tmp 4] s_37 24 [233] (Bmz K):=xkF gN oN
theorem Bgl (K:Nat)(C58:CT Axx s_37):CF [.tmp 4] s_37 24 [233] (bd Tryz.f222) [(58,ar Axx C58)] 233 (ar A3c (A3d K C58)):=
 Apg (Bgk K) (Bgj K C58) kN
theorem Bm1 (K:Nat)(n:Nat):CF [.tmp 4] s_37 24 [233] (bd Tryz.f222) [] 58 (ar Axx (A03 K n)):=
 Aeg (Bgk K) (Bm0 K) (fun n=>(kC (Bgl K (A03 K n)) kN)) n
theorem Bx2 (K:Nat):OkF 222 (Bx1 K):=
 Aa6 (x:=Bmz K) (L:=[(58,ar Axx (A03 K K))]) (c0:=bd Tryz.f222) (Bgk K) (by intro a0 a1;show @Eq _ _ _;kernel_rfl) (kC (Bm1 K K) kN) Tryz.func222 trivial
def Ara (K:Nat)(v2:Int)(C1:Int->Int->Option (Int))(v3:Int):Option (Int):=(C1 v3 (Aoa .i64 v2 1))
def Ajb (K:Nat)(a0:List Ba)(a1:Int):Nat->Int->Int->Option (Int)
 |0,_,_=>none
 |n1+1,v1,v2=>(bif (decide (v2<(a0.length:Int)))then(if(0:Int)≤v2∧v2<(a0.length:Int)then(bif (((gt a0 v2).Hh)==a1)then(Ara K v2 (Ajb K a0 a1 n1) (Aoa .i64 v1 1))else(Ara K v2 (Ajb K a0 a1 n1) v1))else none)else some v1)
def Asi (K:Nat)(a0:List Ba)(a1:Int):Option (Int):=(Ajb K a0 a1 K 0 0)
def s_38:Sig:=⟨[.v 29,.v 3],[.v 3],true⟩
def Bx3 (K:Nat):Gb tyU:=⟨s_38,Asi K⟩
def Bm2 (K:Nat):=xF s_38 [] [] 23 [] [] [] [233] [.tmp 4]
def A3e:E5:=⟨[(0,.v 29),(1,.v 2),(5,.v 2),(6,.v 2)],[]⟩
def Axy:E5:=⟨[(0,.v 29),(1,.v 2),(5,.v 2),(6,.v 2)],[]⟩
def A3f (K:Nat)(C58:CT Axy s_38)(q:PT A3e):Rt s_38:=Ara K q.2.2.2.1 (fun v1 v2=>C58 (q.1,q.2.1,v1,v2,())) q.2.2.1
def A04 (K:Nat)(n:Nat)(q:PT Axy):Rt s_38:=Ajb K q.1 q.2.1 n q.2.2.1 q.2.2.2.1
theorem Bgm (K:Nat)(C58:CT Axy s_38):AtJ (Bm2 K) [] [(58,ar Axy C58)] (bd Tryz.f223) 233 (A3f K C58):=fun q=>by kernel_rfl
theorem Bm3 (K:Nat):AtL (Bm2 K) (fun n=>[(233,ar A3e (A3f K (A04 K n)))]) [] (bd Tryz.f223) 58 (A04 K):=fun n q=>by kernel_rfl
theorem Bgn (K:Nat):XF [.tmp 4] s_38 23 [233] (Bm2 K):=xkF gN oN
theorem Bgo (K:Nat)(C58:CT Axy s_38):CF [.tmp 4] s_38 23 [233] (bd Tryz.f223) [(58,ar Axy C58)] 233 (ar A3e (A3f K C58)):=
 Apg (Bgn K) (Bgm K C58) kN
theorem Bm4 (K:Nat)(n:Nat):CF [.tmp 4] s_38 23 [233] (bd Tryz.f223) [] 58 (ar Axy (A04 K n)):=
 Aeg (Bgn K) (Bm3 K) (fun n=>(kC (Bgo K (A04 K n)) kN)) n
theorem Bx4 (K:Nat):OkF 223 (Bx3 K):=
 Aa6 (x:=Bm2 K) (L:=[(58,ar Axy (A04 K K))]) (c0:=bd Tryz.f223) (Bgn K) (by intro a0 a1;show @Eq _ _ _;kernel_rfl) (kC (Bm4 K K) kN) Tryz.func223 trivial
def As0 (K:Nat)(a0:List Int)(a1:Int):Nat->Int->Option (Bool)
 |0,_=>none
 |n1+1,v1=>(bif (decide (v1<(a0.length:Int)))then(if(0:Int)≤v1∧v1<(a0.length:Int)then(bif ((gt a0 v1)==a1)then some true else(As0 K a0 a1 n1 (Aoa .i64 v1 1)))else none)else some false)
def Apu (K:Nat)(a0:List Int)(a1:Int):Option (Bool):=(As0 K a0 a1 K 0)
def s_39:Sig:=⟨[.v 26,.v 3],[.v 4],true⟩
def Bd1 (K:Nat):Gb tyU:=⟨s_39,Apu K⟩
def Btt (K:Nat):=xF s_39 [] [] 18 [] [] [] [] [.tmp 4]
def A74:E5:=⟨[(0,.v 26),(1,.v 2),(5,.v 2)],[]⟩
def A75 (K:Nat)(n:Nat)(q:PT A74):Rt s_39:=As0 K q.1 q.2.1 n q.2.2.1
theorem Bm5 (K:Nat):AtL (Btt K) (fun n=>[]) [] (bd Tryz.f218) 26 (A75 K):=fun n q=>by kernel_rfl
theorem Bpl (K:Nat):XF [.tmp 4] s_39 18 [] (Btt K):=xkF gN oN
theorem Bm6 (K:Nat)(n:Nat):CF [.tmp 4] s_39 18 [] (bd Tryz.f218) [] 26 (ar A74 (A75 K n)):=
 Aeg (Bpl K) (Bm5 K) (fun n=>kN) n
theorem A99 (K:Nat):OkF 218 (Bd1 K):=
 Aa6 (x:=Btt K) (L:=[(26,ar A74 (A75 K K))]) (c0:=bd Tryz.f218) (Bpl K) (by intro a0 a1;show @Eq _ _ _;kernel_rfl) (kC (Bm6 K K) kN) Tryz.func218 trivial
def Arf (K:Nat)(a0:List Ba)(a1:Int):Option (Bool):=(if(0:Int)≤a1∧a1<(a0.length:Int)then(bif (((gt a0 a1).Hh)==1)then(if(0:Int)≤a1∧a1<(a0.length:Int)then(bif (((gt a0 a1).fUp) != 0)then((Aqy K a0 a1).bind fun r1=>some (!r1))else some false)else none)else some false)else none)
def Bx5:Sig:=⟨[.v 29,.v 3],[.v 4],true⟩
def Btu (K:Nat):Gb tyU:=⟨Bx5,Arf K⟩
def B3t (K:Nat):=xF Bx5 [(225,Bmm K)] [] 25 [10,11,17,18,19] [] [] [] [.tmp 4]
theorem Bpm (K:Nat):OkF 221 (Btu K):=
 Aa6 (x:=B3t K) (L:=[]) (c0:=bd Tryz.f221) (xkF (gC (Bgc K) gN) oN) (by intro a0 a1;show @Eq _ _ _;kernel_rfl) kN Tryz.func221 trivial
def Ar7 (K:Nat)(a0:List Ba):Nat->Int->(List Int)->Option ((List Int))
 |0,_,_=>none
 |n1+1,v1,v2=>((Aov K a0 v1).bind fun r3=>(bif r3 then(bif (decide ((v2.length:Int)<(a0.length:Int)))then(if(v2++([(Aob .i64 v1 1)]:List Int)).length*8≤140737488355328∧(v2++([(Aob .i64 v1 1)]:List Int)).length≤maxLen then(if(0:Int)≤(Aob .i64 v1 1)∧(Aob .i64 v1 1)<(a0.length:Int)then(Ar7 K a0 n1 ((gt a0 (Aob .i64 v1 1)).Gr) (v2++([(Aob .i64 v1 1)]:List Int)))else none)else none)else some v2)else some v2))
def Atx (K:Nat)(a0:List Ba)(a1:Int):Option ((List Int)):=(Ar7 K a0 K a1 ([]:List Int))
def s_41:Sig:=⟨[.v 29,.v 3],[.n 26 true],true⟩
def Btv (K:Nat):Gb tyU:=⟨s_41,Atx K⟩
def Btw (K:Nat):=xF s_41 [(244,Bd0 K)] [] 29 [9,10] [] [] [] [.tmp 4]
def A76:E5:=⟨[(0,.v 29),(1,.v 2),(5,.o 1005 3 true)],[]⟩
def A77 (K:Nat)(n:Nat)(q:PT A76):Rt s_41:=Ar7 K q.1 n q.2.1 q.2.2.1
theorem Bm7 (K:Nat):AtL (Btw K) (fun n=>[]) [] (bd Tryz.f202) 28 (A77 K):=fun n q=>by kernel_rfl
theorem Bpn (K:Nat):XF [.tmp 4] s_41 29 [] (Btw K):=xkF (gC (A98 K) gN) oN
theorem Bm8 (K:Nat)(n:Nat):CF [.tmp 4] s_41 29 [] (bd Tryz.f202) [] 28 (ar A76 (A77 K n)):=
 Aeg (Bpn K) (Bm7 K) (fun n=>kN) n
theorem Bpo (K:Nat):OkF 202 (Btv K):=
 Aa6 (x:=Btw K) (L:=[(28,ar A76 (A77 K K))]) (c0:=bd Tryz.f202) (Bpn K) (by intro a0 a1;show @Eq _ _ _;kernel_rfl) (kC (Bm8 K K) kN) Tryz.func202 trivial
def Ank (K:Nat)(v4:Int)(v15:List Ax)(v20:List Int)(v21:Int)(C3:(List Int)->Int->Option (Bool)):Nat->Int->Option (Bool)
 |0,_=>none
 |n5+1,v22=>(if(0:Int)≤v4∧v4<(v15.length:Int)then(bif (decide (v22<(((gt v15 v4).Ae).length:Int)))then(if(0:Int)≤v21∧v21<(v15.length:Int)then(if(0:Int)≤v4∧v4<(v15.length:Int)then(if(0:Int)≤v22∧v22<(((gt v15 v4).Ae).length:Int)then((Apu K ((gt v15 v21).Ae) (gt ((gt v15 v4).Ae) v22)).bind fun r23=>(bif r23 then some false else(Ank K v4 v15 v20 v21 C3 n5 (Aoa .i64 v22 1))))else none)else none)else none)else(C3 v20 (Aoa .i64 v21 1)))else none)
def Aqi (K:Nat)(v4:Int)(v15:List Ax)(v20:List Int)(v21:Int)(C3:(List Int)->Int->Option (Bool)):Option (Bool):=(Ank K v4 v15 v20 v21 (C3) K 0)
def Ak5 (K:Nat)(v4:Int)(v5:Int)(v6:Int)(v7:Int)(v8:Int)(v9:Int)(v10:Int)(v11:List Int)(v12:List Int)(v13:List Int)(v14:List Ba)(v15:List Ax)(v16:List Int)(v17:Int)(v18:Int)(C1:Int->Int->(List Int)->Int->Int->Int->Int->Int->Int->Int->(List Int)->(List Int)->(List Int)->(List Ba)->(List Ax)->(List Int)->Option (Bool)):Nat->(List Int)->Int->Option (Bool)
 |0,_,_=>none
 |n3+1,v20,v21=>(bif (decide (v21<v4))then(if(0:Int)≤v4∧v4<(v15.length:Int)then(bif (((gt v15 v4).A5) != 0)then(if(0:Int)≤v21∧v21<(v15.length:Int)then(if(0:Int)≤v4∧v4<(v15.length:Int)then(bif (((gt v15 v21).A5)==((gt v15 v4).A5))then some false else(Aqi K v4 v15 v20 v21 (Ak5 K v4 v5 v6 v7 v8 v9 v10 v11 v12 v13 v14 v15 v16 v17 v18 C1 n3)))else none)else none)else(Aqi K v4 v15 v20 v21 (Ak5 K v4 v5 v6 v7 v8 v9 v10 v11 v12 v13 v14 v15 v16 v17 v18 C1 n3)))else none)else(C1 v17 v18 v20 (Aoa .i64 v4 1) v5 v6 v7 v8 v9 v10 v11 v12 v13 v14 v15 v16))
def Aqj (K:Nat)(v3:List Int)(v4:Int)(v5:Int)(v6:Int)(v7:Int)(v8:Int)(v9:Int)(v10:Int)(v11:List Int)(v12:List Int)(v13:List Int)(v14:List Ba)(v15:List Ax)(v16:List Int)(C1:Int->Int->(List Int)->Int->Int->Int->Int->Int->Int->Int->(List Int)->(List Int)->(List Int)->(List Ba)->(List Ax)->(List Int)->Option (Bool))(v17:Int)(v18:Int):Option (Bool):=(if(0:Int)≤v4∧v4<(v15.length:Int)then((Atx K v14 ((gt v15 v4).Bt)).bind fun r19=>(if(v3++r19).length*8≤140737488355328∧(v3++r19).length≤maxLen then(Ak5 K v4 v5 v6 v7 v8 v9 v10 v11 v12 v13 v14 v15 v16 v17 v18 (C1) K (v3++r19) 0)else none))else none)
def Arz (K:Nat)(v25:Int)(C6:Int->Int->Option (Bool))(v27:Int):Option (Bool):=(C6 v27 (Aoa .i64 v25 1))
def Ak7 (K:Nat)(v1:Int)(v2:Int)(v3:List Int)(v11:List Int)(v12:List Int)(v13:List Int)(v14:List Ba)(v24:Int):Nat->Int->Option (Bool)
 |0,_=>none
 |n8+1,v28=>(bif (decide (v28<(v3.length:Int)))then(if(0:Int)≤0∧0≤v28∧v28≤(v3.length:Int)then(if(0:Int)≤v28∧v28<(v3.length:Int)then((Apu K ((v3.drop (0:Int).toNat).take (v28 - 0).toNat) (gt v3 v28)).bind fun r29=>(bif r29 then some false else(Ak7 K v1 v2 v3 v11 v12 v13 v14 v24 n8 (Aoa .i64 v28 1))))else none)else none)else((Au4 K (Dw.mk v11 v12 v13) 2).bind fun r30=>(bif (v1==r30)then((Asi K v14 2).bind fun r31=>(bif (v2==r31)then some ((v3.length:Int)==v24)else some false))else some false)))
def Ahs (K:Nat)(v1:Int)(v2:Int)(v3:List Int)(v11:List Int)(v12:List Int)(v13:List Int)(v14:List Ba):Nat->Int->Int->Option (Bool)
 |0,_,_=>none
 |n6+1,v24,v25=>(bif (decide (v25<(v14.length:Int)))then((Arf K v14 v25).bind fun r26=>(bif r26 then(Arz K v25 (Ahs K v1 v2 v3 v11 v12 v13 v14 n6) (Aoa .i64 v24 1))else(Arz K v25 (Ahs K v1 v2 v3 v11 v12 v13 v14 n6) v24)))else(Ak7 K v1 v2 v3 v11 v12 v13 v14 v24 K 0))
def Ag0 (K:Nat):Nat->Int->Int->(List Int)->Int->Int->Int->Int->Int->Int->Int->(List Int)->(List Int)->(List Int)->(List Ba)->(List Ax)->(List Int)->Option (Bool)
 |0,_,_,_,_,_,_,_,_,_,_,_,_,_,_,_,_=>none
 |n1+1,v1,v2,v3,v4,v5,v6,v7,v8,v9,v10,v11,v12,v13,v14,v15,v16=>(bif (decide (v4<(v15.length:Int)))then(if(0:Int)≤v4∧v4<(v15.length:Int)then(if(0:Int)≤v4∧v4<(v15.length:Int)then(bif (((gt v15 v4).A5) != 0)then(Aqj K v3 v4 v5 v6 v7 v8 v9 v10 v11 v12 v13 v14 v15 v16 (Ag0 K n1) (Aoa .i64 v1 (((gt v15 v4).Ae).length:Int)) (Aoa .i64 v2 1))else(Aqj K v3 v4 v5 v6 v7 v8 v9 v10 v11 v12 v13 v14 v15 v16 (Ag0 K n1) (Aoa .i64 v1 (((gt v15 v4).Ae).length:Int)) v2))else none)else none)else(Ahs K v1 v2 v3 v11 v12 v13 v14 K 0 0))
def Atd (K:Nat)(a0:Eb):Option (Bool):=(Ag0 K K 0 0 ([]:List Int) 0 a0.fC.Ae a0.fC.Eg a0.fC.C0 a0.fC.E9 a0.fC.C1 a0.fC.Eh a0.fP.Fy a0.fP.Hh a0.fP.Fz a0.fL a0.fQ a0.Pr)
def s_42:Sig:=⟨[.v 32],[.v 4],true⟩
def Bx6 (K:Nat):Gb tyU:=⟨s_42,Atd K⟩
def A58 (K:Nat):=xF s_42 [(202,Btv K),(218,Bd1 K),(221,Btu K),(222,Bx1 K),(223,Bx3 K)] [] 148 [60,61,134,135,140,141,142] [] [] [4073,8009,2050532] [.tmp 2]
def Ax9:E5:=⟨[(1,.p 101),(3,.v 2),(4,.v 2),(5,.o 1005 3 true),(6,.v 2),(7,.v 2),(8,.v 2)],[(101,.box [.v 2,.v 2,.v 2,.v 2,.v 2,.v 2,.v 22,.v 26,.v 26,.v 29,.v 30,.v 26])]⟩
def Ayt:E5:=⟨[(1,.p 101),(3,.v 2),(4,.v 2),(5,.o 1005 3 true),(6,.v 2),(7,.v 2)],[(101,.box [.v 2,.v 2,.v 2,.v 2,.v 2,.v 2,.v 22,.v 26,.v 26,.v 29,.v 30,.v 26])]⟩
def Ans:E5:=⟨[(1,.p 101),(3,.v 2),(4,.v 2),(5,.o 1005 3 true),(6,.v 2),(7,.v 2)],[(101,.box [.v 2,.v 2,.v 2,.v 2,.v 2,.v 2,.v 22,.v 26,.v 26,.v 29,.v 30,.v 26])]⟩
def A1s:E5:=⟨[(1,.p 101),(3,.v 2),(4,.v 2),(5,.o 1005 3 true),(6,.v 2)],[(101,.box [.v 2,.v 2,.v 2,.v 2,.v 2,.v 2,.v 22,.v 26,.v 26,.v 29,.v 30,.v 26])]⟩
def A1t:E5:=⟨[(1,.p 101),(3,.v 2),(4,.v 2),(5,.o 1005 3 true),(9,.v 2),(10,.v 2)],[(101,.box [.v 2,.v 2,.v 2,.v 2,.v 2,.v 2,.v 22,.v 26,.v 26,.v 29,.v 30,.v 26])]⟩
def A1u:E5:=⟨[(1,.p 101),(3,.v 2),(4,.v 2),(5,.o 1005 3 true),(9,.v 2),(11,.v 2)],[(101,.box [.v 2,.v 2,.v 2,.v 2,.v 2,.v 2,.v 22,.v 26,.v 26,.v 29,.v 30,.v 26])]⟩
def Auv:E5:=⟨[(1,.p 101),(3,.v 2),(4,.v 2),(5,.o 1005 3 true),(9,.v 2),(10,.v 2)],[(101,.box [.v 2,.v 2,.v 2,.v 2,.v 2,.v 2,.v 22,.v 26,.v 26,.v 29,.v 30,.v 26])]⟩
def Ak8:E5:=⟨[(1,.p 101),(3,.v 2),(4,.v 2),(5,.o 1005 3 true),(6,.v 2)],[(101,.box [.v 2,.v 2,.v 2,.v 2,.v 2,.v 2,.v 22,.v 26,.v 26,.v 29,.v 30,.v 26])]⟩
def Aya (K:Nat)(C250:CT Ak8 s_42)(C128158:CT Ans s_42)(n:Nat)(q:PT Ax9):Rt s_42:=Ank K q.2.2.2.1 q.2.2.2.2.2.2.2.2.2.2.2.2.2.2.2.2.1 q.2.2.1 q.2.2.2.2.1 (fun v20 v21=>C128158 (q.1,q.2.1,v20,q.2.2.2.1,v21,q.2.2.2.2.2.2.1,q.2.2.2.2.2.2.2.1,q.2.2.2.2.2.2.2.2.1,q.2.2.2.2.2.2.2.2.2.1,q.2.2.2.2.2.2.2.2.2.2.1,q.2.2.2.2.2.2.2.2.2.2.2.1,q.2.2.2.2.2.2.2.2.2.2.2.2.1,q.2.2.2.2.2.2.2.2.2.2.2.2.2.1,q.2.2.2.2.2.2.2.2.2.2.2.2.2.2.1,q.2.2.2.2.2.2.2.2.2.2.2.2.2.2.2.1,q.2.2.2.2.2.2.2.2.2.2.2.2.2.2.2.2.1,q.2.2.2.2.2.2.2.2.2.2.2.2.2.2.2.2.2.1,())) n q.2.2.2.2.2.1
def Ayu (K:Nat)(C250:CT Ak8 s_42)(C128158:CT Ans s_42)(q:PT Ayt):Rt s_42:=Aqi K q.2.2.2.1 q.2.2.2.2.2.2.2.2.2.2.2.2.2.2.2.1 q.2.2.1 q.2.2.2.2.1 (fun v20 v21=>C128158 (q.1,q.2.1,v20,q.2.2.2.1,v21,q.2.2.2.2.2.1,q.2.2.2.2.2.2.1,q.2.2.2.2.2.2.2.1,q.2.2.2.2.2.2.2.2.1,q.2.2.2.2.2.2.2.2.2.1,q.2.2.2.2.2.2.2.2.2.2.1,q.2.2.2.2.2.2.2.2.2.2.2.1,q.2.2.2.2.2.2.2.2.2.2.2.2.1,q.2.2.2.2.2.2.2.2.2.2.2.2.2.1,q.2.2.2.2.2.2.2.2.2.2.2.2.2.2.1,q.2.2.2.2.2.2.2.2.2.2.2.2.2.2.2.1,q.2.2.2.2.2.2.2.2.2.2.2.2.2.2.2.2.1,()))
def Awn (K:Nat)(C250:CT Ak8 s_42)(n:Nat)(q:PT Ans):Rt s_42:=Ak5 K q.2.2.2.1 q.2.2.2.2.2.1 q.2.2.2.2.2.2.1 q.2.2.2.2.2.2.2.1 q.2.2.2.2.2.2.2.2.1 q.2.2.2.2.2.2.2.2.2.1 q.2.2.2.2.2.2.2.2.2.2.1 q.2.2.2.2.2.2.2.2.2.2.2.1 q.2.2.2.2.2.2.2.2.2.2.2.2.1 q.2.2.2.2.2.2.2.2.2.2.2.2.2.1 q.2.2.2.2.2.2.2.2.2.2.2.2.2.2.1 q.2.2.2.2.2.2.2.2.2.2.2.2.2.2.2.1 q.2.2.2.2.2.2.2.2.2.2.2.2.2.2.2.2.1 q.1 q.2.1 (fun v1 v2 v3 v4 v5 v6 v7 v8 v9 v10 v11 v12 v13 v14 v15 v16=>C250 (v1,v2,v3,v4,v5,v6,v7,v8,v9,v10,v11,v12,v13,v14,v15,v16,())) n q.2.2.1 q.2.2.2.2.1
def A1v (K:Nat)(C250:CT Ak8 s_42)(q:PT A1s):Rt s_42:=Aqj K q.2.2.1 q.2.2.2.1 q.2.2.2.2.1 q.2.2.2.2.2.1 q.2.2.2.2.2.2.1 q.2.2.2.2.2.2.2.1 q.2.2.2.2.2.2.2.2.1 q.2.2.2.2.2.2.2.2.2.1 q.2.2.2.2.2.2.2.2.2.2.1 q.2.2.2.2.2.2.2.2.2.2.2.1 q.2.2.2.2.2.2.2.2.2.2.2.2.1 q.2.2.2.2.2.2.2.2.2.2.2.2.2.1 q.2.2.2.2.2.2.2.2.2.2.2.2.2.2.1 q.2.2.2.2.2.2.2.2.2.2.2.2.2.2.2.1 (fun v1 v2 v3 v4 v5 v6 v7 v8 v9 v10 v11 v12 v13 v14 v15 v16=>C250 (v1,v2,v3,v4,v5,v6,v7,v8,v9,v10,v11,v12,v13,v14,v15,v16,())) q.1 q.2.1
def A1w (K:Nat)(C1018:CT Auv s_42)(q:PT A1t):Rt s_42:=Arz K q.2.2.2.2.1 (fun v24 v25=>C1018 (q.1,q.2.1,q.2.2.1,v24,v25,q.2.2.2.2.2.1,q.2.2.2.2.2.2.1,q.2.2.2.2.2.2.2.1,q.2.2.2.2.2.2.2.2.1,q.2.2.2.2.2.2.2.2.2.1,q.2.2.2.2.2.2.2.2.2.2.1,q.2.2.2.2.2.2.2.2.2.2.2.1,q.2.2.2.2.2.2.2.2.2.2.2.2.1,q.2.2.2.2.2.2.2.2.2.2.2.2.2.1,q.2.2.2.2.2.2.2.2.2.2.2.2.2.2.1,q.2.2.2.2.2.2.2.2.2.2.2.2.2.2.2.1,q.2.2.2.2.2.2.2.2.2.2.2.2.2.2.2.2.1,())) q.2.2.2.1
def A1x (K:Nat)(n:Nat)(q:PT A1u):Rt s_42:=Ak7 K q.1 q.2.1 q.2.2.1 q.2.2.2.2.2.2.2.2.2.2.2.1 q.2.2.2.2.2.2.2.2.2.2.2.2.1 q.2.2.2.2.2.2.2.2.2.2.2.2.2.1 q.2.2.2.2.2.2.2.2.2.2.2.2.2.2.1 q.2.2.2.1 n q.2.2.2.2.1
def Ayh (K:Nat)(n:Nat)(q:PT Auv):Rt s_42:=Ahs K q.1 q.2.1 q.2.2.1 q.2.2.2.2.2.2.2.2.2.2.2.1 q.2.2.2.2.2.2.2.2.2.2.2.2.1 q.2.2.2.2.2.2.2.2.2.2.2.2.2.1 q.2.2.2.2.2.2.2.2.2.2.2.2.2.2.1 n q.2.2.2.1 q.2.2.2.2.1
def Ay9 (K:Nat)(n:Nat)(q:PT Ak8):Rt s_42:=Ag0 K n q.1 q.2.1 q.2.2.1 q.2.2.2.1 q.2.2.2.2.1 q.2.2.2.2.2.1 q.2.2.2.2.2.2.1 q.2.2.2.2.2.2.2.1 q.2.2.2.2.2.2.2.2.1 q.2.2.2.2.2.2.2.2.2.1 q.2.2.2.2.2.2.2.2.2.2.1 q.2.2.2.2.2.2.2.2.2.2.2.1 q.2.2.2.2.2.2.2.2.2.2.2.2.1 q.2.2.2.2.2.2.2.2.2.2.2.2.2.1 q.2.2.2.2.2.2.2.2.2.2.2.2.2.2.1 q.2.2.2.2.2.2.2.2.2.2.2.2.2.2.2.1
theorem A59 (K:Nat)(C250:CT Ak8 s_42)(C128158:CT Ans s_42):AtL (A58 K) (fun n=>[]) [(128158,ar Ans C128158),(250,ar Ak8 C250)] (bd Tryz.f148) 16404262 (Aya K C250 C128158):=fun n q=>by kernel_rfl
theorem A78 (K:Nat)(C250:CT Ak8 s_42)(C128158:CT Ans s_42):AtJ (A58 K) [(16404262,ar Ax9 (Aya K C250 C128158 K))] [(128158,ar Ans C128158),(250,ar Ak8 C250)] (bd Tryz.f148) 2050532 (Ayu K C250 C128158):=fun q=>by kernel_rfl
theorem Baa (K:Nat)(C250:CT Ak8 s_42):AtL (A58 K) (fun n=>[(2050532,ar Ayt (Ayu K C250 (Awn K C250 n)))]) [(250,ar Ak8 C250)] (bd Tryz.f148) 128158 (Awn K C250):=fun n q=>by kernel_rfl
theorem Bd2 (K:Nat)(C250:CT Ak8 s_42):AtJ (A58 K) [(128158,ar Ans (Awn K C250 K))] [(250,ar Ak8 C250)] (bd Tryz.f148) 8009 (A1v K C250):=fun q=>by kernel_rfl
theorem Bd3 (K:Nat)(C1018:CT Auv s_42):AtJ (A58 K) [] [(1018,ar Auv C1018)] (bd Tryz.f148) 4073 (A1w K C1018):=fun q=>by kernel_rfl
theorem Bd4 (K:Nat):AtL (A58 K) (fun n=>[]) [] (bd Tryz.f148) 2042 (A1x K):=fun n q=>by kernel_rfl
theorem Bd5 (K:Nat):AtL (A58 K) (fun n=>[(4073,ar A1t (A1w K (Ayh K n))),(2042,ar A1u (A1x K K))]) [] (bd Tryz.f148) 1018 (Ayh K):=fun n q=>by kernel_rfl
theorem Bgp (K:Nat):AtL (A58 K) (fun n=>[(8009,ar A1s (A1v K (Ay9 K n))),(1018,ar Auv (Ayh K K))]) [] (bd Tryz.f148) 250 (Ay9 K):=fun n q=>by kernel_rfl
theorem A05 (K:Nat):XF [.tmp 2] s_42 148 [4073,8009,2050532] (A58 K):=xkF (gC (Bpo K) (gC (A99 K) (gC (Bpm K) (gC (Bx2 K) (gC (Bx4 K) gN))))) oN
theorem A6a (K:Nat)(C250:CT Ak8 s_42)(C128158:CT Ans s_42)(n:Nat):CF [.tmp 2] s_42 148 [4073,8009,2050532] (bd Tryz.f148) [(128158,ar Ans C128158),(250,ar Ak8 C250)] 16404262 (ar Ax9 (Aya K C250 C128158 n)):=
 Aeg (A05 K) (A59 K C250 C128158) (fun n=>kN) n
theorem A79 (K:Nat)(C250:CT Ak8 s_42)(C128158:CT Ans s_42):CF [.tmp 2] s_42 148 [4073,8009,2050532] (bd Tryz.f148) [(128158,ar Ans C128158),(250,ar Ak8 C250)] 2050532 (ar Ayt (Ayu K C250 C128158)):=
 Apg (A05 K) (A78 K C250 C128158) (kC (A6a K C250 C128158 K) kN)
theorem Bab (K:Nat)(C250:CT Ak8 s_42)(n:Nat):CF [.tmp 2] s_42 148 [4073,8009,2050532] (bd Tryz.f148) [(250,ar Ak8 C250)] 128158 (ar Ans (Awn K C250 n)):=
 Aeg (A05 K) (Baa K C250) (fun n=>(kC (A79 K C250 (Awn K C250 n)) kN)) n
theorem Bd6 (K:Nat)(C250:CT Ak8 s_42):CF [.tmp 2] s_42 148 [4073,8009,2050532] (bd Tryz.f148) [(250,ar Ak8 C250)] 8009 (ar A1s (A1v K C250)):=
 Apg (A05 K) (Bd2 K C250) (kC (Bab K C250 K) kN)
theorem Bd7 (K:Nat)(C1018:CT Auv s_42):CF [.tmp 2] s_42 148 [4073,8009,2050532] (bd Tryz.f148) [(1018,ar Auv C1018)] 4073 (ar A1t (A1w K C1018)):=
 Apg (A05 K) (Bd3 K C1018) kN
theorem Bd8 (K:Nat)(n:Nat):CF [.tmp 2] s_42 148 [4073,8009,2050532] (bd Tryz.f148) [] 2042 (ar A1u (A1x K n)):=
 Aeg (A05 K) (Bd4 K) (fun n=>kN) n
theorem Bd9 (K:Nat)(n:Nat):CF [.tmp 2] s_42 148 [4073,8009,2050532] (bd Tryz.f148) [] 1018 (ar Auv (Ayh K n)):=
 Aeg (A05 K) (Bd5 K) (fun n=>(kC (Bd7 K (Ayh K n)) (kC (Ao2 (by kernel_rfl) (Bd8 K K)) kN))) n
theorem Bgq (K:Nat)(n:Nat):CF [.tmp 2] s_42 148 [4073,8009,2050532] (bd Tryz.f148) [] 250 (ar Ak8 (Ay9 K n)):=
 Aeg (A05 K) (Bgp K) (fun n=>(kC (Bd6 K (Ay9 K n)) (kC (Ao2 (by kernel_rfl) (Bd9 K K)) kN))) n
theorem Bx7 (K:Nat):OkF 148 (Bx6 K):=
 Aa6 (x:=A58 K) (L:=[(250,ar Ak8 (Ay9 K K))]) (c0:=bd Tryz.f148) (A05 K) (by intro a0;show @Eq _ _ _;kernel_rfl) (kC (Bgq K K) kN) Tryz.func148 trivial
def Ant (K:Nat)(a0:Er)(v8:List Int):Nat->Int->Option (Bool)
 |0,_=>none
 |n3+1,v12=>(bif (decide (v12<(v8.length:Int)))then(if(0:Int)≤v12∧v12<(v8.length:Int)then((Abk K (gt v8 v12) 0 (Aob .i64 a0.Ae 1)).bind fun r13=>(bif r13 then(if(0:Int)≤0∧0≤v12∧v12≤(v8.length:Int)then(if(0:Int)≤v12∧v12<(v8.length:Int)then((Apu K ((v8.drop (0:Int).toNat).take (v12 - 0).toNat) (gt v8 v12)).bind fun r14=>(bif r14 then some false else(Ant K a0 v8 n3 (Aoa .i64 v12 1))))else none)else none)else some false))else none)else some true)
def Apr (K:Nat)(a0:Er)(v7:List Int)(v8:List Int):Nat->Int->Option (Bool)
 |0,_=>none
 |n2+1,v10=>(bif (decide (v10<(v7.length:Int)))then(if(0:Int)≤v10∧v10<(v7.length:Int)then((Abk K (gt v7 v10) 0 255).bind fun r11=>(bif (!r11)then some false else(Apr K a0 v7 v8 n2 (Aoa .i64 v10 1))))else none)else(Ant K a0 v8 K 0))
def Ate (K:Nat)(a0:Er)(v5:Int)(v6:Int)(v7:List Int)(v8:List Int)(v9:Int):Option (Bool):=(Apr K a0 v7 v8 K 0)
def Au5 (K:Nat)(a0:Er)(a1:Ax):Option (Bool):=((Aq8 K a0).bind fun r1=>(bif r1 then((Abk K a1.A5 0 a0.C0).bind fun r2=>(bif r2 then((Abk K a1.Bt 0 a0.C0).bind fun r3=>(bif r3 then(bif (decide ((a1.Dg.length:Int)>6))then some false else((Abk K a1.Gu 0 (Aob .i64 a0.Eg 1)).bind fun r4=>(bif r4 then(bif ((a1.Ae.length:Int)==0)then(bif (a1.Gu != 0)then some false else(Ate K a0 a1.A5 a1.Bt a1.Dg a1.Ae a1.Gu))else(Ate K a0 a1.A5 a1.Bt a1.Dg a1.Ae a1.Gu))else some false)))else some false))else some false))else some false))
def s_43:Sig:=⟨[.v 25,.v 159],[.v 4],true⟩
def Bx8 (K:Nat):Gb tyU:=⟨s_43,Au5 K⟩
def Bgr (K:Nat):=xF s_43 [(84,A57 K),(210,Bf7 K),(218,Bd1 K)] [] 95 [8,9,10,15,16,17,18,23,24,25,26,30,31,32,38,39,40,41,45,46,81,82,83] [] [] [3] [.tmp 4]
def A3g:E5:=⟨[(2,.p 102),(3,.p 103),(6,.v 2)],[(103,.box [.v 2,.v 2,.v 26,.v 26,.v 2]),(102,.st 25 true)]⟩
def A8a:E5:=⟨[(2,.p 102),(3,.p 103),(5,.v 2)],[(103,.box [.v 2,.v 2,.v 26,.v 26,.v 2]),(102,.st 25 true)]⟩
def Bbo:E5:=⟨[(2,.p 102),(3,.p 103)],[(103,.box [.v 2,.v 2,.v 26,.v 26,.v 2]),(102,.st 25 true)]⟩
def A3h (K:Nat)(n:Nat)(q:PT A3g):Rt s_43:=Ant K q.2.2.2.2.2.2.1 q.2.2.2.2.1 n q.1
def A8b (K:Nat)(n:Nat)(q:PT A8a):Rt s_43:=Apr K q.2.2.2.2.2.2.1 q.2.2.2.1 q.2.2.2.2.1 n q.1
def Bbp (K:Nat)(q:PT Bbo):Rt s_43:=Ate K q.2.2.2.2.2.1 q.1 q.2.1 q.2.2.1 q.2.2.2.1 q.2.2.2.2.1
theorem Bgs (K:Nat):AtL (Bgr K) (fun n=>[]) [] (bd Tryz.f220) 122 (A3h K):=fun n q=>by kernel_rfl
theorem Bm9 (K:Nat):AtL (Bgr K) (fun n=>[(122,ar A3g (A3h K K))]) [] (bd Tryz.f220) 58 (A8b K):=fun n q=>by kernel_rfl
theorem Btx (K:Nat):AtJ (Bgr K) [(58,ar A8a (A8b K K))] [] (bd Tryz.f220) 3 (Bbp K):=fun q=>by kernel_rfl
theorem Bda (K:Nat):XF [.tmp 4] s_43 95 [3] (Bgr K):=xkF (gC (A00 K) (gC (Bc8 K) (gC (A99 K) gN))) oN
theorem Bgt (K:Nat)(n:Nat):CF [.tmp 4] s_43 95 [3] (bd Tryz.f220) [] 122 (ar A3g (A3h K n)):=
 Aeg (Bda K) (Bgs K) (fun n=>kN) n
theorem Bna (K:Nat)(n:Nat):CF [.tmp 4] s_43 95 [3] (bd Tryz.f220) [] 58 (ar A8a (A8b K n)):=
 Aeg (Bda K) (Bm9 K) (fun n=>(kC (Ao2 (by kernel_rfl) (Bgt K K)) kN)) n
theorem Bty (K:Nat):CF [.tmp 4] s_43 95 [3] (bd Tryz.f220) [] 3 (ar Bbo (Bbp K)):=
 Apg (Bda K) (Btx K) (kC (Bna K K) kN)
theorem Bx9 (K:Nat):OkF 220 (Bx8 K):=
 Aa6 (x:=Bgr K) (L:=[(3,ar Bbo (Bbp K))]) (c0:=bd Tryz.f220) (Bda K) (by intro a0 a1;show @Eq _ _ _;kernel_rfl) (kC (Bty K) kN) Tryz.func220 trivial
def Apz (K:Nat)(v17:List Ba)(r21:(List Int)):Nat->Int->Option (Bool)
 |0,_=>none
 |n4+1,v22=>(bif (decide (v22<(r21.length:Int)))then(if(0:Int)≤v22∧v22<(r21.length:Int)then((Arf K v17 (gt r21 v22)).bind fun r23=>(bif (!r23)then some false else(Apz K v17 r21 n4 (Aoa .i64 v22 1))))else none)else some true)
def Aow (K:Nat)(v4:Int)(v17:List Ba):Option (Bool):=((Atx K v17 v4).bind fun r21=>(Apz K v17 r21 K 0))
def Aqz (K:Nat)(v3:Int)(v4:Int)(v17:List Ba):Option (Bool):=(bif (v3 != 0)then(if(0:Int)≤(Aob .i64 v3 1)∧(Aob .i64 v3 1)<(v17.length:Int)then(bif (((gt v17 (Aob .i64 v3 1)).Hh) != 2)then some false else(bif (v4 != 0)then(if(0:Int)≤(Aob .i64 v4 1)∧(Aob .i64 v4 1)<(v17.length:Int)then(bif (((gt v17 (Aob .i64 v4 1)).Gs) != 0)then some false else(Aow K v4 v17))else none)else(Aow K v4 v17)))else none)else(bif (v4 != 0)then(if(0:Int)≤(Aob .i64 v4 1)∧(Aob .i64 v4 1)<(v17.length:Int)then(bif (((gt v17 (Aob .i64 v4 1)).Gs) != 0)then some false else(Aow K v4 v17))else none)else(Aow K v4 v17)))
def Aox (K:Nat):Nat->Int->Int->Int->(List Int)->(List Int)->Int->Int->Int->Int->Int->Int->Int->(List Int)->(List Int)->(List Int)->(List Ba)->(List Ax)->(List Int)->Option (Bool)
 |0,_,_,_,_,_,_,_,_,_,_,_,_,_,_,_,_,_,_=>none
 |n1+1,v2,v3,v4,v5,v6,v7,v8,v9,v10,v11,v12,v13,v14,v15,v16,v17,v18,v19=>(bif (decide (v2<(v6.length:Int)))then(if(0:Int)≤v2∧v2<(v6.length:Int)then(if(0:Int)≤(gt v6 v2)∧(gt v6 v2)<(v15.length:Int)then(bif ((gt v15 (gt v6 v2)) != 2)then some false else(Aox K n1 (Aoa .i64 v2 1) v3 v4 v5 v6 v7 v8 v9 v10 v11 v12 v13 v14 v15 v16 v17 v18 v19))else none)else none)else(bif (decide ((v6.length:Int)>0))then(if(0:Int)≤0∧0<(v6.length:Int)then(if(0:Int)≤0∧0<(v6.length:Int)then(if(0:Int)≤(Aoc .i64 (gt v6 0) v9)∧(Aoc .i64 (gt v6 0) v9)≤(Aoa .i64 (Aoc .i64 (gt v6 0) v9) v7)∧(Aoa .i64 (Aoc .i64 (gt v6 0) v9) v7)≤(v14.length:Int)then((Asb K ((v14.drop (Aoc .i64 (gt v6 0) v9).toNat).take ((Aoa .i64 (Aoc .i64 (gt v6 0) v9) v7) - (Aoc .i64 (gt v6 0) v9)).toNat)).bind fun r20=>(bif (!r20)then some false else(Aqz K v3 v4 v17)))else none)else none)else none)else(Aqz K v3 v4 v17)))
def At7 (K:Nat)(a0:Eb)(a1:Int):Option (Bool):=(if(0:Int)≤a1∧a1<(a0.fQ.length:Int)then((Au5 K a0.fC (gt a0.fQ a1)).bind fun r1=>(bif (!r1)then some false else(Aox K K 0 ((gt a0.fQ a1).A5) ((gt a0.fQ a1).Bt) ((gt a0.fQ a1).Dg) ((gt a0.fQ a1).Ae) ((gt a0.fQ a1).Gu) a0.fC.Ae a0.fC.Eg a0.fC.C0 a0.fC.E9 a0.fC.C1 a0.fC.Eh a0.fP.Fy a0.fP.Hh a0.fP.Fz a0.fL a0.fQ a0.Pr)))else none)
def s_44:Sig:=⟨[.v 32,.v 3],[.v 4],true⟩
def Bya (K:Nat):Gb tyU:=⟨s_44,At7 K⟩
def Bea (K:Nat):=xF s_44 [(202,Btv K),(212,Bmh K),(220,Bx8 K),(221,Btu K)] [] 117 [40,41,70,71,80,81,82,85,86] [] [] [31,63] [.tmp 4]
def A1y:E5:=⟨[(2,.p 102),(7,.v 26),(8,.v 2)],[(102,.box [.v 2,.v 2,.v 2,.v 2,.v 2,.v 2,.v 22,.v 26,.v 26,.v 29,.v 30,.v 26])]⟩
def A8c:E5:=⟨[(2,.p 102),(5,.p 105)],[(105,.box [.v 2,.v 2,.v 26,.v 26,.v 2]),(102,.box [.v 2,.v 2,.v 2,.v 2,.v 2,.v 2,.v 22,.v 26,.v 26,.v 29,.v 30,.v 26])]⟩
def A8d:E5:=⟨[(2,.p 102),(5,.p 105)],[(105,.box [.v 2,.v 2,.v 26,.v 26,.v 2]),(102,.box [.v 2,.v 2,.v 2,.v 2,.v 2,.v 2,.v 22,.v 26,.v 26,.v 29,.v 30,.v 26])]⟩
def A3i:E5:=⟨[(2,.p 102),(5,.p 105),(6,.v 2)],[(105,.box [.v 2,.v 2,.v 26,.v 26,.v 2]),(102,.box [.v 2,.v 2,.v 2,.v 2,.v 2,.v 2,.v 22,.v 26,.v 26,.v 29,.v 30,.v 26])]⟩
def A1z (K:Nat)(n:Nat)(q:PT A1y):Rt s_44:=Apz K q.2.2.2.2.2.2.2.2.2.2.2.1 q.1 n q.2.1
def A8e (K:Nat)(q:PT A8c):Rt s_44:=Aow K q.2.1 q.2.2.2.2.2.2.2.2.2.2.2.2.2.2.1
def A8f (K:Nat)(q:PT A8d):Rt s_44:=Aqz K q.1 q.2.1 q.2.2.2.2.2.2.2.2.2.2.2.2.2.2.1
def A3j (K:Nat)(n:Nat)(q:PT A3i):Rt s_44:=Aox K n q.1 q.2.1 q.2.2.1 q.2.2.2.1 q.2.2.2.2.1 q.2.2.2.2.2.1 q.2.2.2.2.2.2.1 q.2.2.2.2.2.2.2.1 q.2.2.2.2.2.2.2.2.1 q.2.2.2.2.2.2.2.2.2.1 q.2.2.2.2.2.2.2.2.2.2.1 q.2.2.2.2.2.2.2.2.2.2.2.1 q.2.2.2.2.2.2.2.2.2.2.2.2.1 q.2.2.2.2.2.2.2.2.2.2.2.2.2.1 q.2.2.2.2.2.2.2.2.2.2.2.2.2.2.1 q.2.2.2.2.2.2.2.2.2.2.2.2.2.2.2.1 q.2.2.2.2.2.2.2.2.2.2.2.2.2.2.2.2.1 q.2.2.2.2.2.2.2.2.2.2.2.2.2.2.2.2.2.1
theorem Beb (K:Nat):AtL (Bea K) (fun n=>[]) [] (bd Tryz.f147) 2042 (A1z K):=fun n q=>by kernel_rfl
theorem Bnb (K:Nat):AtJ (Bea K) [(2042,ar A1y (A1z K K))] [] (bd Tryz.f147) 63 (A8e K):=fun q=>by kernel_rfl
theorem Bnc (K:Nat):AtJ (Bea K) [(63,ar A8c (A8e K))] [] (bd Tryz.f147) 31 (A8f K):=fun q=>by kernel_rfl
theorem Bgu (K:Nat):AtL (Bea K) (fun n=>[(31,ar A8d (A8f K))]) [] (bd Tryz.f147) 122 (A3j K):=fun n q=>by kernel_rfl
theorem Bac (K:Nat):XF [.tmp 4] s_44 117 [31,63] (Bea K):=xkF (gC (Bpo K) (gC (Bf8 K) (gC (Bx9 K) (gC (Bpm K) gN)))) oN
theorem Bec (K:Nat)(n:Nat):CF [.tmp 4] s_44 117 [31,63] (bd Tryz.f147) [] 2042 (ar A1y (A1z K n)):=
 Aeg (Bac K) (Beb K) (fun n=>kN) n
theorem Bnd (K:Nat):CF [.tmp 4] s_44 117 [31,63] (bd Tryz.f147) [] 63 (ar A8c (A8e K)):=
 Apg (Bac K) (Bnb K) (kC (Bec K K) kN)
theorem Bne (K:Nat):CF [.tmp 4] s_44 117 [31,63] (bd Tryz.f147) [] 31 (ar A8d (A8f K)):=
 Apg (Bac K) (Bnc K) (kC (Bnd K) kN)
theorem Bgv (K:Nat)(n:Nat):CF [.tmp 4] s_44 117 [31,63] (bd Tryz.f147) [] 122 (ar A3i (A3j K n)):=
 Aeg (Bac K) (Bgu K) (fun n=>(kC (Ao2 (by kernel_rfl) (Bne K)) kN)) n
theorem Byb (K:Nat):OkF 147 (Bya K):=
 Aa6 (x:=Bea K) (L:=[(122,ar A3i (A3j K K))]) (c0:=bd Tryz.f147) (Bac K) (by intro a0 a1;show @Eq _ _ _;kernel_rfl) (kC (Bgv K K) kN) Tryz.func147 trivial
def Axz (K:Nat)(a0:Ba):Option (Bool):=(bif (a0.Ly==0)then(bif (a0.fUp==0)then(bif (a0.Gq==0)then(bif (a0.Bt==0)then(bif (a0.Gr==0)then(bif (a0.Gs==0)then(bif ((a0.Ae.length:Int)==0)then(bif (a0.Pq==0)then(bif (a0.Gt==0)then(bif ((a0.Ea.length:Int)==0)then some ((a0.Dg.length:Int)==0)else some false)else some false)else some false)else some false)else some false)else some false)else some false)else some false)else some false)else some false)
def Byc:Sig:=⟨[.v 44],[.v 4],true⟩
def Byd (K:Nat):Gb tyU:=⟨Byc,Axz K⟩
def B3u (K:Nat):=xF Byc [] [] 59 [5,6,9,10,11,14,15,16,19,20,21,24,25,26,29,30,31,35,36,37,40,41,42,45,46,47,51,52,53] [] [] [] [.tmp 2]
theorem Bye (K:Nat):OkF 214 (Byd K):=
 Aa6 (x:=B3u K) (L:=[]) (c0:=bd Tryz.f214) (xkF gN oN) (by intro a0;show @Eq _ _ _;kernel_rfl) kN Tryz.func214 trivial
def Aoy (K:Nat)(a0:Er):Nat->Int->Int->Int->Int->Int->Int->Int->Int->Int->(List Int)->Int->Int->(List A9)->(List Int)->Option (Bool)
 |0,_,_,_,_,_,_,_,_,_,_,_,_,_,_=>none
 |n1+1,v1,v2,v3,v4,v5,v6,v7,v8,v9,v10,v11,v12,v13,v14=>(bif (decide (v1<(v10.length:Int)))then(if(0:Int)≤v1∧v1<(v10.length:Int)then((Abk K (gt v10 v1) 0 (Aob .i64 a0.Ae 1)).bind fun r15=>(bif r15 then(if(0:Int)≤0∧0≤v1∧v1≤(v10.length:Int)then(if(0:Int)≤v1∧v1<(v10.length:Int)then((Apu K ((v10.drop (0:Int).toNat).take (v1 - 0).toNat) (gt v10 v1)).bind fun r16=>(bif r16 then some false else(Aoy K a0 n1 (Aoa .i64 v1 1) v2 v3 v4 v5 v6 v7 v8 v9 v10 v11 v12 v13 v14)))else none)else none)else some false))else none)else(bif (v11==0)then some (v12==0)else((Apu K v10 (Aob .i64 v11 1)).bind fun r17=>(bif r17 then((Abk K v12 0 a0.Eg).bind fun r18=>some r18)else some false))))
def At8 (K:Nat)(a0:Er)(a1:Ba):Option (Bool):=(Aoy K a0 K 0 a1.Hh a1.C2 a1.Ly a1.fUp a1.Gq a1.Bt a1.Gr a1.Gs a1.Ae a1.Pq a1.Gt a1.Ea a1.Dg)
def s_46:Sig:=⟨[.v 25,.v 44],[.v 4],true⟩
def Byf (K:Nat):Gb tyU:=⟨s_46,At8 K⟩
def Btz (K:Nat):=xF s_46 [(84,A57 K),(218,Bd1 K)] [] 54 [21,22,23,46,47] [] [] [] [.tmp 4]
def A8g:E5:=⟨[(2,.p 102),(3,.p 103),(5,.v 2)],[(103,.box [.v 2,.v 2,.v 2,.v 2,.v 2,.v 2,.v 2,.v 2,.v 26,.v 2,.v 2,.v 41,.v 26]),(102,.st 25 true)]⟩
def A8h (K:Nat)(n:Nat)(q:PT A8g):Rt s_46:=Aoy K q.2.2.2.2.2.2.2.2.2.2.2.2.2.2.1 n q.1 q.2.1 q.2.2.1 q.2.2.2.1 q.2.2.2.2.1 q.2.2.2.2.2.1 q.2.2.2.2.2.2.1 q.2.2.2.2.2.2.2.1 q.2.2.2.2.2.2.2.2.1 q.2.2.2.2.2.2.2.2.2.1 q.2.2.2.2.2.2.2.2.2.2.1 q.2.2.2.2.2.2.2.2.2.2.2.1 q.2.2.2.2.2.2.2.2.2.2.2.2.1 q.2.2.2.2.2.2.2.2.2.2.2.2.2.1
theorem Bnf (K:Nat):AtL (Btz K) (fun n=>[]) [] (bd Tryz.f215) 26 (A8h K):=fun n q=>by kernel_rfl
theorem Bpp (K:Nat):XF [.tmp 4] s_46 54 [] (Btz K):=xkF (gC (A00 K) (gC (A99 K) gN)) oN
theorem Bng (K:Nat)(n:Nat):CF [.tmp 4] s_46 54 [] (bd Tryz.f215) [] 26 (ar A8g (A8h K n)):=
 Aeg (Bpp K) (Bnf K) (fun n=>kN) n
theorem Byg (K:Nat):OkF 215 (Byf K):=
 Aa6 (x:=Btz K) (L:=[(26,ar A8g (A8h K K))]) (c0:=bd Tryz.f215) (Bpp K) (by intro a0 a1;show @Eq _ _ _;kernel_rfl) (kC (Bng K K) kN) Tryz.func215 trivial
def Au6 (K:Nat)(a0:Er)(a1:Int):Option (Bool):=some (decide (a1>a0.Eg))
def Byh:Sig:=⟨[.v 25,.v 3],[.v 4],true⟩
def Byi (K:Nat):Gb tyU:=⟨Byh,Au6 K⟩
def B3v (K:Nat):=xF Byh [] [] 9 [] [] [] [] [.tmp 4]
theorem Byj (K:Nat):OkF 265 (Byi K):=
 Aa6 (x:=B3v K) (L:=[]) (c0:=bd Tryz.f265) (xkF gN oN) (by intro a0 a1;show @Eq _ _ _;kernel_rfl) kN Tryz.func265 trivial
def Au7 (K:Nat)(a0:Int)(a1:Int):Option (Int):=((Abk K a0 0 1000000000).bind fun r1=>(bif r1 then((Abk K a1 1 1000000000).bind fun r2=>(bif (!r2)then some 0 else(if a1≠(0:Int)then some (Alr .i64 (Aob .i64 (Aoa .i64 a0 a1) 1) a1)else none)))else some 0))
def Byk:Sig:=⟨[.v 3,.v 3],[.v 3],true⟩
def Byl (K:Nat):Gb tyU:=⟨Byk,Au7 K⟩
def B3w (K:Nat):=xF Byk [(84,A57 K)] [] 19 [6,7,8] [] [] [] [.tmp 4]
theorem Bym (K:Nat):OkF 296 (Byl K):=
 Aa6 (x:=B3w K) (L:=[]) (c0:=bd Tryz.f296) (xkF (gC (A00 K) gN) oN) (by intro a0 a1;show @Eq _ _ _;kernel_rfl) kN Tryz.func296 trivial
def Atf (K:Nat)(a0:Er)(a1:Int):Option (Int):=((Au7 K a1 a0.Eg).bind fun r1=>some r1)
def Byn:Sig:=⟨[.v 25,.v 3],[.v 3],true⟩
def Byo (K:Nat):Gb tyU:=⟨Byn,Atf K⟩
def B3x (K:Nat):=xF Byn [(296,Byl K)] [] 9 [] [] [] [] [.tmp 4]
theorem Byp (K:Nat):OkF 266 (Byo K):=
 Aa6 (x:=B3x K) (L:=[]) (c0:=bd Tryz.f266) (xkF (gC (Bym K) gN) oN) (by intro a0 a1;show @Eq _ _ _;kernel_rfl) kN Tryz.func266 trivial
def Arg (K:Nat)(a0:Er)(a1:A9):Option (Bool):=((Asv K a0).bind fun r1=>(bif (r1==0)then some false else(bif (decide (a1.Vu<1))then some false else(bif (decide (a1.fAt<0))then some false else(bif (decide (a1.fAt>r1))then some false else(bif (decide (a1.Vu>(Aob .i64 r1 a1.fAt)))then some false else(bif (a1.Vv==0)then(bif (decide (a1.Vu≤a0.Eg))then(if a0.Eg≠(0:Int)then(if a0.Eg≠(0:Int)then some ((Alr .i64 a1.fAt a0.Eg)==(Alr .i64 (Aob .i64 (Aoa .i64 a1.fAt a1.Vu) 1) a0.Eg))else none)else none)else some false)else((Au6 K a0 a1.Vu).bind fun r2=>(bif r2 then((Atf K a0 a1.Vu).bind fun r3=>(bif (a1.Vv==r3)then(if a0.Eg≠(0:Int)then some ((Int.tmod a1.fAt a0.Eg)==0)else none)else some false))else some false)))))))))
def Byq:Sig:=⟨[.v 25,.v 89],[.v 4],true⟩
def Bt0 (K:Nat):Gb tyU:=⟨Byq,Arg K⟩
def B3y (K:Nat):=xF Byq [(211,Bto K),(265,Byi K),(266,Byo K)] [] 81 [9,10,13,14,15,18,19,20,24,25,26,42,43,63,64,71,72,73] [] [] [] [.tmp 4]
theorem Bpq (K:Nat):OkF 216 (Bt0 K):=
 Aa6 (x:=B3y K) (L:=[]) (c0:=bd Tryz.f216) (xkF (gC (Bpi K) (gC (Byj K) (gC (Byp K) gN))) oN) (by intro a0 a1;show @Eq _ _ _;kernel_rfl) kN Tryz.func216 trivial
def Ap0 (K:Nat)(v23:List Int):Nat->Int->Option (Bool)
 |0,_=>none
 |n2+1,v25=>(bif (decide (v25<(v23.length:Int)))then(if(0:Int)≤v25∧v25<(v23.length:Int)then((Abk K (gt v23 v25) 0 255).bind fun r26=>(bif (!r26)then some false else(Ap0 K v23 n2 (Aoa .i64 v25 1))))else none)else some true)
def Api (K:Nat)(a0:Er):Nat->Int->Int->Int->Int->Int->Int->Int->Int->Int->(List Int)->Int->Int->(List A9)->(List Int)->Option (Bool)
 |0,_,_,_,_,_,_,_,_,_,_,_,_,_,_=>none
 |n1+1,v10,v11,v12,v13,v14,v15,v16,v17,v18,v19,v20,v21,v22,v23=>(bif (decide (v10<(v22.length:Int)))then(if(0:Int)≤v10∧v10<(v22.length:Int)then((Arg K a0 (gt v22 v10)).bind fun r24=>(bif (!r24)then some false else(Api K a0 n1 (Aoa .i64 v10 1) v11 v12 v13 v14 v15 v16 v17 v18 v19 v20 v21 v22 v23)))else none)else(Ap0 K v23 K 0))
def Awb (K:Nat)(a0:Er)(a1:Ba):Option (Bool):=((Aq8 K a0).bind fun r1=>(bif r1 then((Abk K a1.Hh 0 3).bind fun r2=>(bif r2 then((Abk K a1.C2 1 a0.Eh).bind fun r3=>(bif (!r3)then some false else(bif (a1.Hh != 1)then((Axz K a1).bind fun r4=>some r4)else(bif (decide (a1.Ly<0))then some false else(bif (decide (a1.Gq<0))then some false else((Abk K a1.fUp 0 a0.C0).bind fun r5=>(bif r5 then((Abk K a1.Bt 0 a0.C0).bind fun r6=>(bif r6 then((Abk K a1.Gr 0 a0.C0).bind fun r7=>(bif r7 then((Abk K a1.Gs 0 a0.C0).bind fun r8=>(bif r8 then((At8 K a0 a1).bind fun r9=>(bif r9 then(bif (decide ((a1.Ea.length:Int)>12))then some false else(bif (decide ((a1.Dg.length:Int)>6))then some false else(Api K a0 K 0 a1.Hh a1.C2 a1.Ly a1.fUp a1.Gq a1.Bt a1.Gr a1.Gs a1.Ae a1.Pq a1.Gt a1.Ea a1.Dg)))else some false))else some false))else some false))else some false))else some false)))))))else some false))else some false))
def s_51:Sig:=⟨[.v 25,.v 44],[.v 4],true⟩
def Byr (K:Nat):Gb tyU:=⟨s_51,Awb K⟩
def Bnh (K:Nat):=xF s_51 [(84,A57 K),(210,Bf7 K),(214,Byd K),(215,Byf K),(216,Bt0 K)] [] 116 [8,9,10,13,14,15,16,31,32,35,36,37,42,43,44,45,50,51,52,53,58,59,60,61,66,67,68,69,72,73,74,75,79,80,81] [] [] [] [.tmp 4]
def A3k:E5:=⟨[(3,.p 103),(6,.v 2)],[(103,.box [.v 2,.v 2,.v 2,.v 2,.v 2,.v 2,.v 2,.v 2,.v 26,.v 2,.v 2,.v 41,.v 26])]⟩
def A3l:E5:=⟨[(2,.p 102),(3,.p 103),(5,.v 2)],[(103,.box [.v 2,.v 2,.v 2,.v 2,.v 2,.v 2,.v 2,.v 2,.v 26,.v 2,.v 2,.v 41,.v 26]),(102,.st 25 true)]⟩
def A3m (K:Nat)(n:Nat)(q:PT A3k):Rt s_51:=Ap0 K q.2.2.2.2.2.2.2.2.2.2.2.2.2.1 n q.1
def A3n (K:Nat)(n:Nat)(q:PT A3l):Rt s_51:=Api K q.2.2.2.2.2.2.2.2.2.2.2.2.2.2.1 n q.1 q.2.1 q.2.2.1 q.2.2.2.1 q.2.2.2.2.1 q.2.2.2.2.2.1 q.2.2.2.2.2.2.1 q.2.2.2.2.2.2.2.1 q.2.2.2.2.2.2.2.2.1 q.2.2.2.2.2.2.2.2.2.1 q.2.2.2.2.2.2.2.2.2.2.1 q.2.2.2.2.2.2.2.2.2.2.2.1 q.2.2.2.2.2.2.2.2.2.2.2.2.1 q.2.2.2.2.2.2.2.2.2.2.2.2.2.1
theorem Bgw (K:Nat):AtL (Bnh K) (fun n=>[]) [] (bd Tryz.f142) 506 (A3m K):=fun n q=>by kernel_rfl
theorem Bgx (K:Nat):AtL (Bnh K) (fun n=>[(506,ar A3k (A3m K K))]) [] (bd Tryz.f142) 250 (A3n K):=fun n q=>by kernel_rfl
theorem Bgy (K:Nat):XF [.tmp 4] s_51 116 [] (Bnh K):=xkF (gC (A00 K) (gC (Bc8 K) (gC (Bye K) (gC (Byg K) (gC (Bpq K) gN))))) oN
theorem Bgz (K:Nat)(n:Nat):CF [.tmp 4] s_51 116 [] (bd Tryz.f142) [] 506 (ar A3k (A3m K n)):=
 Aeg (Bgy K) (Bgw K) (fun n=>kN) n
theorem Bg0 (K:Nat)(n:Nat):CF [.tmp 4] s_51 116 [] (bd Tryz.f142) [] 250 (ar A3l (A3n K n)):=
 Aeg (Bgy K) (Bgx K) (fun n=>(kC (Ao2 (by kernel_rfl) (Bgz K K)) kN)) n
theorem Bys (K:Nat):OkF 142 (Byr K):=
 Aa6 (x:=Bnh K) (L:=[(250,ar A3l (A3n K K))]) (c0:=bd Tryz.f142) (Bgy K) (by intro a0 a1;show @Eq _ _ _;kernel_rfl) (kC (Bg0 K K) kN) Tryz.func142 trivial
def Arh (K:Nat)(v2:Int)(v3:List Int)(v4:List Int)(v5:List Int)(C1:(List Int)->Int->(List Int)->(List Int)->(List Int)->Option ((List Int)))(v6:List Int):Option ((List Int)):=(C1 v6 (Aoa .i64 v2 1) v3 v4 v5)
def Alf (K:Nat)(a1:Int):Nat->(List Int)->Int->(List Int)->(List Int)->(List Int)->Option ((List Int))
 |0,_,_,_,_,_=>none
 |n1+1,v1,v2,v3,v4,v5=>(bif (decide (v2<(v4.length:Int)))then(bif (decide (v2<(v5.length:Int)))then(if(0:Int)≤v2∧v2<(v4.length:Int)then(bif ((gt v4 v2)==1)then(if(0:Int)≤v2∧v2<(v5.length:Int)then(bif ((gt v5 v2)==a1)then(if(v1++([v2]:List Int)).length*8≤140737488355328∧(v1++([v2]:List Int)).length≤maxLen then(Arh K v2 v3 v4 v5 (Alf K a1 n1) (v1++([v2]:List Int)))else none)else(Arh K v2 v3 v4 v5 (Alf K a1 n1) v1))else none)else(Arh K v2 v3 v4 v5 (Alf K a1 n1) v1))else none)else some v1)else some v1)
def Au8 (K:Nat)(a0:Dw)(a1:Int):Option ((List Int)):=(Alf K a1 K ([]:List Int) 0 a0.Fy a0.Hh a0.Fz)
def s_52:Sig:=⟨[.v 28,.v 3],[.n 26 true],true⟩
def Byt (K:Nat):Gb tyU:=⟨s_52,Au8 K⟩
def Bni (K:Nat):=xF s_52 [] [] 42 [12,13,27,28] [] [] [233] [.tmp 4]
def A3o:E5:=⟨[(1,.v 2),(2,.p 102),(5,.o 1005 3 true),(6,.v 2)],[(102,.box [.v 22,.v 26,.v 26])]⟩
def Ax0:E5:=⟨[(1,.v 2),(2,.p 102),(5,.o 1005 3 true),(6,.v 2)],[(102,.box [.v 22,.v 26,.v 26])]⟩
def A3p (K:Nat)(C58:CT Ax0 s_52)(q:PT A3o):Rt s_52:=Arh K q.2.2.1 q.2.2.2.1 q.2.2.2.2.1 q.2.2.2.2.2.1 (fun v1 v2 v3 v4 v5=>C58 (q.1,v1,v2,v3,v4,v5,())) q.2.1
def A06 (K:Nat)(n:Nat)(q:PT Ax0):Rt s_52:=Alf K q.1 n q.2.1 q.2.2.1 q.2.2.2.1 q.2.2.2.2.1 q.2.2.2.2.2.1
theorem Bg1 (K:Nat)(C58:CT Ax0 s_52):AtJ (Bni K) [] [(58,ar Ax0 C58)] (bd Tryz.f217) 233 (A3p K C58):=fun q=>by kernel_rfl
theorem Bnj (K:Nat):AtL (Bni K) (fun n=>[(233,ar A3o (A3p K (A06 K n)))]) [] (bd Tryz.f217) 58 (A06 K):=fun n q=>by kernel_rfl
theorem Bg2 (K:Nat):XF [.tmp 4] s_52 42 [233] (Bni K):=xkF gN oN
theorem Bg3 (K:Nat)(C58:CT Ax0 s_52):CF [.tmp 4] s_52 42 [233] (bd Tryz.f217) [(58,ar Ax0 C58)] 233 (ar A3o (A3p K C58)):=
 Apg (Bg2 K) (Bg1 K C58) kN
theorem Bnk (K:Nat)(n:Nat):CF [.tmp 4] s_52 42 [233] (bd Tryz.f217) [] 58 (ar Ax0 (A06 K n)):=
 Aeg (Bg2 K) (Bnj K) (fun n=>(kC (Bg3 K (A06 K n)) kN)) n
theorem Byu (K:Nat):OkF 217 (Byt K):=
 Aa6 (x:=Bni K) (L:=[(58,ar Ax0 (A06 K K))]) (c0:=bd Tryz.f217) (Bg2 K) (by intro a0 a1;show @Eq _ _ _;kernel_rfl) (kC (Bnk K K) kN) Tryz.func217 trivial
def Anl (K:Nat)(a1:Int)(r1:(List Int)):Nat->Int->Int->Int->Int->Int->Int->Int->(List Int)->(List Int)->(List Int)->(List Ba)->(List Ax)->(List Int)->Option (Bool)
 |0,_,_,_,_,_,_,_,_,_,_,_,_,_=>none
 |n1+1,v2,v3,v4,v5,v6,v7,v8,v9,v10,v11,v12,v13,v14=>(bif (decide (v2<(r1.length:Int)))then(if(0:Int)≤a1∧a1<(v12.length:Int)then(if(0:Int)≤v2∧v2<(r1.length:Int)then((Apu K ((gt v12 a1).Ae) (gt r1 v2)).bind fun r15=>(bif (!r15)then some false else(Anl K a1 r1 n1 (Aoa .i64 v2 1) v3 v4 v5 v6 v7 v8 v9 v10 v11 v12 v13 v14)))else none)else none)else(if(0:Int)≤a1∧a1<(v12.length:Int)then some ((r1.length:Int)==(((gt v12 a1).Ae).length:Int))else none))
def Atg (K:Nat)(a0:Eb)(a1:Int):Option (Bool):=((Au8 K a0.fP a1).bind fun r1=>(Anl K a1 r1 K 0 a0.fC.Ae a0.fC.Eg a0.fC.C0 a0.fC.E9 a0.fC.C1 a0.fC.Eh a0.fP.Fy a0.fP.Hh a0.fP.Fz a0.fL a0.fQ a0.Pr))
def s_53:Sig:=⟨[.v 32,.v 3],[.v 4],true⟩
def Byv (K:Nat):Gb tyU:=⟨s_53,Atg K⟩
def Bt1 (K:Nat):=xF s_53 [(217,Byt K),(218,Bd1 K)] [] 39 [] [] [] [] [.tmp 4]
def A8i:E5:=⟨[(1,.v 2),(2,.p 102),(5,.v 26),(6,.v 2)],[(102,.box [.v 2,.v 2,.v 2,.v 2,.v 2,.v 2,.v 22,.v 26,.v 26,.v 29,.v 30,.v 26])]⟩
def A8j (K:Nat)(n:Nat)(q:PT A8i):Rt s_53:=Anl K q.1 q.2.1 n q.2.2.1 q.2.2.2.1 q.2.2.2.2.1 q.2.2.2.2.2.1 q.2.2.2.2.2.2.1 q.2.2.2.2.2.2.2.1 q.2.2.2.2.2.2.2.2.1 q.2.2.2.2.2.2.2.2.2.1 q.2.2.2.2.2.2.2.2.2.2.1 q.2.2.2.2.2.2.2.2.2.2.2.1 q.2.2.2.2.2.2.2.2.2.2.2.2.1 q.2.2.2.2.2.2.2.2.2.2.2.2.2.1 q.2.2.2.2.2.2.2.2.2.2.2.2.2.2.1
theorem Bnl (K:Nat):AtL (Bt1 K) (fun n=>[]) [] (bd Tryz.f143) 58 (A8j K):=fun n q=>by kernel_rfl
theorem Bpr (K:Nat):XF [.tmp 4] s_53 39 [] (Bt1 K):=xkF (gC (Byu K) (gC (A99 K) gN)) oN
theorem Bnm (K:Nat)(n:Nat):CF [.tmp 4] s_53 39 [] (bd Tryz.f143) [] 58 (ar A8i (A8j K n)):=
 Aeg (Bpr K) (Bnl K) (fun n=>kN) n
theorem Byw (K:Nat):OkF 143 (Byv K):=
 Aa6 (x:=Bt1 K) (L:=[(58,ar A8i (A8j K K))]) (c0:=bd Tryz.f143) (Bpr K) (by intro a0 a1;show @Eq _ _ _;kernel_rfl) (kC (Bnm K K) kN) Tryz.func143 trivial
def Ao0 (K:Nat)(a0:Er)(v1:Int)(v2:Int)(v3:Int)(v4:Int)(v5:Int)(v6:Int)(v7:Int)(v8:Int)(v9:Int)(v10:List Int)(v11:Int)(v12:Int)(v13:List A9)(v14:List Int)(C1:Int->Int->Int->Int->Int->Int->Int->Int->Int->(List Int)->Int->Int->(List A9)->(List Int)->Option (Bool)):Nat->Int->A9->Option (Bool)
 |0,_,_=>none
 |n2+1,v16,v17=>(if a0.Eg≠(0:Int)then(bif (decide (v16≤(Alr .i64 (Aob .i64 (Aoa .i64 v17.fAt v17.Vu) 1) a0.Eg)))then((Apu K v10 v16).bind fun r18=>(bif (!r18)then some false else(Ao0 K a0 v1 v2 v3 v4 v5 v6 v7 v8 v9 v10 v11 v12 v13 v14 C1 n2 (Aoa .i64 v16 1) v17)))else(C1 (Aoa .i64 v1 1) v2 v3 v4 v5 v6 v7 v8 v9 v10 v11 v12 v13 v14))else none)
def Aje (K:Nat)(a0:Er):Nat->Int->Int->Int->Int->Int->Int->Int->Int->Int->(List Int)->Int->Int->(List A9)->(List Int)->Option (Bool)
 |0,_,_,_,_,_,_,_,_,_,_,_,_,_,_=>none
 |n1+1,v1,v2,v3,v4,v5,v6,v7,v8,v9,v10,v11,v12,v13,v14=>(bif (decide (v1<(v13.length:Int)))then(if(0:Int)≤v1∧v1<(v13.length:Int)then((Arg K a0 (gt v13 v1)).bind fun r15=>(bif (!r15)then some false else(if a0.Eg≠(0:Int)then(Ao0 K a0 v1 v2 v3 v4 v5 v6 v7 v8 v9 v10 v11 v12 v13 v14 (Aje K a0 n1) K (Alr .i64 ((gt v13 v1).fAt) a0.Eg) (gt v13 v1))else none)))else none)else some true)
def At9 (K:Nat)(a0:Er)(a1:Ba):Option (Bool):=(Aje K a0 K 0 a1.Hh a1.C2 a1.Ly a1.fUp a1.Gq a1.Bt a1.Gr a1.Gs a1.Ae a1.Pq a1.Gt a1.Ea a1.Dg)
def s_54:Sig:=⟨[.v 25,.v 44],[.v 4],true⟩
def Byx (K:Nat):Gb tyU:=⟨s_54,At9 K⟩
def Bnn (K:Nat):=xF s_54 [(216,Bt0 K),(218,Bd1 K)] [] 47 [] [] [] [] [.tmp 4]
def A10:E5:=⟨[(2,.p 102),(3,.p 103),(5,.v 2),(6,.p 106),(7,.v 2)],[(106,.st 89 true),(103,.box [.v 2,.v 2,.v 2,.v 2,.v 2,.v 2,.v 2,.v 2,.v 26,.v 2,.v 2,.v 41,.v 26]),(102,.st 25 true)]⟩
def Ax1:E5:=⟨[(2,.p 102),(3,.p 103),(5,.v 2)],[(103,.box [.v 2,.v 2,.v 2,.v 2,.v 2,.v 2,.v 2,.v 2,.v 26,.v 2,.v 2,.v 41,.v 26]),(102,.st 25 true)]⟩
def A11 (K:Nat)(C26:CT Ax1 s_54)(n:Nat)(q:PT A10):Rt s_54:=Ao0 K q.2.2.2.2.2.2.2.2.2.2.2.2.2.2.2.2.1 q.1 q.2.2.2.1 q.2.2.2.2.1 q.2.2.2.2.2.1 q.2.2.2.2.2.2.1 q.2.2.2.2.2.2.2.1 q.2.2.2.2.2.2.2.2.1 q.2.2.2.2.2.2.2.2.2.1 q.2.2.2.2.2.2.2.2.2.2.1 q.2.2.2.2.2.2.2.2.2.2.2.1 q.2.2.2.2.2.2.2.2.2.2.2.2.1 q.2.2.2.2.2.2.2.2.2.2.2.2.2.1 q.2.2.2.2.2.2.2.2.2.2.2.2.2.2.1 q.2.2.2.2.2.2.2.2.2.2.2.2.2.2.2.1 (fun v1 v2 v3 v4 v5 v6 v7 v8 v9 v10 v11 v12 v13 v14=>C26 (v1,v2,v3,v4,v5,v6,v7,v8,v9,v10,v11,v12,v13,v14,q.2.2.2.2.2.2.2.2.2.2.2.2.2.2.2.2.1,())) n q.2.1 q.2.2.1
def A07 (K:Nat)(n:Nat)(q:PT Ax1):Rt s_54:=Aje K q.2.2.2.2.2.2.2.2.2.2.2.2.2.2.1 n q.1 q.2.1 q.2.2.1 q.2.2.2.1 q.2.2.2.2.1 q.2.2.2.2.2.1 q.2.2.2.2.2.2.1 q.2.2.2.2.2.2.2.1 q.2.2.2.2.2.2.2.2.1 q.2.2.2.2.2.2.2.2.2.1 q.2.2.2.2.2.2.2.2.2.2.1 q.2.2.2.2.2.2.2.2.2.2.2.1 q.2.2.2.2.2.2.2.2.2.2.2.2.1 q.2.2.2.2.2.2.2.2.2.2.2.2.2.1
theorem Bed (K:Nat)(C26:CT Ax1 s_54):AtL (Bnn K) (fun n=>[]) [(26,ar Ax1 C26)] (bd Tryz.f144) 6734 (A11 K C26):=fun n q=>by kernel_rfl
theorem Bno (K:Nat):AtL (Bnn K) (fun n=>[(6734,ar A10 (A11 K (A07 K n) K))]) [] (bd Tryz.f144) 26 (A07 K):=fun n q=>by kernel_rfl
theorem Bg4 (K:Nat):XF [.tmp 4] s_54 47 [] (Bnn K):=xkF (gC (Bpq K) (gC (A99 K) gN)) oN
theorem Bee (K:Nat)(C26:CT Ax1 s_54)(n:Nat):CF [.tmp 4] s_54 47 [] (bd Tryz.f144) [(26,ar Ax1 C26)] 6734 (ar A10 (A11 K C26 n)):=
 Aeg (Bg4 K) (Bed K C26) (fun n=>kN) n
theorem Bnp (K:Nat)(n:Nat):CF [.tmp 4] s_54 47 [] (bd Tryz.f144) [] 26 (ar Ax1 (A07 K n)):=
 Aeg (Bg4 K) (Bno K) (fun n=>(kC (Bee K (A07 K n) K) kN)) n
theorem Byy (K:Nat):OkF 144 (Byx K):=
 Aa6 (x:=Bnn K) (L:=[(26,ar Ax1 (A07 K K))]) (c0:=bd Tryz.f144) (Bg4 K) (by intro a0 a1;show @Eq _ _ _;kernel_rfl) (kC (Bnp K K) kN) Tryz.func144 trivial
def Aw5 (K:Nat)(a0:A9)(a1:A9):Option (Bool):=(bif (decide (a0.Vu<1))then some true else(bif (decide (a1.Vu<1))then some true else(bif (decide (a0.fAt≤a1.fAt))then(bif (decide ((Aob .i64 a1.fAt a0.fAt)≥a0.Vu))then some true else some (decide ((Aob .i64 a1.fAt a0.fAt)<0)))else(bif (decide ((Aob .i64 a0.fAt a1.fAt)≥a1.Vu))then some true else some (decide ((Aob .i64 a0.fAt a1.fAt)<0))))))
def Byz:Sig:=⟨[.v 89,.v 89],[.v 4],true⟩
def By0 (K:Nat):Gb tyU:=⟨Byz,Aw5 K⟩
def B3z (K:Nat):=xF Byz [] [] 50 [7,8,25,26,41,42] [] [] [] [.tmp 4]
theorem By1 (K:Nat):OkF 219 (By0 K):=
 Aa6 (x:=B3z K) (L:=[]) (c0:=bd Tryz.f219) (xkF gN oN) (by intro a0 a1;show @Eq _ _ _;kernel_rfl) kN Tryz.func219 trivial
def Ao3 (K:Nat)(a0:List A9)(v1:Int)(C1:Int->Option (Bool)):Nat->Int->Option (Bool)
 |0,_=>none
 |n2+1,v2=>(bif (decide (v2<v1))then(if(0:Int)≤v1∧v1<(a0.length:Int)then(if(0:Int)≤v2∧v2<(a0.length:Int)then((Aw5 K (gt a0 v1) (gt a0 v2)).bind fun r3=>(bif (!r3)then some false else(Ao3 K a0 v1 C1 n2 (Aoa .i64 v2 1))))else none)else none)else(C1 (Aoa .i64 v1 1)))
def Ajz (K:Nat)(a0:List A9):Nat->Int->Option (Bool)
 |0,_=>none
 |n1+1,v1=>(bif (decide (v1<(a0.length:Int)))then(Ao3 K a0 v1 (Ajz K a0 n1) K 0)else some true)
def Aua (K:Nat)(a0:List A9):Option (Bool):=(Ajz K a0 K 0)
def s_56:Sig:=⟨[.v 41],[.v 4],true⟩
def By2 (K:Nat):Gb tyU:=⟨s_56,Aua K⟩
def Bnq (K:Nat):=xF s_56 [(219,By0 K)] [] 26 [] [] [] [] [.tmp 2]
def A12:E5:=⟨[(0,.v 41),(3,.v 2),(4,.v 2)],[]⟩
def Ax2:E5:=⟨[(0,.v 41),(3,.v 2)],[]⟩
def A13 (K:Nat)(C26:CT Ax2 s_56)(n:Nat)(q:PT A12):Rt s_56:=Ao3 K q.1 q.2.1 (fun v1=>C26 (q.1,v1,())) n q.2.2.1
def A08 (K:Nat)(n:Nat)(q:PT Ax2):Rt s_56:=Ajz K q.1 n q.2.1
theorem Bef (K:Nat)(C26:CT Ax2 s_56):AtL (Bnq K) (fun n=>[]) [(26,ar Ax2 C26)] (bd Tryz.f145) 1682 (A13 K C26):=fun n q=>by kernel_rfl
theorem Bnr (K:Nat):AtL (Bnq K) (fun n=>[(1682,ar A12 (A13 K (A08 K n) K))]) [] (bd Tryz.f145) 26 (A08 K):=fun n q=>by kernel_rfl
theorem Bg5 (K:Nat):XF [.tmp 2] s_56 26 [] (Bnq K):=xkF (gC (By1 K) gN) oN
theorem Beg (K:Nat)(C26:CT Ax2 s_56)(n:Nat):CF [.tmp 2] s_56 26 [] (bd Tryz.f145) [(26,ar Ax2 C26)] 1682 (ar A12 (A13 K C26 n)):=
 Aeg (Bg5 K) (Bef K C26) (fun n=>kN) n
theorem Bns (K:Nat)(n:Nat):CF [.tmp 2] s_56 26 [] (bd Tryz.f145) [] 26 (ar Ax2 (A08 K n)):=
 Aeg (Bg5 K) (Bnr K) (fun n=>(kC (Beg K (A08 K n) K) kN)) n
theorem By3 (K:Nat):OkF 145 (By2 K):=
 Aa6 (x:=Bnq K) (L:=[(26,ar Ax2 (A08 K K))]) (c0:=bd Tryz.f145) (Bg5 K) (by intro a0;show @Eq _ _ _;kernel_rfl) (kC (Bns K K) kN) Tryz.func145 trivial
def Asj (K:Nat)(v1:Int)(v2:Int)(v3:Int)(v4:Int)(v5:Int)(v6:Int)(v7:Int)(v8:Int)(v9:Int)(v10:Int)(v11:Int)(v12:List Int)(v13:Int)(v14:Int)(v15:List A9)(v16:List Int)(v17:Int)(v18:Int)(v19:Int)(v20:Int)(v21:Int)(v22:Int)(v23:List Int)(v24:List Int)(v25:List Int)(v26:List Ba)(v27:List Ax)(v28:List Int)(C1:Int->Int->Int->Int->Int->Int->Int->Int->Int->Int->Int->(List Int)->Int->Int->(List A9)->(List Int)->Int->Int->Int->Int->Int->Int->(List Int)->(List Int)->(List Int)->(List Ba)->(List Ax)->(List Int)->Option (Bool)):Option (Bool):=(C1 v1 v2 (Aoa .i64 v3 1) v4 v5 v6 v7 v8 v9 v10 v11 v12 v13 v14 v15 v16 v17 v18 v19 v20 v21 v22 v23 v24 v25 v26 v27 v28)
def Al6 (K:Nat):Nat->Int->Int->Int->Int->Int->Int->Int->Int->Int->Int->Int->(List Int)->Int->Int->(List A9)->(List Int)->Int->Int->Int->Int->Int->Int->(List Int)->(List Int)->(List Int)->(List Ba)->(List Ax)->(List Int)->Option (Bool)
 |0,_,_,_,_,_,_,_,_,_,_,_,_,_,_,_,_,_,_,_,_,_,_,_,_,_,_,_,_=>none
 |n1+1,v1,v2,v3,v4,v5,v6,v7,v8,v9,v10,v11,v12,v13,v14,v15,v16,v17,v18,v19,v20,v21,v22,v23,v24,v25,v26,v27,v28=>(bif (decide (v3<(v15.length:Int)))then(if(0:Int)≤v3∧v3<(v15.length:Int)then(bif (decide (((gt v15 v3).fAt)<v2))then(bif (decide ((Aoa .i64 ((gt v15 v3).fAt) ((gt v15 v3).Vu))>v1))then some false else(Asj K v1 v2 v3 v4 v5 v6 v7 v8 v9 v10 v11 v12 v13 v14 v15 v16 v17 v18 v19 v20 v21 v22 v23 v24 v25 v26 v27 v28 (Al6 K n1)))else(Asj K v1 v2 v3 v4 v5 v6 v7 v8 v9 v10 v11 v12 v13 v14 v15 v16 v17 v18 v19 v20 v21 v22 v23 v24 v25 v26 v27 v28 (Al6 K n1)))else none)else(if(0:Int)≤v1∧v1≤v2∧v2≤(v23.length:Int)then((Asb K ((v23.drop v1.toNat).take (v2 - v1).toNat)).bind fun r29=>some r29)else none))
def Aub (K:Nat)(a0:Eb)(a1:Int):Option (Bool):=(if(0:Int)≤a1∧a1<(a0.fL.length:Int)then(bif (((gt a0.fL a1).Pq)==0)then some true else(bif (decide ((Aoa .i64 (Aoc .i64 (Aob .i64 ((gt a0.fL a1).Pq) 1) a0.fC.Eg) ((gt a0.fL a1).Gt))≥(Aoc .i64 ((gt a0.fL a1).Pq) a0.fC.Eg)))then some true else(Al6 K K (Aoa .i64 (Aoc .i64 (Aob .i64 ((gt a0.fL a1).Pq) 1) a0.fC.Eg) ((gt a0.fL a1).Gt)) (Aoc .i64 ((gt a0.fL a1).Pq) a0.fC.Eg) 0 ((gt a0.fL a1).Hh) ((gt a0.fL a1).C2) ((gt a0.fL a1).Ly) ((gt a0.fL a1).fUp) ((gt a0.fL a1).Gq) ((gt a0.fL a1).Bt) ((gt a0.fL a1).Gr) ((gt a0.fL a1).Gs) ((gt a0.fL a1).Ae) ((gt a0.fL a1).Pq) ((gt a0.fL a1).Gt) ((gt a0.fL a1).Ea) ((gt a0.fL a1).Dg) a0.fC.Ae a0.fC.Eg a0.fC.C0 a0.fC.E9 a0.fC.C1 a0.fC.Eh a0.fP.Fy a0.fP.Hh a0.fP.Fz a0.fL a0.fQ a0.Pr)))else none)
def s_57:Sig:=⟨[.v 32,.v 3],[.v 4],true⟩
def By4 (K:Nat):Gb tyU:=⟨s_57,Aub K⟩
def Bnt (K:Nat):=xF s_57 [(212,Bmh K)] [] 71 [33,34,54,55] [] [] [2025] [.tmp 4]
def A14:E5:=⟨[(2,.p 102),(5,.p 105),(6,.v 2),(7,.v 2),(8,.v 2)],[(105,.box [.v 2,.v 2,.v 2,.v 2,.v 2,.v 2,.v 2,.v 2,.v 26,.v 2,.v 2,.v 41,.v 26]),(102,.box [.v 2,.v 2,.v 2,.v 2,.v 2,.v 2,.v 22,.v 26,.v 26,.v 29,.v 30,.v 26])]⟩
def Awo:E5:=⟨[(2,.p 102),(5,.p 105),(6,.v 2),(7,.v 2),(8,.v 2)],[(105,.box [.v 2,.v 2,.v 2,.v 2,.v 2,.v 2,.v 2,.v 2,.v 26,.v 2,.v 2,.v 41,.v 26]),(102,.box [.v 2,.v 2,.v 2,.v 2,.v 2,.v 2,.v 22,.v 26,.v 26,.v 29,.v 30,.v 26])]⟩
def A15 (K:Nat)(C506:CT Awo s_57)(q:PT A14):Rt s_57:=Asj K q.1 q.2.1 q.2.2.1 q.2.2.2.1 q.2.2.2.2.1 q.2.2.2.2.2.1 q.2.2.2.2.2.2.1 q.2.2.2.2.2.2.2.1 q.2.2.2.2.2.2.2.2.1 q.2.2.2.2.2.2.2.2.2.1 q.2.2.2.2.2.2.2.2.2.2.1 q.2.2.2.2.2.2.2.2.2.2.2.1 q.2.2.2.2.2.2.2.2.2.2.2.2.1 q.2.2.2.2.2.2.2.2.2.2.2.2.2.1 q.2.2.2.2.2.2.2.2.2.2.2.2.2.2.1 q.2.2.2.2.2.2.2.2.2.2.2.2.2.2.2.1 q.2.2.2.2.2.2.2.2.2.2.2.2.2.2.2.2.1 q.2.2.2.2.2.2.2.2.2.2.2.2.2.2.2.2.2.1 q.2.2.2.2.2.2.2.2.2.2.2.2.2.2.2.2.2.2.1 q.2.2.2.2.2.2.2.2.2.2.2.2.2.2.2.2.2.2.2.1 q.2.2.2.2.2.2.2.2.2.2.2.2.2.2.2.2.2.2.2.2.1 q.2.2.2.2.2.2.2.2.2.2.2.2.2.2.2.2.2.2.2.2.2.1 q.2.2.2.2.2.2.2.2.2.2.2.2.2.2.2.2.2.2.2.2.2.2.1 q.2.2.2.2.2.2.2.2.2.2.2.2.2.2.2.2.2.2.2.2.2.2.2.1 q.2.2.2.2.2.2.2.2.2.2.2.2.2.2.2.2.2.2.2.2.2.2.2.2.1 q.2.2.2.2.2.2.2.2.2.2.2.2.2.2.2.2.2.2.2.2.2.2.2.2.2.1 q.2.2.2.2.2.2.2.2.2.2.2.2.2.2.2.2.2.2.2.2.2.2.2.2.2.2.1 q.2.2.2.2.2.2.2.2.2.2.2.2.2.2.2.2.2.2.2.2.2.2.2.2.2.2.2.1 (fun v1 v2 v3 v4 v5 v6 v7 v8 v9 v10 v11 v12 v13 v14 v15 v16 v17 v18 v19 v20 v21 v22 v23 v24 v25 v26 v27 v28=>C506 (v1,v2,v3,v4,v5,v6,v7,v8,v9,v10,v11,v12,v13,v14,v15,v16,v17,v18,v19,v20,v21,v22,v23,v24,v25,v26,v27,v28,()))
def Aza (K:Nat)(n:Nat)(q:PT Awo):Rt s_57:=Al6 K n q.1 q.2.1 q.2.2.1 q.2.2.2.1 q.2.2.2.2.1 q.2.2.2.2.2.1 q.2.2.2.2.2.2.1 q.2.2.2.2.2.2.2.1 q.2.2.2.2.2.2.2.2.1 q.2.2.2.2.2.2.2.2.2.1 q.2.2.2.2.2.2.2.2.2.2.1 q.2.2.2.2.2.2.2.2.2.2.2.1 q.2.2.2.2.2.2.2.2.2.2.2.2.1 q.2.2.2.2.2.2.2.2.2.2.2.2.2.1 q.2.2.2.2.2.2.2.2.2.2.2.2.2.2.1 q.2.2.2.2.2.2.2.2.2.2.2.2.2.2.2.1 q.2.2.2.2.2.2.2.2.2.2.2.2.2.2.2.2.1 q.2.2.2.2.2.2.2.2.2.2.2.2.2.2.2.2.2.1 q.2.2.2.2.2.2.2.2.2.2.2.2.2.2.2.2.2.2.1 q.2.2.2.2.2.2.2.2.2.2.2.2.2.2.2.2.2.2.2.1 q.2.2.2.2.2.2.2.2.2.2.2.2.2.2.2.2.2.2.2.2.1 q.2.2.2.2.2.2.2.2.2.2.2.2.2.2.2.2.2.2.2.2.2.1 q.2.2.2.2.2.2.2.2.2.2.2.2.2.2.2.2.2.2.2.2.2.2.1 q.2.2.2.2.2.2.2.2.2.2.2.2.2.2.2.2.2.2.2.2.2.2.2.1 q.2.2.2.2.2.2.2.2.2.2.2.2.2.2.2.2.2.2.2.2.2.2.2.2.1 q.2.2.2.2.2.2.2.2.2.2.2.2.2.2.2.2.2.2.2.2.2.2.2.2.2.1 q.2.2.2.2.2.2.2.2.2.2.2.2.2.2.2.2.2.2.2.2.2.2.2.2.2.2.1 q.2.2.2.2.2.2.2.2.2.2.2.2.2.2.2.2.2.2.2.2.2.2.2.2.2.2.2.1
theorem Beh (K:Nat)(C506:CT Awo s_57):AtJ (Bnt K) [] [(506,ar Awo C506)] (bd Tryz.f146) 2025 (A15 K C506):=fun q=>by kernel_rfl
theorem Bg6 (K:Nat):AtL (Bnt K) (fun n=>[(2025,ar A14 (A15 K (Aza K n)))]) [] (bd Tryz.f146) 506 (Aza K):=fun n q=>by kernel_rfl
theorem Bg7 (K:Nat):XF [.tmp 4] s_57 71 [2025] (Bnt K):=xkF (gC (Bf8 K) gN) oN
theorem Bei (K:Nat)(C506:CT Awo s_57):CF [.tmp 4] s_57 71 [2025] (bd Tryz.f146) [(506,ar Awo C506)] 2025 (ar A14 (A15 K C506)):=
 Apg (Bg7 K) (Beh K C506) kN
theorem Bg8 (K:Nat)(n:Nat):CF [.tmp 4] s_57 71 [2025] (bd Tryz.f146) [] 506 (ar Awo (Aza K n)):=
 Aeg (Bg7 K) (Bg6 K) (fun n=>(kC (Bei K (Aza K n)) kN)) n
theorem By5 (K:Nat):OkF 146 (By4 K):=
 Aa6 (x:=Bnt K) (L:=[(506,ar Awo (Aza K K))]) (c0:=bd Tryz.f146) (Bg7 K) (by intro a0 a1;show @Eq _ _ _;kernel_rfl) (kC (Bg8 K K) kN) Tryz.func146 trivial
def Anv (K:Nat)(v4:Int)(v5:Int)(v6:Int)(v7:Int)(v8:Int)(v9:Int)(v10:List Int)(v11:List Int)(v12:List Int)(v13:List Ba)(v14:List Ax)(v15:List Int):Nat->Int->Option (Bool)
 |0,_=>none
 |n3+1,v23=>(bif (decide (v23<(v15.length:Int)))then(if(0:Int)≤v23∧v23<(v15.length:Int)then((Abk K (gt v15 v23) 0 255).bind fun r24=>(bif (!r24)then some false else(Anv K v4 v5 v6 v7 v8 v9 v10 v11 v12 v13 v14 v15 n3 (Aoa .i64 v23 1))))else none)else((Atd K (Eb.mk (Er.mk v4 v5 v6 v7 v8 v9) (Dw.mk v10 v11 v12) v13 v14 v15)).bind fun r25=>some r25))
def Aps (K:Nat)(v4:Int)(v5:Int)(v6:Int)(v7:Int)(v8:Int)(v9:Int)(v10:List Int)(v11:List Int)(v12:List Int)(v13:List Ba)(v14:List Ax)(v15:List Int):Nat->Int->Option (Bool)
 |0,_=>none
 |n2+1,v21=>(bif (decide (v21<(v14.length:Int)))then((At7 K (Eb.mk (Er.mk v4 v5 v6 v7 v8 v9) (Dw.mk v10 v11 v12) v13 v14 v15) v21).bind fun r22=>(bif (!r22)then some false else(Aps K v4 v5 v6 v7 v8 v9 v10 v11 v12 v13 v14 v15 n2 (Aoa .i64 v21 1))))else(Anv K v4 v5 v6 v7 v8 v9 v10 v11 v12 v13 v14 v15 K 0))
def Anz (K:Nat):Nat->Int->Int->Int->Int->Int->Int->Int->(List Int)->(List Int)->(List Int)->(List Ba)->(List Ax)->(List Int)->Option (Bool)
 |0,_,_,_,_,_,_,_,_,_,_,_,_,_=>none
 |n1+1,v3,v4,v5,v6,v7,v8,v9,v10,v11,v12,v13,v14,v15=>(bif (decide (v3<(v13.length:Int)))then(if(0:Int)≤v3∧v3<(v13.length:Int)then((Awb K (Er.mk v4 v5 v6 v7 v8 v9) (gt v13 v3)).bind fun r16=>(bif r16 then((Atg K (Eb.mk (Er.mk v4 v5 v6 v7 v8 v9) (Dw.mk v10 v11 v12) v13 v14 v15) v3).bind fun r17=>(bif r17 then(if(0:Int)≤v3∧v3<(v13.length:Int)then((At9 K (Er.mk v4 v5 v6 v7 v8 v9) (gt v13 v3)).bind fun r18=>(bif r18 then(if(0:Int)≤v3∧v3<(v13.length:Int)then((Aua K ((gt v13 v3).Ea)).bind fun r19=>(bif r19 then((Aub K (Eb.mk (Er.mk v4 v5 v6 v7 v8 v9) (Dw.mk v10 v11 v12) v13 v14 v15) v3).bind fun r20=>(bif (!r20)then some false else(Anz K n1 (Aoa .i64 v3 1) v4 v5 v6 v7 v8 v9 v10 v11 v12 v13 v14 v15)))else some false))else none)else some false))else none)else some false))else some false))else none)else(Aps K v4 v5 v6 v7 v8 v9 v10 v11 v12 v13 v14 v15 K 0))
def Au9 (K:Nat)(a0:Eb):Option (Bool):=((Av9 K a0.fC a0.fP).bind fun r1=>(bif r1 then(bif ((a0.fL.length:Int) != a0.fC.C0)then some false else((Awa K a0.fL).bind fun r2=>(bif (!r2)then some false else(Anz K K 0 a0.fC.Ae a0.fC.Eg a0.fC.C0 a0.fC.E9 a0.fC.C1 a0.fC.Eh a0.fP.Fy a0.fP.Hh a0.fP.Fz a0.fL a0.fQ a0.Pr))))else some false))
def s_58:Sig:=⟨[.v 32],[.v 4],true⟩
def By6 (K:Nat):Gb tyU:=⟨s_58,Au9 K⟩
def Bg9 (K:Nat):=xF s_58 [(84,A57 K),(140,Bxq K),(141,Bxz K),(142,Byr K),(143,Byv K),(144,Byx K),(145,By2 K),(146,By4 K),(147,Bya K),(148,Bx6 K)] [] 103 [10,11,12,19,20,21,41,42,43,46,47,48,49,57,58,59,60,67,68,69,70] [] [] [] [.tmp 2]
def A3q:E5:=⟨[(1,.p 101),(5,.v 2)],[(101,.box [.v 2,.v 2,.v 2,.v 2,.v 2,.v 2,.v 22,.v 26,.v 26,.v 29,.v 30,.v 26])]⟩
def A3r:E5:=⟨[(1,.p 101),(4,.v 2)],[(101,.box [.v 2,.v 2,.v 2,.v 2,.v 2,.v 2,.v 22,.v 26,.v 26,.v 29,.v 30,.v 26])]⟩
def A8k:E5:=⟨[(1,.p 101),(3,.v 2)],[(101,.box [.v 2,.v 2,.v 2,.v 2,.v 2,.v 2,.v 22,.v 26,.v 26,.v 29,.v 30,.v 26])]⟩
def A3s (K:Nat)(n:Nat)(q:PT A3q):Rt s_58:=Anv K q.2.1 q.2.2.1 q.2.2.2.1 q.2.2.2.2.1 q.2.2.2.2.2.1 q.2.2.2.2.2.2.1 q.2.2.2.2.2.2.2.1 q.2.2.2.2.2.2.2.2.1 q.2.2.2.2.2.2.2.2.2.1 q.2.2.2.2.2.2.2.2.2.2.1 q.2.2.2.2.2.2.2.2.2.2.2.1 q.2.2.2.2.2.2.2.2.2.2.2.2.1 n q.1
def A3t (K:Nat)(n:Nat)(q:PT A3r):Rt s_58:=Aps K q.2.1 q.2.2.1 q.2.2.2.1 q.2.2.2.2.1 q.2.2.2.2.2.1 q.2.2.2.2.2.2.1 q.2.2.2.2.2.2.2.1 q.2.2.2.2.2.2.2.2.1 q.2.2.2.2.2.2.2.2.2.1 q.2.2.2.2.2.2.2.2.2.2.1 q.2.2.2.2.2.2.2.2.2.2.2.1 q.2.2.2.2.2.2.2.2.2.2.2.2.1 n q.1
def A8l (K:Nat)(n:Nat)(q:PT A8k):Rt s_58:=Anz K n q.1 q.2.1 q.2.2.1 q.2.2.2.1 q.2.2.2.2.1 q.2.2.2.2.2.1 q.2.2.2.2.2.2.1 q.2.2.2.2.2.2.2.1 q.2.2.2.2.2.2.2.2.1 q.2.2.2.2.2.2.2.2.2.1 q.2.2.2.2.2.2.2.2.2.2.1 q.2.2.2.2.2.2.2.2.2.2.2.1 q.2.2.2.2.2.2.2.2.2.2.2.2.1
theorem Bha (K:Nat):AtL (Bg9 K) (fun n=>[]) [] (bd Tryz.f83) 250 (A3s K):=fun n q=>by kernel_rfl
theorem Bhb (K:Nat):AtL (Bg9 K) (fun n=>[(250,ar A3q (A3s K K))]) [] (bd Tryz.f83) 122 (A3t K):=fun n q=>by kernel_rfl
theorem Bnu (K:Nat):AtL (Bg9 K) (fun n=>[(122,ar A3r (A3t K K))]) [] (bd Tryz.f83) 58 (A8l K):=fun n q=>by kernel_rfl
theorem Bdb (K:Nat):XF [.tmp 2] s_58 103 [] (Bg9 K):=xkF (gC (A00 K) (gC (Bxr K) (gC (Bx0 K) (gC (Bys K) (gC (Byw K) (gC (Byy K) (gC (By3 K) (gC (By5 K) (gC (Byb K) (gC (Bx7 K) gN)))))))))) oN
theorem Bhc (K:Nat)(n:Nat):CF [.tmp 2] s_58 103 [] (bd Tryz.f83) [] 250 (ar A3q (A3s K n)):=
 Aeg (Bdb K) (Bha K) (fun n=>kN) n
theorem Bhd (K:Nat)(n:Nat):CF [.tmp 2] s_58 103 [] (bd Tryz.f83) [] 122 (ar A3r (A3t K n)):=
 Aeg (Bdb K) (Bhb K) (fun n=>(kC (Ao2 (by kernel_rfl) (Bhc K K)) kN)) n
theorem Bnv (K:Nat)(n:Nat):CF [.tmp 2] s_58 103 [] (bd Tryz.f83) [] 58 (ar A8k (A8l K n)):=
 Aeg (Bdb K) (Bnu K) (fun n=>(kC (Ao2 (by kernel_rfl) (Bhd K K)) kN)) n
theorem By7 (K:Nat):OkF 83 (By6 K):=
 Aa6 (x:=Bg9 K) (L:=[(58,ar A8k (A8l K K))]) (c0:=bd Tryz.f83) (Bdb K) (by intro a0;show @Eq _ _ _;kernel_rfl) (kC (Bnv K K) kN) Tryz.func83 trivial
def Auc (K:Nat)(a0:Ct):Option (Bool):=(bif (decide (a0.A5≥0))then some (decide (a0.C2≥1))else some false)
def By8:Sig:=⟨[.v 34],[.v 4],true⟩
def By9 (K:Nat):Gb tyU:=⟨By8,Auc K⟩
def B30 (K:Nat):=xF By8 [] [] 11 [5,6] [] [] [] [.tmp 2]
theorem Bza (K:Nat):OkF 149 (By9 K):=
 Aa6 (x:=B30 K) (L:=[]) (c0:=bd Tryz.f149) (xkF gN oN) (by intro a0;show @Eq _ _ _;kernel_rfl) kN Tryz.func149 trivial
def Ari (K:Nat)(a0:List Ba)(a1:Ct):Option (Int):=((Abk K a1.A5 0 (Aob .i64 (a0.length:Int) 1)).bind fun r1=>(bif r1 then(if(0:Int)≤a1.A5∧a1.A5<(a0.length:Int)then(bif (((gt a0 a1.A5).Hh) != 1)then some (-1)else(if(0:Int)≤a1.A5∧a1.A5<(a0.length:Int)then(bif (((gt a0 a1.A5).C2) != a1.C2)then some (-1)else some a1.A5)else none))else none)else some (-1)))
def Bzb:Sig:=⟨[.v 29,.v 34],[.v 3],true⟩
def Bt2 (K:Nat):Gb tyU:=⟨Bzb,Ari K⟩
def B31 (K:Nat):=xF Bzb [(84,A57 K)] [] 34 [10,11,12,19,20,21] [] [] [] [.tmp 4]
theorem Bps (K:Nat):OkF 150 (Bt2 K):=
 Aa6 (x:=B31 K) (L:=[]) (c0:=bd Tryz.f150) (xkF (gC (A00 K) gN) oN) (by intro a0 a1;show @Eq _ _ _;kernel_rfl) kN Tryz.func150 trivial
def Ava (K:Nat)(v2:Int)(C1:Int->Option (Bool)):Option (Bool):=(C1 (Aoa .i64 v2 1))
def Arj (K:Nat)(a0:List Ba)(r1:(List Int)):Nat->Int->Option (Bool)
 |0,_=>none
 |n1+1,v2=>(bif (decide (v2<(r1.length:Int)))then(if(0:Int)≤v2∧v2<(r1.length:Int)then(if(0:Int)≤(gt r1 v2)∧(gt r1 v2)<(a0.length:Int)then(bif (((gt a0 (gt r1 v2)).Hh) != 1)then some false else(bif (decide ((Aoa .i64 v2 1)<(r1.length:Int)))then(if(0:Int)≤v2∧v2<(r1.length:Int)then((Aqy K a0 (gt r1 v2)).bind fun r3=>(bif (!r3)then some false else(Ava K v2 (Arj K a0 r1 n1))))else none)else(Ava K v2 (Arj K a0 r1 n1))))else none)else none)else(bif (decide ((r1.length:Int)>0))then(if(0:Int)≤(Aob .i64 (r1.length:Int) 1)∧(Aob .i64 (r1.length:Int) 1)<(r1.length:Int)then(if(0:Int)≤(gt r1 (Aob .i64 (r1.length:Int) 1))∧(gt r1 (Aob .i64 (r1.length:Int) 1))<(a0.length:Int)then some (((gt a0 (gt r1 (Aob .i64 (r1.length:Int) 1))).fUp)==0)else none)else none)else some false))
def Aw6 (K:Nat)(a0:List Ba)(a1:Int):Option (Bool):=((Auu K a0 a1).bind fun r1=>(Arj K a0 r1 K 0))
def s_61:Sig:=⟨[.v 29,.v 3],[.v 4],true⟩
def Bzc (K:Nat):Gb tyU:=⟨s_61,Aw6 K⟩
def Bnw (K:Nat):=xF s_61 [(224,Bmn K),(225,Bmm K)] [] 57 [24,25,30,31,43,44] [] [] [233] [.tmp 4]
def A3u:E5:=⟨[(0,.v 29),(5,.v 26),(6,.v 2)],[]⟩
def Ax3:E5:=⟨[(0,.v 29),(5,.v 26),(6,.v 2)],[]⟩
def A3v (K:Nat)(C58:CT Ax3 s_61)(q:PT A3u):Rt s_61:=Ava K q.2.2.1 (fun v2=>C58 (q.1,q.2.1,v2,()))
def A09 (K:Nat)(n:Nat)(q:PT Ax3):Rt s_61:=Arj K q.1 q.2.1 n q.2.2.1
theorem Bhe (K:Nat)(C58:CT Ax3 s_61):AtJ (Bnw K) [] [(58,ar Ax3 C58)] (bd Tryz.f151) 233 (A3v K C58):=fun q=>by kernel_rfl
theorem Bnx (K:Nat):AtL (Bnw K) (fun n=>[(233,ar A3u (A3v K (A09 K n)))]) [] (bd Tryz.f151) 58 (A09 K):=fun n q=>by kernel_rfl
theorem Bhf (K:Nat):XF [.tmp 4] s_61 57 [233] (Bnw K):=xkF (gC (Bgd K) (gC (Bgc K) gN)) oN
theorem Bhg (K:Nat)(C58:CT Ax3 s_61):CF [.tmp 4] s_61 57 [233] (bd Tryz.f151) [(58,ar Ax3 C58)] 233 (ar A3u (A3v K C58)):=
 Apg (Bhf K) (Bhe K C58) kN
theorem Bny (K:Nat)(n:Nat):CF [.tmp 4] s_61 57 [233] (bd Tryz.f151) [] 58 (ar Ax3 (A09 K n)):=
 Aeg (Bhf K) (Bnx K) (fun n=>(kC (Bhg K (A09 K n)) kN)) n
theorem Bzd (K:Nat):OkF 151 (Bzc K):=
 Aa6 (x:=Bnw K) (L:=[(58,ar Ax3 (A09 K K))]) (c0:=bd Tryz.f151) (Bhf K) (by intro a0 a1;show @Eq _ _ _;kernel_rfl) (kC (Bny K K) kN) Tryz.func151 trivial
def Aud (K:Nat)(a0:Eb)(a1:Ct):Option (Int×Int):=((Auc K a1).bind fun r1=>(bif (!r1)then some ((-1),1)else((Ari K a0.fL a1).bind fun r2=>(bif (decide (r2<0))then some ((-1),2)else((Aw6 K a0.fL r2).bind fun r3=>(bif (!r3)then some ((-1),2)else some (r2,0)))))))
def Bze:Sig:=⟨[.v 32,.v 34],[.v 3,.v 3],true⟩
def Bzf (K:Nat):Gb tyU:=⟨Bze,Aud K⟩
def B32 (K:Nat):=xF Bze [(149,By9 K),(150,Bt2 K),(151,Bzc K)] [] 24 [15,16] [] [] [] [.tmp 4,.tmp 5]
theorem Bzg (K:Nat):OkF 85 (Bzf K):=
 Aa6 (x:=B32 K) (L:=[]) (c0:=bd Tryz.f85) (xkF (gC (Bza K) (gC (Bps K) (gC (Bzd K) gN))) oN) (by intro a0 a1;show @Eq _ _ _;kernel_rfl) kN Tryz.func85 trivial
def Avb (K:Nat)(a0:Ba)(a1:Int):Option (Ax):=(if(([]:List Int)++a0.Dg).length*8≤140737488355328∧(([]:List Int)++a0.Dg).length≤maxLen then(if(([]:List Int)++a0.Ae).length*8≤140737488355328∧(([]:List Int)++a0.Ae).length≤maxLen then some (Ax.mk a1 a0.Bt (([]:List Int)++a0.Dg) (([]:List Int)++a0.Ae) 0)else none)else none)
def Bzh:Sig:=⟨[.v 44,.v 3],[.n 159 true],true⟩
def Bzi (K:Nat):Gb tyU:=⟨Bzh,Avb K⟩
def B33 (K:Nat):=xF Bzh [] [] 17 [] [] [] [] [.cell 4 159]
theorem Bzj (K:Nat):OkF 168 (Bzi K):=
 Aa6 (x:=B33 K) (L:=[]) (c0:=bd Tryz.f168) (xkF gN oN) (by intro a0 a1;show @Eq _ _ _;kernel_rfl) kN Tryz.func168 trivial
def Ark (K:Nat)(v3:Dw)(v4:Dw):Option (Dw):=some v3
def Aw7 (K:Nat)(a0:Dw)(a1:Int):Option (Dw):=((Atu K a0).bind fun r1=>((Abk K a1 0 (Aob .i64 (a0.Hh.length:Int) 1)).bind fun r2=>(bif r2 then(bif (decide (a1<(a0.Fz.length:Int)))then(if(0:Int)≤a1∧a1<(a0.Hh.length:Int)then(bif ((gt a0.Hh a1)==1)then(if(0:Int)≤a1∧a1<(r1.Hh.length:Int)then(if(0:Int)≤a1∧a1<(r1.Fz.length:Int)then(Ark K (Dw.mk r1.Fy (r1.Hh.set a1.toNat 2) (r1.Fz.set a1.toNat (-1))) (Dw.mk [] [] []))else none)else none)else(Ark K r1 (Dw.mk [] [] [])))else none)else(Ark K r1 (Dw.mk [] [] [])))else(Ark K r1 (Dw.mk [] [] [])))))
def s_64:Sig:=⟨[.v 28,.v 3],[.n 28 true],true⟩
def Bzk (K:Nat):Gb tyU:=⟨s_64,Aw7 K⟩
def Bt3 (K:Nat):=xF s_64 [(84,A57 K),(137,Btk K)] [] 38 [13,14,19,20,21] [(5,[.take 105 0 6680,.take 105 1 6681,.take 105 2 6682])] [] [7] [.cell 4 28]
def Bbq:E5:=⟨[(4,.p 104),(5,.p 105)],[(105,.st 28 true),(104,.st 28 true)]⟩
def Bbr (K:Nat)(q:PT Bbq):Rt s_64:=Ark K q.1 q.2.1
theorem Bt4 (K:Nat):AtJ (Bt3 K) [] [] (bd Tryz.f242) 7 (Bbr K):=fun q=>by kernel_rfl
theorem Bpt (K:Nat):XF [.cell 4 28] s_64 38 [7] (Bt3 K):=xkF (gC (A00 K) (gC (Bpe K) gN)) oN
theorem Bt5 (K:Nat):CF [.cell 4 28] s_64 38 [7] (bd Tryz.f242) [] 7 (ar Bbq (Bbr K)):=
 Apg (Bpt K) (Bt4 K) kN
theorem Bzl (K:Nat):OkF 242 (Bzk K):=
 Aa6 (x:=Bt3 K) (L:=[(7,ar Bbq (Bbr K))]) (c0:=bd Tryz.f242) (Bpt K) (by intro a0 a1;show @Eq _ _ _;kernel_rfl) (kC (Bt5 K) kN) Tryz.func242 trivial
def Ap1 (K:Nat)(a1:List Int):Nat->Int->Int->Int->Int->Int->Int->Int->(List Int)->(List Int)->(List Int)->(List Ba)->(List Ax)->(List Int)->Option (Eb)
 |0,_,_,_,_,_,_,_,_,_,_,_,_,_=>none
 |n1+1,v1,v2,v3,v4,v5,v6,v7,v8,v9,v10,v11,v12,v13=>(bif (decide (v1<(a1.length:Int)))then(if(0:Int)≤v1∧v1<(a1.length:Int)then((Aw7 K (Dw.mk v8 v9 v10) (gt a1 v1)).bind fun r14=>(Ap1 K a1 n1 (Aoa .i64 v1 1) v2 v3 v4 v5 v6 v7 r14.Fy r14.Hh r14.Fz v11 v12 v13))else none)else some (Eb.mk (Er.mk v2 v3 v4 v5 v6 v7) (Dw.mk v8 v9 v10) v11 v12 v13))
def Awc (K:Nat)(a0:Eb)(a1:List Int):Option (Eb):=(Ap1 K a1 K 0 a0.fC.Ae a0.fC.Eg a0.fC.C0 a0.fC.E9 a0.fC.C1 a0.fC.Eh a0.fP.Fy a0.fP.Hh a0.fP.Fz a0.fL a0.fQ a0.Pr)
def s_65:Sig:=⟨[.b 32 false,.v 26],[],false⟩
def Bzm (K:Nat):Gb tyU:=⟨s_65,Awc K⟩
def Bt6 (K:Nat):=xF s_65 [(242,Bzk K)] [] 23 [] [(3,[.take 1 6 5022,.take 1 7 5023,.take 1 8 5024])] [] [] []
def Bbs:E5:=⟨[(0,.p 1),(1,.v 26),(4,.v 2)],[(1,.box [.v 2,.v 2,.v 2,.v 2,.v 2,.v 2,.T 5 true,.T 3 true,.T 3 true,.T 44 false,.T 159 false,.T 3 true])]⟩
def Bbt (K:Nat)(n:Nat)(q:PT Bbs):Rt s_65:=Ap1 K q.1 n q.2.1 q.2.2.1 q.2.2.2.1 q.2.2.2.2.1 q.2.2.2.2.2.1 q.2.2.2.2.2.2.1 q.2.2.2.2.2.2.2.1 q.2.2.2.2.2.2.2.2.1 q.2.2.2.2.2.2.2.2.2.1 q.2.2.2.2.2.2.2.2.2.2.1 q.2.2.2.2.2.2.2.2.2.2.2.1 q.2.2.2.2.2.2.2.2.2.2.2.2.1 q.2.2.2.2.2.2.2.2.2.2.2.2.2.1
theorem Bt7 (K:Nat):AtL (Bt6 K) (fun n=>[]) [] (bd Tryz.f169) 6 (Bbt K):=fun n q=>by kernel_rfl
theorem Bpu (K:Nat):XF [] s_65 23 [] (Bt6 K):=xkF (gC (Bzl K) gN) oN
theorem Bt8 (K:Nat)(n:Nat):CF [] s_65 23 [] (bd Tryz.f169) [] 6 (ar Bbs (Bbt K n)):=
 Aeg (Bpu K) (Bt7 K) (fun n=>kN) n
theorem Bzn (K:Nat):OkF 169 (Bzm K):=
 Aa6 (x:=Bt6 K) (L:=[(6,ar Bbs (Bbt K K))]) (c0:=bd Tryz.f169) (Bpu K) (by intro a0 a1;show @Eq _ _ _;kernel_rfl) (kC (Bt8 K K) kN) Tryz.func169 trivial
def Avc (K:Nat)(a0:Ba):Option (Ba):=((Atv K a0).bind fun r1=>some (Ba.mk r1.Hh r1.C2 (Aoa .i64 a0.Ly 1) r1.fUp r1.Gq 0 r1.Gr r1.Gs ([]:List Int) 0 0 ([]:List A9) ([]:List Int)))
def Bzo:Sig:=⟨[.v 44],[.n 44 true],true⟩
def Bzp (K:Nat):Gb tyU:=⟨Bzo,Avc K⟩
def B34 (K:Nat):=xF Bzo [(209,Btl K)] [] 20 [] [] [] [] [.cell 2 44]
theorem Bzq (K:Nat):OkF 170 (Bzp K):=
 Aa6 (x:=B34 K) (L:=[]) (c0:=bd Tryz.f170) (xkF (gC (Bpf K) gN) oN) (by intro a0;show @Eq _ _ _;kernel_rfl) kN Tryz.func170 trivial
def Ask (K:Nat)(a0:Eb)(a1:Int):Option (Eb):=(if(0:Int)≤a1∧a1<(a0.fL.length:Int)then((Avb K (gt a0.fL a1) 0).bind fun r1=>(if(0:Int)≤a1∧a1<(a0.fL.length:Int)then((Awc K a0 ((gt a0.fL a1).Ae)).bind fun r2=>(if(0:Int)≤a1∧a1<(r2.fL.length:Int)then((Avc K (gt r2.fL a1)).bind fun r3=>(if(0:Int)≤a1∧a1<(r2.fL.length:Int)then(if(r2.fQ++([r1]:List Ax)).length*72≤140737488355328∧(r2.fQ++([r1]:List Ax)).length≤maxLen then some (Eb.mk r2.fC r2.fP (r2.fL.set a1.toNat r3) (r2.fQ++([r1]:List Ax)) r2.Pr)else none)else none))else none))else none))else none)
def Bzr:Sig:=⟨[.b 32 false,.v 3],[],false⟩
def Bzs (K:Nat):Gb tyU:=⟨Bzr,Ask K⟩
def B35 (K:Nat):=xF Bzr [(168,Bzi K),(169,Bzm K),(170,Bzp K)] [] 47 [] [(0,[.take 1 9 5025]),(1,[.put 1,.take 1 9 5025]),(2,[.take 1 9 5025]),(3,[.take 1 10 5026,.frz 20384,.frz 20385])] [(21,[.put 1])] [] []
theorem Bzt (K:Nat):OkF 101 (Bzs K):=
 Aa6 (x:=B35 K) (L:=[]) (c0:=bd Tryz.f101) (xkF (gC (Bzj K) (gC (Bzn K) (gC (Bzq K) gN))) oN) (by intro a0 a1;show @Eq _ _ _;kernel_rfl) kN Tryz.func101 trivial
def Ayb (K:Nat)(a0:List Ba)(a1:Int):Option (Int):=((Auu K a0 a1).bind fun r1=>some (r1.length:Int))
def Bzu:Sig:=⟨[.v 29,.v 3],[.v 3],true⟩
def Bzv (K:Nat):Gb tyU:=⟨Bzu,Ayb K⟩
def B36 (K:Nat):=xF Bzu [(224,Bmn K)] [] 9 [] [] [] [] [.tmp 4]
theorem Bzw (K:Nat):OkF 152 (Bzv K):=
 Aa6 (x:=B36 K) (L:=[]) (c0:=bd Tryz.f152) (xkF (gC (Bgd K) gN) oN) (by intro a0 a1;show @Eq _ _ _;kernel_rfl) kN Tryz.func152 trivial
def Aty (K:Nat)(a0:Eb)(a1:Ct):Option (Int):=((Ari K a0.fL a1).bind fun r1=>((Ayb K a0.fL r1).bind fun r2=>some r2))
def Bzx:Sig:=⟨[.v 32,.v 34],[.v 3],true⟩
def Bzy (K:Nat):Gb tyU:=⟨Bzx,Aty K⟩
def B37 (K:Nat):=xF Bzx [(150,Bt2 K),(152,Bzv K)] [] 12 [] [] [] [] [.tmp 4]
theorem Bzz (K:Nat):OkF 86 (Bzy K):=
 Aa6 (x:=B37 K) (L:=[]) (c0:=bd Tryz.f86) (xkF (gC (Bps K) (gC (Bzw K) gN)) oN) (by intro a0 a1;show @Eq _ _ _;kernel_rfl) kN Tryz.func86 trivial
def Aw8 (K:Nat)(a0:Eb)(a1:Ct):Option (Eb×Fh):=((Au3 K a0).bind fun r1=>((Au9 K a0).bind fun r2=>(bif (!r2)then some (r1,(Fh.mk 1 (Ct.mk 0 0) (Fg.mk (Ct.mk 0 0) 0 0) [] 0 0 0))else((Aud K a0 a1).bind fun r3=>(bif (r3.2==0)then((Ask K r1 r3.1).bind fun r4=>((Aty K a0 a1).bind fun r5=>some (r4,(Fh.mk r3.2 (Ct.mk 0 0) (Fg.mk (Ct.mk 0 0) 0 0) [] r5 0 0))))else((Aty K a0 a1).bind fun r6=>some (r1,(Fh.mk r3.2 (Ct.mk 0 0) (Fg.mk (Ct.mk 0 0) 0 0) [] r6 0 0))))))))
def Bz0:Sig:=⟨[.v 32,.v 34],[.n 32 false,.n 69 true],false⟩
def Bz1 (K:Nat):Gb tyU:=⟨Bz0,Aw8 K⟩
def B38 (K:Nat):=xF Bz0 [(82,Bxl K),(83,By6 K),(85,Bzf K),(86,Bzy K),(101,Bzs K)] [] 32 [] [(6,[.put 106,.take 106 9 6705,.shal 6705,.take 106 10 6706,.shal 6706]),(7,[.take 106 6 6702,.take 106 7 6703,.take 106 8 6704,.take 106 9 6705,.take 106 10 6706,.take 106 11 6707])] [(24,[.put 106])] [] [.cell 4 32,.cell 5 69]
theorem Bz2 (K:Nat):OkF 39 (Bz1 K):=
 Aa6 (x:=B38 K) (L:=[]) (c0:=bd Tryz.f39) (xkF (gC (Bxm K) (gC (By7 K) (gC (Bzg K) (gC (Bzz K) (gC (Bzt K) gN))))) oN) (by intro a0 a1;show @Eq _ _ _;kernel_rfl) kN Tryz.func39 trivial
def Aww (K:Nat)(a0:Ec):Option (Eb):=((Av7 K a0.fC).bind fun r1=>((Av8 K a0.fP).bind fun r2=>((Ast K a0.fL).bind fun r3=>((Ar5 K a0.fQ).bind fun r4=>((Ang K a0.Pr).bind fun r5=>some (Eb.mk r1 r2 r3 r4 r5))))))
def Bz3:Sig:=⟨[.v 52],[.v 32],false⟩
def Bz4 (K:Nat):Gb tyU:=⟨Bz3,Aww K⟩
def B39 (K:Nat):=xF Bz3 [(65,c_9 K),(66,Bte K),(67,Btg K),(68,Bti K),(69,Bdx K)] [] 25 [] [] [] [] [.cell 2 32]
theorem Bz5 (K:Nat):OkF 20 (Bz4 K):=
 Aa6 (x:=B39 K) (L:=[]) (c0:=bd Tryz.f20) (xkF (gC (Bwt K) (gC (Bo8 K) (gC (Bpb K) (gC (Bpd K) (gC (A97 K) gN))))) oN) (by intro a0;show @Eq _ _ _;kernel_rfl) kN Tryz.func20 trivial
def Ac1 (K:Nat)(a0:Int)(a1:Int)(a2:Int):Option (Bool):=(bif (decide (a0≥a1))then some (decide (a0≤a2))else some false)
def Bz6:Sig:=⟨[.v 3,.v 3,.v 3],[.v 4],true⟩
def A6b (K:Nat):Gb tyU:=⟨Bz6,Ac1 K⟩
def B4a (K:Nat):=xF Bz6 [] [] 15 [9,10] [] [] [] [.tmp 6]
theorem A1a (K:Nat):OkF 88 (A6b K):=
 Aa6 (x:=B4a K) (L:=[]) (c0:=bd Tryz.f88) (xkF gN oN) (by intro a0 a1 a2;show @Eq _ _ _;kernel_rfl) kN Tryz.func88 trivial
def Asc (K:Nat)(a0:Er):Option (Bool):=((Ac1 K a0.Ae 2 12).bind fun r1=>(bif r1 then((Ac1 K a0.Eg 8 16).bind fun r2=>(bif r2 then((Ac1 K a0.C0 2 8).bind fun r3=>(bif r3 then((Ac1 K a0.E9 1 8).bind fun r4=>(bif r4 then((Ac1 K a0.C1 1 16).bind fun r5=>(bif r5 then((Ac1 K a0.Eh 1 4).bind fun r6=>some r6)else some false))else some false))else some false))else some false))else some false))
def Bz7:Sig:=⟨[.v 25],[.v 4],true⟩
def Bhh (K:Nat):Gb tyU:=⟨Bz7,Asc K⟩
def B4b (K:Nat):=xF Bz7 [(88,A6b K)] [] 31 [5,6,9,10,11,14,15,16,19,20,21,24,25,26] [] [] [] [.tmp 2]
theorem Bdc (K:Nat):OkF 198 (Bhh K):=
 Aa6 (x:=B4b K) (L:=[]) (c0:=bd Tryz.f198) (xkF (gC (A1a K) gN) oN) (by intro a0;show @Eq _ _ _;kernel_rfl) kN Tryz.func198 trivial
def Avd (K:Nat)(a0:Er):Option (Int):=((Asc K a0).bind fun r1=>(bif (!r1)then some 0 else some (Aoc .i64 a0.Ae a0.Eg)))
def Bz8:Sig:=⟨[.v 25],[.v 3],true⟩
def Bt9 (K:Nat):Gb tyU:=⟨Bz8,Avd K⟩
def B4c (K:Nat):=xF Bz8 [(198,Bhh K)] [] 11 [] [] [] [] [.tmp 2]
theorem Bpv (K:Nat):OkF 123 (Bt9 K):=
 Aa6 (x:=B4c K) (L:=[]) (c0:=bd Tryz.f123) (xkF (gC (Bdc K) gN) oN) (by intro a0;show @Eq _ _ _;kernel_rfl) kN Tryz.func123 trivial
def Aq0 (K:Nat)(a0:Dw)(a1:Er)(a2:Int):Option ((List Int)):=(if(0:Int)≤(Aoc .i64 a2 a1.Eg)∧(Aoc .i64 a2 a1.Eg)≤(Aoc .i64 (Aoa .i64 a2 1) a1.Eg)∧(Aoc .i64 (Aoa .i64 a2 1) a1.Eg)≤(a0.Fy.length:Int)then some ((a0.Fy.drop (Aoc .i64 a2 a1.Eg).toNat).take ((Aoc .i64 (Aoa .i64 a2 1) a1.Eg) - (Aoc .i64 a2 a1.Eg)).toNat)else none)
def Bz9:Sig:=⟨[.v 28,.v 25,.v 3],[.v 22],false⟩
def Bua (K:Nat):Gb tyU:=⟨Bz9,Aq0 K⟩
def B4d (K:Nat):=xF Bz9 [] [] 19 [] [] [] [] [.tmp 6]
theorem Bpw (K:Nat):OkF 227 (Bua K):=
 Aa6 (x:=B4d K) (L:=[]) (c0:=bd Tryz.f227) (xkF gN oN) (by intro a0 a1 a2;show @Eq _ _ _;kernel_rfl) kN Tryz.func227 trivial
def Awx (K:Nat)(a0:Int):Option (Bool):=some (a0 != 0)
def B0a:Sig:=⟨[.v 5],[.v 4],true⟩
def B0b (K:Nat):Gb tyU:=⟨B0a,Awx K⟩
def B4e (K:Nat):=xF B0a [] [] 5 [] [] [] [] [.tmp 2]
theorem B0c (K:Nat):OkF 268 (B0b K):=
 Aa6 (x:=B4e K) (L:=[]) (c0:=bd Tryz.f268) (xkF gN oN) (by intro a0;show @Eq _ _ _;kernel_rfl) kN Tryz.func268 trivial
def Ag7 (K:Nat)(a0:List Int):Nat->Int->Int->Option (Int)
 |0,_,_=>none
 |n1+1,v1,v2=>(bif (decide (v2<v1))then(if(0:Int)≤v2∧v2<(a0.length:Int)then((Awx K (gt a0 v2)).bind fun r3=>(bif r3 then some v2 else(Ag7 K a0 n1 v1 (Aoa .i64 v2 1))))else none)else some (-1))
def Alg (K:Nat)(a0:List Int):Option (Int):=(Ag7 K a0 K (a0.length:Int) 0)
def s_77:Sig:=⟨[.v 22,.f 268 [] []],[.v 3],true⟩
def B0d (K:Nat):Gb tyU:=⟨s_77,Alg K⟩
def Bub (K:Nat):=xF s_77 [(268,B0b K)] [] 19 [] [] [] [] [.tmp 4]
def A8m:E5:=⟨[(0,.v 22),(1,.f 268 [] []),(7,.v 2),(8,.v 2)],[]⟩
def A8n (K:Nat)(n:Nat)(q:PT A8m):Rt s_77:=Ag7 K q.1 n q.2.1 q.2.2.1
theorem Bnz (K:Nat):AtL (Bub K) (fun n=>[]) [] (bd Tryz.f297) 26 (A8n K):=fun n q=>by kernel_rfl
theorem Bpx (K:Nat):XF [.tmp 4] s_77 19 [] (Bub K):=xkF (gC (B0c K) gN) oN
theorem Bn0 (K:Nat)(n:Nat):CF [.tmp 4] s_77 19 [] (bd Tryz.f297) [] 26 (ar A8m (A8n K n)):=
 Aeg (Bpx K) (Bnz K) (fun n=>kN) n
theorem B0e (K:Nat):OkF 297 (B0d K):=
 Aa6 (x:=Bub K) (L:=[(26,ar A8m (A8n K K))]) (c0:=bd Tryz.f297) (Bpx K) (by intro a0;show @Eq _ _ _;kernel_rfl) (kC (Bn0 K K) kN) Tryz.func297 trivial
def Ajc (K:Nat)(a0:List Int):Option (Bool):=((Alg K a0).bind fun r1=>some (decide (r1≥0)))
def B0f:Sig:=⟨[.v 22,.f 268 [] []],[.v 4],true⟩
def B0g (K:Nat):Gb tyU:=⟨B0f,Ajc K⟩
def B4f (K:Nat):=xF B0f [(297,B0d K)] [] 9 [] [] [] [] [.tmp 4]
theorem B0h (K:Nat):OkF 267 (B0g K):=
 Aa6 (x:=B4f K) (L:=[]) (c0:=bd Tryz.f267) (xkF (gC (B0e K) gN) oN) (by intro a0;show @Eq _ _ _;kernel_rfl) kN Tryz.func267 trivial
def Asd (K:Nat)(a0:List Int):Option (Bool):=((Ajc K a0).bind fun r1=>some (!r1))
def B0i:Sig:=⟨[.v 22],[.v 4],true⟩
def Bn1 (K:Nat):Gb tyU:=⟨B0i,Asd K⟩
def B4g (K:Nat):=xF B0i [(267,B0g K)] [] 6 [] [] [] [] [.tmp 2]
theorem Bhi (K:Nat):OkF 226 (Bn1 K):=
 Aa6 (x:=B4g K) (L:=[]) (c0:=bd Tryz.f226) (xkF (gC (B0h K) gN) oN) (by intro a0;show @Eq _ _ _;kernel_rfl) kN Tryz.func226 trivial
def Aue (K:Nat)(v3:List Int)(v4:Int)(v6:List Int)(v7:List Int)(v8:List Int)(v12:Int)(C1:(List Int)->Int->Int->(List Int)->(List Int)->(List Int)->Option (Bool))(v16:Bool):Option (Bool):=(bif v16 then some false else(C1 v3 v4 (Aoa .i64 v12 1) v6 v7 v8))
def Ap2 (K:Nat)(a0:Er)(v3:List Int)(v4:Int)(v5:Int)(v6:List Int)(v7:List Int)(v8:List Int)(C1:(List Int)->Int->Int->(List Int)->(List Int)->(List Int)->Option (Bool))(v11:Int)(v12:Int)(v13:Bool):Option (Bool):=(bif v13 then some false else(bif (v11==0)then((Aq0 K (Dw.mk v6 v7 v8) a0 v5).bind fun r14=>((Asd K r14).bind fun r15=>(Aue K v3 v4 v6 v7 v8 v12 (C1) (!r15))))else(Aue K v3 v4 v6 v7 v8 v12 (C1) false)))
def Ai3 (K:Nat)(a0:Er):Nat->(List Int)->Int->Int->(List Int)->(List Int)->(List Int)->Option (Bool)
 |0,_,_,_,_,_,_=>none
 |n1+1,v3,v4,v5,v6,v7,v8=>(bif (decide (v5<v4))then(if(0:Int)≤v5∧v5<(v3.length:Int)then((Ac1 K (gt v3 v5) 0 2).bind fun r9=>(bif (!r9)then some false else(bif ((gt v3 v5)==1)then(if(0:Int)≤v5∧v5<(v8.length:Int)then((Ac1 K (gt v8 v5) 0 (Aob .i64 a0.C0 1)).bind fun r10=>(bif r10 then(bif ((gt v3 v5) != 1)then(if(0:Int)≤v5∧v5<(v8.length:Int)then(Ap2 K a0 v3 v4 v5 v6 v7 v8 (Ai3 K a0 n1) (gt v3 v5) v5 ((gt v8 v5) != (-1)))else none)else(Ap2 K a0 v3 v4 v5 v6 v7 v8 (Ai3 K a0 n1) (gt v3 v5) v5 false))else(Ap2 K a0 v3 v4 v5 v6 v7 v8 (Ai3 K a0 n1) (gt v3 v5) v5 true)))else none)else(bif ((gt v3 v5) != 1)then(if(0:Int)≤v5∧v5<(v8.length:Int)then(Ap2 K a0 v3 v4 v5 v6 v7 v8 (Ai3 K a0 n1) (gt v3 v5) v5 ((gt v8 v5) != (-1)))else none)else(Ap2 K a0 v3 v4 v5 v6 v7 v8 (Ai3 K a0 n1) (gt v3 v5) v5 false)))))else none)else some true)
def Awd (K:Nat)(a0:Er)(a1:Dw):Option (Bool):=((Asc K a0).bind fun r1=>(bif r1 then((Avd K a0).bind fun r2=>(bif ((a1.Fy.length:Int) != r2)then some false else(bif ((a1.Hh.length:Int) != a0.Ae)then some false else(bif ((a1.Fz.length:Int) != a0.Ae)then some false else(Ai3 K a0 K a1.Hh (a1.Hh.length:Int) 0 a1.Fy a1.Hh a1.Fz)))))else some false))
def s_80:Sig:=⟨[.v 25,.v 28],[.v 4],true⟩
def B0j (K:Nat):Gb tyU:=⟨s_80,Awd K⟩
def Bhj (K:Nat):=xF s_80 [(88,A6b K),(123,Bt9 K),(198,Bhh K),(226,Bn1 K),(227,Bua K)] [] 85 [8,9,10,16,17,18,24,25,26,48,49,58,59,60,61,63,64,75,76] [] [] [29899,119599] [.tmp 4]
def Azb:E5:=⟨[(2,.p 102),(3,.p 103),(35,.v 26),(36,.v 2),(37,.v 2),(73,.v 4)],[(103,.box [.v 22,.v 26,.v 26]),(102,.st 25 true)]⟩
def A0d:E5:=⟨[(2,.p 102),(3,.p 103),(5,.v 2),(6,.v 2),(35,.v 26),(36,.v 2),(37,.v 2),(46,.v 4)],[(103,.box [.v 22,.v 26,.v 26]),(102,.st 25 true)]⟩
def Ath:E5:=⟨[(2,.p 102),(3,.p 103),(35,.v 26),(36,.v 2),(37,.v 2)],[(103,.box [.v 22,.v 26,.v 26]),(102,.st 25 true)]⟩
def Azc (K:Nat)(C58:CT Ath s_80)(q:PT Azb):Rt s_80:=Aue K q.1 q.2.1 q.2.2.2.2.1 q.2.2.2.2.2.1 q.2.2.2.2.2.2.1 q.2.2.1 (fun v3 v4 v5 v6 v7 v8=>C58 (v3,v4,v5,v6,v7,v8,q.2.2.2.2.2.2.2.1,())) q.2.2.2.1
def A0e (K:Nat)(C58:CT Ath s_80)(q:PT A0d):Rt s_80:=Ap2 K q.2.2.2.2.2.2.2.2.2.1 q.2.2.1 q.2.2.2.1 q.1 q.2.2.2.2.2.2.1 q.2.2.2.2.2.2.2.1 q.2.2.2.2.2.2.2.2.1 (fun v3 v4 v5 v6 v7 v8=>C58 (v3,v4,v5,v6,v7,v8,q.2.2.2.2.2.2.2.2.2.1,())) q.2.1 q.2.2.2.2.1 q.2.2.2.2.2.1
def A1b (K:Nat)(n:Nat)(q:PT Ath):Rt s_80:=Ai3 K q.2.2.2.2.2.2.1 n q.1 q.2.1 q.2.2.1 q.2.2.2.1 q.2.2.2.2.1 q.2.2.2.2.2.1
theorem Bad (K:Nat)(C58:CT Ath s_80):AtJ (Bhj K) [] [(58,ar Ath C58)] (bd Tryz.f153) 119599 (Azc K C58):=fun q=>by kernel_rfl
theorem Bbu (K:Nat)(C58:CT Ath s_80):AtJ (Bhj K) [(119599,ar Azb (Azc K C58))] [(58,ar Ath C58)] (bd Tryz.f153) 29899 (A0e K C58):=fun q=>by kernel_rfl
theorem Bn2 (K:Nat):AtL (Bhj K) (fun n=>[(29899,ar A0d (A0e K (A1b K n)))]) [] (bd Tryz.f153) 58 (A1b K):=fun n q=>by kernel_rfl
theorem Bdd (K:Nat):XF [.tmp 4] s_80 85 [29899,119599] (Bhj K):=xkF (gC (A1a K) (gC (Bpv K) (gC (Bdc K) (gC (Bhi K) (gC (Bpw K) gN))))) oN
theorem Bae (K:Nat)(C58:CT Ath s_80):CF [.tmp 4] s_80 85 [29899,119599] (bd Tryz.f153) [(58,ar Ath C58)] 119599 (ar Azb (Azc K C58)):=
 Apg (Bdd K) (Bad K C58) kN
theorem Bbv (K:Nat)(C58:CT Ath s_80):CF [.tmp 4] s_80 85 [29899,119599] (bd Tryz.f153) [(58,ar Ath C58)] 29899 (ar A0d (A0e K C58)):=
 Apg (Bdd K) (Bbu K C58) (kC (Bae K C58) kN)
theorem Bn3 (K:Nat)(n:Nat):CF [.tmp 4] s_80 85 [29899,119599] (bd Tryz.f153) [] 58 (ar Ath (A1b K n)):=
 Aeg (Bdd K) (Bn2 K) (fun n=>(kC (Bbv K (A1b K n)) kN)) n
theorem B0k (K:Nat):OkF 153 (B0j K):=
 Aa6 (x:=Bhj K) (L:=[(58,ar Ath (A1b K K))]) (c0:=bd Tryz.f153) (Bdd K) (by intro a0 a1;show @Eq _ _ _;kernel_rfl) (kC (Bn3 K K) kN) Tryz.func153 trivial
def Aen (K:Nat)(a0:List Int):Option ((List Int)):=(bif a0.isEmpty then Afd (some []) ((if(([]:List Int)++a0).length*8≤140737488355328∧(([]:List Int)++a0).length≤maxLen then some (([]:List Int)++a0)else none))else(if(([]:List Int)++a0).length*8≤140737488355328∧(([]:List Int)++a0).length≤maxLen then some (([]:List Int)++a0)else none))
def B0l:Sig:=⟨[.v 26],[.n 26 true],true⟩
def Bbw (K:Nat):Gb tyU:=⟨B0l,Aen K⟩
def B4h (K:Nat):=xF B0l [] [] 8 [] [] [] [] [.tmp 2]
theorem A6x (K:Nat):OkF 160 (Bbw K):=
 Aa6 (x:=B4h K) (L:=[]) (c0:=bd Tryz.f160) (xkF gN oN) (by intro a0;show @Eq _ _ _;kernel_rfl) kN Tryz.func160 trivial
def Aiy (K:Nat)(a0:List Int)(a1:List Int):Nat->Int->Int->Option (Bool)
 |0,_,_=>none
 |n1+1,v1,v2=>(bif (decide (v2<v1))then(if(0:Int)≤v2∧v2<(a0.length:Int)then(if(0:Int)≤v2∧v2<(a1.length:Int)then(bif ((gt a0 v2) != (gt a1 v2))then some false else(Aiy K a0 a1 n1 v1 (Aoa .i64 v2 1)))else none)else none)else some true)
def Aiz (K:Nat)(a0:List Int)(a1:List Int):Option (Bool):=(bif ((a0.length:Int) != (a1.length:Int))then some false else(Aiy K a0 a1 K (a0.length:Int) 0))
def s_83:Sig:=⟨[.v 26,.v 26],[.v 4],true⟩
def Buc (K:Nat):Gb tyU:=⟨s_83,Aiz K⟩
def Bud (K:Nat):=xF s_83 [] [] 26 [] [] [] [] [.tmp 4]
def A8o:E5:=⟨[(0,.v 26),(1,.v 26),(12,.v 2),(13,.v 2)],[]⟩
def A8p (K:Nat)(n:Nat)(q:PT A8o):Rt s_83:=Aiy K q.1 q.2.1 n q.2.2.1 q.2.2.2.1
theorem Bn4 (K:Nat):AtL (Bud K) (fun n=>[]) [] (bd Tryz.f229) 58 (A8p K):=fun n q=>by kernel_rfl
theorem Bpy (K:Nat):XF [.tmp 4] s_83 26 [] (Bud K):=xkF gN oN
theorem Bn5 (K:Nat)(n:Nat):CF [.tmp 4] s_83 26 [] (bd Tryz.f229) [] 58 (ar A8o (A8p K n)):=
 Aeg (Bpy K) (Bn4 K) (fun n=>kN) n
theorem Bpz (K:Nat):OkF 229 (Buc K):=
 Aa6 (x:=Bud K) (L:=[(58,ar A8o (A8p K K))]) (c0:=bd Tryz.f229) (Bpy K) (by intro a0 a1;show @Eq _ _ _;kernel_rfl) (kC (Bn5 K K) kN) Tryz.func229 trivial
def An3 (K:Nat)(a0:List A9)(a1:List A9):Nat->Int->Int->Option (Bool)
 |0,_,_=>none
 |n1+1,v1,v2=>(bif (decide (v2<v1))then(if(0:Int)≤v2∧v2<(a0.length:Int)then(if(0:Int)≤v2∧v2<(a1.length:Int)then(bif (!((((gt a0 v2).fAt)==((gt a1 v2).fAt))&&((((gt a0 v2).Vu)==((gt a1 v2).Vu))&&((((gt a0 v2).Vv)==((gt a1 v2).Vv))&&true))))then some false else(An3 K a0 a1 n1 v1 (Aoa .i64 v2 1)))else none)else none)else some true)
def Ali (K:Nat)(a0:List A9)(a1:List A9):Option (Bool):=(bif ((a0.length:Int) != (a1.length:Int))then some false else(An3 K a0 a1 K (a0.length:Int) 0))
def s_84:Sig:=⟨[.v 41,.v 41],[.v 4],true⟩
def B0m (K:Nat):Gb tyU:=⟨s_84,Ali K⟩
def Bue (K:Nat):=xF s_84 [] [] 26 [] [] [] [] [.tmp 4]
def A8q:E5:=⟨[(0,.v 41),(1,.v 41),(12,.v 2),(13,.v 2)],[]⟩
def A8r (K:Nat)(n:Nat)(q:PT A8q):Rt s_84:=An3 K q.1 q.2.1 n q.2.2.1 q.2.2.2.1
theorem Bn6 (K:Nat):AtL (Bue K) (fun n=>[]) [] (bd Tryz.f309) 58 (A8r K):=fun n q=>by kernel_rfl
theorem Bp0 (K:Nat):XF [.tmp 4] s_84 26 [] (Bue K):=xkF gN oN
theorem Bn7 (K:Nat)(n:Nat):CF [.tmp 4] s_84 26 [] (bd Tryz.f309) [] 58 (ar A8q (A8r K n)):=
 Aeg (Bp0 K) (Bn6 K) (fun n=>kN) n
theorem B0n (K:Nat):OkF 309 (B0m K):=
 Aa6 (x:=Bue K) (L:=[(58,ar A8q (A8r K K))]) (c0:=bd Tryz.f309) (Bp0 K) (by intro a0 a1;show @Eq _ _ _;kernel_rfl) (kC (Bn7 K K) kN) Tryz.func309 trivial
def Awy (K:Nat)(a0:Ba)(a1:Ba):Option (Bool):=(bif (a0.Hh==a1.Hh)then(bif (a0.C2==a1.C2)then(bif (a0.Ly==a1.Ly)then(bif (a0.fUp==a1.fUp)then(bif (a0.Gq==a1.Gq)then(bif (a0.Bt==a1.Bt)then(bif (a0.Gr==a1.Gr)then(bif (a0.Gs==a1.Gs)then((Aiz K a0.Ae a1.Ae).bind fun r1=>(bif r1 then(bif (a0.Pq==a1.Pq)then(bif (a0.Gt==a1.Gt)then((Ali K a0.Ea a1.Ea).bind fun r2=>(bif r2 then((Aiz K a0.Dg a1.Dg).bind fun r3=>some r3)else some false))else some false)else some false)else some false))else some false)else some false)else some false)else some false)else some false)else some false)else some false)else some false)
def B0o:Sig:=⟨[.v 44,.v 44],[.v 4],true⟩
def B0p (K:Nat):Gb tyU:=⟨B0o,Awy K⟩
def B4i (K:Nat):=xF B0o [(229,Buc K),(309,B0m K)] [] 94 [9,10,15,16,17,22,23,24,29,30,31,36,37,38,43,44,45,50,51,52,57,58,59,64,65,66,71,72,73,78,79,80,85,86,87] [] [] [] [.tmp 4]
theorem B0q (K:Nat):OkF 274 (B0p K):=
 Aa6 (x:=B4i K) (L:=[]) (c0:=bd Tryz.f274) (xkF (gC (Bpz K) (gC (B0n K) gN)) oN) (by intro a0 a1;show @Eq _ _ _;kernel_rfl) kN Tryz.func274 trivial
def Ax4 (K:Nat)(a0:Ba):Option (Bool):=((Awy K a0 (Ba.mk a0.Hh a0.C2 0 0 0 0 0 0 ([]:List Int) 0 0 ([]:List A9) ([]:List Int))).bind fun r1=>some r1)
def B0r:Sig:=⟨[.v 44],[.v 4],true⟩
def B0s (K:Nat):Gb tyU:=⟨B0r,Ax4 K⟩
def B4j (K:Nat):=xF B0r [(274,B0p K)] [] 10 [] [] [] [] [.tmp 2]
theorem B0t (K:Nat):OkF 239 (B0s K):=
 Aa6 (x:=B4j K) (L:=[]) (c0:=bd Tryz.f239) (xkF (gC (B0q K) gN) oN) (by intro a0;show @Eq _ _ _;kernel_rfl) kN Tryz.func239 trivial
def An0 (K:Nat)(a0:List Int)(a1:Int):Nat->Int->Int->Option (Int)
 |0,_,_=>none
 |n1+1,v1,v2=>(bif (decide (v2<v1))then(if(0:Int)≤v2∧v2<(a0.length:Int)then(bif (a1==(gt a0 v2))then some v2 else(An0 K a0 a1 n1 v1 (Aoa .i64 v2 1)))else none)else some (-1))
def Aur (K:Nat)(a0:List Int)(a1:Int):Option (Int):=(An0 K a0 a1 K (a0.length:Int) 0)
def s_87:Sig:=⟨[.v 26,.v 3],[.v 3],true⟩
def B0u (K:Nat):Gb tyU:=⟨s_87,Aur K⟩
def Buf (K:Nat):=xF s_87 [] [] 19 [] [] [] [] [.tmp 4]
def A8s:E5:=⟨[(0,.v 26),(1,.v 2),(7,.v 2),(8,.v 2)],[]⟩
def A8t (K:Nat)(n:Nat)(q:PT A8s):Rt s_87:=An0 K q.1 q.2.1 n q.2.2.1 q.2.2.2.1
theorem Bn8 (K:Nat):AtL (Buf K) (fun n=>[]) [] (bd Tryz.f126) 26 (A8t K):=fun n q=>by kernel_rfl
theorem Bp1 (K:Nat):XF [.tmp 4] s_87 19 [] (Buf K):=xkF gN oN
theorem Bn9 (K:Nat)(n:Nat):CF [.tmp 4] s_87 19 [] (bd Tryz.f126) [] 26 (ar A8s (A8t K n)):=
 Aeg (Bp1 K) (Bn8 K) (fun n=>kN) n
theorem B0v (K:Nat):OkF 126 (B0u K):=
 Aa6 (x:=Buf K) (L:=[(26,ar A8s (A8t K K))]) (c0:=bd Tryz.f126) (Bp1 K) (by intro a0 a1;show @Eq _ _ _;kernel_rfl) (kC (Bn9 K K) kN) Tryz.func126 trivial
def Amb (K:Nat)(a0:List Int)(a1:Int):Option (Bool):=((Aur K a0 a1).bind fun r1=>some (decide (r1≥0)))
def B0w:Sig:=⟨[.v 26,.v 3],[.v 4],true⟩
def Boa (K:Nat):Gb tyU:=⟨B0w,Amb K⟩
def B4k (K:Nat):=xF B0w [(126,B0u K)] [] 9 [] [] [] [] [.tmp 4]
theorem Bhk (K:Nat):OkF 57 (Boa K):=
 Aa6 (x:=B4k K) (L:=[]) (c0:=bd Tryz.f57) (xkF (gC (B0v K) gN) oN) (by intro a0 a1;show @Eq _ _ _;kernel_rfl) kN Tryz.func57 trivial
def Apa (K:Nat)(a0:Er)(a1:List Int):Nat->(List Int)->Int->Int->Option (Bool)
 |0,_,_,_=>none
 |n1+1,v1,v2,v3=>(bif (decide (v3<v2))then(if(0:Int)≤v3∧v3<(v1.length:Int)then((Ac1 K (gt v1 v3) 0 (Aob .i64 a0.Ae 1)).bind fun r4=>(bif r4 then(if(0:Int)≤0∧0≤v3∧v3≤(a1.length:Int)then((Amb K ((a1.drop (0:Int).toNat).take (v3 - 0).toNat) (gt v1 v3)).bind fun r5=>(bif r5 then some false else(Apa K a0 a1 n1 v1 v2 (Aoa .i64 v3 1))))else none)else some false))else none)else some true)
def Ar8 (K:Nat)(a0:Er)(a1:List Int):Option (Bool):=(Apa K a0 a1 K a1 (a1.length:Int) 0)
def s_89:Sig:=⟨[.v 25,.v 26],[.v 4],true⟩
def Bug (K:Nat):Gb tyU:=⟨s_89,Ar8 K⟩
def Buh (K:Nat):=xF s_89 [(57,Boa K),(88,A6b K)] [] 28 [18,19,20] [] [] [] [.tmp 4]
def A8u:E5:=⟨[(1,.v 26),(2,.p 102),(7,.v 26),(8,.v 2),(9,.v 2)],[(102,.st 25 true)]⟩
def A8v (K:Nat)(n:Nat)(q:PT A8u):Rt s_89:=Apa K q.2.2.2.2.1 q.1 n q.2.1 q.2.2.1 q.2.2.2.1
theorem Bob (K:Nat):AtL (Buh K) (fun n=>[]) [] (bd Tryz.f240) 26 (A8v K):=fun n q=>by kernel_rfl
theorem Bp2 (K:Nat):XF [.tmp 4] s_89 28 [] (Buh K):=xkF (gC (Bhk K) (gC (A1a K) gN)) oN
theorem Boc (K:Nat)(n:Nat):CF [.tmp 4] s_89 28 [] (bd Tryz.f240) [] 26 (ar A8u (A8v K n)):=
 Aeg (Bp2 K) (Bob K) (fun n=>kN) n
theorem Bp3 (K:Nat):OkF 240 (Bug K):=
 Aa6 (x:=Buh K) (L:=[(26,ar A8u (A8v K K))]) (c0:=bd Tryz.f240) (Bp2 K) (by intro a0 a1;show @Eq _ _ _;kernel_rfl) (kC (Boc K K) kN) Tryz.func240 trivial
def Asl (K:Nat)(a0:Int):Option (Bool):=((Ac1 K a0 0 255).bind fun r1=>some (!r1))
def B0x:Sig:=⟨[.v 3],[.v 4],true⟩
def B0y (K:Nat):Gb tyU:=⟨B0x,Asl K⟩
def B4l (K:Nat):=xF B0x [(88,A6b K)] [] 6 [] [] [] [] [.tmp 2]
theorem B0z (K:Nat):OkF 237 (B0y K):=
 Aa6 (x:=B4l K) (L:=[]) (c0:=bd Tryz.f237) (xkF (gC (A1a K) gN) oN) (by intro a0;show @Eq _ _ _;kernel_rfl) kN Tryz.func237 trivial
def Ag3 (K:Nat)(a0:List Int):Nat->Int->Int->Option (Int)
 |0,_,_=>none
 |n1+1,v1,v2=>(bif (decide (v2<v1))then(if(0:Int)≤v2∧v2<(a0.length:Int)then((Asl K (gt a0 v2)).bind fun r3=>(bif r3 then some v2 else(Ag3 K a0 n1 v1 (Aoa .i64 v2 1))))else none)else some (-1))
def Ak9 (K:Nat)(a0:List Int):Option (Int):=(Ag3 K a0 K (a0.length:Int) 0)
def s_91:Sig:=⟨[.v 26,.f 237 [] []],[.v 3],true⟩
def B00 (K:Nat):Gb tyU:=⟨s_91,Ak9 K⟩
def Bui (K:Nat):=xF s_91 [(237,B0y K)] [] 19 [] [] [] [] [.tmp 4]
def A8w:E5:=⟨[(0,.v 26),(1,.f 237 [] []),(7,.v 2),(8,.v 2)],[]⟩
def A8x (K:Nat)(n:Nat)(q:PT A8w):Rt s_91:=Ag3 K q.1 n q.2.1 q.2.2.1
theorem Bod (K:Nat):AtL (Bui K) (fun n=>[]) [] (bd Tryz.f272) 26 (A8x K):=fun n q=>by kernel_rfl
theorem Bp4 (K:Nat):XF [.tmp 4] s_91 19 [] (Bui K):=xkF (gC (B0z K) gN) oN
theorem Boe (K:Nat)(n:Nat):CF [.tmp 4] s_91 19 [] (bd Tryz.f272) [] 26 (ar A8w (A8x K n)):=
 Aeg (Bp4 K) (Bod K) (fun n=>kN) n
theorem B01 (K:Nat):OkF 272 (B00 K):=
 Aa6 (x:=Bui K) (L:=[(26,ar A8w (A8x K K))]) (c0:=bd Tryz.f272) (Bp4 K) (by intro a0;show @Eq _ _ _;kernel_rfl) (kC (Boe K K) kN) Tryz.func272 trivial
def Ai4 (K:Nat)(a0:List Int):Option (Bool):=((Ak9 K a0).bind fun r1=>some (decide (r1≥0)))
def B02:Sig:=⟨[.v 26,.f 237 [] []],[.v 4],true⟩
def B03 (K:Nat):Gb tyU:=⟨B02,Ai4 K⟩
def B4m (K:Nat):=xF B02 [(272,B00 K)] [] 9 [] [] [] [] [.tmp 4]
theorem B04 (K:Nat):OkF 236 (B03 K):=
 Aa6 (x:=B4m K) (L:=[]) (c0:=bd Tryz.f236) (xkF (gC (B01 K) gN) oN) (by intro a0;show @Eq _ _ _;kernel_rfl) kN Tryz.func236 trivial
def Aqw (K:Nat)(a0:List Int):Option (Bool):=((Ai4 K a0).bind fun r1=>some (!r1))
def B05:Sig:=⟨[.v 26],[.v 4],true⟩
def Bof (K:Nat):Gb tyU:=⟨B05,Aqw K⟩
def B4n (K:Nat):=xF B05 [(236,B03 K)] [] 6 [] [] [] [] [.tmp 2]
theorem Bhl (K:Nat):OkF 157 (Bof K):=
 Aa6 (x:=B4n K) (L:=[]) (c0:=bd Tryz.f157) (xkF (gC (B04 K) gN) oN) (by intro a0;show @Eq _ _ _;kernel_rfl) kN Tryz.func157 trivial
def Azd (K:Nat)(a0:Er)(a1:Int):Option (Bool):=some (decide (a1>a0.Eg))
def B06:Sig:=⟨[.v 25,.v 3],[.v 4],true⟩
def B07 (K:Nat):Gb tyU:=⟨B06,Azd K⟩
def B4o (K:Nat):=xF B06 [] [] 9 [] [] [] [] [.tmp 4]
theorem B08 (K:Nat):OkF 124 (B07 K):=
 Aa6 (x:=B4o K) (L:=[]) (c0:=bd Tryz.f124) (xkF gN oN) (by intro a0 a1;show @Eq _ _ _;kernel_rfl) kN Tryz.func124 trivial
def Aze (K:Nat)(a0:Int)(a1:Int):Option (Int):=((Ac1 K a0 0 1000000000).bind fun r1=>(bif r1 then((Ac1 K a1 1 1000000000).bind fun r2=>(bif (!r2)then some 0 else(if a1≠(0:Int)then some (Alr .i64 (Aob .i64 (Aoa .i64 a0 a1) 1) a1)else none)))else some 0))
def B09:Sig:=⟨[.v 3,.v 3],[.v 3],true⟩
def B1a (K:Nat):Gb tyU:=⟨B09,Aze K⟩
def B4p (K:Nat):=xF B09 [(88,A6b K)] [] 19 [6,7,8] [] [] [] [.tmp 4]
theorem B1b (K:Nat):OkF 199 (B1a K):=
 Aa6 (x:=B4p K) (L:=[]) (c0:=bd Tryz.f199) (xkF (gC (A1a K) gN) oN) (by intro a0 a1;show @Eq _ _ _;kernel_rfl) kN Tryz.func199 trivial
def Ayi (K:Nat)(a0:Er)(a1:Int):Option (Int):=((Aze K a1 a0.Eg).bind fun r1=>some r1)
def B1c:Sig:=⟨[.v 25,.v 3],[.v 3],true⟩
def B1d (K:Nat):Gb tyU:=⟨B1c,Ayi K⟩
def B4q (K:Nat):=xF B1c [(199,B1a K)] [] 9 [] [] [] [] [.tmp 4]
theorem B1e (K:Nat):OkF 125 (B1d K):=
 Aa6 (x:=B4q K) (L:=[]) (c0:=bd Tryz.f125) (xkF (gC (B1b K) gN) oN) (by intro a0 a1;show @Eq _ _ _;kernel_rfl) kN Tryz.func125 trivial
def Arl (K:Nat)(a0:Er)(a1:A9):Option (Bool):=((Avd K a0).bind fun r1=>(bif (decide (a1.Vu≤0))then some false else(bif (decide (a1.fAt<0))then some false else(bif (decide (a1.Vu>r1))then some false else(bif (decide (a1.fAt>(Aob .i64 r1 a1.Vu)))then some false else(bif (a1.Vv==0)then(bif (decide (a1.Vu≤a0.Eg))then(if a0.Eg≠(0:Int)then(if a0.Eg≠(0:Int)then some ((Alr .i64 a1.fAt a0.Eg)==(Alr .i64 (Aob .i64 (Aoa .i64 a1.fAt a1.Vu) 1) a0.Eg))else none)else none)else some false)else((Azd K a0 a1.Vu).bind fun r2=>(bif r2 then((Ayi K a0 a1.Vu).bind fun r3=>(bif (a1.Vv==r3)then(if a0.Eg≠(0:Int)then some ((Int.tmod a1.fAt a0.Eg)==0)else none)else some false))else some false))))))))
def B1f:Sig:=⟨[.v 25,.v 89],[.v 4],true⟩
def Buj (K:Nat):Gb tyU:=⟨B1f,Arl K⟩
def B4r (K:Nat):=xF B1f [(123,Bt9 K),(124,B07 K),(125,B1d K)] [] 77 [10,11,14,15,16,20,21,22,38,39,59,60,67,68,69] [] [] [] [.tmp 4]
theorem Bp5 (K:Nat):OkF 56 (Buj K):=
 Aa6 (x:=B4r K) (L:=[]) (c0:=bd Tryz.f56) (xkF (gC (Bpv K) (gC (B08 K) (gC (B1e K) gN))) oN) (by intro a0 a1;show @Eq _ _ _;kernel_rfl) kN Tryz.func56 trivial
def Auf (K:Nat)(a0:A9)(a1:Er):Option (Bool):=((Arl K a1 a0).bind fun r1=>some (!r1))
def B1g:Sig:=⟨[.v 89,.r 25],[.v 4],true⟩
def B1h (K:Nat):Gb tyU:=⟨B1g,Auf K⟩
def B4s (K:Nat):=xF B1g [(56,Buj K)] [] 8 [] [] [] [] [.tmp 3]
theorem B1i (K:Nat):OkF 241 (B1h K):=
 Aa6 (x:=B4s K) (L:=[]) (c0:=bd Tryz.f241) (xkF (gC (Bp5 K) gN) oN) (by intro a0 a1;show @Eq _ _ _;kernel_rfl) kN Tryz.func241 trivial
def Ae9 (K:Nat)(a0:List A9)(a1_0:Er):Nat->Int->Int->Option (Int)
 |0,_,_=>none
 |n1+1,v1,v2=>(bif (decide (v2<v1))then(if(0:Int)≤v2∧v2<(a0.length:Int)then((Auf K (gt a0 v2) a1_0).bind fun r3=>(bif r3 then some v2 else(Ae9 K a0 a1_0 n1 v1 (Aoa .i64 v2 1))))else none)else some (-1))
def An6 (K:Nat)(a0:List A9)(a1_0:Er):Option (Int):=(Ae9 K a0 a1_0 K (a0.length:Int) 0)
def s_99:Sig:=⟨[.v 41,.f 241 [] [25]],[.v 3],true⟩
def B1j (K:Nat):Gb tyU:=⟨s_99,An6 K⟩
def Buk (K:Nat):=xF s_99 [(241,B1h K)] [] 19 [] [] [] [] [.tmp 4]
def A8y:E5:=⟨[(0,.v 41),(1,.f 241 [] [25]),(7,.v 2),(8,.v 2)],[]⟩
def A8z (K:Nat)(n:Nat)(q:PT A8y):Rt s_99:=Ae9 K q.1 q.2.1 n q.2.2.1 q.2.2.2.1
theorem Bog (K:Nat):AtL (Buk K) (fun n=>[]) [] (bd Tryz.f122) 26 (A8z K):=fun n q=>by kernel_rfl
theorem Bp6 (K:Nat):XF [.tmp 4] s_99 19 [] (Buk K):=xkF (gC (B1i K) gN) oN
theorem Boh (K:Nat)(n:Nat):CF [.tmp 4] s_99 19 [] (bd Tryz.f122) [] 26 (ar A8y (A8z K n)):=
 Aeg (Bp6 K) (Bog K) (fun n=>kN) n
theorem B1k (K:Nat):OkF 122 (B1j K):=
 Aa6 (x:=Buk K) (L:=[(26,ar A8y (A8z K K))]) (c0:=bd Tryz.f122) (Bp6 K) (by intro a0 a1_0;show @Eq _ _ _;kernel_rfl) (kC (Boh K K) kN) Tryz.func122 trivial
def Ahy (K:Nat)(a0:List A9)(a1_0:Er):Option (Bool):=((An6 K a0 a1_0).bind fun r1=>some (decide (r1≥0)))
def Bp7:Sig:=⟨[.v 41,.f 241 [] [25]],[.v 4],true⟩
def Bp8 (K:Nat):Gb tyU:=⟨Bp7,Ahy K⟩
def B1l (K:Nat):=xF Bp7 [(122,B1j K)] [] 9 [] [] [] [] [.tmp 4]
theorem Bul (K:Nat):OkF 54 (Bp8 K):=
 Aa6 (x:=B1l K) (L:=[]) (c0:=bd Tryz.f54) (xkF (gC (B1k K) gN) oN) (by intro a0 a1_0;show @Eq _ _ _;kernel_rfl) kN Tryz.func54 trivial
def Ap3 (K:Nat)(a0:Er)(v19:List A9)(v20:List Int):Option (Bool):=(bif (decide ((v19.length:Int)≤12))then(bif (decide ((v20.length:Int)≤6))then((Aqw K v20).bind fun r25=>(bif r25 then((Ahy K v19 a0).bind fun r26=>some (!r26))else some false))else some false)else some false)
def Apj (K:Nat)(a0:Er):Nat->(List Int)->Int->Int->Int->Int->Int->Int->Int->Int->Int->Int->(List Int)->Int->Int->(List A9)->(List Int)->Option (Bool)
 |0,_,_,_,_,_,_,_,_,_,_,_,_,_,_,_,_=>none
 |n1+1,v5,v6,v7,v8,v9,v10,v11,v12,v13,v14,v15,v16,v17,v18,v19,v20=>(bif (decide (v7<v6))then(if(0:Int)≤v7∧v7<(v5.length:Int)then((Ac1 K (gt v5 v7) 0 a0.C0).bind fun r21=>(bif (!r21)then some false else(Apj K a0 n1 v5 v6 (Aoa .i64 v7 1) v8 v9 v10 v11 v12 v13 v14 v15 v16 v17 v18 v19 v20)))else none)else(bif (decide (v10<0))then some false else(bif (decide (v12<0))then some false else((Ar8 K a0 v16).bind fun r22=>(bif r22 then(bif (v17 != 0)then((Amb K v16 (Aob .i64 v17 1)).bind fun r23=>(bif r23 then((Ac1 K v18 0 a0.Eg).bind fun r24=>(bif r24 then(bif (v17==0)then(bif (v18 != 0)then some false else(Ap3 K a0 v19 v20))else(Ap3 K a0 v19 v20))else some false))else some false))else((Ac1 K v18 0 a0.Eg).bind fun r27=>(bif r27 then(bif (v17==0)then(bif (v18 != 0)then some false else(Ap3 K a0 v19 v20))else(Ap3 K a0 v19 v20))else some false)))else some false)))))
def Awe (K:Nat)(a0:Er)(a1:Ba):Option (Bool):=((Asc K a0).bind fun r1=>(bif r1 then((Ac1 K a1.Hh 0 3).bind fun r2=>(bif r2 then((Ac1 K a1.C2 1 a0.Eh).bind fun r3=>(bif (!r3)then some false else(bif (a1.Hh != 1)then((Ax4 K a1).bind fun r4=>some r4)else(Apj K a0 K ([a1.fUp,a1.Bt,a1.Gr,a1.Gs]:List Int) (([a1.fUp,a1.Bt,a1.Gr,a1.Gs]:List Int).length:Int) 0 a1.Hh a1.C2 a1.Ly a1.fUp a1.Gq a1.Bt a1.Gr a1.Gs a1.Ae a1.Pq a1.Gt a1.Ea a1.Dg))))else some false))else some false))
def s_101:Sig:=⟨[.v 25,.v 44],[.v 4],true⟩
def Bp9 (K:Nat):Gb tyU:=⟨s_101,Awe K⟩
def Bde (K:Nat):=xF s_101 [(54,Bp8 K),(57,Boa K),(88,A6b K),(157,Bof K),(198,Bhh K),(239,B0s K),(240,Bug K)] [] 118 [8,9,10,13,14,15,16,51,52,55,56,57,61,62,63,64,67,68,74,75,76,77,78,83,84,85,86,89,90,99,100,104,105,106,109,110,111] [(13,[.frzB 102 25])] [] [31] [.tmp 4]
def A3w:E5:=⟨[(2,.p 102),(3,.p 103)],[(103,.box [.v 2,.v 2,.v 2,.v 2,.v 2,.v 2,.v 2,.v 2,.v 26,.v 2,.v 2,.v 41,.v 26]),(102,.st 25 true)]⟩
def A16:E5:=⟨[(2,.p 102),(3,.p 103),(37,.v 26),(38,.v 2),(39,.v 2)],[(103,.box [.v 2,.v 2,.v 2,.v 2,.v 2,.v 2,.v 2,.v 2,.v 26,.v 2,.v 2,.v 41,.v 26]),(102,.st 25 true)]⟩
def A3x (K:Nat)(q:PT A3w):Rt s_101:=Ap3 K q.2.2.2.2.2.2.2.2.2.2.2.2.2.1 q.2.2.2.2.2.2.2.2.2.2.2.1 q.2.2.2.2.2.2.2.2.2.2.2.2.1
def A17 (K:Nat)(n:Nat)(q:PT A16):Rt s_101:=Apj K q.2.2.2.2.2.2.2.2.2.2.2.2.2.2.2.2.1 n q.1 q.2.1 q.2.2.1 q.2.2.2.1 q.2.2.2.2.1 q.2.2.2.2.2.1 q.2.2.2.2.2.2.1 q.2.2.2.2.2.2.2.1 q.2.2.2.2.2.2.2.2.1 q.2.2.2.2.2.2.2.2.2.1 q.2.2.2.2.2.2.2.2.2.2.1 q.2.2.2.2.2.2.2.2.2.2.2.1 q.2.2.2.2.2.2.2.2.2.2.2.2.1 q.2.2.2.2.2.2.2.2.2.2.2.2.2.1 q.2.2.2.2.2.2.2.2.2.2.2.2.2.2.1 q.2.2.2.2.2.2.2.2.2.2.2.2.2.2.2.1
theorem Bhm (K:Nat):AtJ (Bde K) [] [] (bd Tryz.f167) 31 (A3x K):=fun q=>by kernel_rfl
theorem Bej (K:Nat):AtL (Bde K) (fun n=>[(31,ar A3w (A3x K))]) [] (bd Tryz.f167) 122 (A17 K):=fun n q=>by kernel_rfl
theorem Bbx (K:Nat):XF [.tmp 4] s_101 118 [31] (Bde K):=xkF (gC (Bul K) (gC (Bhk K) (gC (A1a K) (gC (Bhl K) (gC (Bdc K) (gC (B0t K) (gC (Bp3 K) gN))))))) oN
theorem Bhn (K:Nat):CF [.tmp 4] s_101 118 [31] (bd Tryz.f167) [] 31 (ar A3w (A3x K)):=
 Apg (Bbx K) (Bhm K) kN
theorem Bek (K:Nat)(n:Nat):CF [.tmp 4] s_101 118 [31] (bd Tryz.f167) [] 122 (ar A16 (A17 K n)):=
 Aeg (Bbx K) (Bej K) (fun n=>(kC (Ao2 (by kernel_rfl) (Bhn K)) kN)) n
theorem Bum (K:Nat):OkF 167 (Bp9 K):=
 Aa6 (x:=Bde K) (L:=[(122,ar A16 (A17 K K))]) (c0:=bd Tryz.f167) (Bbx K) (by intro a0 a1;show @Eq _ _ _;kernel_rfl) (kC (Bek K K) kN) Tryz.func167 trivial
def Arm (K:Nat)(v2:Int)(v3:Int)(v4:List Int)(v5:List Int)(v6:List Int)(C1:(List Int)->Int->Int->(List Int)->(List Int)->(List Int)->Option ((List Int)))(v7:List Int):Option ((List Int)):=(C1 v7 v2 (Aoa .i64 v3 1) v4 v5 v6)
def Alh (K:Nat)(a1:Int):Nat->(List Int)->Int->Int->(List Int)->(List Int)->(List Int)->Option ((List Int))
 |0,_,_,_,_,_,_=>none
 |n1+1,v1,v2,v3,v4,v5,v6=>(bif (decide (v3<v2))then(if(0:Int)≤v3∧v3<(v5.length:Int)then(bif ((gt v5 v3)==1)then(if(0:Int)≤v3∧v3<(v6.length:Int)then(bif ((gt v6 v3)==a1)then(if(v1++([v3]:List Int)).length*8≤140737488355328∧(v1++([v3]:List Int)).length≤maxLen then(Arm K v2 v3 v4 v5 v6 (Alh K a1 n1) (v1++([v3]:List Int)))else none)else(Arm K v2 v3 v4 v5 v6 (Alh K a1 n1) v1))else none)else(Arm K v2 v3 v4 v5 v6 (Alh K a1 n1) v1))else none)else some v1)
def Ave (K:Nat)(a0:Dw)(a1:Int):Option ((List Int)):=(Alh K a1 K ([]:List Int) (Aaf (a0.Hh.length:Int) (a0.Fz.length:Int)) 0 a0.Fy a0.Hh a0.Fz)
def s_102:Sig:=⟨[.v 28,.v 3],[.n 26 true],true⟩
def Bqa (K:Nat):Gb tyU:=⟨s_102,Ave K⟩
def Bdf (K:Nat):=xF s_102 [] [] 39 [23,24] [] [] [467] [.tmp 4]
def A18:E5:=⟨[(1,.v 2),(2,.p 102),(5,.o 1005 3 true),(14,.v 2),(15,.v 2)],[(102,.box [.v 22,.v 26,.v 26])]⟩
def Awp:E5:=⟨[(1,.v 2),(2,.p 102),(5,.o 1005 3 true),(14,.v 2),(15,.v 2)],[(102,.box [.v 22,.v 26,.v 26])]⟩
def A19 (K:Nat)(C58:CT Awp s_102)(q:PT A18):Rt s_102:=Arm K q.2.2.1 q.2.2.2.1 q.2.2.2.2.1 q.2.2.2.2.2.1 q.2.2.2.2.2.2.1 (fun v1 v2 v3 v4 v5 v6=>C58 (q.1,v1,v2,v3,v4,v5,v6,())) q.2.1
def Azf (K:Nat)(n:Nat)(q:PT Awp):Rt s_102:=Alh K q.1 n q.2.1 q.2.2.1 q.2.2.2.1 q.2.2.2.2.1 q.2.2.2.2.2.1 q.2.2.2.2.2.2.1
theorem Bel (K:Nat)(C58:CT Awp s_102):AtJ (Bdf K) [] [(58,ar Awp C58)] (bd Tryz.f16) 467 (A19 K C58):=fun q=>by kernel_rfl
theorem Bho (K:Nat):AtL (Bdf K) (fun n=>[(467,ar A18 (A19 K (Azf K n)))]) [] (bd Tryz.f16) 58 (Azf K):=fun n q=>by kernel_rfl
theorem Bby (K:Nat):XF [.tmp 4] s_102 39 [467] (Bdf K):=xkF gN oN
theorem Bem (K:Nat)(C58:CT Awp s_102):CF [.tmp 4] s_102 39 [467] (bd Tryz.f16) [(58,ar Awp C58)] 467 (ar A18 (A19 K C58)):=
 Apg (Bby K) (Bel K C58) kN
theorem Bhp (K:Nat)(n:Nat):CF [.tmp 4] s_102 39 [467] (bd Tryz.f16) [] 58 (ar Awp (Azf K n)):=
 Aeg (Bby K) (Bho K) (fun n=>(kC (Bem K (Azf K n)) kN)) n
theorem Bun (K:Nat):OkF 16 (Bqa K):=
 Aa6 (x:=Bdf K) (L:=[(58,ar Awp (Azf K K))]) (c0:=bd Tryz.f16) (Bby K) (by intro a0 a1;show @Eq _ _ _;kernel_rfl) (kC (Bhp K K) kN) Tryz.func16 trivial
def Alj (K:Nat)(a0:A9)(a1:Er)(a2:Ba):Nat->Int->Option (Bool)
 |0,_=>none
 |n1+1,v2=>(if a1.Eg≠(0:Int)then(bif (decide (v2≤(Alr .i64 (Aob .i64 (Aoa .i64 a0.fAt a0.Vu) 1) a1.Eg)))then((Amb K a2.Ae v2).bind fun r3=>(bif (!r3)then some true else(Alj K a0 a1 a2 n1 (Aoa .i64 v2 1))))else some false)else none)
def Aq1 (K:Nat)(a0:A9)(a1:Er)(a2:Ba):Option (Bool):=((Arl K a1 a0).bind fun r1=>(bif (!r1)then some true else(if a1.Eg≠(0:Int)then(Alj K a0 a1 a2 K (Alr .i64 a0.fAt a1.Eg))else none)))
def s_103:Sig:=⟨[.v 89,.r 25,.r 44],[.v 4],true⟩
def Bqb (K:Nat):Gb tyU:=⟨s_103,Aq1 K⟩
def Bhq (K:Nat):=xF s_103 [(56,Buj K),(57,Boa K)] [] 33 [] [] [] [] [.tmp 4]
def A3y:E5:=⟨[(1,.r 25),(2,.r 44),(3,.p 103),(5,.v 2)],[(103,.st 89 true)]⟩
def A3z (K:Nat)(n:Nat)(q:PT A3y):Rt s_103:=Alj K q.2.2.2.1 q.1 q.2.1 n q.2.2.1
theorem Bhr (K:Nat):AtL (Bhq K) (fun n=>[]) [] (bd Tryz.f55) 58 (A3z K):=fun n q=>by kernel_rfl
theorem Bhs (K:Nat):XF [.tmp 4] s_103 33 [] (Bhq K):=xkF (gC (Bp5 K) (gC (Bhk K) gN)) oN
theorem Bht (K:Nat)(n:Nat):CF [.tmp 4] s_103 33 [] (bd Tryz.f55) [] 58 (ar A3y (A3z K n)):=
 Aeg (Bhs K) (Bhr K) (fun n=>kN) n
theorem Buo (K:Nat):OkF 55 (Bqb K):=
 Aa6 (x:=Bhq K) (L:=[(58,ar A3y (A3z K K))]) (c0:=bd Tryz.f55) (Bhs K) (by intro a0 a1 a2;show @Eq _ _ _;kernel_rfl) (kC (Bht K K) kN) Tryz.func55 trivial
def Ael (K:Nat)(a0:List A9)(a1_0:Er)(a1_1:Ba):Nat->Int->Int->Option (Int)
 |0,_,_=>none
 |n1+1,v1,v2=>(bif (decide (v2<v1))then(if(0:Int)≤v2∧v2<(a0.length:Int)then((Aq1 K (gt a0 v2) a1_0 a1_1).bind fun r3=>(bif r3 then some v2 else(Ael K a0 a1_0 a1_1 n1 v1 (Aoa .i64 v2 1))))else none)else some (-1))
def Ani (K:Nat)(a0:List A9)(a1_0:Er)(a1_1:Ba):Option (Int):=(Ael K a0 a1_0 a1_1 K (a0.length:Int) 0)
def s_104:Sig:=⟨[.v 41,.f 55 [] [25,44]],[.v 3],true⟩
def Bqc (K:Nat):Gb tyU:=⟨s_104,Ani K⟩
def Bhu (K:Nat):=xF s_104 [(55,Bqb K)] [] 19 [] [] [] [] [.tmp 4]
def A30:E5:=⟨[(0,.v 41),(1,.f 55 [] [25,44]),(7,.v 2),(8,.v 2)],[]⟩
def A31 (K:Nat)(n:Nat)(q:PT A30):Rt s_104:=Ael K q.1 q.2.1 q.2.2.1 n q.2.2.2.1 q.2.2.2.2.1
theorem Bhv (K:Nat):AtL (Bhu K) (fun n=>[]) [] (bd Tryz.f122) 26 (A31 K):=fun n q=>by kernel_rfl
theorem Bhw (K:Nat):XF [.tmp 4] s_104 19 [] (Bhu K):=xkF (gC (Buo K) gN) oN
theorem Bhx (K:Nat)(n:Nat):CF [.tmp 4] s_104 19 [] (bd Tryz.f122) [] 26 (ar A30 (A31 K n)):=
 Aeg (Bhw K) (Bhv K) (fun n=>kN) n
theorem Bup (K:Nat):OkF 122 (Bqc K):=
 Aa6 (x:=Bhu K) (L:=[(26,ar A30 (A31 K K))]) (c0:=bd Tryz.f122) (Bhw K) (by intro a0 a1_0 a1_1;show @Eq _ _ _;kernel_rfl) (kC (Bhx K K) kN) Tryz.func122 trivial
def Ag9 (K:Nat)(a0:List A9)(a1_0:Er)(a1_1:Ba):Option (Bool):=((Ani K a0 a1_0 a1_1).bind fun r1=>some (decide (r1≥0)))
def Bqd:Sig:=⟨[.v 41,.f 55 [] [25,44]],[.v 4],true⟩
def Bqe (K:Nat):Gb tyU:=⟨Bqd,Ag9 K⟩
def B1m (K:Nat):=xF Bqd [(122,Bqc K)] [] 9 [] [] [] [] [.tmp 4]
theorem Buq (K:Nat):OkF 54 (Bqe K):=
 Aa6 (x:=B1m K) (L:=[]) (c0:=bd Tryz.f54) (xkF (gC (Bup K) gN) oN) (by intro a0 a1_0 a1_1;show @Eq _ _ _;kernel_rfl) kN Tryz.func54 trivial
def Aug (K:Nat)(a0:Er)(a1:Ba):Option (Bool):=((Ag9 K a1.Ea a0 a1).bind fun r1=>some (!r1))
def Bqf:Sig:=⟨[.v 25,.v 44],[.v 4],true⟩
def Bqg (K:Nat):Gb tyU:=⟨Bqf,Aug K⟩
def B1n (K:Nat):=xF Bqf [(54,Bqe K)] [] 10 [] [(1,[.frzB 102 25,.frzB 103 44])] [] [] [.tmp 4]
theorem Bur (K:Nat):OkF 15 (Bqg K):=
 Aa6 (x:=B1n K) (L:=[]) (c0:=bd Tryz.f15) (xkF (gC (Buq K) gN) oN) (by intro a0 a1;show @Eq _ _ _;kernel_rfl) kN Tryz.func15 trivial
def Avf (K:Nat)(v1:A9)(v2:A9):Option (Bool):=some (decide ((Aob .u64 (IntKind.u64.wrap v1.fAt) (IntKind.u64.wrap v2.fAt))≥(IntKind.u64.wrap v2.Vu)))
def Avg (K:Nat)(a0:A9)(a1:A9):Option (Bool):=(bif (decide (a0.Vu≤0))then some true else(bif (decide (a1.Vu≤0))then some true else(bif (decide (a0.fAt>a1.fAt))then(Avf K a0 a1)else(Avf K a1 a0))))
def s_107:Sig:=⟨[.v 89,.v 89],[.v 4],true⟩
def Bhy (K:Nat):Gb tyU:=⟨s_107,Avg K⟩
def Bhz (K:Nat):=xF s_107 [] [] 31 [7,8] [] [] [7] [.tmp 4]
def A80:E5:=⟨[(2,.p 102),(3,.p 103)],[(103,.st 89 true),(102,.st 89 true)]⟩
def A81 (K:Nat)(q:PT A80):Rt s_107:=Avf K q.1 q.2.1
theorem Boi (K:Nat):AtJ (Bhz K) [] [] (bd Tryz.f59) 7 (A81 K):=fun q=>by kernel_rfl
theorem Bh0 (K:Nat):XF [.tmp 4] s_107 31 [7] (Bhz K):=xkF gN oN
theorem Boj (K:Nat):CF [.tmp 4] s_107 31 [7] (bd Tryz.f59) [] 7 (ar A80 (A81 K)):=
 Apg (Bh0 K) (Boi K) kN
theorem Bh1 (K:Nat):OkF 59 (Bhy K):=
 Aa6 (x:=Bhz K) (L:=[(7,ar A80 (A81 K))]) (c0:=bd Tryz.f59) (Bh0 K) (by intro a0 a1;show @Eq _ _ _;kernel_rfl) (kC (Boj K) kN) Tryz.func59 trivial
def Asm (K:Nat)(a0:A9)(a1:A9):Option (Bool):=((Avg K a0 a1).bind fun r1=>some (!r1))
def Bqh:Sig:=⟨[.v 89,.r 89],[.v 4],true⟩
def Bqi (K:Nat):Gb tyU:=⟨Bqh,Asm K⟩
def B1o (K:Nat):=xF Bqh [(59,Bhy K)] [] 8 [] [] [] [] [.tmp 3]
theorem Bus (K:Nat):OkF 58 (Bqi K):=
 Aa6 (x:=B1o K) (L:=[]) (c0:=bd Tryz.f58) (xkF (gC (Bh1 K) gN) oN) (by intro a0 a1;show @Eq _ _ _;kernel_rfl) kN Tryz.func58 trivial
def Aem (K:Nat)(a0:List A9)(a1_0:A9):Nat->Int->Int->Option (Int)
 |0,_,_=>none
 |n1+1,v1,v2=>(bif (decide (v2<v1))then(if(0:Int)≤v2∧v2<(a0.length:Int)then((Asm K (gt a0 v2) a1_0).bind fun r3=>(bif r3 then some v2 else(Aem K a0 a1_0 n1 v1 (Aoa .i64 v2 1))))else none)else some (-1))
def Anj (K:Nat)(a0:List A9)(a1_0:A9):Option (Int):=(Aem K a0 a1_0 K (a0.length:Int) 0)
def s_109:Sig:=⟨[.v 41,.f 58 [] [89]],[.v 3],true⟩
def Bqj (K:Nat):Gb tyU:=⟨s_109,Anj K⟩
def Bh2 (K:Nat):=xF s_109 [(58,Bqi K)] [] 19 [] [] [] [] [.tmp 4]
def A32:E5:=⟨[(0,.v 41),(1,.f 58 [] [89]),(7,.v 2),(8,.v 2)],[]⟩
def A33 (K:Nat)(n:Nat)(q:PT A32):Rt s_109:=Aem K q.1 q.2.1 n q.2.2.1 q.2.2.2.1
theorem Bh3 (K:Nat):AtL (Bh2 K) (fun n=>[]) [] (bd Tryz.f122) 26 (A33 K):=fun n q=>by kernel_rfl
theorem Bh4 (K:Nat):XF [.tmp 4] s_109 19 [] (Bh2 K):=xkF (gC (Bus K) gN) oN
theorem Bh5 (K:Nat)(n:Nat):CF [.tmp 4] s_109 19 [] (bd Tryz.f122) [] 26 (ar A32 (A33 K n)):=
 Aeg (Bh4 K) (Bh3 K) (fun n=>kN) n
theorem But (K:Nat):OkF 122 (Bqj K):=
 Aa6 (x:=Bh2 K) (L:=[(26,ar A32 (A33 K K))]) (c0:=bd Tryz.f122) (Bh4 K) (by intro a0 a1_0;show @Eq _ _ _;kernel_rfl) (kC (Bh5 K K) kN) Tryz.func122 trivial
def Ahb (K:Nat)(a0:List A9)(a1_0:A9):Option (Bool):=((Anj K a0 a1_0).bind fun r1=>some (decide (r1≥0)))
def Bqk:Sig:=⟨[.v 41,.f 58 [] [89]],[.v 4],true⟩
def Bql (K:Nat):Gb tyU:=⟨Bqk,Ahb K⟩
def B1p (K:Nat):=xF Bqk [(122,Bqj K)] [] 9 [] [] [] [] [.tmp 4]
theorem Buu (K:Nat):OkF 54 (Bql K):=
 Aa6 (x:=B1p K) (L:=[]) (c0:=bd Tryz.f54) (xkF (gC (But K) gN) oN) (by intro a0 a1_0;show @Eq _ _ _;kernel_rfl) kN Tryz.func54 trivial
def Apb (K:Nat)(a0:List A9):Nat->(List A9)->Int->Int->Option (Bool)
 |0,_,_,_=>none
 |n1+1,v1,v2,v3=>(bif (decide (v3<v2))then(if(0:Int)≤v3∧v3<(v1.length:Int)then(if(0:Int)≤0∧0≤v3∧v3≤(a0.length:Int)then((Ahb K ((a0.drop (0:Int).toNat).take (v3 - 0).toNat) (gt v1 v3)).bind fun r4=>(bif r4 then some false else(Apb K a0 n1 v1 v2 (Aoa .i64 v3 1))))else none)else none)else some true)
def Auh (K:Nat)(a0:List A9):Option (Bool):=(Apb K a0 K a0 (a0.length:Int) 0)
def s_111:Sig:=⟨[.v 41],[.v 4],true⟩
def Bqm (K:Nat):Gb tyU:=⟨s_111,Auh K⟩
def Bh6 (K:Nat):=xF s_111 [(54,Bql K)] [] 18 [] [(4,[.frzB 104 89])] [] [] [.tmp 2]
def A34:E5:=⟨[(0,.v 41),(5,.v 41),(6,.v 2),(7,.v 2)],[]⟩
def A35 (K:Nat)(n:Nat)(q:PT A34):Rt s_111:=Apb K q.1 n q.2.1 q.2.2.1 q.2.2.2.1
theorem Bh7 (K:Nat):AtL (Bh6 K) (fun n=>[]) [] (bd Tryz.f17) 26 (A35 K):=fun n q=>by kernel_rfl
theorem Bh8 (K:Nat):XF [.tmp 2] s_111 18 [] (Bh6 K):=xkF (gC (Buu K) gN) oN
theorem Bh9 (K:Nat)(n:Nat):CF [.tmp 2] s_111 18 [] (bd Tryz.f17) [] 26 (ar A34 (A35 K n)):=
 Aeg (Bh8 K) (Bh7 K) (fun n=>kN) n
theorem Buv (K:Nat):OkF 17 (Bqm K):=
 Aa6 (x:=Bh6 K) (L:=[(26,ar A34 (A35 K K))]) (c0:=bd Tryz.f17) (Bh8 K) (by intro a0;show @Eq _ _ _;kernel_rfl) (kC (Bh9 K K) kN) Tryz.func17 trivial
def Ap6 (K:Nat)(a0:A9)(a1:A9):Option (Bool):=((Avg K a0 a1).bind fun r1=>some (!r1))
def Bqn:Sig:=⟨[.v 89,.r 89],[.v 4],true⟩
def Bqo (K:Nat):Gb tyU:=⟨Bqn,Ap6 K⟩
def B1q (K:Nat):=xF Bqn [(59,Bhy K)] [] 8 [] [] [] [] [.tmp 3]
theorem Buw (K:Nat):OkF 230 (Bqo K):=
 Aa6 (x:=B1q K) (L:=[]) (c0:=bd Tryz.f230) (xkF (gC (Bh1 K) gN) oN) (by intro a0 a1;show @Eq _ _ _;kernel_rfl) kN Tryz.func230 trivial
def Aeh (K:Nat)(a0:List A9)(a1_0:A9):Nat->Int->Int->Option (Int)
 |0,_,_=>none
 |n1+1,v1,v2=>(bif (decide (v2<v1))then(if(0:Int)≤v2∧v2<(a0.length:Int)then((Ap6 K (gt a0 v2) a1_0).bind fun r3=>(bif r3 then some v2 else(Aeh K a0 a1_0 n1 v1 (Aoa .i64 v2 1))))else none)else some (-1))
def Ala (K:Nat)(a0:List A9)(a1_0:A9):Option (Int):=(Aeh K a0 a1_0 K (a0.length:Int) 0)
def s_113:Sig:=⟨[.v 41,.f 230 [] [89]],[.v 3],true⟩
def Bqp (K:Nat):Gb tyU:=⟨s_113,Ala K⟩
def Bia (K:Nat):=xF s_113 [(230,Bqo K)] [] 19 [] [] [] [] [.tmp 4]
def A36:E5:=⟨[(0,.v 41),(1,.f 230 [] [89]),(7,.v 2),(8,.v 2)],[]⟩
def A37 (K:Nat)(n:Nat)(q:PT A36):Rt s_113:=Aeh K q.1 q.2.1 n q.2.2.1 q.2.2.2.1
theorem Bib (K:Nat):AtL (Bia K) (fun n=>[]) [] (bd Tryz.f122) 26 (A37 K):=fun n q=>by kernel_rfl
theorem Bic (K:Nat):XF [.tmp 4] s_113 19 [] (Bia K):=xkF (gC (Buw K) gN) oN
theorem Bid (K:Nat)(n:Nat):CF [.tmp 4] s_113 19 [] (bd Tryz.f122) [] 26 (ar A36 (A37 K n)):=
 Aeg (Bic K) (Bib K) (fun n=>kN) n
theorem Bux (K:Nat):OkF 122 (Bqp K):=
 Aa6 (x:=Bia K) (L:=[(26,ar A36 (A37 K K))]) (c0:=bd Tryz.f122) (Bic K) (by intro a0 a1_0;show @Eq _ _ _;kernel_rfl) (kC (Bid K K) kN) Tryz.func122 trivial
def Ag1 (K:Nat)(a0:List A9)(a1_0:A9):Option (Bool):=((Ala K a0 a1_0).bind fun r1=>some (decide (r1≥0)))
def Bqq:Sig:=⟨[.v 41,.f 230 [] [89]],[.v 4],true⟩
def Bqr (K:Nat):Gb tyU:=⟨Bqq,Ag1 K⟩
def B1r (K:Nat):=xF Bqq [(122,Bqp K)] [] 9 [] [] [] [] [.tmp 4]
theorem Buy (K:Nat):OkF 54 (Bqr K):=
 Aa6 (x:=B1r K) (L:=[]) (c0:=bd Tryz.f54) (xkF (gC (Bux K) gN) oN) (by intro a0 a1_0;show @Eq _ _ _;kernel_rfl) kN Tryz.func54 trivial
def Ap7 (K:Nat)(v1:List Ba)(v2:Int)(v3:Int)(v4:Int)(v5:Int)(v6:Int)(v7:Int)(v8:Int)(v9:Int)(v10:List Int)(v11:List Int)(v12:List Int)(v13:List Ba)(v14:List Ax)(v15:List Int)(C1:(List Ba)->Int->Int->Int->Int->Int->Int->Int->Int->(List Int)->(List Int)->(List Int)->(List Ba)->(List Ax)->(List Int)->Option (Bool)):Option (Bool):=(C1 v1 v2 (Aoa .i64 v3 1) v4 v5 v6 v7 v8 v9 v10 v11 v12 v13 v14 v15)
def Ahe (K:Nat):Nat->(List Ba)->Int->Int->Int->Int->Int->Int->Int->Int->(List Int)->(List Int)->(List Int)->(List Ba)->(List Ax)->(List Int)->Option (Bool)
 |0,_,_,_,_,_,_,_,_,_,_,_,_,_,_,_=>none
 |n1+1,v1,v2,v3,v4,v5,v6,v7,v8,v9,v10,v11,v12,v13,v14,v15=>(bif (decide (v3<v2))then(if(0:Int)≤v3∧v3<(v1.length:Int)then((Aen K ((gt v1 v3).Ae)).bind fun r16=>((Eu K r16).bind fun r17=>(if r17.length=r16.length then((Awe K (Er.mk v4 v5 v6 v7 v8 v9) (gt v1 v3)).bind fun r18=>(bif r18 then((Ave K (Dw.mk v10 v11 v12) v3).bind fun r19=>((Aiz K r17 r19).bind fun r20=>(bif r20 then((Aug K (Er.mk v4 v5 v6 v7 v8 v9) (gt v1 v3)).bind fun r21=>(bif r21 then((Auh K ((gt v1 v3).Ea)).bind fun r22=>(bif (!r22)then some false else(bif (((gt v1 v3).Pq)==0)then(Ap7 K v1 v2 v3 v4 v5 v6 v7 v8 v9 v10 v11 v12 v13 v14 v15 (Ahe K n1))else(if(0:Int)≤((A9.mk (Aoa .i64 (Aoc .i64 (Aob .i64 ((gt v1 v3).Pq) 1) v5) ((gt v1 v3).Gt)) (Aob .i64 v5 ((gt v1 v3).Gt)) 0).fAt)∧((A9.mk (Aoa .i64 (Aoc .i64 (Aob .i64 ((gt v1 v3).Pq) 1) v5) ((gt v1 v3).Gt)) (Aob .i64 v5 ((gt v1 v3).Gt)) 0).fAt)≤(Aoa .i64 ((A9.mk (Aoa .i64 (Aoc .i64 (Aob .i64 ((gt v1 v3).Pq) 1) v5) ((gt v1 v3).Gt)) (Aob .i64 v5 ((gt v1 v3).Gt)) 0).fAt) ((A9.mk (Aoa .i64 (Aoc .i64 (Aob .i64 ((gt v1 v3).Pq) 1) v5) ((gt v1 v3).Gt)) (Aob .i64 v5 ((gt v1 v3).Gt)) 0).Vu))∧(Aoa .i64 ((A9.mk (Aoa .i64 (Aoc .i64 (Aob .i64 ((gt v1 v3).Pq) 1) v5) ((gt v1 v3).Gt)) (Aob .i64 v5 ((gt v1 v3).Gt)) 0).fAt) ((A9.mk (Aoa .i64 (Aoc .i64 (Aob .i64 ((gt v1 v3).Pq) 1) v5) ((gt v1 v3).Gt)) (Aob .i64 v5 ((gt v1 v3).Gt)) 0).Vu))≤(v10.length:Int)then((Asd K ((v10.drop ((A9.mk (Aoa .i64 (Aoc .i64 (Aob .i64 ((gt v1 v3).Pq) 1) v5) ((gt v1 v3).Gt)) (Aob .i64 v5 ((gt v1 v3).Gt)) 0).fAt).toNat).take ((Aoa .i64 ((A9.mk (Aoa .i64 (Aoc .i64 (Aob .i64 ((gt v1 v3).Pq) 1) v5) ((gt v1 v3).Gt)) (Aob .i64 v5 ((gt v1 v3).Gt)) 0).fAt) ((A9.mk (Aoa .i64 (Aoc .i64 (Aob .i64 ((gt v1 v3).Pq) 1) v5) ((gt v1 v3).Gt)) (Aob .i64 v5 ((gt v1 v3).Gt)) 0).Vu)) - ((A9.mk (Aoa .i64 (Aoc .i64 (Aob .i64 ((gt v1 v3).Pq) 1) v5) ((gt v1 v3).Gt)) (Aob .i64 v5 ((gt v1 v3).Gt)) 0).fAt)).toNat)).bind fun r23=>(bif r23 then((Ag1 K ((gt v1 v3).Ea) (A9.mk (Aoa .i64 (Aoc .i64 (Aob .i64 ((gt v1 v3).Pq) 1) v5) ((gt v1 v3).Gt)) (Aob .i64 v5 ((gt v1 v3).Gt)) 0)).bind fun r24=>(bif r24 then some false else(Ap7 K v1 v2 v3 v4 v5 v6 v7 v8 v9 v10 v11 v12 v13 v14 v15 (Ahe K n1))))else some false))else none))))else some false))else some false)))else some false))else none)))else none)else some true)
def Aq2 (K:Nat)(a0:Eb):Option (Bool):=(Ahe K K a0.fL (a0.fL.length:Int) 0 a0.fC.Ae a0.fC.Eg a0.fC.C0 a0.fC.E9 a0.fC.C1 a0.fC.Eh a0.fP.Fy a0.fP.Hh a0.fP.Fz a0.fL a0.fQ a0.Pr)
def s_115:Sig:=⟨[.v 32],[.v 4],true⟩
def Bqs (K:Nat):Gb tyU:=⟨s_115,Aq2 K⟩
def Bdg (K:Nat):=xF s_115 [(15,Bqg K),(16,Bqa K),(17,Bqm K),(54,Bqr K),(160,Bbw K),(167,Bp9 K),(226,Bn1 K),(228,Ev K),(229,Buc K)] [] 87 [23,24,25,31,32,33,34,38,39,40,41,78,79,80] [(10,[.frzB 106 89])] [] [211] [.tmp 2]
def A2a:E5:=⟨[(1,.p 101),(8,.v 29),(9,.v 2),(10,.v 2)],[(101,.box [.v 2,.v 2,.v 2,.v 2,.v 2,.v 2,.v 22,.v 26,.v 26,.v 29,.v 30,.v 26])]⟩
def Awq:E5:=⟨[(1,.p 101),(8,.v 29),(9,.v 2),(10,.v 2)],[(101,.box [.v 2,.v 2,.v 2,.v 2,.v 2,.v 2,.v 22,.v 26,.v 26,.v 29,.v 30,.v 26])]⟩
def A2b (K:Nat)(C26:CT Awq s_115)(q:PT A2a):Rt s_115:=Ap7 K q.1 q.2.1 q.2.2.1 q.2.2.2.1 q.2.2.2.2.1 q.2.2.2.2.2.1 q.2.2.2.2.2.2.1 q.2.2.2.2.2.2.2.1 q.2.2.2.2.2.2.2.2.1 q.2.2.2.2.2.2.2.2.2.1 q.2.2.2.2.2.2.2.2.2.2.1 q.2.2.2.2.2.2.2.2.2.2.2.1 q.2.2.2.2.2.2.2.2.2.2.2.2.1 q.2.2.2.2.2.2.2.2.2.2.2.2.2.1 q.2.2.2.2.2.2.2.2.2.2.2.2.2.2.1 (fun v1 v2 v3 v4 v5 v6 v7 v8 v9 v10 v11 v12 v13 v14 v15=>C26 (v1,v2,v3,v4,v5,v6,v7,v8,v9,v10,v11,v12,v13,v14,v15,()))
def Azg (K:Nat)(n:Nat)(q:PT Awq):Rt s_115:=Ahe K n q.1 q.2.1 q.2.2.1 q.2.2.2.1 q.2.2.2.2.1 q.2.2.2.2.2.1 q.2.2.2.2.2.2.1 q.2.2.2.2.2.2.2.1 q.2.2.2.2.2.2.2.2.1 q.2.2.2.2.2.2.2.2.2.1 q.2.2.2.2.2.2.2.2.2.2.1 q.2.2.2.2.2.2.2.2.2.2.2.1 q.2.2.2.2.2.2.2.2.2.2.2.2.1 q.2.2.2.2.2.2.2.2.2.2.2.2.2.1 q.2.2.2.2.2.2.2.2.2.2.2.2.2.2.1
theorem Ben (K:Nat)(C26:CT Awq s_115):AtJ (Bdg K) [] [(26,ar Awq C26)] (bd Tryz.f154) 211 (A2b K C26):=fun q=>by kernel_rfl
theorem Bie (K:Nat):AtL (Bdg K) (fun n=>[(211,ar A2a (A2b K (Azg K n)))]) [] (bd Tryz.f154) 26 (Azg K):=fun n q=>by kernel_rfl
theorem Bbz (K:Nat):XF [.tmp 2] s_115 87 [211] (Bdg K):=xkF (gC (Bur K) (gC (Bun K) (gC (Buv K) (gC (Buy K) (gC (A6x K) (gC (Bum K) (gC (Bhi K) (gC (V7 K) (gC (Bpz K) gN))))))))) oN
theorem Beo (K:Nat)(C26:CT Awq s_115):CF [.tmp 2] s_115 87 [211] (bd Tryz.f154) [(26,ar Awq C26)] 211 (ar A2a (A2b K C26)):=
 Apg (Bbz K) (Ben K C26) kN
theorem Bif (K:Nat)(n:Nat):CF [.tmp 2] s_115 87 [211] (bd Tryz.f154) [] 26 (ar Awq (Azg K n)):=
 Aeg (Bbz K) (Bie K) (fun n=>(kC (Beo K (Azg K n)) kN)) n
theorem Buz (K:Nat):OkF 154 (Bqs K):=
 Aa6 (x:=Bdg K) (L:=[(26,ar Awq (Azg K K))]) (c0:=bd Tryz.f154) (Bbz K) (by intro a0;show @Eq _ _ _;kernel_rfl) (kC (Bif K K) kN) Tryz.func154 trivial
def Anh (K:Nat)(a0:List Ba)(a1:Int):Option (Bool):=((Ac1 K a1 0 (Aob .i64 (a0.length:Int) 1)).bind fun r1=>some r1)
def Bqt:Sig:=⟨[.v 29,.v 3],[.v 4],true⟩
def A2q (K:Nat):Gb tyU:=⟨Bqt,Anh K⟩
def B1s (K:Nat):=xF Bqt [(88,A6b K)] [] 10 [] [] [] [] [.tmp 4]
theorem A0f (K:Nat):OkF 171 (A2q K):=
 Aa6 (x:=B1s K) (L:=[]) (c0:=bd Tryz.f171) (xkF (gC (A1a K) gN) oN) (by intro a0 a1;show @Eq _ _ _;kernel_rfl) kN Tryz.func171 trivial
def Ase (K:Nat)(a0:List Ba)(a1:Int):Option (Bool):=(bif (a1==0)then some true else((Anh K a0 (Aob .i64 a1 1)).bind fun r1=>(bif r1 then(if(0:Int)≤(Aob .i64 a1 1)∧(Aob .i64 a1 1)<(a0.length:Int)then some (((gt a0 (Aob .i64 a1 1)).Hh)==1)else none)else some false)))
def Bqu:Sig:=⟨[.v 29,.v 3],[.v 4],true⟩
def Bqv (K:Nat):Gb tyU:=⟨Bqu,Ase K⟩
def B1t (K:Nat):=xF Bqu [(171,A2q K)] [] 22 [6,7,11,12] [] [] [] [.tmp 4]
theorem Bu0 (K:Nat):OkF 271 (Bqv K):=
 Aa6 (x:=B1t K) (L:=[]) (c0:=bd Tryz.f271) (xkF (gC (A0f K) gN) oN) (by intro a0 a1;show @Eq _ _ _;kernel_rfl) kN Tryz.func271 trivial
def Aqd (K:Nat)(a0:List Ba)(a1:Int):Option (Bool):=(if(0:Int)≤a1∧a1<(a0.length:Int)then((Anh K a0 (Aob .i64 ((gt a0 a1).fUp) 1)).bind fun r1=>(bif r1 then(if(0:Int)≤(Aob .i64 ((gt a0 a1).fUp) 1)∧(Aob .i64 ((gt a0 a1).fUp) 1)<(a0.length:Int)then(bif (((gt a0 (Aob .i64 ((gt a0 a1).fUp) 1)).Hh)==1)then(if(0:Int)≤(Aob .i64 ((gt a0 a1).fUp) 1)∧(Aob .i64 ((gt a0 a1).fUp) 1)<(a0.length:Int)then(if(0:Int)≤a1∧a1<(a0.length:Int)then some (((gt a0 (Aob .i64 ((gt a0 a1).fUp) 1)).Ly)==((gt a0 a1).Gq))else none)else none)else some false)else none)else some false))else none)
def Bqw:Sig:=⟨[.v 29,.v 3],[.v 4],true⟩
def Bdh (K:Nat):Gb tyU:=⟨Bqw,Aqd K⟩
def B1u (K:Nat):=xF Bqw [(171,A2q K)] [] 36 [14,15,21,22,23] [] [] [] [.tmp 4]
theorem Bb0 (K:Nat):OkF 233 (Bdh K):=
 Aa6 (x:=B1u K) (L:=[]) (c0:=bd Tryz.f233) (xkF (gC (A0f K) gN) oN) (by intro a0 a1;show @Eq _ _ _;kernel_rfl) kN Tryz.func233 trivial
def Arn (K:Nat)(a0:List Ba)(a1:Int)(v8:Int)(v12:Int):Option (Bool):=(bif (v12 != 0)then some true else((Aqd K a0 a1).bind fun r18=>(bif r18 then(if(0:Int)≤(Aob .i64 v8 1)∧(Aob .i64 v8 1)<(a0.length:Int)then some (((gt a0 (Aob .i64 v8 1)).Bt)==(Aoa .i64 a1 1))else none)else some true)))
def Aro (K:Nat)(a0:List Ba)(a1:Int)(v8:Int)(v12:Int):Option (Bool):=(bif (v12 != 0)then(if(0:Int)≤(Aob .i64 v12 1)∧(Aob .i64 v12 1)<(a0.length:Int)then(bif (((gt a0 (Aob .i64 v12 1)).Gr) != (Aoa .i64 a1 1))then some false else(Arn K a0 a1 v8 v12))else none)else(Arn K a0 a1 v8 v12))
def Arp (K:Nat)(a0:List Ba)(a1:Int)(v8:Int)(v9:Int)(v11:Int)(v12:Int):Option (Bool):=(bif (v11 != 0)then(if(0:Int)≤(Aob .i64 v11 1)∧(Aob .i64 v11 1)<(a0.length:Int)then(bif (((gt a0 (Aob .i64 v11 1)).Gs) != (Aoa .i64 a1 1))then some false else(bif (((gt a0 (Aob .i64 v11 1)).fUp) != v8)then some false else(bif (((gt a0 (Aob .i64 v11 1)).Gq) != v9)then some false else(Aro K a0 a1 v8 v12))))else none)else(Aro K a0 a1 v8 v12))
def Arq (K:Nat)(a0:List Ba)(a1:Int)(v5:Int)(v6:Int)(v7:Int)(v8:Int)(v9:Int)(v10:Int)(v11:Int)(v12:Int)(v13:List Int)(v14:Int)(v15:Int)(v16:List A9)(v17:List Int):Option (Bool):=(bif (v10 != 0)then(if(0:Int)≤(Aob .i64 v10 1)∧(Aob .i64 v10 1)<(a0.length:Int)then(bif (((gt a0 (Aob .i64 v10 1)).Gs) != 0)then some false else(bif (((gt a0 (Aob .i64 v10 1)).fUp) != (Aoa .i64 a1 1))then some false else(bif (((gt a0 (Aob .i64 v10 1)).Gq) != v7)then some false else(Arp K a0 a1 v8 v9 v11 v12))))else none)else(Arp K a0 a1 v8 v9 v11 v12))
def Avh (K:Nat)(a0:List Ba)(a1:Int):Option (Bool):=(if(0:Int)≤a1∧a1<(a0.length:Int)then((Ase K a0 ((gt a0 a1).Bt)).bind fun r1=>(bif r1 then((Ase K a0 ((gt a0 a1).Gr)).bind fun r2=>(bif r2 then((Ase K a0 ((gt a0 a1).Gs)).bind fun r3=>(bif r3 then(bif (((gt a0 a1).fUp) != 0)then((Anh K a0 (Aob .i64 ((gt a0 a1).fUp) 1)).bind fun r4=>(bif (!r4)then some false else(Arq K a0 a1 ((gt a0 a1).Hh) ((gt a0 a1).C2) ((gt a0 a1).Ly) ((gt a0 a1).fUp) ((gt a0 a1).Gq) ((gt a0 a1).Bt) ((gt a0 a1).Gr) ((gt a0 a1).Gs) ((gt a0 a1).Ae) ((gt a0 a1).Pq) ((gt a0 a1).Gt) ((gt a0 a1).Ea) ((gt a0 a1).Dg))))else(Arq K a0 a1 ((gt a0 a1).Hh) ((gt a0 a1).C2) ((gt a0 a1).Ly) ((gt a0 a1).fUp) ((gt a0 a1).Gq) ((gt a0 a1).Bt) ((gt a0 a1).Gr) ((gt a0 a1).Gs) ((gt a0 a1).Ae) ((gt a0 a1).Pq) ((gt a0 a1).Gt) ((gt a0 a1).Ea) ((gt a0 a1).Dg)))else some false))else some false))else some false))else none)
def s_119:Sig:=⟨[.v 29,.v 3],[.v 4],true⟩
def Bqx (K:Nat):Gb tyU:=⟨s_119,Avh K⟩
def A6y (K:Nat):=xF s_119 [(171,A2q K),(233,Bdh K),(271,Bqv K)] [] 134 [15,16,17,21,22,23,24,28,29,30,31,34,35,55,56,61,62,63,83,84,89,90,91,100,101,115,116,119,120,121,122] [] [] [7,15,31,63] [.tmp 4]
def A38:E5:=⟨[(0,.v 29),(1,.v 2),(5,.p 105)],[(105,.box [.v 2,.v 2,.v 2,.v 2,.v 2,.v 2,.v 2,.v 2,.v 26,.v 2,.v 2,.v 41,.v 26])]⟩
def A39:E5:=⟨[(0,.v 29),(1,.v 2),(5,.p 105)],[(105,.box [.v 2,.v 2,.v 2,.v 2,.v 2,.v 2,.v 2,.v 2,.v 26,.v 2,.v 2,.v 41,.v 26])]⟩
def A4a:E5:=⟨[(0,.v 29),(1,.v 2),(5,.p 105)],[(105,.box [.v 2,.v 2,.v 2,.v 2,.v 2,.v 2,.v 2,.v 2,.v 26,.v 2,.v 2,.v 41,.v 26])]⟩
def A82:E5:=⟨[(0,.v 29),(1,.v 2),(5,.p 105)],[(105,.box [.v 2,.v 2,.v 2,.v 2,.v 2,.v 2,.v 2,.v 2,.v 26,.v 2,.v 2,.v 41,.v 26])]⟩
def A4b (K:Nat)(q:PT A38):Rt s_119:=Arn K q.1 q.2.1 q.2.2.2.2.2.1 q.2.2.2.2.2.2.2.2.2.1
def A4c (K:Nat)(q:PT A39):Rt s_119:=Aro K q.1 q.2.1 q.2.2.2.2.2.1 q.2.2.2.2.2.2.2.2.2.1
def A4d (K:Nat)(q:PT A4a):Rt s_119:=Arp K q.1 q.2.1 q.2.2.2.2.2.1 q.2.2.2.2.2.2.1 q.2.2.2.2.2.2.2.2.1 q.2.2.2.2.2.2.2.2.2.1
def A83 (K:Nat)(q:PT A82):Rt s_119:=Arq K q.1 q.2.1 q.2.2.1 q.2.2.2.1 q.2.2.2.2.1 q.2.2.2.2.2.1 q.2.2.2.2.2.2.1 q.2.2.2.2.2.2.2.1 q.2.2.2.2.2.2.2.2.1 q.2.2.2.2.2.2.2.2.2.1 q.2.2.2.2.2.2.2.2.2.2.1 q.2.2.2.2.2.2.2.2.2.2.2.1 q.2.2.2.2.2.2.2.2.2.2.2.2.1 q.2.2.2.2.2.2.2.2.2.2.2.2.2.1 q.2.2.2.2.2.2.2.2.2.2.2.2.2.2.1
theorem Big (K:Nat):AtJ (A6y K) [] [] (bd Tryz.f231) 63 (A4b K):=fun q=>by kernel_rfl
theorem Bih (K:Nat):AtJ (A6y K) [(63,ar A38 (A4b K))] [] (bd Tryz.f231) 31 (A4c K):=fun q=>by kernel_rfl
theorem Bii (K:Nat):AtJ (A6y K) [(31,ar A39 (A4c K))] [] (bd Tryz.f231) 15 (A4d K):=fun q=>by kernel_rfl
theorem Bok (K:Nat):AtJ (A6y K) [(15,ar A4a (A4d K))] [] (bd Tryz.f231) 7 (A83 K):=fun q=>by kernel_rfl
theorem A4e (K:Nat):XF [.tmp 4] s_119 134 [7,15,31,63] (A6y K):=xkF (gC (A0f K) (gC (Bb0 K) (gC (Bu0 K) gN))) oN
theorem Bij (K:Nat):CF [.tmp 4] s_119 134 [7,15,31,63] (bd Tryz.f231) [] 63 (ar A38 (A4b K)):=
 Apg (A4e K) (Big K) kN
theorem Bik (K:Nat):CF [.tmp 4] s_119 134 [7,15,31,63] (bd Tryz.f231) [] 31 (ar A39 (A4c K)):=
 Apg (A4e K) (Bih K) (kC (Bij K) kN)
theorem Bil (K:Nat):CF [.tmp 4] s_119 134 [7,15,31,63] (bd Tryz.f231) [] 15 (ar A4a (A4d K)):=
 Apg (A4e K) (Bii K) (kC (Bik K) kN)
theorem Bol (K:Nat):CF [.tmp 4] s_119 134 [7,15,31,63] (bd Tryz.f231) [] 7 (ar A82 (A83 K)):=
 Apg (A4e K) (Bok K) (kC (Bil K) kN)
theorem Bu1 (K:Nat):OkF 231 (Bqx K):=
 Aa6 (x:=A6y K) (L:=[(7,ar A82 (A83 K))]) (c0:=bd Tryz.f231) (A4e K) (by intro a0 a1;show @Eq _ _ _;kernel_rfl) (kC (Bol K) kN) Tryz.func231 trivial
def Atz (K:Nat)(a0:List Ba):Nat->Int->(List Int)->Option ((List Int))
 |0,_,_=>none
 |n1+1,v1,v2=>((Anh K a0 v1).bind fun r3=>(bif r3 then(bif (decide ((v2.length:Int)<(a0.length:Int)))then(if(v2++([v1]:List Int)).length*8≤140737488355328∧(v2++([v1]:List Int)).length≤maxLen then(if(0:Int)≤v1∧v1<(a0.length:Int)then(Atz K a0 n1 (Aob .i64 ((gt a0 v1).fUp) 1) (v2++([v1]:List Int)))else none)else none)else some v2)else some v2))
def Auw (K:Nat)(a0:List Ba)(a1:Int):Option ((List Int)):=(Atz K a0 K a1 ([]:List Int))
def s_120:Sig:=⟨[.v 29,.v 3],[.n 26 true],true⟩
def Bdi (K:Nat):Gb tyU:=⟨s_120,Auw K⟩
def Bim (K:Nat):=xF s_120 [(171,A2q K)] [] 28 [9,10] [] [] [] [.tmp 4]
def A4f:E5:=⟨[(0,.v 29),(1,.v 2),(5,.o 1005 3 true)],[]⟩
def A4g (K:Nat)(n:Nat)(q:PT A4f):Rt s_120:=Atz K q.1 n q.2.1 q.2.2.1
theorem Bin (K:Nat):AtL (Bim K) (fun n=>[]) [] (bd Tryz.f232) 28 (A4g K):=fun n q=>by kernel_rfl
theorem Bio (K:Nat):XF [.tmp 4] s_120 28 [] (Bim K):=xkF (gC (A0f K) gN) oN
theorem Bip (K:Nat)(n:Nat):CF [.tmp 4] s_120 28 [] (bd Tryz.f232) [] 28 (ar A4f (A4g K n)):=
 Aeg (Bio K) (Bin K) (fun n=>kN) n
theorem Bb1 (K:Nat):OkF 232 (Bdi K):=
 Aa6 (x:=Bim K) (L:=[(28,ar A4f (A4g K K))]) (c0:=bd Tryz.f232) (Bio K) (by intro a0 a1;show @Eq _ _ _;kernel_rfl) (kC (Bip K K) kN) Tryz.func232 trivial
def Aui (K:Nat)(v1:List Ba)(v2:Int)(v3:Int)(C1:(List Ba)->Int->Int->Option (Bool)):Option (Bool):=(C1 v1 v2 (Aoa .i64 v3 1))
def Apk (K:Nat)(a0:List Ba):Nat->(List Ba)->Int->Int->Option (Bool)
 |0,_,_,_=>none
 |n1+1,v1,v2,v3=>(bif (decide (v3<v2))then(if(0:Int)≤v3∧v3<(v1.length:Int)then(bif (((gt v1 v3).Hh) != 1)then(Aui K v1 v2 v3 (Apk K a0 n1))else((Avh K a0 v3).bind fun r4=>(bif (!r4)then some false else((Auw K a0 v3).bind fun r5=>(bif (decide ((r5.length:Int)>4))then some false else(if(0:Int)≤(Aob .i64 (r5.length:Int) 1)∧(Aob .i64 (r5.length:Int) 1)<(r5.length:Int)then((Aqd K a0 (gt r5 (Aob .i64 (r5.length:Int) 1))).bind fun r6=>(bif r6 then some false else(Aui K v1 v2 v3 (Apk K a0 n1))))else none))))))else none)else some true)
def Awf (K:Nat)(a0:List Ba):Option (Bool):=(Apk K a0 K a0 (a0.length:Int) 0)
def s_121:Sig:=⟨[.v 29],[.v 4],true⟩
def Bqy (K:Nat):Gb tyU:=⟨s_121,Awf K⟩
def Bdj (K:Nat):=xF s_121 [(231,Bqx K),(232,Bdi K),(233,Bdh K)] [] 37 [25,26] [] [] [211] [.tmp 2]
def A2c:E5:=⟨[(0,.v 29),(6,.v 29),(7,.v 2),(8,.v 2)],[]⟩
def Awr:E5:=⟨[(0,.v 29),(6,.v 29),(7,.v 2),(8,.v 2)],[]⟩
def A2d (K:Nat)(C26:CT Awr s_121)(q:PT A2c):Rt s_121:=Aui K q.2.1 q.2.2.1 q.2.2.2.1 (fun v1 v2 v3=>C26 (q.1,v1,v2,v3,()))
def Azh (K:Nat)(n:Nat)(q:PT Awr):Rt s_121:=Apk K q.1 n q.2.1 q.2.2.1 q.2.2.2.1
theorem Bep (K:Nat)(C26:CT Awr s_121):AtJ (Bdj K) [] [(26,ar Awr C26)] (bd Tryz.f155) 211 (A2d K C26):=fun q=>by kernel_rfl
theorem Biq (K:Nat):AtL (Bdj K) (fun n=>[(211,ar A2c (A2d K (Azh K n)))]) [] (bd Tryz.f155) 26 (Azh K):=fun n q=>by kernel_rfl
theorem Bb2 (K:Nat):XF [.tmp 2] s_121 37 [211] (Bdj K):=xkF (gC (Bu1 K) (gC (Bb1 K) (gC (Bb0 K) gN))) oN
theorem Beq (K:Nat)(C26:CT Awr s_121):CF [.tmp 2] s_121 37 [211] (bd Tryz.f155) [(26,ar Awr C26)] 211 (ar A2c (A2d K C26)):=
 Apg (Bb2 K) (Bep K C26) kN
theorem Bir (K:Nat)(n:Nat):CF [.tmp 2] s_121 37 [211] (bd Tryz.f155) [] 26 (ar Awr (Azh K n)):=
 Aeg (Bb2 K) (Biq K) (fun n=>(kC (Beq K (Azh K n)) kN)) n
theorem Bu2 (K:Nat):OkF 155 (Bqy K):=
 Aa6 (x:=Bdj K) (L:=[(26,ar Awr (Azh K K))]) (c0:=bd Tryz.f155) (Bb2 K) (by intro a0;show @Eq _ _ _;kernel_rfl) (kC (Bir K K) kN) Tryz.func155 trivial
def Aqx (K:Nat)(a0:List Ba)(a1:Int):Option (Bool):=(if(0:Int)≤a1∧a1<(a0.length:Int)then(bif (((gt a0 a1).Hh)==1)then(if(0:Int)≤a1∧a1<(a0.length:Int)then(bif (((gt a0 a1).fUp) != 0)then((Aqd K a0 a1).bind fun r1=>some (!r1))else some false)else none)else some false)else none)
def Bqz:Sig:=⟨[.v 29,.v 3],[.v 4],true⟩
def Bq0 (K:Nat):Gb tyU:=⟨Bqz,Aqx K⟩
def B1v (K:Nat):=xF Bqz [(233,Bdh K)] [] 25 [10,11,17,18,19] [] [] [] [.tmp 4]
theorem Bu3 (K:Nat):OkF 235 (Bq0 K):=
 Aa6 (x:=B1v K) (L:=[]) (c0:=bd Tryz.f235) (xkF (gC (Bb0 K) gN) oN) (by intro a0 a1;show @Eq _ _ _;kernel_rfl) kN Tryz.func235 trivial
def Avi (K:Nat)(a0:Er)(a1:Ax):Option (Bool):=((Asc K a0).bind fun r1=>(bif r1 then((Ac1 K a1.A5 0 a0.C0).bind fun r2=>(bif r2 then((Ac1 K a1.Bt 0 a0.C0).bind fun r3=>(bif r3 then(bif (decide ((a1.Dg.length:Int)≤6))then((Aqw K a1.Dg).bind fun r4=>(bif r4 then((Ar8 K a0 a1.Ae).bind fun r5=>(bif r5 then((Ac1 K a1.Gu 0 (Aob .i64 a0.Eg 1)).bind fun r6=>(bif r6 then(bif (decide ((a1.Ae.length:Int)>0))then some true else some (a1.Gu==0))else some false))else some false))else some false))else some false)else some false))else some false))else some false))
def Bq1:Sig:=⟨[.v 25,.v 159],[.v 4],true⟩
def Bq2 (K:Nat):Gb tyU:=⟨Bq1,Avi K⟩
def B1w (K:Nat):=xF Bq1 [(88,A6b K),(157,Bof K),(198,Bhh K),(240,Bug K)] [] 57 [6,7,12,13,14,19,20,21,25,26,27,30,31,32,36,37,38,44,45,46,50,51] [] [] [] [.tmp 4]
theorem Bu4 (K:Nat):OkF 234 (Bq2 K):=
 Aa6 (x:=B1w K) (L:=[]) (c0:=bd Tryz.f234) (xkF (gC (A1a K) (gC (Bhl K) (gC (Bdc K) (gC (Bp3 K) gN)))) oN) (by intro a0 a1;show @Eq _ _ _;kernel_rfl) kN Tryz.func234 trivial
def Ar9 (K:Nat)(a0:List Ba):Nat->(List Int)->Int->Option ((List Int))
 |0,_,_=>none
 |n1+1,v1,v2=>((Anh K a0 v2).bind fun r3=>(bif r3 then(bif (decide ((v1.length:Int)<(a0.length:Int)))then(if(v1++([v2]:List Int)).length*8≤140737488355328∧(v1++([v2]:List Int)).length≤maxLen then(if(0:Int)≤v2∧v2<(a0.length:Int)then(Ar9 K a0 n1 (v1++([v2]:List Int)) (Aob .i64 ((gt a0 v2).Gr) 1))else none)else none)else some v1)else some v1))
def Awg (K:Nat)(a0:List Ba)(a1:Int):Option ((List Int)):=(Ar9 K a0 K ([]:List Int) (Aob .i64 a1 1))
def s_124:Sig:=⟨[.v 29,.v 3],[.n 26 true],true⟩
def Bq3 (K:Nat):Gb tyU:=⟨s_124,Awg K⟩
def Bis (K:Nat):=xF s_124 [(171,A2q K)] [] 31 [12,13] [] [] [] [.tmp 4]
def A4h:E5:=⟨[(0,.v 29),(5,.o 1005 3 true),(6,.v 2)],[]⟩
def A4i (K:Nat)(n:Nat)(q:PT A4h):Rt s_124:=Ar9 K q.1 n q.2.1 q.2.2.1
theorem Biu (K:Nat):AtL (Bis K) (fun n=>[]) [] (bd Tryz.f206) 58 (A4i K):=fun n q=>by kernel_rfl
theorem Biv (K:Nat):XF [.tmp 4] s_124 31 [] (Bis K):=xkF (gC (A0f K) gN) oN
theorem Biw (K:Nat)(n:Nat):CF [.tmp 4] s_124 31 [] (bd Tryz.f206) [] 58 (ar A4h (A4i K n)):=
 Aeg (Biv K) (Biu K) (fun n=>kN) n
theorem Bu5 (K:Nat):OkF 206 (Bq3 K):=
 Aa6 (x:=Bis K) (L:=[(58,ar A4h (A4i K K))]) (c0:=bd Tryz.f206) (Biv K) (by intro a0 a1;show @Eq _ _ _;kernel_rfl) (kC (Biw K K) kN) Tryz.func206 trivial
def Ai0 (K:Nat)(v4:List Ax)(v5:Int)(v6:Int)(v7:Int)(v8:Int)(v9:Int)(v10:Int)(v11:Int)(v12:Int)(v13:List Int)(v14:List Int)(v15:List Int)(v16:List Ba)(v17:List Ax)(v18:List Int)(v27:List Int)(v31:List Int)(r32:(List Int))(C1:(List Int)->(List Int)->(List Int)->(List Ax)->Int->Int->Int->Int->Int->Int->Int->Int->(List Int)->(List Int)->(List Int)->(List Ba)->(List Ax)->(List Int)->Option (Bool)):Nat->(List Int)->Int->Int->Option (Bool)
 |0,_,_,_=>none
 |n6+1,v33,v34,v35=>(bif (decide (v35<v34))then(if(0:Int)≤v35∧v35<(r32.length:Int)then(if(0:Int)≤(gt r32 v35)∧(gt r32 v35)<(v33.length:Int)then(if(0:Int)≤(gt r32 v35)∧(gt r32 v35)<(v33.length:Int)then((Aqx K v16 (gt r32 v35)).bind fun r36=>(bif (!r36)then some false else(Ai0 K v4 v5 v6 v7 v8 v9 v10 v11 v12 v13 v14 v15 v16 v17 v18 v27 v31 r32 C1 n6 (v33.set (gt r32 v35).toNat (Aoa .i64 (gt v33 (gt r32 v35)) 1)) v34 (Aoa .i64 v35 1))))else none)else none)else none)else(C1 v27 v31 v33 v4 v5 (Aoa .i64 v6 1) v7 v8 v9 v10 v11 v12 v13 v14 v15 v16 v17 v18))
def Apc (K:Nat)(v3:List Int)(v4:List Ax)(v5:Int)(v6:Int)(v7:Int)(v8:Int)(v9:Int)(v10:Int)(v11:Int)(v12:Int)(v13:List Int)(v14:List Int)(v15:List Int)(v16:List Ba)(v17:List Ax)(v18:List Int)(v23:Int)(v27:List Int)(v31:List Int)(C1:(List Int)->(List Int)->(List Int)->(List Ax)->Int->Int->Int->Int->Int->Int->Int->Int->(List Int)->(List Int)->(List Int)->(List Ba)->(List Ax)->(List Int)->Option (Bool)):Option (Bool):=((Awg K v16 v23).bind fun r32=>(Ai0 K v4 v5 v6 v7 v8 v9 v10 v11 v12 v13 v14 v15 v16 v17 v18 v27 v31 r32 (C1) K v3 (r32.length:Int) 0))
def Apd (K:Nat)(v3:List Int)(v4:List Ax)(v5:Int)(v6:Int)(v7:Int)(v8:Int)(v9:Int)(v10:Int)(v11:Int)(v12:Int)(v13:List Int)(v14:List Int)(v15:List Int)(v16:List Ba)(v17:List Ax)(v18:List Int)(v23:Int)(v27:List Int)(C1:(List Int)->(List Int)->(List Int)->(List Ax)->Int->Int->Int->Int->Int->Int->Int->Int->(List Int)->(List Int)->(List Int)->(List Ba)->(List Ax)->(List Int)->Option (Bool))(v31:List Int):Option (Bool):=(bif (decide (v23>0))then(if(0:Int)≤(Aob .i64 v23 1)∧(Aob .i64 v23 1)<(v16.length:Int)then(bif (((gt v16 (Aob .i64 v23 1)).Gs) != 0)then some false else(Apc K v3 v4 v5 v6 v7 v8 v9 v10 v11 v12 v13 v14 v15 v16 v17 v18 v23 v27 v31 (C1)))else none)else(Apc K v3 v4 v5 v6 v7 v8 v9 v10 v11 v12 v13 v14 v15 v16 v17 v18 v23 v27 v31 (C1)))
def Ai1 (K:Nat)(v2:List Int)(v3:List Int)(v4:List Ax)(v5:Int)(v6:Int)(v7:Int)(v8:Int)(v9:Int)(v10:Int)(v11:Int)(v12:Int)(v13:List Int)(v14:List Int)(v15:List Int)(v16:List Ba)(v17:List Ax)(v18:List Int)(v22:Int)(v23:Int)(v25:List Int)(C1:(List Int)->(List Int)->(List Int)->(List Ax)->Int->Int->Int->Int->Int->Int->Int->Int->(List Int)->(List Int)->(List Int)->(List Ba)->(List Ax)->(List Int)->Option (Bool)):Nat->(List Int)->Int->Int->(List Int)->Option (Bool)
 |0,_,_,_,_=>none
 |n3+1,v27,v28,v29,v30=>(bif (decide (v29<v28))then(if(0:Int)≤v29∧v29<(v25.length:Int)then(if(0:Int)≤(gt v25 v29)∧(gt v25 v29)<(v27.length:Int)then(if(0:Int)≤(gt v25 v29)∧(gt v25 v29)<(v27.length:Int)then(if(0:Int)≤(gt v25 v29)∧(gt v25 v29)<(v14.length:Int)then(bif ((gt v14 (gt v25 v29)) != 2)then some false else(Ai1 K v2 v3 v4 v5 v6 v7 v8 v9 v10 v11 v12 v13 v14 v15 v16 v17 v18 v22 v23 v25 C1 n3 (v27.set (gt v25 v29).toNat (Aoa .i64 (gt v27 (gt v25 v29)) 1)) v28 (Aoa .i64 v29 1) v30))else none)else none)else none)else none)else(bif (decide (v22>0))then(if(0:Int)≤(Aob .i64 v22 1)∧(Aob .i64 v22 1)<(v2.length:Int)then(if(0:Int)≤(Aob .i64 v22 1)∧(Aob .i64 v22 1)<(v2.length:Int)then(if(0:Int)≤(Aob .i64 v22 1)∧(Aob .i64 v22 1)<(v16.length:Int)then(bif (((gt v16 (Aob .i64 v22 1)).Hh) != 2)then some false else(Apd K v3 v4 v5 v6 v7 v8 v9 v10 v11 v12 v13 v14 v15 v16 v17 v18 v23 v27 (C1) (v2.set (Aob .i64 v22 1).toNat (Aoa .i64 (gt v2 (Aob .i64 v22 1)) 1))))else none)else none)else none)else(Apd K v3 v4 v5 v6 v7 v8 v9 v10 v11 v12 v13 v14 v15 v16 v17 v18 v23 v27 (C1) v2)))
def Ape (K:Nat)(v1:List Int)(v2:List Int)(v3:List Int)(v4:List Ax)(v5:Int)(v6:Int)(v7:Int)(v8:Int)(v9:Int)(v10:Int)(v11:Int)(v12:Int)(v13:List Int)(v14:List Int)(v15:List Int)(v16:List Ba)(v17:List Ax)(v18:List Int)(C1:(List Int)->(List Int)->(List Int)->(List Ax)->Int->Int->Int->Int->Int->Int->Int->Int->(List Int)->(List Int)->(List Int)->(List Ba)->(List Ax)->(List Int)->Option (Bool))(v22:Int)(v23:Int)(v24:List Int)(v25:List Int)(v26:Int):Option (Bool):=(Ai1 K v2 v3 v4 v5 v6 v7 v8 v9 v10 v11 v12 v13 v14 v15 v16 v17 v18 v22 v23 v25 (C1) K v1 (v25.length:Int) 0 v25)
def Ap8 (K:Nat)(v37:Int)(v38:Int)(v39:List Int)(C7:Int->Int->(List Int)->Option (Bool)):Option (Bool):=(C7 v37 (Aoa .i64 v38 1) v39)
def Ak4 (K:Nat)(v40:Int)(v41:Int)(v42:List Ba)(C9:Int->Int->(List Ba)->Option (Bool)):Option (Bool):=(C9 v40 (Aoa .i64 v41 1) v42)
def Aei (K:Nat)(v2:List Int)(v3:List Int)(v16:List Ba):Nat->Int->Int->(List Ba)->Option (Bool)
 |0,_,_,_=>none
 |n9+1,v40,v41,v42=>(bif (decide (v41<v40))then(if(0:Int)≤v41∧v41<(v16.length:Int)then(bif (((gt v16 v41).Hh)==2)then(if(0:Int)≤v41∧v41<(v2.length:Int)then(bif ((gt v2 v41) != 1)then some false else((Aqx K v42 v41).bind fun r43=>(bif r43 then(if(0:Int)≤v41∧v41<(v3.length:Int)then(bif ((gt v3 v41) != 1)then some false else(Ak4 K v40 v41 v42 (Aei K v2 v3 v16 n9)))else none)else(Ak4 K v40 v41 v42 (Aei K v2 v3 v16 n9)))))else none)else((Aqx K v42 v41).bind fun r44=>(bif r44 then(if(0:Int)≤v41∧v41<(v3.length:Int)then(bif ((gt v3 v41) != 1)then some false else(Ak4 K v40 v41 v42 (Aei K v2 v3 v16 n9)))else none)else(Ak4 K v40 v41 v42 (Aei K v2 v3 v16 n9)))))else none)else some true)
def Ag2 (K:Nat)(v1:List Int)(v2:List Int)(v3:List Int)(v14:List Int)(v16:List Ba):Nat->Int->Int->(List Int)->Option (Bool)
 |0,_,_,_=>none
 |n7+1,v37,v38,v39=>(bif (decide (v38<v37))then(if(0:Int)≤v38∧v38<(v14.length:Int)then(bif ((gt v14 v38)==2)then(if(0:Int)≤v38∧v38<(v1.length:Int)then(bif ((gt v1 v38) != 1)then some false else(Ap8 K v37 v38 v39 (Ag2 K v1 v2 v3 v14 v16 n7)))else none)else(Ap8 K v37 v38 v39 (Ag2 K v1 v2 v3 v14 v16 n7)))else none)else(Aei K v2 v3 v16 K (v16.length:Int) 0 v16))
def Aa1 (K:Nat):Nat->(List Int)->(List Int)->(List Int)->(List Ax)->Int->Int->Int->Int->Int->Int->Int->Int->(List Int)->(List Int)->(List Int)->(List Ba)->(List Ax)->(List Int)->Option (Bool)
 |0,_,_,_,_,_,_,_,_,_,_,_,_,_,_,_,_,_,_=>none
 |n1+1,v1,v2,v3,v4,v5,v6,v7,v8,v9,v10,v11,v12,v13,v14,v15,v16,v17,v18=>(bif (decide (v6<v5))then(if(0:Int)≤v6∧v6<(v4.length:Int)then((Avi K (Er.mk v7 v8 v9 v10 v11 v12) (gt v4 v6)).bind fun r19=>(bif r19 then(bif (decide ((((gt v4 v6).Ae).length:Int)>0))then(if(0:Int)≤0∧0<(((gt v4 v6).Ae).length:Int)then((Aq0 K (Dw.mk v13 v14 v15) (Er.mk v7 v8 v9 v10 v11 v12) (gt ((gt v4 v6).Ae) 0)).bind fun r20=>(if(0:Int)≤0∧0≤((gt v4 v6).Gu)∧((gt v4 v6).Gu)≤(r20.length:Int)then((Asd K ((r20.drop (0:Int).toNat).take (((gt v4 v6).Gu) - 0).toNat)).bind fun r21=>(bif (!r21)then some false else(Ape K v1 v2 v3 v4 v5 v6 v7 v8 v9 v10 v11 v12 v13 v14 v15 v16 v17 v18 (Aa1 K n1) ((gt v4 v6).A5) ((gt v4 v6).Bt) ((gt v4 v6).Dg) ((gt v4 v6).Ae) ((gt v4 v6).Gu))))else none))else none)else(Ape K v1 v2 v3 v4 v5 v6 v7 v8 v9 v10 v11 v12 v13 v14 v15 v16 v17 v18 (Aa1 K n1) ((gt v4 v6).A5) ((gt v4 v6).Bt) ((gt v4 v6).Dg) ((gt v4 v6).Ae) ((gt v4 v6).Gu)))else some false))else none)else(Ag2 K v1 v2 v3 v14 v16 K (v14.length:Int) 0 v14))
def Aq3 (K:Nat)(a0:Eb):Option (Bool):=(if(0:Int)≤a0.fC.Ae∧a0.fC.Ae≤a0.fC.Ae∧(8:Int)*a0.fC.Ae≤281474976710656∧a0.fC.Ae≤9223372036854775807 then(if(0:Int)≤a0.fC.C0∧a0.fC.C0≤a0.fC.C0∧(8:Int)*a0.fC.C0≤281474976710656∧a0.fC.C0≤9223372036854775807 then(if(0:Int)≤a0.fC.C0∧a0.fC.C0≤a0.fC.C0∧(8:Int)*a0.fC.C0≤281474976710656∧a0.fC.C0≤9223372036854775807 then(Aa1 K K (List.replicate a0.fC.Ae.toNat 0) (List.replicate a0.fC.C0.toNat 0) (List.replicate a0.fC.C0.toNat 0) a0.fQ (a0.fQ.length:Int) 0 a0.fC.Ae a0.fC.Eg a0.fC.C0 a0.fC.E9 a0.fC.C1 a0.fC.Eh a0.fP.Fy a0.fP.Hh a0.fP.Fz a0.fL a0.fQ a0.Pr)else none)else none)else none)
def s_125:Sig:=⟨[.v 32],[.v 4],true⟩
def Bq4 (K:Nat):Gb tyU:=⟨s_125,Aq3 K⟩
def Ay6 (K:Nat):=xF s_125 [(206,Bq3 K),(226,Bn1 K),(227,Bua K),(234,Bq2 K),(235,Bq0 K)] [] 191 [38,39,40,44,45,105,106,150,151,169,170,175,176,177,181,182] [] [] [979,2003,3737,14951,29903] [.tmp 2]
def Ayv:E5:=⟨[(1,.p 101),(3,.o 1003 3 true),(4,.o 1004 3 true),(5,.o 1005 3 true),(29,.v 30),(30,.v 2),(31,.v 2),(121,.v 26),(122,.v 2),(123,.v 2)],[(101,.box [.v 2,.v 2,.v 2,.v 2,.v 2,.v 2,.v 22,.v 26,.v 26,.v 29,.v 30,.v 26])]⟩
def Azi:E5:=⟨[(1,.p 101),(3,.o 1003 3 true),(4,.o 1004 3 true),(5,.o 1005 3 true),(7,.p 107),(29,.v 30),(30,.v 2),(31,.v 2)],[(107,.box [.v 2,.v 2,.v 26,.v 26,.v 2]),(101,.box [.v 2,.v 2,.v 2,.v 2,.v 2,.v 2,.v 22,.v 26,.v 26,.v 29,.v 30,.v 26])]⟩
def Azj:E5:=⟨[(1,.p 101),(3,.o 1003 3 true),(4,.o 1004 3 true),(5,.o 1005 3 true),(7,.p 107),(29,.v 30),(30,.v 2),(31,.v 2)],[(107,.box [.v 2,.v 2,.v 26,.v 26,.v 2]),(101,.box [.v 2,.v 2,.v 2,.v 2,.v 2,.v 2,.v 22,.v 26,.v 26,.v 29,.v 30,.v 26])]⟩
def Azk:E5:=⟨[(1,.p 101),(3,.o 1003 3 true),(4,.o 1004 3 true),(5,.o 1005 3 true),(7,.p 107),(29,.v 30),(30,.v 2),(31,.v 2),(63,.v 26),(64,.v 2),(65,.v 2)],[(107,.box [.v 2,.v 2,.v 26,.v 26,.v 2]),(101,.box [.v 2,.v 2,.v 2,.v 2,.v 2,.v 2,.v 22,.v 26,.v 26,.v 29,.v 30,.v 26])]⟩
def A0g:E5:=⟨[(1,.p 101),(3,.o 1003 3 true),(4,.o 1004 3 true),(5,.o 1005 3 true),(7,.p 107),(29,.v 30),(30,.v 2),(31,.v 2)],[(107,.box [.v 2,.v 2,.v 26,.v 26,.v 2]),(101,.box [.v 2,.v 2,.v 2,.v 2,.v 2,.v 2,.v 22,.v 26,.v 26,.v 29,.v 30,.v 26])]⟩
def A2e:E5:=⟨[(1,.p 101),(3,.o 1003 3 true),(4,.o 1004 3 true),(5,.o 1005 3 true),(142,.v 26),(143,.v 2),(144,.v 2)],[(101,.box [.v 2,.v 2,.v 2,.v 2,.v 2,.v 2,.v 22,.v 26,.v 26,.v 29,.v 30,.v 26])]⟩
def A0h:E5:=⟨[(1,.p 101),(4,.o 1004 3 true),(5,.o 1005 3 true),(160,.v 29),(161,.v 2),(162,.v 2)],[(101,.box [.v 2,.v 2,.v 2,.v 2,.v 2,.v 2,.v 22,.v 26,.v 26,.v 29,.v 30,.v 26])]⟩
def Aux:E5:=⟨[(1,.p 101),(4,.o 1004 3 true),(5,.o 1005 3 true),(160,.v 29),(161,.v 2),(162,.v 2)],[(101,.box [.v 2,.v 2,.v 2,.v 2,.v 2,.v 2,.v 22,.v 26,.v 26,.v 29,.v 30,.v 26])]⟩
def Auy:E5:=⟨[(1,.p 101),(3,.o 1003 3 true),(4,.o 1004 3 true),(5,.o 1005 3 true),(142,.v 26),(143,.v 2),(144,.v 2)],[(101,.box [.v 2,.v 2,.v 2,.v 2,.v 2,.v 2,.v 22,.v 26,.v 26,.v 29,.v 30,.v 26])]⟩
def Aix:E5:=⟨[(1,.p 101),(3,.o 1003 3 true),(4,.o 1004 3 true),(5,.o 1005 3 true),(29,.v 30),(30,.v 2),(31,.v 2)],[(101,.box [.v 2,.v 2,.v 2,.v 2,.v 2,.v 2,.v 22,.v 26,.v 26,.v 29,.v 30,.v 26])]⟩
def Ayw (K:Nat)(C58:CT Aix s_125)(n:Nat)(q:PT Ayv):Rt s_125:=Ai0 K q.2.2.2.1 q.2.2.2.2.1 q.2.2.2.2.2.1 q.2.2.2.2.2.2.2.2.2.1 q.2.2.2.2.2.2.2.2.2.2.1 q.2.2.2.2.2.2.2.2.2.2.2.1 q.2.2.2.2.2.2.2.2.2.2.2.2.1 q.2.2.2.2.2.2.2.2.2.2.2.2.2.1 q.2.2.2.2.2.2.2.2.2.2.2.2.2.2.1 q.2.2.2.2.2.2.2.2.2.2.2.2.2.2.2.1 q.2.2.2.2.2.2.2.2.2.2.2.2.2.2.2.2.1 q.2.2.2.2.2.2.2.2.2.2.2.2.2.2.2.2.2.1 q.2.2.2.2.2.2.2.2.2.2.2.2.2.2.2.2.2.2.1 q.2.2.2.2.2.2.2.2.2.2.2.2.2.2.2.2.2.2.2.1 q.2.2.2.2.2.2.2.2.2.2.2.2.2.2.2.2.2.2.2.2.1 q.1 q.2.1 q.2.2.2.2.2.2.1 (fun v1 v2 v3 v4 v5 v6 v7 v8 v9 v10 v11 v12 v13 v14 v15 v16 v17 v18=>C58 (v1,v2,v3,v4,v5,v6,v7,v8,v9,v10,v11,v12,v13,v14,v15,v16,v17,v18,())) n q.2.2.1 q.2.2.2.2.2.2.2.1 q.2.2.2.2.2.2.2.2.1
def Azl (K:Nat)(C58:CT Aix s_125)(q:PT Azi):Rt s_125:=Apc K q.2.2.1 q.2.2.2.1 q.2.2.2.2.1 q.2.2.2.2.2.1 q.2.2.2.2.2.2.2.2.2.2.2.1 q.2.2.2.2.2.2.2.2.2.2.2.2.1 q.2.2.2.2.2.2.2.2.2.2.2.2.2.1 q.2.2.2.2.2.2.2.2.2.2.2.2.2.2.1 q.2.2.2.2.2.2.2.2.2.2.2.2.2.2.2.1 q.2.2.2.2.2.2.2.2.2.2.2.2.2.2.2.2.1 q.2.2.2.2.2.2.2.2.2.2.2.2.2.2.2.2.2.1 q.2.2.2.2.2.2.2.2.2.2.2.2.2.2.2.2.2.2.1 q.2.2.2.2.2.2.2.2.2.2.2.2.2.2.2.2.2.2.2.1 q.2.2.2.2.2.2.2.2.2.2.2.2.2.2.2.2.2.2.2.2.1 q.2.2.2.2.2.2.2.2.2.2.2.2.2.2.2.2.2.2.2.2.2.1 q.2.2.2.2.2.2.2.2.2.2.2.2.2.2.2.2.2.2.2.2.2.2.1 q.2.2.2.2.2.2.2.1 q.1 q.2.1 (fun v1 v2 v3 v4 v5 v6 v7 v8 v9 v10 v11 v12 v13 v14 v15 v16 v17 v18=>C58 (v1,v2,v3,v4,v5,v6,v7,v8,v9,v10,v11,v12,v13,v14,v15,v16,v17,v18,()))
def Azm (K:Nat)(C58:CT Aix s_125)(q:PT Azj):Rt s_125:=Apd K q.2.2.1 q.2.2.2.1 q.2.2.2.2.1 q.2.2.2.2.2.1 q.2.2.2.2.2.2.2.2.2.2.2.1 q.2.2.2.2.2.2.2.2.2.2.2.2.1 q.2.2.2.2.2.2.2.2.2.2.2.2.2.1 q.2.2.2.2.2.2.2.2.2.2.2.2.2.2.1 q.2.2.2.2.2.2.2.2.2.2.2.2.2.2.2.1 q.2.2.2.2.2.2.2.2.2.2.2.2.2.2.2.2.1 q.2.2.2.2.2.2.2.2.2.2.2.2.2.2.2.2.2.1 q.2.2.2.2.2.2.2.2.2.2.2.2.2.2.2.2.2.2.1 q.2.2.2.2.2.2.2.2.2.2.2.2.2.2.2.2.2.2.2.1 q.2.2.2.2.2.2.2.2.2.2.2.2.2.2.2.2.2.2.2.2.1 q.2.2.2.2.2.2.2.2.2.2.2.2.2.2.2.2.2.2.2.2.2.1 q.2.2.2.2.2.2.2.2.2.2.2.2.2.2.2.2.2.2.2.2.2.2.1 q.2.2.2.2.2.2.2.1 q.1 (fun v1 v2 v3 v4 v5 v6 v7 v8 v9 v10 v11 v12 v13 v14 v15 v16 v17 v18=>C58 (v1,v2,v3,v4,v5,v6,v7,v8,v9,v10,v11,v12,v13,v14,v15,v16,v17,v18,())) q.2.1
def Azn (K:Nat)(C58:CT Aix s_125)(n:Nat)(q:PT Azk):Rt s_125:=Ai1 K q.2.1 q.2.2.1 q.2.2.2.1 q.2.2.2.2.1 q.2.2.2.2.2.1 q.2.2.2.2.2.2.2.2.2.2.2.2.2.2.1 q.2.2.2.2.2.2.2.2.2.2.2.2.2.2.2.1 q.2.2.2.2.2.2.2.2.2.2.2.2.2.2.2.2.1 q.2.2.2.2.2.2.2.2.2.2.2.2.2.2.2.2.2.1 q.2.2.2.2.2.2.2.2.2.2.2.2.2.2.2.2.2.2.1 q.2.2.2.2.2.2.2.2.2.2.2.2.2.2.2.2.2.2.2.1 q.2.2.2.2.2.2.2.2.2.2.2.2.2.2.2.2.2.2.2.2.1 q.2.2.2.2.2.2.2.2.2.2.2.2.2.2.2.2.2.2.2.2.2.1 q.2.2.2.2.2.2.2.2.2.2.2.2.2.2.2.2.2.2.2.2.2.2.1 q.2.2.2.2.2.2.2.2.2.2.2.2.2.2.2.2.2.2.2.2.2.2.2.1 q.2.2.2.2.2.2.2.2.2.2.2.2.2.2.2.2.2.2.2.2.2.2.2.2.1 q.2.2.2.2.2.2.2.2.2.2.2.2.2.2.2.2.2.2.2.2.2.2.2.2.2.1 q.2.2.2.2.2.2.2.2.2.1 q.2.2.2.2.2.2.2.2.2.2.1 q.2.2.2.2.2.2.1 (fun v1 v2 v3 v4 v5 v6 v7 v8 v9 v10 v11 v12 v13 v14 v15 v16 v17 v18=>C58 (v1,v2,v3,v4,v5,v6,v7,v8,v9,v10,v11,v12,v13,v14,v15,v16,v17,v18,())) n q.1 q.2.2.2.2.2.2.2.1 q.2.2.2.2.2.2.2.2.1 q.2.2.2.2.2.2.2.2.2.2.2.2.1
def A0i (K:Nat)(C58:CT Aix s_125)(q:PT A0g):Rt s_125:=Ape K q.1 q.2.1 q.2.2.1 q.2.2.2.1 q.2.2.2.2.1 q.2.2.2.2.2.1 q.2.2.2.2.2.2.2.2.2.2.2.1 q.2.2.2.2.2.2.2.2.2.2.2.2.1 q.2.2.2.2.2.2.2.2.2.2.2.2.2.1 q.2.2.2.2.2.2.2.2.2.2.2.2.2.2.1 q.2.2.2.2.2.2.2.2.2.2.2.2.2.2.2.1 q.2.2.2.2.2.2.2.2.2.2.2.2.2.2.2.2.1 q.2.2.2.2.2.2.2.2.2.2.2.2.2.2.2.2.2.1 q.2.2.2.2.2.2.2.2.2.2.2.2.2.2.2.2.2.2.1 q.2.2.2.2.2.2.2.2.2.2.2.2.2.2.2.2.2.2.2.1 q.2.2.2.2.2.2.2.2.2.2.2.2.2.2.2.2.2.2.2.2.1 q.2.2.2.2.2.2.2.2.2.2.2.2.2.2.2.2.2.2.2.2.2.1 q.2.2.2.2.2.2.2.2.2.2.2.2.2.2.2.2.2.2.2.2.2.2.1 (fun v1 v2 v3 v4 v5 v6 v7 v8 v9 v10 v11 v12 v13 v14 v15 v16 v17 v18=>C58 (v1,v2,v3,v4,v5,v6,v7,v8,v9,v10,v11,v12,v13,v14,v15,v16,v17,v18,())) q.2.2.2.2.2.2.1 q.2.2.2.2.2.2.2.1 q.2.2.2.2.2.2.2.2.1 q.2.2.2.2.2.2.2.2.2.1 q.2.2.2.2.2.2.2.2.2.2.1
def A2f (K:Nat)(C122:CT Auy s_125)(q:PT A2e):Rt s_125:=Ap8 K q.2.2.2.2.1 q.2.2.2.2.2.1 q.2.2.2.2.2.2.2.2.2.2.2.2.2.1 (fun v37 v38 v39=>C122 (q.1,q.2.1,q.2.2.1,q.2.2.2.1,v37,v38,q.2.2.2.2.2.2.1,q.2.2.2.2.2.2.2.1,q.2.2.2.2.2.2.2.2.1,q.2.2.2.2.2.2.2.2.2.1,q.2.2.2.2.2.2.2.2.2.2.1,q.2.2.2.2.2.2.2.2.2.2.2.1,q.2.2.2.2.2.2.2.2.2.2.2.2.1,v39,q.2.2.2.2.2.2.2.2.2.2.2.2.2.2.1,q.2.2.2.2.2.2.2.2.2.2.2.2.2.2.2.1,q.2.2.2.2.2.2.2.2.2.2.2.2.2.2.2.2.1,q.2.2.2.2.2.2.2.2.2.2.2.2.2.2.2.2.2.1,()))
def A0j (K:Nat)(C250:CT Aux s_125)(q:PT A0h):Rt s_125:=Ak4 K q.2.2.2.1 q.2.2.2.2.1 q.2.2.2.2.2.2.2.2.2.2.2.2.2.2.1 (fun v40 v41 v42=>C250 (q.1,q.2.1,q.2.2.1,v40,v41,q.2.2.2.2.2.1,q.2.2.2.2.2.2.1,q.2.2.2.2.2.2.2.1,q.2.2.2.2.2.2.2.2.1,q.2.2.2.2.2.2.2.2.2.1,q.2.2.2.2.2.2.2.2.2.2.1,q.2.2.2.2.2.2.2.2.2.2.2.1,q.2.2.2.2.2.2.2.2.2.2.2.2.1,q.2.2.2.2.2.2.2.2.2.2.2.2.2.1,v42,q.2.2.2.2.2.2.2.2.2.2.2.2.2.2.2.1,q.2.2.2.2.2.2.2.2.2.2.2.2.2.2.2.2.1,()))
def Ayj (K:Nat)(n:Nat)(q:PT Aux):Rt s_125:=Aei K q.1 q.2.1 q.2.2.1 n q.2.2.2.1 q.2.2.2.2.1 q.2.2.2.2.2.2.2.2.2.2.2.2.2.2.1
def Ayk (K:Nat)(n:Nat)(q:PT Auy):Rt s_125:=Ag2 K q.1 q.2.1 q.2.2.1 q.2.2.2.1 q.2.2.2.2.2.2.2.2.2.2.2.2.2.2.2.1 n q.2.2.2.2.1 q.2.2.2.2.2.1 q.2.2.2.2.2.2.2.2.2.2.2.2.2.1
def Azo (K:Nat)(n:Nat)(q:PT Aix):Rt s_125:=Aa1 K n q.1 q.2.1 q.2.2.1 q.2.2.2.1 q.2.2.2.2.1 q.2.2.2.2.2.1 q.2.2.2.2.2.2.1 q.2.2.2.2.2.2.2.1 q.2.2.2.2.2.2.2.2.1 q.2.2.2.2.2.2.2.2.2.1 q.2.2.2.2.2.2.2.2.2.2.1 q.2.2.2.2.2.2.2.2.2.2.2.1 q.2.2.2.2.2.2.2.2.2.2.2.2.1 q.2.2.2.2.2.2.2.2.2.2.2.2.2.1 q.2.2.2.2.2.2.2.2.2.2.2.2.2.2.1 q.2.2.2.2.2.2.2.2.2.2.2.2.2.2.2.1 q.2.2.2.2.2.2.2.2.2.2.2.2.2.2.2.2.1 q.2.2.2.2.2.2.2.2.2.2.2.2.2.2.2.2.2.1
theorem A84 (K:Nat)(C58:CT Aix s_125):AtL (Ay6 K) (fun n=>[]) [(58,ar Aix C58)] (bd Tryz.f156) 239230 (Ayw K C58):=fun n q=>by kernel_rfl
theorem Baf (K:Nat)(C58:CT Aix s_125):AtJ (Ay6 K) [(239230,ar Ayv (Ayw K C58 K))] [(58,ar Aix C58)] (bd Tryz.f156) 29903 (Azl K C58):=fun q=>by kernel_rfl
theorem Bag (K:Nat)(C58:CT Aix s_125):AtJ (Ay6 K) [(29903,ar Azi (Azl K C58))] [(58,ar Aix C58)] (bd Tryz.f156) 14951 (Azm K C58):=fun q=>by kernel_rfl
theorem Bah (K:Nat)(C58:CT Aix s_125):AtL (Ay6 K) (fun n=>[(14951,ar Azj (Azm K C58))]) [(58,ar Aix C58)] (bd Tryz.f156) 59802 (Azn K C58):=fun n q=>by kernel_rfl
theorem Bb3 (K:Nat)(C58:CT Aix s_125):AtJ (Ay6 K) [(59802,ar Azk (Azn K C58 K))] [(58,ar Aix C58)] (bd Tryz.f156) 3737 (A0i K C58):=fun q=>by kernel_rfl
theorem Ber (K:Nat)(C122:CT Auy s_125):AtJ (Ay6 K) [] [(122,ar Auy C122)] (bd Tryz.f156) 979 (A2f K C122):=fun q=>by kernel_rfl
theorem Bb4 (K:Nat)(C250:CT Aux s_125):AtJ (Ay6 K) [] [(250,ar Aux C250)] (bd Tryz.f156) 2003 (A0j K C250):=fun q=>by kernel_rfl
theorem Bes (K:Nat):AtL (Ay6 K) (fun n=>[(2003,ar A0h (A0j K (Ayj K n)))]) [] (bd Tryz.f156) 250 (Ayj K):=fun n q=>by kernel_rfl
theorem Bet (K:Nat):AtL (Ay6 K) (fun n=>[(979,ar A2e (A2f K (Ayk K n))),(250,ar Aux (Ayj K K))]) [] (bd Tryz.f156) 122 (Ayk K):=fun n q=>by kernel_rfl
theorem Bix (K:Nat):AtL (Ay6 K) (fun n=>[(3737,ar A0g (A0i K (Azo K n))),(122,ar Auy (Ayk K K))]) [] (bd Tryz.f156) 58 (Azo K):=fun n q=>by kernel_rfl
theorem Axf (K:Nat):XF [.tmp 2] s_125 191 [979,2003,3737,14951,29903] (Ay6 K):=xkF (gC (Bu5 K) (gC (Bhi K) (gC (Bpw K) (gC (Bu4 K) (gC (Bu3 K) gN))))) oN
theorem A85 (K:Nat)(C58:CT Aix s_125)(n:Nat):CF [.tmp 2] s_125 191 [979,2003,3737,14951,29903] (bd Tryz.f156) [(58,ar Aix C58)] 239230 (ar Ayv (Ayw K C58 n)):=
 Aeg (Axf K) (A84 K C58) (fun n=>kN) n
theorem Bai (K:Nat)(C58:CT Aix s_125):CF [.tmp 2] s_125 191 [979,2003,3737,14951,29903] (bd Tryz.f156) [(58,ar Aix C58)] 29903 (ar Azi (Azl K C58)):=
 Apg (Axf K) (Baf K C58) (kC (A85 K C58 K) kN)
theorem Baj (K:Nat)(C58:CT Aix s_125):CF [.tmp 2] s_125 191 [979,2003,3737,14951,29903] (bd Tryz.f156) [(58,ar Aix C58)] 14951 (ar Azj (Azm K C58)):=
 Apg (Axf K) (Bag K C58) (kC (Bai K C58) kN)
theorem Bak (K:Nat)(C58:CT Aix s_125)(n:Nat):CF [.tmp 2] s_125 191 [979,2003,3737,14951,29903] (bd Tryz.f156) [(58,ar Aix C58)] 59802 (ar Azk (Azn K C58 n)):=
 Aeg (Axf K) (Bah K C58) (fun n=>(kC (Ao2 (by kernel_rfl) (Baj K C58)) kN)) n
theorem Bb5 (K:Nat)(C58:CT Aix s_125):CF [.tmp 2] s_125 191 [979,2003,3737,14951,29903] (bd Tryz.f156) [(58,ar Aix C58)] 3737 (ar A0g (A0i K C58)):=
 Apg (Axf K) (Bb3 K C58) (kC (Bak K C58 K) kN)
theorem Beu (K:Nat)(C122:CT Auy s_125):CF [.tmp 2] s_125 191 [979,2003,3737,14951,29903] (bd Tryz.f156) [(122,ar Auy C122)] 979 (ar A2e (A2f K C122)):=
 Apg (Axf K) (Ber K C122) kN
theorem Bb6 (K:Nat)(C250:CT Aux s_125):CF [.tmp 2] s_125 191 [979,2003,3737,14951,29903] (bd Tryz.f156) [(250,ar Aux C250)] 2003 (ar A0h (A0j K C250)):=
 Apg (Axf K) (Bb4 K C250) kN
theorem Bev (K:Nat)(n:Nat):CF [.tmp 2] s_125 191 [979,2003,3737,14951,29903] (bd Tryz.f156) [] 250 (ar Aux (Ayj K n)):=
 Aeg (Axf K) (Bes K) (fun n=>(kC (Bb6 K (Ayj K n)) kN)) n
theorem Bew (K:Nat)(n:Nat):CF [.tmp 2] s_125 191 [979,2003,3737,14951,29903] (bd Tryz.f156) [] 122 (ar Auy (Ayk K n)):=
 Aeg (Axf K) (Bet K) (fun n=>(kC (Beu K (Ayk K n)) (kC (Ao2 (by kernel_rfl) (Bev K K)) kN))) n
theorem Biy (K:Nat)(n:Nat):CF [.tmp 2] s_125 191 [979,2003,3737,14951,29903] (bd Tryz.f156) [] 58 (ar Aix (Azo K n)):=
 Aeg (Axf K) (Bix K) (fun n=>(kC (Bb5 K (Azo K n)) (kC (Ao2 (by kernel_rfl) (Bew K K)) kN))) n
theorem Bu6 (K:Nat):OkF 156 (Bq4 K):=
 Aa6 (x:=Ay6 K) (L:=[(58,ar Aix (Azo K K))]) (c0:=bd Tryz.f156) (Axf K) (by intro a0;show @Eq _ _ _;kernel_rfl) (kC (Biy K K) kN) Tryz.func156 trivial
def Avj (K:Nat)(a0:Eb):Option (Bool):=((Awd K a0.fC a0.fP).bind fun r1=>(bif r1 then(bif ((a0.fL.length:Int)==a0.fC.C0)then((Aq2 K a0).bind fun r2=>(bif r2 then((Awf K a0.fL).bind fun r3=>(bif r3 then((Aq3 K a0).bind fun r4=>(bif r4 then((Aqw K a0.Pr).bind fun r5=>some r5)else some false))else some false))else some false))else some false)else some false))
def Bq5:Sig:=⟨[.v 32],[.v 4],true⟩
def Bq6 (K:Nat):Gb tyU:=⟨Bq5,Avj K⟩
def B1x (K:Nat):=xF Bq5 [(153,B0j K),(154,Bqs K),(155,Bqy K),(156,Bq4 K),(157,Bof K)] [] 35 [7,8,15,16,17,19,20,21,24,25,26,28,29,30] [] [] [] [.tmp 2]
theorem Bu7 (K:Nat):OkF 87 (Bq6 K):=
 Aa6 (x:=B1x K) (L:=[]) (c0:=bd Tryz.f87) (xkF (gC (B0k K) (gC (Buz K) (gC (Bu2 K) (gC (Bu6 K) (gC (Bhl K) gN))))) oN) (by intro a0;show @Eq _ _ _;kernel_rfl) kN Tryz.func87 trivial
def Arb (K:Nat)(a0:List Int):Option ((List Int)):=(bif a0.isEmpty then Afd (some []) ((if(([]:List Int)++a0).length*1≤140737488355328∧(([]:List Int)++a0).length≤maxLen then some (([]:List Int)++a0)else none))else(if(([]:List Int)++a0).length*1≤140737488355328∧(([]:List Int)++a0).length≤maxLen then some (([]:List Int)++a0)else none))
def Bq7:Sig:=⟨[.v 22],[.n 22 true],true⟩
def Bq8 (K:Nat):Gb tyU:=⟨Bq7,Arb K⟩
def B1y (K:Nat):=xF Bq7 [] [] 8 [] [] [] [] [.tmp 2]
theorem Bu8 (K:Nat):OkF 188 (Bq8 K):=
 Aa6 (x:=B1y K) (L:=[]) (c0:=bd Tryz.f188) (xkF gN oN) (by intro a0;show @Eq _ _ _;kernel_rfl) kN Tryz.func188 trivial
def Asa (K:Nat)(a0:Dw):Option (Dw):=((Arb K a0.Fy).bind fun r1=>((Aen K a0.Hh).bind fun r2=>((Aen K a0.Fz).bind fun r3=>some (Dw.mk r1 r2 r3))))
def Bq9:Sig:=⟨[.v 28],[.n 28 true],true⟩
def Biz (K:Nat):Gb tyU:=⟨Bq9,Asa K⟩
def B1z (K:Nat):=xF Bq9 [(160,Bbw K),(188,Bq8 K)] [] 13 [] [] [] [] [.cell 2 28]
theorem Bi0 (K:Nat):OkF 158 (Biz K):=
 Aa6 (x:=B1z K) (L:=[]) (c0:=bd Tryz.f158) (xkF (gC (A6x K) (gC (Bu8 K) gN)) oN) (by intro a0;show @Eq _ _ _;kernel_rfl) kN Tryz.func158 trivial
def App (K:Nat)(a0:List A9):Option ((List A9)):=(bif a0.isEmpty then Afd (some []) ((if(([]:List A9)++a0).length*24≤140737488355328∧(([]:List A9)++a0).length≤maxLen then some (([]:List A9)++a0)else none))else(if(([]:List A9)++a0).length*24≤140737488355328∧(([]:List A9)++a0).length≤maxLen then some (([]:List A9)++a0)else none))
def Bra:Sig:=⟨[.v 41],[.n 41 true],true⟩
def Brb (K:Nat):Gb tyU:=⟨Bra,App K⟩
def B10 (K:Nat):=xF Bra [] [] 8 [] [] [] [] [.tmp 2]
theorem Bu9 (K:Nat):OkF 273 (Brb K):=
 Aa6 (x:=B10 K) (L:=[]) (c0:=bd Tryz.f273) (xkF gN oN) (by intro a0;show @Eq _ _ _;kernel_rfl) kN Tryz.func273 trivial
def Auj (K:Nat)(a0:Ba):Option (Ba):=((Aen K a0.Ae).bind fun r1=>((App K a0.Ea).bind fun r2=>((Aen K a0.Dg).bind fun r3=>some (Ba.mk a0.Hh a0.C2 a0.Ly a0.fUp a0.Gq a0.Bt a0.Gr a0.Gs r1 a0.Pq a0.Gt r2 r3))))
def Brc:Sig:=⟨[.v 44],[.n 44 true],true⟩
def Brd (K:Nat):Gb tyU:=⟨Brc,Auj K⟩
def B11 (K:Nat):=xF Brc [(160,Bbw K),(273,Brb K)] [] 16 [] [] [] [] [.cell 2 44]
theorem Bva (K:Nat):OkF 238 (Brd K):=
 Aa6 (x:=B11 K) (L:=[]) (c0:=bd Tryz.f238) (xkF (gC (A6x K) (gC (Bu9 K) gN)) oN) (by intro a0;show @Eq _ _ _;kernel_rfl) kN Tryz.func238 trivial
def Anm (K:Nat)(a0:List Ba):Nat->(List Ba)->Int->Int->Option ((List Ba))
 |0,_,_,_=>none
 |n1+1,v1,v2,v3=>(bif (decide (v3<v2))then(if(0:Int)≤v3∧v3<(a0.length:Int)then((Auj K (gt a0 v3)).bind fun r4=>(if(v1++[r4]).length*152≤140737488355328∧(v1++[r4]).length≤maxLen then(Anm K a0 n1 (v1++[r4]) v2 (Aoa .i64 v3 1))else none))else none)else some v1)
def Ati (K:Nat)(a0:List Ba):Option ((List Ba)):=(Anm K a0 K ([]:List Ba) (a0.length:Int) 0)
def s_131:Sig:=⟨[.v 29],[.n 29 true],true⟩
def Bre (K:Nat):Gb tyU:=⟨s_131,Ati K⟩
def Bi1 (K:Nat):=xF s_131 [(238,Brd K)] [] 20 [] [] [(16,[.put 3016])] [] [.tmp 2]
def A4j:E5:=⟨[(3,.o 1003 44 true),(7,.v 29),(8,.v 2),(9,.v 2)],[]⟩
def A4k (K:Nat)(n:Nat)(q:PT A4j):Rt s_131:=Anm K q.2.1 n q.1 q.2.2.1 q.2.2.2.1
theorem Bi2 (K:Nat):AtL (Bi1 K) (fun n=>[]) [] (bd Tryz.f159) 58 (A4k K):=fun n q=>by kernel_rfl
theorem Bi3 (K:Nat):XF [.tmp 2] s_131 20 [] (Bi1 K):=xkF (gC (Bva K) gN) oN
theorem Bi4 (K:Nat)(n:Nat):CF [.tmp 2] s_131 20 [] (bd Tryz.f159) [] 58 (ar A4j (A4k K n)):=
 Aeg (Bi3 K) (Bi2 K) (fun n=>kN) n
theorem Bvb (K:Nat):OkF 159 (Bre K):=
 Aa6 (x:=Bi1 K) (L:=[(58,ar A4j (A4k K K))]) (c0:=bd Tryz.f159) (Bi3 K) (by intro a0;show @Eq _ _ _;kernel_rfl) (kC (Bi4 K K) kN) Tryz.func159 trivial
def Atj (K:Nat)(a0:Ax):Option (Ax):=((Aen K a0.Dg).bind fun r1=>((Aen K a0.Ae).bind fun r2=>some (Ax.mk a0.A5 a0.Bt r1 r2 a0.Gu)))
def Brf:Sig:=⟨[.v 159],[.n 159 true],true⟩
def Brg (K:Nat):Gb tyU:=⟨Brf,Atj K⟩
def B12 (K:Nat):=xF Brf [(160,Bbw K)] [] 12 [] [] [] [] [.cell 2 159]
theorem Bvc (K:Nat):OkF 161 (Brg K):=
 Aa6 (x:=B12 K) (L:=[]) (c0:=bd Tryz.f161) (xkF (gC (A6x K) gN) oN) (by intro a0;show @Eq _ _ _;kernel_rfl) kN Tryz.func161 trivial
def Ann (K:Nat):Nat->(List Ax)->Int->Int->Eb->Eb->Option (Eb)
 |0,_,_,_,_,_=>none
 |n1+1,v4,v5,v6,v7,v8=>(bif (decide (v6<v5))then(if(0:Int)≤v6∧v6<(v4.length:Int)then((Atj K (gt v4 v6)).bind fun r9=>(if(v7.fQ.length+1)*72≤140737488355328∧v7.fQ.length+1≤maxLen then(Ann K n1 v4 v5 (Aoa .i64 v6 1) (Eb.mk v7.fC v7.fP v7.fL ((v7.fQ++[(default:Ax)]).set (v7.fQ.length:Int).toNat r9) v7.Pr) v8)else none))else none)else some v7)
def Aqe (K:Nat)(a0:Eb):Option (Eb):=((Asa K a0.fP).bind fun r1=>((Ati K a0.fL).bind fun r2=>((Aen K a0.Pr).bind fun r3=>(Ann K K a0.fQ (a0.fQ.length:Int) 0 (Eb.mk a0.fC r1 r2 [] r3) (Eb.mk (Er.mk 0 0 0 0 0 0) (Dw.mk [] [] []) [] [] [])))))
def s_133:Sig:=⟨[.v 32],[.n 32 true],true⟩
def Bdk (K:Nat):Gb tyU:=⟨s_133,Aqe K⟩
def Bi5 (K:Nat):=xF s_133 [(158,Biz K),(159,Bre K),(160,Bbw K),(161,Brg K)] [] 34 [] [(5,[.take 103 10 6658]),(7,[.take 103 6 6654,.take 103 7 6655,.take 103 8 6656,.take 103 9 6657,.take 103 10 6658,.take 103 11 6659])] [] [] [.cell 2 32]
def A4l:E5:=⟨[(2,.p 102),(3,.p 103),(19,.v 30),(20,.v 2),(21,.v 2)],[(103,.st 32 true),(102,.st 32 true)]⟩
def A4m (K:Nat)(n:Nat)(q:PT A4l):Rt s_133:=Ann K n q.1 q.2.1 q.2.2.1 q.2.2.2.1 q.2.2.2.2.1
theorem Bi6 (K:Nat):AtL (Bi5 K) (fun n=>[]) [] (bd Tryz.f90) 58 (A4m K):=fun n q=>by kernel_rfl
theorem Bi7 (K:Nat):XF [.cell 2 32] s_133 34 [] (Bi5 K):=xkF (gC (Bi0 K) (gC (Bvb K) (gC (A6x K) (gC (Bvc K) gN)))) oN
theorem Bi8 (K:Nat)(n:Nat):CF [.cell 2 32] s_133 34 [] (bd Tryz.f90) [] 58 (ar A4l (A4m K n)):=
 Aeg (Bi7 K) (Bi6 K) (fun n=>kN) n
theorem Bb7 (K:Nat):OkF 90 (Bdk K):=
 Aa6 (x:=Bi5 K) (L:=[(58,ar A4l (A4m K K))]) (c0:=bd Tryz.f90) (Bi7 K) (by intro a0;show @Eq _ _ _;kernel_rfl) (kC (Bi8 K K) kN) Tryz.func90 trivial
def Axg (K:Nat)(a0:Eb)(a1:Int):Option (Eb×Fh):=((Aqe K a0).bind fun r1=>some (r1,(Fh.mk a1 (Ct.mk 0 0) (Fg.mk (Ct.mk 0 0) 0 0) [] 0 0 0)))
def Brh:Sig:=⟨[.v 32,.v 3],[.n 32 true,.n 69 true],true⟩
def Bri (K:Nat):Gb tyU:=⟨Brh,Axg K⟩
def B13 (K:Nat):=xF Brh [(90,Bdk K)] [] 10 [] [] [] [] [.cell 4 32,.cell 5 69]
theorem Bvd (K:Nat):OkF 89 (Bri K):=
 Aa6 (x:=B13 K) (L:=[]) (c0:=bd Tryz.f89) (xkF (gC (Bb7 K) gN) oN) (by intro a0 a1;show @Eq _ _ _;kernel_rfl) kN Tryz.func89 trivial
def As1 (K:Nat)(a0:List Ba)(a1:Ct):Option (Int):=((Anh K a0 a1.A5).bind fun r1=>(bif r1 then(if(0:Int)≤a1.A5∧a1.A5<(a0.length:Int)then(bif (((gt a0 a1.A5).Hh) != 1)then some (-1)else(if(0:Int)≤a1.A5∧a1.A5<(a0.length:Int)then(bif (((gt a0 a1.A5).C2) != a1.C2)then some (-1)else some a1.A5)else none))else none)else some (-1)))
def Brj:Sig:=⟨[.v 29,.v 34],[.v 3],true⟩
def Bi9 (K:Nat):Gb tyU:=⟨Brj,As1 K⟩
def B14 (K:Nat):=xF Brj [(171,A2q K)] [] 32 [8,9,10,17,18,19] [] [] [] [.tmp 4]
theorem Bja (K:Nat):OkF 163 (Bi9 K):=
 Aa6 (x:=B14 K) (L:=[]) (c0:=bd Tryz.f163) (xkF (gC (A0f K) gN) oN) (by intro a0 a1;show @Eq _ _ _;kernel_rfl) kN Tryz.func163 trivial
def Ayc (K:Nat)(a0:List Ba)(a1:Int):Option (Int):=((Auw K a0 a1).bind fun r1=>some (r1.length:Int))
def Brk:Sig:=⟨[.v 29,.v 3],[.v 3],true⟩
def Brl (K:Nat):Gb tyU:=⟨Brk,Ayc K⟩
def B15 (K:Nat):=xF Brk [(232,Bdi K)] [] 9 [] [] [] [] [.tmp 4]
theorem Bve (K:Nat):OkF 162 (Brl K):=
 Aa6 (x:=B15 K) (L:=[]) (c0:=bd Tryz.f162) (xkF (gC (Bb1 K) gN) oN) (by intro a0 a1;show @Eq _ _ _;kernel_rfl) kN Tryz.func162 trivial
def Awh (K:Nat)(a0:Eb)(a1:Ct):Option (Int):=((As1 K a0.fL a1).bind fun r1=>((Ayc K a0.fL r1).bind fun r2=>some r2))
def Brm:Sig:=⟨[.v 32,.v 34],[.v 3],true⟩
def Brn (K:Nat):Gb tyU:=⟨Brm,Awh K⟩
def B16 (K:Nat):=xF Brm [(162,Brl K),(163,Bi9 K)] [] 12 [] [] [] [] [.tmp 4]
theorem Bvf (K:Nat):OkF 91 (Brn K):=
 Aa6 (x:=B16 K) (L:=[]) (c0:=bd Tryz.f91) (xkF (gC (Bve K) (gC (Bja K) gN)) oN) (by intro a0 a1;show @Eq _ _ _;kernel_rfl) kN Tryz.func91 trivial
def Auk (K:Nat)(a0:Ct):Option (Bool):=(bif (decide (a0.A5≥0))then some (decide (a0.C2≥1))else some false)
def Bro:Sig:=⟨[.v 34],[.v 4],true⟩
def Brp (K:Nat):Gb tyU:=⟨Bro,Auk K⟩
def B17 (K:Nat):=xF Bro [] [] 11 [5,6] [] [] [] [.tmp 2]
theorem Bvg (K:Nat):OkF 164 (Brp K):=
 Aa6 (x:=B17 K) (L:=[]) (c0:=bd Tryz.f164) (xkF gN oN) (by intro a0;show @Eq _ _ _;kernel_rfl) kN Tryz.func164 trivial
def Avk (K:Nat)(v2:List Int)(v3:Int)(v4:Int)(C1:(List Int)->Int->Int->Option (Bool)):Option (Bool):=(C1 v2 v3 (Aoa .i64 v4 1))
def Arr (K:Nat)(a0:List Ba)(r1:(List Int)):Nat->(List Int)->Int->Int->Option (Bool)
 |0,_,_,_=>none
 |n1+1,v2,v3,v4=>(bif (decide (v4<v3))then(if(0:Int)≤v4∧v4<(v2.length:Int)then(if(0:Int)≤(gt v2 v4)∧(gt v2 v4)<(a0.length:Int)then(bif (((gt a0 (gt v2 v4)).Hh) != 1)then some false else(bif (decide ((Aoa .i64 v4 1)<(r1.length:Int)))then(if(0:Int)≤(gt v2 v4)∧(gt v2 v4)<(a0.length:Int)then(if(0:Int)≤(Aoa .i64 v4 1)∧(Aoa .i64 v4 1)<(r1.length:Int)then(if(0:Int)≤(gt r1 (Aoa .i64 v4 1))∧(gt r1 (Aoa .i64 v4 1))<(a0.length:Int)then(bif (((gt a0 (gt v2 v4)).Gq) != ((gt a0 (gt r1 (Aoa .i64 v4 1))).Ly))then some false else(Avk K v2 v3 v4 (Arr K a0 r1 n1)))else none)else none)else none)else(Avk K v2 v3 v4 (Arr K a0 r1 n1))))else none)else none)else(bif (decide ((r1.length:Int)>0))then(if(0:Int)≤(Aob .i64 (r1.length:Int) 1)∧(Aob .i64 (r1.length:Int) 1)<(r1.length:Int)then(if(0:Int)≤(gt r1 (Aob .i64 (r1.length:Int) 1))∧(gt r1 (Aob .i64 (r1.length:Int) 1))<(a0.length:Int)then some (((gt a0 (gt r1 (Aob .i64 (r1.length:Int) 1))).fUp)==0)else none)else none)else some false))
def Aw9 (K:Nat)(a0:List Ba)(a1:Int):Option (Bool):=((Auw K a0 a1).bind fun r1=>(Arr K a0 r1 K r1 (r1.length:Int) 0))
def s_139:Sig:=⟨[.v 29,.v 3],[.v 4],true⟩
def Brq (K:Nat):Gb tyU:=⟨s_139,Aw9 K⟩
def Bdl (K:Nat):=xF s_139 [(232,Bdi K)] [] 63 [28,29,49,50] [] [] [467] [.tmp 4]
def A2g:E5:=⟨[(0,.v 29),(5,.v 26),(11,.v 26),(12,.v 2),(13,.v 2)],[]⟩
def Aws:E5:=⟨[(0,.v 29),(5,.v 26),(11,.v 26),(12,.v 2),(13,.v 2)],[]⟩
def A2h (K:Nat)(C58:CT Aws s_139)(q:PT A2g):Rt s_139:=Avk K q.2.2.1 q.2.2.2.1 q.2.2.2.2.1 (fun v2 v3 v4=>C58 (q.1,q.2.1,v2,v3,v4,()))
def Azp (K:Nat)(n:Nat)(q:PT Aws):Rt s_139:=Arr K q.1 q.2.1 n q.2.2.1 q.2.2.2.1 q.2.2.2.2.1
theorem Bex (K:Nat)(C58:CT Aws s_139):AtJ (Bdl K) [] [(58,ar Aws C58)] (bd Tryz.f165) 467 (A2h K C58):=fun q=>by kernel_rfl
theorem Bjb (K:Nat):AtL (Bdl K) (fun n=>[(467,ar A2g (A2h K (Azp K n)))]) [] (bd Tryz.f165) 58 (Azp K):=fun n q=>by kernel_rfl
theorem Bb8 (K:Nat):XF [.tmp 4] s_139 63 [467] (Bdl K):=xkF (gC (Bb1 K) gN) oN
theorem Bey (K:Nat)(C58:CT Aws s_139):CF [.tmp 4] s_139 63 [467] (bd Tryz.f165) [(58,ar Aws C58)] 467 (ar A2g (A2h K C58)):=
 Apg (Bb8 K) (Bex K C58) kN
theorem Bjc (K:Nat)(n:Nat):CF [.tmp 4] s_139 63 [467] (bd Tryz.f165) [] 58 (ar Aws (Azp K n)):=
 Aeg (Bb8 K) (Bjb K) (fun n=>(kC (Bey K (Azp K n)) kN)) n
theorem Bvh (K:Nat):OkF 165 (Brq K):=
 Aa6 (x:=Bdl K) (L:=[(58,ar Aws (Azp K K))]) (c0:=bd Tryz.f165) (Bb8 K) (by intro a0 a1;show @Eq _ _ _;kernel_rfl) (kC (Bjc K K) kN) Tryz.func165 trivial
def Aul (K:Nat)(a0:Eb)(a1:Ct):Option (Int×Int):=((Auk K a1).bind fun r1=>(bif (!r1)then some ((-1),1)else((As1 K a0.fL a1).bind fun r2=>(bif (decide (r2<0))then some ((-1),2)else((Aw9 K a0.fL r2).bind fun r3=>(bif (!r3)then some ((-1),2)else some (r2,0)))))))
def Brr:Sig:=⟨[.v 32,.v 34],[.v 3,.v 3],true⟩
def Brs (K:Nat):Gb tyU:=⟨Brr,Aul K⟩
def B18 (K:Nat):=xF Brr [(163,Bi9 K),(164,Brp K),(165,Brq K)] [] 24 [15,16] [] [] [] [.tmp 4,.tmp 5]
theorem Bvi (K:Nat):OkF 92 (Brs K):=
 Aa6 (x:=B18 K) (L:=[]) (c0:=bd Tryz.f92) (xkF (gC (Bja K) (gC (Bvg K) (gC (Bvh K) gN))) oN) (by intro a0 a1;show @Eq _ _ _;kernel_rfl) kN Tryz.func92 trivial
def Avl (K:Nat)(a0:Ba)(a1:Int):Option (Ax):=((Aen K a0.Dg).bind fun r1=>((Aen K a0.Ae).bind fun r2=>some (Ax.mk a1 a0.Bt r1 r2 0)))
def Brt:Sig:=⟨[.v 44,.v 3],[.n 159 true],true⟩
def Bru (K:Nat):Gb tyU:=⟨Brt,Avl K⟩
def B19 (K:Nat):=xF Brt [(160,Bbw K)] [] 15 [] [] [] [] [.cell 4 159]
theorem Bvj (K:Nat):OkF 172 (Bru K):=
 Aa6 (x:=B19 K) (L:=[]) (c0:=bd Tryz.f172) (xkF (gC (A6x K) gN) oN) (by intro a0 a1;show @Eq _ _ _;kernel_rfl) kN Tryz.func172 trivial
def As2 (K:Nat)(v3:Dw)(v4:Dw):Option (Dw):=some v3
def Axa (K:Nat)(a0:Dw)(a1:Int):Option (Dw):=((Asa K a0).bind fun r1=>((Ac1 K a1 0 (Aob .i64 (Aaf (a0.Hh.length:Int) (a0.Fz.length:Int)) 1)).bind fun r2=>(bif r2 then(if(0:Int)≤a1∧a1<(a0.Hh.length:Int)then(bif ((gt a0.Hh a1)==1)then(if(0:Int)≤a1∧a1<(r1.Hh.length:Int)then(if(0:Int)≤a1∧a1<(r1.Fz.length:Int)then(As2 K (Dw.mk r1.Fy (r1.Hh.set a1.toNat 2) (r1.Fz.set a1.toNat (-1))) (Dw.mk [] [] []))else none)else none)else(As2 K r1 (Dw.mk [] [] [])))else none)else(As2 K r1 (Dw.mk [] [] [])))))
def s_142:Sig:=⟨[.v 28,.v 3],[.n 28 true],true⟩
def Brv (K:Nat):Gb tyU:=⟨s_142,Axa K⟩
def Bjd (K:Nat):=xF s_142 [(88,A6b K),(158,Biz K)] [] 35 [17,18] [(4,[.take 105 0 6680,.take 105 1 6681,.take 105 2 6682])] [] [7] [.cell 4 28]
def A86:E5:=⟨[(4,.p 104),(5,.p 105)],[(105,.st 28 true),(104,.st 28 true)]⟩
def A87 (K:Nat)(q:PT A86):Rt s_142:=As2 K q.1 q.2.1
theorem Bom (K:Nat):AtJ (Bjd K) [] [] (bd Tryz.f243) 7 (A87 K):=fun q=>by kernel_rfl
theorem Bje (K:Nat):XF [.cell 4 28] s_142 35 [7] (Bjd K):=xkF (gC (A1a K) (gC (Bi0 K) gN)) oN
theorem Bon (K:Nat):CF [.cell 4 28] s_142 35 [7] (bd Tryz.f243) [] 7 (ar A86 (A87 K)):=
 Apg (Bje K) (Bom K) kN
theorem Bvk (K:Nat):OkF 243 (Brv K):=
 Aa6 (x:=Bjd K) (L:=[(7,ar A86 (A87 K))]) (c0:=bd Tryz.f243) (Bje K) (by intro a0 a1;show @Eq _ _ _;kernel_rfl) (kC (Bon K) kN) Tryz.func243 trivial
def Alb (K:Nat):Nat->(List Int)->Int->Int->Int->Int->Int->Int->Int->Int->(List Int)->(List Int)->(List Int)->Nat->(List Ax)->(List Int)->(List Ba)->Nat->Int->Int->Int->Int->Int->Int->Int->Int->Nat->Int->Int->(List A9)->(List Int)->Option (Eb)
 |0,_,_,_,_,_,_,_,_,_,_,_,_,_,_,_,_,_,_,_,_,_,_,_,_,_,_,_,_,_,_=>none
 |n1+1,v1,v2,v3,v4,v5,v6,v7,v8,v9,v10,v11,v12,v13,v14,v15,v16,v17,v18,v19,v20,v21,v22,v23,v24,v25,v26,v27,v28,v29,v30=>(bif (decide (v3<v2))then(if(0:Int)≤v3∧v3<(v1.length:Int)then((Axa K (Dw.mk v10 v11 v12) (gt v1 v3)).bind fun r31=>(Alb K n1 v1 v2 (Aoa .i64 v3 1) v4 v5 v6 v7 v8 v9 r31.Fy r31.Hh r31.Fz v13 v14 v15 v16 ((v17:Int).toNat) v18 v19 v20 v21 v22 v23 v24 v25 v26 v27 v28 v29 v30))else none)else some (Eb.mk (Er.mk v4 v5 v6 v7 v8 v9) (Dw.mk v10 v11 v12) (v16.set (v17:Int).toNat (Ba.mk v18 v19 v20 v21 v22 v23 v24 v25 v1 v27 v28 v29 v30)) v14 v15))
def Ar0 (K:Nat)(a0:Eb)(a1:Int):Option (Eb):=(if(0:Int)≤a1∧a1<(a0.fL.length:Int)then(if(0:Int)≤a1∧a1<(a0.fL.length:Int)then(Alb K K ((gt a0.fL a1).Ae) (((gt a0.fL a1).Ae).length:Int) 0 a0.fC.Ae a0.fC.Eg a0.fC.C0 a0.fC.E9 a0.fC.C1 a0.fC.Eh a0.fP.Fy a0.fP.Hh a0.fP.Fz a0.fL.length a0.fQ a0.Pr a0.fL a1.toNat ((gt a0.fL a1).Hh) ((gt a0.fL a1).C2) ((gt a0.fL a1).Ly) ((gt a0.fL a1).fUp) ((gt a0.fL a1).Gq) ((gt a0.fL a1).Bt) ((gt a0.fL a1).Gr) ((gt a0.fL a1).Gs) (((gt a0.fL a1).Ae).length) ((gt a0.fL a1).Pq) ((gt a0.fL a1).Gt) ((gt a0.fL a1).Ea) ((gt a0.fL a1).Dg))else none)else none)
def s_143:Sig:=⟨[.b 32 true,.v 3],[],true⟩
def Brw (K:Nat):Gb tyU:=⟨s_143,Ar0 K⟩
def Bjf (K:Nat):=xF s_143 [(243,Brv K)] [] 29 [] [(0,[.take 1 9 5025,.opn 5025 (.tmp 1),.takeE 5025 8 41608]),(3,[.take 1 6 5022,.take 1 7 5023,.take 1 8 5024])] [] [] []
def A88:E5:=⟨[(0,.p 1),(13,.o 41608 3 true),(14,.v 2),(15,.v 2)],[(1,.ob [.v 2,.v 2,.v 2,.v 2,.v 2,.v 2,.T 5 true,.T 3 true,.T 3 true,.O 5025,.T 159 true,.T 3 true]),(5025,.opn 44 true [.v 2,.v 2,.v 2,.v 2,.v 2,.v 2,.v 2,.v 2,.O 41608,.v 2,.v 2,.T 89 true,.T 3 true])]⟩
def A89 (K:Nat)(n:Nat)(q:PT A88):Rt s_143:=Alb K n q.1 q.2.1 q.2.2.1 q.2.2.2.1 q.2.2.2.2.1 q.2.2.2.2.2.1 q.2.2.2.2.2.2.1 q.2.2.2.2.2.2.2.1 q.2.2.2.2.2.2.2.2.1 q.2.2.2.2.2.2.2.2.2.1 q.2.2.2.2.2.2.2.2.2.2.1 q.2.2.2.2.2.2.2.2.2.2.2.1 q.2.2.2.2.2.2.2.2.2.2.2.2.1 q.2.2.2.2.2.2.2.2.2.2.2.2.2.1 q.2.2.2.2.2.2.2.2.2.2.2.2.2.2.1 q.2.2.2.2.2.2.2.2.2.2.2.2.2.2.2.1 q.2.2.2.2.2.2.2.2.2.2.2.2.2.2.2.2.1 q.2.2.2.2.2.2.2.2.2.2.2.2.2.2.2.2.2.1 q.2.2.2.2.2.2.2.2.2.2.2.2.2.2.2.2.2.2.1 q.2.2.2.2.2.2.2.2.2.2.2.2.2.2.2.2.2.2.2.1 q.2.2.2.2.2.2.2.2.2.2.2.2.2.2.2.2.2.2.2.2.1 q.2.2.2.2.2.2.2.2.2.2.2.2.2.2.2.2.2.2.2.2.2.1 q.2.2.2.2.2.2.2.2.2.2.2.2.2.2.2.2.2.2.2.2.2.2.1 q.2.2.2.2.2.2.2.2.2.2.2.2.2.2.2.2.2.2.2.2.2.2.2.1 q.2.2.2.2.2.2.2.2.2.2.2.2.2.2.2.2.2.2.2.2.2.2.2.2.1 q.2.2.2.2.2.2.2.2.2.2.2.2.2.2.2.2.2.2.2.2.2.2.2.2.2.1 q.2.2.2.2.2.2.2.2.2.2.2.2.2.2.2.2.2.2.2.2.2.2.2.2.2.2.1 q.2.2.2.2.2.2.2.2.2.2.2.2.2.2.2.2.2.2.2.2.2.2.2.2.2.2.2.1 q.2.2.2.2.2.2.2.2.2.2.2.2.2.2.2.2.2.2.2.2.2.2.2.2.2.2.2.2.1 q.2.2.2.2.2.2.2.2.2.2.2.2.2.2.2.2.2.2.2.2.2.2.2.2.2.2.2.2.2.1
theorem Boo (K:Nat):AtL (Bjf K) (fun n=>[]) [] (bd Tryz.f173) 6 (A89 K):=fun n q=>by kernel_rfl
theorem Bjg (K:Nat):XF [] s_143 29 [] (Bjf K):=xkF (gC (Bvk K) gN) oN
theorem Bop (K:Nat)(n:Nat):CF [] s_143 29 [] (bd Tryz.f173) [] 6 (ar A88 (A89 K n)):=
 Aeg (Bjg K) (Boo K) (fun n=>kN) n
theorem Bvl (K:Nat):OkF 173 (Brw K):=
 Aa6 (x:=Bjf K) (L:=[(6,ar A88 (A89 K K))]) (c0:=bd Tryz.f173) (Bjg K) (by intro a0 a1;show @Eq _ _ _;kernel_rfl) (kC (Bop K K) kN) Tryz.func173 trivial
def Axh (K:Nat)(a0:Ba):Option (Ba):=some (Ba.mk a0.Hh a0.C2 (Aoa .i64 a0.Ly 1) a0.fUp a0.Gq 0 a0.Gr a0.Gs [] 0 0 [] [])
def Brx:Sig:=⟨[.v 44],[.n 44 true],true⟩
def Bry (K:Nat):Gb tyU:=⟨Brx,Axh K⟩
def B2a (K:Nat):=xF Brx [] [] 19 [] [] [] [] [.cell 2 44]
theorem Bvm (K:Nat):OkF 174 (Bry K):=
 Aa6 (x:=B2a K) (L:=[]) (c0:=bd Tryz.f174) (xkF gN oN) (by intro a0;show @Eq _ _ _;kernel_rfl) kN Tryz.func174 trivial
def Avm (K:Nat)(a0:Eb)(a1:Int):Option (Eb):=((Aqe K a0).bind fun r1=>((Anh K a0.fL a1).bind fun r2=>(bif r2 then(if(0:Int)≤a1∧a1<(a0.fL.length:Int)then(bif (((gt a0.fL a1).Hh) != 1)then some r1 else(if(0:Int)≤a1∧a1<(a0.fL.length:Int)then((Avl K (gt a0.fL a1) 0).bind fun r3=>(if(r1.fQ.length+1)*72≤140737488355328∧r1.fQ.length+1≤maxLen then((Ar0 K (Eb.mk r1.fC r1.fP r1.fL ((r1.fQ++[(default:Ax)]).set (r1.fQ.length:Int).toNat r3) r1.Pr) a1).bind fun r4=>(if(0:Int)≤a1∧a1<(r4.fL.length:Int)then(if(0:Int)≤a1∧a1<(r4.fL.length:Int)then((Axh K (gt r4.fL a1)).bind fun r5=>(if(0:Int)≤a1∧a1<(r4.fL.length:Int)then some (Eb.mk r4.fC r4.fP (r4.fL.set a1.toNat r5) r4.fQ r4.Pr)else none))else none)else none))else none))else none))else none)else some r1)))
def Brz:Sig:=⟨[.v 32,.v 3],[.n 32 true],true⟩
def Br0 (K:Nat):Gb tyU:=⟨Brz,Avm K⟩
def B2b (K:Nat):=xF Brz [(90,Bdk K),(171,A2q K),(172,Bru K),(173,Brw K),(174,Bry K)] [] 47 [11,12,13] [(5,[.put 105]),(6,[.take 105 9 6689,.opn 6689 (.tmp 1),.takeE 6689 8 84104,.takeE 6689 11 84107,.takeE 6689 12 84108]),(7,[.take 105 6 6686,.take 105 7 6687,.take 105 8 6688,.take 105 10 6690,.take 105 11 6691])] [] [] [.cell 4 32]
theorem Bvn (K:Nat):OkF 103 (Br0 K):=
 Aa6 (x:=B2b K) (L:=[]) (c0:=bd Tryz.f103) (xkF (gC (Bb7 K) (gC (A0f K) (gC (Bvj K) (gC (Bvl K) (gC (Bvm K) gN))))) oN) (by intro a0 a1;show @Eq _ _ _;kernel_rfl) kN Tryz.func103 trivial
def Aqt (K:Nat)(a0:Eb)(a1:Ct):Option (Eb×Fh):=((Avj K a0).bind fun r1=>(bif (!r1)then((Axg K a0 1).bind fun r2=>some (r2.1,r2.2))else((Awh K a0 a1).bind fun r3=>((Aul K a0 a1).bind fun r4=>(bif (r4.2 != 0)then((Aqe K a0).bind fun r5=>some (r5,(Fh.mk r4.2 (Ct.mk 0 0) (Fg.mk (Ct.mk 0 0) 0 0) [] r3 0 0)))else((Avm K a0 r4.1).bind fun r6=>some (r6,(Fh.mk r4.2 (Ct.mk 0 0) (Fg.mk (Ct.mk 0 0) 0 0) [] r3 0 0))))))))
def Br1:Sig:=⟨[.v 32,.v 34,.f 103 [] []],[.n 32 true,.n 69 true],true⟩
def Br2 (K:Nat):Gb tyU:=⟨Br1,Aqt K⟩
def B2c (K:Nat):=xF Br1 [(87,Bq6 K),(89,Bri K),(90,Bdk K),(91,Brn K),(92,Brs K),(103,Br0 K)] [] 40 [] [(7,[.take 108 7 6735]),(8,[.take 108 7 6735])] [] [] [.cell 6 32,.cell 7 69]
theorem Bvo (K:Nat):OkF 102 (Br2 K):=
 Aa6 (x:=B2c K) (L:=[]) (c0:=bd Tryz.f102) (xkF (gC (Bu7 K) (gC (Bvd K) (gC (Bb7 K) (gC (Bvf K) (gC (Bvi K) (gC (Bvn K) gN)))))) oN) (by intro a0 a1;show @Eq _ _ _;kernel_rfl) kN Tryz.func102 trivial
def Avn (K:Nat)(a0:Eb)(a1:Ct):Option (Eb×Fh):=((Aqt K a0 a1).bind fun r1=>some (r1.1,r1.2))
def Br3:Sig:=⟨[.v 32,.v 34],[.n 32 true,.n 69 true],true⟩
def Br4 (K:Nat):Gb tyU:=⟨Br3,Avn K⟩
def B2d (K:Nat):=xF Br3 [(102,Br2 K)] [] 11 [] [] [] [] [.cell 4 32,.cell 5 69]
theorem Bvp (K:Nat):OkF 40 (Br4 K):=
 Aa6 (x:=B2d K) (L:=[]) (c0:=bd Tryz.f40) (xkF (gC (Bvo K) gN) oN) (by intro a0 a1;show @Eq _ _ _;kernel_rfl) kN Tryz.func40 trivial
def Ayd (K:Nat)(a0:Er)(a1:Er):Option (Bool):=(bif (a0.Ae != a1.Ae)then some false else(bif (a0.Eg != a1.Eg)then some false else(bif (a0.C0 != a1.C0)then some false else(bif (a0.E9 != a1.E9)then some false else(bif (a0.C1 != a1.C1)then some false else(bif (a0.Eh != a1.Eh)then some false else some true))))))
def Br5:Sig:=⟨[.v 25,.v 25],[.v 4],true⟩
def Br6 (K:Nat):Gb tyU:=⟨Br5,Ayd K⟩
def B2e (K:Nat):=xF Br5 [] [] 35 [] [] [] [] [.tmp 4]
theorem Bvq (K:Nat):OkF 71 (Br6 K):=
 Aa6 (x:=B2e K) (L:=[]) (c0:=bd Tryz.f71) (xkF gN oN) (by intro a0 a1;show @Eq _ _ _;kernel_rfl) kN Tryz.func71 trivial
def Atk (K:Nat)(a0:List Int)(a1:List Int):Nat->Int->Option (Bool)
 |0,_=>none
 |n1+1,v1=>(bif (decide (v1<(a0.length:Int)))then(if(0:Int)≤v1∧v1<(a0.length:Int)then(if(0:Int)≤v1∧v1<(a1.length:Int)then(bif ((gt a0 v1) != (gt a1 v1))then some false else(Atk K a0 a1 n1 (Aoa .i64 v1 1)))else none)else none)else some true)
def As3 (K:Nat)(a0:List Int)(a1:List Int):Option (Bool):=(bif ((a0.length:Int) != (a1.length:Int))then some false else(Atk K a0 a1 K 0))
def s_149:Sig:=⟨[.v 22,.v 22],[.v 4],true⟩
def Bjh (K:Nat):Gb tyU:=⟨s_149,As3 K⟩
def Bji (K:Nat):=xF s_149 [] [] 26 [] [] [] [] [.tmp 4]
def A4n:E5:=⟨[(0,.v 22),(1,.v 22),(5,.v 2)],[]⟩
def A4o (K:Nat)(n:Nat)(q:PT A4n):Rt s_149:=Atk K q.1 q.2.1 n q.2.2.1
theorem Bjj (K:Nat):AtL (Bji K) (fun n=>[]) [] (bd Tryz.f27) 58 (A4o K):=fun n q=>by kernel_rfl
theorem Bjk (K:Nat):XF [.tmp 4] s_149 26 [] (Bji K):=xkF gN oN
theorem Bjl (K:Nat)(n:Nat):CF [.tmp 4] s_149 26 [] (bd Tryz.f27) [] 58 (ar A4n (A4o K n)):=
 Aeg (Bjk K) (Bjj K) (fun n=>kN) n
theorem Bjm (K:Nat):OkF 27 (Bjh K):=
 Aa6 (x:=Bji K) (L:=[(58,ar A4n (A4o K K))]) (c0:=bd Tryz.f27) (Bjk K) (by intro a0 a1;show @Eq _ _ _;kernel_rfl) (kC (Bjl K K) kN) Tryz.func27 trivial
def Aum (K:Nat)(a0:List Int)(a1:List Int):Nat->Int->Option (Bool)
 |0,_=>none
 |n1+1,v1=>(bif (decide (v1<(a0.length:Int)))then(if(0:Int)≤v1∧v1<(a0.length:Int)then(if(0:Int)≤v1∧v1<(a1.length:Int)then(bif ((gt a0 v1) != (gt a1 v1))then some false else(Aum K a0 a1 n1 (Aoa .i64 v1 1)))else none)else none)else some true)
def Aou (K:Nat)(a0:List Int)(a1:List Int):Option (Bool):=(bif ((a0.length:Int) != (a1.length:Int))then some false else(Aum K a0 a1 K 0))
def s_150:Sig:=⟨[.v 26,.v 26],[.v 4],true⟩
def Bal (K:Nat):Gb tyU:=⟨s_150,Aou K⟩
def Bjn (K:Nat):=xF s_150 [] [] 26 [] [] [] [] [.tmp 4]
def A4p:E5:=⟨[(0,.v 26),(1,.v 26),(5,.v 2)],[]⟩
def A4q (K:Nat)(n:Nat)(q:PT A4p):Rt s_150:=Aum K q.1 q.2.1 n q.2.2.1
theorem Bjo (K:Nat):AtL (Bjn K) (fun n=>[]) [] (bd Tryz.f75) 58 (A4q K):=fun n q=>by kernel_rfl
theorem Bjp (K:Nat):XF [.tmp 4] s_150 26 [] (Bjn K):=xkF gN oN
theorem Bjq (K:Nat)(n:Nat):CF [.tmp 4] s_150 26 [] (bd Tryz.f75) [] 58 (ar A4p (A4q K n)):=
 Aeg (Bjp K) (Bjo K) (fun n=>kN) n
theorem A9a (K:Nat):OkF 75 (Bal K):=
 Aa6 (x:=Bjn K) (L:=[(58,ar A4p (A4q K K))]) (c0:=bd Tryz.f75) (Bjp K) (by intro a0 a1;show @Eq _ _ _;kernel_rfl) (kC (Bjq K K) kN) Tryz.func75 trivial
def Aye (K:Nat)(a0:Dw)(a1:Dw):Option (Bool):=((As3 K a0.Fy a1.Fy).bind fun r1=>(bif (!r1)then some false else((Aou K a0.Hh a1.Hh).bind fun r2=>(bif (!r2)then some false else((Aou K a0.Fz a1.Fz).bind fun r3=>(bif (!r3)then some false else some true))))))
def Br7:Sig:=⟨[.v 28,.v 28],[.v 4],true⟩
def Br8 (K:Nat):Gb tyU:=⟨Br7,Aye K⟩
def B2f (K:Nat):=xF Br7 [(27,Bjh K),(75,Bal K)] [] 23 [] [] [] [] [.tmp 4]
theorem Bvr (K:Nat):OkF 72 (Br8 K):=
 Aa6 (x:=B2f K) (L:=[]) (c0:=bd Tryz.f72) (xkF (gC (Bjm K) (gC (A9a K) gN)) oN) (by intro a0 a1;show @Eq _ _ _;kernel_rfl) kN Tryz.func72 trivial
def As4 (K:Nat)(a0:A9)(a1:A9):Option (Bool):=(bif (a0.fAt != a1.fAt)then some false else(bif (a0.Vu != a1.Vu)then some false else(bif (a0.Vv != a1.Vv)then some false else some true)))
def Br9:Sig:=⟨[.v 89,.v 89],[.v 4],true⟩
def Bsa (K:Nat):Gb tyU:=⟨Br9,As4 K⟩
def B2g (K:Nat):=xF Br9 [] [] 20 [] [] [] [] [.tmp 4]
theorem Bvs (K:Nat):OkF 263 (Bsa K):=
 Aa6 (x:=B2g K) (L:=[]) (c0:=bd Tryz.f263) (xkF gN oN) (by intro a0 a1;show @Eq _ _ _;kernel_rfl) kN Tryz.func263 trivial
def Aq4 (K:Nat)(a0:List A9)(a1:List A9):Nat->Int->Option (Bool)
 |0,_=>none
 |n1+1,v1=>(bif (decide (v1<(a0.length:Int)))then(if(0:Int)≤v1∧v1<(a0.length:Int)then(if(0:Int)≤v1∧v1<(a1.length:Int)then((As4 K (gt a0 v1) (gt a1 v1)).bind fun r2=>(bif (!r2)then some false else(Aq4 K a0 a1 n1 (Aoa .i64 v1 1))))else none)else none)else some true)
def Aun (K:Nat)(a0:List A9)(a1:List A9):Option (Bool):=(bif ((a0.length:Int) != (a1.length:Int))then some false else(Aq4 K a0 a1 K 0))
def s_153:Sig:=⟨[.v 41,.v 41],[.v 4],true⟩
def Bsb (K:Nat):Gb tyU:=⟨s_153,Aun K⟩
def Bjr (K:Nat):=xF s_153 [(263,Bsa K)] [] 27 [] [] [] [] [.tmp 4]
def A4r:E5:=⟨[(0,.v 41),(1,.v 41),(5,.v 2)],[]⟩
def A4s (K:Nat)(n:Nat)(q:PT A4r):Rt s_153:=Aq4 K q.1 q.2.1 n q.2.2.1
theorem Bjs (K:Nat):AtL (Bjr K) (fun n=>[]) [] (bd Tryz.f208) 58 (A4s K):=fun n q=>by kernel_rfl
theorem Bjt (K:Nat):XF [.tmp 4] s_153 27 [] (Bjr K):=xkF (gC (Bvs K) gN) oN
theorem Bju (K:Nat)(n:Nat):CF [.tmp 4] s_153 27 [] (bd Tryz.f208) [] 58 (ar A4r (A4s K n)):=
 Aeg (Bjt K) (Bjs K) (fun n=>kN) n
theorem Bvt (K:Nat):OkF 208 (Bsb K):=
 Aa6 (x:=Bjr K) (L:=[(58,ar A4r (A4s K K))]) (c0:=bd Tryz.f208) (Bjt K) (by intro a0 a1;show @Eq _ _ _;kernel_rfl) (kC (Bju K K) kN) Tryz.func208 trivial
def At0 (K:Nat)(a0:Ba)(a1:Ba):Option (Bool):=(bif (a0.Hh != a1.Hh)then some false else(bif (a0.C2 != a1.C2)then some false else(bif (a0.Ly != a1.Ly)then some false else(bif (a0.fUp != a1.fUp)then some false else(bif (a0.Gq != a1.Gq)then some false else(bif (a0.Bt != a1.Bt)then some false else(bif (a0.Gr != a1.Gr)then some false else(bif (a0.Gs != a1.Gs)then some false else((Aou K a0.Ae a1.Ae).bind fun r1=>(bif (!r1)then some false else(bif (a0.Pq != a1.Pq)then some false else(bif (a0.Gt != a1.Gt)then some false else((Aun K a0.Ea a1.Ea).bind fun r2=>(bif (!r2)then some false else((Aou K a0.Dg a1.Dg).bind fun r3=>(bif (!r3)then some false else some true))))))))))))))))
def Bsc:Sig:=⟨[.v 44,.v 44],[.v 4],true⟩
def Bsd (K:Nat):Gb tyU:=⟨Bsc,At0 K⟩
def B2h (K:Nat):=xF Bsc [(75,Bal K),(208,Bsb K)] [] 73 [] [] [] [] [.tmp 4]
theorem Bvu (K:Nat):OkF 134 (Bsd K):=
 Aa6 (x:=B2h K) (L:=[]) (c0:=bd Tryz.f134) (xkF (gC (A9a K) (gC (Bvt K) gN)) oN) (by intro a0 a1;show @Eq _ _ _;kernel_rfl) kN Tryz.func134 trivial
def Ars (K:Nat)(a0:List Ba)(a1:List Ba):Nat->Int->Option (Bool)
 |0,_=>none
 |n1+1,v1=>(bif (decide (v1<(a0.length:Int)))then(if(0:Int)≤v1∧v1<(a0.length:Int)then(if(0:Int)≤v1∧v1<(a1.length:Int)then((At0 K (gt a0 v1) (gt a1 v1)).bind fun r2=>(bif (!r2)then some false else(Ars K a0 a1 n1 (Aoa .i64 v1 1))))else none)else none)else some true)
def Avo (K:Nat)(a0:List Ba)(a1:List Ba):Option (Bool):=(bif ((a0.length:Int) != (a1.length:Int))then some false else(Ars K a0 a1 K 0))
def s_155:Sig:=⟨[.v 29,.v 29],[.v 4],true⟩
def Bse (K:Nat):Gb tyU:=⟨s_155,Avo K⟩
def Bjv (K:Nat):=xF s_155 [(134,Bsd K)] [] 27 [] [] [] [] [.tmp 4]
def A4t:E5:=⟨[(0,.v 29),(1,.v 29),(5,.v 2)],[]⟩
def A4u (K:Nat)(n:Nat)(q:PT A4t):Rt s_155:=Ars K q.1 q.2.1 n q.2.2.1
theorem Bjw (K:Nat):AtL (Bjv K) (fun n=>[]) [] (bd Tryz.f73) 58 (A4u K):=fun n q=>by kernel_rfl
theorem Bjx (K:Nat):XF [.tmp 4] s_155 27 [] (Bjv K):=xkF (gC (Bvu K) gN) oN
theorem Bjy (K:Nat)(n:Nat):CF [.tmp 4] s_155 27 [] (bd Tryz.f73) [] 58 (ar A4t (A4u K n)):=
 Aeg (Bjx K) (Bjw K) (fun n=>kN) n
theorem Bvv (K:Nat):OkF 73 (Bse K):=
 Aa6 (x:=Bjv K) (L:=[(58,ar A4t (A4u K K))]) (c0:=bd Tryz.f73) (Bjx K) (by intro a0 a1;show @Eq _ _ _;kernel_rfl) (kC (Bjy K K) kN) Tryz.func73 trivial
def As5 (K:Nat)(a0:Ax)(a1:Ax):Option (Bool):=(bif (a0.A5 != a1.A5)then some false else(bif (a0.Bt != a1.Bt)then some false else((Aou K a0.Dg a1.Dg).bind fun r1=>(bif (!r1)then some false else((Aou K a0.Ae a1.Ae).bind fun r2=>(bif (!r2)then some false else(bif (a0.Gu != a1.Gu)then some false else some true)))))))
def Bsf:Sig:=⟨[.v 159,.v 159],[.v 4],true⟩
def Bsg (K:Nat):Gb tyU:=⟨Bsf,As5 K⟩
def B2i (K:Nat):=xF Bsf [(75,Bal K)] [] 32 [] [] [] [] [.tmp 4]
theorem Bvw (K:Nat):OkF 135 (Bsg K):=
 Aa6 (x:=B2i K) (L:=[]) (c0:=bd Tryz.f135) (xkF (gC (A9a K) gN) oN) (by intro a0 a1;show @Eq _ _ _;kernel_rfl) kN Tryz.func135 trivial
def Aq5 (K:Nat)(a0:List Ax)(a1:List Ax):Nat->Int->Option (Bool)
 |0,_=>none
 |n1+1,v1=>(bif (decide (v1<(a0.length:Int)))then(if(0:Int)≤v1∧v1<(a0.length:Int)then(if(0:Int)≤v1∧v1<(a1.length:Int)then((As5 K (gt a0 v1) (gt a1 v1)).bind fun r2=>(bif (!r2)then some false else(Aq5 K a0 a1 n1 (Aoa .i64 v1 1))))else none)else none)else some true)
def Auo (K:Nat)(a0:List Ax)(a1:List Ax):Option (Bool):=(bif ((a0.length:Int) != (a1.length:Int))then some false else(Aq5 K a0 a1 K 0))
def s_157:Sig:=⟨[.v 30,.v 30],[.v 4],true⟩
def Bsh (K:Nat):Gb tyU:=⟨s_157,Auo K⟩
def Bjz (K:Nat):=xF s_157 [(135,Bsg K)] [] 27 [] [] [] [] [.tmp 4]
def A4v:E5:=⟨[(0,.v 30),(1,.v 30),(5,.v 2)],[]⟩
def A4w (K:Nat)(n:Nat)(q:PT A4v):Rt s_157:=Aq5 K q.1 q.2.1 n q.2.2.1
theorem Bj0 (K:Nat):AtL (Bjz K) (fun n=>[]) [] (bd Tryz.f74) 58 (A4w K):=fun n q=>by kernel_rfl
theorem Bj1 (K:Nat):XF [.tmp 4] s_157 27 [] (Bjz K):=xkF (gC (Bvw K) gN) oN
theorem Bj2 (K:Nat)(n:Nat):CF [.tmp 4] s_157 27 [] (bd Tryz.f74) [] 58 (ar A4v (A4w K n)):=
 Aeg (Bj1 K) (Bj0 K) (fun n=>kN) n
theorem Bvx (K:Nat):OkF 74 (Bsh K):=
 Aa6 (x:=Bjz K) (L:=[(58,ar A4v (A4w K K))]) (c0:=bd Tryz.f74) (Bj1 K) (by intro a0 a1;show @Eq _ _ _;kernel_rfl) (kC (Bj2 K K) kN) Tryz.func74 trivial
def Aqk (K:Nat)(a0:Eb)(a1:Eb):Option (Bool):=((Ayd K a0.fC a1.fC).bind fun r1=>(bif (!r1)then some false else((Aye K a0.fP a1.fP).bind fun r2=>(bif (!r2)then some false else((Avo K a0.fL a1.fL).bind fun r3=>(bif (!r3)then some false else((Auo K a0.fQ a1.fQ).bind fun r4=>(bif (!r4)then some false else((Aou K a0.Pr a1.Pr).bind fun r5=>(bif (!r5)then some false else some true))))))))))
def Bsi:Sig:=⟨[.v 32,.v 32],[.v 4],true⟩
def Bsj (K:Nat):Gb tyU:=⟨Bsi,Aqk K⟩
def B2j (K:Nat):=xF Bsi [(71,Br6 K),(72,Br8 K),(73,Bse K),(74,Bsh K),(75,Bal K)] [] 35 [] [] [] [] [.tmp 4]
theorem Bvy (K:Nat):OkF 23 (Bsj K):=
 Aa6 (x:=B2j K) (L:=[]) (c0:=bd Tryz.f23) (xkF (gC (Bvq K) (gC (Bvr K) (gC (Bvv K) (gC (Bvx K) (gC (A9a K) gN))))) oN) (by intro a0 a1;show @Eq _ _ _;kernel_rfl) kN Tryz.func23 trivial
def Aup (K:Nat)(a0:Ct)(a1:Ct):Option (Bool):=(bif (a0.A5 != a1.A5)then some false else(bif (a0.C2 != a1.C2)then some false else some true))
def Bsk:Sig:=⟨[.v 34,.v 34],[.v 4],true⟩
def Bj3 (K:Nat):Gb tyU:=⟨Bsk,Aup K⟩
def B2k (K:Nat):=xF Bsk [] [] 15 [] [] [] [] [.tmp 4]
theorem Bj4 (K:Nat):OkF 93 (Bj3 K):=
 Aa6 (x:=B2k K) (L:=[]) (c0:=bd Tryz.f93) (xkF gN oN) (by intro a0 a1;show @Eq _ _ _;kernel_rfl) kN Tryz.func93 trivial
def Ayx (K:Nat)(a0:Fg)(a1:Fg):Option (Bool):=((Aup K a0.fH a1.fH).bind fun r1=>(bif (!r1)then some false else(bif (a0.Ly != a1.Ly)then some false else(bif (a0.fNo != a1.fNo)then some false else some true))))
def Bsl:Sig:=⟨[.v 36,.v 36],[.v 4],true⟩
def Bsm (K:Nat):Gb tyU:=⟨Bsl,Ayx K⟩
def B2l (K:Nat):=xF Bsl [(93,Bj3 K)] [] 21 [] [] [] [] [.tmp 4]
theorem Bvz (K:Nat):OkF 94 (Bsm K):=
 Aa6 (x:=B2l K) (L:=[]) (c0:=bd Tryz.f94) (xkF (gC (Bj4 K) gN) oN) (by intro a0 a1;show @Eq _ _ _;kernel_rfl) kN Tryz.func94 trivial
def Atl (K:Nat)(a0:Fh)(a1:Fh):Option (Bool):=(bif (a0.W9 != a1.W9)then some false else((Aup K a0.fH a1.fH).bind fun r1=>(bif (!r1)then some false else((Ayx K a0.fR a1.fR).bind fun r2=>(bif (!r2)then some false else((As3 K a0.fB a1.fB).bind fun r3=>(bif (!r3)then some false else(bif (a0.Xa != a1.Xa)then some false else(bif (a0.E9 != a1.E9)then some false else(bif (a0.Ps != a1.Ps)then some false else some true))))))))))
def Bsn:Sig:=⟨[.v 69,.v 69],[.v 4],true⟩
def Bso (K:Nat):Gb tyU:=⟨Bsn,Atl K⟩
def B2m (K:Nat):=xF Bsn [(27,Bjh K),(93,Bj3 K),(94,Bsm K)] [] 43 [] [] [] [] [.tmp 4]
theorem Bv0 (K:Nat):OkF 33 (Bso K):=
 Aa6 (x:=B2m K) (L:=[]) (c0:=bd Tryz.f33) (xkF (gC (Bjm K) (gC (Bj4 K) (gC (Bvz K) gN))) oN) (by intro a0 a1;show @Eq _ _ _;kernel_rfl) kN Tryz.func33 trivial
def Aqm (K:Nat):Nat->(List Int)->Int->Int->Option (Int×(List Int))
 |0,_,_,_=>none
 |n1+1,v1,v2,v3=>(bif (decide (v3<(v1.length:Int)))then(if(0:Int)≤v3∧v3<(v1.length:Int)then(Aqm K n1 (v1.set v3.toNat (IntKind.u8.wrap v2)) (Aoa .i64 v2 1) (Aoa .i64 v3 1))else none)else some (v2,v1))
def Art (K:Nat)(a0:List Int)(a1:Int):Option (Int×(List Int)):=(Aqm K K a0 a1 0)
def s_162:Sig:=⟨[.w 22 true [(5,true)],.v 3],[.v 3],true⟩
def Bj5 (K:Nat):Gb tyU:=⟨s_162,Art K⟩
def Bj6 (K:Nat):=xF s_162 [] [] 20 [] [] [] [] [.tmp 4]
def A4x:E5:=⟨[(0,.o 1 5 true),(1,.v 2),(5,.v 2)],[]⟩
def A4y (K:Nat)(n:Nat)(q:PT A4x):Rt s_162:=Aqm K n q.1 q.2.1 q.2.2.1
theorem Bj7 (K:Nat):AtL (Bj6 K) (fun n=>[]) [] (bd Tryz.f29) 26 (A4y K):=fun n q=>by kernel_rfl
theorem Bj8 (K:Nat):XF [.tmp 4] s_162 20 [] (Bj6 K):=xkF gN oN
theorem Bj9 (K:Nat)(n:Nat):CF [.tmp 4] s_162 20 [] (bd Tryz.f29) [] 26 (ar A4x (A4y K n)):=
 Aeg (Bj8 K) (Bj7 K) (fun n=>kN) n
theorem Bka (K:Nat):OkF 29 (Bj5 K):=
 Aa6 (x:=Bj6 K) (L:=[(26,ar A4x (A4y K K))]) (c0:=bd Tryz.f29) (Bj8 K) (by intro a0 a1;show @Eq _ _ _;kernel_rfl) (kC (Bj9 K K) kN) Tryz.func29 ⟨fun _=>rfl,trivial⟩
def Aq6 (K:Nat):Nat->(List Int)->Int->Int->Option (Int×(List Int))
 |0,_,_,_=>none
 |n1+1,v1,v2,v3=>(bif (decide (v3<(v1.length:Int)))then(if(0:Int)≤v3∧v3<(v1.length:Int)then(Aq6 K n1 (v1.set v3.toNat v2) (Aoa .i64 v2 1) (Aoa .i64 v3 1))else none)else some (v2,v1))
def Ald (K:Nat)(a0:List Int)(a1:Int):Option (Int×(List Int)):=(Aq6 K K a0 a1 0)
def s_163:Sig:=⟨[.w 26 true [(3,true)],.v 3],[.v 3],true⟩
def Bam (K:Nat):Gb tyU:=⟨s_163,Ald K⟩
def Bkb (K:Nat):=xF s_163 [] [] 19 [] [] [] [] [.tmp 4]
def A4z:E5:=⟨[(0,.o 1 3 true),(1,.v 2),(5,.v 2)],[]⟩
def A40 (K:Nat)(n:Nat)(q:PT A4z):Rt s_163:=Aq6 K n q.1 q.2.1 q.2.2.1
theorem Bkc (K:Nat):AtL (Bkb K) (fun n=>[]) [] (bd Tryz.f81) 26 (A40 K):=fun n q=>by kernel_rfl
theorem Bkd (K:Nat):XF [.tmp 4] s_163 19 [] (Bkb K):=xkF gN oN
theorem Bke (K:Nat)(n:Nat):CF [.tmp 4] s_163 19 [] (bd Tryz.f81) [] 26 (ar A4z (A40 K n)):=
 Aeg (Bkd K) (Bkc K) (fun n=>kN) n
theorem A9b (K:Nat):OkF 81 (Bam K):=
 Aa6 (x:=Bkb K) (L:=[(26,ar A4z (A40 K K))]) (c0:=bd Tryz.f81) (Bkd K) (by intro a0 a1;show @Eq _ _ _;kernel_rfl) (kC (Bke K K) kN) Tryz.func81 ⟨fun _=>rfl,trivial⟩
def Auq (K:Nat)(a0:Dw)(a1:Int):Option (Int×(List Int)×(List Int)×(List Int)):=((Art K a0.Fy a1).bind fun r1=>(if r1.2.length=a0.Fy.length then((Ald K a0.Hh r1.1).bind fun r2=>(if r2.2.length=a0.Hh.length then((Ald K a0.Fz r2.1).bind fun r3=>(if r3.2.length=a0.Fz.length then some (r3.1,r1.2,r2.2,r3.2)else none))else none))else none))
def Bsp:Sig:=⟨[.w 28 true [(5,true),(3,true),(3,true)],.v 3],[.v 3],true⟩
def Bsq (K:Nat):Gb tyU:=⟨Bsp,Auq K⟩
def B2n (K:Nat):=xF Bsp [(29,Bj5 K),(81,Bam K)] [] 18 [] [] [] [] [.tmp 4]
theorem Bv1 (K:Nat):OkF 78 (Bsq K):=
 Aa6 (x:=B2n K) (L:=[]) (c0:=bd Tryz.f78) (xkF (gC (Bka K) (gC (A9b K) gN)) oN) (by intro a0 a1;show @Eq _ _ _;kernel_rfl) kN Tryz.func78 ⟨fun _=>rfl,trivial⟩
def Alo (K:Nat):Nat->(List A9)->Int->Int->Option (Int×(List A9))
 |0,_,_,_=>none
 |n1+1,v1,v2,v3=>(bif (decide (v3<(v1.length:Int)))then(if(0:Int)≤v3∧v3<(v1.length:Int)then(if(0:Int)≤v3∧v3<((v1.set v3.toNat (A9.mk v2 ((gt v1 v3).Vu) ((gt v1 v3).Vv))).length:Int)then(Aql ((v1.set v3.toNat (A9.mk v2 ((gt v1 v3).Vu) ((gt v1 v3).Vv))).set v3.toNat (A9.mk ((gt (v1.set v3.toNat (A9.mk v2 ((gt v1 v3).Vu) ((gt v1 v3).Vv))) v3).fAt) (Aoa .i64 v2 1) ((gt (v1.set v3.toNat (A9.mk v2 ((gt v1 v3).Vu) ((gt v1 v3).Vv))) v3).Vv))) fun v4=>(if(0:Int)≤v3∧v3<(v4.length:Int)then(Alo K n1 (v4.set v3.toNat (A9.mk ((gt v4 v3).fAt) ((gt v4 v3).Vu) (Aoa .i64 (Aoa .i64 v2 1) 1))) (Aoa .i64 (Aoa .i64 (Aoa .i64 v2 1) 1) 1) (Aoa .i64 v3 1))else none))else none)else none)else some (v2,v1))
def Asn (K:Nat)(a0:List A9)(a1:Int):Option (Int×(List A9)):=(Alo K K a0 a1 0)
def s_165:Sig:=⟨[.w 41 true [(89,true)],.v 3],[.v 3],true⟩
def Bsr (K:Nat):Gb tyU:=⟨s_165,Asn K⟩
def Bkf (K:Nat):=xF s_165 [] [] 34 [] [] [] [] [.tmp 4]
def A41:E5:=⟨[(0,.o 1 89 true),(1,.v 2),(5,.v 2)],[]⟩
def A42 (K:Nat)(n:Nat)(q:PT A41):Rt s_165:=Alo K n q.1 q.2.1 q.2.2.1
theorem Bkg (K:Nat):AtL (Bkf K) (fun n=>[]) [] (bd Tryz.f136) 26 (A42 K):=fun n q=>by kernel_rfl
theorem Bkh (K:Nat):XF [.tmp 4] s_165 34 [] (Bkf K):=xkF gN oN
theorem Bki (K:Nat)(n:Nat):CF [.tmp 4] s_165 34 [] (bd Tryz.f136) [] 26 (ar A41 (A42 K n)):=
 Aeg (Bkh K) (Bkg K) (fun n=>kN) n
theorem Bv2 (K:Nat):OkF 136 (Bsr K):=
 Aa6 (x:=Bkf K) (L:=[(26,ar A41 (A42 K K))]) (c0:=bd Tryz.f136) (Bkh K) (by intro a0 a1;show @Eq _ _ _;kernel_rfl) (kC (Bki K K) kN) Tryz.func136 ⟨fun _=>rfl,trivial⟩
def Ano (K:Nat):Nat->(List Ba)->Int->Int->Option (Int×(List Ba))
 |0,_,_,_=>none
 |n1+1,v1,v2,v3=>(bif (decide (v3<(v1.length:Int)))then(if(0:Int)≤v3∧v3<(v1.length:Int)then(Aql (v1.set v3.toNat (Ba.mk v2 ((gt v1 v3).C2) ((gt v1 v3).Ly) ((gt v1 v3).fUp) ((gt v1 v3).Gq) ((gt v1 v3).Bt) ((gt v1 v3).Gr) ((gt v1 v3).Gs) ((gt v1 v3).Ae) ((gt v1 v3).Pq) ((gt v1 v3).Gt) ((gt v1 v3).Ea) ((gt v1 v3).Dg))) fun v4=>(if(0:Int)≤v3∧v3<(v4.length:Int)then(Aql (v4.set v3.toNat (Ba.mk ((gt v4 v3).Hh) (Aoa .i64 v2 1) ((gt v4 v3).Ly) ((gt v4 v3).fUp) ((gt v4 v3).Gq) ((gt v4 v3).Bt) ((gt v4 v3).Gr) ((gt v4 v3).Gs) ((gt v4 v3).Ae) ((gt v4 v3).Pq) ((gt v4 v3).Gt) ((gt v4 v3).Ea) ((gt v4 v3).Dg))) fun v5=>(if(0:Int)≤v3∧v3<(v5.length:Int)then(Aql (v5.set v3.toNat (Ba.mk ((gt v5 v3).Hh) ((gt v5 v3).C2) (Aoa .i64 (Aoa .i64 v2 1) 1) ((gt v5 v3).fUp) ((gt v5 v3).Gq) ((gt v5 v3).Bt) ((gt v5 v3).Gr) ((gt v5 v3).Gs) ((gt v5 v3).Ae) ((gt v5 v3).Pq) ((gt v5 v3).Gt) ((gt v5 v3).Ea) ((gt v5 v3).Dg))) fun v6=>(if(0:Int)≤v3∧v3<(v6.length:Int)then(Aql (v6.set v3.toNat (Ba.mk ((gt v6 v3).Hh) ((gt v6 v3).C2) ((gt v6 v3).Ly) (Aoa .i64 (Aoa .i64 (Aoa .i64 v2 1) 1) 1) ((gt v6 v3).Gq) ((gt v6 v3).Bt) ((gt v6 v3).Gr) ((gt v6 v3).Gs) ((gt v6 v3).Ae) ((gt v6 v3).Pq) ((gt v6 v3).Gt) ((gt v6 v3).Ea) ((gt v6 v3).Dg))) fun v7=>(if(0:Int)≤v3∧v3<(v7.length:Int)then(Aql (v7.set v3.toNat (Ba.mk ((gt v7 v3).Hh) ((gt v7 v3).C2) ((gt v7 v3).Ly) ((gt v7 v3).fUp) (Aoa .i64 (Aoa .i64 (Aoa .i64 (Aoa .i64 v2 1) 1) 1) 1) ((gt v7 v3).Bt) ((gt v7 v3).Gr) ((gt v7 v3).Gs) ((gt v7 v3).Ae) ((gt v7 v3).Pq) ((gt v7 v3).Gt) ((gt v7 v3).Ea) ((gt v7 v3).Dg))) fun v8=>(if(0:Int)≤v3∧v3<(v8.length:Int)then(Aql (v8.set v3.toNat (Ba.mk ((gt v8 v3).Hh) ((gt v8 v3).C2) ((gt v8 v3).Ly) ((gt v8 v3).fUp) ((gt v8 v3).Gq) (Aoa .i64 (Aoa .i64 (Aoa .i64 (Aoa .i64 (Aoa .i64 v2 1) 1) 1) 1) 1) ((gt v8 v3).Gr) ((gt v8 v3).Gs) ((gt v8 v3).Ae) ((gt v8 v3).Pq) ((gt v8 v3).Gt) ((gt v8 v3).Ea) ((gt v8 v3).Dg))) fun v9=>(if(0:Int)≤v3∧v3<(v9.length:Int)then(Aql (v9.set v3.toNat (Ba.mk ((gt v9 v3).Hh) ((gt v9 v3).C2) ((gt v9 v3).Ly) ((gt v9 v3).fUp) ((gt v9 v3).Gq) ((gt v9 v3).Bt) (Aoa .i64 (Aoa .i64 (Aoa .i64 (Aoa .i64 (Aoa .i64 (Aoa .i64 v2 1) 1) 1) 1) 1) 1) ((gt v9 v3).Gs) ((gt v9 v3).Ae) ((gt v9 v3).Pq) ((gt v9 v3).Gt) ((gt v9 v3).Ea) ((gt v9 v3).Dg))) fun v10=>(if(0:Int)≤v3∧v3<(v10.length:Int)then(Aql (v10.set v3.toNat (Ba.mk ((gt v10 v3).Hh) ((gt v10 v3).C2) ((gt v10 v3).Ly) ((gt v10 v3).fUp) ((gt v10 v3).Gq) ((gt v10 v3).Bt) ((gt v10 v3).Gr) (Aoa .i64 (Aoa .i64 (Aoa .i64 (Aoa .i64 (Aoa .i64 (Aoa .i64 (Aoa .i64 v2 1) 1) 1) 1) 1) 1) 1) ((gt v10 v3).Ae) ((gt v10 v3).Pq) ((gt v10 v3).Gt) ((gt v10 v3).Ea) ((gt v10 v3).Dg))) fun v11=>(if(0:Int)≤v3∧v3<(v11.length:Int)then(if(0:Int)≤v3∧v3<(v11.length:Int)then((Ald K ((gt v11 v3).Ae) (Aoa .i64 (Aoa .i64 (Aoa .i64 (Aoa .i64 (Aoa .i64 (Aoa .i64 (Aoa .i64 (Aoa .i64 v2 1) 1) 1) 1) 1) 1) 1) 1)).bind fun r12=>(if r12.2.length=((gt v11 v3).Ae).length then(if(0:Int)≤v3∧v3<(v11.length:Int)then(if(0:Int)≤v3∧v3<(v11.length:Int)then(if(0:Int)≤v3∧v3<(v11.length:Int)then((Asn K ((gt v11 v3).Ea) (Aoa .i64 (Aoa .i64 r12.1 1) 1)).bind fun r13=>(if r13.2.length=((gt v11 v3).Ea).length then(if(0:Int)≤v3∧v3<(v11.length:Int)then((Ald K ((gt v11 v3).Dg) r13.1).bind fun r14=>(if r14.2.length=((gt v11 v3).Dg).length then(Ano K n1 (v11.set v3.toNat (Ba.mk ((gt v11 v3).Hh) ((gt v11 v3).C2) ((gt v11 v3).Ly) ((gt v11 v3).fUp) ((gt v11 v3).Gq) ((gt v11 v3).Bt) ((gt v11 v3).Gr) ((gt v11 v3).Gs) r12.2 r12.1 (Aoa .i64 r12.1 1) r13.2 r14.2)) r14.1 (Aoa .i64 v3 1))else none))else none)else none))else none)else none)else none)else none))else none)else none))else none))else none))else none))else none))else none))else none))else none))else none)else some (v2,v1))
def Atm (K:Nat)(a0:List Ba)(a1:Int):Option (Int×(List Ba)):=(Ano K K a0 a1 0)
def s_166:Sig:=⟨[.w 29 true [(44,true)],.v 3],[.v 3],true⟩
def Bss (K:Nat):Gb tyU:=⟨s_166,Atm K⟩
def Bkj (K:Nat):=xF s_166 [(81,Bam K),(136,Bsr K)] [] 104 [] [(20,[.opn 1 (.tmp 5),.takeE 1 8 40072]),(25,[.takeE 1 11 40075]),(26,[.takeE 1 12 40076])] [] [] [.tmp 4]
def A43:E5:=⟨[(0,.o 1 44 true),(1,.v 2),(5,.v 2)],[]⟩
def A44 (K:Nat)(n:Nat)(q:PT A43):Rt s_166:=Ano K n q.1 q.2.1 q.2.2.1
theorem Bkk (K:Nat):AtL (Bkj K) (fun n=>[]) [] (bd Tryz.f79) 26 (A44 K):=fun n q=>by kernel_rfl
theorem Bkl (K:Nat):XF [.tmp 4] s_166 104 [] (Bkj K):=xkF (gC (A9b K) (gC (Bv2 K) gN)) oN
theorem Bkm (K:Nat)(n:Nat):CF [.tmp 4] s_166 104 [] (bd Tryz.f79) [] 26 (ar A43 (A44 K n)):=
 Aeg (Bkl K) (Bkk K) (fun n=>kN) n
theorem Bv3 (K:Nat):OkF 79 (Bss K):=
 Aa6 (x:=Bkj K) (L:=[(26,ar A43 (A44 K K))]) (c0:=bd Tryz.f79) (Bkl K) (by intro a0 a1;show @Eq _ _ _;kernel_rfl) (kC (Bkm K K) kN) Tryz.func79 ⟨fun _=>rfl,trivial⟩
def Al3 (K:Nat):Nat->(List Ax)->Int->Int->Option (Int×(List Ax))
 |0,_,_,_=>none
 |n1+1,v1,v2,v3=>(bif (decide (v3<(v1.length:Int)))then(if(0:Int)≤v3∧v3<(v1.length:Int)then(if(0:Int)≤v3∧v3<((v1.set v3.toNat (Ax.mk v2 ((gt v1 v3).Bt) ((gt v1 v3).Dg) ((gt v1 v3).Ae) ((gt v1 v3).Gu))).length:Int)then(Aql ((v1.set v3.toNat (Ax.mk v2 ((gt v1 v3).Bt) ((gt v1 v3).Dg) ((gt v1 v3).Ae) ((gt v1 v3).Gu))).set v3.toNat (Ax.mk ((gt (v1.set v3.toNat (Ax.mk v2 ((gt v1 v3).Bt) ((gt v1 v3).Dg) ((gt v1 v3).Ae) ((gt v1 v3).Gu))) v3).A5) (Aoa .i64 v2 1) ((gt (v1.set v3.toNat (Ax.mk v2 ((gt v1 v3).Bt) ((gt v1 v3).Dg) ((gt v1 v3).Ae) ((gt v1 v3).Gu))) v3).Dg) ((gt (v1.set v3.toNat (Ax.mk v2 ((gt v1 v3).Bt) ((gt v1 v3).Dg) ((gt v1 v3).Ae) ((gt v1 v3).Gu))) v3).Ae) ((gt (v1.set v3.toNat (Ax.mk v2 ((gt v1 v3).Bt) ((gt v1 v3).Dg) ((gt v1 v3).Ae) ((gt v1 v3).Gu))) v3).Gu))) fun v4=>(if(0:Int)≤v3∧v3<(v4.length:Int)then(if(0:Int)≤v3∧v3<(v4.length:Int)then((Ald K ((gt v4 v3).Dg) (Aoa .i64 (Aoa .i64 v2 1) 1)).bind fun r5=>(if r5.2.length=((gt v4 v3).Dg).length then(if(0:Int)≤v3∧v3<(v4.length:Int)then((Ald K ((gt v4 v3).Ae) r5.1).bind fun r6=>(if r6.2.length=((gt v4 v3).Ae).length then(if(0:Int)≤v3∧v3<(v4.length:Int)then(Al3 K n1 (v4.set v3.toNat (Ax.mk ((gt v4 v3).A5) ((gt v4 v3).Bt) r5.2 r6.2 r6.1)) (Aoa .i64 r6.1 1) (Aoa .i64 v3 1))else none)else none))else none)else none))else none)else none))else none)else none)else some (v2,v1))
def Aso (K:Nat)(a0:List Ax)(a1:Int):Option (Int×(List Ax)):=(Al3 K K a0 a1 0)
def s_167:Sig:=⟨[.w 30 true [(159,true)],.v 3],[.v 3],true⟩
def Bst (K:Nat):Gb tyU:=⟨s_167,Aso K⟩
def Bkn (K:Nat):=xF s_167 [(81,Bam K)] [] 48 [] [(8,[.opn 1 (.tmp 5),.takeE 1 2 40066]),(9,[.takeE 1 3 40067])] [] [] [.tmp 4]
def A45:E5:=⟨[(0,.o 1 159 true),(1,.v 2),(5,.v 2)],[]⟩
def A46 (K:Nat)(n:Nat)(q:PT A45):Rt s_167:=Al3 K n q.1 q.2.1 q.2.2.1
theorem Bko (K:Nat):AtL (Bkn K) (fun n=>[]) [] (bd Tryz.f80) 26 (A46 K):=fun n q=>by kernel_rfl
theorem Bkp (K:Nat):XF [.tmp 4] s_167 48 [] (Bkn K):=xkF (gC (A9b K) gN) oN
theorem Bkq (K:Nat)(n:Nat):CF [.tmp 4] s_167 48 [] (bd Tryz.f80) [] 26 (ar A45 (A46 K n)):=
 Aeg (Bkp K) (Bko K) (fun n=>kN) n
theorem Bv4 (K:Nat):OkF 80 (Bst K):=
 Aa6 (x:=Bkn K) (L:=[(26,ar A45 (A46 K K))]) (c0:=bd Tryz.f80) (Bkp K) (by intro a0 a1;show @Eq _ _ _;kernel_rfl) (kC (Bkq K K) kN) Tryz.func80 ⟨fun _=>rfl,trivial⟩
def Aru (K:Nat)(a0:Eb)(a1:Int):Option (Int×(List Int)×(List Int)×(List Int)×(List Ba)×(List Ax)×(List Int)):=((Auq K a0.fP a1).bind fun r1=>(if r1.2.1.length=a0.fP.Fy.length∧r1.2.2.1.length=a0.fP.Hh.length∧r1.2.2.2.length=a0.fP.Fz.length then((Atm K a0.fL r1.1).bind fun r2=>(if r2.2.length=a0.fL.length then((Aso K a0.fQ r2.1).bind fun r3=>(if r3.2.length=a0.fQ.length then((Ald K a0.Pr r3.1).bind fun r4=>(if r4.2.length=a0.Pr.length then some (r4.1,r1.2.1,r1.2.2.1,r1.2.2.2,r2.2,r3.2,r4.2)else none))else none))else none))else none))
def Bsu:Sig:=⟨[.w 32 true [(5,true),(3,true),(3,true),(44,true),(159,true),(3,true)],.v 3],[.v 3],true⟩
def Bsv (K:Nat):Gb tyU:=⟨Bsu,Aru K⟩
def B2o (K:Nat):=xF Bsu [(78,Bsq K),(79,Bss K),(80,Bst K),(81,Bam K)] [] 22 [] [] [] [] [.tmp 4]
theorem Bv5 (K:Nat):OkF 28 (Bsv K):=
 Aa6 (x:=B2o K) (L:=[]) (c0:=bd Tryz.f28) (xkF (gC (Bv1 K) (gC (Bv3 K) (gC (Bv4 K) (gC (A9b K) gN)))) oN) (by intro a0 a1;show @Eq _ _ _;kernel_rfl) kN Tryz.func28 ⟨fun _=>rfl,trivial⟩
def Avp (K:Nat)(a0:Fh)(a1:Int):Option (Int×(List Int)):=((Art K a0.fB a1).bind fun r1=>(if r1.2.length=a0.fB.length then some (r1.1,r1.2)else none))
def Bsw:Sig:=⟨[.w 69 true [(5,true)],.v 3],[.v 3],true⟩
def Bsx (K:Nat):Gb tyU:=⟨Bsw,Avp K⟩
def B2p (K:Nat):=xF Bsw [(29,Bj5 K)] [] 10 [] [] [] [] [.tmp 4]
theorem Bv6 (K:Nat):OkF 34 (Bsx K):=
 Aa6 (x:=B2p K) (L:=[]) (c0:=bd Tryz.f34) (xkF (gC (Bka K) gN) oN) (by intro a0 a1;show @Eq _ _ _;kernel_rfl) kN Tryz.func34 ⟨fun _=>rfl,trivial⟩
def Aqn (K:Nat)(a0:List Int):Nat->Int->Int->Option (Int)
 |0,_,_=>none
 |n1+1,v1,v2=>(bif (decide (v2<(a0.length:Int)))then(if(0:Int)≤v2∧v2<(a0.length:Int)then(bif ((gt a0 v2) != (IntKind.u8.wrap v1))then some (-1)else(Aqn K a0 n1 (Aoa .i64 v1 1) (Aoa .i64 v2 1)))else none)else some v1)
def Arv (K:Nat)(a0:List Int)(a1:Int):Option (Int):=(Aqn K a0 K a1 0)
def s_170:Sig:=⟨[.v 22,.v 3],[.v 3],true⟩
def Bkr (K:Nat):Gb tyU:=⟨s_170,Arv K⟩
def Bks (K:Nat):=xF s_170 [] [] 22 [] [] [] [] [.tmp 4]
def A47:E5:=⟨[(0,.v 22),(1,.v 2),(5,.v 2)],[]⟩
def A48 (K:Nat)(n:Nat)(q:PT A47):Rt s_170:=Aqn K q.1 n q.2.1 q.2.2.1
theorem Bkt (K:Nat):AtL (Bks K) (fun n=>[]) [] (bd Tryz.f30) 26 (A48 K):=fun n q=>by kernel_rfl
theorem Bku (K:Nat):XF [.tmp 4] s_170 22 [] (Bks K):=xkF gN oN
theorem Bkv (K:Nat)(n:Nat):CF [.tmp 4] s_170 22 [] (bd Tryz.f30) [] 26 (ar A47 (A48 K n)):=
 Aeg (Bku K) (Bkt K) (fun n=>kN) n
theorem Bkw (K:Nat):OkF 30 (Bkr K):=
 Aa6 (x:=Bks K) (L:=[(26,ar A47 (A48 K K))]) (c0:=bd Tryz.f30) (Bku K) (by intro a0 a1;show @Eq _ _ _;kernel_rfl) (kC (Bkv K K) kN) Tryz.func30 trivial
def Aq7 (K:Nat)(a0:List Int):Nat->Int->Int->Option (Int)
 |0,_,_=>none
 |n1+1,v1,v2=>(bif (decide (v2<(a0.length:Int)))then(if(0:Int)≤v2∧v2<(a0.length:Int)then(bif ((gt a0 v2) != v1)then some (-1)else(Aq7 K a0 n1 (Aoa .i64 v1 1) (Aoa .i64 v2 1)))else none)else some v1)
def Ale (K:Nat)(a0:List Int)(a1:Int):Option (Int):=(Aq7 K a0 K a1 0)
def s_171:Sig:=⟨[.v 26,.v 3],[.v 3],true⟩
def Ban (K:Nat):Gb tyU:=⟨s_171,Ale K⟩
def Bkx (K:Nat):=xF s_171 [] [] 21 [] [] [] [] [.tmp 4]
def A49:E5:=⟨[(0,.v 26),(1,.v 2),(5,.v 2)],[]⟩
def A5a (K:Nat)(n:Nat)(q:PT A49):Rt s_171:=Aq7 K q.1 n q.2.1 q.2.2.1
theorem Bky (K:Nat):AtL (Bkx K) (fun n=>[]) [] (bd Tryz.f98) 26 (A5a K):=fun n q=>by kernel_rfl
theorem Bkz (K:Nat):XF [.tmp 4] s_171 21 [] (Bkx K):=xkF gN oN
theorem Bk0 (K:Nat)(n:Nat):CF [.tmp 4] s_171 21 [] (bd Tryz.f98) [] 26 (ar A49 (A5a K n)):=
 Aeg (Bkz K) (Bky K) (fun n=>kN) n
theorem A9c (K:Nat):OkF 98 (Ban K):=
 Aa6 (x:=Bkx K) (L:=[(26,ar A49 (A5a K K))]) (c0:=bd Tryz.f98) (Bkz K) (by intro a0 a1;show @Eq _ _ _;kernel_rfl) (kC (Bk0 K K) kN) Tryz.func98 trivial
def Awz (K:Nat)(a0:Dw)(a1:Int):Option (Int):=((Arv K a0.Fy a1).bind fun r1=>(bif (decide (r1<0))then some (-1)else((Ale K a0.Hh r1).bind fun r2=>(bif (decide (r2<0))then some (-1)else((Ale K a0.Fz r2).bind fun r3=>(bif (decide (r3<0))then some (-1)else some r3))))))
def Bsy:Sig:=⟨[.v 28,.v 3],[.v 3],true⟩
def Bsz (K:Nat):Gb tyU:=⟨Bsy,Awz K⟩
def B2q (K:Nat):=xF Bsy [(30,Bkr K),(98,Ban K)] [] 24 [] [] [] [] [.tmp 4]
theorem Bv7 (K:Nat):OkF 95 (Bsz K):=
 Aa6 (x:=B2q K) (L:=[]) (c0:=bd Tryz.f95) (xkF (gC (Bkw K) (gC (A9c K) gN)) oN) (by intro a0 a1;show @Eq _ _ _;kernel_rfl) kN Tryz.func95 trivial
def Al4 (K:Nat)(a0:List A9):Nat->Int->Int->Option (Int)
 |0,_,_=>none
 |n1+1,v1,v2=>(bif (decide (v2<(a0.length:Int)))then(if(0:Int)≤v2∧v2<(a0.length:Int)then(bif (((gt a0 v2).fAt) != v1)then some (-1)else(if(0:Int)≤v2∧v2<(a0.length:Int)then(bif (((gt a0 v2).Vu) != (Aoa .i64 v1 1))then some (-1)else(if(0:Int)≤v2∧v2<(a0.length:Int)then(bif (((gt a0 v2).Vv) != (Aoa .i64 (Aoa .i64 v1 1) 1))then some (-1)else(Al4 K a0 n1 (Aoa .i64 (Aoa .i64 (Aoa .i64 v1 1) 1) 1) (Aoa .i64 v2 1)))else none))else none))else none)else some v1)
def Asp (K:Nat)(a0:List A9)(a1:Int):Option (Int):=(Al4 K a0 K a1 0)
def s_173:Sig:=⟨[.v 41,.v 3],[.v 3],true⟩
def Bs0 (K:Nat):Gb tyU:=⟨s_173,Asp K⟩
def Bk1 (K:Nat):=xF s_173 [] [] 40 [] [] [] [] [.tmp 4]
def A5b:E5:=⟨[(0,.v 41),(1,.v 2),(5,.v 2)],[]⟩
def A5c (K:Nat)(n:Nat)(q:PT A5b):Rt s_173:=Al4 K q.1 n q.2.1 q.2.2.1
theorem Bk2 (K:Nat):AtL (Bk1 K) (fun n=>[]) [] (bd Tryz.f166) 26 (A5c K):=fun n q=>by kernel_rfl
theorem Bk3 (K:Nat):XF [.tmp 4] s_173 40 [] (Bk1 K):=xkF gN oN
theorem Bk4 (K:Nat)(n:Nat):CF [.tmp 4] s_173 40 [] (bd Tryz.f166) [] 26 (ar A5b (A5c K n)):=
 Aeg (Bk3 K) (Bk2 K) (fun n=>kN) n
theorem Bv8 (K:Nat):OkF 166 (Bs0 K):=
 Aa6 (x:=Bk1 K) (L:=[(26,ar A5b (A5c K K))]) (c0:=bd Tryz.f166) (Bk3 K) (by intro a0 a1;show @Eq _ _ _;kernel_rfl) (kC (Bk4 K K) kN) Tryz.func166 trivial
def Anp (K:Nat)(a0:List Ba):Nat->Int->Int->Option (Int)
 |0,_,_=>none
 |n1+1,v1,v2=>(bif (decide (v2<(a0.length:Int)))then(if(0:Int)≤v2∧v2<(a0.length:Int)then(bif (((gt a0 v2).Hh) != v1)then some (-1)else(if(0:Int)≤v2∧v2<(a0.length:Int)then(bif (((gt a0 v2).C2) != (Aoa .i64 v1 1))then some (-1)else(if(0:Int)≤v2∧v2<(a0.length:Int)then(bif (((gt a0 v2).Ly) != (Aoa .i64 (Aoa .i64 v1 1) 1))then some (-1)else(if(0:Int)≤v2∧v2<(a0.length:Int)then(bif (((gt a0 v2).fUp) != (Aoa .i64 (Aoa .i64 (Aoa .i64 v1 1) 1) 1))then some (-1)else(if(0:Int)≤v2∧v2<(a0.length:Int)then(bif (((gt a0 v2).Gq) != (Aoa .i64 (Aoa .i64 (Aoa .i64 (Aoa .i64 v1 1) 1) 1) 1))then some (-1)else(if(0:Int)≤v2∧v2<(a0.length:Int)then(bif (((gt a0 v2).Bt) != (Aoa .i64 (Aoa .i64 (Aoa .i64 (Aoa .i64 (Aoa .i64 v1 1) 1) 1) 1) 1))then some (-1)else(if(0:Int)≤v2∧v2<(a0.length:Int)then(bif (((gt a0 v2).Gr) != (Aoa .i64 (Aoa .i64 (Aoa .i64 (Aoa .i64 (Aoa .i64 (Aoa .i64 v1 1) 1) 1) 1) 1) 1))then some (-1)else(if(0:Int)≤v2∧v2<(a0.length:Int)then(bif (((gt a0 v2).Gs) != (Aoa .i64 (Aoa .i64 (Aoa .i64 (Aoa .i64 (Aoa .i64 (Aoa .i64 (Aoa .i64 v1 1) 1) 1) 1) 1) 1) 1))then some (-1)else(if(0:Int)≤v2∧v2<(a0.length:Int)then((Ale K ((gt a0 v2).Ae) (Aoa .i64 (Aoa .i64 (Aoa .i64 (Aoa .i64 (Aoa .i64 (Aoa .i64 (Aoa .i64 (Aoa .i64 v1 1) 1) 1) 1) 1) 1) 1) 1)).bind fun r3=>(bif (decide (r3<0))then some (-1)else(if(0:Int)≤v2∧v2<(a0.length:Int)then(bif (((gt a0 v2).Pq) != r3)then some (-1)else(if(0:Int)≤v2∧v2<(a0.length:Int)then(bif (((gt a0 v2).Gt) != (Aoa .i64 r3 1))then some (-1)else(if(0:Int)≤v2∧v2<(a0.length:Int)then((Asp K ((gt a0 v2).Ea) (Aoa .i64 (Aoa .i64 r3 1) 1)).bind fun r4=>(bif (decide (r4<0))then some (-1)else(if(0:Int)≤v2∧v2<(a0.length:Int)then((Ale K ((gt a0 v2).Dg) r4).bind fun r5=>(bif (decide (r5<0))then some (-1)else(Anp K a0 n1 r5 (Aoa .i64 v2 1))))else none)))else none))else none))else none)))else none))else none))else none))else none))else none))else none))else none))else none))else none)else some v1)
def Atn (K:Nat)(a0:List Ba)(a1:Int):Option (Int):=(Anp K a0 K a1 0)
def s_174:Sig:=⟨[.v 29,.v 3],[.v 3],true⟩
def Bs1 (K:Nat):Gb tyU:=⟨s_174,Atn K⟩
def Bk5 (K:Nat):=xF s_174 [(98,Ban K),(166,Bs0 K)] [] 130 [] [] [] [] [.tmp 4]
def A5d:E5:=⟨[(0,.v 29),(1,.v 2),(5,.v 2)],[]⟩
def A5e (K:Nat)(n:Nat)(q:PT A5d):Rt s_174:=Anp K q.1 n q.2.1 q.2.2.1
theorem Bk6 (K:Nat):AtL (Bk5 K) (fun n=>[]) [] (bd Tryz.f96) 26 (A5e K):=fun n q=>by kernel_rfl
theorem Bk7 (K:Nat):XF [.tmp 4] s_174 130 [] (Bk5 K):=xkF (gC (A9c K) (gC (Bv8 K) gN)) oN
theorem Bk8 (K:Nat)(n:Nat):CF [.tmp 4] s_174 130 [] (bd Tryz.f96) [] 26 (ar A5d (A5e K n)):=
 Aeg (Bk7 K) (Bk6 K) (fun n=>kN) n
theorem Bv9 (K:Nat):OkF 96 (Bs1 K):=
 Aa6 (x:=Bk5 K) (L:=[(26,ar A5d (A5e K K))]) (c0:=bd Tryz.f96) (Bk7 K) (by intro a0 a1;show @Eq _ _ _;kernel_rfl) (kC (Bk8 K K) kN) Tryz.func96 trivial
def Al5 (K:Nat)(a0:List Ax):Nat->Int->Int->Option (Int)
 |0,_,_=>none
 |n1+1,v1,v2=>(bif (decide (v2<(a0.length:Int)))then(if(0:Int)≤v2∧v2<(a0.length:Int)then(bif (((gt a0 v2).A5) != v1)then some (-1)else(if(0:Int)≤v2∧v2<(a0.length:Int)then(bif (((gt a0 v2).Bt) != (Aoa .i64 v1 1))then some (-1)else(if(0:Int)≤v2∧v2<(a0.length:Int)then((Ale K ((gt a0 v2).Dg) (Aoa .i64 (Aoa .i64 v1 1) 1)).bind fun r3=>(bif (decide (r3<0))then some (-1)else(if(0:Int)≤v2∧v2<(a0.length:Int)then((Ale K ((gt a0 v2).Ae) r3).bind fun r4=>(bif (decide (r4<0))then some (-1)else(if(0:Int)≤v2∧v2<(a0.length:Int)then(bif (((gt a0 v2).Gu) != r4)then some (-1)else(Al5 K a0 n1 (Aoa .i64 r4 1) (Aoa .i64 v2 1)))else none)))else none)))else none))else none))else none)else some v1)
def Asq (K:Nat)(a0:List Ax)(a1:Int):Option (Int):=(Al5 K a0 K a1 0)
def s_175:Sig:=⟨[.v 30,.v 3],[.v 3],true⟩
def Bs2 (K:Nat):Gb tyU:=⟨s_175,Asq K⟩
def Bk9 (K:Nat):=xF s_175 [(98,Ban K)] [] 58 [] [] [] [] [.tmp 4]
def A5f:E5:=⟨[(0,.v 30),(1,.v 2),(5,.v 2)],[]⟩
def A5g (K:Nat)(n:Nat)(q:PT A5f):Rt s_175:=Al5 K q.1 n q.2.1 q.2.2.1
theorem Bla (K:Nat):AtL (Bk9 K) (fun n=>[]) [] (bd Tryz.f97) 26 (A5g K):=fun n q=>by kernel_rfl
theorem Blb (K:Nat):XF [.tmp 4] s_175 58 [] (Bk9 K):=xkF (gC (A9c K) gN) oN
theorem Blc (K:Nat)(n:Nat):CF [.tmp 4] s_175 58 [] (bd Tryz.f97) [] 26 (ar A5f (A5g K n)):=
 Aeg (Blb K) (Bla K) (fun n=>kN) n
theorem Bwa (K:Nat):OkF 97 (Bs2 K):=
 Aa6 (x:=Bk9 K) (L:=[(26,ar A5f (A5g K K))]) (c0:=bd Tryz.f97) (Blb K) (by intro a0 a1;show @Eq _ _ _;kernel_rfl) (kC (Blc K K) kN) Tryz.func97 trivial
def Arw (K:Nat)(a0:Eb)(a1:Int):Option (Int):=((Awz K a0.fP a1).bind fun r1=>(bif (decide (r1<0))then some (-1)else((Atn K a0.fL r1).bind fun r2=>(bif (decide (r2<0))then some (-1)else((Asq K a0.fQ r2).bind fun r3=>(bif (decide (r3<0))then some (-1)else((Ale K a0.Pr r3).bind fun r4=>(bif (decide (r4<0))then some (-1)else some r4))))))))
def Bs3:Sig:=⟨[.v 32,.v 3],[.v 3],true⟩
def Bs4 (K:Nat):Gb tyU:=⟨Bs3,Arw K⟩
def B2r (K:Nat):=xF Bs3 [(95,Bsz K),(96,Bs1 K),(97,Bs2 K),(98,Ban K)] [] 30 [] [] [] [] [.tmp 4]
theorem Bwb (K:Nat):OkF 35 (Bs4 K):=
 Aa6 (x:=B2r K) (L:=[]) (c0:=bd Tryz.f35) (xkF (gC (Bv7 K) (gC (Bv9 K) (gC (Bwa K) (gC (A9c K) gN)))) oN) (by intro a0 a1;show @Eq _ _ _;kernel_rfl) kN Tryz.func35 trivial
def As6 (K:Nat)(a0:Fh)(a1:Int):Option (Int):=((Arv K a0.fB a1).bind fun r1=>(bif (decide (r1<0))then some (-1)else some r1))
def Bs5:Sig:=⟨[.v 69,.v 3],[.v 3],true⟩
def Bs6 (K:Nat):Gb tyU:=⟨Bs5,As6 K⟩
def B2s (K:Nat):=xF Bs5 [(30,Bkr K)] [] 12 [] [] [] [] [.tmp 4]
theorem Bwc (K:Nat):OkF 36 (Bs6 K):=
 Aa6 (x:=B2s K) (L:=[]) (c0:=bd Tryz.f36) (xkF (gC (Bkw K) gN) oN) (by intro a0 a1;show @Eq _ _ _;kernel_rfl) kN Tryz.func36 trivial
def Arc (K:Nat)(a0:Ec)(a1:Dn):Option (Bool):=((Aqg K a0 1048576).bind fun r1=>(bif (decide (r1<0))then some true else((Aww K a0).bind fun r2=>((Ar6 K a1).bind fun r3=>((Aw8 K r2 r3).bind fun r4=>((Ard K a0).bind fun r5=>((Ar6 K a1).bind fun r6=>((Avn K r5 r6).bind fun r7=>((Aqk K r7.1 r4.1).bind fun r8=>(bif r8 then((Atl K r7.2 r4.2).bind fun r9=>(bif (!r9)then some false else((Ard K a0).bind fun r10=>((Aqk K r5 r10).bind fun r11=>(bif (!r11)then some false else((Aru K r5 1).bind fun r12=>(if r12.2.1.length=r5.fP.Fy.length∧r12.2.2.1.length=r5.fP.Hh.length∧r12.2.2.2.1.length=r5.fP.Fz.length∧r12.2.2.2.2.1.length=r5.fL.length∧r12.2.2.2.2.2.1.length=r5.fQ.length∧r12.2.2.2.2.2.2.length=r5.Pr.length then(bif (decide (r12.1<0))then some false else((Aqk K r7.1 r4.1).bind fun r13=>(bif r13 then((Atl K r7.2 r4.2).bind fun r14=>(bif (!r14)then some false else((Aru K r7.1 1).bind fun r15=>(if r15.2.1.length=r7.1.fP.Fy.length∧r15.2.2.1.length=r7.1.fP.Hh.length∧r15.2.2.2.1.length=r7.1.fP.Fz.length∧r15.2.2.2.2.1.length=r7.1.fL.length∧r15.2.2.2.2.2.1.length=r7.1.fQ.length∧r15.2.2.2.2.2.2.length=r7.1.Pr.length then((Avp K r7.2 r15.1).bind fun r16=>(if r16.2.length=r7.2.fB.length then((Arw K (Eb.mk r7.1.fC (Dw.mk r15.2.1 r15.2.2.1 r15.2.2.2.1) r15.2.2.2.2.1 r15.2.2.2.2.2.1 r15.2.2.2.2.2.2) 1).bind fun r17=>(bif (decide (r17<0))then some false else((As6 K (Fh.mk r7.2.W9 r7.2.fH r7.2.fR r16.2 r7.2.Xa r7.2.E9 r7.2.Ps) r17).bind fun r18=>(bif (decide (r18<0))then some false else(bif (r18 != r16.1)then some false else((Ard K a0).bind fun r19=>((Ar6 K a1).bind fun r20=>((Avn K r19 r20).bind fun r21=>((Aqk K r21.1 r4.1).bind fun r22=>(bif r22 then((Atl K r21.2 r4.2).bind fun r23=>(bif (!r23)then some false else((Arw K (Eb.mk r7.1.fC (Dw.mk r15.2.1 r15.2.2.1 r15.2.2.2.1) r15.2.2.2.2.1 r15.2.2.2.2.2.1 r15.2.2.2.2.2.2) 1).bind fun r24=>(bif (decide (r24<0))then some false else((As6 K (Fh.mk r7.2.W9 r7.2.fH r7.2.fR r16.2 r7.2.Xa r7.2.E9 r7.2.Ps) r24).bind fun r25=>(bif (decide (r25<0))then some false else(bif (r25 != r16.1)then some false else some true)))))))else some false))))))))))else none))else none))))else some false)))else none)))))))else some false))))))))))
def Bs7:Sig:=⟨[.v 52,.v 53],[.v 4],true⟩
def B2t (K:Nat):Gb tyU:=⟨Bs7,Arc K⟩
def B2u (K:Nat):=xF Bs7 [(18,c_8 K),(20,Bw9 K),(21,Bxc K),(23,Bsj K),(28,Bsv K),(33,Bso K),(34,Bsx K),(35,Bs4 K),(36,Bs6 K),(39,Bz1 K),(40,Br4 K)] [(23,[(20,Bz4 K)])] 120 [40,41,42,57,58,61,62,63,64,99,100,101] [] [] [] [.tmp 4]
theorem Bwd (K:Nat):OkF 8 (B2t K):=
 Aa6 (x:=B2u K) (L:=[]) (c0:=bd Tryz.f8) (xkF (gC (B3c K) (gC (Bxa K) (gC (Bxd K) (gC (Bvy K) (gC (Bv5 K) (gC (Bv0 K) (gC (Bv6 K) (gC (Bwb K) (gC (Bwc K) (gC (Bz2 K) (gC (Bvp K) gN))))))))))) (oC (gC (Bz5 K) gN) oN)) (by intro a0 a1;show @Eq _ _ _;kernel_rfl) kN Tryz.func8 trivial
end
end Go.Proofs.YtjdblamhaljjbaaGreat
