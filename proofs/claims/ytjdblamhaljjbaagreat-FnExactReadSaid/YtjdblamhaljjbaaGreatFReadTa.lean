/- What the functions compute that FnExactRead reaches, and that they do; no condition. Printed by gen3.py. -/
import Derived.Test.YtjdblamhaljjbaaGreatFSrt
set_option linter.all false
set_option maxRecDepth 20000
namespace Go.Proofs.YtjdblamhaljjbaaGreat
open Go.Eng
noncomputable section
abbrev bd (f:Func):Code:=f.body.getD .skip
abbrev PT (h:E5):Type:=Am tyU h.codes
abbrev Rt (s:Sig):Type:=Option (Au tyU s.codes)
abbrev CT (h:E5)(s:Sig):Type:=Am tyU h.codes->Option (Au tyU s.codes)
abbrev ar{s:Sig}(h:E5)(M:CT h s):SS Ah->Rt s:=arr tyU tab h M
def xF (s:Sig)(G:List (Nat×Gb tyU))(O:List (Nat×List (Nat×Gb tyU)))(N:Nat)(spl:List Nat)(pre post:List (Nat×List Cmd))(js:List Nat)(rl:List ResultVar)(L B:Λt tyU s):Ox tyU (Au tyU s.codes):=⟨G,O,eqT eqs,N,spl,pre,post,js,L,B,Afh tyU tab s rl⟩
abbrev XF (rl:List ResultVar)(s:Sig)(N:Nat)(js:List Nat)(x:Λt tyU s->Λt tyU s->Ox tyU (Au tyU s.codes)):Prop:=XOk tyU tab Tryz.prog rl s N js x
theorem B2p:Tryz.prog.follows .mixedOrders=true:=by kernel_rfl
theorem xkF{rl:List ResultVar}{s:Sig}{N:Nat}{js:List Nat}{G:List (Nat×Gb tyU)}{O:List (Nat×List (Nat×Gb tyU))}{spl:List Nat}{pre post:List (Nat×List Cmd)}(hΓ: ∀f c,lk G f=some c->Gb.Ok tyU Tryz.prog f c∧E2 Tryz.prog f)(hov: ∀d l,lk O d=some l-> ∀f c,lk l f=some c->Gb.Ok tyU Tryz.prog f c∧E2 Tryz.prog f):XF rl s N js (xF s G O N spl pre post js rl):=xok Aqp B2p hΓ hov Apo
abbrev OkF (f:FuncId)(c:Gb tyU):Prop:=Gb.Ok tyU Tryz.prog f c∧E2 Tryz.prog f
abbrev CF (rl:List ResultVar)(s:Sig)(N:Nat)(js:List Nat)(c:Code)(B:Λt tyU s)(p:Nat)(f:SS Ah->Rt s):Prop:=Cut tyU tab Tryz.prog rl s N js c B p f
abbrev EqF (s:Sig)(x:Ox tyU (Au tyU s.codes))(c:Code)(m:Wk tyU s.ps (Rt s)):Prop:=Uy tyU tab x c s.ps 0 [] [] m
abbrev AtL{s:Sig}{h:E5}(x:Λt tyU s->Λt tyU s->Ox tyU (Au tyU s.codes))(L:Nat->Λt tyU s)(B:Λt tyU s)(c:Code)(p:Nat)(M:Nat->CT h s):Prop:= ∀n q,M (n+1) q=Aff tyU tab (x (L n) ((p,ar h (M n))::B)) c (2*p) (h.emb tyU q)
abbrev AtJ{s:Sig}{h:E5}(x:Λt tyU s->Λt tyU s->Ox tyU (Au tyU s.codes))(L B:Λt tyU s)(c:Code)(p:Nat)(M:CT h s):Prop:= ∀q,M q=Aff tyU tab (x L B) c (2*p+1) (h.emb tyU q)
theorem Aeh{rl:List ResultVar}{s:Sig}{N:Nat}{js:List Nat}{x:Λt tyU s->Λt tyU s->Ox tyU (Au tyU s.codes)}{c:Code}{L:Nat->Λt tyU s}{B:Λt tyU s}{p:Nat}{h:E5}{M:Nat->CT h s}(hx:XF rl s N js x)(e:AtL x L B c p M)(hc: ∀n,Vs tyU tab Tryz.prog rl s N js c ((p,ar h (M n))::B) (L n))(n:Nat)(hp:Nat.ble 1 p=true:=by rfl)(hk:Tc js c p=true:=by kernel_rfl)(e0: ∀q,M 0 q=none:=by intro q;rfl):CF rl s N js c B p (ar h (M n)):=Amn hx hp hk e0 e hc n
theorem Apk{rl:List ResultVar}{s:Sig}{N:Nat}{js:List Nat}{x:Λt tyU s->Λt tyU s->Ox tyU (Au tyU s.codes)}{c:Code}{L B:Λt tyU s}{p:Nat}{h:E5}{M:CT h s}(hx:XF rl s N js x)(e:AtJ x L B c p M)(hc:Vs tyU tab Tryz.prog rl s N js c B L)(hp:Nat.ble 1 p=true:=by rfl):CF rl s N js c B p (ar h M):=Amm hx hp e hc
theorem Aa6{rl:List ResultVar}{s:Sig}{N:Nat}{js:List Nat}{x:Λt tyU s->Λt tyU s->Ox tyU (Au tyU s.codes)}{c0:Code}(hx:XF rl s N js x){L:Λt tyU s}{f:FuncId}{fn:Func}{m:Wk tyU s.ps (Rt s)}(e:EqF s (x L []) c0 m)(hc:Vs tyU tab Tryz.prog rl s N js c0 [] L)(hf:Tryz.prog.funcs[f]? =some fn)(hs:W8 tyU s.ps)(h1:(fn.name== "runtime.NumGoroutine")=false:=by rfl)(h2:fn.body=some c0:=by rfl)(h3:fn.results=rl.toArray:=by rfl)(h4:fn.ntmps=N:=by rfl)(h5:Nat.ble s.ps.length N=true:=by rfl)(h6:Nat.ble (A8 s.ps+1) 100=true:=by rfl)(h7:Nat.ble rl.length 4=true:=by rfl):OkF f ⟨s,m⟩:=Ao1 hx Apn e hc hf h1 h2 h3 h4 h5 h6 h7 hs
def Aut (K:Nat)(a0:List Int)(a1:Int):Option (Int):=(bif (decide ((Aob .i64 a1 (a0.length:Int))<0))then some (-1)else some (Aob .i64 a1 (a0.length:Int)))
def s_0:Sig:=⟨[.v 22,.v 3],[.v 3],true⟩
def c_0 (K:Nat):Gb tyU:=⟨s_0,Aut K⟩
def x_0 (K:Nat):=xF s_0 [] [] 12 [] [] [] [] [.tmp 4]
theorem B2q (K:Nat):OkF 127 (c_0 K):=
 Aa6 (x:=x_0 K) (L:=[]) (c0:=bd Tryz.f127) (xkF gN oN) (by intro a0 a1;show @Eq _ _ _;kernel_rfl) kN Tryz.func127 trivial
def An1 (K:Nat)(a0:List Int)(a1:Int):Option (Int):=(bif (decide ((Aob .i64 a1 (a0.length:Int))<0))then some (-1)else some (Aob .i64 a1 (a0.length:Int)))
def s_1:Sig:=⟨[.v 26,.v 3],[.v 3],true⟩
def c_1 (K:Nat):Gb tyU:=⟨s_1,An1 K⟩
def x_1 (K:Nat):=xF s_1 [] [] 12 [] [] [] [] [.tmp 4]
theorem Blu (K:Nat):OkF 63 (c_1 K):=
 Aa6 (x:=x_1 K) (L:=[]) (c0:=bd Tryz.f63) (xkF gN oN) (by intro a0 a1;show @Eq _ _ _;kernel_rfl) kN Tryz.func63 trivial
def Atl (K:Nat)(a0:Dx)(a1:Int):Option (Int):=((Aut K a0.Fy a1).bind fun r1=>(bif (decide (r1<0))then some (-1)else((An1 K a0.Hh r1).bind fun r2=>(bif (decide (r2<0))then some (-1)else((An1 K a0.Fz r2).bind fun r3=>(bif (decide (r3<0))then some (-1)else some r3))))))
def s_2:Sig:=⟨[.v 48,.v 3],[.v 3],true⟩
def c_2 (K:Nat):Gb tyU:=⟨s_2,Atl K⟩
def x_2 (K:Nat):=xF s_2 [(63,c_1 K),(127,c_0 K)] [] 24 [] [] [] [] [.tmp 4]
theorem B2r (K:Nat):OkF 60 (c_2 K):=
 Aa6 (x:=x_2 K) (L:=[]) (c0:=bd Tryz.f60) (xkF (gC (Blu K) (gC (B2q K) gN)) oN) (by intro a0 a1;show @Eq _ _ _;kernel_rfl) kN Tryz.func60 trivial
def Att (K:Nat)(a0:List Bb)(a1:Int):Option (Int):=(bif (decide ((Aob .i64 a1 (a0.length:Int))<0))then some (-1)else some (Aob .i64 a1 (a0.length:Int)))
def s_3:Sig:=⟨[.v 152,.v 3],[.v 3],true⟩
def c_3 (K:Nat):Gb tyU:=⟨s_3,Att K⟩
def x_3 (K:Nat):=xF s_3 [] [] 12 [] [] [] [] [.tmp 4]
theorem B2s (K:Nat):OkF 200 (c_3 K):=
 Aa6 (x:=x_3 K) (L:=[]) (c0:=bd Tryz.f200) (xkF gN oN) (by intro a0 a1;show @Eq _ _ _;kernel_rfl) kN Tryz.func200 trivial
def Ap8 (K:Nat)(a0:Bc)(a1:Int):Option (Int):=((An1 K a0.Ae a1).bind fun r1=>(bif (decide (r1<0))then some (-1)else((Att K a0.Ea r1).bind fun r2=>(bif (decide (r2<0))then some (-1)else((An1 K a0.Dg r2).bind fun r3=>(bif (decide (r3<0))then some (-1)else some r3))))))
def s_4:Sig:=⟨[.v 154,.v 3],[.v 3],true⟩
def c_4 (K:Nat):Gb tyU:=⟨s_4,Ap8 K⟩
def x_4 (K:Nat):=xF s_4 [(63,c_1 K),(200,c_3 K)] [] 24 [] [] [] [] [.tmp 4]
theorem B2t (K:Nat):OkF 128 (c_4 K):=
 Aa6 (x:=x_4 K) (L:=[]) (c0:=bd Tryz.f128) (xkF (gC (Blu K) (gC (B2s K) gN)) oN) (by intro a0 a1;show @Eq _ _ _;kernel_rfl) kN Tryz.func128 trivial
def Aqa (K:Nat)(a0:List Bc):Nat->Int->Int->Option (Int)
 |0,_,_=>none
 |n1+1,v1,v2=>(bif (decide (v2<(a0.length:Int)))then(if(0:Int)≤v2∧v2<(a0.length:Int)then((Ap8 K (gt a0 v2) v1).bind fun r3=>(bif (decide (r3<0))then some (-1)else(Aqa K a0 n1 r3 (Aoa .i64 v2 1))))else none)else some v1)
def Asj (K:Nat)(a0:List Bc)(a1:Int):Option (Int):=(bif (decide ((Aob .i64 a1 (a0.length:Int))<0))then some (-1)else(Aqa K a0 K (Aob .i64 a1 (a0.length:Int)) 0))
def s_5:Sig:=⟨[.v 49,.v 3],[.v 3],true⟩
def c_5 (K:Nat):Gb tyU:=⟨s_5,Asj K⟩
def x_5 (K:Nat):=xF s_5 [(128,c_4 K)] [] 27 [] [] [] [] [.tmp 4]
def A7b:E5:=⟨[(0,.v 49),(1,.v 2),(5,.v 2)],[]⟩
def A7c (K:Nat)(n:Nat)(q:PT A7b):Rt s_5:=Aqa K q.1 n q.2.1 q.2.2.1
theorem Blv (K:Nat):AtL (x_5 K) (fun n=>[]) [] (bd Tryz.f61) 122 (A7c K):=fun n q=>by kernel_rfl
theorem Bv1 (K:Nat):XF [.tmp 4] s_5 27 [] (x_5 K):=xkF (gC (B2t K) gN) oN
theorem Blw (K:Nat)(n:Nat):CF [.tmp 4] s_5 27 [] (bd Tryz.f61) [] 122 (ar A7b (A7c K n)):=
 Aeh (Bv1 K) (Blv K) (fun n=>kN) n
theorem B2v (K:Nat):OkF 61 (c_5 K):=
 Aa6 (x:=x_5 K) (L:=[(122,ar A7b (A7c K K))]) (c0:=bd Tryz.f61) (Bv1 K) (by intro a0 a1;show @Eq _ _ _;kernel_rfl) (kC (Blw K K) kN) Tryz.func61 trivial
def Apt (K:Nat)(a0:Ay)(a1:Int):Option (Int):=((An1 K a0.Dg a1).bind fun r1=>(bif (decide (r1<0))then some (-1)else((An1 K a0.Ae r1).bind fun r2=>(bif (decide (r2<0))then some (-1)else some r2))))
def s_6:Sig:=⟨[.v 157,.v 3],[.v 3],true⟩
def c_6 (K:Nat):Gb tyU:=⟨s_6,Apt K⟩
def x_6 (K:Nat):=xF s_6 [(63,c_1 K)] [] 18 [] [] [] [] [.tmp 4]
theorem B2w (K:Nat):OkF 129 (c_6 K):=
 Aa6 (x:=x_6 K) (L:=[]) (c0:=bd Tryz.f129) (xkF (gC (Blu K) gN) oN) (by intro a0 a1;show @Eq _ _ _;kernel_rfl) kN Tryz.func129 trivial
def Apw (K:Nat)(a0:List Ay):Nat->Int->Int->Option (Int)
 |0,_,_=>none
 |n1+1,v1,v2=>(bif (decide (v2<(a0.length:Int)))then(if(0:Int)≤v2∧v2<(a0.length:Int)then((Apt K (gt a0 v2) v1).bind fun r3=>(bif (decide (r3<0))then some (-1)else(Apw K a0 n1 r3 (Aoa .i64 v2 1))))else none)else some v1)
def Ary (K:Nat)(a0:List Ay)(a1:Int):Option (Int):=(bif (decide ((Aob .i64 a1 (a0.length:Int))<0))then some (-1)else(Apw K a0 K (Aob .i64 a1 (a0.length:Int)) 0))
def s_7:Sig:=⟨[.v 50,.v 3],[.v 3],true⟩
def c_7 (K:Nat):Gb tyU:=⟨s_7,Ary K⟩
def x_7 (K:Nat):=xF s_7 [(129,c_6 K)] [] 27 [] [] [] [] [.tmp 4]
def A7d:E5:=⟨[(0,.v 50),(1,.v 2),(5,.v 2)],[]⟩
def A7e (K:Nat)(n:Nat)(q:PT A7d):Rt s_7:=Apw K q.1 n q.2.1 q.2.2.1
theorem Blx (K:Nat):AtL (x_7 K) (fun n=>[]) [] (bd Tryz.f62) 122 (A7e K):=fun n q=>by kernel_rfl
theorem Bv2 (K:Nat):XF [.tmp 4] s_7 27 [] (x_7 K):=xkF (gC (B2w K) gN) oN
theorem Bly (K:Nat)(n:Nat):CF [.tmp 4] s_7 27 [] (bd Tryz.f62) [] 122 (ar A7d (A7e K n)):=
 Aeh (Bv2 K) (Blx K) (fun n=>kN) n
theorem B2y (K:Nat):OkF 62 (c_7 K):=
 Aa6 (x:=x_7 K) (L:=[(122,ar A7d (A7e K K))]) (c0:=bd Tryz.f62) (Bv2 K) (by intro a0 a1;show @Eq _ _ _;kernel_rfl) (kC (Bly K K) kN) Tryz.func62 trivial
def Aqd (K:Nat)(a0:Ec)(a1:Int):Option (Int):=((Atl K a0.fP a1).bind fun r1=>(bif (decide (r1<0))then some (-1)else((Asj K a0.fL r1).bind fun r2=>(bif (decide (r2<0))then some (-1)else((Ary K a0.fQ r2).bind fun r3=>(bif (decide (r3<0))then some (-1)else((An1 K a0.Pr r3).bind fun r4=>(bif (decide (r4<0))then some (-1)else some r4))))))))
def s_8:Sig:=⟨[.v 52,.v 3],[.v 3],true⟩
def c_8 (K:Nat):Gb tyU:=⟨s_8,Aqd K⟩
def x_8 (K:Nat):=xF s_8 [(60,c_2 K),(61,c_5 K),(62,c_7 K),(63,c_1 K)] [] 30 [] [] [] [] [.tmp 4]
theorem B2z (K:Nat):OkF 18 (c_8 K):=
 Aa6 (x:=x_8 K) (L:=[]) (c0:=bd Tryz.f18) (xkF (gC (B2r K) (gC (B2v K) (gC (B2y K) (gC (Blu K) gN)))) oN) (by intro a0 a1;show @Eq _ _ _;kernel_rfl) kN Tryz.func18 trivial
def Ax1 (K:Nat)(a0:Es):Option (Er):=some (Er.mk a0.Ae a0.Eg a0.C0 a0.E9 a0.C1 a0.Eh)
def s_9:Sig:=⟨[.v 47],[.v 25],true⟩
def c_9 (K:Nat):Gb tyU:=⟨s_9,Ax1 K⟩
def x_9 (K:Nat):=xF s_9 [] [] 23 [] [] [] [] [.cell 2 25]
theorem B20 (K:Nat):OkF 65 (c_9 K):=
 Aa6 (x:=x_9 K) (L:=[]) (c0:=bd Tryz.f65) (xkF gN oN) (by intro a0;show @Eq _ _ _;kernel_rfl) kN Tryz.func65 trivial
def Asx (K:Nat)(a0:List Int):Nat->(List Int)->Int->Option ((List Int))
 |0,_,_=>none
 |n1+1,v1,v2=>(bif (decide (v2<(a0.length:Int)))then(if(0:Int)≤v2∧v2<(a0.length:Int)then(if(0:Int)≤v2∧v2<(v1.length:Int)then(Asx K a0 n1 (v1.set v2.toNat (gt a0 v2)) (Aoa .i64 v2 1))else none)else none)else some v1)
def Auu (K:Nat)(a0:List Int):Option ((List Int)):=(if(0:Int)≤(a0.length:Int)∧(a0.length:Int)≤(a0.length:Int)∧(1:Int)*(a0.length:Int)≤281474976710656∧(a0.length:Int)≤9223372036854775807 then(Asx K a0 K (List.replicate (a0.length:Int).toNat 0) 0)else none)
def s_10:Sig:=⟨[.v 22],[.n 22 true],true⟩
def Bv3 (K:Nat):Gb tyU:=⟨s_10,Auu K⟩
def Bsw (K:Nat):=xF s_10 [] [] 22 [] [] [] [] [.tmp 2]
def A7f:E5:=⟨[(0,.v 22),(3,.o 1003 5 true),(4,.v 2)],[]⟩
def A7g (K:Nat)(n:Nat)(q:PT A7f):Rt s_10:=Asx K q.1 n q.2.1 q.2.2.1
theorem Blz (K:Nat):AtL (Bsw K) (fun n=>[]) [] (bd Tryz.f46) 58 (A7g K):=fun n q=>by kernel_rfl
theorem Bos (K:Nat):XF [.tmp 2] s_10 22 [] (Bsw K):=xkF gN oN
theorem Bl0 (K:Nat)(n:Nat):CF [.tmp 2] s_10 22 [] (bd Tryz.f46) [] 58 (ar A7f (A7g K n)):=
 Aeh (Bos K) (Blz K) (fun n=>kN) n
theorem Bv4 (K:Nat):OkF 46 (Bv3 K):=
 Aa6 (x:=Bsw K) (L:=[(58,ar A7f (A7g K K))]) (c0:=bd Tryz.f46) (Bos K) (by intro a0;show @Eq _ _ _;kernel_rfl) (kC (Bl0 K K) kN) Tryz.func46 trivial
def Atu (K:Nat)(a0:List Int):Nat->(List Int)->Int->Option ((List Int))
 |0,_,_=>none
 |n1+1,v1,v2=>(bif (decide (v2<(a0.length:Int)))then(if(0:Int)≤v2∧v2<(a0.length:Int)then(if(0:Int)≤v2∧v2<(v1.length:Int)then(Atu K a0 n1 (v1.set v2.toNat (gt a0 v2)) (Aoa .i64 v2 1))else none)else none)else some v1)
def An2 (K:Nat)(a0:List Int):Option ((List Int)):=(if(0:Int)≤(a0.length:Int)∧(a0.length:Int)≤(a0.length:Int)∧(8:Int)*(a0.length:Int)≤281474976710656∧(a0.length:Int)≤9223372036854775807 then(Atu K a0 K (List.replicate (a0.length:Int).toNat 0) 0)else none)
def s_11:Sig:=⟨[.v 26],[.n 26 true],true⟩
def Bfl (K:Nat):Gb tyU:=⟨s_11,An2 K⟩
def Bsx (K:Nat):=xF s_11 [] [] 22 [] [] [] [] [.tmp 2]
def A7h:E5:=⟨[(0,.v 26),(3,.o 1003 3 true),(4,.v 2)],[]⟩
def A7i (K:Nat)(n:Nat)(q:PT A7h):Rt s_11:=Atu K q.1 n q.2.1 q.2.2.1
theorem Bl1 (K:Nat):AtL (Bsx K) (fun n=>[]) [] (bd Tryz.f69) 58 (A7i K):=fun n q=>by kernel_rfl
theorem Bou (K:Nat):XF [.tmp 2] s_11 22 [] (Bsx K):=xkF gN oN
theorem Bl2 (K:Nat)(n:Nat):CF [.tmp 2] s_11 22 [] (bd Tryz.f69) [] 58 (ar A7h (A7i K n)):=
 Aeh (Bou K) (Bl1 K) (fun n=>kN) n
theorem Bco (K:Nat):OkF 69 (Bfl K):=
 Aa6 (x:=Bsx K) (L:=[(58,ar A7h (A7i K K))]) (c0:=bd Tryz.f69) (Bou K) (by intro a0;show @Eq _ _ _;kernel_rfl) (kC (Bl2 K K) kN) Tryz.func69 trivial
def Ax2 (K:Nat)(a0:Dx):Option (Dw):=((Auu K a0.Fy).bind fun r1=>((An2 K a0.Hh).bind fun r2=>((An2 K a0.Fz).bind fun r3=>some (Dw.mk r1 r2 r3))))
def Bv5:Sig:=⟨[.v 48],[.n 28 true],true⟩
def Bv6 (K:Nat):Gb tyU:=⟨Bv5,Ax2 K⟩
def B21 (K:Nat):=xF Bv5 [(46,Bv3 K),(69,Bfl K)] [] 17 [] [] [] [] [.cell 2 28]
theorem Bv7 (K:Nat):OkF 66 (Bv6 K):=
 Aa6 (x:=B21 K) (L:=[]) (c0:=bd Tryz.f66) (xkF (gC (Bv4 K) (gC (Bco K) gN)) oN) (by intro a0;show @Eq _ _ _;kernel_rfl) kN Tryz.func66 trivial
def Axa (K:Nat)(a0:Bb):Option (A9):=some (A9.mk a0.fAt a0.Vu a0.Vv)
def Bv8:Sig:=⟨[.v 222],[.v 89],true⟩
def Bv9 (K:Nat):Gb tyU:=⟨Bv8,Axa K⟩
def B22 (K:Nat):=xF Bv8 [] [] 14 [] [] [] [] [.cell 2 89]
theorem Bwa (K:Nat):OkF 260 (Bv9 K):=
 Aa6 (x:=B22 K) (L:=[]) (c0:=bd Tryz.f260) (xkF gN oN) (by intro a0;show @Eq _ _ _;kernel_rfl) kN Tryz.func260 trivial
def Ar8 (K:Nat)(a0:List Bb):Nat->(List A9)->Int->Option ((List A9))
 |0,_,_=>none
 |n1+1,v1,v2=>(bif (decide (v2<(a0.length:Int)))then(if(0:Int)≤v2∧v2<(a0.length:Int)then((Axa K (gt a0 v2)).bind fun r3=>(if(0:Int)≤v2∧v2<(v1.length:Int)then(Ar8 K a0 n1 (v1.set v2.toNat r3) (Aoa .i64 v2 1))else none))else none)else some v1)
def Atv (K:Nat)(a0:List Bb):Option ((List A9)):=(if(0:Int)≤(a0.length:Int)∧(a0.length:Int)≤(a0.length:Int)∧(24:Int)*(a0.length:Int)≤281474976710656∧(a0.length:Int)≤9223372036854775807 then(Ar8 K a0 K (List.replicate (a0.length:Int).toNat (A9.mk 0 0 0)) 0)else none)
def s_14:Sig:=⟨[.v 152],[.n 41 true],true⟩
def Bwb (K:Nat):Gb tyU:=⟨s_14,Atv K⟩
def Bsy (K:Nat):=xF s_14 [(260,Bv9 K)] [] 23 [] [] [] [] [.tmp 2]
def A7j:E5:=⟨[(0,.v 152),(3,.o 1003 89 true),(4,.v 2)],[]⟩
def A7k (K:Nat)(n:Nat)(q:PT A7j):Rt s_14:=Ar8 K q.1 n q.2.1 q.2.2.1
theorem Bl3 (K:Nat):AtL (Bsy K) (fun n=>[]) [] (bd Tryz.f204) 58 (A7k K):=fun n q=>by kernel_rfl
theorem Bov (K:Nat):XF [.tmp 2] s_14 23 [] (Bsy K):=xkF (gC (Bwa K) gN) oN
theorem Bl4 (K:Nat)(n:Nat):CF [.tmp 2] s_14 23 [] (bd Tryz.f204) [] 58 (ar A7j (A7k K n)):=
 Aeh (Bov K) (Bl3 K) (fun n=>kN) n
theorem Bwc (K:Nat):OkF 204 (Bwb K):=
 Aa6 (x:=Bsy K) (L:=[(58,ar A7j (A7k K K))]) (c0:=bd Tryz.f204) (Bov K) (by intro a0;show @Eq _ _ _;kernel_rfl) (kC (Bl4 K K) kN) Tryz.func204 trivial
def Atm (K:Nat)(a0:Bc):Option (Ba):=((An2 K a0.Ae).bind fun r1=>((Atv K a0.Ea).bind fun r2=>((An2 K a0.Dg).bind fun r3=>some (Ba.mk a0.Hh a0.C2 a0.Ly a0.fUp a0.Gq a0.Bt a0.Gr a0.Gs r1 a0.Pq a0.Gt r2 r3))))
def Bwd:Sig:=⟨[.v 154],[.n 44 true],true⟩
def Bwe (K:Nat):Gb tyU:=⟨Bwd,Atm K⟩
def B23 (K:Nat):=xF Bwd [(69,Bfl K),(204,Bwb K)] [] 47 [] [] [] [] [.cell 2 44]
theorem Bwf (K:Nat):OkF 131 (Bwe K):=
 Aa6 (x:=B23 K) (L:=[]) (c0:=bd Tryz.f131) (xkF (gC (Bco K) (gC (Bwc K) gN)) oN) (by intro a0;show @Eq _ _ _;kernel_rfl) kN Tryz.func131 trivial
def Asy (K:Nat)(a0:List Bc):Nat->(List Ba)->Int->Option ((List Ba))
 |0,_,_=>none
 |n1+1,v1,v2=>(bif (decide (v2<(a0.length:Int)))then(if(0:Int)≤v2∧v2<(a0.length:Int)then((Atm K (gt a0 v2)).bind fun r3=>(if(0:Int)≤v2∧v2<(v1.length:Int)then(Asy K a0 n1 (v1.set v2.toNat r3) (Aoa .i64 v2 1))else none))else none)else some v1)
def Auv (K:Nat)(a0:List Bc):Option ((List Ba)):=(if(0:Int)≤(a0.length:Int)∧(a0.length:Int)≤(a0.length:Int)∧(152:Int)*(a0.length:Int)≤281474976710656∧(a0.length:Int)≤9223372036854775807 then(Asy K a0 K (List.replicate (a0.length:Int).toNat (Ba.mk 0 0 0 0 0 0 0 0 [] 0 0 [] [])) 0)else none)
def s_16:Sig:=⟨[.v 49],[.n 29 true],true⟩
def Bwg (K:Nat):Gb tyU:=⟨s_16,Auv K⟩
def Bsz (K:Nat):=xF s_16 [(131,Bwe K)] [] 23 [] [] [] [] [.tmp 2]
def A7l:E5:=⟨[(0,.v 49),(3,.o 1003 44 true),(4,.v 2)],[]⟩
def A7m (K:Nat)(n:Nat)(q:PT A7l):Rt s_16:=Asy K q.1 n q.2.1 q.2.2.1
theorem Bl5 (K:Nat):AtL (Bsz K) (fun n=>[]) [] (bd Tryz.f67) 58 (A7m K):=fun n q=>by kernel_rfl
theorem Bow (K:Nat):XF [.tmp 2] s_16 23 [] (Bsz K):=xkF (gC (Bwf K) gN) oN
theorem Bl6 (K:Nat)(n:Nat):CF [.tmp 2] s_16 23 [] (bd Tryz.f67) [] 58 (ar A7l (A7m K n)):=
 Aeh (Bow K) (Bl5 K) (fun n=>kN) n
theorem Bwh (K:Nat):OkF 67 (Bwg K):=
 Aa6 (x:=Bsz K) (L:=[(58,ar A7l (A7m K K))]) (c0:=bd Tryz.f67) (Bow K) (by intro a0;show @Eq _ _ _;kernel_rfl) (kC (Bl6 K K) kN) Tryz.func67 trivial
def Ask (K:Nat)(a0:Ay):Option (Ax):=((An2 K a0.Dg).bind fun r1=>((An2 K a0.Ae).bind fun r2=>some (Ax.mk a0.A5 a0.Bt r1 r2 a0.Gu)))
def Bwi:Sig:=⟨[.v 157],[.n 159 true],true⟩
def Bwj (K:Nat):Gb tyU:=⟨Bwi,Ask K⟩
def B24 (K:Nat):=xF Bwi [(69,Bfl K)] [] 22 [] [] [] [] [.cell 2 159]
theorem Bwk (K:Nat):OkF 132 (Bwj K):=
 Aa6 (x:=B24 K) (L:=[]) (c0:=bd Tryz.f132) (xkF (gC (Bco K) gN) oN) (by intro a0;show @Eq _ _ _;kernel_rfl) kN Tryz.func132 trivial
def Ar9 (K:Nat)(a0:List Ay):Nat->(List Ax)->Int->Option ((List Ax))
 |0,_,_=>none
 |n1+1,v1,v2=>(bif (decide (v2<(a0.length:Int)))then(if(0:Int)≤v2∧v2<(a0.length:Int)then((Ask K (gt a0 v2)).bind fun r3=>(if(0:Int)≤v2∧v2<(v1.length:Int)then(Ar9 K a0 n1 (v1.set v2.toNat r3) (Aoa .i64 v2 1))else none))else none)else some v1)
def Atw (K:Nat)(a0:List Ay):Option ((List Ax)):=(if(0:Int)≤(a0.length:Int)∧(a0.length:Int)≤(a0.length:Int)∧(72:Int)*(a0.length:Int)≤281474976710656∧(a0.length:Int)≤9223372036854775807 then(Ar9 K a0 K (List.replicate (a0.length:Int).toNat (Ax.mk 0 0 [] [] 0)) 0)else none)
def s_18:Sig:=⟨[.v 50],[.n 30 true],true⟩
def Bwl (K:Nat):Gb tyU:=⟨s_18,Atw K⟩
def Bs0 (K:Nat):=xF s_18 [(132,Bwj K)] [] 23 [] [] [] [] [.tmp 2]
def A7n:E5:=⟨[(0,.v 50),(3,.o 1003 159 true),(4,.v 2)],[]⟩
def A7o (K:Nat)(n:Nat)(q:PT A7n):Rt s_18:=Ar9 K q.1 n q.2.1 q.2.2.1
theorem Bl7 (K:Nat):AtL (Bs0 K) (fun n=>[]) [] (bd Tryz.f68) 58 (A7o K):=fun n q=>by kernel_rfl
theorem Box (K:Nat):XF [.tmp 2] s_18 23 [] (Bs0 K):=xkF (gC (Bwk K) gN) oN
theorem Bl8 (K:Nat)(n:Nat):CF [.tmp 2] s_18 23 [] (bd Tryz.f68) [] 58 (ar A7n (A7o K n)):=
 Aeh (Box K) (Bl7 K) (fun n=>kN) n
theorem Bwm (K:Nat):OkF 68 (Bwl K):=
 Aa6 (x:=Bs0 K) (L:=[(58,ar A7n (A7o K K))]) (c0:=bd Tryz.f68) (Box K) (by intro a0;show @Eq _ _ _;kernel_rfl) (kC (Bl8 K K) kN) Tryz.func68 trivial
def Aqe (K:Nat)(a0:Ec):Option (Eb):=((Ax1 K a0.fC).bind fun r1=>((Ax2 K a0.fP).bind fun r2=>((Auv K a0.fL).bind fun r3=>((Atw K a0.fQ).bind fun r4=>((An2 K a0.Pr).bind fun r5=>some (Eb.mk r1 r2 r3 r4 r5))))))
def Bwn:Sig:=⟨[.v 52],[.n 32 true],true⟩
def Bwo (K:Nat):Gb tyU:=⟨Bwn,Aqe K⟩
def B25 (K:Nat):=xF Bwn [(65,c_9 K),(66,Bv6 K),(67,Bwg K),(68,Bwl K),(69,Bfl K)] [] 25 [] [] [] [] [.cell 2 32]
theorem Bwp (K:Nat):OkF 20 (Bwo K):=
 Aa6 (x:=B25 K) (L:=[]) (c0:=bd Tryz.f20) (xkF (gC (B20 K) (gC (Bv7 K) (gC (Bwh K) (gC (Bwm K) (gC (Bco K) gN))))) oN) (by intro a0;show @Eq _ _ _;kernel_rfl) kN Tryz.func20 trivial
def Awr (K:Nat)(a0:Dn):Option (Ct):=some (Ct.mk a0.A5 a0.C2)
def Bwq:Sig:=⟨[.v 53],[.v 34],true⟩
def Bwr (K:Nat):Gb tyU:=⟨Bwq,Awr K⟩
def B26 (K:Nat):=xF Bwq [] [] 11 [] [] [] [] [.cell 2 34]
theorem Bws (K:Nat):OkF 21 (Bwr K):=
 Aa6 (x:=B26 K) (L:=[]) (c0:=bd Tryz.f21) (xkF gN oN) (by intro a0;show @Eq _ _ _;kernel_rfl) kN Tryz.func21 trivial
def Auw (K:Nat)(a0:Ge):Option (Fg):=((Awr K a0.fH).bind fun r1=>some (Fg.mk r1 a0.Ly a0.fNo))
def Bwt:Sig:=⟨[.v 61],[.v 36],true⟩
def Bwu (K:Nat):Gb tyU:=⟨Bwt,Auw K⟩
def B27 (K:Nat):=xF Bwt [(21,Bwr K)] [] 15 [] [] [] [] [.cell 2 36]
theorem Bwv (K:Nat):OkF 25 (Bwu K):=
 Aa6 (x:=B27 K) (L:=[]) (c0:=bd Tryz.f25) (xkF (gC (Bws K) gN) oN) (by intro a0;show @Eq _ _ _;kernel_rfl) kN Tryz.func25 trivial
def Av1 (K:Nat)(a0:Dw):Option (Dw):=(if(([]:List Int)++a0.Fy).length*1≤140737488355328∧(([]:List Int)++a0.Fy).length≤maxLen then(if(([]:List Int)++a0.Hh).length*8≤140737488355328∧(([]:List Int)++a0.Hh).length≤maxLen then(if(([]:List Int)++a0.Fz).length*8≤140737488355328∧(([]:List Int)++a0.Fz).length≤maxLen then some (Dw.mk (([]:List Int)++a0.Fy) (([]:List Int)++a0.Hh) (([]:List Int)++a0.Fz))else none)else none)else none)
def Bww:Sig:=⟨[.v 28],[.n 28 true],true⟩
def Bwx (K:Nat):Gb tyU:=⟨Bww,Av1 K⟩
def B28 (K:Nat):=xF Bww [] [] 16 [] [] [] [] [.cell 2 28]
theorem Bwy (K:Nat):OkF 137 (Bwx K):=
 Aa6 (x:=B28 K) (L:=[]) (c0:=bd Tryz.f137) (xkF gN oN) (by intro a0;show @Eq _ _ _;kernel_rfl) kN Tryz.func137 trivial
def Av2 (K:Nat)(a0:Ba):Option (Ba):=(if(([]:List Int)++a0.Ae).length*8≤140737488355328∧(([]:List Int)++a0.Ae).length≤maxLen then(if(([]:List A9)++a0.Ea).length*24≤140737488355328∧(([]:List A9)++a0.Ea).length≤maxLen then(if(([]:List Int)++a0.Dg).length*8≤140737488355328∧(([]:List Int)++a0.Dg).length≤maxLen then some (Ba.mk a0.Hh a0.C2 a0.Ly a0.fUp a0.Gq a0.Bt a0.Gr a0.Gs (([]:List Int)++a0.Ae) a0.Pq a0.Gt (([]:List A9)++a0.Ea) (([]:List Int)++a0.Dg))else none)else none)else none)
def Bwz:Sig:=⟨[.v 44],[.n 44 true],true⟩
def Bw0 (K:Nat):Gb tyU:=⟨Bwz,Av2 K⟩
def B29 (K:Nat):=xF Bwz [] [] 21 [] [] [] [] [.cell 2 44]
theorem Bw1 (K:Nat):OkF 209 (Bw0 K):=
 Aa6 (x:=B29 K) (L:=[]) (c0:=bd Tryz.f209) (xkF gN oN) (by intro a0;show @Eq _ _ _;kernel_rfl) kN Tryz.func209 trivial
def Aqf (K:Nat)(a0:List Ba):Nat->(List Ba)->Int->Option ((List Ba))
 |0,_,_=>none
 |n1+1,v1,v2=>(bif (decide (v2<(a0.length:Int)))then(if(0:Int)≤v2∧v2<(a0.length:Int)then((Av2 K (gt a0 v2)).bind fun r3=>(if(v1++[r3]).length*152≤140737488355328∧(v1++[r3]).length≤maxLen then(Aqf K a0 n1 (v1++[r3]) (Aoa .i64 v2 1))else none))else none)else some v1)
def Awz (K:Nat)(a0:List Ba):Option ((List Ba)):=(Aqf K a0 K ([]:List Ba) 0)
def s_24:Sig:=⟨[.v 29],[.n 29 true],true⟩
def Bw2 (K:Nat):Gb tyU:=⟨s_24,Awz K⟩
def Bs1 (K:Nat):=xF s_24 [(209,Bw0 K)] [] 23 [] [] [(20,[.put 3020])] [] [.tmp 2]
def A7p:E5:=⟨[(0,.v 29),(3,.o 1003 44 true),(4,.v 2)],[]⟩
def A7q (K:Nat)(n:Nat)(q:PT A7p):Rt s_24:=Aqf K q.1 n q.2.1 q.2.2.1
theorem Bl9 (K:Nat):AtL (Bs1 K) (fun n=>[]) [] (bd Tryz.f138) 58 (A7q K):=fun n q=>by kernel_rfl
theorem Boy (K:Nat):XF [.tmp 2] s_24 23 [] (Bs1 K):=xkF (gC (Bw1 K) gN) oN
theorem Bma (K:Nat)(n:Nat):CF [.tmp 2] s_24 23 [] (bd Tryz.f138) [] 58 (ar A7p (A7q K n)):=
 Aeh (Boy K) (Bl9 K) (fun n=>kN) n
theorem Bw3 (K:Nat):OkF 138 (Bw2 K):=
 Aa6 (x:=Bs1 K) (L:=[(58,ar A7p (A7q K K))]) (c0:=bd Tryz.f138) (Boy K) (by intro a0;show @Eq _ _ _;kernel_rfl) (kC (Bma K K) kN) Tryz.func138 trivial
def Aux (K:Nat)(a0:Ax):Option (Ax):=(if(([]:List Int)++a0.Dg).length*8≤140737488355328∧(([]:List Int)++a0.Dg).length≤maxLen then(if(([]:List Int)++a0.Ae).length*8≤140737488355328∧(([]:List Int)++a0.Ae).length≤maxLen then some (Ax.mk a0.A5 a0.Bt (([]:List Int)++a0.Dg) (([]:List Int)++a0.Ae) a0.Gu)else none)else none)
def Bw4:Sig:=⟨[.v 159],[.n 159 true],true⟩
def Bw5 (K:Nat):Gb tyU:=⟨Bw4,Aux K⟩
def B3a (K:Nat):=xF Bw4 [] [] 16 [] [] [] [] [.cell 2 159]
theorem Bw6 (K:Nat):OkF 139 (Bw5 K):=
 Aa6 (x:=B3a K) (L:=[]) (c0:=bd Tryz.f139) (xkF gN oN) (by intro a0;show @Eq _ _ _;kernel_rfl) kN Tryz.func139 trivial
def Apl (K:Nat):Nat->Int->Int->Int->Int->Int->Int->Int->(List Int)->(List Int)->(List Int)->(List Ba)->(List Ax)->(List Int)->Eb->Int->Int->Int->Int->Int->Int->(List Int)->(List Int)->(List Int)->(List Ba)->(List Ax)->(List Int)->Option (Eb)
 |0,_,_,_,_,_,_,_,_,_,_,_,_,_,_,_,_,_,_,_,_,_,_,_,_,_,_=>none
 |n1+1,v3,v4,v5,v6,v7,v8,v9,v10,v11,v12,v13,v14,v15,v16,v17,v18,v19,v20,v21,v22,v23,v24,v25,v26,v27,v28=>(bif (decide (v3<(v27.length:Int)))then(if(0:Int)≤v3∧v3<(v27.length:Int)then((Aux K (gt v27 v3)).bind fun r29=>(if(v14++[r29]).length*72≤140737488355328∧(v14++[r29]).length≤maxLen then(Apl K n1 (Aoa .i64 v3 1) v4 v5 v6 v7 v8 v9 v10 v11 v12 v13 (v14++[r29]) v15 v16 v17 v18 v19 v20 v21 v22 v23 v24 v25 v26 v27 v28)else none))else none)else(if(([]:List Int)++v28).length*8≤140737488355328∧(([]:List Int)++v28).length≤maxLen then some (Eb.mk (Er.mk v4 v5 v6 v7 v8 v9) (Dw.mk v10 v11 v12) v13 v14 (([]:List Int)++v28))else none))
def Auy (K:Nat)(a0:Eb):Option (Eb):=((Av1 K a0.fP).bind fun r1=>((Awz K a0.fL).bind fun r2=>(Apl K K 0 a0.fC.Ae a0.fC.Eg a0.fC.C0 a0.fC.E9 a0.fC.C1 a0.fC.Eh r1.Fy r1.Hh r1.Fz r2 ([]:List Ax) a0.Pr (Eb.mk (Er.mk 0 0 0 0 0 0) (Dw.mk [] [] []) [] [] []) a0.fC.Ae a0.fC.Eg a0.fC.C0 a0.fC.E9 a0.fC.C1 a0.fC.Eh a0.fP.Fy a0.fP.Hh a0.fP.Fz a0.fL a0.fQ a0.Pr)))
def s_26:Sig:=⟨[.v 32],[.n 32 true],true⟩
def Bw7 (K:Nat):Gb tyU:=⟨s_26,Auy K⟩
def Bs2 (K:Nat):=xF s_26 [(137,Bwx K),(138,Bw2 K),(139,Bw5 K)] [] 42 [] [(9,[.take 103 10 6658]),(11,[.take 103 6 6654,.take 103 7 6655,.take 103 8 6656,.take 103 9 6657,.take 103 10 6658])] [(33,[.put 3033])] [] [.cell 2 32]
def A2z:E5:=⟨[(1,.p 101),(2,.p 102),(3,.p 103),(4,.v 2)],[(103,.box [.v 2,.v 2,.v 2,.v 2,.v 2,.v 2,.T 5 true,.T 3 true,.T 3 true,.T 44 true,.T 159 true,.v 26]),(102,.st 32 true),(101,.box [.v 2,.v 2,.v 2,.v 2,.v 2,.v 2,.v 22,.v 26,.v 26,.v 29,.v 30,.v 26])]⟩
def A20 (K:Nat)(n:Nat)(q:PT A2z):Rt s_26:=Apl K n q.1 q.2.1 q.2.2.1 q.2.2.2.1 q.2.2.2.2.1 q.2.2.2.2.2.1 q.2.2.2.2.2.2.1 q.2.2.2.2.2.2.2.1 q.2.2.2.2.2.2.2.2.1 q.2.2.2.2.2.2.2.2.2.1 q.2.2.2.2.2.2.2.2.2.2.1 q.2.2.2.2.2.2.2.2.2.2.2.1 q.2.2.2.2.2.2.2.2.2.2.2.2.1 q.2.2.2.2.2.2.2.2.2.2.2.2.2.1 q.2.2.2.2.2.2.2.2.2.2.2.2.2.2.1 q.2.2.2.2.2.2.2.2.2.2.2.2.2.2.2.1 q.2.2.2.2.2.2.2.2.2.2.2.2.2.2.2.2.1 q.2.2.2.2.2.2.2.2.2.2.2.2.2.2.2.2.2.1 q.2.2.2.2.2.2.2.2.2.2.2.2.2.2.2.2.2.2.1 q.2.2.2.2.2.2.2.2.2.2.2.2.2.2.2.2.2.2.2.1 q.2.2.2.2.2.2.2.2.2.2.2.2.2.2.2.2.2.2.2.2.1 q.2.2.2.2.2.2.2.2.2.2.2.2.2.2.2.2.2.2.2.2.2.1 q.2.2.2.2.2.2.2.2.2.2.2.2.2.2.2.2.2.2.2.2.2.2.1 q.2.2.2.2.2.2.2.2.2.2.2.2.2.2.2.2.2.2.2.2.2.2.2.1 q.2.2.2.2.2.2.2.2.2.2.2.2.2.2.2.2.2.2.2.2.2.2.2.2.1 q.2.2.2.2.2.2.2.2.2.2.2.2.2.2.2.2.2.2.2.2.2.2.2.2.2.1
theorem Bfm (K:Nat):AtL (Bs2 K) (fun n=>[]) [] (bd Tryz.f82) 506 (A20 K):=fun n q=>by kernel_rfl
theorem Boz (K:Nat):XF [.cell 2 32] s_26 42 [] (Bs2 K):=xkF (gC (Bwy K) (gC (Bw3 K) (gC (Bw6 K) gN))) oN
theorem Bfn (K:Nat)(n:Nat):CF [.cell 2 32] s_26 42 [] (bd Tryz.f82) [] 506 (ar A2z (A20 K n)):=
 Aeh (Boz K) (Bfm K) (fun n=>kN) n
theorem Bw8 (K:Nat):OkF 82 (Bw7 K):=
 Aa6 (x:=Bs2 K) (L:=[(506,ar A2z (A20 K K))]) (c0:=bd Tryz.f82) (Boz K) (by intro a0;show @Eq _ _ _;kernel_rfl) (kC (Bfn K K) kN) Tryz.func82 trivial
def Ac1 (K:Nat)(a0:Int)(a1:Int)(a2:Int):Option (Bool):=(bif (decide (a0≥a1))then some (decide (a0≤a2))else some false)
def Bw9:Sig:=⟨[.v 3,.v 3,.v 3],[.v 4],true⟩
def A6b (K:Nat):Gb tyU:=⟨Bw9,Ac1 K⟩
def B3b (K:Nat):=xF Bw9 [] [] 15 [9,10] [] [] [] [.tmp 6]
theorem A0v (K:Nat):OkF 84 (A6b K):=
 Aa6 (x:=B3b K) (L:=[]) (c0:=bd Tryz.f84) (xkF gN oN) (by intro a0 a1 a2;show @Eq _ _ _;kernel_rfl) kN Tryz.func84 trivial
def Aq3 (K:Nat)(a0:Er):Option (Bool):=((Ac1 K a0.Ae 2 12).bind fun r1=>(bif r1 then((Ac1 K a0.Eg 8 16).bind fun r2=>(bif r2 then((Ac1 K a0.C0 2 8).bind fun r3=>(bif r3 then((Ac1 K a0.E9 1 8).bind fun r4=>(bif r4 then((Ac1 K a0.C1 1 16).bind fun r5=>(bif r5 then((Ac1 K a0.Eh 1 4).bind fun r6=>some r6)else some false))else some false))else some false))else some false))else some false))
def Bxa:Sig:=⟨[.v 25],[.v 4],true⟩
def Bfo (K:Nat):Gb tyU:=⟨Bxa,Aq3 K⟩
def B3c (K:Nat):=xF Bxa [(84,A6b K)] [] 31 [5,6,9,10,11,14,15,16,19,20,21,24,25,26] [] [] [] [.tmp 2]
theorem Bcp (K:Nat):OkF 210 (Bfo K):=
 Aa6 (x:=B3c K) (L:=[]) (c0:=bd Tryz.f210) (xkF (gC (A0v K) gN) oN) (by intro a0;show @Eq _ _ _;kernel_rfl) kN Tryz.func210 trivial
def Asl (K:Nat)(a0:Er):Option (Int):=((Aq3 K a0).bind fun r1=>(bif (!r1)then some 0 else some (Aoc .i64 a0.Ae a0.Eg)))
def Bxb:Sig:=⟨[.v 25],[.v 3],true⟩
def Bs3 (K:Nat):Gb tyU:=⟨Bxb,Asl K⟩
def B3d (K:Nat):=xF Bxb [(210,Bfo K)] [] 11 [] [] [] [] [.tmp 2]
theorem Bo0 (K:Nat):OkF 211 (Bs3 K):=
 Aa6 (x:=B3d K) (L:=[]) (c0:=bd Tryz.f211) (xkF (gC (Bcp K) gN) oN) (by intro a0;show @Eq _ _ _;kernel_rfl) kN Tryz.func211 trivial
def Aqo (K:Nat)(a0:List Int):Nat->Int->Option (Bool)
 |0,_=>none
 |n1+1,v1=>(bif (decide (v1<(a0.length:Int)))then(if(0:Int)≤v1∧v1<(a0.length:Int)then(bif ((gt a0 v1) != 0)then some false else(Aqo K a0 n1 (Aoa .i64 v1 1)))else none)else some true)
def Ar4 (K:Nat)(a0:List Int):Option (Bool):=(Aqo K a0 K 0)
def s_30:Sig:=⟨[.v 22],[.v 4],true⟩
def Bmb (K:Nat):Gb tyU:=⟨s_30,Ar4 K⟩
def Bs4 (K:Nat):=xF s_30 [] [] 15 [] [] [] [] [.tmp 2]
def A7r:E5:=⟨[(0,.v 22),(3,.v 2)],[]⟩
def A7s (K:Nat)(n:Nat)(q:PT A7r):Rt s_30:=Aqo K q.1 n q.2.1
theorem Bmc (K:Nat):AtL (Bs4 K) (fun n=>[]) [] (bd Tryz.f212) 26 (A7s K):=fun n q=>by kernel_rfl
theorem Bo1 (K:Nat):XF [.tmp 2] s_30 15 [] (Bs4 K):=xkF gN oN
theorem Bmd (K:Nat)(n:Nat):CF [.tmp 2] s_30 15 [] (bd Tryz.f212) [] 26 (ar A7r (A7s K n)):=
 Aeh (Bo1 K) (Bmc K) (fun n=>kN) n
theorem Bfp (K:Nat):OkF 212 (Bmb K):=
 Aa6 (x:=Bs4 K) (L:=[(26,ar A7r (A7s K K))]) (c0:=bd Tryz.f212) (Bo1 K) (by intro a0;show @Eq _ _ _;kernel_rfl) (kC (Bmd K K) kN) Tryz.func212 trivial
def Atx (K:Nat)(v3:Int)(v4:List Int)(v5:List Int)(v6:List Int)(C1:Int->(List Int)->(List Int)->(List Int)->Option (Bool)):Option (Bool):=(C1 (Aoa .i64 v3 1) v4 v5 v6)
def Aqq (K:Nat)(a0:Er)(v3:Int)(v4:List Int)(v5:List Int)(v6:List Int)(C1:Int->(List Int)->(List Int)->(List Int)->Option (Bool)):Option (Bool):=(if(0:Int)≤v3∧v3<(v5.length:Int)then(bif ((gt v5 v3)==0)then(if(0:Int)≤(Aoc .i64 v3 a0.Eg)∧(Aoc .i64 v3 a0.Eg)≤(Aoc .i64 (Aoa .i64 v3 1) a0.Eg)∧(Aoc .i64 (Aoa .i64 v3 1) a0.Eg)≤(v4.length:Int)then((Ar4 K ((v4.drop (Aoc .i64 v3 a0.Eg).toNat).take ((Aoc .i64 (Aoa .i64 v3 1) a0.Eg) - (Aoc .i64 v3 a0.Eg)).toNat)).bind fun r9=>(bif (!r9)then some false else(Atx K v3 v4 v5 v6 (C1))))else none)else(Atx K v3 v4 v5 v6 (C1)))else none)
def Alc (K:Nat)(a0:Er):Nat->Int->(List Int)->(List Int)->(List Int)->Option (Bool)
 |0,_,_,_,_=>none
 |n1+1,v3,v4,v5,v6=>(bif (decide (v3<a0.Ae))then(if(0:Int)≤v3∧v3<(v5.length:Int)then((Ac1 K (gt v5 v3) 0 2).bind fun r7=>(bif (!r7)then some false else(if(0:Int)≤v3∧v3<(v5.length:Int)then(bif ((gt v5 v3)==1)then(if(0:Int)≤v3∧v3<(v6.length:Int)then((Ac1 K (gt v6 v3) 0 (Aob .i64 a0.C0 1)).bind fun r8=>(bif r8 then(if(0:Int)≤v3∧v3<(v5.length:Int)then(bif ((gt v5 v3) != 1)then(if(0:Int)≤v3∧v3<(v6.length:Int)then(bif ((gt v6 v3) != (-1))then some false else(Aqq K a0 v3 v4 v5 v6 (Alc K a0 n1)))else none)else(Aqq K a0 v3 v4 v5 v6 (Alc K a0 n1)))else none)else some false))else none)else(if(0:Int)≤v3∧v3<(v5.length:Int)then(bif ((gt v5 v3) != 1)then(if(0:Int)≤v3∧v3<(v6.length:Int)then(bif ((gt v6 v3) != (-1))then some false else(Aqq K a0 v3 v4 v5 v6 (Alc K a0 n1)))else none)else(Aqq K a0 v3 v4 v5 v6 (Alc K a0 n1)))else none))else none)))else none)else some true)
def Av3 (K:Nat)(a0:Er)(a1:Dw):Option (Bool):=((Aq3 K a0).bind fun r1=>(bif r1 then((Asl K a0).bind fun r2=>(bif ((a1.Fy.length:Int) != r2)then some false else(bif ((a1.Hh.length:Int) != a0.Ae)then some false else(bif ((a1.Fz.length:Int) != a0.Ae)then some false else(Alc K a0 K 0 a1.Fy a1.Hh a1.Fz)))))else some false))
def s_31:Sig:=⟨[.v 25,.v 28],[.v 4],true⟩
def Bxc (K:Nat):Gb tyU:=⟨s_31,Av3 K⟩
def Bfq (K:Nat):=xF s_31 [(84,A6b K),(210,Bfo K),(211,Bs3 K),(212,Bmb K)] [] 102 [7,8,9,15,16,17,23,24,25,51,52,61,62,63,64,70,71,85,86] [] [] [233,1865] [.tmp 4]
def A21:E5:=⟨[(2,.p 102),(3,.p 103),(5,.v 2)],[(103,.box [.v 22,.v 26,.v 26]),(102,.st 25 true)]⟩
def A1k:E5:=⟨[(2,.p 102),(3,.p 103),(5,.v 2)],[(103,.box [.v 22,.v 26,.v 26]),(102,.st 25 true)]⟩
def Asz:E5:=⟨[(2,.p 102),(3,.p 103),(5,.v 2)],[(103,.box [.v 22,.v 26,.v 26]),(102,.st 25 true)]⟩
def A22 (K:Nat)(C58:CT Asz s_31)(q:PT A21):Rt s_31:=Atx K q.1 q.2.1 q.2.2.1 q.2.2.2.1 (fun v3 v4 v5 v6=>C58 (v3,v4,v5,v6,q.2.2.2.2.1,()))
def A1l (K:Nat)(C58:CT Asz s_31)(q:PT A1k):Rt s_31:=Aqq K q.2.2.2.2.1 q.1 q.2.1 q.2.2.1 q.2.2.2.1 (fun v3 v4 v5 v6=>C58 (v3,v4,v5,v6,q.2.2.2.2.1,()))
def A0w (K:Nat)(n:Nat)(q:PT Asz):Rt s_31:=Alc K q.2.2.2.2.1 n q.1 q.2.1 q.2.2.1 q.2.2.2.1
theorem Bfr (K:Nat)(C58:CT Asz s_31):AtJ (Bfq K) [] [(58,ar Asz C58)] (bd Tryz.f140) 233 (A22 K C58):=fun q=>by kernel_rfl
theorem Bdb (K:Nat)(C58:CT Asz s_31):AtJ (Bfq K) [(233,ar A21 (A22 K C58))] [(58,ar Asz C58)] (bd Tryz.f140) 1865 (A1l K C58):=fun q=>by kernel_rfl
theorem Bme (K:Nat):AtL (Bfq K) (fun n=>[(1865,ar A1k (A1l K (A0w K n)))]) [] (bd Tryz.f140) 58 (A0w K):=fun n q=>by kernel_rfl
theorem Bcq (K:Nat):XF [.tmp 4] s_31 102 [233,1865] (Bfq K):=xkF (gC (A0v K) (gC (Bcp K) (gC (Bo0 K) (gC (Bfp K) gN)))) oN
theorem Bfs (K:Nat)(C58:CT Asz s_31):CF [.tmp 4] s_31 102 [233,1865] (bd Tryz.f140) [(58,ar Asz C58)] 233 (ar A21 (A22 K C58)):=
 Apk (Bcq K) (Bfr K C58) kN
theorem Bdc (K:Nat)(C58:CT Asz s_31):CF [.tmp 4] s_31 102 [233,1865] (bd Tryz.f140) [(58,ar Asz C58)] 1865 (ar A1k (A1l K C58)):=
 Apk (Bcq K) (Bdb K C58) (kC (Bfs K C58) kN)
theorem Bmf (K:Nat)(n:Nat):CF [.tmp 4] s_31 102 [233,1865] (bd Tryz.f140) [] 58 (ar Asz (A0w K n)):=
 Aeh (Bcq K) (Bme K) (fun n=>(kC (Bdc K (A0w K n)) kN)) n
theorem Bxd (K:Nat):OkF 140 (Bxc K):=
 Aa6 (x:=Bfq K) (L:=[(58,ar Asz (A0w K K))]) (c0:=bd Tryz.f140) (Bcq K) (by intro a0 a1;show @Eq _ _ _;kernel_rfl) (kC (Bmf K K) kN) Tryz.func140 trivial
def An6 (K:Nat)(a0:List Ba)(a1:Int):Option (Bool):=(bif (decide (a1≥1))then some (decide (a1≤(a0.length:Int)))else some false)
def Bxe:Sig:=⟨[.v 29,.v 3],[.v 4],true⟩
def Bdd (K:Nat):Gb tyU:=⟨Bxe,An6 K⟩
def B3e (K:Nat):=xF Bxe [] [] 13 [6,7] [] [] [] [.tmp 4]
theorem A9t (K:Nat):OkF 244 (Bdd K):=
 Aa6 (x:=B3e K) (L:=[]) (c0:=bd Tryz.f244) (xkF gN oN) (by intro a0 a1;show @Eq _ _ _;kernel_rfl) kN Tryz.func244 trivial
def Apr (K:Nat)(a0:List Ba)(a1:Int):Option (Bool):=(bif (a1==0)then some true else((An6 K a0 a1).bind fun r1=>(bif r1 then(if(0:Int)≤(Aob .i64 a1 1)∧(Aob .i64 a1 1)<(a0.length:Int)then some (((gt a0 (Aob .i64 a1 1)).Hh)==1)else none)else some false)))
def Bxf:Sig:=⟨[.v 29,.v 3],[.v 4],true⟩
def Bxg (K:Nat):Gb tyU:=⟨Bxf,Apr K⟩
def B3f (K:Nat):=xF Bxf [(244,Bdd K)] [] 21 [6,7,10,11] [] [] [] [.tmp 4]
theorem Bxh (K:Nat):OkF 264 (Bxg K):=
 Aa6 (x:=B3f K) (L:=[]) (c0:=bd Tryz.f264) (xkF (gC (A9t K) gN) oN) (by intro a0 a1;show @Eq _ _ _;kernel_rfl) kN Tryz.func264 trivial
def Aqt (K:Nat)(a0:List Ba)(a1:Int):Option (Bool):=(if(0:Int)≤a1∧a1<(a0.length:Int)then((An6 K a0 ((gt a0 a1).fUp)).bind fun r1=>(bif r1 then(if(0:Int)≤(Aob .i64 ((gt a0 a1).fUp) 1)∧(Aob .i64 ((gt a0 a1).fUp) 1)<(a0.length:Int)then(bif (((gt a0 (Aob .i64 ((gt a0 a1).fUp) 1)).Hh)==1)then(if(0:Int)≤(Aob .i64 ((gt a0 a1).fUp) 1)∧(Aob .i64 ((gt a0 a1).fUp) 1)<(a0.length:Int)then(if(0:Int)≤a1∧a1<(a0.length:Int)then some (((gt a0 (Aob .i64 ((gt a0 a1).fUp) 1)).Ly)==((gt a0 a1).Gq))else none)else none)else some false)else none)else some false))else none)
def Bxi:Sig:=⟨[.v 29,.v 3],[.v 4],true⟩
def Bmg (K:Nat):Gb tyU:=⟨Bxi,Aqt K⟩
def B3g (K:Nat):=xF Bxi [(244,Bdd K)] [] 37 [13,14,21,22,23] [] [] [] [.tmp 4]
theorem Bft (K:Nat):OkF 225 (Bmg K):=
 Aa6 (x:=B3g K) (L:=[]) (c0:=bd Tryz.f225) (xkF (gC (A9t K) gN) oN) (by intro a0 a1;show @Eq _ _ _;kernel_rfl) kN Tryz.func225 trivial
def Atn (K:Nat)(a0:List Ba):Nat->Int->(List Int)->Option ((List Int))
 |0,_,_=>none
 |n1+1,v1,v2=>((An6 K a0 (Aoa .i64 v1 1)).bind fun r3=>(bif r3 then(bif (decide ((v2.length:Int)<(a0.length:Int)))then(if(v2++([v1]:List Int)).length*8≤140737488355328∧(v2++([v1]:List Int)).length≤maxLen then(if(0:Int)≤v1∧v1<(a0.length:Int)then(Atn K a0 n1 (Aob .i64 ((gt a0 v1).fUp) 1) (v2++([v1]:List Int)))else none)else none)else some v2)else some v2))
def Aul (K:Nat)(a0:List Ba)(a1:Int):Option ((List Int)):=(Atn K a0 K a1 ([]:List Int))
def s_35:Sig:=⟨[.v 29,.v 3],[.n 26 true],true⟩
def Bmh (K:Nat):Gb tyU:=⟨s_35,Aul K⟩
def Bs5 (K:Nat):=xF s_35 [(244,Bdd K)] [] 29 [10,11] [] [] [] [.tmp 4]
def A7t:E5:=⟨[(0,.v 29),(1,.v 2),(5,.o 1005 3 true)],[]⟩
def A7u (K:Nat)(n:Nat)(q:PT A7t):Rt s_35:=Atn K q.1 n q.2.1 q.2.2.1
theorem Bmi (K:Nat):AtL (Bs5 K) (fun n=>[]) [] (bd Tryz.f224) 28 (A7u K):=fun n q=>by kernel_rfl
theorem Bo2 (K:Nat):XF [.tmp 4] s_35 29 [] (Bs5 K):=xkF (gC (A9t K) gN) oN
theorem Bmj (K:Nat)(n:Nat):CF [.tmp 4] s_35 29 [] (bd Tryz.f224) [] 28 (ar A7t (A7u K n)):=
 Aeh (Bo2 K) (Bmi K) (fun n=>kN) n
theorem Bfu (K:Nat):OkF 224 (Bmh K):=
 Aa6 (x:=Bs5 K) (L:=[(28,ar A7t (A7u K K))]) (c0:=bd Tryz.f224) (Bo2 K) (by intro a0 a1;show @Eq _ _ _;kernel_rfl) (kC (Bmj K K) kN) Tryz.func224 trivial
def Aq7 (K:Nat)(a0:List Ba)(a1:Int):Option (Bool):=((Aul K a0 a1).bind fun r19=>(bif (decide ((r19.length:Int)≤4))then(if(0:Int)≤(Aob .i64 (r19.length:Int) 1)∧(Aob .i64 (r19.length:Int) 1)<(r19.length:Int)then((Aqt K a0 (gt r19 (Aob .i64 (r19.length:Int) 1))).bind fun r20=>some (!r20))else none)else some false))
def Asm (K:Nat)(a0:List Ba)(a1:Int)(v8:Int)(v12:Int):Option (Bool):=(bif (v12==0)then((Aqt K a0 a1).bind fun r18=>(bif r18 then(if(0:Int)≤(Aob .i64 v8 1)∧(Aob .i64 v8 1)<(a0.length:Int)then(bif (((gt a0 (Aob .i64 v8 1)).Bt) != (Aoa .i64 a1 1))then some false else(Aq7 K a0 a1))else none)else(Aq7 K a0 a1)))else(Aq7 K a0 a1))
def Asn (K:Nat)(a0:List Ba)(a1:Int)(v8:Int)(v12:Int):Option (Bool):=(bif (v12 != 0)then(if(0:Int)≤(Aob .i64 v12 1)∧(Aob .i64 v12 1)<(a0.length:Int)then(bif (((gt a0 (Aob .i64 v12 1)).Gr) != (Aoa .i64 a1 1))then some false else(Asm K a0 a1 v8 v12))else none)else(Asm K a0 a1 v8 v12))
def Aso (K:Nat)(a0:List Ba)(a1:Int)(v8:Int)(v9:Int)(v11:Int)(v12:Int):Option (Bool):=(bif (v11 != 0)then(if(0:Int)≤(Aob .i64 v11 1)∧(Aob .i64 v11 1)<(a0.length:Int)then(bif (((gt a0 (Aob .i64 v11 1)).Gs) != (Aoa .i64 a1 1))then some false else(bif (((gt a0 (Aob .i64 v11 1)).fUp) != v8)then some false else(bif (((gt a0 (Aob .i64 v11 1)).Gq) != v9)then some false else(Asn K a0 a1 v8 v12))))else none)else(Asn K a0 a1 v8 v12))
def Asp (K:Nat)(a0:List Ba)(a1:Int)(v5:Int)(v6:Int)(v7:Int)(v8:Int)(v9:Int)(v10:Int)(v11:Int)(v12:Int)(v13:List Int)(v14:Int)(v15:Int)(v16:List A9)(v17:List Int):Option (Bool):=(bif (v10 != 0)then(if(0:Int)≤(Aob .i64 v10 1)∧(Aob .i64 v10 1)<(a0.length:Int)then(bif (((gt a0 (Aob .i64 v10 1)).Gs) != 0)then some false else(bif (((gt a0 (Aob .i64 v10 1)).fUp) != (Aoa .i64 a1 1))then some false else(bif (((gt a0 (Aob .i64 v10 1)).Gq) != v7)then some false else(Aso K a0 a1 v8 v9 v11 v12))))else none)else(Aso K a0 a1 v8 v9 v11 v12))
def Aw0 (K:Nat)(a0:List Ba)(a1:Int):Option (Bool):=(if(0:Int)≤a1∧a1<(a0.length:Int)then(bif (((gt a0 a1).fUp) != 0)then((An6 K a0 ((gt a0 a1).fUp)).bind fun r1=>(bif r1 then((Apr K a0 ((gt a0 a1).Bt)).bind fun r2=>(bif r2 then((Apr K a0 ((gt a0 a1).Gr)).bind fun r3=>(bif r3 then((Apr K a0 ((gt a0 a1).Gs)).bind fun r4=>(bif (!r4)then some false else(Asp K a0 a1 ((gt a0 a1).Hh) ((gt a0 a1).C2) ((gt a0 a1).Ly) ((gt a0 a1).fUp) ((gt a0 a1).Gq) ((gt a0 a1).Bt) ((gt a0 a1).Gr) ((gt a0 a1).Gs) ((gt a0 a1).Ae) ((gt a0 a1).Pq) ((gt a0 a1).Gt) ((gt a0 a1).Ea) ((gt a0 a1).Dg))))else some false))else some false))else some false))else((Apr K a0 ((gt a0 a1).Bt)).bind fun r21=>(bif r21 then((Apr K a0 ((gt a0 a1).Gr)).bind fun r22=>(bif r22 then((Apr K a0 ((gt a0 a1).Gs)).bind fun r23=>(bif (!r23)then some false else(Asp K a0 a1 ((gt a0 a1).Hh) ((gt a0 a1).C2) ((gt a0 a1).Ly) ((gt a0 a1).fUp) ((gt a0 a1).Gq) ((gt a0 a1).Bt) ((gt a0 a1).Gr) ((gt a0 a1).Gs) ((gt a0 a1).Ae) ((gt a0 a1).Pq) ((gt a0 a1).Gt) ((gt a0 a1).Ea) ((gt a0 a1).Dg))))else some false))else some false)))else none)
def s_36:Sig:=⟨[.v 29,.v 3],[.v 4],true⟩
def Bxj (K:Nat):Gb tyU:=⟨s_36,Aw0 K⟩
def Bba (K:Nat):=xF s_36 [(224,Bmh K),(225,Bmg K),(244,Bdd K),(264,Bxg K)] [] 150 [15,16,20,21,22,23,27,28,29,30,34,35,36,37,55,56,61,62,63,83,84,89,90,91,100,101,115,116,119,120,121,138,139] [] [] [7,15,31,63,127] [.tmp 4]
def A23:E5:=⟨[(0,.v 29),(1,.v 2)],[]⟩
def A7v:E5:=⟨[(0,.v 29),(1,.v 2),(5,.p 105)],[(105,.box [.v 2,.v 2,.v 2,.v 2,.v 2,.v 2,.v 2,.v 2,.v 26,.v 2,.v 2,.v 41,.v 26])]⟩
def A7w:E5:=⟨[(0,.v 29),(1,.v 2),(5,.p 105)],[(105,.box [.v 2,.v 2,.v 2,.v 2,.v 2,.v 2,.v 2,.v 2,.v 26,.v 2,.v 2,.v 41,.v 26])]⟩
def A7x:E5:=⟨[(0,.v 29),(1,.v 2),(5,.p 105)],[(105,.box [.v 2,.v 2,.v 2,.v 2,.v 2,.v 2,.v 2,.v 2,.v 26,.v 2,.v 2,.v 41,.v 26])]⟩
def Bbb:E5:=⟨[(0,.v 29),(1,.v 2),(5,.p 105)],[(105,.box [.v 2,.v 2,.v 2,.v 2,.v 2,.v 2,.v 2,.v 2,.v 26,.v 2,.v 2,.v 41,.v 26])]⟩
def A24 (K:Nat)(q:PT A23):Rt s_36:=Aq7 K q.1 q.2.1
def A7y (K:Nat)(q:PT A7v):Rt s_36:=Asm K q.1 q.2.1 q.2.2.2.2.2.1 q.2.2.2.2.2.2.2.2.2.1
def A7z (K:Nat)(q:PT A7w):Rt s_36:=Asn K q.1 q.2.1 q.2.2.2.2.2.1 q.2.2.2.2.2.2.2.2.2.1
def A70 (K:Nat)(q:PT A7x):Rt s_36:=Aso K q.1 q.2.1 q.2.2.2.2.2.1 q.2.2.2.2.2.2.1 q.2.2.2.2.2.2.2.2.1 q.2.2.2.2.2.2.2.2.2.1
def Bbc (K:Nat)(q:PT Bbb):Rt s_36:=Asp K q.1 q.2.1 q.2.2.1 q.2.2.2.1 q.2.2.2.2.1 q.2.2.2.2.2.1 q.2.2.2.2.2.2.1 q.2.2.2.2.2.2.2.1 q.2.2.2.2.2.2.2.2.1 q.2.2.2.2.2.2.2.2.2.1 q.2.2.2.2.2.2.2.2.2.2.1 q.2.2.2.2.2.2.2.2.2.2.2.1 q.2.2.2.2.2.2.2.2.2.2.2.2.1 q.2.2.2.2.2.2.2.2.2.2.2.2.2.1 q.2.2.2.2.2.2.2.2.2.2.2.2.2.2.1
theorem Bfv (K:Nat):AtJ (Bba K) [] [] (bd Tryz.f213) 127 (A24 K):=fun q=>by kernel_rfl
theorem Bmk (K:Nat):AtJ (Bba K) [(127,ar A23 (A24 K))] [] (bd Tryz.f213) 63 (A7y K):=fun q=>by kernel_rfl
theorem Bml (K:Nat):AtJ (Bba K) [(63,ar A7v (A7y K))] [] (bd Tryz.f213) 31 (A7z K):=fun q=>by kernel_rfl
theorem Bmm (K:Nat):AtJ (Bba K) [(31,ar A7w (A7z K))] [] (bd Tryz.f213) 15 (A70 K):=fun q=>by kernel_rfl
theorem Bs6 (K:Nat):AtJ (Bba K) [(15,ar A7x (A70 K))] [] (bd Tryz.f213) 7 (Bbc K):=fun q=>by kernel_rfl
theorem A6x (K:Nat):XF [.tmp 4] s_36 150 [7,15,31,63,127] (Bba K):=xkF (gC (Bfu K) (gC (Bft K) (gC (A9t K) (gC (Bxh K) gN)))) oN
theorem Bfw (K:Nat):CF [.tmp 4] s_36 150 [7,15,31,63,127] (bd Tryz.f213) [] 127 (ar A23 (A24 K)):=
 Apk (A6x K) (Bfv K) kN
theorem Bmn (K:Nat):CF [.tmp 4] s_36 150 [7,15,31,63,127] (bd Tryz.f213) [] 63 (ar A7v (A7y K)):=
 Apk (A6x K) (Bmk K) (kC (Bfw K) kN)
theorem Bmo (K:Nat):CF [.tmp 4] s_36 150 [7,15,31,63,127] (bd Tryz.f213) [] 31 (ar A7w (A7z K)):=
 Apk (A6x K) (Bml K) (kC (Bmn K) kN)
theorem Bmp (K:Nat):CF [.tmp 4] s_36 150 [7,15,31,63,127] (bd Tryz.f213) [] 15 (ar A7x (A70 K)):=
 Apk (A6x K) (Bmm K) (kC (Bmo K) kN)
theorem Bs7 (K:Nat):CF [.tmp 4] s_36 150 [7,15,31,63,127] (bd Tryz.f213) [] 7 (ar Bbb (Bbc K)):=
 Apk (A6x K) (Bs6 K) (kC (Bmp K) kN)
theorem Bxk (K:Nat):OkF 213 (Bxj K):=
 Aa6 (x:=Bba K) (L:=[(7,ar Bbb (Bbc K))]) (c0:=bd Tryz.f213) (A6x K) (by intro a0 a1;show @Eq _ _ _;kernel_rfl) (kC (Bs7 K) kN) Tryz.func213 trivial
def Aty (K:Nat)(v1:Int)(C1:Int->Option (Bool)):Option (Bool):=(C1 (Aoa .i64 v1 1))
def Apd (K:Nat)(a0:List Ba):Nat->Int->Option (Bool)
 |0,_=>none
 |n1+1,v1=>(bif (decide (v1<(a0.length:Int)))then(if(0:Int)≤v1∧v1<(a0.length:Int)then(bif (((gt a0 v1).Hh)==1)then((Aw0 K a0 v1).bind fun r2=>(bif (!r2)then some false else(Aty K v1 (Apd K a0 n1))))else(Aty K v1 (Apd K a0 n1)))else none)else some true)
def Av4 (K:Nat)(a0:List Ba):Option (Bool):=(Apd K a0 K 0)
def s_37:Sig:=⟨[.v 29],[.v 4],true⟩
def Bxl (K:Nat):Gb tyU:=⟨s_37,Av4 K⟩
def Bmq (K:Nat):=xF s_37 [(213,Bxj K)] [] 22 [15,16] [] [] [105] [.tmp 2]
def A25:E5:=⟨[(0,.v 29),(3,.v 2)],[]⟩
def Axp:E5:=⟨[(0,.v 29),(3,.v 2)],[]⟩
def A26 (K:Nat)(C26:CT Axp s_37)(q:PT A25):Rt s_37:=Aty K q.2.1 (fun v1=>C26 (q.1,v1,()))
def A0x (K:Nat)(n:Nat)(q:PT Axp):Rt s_37:=Apd K q.1 n q.2.1
theorem Bfx (K:Nat)(C26:CT Axp s_37):AtJ (Bmq K) [] [(26,ar Axp C26)] (bd Tryz.f141) 105 (A26 K C26):=fun q=>by kernel_rfl
theorem Bmr (K:Nat):AtL (Bmq K) (fun n=>[(105,ar A25 (A26 K (A0x K n)))]) [] (bd Tryz.f141) 26 (A0x K):=fun n q=>by kernel_rfl
theorem Bfy (K:Nat):XF [.tmp 2] s_37 22 [105] (Bmq K):=xkF (gC (Bxk K) gN) oN
theorem Bfz (K:Nat)(C26:CT Axp s_37):CF [.tmp 2] s_37 22 [105] (bd Tryz.f141) [(26,ar Axp C26)] 105 (ar A25 (A26 K C26)):=
 Apk (Bfy K) (Bfx K C26) kN
theorem Bms (K:Nat)(n:Nat):CF [.tmp 2] s_37 22 [105] (bd Tryz.f141) [] 26 (ar Axp (A0x K n)):=
 Aeh (Bfy K) (Bmr K) (fun n=>(kC (Bfz K (A0x K n)) kN)) n
theorem Bxm (K:Nat):OkF 141 (Bxl K):=
 Aa6 (x:=Bmq K) (L:=[(26,ar Axp (A0x K K))]) (c0:=bd Tryz.f141) (Bfy K) (by intro a0;show @Eq _ _ _;kernel_rfl) (kC (Bms K K) kN) Tryz.func141 trivial
def As0 (K:Nat)(v2:Int)(v3:List Int)(v4:List Int)(v5:List Int)(C1:Int->Int->(List Int)->(List Int)->(List Int)->Option (Int))(v6:Int):Option (Int):=(C1 v6 (Aoa .i64 v2 1) v3 v4 v5)
def Ann (K:Nat)(a1:Int):Nat->Int->Int->(List Int)->(List Int)->(List Int)->Option (Int)
 |0,_,_,_,_,_=>none
 |n1+1,v1,v2,v3,v4,v5=>(bif (decide (v2<(v4.length:Int)))then(if(0:Int)≤v2∧v2<(v4.length:Int)then(bif ((gt v4 v2)==a1)then(As0 K v2 v3 v4 v5 (Ann K a1 n1) (Aoa .i64 v1 1))else(As0 K v2 v3 v4 v5 (Ann K a1 n1) v1))else none)else some v1)
def Auz (K:Nat)(a0:Dw)(a1:Int):Option (Int):=(Ann K a1 K 0 0 a0.Fy a0.Hh a0.Fz)
def s_38:Sig:=⟨[.v 28,.v 3],[.v 3],true⟩
def Bxn (K:Nat):Gb tyU:=⟨s_38,Auz K⟩
def Bmt (K:Nat):=xF s_38 [] [] 24 [] [] [] [233] [.tmp 4]
def A27:E5:=⟨[(1,.v 2),(2,.p 102),(5,.v 2),(6,.v 2)],[(102,.box [.v 22,.v 26,.v 26])]⟩
def Axq:E5:=⟨[(1,.v 2),(2,.p 102),(5,.v 2),(6,.v 2)],[(102,.box [.v 22,.v 26,.v 26])]⟩
def A28 (K:Nat)(C58:CT Axq s_38)(q:PT A27):Rt s_38:=As0 K q.2.2.1 q.2.2.2.1 q.2.2.2.2.1 q.2.2.2.2.2.1 (fun v1 v2 v3 v4 v5=>C58 (q.1,v1,v2,v3,v4,v5,())) q.2.1
def A0y (K:Nat)(n:Nat)(q:PT Axq):Rt s_38:=Ann K q.1 n q.2.1 q.2.2.1 q.2.2.2.1 q.2.2.2.2.1 q.2.2.2.2.2.1
theorem Bf0 (K:Nat)(C58:CT Axq s_38):AtJ (Bmt K) [] [(58,ar Axq C58)] (bd Tryz.f222) 233 (A28 K C58):=fun q=>by kernel_rfl
theorem Bmu (K:Nat):AtL (Bmt K) (fun n=>[(233,ar A27 (A28 K (A0y K n)))]) [] (bd Tryz.f222) 58 (A0y K):=fun n q=>by kernel_rfl
theorem Bf1 (K:Nat):XF [.tmp 4] s_38 24 [233] (Bmt K):=xkF gN oN
theorem Bf2 (K:Nat)(C58:CT Axq s_38):CF [.tmp 4] s_38 24 [233] (bd Tryz.f222) [(58,ar Axq C58)] 233 (ar A27 (A28 K C58)):=
 Apk (Bf1 K) (Bf0 K C58) kN
theorem Bmv (K:Nat)(n:Nat):CF [.tmp 4] s_38 24 [233] (bd Tryz.f222) [] 58 (ar Axq (A0y K n)):=
 Aeh (Bf1 K) (Bmu K) (fun n=>(kC (Bf2 K (A0y K n)) kN)) n
theorem Bxo (K:Nat):OkF 222 (Bxn K):=
 Aa6 (x:=Bmt K) (L:=[(58,ar Axq (A0y K K))]) (c0:=bd Tryz.f222) (Bf1 K) (by intro a0 a1;show @Eq _ _ _;kernel_rfl) (kC (Bmv K K) kN) Tryz.func222 trivial
def Aq5 (K:Nat)(v2:Int)(C1:Int->Int->Option (Int))(v3:Int):Option (Int):=(C1 v3 (Aoa .i64 v2 1))
def Ai8 (K:Nat)(a0:List Ba)(a1:Int):Nat->Int->Int->Option (Int)
 |0,_,_=>none
 |n1+1,v1,v2=>(bif (decide (v2<(a0.length:Int)))then(if(0:Int)≤v2∧v2<(a0.length:Int)then(bif (((gt a0 v2).Hh)==a1)then(Aq5 K v2 (Ai8 K a0 a1 n1) (Aoa .i64 v1 1))else(Aq5 K v2 (Ai8 K a0 a1 n1) v1))else none)else some v1)
def Asa (K:Nat)(a0:List Ba)(a1:Int):Option (Int):=(Ai8 K a0 a1 K 0 0)
def s_39:Sig:=⟨[.v 29,.v 3],[.v 3],true⟩
def Bxp (K:Nat):Gb tyU:=⟨s_39,Asa K⟩
def Bmw (K:Nat):=xF s_39 [] [] 23 [] [] [] [233] [.tmp 4]
def A29:E5:=⟨[(0,.v 29),(1,.v 2),(5,.v 2),(6,.v 2)],[]⟩
def Axr:E5:=⟨[(0,.v 29),(1,.v 2),(5,.v 2),(6,.v 2)],[]⟩
def A3a (K:Nat)(C58:CT Axr s_39)(q:PT A29):Rt s_39:=Aq5 K q.2.2.2.1 (fun v1 v2=>C58 (q.1,q.2.1,v1,v2,())) q.2.2.1
def A0z (K:Nat)(n:Nat)(q:PT Axr):Rt s_39:=Ai8 K q.1 q.2.1 n q.2.2.1 q.2.2.2.1
theorem Bf3 (K:Nat)(C58:CT Axr s_39):AtJ (Bmw K) [] [(58,ar Axr C58)] (bd Tryz.f223) 233 (A3a K C58):=fun q=>by kernel_rfl
theorem Bmx (K:Nat):AtL (Bmw K) (fun n=>[(233,ar A29 (A3a K (A0z K n)))]) [] (bd Tryz.f223) 58 (A0z K):=fun n q=>by kernel_rfl
theorem Bf4 (K:Nat):XF [.tmp 4] s_39 23 [233] (Bmw K):=xkF gN oN
theorem Bf5 (K:Nat)(C58:CT Axr s_39):CF [.tmp 4] s_39 23 [233] (bd Tryz.f223) [(58,ar Axr C58)] 233 (ar A29 (A3a K C58)):=
 Apk (Bf4 K) (Bf3 K C58) kN
theorem Bmy (K:Nat)(n:Nat):CF [.tmp 4] s_39 23 [233] (bd Tryz.f223) [] 58 (ar Axr (A0z K n)):=
 Aeh (Bf4 K) (Bmx K) (fun n=>(kC (Bf5 K (A0z K n)) kN)) n
theorem Bxq (K:Nat):OkF 223 (Bxp K):=
 Aa6 (x:=Bmw K) (L:=[(58,ar Axr (A0z K K))]) (c0:=bd Tryz.f223) (Bf4 K) (by intro a0 a1;show @Eq _ _ _;kernel_rfl) (kC (Bmy K K) kN) Tryz.func223 trivial
def Asq (K:Nat)(a0:List Int)(a1:Int):Nat->Int->Option (Bool)
 |0,_=>none
 |n1+1,v1=>(bif (decide (v1<(a0.length:Int)))then(if(0:Int)≤v1∧v1<(a0.length:Int)then(bif ((gt a0 v1)==a1)then some true else(Asq K a0 a1 n1 (Aoa .i64 v1 1)))else none)else some false)
def Aps (K:Nat)(a0:List Int)(a1:Int):Option (Bool):=(Asq K a0 a1 K 0)
def s_40:Sig:=⟨[.v 26,.v 3],[.v 4],true⟩
def Bde (K:Nat):Gb tyU:=⟨s_40,Aps K⟩
def Bs8 (K:Nat):=xF s_40 [] [] 18 [] [] [] [] [.tmp 4]
def A71:E5:=⟨[(0,.v 26),(1,.v 2),(5,.v 2)],[]⟩
def A72 (K:Nat)(n:Nat)(q:PT A71):Rt s_40:=Asq K q.1 q.2.1 n q.2.2.1
theorem Bmz (K:Nat):AtL (Bs8 K) (fun n=>[]) [] (bd Tryz.f218) 26 (A72 K):=fun n q=>by kernel_rfl
theorem Bo3 (K:Nat):XF [.tmp 4] s_40 18 [] (Bs8 K):=xkF gN oN
theorem Bm0 (K:Nat)(n:Nat):CF [.tmp 4] s_40 18 [] (bd Tryz.f218) [] 26 (ar A71 (A72 K n)):=
 Aeh (Bo3 K) (Bmz K) (fun n=>kN) n
theorem A9u (K:Nat):OkF 218 (Bde K):=
 Aa6 (x:=Bs8 K) (L:=[(26,ar A71 (A72 K K))]) (c0:=bd Tryz.f218) (Bo3 K) (by intro a0 a1;show @Eq _ _ _;kernel_rfl) (kC (Bm0 K K) kN) Tryz.func218 trivial
def Aq8 (K:Nat)(a0:List Ba)(a1:Int):Option (Bool):=(if(0:Int)≤a1∧a1<(a0.length:Int)then(bif (((gt a0 a1).Hh)==1)then(if(0:Int)≤a1∧a1<(a0.length:Int)then(bif (((gt a0 a1).fUp) != 0)then((Aqt K a0 a1).bind fun r1=>some (!r1))else some false)else none)else some false)else none)
def Bxr:Sig:=⟨[.v 29,.v 3],[.v 4],true⟩
def Bs9 (K:Nat):Gb tyU:=⟨Bxr,Aq8 K⟩
def B3h (K:Nat):=xF Bxr [(225,Bmg K)] [] 25 [10,11,17,18,19] [] [] [] [.tmp 4]
theorem Bo4 (K:Nat):OkF 221 (Bs9 K):=
 Aa6 (x:=B3h K) (L:=[]) (c0:=bd Tryz.f221) (xkF (gC (Bft K) gN) oN) (by intro a0 a1;show @Eq _ _ _;kernel_rfl) kN Tryz.func221 trivial
def Arz (K:Nat)(a0:List Ba):Nat->Int->(List Int)->Option ((List Int))
 |0,_,_=>none
 |n1+1,v1,v2=>((An6 K a0 v1).bind fun r3=>(bif r3 then(bif (decide ((v2.length:Int)<(a0.length:Int)))then(if(v2++([(Aob .i64 v1 1)]:List Int)).length*8≤140737488355328∧(v2++([(Aob .i64 v1 1)]:List Int)).length≤maxLen then(if(0:Int)≤(Aob .i64 v1 1)∧(Aob .i64 v1 1)<(a0.length:Int)then(Arz K a0 n1 ((gt a0 (Aob .i64 v1 1)).Gr) (v2++([(Aob .i64 v1 1)]:List Int)))else none)else none)else some v2)else some v2))
def Ato (K:Nat)(a0:List Ba)(a1:Int):Option ((List Int)):=(Arz K a0 K a1 ([]:List Int))
def s_42:Sig:=⟨[.v 29,.v 3],[.n 26 true],true⟩
def Bta (K:Nat):Gb tyU:=⟨s_42,Ato K⟩
def Btb (K:Nat):=xF s_42 [(244,Bdd K)] [] 29 [9,10] [] [] [] [.tmp 4]
def A73:E5:=⟨[(0,.v 29),(1,.v 2),(5,.o 1005 3 true)],[]⟩
def A74 (K:Nat)(n:Nat)(q:PT A73):Rt s_42:=Arz K q.1 n q.2.1 q.2.2.1
theorem Bm1 (K:Nat):AtL (Btb K) (fun n=>[]) [] (bd Tryz.f202) 28 (A74 K):=fun n q=>by kernel_rfl
theorem Bo5 (K:Nat):XF [.tmp 4] s_42 29 [] (Btb K):=xkF (gC (A9t K) gN) oN
theorem Bm2 (K:Nat)(n:Nat):CF [.tmp 4] s_42 29 [] (bd Tryz.f202) [] 28 (ar A73 (A74 K n)):=
 Aeh (Bo5 K) (Bm1 K) (fun n=>kN) n
theorem Bo6 (K:Nat):OkF 202 (Bta K):=
 Aa6 (x:=Btb K) (L:=[(28,ar A73 (A74 K K))]) (c0:=bd Tryz.f202) (Bo5 K) (by intro a0 a1;show @Eq _ _ _;kernel_rfl) (kC (Bm2 K K) kN) Tryz.func202 trivial
def Anh (K:Nat)(v4:Int)(v15:List Ax)(v20:List Int)(v21:Int)(C3:(List Int)->Int->Option (Bool)):Nat->Int->Option (Bool)
 |0,_=>none
 |n5+1,v22=>(if(0:Int)≤v4∧v4<(v15.length:Int)then(bif (decide (v22<(((gt v15 v4).Ae).length:Int)))then(if(0:Int)≤v21∧v21<(v15.length:Int)then(if(0:Int)≤v4∧v4<(v15.length:Int)then(if(0:Int)≤v22∧v22<(((gt v15 v4).Ae).length:Int)then((Aps K ((gt v15 v21).Ae) (gt ((gt v15 v4).Ae) v22)).bind fun r23=>(bif r23 then some false else(Anh K v4 v15 v20 v21 C3 n5 (Aoa .i64 v22 1))))else none)else none)else none)else(C3 v20 (Aoa .i64 v21 1)))else none)
def Aqg (K:Nat)(v4:Int)(v15:List Ax)(v20:List Int)(v21:Int)(C3:(List Int)->Int->Option (Bool)):Option (Bool):=(Anh K v4 v15 v20 v21 (C3) K 0)
def Ak5 (K:Nat)(v4:Int)(v5:Int)(v6:Int)(v7:Int)(v8:Int)(v9:Int)(v10:Int)(v11:List Int)(v12:List Int)(v13:List Int)(v14:List Ba)(v15:List Ax)(v16:List Int)(v17:Int)(v18:Int)(C1:Int->Int->(List Int)->Int->Int->Int->Int->Int->Int->Int->(List Int)->(List Int)->(List Int)->(List Ba)->(List Ax)->(List Int)->Option (Bool)):Nat->(List Int)->Int->Option (Bool)
 |0,_,_=>none
 |n3+1,v20,v21=>(bif (decide (v21<v4))then(if(0:Int)≤v4∧v4<(v15.length:Int)then(bif (((gt v15 v4).A5) != 0)then(if(0:Int)≤v21∧v21<(v15.length:Int)then(if(0:Int)≤v4∧v4<(v15.length:Int)then(bif (((gt v15 v21).A5)==((gt v15 v4).A5))then some false else(Aqg K v4 v15 v20 v21 (Ak5 K v4 v5 v6 v7 v8 v9 v10 v11 v12 v13 v14 v15 v16 v17 v18 C1 n3)))else none)else none)else(Aqg K v4 v15 v20 v21 (Ak5 K v4 v5 v6 v7 v8 v9 v10 v11 v12 v13 v14 v15 v16 v17 v18 C1 n3)))else none)else(C1 v17 v18 v20 (Aoa .i64 v4 1) v5 v6 v7 v8 v9 v10 v11 v12 v13 v14 v15 v16))
def Aqh (K:Nat)(v3:List Int)(v4:Int)(v5:Int)(v6:Int)(v7:Int)(v8:Int)(v9:Int)(v10:Int)(v11:List Int)(v12:List Int)(v13:List Int)(v14:List Ba)(v15:List Ax)(v16:List Int)(C1:Int->Int->(List Int)->Int->Int->Int->Int->Int->Int->Int->(List Int)->(List Int)->(List Int)->(List Ba)->(List Ax)->(List Int)->Option (Bool))(v17:Int)(v18:Int):Option (Bool):=(if(0:Int)≤v4∧v4<(v15.length:Int)then((Ato K v14 ((gt v15 v4).Bt)).bind fun r19=>(if(v3++r19).length*8≤140737488355328∧(v3++r19).length≤maxLen then(Ak5 K v4 v5 v6 v7 v8 v9 v10 v11 v12 v13 v14 v15 v16 v17 v18 (C1) K (v3++r19) 0)else none))else none)
def Art (K:Nat)(v25:Int)(C6:Int->Int->Option (Bool))(v27:Int):Option (Bool):=(C6 v27 (Aoa .i64 v25 1))
def Ak7 (K:Nat)(v1:Int)(v2:Int)(v3:List Int)(v11:List Int)(v12:List Int)(v13:List Int)(v14:List Ba)(v24:Int):Nat->Int->Option (Bool)
 |0,_=>none
 |n8+1,v28=>(bif (decide (v28<(v3.length:Int)))then(if(0:Int)≤0∧0≤v28∧v28≤(v3.length:Int)then(if(0:Int)≤v28∧v28<(v3.length:Int)then((Aps K ((v3.drop (0:Int).toNat).take (v28 - 0).toNat) (gt v3 v28)).bind fun r29=>(bif r29 then some false else(Ak7 K v1 v2 v3 v11 v12 v13 v14 v24 n8 (Aoa .i64 v28 1))))else none)else none)else((Auz K (Dw.mk v11 v12 v13) 2).bind fun r30=>(bif (v1==r30)then((Asa K v14 2).bind fun r31=>(bif (v2==r31)then some ((v3.length:Int)==v24)else some false))else some false)))
def Ahs (K:Nat)(v1:Int)(v2:Int)(v3:List Int)(v11:List Int)(v12:List Int)(v13:List Int)(v14:List Ba):Nat->Int->Int->Option (Bool)
 |0,_,_=>none
 |n6+1,v24,v25=>(bif (decide (v25<(v14.length:Int)))then((Aq8 K v14 v25).bind fun r26=>(bif r26 then(Art K v25 (Ahs K v1 v2 v3 v11 v12 v13 v14 n6) (Aoa .i64 v24 1))else(Art K v25 (Ahs K v1 v2 v3 v11 v12 v13 v14 n6) v24)))else(Ak7 K v1 v2 v3 v11 v12 v13 v14 v24 K 0))
def Ae9 (K:Nat):Nat->Int->Int->(List Int)->Int->Int->Int->Int->Int->Int->Int->(List Int)->(List Int)->(List Int)->(List Ba)->(List Ax)->(List Int)->Option (Bool)
 |0,_,_,_,_,_,_,_,_,_,_,_,_,_,_,_,_=>none
 |n1+1,v1,v2,v3,v4,v5,v6,v7,v8,v9,v10,v11,v12,v13,v14,v15,v16=>(bif (decide (v4<(v15.length:Int)))then(if(0:Int)≤v4∧v4<(v15.length:Int)then(if(0:Int)≤v4∧v4<(v15.length:Int)then(bif (((gt v15 v4).A5) != 0)then(Aqh K v3 v4 v5 v6 v7 v8 v9 v10 v11 v12 v13 v14 v15 v16 (Ae9 K n1) (Aoa .i64 v1 (((gt v15 v4).Ae).length:Int)) (Aoa .i64 v2 1))else(Aqh K v3 v4 v5 v6 v7 v8 v9 v10 v11 v12 v13 v14 v15 v16 (Ae9 K n1) (Aoa .i64 v1 (((gt v15 v4).Ae).length:Int)) v2))else none)else none)else(Ahs K v1 v2 v3 v11 v12 v13 v14 K 0 0))
def As1 (K:Nat)(a0:Eb):Option (Bool):=(Ae9 K K 0 0 ([]:List Int) 0 a0.fC.Ae a0.fC.Eg a0.fC.C0 a0.fC.E9 a0.fC.C1 a0.fC.Eh a0.fP.Fy a0.fP.Hh a0.fP.Fz a0.fL a0.fQ a0.Pr)
def s_43:Sig:=⟨[.v 32],[.v 4],true⟩
def Bxs (K:Nat):Gb tyU:=⟨s_43,As1 K⟩
def A6c (K:Nat):=xF s_43 [(202,Bta K),(218,Bde K),(221,Bs9 K),(222,Bxn K),(223,Bxp K)] [] 148 [60,61,134,135,140,141,142] [] [] [4073,8009,2050532] [.tmp 2]
def Ax3:E5:=⟨[(1,.p 101),(3,.v 2),(4,.v 2),(5,.o 1005 3 true),(6,.v 2),(7,.v 2),(8,.v 2)],[(101,.box [.v 2,.v 2,.v 2,.v 2,.v 2,.v 2,.v 22,.v 26,.v 26,.v 29,.v 30,.v 26])]⟩
def Ayk:E5:=⟨[(1,.p 101),(3,.v 2),(4,.v 2),(5,.o 1005 3 true),(6,.v 2),(7,.v 2)],[(101,.box [.v 2,.v 2,.v 2,.v 2,.v 2,.v 2,.v 22,.v 26,.v 26,.v 29,.v 30,.v 26])]⟩
def Ano:E5:=⟨[(1,.p 101),(3,.v 2),(4,.v 2),(5,.o 1005 3 true),(6,.v 2),(7,.v 2)],[(101,.box [.v 2,.v 2,.v 2,.v 2,.v 2,.v 2,.v 22,.v 26,.v 26,.v 29,.v 30,.v 26])]⟩
def A1m:E5:=⟨[(1,.p 101),(3,.v 2),(4,.v 2),(5,.o 1005 3 true),(6,.v 2)],[(101,.box [.v 2,.v 2,.v 2,.v 2,.v 2,.v 2,.v 22,.v 26,.v 26,.v 29,.v 30,.v 26])]⟩
def A1n:E5:=⟨[(1,.p 101),(3,.v 2),(4,.v 2),(5,.o 1005 3 true),(9,.v 2),(10,.v 2)],[(101,.box [.v 2,.v 2,.v 2,.v 2,.v 2,.v 2,.v 22,.v 26,.v 26,.v 29,.v 30,.v 26])]⟩
def A1o:E5:=⟨[(1,.p 101),(3,.v 2),(4,.v 2),(5,.o 1005 3 true),(9,.v 2),(11,.v 2)],[(101,.box [.v 2,.v 2,.v 2,.v 2,.v 2,.v 2,.v 22,.v 26,.v 26,.v 29,.v 30,.v 26])]⟩
def Aum:E5:=⟨[(1,.p 101),(3,.v 2),(4,.v 2),(5,.o 1005 3 true),(9,.v 2),(10,.v 2)],[(101,.box [.v 2,.v 2,.v 2,.v 2,.v 2,.v 2,.v 22,.v 26,.v 26,.v 29,.v 30,.v 26])]⟩
def Ak8:E5:=⟨[(1,.p 101),(3,.v 2),(4,.v 2),(5,.o 1005 3 true),(6,.v 2)],[(101,.box [.v 2,.v 2,.v 2,.v 2,.v 2,.v 2,.v 22,.v 26,.v 26,.v 29,.v 30,.v 26])]⟩
def Ax4 (K:Nat)(C250:CT Ak8 s_43)(C128158:CT Ano s_43)(n:Nat)(q:PT Ax3):Rt s_43:=Anh K q.2.2.2.1 q.2.2.2.2.2.2.2.2.2.2.2.2.2.2.2.2.1 q.2.2.1 q.2.2.2.2.1 (fun v20 v21=>C128158 (q.1,q.2.1,v20,q.2.2.2.1,v21,q.2.2.2.2.2.2.1,q.2.2.2.2.2.2.2.1,q.2.2.2.2.2.2.2.2.1,q.2.2.2.2.2.2.2.2.2.1,q.2.2.2.2.2.2.2.2.2.2.1,q.2.2.2.2.2.2.2.2.2.2.2.1,q.2.2.2.2.2.2.2.2.2.2.2.2.1,q.2.2.2.2.2.2.2.2.2.2.2.2.2.1,q.2.2.2.2.2.2.2.2.2.2.2.2.2.2.1,q.2.2.2.2.2.2.2.2.2.2.2.2.2.2.2.1,q.2.2.2.2.2.2.2.2.2.2.2.2.2.2.2.2.1,q.2.2.2.2.2.2.2.2.2.2.2.2.2.2.2.2.2.1,())) n q.2.2.2.2.2.1
def Ayl (K:Nat)(C250:CT Ak8 s_43)(C128158:CT Ano s_43)(q:PT Ayk):Rt s_43:=Aqg K q.2.2.2.1 q.2.2.2.2.2.2.2.2.2.2.2.2.2.2.2.1 q.2.2.1 q.2.2.2.2.1 (fun v20 v21=>C128158 (q.1,q.2.1,v20,q.2.2.2.1,v21,q.2.2.2.2.2.1,q.2.2.2.2.2.2.1,q.2.2.2.2.2.2.2.1,q.2.2.2.2.2.2.2.2.1,q.2.2.2.2.2.2.2.2.2.1,q.2.2.2.2.2.2.2.2.2.2.1,q.2.2.2.2.2.2.2.2.2.2.2.1,q.2.2.2.2.2.2.2.2.2.2.2.2.1,q.2.2.2.2.2.2.2.2.2.2.2.2.2.1,q.2.2.2.2.2.2.2.2.2.2.2.2.2.2.1,q.2.2.2.2.2.2.2.2.2.2.2.2.2.2.2.1,q.2.2.2.2.2.2.2.2.2.2.2.2.2.2.2.2.1,()))
def Awh (K:Nat)(C250:CT Ak8 s_43)(n:Nat)(q:PT Ano):Rt s_43:=Ak5 K q.2.2.2.1 q.2.2.2.2.2.1 q.2.2.2.2.2.2.1 q.2.2.2.2.2.2.2.1 q.2.2.2.2.2.2.2.2.1 q.2.2.2.2.2.2.2.2.2.1 q.2.2.2.2.2.2.2.2.2.2.1 q.2.2.2.2.2.2.2.2.2.2.2.1 q.2.2.2.2.2.2.2.2.2.2.2.2.1 q.2.2.2.2.2.2.2.2.2.2.2.2.2.1 q.2.2.2.2.2.2.2.2.2.2.2.2.2.2.1 q.2.2.2.2.2.2.2.2.2.2.2.2.2.2.2.1 q.2.2.2.2.2.2.2.2.2.2.2.2.2.2.2.2.1 q.1 q.2.1 (fun v1 v2 v3 v4 v5 v6 v7 v8 v9 v10 v11 v12 v13 v14 v15 v16=>C250 (v1,v2,v3,v4,v5,v6,v7,v8,v9,v10,v11,v12,v13,v14,v15,v16,())) n q.2.2.1 q.2.2.2.2.1
def A1p (K:Nat)(C250:CT Ak8 s_43)(q:PT A1m):Rt s_43:=Aqh K q.2.2.1 q.2.2.2.1 q.2.2.2.2.1 q.2.2.2.2.2.1 q.2.2.2.2.2.2.1 q.2.2.2.2.2.2.2.1 q.2.2.2.2.2.2.2.2.1 q.2.2.2.2.2.2.2.2.2.1 q.2.2.2.2.2.2.2.2.2.2.1 q.2.2.2.2.2.2.2.2.2.2.2.1 q.2.2.2.2.2.2.2.2.2.2.2.2.1 q.2.2.2.2.2.2.2.2.2.2.2.2.2.1 q.2.2.2.2.2.2.2.2.2.2.2.2.2.2.1 q.2.2.2.2.2.2.2.2.2.2.2.2.2.2.2.1 (fun v1 v2 v3 v4 v5 v6 v7 v8 v9 v10 v11 v12 v13 v14 v15 v16=>C250 (v1,v2,v3,v4,v5,v6,v7,v8,v9,v10,v11,v12,v13,v14,v15,v16,())) q.1 q.2.1
def A1q (K:Nat)(C1018:CT Aum s_43)(q:PT A1n):Rt s_43:=Art K q.2.2.2.2.1 (fun v24 v25=>C1018 (q.1,q.2.1,q.2.2.1,v24,v25,q.2.2.2.2.2.1,q.2.2.2.2.2.2.1,q.2.2.2.2.2.2.2.1,q.2.2.2.2.2.2.2.2.1,q.2.2.2.2.2.2.2.2.2.1,q.2.2.2.2.2.2.2.2.2.2.1,q.2.2.2.2.2.2.2.2.2.2.2.1,q.2.2.2.2.2.2.2.2.2.2.2.2.1,q.2.2.2.2.2.2.2.2.2.2.2.2.2.1,q.2.2.2.2.2.2.2.2.2.2.2.2.2.2.1,q.2.2.2.2.2.2.2.2.2.2.2.2.2.2.2.1,q.2.2.2.2.2.2.2.2.2.2.2.2.2.2.2.2.1,())) q.2.2.2.1
def A1r (K:Nat)(n:Nat)(q:PT A1o):Rt s_43:=Ak7 K q.1 q.2.1 q.2.2.1 q.2.2.2.2.2.2.2.2.2.2.2.1 q.2.2.2.2.2.2.2.2.2.2.2.2.1 q.2.2.2.2.2.2.2.2.2.2.2.2.2.1 q.2.2.2.2.2.2.2.2.2.2.2.2.2.2.1 q.2.2.2.1 n q.2.2.2.2.1
def Ayb (K:Nat)(n:Nat)(q:PT Aum):Rt s_43:=Ahs K q.1 q.2.1 q.2.2.1 q.2.2.2.2.2.2.2.2.2.2.2.1 q.2.2.2.2.2.2.2.2.2.2.2.2.1 q.2.2.2.2.2.2.2.2.2.2.2.2.2.1 q.2.2.2.2.2.2.2.2.2.2.2.2.2.2.1 n q.2.2.2.1 q.2.2.2.2.1
def Ay1 (K:Nat)(n:Nat)(q:PT Ak8):Rt s_43:=Ae9 K n q.1 q.2.1 q.2.2.1 q.2.2.2.1 q.2.2.2.2.1 q.2.2.2.2.2.1 q.2.2.2.2.2.2.1 q.2.2.2.2.2.2.2.1 q.2.2.2.2.2.2.2.2.1 q.2.2.2.2.2.2.2.2.2.1 q.2.2.2.2.2.2.2.2.2.2.1 q.2.2.2.2.2.2.2.2.2.2.2.1 q.2.2.2.2.2.2.2.2.2.2.2.2.1 q.2.2.2.2.2.2.2.2.2.2.2.2.2.1 q.2.2.2.2.2.2.2.2.2.2.2.2.2.2.1 q.2.2.2.2.2.2.2.2.2.2.2.2.2.2.2.1
theorem A6d (K:Nat)(C250:CT Ak8 s_43)(C128158:CT Ano s_43):AtL (A6c K) (fun n=>[]) [(128158,ar Ano C128158),(250,ar Ak8 C250)] (bd Tryz.f148) 16404262 (Ax4 K C250 C128158):=fun n q=>by kernel_rfl
theorem A75 (K:Nat)(C250:CT Ak8 s_43)(C128158:CT Ano s_43):AtJ (A6c K) [(16404262,ar Ax3 (Ax4 K C250 C128158 K))] [(128158,ar Ano C128158),(250,ar Ak8 C250)] (bd Tryz.f148) 2050532 (Ayl K C250 C128158):=fun q=>by kernel_rfl
theorem A9v (K:Nat)(C250:CT Ak8 s_43):AtL (A6c K) (fun n=>[(2050532,ar Ayk (Ayl K C250 (Awh K C250 n)))]) [(250,ar Ak8 C250)] (bd Tryz.f148) 128158 (Awh K C250):=fun n q=>by kernel_rfl
theorem Bdf (K:Nat)(C250:CT Ak8 s_43):AtJ (A6c K) [(128158,ar Ano (Awh K C250 K))] [(250,ar Ak8 C250)] (bd Tryz.f148) 8009 (A1p K C250):=fun q=>by kernel_rfl
theorem Bdg (K:Nat)(C1018:CT Aum s_43):AtJ (A6c K) [] [(1018,ar Aum C1018)] (bd Tryz.f148) 4073 (A1q K C1018):=fun q=>by kernel_rfl
theorem Bdh (K:Nat):AtL (A6c K) (fun n=>[]) [] (bd Tryz.f148) 2042 (A1r K):=fun n q=>by kernel_rfl
theorem Bdi (K:Nat):AtL (A6c K) (fun n=>[(4073,ar A1n (A1q K (Ayb K n))),(2042,ar A1o (A1r K K))]) [] (bd Tryz.f148) 1018 (Ayb K):=fun n q=>by kernel_rfl
theorem Bf6 (K:Nat):AtL (A6c K) (fun n=>[(8009,ar A1m (A1p K (Ay1 K n))),(1018,ar Aum (Ayb K K))]) [] (bd Tryz.f148) 250 (Ay1 K):=fun n q=>by kernel_rfl
theorem A00 (K:Nat):XF [.tmp 2] s_43 148 [4073,8009,2050532] (A6c K):=xkF (gC (Bo6 K) (gC (A9u K) (gC (Bo4 K) (gC (Bxo K) (gC (Bxq K) gN))))) oN
theorem A6e (K:Nat)(C250:CT Ak8 s_43)(C128158:CT Ano s_43)(n:Nat):CF [.tmp 2] s_43 148 [4073,8009,2050532] (bd Tryz.f148) [(128158,ar Ano C128158),(250,ar Ak8 C250)] 16404262 (ar Ax3 (Ax4 K C250 C128158 n)):=
 Aeh (A00 K) (A6d K C250 C128158) (fun n=>kN) n
theorem A76 (K:Nat)(C250:CT Ak8 s_43)(C128158:CT Ano s_43):CF [.tmp 2] s_43 148 [4073,8009,2050532] (bd Tryz.f148) [(128158,ar Ano C128158),(250,ar Ak8 C250)] 2050532 (ar Ayk (Ayl K C250 C128158)):=
 Apk (A00 K) (A75 K C250 C128158) (kC (A6e K C250 C128158 K) kN)
theorem A9w (K:Nat)(C250:CT Ak8 s_43)(n:Nat):CF [.tmp 2] s_43 148 [4073,8009,2050532] (bd Tryz.f148) [(250,ar Ak8 C250)] 128158 (ar Ano (Awh K C250 n)):=
 Aeh (A00 K) (A9v K C250) (fun n=>(kC (A76 K C250 (Awh K C250 n)) kN)) n
theorem Bdj (K:Nat)(C250:CT Ak8 s_43):CF [.tmp 2] s_43 148 [4073,8009,2050532] (bd Tryz.f148) [(250,ar Ak8 C250)] 8009 (ar A1m (A1p K C250)):=
 Apk (A00 K) (Bdf K C250) (kC (A9w K C250 K) kN)
theorem Bdk (K:Nat)(C1018:CT Aum s_43):CF [.tmp 2] s_43 148 [4073,8009,2050532] (bd Tryz.f148) [(1018,ar Aum C1018)] 4073 (ar A1n (A1q K C1018)):=
 Apk (A00 K) (Bdg K C1018) kN
theorem Bdl (K:Nat)(n:Nat):CF [.tmp 2] s_43 148 [4073,8009,2050532] (bd Tryz.f148) [] 2042 (ar A1o (A1r K n)):=
 Aeh (A00 K) (Bdh K) (fun n=>kN) n
theorem Bdm (K:Nat)(n:Nat):CF [.tmp 2] s_43 148 [4073,8009,2050532] (bd Tryz.f148) [] 1018 (ar Aum (Ayb K n)):=
 Aeh (A00 K) (Bdi K) (fun n=>(kC (Bdk K (Ayb K n)) (kC (Ao2 (by kernel_rfl) (Bdl K K)) kN))) n
theorem Bf7 (K:Nat)(n:Nat):CF [.tmp 2] s_43 148 [4073,8009,2050532] (bd Tryz.f148) [] 250 (ar Ak8 (Ay1 K n)):=
 Aeh (A00 K) (Bf6 K) (fun n=>(kC (Bdj K (Ay1 K n)) (kC (Ao2 (by kernel_rfl) (Bdm K K)) kN))) n
theorem Bxt (K:Nat):OkF 148 (Bxs K):=
 Aa6 (x:=A6c K) (L:=[(250,ar Ak8 (Ay1 K K))]) (c0:=bd Tryz.f148) (A00 K) (by intro a0;show @Eq _ _ _;kernel_rfl) (kC (Bf7 K K) kN) Tryz.func148 trivial
def Anp (K:Nat)(a0:Er)(v8:List Int):Nat->Int->Option (Bool)
 |0,_=>none
 |n3+1,v12=>(bif (decide (v12<(v8.length:Int)))then(if(0:Int)≤v12∧v12<(v8.length:Int)then((Ac1 K (gt v8 v12) 0 (Aob .i64 a0.Ae 1)).bind fun r13=>(bif r13 then(if(0:Int)≤0∧0≤v12∧v12≤(v8.length:Int)then(if(0:Int)≤v12∧v12<(v8.length:Int)then((Aps K ((v8.drop (0:Int).toNat).take (v12 - 0).toNat) (gt v8 v12)).bind fun r14=>(bif r14 then some false else(Anp K a0 v8 n3 (Aoa .i64 v12 1))))else none)else none)else some false))else none)else some true)
def Apm (K:Nat)(a0:Er)(v7:List Int)(v8:List Int):Nat->Int->Option (Bool)
 |0,_=>none
 |n2+1,v10=>(bif (decide (v10<(v7.length:Int)))then(if(0:Int)≤v10∧v10<(v7.length:Int)then((Ac1 K (gt v7 v10) 0 255).bind fun r11=>(bif (!r11)then some false else(Apm K a0 v7 v8 n2 (Aoa .i64 v10 1))))else none)else(Anp K a0 v8 K 0))
def As2 (K:Nat)(a0:Er)(v5:Int)(v6:Int)(v7:List Int)(v8:List Int)(v9:Int):Option (Bool):=(Apm K a0 v7 v8 K 0)
def Au0 (K:Nat)(a0:Er)(a1:Ax):Option (Bool):=((Aq3 K a0).bind fun r1=>(bif r1 then((Ac1 K a1.A5 0 a0.C0).bind fun r2=>(bif r2 then((Ac1 K a1.Bt 0 a0.C0).bind fun r3=>(bif r3 then(bif (decide ((a1.Dg.length:Int)>6))then some false else((Ac1 K a1.Gu 0 (Aob .i64 a0.Eg 1)).bind fun r4=>(bif r4 then(bif ((a1.Ae.length:Int)==0)then(bif (a1.Gu != 0)then some false else(As2 K a0 a1.A5 a1.Bt a1.Dg a1.Ae a1.Gu))else(As2 K a0 a1.A5 a1.Bt a1.Dg a1.Ae a1.Gu))else some false)))else some false))else some false))else some false))
def s_44:Sig:=⟨[.v 25,.v 159],[.v 4],true⟩
def Bxu (K:Nat):Gb tyU:=⟨s_44,Au0 K⟩
def Bf8 (K:Nat):=xF s_44 [(84,A6b K),(210,Bfo K),(218,Bde K)] [] 95 [8,9,10,15,16,17,18,23,24,25,26,30,31,32,38,39,40,41,45,46,81,82,83] [] [] [3] [.tmp 4]
def A3b:E5:=⟨[(2,.p 102),(3,.p 103),(6,.v 2)],[(103,.box [.v 2,.v 2,.v 26,.v 26,.v 2]),(102,.st 25 true)]⟩
def A77:E5:=⟨[(2,.p 102),(3,.p 103),(5,.v 2)],[(103,.box [.v 2,.v 2,.v 26,.v 26,.v 2]),(102,.st 25 true)]⟩
def Bbd:E5:=⟨[(2,.p 102),(3,.p 103)],[(103,.box [.v 2,.v 2,.v 26,.v 26,.v 2]),(102,.st 25 true)]⟩
def A3c (K:Nat)(n:Nat)(q:PT A3b):Rt s_44:=Anp K q.2.2.2.2.2.2.1 q.2.2.2.2.1 n q.1
def A78 (K:Nat)(n:Nat)(q:PT A77):Rt s_44:=Apm K q.2.2.2.2.2.2.1 q.2.2.2.1 q.2.2.2.2.1 n q.1
def Bbe (K:Nat)(q:PT Bbd):Rt s_44:=As2 K q.2.2.2.2.2.1 q.1 q.2.1 q.2.2.1 q.2.2.2.1 q.2.2.2.2.1
theorem Bf9 (K:Nat):AtL (Bf8 K) (fun n=>[]) [] (bd Tryz.f220) 122 (A3c K):=fun n q=>by kernel_rfl
theorem Bm3 (K:Nat):AtL (Bf8 K) (fun n=>[(122,ar A3b (A3c K K))]) [] (bd Tryz.f220) 58 (A78 K):=fun n q=>by kernel_rfl
theorem Btc (K:Nat):AtJ (Bf8 K) [(58,ar A77 (A78 K K))] [] (bd Tryz.f220) 3 (Bbe K):=fun q=>by kernel_rfl
theorem Bcr (K:Nat):XF [.tmp 4] s_44 95 [3] (Bf8 K):=xkF (gC (A0v K) (gC (Bcp K) (gC (A9u K) gN))) oN
theorem Bga (K:Nat)(n:Nat):CF [.tmp 4] s_44 95 [3] (bd Tryz.f220) [] 122 (ar A3b (A3c K n)):=
 Aeh (Bcr K) (Bf9 K) (fun n=>kN) n
theorem Bm4 (K:Nat)(n:Nat):CF [.tmp 4] s_44 95 [3] (bd Tryz.f220) [] 58 (ar A77 (A78 K n)):=
 Aeh (Bcr K) (Bm3 K) (fun n=>(kC (Ao2 (by kernel_rfl) (Bga K K)) kN)) n
theorem Btd (K:Nat):CF [.tmp 4] s_44 95 [3] (bd Tryz.f220) [] 3 (ar Bbd (Bbe K)):=
 Apk (Bcr K) (Btc K) (kC (Bm4 K K) kN)
theorem Bxv (K:Nat):OkF 220 (Bxu K):=
 Aa6 (x:=Bf8 K) (L:=[(3,ar Bbd (Bbe K))]) (c0:=bd Tryz.f220) (Bcr K) (by intro a0 a1;show @Eq _ _ _;kernel_rfl) (kC (Btd K) kN) Tryz.func220 trivial
def Apx (K:Nat)(v17:List Ba)(r21:(List Int)):Nat->Int->Option (Bool)
 |0,_=>none
 |n4+1,v22=>(bif (decide (v22<(r21.length:Int)))then(if(0:Int)≤v22∧v22<(r21.length:Int)then((Aq8 K v17 (gt r21 v22)).bind fun r23=>(bif (!r23)then some false else(Apx K v17 r21 n4 (Aoa .i64 v22 1))))else none)else some true)
def Aok (K:Nat)(v4:Int)(v17:List Ba):Option (Bool):=((Ato K v17 v4).bind fun r21=>(Apx K v17 r21 K 0))
def Aqu (K:Nat)(v3:Int)(v4:Int)(v17:List Ba):Option (Bool):=(bif (v3 != 0)then(if(0:Int)≤(Aob .i64 v3 1)∧(Aob .i64 v3 1)<(v17.length:Int)then(bif (((gt v17 (Aob .i64 v3 1)).Hh) != 2)then some false else(bif (v4 != 0)then(if(0:Int)≤(Aob .i64 v4 1)∧(Aob .i64 v4 1)<(v17.length:Int)then(bif (((gt v17 (Aob .i64 v4 1)).Gs) != 0)then some false else(Aok K v4 v17))else none)else(Aok K v4 v17)))else none)else(bif (v4 != 0)then(if(0:Int)≤(Aob .i64 v4 1)∧(Aob .i64 v4 1)<(v17.length:Int)then(bif (((gt v17 (Aob .i64 v4 1)).Gs) != 0)then some false else(Aok K v4 v17))else none)else(Aok K v4 v17)))
def Aou (K:Nat):Nat->Int->Int->Int->(List Int)->(List Int)->Int->Int->Int->Int->Int->Int->Int->(List Int)->(List Int)->(List Int)->(List Ba)->(List Ax)->(List Int)->Option (Bool)
 |0,_,_,_,_,_,_,_,_,_,_,_,_,_,_,_,_,_,_=>none
 |n1+1,v2,v3,v4,v5,v6,v7,v8,v9,v10,v11,v12,v13,v14,v15,v16,v17,v18,v19=>(bif (decide (v2<(v6.length:Int)))then(if(0:Int)≤v2∧v2<(v6.length:Int)then(if(0:Int)≤(gt v6 v2)∧(gt v6 v2)<(v15.length:Int)then(bif ((gt v15 (gt v6 v2)) != 2)then some false else(Aou K n1 (Aoa .i64 v2 1) v3 v4 v5 v6 v7 v8 v9 v10 v11 v12 v13 v14 v15 v16 v17 v18 v19))else none)else none)else(bif (decide ((v6.length:Int)>0))then(if(0:Int)≤0∧0<(v6.length:Int)then(if(0:Int)≤0∧0<(v6.length:Int)then(if(0:Int)≤(Aoc .i64 (gt v6 0) v9)∧(Aoc .i64 (gt v6 0) v9)≤(Aoa .i64 (Aoc .i64 (gt v6 0) v9) v7)∧(Aoa .i64 (Aoc .i64 (gt v6 0) v9) v7)≤(v14.length:Int)then((Ar4 K ((v14.drop (Aoc .i64 (gt v6 0) v9).toNat).take ((Aoa .i64 (Aoc .i64 (gt v6 0) v9) v7) - (Aoc .i64 (gt v6 0) v9)).toNat)).bind fun r20=>(bif (!r20)then some false else(Aqu K v3 v4 v17)))else none)else none)else none)else(Aqu K v3 v4 v17)))
def Atz (K:Nat)(a0:Eb)(a1:Int):Option (Bool):=(if(0:Int)≤a1∧a1<(a0.fQ.length:Int)then((Au0 K a0.fC (gt a0.fQ a1)).bind fun r1=>(bif (!r1)then some false else(Aou K K 0 ((gt a0.fQ a1).A5) ((gt a0.fQ a1).Bt) ((gt a0.fQ a1).Dg) ((gt a0.fQ a1).Ae) ((gt a0.fQ a1).Gu) a0.fC.Ae a0.fC.Eg a0.fC.C0 a0.fC.E9 a0.fC.C1 a0.fC.Eh a0.fP.Fy a0.fP.Hh a0.fP.Fz a0.fL a0.fQ a0.Pr)))else none)
def s_45:Sig:=⟨[.v 32,.v 3],[.v 4],true⟩
def Bxw (K:Nat):Gb tyU:=⟨s_45,Atz K⟩
def Bdn (K:Nat):=xF s_45 [(202,Bta K),(212,Bmb K),(220,Bxu K),(221,Bs9 K)] [] 117 [40,41,70,71,80,81,82,85,86] [] [] [31,63] [.tmp 4]
def A1s:E5:=⟨[(2,.p 102),(7,.v 26),(8,.v 2)],[(102,.box [.v 2,.v 2,.v 2,.v 2,.v 2,.v 2,.v 22,.v 26,.v 26,.v 29,.v 30,.v 26])]⟩
def A79:E5:=⟨[(2,.p 102),(5,.p 105)],[(105,.box [.v 2,.v 2,.v 26,.v 26,.v 2]),(102,.box [.v 2,.v 2,.v 2,.v 2,.v 2,.v 2,.v 22,.v 26,.v 26,.v 29,.v 30,.v 26])]⟩
def A8a:E5:=⟨[(2,.p 102),(5,.p 105)],[(105,.box [.v 2,.v 2,.v 26,.v 26,.v 2]),(102,.box [.v 2,.v 2,.v 2,.v 2,.v 2,.v 2,.v 22,.v 26,.v 26,.v 29,.v 30,.v 26])]⟩
def A3d:E5:=⟨[(2,.p 102),(5,.p 105),(6,.v 2)],[(105,.box [.v 2,.v 2,.v 26,.v 26,.v 2]),(102,.box [.v 2,.v 2,.v 2,.v 2,.v 2,.v 2,.v 22,.v 26,.v 26,.v 29,.v 30,.v 26])]⟩
def A1t (K:Nat)(n:Nat)(q:PT A1s):Rt s_45:=Apx K q.2.2.2.2.2.2.2.2.2.2.2.1 q.1 n q.2.1
def A8b (K:Nat)(q:PT A79):Rt s_45:=Aok K q.2.1 q.2.2.2.2.2.2.2.2.2.2.2.2.2.2.1
def A8c (K:Nat)(q:PT A8a):Rt s_45:=Aqu K q.1 q.2.1 q.2.2.2.2.2.2.2.2.2.2.2.2.2.2.1
def A3e (K:Nat)(n:Nat)(q:PT A3d):Rt s_45:=Aou K n q.1 q.2.1 q.2.2.1 q.2.2.2.1 q.2.2.2.2.1 q.2.2.2.2.2.1 q.2.2.2.2.2.2.1 q.2.2.2.2.2.2.2.1 q.2.2.2.2.2.2.2.2.1 q.2.2.2.2.2.2.2.2.2.1 q.2.2.2.2.2.2.2.2.2.2.1 q.2.2.2.2.2.2.2.2.2.2.2.1 q.2.2.2.2.2.2.2.2.2.2.2.2.1 q.2.2.2.2.2.2.2.2.2.2.2.2.2.1 q.2.2.2.2.2.2.2.2.2.2.2.2.2.2.1 q.2.2.2.2.2.2.2.2.2.2.2.2.2.2.2.1 q.2.2.2.2.2.2.2.2.2.2.2.2.2.2.2.2.1 q.2.2.2.2.2.2.2.2.2.2.2.2.2.2.2.2.2.1
theorem Bdo (K:Nat):AtL (Bdn K) (fun n=>[]) [] (bd Tryz.f147) 2042 (A1t K):=fun n q=>by kernel_rfl
theorem Bm5 (K:Nat):AtJ (Bdn K) [(2042,ar A1s (A1t K K))] [] (bd Tryz.f147) 63 (A8b K):=fun q=>by kernel_rfl
theorem Bm6 (K:Nat):AtJ (Bdn K) [(63,ar A79 (A8b K))] [] (bd Tryz.f147) 31 (A8c K):=fun q=>by kernel_rfl
theorem Bgb (K:Nat):AtL (Bdn K) (fun n=>[(31,ar A8a (A8c K))]) [] (bd Tryz.f147) 122 (A3e K):=fun n q=>by kernel_rfl
theorem A9x (K:Nat):XF [.tmp 4] s_45 117 [31,63] (Bdn K):=xkF (gC (Bo6 K) (gC (Bfp K) (gC (Bxv K) (gC (Bo4 K) gN)))) oN
theorem Bdp (K:Nat)(n:Nat):CF [.tmp 4] s_45 117 [31,63] (bd Tryz.f147) [] 2042 (ar A1s (A1t K n)):=
 Aeh (A9x K) (Bdo K) (fun n=>kN) n
theorem Bm7 (K:Nat):CF [.tmp 4] s_45 117 [31,63] (bd Tryz.f147) [] 63 (ar A79 (A8b K)):=
 Apk (A9x K) (Bm5 K) (kC (Bdp K K) kN)
theorem Bm8 (K:Nat):CF [.tmp 4] s_45 117 [31,63] (bd Tryz.f147) [] 31 (ar A8a (A8c K)):=
 Apk (A9x K) (Bm6 K) (kC (Bm7 K) kN)
theorem Bgc (K:Nat)(n:Nat):CF [.tmp 4] s_45 117 [31,63] (bd Tryz.f147) [] 122 (ar A3d (A3e K n)):=
 Aeh (A9x K) (Bgb K) (fun n=>(kC (Ao2 (by kernel_rfl) (Bm8 K)) kN)) n
theorem Bxx (K:Nat):OkF 147 (Bxw K):=
 Aa6 (x:=Bdn K) (L:=[(122,ar A3d (A3e K K))]) (c0:=bd Tryz.f147) (A9x K) (by intro a0 a1;show @Eq _ _ _;kernel_rfl) (kC (Bgc K K) kN) Tryz.func147 trivial
def Axs (K:Nat)(a0:Ba):Option (Bool):=(bif (a0.Ly==0)then(bif (a0.fUp==0)then(bif (a0.Gq==0)then(bif (a0.Bt==0)then(bif (a0.Gr==0)then(bif (a0.Gs==0)then(bif ((a0.Ae.length:Int)==0)then(bif (a0.Pq==0)then(bif (a0.Gt==0)then(bif ((a0.Ea.length:Int)==0)then some ((a0.Dg.length:Int)==0)else some false)else some false)else some false)else some false)else some false)else some false)else some false)else some false)else some false)else some false)
def Bxy:Sig:=⟨[.v 44],[.v 4],true⟩
def Bxz (K:Nat):Gb tyU:=⟨Bxy,Axs K⟩
def B3i (K:Nat):=xF Bxy [] [] 59 [5,6,9,10,11,14,15,16,19,20,21,24,25,26,29,30,31,35,36,37,40,41,42,45,46,47,51,52,53] [] [] [] [.tmp 2]
theorem Bx0 (K:Nat):OkF 214 (Bxz K):=
 Aa6 (x:=B3i K) (L:=[]) (c0:=bd Tryz.f214) (xkF gN oN) (by intro a0;show @Eq _ _ _;kernel_rfl) kN Tryz.func214 trivial
def Aov (K:Nat)(a0:Er):Nat->Int->Int->Int->Int->Int->Int->Int->Int->Int->(List Int)->Int->Int->(List A9)->(List Int)->Option (Bool)
 |0,_,_,_,_,_,_,_,_,_,_,_,_,_,_=>none
 |n1+1,v1,v2,v3,v4,v5,v6,v7,v8,v9,v10,v11,v12,v13,v14=>(bif (decide (v1<(v10.length:Int)))then(if(0:Int)≤v1∧v1<(v10.length:Int)then((Ac1 K (gt v10 v1) 0 (Aob .i64 a0.Ae 1)).bind fun r15=>(bif r15 then(if(0:Int)≤0∧0≤v1∧v1≤(v10.length:Int)then(if(0:Int)≤v1∧v1<(v10.length:Int)then((Aps K ((v10.drop (0:Int).toNat).take (v1 - 0).toNat) (gt v10 v1)).bind fun r16=>(bif r16 then some false else(Aov K a0 n1 (Aoa .i64 v1 1) v2 v3 v4 v5 v6 v7 v8 v9 v10 v11 v12 v13 v14)))else none)else none)else some false))else none)else(bif (v11==0)then some (v12==0)else((Aps K v10 (Aob .i64 v11 1)).bind fun r17=>(bif r17 then((Ac1 K v12 0 a0.Eg).bind fun r18=>some r18)else some false))))
def At0 (K:Nat)(a0:Er)(a1:Ba):Option (Bool):=(Aov K a0 K 0 a1.Hh a1.C2 a1.Ly a1.fUp a1.Gq a1.Bt a1.Gr a1.Gs a1.Ae a1.Pq a1.Gt a1.Ea a1.Dg)
def s_47:Sig:=⟨[.v 25,.v 44],[.v 4],true⟩
def Bx1 (K:Nat):Gb tyU:=⟨s_47,At0 K⟩
def Bte (K:Nat):=xF s_47 [(84,A6b K),(218,Bde K)] [] 54 [21,22,23,46,47] [] [] [] [.tmp 4]
def A8d:E5:=⟨[(2,.p 102),(3,.p 103),(5,.v 2)],[(103,.box [.v 2,.v 2,.v 2,.v 2,.v 2,.v 2,.v 2,.v 2,.v 26,.v 2,.v 2,.v 41,.v 26]),(102,.st 25 true)]⟩
def A8e (K:Nat)(n:Nat)(q:PT A8d):Rt s_47:=Aov K q.2.2.2.2.2.2.2.2.2.2.2.2.2.2.1 n q.1 q.2.1 q.2.2.1 q.2.2.2.1 q.2.2.2.2.1 q.2.2.2.2.2.1 q.2.2.2.2.2.2.1 q.2.2.2.2.2.2.2.1 q.2.2.2.2.2.2.2.2.1 q.2.2.2.2.2.2.2.2.2.1 q.2.2.2.2.2.2.2.2.2.2.1 q.2.2.2.2.2.2.2.2.2.2.2.1 q.2.2.2.2.2.2.2.2.2.2.2.2.1 q.2.2.2.2.2.2.2.2.2.2.2.2.2.1
theorem Bm9 (K:Nat):AtL (Bte K) (fun n=>[]) [] (bd Tryz.f215) 26 (A8e K):=fun n q=>by kernel_rfl
theorem Bo7 (K:Nat):XF [.tmp 4] s_47 54 [] (Bte K):=xkF (gC (A0v K) (gC (A9u K) gN)) oN
theorem Bna (K:Nat)(n:Nat):CF [.tmp 4] s_47 54 [] (bd Tryz.f215) [] 26 (ar A8d (A8e K n)):=
 Aeh (Bo7 K) (Bm9 K) (fun n=>kN) n
theorem Bx2 (K:Nat):OkF 215 (Bx1 K):=
 Aa6 (x:=Bte K) (L:=[(26,ar A8d (A8e K K))]) (c0:=bd Tryz.f215) (Bo7 K) (by intro a0 a1;show @Eq _ _ _;kernel_rfl) (kC (Bna K K) kN) Tryz.func215 trivial
def Au1 (K:Nat)(a0:Er)(a1:Int):Option (Bool):=some (decide (a1>a0.Eg))
def Bx3:Sig:=⟨[.v 25,.v 3],[.v 4],true⟩
def Bx4 (K:Nat):Gb tyU:=⟨Bx3,Au1 K⟩
def B3j (K:Nat):=xF Bx3 [] [] 9 [] [] [] [] [.tmp 4]
theorem Bx5 (K:Nat):OkF 265 (Bx4 K):=
 Aa6 (x:=B3j K) (L:=[]) (c0:=bd Tryz.f265) (xkF gN oN) (by intro a0 a1;show @Eq _ _ _;kernel_rfl) kN Tryz.func265 trivial
def Au2 (K:Nat)(a0:Int)(a1:Int):Option (Int):=((Ac1 K a0 0 1000000000).bind fun r1=>(bif r1 then((Ac1 K a1 1 1000000000).bind fun r2=>(bif (!r2)then some 0 else(if a1≠(0:Int)then some (Alr .i64 (Aob .i64 (Aoa .i64 a0 a1) 1) a1)else none)))else some 0))
def Bx6:Sig:=⟨[.v 3,.v 3],[.v 3],true⟩
def Bx7 (K:Nat):Gb tyU:=⟨Bx6,Au2 K⟩
def B3k (K:Nat):=xF Bx6 [(84,A6b K)] [] 19 [6,7,8] [] [] [] [.tmp 4]
theorem Bx8 (K:Nat):OkF 296 (Bx7 K):=
 Aa6 (x:=B3k K) (L:=[]) (c0:=bd Tryz.f296) (xkF (gC (A0v K) gN) oN) (by intro a0 a1;show @Eq _ _ _;kernel_rfl) kN Tryz.func296 trivial
def As3 (K:Nat)(a0:Er)(a1:Int):Option (Int):=((Au2 K a1 a0.Eg).bind fun r1=>some r1)
def Bx9:Sig:=⟨[.v 25,.v 3],[.v 3],true⟩
def Bya (K:Nat):Gb tyU:=⟨Bx9,As3 K⟩
def B3l (K:Nat):=xF Bx9 [(296,Bx7 K)] [] 9 [] [] [] [] [.tmp 4]
theorem Byb (K:Nat):OkF 266 (Bya K):=
 Aa6 (x:=B3l K) (L:=[]) (c0:=bd Tryz.f266) (xkF (gC (Bx8 K) gN) oN) (by intro a0 a1;show @Eq _ _ _;kernel_rfl) kN Tryz.func266 trivial
def Aq9 (K:Nat)(a0:Er)(a1:A9):Option (Bool):=((Asl K a0).bind fun r1=>(bif (r1==0)then some false else(bif (decide (a1.Vu<1))then some false else(bif (decide (a1.fAt<0))then some false else(bif (decide (a1.fAt>r1))then some false else(bif (decide (a1.Vu>(Aob .i64 r1 a1.fAt)))then some false else(bif (a1.Vv==0)then(bif (decide (a1.Vu≤a0.Eg))then(if a0.Eg≠(0:Int)then(if a0.Eg≠(0:Int)then some ((Alr .i64 a1.fAt a0.Eg)==(Alr .i64 (Aob .i64 (Aoa .i64 a1.fAt a1.Vu) 1) a0.Eg))else none)else none)else some false)else((Au1 K a0 a1.Vu).bind fun r2=>(bif r2 then((As3 K a0 a1.Vu).bind fun r3=>(bif (a1.Vv==r3)then(if a0.Eg≠(0:Int)then some ((Int.tmod a1.fAt a0.Eg)==0)else none)else some false))else some false)))))))))
def Byc:Sig:=⟨[.v 25,.v 89],[.v 4],true⟩
def Btf (K:Nat):Gb tyU:=⟨Byc,Aq9 K⟩
def B3m (K:Nat):=xF Byc [(211,Bs3 K),(265,Bx4 K),(266,Bya K)] [] 81 [9,10,13,14,15,18,19,20,24,25,26,42,43,63,64,71,72,73] [] [] [] [.tmp 4]
theorem Bo8 (K:Nat):OkF 216 (Btf K):=
 Aa6 (x:=B3m K) (L:=[]) (c0:=bd Tryz.f216) (xkF (gC (Bo0 K) (gC (Bx5 K) (gC (Byb K) gN))) oN) (by intro a0 a1;show @Eq _ _ _;kernel_rfl) kN Tryz.func216 trivial
def Apy (K:Nat)(v23:List Int):Nat->Int->Option (Bool)
 |0,_=>none
 |n2+1,v25=>(bif (decide (v25<(v23.length:Int)))then(if(0:Int)≤v25∧v25<(v23.length:Int)then((Ac1 K (gt v23 v25) 0 255).bind fun r26=>(bif (!r26)then some false else(Apy K v23 n2 (Aoa .i64 v25 1))))else none)else some true)
def Ape (K:Nat)(a0:Er):Nat->Int->Int->Int->Int->Int->Int->Int->Int->Int->(List Int)->Int->Int->(List A9)->(List Int)->Option (Bool)
 |0,_,_,_,_,_,_,_,_,_,_,_,_,_,_=>none
 |n1+1,v10,v11,v12,v13,v14,v15,v16,v17,v18,v19,v20,v21,v22,v23=>(bif (decide (v10<(v22.length:Int)))then(if(0:Int)≤v10∧v10<(v22.length:Int)then((Aq9 K a0 (gt v22 v10)).bind fun r24=>(bif (!r24)then some false else(Ape K a0 n1 (Aoa .i64 v10 1) v11 v12 v13 v14 v15 v16 v17 v18 v19 v20 v21 v22 v23)))else none)else(Apy K v23 K 0))
def Av5 (K:Nat)(a0:Er)(a1:Ba):Option (Bool):=((Aq3 K a0).bind fun r1=>(bif r1 then((Ac1 K a1.Hh 0 3).bind fun r2=>(bif r2 then((Ac1 K a1.C2 1 a0.Eh).bind fun r3=>(bif (!r3)then some false else(bif (a1.Hh != 1)then((Axs K a1).bind fun r4=>some r4)else(bif (decide (a1.Ly<0))then some false else(bif (decide (a1.Gq<0))then some false else((Ac1 K a1.fUp 0 a0.C0).bind fun r5=>(bif r5 then((Ac1 K a1.Bt 0 a0.C0).bind fun r6=>(bif r6 then((Ac1 K a1.Gr 0 a0.C0).bind fun r7=>(bif r7 then((Ac1 K a1.Gs 0 a0.C0).bind fun r8=>(bif r8 then((At0 K a0 a1).bind fun r9=>(bif r9 then(bif (decide ((a1.Ea.length:Int)>12))then some false else(bif (decide ((a1.Dg.length:Int)>6))then some false else(Ape K a0 K 0 a1.Hh a1.C2 a1.Ly a1.fUp a1.Gq a1.Bt a1.Gr a1.Gs a1.Ae a1.Pq a1.Gt a1.Ea a1.Dg)))else some false))else some false))else some false))else some false))else some false)))))))else some false))else some false))
def s_52:Sig:=⟨[.v 25,.v 44],[.v 4],true⟩
def Byd (K:Nat):Gb tyU:=⟨s_52,Av5 K⟩
def Bnb (K:Nat):=xF s_52 [(84,A6b K),(210,Bfo K),(214,Bxz K),(215,Bx1 K),(216,Btf K)] [] 116 [8,9,10,13,14,15,16,31,32,35,36,37,42,43,44,45,50,51,52,53,58,59,60,61,66,67,68,69,72,73,74,75,79,80,81] [] [] [] [.tmp 4]
def A3f:E5:=⟨[(3,.p 103),(6,.v 2)],[(103,.box [.v 2,.v 2,.v 2,.v 2,.v 2,.v 2,.v 2,.v 2,.v 26,.v 2,.v 2,.v 41,.v 26])]⟩
def A3g:E5:=⟨[(2,.p 102),(3,.p 103),(5,.v 2)],[(103,.box [.v 2,.v 2,.v 2,.v 2,.v 2,.v 2,.v 2,.v 2,.v 26,.v 2,.v 2,.v 41,.v 26]),(102,.st 25 true)]⟩
def A3h (K:Nat)(n:Nat)(q:PT A3f):Rt s_52:=Apy K q.2.2.2.2.2.2.2.2.2.2.2.2.2.1 n q.1
def A3i (K:Nat)(n:Nat)(q:PT A3g):Rt s_52:=Ape K q.2.2.2.2.2.2.2.2.2.2.2.2.2.2.1 n q.1 q.2.1 q.2.2.1 q.2.2.2.1 q.2.2.2.2.1 q.2.2.2.2.2.1 q.2.2.2.2.2.2.1 q.2.2.2.2.2.2.2.1 q.2.2.2.2.2.2.2.2.1 q.2.2.2.2.2.2.2.2.2.1 q.2.2.2.2.2.2.2.2.2.2.1 q.2.2.2.2.2.2.2.2.2.2.2.1 q.2.2.2.2.2.2.2.2.2.2.2.2.1 q.2.2.2.2.2.2.2.2.2.2.2.2.2.1
theorem Bgd (K:Nat):AtL (Bnb K) (fun n=>[]) [] (bd Tryz.f142) 506 (A3h K):=fun n q=>by kernel_rfl
theorem Bge (K:Nat):AtL (Bnb K) (fun n=>[(506,ar A3f (A3h K K))]) [] (bd Tryz.f142) 250 (A3i K):=fun n q=>by kernel_rfl
theorem Bgf (K:Nat):XF [.tmp 4] s_52 116 [] (Bnb K):=xkF (gC (A0v K) (gC (Bcp K) (gC (Bx0 K) (gC (Bx2 K) (gC (Bo8 K) gN))))) oN
theorem Bgg (K:Nat)(n:Nat):CF [.tmp 4] s_52 116 [] (bd Tryz.f142) [] 506 (ar A3f (A3h K n)):=
 Aeh (Bgf K) (Bgd K) (fun n=>kN) n
theorem Bgh (K:Nat)(n:Nat):CF [.tmp 4] s_52 116 [] (bd Tryz.f142) [] 250 (ar A3g (A3i K n)):=
 Aeh (Bgf K) (Bge K) (fun n=>(kC (Ao2 (by kernel_rfl) (Bgg K K)) kN)) n
theorem Bye (K:Nat):OkF 142 (Byd K):=
 Aa6 (x:=Bnb K) (L:=[(250,ar A3g (A3i K K))]) (c0:=bd Tryz.f142) (Bgf K) (by intro a0 a1;show @Eq _ _ _;kernel_rfl) (kC (Bgh K K) kN) Tryz.func142 trivial
def Ara (K:Nat)(v2:Int)(v3:List Int)(v4:List Int)(v5:List Int)(C1:(List Int)->Int->(List Int)->(List Int)->(List Int)->Option ((List Int)))(v6:List Int):Option ((List Int)):=(C1 v6 (Aoa .i64 v2 1) v3 v4 v5)
def Alf (K:Nat)(a1:Int):Nat->(List Int)->Int->(List Int)->(List Int)->(List Int)->Option ((List Int))
 |0,_,_,_,_,_=>none
 |n1+1,v1,v2,v3,v4,v5=>(bif (decide (v2<(v4.length:Int)))then(bif (decide (v2<(v5.length:Int)))then(if(0:Int)≤v2∧v2<(v4.length:Int)then(bif ((gt v4 v2)==1)then(if(0:Int)≤v2∧v2<(v5.length:Int)then(bif ((gt v5 v2)==a1)then(if(v1++([v2]:List Int)).length*8≤140737488355328∧(v1++([v2]:List Int)).length≤maxLen then(Ara K v2 v3 v4 v5 (Alf K a1 n1) (v1++([v2]:List Int)))else none)else(Ara K v2 v3 v4 v5 (Alf K a1 n1) v1))else none)else(Ara K v2 v3 v4 v5 (Alf K a1 n1) v1))else none)else some v1)else some v1)
def Au3 (K:Nat)(a0:Dw)(a1:Int):Option ((List Int)):=(Alf K a1 K ([]:List Int) 0 a0.Fy a0.Hh a0.Fz)
def s_53:Sig:=⟨[.v 28,.v 3],[.n 26 true],true⟩
def Byf (K:Nat):Gb tyU:=⟨s_53,Au3 K⟩
def Bnc (K:Nat):=xF s_53 [] [] 42 [12,13,27,28] [] [] [233] [.tmp 4]
def A3j:E5:=⟨[(1,.v 2),(2,.p 102),(5,.o 1005 3 true),(6,.v 2)],[(102,.box [.v 22,.v 26,.v 26])]⟩
def Axt:E5:=⟨[(1,.v 2),(2,.p 102),(5,.o 1005 3 true),(6,.v 2)],[(102,.box [.v 22,.v 26,.v 26])]⟩
def A3k (K:Nat)(C58:CT Axt s_53)(q:PT A3j):Rt s_53:=Ara K q.2.2.1 q.2.2.2.1 q.2.2.2.2.1 q.2.2.2.2.2.1 (fun v1 v2 v3 v4 v5=>C58 (q.1,v1,v2,v3,v4,v5,())) q.2.1
def A01 (K:Nat)(n:Nat)(q:PT Axt):Rt s_53:=Alf K q.1 n q.2.1 q.2.2.1 q.2.2.2.1 q.2.2.2.2.1 q.2.2.2.2.2.1
theorem Bgi (K:Nat)(C58:CT Axt s_53):AtJ (Bnc K) [] [(58,ar Axt C58)] (bd Tryz.f217) 233 (A3k K C58):=fun q=>by kernel_rfl
theorem Bnd (K:Nat):AtL (Bnc K) (fun n=>[(233,ar A3j (A3k K (A01 K n)))]) [] (bd Tryz.f217) 58 (A01 K):=fun n q=>by kernel_rfl
theorem Bgj (K:Nat):XF [.tmp 4] s_53 42 [233] (Bnc K):=xkF gN oN
theorem Bgk (K:Nat)(C58:CT Axt s_53):CF [.tmp 4] s_53 42 [233] (bd Tryz.f217) [(58,ar Axt C58)] 233 (ar A3j (A3k K C58)):=
 Apk (Bgj K) (Bgi K C58) kN
theorem Bne (K:Nat)(n:Nat):CF [.tmp 4] s_53 42 [233] (bd Tryz.f217) [] 58 (ar Axt (A01 K n)):=
 Aeh (Bgj K) (Bnd K) (fun n=>(kC (Bgk K (A01 K n)) kN)) n
theorem Byg (K:Nat):OkF 217 (Byf K):=
 Aa6 (x:=Bnc K) (L:=[(58,ar Axt (A01 K K))]) (c0:=bd Tryz.f217) (Bgj K) (by intro a0 a1;show @Eq _ _ _;kernel_rfl) (kC (Bne K K) kN) Tryz.func217 trivial
def Ani (K:Nat)(a1:Int)(r1:(List Int)):Nat->Int->Int->Int->Int->Int->Int->Int->(List Int)->(List Int)->(List Int)->(List Ba)->(List Ax)->(List Int)->Option (Bool)
 |0,_,_,_,_,_,_,_,_,_,_,_,_,_=>none
 |n1+1,v2,v3,v4,v5,v6,v7,v8,v9,v10,v11,v12,v13,v14=>(bif (decide (v2<(r1.length:Int)))then(if(0:Int)≤a1∧a1<(v12.length:Int)then(if(0:Int)≤v2∧v2<(r1.length:Int)then((Aps K ((gt v12 a1).Ae) (gt r1 v2)).bind fun r15=>(bif (!r15)then some false else(Ani K a1 r1 n1 (Aoa .i64 v2 1) v3 v4 v5 v6 v7 v8 v9 v10 v11 v12 v13 v14)))else none)else none)else(if(0:Int)≤a1∧a1<(v12.length:Int)then some ((r1.length:Int)==(((gt v12 a1).Ae).length:Int))else none))
def As4 (K:Nat)(a0:Eb)(a1:Int):Option (Bool):=((Au3 K a0.fP a1).bind fun r1=>(Ani K a1 r1 K 0 a0.fC.Ae a0.fC.Eg a0.fC.C0 a0.fC.E9 a0.fC.C1 a0.fC.Eh a0.fP.Fy a0.fP.Hh a0.fP.Fz a0.fL a0.fQ a0.Pr))
def s_54:Sig:=⟨[.v 32,.v 3],[.v 4],true⟩
def Byh (K:Nat):Gb tyU:=⟨s_54,As4 K⟩
def Btg (K:Nat):=xF s_54 [(217,Byf K),(218,Bde K)] [] 39 [] [] [] [] [.tmp 4]
def A8f:E5:=⟨[(1,.v 2),(2,.p 102),(5,.v 26),(6,.v 2)],[(102,.box [.v 2,.v 2,.v 2,.v 2,.v 2,.v 2,.v 22,.v 26,.v 26,.v 29,.v 30,.v 26])]⟩
def A8g (K:Nat)(n:Nat)(q:PT A8f):Rt s_54:=Ani K q.1 q.2.1 n q.2.2.1 q.2.2.2.1 q.2.2.2.2.1 q.2.2.2.2.2.1 q.2.2.2.2.2.2.1 q.2.2.2.2.2.2.2.1 q.2.2.2.2.2.2.2.2.1 q.2.2.2.2.2.2.2.2.2.1 q.2.2.2.2.2.2.2.2.2.2.1 q.2.2.2.2.2.2.2.2.2.2.2.1 q.2.2.2.2.2.2.2.2.2.2.2.2.1 q.2.2.2.2.2.2.2.2.2.2.2.2.2.1 q.2.2.2.2.2.2.2.2.2.2.2.2.2.2.1
theorem Bnf (K:Nat):AtL (Btg K) (fun n=>[]) [] (bd Tryz.f143) 58 (A8g K):=fun n q=>by kernel_rfl
theorem Bo9 (K:Nat):XF [.tmp 4] s_54 39 [] (Btg K):=xkF (gC (Byg K) (gC (A9u K) gN)) oN
theorem Bng (K:Nat)(n:Nat):CF [.tmp 4] s_54 39 [] (bd Tryz.f143) [] 58 (ar A8f (A8g K n)):=
 Aeh (Bo9 K) (Bnf K) (fun n=>kN) n
theorem Byi (K:Nat):OkF 143 (Byh K):=
 Aa6 (x:=Btg K) (L:=[(58,ar A8f (A8g K K))]) (c0:=bd Tryz.f143) (Bo9 K) (by intro a0 a1;show @Eq _ _ _;kernel_rfl) (kC (Bng K K) kN) Tryz.func143 trivial
def Aow (K:Nat)(a0:Er)(v1:Int)(v2:Int)(v3:Int)(v4:Int)(v5:Int)(v6:Int)(v7:Int)(v8:Int)(v9:Int)(v10:List Int)(v11:Int)(v12:Int)(v13:List A9)(v14:List Int)(C1:Int->Int->Int->Int->Int->Int->Int->Int->Int->(List Int)->Int->Int->(List A9)->(List Int)->Option (Bool)):Nat->Int->A9->Option (Bool)
 |0,_,_=>none
 |n2+1,v16,v17=>(if a0.Eg≠(0:Int)then(bif (decide (v16≤(Alr .i64 (Aob .i64 (Aoa .i64 v17.fAt v17.Vu) 1) a0.Eg)))then((Aps K v10 v16).bind fun r18=>(bif (!r18)then some false else(Aow K a0 v1 v2 v3 v4 v5 v6 v7 v8 v9 v10 v11 v12 v13 v14 C1 n2 (Aoa .i64 v16 1) v17)))else(C1 (Aoa .i64 v1 1) v2 v3 v4 v5 v6 v7 v8 v9 v10 v11 v12 v13 v14))else none)
def Ajc (K:Nat)(a0:Er):Nat->Int->Int->Int->Int->Int->Int->Int->Int->Int->(List Int)->Int->Int->(List A9)->(List Int)->Option (Bool)
 |0,_,_,_,_,_,_,_,_,_,_,_,_,_,_=>none
 |n1+1,v1,v2,v3,v4,v5,v6,v7,v8,v9,v10,v11,v12,v13,v14=>(bif (decide (v1<(v13.length:Int)))then(if(0:Int)≤v1∧v1<(v13.length:Int)then((Aq9 K a0 (gt v13 v1)).bind fun r15=>(bif (!r15)then some false else(if a0.Eg≠(0:Int)then(Aow K a0 v1 v2 v3 v4 v5 v6 v7 v8 v9 v10 v11 v12 v13 v14 (Ajc K a0 n1) K (Alr .i64 ((gt v13 v1).fAt) a0.Eg) (gt v13 v1))else none)))else none)else some true)
def At1 (K:Nat)(a0:Er)(a1:Ba):Option (Bool):=(Ajc K a0 K 0 a1.Hh a1.C2 a1.Ly a1.fUp a1.Gq a1.Bt a1.Gr a1.Gs a1.Ae a1.Pq a1.Gt a1.Ea a1.Dg)
def s_55:Sig:=⟨[.v 25,.v 44],[.v 4],true⟩
def Byj (K:Nat):Gb tyU:=⟨s_55,At1 K⟩
def Bnh (K:Nat):=xF s_55 [(216,Btf K),(218,Bde K)] [] 47 [] [] [] [] [.tmp 4]
def A1u:E5:=⟨[(2,.p 102),(3,.p 103),(5,.v 2),(6,.p 106),(7,.v 2)],[(106,.st 89 true),(103,.box [.v 2,.v 2,.v 2,.v 2,.v 2,.v 2,.v 2,.v 2,.v 26,.v 2,.v 2,.v 41,.v 26]),(102,.st 25 true)]⟩
def Axu:E5:=⟨[(2,.p 102),(3,.p 103),(5,.v 2)],[(103,.box [.v 2,.v 2,.v 2,.v 2,.v 2,.v 2,.v 2,.v 2,.v 26,.v 2,.v 2,.v 41,.v 26]),(102,.st 25 true)]⟩
def A1v (K:Nat)(C26:CT Axu s_55)(n:Nat)(q:PT A1u):Rt s_55:=Aow K q.2.2.2.2.2.2.2.2.2.2.2.2.2.2.2.2.1 q.1 q.2.2.2.1 q.2.2.2.2.1 q.2.2.2.2.2.1 q.2.2.2.2.2.2.1 q.2.2.2.2.2.2.2.1 q.2.2.2.2.2.2.2.2.1 q.2.2.2.2.2.2.2.2.2.1 q.2.2.2.2.2.2.2.2.2.2.1 q.2.2.2.2.2.2.2.2.2.2.2.1 q.2.2.2.2.2.2.2.2.2.2.2.2.1 q.2.2.2.2.2.2.2.2.2.2.2.2.2.1 q.2.2.2.2.2.2.2.2.2.2.2.2.2.2.1 q.2.2.2.2.2.2.2.2.2.2.2.2.2.2.2.1 (fun v1 v2 v3 v4 v5 v6 v7 v8 v9 v10 v11 v12 v13 v14=>C26 (v1,v2,v3,v4,v5,v6,v7,v8,v9,v10,v11,v12,v13,v14,q.2.2.2.2.2.2.2.2.2.2.2.2.2.2.2.2.1,())) n q.2.1 q.2.2.1
def A02 (K:Nat)(n:Nat)(q:PT Axu):Rt s_55:=Ajc K q.2.2.2.2.2.2.2.2.2.2.2.2.2.2.1 n q.1 q.2.1 q.2.2.1 q.2.2.2.1 q.2.2.2.2.1 q.2.2.2.2.2.1 q.2.2.2.2.2.2.1 q.2.2.2.2.2.2.2.1 q.2.2.2.2.2.2.2.2.1 q.2.2.2.2.2.2.2.2.2.1 q.2.2.2.2.2.2.2.2.2.2.1 q.2.2.2.2.2.2.2.2.2.2.2.1 q.2.2.2.2.2.2.2.2.2.2.2.2.1 q.2.2.2.2.2.2.2.2.2.2.2.2.2.1
theorem Bdq (K:Nat)(C26:CT Axu s_55):AtL (Bnh K) (fun n=>[]) [(26,ar Axu C26)] (bd Tryz.f144) 6734 (A1v K C26):=fun n q=>by kernel_rfl
theorem Bni (K:Nat):AtL (Bnh K) (fun n=>[(6734,ar A1u (A1v K (A02 K n) K))]) [] (bd Tryz.f144) 26 (A02 K):=fun n q=>by kernel_rfl
theorem Bgl (K:Nat):XF [.tmp 4] s_55 47 [] (Bnh K):=xkF (gC (Bo8 K) (gC (A9u K) gN)) oN
theorem Bdr (K:Nat)(C26:CT Axu s_55)(n:Nat):CF [.tmp 4] s_55 47 [] (bd Tryz.f144) [(26,ar Axu C26)] 6734 (ar A1u (A1v K C26 n)):=
 Aeh (Bgl K) (Bdq K C26) (fun n=>kN) n
theorem Bnj (K:Nat)(n:Nat):CF [.tmp 4] s_55 47 [] (bd Tryz.f144) [] 26 (ar Axu (A02 K n)):=
 Aeh (Bgl K) (Bni K) (fun n=>(kC (Bdr K (A02 K n) K) kN)) n
theorem Byk (K:Nat):OkF 144 (Byj K):=
 Aa6 (x:=Bnh K) (L:=[(26,ar Axu (A02 K K))]) (c0:=bd Tryz.f144) (Bgl K) (by intro a0 a1;show @Eq _ _ _;kernel_rfl) (kC (Bnj K K) kN) Tryz.func144 trivial
def Aw1 (K:Nat)(a0:A9)(a1:A9):Option (Bool):=(bif (decide (a0.Vu<1))then some true else(bif (decide (a1.Vu<1))then some true else(bif (decide (a0.fAt≤a1.fAt))then(bif (decide ((Aob .i64 a1.fAt a0.fAt)≥a0.Vu))then some true else some (decide ((Aob .i64 a1.fAt a0.fAt)<0)))else(bif (decide ((Aob .i64 a0.fAt a1.fAt)≥a1.Vu))then some true else some (decide ((Aob .i64 a0.fAt a1.fAt)<0))))))
def Byl:Sig:=⟨[.v 89,.v 89],[.v 4],true⟩
def Bym (K:Nat):Gb tyU:=⟨Byl,Aw1 K⟩
def B3n (K:Nat):=xF Byl [] [] 50 [7,8,25,26,41,42] [] [] [] [.tmp 4]
theorem Byn (K:Nat):OkF 219 (Bym K):=
 Aa6 (x:=B3n K) (L:=[]) (c0:=bd Tryz.f219) (xkF gN oN) (by intro a0 a1;show @Eq _ _ _;kernel_rfl) kN Tryz.func219 trivial
def Aox (K:Nat)(a0:List A9)(v1:Int)(C1:Int->Option (Bool)):Nat->Int->Option (Bool)
 |0,_=>none
 |n2+1,v2=>(bif (decide (v2<v1))then(if(0:Int)≤v1∧v1<(a0.length:Int)then(if(0:Int)≤v2∧v2<(a0.length:Int)then((Aw1 K (gt a0 v1) (gt a0 v2)).bind fun r3=>(bif (!r3)then some false else(Aox K a0 v1 C1 n2 (Aoa .i64 v2 1))))else none)else none)else(C1 (Aoa .i64 v1 1)))
def Aje (K:Nat)(a0:List A9):Nat->Int->Option (Bool)
 |0,_=>none
 |n1+1,v1=>(bif (decide (v1<(a0.length:Int)))then(Aox K a0 v1 (Aje K a0 n1) K 0)else some true)
def At2 (K:Nat)(a0:List A9):Option (Bool):=(Aje K a0 K 0)
def s_57:Sig:=⟨[.v 41],[.v 4],true⟩
def Byo (K:Nat):Gb tyU:=⟨s_57,At2 K⟩
def Bnk (K:Nat):=xF s_57 [(219,Bym K)] [] 26 [] [] [] [] [.tmp 2]
def A1w:E5:=⟨[(0,.v 41),(3,.v 2),(4,.v 2)],[]⟩
def Axv:E5:=⟨[(0,.v 41),(3,.v 2)],[]⟩
def A1x (K:Nat)(C26:CT Axv s_57)(n:Nat)(q:PT A1w):Rt s_57:=Aox K q.1 q.2.1 (fun v1=>C26 (q.1,v1,())) n q.2.2.1
def A03 (K:Nat)(n:Nat)(q:PT Axv):Rt s_57:=Aje K q.1 n q.2.1
theorem Bds (K:Nat)(C26:CT Axv s_57):AtL (Bnk K) (fun n=>[]) [(26,ar Axv C26)] (bd Tryz.f145) 1682 (A1x K C26):=fun n q=>by kernel_rfl
theorem Bnl (K:Nat):AtL (Bnk K) (fun n=>[(1682,ar A1w (A1x K (A03 K n) K))]) [] (bd Tryz.f145) 26 (A03 K):=fun n q=>by kernel_rfl
theorem Bgm (K:Nat):XF [.tmp 2] s_57 26 [] (Bnk K):=xkF (gC (Byn K) gN) oN
theorem Bdt (K:Nat)(C26:CT Axv s_57)(n:Nat):CF [.tmp 2] s_57 26 [] (bd Tryz.f145) [(26,ar Axv C26)] 1682 (ar A1w (A1x K C26 n)):=
 Aeh (Bgm K) (Bds K C26) (fun n=>kN) n
theorem Bnm (K:Nat)(n:Nat):CF [.tmp 2] s_57 26 [] (bd Tryz.f145) [] 26 (ar Axv (A03 K n)):=
 Aeh (Bgm K) (Bnl K) (fun n=>(kC (Bdt K (A03 K n) K) kN)) n
theorem Byp (K:Nat):OkF 145 (Byo K):=
 Aa6 (x:=Bnk K) (L:=[(26,ar Axv (A03 K K))]) (c0:=bd Tryz.f145) (Bgm K) (by intro a0;show @Eq _ _ _;kernel_rfl) (kC (Bnm K K) kN) Tryz.func145 trivial
def Asb (K:Nat)(v1:Int)(v2:Int)(v3:Int)(v4:Int)(v5:Int)(v6:Int)(v7:Int)(v8:Int)(v9:Int)(v10:Int)(v11:Int)(v12:List Int)(v13:Int)(v14:Int)(v15:List A9)(v16:List Int)(v17:Int)(v18:Int)(v19:Int)(v20:Int)(v21:Int)(v22:Int)(v23:List Int)(v24:List Int)(v25:List Int)(v26:List Ba)(v27:List Ax)(v28:List Int)(C1:Int->Int->Int->Int->Int->Int->Int->Int->Int->Int->Int->(List Int)->Int->Int->(List A9)->(List Int)->Int->Int->Int->Int->Int->Int->(List Int)->(List Int)->(List Int)->(List Ba)->(List Ax)->(List Int)->Option (Bool)):Option (Bool):=(C1 v1 v2 (Aoa .i64 v3 1) v4 v5 v6 v7 v8 v9 v10 v11 v12 v13 v14 v15 v16 v17 v18 v19 v20 v21 v22 v23 v24 v25 v26 v27 v28)
def Al6 (K:Nat):Nat->Int->Int->Int->Int->Int->Int->Int->Int->Int->Int->Int->(List Int)->Int->Int->(List A9)->(List Int)->Int->Int->Int->Int->Int->Int->(List Int)->(List Int)->(List Int)->(List Ba)->(List Ax)->(List Int)->Option (Bool)
 |0,_,_,_,_,_,_,_,_,_,_,_,_,_,_,_,_,_,_,_,_,_,_,_,_,_,_,_,_=>none
 |n1+1,v1,v2,v3,v4,v5,v6,v7,v8,v9,v10,v11,v12,v13,v14,v15,v16,v17,v18,v19,v20,v21,v22,v23,v24,v25,v26,v27,v28=>(bif (decide (v3<(v15.length:Int)))then(if(0:Int)≤v3∧v3<(v15.length:Int)then(bif (decide (((gt v15 v3).fAt)<v2))then(bif (decide ((Aoa .i64 ((gt v15 v3).fAt) ((gt v15 v3).Vu))>v1))then some false else(Asb K v1 v2 v3 v4 v5 v6 v7 v8 v9 v10 v11 v12 v13 v14 v15 v16 v17 v18 v19 v20 v21 v22 v23 v24 v25 v26 v27 v28 (Al6 K n1)))else(Asb K v1 v2 v3 v4 v5 v6 v7 v8 v9 v10 v11 v12 v13 v14 v15 v16 v17 v18 v19 v20 v21 v22 v23 v24 v25 v26 v27 v28 (Al6 K n1)))else none)else(if(0:Int)≤v1∧v1≤v2∧v2≤(v23.length:Int)then((Ar4 K ((v23.drop v1.toNat).take (v2 - v1).toNat)).bind fun r29=>some r29)else none))
def At3 (K:Nat)(a0:Eb)(a1:Int):Option (Bool):=(if(0:Int)≤a1∧a1<(a0.fL.length:Int)then(bif (((gt a0.fL a1).Pq)==0)then some true else(bif (decide ((Aoa .i64 (Aoc .i64 (Aob .i64 ((gt a0.fL a1).Pq) 1) a0.fC.Eg) ((gt a0.fL a1).Gt))≥(Aoc .i64 ((gt a0.fL a1).Pq) a0.fC.Eg)))then some true else(Al6 K K (Aoa .i64 (Aoc .i64 (Aob .i64 ((gt a0.fL a1).Pq) 1) a0.fC.Eg) ((gt a0.fL a1).Gt)) (Aoc .i64 ((gt a0.fL a1).Pq) a0.fC.Eg) 0 ((gt a0.fL a1).Hh) ((gt a0.fL a1).C2) ((gt a0.fL a1).Ly) ((gt a0.fL a1).fUp) ((gt a0.fL a1).Gq) ((gt a0.fL a1).Bt) ((gt a0.fL a1).Gr) ((gt a0.fL a1).Gs) ((gt a0.fL a1).Ae) ((gt a0.fL a1).Pq) ((gt a0.fL a1).Gt) ((gt a0.fL a1).Ea) ((gt a0.fL a1).Dg) a0.fC.Ae a0.fC.Eg a0.fC.C0 a0.fC.E9 a0.fC.C1 a0.fC.Eh a0.fP.Fy a0.fP.Hh a0.fP.Fz a0.fL a0.fQ a0.Pr)))else none)
def s_58:Sig:=⟨[.v 32,.v 3],[.v 4],true⟩
def Byq (K:Nat):Gb tyU:=⟨s_58,At3 K⟩
def Bnn (K:Nat):=xF s_58 [(212,Bmb K)] [] 71 [33,34,54,55] [] [] [2025] [.tmp 4]
def A1y:E5:=⟨[(2,.p 102),(5,.p 105),(6,.v 2),(7,.v 2),(8,.v 2)],[(105,.box [.v 2,.v 2,.v 2,.v 2,.v 2,.v 2,.v 2,.v 2,.v 26,.v 2,.v 2,.v 41,.v 26]),(102,.box [.v 2,.v 2,.v 2,.v 2,.v 2,.v 2,.v 22,.v 26,.v 26,.v 29,.v 30,.v 26])]⟩
def Awi:E5:=⟨[(2,.p 102),(5,.p 105),(6,.v 2),(7,.v 2),(8,.v 2)],[(105,.box [.v 2,.v 2,.v 2,.v 2,.v 2,.v 2,.v 2,.v 2,.v 26,.v 2,.v 2,.v 41,.v 26]),(102,.box [.v 2,.v 2,.v 2,.v 2,.v 2,.v 2,.v 22,.v 26,.v 26,.v 29,.v 30,.v 26])]⟩
def A1z (K:Nat)(C506:CT Awi s_58)(q:PT A1y):Rt s_58:=Asb K q.1 q.2.1 q.2.2.1 q.2.2.2.1 q.2.2.2.2.1 q.2.2.2.2.2.1 q.2.2.2.2.2.2.1 q.2.2.2.2.2.2.2.1 q.2.2.2.2.2.2.2.2.1 q.2.2.2.2.2.2.2.2.2.1 q.2.2.2.2.2.2.2.2.2.2.1 q.2.2.2.2.2.2.2.2.2.2.2.1 q.2.2.2.2.2.2.2.2.2.2.2.2.1 q.2.2.2.2.2.2.2.2.2.2.2.2.2.1 q.2.2.2.2.2.2.2.2.2.2.2.2.2.2.1 q.2.2.2.2.2.2.2.2.2.2.2.2.2.2.2.1 q.2.2.2.2.2.2.2.2.2.2.2.2.2.2.2.2.1 q.2.2.2.2.2.2.2.2.2.2.2.2.2.2.2.2.2.1 q.2.2.2.2.2.2.2.2.2.2.2.2.2.2.2.2.2.2.1 q.2.2.2.2.2.2.2.2.2.2.2.2.2.2.2.2.2.2.2.1 q.2.2.2.2.2.2.2.2.2.2.2.2.2.2.2.2.2.2.2.2.1 q.2.2.2.2.2.2.2.2.2.2.2.2.2.2.2.2.2.2.2.2.2.1 q.2.2.2.2.2.2.2.2.2.2.2.2.2.2.2.2.2.2.2.2.2.2.1 q.2.2.2.2.2.2.2.2.2.2.2.2.2.2.2.2.2.2.2.2.2.2.2.1 q.2.2.2.2.2.2.2.2.2.2.2.2.2.2.2.2.2.2.2.2.2.2.2.2.1 q.2.2.2.2.2.2.2.2.2.2.2.2.2.2.2.2.2.2.2.2.2.2.2.2.2.1 q.2.2.2.2.2.2.2.2.2.2.2.2.2.2.2.2.2.2.2.2.2.2.2.2.2.2.1 q.2.2.2.2.2.2.2.2.2.2.2.2.2.2.2.2.2.2.2.2.2.2.2.2.2.2.2.1 (fun v1 v2 v3 v4 v5 v6 v7 v8 v9 v10 v11 v12 v13 v14 v15 v16 v17 v18 v19 v20 v21 v22 v23 v24 v25 v26 v27 v28=>C506 (v1,v2,v3,v4,v5,v6,v7,v8,v9,v10,v11,v12,v13,v14,v15,v16,v17,v18,v19,v20,v21,v22,v23,v24,v25,v26,v27,v28,()))
def Ay2 (K:Nat)(n:Nat)(q:PT Awi):Rt s_58:=Al6 K n q.1 q.2.1 q.2.2.1 q.2.2.2.1 q.2.2.2.2.1 q.2.2.2.2.2.1 q.2.2.2.2.2.2.1 q.2.2.2.2.2.2.2.1 q.2.2.2.2.2.2.2.2.1 q.2.2.2.2.2.2.2.2.2.1 q.2.2.2.2.2.2.2.2.2.2.1 q.2.2.2.2.2.2.2.2.2.2.2.1 q.2.2.2.2.2.2.2.2.2.2.2.2.1 q.2.2.2.2.2.2.2.2.2.2.2.2.2.1 q.2.2.2.2.2.2.2.2.2.2.2.2.2.2.1 q.2.2.2.2.2.2.2.2.2.2.2.2.2.2.2.1 q.2.2.2.2.2.2.2.2.2.2.2.2.2.2.2.2.1 q.2.2.2.2.2.2.2.2.2.2.2.2.2.2.2.2.2.1 q.2.2.2.2.2.2.2.2.2.2.2.2.2.2.2.2.2.2.1 q.2.2.2.2.2.2.2.2.2.2.2.2.2.2.2.2.2.2.2.1 q.2.2.2.2.2.2.2.2.2.2.2.2.2.2.2.2.2.2.2.2.1 q.2.2.2.2.2.2.2.2.2.2.2.2.2.2.2.2.2.2.2.2.2.1 q.2.2.2.2.2.2.2.2.2.2.2.2.2.2.2.2.2.2.2.2.2.2.1 q.2.2.2.2.2.2.2.2.2.2.2.2.2.2.2.2.2.2.2.2.2.2.2.1 q.2.2.2.2.2.2.2.2.2.2.2.2.2.2.2.2.2.2.2.2.2.2.2.2.1 q.2.2.2.2.2.2.2.2.2.2.2.2.2.2.2.2.2.2.2.2.2.2.2.2.2.1 q.2.2.2.2.2.2.2.2.2.2.2.2.2.2.2.2.2.2.2.2.2.2.2.2.2.2.1 q.2.2.2.2.2.2.2.2.2.2.2.2.2.2.2.2.2.2.2.2.2.2.2.2.2.2.2.1
theorem Bdu (K:Nat)(C506:CT Awi s_58):AtJ (Bnn K) [] [(506,ar Awi C506)] (bd Tryz.f146) 2025 (A1z K C506):=fun q=>by kernel_rfl
theorem Bgn (K:Nat):AtL (Bnn K) (fun n=>[(2025,ar A1y (A1z K (Ay2 K n)))]) [] (bd Tryz.f146) 506 (Ay2 K):=fun n q=>by kernel_rfl
theorem Bgo (K:Nat):XF [.tmp 4] s_58 71 [2025] (Bnn K):=xkF (gC (Bfp K) gN) oN
theorem Bdv (K:Nat)(C506:CT Awi s_58):CF [.tmp 4] s_58 71 [2025] (bd Tryz.f146) [(506,ar Awi C506)] 2025 (ar A1y (A1z K C506)):=
 Apk (Bgo K) (Bdu K C506) kN
theorem Bgp (K:Nat)(n:Nat):CF [.tmp 4] s_58 71 [2025] (bd Tryz.f146) [] 506 (ar Awi (Ay2 K n)):=
 Aeh (Bgo K) (Bgn K) (fun n=>(kC (Bdv K (Ay2 K n)) kN)) n
theorem Byr (K:Nat):OkF 146 (Byq K):=
 Aa6 (x:=Bnn K) (L:=[(506,ar Awi (Ay2 K K))]) (c0:=bd Tryz.f146) (Bgo K) (by intro a0 a1;show @Eq _ _ _;kernel_rfl) (kC (Bgp K K) kN) Tryz.func146 trivial
def Anq (K:Nat)(v4:Int)(v5:Int)(v6:Int)(v7:Int)(v8:Int)(v9:Int)(v10:List Int)(v11:List Int)(v12:List Int)(v13:List Ba)(v14:List Ax)(v15:List Int):Nat->Int->Option (Bool)
 |0,_=>none
 |n3+1,v23=>(bif (decide (v23<(v15.length:Int)))then(if(0:Int)≤v23∧v23<(v15.length:Int)then((Ac1 K (gt v15 v23) 0 255).bind fun r24=>(bif (!r24)then some false else(Anq K v4 v5 v6 v7 v8 v9 v10 v11 v12 v13 v14 v15 n3 (Aoa .i64 v23 1))))else none)else((As1 K (Eb.mk (Er.mk v4 v5 v6 v7 v8 v9) (Dw.mk v10 v11 v12) v13 v14 v15)).bind fun r25=>some r25))
def App (K:Nat)(v4:Int)(v5:Int)(v6:Int)(v7:Int)(v8:Int)(v9:Int)(v10:List Int)(v11:List Int)(v12:List Int)(v13:List Ba)(v14:List Ax)(v15:List Int):Nat->Int->Option (Bool)
 |0,_=>none
 |n2+1,v21=>(bif (decide (v21<(v14.length:Int)))then((Atz K (Eb.mk (Er.mk v4 v5 v6 v7 v8 v9) (Dw.mk v10 v11 v12) v13 v14 v15) v21).bind fun r22=>(bif (!r22)then some false else(App K v4 v5 v6 v7 v8 v9 v10 v11 v12 v13 v14 v15 n2 (Aoa .i64 v21 1))))else(Anq K v4 v5 v6 v7 v8 v9 v10 v11 v12 v13 v14 v15 K 0))
def Anr (K:Nat):Nat->Int->Int->Int->Int->Int->Int->Int->(List Int)->(List Int)->(List Int)->(List Ba)->(List Ax)->(List Int)->Option (Bool)
 |0,_,_,_,_,_,_,_,_,_,_,_,_,_=>none
 |n1+1,v3,v4,v5,v6,v7,v8,v9,v10,v11,v12,v13,v14,v15=>(bif (decide (v3<(v13.length:Int)))then(if(0:Int)≤v3∧v3<(v13.length:Int)then((Av5 K (Er.mk v4 v5 v6 v7 v8 v9) (gt v13 v3)).bind fun r16=>(bif r16 then((As4 K (Eb.mk (Er.mk v4 v5 v6 v7 v8 v9) (Dw.mk v10 v11 v12) v13 v14 v15) v3).bind fun r17=>(bif r17 then(if(0:Int)≤v3∧v3<(v13.length:Int)then((At1 K (Er.mk v4 v5 v6 v7 v8 v9) (gt v13 v3)).bind fun r18=>(bif r18 then(if(0:Int)≤v3∧v3<(v13.length:Int)then((At2 K ((gt v13 v3).Ea)).bind fun r19=>(bif r19 then((At3 K (Eb.mk (Er.mk v4 v5 v6 v7 v8 v9) (Dw.mk v10 v11 v12) v13 v14 v15) v3).bind fun r20=>(bif (!r20)then some false else(Anr K n1 (Aoa .i64 v3 1) v4 v5 v6 v7 v8 v9 v10 v11 v12 v13 v14 v15)))else some false))else none)else some false))else none)else some false))else some false))else none)else(App K v4 v5 v6 v7 v8 v9 v10 v11 v12 v13 v14 v15 K 0))
def Au4 (K:Nat)(a0:Eb):Option (Bool):=((Av3 K a0.fC a0.fP).bind fun r1=>(bif r1 then(bif ((a0.fL.length:Int) != a0.fC.C0)then some false else((Av4 K a0.fL).bind fun r2=>(bif (!r2)then some false else(Anr K K 0 a0.fC.Ae a0.fC.Eg a0.fC.C0 a0.fC.E9 a0.fC.C1 a0.fC.Eh a0.fP.Fy a0.fP.Hh a0.fP.Fz a0.fL a0.fQ a0.Pr))))else some false))
def s_59:Sig:=⟨[.v 32],[.v 4],true⟩
def Bys (K:Nat):Gb tyU:=⟨s_59,Au4 K⟩
def Bgq (K:Nat):=xF s_59 [(84,A6b K),(140,Bxc K),(141,Bxl K),(142,Byd K),(143,Byh K),(144,Byj K),(145,Byo K),(146,Byq K),(147,Bxw K),(148,Bxs K)] [] 103 [10,11,12,19,20,21,41,42,43,46,47,48,49,57,58,59,60,67,68,69,70] [] [] [] [.tmp 2]
def A3l:E5:=⟨[(1,.p 101),(5,.v 2)],[(101,.box [.v 2,.v 2,.v 2,.v 2,.v 2,.v 2,.v 22,.v 26,.v 26,.v 29,.v 30,.v 26])]⟩
def A3m:E5:=⟨[(1,.p 101),(4,.v 2)],[(101,.box [.v 2,.v 2,.v 2,.v 2,.v 2,.v 2,.v 22,.v 26,.v 26,.v 29,.v 30,.v 26])]⟩
def A8h:E5:=⟨[(1,.p 101),(3,.v 2)],[(101,.box [.v 2,.v 2,.v 2,.v 2,.v 2,.v 2,.v 22,.v 26,.v 26,.v 29,.v 30,.v 26])]⟩
def A3n (K:Nat)(n:Nat)(q:PT A3l):Rt s_59:=Anq K q.2.1 q.2.2.1 q.2.2.2.1 q.2.2.2.2.1 q.2.2.2.2.2.1 q.2.2.2.2.2.2.1 q.2.2.2.2.2.2.2.1 q.2.2.2.2.2.2.2.2.1 q.2.2.2.2.2.2.2.2.2.1 q.2.2.2.2.2.2.2.2.2.2.1 q.2.2.2.2.2.2.2.2.2.2.2.1 q.2.2.2.2.2.2.2.2.2.2.2.2.1 n q.1
def A3o (K:Nat)(n:Nat)(q:PT A3m):Rt s_59:=App K q.2.1 q.2.2.1 q.2.2.2.1 q.2.2.2.2.1 q.2.2.2.2.2.1 q.2.2.2.2.2.2.1 q.2.2.2.2.2.2.2.1 q.2.2.2.2.2.2.2.2.1 q.2.2.2.2.2.2.2.2.2.1 q.2.2.2.2.2.2.2.2.2.2.1 q.2.2.2.2.2.2.2.2.2.2.2.1 q.2.2.2.2.2.2.2.2.2.2.2.2.1 n q.1
def A8i (K:Nat)(n:Nat)(q:PT A8h):Rt s_59:=Anr K n q.1 q.2.1 q.2.2.1 q.2.2.2.1 q.2.2.2.2.1 q.2.2.2.2.2.1 q.2.2.2.2.2.2.1 q.2.2.2.2.2.2.2.1 q.2.2.2.2.2.2.2.2.1 q.2.2.2.2.2.2.2.2.2.1 q.2.2.2.2.2.2.2.2.2.2.1 q.2.2.2.2.2.2.2.2.2.2.2.1 q.2.2.2.2.2.2.2.2.2.2.2.2.1
theorem Bgr (K:Nat):AtL (Bgq K) (fun n=>[]) [] (bd Tryz.f83) 250 (A3n K):=fun n q=>by kernel_rfl
theorem Bgs (K:Nat):AtL (Bgq K) (fun n=>[(250,ar A3l (A3n K K))]) [] (bd Tryz.f83) 122 (A3o K):=fun n q=>by kernel_rfl
theorem Bno (K:Nat):AtL (Bgq K) (fun n=>[(122,ar A3m (A3o K K))]) [] (bd Tryz.f83) 58 (A8i K):=fun n q=>by kernel_rfl
theorem Bcs (K:Nat):XF [.tmp 2] s_59 103 [] (Bgq K):=xkF (gC (A0v K) (gC (Bxd K) (gC (Bxm K) (gC (Bye K) (gC (Byi K) (gC (Byk K) (gC (Byp K) (gC (Byr K) (gC (Bxx K) (gC (Bxt K) gN)))))))))) oN
theorem Bgt (K:Nat)(n:Nat):CF [.tmp 2] s_59 103 [] (bd Tryz.f83) [] 250 (ar A3l (A3n K n)):=
 Aeh (Bcs K) (Bgr K) (fun n=>kN) n
theorem Bgu (K:Nat)(n:Nat):CF [.tmp 2] s_59 103 [] (bd Tryz.f83) [] 122 (ar A3m (A3o K n)):=
 Aeh (Bcs K) (Bgs K) (fun n=>(kC (Ao2 (by kernel_rfl) (Bgt K K)) kN)) n
theorem Bnp (K:Nat)(n:Nat):CF [.tmp 2] s_59 103 [] (bd Tryz.f83) [] 58 (ar A8h (A8i K n)):=
 Aeh (Bcs K) (Bno K) (fun n=>(kC (Ao2 (by kernel_rfl) (Bgu K K)) kN)) n
theorem Byt (K:Nat):OkF 83 (Bys K):=
 Aa6 (x:=Bgq K) (L:=[(58,ar A8h (A8i K K))]) (c0:=bd Tryz.f83) (Bcs K) (by intro a0;show @Eq _ _ _;kernel_rfl) (kC (Bnp K K) kN) Tryz.func83 trivial
def Ar0 (K:Nat)(a0:Ct):Option (Bool):=(bif (decide (a0.A5≥0))then some (decide (a0.C2≥1))else some false)
def Byu:Sig:=⟨[.v 34],[.v 4],true⟩
def Bth (K:Nat):Gb tyU:=⟨Byu,Ar0 K⟩
def B3o (K:Nat):=xF Byu [] [] 11 [5,6] [] [] [] [.tmp 2]
theorem Bpa (K:Nat):OkF 149 (Bth K):=
 Aa6 (x:=B3o K) (L:=[]) (c0:=bd Tryz.f149) (xkF gN oN) (by intro a0;show @Eq _ _ _;kernel_rfl) kN Tryz.func149 trivial
def Aw2 (K:Nat)(a0:Fg):Option (Bool):=((Ar0 K a0.fH).bind fun r1=>(bif r1 then(bif (decide (a0.Ly≥0))then some (decide (a0.fNo≥0))else some false)else some false))
def Byv:Sig:=⟨[.v 36],[.v 4],true⟩
def Byw (K:Nat):Gb tyU:=⟨Byv,Aw2 K⟩
def B3p (K:Nat):=xF Byv [(149,Bth K)] [] 16 [5,6,9,10,11] [] [] [] [.tmp 2]
theorem Byx (K:Nat):OkF 179 (Byw K):=
 Aa6 (x:=B3p K) (L:=[]) (c0:=bd Tryz.f179) (xkF (gC (Bpa K) gN) oN) (by intro a0;show @Eq _ _ _;kernel_rfl) kN Tryz.func179 trivial
def Arb (K:Nat)(a0:List Ba)(a1:Ct):Option (Int):=((Ac1 K a1.A5 0 (Aob .i64 (a0.length:Int) 1)).bind fun r1=>(bif r1 then(if(0:Int)≤a1.A5∧a1.A5<(a0.length:Int)then(bif (((gt a0 a1.A5).Hh) != 1)then some (-1)else(if(0:Int)≤a1.A5∧a1.A5<(a0.length:Int)then(bif (((gt a0 a1.A5).C2) != a1.C2)then some (-1)else some a1.A5)else none))else none)else some (-1)))
def Byy:Sig:=⟨[.v 29,.v 34],[.v 3],true⟩
def Bti (K:Nat):Gb tyU:=⟨Byy,Arb K⟩
def B3q (K:Nat):=xF Byy [(84,A6b K)] [] 34 [10,11,12,19,20,21] [] [] [] [.tmp 4]
theorem Bpb (K:Nat):OkF 150 (Bti K):=
 Aa6 (x:=B3q K) (L:=[]) (c0:=bd Tryz.f150) (xkF (gC (A0v K) gN) oN) (by intro a0 a1;show @Eq _ _ _;kernel_rfl) kN Tryz.func150 trivial
def Au5 (K:Nat)(v2:Int)(C1:Int->Option (Bool)):Option (Bool):=(C1 (Aoa .i64 v2 1))
def Arc (K:Nat)(a0:List Ba)(r1:(List Int)):Nat->Int->Option (Bool)
 |0,_=>none
 |n1+1,v2=>(bif (decide (v2<(r1.length:Int)))then(if(0:Int)≤v2∧v2<(r1.length:Int)then(if(0:Int)≤(gt r1 v2)∧(gt r1 v2)<(a0.length:Int)then(bif (((gt a0 (gt r1 v2)).Hh) != 1)then some false else(bif (decide ((Aoa .i64 v2 1)<(r1.length:Int)))then(if(0:Int)≤v2∧v2<(r1.length:Int)then((Aqt K a0 (gt r1 v2)).bind fun r3=>(bif (!r3)then some false else(Au5 K v2 (Arc K a0 r1 n1))))else none)else(Au5 K v2 (Arc K a0 r1 n1))))else none)else none)else(bif (decide ((r1.length:Int)>0))then(if(0:Int)≤(Aob .i64 (r1.length:Int) 1)∧(Aob .i64 (r1.length:Int) 1)<(r1.length:Int)then(if(0:Int)≤(gt r1 (Aob .i64 (r1.length:Int) 1))∧(gt r1 (Aob .i64 (r1.length:Int) 1))<(a0.length:Int)then some (((gt a0 (gt r1 (Aob .i64 (r1.length:Int) 1))).fUp)==0)else none)else none)else some false))
def Aw3 (K:Nat)(a0:List Ba)(a1:Int):Option (Bool):=((Aul K a0 a1).bind fun r1=>(Arc K a0 r1 K 0))
def s_63:Sig:=⟨[.v 29,.v 3],[.v 4],true⟩
def Byz (K:Nat):Gb tyU:=⟨s_63,Aw3 K⟩
def Bnq (K:Nat):=xF s_63 [(224,Bmh K),(225,Bmg K)] [] 57 [24,25,30,31,43,44] [] [] [233] [.tmp 4]
def A3p:E5:=⟨[(0,.v 29),(5,.v 26),(6,.v 2)],[]⟩
def Axw:E5:=⟨[(0,.v 29),(5,.v 26),(6,.v 2)],[]⟩
def A3q (K:Nat)(C58:CT Axw s_63)(q:PT A3p):Rt s_63:=Au5 K q.2.2.1 (fun v2=>C58 (q.1,q.2.1,v2,()))
def A04 (K:Nat)(n:Nat)(q:PT Axw):Rt s_63:=Arc K q.1 q.2.1 n q.2.2.1
theorem Bgv (K:Nat)(C58:CT Axw s_63):AtJ (Bnq K) [] [(58,ar Axw C58)] (bd Tryz.f151) 233 (A3q K C58):=fun q=>by kernel_rfl
theorem Bnr (K:Nat):AtL (Bnq K) (fun n=>[(233,ar A3p (A3q K (A04 K n)))]) [] (bd Tryz.f151) 58 (A04 K):=fun n q=>by kernel_rfl
theorem Bgw (K:Nat):XF [.tmp 4] s_63 57 [233] (Bnq K):=xkF (gC (Bfu K) (gC (Bft K) gN)) oN
theorem Bgx (K:Nat)(C58:CT Axw s_63):CF [.tmp 4] s_63 57 [233] (bd Tryz.f151) [(58,ar Axw C58)] 233 (ar A3p (A3q K C58)):=
 Apk (Bgw K) (Bgv K C58) kN
theorem Bns (K:Nat)(n:Nat):CF [.tmp 4] s_63 57 [233] (bd Tryz.f151) [] 58 (ar Axw (A04 K n)):=
 Aeh (Bgw K) (Bnr K) (fun n=>(kC (Bgx K (A04 K n)) kN)) n
theorem By0 (K:Nat):OkF 151 (Byz K):=
 Aa6 (x:=Bnq K) (L:=[(58,ar Axw (A04 K K))]) (c0:=bd Tryz.f151) (Bgw K) (by intro a0 a1;show @Eq _ _ _;kernel_rfl) (kC (Bns K K) kN) Tryz.func151 trivial
def At4 (K:Nat)(a0:Eb)(a1:Ct):Option (Int×Int):=((Ar0 K a1).bind fun r1=>(bif (!r1)then some ((-1),1)else((Arb K a0.fL a1).bind fun r2=>(bif (decide (r2<0))then some ((-1),2)else((Aw3 K a0.fL r2).bind fun r3=>(bif (!r3)then some ((-1),2)else some (r2,0)))))))
def By1:Sig:=⟨[.v 32,.v 34],[.v 3,.v 3],true⟩
def By2 (K:Nat):Gb tyU:=⟨By1,At4 K⟩
def B3r (K:Nat):=xF By1 [(149,Bth K),(150,Bti K),(151,Byz K)] [] 24 [15,16] [] [] [] [.tmp 4,.tmp 5]
theorem By3 (K:Nat):OkF 85 (By2 K):=
 Aa6 (x:=B3r K) (L:=[]) (c0:=bd Tryz.f85) (xkF (gC (Bpa K) (gC (Bpb K) (gC (By0 K) gN))) oN) (by intro a0 a1;show @Eq _ _ _;kernel_rfl) kN Tryz.func85 trivial
def Au6 (K:Nat)(a0:Ba)(a1:Fg):Option (A9×Bool):=(bif (a0.Hh != 1)then some ((A9.mk 0 0 0),false)else(bif (a0.Ly != a1.Ly)then some ((A9.mk 0 0 0),false)else((Ac1 K a1.fNo 0 (Aob .i64 (a0.Ea.length:Int) 1)).bind fun r1=>(bif (!r1)then some ((A9.mk 0 0 0),false)else(if(0:Int)≤a1.fNo∧a1.fNo<(a0.Ea.length:Int)then some ((gt a0.Ea a1.fNo),true)else none)))))
def By4:Sig:=⟨[.v 44,.v 36],[.v 89,.v 4],true⟩
def By5 (K:Nat):Gb tyU:=⟨By4,Au6 K⟩
def B3s (K:Nat):=xF By4 [(84,A6b K)] [] 33 [8,9,14,15,16] [] [] [] [.cell 4 89,.tmp 5]
theorem By6 (K:Nat):OkF 180 (By5 K):=
 Aa6 (x:=B3s K) (L:=[]) (c0:=bd Tryz.f180) (xkF (gC (A0v K) gN) oN) (by intro a0 a1;show @Eq _ _ _;kernel_rfl) kN Tryz.func180 trivial
def As5 (K:Nat)(a0:Eb)(a1:Fg):Option (Int×A9×Int):=((Aw2 K a1).bind fun r1=>(bif (!r1)then some ((-1),(A9.mk 0 0 0),1)else((At4 K a0 a1.fH).bind fun r2=>(bif (r2.2 != 0)then some ((-1),(A9.mk 0 0 0),r2.2)else(if(0:Int)≤r2.1∧r2.1<(a0.fL.length:Int)then((Au6 K (gt a0.fL r2.1) a1).bind fun r3=>(bif (!r3.2)then some ((-1),(A9.mk 0 0 0),2)else some (r2.1,r3.1,0)))else none)))))
def By7:Sig:=⟨[.v 32,.v 36],[.v 3,.v 89,.v 3],true⟩
def By8 (K:Nat):Gb tyU:=⟨By7,As5 K⟩
def B3t (K:Nat):=xF By7 [(85,By2 K),(179,Byw K),(180,By5 K)] [] 41 [] [] [] [] [.tmp 4,.cell 5 89,.tmp 6]
theorem By9 (K:Nat):OkF 106 (By8 K):=
 Aa6 (x:=B3t K) (L:=[]) (c0:=bd Tryz.f106) (xkF (gC (By3 K) (gC (Byx K) (gC (By6 K) gN))) oN) (by intro a0 a1;show @Eq _ _ _;kernel_rfl) kN Tryz.func106 trivial
def Ax5 (K:Nat)(a0:List Ba)(a1:Int):Option (Int):=((Aul K a0 a1).bind fun r1=>some (r1.length:Int))
def Bza:Sig:=⟨[.v 29,.v 3],[.v 3],true⟩
def Bzb (K:Nat):Gb tyU:=⟨Bza,Ax5 K⟩
def B3u (K:Nat):=xF Bza [(224,Bmh K)] [] 9 [] [] [] [] [.tmp 4]
theorem Bzc (K:Nat):OkF 152 (Bzb K):=
 Aa6 (x:=B3u K) (L:=[]) (c0:=bd Tryz.f152) (xkF (gC (Bfu K) gN) oN) (by intro a0 a1;show @Eq _ _ _;kernel_rfl) kN Tryz.func152 trivial
def Av6 (K:Nat)(a0:Eb)(a1:Ct):Option (Int):=((Arb K a0.fL a1).bind fun r1=>((Ax5 K a0.fL r1).bind fun r2=>some r2))
def Bzd:Sig:=⟨[.v 32,.v 34],[.v 3],true⟩
def Bze (K:Nat):Gb tyU:=⟨Bzd,Av6 K⟩
def B3v (K:Nat):=xF Bzd [(150,Bti K),(152,Bzb K)] [] 12 [] [] [] [] [.tmp 4]
theorem Bzf (K:Nat):OkF 86 (Bze K):=
 Aa6 (x:=B3v K) (L:=[]) (c0:=bd Tryz.f86) (xkF (gC (Bpb K) (gC (Bzc K) gN)) oN) (by intro a0 a1;show @Eq _ _ _;kernel_rfl) kN Tryz.func86 trivial
def Aym (K:Nat)(a0:A9)(a1:Int)(a2:Int):Option (Bool):=(bif (decide (a1≥0))then(bif (decide (a2≥0))then(bif (decide (a1≤a0.Vu))then(bif (decide (a2≤(Aob .i64 a0.Vu a1)))then(bif (decide (a0.fAt<0))then some true else some (decide ((Aoa .i64 a0.fAt a1)≥0)))else some false)else some false)else some false)else some false)
def Bzg:Sig:=⟨[.v 89,.v 3,.v 3],[.v 4],true⟩
def Bzh (K:Nat):Gb tyU:=⟨Bzg,Aym K⟩
def B3w (K:Nat):=xF Bzg [] [] 39 [8,9,11,12,13,17,18,19,25,26,27,30,31] [] [] [] [.tmp 6]
theorem Bzi (K:Nat):OkF 181 (Bzh K):=
 Aa6 (x:=B3w K) (L:=[]) (c0:=bd Tryz.f181) (xkF gN oN) (by intro a0 a1 a2;show @Eq _ _ _;kernel_rfl) kN Tryz.func181 trivial
def Au7 (K:Nat)(a0:List Int)(a1:Int)(a2:Int):Option (Bool):=(bif (decide (a1≥0))then(bif (decide (a2≥0))then(bif (decide (a1≤(a0.length:Int)))then some (decide (a2≤(Aob .i64 (a0.length:Int) a1)))else some false)else some false)else some false)
def Bzj:Sig:=⟨[.v 22,.v 3,.v 3],[.v 4],true⟩
def Bzk (K:Nat):Gb tyU:=⟨Bzj,Au7 K⟩
def B3x (K:Nat):=xF Bzj [] [] 27 [8,9,11,12,13,17,18,19] [] [] [] [.tmp 6]
theorem Bzl (K:Nat):OkF 245 (Bzk K):=
 Aa6 (x:=B3x K) (L:=[]) (c0:=bd Tryz.f245) (xkF gN oN) (by intro a0 a1 a2;show @Eq _ _ _;kernel_rfl) kN Tryz.func245 trivial
def Aw4 (K:Nat)(a0:List Int)(a1:Int)(a2:Int):Option ((List Int)×Bool):=((Au7 K a0 a1 a2).bind fun r1=>(bif (!r1)then some (([]:List Int),false)else(if(0:Int)≤a1∧a1≤(Aoa .i64 a1 a2)∧(Aoa .i64 a1 a2)≤(a0.length:Int)then(if(([]:List Int)++((a0.drop a1.toNat).take ((Aoa .i64 a1 a2) - a1).toNat)).length*1≤140737488355328∧(([]:List Int)++((a0.drop a1.toNat).take ((Aoa .i64 a1 a2) - a1).toNat)).length≤maxLen then some ((([]:List Int)++((a0.drop a1.toNat).take ((Aoa .i64 a1 a2) - a1).toNat)),true)else none)else none)))
def Bzm:Sig:=⟨[.v 22,.v 3,.v 3],[.n 22 true,.v 4],true⟩
def Bzn (K:Nat):Gb tyU:=⟨Bzm,Aw4 K⟩
def B3y (K:Nat):=xF Bzm [(245,Bzk K)] [] 22 [] [] [] [] [.tmp 6,.tmp 7]
theorem Bzo (K:Nat):OkF 182 (Bzn K):=
 Aa6 (x:=B3y K) (L:=[]) (c0:=bd Tryz.f182) (xkF (gC (Bzl K) gN) oN) (by intro a0 a1 a2;show @Eq _ _ _;kernel_rfl) kN Tryz.func182 trivial
def As6 (K:Nat)(a0:List Int)(a1:A9)(a2:Int)(a3:Int):Option ((List Int)×Bool):=((Aym K a1 a2 a3).bind fun r1=>(bif (!r1)then some (([]:List Int),false)else((Aw4 K a0 (Aoa .i64 a1.fAt a2) a3).bind fun r2=>some (r2.1,r2.2))))
def Bzp:Sig:=⟨[.v 22,.v 89,.v 3,.v 3],[.n 22 true,.v 4],true⟩
def Bzq (K:Nat):Gb tyU:=⟨Bzp,As6 K⟩
def B3z (K:Nat):=xF Bzp [(181,Bzh K),(182,Bzn K)] [] 25 [] [] [] [] [.tmp 8,.tmp 9]
theorem Bzr (K:Nat):OkF 107 (Bzq K):=
 Aa6 (x:=B3z K) (L:=[]) (c0:=bd Tryz.f107) (xkF (gC (Bzi K) (gC (Bzo K) gN)) oN) (by intro a0 a1 a2 a3;show @Eq _ _ _;kernel_rfl) kN Tryz.func107 trivial
def Axx (K:Nat)(a0:Eb)(a1:Fg)(a2:Int)(a3:Int):Option (Eb×Fh):=((Auy K a0).bind fun r1=>((Au4 K a0).bind fun r2=>(bif (!r2)then some (r1,(Fh.mk 1 (Ct.mk 0 0) (Fg.mk (Ct.mk 0 0) 0 0) [] 0 0 0))else((As5 K a0 a1).bind fun r3=>((Av6 K a0 a1.fH).bind fun r4=>(bif (r3.2.2 != 0)then some (r1,(Fh.mk r3.2.2 (Ct.mk 0 0) (Fg.mk (Ct.mk 0 0) 0 0) [] r4 0 0))else((As6 K a0.fP.Fy r3.2.1 a2 a3).bind fun r5=>(bif (!r5.2)then some (r1,(Fh.mk 7 (Ct.mk 0 0) (Fg.mk (Ct.mk 0 0) 0 0) [] r4 0 0))else some (r1,(Fh.mk r3.2.2 (Ct.mk 0 0) (Fg.mk (Ct.mk 0 0) 0 0) r5.1 r4 0 0))))))))))
def Bzs:Sig:=⟨[.v 32,.v 36,.v 3,.v 3],[.n 32 true,.n 69 true],true⟩
def Bzt (K:Nat):Gb tyU:=⟨Bzs,Axx K⟩
def B30 (K:Nat):=xF Bzs [(82,Bw7 K),(83,Bys K),(86,Bze K),(106,By8 K),(107,Bzq K)] [] 60 [] [(7,[.take 114 7 6831]),(11,[.take 114 7 6831])] [] [] [.cell 8 32,.cell 9 69]
theorem Bzu (K:Nat):OkF 43 (Bzt K):=
 Aa6 (x:=B30 K) (L:=[]) (c0:=bd Tryz.f43) (xkF (gC (Bw8 K) (gC (Byt K) (gC (Bzf K) (gC (By9 K) (gC (Bzr K) gN))))) oN) (by intro a0 a1 a2 a3;show @Eq _ _ _;kernel_rfl) kN Tryz.func43 trivial
def Abk (K:Nat)(a0:Int)(a1:Int)(a2:Int):Option (Bool):=(bif (decide (a0≥a1))then some (decide (a0≤a2))else some false)
def Bzv:Sig:=⟨[.v 3,.v 3,.v 3],[.v 4],true⟩
def A3r (K:Nat):Gb tyU:=⟨Bzv,Abk K⟩
def B31 (K:Nat):=xF Bzv [] [] 15 [9,10] [] [] [] [.tmp 6]
theorem Az0 (K:Nat):OkF 88 (A3r K):=
 Aa6 (x:=B31 K) (L:=[]) (c0:=bd Tryz.f88) (xkF gN oN) (by intro a0 a1 a2;show @Eq _ _ _;kernel_rfl) kN Tryz.func88 trivial
def Ar5 (K:Nat)(a0:Er):Option (Bool):=((Abk K a0.Ae 2 12).bind fun r1=>(bif r1 then((Abk K a0.Eg 8 16).bind fun r2=>(bif r2 then((Abk K a0.C0 2 8).bind fun r3=>(bif r3 then((Abk K a0.E9 1 8).bind fun r4=>(bif r4 then((Abk K a0.C1 1 16).bind fun r5=>(bif r5 then((Abk K a0.Eh 1 4).bind fun r6=>some r6)else some false))else some false))else some false))else some false))else some false))
def Bzw:Sig:=⟨[.v 25],[.v 4],true⟩
def Bgy (K:Nat):Gb tyU:=⟨Bzw,Ar5 K⟩
def B32 (K:Nat):=xF Bzw [(88,A3r K)] [] 31 [5,6,9,10,11,14,15,16,19,20,21,24,25,26] [] [] [] [.tmp 2]
theorem Bct (K:Nat):OkF 198 (Bgy K):=
 Aa6 (x:=B32 K) (L:=[]) (c0:=bd Tryz.f198) (xkF (gC (Az0 K) gN) oN) (by intro a0;show @Eq _ _ _;kernel_rfl) kN Tryz.func198 trivial
def Au8 (K:Nat)(a0:Er):Option (Int):=((Ar5 K a0).bind fun r1=>(bif (!r1)then some 0 else some (Aoc .i64 a0.Ae a0.Eg)))
def Bzx:Sig:=⟨[.v 25],[.v 3],true⟩
def Btj (K:Nat):Gb tyU:=⟨Bzx,Au8 K⟩
def B33 (K:Nat):=xF Bzx [(198,Bgy K)] [] 11 [] [] [] [] [.tmp 2]
theorem Bpc (K:Nat):OkF 123 (Btj K):=
 Aa6 (x:=B33 K) (L:=[]) (c0:=bd Tryz.f123) (xkF (gC (Bct K) gN) oN) (by intro a0;show @Eq _ _ _;kernel_rfl) kN Tryz.func123 trivial
def Aqv (K:Nat)(a0:Dw)(a1:Er)(a2:Int):Option ((List Int)):=(if(0:Int)≤(Aoc .i64 a2 a1.Eg)∧(Aoc .i64 a2 a1.Eg)≤(Aoc .i64 (Aoa .i64 a2 1) a1.Eg)∧(Aoc .i64 (Aoa .i64 a2 1) a1.Eg)≤(a0.Fy.length:Int)then some ((a0.Fy.drop (Aoc .i64 a2 a1.Eg).toNat).take ((Aoc .i64 (Aoa .i64 a2 1) a1.Eg) - (Aoc .i64 a2 a1.Eg)).toNat)else none)
def Bzy:Sig:=⟨[.v 28,.v 25,.v 3],[.v 22],false⟩
def Btk (K:Nat):Gb tyU:=⟨Bzy,Aqv K⟩
def B34 (K:Nat):=xF Bzy [] [] 19 [] [] [] [] [.tmp 6]
theorem Bpd (K:Nat):OkF 227 (Btk K):=
 Aa6 (x:=B34 K) (L:=[]) (c0:=bd Tryz.f227) (xkF gN oN) (by intro a0 a1 a2;show @Eq _ _ _;kernel_rfl) kN Tryz.func227 trivial
def Aws (K:Nat)(a0:Int):Option (Bool):=some (a0 != 0)
def Bzz:Sig:=⟨[.v 5],[.v 4],true⟩
def Bz0 (K:Nat):Gb tyU:=⟨Bzz,Aws K⟩
def B35 (K:Nat):=xF Bzz [] [] 5 [] [] [] [] [.tmp 2]
theorem Bz1 (K:Nat):OkF 268 (Bz0 K):=
 Aa6 (x:=B35 K) (L:=[]) (c0:=bd Tryz.f268) (xkF gN oN) (by intro a0;show @Eq _ _ _;kernel_rfl) kN Tryz.func268 trivial
def Ag5 (K:Nat)(a0:List Int):Nat->Int->Int->Option (Int)
 |0,_,_=>none
 |n1+1,v1,v2=>(bif (decide (v2<v1))then(if(0:Int)≤v2∧v2<(a0.length:Int)then((Aws K (gt a0 v2)).bind fun r3=>(bif r3 then some v2 else(Ag5 K a0 n1 v1 (Aoa .i64 v2 1))))else none)else some (-1))
def Alg (K:Nat)(a0:List Int):Option (Int):=(Ag5 K a0 K (a0.length:Int) 0)
def s_79:Sig:=⟨[.v 22,.f 268 [] []],[.v 3],true⟩
def Bz2 (K:Nat):Gb tyU:=⟨s_79,Alg K⟩
def Btl (K:Nat):=xF s_79 [(268,Bz0 K)] [] 19 [] [] [] [] [.tmp 4]
def A8j:E5:=⟨[(0,.v 22),(1,.f 268 [] []),(7,.v 2),(8,.v 2)],[]⟩
def A8k (K:Nat)(n:Nat)(q:PT A8j):Rt s_79:=Ag5 K q.1 n q.2.1 q.2.2.1
theorem Bnt (K:Nat):AtL (Btl K) (fun n=>[]) [] (bd Tryz.f297) 26 (A8k K):=fun n q=>by kernel_rfl
theorem Bpe (K:Nat):XF [.tmp 4] s_79 19 [] (Btl K):=xkF (gC (Bz1 K) gN) oN
theorem Bnu (K:Nat)(n:Nat):CF [.tmp 4] s_79 19 [] (bd Tryz.f297) [] 26 (ar A8j (A8k K n)):=
 Aeh (Bpe K) (Bnt K) (fun n=>kN) n
theorem Bz3 (K:Nat):OkF 297 (Bz2 K):=
 Aa6 (x:=Btl K) (L:=[(26,ar A8j (A8k K K))]) (c0:=bd Tryz.f297) (Bpe K) (by intro a0;show @Eq _ _ _;kernel_rfl) (kC (Bnu K K) kN) Tryz.func297 trivial
def Ajb (K:Nat)(a0:List Int):Option (Bool):=((Alg K a0).bind fun r1=>some (decide (r1≥0)))
def Bz4:Sig:=⟨[.v 22,.f 268 [] []],[.v 4],true⟩
def Bz5 (K:Nat):Gb tyU:=⟨Bz4,Ajb K⟩
def B36 (K:Nat):=xF Bz4 [(297,Bz2 K)] [] 9 [] [] [] [] [.tmp 4]
theorem Bz6 (K:Nat):OkF 267 (Bz5 K):=
 Aa6 (x:=B36 K) (L:=[]) (c0:=bd Tryz.f267) (xkF (gC (Bz3 K) gN) oN) (by intro a0;show @Eq _ _ _;kernel_rfl) kN Tryz.func267 trivial
def Ar6 (K:Nat)(a0:List Int):Option (Bool):=((Ajb K a0).bind fun r1=>some (!r1))
def Bz7:Sig:=⟨[.v 22],[.v 4],true⟩
def Bnv (K:Nat):Gb tyU:=⟨Bz7,Ar6 K⟩
def B37 (K:Nat):=xF Bz7 [(267,Bz5 K)] [] 6 [] [] [] [] [.tmp 2]
theorem Bgz (K:Nat):OkF 226 (Bnv K):=
 Aa6 (x:=B37 K) (L:=[]) (c0:=bd Tryz.f226) (xkF (gC (Bz6 K) gN) oN) (by intro a0;show @Eq _ _ _;kernel_rfl) kN Tryz.func226 trivial
def At5 (K:Nat)(v3:List Int)(v4:Int)(v6:List Int)(v7:List Int)(v8:List Int)(v12:Int)(C1:(List Int)->Int->Int->(List Int)->(List Int)->(List Int)->Option (Bool))(v16:Bool):Option (Bool):=(bif v16 then some false else(C1 v3 v4 (Aoa .i64 v12 1) v6 v7 v8))
def Apz (K:Nat)(a0:Er)(v3:List Int)(v4:Int)(v5:Int)(v6:List Int)(v7:List Int)(v8:List Int)(C1:(List Int)->Int->Int->(List Int)->(List Int)->(List Int)->Option (Bool))(v11:Int)(v12:Int)(v13:Bool):Option (Bool):=(bif v13 then some false else(bif (v11==0)then((Aqv K (Dw.mk v6 v7 v8) a0 v5).bind fun r14=>((Ar6 K r14).bind fun r15=>(At5 K v3 v4 v6 v7 v8 v12 (C1) (!r15))))else(At5 K v3 v4 v6 v7 v8 v12 (C1) false)))
def Ai3 (K:Nat)(a0:Er):Nat->(List Int)->Int->Int->(List Int)->(List Int)->(List Int)->Option (Bool)
 |0,_,_,_,_,_,_=>none
 |n1+1,v3,v4,v5,v6,v7,v8=>(bif (decide (v5<v4))then(if(0:Int)≤v5∧v5<(v3.length:Int)then((Abk K (gt v3 v5) 0 2).bind fun r9=>(bif (!r9)then some false else(bif ((gt v3 v5)==1)then(if(0:Int)≤v5∧v5<(v8.length:Int)then((Abk K (gt v8 v5) 0 (Aob .i64 a0.C0 1)).bind fun r10=>(bif r10 then(bif ((gt v3 v5) != 1)then(if(0:Int)≤v5∧v5<(v8.length:Int)then(Apz K a0 v3 v4 v5 v6 v7 v8 (Ai3 K a0 n1) (gt v3 v5) v5 ((gt v8 v5) != (-1)))else none)else(Apz K a0 v3 v4 v5 v6 v7 v8 (Ai3 K a0 n1) (gt v3 v5) v5 false))else(Apz K a0 v3 v4 v5 v6 v7 v8 (Ai3 K a0 n1) (gt v3 v5) v5 true)))else none)else(bif ((gt v3 v5) != 1)then(if(0:Int)≤v5∧v5<(v8.length:Int)then(Apz K a0 v3 v4 v5 v6 v7 v8 (Ai3 K a0 n1) (gt v3 v5) v5 ((gt v8 v5) != (-1)))else none)else(Apz K a0 v3 v4 v5 v6 v7 v8 (Ai3 K a0 n1) (gt v3 v5) v5 false)))))else none)else some true)
def Av7 (K:Nat)(a0:Er)(a1:Dw):Option (Bool):=((Ar5 K a0).bind fun r1=>(bif r1 then((Au8 K a0).bind fun r2=>(bif ((a1.Fy.length:Int) != r2)then some false else(bif ((a1.Hh.length:Int) != a0.Ae)then some false else(bif ((a1.Fz.length:Int) != a0.Ae)then some false else(Ai3 K a0 K a1.Hh (a1.Hh.length:Int) 0 a1.Fy a1.Hh a1.Fz)))))else some false))
def s_82:Sig:=⟨[.v 25,.v 28],[.v 4],true⟩
def Bz8 (K:Nat):Gb tyU:=⟨s_82,Av7 K⟩
def Bg0 (K:Nat):=xF s_82 [(88,A3r K),(123,Btj K),(198,Bgy K),(226,Bnv K),(227,Btk K)] [] 85 [8,9,10,16,17,18,24,25,26,48,49,58,59,60,61,63,64,75,76] [] [] [29899,119599] [.tmp 4]
def Ay3:E5:=⟨[(2,.p 102),(3,.p 103),(35,.v 26),(36,.v 2),(37,.v 2),(73,.v 4)],[(103,.box [.v 22,.v 26,.v 26]),(102,.st 25 true)]⟩
def A0b:E5:=⟨[(2,.p 102),(3,.p 103),(5,.v 2),(6,.v 2),(35,.v 26),(36,.v 2),(37,.v 2),(46,.v 4)],[(103,.box [.v 22,.v 26,.v 26]),(102,.st 25 true)]⟩
def As7:E5:=⟨[(2,.p 102),(3,.p 103),(35,.v 26),(36,.v 2),(37,.v 2)],[(103,.box [.v 22,.v 26,.v 26]),(102,.st 25 true)]⟩
def Ay4 (K:Nat)(C58:CT As7 s_82)(q:PT Ay3):Rt s_82:=At5 K q.1 q.2.1 q.2.2.2.2.1 q.2.2.2.2.2.1 q.2.2.2.2.2.2.1 q.2.2.1 (fun v3 v4 v5 v6 v7 v8=>C58 (v3,v4,v5,v6,v7,v8,q.2.2.2.2.2.2.2.1,())) q.2.2.2.1
def A0c (K:Nat)(C58:CT As7 s_82)(q:PT A0b):Rt s_82:=Apz K q.2.2.2.2.2.2.2.2.2.1 q.2.2.1 q.2.2.2.1 q.1 q.2.2.2.2.2.2.1 q.2.2.2.2.2.2.2.1 q.2.2.2.2.2.2.2.2.1 (fun v3 v4 v5 v6 v7 v8=>C58 (v3,v4,v5,v6,v7,v8,q.2.2.2.2.2.2.2.2.2.1,())) q.2.1 q.2.2.2.2.1 q.2.2.2.2.2.1
def A05 (K:Nat)(n:Nat)(q:PT As7):Rt s_82:=Ai3 K q.2.2.2.2.2.2.1 n q.1 q.2.1 q.2.2.1 q.2.2.2.1 q.2.2.2.2.1 q.2.2.2.2.2.1
theorem A9y (K:Nat)(C58:CT As7 s_82):AtJ (Bg0 K) [] [(58,ar As7 C58)] (bd Tryz.f153) 119599 (Ay4 K C58):=fun q=>by kernel_rfl
theorem Bbf (K:Nat)(C58:CT As7 s_82):AtJ (Bg0 K) [(119599,ar Ay3 (Ay4 K C58))] [(58,ar As7 C58)] (bd Tryz.f153) 29899 (A0c K C58):=fun q=>by kernel_rfl
theorem Bnw (K:Nat):AtL (Bg0 K) (fun n=>[(29899,ar A0b (A0c K (A05 K n)))]) [] (bd Tryz.f153) 58 (A05 K):=fun n q=>by kernel_rfl
theorem Bcu (K:Nat):XF [.tmp 4] s_82 85 [29899,119599] (Bg0 K):=xkF (gC (Az0 K) (gC (Bpc K) (gC (Bct K) (gC (Bgz K) (gC (Bpd K) gN))))) oN
theorem A9z (K:Nat)(C58:CT As7 s_82):CF [.tmp 4] s_82 85 [29899,119599] (bd Tryz.f153) [(58,ar As7 C58)] 119599 (ar Ay3 (Ay4 K C58)):=
 Apk (Bcu K) (A9y K C58) kN
theorem Bbg (K:Nat)(C58:CT As7 s_82):CF [.tmp 4] s_82 85 [29899,119599] (bd Tryz.f153) [(58,ar As7 C58)] 29899 (ar A0b (A0c K C58)):=
 Apk (Bcu K) (Bbf K C58) (kC (A9z K C58) kN)
theorem Bnx (K:Nat)(n:Nat):CF [.tmp 4] s_82 85 [29899,119599] (bd Tryz.f153) [] 58 (ar As7 (A05 K n)):=
 Aeh (Bcu K) (Bnw K) (fun n=>(kC (Bbg K (A05 K n)) kN)) n
theorem Bz9 (K:Nat):OkF 153 (Bz8 K):=
 Aa6 (x:=Bg0 K) (L:=[(58,ar As7 (A05 K K))]) (c0:=bd Tryz.f153) (Bcu K) (by intro a0 a1;show @Eq _ _ _;kernel_rfl) (kC (Bnx K K) kN) Tryz.func153 trivial
def Ag3 (K:Nat)(a0:List Int):Option ((List Int)):=(bif a0.isEmpty then Afd (some []) ((if(([]:List Int)++a0).length*8≤140737488355328∧(([]:List Int)++a0).length≤maxLen then some (([]:List Int)++a0)else none))else(if(([]:List Int)++a0).length*8≤140737488355328∧(([]:List Int)++a0).length≤maxLen then some (([]:List Int)++a0)else none))
def B0a:Sig:=⟨[.v 26],[.n 26 true],true⟩
def Bdw (K:Nat):Gb tyU:=⟨B0a,Ag3 K⟩
def B38 (K:Nat):=xF B0a [] [] 8 [] [] [] [] [.tmp 2]
theorem A90 (K:Nat):OkF 160 (Bdw K):=
 Aa6 (x:=B38 K) (L:=[]) (c0:=bd Tryz.f160) (xkF gN oN) (by intro a0;show @Eq _ _ _;kernel_rfl) kN Tryz.func160 trivial
def Aiy (K:Nat)(a0:List Int)(a1:List Int):Nat->Int->Int->Option (Bool)
 |0,_,_=>none
 |n1+1,v1,v2=>(bif (decide (v2<v1))then(if(0:Int)≤v2∧v2<(a0.length:Int)then(if(0:Int)≤v2∧v2<(a1.length:Int)then(bif ((gt a0 v2) != (gt a1 v2))then some false else(Aiy K a0 a1 n1 v1 (Aoa .i64 v2 1)))else none)else none)else some true)
def Aiz (K:Nat)(a0:List Int)(a1:List Int):Option (Bool):=(bif ((a0.length:Int) != (a1.length:Int))then some false else(Aiy K a0 a1 K (a0.length:Int) 0))
def s_85:Sig:=⟨[.v 26,.v 26],[.v 4],true⟩
def Btm (K:Nat):Gb tyU:=⟨s_85,Aiz K⟩
def Btn (K:Nat):=xF s_85 [] [] 26 [] [] [] [] [.tmp 4]
def A8l:E5:=⟨[(0,.v 26),(1,.v 26),(12,.v 2),(13,.v 2)],[]⟩
def A8m (K:Nat)(n:Nat)(q:PT A8l):Rt s_85:=Aiy K q.1 q.2.1 n q.2.2.1 q.2.2.2.1
theorem Bny (K:Nat):AtL (Btn K) (fun n=>[]) [] (bd Tryz.f229) 58 (A8m K):=fun n q=>by kernel_rfl
theorem Bpf (K:Nat):XF [.tmp 4] s_85 26 [] (Btn K):=xkF gN oN
theorem Bnz (K:Nat)(n:Nat):CF [.tmp 4] s_85 26 [] (bd Tryz.f229) [] 58 (ar A8l (A8m K n)):=
 Aeh (Bpf K) (Bny K) (fun n=>kN) n
theorem Bpg (K:Nat):OkF 229 (Btm K):=
 Aa6 (x:=Btn K) (L:=[(58,ar A8l (A8m K K))]) (c0:=bd Tryz.f229) (Bpf K) (by intro a0 a1;show @Eq _ _ _;kernel_rfl) (kC (Bnz K K) kN) Tryz.func229 trivial
def Anz (K:Nat)(a0:List A9)(a1:List A9):Nat->Int->Int->Option (Bool)
 |0,_,_=>none
 |n1+1,v1,v2=>(bif (decide (v2<v1))then(if(0:Int)≤v2∧v2<(a0.length:Int)then(if(0:Int)≤v2∧v2<(a1.length:Int)then(bif (!((((gt a0 v2).fAt)==((gt a1 v2).fAt))&&((((gt a0 v2).Vu)==((gt a1 v2).Vu))&&((((gt a0 v2).Vv)==((gt a1 v2).Vv))&&true))))then some false else(Anz K a0 a1 n1 v1 (Aoa .i64 v2 1)))else none)else none)else some true)
def Ali (K:Nat)(a0:List A9)(a1:List A9):Option (Bool):=(bif ((a0.length:Int) != (a1.length:Int))then some false else(Anz K a0 a1 K (a0.length:Int) 0))
def s_86:Sig:=⟨[.v 41,.v 41],[.v 4],true⟩
def B0b (K:Nat):Gb tyU:=⟨s_86,Ali K⟩
def Bto (K:Nat):=xF s_86 [] [] 26 [] [] [] [] [.tmp 4]
def A8n:E5:=⟨[(0,.v 41),(1,.v 41),(12,.v 2),(13,.v 2)],[]⟩
def A8o (K:Nat)(n:Nat)(q:PT A8n):Rt s_86:=Anz K q.1 q.2.1 n q.2.2.1 q.2.2.2.1
theorem Bn0 (K:Nat):AtL (Bto K) (fun n=>[]) [] (bd Tryz.f309) 58 (A8o K):=fun n q=>by kernel_rfl
theorem Bph (K:Nat):XF [.tmp 4] s_86 26 [] (Bto K):=xkF gN oN
theorem Bn1 (K:Nat)(n:Nat):CF [.tmp 4] s_86 26 [] (bd Tryz.f309) [] 58 (ar A8n (A8o K n)):=
 Aeh (Bph K) (Bn0 K) (fun n=>kN) n
theorem B0c (K:Nat):OkF 309 (B0b K):=
 Aa6 (x:=Bto K) (L:=[(58,ar A8n (A8o K K))]) (c0:=bd Tryz.f309) (Bph K) (by intro a0 a1;show @Eq _ _ _;kernel_rfl) (kC (Bn1 K K) kN) Tryz.func309 trivial
def Awt (K:Nat)(a0:Ba)(a1:Ba):Option (Bool):=(bif (a0.Hh==a1.Hh)then(bif (a0.C2==a1.C2)then(bif (a0.Ly==a1.Ly)then(bif (a0.fUp==a1.fUp)then(bif (a0.Gq==a1.Gq)then(bif (a0.Bt==a1.Bt)then(bif (a0.Gr==a1.Gr)then(bif (a0.Gs==a1.Gs)then((Aiz K a0.Ae a1.Ae).bind fun r1=>(bif r1 then(bif (a0.Pq==a1.Pq)then(bif (a0.Gt==a1.Gt)then((Ali K a0.Ea a1.Ea).bind fun r2=>(bif r2 then((Aiz K a0.Dg a1.Dg).bind fun r3=>some r3)else some false))else some false)else some false)else some false))else some false)else some false)else some false)else some false)else some false)else some false)else some false)else some false)
def B0d:Sig:=⟨[.v 44,.v 44],[.v 4],true⟩
def B0e (K:Nat):Gb tyU:=⟨B0d,Awt K⟩
def B39 (K:Nat):=xF B0d [(229,Btm K),(309,B0b K)] [] 94 [9,10,15,16,17,22,23,24,29,30,31,36,37,38,43,44,45,50,51,52,57,58,59,64,65,66,71,72,73,78,79,80,85,86,87] [] [] [] [.tmp 4]
theorem B0f (K:Nat):OkF 274 (B0e K):=
 Aa6 (x:=B39 K) (L:=[]) (c0:=bd Tryz.f274) (xkF (gC (Bpg K) (gC (B0c K) gN)) oN) (by intro a0 a1;show @Eq _ _ _;kernel_rfl) kN Tryz.func274 trivial
def Axy (K:Nat)(a0:Ba):Option (Bool):=((Awt K a0 (Ba.mk a0.Hh a0.C2 0 0 0 0 0 0 ([]:List Int) 0 0 ([]:List A9) ([]:List Int))).bind fun r1=>some r1)
def B0g:Sig:=⟨[.v 44],[.v 4],true⟩
def B0h (K:Nat):Gb tyU:=⟨B0g,Axy K⟩
def B4a (K:Nat):=xF B0g [(274,B0e K)] [] 10 [] [] [] [] [.tmp 2]
theorem B0i (K:Nat):OkF 239 (B0h K):=
 Aa6 (x:=B4a K) (L:=[]) (c0:=bd Tryz.f239) (xkF (gC (B0f K) gN) oN) (by intro a0;show @Eq _ _ _;kernel_rfl) kN Tryz.func239 trivial
def Ans (K:Nat)(a0:List Int)(a1:Int):Nat->Int->Int->Option (Int)
 |0,_,_=>none
 |n1+1,v1,v2=>(bif (decide (v2<v1))then(if(0:Int)≤v2∧v2<(a0.length:Int)then(bif (a1==(gt a0 v2))then some v2 else(Ans K a0 a1 n1 v1 (Aoa .i64 v2 1)))else none)else some (-1))
def Aui (K:Nat)(a0:List Int)(a1:Int):Option (Int):=(Ans K a0 a1 K (a0.length:Int) 0)
def s_89:Sig:=⟨[.v 26,.v 3],[.v 3],true⟩
def B0j (K:Nat):Gb tyU:=⟨s_89,Aui K⟩
def Btp (K:Nat):=xF s_89 [] [] 19 [] [] [] [] [.tmp 4]
def A8p:E5:=⟨[(0,.v 26),(1,.v 2),(7,.v 2),(8,.v 2)],[]⟩
def A8q (K:Nat)(n:Nat)(q:PT A8p):Rt s_89:=Ans K q.1 q.2.1 n q.2.2.1 q.2.2.2.1
theorem Bn2 (K:Nat):AtL (Btp K) (fun n=>[]) [] (bd Tryz.f126) 26 (A8q K):=fun n q=>by kernel_rfl
theorem Bpi (K:Nat):XF [.tmp 4] s_89 19 [] (Btp K):=xkF gN oN
theorem Bn3 (K:Nat)(n:Nat):CF [.tmp 4] s_89 19 [] (bd Tryz.f126) [] 26 (ar A8p (A8q K n)):=
 Aeh (Bpi K) (Bn2 K) (fun n=>kN) n
theorem B0k (K:Nat):OkF 126 (B0j K):=
 Aa6 (x:=Btp K) (L:=[(26,ar A8p (A8q K K))]) (c0:=bd Tryz.f126) (Bpi K) (by intro a0 a1;show @Eq _ _ _;kernel_rfl) (kC (Bn3 K K) kN) Tryz.func126 trivial
def Amb (K:Nat)(a0:List Int)(a1:Int):Option (Bool):=((Aui K a0 a1).bind fun r1=>some (decide (r1≥0)))
def B0l:Sig:=⟨[.v 26,.v 3],[.v 4],true⟩
def Bn4 (K:Nat):Gb tyU:=⟨B0l,Amb K⟩
def B4b (K:Nat):=xF B0l [(126,B0j K)] [] 9 [] [] [] [] [.tmp 4]
theorem Bg1 (K:Nat):OkF 57 (Bn4 K):=
 Aa6 (x:=B4b K) (L:=[]) (c0:=bd Tryz.f57) (xkF (gC (B0k K) gN) oN) (by intro a0 a1;show @Eq _ _ _;kernel_rfl) kN Tryz.func57 trivial
def Aoy (K:Nat)(a0:Er)(a1:List Int):Nat->(List Int)->Int->Int->Option (Bool)
 |0,_,_,_=>none
 |n1+1,v1,v2,v3=>(bif (decide (v3<v2))then(if(0:Int)≤v3∧v3<(v1.length:Int)then((Abk K (gt v1 v3) 0 (Aob .i64 a0.Ae 1)).bind fun r4=>(bif r4 then(if(0:Int)≤0∧0≤v3∧v3≤(a1.length:Int)then((Amb K ((a1.drop (0:Int).toNat).take (v3 - 0).toNat) (gt v1 v3)).bind fun r5=>(bif r5 then some false else(Aoy K a0 a1 n1 v1 v2 (Aoa .i64 v3 1))))else none)else some false))else none)else some true)
def Ar1 (K:Nat)(a0:Er)(a1:List Int):Option (Bool):=(Aoy K a0 a1 K a1 (a1.length:Int) 0)
def s_91:Sig:=⟨[.v 25,.v 26],[.v 4],true⟩
def Btq (K:Nat):Gb tyU:=⟨s_91,Ar1 K⟩
def Btr (K:Nat):=xF s_91 [(57,Bn4 K),(88,A3r K)] [] 28 [18,19,20] [] [] [] [.tmp 4]
def A8r:E5:=⟨[(1,.v 26),(2,.p 102),(7,.v 26),(8,.v 2),(9,.v 2)],[(102,.st 25 true)]⟩
def A8s (K:Nat)(n:Nat)(q:PT A8r):Rt s_91:=Aoy K q.2.2.2.2.1 q.1 n q.2.1 q.2.2.1 q.2.2.2.1
theorem Bn5 (K:Nat):AtL (Btr K) (fun n=>[]) [] (bd Tryz.f240) 26 (A8s K):=fun n q=>by kernel_rfl
theorem Bpj (K:Nat):XF [.tmp 4] s_91 28 [] (Btr K):=xkF (gC (Bg1 K) (gC (Az0 K) gN)) oN
theorem Bn6 (K:Nat)(n:Nat):CF [.tmp 4] s_91 28 [] (bd Tryz.f240) [] 26 (ar A8r (A8s K n)):=
 Aeh (Bpj K) (Bn5 K) (fun n=>kN) n
theorem Bpk (K:Nat):OkF 240 (Btq K):=
 Aa6 (x:=Btr K) (L:=[(26,ar A8r (A8s K K))]) (c0:=bd Tryz.f240) (Bpj K) (by intro a0 a1;show @Eq _ _ _;kernel_rfl) (kC (Bn6 K K) kN) Tryz.func240 trivial
def Asc (K:Nat)(a0:Int):Option (Bool):=((Abk K a0 0 255).bind fun r1=>some (!r1))
def B0m:Sig:=⟨[.v 3],[.v 4],true⟩
def B0n (K:Nat):Gb tyU:=⟨B0m,Asc K⟩
def B4c (K:Nat):=xF B0m [(88,A3r K)] [] 6 [] [] [] [] [.tmp 2]
theorem B0o (K:Nat):OkF 237 (B0n K):=
 Aa6 (x:=B4c K) (L:=[]) (c0:=bd Tryz.f237) (xkF (gC (Az0 K) gN) oN) (by intro a0;show @Eq _ _ _;kernel_rfl) kN Tryz.func237 trivial
def Ag4 (K:Nat)(a0:List Int):Nat->Int->Int->Option (Int)
 |0,_,_=>none
 |n1+1,v1,v2=>(bif (decide (v2<v1))then(if(0:Int)≤v2∧v2<(a0.length:Int)then((Asc K (gt a0 v2)).bind fun r3=>(bif r3 then some v2 else(Ag4 K a0 n1 v1 (Aoa .i64 v2 1))))else none)else some (-1))
def Ak9 (K:Nat)(a0:List Int):Option (Int):=(Ag4 K a0 K (a0.length:Int) 0)
def s_93:Sig:=⟨[.v 26,.f 237 [] []],[.v 3],true⟩
def B0p (K:Nat):Gb tyU:=⟨s_93,Ak9 K⟩
def Bts (K:Nat):=xF s_93 [(237,B0n K)] [] 19 [] [] [] [] [.tmp 4]
def A8t:E5:=⟨[(0,.v 26),(1,.f 237 [] []),(7,.v 2),(8,.v 2)],[]⟩
def A8u (K:Nat)(n:Nat)(q:PT A8t):Rt s_93:=Ag4 K q.1 n q.2.1 q.2.2.1
theorem Bn7 (K:Nat):AtL (Bts K) (fun n=>[]) [] (bd Tryz.f272) 26 (A8u K):=fun n q=>by kernel_rfl
theorem Bpl (K:Nat):XF [.tmp 4] s_93 19 [] (Bts K):=xkF (gC (B0o K) gN) oN
theorem Bn8 (K:Nat)(n:Nat):CF [.tmp 4] s_93 19 [] (bd Tryz.f272) [] 26 (ar A8t (A8u K n)):=
 Aeh (Bpl K) (Bn7 K) (fun n=>kN) n
theorem B0q (K:Nat):OkF 272 (B0p K):=
 Aa6 (x:=Bts K) (L:=[(26,ar A8t (A8u K K))]) (c0:=bd Tryz.f272) (Bpl K) (by intro a0;show @Eq _ _ _;kernel_rfl) (kC (Bn8 K K) kN) Tryz.func272 trivial
def Ai4 (K:Nat)(a0:List Int):Option (Bool):=((Ak9 K a0).bind fun r1=>some (decide (r1≥0)))
def B0r:Sig:=⟨[.v 26,.f 237 [] []],[.v 4],true⟩
def B0s (K:Nat):Gb tyU:=⟨B0r,Ai4 K⟩
def B4d (K:Nat):=xF B0r [(272,B0p K)] [] 9 [] [] [] [] [.tmp 4]
theorem B0t (K:Nat):OkF 236 (B0s K):=
 Aa6 (x:=B4d K) (L:=[]) (c0:=bd Tryz.f236) (xkF (gC (B0q K) gN) oN) (by intro a0;show @Eq _ _ _;kernel_rfl) kN Tryz.func236 trivial
def Aqr (K:Nat)(a0:List Int):Option (Bool):=((Ai4 K a0).bind fun r1=>some (!r1))
def B0u:Sig:=⟨[.v 26],[.v 4],true⟩
def Bn9 (K:Nat):Gb tyU:=⟨B0u,Aqr K⟩
def B4e (K:Nat):=xF B0u [(236,B0s K)] [] 6 [] [] [] [] [.tmp 2]
theorem Bg2 (K:Nat):OkF 157 (Bn9 K):=
 Aa6 (x:=B4e K) (L:=[]) (c0:=bd Tryz.f157) (xkF (gC (B0t K) gN) oN) (by intro a0;show @Eq _ _ _;kernel_rfl) kN Tryz.func157 trivial
def Ay5 (K:Nat)(a0:Er)(a1:Int):Option (Bool):=some (decide (a1>a0.Eg))
def B0v:Sig:=⟨[.v 25,.v 3],[.v 4],true⟩
def B0w (K:Nat):Gb tyU:=⟨B0v,Ay5 K⟩
def B4f (K:Nat):=xF B0v [] [] 9 [] [] [] [] [.tmp 4]
theorem B0x (K:Nat):OkF 124 (B0w K):=
 Aa6 (x:=B4f K) (L:=[]) (c0:=bd Tryz.f124) (xkF gN oN) (by intro a0 a1;show @Eq _ _ _;kernel_rfl) kN Tryz.func124 trivial
def Ay6 (K:Nat)(a0:Int)(a1:Int):Option (Int):=((Abk K a0 0 1000000000).bind fun r1=>(bif r1 then((Abk K a1 1 1000000000).bind fun r2=>(bif (!r2)then some 0 else(if a1≠(0:Int)then some (Alr .i64 (Aob .i64 (Aoa .i64 a0 a1) 1) a1)else none)))else some 0))
def B0y:Sig:=⟨[.v 3,.v 3],[.v 3],true⟩
def B0z (K:Nat):Gb tyU:=⟨B0y,Ay6 K⟩
def B4g (K:Nat):=xF B0y [(88,A3r K)] [] 19 [6,7,8] [] [] [] [.tmp 4]
theorem B00 (K:Nat):OkF 199 (B0z K):=
 Aa6 (x:=B4g K) (L:=[]) (c0:=bd Tryz.f199) (xkF (gC (Az0 K) gN) oN) (by intro a0 a1;show @Eq _ _ _;kernel_rfl) kN Tryz.func199 trivial
def Ayc (K:Nat)(a0:Er)(a1:Int):Option (Int):=((Ay6 K a1 a0.Eg).bind fun r1=>some r1)
def B01:Sig:=⟨[.v 25,.v 3],[.v 3],true⟩
def B02 (K:Nat):Gb tyU:=⟨B01,Ayc K⟩
def B4h (K:Nat):=xF B01 [(199,B0z K)] [] 9 [] [] [] [] [.tmp 4]
theorem B03 (K:Nat):OkF 125 (B02 K):=
 Aa6 (x:=B4h K) (L:=[]) (c0:=bd Tryz.f125) (xkF (gC (B00 K) gN) oN) (by intro a0 a1;show @Eq _ _ _;kernel_rfl) kN Tryz.func125 trivial
def Ard (K:Nat)(a0:Er)(a1:A9):Option (Bool):=((Au8 K a0).bind fun r1=>(bif (decide (a1.Vu≤0))then some false else(bif (decide (a1.fAt<0))then some false else(bif (decide (a1.Vu>r1))then some false else(bif (decide (a1.fAt>(Aob .i64 r1 a1.Vu)))then some false else(bif (a1.Vv==0)then(bif (decide (a1.Vu≤a0.Eg))then(if a0.Eg≠(0:Int)then(if a0.Eg≠(0:Int)then some ((Alr .i64 a1.fAt a0.Eg)==(Alr .i64 (Aob .i64 (Aoa .i64 a1.fAt a1.Vu) 1) a0.Eg))else none)else none)else some false)else((Ay5 K a0 a1.Vu).bind fun r2=>(bif r2 then((Ayc K a0 a1.Vu).bind fun r3=>(bif (a1.Vv==r3)then(if a0.Eg≠(0:Int)then some ((Int.tmod a1.fAt a0.Eg)==0)else none)else some false))else some false))))))))
def B04:Sig:=⟨[.v 25,.v 89],[.v 4],true⟩
def Btt (K:Nat):Gb tyU:=⟨B04,Ard K⟩
def B4i (K:Nat):=xF B04 [(123,Btj K),(124,B0w K),(125,B02 K)] [] 77 [10,11,14,15,16,20,21,22,38,39,59,60,67,68,69] [] [] [] [.tmp 4]
theorem Bpm (K:Nat):OkF 56 (Btt K):=
 Aa6 (x:=B4i K) (L:=[]) (c0:=bd Tryz.f56) (xkF (gC (Bpc K) (gC (B0x K) (gC (B03 K) gN))) oN) (by intro a0 a1;show @Eq _ _ _;kernel_rfl) kN Tryz.func56 trivial
def At6 (K:Nat)(a0:A9)(a1:Er):Option (Bool):=((Ard K a1 a0).bind fun r1=>some (!r1))
def Bpn:Sig:=⟨[.v 89,.r 25],[.v 4],true⟩
def Bpo (K:Nat):Gb tyU:=⟨Bpn,At6 K⟩
def B05 (K:Nat):=xF Bpn [(56,Btt K)] [] 8 [] [] [] [] [.tmp 3]
theorem Btu (K:Nat):OkF 241 (Bpo K):=
 Aa6 (x:=B05 K) (L:=[]) (c0:=bd Tryz.f241) (xkF (gC (Bpm K) gN) oN) (by intro a0 a1;show @Eq _ _ _;kernel_rfl) kN Tryz.func241 trivial
def Ae1 (K:Nat)(a0:List A9)(a1_0:Er):Nat->Int->Int->Option (Int)
 |0,_,_=>none
 |n1+1,v1,v2=>(bif (decide (v2<v1))then(if(0:Int)≤v2∧v2<(a0.length:Int)then((At6 K (gt a0 v2) a1_0).bind fun r3=>(bif r3 then some v2 else(Ae1 K a0 a1_0 n1 v1 (Aoa .i64 v2 1))))else none)else some (-1))
def An0 (K:Nat)(a0:List A9)(a1_0:Er):Option (Int):=(Ae1 K a0 a1_0 K (a0.length:Int) 0)
def s_101:Sig:=⟨[.v 41,.f 241 [] [25]],[.v 3],true⟩
def Bpp (K:Nat):Gb tyU:=⟨s_101,An0 K⟩
def Bg3 (K:Nat):=xF s_101 [(241,Bpo K)] [] 19 [] [] [] [] [.tmp 4]
def A3s:E5:=⟨[(0,.v 41),(1,.f 241 [] [25]),(7,.v 2),(8,.v 2)],[]⟩
def A3t (K:Nat)(n:Nat)(q:PT A3s):Rt s_101:=Ae1 K q.1 q.2.1 n q.2.2.1 q.2.2.2.1
theorem Bg4 (K:Nat):AtL (Bg3 K) (fun n=>[]) [] (bd Tryz.f122) 26 (A3t K):=fun n q=>by kernel_rfl
theorem Bg5 (K:Nat):XF [.tmp 4] s_101 19 [] (Bg3 K):=xkF (gC (Btu K) gN) oN
theorem Bg6 (K:Nat)(n:Nat):CF [.tmp 4] s_101 19 [] (bd Tryz.f122) [] 26 (ar A3s (A3t K n)):=
 Aeh (Bg5 K) (Bg4 K) (fun n=>kN) n
theorem Btv (K:Nat):OkF 122 (Bpp K):=
 Aa6 (x:=Bg3 K) (L:=[(26,ar A3s (A3t K K))]) (c0:=bd Tryz.f122) (Bg5 K) (by intro a0 a1_0;show @Eq _ _ _;kernel_rfl) (kC (Bg6 K K) kN) Tryz.func122 trivial
def Ahy (K:Nat)(a0:List A9)(a1_0:Er):Option (Bool):=((An0 K a0 a1_0).bind fun r1=>some (decide (r1≥0)))
def Bpq:Sig:=⟨[.v 41,.f 241 [] [25]],[.v 4],true⟩
def Bpr (K:Nat):Gb tyU:=⟨Bpq,Ahy K⟩
def B06 (K:Nat):=xF Bpq [(122,Bpp K)] [] 9 [] [] [] [] [.tmp 4]
theorem Btw (K:Nat):OkF 54 (Bpr K):=
 Aa6 (x:=B06 K) (L:=[]) (c0:=bd Tryz.f54) (xkF (gC (Btv K) gN) oN) (by intro a0 a1_0;show @Eq _ _ _;kernel_rfl) kN Tryz.func54 trivial
def Ap0 (K:Nat)(a0:Er)(v19:List A9)(v20:List Int):Option (Bool):=(bif (decide ((v19.length:Int)≤12))then(bif (decide ((v20.length:Int)≤6))then((Aqr K v20).bind fun r25=>(bif r25 then((Ahy K v19 a0).bind fun r26=>some (!r26))else some false))else some false)else some false)
def Apf (K:Nat)(a0:Er):Nat->(List Int)->Int->Int->Int->Int->Int->Int->Int->Int->Int->Int->(List Int)->Int->Int->(List A9)->(List Int)->Option (Bool)
 |0,_,_,_,_,_,_,_,_,_,_,_,_,_,_,_,_=>none
 |n1+1,v5,v6,v7,v8,v9,v10,v11,v12,v13,v14,v15,v16,v17,v18,v19,v20=>(bif (decide (v7<v6))then(if(0:Int)≤v7∧v7<(v5.length:Int)then((Abk K (gt v5 v7) 0 a0.C0).bind fun r21=>(bif (!r21)then some false else(Apf K a0 n1 v5 v6 (Aoa .i64 v7 1) v8 v9 v10 v11 v12 v13 v14 v15 v16 v17 v18 v19 v20)))else none)else(bif (decide (v10<0))then some false else(bif (decide (v12<0))then some false else((Ar1 K a0 v16).bind fun r22=>(bif r22 then(bif (v17 != 0)then((Amb K v16 (Aob .i64 v17 1)).bind fun r23=>(bif r23 then((Abk K v18 0 a0.Eg).bind fun r24=>(bif r24 then(bif (v17==0)then(bif (v18 != 0)then some false else(Ap0 K a0 v19 v20))else(Ap0 K a0 v19 v20))else some false))else some false))else((Abk K v18 0 a0.Eg).bind fun r27=>(bif r27 then(bif (v17==0)then(bif (v18 != 0)then some false else(Ap0 K a0 v19 v20))else(Ap0 K a0 v19 v20))else some false)))else some false)))))
def Av8 (K:Nat)(a0:Er)(a1:Ba):Option (Bool):=((Ar5 K a0).bind fun r1=>(bif r1 then((Abk K a1.Hh 0 3).bind fun r2=>(bif r2 then((Abk K a1.C2 1 a0.Eh).bind fun r3=>(bif (!r3)then some false else(bif (a1.Hh != 1)then((Axy K a1).bind fun r4=>some r4)else(Apf K a0 K ([a1.fUp,a1.Bt,a1.Gr,a1.Gs]:List Int) (([a1.fUp,a1.Bt,a1.Gr,a1.Gs]:List Int).length:Int) 0 a1.Hh a1.C2 a1.Ly a1.fUp a1.Gq a1.Bt a1.Gr a1.Gs a1.Ae a1.Pq a1.Gt a1.Ea a1.Dg))))else some false))else some false))
def s_103:Sig:=⟨[.v 25,.v 44],[.v 4],true⟩
def Bps (K:Nat):Gb tyU:=⟨s_103,Av8 K⟩
def Bcv (K:Nat):=xF s_103 [(54,Bpr K),(57,Bn4 K),(88,A3r K),(157,Bn9 K),(198,Bgy K),(239,B0h K),(240,Btq K)] [] 118 [8,9,10,13,14,15,16,51,52,55,56,57,61,62,63,64,67,68,74,75,76,77,78,83,84,85,86,89,90,99,100,104,105,106,109,110,111] [(13,[.frzB 102 25])] [] [31] [.tmp 4]
def A3u:E5:=⟨[(2,.p 102),(3,.p 103)],[(103,.box [.v 2,.v 2,.v 2,.v 2,.v 2,.v 2,.v 2,.v 2,.v 26,.v 2,.v 2,.v 41,.v 26]),(102,.st 25 true)]⟩
def A10:E5:=⟨[(2,.p 102),(3,.p 103),(37,.v 26),(38,.v 2),(39,.v 2)],[(103,.box [.v 2,.v 2,.v 2,.v 2,.v 2,.v 2,.v 2,.v 2,.v 26,.v 2,.v 2,.v 41,.v 26]),(102,.st 25 true)]⟩
def A3v (K:Nat)(q:PT A3u):Rt s_103:=Ap0 K q.2.2.2.2.2.2.2.2.2.2.2.2.2.1 q.2.2.2.2.2.2.2.2.2.2.2.1 q.2.2.2.2.2.2.2.2.2.2.2.2.1
def A11 (K:Nat)(n:Nat)(q:PT A10):Rt s_103:=Apf K q.2.2.2.2.2.2.2.2.2.2.2.2.2.2.2.2.1 n q.1 q.2.1 q.2.2.1 q.2.2.2.1 q.2.2.2.2.1 q.2.2.2.2.2.1 q.2.2.2.2.2.2.1 q.2.2.2.2.2.2.2.1 q.2.2.2.2.2.2.2.2.1 q.2.2.2.2.2.2.2.2.2.1 q.2.2.2.2.2.2.2.2.2.2.1 q.2.2.2.2.2.2.2.2.2.2.2.1 q.2.2.2.2.2.2.2.2.2.2.2.2.1 q.2.2.2.2.2.2.2.2.2.2.2.2.2.1 q.2.2.2.2.2.2.2.2.2.2.2.2.2.2.1 q.2.2.2.2.2.2.2.2.2.2.2.2.2.2.2.1
theorem Bg7 (K:Nat):AtJ (Bcv K) [] [] (bd Tryz.f167) 31 (A3v K):=fun q=>by kernel_rfl
theorem Bdx (K:Nat):AtL (Bcv K) (fun n=>[(31,ar A3u (A3v K))]) [] (bd Tryz.f167) 122 (A11 K):=fun n q=>by kernel_rfl
theorem Bbh (K:Nat):XF [.tmp 4] s_103 118 [31] (Bcv K):=xkF (gC (Btw K) (gC (Bg1 K) (gC (Az0 K) (gC (Bg2 K) (gC (Bct K) (gC (B0i K) (gC (Bpk K) gN))))))) oN
theorem Bg8 (K:Nat):CF [.tmp 4] s_103 118 [31] (bd Tryz.f167) [] 31 (ar A3u (A3v K)):=
 Apk (Bbh K) (Bg7 K) kN
theorem Bdy (K:Nat)(n:Nat):CF [.tmp 4] s_103 118 [31] (bd Tryz.f167) [] 122 (ar A10 (A11 K n)):=
 Aeh (Bbh K) (Bdx K) (fun n=>(kC (Ao2 (by kernel_rfl) (Bg8 K)) kN)) n
theorem Btx (K:Nat):OkF 167 (Bps K):=
 Aa6 (x:=Bcv K) (L:=[(122,ar A10 (A11 K K))]) (c0:=bd Tryz.f167) (Bbh K) (by intro a0 a1;show @Eq _ _ _;kernel_rfl) (kC (Bdy K K) kN) Tryz.func167 trivial
def Are (K:Nat)(v2:Int)(v3:Int)(v4:List Int)(v5:List Int)(v6:List Int)(C1:(List Int)->Int->Int->(List Int)->(List Int)->(List Int)->Option ((List Int)))(v7:List Int):Option ((List Int)):=(C1 v7 v2 (Aoa .i64 v3 1) v4 v5 v6)
def Alh (K:Nat)(a1:Int):Nat->(List Int)->Int->Int->(List Int)->(List Int)->(List Int)->Option ((List Int))
 |0,_,_,_,_,_,_=>none
 |n1+1,v1,v2,v3,v4,v5,v6=>(bif (decide (v3<v2))then(if(0:Int)≤v3∧v3<(v5.length:Int)then(bif ((gt v5 v3)==1)then(if(0:Int)≤v3∧v3<(v6.length:Int)then(bif ((gt v6 v3)==a1)then(if(v1++([v3]:List Int)).length*8≤140737488355328∧(v1++([v3]:List Int)).length≤maxLen then(Are K v2 v3 v4 v5 v6 (Alh K a1 n1) (v1++([v3]:List Int)))else none)else(Are K v2 v3 v4 v5 v6 (Alh K a1 n1) v1))else none)else(Are K v2 v3 v4 v5 v6 (Alh K a1 n1) v1))else none)else some v1)
def Au9 (K:Nat)(a0:Dw)(a1:Int):Option ((List Int)):=(Alh K a1 K ([]:List Int) (Aaf (a0.Hh.length:Int) (a0.Fz.length:Int)) 0 a0.Fy a0.Hh a0.Fz)
def s_104:Sig:=⟨[.v 28,.v 3],[.n 26 true],true⟩
def Bpt (K:Nat):Gb tyU:=⟨s_104,Au9 K⟩
def Bcw (K:Nat):=xF s_104 [] [] 39 [23,24] [] [] [467] [.tmp 4]
def A12:E5:=⟨[(1,.v 2),(2,.p 102),(5,.o 1005 3 true),(14,.v 2),(15,.v 2)],[(102,.box [.v 22,.v 26,.v 26])]⟩
def Awj:E5:=⟨[(1,.v 2),(2,.p 102),(5,.o 1005 3 true),(14,.v 2),(15,.v 2)],[(102,.box [.v 22,.v 26,.v 26])]⟩
def A13 (K:Nat)(C58:CT Awj s_104)(q:PT A12):Rt s_104:=Are K q.2.2.1 q.2.2.2.1 q.2.2.2.2.1 q.2.2.2.2.2.1 q.2.2.2.2.2.2.1 (fun v1 v2 v3 v4 v5 v6=>C58 (q.1,v1,v2,v3,v4,v5,v6,())) q.2.1
def Ay7 (K:Nat)(n:Nat)(q:PT Awj):Rt s_104:=Alh K q.1 n q.2.1 q.2.2.1 q.2.2.2.1 q.2.2.2.2.1 q.2.2.2.2.2.1 q.2.2.2.2.2.2.1
theorem Bdz (K:Nat)(C58:CT Awj s_104):AtJ (Bcw K) [] [(58,ar Awj C58)] (bd Tryz.f16) 467 (A13 K C58):=fun q=>by kernel_rfl
theorem Bg9 (K:Nat):AtL (Bcw K) (fun n=>[(467,ar A12 (A13 K (Ay7 K n)))]) [] (bd Tryz.f16) 58 (Ay7 K):=fun n q=>by kernel_rfl
theorem Bbi (K:Nat):XF [.tmp 4] s_104 39 [467] (Bcw K):=xkF gN oN
theorem Bd0 (K:Nat)(C58:CT Awj s_104):CF [.tmp 4] s_104 39 [467] (bd Tryz.f16) [(58,ar Awj C58)] 467 (ar A12 (A13 K C58)):=
 Apk (Bbi K) (Bdz K C58) kN
theorem Bha (K:Nat)(n:Nat):CF [.tmp 4] s_104 39 [467] (bd Tryz.f16) [] 58 (ar Awj (Ay7 K n)):=
 Aeh (Bbi K) (Bg9 K) (fun n=>(kC (Bd0 K (Ay7 K n)) kN)) n
theorem Bty (K:Nat):OkF 16 (Bpt K):=
 Aa6 (x:=Bcw K) (L:=[(58,ar Awj (Ay7 K K))]) (c0:=bd Tryz.f16) (Bbi K) (by intro a0 a1;show @Eq _ _ _;kernel_rfl) (kC (Bha K K) kN) Tryz.func16 trivial
def Alj (K:Nat)(a0:A9)(a1:Er)(a2:Ba):Nat->Int->Option (Bool)
 |0,_=>none
 |n1+1,v2=>(if a1.Eg≠(0:Int)then(bif (decide (v2≤(Alr .i64 (Aob .i64 (Aoa .i64 a0.fAt a0.Vu) 1) a1.Eg)))then((Amb K a2.Ae v2).bind fun r3=>(bif (!r3)then some true else(Alj K a0 a1 a2 n1 (Aoa .i64 v2 1))))else some false)else none)
def Aqw (K:Nat)(a0:A9)(a1:Er)(a2:Ba):Option (Bool):=((Ard K a1 a0).bind fun r1=>(bif (!r1)then some true else(if a1.Eg≠(0:Int)then(Alj K a0 a1 a2 K (Alr .i64 a0.fAt a1.Eg))else none)))
def s_105:Sig:=⟨[.v 89,.r 25,.r 44],[.v 4],true⟩
def Bpu (K:Nat):Gb tyU:=⟨s_105,Aqw K⟩
def Bhb (K:Nat):=xF s_105 [(56,Btt K),(57,Bn4 K)] [] 33 [] [] [] [] [.tmp 4]
def A3w:E5:=⟨[(1,.r 25),(2,.r 44),(3,.p 103),(5,.v 2)],[(103,.st 89 true)]⟩
def A3x (K:Nat)(n:Nat)(q:PT A3w):Rt s_105:=Alj K q.2.2.2.1 q.1 q.2.1 n q.2.2.1
theorem Bhc (K:Nat):AtL (Bhb K) (fun n=>[]) [] (bd Tryz.f55) 58 (A3x K):=fun n q=>by kernel_rfl
theorem Bhd (K:Nat):XF [.tmp 4] s_105 33 [] (Bhb K):=xkF (gC (Bpm K) (gC (Bg1 K) gN)) oN
theorem Bhe (K:Nat)(n:Nat):CF [.tmp 4] s_105 33 [] (bd Tryz.f55) [] 58 (ar A3w (A3x K n)):=
 Aeh (Bhd K) (Bhc K) (fun n=>kN) n
theorem Btz (K:Nat):OkF 55 (Bpu K):=
 Aa6 (x:=Bhb K) (L:=[(58,ar A3w (A3x K K))]) (c0:=bd Tryz.f55) (Bhd K) (by intro a0 a1 a2;show @Eq _ _ _;kernel_rfl) (kC (Bhe K K) kN) Tryz.func55 trivial
def Aej (K:Nat)(a0:List A9)(a1_0:Er)(a1_1:Ba):Nat->Int->Int->Option (Int)
 |0,_,_=>none
 |n1+1,v1,v2=>(bif (decide (v2<v1))then(if(0:Int)≤v2∧v2<(a0.length:Int)then((Aqw K (gt a0 v2) a1_0 a1_1).bind fun r3=>(bif r3 then some v2 else(Aej K a0 a1_0 a1_1 n1 v1 (Aoa .i64 v2 1))))else none)else some (-1))
def Amf (K:Nat)(a0:List A9)(a1_0:Er)(a1_1:Ba):Option (Int):=(Aej K a0 a1_0 a1_1 K (a0.length:Int) 0)
def s_106:Sig:=⟨[.v 41,.f 55 [] [25,44]],[.v 3],true⟩
def Bpv (K:Nat):Gb tyU:=⟨s_106,Amf K⟩
def Bhf (K:Nat):=xF s_106 [(55,Bpu K)] [] 19 [] [] [] [] [.tmp 4]
def A3y:E5:=⟨[(0,.v 41),(1,.f 55 [] [25,44]),(7,.v 2),(8,.v 2)],[]⟩
def A3z (K:Nat)(n:Nat)(q:PT A3y):Rt s_106:=Aej K q.1 q.2.1 q.2.2.1 n q.2.2.2.1 q.2.2.2.2.1
theorem Bhg (K:Nat):AtL (Bhf K) (fun n=>[]) [] (bd Tryz.f122) 26 (A3z K):=fun n q=>by kernel_rfl
theorem Bhh (K:Nat):XF [.tmp 4] s_106 19 [] (Bhf K):=xkF (gC (Btz K) gN) oN
theorem Bhi (K:Nat)(n:Nat):CF [.tmp 4] s_106 19 [] (bd Tryz.f122) [] 26 (ar A3y (A3z K n)):=
 Aeh (Bhh K) (Bhg K) (fun n=>kN) n
theorem Bt0 (K:Nat):OkF 122 (Bpv K):=
 Aa6 (x:=Bhf K) (L:=[(26,ar A3y (A3z K K))]) (c0:=bd Tryz.f122) (Bhh K) (by intro a0 a1_0 a1_1;show @Eq _ _ _;kernel_rfl) (kC (Bhi K K) kN) Tryz.func122 trivial
def Ag7 (K:Nat)(a0:List A9)(a1_0:Er)(a1_1:Ba):Option (Bool):=((Amf K a0 a1_0 a1_1).bind fun r1=>some (decide (r1≥0)))
def Bpw:Sig:=⟨[.v 41,.f 55 [] [25,44]],[.v 4],true⟩
def Bpx (K:Nat):Gb tyU:=⟨Bpw,Ag7 K⟩
def B07 (K:Nat):=xF Bpw [(122,Bpv K)] [] 9 [] [] [] [] [.tmp 4]
theorem Bt1 (K:Nat):OkF 54 (Bpx K):=
 Aa6 (x:=B07 K) (L:=[]) (c0:=bd Tryz.f54) (xkF (gC (Bt0 K) gN) oN) (by intro a0 a1_0 a1_1;show @Eq _ _ _;kernel_rfl) kN Tryz.func54 trivial
def At7 (K:Nat)(a0:Er)(a1:Ba):Option (Bool):=((Ag7 K a1.Ea a0 a1).bind fun r1=>some (!r1))
def Bpy:Sig:=⟨[.v 25,.v 44],[.v 4],true⟩
def Bpz (K:Nat):Gb tyU:=⟨Bpy,At7 K⟩
def B08 (K:Nat):=xF Bpy [(54,Bpx K)] [] 10 [] [(1,[.frzB 102 25,.frzB 103 44])] [] [] [.tmp 4]
theorem Bt2 (K:Nat):OkF 15 (Bpz K):=
 Aa6 (x:=B08 K) (L:=[]) (c0:=bd Tryz.f15) (xkF (gC (Bt1 K) gN) oN) (by intro a0 a1;show @Eq _ _ _;kernel_rfl) kN Tryz.func15 trivial
def Ava (K:Nat)(v1:A9)(v2:A9):Option (Bool):=some (decide ((Aob .u64 (IntKind.u64.wrap v1.fAt) (IntKind.u64.wrap v2.fAt))≥(IntKind.u64.wrap v2.Vu)))
def Avb (K:Nat)(a0:A9)(a1:A9):Option (Bool):=(bif (decide (a0.Vu≤0))then some true else(bif (decide (a1.Vu≤0))then some true else(bif (decide (a0.fAt>a1.fAt))then(Ava K a0 a1)else(Ava K a1 a0))))
def s_109:Sig:=⟨[.v 89,.v 89],[.v 4],true⟩
def Bhj (K:Nat):Gb tyU:=⟨s_109,Avb K⟩
def Bhk (K:Nat):=xF s_109 [] [] 31 [7,8] [] [] [7] [.tmp 4]
def A8v:E5:=⟨[(2,.p 102),(3,.p 103)],[(103,.st 89 true),(102,.st 89 true)]⟩
def A8w (K:Nat)(q:PT A8v):Rt s_109:=Ava K q.1 q.2.1
theorem Boa (K:Nat):AtJ (Bhk K) [] [] (bd Tryz.f59) 7 (A8w K):=fun q=>by kernel_rfl
theorem Bhl (K:Nat):XF [.tmp 4] s_109 31 [7] (Bhk K):=xkF gN oN
theorem Bob (K:Nat):CF [.tmp 4] s_109 31 [7] (bd Tryz.f59) [] 7 (ar A8v (A8w K)):=
 Apk (Bhl K) (Boa K) kN
theorem Bhm (K:Nat):OkF 59 (Bhj K):=
 Aa6 (x:=Bhk K) (L:=[(7,ar A8v (A8w K))]) (c0:=bd Tryz.f59) (Bhl K) (by intro a0 a1;show @Eq _ _ _;kernel_rfl) (kC (Bob K) kN) Tryz.func59 trivial
def Asd (K:Nat)(a0:A9)(a1:A9):Option (Bool):=((Avb K a0 a1).bind fun r1=>some (!r1))
def Bp0:Sig:=⟨[.v 89,.r 89],[.v 4],true⟩
def Bp1 (K:Nat):Gb tyU:=⟨Bp0,Asd K⟩
def B09 (K:Nat):=xF Bp0 [(59,Bhj K)] [] 8 [] [] [] [] [.tmp 3]
theorem Bt3 (K:Nat):OkF 58 (Bp1 K):=
 Aa6 (x:=B09 K) (L:=[]) (c0:=bd Tryz.f58) (xkF (gC (Bhm K) gN) oN) (by intro a0 a1;show @Eq _ _ _;kernel_rfl) kN Tryz.func58 trivial
def Aek (K:Nat)(a0:List A9)(a1_0:A9):Nat->Int->Int->Option (Int)
 |0,_,_=>none
 |n1+1,v1,v2=>(bif (decide (v2<v1))then(if(0:Int)≤v2∧v2<(a0.length:Int)then((Asd K (gt a0 v2) a1_0).bind fun r3=>(bif r3 then some v2 else(Aek K a0 a1_0 n1 v1 (Aoa .i64 v2 1))))else none)else some (-1))
def Ang (K:Nat)(a0:List A9)(a1_0:A9):Option (Int):=(Aek K a0 a1_0 K (a0.length:Int) 0)
def s_111:Sig:=⟨[.v 41,.f 58 [] [89]],[.v 3],true⟩
def Bp2 (K:Nat):Gb tyU:=⟨s_111,Ang K⟩
def Bhn (K:Nat):=xF s_111 [(58,Bp1 K)] [] 19 [] [] [] [] [.tmp 4]
def A30:E5:=⟨[(0,.v 41),(1,.f 58 [] [89]),(7,.v 2),(8,.v 2)],[]⟩
def A31 (K:Nat)(n:Nat)(q:PT A30):Rt s_111:=Aek K q.1 q.2.1 n q.2.2.1 q.2.2.2.1
theorem Bho (K:Nat):AtL (Bhn K) (fun n=>[]) [] (bd Tryz.f122) 26 (A31 K):=fun n q=>by kernel_rfl
theorem Bhp (K:Nat):XF [.tmp 4] s_111 19 [] (Bhn K):=xkF (gC (Bt3 K) gN) oN
theorem Bhq (K:Nat)(n:Nat):CF [.tmp 4] s_111 19 [] (bd Tryz.f122) [] 26 (ar A30 (A31 K n)):=
 Aeh (Bhp K) (Bho K) (fun n=>kN) n
theorem Bt4 (K:Nat):OkF 122 (Bp2 K):=
 Aa6 (x:=Bhn K) (L:=[(26,ar A30 (A31 K K))]) (c0:=bd Tryz.f122) (Bhp K) (by intro a0 a1_0;show @Eq _ _ _;kernel_rfl) (kC (Bhq K K) kN) Tryz.func122 trivial
def Ag9 (K:Nat)(a0:List A9)(a1_0:A9):Option (Bool):=((Ang K a0 a1_0).bind fun r1=>some (decide (r1≥0)))
def Bp3:Sig:=⟨[.v 41,.f 58 [] [89]],[.v 4],true⟩
def Bp4 (K:Nat):Gb tyU:=⟨Bp3,Ag9 K⟩
def B1a (K:Nat):=xF Bp3 [(122,Bp2 K)] [] 9 [] [] [] [] [.tmp 4]
theorem Bt5 (K:Nat):OkF 54 (Bp4 K):=
 Aa6 (x:=B1a K) (L:=[]) (c0:=bd Tryz.f54) (xkF (gC (Bt4 K) gN) oN) (by intro a0 a1_0;show @Eq _ _ _;kernel_rfl) kN Tryz.func54 trivial
def Ao0 (K:Nat)(a0:List A9):Nat->(List A9)->Int->Int->Option (Bool)
 |0,_,_,_=>none
 |n1+1,v1,v2,v3=>(bif (decide (v3<v2))then(if(0:Int)≤v3∧v3<(v1.length:Int)then(if(0:Int)≤0∧0≤v3∧v3≤(a0.length:Int)then((Ag9 K ((a0.drop (0:Int).toNat).take (v3 - 0).toNat) (gt v1 v3)).bind fun r4=>(bif r4 then some false else(Ao0 K a0 n1 v1 v2 (Aoa .i64 v3 1))))else none)else none)else some true)
def At8 (K:Nat)(a0:List A9):Option (Bool):=(Ao0 K a0 K a0 (a0.length:Int) 0)
def s_113:Sig:=⟨[.v 41],[.v 4],true⟩
def Bp5 (K:Nat):Gb tyU:=⟨s_113,At8 K⟩
def Bhr (K:Nat):=xF s_113 [(54,Bp4 K)] [] 18 [] [(4,[.frzB 104 89])] [] [] [.tmp 2]
def A32:E5:=⟨[(0,.v 41),(5,.v 41),(6,.v 2),(7,.v 2)],[]⟩
def A33 (K:Nat)(n:Nat)(q:PT A32):Rt s_113:=Ao0 K q.1 n q.2.1 q.2.2.1 q.2.2.2.1
theorem Bhs (K:Nat):AtL (Bhr K) (fun n=>[]) [] (bd Tryz.f17) 26 (A33 K):=fun n q=>by kernel_rfl
theorem Bht (K:Nat):XF [.tmp 2] s_113 18 [] (Bhr K):=xkF (gC (Bt5 K) gN) oN
theorem Bhu (K:Nat)(n:Nat):CF [.tmp 2] s_113 18 [] (bd Tryz.f17) [] 26 (ar A32 (A33 K n)):=
 Aeh (Bht K) (Bhs K) (fun n=>kN) n
theorem Bt6 (K:Nat):OkF 17 (Bp5 K):=
 Aa6 (x:=Bhr K) (L:=[(26,ar A32 (A33 K K))]) (c0:=bd Tryz.f17) (Bht K) (by intro a0;show @Eq _ _ _;kernel_rfl) (kC (Bhu K K) kN) Tryz.func17 trivial
def Ap3 (K:Nat)(a0:A9)(a1:A9):Option (Bool):=((Avb K a0 a1).bind fun r1=>some (!r1))
def Bp6:Sig:=⟨[.v 89,.r 89],[.v 4],true⟩
def Bp7 (K:Nat):Gb tyU:=⟨Bp6,Ap3 K⟩
def B1b (K:Nat):=xF Bp6 [(59,Bhj K)] [] 8 [] [] [] [] [.tmp 3]
theorem Bt7 (K:Nat):OkF 230 (Bp7 K):=
 Aa6 (x:=B1b K) (L:=[]) (c0:=bd Tryz.f230) (xkF (gC (Bhm K) gN) oN) (by intro a0 a1;show @Eq _ _ _;kernel_rfl) kN Tryz.func230 trivial
def Aeg (K:Nat)(a0:List A9)(a1_0:A9):Nat->Int->Int->Option (Int)
 |0,_,_=>none
 |n1+1,v1,v2=>(bif (decide (v2<v1))then(if(0:Int)≤v2∧v2<(a0.length:Int)then((Ap3 K (gt a0 v2) a1_0).bind fun r3=>(bif r3 then some v2 else(Aeg K a0 a1_0 n1 v1 (Aoa .i64 v2 1))))else none)else some (-1))
def Ala (K:Nat)(a0:List A9)(a1_0:A9):Option (Int):=(Aeg K a0 a1_0 K (a0.length:Int) 0)
def s_115:Sig:=⟨[.v 41,.f 230 [] [89]],[.v 3],true⟩
def Bp8 (K:Nat):Gb tyU:=⟨s_115,Ala K⟩
def Bhv (K:Nat):=xF s_115 [(230,Bp7 K)] [] 19 [] [] [] [] [.tmp 4]
def A34:E5:=⟨[(0,.v 41),(1,.f 230 [] [89]),(7,.v 2),(8,.v 2)],[]⟩
def A35 (K:Nat)(n:Nat)(q:PT A34):Rt s_115:=Aeg K q.1 q.2.1 n q.2.2.1 q.2.2.2.1
theorem Bhw (K:Nat):AtL (Bhv K) (fun n=>[]) [] (bd Tryz.f122) 26 (A35 K):=fun n q=>by kernel_rfl
theorem Bhx (K:Nat):XF [.tmp 4] s_115 19 [] (Bhv K):=xkF (gC (Bt7 K) gN) oN
theorem Bhy (K:Nat)(n:Nat):CF [.tmp 4] s_115 19 [] (bd Tryz.f122) [] 26 (ar A34 (A35 K n)):=
 Aeh (Bhx K) (Bhw K) (fun n=>kN) n
theorem Bt8 (K:Nat):OkF 122 (Bp8 K):=
 Aa6 (x:=Bhv K) (L:=[(26,ar A34 (A35 K K))]) (c0:=bd Tryz.f122) (Bhx K) (by intro a0 a1_0;show @Eq _ _ _;kernel_rfl) (kC (Bhy K K) kN) Tryz.func122 trivial
def Ag1 (K:Nat)(a0:List A9)(a1_0:A9):Option (Bool):=((Ala K a0 a1_0).bind fun r1=>some (decide (r1≥0)))
def Bp9:Sig:=⟨[.v 41,.f 230 [] [89]],[.v 4],true⟩
def Bqa (K:Nat):Gb tyU:=⟨Bp9,Ag1 K⟩
def B1c (K:Nat):=xF Bp9 [(122,Bp8 K)] [] 9 [] [] [] [] [.tmp 4]
theorem Bt9 (K:Nat):OkF 54 (Bqa K):=
 Aa6 (x:=B1c K) (L:=[]) (c0:=bd Tryz.f54) (xkF (gC (Bt8 K) gN) oN) (by intro a0 a1_0;show @Eq _ _ _;kernel_rfl) kN Tryz.func54 trivial
def Ap4 (K:Nat)(v1:List Ba)(v2:Int)(v3:Int)(v4:Int)(v5:Int)(v6:Int)(v7:Int)(v8:Int)(v9:Int)(v10:List Int)(v11:List Int)(v12:List Int)(v13:List Ba)(v14:List Ax)(v15:List Int)(C1:(List Ba)->Int->Int->Int->Int->Int->Int->Int->Int->(List Int)->(List Int)->(List Int)->(List Ba)->(List Ax)->(List Int)->Option (Bool)):Option (Bool):=(C1 v1 v2 (Aoa .i64 v3 1) v4 v5 v6 v7 v8 v9 v10 v11 v12 v13 v14 v15)
def Ahe (K:Nat):Nat->(List Ba)->Int->Int->Int->Int->Int->Int->Int->Int->(List Int)->(List Int)->(List Int)->(List Ba)->(List Ax)->(List Int)->Option (Bool)
 |0,_,_,_,_,_,_,_,_,_,_,_,_,_,_,_=>none
 |n1+1,v1,v2,v3,v4,v5,v6,v7,v8,v9,v10,v11,v12,v13,v14,v15=>(bif (decide (v3<v2))then(if(0:Int)≤v3∧v3<(v1.length:Int)then((Ag3 K ((gt v1 v3).Ae)).bind fun r16=>((Eu K r16).bind fun r17=>(if r17.length=r16.length then((Av8 K (Er.mk v4 v5 v6 v7 v8 v9) (gt v1 v3)).bind fun r18=>(bif r18 then((Au9 K (Dw.mk v10 v11 v12) v3).bind fun r19=>((Aiz K r17 r19).bind fun r20=>(bif r20 then((At7 K (Er.mk v4 v5 v6 v7 v8 v9) (gt v1 v3)).bind fun r21=>(bif r21 then((At8 K ((gt v1 v3).Ea)).bind fun r22=>(bif (!r22)then some false else(bif (((gt v1 v3).Pq)==0)then(Ap4 K v1 v2 v3 v4 v5 v6 v7 v8 v9 v10 v11 v12 v13 v14 v15 (Ahe K n1))else(if(0:Int)≤((A9.mk (Aoa .i64 (Aoc .i64 (Aob .i64 ((gt v1 v3).Pq) 1) v5) ((gt v1 v3).Gt)) (Aob .i64 v5 ((gt v1 v3).Gt)) 0).fAt)∧((A9.mk (Aoa .i64 (Aoc .i64 (Aob .i64 ((gt v1 v3).Pq) 1) v5) ((gt v1 v3).Gt)) (Aob .i64 v5 ((gt v1 v3).Gt)) 0).fAt)≤(Aoa .i64 ((A9.mk (Aoa .i64 (Aoc .i64 (Aob .i64 ((gt v1 v3).Pq) 1) v5) ((gt v1 v3).Gt)) (Aob .i64 v5 ((gt v1 v3).Gt)) 0).fAt) ((A9.mk (Aoa .i64 (Aoc .i64 (Aob .i64 ((gt v1 v3).Pq) 1) v5) ((gt v1 v3).Gt)) (Aob .i64 v5 ((gt v1 v3).Gt)) 0).Vu))∧(Aoa .i64 ((A9.mk (Aoa .i64 (Aoc .i64 (Aob .i64 ((gt v1 v3).Pq) 1) v5) ((gt v1 v3).Gt)) (Aob .i64 v5 ((gt v1 v3).Gt)) 0).fAt) ((A9.mk (Aoa .i64 (Aoc .i64 (Aob .i64 ((gt v1 v3).Pq) 1) v5) ((gt v1 v3).Gt)) (Aob .i64 v5 ((gt v1 v3).Gt)) 0).Vu))≤(v10.length:Int)then((Ar6 K ((v10.drop ((A9.mk (Aoa .i64 (Aoc .i64 (Aob .i64 ((gt v1 v3).Pq) 1) v5) ((gt v1 v3).Gt)) (Aob .i64 v5 ((gt v1 v3).Gt)) 0).fAt).toNat).take ((Aoa .i64 ((A9.mk (Aoa .i64 (Aoc .i64 (Aob .i64 ((gt v1 v3).Pq) 1) v5) ((gt v1 v3).Gt)) (Aob .i64 v5 ((gt v1 v3).Gt)) 0).fAt) ((A9.mk (Aoa .i64 (Aoc .i64 (Aob .i64 ((gt v1 v3).Pq) 1) v5) ((gt v1 v3).Gt)) (Aob .i64 v5 ((gt v1 v3).Gt)) 0).Vu)) - ((A9.mk (Aoa .i64 (Aoc .i64 (Aob .i64 ((gt v1 v3).Pq) 1) v5) ((gt v1 v3).Gt)) (Aob .i64 v5 ((gt v1 v3).Gt)) 0).fAt)).toNat)).bind fun r23=>(bif r23 then((Ag1 K ((gt v1 v3).Ea) (A9.mk (Aoa .i64 (Aoc .i64 (Aob .i64 ((gt v1 v3).Pq) 1) v5) ((gt v1 v3).Gt)) (Aob .i64 v5 ((gt v1 v3).Gt)) 0)).bind fun r24=>(bif r24 then some false else(Ap4 K v1 v2 v3 v4 v5 v6 v7 v8 v9 v10 v11 v12 v13 v14 v15 (Ahe K n1))))else some false))else none))))else some false))else some false)))else some false))else none)))else none)else some true)
def Aqx (K:Nat)(a0:Eb):Option (Bool):=(Ahe K K a0.fL (a0.fL.length:Int) 0 a0.fC.Ae a0.fC.Eg a0.fC.C0 a0.fC.E9 a0.fC.C1 a0.fC.Eh a0.fP.Fy a0.fP.Hh a0.fP.Fz a0.fL a0.fQ a0.Pr)
def s_117:Sig:=⟨[.v 32],[.v 4],true⟩
def Bqb (K:Nat):Gb tyU:=⟨s_117,Aqx K⟩
def Bcx (K:Nat):=xF s_117 [(15,Bpz K),(16,Bpt K),(17,Bp5 K),(54,Bqa K),(160,Bdw K),(167,Bps K),(226,Bnv K),(228,Ev K),(229,Btm K)] [] 87 [23,24,25,31,32,33,34,38,39,40,41,78,79,80] [(10,[.frzB 106 89])] [] [211] [.tmp 2]
def A14:E5:=⟨[(1,.p 101),(8,.v 29),(9,.v 2),(10,.v 2)],[(101,.box [.v 2,.v 2,.v 2,.v 2,.v 2,.v 2,.v 22,.v 26,.v 26,.v 29,.v 30,.v 26])]⟩
def Awk:E5:=⟨[(1,.p 101),(8,.v 29),(9,.v 2),(10,.v 2)],[(101,.box [.v 2,.v 2,.v 2,.v 2,.v 2,.v 2,.v 22,.v 26,.v 26,.v 29,.v 30,.v 26])]⟩
def A15 (K:Nat)(C26:CT Awk s_117)(q:PT A14):Rt s_117:=Ap4 K q.1 q.2.1 q.2.2.1 q.2.2.2.1 q.2.2.2.2.1 q.2.2.2.2.2.1 q.2.2.2.2.2.2.1 q.2.2.2.2.2.2.2.1 q.2.2.2.2.2.2.2.2.1 q.2.2.2.2.2.2.2.2.2.1 q.2.2.2.2.2.2.2.2.2.2.1 q.2.2.2.2.2.2.2.2.2.2.2.1 q.2.2.2.2.2.2.2.2.2.2.2.2.1 q.2.2.2.2.2.2.2.2.2.2.2.2.2.1 q.2.2.2.2.2.2.2.2.2.2.2.2.2.2.1 (fun v1 v2 v3 v4 v5 v6 v7 v8 v9 v10 v11 v12 v13 v14 v15=>C26 (v1,v2,v3,v4,v5,v6,v7,v8,v9,v10,v11,v12,v13,v14,v15,()))
def Ay8 (K:Nat)(n:Nat)(q:PT Awk):Rt s_117:=Ahe K n q.1 q.2.1 q.2.2.1 q.2.2.2.1 q.2.2.2.2.1 q.2.2.2.2.2.1 q.2.2.2.2.2.2.1 q.2.2.2.2.2.2.2.1 q.2.2.2.2.2.2.2.2.1 q.2.2.2.2.2.2.2.2.2.1 q.2.2.2.2.2.2.2.2.2.2.1 q.2.2.2.2.2.2.2.2.2.2.2.1 q.2.2.2.2.2.2.2.2.2.2.2.2.1 q.2.2.2.2.2.2.2.2.2.2.2.2.2.1 q.2.2.2.2.2.2.2.2.2.2.2.2.2.2.1
theorem Bd1 (K:Nat)(C26:CT Awk s_117):AtJ (Bcx K) [] [(26,ar Awk C26)] (bd Tryz.f154) 211 (A15 K C26):=fun q=>by kernel_rfl
theorem Bhz (K:Nat):AtL (Bcx K) (fun n=>[(211,ar A14 (A15 K (Ay8 K n)))]) [] (bd Tryz.f154) 26 (Ay8 K):=fun n q=>by kernel_rfl
theorem Bbj (K:Nat):XF [.tmp 2] s_117 87 [211] (Bcx K):=xkF (gC (Bt2 K) (gC (Bty K) (gC (Bt6 K) (gC (Bt9 K) (gC (A90 K) (gC (Btx K) (gC (Bgz K) (gC (V7 K) (gC (Bpg K) gN))))))))) oN
theorem Bd2 (K:Nat)(C26:CT Awk s_117):CF [.tmp 2] s_117 87 [211] (bd Tryz.f154) [(26,ar Awk C26)] 211 (ar A14 (A15 K C26)):=
 Apk (Bbj K) (Bd1 K C26) kN
theorem Bh0 (K:Nat)(n:Nat):CF [.tmp 2] s_117 87 [211] (bd Tryz.f154) [] 26 (ar Awk (Ay8 K n)):=
 Aeh (Bbj K) (Bhz K) (fun n=>(kC (Bd2 K (Ay8 K n)) kN)) n
theorem Bua (K:Nat):OkF 154 (Bqb K):=
 Aa6 (x:=Bcx K) (L:=[(26,ar Awk (Ay8 K K))]) (c0:=bd Tryz.f154) (Bbj K) (by intro a0;show @Eq _ _ _;kernel_rfl) (kC (Bh0 K K) kN) Tryz.func154 trivial
def An3 (K:Nat)(a0:List Ba)(a1:Int):Option (Bool):=((Abk K a1 0 (Aob .i64 (a0.length:Int) 1)).bind fun r1=>some r1)
def Bqc:Sig:=⟨[.v 29,.v 3],[.v 4],true⟩
def A36 (K:Nat):Gb tyU:=⟨Bqc,An3 K⟩
def B1d (K:Nat):=xF Bqc [(88,A3r K)] [] 10 [] [] [] [] [.tmp 4]
theorem A16 (K:Nat):OkF 171 (A36 K):=
 Aa6 (x:=B1d K) (L:=[]) (c0:=bd Tryz.f171) (xkF (gC (Az0 K) gN) oN) (by intro a0 a1;show @Eq _ _ _;kernel_rfl) kN Tryz.func171 trivial
def Ar7 (K:Nat)(a0:List Ba)(a1:Int):Option (Bool):=(bif (a1==0)then some true else((An3 K a0 (Aob .i64 a1 1)).bind fun r1=>(bif r1 then(if(0:Int)≤(Aob .i64 a1 1)∧(Aob .i64 a1 1)<(a0.length:Int)then some (((gt a0 (Aob .i64 a1 1)).Hh)==1)else none)else some false)))
def Bqd:Sig:=⟨[.v 29,.v 3],[.v 4],true⟩
def Bqe (K:Nat):Gb tyU:=⟨Bqd,Ar7 K⟩
def B1e (K:Nat):=xF Bqd [(171,A36 K)] [] 22 [6,7,11,12] [] [] [] [.tmp 4]
theorem Bub (K:Nat):OkF 271 (Bqe K):=
 Aa6 (x:=B1e K) (L:=[]) (c0:=bd Tryz.f271) (xkF (gC (A16 K) gN) oN) (by intro a0 a1;show @Eq _ _ _;kernel_rfl) kN Tryz.func271 trivial
def Aqb (K:Nat)(a0:List Ba)(a1:Int):Option (Bool):=(if(0:Int)≤a1∧a1<(a0.length:Int)then((An3 K a0 (Aob .i64 ((gt a0 a1).fUp) 1)).bind fun r1=>(bif r1 then(if(0:Int)≤(Aob .i64 ((gt a0 a1).fUp) 1)∧(Aob .i64 ((gt a0 a1).fUp) 1)<(a0.length:Int)then(bif (((gt a0 (Aob .i64 ((gt a0 a1).fUp) 1)).Hh)==1)then(if(0:Int)≤(Aob .i64 ((gt a0 a1).fUp) 1)∧(Aob .i64 ((gt a0 a1).fUp) 1)<(a0.length:Int)then(if(0:Int)≤a1∧a1<(a0.length:Int)then some (((gt a0 (Aob .i64 ((gt a0 a1).fUp) 1)).Ly)==((gt a0 a1).Gq))else none)else none)else some false)else none)else some false))else none)
def Bqf:Sig:=⟨[.v 29,.v 3],[.v 4],true⟩
def Bcy (K:Nat):Gb tyU:=⟨Bqf,Aqb K⟩
def B1f (K:Nat):=xF Bqf [(171,A36 K)] [] 36 [14,15,21,22,23] [] [] [] [.tmp 4]
theorem Bbk (K:Nat):OkF 233 (Bcy K):=
 Aa6 (x:=B1f K) (L:=[]) (c0:=bd Tryz.f233) (xkF (gC (A16 K) gN) oN) (by intro a0 a1;show @Eq _ _ _;kernel_rfl) kN Tryz.func233 trivial
def Arf (K:Nat)(a0:List Ba)(a1:Int)(v8:Int)(v12:Int):Option (Bool):=(bif (v12 != 0)then some true else((Aqb K a0 a1).bind fun r18=>(bif r18 then(if(0:Int)≤(Aob .i64 v8 1)∧(Aob .i64 v8 1)<(a0.length:Int)then some (((gt a0 (Aob .i64 v8 1)).Bt)==(Aoa .i64 a1 1))else none)else some true)))
def Arg (K:Nat)(a0:List Ba)(a1:Int)(v8:Int)(v12:Int):Option (Bool):=(bif (v12 != 0)then(if(0:Int)≤(Aob .i64 v12 1)∧(Aob .i64 v12 1)<(a0.length:Int)then(bif (((gt a0 (Aob .i64 v12 1)).Gr) != (Aoa .i64 a1 1))then some false else(Arf K a0 a1 v8 v12))else none)else(Arf K a0 a1 v8 v12))
def Arh (K:Nat)(a0:List Ba)(a1:Int)(v8:Int)(v9:Int)(v11:Int)(v12:Int):Option (Bool):=(bif (v11 != 0)then(if(0:Int)≤(Aob .i64 v11 1)∧(Aob .i64 v11 1)<(a0.length:Int)then(bif (((gt a0 (Aob .i64 v11 1)).Gs) != (Aoa .i64 a1 1))then some false else(bif (((gt a0 (Aob .i64 v11 1)).fUp) != v8)then some false else(bif (((gt a0 (Aob .i64 v11 1)).Gq) != v9)then some false else(Arg K a0 a1 v8 v12))))else none)else(Arg K a0 a1 v8 v12))
def Ari (K:Nat)(a0:List Ba)(a1:Int)(v5:Int)(v6:Int)(v7:Int)(v8:Int)(v9:Int)(v10:Int)(v11:Int)(v12:Int)(v13:List Int)(v14:Int)(v15:Int)(v16:List A9)(v17:List Int):Option (Bool):=(bif (v10 != 0)then(if(0:Int)≤(Aob .i64 v10 1)∧(Aob .i64 v10 1)<(a0.length:Int)then(bif (((gt a0 (Aob .i64 v10 1)).Gs) != 0)then some false else(bif (((gt a0 (Aob .i64 v10 1)).fUp) != (Aoa .i64 a1 1))then some false else(bif (((gt a0 (Aob .i64 v10 1)).Gq) != v7)then some false else(Arh K a0 a1 v8 v9 v11 v12))))else none)else(Arh K a0 a1 v8 v9 v11 v12))
def Avc (K:Nat)(a0:List Ba)(a1:Int):Option (Bool):=(if(0:Int)≤a1∧a1<(a0.length:Int)then((Ar7 K a0 ((gt a0 a1).Bt)).bind fun r1=>(bif r1 then((Ar7 K a0 ((gt a0 a1).Gr)).bind fun r2=>(bif r2 then((Ar7 K a0 ((gt a0 a1).Gs)).bind fun r3=>(bif r3 then(bif (((gt a0 a1).fUp) != 0)then((An3 K a0 (Aob .i64 ((gt a0 a1).fUp) 1)).bind fun r4=>(bif (!r4)then some false else(Ari K a0 a1 ((gt a0 a1).Hh) ((gt a0 a1).C2) ((gt a0 a1).Ly) ((gt a0 a1).fUp) ((gt a0 a1).Gq) ((gt a0 a1).Bt) ((gt a0 a1).Gr) ((gt a0 a1).Gs) ((gt a0 a1).Ae) ((gt a0 a1).Pq) ((gt a0 a1).Gt) ((gt a0 a1).Ea) ((gt a0 a1).Dg))))else(Ari K a0 a1 ((gt a0 a1).Hh) ((gt a0 a1).C2) ((gt a0 a1).Ly) ((gt a0 a1).fUp) ((gt a0 a1).Gq) ((gt a0 a1).Bt) ((gt a0 a1).Gr) ((gt a0 a1).Gs) ((gt a0 a1).Ae) ((gt a0 a1).Pq) ((gt a0 a1).Gt) ((gt a0 a1).Ea) ((gt a0 a1).Dg)))else some false))else some false))else some false))else none)
def s_121:Sig:=⟨[.v 29,.v 3],[.v 4],true⟩
def Bqg (K:Nat):Gb tyU:=⟨s_121,Avc K⟩
def A6y (K:Nat):=xF s_121 [(171,A36 K),(233,Bcy K),(271,Bqe K)] [] 134 [15,16,17,21,22,23,24,28,29,30,31,34,35,55,56,61,62,63,83,84,89,90,91,100,101,115,116,119,120,121,122] [] [] [7,15,31,63] [.tmp 4]
def A37:E5:=⟨[(0,.v 29),(1,.v 2),(5,.p 105)],[(105,.box [.v 2,.v 2,.v 2,.v 2,.v 2,.v 2,.v 2,.v 2,.v 26,.v 2,.v 2,.v 41,.v 26])]⟩
def A38:E5:=⟨[(0,.v 29),(1,.v 2),(5,.p 105)],[(105,.box [.v 2,.v 2,.v 2,.v 2,.v 2,.v 2,.v 2,.v 2,.v 26,.v 2,.v 2,.v 41,.v 26])]⟩
def A39:E5:=⟨[(0,.v 29),(1,.v 2),(5,.p 105)],[(105,.box [.v 2,.v 2,.v 2,.v 2,.v 2,.v 2,.v 2,.v 2,.v 26,.v 2,.v 2,.v 41,.v 26])]⟩
def A8x:E5:=⟨[(0,.v 29),(1,.v 2),(5,.p 105)],[(105,.box [.v 2,.v 2,.v 2,.v 2,.v 2,.v 2,.v 2,.v 2,.v 26,.v 2,.v 2,.v 41,.v 26])]⟩
def A4a (K:Nat)(q:PT A37):Rt s_121:=Arf K q.1 q.2.1 q.2.2.2.2.2.1 q.2.2.2.2.2.2.2.2.2.1
def A4b (K:Nat)(q:PT A38):Rt s_121:=Arg K q.1 q.2.1 q.2.2.2.2.2.1 q.2.2.2.2.2.2.2.2.2.1
def A4c (K:Nat)(q:PT A39):Rt s_121:=Arh K q.1 q.2.1 q.2.2.2.2.2.1 q.2.2.2.2.2.2.1 q.2.2.2.2.2.2.2.2.1 q.2.2.2.2.2.2.2.2.2.1
def A8y (K:Nat)(q:PT A8x):Rt s_121:=Ari K q.1 q.2.1 q.2.2.1 q.2.2.2.1 q.2.2.2.2.1 q.2.2.2.2.2.1 q.2.2.2.2.2.2.1 q.2.2.2.2.2.2.2.1 q.2.2.2.2.2.2.2.2.1 q.2.2.2.2.2.2.2.2.2.1 q.2.2.2.2.2.2.2.2.2.2.1 q.2.2.2.2.2.2.2.2.2.2.2.1 q.2.2.2.2.2.2.2.2.2.2.2.2.1 q.2.2.2.2.2.2.2.2.2.2.2.2.2.1 q.2.2.2.2.2.2.2.2.2.2.2.2.2.2.1
theorem Bh1 (K:Nat):AtJ (A6y K) [] [] (bd Tryz.f231) 63 (A4a K):=fun q=>by kernel_rfl
theorem Bh2 (K:Nat):AtJ (A6y K) [(63,ar A37 (A4a K))] [] (bd Tryz.f231) 31 (A4b K):=fun q=>by kernel_rfl
theorem Bh3 (K:Nat):AtJ (A6y K) [(31,ar A38 (A4b K))] [] (bd Tryz.f231) 15 (A4c K):=fun q=>by kernel_rfl
theorem Boc (K:Nat):AtJ (A6y K) [(15,ar A39 (A4c K))] [] (bd Tryz.f231) 7 (A8y K):=fun q=>by kernel_rfl
theorem A4d (K:Nat):XF [.tmp 4] s_121 134 [7,15,31,63] (A6y K):=xkF (gC (A16 K) (gC (Bbk K) (gC (Bub K) gN))) oN
theorem Bh4 (K:Nat):CF [.tmp 4] s_121 134 [7,15,31,63] (bd Tryz.f231) [] 63 (ar A37 (A4a K)):=
 Apk (A4d K) (Bh1 K) kN
theorem Bh5 (K:Nat):CF [.tmp 4] s_121 134 [7,15,31,63] (bd Tryz.f231) [] 31 (ar A38 (A4b K)):=
 Apk (A4d K) (Bh2 K) (kC (Bh4 K) kN)
theorem Bh6 (K:Nat):CF [.tmp 4] s_121 134 [7,15,31,63] (bd Tryz.f231) [] 15 (ar A39 (A4c K)):=
 Apk (A4d K) (Bh3 K) (kC (Bh5 K) kN)
theorem Bod (K:Nat):CF [.tmp 4] s_121 134 [7,15,31,63] (bd Tryz.f231) [] 7 (ar A8x (A8y K)):=
 Apk (A4d K) (Boc K) (kC (Bh6 K) kN)
theorem Buc (K:Nat):OkF 231 (Bqg K):=
 Aa6 (x:=A6y K) (L:=[(7,ar A8x (A8y K))]) (c0:=bd Tryz.f231) (A4d K) (by intro a0 a1;show @Eq _ _ _;kernel_rfl) (kC (Bod K) kN) Tryz.func231 trivial
def Atp (K:Nat)(a0:List Ba):Nat->Int->(List Int)->Option ((List Int))
 |0,_,_=>none
 |n1+1,v1,v2=>((An3 K a0 v1).bind fun r3=>(bif r3 then(bif (decide ((v2.length:Int)<(a0.length:Int)))then(if(v2++([v1]:List Int)).length*8≤140737488355328∧(v2++([v1]:List Int)).length≤maxLen then(if(0:Int)≤v1∧v1<(a0.length:Int)then(Atp K a0 n1 (Aob .i64 ((gt a0 v1).fUp) 1) (v2++([v1]:List Int)))else none)else none)else some v2)else some v2))
def Aun (K:Nat)(a0:List Ba)(a1:Int):Option ((List Int)):=(Atp K a0 K a1 ([]:List Int))
def s_122:Sig:=⟨[.v 29,.v 3],[.n 26 true],true⟩
def Bcz (K:Nat):Gb tyU:=⟨s_122,Aun K⟩
def Bh7 (K:Nat):=xF s_122 [(171,A36 K)] [] 28 [9,10] [] [] [] [.tmp 4]
def A4e:E5:=⟨[(0,.v 29),(1,.v 2),(5,.o 1005 3 true)],[]⟩
def A4f (K:Nat)(n:Nat)(q:PT A4e):Rt s_122:=Atp K q.1 n q.2.1 q.2.2.1
theorem Bh8 (K:Nat):AtL (Bh7 K) (fun n=>[]) [] (bd Tryz.f232) 28 (A4f K):=fun n q=>by kernel_rfl
theorem Bh9 (K:Nat):XF [.tmp 4] s_122 28 [] (Bh7 K):=xkF (gC (A16 K) gN) oN
theorem Bia (K:Nat)(n:Nat):CF [.tmp 4] s_122 28 [] (bd Tryz.f232) [] 28 (ar A4e (A4f K n)):=
 Aeh (Bh9 K) (Bh8 K) (fun n=>kN) n
theorem Bbl (K:Nat):OkF 232 (Bcz K):=
 Aa6 (x:=Bh7 K) (L:=[(28,ar A4e (A4f K K))]) (c0:=bd Tryz.f232) (Bh9 K) (by intro a0 a1;show @Eq _ _ _;kernel_rfl) (kC (Bia K K) kN) Tryz.func232 trivial
def At9 (K:Nat)(v1:List Ba)(v2:Int)(v3:Int)(C1:(List Ba)->Int->Int->Option (Bool)):Option (Bool):=(C1 v1 v2 (Aoa .i64 v3 1))
def Apg (K:Nat)(a0:List Ba):Nat->(List Ba)->Int->Int->Option (Bool)
 |0,_,_,_=>none
 |n1+1,v1,v2,v3=>(bif (decide (v3<v2))then(if(0:Int)≤v3∧v3<(v1.length:Int)then(bif (((gt v1 v3).Hh) != 1)then(At9 K v1 v2 v3 (Apg K a0 n1))else((Avc K a0 v3).bind fun r4=>(bif (!r4)then some false else((Aun K a0 v3).bind fun r5=>(bif (decide ((r5.length:Int)>4))then some false else(if(0:Int)≤(Aob .i64 (r5.length:Int) 1)∧(Aob .i64 (r5.length:Int) 1)<(r5.length:Int)then((Aqb K a0 (gt r5 (Aob .i64 (r5.length:Int) 1))).bind fun r6=>(bif r6 then some false else(At9 K v1 v2 v3 (Apg K a0 n1))))else none))))))else none)else some true)
def Av9 (K:Nat)(a0:List Ba):Option (Bool):=(Apg K a0 K a0 (a0.length:Int) 0)
def s_123:Sig:=⟨[.v 29],[.v 4],true⟩
def Bqh (K:Nat):Gb tyU:=⟨s_123,Av9 K⟩
def Bc0 (K:Nat):=xF s_123 [(231,Bqg K),(232,Bcz K),(233,Bcy K)] [] 37 [25,26] [] [] [211] [.tmp 2]
def A17:E5:=⟨[(0,.v 29),(6,.v 29),(7,.v 2),(8,.v 2)],[]⟩
def Awl:E5:=⟨[(0,.v 29),(6,.v 29),(7,.v 2),(8,.v 2)],[]⟩
def A18 (K:Nat)(C26:CT Awl s_123)(q:PT A17):Rt s_123:=At9 K q.2.1 q.2.2.1 q.2.2.2.1 (fun v1 v2 v3=>C26 (q.1,v1,v2,v3,()))
def Ay9 (K:Nat)(n:Nat)(q:PT Awl):Rt s_123:=Apg K q.1 n q.2.1 q.2.2.1 q.2.2.2.1
theorem Bd3 (K:Nat)(C26:CT Awl s_123):AtJ (Bc0 K) [] [(26,ar Awl C26)] (bd Tryz.f155) 211 (A18 K C26):=fun q=>by kernel_rfl
theorem Bib (K:Nat):AtL (Bc0 K) (fun n=>[(211,ar A17 (A18 K (Ay9 K n)))]) [] (bd Tryz.f155) 26 (Ay9 K):=fun n q=>by kernel_rfl
theorem Bbm (K:Nat):XF [.tmp 2] s_123 37 [211] (Bc0 K):=xkF (gC (Buc K) (gC (Bbl K) (gC (Bbk K) gN))) oN
theorem Bd4 (K:Nat)(C26:CT Awl s_123):CF [.tmp 2] s_123 37 [211] (bd Tryz.f155) [(26,ar Awl C26)] 211 (ar A17 (A18 K C26)):=
 Apk (Bbm K) (Bd3 K C26) kN
theorem Bic (K:Nat)(n:Nat):CF [.tmp 2] s_123 37 [211] (bd Tryz.f155) [] 26 (ar Awl (Ay9 K n)):=
 Aeh (Bbm K) (Bib K) (fun n=>(kC (Bd4 K (Ay9 K n)) kN)) n
theorem Bud (K:Nat):OkF 155 (Bqh K):=
 Aa6 (x:=Bc0 K) (L:=[(26,ar Awl (Ay9 K K))]) (c0:=bd Tryz.f155) (Bbm K) (by intro a0;show @Eq _ _ _;kernel_rfl) (kC (Bic K K) kN) Tryz.func155 trivial
def Aqs (K:Nat)(a0:List Ba)(a1:Int):Option (Bool):=(if(0:Int)≤a1∧a1<(a0.length:Int)then(bif (((gt a0 a1).Hh)==1)then(if(0:Int)≤a1∧a1<(a0.length:Int)then(bif (((gt a0 a1).fUp) != 0)then((Aqb K a0 a1).bind fun r1=>some (!r1))else some false)else none)else some false)else none)
def Bqi:Sig:=⟨[.v 29,.v 3],[.v 4],true⟩
def Bqj (K:Nat):Gb tyU:=⟨Bqi,Aqs K⟩
def B1g (K:Nat):=xF Bqi [(233,Bcy K)] [] 25 [10,11,17,18,19] [] [] [] [.tmp 4]
theorem Bue (K:Nat):OkF 235 (Bqj K):=
 Aa6 (x:=B1g K) (L:=[]) (c0:=bd Tryz.f235) (xkF (gC (Bbk K) gN) oN) (by intro a0 a1;show @Eq _ _ _;kernel_rfl) kN Tryz.func235 trivial
def Avd (K:Nat)(a0:Er)(a1:Ax):Option (Bool):=((Ar5 K a0).bind fun r1=>(bif r1 then((Abk K a1.A5 0 a0.C0).bind fun r2=>(bif r2 then((Abk K a1.Bt 0 a0.C0).bind fun r3=>(bif r3 then(bif (decide ((a1.Dg.length:Int)≤6))then((Aqr K a1.Dg).bind fun r4=>(bif r4 then((Ar1 K a0 a1.Ae).bind fun r5=>(bif r5 then((Abk K a1.Gu 0 (Aob .i64 a0.Eg 1)).bind fun r6=>(bif r6 then(bif (decide ((a1.Ae.length:Int)>0))then some true else some (a1.Gu==0))else some false))else some false))else some false))else some false)else some false))else some false))else some false))
def Bqk:Sig:=⟨[.v 25,.v 159],[.v 4],true⟩
def Bql (K:Nat):Gb tyU:=⟨Bqk,Avd K⟩
def B1h (K:Nat):=xF Bqk [(88,A3r K),(157,Bn9 K),(198,Bgy K),(240,Btq K)] [] 57 [6,7,12,13,14,19,20,21,25,26,27,30,31,32,36,37,38,44,45,46,50,51] [] [] [] [.tmp 4]
theorem Buf (K:Nat):OkF 234 (Bql K):=
 Aa6 (x:=B1h K) (L:=[]) (c0:=bd Tryz.f234) (xkF (gC (Az0 K) (gC (Bg2 K) (gC (Bct K) (gC (Bpk K) gN)))) oN) (by intro a0 a1;show @Eq _ _ _;kernel_rfl) kN Tryz.func234 trivial
def Ar2 (K:Nat)(a0:List Ba):Nat->(List Int)->Int->Option ((List Int))
 |0,_,_=>none
 |n1+1,v1,v2=>((An3 K a0 v2).bind fun r3=>(bif r3 then(bif (decide ((v1.length:Int)<(a0.length:Int)))then(if(v1++([v2]:List Int)).length*8≤140737488355328∧(v1++([v2]:List Int)).length≤maxLen then(if(0:Int)≤v2∧v2<(a0.length:Int)then(Ar2 K a0 n1 (v1++([v2]:List Int)) (Aob .i64 ((gt a0 v2).Gr) 1))else none)else none)else some v1)else some v1))
def Awa (K:Nat)(a0:List Ba)(a1:Int):Option ((List Int)):=(Ar2 K a0 K ([]:List Int) (Aob .i64 a1 1))
def s_126:Sig:=⟨[.v 29,.v 3],[.n 26 true],true⟩
def Bqm (K:Nat):Gb tyU:=⟨s_126,Awa K⟩
def Bid (K:Nat):=xF s_126 [(171,A36 K)] [] 31 [12,13] [] [] [] [.tmp 4]
def A4g:E5:=⟨[(0,.v 29),(5,.o 1005 3 true),(6,.v 2)],[]⟩
def A4h (K:Nat)(n:Nat)(q:PT A4g):Rt s_126:=Ar2 K q.1 n q.2.1 q.2.2.1
theorem Bie (K:Nat):AtL (Bid K) (fun n=>[]) [] (bd Tryz.f206) 58 (A4h K):=fun n q=>by kernel_rfl
theorem Bif (K:Nat):XF [.tmp 4] s_126 31 [] (Bid K):=xkF (gC (A16 K) gN) oN
theorem Big (K:Nat)(n:Nat):CF [.tmp 4] s_126 31 [] (bd Tryz.f206) [] 58 (ar A4g (A4h K n)):=
 Aeh (Bif K) (Bie K) (fun n=>kN) n
theorem Bug (K:Nat):OkF 206 (Bqm K):=
 Aa6 (x:=Bid K) (L:=[(58,ar A4g (A4h K K))]) (c0:=bd Tryz.f206) (Bif K) (by intro a0 a1;show @Eq _ _ _;kernel_rfl) (kC (Big K K) kN) Tryz.func206 trivial
def Ai0 (K:Nat)(v4:List Ax)(v5:Int)(v6:Int)(v7:Int)(v8:Int)(v9:Int)(v10:Int)(v11:Int)(v12:Int)(v13:List Int)(v14:List Int)(v15:List Int)(v16:List Ba)(v17:List Ax)(v18:List Int)(v27:List Int)(v31:List Int)(r32:(List Int))(C1:(List Int)->(List Int)->(List Int)->(List Ax)->Int->Int->Int->Int->Int->Int->Int->Int->(List Int)->(List Int)->(List Int)->(List Ba)->(List Ax)->(List Int)->Option (Bool)):Nat->(List Int)->Int->Int->Option (Bool)
 |0,_,_,_=>none
 |n6+1,v33,v34,v35=>(bif (decide (v35<v34))then(if(0:Int)≤v35∧v35<(r32.length:Int)then(if(0:Int)≤(gt r32 v35)∧(gt r32 v35)<(v33.length:Int)then(if(0:Int)≤(gt r32 v35)∧(gt r32 v35)<(v33.length:Int)then((Aqs K v16 (gt r32 v35)).bind fun r36=>(bif (!r36)then some false else(Ai0 K v4 v5 v6 v7 v8 v9 v10 v11 v12 v13 v14 v15 v16 v17 v18 v27 v31 r32 C1 n6 (v33.set (gt r32 v35).toNat (Aoa .i64 (gt v33 (gt r32 v35)) 1)) v34 (Aoa .i64 v35 1))))else none)else none)else none)else(C1 v27 v31 v33 v4 v5 (Aoa .i64 v6 1) v7 v8 v9 v10 v11 v12 v13 v14 v15 v16 v17 v18))
def Ao3 (K:Nat)(v3:List Int)(v4:List Ax)(v5:Int)(v6:Int)(v7:Int)(v8:Int)(v9:Int)(v10:Int)(v11:Int)(v12:Int)(v13:List Int)(v14:List Int)(v15:List Int)(v16:List Ba)(v17:List Ax)(v18:List Int)(v23:Int)(v27:List Int)(v31:List Int)(C1:(List Int)->(List Int)->(List Int)->(List Ax)->Int->Int->Int->Int->Int->Int->Int->Int->(List Int)->(List Int)->(List Int)->(List Ba)->(List Ax)->(List Int)->Option (Bool)):Option (Bool):=((Awa K v16 v23).bind fun r32=>(Ai0 K v4 v5 v6 v7 v8 v9 v10 v11 v12 v13 v14 v15 v16 v17 v18 v27 v31 r32 (C1) K v3 (r32.length:Int) 0))
def Apa (K:Nat)(v3:List Int)(v4:List Ax)(v5:Int)(v6:Int)(v7:Int)(v8:Int)(v9:Int)(v10:Int)(v11:Int)(v12:Int)(v13:List Int)(v14:List Int)(v15:List Int)(v16:List Ba)(v17:List Ax)(v18:List Int)(v23:Int)(v27:List Int)(C1:(List Int)->(List Int)->(List Int)->(List Ax)->Int->Int->Int->Int->Int->Int->Int->Int->(List Int)->(List Int)->(List Int)->(List Ba)->(List Ax)->(List Int)->Option (Bool))(v31:List Int):Option (Bool):=(bif (decide (v23>0))then(if(0:Int)≤(Aob .i64 v23 1)∧(Aob .i64 v23 1)<(v16.length:Int)then(bif (((gt v16 (Aob .i64 v23 1)).Gs) != 0)then some false else(Ao3 K v3 v4 v5 v6 v7 v8 v9 v10 v11 v12 v13 v14 v15 v16 v17 v18 v23 v27 v31 (C1)))else none)else(Ao3 K v3 v4 v5 v6 v7 v8 v9 v10 v11 v12 v13 v14 v15 v16 v17 v18 v23 v27 v31 (C1)))
def Ai1 (K:Nat)(v2:List Int)(v3:List Int)(v4:List Ax)(v5:Int)(v6:Int)(v7:Int)(v8:Int)(v9:Int)(v10:Int)(v11:Int)(v12:Int)(v13:List Int)(v14:List Int)(v15:List Int)(v16:List Ba)(v17:List Ax)(v18:List Int)(v22:Int)(v23:Int)(v25:List Int)(C1:(List Int)->(List Int)->(List Int)->(List Ax)->Int->Int->Int->Int->Int->Int->Int->Int->(List Int)->(List Int)->(List Int)->(List Ba)->(List Ax)->(List Int)->Option (Bool)):Nat->(List Int)->Int->Int->(List Int)->Option (Bool)
 |0,_,_,_,_=>none
 |n3+1,v27,v28,v29,v30=>(bif (decide (v29<v28))then(if(0:Int)≤v29∧v29<(v25.length:Int)then(if(0:Int)≤(gt v25 v29)∧(gt v25 v29)<(v27.length:Int)then(if(0:Int)≤(gt v25 v29)∧(gt v25 v29)<(v27.length:Int)then(if(0:Int)≤(gt v25 v29)∧(gt v25 v29)<(v14.length:Int)then(bif ((gt v14 (gt v25 v29)) != 2)then some false else(Ai1 K v2 v3 v4 v5 v6 v7 v8 v9 v10 v11 v12 v13 v14 v15 v16 v17 v18 v22 v23 v25 C1 n3 (v27.set (gt v25 v29).toNat (Aoa .i64 (gt v27 (gt v25 v29)) 1)) v28 (Aoa .i64 v29 1) v30))else none)else none)else none)else none)else(bif (decide (v22>0))then(if(0:Int)≤(Aob .i64 v22 1)∧(Aob .i64 v22 1)<(v2.length:Int)then(if(0:Int)≤(Aob .i64 v22 1)∧(Aob .i64 v22 1)<(v2.length:Int)then(if(0:Int)≤(Aob .i64 v22 1)∧(Aob .i64 v22 1)<(v16.length:Int)then(bif (((gt v16 (Aob .i64 v22 1)).Hh) != 2)then some false else(Apa K v3 v4 v5 v6 v7 v8 v9 v10 v11 v12 v13 v14 v15 v16 v17 v18 v23 v27 (C1) (v2.set (Aob .i64 v22 1).toNat (Aoa .i64 (gt v2 (Aob .i64 v22 1)) 1))))else none)else none)else none)else(Apa K v3 v4 v5 v6 v7 v8 v9 v10 v11 v12 v13 v14 v15 v16 v17 v18 v23 v27 (C1) v2)))
def Apb (K:Nat)(v1:List Int)(v2:List Int)(v3:List Int)(v4:List Ax)(v5:Int)(v6:Int)(v7:Int)(v8:Int)(v9:Int)(v10:Int)(v11:Int)(v12:Int)(v13:List Int)(v14:List Int)(v15:List Int)(v16:List Ba)(v17:List Ax)(v18:List Int)(C1:(List Int)->(List Int)->(List Int)->(List Ax)->Int->Int->Int->Int->Int->Int->Int->Int->(List Int)->(List Int)->(List Int)->(List Ba)->(List Ax)->(List Int)->Option (Bool))(v22:Int)(v23:Int)(v24:List Int)(v25:List Int)(v26:Int):Option (Bool):=(Ai1 K v2 v3 v4 v5 v6 v7 v8 v9 v10 v11 v12 v13 v14 v15 v16 v17 v18 v22 v23 v25 (C1) K v1 (v25.length:Int) 0 v25)
def Ap5 (K:Nat)(v37:Int)(v38:Int)(v39:List Int)(C7:Int->Int->(List Int)->Option (Bool)):Option (Bool):=(C7 v37 (Aoa .i64 v38 1) v39)
def Ak4 (K:Nat)(v40:Int)(v41:Int)(v42:List Ba)(C9:Int->Int->(List Ba)->Option (Bool)):Option (Bool):=(C9 v40 (Aoa .i64 v41 1) v42)
def Aei (K:Nat)(v2:List Int)(v3:List Int)(v16:List Ba):Nat->Int->Int->(List Ba)->Option (Bool)
 |0,_,_,_=>none
 |n9+1,v40,v41,v42=>(bif (decide (v41<v40))then(if(0:Int)≤v41∧v41<(v16.length:Int)then(bif (((gt v16 v41).Hh)==2)then(if(0:Int)≤v41∧v41<(v2.length:Int)then(bif ((gt v2 v41) != 1)then some false else((Aqs K v42 v41).bind fun r43=>(bif r43 then(if(0:Int)≤v41∧v41<(v3.length:Int)then(bif ((gt v3 v41) != 1)then some false else(Ak4 K v40 v41 v42 (Aei K v2 v3 v16 n9)))else none)else(Ak4 K v40 v41 v42 (Aei K v2 v3 v16 n9)))))else none)else((Aqs K v42 v41).bind fun r44=>(bif r44 then(if(0:Int)≤v41∧v41<(v3.length:Int)then(bif ((gt v3 v41) != 1)then some false else(Ak4 K v40 v41 v42 (Aei K v2 v3 v16 n9)))else none)else(Ak4 K v40 v41 v42 (Aei K v2 v3 v16 n9)))))else none)else some true)
def Ag2 (K:Nat)(v1:List Int)(v2:List Int)(v3:List Int)(v14:List Int)(v16:List Ba):Nat->Int->Int->(List Int)->Option (Bool)
 |0,_,_,_=>none
 |n7+1,v37,v38,v39=>(bif (decide (v38<v37))then(if(0:Int)≤v38∧v38<(v14.length:Int)then(bif ((gt v14 v38)==2)then(if(0:Int)≤v38∧v38<(v1.length:Int)then(bif ((gt v1 v38) != 1)then some false else(Ap5 K v37 v38 v39 (Ag2 K v1 v2 v3 v14 v16 n7)))else none)else(Ap5 K v37 v38 v39 (Ag2 K v1 v2 v3 v14 v16 n7)))else none)else(Aei K v2 v3 v16 K (v16.length:Int) 0 v16))
def Aa1 (K:Nat):Nat->(List Int)->(List Int)->(List Int)->(List Ax)->Int->Int->Int->Int->Int->Int->Int->Int->(List Int)->(List Int)->(List Int)->(List Ba)->(List Ax)->(List Int)->Option (Bool)
 |0,_,_,_,_,_,_,_,_,_,_,_,_,_,_,_,_,_,_=>none
 |n1+1,v1,v2,v3,v4,v5,v6,v7,v8,v9,v10,v11,v12,v13,v14,v15,v16,v17,v18=>(bif (decide (v6<v5))then(if(0:Int)≤v6∧v6<(v4.length:Int)then((Avd K (Er.mk v7 v8 v9 v10 v11 v12) (gt v4 v6)).bind fun r19=>(bif r19 then(bif (decide ((((gt v4 v6).Ae).length:Int)>0))then(if(0:Int)≤0∧0<(((gt v4 v6).Ae).length:Int)then((Aqv K (Dw.mk v13 v14 v15) (Er.mk v7 v8 v9 v10 v11 v12) (gt ((gt v4 v6).Ae) 0)).bind fun r20=>(if(0:Int)≤0∧0≤((gt v4 v6).Gu)∧((gt v4 v6).Gu)≤(r20.length:Int)then((Ar6 K ((r20.drop (0:Int).toNat).take (((gt v4 v6).Gu) - 0).toNat)).bind fun r21=>(bif (!r21)then some false else(Apb K v1 v2 v3 v4 v5 v6 v7 v8 v9 v10 v11 v12 v13 v14 v15 v16 v17 v18 (Aa1 K n1) ((gt v4 v6).A5) ((gt v4 v6).Bt) ((gt v4 v6).Dg) ((gt v4 v6).Ae) ((gt v4 v6).Gu))))else none))else none)else(Apb K v1 v2 v3 v4 v5 v6 v7 v8 v9 v10 v11 v12 v13 v14 v15 v16 v17 v18 (Aa1 K n1) ((gt v4 v6).A5) ((gt v4 v6).Bt) ((gt v4 v6).Dg) ((gt v4 v6).Ae) ((gt v4 v6).Gu)))else some false))else none)else(Ag2 K v1 v2 v3 v14 v16 K (v14.length:Int) 0 v14))
def Aqy (K:Nat)(a0:Eb):Option (Bool):=(if(0:Int)≤a0.fC.Ae∧a0.fC.Ae≤a0.fC.Ae∧(8:Int)*a0.fC.Ae≤281474976710656∧a0.fC.Ae≤9223372036854775807 then(if(0:Int)≤a0.fC.C0∧a0.fC.C0≤a0.fC.C0∧(8:Int)*a0.fC.C0≤281474976710656∧a0.fC.C0≤9223372036854775807 then(if(0:Int)≤a0.fC.C0∧a0.fC.C0≤a0.fC.C0∧(8:Int)*a0.fC.C0≤281474976710656∧a0.fC.C0≤9223372036854775807 then(Aa1 K K (List.replicate a0.fC.Ae.toNat 0) (List.replicate a0.fC.C0.toNat 0) (List.replicate a0.fC.C0.toNat 0) a0.fQ (a0.fQ.length:Int) 0 a0.fC.Ae a0.fC.Eg a0.fC.C0 a0.fC.E9 a0.fC.C1 a0.fC.Eh a0.fP.Fy a0.fP.Hh a0.fP.Fz a0.fL a0.fQ a0.Pr)else none)else none)else none)
def s_127:Sig:=⟨[.v 32],[.v 4],true⟩
def Bqn (K:Nat):Gb tyU:=⟨s_127,Aqy K⟩
def Ayz (K:Nat):=xF s_127 [(206,Bqm K),(226,Bnv K),(227,Btk K),(234,Bql K),(235,Bqj K)] [] 191 [38,39,40,44,45,105,106,150,151,169,170,175,176,177,181,182] [] [] [979,2003,3737,14951,29903] [.tmp 2]
def Ayn:E5:=⟨[(1,.p 101),(3,.o 1003 3 true),(4,.o 1004 3 true),(5,.o 1005 3 true),(29,.v 30),(30,.v 2),(31,.v 2),(121,.v 26),(122,.v 2),(123,.v 2)],[(101,.box [.v 2,.v 2,.v 2,.v 2,.v 2,.v 2,.v 22,.v 26,.v 26,.v 29,.v 30,.v 26])]⟩
def Aza:E5:=⟨[(1,.p 101),(3,.o 1003 3 true),(4,.o 1004 3 true),(5,.o 1005 3 true),(7,.p 107),(29,.v 30),(30,.v 2),(31,.v 2)],[(107,.box [.v 2,.v 2,.v 26,.v 26,.v 2]),(101,.box [.v 2,.v 2,.v 2,.v 2,.v 2,.v 2,.v 22,.v 26,.v 26,.v 29,.v 30,.v 26])]⟩
def Azb:E5:=⟨[(1,.p 101),(3,.o 1003 3 true),(4,.o 1004 3 true),(5,.o 1005 3 true),(7,.p 107),(29,.v 30),(30,.v 2),(31,.v 2)],[(107,.box [.v 2,.v 2,.v 26,.v 26,.v 2]),(101,.box [.v 2,.v 2,.v 2,.v 2,.v 2,.v 2,.v 22,.v 26,.v 26,.v 29,.v 30,.v 26])]⟩
def Azc:E5:=⟨[(1,.p 101),(3,.o 1003 3 true),(4,.o 1004 3 true),(5,.o 1005 3 true),(7,.p 107),(29,.v 30),(30,.v 2),(31,.v 2),(63,.v 26),(64,.v 2),(65,.v 2)],[(107,.box [.v 2,.v 2,.v 26,.v 26,.v 2]),(101,.box [.v 2,.v 2,.v 2,.v 2,.v 2,.v 2,.v 22,.v 26,.v 26,.v 29,.v 30,.v 26])]⟩
def A0d:E5:=⟨[(1,.p 101),(3,.o 1003 3 true),(4,.o 1004 3 true),(5,.o 1005 3 true),(7,.p 107),(29,.v 30),(30,.v 2),(31,.v 2)],[(107,.box [.v 2,.v 2,.v 26,.v 26,.v 2]),(101,.box [.v 2,.v 2,.v 2,.v 2,.v 2,.v 2,.v 22,.v 26,.v 26,.v 29,.v 30,.v 26])]⟩
def A19:E5:=⟨[(1,.p 101),(3,.o 1003 3 true),(4,.o 1004 3 true),(5,.o 1005 3 true),(142,.v 26),(143,.v 2),(144,.v 2)],[(101,.box [.v 2,.v 2,.v 2,.v 2,.v 2,.v 2,.v 22,.v 26,.v 26,.v 29,.v 30,.v 26])]⟩
def A0e:E5:=⟨[(1,.p 101),(4,.o 1004 3 true),(5,.o 1005 3 true),(160,.v 29),(161,.v 2),(162,.v 2)],[(101,.box [.v 2,.v 2,.v 2,.v 2,.v 2,.v 2,.v 22,.v 26,.v 26,.v 29,.v 30,.v 26])]⟩
def Auo:E5:=⟨[(1,.p 101),(4,.o 1004 3 true),(5,.o 1005 3 true),(160,.v 29),(161,.v 2),(162,.v 2)],[(101,.box [.v 2,.v 2,.v 2,.v 2,.v 2,.v 2,.v 22,.v 26,.v 26,.v 29,.v 30,.v 26])]⟩
def Aup:E5:=⟨[(1,.p 101),(3,.o 1003 3 true),(4,.o 1004 3 true),(5,.o 1005 3 true),(142,.v 26),(143,.v 2),(144,.v 2)],[(101,.box [.v 2,.v 2,.v 2,.v 2,.v 2,.v 2,.v 22,.v 26,.v 26,.v 29,.v 30,.v 26])]⟩
def Aiq:E5:=⟨[(1,.p 101),(3,.o 1003 3 true),(4,.o 1004 3 true),(5,.o 1005 3 true),(29,.v 30),(30,.v 2),(31,.v 2)],[(101,.box [.v 2,.v 2,.v 2,.v 2,.v 2,.v 2,.v 22,.v 26,.v 26,.v 29,.v 30,.v 26])]⟩
def Ayo (K:Nat)(C58:CT Aiq s_127)(n:Nat)(q:PT Ayn):Rt s_127:=Ai0 K q.2.2.2.1 q.2.2.2.2.1 q.2.2.2.2.2.1 q.2.2.2.2.2.2.2.2.2.1 q.2.2.2.2.2.2.2.2.2.2.1 q.2.2.2.2.2.2.2.2.2.2.2.1 q.2.2.2.2.2.2.2.2.2.2.2.2.1 q.2.2.2.2.2.2.2.2.2.2.2.2.2.1 q.2.2.2.2.2.2.2.2.2.2.2.2.2.2.1 q.2.2.2.2.2.2.2.2.2.2.2.2.2.2.2.1 q.2.2.2.2.2.2.2.2.2.2.2.2.2.2.2.2.1 q.2.2.2.2.2.2.2.2.2.2.2.2.2.2.2.2.2.1 q.2.2.2.2.2.2.2.2.2.2.2.2.2.2.2.2.2.2.1 q.2.2.2.2.2.2.2.2.2.2.2.2.2.2.2.2.2.2.2.1 q.2.2.2.2.2.2.2.2.2.2.2.2.2.2.2.2.2.2.2.2.1 q.1 q.2.1 q.2.2.2.2.2.2.1 (fun v1 v2 v3 v4 v5 v6 v7 v8 v9 v10 v11 v12 v13 v14 v15 v16 v17 v18=>C58 (v1,v2,v3,v4,v5,v6,v7,v8,v9,v10,v11,v12,v13,v14,v15,v16,v17,v18,())) n q.2.2.1 q.2.2.2.2.2.2.2.1 q.2.2.2.2.2.2.2.2.1
def Azd (K:Nat)(C58:CT Aiq s_127)(q:PT Aza):Rt s_127:=Ao3 K q.2.2.1 q.2.2.2.1 q.2.2.2.2.1 q.2.2.2.2.2.1 q.2.2.2.2.2.2.2.2.2.2.2.1 q.2.2.2.2.2.2.2.2.2.2.2.2.1 q.2.2.2.2.2.2.2.2.2.2.2.2.2.1 q.2.2.2.2.2.2.2.2.2.2.2.2.2.2.1 q.2.2.2.2.2.2.2.2.2.2.2.2.2.2.2.1 q.2.2.2.2.2.2.2.2.2.2.2.2.2.2.2.2.1 q.2.2.2.2.2.2.2.2.2.2.2.2.2.2.2.2.2.1 q.2.2.2.2.2.2.2.2.2.2.2.2.2.2.2.2.2.2.1 q.2.2.2.2.2.2.2.2.2.2.2.2.2.2.2.2.2.2.2.1 q.2.2.2.2.2.2.2.2.2.2.2.2.2.2.2.2.2.2.2.2.1 q.2.2.2.2.2.2.2.2.2.2.2.2.2.2.2.2.2.2.2.2.2.1 q.2.2.2.2.2.2.2.2.2.2.2.2.2.2.2.2.2.2.2.2.2.2.1 q.2.2.2.2.2.2.2.1 q.1 q.2.1 (fun v1 v2 v3 v4 v5 v6 v7 v8 v9 v10 v11 v12 v13 v14 v15 v16 v17 v18=>C58 (v1,v2,v3,v4,v5,v6,v7,v8,v9,v10,v11,v12,v13,v14,v15,v16,v17,v18,()))
def Aze (K:Nat)(C58:CT Aiq s_127)(q:PT Azb):Rt s_127:=Apa K q.2.2.1 q.2.2.2.1 q.2.2.2.2.1 q.2.2.2.2.2.1 q.2.2.2.2.2.2.2.2.2.2.2.1 q.2.2.2.2.2.2.2.2.2.2.2.2.1 q.2.2.2.2.2.2.2.2.2.2.2.2.2.1 q.2.2.2.2.2.2.2.2.2.2.2.2.2.2.1 q.2.2.2.2.2.2.2.2.2.2.2.2.2.2.2.1 q.2.2.2.2.2.2.2.2.2.2.2.2.2.2.2.2.1 q.2.2.2.2.2.2.2.2.2.2.2.2.2.2.2.2.2.1 q.2.2.2.2.2.2.2.2.2.2.2.2.2.2.2.2.2.2.1 q.2.2.2.2.2.2.2.2.2.2.2.2.2.2.2.2.2.2.2.1 q.2.2.2.2.2.2.2.2.2.2.2.2.2.2.2.2.2.2.2.2.1 q.2.2.2.2.2.2.2.2.2.2.2.2.2.2.2.2.2.2.2.2.2.1 q.2.2.2.2.2.2.2.2.2.2.2.2.2.2.2.2.2.2.2.2.2.2.1 q.2.2.2.2.2.2.2.1 q.1 (fun v1 v2 v3 v4 v5 v6 v7 v8 v9 v10 v11 v12 v13 v14 v15 v16 v17 v18=>C58 (v1,v2,v3,v4,v5,v6,v7,v8,v9,v10,v11,v12,v13,v14,v15,v16,v17,v18,())) q.2.1
def Azf (K:Nat)(C58:CT Aiq s_127)(n:Nat)(q:PT Azc):Rt s_127:=Ai1 K q.2.1 q.2.2.1 q.2.2.2.1 q.2.2.2.2.1 q.2.2.2.2.2.1 q.2.2.2.2.2.2.2.2.2.2.2.2.2.2.1 q.2.2.2.2.2.2.2.2.2.2.2.2.2.2.2.1 q.2.2.2.2.2.2.2.2.2.2.2.2.2.2.2.2.1 q.2.2.2.2.2.2.2.2.2.2.2.2.2.2.2.2.2.1 q.2.2.2.2.2.2.2.2.2.2.2.2.2.2.2.2.2.2.1 q.2.2.2.2.2.2.2.2.2.2.2.2.2.2.2.2.2.2.2.1 q.2.2.2.2.2.2.2.2.2.2.2.2.2.2.2.2.2.2.2.2.1 q.2.2.2.2.2.2.2.2.2.2.2.2.2.2.2.2.2.2.2.2.2.1 q.2.2.2.2.2.2.2.2.2.2.2.2.2.2.2.2.2.2.2.2.2.2.1 q.2.2.2.2.2.2.2.2.2.2.2.2.2.2.2.2.2.2.2.2.2.2.2.1 q.2.2.2.2.2.2.2.2.2.2.2.2.2.2.2.2.2.2.2.2.2.2.2.2.1 q.2.2.2.2.2.2.2.2.2.2.2.2.2.2.2.2.2.2.2.2.2.2.2.2.2.1 q.2.2.2.2.2.2.2.2.2.1 q.2.2.2.2.2.2.2.2.2.2.1 q.2.2.2.2.2.2.1 (fun v1 v2 v3 v4 v5 v6 v7 v8 v9 v10 v11 v12 v13 v14 v15 v16 v17 v18=>C58 (v1,v2,v3,v4,v5,v6,v7,v8,v9,v10,v11,v12,v13,v14,v15,v16,v17,v18,())) n q.1 q.2.2.2.2.2.2.2.1 q.2.2.2.2.2.2.2.2.1 q.2.2.2.2.2.2.2.2.2.2.2.2.1
def A0f (K:Nat)(C58:CT Aiq s_127)(q:PT A0d):Rt s_127:=Apb K q.1 q.2.1 q.2.2.1 q.2.2.2.1 q.2.2.2.2.1 q.2.2.2.2.2.1 q.2.2.2.2.2.2.2.2.2.2.2.1 q.2.2.2.2.2.2.2.2.2.2.2.2.1 q.2.2.2.2.2.2.2.2.2.2.2.2.2.1 q.2.2.2.2.2.2.2.2.2.2.2.2.2.2.1 q.2.2.2.2.2.2.2.2.2.2.2.2.2.2.2.1 q.2.2.2.2.2.2.2.2.2.2.2.2.2.2.2.2.1 q.2.2.2.2.2.2.2.2.2.2.2.2.2.2.2.2.2.1 q.2.2.2.2.2.2.2.2.2.2.2.2.2.2.2.2.2.2.1 q.2.2.2.2.2.2.2.2.2.2.2.2.2.2.2.2.2.2.2.1 q.2.2.2.2.2.2.2.2.2.2.2.2.2.2.2.2.2.2.2.2.1 q.2.2.2.2.2.2.2.2.2.2.2.2.2.2.2.2.2.2.2.2.2.1 q.2.2.2.2.2.2.2.2.2.2.2.2.2.2.2.2.2.2.2.2.2.2.1 (fun v1 v2 v3 v4 v5 v6 v7 v8 v9 v10 v11 v12 v13 v14 v15 v16 v17 v18=>C58 (v1,v2,v3,v4,v5,v6,v7,v8,v9,v10,v11,v12,v13,v14,v15,v16,v17,v18,())) q.2.2.2.2.2.2.1 q.2.2.2.2.2.2.2.1 q.2.2.2.2.2.2.2.2.1 q.2.2.2.2.2.2.2.2.2.1 q.2.2.2.2.2.2.2.2.2.2.1
def A2a (K:Nat)(C122:CT Aup s_127)(q:PT A19):Rt s_127:=Ap5 K q.2.2.2.2.1 q.2.2.2.2.2.1 q.2.2.2.2.2.2.2.2.2.2.2.2.2.1 (fun v37 v38 v39=>C122 (q.1,q.2.1,q.2.2.1,q.2.2.2.1,v37,v38,q.2.2.2.2.2.2.1,q.2.2.2.2.2.2.2.1,q.2.2.2.2.2.2.2.2.1,q.2.2.2.2.2.2.2.2.2.1,q.2.2.2.2.2.2.2.2.2.2.1,q.2.2.2.2.2.2.2.2.2.2.2.1,q.2.2.2.2.2.2.2.2.2.2.2.2.1,v39,q.2.2.2.2.2.2.2.2.2.2.2.2.2.2.1,q.2.2.2.2.2.2.2.2.2.2.2.2.2.2.2.1,q.2.2.2.2.2.2.2.2.2.2.2.2.2.2.2.2.1,q.2.2.2.2.2.2.2.2.2.2.2.2.2.2.2.2.2.1,()))
def A0g (K:Nat)(C250:CT Auo s_127)(q:PT A0e):Rt s_127:=Ak4 K q.2.2.2.1 q.2.2.2.2.1 q.2.2.2.2.2.2.2.2.2.2.2.2.2.2.1 (fun v40 v41 v42=>C250 (q.1,q.2.1,q.2.2.1,v40,v41,q.2.2.2.2.2.1,q.2.2.2.2.2.2.1,q.2.2.2.2.2.2.2.1,q.2.2.2.2.2.2.2.2.1,q.2.2.2.2.2.2.2.2.2.1,q.2.2.2.2.2.2.2.2.2.2.1,q.2.2.2.2.2.2.2.2.2.2.2.1,q.2.2.2.2.2.2.2.2.2.2.2.2.1,q.2.2.2.2.2.2.2.2.2.2.2.2.2.1,v42,q.2.2.2.2.2.2.2.2.2.2.2.2.2.2.2.1,q.2.2.2.2.2.2.2.2.2.2.2.2.2.2.2.2.1,()))
def Ayd (K:Nat)(n:Nat)(q:PT Auo):Rt s_127:=Aei K q.1 q.2.1 q.2.2.1 n q.2.2.2.1 q.2.2.2.2.1 q.2.2.2.2.2.2.2.2.2.2.2.2.2.2.1
def Aye (K:Nat)(n:Nat)(q:PT Aup):Rt s_127:=Ag2 K q.1 q.2.1 q.2.2.1 q.2.2.2.1 q.2.2.2.2.2.2.2.2.2.2.2.2.2.2.2.1 n q.2.2.2.2.1 q.2.2.2.2.2.1 q.2.2.2.2.2.2.2.2.2.2.2.2.2.1
def Azg (K:Nat)(n:Nat)(q:PT Aiq):Rt s_127:=Aa1 K n q.1 q.2.1 q.2.2.1 q.2.2.2.1 q.2.2.2.2.1 q.2.2.2.2.2.1 q.2.2.2.2.2.2.1 q.2.2.2.2.2.2.2.1 q.2.2.2.2.2.2.2.2.1 q.2.2.2.2.2.2.2.2.2.1 q.2.2.2.2.2.2.2.2.2.2.1 q.2.2.2.2.2.2.2.2.2.2.2.1 q.2.2.2.2.2.2.2.2.2.2.2.2.1 q.2.2.2.2.2.2.2.2.2.2.2.2.2.1 q.2.2.2.2.2.2.2.2.2.2.2.2.2.2.1 q.2.2.2.2.2.2.2.2.2.2.2.2.2.2.2.1 q.2.2.2.2.2.2.2.2.2.2.2.2.2.2.2.2.1 q.2.2.2.2.2.2.2.2.2.2.2.2.2.2.2.2.2.1
theorem A8z (K:Nat)(C58:CT Aiq s_127):AtL (Ayz K) (fun n=>[]) [(58,ar Aiq C58)] (bd Tryz.f156) 239230 (Ayo K C58):=fun n q=>by kernel_rfl
theorem A91 (K:Nat)(C58:CT Aiq s_127):AtJ (Ayz K) [(239230,ar Ayn (Ayo K C58 K))] [(58,ar Aiq C58)] (bd Tryz.f156) 29903 (Azd K C58):=fun q=>by kernel_rfl
theorem A92 (K:Nat)(C58:CT Aiq s_127):AtJ (Ayz K) [(29903,ar Aza (Azd K C58))] [(58,ar Aiq C58)] (bd Tryz.f156) 14951 (Aze K C58):=fun q=>by kernel_rfl
theorem A93 (K:Nat)(C58:CT Aiq s_127):AtL (Ayz K) (fun n=>[(14951,ar Azb (Aze K C58))]) [(58,ar Aiq C58)] (bd Tryz.f156) 59802 (Azf K C58):=fun n q=>by kernel_rfl
theorem Bbn (K:Nat)(C58:CT Aiq s_127):AtJ (Ayz K) [(59802,ar Azc (Azf K C58 K))] [(58,ar Aiq C58)] (bd Tryz.f156) 3737 (A0f K C58):=fun q=>by kernel_rfl
theorem Bd5 (K:Nat)(C122:CT Aup s_127):AtJ (Ayz K) [] [(122,ar Aup C122)] (bd Tryz.f156) 979 (A2a K C122):=fun q=>by kernel_rfl
theorem Bbo (K:Nat)(C250:CT Auo s_127):AtJ (Ayz K) [] [(250,ar Auo C250)] (bd Tryz.f156) 2003 (A0g K C250):=fun q=>by kernel_rfl
theorem Bd6 (K:Nat):AtL (Ayz K) (fun n=>[(2003,ar A0e (A0g K (Ayd K n)))]) [] (bd Tryz.f156) 250 (Ayd K):=fun n q=>by kernel_rfl
theorem Bd7 (K:Nat):AtL (Ayz K) (fun n=>[(979,ar A19 (A2a K (Aye K n))),(250,ar Auo (Ayd K K))]) [] (bd Tryz.f156) 122 (Aye K):=fun n q=>by kernel_rfl
theorem Bih (K:Nat):AtL (Ayz K) (fun n=>[(3737,ar A0d (A0f K (Azg K n))),(122,ar Aup (Aye K K))]) [] (bd Tryz.f156) 58 (Azg K):=fun n q=>by kernel_rfl
theorem Axb (K:Nat):XF [.tmp 2] s_127 191 [979,2003,3737,14951,29903] (Ayz K):=xkF (gC (Bug K) (gC (Bgz K) (gC (Bpd K) (gC (Buf K) (gC (Bue K) gN))))) oN
theorem A80 (K:Nat)(C58:CT Aiq s_127)(n:Nat):CF [.tmp 2] s_127 191 [979,2003,3737,14951,29903] (bd Tryz.f156) [(58,ar Aiq C58)] 239230 (ar Ayn (Ayo K C58 n)):=
 Aeh (Axb K) (A8z K C58) (fun n=>kN) n
theorem A94 (K:Nat)(C58:CT Aiq s_127):CF [.tmp 2] s_127 191 [979,2003,3737,14951,29903] (bd Tryz.f156) [(58,ar Aiq C58)] 29903 (ar Aza (Azd K C58)):=
 Apk (Axb K) (A91 K C58) (kC (A80 K C58 K) kN)
theorem A95 (K:Nat)(C58:CT Aiq s_127):CF [.tmp 2] s_127 191 [979,2003,3737,14951,29903] (bd Tryz.f156) [(58,ar Aiq C58)] 14951 (ar Azb (Aze K C58)):=
 Apk (Axb K) (A92 K C58) (kC (A94 K C58) kN)
theorem A96 (K:Nat)(C58:CT Aiq s_127)(n:Nat):CF [.tmp 2] s_127 191 [979,2003,3737,14951,29903] (bd Tryz.f156) [(58,ar Aiq C58)] 59802 (ar Azc (Azf K C58 n)):=
 Aeh (Axb K) (A93 K C58) (fun n=>(kC (Ao2 (by kernel_rfl) (A95 K C58)) kN)) n
theorem Bbp (K:Nat)(C58:CT Aiq s_127):CF [.tmp 2] s_127 191 [979,2003,3737,14951,29903] (bd Tryz.f156) [(58,ar Aiq C58)] 3737 (ar A0d (A0f K C58)):=
 Apk (Axb K) (Bbn K C58) (kC (A96 K C58 K) kN)
theorem Bd8 (K:Nat)(C122:CT Aup s_127):CF [.tmp 2] s_127 191 [979,2003,3737,14951,29903] (bd Tryz.f156) [(122,ar Aup C122)] 979 (ar A19 (A2a K C122)):=
 Apk (Axb K) (Bd5 K C122) kN
theorem Bbq (K:Nat)(C250:CT Auo s_127):CF [.tmp 2] s_127 191 [979,2003,3737,14951,29903] (bd Tryz.f156) [(250,ar Auo C250)] 2003 (ar A0e (A0g K C250)):=
 Apk (Axb K) (Bbo K C250) kN
theorem Bd9 (K:Nat)(n:Nat):CF [.tmp 2] s_127 191 [979,2003,3737,14951,29903] (bd Tryz.f156) [] 250 (ar Auo (Ayd K n)):=
 Aeh (Axb K) (Bd6 K) (fun n=>(kC (Bbq K (Ayd K n)) kN)) n
theorem Bea (K:Nat)(n:Nat):CF [.tmp 2] s_127 191 [979,2003,3737,14951,29903] (bd Tryz.f156) [] 122 (ar Aup (Aye K n)):=
 Aeh (Axb K) (Bd7 K) (fun n=>(kC (Bd8 K (Aye K n)) (kC (Ao2 (by kernel_rfl) (Bd9 K K)) kN))) n
theorem Bii (K:Nat)(n:Nat):CF [.tmp 2] s_127 191 [979,2003,3737,14951,29903] (bd Tryz.f156) [] 58 (ar Aiq (Azg K n)):=
 Aeh (Axb K) (Bih K) (fun n=>(kC (Bbp K (Azg K n)) (kC (Ao2 (by kernel_rfl) (Bea K K)) kN))) n
theorem Buh (K:Nat):OkF 156 (Bqn K):=
 Aa6 (x:=Ayz K) (L:=[(58,ar Aiq (Azg K K))]) (c0:=bd Tryz.f156) (Axb K) (by intro a0;show @Eq _ _ _;kernel_rfl) (kC (Bii K K) kN) Tryz.func156 trivial
def Ave (K:Nat)(a0:Eb):Option (Bool):=((Av7 K a0.fC a0.fP).bind fun r1=>(bif r1 then(bif ((a0.fL.length:Int)==a0.fC.C0)then((Aqx K a0).bind fun r2=>(bif r2 then((Av9 K a0.fL).bind fun r3=>(bif r3 then((Aqy K a0).bind fun r4=>(bif r4 then((Aqr K a0.Pr).bind fun r5=>some r5)else some false))else some false))else some false))else some false)else some false))
def Bqo:Sig:=⟨[.v 32],[.v 4],true⟩
def Bqp (K:Nat):Gb tyU:=⟨Bqo,Ave K⟩
def B1i (K:Nat):=xF Bqo [(153,Bz8 K),(154,Bqb K),(155,Bqh K),(156,Bqn K),(157,Bn9 K)] [] 35 [7,8,15,16,17,19,20,21,24,25,26,28,29,30] [] [] [] [.tmp 2]
theorem Bui (K:Nat):OkF 87 (Bqp K):=
 Aa6 (x:=B1i K) (L:=[]) (c0:=bd Tryz.f87) (xkF (gC (Bz9 K) (gC (Bua K) (gC (Bud K) (gC (Buh K) (gC (Bg2 K) gN))))) oN) (by intro a0;show @Eq _ _ _;kernel_rfl) kN Tryz.func87 trivial
def Ap1 (K:Nat)(a0:List Int):Option ((List Int)):=(bif a0.isEmpty then Afd (some []) ((if(([]:List Int)++a0).length*1≤140737488355328∧(([]:List Int)++a0).length≤maxLen then some (([]:List Int)++a0)else none))else(if(([]:List Int)++a0).length*1≤140737488355328∧(([]:List Int)++a0).length≤maxLen then some (([]:List Int)++a0)else none))
def Bqq:Sig:=⟨[.v 22],[.n 22 true],true⟩
def Bij (K:Nat):Gb tyU:=⟨Bqq,Ap1 K⟩
def B1j (K:Nat):=xF Bqq [] [] 8 [] [] [] [] [.tmp 2]
theorem Bik (K:Nat):OkF 188 (Bij K):=
 Aa6 (x:=B1j K) (L:=[]) (c0:=bd Tryz.f188) (xkF gN oN) (by intro a0;show @Eq _ _ _;kernel_rfl) kN Tryz.func188 trivial
def Aua (K:Nat)(a0:Dw):Option (Dw):=((Ap1 K a0.Fy).bind fun r1=>((Ag3 K a0.Hh).bind fun r2=>((Ag3 K a0.Fz).bind fun r3=>some (Dw.mk r1 r2 r3))))
def Bqr:Sig:=⟨[.v 28],[.n 28 true],true⟩
def Bqs (K:Nat):Gb tyU:=⟨Bqr,Aua K⟩
def B1k (K:Nat):=xF Bqr [(160,Bdw K),(188,Bij K)] [] 13 [] [] [] [] [.cell 2 28]
theorem Buj (K:Nat):OkF 158 (Bqs K):=
 Aa6 (x:=B1k K) (L:=[]) (c0:=bd Tryz.f158) (xkF (gC (A90 K) (gC (Bik K) gN)) oN) (by intro a0;show @Eq _ _ _;kernel_rfl) kN Tryz.func158 trivial
def Apj (K:Nat)(a0:List A9):Option ((List A9)):=(bif a0.isEmpty then Afd (some []) ((if(([]:List A9)++a0).length*24≤140737488355328∧(([]:List A9)++a0).length≤maxLen then some (([]:List A9)++a0)else none))else(if(([]:List A9)++a0).length*24≤140737488355328∧(([]:List A9)++a0).length≤maxLen then some (([]:List A9)++a0)else none))
def Bqt:Sig:=⟨[.v 41],[.n 41 true],true⟩
def Bqu (K:Nat):Gb tyU:=⟨Bqt,Apj K⟩
def B1l (K:Nat):=xF Bqt [] [] 8 [] [] [] [] [.tmp 2]
theorem Buk (K:Nat):OkF 273 (Bqu K):=
 Aa6 (x:=B1l K) (L:=[]) (c0:=bd Tryz.f273) (xkF gN oN) (by intro a0;show @Eq _ _ _;kernel_rfl) kN Tryz.func273 trivial
def Aub (K:Nat)(a0:Ba):Option (Ba):=((Ag3 K a0.Ae).bind fun r1=>((Apj K a0.Ea).bind fun r2=>((Ag3 K a0.Dg).bind fun r3=>some (Ba.mk a0.Hh a0.C2 a0.Ly a0.fUp a0.Gq a0.Bt a0.Gr a0.Gs r1 a0.Pq a0.Gt r2 r3))))
def Bqv:Sig:=⟨[.v 44],[.n 44 true],true⟩
def Bqw (K:Nat):Gb tyU:=⟨Bqv,Aub K⟩
def B1m (K:Nat):=xF Bqv [(160,Bdw K),(273,Bqu K)] [] 16 [] [] [] [] [.cell 2 44]
theorem Bul (K:Nat):OkF 238 (Bqw K):=
 Aa6 (x:=B1m K) (L:=[]) (c0:=bd Tryz.f238) (xkF (gC (A90 K) (gC (Buk K) gN)) oN) (by intro a0;show @Eq _ _ _;kernel_rfl) kN Tryz.func238 trivial
def Anj (K:Nat)(a0:List Ba):Nat->(List Ba)->Int->Int->Option ((List Ba))
 |0,_,_,_=>none
 |n1+1,v1,v2,v3=>(bif (decide (v3<v2))then(if(0:Int)≤v3∧v3<(a0.length:Int)then((Aub K (gt a0 v3)).bind fun r4=>(if(v1++[r4]).length*152≤140737488355328∧(v1++[r4]).length≤maxLen then(Anj K a0 n1 (v1++[r4]) v2 (Aoa .i64 v3 1))else none))else none)else some v1)
def As8 (K:Nat)(a0:List Ba):Option ((List Ba)):=(Anj K a0 K ([]:List Ba) (a0.length:Int) 0)
def s_133:Sig:=⟨[.v 29],[.n 29 true],true⟩
def Bqx (K:Nat):Gb tyU:=⟨s_133,As8 K⟩
def Bil (K:Nat):=xF s_133 [(238,Bqw K)] [] 20 [] [] [(16,[.put 3016])] [] [.tmp 2]
def A4i:E5:=⟨[(3,.o 1003 44 true),(7,.v 29),(8,.v 2),(9,.v 2)],[]⟩
def A4j (K:Nat)(n:Nat)(q:PT A4i):Rt s_133:=Anj K q.2.1 n q.1 q.2.2.1 q.2.2.2.1
theorem Bim (K:Nat):AtL (Bil K) (fun n=>[]) [] (bd Tryz.f159) 58 (A4j K):=fun n q=>by kernel_rfl
theorem Bin (K:Nat):XF [.tmp 2] s_133 20 [] (Bil K):=xkF (gC (Bul K) gN) oN
theorem Bio (K:Nat)(n:Nat):CF [.tmp 2] s_133 20 [] (bd Tryz.f159) [] 58 (ar A4i (A4j K n)):=
 Aeh (Bin K) (Bim K) (fun n=>kN) n
theorem Bum (K:Nat):OkF 159 (Bqx K):=
 Aa6 (x:=Bil K) (L:=[(58,ar A4i (A4j K K))]) (c0:=bd Tryz.f159) (Bin K) (by intro a0;show @Eq _ _ _;kernel_rfl) (kC (Bio K K) kN) Tryz.func159 trivial
def As9 (K:Nat)(a0:Ax):Option (Ax):=((Ag3 K a0.Dg).bind fun r1=>((Ag3 K a0.Ae).bind fun r2=>some (Ax.mk a0.A5 a0.Bt r1 r2 a0.Gu)))
def Bqy:Sig:=⟨[.v 159],[.n 159 true],true⟩
def Bqz (K:Nat):Gb tyU:=⟨Bqy,As9 K⟩
def B1n (K:Nat):=xF Bqy [(160,Bdw K)] [] 12 [] [] [] [] [.cell 2 159]
theorem Bun (K:Nat):OkF 161 (Bqz K):=
 Aa6 (x:=B1n K) (L:=[]) (c0:=bd Tryz.f161) (xkF (gC (A90 K) gN) oN) (by intro a0;show @Eq _ _ _;kernel_rfl) kN Tryz.func161 trivial
def Ank (K:Nat):Nat->(List Ax)->Int->Int->Eb->Eb->Option (Eb)
 |0,_,_,_,_,_=>none
 |n1+1,v4,v5,v6,v7,v8=>(bif (decide (v6<v5))then(if(0:Int)≤v6∧v6<(v4.length:Int)then((As9 K (gt v4 v6)).bind fun r9=>(if(v7.fQ.length+1)*72≤140737488355328∧v7.fQ.length+1≤maxLen then(Ank K n1 v4 v5 (Aoa .i64 v6 1) (Eb.mk v7.fC v7.fP v7.fL ((v7.fQ++[(default:Ax)]).set (v7.fQ.length:Int).toNat r9) v7.Pr) v8)else none))else none)else some v7)
def Arj (K:Nat)(a0:Eb):Option (Eb):=((Aua K a0.fP).bind fun r1=>((As8 K a0.fL).bind fun r2=>((Ag3 K a0.Pr).bind fun r3=>(Ank K K a0.fQ (a0.fQ.length:Int) 0 (Eb.mk a0.fC r1 r2 [] r3) (Eb.mk (Er.mk 0 0 0 0 0 0) (Dw.mk [] [] []) [] [] [])))))
def s_135:Sig:=⟨[.v 32],[.n 32 true],true⟩
def Bip (K:Nat):Gb tyU:=⟨s_135,Arj K⟩
def Biq (K:Nat):=xF s_135 [(158,Bqs K),(159,Bqx K),(160,Bdw K),(161,Bqz K)] [] 34 [] [(5,[.take 103 10 6658]),(7,[.take 103 6 6654,.take 103 7 6655,.take 103 8 6656,.take 103 9 6657,.take 103 10 6658,.take 103 11 6659])] [] [] [.cell 2 32]
def A4k:E5:=⟨[(2,.p 102),(3,.p 103),(19,.v 30),(20,.v 2),(21,.v 2)],[(103,.st 32 true),(102,.st 32 true)]⟩
def A4l (K:Nat)(n:Nat)(q:PT A4k):Rt s_135:=Ank K n q.1 q.2.1 q.2.2.1 q.2.2.2.1 q.2.2.2.2.1
theorem Bir (K:Nat):AtL (Biq K) (fun n=>[]) [] (bd Tryz.f90) 58 (A4l K):=fun n q=>by kernel_rfl
theorem Bis (K:Nat):XF [.cell 2 32] s_135 34 [] (Biq K):=xkF (gC (Buj K) (gC (Bum K) (gC (A90 K) (gC (Bun K) gN)))) oN
theorem Biu (K:Nat)(n:Nat):CF [.cell 2 32] s_135 34 [] (bd Tryz.f90) [] 58 (ar A4k (A4l K n)):=
 Aeh (Bis K) (Bir K) (fun n=>kN) n
theorem Biv (K:Nat):OkF 90 (Bip K):=
 Aa6 (x:=Biq K) (L:=[(58,ar A4k (A4l K K))]) (c0:=bd Tryz.f90) (Bis K) (by intro a0;show @Eq _ _ _;kernel_rfl) (kC (Biu K K) kN) Tryz.func90 trivial
def Axc (K:Nat)(a0:Eb)(a1:Int):Option (Eb×Fh):=((Arj K a0).bind fun r1=>some (r1,(Fh.mk a1 (Ct.mk 0 0) (Fg.mk (Ct.mk 0 0) 0 0) [] 0 0 0)))
def Bq0:Sig:=⟨[.v 32,.v 3],[.n 32 true,.n 69 true],true⟩
def Bq1 (K:Nat):Gb tyU:=⟨Bq0,Axc K⟩
def B1o (K:Nat):=xF Bq0 [(90,Bip K)] [] 10 [] [] [] [] [.cell 4 32,.cell 5 69]
theorem Buo (K:Nat):OkF 89 (Bq1 K):=
 Aa6 (x:=B1o K) (L:=[]) (c0:=bd Tryz.f89) (xkF (gC (Biv K) gN) oN) (by intro a0 a1;show @Eq _ _ _;kernel_rfl) kN Tryz.func89 trivial
def Asr (K:Nat)(a0:List Ba)(a1:Ct):Option (Int):=((An3 K a0 a1.A5).bind fun r1=>(bif r1 then(if(0:Int)≤a1.A5∧a1.A5<(a0.length:Int)then(bif (((gt a0 a1.A5).Hh) != 1)then some (-1)else(if(0:Int)≤a1.A5∧a1.A5<(a0.length:Int)then(bif (((gt a0 a1.A5).C2) != a1.C2)then some (-1)else some a1.A5)else none))else none)else some (-1)))
def Bq2:Sig:=⟨[.v 29,.v 34],[.v 3],true⟩
def Biw (K:Nat):Gb tyU:=⟨Bq2,Asr K⟩
def B1p (K:Nat):=xF Bq2 [(171,A36 K)] [] 32 [8,9,10,17,18,19] [] [] [] [.tmp 4]
theorem Bix (K:Nat):OkF 163 (Biw K):=
 Aa6 (x:=B1p K) (L:=[]) (c0:=bd Tryz.f163) (xkF (gC (A16 K) gN) oN) (by intro a0 a1;show @Eq _ _ _;kernel_rfl) kN Tryz.func163 trivial
def Ax6 (K:Nat)(a0:List Ba)(a1:Int):Option (Int):=((Aun K a0 a1).bind fun r1=>some (r1.length:Int))
def Bq3:Sig:=⟨[.v 29,.v 3],[.v 3],true⟩
def Bq4 (K:Nat):Gb tyU:=⟨Bq3,Ax6 K⟩
def B1q (K:Nat):=xF Bq3 [(232,Bcz K)] [] 9 [] [] [] [] [.tmp 4]
theorem Bup (K:Nat):OkF 162 (Bq4 K):=
 Aa6 (x:=B1q K) (L:=[]) (c0:=bd Tryz.f162) (xkF (gC (Bbl K) gN) oN) (by intro a0 a1;show @Eq _ _ _;kernel_rfl) kN Tryz.func162 trivial
def Awb (K:Nat)(a0:Eb)(a1:Ct):Option (Int):=((Asr K a0.fL a1).bind fun r1=>((Ax6 K a0.fL r1).bind fun r2=>some r2))
def Bq5:Sig:=⟨[.v 32,.v 34],[.v 3],true⟩
def Bq6 (K:Nat):Gb tyU:=⟨Bq5,Awb K⟩
def B1r (K:Nat):=xF Bq5 [(162,Bq4 K),(163,Biw K)] [] 12 [] [] [] [] [.tmp 4]
theorem Buq (K:Nat):OkF 91 (Bq6 K):=
 Aa6 (x:=B1r K) (L:=[]) (c0:=bd Tryz.f91) (xkF (gC (Bup K) (gC (Bix K) gN)) oN) (by intro a0 a1;show @Eq _ _ _;kernel_rfl) kN Tryz.func91 trivial
def Ar3 (K:Nat)(a0:Ct):Option (Bool):=(bif (decide (a0.A5≥0))then some (decide (a0.C2≥1))else some false)
def Bq7:Sig:=⟨[.v 34],[.v 4],true⟩
def Biy (K:Nat):Gb tyU:=⟨Bq7,Ar3 K⟩
def B1s (K:Nat):=xF Bq7 [] [] 11 [5,6] [] [] [] [.tmp 2]
theorem Biz (K:Nat):OkF 164 (Biy K):=
 Aa6 (x:=B1s K) (L:=[]) (c0:=bd Tryz.f164) (xkF gN oN) (by intro a0;show @Eq _ _ _;kernel_rfl) kN Tryz.func164 trivial
def Aw5 (K:Nat)(a0:Fg):Option (Bool):=((Ar3 K a0.fH).bind fun r1=>(bif r1 then(bif (decide (a0.Ly≥0))then some (decide (a0.fNo≥0))else some false)else some false))
def Bq8:Sig:=⟨[.v 36],[.v 4],true⟩
def Bq9 (K:Nat):Gb tyU:=⟨Bq8,Aw5 K⟩
def B1t (K:Nat):=xF Bq8 [(164,Biy K)] [] 16 [5,6,9,10,11] [] [] [] [.tmp 2]
theorem Bur (K:Nat):OkF 183 (Bq9 K):=
 Aa6 (x:=B1t K) (L:=[]) (c0:=bd Tryz.f183) (xkF (gC (Biz K) gN) oN) (by intro a0;show @Eq _ _ _;kernel_rfl) kN Tryz.func183 trivial
def Avf (K:Nat)(v2:List Int)(v3:Int)(v4:Int)(C1:(List Int)->Int->Int->Option (Bool)):Option (Bool):=(C1 v2 v3 (Aoa .i64 v4 1))
def Ark (K:Nat)(a0:List Ba)(r1:(List Int)):Nat->(List Int)->Int->Int->Option (Bool)
 |0,_,_,_=>none
 |n1+1,v2,v3,v4=>(bif (decide (v4<v3))then(if(0:Int)≤v4∧v4<(v2.length:Int)then(if(0:Int)≤(gt v2 v4)∧(gt v2 v4)<(a0.length:Int)then(bif (((gt a0 (gt v2 v4)).Hh) != 1)then some false else(bif (decide ((Aoa .i64 v4 1)<(r1.length:Int)))then(if(0:Int)≤(gt v2 v4)∧(gt v2 v4)<(a0.length:Int)then(if(0:Int)≤(Aoa .i64 v4 1)∧(Aoa .i64 v4 1)<(r1.length:Int)then(if(0:Int)≤(gt r1 (Aoa .i64 v4 1))∧(gt r1 (Aoa .i64 v4 1))<(a0.length:Int)then(bif (((gt a0 (gt v2 v4)).Gq) != ((gt a0 (gt r1 (Aoa .i64 v4 1))).Ly))then some false else(Avf K v2 v3 v4 (Ark K a0 r1 n1)))else none)else none)else none)else(Avf K v2 v3 v4 (Ark K a0 r1 n1))))else none)else none)else(bif (decide ((r1.length:Int)>0))then(if(0:Int)≤(Aob .i64 (r1.length:Int) 1)∧(Aob .i64 (r1.length:Int) 1)<(r1.length:Int)then(if(0:Int)≤(gt r1 (Aob .i64 (r1.length:Int) 1))∧(gt r1 (Aob .i64 (r1.length:Int) 1))<(a0.length:Int)then some (((gt a0 (gt r1 (Aob .i64 (r1.length:Int) 1))).fUp)==0)else none)else none)else some false))
def Aw6 (K:Nat)(a0:List Ba)(a1:Int):Option (Bool):=((Aun K a0 a1).bind fun r1=>(Ark K a0 r1 K r1 (r1.length:Int) 0))
def s_142:Sig:=⟨[.v 29,.v 3],[.v 4],true⟩
def Bra (K:Nat):Gb tyU:=⟨s_142,Aw6 K⟩
def Bc1 (K:Nat):=xF s_142 [(232,Bcz K)] [] 63 [28,29,49,50] [] [] [467] [.tmp 4]
def A2b:E5:=⟨[(0,.v 29),(5,.v 26),(11,.v 26),(12,.v 2),(13,.v 2)],[]⟩
def Awm:E5:=⟨[(0,.v 29),(5,.v 26),(11,.v 26),(12,.v 2),(13,.v 2)],[]⟩
def A2c (K:Nat)(C58:CT Awm s_142)(q:PT A2b):Rt s_142:=Avf K q.2.2.1 q.2.2.2.1 q.2.2.2.2.1 (fun v2 v3 v4=>C58 (q.1,q.2.1,v2,v3,v4,()))
def Azh (K:Nat)(n:Nat)(q:PT Awm):Rt s_142:=Ark K q.1 q.2.1 n q.2.2.1 q.2.2.2.1 q.2.2.2.2.1
theorem Beb (K:Nat)(C58:CT Awm s_142):AtJ (Bc1 K) [] [(58,ar Awm C58)] (bd Tryz.f165) 467 (A2c K C58):=fun q=>by kernel_rfl
theorem Bi0 (K:Nat):AtL (Bc1 K) (fun n=>[(467,ar A2b (A2c K (Azh K n)))]) [] (bd Tryz.f165) 58 (Azh K):=fun n q=>by kernel_rfl
theorem Bbr (K:Nat):XF [.tmp 4] s_142 63 [467] (Bc1 K):=xkF (gC (Bbl K) gN) oN
theorem Bec (K:Nat)(C58:CT Awm s_142):CF [.tmp 4] s_142 63 [467] (bd Tryz.f165) [(58,ar Awm C58)] 467 (ar A2b (A2c K C58)):=
 Apk (Bbr K) (Beb K C58) kN
theorem Bi1 (K:Nat)(n:Nat):CF [.tmp 4] s_142 63 [467] (bd Tryz.f165) [] 58 (ar Awm (Azh K n)):=
 Aeh (Bbr K) (Bi0 K) (fun n=>(kC (Bec K (Azh K n)) kN)) n
theorem Bus (K:Nat):OkF 165 (Bra K):=
 Aa6 (x:=Bc1 K) (L:=[(58,ar Awm (Azh K K))]) (c0:=bd Tryz.f165) (Bbr K) (by intro a0 a1;show @Eq _ _ _;kernel_rfl) (kC (Bi1 K K) kN) Tryz.func165 trivial
def Auc (K:Nat)(a0:Eb)(a1:Ct):Option (Int×Int):=((Ar3 K a1).bind fun r1=>(bif (!r1)then some ((-1),1)else((Asr K a0.fL a1).bind fun r2=>(bif (decide (r2<0))then some ((-1),2)else((Aw6 K a0.fL r2).bind fun r3=>(bif (!r3)then some ((-1),2)else some (r2,0)))))))
def Brb:Sig:=⟨[.v 32,.v 34],[.v 3,.v 3],true⟩
def Brc (K:Nat):Gb tyU:=⟨Brb,Auc K⟩
def B1u (K:Nat):=xF Brb [(163,Biw K),(164,Biy K),(165,Bra K)] [] 24 [15,16] [] [] [] [.tmp 4,.tmp 5]
theorem But (K:Nat):OkF 92 (Brc K):=
 Aa6 (x:=B1u K) (L:=[]) (c0:=bd Tryz.f92) (xkF (gC (Bix K) (gC (Biz K) (gC (Bus K) gN))) oN) (by intro a0 a1;show @Eq _ _ _;kernel_rfl) kN Tryz.func92 trivial
def Avg (K:Nat)(a0:Ba)(a1:Fg):Option (A9×Bool):=(bif (a0.Hh != 1)then some ((A9.mk 0 0 0),false)else(bif (a0.Ly != a1.Ly)then some ((A9.mk 0 0 0),false)else((Abk K a1.fNo 0 (Aob .i64 (a0.Ea.length:Int) 1)).bind fun r1=>(bif (!r1)then some ((A9.mk 0 0 0),false)else(if(0:Int)≤a1.fNo∧a1.fNo<(a0.Ea.length:Int)then some ((gt a0.Ea a1.fNo),true)else none)))))
def Brd:Sig:=⟨[.v 44,.v 36],[.v 89,.v 4],true⟩
def Bre (K:Nat):Gb tyU:=⟨Brd,Avg K⟩
def B1v (K:Nat):=xF Brd [(88,A3r K)] [] 33 [8,9,14,15,16] [] [] [] [.cell 4 89,.tmp 5]
theorem Buu (K:Nat):OkF 184 (Bre K):=
 Aa6 (x:=B1v K) (L:=[]) (c0:=bd Tryz.f184) (xkF (gC (Az0 K) gN) oN) (by intro a0 a1;show @Eq _ _ _;kernel_rfl) kN Tryz.func184 trivial
def Ata (K:Nat)(a0:Eb)(a1:Fg):Option (Int×A9×Int):=((Aw5 K a1).bind fun r1=>(bif (!r1)then some ((-1),(A9.mk 0 0 0),1)else((Auc K a0 a1.fH).bind fun r2=>(bif (r2.2 != 0)then some ((-1),(A9.mk 0 0 0),r2.2)else(if(0:Int)≤r2.1∧r2.1<(a0.fL.length:Int)then((Avg K (gt a0.fL r2.1) a1).bind fun r3=>(bif (!r3.2)then some ((-1),(A9.mk 0 0 0),2)else some (r2.1,r3.1,0)))else none)))))
def Brf:Sig:=⟨[.v 32,.v 36],[.v 3,.v 89,.v 3],true⟩
def Brg (K:Nat):Gb tyU:=⟨Brf,Ata K⟩
def B1w (K:Nat):=xF Brf [(92,Brc K),(183,Bq9 K),(184,Bre K)] [] 41 [] [] [] [] [.tmp 4,.cell 5 89,.tmp 6]
theorem Buv (K:Nat):OkF 108 (Brg K):=
 Aa6 (x:=B1w K) (L:=[]) (c0:=bd Tryz.f108) (xkF (gC (But K) (gC (Bur K) (gC (Buu K) gN))) oN) (by intro a0 a1;show @Eq _ _ _;kernel_rfl) kN Tryz.func108 trivial
def Axd (K:Nat)(a0:Int)(a1:Int)(a2:Int):Option (Bool):=(bif (decide (a2≥0))then(bif (decide (a2≤a0))then((Abk K a1 0 (Aob .i64 a0 a2)).bind fun r1=>some r1)else some false)else some false)
def Brh:Sig:=⟨[.v 3,.v 3,.v 3],[.v 4],true⟩
def Bi2 (K:Nat):Gb tyU:=⟨Brh,Axd K⟩
def B1x (K:Nat):=xF Brh [(88,A3r K)] [] 21 [8,9,12,13,14] [] [] [] [.tmp 6]
theorem Bi3 (K:Nat):OkF 246 (Bi2 K):=
 Aa6 (x:=B1x K) (L:=[]) (c0:=bd Tryz.f246) (xkF (gC (Az0 K) gN) oN) (by intro a0 a1 a2;show @Eq _ _ _;kernel_rfl) kN Tryz.func246 trivial
def Avh (K:Nat)(a0:List Int)(a1:A9)(a2:Int)(a3:Int):Option (Int×Bool):=(bif (decide (a2<0))then some (0,false)else(bif (decide (a3<0))then some (0,false)else(bif (decide (a3>a1.Vu))then some (0,false)else(bif (decide (a2>(Aob .i64 a1.Vu a3)))then some (0,false)else(bif (decide ((Aoa .i64 a1.fAt a2)<0))then some (0,false)else((Axd K (a0.length:Int) (Aoa .i64 a1.fAt a2) a3).bind fun r1=>some ((Aoa .i64 a1.fAt a2),r1)))))))
def Bri:Sig:=⟨[.v 22,.v 89,.v 3,.v 3],[.v 3,.v 4],true⟩
def Brj (K:Nat):Gb tyU:=⟨Bri,Avh K⟩
def B1y (K:Nat):=xF Bri [(246,Bi2 K)] [] 43 [12,13,15,16,17,21,22,23] [] [] [] [.tmp 8,.tmp 9]
theorem Buw (K:Nat):OkF 185 (Brj K):=
 Aa6 (x:=B1y K) (L:=[]) (c0:=bd Tryz.f185) (xkF (gC (Bi3 K) gN) oN) (by intro a0 a1 a2 a3;show @Eq _ _ _;kernel_rfl) kN Tryz.func185 trivial
def Aw7 (K:Nat)(a0:List Int)(a1:Int)(a2:Int):Option ((List Int)×Bool):=((Axd K (a0.length:Int) a1 a2).bind fun r1=>(bif (!r1)then some ([],false)else(if(0:Int)≤a1∧a1≤(Aoa .i64 a1 a2)∧(Aoa .i64 a1 a2)≤(a0.length:Int)then((Ap1 K ((a0.drop a1.toNat).take ((Aoa .i64 a1 a2) - a1).toNat)).bind fun r2=>some (r2,true))else none)))
def Brk:Sig:=⟨[.v 22,.v 3,.v 3],[.n 22 true,.v 4],true⟩
def Brl (K:Nat):Gb tyU:=⟨Brk,Aw7 K⟩
def B1z (K:Nat):=xF Brk [(188,Bij K),(246,Bi2 K)] [] 21 [] [] [] [] [.tmp 6,.tmp 7]
theorem Bux (K:Nat):OkF 186 (Brl K):=
 Aa6 (x:=B1z K) (L:=[]) (c0:=bd Tryz.f186) (xkF (gC (Bik K) (gC (Bi3 K) gN)) oN) (by intro a0 a1 a2;show @Eq _ _ _;kernel_rfl) kN Tryz.func186 trivial
def Atb (K:Nat)(a0:List Int)(a1:A9)(a2:Int)(a3:Int):Option ((List Int)×Bool):=((Avh K a0 a1 a2 a3).bind fun r1=>(bif (!r1.2)then some ([],false)else((Aw7 K a0 r1.1 a3).bind fun r2=>some (r2.1,r2.2))))
def Brm:Sig:=⟨[.v 22,.v 89,.v 3,.v 3],[.n 22 true,.v 4],true⟩
def Brn (K:Nat):Gb tyU:=⟨Brm,Atb K⟩
def B10 (K:Nat):=xF Brm [(185,Brj K),(186,Brl K)] [] 28 [] [] [] [] [.tmp 8,.tmp 9]
theorem Buy (K:Nat):OkF 109 (Brn K):=
 Aa6 (x:=B10 K) (L:=[]) (c0:=bd Tryz.f109) (xkF (gC (Buw K) (gC (Bux K) gN)) oN) (by intro a0 a1 a2 a3;show @Eq _ _ _;kernel_rfl) kN Tryz.func109 trivial
def Atq (K:Nat)(v6:Fh)(v7:Fh)(v8:Eb)(v9:Int)(v10:Int)(v11:Int)(v12:Int)(v13:Int)(v14:Int)(v15:List Int)(v16:List Int)(v17:List Int)(v18:List Ba)(v19:List Ax)(v20:List Int):Option (Eb×Fh):=((Arj K (Eb.mk (Er.mk v9 v10 v11 v12 v13 v14) (Dw.mk v15 v16 v17) v18 v19 v20)).bind fun r21=>some (r21,v6))
def Awn (K:Nat)(a0:Eb)(a1:Fg)(a2:Int)(a3:Int):Option (Eb×Fh):=((Ave K a0).bind fun r1=>(bif (!r1)then((Axc K a0 1).bind fun r2=>some (r2.1,r2.2))else((Awb K a0 a1.fH).bind fun r3=>((Ata K a0 a1).bind fun r4=>(bif (r4.2.2==0)then((Atb K a0.fP.Fy r4.2.1 a2 a3).bind fun r5=>(bif (!r5.2)then(Atq K (Fh.mk 7 (Ct.mk 0 0) (Fg.mk (Ct.mk 0 0) 0 0) r5.1 r3 0 0) (Fh.mk 0 (Ct.mk 0 0) (Fg.mk (Ct.mk 0 0) 0 0) [] 0 0 0) (Eb.mk (Er.mk 0 0 0 0 0 0) (Dw.mk [] [] []) [] [] []) a0.fC.Ae a0.fC.Eg a0.fC.C0 a0.fC.E9 a0.fC.C1 a0.fC.Eh a0.fP.Fy a0.fP.Hh a0.fP.Fz a0.fL a0.fQ a0.Pr)else(Atq K (Fh.mk r4.2.2 (Ct.mk 0 0) (Fg.mk (Ct.mk 0 0) 0 0) r5.1 r3 0 0) (Fh.mk 0 (Ct.mk 0 0) (Fg.mk (Ct.mk 0 0) 0 0) [] 0 0 0) (Eb.mk (Er.mk 0 0 0 0 0 0) (Dw.mk [] [] []) [] [] []) a0.fC.Ae a0.fC.Eg a0.fC.C0 a0.fC.E9 a0.fC.C1 a0.fC.Eh a0.fP.Fy a0.fP.Hh a0.fP.Fz a0.fL a0.fQ a0.Pr)))else(Atq K (Fh.mk r4.2.2 (Ct.mk 0 0) (Fg.mk (Ct.mk 0 0) 0 0) [] r3 0 0) (Fh.mk 0 (Ct.mk 0 0) (Fg.mk (Ct.mk 0 0) 0 0) [] 0 0 0) (Eb.mk (Er.mk 0 0 0 0 0 0) (Dw.mk [] [] []) [] [] []) a0.fC.Ae a0.fC.Eg a0.fC.C0 a0.fC.E9 a0.fC.C1 a0.fC.Eh a0.fP.Fy a0.fP.Hh a0.fP.Fz a0.fL a0.fQ a0.Pr))))))
def s_150:Sig:=⟨[.v 32,.v 36,.v 3,.v 3],[.n 32 true,.n 69 true],true⟩
def Bro (K:Nat):Gb tyU:=⟨s_150,Awn K⟩
def Bi4 (K:Nat):=xF s_150 [(87,Bqp K),(89,Bq1 K),(90,Bip K),(91,Bq6 K),(108,Brg K),(109,Brn K)] [] 57 [] [(11,[.take 110 7 6767])] [] [63] [.cell 8 32,.cell 9 69]
def A4m:E5:=⟨[(4,.p 104),(8,.p 108),(9,.p 109),(10,.p 110)],[(110,.st 69 true),(109,.st 69 true),(108,.st 32 true),(104,.box [.v 2,.v 2,.v 2,.v 2,.v 2,.v 2,.v 22,.v 26,.v 26,.v 29,.v 30,.v 26])]⟩
def A4n (K:Nat)(q:PT A4m):Rt s_150:=Atq K q.1 q.2.1 q.2.2.1 q.2.2.2.1 q.2.2.2.2.1 q.2.2.2.2.2.1 q.2.2.2.2.2.2.1 q.2.2.2.2.2.2.2.1 q.2.2.2.2.2.2.2.2.1 q.2.2.2.2.2.2.2.2.2.1 q.2.2.2.2.2.2.2.2.2.2.1 q.2.2.2.2.2.2.2.2.2.2.2.1 q.2.2.2.2.2.2.2.2.2.2.2.2.1 q.2.2.2.2.2.2.2.2.2.2.2.2.2.1 q.2.2.2.2.2.2.2.2.2.2.2.2.2.2.1
theorem Bi5 (K:Nat):AtJ (Bi4 K) [] [] (bd Tryz.f44) 63 (A4n K):=fun q=>by kernel_rfl
theorem Bi6 (K:Nat):XF [.cell 8 32,.cell 9 69] s_150 57 [63] (Bi4 K):=xkF (gC (Bui K) (gC (Buo K) (gC (Biv K) (gC (Buq K) (gC (Buv K) (gC (Buy K) gN)))))) oN
theorem Bi7 (K:Nat):CF [.cell 8 32,.cell 9 69] s_150 57 [63] (bd Tryz.f44) [] 63 (ar A4m (A4n K)):=
 Apk (Bi6 K) (Bi5 K) kN
theorem Buz (K:Nat):OkF 44 (Bro K):=
 Aa6 (x:=Bi4 K) (L:=[(63,ar A4m (A4n K))]) (c0:=bd Tryz.f44) (Bi6 K) (by intro a0 a1 a2 a3;show @Eq _ _ _;kernel_rfl) (kC (Bi7 K) kN) Tryz.func44 trivial
def Ax7 (K:Nat)(a0:Er)(a1:Er):Option (Bool):=(bif (a0.Ae != a1.Ae)then some false else(bif (a0.Eg != a1.Eg)then some false else(bif (a0.C0 != a1.C0)then some false else(bif (a0.E9 != a1.E9)then some false else(bif (a0.C1 != a1.C1)then some false else(bif (a0.Eh != a1.Eh)then some false else some true))))))
def Brp:Sig:=⟨[.v 25,.v 25],[.v 4],true⟩
def Brq (K:Nat):Gb tyU:=⟨Brp,Ax7 K⟩
def B11 (K:Nat):=xF Brp [] [] 35 [] [] [] [] [.tmp 4]
theorem Bu0 (K:Nat):OkF 71 (Brq K):=
 Aa6 (x:=B11 K) (L:=[]) (c0:=bd Tryz.f71) (xkF gN oN) (by intro a0 a1;show @Eq _ _ _;kernel_rfl) kN Tryz.func71 trivial
def Atc (K:Nat)(a0:List Int)(a1:List Int):Nat->Int->Option (Bool)
 |0,_=>none
 |n1+1,v1=>(bif (decide (v1<(a0.length:Int)))then(if(0:Int)≤v1∧v1<(a0.length:Int)then(if(0:Int)≤v1∧v1<(a1.length:Int)then(bif ((gt a0 v1) != (gt a1 v1))then some false else(Atc K a0 a1 n1 (Aoa .i64 v1 1)))else none)else none)else some true)
def Ass (K:Nat)(a0:List Int)(a1:List Int):Option (Bool):=(bif ((a0.length:Int) != (a1.length:Int))then some false else(Atc K a0 a1 K 0))
def s_152:Sig:=⟨[.v 22,.v 22],[.v 4],true⟩
def Bi8 (K:Nat):Gb tyU:=⟨s_152,Ass K⟩
def Bi9 (K:Nat):=xF s_152 [] [] 26 [] [] [] [] [.tmp 4]
def A4o:E5:=⟨[(0,.v 22),(1,.v 22),(5,.v 2)],[]⟩
def A4p (K:Nat)(n:Nat)(q:PT A4o):Rt s_152:=Atc K q.1 q.2.1 n q.2.2.1
theorem Bja (K:Nat):AtL (Bi9 K) (fun n=>[]) [] (bd Tryz.f27) 58 (A4p K):=fun n q=>by kernel_rfl
theorem Bjb (K:Nat):XF [.tmp 4] s_152 26 [] (Bi9 K):=xkF gN oN
theorem Bjc (K:Nat)(n:Nat):CF [.tmp 4] s_152 26 [] (bd Tryz.f27) [] 58 (ar A4o (A4p K n)):=
 Aeh (Bjb K) (Bja K) (fun n=>kN) n
theorem Bjd (K:Nat):OkF 27 (Bi8 K):=
 Aa6 (x:=Bi9 K) (L:=[(58,ar A4o (A4p K K))]) (c0:=bd Tryz.f27) (Bjb K) (by intro a0 a1;show @Eq _ _ _;kernel_rfl) (kC (Bjc K K) kN) Tryz.func27 trivial
def Aud (K:Nat)(a0:List Int)(a1:List Int):Nat->Int->Option (Bool)
 |0,_=>none
 |n1+1,v1=>(bif (decide (v1<(a0.length:Int)))then(if(0:Int)≤v1∧v1<(a0.length:Int)then(if(0:Int)≤v1∧v1<(a1.length:Int)then(bif ((gt a0 v1) != (gt a1 v1))then some false else(Aud K a0 a1 n1 (Aoa .i64 v1 1)))else none)else none)else some true)
def An4 (K:Nat)(a0:List Int)(a1:List Int):Option (Bool):=(bif ((a0.length:Int) != (a1.length:Int))then some false else(Aud K a0 a1 K 0))
def s_153:Sig:=⟨[.v 26,.v 26],[.v 4],true⟩
def A97 (K:Nat):Gb tyU:=⟨s_153,An4 K⟩
def Bje (K:Nat):=xF s_153 [] [] 26 [] [] [] [] [.tmp 4]
def A4q:E5:=⟨[(0,.v 26),(1,.v 26),(5,.v 2)],[]⟩
def A4r (K:Nat)(n:Nat)(q:PT A4q):Rt s_153:=Aud K q.1 q.2.1 n q.2.2.1
theorem Bjf (K:Nat):AtL (Bje K) (fun n=>[]) [] (bd Tryz.f75) 58 (A4r K):=fun n q=>by kernel_rfl
theorem Bjg (K:Nat):XF [.tmp 4] s_153 26 [] (Bje K):=xkF gN oN
theorem Bjh (K:Nat)(n:Nat):CF [.tmp 4] s_153 26 [] (bd Tryz.f75) [] 58 (ar A4q (A4r K n)):=
 Aeh (Bjg K) (Bjf K) (fun n=>kN) n
theorem A81 (K:Nat):OkF 75 (A97 K):=
 Aa6 (x:=Bje K) (L:=[(58,ar A4q (A4r K K))]) (c0:=bd Tryz.f75) (Bjg K) (by intro a0 a1;show @Eq _ _ _;kernel_rfl) (kC (Bjh K K) kN) Tryz.func75 trivial
def Ax8 (K:Nat)(a0:Dw)(a1:Dw):Option (Bool):=((Ass K a0.Fy a1.Fy).bind fun r1=>(bif (!r1)then some false else((An4 K a0.Hh a1.Hh).bind fun r2=>(bif (!r2)then some false else((An4 K a0.Fz a1.Fz).bind fun r3=>(bif (!r3)then some false else some true))))))
def Brr:Sig:=⟨[.v 28,.v 28],[.v 4],true⟩
def Brs (K:Nat):Gb tyU:=⟨Brr,Ax8 K⟩
def B12 (K:Nat):=xF Brr [(27,Bi8 K),(75,A97 K)] [] 23 [] [] [] [] [.tmp 4]
theorem Bu1 (K:Nat):OkF 72 (Brs K):=
 Aa6 (x:=B12 K) (L:=[]) (c0:=bd Tryz.f72) (xkF (gC (Bjd K) (gC (A81 K) gN)) oN) (by intro a0 a1;show @Eq _ _ _;kernel_rfl) kN Tryz.func72 trivial
def Ast (K:Nat)(a0:A9)(a1:A9):Option (Bool):=(bif (a0.fAt != a1.fAt)then some false else(bif (a0.Vu != a1.Vu)then some false else(bif (a0.Vv != a1.Vv)then some false else some true)))
def Brt:Sig:=⟨[.v 89,.v 89],[.v 4],true⟩
def Bru (K:Nat):Gb tyU:=⟨Brt,Ast K⟩
def B13 (K:Nat):=xF Brt [] [] 20 [] [] [] [] [.tmp 4]
theorem Bu2 (K:Nat):OkF 263 (Bru K):=
 Aa6 (x:=B13 K) (L:=[]) (c0:=bd Tryz.f263) (xkF gN oN) (by intro a0 a1;show @Eq _ _ _;kernel_rfl) kN Tryz.func263 trivial
def Aqz (K:Nat)(a0:List A9)(a1:List A9):Nat->Int->Option (Bool)
 |0,_=>none
 |n1+1,v1=>(bif (decide (v1<(a0.length:Int)))then(if(0:Int)≤v1∧v1<(a0.length:Int)then(if(0:Int)≤v1∧v1<(a1.length:Int)then((Ast K (gt a0 v1) (gt a1 v1)).bind fun r2=>(bif (!r2)then some false else(Aqz K a0 a1 n1 (Aoa .i64 v1 1))))else none)else none)else some true)
def Aue (K:Nat)(a0:List A9)(a1:List A9):Option (Bool):=(bif ((a0.length:Int) != (a1.length:Int))then some false else(Aqz K a0 a1 K 0))
def s_156:Sig:=⟨[.v 41,.v 41],[.v 4],true⟩
def Brv (K:Nat):Gb tyU:=⟨s_156,Aue K⟩
def Bji (K:Nat):=xF s_156 [(263,Bru K)] [] 27 [] [] [] [] [.tmp 4]
def A4s:E5:=⟨[(0,.v 41),(1,.v 41),(5,.v 2)],[]⟩
def A4t (K:Nat)(n:Nat)(q:PT A4s):Rt s_156:=Aqz K q.1 q.2.1 n q.2.2.1
theorem Bjj (K:Nat):AtL (Bji K) (fun n=>[]) [] (bd Tryz.f208) 58 (A4t K):=fun n q=>by kernel_rfl
theorem Bjk (K:Nat):XF [.tmp 4] s_156 27 [] (Bji K):=xkF (gC (Bu2 K) gN) oN
theorem Bjl (K:Nat)(n:Nat):CF [.tmp 4] s_156 27 [] (bd Tryz.f208) [] 58 (ar A4s (A4t K n)):=
 Aeh (Bjk K) (Bjj K) (fun n=>kN) n
theorem Bu3 (K:Nat):OkF 208 (Brv K):=
 Aa6 (x:=Bji K) (L:=[(58,ar A4s (A4t K K))]) (c0:=bd Tryz.f208) (Bjk K) (by intro a0 a1;show @Eq _ _ _;kernel_rfl) (kC (Bjl K K) kN) Tryz.func208 trivial
def Atr (K:Nat)(a0:Ba)(a1:Ba):Option (Bool):=(bif (a0.Hh != a1.Hh)then some false else(bif (a0.C2 != a1.C2)then some false else(bif (a0.Ly != a1.Ly)then some false else(bif (a0.fUp != a1.fUp)then some false else(bif (a0.Gq != a1.Gq)then some false else(bif (a0.Bt != a1.Bt)then some false else(bif (a0.Gr != a1.Gr)then some false else(bif (a0.Gs != a1.Gs)then some false else((An4 K a0.Ae a1.Ae).bind fun r1=>(bif (!r1)then some false else(bif (a0.Pq != a1.Pq)then some false else(bif (a0.Gt != a1.Gt)then some false else((Aue K a0.Ea a1.Ea).bind fun r2=>(bif (!r2)then some false else((An4 K a0.Dg a1.Dg).bind fun r3=>(bif (!r3)then some false else some true))))))))))))))))
def Brw:Sig:=⟨[.v 44,.v 44],[.v 4],true⟩
def Brx (K:Nat):Gb tyU:=⟨Brw,Atr K⟩
def B14 (K:Nat):=xF Brw [(75,A97 K),(208,Brv K)] [] 73 [] [] [] [] [.tmp 4]
theorem Bu4 (K:Nat):OkF 134 (Brx K):=
 Aa6 (x:=B14 K) (L:=[]) (c0:=bd Tryz.f134) (xkF (gC (A81 K) (gC (Bu3 K) gN)) oN) (by intro a0 a1;show @Eq _ _ _;kernel_rfl) kN Tryz.func134 trivial
def Arl (K:Nat)(a0:List Ba)(a1:List Ba):Nat->Int->Option (Bool)
 |0,_=>none
 |n1+1,v1=>(bif (decide (v1<(a0.length:Int)))then(if(0:Int)≤v1∧v1<(a0.length:Int)then(if(0:Int)≤v1∧v1<(a1.length:Int)then((Atr K (gt a0 v1) (gt a1 v1)).bind fun r2=>(bif (!r2)then some false else(Arl K a0 a1 n1 (Aoa .i64 v1 1))))else none)else none)else some true)
def Avi (K:Nat)(a0:List Ba)(a1:List Ba):Option (Bool):=(bif ((a0.length:Int) != (a1.length:Int))then some false else(Arl K a0 a1 K 0))
def s_158:Sig:=⟨[.v 29,.v 29],[.v 4],true⟩
def Bry (K:Nat):Gb tyU:=⟨s_158,Avi K⟩
def Bjm (K:Nat):=xF s_158 [(134,Brx K)] [] 27 [] [] [] [] [.tmp 4]
def A4u:E5:=⟨[(0,.v 29),(1,.v 29),(5,.v 2)],[]⟩
def A4v (K:Nat)(n:Nat)(q:PT A4u):Rt s_158:=Arl K q.1 q.2.1 n q.2.2.1
theorem Bjn (K:Nat):AtL (Bjm K) (fun n=>[]) [] (bd Tryz.f73) 58 (A4v K):=fun n q=>by kernel_rfl
theorem Bjo (K:Nat):XF [.tmp 4] s_158 27 [] (Bjm K):=xkF (gC (Bu4 K) gN) oN
theorem Bjp (K:Nat)(n:Nat):CF [.tmp 4] s_158 27 [] (bd Tryz.f73) [] 58 (ar A4u (A4v K n)):=
 Aeh (Bjo K) (Bjn K) (fun n=>kN) n
theorem Bu5 (K:Nat):OkF 73 (Bry K):=
 Aa6 (x:=Bjm K) (L:=[(58,ar A4u (A4v K K))]) (c0:=bd Tryz.f73) (Bjo K) (by intro a0 a1;show @Eq _ _ _;kernel_rfl) (kC (Bjp K K) kN) Tryz.func73 trivial
def Asu (K:Nat)(a0:Ax)(a1:Ax):Option (Bool):=(bif (a0.A5 != a1.A5)then some false else(bif (a0.Bt != a1.Bt)then some false else((An4 K a0.Dg a1.Dg).bind fun r1=>(bif (!r1)then some false else((An4 K a0.Ae a1.Ae).bind fun r2=>(bif (!r2)then some false else(bif (a0.Gu != a1.Gu)then some false else some true)))))))
def Brz:Sig:=⟨[.v 159,.v 159],[.v 4],true⟩
def Br0 (K:Nat):Gb tyU:=⟨Brz,Asu K⟩
def B15 (K:Nat):=xF Brz [(75,A97 K)] [] 32 [] [] [] [] [.tmp 4]
theorem Bu6 (K:Nat):OkF 135 (Br0 K):=
 Aa6 (x:=B15 K) (L:=[]) (c0:=bd Tryz.f135) (xkF (gC (A81 K) gN) oN) (by intro a0 a1;show @Eq _ _ _;kernel_rfl) kN Tryz.func135 trivial
def Aq0 (K:Nat)(a0:List Ax)(a1:List Ax):Nat->Int->Option (Bool)
 |0,_=>none
 |n1+1,v1=>(bif (decide (v1<(a0.length:Int)))then(if(0:Int)≤v1∧v1<(a0.length:Int)then(if(0:Int)≤v1∧v1<(a1.length:Int)then((Asu K (gt a0 v1) (gt a1 v1)).bind fun r2=>(bif (!r2)then some false else(Aq0 K a0 a1 n1 (Aoa .i64 v1 1))))else none)else none)else some true)
def Auf (K:Nat)(a0:List Ax)(a1:List Ax):Option (Bool):=(bif ((a0.length:Int) != (a1.length:Int))then some false else(Aq0 K a0 a1 K 0))
def s_160:Sig:=⟨[.v 30,.v 30],[.v 4],true⟩
def Br1 (K:Nat):Gb tyU:=⟨s_160,Auf K⟩
def Bjq (K:Nat):=xF s_160 [(135,Br0 K)] [] 27 [] [] [] [] [.tmp 4]
def A4w:E5:=⟨[(0,.v 30),(1,.v 30),(5,.v 2)],[]⟩
def A4x (K:Nat)(n:Nat)(q:PT A4w):Rt s_160:=Aq0 K q.1 q.2.1 n q.2.2.1
theorem Bjr (K:Nat):AtL (Bjq K) (fun n=>[]) [] (bd Tryz.f74) 58 (A4x K):=fun n q=>by kernel_rfl
theorem Bjs (K:Nat):XF [.tmp 4] s_160 27 [] (Bjq K):=xkF (gC (Bu6 K) gN) oN
theorem Bjt (K:Nat)(n:Nat):CF [.tmp 4] s_160 27 [] (bd Tryz.f74) [] 58 (ar A4w (A4x K n)):=
 Aeh (Bjs K) (Bjr K) (fun n=>kN) n
theorem Bu7 (K:Nat):OkF 74 (Br1 K):=
 Aa6 (x:=Bjq K) (L:=[(58,ar A4w (A4x K K))]) (c0:=bd Tryz.f74) (Bjs K) (by intro a0 a1;show @Eq _ _ _;kernel_rfl) (kC (Bjt K K) kN) Tryz.func74 trivial
def Aqi (K:Nat)(a0:Eb)(a1:Eb):Option (Bool):=((Ax7 K a0.fC a1.fC).bind fun r1=>(bif (!r1)then some false else((Ax8 K a0.fP a1.fP).bind fun r2=>(bif (!r2)then some false else((Avi K a0.fL a1.fL).bind fun r3=>(bif (!r3)then some false else((Auf K a0.fQ a1.fQ).bind fun r4=>(bif (!r4)then some false else((An4 K a0.Pr a1.Pr).bind fun r5=>(bif (!r5)then some false else some true))))))))))
def Br2:Sig:=⟨[.v 32,.v 32],[.v 4],true⟩
def Br3 (K:Nat):Gb tyU:=⟨Br2,Aqi K⟩
def B16 (K:Nat):=xF Br2 [(71,Brq K),(72,Brs K),(73,Bry K),(74,Br1 K),(75,A97 K)] [] 35 [] [] [] [] [.tmp 4]
theorem Bu8 (K:Nat):OkF 23 (Br3 K):=
 Aa6 (x:=B16 K) (L:=[]) (c0:=bd Tryz.f23) (xkF (gC (Bu0 K) (gC (Bu1 K) (gC (Bu5 K) (gC (Bu7 K) (gC (A81 K) gN))))) oN) (by intro a0 a1;show @Eq _ _ _;kernel_rfl) kN Tryz.func23 trivial
def Aug (K:Nat)(a0:Ct)(a1:Ct):Option (Bool):=(bif (a0.A5 != a1.A5)then some false else(bif (a0.C2 != a1.C2)then some false else some true))
def Br4:Sig:=⟨[.v 34,.v 34],[.v 4],true⟩
def Bju (K:Nat):Gb tyU:=⟨Br4,Aug K⟩
def B17 (K:Nat):=xF Br4 [] [] 15 [] [] [] [] [.tmp 4]
theorem Bjv (K:Nat):OkF 93 (Bju K):=
 Aa6 (x:=B17 K) (L:=[]) (c0:=bd Tryz.f93) (xkF gN oN) (by intro a0 a1;show @Eq _ _ _;kernel_rfl) kN Tryz.func93 trivial
def Ayp (K:Nat)(a0:Fg)(a1:Fg):Option (Bool):=((Aug K a0.fH a1.fH).bind fun r1=>(bif (!r1)then some false else(bif (a0.Ly != a1.Ly)then some false else(bif (a0.fNo != a1.fNo)then some false else some true))))
def Br5:Sig:=⟨[.v 36,.v 36],[.v 4],true⟩
def Br6 (K:Nat):Gb tyU:=⟨Br5,Ayp K⟩
def B18 (K:Nat):=xF Br5 [(93,Bju K)] [] 21 [] [] [] [] [.tmp 4]
theorem Bu9 (K:Nat):OkF 94 (Br6 K):=
 Aa6 (x:=B18 K) (L:=[]) (c0:=bd Tryz.f94) (xkF (gC (Bjv K) gN) oN) (by intro a0 a1;show @Eq _ _ _;kernel_rfl) kN Tryz.func94 trivial
def Atd (K:Nat)(a0:Fh)(a1:Fh):Option (Bool):=(bif (a0.W9 != a1.W9)then some false else((Aug K a0.fH a1.fH).bind fun r1=>(bif (!r1)then some false else((Ayp K a0.fR a1.fR).bind fun r2=>(bif (!r2)then some false else((Ass K a0.fB a1.fB).bind fun r3=>(bif (!r3)then some false else(bif (a0.Xa != a1.Xa)then some false else(bif (a0.E9 != a1.E9)then some false else(bif (a0.Ps != a1.Ps)then some false else some true))))))))))
def Br7:Sig:=⟨[.v 69,.v 69],[.v 4],true⟩
def Br8 (K:Nat):Gb tyU:=⟨Br7,Atd K⟩
def B19 (K:Nat):=xF Br7 [(27,Bi8 K),(93,Bju K),(94,Br6 K)] [] 43 [] [] [] [] [.tmp 4]
theorem Bva (K:Nat):OkF 33 (Br8 K):=
 Aa6 (x:=B19 K) (L:=[]) (c0:=bd Tryz.f33) (xkF (gC (Bjd K) (gC (Bjv K) (gC (Bu9 K) gN))) oN) (by intro a0 a1;show @Eq _ _ _;kernel_rfl) kN Tryz.func33 trivial
def Aqj (K:Nat):Nat->(List Int)->Int->Int->Option (Int×(List Int))
 |0,_,_,_=>none
 |n1+1,v1,v2,v3=>(bif (decide (v3<(v1.length:Int)))then(if(0:Int)≤v3∧v3<(v1.length:Int)then(Aqj K n1 (v1.set v3.toNat (IntKind.u8.wrap v2)) (Aoa .i64 v2 1) (Aoa .i64 v3 1))else none)else some (v2,v1))
def Arm (K:Nat)(a0:List Int)(a1:Int):Option (Int×(List Int)):=(Aqj K K a0 a1 0)
def s_165:Sig:=⟨[.w 22 true [(5,true)],.v 3],[.v 3],true⟩
def Bjw (K:Nat):Gb tyU:=⟨s_165,Arm K⟩
def Bjx (K:Nat):=xF s_165 [] [] 20 [] [] [] [] [.tmp 4]
def A4y:E5:=⟨[(0,.o 1 5 true),(1,.v 2),(5,.v 2)],[]⟩
def A4z (K:Nat)(n:Nat)(q:PT A4y):Rt s_165:=Aqj K n q.1 q.2.1 q.2.2.1
theorem Bjy (K:Nat):AtL (Bjx K) (fun n=>[]) [] (bd Tryz.f29) 26 (A4z K):=fun n q=>by kernel_rfl
theorem Bjz (K:Nat):XF [.tmp 4] s_165 20 [] (Bjx K):=xkF gN oN
theorem Bj0 (K:Nat)(n:Nat):CF [.tmp 4] s_165 20 [] (bd Tryz.f29) [] 26 (ar A4y (A4z K n)):=
 Aeh (Bjz K) (Bjy K) (fun n=>kN) n
theorem Bj1 (K:Nat):OkF 29 (Bjw K):=
 Aa6 (x:=Bjx K) (L:=[(26,ar A4y (A4z K K))]) (c0:=bd Tryz.f29) (Bjz K) (by intro a0 a1;show @Eq _ _ _;kernel_rfl) (kC (Bj0 K K) kN) Tryz.func29 ⟨fun _=>rfl,trivial⟩
def Aq1 (K:Nat):Nat->(List Int)->Int->Int->Option (Int×(List Int))
 |0,_,_,_=>none
 |n1+1,v1,v2,v3=>(bif (decide (v3<(v1.length:Int)))then(if(0:Int)≤v3∧v3<(v1.length:Int)then(Aq1 K n1 (v1.set v3.toNat v2) (Aoa .i64 v2 1) (Aoa .i64 v3 1))else none)else some (v2,v1))
def Ald (K:Nat)(a0:List Int)(a1:Int):Option (Int×(List Int)):=(Aq1 K K a0 a1 0)
def s_166:Sig:=⟨[.w 26 true [(3,true)],.v 3],[.v 3],true⟩
def A98 (K:Nat):Gb tyU:=⟨s_166,Ald K⟩
def Bj2 (K:Nat):=xF s_166 [] [] 19 [] [] [] [] [.tmp 4]
def A40:E5:=⟨[(0,.o 1 3 true),(1,.v 2),(5,.v 2)],[]⟩
def A41 (K:Nat)(n:Nat)(q:PT A40):Rt s_166:=Aq1 K n q.1 q.2.1 q.2.2.1
theorem Bj3 (K:Nat):AtL (Bj2 K) (fun n=>[]) [] (bd Tryz.f81) 26 (A41 K):=fun n q=>by kernel_rfl
theorem Bj4 (K:Nat):XF [.tmp 4] s_166 19 [] (Bj2 K):=xkF gN oN
theorem Bj5 (K:Nat)(n:Nat):CF [.tmp 4] s_166 19 [] (bd Tryz.f81) [] 26 (ar A40 (A41 K n)):=
 Aeh (Bj4 K) (Bj3 K) (fun n=>kN) n
theorem A82 (K:Nat):OkF 81 (A98 K):=
 Aa6 (x:=Bj2 K) (L:=[(26,ar A40 (A41 K K))]) (c0:=bd Tryz.f81) (Bj4 K) (by intro a0 a1;show @Eq _ _ _;kernel_rfl) (kC (Bj5 K K) kN) Tryz.func81 ⟨fun _=>rfl,trivial⟩
def Auh (K:Nat)(a0:Dw)(a1:Int):Option (Int×(List Int)×(List Int)×(List Int)):=((Arm K a0.Fy a1).bind fun r1=>(if r1.2.length=a0.Fy.length then((Ald K a0.Hh r1.1).bind fun r2=>(if r2.2.length=a0.Hh.length then((Ald K a0.Fz r2.1).bind fun r3=>(if r3.2.length=a0.Fz.length then some (r3.1,r1.2,r2.2,r3.2)else none))else none))else none))
def Br9:Sig:=⟨[.w 28 true [(5,true),(3,true),(3,true)],.v 3],[.v 3],true⟩
def Bsa (K:Nat):Gb tyU:=⟨Br9,Auh K⟩
def B2a (K:Nat):=xF Br9 [(29,Bjw K),(81,A98 K)] [] 18 [] [] [] [] [.tmp 4]
theorem Bvb (K:Nat):OkF 78 (Bsa K):=
 Aa6 (x:=B2a K) (L:=[]) (c0:=bd Tryz.f78) (xkF (gC (Bj1 K) (gC (A82 K) gN)) oN) (by intro a0 a1;show @Eq _ _ _;kernel_rfl) kN Tryz.func78 ⟨fun _=>rfl,trivial⟩
def Alo (K:Nat):Nat->(List A9)->Int->Int->Option (Int×(List A9))
 |0,_,_,_=>none
 |n1+1,v1,v2,v3=>(bif (decide (v3<(v1.length:Int)))then(if(0:Int)≤v3∧v3<(v1.length:Int)then(if(0:Int)≤v3∧v3<((v1.set v3.toNat (A9.mk v2 ((gt v1 v3).Vu) ((gt v1 v3).Vv))).length:Int)then(Aql ((v1.set v3.toNat (A9.mk v2 ((gt v1 v3).Vu) ((gt v1 v3).Vv))).set v3.toNat (A9.mk ((gt (v1.set v3.toNat (A9.mk v2 ((gt v1 v3).Vu) ((gt v1 v3).Vv))) v3).fAt) (Aoa .i64 v2 1) ((gt (v1.set v3.toNat (A9.mk v2 ((gt v1 v3).Vu) ((gt v1 v3).Vv))) v3).Vv))) fun v4=>(if(0:Int)≤v3∧v3<(v4.length:Int)then(Alo K n1 (v4.set v3.toNat (A9.mk ((gt v4 v3).fAt) ((gt v4 v3).Vu) (Aoa .i64 (Aoa .i64 v2 1) 1))) (Aoa .i64 (Aoa .i64 (Aoa .i64 v2 1) 1) 1) (Aoa .i64 v3 1))else none))else none)else none)else some (v2,v1))
def Ase (K:Nat)(a0:List A9)(a1:Int):Option (Int×(List A9)):=(Alo K K a0 a1 0)
def s_168:Sig:=⟨[.w 41 true [(89,true)],.v 3],[.v 3],true⟩
def Bsb (K:Nat):Gb tyU:=⟨s_168,Ase K⟩
def Bj6 (K:Nat):=xF s_168 [] [] 34 [] [] [] [] [.tmp 4]
def A42:E5:=⟨[(0,.o 1 89 true),(1,.v 2),(5,.v 2)],[]⟩
def A43 (K:Nat)(n:Nat)(q:PT A42):Rt s_168:=Alo K n q.1 q.2.1 q.2.2.1
theorem Bj7 (K:Nat):AtL (Bj6 K) (fun n=>[]) [] (bd Tryz.f136) 26 (A43 K):=fun n q=>by kernel_rfl
theorem Bj8 (K:Nat):XF [.tmp 4] s_168 34 [] (Bj6 K):=xkF gN oN
theorem Bj9 (K:Nat)(n:Nat):CF [.tmp 4] s_168 34 [] (bd Tryz.f136) [] 26 (ar A42 (A43 K n)):=
 Aeh (Bj8 K) (Bj7 K) (fun n=>kN) n
theorem Bvc (K:Nat):OkF 136 (Bsb K):=
 Aa6 (x:=Bj6 K) (L:=[(26,ar A42 (A43 K K))]) (c0:=bd Tryz.f136) (Bj8 K) (by intro a0 a1;show @Eq _ _ _;kernel_rfl) (kC (Bj9 K K) kN) Tryz.func136 ⟨fun _=>rfl,trivial⟩
def Anl (K:Nat):Nat->(List Ba)->Int->Int->Option (Int×(List Ba))
 |0,_,_,_=>none
 |n1+1,v1,v2,v3=>(bif (decide (v3<(v1.length:Int)))then(if(0:Int)≤v3∧v3<(v1.length:Int)then(Aql (v1.set v3.toNat (Ba.mk v2 ((gt v1 v3).C2) ((gt v1 v3).Ly) ((gt v1 v3).fUp) ((gt v1 v3).Gq) ((gt v1 v3).Bt) ((gt v1 v3).Gr) ((gt v1 v3).Gs) ((gt v1 v3).Ae) ((gt v1 v3).Pq) ((gt v1 v3).Gt) ((gt v1 v3).Ea) ((gt v1 v3).Dg))) fun v4=>(if(0:Int)≤v3∧v3<(v4.length:Int)then(Aql (v4.set v3.toNat (Ba.mk ((gt v4 v3).Hh) (Aoa .i64 v2 1) ((gt v4 v3).Ly) ((gt v4 v3).fUp) ((gt v4 v3).Gq) ((gt v4 v3).Bt) ((gt v4 v3).Gr) ((gt v4 v3).Gs) ((gt v4 v3).Ae) ((gt v4 v3).Pq) ((gt v4 v3).Gt) ((gt v4 v3).Ea) ((gt v4 v3).Dg))) fun v5=>(if(0:Int)≤v3∧v3<(v5.length:Int)then(Aql (v5.set v3.toNat (Ba.mk ((gt v5 v3).Hh) ((gt v5 v3).C2) (Aoa .i64 (Aoa .i64 v2 1) 1) ((gt v5 v3).fUp) ((gt v5 v3).Gq) ((gt v5 v3).Bt) ((gt v5 v3).Gr) ((gt v5 v3).Gs) ((gt v5 v3).Ae) ((gt v5 v3).Pq) ((gt v5 v3).Gt) ((gt v5 v3).Ea) ((gt v5 v3).Dg))) fun v6=>(if(0:Int)≤v3∧v3<(v6.length:Int)then(Aql (v6.set v3.toNat (Ba.mk ((gt v6 v3).Hh) ((gt v6 v3).C2) ((gt v6 v3).Ly) (Aoa .i64 (Aoa .i64 (Aoa .i64 v2 1) 1) 1) ((gt v6 v3).Gq) ((gt v6 v3).Bt) ((gt v6 v3).Gr) ((gt v6 v3).Gs) ((gt v6 v3).Ae) ((gt v6 v3).Pq) ((gt v6 v3).Gt) ((gt v6 v3).Ea) ((gt v6 v3).Dg))) fun v7=>(if(0:Int)≤v3∧v3<(v7.length:Int)then(Aql (v7.set v3.toNat (Ba.mk ((gt v7 v3).Hh) ((gt v7 v3).C2) ((gt v7 v3).Ly) ((gt v7 v3).fUp) (Aoa .i64 (Aoa .i64 (Aoa .i64 (Aoa .i64 v2 1) 1) 1) 1) ((gt v7 v3).Bt) ((gt v7 v3).Gr) ((gt v7 v3).Gs) ((gt v7 v3).Ae) ((gt v7 v3).Pq) ((gt v7 v3).Gt) ((gt v7 v3).Ea) ((gt v7 v3).Dg))) fun v8=>(if(0:Int)≤v3∧v3<(v8.length:Int)then(Aql (v8.set v3.toNat (Ba.mk ((gt v8 v3).Hh) ((gt v8 v3).C2) ((gt v8 v3).Ly) ((gt v8 v3).fUp) ((gt v8 v3).Gq) (Aoa .i64 (Aoa .i64 (Aoa .i64 (Aoa .i64 (Aoa .i64 v2 1) 1) 1) 1) 1) ((gt v8 v3).Gr) ((gt v8 v3).Gs) ((gt v8 v3).Ae) ((gt v8 v3).Pq) ((gt v8 v3).Gt) ((gt v8 v3).Ea) ((gt v8 v3).Dg))) fun v9=>(if(0:Int)≤v3∧v3<(v9.length:Int)then(Aql (v9.set v3.toNat (Ba.mk ((gt v9 v3).Hh) ((gt v9 v3).C2) ((gt v9 v3).Ly) ((gt v9 v3).fUp) ((gt v9 v3).Gq) ((gt v9 v3).Bt) (Aoa .i64 (Aoa .i64 (Aoa .i64 (Aoa .i64 (Aoa .i64 (Aoa .i64 v2 1) 1) 1) 1) 1) 1) ((gt v9 v3).Gs) ((gt v9 v3).Ae) ((gt v9 v3).Pq) ((gt v9 v3).Gt) ((gt v9 v3).Ea) ((gt v9 v3).Dg))) fun v10=>(if(0:Int)≤v3∧v3<(v10.length:Int)then(Aql (v10.set v3.toNat (Ba.mk ((gt v10 v3).Hh) ((gt v10 v3).C2) ((gt v10 v3).Ly) ((gt v10 v3).fUp) ((gt v10 v3).Gq) ((gt v10 v3).Bt) ((gt v10 v3).Gr) (Aoa .i64 (Aoa .i64 (Aoa .i64 (Aoa .i64 (Aoa .i64 (Aoa .i64 (Aoa .i64 v2 1) 1) 1) 1) 1) 1) 1) ((gt v10 v3).Ae) ((gt v10 v3).Pq) ((gt v10 v3).Gt) ((gt v10 v3).Ea) ((gt v10 v3).Dg))) fun v11=>(if(0:Int)≤v3∧v3<(v11.length:Int)then(if(0:Int)≤v3∧v3<(v11.length:Int)then((Ald K ((gt v11 v3).Ae) (Aoa .i64 (Aoa .i64 (Aoa .i64 (Aoa .i64 (Aoa .i64 (Aoa .i64 (Aoa .i64 (Aoa .i64 v2 1) 1) 1) 1) 1) 1) 1) 1)).bind fun r12=>(if r12.2.length=((gt v11 v3).Ae).length then(if(0:Int)≤v3∧v3<(v11.length:Int)then(if(0:Int)≤v3∧v3<(v11.length:Int)then(if(0:Int)≤v3∧v3<(v11.length:Int)then((Ase K ((gt v11 v3).Ea) (Aoa .i64 (Aoa .i64 r12.1 1) 1)).bind fun r13=>(if r13.2.length=((gt v11 v3).Ea).length then(if(0:Int)≤v3∧v3<(v11.length:Int)then((Ald K ((gt v11 v3).Dg) r13.1).bind fun r14=>(if r14.2.length=((gt v11 v3).Dg).length then(Anl K n1 (v11.set v3.toNat (Ba.mk ((gt v11 v3).Hh) ((gt v11 v3).C2) ((gt v11 v3).Ly) ((gt v11 v3).fUp) ((gt v11 v3).Gq) ((gt v11 v3).Bt) ((gt v11 v3).Gr) ((gt v11 v3).Gs) r12.2 r12.1 (Aoa .i64 r12.1 1) r13.2 r14.2)) r14.1 (Aoa .i64 v3 1))else none))else none)else none))else none)else none)else none)else none))else none)else none))else none))else none))else none))else none))else none))else none))else none))else none)else some (v2,v1))
def Ate (K:Nat)(a0:List Ba)(a1:Int):Option (Int×(List Ba)):=(Anl K K a0 a1 0)
def s_169:Sig:=⟨[.w 29 true [(44,true)],.v 3],[.v 3],true⟩
def Bsc (K:Nat):Gb tyU:=⟨s_169,Ate K⟩
def Bka (K:Nat):=xF s_169 [(81,A98 K),(136,Bsb K)] [] 104 [] [(20,[.opn 1 (.tmp 5),.takeE 1 8 40072]),(25,[.takeE 1 11 40075]),(26,[.takeE 1 12 40076])] [] [] [.tmp 4]
def A44:E5:=⟨[(0,.o 1 44 true),(1,.v 2),(5,.v 2)],[]⟩
def A45 (K:Nat)(n:Nat)(q:PT A44):Rt s_169:=Anl K n q.1 q.2.1 q.2.2.1
theorem Bkb (K:Nat):AtL (Bka K) (fun n=>[]) [] (bd Tryz.f79) 26 (A45 K):=fun n q=>by kernel_rfl
theorem Bkc (K:Nat):XF [.tmp 4] s_169 104 [] (Bka K):=xkF (gC (A82 K) (gC (Bvc K) gN)) oN
theorem Bkd (K:Nat)(n:Nat):CF [.tmp 4] s_169 104 [] (bd Tryz.f79) [] 26 (ar A44 (A45 K n)):=
 Aeh (Bkc K) (Bkb K) (fun n=>kN) n
theorem Bvd (K:Nat):OkF 79 (Bsc K):=
 Aa6 (x:=Bka K) (L:=[(26,ar A44 (A45 K K))]) (c0:=bd Tryz.f79) (Bkc K) (by intro a0 a1;show @Eq _ _ _;kernel_rfl) (kC (Bkd K K) kN) Tryz.func79 ⟨fun _=>rfl,trivial⟩
def Al3 (K:Nat):Nat->(List Ax)->Int->Int->Option (Int×(List Ax))
 |0,_,_,_=>none
 |n1+1,v1,v2,v3=>(bif (decide (v3<(v1.length:Int)))then(if(0:Int)≤v3∧v3<(v1.length:Int)then(if(0:Int)≤v3∧v3<((v1.set v3.toNat (Ax.mk v2 ((gt v1 v3).Bt) ((gt v1 v3).Dg) ((gt v1 v3).Ae) ((gt v1 v3).Gu))).length:Int)then(Aql ((v1.set v3.toNat (Ax.mk v2 ((gt v1 v3).Bt) ((gt v1 v3).Dg) ((gt v1 v3).Ae) ((gt v1 v3).Gu))).set v3.toNat (Ax.mk ((gt (v1.set v3.toNat (Ax.mk v2 ((gt v1 v3).Bt) ((gt v1 v3).Dg) ((gt v1 v3).Ae) ((gt v1 v3).Gu))) v3).A5) (Aoa .i64 v2 1) ((gt (v1.set v3.toNat (Ax.mk v2 ((gt v1 v3).Bt) ((gt v1 v3).Dg) ((gt v1 v3).Ae) ((gt v1 v3).Gu))) v3).Dg) ((gt (v1.set v3.toNat (Ax.mk v2 ((gt v1 v3).Bt) ((gt v1 v3).Dg) ((gt v1 v3).Ae) ((gt v1 v3).Gu))) v3).Ae) ((gt (v1.set v3.toNat (Ax.mk v2 ((gt v1 v3).Bt) ((gt v1 v3).Dg) ((gt v1 v3).Ae) ((gt v1 v3).Gu))) v3).Gu))) fun v4=>(if(0:Int)≤v3∧v3<(v4.length:Int)then(if(0:Int)≤v3∧v3<(v4.length:Int)then((Ald K ((gt v4 v3).Dg) (Aoa .i64 (Aoa .i64 v2 1) 1)).bind fun r5=>(if r5.2.length=((gt v4 v3).Dg).length then(if(0:Int)≤v3∧v3<(v4.length:Int)then((Ald K ((gt v4 v3).Ae) r5.1).bind fun r6=>(if r6.2.length=((gt v4 v3).Ae).length then(if(0:Int)≤v3∧v3<(v4.length:Int)then(Al3 K n1 (v4.set v3.toNat (Ax.mk ((gt v4 v3).A5) ((gt v4 v3).Bt) r5.2 r6.2 r6.1)) (Aoa .i64 r6.1 1) (Aoa .i64 v3 1))else none)else none))else none)else none))else none)else none))else none)else none)else some (v2,v1))
def Asf (K:Nat)(a0:List Ax)(a1:Int):Option (Int×(List Ax)):=(Al3 K K a0 a1 0)
def s_170:Sig:=⟨[.w 30 true [(159,true)],.v 3],[.v 3],true⟩
def Bsd (K:Nat):Gb tyU:=⟨s_170,Asf K⟩
def Bke (K:Nat):=xF s_170 [(81,A98 K)] [] 48 [] [(8,[.opn 1 (.tmp 5),.takeE 1 2 40066]),(9,[.takeE 1 3 40067])] [] [] [.tmp 4]
def A46:E5:=⟨[(0,.o 1 159 true),(1,.v 2),(5,.v 2)],[]⟩
def A47 (K:Nat)(n:Nat)(q:PT A46):Rt s_170:=Al3 K n q.1 q.2.1 q.2.2.1
theorem Bkf (K:Nat):AtL (Bke K) (fun n=>[]) [] (bd Tryz.f80) 26 (A47 K):=fun n q=>by kernel_rfl
theorem Bkg (K:Nat):XF [.tmp 4] s_170 48 [] (Bke K):=xkF (gC (A82 K) gN) oN
theorem Bkh (K:Nat)(n:Nat):CF [.tmp 4] s_170 48 [] (bd Tryz.f80) [] 26 (ar A46 (A47 K n)):=
 Aeh (Bkg K) (Bkf K) (fun n=>kN) n
theorem Bve (K:Nat):OkF 80 (Bsd K):=
 Aa6 (x:=Bke K) (L:=[(26,ar A46 (A47 K K))]) (c0:=bd Tryz.f80) (Bkg K) (by intro a0 a1;show @Eq _ _ _;kernel_rfl) (kC (Bkh K K) kN) Tryz.func80 ⟨fun _=>rfl,trivial⟩
def Arn (K:Nat)(a0:Eb)(a1:Int):Option (Int×(List Int)×(List Int)×(List Int)×(List Ba)×(List Ax)×(List Int)):=((Auh K a0.fP a1).bind fun r1=>(if r1.2.1.length=a0.fP.Fy.length∧r1.2.2.1.length=a0.fP.Hh.length∧r1.2.2.2.length=a0.fP.Fz.length then((Ate K a0.fL r1.1).bind fun r2=>(if r2.2.length=a0.fL.length then((Asf K a0.fQ r2.1).bind fun r3=>(if r3.2.length=a0.fQ.length then((Ald K a0.Pr r3.1).bind fun r4=>(if r4.2.length=a0.Pr.length then some (r4.1,r1.2.1,r1.2.2.1,r1.2.2.2,r2.2,r3.2,r4.2)else none))else none))else none))else none))
def Bse:Sig:=⟨[.w 32 true [(5,true),(3,true),(3,true),(44,true),(159,true),(3,true)],.v 3],[.v 3],true⟩
def Bsf (K:Nat):Gb tyU:=⟨Bse,Arn K⟩
def B2b (K:Nat):=xF Bse [(78,Bsa K),(79,Bsc K),(80,Bsd K),(81,A98 K)] [] 22 [] [] [] [] [.tmp 4]
theorem Bvf (K:Nat):OkF 28 (Bsf K):=
 Aa6 (x:=B2b K) (L:=[]) (c0:=bd Tryz.f28) (xkF (gC (Bvb K) (gC (Bvd K) (gC (Bve K) (gC (A82 K) gN)))) oN) (by intro a0 a1;show @Eq _ _ _;kernel_rfl) kN Tryz.func28 ⟨fun _=>rfl,trivial⟩
def Avj (K:Nat)(a0:Fh)(a1:Int):Option (Int×(List Int)):=((Arm K a0.fB a1).bind fun r1=>(if r1.2.length=a0.fB.length then some (r1.1,r1.2)else none))
def Bsg:Sig:=⟨[.w 69 true [(5,true)],.v 3],[.v 3],true⟩
def Bsh (K:Nat):Gb tyU:=⟨Bsg,Avj K⟩
def B2c (K:Nat):=xF Bsg [(29,Bjw K)] [] 10 [] [] [] [] [.tmp 4]
theorem Bvg (K:Nat):OkF 34 (Bsh K):=
 Aa6 (x:=B2c K) (L:=[]) (c0:=bd Tryz.f34) (xkF (gC (Bj1 K) gN) oN) (by intro a0 a1;show @Eq _ _ _;kernel_rfl) kN Tryz.func34 ⟨fun _=>rfl,trivial⟩
def Aqk (K:Nat)(a0:List Int):Nat->Int->Int->Option (Int)
 |0,_,_=>none
 |n1+1,v1,v2=>(bif (decide (v2<(a0.length:Int)))then(if(0:Int)≤v2∧v2<(a0.length:Int)then(bif ((gt a0 v2) != (IntKind.u8.wrap v1))then some (-1)else(Aqk K a0 n1 (Aoa .i64 v1 1) (Aoa .i64 v2 1)))else none)else some v1)
def Aro (K:Nat)(a0:List Int)(a1:Int):Option (Int):=(Aqk K a0 K a1 0)
def s_173:Sig:=⟨[.v 22,.v 3],[.v 3],true⟩
def Bki (K:Nat):Gb tyU:=⟨s_173,Aro K⟩
def Bkj (K:Nat):=xF s_173 [] [] 22 [] [] [] [] [.tmp 4]
def A48:E5:=⟨[(0,.v 22),(1,.v 2),(5,.v 2)],[]⟩
def A49 (K:Nat)(n:Nat)(q:PT A48):Rt s_173:=Aqk K q.1 n q.2.1 q.2.2.1
theorem Bkk (K:Nat):AtL (Bkj K) (fun n=>[]) [] (bd Tryz.f30) 26 (A49 K):=fun n q=>by kernel_rfl
theorem Bkl (K:Nat):XF [.tmp 4] s_173 22 [] (Bkj K):=xkF gN oN
theorem Bkm (K:Nat)(n:Nat):CF [.tmp 4] s_173 22 [] (bd Tryz.f30) [] 26 (ar A48 (A49 K n)):=
 Aeh (Bkl K) (Bkk K) (fun n=>kN) n
theorem Bkn (K:Nat):OkF 30 (Bki K):=
 Aa6 (x:=Bkj K) (L:=[(26,ar A48 (A49 K K))]) (c0:=bd Tryz.f30) (Bkl K) (by intro a0 a1;show @Eq _ _ _;kernel_rfl) (kC (Bkm K K) kN) Tryz.func30 trivial
def Aq2 (K:Nat)(a0:List Int):Nat->Int->Int->Option (Int)
 |0,_,_=>none
 |n1+1,v1,v2=>(bif (decide (v2<(a0.length:Int)))then(if(0:Int)≤v2∧v2<(a0.length:Int)then(bif ((gt a0 v2) != v1)then some (-1)else(Aq2 K a0 n1 (Aoa .i64 v1 1) (Aoa .i64 v2 1)))else none)else some v1)
def Ale (K:Nat)(a0:List Int)(a1:Int):Option (Int):=(Aq2 K a0 K a1 0)
def s_174:Sig:=⟨[.v 26,.v 3],[.v 3],true⟩
def A99 (K:Nat):Gb tyU:=⟨s_174,Ale K⟩
def Bko (K:Nat):=xF s_174 [] [] 21 [] [] [] [] [.tmp 4]
def A5a:E5:=⟨[(0,.v 26),(1,.v 2),(5,.v 2)],[]⟩
def A5b (K:Nat)(n:Nat)(q:PT A5a):Rt s_174:=Aq2 K q.1 n q.2.1 q.2.2.1
theorem Bkp (K:Nat):AtL (Bko K) (fun n=>[]) [] (bd Tryz.f98) 26 (A5b K):=fun n q=>by kernel_rfl
theorem Bkq (K:Nat):XF [.tmp 4] s_174 21 [] (Bko K):=xkF gN oN
theorem Bkr (K:Nat)(n:Nat):CF [.tmp 4] s_174 21 [] (bd Tryz.f98) [] 26 (ar A5a (A5b K n)):=
 Aeh (Bkq K) (Bkp K) (fun n=>kN) n
theorem A83 (K:Nat):OkF 98 (A99 K):=
 Aa6 (x:=Bko K) (L:=[(26,ar A5a (A5b K K))]) (c0:=bd Tryz.f98) (Bkq K) (by intro a0 a1;show @Eq _ _ _;kernel_rfl) (kC (Bkr K K) kN) Tryz.func98 trivial
def Awu (K:Nat)(a0:Dw)(a1:Int):Option (Int):=((Aro K a0.Fy a1).bind fun r1=>(bif (decide (r1<0))then some (-1)else((Ale K a0.Hh r1).bind fun r2=>(bif (decide (r2<0))then some (-1)else((Ale K a0.Fz r2).bind fun r3=>(bif (decide (r3<0))then some (-1)else some r3))))))
def Bsi:Sig:=⟨[.v 28,.v 3],[.v 3],true⟩
def Bsj (K:Nat):Gb tyU:=⟨Bsi,Awu K⟩
def B2d (K:Nat):=xF Bsi [(30,Bki K),(98,A99 K)] [] 24 [] [] [] [] [.tmp 4]
theorem Bvh (K:Nat):OkF 95 (Bsj K):=
 Aa6 (x:=B2d K) (L:=[]) (c0:=bd Tryz.f95) (xkF (gC (Bkn K) (gC (A83 K) gN)) oN) (by intro a0 a1;show @Eq _ _ _;kernel_rfl) kN Tryz.func95 trivial
def Al4 (K:Nat)(a0:List A9):Nat->Int->Int->Option (Int)
 |0,_,_=>none
 |n1+1,v1,v2=>(bif (decide (v2<(a0.length:Int)))then(if(0:Int)≤v2∧v2<(a0.length:Int)then(bif (((gt a0 v2).fAt) != v1)then some (-1)else(if(0:Int)≤v2∧v2<(a0.length:Int)then(bif (((gt a0 v2).Vu) != (Aoa .i64 v1 1))then some (-1)else(if(0:Int)≤v2∧v2<(a0.length:Int)then(bif (((gt a0 v2).Vv) != (Aoa .i64 (Aoa .i64 v1 1) 1))then some (-1)else(Al4 K a0 n1 (Aoa .i64 (Aoa .i64 (Aoa .i64 v1 1) 1) 1) (Aoa .i64 v2 1)))else none))else none))else none)else some v1)
def Asg (K:Nat)(a0:List A9)(a1:Int):Option (Int):=(Al4 K a0 K a1 0)
def s_176:Sig:=⟨[.v 41,.v 3],[.v 3],true⟩
def Bsk (K:Nat):Gb tyU:=⟨s_176,Asg K⟩
def Bks (K:Nat):=xF s_176 [] [] 40 [] [] [] [] [.tmp 4]
def A5c:E5:=⟨[(0,.v 41),(1,.v 2),(5,.v 2)],[]⟩
def A5d (K:Nat)(n:Nat)(q:PT A5c):Rt s_176:=Al4 K q.1 n q.2.1 q.2.2.1
theorem Bkt (K:Nat):AtL (Bks K) (fun n=>[]) [] (bd Tryz.f166) 26 (A5d K):=fun n q=>by kernel_rfl
theorem Bku (K:Nat):XF [.tmp 4] s_176 40 [] (Bks K):=xkF gN oN
theorem Bkv (K:Nat)(n:Nat):CF [.tmp 4] s_176 40 [] (bd Tryz.f166) [] 26 (ar A5c (A5d K n)):=
 Aeh (Bku K) (Bkt K) (fun n=>kN) n
theorem Bvi (K:Nat):OkF 166 (Bsk K):=
 Aa6 (x:=Bks K) (L:=[(26,ar A5c (A5d K K))]) (c0:=bd Tryz.f166) (Bku K) (by intro a0 a1;show @Eq _ _ _;kernel_rfl) (kC (Bkv K K) kN) Tryz.func166 trivial
def Anm (K:Nat)(a0:List Ba):Nat->Int->Int->Option (Int)
 |0,_,_=>none
 |n1+1,v1,v2=>(bif (decide (v2<(a0.length:Int)))then(if(0:Int)≤v2∧v2<(a0.length:Int)then(bif (((gt a0 v2).Hh) != v1)then some (-1)else(if(0:Int)≤v2∧v2<(a0.length:Int)then(bif (((gt a0 v2).C2) != (Aoa .i64 v1 1))then some (-1)else(if(0:Int)≤v2∧v2<(a0.length:Int)then(bif (((gt a0 v2).Ly) != (Aoa .i64 (Aoa .i64 v1 1) 1))then some (-1)else(if(0:Int)≤v2∧v2<(a0.length:Int)then(bif (((gt a0 v2).fUp) != (Aoa .i64 (Aoa .i64 (Aoa .i64 v1 1) 1) 1))then some (-1)else(if(0:Int)≤v2∧v2<(a0.length:Int)then(bif (((gt a0 v2).Gq) != (Aoa .i64 (Aoa .i64 (Aoa .i64 (Aoa .i64 v1 1) 1) 1) 1))then some (-1)else(if(0:Int)≤v2∧v2<(a0.length:Int)then(bif (((gt a0 v2).Bt) != (Aoa .i64 (Aoa .i64 (Aoa .i64 (Aoa .i64 (Aoa .i64 v1 1) 1) 1) 1) 1))then some (-1)else(if(0:Int)≤v2∧v2<(a0.length:Int)then(bif (((gt a0 v2).Gr) != (Aoa .i64 (Aoa .i64 (Aoa .i64 (Aoa .i64 (Aoa .i64 (Aoa .i64 v1 1) 1) 1) 1) 1) 1))then some (-1)else(if(0:Int)≤v2∧v2<(a0.length:Int)then(bif (((gt a0 v2).Gs) != (Aoa .i64 (Aoa .i64 (Aoa .i64 (Aoa .i64 (Aoa .i64 (Aoa .i64 (Aoa .i64 v1 1) 1) 1) 1) 1) 1) 1))then some (-1)else(if(0:Int)≤v2∧v2<(a0.length:Int)then((Ale K ((gt a0 v2).Ae) (Aoa .i64 (Aoa .i64 (Aoa .i64 (Aoa .i64 (Aoa .i64 (Aoa .i64 (Aoa .i64 (Aoa .i64 v1 1) 1) 1) 1) 1) 1) 1) 1)).bind fun r3=>(bif (decide (r3<0))then some (-1)else(if(0:Int)≤v2∧v2<(a0.length:Int)then(bif (((gt a0 v2).Pq) != r3)then some (-1)else(if(0:Int)≤v2∧v2<(a0.length:Int)then(bif (((gt a0 v2).Gt) != (Aoa .i64 r3 1))then some (-1)else(if(0:Int)≤v2∧v2<(a0.length:Int)then((Asg K ((gt a0 v2).Ea) (Aoa .i64 (Aoa .i64 r3 1) 1)).bind fun r4=>(bif (decide (r4<0))then some (-1)else(if(0:Int)≤v2∧v2<(a0.length:Int)then((Ale K ((gt a0 v2).Dg) r4).bind fun r5=>(bif (decide (r5<0))then some (-1)else(Anm K a0 n1 r5 (Aoa .i64 v2 1))))else none)))else none))else none))else none)))else none))else none))else none))else none))else none))else none))else none))else none))else none)else some v1)
def Atf (K:Nat)(a0:List Ba)(a1:Int):Option (Int):=(Anm K a0 K a1 0)
def s_177:Sig:=⟨[.v 29,.v 3],[.v 3],true⟩
def Bsl (K:Nat):Gb tyU:=⟨s_177,Atf K⟩
def Bkw (K:Nat):=xF s_177 [(98,A99 K),(166,Bsk K)] [] 130 [] [] [] [] [.tmp 4]
def A5e:E5:=⟨[(0,.v 29),(1,.v 2),(5,.v 2)],[]⟩
def A5f (K:Nat)(n:Nat)(q:PT A5e):Rt s_177:=Anm K q.1 n q.2.1 q.2.2.1
theorem Bkx (K:Nat):AtL (Bkw K) (fun n=>[]) [] (bd Tryz.f96) 26 (A5f K):=fun n q=>by kernel_rfl
theorem Bky (K:Nat):XF [.tmp 4] s_177 130 [] (Bkw K):=xkF (gC (A83 K) (gC (Bvi K) gN)) oN
theorem Bkz (K:Nat)(n:Nat):CF [.tmp 4] s_177 130 [] (bd Tryz.f96) [] 26 (ar A5e (A5f K n)):=
 Aeh (Bky K) (Bkx K) (fun n=>kN) n
theorem Bvj (K:Nat):OkF 96 (Bsl K):=
 Aa6 (x:=Bkw K) (L:=[(26,ar A5e (A5f K K))]) (c0:=bd Tryz.f96) (Bky K) (by intro a0 a1;show @Eq _ _ _;kernel_rfl) (kC (Bkz K K) kN) Tryz.func96 trivial
def Al5 (K:Nat)(a0:List Ax):Nat->Int->Int->Option (Int)
 |0,_,_=>none
 |n1+1,v1,v2=>(bif (decide (v2<(a0.length:Int)))then(if(0:Int)≤v2∧v2<(a0.length:Int)then(bif (((gt a0 v2).A5) != v1)then some (-1)else(if(0:Int)≤v2∧v2<(a0.length:Int)then(bif (((gt a0 v2).Bt) != (Aoa .i64 v1 1))then some (-1)else(if(0:Int)≤v2∧v2<(a0.length:Int)then((Ale K ((gt a0 v2).Dg) (Aoa .i64 (Aoa .i64 v1 1) 1)).bind fun r3=>(bif (decide (r3<0))then some (-1)else(if(0:Int)≤v2∧v2<(a0.length:Int)then((Ale K ((gt a0 v2).Ae) r3).bind fun r4=>(bif (decide (r4<0))then some (-1)else(if(0:Int)≤v2∧v2<(a0.length:Int)then(bif (((gt a0 v2).Gu) != r4)then some (-1)else(Al5 K a0 n1 (Aoa .i64 r4 1) (Aoa .i64 v2 1)))else none)))else none)))else none))else none))else none)else some v1)
def Ash (K:Nat)(a0:List Ax)(a1:Int):Option (Int):=(Al5 K a0 K a1 0)
def s_178:Sig:=⟨[.v 30,.v 3],[.v 3],true⟩
def Bsm (K:Nat):Gb tyU:=⟨s_178,Ash K⟩
def Bk0 (K:Nat):=xF s_178 [(98,A99 K)] [] 58 [] [] [] [] [.tmp 4]
def A5g:E5:=⟨[(0,.v 30),(1,.v 2),(5,.v 2)],[]⟩
def A5h (K:Nat)(n:Nat)(q:PT A5g):Rt s_178:=Al5 K q.1 n q.2.1 q.2.2.1
theorem Bk1 (K:Nat):AtL (Bk0 K) (fun n=>[]) [] (bd Tryz.f97) 26 (A5h K):=fun n q=>by kernel_rfl
theorem Bk2 (K:Nat):XF [.tmp 4] s_178 58 [] (Bk0 K):=xkF (gC (A83 K) gN) oN
theorem Bk3 (K:Nat)(n:Nat):CF [.tmp 4] s_178 58 [] (bd Tryz.f97) [] 26 (ar A5g (A5h K n)):=
 Aeh (Bk2 K) (Bk1 K) (fun n=>kN) n
theorem Bvk (K:Nat):OkF 97 (Bsm K):=
 Aa6 (x:=Bk0 K) (L:=[(26,ar A5g (A5h K K))]) (c0:=bd Tryz.f97) (Bk2 K) (by intro a0 a1;show @Eq _ _ _;kernel_rfl) (kC (Bk3 K K) kN) Tryz.func97 trivial
def Arp (K:Nat)(a0:Eb)(a1:Int):Option (Int):=((Awu K a0.fP a1).bind fun r1=>(bif (decide (r1<0))then some (-1)else((Atf K a0.fL r1).bind fun r2=>(bif (decide (r2<0))then some (-1)else((Ash K a0.fQ r2).bind fun r3=>(bif (decide (r3<0))then some (-1)else((Ale K a0.Pr r3).bind fun r4=>(bif (decide (r4<0))then some (-1)else some r4))))))))
def Bsn:Sig:=⟨[.v 32,.v 3],[.v 3],true⟩
def Bso (K:Nat):Gb tyU:=⟨Bsn,Arp K⟩
def B2e (K:Nat):=xF Bsn [(95,Bsj K),(96,Bsl K),(97,Bsm K),(98,A99 K)] [] 30 [] [] [] [] [.tmp 4]
theorem Bvl (K:Nat):OkF 35 (Bso K):=
 Aa6 (x:=B2e K) (L:=[]) (c0:=bd Tryz.f35) (xkF (gC (Bvh K) (gC (Bvj K) (gC (Bvk K) (gC (A83 K) gN)))) oN) (by intro a0 a1;show @Eq _ _ _;kernel_rfl) kN Tryz.func35 trivial
def Asv (K:Nat)(a0:Fh)(a1:Int):Option (Int):=((Aro K a0.fB a1).bind fun r1=>(bif (decide (r1<0))then some (-1)else some r1))
def Bsp:Sig:=⟨[.v 69,.v 3],[.v 3],true⟩
def Bsq (K:Nat):Gb tyU:=⟨Bsp,Asv K⟩
def B2f (K:Nat):=xF Bsp [(30,Bki K)] [] 12 [] [] [] [] [.tmp 4]
theorem Bvm (K:Nat):OkF 36 (Bsq K):=
 Aa6 (x:=B2f K) (L:=[]) (c0:=bd Tryz.f36) (xkF (gC (Bkn K) gN) oN) (by intro a0 a1;show @Eq _ _ _;kernel_rfl) kN Tryz.func36 trivial
def Aru (K:Nat)(a0:Ec)(a1:Ge)(a2:Int)(a3:Int):Option (Bool):=((Aqd K a0 1048576).bind fun r1=>(bif (decide (r1<0))then some true else((Aqe K a0).bind fun r2=>((Auw K a1).bind fun r3=>((Axx K r2 r3 a2 a3).bind fun r4=>((Aqe K a0).bind fun r5=>((Auw K a1).bind fun r6=>((Awn K r5 r6 a2 a3).bind fun r7=>((Aqi K r7.1 r4.1).bind fun r8=>(bif r8 then((Atd K r7.2 r4.2).bind fun r9=>(bif (!r9)then some false else((Aqe K a0).bind fun r10=>((Aqi K r5 r10).bind fun r11=>(bif (!r11)then some false else((Arn K r5 1).bind fun r12=>(if r12.2.1.length=r5.fP.Fy.length∧r12.2.2.1.length=r5.fP.Hh.length∧r12.2.2.2.1.length=r5.fP.Fz.length∧r12.2.2.2.2.1.length=r5.fL.length∧r12.2.2.2.2.2.1.length=r5.fQ.length∧r12.2.2.2.2.2.2.length=r5.Pr.length then(bif (decide (r12.1<0))then some false else((Aqi K r7.1 r4.1).bind fun r13=>(bif r13 then((Atd K r7.2 r4.2).bind fun r14=>(bif (!r14)then some false else((Arn K r7.1 1).bind fun r15=>(if r15.2.1.length=r7.1.fP.Fy.length∧r15.2.2.1.length=r7.1.fP.Hh.length∧r15.2.2.2.1.length=r7.1.fP.Fz.length∧r15.2.2.2.2.1.length=r7.1.fL.length∧r15.2.2.2.2.2.1.length=r7.1.fQ.length∧r15.2.2.2.2.2.2.length=r7.1.Pr.length then((Avj K r7.2 r15.1).bind fun r16=>(if r16.2.length=r7.2.fB.length then((Arp K (Eb.mk r7.1.fC (Dw.mk r15.2.1 r15.2.2.1 r15.2.2.2.1) r15.2.2.2.2.1 r15.2.2.2.2.2.1 r15.2.2.2.2.2.2) 1).bind fun r17=>(bif (decide (r17<0))then some false else((Asv K (Fh.mk r7.2.W9 r7.2.fH r7.2.fR r16.2 r7.2.Xa r7.2.E9 r7.2.Ps) r17).bind fun r18=>(bif (decide (r18<0))then some false else(bif (r18 != r16.1)then some false else((Aqe K a0).bind fun r19=>((Auw K a1).bind fun r20=>((Awn K r19 r20 a2 a3).bind fun r21=>((Aqi K r21.1 r4.1).bind fun r22=>(bif r22 then((Atd K r21.2 r4.2).bind fun r23=>(bif (!r23)then some false else((Arp K (Eb.mk r7.1.fC (Dw.mk r15.2.1 r15.2.2.1 r15.2.2.2.1) r15.2.2.2.2.1 r15.2.2.2.2.2.1 r15.2.2.2.2.2.2) 1).bind fun r24=>(bif (decide (r24<0))then some false else((Asv K (Fh.mk r7.2.W9 r7.2.fH r7.2.fR r16.2 r7.2.Xa r7.2.E9 r7.2.Ps) r24).bind fun r25=>(bif (decide (r25<0))then some false else(bif (r25 != r16.1)then some false else some true)))))))else some false))))))))))else none))else none))))else some false)))else none)))))))else some false))))))))))
def Bsr:Sig:=⟨[.v 52,.v 61,.v 3,.v 3],[.v 4],true⟩
def B2g (K:Nat):Gb tyU:=⟨Bsr,Aru K⟩
def B2h (K:Nat):=xF Bsr [(18,c_8 K),(20,Bwo K),(23,Br3 K),(25,Bwu K),(28,Bsf K),(33,Br8 K),(34,Bsh K),(35,Bso K),(36,Bsq K),(43,Bzt K),(44,Bro K)] [] 130 [48,49,50,65,66,69,70,71,72,109,110,111] [] [] [] [.tmp 8]
theorem Bvn (K:Nat):OkF 10 (B2g K):=
 Aa6 (x:=B2h K) (L:=[]) (c0:=bd Tryz.f10) (xkF (gC (B2z K) (gC (Bwp K) (gC (Bu8 K) (gC (Bwv K) (gC (Bvf K) (gC (Bva K) (gC (Bvg K) (gC (Bvl K) (gC (Bvm K) (gC (Bzu K) (gC (Buz K) gN))))))))))) oN) (by intro a0 a1 a2 a3;show @Eq _ _ _;kernel_rfl) kN Tryz.func10 trivial
end
end Go.Proofs.YtjdblamhaljjbaaGreat
