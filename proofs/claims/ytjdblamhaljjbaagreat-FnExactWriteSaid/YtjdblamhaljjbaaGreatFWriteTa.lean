/- What the functions compute that FnExactWrite reaches, and that they do; no condition. Printed by gen3.py. -/
import Derived.Test.YtjdblamhaljjbaaGreatFSrt
set_option linter.all false
set_option maxRecDepth 20000
namespace Go.Proofs.YtjdblamhaljjbaaGreat
open Go.Eng
noncomputable section
abbrev bd (f:Func):Code:=f.body.getD .skip
abbrev PT (h:E5):Type:=Am tyU h.codes
abbrev Rt (s:Sig):Type:=Option (Au tyU s.codes)
abbrev CT (h:E5)(s:Sig):Type:=Am tyU h.codes->Option (Au tyU s.codes)
abbrev ar{s:Sig}(h:E5)(M:CT h s):SS Ah->Rt s:=arr tyU tab h M
def xF (s:Sig)(G:List (Nat×Gb tyU))(O:List (Nat×List (Nat×Gb tyU)))(N:Nat)(spl:List Nat)(pre post:List (Nat×List Cmd))(js:List Nat)(rl:List ResultVar)(L B:Λt tyU s):Ox tyU (Au tyU s.codes):=⟨G,O,eqT eqs,N,spl,pre,post,js,L,B,Afh tyU tab s rl⟩
abbrev XF (rl:List ResultVar)(s:Sig)(N:Nat)(js:List Nat)(x:Λt tyU s->Λt tyU s->Ox tyU (Au tyU s.codes)):Prop:=XOk tyU tab Tryz.prog rl s N js x
theorem B2u:Tryz.prog.follows .mixedOrders=true:=by kernel_rfl
theorem xkF{rl:List ResultVar}{s:Sig}{N:Nat}{js:List Nat}{G:List (Nat×Gb tyU)}{O:List (Nat×List (Nat×Gb tyU))}{spl:List Nat}{pre post:List (Nat×List Cmd)}(hΓ: ∀f c,lk G f=some c->Gb.Ok tyU Tryz.prog f c∧E2 Tryz.prog f)(hov: ∀d l,lk O d=some l-> ∀f c,lk l f=some c->Gb.Ok tyU Tryz.prog f c∧E2 Tryz.prog f):XF rl s N js (xF s G O N spl pre post js rl):=xok Aqp B2u hΓ hov Apo
abbrev OkF (f:FuncId)(c:Gb tyU):Prop:=Gb.Ok tyU Tryz.prog f c∧E2 Tryz.prog f
abbrev CF (rl:List ResultVar)(s:Sig)(N:Nat)(js:List Nat)(c:Code)(B:Λt tyU s)(p:Nat)(f:SS Ah->Rt s):Prop:=Cut tyU tab Tryz.prog rl s N js c B p f
abbrev EqF (s:Sig)(x:Ox tyU (Au tyU s.codes))(c:Code)(m:Wk tyU s.ps (Rt s)):Prop:=Uy tyU tab x c s.ps 0 [] [] m
abbrev AtL{s:Sig}{h:E5}(x:Λt tyU s->Λt tyU s->Ox tyU (Au tyU s.codes))(L:Nat->Λt tyU s)(B:Λt tyU s)(c:Code)(p:Nat)(M:Nat->CT h s):Prop:= ∀n q,M (n+1) q=Aff tyU tab (x (L n) ((p,ar h (M n))::B)) c (2*p) (h.emb tyU q)
abbrev AtJ{s:Sig}{h:E5}(x:Λt tyU s->Λt tyU s->Ox tyU (Au tyU s.codes))(L B:Λt tyU s)(c:Code)(p:Nat)(M:CT h s):Prop:= ∀q,M q=Aff tyU tab (x L B) c (2*p+1) (h.emb tyU q)
theorem Aeg{rl:List ResultVar}{s:Sig}{N:Nat}{js:List Nat}{x:Λt tyU s->Λt tyU s->Ox tyU (Au tyU s.codes)}{c:Code}{L:Nat->Λt tyU s}{B:Λt tyU s}{p:Nat}{h:E5}{M:Nat->CT h s}(hx:XF rl s N js x)(e:AtL x L B c p M)(hc: ∀n,Vs tyU tab Tryz.prog rl s N js c ((p,ar h (M n))::B) (L n))(n:Nat)(hp:Nat.ble 1 p=true:=by rfl)(hk:Tc js c p=true:=by kernel_rfl)(e0: ∀q,M 0 q=none:=by intro q;rfl):CF rl s N js c B p (ar h (M n)):=Amn hx hp hk e0 e hc n
theorem Apm{rl:List ResultVar}{s:Sig}{N:Nat}{js:List Nat}{x:Λt tyU s->Λt tyU s->Ox tyU (Au tyU s.codes)}{c:Code}{L B:Λt tyU s}{p:Nat}{h:E5}{M:CT h s}(hx:XF rl s N js x)(e:AtJ x L B c p M)(hc:Vs tyU tab Tryz.prog rl s N js c B L)(hp:Nat.ble 1 p=true:=by rfl):CF rl s N js c B p (ar h M):=Amm hx hp e hc
theorem Aa6{rl:List ResultVar}{s:Sig}{N:Nat}{js:List Nat}{x:Λt tyU s->Λt tyU s->Ox tyU (Au tyU s.codes)}{c0:Code}(hx:XF rl s N js x){L:Λt tyU s}{f:FuncId}{fn:Func}{m:Wk tyU s.ps (Rt s)}(e:EqF s (x L []) c0 m)(hc:Vs tyU tab Tryz.prog rl s N js c0 [] L)(hf:Tryz.prog.funcs[f]? =some fn)(hs:W8 tyU s.ps)(h1:(fn.name== "runtime.NumGoroutine")=false:=by rfl)(h2:fn.body=some c0:=by rfl)(h3:fn.results=rl.toArray:=by rfl)(h4:fn.ntmps=N:=by rfl)(h5:Nat.ble s.ps.length N=true:=by rfl)(h6:Nat.ble (A8 s.ps+1) 100=true:=by rfl)(h7:Nat.ble rl.length 4=true:=by rfl):OkF f ⟨s,m⟩:=Ao1 hx Apn e hc hf h1 h2 h3 h4 h5 h6 h7 hs
def Auv (K:Nat)(a0:List Int)(a1:Int):Option (Int):=(bif (decide ((Aob .i64 a1 (a0.length:Int))<0))then some (-1)else some (Aob .i64 a1 (a0.length:Int)))
def s_0:Sig:=⟨[.v 22,.v 3],[.v 3],true⟩
def c_0 (K:Nat):Gb tyU:=⟨s_0,Auv K⟩
def x_0 (K:Nat):=xF s_0 [] [] 12 [] [] [] [] [.tmp 4]
theorem B2v (K:Nat):OkF 127 (c_0 K):=
 Aa6 (x:=x_0 K) (L:=[]) (c0:=bd Tryz.f127) (xkF gN oN) (by intro a0 a1;show @Eq _ _ _;kernel_rfl) kN Tryz.func127 trivial
def An2 (K:Nat)(a0:List Int)(a1:Int):Option (Int):=(bif (decide ((Aob .i64 a1 (a0.length:Int))<0))then some (-1)else some (Aob .i64 a1 (a0.length:Int)))
def s_1:Sig:=⟨[.v 26,.v 3],[.v 3],true⟩
def c_1 (K:Nat):Gb tyU:=⟨s_1,An2 K⟩
def x_1 (K:Nat):=xF s_1 [] [] 12 [] [] [] [] [.tmp 4]
theorem Blw (K:Nat):OkF 63 (c_1 K):=
 Aa6 (x:=x_1 K) (L:=[]) (c0:=bd Tryz.f63) (xkF gN oN) (by intro a0 a1;show @Eq _ _ _;kernel_rfl) kN Tryz.func63 trivial
def Atn (K:Nat)(a0:Dx)(a1:Int):Option (Int):=((Auv K a0.Fy a1).bind fun r1=>(bif (decide (r1<0))then some (-1)else((An2 K a0.Hh r1).bind fun r2=>(bif (decide (r2<0))then some (-1)else((An2 K a0.Fz r2).bind fun r3=>(bif (decide (r3<0))then some (-1)else some r3))))))
def s_2:Sig:=⟨[.v 48,.v 3],[.v 3],true⟩
def c_2 (K:Nat):Gb tyU:=⟨s_2,Atn K⟩
def x_2 (K:Nat):=xF s_2 [(63,c_1 K),(127,c_0 K)] [] 24 [] [] [] [] [.tmp 4]
theorem B2w (K:Nat):OkF 60 (c_2 K):=
 Aa6 (x:=x_2 K) (L:=[]) (c0:=bd Tryz.f60) (xkF (gC (Blw K) (gC (B2v K) gN)) oN) (by intro a0 a1;show @Eq _ _ _;kernel_rfl) kN Tryz.func60 trivial
def Atu (K:Nat)(a0:List Bb)(a1:Int):Option (Int):=(bif (decide ((Aob .i64 a1 (a0.length:Int))<0))then some (-1)else some (Aob .i64 a1 (a0.length:Int)))
def s_3:Sig:=⟨[.v 152,.v 3],[.v 3],true⟩
def c_3 (K:Nat):Gb tyU:=⟨s_3,Atu K⟩
def x_3 (K:Nat):=xF s_3 [] [] 12 [] [] [] [] [.tmp 4]
theorem B2x (K:Nat):OkF 200 (c_3 K):=
 Aa6 (x:=x_3 K) (L:=[]) (c0:=bd Tryz.f200) (xkF gN oN) (by intro a0 a1;show @Eq _ _ _;kernel_rfl) kN Tryz.func200 trivial
def Aqa (K:Nat)(a0:Bc)(a1:Int):Option (Int):=((An2 K a0.Ae a1).bind fun r1=>(bif (decide (r1<0))then some (-1)else((Atu K a0.Ea r1).bind fun r2=>(bif (decide (r2<0))then some (-1)else((An2 K a0.Dg r2).bind fun r3=>(bif (decide (r3<0))then some (-1)else some r3))))))
def s_4:Sig:=⟨[.v 154,.v 3],[.v 3],true⟩
def c_4 (K:Nat):Gb tyU:=⟨s_4,Aqa K⟩
def x_4 (K:Nat):=xF s_4 [(63,c_1 K),(200,c_3 K)] [] 24 [] [] [] [] [.tmp 4]
theorem B2y (K:Nat):OkF 128 (c_4 K):=
 Aa6 (x:=x_4 K) (L:=[]) (c0:=bd Tryz.f128) (xkF (gC (Blw K) (gC (B2x K) gN)) oN) (by intro a0 a1;show @Eq _ _ _;kernel_rfl) kN Tryz.func128 trivial
def Aqc (K:Nat)(a0:List Bc):Nat->Int->Int->Option (Int)
 |0,_,_=>none
 |n1+1,v1,v2=>(bif (decide (v2<(a0.length:Int)))then(if(0:Int)≤v2∧v2<(a0.length:Int)then((Aqa K (gt a0 v2) v1).bind fun r3=>(bif (decide (r3<0))then some (-1)else(Aqc K a0 n1 r3 (Aoa .i64 v2 1))))else none)else some v1)
def Asp (K:Nat)(a0:List Bc)(a1:Int):Option (Int):=(bif (decide ((Aob .i64 a1 (a0.length:Int))<0))then some (-1)else(Aqc K a0 K (Aob .i64 a1 (a0.length:Int)) 0))
def s_5:Sig:=⟨[.v 49,.v 3],[.v 3],true⟩
def c_5 (K:Nat):Gb tyU:=⟨s_5,Asp K⟩
def x_5 (K:Nat):=xF s_5 [(128,c_4 K)] [] 27 [] [] [] [] [.tmp 4]
def A7k:E5:=⟨[(0,.v 49),(1,.v 2),(5,.v 2)],[]⟩
def A7l (K:Nat)(n:Nat)(q:PT A7k):Rt s_5:=Aqc K q.1 n q.2.1 q.2.2.1
theorem Blx (K:Nat):AtL (x_5 K) (fun n=>[]) [] (bd Tryz.f61) 122 (A7l K):=fun n q=>by kernel_rfl
theorem Bv9 (K:Nat):XF [.tmp 4] s_5 27 [] (x_5 K):=xkF (gC (B2y K) gN) oN
theorem Bly (K:Nat)(n:Nat):CF [.tmp 4] s_5 27 [] (bd Tryz.f61) [] 122 (ar A7k (A7l K n)):=
 Aeg (Bv9 K) (Blx K) (fun n=>kN) n
theorem B20 (K:Nat):OkF 61 (c_5 K):=
 Aa6 (x:=x_5 K) (L:=[(122,ar A7k (A7l K K))]) (c0:=bd Tryz.f61) (Bv9 K) (by intro a0 a1;show @Eq _ _ _;kernel_rfl) (kC (Bly K K) kN) Tryz.func61 trivial
def Apu (K:Nat)(a0:Ay)(a1:Int):Option (Int):=((An2 K a0.Dg a1).bind fun r1=>(bif (decide (r1<0))then some (-1)else((An2 K a0.Ae r1).bind fun r2=>(bif (decide (r2<0))then some (-1)else some r2))))
def s_6:Sig:=⟨[.v 157,.v 3],[.v 3],true⟩
def c_6 (K:Nat):Gb tyU:=⟨s_6,Apu K⟩
def x_6 (K:Nat):=xF s_6 [(63,c_1 K)] [] 18 [] [] [] [] [.tmp 4]
theorem B21 (K:Nat):OkF 129 (c_6 K):=
 Aa6 (x:=x_6 K) (L:=[]) (c0:=bd Tryz.f129) (xkF (gC (Blw K) gN) oN) (by intro a0 a1;show @Eq _ _ _;kernel_rfl) kN Tryz.func129 trivial
def Apz (K:Nat)(a0:List Ay):Nat->Int->Int->Option (Int)
 |0,_,_=>none
 |n1+1,v1,v2=>(bif (decide (v2<(a0.length:Int)))then(if(0:Int)≤v2∧v2<(a0.length:Int)then((Apu K (gt a0 v2) v1).bind fun r3=>(bif (decide (r3<0))then some (-1)else(Apz K a0 n1 r3 (Aoa .i64 v2 1))))else none)else some v1)
def Ar2 (K:Nat)(a0:List Ay)(a1:Int):Option (Int):=(bif (decide ((Aob .i64 a1 (a0.length:Int))<0))then some (-1)else(Apz K a0 K (Aob .i64 a1 (a0.length:Int)) 0))
def s_7:Sig:=⟨[.v 50,.v 3],[.v 3],true⟩
def c_7 (K:Nat):Gb tyU:=⟨s_7,Ar2 K⟩
def x_7 (K:Nat):=xF s_7 [(129,c_6 K)] [] 27 [] [] [] [] [.tmp 4]
def A7m:E5:=⟨[(0,.v 50),(1,.v 2),(5,.v 2)],[]⟩
def A7n (K:Nat)(n:Nat)(q:PT A7m):Rt s_7:=Apz K q.1 n q.2.1 q.2.2.1
theorem Blz (K:Nat):AtL (x_7 K) (fun n=>[]) [] (bd Tryz.f62) 122 (A7n K):=fun n q=>by kernel_rfl
theorem Bwa (K:Nat):XF [.tmp 4] s_7 27 [] (x_7 K):=xkF (gC (B21 K) gN) oN
theorem Bl0 (K:Nat)(n:Nat):CF [.tmp 4] s_7 27 [] (bd Tryz.f62) [] 122 (ar A7m (A7n K n)):=
 Aeg (Bwa K) (Blz K) (fun n=>kN) n
theorem B23 (K:Nat):OkF 62 (c_7 K):=
 Aa6 (x:=x_7 K) (L:=[(122,ar A7m (A7n K K))]) (c0:=bd Tryz.f62) (Bwa K) (by intro a0 a1;show @Eq _ _ _;kernel_rfl) (kC (Bl0 K K) kN) Tryz.func62 trivial
def Aqg (K:Nat)(a0:Ec)(a1:Int):Option (Int):=((Atn K a0.fP a1).bind fun r1=>(bif (decide (r1<0))then some (-1)else((Asp K a0.fL r1).bind fun r2=>(bif (decide (r2<0))then some (-1)else((Ar2 K a0.fQ r2).bind fun r3=>(bif (decide (r3<0))then some (-1)else((An2 K a0.Pr r3).bind fun r4=>(bif (decide (r4<0))then some (-1)else some r4))))))))
def s_8:Sig:=⟨[.v 52,.v 3],[.v 3],true⟩
def c_8 (K:Nat):Gb tyU:=⟨s_8,Aqg K⟩
def x_8 (K:Nat):=xF s_8 [(60,c_2 K),(61,c_5 K),(62,c_7 K),(63,c_1 K)] [] 30 [] [] [] [] [.tmp 4]
theorem B24 (K:Nat):OkF 18 (c_8 K):=
 Aa6 (x:=x_8 K) (L:=[]) (c0:=bd Tryz.f18) (xkF (gC (B2w K) (gC (B20 K) (gC (B23 K) (gC (Blw K) gN)))) oN) (by intro a0 a1;show @Eq _ _ _;kernel_rfl) kN Tryz.func18 trivial
def Ax3 (K:Nat)(a0:Es):Option (Er):=some (Er.mk a0.Ae a0.Eg a0.C0 a0.E9 a0.C1 a0.Eh)
def s_9:Sig:=⟨[.v 47],[.v 25],true⟩
def c_9 (K:Nat):Gb tyU:=⟨s_9,Ax3 K⟩
def x_9 (K:Nat):=xF s_9 [] [] 23 [] [] [] [] [.cell 2 25]
theorem B25 (K:Nat):OkF 65 (c_9 K):=
 Aa6 (x:=x_9 K) (L:=[]) (c0:=bd Tryz.f65) (xkF gN oN) (by intro a0;show @Eq _ _ _;kernel_rfl) kN Tryz.func65 trivial
def As3 (K:Nat)(a0:List Int):Nat->(List Int)->Int->Option ((List Int))
 |0,_,_=>none
 |n1+1,v1,v2=>(bif (decide (v2<(a0.length:Int)))then(if(0:Int)≤v2∧v2<(a0.length:Int)then(if(0:Int)≤v2∧v2<(v1.length:Int)then(As3 K a0 n1 (v1.set v2.toNat (gt a0 v2)) (Aoa .i64 v2 1))else none)else none)else some v1)
def Apv (K:Nat)(a0:List Int):Option ((List Int)):=(if(0:Int)≤(a0.length:Int)∧(a0.length:Int)≤(a0.length:Int)∧(1:Int)*(a0.length:Int)≤281474976710656∧(a0.length:Int)≤9223372036854775807 then(As3 K a0 K (List.replicate (a0.length:Int).toNat 0) 0)else none)
def s_10:Sig:=⟨[.v 22],[.n 22 true],true⟩
def Bs1 (K:Nat):Gb tyU:=⟨s_10,Apv K⟩
def Bs2 (K:Nat):=xF s_10 [] [] 22 [] [] [] [] [.tmp 2]
def A7o:E5:=⟨[(0,.v 22),(3,.o 1003 5 true),(4,.v 2)],[]⟩
def A7p (K:Nat)(n:Nat)(q:PT A7o):Rt s_10:=As3 K q.1 n q.2.1 q.2.2.1
theorem Bl1 (K:Nat):AtL (Bs2 K) (fun n=>[]) [] (bd Tryz.f46) 58 (A7p K):=fun n q=>by kernel_rfl
theorem Bow (K:Nat):XF [.tmp 2] s_10 22 [] (Bs2 K):=xkF gN oN
theorem Bl2 (K:Nat)(n:Nat):CF [.tmp 2] s_10 22 [] (bd Tryz.f46) [] 58 (ar A7o (A7p K n)):=
 Aeg (Bow K) (Bl1 K) (fun n=>kN) n
theorem Box (K:Nat):OkF 46 (Bs1 K):=
 Aa6 (x:=Bs2 K) (L:=[(58,ar A7o (A7p K K))]) (c0:=bd Tryz.f46) (Bow K) (by intro a0;show @Eq _ _ _;kernel_rfl) (kC (Bl2 K K) kN) Tryz.func46 trivial
def Atv (K:Nat)(a0:List Int):Nat->(List Int)->Int->Option ((List Int))
 |0,_,_=>none
 |n1+1,v1,v2=>(bif (decide (v2<(a0.length:Int)))then(if(0:Int)≤v2∧v2<(a0.length:Int)then(if(0:Int)≤v2∧v2<(v1.length:Int)then(Atv K a0 n1 (v1.set v2.toNat (gt a0 v2)) (Aoa .i64 v2 1))else none)else none)else some v1)
def An3 (K:Nat)(a0:List Int):Option ((List Int)):=(if(0:Int)≤(a0.length:Int)∧(a0.length:Int)≤(a0.length:Int)∧(8:Int)*(a0.length:Int)≤281474976710656∧(a0.length:Int)≤9223372036854775807 then(Atv K a0 K (List.replicate (a0.length:Int).toNat 0) 0)else none)
def s_11:Sig:=⟨[.v 26],[.n 26 true],true⟩
def Bfs (K:Nat):Gb tyU:=⟨s_11,An3 K⟩
def Bs3 (K:Nat):=xF s_11 [] [] 22 [] [] [] [] [.tmp 2]
def A7q:E5:=⟨[(0,.v 26),(3,.o 1003 3 true),(4,.v 2)],[]⟩
def A7r (K:Nat)(n:Nat)(q:PT A7q):Rt s_11:=Atv K q.1 n q.2.1 q.2.2.1
theorem Bl3 (K:Nat):AtL (Bs3 K) (fun n=>[]) [] (bd Tryz.f69) 58 (A7r K):=fun n q=>by kernel_rfl
theorem Boy (K:Nat):XF [.tmp 2] s_11 22 [] (Bs3 K):=xkF gN oN
theorem Bl4 (K:Nat)(n:Nat):CF [.tmp 2] s_11 22 [] (bd Tryz.f69) [] 58 (ar A7q (A7r K n)):=
 Aeg (Boy K) (Bl3 K) (fun n=>kN) n
theorem Bcx (K:Nat):OkF 69 (Bfs K):=
 Aa6 (x:=Bs3 K) (L:=[(58,ar A7q (A7r K K))]) (c0:=bd Tryz.f69) (Boy K) (by intro a0;show @Eq _ _ _;kernel_rfl) (kC (Bl4 K K) kN) Tryz.func69 trivial
def Ax4 (K:Nat)(a0:Dx):Option (Dw):=((Apv K a0.Fy).bind fun r1=>((An3 K a0.Hh).bind fun r2=>((An3 K a0.Fz).bind fun r3=>some (Dw.mk r1 r2 r3))))
def Bwb:Sig:=⟨[.v 48],[.n 28 true],true⟩
def Bwc (K:Nat):Gb tyU:=⟨Bwb,Ax4 K⟩
def B26 (K:Nat):=xF Bwb [(46,Bs1 K),(69,Bfs K)] [] 17 [] [] [] [] [.cell 2 28]
theorem Bwd (K:Nat):OkF 66 (Bwc K):=
 Aa6 (x:=B26 K) (L:=[]) (c0:=bd Tryz.f66) (xkF (gC (Box K) (gC (Bcx K) gN)) oN) (by intro a0;show @Eq _ _ _;kernel_rfl) kN Tryz.func66 trivial
def Axc (K:Nat)(a0:Bb):Option (A9):=some (A9.mk a0.fAt a0.Vu a0.Vv)
def Bwe:Sig:=⟨[.v 222],[.v 89],true⟩
def Bwf (K:Nat):Gb tyU:=⟨Bwe,Axc K⟩
def B27 (K:Nat):=xF Bwe [] [] 14 [] [] [] [] [.cell 2 89]
theorem Bwg (K:Nat):OkF 260 (Bwf K):=
 Aa6 (x:=B27 K) (L:=[]) (c0:=bd Tryz.f260) (xkF gN oN) (by intro a0;show @Eq _ _ _;kernel_rfl) kN Tryz.func260 trivial
def Asc (K:Nat)(a0:List Bb):Nat->(List A9)->Int->Option ((List A9))
 |0,_,_=>none
 |n1+1,v1,v2=>(bif (decide (v2<(a0.length:Int)))then(if(0:Int)≤v2∧v2<(a0.length:Int)then((Axc K (gt a0 v2)).bind fun r3=>(if(0:Int)≤v2∧v2<(v1.length:Int)then(Asc K a0 n1 (v1.set v2.toNat r3) (Aoa .i64 v2 1))else none))else none)else some v1)
def Atw (K:Nat)(a0:List Bb):Option ((List A9)):=(if(0:Int)≤(a0.length:Int)∧(a0.length:Int)≤(a0.length:Int)∧(24:Int)*(a0.length:Int)≤281474976710656∧(a0.length:Int)≤9223372036854775807 then(Asc K a0 K (List.replicate (a0.length:Int).toNat (A9.mk 0 0 0)) 0)else none)
def s_14:Sig:=⟨[.v 152],[.n 41 true],true⟩
def Bwh (K:Nat):Gb tyU:=⟨s_14,Atw K⟩
def Bs4 (K:Nat):=xF s_14 [(260,Bwf K)] [] 23 [] [] [] [] [.tmp 2]
def A7s:E5:=⟨[(0,.v 152),(3,.o 1003 89 true),(4,.v 2)],[]⟩
def A7t (K:Nat)(n:Nat)(q:PT A7s):Rt s_14:=Asc K q.1 n q.2.1 q.2.2.1
theorem Bl5 (K:Nat):AtL (Bs4 K) (fun n=>[]) [] (bd Tryz.f204) 58 (A7t K):=fun n q=>by kernel_rfl
theorem Boz (K:Nat):XF [.tmp 2] s_14 23 [] (Bs4 K):=xkF (gC (Bwg K) gN) oN
theorem Bl6 (K:Nat)(n:Nat):CF [.tmp 2] s_14 23 [] (bd Tryz.f204) [] 58 (ar A7s (A7t K n)):=
 Aeg (Boz K) (Bl5 K) (fun n=>kN) n
theorem Bwi (K:Nat):OkF 204 (Bwh K):=
 Aa6 (x:=Bs4 K) (L:=[(58,ar A7s (A7t K K))]) (c0:=bd Tryz.f204) (Boz K) (by intro a0;show @Eq _ _ _;kernel_rfl) (kC (Bl6 K K) kN) Tryz.func204 trivial
def Ato (K:Nat)(a0:Bc):Option (Ba):=((An3 K a0.Ae).bind fun r1=>((Atw K a0.Ea).bind fun r2=>((An3 K a0.Dg).bind fun r3=>some (Ba.mk a0.Hh a0.C2 a0.Ly a0.fUp a0.Gq a0.Bt a0.Gr a0.Gs r1 a0.Pq a0.Gt r2 r3))))
def Bwj:Sig:=⟨[.v 154],[.n 44 true],true⟩
def Bwk (K:Nat):Gb tyU:=⟨Bwj,Ato K⟩
def B28 (K:Nat):=xF Bwj [(69,Bfs K),(204,Bwh K)] [] 47 [] [] [] [] [.cell 2 44]
theorem Bwl (K:Nat):OkF 131 (Bwk K):=
 Aa6 (x:=B28 K) (L:=[]) (c0:=bd Tryz.f131) (xkF (gC (Bcx K) (gC (Bwi K) gN)) oN) (by intro a0;show @Eq _ _ _;kernel_rfl) kN Tryz.func131 trivial
def As4 (K:Nat)(a0:List Bc):Nat->(List Ba)->Int->Option ((List Ba))
 |0,_,_=>none
 |n1+1,v1,v2=>(bif (decide (v2<(a0.length:Int)))then(if(0:Int)≤v2∧v2<(a0.length:Int)then((Ato K (gt a0 v2)).bind fun r3=>(if(0:Int)≤v2∧v2<(v1.length:Int)then(As4 K a0 n1 (v1.set v2.toNat r3) (Aoa .i64 v2 1))else none))else none)else some v1)
def Auw (K:Nat)(a0:List Bc):Option ((List Ba)):=(if(0:Int)≤(a0.length:Int)∧(a0.length:Int)≤(a0.length:Int)∧(152:Int)*(a0.length:Int)≤281474976710656∧(a0.length:Int)≤9223372036854775807 then(As4 K a0 K (List.replicate (a0.length:Int).toNat (Ba.mk 0 0 0 0 0 0 0 0 [] 0 0 [] [])) 0)else none)
def s_16:Sig:=⟨[.v 49],[.n 29 true],true⟩
def Bwm (K:Nat):Gb tyU:=⟨s_16,Auw K⟩
def Bs5 (K:Nat):=xF s_16 [(131,Bwk K)] [] 23 [] [] [] [] [.tmp 2]
def A7u:E5:=⟨[(0,.v 49),(3,.o 1003 44 true),(4,.v 2)],[]⟩
def A7v (K:Nat)(n:Nat)(q:PT A7u):Rt s_16:=As4 K q.1 n q.2.1 q.2.2.1
theorem Bl7 (K:Nat):AtL (Bs5 K) (fun n=>[]) [] (bd Tryz.f67) 58 (A7v K):=fun n q=>by kernel_rfl
theorem Bo0 (K:Nat):XF [.tmp 2] s_16 23 [] (Bs5 K):=xkF (gC (Bwl K) gN) oN
theorem Bl8 (K:Nat)(n:Nat):CF [.tmp 2] s_16 23 [] (bd Tryz.f67) [] 58 (ar A7u (A7v K n)):=
 Aeg (Bo0 K) (Bl7 K) (fun n=>kN) n
theorem Bwn (K:Nat):OkF 67 (Bwm K):=
 Aa6 (x:=Bs5 K) (L:=[(58,ar A7u (A7v K K))]) (c0:=bd Tryz.f67) (Bo0 K) (by intro a0;show @Eq _ _ _;kernel_rfl) (kC (Bl8 K K) kN) Tryz.func67 trivial
def Asq (K:Nat)(a0:Ay):Option (Ax):=((An3 K a0.Dg).bind fun r1=>((An3 K a0.Ae).bind fun r2=>some (Ax.mk a0.A5 a0.Bt r1 r2 a0.Gu)))
def Bwo:Sig:=⟨[.v 157],[.n 159 true],true⟩
def Bwp (K:Nat):Gb tyU:=⟨Bwo,Asq K⟩
def B29 (K:Nat):=xF Bwo [(69,Bfs K)] [] 22 [] [] [] [] [.cell 2 159]
theorem Bwq (K:Nat):OkF 132 (Bwp K):=
 Aa6 (x:=B29 K) (L:=[]) (c0:=bd Tryz.f132) (xkF (gC (Bcx K) gN) oN) (by intro a0;show @Eq _ _ _;kernel_rfl) kN Tryz.func132 trivial
def Asd (K:Nat)(a0:List Ay):Nat->(List Ax)->Int->Option ((List Ax))
 |0,_,_=>none
 |n1+1,v1,v2=>(bif (decide (v2<(a0.length:Int)))then(if(0:Int)≤v2∧v2<(a0.length:Int)then((Asq K (gt a0 v2)).bind fun r3=>(if(0:Int)≤v2∧v2<(v1.length:Int)then(Asd K a0 n1 (v1.set v2.toNat r3) (Aoa .i64 v2 1))else none))else none)else some v1)
def Atx (K:Nat)(a0:List Ay):Option ((List Ax)):=(if(0:Int)≤(a0.length:Int)∧(a0.length:Int)≤(a0.length:Int)∧(72:Int)*(a0.length:Int)≤281474976710656∧(a0.length:Int)≤9223372036854775807 then(Asd K a0 K (List.replicate (a0.length:Int).toNat (Ax.mk 0 0 [] [] 0)) 0)else none)
def s_18:Sig:=⟨[.v 50],[.n 30 true],true⟩
def Bwr (K:Nat):Gb tyU:=⟨s_18,Atx K⟩
def Bs6 (K:Nat):=xF s_18 [(132,Bwp K)] [] 23 [] [] [] [] [.tmp 2]
def A7w:E5:=⟨[(0,.v 50),(3,.o 1003 159 true),(4,.v 2)],[]⟩
def A7x (K:Nat)(n:Nat)(q:PT A7w):Rt s_18:=Asd K q.1 n q.2.1 q.2.2.1
theorem Bl9 (K:Nat):AtL (Bs6 K) (fun n=>[]) [] (bd Tryz.f68) 58 (A7x K):=fun n q=>by kernel_rfl
theorem Bo1 (K:Nat):XF [.tmp 2] s_18 23 [] (Bs6 K):=xkF (gC (Bwq K) gN) oN
theorem Bma (K:Nat)(n:Nat):CF [.tmp 2] s_18 23 [] (bd Tryz.f68) [] 58 (ar A7w (A7x K n)):=
 Aeg (Bo1 K) (Bl9 K) (fun n=>kN) n
theorem Bws (K:Nat):OkF 68 (Bwr K):=
 Aa6 (x:=Bs6 K) (L:=[(58,ar A7w (A7x K K))]) (c0:=bd Tryz.f68) (Bo1 K) (by intro a0;show @Eq _ _ _;kernel_rfl) (kC (Bma K K) kN) Tryz.func68 trivial
def Aqh (K:Nat)(a0:Ec):Option (Eb):=((Ax3 K a0.fC).bind fun r1=>((Ax4 K a0.fP).bind fun r2=>((Auw K a0.fL).bind fun r3=>((Atx K a0.fQ).bind fun r4=>((An3 K a0.Pr).bind fun r5=>some (Eb.mk r1 r2 r3 r4 r5))))))
def Bwt:Sig:=⟨[.v 52],[.n 32 true],true⟩
def Bwu (K:Nat):Gb tyU:=⟨Bwt,Aqh K⟩
def B3a (K:Nat):=xF Bwt [(65,c_9 K),(66,Bwc K),(67,Bwm K),(68,Bwr K),(69,Bfs K)] [] 25 [] [] [] [] [.cell 2 32]
theorem Bwv (K:Nat):OkF 20 (Bwu K):=
 Aa6 (x:=B3a K) (L:=[]) (c0:=bd Tryz.f20) (xkF (gC (B25 K) (gC (Bwd K) (gC (Bwn K) (gC (Bws K) (gC (Bcx K) gN))))) oN) (by intro a0;show @Eq _ _ _;kernel_rfl) kN Tryz.func20 trivial
def Aws (K:Nat)(a0:Dn):Option (Ct):=some (Ct.mk a0.A5 a0.C2)
def Bww:Sig:=⟨[.v 53],[.v 34],true⟩
def Bwx (K:Nat):Gb tyU:=⟨Bww,Aws K⟩
def B3b (K:Nat):=xF Bww [] [] 11 [] [] [] [] [.cell 2 34]
theorem Bwy (K:Nat):OkF 21 (Bwx K):=
 Aa6 (x:=B3b K) (L:=[]) (c0:=bd Tryz.f21) (xkF gN oN) (by intro a0;show @Eq _ _ _;kernel_rfl) kN Tryz.func21 trivial
def Aux (K:Nat)(a0:Ge):Option (Fg):=((Aws K a0.fH).bind fun r1=>some (Fg.mk r1 a0.Ly a0.fNo))
def Bwz:Sig:=⟨[.v 61],[.v 36],true⟩
def Bw0 (K:Nat):Gb tyU:=⟨Bwz,Aux K⟩
def B3c (K:Nat):=xF Bwz [(21,Bwx K)] [] 15 [] [] [] [] [.cell 2 36]
theorem Bw1 (K:Nat):OkF 25 (Bw0 K):=
 Aa6 (x:=B3c K) (L:=[]) (c0:=bd Tryz.f25) (xkF (gC (Bwy K) gN) oN) (by intro a0;show @Eq _ _ _;kernel_rfl) kN Tryz.func25 trivial
def Av3 (K:Nat)(a0:Dw):Option (Dw):=(if(([]:List Int)++a0.Fy).length*1≤140737488355328∧(([]:List Int)++a0.Fy).length≤maxLen then(if(([]:List Int)++a0.Hh).length*8≤140737488355328∧(([]:List Int)++a0.Hh).length≤maxLen then(if(([]:List Int)++a0.Fz).length*8≤140737488355328∧(([]:List Int)++a0.Fz).length≤maxLen then some (Dw.mk (([]:List Int)++a0.Fy) (([]:List Int)++a0.Hh) (([]:List Int)++a0.Fz))else none)else none)else none)
def Bw2:Sig:=⟨[.v 28],[.n 28 true],true⟩
def Bw3 (K:Nat):Gb tyU:=⟨Bw2,Av3 K⟩
def B3d (K:Nat):=xF Bw2 [] [] 16 [] [] [] [] [.cell 2 28]
theorem Bw4 (K:Nat):OkF 137 (Bw3 K):=
 Aa6 (x:=B3d K) (L:=[]) (c0:=bd Tryz.f137) (xkF gN oN) (by intro a0;show @Eq _ _ _;kernel_rfl) kN Tryz.func137 trivial
def Av4 (K:Nat)(a0:Ba):Option (Ba):=(if(([]:List Int)++a0.Ae).length*8≤140737488355328∧(([]:List Int)++a0.Ae).length≤maxLen then(if(([]:List A9)++a0.Ea).length*24≤140737488355328∧(([]:List A9)++a0.Ea).length≤maxLen then(if(([]:List Int)++a0.Dg).length*8≤140737488355328∧(([]:List Int)++a0.Dg).length≤maxLen then some (Ba.mk a0.Hh a0.C2 a0.Ly a0.fUp a0.Gq a0.Bt a0.Gr a0.Gs (([]:List Int)++a0.Ae) a0.Pq a0.Gt (([]:List A9)++a0.Ea) (([]:List Int)++a0.Dg))else none)else none)else none)
def Bw5:Sig:=⟨[.v 44],[.n 44 true],true⟩
def Bw6 (K:Nat):Gb tyU:=⟨Bw5,Av4 K⟩
def B3e (K:Nat):=xF Bw5 [] [] 21 [] [] [] [] [.cell 2 44]
theorem Bw7 (K:Nat):OkF 209 (Bw6 K):=
 Aa6 (x:=B3e K) (L:=[]) (c0:=bd Tryz.f209) (xkF gN oN) (by intro a0;show @Eq _ _ _;kernel_rfl) kN Tryz.func209 trivial
def Aqi (K:Nat)(a0:List Ba):Nat->(List Ba)->Int->Option ((List Ba))
 |0,_,_=>none
 |n1+1,v1,v2=>(bif (decide (v2<(a0.length:Int)))then(if(0:Int)≤v2∧v2<(a0.length:Int)then((Av4 K (gt a0 v2)).bind fun r3=>(if(v1++[r3]).length*152≤140737488355328∧(v1++[r3]).length≤maxLen then(Aqi K a0 n1 (v1++[r3]) (Aoa .i64 v2 1))else none))else none)else some v1)
def Aw0 (K:Nat)(a0:List Ba):Option ((List Ba)):=(Aqi K a0 K ([]:List Ba) 0)
def s_24:Sig:=⟨[.v 29],[.n 29 true],true⟩
def Bw8 (K:Nat):Gb tyU:=⟨s_24,Aw0 K⟩
def Bs7 (K:Nat):=xF s_24 [(209,Bw6 K)] [] 23 [] [] [(20,[.put 3020])] [] [.tmp 2]
def A7y:E5:=⟨[(0,.v 29),(3,.o 1003 44 true),(4,.v 2)],[]⟩
def A7z (K:Nat)(n:Nat)(q:PT A7y):Rt s_24:=Aqi K q.1 n q.2.1 q.2.2.1
theorem Bmb (K:Nat):AtL (Bs7 K) (fun n=>[]) [] (bd Tryz.f138) 58 (A7z K):=fun n q=>by kernel_rfl
theorem Bo2 (K:Nat):XF [.tmp 2] s_24 23 [] (Bs7 K):=xkF (gC (Bw7 K) gN) oN
theorem Bmc (K:Nat)(n:Nat):CF [.tmp 2] s_24 23 [] (bd Tryz.f138) [] 58 (ar A7y (A7z K n)):=
 Aeg (Bo2 K) (Bmb K) (fun n=>kN) n
theorem Bw9 (K:Nat):OkF 138 (Bw8 K):=
 Aa6 (x:=Bs7 K) (L:=[(58,ar A7y (A7z K K))]) (c0:=bd Tryz.f138) (Bo2 K) (by intro a0;show @Eq _ _ _;kernel_rfl) (kC (Bmc K K) kN) Tryz.func138 trivial
def Auy (K:Nat)(a0:Ax):Option (Ax):=(if(([]:List Int)++a0.Dg).length*8≤140737488355328∧(([]:List Int)++a0.Dg).length≤maxLen then(if(([]:List Int)++a0.Ae).length*8≤140737488355328∧(([]:List Int)++a0.Ae).length≤maxLen then some (Ax.mk a0.A5 a0.Bt (([]:List Int)++a0.Dg) (([]:List Int)++a0.Ae) a0.Gu)else none)else none)
def Bxa:Sig:=⟨[.v 159],[.n 159 true],true⟩
def Bxb (K:Nat):Gb tyU:=⟨Bxa,Auy K⟩
def B3f (K:Nat):=xF Bxa [] [] 16 [] [] [] [] [.cell 2 159]
theorem Bxc (K:Nat):OkF 139 (Bxb K):=
 Aa6 (x:=B3f K) (L:=[]) (c0:=bd Tryz.f139) (xkF gN oN) (by intro a0;show @Eq _ _ _;kernel_rfl) kN Tryz.func139 trivial
def App (K:Nat):Nat->Int->Int->Int->Int->Int->Int->Int->(List Int)->(List Int)->(List Int)->(List Ba)->(List Ax)->(List Int)->Eb->Int->Int->Int->Int->Int->Int->(List Int)->(List Int)->(List Int)->(List Ba)->(List Ax)->(List Int)->Option (Eb)
 |0,_,_,_,_,_,_,_,_,_,_,_,_,_,_,_,_,_,_,_,_,_,_,_,_,_,_=>none
 |n1+1,v3,v4,v5,v6,v7,v8,v9,v10,v11,v12,v13,v14,v15,v16,v17,v18,v19,v20,v21,v22,v23,v24,v25,v26,v27,v28=>(bif (decide (v3<(v27.length:Int)))then(if(0:Int)≤v3∧v3<(v27.length:Int)then((Auy K (gt v27 v3)).bind fun r29=>(if(v14++[r29]).length*72≤140737488355328∧(v14++[r29]).length≤maxLen then(App K n1 (Aoa .i64 v3 1) v4 v5 v6 v7 v8 v9 v10 v11 v12 v13 (v14++[r29]) v15 v16 v17 v18 v19 v20 v21 v22 v23 v24 v25 v26 v27 v28)else none))else none)else(if(([]:List Int)++v28).length*8≤140737488355328∧(([]:List Int)++v28).length≤maxLen then some (Eb.mk (Er.mk v4 v5 v6 v7 v8 v9) (Dw.mk v10 v11 v12) v13 v14 (([]:List Int)++v28))else none))
def Auz (K:Nat)(a0:Eb):Option (Eb):=((Av3 K a0.fP).bind fun r1=>((Aw0 K a0.fL).bind fun r2=>(App K K 0 a0.fC.Ae a0.fC.Eg a0.fC.C0 a0.fC.E9 a0.fC.C1 a0.fC.Eh r1.Fy r1.Hh r1.Fz r2 ([]:List Ax) a0.Pr (Eb.mk (Er.mk 0 0 0 0 0 0) (Dw.mk [] [] []) [] [] []) a0.fC.Ae a0.fC.Eg a0.fC.C0 a0.fC.E9 a0.fC.C1 a0.fC.Eh a0.fP.Fy a0.fP.Hh a0.fP.Fz a0.fL a0.fQ a0.Pr)))
def s_26:Sig:=⟨[.v 32],[.n 32 true],true⟩
def Bxd (K:Nat):Gb tyU:=⟨s_26,Auz K⟩
def Bs8 (K:Nat):=xF s_26 [(137,Bw3 K),(138,Bw8 K),(139,Bxb K)] [] 42 [] [(9,[.take 103 10 6658]),(11,[.take 103 6 6654,.take 103 7 6655,.take 103 8 6656,.take 103 9 6657,.take 103 10 6658])] [(33,[.put 3033])] [] [.cell 2 32]
def A28:E5:=⟨[(1,.p 101),(2,.p 102),(3,.p 103),(4,.v 2)],[(103,.box [.v 2,.v 2,.v 2,.v 2,.v 2,.v 2,.T 5 true,.T 3 true,.T 3 true,.T 44 true,.T 159 true,.v 26]),(102,.st 32 true),(101,.box [.v 2,.v 2,.v 2,.v 2,.v 2,.v 2,.v 22,.v 26,.v 26,.v 29,.v 30,.v 26])]⟩
def A29 (K:Nat)(n:Nat)(q:PT A28):Rt s_26:=App K n q.1 q.2.1 q.2.2.1 q.2.2.2.1 q.2.2.2.2.1 q.2.2.2.2.2.1 q.2.2.2.2.2.2.1 q.2.2.2.2.2.2.2.1 q.2.2.2.2.2.2.2.2.1 q.2.2.2.2.2.2.2.2.2.1 q.2.2.2.2.2.2.2.2.2.2.1 q.2.2.2.2.2.2.2.2.2.2.2.1 q.2.2.2.2.2.2.2.2.2.2.2.2.1 q.2.2.2.2.2.2.2.2.2.2.2.2.2.1 q.2.2.2.2.2.2.2.2.2.2.2.2.2.2.1 q.2.2.2.2.2.2.2.2.2.2.2.2.2.2.2.1 q.2.2.2.2.2.2.2.2.2.2.2.2.2.2.2.2.1 q.2.2.2.2.2.2.2.2.2.2.2.2.2.2.2.2.2.1 q.2.2.2.2.2.2.2.2.2.2.2.2.2.2.2.2.2.2.1 q.2.2.2.2.2.2.2.2.2.2.2.2.2.2.2.2.2.2.2.1 q.2.2.2.2.2.2.2.2.2.2.2.2.2.2.2.2.2.2.2.2.1 q.2.2.2.2.2.2.2.2.2.2.2.2.2.2.2.2.2.2.2.2.2.1 q.2.2.2.2.2.2.2.2.2.2.2.2.2.2.2.2.2.2.2.2.2.2.1 q.2.2.2.2.2.2.2.2.2.2.2.2.2.2.2.2.2.2.2.2.2.2.2.1 q.2.2.2.2.2.2.2.2.2.2.2.2.2.2.2.2.2.2.2.2.2.2.2.2.1 q.2.2.2.2.2.2.2.2.2.2.2.2.2.2.2.2.2.2.2.2.2.2.2.2.2.1
theorem Bft (K:Nat):AtL (Bs8 K) (fun n=>[]) [] (bd Tryz.f82) 506 (A29 K):=fun n q=>by kernel_rfl
theorem Bo3 (K:Nat):XF [.cell 2 32] s_26 42 [] (Bs8 K):=xkF (gC (Bw4 K) (gC (Bw9 K) (gC (Bxc K) gN))) oN
theorem Bfu (K:Nat)(n:Nat):CF [.cell 2 32] s_26 42 [] (bd Tryz.f82) [] 506 (ar A28 (A29 K n)):=
 Aeg (Bo3 K) (Bft K) (fun n=>kN) n
theorem Bxe (K:Nat):OkF 82 (Bxd K):=
 Aa6 (x:=Bs8 K) (L:=[(506,ar A28 (A29 K K))]) (c0:=bd Tryz.f82) (Bo3 K) (by intro a0;show @Eq _ _ _;kernel_rfl) (kC (Bfu K K) kN) Tryz.func82 trivial
def Ac1 (K:Nat)(a0:Int)(a1:Int)(a2:Int):Option (Bool):=(bif (decide (a0≥a1))then some (decide (a0≤a2))else some false)
def Bxf:Sig:=⟨[.v 3,.v 3,.v 3],[.v 4],true⟩
def A6k (K:Nat):Gb tyU:=⟨Bxf,Ac1 K⟩
def B3g (K:Nat):=xF Bxf [] [] 15 [9,10] [] [] [] [.tmp 6]
theorem A0x (K:Nat):OkF 84 (A6k K):=
 Aa6 (x:=B3g K) (L:=[]) (c0:=bd Tryz.f84) (xkF gN oN) (by intro a0 a1 a2;show @Eq _ _ _;kernel_rfl) kN Tryz.func84 trivial
def Aq6 (K:Nat)(a0:Er):Option (Bool):=((Ac1 K a0.Ae 2 12).bind fun r1=>(bif r1 then((Ac1 K a0.Eg 8 16).bind fun r2=>(bif r2 then((Ac1 K a0.C0 2 8).bind fun r3=>(bif r3 then((Ac1 K a0.E9 1 8).bind fun r4=>(bif r4 then((Ac1 K a0.C1 1 16).bind fun r5=>(bif r5 then((Ac1 K a0.Eh 1 4).bind fun r6=>some r6)else some false))else some false))else some false))else some false))else some false))
def Bxg:Sig:=⟨[.v 25],[.v 4],true⟩
def Bfv (K:Nat):Gb tyU:=⟨Bxg,Aq6 K⟩
def B3h (K:Nat):=xF Bxg [(84,A6k K)] [] 31 [5,6,9,10,11,14,15,16,19,20,21,24,25,26] [] [] [] [.tmp 2]
theorem Bcy (K:Nat):OkF 210 (Bfv K):=
 Aa6 (x:=B3h K) (L:=[]) (c0:=bd Tryz.f210) (xkF (gC (A0x K) gN) oN) (by intro a0;show @Eq _ _ _;kernel_rfl) kN Tryz.func210 trivial
def Asr (K:Nat)(a0:Er):Option (Int):=((Aq6 K a0).bind fun r1=>(bif (!r1)then some 0 else some (Aoc .i64 a0.Ae a0.Eg)))
def Bxh:Sig:=⟨[.v 25],[.v 3],true⟩
def Bs9 (K:Nat):Gb tyU:=⟨Bxh,Asr K⟩
def B3i (K:Nat):=xF Bxh [(210,Bfv K)] [] 11 [] [] [] [] [.tmp 2]
theorem Bo4 (K:Nat):OkF 211 (Bs9 K):=
 Aa6 (x:=B3i K) (L:=[]) (c0:=bd Tryz.f211) (xkF (gC (Bcy K) gN) oN) (by intro a0;show @Eq _ _ _;kernel_rfl) kN Tryz.func211 trivial
def Aqs (K:Nat)(a0:List Int):Nat->Int->Option (Bool)
 |0,_=>none
 |n1+1,v1=>(bif (decide (v1<(a0.length:Int)))then(if(0:Int)≤v1∧v1<(a0.length:Int)then(bif ((gt a0 v1) != 0)then some false else(Aqs K a0 n1 (Aoa .i64 v1 1)))else none)else some true)
def Ar8 (K:Nat)(a0:List Int):Option (Bool):=(Aqs K a0 K 0)
def s_30:Sig:=⟨[.v 22],[.v 4],true⟩
def Bmd (K:Nat):Gb tyU:=⟨s_30,Ar8 K⟩
def Bta (K:Nat):=xF s_30 [] [] 15 [] [] [] [] [.tmp 2]
def A70:E5:=⟨[(0,.v 22),(3,.v 2)],[]⟩
def A71 (K:Nat)(n:Nat)(q:PT A70):Rt s_30:=Aqs K q.1 n q.2.1
theorem Bme (K:Nat):AtL (Bta K) (fun n=>[]) [] (bd Tryz.f212) 26 (A71 K):=fun n q=>by kernel_rfl
theorem Bo5 (K:Nat):XF [.tmp 2] s_30 15 [] (Bta K):=xkF gN oN
theorem Bmf (K:Nat)(n:Nat):CF [.tmp 2] s_30 15 [] (bd Tryz.f212) [] 26 (ar A70 (A71 K n)):=
 Aeg (Bo5 K) (Bme K) (fun n=>kN) n
theorem Bfw (K:Nat):OkF 212 (Bmd K):=
 Aa6 (x:=Bta K) (L:=[(26,ar A70 (A71 K K))]) (c0:=bd Tryz.f212) (Bo5 K) (by intro a0;show @Eq _ _ _;kernel_rfl) (kC (Bmf K K) kN) Tryz.func212 trivial
def Aty (K:Nat)(v3:Int)(v4:List Int)(v5:List Int)(v6:List Int)(C1:Int->(List Int)->(List Int)->(List Int)->Option (Bool)):Option (Bool):=(C1 (Aoa .i64 v3 1) v4 v5 v6)
def Aqt (K:Nat)(a0:Er)(v3:Int)(v4:List Int)(v5:List Int)(v6:List Int)(C1:Int->(List Int)->(List Int)->(List Int)->Option (Bool)):Option (Bool):=(if(0:Int)≤v3∧v3<(v5.length:Int)then(bif ((gt v5 v3)==0)then(if(0:Int)≤(Aoc .i64 v3 a0.Eg)∧(Aoc .i64 v3 a0.Eg)≤(Aoc .i64 (Aoa .i64 v3 1) a0.Eg)∧(Aoc .i64 (Aoa .i64 v3 1) a0.Eg)≤(v4.length:Int)then((Ar8 K ((v4.drop (Aoc .i64 v3 a0.Eg).toNat).take ((Aoc .i64 (Aoa .i64 v3 1) a0.Eg) - (Aoc .i64 v3 a0.Eg)).toNat)).bind fun r9=>(bif (!r9)then some false else(Aty K v3 v4 v5 v6 (C1))))else none)else(Aty K v3 v4 v5 v6 (C1)))else none)
def Alb (K:Nat)(a0:Er):Nat->Int->(List Int)->(List Int)->(List Int)->Option (Bool)
 |0,_,_,_,_=>none
 |n1+1,v3,v4,v5,v6=>(bif (decide (v3<a0.Ae))then(if(0:Int)≤v3∧v3<(v5.length:Int)then((Ac1 K (gt v5 v3) 0 2).bind fun r7=>(bif (!r7)then some false else(if(0:Int)≤v3∧v3<(v5.length:Int)then(bif ((gt v5 v3)==1)then(if(0:Int)≤v3∧v3<(v6.length:Int)then((Ac1 K (gt v6 v3) 0 (Aob .i64 a0.C0 1)).bind fun r8=>(bif r8 then(if(0:Int)≤v3∧v3<(v5.length:Int)then(bif ((gt v5 v3) != 1)then(if(0:Int)≤v3∧v3<(v6.length:Int)then(bif ((gt v6 v3) != (-1))then some false else(Aqt K a0 v3 v4 v5 v6 (Alb K a0 n1)))else none)else(Aqt K a0 v3 v4 v5 v6 (Alb K a0 n1)))else none)else some false))else none)else(if(0:Int)≤v3∧v3<(v5.length:Int)then(bif ((gt v5 v3) != 1)then(if(0:Int)≤v3∧v3<(v6.length:Int)then(bif ((gt v6 v3) != (-1))then some false else(Aqt K a0 v3 v4 v5 v6 (Alb K a0 n1)))else none)else(Aqt K a0 v3 v4 v5 v6 (Alb K a0 n1)))else none))else none)))else none)else some true)
def Av5 (K:Nat)(a0:Er)(a1:Dw):Option (Bool):=((Aq6 K a0).bind fun r1=>(bif r1 then((Asr K a0).bind fun r2=>(bif ((a1.Fy.length:Int) != r2)then some false else(bif ((a1.Hh.length:Int) != a0.Ae)then some false else(bif ((a1.Fz.length:Int) != a0.Ae)then some false else(Alb K a0 K 0 a1.Fy a1.Hh a1.Fz)))))else some false))
def s_31:Sig:=⟨[.v 25,.v 28],[.v 4],true⟩
def Bxi (K:Nat):Gb tyU:=⟨s_31,Av5 K⟩
def Bfx (K:Nat):=xF s_31 [(84,A6k K),(210,Bfv K),(211,Bs9 K),(212,Bmd K)] [] 102 [7,8,9,15,16,17,23,24,25,51,52,61,62,63,64,70,71,85,86] [] [] [233,1865] [.tmp 4]
def A3a:E5:=⟨[(2,.p 102),(3,.p 103),(5,.v 2)],[(103,.box [.v 22,.v 26,.v 26]),(102,.st 25 true)]⟩
def A1n:E5:=⟨[(2,.p 102),(3,.p 103),(5,.v 2)],[(103,.box [.v 22,.v 26,.v 26]),(102,.st 25 true)]⟩
def As5:E5:=⟨[(2,.p 102),(3,.p 103),(5,.v 2)],[(103,.box [.v 22,.v 26,.v 26]),(102,.st 25 true)]⟩
def A3b (K:Nat)(C58:CT As5 s_31)(q:PT A3a):Rt s_31:=Aty K q.1 q.2.1 q.2.2.1 q.2.2.2.1 (fun v3 v4 v5 v6=>C58 (v3,v4,v5,v6,q.2.2.2.2.1,()))
def A1o (K:Nat)(C58:CT As5 s_31)(q:PT A1n):Rt s_31:=Aqt K q.2.2.2.2.1 q.1 q.2.1 q.2.2.1 q.2.2.2.1 (fun v3 v4 v5 v6=>C58 (v3,v4,v5,v6,q.2.2.2.2.1,()))
def A0y (K:Nat)(n:Nat)(q:PT As5):Rt s_31:=Alb K q.2.2.2.2.1 n q.1 q.2.1 q.2.2.1 q.2.2.2.1
theorem Bfy (K:Nat)(C58:CT As5 s_31):AtJ (Bfx K) [] [(58,ar As5 C58)] (bd Tryz.f140) 233 (A3b K C58):=fun q=>by kernel_rfl
theorem Bdm (K:Nat)(C58:CT As5 s_31):AtJ (Bfx K) [(233,ar A3a (A3b K C58))] [(58,ar As5 C58)] (bd Tryz.f140) 1865 (A1o K C58):=fun q=>by kernel_rfl
theorem Bmg (K:Nat):AtL (Bfx K) (fun n=>[(1865,ar A1n (A1o K (A0y K n)))]) [] (bd Tryz.f140) 58 (A0y K):=fun n q=>by kernel_rfl
theorem Bcz (K:Nat):XF [.tmp 4] s_31 102 [233,1865] (Bfx K):=xkF (gC (A0x K) (gC (Bcy K) (gC (Bo4 K) (gC (Bfw K) gN)))) oN
theorem Bfz (K:Nat)(C58:CT As5 s_31):CF [.tmp 4] s_31 102 [233,1865] (bd Tryz.f140) [(58,ar As5 C58)] 233 (ar A3a (A3b K C58)):=
 Apm (Bcz K) (Bfy K C58) kN
theorem Bdn (K:Nat)(C58:CT As5 s_31):CF [.tmp 4] s_31 102 [233,1865] (bd Tryz.f140) [(58,ar As5 C58)] 1865 (ar A1n (A1o K C58)):=
 Apm (Bcz K) (Bdm K C58) (kC (Bfz K C58) kN)
theorem Bmh (K:Nat)(n:Nat):CF [.tmp 4] s_31 102 [233,1865] (bd Tryz.f140) [] 58 (ar As5 (A0y K n)):=
 Aeg (Bcz K) (Bmg K) (fun n=>(kC (Bdn K (A0y K n)) kN)) n
theorem Bxj (K:Nat):OkF 140 (Bxi K):=
 Aa6 (x:=Bfx K) (L:=[(58,ar As5 (A0y K K))]) (c0:=bd Tryz.f140) (Bcz K) (by intro a0 a1;show @Eq _ _ _;kernel_rfl) (kC (Bmh K K) kN) Tryz.func140 trivial
def Aok (K:Nat)(a0:List Ba)(a1:Int):Option (Bool):=(bif (decide (a1≥1))then some (decide (a1≤(a0.length:Int)))else some false)
def Bxk:Sig:=⟨[.v 29,.v 3],[.v 4],true⟩
def Bdo (K:Nat):Gb tyU:=⟨Bxk,Aok K⟩
def B3j (K:Nat):=xF Bxk [] [] 13 [6,7] [] [] [] [.tmp 4]
theorem A91 (K:Nat):OkF 244 (Bdo K):=
 Aa6 (x:=B3j K) (L:=[]) (c0:=bd Tryz.f244) (xkF gN oN) (by intro a0 a1;show @Eq _ _ _;kernel_rfl) kN Tryz.func244 trivial
def Aps (K:Nat)(a0:List Ba)(a1:Int):Option (Bool):=(bif (a1==0)then some true else((Aok K a0 a1).bind fun r1=>(bif r1 then(if(0:Int)≤(Aob .i64 a1 1)∧(Aob .i64 a1 1)<(a0.length:Int)then some (((gt a0 (Aob .i64 a1 1)).Hh)==1)else none)else some false)))
def Bxl:Sig:=⟨[.v 29,.v 3],[.v 4],true⟩
def Bxm (K:Nat):Gb tyU:=⟨Bxl,Aps K⟩
def B3k (K:Nat):=xF Bxl [(244,Bdo K)] [] 21 [6,7,10,11] [] [] [] [.tmp 4]
theorem Bxn (K:Nat):OkF 264 (Bxm K):=
 Aa6 (x:=B3k K) (L:=[]) (c0:=bd Tryz.f264) (xkF (gC (A91 K) gN) oN) (by intro a0 a1;show @Eq _ _ _;kernel_rfl) kN Tryz.func264 trivial
def Aqw (K:Nat)(a0:List Ba)(a1:Int):Option (Bool):=(if(0:Int)≤a1∧a1<(a0.length:Int)then((Aok K a0 ((gt a0 a1).fUp)).bind fun r1=>(bif r1 then(if(0:Int)≤(Aob .i64 ((gt a0 a1).fUp) 1)∧(Aob .i64 ((gt a0 a1).fUp) 1)<(a0.length:Int)then(bif (((gt a0 (Aob .i64 ((gt a0 a1).fUp) 1)).Hh)==1)then(if(0:Int)≤(Aob .i64 ((gt a0 a1).fUp) 1)∧(Aob .i64 ((gt a0 a1).fUp) 1)<(a0.length:Int)then(if(0:Int)≤a1∧a1<(a0.length:Int)then some (((gt a0 (Aob .i64 ((gt a0 a1).fUp) 1)).Ly)==((gt a0 a1).Gq))else none)else none)else some false)else none)else some false))else none)
def Bxo:Sig:=⟨[.v 29,.v 3],[.v 4],true⟩
def Bmi (K:Nat):Gb tyU:=⟨Bxo,Aqw K⟩
def B3l (K:Nat):=xF Bxo [(244,Bdo K)] [] 37 [13,14,21,22,23] [] [] [] [.tmp 4]
theorem Bf0 (K:Nat):OkF 225 (Bmi K):=
 Aa6 (x:=B3l K) (L:=[]) (c0:=bd Tryz.f225) (xkF (gC (A91 K) gN) oN) (by intro a0 a1;show @Eq _ _ _;kernel_rfl) kN Tryz.func225 trivial
def Atp (K:Nat)(a0:List Ba):Nat->Int->(List Int)->Option ((List Int))
 |0,_,_=>none
 |n1+1,v1,v2=>((Aok K a0 (Aoa .i64 v1 1)).bind fun r3=>(bif r3 then(bif (decide ((v2.length:Int)<(a0.length:Int)))then(if(v2++([v1]:List Int)).length*8≤140737488355328∧(v2++([v1]:List Int)).length≤maxLen then(if(0:Int)≤v1∧v1<(a0.length:Int)then(Atp K a0 n1 (Aob .i64 ((gt a0 v1).fUp) 1) (v2++([v1]:List Int)))else none)else none)else some v2)else some v2))
def Aun (K:Nat)(a0:List Ba)(a1:Int):Option ((List Int)):=(Atp K a0 K a1 ([]:List Int))
def s_35:Sig:=⟨[.v 29,.v 3],[.n 26 true],true⟩
def Bmj (K:Nat):Gb tyU:=⟨s_35,Aun K⟩
def Btb (K:Nat):=xF s_35 [(244,Bdo K)] [] 29 [10,11] [] [] [] [.tmp 4]
def A72:E5:=⟨[(0,.v 29),(1,.v 2),(5,.o 1005 3 true)],[]⟩
def A73 (K:Nat)(n:Nat)(q:PT A72):Rt s_35:=Atp K q.1 n q.2.1 q.2.2.1
theorem Bmk (K:Nat):AtL (Btb K) (fun n=>[]) [] (bd Tryz.f224) 28 (A73 K):=fun n q=>by kernel_rfl
theorem Bo6 (K:Nat):XF [.tmp 4] s_35 29 [] (Btb K):=xkF (gC (A91 K) gN) oN
theorem Bml (K:Nat)(n:Nat):CF [.tmp 4] s_35 29 [] (bd Tryz.f224) [] 28 (ar A72 (A73 K n)):=
 Aeg (Bo6 K) (Bmk K) (fun n=>kN) n
theorem Bf1 (K:Nat):OkF 224 (Bmj K):=
 Aa6 (x:=Btb K) (L:=[(28,ar A72 (A73 K K))]) (c0:=bd Tryz.f224) (Bo6 K) (by intro a0 a1;show @Eq _ _ _;kernel_rfl) (kC (Bml K K) kN) Tryz.func224 trivial
def Arb (K:Nat)(a0:List Ba)(a1:Int):Option (Bool):=((Aun K a0 a1).bind fun r19=>(bif (decide ((r19.length:Int)≤4))then(if(0:Int)≤(Aob .i64 (r19.length:Int) 1)∧(Aob .i64 (r19.length:Int) 1)<(r19.length:Int)then((Aqw K a0 (gt r19 (Aob .i64 (r19.length:Int) 1))).bind fun r20=>some (!r20))else none)else some false))
def Ass (K:Nat)(a0:List Ba)(a1:Int)(v8:Int)(v12:Int):Option (Bool):=(bif (v12==0)then((Aqw K a0 a1).bind fun r18=>(bif r18 then(if(0:Int)≤(Aob .i64 v8 1)∧(Aob .i64 v8 1)<(a0.length:Int)then(bif (((gt a0 (Aob .i64 v8 1)).Bt) != (Aoa .i64 a1 1))then some false else(Arb K a0 a1))else none)else(Arb K a0 a1)))else(Arb K a0 a1))
def Ast (K:Nat)(a0:List Ba)(a1:Int)(v8:Int)(v12:Int):Option (Bool):=(bif (v12 != 0)then(if(0:Int)≤(Aob .i64 v12 1)∧(Aob .i64 v12 1)<(a0.length:Int)then(bif (((gt a0 (Aob .i64 v12 1)).Gr) != (Aoa .i64 a1 1))then some false else(Ass K a0 a1 v8 v12))else none)else(Ass K a0 a1 v8 v12))
def Asu (K:Nat)(a0:List Ba)(a1:Int)(v8:Int)(v9:Int)(v11:Int)(v12:Int):Option (Bool):=(bif (v11 != 0)then(if(0:Int)≤(Aob .i64 v11 1)∧(Aob .i64 v11 1)<(a0.length:Int)then(bif (((gt a0 (Aob .i64 v11 1)).Gs) != (Aoa .i64 a1 1))then some false else(bif (((gt a0 (Aob .i64 v11 1)).fUp) != v8)then some false else(bif (((gt a0 (Aob .i64 v11 1)).Gq) != v9)then some false else(Ast K a0 a1 v8 v12))))else none)else(Ast K a0 a1 v8 v12))
def Asv (K:Nat)(a0:List Ba)(a1:Int)(v5:Int)(v6:Int)(v7:Int)(v8:Int)(v9:Int)(v10:Int)(v11:Int)(v12:Int)(v13:List Int)(v14:Int)(v15:Int)(v16:List A9)(v17:List Int):Option (Bool):=(bif (v10 != 0)then(if(0:Int)≤(Aob .i64 v10 1)∧(Aob .i64 v10 1)<(a0.length:Int)then(bif (((gt a0 (Aob .i64 v10 1)).Gs) != 0)then some false else(bif (((gt a0 (Aob .i64 v10 1)).fUp) != (Aoa .i64 a1 1))then some false else(bif (((gt a0 (Aob .i64 v10 1)).Gq) != v7)then some false else(Asu K a0 a1 v8 v9 v11 v12))))else none)else(Asu K a0 a1 v8 v9 v11 v12))
def Aw1 (K:Nat)(a0:List Ba)(a1:Int):Option (Bool):=(if(0:Int)≤a1∧a1<(a0.length:Int)then(bif (((gt a0 a1).fUp) != 0)then((Aok K a0 ((gt a0 a1).fUp)).bind fun r1=>(bif r1 then((Aps K a0 ((gt a0 a1).Bt)).bind fun r2=>(bif r2 then((Aps K a0 ((gt a0 a1).Gr)).bind fun r3=>(bif r3 then((Aps K a0 ((gt a0 a1).Gs)).bind fun r4=>(bif (!r4)then some false else(Asv K a0 a1 ((gt a0 a1).Hh) ((gt a0 a1).C2) ((gt a0 a1).Ly) ((gt a0 a1).fUp) ((gt a0 a1).Gq) ((gt a0 a1).Bt) ((gt a0 a1).Gr) ((gt a0 a1).Gs) ((gt a0 a1).Ae) ((gt a0 a1).Pq) ((gt a0 a1).Gt) ((gt a0 a1).Ea) ((gt a0 a1).Dg))))else some false))else some false))else some false))else((Aps K a0 ((gt a0 a1).Bt)).bind fun r21=>(bif r21 then((Aps K a0 ((gt a0 a1).Gr)).bind fun r22=>(bif r22 then((Aps K a0 ((gt a0 a1).Gs)).bind fun r23=>(bif (!r23)then some false else(Asv K a0 a1 ((gt a0 a1).Hh) ((gt a0 a1).C2) ((gt a0 a1).Ly) ((gt a0 a1).fUp) ((gt a0 a1).Gq) ((gt a0 a1).Bt) ((gt a0 a1).Gr) ((gt a0 a1).Gs) ((gt a0 a1).Ae) ((gt a0 a1).Pq) ((gt a0 a1).Gt) ((gt a0 a1).Ea) ((gt a0 a1).Dg))))else some false))else some false)))else none)
def s_36:Sig:=⟨[.v 29,.v 3],[.v 4],true⟩
def Bxp (K:Nat):Gb tyU:=⟨s_36,Aw1 K⟩
def Bbg (K:Nat):=xF s_36 [(224,Bmj K),(225,Bmi K),(244,Bdo K),(264,Bxm K)] [] 150 [15,16,20,21,22,23,27,28,29,30,34,35,36,37,55,56,61,62,63,83,84,89,90,91,100,101,115,116,119,120,121,138,139] [] [] [7,15,31,63,127] [.tmp 4]
def A3c:E5:=⟨[(0,.v 29),(1,.v 2)],[]⟩
def A74:E5:=⟨[(0,.v 29),(1,.v 2),(5,.p 105)],[(105,.box [.v 2,.v 2,.v 2,.v 2,.v 2,.v 2,.v 2,.v 2,.v 26,.v 2,.v 2,.v 41,.v 26])]⟩
def A75:E5:=⟨[(0,.v 29),(1,.v 2),(5,.p 105)],[(105,.box [.v 2,.v 2,.v 2,.v 2,.v 2,.v 2,.v 2,.v 2,.v 26,.v 2,.v 2,.v 41,.v 26])]⟩
def A76:E5:=⟨[(0,.v 29),(1,.v 2),(5,.p 105)],[(105,.box [.v 2,.v 2,.v 2,.v 2,.v 2,.v 2,.v 2,.v 2,.v 26,.v 2,.v 2,.v 41,.v 26])]⟩
def Bbh:E5:=⟨[(0,.v 29),(1,.v 2),(5,.p 105)],[(105,.box [.v 2,.v 2,.v 2,.v 2,.v 2,.v 2,.v 2,.v 2,.v 26,.v 2,.v 2,.v 41,.v 26])]⟩
def A3d (K:Nat)(q:PT A3c):Rt s_36:=Arb K q.1 q.2.1
def A77 (K:Nat)(q:PT A74):Rt s_36:=Ass K q.1 q.2.1 q.2.2.2.2.2.1 q.2.2.2.2.2.2.2.2.2.1
def A78 (K:Nat)(q:PT A75):Rt s_36:=Ast K q.1 q.2.1 q.2.2.2.2.2.1 q.2.2.2.2.2.2.2.2.2.1
def A79 (K:Nat)(q:PT A76):Rt s_36:=Asu K q.1 q.2.1 q.2.2.2.2.2.1 q.2.2.2.2.2.2.1 q.2.2.2.2.2.2.2.2.1 q.2.2.2.2.2.2.2.2.2.1
def Bbi (K:Nat)(q:PT Bbh):Rt s_36:=Asv K q.1 q.2.1 q.2.2.1 q.2.2.2.1 q.2.2.2.2.1 q.2.2.2.2.2.1 q.2.2.2.2.2.2.1 q.2.2.2.2.2.2.2.1 q.2.2.2.2.2.2.2.2.1 q.2.2.2.2.2.2.2.2.2.1 q.2.2.2.2.2.2.2.2.2.2.1 q.2.2.2.2.2.2.2.2.2.2.2.1 q.2.2.2.2.2.2.2.2.2.2.2.2.1 q.2.2.2.2.2.2.2.2.2.2.2.2.2.1 q.2.2.2.2.2.2.2.2.2.2.2.2.2.2.1
theorem Bf2 (K:Nat):AtJ (Bbg K) [] [] (bd Tryz.f213) 127 (A3d K):=fun q=>by kernel_rfl
theorem Bmm (K:Nat):AtJ (Bbg K) [(127,ar A3c (A3d K))] [] (bd Tryz.f213) 63 (A77 K):=fun q=>by kernel_rfl
theorem Bmn (K:Nat):AtJ (Bbg K) [(63,ar A74 (A77 K))] [] (bd Tryz.f213) 31 (A78 K):=fun q=>by kernel_rfl
theorem Bmo (K:Nat):AtJ (Bbg K) [(31,ar A75 (A78 K))] [] (bd Tryz.f213) 15 (A79 K):=fun q=>by kernel_rfl
theorem Btc (K:Nat):AtJ (Bbg K) [(15,ar A76 (A79 K))] [] (bd Tryz.f213) 7 (Bbi K):=fun q=>by kernel_rfl
theorem A66 (K:Nat):XF [.tmp 4] s_36 150 [7,15,31,63,127] (Bbg K):=xkF (gC (Bf1 K) (gC (Bf0 K) (gC (A91 K) (gC (Bxn K) gN)))) oN
theorem Bf3 (K:Nat):CF [.tmp 4] s_36 150 [7,15,31,63,127] (bd Tryz.f213) [] 127 (ar A3c (A3d K)):=
 Apm (A66 K) (Bf2 K) kN
theorem Bmp (K:Nat):CF [.tmp 4] s_36 150 [7,15,31,63,127] (bd Tryz.f213) [] 63 (ar A74 (A77 K)):=
 Apm (A66 K) (Bmm K) (kC (Bf3 K) kN)
theorem Bmq (K:Nat):CF [.tmp 4] s_36 150 [7,15,31,63,127] (bd Tryz.f213) [] 31 (ar A75 (A78 K)):=
 Apm (A66 K) (Bmn K) (kC (Bmp K) kN)
theorem Bmr (K:Nat):CF [.tmp 4] s_36 150 [7,15,31,63,127] (bd Tryz.f213) [] 15 (ar A76 (A79 K)):=
 Apm (A66 K) (Bmo K) (kC (Bmq K) kN)
theorem Btd (K:Nat):CF [.tmp 4] s_36 150 [7,15,31,63,127] (bd Tryz.f213) [] 7 (ar Bbh (Bbi K)):=
 Apm (A66 K) (Btc K) (kC (Bmr K) kN)
theorem Bxq (K:Nat):OkF 213 (Bxp K):=
 Aa6 (x:=Bbg K) (L:=[(7,ar Bbh (Bbi K))]) (c0:=bd Tryz.f213) (A66 K) (by intro a0 a1;show @Eq _ _ _;kernel_rfl) (kC (Btd K) kN) Tryz.func213 trivial
def Atz (K:Nat)(v1:Int)(C1:Int->Option (Bool)):Option (Bool):=(C1 (Aoa .i64 v1 1))
def Apf (K:Nat)(a0:List Ba):Nat->Int->Option (Bool)
 |0,_=>none
 |n1+1,v1=>(bif (decide (v1<(a0.length:Int)))then(if(0:Int)≤v1∧v1<(a0.length:Int)then(bif (((gt a0 v1).Hh)==1)then((Aw1 K a0 v1).bind fun r2=>(bif (!r2)then some false else(Atz K v1 (Apf K a0 n1))))else(Atz K v1 (Apf K a0 n1)))else none)else some true)
def Av6 (K:Nat)(a0:List Ba):Option (Bool):=(Apf K a0 K 0)
def s_37:Sig:=⟨[.v 29],[.v 4],true⟩
def Bxr (K:Nat):Gb tyU:=⟨s_37,Av6 K⟩
def Bms (K:Nat):=xF s_37 [(213,Bxp K)] [] 22 [15,16] [] [] [105] [.tmp 2]
def A3e:E5:=⟨[(0,.v 29),(3,.v 2)],[]⟩
def Axr:E5:=⟨[(0,.v 29),(3,.v 2)],[]⟩
def A3f (K:Nat)(C26:CT Axr s_37)(q:PT A3e):Rt s_37:=Atz K q.2.1 (fun v1=>C26 (q.1,v1,()))
def A0z (K:Nat)(n:Nat)(q:PT Axr):Rt s_37:=Apf K q.1 n q.2.1
theorem Bf4 (K:Nat)(C26:CT Axr s_37):AtJ (Bms K) [] [(26,ar Axr C26)] (bd Tryz.f141) 105 (A3f K C26):=fun q=>by kernel_rfl
theorem Bmt (K:Nat):AtL (Bms K) (fun n=>[(105,ar A3e (A3f K (A0z K n)))]) [] (bd Tryz.f141) 26 (A0z K):=fun n q=>by kernel_rfl
theorem Bf5 (K:Nat):XF [.tmp 2] s_37 22 [105] (Bms K):=xkF (gC (Bxq K) gN) oN
theorem Bf6 (K:Nat)(C26:CT Axr s_37):CF [.tmp 2] s_37 22 [105] (bd Tryz.f141) [(26,ar Axr C26)] 105 (ar A3e (A3f K C26)):=
 Apm (Bf5 K) (Bf4 K C26) kN
theorem Bmu (K:Nat)(n:Nat):CF [.tmp 2] s_37 22 [105] (bd Tryz.f141) [] 26 (ar Axr (A0z K n)):=
 Aeg (Bf5 K) (Bmt K) (fun n=>(kC (Bf6 K (A0z K n)) kN)) n
theorem Bxs (K:Nat):OkF 141 (Bxr K):=
 Aa6 (x:=Bms K) (L:=[(26,ar Axr (A0z K K))]) (c0:=bd Tryz.f141) (Bf5 K) (by intro a0;show @Eq _ _ _;kernel_rfl) (kC (Bmu K K) kN) Tryz.func141 trivial
def As6 (K:Nat)(v2:Int)(v3:List Int)(v4:List Int)(v5:List Int)(C1:Int->Int->(List Int)->(List Int)->(List Int)->Option (Int))(v6:Int):Option (Int):=(C1 v6 (Aoa .i64 v2 1) v3 v4 v5)
def Ann (K:Nat)(a1:Int):Nat->Int->Int->(List Int)->(List Int)->(List Int)->Option (Int)
 |0,_,_,_,_,_=>none
 |n1+1,v1,v2,v3,v4,v5=>(bif (decide (v2<(v4.length:Int)))then(if(0:Int)≤v2∧v2<(v4.length:Int)then(bif ((gt v4 v2)==a1)then(As6 K v2 v3 v4 v5 (Ann K a1 n1) (Aoa .i64 v1 1))else(As6 K v2 v3 v4 v5 (Ann K a1 n1) v1))else none)else some v1)
def Au0 (K:Nat)(a0:Dw)(a1:Int):Option (Int):=(Ann K a1 K 0 0 a0.Fy a0.Hh a0.Fz)
def s_38:Sig:=⟨[.v 28,.v 3],[.v 3],true⟩
def Bxt (K:Nat):Gb tyU:=⟨s_38,Au0 K⟩
def Bmv (K:Nat):=xF s_38 [] [] 24 [] [] [] [233] [.tmp 4]
def A3g:E5:=⟨[(1,.v 2),(2,.p 102),(5,.v 2),(6,.v 2)],[(102,.box [.v 22,.v 26,.v 26])]⟩
def Axs:E5:=⟨[(1,.v 2),(2,.p 102),(5,.v 2),(6,.v 2)],[(102,.box [.v 22,.v 26,.v 26])]⟩
def A3h (K:Nat)(C58:CT Axs s_38)(q:PT A3g):Rt s_38:=As6 K q.2.2.1 q.2.2.2.1 q.2.2.2.2.1 q.2.2.2.2.2.1 (fun v1 v2 v3 v4 v5=>C58 (q.1,v1,v2,v3,v4,v5,())) q.2.1
def A00 (K:Nat)(n:Nat)(q:PT Axs):Rt s_38:=Ann K q.1 n q.2.1 q.2.2.1 q.2.2.2.1 q.2.2.2.2.1 q.2.2.2.2.2.1
theorem Bf7 (K:Nat)(C58:CT Axs s_38):AtJ (Bmv K) [] [(58,ar Axs C58)] (bd Tryz.f222) 233 (A3h K C58):=fun q=>by kernel_rfl
theorem Bmw (K:Nat):AtL (Bmv K) (fun n=>[(233,ar A3g (A3h K (A00 K n)))]) [] (bd Tryz.f222) 58 (A00 K):=fun n q=>by kernel_rfl
theorem Bf8 (K:Nat):XF [.tmp 4] s_38 24 [233] (Bmv K):=xkF gN oN
theorem Bf9 (K:Nat)(C58:CT Axs s_38):CF [.tmp 4] s_38 24 [233] (bd Tryz.f222) [(58,ar Axs C58)] 233 (ar A3g (A3h K C58)):=
 Apm (Bf8 K) (Bf7 K C58) kN
theorem Bmx (K:Nat)(n:Nat):CF [.tmp 4] s_38 24 [233] (bd Tryz.f222) [] 58 (ar Axs (A00 K n)):=
 Aeg (Bf8 K) (Bmw K) (fun n=>(kC (Bf9 K (A00 K n)) kN)) n
theorem Bxu (K:Nat):OkF 222 (Bxt K):=
 Aa6 (x:=Bmv K) (L:=[(58,ar Axs (A00 K K))]) (c0:=bd Tryz.f222) (Bf8 K) (by intro a0 a1;show @Eq _ _ _;kernel_rfl) (kC (Bmx K K) kN) Tryz.func222 trivial
def Aq9 (K:Nat)(v2:Int)(C1:Int->Int->Option (Int))(v3:Int):Option (Int):=(C1 v3 (Aoa .i64 v2 1))
def Ai8 (K:Nat)(a0:List Ba)(a1:Int):Nat->Int->Int->Option (Int)
 |0,_,_=>none
 |n1+1,v1,v2=>(bif (decide (v2<(a0.length:Int)))then(if(0:Int)≤v2∧v2<(a0.length:Int)then(bif (((gt a0 v2).Hh)==a1)then(Aq9 K v2 (Ai8 K a0 a1 n1) (Aoa .i64 v1 1))else(Aq9 K v2 (Ai8 K a0 a1 n1) v1))else none)else some v1)
def Ase (K:Nat)(a0:List Ba)(a1:Int):Option (Int):=(Ai8 K a0 a1 K 0 0)
def s_39:Sig:=⟨[.v 29,.v 3],[.v 3],true⟩
def Bxv (K:Nat):Gb tyU:=⟨s_39,Ase K⟩
def Bmy (K:Nat):=xF s_39 [] [] 23 [] [] [] [233] [.tmp 4]
def A3i:E5:=⟨[(0,.v 29),(1,.v 2),(5,.v 2),(6,.v 2)],[]⟩
def Axt:E5:=⟨[(0,.v 29),(1,.v 2),(5,.v 2),(6,.v 2)],[]⟩
def A3j (K:Nat)(C58:CT Axt s_39)(q:PT A3i):Rt s_39:=Aq9 K q.2.2.2.1 (fun v1 v2=>C58 (q.1,q.2.1,v1,v2,())) q.2.2.1
def A01 (K:Nat)(n:Nat)(q:PT Axt):Rt s_39:=Ai8 K q.1 q.2.1 n q.2.2.1 q.2.2.2.1
theorem Bga (K:Nat)(C58:CT Axt s_39):AtJ (Bmy K) [] [(58,ar Axt C58)] (bd Tryz.f223) 233 (A3j K C58):=fun q=>by kernel_rfl
theorem Bmz (K:Nat):AtL (Bmy K) (fun n=>[(233,ar A3i (A3j K (A01 K n)))]) [] (bd Tryz.f223) 58 (A01 K):=fun n q=>by kernel_rfl
theorem Bgb (K:Nat):XF [.tmp 4] s_39 23 [233] (Bmy K):=xkF gN oN
theorem Bgc (K:Nat)(C58:CT Axt s_39):CF [.tmp 4] s_39 23 [233] (bd Tryz.f223) [(58,ar Axt C58)] 233 (ar A3i (A3j K C58)):=
 Apm (Bgb K) (Bga K C58) kN
theorem Bm0 (K:Nat)(n:Nat):CF [.tmp 4] s_39 23 [233] (bd Tryz.f223) [] 58 (ar Axt (A01 K n)):=
 Aeg (Bgb K) (Bmz K) (fun n=>(kC (Bgc K (A01 K n)) kN)) n
theorem Bxw (K:Nat):OkF 223 (Bxv K):=
 Aa6 (x:=Bmy K) (L:=[(58,ar Axt (A01 K K))]) (c0:=bd Tryz.f223) (Bgb K) (by intro a0 a1;show @Eq _ _ _;kernel_rfl) (kC (Bm0 K K) kN) Tryz.func223 trivial
def Asw (K:Nat)(a0:List Int)(a1:Int):Nat->Int->Option (Bool)
 |0,_=>none
 |n1+1,v1=>(bif (decide (v1<(a0.length:Int)))then(if(0:Int)≤v1∧v1<(a0.length:Int)then(bif ((gt a0 v1)==a1)then some true else(Asw K a0 a1 n1 (Aoa .i64 v1 1)))else none)else some false)
def Apt (K:Nat)(a0:List Int)(a1:Int):Option (Bool):=(Asw K a0 a1 K 0)
def s_40:Sig:=⟨[.v 26,.v 3],[.v 4],true⟩
def Bdp (K:Nat):Gb tyU:=⟨s_40,Apt K⟩
def Bte (K:Nat):=xF s_40 [] [] 18 [] [] [] [] [.tmp 4]
def A8a:E5:=⟨[(0,.v 26),(1,.v 2),(5,.v 2)],[]⟩
def A8b (K:Nat)(n:Nat)(q:PT A8a):Rt s_40:=Asw K q.1 q.2.1 n q.2.2.1
theorem Bm1 (K:Nat):AtL (Bte K) (fun n=>[]) [] (bd Tryz.f218) 26 (A8b K):=fun n q=>by kernel_rfl
theorem Bo7 (K:Nat):XF [.tmp 4] s_40 18 [] (Bte K):=xkF gN oN
theorem Bm2 (K:Nat)(n:Nat):CF [.tmp 4] s_40 18 [] (bd Tryz.f218) [] 26 (ar A8a (A8b K n)):=
 Aeg (Bo7 K) (Bm1 K) (fun n=>kN) n
theorem A92 (K:Nat):OkF 218 (Bdp K):=
 Aa6 (x:=Bte K) (L:=[(26,ar A8a (A8b K K))]) (c0:=bd Tryz.f218) (Bo7 K) (by intro a0 a1;show @Eq _ _ _;kernel_rfl) (kC (Bm2 K K) kN) Tryz.func218 trivial
def Arc (K:Nat)(a0:List Ba)(a1:Int):Option (Bool):=(if(0:Int)≤a1∧a1<(a0.length:Int)then(bif (((gt a0 a1).Hh)==1)then(if(0:Int)≤a1∧a1<(a0.length:Int)then(bif (((gt a0 a1).fUp) != 0)then((Aqw K a0 a1).bind fun r1=>some (!r1))else some false)else none)else some false)else none)
def Bxx:Sig:=⟨[.v 29,.v 3],[.v 4],true⟩
def Btf (K:Nat):Gb tyU:=⟨Bxx,Arc K⟩
def B3m (K:Nat):=xF Bxx [(225,Bmi K)] [] 25 [10,11,17,18,19] [] [] [] [.tmp 4]
theorem Bo8 (K:Nat):OkF 221 (Btf K):=
 Aa6 (x:=B3m K) (L:=[]) (c0:=bd Tryz.f221) (xkF (gC (Bf0 K) gN) oN) (by intro a0 a1;show @Eq _ _ _;kernel_rfl) kN Tryz.func221 trivial
def Ar3 (K:Nat)(a0:List Ba):Nat->Int->(List Int)->Option ((List Int))
 |0,_,_=>none
 |n1+1,v1,v2=>((Aok K a0 v1).bind fun r3=>(bif r3 then(bif (decide ((v2.length:Int)<(a0.length:Int)))then(if(v2++([(Aob .i64 v1 1)]:List Int)).length*8≤140737488355328∧(v2++([(Aob .i64 v1 1)]:List Int)).length≤maxLen then(if(0:Int)≤(Aob .i64 v1 1)∧(Aob .i64 v1 1)<(a0.length:Int)then(Ar3 K a0 n1 ((gt a0 (Aob .i64 v1 1)).Gr) (v2++([(Aob .i64 v1 1)]:List Int)))else none)else none)else some v2)else some v2))
def Atq (K:Nat)(a0:List Ba)(a1:Int):Option ((List Int)):=(Ar3 K a0 K a1 ([]:List Int))
def s_42:Sig:=⟨[.v 29,.v 3],[.n 26 true],true⟩
def Btg (K:Nat):Gb tyU:=⟨s_42,Atq K⟩
def Bth (K:Nat):=xF s_42 [(244,Bdo K)] [] 29 [9,10] [] [] [] [.tmp 4]
def A8c:E5:=⟨[(0,.v 29),(1,.v 2),(5,.o 1005 3 true)],[]⟩
def A8d (K:Nat)(n:Nat)(q:PT A8c):Rt s_42:=Ar3 K q.1 n q.2.1 q.2.2.1
theorem Bm3 (K:Nat):AtL (Bth K) (fun n=>[]) [] (bd Tryz.f202) 28 (A8d K):=fun n q=>by kernel_rfl
theorem Bo9 (K:Nat):XF [.tmp 4] s_42 29 [] (Bth K):=xkF (gC (A91 K) gN) oN
theorem Bm4 (K:Nat)(n:Nat):CF [.tmp 4] s_42 29 [] (bd Tryz.f202) [] 28 (ar A8c (A8d K n)):=
 Aeg (Bo9 K) (Bm3 K) (fun n=>kN) n
theorem Bpa (K:Nat):OkF 202 (Btg K):=
 Aa6 (x:=Bth K) (L:=[(28,ar A8c (A8d K K))]) (c0:=bd Tryz.f202) (Bo9 K) (by intro a0 a1;show @Eq _ _ _;kernel_rfl) (kC (Bm4 K K) kN) Tryz.func202 trivial
def Anh (K:Nat)(v4:Int)(v15:List Ax)(v20:List Int)(v21:Int)(C3:(List Int)->Int->Option (Bool)):Nat->Int->Option (Bool)
 |0,_=>none
 |n5+1,v22=>(if(0:Int)≤v4∧v4<(v15.length:Int)then(bif (decide (v22<(((gt v15 v4).Ae).length:Int)))then(if(0:Int)≤v21∧v21<(v15.length:Int)then(if(0:Int)≤v4∧v4<(v15.length:Int)then(if(0:Int)≤v22∧v22<(((gt v15 v4).Ae).length:Int)then((Apt K ((gt v15 v21).Ae) (gt ((gt v15 v4).Ae) v22)).bind fun r23=>(bif r23 then some false else(Anh K v4 v15 v20 v21 C3 n5 (Aoa .i64 v22 1))))else none)else none)else none)else(C3 v20 (Aoa .i64 v21 1)))else none)
def Aqj (K:Nat)(v4:Int)(v15:List Ax)(v20:List Int)(v21:Int)(C3:(List Int)->Int->Option (Bool)):Option (Bool):=(Anh K v4 v15 v20 v21 (C3) K 0)
def Ak5 (K:Nat)(v4:Int)(v5:Int)(v6:Int)(v7:Int)(v8:Int)(v9:Int)(v10:Int)(v11:List Int)(v12:List Int)(v13:List Int)(v14:List Ba)(v15:List Ax)(v16:List Int)(v17:Int)(v18:Int)(C1:Int->Int->(List Int)->Int->Int->Int->Int->Int->Int->Int->(List Int)->(List Int)->(List Int)->(List Ba)->(List Ax)->(List Int)->Option (Bool)):Nat->(List Int)->Int->Option (Bool)
 |0,_,_=>none
 |n3+1,v20,v21=>(bif (decide (v21<v4))then(if(0:Int)≤v4∧v4<(v15.length:Int)then(bif (((gt v15 v4).A5) != 0)then(if(0:Int)≤v21∧v21<(v15.length:Int)then(if(0:Int)≤v4∧v4<(v15.length:Int)then(bif (((gt v15 v21).A5)==((gt v15 v4).A5))then some false else(Aqj K v4 v15 v20 v21 (Ak5 K v4 v5 v6 v7 v8 v9 v10 v11 v12 v13 v14 v15 v16 v17 v18 C1 n3)))else none)else none)else(Aqj K v4 v15 v20 v21 (Ak5 K v4 v5 v6 v7 v8 v9 v10 v11 v12 v13 v14 v15 v16 v17 v18 C1 n3)))else none)else(C1 v17 v18 v20 (Aoa .i64 v4 1) v5 v6 v7 v8 v9 v10 v11 v12 v13 v14 v15 v16))
def Aqk (K:Nat)(v3:List Int)(v4:Int)(v5:Int)(v6:Int)(v7:Int)(v8:Int)(v9:Int)(v10:Int)(v11:List Int)(v12:List Int)(v13:List Int)(v14:List Ba)(v15:List Ax)(v16:List Int)(C1:Int->Int->(List Int)->Int->Int->Int->Int->Int->Int->Int->(List Int)->(List Int)->(List Int)->(List Ba)->(List Ax)->(List Int)->Option (Bool))(v17:Int)(v18:Int):Option (Bool):=(if(0:Int)≤v4∧v4<(v15.length:Int)then((Atq K v14 ((gt v15 v4).Bt)).bind fun r19=>(if(v3++r19).length*8≤140737488355328∧(v3++r19).length≤maxLen then(Ak5 K v4 v5 v6 v7 v8 v9 v10 v11 v12 v13 v14 v15 v16 v17 v18 (C1) K (v3++r19) 0)else none))else none)
def Ary (K:Nat)(v25:Int)(C6:Int->Int->Option (Bool))(v27:Int):Option (Bool):=(C6 v27 (Aoa .i64 v25 1))
def Ak7 (K:Nat)(v1:Int)(v2:Int)(v3:List Int)(v11:List Int)(v12:List Int)(v13:List Int)(v14:List Ba)(v24:Int):Nat->Int->Option (Bool)
 |0,_=>none
 |n8+1,v28=>(bif (decide (v28<(v3.length:Int)))then(if(0:Int)≤0∧0≤v28∧v28≤(v3.length:Int)then(if(0:Int)≤v28∧v28<(v3.length:Int)then((Apt K ((v3.drop (0:Int).toNat).take (v28 - 0).toNat) (gt v3 v28)).bind fun r29=>(bif r29 then some false else(Ak7 K v1 v2 v3 v11 v12 v13 v14 v24 n8 (Aoa .i64 v28 1))))else none)else none)else((Au0 K (Dw.mk v11 v12 v13) 2).bind fun r30=>(bif (v1==r30)then((Ase K v14 2).bind fun r31=>(bif (v2==r31)then some ((v3.length:Int)==v24)else some false))else some false)))
def Ahs (K:Nat)(v1:Int)(v2:Int)(v3:List Int)(v11:List Int)(v12:List Int)(v13:List Int)(v14:List Ba):Nat->Int->Int->Option (Bool)
 |0,_,_=>none
 |n6+1,v24,v25=>(bif (decide (v25<(v14.length:Int)))then((Arc K v14 v25).bind fun r26=>(bif r26 then(Ary K v25 (Ahs K v1 v2 v3 v11 v12 v13 v14 n6) (Aoa .i64 v24 1))else(Ary K v25 (Ahs K v1 v2 v3 v11 v12 v13 v14 n6) v24)))else(Ak7 K v1 v2 v3 v11 v12 v13 v14 v24 K 0))
def Agf (K:Nat):Nat->Int->Int->(List Int)->Int->Int->Int->Int->Int->Int->Int->(List Int)->(List Int)->(List Int)->(List Ba)->(List Ax)->(List Int)->Option (Bool)
 |0,_,_,_,_,_,_,_,_,_,_,_,_,_,_,_,_=>none
 |n1+1,v1,v2,v3,v4,v5,v6,v7,v8,v9,v10,v11,v12,v13,v14,v15,v16=>(bif (decide (v4<(v15.length:Int)))then(if(0:Int)≤v4∧v4<(v15.length:Int)then(if(0:Int)≤v4∧v4<(v15.length:Int)then(bif (((gt v15 v4).A5) != 0)then(Aqk K v3 v4 v5 v6 v7 v8 v9 v10 v11 v12 v13 v14 v15 v16 (Agf K n1) (Aoa .i64 v1 (((gt v15 v4).Ae).length:Int)) (Aoa .i64 v2 1))else(Aqk K v3 v4 v5 v6 v7 v8 v9 v10 v11 v12 v13 v14 v15 v16 (Agf K n1) (Aoa .i64 v1 (((gt v15 v4).Ae).length:Int)) v2))else none)else none)else(Ahs K v1 v2 v3 v11 v12 v13 v14 K 0 0))
def As7 (K:Nat)(a0:Eb):Option (Bool):=(Agf K K 0 0 ([]:List Int) 0 a0.fC.Ae a0.fC.Eg a0.fC.C0 a0.fC.E9 a0.fC.C1 a0.fC.Eh a0.fP.Fy a0.fP.Hh a0.fP.Fz a0.fL a0.fQ a0.Pr)
def s_43:Sig:=⟨[.v 32],[.v 4],true⟩
def Bxy (K:Nat):Gb tyU:=⟨s_43,As7 K⟩
def A6l (K:Nat):=xF s_43 [(202,Btg K),(218,Bdp K),(221,Btf K),(222,Bxt K),(223,Bxv K)] [] 148 [60,61,134,135,140,141,142] [] [] [4073,8009,2050532] [.tmp 2]
def Ax5:E5:=⟨[(1,.p 101),(3,.v 2),(4,.v 2),(5,.o 1005 3 true),(6,.v 2),(7,.v 2),(8,.v 2)],[(101,.box [.v 2,.v 2,.v 2,.v 2,.v 2,.v 2,.v 22,.v 26,.v 26,.v 29,.v 30,.v 26])]⟩
def Aym:E5:=⟨[(1,.p 101),(3,.v 2),(4,.v 2),(5,.o 1005 3 true),(6,.v 2),(7,.v 2)],[(101,.box [.v 2,.v 2,.v 2,.v 2,.v 2,.v 2,.v 22,.v 26,.v 26,.v 29,.v 30,.v 26])]⟩
def Ano:E5:=⟨[(1,.p 101),(3,.v 2),(4,.v 2),(5,.o 1005 3 true),(6,.v 2),(7,.v 2)],[(101,.box [.v 2,.v 2,.v 2,.v 2,.v 2,.v 2,.v 22,.v 26,.v 26,.v 29,.v 30,.v 26])]⟩
def A1p:E5:=⟨[(1,.p 101),(3,.v 2),(4,.v 2),(5,.o 1005 3 true),(6,.v 2)],[(101,.box [.v 2,.v 2,.v 2,.v 2,.v 2,.v 2,.v 22,.v 26,.v 26,.v 29,.v 30,.v 26])]⟩
def A1q:E5:=⟨[(1,.p 101),(3,.v 2),(4,.v 2),(5,.o 1005 3 true),(9,.v 2),(10,.v 2)],[(101,.box [.v 2,.v 2,.v 2,.v 2,.v 2,.v 2,.v 22,.v 26,.v 26,.v 29,.v 30,.v 26])]⟩
def A1r:E5:=⟨[(1,.p 101),(3,.v 2),(4,.v 2),(5,.o 1005 3 true),(9,.v 2),(11,.v 2)],[(101,.box [.v 2,.v 2,.v 2,.v 2,.v 2,.v 2,.v 22,.v 26,.v 26,.v 29,.v 30,.v 26])]⟩
def Auo:E5:=⟨[(1,.p 101),(3,.v 2),(4,.v 2),(5,.o 1005 3 true),(9,.v 2),(10,.v 2)],[(101,.box [.v 2,.v 2,.v 2,.v 2,.v 2,.v 2,.v 22,.v 26,.v 26,.v 29,.v 30,.v 26])]⟩
def Ak8:E5:=⟨[(1,.p 101),(3,.v 2),(4,.v 2),(5,.o 1005 3 true),(6,.v 2)],[(101,.box [.v 2,.v 2,.v 2,.v 2,.v 2,.v 2,.v 22,.v 26,.v 26,.v 29,.v 30,.v 26])]⟩
def Ax6 (K:Nat)(C250:CT Ak8 s_43)(C128158:CT Ano s_43)(n:Nat)(q:PT Ax5):Rt s_43:=Anh K q.2.2.2.1 q.2.2.2.2.2.2.2.2.2.2.2.2.2.2.2.2.1 q.2.2.1 q.2.2.2.2.1 (fun v20 v21=>C128158 (q.1,q.2.1,v20,q.2.2.2.1,v21,q.2.2.2.2.2.2.1,q.2.2.2.2.2.2.2.1,q.2.2.2.2.2.2.2.2.1,q.2.2.2.2.2.2.2.2.2.1,q.2.2.2.2.2.2.2.2.2.2.1,q.2.2.2.2.2.2.2.2.2.2.2.1,q.2.2.2.2.2.2.2.2.2.2.2.2.1,q.2.2.2.2.2.2.2.2.2.2.2.2.2.1,q.2.2.2.2.2.2.2.2.2.2.2.2.2.2.1,q.2.2.2.2.2.2.2.2.2.2.2.2.2.2.2.1,q.2.2.2.2.2.2.2.2.2.2.2.2.2.2.2.2.1,q.2.2.2.2.2.2.2.2.2.2.2.2.2.2.2.2.2.1,())) n q.2.2.2.2.2.1
def Ayn (K:Nat)(C250:CT Ak8 s_43)(C128158:CT Ano s_43)(q:PT Aym):Rt s_43:=Aqj K q.2.2.2.1 q.2.2.2.2.2.2.2.2.2.2.2.2.2.2.2.1 q.2.2.1 q.2.2.2.2.1 (fun v20 v21=>C128158 (q.1,q.2.1,v20,q.2.2.2.1,v21,q.2.2.2.2.2.1,q.2.2.2.2.2.2.1,q.2.2.2.2.2.2.2.1,q.2.2.2.2.2.2.2.2.1,q.2.2.2.2.2.2.2.2.2.1,q.2.2.2.2.2.2.2.2.2.2.1,q.2.2.2.2.2.2.2.2.2.2.2.1,q.2.2.2.2.2.2.2.2.2.2.2.2.1,q.2.2.2.2.2.2.2.2.2.2.2.2.2.1,q.2.2.2.2.2.2.2.2.2.2.2.2.2.2.1,q.2.2.2.2.2.2.2.2.2.2.2.2.2.2.2.1,q.2.2.2.2.2.2.2.2.2.2.2.2.2.2.2.2.1,()))
def Awj (K:Nat)(C250:CT Ak8 s_43)(n:Nat)(q:PT Ano):Rt s_43:=Ak5 K q.2.2.2.1 q.2.2.2.2.2.1 q.2.2.2.2.2.2.1 q.2.2.2.2.2.2.2.1 q.2.2.2.2.2.2.2.2.1 q.2.2.2.2.2.2.2.2.2.1 q.2.2.2.2.2.2.2.2.2.2.1 q.2.2.2.2.2.2.2.2.2.2.2.1 q.2.2.2.2.2.2.2.2.2.2.2.2.1 q.2.2.2.2.2.2.2.2.2.2.2.2.2.1 q.2.2.2.2.2.2.2.2.2.2.2.2.2.2.1 q.2.2.2.2.2.2.2.2.2.2.2.2.2.2.2.1 q.2.2.2.2.2.2.2.2.2.2.2.2.2.2.2.2.1 q.1 q.2.1 (fun v1 v2 v3 v4 v5 v6 v7 v8 v9 v10 v11 v12 v13 v14 v15 v16=>C250 (v1,v2,v3,v4,v5,v6,v7,v8,v9,v10,v11,v12,v13,v14,v15,v16,())) n q.2.2.1 q.2.2.2.2.1
def A1s (K:Nat)(C250:CT Ak8 s_43)(q:PT A1p):Rt s_43:=Aqk K q.2.2.1 q.2.2.2.1 q.2.2.2.2.1 q.2.2.2.2.2.1 q.2.2.2.2.2.2.1 q.2.2.2.2.2.2.2.1 q.2.2.2.2.2.2.2.2.1 q.2.2.2.2.2.2.2.2.2.1 q.2.2.2.2.2.2.2.2.2.2.1 q.2.2.2.2.2.2.2.2.2.2.2.1 q.2.2.2.2.2.2.2.2.2.2.2.2.1 q.2.2.2.2.2.2.2.2.2.2.2.2.2.1 q.2.2.2.2.2.2.2.2.2.2.2.2.2.2.1 q.2.2.2.2.2.2.2.2.2.2.2.2.2.2.2.1 (fun v1 v2 v3 v4 v5 v6 v7 v8 v9 v10 v11 v12 v13 v14 v15 v16=>C250 (v1,v2,v3,v4,v5,v6,v7,v8,v9,v10,v11,v12,v13,v14,v15,v16,())) q.1 q.2.1
def A1t (K:Nat)(C1018:CT Auo s_43)(q:PT A1q):Rt s_43:=Ary K q.2.2.2.2.1 (fun v24 v25=>C1018 (q.1,q.2.1,q.2.2.1,v24,v25,q.2.2.2.2.2.1,q.2.2.2.2.2.2.1,q.2.2.2.2.2.2.2.1,q.2.2.2.2.2.2.2.2.1,q.2.2.2.2.2.2.2.2.2.1,q.2.2.2.2.2.2.2.2.2.2.1,q.2.2.2.2.2.2.2.2.2.2.2.1,q.2.2.2.2.2.2.2.2.2.2.2.2.1,q.2.2.2.2.2.2.2.2.2.2.2.2.2.1,q.2.2.2.2.2.2.2.2.2.2.2.2.2.2.1,q.2.2.2.2.2.2.2.2.2.2.2.2.2.2.2.1,q.2.2.2.2.2.2.2.2.2.2.2.2.2.2.2.2.1,())) q.2.2.2.1
def A1u (K:Nat)(n:Nat)(q:PT A1r):Rt s_43:=Ak7 K q.1 q.2.1 q.2.2.1 q.2.2.2.2.2.2.2.2.2.2.2.1 q.2.2.2.2.2.2.2.2.2.2.2.2.1 q.2.2.2.2.2.2.2.2.2.2.2.2.2.1 q.2.2.2.2.2.2.2.2.2.2.2.2.2.2.1 q.2.2.2.1 n q.2.2.2.2.1
def Ayd (K:Nat)(n:Nat)(q:PT Auo):Rt s_43:=Ahs K q.1 q.2.1 q.2.2.1 q.2.2.2.2.2.2.2.2.2.2.2.1 q.2.2.2.2.2.2.2.2.2.2.2.2.1 q.2.2.2.2.2.2.2.2.2.2.2.2.2.1 q.2.2.2.2.2.2.2.2.2.2.2.2.2.2.1 n q.2.2.2.1 q.2.2.2.2.1
def Ay4 (K:Nat)(n:Nat)(q:PT Ak8):Rt s_43:=Agf K n q.1 q.2.1 q.2.2.1 q.2.2.2.1 q.2.2.2.2.1 q.2.2.2.2.2.1 q.2.2.2.2.2.2.1 q.2.2.2.2.2.2.2.1 q.2.2.2.2.2.2.2.2.1 q.2.2.2.2.2.2.2.2.2.1 q.2.2.2.2.2.2.2.2.2.2.1 q.2.2.2.2.2.2.2.2.2.2.2.1 q.2.2.2.2.2.2.2.2.2.2.2.2.1 q.2.2.2.2.2.2.2.2.2.2.2.2.2.1 q.2.2.2.2.2.2.2.2.2.2.2.2.2.2.1 q.2.2.2.2.2.2.2.2.2.2.2.2.2.2.2.1
theorem A6m (K:Nat)(C250:CT Ak8 s_43)(C128158:CT Ano s_43):AtL (A6l K) (fun n=>[]) [(128158,ar Ano C128158),(250,ar Ak8 C250)] (bd Tryz.f148) 16404262 (Ax6 K C250 C128158):=fun n q=>by kernel_rfl
theorem A8e (K:Nat)(C250:CT Ak8 s_43)(C128158:CT Ano s_43):AtJ (A6l K) [(16404262,ar Ax5 (Ax6 K C250 C128158 K))] [(128158,ar Ano C128158),(250,ar Ak8 C250)] (bd Tryz.f148) 2050532 (Ayn K C250 C128158):=fun q=>by kernel_rfl
theorem A93 (K:Nat)(C250:CT Ak8 s_43):AtL (A6l K) (fun n=>[(2050532,ar Aym (Ayn K C250 (Awj K C250 n)))]) [(250,ar Ak8 C250)] (bd Tryz.f148) 128158 (Awj K C250):=fun n q=>by kernel_rfl
theorem Bdq (K:Nat)(C250:CT Ak8 s_43):AtJ (A6l K) [(128158,ar Ano (Awj K C250 K))] [(250,ar Ak8 C250)] (bd Tryz.f148) 8009 (A1s K C250):=fun q=>by kernel_rfl
theorem Bdr (K:Nat)(C1018:CT Auo s_43):AtJ (A6l K) [] [(1018,ar Auo C1018)] (bd Tryz.f148) 4073 (A1t K C1018):=fun q=>by kernel_rfl
theorem Bds (K:Nat):AtL (A6l K) (fun n=>[]) [] (bd Tryz.f148) 2042 (A1u K):=fun n q=>by kernel_rfl
theorem Bdt (K:Nat):AtL (A6l K) (fun n=>[(4073,ar A1q (A1t K (Ayd K n))),(2042,ar A1r (A1u K K))]) [] (bd Tryz.f148) 1018 (Ayd K):=fun n q=>by kernel_rfl
theorem Bgd (K:Nat):AtL (A6l K) (fun n=>[(8009,ar A1p (A1s K (Ay4 K n))),(1018,ar Auo (Ayd K K))]) [] (bd Tryz.f148) 250 (Ay4 K):=fun n q=>by kernel_rfl
theorem A02 (K:Nat):XF [.tmp 2] s_43 148 [4073,8009,2050532] (A6l K):=xkF (gC (Bpa K) (gC (A92 K) (gC (Bo8 K) (gC (Bxu K) (gC (Bxw K) gN))))) oN
theorem A6n (K:Nat)(C250:CT Ak8 s_43)(C128158:CT Ano s_43)(n:Nat):CF [.tmp 2] s_43 148 [4073,8009,2050532] (bd Tryz.f148) [(128158,ar Ano C128158),(250,ar Ak8 C250)] 16404262 (ar Ax5 (Ax6 K C250 C128158 n)):=
 Aeg (A02 K) (A6m K C250 C128158) (fun n=>kN) n
theorem A8f (K:Nat)(C250:CT Ak8 s_43)(C128158:CT Ano s_43):CF [.tmp 2] s_43 148 [4073,8009,2050532] (bd Tryz.f148) [(128158,ar Ano C128158),(250,ar Ak8 C250)] 2050532 (ar Aym (Ayn K C250 C128158)):=
 Apm (A02 K) (A8e K C250 C128158) (kC (A6n K C250 C128158 K) kN)
theorem A94 (K:Nat)(C250:CT Ak8 s_43)(n:Nat):CF [.tmp 2] s_43 148 [4073,8009,2050532] (bd Tryz.f148) [(250,ar Ak8 C250)] 128158 (ar Ano (Awj K C250 n)):=
 Aeg (A02 K) (A93 K C250) (fun n=>(kC (A8f K C250 (Awj K C250 n)) kN)) n
theorem Bdu (K:Nat)(C250:CT Ak8 s_43):CF [.tmp 2] s_43 148 [4073,8009,2050532] (bd Tryz.f148) [(250,ar Ak8 C250)] 8009 (ar A1p (A1s K C250)):=
 Apm (A02 K) (Bdq K C250) (kC (A94 K C250 K) kN)
theorem Bdv (K:Nat)(C1018:CT Auo s_43):CF [.tmp 2] s_43 148 [4073,8009,2050532] (bd Tryz.f148) [(1018,ar Auo C1018)] 4073 (ar A1q (A1t K C1018)):=
 Apm (A02 K) (Bdr K C1018) kN
theorem Bdw (K:Nat)(n:Nat):CF [.tmp 2] s_43 148 [4073,8009,2050532] (bd Tryz.f148) [] 2042 (ar A1r (A1u K n)):=
 Aeg (A02 K) (Bds K) (fun n=>kN) n
theorem Bdx (K:Nat)(n:Nat):CF [.tmp 2] s_43 148 [4073,8009,2050532] (bd Tryz.f148) [] 1018 (ar Auo (Ayd K n)):=
 Aeg (A02 K) (Bdt K) (fun n=>(kC (Bdv K (Ayd K n)) (kC (Ao2 (by kernel_rfl) (Bdw K K)) kN))) n
theorem Bge (K:Nat)(n:Nat):CF [.tmp 2] s_43 148 [4073,8009,2050532] (bd Tryz.f148) [] 250 (ar Ak8 (Ay4 K n)):=
 Aeg (A02 K) (Bgd K) (fun n=>(kC (Bdu K (Ay4 K n)) (kC (Ao2 (by kernel_rfl) (Bdx K K)) kN))) n
theorem Bxz (K:Nat):OkF 148 (Bxy K):=
 Aa6 (x:=A6l K) (L:=[(250,ar Ak8 (Ay4 K K))]) (c0:=bd Tryz.f148) (A02 K) (by intro a0;show @Eq _ _ _;kernel_rfl) (kC (Bge K K) kN) Tryz.func148 trivial
def Anp (K:Nat)(a0:Er)(v8:List Int):Nat->Int->Option (Bool)
 |0,_=>none
 |n3+1,v12=>(bif (decide (v12<(v8.length:Int)))then(if(0:Int)≤v12∧v12<(v8.length:Int)then((Ac1 K (gt v8 v12) 0 (Aob .i64 a0.Ae 1)).bind fun r13=>(bif r13 then(if(0:Int)≤0∧0≤v12∧v12≤(v8.length:Int)then(if(0:Int)≤v12∧v12<(v8.length:Int)then((Apt K ((v8.drop (0:Int).toNat).take (v12 - 0).toNat) (gt v8 v12)).bind fun r14=>(bif r14 then some false else(Anp K a0 v8 n3 (Aoa .i64 v12 1))))else none)else none)else some false))else none)else some true)
def Apq (K:Nat)(a0:Er)(v7:List Int)(v8:List Int):Nat->Int->Option (Bool)
 |0,_=>none
 |n2+1,v10=>(bif (decide (v10<(v7.length:Int)))then(if(0:Int)≤v10∧v10<(v7.length:Int)then((Ac1 K (gt v7 v10) 0 255).bind fun r11=>(bif (!r11)then some false else(Apq K a0 v7 v8 n2 (Aoa .i64 v10 1))))else none)else(Anp K a0 v8 K 0))
def As8 (K:Nat)(a0:Er)(v5:Int)(v6:Int)(v7:List Int)(v8:List Int)(v9:Int):Option (Bool):=(Apq K a0 v7 v8 K 0)
def Au1 (K:Nat)(a0:Er)(a1:Ax):Option (Bool):=((Aq6 K a0).bind fun r1=>(bif r1 then((Ac1 K a1.A5 0 a0.C0).bind fun r2=>(bif r2 then((Ac1 K a1.Bt 0 a0.C0).bind fun r3=>(bif r3 then(bif (decide ((a1.Dg.length:Int)>6))then some false else((Ac1 K a1.Gu 0 (Aob .i64 a0.Eg 1)).bind fun r4=>(bif r4 then(bif ((a1.Ae.length:Int)==0)then(bif (a1.Gu != 0)then some false else(As8 K a0 a1.A5 a1.Bt a1.Dg a1.Ae a1.Gu))else(As8 K a0 a1.A5 a1.Bt a1.Dg a1.Ae a1.Gu))else some false)))else some false))else some false))else some false))
def s_44:Sig:=⟨[.v 25,.v 159],[.v 4],true⟩
def Bx0 (K:Nat):Gb tyU:=⟨s_44,Au1 K⟩
def Bgf (K:Nat):=xF s_44 [(84,A6k K),(210,Bfv K),(218,Bdp K)] [] 95 [8,9,10,15,16,17,18,23,24,25,26,30,31,32,38,39,40,41,45,46,81,82,83] [] [] [3] [.tmp 4]
def A3k:E5:=⟨[(2,.p 102),(3,.p 103),(6,.v 2)],[(103,.box [.v 2,.v 2,.v 26,.v 26,.v 2]),(102,.st 25 true)]⟩
def A8g:E5:=⟨[(2,.p 102),(3,.p 103),(5,.v 2)],[(103,.box [.v 2,.v 2,.v 26,.v 26,.v 2]),(102,.st 25 true)]⟩
def Bbj:E5:=⟨[(2,.p 102),(3,.p 103)],[(103,.box [.v 2,.v 2,.v 26,.v 26,.v 2]),(102,.st 25 true)]⟩
def A3l (K:Nat)(n:Nat)(q:PT A3k):Rt s_44:=Anp K q.2.2.2.2.2.2.1 q.2.2.2.2.1 n q.1
def A8h (K:Nat)(n:Nat)(q:PT A8g):Rt s_44:=Apq K q.2.2.2.2.2.2.1 q.2.2.2.1 q.2.2.2.2.1 n q.1
def Bbk (K:Nat)(q:PT Bbj):Rt s_44:=As8 K q.2.2.2.2.2.1 q.1 q.2.1 q.2.2.1 q.2.2.2.1 q.2.2.2.2.1
theorem Bgg (K:Nat):AtL (Bgf K) (fun n=>[]) [] (bd Tryz.f220) 122 (A3l K):=fun n q=>by kernel_rfl
theorem Bm5 (K:Nat):AtL (Bgf K) (fun n=>[(122,ar A3k (A3l K K))]) [] (bd Tryz.f220) 58 (A8h K):=fun n q=>by kernel_rfl
theorem Bti (K:Nat):AtJ (Bgf K) [(58,ar A8g (A8h K K))] [] (bd Tryz.f220) 3 (Bbk K):=fun q=>by kernel_rfl
theorem Bc0 (K:Nat):XF [.tmp 4] s_44 95 [3] (Bgf K):=xkF (gC (A0x K) (gC (Bcy K) (gC (A92 K) gN))) oN
theorem Bgh (K:Nat)(n:Nat):CF [.tmp 4] s_44 95 [3] (bd Tryz.f220) [] 122 (ar A3k (A3l K n)):=
 Aeg (Bc0 K) (Bgg K) (fun n=>kN) n
theorem Bm6 (K:Nat)(n:Nat):CF [.tmp 4] s_44 95 [3] (bd Tryz.f220) [] 58 (ar A8g (A8h K n)):=
 Aeg (Bc0 K) (Bm5 K) (fun n=>(kC (Ao2 (by kernel_rfl) (Bgh K K)) kN)) n
theorem Btj (K:Nat):CF [.tmp 4] s_44 95 [3] (bd Tryz.f220) [] 3 (ar Bbj (Bbk K)):=
 Apm (Bc0 K) (Bti K) (kC (Bm6 K K) kN)
theorem Bx1 (K:Nat):OkF 220 (Bx0 K):=
 Aa6 (x:=Bgf K) (L:=[(3,ar Bbj (Bbk K))]) (c0:=bd Tryz.f220) (Bc0 K) (by intro a0 a1;show @Eq _ _ _;kernel_rfl) (kC (Btj K) kN) Tryz.func220 trivial
def Ap0 (K:Nat)(v17:List Ba)(r21:(List Int)):Nat->Int->Option (Bool)
 |0,_=>none
 |n4+1,v22=>(bif (decide (v22<(r21.length:Int)))then(if(0:Int)≤v22∧v22<(r21.length:Int)then((Arc K v17 (gt r21 v22)).bind fun r23=>(bif (!r23)then some false else(Ap0 K v17 r21 n4 (Aoa .i64 v22 1))))else none)else some true)
def Aou (K:Nat)(v4:Int)(v17:List Ba):Option (Bool):=((Atq K v17 v4).bind fun r21=>(Ap0 K v17 r21 K 0))
def Aqx (K:Nat)(v3:Int)(v4:Int)(v17:List Ba):Option (Bool):=(bif (v3 != 0)then(if(0:Int)≤(Aob .i64 v3 1)∧(Aob .i64 v3 1)<(v17.length:Int)then(bif (((gt v17 (Aob .i64 v3 1)).Hh) != 2)then some false else(bif (v4 != 0)then(if(0:Int)≤(Aob .i64 v4 1)∧(Aob .i64 v4 1)<(v17.length:Int)then(bif (((gt v17 (Aob .i64 v4 1)).Gs) != 0)then some false else(Aou K v4 v17))else none)else(Aou K v4 v17)))else none)else(bif (v4 != 0)then(if(0:Int)≤(Aob .i64 v4 1)∧(Aob .i64 v4 1)<(v17.length:Int)then(bif (((gt v17 (Aob .i64 v4 1)).Gs) != 0)then some false else(Aou K v4 v17))else none)else(Aou K v4 v17)))
def Aov (K:Nat):Nat->Int->Int->Int->(List Int)->(List Int)->Int->Int->Int->Int->Int->Int->Int->(List Int)->(List Int)->(List Int)->(List Ba)->(List Ax)->(List Int)->Option (Bool)
 |0,_,_,_,_,_,_,_,_,_,_,_,_,_,_,_,_,_,_=>none
 |n1+1,v2,v3,v4,v5,v6,v7,v8,v9,v10,v11,v12,v13,v14,v15,v16,v17,v18,v19=>(bif (decide (v2<(v6.length:Int)))then(if(0:Int)≤v2∧v2<(v6.length:Int)then(if(0:Int)≤(gt v6 v2)∧(gt v6 v2)<(v15.length:Int)then(bif ((gt v15 (gt v6 v2)) != 2)then some false else(Aov K n1 (Aoa .i64 v2 1) v3 v4 v5 v6 v7 v8 v9 v10 v11 v12 v13 v14 v15 v16 v17 v18 v19))else none)else none)else(bif (decide ((v6.length:Int)>0))then(if(0:Int)≤0∧0<(v6.length:Int)then(if(0:Int)≤0∧0<(v6.length:Int)then(if(0:Int)≤(Aoc .i64 (gt v6 0) v9)∧(Aoc .i64 (gt v6 0) v9)≤(Aoa .i64 (Aoc .i64 (gt v6 0) v9) v7)∧(Aoa .i64 (Aoc .i64 (gt v6 0) v9) v7)≤(v14.length:Int)then((Ar8 K ((v14.drop (Aoc .i64 (gt v6 0) v9).toNat).take ((Aoa .i64 (Aoc .i64 (gt v6 0) v9) v7) - (Aoc .i64 (gt v6 0) v9)).toNat)).bind fun r20=>(bif (!r20)then some false else(Aqx K v3 v4 v17)))else none)else none)else none)else(Aqx K v3 v4 v17)))
def At0 (K:Nat)(a0:Eb)(a1:Int):Option (Bool):=(if(0:Int)≤a1∧a1<(a0.fQ.length:Int)then((Au1 K a0.fC (gt a0.fQ a1)).bind fun r1=>(bif (!r1)then some false else(Aov K K 0 ((gt a0.fQ a1).A5) ((gt a0.fQ a1).Bt) ((gt a0.fQ a1).Dg) ((gt a0.fQ a1).Ae) ((gt a0.fQ a1).Gu) a0.fC.Ae a0.fC.Eg a0.fC.C0 a0.fC.E9 a0.fC.C1 a0.fC.Eh a0.fP.Fy a0.fP.Hh a0.fP.Fz a0.fL a0.fQ a0.Pr)))else none)
def s_45:Sig:=⟨[.v 32,.v 3],[.v 4],true⟩
def Bx2 (K:Nat):Gb tyU:=⟨s_45,At0 K⟩
def Bdy (K:Nat):=xF s_45 [(202,Btg K),(212,Bmd K),(220,Bx0 K),(221,Btf K)] [] 117 [40,41,70,71,80,81,82,85,86] [] [] [31,63] [.tmp 4]
def A1v:E5:=⟨[(2,.p 102),(7,.v 26),(8,.v 2)],[(102,.box [.v 2,.v 2,.v 2,.v 2,.v 2,.v 2,.v 22,.v 26,.v 26,.v 29,.v 30,.v 26])]⟩
def A8i:E5:=⟨[(2,.p 102),(5,.p 105)],[(105,.box [.v 2,.v 2,.v 26,.v 26,.v 2]),(102,.box [.v 2,.v 2,.v 2,.v 2,.v 2,.v 2,.v 22,.v 26,.v 26,.v 29,.v 30,.v 26])]⟩
def A8j:E5:=⟨[(2,.p 102),(5,.p 105)],[(105,.box [.v 2,.v 2,.v 26,.v 26,.v 2]),(102,.box [.v 2,.v 2,.v 2,.v 2,.v 2,.v 2,.v 22,.v 26,.v 26,.v 29,.v 30,.v 26])]⟩
def A3m:E5:=⟨[(2,.p 102),(5,.p 105),(6,.v 2)],[(105,.box [.v 2,.v 2,.v 26,.v 26,.v 2]),(102,.box [.v 2,.v 2,.v 2,.v 2,.v 2,.v 2,.v 22,.v 26,.v 26,.v 29,.v 30,.v 26])]⟩
def A1w (K:Nat)(n:Nat)(q:PT A1v):Rt s_45:=Ap0 K q.2.2.2.2.2.2.2.2.2.2.2.1 q.1 n q.2.1
def A8k (K:Nat)(q:PT A8i):Rt s_45:=Aou K q.2.1 q.2.2.2.2.2.2.2.2.2.2.2.2.2.2.1
def A8l (K:Nat)(q:PT A8j):Rt s_45:=Aqx K q.1 q.2.1 q.2.2.2.2.2.2.2.2.2.2.2.2.2.2.1
def A3n (K:Nat)(n:Nat)(q:PT A3m):Rt s_45:=Aov K n q.1 q.2.1 q.2.2.1 q.2.2.2.1 q.2.2.2.2.1 q.2.2.2.2.2.1 q.2.2.2.2.2.2.1 q.2.2.2.2.2.2.2.1 q.2.2.2.2.2.2.2.2.1 q.2.2.2.2.2.2.2.2.2.1 q.2.2.2.2.2.2.2.2.2.2.1 q.2.2.2.2.2.2.2.2.2.2.2.1 q.2.2.2.2.2.2.2.2.2.2.2.2.1 q.2.2.2.2.2.2.2.2.2.2.2.2.2.1 q.2.2.2.2.2.2.2.2.2.2.2.2.2.2.1 q.2.2.2.2.2.2.2.2.2.2.2.2.2.2.2.1 q.2.2.2.2.2.2.2.2.2.2.2.2.2.2.2.2.1 q.2.2.2.2.2.2.2.2.2.2.2.2.2.2.2.2.2.1
theorem Bdz (K:Nat):AtL (Bdy K) (fun n=>[]) [] (bd Tryz.f147) 2042 (A1w K):=fun n q=>by kernel_rfl
theorem Bm7 (K:Nat):AtJ (Bdy K) [(2042,ar A1v (A1w K K))] [] (bd Tryz.f147) 63 (A8k K):=fun q=>by kernel_rfl
theorem Bm8 (K:Nat):AtJ (Bdy K) [(63,ar A8i (A8k K))] [] (bd Tryz.f147) 31 (A8l K):=fun q=>by kernel_rfl
theorem Bgi (K:Nat):AtL (Bdy K) (fun n=>[(31,ar A8j (A8l K))]) [] (bd Tryz.f147) 122 (A3n K):=fun n q=>by kernel_rfl
theorem A95 (K:Nat):XF [.tmp 4] s_45 117 [31,63] (Bdy K):=xkF (gC (Bpa K) (gC (Bfw K) (gC (Bx1 K) (gC (Bo8 K) gN)))) oN
theorem Bd0 (K:Nat)(n:Nat):CF [.tmp 4] s_45 117 [31,63] (bd Tryz.f147) [] 2042 (ar A1v (A1w K n)):=
 Aeg (A95 K) (Bdz K) (fun n=>kN) n
theorem Bm9 (K:Nat):CF [.tmp 4] s_45 117 [31,63] (bd Tryz.f147) [] 63 (ar A8i (A8k K)):=
 Apm (A95 K) (Bm7 K) (kC (Bd0 K K) kN)
theorem Bna (K:Nat):CF [.tmp 4] s_45 117 [31,63] (bd Tryz.f147) [] 31 (ar A8j (A8l K)):=
 Apm (A95 K) (Bm8 K) (kC (Bm9 K) kN)
theorem Bgj (K:Nat)(n:Nat):CF [.tmp 4] s_45 117 [31,63] (bd Tryz.f147) [] 122 (ar A3m (A3n K n)):=
 Aeg (A95 K) (Bgi K) (fun n=>(kC (Ao2 (by kernel_rfl) (Bna K)) kN)) n
theorem Bx3 (K:Nat):OkF 147 (Bx2 K):=
 Aa6 (x:=Bdy K) (L:=[(122,ar A3m (A3n K K))]) (c0:=bd Tryz.f147) (A95 K) (by intro a0 a1;show @Eq _ _ _;kernel_rfl) (kC (Bgj K K) kN) Tryz.func147 trivial
def Axu (K:Nat)(a0:Ba):Option (Bool):=(bif (a0.Ly==0)then(bif (a0.fUp==0)then(bif (a0.Gq==0)then(bif (a0.Bt==0)then(bif (a0.Gr==0)then(bif (a0.Gs==0)then(bif ((a0.Ae.length:Int)==0)then(bif (a0.Pq==0)then(bif (a0.Gt==0)then(bif ((a0.Ea.length:Int)==0)then some ((a0.Dg.length:Int)==0)else some false)else some false)else some false)else some false)else some false)else some false)else some false)else some false)else some false)else some false)
def Bx4:Sig:=⟨[.v 44],[.v 4],true⟩
def Bx5 (K:Nat):Gb tyU:=⟨Bx4,Axu K⟩
def B3n (K:Nat):=xF Bx4 [] [] 59 [5,6,9,10,11,14,15,16,19,20,21,24,25,26,29,30,31,35,36,37,40,41,42,45,46,47,51,52,53] [] [] [] [.tmp 2]
theorem Bx6 (K:Nat):OkF 214 (Bx5 K):=
 Aa6 (x:=B3n K) (L:=[]) (c0:=bd Tryz.f214) (xkF gN oN) (by intro a0;show @Eq _ _ _;kernel_rfl) kN Tryz.func214 trivial
def Aow (K:Nat)(a0:Er):Nat->Int->Int->Int->Int->Int->Int->Int->Int->Int->(List Int)->Int->Int->(List A9)->(List Int)->Option (Bool)
 |0,_,_,_,_,_,_,_,_,_,_,_,_,_,_=>none
 |n1+1,v1,v2,v3,v4,v5,v6,v7,v8,v9,v10,v11,v12,v13,v14=>(bif (decide (v1<(v10.length:Int)))then(if(0:Int)≤v1∧v1<(v10.length:Int)then((Ac1 K (gt v10 v1) 0 (Aob .i64 a0.Ae 1)).bind fun r15=>(bif r15 then(if(0:Int)≤0∧0≤v1∧v1≤(v10.length:Int)then(if(0:Int)≤v1∧v1<(v10.length:Int)then((Apt K ((v10.drop (0:Int).toNat).take (v1 - 0).toNat) (gt v10 v1)).bind fun r16=>(bif r16 then some false else(Aow K a0 n1 (Aoa .i64 v1 1) v2 v3 v4 v5 v6 v7 v8 v9 v10 v11 v12 v13 v14)))else none)else none)else some false))else none)else(bif (v11==0)then some (v12==0)else((Apt K v10 (Aob .i64 v11 1)).bind fun r17=>(bif r17 then((Ac1 K v12 0 a0.Eg).bind fun r18=>some r18)else some false))))
def At1 (K:Nat)(a0:Er)(a1:Ba):Option (Bool):=(Aow K a0 K 0 a1.Hh a1.C2 a1.Ly a1.fUp a1.Gq a1.Bt a1.Gr a1.Gs a1.Ae a1.Pq a1.Gt a1.Ea a1.Dg)
def s_47:Sig:=⟨[.v 25,.v 44],[.v 4],true⟩
def Bx7 (K:Nat):Gb tyU:=⟨s_47,At1 K⟩
def Btk (K:Nat):=xF s_47 [(84,A6k K),(218,Bdp K)] [] 54 [21,22,23,46,47] [] [] [] [.tmp 4]
def A8m:E5:=⟨[(2,.p 102),(3,.p 103),(5,.v 2)],[(103,.box [.v 2,.v 2,.v 2,.v 2,.v 2,.v 2,.v 2,.v 2,.v 26,.v 2,.v 2,.v 41,.v 26]),(102,.st 25 true)]⟩
def A8n (K:Nat)(n:Nat)(q:PT A8m):Rt s_47:=Aow K q.2.2.2.2.2.2.2.2.2.2.2.2.2.2.1 n q.1 q.2.1 q.2.2.1 q.2.2.2.1 q.2.2.2.2.1 q.2.2.2.2.2.1 q.2.2.2.2.2.2.1 q.2.2.2.2.2.2.2.1 q.2.2.2.2.2.2.2.2.1 q.2.2.2.2.2.2.2.2.2.1 q.2.2.2.2.2.2.2.2.2.2.1 q.2.2.2.2.2.2.2.2.2.2.2.1 q.2.2.2.2.2.2.2.2.2.2.2.2.1 q.2.2.2.2.2.2.2.2.2.2.2.2.2.1
theorem Bnb (K:Nat):AtL (Btk K) (fun n=>[]) [] (bd Tryz.f215) 26 (A8n K):=fun n q=>by kernel_rfl
theorem Bpb (K:Nat):XF [.tmp 4] s_47 54 [] (Btk K):=xkF (gC (A0x K) (gC (A92 K) gN)) oN
theorem Bnc (K:Nat)(n:Nat):CF [.tmp 4] s_47 54 [] (bd Tryz.f215) [] 26 (ar A8m (A8n K n)):=
 Aeg (Bpb K) (Bnb K) (fun n=>kN) n
theorem Bx8 (K:Nat):OkF 215 (Bx7 K):=
 Aa6 (x:=Btk K) (L:=[(26,ar A8m (A8n K K))]) (c0:=bd Tryz.f215) (Bpb K) (by intro a0 a1;show @Eq _ _ _;kernel_rfl) (kC (Bnc K K) kN) Tryz.func215 trivial
def Au2 (K:Nat)(a0:Er)(a1:Int):Option (Bool):=some (decide (a1>a0.Eg))
def Bx9:Sig:=⟨[.v 25,.v 3],[.v 4],true⟩
def Bya (K:Nat):Gb tyU:=⟨Bx9,Au2 K⟩
def B3o (K:Nat):=xF Bx9 [] [] 9 [] [] [] [] [.tmp 4]
theorem Byb (K:Nat):OkF 265 (Bya K):=
 Aa6 (x:=B3o K) (L:=[]) (c0:=bd Tryz.f265) (xkF gN oN) (by intro a0 a1;show @Eq _ _ _;kernel_rfl) kN Tryz.func265 trivial
def Au3 (K:Nat)(a0:Int)(a1:Int):Option (Int):=((Ac1 K a0 0 1000000000).bind fun r1=>(bif r1 then((Ac1 K a1 1 1000000000).bind fun r2=>(bif (!r2)then some 0 else(if a1≠(0:Int)then some (Alr .i64 (Aob .i64 (Aoa .i64 a0 a1) 1) a1)else none)))else some 0))
def Byc:Sig:=⟨[.v 3,.v 3],[.v 3],true⟩
def Byd (K:Nat):Gb tyU:=⟨Byc,Au3 K⟩
def B3p (K:Nat):=xF Byc [(84,A6k K)] [] 19 [6,7,8] [] [] [] [.tmp 4]
theorem Bye (K:Nat):OkF 296 (Byd K):=
 Aa6 (x:=B3p K) (L:=[]) (c0:=bd Tryz.f296) (xkF (gC (A0x K) gN) oN) (by intro a0 a1;show @Eq _ _ _;kernel_rfl) kN Tryz.func296 trivial
def As9 (K:Nat)(a0:Er)(a1:Int):Option (Int):=((Au3 K a1 a0.Eg).bind fun r1=>some r1)
def Byf:Sig:=⟨[.v 25,.v 3],[.v 3],true⟩
def Byg (K:Nat):Gb tyU:=⟨Byf,As9 K⟩
def B3q (K:Nat):=xF Byf [(296,Byd K)] [] 9 [] [] [] [] [.tmp 4]
theorem Byh (K:Nat):OkF 266 (Byg K):=
 Aa6 (x:=B3q K) (L:=[]) (c0:=bd Tryz.f266) (xkF (gC (Bye K) gN) oN) (by intro a0 a1;show @Eq _ _ _;kernel_rfl) kN Tryz.func266 trivial
def Ard (K:Nat)(a0:Er)(a1:A9):Option (Bool):=((Asr K a0).bind fun r1=>(bif (r1==0)then some false else(bif (decide (a1.Vu<1))then some false else(bif (decide (a1.fAt<0))then some false else(bif (decide (a1.fAt>r1))then some false else(bif (decide (a1.Vu>(Aob .i64 r1 a1.fAt)))then some false else(bif (a1.Vv==0)then(bif (decide (a1.Vu≤a0.Eg))then(if a0.Eg≠(0:Int)then(if a0.Eg≠(0:Int)then some ((Alr .i64 a1.fAt a0.Eg)==(Alr .i64 (Aob .i64 (Aoa .i64 a1.fAt a1.Vu) 1) a0.Eg))else none)else none)else some false)else((Au2 K a0 a1.Vu).bind fun r2=>(bif r2 then((As9 K a0 a1.Vu).bind fun r3=>(bif (a1.Vv==r3)then(if a0.Eg≠(0:Int)then some ((Int.tmod a1.fAt a0.Eg)==0)else none)else some false))else some false)))))))))
def Byi:Sig:=⟨[.v 25,.v 89],[.v 4],true⟩
def Btl (K:Nat):Gb tyU:=⟨Byi,Ard K⟩
def B3r (K:Nat):=xF Byi [(211,Bs9 K),(265,Bya K),(266,Byg K)] [] 81 [9,10,13,14,15,18,19,20,24,25,26,42,43,63,64,71,72,73] [] [] [] [.tmp 4]
theorem Bpc (K:Nat):OkF 216 (Btl K):=
 Aa6 (x:=B3r K) (L:=[]) (c0:=bd Tryz.f216) (xkF (gC (Bo4 K) (gC (Byb K) (gC (Byh K) gN))) oN) (by intro a0 a1;show @Eq _ _ _;kernel_rfl) kN Tryz.func216 trivial
def Ap1 (K:Nat)(v23:List Int):Nat->Int->Option (Bool)
 |0,_=>none
 |n2+1,v25=>(bif (decide (v25<(v23.length:Int)))then(if(0:Int)≤v25∧v25<(v23.length:Int)then((Ac1 K (gt v23 v25) 0 255).bind fun r26=>(bif (!r26)then some false else(Ap1 K v23 n2 (Aoa .i64 v25 1))))else none)else some true)
def Apg (K:Nat)(a0:Er):Nat->Int->Int->Int->Int->Int->Int->Int->Int->Int->(List Int)->Int->Int->(List A9)->(List Int)->Option (Bool)
 |0,_,_,_,_,_,_,_,_,_,_,_,_,_,_=>none
 |n1+1,v10,v11,v12,v13,v14,v15,v16,v17,v18,v19,v20,v21,v22,v23=>(bif (decide (v10<(v22.length:Int)))then(if(0:Int)≤v10∧v10<(v22.length:Int)then((Ard K a0 (gt v22 v10)).bind fun r24=>(bif (!r24)then some false else(Apg K a0 n1 (Aoa .i64 v10 1) v11 v12 v13 v14 v15 v16 v17 v18 v19 v20 v21 v22 v23)))else none)else(Ap1 K v23 K 0))
def Av7 (K:Nat)(a0:Er)(a1:Ba):Option (Bool):=((Aq6 K a0).bind fun r1=>(bif r1 then((Ac1 K a1.Hh 0 3).bind fun r2=>(bif r2 then((Ac1 K a1.C2 1 a0.Eh).bind fun r3=>(bif (!r3)then some false else(bif (a1.Hh != 1)then((Axu K a1).bind fun r4=>some r4)else(bif (decide (a1.Ly<0))then some false else(bif (decide (a1.Gq<0))then some false else((Ac1 K a1.fUp 0 a0.C0).bind fun r5=>(bif r5 then((Ac1 K a1.Bt 0 a0.C0).bind fun r6=>(bif r6 then((Ac1 K a1.Gr 0 a0.C0).bind fun r7=>(bif r7 then((Ac1 K a1.Gs 0 a0.C0).bind fun r8=>(bif r8 then((At1 K a0 a1).bind fun r9=>(bif r9 then(bif (decide ((a1.Ea.length:Int)>12))then some false else(bif (decide ((a1.Dg.length:Int)>6))then some false else(Apg K a0 K 0 a1.Hh a1.C2 a1.Ly a1.fUp a1.Gq a1.Bt a1.Gr a1.Gs a1.Ae a1.Pq a1.Gt a1.Ea a1.Dg)))else some false))else some false))else some false))else some false))else some false)))))))else some false))else some false))
def s_52:Sig:=⟨[.v 25,.v 44],[.v 4],true⟩
def Byj (K:Nat):Gb tyU:=⟨s_52,Av7 K⟩
def Bnd (K:Nat):=xF s_52 [(84,A6k K),(210,Bfv K),(214,Bx5 K),(215,Bx7 K),(216,Btl K)] [] 116 [8,9,10,13,14,15,16,31,32,35,36,37,42,43,44,45,50,51,52,53,58,59,60,61,66,67,68,69,72,73,74,75,79,80,81] [] [] [] [.tmp 4]
def A3o:E5:=⟨[(3,.p 103),(6,.v 2)],[(103,.box [.v 2,.v 2,.v 2,.v 2,.v 2,.v 2,.v 2,.v 2,.v 26,.v 2,.v 2,.v 41,.v 26])]⟩
def A3p:E5:=⟨[(2,.p 102),(3,.p 103),(5,.v 2)],[(103,.box [.v 2,.v 2,.v 2,.v 2,.v 2,.v 2,.v 2,.v 2,.v 26,.v 2,.v 2,.v 41,.v 26]),(102,.st 25 true)]⟩
def A3q (K:Nat)(n:Nat)(q:PT A3o):Rt s_52:=Ap1 K q.2.2.2.2.2.2.2.2.2.2.2.2.2.1 n q.1
def A3r (K:Nat)(n:Nat)(q:PT A3p):Rt s_52:=Apg K q.2.2.2.2.2.2.2.2.2.2.2.2.2.2.1 n q.1 q.2.1 q.2.2.1 q.2.2.2.1 q.2.2.2.2.1 q.2.2.2.2.2.1 q.2.2.2.2.2.2.1 q.2.2.2.2.2.2.2.1 q.2.2.2.2.2.2.2.2.1 q.2.2.2.2.2.2.2.2.2.1 q.2.2.2.2.2.2.2.2.2.2.1 q.2.2.2.2.2.2.2.2.2.2.2.1 q.2.2.2.2.2.2.2.2.2.2.2.2.1 q.2.2.2.2.2.2.2.2.2.2.2.2.2.1
theorem Bgk (K:Nat):AtL (Bnd K) (fun n=>[]) [] (bd Tryz.f142) 506 (A3q K):=fun n q=>by kernel_rfl
theorem Bgl (K:Nat):AtL (Bnd K) (fun n=>[(506,ar A3o (A3q K K))]) [] (bd Tryz.f142) 250 (A3r K):=fun n q=>by kernel_rfl
theorem Bgm (K:Nat):XF [.tmp 4] s_52 116 [] (Bnd K):=xkF (gC (A0x K) (gC (Bcy K) (gC (Bx6 K) (gC (Bx8 K) (gC (Bpc K) gN))))) oN
theorem Bgn (K:Nat)(n:Nat):CF [.tmp 4] s_52 116 [] (bd Tryz.f142) [] 506 (ar A3o (A3q K n)):=
 Aeg (Bgm K) (Bgk K) (fun n=>kN) n
theorem Bgo (K:Nat)(n:Nat):CF [.tmp 4] s_52 116 [] (bd Tryz.f142) [] 250 (ar A3p (A3r K n)):=
 Aeg (Bgm K) (Bgl K) (fun n=>(kC (Ao2 (by kernel_rfl) (Bgn K K)) kN)) n
theorem Byk (K:Nat):OkF 142 (Byj K):=
 Aa6 (x:=Bnd K) (L:=[(250,ar A3p (A3r K K))]) (c0:=bd Tryz.f142) (Bgm K) (by intro a0 a1;show @Eq _ _ _;kernel_rfl) (kC (Bgo K K) kN) Tryz.func142 trivial
def Are (K:Nat)(v2:Int)(v3:List Int)(v4:List Int)(v5:List Int)(C1:(List Int)->Int->(List Int)->(List Int)->(List Int)->Option ((List Int)))(v6:List Int):Option ((List Int)):=(C1 v6 (Aoa .i64 v2 1) v3 v4 v5)
def Ale (K:Nat)(a1:Int):Nat->(List Int)->Int->(List Int)->(List Int)->(List Int)->Option ((List Int))
 |0,_,_,_,_,_=>none
 |n1+1,v1,v2,v3,v4,v5=>(bif (decide (v2<(v4.length:Int)))then(bif (decide (v2<(v5.length:Int)))then(if(0:Int)≤v2∧v2<(v4.length:Int)then(bif ((gt v4 v2)==1)then(if(0:Int)≤v2∧v2<(v5.length:Int)then(bif ((gt v5 v2)==a1)then(if(v1++([v2]:List Int)).length*8≤140737488355328∧(v1++([v2]:List Int)).length≤maxLen then(Are K v2 v3 v4 v5 (Ale K a1 n1) (v1++([v2]:List Int)))else none)else(Are K v2 v3 v4 v5 (Ale K a1 n1) v1))else none)else(Are K v2 v3 v4 v5 (Ale K a1 n1) v1))else none)else some v1)else some v1)
def Au4 (K:Nat)(a0:Dw)(a1:Int):Option ((List Int)):=(Ale K a1 K ([]:List Int) 0 a0.Fy a0.Hh a0.Fz)
def s_53:Sig:=⟨[.v 28,.v 3],[.n 26 true],true⟩
def Byl (K:Nat):Gb tyU:=⟨s_53,Au4 K⟩
def Bne (K:Nat):=xF s_53 [] [] 42 [12,13,27,28] [] [] [233] [.tmp 4]
def A3s:E5:=⟨[(1,.v 2),(2,.p 102),(5,.o 1005 3 true),(6,.v 2)],[(102,.box [.v 22,.v 26,.v 26])]⟩
def Axv:E5:=⟨[(1,.v 2),(2,.p 102),(5,.o 1005 3 true),(6,.v 2)],[(102,.box [.v 22,.v 26,.v 26])]⟩
def A3t (K:Nat)(C58:CT Axv s_53)(q:PT A3s):Rt s_53:=Are K q.2.2.1 q.2.2.2.1 q.2.2.2.2.1 q.2.2.2.2.2.1 (fun v1 v2 v3 v4 v5=>C58 (q.1,v1,v2,v3,v4,v5,())) q.2.1
def A03 (K:Nat)(n:Nat)(q:PT Axv):Rt s_53:=Ale K q.1 n q.2.1 q.2.2.1 q.2.2.2.1 q.2.2.2.2.1 q.2.2.2.2.2.1
theorem Bgp (K:Nat)(C58:CT Axv s_53):AtJ (Bne K) [] [(58,ar Axv C58)] (bd Tryz.f217) 233 (A3t K C58):=fun q=>by kernel_rfl
theorem Bnf (K:Nat):AtL (Bne K) (fun n=>[(233,ar A3s (A3t K (A03 K n)))]) [] (bd Tryz.f217) 58 (A03 K):=fun n q=>by kernel_rfl
theorem Bgq (K:Nat):XF [.tmp 4] s_53 42 [233] (Bne K):=xkF gN oN
theorem Bgr (K:Nat)(C58:CT Axv s_53):CF [.tmp 4] s_53 42 [233] (bd Tryz.f217) [(58,ar Axv C58)] 233 (ar A3s (A3t K C58)):=
 Apm (Bgq K) (Bgp K C58) kN
theorem Bng (K:Nat)(n:Nat):CF [.tmp 4] s_53 42 [233] (bd Tryz.f217) [] 58 (ar Axv (A03 K n)):=
 Aeg (Bgq K) (Bnf K) (fun n=>(kC (Bgr K (A03 K n)) kN)) n
theorem Bym (K:Nat):OkF 217 (Byl K):=
 Aa6 (x:=Bne K) (L:=[(58,ar Axv (A03 K K))]) (c0:=bd Tryz.f217) (Bgq K) (by intro a0 a1;show @Eq _ _ _;kernel_rfl) (kC (Bng K K) kN) Tryz.func217 trivial
def Ani (K:Nat)(a1:Int)(r1:(List Int)):Nat->Int->Int->Int->Int->Int->Int->Int->(List Int)->(List Int)->(List Int)->(List Ba)->(List Ax)->(List Int)->Option (Bool)
 |0,_,_,_,_,_,_,_,_,_,_,_,_,_=>none
 |n1+1,v2,v3,v4,v5,v6,v7,v8,v9,v10,v11,v12,v13,v14=>(bif (decide (v2<(r1.length:Int)))then(if(0:Int)≤a1∧a1<(v12.length:Int)then(if(0:Int)≤v2∧v2<(r1.length:Int)then((Apt K ((gt v12 a1).Ae) (gt r1 v2)).bind fun r15=>(bif (!r15)then some false else(Ani K a1 r1 n1 (Aoa .i64 v2 1) v3 v4 v5 v6 v7 v8 v9 v10 v11 v12 v13 v14)))else none)else none)else(if(0:Int)≤a1∧a1<(v12.length:Int)then some ((r1.length:Int)==(((gt v12 a1).Ae).length:Int))else none))
def Ata (K:Nat)(a0:Eb)(a1:Int):Option (Bool):=((Au4 K a0.fP a1).bind fun r1=>(Ani K a1 r1 K 0 a0.fC.Ae a0.fC.Eg a0.fC.C0 a0.fC.E9 a0.fC.C1 a0.fC.Eh a0.fP.Fy a0.fP.Hh a0.fP.Fz a0.fL a0.fQ a0.Pr))
def s_54:Sig:=⟨[.v 32,.v 3],[.v 4],true⟩
def Byn (K:Nat):Gb tyU:=⟨s_54,Ata K⟩
def Btm (K:Nat):=xF s_54 [(217,Byl K),(218,Bdp K)] [] 39 [] [] [] [] [.tmp 4]
def A8o:E5:=⟨[(1,.v 2),(2,.p 102),(5,.v 26),(6,.v 2)],[(102,.box [.v 2,.v 2,.v 2,.v 2,.v 2,.v 2,.v 22,.v 26,.v 26,.v 29,.v 30,.v 26])]⟩
def A8p (K:Nat)(n:Nat)(q:PT A8o):Rt s_54:=Ani K q.1 q.2.1 n q.2.2.1 q.2.2.2.1 q.2.2.2.2.1 q.2.2.2.2.2.1 q.2.2.2.2.2.2.1 q.2.2.2.2.2.2.2.1 q.2.2.2.2.2.2.2.2.1 q.2.2.2.2.2.2.2.2.2.1 q.2.2.2.2.2.2.2.2.2.2.1 q.2.2.2.2.2.2.2.2.2.2.2.1 q.2.2.2.2.2.2.2.2.2.2.2.2.1 q.2.2.2.2.2.2.2.2.2.2.2.2.2.1 q.2.2.2.2.2.2.2.2.2.2.2.2.2.2.1
theorem Bnh (K:Nat):AtL (Btm K) (fun n=>[]) [] (bd Tryz.f143) 58 (A8p K):=fun n q=>by kernel_rfl
theorem Bpd (K:Nat):XF [.tmp 4] s_54 39 [] (Btm K):=xkF (gC (Bym K) (gC (A92 K) gN)) oN
theorem Bni (K:Nat)(n:Nat):CF [.tmp 4] s_54 39 [] (bd Tryz.f143) [] 58 (ar A8o (A8p K n)):=
 Aeg (Bpd K) (Bnh K) (fun n=>kN) n
theorem Byo (K:Nat):OkF 143 (Byn K):=
 Aa6 (x:=Btm K) (L:=[(58,ar A8o (A8p K K))]) (c0:=bd Tryz.f143) (Bpd K) (by intro a0 a1;show @Eq _ _ _;kernel_rfl) (kC (Bni K K) kN) Tryz.func143 trivial
def Aox (K:Nat)(a0:Er)(v1:Int)(v2:Int)(v3:Int)(v4:Int)(v5:Int)(v6:Int)(v7:Int)(v8:Int)(v9:Int)(v10:List Int)(v11:Int)(v12:Int)(v13:List A9)(v14:List Int)(C1:Int->Int->Int->Int->Int->Int->Int->Int->Int->(List Int)->Int->Int->(List A9)->(List Int)->Option (Bool)):Nat->Int->A9->Option (Bool)
 |0,_,_=>none
 |n2+1,v16,v17=>(if a0.Eg≠(0:Int)then(bif (decide (v16≤(Alr .i64 (Aob .i64 (Aoa .i64 v17.fAt v17.Vu) 1) a0.Eg)))then((Apt K v10 v16).bind fun r18=>(bif (!r18)then some false else(Aox K a0 v1 v2 v3 v4 v5 v6 v7 v8 v9 v10 v11 v12 v13 v14 C1 n2 (Aoa .i64 v16 1) v17)))else(C1 (Aoa .i64 v1 1) v2 v3 v4 v5 v6 v7 v8 v9 v10 v11 v12 v13 v14))else none)
def Aje (K:Nat)(a0:Er):Nat->Int->Int->Int->Int->Int->Int->Int->Int->Int->(List Int)->Int->Int->(List A9)->(List Int)->Option (Bool)
 |0,_,_,_,_,_,_,_,_,_,_,_,_,_,_=>none
 |n1+1,v1,v2,v3,v4,v5,v6,v7,v8,v9,v10,v11,v12,v13,v14=>(bif (decide (v1<(v13.length:Int)))then(if(0:Int)≤v1∧v1<(v13.length:Int)then((Ard K a0 (gt v13 v1)).bind fun r15=>(bif (!r15)then some false else(if a0.Eg≠(0:Int)then(Aox K a0 v1 v2 v3 v4 v5 v6 v7 v8 v9 v10 v11 v12 v13 v14 (Aje K a0 n1) K (Alr .i64 ((gt v13 v1).fAt) a0.Eg) (gt v13 v1))else none)))else none)else some true)
def At2 (K:Nat)(a0:Er)(a1:Ba):Option (Bool):=(Aje K a0 K 0 a1.Hh a1.C2 a1.Ly a1.fUp a1.Gq a1.Bt a1.Gr a1.Gs a1.Ae a1.Pq a1.Gt a1.Ea a1.Dg)
def s_55:Sig:=⟨[.v 25,.v 44],[.v 4],true⟩
def Byp (K:Nat):Gb tyU:=⟨s_55,At2 K⟩
def Bnj (K:Nat):=xF s_55 [(216,Btl K),(218,Bdp K)] [] 47 [] [] [] [] [.tmp 4]
def A1x:E5:=⟨[(2,.p 102),(3,.p 103),(5,.v 2),(6,.p 106),(7,.v 2)],[(106,.st 89 true),(103,.box [.v 2,.v 2,.v 2,.v 2,.v 2,.v 2,.v 2,.v 2,.v 26,.v 2,.v 2,.v 41,.v 26]),(102,.st 25 true)]⟩
def Axw:E5:=⟨[(2,.p 102),(3,.p 103),(5,.v 2)],[(103,.box [.v 2,.v 2,.v 2,.v 2,.v 2,.v 2,.v 2,.v 2,.v 26,.v 2,.v 2,.v 41,.v 26]),(102,.st 25 true)]⟩
def A1y (K:Nat)(C26:CT Axw s_55)(n:Nat)(q:PT A1x):Rt s_55:=Aox K q.2.2.2.2.2.2.2.2.2.2.2.2.2.2.2.2.1 q.1 q.2.2.2.1 q.2.2.2.2.1 q.2.2.2.2.2.1 q.2.2.2.2.2.2.1 q.2.2.2.2.2.2.2.1 q.2.2.2.2.2.2.2.2.1 q.2.2.2.2.2.2.2.2.2.1 q.2.2.2.2.2.2.2.2.2.2.1 q.2.2.2.2.2.2.2.2.2.2.2.1 q.2.2.2.2.2.2.2.2.2.2.2.2.1 q.2.2.2.2.2.2.2.2.2.2.2.2.2.1 q.2.2.2.2.2.2.2.2.2.2.2.2.2.2.1 q.2.2.2.2.2.2.2.2.2.2.2.2.2.2.2.1 (fun v1 v2 v3 v4 v5 v6 v7 v8 v9 v10 v11 v12 v13 v14=>C26 (v1,v2,v3,v4,v5,v6,v7,v8,v9,v10,v11,v12,v13,v14,q.2.2.2.2.2.2.2.2.2.2.2.2.2.2.2.2.1,())) n q.2.1 q.2.2.1
def A04 (K:Nat)(n:Nat)(q:PT Axw):Rt s_55:=Aje K q.2.2.2.2.2.2.2.2.2.2.2.2.2.2.1 n q.1 q.2.1 q.2.2.1 q.2.2.2.1 q.2.2.2.2.1 q.2.2.2.2.2.1 q.2.2.2.2.2.2.1 q.2.2.2.2.2.2.2.1 q.2.2.2.2.2.2.2.2.1 q.2.2.2.2.2.2.2.2.2.1 q.2.2.2.2.2.2.2.2.2.2.1 q.2.2.2.2.2.2.2.2.2.2.2.1 q.2.2.2.2.2.2.2.2.2.2.2.2.1 q.2.2.2.2.2.2.2.2.2.2.2.2.2.1
theorem Bd1 (K:Nat)(C26:CT Axw s_55):AtL (Bnj K) (fun n=>[]) [(26,ar Axw C26)] (bd Tryz.f144) 6734 (A1y K C26):=fun n q=>by kernel_rfl
theorem Bnk (K:Nat):AtL (Bnj K) (fun n=>[(6734,ar A1x (A1y K (A04 K n) K))]) [] (bd Tryz.f144) 26 (A04 K):=fun n q=>by kernel_rfl
theorem Bgs (K:Nat):XF [.tmp 4] s_55 47 [] (Bnj K):=xkF (gC (Bpc K) (gC (A92 K) gN)) oN
theorem Bd2 (K:Nat)(C26:CT Axw s_55)(n:Nat):CF [.tmp 4] s_55 47 [] (bd Tryz.f144) [(26,ar Axw C26)] 6734 (ar A1x (A1y K C26 n)):=
 Aeg (Bgs K) (Bd1 K C26) (fun n=>kN) n
theorem Bnl (K:Nat)(n:Nat):CF [.tmp 4] s_55 47 [] (bd Tryz.f144) [] 26 (ar Axw (A04 K n)):=
 Aeg (Bgs K) (Bnk K) (fun n=>(kC (Bd2 K (A04 K n) K) kN)) n
theorem Byq (K:Nat):OkF 144 (Byp K):=
 Aa6 (x:=Bnj K) (L:=[(26,ar Axw (A04 K K))]) (c0:=bd Tryz.f144) (Bgs K) (by intro a0 a1;show @Eq _ _ _;kernel_rfl) (kC (Bnl K K) kN) Tryz.func144 trivial
def Aw2 (K:Nat)(a0:A9)(a1:A9):Option (Bool):=(bif (decide (a0.Vu<1))then some true else(bif (decide (a1.Vu<1))then some true else(bif (decide (a0.fAt≤a1.fAt))then(bif (decide ((Aob .i64 a1.fAt a0.fAt)≥a0.Vu))then some true else some (decide ((Aob .i64 a1.fAt a0.fAt)<0)))else(bif (decide ((Aob .i64 a0.fAt a1.fAt)≥a1.Vu))then some true else some (decide ((Aob .i64 a0.fAt a1.fAt)<0))))))
def Byr:Sig:=⟨[.v 89,.v 89],[.v 4],true⟩
def Bys (K:Nat):Gb tyU:=⟨Byr,Aw2 K⟩
def B3s (K:Nat):=xF Byr [] [] 50 [7,8,25,26,41,42] [] [] [] [.tmp 4]
theorem Byt (K:Nat):OkF 219 (Bys K):=
 Aa6 (x:=B3s K) (L:=[]) (c0:=bd Tryz.f219) (xkF gN oN) (by intro a0 a1;show @Eq _ _ _;kernel_rfl) kN Tryz.func219 trivial
def Aoy (K:Nat)(a0:List A9)(v1:Int)(C1:Int->Option (Bool)):Nat->Int->Option (Bool)
 |0,_=>none
 |n2+1,v2=>(bif (decide (v2<v1))then(if(0:Int)≤v1∧v1<(a0.length:Int)then(if(0:Int)≤v2∧v2<(a0.length:Int)then((Aw2 K (gt a0 v1) (gt a0 v2)).bind fun r3=>(bif (!r3)then some false else(Aoy K a0 v1 C1 n2 (Aoa .i64 v2 1))))else none)else none)else(C1 (Aoa .i64 v1 1)))
def Ajz (K:Nat)(a0:List A9):Nat->Int->Option (Bool)
 |0,_=>none
 |n1+1,v1=>(bif (decide (v1<(a0.length:Int)))then(Aoy K a0 v1 (Ajz K a0 n1) K 0)else some true)
def At3 (K:Nat)(a0:List A9):Option (Bool):=(Ajz K a0 K 0)
def s_57:Sig:=⟨[.v 41],[.v 4],true⟩
def Byu (K:Nat):Gb tyU:=⟨s_57,At3 K⟩
def Bnm (K:Nat):=xF s_57 [(219,Bys K)] [] 26 [] [] [] [] [.tmp 2]
def A1z:E5:=⟨[(0,.v 41),(3,.v 2),(4,.v 2)],[]⟩
def Axx:E5:=⟨[(0,.v 41),(3,.v 2)],[]⟩
def A10 (K:Nat)(C26:CT Axx s_57)(n:Nat)(q:PT A1z):Rt s_57:=Aoy K q.1 q.2.1 (fun v1=>C26 (q.1,v1,())) n q.2.2.1
def A05 (K:Nat)(n:Nat)(q:PT Axx):Rt s_57:=Ajz K q.1 n q.2.1
theorem Bd3 (K:Nat)(C26:CT Axx s_57):AtL (Bnm K) (fun n=>[]) [(26,ar Axx C26)] (bd Tryz.f145) 1682 (A10 K C26):=fun n q=>by kernel_rfl
theorem Bnn (K:Nat):AtL (Bnm K) (fun n=>[(1682,ar A1z (A10 K (A05 K n) K))]) [] (bd Tryz.f145) 26 (A05 K):=fun n q=>by kernel_rfl
theorem Bgt (K:Nat):XF [.tmp 2] s_57 26 [] (Bnm K):=xkF (gC (Byt K) gN) oN
theorem Bd4 (K:Nat)(C26:CT Axx s_57)(n:Nat):CF [.tmp 2] s_57 26 [] (bd Tryz.f145) [(26,ar Axx C26)] 1682 (ar A1z (A10 K C26 n)):=
 Aeg (Bgt K) (Bd3 K C26) (fun n=>kN) n
theorem Bno (K:Nat)(n:Nat):CF [.tmp 2] s_57 26 [] (bd Tryz.f145) [] 26 (ar Axx (A05 K n)):=
 Aeg (Bgt K) (Bnn K) (fun n=>(kC (Bd4 K (A05 K n) K) kN)) n
theorem Byv (K:Nat):OkF 145 (Byu K):=
 Aa6 (x:=Bnm K) (L:=[(26,ar Axx (A05 K K))]) (c0:=bd Tryz.f145) (Bgt K) (by intro a0;show @Eq _ _ _;kernel_rfl) (kC (Bno K K) kN) Tryz.func145 trivial
def Asf (K:Nat)(v1:Int)(v2:Int)(v3:Int)(v4:Int)(v5:Int)(v6:Int)(v7:Int)(v8:Int)(v9:Int)(v10:Int)(v11:Int)(v12:List Int)(v13:Int)(v14:Int)(v15:List A9)(v16:List Int)(v17:Int)(v18:Int)(v19:Int)(v20:Int)(v21:Int)(v22:Int)(v23:List Int)(v24:List Int)(v25:List Int)(v26:List Ba)(v27:List Ax)(v28:List Int)(C1:Int->Int->Int->Int->Int->Int->Int->Int->Int->Int->Int->(List Int)->Int->Int->(List A9)->(List Int)->Int->Int->Int->Int->Int->Int->(List Int)->(List Int)->(List Int)->(List Ba)->(List Ax)->(List Int)->Option (Bool)):Option (Bool):=(C1 v1 v2 (Aoa .i64 v3 1) v4 v5 v6 v7 v8 v9 v10 v11 v12 v13 v14 v15 v16 v17 v18 v19 v20 v21 v22 v23 v24 v25 v26 v27 v28)
def Al6 (K:Nat):Nat->Int->Int->Int->Int->Int->Int->Int->Int->Int->Int->Int->(List Int)->Int->Int->(List A9)->(List Int)->Int->Int->Int->Int->Int->Int->(List Int)->(List Int)->(List Int)->(List Ba)->(List Ax)->(List Int)->Option (Bool)
 |0,_,_,_,_,_,_,_,_,_,_,_,_,_,_,_,_,_,_,_,_,_,_,_,_,_,_,_,_=>none
 |n1+1,v1,v2,v3,v4,v5,v6,v7,v8,v9,v10,v11,v12,v13,v14,v15,v16,v17,v18,v19,v20,v21,v22,v23,v24,v25,v26,v27,v28=>(bif (decide (v3<(v15.length:Int)))then(if(0:Int)≤v3∧v3<(v15.length:Int)then(bif (decide (((gt v15 v3).fAt)<v2))then(bif (decide ((Aoa .i64 ((gt v15 v3).fAt) ((gt v15 v3).Vu))>v1))then some false else(Asf K v1 v2 v3 v4 v5 v6 v7 v8 v9 v10 v11 v12 v13 v14 v15 v16 v17 v18 v19 v20 v21 v22 v23 v24 v25 v26 v27 v28 (Al6 K n1)))else(Asf K v1 v2 v3 v4 v5 v6 v7 v8 v9 v10 v11 v12 v13 v14 v15 v16 v17 v18 v19 v20 v21 v22 v23 v24 v25 v26 v27 v28 (Al6 K n1)))else none)else(if(0:Int)≤v1∧v1≤v2∧v2≤(v23.length:Int)then((Ar8 K ((v23.drop v1.toNat).take (v2 - v1).toNat)).bind fun r29=>some r29)else none))
def At4 (K:Nat)(a0:Eb)(a1:Int):Option (Bool):=(if(0:Int)≤a1∧a1<(a0.fL.length:Int)then(bif (((gt a0.fL a1).Pq)==0)then some true else(bif (decide ((Aoa .i64 (Aoc .i64 (Aob .i64 ((gt a0.fL a1).Pq) 1) a0.fC.Eg) ((gt a0.fL a1).Gt))≥(Aoc .i64 ((gt a0.fL a1).Pq) a0.fC.Eg)))then some true else(Al6 K K (Aoa .i64 (Aoc .i64 (Aob .i64 ((gt a0.fL a1).Pq) 1) a0.fC.Eg) ((gt a0.fL a1).Gt)) (Aoc .i64 ((gt a0.fL a1).Pq) a0.fC.Eg) 0 ((gt a0.fL a1).Hh) ((gt a0.fL a1).C2) ((gt a0.fL a1).Ly) ((gt a0.fL a1).fUp) ((gt a0.fL a1).Gq) ((gt a0.fL a1).Bt) ((gt a0.fL a1).Gr) ((gt a0.fL a1).Gs) ((gt a0.fL a1).Ae) ((gt a0.fL a1).Pq) ((gt a0.fL a1).Gt) ((gt a0.fL a1).Ea) ((gt a0.fL a1).Dg) a0.fC.Ae a0.fC.Eg a0.fC.C0 a0.fC.E9 a0.fC.C1 a0.fC.Eh a0.fP.Fy a0.fP.Hh a0.fP.Fz a0.fL a0.fQ a0.Pr)))else none)
def s_58:Sig:=⟨[.v 32,.v 3],[.v 4],true⟩
def Byw (K:Nat):Gb tyU:=⟨s_58,At4 K⟩
def Bnp (K:Nat):=xF s_58 [(212,Bmd K)] [] 71 [33,34,54,55] [] [] [2025] [.tmp 4]
def A11:E5:=⟨[(2,.p 102),(5,.p 105),(6,.v 2),(7,.v 2),(8,.v 2)],[(105,.box [.v 2,.v 2,.v 2,.v 2,.v 2,.v 2,.v 2,.v 2,.v 26,.v 2,.v 2,.v 41,.v 26]),(102,.box [.v 2,.v 2,.v 2,.v 2,.v 2,.v 2,.v 22,.v 26,.v 26,.v 29,.v 30,.v 26])]⟩
def Awk:E5:=⟨[(2,.p 102),(5,.p 105),(6,.v 2),(7,.v 2),(8,.v 2)],[(105,.box [.v 2,.v 2,.v 2,.v 2,.v 2,.v 2,.v 2,.v 2,.v 26,.v 2,.v 2,.v 41,.v 26]),(102,.box [.v 2,.v 2,.v 2,.v 2,.v 2,.v 2,.v 22,.v 26,.v 26,.v 29,.v 30,.v 26])]⟩
def A12 (K:Nat)(C506:CT Awk s_58)(q:PT A11):Rt s_58:=Asf K q.1 q.2.1 q.2.2.1 q.2.2.2.1 q.2.2.2.2.1 q.2.2.2.2.2.1 q.2.2.2.2.2.2.1 q.2.2.2.2.2.2.2.1 q.2.2.2.2.2.2.2.2.1 q.2.2.2.2.2.2.2.2.2.1 q.2.2.2.2.2.2.2.2.2.2.1 q.2.2.2.2.2.2.2.2.2.2.2.1 q.2.2.2.2.2.2.2.2.2.2.2.2.1 q.2.2.2.2.2.2.2.2.2.2.2.2.2.1 q.2.2.2.2.2.2.2.2.2.2.2.2.2.2.1 q.2.2.2.2.2.2.2.2.2.2.2.2.2.2.2.1 q.2.2.2.2.2.2.2.2.2.2.2.2.2.2.2.2.1 q.2.2.2.2.2.2.2.2.2.2.2.2.2.2.2.2.2.1 q.2.2.2.2.2.2.2.2.2.2.2.2.2.2.2.2.2.2.1 q.2.2.2.2.2.2.2.2.2.2.2.2.2.2.2.2.2.2.2.1 q.2.2.2.2.2.2.2.2.2.2.2.2.2.2.2.2.2.2.2.2.1 q.2.2.2.2.2.2.2.2.2.2.2.2.2.2.2.2.2.2.2.2.2.1 q.2.2.2.2.2.2.2.2.2.2.2.2.2.2.2.2.2.2.2.2.2.2.1 q.2.2.2.2.2.2.2.2.2.2.2.2.2.2.2.2.2.2.2.2.2.2.2.1 q.2.2.2.2.2.2.2.2.2.2.2.2.2.2.2.2.2.2.2.2.2.2.2.2.1 q.2.2.2.2.2.2.2.2.2.2.2.2.2.2.2.2.2.2.2.2.2.2.2.2.2.1 q.2.2.2.2.2.2.2.2.2.2.2.2.2.2.2.2.2.2.2.2.2.2.2.2.2.2.1 q.2.2.2.2.2.2.2.2.2.2.2.2.2.2.2.2.2.2.2.2.2.2.2.2.2.2.2.1 (fun v1 v2 v3 v4 v5 v6 v7 v8 v9 v10 v11 v12 v13 v14 v15 v16 v17 v18 v19 v20 v21 v22 v23 v24 v25 v26 v27 v28=>C506 (v1,v2,v3,v4,v5,v6,v7,v8,v9,v10,v11,v12,v13,v14,v15,v16,v17,v18,v19,v20,v21,v22,v23,v24,v25,v26,v27,v28,()))
def Ay5 (K:Nat)(n:Nat)(q:PT Awk):Rt s_58:=Al6 K n q.1 q.2.1 q.2.2.1 q.2.2.2.1 q.2.2.2.2.1 q.2.2.2.2.2.1 q.2.2.2.2.2.2.1 q.2.2.2.2.2.2.2.1 q.2.2.2.2.2.2.2.2.1 q.2.2.2.2.2.2.2.2.2.1 q.2.2.2.2.2.2.2.2.2.2.1 q.2.2.2.2.2.2.2.2.2.2.2.1 q.2.2.2.2.2.2.2.2.2.2.2.2.1 q.2.2.2.2.2.2.2.2.2.2.2.2.2.1 q.2.2.2.2.2.2.2.2.2.2.2.2.2.2.1 q.2.2.2.2.2.2.2.2.2.2.2.2.2.2.2.1 q.2.2.2.2.2.2.2.2.2.2.2.2.2.2.2.2.1 q.2.2.2.2.2.2.2.2.2.2.2.2.2.2.2.2.2.1 q.2.2.2.2.2.2.2.2.2.2.2.2.2.2.2.2.2.2.1 q.2.2.2.2.2.2.2.2.2.2.2.2.2.2.2.2.2.2.2.1 q.2.2.2.2.2.2.2.2.2.2.2.2.2.2.2.2.2.2.2.2.1 q.2.2.2.2.2.2.2.2.2.2.2.2.2.2.2.2.2.2.2.2.2.1 q.2.2.2.2.2.2.2.2.2.2.2.2.2.2.2.2.2.2.2.2.2.2.1 q.2.2.2.2.2.2.2.2.2.2.2.2.2.2.2.2.2.2.2.2.2.2.2.1 q.2.2.2.2.2.2.2.2.2.2.2.2.2.2.2.2.2.2.2.2.2.2.2.2.1 q.2.2.2.2.2.2.2.2.2.2.2.2.2.2.2.2.2.2.2.2.2.2.2.2.2.1 q.2.2.2.2.2.2.2.2.2.2.2.2.2.2.2.2.2.2.2.2.2.2.2.2.2.2.1 q.2.2.2.2.2.2.2.2.2.2.2.2.2.2.2.2.2.2.2.2.2.2.2.2.2.2.2.1
theorem Bd5 (K:Nat)(C506:CT Awk s_58):AtJ (Bnp K) [] [(506,ar Awk C506)] (bd Tryz.f146) 2025 (A12 K C506):=fun q=>by kernel_rfl
theorem Bgu (K:Nat):AtL (Bnp K) (fun n=>[(2025,ar A11 (A12 K (Ay5 K n)))]) [] (bd Tryz.f146) 506 (Ay5 K):=fun n q=>by kernel_rfl
theorem Bgv (K:Nat):XF [.tmp 4] s_58 71 [2025] (Bnp K):=xkF (gC (Bfw K) gN) oN
theorem Bd6 (K:Nat)(C506:CT Awk s_58):CF [.tmp 4] s_58 71 [2025] (bd Tryz.f146) [(506,ar Awk C506)] 2025 (ar A11 (A12 K C506)):=
 Apm (Bgv K) (Bd5 K C506) kN
theorem Bgw (K:Nat)(n:Nat):CF [.tmp 4] s_58 71 [2025] (bd Tryz.f146) [] 506 (ar Awk (Ay5 K n)):=
 Aeg (Bgv K) (Bgu K) (fun n=>(kC (Bd6 K (Ay5 K n)) kN)) n
theorem Byx (K:Nat):OkF 146 (Byw K):=
 Aa6 (x:=Bnp K) (L:=[(506,ar Awk (Ay5 K K))]) (c0:=bd Tryz.f146) (Bgv K) (by intro a0 a1;show @Eq _ _ _;kernel_rfl) (kC (Bgw K K) kN) Tryz.func146 trivial
def Anq (K:Nat)(v4:Int)(v5:Int)(v6:Int)(v7:Int)(v8:Int)(v9:Int)(v10:List Int)(v11:List Int)(v12:List Int)(v13:List Ba)(v14:List Ax)(v15:List Int):Nat->Int->Option (Bool)
 |0,_=>none
 |n3+1,v23=>(bif (decide (v23<(v15.length:Int)))then(if(0:Int)≤v23∧v23<(v15.length:Int)then((Ac1 K (gt v15 v23) 0 255).bind fun r24=>(bif (!r24)then some false else(Anq K v4 v5 v6 v7 v8 v9 v10 v11 v12 v13 v14 v15 n3 (Aoa .i64 v23 1))))else none)else((As7 K (Eb.mk (Er.mk v4 v5 v6 v7 v8 v9) (Dw.mk v10 v11 v12) v13 v14 v15)).bind fun r25=>some r25))
def Apr (K:Nat)(v4:Int)(v5:Int)(v6:Int)(v7:Int)(v8:Int)(v9:Int)(v10:List Int)(v11:List Int)(v12:List Int)(v13:List Ba)(v14:List Ax)(v15:List Int):Nat->Int->Option (Bool)
 |0,_=>none
 |n2+1,v21=>(bif (decide (v21<(v14.length:Int)))then((At0 K (Eb.mk (Er.mk v4 v5 v6 v7 v8 v9) (Dw.mk v10 v11 v12) v13 v14 v15) v21).bind fun r22=>(bif (!r22)then some false else(Apr K v4 v5 v6 v7 v8 v9 v10 v11 v12 v13 v14 v15 n2 (Aoa .i64 v21 1))))else(Anq K v4 v5 v6 v7 v8 v9 v10 v11 v12 v13 v14 v15 K 0))
def Anr (K:Nat):Nat->Int->Int->Int->Int->Int->Int->Int->(List Int)->(List Int)->(List Int)->(List Ba)->(List Ax)->(List Int)->Option (Bool)
 |0,_,_,_,_,_,_,_,_,_,_,_,_,_=>none
 |n1+1,v3,v4,v5,v6,v7,v8,v9,v10,v11,v12,v13,v14,v15=>(bif (decide (v3<(v13.length:Int)))then(if(0:Int)≤v3∧v3<(v13.length:Int)then((Av7 K (Er.mk v4 v5 v6 v7 v8 v9) (gt v13 v3)).bind fun r16=>(bif r16 then((Ata K (Eb.mk (Er.mk v4 v5 v6 v7 v8 v9) (Dw.mk v10 v11 v12) v13 v14 v15) v3).bind fun r17=>(bif r17 then(if(0:Int)≤v3∧v3<(v13.length:Int)then((At2 K (Er.mk v4 v5 v6 v7 v8 v9) (gt v13 v3)).bind fun r18=>(bif r18 then(if(0:Int)≤v3∧v3<(v13.length:Int)then((At3 K ((gt v13 v3).Ea)).bind fun r19=>(bif r19 then((At4 K (Eb.mk (Er.mk v4 v5 v6 v7 v8 v9) (Dw.mk v10 v11 v12) v13 v14 v15) v3).bind fun r20=>(bif (!r20)then some false else(Anr K n1 (Aoa .i64 v3 1) v4 v5 v6 v7 v8 v9 v10 v11 v12 v13 v14 v15)))else some false))else none)else some false))else none)else some false))else some false))else none)else(Apr K v4 v5 v6 v7 v8 v9 v10 v11 v12 v13 v14 v15 K 0))
def Au5 (K:Nat)(a0:Eb):Option (Bool):=((Av5 K a0.fC a0.fP).bind fun r1=>(bif r1 then(bif ((a0.fL.length:Int) != a0.fC.C0)then some false else((Av6 K a0.fL).bind fun r2=>(bif (!r2)then some false else(Anr K K 0 a0.fC.Ae a0.fC.Eg a0.fC.C0 a0.fC.E9 a0.fC.C1 a0.fC.Eh a0.fP.Fy a0.fP.Hh a0.fP.Fz a0.fL a0.fQ a0.Pr))))else some false))
def s_59:Sig:=⟨[.v 32],[.v 4],true⟩
def Byy (K:Nat):Gb tyU:=⟨s_59,Au5 K⟩
def Bgx (K:Nat):=xF s_59 [(84,A6k K),(140,Bxi K),(141,Bxr K),(142,Byj K),(143,Byn K),(144,Byp K),(145,Byu K),(146,Byw K),(147,Bx2 K),(148,Bxy K)] [] 103 [10,11,12,19,20,21,41,42,43,46,47,48,49,57,58,59,60,67,68,69,70] [] [] [] [.tmp 2]
def A3u:E5:=⟨[(1,.p 101),(5,.v 2)],[(101,.box [.v 2,.v 2,.v 2,.v 2,.v 2,.v 2,.v 22,.v 26,.v 26,.v 29,.v 30,.v 26])]⟩
def A3v:E5:=⟨[(1,.p 101),(4,.v 2)],[(101,.box [.v 2,.v 2,.v 2,.v 2,.v 2,.v 2,.v 22,.v 26,.v 26,.v 29,.v 30,.v 26])]⟩
def A8q:E5:=⟨[(1,.p 101),(3,.v 2)],[(101,.box [.v 2,.v 2,.v 2,.v 2,.v 2,.v 2,.v 22,.v 26,.v 26,.v 29,.v 30,.v 26])]⟩
def A3w (K:Nat)(n:Nat)(q:PT A3u):Rt s_59:=Anq K q.2.1 q.2.2.1 q.2.2.2.1 q.2.2.2.2.1 q.2.2.2.2.2.1 q.2.2.2.2.2.2.1 q.2.2.2.2.2.2.2.1 q.2.2.2.2.2.2.2.2.1 q.2.2.2.2.2.2.2.2.2.1 q.2.2.2.2.2.2.2.2.2.2.1 q.2.2.2.2.2.2.2.2.2.2.2.1 q.2.2.2.2.2.2.2.2.2.2.2.2.1 n q.1
def A3x (K:Nat)(n:Nat)(q:PT A3v):Rt s_59:=Apr K q.2.1 q.2.2.1 q.2.2.2.1 q.2.2.2.2.1 q.2.2.2.2.2.1 q.2.2.2.2.2.2.1 q.2.2.2.2.2.2.2.1 q.2.2.2.2.2.2.2.2.1 q.2.2.2.2.2.2.2.2.2.1 q.2.2.2.2.2.2.2.2.2.2.1 q.2.2.2.2.2.2.2.2.2.2.2.1 q.2.2.2.2.2.2.2.2.2.2.2.2.1 n q.1
def A8r (K:Nat)(n:Nat)(q:PT A8q):Rt s_59:=Anr K n q.1 q.2.1 q.2.2.1 q.2.2.2.1 q.2.2.2.2.1 q.2.2.2.2.2.1 q.2.2.2.2.2.2.1 q.2.2.2.2.2.2.2.1 q.2.2.2.2.2.2.2.2.1 q.2.2.2.2.2.2.2.2.2.1 q.2.2.2.2.2.2.2.2.2.2.1 q.2.2.2.2.2.2.2.2.2.2.2.1 q.2.2.2.2.2.2.2.2.2.2.2.2.1
theorem Bgy (K:Nat):AtL (Bgx K) (fun n=>[]) [] (bd Tryz.f83) 250 (A3w K):=fun n q=>by kernel_rfl
theorem Bgz (K:Nat):AtL (Bgx K) (fun n=>[(250,ar A3u (A3w K K))]) [] (bd Tryz.f83) 122 (A3x K):=fun n q=>by kernel_rfl
theorem Bnq (K:Nat):AtL (Bgx K) (fun n=>[(122,ar A3v (A3x K K))]) [] (bd Tryz.f83) 58 (A8r K):=fun n q=>by kernel_rfl
theorem Bc1 (K:Nat):XF [.tmp 2] s_59 103 [] (Bgx K):=xkF (gC (A0x K) (gC (Bxj K) (gC (Bxs K) (gC (Byk K) (gC (Byo K) (gC (Byq K) (gC (Byv K) (gC (Byx K) (gC (Bx3 K) (gC (Bxz K) gN)))))))))) oN
theorem Bg0 (K:Nat)(n:Nat):CF [.tmp 2] s_59 103 [] (bd Tryz.f83) [] 250 (ar A3u (A3w K n)):=
 Aeg (Bc1 K) (Bgy K) (fun n=>kN) n
theorem Bg1 (K:Nat)(n:Nat):CF [.tmp 2] s_59 103 [] (bd Tryz.f83) [] 122 (ar A3v (A3x K n)):=
 Aeg (Bc1 K) (Bgz K) (fun n=>(kC (Ao2 (by kernel_rfl) (Bg0 K K)) kN)) n
theorem Bnr (K:Nat)(n:Nat):CF [.tmp 2] s_59 103 [] (bd Tryz.f83) [] 58 (ar A8q (A8r K n)):=
 Aeg (Bc1 K) (Bnq K) (fun n=>(kC (Ao2 (by kernel_rfl) (Bg1 K K)) kN)) n
theorem Byz (K:Nat):OkF 83 (Byy K):=
 Aa6 (x:=Bgx K) (L:=[(58,ar A8q (A8r K K))]) (c0:=bd Tryz.f83) (Bc1 K) (by intro a0;show @Eq _ _ _;kernel_rfl) (kC (Bnr K K) kN) Tryz.func83 trivial
def Ar4 (K:Nat)(a0:Ct):Option (Bool):=(bif (decide (a0.A5≥0))then some (decide (a0.C2≥1))else some false)
def By0:Sig:=⟨[.v 34],[.v 4],true⟩
def Btn (K:Nat):Gb tyU:=⟨By0,Ar4 K⟩
def B3t (K:Nat):=xF By0 [] [] 11 [5,6] [] [] [] [.tmp 2]
theorem Bpe (K:Nat):OkF 149 (Btn K):=
 Aa6 (x:=B3t K) (L:=[]) (c0:=bd Tryz.f149) (xkF gN oN) (by intro a0;show @Eq _ _ _;kernel_rfl) kN Tryz.func149 trivial
def Aw3 (K:Nat)(a0:Fg):Option (Bool):=((Ar4 K a0.fH).bind fun r1=>(bif r1 then(bif (decide (a0.Ly≥0))then some (decide (a0.fNo≥0))else some false)else some false))
def By1:Sig:=⟨[.v 36],[.v 4],true⟩
def By2 (K:Nat):Gb tyU:=⟨By1,Aw3 K⟩
def B3u (K:Nat):=xF By1 [(149,Btn K)] [] 16 [5,6,9,10,11] [] [] [] [.tmp 2]
theorem By3 (K:Nat):OkF 179 (By2 K):=
 Aa6 (x:=B3u K) (L:=[]) (c0:=bd Tryz.f179) (xkF (gC (Bpe K) gN) oN) (by intro a0;show @Eq _ _ _;kernel_rfl) kN Tryz.func179 trivial
def Arf (K:Nat)(a0:List Ba)(a1:Ct):Option (Int):=((Ac1 K a1.A5 0 (Aob .i64 (a0.length:Int) 1)).bind fun r1=>(bif r1 then(if(0:Int)≤a1.A5∧a1.A5<(a0.length:Int)then(bif (((gt a0 a1.A5).Hh) != 1)then some (-1)else(if(0:Int)≤a1.A5∧a1.A5<(a0.length:Int)then(bif (((gt a0 a1.A5).C2) != a1.C2)then some (-1)else some a1.A5)else none))else none)else some (-1)))
def By4:Sig:=⟨[.v 29,.v 34],[.v 3],true⟩
def Bto (K:Nat):Gb tyU:=⟨By4,Arf K⟩
def B3v (K:Nat):=xF By4 [(84,A6k K)] [] 34 [10,11,12,19,20,21] [] [] [] [.tmp 4]
theorem Bpf (K:Nat):OkF 150 (Bto K):=
 Aa6 (x:=B3v K) (L:=[]) (c0:=bd Tryz.f150) (xkF (gC (A0x K) gN) oN) (by intro a0 a1;show @Eq _ _ _;kernel_rfl) kN Tryz.func150 trivial
def Au6 (K:Nat)(v2:Int)(C1:Int->Option (Bool)):Option (Bool):=(C1 (Aoa .i64 v2 1))
def Arg (K:Nat)(a0:List Ba)(r1:(List Int)):Nat->Int->Option (Bool)
 |0,_=>none
 |n1+1,v2=>(bif (decide (v2<(r1.length:Int)))then(if(0:Int)≤v2∧v2<(r1.length:Int)then(if(0:Int)≤(gt r1 v2)∧(gt r1 v2)<(a0.length:Int)then(bif (((gt a0 (gt r1 v2)).Hh) != 1)then some false else(bif (decide ((Aoa .i64 v2 1)<(r1.length:Int)))then(if(0:Int)≤v2∧v2<(r1.length:Int)then((Aqw K a0 (gt r1 v2)).bind fun r3=>(bif (!r3)then some false else(Au6 K v2 (Arg K a0 r1 n1))))else none)else(Au6 K v2 (Arg K a0 r1 n1))))else none)else none)else(bif (decide ((r1.length:Int)>0))then(if(0:Int)≤(Aob .i64 (r1.length:Int) 1)∧(Aob .i64 (r1.length:Int) 1)<(r1.length:Int)then(if(0:Int)≤(gt r1 (Aob .i64 (r1.length:Int) 1))∧(gt r1 (Aob .i64 (r1.length:Int) 1))<(a0.length:Int)then some (((gt a0 (gt r1 (Aob .i64 (r1.length:Int) 1))).fUp)==0)else none)else none)else some false))
def Aw4 (K:Nat)(a0:List Ba)(a1:Int):Option (Bool):=((Aun K a0 a1).bind fun r1=>(Arg K a0 r1 K 0))
def s_63:Sig:=⟨[.v 29,.v 3],[.v 4],true⟩
def By5 (K:Nat):Gb tyU:=⟨s_63,Aw4 K⟩
def Bns (K:Nat):=xF s_63 [(224,Bmj K),(225,Bmi K)] [] 57 [24,25,30,31,43,44] [] [] [233] [.tmp 4]
def A3y:E5:=⟨[(0,.v 29),(5,.v 26),(6,.v 2)],[]⟩
def Axy:E5:=⟨[(0,.v 29),(5,.v 26),(6,.v 2)],[]⟩
def A3z (K:Nat)(C58:CT Axy s_63)(q:PT A3y):Rt s_63:=Au6 K q.2.2.1 (fun v2=>C58 (q.1,q.2.1,v2,()))
def A06 (K:Nat)(n:Nat)(q:PT Axy):Rt s_63:=Arg K q.1 q.2.1 n q.2.2.1
theorem Bg2 (K:Nat)(C58:CT Axy s_63):AtJ (Bns K) [] [(58,ar Axy C58)] (bd Tryz.f151) 233 (A3z K C58):=fun q=>by kernel_rfl
theorem Bnt (K:Nat):AtL (Bns K) (fun n=>[(233,ar A3y (A3z K (A06 K n)))]) [] (bd Tryz.f151) 58 (A06 K):=fun n q=>by kernel_rfl
theorem Bg3 (K:Nat):XF [.tmp 4] s_63 57 [233] (Bns K):=xkF (gC (Bf1 K) (gC (Bf0 K) gN)) oN
theorem Bg4 (K:Nat)(C58:CT Axy s_63):CF [.tmp 4] s_63 57 [233] (bd Tryz.f151) [(58,ar Axy C58)] 233 (ar A3y (A3z K C58)):=
 Apm (Bg3 K) (Bg2 K C58) kN
theorem Bnu (K:Nat)(n:Nat):CF [.tmp 4] s_63 57 [233] (bd Tryz.f151) [] 58 (ar Axy (A06 K n)):=
 Aeg (Bg3 K) (Bnt K) (fun n=>(kC (Bg4 K (A06 K n)) kN)) n
theorem By6 (K:Nat):OkF 151 (By5 K):=
 Aa6 (x:=Bns K) (L:=[(58,ar Axy (A06 K K))]) (c0:=bd Tryz.f151) (Bg3 K) (by intro a0 a1;show @Eq _ _ _;kernel_rfl) (kC (Bnu K K) kN) Tryz.func151 trivial
def At5 (K:Nat)(a0:Eb)(a1:Ct):Option (Int×Int):=((Ar4 K a1).bind fun r1=>(bif (!r1)then some ((-1),1)else((Arf K a0.fL a1).bind fun r2=>(bif (decide (r2<0))then some ((-1),2)else((Aw4 K a0.fL r2).bind fun r3=>(bif (!r3)then some ((-1),2)else some (r2,0)))))))
def By7:Sig:=⟨[.v 32,.v 34],[.v 3,.v 3],true⟩
def By8 (K:Nat):Gb tyU:=⟨By7,At5 K⟩
def B3w (K:Nat):=xF By7 [(149,Btn K),(150,Bto K),(151,By5 K)] [] 24 [15,16] [] [] [] [.tmp 4,.tmp 5]
theorem By9 (K:Nat):OkF 85 (By8 K):=
 Aa6 (x:=B3w K) (L:=[]) (c0:=bd Tryz.f85) (xkF (gC (Bpe K) (gC (Bpf K) (gC (By6 K) gN))) oN) (by intro a0 a1;show @Eq _ _ _;kernel_rfl) kN Tryz.func85 trivial
def Au7 (K:Nat)(a0:Ba)(a1:Fg):Option (A9×Bool):=(bif (a0.Hh != 1)then some ((A9.mk 0 0 0),false)else(bif (a0.Ly != a1.Ly)then some ((A9.mk 0 0 0),false)else((Ac1 K a1.fNo 0 (Aob .i64 (a0.Ea.length:Int) 1)).bind fun r1=>(bif (!r1)then some ((A9.mk 0 0 0),false)else(if(0:Int)≤a1.fNo∧a1.fNo<(a0.Ea.length:Int)then some ((gt a0.Ea a1.fNo),true)else none)))))
def Bza:Sig:=⟨[.v 44,.v 36],[.v 89,.v 4],true⟩
def Bzb (K:Nat):Gb tyU:=⟨Bza,Au7 K⟩
def B3x (K:Nat):=xF Bza [(84,A6k K)] [] 33 [8,9,14,15,16] [] [] [] [.cell 4 89,.tmp 5]
theorem Bzc (K:Nat):OkF 180 (Bzb K):=
 Aa6 (x:=B3x K) (L:=[]) (c0:=bd Tryz.f180) (xkF (gC (A0x K) gN) oN) (by intro a0 a1;show @Eq _ _ _;kernel_rfl) kN Tryz.func180 trivial
def Atb (K:Nat)(a0:Eb)(a1:Fg):Option (Int×A9×Int):=((Aw3 K a1).bind fun r1=>(bif (!r1)then some ((-1),(A9.mk 0 0 0),1)else((At5 K a0 a1.fH).bind fun r2=>(bif (r2.2 != 0)then some ((-1),(A9.mk 0 0 0),r2.2)else(if(0:Int)≤r2.1∧r2.1<(a0.fL.length:Int)then((Au7 K (gt a0.fL r2.1) a1).bind fun r3=>(bif (!r3.2)then some ((-1),(A9.mk 0 0 0),2)else some (r2.1,r3.1,0)))else none)))))
def Bzd:Sig:=⟨[.v 32,.v 36],[.v 3,.v 89,.v 3],true⟩
def Bze (K:Nat):Gb tyU:=⟨Bzd,Atb K⟩
def B3y (K:Nat):=xF Bzd [(85,By8 K),(179,By2 K),(180,Bzb K)] [] 41 [] [] [] [] [.tmp 4,.cell 5 89,.tmp 6]
theorem Bzf (K:Nat):OkF 106 (Bze K):=
 Aa6 (x:=B3y K) (L:=[]) (c0:=bd Tryz.f106) (xkF (gC (By9 K) (gC (By3 K) (gC (Bzc K) gN))) oN) (by intro a0 a1;show @Eq _ _ _;kernel_rfl) kN Tryz.func106 trivial
def Ax7 (K:Nat)(a0:List Ba)(a1:Int):Option (Int):=((Aun K a0 a1).bind fun r1=>some (r1.length:Int))
def Bzg:Sig:=⟨[.v 29,.v 3],[.v 3],true⟩
def Bzh (K:Nat):Gb tyU:=⟨Bzg,Ax7 K⟩
def B3z (K:Nat):=xF Bzg [(224,Bmj K)] [] 9 [] [] [] [] [.tmp 4]
theorem Bzi (K:Nat):OkF 152 (Bzh K):=
 Aa6 (x:=B3z K) (L:=[]) (c0:=bd Tryz.f152) (xkF (gC (Bf1 K) gN) oN) (by intro a0 a1;show @Eq _ _ _;kernel_rfl) kN Tryz.func152 trivial
def Av8 (K:Nat)(a0:Eb)(a1:Ct):Option (Int):=((Arf K a0.fL a1).bind fun r1=>((Ax7 K a0.fL r1).bind fun r2=>some r2))
def Bzj:Sig:=⟨[.v 32,.v 34],[.v 3],true⟩
def Bzk (K:Nat):Gb tyU:=⟨Bzj,Av8 K⟩
def B30 (K:Nat):=xF Bzj [(150,Bto K),(152,Bzh K)] [] 12 [] [] [] [] [.tmp 4]
theorem Bzl (K:Nat):OkF 86 (Bzk K):=
 Aa6 (x:=B30 K) (L:=[]) (c0:=bd Tryz.f86) (xkF (gC (Bpf K) (gC (Bzi K) gN)) oN) (by intro a0 a1;show @Eq _ _ _;kernel_rfl) kN Tryz.func86 trivial
def Ayo (K:Nat)(a0:A9)(a1:Int)(a2:Int):Option (Bool):=(bif (decide (a1≥0))then(bif (decide (a2≥0))then(bif (decide (a1≤a0.Vu))then(bif (decide (a2≤(Aob .i64 a0.Vu a1)))then(bif (decide (a0.fAt<0))then some true else some (decide ((Aoa .i64 a0.fAt a1)≥0)))else some false)else some false)else some false)else some false)
def Bzm:Sig:=⟨[.v 89,.v 3,.v 3],[.v 4],true⟩
def Bzn (K:Nat):Gb tyU:=⟨Bzm,Ayo K⟩
def B31 (K:Nat):=xF Bzm [] [] 39 [8,9,11,12,13,17,18,19,25,26,27,30,31] [] [] [] [.tmp 6]
theorem Bzo (K:Nat):OkF 181 (Bzn K):=
 Aa6 (x:=B31 K) (L:=[]) (c0:=bd Tryz.f181) (xkF gN oN) (by intro a0 a1 a2;show @Eq _ _ _;kernel_rfl) kN Tryz.func181 trivial
def Au8 (K:Nat)(a0:List Int)(a1:Int)(a2:Int):Option (Bool):=(bif (decide (a1≥0))then(bif (decide (a2≥0))then(bif (decide (a1≤(a0.length:Int)))then some (decide (a2≤(Aob .i64 (a0.length:Int) a1)))else some false)else some false)else some false)
def Bzp:Sig:=⟨[.v 22,.v 3,.v 3],[.v 4],true⟩
def Bzq (K:Nat):Gb tyU:=⟨Bzp,Au8 K⟩
def B32 (K:Nat):=xF Bzp [] [] 27 [8,9,11,12,13,17,18,19] [] [] [] [.tmp 6]
theorem Bzr (K:Nat):OkF 245 (Bzq K):=
 Aa6 (x:=B32 K) (L:=[]) (c0:=bd Tryz.f245) (xkF gN oN) (by intro a0 a1 a2;show @Eq _ _ _;kernel_rfl) kN Tryz.func245 trivial
def Apw (K:Nat)(a1:Int)(a2:List Int):Nat->(List Int)->Int->Option ((List Int)×Bool)
 |0,_,_=>none
 |n1+1,v2,v3=>(bif (decide (v3<(a2.length:Int)))then(if(0:Int)≤v3∧v3<(a2.length:Int)then(if(0:Int)≤(Aoa .i64 a1 v3)∧(Aoa .i64 a1 v3)<(v2.length:Int)then(Apw K a1 a2 n1 (v2.set (Aoa .i64 a1 v3).toNat (gt a2 v3)) (Aoa .i64 v3 1))else none)else none)else some (v2,true))
def Aw5 (K:Nat)(a0:List Int)(a1:Int)(a2:List Int):Option ((List Int)×Bool):=(if(([]:List Int)++a0).length*1≤140737488355328∧(([]:List Int)++a0).length≤maxLen then((Au8 K a0 a1 (a2.length:Int)).bind fun r1=>(bif (!r1)then some ((([]:List Int)++a0),false)else(Apw K a1 a2 K (([]:List Int)++a0) 0)))else none)
def s_71:Sig:=⟨[.v 22,.v 3,.v 22],[.n 22 true,.v 4],true⟩
def Bzs (K:Nat):Gb tyU:=⟨s_71,Aw5 K⟩
def Btp (K:Nat):=xF s_71 [(245,Bzq K)] [] 36 [] [] [] [] [.tmp 6,.tmp 7]
def A30:E5:=⟨[(1,.v 2),(2,.v 22),(8,.o 1008 5 true),(9,.v 2)],[]⟩
def A31 (K:Nat)(n:Nat)(q:PT A30):Rt s_71:=Apw K q.1 q.2.1 n q.2.2.1 q.2.2.2.1
theorem Bg5 (K:Nat):AtL (Btp K) (fun n=>[]) [] (bd Tryz.f187) 122 (A31 K):=fun n q=>by kernel_rfl
theorem Bpg (K:Nat):XF [.tmp 6,.tmp 7] s_71 36 [] (Btp K):=xkF (gC (Bzr K) gN) oN
theorem Bg6 (K:Nat)(n:Nat):CF [.tmp 6,.tmp 7] s_71 36 [] (bd Tryz.f187) [] 122 (ar A30 (A31 K n)):=
 Aeg (Bpg K) (Bg5 K) (fun n=>kN) n
theorem Bzt (K:Nat):OkF 187 (Bzs K):=
 Aa6 (x:=Btp K) (L:=[(122,ar A30 (A31 K K))]) (c0:=bd Tryz.f187) (Bpg K) (by intro a0 a1 a2;show @Eq _ _ _;kernel_rfl) (kC (Bg6 K K) kN) Tryz.func187 trivial
def Asg (K:Nat)(a0:List Int)(a1:A9)(a2:Int)(a3:List Int):Option ((List Int)×Bool):=((Ayo K a1 a2 (a3.length:Int)).bind fun r1=>(bif (!r1)then(if(([]:List Int)++a0).length*1≤140737488355328∧(([]:List Int)++a0).length≤maxLen then some ((([]:List Int)++a0),false)else none)else((Aw5 K a0 (Aoa .i64 a1.fAt a2) a3).bind fun r2=>some (r2.1,r2.2))))
def Bzu:Sig:=⟨[.v 22,.v 89,.v 3,.v 22],[.n 22 true,.v 4],true⟩
def Bzv (K:Nat):Gb tyU:=⟨Bzu,Asg K⟩
def B33 (K:Nat):=xF Bzu [(181,Bzn K),(187,Bzs K)] [] 28 [] [] [] [] [.tmp 8,.tmp 9]
theorem Bzw (K:Nat):OkF 110 (Bzv K):=
 Aa6 (x:=B33 K) (L:=[]) (c0:=bd Tryz.f110) (xkF (gC (Bzo K) (gC (Bzt K) gN)) oN) (by intro a0 a1 a2 a3;show @Eq _ _ _;kernel_rfl) kN Tryz.func110 trivial
def Aw6 (K:Nat)(a0:Eb)(a1:Fg)(a2:Int)(a3:List Int):Option (Eb×Fh):=((Auz K a0).bind fun r1=>((Au5 K a0).bind fun r2=>(bif (!r2)then some (r1,(Fh.mk 1 (Ct.mk 0 0) (Fg.mk (Ct.mk 0 0) 0 0) [] 0 0 0))else((Atb K a0 a1).bind fun r3=>((Av8 K a0 a1.fH).bind fun r4=>(bif (r3.2.2 != 0)then some (r1,(Fh.mk r3.2.2 (Ct.mk 0 0) (Fg.mk (Ct.mk 0 0) 0 0) [] r4 0 0))else((Asg K a0.fP.Fy r3.2.1 a2 a3).bind fun r5=>(bif (!r5.2)then some (r1,(Fh.mk 7 (Ct.mk 0 0) (Fg.mk (Ct.mk 0 0) 0 0) [] r4 0 0))else some ((Eb.mk r1.fC (Dw.mk r5.1 r1.fP.Hh r1.fP.Fz) r1.fL r1.fQ r1.Pr),(Fh.mk r3.2.2 (Ct.mk 0 0) (Fg.mk (Ct.mk 0 0) 0 0) [] r4 0 0))))))))))
def Bzx:Sig:=⟨[.v 32,.v 36,.v 3,.v 22],[.n 32 true,.n 69 true],true⟩
def Bzy (K:Nat):Gb tyU:=⟨Bzx,Aw6 K⟩
def B34 (K:Nat):=xF Bzx [(82,Bxd K),(83,Byy K),(86,Bzk K),(106,Bze K),(110,Bzv K)] [] 61 [] [(7,[.take 114 7 6831]),(11,[.take 114 7 6831]),(13,[.take 114 7 6831])] [] [] [.cell 8 32,.cell 9 69]
theorem Bzz (K:Nat):OkF 45 (Bzy K):=
 Aa6 (x:=B34 K) (L:=[]) (c0:=bd Tryz.f45) (xkF (gC (Bxe K) (gC (Byz K) (gC (Bzl K) (gC (Bzf K) (gC (Bzw K) gN))))) oN) (by intro a0 a1 a2 a3;show @Eq _ _ _;kernel_rfl) kN Tryz.func45 trivial
def Abk (K:Nat)(a0:Int)(a1:Int)(a2:Int):Option (Bool):=(bif (decide (a0≥a1))then some (decide (a0≤a2))else some false)
def Bz0:Sig:=⟨[.v 3,.v 3,.v 3],[.v 4],true⟩
def A32 (K:Nat):Gb tyU:=⟨Bz0,Abk K⟩
def B35 (K:Nat):=xF Bz0 [] [] 15 [9,10] [] [] [] [.tmp 6]
theorem Az4 (K:Nat):OkF 88 (A32 K):=
 Aa6 (x:=B35 K) (L:=[]) (c0:=bd Tryz.f88) (xkF gN oN) (by intro a0 a1 a2;show @Eq _ _ _;kernel_rfl) kN Tryz.func88 trivial
def Ar9 (K:Nat)(a0:Er):Option (Bool):=((Abk K a0.Ae 2 12).bind fun r1=>(bif r1 then((Abk K a0.Eg 8 16).bind fun r2=>(bif r2 then((Abk K a0.C0 2 8).bind fun r3=>(bif r3 then((Abk K a0.E9 1 8).bind fun r4=>(bif r4 then((Abk K a0.C1 1 16).bind fun r5=>(bif r5 then((Abk K a0.Eh 1 4).bind fun r6=>some r6)else some false))else some false))else some false))else some false))else some false))
def Bz1:Sig:=⟨[.v 25],[.v 4],true⟩
def Bg7 (K:Nat):Gb tyU:=⟨Bz1,Ar9 K⟩
def B36 (K:Nat):=xF Bz1 [(88,A32 K)] [] 31 [5,6,9,10,11,14,15,16,19,20,21,24,25,26] [] [] [] [.tmp 2]
theorem Bc2 (K:Nat):OkF 198 (Bg7 K):=
 Aa6 (x:=B36 K) (L:=[]) (c0:=bd Tryz.f198) (xkF (gC (Az4 K) gN) oN) (by intro a0;show @Eq _ _ _;kernel_rfl) kN Tryz.func198 trivial
def Au9 (K:Nat)(a0:Er):Option (Int):=((Ar9 K a0).bind fun r1=>(bif (!r1)then some 0 else some (Aoc .i64 a0.Ae a0.Eg)))
def Bz2:Sig:=⟨[.v 25],[.v 3],true⟩
def Btq (K:Nat):Gb tyU:=⟨Bz2,Au9 K⟩
def B37 (K:Nat):=xF Bz2 [(198,Bg7 K)] [] 11 [] [] [] [] [.tmp 2]
theorem Bph (K:Nat):OkF 123 (Btq K):=
 Aa6 (x:=B37 K) (L:=[]) (c0:=bd Tryz.f123) (xkF (gC (Bc2 K) gN) oN) (by intro a0;show @Eq _ _ _;kernel_rfl) kN Tryz.func123 trivial
def Aqy (K:Nat)(a0:Dw)(a1:Er)(a2:Int):Option ((List Int)):=(if(0:Int)≤(Aoc .i64 a2 a1.Eg)∧(Aoc .i64 a2 a1.Eg)≤(Aoc .i64 (Aoa .i64 a2 1) a1.Eg)∧(Aoc .i64 (Aoa .i64 a2 1) a1.Eg)≤(a0.Fy.length:Int)then some ((a0.Fy.drop (Aoc .i64 a2 a1.Eg).toNat).take ((Aoc .i64 (Aoa .i64 a2 1) a1.Eg) - (Aoc .i64 a2 a1.Eg)).toNat)else none)
def Bz3:Sig:=⟨[.v 28,.v 25,.v 3],[.v 22],false⟩
def Btr (K:Nat):Gb tyU:=⟨Bz3,Aqy K⟩
def B38 (K:Nat):=xF Bz3 [] [] 19 [] [] [] [] [.tmp 6]
theorem Bpi (K:Nat):OkF 227 (Btr K):=
 Aa6 (x:=B38 K) (L:=[]) (c0:=bd Tryz.f227) (xkF gN oN) (by intro a0 a1 a2;show @Eq _ _ _;kernel_rfl) kN Tryz.func227 trivial
def Awt (K:Nat)(a0:Int):Option (Bool):=some (a0 != 0)
def Bz4:Sig:=⟨[.v 5],[.v 4],true⟩
def Bz5 (K:Nat):Gb tyU:=⟨Bz4,Awt K⟩
def B39 (K:Nat):=xF Bz4 [] [] 5 [] [] [] [] [.tmp 2]
theorem Bz6 (K:Nat):OkF 268 (Bz5 K):=
 Aa6 (x:=B39 K) (L:=[]) (c0:=bd Tryz.f268) (xkF gN oN) (by intro a0;show @Eq _ _ _;kernel_rfl) kN Tryz.func268 trivial
def Ag5 (K:Nat)(a0:List Int):Nat->Int->Int->Option (Int)
 |0,_,_=>none
 |n1+1,v1,v2=>(bif (decide (v2<v1))then(if(0:Int)≤v2∧v2<(a0.length:Int)then((Awt K (gt a0 v2)).bind fun r3=>(bif r3 then some v2 else(Ag5 K a0 n1 v1 (Aoa .i64 v2 1))))else none)else some (-1))
def Alf (K:Nat)(a0:List Int):Option (Int):=(Ag5 K a0 K (a0.length:Int) 0)
def s_79:Sig:=⟨[.v 22,.f 268 [] []],[.v 3],true⟩
def Bz7 (K:Nat):Gb tyU:=⟨s_79,Alf K⟩
def Bts (K:Nat):=xF s_79 [(268,Bz5 K)] [] 19 [] [] [] [] [.tmp 4]
def A8s:E5:=⟨[(0,.v 22),(1,.f 268 [] []),(7,.v 2),(8,.v 2)],[]⟩
def A8t (K:Nat)(n:Nat)(q:PT A8s):Rt s_79:=Ag5 K q.1 n q.2.1 q.2.2.1
theorem Bnv (K:Nat):AtL (Bts K) (fun n=>[]) [] (bd Tryz.f297) 26 (A8t K):=fun n q=>by kernel_rfl
theorem Bpj (K:Nat):XF [.tmp 4] s_79 19 [] (Bts K):=xkF (gC (Bz6 K) gN) oN
theorem Bnw (K:Nat)(n:Nat):CF [.tmp 4] s_79 19 [] (bd Tryz.f297) [] 26 (ar A8s (A8t K n)):=
 Aeg (Bpj K) (Bnv K) (fun n=>kN) n
theorem Bz8 (K:Nat):OkF 297 (Bz7 K):=
 Aa6 (x:=Bts K) (L:=[(26,ar A8s (A8t K K))]) (c0:=bd Tryz.f297) (Bpj K) (by intro a0;show @Eq _ _ _;kernel_rfl) (kC (Bnw K K) kN) Tryz.func297 trivial
def Ajb (K:Nat)(a0:List Int):Option (Bool):=((Alf K a0).bind fun r1=>some (decide (r1≥0)))
def Bz9:Sig:=⟨[.v 22,.f 268 [] []],[.v 4],true⟩
def B0a (K:Nat):Gb tyU:=⟨Bz9,Ajb K⟩
def B4a (K:Nat):=xF Bz9 [(297,Bz7 K)] [] 9 [] [] [] [] [.tmp 4]
theorem B0b (K:Nat):OkF 267 (B0a K):=
 Aa6 (x:=B4a K) (L:=[]) (c0:=bd Tryz.f267) (xkF (gC (Bz8 K) gN) oN) (by intro a0;show @Eq _ _ _;kernel_rfl) kN Tryz.func267 trivial
def Asa (K:Nat)(a0:List Int):Option (Bool):=((Ajb K a0).bind fun r1=>some (!r1))
def B0c:Sig:=⟨[.v 22],[.v 4],true⟩
def Bnx (K:Nat):Gb tyU:=⟨B0c,Asa K⟩
def B4b (K:Nat):=xF B0c [(267,B0a K)] [] 6 [] [] [] [] [.tmp 2]
theorem Bg8 (K:Nat):OkF 226 (Bnx K):=
 Aa6 (x:=B4b K) (L:=[]) (c0:=bd Tryz.f226) (xkF (gC (B0b K) gN) oN) (by intro a0;show @Eq _ _ _;kernel_rfl) kN Tryz.func226 trivial
def At6 (K:Nat)(v3:List Int)(v4:Int)(v6:List Int)(v7:List Int)(v8:List Int)(v12:Int)(C1:(List Int)->Int->Int->(List Int)->(List Int)->(List Int)->Option (Bool))(v16:Bool):Option (Bool):=(bif v16 then some false else(C1 v3 v4 (Aoa .i64 v12 1) v6 v7 v8))
def Ap2 (K:Nat)(a0:Er)(v3:List Int)(v4:Int)(v5:Int)(v6:List Int)(v7:List Int)(v8:List Int)(C1:(List Int)->Int->Int->(List Int)->(List Int)->(List Int)->Option (Bool))(v11:Int)(v12:Int)(v13:Bool):Option (Bool):=(bif v13 then some false else(bif (v11==0)then((Aqy K (Dw.mk v6 v7 v8) a0 v5).bind fun r14=>((Asa K r14).bind fun r15=>(At6 K v3 v4 v6 v7 v8 v12 (C1) (!r15))))else(At6 K v3 v4 v6 v7 v8 v12 (C1) false)))
def Ai3 (K:Nat)(a0:Er):Nat->(List Int)->Int->Int->(List Int)->(List Int)->(List Int)->Option (Bool)
 |0,_,_,_,_,_,_=>none
 |n1+1,v3,v4,v5,v6,v7,v8=>(bif (decide (v5<v4))then(if(0:Int)≤v5∧v5<(v3.length:Int)then((Abk K (gt v3 v5) 0 2).bind fun r9=>(bif (!r9)then some false else(bif ((gt v3 v5)==1)then(if(0:Int)≤v5∧v5<(v8.length:Int)then((Abk K (gt v8 v5) 0 (Aob .i64 a0.C0 1)).bind fun r10=>(bif r10 then(bif ((gt v3 v5) != 1)then(if(0:Int)≤v5∧v5<(v8.length:Int)then(Ap2 K a0 v3 v4 v5 v6 v7 v8 (Ai3 K a0 n1) (gt v3 v5) v5 ((gt v8 v5) != (-1)))else none)else(Ap2 K a0 v3 v4 v5 v6 v7 v8 (Ai3 K a0 n1) (gt v3 v5) v5 false))else(Ap2 K a0 v3 v4 v5 v6 v7 v8 (Ai3 K a0 n1) (gt v3 v5) v5 true)))else none)else(bif ((gt v3 v5) != 1)then(if(0:Int)≤v5∧v5<(v8.length:Int)then(Ap2 K a0 v3 v4 v5 v6 v7 v8 (Ai3 K a0 n1) (gt v3 v5) v5 ((gt v8 v5) != (-1)))else none)else(Ap2 K a0 v3 v4 v5 v6 v7 v8 (Ai3 K a0 n1) (gt v3 v5) v5 false)))))else none)else some true)
def Av9 (K:Nat)(a0:Er)(a1:Dw):Option (Bool):=((Ar9 K a0).bind fun r1=>(bif r1 then((Au9 K a0).bind fun r2=>(bif ((a1.Fy.length:Int) != r2)then some false else(bif ((a1.Hh.length:Int) != a0.Ae)then some false else(bif ((a1.Fz.length:Int) != a0.Ae)then some false else(Ai3 K a0 K a1.Hh (a1.Hh.length:Int) 0 a1.Fy a1.Hh a1.Fz)))))else some false))
def s_82:Sig:=⟨[.v 25,.v 28],[.v 4],true⟩
def B0d (K:Nat):Gb tyU:=⟨s_82,Av9 K⟩
def Bg9 (K:Nat):=xF s_82 [(88,A32 K),(123,Btq K),(198,Bg7 K),(226,Bnx K),(227,Btr K)] [] 85 [8,9,10,16,17,18,24,25,26,48,49,58,59,60,61,63,64,75,76] [] [] [29899,119599] [.tmp 4]
def Ay6:E5:=⟨[(2,.p 102),(3,.p 103),(35,.v 26),(36,.v 2),(37,.v 2),(73,.v 4)],[(103,.box [.v 22,.v 26,.v 26]),(102,.st 25 true)]⟩
def A0e:E5:=⟨[(2,.p 102),(3,.p 103),(5,.v 2),(6,.v 2),(35,.v 26),(36,.v 2),(37,.v 2),(46,.v 4)],[(103,.box [.v 22,.v 26,.v 26]),(102,.st 25 true)]⟩
def Atc:E5:=⟨[(2,.p 102),(3,.p 103),(35,.v 26),(36,.v 2),(37,.v 2)],[(103,.box [.v 22,.v 26,.v 26]),(102,.st 25 true)]⟩
def Ay7 (K:Nat)(C58:CT Atc s_82)(q:PT Ay6):Rt s_82:=At6 K q.1 q.2.1 q.2.2.2.2.1 q.2.2.2.2.2.1 q.2.2.2.2.2.2.1 q.2.2.1 (fun v3 v4 v5 v6 v7 v8=>C58 (v3,v4,v5,v6,v7,v8,q.2.2.2.2.2.2.2.1,())) q.2.2.2.1
def A0f (K:Nat)(C58:CT Atc s_82)(q:PT A0e):Rt s_82:=Ap2 K q.2.2.2.2.2.2.2.2.2.1 q.2.2.1 q.2.2.2.1 q.1 q.2.2.2.2.2.2.1 q.2.2.2.2.2.2.2.1 q.2.2.2.2.2.2.2.2.1 (fun v3 v4 v5 v6 v7 v8=>C58 (v3,v4,v5,v6,v7,v8,q.2.2.2.2.2.2.2.2.2.1,())) q.2.1 q.2.2.2.2.1 q.2.2.2.2.2.1
def A07 (K:Nat)(n:Nat)(q:PT Atc):Rt s_82:=Ai3 K q.2.2.2.2.2.2.1 n q.1 q.2.1 q.2.2.1 q.2.2.2.1 q.2.2.2.2.1 q.2.2.2.2.2.1
theorem A96 (K:Nat)(C58:CT Atc s_82):AtJ (Bg9 K) [] [(58,ar Atc C58)] (bd Tryz.f153) 119599 (Ay7 K C58):=fun q=>by kernel_rfl
theorem Bbl (K:Nat)(C58:CT Atc s_82):AtJ (Bg9 K) [(119599,ar Ay6 (Ay7 K C58))] [(58,ar Atc C58)] (bd Tryz.f153) 29899 (A0f K C58):=fun q=>by kernel_rfl
theorem Bny (K:Nat):AtL (Bg9 K) (fun n=>[(29899,ar A0e (A0f K (A07 K n)))]) [] (bd Tryz.f153) 58 (A07 K):=fun n q=>by kernel_rfl
theorem Bc3 (K:Nat):XF [.tmp 4] s_82 85 [29899,119599] (Bg9 K):=xkF (gC (Az4 K) (gC (Bph K) (gC (Bc2 K) (gC (Bg8 K) (gC (Bpi K) gN))))) oN
theorem A97 (K:Nat)(C58:CT Atc s_82):CF [.tmp 4] s_82 85 [29899,119599] (bd Tryz.f153) [(58,ar Atc C58)] 119599 (ar Ay6 (Ay7 K C58)):=
 Apm (Bc3 K) (A96 K C58) kN
theorem Bbm (K:Nat)(C58:CT Atc s_82):CF [.tmp 4] s_82 85 [29899,119599] (bd Tryz.f153) [(58,ar Atc C58)] 29899 (ar A0e (A0f K C58)):=
 Apm (Bc3 K) (Bbl K C58) (kC (A97 K C58) kN)
theorem Bnz (K:Nat)(n:Nat):CF [.tmp 4] s_82 85 [29899,119599] (bd Tryz.f153) [] 58 (ar Atc (A07 K n)):=
 Aeg (Bc3 K) (Bny K) (fun n=>(kC (Bbm K (A07 K n)) kN)) n
theorem B0e (K:Nat):OkF 153 (B0d K):=
 Aa6 (x:=Bg9 K) (L:=[(58,ar Atc (A07 K K))]) (c0:=bd Tryz.f153) (Bc3 K) (by intro a0 a1;show @Eq _ _ _;kernel_rfl) (kC (Bnz K K) kN) Tryz.func153 trivial
def Ag3 (K:Nat)(a0:List Int):Option ((List Int)):=(bif a0.isEmpty then Afd (some []) ((if(([]:List Int)++a0).length*8≤140737488355328∧(([]:List Int)++a0).length≤maxLen then some (([]:List Int)++a0)else none))else(if(([]:List Int)++a0).length*8≤140737488355328∧(([]:List Int)++a0).length≤maxLen then some (([]:List Int)++a0)else none))
def B0f:Sig:=⟨[.v 26],[.n 26 true],true⟩
def Bd7 (K:Nat):Gb tyU:=⟨B0f,Ag3 K⟩
def B4c (K:Nat):=xF B0f [] [] 8 [] [] [] [] [.tmp 2]
theorem A98 (K:Nat):OkF 160 (Bd7 K):=
 Aa6 (x:=B4c K) (L:=[]) (c0:=bd Tryz.f160) (xkF gN oN) (by intro a0;show @Eq _ _ _;kernel_rfl) kN Tryz.func160 trivial
def Aiy (K:Nat)(a0:List Int)(a1:List Int):Nat->Int->Int->Option (Bool)
 |0,_,_=>none
 |n1+1,v1,v2=>(bif (decide (v2<v1))then(if(0:Int)≤v2∧v2<(a0.length:Int)then(if(0:Int)≤v2∧v2<(a1.length:Int)then(bif ((gt a0 v2) != (gt a1 v2))then some false else(Aiy K a0 a1 n1 v1 (Aoa .i64 v2 1)))else none)else none)else some true)
def Aiz (K:Nat)(a0:List Int)(a1:List Int):Option (Bool):=(bif ((a0.length:Int) != (a1.length:Int))then some false else(Aiy K a0 a1 K (a0.length:Int) 0))
def s_85:Sig:=⟨[.v 26,.v 26],[.v 4],true⟩
def Btt (K:Nat):Gb tyU:=⟨s_85,Aiz K⟩
def Btu (K:Nat):=xF s_85 [] [] 26 [] [] [] [] [.tmp 4]
def A8u:E5:=⟨[(0,.v 26),(1,.v 26),(12,.v 2),(13,.v 2)],[]⟩
def A8v (K:Nat)(n:Nat)(q:PT A8u):Rt s_85:=Aiy K q.1 q.2.1 n q.2.2.1 q.2.2.2.1
theorem Bn0 (K:Nat):AtL (Btu K) (fun n=>[]) [] (bd Tryz.f229) 58 (A8v K):=fun n q=>by kernel_rfl
theorem Bpk (K:Nat):XF [.tmp 4] s_85 26 [] (Btu K):=xkF gN oN
theorem Bn1 (K:Nat)(n:Nat):CF [.tmp 4] s_85 26 [] (bd Tryz.f229) [] 58 (ar A8u (A8v K n)):=
 Aeg (Bpk K) (Bn0 K) (fun n=>kN) n
theorem Bpl (K:Nat):OkF 229 (Btt K):=
 Aa6 (x:=Btu K) (L:=[(58,ar A8u (A8v K K))]) (c0:=bd Tryz.f229) (Bpk K) (by intro a0 a1;show @Eq _ _ _;kernel_rfl) (kC (Bn1 K K) kN) Tryz.func229 trivial
def An0 (K:Nat)(a0:List A9)(a1:List A9):Nat->Int->Int->Option (Bool)
 |0,_,_=>none
 |n1+1,v1,v2=>(bif (decide (v2<v1))then(if(0:Int)≤v2∧v2<(a0.length:Int)then(if(0:Int)≤v2∧v2<(a1.length:Int)then(bif (!((((gt a0 v2).fAt)==((gt a1 v2).fAt))&&((((gt a0 v2).Vu)==((gt a1 v2).Vu))&&((((gt a0 v2).Vv)==((gt a1 v2).Vv))&&true))))then some false else(An0 K a0 a1 n1 v1 (Aoa .i64 v2 1)))else none)else none)else some true)
def Ali (K:Nat)(a0:List A9)(a1:List A9):Option (Bool):=(bif ((a0.length:Int) != (a1.length:Int))then some false else(An0 K a0 a1 K (a0.length:Int) 0))
def s_86:Sig:=⟨[.v 41,.v 41],[.v 4],true⟩
def B0g (K:Nat):Gb tyU:=⟨s_86,Ali K⟩
def Btv (K:Nat):=xF s_86 [] [] 26 [] [] [] [] [.tmp 4]
def A8w:E5:=⟨[(0,.v 41),(1,.v 41),(12,.v 2),(13,.v 2)],[]⟩
def A8x (K:Nat)(n:Nat)(q:PT A8w):Rt s_86:=An0 K q.1 q.2.1 n q.2.2.1 q.2.2.2.1
theorem Bn2 (K:Nat):AtL (Btv K) (fun n=>[]) [] (bd Tryz.f309) 58 (A8x K):=fun n q=>by kernel_rfl
theorem Bpm (K:Nat):XF [.tmp 4] s_86 26 [] (Btv K):=xkF gN oN
theorem Bn3 (K:Nat)(n:Nat):CF [.tmp 4] s_86 26 [] (bd Tryz.f309) [] 58 (ar A8w (A8x K n)):=
 Aeg (Bpm K) (Bn2 K) (fun n=>kN) n
theorem B0h (K:Nat):OkF 309 (B0g K):=
 Aa6 (x:=Btv K) (L:=[(58,ar A8w (A8x K K))]) (c0:=bd Tryz.f309) (Bpm K) (by intro a0 a1;show @Eq _ _ _;kernel_rfl) (kC (Bn3 K K) kN) Tryz.func309 trivial
def Awu (K:Nat)(a0:Ba)(a1:Ba):Option (Bool):=(bif (a0.Hh==a1.Hh)then(bif (a0.C2==a1.C2)then(bif (a0.Ly==a1.Ly)then(bif (a0.fUp==a1.fUp)then(bif (a0.Gq==a1.Gq)then(bif (a0.Bt==a1.Bt)then(bif (a0.Gr==a1.Gr)then(bif (a0.Gs==a1.Gs)then((Aiz K a0.Ae a1.Ae).bind fun r1=>(bif r1 then(bif (a0.Pq==a1.Pq)then(bif (a0.Gt==a1.Gt)then((Ali K a0.Ea a1.Ea).bind fun r2=>(bif r2 then((Aiz K a0.Dg a1.Dg).bind fun r3=>some r3)else some false))else some false)else some false)else some false))else some false)else some false)else some false)else some false)else some false)else some false)else some false)else some false)
def B0i:Sig:=⟨[.v 44,.v 44],[.v 4],true⟩
def B0j (K:Nat):Gb tyU:=⟨B0i,Awu K⟩
def B4d (K:Nat):=xF B0i [(229,Btt K),(309,B0g K)] [] 94 [9,10,15,16,17,22,23,24,29,30,31,36,37,38,43,44,45,50,51,52,57,58,59,64,65,66,71,72,73,78,79,80,85,86,87] [] [] [] [.tmp 4]
theorem B0k (K:Nat):OkF 274 (B0j K):=
 Aa6 (x:=B4d K) (L:=[]) (c0:=bd Tryz.f274) (xkF (gC (Bpl K) (gC (B0h K) gN)) oN) (by intro a0 a1;show @Eq _ _ _;kernel_rfl) kN Tryz.func274 trivial
def Axz (K:Nat)(a0:Ba):Option (Bool):=((Awu K a0 (Ba.mk a0.Hh a0.C2 0 0 0 0 0 0 ([]:List Int) 0 0 ([]:List A9) ([]:List Int))).bind fun r1=>some r1)
def B0l:Sig:=⟨[.v 44],[.v 4],true⟩
def B0m (K:Nat):Gb tyU:=⟨B0l,Axz K⟩
def B4e (K:Nat):=xF B0l [(274,B0j K)] [] 10 [] [] [] [] [.tmp 2]
theorem B0n (K:Nat):OkF 239 (B0m K):=
 Aa6 (x:=B4e K) (L:=[]) (c0:=bd Tryz.f239) (xkF (gC (B0k K) gN) oN) (by intro a0;show @Eq _ _ _;kernel_rfl) kN Tryz.func239 trivial
def Ans (K:Nat)(a0:List Int)(a1:Int):Nat->Int->Int->Option (Int)
 |0,_,_=>none
 |n1+1,v1,v2=>(bif (decide (v2<v1))then(if(0:Int)≤v2∧v2<(a0.length:Int)then(bif (a1==(gt a0 v2))then some v2 else(Ans K a0 a1 n1 v1 (Aoa .i64 v2 1)))else none)else some (-1))
def Auj (K:Nat)(a0:List Int)(a1:Int):Option (Int):=(Ans K a0 a1 K (a0.length:Int) 0)
def s_89:Sig:=⟨[.v 26,.v 3],[.v 3],true⟩
def B0o (K:Nat):Gb tyU:=⟨s_89,Auj K⟩
def Btw (K:Nat):=xF s_89 [] [] 19 [] [] [] [] [.tmp 4]
def A8y:E5:=⟨[(0,.v 26),(1,.v 2),(7,.v 2),(8,.v 2)],[]⟩
def A8z (K:Nat)(n:Nat)(q:PT A8y):Rt s_89:=Ans K q.1 q.2.1 n q.2.2.1 q.2.2.2.1
theorem Bn4 (K:Nat):AtL (Btw K) (fun n=>[]) [] (bd Tryz.f126) 26 (A8z K):=fun n q=>by kernel_rfl
theorem Bpn (K:Nat):XF [.tmp 4] s_89 19 [] (Btw K):=xkF gN oN
theorem Bn5 (K:Nat)(n:Nat):CF [.tmp 4] s_89 19 [] (bd Tryz.f126) [] 26 (ar A8y (A8z K n)):=
 Aeg (Bpn K) (Bn4 K) (fun n=>kN) n
theorem B0p (K:Nat):OkF 126 (B0o K):=
 Aa6 (x:=Btw K) (L:=[(26,ar A8y (A8z K K))]) (c0:=bd Tryz.f126) (Bpn K) (by intro a0 a1;show @Eq _ _ _;kernel_rfl) (kC (Bn5 K K) kN) Tryz.func126 trivial
def Amb (K:Nat)(a0:List Int)(a1:Int):Option (Bool):=((Auj K a0 a1).bind fun r1=>some (decide (r1≥0)))
def B0q:Sig:=⟨[.v 26,.v 3],[.v 4],true⟩
def Bn6 (K:Nat):Gb tyU:=⟨B0q,Amb K⟩
def B4f (K:Nat):=xF B0q [(126,B0o K)] [] 9 [] [] [] [] [.tmp 4]
theorem Bha (K:Nat):OkF 57 (Bn6 K):=
 Aa6 (x:=B4f K) (L:=[]) (c0:=bd Tryz.f57) (xkF (gC (B0p K) gN) oN) (by intro a0 a1;show @Eq _ _ _;kernel_rfl) kN Tryz.func57 trivial
def Ao0 (K:Nat)(a0:Er)(a1:List Int):Nat->(List Int)->Int->Int->Option (Bool)
 |0,_,_,_=>none
 |n1+1,v1,v2,v3=>(bif (decide (v3<v2))then(if(0:Int)≤v3∧v3<(v1.length:Int)then((Abk K (gt v1 v3) 0 (Aob .i64 a0.Ae 1)).bind fun r4=>(bif r4 then(if(0:Int)≤0∧0≤v3∧v3≤(a1.length:Int)then((Amb K ((a1.drop (0:Int).toNat).take (v3 - 0).toNat) (gt v1 v3)).bind fun r5=>(bif r5 then some false else(Ao0 K a0 a1 n1 v1 v2 (Aoa .i64 v3 1))))else none)else some false))else none)else some true)
def Ar5 (K:Nat)(a0:Er)(a1:List Int):Option (Bool):=(Ao0 K a0 a1 K a1 (a1.length:Int) 0)
def s_91:Sig:=⟨[.v 25,.v 26],[.v 4],true⟩
def Btx (K:Nat):Gb tyU:=⟨s_91,Ar5 K⟩
def Bty (K:Nat):=xF s_91 [(57,Bn6 K),(88,A32 K)] [] 28 [18,19,20] [] [] [] [.tmp 4]
def A80:E5:=⟨[(1,.v 26),(2,.p 102),(7,.v 26),(8,.v 2),(9,.v 2)],[(102,.st 25 true)]⟩
def A81 (K:Nat)(n:Nat)(q:PT A80):Rt s_91:=Ao0 K q.2.2.2.2.1 q.1 n q.2.1 q.2.2.1 q.2.2.2.1
theorem Bn7 (K:Nat):AtL (Bty K) (fun n=>[]) [] (bd Tryz.f240) 26 (A81 K):=fun n q=>by kernel_rfl
theorem Bpo (K:Nat):XF [.tmp 4] s_91 28 [] (Bty K):=xkF (gC (Bha K) (gC (Az4 K) gN)) oN
theorem Bn8 (K:Nat)(n:Nat):CF [.tmp 4] s_91 28 [] (bd Tryz.f240) [] 26 (ar A80 (A81 K n)):=
 Aeg (Bpo K) (Bn7 K) (fun n=>kN) n
theorem Bpp (K:Nat):OkF 240 (Btx K):=
 Aa6 (x:=Bty K) (L:=[(26,ar A80 (A81 K K))]) (c0:=bd Tryz.f240) (Bpo K) (by intro a0 a1;show @Eq _ _ _;kernel_rfl) (kC (Bn8 K K) kN) Tryz.func240 trivial
def Ash (K:Nat)(a0:Int):Option (Bool):=((Abk K a0 0 255).bind fun r1=>some (!r1))
def B0r:Sig:=⟨[.v 3],[.v 4],true⟩
def B0s (K:Nat):Gb tyU:=⟨B0r,Ash K⟩
def B4g (K:Nat):=xF B0r [(88,A32 K)] [] 6 [] [] [] [] [.tmp 2]
theorem B0t (K:Nat):OkF 237 (B0s K):=
 Aa6 (x:=B4g K) (L:=[]) (c0:=bd Tryz.f237) (xkF (gC (Az4 K) gN) oN) (by intro a0;show @Eq _ _ _;kernel_rfl) kN Tryz.func237 trivial
def Ag4 (K:Nat)(a0:List Int):Nat->Int->Int->Option (Int)
 |0,_,_=>none
 |n1+1,v1,v2=>(bif (decide (v2<v1))then(if(0:Int)≤v2∧v2<(a0.length:Int)then((Ash K (gt a0 v2)).bind fun r3=>(bif r3 then some v2 else(Ag4 K a0 n1 v1 (Aoa .i64 v2 1))))else none)else some (-1))
def Ak9 (K:Nat)(a0:List Int):Option (Int):=(Ag4 K a0 K (a0.length:Int) 0)
def s_93:Sig:=⟨[.v 26,.f 237 [] []],[.v 3],true⟩
def B0u (K:Nat):Gb tyU:=⟨s_93,Ak9 K⟩
def Btz (K:Nat):=xF s_93 [(237,B0s K)] [] 19 [] [] [] [] [.tmp 4]
def A82:E5:=⟨[(0,.v 26),(1,.f 237 [] []),(7,.v 2),(8,.v 2)],[]⟩
def A83 (K:Nat)(n:Nat)(q:PT A82):Rt s_93:=Ag4 K q.1 n q.2.1 q.2.2.1
theorem Bn9 (K:Nat):AtL (Btz K) (fun n=>[]) [] (bd Tryz.f272) 26 (A83 K):=fun n q=>by kernel_rfl
theorem Bpq (K:Nat):XF [.tmp 4] s_93 19 [] (Btz K):=xkF (gC (B0t K) gN) oN
theorem Boa (K:Nat)(n:Nat):CF [.tmp 4] s_93 19 [] (bd Tryz.f272) [] 26 (ar A82 (A83 K n)):=
 Aeg (Bpq K) (Bn9 K) (fun n=>kN) n
theorem B0v (K:Nat):OkF 272 (B0u K):=
 Aa6 (x:=Btz K) (L:=[(26,ar A82 (A83 K K))]) (c0:=bd Tryz.f272) (Bpq K) (by intro a0;show @Eq _ _ _;kernel_rfl) (kC (Boa K K) kN) Tryz.func272 trivial
def Ai4 (K:Nat)(a0:List Int):Option (Bool):=((Ak9 K a0).bind fun r1=>some (decide (r1≥0)))
def B0w:Sig:=⟨[.v 26,.f 237 [] []],[.v 4],true⟩
def B0x (K:Nat):Gb tyU:=⟨B0w,Ai4 K⟩
def B4h (K:Nat):=xF B0w [(272,B0u K)] [] 9 [] [] [] [] [.tmp 4]
theorem B0y (K:Nat):OkF 236 (B0x K):=
 Aa6 (x:=B4h K) (L:=[]) (c0:=bd Tryz.f236) (xkF (gC (B0v K) gN) oN) (by intro a0;show @Eq _ _ _;kernel_rfl) kN Tryz.func236 trivial
def Aqu (K:Nat)(a0:List Int):Option (Bool):=((Ai4 K a0).bind fun r1=>some (!r1))
def B0z:Sig:=⟨[.v 26],[.v 4],true⟩
def Bob (K:Nat):Gb tyU:=⟨B0z,Aqu K⟩
def B4i (K:Nat):=xF B0z [(236,B0x K)] [] 6 [] [] [] [] [.tmp 2]
theorem Bhb (K:Nat):OkF 157 (Bob K):=
 Aa6 (x:=B4i K) (L:=[]) (c0:=bd Tryz.f157) (xkF (gC (B0y K) gN) oN) (by intro a0;show @Eq _ _ _;kernel_rfl) kN Tryz.func157 trivial
def Ay8 (K:Nat)(a0:Er)(a1:Int):Option (Bool):=some (decide (a1>a0.Eg))
def B00:Sig:=⟨[.v 25,.v 3],[.v 4],true⟩
def B01 (K:Nat):Gb tyU:=⟨B00,Ay8 K⟩
def B4j (K:Nat):=xF B00 [] [] 9 [] [] [] [] [.tmp 4]
theorem B02 (K:Nat):OkF 124 (B01 K):=
 Aa6 (x:=B4j K) (L:=[]) (c0:=bd Tryz.f124) (xkF gN oN) (by intro a0 a1;show @Eq _ _ _;kernel_rfl) kN Tryz.func124 trivial
def Ay9 (K:Nat)(a0:Int)(a1:Int):Option (Int):=((Abk K a0 0 1000000000).bind fun r1=>(bif r1 then((Abk K a1 1 1000000000).bind fun r2=>(bif (!r2)then some 0 else(if a1≠(0:Int)then some (Alr .i64 (Aob .i64 (Aoa .i64 a0 a1) 1) a1)else none)))else some 0))
def B03:Sig:=⟨[.v 3,.v 3],[.v 3],true⟩
def B04 (K:Nat):Gb tyU:=⟨B03,Ay9 K⟩
def B4k (K:Nat):=xF B03 [(88,A32 K)] [] 19 [6,7,8] [] [] [] [.tmp 4]
theorem B05 (K:Nat):OkF 199 (B04 K):=
 Aa6 (x:=B4k K) (L:=[]) (c0:=bd Tryz.f199) (xkF (gC (Az4 K) gN) oN) (by intro a0 a1;show @Eq _ _ _;kernel_rfl) kN Tryz.func199 trivial
def Aye (K:Nat)(a0:Er)(a1:Int):Option (Int):=((Ay9 K a1 a0.Eg).bind fun r1=>some r1)
def B06:Sig:=⟨[.v 25,.v 3],[.v 3],true⟩
def B07 (K:Nat):Gb tyU:=⟨B06,Aye K⟩
def B4l (K:Nat):=xF B06 [(199,B04 K)] [] 9 [] [] [] [] [.tmp 4]
theorem B08 (K:Nat):OkF 125 (B07 K):=
 Aa6 (x:=B4l K) (L:=[]) (c0:=bd Tryz.f125) (xkF (gC (B05 K) gN) oN) (by intro a0 a1;show @Eq _ _ _;kernel_rfl) kN Tryz.func125 trivial
def Arh (K:Nat)(a0:Er)(a1:A9):Option (Bool):=((Au9 K a0).bind fun r1=>(bif (decide (a1.Vu≤0))then some false else(bif (decide (a1.fAt<0))then some false else(bif (decide (a1.Vu>r1))then some false else(bif (decide (a1.fAt>(Aob .i64 r1 a1.Vu)))then some false else(bif (a1.Vv==0)then(bif (decide (a1.Vu≤a0.Eg))then(if a0.Eg≠(0:Int)then(if a0.Eg≠(0:Int)then some ((Alr .i64 a1.fAt a0.Eg)==(Alr .i64 (Aob .i64 (Aoa .i64 a1.fAt a1.Vu) 1) a0.Eg))else none)else none)else some false)else((Ay8 K a0 a1.Vu).bind fun r2=>(bif r2 then((Aye K a0 a1.Vu).bind fun r3=>(bif (a1.Vv==r3)then(if a0.Eg≠(0:Int)then some ((Int.tmod a1.fAt a0.Eg)==0)else none)else some false))else some false))))))))
def B09:Sig:=⟨[.v 25,.v 89],[.v 4],true⟩
def Bt0 (K:Nat):Gb tyU:=⟨B09,Arh K⟩
def B4m (K:Nat):=xF B09 [(123,Btq K),(124,B01 K),(125,B07 K)] [] 77 [10,11,14,15,16,20,21,22,38,39,59,60,67,68,69] [] [] [] [.tmp 4]
theorem Bpr (K:Nat):OkF 56 (Bt0 K):=
 Aa6 (x:=B4m K) (L:=[]) (c0:=bd Tryz.f56) (xkF (gC (Bph K) (gC (B02 K) (gC (B08 K) gN))) oN) (by intro a0 a1;show @Eq _ _ _;kernel_rfl) kN Tryz.func56 trivial
def At7 (K:Nat)(a0:A9)(a1:Er):Option (Bool):=((Arh K a1 a0).bind fun r1=>some (!r1))
def Bps:Sig:=⟨[.v 89,.r 25],[.v 4],true⟩
def Bpt (K:Nat):Gb tyU:=⟨Bps,At7 K⟩
def B1a (K:Nat):=xF Bps [(56,Bt0 K)] [] 8 [] [] [] [] [.tmp 3]
theorem Bt1 (K:Nat):OkF 241 (Bpt K):=
 Aa6 (x:=B1a K) (L:=[]) (c0:=bd Tryz.f241) (xkF (gC (Bpr K) gN) oN) (by intro a0 a1;show @Eq _ _ _;kernel_rfl) kN Tryz.func241 trivial
def Ae1 (K:Nat)(a0:List A9)(a1_0:Er):Nat->Int->Int->Option (Int)
 |0,_,_=>none
 |n1+1,v1,v2=>(bif (decide (v2<v1))then(if(0:Int)≤v2∧v2<(a0.length:Int)then((At7 K (gt a0 v2) a1_0).bind fun r3=>(bif r3 then some v2 else(Ae1 K a0 a1_0 n1 v1 (Aoa .i64 v2 1))))else none)else some (-1))
def An1 (K:Nat)(a0:List A9)(a1_0:Er):Option (Int):=(Ae1 K a0 a1_0 K (a0.length:Int) 0)
def s_101:Sig:=⟨[.v 41,.f 241 [] [25]],[.v 3],true⟩
def Bpu (K:Nat):Gb tyU:=⟨s_101,An1 K⟩
def Bhc (K:Nat):=xF s_101 [(241,Bpt K)] [] 19 [] [] [] [] [.tmp 4]
def A33:E5:=⟨[(0,.v 41),(1,.f 241 [] [25]),(7,.v 2),(8,.v 2)],[]⟩
def A34 (K:Nat)(n:Nat)(q:PT A33):Rt s_101:=Ae1 K q.1 q.2.1 n q.2.2.1 q.2.2.2.1
theorem Bhd (K:Nat):AtL (Bhc K) (fun n=>[]) [] (bd Tryz.f122) 26 (A34 K):=fun n q=>by kernel_rfl
theorem Bhe (K:Nat):XF [.tmp 4] s_101 19 [] (Bhc K):=xkF (gC (Bt1 K) gN) oN
theorem Bhf (K:Nat)(n:Nat):CF [.tmp 4] s_101 19 [] (bd Tryz.f122) [] 26 (ar A33 (A34 K n)):=
 Aeg (Bhe K) (Bhd K) (fun n=>kN) n
theorem Bt2 (K:Nat):OkF 122 (Bpu K):=
 Aa6 (x:=Bhc K) (L:=[(26,ar A33 (A34 K K))]) (c0:=bd Tryz.f122) (Bhe K) (by intro a0 a1_0;show @Eq _ _ _;kernel_rfl) (kC (Bhf K K) kN) Tryz.func122 trivial
def Ahy (K:Nat)(a0:List A9)(a1_0:Er):Option (Bool):=((An1 K a0 a1_0).bind fun r1=>some (decide (r1≥0)))
def Bpv:Sig:=⟨[.v 41,.f 241 [] [25]],[.v 4],true⟩
def Bpw (K:Nat):Gb tyU:=⟨Bpv,Ahy K⟩
def B1b (K:Nat):=xF Bpv [(122,Bpu K)] [] 9 [] [] [] [] [.tmp 4]
theorem Bt3 (K:Nat):OkF 54 (Bpw K):=
 Aa6 (x:=B1b K) (L:=[]) (c0:=bd Tryz.f54) (xkF (gC (Bt2 K) gN) oN) (by intro a0 a1_0;show @Eq _ _ _;kernel_rfl) kN Tryz.func54 trivial
def Ap3 (K:Nat)(a0:Er)(v19:List A9)(v20:List Int):Option (Bool):=(bif (decide ((v19.length:Int)≤12))then(bif (decide ((v20.length:Int)≤6))then((Aqu K v20).bind fun r25=>(bif r25 then((Ahy K v19 a0).bind fun r26=>some (!r26))else some false))else some false)else some false)
def Aph (K:Nat)(a0:Er):Nat->(List Int)->Int->Int->Int->Int->Int->Int->Int->Int->Int->Int->(List Int)->Int->Int->(List A9)->(List Int)->Option (Bool)
 |0,_,_,_,_,_,_,_,_,_,_,_,_,_,_,_,_=>none
 |n1+1,v5,v6,v7,v8,v9,v10,v11,v12,v13,v14,v15,v16,v17,v18,v19,v20=>(bif (decide (v7<v6))then(if(0:Int)≤v7∧v7<(v5.length:Int)then((Abk K (gt v5 v7) 0 a0.C0).bind fun r21=>(bif (!r21)then some false else(Aph K a0 n1 v5 v6 (Aoa .i64 v7 1) v8 v9 v10 v11 v12 v13 v14 v15 v16 v17 v18 v19 v20)))else none)else(bif (decide (v10<0))then some false else(bif (decide (v12<0))then some false else((Ar5 K a0 v16).bind fun r22=>(bif r22 then(bif (v17 != 0)then((Amb K v16 (Aob .i64 v17 1)).bind fun r23=>(bif r23 then((Abk K v18 0 a0.Eg).bind fun r24=>(bif r24 then(bif (v17==0)then(bif (v18 != 0)then some false else(Ap3 K a0 v19 v20))else(Ap3 K a0 v19 v20))else some false))else some false))else((Abk K v18 0 a0.Eg).bind fun r27=>(bif r27 then(bif (v17==0)then(bif (v18 != 0)then some false else(Ap3 K a0 v19 v20))else(Ap3 K a0 v19 v20))else some false)))else some false)))))
def Awa (K:Nat)(a0:Er)(a1:Ba):Option (Bool):=((Ar9 K a0).bind fun r1=>(bif r1 then((Abk K a1.Hh 0 3).bind fun r2=>(bif r2 then((Abk K a1.C2 1 a0.Eh).bind fun r3=>(bif (!r3)then some false else(bif (a1.Hh != 1)then((Axz K a1).bind fun r4=>some r4)else(Aph K a0 K ([a1.fUp,a1.Bt,a1.Gr,a1.Gs]:List Int) (([a1.fUp,a1.Bt,a1.Gr,a1.Gs]:List Int).length:Int) 0 a1.Hh a1.C2 a1.Ly a1.fUp a1.Gq a1.Bt a1.Gr a1.Gs a1.Ae a1.Pq a1.Gt a1.Ea a1.Dg))))else some false))else some false))
def s_103:Sig:=⟨[.v 25,.v 44],[.v 4],true⟩
def Bpx (K:Nat):Gb tyU:=⟨s_103,Awa K⟩
def Bc4 (K:Nat):=xF s_103 [(54,Bpw K),(57,Bn6 K),(88,A32 K),(157,Bob K),(198,Bg7 K),(239,B0m K),(240,Btx K)] [] 118 [8,9,10,13,14,15,16,51,52,55,56,57,61,62,63,64,67,68,74,75,76,77,78,83,84,85,86,89,90,99,100,104,105,106,109,110,111] [(13,[.frzB 102 25])] [] [31] [.tmp 4]
def A35:E5:=⟨[(2,.p 102),(3,.p 103)],[(103,.box [.v 2,.v 2,.v 2,.v 2,.v 2,.v 2,.v 2,.v 2,.v 26,.v 2,.v 2,.v 41,.v 26]),(102,.st 25 true)]⟩
def A13:E5:=⟨[(2,.p 102),(3,.p 103),(37,.v 26),(38,.v 2),(39,.v 2)],[(103,.box [.v 2,.v 2,.v 2,.v 2,.v 2,.v 2,.v 2,.v 2,.v 26,.v 2,.v 2,.v 41,.v 26]),(102,.st 25 true)]⟩
def A36 (K:Nat)(q:PT A35):Rt s_103:=Ap3 K q.2.2.2.2.2.2.2.2.2.2.2.2.2.1 q.2.2.2.2.2.2.2.2.2.2.2.1 q.2.2.2.2.2.2.2.2.2.2.2.2.1
def A14 (K:Nat)(n:Nat)(q:PT A13):Rt s_103:=Aph K q.2.2.2.2.2.2.2.2.2.2.2.2.2.2.2.2.1 n q.1 q.2.1 q.2.2.1 q.2.2.2.1 q.2.2.2.2.1 q.2.2.2.2.2.1 q.2.2.2.2.2.2.1 q.2.2.2.2.2.2.2.1 q.2.2.2.2.2.2.2.2.1 q.2.2.2.2.2.2.2.2.2.1 q.2.2.2.2.2.2.2.2.2.2.1 q.2.2.2.2.2.2.2.2.2.2.2.1 q.2.2.2.2.2.2.2.2.2.2.2.2.1 q.2.2.2.2.2.2.2.2.2.2.2.2.2.1 q.2.2.2.2.2.2.2.2.2.2.2.2.2.2.1 q.2.2.2.2.2.2.2.2.2.2.2.2.2.2.2.1
theorem Bhg (K:Nat):AtJ (Bc4 K) [] [] (bd Tryz.f167) 31 (A36 K):=fun q=>by kernel_rfl
theorem Bd8 (K:Nat):AtL (Bc4 K) (fun n=>[(31,ar A35 (A36 K))]) [] (bd Tryz.f167) 122 (A14 K):=fun n q=>by kernel_rfl
theorem Bbn (K:Nat):XF [.tmp 4] s_103 118 [31] (Bc4 K):=xkF (gC (Bt3 K) (gC (Bha K) (gC (Az4 K) (gC (Bhb K) (gC (Bc2 K) (gC (B0n K) (gC (Bpp K) gN))))))) oN
theorem Bhh (K:Nat):CF [.tmp 4] s_103 118 [31] (bd Tryz.f167) [] 31 (ar A35 (A36 K)):=
 Apm (Bbn K) (Bhg K) kN
theorem Bd9 (K:Nat)(n:Nat):CF [.tmp 4] s_103 118 [31] (bd Tryz.f167) [] 122 (ar A13 (A14 K n)):=
 Aeg (Bbn K) (Bd8 K) (fun n=>(kC (Ao2 (by kernel_rfl) (Bhh K)) kN)) n
theorem Bt4 (K:Nat):OkF 167 (Bpx K):=
 Aa6 (x:=Bc4 K) (L:=[(122,ar A13 (A14 K K))]) (c0:=bd Tryz.f167) (Bbn K) (by intro a0 a1;show @Eq _ _ _;kernel_rfl) (kC (Bd9 K K) kN) Tryz.func167 trivial
def Ari (K:Nat)(v2:Int)(v3:Int)(v4:List Int)(v5:List Int)(v6:List Int)(C1:(List Int)->Int->Int->(List Int)->(List Int)->(List Int)->Option ((List Int)))(v7:List Int):Option ((List Int)):=(C1 v7 v2 (Aoa .i64 v3 1) v4 v5 v6)
def Alg (K:Nat)(a1:Int):Nat->(List Int)->Int->Int->(List Int)->(List Int)->(List Int)->Option ((List Int))
 |0,_,_,_,_,_,_=>none
 |n1+1,v1,v2,v3,v4,v5,v6=>(bif (decide (v3<v2))then(if(0:Int)≤v3∧v3<(v5.length:Int)then(bif ((gt v5 v3)==1)then(if(0:Int)≤v3∧v3<(v6.length:Int)then(bif ((gt v6 v3)==a1)then(if(v1++([v3]:List Int)).length*8≤140737488355328∧(v1++([v3]:List Int)).length≤maxLen then(Ari K v2 v3 v4 v5 v6 (Alg K a1 n1) (v1++([v3]:List Int)))else none)else(Ari K v2 v3 v4 v5 v6 (Alg K a1 n1) v1))else none)else(Ari K v2 v3 v4 v5 v6 (Alg K a1 n1) v1))else none)else some v1)
def Ava (K:Nat)(a0:Dw)(a1:Int):Option ((List Int)):=(Alg K a1 K ([]:List Int) (Aaf (a0.Hh.length:Int) (a0.Fz.length:Int)) 0 a0.Fy a0.Hh a0.Fz)
def s_104:Sig:=⟨[.v 28,.v 3],[.n 26 true],true⟩
def Bpy (K:Nat):Gb tyU:=⟨s_104,Ava K⟩
def Bc5 (K:Nat):=xF s_104 [] [] 39 [23,24] [] [] [467] [.tmp 4]
def A15:E5:=⟨[(1,.v 2),(2,.p 102),(5,.o 1005 3 true),(14,.v 2),(15,.v 2)],[(102,.box [.v 22,.v 26,.v 26])]⟩
def Awl:E5:=⟨[(1,.v 2),(2,.p 102),(5,.o 1005 3 true),(14,.v 2),(15,.v 2)],[(102,.box [.v 22,.v 26,.v 26])]⟩
def A16 (K:Nat)(C58:CT Awl s_104)(q:PT A15):Rt s_104:=Ari K q.2.2.1 q.2.2.2.1 q.2.2.2.2.1 q.2.2.2.2.2.1 q.2.2.2.2.2.2.1 (fun v1 v2 v3 v4 v5 v6=>C58 (q.1,v1,v2,v3,v4,v5,v6,())) q.2.1
def Aza (K:Nat)(n:Nat)(q:PT Awl):Rt s_104:=Alg K q.1 n q.2.1 q.2.2.1 q.2.2.2.1 q.2.2.2.2.1 q.2.2.2.2.2.1 q.2.2.2.2.2.2.1
theorem Bea (K:Nat)(C58:CT Awl s_104):AtJ (Bc5 K) [] [(58,ar Awl C58)] (bd Tryz.f16) 467 (A16 K C58):=fun q=>by kernel_rfl
theorem Bhi (K:Nat):AtL (Bc5 K) (fun n=>[(467,ar A15 (A16 K (Aza K n)))]) [] (bd Tryz.f16) 58 (Aza K):=fun n q=>by kernel_rfl
theorem Bbo (K:Nat):XF [.tmp 4] s_104 39 [467] (Bc5 K):=xkF gN oN
theorem Beb (K:Nat)(C58:CT Awl s_104):CF [.tmp 4] s_104 39 [467] (bd Tryz.f16) [(58,ar Awl C58)] 467 (ar A15 (A16 K C58)):=
 Apm (Bbo K) (Bea K C58) kN
theorem Bhj (K:Nat)(n:Nat):CF [.tmp 4] s_104 39 [467] (bd Tryz.f16) [] 58 (ar Awl (Aza K n)):=
 Aeg (Bbo K) (Bhi K) (fun n=>(kC (Beb K (Aza K n)) kN)) n
theorem Bt5 (K:Nat):OkF 16 (Bpy K):=
 Aa6 (x:=Bc5 K) (L:=[(58,ar Awl (Aza K K))]) (c0:=bd Tryz.f16) (Bbo K) (by intro a0 a1;show @Eq _ _ _;kernel_rfl) (kC (Bhj K K) kN) Tryz.func16 trivial
def Alj (K:Nat)(a0:A9)(a1:Er)(a2:Ba):Nat->Int->Option (Bool)
 |0,_=>none
 |n1+1,v2=>(if a1.Eg≠(0:Int)then(bif (decide (v2≤(Alr .i64 (Aob .i64 (Aoa .i64 a0.fAt a0.Vu) 1) a1.Eg)))then((Amb K a2.Ae v2).bind fun r3=>(bif (!r3)then some true else(Alj K a0 a1 a2 n1 (Aoa .i64 v2 1))))else some false)else none)
def Aqz (K:Nat)(a0:A9)(a1:Er)(a2:Ba):Option (Bool):=((Arh K a1 a0).bind fun r1=>(bif (!r1)then some true else(if a1.Eg≠(0:Int)then(Alj K a0 a1 a2 K (Alr .i64 a0.fAt a1.Eg))else none)))
def s_105:Sig:=⟨[.v 89,.r 25,.r 44],[.v 4],true⟩
def Bpz (K:Nat):Gb tyU:=⟨s_105,Aqz K⟩
def Bhk (K:Nat):=xF s_105 [(56,Bt0 K),(57,Bn6 K)] [] 33 [] [] [] [] [.tmp 4]
def A37:E5:=⟨[(1,.r 25),(2,.r 44),(3,.p 103),(5,.v 2)],[(103,.st 89 true)]⟩
def A38 (K:Nat)(n:Nat)(q:PT A37):Rt s_105:=Alj K q.2.2.2.1 q.1 q.2.1 n q.2.2.1
theorem Bhl (K:Nat):AtL (Bhk K) (fun n=>[]) [] (bd Tryz.f55) 58 (A38 K):=fun n q=>by kernel_rfl
theorem Bhm (K:Nat):XF [.tmp 4] s_105 33 [] (Bhk K):=xkF (gC (Bpr K) (gC (Bha K) gN)) oN
theorem Bhn (K:Nat)(n:Nat):CF [.tmp 4] s_105 33 [] (bd Tryz.f55) [] 58 (ar A37 (A38 K n)):=
 Aeg (Bhm K) (Bhl K) (fun n=>kN) n
theorem Bt6 (K:Nat):OkF 55 (Bpz K):=
 Aa6 (x:=Bhk K) (L:=[(58,ar A37 (A38 K K))]) (c0:=bd Tryz.f55) (Bhm K) (by intro a0 a1 a2;show @Eq _ _ _;kernel_rfl) (kC (Bhn K K) kN) Tryz.func55 trivial
def Aek (K:Nat)(a0:List A9)(a1_0:Er)(a1_1:Ba):Nat->Int->Int->Option (Int)
 |0,_,_=>none
 |n1+1,v1,v2=>(bif (decide (v2<v1))then(if(0:Int)≤v2∧v2<(a0.length:Int)then((Aqz K (gt a0 v2) a1_0 a1_1).bind fun r3=>(bif r3 then some v2 else(Aek K a0 a1_0 a1_1 n1 v1 (Aoa .i64 v2 1))))else none)else some (-1))
def Amf (K:Nat)(a0:List A9)(a1_0:Er)(a1_1:Ba):Option (Int):=(Aek K a0 a1_0 a1_1 K (a0.length:Int) 0)
def s_106:Sig:=⟨[.v 41,.f 55 [] [25,44]],[.v 3],true⟩
def Bp0 (K:Nat):Gb tyU:=⟨s_106,Amf K⟩
def Bho (K:Nat):=xF s_106 [(55,Bpz K)] [] 19 [] [] [] [] [.tmp 4]
def A39:E5:=⟨[(0,.v 41),(1,.f 55 [] [25,44]),(7,.v 2),(8,.v 2)],[]⟩
def A4a (K:Nat)(n:Nat)(q:PT A39):Rt s_106:=Aek K q.1 q.2.1 q.2.2.1 n q.2.2.2.1 q.2.2.2.2.1
theorem Bhp (K:Nat):AtL (Bho K) (fun n=>[]) [] (bd Tryz.f122) 26 (A4a K):=fun n q=>by kernel_rfl
theorem Bhq (K:Nat):XF [.tmp 4] s_106 19 [] (Bho K):=xkF (gC (Bt6 K) gN) oN
theorem Bhr (K:Nat)(n:Nat):CF [.tmp 4] s_106 19 [] (bd Tryz.f122) [] 26 (ar A39 (A4a K n)):=
 Aeg (Bhq K) (Bhp K) (fun n=>kN) n
theorem Bt7 (K:Nat):OkF 122 (Bp0 K):=
 Aa6 (x:=Bho K) (L:=[(26,ar A39 (A4a K K))]) (c0:=bd Tryz.f122) (Bhq K) (by intro a0 a1_0 a1_1;show @Eq _ _ _;kernel_rfl) (kC (Bhr K K) kN) Tryz.func122 trivial
def Ag7 (K:Nat)(a0:List A9)(a1_0:Er)(a1_1:Ba):Option (Bool):=((Amf K a0 a1_0 a1_1).bind fun r1=>some (decide (r1≥0)))
def Bp1:Sig:=⟨[.v 41,.f 55 [] [25,44]],[.v 4],true⟩
def Bp2 (K:Nat):Gb tyU:=⟨Bp1,Ag7 K⟩
def B1c (K:Nat):=xF Bp1 [(122,Bp0 K)] [] 9 [] [] [] [] [.tmp 4]
theorem Bt8 (K:Nat):OkF 54 (Bp2 K):=
 Aa6 (x:=B1c K) (L:=[]) (c0:=bd Tryz.f54) (xkF (gC (Bt7 K) gN) oN) (by intro a0 a1_0 a1_1;show @Eq _ _ _;kernel_rfl) kN Tryz.func54 trivial
def At8 (K:Nat)(a0:Er)(a1:Ba):Option (Bool):=((Ag7 K a1.Ea a0 a1).bind fun r1=>some (!r1))
def Bp3:Sig:=⟨[.v 25,.v 44],[.v 4],true⟩
def Bp4 (K:Nat):Gb tyU:=⟨Bp3,At8 K⟩
def B1d (K:Nat):=xF Bp3 [(54,Bp2 K)] [] 10 [] [(1,[.frzB 102 25,.frzB 103 44])] [] [] [.tmp 4]
theorem Bt9 (K:Nat):OkF 15 (Bp4 K):=
 Aa6 (x:=B1d K) (L:=[]) (c0:=bd Tryz.f15) (xkF (gC (Bt8 K) gN) oN) (by intro a0 a1;show @Eq _ _ _;kernel_rfl) kN Tryz.func15 trivial
def Avb (K:Nat)(v1:A9)(v2:A9):Option (Bool):=some (decide ((Aob .u64 (IntKind.u64.wrap v1.fAt) (IntKind.u64.wrap v2.fAt))≥(IntKind.u64.wrap v2.Vu)))
def Avc (K:Nat)(a0:A9)(a1:A9):Option (Bool):=(bif (decide (a0.Vu≤0))then some true else(bif (decide (a1.Vu≤0))then some true else(bif (decide (a0.fAt>a1.fAt))then(Avb K a0 a1)else(Avb K a1 a0))))
def s_109:Sig:=⟨[.v 89,.v 89],[.v 4],true⟩
def Bhs (K:Nat):Gb tyU:=⟨s_109,Avc K⟩
def Bht (K:Nat):=xF s_109 [] [] 31 [7,8] [] [] [7] [.tmp 4]
def A84:E5:=⟨[(2,.p 102),(3,.p 103)],[(103,.st 89 true),(102,.st 89 true)]⟩
def A85 (K:Nat)(q:PT A84):Rt s_109:=Avb K q.1 q.2.1
theorem Boc (K:Nat):AtJ (Bht K) [] [] (bd Tryz.f59) 7 (A85 K):=fun q=>by kernel_rfl
theorem Bhu (K:Nat):XF [.tmp 4] s_109 31 [7] (Bht K):=xkF gN oN
theorem Bod (K:Nat):CF [.tmp 4] s_109 31 [7] (bd Tryz.f59) [] 7 (ar A84 (A85 K)):=
 Apm (Bhu K) (Boc K) kN
theorem Bhv (K:Nat):OkF 59 (Bhs K):=
 Aa6 (x:=Bht K) (L:=[(7,ar A84 (A85 K))]) (c0:=bd Tryz.f59) (Bhu K) (by intro a0 a1;show @Eq _ _ _;kernel_rfl) (kC (Bod K) kN) Tryz.func59 trivial
def Asi (K:Nat)(a0:A9)(a1:A9):Option (Bool):=((Avc K a0 a1).bind fun r1=>some (!r1))
def Bp5:Sig:=⟨[.v 89,.r 89],[.v 4],true⟩
def Bp6 (K:Nat):Gb tyU:=⟨Bp5,Asi K⟩
def B1e (K:Nat):=xF Bp5 [(59,Bhs K)] [] 8 [] [] [] [] [.tmp 3]
theorem Bua (K:Nat):OkF 58 (Bp6 K):=
 Aa6 (x:=B1e K) (L:=[]) (c0:=bd Tryz.f58) (xkF (gC (Bhv K) gN) oN) (by intro a0 a1;show @Eq _ _ _;kernel_rfl) kN Tryz.func58 trivial
def Ael (K:Nat)(a0:List A9)(a1_0:A9):Nat->Int->Int->Option (Int)
 |0,_,_=>none
 |n1+1,v1,v2=>(bif (decide (v2<v1))then(if(0:Int)≤v2∧v2<(a0.length:Int)then((Asi K (gt a0 v2) a1_0).bind fun r3=>(bif r3 then some v2 else(Ael K a0 a1_0 n1 v1 (Aoa .i64 v2 1))))else none)else some (-1))
def Ang (K:Nat)(a0:List A9)(a1_0:A9):Option (Int):=(Ael K a0 a1_0 K (a0.length:Int) 0)
def s_111:Sig:=⟨[.v 41,.f 58 [] [89]],[.v 3],true⟩
def Bp7 (K:Nat):Gb tyU:=⟨s_111,Ang K⟩
def Bhw (K:Nat):=xF s_111 [(58,Bp6 K)] [] 19 [] [] [] [] [.tmp 4]
def A4b:E5:=⟨[(0,.v 41),(1,.f 58 [] [89]),(7,.v 2),(8,.v 2)],[]⟩
def A4c (K:Nat)(n:Nat)(q:PT A4b):Rt s_111:=Ael K q.1 q.2.1 n q.2.2.1 q.2.2.2.1
theorem Bhx (K:Nat):AtL (Bhw K) (fun n=>[]) [] (bd Tryz.f122) 26 (A4c K):=fun n q=>by kernel_rfl
theorem Bhy (K:Nat):XF [.tmp 4] s_111 19 [] (Bhw K):=xkF (gC (Bua K) gN) oN
theorem Bhz (K:Nat)(n:Nat):CF [.tmp 4] s_111 19 [] (bd Tryz.f122) [] 26 (ar A4b (A4c K n)):=
 Aeg (Bhy K) (Bhx K) (fun n=>kN) n
theorem Bub (K:Nat):OkF 122 (Bp7 K):=
 Aa6 (x:=Bhw K) (L:=[(26,ar A4b (A4c K K))]) (c0:=bd Tryz.f122) (Bhy K) (by intro a0 a1_0;show @Eq _ _ _;kernel_rfl) (kC (Bhz K K) kN) Tryz.func122 trivial
def Ag9 (K:Nat)(a0:List A9)(a1_0:A9):Option (Bool):=((Ang K a0 a1_0).bind fun r1=>some (decide (r1≥0)))
def Bp8:Sig:=⟨[.v 41,.f 58 [] [89]],[.v 4],true⟩
def Bp9 (K:Nat):Gb tyU:=⟨Bp8,Ag9 K⟩
def B1f (K:Nat):=xF Bp8 [(122,Bp7 K)] [] 9 [] [] [] [] [.tmp 4]
theorem Buc (K:Nat):OkF 54 (Bp9 K):=
 Aa6 (x:=B1f K) (L:=[]) (c0:=bd Tryz.f54) (xkF (gC (Bub K) gN) oN) (by intro a0 a1_0;show @Eq _ _ _;kernel_rfl) kN Tryz.func54 trivial
def Ao3 (K:Nat)(a0:List A9):Nat->(List A9)->Int->Int->Option (Bool)
 |0,_,_,_=>none
 |n1+1,v1,v2,v3=>(bif (decide (v3<v2))then(if(0:Int)≤v3∧v3<(v1.length:Int)then(if(0:Int)≤0∧0≤v3∧v3≤(a0.length:Int)then((Ag9 K ((a0.drop (0:Int).toNat).take (v3 - 0).toNat) (gt v1 v3)).bind fun r4=>(bif r4 then some false else(Ao3 K a0 n1 v1 v2 (Aoa .i64 v3 1))))else none)else none)else some true)
def At9 (K:Nat)(a0:List A9):Option (Bool):=(Ao3 K a0 K a0 (a0.length:Int) 0)
def s_113:Sig:=⟨[.v 41],[.v 4],true⟩
def Bqa (K:Nat):Gb tyU:=⟨s_113,At9 K⟩
def Bh0 (K:Nat):=xF s_113 [(54,Bp9 K)] [] 18 [] [(4,[.frzB 104 89])] [] [] [.tmp 2]
def A4d:E5:=⟨[(0,.v 41),(5,.v 41),(6,.v 2),(7,.v 2)],[]⟩
def A4e (K:Nat)(n:Nat)(q:PT A4d):Rt s_113:=Ao3 K q.1 n q.2.1 q.2.2.1 q.2.2.2.1
theorem Bh1 (K:Nat):AtL (Bh0 K) (fun n=>[]) [] (bd Tryz.f17) 26 (A4e K):=fun n q=>by kernel_rfl
theorem Bh2 (K:Nat):XF [.tmp 2] s_113 18 [] (Bh0 K):=xkF (gC (Buc K) gN) oN
theorem Bh3 (K:Nat)(n:Nat):CF [.tmp 2] s_113 18 [] (bd Tryz.f17) [] 26 (ar A4d (A4e K n)):=
 Aeg (Bh2 K) (Bh1 K) (fun n=>kN) n
theorem Bud (K:Nat):OkF 17 (Bqa K):=
 Aa6 (x:=Bh0 K) (L:=[(26,ar A4d (A4e K K))]) (c0:=bd Tryz.f17) (Bh2 K) (by intro a0;show @Eq _ _ _;kernel_rfl) (kC (Bh3 K K) kN) Tryz.func17 trivial
def Ap5 (K:Nat)(a0:A9)(a1:A9):Option (Bool):=((Avc K a0 a1).bind fun r1=>some (!r1))
def Bqb:Sig:=⟨[.v 89,.r 89],[.v 4],true⟩
def Bqc (K:Nat):Gb tyU:=⟨Bqb,Ap5 K⟩
def B1g (K:Nat):=xF Bqb [(59,Bhs K)] [] 8 [] [] [] [] [.tmp 3]
theorem Bue (K:Nat):OkF 230 (Bqc K):=
 Aa6 (x:=B1g K) (L:=[]) (c0:=bd Tryz.f230) (xkF (gC (Bhv K) gN) oN) (by intro a0 a1;show @Eq _ _ _;kernel_rfl) kN Tryz.func230 trivial
def Aeh (K:Nat)(a0:List A9)(a1_0:A9):Nat->Int->Int->Option (Int)
 |0,_,_=>none
 |n1+1,v1,v2=>(bif (decide (v2<v1))then(if(0:Int)≤v2∧v2<(a0.length:Int)then((Ap5 K (gt a0 v2) a1_0).bind fun r3=>(bif r3 then some v2 else(Aeh K a0 a1_0 n1 v1 (Aoa .i64 v2 1))))else none)else some (-1))
def Ala (K:Nat)(a0:List A9)(a1_0:A9):Option (Int):=(Aeh K a0 a1_0 K (a0.length:Int) 0)
def s_115:Sig:=⟨[.v 41,.f 230 [] [89]],[.v 3],true⟩
def Bqd (K:Nat):Gb tyU:=⟨s_115,Ala K⟩
def Bh4 (K:Nat):=xF s_115 [(230,Bqc K)] [] 19 [] [] [] [] [.tmp 4]
def A4f:E5:=⟨[(0,.v 41),(1,.f 230 [] [89]),(7,.v 2),(8,.v 2)],[]⟩
def A4g (K:Nat)(n:Nat)(q:PT A4f):Rt s_115:=Aeh K q.1 q.2.1 n q.2.2.1 q.2.2.2.1
theorem Bh5 (K:Nat):AtL (Bh4 K) (fun n=>[]) [] (bd Tryz.f122) 26 (A4g K):=fun n q=>by kernel_rfl
theorem Bh6 (K:Nat):XF [.tmp 4] s_115 19 [] (Bh4 K):=xkF (gC (Bue K) gN) oN
theorem Bh7 (K:Nat)(n:Nat):CF [.tmp 4] s_115 19 [] (bd Tryz.f122) [] 26 (ar A4f (A4g K n)):=
 Aeg (Bh6 K) (Bh5 K) (fun n=>kN) n
theorem Buf (K:Nat):OkF 122 (Bqd K):=
 Aa6 (x:=Bh4 K) (L:=[(26,ar A4f (A4g K K))]) (c0:=bd Tryz.f122) (Bh6 K) (by intro a0 a1_0;show @Eq _ _ _;kernel_rfl) (kC (Bh7 K K) kN) Tryz.func122 trivial
def Ag0 (K:Nat)(a0:List A9)(a1_0:A9):Option (Bool):=((Ala K a0 a1_0).bind fun r1=>some (decide (r1≥0)))
def Bqe:Sig:=⟨[.v 41,.f 230 [] [89]],[.v 4],true⟩
def Bqf (K:Nat):Gb tyU:=⟨Bqe,Ag0 K⟩
def B1h (K:Nat):=xF Bqe [(122,Bqd K)] [] 9 [] [] [] [] [.tmp 4]
theorem Bug (K:Nat):OkF 54 (Bqf K):=
 Aa6 (x:=B1h K) (L:=[]) (c0:=bd Tryz.f54) (xkF (gC (Buf K) gN) oN) (by intro a0 a1_0;show @Eq _ _ _;kernel_rfl) kN Tryz.func54 trivial
def Ap6 (K:Nat)(v1:List Ba)(v2:Int)(v3:Int)(v4:Int)(v5:Int)(v6:Int)(v7:Int)(v8:Int)(v9:Int)(v10:List Int)(v11:List Int)(v12:List Int)(v13:List Ba)(v14:List Ax)(v15:List Int)(C1:(List Ba)->Int->Int->Int->Int->Int->Int->Int->Int->(List Int)->(List Int)->(List Int)->(List Ba)->(List Ax)->(List Int)->Option (Bool)):Option (Bool):=(C1 v1 v2 (Aoa .i64 v3 1) v4 v5 v6 v7 v8 v9 v10 v11 v12 v13 v14 v15)
def Ahl (K:Nat):Nat->(List Ba)->Int->Int->Int->Int->Int->Int->Int->Int->(List Int)->(List Int)->(List Int)->(List Ba)->(List Ax)->(List Int)->Option (Bool)
 |0,_,_,_,_,_,_,_,_,_,_,_,_,_,_,_=>none
 |n1+1,v1,v2,v3,v4,v5,v6,v7,v8,v9,v10,v11,v12,v13,v14,v15=>(bif (decide (v3<v2))then(if(0:Int)≤v3∧v3<(v1.length:Int)then((Ag3 K ((gt v1 v3).Ae)).bind fun r16=>((Eu K r16).bind fun r17=>(if r17.length=r16.length then((Awa K (Er.mk v4 v5 v6 v7 v8 v9) (gt v1 v3)).bind fun r18=>(bif r18 then((Ava K (Dw.mk v10 v11 v12) v3).bind fun r19=>((Aiz K r17 r19).bind fun r20=>(bif r20 then((At8 K (Er.mk v4 v5 v6 v7 v8 v9) (gt v1 v3)).bind fun r21=>(bif r21 then((At9 K ((gt v1 v3).Ea)).bind fun r22=>(bif (!r22)then some false else(bif (((gt v1 v3).Pq)==0)then(Ap6 K v1 v2 v3 v4 v5 v6 v7 v8 v9 v10 v11 v12 v13 v14 v15 (Ahl K n1))else(if(0:Int)≤((A9.mk (Aoa .i64 (Aoc .i64 (Aob .i64 ((gt v1 v3).Pq) 1) v5) ((gt v1 v3).Gt)) (Aob .i64 v5 ((gt v1 v3).Gt)) 0).fAt)∧((A9.mk (Aoa .i64 (Aoc .i64 (Aob .i64 ((gt v1 v3).Pq) 1) v5) ((gt v1 v3).Gt)) (Aob .i64 v5 ((gt v1 v3).Gt)) 0).fAt)≤(Aoa .i64 ((A9.mk (Aoa .i64 (Aoc .i64 (Aob .i64 ((gt v1 v3).Pq) 1) v5) ((gt v1 v3).Gt)) (Aob .i64 v5 ((gt v1 v3).Gt)) 0).fAt) ((A9.mk (Aoa .i64 (Aoc .i64 (Aob .i64 ((gt v1 v3).Pq) 1) v5) ((gt v1 v3).Gt)) (Aob .i64 v5 ((gt v1 v3).Gt)) 0).Vu))∧(Aoa .i64 ((A9.mk (Aoa .i64 (Aoc .i64 (Aob .i64 ((gt v1 v3).Pq) 1) v5) ((gt v1 v3).Gt)) (Aob .i64 v5 ((gt v1 v3).Gt)) 0).fAt) ((A9.mk (Aoa .i64 (Aoc .i64 (Aob .i64 ((gt v1 v3).Pq) 1) v5) ((gt v1 v3).Gt)) (Aob .i64 v5 ((gt v1 v3).Gt)) 0).Vu))≤(v10.length:Int)then((Asa K ((v10.drop ((A9.mk (Aoa .i64 (Aoc .i64 (Aob .i64 ((gt v1 v3).Pq) 1) v5) ((gt v1 v3).Gt)) (Aob .i64 v5 ((gt v1 v3).Gt)) 0).fAt).toNat).take ((Aoa .i64 ((A9.mk (Aoa .i64 (Aoc .i64 (Aob .i64 ((gt v1 v3).Pq) 1) v5) ((gt v1 v3).Gt)) (Aob .i64 v5 ((gt v1 v3).Gt)) 0).fAt) ((A9.mk (Aoa .i64 (Aoc .i64 (Aob .i64 ((gt v1 v3).Pq) 1) v5) ((gt v1 v3).Gt)) (Aob .i64 v5 ((gt v1 v3).Gt)) 0).Vu)) - ((A9.mk (Aoa .i64 (Aoc .i64 (Aob .i64 ((gt v1 v3).Pq) 1) v5) ((gt v1 v3).Gt)) (Aob .i64 v5 ((gt v1 v3).Gt)) 0).fAt)).toNat)).bind fun r23=>(bif r23 then((Ag0 K ((gt v1 v3).Ea) (A9.mk (Aoa .i64 (Aoc .i64 (Aob .i64 ((gt v1 v3).Pq) 1) v5) ((gt v1 v3).Gt)) (Aob .i64 v5 ((gt v1 v3).Gt)) 0)).bind fun r24=>(bif r24 then some false else(Ap6 K v1 v2 v3 v4 v5 v6 v7 v8 v9 v10 v11 v12 v13 v14 v15 (Ahl K n1))))else some false))else none))))else some false))else some false)))else some false))else none)))else none)else some true)
def Aq0 (K:Nat)(a0:Eb):Option (Bool):=(Ahl K K a0.fL (a0.fL.length:Int) 0 a0.fC.Ae a0.fC.Eg a0.fC.C0 a0.fC.E9 a0.fC.C1 a0.fC.Eh a0.fP.Fy a0.fP.Hh a0.fP.Fz a0.fL a0.fQ a0.Pr)
def s_117:Sig:=⟨[.v 32],[.v 4],true⟩
def Bqg (K:Nat):Gb tyU:=⟨s_117,Aq0 K⟩
def Bc6 (K:Nat):=xF s_117 [(15,Bp4 K),(16,Bpy K),(17,Bqa K),(54,Bqf K),(160,Bd7 K),(167,Bpx K),(226,Bnx K),(228,Ev K),(229,Btt K)] [] 87 [23,24,25,31,32,33,34,38,39,40,41,78,79,80] [(10,[.frzB 106 89])] [] [211] [.tmp 2]
def A17:E5:=⟨[(1,.p 101),(8,.v 29),(9,.v 2),(10,.v 2)],[(101,.box [.v 2,.v 2,.v 2,.v 2,.v 2,.v 2,.v 22,.v 26,.v 26,.v 29,.v 30,.v 26])]⟩
def Awm:E5:=⟨[(1,.p 101),(8,.v 29),(9,.v 2),(10,.v 2)],[(101,.box [.v 2,.v 2,.v 2,.v 2,.v 2,.v 2,.v 22,.v 26,.v 26,.v 29,.v 30,.v 26])]⟩
def A18 (K:Nat)(C26:CT Awm s_117)(q:PT A17):Rt s_117:=Ap6 K q.1 q.2.1 q.2.2.1 q.2.2.2.1 q.2.2.2.2.1 q.2.2.2.2.2.1 q.2.2.2.2.2.2.1 q.2.2.2.2.2.2.2.1 q.2.2.2.2.2.2.2.2.1 q.2.2.2.2.2.2.2.2.2.1 q.2.2.2.2.2.2.2.2.2.2.1 q.2.2.2.2.2.2.2.2.2.2.2.1 q.2.2.2.2.2.2.2.2.2.2.2.2.1 q.2.2.2.2.2.2.2.2.2.2.2.2.2.1 q.2.2.2.2.2.2.2.2.2.2.2.2.2.2.1 (fun v1 v2 v3 v4 v5 v6 v7 v8 v9 v10 v11 v12 v13 v14 v15=>C26 (v1,v2,v3,v4,v5,v6,v7,v8,v9,v10,v11,v12,v13,v14,v15,()))
def Azb (K:Nat)(n:Nat)(q:PT Awm):Rt s_117:=Ahl K n q.1 q.2.1 q.2.2.1 q.2.2.2.1 q.2.2.2.2.1 q.2.2.2.2.2.1 q.2.2.2.2.2.2.1 q.2.2.2.2.2.2.2.1 q.2.2.2.2.2.2.2.2.1 q.2.2.2.2.2.2.2.2.2.1 q.2.2.2.2.2.2.2.2.2.2.1 q.2.2.2.2.2.2.2.2.2.2.2.1 q.2.2.2.2.2.2.2.2.2.2.2.2.1 q.2.2.2.2.2.2.2.2.2.2.2.2.2.1 q.2.2.2.2.2.2.2.2.2.2.2.2.2.2.1
theorem Bec (K:Nat)(C26:CT Awm s_117):AtJ (Bc6 K) [] [(26,ar Awm C26)] (bd Tryz.f154) 211 (A18 K C26):=fun q=>by kernel_rfl
theorem Bh8 (K:Nat):AtL (Bc6 K) (fun n=>[(211,ar A17 (A18 K (Azb K n)))]) [] (bd Tryz.f154) 26 (Azb K):=fun n q=>by kernel_rfl
theorem Bbp (K:Nat):XF [.tmp 2] s_117 87 [211] (Bc6 K):=xkF (gC (Bt9 K) (gC (Bt5 K) (gC (Bud K) (gC (Bug K) (gC (A98 K) (gC (Bt4 K) (gC (Bg8 K) (gC (V7 K) (gC (Bpl K) gN))))))))) oN
theorem Bed (K:Nat)(C26:CT Awm s_117):CF [.tmp 2] s_117 87 [211] (bd Tryz.f154) [(26,ar Awm C26)] 211 (ar A17 (A18 K C26)):=
 Apm (Bbp K) (Bec K C26) kN
theorem Bh9 (K:Nat)(n:Nat):CF [.tmp 2] s_117 87 [211] (bd Tryz.f154) [] 26 (ar Awm (Azb K n)):=
 Aeg (Bbp K) (Bh8 K) (fun n=>(kC (Bed K (Azb K n)) kN)) n
theorem Buh (K:Nat):OkF 154 (Bqg K):=
 Aa6 (x:=Bc6 K) (L:=[(26,ar Awm (Azb K K))]) (c0:=bd Tryz.f154) (Bbp K) (by intro a0;show @Eq _ _ _;kernel_rfl) (kC (Bh9 K K) kN) Tryz.func154 trivial
def An4 (K:Nat)(a0:List Ba)(a1:Int):Option (Bool):=((Abk K a1 0 (Aob .i64 (a0.length:Int) 1)).bind fun r1=>some r1)
def Bqh:Sig:=⟨[.v 29,.v 3],[.v 4],true⟩
def A4h (K:Nat):Gb tyU:=⟨Bqh,An4 K⟩
def B1i (K:Nat):=xF Bqh [(88,A32 K)] [] 10 [] [] [] [] [.tmp 4]
theorem A19 (K:Nat):OkF 171 (A4h K):=
 Aa6 (x:=B1i K) (L:=[]) (c0:=bd Tryz.f171) (xkF (gC (Az4 K) gN) oN) (by intro a0 a1;show @Eq _ _ _;kernel_rfl) kN Tryz.func171 trivial
def Asb (K:Nat)(a0:List Ba)(a1:Int):Option (Bool):=(bif (a1==0)then some true else((An4 K a0 (Aob .i64 a1 1)).bind fun r1=>(bif r1 then(if(0:Int)≤(Aob .i64 a1 1)∧(Aob .i64 a1 1)<(a0.length:Int)then some (((gt a0 (Aob .i64 a1 1)).Hh)==1)else none)else some false)))
def Bqi:Sig:=⟨[.v 29,.v 3],[.v 4],true⟩
def Bqj (K:Nat):Gb tyU:=⟨Bqi,Asb K⟩
def B1j (K:Nat):=xF Bqi [(171,A4h K)] [] 22 [6,7,11,12] [] [] [] [.tmp 4]
theorem Bui (K:Nat):OkF 271 (Bqj K):=
 Aa6 (x:=B1j K) (L:=[]) (c0:=bd Tryz.f271) (xkF (gC (A19 K) gN) oN) (by intro a0 a1;show @Eq _ _ _;kernel_rfl) kN Tryz.func271 trivial
def Aqd (K:Nat)(a0:List Ba)(a1:Int):Option (Bool):=(if(0:Int)≤a1∧a1<(a0.length:Int)then((An4 K a0 (Aob .i64 ((gt a0 a1).fUp) 1)).bind fun r1=>(bif r1 then(if(0:Int)≤(Aob .i64 ((gt a0 a1).fUp) 1)∧(Aob .i64 ((gt a0 a1).fUp) 1)<(a0.length:Int)then(bif (((gt a0 (Aob .i64 ((gt a0 a1).fUp) 1)).Hh)==1)then(if(0:Int)≤(Aob .i64 ((gt a0 a1).fUp) 1)∧(Aob .i64 ((gt a0 a1).fUp) 1)<(a0.length:Int)then(if(0:Int)≤a1∧a1<(a0.length:Int)then some (((gt a0 (Aob .i64 ((gt a0 a1).fUp) 1)).Ly)==((gt a0 a1).Gq))else none)else none)else some false)else none)else some false))else none)
def Bqk:Sig:=⟨[.v 29,.v 3],[.v 4],true⟩
def Bc7 (K:Nat):Gb tyU:=⟨Bqk,Aqd K⟩
def B1k (K:Nat):=xF Bqk [(171,A4h K)] [] 36 [14,15,21,22,23] [] [] [] [.tmp 4]
theorem Bbq (K:Nat):OkF 233 (Bc7 K):=
 Aa6 (x:=B1k K) (L:=[]) (c0:=bd Tryz.f233) (xkF (gC (A19 K) gN) oN) (by intro a0 a1;show @Eq _ _ _;kernel_rfl) kN Tryz.func233 trivial
def Arj (K:Nat)(a0:List Ba)(a1:Int)(v8:Int)(v12:Int):Option (Bool):=(bif (v12 != 0)then some true else((Aqd K a0 a1).bind fun r18=>(bif r18 then(if(0:Int)≤(Aob .i64 v8 1)∧(Aob .i64 v8 1)<(a0.length:Int)then some (((gt a0 (Aob .i64 v8 1)).Bt)==(Aoa .i64 a1 1))else none)else some true)))
def Ark (K:Nat)(a0:List Ba)(a1:Int)(v8:Int)(v12:Int):Option (Bool):=(bif (v12 != 0)then(if(0:Int)≤(Aob .i64 v12 1)∧(Aob .i64 v12 1)<(a0.length:Int)then(bif (((gt a0 (Aob .i64 v12 1)).Gr) != (Aoa .i64 a1 1))then some false else(Arj K a0 a1 v8 v12))else none)else(Arj K a0 a1 v8 v12))
def Arl (K:Nat)(a0:List Ba)(a1:Int)(v8:Int)(v9:Int)(v11:Int)(v12:Int):Option (Bool):=(bif (v11 != 0)then(if(0:Int)≤(Aob .i64 v11 1)∧(Aob .i64 v11 1)<(a0.length:Int)then(bif (((gt a0 (Aob .i64 v11 1)).Gs) != (Aoa .i64 a1 1))then some false else(bif (((gt a0 (Aob .i64 v11 1)).fUp) != v8)then some false else(bif (((gt a0 (Aob .i64 v11 1)).Gq) != v9)then some false else(Ark K a0 a1 v8 v12))))else none)else(Ark K a0 a1 v8 v12))
def Arm (K:Nat)(a0:List Ba)(a1:Int)(v5:Int)(v6:Int)(v7:Int)(v8:Int)(v9:Int)(v10:Int)(v11:Int)(v12:Int)(v13:List Int)(v14:Int)(v15:Int)(v16:List A9)(v17:List Int):Option (Bool):=(bif (v10 != 0)then(if(0:Int)≤(Aob .i64 v10 1)∧(Aob .i64 v10 1)<(a0.length:Int)then(bif (((gt a0 (Aob .i64 v10 1)).Gs) != 0)then some false else(bif (((gt a0 (Aob .i64 v10 1)).fUp) != (Aoa .i64 a1 1))then some false else(bif (((gt a0 (Aob .i64 v10 1)).Gq) != v7)then some false else(Arl K a0 a1 v8 v9 v11 v12))))else none)else(Arl K a0 a1 v8 v9 v11 v12))
def Avd (K:Nat)(a0:List Ba)(a1:Int):Option (Bool):=(if(0:Int)≤a1∧a1<(a0.length:Int)then((Asb K a0 ((gt a0 a1).Bt)).bind fun r1=>(bif r1 then((Asb K a0 ((gt a0 a1).Gr)).bind fun r2=>(bif r2 then((Asb K a0 ((gt a0 a1).Gs)).bind fun r3=>(bif r3 then(bif (((gt a0 a1).fUp) != 0)then((An4 K a0 (Aob .i64 ((gt a0 a1).fUp) 1)).bind fun r4=>(bif (!r4)then some false else(Arm K a0 a1 ((gt a0 a1).Hh) ((gt a0 a1).C2) ((gt a0 a1).Ly) ((gt a0 a1).fUp) ((gt a0 a1).Gq) ((gt a0 a1).Bt) ((gt a0 a1).Gr) ((gt a0 a1).Gs) ((gt a0 a1).Ae) ((gt a0 a1).Pq) ((gt a0 a1).Gt) ((gt a0 a1).Ea) ((gt a0 a1).Dg))))else(Arm K a0 a1 ((gt a0 a1).Hh) ((gt a0 a1).C2) ((gt a0 a1).Ly) ((gt a0 a1).fUp) ((gt a0 a1).Gq) ((gt a0 a1).Bt) ((gt a0 a1).Gr) ((gt a0 a1).Gs) ((gt a0 a1).Ae) ((gt a0 a1).Pq) ((gt a0 a1).Gt) ((gt a0 a1).Ea) ((gt a0 a1).Dg)))else some false))else some false))else some false))else none)
def s_121:Sig:=⟨[.v 29,.v 3],[.v 4],true⟩
def Bql (K:Nat):Gb tyU:=⟨s_121,Avd K⟩
def A67 (K:Nat):=xF s_121 [(171,A4h K),(233,Bc7 K),(271,Bqj K)] [] 134 [15,16,17,21,22,23,24,28,29,30,31,34,35,55,56,61,62,63,83,84,89,90,91,100,101,115,116,119,120,121,122] [] [] [7,15,31,63] [.tmp 4]
def A4i:E5:=⟨[(0,.v 29),(1,.v 2),(5,.p 105)],[(105,.box [.v 2,.v 2,.v 2,.v 2,.v 2,.v 2,.v 2,.v 2,.v 26,.v 2,.v 2,.v 41,.v 26])]⟩
def A4j:E5:=⟨[(0,.v 29),(1,.v 2),(5,.p 105)],[(105,.box [.v 2,.v 2,.v 2,.v 2,.v 2,.v 2,.v 2,.v 2,.v 26,.v 2,.v 2,.v 41,.v 26])]⟩
def A4k:E5:=⟨[(0,.v 29),(1,.v 2),(5,.p 105)],[(105,.box [.v 2,.v 2,.v 2,.v 2,.v 2,.v 2,.v 2,.v 2,.v 26,.v 2,.v 2,.v 41,.v 26])]⟩
def A86:E5:=⟨[(0,.v 29),(1,.v 2),(5,.p 105)],[(105,.box [.v 2,.v 2,.v 2,.v 2,.v 2,.v 2,.v 2,.v 2,.v 26,.v 2,.v 2,.v 41,.v 26])]⟩
def A4l (K:Nat)(q:PT A4i):Rt s_121:=Arj K q.1 q.2.1 q.2.2.2.2.2.1 q.2.2.2.2.2.2.2.2.2.1
def A4m (K:Nat)(q:PT A4j):Rt s_121:=Ark K q.1 q.2.1 q.2.2.2.2.2.1 q.2.2.2.2.2.2.2.2.2.1
def A4n (K:Nat)(q:PT A4k):Rt s_121:=Arl K q.1 q.2.1 q.2.2.2.2.2.1 q.2.2.2.2.2.2.1 q.2.2.2.2.2.2.2.2.1 q.2.2.2.2.2.2.2.2.2.1
def A87 (K:Nat)(q:PT A86):Rt s_121:=Arm K q.1 q.2.1 q.2.2.1 q.2.2.2.1 q.2.2.2.2.1 q.2.2.2.2.2.1 q.2.2.2.2.2.2.1 q.2.2.2.2.2.2.2.1 q.2.2.2.2.2.2.2.2.1 q.2.2.2.2.2.2.2.2.2.1 q.2.2.2.2.2.2.2.2.2.2.1 q.2.2.2.2.2.2.2.2.2.2.2.1 q.2.2.2.2.2.2.2.2.2.2.2.2.1 q.2.2.2.2.2.2.2.2.2.2.2.2.2.1 q.2.2.2.2.2.2.2.2.2.2.2.2.2.2.1
theorem Bia (K:Nat):AtJ (A67 K) [] [] (bd Tryz.f231) 63 (A4l K):=fun q=>by kernel_rfl
theorem Bib (K:Nat):AtJ (A67 K) [(63,ar A4i (A4l K))] [] (bd Tryz.f231) 31 (A4m K):=fun q=>by kernel_rfl
theorem Bic (K:Nat):AtJ (A67 K) [(31,ar A4j (A4m K))] [] (bd Tryz.f231) 15 (A4n K):=fun q=>by kernel_rfl
theorem Boe (K:Nat):AtJ (A67 K) [(15,ar A4k (A4n K))] [] (bd Tryz.f231) 7 (A87 K):=fun q=>by kernel_rfl
theorem A4o (K:Nat):XF [.tmp 4] s_121 134 [7,15,31,63] (A67 K):=xkF (gC (A19 K) (gC (Bbq K) (gC (Bui K) gN))) oN
theorem Bid (K:Nat):CF [.tmp 4] s_121 134 [7,15,31,63] (bd Tryz.f231) [] 63 (ar A4i (A4l K)):=
 Apm (A4o K) (Bia K) kN
theorem Bie (K:Nat):CF [.tmp 4] s_121 134 [7,15,31,63] (bd Tryz.f231) [] 31 (ar A4j (A4m K)):=
 Apm (A4o K) (Bib K) (kC (Bid K) kN)
theorem Bif (K:Nat):CF [.tmp 4] s_121 134 [7,15,31,63] (bd Tryz.f231) [] 15 (ar A4k (A4n K)):=
 Apm (A4o K) (Bic K) (kC (Bie K) kN)
theorem Bof (K:Nat):CF [.tmp 4] s_121 134 [7,15,31,63] (bd Tryz.f231) [] 7 (ar A86 (A87 K)):=
 Apm (A4o K) (Boe K) (kC (Bif K) kN)
theorem Buj (K:Nat):OkF 231 (Bql K):=
 Aa6 (x:=A67 K) (L:=[(7,ar A86 (A87 K))]) (c0:=bd Tryz.f231) (A4o K) (by intro a0 a1;show @Eq _ _ _;kernel_rfl) (kC (Bof K) kN) Tryz.func231 trivial
def Atr (K:Nat)(a0:List Ba):Nat->Int->(List Int)->Option ((List Int))
 |0,_,_=>none
 |n1+1,v1,v2=>((An4 K a0 v1).bind fun r3=>(bif r3 then(bif (decide ((v2.length:Int)<(a0.length:Int)))then(if(v2++([v1]:List Int)).length*8≤140737488355328∧(v2++([v1]:List Int)).length≤maxLen then(if(0:Int)≤v1∧v1<(a0.length:Int)then(Atr K a0 n1 (Aob .i64 ((gt a0 v1).fUp) 1) (v2++([v1]:List Int)))else none)else none)else some v2)else some v2))
def Aup (K:Nat)(a0:List Ba)(a1:Int):Option ((List Int)):=(Atr K a0 K a1 ([]:List Int))
def s_122:Sig:=⟨[.v 29,.v 3],[.n 26 true],true⟩
def Bc8 (K:Nat):Gb tyU:=⟨s_122,Aup K⟩
def Big (K:Nat):=xF s_122 [(171,A4h K)] [] 28 [9,10] [] [] [] [.tmp 4]
def A4p:E5:=⟨[(0,.v 29),(1,.v 2),(5,.o 1005 3 true)],[]⟩
def A4q (K:Nat)(n:Nat)(q:PT A4p):Rt s_122:=Atr K q.1 n q.2.1 q.2.2.1
theorem Bih (K:Nat):AtL (Big K) (fun n=>[]) [] (bd Tryz.f232) 28 (A4q K):=fun n q=>by kernel_rfl
theorem Bii (K:Nat):XF [.tmp 4] s_122 28 [] (Big K):=xkF (gC (A19 K) gN) oN
theorem Bij (K:Nat)(n:Nat):CF [.tmp 4] s_122 28 [] (bd Tryz.f232) [] 28 (ar A4p (A4q K n)):=
 Aeg (Bii K) (Bih K) (fun n=>kN) n
theorem Bbr (K:Nat):OkF 232 (Bc8 K):=
 Aa6 (x:=Big K) (L:=[(28,ar A4p (A4q K K))]) (c0:=bd Tryz.f232) (Bii K) (by intro a0 a1;show @Eq _ _ _;kernel_rfl) (kC (Bij K K) kN) Tryz.func232 trivial
def Aua (K:Nat)(v1:List Ba)(v2:Int)(v3:Int)(C1:(List Ba)->Int->Int->Option (Bool)):Option (Bool):=(C1 v1 v2 (Aoa .i64 v3 1))
def Api (K:Nat)(a0:List Ba):Nat->(List Ba)->Int->Int->Option (Bool)
 |0,_,_,_=>none
 |n1+1,v1,v2,v3=>(bif (decide (v3<v2))then(if(0:Int)≤v3∧v3<(v1.length:Int)then(bif (((gt v1 v3).Hh) != 1)then(Aua K v1 v2 v3 (Api K a0 n1))else((Avd K a0 v3).bind fun r4=>(bif (!r4)then some false else((Aup K a0 v3).bind fun r5=>(bif (decide ((r5.length:Int)>4))then some false else(if(0:Int)≤(Aob .i64 (r5.length:Int) 1)∧(Aob .i64 (r5.length:Int) 1)<(r5.length:Int)then((Aqd K a0 (gt r5 (Aob .i64 (r5.length:Int) 1))).bind fun r6=>(bif r6 then some false else(Aua K v1 v2 v3 (Api K a0 n1))))else none))))))else none)else some true)
def Awb (K:Nat)(a0:List Ba):Option (Bool):=(Api K a0 K a0 (a0.length:Int) 0)
def s_123:Sig:=⟨[.v 29],[.v 4],true⟩
def Bqm (K:Nat):Gb tyU:=⟨s_123,Awb K⟩
def Bc9 (K:Nat):=xF s_123 [(231,Bql K),(232,Bc8 K),(233,Bc7 K)] [] 37 [25,26] [] [] [211] [.tmp 2]
def A2a:E5:=⟨[(0,.v 29),(6,.v 29),(7,.v 2),(8,.v 2)],[]⟩
def Awn:E5:=⟨[(0,.v 29),(6,.v 29),(7,.v 2),(8,.v 2)],[]⟩
def A2b (K:Nat)(C26:CT Awn s_123)(q:PT A2a):Rt s_123:=Aua K q.2.1 q.2.2.1 q.2.2.2.1 (fun v1 v2 v3=>C26 (q.1,v1,v2,v3,()))
def Azc (K:Nat)(n:Nat)(q:PT Awn):Rt s_123:=Api K q.1 n q.2.1 q.2.2.1 q.2.2.2.1
theorem Bee (K:Nat)(C26:CT Awn s_123):AtJ (Bc9 K) [] [(26,ar Awn C26)] (bd Tryz.f155) 211 (A2b K C26):=fun q=>by kernel_rfl
theorem Bik (K:Nat):AtL (Bc9 K) (fun n=>[(211,ar A2a (A2b K (Azc K n)))]) [] (bd Tryz.f155) 26 (Azc K):=fun n q=>by kernel_rfl
theorem Bbs (K:Nat):XF [.tmp 2] s_123 37 [211] (Bc9 K):=xkF (gC (Buj K) (gC (Bbr K) (gC (Bbq K) gN))) oN
theorem Bef (K:Nat)(C26:CT Awn s_123):CF [.tmp 2] s_123 37 [211] (bd Tryz.f155) [(26,ar Awn C26)] 211 (ar A2a (A2b K C26)):=
 Apm (Bbs K) (Bee K C26) kN
theorem Bil (K:Nat)(n:Nat):CF [.tmp 2] s_123 37 [211] (bd Tryz.f155) [] 26 (ar Awn (Azc K n)):=
 Aeg (Bbs K) (Bik K) (fun n=>(kC (Bef K (Azc K n)) kN)) n
theorem Buk (K:Nat):OkF 155 (Bqm K):=
 Aa6 (x:=Bc9 K) (L:=[(26,ar Awn (Azc K K))]) (c0:=bd Tryz.f155) (Bbs K) (by intro a0;show @Eq _ _ _;kernel_rfl) (kC (Bil K K) kN) Tryz.func155 trivial
def Aqv (K:Nat)(a0:List Ba)(a1:Int):Option (Bool):=(if(0:Int)≤a1∧a1<(a0.length:Int)then(bif (((gt a0 a1).Hh)==1)then(if(0:Int)≤a1∧a1<(a0.length:Int)then(bif (((gt a0 a1).fUp) != 0)then((Aqd K a0 a1).bind fun r1=>some (!r1))else some false)else none)else some false)else none)
def Bqn:Sig:=⟨[.v 29,.v 3],[.v 4],true⟩
def Bqo (K:Nat):Gb tyU:=⟨Bqn,Aqv K⟩
def B1l (K:Nat):=xF Bqn [(233,Bc7 K)] [] 25 [10,11,17,18,19] [] [] [] [.tmp 4]
theorem Bul (K:Nat):OkF 235 (Bqo K):=
 Aa6 (x:=B1l K) (L:=[]) (c0:=bd Tryz.f235) (xkF (gC (Bbq K) gN) oN) (by intro a0 a1;show @Eq _ _ _;kernel_rfl) kN Tryz.func235 trivial
def Ave (K:Nat)(a0:Er)(a1:Ax):Option (Bool):=((Ar9 K a0).bind fun r1=>(bif r1 then((Abk K a1.A5 0 a0.C0).bind fun r2=>(bif r2 then((Abk K a1.Bt 0 a0.C0).bind fun r3=>(bif r3 then(bif (decide ((a1.Dg.length:Int)≤6))then((Aqu K a1.Dg).bind fun r4=>(bif r4 then((Ar5 K a0 a1.Ae).bind fun r5=>(bif r5 then((Abk K a1.Gu 0 (Aob .i64 a0.Eg 1)).bind fun r6=>(bif r6 then(bif (decide ((a1.Ae.length:Int)>0))then some true else some (a1.Gu==0))else some false))else some false))else some false))else some false)else some false))else some false))else some false))
def Bqp:Sig:=⟨[.v 25,.v 159],[.v 4],true⟩
def Bqq (K:Nat):Gb tyU:=⟨Bqp,Ave K⟩
def B1m (K:Nat):=xF Bqp [(88,A32 K),(157,Bob K),(198,Bg7 K),(240,Btx K)] [] 57 [6,7,12,13,14,19,20,21,25,26,27,30,31,32,36,37,38,44,45,46,50,51] [] [] [] [.tmp 4]
theorem Bum (K:Nat):OkF 234 (Bqq K):=
 Aa6 (x:=B1m K) (L:=[]) (c0:=bd Tryz.f234) (xkF (gC (Az4 K) (gC (Bhb K) (gC (Bc2 K) (gC (Bpp K) gN)))) oN) (by intro a0 a1;show @Eq _ _ _;kernel_rfl) kN Tryz.func234 trivial
def Ar6 (K:Nat)(a0:List Ba):Nat->(List Int)->Int->Option ((List Int))
 |0,_,_=>none
 |n1+1,v1,v2=>((An4 K a0 v2).bind fun r3=>(bif r3 then(bif (decide ((v1.length:Int)<(a0.length:Int)))then(if(v1++([v2]:List Int)).length*8≤140737488355328∧(v1++([v2]:List Int)).length≤maxLen then(if(0:Int)≤v2∧v2<(a0.length:Int)then(Ar6 K a0 n1 (v1++([v2]:List Int)) (Aob .i64 ((gt a0 v2).Gr) 1))else none)else none)else some v1)else some v1))
def Awc (K:Nat)(a0:List Ba)(a1:Int):Option ((List Int)):=(Ar6 K a0 K ([]:List Int) (Aob .i64 a1 1))
def s_126:Sig:=⟨[.v 29,.v 3],[.n 26 true],true⟩
def Bqr (K:Nat):Gb tyU:=⟨s_126,Awc K⟩
def Bim (K:Nat):=xF s_126 [(171,A4h K)] [] 31 [12,13] [] [] [] [.tmp 4]
def A4r:E5:=⟨[(0,.v 29),(5,.o 1005 3 true),(6,.v 2)],[]⟩
def A4s (K:Nat)(n:Nat)(q:PT A4r):Rt s_126:=Ar6 K q.1 n q.2.1 q.2.2.1
theorem Bin (K:Nat):AtL (Bim K) (fun n=>[]) [] (bd Tryz.f206) 58 (A4s K):=fun n q=>by kernel_rfl
theorem Bio (K:Nat):XF [.tmp 4] s_126 31 [] (Bim K):=xkF (gC (A19 K) gN) oN
theorem Bip (K:Nat)(n:Nat):CF [.tmp 4] s_126 31 [] (bd Tryz.f206) [] 58 (ar A4r (A4s K n)):=
 Aeg (Bio K) (Bin K) (fun n=>kN) n
theorem Bun (K:Nat):OkF 206 (Bqr K):=
 Aa6 (x:=Bim K) (L:=[(58,ar A4r (A4s K K))]) (c0:=bd Tryz.f206) (Bio K) (by intro a0 a1;show @Eq _ _ _;kernel_rfl) (kC (Bip K K) kN) Tryz.func206 trivial
def Ai0 (K:Nat)(v4:List Ax)(v5:Int)(v6:Int)(v7:Int)(v8:Int)(v9:Int)(v10:Int)(v11:Int)(v12:Int)(v13:List Int)(v14:List Int)(v15:List Int)(v16:List Ba)(v17:List Ax)(v18:List Int)(v27:List Int)(v31:List Int)(r32:(List Int))(C1:(List Int)->(List Int)->(List Int)->(List Ax)->Int->Int->Int->Int->Int->Int->Int->Int->(List Int)->(List Int)->(List Int)->(List Ba)->(List Ax)->(List Int)->Option (Bool)):Nat->(List Int)->Int->Int->Option (Bool)
 |0,_,_,_=>none
 |n6+1,v33,v34,v35=>(bif (decide (v35<v34))then(if(0:Int)≤v35∧v35<(r32.length:Int)then(if(0:Int)≤(gt r32 v35)∧(gt r32 v35)<(v33.length:Int)then(if(0:Int)≤(gt r32 v35)∧(gt r32 v35)<(v33.length:Int)then((Aqv K v16 (gt r32 v35)).bind fun r36=>(bif (!r36)then some false else(Ai0 K v4 v5 v6 v7 v8 v9 v10 v11 v12 v13 v14 v15 v16 v17 v18 v27 v31 r32 C1 n6 (v33.set (gt r32 v35).toNat (Aoa .i64 (gt v33 (gt r32 v35)) 1)) v34 (Aoa .i64 v35 1))))else none)else none)else none)else(C1 v27 v31 v33 v4 v5 (Aoa .i64 v6 1) v7 v8 v9 v10 v11 v12 v13 v14 v15 v16 v17 v18))
def Apa (K:Nat)(v3:List Int)(v4:List Ax)(v5:Int)(v6:Int)(v7:Int)(v8:Int)(v9:Int)(v10:Int)(v11:Int)(v12:Int)(v13:List Int)(v14:List Int)(v15:List Int)(v16:List Ba)(v17:List Ax)(v18:List Int)(v23:Int)(v27:List Int)(v31:List Int)(C1:(List Int)->(List Int)->(List Int)->(List Ax)->Int->Int->Int->Int->Int->Int->Int->Int->(List Int)->(List Int)->(List Int)->(List Ba)->(List Ax)->(List Int)->Option (Bool)):Option (Bool):=((Awc K v16 v23).bind fun r32=>(Ai0 K v4 v5 v6 v7 v8 v9 v10 v11 v12 v13 v14 v15 v16 v17 v18 v27 v31 r32 (C1) K v3 (r32.length:Int) 0))
def Apb (K:Nat)(v3:List Int)(v4:List Ax)(v5:Int)(v6:Int)(v7:Int)(v8:Int)(v9:Int)(v10:Int)(v11:Int)(v12:Int)(v13:List Int)(v14:List Int)(v15:List Int)(v16:List Ba)(v17:List Ax)(v18:List Int)(v23:Int)(v27:List Int)(C1:(List Int)->(List Int)->(List Int)->(List Ax)->Int->Int->Int->Int->Int->Int->Int->Int->(List Int)->(List Int)->(List Int)->(List Ba)->(List Ax)->(List Int)->Option (Bool))(v31:List Int):Option (Bool):=(bif (decide (v23>0))then(if(0:Int)≤(Aob .i64 v23 1)∧(Aob .i64 v23 1)<(v16.length:Int)then(bif (((gt v16 (Aob .i64 v23 1)).Gs) != 0)then some false else(Apa K v3 v4 v5 v6 v7 v8 v9 v10 v11 v12 v13 v14 v15 v16 v17 v18 v23 v27 v31 (C1)))else none)else(Apa K v3 v4 v5 v6 v7 v8 v9 v10 v11 v12 v13 v14 v15 v16 v17 v18 v23 v27 v31 (C1)))
def Ai1 (K:Nat)(v2:List Int)(v3:List Int)(v4:List Ax)(v5:Int)(v6:Int)(v7:Int)(v8:Int)(v9:Int)(v10:Int)(v11:Int)(v12:Int)(v13:List Int)(v14:List Int)(v15:List Int)(v16:List Ba)(v17:List Ax)(v18:List Int)(v22:Int)(v23:Int)(v25:List Int)(C1:(List Int)->(List Int)->(List Int)->(List Ax)->Int->Int->Int->Int->Int->Int->Int->Int->(List Int)->(List Int)->(List Int)->(List Ba)->(List Ax)->(List Int)->Option (Bool)):Nat->(List Int)->Int->Int->(List Int)->Option (Bool)
 |0,_,_,_,_=>none
 |n3+1,v27,v28,v29,v30=>(bif (decide (v29<v28))then(if(0:Int)≤v29∧v29<(v25.length:Int)then(if(0:Int)≤(gt v25 v29)∧(gt v25 v29)<(v27.length:Int)then(if(0:Int)≤(gt v25 v29)∧(gt v25 v29)<(v27.length:Int)then(if(0:Int)≤(gt v25 v29)∧(gt v25 v29)<(v14.length:Int)then(bif ((gt v14 (gt v25 v29)) != 2)then some false else(Ai1 K v2 v3 v4 v5 v6 v7 v8 v9 v10 v11 v12 v13 v14 v15 v16 v17 v18 v22 v23 v25 C1 n3 (v27.set (gt v25 v29).toNat (Aoa .i64 (gt v27 (gt v25 v29)) 1)) v28 (Aoa .i64 v29 1) v30))else none)else none)else none)else none)else(bif (decide (v22>0))then(if(0:Int)≤(Aob .i64 v22 1)∧(Aob .i64 v22 1)<(v2.length:Int)then(if(0:Int)≤(Aob .i64 v22 1)∧(Aob .i64 v22 1)<(v2.length:Int)then(if(0:Int)≤(Aob .i64 v22 1)∧(Aob .i64 v22 1)<(v16.length:Int)then(bif (((gt v16 (Aob .i64 v22 1)).Hh) != 2)then some false else(Apb K v3 v4 v5 v6 v7 v8 v9 v10 v11 v12 v13 v14 v15 v16 v17 v18 v23 v27 (C1) (v2.set (Aob .i64 v22 1).toNat (Aoa .i64 (gt v2 (Aob .i64 v22 1)) 1))))else none)else none)else none)else(Apb K v3 v4 v5 v6 v7 v8 v9 v10 v11 v12 v13 v14 v15 v16 v17 v18 v23 v27 (C1) v2)))
def Apc (K:Nat)(v1:List Int)(v2:List Int)(v3:List Int)(v4:List Ax)(v5:Int)(v6:Int)(v7:Int)(v8:Int)(v9:Int)(v10:Int)(v11:Int)(v12:Int)(v13:List Int)(v14:List Int)(v15:List Int)(v16:List Ba)(v17:List Ax)(v18:List Int)(C1:(List Int)->(List Int)->(List Int)->(List Ax)->Int->Int->Int->Int->Int->Int->Int->Int->(List Int)->(List Int)->(List Int)->(List Ba)->(List Ax)->(List Int)->Option (Bool))(v22:Int)(v23:Int)(v24:List Int)(v25:List Int)(v26:Int):Option (Bool):=(Ai1 K v2 v3 v4 v5 v6 v7 v8 v9 v10 v11 v12 v13 v14 v15 v16 v17 v18 v22 v23 v25 (C1) K v1 (v25.length:Int) 0 v25)
def Ap7 (K:Nat)(v37:Int)(v38:Int)(v39:List Int)(C7:Int->Int->(List Int)->Option (Bool)):Option (Bool):=(C7 v37 (Aoa .i64 v38 1) v39)
def Ak4 (K:Nat)(v40:Int)(v41:Int)(v42:List Ba)(C9:Int->Int->(List Ba)->Option (Bool)):Option (Bool):=(C9 v40 (Aoa .i64 v41 1) v42)
def Aei (K:Nat)(v2:List Int)(v3:List Int)(v16:List Ba):Nat->Int->Int->(List Ba)->Option (Bool)
 |0,_,_,_=>none
 |n9+1,v40,v41,v42=>(bif (decide (v41<v40))then(if(0:Int)≤v41∧v41<(v16.length:Int)then(bif (((gt v16 v41).Hh)==2)then(if(0:Int)≤v41∧v41<(v2.length:Int)then(bif ((gt v2 v41) != 1)then some false else((Aqv K v42 v41).bind fun r43=>(bif r43 then(if(0:Int)≤v41∧v41<(v3.length:Int)then(bif ((gt v3 v41) != 1)then some false else(Ak4 K v40 v41 v42 (Aei K v2 v3 v16 n9)))else none)else(Ak4 K v40 v41 v42 (Aei K v2 v3 v16 n9)))))else none)else((Aqv K v42 v41).bind fun r44=>(bif r44 then(if(0:Int)≤v41∧v41<(v3.length:Int)then(bif ((gt v3 v41) != 1)then some false else(Ak4 K v40 v41 v42 (Aei K v2 v3 v16 n9)))else none)else(Ak4 K v40 v41 v42 (Aei K v2 v3 v16 n9)))))else none)else some true)
def Ag2 (K:Nat)(v1:List Int)(v2:List Int)(v3:List Int)(v14:List Int)(v16:List Ba):Nat->Int->Int->(List Int)->Option (Bool)
 |0,_,_,_=>none
 |n7+1,v37,v38,v39=>(bif (decide (v38<v37))then(if(0:Int)≤v38∧v38<(v14.length:Int)then(bif ((gt v14 v38)==2)then(if(0:Int)≤v38∧v38<(v1.length:Int)then(bif ((gt v1 v38) != 1)then some false else(Ap7 K v37 v38 v39 (Ag2 K v1 v2 v3 v14 v16 n7)))else none)else(Ap7 K v37 v38 v39 (Ag2 K v1 v2 v3 v14 v16 n7)))else none)else(Aei K v2 v3 v16 K (v16.length:Int) 0 v16))
def Aa1 (K:Nat):Nat->(List Int)->(List Int)->(List Int)->(List Ax)->Int->Int->Int->Int->Int->Int->Int->Int->(List Int)->(List Int)->(List Int)->(List Ba)->(List Ax)->(List Int)->Option (Bool)
 |0,_,_,_,_,_,_,_,_,_,_,_,_,_,_,_,_,_,_=>none
 |n1+1,v1,v2,v3,v4,v5,v6,v7,v8,v9,v10,v11,v12,v13,v14,v15,v16,v17,v18=>(bif (decide (v6<v5))then(if(0:Int)≤v6∧v6<(v4.length:Int)then((Ave K (Er.mk v7 v8 v9 v10 v11 v12) (gt v4 v6)).bind fun r19=>(bif r19 then(bif (decide ((((gt v4 v6).Ae).length:Int)>0))then(if(0:Int)≤0∧0<(((gt v4 v6).Ae).length:Int)then((Aqy K (Dw.mk v13 v14 v15) (Er.mk v7 v8 v9 v10 v11 v12) (gt ((gt v4 v6).Ae) 0)).bind fun r20=>(if(0:Int)≤0∧0≤((gt v4 v6).Gu)∧((gt v4 v6).Gu)≤(r20.length:Int)then((Asa K ((r20.drop (0:Int).toNat).take (((gt v4 v6).Gu) - 0).toNat)).bind fun r21=>(bif (!r21)then some false else(Apc K v1 v2 v3 v4 v5 v6 v7 v8 v9 v10 v11 v12 v13 v14 v15 v16 v17 v18 (Aa1 K n1) ((gt v4 v6).A5) ((gt v4 v6).Bt) ((gt v4 v6).Dg) ((gt v4 v6).Ae) ((gt v4 v6).Gu))))else none))else none)else(Apc K v1 v2 v3 v4 v5 v6 v7 v8 v9 v10 v11 v12 v13 v14 v15 v16 v17 v18 (Aa1 K n1) ((gt v4 v6).A5) ((gt v4 v6).Bt) ((gt v4 v6).Dg) ((gt v4 v6).Ae) ((gt v4 v6).Gu)))else some false))else none)else(Ag2 K v1 v2 v3 v14 v16 K (v14.length:Int) 0 v14))
def Aq1 (K:Nat)(a0:Eb):Option (Bool):=(if(0:Int)≤a0.fC.Ae∧a0.fC.Ae≤a0.fC.Ae∧(8:Int)*a0.fC.Ae≤281474976710656∧a0.fC.Ae≤9223372036854775807 then(if(0:Int)≤a0.fC.C0∧a0.fC.C0≤a0.fC.C0∧(8:Int)*a0.fC.C0≤281474976710656∧a0.fC.C0≤9223372036854775807 then(if(0:Int)≤a0.fC.C0∧a0.fC.C0≤a0.fC.C0∧(8:Int)*a0.fC.C0≤281474976710656∧a0.fC.C0≤9223372036854775807 then(Aa1 K K (List.replicate a0.fC.Ae.toNat 0) (List.replicate a0.fC.C0.toNat 0) (List.replicate a0.fC.C0.toNat 0) a0.fQ (a0.fQ.length:Int) 0 a0.fC.Ae a0.fC.Eg a0.fC.C0 a0.fC.E9 a0.fC.C1 a0.fC.Eh a0.fP.Fy a0.fP.Hh a0.fP.Fz a0.fL a0.fQ a0.Pr)else none)else none)else none)
def s_127:Sig:=⟨[.v 32],[.v 4],true⟩
def Bqs (K:Nat):Gb tyU:=⟨s_127,Aq1 K⟩
def Ay2 (K:Nat):=xF s_127 [(206,Bqr K),(226,Bnx K),(227,Btr K),(234,Bqq K),(235,Bqo K)] [] 191 [38,39,40,44,45,105,106,150,151,169,170,175,176,177,181,182] [] [] [979,2003,3737,14951,29903] [.tmp 2]
def Ayp:E5:=⟨[(1,.p 101),(3,.o 1003 3 true),(4,.o 1004 3 true),(5,.o 1005 3 true),(29,.v 30),(30,.v 2),(31,.v 2),(121,.v 26),(122,.v 2),(123,.v 2)],[(101,.box [.v 2,.v 2,.v 2,.v 2,.v 2,.v 2,.v 22,.v 26,.v 26,.v 29,.v 30,.v 26])]⟩
def Azd:E5:=⟨[(1,.p 101),(3,.o 1003 3 true),(4,.o 1004 3 true),(5,.o 1005 3 true),(7,.p 107),(29,.v 30),(30,.v 2),(31,.v 2)],[(107,.box [.v 2,.v 2,.v 26,.v 26,.v 2]),(101,.box [.v 2,.v 2,.v 2,.v 2,.v 2,.v 2,.v 22,.v 26,.v 26,.v 29,.v 30,.v 26])]⟩
def Aze:E5:=⟨[(1,.p 101),(3,.o 1003 3 true),(4,.o 1004 3 true),(5,.o 1005 3 true),(7,.p 107),(29,.v 30),(30,.v 2),(31,.v 2)],[(107,.box [.v 2,.v 2,.v 26,.v 26,.v 2]),(101,.box [.v 2,.v 2,.v 2,.v 2,.v 2,.v 2,.v 22,.v 26,.v 26,.v 29,.v 30,.v 26])]⟩
def Azf:E5:=⟨[(1,.p 101),(3,.o 1003 3 true),(4,.o 1004 3 true),(5,.o 1005 3 true),(7,.p 107),(29,.v 30),(30,.v 2),(31,.v 2),(63,.v 26),(64,.v 2),(65,.v 2)],[(107,.box [.v 2,.v 2,.v 26,.v 26,.v 2]),(101,.box [.v 2,.v 2,.v 2,.v 2,.v 2,.v 2,.v 22,.v 26,.v 26,.v 29,.v 30,.v 26])]⟩
def A0g:E5:=⟨[(1,.p 101),(3,.o 1003 3 true),(4,.o 1004 3 true),(5,.o 1005 3 true),(7,.p 107),(29,.v 30),(30,.v 2),(31,.v 2)],[(107,.box [.v 2,.v 2,.v 26,.v 26,.v 2]),(101,.box [.v 2,.v 2,.v 2,.v 2,.v 2,.v 2,.v 22,.v 26,.v 26,.v 29,.v 30,.v 26])]⟩
def A2c:E5:=⟨[(1,.p 101),(3,.o 1003 3 true),(4,.o 1004 3 true),(5,.o 1005 3 true),(142,.v 26),(143,.v 2),(144,.v 2)],[(101,.box [.v 2,.v 2,.v 2,.v 2,.v 2,.v 2,.v 22,.v 26,.v 26,.v 29,.v 30,.v 26])]⟩
def A0h:E5:=⟨[(1,.p 101),(4,.o 1004 3 true),(5,.o 1005 3 true),(160,.v 29),(161,.v 2),(162,.v 2)],[(101,.box [.v 2,.v 2,.v 2,.v 2,.v 2,.v 2,.v 22,.v 26,.v 26,.v 29,.v 30,.v 26])]⟩
def Auq:E5:=⟨[(1,.p 101),(4,.o 1004 3 true),(5,.o 1005 3 true),(160,.v 29),(161,.v 2),(162,.v 2)],[(101,.box [.v 2,.v 2,.v 2,.v 2,.v 2,.v 2,.v 22,.v 26,.v 26,.v 29,.v 30,.v 26])]⟩
def Aur:E5:=⟨[(1,.p 101),(3,.o 1003 3 true),(4,.o 1004 3 true),(5,.o 1005 3 true),(142,.v 26),(143,.v 2),(144,.v 2)],[(101,.box [.v 2,.v 2,.v 2,.v 2,.v 2,.v 2,.v 22,.v 26,.v 26,.v 29,.v 30,.v 26])]⟩
def Aiq:E5:=⟨[(1,.p 101),(3,.o 1003 3 true),(4,.o 1004 3 true),(5,.o 1005 3 true),(29,.v 30),(30,.v 2),(31,.v 2)],[(101,.box [.v 2,.v 2,.v 2,.v 2,.v 2,.v 2,.v 22,.v 26,.v 26,.v 29,.v 30,.v 26])]⟩
def Ayq (K:Nat)(C58:CT Aiq s_127)(n:Nat)(q:PT Ayp):Rt s_127:=Ai0 K q.2.2.2.1 q.2.2.2.2.1 q.2.2.2.2.2.1 q.2.2.2.2.2.2.2.2.2.1 q.2.2.2.2.2.2.2.2.2.2.1 q.2.2.2.2.2.2.2.2.2.2.2.1 q.2.2.2.2.2.2.2.2.2.2.2.2.1 q.2.2.2.2.2.2.2.2.2.2.2.2.2.1 q.2.2.2.2.2.2.2.2.2.2.2.2.2.2.1 q.2.2.2.2.2.2.2.2.2.2.2.2.2.2.2.1 q.2.2.2.2.2.2.2.2.2.2.2.2.2.2.2.2.1 q.2.2.2.2.2.2.2.2.2.2.2.2.2.2.2.2.2.1 q.2.2.2.2.2.2.2.2.2.2.2.2.2.2.2.2.2.2.1 q.2.2.2.2.2.2.2.2.2.2.2.2.2.2.2.2.2.2.2.1 q.2.2.2.2.2.2.2.2.2.2.2.2.2.2.2.2.2.2.2.2.1 q.1 q.2.1 q.2.2.2.2.2.2.1 (fun v1 v2 v3 v4 v5 v6 v7 v8 v9 v10 v11 v12 v13 v14 v15 v16 v17 v18=>C58 (v1,v2,v3,v4,v5,v6,v7,v8,v9,v10,v11,v12,v13,v14,v15,v16,v17,v18,())) n q.2.2.1 q.2.2.2.2.2.2.2.1 q.2.2.2.2.2.2.2.2.1
def Azg (K:Nat)(C58:CT Aiq s_127)(q:PT Azd):Rt s_127:=Apa K q.2.2.1 q.2.2.2.1 q.2.2.2.2.1 q.2.2.2.2.2.1 q.2.2.2.2.2.2.2.2.2.2.2.1 q.2.2.2.2.2.2.2.2.2.2.2.2.1 q.2.2.2.2.2.2.2.2.2.2.2.2.2.1 q.2.2.2.2.2.2.2.2.2.2.2.2.2.2.1 q.2.2.2.2.2.2.2.2.2.2.2.2.2.2.2.1 q.2.2.2.2.2.2.2.2.2.2.2.2.2.2.2.2.1 q.2.2.2.2.2.2.2.2.2.2.2.2.2.2.2.2.2.1 q.2.2.2.2.2.2.2.2.2.2.2.2.2.2.2.2.2.2.1 q.2.2.2.2.2.2.2.2.2.2.2.2.2.2.2.2.2.2.2.1 q.2.2.2.2.2.2.2.2.2.2.2.2.2.2.2.2.2.2.2.2.1 q.2.2.2.2.2.2.2.2.2.2.2.2.2.2.2.2.2.2.2.2.2.1 q.2.2.2.2.2.2.2.2.2.2.2.2.2.2.2.2.2.2.2.2.2.2.1 q.2.2.2.2.2.2.2.1 q.1 q.2.1 (fun v1 v2 v3 v4 v5 v6 v7 v8 v9 v10 v11 v12 v13 v14 v15 v16 v17 v18=>C58 (v1,v2,v3,v4,v5,v6,v7,v8,v9,v10,v11,v12,v13,v14,v15,v16,v17,v18,()))
def Azh (K:Nat)(C58:CT Aiq s_127)(q:PT Aze):Rt s_127:=Apb K q.2.2.1 q.2.2.2.1 q.2.2.2.2.1 q.2.2.2.2.2.1 q.2.2.2.2.2.2.2.2.2.2.2.1 q.2.2.2.2.2.2.2.2.2.2.2.2.1 q.2.2.2.2.2.2.2.2.2.2.2.2.2.1 q.2.2.2.2.2.2.2.2.2.2.2.2.2.2.1 q.2.2.2.2.2.2.2.2.2.2.2.2.2.2.2.1 q.2.2.2.2.2.2.2.2.2.2.2.2.2.2.2.2.1 q.2.2.2.2.2.2.2.2.2.2.2.2.2.2.2.2.2.1 q.2.2.2.2.2.2.2.2.2.2.2.2.2.2.2.2.2.2.1 q.2.2.2.2.2.2.2.2.2.2.2.2.2.2.2.2.2.2.2.1 q.2.2.2.2.2.2.2.2.2.2.2.2.2.2.2.2.2.2.2.2.1 q.2.2.2.2.2.2.2.2.2.2.2.2.2.2.2.2.2.2.2.2.2.1 q.2.2.2.2.2.2.2.2.2.2.2.2.2.2.2.2.2.2.2.2.2.2.1 q.2.2.2.2.2.2.2.1 q.1 (fun v1 v2 v3 v4 v5 v6 v7 v8 v9 v10 v11 v12 v13 v14 v15 v16 v17 v18=>C58 (v1,v2,v3,v4,v5,v6,v7,v8,v9,v10,v11,v12,v13,v14,v15,v16,v17,v18,())) q.2.1
def Azi (K:Nat)(C58:CT Aiq s_127)(n:Nat)(q:PT Azf):Rt s_127:=Ai1 K q.2.1 q.2.2.1 q.2.2.2.1 q.2.2.2.2.1 q.2.2.2.2.2.1 q.2.2.2.2.2.2.2.2.2.2.2.2.2.2.1 q.2.2.2.2.2.2.2.2.2.2.2.2.2.2.2.1 q.2.2.2.2.2.2.2.2.2.2.2.2.2.2.2.2.1 q.2.2.2.2.2.2.2.2.2.2.2.2.2.2.2.2.2.1 q.2.2.2.2.2.2.2.2.2.2.2.2.2.2.2.2.2.2.1 q.2.2.2.2.2.2.2.2.2.2.2.2.2.2.2.2.2.2.2.1 q.2.2.2.2.2.2.2.2.2.2.2.2.2.2.2.2.2.2.2.2.1 q.2.2.2.2.2.2.2.2.2.2.2.2.2.2.2.2.2.2.2.2.2.1 q.2.2.2.2.2.2.2.2.2.2.2.2.2.2.2.2.2.2.2.2.2.2.1 q.2.2.2.2.2.2.2.2.2.2.2.2.2.2.2.2.2.2.2.2.2.2.2.1 q.2.2.2.2.2.2.2.2.2.2.2.2.2.2.2.2.2.2.2.2.2.2.2.2.1 q.2.2.2.2.2.2.2.2.2.2.2.2.2.2.2.2.2.2.2.2.2.2.2.2.2.1 q.2.2.2.2.2.2.2.2.2.1 q.2.2.2.2.2.2.2.2.2.2.1 q.2.2.2.2.2.2.1 (fun v1 v2 v3 v4 v5 v6 v7 v8 v9 v10 v11 v12 v13 v14 v15 v16 v17 v18=>C58 (v1,v2,v3,v4,v5,v6,v7,v8,v9,v10,v11,v12,v13,v14,v15,v16,v17,v18,())) n q.1 q.2.2.2.2.2.2.2.1 q.2.2.2.2.2.2.2.2.1 q.2.2.2.2.2.2.2.2.2.2.2.2.1
def A0i (K:Nat)(C58:CT Aiq s_127)(q:PT A0g):Rt s_127:=Apc K q.1 q.2.1 q.2.2.1 q.2.2.2.1 q.2.2.2.2.1 q.2.2.2.2.2.1 q.2.2.2.2.2.2.2.2.2.2.2.1 q.2.2.2.2.2.2.2.2.2.2.2.2.1 q.2.2.2.2.2.2.2.2.2.2.2.2.2.1 q.2.2.2.2.2.2.2.2.2.2.2.2.2.2.1 q.2.2.2.2.2.2.2.2.2.2.2.2.2.2.2.1 q.2.2.2.2.2.2.2.2.2.2.2.2.2.2.2.2.1 q.2.2.2.2.2.2.2.2.2.2.2.2.2.2.2.2.2.1 q.2.2.2.2.2.2.2.2.2.2.2.2.2.2.2.2.2.2.1 q.2.2.2.2.2.2.2.2.2.2.2.2.2.2.2.2.2.2.2.1 q.2.2.2.2.2.2.2.2.2.2.2.2.2.2.2.2.2.2.2.2.1 q.2.2.2.2.2.2.2.2.2.2.2.2.2.2.2.2.2.2.2.2.2.1 q.2.2.2.2.2.2.2.2.2.2.2.2.2.2.2.2.2.2.2.2.2.2.1 (fun v1 v2 v3 v4 v5 v6 v7 v8 v9 v10 v11 v12 v13 v14 v15 v16 v17 v18=>C58 (v1,v2,v3,v4,v5,v6,v7,v8,v9,v10,v11,v12,v13,v14,v15,v16,v17,v18,())) q.2.2.2.2.2.2.1 q.2.2.2.2.2.2.2.1 q.2.2.2.2.2.2.2.2.1 q.2.2.2.2.2.2.2.2.2.1 q.2.2.2.2.2.2.2.2.2.2.1
def A2d (K:Nat)(C122:CT Aur s_127)(q:PT A2c):Rt s_127:=Ap7 K q.2.2.2.2.1 q.2.2.2.2.2.1 q.2.2.2.2.2.2.2.2.2.2.2.2.2.1 (fun v37 v38 v39=>C122 (q.1,q.2.1,q.2.2.1,q.2.2.2.1,v37,v38,q.2.2.2.2.2.2.1,q.2.2.2.2.2.2.2.1,q.2.2.2.2.2.2.2.2.1,q.2.2.2.2.2.2.2.2.2.1,q.2.2.2.2.2.2.2.2.2.2.1,q.2.2.2.2.2.2.2.2.2.2.2.1,q.2.2.2.2.2.2.2.2.2.2.2.2.1,v39,q.2.2.2.2.2.2.2.2.2.2.2.2.2.2.1,q.2.2.2.2.2.2.2.2.2.2.2.2.2.2.2.1,q.2.2.2.2.2.2.2.2.2.2.2.2.2.2.2.2.1,q.2.2.2.2.2.2.2.2.2.2.2.2.2.2.2.2.2.1,()))
def A0j (K:Nat)(C250:CT Auq s_127)(q:PT A0h):Rt s_127:=Ak4 K q.2.2.2.1 q.2.2.2.2.1 q.2.2.2.2.2.2.2.2.2.2.2.2.2.2.1 (fun v40 v41 v42=>C250 (q.1,q.2.1,q.2.2.1,v40,v41,q.2.2.2.2.2.1,q.2.2.2.2.2.2.1,q.2.2.2.2.2.2.2.1,q.2.2.2.2.2.2.2.2.1,q.2.2.2.2.2.2.2.2.2.1,q.2.2.2.2.2.2.2.2.2.2.1,q.2.2.2.2.2.2.2.2.2.2.2.1,q.2.2.2.2.2.2.2.2.2.2.2.2.1,q.2.2.2.2.2.2.2.2.2.2.2.2.2.1,v42,q.2.2.2.2.2.2.2.2.2.2.2.2.2.2.2.1,q.2.2.2.2.2.2.2.2.2.2.2.2.2.2.2.2.1,()))
def Ayf (K:Nat)(n:Nat)(q:PT Auq):Rt s_127:=Aei K q.1 q.2.1 q.2.2.1 n q.2.2.2.1 q.2.2.2.2.1 q.2.2.2.2.2.2.2.2.2.2.2.2.2.2.1
def Ayg (K:Nat)(n:Nat)(q:PT Aur):Rt s_127:=Ag2 K q.1 q.2.1 q.2.2.1 q.2.2.2.1 q.2.2.2.2.2.2.2.2.2.2.2.2.2.2.2.1 n q.2.2.2.2.1 q.2.2.2.2.2.1 q.2.2.2.2.2.2.2.2.2.2.2.2.2.1
def Azj (K:Nat)(n:Nat)(q:PT Aiq):Rt s_127:=Aa1 K n q.1 q.2.1 q.2.2.1 q.2.2.2.1 q.2.2.2.2.1 q.2.2.2.2.2.1 q.2.2.2.2.2.2.1 q.2.2.2.2.2.2.2.1 q.2.2.2.2.2.2.2.2.1 q.2.2.2.2.2.2.2.2.2.1 q.2.2.2.2.2.2.2.2.2.2.1 q.2.2.2.2.2.2.2.2.2.2.2.1 q.2.2.2.2.2.2.2.2.2.2.2.2.1 q.2.2.2.2.2.2.2.2.2.2.2.2.2.1 q.2.2.2.2.2.2.2.2.2.2.2.2.2.2.1 q.2.2.2.2.2.2.2.2.2.2.2.2.2.2.2.1 q.2.2.2.2.2.2.2.2.2.2.2.2.2.2.2.2.1 q.2.2.2.2.2.2.2.2.2.2.2.2.2.2.2.2.2.1
theorem A88 (K:Nat)(C58:CT Aiq s_127):AtL (Ay2 K) (fun n=>[]) [(58,ar Aiq C58)] (bd Tryz.f156) 239230 (Ayq K C58):=fun n q=>by kernel_rfl
theorem A99 (K:Nat)(C58:CT Aiq s_127):AtJ (Ay2 K) [(239230,ar Ayp (Ayq K C58 K))] [(58,ar Aiq C58)] (bd Tryz.f156) 29903 (Azg K C58):=fun q=>by kernel_rfl
theorem Baa (K:Nat)(C58:CT Aiq s_127):AtJ (Ay2 K) [(29903,ar Azd (Azg K C58))] [(58,ar Aiq C58)] (bd Tryz.f156) 14951 (Azh K C58):=fun q=>by kernel_rfl
theorem Bab (K:Nat)(C58:CT Aiq s_127):AtL (Ay2 K) (fun n=>[(14951,ar Aze (Azh K C58))]) [(58,ar Aiq C58)] (bd Tryz.f156) 59802 (Azi K C58):=fun n q=>by kernel_rfl
theorem Bbt (K:Nat)(C58:CT Aiq s_127):AtJ (Ay2 K) [(59802,ar Azf (Azi K C58 K))] [(58,ar Aiq C58)] (bd Tryz.f156) 3737 (A0i K C58):=fun q=>by kernel_rfl
theorem Beg (K:Nat)(C122:CT Aur s_127):AtJ (Ay2 K) [] [(122,ar Aur C122)] (bd Tryz.f156) 979 (A2d K C122):=fun q=>by kernel_rfl
theorem Bbu (K:Nat)(C250:CT Auq s_127):AtJ (Ay2 K) [] [(250,ar Auq C250)] (bd Tryz.f156) 2003 (A0j K C250):=fun q=>by kernel_rfl
theorem Beh (K:Nat):AtL (Ay2 K) (fun n=>[(2003,ar A0h (A0j K (Ayf K n)))]) [] (bd Tryz.f156) 250 (Ayf K):=fun n q=>by kernel_rfl
theorem Bei (K:Nat):AtL (Ay2 K) (fun n=>[(979,ar A2c (A2d K (Ayg K n))),(250,ar Auq (Ayf K K))]) [] (bd Tryz.f156) 122 (Ayg K):=fun n q=>by kernel_rfl
theorem Biq (K:Nat):AtL (Ay2 K) (fun n=>[(3737,ar A0g (A0i K (Azj K n))),(122,ar Aur (Ayg K K))]) [] (bd Tryz.f156) 58 (Azj K):=fun n q=>by kernel_rfl
theorem Axd (K:Nat):XF [.tmp 2] s_127 191 [979,2003,3737,14951,29903] (Ay2 K):=xkF (gC (Bun K) (gC (Bg8 K) (gC (Bpi K) (gC (Bum K) (gC (Bul K) gN))))) oN
theorem A89 (K:Nat)(C58:CT Aiq s_127)(n:Nat):CF [.tmp 2] s_127 191 [979,2003,3737,14951,29903] (bd Tryz.f156) [(58,ar Aiq C58)] 239230 (ar Ayp (Ayq K C58 n)):=
 Aeg (Axd K) (A88 K C58) (fun n=>kN) n
theorem Bac (K:Nat)(C58:CT Aiq s_127):CF [.tmp 2] s_127 191 [979,2003,3737,14951,29903] (bd Tryz.f156) [(58,ar Aiq C58)] 29903 (ar Azd (Azg K C58)):=
 Apm (Axd K) (A99 K C58) (kC (A89 K C58 K) kN)
theorem Bad (K:Nat)(C58:CT Aiq s_127):CF [.tmp 2] s_127 191 [979,2003,3737,14951,29903] (bd Tryz.f156) [(58,ar Aiq C58)] 14951 (ar Aze (Azh K C58)):=
 Apm (Axd K) (Baa K C58) (kC (Bac K C58) kN)
theorem Bae (K:Nat)(C58:CT Aiq s_127)(n:Nat):CF [.tmp 2] s_127 191 [979,2003,3737,14951,29903] (bd Tryz.f156) [(58,ar Aiq C58)] 59802 (ar Azf (Azi K C58 n)):=
 Aeg (Axd K) (Bab K C58) (fun n=>(kC (Ao2 (by kernel_rfl) (Bad K C58)) kN)) n
theorem Bbv (K:Nat)(C58:CT Aiq s_127):CF [.tmp 2] s_127 191 [979,2003,3737,14951,29903] (bd Tryz.f156) [(58,ar Aiq C58)] 3737 (ar A0g (A0i K C58)):=
 Apm (Axd K) (Bbt K C58) (kC (Bae K C58 K) kN)
theorem Bej (K:Nat)(C122:CT Aur s_127):CF [.tmp 2] s_127 191 [979,2003,3737,14951,29903] (bd Tryz.f156) [(122,ar Aur C122)] 979 (ar A2c (A2d K C122)):=
 Apm (Axd K) (Beg K C122) kN
theorem Bbw (K:Nat)(C250:CT Auq s_127):CF [.tmp 2] s_127 191 [979,2003,3737,14951,29903] (bd Tryz.f156) [(250,ar Auq C250)] 2003 (ar A0h (A0j K C250)):=
 Apm (Axd K) (Bbu K C250) kN
theorem Bek (K:Nat)(n:Nat):CF [.tmp 2] s_127 191 [979,2003,3737,14951,29903] (bd Tryz.f156) [] 250 (ar Auq (Ayf K n)):=
 Aeg (Axd K) (Beh K) (fun n=>(kC (Bbw K (Ayf K n)) kN)) n
theorem Bel (K:Nat)(n:Nat):CF [.tmp 2] s_127 191 [979,2003,3737,14951,29903] (bd Tryz.f156) [] 122 (ar Aur (Ayg K n)):=
 Aeg (Axd K) (Bei K) (fun n=>(kC (Bej K (Ayg K n)) (kC (Ao2 (by kernel_rfl) (Bek K K)) kN))) n
theorem Bir (K:Nat)(n:Nat):CF [.tmp 2] s_127 191 [979,2003,3737,14951,29903] (bd Tryz.f156) [] 58 (ar Aiq (Azj K n)):=
 Aeg (Axd K) (Biq K) (fun n=>(kC (Bbv K (Azj K n)) (kC (Ao2 (by kernel_rfl) (Bel K K)) kN))) n
theorem Buo (K:Nat):OkF 156 (Bqs K):=
 Aa6 (x:=Ay2 K) (L:=[(58,ar Aiq (Azj K K))]) (c0:=bd Tryz.f156) (Axd K) (by intro a0;show @Eq _ _ _;kernel_rfl) (kC (Bir K K) kN) Tryz.func156 trivial
def Avf (K:Nat)(a0:Eb):Option (Bool):=((Av9 K a0.fC a0.fP).bind fun r1=>(bif r1 then(bif ((a0.fL.length:Int)==a0.fC.C0)then((Aq0 K a0).bind fun r2=>(bif r2 then((Awb K a0.fL).bind fun r3=>(bif r3 then((Aq1 K a0).bind fun r4=>(bif r4 then((Aqu K a0.Pr).bind fun r5=>some r5)else some false))else some false))else some false))else some false)else some false))
def Bqt:Sig:=⟨[.v 32],[.v 4],true⟩
def Bqu (K:Nat):Gb tyU:=⟨Bqt,Avf K⟩
def B1n (K:Nat):=xF Bqt [(153,B0d K),(154,Bqg K),(155,Bqm K),(156,Bqs K),(157,Bob K)] [] 35 [7,8,15,16,17,19,20,21,24,25,26,28,29,30] [] [] [] [.tmp 2]
theorem Bup (K:Nat):OkF 87 (Bqu K):=
 Aa6 (x:=B1n K) (L:=[]) (c0:=bd Tryz.f87) (xkF (gC (B0e K) (gC (Buh K) (gC (Buk K) (gC (Buo K) (gC (Bhb K) gN))))) oN) (by intro a0;show @Eq _ _ _;kernel_rfl) kN Tryz.func87 trivial
def Ape (K:Nat)(a0:List Int):Option ((List Int)):=(bif a0.isEmpty then Afd (some []) ((if(([]:List Int)++a0).length*1≤140737488355328∧(([]:List Int)++a0).length≤maxLen then some (([]:List Int)++a0)else none))else(if(([]:List Int)++a0).length*1≤140737488355328∧(([]:List Int)++a0).length≤maxLen then some (([]:List Int)++a0)else none))
def Bqv:Sig:=⟨[.v 22],[.n 22 true],true⟩
def Bda (K:Nat):Gb tyU:=⟨Bqv,Ape K⟩
def B1o (K:Nat):=xF Bqv [] [] 8 [] [] [] [] [.tmp 2]
theorem Bbx (K:Nat):OkF 188 (Bda K):=
 Aa6 (x:=B1o K) (L:=[]) (c0:=bd Tryz.f188) (xkF gN oN) (by intro a0;show @Eq _ _ _;kernel_rfl) kN Tryz.func188 trivial
def Aub (K:Nat)(a0:Dw):Option (Dw):=((Ape K a0.Fy).bind fun r1=>((Ag3 K a0.Hh).bind fun r2=>((Ag3 K a0.Fz).bind fun r3=>some (Dw.mk r1 r2 r3))))
def Bqw:Sig:=⟨[.v 28],[.n 28 true],true⟩
def Bqx (K:Nat):Gb tyU:=⟨Bqw,Aub K⟩
def B1p (K:Nat):=xF Bqw [(160,Bd7 K),(188,Bda K)] [] 13 [] [] [] [] [.cell 2 28]
theorem Buq (K:Nat):OkF 158 (Bqx K):=
 Aa6 (x:=B1p K) (L:=[]) (c0:=bd Tryz.f158) (xkF (gC (A98 K) (gC (Bbx K) gN)) oN) (by intro a0;show @Eq _ _ _;kernel_rfl) kN Tryz.func158 trivial
def Apl (K:Nat)(a0:List A9):Option ((List A9)):=(bif a0.isEmpty then Afd (some []) ((if(([]:List A9)++a0).length*24≤140737488355328∧(([]:List A9)++a0).length≤maxLen then some (([]:List A9)++a0)else none))else(if(([]:List A9)++a0).length*24≤140737488355328∧(([]:List A9)++a0).length≤maxLen then some (([]:List A9)++a0)else none))
def Bqy:Sig:=⟨[.v 41],[.n 41 true],true⟩
def Bqz (K:Nat):Gb tyU:=⟨Bqy,Apl K⟩
def B1q (K:Nat):=xF Bqy [] [] 8 [] [] [] [] [.tmp 2]
theorem Bur (K:Nat):OkF 273 (Bqz K):=
 Aa6 (x:=B1q K) (L:=[]) (c0:=bd Tryz.f273) (xkF gN oN) (by intro a0;show @Eq _ _ _;kernel_rfl) kN Tryz.func273 trivial
def Auc (K:Nat)(a0:Ba):Option (Ba):=((Ag3 K a0.Ae).bind fun r1=>((Apl K a0.Ea).bind fun r2=>((Ag3 K a0.Dg).bind fun r3=>some (Ba.mk a0.Hh a0.C2 a0.Ly a0.fUp a0.Gq a0.Bt a0.Gr a0.Gs r1 a0.Pq a0.Gt r2 r3))))
def Bq0:Sig:=⟨[.v 44],[.n 44 true],true⟩
def Bq1 (K:Nat):Gb tyU:=⟨Bq0,Auc K⟩
def B1r (K:Nat):=xF Bq0 [(160,Bd7 K),(273,Bqz K)] [] 16 [] [] [] [] [.cell 2 44]
theorem Bus (K:Nat):OkF 238 (Bq1 K):=
 Aa6 (x:=B1r K) (L:=[]) (c0:=bd Tryz.f238) (xkF (gC (A98 K) (gC (Bur K) gN)) oN) (by intro a0;show @Eq _ _ _;kernel_rfl) kN Tryz.func238 trivial
def Anj (K:Nat)(a0:List Ba):Nat->(List Ba)->Int->Int->Option ((List Ba))
 |0,_,_,_=>none
 |n1+1,v1,v2,v3=>(bif (decide (v3<v2))then(if(0:Int)≤v3∧v3<(a0.length:Int)then((Auc K (gt a0 v3)).bind fun r4=>(if(v1++[r4]).length*152≤140737488355328∧(v1++[r4]).length≤maxLen then(Anj K a0 n1 (v1++[r4]) v2 (Aoa .i64 v3 1))else none))else none)else some v1)
def Atd (K:Nat)(a0:List Ba):Option ((List Ba)):=(Anj K a0 K ([]:List Ba) (a0.length:Int) 0)
def s_133:Sig:=⟨[.v 29],[.n 29 true],true⟩
def Bq2 (K:Nat):Gb tyU:=⟨s_133,Atd K⟩
def Bis (K:Nat):=xF s_133 [(238,Bq1 K)] [] 20 [] [] [(16,[.put 3016])] [] [.tmp 2]
def A4t:E5:=⟨[(3,.o 1003 44 true),(7,.v 29),(8,.v 2),(9,.v 2)],[]⟩
def A4u (K:Nat)(n:Nat)(q:PT A4t):Rt s_133:=Anj K q.2.1 n q.1 q.2.2.1 q.2.2.2.1
theorem Biu (K:Nat):AtL (Bis K) (fun n=>[]) [] (bd Tryz.f159) 58 (A4u K):=fun n q=>by kernel_rfl
theorem Biv (K:Nat):XF [.tmp 2] s_133 20 [] (Bis K):=xkF (gC (Bus K) gN) oN
theorem Biw (K:Nat)(n:Nat):CF [.tmp 2] s_133 20 [] (bd Tryz.f159) [] 58 (ar A4t (A4u K n)):=
 Aeg (Biv K) (Biu K) (fun n=>kN) n
theorem But (K:Nat):OkF 159 (Bq2 K):=
 Aa6 (x:=Bis K) (L:=[(58,ar A4t (A4u K K))]) (c0:=bd Tryz.f159) (Biv K) (by intro a0;show @Eq _ _ _;kernel_rfl) (kC (Biw K K) kN) Tryz.func159 trivial
def Ate (K:Nat)(a0:Ax):Option (Ax):=((Ag3 K a0.Dg).bind fun r1=>((Ag3 K a0.Ae).bind fun r2=>some (Ax.mk a0.A5 a0.Bt r1 r2 a0.Gu)))
def Bq3:Sig:=⟨[.v 159],[.n 159 true],true⟩
def Bq4 (K:Nat):Gb tyU:=⟨Bq3,Ate K⟩
def B1s (K:Nat):=xF Bq3 [(160,Bd7 K)] [] 12 [] [] [] [] [.cell 2 159]
theorem Buu (K:Nat):OkF 161 (Bq4 K):=
 Aa6 (x:=B1s K) (L:=[]) (c0:=bd Tryz.f161) (xkF (gC (A98 K) gN) oN) (by intro a0;show @Eq _ _ _;kernel_rfl) kN Tryz.func161 trivial
def Ank (K:Nat):Nat->(List Ax)->Int->Int->Eb->Eb->Option (Eb)
 |0,_,_,_,_,_=>none
 |n1+1,v4,v5,v6,v7,v8=>(bif (decide (v6<v5))then(if(0:Int)≤v6∧v6<(v4.length:Int)then((Ate K (gt v4 v6)).bind fun r9=>(if(v7.fQ.length+1)*72≤140737488355328∧v7.fQ.length+1≤maxLen then(Ank K n1 v4 v5 (Aoa .i64 v6 1) (Eb.mk v7.fC v7.fP v7.fL ((v7.fQ++[(default:Ax)]).set (v7.fQ.length:Int).toNat r9) v7.Pr) v8)else none))else none)else some v7)
def Arn (K:Nat)(a0:Eb):Option (Eb):=((Aub K a0.fP).bind fun r1=>((Atd K a0.fL).bind fun r2=>((Ag3 K a0.Pr).bind fun r3=>(Ank K K a0.fQ (a0.fQ.length:Int) 0 (Eb.mk a0.fC r1 r2 [] r3) (Eb.mk (Er.mk 0 0 0 0 0 0) (Dw.mk [] [] []) [] [] [])))))
def s_135:Sig:=⟨[.v 32],[.n 32 true],true⟩
def Bix (K:Nat):Gb tyU:=⟨s_135,Arn K⟩
def Biy (K:Nat):=xF s_135 [(158,Bqx K),(159,Bq2 K),(160,Bd7 K),(161,Bq4 K)] [] 34 [] [(5,[.take 103 10 6658]),(7,[.take 103 6 6654,.take 103 7 6655,.take 103 8 6656,.take 103 9 6657,.take 103 10 6658,.take 103 11 6659])] [] [] [.cell 2 32]
def A4v:E5:=⟨[(2,.p 102),(3,.p 103),(19,.v 30),(20,.v 2),(21,.v 2)],[(103,.st 32 true),(102,.st 32 true)]⟩
def A4w (K:Nat)(n:Nat)(q:PT A4v):Rt s_135:=Ank K n q.1 q.2.1 q.2.2.1 q.2.2.2.1 q.2.2.2.2.1
theorem Biz (K:Nat):AtL (Biy K) (fun n=>[]) [] (bd Tryz.f90) 58 (A4w K):=fun n q=>by kernel_rfl
theorem Bi0 (K:Nat):XF [.cell 2 32] s_135 34 [] (Biy K):=xkF (gC (Buq K) (gC (But K) (gC (A98 K) (gC (Buu K) gN)))) oN
theorem Bi1 (K:Nat)(n:Nat):CF [.cell 2 32] s_135 34 [] (bd Tryz.f90) [] 58 (ar A4v (A4w K n)):=
 Aeg (Bi0 K) (Biz K) (fun n=>kN) n
theorem Bi2 (K:Nat):OkF 90 (Bix K):=
 Aa6 (x:=Biy K) (L:=[(58,ar A4v (A4w K K))]) (c0:=bd Tryz.f90) (Bi0 K) (by intro a0;show @Eq _ _ _;kernel_rfl) (kC (Bi1 K K) kN) Tryz.func90 trivial
def Axe (K:Nat)(a0:Eb)(a1:Int):Option (Eb×Fh):=((Arn K a0).bind fun r1=>some (r1,(Fh.mk a1 (Ct.mk 0 0) (Fg.mk (Ct.mk 0 0) 0 0) [] 0 0 0)))
def Bq5:Sig:=⟨[.v 32,.v 3],[.n 32 true,.n 69 true],true⟩
def Bq6 (K:Nat):Gb tyU:=⟨Bq5,Axe K⟩
def B1t (K:Nat):=xF Bq5 [(90,Bix K)] [] 10 [] [] [] [] [.cell 4 32,.cell 5 69]
theorem Buv (K:Nat):OkF 89 (Bq6 K):=
 Aa6 (x:=B1t K) (L:=[]) (c0:=bd Tryz.f89) (xkF (gC (Bi2 K) gN) oN) (by intro a0 a1;show @Eq _ _ _;kernel_rfl) kN Tryz.func89 trivial
def Asx (K:Nat)(a0:List Ba)(a1:Ct):Option (Int):=((An4 K a0 a1.A5).bind fun r1=>(bif r1 then(if(0:Int)≤a1.A5∧a1.A5<(a0.length:Int)then(bif (((gt a0 a1.A5).Hh) != 1)then some (-1)else(if(0:Int)≤a1.A5∧a1.A5<(a0.length:Int)then(bif (((gt a0 a1.A5).C2) != a1.C2)then some (-1)else some a1.A5)else none))else none)else some (-1)))
def Bq7:Sig:=⟨[.v 29,.v 34],[.v 3],true⟩
def Bi3 (K:Nat):Gb tyU:=⟨Bq7,Asx K⟩
def B1u (K:Nat):=xF Bq7 [(171,A4h K)] [] 32 [8,9,10,17,18,19] [] [] [] [.tmp 4]
theorem Bi4 (K:Nat):OkF 163 (Bi3 K):=
 Aa6 (x:=B1u K) (L:=[]) (c0:=bd Tryz.f163) (xkF (gC (A19 K) gN) oN) (by intro a0 a1;show @Eq _ _ _;kernel_rfl) kN Tryz.func163 trivial
def Ax8 (K:Nat)(a0:List Ba)(a1:Int):Option (Int):=((Aup K a0 a1).bind fun r1=>some (r1.length:Int))
def Bq8:Sig:=⟨[.v 29,.v 3],[.v 3],true⟩
def Bq9 (K:Nat):Gb tyU:=⟨Bq8,Ax8 K⟩
def B1v (K:Nat):=xF Bq8 [(232,Bc8 K)] [] 9 [] [] [] [] [.tmp 4]
theorem Buw (K:Nat):OkF 162 (Bq9 K):=
 Aa6 (x:=B1v K) (L:=[]) (c0:=bd Tryz.f162) (xkF (gC (Bbr K) gN) oN) (by intro a0 a1;show @Eq _ _ _;kernel_rfl) kN Tryz.func162 trivial
def Awd (K:Nat)(a0:Eb)(a1:Ct):Option (Int):=((Asx K a0.fL a1).bind fun r1=>((Ax8 K a0.fL r1).bind fun r2=>some r2))
def Bra:Sig:=⟨[.v 32,.v 34],[.v 3],true⟩
def Brb (K:Nat):Gb tyU:=⟨Bra,Awd K⟩
def B1w (K:Nat):=xF Bra [(162,Bq9 K),(163,Bi3 K)] [] 12 [] [] [] [] [.tmp 4]
theorem Bux (K:Nat):OkF 91 (Brb K):=
 Aa6 (x:=B1w K) (L:=[]) (c0:=bd Tryz.f91) (xkF (gC (Buw K) (gC (Bi4 K) gN)) oN) (by intro a0 a1;show @Eq _ _ _;kernel_rfl) kN Tryz.func91 trivial
def Ar7 (K:Nat)(a0:Ct):Option (Bool):=(bif (decide (a0.A5≥0))then some (decide (a0.C2≥1))else some false)
def Brc:Sig:=⟨[.v 34],[.v 4],true⟩
def Bi5 (K:Nat):Gb tyU:=⟨Brc,Ar7 K⟩
def B1x (K:Nat):=xF Brc [] [] 11 [5,6] [] [] [] [.tmp 2]
theorem Bi6 (K:Nat):OkF 164 (Bi5 K):=
 Aa6 (x:=B1x K) (L:=[]) (c0:=bd Tryz.f164) (xkF gN oN) (by intro a0;show @Eq _ _ _;kernel_rfl) kN Tryz.func164 trivial
def Aw7 (K:Nat)(a0:Fg):Option (Bool):=((Ar7 K a0.fH).bind fun r1=>(bif r1 then(bif (decide (a0.Ly≥0))then some (decide (a0.fNo≥0))else some false)else some false))
def Brd:Sig:=⟨[.v 36],[.v 4],true⟩
def Bre (K:Nat):Gb tyU:=⟨Brd,Aw7 K⟩
def B1y (K:Nat):=xF Brd [(164,Bi5 K)] [] 16 [5,6,9,10,11] [] [] [] [.tmp 2]
theorem Buy (K:Nat):OkF 183 (Bre K):=
 Aa6 (x:=B1y K) (L:=[]) (c0:=bd Tryz.f183) (xkF (gC (Bi6 K) gN) oN) (by intro a0;show @Eq _ _ _;kernel_rfl) kN Tryz.func183 trivial
def Avg (K:Nat)(v2:List Int)(v3:Int)(v4:Int)(C1:(List Int)->Int->Int->Option (Bool)):Option (Bool):=(C1 v2 v3 (Aoa .i64 v4 1))
def Aro (K:Nat)(a0:List Ba)(r1:(List Int)):Nat->(List Int)->Int->Int->Option (Bool)
 |0,_,_,_=>none
 |n1+1,v2,v3,v4=>(bif (decide (v4<v3))then(if(0:Int)≤v4∧v4<(v2.length:Int)then(if(0:Int)≤(gt v2 v4)∧(gt v2 v4)<(a0.length:Int)then(bif (((gt a0 (gt v2 v4)).Hh) != 1)then some false else(bif (decide ((Aoa .i64 v4 1)<(r1.length:Int)))then(if(0:Int)≤(gt v2 v4)∧(gt v2 v4)<(a0.length:Int)then(if(0:Int)≤(Aoa .i64 v4 1)∧(Aoa .i64 v4 1)<(r1.length:Int)then(if(0:Int)≤(gt r1 (Aoa .i64 v4 1))∧(gt r1 (Aoa .i64 v4 1))<(a0.length:Int)then(bif (((gt a0 (gt v2 v4)).Gq) != ((gt a0 (gt r1 (Aoa .i64 v4 1))).Ly))then some false else(Avg K v2 v3 v4 (Aro K a0 r1 n1)))else none)else none)else none)else(Avg K v2 v3 v4 (Aro K a0 r1 n1))))else none)else none)else(bif (decide ((r1.length:Int)>0))then(if(0:Int)≤(Aob .i64 (r1.length:Int) 1)∧(Aob .i64 (r1.length:Int) 1)<(r1.length:Int)then(if(0:Int)≤(gt r1 (Aob .i64 (r1.length:Int) 1))∧(gt r1 (Aob .i64 (r1.length:Int) 1))<(a0.length:Int)then some (((gt a0 (gt r1 (Aob .i64 (r1.length:Int) 1))).fUp)==0)else none)else none)else some false))
def Aw8 (K:Nat)(a0:List Ba)(a1:Int):Option (Bool):=((Aup K a0 a1).bind fun r1=>(Aro K a0 r1 K r1 (r1.length:Int) 0))
def s_142:Sig:=⟨[.v 29,.v 3],[.v 4],true⟩
def Brf (K:Nat):Gb tyU:=⟨s_142,Aw8 K⟩
def Bdb (K:Nat):=xF s_142 [(232,Bc8 K)] [] 63 [28,29,49,50] [] [] [467] [.tmp 4]
def A2e:E5:=⟨[(0,.v 29),(5,.v 26),(11,.v 26),(12,.v 2),(13,.v 2)],[]⟩
def Awo:E5:=⟨[(0,.v 29),(5,.v 26),(11,.v 26),(12,.v 2),(13,.v 2)],[]⟩
def A2f (K:Nat)(C58:CT Awo s_142)(q:PT A2e):Rt s_142:=Avg K q.2.2.1 q.2.2.2.1 q.2.2.2.2.1 (fun v2 v3 v4=>C58 (q.1,q.2.1,v2,v3,v4,()))
def Azk (K:Nat)(n:Nat)(q:PT Awo):Rt s_142:=Aro K q.1 q.2.1 n q.2.2.1 q.2.2.2.1 q.2.2.2.2.1
theorem Bem (K:Nat)(C58:CT Awo s_142):AtJ (Bdb K) [] [(58,ar Awo C58)] (bd Tryz.f165) 467 (A2f K C58):=fun q=>by kernel_rfl
theorem Bi7 (K:Nat):AtL (Bdb K) (fun n=>[(467,ar A2e (A2f K (Azk K n)))]) [] (bd Tryz.f165) 58 (Azk K):=fun n q=>by kernel_rfl
theorem Bby (K:Nat):XF [.tmp 4] s_142 63 [467] (Bdb K):=xkF (gC (Bbr K) gN) oN
theorem Ben (K:Nat)(C58:CT Awo s_142):CF [.tmp 4] s_142 63 [467] (bd Tryz.f165) [(58,ar Awo C58)] 467 (ar A2e (A2f K C58)):=
 Apm (Bby K) (Bem K C58) kN
theorem Bi8 (K:Nat)(n:Nat):CF [.tmp 4] s_142 63 [467] (bd Tryz.f165) [] 58 (ar Awo (Azk K n)):=
 Aeg (Bby K) (Bi7 K) (fun n=>(kC (Ben K (Azk K n)) kN)) n
theorem Buz (K:Nat):OkF 165 (Brf K):=
 Aa6 (x:=Bdb K) (L:=[(58,ar Awo (Azk K K))]) (c0:=bd Tryz.f165) (Bby K) (by intro a0 a1;show @Eq _ _ _;kernel_rfl) (kC (Bi8 K K) kN) Tryz.func165 trivial
def Aud (K:Nat)(a0:Eb)(a1:Ct):Option (Int×Int):=((Ar7 K a1).bind fun r1=>(bif (!r1)then some ((-1),1)else((Asx K a0.fL a1).bind fun r2=>(bif (decide (r2<0))then some ((-1),2)else((Aw8 K a0.fL r2).bind fun r3=>(bif (!r3)then some ((-1),2)else some (r2,0)))))))
def Brg:Sig:=⟨[.v 32,.v 34],[.v 3,.v 3],true⟩
def Brh (K:Nat):Gb tyU:=⟨Brg,Aud K⟩
def B1z (K:Nat):=xF Brg [(163,Bi3 K),(164,Bi5 K),(165,Brf K)] [] 24 [15,16] [] [] [] [.tmp 4,.tmp 5]
theorem Bu0 (K:Nat):OkF 92 (Brh K):=
 Aa6 (x:=B1z K) (L:=[]) (c0:=bd Tryz.f92) (xkF (gC (Bi4 K) (gC (Bi6 K) (gC (Buz K) gN))) oN) (by intro a0 a1;show @Eq _ _ _;kernel_rfl) kN Tryz.func92 trivial
def Avh (K:Nat)(a0:Ba)(a1:Fg):Option (A9×Bool):=(bif (a0.Hh != 1)then some ((A9.mk 0 0 0),false)else(bif (a0.Ly != a1.Ly)then some ((A9.mk 0 0 0),false)else((Abk K a1.fNo 0 (Aob .i64 (a0.Ea.length:Int) 1)).bind fun r1=>(bif (!r1)then some ((A9.mk 0 0 0),false)else(if(0:Int)≤a1.fNo∧a1.fNo<(a0.Ea.length:Int)then some ((gt a0.Ea a1.fNo),true)else none)))))
def Bri:Sig:=⟨[.v 44,.v 36],[.v 89,.v 4],true⟩
def Brj (K:Nat):Gb tyU:=⟨Bri,Avh K⟩
def B10 (K:Nat):=xF Bri [(88,A32 K)] [] 33 [8,9,14,15,16] [] [] [] [.cell 4 89,.tmp 5]
theorem Bu1 (K:Nat):OkF 184 (Brj K):=
 Aa6 (x:=B10 K) (L:=[]) (c0:=bd Tryz.f184) (xkF (gC (Az4 K) gN) oN) (by intro a0 a1;show @Eq _ _ _;kernel_rfl) kN Tryz.func184 trivial
def Atf (K:Nat)(a0:Eb)(a1:Fg):Option (Int×A9×Int):=((Aw7 K a1).bind fun r1=>(bif (!r1)then some ((-1),(A9.mk 0 0 0),1)else((Aud K a0 a1.fH).bind fun r2=>(bif (r2.2 != 0)then some ((-1),(A9.mk 0 0 0),r2.2)else(if(0:Int)≤r2.1∧r2.1<(a0.fL.length:Int)then((Avh K (gt a0.fL r2.1) a1).bind fun r3=>(bif (!r3.2)then some ((-1),(A9.mk 0 0 0),2)else some (r2.1,r3.1,0)))else none)))))
def Brk:Sig:=⟨[.v 32,.v 36],[.v 3,.v 89,.v 3],true⟩
def Brl (K:Nat):Gb tyU:=⟨Brk,Atf K⟩
def B11 (K:Nat):=xF Brk [(92,Brh K),(183,Bre K),(184,Brj K)] [] 41 [] [] [] [] [.tmp 4,.cell 5 89,.tmp 6]
theorem Bu2 (K:Nat):OkF 108 (Brl K):=
 Aa6 (x:=B11 K) (L:=[]) (c0:=bd Tryz.f108) (xkF (gC (Bu0 K) (gC (Buy K) (gC (Bu1 K) gN))) oN) (by intro a0 a1;show @Eq _ _ _;kernel_rfl) kN Tryz.func108 trivial
def Axf (K:Nat)(a0:Int)(a1:Int)(a2:Int):Option (Bool):=(bif (decide (a2≥0))then(bif (decide (a2≤a0))then((Abk K a1 0 (Aob .i64 a0 a2)).bind fun r1=>some r1)else some false)else some false)
def Brm:Sig:=⟨[.v 3,.v 3,.v 3],[.v 4],true⟩
def Bi9 (K:Nat):Gb tyU:=⟨Brm,Axf K⟩
def B12 (K:Nat):=xF Brm [(88,A32 K)] [] 21 [8,9,12,13,14] [] [] [] [.tmp 6]
theorem Bja (K:Nat):OkF 246 (Bi9 K):=
 Aa6 (x:=B12 K) (L:=[]) (c0:=bd Tryz.f246) (xkF (gC (Az4 K) gN) oN) (by intro a0 a1 a2;show @Eq _ _ _;kernel_rfl) kN Tryz.func246 trivial
def Avi (K:Nat)(a0:List Int)(a1:A9)(a2:Int)(a3:Int):Option (Int×Bool):=(bif (decide (a2<0))then some (0,false)else(bif (decide (a3<0))then some (0,false)else(bif (decide (a3>a1.Vu))then some (0,false)else(bif (decide (a2>(Aob .i64 a1.Vu a3)))then some (0,false)else(bif (decide ((Aoa .i64 a1.fAt a2)<0))then some (0,false)else((Axf K (a0.length:Int) (Aoa .i64 a1.fAt a2) a3).bind fun r1=>some ((Aoa .i64 a1.fAt a2),r1)))))))
def Brn:Sig:=⟨[.v 22,.v 89,.v 3,.v 3],[.v 3,.v 4],true⟩
def Bro (K:Nat):Gb tyU:=⟨Brn,Avi K⟩
def B13 (K:Nat):=xF Brn [(246,Bi9 K)] [] 43 [12,13,15,16,17,21,22,23] [] [] [] [.tmp 8,.tmp 9]
theorem Bu3 (K:Nat):OkF 185 (Bro K):=
 Aa6 (x:=B13 K) (L:=[]) (c0:=bd Tryz.f185) (xkF (gC (Bja K) gN) oN) (by intro a0 a1 a2 a3;show @Eq _ _ _;kernel_rfl) kN Tryz.func185 trivial
def Aw9 (K:Nat)(a0:List Int)(a1:Int)(a2:List Int):Option ((List Int)×Bool):=((Ape K a0).bind fun r1=>((Axf K (a0.length:Int) a1 (a2.length:Int)).bind fun r2=>(bif (!r2)then some (r1,false)else(if(0:Int)≤a1∧a1≤(r1.length:Int)∧(r1.length:Int)≤(r1.length:Int)then some ((r1.take a1.toNat++a2.take (Nat.min a2.length (((r1.length:Int) - a1).toNat))++r1.drop (a1.toNat+(Nat.min a2.length (((r1.length:Int) - a1).toNat)))),true)else none))))
def Brp:Sig:=⟨[.v 22,.v 3,.v 22],[.n 22 true,.v 4],true⟩
def Brq (K:Nat):Gb tyU:=⟨Brp,Aw9 K⟩
def B14 (K:Nat):=xF Brp [(188,Bda K),(246,Bi9 K)] [] 25 [] [] [] [] [.tmp 6,.tmp 7]
theorem Bu4 (K:Nat):OkF 189 (Brq K):=
 Aa6 (x:=B14 K) (L:=[]) (c0:=bd Tryz.f189) (xkF (gC (Bbx K) (gC (Bja K) gN)) oN) (by intro a0 a1 a2;show @Eq _ _ _;kernel_rfl) kN Tryz.func189 trivial
def Asj (K:Nat)(a0:List Int)(a1:A9)(a2:Int)(a3:List Int):Option ((List Int)×Bool):=((Avi K a0 a1 a2 (a3.length:Int)).bind fun r1=>(bif (!r1.2)then((Ape K a0).bind fun r2=>some (r2,false))else((Aw9 K a0 r1.1 a3).bind fun r3=>some (r3.1,r3.2))))
def Brr:Sig:=⟨[.v 22,.v 89,.v 3,.v 22],[.n 22 true,.v 4],true⟩
def Brs (K:Nat):Gb tyU:=⟨Brr,Asj K⟩
def B15 (K:Nat):=xF Brr [(185,Bro K),(188,Bda K),(189,Brq K)] [] 31 [] [] [] [] [.tmp 8,.tmp 9]
theorem Bu5 (K:Nat):OkF 111 (Brs K):=
 Aa6 (x:=B15 K) (L:=[]) (c0:=bd Tryz.f111) (xkF (gC (Bu3 K) (gC (Bbx K) (gC (Bu4 K) gN))) oN) (by intro a0 a1 a2 a3;show @Eq _ _ _;kernel_rfl) kN Tryz.func111 trivial
def Asy (K:Nat)(v7:Fh)(v8:Eb)(v9:Fh)(v10:Eb):Option (Eb×Fh):=some (v8,v7)
def Avj (K:Nat)(a0:Eb)(a1:Fg)(a2:Int)(a3:List Int):Option (Eb×Fh):=((Avf K a0).bind fun r1=>(bif (!r1)then((Axe K a0 1).bind fun r2=>some (r2.1,r2.2))else((Arn K a0).bind fun r3=>((Awd K a0 a1.fH).bind fun r4=>((Atf K a0 a1).bind fun r5=>(bif (r5.2.2==0)then((Asj K a0.fP.Fy r5.2.1 a2 a3).bind fun r6=>(bif (!r6.2)then(Asy K (Fh.mk 7 (Ct.mk 0 0) (Fg.mk (Ct.mk 0 0) 0 0) [] r4 0 0) (Eb.mk r3.fC (Dw.mk r6.1 r3.fP.Hh r3.fP.Fz) r3.fL r3.fQ r3.Pr) (Fh.mk 0 (Ct.mk 0 0) (Fg.mk (Ct.mk 0 0) 0 0) [] 0 0 0) (Eb.mk (Er.mk 0 0 0 0 0 0) (Dw.mk [] [] []) [] [] []))else(Asy K (Fh.mk r5.2.2 (Ct.mk 0 0) (Fg.mk (Ct.mk 0 0) 0 0) [] r4 0 0) (Eb.mk r3.fC (Dw.mk r6.1 r3.fP.Hh r3.fP.Fz) r3.fL r3.fQ r3.Pr) (Fh.mk 0 (Ct.mk 0 0) (Fg.mk (Ct.mk 0 0) 0 0) [] 0 0 0) (Eb.mk (Er.mk 0 0 0 0 0 0) (Dw.mk [] [] []) [] [] []))))else(Asy K (Fh.mk r5.2.2 (Ct.mk 0 0) (Fg.mk (Ct.mk 0 0) 0 0) [] r4 0 0) r3 (Fh.mk 0 (Ct.mk 0 0) (Fg.mk (Ct.mk 0 0) 0 0) [] 0 0 0) (Eb.mk (Er.mk 0 0 0 0 0 0) (Dw.mk [] [] []) [] [] []))))))))
def s_150:Sig:=⟨[.v 32,.v 36,.v 3,.v 22],[.n 32 true,.n 69 true],true⟩
def Brt (K:Nat):Gb tyU:=⟨s_150,Avj K⟩
def Bjb (K:Nat):=xF s_150 [(87,Bqu K),(89,Bq6 K),(90,Bix K),(91,Brb K),(108,Brl K),(111,Brs K)] [] 60 [] [(11,[.take 110 6 6766,.take 110 7 6767,.take 110 8 6768,.take 110 9 6769,.take 110 10 6770,.take 110 11 6771,.take 111 7 6783])] [] [63] [.cell 8 32,.cell 9 69]
def A4x:E5:=⟨[(8,.p 108),(9,.p 109),(10,.p 110),(11,.p 111)],[(111,.st 69 true),(110,.st 32 true),(109,.st 69 true),(108,.st 32 true)]⟩
def A4y (K:Nat)(q:PT A4x):Rt s_150:=Asy K q.1 q.2.1 q.2.2.1 q.2.2.2.1
theorem Bjc (K:Nat):AtJ (Bjb K) [] [] (bd Tryz.f47) 63 (A4y K):=fun q=>by kernel_rfl
theorem Bjd (K:Nat):XF [.cell 8 32,.cell 9 69] s_150 60 [63] (Bjb K):=xkF (gC (Bup K) (gC (Buv K) (gC (Bi2 K) (gC (Bux K) (gC (Bu2 K) (gC (Bu5 K) gN)))))) oN
theorem Bje (K:Nat):CF [.cell 8 32,.cell 9 69] s_150 60 [63] (bd Tryz.f47) [] 63 (ar A4x (A4y K)):=
 Apm (Bjd K) (Bjc K) kN
theorem Bu6 (K:Nat):OkF 47 (Brt K):=
 Aa6 (x:=Bjb K) (L:=[(63,ar A4x (A4y K))]) (c0:=bd Tryz.f47) (Bjd K) (by intro a0 a1 a2 a3;show @Eq _ _ _;kernel_rfl) (kC (Bje K) kN) Tryz.func47 trivial
def Ax9 (K:Nat)(a0:Er)(a1:Er):Option (Bool):=(bif (a0.Ae != a1.Ae)then some false else(bif (a0.Eg != a1.Eg)then some false else(bif (a0.C0 != a1.C0)then some false else(bif (a0.E9 != a1.E9)then some false else(bif (a0.C1 != a1.C1)then some false else(bif (a0.Eh != a1.Eh)then some false else some true))))))
def Bru:Sig:=⟨[.v 25,.v 25],[.v 4],true⟩
def Brv (K:Nat):Gb tyU:=⟨Bru,Ax9 K⟩
def B16 (K:Nat):=xF Bru [] [] 35 [] [] [] [] [.tmp 4]
theorem Bu7 (K:Nat):OkF 71 (Brv K):=
 Aa6 (x:=B16 K) (L:=[]) (c0:=bd Tryz.f71) (xkF gN oN) (by intro a0 a1;show @Eq _ _ _;kernel_rfl) kN Tryz.func71 trivial
def Atg (K:Nat)(a0:List Int)(a1:List Int):Nat->Int->Option (Bool)
 |0,_=>none
 |n1+1,v1=>(bif (decide (v1<(a0.length:Int)))then(if(0:Int)≤v1∧v1<(a0.length:Int)then(if(0:Int)≤v1∧v1<(a1.length:Int)then(bif ((gt a0 v1) != (gt a1 v1))then some false else(Atg K a0 a1 n1 (Aoa .i64 v1 1)))else none)else none)else some true)
def Arp (K:Nat)(a0:List Int)(a1:List Int):Option (Bool):=(bif ((a0.length:Int) != (a1.length:Int))then some false else(Atg K a0 a1 K 0))
def s_152:Sig:=⟨[.v 22,.v 22],[.v 4],true⟩
def Bdc (K:Nat):Gb tyU:=⟨s_152,Arp K⟩
def Bjf (K:Nat):=xF s_152 [] [] 26 [] [] [] [] [.tmp 4]
def A4z:E5:=⟨[(0,.v 22),(1,.v 22),(5,.v 2)],[]⟩
def A40 (K:Nat)(n:Nat)(q:PT A4z):Rt s_152:=Atg K q.1 q.2.1 n q.2.2.1
theorem Bjg (K:Nat):AtL (Bjf K) (fun n=>[]) [] (bd Tryz.f27) 58 (A40 K):=fun n q=>by kernel_rfl
theorem Bjh (K:Nat):XF [.tmp 4] s_152 26 [] (Bjf K):=xkF gN oN
theorem Bji (K:Nat)(n:Nat):CF [.tmp 4] s_152 26 [] (bd Tryz.f27) [] 58 (ar A4z (A40 K n)):=
 Aeg (Bjh K) (Bjg K) (fun n=>kN) n
theorem Bbz (K:Nat):OkF 27 (Bdc K):=
 Aa6 (x:=Bjf K) (L:=[(58,ar A4z (A40 K K))]) (c0:=bd Tryz.f27) (Bjh K) (by intro a0 a1;show @Eq _ _ _;kernel_rfl) (kC (Bji K K) kN) Tryz.func27 trivial
def Aue (K:Nat)(a0:List Int)(a1:List Int):Nat->Int->Option (Bool)
 |0,_=>none
 |n1+1,v1=>(bif (decide (v1<(a0.length:Int)))then(if(0:Int)≤v1∧v1<(a0.length:Int)then(if(0:Int)≤v1∧v1<(a1.length:Int)then(bif ((gt a0 v1) != (gt a1 v1))then some false else(Aue K a0 a1 n1 (Aoa .i64 v1 1)))else none)else none)else some true)
def An6 (K:Nat)(a0:List Int)(a1:List Int):Option (Bool):=(bif ((a0.length:Int) != (a1.length:Int))then some false else(Aue K a0 a1 K 0))
def s_153:Sig:=⟨[.v 26,.v 26],[.v 4],true⟩
def Baf (K:Nat):Gb tyU:=⟨s_153,An6 K⟩
def Bjj (K:Nat):=xF s_153 [] [] 26 [] [] [] [] [.tmp 4]
def A41:E5:=⟨[(0,.v 26),(1,.v 26),(5,.v 2)],[]⟩
def A42 (K:Nat)(n:Nat)(q:PT A41):Rt s_153:=Aue K q.1 q.2.1 n q.2.2.1
theorem Bjk (K:Nat):AtL (Bjj K) (fun n=>[]) [] (bd Tryz.f75) 58 (A42 K):=fun n q=>by kernel_rfl
theorem Bjl (K:Nat):XF [.tmp 4] s_153 26 [] (Bjj K):=xkF gN oN
theorem Bjm (K:Nat)(n:Nat):CF [.tmp 4] s_153 26 [] (bd Tryz.f75) [] 58 (ar A41 (A42 K n)):=
 Aeg (Bjl K) (Bjk K) (fun n=>kN) n
theorem A9a (K:Nat):OkF 75 (Baf K):=
 Aa6 (x:=Bjj K) (L:=[(58,ar A41 (A42 K K))]) (c0:=bd Tryz.f75) (Bjl K) (by intro a0 a1;show @Eq _ _ _;kernel_rfl) (kC (Bjm K K) kN) Tryz.func75 trivial
def Aya (K:Nat)(a0:Dw)(a1:Dw):Option (Bool):=((Arp K a0.Fy a1.Fy).bind fun r1=>(bif (!r1)then some false else((An6 K a0.Hh a1.Hh).bind fun r2=>(bif (!r2)then some false else((An6 K a0.Fz a1.Fz).bind fun r3=>(bif (!r3)then some false else some true))))))
def Brw:Sig:=⟨[.v 28,.v 28],[.v 4],true⟩
def Brx (K:Nat):Gb tyU:=⟨Brw,Aya K⟩
def B17 (K:Nat):=xF Brw [(27,Bdc K),(75,Baf K)] [] 23 [] [] [] [] [.tmp 4]
theorem Bu8 (K:Nat):OkF 72 (Brx K):=
 Aa6 (x:=B17 K) (L:=[]) (c0:=bd Tryz.f72) (xkF (gC (Bbz K) (gC (A9a K) gN)) oN) (by intro a0 a1;show @Eq _ _ _;kernel_rfl) kN Tryz.func72 trivial
def Asz (K:Nat)(a0:A9)(a1:A9):Option (Bool):=(bif (a0.fAt != a1.fAt)then some false else(bif (a0.Vu != a1.Vu)then some false else(bif (a0.Vv != a1.Vv)then some false else some true)))
def Bry:Sig:=⟨[.v 89,.v 89],[.v 4],true⟩
def Brz (K:Nat):Gb tyU:=⟨Bry,Asz K⟩
def B18 (K:Nat):=xF Bry [] [] 20 [] [] [] [] [.tmp 4]
theorem Bu9 (K:Nat):OkF 263 (Brz K):=
 Aa6 (x:=B18 K) (L:=[]) (c0:=bd Tryz.f263) (xkF gN oN) (by intro a0 a1;show @Eq _ _ _;kernel_rfl) kN Tryz.func263 trivial
def Aq2 (K:Nat)(a0:List A9)(a1:List A9):Nat->Int->Option (Bool)
 |0,_=>none
 |n1+1,v1=>(bif (decide (v1<(a0.length:Int)))then(if(0:Int)≤v1∧v1<(a0.length:Int)then(if(0:Int)≤v1∧v1<(a1.length:Int)then((Asz K (gt a0 v1) (gt a1 v1)).bind fun r2=>(bif (!r2)then some false else(Aq2 K a0 a1 n1 (Aoa .i64 v1 1))))else none)else none)else some true)
def Auf (K:Nat)(a0:List A9)(a1:List A9):Option (Bool):=(bif ((a0.length:Int) != (a1.length:Int))then some false else(Aq2 K a0 a1 K 0))
def s_156:Sig:=⟨[.v 41,.v 41],[.v 4],true⟩
def Br0 (K:Nat):Gb tyU:=⟨s_156,Auf K⟩
def Bjn (K:Nat):=xF s_156 [(263,Brz K)] [] 27 [] [] [] [] [.tmp 4]
def A43:E5:=⟨[(0,.v 41),(1,.v 41),(5,.v 2)],[]⟩
def A44 (K:Nat)(n:Nat)(q:PT A43):Rt s_156:=Aq2 K q.1 q.2.1 n q.2.2.1
theorem Bjo (K:Nat):AtL (Bjn K) (fun n=>[]) [] (bd Tryz.f208) 58 (A44 K):=fun n q=>by kernel_rfl
theorem Bjp (K:Nat):XF [.tmp 4] s_156 27 [] (Bjn K):=xkF (gC (Bu9 K) gN) oN
theorem Bjq (K:Nat)(n:Nat):CF [.tmp 4] s_156 27 [] (bd Tryz.f208) [] 58 (ar A43 (A44 K n)):=
 Aeg (Bjp K) (Bjo K) (fun n=>kN) n
theorem Bva (K:Nat):OkF 208 (Br0 K):=
 Aa6 (x:=Bjn K) (L:=[(58,ar A43 (A44 K K))]) (c0:=bd Tryz.f208) (Bjp K) (by intro a0 a1;show @Eq _ _ _;kernel_rfl) (kC (Bjq K K) kN) Tryz.func208 trivial
def Ats (K:Nat)(a0:Ba)(a1:Ba):Option (Bool):=(bif (a0.Hh != a1.Hh)then some false else(bif (a0.C2 != a1.C2)then some false else(bif (a0.Ly != a1.Ly)then some false else(bif (a0.fUp != a1.fUp)then some false else(bif (a0.Gq != a1.Gq)then some false else(bif (a0.Bt != a1.Bt)then some false else(bif (a0.Gr != a1.Gr)then some false else(bif (a0.Gs != a1.Gs)then some false else((An6 K a0.Ae a1.Ae).bind fun r1=>(bif (!r1)then some false else(bif (a0.Pq != a1.Pq)then some false else(bif (a0.Gt != a1.Gt)then some false else((Auf K a0.Ea a1.Ea).bind fun r2=>(bif (!r2)then some false else((An6 K a0.Dg a1.Dg).bind fun r3=>(bif (!r3)then some false else some true))))))))))))))))
def Br1:Sig:=⟨[.v 44,.v 44],[.v 4],true⟩
def Br2 (K:Nat):Gb tyU:=⟨Br1,Ats K⟩
def B19 (K:Nat):=xF Br1 [(75,Baf K),(208,Br0 K)] [] 73 [] [] [] [] [.tmp 4]
theorem Bvb (K:Nat):OkF 134 (Br2 K):=
 Aa6 (x:=B19 K) (L:=[]) (c0:=bd Tryz.f134) (xkF (gC (A9a K) (gC (Bva K) gN)) oN) (by intro a0 a1;show @Eq _ _ _;kernel_rfl) kN Tryz.func134 trivial
def Arq (K:Nat)(a0:List Ba)(a1:List Ba):Nat->Int->Option (Bool)
 |0,_=>none
 |n1+1,v1=>(bif (decide (v1<(a0.length:Int)))then(if(0:Int)≤v1∧v1<(a0.length:Int)then(if(0:Int)≤v1∧v1<(a1.length:Int)then((Ats K (gt a0 v1) (gt a1 v1)).bind fun r2=>(bif (!r2)then some false else(Arq K a0 a1 n1 (Aoa .i64 v1 1))))else none)else none)else some true)
def Avk (K:Nat)(a0:List Ba)(a1:List Ba):Option (Bool):=(bif ((a0.length:Int) != (a1.length:Int))then some false else(Arq K a0 a1 K 0))
def s_158:Sig:=⟨[.v 29,.v 29],[.v 4],true⟩
def Br3 (K:Nat):Gb tyU:=⟨s_158,Avk K⟩
def Bjr (K:Nat):=xF s_158 [(134,Br2 K)] [] 27 [] [] [] [] [.tmp 4]
def A45:E5:=⟨[(0,.v 29),(1,.v 29),(5,.v 2)],[]⟩
def A46 (K:Nat)(n:Nat)(q:PT A45):Rt s_158:=Arq K q.1 q.2.1 n q.2.2.1
theorem Bjs (K:Nat):AtL (Bjr K) (fun n=>[]) [] (bd Tryz.f73) 58 (A46 K):=fun n q=>by kernel_rfl
theorem Bjt (K:Nat):XF [.tmp 4] s_158 27 [] (Bjr K):=xkF (gC (Bvb K) gN) oN
theorem Bju (K:Nat)(n:Nat):CF [.tmp 4] s_158 27 [] (bd Tryz.f73) [] 58 (ar A45 (A46 K n)):=
 Aeg (Bjt K) (Bjs K) (fun n=>kN) n
theorem Bvc (K:Nat):OkF 73 (Br3 K):=
 Aa6 (x:=Bjr K) (L:=[(58,ar A45 (A46 K K))]) (c0:=bd Tryz.f73) (Bjt K) (by intro a0 a1;show @Eq _ _ _;kernel_rfl) (kC (Bju K K) kN) Tryz.func73 trivial
def As0 (K:Nat)(a0:Ax)(a1:Ax):Option (Bool):=(bif (a0.A5 != a1.A5)then some false else(bif (a0.Bt != a1.Bt)then some false else((An6 K a0.Dg a1.Dg).bind fun r1=>(bif (!r1)then some false else((An6 K a0.Ae a1.Ae).bind fun r2=>(bif (!r2)then some false else(bif (a0.Gu != a1.Gu)then some false else some true)))))))
def Br4:Sig:=⟨[.v 159,.v 159],[.v 4],true⟩
def Br5 (K:Nat):Gb tyU:=⟨Br4,As0 K⟩
def B2a (K:Nat):=xF Br4 [(75,Baf K)] [] 32 [] [] [] [] [.tmp 4]
theorem Bvd (K:Nat):OkF 135 (Br5 K):=
 Aa6 (x:=B2a K) (L:=[]) (c0:=bd Tryz.f135) (xkF (gC (A9a K) gN) oN) (by intro a0 a1;show @Eq _ _ _;kernel_rfl) kN Tryz.func135 trivial
def Aq3 (K:Nat)(a0:List Ax)(a1:List Ax):Nat->Int->Option (Bool)
 |0,_=>none
 |n1+1,v1=>(bif (decide (v1<(a0.length:Int)))then(if(0:Int)≤v1∧v1<(a0.length:Int)then(if(0:Int)≤v1∧v1<(a1.length:Int)then((As0 K (gt a0 v1) (gt a1 v1)).bind fun r2=>(bif (!r2)then some false else(Aq3 K a0 a1 n1 (Aoa .i64 v1 1))))else none)else none)else some true)
def Aug (K:Nat)(a0:List Ax)(a1:List Ax):Option (Bool):=(bif ((a0.length:Int) != (a1.length:Int))then some false else(Aq3 K a0 a1 K 0))
def s_160:Sig:=⟨[.v 30,.v 30],[.v 4],true⟩
def Br6 (K:Nat):Gb tyU:=⟨s_160,Aug K⟩
def Bjv (K:Nat):=xF s_160 [(135,Br5 K)] [] 27 [] [] [] [] [.tmp 4]
def A47:E5:=⟨[(0,.v 30),(1,.v 30),(5,.v 2)],[]⟩
def A48 (K:Nat)(n:Nat)(q:PT A47):Rt s_160:=Aq3 K q.1 q.2.1 n q.2.2.1
theorem Bjw (K:Nat):AtL (Bjv K) (fun n=>[]) [] (bd Tryz.f74) 58 (A48 K):=fun n q=>by kernel_rfl
theorem Bjx (K:Nat):XF [.tmp 4] s_160 27 [] (Bjv K):=xkF (gC (Bvd K) gN) oN
theorem Bjy (K:Nat)(n:Nat):CF [.tmp 4] s_160 27 [] (bd Tryz.f74) [] 58 (ar A47 (A48 K n)):=
 Aeg (Bjx K) (Bjw K) (fun n=>kN) n
theorem Bve (K:Nat):OkF 74 (Br6 K):=
 Aa6 (x:=Bjv K) (L:=[(58,ar A47 (A48 K K))]) (c0:=bd Tryz.f74) (Bjx K) (by intro a0 a1;show @Eq _ _ _;kernel_rfl) (kC (Bjy K K) kN) Tryz.func74 trivial
def Aqm (K:Nat)(a0:Eb)(a1:Eb):Option (Bool):=((Ax9 K a0.fC a1.fC).bind fun r1=>(bif (!r1)then some false else((Aya K a0.fP a1.fP).bind fun r2=>(bif (!r2)then some false else((Avk K a0.fL a1.fL).bind fun r3=>(bif (!r3)then some false else((Aug K a0.fQ a1.fQ).bind fun r4=>(bif (!r4)then some false else((An6 K a0.Pr a1.Pr).bind fun r5=>(bif (!r5)then some false else some true))))))))))
def Br7:Sig:=⟨[.v 32,.v 32],[.v 4],true⟩
def Br8 (K:Nat):Gb tyU:=⟨Br7,Aqm K⟩
def B2b (K:Nat):=xF Br7 [(71,Brv K),(72,Brx K),(73,Br3 K),(74,Br6 K),(75,Baf K)] [] 35 [] [] [] [] [.tmp 4]
theorem Bvf (K:Nat):OkF 23 (Br8 K):=
 Aa6 (x:=B2b K) (L:=[]) (c0:=bd Tryz.f23) (xkF (gC (Bu7 K) (gC (Bu8 K) (gC (Bvc K) (gC (Bve K) (gC (A9a K) gN))))) oN) (by intro a0 a1;show @Eq _ _ _;kernel_rfl) kN Tryz.func23 trivial
def Auh (K:Nat)(a0:Ct)(a1:Ct):Option (Bool):=(bif (a0.A5 != a1.A5)then some false else(bif (a0.C2 != a1.C2)then some false else some true))
def Br9:Sig:=⟨[.v 34,.v 34],[.v 4],true⟩
def Bjz (K:Nat):Gb tyU:=⟨Br9,Auh K⟩
def B2c (K:Nat):=xF Br9 [] [] 15 [] [] [] [] [.tmp 4]
theorem Bj0 (K:Nat):OkF 93 (Bjz K):=
 Aa6 (x:=B2c K) (L:=[]) (c0:=bd Tryz.f93) (xkF gN oN) (by intro a0 a1;show @Eq _ _ _;kernel_rfl) kN Tryz.func93 trivial
def Ayr (K:Nat)(a0:Fg)(a1:Fg):Option (Bool):=((Auh K a0.fH a1.fH).bind fun r1=>(bif (!r1)then some false else(bif (a0.Ly != a1.Ly)then some false else(bif (a0.fNo != a1.fNo)then some false else some true))))
def Bsa:Sig:=⟨[.v 36,.v 36],[.v 4],true⟩
def Bsb (K:Nat):Gb tyU:=⟨Bsa,Ayr K⟩
def B2d (K:Nat):=xF Bsa [(93,Bjz K)] [] 21 [] [] [] [] [.tmp 4]
theorem Bvg (K:Nat):OkF 94 (Bsb K):=
 Aa6 (x:=B2d K) (L:=[]) (c0:=bd Tryz.f94) (xkF (gC (Bj0 K) gN) oN) (by intro a0 a1;show @Eq _ _ _;kernel_rfl) kN Tryz.func94 trivial
def Ath (K:Nat)(a0:Fh)(a1:Fh):Option (Bool):=(bif (a0.W9 != a1.W9)then some false else((Auh K a0.fH a1.fH).bind fun r1=>(bif (!r1)then some false else((Ayr K a0.fR a1.fR).bind fun r2=>(bif (!r2)then some false else((Arp K a0.fB a1.fB).bind fun r3=>(bif (!r3)then some false else(bif (a0.Xa != a1.Xa)then some false else(bif (a0.E9 != a1.E9)then some false else(bif (a0.Ps != a1.Ps)then some false else some true))))))))))
def Bsc:Sig:=⟨[.v 69,.v 69],[.v 4],true⟩
def Bsd (K:Nat):Gb tyU:=⟨Bsc,Ath K⟩
def B2e (K:Nat):=xF Bsc [(27,Bdc K),(93,Bjz K),(94,Bsb K)] [] 43 [] [] [] [] [.tmp 4]
theorem Bvh (K:Nat):OkF 33 (Bsd K):=
 Aa6 (x:=B2e K) (L:=[]) (c0:=bd Tryz.f33) (xkF (gC (Bbz K) (gC (Bj0 K) (gC (Bvg K) gN))) oN) (by intro a0 a1;show @Eq _ _ _;kernel_rfl) kN Tryz.func33 trivial
def Aqn (K:Nat):Nat->(List Int)->Int->Int->Option (Int×(List Int))
 |0,_,_,_=>none
 |n1+1,v1,v2,v3=>(bif (decide (v3<(v1.length:Int)))then(if(0:Int)≤v3∧v3<(v1.length:Int)then(Aqn K n1 (v1.set v3.toNat (IntKind.u8.wrap v2)) (Aoa .i64 v2 1) (Aoa .i64 v3 1))else none)else some (v2,v1))
def Aqe (K:Nat)(a0:List Int)(a1:Int):Option (Int×(List Int)):=(Aqn K K a0 a1 0)
def s_165:Sig:=⟨[.w 22 true [(5,true)],.v 3],[.v 3],true⟩
def Bdd (K:Nat):Gb tyU:=⟨s_165,Aqe K⟩
def Bj1 (K:Nat):=xF s_165 [] [] 20 [] [] [] [] [.tmp 4]
def A49:E5:=⟨[(0,.o 1 5 true),(1,.v 2),(5,.v 2)],[]⟩
def A5a (K:Nat)(n:Nat)(q:PT A49):Rt s_165:=Aqn K n q.1 q.2.1 q.2.2.1
theorem Bj2 (K:Nat):AtL (Bj1 K) (fun n=>[]) [] (bd Tryz.f29) 26 (A5a K):=fun n q=>by kernel_rfl
theorem Bj3 (K:Nat):XF [.tmp 4] s_165 20 [] (Bj1 K):=xkF gN oN
theorem Bj4 (K:Nat)(n:Nat):CF [.tmp 4] s_165 20 [] (bd Tryz.f29) [] 26 (ar A49 (A5a K n)):=
 Aeg (Bj3 K) (Bj2 K) (fun n=>kN) n
theorem Bb0 (K:Nat):OkF 29 (Bdd K):=
 Aa6 (x:=Bj1 K) (L:=[(26,ar A49 (A5a K K))]) (c0:=bd Tryz.f29) (Bj3 K) (by intro a0 a1;show @Eq _ _ _;kernel_rfl) (kC (Bj4 K K) kN) Tryz.func29 ⟨fun _=>rfl,trivial⟩
def Aq4 (K:Nat):Nat->(List Int)->Int->Int->Option (Int×(List Int))
 |0,_,_,_=>none
 |n1+1,v1,v2,v3=>(bif (decide (v3<(v1.length:Int)))then(if(0:Int)≤v3∧v3<(v1.length:Int)then(Aq4 K n1 (v1.set v3.toNat v2) (Aoa .i64 v2 1) (Aoa .i64 v3 1))else none)else some (v2,v1))
def Alc (K:Nat)(a0:List Int)(a1:Int):Option (Int×(List Int)):=(Aq4 K K a0 a1 0)
def s_166:Sig:=⟨[.w 26 true [(3,true)],.v 3],[.v 3],true⟩
def Bag (K:Nat):Gb tyU:=⟨s_166,Alc K⟩
def Bj5 (K:Nat):=xF s_166 [] [] 19 [] [] [] [] [.tmp 4]
def A5b:E5:=⟨[(0,.o 1 3 true),(1,.v 2),(5,.v 2)],[]⟩
def A5c (K:Nat)(n:Nat)(q:PT A5b):Rt s_166:=Aq4 K n q.1 q.2.1 q.2.2.1
theorem Bj6 (K:Nat):AtL (Bj5 K) (fun n=>[]) [] (bd Tryz.f81) 26 (A5c K):=fun n q=>by kernel_rfl
theorem Bj7 (K:Nat):XF [.tmp 4] s_166 19 [] (Bj5 K):=xkF gN oN
theorem Bj8 (K:Nat)(n:Nat):CF [.tmp 4] s_166 19 [] (bd Tryz.f81) [] 26 (ar A5b (A5c K n)):=
 Aeg (Bj7 K) (Bj6 K) (fun n=>kN) n
theorem A9b (K:Nat):OkF 81 (Bag K):=
 Aa6 (x:=Bj5 K) (L:=[(26,ar A5b (A5c K K))]) (c0:=bd Tryz.f81) (Bj7 K) (by intro a0 a1;show @Eq _ _ _;kernel_rfl) (kC (Bj8 K K) kN) Tryz.func81 ⟨fun _=>rfl,trivial⟩
def Aui (K:Nat)(a0:Dw)(a1:Int):Option (Int×(List Int)×(List Int)×(List Int)):=((Aqe K a0.Fy a1).bind fun r1=>(if r1.2.length=a0.Fy.length then((Alc K a0.Hh r1.1).bind fun r2=>(if r2.2.length=a0.Hh.length then((Alc K a0.Fz r2.1).bind fun r3=>(if r3.2.length=a0.Fz.length then some (r3.1,r1.2,r2.2,r3.2)else none))else none))else none))
def Bse:Sig:=⟨[.w 28 true [(5,true),(3,true),(3,true)],.v 3],[.v 3],true⟩
def Bsf (K:Nat):Gb tyU:=⟨Bse,Aui K⟩
def B2f (K:Nat):=xF Bse [(29,Bdd K),(81,Bag K)] [] 18 [] [] [] [] [.tmp 4]
theorem Bvi (K:Nat):OkF 78 (Bsf K):=
 Aa6 (x:=B2f K) (L:=[]) (c0:=bd Tryz.f78) (xkF (gC (Bb0 K) (gC (A9b K) gN)) oN) (by intro a0 a1;show @Eq _ _ _;kernel_rfl) kN Tryz.func78 ⟨fun _=>rfl,trivial⟩
def Alo (K:Nat):Nat->(List A9)->Int->Int->Option (Int×(List A9))
 |0,_,_,_=>none
 |n1+1,v1,v2,v3=>(bif (decide (v3<(v1.length:Int)))then(if(0:Int)≤v3∧v3<(v1.length:Int)then(if(0:Int)≤v3∧v3<((v1.set v3.toNat (A9.mk v2 ((gt v1 v3).Vu) ((gt v1 v3).Vv))).length:Int)then(Aql ((v1.set v3.toNat (A9.mk v2 ((gt v1 v3).Vu) ((gt v1 v3).Vv))).set v3.toNat (A9.mk ((gt (v1.set v3.toNat (A9.mk v2 ((gt v1 v3).Vu) ((gt v1 v3).Vv))) v3).fAt) (Aoa .i64 v2 1) ((gt (v1.set v3.toNat (A9.mk v2 ((gt v1 v3).Vu) ((gt v1 v3).Vv))) v3).Vv))) fun v4=>(if(0:Int)≤v3∧v3<(v4.length:Int)then(Alo K n1 (v4.set v3.toNat (A9.mk ((gt v4 v3).fAt) ((gt v4 v3).Vu) (Aoa .i64 (Aoa .i64 v2 1) 1))) (Aoa .i64 (Aoa .i64 (Aoa .i64 v2 1) 1) 1) (Aoa .i64 v3 1))else none))else none)else none)else some (v2,v1))
def Ask (K:Nat)(a0:List A9)(a1:Int):Option (Int×(List A9)):=(Alo K K a0 a1 0)
def s_168:Sig:=⟨[.w 41 true [(89,true)],.v 3],[.v 3],true⟩
def Bsg (K:Nat):Gb tyU:=⟨s_168,Ask K⟩
def Bj9 (K:Nat):=xF s_168 [] [] 34 [] [] [] [] [.tmp 4]
def A5d:E5:=⟨[(0,.o 1 89 true),(1,.v 2),(5,.v 2)],[]⟩
def A5e (K:Nat)(n:Nat)(q:PT A5d):Rt s_168:=Alo K n q.1 q.2.1 q.2.2.1
theorem Bka (K:Nat):AtL (Bj9 K) (fun n=>[]) [] (bd Tryz.f136) 26 (A5e K):=fun n q=>by kernel_rfl
theorem Bkb (K:Nat):XF [.tmp 4] s_168 34 [] (Bj9 K):=xkF gN oN
theorem Bkc (K:Nat)(n:Nat):CF [.tmp 4] s_168 34 [] (bd Tryz.f136) [] 26 (ar A5d (A5e K n)):=
 Aeg (Bkb K) (Bka K) (fun n=>kN) n
theorem Bvj (K:Nat):OkF 136 (Bsg K):=
 Aa6 (x:=Bj9 K) (L:=[(26,ar A5d (A5e K K))]) (c0:=bd Tryz.f136) (Bkb K) (by intro a0 a1;show @Eq _ _ _;kernel_rfl) (kC (Bkc K K) kN) Tryz.func136 ⟨fun _=>rfl,trivial⟩
def Anl (K:Nat):Nat->(List Ba)->Int->Int->Option (Int×(List Ba))
 |0,_,_,_=>none
 |n1+1,v1,v2,v3=>(bif (decide (v3<(v1.length:Int)))then(if(0:Int)≤v3∧v3<(v1.length:Int)then(Aql (v1.set v3.toNat (Ba.mk v2 ((gt v1 v3).C2) ((gt v1 v3).Ly) ((gt v1 v3).fUp) ((gt v1 v3).Gq) ((gt v1 v3).Bt) ((gt v1 v3).Gr) ((gt v1 v3).Gs) ((gt v1 v3).Ae) ((gt v1 v3).Pq) ((gt v1 v3).Gt) ((gt v1 v3).Ea) ((gt v1 v3).Dg))) fun v4=>(if(0:Int)≤v3∧v3<(v4.length:Int)then(Aql (v4.set v3.toNat (Ba.mk ((gt v4 v3).Hh) (Aoa .i64 v2 1) ((gt v4 v3).Ly) ((gt v4 v3).fUp) ((gt v4 v3).Gq) ((gt v4 v3).Bt) ((gt v4 v3).Gr) ((gt v4 v3).Gs) ((gt v4 v3).Ae) ((gt v4 v3).Pq) ((gt v4 v3).Gt) ((gt v4 v3).Ea) ((gt v4 v3).Dg))) fun v5=>(if(0:Int)≤v3∧v3<(v5.length:Int)then(Aql (v5.set v3.toNat (Ba.mk ((gt v5 v3).Hh) ((gt v5 v3).C2) (Aoa .i64 (Aoa .i64 v2 1) 1) ((gt v5 v3).fUp) ((gt v5 v3).Gq) ((gt v5 v3).Bt) ((gt v5 v3).Gr) ((gt v5 v3).Gs) ((gt v5 v3).Ae) ((gt v5 v3).Pq) ((gt v5 v3).Gt) ((gt v5 v3).Ea) ((gt v5 v3).Dg))) fun v6=>(if(0:Int)≤v3∧v3<(v6.length:Int)then(Aql (v6.set v3.toNat (Ba.mk ((gt v6 v3).Hh) ((gt v6 v3).C2) ((gt v6 v3).Ly) (Aoa .i64 (Aoa .i64 (Aoa .i64 v2 1) 1) 1) ((gt v6 v3).Gq) ((gt v6 v3).Bt) ((gt v6 v3).Gr) ((gt v6 v3).Gs) ((gt v6 v3).Ae) ((gt v6 v3).Pq) ((gt v6 v3).Gt) ((gt v6 v3).Ea) ((gt v6 v3).Dg))) fun v7=>(if(0:Int)≤v3∧v3<(v7.length:Int)then(Aql (v7.set v3.toNat (Ba.mk ((gt v7 v3).Hh) ((gt v7 v3).C2) ((gt v7 v3).Ly) ((gt v7 v3).fUp) (Aoa .i64 (Aoa .i64 (Aoa .i64 (Aoa .i64 v2 1) 1) 1) 1) ((gt v7 v3).Bt) ((gt v7 v3).Gr) ((gt v7 v3).Gs) ((gt v7 v3).Ae) ((gt v7 v3).Pq) ((gt v7 v3).Gt) ((gt v7 v3).Ea) ((gt v7 v3).Dg))) fun v8=>(if(0:Int)≤v3∧v3<(v8.length:Int)then(Aql (v8.set v3.toNat (Ba.mk ((gt v8 v3).Hh) ((gt v8 v3).C2) ((gt v8 v3).Ly) ((gt v8 v3).fUp) ((gt v8 v3).Gq) (Aoa .i64 (Aoa .i64 (Aoa .i64 (Aoa .i64 (Aoa .i64 v2 1) 1) 1) 1) 1) ((gt v8 v3).Gr) ((gt v8 v3).Gs) ((gt v8 v3).Ae) ((gt v8 v3).Pq) ((gt v8 v3).Gt) ((gt v8 v3).Ea) ((gt v8 v3).Dg))) fun v9=>(if(0:Int)≤v3∧v3<(v9.length:Int)then(Aql (v9.set v3.toNat (Ba.mk ((gt v9 v3).Hh) ((gt v9 v3).C2) ((gt v9 v3).Ly) ((gt v9 v3).fUp) ((gt v9 v3).Gq) ((gt v9 v3).Bt) (Aoa .i64 (Aoa .i64 (Aoa .i64 (Aoa .i64 (Aoa .i64 (Aoa .i64 v2 1) 1) 1) 1) 1) 1) ((gt v9 v3).Gs) ((gt v9 v3).Ae) ((gt v9 v3).Pq) ((gt v9 v3).Gt) ((gt v9 v3).Ea) ((gt v9 v3).Dg))) fun v10=>(if(0:Int)≤v3∧v3<(v10.length:Int)then(Aql (v10.set v3.toNat (Ba.mk ((gt v10 v3).Hh) ((gt v10 v3).C2) ((gt v10 v3).Ly) ((gt v10 v3).fUp) ((gt v10 v3).Gq) ((gt v10 v3).Bt) ((gt v10 v3).Gr) (Aoa .i64 (Aoa .i64 (Aoa .i64 (Aoa .i64 (Aoa .i64 (Aoa .i64 (Aoa .i64 v2 1) 1) 1) 1) 1) 1) 1) ((gt v10 v3).Ae) ((gt v10 v3).Pq) ((gt v10 v3).Gt) ((gt v10 v3).Ea) ((gt v10 v3).Dg))) fun v11=>(if(0:Int)≤v3∧v3<(v11.length:Int)then(if(0:Int)≤v3∧v3<(v11.length:Int)then((Alc K ((gt v11 v3).Ae) (Aoa .i64 (Aoa .i64 (Aoa .i64 (Aoa .i64 (Aoa .i64 (Aoa .i64 (Aoa .i64 (Aoa .i64 v2 1) 1) 1) 1) 1) 1) 1) 1)).bind fun r12=>(if r12.2.length=((gt v11 v3).Ae).length then(if(0:Int)≤v3∧v3<(v11.length:Int)then(if(0:Int)≤v3∧v3<(v11.length:Int)then(if(0:Int)≤v3∧v3<(v11.length:Int)then((Ask K ((gt v11 v3).Ea) (Aoa .i64 (Aoa .i64 r12.1 1) 1)).bind fun r13=>(if r13.2.length=((gt v11 v3).Ea).length then(if(0:Int)≤v3∧v3<(v11.length:Int)then((Alc K ((gt v11 v3).Dg) r13.1).bind fun r14=>(if r14.2.length=((gt v11 v3).Dg).length then(Anl K n1 (v11.set v3.toNat (Ba.mk ((gt v11 v3).Hh) ((gt v11 v3).C2) ((gt v11 v3).Ly) ((gt v11 v3).fUp) ((gt v11 v3).Gq) ((gt v11 v3).Bt) ((gt v11 v3).Gr) ((gt v11 v3).Gs) r12.2 r12.1 (Aoa .i64 r12.1 1) r13.2 r14.2)) r14.1 (Aoa .i64 v3 1))else none))else none)else none))else none)else none)else none)else none))else none)else none))else none))else none))else none))else none))else none))else none))else none))else none)else some (v2,v1))
def Ati (K:Nat)(a0:List Ba)(a1:Int):Option (Int×(List Ba)):=(Anl K K a0 a1 0)
def s_169:Sig:=⟨[.w 29 true [(44,true)],.v 3],[.v 3],true⟩
def Bsh (K:Nat):Gb tyU:=⟨s_169,Ati K⟩
def Bkd (K:Nat):=xF s_169 [(81,Bag K),(136,Bsg K)] [] 104 [] [(20,[.opn 1 (.tmp 5),.takeE 1 8 40072]),(25,[.takeE 1 11 40075]),(26,[.takeE 1 12 40076])] [] [] [.tmp 4]
def A5f:E5:=⟨[(0,.o 1 44 true),(1,.v 2),(5,.v 2)],[]⟩
def A5g (K:Nat)(n:Nat)(q:PT A5f):Rt s_169:=Anl K n q.1 q.2.1 q.2.2.1
theorem Bke (K:Nat):AtL (Bkd K) (fun n=>[]) [] (bd Tryz.f79) 26 (A5g K):=fun n q=>by kernel_rfl
theorem Bkf (K:Nat):XF [.tmp 4] s_169 104 [] (Bkd K):=xkF (gC (A9b K) (gC (Bvj K) gN)) oN
theorem Bkg (K:Nat)(n:Nat):CF [.tmp 4] s_169 104 [] (bd Tryz.f79) [] 26 (ar A5f (A5g K n)):=
 Aeg (Bkf K) (Bke K) (fun n=>kN) n
theorem Bvk (K:Nat):OkF 79 (Bsh K):=
 Aa6 (x:=Bkd K) (L:=[(26,ar A5f (A5g K K))]) (c0:=bd Tryz.f79) (Bkf K) (by intro a0 a1;show @Eq _ _ _;kernel_rfl) (kC (Bkg K K) kN) Tryz.func79 ⟨fun _=>rfl,trivial⟩
def Al3 (K:Nat):Nat->(List Ax)->Int->Int->Option (Int×(List Ax))
 |0,_,_,_=>none
 |n1+1,v1,v2,v3=>(bif (decide (v3<(v1.length:Int)))then(if(0:Int)≤v3∧v3<(v1.length:Int)then(if(0:Int)≤v3∧v3<((v1.set v3.toNat (Ax.mk v2 ((gt v1 v3).Bt) ((gt v1 v3).Dg) ((gt v1 v3).Ae) ((gt v1 v3).Gu))).length:Int)then(Aql ((v1.set v3.toNat (Ax.mk v2 ((gt v1 v3).Bt) ((gt v1 v3).Dg) ((gt v1 v3).Ae) ((gt v1 v3).Gu))).set v3.toNat (Ax.mk ((gt (v1.set v3.toNat (Ax.mk v2 ((gt v1 v3).Bt) ((gt v1 v3).Dg) ((gt v1 v3).Ae) ((gt v1 v3).Gu))) v3).A5) (Aoa .i64 v2 1) ((gt (v1.set v3.toNat (Ax.mk v2 ((gt v1 v3).Bt) ((gt v1 v3).Dg) ((gt v1 v3).Ae) ((gt v1 v3).Gu))) v3).Dg) ((gt (v1.set v3.toNat (Ax.mk v2 ((gt v1 v3).Bt) ((gt v1 v3).Dg) ((gt v1 v3).Ae) ((gt v1 v3).Gu))) v3).Ae) ((gt (v1.set v3.toNat (Ax.mk v2 ((gt v1 v3).Bt) ((gt v1 v3).Dg) ((gt v1 v3).Ae) ((gt v1 v3).Gu))) v3).Gu))) fun v4=>(if(0:Int)≤v3∧v3<(v4.length:Int)then(if(0:Int)≤v3∧v3<(v4.length:Int)then((Alc K ((gt v4 v3).Dg) (Aoa .i64 (Aoa .i64 v2 1) 1)).bind fun r5=>(if r5.2.length=((gt v4 v3).Dg).length then(if(0:Int)≤v3∧v3<(v4.length:Int)then((Alc K ((gt v4 v3).Ae) r5.1).bind fun r6=>(if r6.2.length=((gt v4 v3).Ae).length then(if(0:Int)≤v3∧v3<(v4.length:Int)then(Al3 K n1 (v4.set v3.toNat (Ax.mk ((gt v4 v3).A5) ((gt v4 v3).Bt) r5.2 r6.2 r6.1)) (Aoa .i64 r6.1 1) (Aoa .i64 v3 1))else none)else none))else none)else none))else none)else none))else none)else none)else some (v2,v1))
def Asl (K:Nat)(a0:List Ax)(a1:Int):Option (Int×(List Ax)):=(Al3 K K a0 a1 0)
def s_170:Sig:=⟨[.w 30 true [(159,true)],.v 3],[.v 3],true⟩
def Bsi (K:Nat):Gb tyU:=⟨s_170,Asl K⟩
def Bkh (K:Nat):=xF s_170 [(81,Bag K)] [] 48 [] [(8,[.opn 1 (.tmp 5),.takeE 1 2 40066]),(9,[.takeE 1 3 40067])] [] [] [.tmp 4]
def A5h:E5:=⟨[(0,.o 1 159 true),(1,.v 2),(5,.v 2)],[]⟩
def A5i (K:Nat)(n:Nat)(q:PT A5h):Rt s_170:=Al3 K n q.1 q.2.1 q.2.2.1
theorem Bki (K:Nat):AtL (Bkh K) (fun n=>[]) [] (bd Tryz.f80) 26 (A5i K):=fun n q=>by kernel_rfl
theorem Bkj (K:Nat):XF [.tmp 4] s_170 48 [] (Bkh K):=xkF (gC (A9b K) gN) oN
theorem Bkk (K:Nat)(n:Nat):CF [.tmp 4] s_170 48 [] (bd Tryz.f80) [] 26 (ar A5h (A5i K n)):=
 Aeg (Bkj K) (Bki K) (fun n=>kN) n
theorem Bvl (K:Nat):OkF 80 (Bsi K):=
 Aa6 (x:=Bkh K) (L:=[(26,ar A5h (A5i K K))]) (c0:=bd Tryz.f80) (Bkj K) (by intro a0 a1;show @Eq _ _ _;kernel_rfl) (kC (Bkk K K) kN) Tryz.func80 ⟨fun _=>rfl,trivial⟩
def Arr (K:Nat)(a0:Eb)(a1:Int):Option (Int×(List Int)×(List Int)×(List Int)×(List Ba)×(List Ax)×(List Int)):=((Aui K a0.fP a1).bind fun r1=>(if r1.2.1.length=a0.fP.Fy.length∧r1.2.2.1.length=a0.fP.Hh.length∧r1.2.2.2.length=a0.fP.Fz.length then((Ati K a0.fL r1.1).bind fun r2=>(if r2.2.length=a0.fL.length then((Asl K a0.fQ r2.1).bind fun r3=>(if r3.2.length=a0.fQ.length then((Alc K a0.Pr r3.1).bind fun r4=>(if r4.2.length=a0.Pr.length then some (r4.1,r1.2.1,r1.2.2.1,r1.2.2.2,r2.2,r3.2,r4.2)else none))else none))else none))else none))
def Bsj:Sig:=⟨[.w 32 true [(5,true),(3,true),(3,true),(44,true),(159,true),(3,true)],.v 3],[.v 3],true⟩
def Bsk (K:Nat):Gb tyU:=⟨Bsj,Arr K⟩
def B2g (K:Nat):=xF Bsj [(78,Bsf K),(79,Bsh K),(80,Bsi K),(81,Bag K)] [] 22 [] [] [] [] [.tmp 4]
theorem Bvm (K:Nat):OkF 28 (Bsk K):=
 Aa6 (x:=B2g K) (L:=[]) (c0:=bd Tryz.f28) (xkF (gC (Bvi K) (gC (Bvk K) (gC (Bvl K) (gC (A9b K) gN)))) oN) (by intro a0 a1;show @Eq _ _ _;kernel_rfl) kN Tryz.func28 ⟨fun _=>rfl,trivial⟩
def Avl (K:Nat)(a0:Fh)(a1:Int):Option (Int×(List Int)):=((Aqe K a0.fB a1).bind fun r1=>(if r1.2.length=a0.fB.length then some (r1.1,r1.2)else none))
def Bsl:Sig:=⟨[.w 69 true [(5,true)],.v 3],[.v 3],true⟩
def Bsm (K:Nat):Gb tyU:=⟨Bsl,Avl K⟩
def B2h (K:Nat):=xF Bsl [(29,Bdd K)] [] 10 [] [] [] [] [.tmp 4]
theorem Bvn (K:Nat):OkF 34 (Bsm K):=
 Aa6 (x:=B2h K) (L:=[]) (c0:=bd Tryz.f34) (xkF (gC (Bb0 K) gN) oN) (by intro a0 a1;show @Eq _ _ _;kernel_rfl) kN Tryz.func34 ⟨fun _=>rfl,trivial⟩
def Aqo (K:Nat)(a0:List Int):Nat->Int->Int->Option (Int)
 |0,_,_=>none
 |n1+1,v1,v2=>(bif (decide (v2<(a0.length:Int)))then(if(0:Int)≤v2∧v2<(a0.length:Int)then(bif ((gt a0 v2) != (IntKind.u8.wrap v1))then some (-1)else(Aqo K a0 n1 (Aoa .i64 v1 1) (Aoa .i64 v2 1)))else none)else some v1)
def Ars (K:Nat)(a0:List Int)(a1:Int):Option (Int):=(Aqo K a0 K a1 0)
def s_173:Sig:=⟨[.v 22,.v 3],[.v 3],true⟩
def Bkl (K:Nat):Gb tyU:=⟨s_173,Ars K⟩
def Bkm (K:Nat):=xF s_173 [] [] 22 [] [] [] [] [.tmp 4]
def A5j:E5:=⟨[(0,.v 22),(1,.v 2),(5,.v 2)],[]⟩
def A5k (K:Nat)(n:Nat)(q:PT A5j):Rt s_173:=Aqo K q.1 n q.2.1 q.2.2.1
theorem Bkn (K:Nat):AtL (Bkm K) (fun n=>[]) [] (bd Tryz.f30) 26 (A5k K):=fun n q=>by kernel_rfl
theorem Bko (K:Nat):XF [.tmp 4] s_173 22 [] (Bkm K):=xkF gN oN
theorem Bkp (K:Nat)(n:Nat):CF [.tmp 4] s_173 22 [] (bd Tryz.f30) [] 26 (ar A5j (A5k K n)):=
 Aeg (Bko K) (Bkn K) (fun n=>kN) n
theorem Bkq (K:Nat):OkF 30 (Bkl K):=
 Aa6 (x:=Bkm K) (L:=[(26,ar A5j (A5k K K))]) (c0:=bd Tryz.f30) (Bko K) (by intro a0 a1;show @Eq _ _ _;kernel_rfl) (kC (Bkp K K) kN) Tryz.func30 trivial
def Aq5 (K:Nat)(a0:List Int):Nat->Int->Int->Option (Int)
 |0,_,_=>none
 |n1+1,v1,v2=>(bif (decide (v2<(a0.length:Int)))then(if(0:Int)≤v2∧v2<(a0.length:Int)then(bif ((gt a0 v2) != v1)then some (-1)else(Aq5 K a0 n1 (Aoa .i64 v1 1) (Aoa .i64 v2 1)))else none)else some v1)
def Ald (K:Nat)(a0:List Int)(a1:Int):Option (Int):=(Aq5 K a0 K a1 0)
def s_174:Sig:=⟨[.v 26,.v 3],[.v 3],true⟩
def Bah (K:Nat):Gb tyU:=⟨s_174,Ald K⟩
def Bkr (K:Nat):=xF s_174 [] [] 21 [] [] [] [] [.tmp 4]
def A5l:E5:=⟨[(0,.v 26),(1,.v 2),(5,.v 2)],[]⟩
def A5m (K:Nat)(n:Nat)(q:PT A5l):Rt s_174:=Aq5 K q.1 n q.2.1 q.2.2.1
theorem Bks (K:Nat):AtL (Bkr K) (fun n=>[]) [] (bd Tryz.f98) 26 (A5m K):=fun n q=>by kernel_rfl
theorem Bkt (K:Nat):XF [.tmp 4] s_174 21 [] (Bkr K):=xkF gN oN
theorem Bku (K:Nat)(n:Nat):CF [.tmp 4] s_174 21 [] (bd Tryz.f98) [] 26 (ar A5l (A5m K n)):=
 Aeg (Bkt K) (Bks K) (fun n=>kN) n
theorem A9c (K:Nat):OkF 98 (Bah K):=
 Aa6 (x:=Bkr K) (L:=[(26,ar A5l (A5m K K))]) (c0:=bd Tryz.f98) (Bkt K) (by intro a0 a1;show @Eq _ _ _;kernel_rfl) (kC (Bku K K) kN) Tryz.func98 trivial
def Awv (K:Nat)(a0:Dw)(a1:Int):Option (Int):=((Ars K a0.Fy a1).bind fun r1=>(bif (decide (r1<0))then some (-1)else((Ald K a0.Hh r1).bind fun r2=>(bif (decide (r2<0))then some (-1)else((Ald K a0.Fz r2).bind fun r3=>(bif (decide (r3<0))then some (-1)else some r3))))))
def Bsn:Sig:=⟨[.v 28,.v 3],[.v 3],true⟩
def Bso (K:Nat):Gb tyU:=⟨Bsn,Awv K⟩
def B2i (K:Nat):=xF Bsn [(30,Bkl K),(98,Bah K)] [] 24 [] [] [] [] [.tmp 4]
theorem Bvo (K:Nat):OkF 95 (Bso K):=
 Aa6 (x:=B2i K) (L:=[]) (c0:=bd Tryz.f95) (xkF (gC (Bkq K) (gC (A9c K) gN)) oN) (by intro a0 a1;show @Eq _ _ _;kernel_rfl) kN Tryz.func95 trivial
def Al4 (K:Nat)(a0:List A9):Nat->Int->Int->Option (Int)
 |0,_,_=>none
 |n1+1,v1,v2=>(bif (decide (v2<(a0.length:Int)))then(if(0:Int)≤v2∧v2<(a0.length:Int)then(bif (((gt a0 v2).fAt) != v1)then some (-1)else(if(0:Int)≤v2∧v2<(a0.length:Int)then(bif (((gt a0 v2).Vu) != (Aoa .i64 v1 1))then some (-1)else(if(0:Int)≤v2∧v2<(a0.length:Int)then(bif (((gt a0 v2).Vv) != (Aoa .i64 (Aoa .i64 v1 1) 1))then some (-1)else(Al4 K a0 n1 (Aoa .i64 (Aoa .i64 (Aoa .i64 v1 1) 1) 1) (Aoa .i64 v2 1)))else none))else none))else none)else some v1)
def Asm (K:Nat)(a0:List A9)(a1:Int):Option (Int):=(Al4 K a0 K a1 0)
def s_176:Sig:=⟨[.v 41,.v 3],[.v 3],true⟩
def Bsp (K:Nat):Gb tyU:=⟨s_176,Asm K⟩
def Bkv (K:Nat):=xF s_176 [] [] 40 [] [] [] [] [.tmp 4]
def A5n:E5:=⟨[(0,.v 41),(1,.v 2),(5,.v 2)],[]⟩
def A5o (K:Nat)(n:Nat)(q:PT A5n):Rt s_176:=Al4 K q.1 n q.2.1 q.2.2.1
theorem Bkw (K:Nat):AtL (Bkv K) (fun n=>[]) [] (bd Tryz.f166) 26 (A5o K):=fun n q=>by kernel_rfl
theorem Bkx (K:Nat):XF [.tmp 4] s_176 40 [] (Bkv K):=xkF gN oN
theorem Bky (K:Nat)(n:Nat):CF [.tmp 4] s_176 40 [] (bd Tryz.f166) [] 26 (ar A5n (A5o K n)):=
 Aeg (Bkx K) (Bkw K) (fun n=>kN) n
theorem Bvp (K:Nat):OkF 166 (Bsp K):=
 Aa6 (x:=Bkv K) (L:=[(26,ar A5n (A5o K K))]) (c0:=bd Tryz.f166) (Bkx K) (by intro a0 a1;show @Eq _ _ _;kernel_rfl) (kC (Bky K K) kN) Tryz.func166 trivial
def Anm (K:Nat)(a0:List Ba):Nat->Int->Int->Option (Int)
 |0,_,_=>none
 |n1+1,v1,v2=>(bif (decide (v2<(a0.length:Int)))then(if(0:Int)≤v2∧v2<(a0.length:Int)then(bif (((gt a0 v2).Hh) != v1)then some (-1)else(if(0:Int)≤v2∧v2<(a0.length:Int)then(bif (((gt a0 v2).C2) != (Aoa .i64 v1 1))then some (-1)else(if(0:Int)≤v2∧v2<(a0.length:Int)then(bif (((gt a0 v2).Ly) != (Aoa .i64 (Aoa .i64 v1 1) 1))then some (-1)else(if(0:Int)≤v2∧v2<(a0.length:Int)then(bif (((gt a0 v2).fUp) != (Aoa .i64 (Aoa .i64 (Aoa .i64 v1 1) 1) 1))then some (-1)else(if(0:Int)≤v2∧v2<(a0.length:Int)then(bif (((gt a0 v2).Gq) != (Aoa .i64 (Aoa .i64 (Aoa .i64 (Aoa .i64 v1 1) 1) 1) 1))then some (-1)else(if(0:Int)≤v2∧v2<(a0.length:Int)then(bif (((gt a0 v2).Bt) != (Aoa .i64 (Aoa .i64 (Aoa .i64 (Aoa .i64 (Aoa .i64 v1 1) 1) 1) 1) 1))then some (-1)else(if(0:Int)≤v2∧v2<(a0.length:Int)then(bif (((gt a0 v2).Gr) != (Aoa .i64 (Aoa .i64 (Aoa .i64 (Aoa .i64 (Aoa .i64 (Aoa .i64 v1 1) 1) 1) 1) 1) 1))then some (-1)else(if(0:Int)≤v2∧v2<(a0.length:Int)then(bif (((gt a0 v2).Gs) != (Aoa .i64 (Aoa .i64 (Aoa .i64 (Aoa .i64 (Aoa .i64 (Aoa .i64 (Aoa .i64 v1 1) 1) 1) 1) 1) 1) 1))then some (-1)else(if(0:Int)≤v2∧v2<(a0.length:Int)then((Ald K ((gt a0 v2).Ae) (Aoa .i64 (Aoa .i64 (Aoa .i64 (Aoa .i64 (Aoa .i64 (Aoa .i64 (Aoa .i64 (Aoa .i64 v1 1) 1) 1) 1) 1) 1) 1) 1)).bind fun r3=>(bif (decide (r3<0))then some (-1)else(if(0:Int)≤v2∧v2<(a0.length:Int)then(bif (((gt a0 v2).Pq) != r3)then some (-1)else(if(0:Int)≤v2∧v2<(a0.length:Int)then(bif (((gt a0 v2).Gt) != (Aoa .i64 r3 1))then some (-1)else(if(0:Int)≤v2∧v2<(a0.length:Int)then((Asm K ((gt a0 v2).Ea) (Aoa .i64 (Aoa .i64 r3 1) 1)).bind fun r4=>(bif (decide (r4<0))then some (-1)else(if(0:Int)≤v2∧v2<(a0.length:Int)then((Ald K ((gt a0 v2).Dg) r4).bind fun r5=>(bif (decide (r5<0))then some (-1)else(Anm K a0 n1 r5 (Aoa .i64 v2 1))))else none)))else none))else none))else none)))else none))else none))else none))else none))else none))else none))else none))else none))else none)else some v1)
def Atj (K:Nat)(a0:List Ba)(a1:Int):Option (Int):=(Anm K a0 K a1 0)
def s_177:Sig:=⟨[.v 29,.v 3],[.v 3],true⟩
def Bsq (K:Nat):Gb tyU:=⟨s_177,Atj K⟩
def Bkz (K:Nat):=xF s_177 [(98,Bah K),(166,Bsp K)] [] 130 [] [] [] [] [.tmp 4]
def A5p:E5:=⟨[(0,.v 29),(1,.v 2),(5,.v 2)],[]⟩
def A5q (K:Nat)(n:Nat)(q:PT A5p):Rt s_177:=Anm K q.1 n q.2.1 q.2.2.1
theorem Bk0 (K:Nat):AtL (Bkz K) (fun n=>[]) [] (bd Tryz.f96) 26 (A5q K):=fun n q=>by kernel_rfl
theorem Bk1 (K:Nat):XF [.tmp 4] s_177 130 [] (Bkz K):=xkF (gC (A9c K) (gC (Bvp K) gN)) oN
theorem Bk2 (K:Nat)(n:Nat):CF [.tmp 4] s_177 130 [] (bd Tryz.f96) [] 26 (ar A5p (A5q K n)):=
 Aeg (Bk1 K) (Bk0 K) (fun n=>kN) n
theorem Bvq (K:Nat):OkF 96 (Bsq K):=
 Aa6 (x:=Bkz K) (L:=[(26,ar A5p (A5q K K))]) (c0:=bd Tryz.f96) (Bk1 K) (by intro a0 a1;show @Eq _ _ _;kernel_rfl) (kC (Bk2 K K) kN) Tryz.func96 trivial
def Al5 (K:Nat)(a0:List Ax):Nat->Int->Int->Option (Int)
 |0,_,_=>none
 |n1+1,v1,v2=>(bif (decide (v2<(a0.length:Int)))then(if(0:Int)≤v2∧v2<(a0.length:Int)then(bif (((gt a0 v2).A5) != v1)then some (-1)else(if(0:Int)≤v2∧v2<(a0.length:Int)then(bif (((gt a0 v2).Bt) != (Aoa .i64 v1 1))then some (-1)else(if(0:Int)≤v2∧v2<(a0.length:Int)then((Ald K ((gt a0 v2).Dg) (Aoa .i64 (Aoa .i64 v1 1) 1)).bind fun r3=>(bif (decide (r3<0))then some (-1)else(if(0:Int)≤v2∧v2<(a0.length:Int)then((Ald K ((gt a0 v2).Ae) r3).bind fun r4=>(bif (decide (r4<0))then some (-1)else(if(0:Int)≤v2∧v2<(a0.length:Int)then(bif (((gt a0 v2).Gu) != r4)then some (-1)else(Al5 K a0 n1 (Aoa .i64 r4 1) (Aoa .i64 v2 1)))else none)))else none)))else none))else none))else none)else some v1)
def Asn (K:Nat)(a0:List Ax)(a1:Int):Option (Int):=(Al5 K a0 K a1 0)
def s_178:Sig:=⟨[.v 30,.v 3],[.v 3],true⟩
def Bsr (K:Nat):Gb tyU:=⟨s_178,Asn K⟩
def Bk3 (K:Nat):=xF s_178 [(98,Bah K)] [] 58 [] [] [] [] [.tmp 4]
def A5r:E5:=⟨[(0,.v 30),(1,.v 2),(5,.v 2)],[]⟩
def A5s (K:Nat)(n:Nat)(q:PT A5r):Rt s_178:=Al5 K q.1 n q.2.1 q.2.2.1
theorem Bk4 (K:Nat):AtL (Bk3 K) (fun n=>[]) [] (bd Tryz.f97) 26 (A5s K):=fun n q=>by kernel_rfl
theorem Bk5 (K:Nat):XF [.tmp 4] s_178 58 [] (Bk3 K):=xkF (gC (A9c K) gN) oN
theorem Bk6 (K:Nat)(n:Nat):CF [.tmp 4] s_178 58 [] (bd Tryz.f97) [] 26 (ar A5r (A5s K n)):=
 Aeg (Bk5 K) (Bk4 K) (fun n=>kN) n
theorem Bvr (K:Nat):OkF 97 (Bsr K):=
 Aa6 (x:=Bk3 K) (L:=[(26,ar A5r (A5s K K))]) (c0:=bd Tryz.f97) (Bk5 K) (by intro a0 a1;show @Eq _ _ _;kernel_rfl) (kC (Bk6 K K) kN) Tryz.func97 trivial
def Art (K:Nat)(a0:Eb)(a1:Int):Option (Int):=((Awv K a0.fP a1).bind fun r1=>(bif (decide (r1<0))then some (-1)else((Atj K a0.fL r1).bind fun r2=>(bif (decide (r2<0))then some (-1)else((Asn K a0.fQ r2).bind fun r3=>(bif (decide (r3<0))then some (-1)else((Ald K a0.Pr r3).bind fun r4=>(bif (decide (r4<0))then some (-1)else some r4))))))))
def Bss:Sig:=⟨[.v 32,.v 3],[.v 3],true⟩
def Bst (K:Nat):Gb tyU:=⟨Bss,Art K⟩
def B2j (K:Nat):=xF Bss [(95,Bso K),(96,Bsq K),(97,Bsr K),(98,Bah K)] [] 30 [] [] [] [] [.tmp 4]
theorem Bvs (K:Nat):OkF 35 (Bst K):=
 Aa6 (x:=B2j K) (L:=[]) (c0:=bd Tryz.f35) (xkF (gC (Bvo K) (gC (Bvq K) (gC (Bvr K) (gC (A9c K) gN)))) oN) (by intro a0 a1;show @Eq _ _ _;kernel_rfl) kN Tryz.func35 trivial
def As1 (K:Nat)(a0:Fh)(a1:Int):Option (Int):=((Ars K a0.fB a1).bind fun r1=>(bif (decide (r1<0))then some (-1)else some r1))
def Bsu:Sig:=⟨[.v 69,.v 3],[.v 3],true⟩
def Bsv (K:Nat):Gb tyU:=⟨Bsu,As1 K⟩
def B2k (K:Nat):=xF Bsu [(30,Bkl K)] [] 12 [] [] [] [] [.tmp 4]
theorem Bvt (K:Nat):OkF 36 (Bsv K):=
 Aa6 (x:=B2k K) (L:=[]) (c0:=bd Tryz.f36) (xkF (gC (Bkq K) gN) oN) (by intro a0 a1;show @Eq _ _ _;kernel_rfl) kN Tryz.func36 trivial
def Ara (K:Nat)(a0:Ec)(a1:Ge)(a2:Int)(a3:List Int):Option (Bool):=(bif (decide ((a3.length:Int)>1048576))then some true else((Aqg K a0 1048576).bind fun r1=>(bif (decide (r1<0))then some true else((Aqh K a0).bind fun r2=>((Aux K a1).bind fun r3=>((Apv K a3).bind fun r4=>((Aw6 K r2 r3 a2 r4).bind fun r5=>((Aqh K a0).bind fun r6=>((Apv K a3).bind fun r7=>((Aux K a1).bind fun r8=>((Avj K r6 r8 a2 r7).bind fun r9=>((Aqm K r9.1 r5.1).bind fun r10=>(bif r10 then((Ath K r9.2 r5.2).bind fun r11=>(bif (!r11)then some false else((Aqh K a0).bind fun r12=>((Aqm K r6 r12).bind fun r13=>(bif (!r13)then some false else((Apv K a3).bind fun r14=>((Arp K r7 r14).bind fun r15=>(bif (!r15)then some false else((Arr K r6 1).bind fun r16=>(if r16.2.1.length=r6.fP.Fy.length∧r16.2.2.1.length=r6.fP.Hh.length∧r16.2.2.2.1.length=r6.fP.Fz.length∧r16.2.2.2.2.1.length=r6.fL.length∧r16.2.2.2.2.2.1.length=r6.fQ.length∧r16.2.2.2.2.2.2.length=r6.Pr.length then((Aqe K r7 r16.1).bind fun r17=>(if r17.2.length=r7.length then(bif (decide (r17.1<0))then some false else((Aqm K r9.1 r5.1).bind fun r18=>(bif r18 then((Ath K r9.2 r5.2).bind fun r19=>(bif (!r19)then some false else((Arr K r9.1 1).bind fun r20=>(if r20.2.1.length=r9.1.fP.Fy.length∧r20.2.2.1.length=r9.1.fP.Hh.length∧r20.2.2.2.1.length=r9.1.fP.Fz.length∧r20.2.2.2.2.1.length=r9.1.fL.length∧r20.2.2.2.2.2.1.length=r9.1.fQ.length∧r20.2.2.2.2.2.2.length=r9.1.Pr.length then((Avl K r9.2 r20.1).bind fun r21=>(if r21.2.length=r9.2.fB.length then((Art K (Eb.mk r9.1.fC (Dw.mk r20.2.1 r20.2.2.1 r20.2.2.2.1) r20.2.2.2.2.1 r20.2.2.2.2.2.1 r20.2.2.2.2.2.2) 1).bind fun r22=>(bif (decide (r22<0))then some false else((As1 K (Fh.mk r9.2.W9 r9.2.fH r9.2.fR r21.2 r9.2.Xa r9.2.E9 r9.2.Ps) r22).bind fun r23=>(bif (decide (r23<0))then some false else(bif (r23 != r21.1)then some false else((Aqh K a0).bind fun r24=>((Aux K a1).bind fun r25=>((Apv K a3).bind fun r26=>((Avj K r24 r25 a2 r26).bind fun r27=>((Aqm K r27.1 r5.1).bind fun r28=>(bif r28 then((Ath K r27.2 r5.2).bind fun r29=>(bif (!r29)then some false else((Art K (Eb.mk r9.1.fC (Dw.mk r20.2.1 r20.2.2.1 r20.2.2.2.1) r20.2.2.2.2.1 r20.2.2.2.2.2.1 r20.2.2.2.2.2.2) 1).bind fun r30=>(bif (decide (r30<0))then some false else((As1 K (Fh.mk r9.2.W9 r9.2.fH r9.2.fR r21.2 r9.2.Xa r9.2.E9 r9.2.Ps) r30).bind fun r31=>(bif (decide (r31<0))then some false else(bif (r31 != r21.1)then some false else some true)))))))else some false)))))))))))else none))else none))))else some false)))else none))else none))))))))))else some false)))))))))))))
def Bsw:Sig:=⟨[.v 52,.v 61,.v 3,.v 22],[.v 4],true⟩
def B2l (K:Nat):Gb tyU:=⟨Bsw,Ara K⟩
def B2m (K:Nat):=xF Bsw [(18,c_8 K),(20,Bwu K),(23,Br8 K),(25,Bw0 K),(27,Bdc K),(28,Bsk K),(29,Bdd K),(33,Bsd K),(34,Bsm K),(35,Bst K),(36,Bsv K),(45,Bzy K),(46,Bs1 K),(47,Brt K)] [] 146 [55,56,57,80,81,84,85,86,87,125,126,127] [] [] [] [.tmp 8]
theorem Bvu (K:Nat):OkF 11 (B2l K):=
 Aa6 (x:=B2m K) (L:=[]) (c0:=bd Tryz.f11) (xkF (gC (B24 K) (gC (Bwv K) (gC (Bvf K) (gC (Bw1 K) (gC (Bbz K) (gC (Bvm K) (gC (Bb0 K) (gC (Bvh K) (gC (Bvn K) (gC (Bvs K) (gC (Bvt K) (gC (Bzz K) (gC (Box K) (gC (Bu6 K) gN)))))))))))))) oN) (by intro a0 a1 a2 a3;show @Eq _ _ _;kernel_rfl) kN Tryz.func11 trivial
end
end Go.Proofs.YtjdblamhaljjbaaGreat
