/- What the functions compute that FnExactOwedIf reaches, and that they do; no condition. Printed by gen3.py. -/
import Derived.Test.YtjdblamhaljjbaaGreatFSrt
set_option linter.all false
set_option maxRecDepth 20000
namespace Go.Proofs.YtjdblamhaljjbaaGreat
open Go.Eng
noncomputable section
abbrev bd (f:Func):Code:=f.body.getD .skip
abbrev PT (h:E5):Type:=Am tyU h.codes
abbrev Rt (s:Sig):Type:=Option (Au tyU s.codes)
abbrev CT (h:E5)(s:Sig):Type:=Am tyU h.codes->Option (Au tyU s.codes)
abbrev ar{s:Sig}(h:E5)(M:CT h s):SS Ah->Rt s:=arr tyU tab h M
def xF (s:Sig)(G:List (Nat×Gb tyU))(O:List (Nat×List (Nat×Gb tyU)))(N:Nat)(spl:List Nat)(pre post:List (Nat×List Cmd))(js:List Nat)(rl:List ResultVar)(L B:Λt tyU s):Ox tyU (Au tyU s.codes):=⟨G,O,eqT eqs,N,spl,pre,post,js,L,B,Afh tyU tab s rl⟩
abbrev XF (rl:List ResultVar)(s:Sig)(N:Nat)(js:List Nat)(x:Λt tyU s->Λt tyU s->Ox tyU (Au tyU s.codes)):Prop:=XOk tyU tab Tryz.prog rl s N js x
theorem B4e:Tryz.prog.follows .mixedOrders=true:=by kernel_rfl
theorem xkF{rl:List ResultVar}{s:Sig}{N:Nat}{js:List Nat}{G:List (Nat×Gb tyU)}{O:List (Nat×List (Nat×Gb tyU))}{spl:List Nat}{pre post:List (Nat×List Cmd)}(hΓ: ∀f c,lk G f=some c->Gb.Ok tyU Tryz.prog f c∧E2 Tryz.prog f)(hov: ∀d l,lk O d=some l-> ∀f c,lk l f=some c->Gb.Ok tyU Tryz.prog f c∧E2 Tryz.prog f):XF rl s N js (xF s G O N spl pre post js rl):=xok Aqp B4e hΓ hov Apo
abbrev OkF (f:FuncId)(c:Gb tyU):Prop:=Gb.Ok tyU Tryz.prog f c∧E2 Tryz.prog f
abbrev CF (rl:List ResultVar)(s:Sig)(N:Nat)(js:List Nat)(c:Code)(B:Λt tyU s)(p:Nat)(f:SS Ah->Rt s):Prop:=Cut tyU tab Tryz.prog rl s N js c B p f
abbrev EqF (s:Sig)(x:Ox tyU (Au tyU s.codes))(c:Code)(m:Wk tyU s.ps (Rt s)):Prop:=Uy tyU tab x c s.ps 0 [] [] m
abbrev AtL{s:Sig}{h:E5}(x:Λt tyU s->Λt tyU s->Ox tyU (Au tyU s.codes))(L:Nat->Λt tyU s)(B:Λt tyU s)(c:Code)(p:Nat)(M:Nat->CT h s):Prop:= ∀n q,M (n+1) q=Aff tyU tab (x (L n) ((p,ar h (M n))::B)) c (2*p) (h.emb tyU q)
abbrev AtJ{s:Sig}{h:E5}(x:Λt tyU s->Λt tyU s->Ox tyU (Au tyU s.codes))(L B:Λt tyU s)(c:Code)(p:Nat)(M:CT h s):Prop:= ∀q,M q=Aff tyU tab (x L B) c (2*p+1) (h.emb tyU q)
theorem Aei{rl:List ResultVar}{s:Sig}{N:Nat}{js:List Nat}{x:Λt tyU s->Λt tyU s->Ox tyU (Au tyU s.codes)}{c:Code}{L:Nat->Λt tyU s}{B:Λt tyU s}{p:Nat}{h:E5}{M:Nat->CT h s}(hx:XF rl s N js x)(e:AtL x L B c p M)(hc: ∀n,Vs tyU tab Tryz.prog rl s N js c ((p,ar h (M n))::B) (L n))(n:Nat)(hp:Nat.ble 1 p=true:=by rfl)(hk:Tc js c p=true:=by kernel_rfl)(e0: ∀q,M 0 q=none:=by intro q;rfl):CF rl s N js c B p (ar h (M n)):=Amn hx hp hk e0 e hc n
theorem Ala{rl:List ResultVar}{s:Sig}{N:Nat}{js:List Nat}{x:Λt tyU s->Λt tyU s->Ox tyU (Au tyU s.codes)}{c:Code}{L B:Λt tyU s}{p:Nat}{h:E5}{M:CT h s}(hx:XF rl s N js x)(e:AtJ x L B c p M)(hc:Vs tyU tab Tryz.prog rl s N js c B L)(hp:Nat.ble 1 p=true:=by rfl):CF rl s N js c B p (ar h M):=Amm hx hp e hc
theorem Aa6{rl:List ResultVar}{s:Sig}{N:Nat}{js:List Nat}{x:Λt tyU s->Λt tyU s->Ox tyU (Au tyU s.codes)}{c0:Code}(hx:XF rl s N js x){L:Λt tyU s}{f:FuncId}{fn:Func}{m:Wk tyU s.ps (Rt s)}(e:EqF s (x L []) c0 m)(hc:Vs tyU tab Tryz.prog rl s N js c0 [] L)(hf:Tryz.prog.funcs[f]? =some fn)(hs:W8 tyU s.ps)(h1:(fn.name== "runtime.NumGoroutine")=false:=by rfl)(h2:fn.body=some c0:=by rfl)(h3:fn.results=rl.toArray:=by rfl)(h4:fn.ntmps=N:=by rfl)(h5:Nat.ble s.ps.length N=true:=by rfl)(h6:Nat.ble (A8 s.ps+1) 100=true:=by rfl)(h7:Nat.ble rl.length 4=true:=by rfl):OkF f ⟨s,m⟩:=Ao1 hx Apn e hc hf h1 h2 h3 h4 h5 h6 h7 hs
def Aux (K:Nat)(a0:List Int)(a1:Int):Option (Int):=(bif (decide ((Aob .i64 a1 (a0.length:Int))<0))then some (-1)else some (Aob .i64 a1 (a0.length:Int)))
def s_0:Sig:=⟨[.v 22,.v 3],[.v 3],true⟩
def c_0 (K:Nat):Gb tyU:=⟨s_0,Aux K⟩
def x_0 (K:Nat):=xF s_0 [] [] 12 [] [] [] [] [.tmp 4]
theorem B4g (K:Nat):OkF 127 (c_0 K):=
 Aa6 (x:=x_0 K) (L:=[]) (c0:=bd Tryz.f127) (xkF gN oN) (by intro a0 a1;show @Eq _ _ _;kernel_rfl) kN Tryz.func127 trivial
def An2 (K:Nat)(a0:List Int)(a1:Int):Option (Int):=(bif (decide ((Aob .i64 a1 (a0.length:Int))<0))then some (-1)else some (Aob .i64 a1 (a0.length:Int)))
def s_1:Sig:=⟨[.v 26,.v 3],[.v 3],true⟩
def c_1 (K:Nat):Gb tyU:=⟨s_1,An2 K⟩
def x_1 (K:Nat):=xF s_1 [] [] 12 [] [] [] [] [.tmp 4]
theorem Bm7 (K:Nat):OkF 63 (c_1 K):=
 Aa6 (x:=x_1 K) (L:=[]) (c0:=bd Tryz.f63) (xkF gN oN) (by intro a0 a1;show @Eq _ _ _;kernel_rfl) kN Tryz.func63 trivial
def Ato (K:Nat)(a0:Dx)(a1:Int):Option (Int):=((Aux K a0.Fy a1).bind fun r1=>(bif (decide (r1<0))then some (-1)else((An2 K a0.Hh r1).bind fun r2=>(bif (decide (r2<0))then some (-1)else((An2 K a0.Fz r2).bind fun r3=>(bif (decide (r3<0))then some (-1)else some r3))))))
def s_2:Sig:=⟨[.v 48,.v 3],[.v 3],true⟩
def c_2 (K:Nat):Gb tyU:=⟨s_2,Ato K⟩
def x_2 (K:Nat):=xF s_2 [(63,c_1 K),(127,c_0 K)] [] 24 [] [] [] [] [.tmp 4]
theorem B4h (K:Nat):OkF 60 (c_2 K):=
 Aa6 (x:=x_2 K) (L:=[]) (c0:=bd Tryz.f60) (xkF (gC (Bm7 K) (gC (B4g K) gN)) oN) (by intro a0 a1;show @Eq _ _ _;kernel_rfl) kN Tryz.func60 trivial
def Atw (K:Nat)(a0:List Bb)(a1:Int):Option (Int):=(bif (decide ((Aob .i64 a1 (a0.length:Int))<0))then some (-1)else some (Aob .i64 a1 (a0.length:Int)))
def s_3:Sig:=⟨[.v 152,.v 3],[.v 3],true⟩
def c_3 (K:Nat):Gb tyU:=⟨s_3,Atw K⟩
def x_3 (K:Nat):=xF s_3 [] [] 12 [] [] [] [] [.tmp 4]
theorem B4i (K:Nat):OkF 200 (c_3 K):=
 Aa6 (x:=x_3 K) (L:=[]) (c0:=bd Tryz.f200) (xkF gN oN) (by intro a0 a1;show @Eq _ _ _;kernel_rfl) kN Tryz.func200 trivial
def Ap9 (K:Nat)(a0:Bc)(a1:Int):Option (Int):=((An2 K a0.Ae a1).bind fun r1=>(bif (decide (r1<0))then some (-1)else((Atw K a0.Ea r1).bind fun r2=>(bif (decide (r2<0))then some (-1)else((An2 K a0.Dg r2).bind fun r3=>(bif (decide (r3<0))then some (-1)else some r3))))))
def s_4:Sig:=⟨[.v 154,.v 3],[.v 3],true⟩
def c_4 (K:Nat):Gb tyU:=⟨s_4,Ap9 K⟩
def x_4 (K:Nat):=xF s_4 [(63,c_1 K),(200,c_3 K)] [] 24 [] [] [] [] [.tmp 4]
theorem B4j (K:Nat):OkF 128 (c_4 K):=
 Aa6 (x:=x_4 K) (L:=[]) (c0:=bd Tryz.f128) (xkF (gC (Bm7 K) (gC (B4i K) gN)) oN) (by intro a0 a1;show @Eq _ _ _;kernel_rfl) kN Tryz.func128 trivial
def Aqb (K:Nat)(a0:List Bc):Nat->Int->Int->Option (Int)
 |0,_,_=>none
 |n1+1,v1,v2=>(bif (decide (v2<(a0.length:Int)))then(if(0:Int)≤v2∧v2<(a0.length:Int)then((Ap9 K (gt a0 v2) v1).bind fun r3=>(bif (decide (r3<0))then some (-1)else(Aqb K a0 n1 r3 (Aoa .i64 v2 1))))else none)else some v1)
def Asu (K:Nat)(a0:List Bc)(a1:Int):Option (Int):=(bif (decide ((Aob .i64 a1 (a0.length:Int))<0))then some (-1)else(Aqb K a0 K (Aob .i64 a1 (a0.length:Int)) 0))
def s_5:Sig:=⟨[.v 49,.v 3],[.v 3],true⟩
def c_5 (K:Nat):Gb tyU:=⟨s_5,Asu K⟩
def x_5 (K:Nat):=xF s_5 [(128,c_4 K)] [] 27 [] [] [] [] [.tmp 4]
def A8a:E5:=⟨[(0,.v 49),(1,.v 2),(5,.v 2)],[]⟩
def A8b (K:Nat)(n:Nat)(q:PT A8a):Rt s_5:=Aqb K q.1 n q.2.1 q.2.2.1
theorem Bm8 (K:Nat):AtL (x_5 K) (fun n=>[]) [] (bd Tryz.f61) 122 (A8b K):=fun n q=>by kernel_rfl
theorem Bx6 (K:Nat):XF [.tmp 4] s_5 27 [] (x_5 K):=xkF (gC (B4j K) gN) oN
theorem Bm9 (K:Nat)(n:Nat):CF [.tmp 4] s_5 27 [] (bd Tryz.f61) [] 122 (ar A8a (A8b K n)):=
 Aei (Bx6 K) (Bm8 K) (fun n=>kN) n
theorem B4l (K:Nat):OkF 61 (c_5 K):=
 Aa6 (x:=x_5 K) (L:=[(122,ar A8a (A8b K K))]) (c0:=bd Tryz.f61) (Bx6 K) (by intro a0 a1;show @Eq _ _ _;kernel_rfl) (kC (Bm9 K K) kN) Tryz.func61 trivial
def Aps (K:Nat)(a0:Ay)(a1:Int):Option (Int):=((An2 K a0.Dg a1).bind fun r1=>(bif (decide (r1<0))then some (-1)else((An2 K a0.Ae r1).bind fun r2=>(bif (decide (r2<0))then some (-1)else some r2))))
def s_6:Sig:=⟨[.v 157,.v 3],[.v 3],true⟩
def c_6 (K:Nat):Gb tyU:=⟨s_6,Aps K⟩
def x_6 (K:Nat):=xF s_6 [(63,c_1 K)] [] 18 [] [] [] [] [.tmp 4]
theorem B4m (K:Nat):OkF 129 (c_6 K):=
 Aa6 (x:=x_6 K) (L:=[]) (c0:=bd Tryz.f129) (xkF (gC (Bm7 K) gN) oN) (by intro a0 a1;show @Eq _ _ _;kernel_rfl) kN Tryz.func129 trivial
def Apv (K:Nat)(a0:List Ay):Nat->Int->Int->Option (Int)
 |0,_,_=>none
 |n1+1,v1,v2=>(bif (decide (v2<(a0.length:Int)))then(if(0:Int)≤v2∧v2<(a0.length:Int)then((Aps K (gt a0 v2) v1).bind fun r3=>(bif (decide (r3<0))then some (-1)else(Apv K a0 n1 r3 (Aoa .i64 v2 1))))else none)else some v1)
def Ar4 (K:Nat)(a0:List Ay)(a1:Int):Option (Int):=(bif (decide ((Aob .i64 a1 (a0.length:Int))<0))then some (-1)else(Apv K a0 K (Aob .i64 a1 (a0.length:Int)) 0))
def s_7:Sig:=⟨[.v 50,.v 3],[.v 3],true⟩
def c_7 (K:Nat):Gb tyU:=⟨s_7,Ar4 K⟩
def x_7 (K:Nat):=xF s_7 [(129,c_6 K)] [] 27 [] [] [] [] [.tmp 4]
def A8c:E5:=⟨[(0,.v 50),(1,.v 2),(5,.v 2)],[]⟩
def A8d (K:Nat)(n:Nat)(q:PT A8c):Rt s_7:=Apv K q.1 n q.2.1 q.2.2.1
theorem Bna (K:Nat):AtL (x_7 K) (fun n=>[]) [] (bd Tryz.f62) 122 (A8d K):=fun n q=>by kernel_rfl
theorem Bx7 (K:Nat):XF [.tmp 4] s_7 27 [] (x_7 K):=xkF (gC (B4m K) gN) oN
theorem Bnb (K:Nat)(n:Nat):CF [.tmp 4] s_7 27 [] (bd Tryz.f62) [] 122 (ar A8c (A8d K n)):=
 Aei (Bx7 K) (Bna K) (fun n=>kN) n
theorem B4o (K:Nat):OkF 62 (c_7 K):=
 Aa6 (x:=x_7 K) (L:=[(122,ar A8c (A8d K K))]) (c0:=bd Tryz.f62) (Bx7 K) (by intro a0 a1;show @Eq _ _ _;kernel_rfl) (kC (Bnb K K) kN) Tryz.func62 trivial
def Aqe (K:Nat)(a0:Ec)(a1:Int):Option (Int):=((Ato K a0.fP a1).bind fun r1=>(bif (decide (r1<0))then some (-1)else((Asu K a0.fL r1).bind fun r2=>(bif (decide (r2<0))then some (-1)else((Ar4 K a0.fQ r2).bind fun r3=>(bif (decide (r3<0))then some (-1)else((An2 K a0.Pr r3).bind fun r4=>(bif (decide (r4<0))then some (-1)else some r4))))))))
def s_8:Sig:=⟨[.v 52,.v 3],[.v 3],true⟩
def c_8 (K:Nat):Gb tyU:=⟨s_8,Aqe K⟩
def x_8 (K:Nat):=xF s_8 [(60,c_2 K),(61,c_5 K),(62,c_7 K),(63,c_1 K)] [] 30 [] [] [] [] [.tmp 4]
theorem B4p (K:Nat):OkF 18 (c_8 K):=
 Aa6 (x:=x_8 K) (L:=[]) (c0:=bd Tryz.f18) (xkF (gC (B4h K) (gC (B4l K) (gC (B4o K) (gC (Bm7 K) gN)))) oN) (by intro a0 a1;show @Eq _ _ _;kernel_rfl) kN Tryz.func18 trivial
def Ayj (K:Nat)(a0:Es):Option (Er):=some (Er.mk a0.Ae a0.Eg a0.C0 a0.E9 a0.C1 a0.Eh)
def s_9:Sig:=⟨[.v 47],[.v 25],true⟩
def c_9 (K:Nat):Gb tyU:=⟨s_9,Ayj K⟩
def x_9 (K:Nat):=xF s_9 [] [] 23 [] [] [] [] [.cell 2 25]
theorem B4q (K:Nat):OkF 65 (c_9 K):=
 Aa6 (x:=x_9 K) (L:=[]) (c0:=bd Tryz.f65) (xkF gN oN) (by intro a0;show @Eq _ _ _;kernel_rfl) kN Tryz.func65 trivial
def Ata (K:Nat)(a0:List Int):Nat->(List Int)->Int->Option ((List Int))
 |0,_,_=>none
 |n1+1,v1,v2=>(bif (decide (v2<(a0.length:Int)))then(if(0:Int)≤v2∧v2<(a0.length:Int)then(if(0:Int)≤v2∧v2<(v1.length:Int)then(Ata K a0 n1 (v1.set v2.toNat (gt a0 v2)) (Aoa .i64 v2 1))else none)else none)else some v1)
def Auy (K:Nat)(a0:List Int):Option ((List Int)):=(if(0:Int)≤(a0.length:Int)∧(a0.length:Int)≤(a0.length:Int)∧(1:Int)*(a0.length:Int)≤281474976710656∧(a0.length:Int)≤9223372036854775807 then(Ata K a0 K (List.replicate (a0.length:Int).toNat 0) 0)else none)
def s_10:Sig:=⟨[.v 22],[.n 22 true],true⟩
def Bx8 (K:Nat):Gb tyU:=⟨s_10,Auy K⟩
def Bur (K:Nat):=xF s_10 [] [] 22 [] [] [] [] [.tmp 2]
def A8e:E5:=⟨[(0,.v 22),(3,.o 1003 5 true),(4,.v 2)],[]⟩
def A8f (K:Nat)(n:Nat)(q:PT A8e):Rt s_10:=Ata K q.1 n q.2.1 q.2.2.1
theorem Bnc (K:Nat):AtL (Bur K) (fun n=>[]) [] (bd Tryz.f46) 58 (A8f K):=fun n q=>by kernel_rfl
theorem Bql (K:Nat):XF [.tmp 2] s_10 22 [] (Bur K):=xkF gN oN
theorem Bnd (K:Nat)(n:Nat):CF [.tmp 2] s_10 22 [] (bd Tryz.f46) [] 58 (ar A8e (A8f K n)):=
 Aei (Bql K) (Bnc K) (fun n=>kN) n
theorem Bx9 (K:Nat):OkF 46 (Bx8 K):=
 Aa6 (x:=Bur K) (L:=[(58,ar A8e (A8f K K))]) (c0:=bd Tryz.f46) (Bql K) (by intro a0;show @Eq _ _ _;kernel_rfl) (kC (Bnd K K) kN) Tryz.func46 trivial
def Atx (K:Nat)(a0:List Int):Nat->(List Int)->Int->Option ((List Int))
 |0,_,_=>none
 |n1+1,v1,v2=>(bif (decide (v2<(a0.length:Int)))then(if(0:Int)≤v2∧v2<(a0.length:Int)then(if(0:Int)≤v2∧v2<(v1.length:Int)then(Atx K a0 n1 (v1.set v2.toNat (gt a0 v2)) (Aoa .i64 v2 1))else none)else none)else some v1)
def An3 (K:Nat)(a0:List Int):Option ((List Int)):=(if(0:Int)≤(a0.length:Int)∧(a0.length:Int)≤(a0.length:Int)∧(8:Int)*(a0.length:Int)≤281474976710656∧(a0.length:Int)≤9223372036854775807 then(Atx K a0 K (List.replicate (a0.length:Int).toNat 0) 0)else none)
def s_11:Sig:=⟨[.v 26],[.n 26 true],true⟩
def Bhj (K:Nat):Gb tyU:=⟨s_11,An3 K⟩
def Bus (K:Nat):=xF s_11 [] [] 22 [] [] [] [] [.tmp 2]
def A8g:E5:=⟨[(0,.v 26),(3,.o 1003 3 true),(4,.v 2)],[]⟩
def A8h (K:Nat)(n:Nat)(q:PT A8g):Rt s_11:=Atx K q.1 n q.2.1 q.2.2.1
theorem Bne (K:Nat):AtL (Bus K) (fun n=>[]) [] (bd Tryz.f69) 58 (A8h K):=fun n q=>by kernel_rfl
theorem Bqm (K:Nat):XF [.tmp 2] s_11 22 [] (Bus K):=xkF gN oN
theorem Bnf (K:Nat)(n:Nat):CF [.tmp 2] s_11 22 [] (bd Tryz.f69) [] 58 (ar A8g (A8h K n)):=
 Aei (Bqm K) (Bne K) (fun n=>kN) n
theorem Bd6 (K:Nat):OkF 69 (Bhj K):=
 Aa6 (x:=Bus K) (L:=[(58,ar A8g (A8h K K))]) (c0:=bd Tryz.f69) (Bqm K) (by intro a0;show @Eq _ _ _;kernel_rfl) (kC (Bnf K K) kN) Tryz.func69 trivial
def Ayk (K:Nat)(a0:Dx):Option (Dw):=((Auy K a0.Fy).bind fun r1=>((An3 K a0.Hh).bind fun r2=>((An3 K a0.Fz).bind fun r3=>some (Dw.mk r1 r2 r3))))
def Bya:Sig:=⟨[.v 48],[.n 28 true],true⟩
def Byb (K:Nat):Gb tyU:=⟨Bya,Ayk K⟩
def B4r (K:Nat):=xF Bya [(46,Bx8 K),(69,Bhj K)] [] 17 [] [] [] [] [.cell 2 28]
theorem Byc (K:Nat):OkF 66 (Byb K):=
 Aa6 (x:=B4r K) (L:=[]) (c0:=bd Tryz.f66) (xkF (gC (Bx9 K) (gC (Bd6 K) gN)) oN) (by intro a0;show @Eq _ _ _;kernel_rfl) kN Tryz.func66 trivial
def Axk (K:Nat)(a0:Bb):Option (A9):=some (A9.mk a0.fAt a0.Vu a0.Vv)
def Byd:Sig:=⟨[.v 222],[.v 89],true⟩
def Bye (K:Nat):Gb tyU:=⟨Byd,Axk K⟩
def B4s (K:Nat):=xF Byd [] [] 14 [] [] [] [] [.cell 2 89]
theorem Byf (K:Nat):OkF 260 (Bye K):=
 Aa6 (x:=B4s K) (L:=[]) (c0:=bd Tryz.f260) (xkF gN oN) (by intro a0;show @Eq _ _ _;kernel_rfl) kN Tryz.func260 trivial
def Asl (K:Nat)(a0:List Bb):Nat->(List A9)->Int->Option ((List A9))
 |0,_,_=>none
 |n1+1,v1,v2=>(bif (decide (v2<(a0.length:Int)))then(if(0:Int)≤v2∧v2<(a0.length:Int)then((Axk K (gt a0 v2)).bind fun r3=>(if(0:Int)≤v2∧v2<(v1.length:Int)then(Asl K a0 n1 (v1.set v2.toNat r3) (Aoa .i64 v2 1))else none))else none)else some v1)
def Aty (K:Nat)(a0:List Bb):Option ((List A9)):=(if(0:Int)≤(a0.length:Int)∧(a0.length:Int)≤(a0.length:Int)∧(24:Int)*(a0.length:Int)≤281474976710656∧(a0.length:Int)≤9223372036854775807 then(Asl K a0 K (List.replicate (a0.length:Int).toNat (A9.mk 0 0 0)) 0)else none)
def s_14:Sig:=⟨[.v 152],[.n 41 true],true⟩
def Byg (K:Nat):Gb tyU:=⟨s_14,Aty K⟩
def But (K:Nat):=xF s_14 [(260,Bye K)] [] 23 [] [] [] [] [.tmp 2]
def A8i:E5:=⟨[(0,.v 152),(3,.o 1003 89 true),(4,.v 2)],[]⟩
def A8j (K:Nat)(n:Nat)(q:PT A8i):Rt s_14:=Asl K q.1 n q.2.1 q.2.2.1
theorem Bng (K:Nat):AtL (But K) (fun n=>[]) [] (bd Tryz.f204) 58 (A8j K):=fun n q=>by kernel_rfl
theorem Bqn (K:Nat):XF [.tmp 2] s_14 23 [] (But K):=xkF (gC (Byf K) gN) oN
theorem Bnh (K:Nat)(n:Nat):CF [.tmp 2] s_14 23 [] (bd Tryz.f204) [] 58 (ar A8i (A8j K n)):=
 Aei (Bqn K) (Bng K) (fun n=>kN) n
theorem Byh (K:Nat):OkF 204 (Byg K):=
 Aa6 (x:=But K) (L:=[(58,ar A8i (A8j K K))]) (c0:=bd Tryz.f204) (Bqn K) (by intro a0;show @Eq _ _ _;kernel_rfl) (kC (Bnh K K) kN) Tryz.func204 trivial
def Atp (K:Nat)(a0:Bc):Option (Ba):=((An3 K a0.Ae).bind fun r1=>((Aty K a0.Ea).bind fun r2=>((An3 K a0.Dg).bind fun r3=>some (Ba.mk a0.Hh a0.C2 a0.Ly a0.fUp a0.Gq a0.Bt a0.Gr a0.Gs r1 a0.Pq a0.Gt r2 r3))))
def Byi:Sig:=⟨[.v 154],[.n 44 true],true⟩
def Byj (K:Nat):Gb tyU:=⟨Byi,Atp K⟩
def B4t (K:Nat):=xF Byi [(69,Bhj K),(204,Byg K)] [] 47 [] [] [] [] [.cell 2 44]
theorem Byk (K:Nat):OkF 131 (Byj K):=
 Aa6 (x:=B4t K) (L:=[]) (c0:=bd Tryz.f131) (xkF (gC (Bd6 K) (gC (Byh K) gN)) oN) (by intro a0;show @Eq _ _ _;kernel_rfl) kN Tryz.func131 trivial
def Atb (K:Nat)(a0:List Bc):Nat->(List Ba)->Int->Option ((List Ba))
 |0,_,_=>none
 |n1+1,v1,v2=>(bif (decide (v2<(a0.length:Int)))then(if(0:Int)≤v2∧v2<(a0.length:Int)then((Atp K (gt a0 v2)).bind fun r3=>(if(0:Int)≤v2∧v2<(v1.length:Int)then(Atb K a0 n1 (v1.set v2.toNat r3) (Aoa .i64 v2 1))else none))else none)else some v1)
def Auz (K:Nat)(a0:List Bc):Option ((List Ba)):=(if(0:Int)≤(a0.length:Int)∧(a0.length:Int)≤(a0.length:Int)∧(152:Int)*(a0.length:Int)≤281474976710656∧(a0.length:Int)≤9223372036854775807 then(Atb K a0 K (List.replicate (a0.length:Int).toNat (Ba.mk 0 0 0 0 0 0 0 0 [] 0 0 [] [])) 0)else none)
def s_16:Sig:=⟨[.v 49],[.n 29 true],true⟩
def Byl (K:Nat):Gb tyU:=⟨s_16,Auz K⟩
def Buu (K:Nat):=xF s_16 [(131,Byj K)] [] 23 [] [] [] [] [.tmp 2]
def A8k:E5:=⟨[(0,.v 49),(3,.o 1003 44 true),(4,.v 2)],[]⟩
def A8l (K:Nat)(n:Nat)(q:PT A8k):Rt s_16:=Atb K q.1 n q.2.1 q.2.2.1
theorem Bni (K:Nat):AtL (Buu K) (fun n=>[]) [] (bd Tryz.f67) 58 (A8l K):=fun n q=>by kernel_rfl
theorem Bqo (K:Nat):XF [.tmp 2] s_16 23 [] (Buu K):=xkF (gC (Byk K) gN) oN
theorem Bnj (K:Nat)(n:Nat):CF [.tmp 2] s_16 23 [] (bd Tryz.f67) [] 58 (ar A8k (A8l K n)):=
 Aei (Bqo K) (Bni K) (fun n=>kN) n
theorem Bym (K:Nat):OkF 67 (Byl K):=
 Aa6 (x:=Buu K) (L:=[(58,ar A8k (A8l K K))]) (c0:=bd Tryz.f67) (Bqo K) (by intro a0;show @Eq _ _ _;kernel_rfl) (kC (Bnj K K) kN) Tryz.func67 trivial
def Asv (K:Nat)(a0:Ay):Option (Ax):=((An3 K a0.Dg).bind fun r1=>((An3 K a0.Ae).bind fun r2=>some (Ax.mk a0.A5 a0.Bt r1 r2 a0.Gu)))
def Byn:Sig:=⟨[.v 157],[.n 159 true],true⟩
def Byo (K:Nat):Gb tyU:=⟨Byn,Asv K⟩
def B4u (K:Nat):=xF Byn [(69,Bhj K)] [] 22 [] [] [] [] [.cell 2 159]
theorem Byp (K:Nat):OkF 132 (Byo K):=
 Aa6 (x:=B4u K) (L:=[]) (c0:=bd Tryz.f132) (xkF (gC (Bd6 K) gN) oN) (by intro a0;show @Eq _ _ _;kernel_rfl) kN Tryz.func132 trivial
def Asm (K:Nat)(a0:List Ay):Nat->(List Ax)->Int->Option ((List Ax))
 |0,_,_=>none
 |n1+1,v1,v2=>(bif (decide (v2<(a0.length:Int)))then(if(0:Int)≤v2∧v2<(a0.length:Int)then((Asv K (gt a0 v2)).bind fun r3=>(if(0:Int)≤v2∧v2<(v1.length:Int)then(Asm K a0 n1 (v1.set v2.toNat r3) (Aoa .i64 v2 1))else none))else none)else some v1)
def Atz (K:Nat)(a0:List Ay):Option ((List Ax)):=(if(0:Int)≤(a0.length:Int)∧(a0.length:Int)≤(a0.length:Int)∧(72:Int)*(a0.length:Int)≤281474976710656∧(a0.length:Int)≤9223372036854775807 then(Asm K a0 K (List.replicate (a0.length:Int).toNat (Ax.mk 0 0 [] [] 0)) 0)else none)
def s_18:Sig:=⟨[.v 50],[.n 30 true],true⟩
def Byq (K:Nat):Gb tyU:=⟨s_18,Atz K⟩
def Buv (K:Nat):=xF s_18 [(132,Byo K)] [] 23 [] [] [] [] [.tmp 2]
def A8m:E5:=⟨[(0,.v 50),(3,.o 1003 159 true),(4,.v 2)],[]⟩
def A8n (K:Nat)(n:Nat)(q:PT A8m):Rt s_18:=Asm K q.1 n q.2.1 q.2.2.1
theorem Bnk (K:Nat):AtL (Buv K) (fun n=>[]) [] (bd Tryz.f68) 58 (A8n K):=fun n q=>by kernel_rfl
theorem Bqp (K:Nat):XF [.tmp 2] s_18 23 [] (Buv K):=xkF (gC (Byp K) gN) oN
theorem Bnl (K:Nat)(n:Nat):CF [.tmp 2] s_18 23 [] (bd Tryz.f68) [] 58 (ar A8m (A8n K n)):=
 Aei (Bqp K) (Bnk K) (fun n=>kN) n
theorem Byr (K:Nat):OkF 68 (Byq K):=
 Aa6 (x:=Buv K) (L:=[(58,ar A8m (A8n K K))]) (c0:=bd Tryz.f68) (Bqp K) (by intro a0;show @Eq _ _ _;kernel_rfl) (kC (Bnl K K) kN) Tryz.func68 trivial
def Ard (K:Nat)(a0:Ec):Option (Eb):=((Ayj K a0.fC).bind fun r1=>((Ayk K a0.fP).bind fun r2=>((Auz K a0.fL).bind fun r3=>((Atz K a0.fQ).bind fun r4=>((An3 K a0.Pr).bind fun r5=>some (Eb.mk r1 r2 r3 r4 r5))))))
def Bys:Sig:=⟨[.v 52],[.n 32 true],true⟩
def Byt (K:Nat):Gb tyU:=⟨Bys,Ard K⟩
def B4v (K:Nat):=xF Bys [(65,c_9 K),(66,Byb K),(67,Byl K),(68,Byq K),(69,Bhj K)] [] 25 [] [] [] [] [.cell 2 32]
theorem Byu (K:Nat):OkF 20 (Byt K):=
 Aa6 (x:=B4v K) (L:=[]) (c0:=bd Tryz.f20) (xkF (gC (B4q K) (gC (Byc K) (gC (Bym K) (gC (Byr K) (gC (Bd6 K) gN))))) oN) (by intro a0;show @Eq _ _ _;kernel_rfl) kN Tryz.func20 trivial
def At0 (K:Nat)(a0:Dn):Option (Ct):=some (Ct.mk a0.A5 a0.C2)
def Byv:Sig:=⟨[.v 53],[.v 34],true⟩
def Byw (K:Nat):Gb tyU:=⟨Byv,At0 K⟩
def B4w (K:Nat):=xF Byv [] [] 11 [] [] [] [] [.cell 2 34]
theorem Byx (K:Nat):OkF 21 (Byw K):=
 Aa6 (x:=B4w K) (L:=[]) (c0:=bd Tryz.f21) (xkF gN oN) (by intro a0;show @Eq _ _ _;kernel_rfl) kN Tryz.func21 trivial
def Atq (K:Nat)(a0:Dw):Option (Dw):=(if(([]:List Int)++a0.Fy).length*1≤140737488355328∧(([]:List Int)++a0.Fy).length≤maxLen then(if(([]:List Int)++a0.Hh).length*8≤140737488355328∧(([]:List Int)++a0.Hh).length≤maxLen then(if(([]:List Int)++a0.Fz).length*8≤140737488355328∧(([]:List Int)++a0.Fz).length≤maxLen then some (Dw.mk (([]:List Int)++a0.Fy) (([]:List Int)++a0.Hh) (([]:List Int)++a0.Fz))else none)else none)else none)
def Byy:Sig:=⟨[.v 28],[.n 28 true],true⟩
def Buw (K:Nat):Gb tyU:=⟨Byy,Atq K⟩
def B4x (K:Nat):=xF Byy [] [] 16 [] [] [] [] [.cell 2 28]
theorem Bqq (K:Nat):OkF 137 (Buw K):=
 Aa6 (x:=B4x K) (L:=[]) (c0:=bd Tryz.f137) (xkF gN oN) (by intro a0;show @Eq _ _ _;kernel_rfl) kN Tryz.func137 trivial
def Av7 (K:Nat)(a0:Ba):Option (Ba):=(if(([]:List Int)++a0.Ae).length*8≤140737488355328∧(([]:List Int)++a0.Ae).length≤maxLen then(if(([]:List A9)++a0.Ea).length*24≤140737488355328∧(([]:List A9)++a0.Ea).length≤maxLen then(if(([]:List Int)++a0.Dg).length*8≤140737488355328∧(([]:List Int)++a0.Dg).length≤maxLen then some (Ba.mk a0.Hh a0.C2 a0.Ly a0.fUp a0.Gq a0.Bt a0.Gr a0.Gs (([]:List Int)++a0.Ae) a0.Pq a0.Gt (([]:List A9)++a0.Ea) (([]:List Int)++a0.Dg))else none)else none)else none)
def Byz:Sig:=⟨[.v 44],[.n 44 true],true⟩
def By0 (K:Nat):Gb tyU:=⟨Byz,Av7 K⟩
def B4y (K:Nat):=xF Byz [] [] 21 [] [] [] [] [.cell 2 44]
theorem By1 (K:Nat):OkF 209 (By0 K):=
 Aa6 (x:=B4y K) (L:=[]) (c0:=bd Tryz.f209) (xkF gN oN) (by intro a0;show @Eq _ _ _;kernel_rfl) kN Tryz.func209 trivial
def Aqf (K:Nat)(a0:List Ba):Nat->(List Ba)->Int->Option ((List Ba))
 |0,_,_=>none
 |n1+1,v1,v2=>(bif (decide (v2<(a0.length:Int)))then(if(0:Int)≤v2∧v2<(a0.length:Int)then((Av7 K (gt a0 v2)).bind fun r3=>(if(v1++[r3]).length*152≤140737488355328∧(v1++[r3]).length≤maxLen then(Aqf K a0 n1 (v1++[r3]) (Aoa .i64 v2 1))else none))else none)else some v1)
def Au0 (K:Nat)(a0:List Ba):Option ((List Ba)):=(Aqf K a0 K ([]:List Ba) 0)
def s_23:Sig:=⟨[.v 29],[.n 29 true],true⟩
def Bux (K:Nat):Gb tyU:=⟨s_23,Au0 K⟩
def Buy (K:Nat):=xF s_23 [(209,By0 K)] [] 23 [] [] [(20,[.put 3020])] [] [.tmp 2]
def A8o:E5:=⟨[(0,.v 29),(3,.o 1003 44 true),(4,.v 2)],[]⟩
def A8p (K:Nat)(n:Nat)(q:PT A8o):Rt s_23:=Aqf K q.1 n q.2.1 q.2.2.1
theorem Bnm (K:Nat):AtL (Buy K) (fun n=>[]) [] (bd Tryz.f138) 58 (A8p K):=fun n q=>by kernel_rfl
theorem Bqr (K:Nat):XF [.tmp 2] s_23 23 [] (Buy K):=xkF (gC (By1 K) gN) oN
theorem Bnn (K:Nat)(n:Nat):CF [.tmp 2] s_23 23 [] (bd Tryz.f138) [] 58 (ar A8o (A8p K n)):=
 Aei (Bqr K) (Bnm K) (fun n=>kN) n
theorem Bqs (K:Nat):OkF 138 (Bux K):=
 Aa6 (x:=Buy K) (L:=[(58,ar A8o (A8p K K))]) (c0:=bd Tryz.f138) (Bqr K) (by intro a0;show @Eq _ _ _;kernel_rfl) (kC (Bnn K K) kN) Tryz.func138 trivial
def Au1 (K:Nat)(a0:Ax):Option (Ax):=(if(([]:List Int)++a0.Dg).length*8≤140737488355328∧(([]:List Int)++a0.Dg).length≤maxLen then(if(([]:List Int)++a0.Ae).length*8≤140737488355328∧(([]:List Int)++a0.Ae).length≤maxLen then some (Ax.mk a0.A5 a0.Bt (([]:List Int)++a0.Dg) (([]:List Int)++a0.Ae) a0.Gu)else none)else none)
def By2:Sig:=⟨[.v 159],[.n 159 true],true⟩
def By3 (K:Nat):Gb tyU:=⟨By2,Au1 K⟩
def B4z (K:Nat):=xF By2 [] [] 16 [] [] [] [] [.cell 2 159]
theorem By4 (K:Nat):OkF 139 (By3 K):=
 Aa6 (x:=B4z K) (L:=[]) (c0:=bd Tryz.f139) (xkF gN oN) (by intro a0;show @Eq _ _ _;kernel_rfl) kN Tryz.func139 trivial
def Apl (K:Nat):Nat->Int->Int->Int->Int->Int->Int->Int->(List Int)->(List Int)->(List Int)->(List Ba)->(List Ax)->(List Int)->Eb->Int->Int->Int->Int->Int->Int->(List Int)->(List Int)->(List Int)->(List Ba)->(List Ax)->(List Int)->Option (Eb)
 |0,_,_,_,_,_,_,_,_,_,_,_,_,_,_,_,_,_,_,_,_,_,_,_,_,_,_=>none
 |n1+1,v3,v4,v5,v6,v7,v8,v9,v10,v11,v12,v13,v14,v15,v16,v17,v18,v19,v20,v21,v22,v23,v24,v25,v26,v27,v28=>(bif (decide (v3<(v27.length:Int)))then(if(0:Int)≤v3∧v3<(v27.length:Int)then((Au1 K (gt v27 v3)).bind fun r29=>(if(v14++[r29]).length*72≤140737488355328∧(v14++[r29]).length≤maxLen then(Apl K n1 (Aoa .i64 v3 1) v4 v5 v6 v7 v8 v9 v10 v11 v12 v13 (v14++[r29]) v15 v16 v17 v18 v19 v20 v21 v22 v23 v24 v25 v26 v27 v28)else none))else none)else(if(([]:List Int)++v28).length*8≤140737488355328∧(([]:List Int)++v28).length≤maxLen then some (Eb.mk (Er.mk v4 v5 v6 v7 v8 v9) (Dw.mk v10 v11 v12) v13 v14 (([]:List Int)++v28))else none))
def Au2 (K:Nat)(a0:Eb):Option (Eb):=((Atq K a0.fP).bind fun r1=>((Au0 K a0.fL).bind fun r2=>(Apl K K 0 a0.fC.Ae a0.fC.Eg a0.fC.C0 a0.fC.E9 a0.fC.C1 a0.fC.Eh r1.Fy r1.Hh r1.Fz r2 ([]:List Ax) a0.Pr (Eb.mk (Er.mk 0 0 0 0 0 0) (Dw.mk [] [] []) [] [] []) a0.fC.Ae a0.fC.Eg a0.fC.C0 a0.fC.E9 a0.fC.C1 a0.fC.Eh a0.fP.Fy a0.fP.Hh a0.fP.Fz a0.fL a0.fQ a0.Pr)))
def s_25:Sig:=⟨[.v 32],[.n 32 true],true⟩
def By5 (K:Nat):Gb tyU:=⟨s_25,Au2 K⟩
def Buz (K:Nat):=xF s_25 [(137,Buw K),(138,Bux K),(139,By3 K)] [] 42 [] [(9,[.take 103 10 6658]),(11,[.take 103 6 6654,.take 103 7 6655,.take 103 8 6656,.take 103 9 6657,.take 103 10 6658])] [(33,[.put 3033])] [] [.cell 2 32]
def A35:E5:=⟨[(1,.p 101),(2,.p 102),(3,.p 103),(4,.v 2)],[(103,.box [.v 2,.v 2,.v 2,.v 2,.v 2,.v 2,.T 5 true,.T 3 true,.T 3 true,.T 44 true,.T 159 true,.v 26]),(102,.st 32 true),(101,.box [.v 2,.v 2,.v 2,.v 2,.v 2,.v 2,.v 22,.v 26,.v 26,.v 29,.v 30,.v 26])]⟩
def A36 (K:Nat)(n:Nat)(q:PT A35):Rt s_25:=Apl K n q.1 q.2.1 q.2.2.1 q.2.2.2.1 q.2.2.2.2.1 q.2.2.2.2.2.1 q.2.2.2.2.2.2.1 q.2.2.2.2.2.2.2.1 q.2.2.2.2.2.2.2.2.1 q.2.2.2.2.2.2.2.2.2.1 q.2.2.2.2.2.2.2.2.2.2.1 q.2.2.2.2.2.2.2.2.2.2.2.1 q.2.2.2.2.2.2.2.2.2.2.2.2.1 q.2.2.2.2.2.2.2.2.2.2.2.2.2.1 q.2.2.2.2.2.2.2.2.2.2.2.2.2.2.1 q.2.2.2.2.2.2.2.2.2.2.2.2.2.2.2.1 q.2.2.2.2.2.2.2.2.2.2.2.2.2.2.2.2.1 q.2.2.2.2.2.2.2.2.2.2.2.2.2.2.2.2.2.1 q.2.2.2.2.2.2.2.2.2.2.2.2.2.2.2.2.2.2.1 q.2.2.2.2.2.2.2.2.2.2.2.2.2.2.2.2.2.2.2.1 q.2.2.2.2.2.2.2.2.2.2.2.2.2.2.2.2.2.2.2.2.1 q.2.2.2.2.2.2.2.2.2.2.2.2.2.2.2.2.2.2.2.2.2.1 q.2.2.2.2.2.2.2.2.2.2.2.2.2.2.2.2.2.2.2.2.2.2.1 q.2.2.2.2.2.2.2.2.2.2.2.2.2.2.2.2.2.2.2.2.2.2.2.1 q.2.2.2.2.2.2.2.2.2.2.2.2.2.2.2.2.2.2.2.2.2.2.2.2.1 q.2.2.2.2.2.2.2.2.2.2.2.2.2.2.2.2.2.2.2.2.2.2.2.2.2.1
theorem Bhk (K:Nat):AtL (Buz K) (fun n=>[]) [] (bd Tryz.f82) 506 (A36 K):=fun n q=>by kernel_rfl
theorem Bqt (K:Nat):XF [.cell 2 32] s_25 42 [] (Buz K):=xkF (gC (Bqq K) (gC (Bqs K) (gC (By4 K) gN))) oN
theorem Bhl (K:Nat)(n:Nat):CF [.cell 2 32] s_25 42 [] (bd Tryz.f82) [] 506 (ar A35 (A36 K n)):=
 Aei (Bqt K) (Bhk K) (fun n=>kN) n
theorem By6 (K:Nat):OkF 82 (By5 K):=
 Aa6 (x:=Buz K) (L:=[(506,ar A35 (A36 K K))]) (c0:=bd Tryz.f82) (Bqt K) (by intro a0;show @Eq _ _ _;kernel_rfl) (kC (Bhl K K) kN) Tryz.func82 trivial
def Abk (K:Nat)(a0:Int)(a1:Int)(a2:Int):Option (Bool):=(bif (decide (a0≥a1))then some (decide (a0≤a2))else some false)
def By7:Sig:=⟨[.v 3,.v 3,.v 3],[.v 4],true⟩
def A3u (K:Nat):Gb tyU:=⟨By7,Abk K⟩
def B40 (K:Nat):=xF By7 [] [] 15 [9,10] [] [] [] [.tmp 6]
theorem Azn (K:Nat):OkF 84 (A3u K):=
 Aa6 (x:=B40 K) (L:=[]) (c0:=bd Tryz.f84) (xkF gN oN) (by intro a0 a1 a2;show @Eq _ _ _;kernel_rfl) kN Tryz.func84 trivial
def Aq6 (K:Nat)(a0:Er):Option (Bool):=((Abk K a0.Ae 2 12).bind fun r1=>(bif r1 then((Abk K a0.Eg 8 16).bind fun r2=>(bif r2 then((Abk K a0.C0 2 8).bind fun r3=>(bif r3 then((Abk K a0.E9 1 8).bind fun r4=>(bif r4 then((Abk K a0.C1 1 16).bind fun r5=>(bif r5 then((Abk K a0.Eh 1 4).bind fun r6=>some r6)else some false))else some false))else some false))else some false))else some false))
def By8:Sig:=⟨[.v 25],[.v 4],true⟩
def Bhm (K:Nat):Gb tyU:=⟨By8,Aq6 K⟩
def B41 (K:Nat):=xF By8 [(84,A3u K)] [] 31 [5,6,9,10,11,14,15,16,19,20,21,24,25,26] [] [] [] [.tmp 2]
theorem Bd7 (K:Nat):OkF 210 (Bhm K):=
 Aa6 (x:=B41 K) (L:=[]) (c0:=bd Tryz.f210) (xkF (gC (Azn K) gN) oN) (by intro a0;show @Eq _ _ _;kernel_rfl) kN Tryz.func210 trivial
def Asw (K:Nat)(a0:Er):Option (Int):=((Aq6 K a0).bind fun r1=>(bif (!r1)then some 0 else some (Aoc .i64 a0.Ae a0.Eg)))
def By9:Sig:=⟨[.v 25],[.v 3],true⟩
def Bu0 (K:Nat):Gb tyU:=⟨By9,Asw K⟩
def B42 (K:Nat):=xF By9 [(210,Bhm K)] [] 11 [] [] [] [] [.tmp 2]
theorem Bqu (K:Nat):OkF 211 (Bu0 K):=
 Aa6 (x:=B42 K) (L:=[]) (c0:=bd Tryz.f211) (xkF (gC (Bd7 K) gN) oN) (by intro a0;show @Eq _ _ _;kernel_rfl) kN Tryz.func211 trivial
def Aqo (K:Nat)(a0:List Int):Nat->Int->Option (Bool)
 |0,_=>none
 |n1+1,v1=>(bif (decide (v1<(a0.length:Int)))then(if(0:Int)≤v1∧v1<(a0.length:Int)then(bif ((gt a0 v1) != 0)then some false else(Aqo K a0 n1 (Aoa .i64 v1 1)))else none)else some true)
def Asc (K:Nat)(a0:List Int):Option (Bool):=(Aqo K a0 K 0)
def s_29:Sig:=⟨[.v 22],[.v 4],true⟩
def Bno (K:Nat):Gb tyU:=⟨s_29,Asc K⟩
def Bu1 (K:Nat):=xF s_29 [] [] 15 [] [] [] [] [.tmp 2]
def A8q:E5:=⟨[(0,.v 22),(3,.v 2)],[]⟩
def A8r (K:Nat)(n:Nat)(q:PT A8q):Rt s_29:=Aqo K q.1 n q.2.1
theorem Bnp (K:Nat):AtL (Bu1 K) (fun n=>[]) [] (bd Tryz.f212) 26 (A8r K):=fun n q=>by kernel_rfl
theorem Bqv (K:Nat):XF [.tmp 2] s_29 15 [] (Bu1 K):=xkF gN oN
theorem Bnq (K:Nat)(n:Nat):CF [.tmp 2] s_29 15 [] (bd Tryz.f212) [] 26 (ar A8q (A8r K n)):=
 Aei (Bqv K) (Bnp K) (fun n=>kN) n
theorem Bhn (K:Nat):OkF 212 (Bno K):=
 Aa6 (x:=Bu1 K) (L:=[(26,ar A8q (A8r K K))]) (c0:=bd Tryz.f212) (Bqv K) (by intro a0;show @Eq _ _ _;kernel_rfl) (kC (Bnq K K) kN) Tryz.func212 trivial
def At1 (K:Nat)(v3:Int)(v4:List Int)(v5:List Int)(v6:List Int)(C1:Int->(List Int)->(List Int)->(List Int)->Option (Bool)):Option (Bool):=(C1 (Aoa .i64 v3 1) v4 v5 v6)
def Aqq (K:Nat)(a0:Er)(v3:Int)(v4:List Int)(v5:List Int)(v6:List Int)(C1:Int->(List Int)->(List Int)->(List Int)->Option (Bool)):Option (Bool):=(if(0:Int)≤v3∧v3<(v5.length:Int)then(bif ((gt v5 v3)==0)then(if(0:Int)≤(Aoc .i64 v3 a0.Eg)∧(Aoc .i64 v3 a0.Eg)≤(Aoc .i64 (Aoa .i64 v3 1) a0.Eg)∧(Aoc .i64 (Aoa .i64 v3 1) a0.Eg)≤(v4.length:Int)then((Asc K ((v4.drop (Aoc .i64 v3 a0.Eg).toNat).take ((Aoc .i64 (Aoa .i64 v3 1) a0.Eg) - (Aoc .i64 v3 a0.Eg)).toNat)).bind fun r9=>(bif (!r9)then some false else(At1 K v3 v4 v5 v6 (C1))))else none)else(At1 K v3 v4 v5 v6 (C1)))else none)
def Ali (K:Nat)(a0:Er):Nat->Int->(List Int)->(List Int)->(List Int)->Option (Bool)
 |0,_,_,_,_=>none
 |n1+1,v3,v4,v5,v6=>(bif (decide (v3<a0.Ae))then(if(0:Int)≤v3∧v3<(v5.length:Int)then((Abk K (gt v5 v3) 0 2).bind fun r7=>(bif (!r7)then some false else(if(0:Int)≤v3∧v3<(v5.length:Int)then(bif ((gt v5 v3)==1)then(if(0:Int)≤v3∧v3<(v6.length:Int)then((Abk K (gt v6 v3) 0 (Aob .i64 a0.C0 1)).bind fun r8=>(bif r8 then(if(0:Int)≤v3∧v3<(v5.length:Int)then(bif ((gt v5 v3) != 1)then(if(0:Int)≤v3∧v3<(v6.length:Int)then(bif ((gt v6 v3) != (-1))then some false else(Aqq K a0 v3 v4 v5 v6 (Ali K a0 n1)))else none)else(Aqq K a0 v3 v4 v5 v6 (Ali K a0 n1)))else none)else some false))else none)else(if(0:Int)≤v3∧v3<(v5.length:Int)then(bif ((gt v5 v3) != 1)then(if(0:Int)≤v3∧v3<(v6.length:Int)then(bif ((gt v6 v3) != (-1))then some false else(Aqq K a0 v3 v4 v5 v6 (Ali K a0 n1)))else none)else(Aqq K a0 v3 v4 v5 v6 (Ali K a0 n1)))else none))else none)))else none)else some true)
def Av8 (K:Nat)(a0:Er)(a1:Dw):Option (Bool):=((Aq6 K a0).bind fun r1=>(bif r1 then((Asw K a0).bind fun r2=>(bif ((a1.Fy.length:Int) != r2)then some false else(bif ((a1.Hh.length:Int) != a0.Ae)then some false else(bif ((a1.Fz.length:Int) != a0.Ae)then some false else(Ali K a0 K 0 a1.Fy a1.Hh a1.Fz)))))else some false))
def s_30:Sig:=⟨[.v 25,.v 28],[.v 4],true⟩
def Bza (K:Nat):Gb tyU:=⟨s_30,Av8 K⟩
def Bho (K:Nat):=xF s_30 [(84,A3u K),(210,Bhm K),(211,Bu0 K),(212,Bno K)] [] 102 [7,8,9,15,16,17,23,24,25,51,52,61,62,63,64,70,71,85,86] [] [] [233,1865] [.tmp 4]
def A37:E5:=⟨[(2,.p 102),(3,.p 103),(5,.v 2)],[(103,.box [.v 22,.v 26,.v 26]),(102,.st 25 true)]⟩
def A2e:E5:=⟨[(2,.p 102),(3,.p 103),(5,.v 2)],[(103,.box [.v 22,.v 26,.v 26]),(102,.st 25 true)]⟩
def Atc:E5:=⟨[(2,.p 102),(3,.p 103),(5,.v 2)],[(103,.box [.v 22,.v 26,.v 26]),(102,.st 25 true)]⟩
def A38 (K:Nat)(C58:CT Atc s_30)(q:PT A37):Rt s_30:=At1 K q.1 q.2.1 q.2.2.1 q.2.2.2.1 (fun v3 v4 v5 v6=>C58 (v3,v4,v5,v6,q.2.2.2.2.1,()))
def A2f (K:Nat)(C58:CT Atc s_30)(q:PT A2e):Rt s_30:=Aqq K q.2.2.2.2.1 q.1 q.2.1 q.2.2.1 q.2.2.2.1 (fun v3 v4 v5 v6=>C58 (v3,v4,v5,v6,q.2.2.2.2.1,()))
def A1i (K:Nat)(n:Nat)(q:PT Atc):Rt s_30:=Ali K q.2.2.2.2.1 n q.1 q.2.1 q.2.2.1 q.2.2.2.1
theorem Bhp (K:Nat)(C58:CT Atc s_30):AtJ (Bho K) [] [(58,ar Atc C58)] (bd Tryz.f140) 233 (A38 K C58):=fun q=>by kernel_rfl
theorem Be6 (K:Nat)(C58:CT Atc s_30):AtJ (Bho K) [(233,ar A37 (A38 K C58))] [(58,ar Atc C58)] (bd Tryz.f140) 1865 (A2f K C58):=fun q=>by kernel_rfl
theorem Bnr (K:Nat):AtL (Bho K) (fun n=>[(1865,ar A2e (A2f K (A1i K n)))]) [] (bd Tryz.f140) 58 (A1i K):=fun n q=>by kernel_rfl
theorem Bd8 (K:Nat):XF [.tmp 4] s_30 102 [233,1865] (Bho K):=xkF (gC (Azn K) (gC (Bd7 K) (gC (Bqu K) (gC (Bhn K) gN)))) oN
theorem Bhq (K:Nat)(C58:CT Atc s_30):CF [.tmp 4] s_30 102 [233,1865] (bd Tryz.f140) [(58,ar Atc C58)] 233 (ar A37 (A38 K C58)):=
 Ala (Bd8 K) (Bhp K C58) kN
theorem Be7 (K:Nat)(C58:CT Atc s_30):CF [.tmp 4] s_30 102 [233,1865] (bd Tryz.f140) [(58,ar Atc C58)] 1865 (ar A2e (A2f K C58)):=
 Ala (Bd8 K) (Be6 K C58) (kC (Bhq K C58) kN)
theorem Bns (K:Nat)(n:Nat):CF [.tmp 4] s_30 102 [233,1865] (bd Tryz.f140) [] 58 (ar Atc (A1i K n)):=
 Aei (Bd8 K) (Bnr K) (fun n=>(kC (Be7 K (A1i K n)) kN)) n
theorem Bzb (K:Nat):OkF 140 (Bza K):=
 Aa6 (x:=Bho K) (L:=[(58,ar Atc (A1i K K))]) (c0:=bd Tryz.f140) (Bd8 K) (by intro a0 a1;show @Eq _ _ _;kernel_rfl) (kC (Bns K K) kN) Tryz.func140 trivial
def Ai0 (K:Nat)(a0:List Ba)(a1:Int):Option (Bool):=(bif (decide (a1≥1))then some (decide (a1≤(a0.length:Int)))else some false)
def Bzc:Sig:=⟨[.v 29,.v 3],[.v 4],true⟩
def Bce (K:Nat):Gb tyU:=⟨Bzc,Ai0 K⟩
def B43 (K:Nat):=xF Bzc [] [] 13 [6,7] [] [] [] [.tmp 4]
theorem A7u (K:Nat):OkF 244 (Bce K):=
 Aa6 (x:=B43 K) (L:=[]) (c0:=bd Tryz.f244) (xkF gN oN) (by intro a0 a1;show @Eq _ _ _;kernel_rfl) kN Tryz.func244 trivial
def Apr (K:Nat)(a0:List Ba)(a1:Int):Option (Bool):=(bif (a1==0)then some true else((Ai0 K a0 a1).bind fun r1=>(bif r1 then(if(0:Int)≤(Aob .i64 a1 1)∧(Aob .i64 a1 1)<(a0.length:Int)then some (((gt a0 (Aob .i64 a1 1)).Hh)==1)else none)else some false)))
def Bzd:Sig:=⟨[.v 29,.v 3],[.v 4],true⟩
def Bze (K:Nat):Gb tyU:=⟨Bzd,Apr K⟩
def B44 (K:Nat):=xF Bzd [(244,Bce K)] [] 21 [6,7,10,11] [] [] [] [.tmp 4]
theorem Bzf (K:Nat):OkF 264 (Bze K):=
 Aa6 (x:=B44 K) (L:=[]) (c0:=bd Tryz.f264) (xkF (gC (A7u K) gN) oN) (by intro a0 a1;show @Eq _ _ _;kernel_rfl) kN Tryz.func264 trivial
def Aqx (K:Nat)(a0:List Ba)(a1:Int):Option (Bool):=(if(0:Int)≤a1∧a1<(a0.length:Int)then((Ai0 K a0 ((gt a0 a1).fUp)).bind fun r1=>(bif r1 then(if(0:Int)≤(Aob .i64 ((gt a0 a1).fUp) 1)∧(Aob .i64 ((gt a0 a1).fUp) 1)<(a0.length:Int)then(bif (((gt a0 (Aob .i64 ((gt a0 a1).fUp) 1)).Hh)==1)then(if(0:Int)≤(Aob .i64 ((gt a0 a1).fUp) 1)∧(Aob .i64 ((gt a0 a1).fUp) 1)<(a0.length:Int)then(if(0:Int)≤a1∧a1<(a0.length:Int)then some (((gt a0 (Aob .i64 ((gt a0 a1).fUp) 1)).Ly)==((gt a0 a1).Gq))else none)else none)else some false)else none)else some false))else none)
def Bzg:Sig:=⟨[.v 29,.v 3],[.v 4],true⟩
def Bnt (K:Nat):Gb tyU:=⟨Bzg,Aqx K⟩
def B45 (K:Nat):=xF Bzg [(244,Bce K)] [] 37 [13,14,21,22,23] [] [] [] [.tmp 4]
theorem Bhr (K:Nat):OkF 225 (Bnt K):=
 Aa6 (x:=B45 K) (L:=[]) (c0:=bd Tryz.f225) (xkF (gC (A7u K) gN) oN) (by intro a0 a1;show @Eq _ _ _;kernel_rfl) kN Tryz.func225 trivial
def Atr (K:Nat)(a0:List Ba):Nat->Int->(List Int)->Option ((List Int))
 |0,_,_=>none
 |n1+1,v1,v2=>((Ai0 K a0 (Aoa .i64 v1 1)).bind fun r3=>(bif r3 then(bif (decide ((v2.length:Int)<(a0.length:Int)))then(if(v2++([v1]:List Int)).length*8≤140737488355328∧(v2++([v1]:List Int)).length≤maxLen then(if(0:Int)≤v1∧v1<(a0.length:Int)then(Atr K a0 n1 (Aob .i64 ((gt a0 v1).fUp) 1) (v2++([v1]:List Int)))else none)else none)else some v2)else some v2))
def Aur (K:Nat)(a0:List Ba)(a1:Int):Option ((List Int)):=(Atr K a0 K a1 ([]:List Int))
def s_34:Sig:=⟨[.v 29,.v 3],[.n 26 true],true⟩
def Bnu (K:Nat):Gb tyU:=⟨s_34,Aur K⟩
def Bu2 (K:Nat):=xF s_34 [(244,Bce K)] [] 29 [10,11] [] [] [] [.tmp 4]
def A8s:E5:=⟨[(0,.v 29),(1,.v 2),(5,.o 1005 3 true)],[]⟩
def A8t (K:Nat)(n:Nat)(q:PT A8s):Rt s_34:=Atr K q.1 n q.2.1 q.2.2.1
theorem Bnv (K:Nat):AtL (Bu2 K) (fun n=>[]) [] (bd Tryz.f224) 28 (A8t K):=fun n q=>by kernel_rfl
theorem Bqw (K:Nat):XF [.tmp 4] s_34 29 [] (Bu2 K):=xkF (gC (A7u K) gN) oN
theorem Bnw (K:Nat)(n:Nat):CF [.tmp 4] s_34 29 [] (bd Tryz.f224) [] 28 (ar A8s (A8t K n)):=
 Aei (Bqw K) (Bnv K) (fun n=>kN) n
theorem Bhs (K:Nat):OkF 224 (Bnu K):=
 Aa6 (x:=Bu2 K) (L:=[(28,ar A8s (A8t K K))]) (c0:=bd Tryz.f224) (Bqw K) (by intro a0 a1;show @Eq _ _ _;kernel_rfl) (kC (Bnw K K) kN) Tryz.func224 trivial
def Are (K:Nat)(a0:List Ba)(a1:Int):Option (Bool):=((Aur K a0 a1).bind fun r19=>(bif (decide ((r19.length:Int)≤4))then(if(0:Int)≤(Aob .i64 (r19.length:Int) 1)∧(Aob .i64 (r19.length:Int) 1)<(r19.length:Int)then((Aqx K a0 (gt r19 (Aob .i64 (r19.length:Int) 1))).bind fun r20=>some (!r20))else none)else some false))
def Asx (K:Nat)(a0:List Ba)(a1:Int)(v8:Int)(v12:Int):Option (Bool):=(bif (v12==0)then((Aqx K a0 a1).bind fun r18=>(bif r18 then(if(0:Int)≤(Aob .i64 v8 1)∧(Aob .i64 v8 1)<(a0.length:Int)then(bif (((gt a0 (Aob .i64 v8 1)).Bt) != (Aoa .i64 a1 1))then some false else(Are K a0 a1))else none)else(Are K a0 a1)))else(Are K a0 a1))
def Asy (K:Nat)(a0:List Ba)(a1:Int)(v8:Int)(v12:Int):Option (Bool):=(bif (v12 != 0)then(if(0:Int)≤(Aob .i64 v12 1)∧(Aob .i64 v12 1)<(a0.length:Int)then(bif (((gt a0 (Aob .i64 v12 1)).Gr) != (Aoa .i64 a1 1))then some false else(Asx K a0 a1 v8 v12))else none)else(Asx K a0 a1 v8 v12))
def Asz (K:Nat)(a0:List Ba)(a1:Int)(v8:Int)(v9:Int)(v11:Int)(v12:Int):Option (Bool):=(bif (v11 != 0)then(if(0:Int)≤(Aob .i64 v11 1)∧(Aob .i64 v11 1)<(a0.length:Int)then(bif (((gt a0 (Aob .i64 v11 1)).Gs) != (Aoa .i64 a1 1))then some false else(bif (((gt a0 (Aob .i64 v11 1)).fUp) != v8)then some false else(bif (((gt a0 (Aob .i64 v11 1)).Gq) != v9)then some false else(Asy K a0 a1 v8 v12))))else none)else(Asy K a0 a1 v8 v12))
def As0 (K:Nat)(a0:List Ba)(a1:Int)(v5:Int)(v6:Int)(v7:Int)(v8:Int)(v9:Int)(v10:Int)(v11:Int)(v12:Int)(v13:List Int)(v14:Int)(v15:Int)(v16:List A9)(v17:List Int):Option (Bool):=(bif (v10 != 0)then(if(0:Int)≤(Aob .i64 v10 1)∧(Aob .i64 v10 1)<(a0.length:Int)then(bif (((gt a0 (Aob .i64 v10 1)).Gs) != 0)then some false else(bif (((gt a0 (Aob .i64 v10 1)).fUp) != (Aoa .i64 a1 1))then some false else(bif (((gt a0 (Aob .i64 v10 1)).Gq) != v7)then some false else(Asz K a0 a1 v8 v9 v11 v12))))else none)else(Asz K a0 a1 v8 v9 v11 v12))
def Aw9 (K:Nat)(a0:List Ba)(a1:Int):Option (Bool):=(if(0:Int)≤a1∧a1<(a0.length:Int)then(bif (((gt a0 a1).fUp) != 0)then((Ai0 K a0 ((gt a0 a1).fUp)).bind fun r1=>(bif r1 then((Apr K a0 ((gt a0 a1).Bt)).bind fun r2=>(bif r2 then((Apr K a0 ((gt a0 a1).Gr)).bind fun r3=>(bif r3 then((Apr K a0 ((gt a0 a1).Gs)).bind fun r4=>(bif (!r4)then some false else(As0 K a0 a1 ((gt a0 a1).Hh) ((gt a0 a1).C2) ((gt a0 a1).Ly) ((gt a0 a1).fUp) ((gt a0 a1).Gq) ((gt a0 a1).Bt) ((gt a0 a1).Gr) ((gt a0 a1).Gs) ((gt a0 a1).Ae) ((gt a0 a1).Pq) ((gt a0 a1).Gt) ((gt a0 a1).Ea) ((gt a0 a1).Dg))))else some false))else some false))else some false))else((Apr K a0 ((gt a0 a1).Bt)).bind fun r21=>(bif r21 then((Apr K a0 ((gt a0 a1).Gr)).bind fun r22=>(bif r22 then((Apr K a0 ((gt a0 a1).Gs)).bind fun r23=>(bif (!r23)then some false else(As0 K a0 a1 ((gt a0 a1).Hh) ((gt a0 a1).C2) ((gt a0 a1).Ly) ((gt a0 a1).fUp) ((gt a0 a1).Gq) ((gt a0 a1).Bt) ((gt a0 a1).Gr) ((gt a0 a1).Gs) ((gt a0 a1).Ae) ((gt a0 a1).Pq) ((gt a0 a1).Gt) ((gt a0 a1).Ea) ((gt a0 a1).Dg))))else some false))else some false)))else none)
def s_35:Sig:=⟨[.v 29,.v 3],[.v 4],true⟩
def Bzh (K:Nat):Gb tyU:=⟨s_35,Aw9 K⟩
def Bcf (K:Nat):=xF s_35 [(224,Bnu K),(225,Bnt K),(244,Bce K),(264,Bze K)] [] 150 [15,16,20,21,22,23,27,28,29,30,34,35,36,37,55,56,61,62,63,83,84,89,90,91,100,101,115,116,119,120,121,138,139] [] [] [7,15,31,63,127] [.tmp 4]
def A39:E5:=⟨[(0,.v 29),(1,.v 2)],[]⟩
def A8u:E5:=⟨[(0,.v 29),(1,.v 2),(5,.p 105)],[(105,.box [.v 2,.v 2,.v 2,.v 2,.v 2,.v 2,.v 2,.v 2,.v 26,.v 2,.v 2,.v 41,.v 26])]⟩
def A8v:E5:=⟨[(0,.v 29),(1,.v 2),(5,.p 105)],[(105,.box [.v 2,.v 2,.v 2,.v 2,.v 2,.v 2,.v 2,.v 2,.v 26,.v 2,.v 2,.v 41,.v 26])]⟩
def A8w:E5:=⟨[(0,.v 29),(1,.v 2),(5,.p 105)],[(105,.box [.v 2,.v 2,.v 2,.v 2,.v 2,.v 2,.v 2,.v 2,.v 26,.v 2,.v 2,.v 41,.v 26])]⟩
def Bcg:E5:=⟨[(0,.v 29),(1,.v 2),(5,.p 105)],[(105,.box [.v 2,.v 2,.v 2,.v 2,.v 2,.v 2,.v 2,.v 2,.v 26,.v 2,.v 2,.v 41,.v 26])]⟩
def A4a (K:Nat)(q:PT A39):Rt s_35:=Are K q.1 q.2.1
def A8x (K:Nat)(q:PT A8u):Rt s_35:=Asx K q.1 q.2.1 q.2.2.2.2.2.1 q.2.2.2.2.2.2.2.2.2.1
def A8y (K:Nat)(q:PT A8v):Rt s_35:=Asy K q.1 q.2.1 q.2.2.2.2.2.1 q.2.2.2.2.2.2.2.2.2.1
def A8z (K:Nat)(q:PT A8w):Rt s_35:=Asz K q.1 q.2.1 q.2.2.2.2.2.1 q.2.2.2.2.2.2.1 q.2.2.2.2.2.2.2.2.1 q.2.2.2.2.2.2.2.2.2.1
def Bch (K:Nat)(q:PT Bcg):Rt s_35:=As0 K q.1 q.2.1 q.2.2.1 q.2.2.2.1 q.2.2.2.2.1 q.2.2.2.2.2.1 q.2.2.2.2.2.2.1 q.2.2.2.2.2.2.2.1 q.2.2.2.2.2.2.2.2.1 q.2.2.2.2.2.2.2.2.2.1 q.2.2.2.2.2.2.2.2.2.2.1 q.2.2.2.2.2.2.2.2.2.2.2.1 q.2.2.2.2.2.2.2.2.2.2.2.2.1 q.2.2.2.2.2.2.2.2.2.2.2.2.2.1 q.2.2.2.2.2.2.2.2.2.2.2.2.2.2.1
theorem Bht (K:Nat):AtJ (Bcf K) [] [] (bd Tryz.f213) 127 (A4a K):=fun q=>by kernel_rfl
theorem Bnx (K:Nat):AtJ (Bcf K) [(127,ar A39 (A4a K))] [] (bd Tryz.f213) 63 (A8x K):=fun q=>by kernel_rfl
theorem Bny (K:Nat):AtJ (Bcf K) [(63,ar A8u (A8x K))] [] (bd Tryz.f213) 31 (A8y K):=fun q=>by kernel_rfl
theorem Bnz (K:Nat):AtJ (Bcf K) [(31,ar A8v (A8y K))] [] (bd Tryz.f213) 15 (A8z K):=fun q=>by kernel_rfl
theorem Bu3 (K:Nat):AtJ (Bcf K) [(15,ar A8w (A8z K))] [] (bd Tryz.f213) 7 (Bch K):=fun q=>by kernel_rfl
theorem A7v (K:Nat):XF [.tmp 4] s_35 150 [7,15,31,63,127] (Bcf K):=xkF (gC (Bhs K) (gC (Bhr K) (gC (A7u K) (gC (Bzf K) gN)))) oN
theorem Bhu (K:Nat):CF [.tmp 4] s_35 150 [7,15,31,63,127] (bd Tryz.f213) [] 127 (ar A39 (A4a K)):=
 Ala (A7v K) (Bht K) kN
theorem Bn0 (K:Nat):CF [.tmp 4] s_35 150 [7,15,31,63,127] (bd Tryz.f213) [] 63 (ar A8u (A8x K)):=
 Ala (A7v K) (Bnx K) (kC (Bhu K) kN)
theorem Bn1 (K:Nat):CF [.tmp 4] s_35 150 [7,15,31,63,127] (bd Tryz.f213) [] 31 (ar A8v (A8y K)):=
 Ala (A7v K) (Bny K) (kC (Bn0 K) kN)
theorem Bn2 (K:Nat):CF [.tmp 4] s_35 150 [7,15,31,63,127] (bd Tryz.f213) [] 15 (ar A8w (A8z K)):=
 Ala (A7v K) (Bnz K) (kC (Bn1 K) kN)
theorem Bu4 (K:Nat):CF [.tmp 4] s_35 150 [7,15,31,63,127] (bd Tryz.f213) [] 7 (ar Bcg (Bch K)):=
 Ala (A7v K) (Bu3 K) (kC (Bn2 K) kN)
theorem Bzi (K:Nat):OkF 213 (Bzh K):=
 Aa6 (x:=Bcf K) (L:=[(7,ar Bcg (Bch K))]) (c0:=bd Tryz.f213) (A7v K) (by intro a0 a1;show @Eq _ _ _;kernel_rfl) (kC (Bu4 K) kN) Tryz.func213 trivial
def At2 (K:Nat)(v1:Int)(C1:Int->Option (Bool)):Option (Bool):=(C1 (Aoa .i64 v1 1))
def Apf (K:Nat)(a0:List Ba):Nat->Int->Option (Bool)
 |0,_=>none
 |n1+1,v1=>(bif (decide (v1<(a0.length:Int)))then(if(0:Int)≤v1∧v1<(a0.length:Int)then(bif (((gt a0 v1).Hh)==1)then((Aw9 K a0 v1).bind fun r2=>(bif (!r2)then some false else(At2 K v1 (Apf K a0 n1))))else(At2 K v1 (Apf K a0 n1)))else none)else some true)
def Av9 (K:Nat)(a0:List Ba):Option (Bool):=(Apf K a0 K 0)
def s_36:Sig:=⟨[.v 29],[.v 4],true⟩
def Bzj (K:Nat):Gb tyU:=⟨s_36,Av9 K⟩
def Bn3 (K:Nat):=xF s_36 [(213,Bzh K)] [] 22 [15,16] [] [] [105] [.tmp 2]
def A4b:E5:=⟨[(0,.v 29),(3,.v 2)],[]⟩
def Ax0:E5:=⟨[(0,.v 29),(3,.v 2)],[]⟩
def A4c (K:Nat)(C26:CT Ax0 s_36)(q:PT A4b):Rt s_36:=At2 K q.2.1 (fun v1=>C26 (q.1,v1,()))
def A1j (K:Nat)(n:Nat)(q:PT Ax0):Rt s_36:=Apf K q.1 n q.2.1
theorem Bhv (K:Nat)(C26:CT Ax0 s_36):AtJ (Bn3 K) [] [(26,ar Ax0 C26)] (bd Tryz.f141) 105 (A4c K C26):=fun q=>by kernel_rfl
theorem Bn4 (K:Nat):AtL (Bn3 K) (fun n=>[(105,ar A4b (A4c K (A1j K n)))]) [] (bd Tryz.f141) 26 (A1j K):=fun n q=>by kernel_rfl
theorem Bhw (K:Nat):XF [.tmp 2] s_36 22 [105] (Bn3 K):=xkF (gC (Bzi K) gN) oN
theorem Bhx (K:Nat)(C26:CT Ax0 s_36):CF [.tmp 2] s_36 22 [105] (bd Tryz.f141) [(26,ar Ax0 C26)] 105 (ar A4b (A4c K C26)):=
 Ala (Bhw K) (Bhv K C26) kN
theorem Bn5 (K:Nat)(n:Nat):CF [.tmp 2] s_36 22 [105] (bd Tryz.f141) [] 26 (ar Ax0 (A1j K n)):=
 Aei (Bhw K) (Bn4 K) (fun n=>(kC (Bhx K (A1j K n)) kN)) n
theorem Bzk (K:Nat):OkF 141 (Bzj K):=
 Aa6 (x:=Bn3 K) (L:=[(26,ar Ax0 (A1j K K))]) (c0:=bd Tryz.f141) (Bhw K) (by intro a0;show @Eq _ _ _;kernel_rfl) (kC (Bn5 K K) kN) Tryz.func141 trivial
def Atd (K:Nat)(v2:Int)(v3:List Int)(v4:List Int)(v5:List Int)(C1:Int->Int->(List Int)->(List Int)->(List Int)->Option (Int))(v6:Int):Option (Int):=(C1 v6 (Aoa .i64 v2 1) v3 v4 v5)
def Ann (K:Nat)(a1:Int):Nat->Int->Int->(List Int)->(List Int)->(List Int)->Option (Int)
 |0,_,_,_,_,_=>none
 |n1+1,v1,v2,v3,v4,v5=>(bif (decide (v2<(v4.length:Int)))then(if(0:Int)≤v2∧v2<(v4.length:Int)then(bif ((gt v4 v2)==a1)then(Atd K v2 v3 v4 v5 (Ann K a1 n1) (Aoa .i64 v1 1))else(Atd K v2 v3 v4 v5 (Ann K a1 n1) v1))else none)else some v1)
def Au3 (K:Nat)(a0:Dw)(a1:Int):Option (Int):=(Ann K a1 K 0 0 a0.Fy a0.Hh a0.Fz)
def s_37:Sig:=⟨[.v 28,.v 3],[.v 3],true⟩
def Bzl (K:Nat):Gb tyU:=⟨s_37,Au3 K⟩
def Bn6 (K:Nat):=xF s_37 [] [] 24 [] [] [] [233] [.tmp 4]
def A4d:E5:=⟨[(1,.v 2),(2,.p 102),(5,.v 2),(6,.v 2)],[(102,.box [.v 22,.v 26,.v 26])]⟩
def Ax1:E5:=⟨[(1,.v 2),(2,.p 102),(5,.v 2),(6,.v 2)],[(102,.box [.v 22,.v 26,.v 26])]⟩
def A4e (K:Nat)(C58:CT Ax1 s_37)(q:PT A4d):Rt s_37:=Atd K q.2.2.1 q.2.2.2.1 q.2.2.2.2.1 q.2.2.2.2.2.1 (fun v1 v2 v3 v4 v5=>C58 (q.1,v1,v2,v3,v4,v5,())) q.2.1
def A1k (K:Nat)(n:Nat)(q:PT Ax1):Rt s_37:=Ann K q.1 n q.2.1 q.2.2.1 q.2.2.2.1 q.2.2.2.2.1 q.2.2.2.2.2.1
theorem Bhy (K:Nat)(C58:CT Ax1 s_37):AtJ (Bn6 K) [] [(58,ar Ax1 C58)] (bd Tryz.f222) 233 (A4e K C58):=fun q=>by kernel_rfl
theorem Bn7 (K:Nat):AtL (Bn6 K) (fun n=>[(233,ar A4d (A4e K (A1k K n)))]) [] (bd Tryz.f222) 58 (A1k K):=fun n q=>by kernel_rfl
theorem Bhz (K:Nat):XF [.tmp 4] s_37 24 [233] (Bn6 K):=xkF gN oN
theorem Bh0 (K:Nat)(C58:CT Ax1 s_37):CF [.tmp 4] s_37 24 [233] (bd Tryz.f222) [(58,ar Ax1 C58)] 233 (ar A4d (A4e K C58)):=
 Ala (Bhz K) (Bhy K C58) kN
theorem Bn8 (K:Nat)(n:Nat):CF [.tmp 4] s_37 24 [233] (bd Tryz.f222) [] 58 (ar Ax1 (A1k K n)):=
 Aei (Bhz K) (Bn7 K) (fun n=>(kC (Bh0 K (A1k K n)) kN)) n
theorem Bzm (K:Nat):OkF 222 (Bzl K):=
 Aa6 (x:=Bn6 K) (L:=[(58,ar Ax1 (A1k K K))]) (c0:=bd Tryz.f222) (Bhz K) (by intro a0 a1;show @Eq _ _ _;kernel_rfl) (kC (Bn8 K K) kN) Tryz.func222 trivial
def Aq8 (K:Nat)(v2:Int)(C1:Int->Int->Option (Int))(v3:Int):Option (Int):=(C1 v3 (Aoa .i64 v2 1))
def Ajz (K:Nat)(a0:List Ba)(a1:Int):Nat->Int->Int->Option (Int)
 |0,_,_=>none
 |n1+1,v1,v2=>(bif (decide (v2<(a0.length:Int)))then(if(0:Int)≤v2∧v2<(a0.length:Int)then(bif (((gt a0 v2).Hh)==a1)then(Aq8 K v2 (Ajz K a0 a1 n1) (Aoa .i64 v1 1))else(Aq8 K v2 (Ajz K a0 a1 n1) v1))else none)else some v1)
def Asn (K:Nat)(a0:List Ba)(a1:Int):Option (Int):=(Ajz K a0 a1 K 0 0)
def s_38:Sig:=⟨[.v 29,.v 3],[.v 3],true⟩
def Bzn (K:Nat):Gb tyU:=⟨s_38,Asn K⟩
def Bn9 (K:Nat):=xF s_38 [] [] 23 [] [] [] [233] [.tmp 4]
def A4f:E5:=⟨[(0,.v 29),(1,.v 2),(5,.v 2),(6,.v 2)],[]⟩
def Ax2:E5:=⟨[(0,.v 29),(1,.v 2),(5,.v 2),(6,.v 2)],[]⟩
def A4g (K:Nat)(C58:CT Ax2 s_38)(q:PT A4f):Rt s_38:=Aq8 K q.2.2.2.1 (fun v1 v2=>C58 (q.1,q.2.1,v1,v2,())) q.2.2.1
def A1l (K:Nat)(n:Nat)(q:PT Ax2):Rt s_38:=Ajz K q.1 q.2.1 n q.2.2.1 q.2.2.2.1
theorem Bh1 (K:Nat)(C58:CT Ax2 s_38):AtJ (Bn9 K) [] [(58,ar Ax2 C58)] (bd Tryz.f223) 233 (A4g K C58):=fun q=>by kernel_rfl
theorem Boa (K:Nat):AtL (Bn9 K) (fun n=>[(233,ar A4f (A4g K (A1l K n)))]) [] (bd Tryz.f223) 58 (A1l K):=fun n q=>by kernel_rfl
theorem Bh2 (K:Nat):XF [.tmp 4] s_38 23 [233] (Bn9 K):=xkF gN oN
theorem Bh3 (K:Nat)(C58:CT Ax2 s_38):CF [.tmp 4] s_38 23 [233] (bd Tryz.f223) [(58,ar Ax2 C58)] 233 (ar A4f (A4g K C58)):=
 Ala (Bh2 K) (Bh1 K C58) kN
theorem Bob (K:Nat)(n:Nat):CF [.tmp 4] s_38 23 [233] (bd Tryz.f223) [] 58 (ar Ax2 (A1l K n)):=
 Aei (Bh2 K) (Boa K) (fun n=>(kC (Bh3 K (A1l K n)) kN)) n
theorem Bzo (K:Nat):OkF 223 (Bzn K):=
 Aa6 (x:=Bn9 K) (L:=[(58,ar Ax2 (A1l K K))]) (c0:=bd Tryz.f223) (Bh2 K) (by intro a0 a1;show @Eq _ _ _;kernel_rfl) (kC (Bob K K) kN) Tryz.func223 trivial
def As1 (K:Nat)(a0:List Int)(a1:Int):Nat->Int->Option (Bool)
 |0,_=>none
 |n1+1,v1=>(bif (decide (v1<(a0.length:Int)))then(if(0:Int)≤v1∧v1<(a0.length:Int)then(bif ((gt a0 v1)==a1)then some true else(As1 K a0 a1 n1 (Aoa .i64 v1 1)))else none)else some false)
def An6 (K:Nat)(a0:List Int)(a1:Int):Option (Bool):=(As1 K a0 a1 K 0)
def s_39:Sig:=⟨[.v 26,.v 3],[.v 4],true⟩
def Bci (K:Nat):Gb tyU:=⟨s_39,An6 K⟩
def Bu5 (K:Nat):=xF s_39 [] [] 18 [] [] [] [] [.tmp 4]
def A80:E5:=⟨[(0,.v 26),(1,.v 2),(5,.v 2)],[]⟩
def A81 (K:Nat)(n:Nat)(q:PT A80):Rt s_39:=As1 K q.1 q.2.1 n q.2.2.1
theorem Boc (K:Nat):AtL (Bu5 K) (fun n=>[]) [] (bd Tryz.f218) 26 (A81 K):=fun n q=>by kernel_rfl
theorem Bqx (K:Nat):XF [.tmp 4] s_39 18 [] (Bu5 K):=xkF gN oN
theorem Bod (K:Nat)(n:Nat):CF [.tmp 4] s_39 18 [] (bd Tryz.f218) [] 26 (ar A80 (A81 K n)):=
 Aei (Bqx K) (Boc K) (fun n=>kN) n
theorem A7w (K:Nat):OkF 218 (Bci K):=
 Aa6 (x:=Bu5 K) (L:=[(26,ar A80 (A81 K K))]) (c0:=bd Tryz.f218) (Bqx K) (by intro a0 a1;show @Eq _ _ _;kernel_rfl) (kC (Bod K K) kN) Tryz.func218 trivial
def Arf (K:Nat)(a0:List Ba)(a1:Int):Option (Bool):=(if(0:Int)≤a1∧a1<(a0.length:Int)then(bif (((gt a0 a1).Hh)==1)then(if(0:Int)≤a1∧a1<(a0.length:Int)then(bif (((gt a0 a1).fUp) != 0)then((Aqx K a0 a1).bind fun r1=>some (!r1))else some false)else none)else some false)else none)
def Bzp:Sig:=⟨[.v 29,.v 3],[.v 4],true⟩
def Bu6 (K:Nat):Gb tyU:=⟨Bzp,Arf K⟩
def B46 (K:Nat):=xF Bzp [(225,Bnt K)] [] 25 [10,11,17,18,19] [] [] [] [.tmp 4]
theorem Bqy (K:Nat):OkF 221 (Bu6 K):=
 Aa6 (x:=B46 K) (L:=[]) (c0:=bd Tryz.f221) (xkF (gC (Bhr K) gN) oN) (by intro a0 a1;show @Eq _ _ _;kernel_rfl) kN Tryz.func221 trivial
def Ar5 (K:Nat)(a0:List Ba):Nat->Int->(List Int)->Option ((List Int))
 |0,_,_=>none
 |n1+1,v1,v2=>((Ai0 K a0 v1).bind fun r3=>(bif r3 then(bif (decide ((v2.length:Int)<(a0.length:Int)))then(if(v2++([(Aob .i64 v1 1)]:List Int)).length*8≤140737488355328∧(v2++([(Aob .i64 v1 1)]:List Int)).length≤maxLen then(if(0:Int)≤(Aob .i64 v1 1)∧(Aob .i64 v1 1)<(a0.length:Int)then(Ar5 K a0 n1 ((gt a0 (Aob .i64 v1 1)).Gr) (v2++([(Aob .i64 v1 1)]:List Int)))else none)else none)else some v2)else some v2))
def Aq7 (K:Nat)(a0:List Ba)(a1:Int):Option ((List Int)):=(Ar5 K a0 K a1 ([]:List Int))
def s_41:Sig:=⟨[.v 29,.v 3],[.n 26 true],true⟩
def Bh4 (K:Nat):Gb tyU:=⟨s_41,Aq7 K⟩
def Bu7 (K:Nat):=xF s_41 [(244,Bce K)] [] 29 [9,10] [] [] [] [.tmp 4]
def A82:E5:=⟨[(0,.v 29),(1,.v 2),(5,.o 1005 3 true)],[]⟩
def A83 (K:Nat)(n:Nat)(q:PT A82):Rt s_41:=Ar5 K q.1 n q.2.1 q.2.2.1
theorem Boe (K:Nat):AtL (Bu7 K) (fun n=>[]) [] (bd Tryz.f202) 28 (A83 K):=fun n q=>by kernel_rfl
theorem Bqz (K:Nat):XF [.tmp 4] s_41 29 [] (Bu7 K):=xkF (gC (A7u K) gN) oN
theorem Bof (K:Nat)(n:Nat):CF [.tmp 4] s_41 29 [] (bd Tryz.f202) [] 28 (ar A82 (A83 K n)):=
 Aei (Bqz K) (Boe K) (fun n=>kN) n
theorem Bd9 (K:Nat):OkF 202 (Bh4 K):=
 Aa6 (x:=Bu7 K) (L:=[(28,ar A82 (A83 K K))]) (c0:=bd Tryz.f202) (Bqz K) (by intro a0 a1;show @Eq _ _ _;kernel_rfl) (kC (Bof K K) kN) Tryz.func202 trivial
def Anj (K:Nat)(v4:Int)(v15:List Ax)(v20:List Int)(v21:Int)(C3:(List Int)->Int->Option (Bool)):Nat->Int->Option (Bool)
 |0,_=>none
 |n5+1,v22=>(if(0:Int)≤v4∧v4<(v15.length:Int)then(bif (decide (v22<(((gt v15 v4).Ae).length:Int)))then(if(0:Int)≤v21∧v21<(v15.length:Int)then(if(0:Int)≤v4∧v4<(v15.length:Int)then(if(0:Int)≤v22∧v22<(((gt v15 v4).Ae).length:Int)then((An6 K ((gt v15 v21).Ae) (gt ((gt v15 v4).Ae) v22)).bind fun r23=>(bif r23 then some false else(Anj K v4 v15 v20 v21 C3 n5 (Aoa .i64 v22 1))))else none)else none)else none)else(C3 v20 (Aoa .i64 v21 1)))else none)
def Aqg (K:Nat)(v4:Int)(v15:List Ax)(v20:List Int)(v21:Int)(C3:(List Int)->Int->Option (Bool)):Option (Bool):=(Anj K v4 v15 v20 v21 (C3) K 0)
def Alb (K:Nat)(v4:Int)(v5:Int)(v6:Int)(v7:Int)(v8:Int)(v9:Int)(v10:Int)(v11:List Int)(v12:List Int)(v13:List Int)(v14:List Ba)(v15:List Ax)(v16:List Int)(v17:Int)(v18:Int)(C1:Int->Int->(List Int)->Int->Int->Int->Int->Int->Int->Int->(List Int)->(List Int)->(List Int)->(List Ba)->(List Ax)->(List Int)->Option (Bool)):Nat->(List Int)->Int->Option (Bool)
 |0,_,_=>none
 |n3+1,v20,v21=>(bif (decide (v21<v4))then(if(0:Int)≤v4∧v4<(v15.length:Int)then(bif (((gt v15 v4).A5) != 0)then(if(0:Int)≤v21∧v21<(v15.length:Int)then(if(0:Int)≤v4∧v4<(v15.length:Int)then(bif (((gt v15 v21).A5)==((gt v15 v4).A5))then some false else(Aqg K v4 v15 v20 v21 (Alb K v4 v5 v6 v7 v8 v9 v10 v11 v12 v13 v14 v15 v16 v17 v18 C1 n3)))else none)else none)else(Aqg K v4 v15 v20 v21 (Alb K v4 v5 v6 v7 v8 v9 v10 v11 v12 v13 v14 v15 v16 v17 v18 C1 n3)))else none)else(C1 v17 v18 v20 (Aoa .i64 v4 1) v5 v6 v7 v8 v9 v10 v11 v12 v13 v14 v15 v16))
def Aqh (K:Nat)(v3:List Int)(v4:Int)(v5:Int)(v6:Int)(v7:Int)(v8:Int)(v9:Int)(v10:Int)(v11:List Int)(v12:List Int)(v13:List Int)(v14:List Ba)(v15:List Ax)(v16:List Int)(C1:Int->Int->(List Int)->Int->Int->Int->Int->Int->Int->Int->(List Int)->(List Int)->(List Int)->(List Ba)->(List Ax)->(List Int)->Option (Bool))(v17:Int)(v18:Int):Option (Bool):=(if(0:Int)≤v4∧v4<(v15.length:Int)then((Aq7 K v14 ((gt v15 v4).Bt)).bind fun r19=>(if(v3++r19).length*8≤140737488355328∧(v3++r19).length≤maxLen then(Alb K v4 v5 v6 v7 v8 v9 v10 v11 v12 v13 v14 v15 v16 v17 v18 (C1) K (v3++r19) 0)else none))else none)
def Arz (K:Nat)(v25:Int)(C6:Int->Int->Option (Bool))(v27:Int):Option (Bool):=(C6 v27 (Aoa .i64 v25 1))
def Alc (K:Nat)(v1:Int)(v2:Int)(v3:List Int)(v11:List Int)(v12:List Int)(v13:List Int)(v14:List Ba)(v24:Int):Nat->Int->Option (Bool)
 |0,_=>none
 |n8+1,v28=>(bif (decide (v28<(v3.length:Int)))then(if(0:Int)≤0∧0≤v28∧v28≤(v3.length:Int)then(if(0:Int)≤v28∧v28<(v3.length:Int)then((An6 K ((v3.drop (0:Int).toNat).take (v28 - 0).toNat) (gt v3 v28)).bind fun r29=>(bif r29 then some false else(Alc K v1 v2 v3 v11 v12 v13 v14 v24 n8 (Aoa .i64 v28 1))))else none)else none)else((Au3 K (Dw.mk v11 v12 v13) 2).bind fun r30=>(bif (v1==r30)then((Asn K v14 2).bind fun r31=>(bif (v2==r31)then some ((v3.length:Int)==v24)else some false))else some false)))
def Ahy (K:Nat)(v1:Int)(v2:Int)(v3:List Int)(v11:List Int)(v12:List Int)(v13:List Int)(v14:List Ba):Nat->Int->Int->Option (Bool)
 |0,_,_=>none
 |n6+1,v24,v25=>(bif (decide (v25<(v14.length:Int)))then((Arf K v14 v25).bind fun r26=>(bif r26 then(Arz K v25 (Ahy K v1 v2 v3 v11 v12 v13 v14 n6) (Aoa .i64 v24 1))else(Arz K v25 (Ahy K v1 v2 v3 v11 v12 v13 v14 n6) v24)))else(Alc K v1 v2 v3 v11 v12 v13 v14 v24 K 0))
def Afe (K:Nat):Nat->Int->Int->(List Int)->Int->Int->Int->Int->Int->Int->Int->(List Int)->(List Int)->(List Int)->(List Ba)->(List Ax)->(List Int)->Option (Bool)
 |0,_,_,_,_,_,_,_,_,_,_,_,_,_,_,_,_=>none
 |n1+1,v1,v2,v3,v4,v5,v6,v7,v8,v9,v10,v11,v12,v13,v14,v15,v16=>(bif (decide (v4<(v15.length:Int)))then(if(0:Int)≤v4∧v4<(v15.length:Int)then(if(0:Int)≤v4∧v4<(v15.length:Int)then(bif (((gt v15 v4).A5) != 0)then(Aqh K v3 v4 v5 v6 v7 v8 v9 v10 v11 v12 v13 v14 v15 v16 (Afe K n1) (Aoa .i64 v1 (((gt v15 v4).Ae).length:Int)) (Aoa .i64 v2 1))else(Aqh K v3 v4 v5 v6 v7 v8 v9 v10 v11 v12 v13 v14 v15 v16 (Afe K n1) (Aoa .i64 v1 (((gt v15 v4).Ae).length:Int)) v2))else none)else none)else(Ahy K v1 v2 v3 v11 v12 v13 v14 K 0 0))
def Ate (K:Nat)(a0:Eb):Option (Bool):=(Afe K K 0 0 ([]:List Int) 0 a0.fC.Ae a0.fC.Eg a0.fC.C0 a0.fC.E9 a0.fC.C1 a0.fC.Eh a0.fP.Fy a0.fP.Hh a0.fP.Fz a0.fL a0.fQ a0.Pr)
def s_42:Sig:=⟨[.v 32],[.v 4],true⟩
def Bzq (K:Nat):Gb tyU:=⟨s_42,Ate K⟩
def A67 (K:Nat):=xF s_42 [(202,Bh4 K),(218,Bci K),(221,Bu6 K),(222,Bzl K),(223,Bzn K)] [] 148 [60,61,134,135,140,141,142] [] [] [4073,8009,2050532] [.tmp 2]
def Ayl:E5:=⟨[(1,.p 101),(3,.v 2),(4,.v 2),(5,.o 1005 3 true),(6,.v 2),(7,.v 2),(8,.v 2)],[(101,.box [.v 2,.v 2,.v 2,.v 2,.v 2,.v 2,.v 22,.v 26,.v 26,.v 29,.v 30,.v 26])]⟩
def Ay3:E5:=⟨[(1,.p 101),(3,.v 2),(4,.v 2),(5,.o 1005 3 true),(6,.v 2),(7,.v 2)],[(101,.box [.v 2,.v 2,.v 2,.v 2,.v 2,.v 2,.v 22,.v 26,.v 26,.v 29,.v 30,.v 26])]⟩
def Ano:E5:=⟨[(1,.p 101),(3,.v 2),(4,.v 2),(5,.o 1005 3 true),(6,.v 2),(7,.v 2)],[(101,.box [.v 2,.v 2,.v 2,.v 2,.v 2,.v 2,.v 22,.v 26,.v 26,.v 29,.v 30,.v 26])]⟩
def A2g:E5:=⟨[(1,.p 101),(3,.v 2),(4,.v 2),(5,.o 1005 3 true),(6,.v 2)],[(101,.box [.v 2,.v 2,.v 2,.v 2,.v 2,.v 2,.v 22,.v 26,.v 26,.v 29,.v 30,.v 26])]⟩
def A2h:E5:=⟨[(1,.p 101),(3,.v 2),(4,.v 2),(5,.o 1005 3 true),(9,.v 2),(10,.v 2)],[(101,.box [.v 2,.v 2,.v 2,.v 2,.v 2,.v 2,.v 22,.v 26,.v 26,.v 29,.v 30,.v 26])]⟩
def A2i:E5:=⟨[(1,.p 101),(3,.v 2),(4,.v 2),(5,.o 1005 3 true),(9,.v 2),(11,.v 2)],[(101,.box [.v 2,.v 2,.v 2,.v 2,.v 2,.v 2,.v 22,.v 26,.v 26,.v 29,.v 30,.v 26])]⟩
def Aus:E5:=⟨[(1,.p 101),(3,.v 2),(4,.v 2),(5,.o 1005 3 true),(9,.v 2),(10,.v 2)],[(101,.box [.v 2,.v 2,.v 2,.v 2,.v 2,.v 2,.v 22,.v 26,.v 26,.v 29,.v 30,.v 26])]⟩
def Ald:E5:=⟨[(1,.p 101),(3,.v 2),(4,.v 2),(5,.o 1005 3 true),(6,.v 2)],[(101,.box [.v 2,.v 2,.v 2,.v 2,.v 2,.v 2,.v 22,.v 26,.v 26,.v 29,.v 30,.v 26])]⟩
def Aym (K:Nat)(C250:CT Ald s_42)(C128158:CT Ano s_42)(n:Nat)(q:PT Ayl):Rt s_42:=Anj K q.2.2.2.1 q.2.2.2.2.2.2.2.2.2.2.2.2.2.2.2.2.1 q.2.2.1 q.2.2.2.2.1 (fun v20 v21=>C128158 (q.1,q.2.1,v20,q.2.2.2.1,v21,q.2.2.2.2.2.2.1,q.2.2.2.2.2.2.2.1,q.2.2.2.2.2.2.2.2.1,q.2.2.2.2.2.2.2.2.2.1,q.2.2.2.2.2.2.2.2.2.2.1,q.2.2.2.2.2.2.2.2.2.2.2.1,q.2.2.2.2.2.2.2.2.2.2.2.2.1,q.2.2.2.2.2.2.2.2.2.2.2.2.2.1,q.2.2.2.2.2.2.2.2.2.2.2.2.2.2.1,q.2.2.2.2.2.2.2.2.2.2.2.2.2.2.2.1,q.2.2.2.2.2.2.2.2.2.2.2.2.2.2.2.2.1,q.2.2.2.2.2.2.2.2.2.2.2.2.2.2.2.2.2.1,())) n q.2.2.2.2.2.1
def Ay4 (K:Nat)(C250:CT Ald s_42)(C128158:CT Ano s_42)(q:PT Ay3):Rt s_42:=Aqg K q.2.2.2.1 q.2.2.2.2.2.2.2.2.2.2.2.2.2.2.2.1 q.2.2.1 q.2.2.2.2.1 (fun v20 v21=>C128158 (q.1,q.2.1,v20,q.2.2.2.1,v21,q.2.2.2.2.2.1,q.2.2.2.2.2.2.1,q.2.2.2.2.2.2.2.1,q.2.2.2.2.2.2.2.2.1,q.2.2.2.2.2.2.2.2.2.1,q.2.2.2.2.2.2.2.2.2.2.1,q.2.2.2.2.2.2.2.2.2.2.2.1,q.2.2.2.2.2.2.2.2.2.2.2.2.1,q.2.2.2.2.2.2.2.2.2.2.2.2.2.1,q.2.2.2.2.2.2.2.2.2.2.2.2.2.2.1,q.2.2.2.2.2.2.2.2.2.2.2.2.2.2.2.1,q.2.2.2.2.2.2.2.2.2.2.2.2.2.2.2.2.1,()))
def Awr (K:Nat)(C250:CT Ald s_42)(n:Nat)(q:PT Ano):Rt s_42:=Alb K q.2.2.2.1 q.2.2.2.2.2.1 q.2.2.2.2.2.2.1 q.2.2.2.2.2.2.2.1 q.2.2.2.2.2.2.2.2.1 q.2.2.2.2.2.2.2.2.2.1 q.2.2.2.2.2.2.2.2.2.2.1 q.2.2.2.2.2.2.2.2.2.2.2.1 q.2.2.2.2.2.2.2.2.2.2.2.2.1 q.2.2.2.2.2.2.2.2.2.2.2.2.2.1 q.2.2.2.2.2.2.2.2.2.2.2.2.2.2.1 q.2.2.2.2.2.2.2.2.2.2.2.2.2.2.2.1 q.2.2.2.2.2.2.2.2.2.2.2.2.2.2.2.2.1 q.1 q.2.1 (fun v1 v2 v3 v4 v5 v6 v7 v8 v9 v10 v11 v12 v13 v14 v15 v16=>C250 (v1,v2,v3,v4,v5,v6,v7,v8,v9,v10,v11,v12,v13,v14,v15,v16,())) n q.2.2.1 q.2.2.2.2.1
def A2j (K:Nat)(C250:CT Ald s_42)(q:PT A2g):Rt s_42:=Aqh K q.2.2.1 q.2.2.2.1 q.2.2.2.2.1 q.2.2.2.2.2.1 q.2.2.2.2.2.2.1 q.2.2.2.2.2.2.2.1 q.2.2.2.2.2.2.2.2.1 q.2.2.2.2.2.2.2.2.2.1 q.2.2.2.2.2.2.2.2.2.2.1 q.2.2.2.2.2.2.2.2.2.2.2.1 q.2.2.2.2.2.2.2.2.2.2.2.2.1 q.2.2.2.2.2.2.2.2.2.2.2.2.2.1 q.2.2.2.2.2.2.2.2.2.2.2.2.2.2.1 q.2.2.2.2.2.2.2.2.2.2.2.2.2.2.2.1 (fun v1 v2 v3 v4 v5 v6 v7 v8 v9 v10 v11 v12 v13 v14 v15 v16=>C250 (v1,v2,v3,v4,v5,v6,v7,v8,v9,v10,v11,v12,v13,v14,v15,v16,())) q.1 q.2.1
def A2k (K:Nat)(C1018:CT Aus s_42)(q:PT A2h):Rt s_42:=Arz K q.2.2.2.2.1 (fun v24 v25=>C1018 (q.1,q.2.1,q.2.2.1,v24,v25,q.2.2.2.2.2.1,q.2.2.2.2.2.2.1,q.2.2.2.2.2.2.2.1,q.2.2.2.2.2.2.2.2.1,q.2.2.2.2.2.2.2.2.2.1,q.2.2.2.2.2.2.2.2.2.2.1,q.2.2.2.2.2.2.2.2.2.2.2.1,q.2.2.2.2.2.2.2.2.2.2.2.2.1,q.2.2.2.2.2.2.2.2.2.2.2.2.2.1,q.2.2.2.2.2.2.2.2.2.2.2.2.2.2.1,q.2.2.2.2.2.2.2.2.2.2.2.2.2.2.2.1,q.2.2.2.2.2.2.2.2.2.2.2.2.2.2.2.2.1,())) q.2.2.2.1
def A2l (K:Nat)(n:Nat)(q:PT A2i):Rt s_42:=Alc K q.1 q.2.1 q.2.2.1 q.2.2.2.2.2.2.2.2.2.2.2.1 q.2.2.2.2.2.2.2.2.2.2.2.2.1 q.2.2.2.2.2.2.2.2.2.2.2.2.2.1 q.2.2.2.2.2.2.2.2.2.2.2.2.2.2.1 q.2.2.2.1 n q.2.2.2.2.1
def Ayv (K:Nat)(n:Nat)(q:PT Aus):Rt s_42:=Ahy K q.1 q.2.1 q.2.2.1 q.2.2.2.2.2.2.2.2.2.2.2.1 q.2.2.2.2.2.2.2.2.2.2.2.2.1 q.2.2.2.2.2.2.2.2.2.2.2.2.2.1 q.2.2.2.2.2.2.2.2.2.2.2.2.2.2.1 n q.2.2.2.1 q.2.2.2.2.1
def Azo (K:Nat)(n:Nat)(q:PT Ald):Rt s_42:=Afe K n q.1 q.2.1 q.2.2.1 q.2.2.2.1 q.2.2.2.2.1 q.2.2.2.2.2.1 q.2.2.2.2.2.2.1 q.2.2.2.2.2.2.2.1 q.2.2.2.2.2.2.2.2.1 q.2.2.2.2.2.2.2.2.2.1 q.2.2.2.2.2.2.2.2.2.2.1 q.2.2.2.2.2.2.2.2.2.2.2.1 q.2.2.2.2.2.2.2.2.2.2.2.2.1 q.2.2.2.2.2.2.2.2.2.2.2.2.2.1 q.2.2.2.2.2.2.2.2.2.2.2.2.2.2.1 q.2.2.2.2.2.2.2.2.2.2.2.2.2.2.2.1
theorem A68 (K:Nat)(C250:CT Ald s_42)(C128158:CT Ano s_42):AtL (A67 K) (fun n=>[]) [(128158,ar Ano C128158),(250,ar Ald C250)] (bd Tryz.f148) 16404262 (Aym K C250 C128158):=fun n q=>by kernel_rfl
theorem A84 (K:Nat)(C250:CT Ald s_42)(C128158:CT Ano s_42):AtJ (A67 K) [(16404262,ar Ayl (Aym K C250 C128158 K))] [(128158,ar Ano C128158),(250,ar Ald C250)] (bd Tryz.f148) 2050532 (Ay4 K C250 C128158):=fun q=>by kernel_rfl
theorem Ba0 (K:Nat)(C250:CT Ald s_42):AtL (A67 K) (fun n=>[(2050532,ar Ay3 (Ay4 K C250 (Awr K C250 n)))]) [(250,ar Ald C250)] (bd Tryz.f148) 128158 (Awr K C250):=fun n q=>by kernel_rfl
theorem Be8 (K:Nat)(C250:CT Ald s_42):AtJ (A67 K) [(128158,ar Ano (Awr K C250 K))] [(250,ar Ald C250)] (bd Tryz.f148) 8009 (A2j K C250):=fun q=>by kernel_rfl
theorem Be9 (K:Nat)(C1018:CT Aus s_42):AtJ (A67 K) [] [(1018,ar Aus C1018)] (bd Tryz.f148) 4073 (A2k K C1018):=fun q=>by kernel_rfl
theorem Bfa (K:Nat):AtL (A67 K) (fun n=>[]) [] (bd Tryz.f148) 2042 (A2l K):=fun n q=>by kernel_rfl
theorem Bfb (K:Nat):AtL (A67 K) (fun n=>[(4073,ar A2h (A2k K (Ayv K n))),(2042,ar A2i (A2l K K))]) [] (bd Tryz.f148) 1018 (Ayv K):=fun n q=>by kernel_rfl
theorem Bh5 (K:Nat):AtL (A67 K) (fun n=>[(8009,ar A2g (A2j K (Azo K n))),(1018,ar Aus (Ayv K K))]) [] (bd Tryz.f148) 250 (Azo K):=fun n q=>by kernel_rfl
theorem A1m (K:Nat):XF [.tmp 2] s_42 148 [4073,8009,2050532] (A67 K):=xkF (gC (Bd9 K) (gC (A7w K) (gC (Bqy K) (gC (Bzm K) (gC (Bzo K) gN))))) oN
theorem A69 (K:Nat)(C250:CT Ald s_42)(C128158:CT Ano s_42)(n:Nat):CF [.tmp 2] s_42 148 [4073,8009,2050532] (bd Tryz.f148) [(128158,ar Ano C128158),(250,ar Ald C250)] 16404262 (ar Ayl (Aym K C250 C128158 n)):=
 Aei (A1m K) (A68 K C250 C128158) (fun n=>kN) n
theorem A85 (K:Nat)(C250:CT Ald s_42)(C128158:CT Ano s_42):CF [.tmp 2] s_42 148 [4073,8009,2050532] (bd Tryz.f148) [(128158,ar Ano C128158),(250,ar Ald C250)] 2050532 (ar Ay3 (Ay4 K C250 C128158)):=
 Ala (A1m K) (A84 K C250 C128158) (kC (A69 K C250 C128158 K) kN)
theorem Ba1 (K:Nat)(C250:CT Ald s_42)(n:Nat):CF [.tmp 2] s_42 148 [4073,8009,2050532] (bd Tryz.f148) [(250,ar Ald C250)] 128158 (ar Ano (Awr K C250 n)):=
 Aei (A1m K) (Ba0 K C250) (fun n=>(kC (A85 K C250 (Awr K C250 n)) kN)) n
theorem Bfc (K:Nat)(C250:CT Ald s_42):CF [.tmp 2] s_42 148 [4073,8009,2050532] (bd Tryz.f148) [(250,ar Ald C250)] 8009 (ar A2g (A2j K C250)):=
 Ala (A1m K) (Be8 K C250) (kC (Ba1 K C250 K) kN)
theorem Bfd (K:Nat)(C1018:CT Aus s_42):CF [.tmp 2] s_42 148 [4073,8009,2050532] (bd Tryz.f148) [(1018,ar Aus C1018)] 4073 (ar A2h (A2k K C1018)):=
 Ala (A1m K) (Be9 K C1018) kN
theorem Bfe (K:Nat)(n:Nat):CF [.tmp 2] s_42 148 [4073,8009,2050532] (bd Tryz.f148) [] 2042 (ar A2i (A2l K n)):=
 Aei (A1m K) (Bfa K) (fun n=>kN) n
theorem Bff (K:Nat)(n:Nat):CF [.tmp 2] s_42 148 [4073,8009,2050532] (bd Tryz.f148) [] 1018 (ar Aus (Ayv K n)):=
 Aei (A1m K) (Bfb K) (fun n=>(kC (Bfd K (Ayv K n)) (kC (Ao2 (by kernel_rfl) (Bfe K K)) kN))) n
theorem Bh6 (K:Nat)(n:Nat):CF [.tmp 2] s_42 148 [4073,8009,2050532] (bd Tryz.f148) [] 250 (ar Ald (Azo K n)):=
 Aei (A1m K) (Bh5 K) (fun n=>(kC (Bfc K (Azo K n)) (kC (Ao2 (by kernel_rfl) (Bff K K)) kN))) n
theorem Bzr (K:Nat):OkF 148 (Bzq K):=
 Aa6 (x:=A67 K) (L:=[(250,ar Ald (Azo K K))]) (c0:=bd Tryz.f148) (A1m K) (by intro a0;show @Eq _ _ _;kernel_rfl) (kC (Bh6 K K) kN) Tryz.func148 trivial
def Anp (K:Nat)(a0:Er)(v8:List Int):Nat->Int->Option (Bool)
 |0,_=>none
 |n3+1,v12=>(bif (decide (v12<(v8.length:Int)))then(if(0:Int)≤v12∧v12<(v8.length:Int)then((Abk K (gt v8 v12) 0 (Aob .i64 a0.Ae 1)).bind fun r13=>(bif r13 then(if(0:Int)≤0∧0≤v12∧v12≤(v8.length:Int)then(if(0:Int)≤v12∧v12<(v8.length:Int)then((An6 K ((v8.drop (0:Int).toNat).take (v12 - 0).toNat) (gt v8 v12)).bind fun r14=>(bif r14 then some false else(Anp K a0 v8 n3 (Aoa .i64 v12 1))))else none)else none)else some false))else none)else some true)
def Apm (K:Nat)(a0:Er)(v7:List Int)(v8:List Int):Nat->Int->Option (Bool)
 |0,_=>none
 |n2+1,v10=>(bif (decide (v10<(v7.length:Int)))then(if(0:Int)≤v10∧v10<(v7.length:Int)then((Abk K (gt v7 v10) 0 255).bind fun r11=>(bif (!r11)then some false else(Apm K a0 v7 v8 n2 (Aoa .i64 v10 1))))else none)else(Anp K a0 v8 K 0))
def Atf (K:Nat)(a0:Er)(v5:Int)(v6:Int)(v7:List Int)(v8:List Int)(v9:Int):Option (Bool):=(Apm K a0 v7 v8 K 0)
def Au4 (K:Nat)(a0:Er)(a1:Ax):Option (Bool):=((Aq6 K a0).bind fun r1=>(bif r1 then((Abk K a1.A5 0 a0.C0).bind fun r2=>(bif r2 then((Abk K a1.Bt 0 a0.C0).bind fun r3=>(bif r3 then(bif (decide ((a1.Dg.length:Int)>6))then some false else((Abk K a1.Gu 0 (Aob .i64 a0.Eg 1)).bind fun r4=>(bif r4 then(bif ((a1.Ae.length:Int)==0)then(bif (a1.Gu != 0)then some false else(Atf K a0 a1.A5 a1.Bt a1.Dg a1.Ae a1.Gu))else(Atf K a0 a1.A5 a1.Bt a1.Dg a1.Ae a1.Gu))else some false)))else some false))else some false))else some false))
def s_43:Sig:=⟨[.v 25,.v 159],[.v 4],true⟩
def Bzs (K:Nat):Gb tyU:=⟨s_43,Au4 K⟩
def Bh7 (K:Nat):=xF s_43 [(84,A3u K),(210,Bhm K),(218,Bci K)] [] 95 [8,9,10,15,16,17,18,23,24,25,26,30,31,32,38,39,40,41,45,46,81,82,83] [] [] [3] [.tmp 4]
def A4h:E5:=⟨[(2,.p 102),(3,.p 103),(6,.v 2)],[(103,.box [.v 2,.v 2,.v 26,.v 26,.v 2]),(102,.st 25 true)]⟩
def A86:E5:=⟨[(2,.p 102),(3,.p 103),(5,.v 2)],[(103,.box [.v 2,.v 2,.v 26,.v 26,.v 2]),(102,.st 25 true)]⟩
def Bcj:E5:=⟨[(2,.p 102),(3,.p 103)],[(103,.box [.v 2,.v 2,.v 26,.v 26,.v 2]),(102,.st 25 true)]⟩
def A4i (K:Nat)(n:Nat)(q:PT A4h):Rt s_43:=Anp K q.2.2.2.2.2.2.1 q.2.2.2.2.1 n q.1
def A87 (K:Nat)(n:Nat)(q:PT A86):Rt s_43:=Apm K q.2.2.2.2.2.2.1 q.2.2.2.1 q.2.2.2.2.1 n q.1
def Bck (K:Nat)(q:PT Bcj):Rt s_43:=Atf K q.2.2.2.2.2.1 q.1 q.2.1 q.2.2.1 q.2.2.2.1 q.2.2.2.2.1
theorem Bh8 (K:Nat):AtL (Bh7 K) (fun n=>[]) [] (bd Tryz.f220) 122 (A4i K):=fun n q=>by kernel_rfl
theorem Bog (K:Nat):AtL (Bh7 K) (fun n=>[(122,ar A4h (A4i K K))]) [] (bd Tryz.f220) 58 (A87 K):=fun n q=>by kernel_rfl
theorem Bu8 (K:Nat):AtJ (Bh7 K) [(58,ar A86 (A87 K K))] [] (bd Tryz.f220) 3 (Bck K):=fun q=>by kernel_rfl
theorem Bea (K:Nat):XF [.tmp 4] s_43 95 [3] (Bh7 K):=xkF (gC (Azn K) (gC (Bd7 K) (gC (A7w K) gN))) oN
theorem Bh9 (K:Nat)(n:Nat):CF [.tmp 4] s_43 95 [3] (bd Tryz.f220) [] 122 (ar A4h (A4i K n)):=
 Aei (Bea K) (Bh8 K) (fun n=>kN) n
theorem Boh (K:Nat)(n:Nat):CF [.tmp 4] s_43 95 [3] (bd Tryz.f220) [] 58 (ar A86 (A87 K n)):=
 Aei (Bea K) (Bog K) (fun n=>(kC (Ao2 (by kernel_rfl) (Bh9 K K)) kN)) n
theorem Bu9 (K:Nat):CF [.tmp 4] s_43 95 [3] (bd Tryz.f220) [] 3 (ar Bcj (Bck K)):=
 Ala (Bea K) (Bu8 K) (kC (Boh K K) kN)
theorem Bzt (K:Nat):OkF 220 (Bzs K):=
 Aa6 (x:=Bh7 K) (L:=[(3,ar Bcj (Bck K))]) (c0:=bd Tryz.f220) (Bea K) (by intro a0 a1;show @Eq _ _ _;kernel_rfl) (kC (Bu9 K) kN) Tryz.func220 trivial
def Apw (K:Nat)(v17:List Ba)(r21:(List Int)):Nat->Int->Option (Bool)
 |0,_=>none
 |n4+1,v22=>(bif (decide (v22<(r21.length:Int)))then(if(0:Int)≤v22∧v22<(r21.length:Int)then((Arf K v17 (gt r21 v22)).bind fun r23=>(bif (!r23)then some false else(Apw K v17 r21 n4 (Aoa .i64 v22 1))))else none)else some true)
def Aok (K:Nat)(v4:Int)(v17:List Ba):Option (Bool):=((Aq7 K v17 v4).bind fun r21=>(Apw K v17 r21 K 0))
def Aqy (K:Nat)(v3:Int)(v4:Int)(v17:List Ba):Option (Bool):=(bif (v3 != 0)then(if(0:Int)≤(Aob .i64 v3 1)∧(Aob .i64 v3 1)<(v17.length:Int)then(bif (((gt v17 (Aob .i64 v3 1)).Hh) != 2)then some false else(bif (v4 != 0)then(if(0:Int)≤(Aob .i64 v4 1)∧(Aob .i64 v4 1)<(v17.length:Int)then(bif (((gt v17 (Aob .i64 v4 1)).Gs) != 0)then some false else(Aok K v4 v17))else none)else(Aok K v4 v17)))else none)else(bif (v4 != 0)then(if(0:Int)≤(Aob .i64 v4 1)∧(Aob .i64 v4 1)<(v17.length:Int)then(bif (((gt v17 (Aob .i64 v4 1)).Gs) != 0)then some false else(Aok K v4 v17))else none)else(Aok K v4 v17)))
def Aou (K:Nat):Nat->Int->Int->Int->(List Int)->(List Int)->Int->Int->Int->Int->Int->Int->Int->(List Int)->(List Int)->(List Int)->(List Ba)->(List Ax)->(List Int)->Option (Bool)
 |0,_,_,_,_,_,_,_,_,_,_,_,_,_,_,_,_,_,_=>none
 |n1+1,v2,v3,v4,v5,v6,v7,v8,v9,v10,v11,v12,v13,v14,v15,v16,v17,v18,v19=>(bif (decide (v2<(v6.length:Int)))then(if(0:Int)≤v2∧v2<(v6.length:Int)then(if(0:Int)≤(gt v6 v2)∧(gt v6 v2)<(v15.length:Int)then(bif ((gt v15 (gt v6 v2)) != 2)then some false else(Aou K n1 (Aoa .i64 v2 1) v3 v4 v5 v6 v7 v8 v9 v10 v11 v12 v13 v14 v15 v16 v17 v18 v19))else none)else none)else(bif (decide ((v6.length:Int)>0))then(if(0:Int)≤0∧0<(v6.length:Int)then(if(0:Int)≤0∧0<(v6.length:Int)then(if(0:Int)≤(Aoc .i64 (gt v6 0) v9)∧(Aoc .i64 (gt v6 0) v9)≤(Aoa .i64 (Aoc .i64 (gt v6 0) v9) v7)∧(Aoa .i64 (Aoc .i64 (gt v6 0) v9) v7)≤(v14.length:Int)then((Asc K ((v14.drop (Aoc .i64 (gt v6 0) v9).toNat).take ((Aoa .i64 (Aoc .i64 (gt v6 0) v9) v7) - (Aoc .i64 (gt v6 0) v9)).toNat)).bind fun r20=>(bif (!r20)then some false else(Aqy K v3 v4 v17)))else none)else none)else none)else(Aqy K v3 v4 v17)))
def At3 (K:Nat)(a0:Eb)(a1:Int):Option (Bool):=(if(0:Int)≤a1∧a1<(a0.fQ.length:Int)then((Au4 K a0.fC (gt a0.fQ a1)).bind fun r1=>(bif (!r1)then some false else(Aou K K 0 ((gt a0.fQ a1).A5) ((gt a0.fQ a1).Bt) ((gt a0.fQ a1).Dg) ((gt a0.fQ a1).Ae) ((gt a0.fQ a1).Gu) a0.fC.Ae a0.fC.Eg a0.fC.C0 a0.fC.E9 a0.fC.C1 a0.fC.Eh a0.fP.Fy a0.fP.Hh a0.fP.Fz a0.fL a0.fQ a0.Pr)))else none)
def s_44:Sig:=⟨[.v 32,.v 3],[.v 4],true⟩
def Bzu (K:Nat):Gb tyU:=⟨s_44,At3 K⟩
def Bfg (K:Nat):=xF s_44 [(202,Bh4 K),(212,Bno K),(220,Bzs K),(221,Bu6 K)] [] 117 [40,41,70,71,80,81,82,85,86] [] [] [31,63] [.tmp 4]
def A2m:E5:=⟨[(2,.p 102),(7,.v 26),(8,.v 2)],[(102,.box [.v 2,.v 2,.v 2,.v 2,.v 2,.v 2,.v 22,.v 26,.v 26,.v 29,.v 30,.v 26])]⟩
def A88:E5:=⟨[(2,.p 102),(5,.p 105)],[(105,.box [.v 2,.v 2,.v 26,.v 26,.v 2]),(102,.box [.v 2,.v 2,.v 2,.v 2,.v 2,.v 2,.v 22,.v 26,.v 26,.v 29,.v 30,.v 26])]⟩
def A89:E5:=⟨[(2,.p 102),(5,.p 105)],[(105,.box [.v 2,.v 2,.v 26,.v 26,.v 2]),(102,.box [.v 2,.v 2,.v 2,.v 2,.v 2,.v 2,.v 22,.v 26,.v 26,.v 29,.v 30,.v 26])]⟩
def A4j:E5:=⟨[(2,.p 102),(5,.p 105),(6,.v 2)],[(105,.box [.v 2,.v 2,.v 26,.v 26,.v 2]),(102,.box [.v 2,.v 2,.v 2,.v 2,.v 2,.v 2,.v 22,.v 26,.v 26,.v 29,.v 30,.v 26])]⟩
def A2n (K:Nat)(n:Nat)(q:PT A2m):Rt s_44:=Apw K q.2.2.2.2.2.2.2.2.2.2.2.1 q.1 n q.2.1
def A9a (K:Nat)(q:PT A88):Rt s_44:=Aok K q.2.1 q.2.2.2.2.2.2.2.2.2.2.2.2.2.2.1
def A9b (K:Nat)(q:PT A89):Rt s_44:=Aqy K q.1 q.2.1 q.2.2.2.2.2.2.2.2.2.2.2.2.2.2.1
def A4k (K:Nat)(n:Nat)(q:PT A4j):Rt s_44:=Aou K n q.1 q.2.1 q.2.2.1 q.2.2.2.1 q.2.2.2.2.1 q.2.2.2.2.2.1 q.2.2.2.2.2.2.1 q.2.2.2.2.2.2.2.1 q.2.2.2.2.2.2.2.2.1 q.2.2.2.2.2.2.2.2.2.1 q.2.2.2.2.2.2.2.2.2.2.1 q.2.2.2.2.2.2.2.2.2.2.2.1 q.2.2.2.2.2.2.2.2.2.2.2.2.1 q.2.2.2.2.2.2.2.2.2.2.2.2.2.1 q.2.2.2.2.2.2.2.2.2.2.2.2.2.2.1 q.2.2.2.2.2.2.2.2.2.2.2.2.2.2.2.1 q.2.2.2.2.2.2.2.2.2.2.2.2.2.2.2.2.1 q.2.2.2.2.2.2.2.2.2.2.2.2.2.2.2.2.2.1
theorem Bfh (K:Nat):AtL (Bfg K) (fun n=>[]) [] (bd Tryz.f147) 2042 (A2n K):=fun n q=>by kernel_rfl
theorem Boi (K:Nat):AtJ (Bfg K) [(2042,ar A2m (A2n K K))] [] (bd Tryz.f147) 63 (A9a K):=fun q=>by kernel_rfl
theorem Boj (K:Nat):AtJ (Bfg K) [(63,ar A88 (A9a K))] [] (bd Tryz.f147) 31 (A9b K):=fun q=>by kernel_rfl
theorem Bia (K:Nat):AtL (Bfg K) (fun n=>[(31,ar A89 (A9b K))]) [] (bd Tryz.f147) 122 (A4k K):=fun n q=>by kernel_rfl
theorem Ba2 (K:Nat):XF [.tmp 4] s_44 117 [31,63] (Bfg K):=xkF (gC (Bd9 K) (gC (Bhn K) (gC (Bzt K) (gC (Bqy K) gN)))) oN
theorem Bfi (K:Nat)(n:Nat):CF [.tmp 4] s_44 117 [31,63] (bd Tryz.f147) [] 2042 (ar A2m (A2n K n)):=
 Aei (Ba2 K) (Bfh K) (fun n=>kN) n
theorem Bok (K:Nat):CF [.tmp 4] s_44 117 [31,63] (bd Tryz.f147) [] 63 (ar A88 (A9a K)):=
 Ala (Ba2 K) (Boi K) (kC (Bfi K K) kN)
theorem Bol (K:Nat):CF [.tmp 4] s_44 117 [31,63] (bd Tryz.f147) [] 31 (ar A89 (A9b K)):=
 Ala (Ba2 K) (Boj K) (kC (Bok K) kN)
theorem Bib (K:Nat)(n:Nat):CF [.tmp 4] s_44 117 [31,63] (bd Tryz.f147) [] 122 (ar A4j (A4k K n)):=
 Aei (Ba2 K) (Bia K) (fun n=>(kC (Ao2 (by kernel_rfl) (Bol K)) kN)) n
theorem Bzv (K:Nat):OkF 147 (Bzu K):=
 Aa6 (x:=Bfg K) (L:=[(122,ar A4j (A4k K K))]) (c0:=bd Tryz.f147) (Ba2 K) (by intro a0 a1;show @Eq _ _ _;kernel_rfl) (kC (Bib K K) kN) Tryz.func147 trivial
def Ax3 (K:Nat)(a0:Ba):Option (Bool):=(bif (a0.Ly==0)then(bif (a0.fUp==0)then(bif (a0.Gq==0)then(bif (a0.Bt==0)then(bif (a0.Gr==0)then(bif (a0.Gs==0)then(bif ((a0.Ae.length:Int)==0)then(bif (a0.Pq==0)then(bif (a0.Gt==0)then(bif ((a0.Ea.length:Int)==0)then some ((a0.Dg.length:Int)==0)else some false)else some false)else some false)else some false)else some false)else some false)else some false)else some false)else some false)else some false)
def Bzw:Sig:=⟨[.v 44],[.v 4],true⟩
def Bzx (K:Nat):Gb tyU:=⟨Bzw,Ax3 K⟩
def B47 (K:Nat):=xF Bzw [] [] 59 [5,6,9,10,11,14,15,16,19,20,21,24,25,26,29,30,31,35,36,37,40,41,42,45,46,47,51,52,53] [] [] [] [.tmp 2]
theorem Bzy (K:Nat):OkF 214 (Bzx K):=
 Aa6 (x:=B47 K) (L:=[]) (c0:=bd Tryz.f214) (xkF gN oN) (by intro a0;show @Eq _ _ _;kernel_rfl) kN Tryz.func214 trivial
def Aov (K:Nat)(a0:Er):Nat->Int->Int->Int->Int->Int->Int->Int->Int->Int->(List Int)->Int->Int->(List A9)->(List Int)->Option (Bool)
 |0,_,_,_,_,_,_,_,_,_,_,_,_,_,_=>none
 |n1+1,v1,v2,v3,v4,v5,v6,v7,v8,v9,v10,v11,v12,v13,v14=>(bif (decide (v1<(v10.length:Int)))then(if(0:Int)≤v1∧v1<(v10.length:Int)then((Abk K (gt v10 v1) 0 (Aob .i64 a0.Ae 1)).bind fun r15=>(bif r15 then(if(0:Int)≤0∧0≤v1∧v1≤(v10.length:Int)then(if(0:Int)≤v1∧v1<(v10.length:Int)then((An6 K ((v10.drop (0:Int).toNat).take (v1 - 0).toNat) (gt v10 v1)).bind fun r16=>(bif r16 then some false else(Aov K a0 n1 (Aoa .i64 v1 1) v2 v3 v4 v5 v6 v7 v8 v9 v10 v11 v12 v13 v14)))else none)else none)else some false))else none)else(bif (v11==0)then some (v12==0)else((An6 K v10 (Aob .i64 v11 1)).bind fun r17=>(bif r17 then((Abk K v12 0 a0.Eg).bind fun r18=>some r18)else some false))))
def At4 (K:Nat)(a0:Er)(a1:Ba):Option (Bool):=(Aov K a0 K 0 a1.Hh a1.C2 a1.Ly a1.fUp a1.Gq a1.Bt a1.Gr a1.Gs a1.Ae a1.Pq a1.Gt a1.Ea a1.Dg)
def s_46:Sig:=⟨[.v 25,.v 44],[.v 4],true⟩
def Bzz (K:Nat):Gb tyU:=⟨s_46,At4 K⟩
def Bva (K:Nat):=xF s_46 [(84,A3u K),(218,Bci K)] [] 54 [21,22,23,46,47] [] [] [] [.tmp 4]
def A9c:E5:=⟨[(2,.p 102),(3,.p 103),(5,.v 2)],[(103,.box [.v 2,.v 2,.v 2,.v 2,.v 2,.v 2,.v 2,.v 2,.v 26,.v 2,.v 2,.v 41,.v 26]),(102,.st 25 true)]⟩
def A9d (K:Nat)(n:Nat)(q:PT A9c):Rt s_46:=Aov K q.2.2.2.2.2.2.2.2.2.2.2.2.2.2.1 n q.1 q.2.1 q.2.2.1 q.2.2.2.1 q.2.2.2.2.1 q.2.2.2.2.2.1 q.2.2.2.2.2.2.1 q.2.2.2.2.2.2.2.1 q.2.2.2.2.2.2.2.2.1 q.2.2.2.2.2.2.2.2.2.1 q.2.2.2.2.2.2.2.2.2.2.1 q.2.2.2.2.2.2.2.2.2.2.2.1 q.2.2.2.2.2.2.2.2.2.2.2.2.1 q.2.2.2.2.2.2.2.2.2.2.2.2.2.1
theorem Bom (K:Nat):AtL (Bva K) (fun n=>[]) [] (bd Tryz.f215) 26 (A9d K):=fun n q=>by kernel_rfl
theorem Bq0 (K:Nat):XF [.tmp 4] s_46 54 [] (Bva K):=xkF (gC (Azn K) (gC (A7w K) gN)) oN
theorem Bon (K:Nat)(n:Nat):CF [.tmp 4] s_46 54 [] (bd Tryz.f215) [] 26 (ar A9c (A9d K n)):=
 Aei (Bq0 K) (Bom K) (fun n=>kN) n
theorem Bz0 (K:Nat):OkF 215 (Bzz K):=
 Aa6 (x:=Bva K) (L:=[(26,ar A9c (A9d K K))]) (c0:=bd Tryz.f215) (Bq0 K) (by intro a0 a1;show @Eq _ _ _;kernel_rfl) (kC (Bon K K) kN) Tryz.func215 trivial
def Au5 (K:Nat)(a0:Er)(a1:Int):Option (Bool):=some (decide (a1>a0.Eg))
def Bz1:Sig:=⟨[.v 25,.v 3],[.v 4],true⟩
def Bz2 (K:Nat):Gb tyU:=⟨Bz1,Au5 K⟩
def B48 (K:Nat):=xF Bz1 [] [] 9 [] [] [] [] [.tmp 4]
theorem Bz3 (K:Nat):OkF 265 (Bz2 K):=
 Aa6 (x:=B48 K) (L:=[]) (c0:=bd Tryz.f265) (xkF gN oN) (by intro a0 a1;show @Eq _ _ _;kernel_rfl) kN Tryz.func265 trivial
def As2 (K:Nat)(a0:Int)(a1:Int):Option (Int):=((Abk K a0 0 1000000000).bind fun r1=>(bif r1 then((Abk K a1 1 1000000000).bind fun r2=>(bif (!r2)then some 0 else(if a1≠(0:Int)then some (Alr .i64 (Aob .i64 (Aoa .i64 a0 a1) 1) a1)else none)))else some 0))
def Bz4:Sig:=⟨[.v 3,.v 3],[.v 3],true⟩
def Bvb (K:Nat):Gb tyU:=⟨Bz4,As2 K⟩
def B49 (K:Nat):=xF Bz4 [(84,A3u K)] [] 19 [6,7,8] [] [] [] [.tmp 4]
theorem Bq1 (K:Nat):OkF 296 (Bvb K):=
 Aa6 (x:=B49 K) (L:=[]) (c0:=bd Tryz.f296) (xkF (gC (Azn K) gN) oN) (by intro a0 a1;show @Eq _ _ _;kernel_rfl) kN Tryz.func296 trivial
def Atg (K:Nat)(a0:Er)(a1:Int):Option (Int):=((As2 K a1 a0.Eg).bind fun r1=>some r1)
def Bz5:Sig:=⟨[.v 25,.v 3],[.v 3],true⟩
def Bz6 (K:Nat):Gb tyU:=⟨Bz5,Atg K⟩
def B5a (K:Nat):=xF Bz5 [(296,Bvb K)] [] 9 [] [] [] [] [.tmp 4]
theorem Bz7 (K:Nat):OkF 266 (Bz6 K):=
 Aa6 (x:=B5a K) (L:=[]) (c0:=bd Tryz.f266) (xkF (gC (Bq1 K) gN) oN) (by intro a0 a1;show @Eq _ _ _;kernel_rfl) kN Tryz.func266 trivial
def Arg (K:Nat)(a0:Er)(a1:A9):Option (Bool):=((Asw K a0).bind fun r1=>(bif (r1==0)then some false else(bif (decide (a1.Vu<1))then some false else(bif (decide (a1.fAt<0))then some false else(bif (decide (a1.fAt>r1))then some false else(bif (decide (a1.Vu>(Aob .i64 r1 a1.fAt)))then some false else(bif (a1.Vv==0)then(bif (decide (a1.Vu≤a0.Eg))then(if a0.Eg≠(0:Int)then(if a0.Eg≠(0:Int)then some ((Alr .i64 a1.fAt a0.Eg)==(Alr .i64 (Aob .i64 (Aoa .i64 a1.fAt a1.Vu) 1) a0.Eg))else none)else none)else some false)else((Au5 K a0 a1.Vu).bind fun r2=>(bif r2 then((Atg K a0 a1.Vu).bind fun r3=>(bif (a1.Vv==r3)then(if a0.Eg≠(0:Int)then some ((Int.tmod a1.fAt a0.Eg)==0)else none)else some false))else some false)))))))))
def Bz8:Sig:=⟨[.v 25,.v 89],[.v 4],true⟩
def Bvc (K:Nat):Gb tyU:=⟨Bz8,Arg K⟩
def B5b (K:Nat):=xF Bz8 [(211,Bu0 K),(265,Bz2 K),(266,Bz6 K)] [] 81 [9,10,13,14,15,18,19,20,24,25,26,42,43,63,64,71,72,73] [] [] [] [.tmp 4]
theorem Bq2 (K:Nat):OkF 216 (Bvc K):=
 Aa6 (x:=B5b K) (L:=[]) (c0:=bd Tryz.f216) (xkF (gC (Bqu K) (gC (Bz3 K) (gC (Bz7 K) gN))) oN) (by intro a0 a1;show @Eq _ _ _;kernel_rfl) kN Tryz.func216 trivial
def Apx (K:Nat)(v23:List Int):Nat->Int->Option (Bool)
 |0,_=>none
 |n2+1,v25=>(bif (decide (v25<(v23.length:Int)))then(if(0:Int)≤v25∧v25<(v23.length:Int)then((Abk K (gt v23 v25) 0 255).bind fun r26=>(bif (!r26)then some false else(Apx K v23 n2 (Aoa .i64 v25 1))))else none)else some true)
def Apg (K:Nat)(a0:Er):Nat->Int->Int->Int->Int->Int->Int->Int->Int->Int->(List Int)->Int->Int->(List A9)->(List Int)->Option (Bool)
 |0,_,_,_,_,_,_,_,_,_,_,_,_,_,_=>none
 |n1+1,v10,v11,v12,v13,v14,v15,v16,v17,v18,v19,v20,v21,v22,v23=>(bif (decide (v10<(v22.length:Int)))then(if(0:Int)≤v10∧v10<(v22.length:Int)then((Arg K a0 (gt v22 v10)).bind fun r24=>(bif (!r24)then some false else(Apg K a0 n1 (Aoa .i64 v10 1) v11 v12 v13 v14 v15 v16 v17 v18 v19 v20 v21 v22 v23)))else none)else(Apx K v23 K 0))
def Awa (K:Nat)(a0:Er)(a1:Ba):Option (Bool):=((Aq6 K a0).bind fun r1=>(bif r1 then((Abk K a1.Hh 0 3).bind fun r2=>(bif r2 then((Abk K a1.C2 1 a0.Eh).bind fun r3=>(bif (!r3)then some false else(bif (a1.Hh != 1)then((Ax3 K a1).bind fun r4=>some r4)else(bif (decide (a1.Ly<0))then some false else(bif (decide (a1.Gq<0))then some false else((Abk K a1.fUp 0 a0.C0).bind fun r5=>(bif r5 then((Abk K a1.Bt 0 a0.C0).bind fun r6=>(bif r6 then((Abk K a1.Gr 0 a0.C0).bind fun r7=>(bif r7 then((Abk K a1.Gs 0 a0.C0).bind fun r8=>(bif r8 then((At4 K a0 a1).bind fun r9=>(bif r9 then(bif (decide ((a1.Ea.length:Int)>12))then some false else(bif (decide ((a1.Dg.length:Int)>6))then some false else(Apg K a0 K 0 a1.Hh a1.C2 a1.Ly a1.fUp a1.Gq a1.Bt a1.Gr a1.Gs a1.Ae a1.Pq a1.Gt a1.Ea a1.Dg)))else some false))else some false))else some false))else some false))else some false)))))))else some false))else some false))
def s_51:Sig:=⟨[.v 25,.v 44],[.v 4],true⟩
def Bz9 (K:Nat):Gb tyU:=⟨s_51,Awa K⟩
def Boo (K:Nat):=xF s_51 [(84,A3u K),(210,Bhm K),(214,Bzx K),(215,Bzz K),(216,Bvc K)] [] 116 [8,9,10,13,14,15,16,31,32,35,36,37,42,43,44,45,50,51,52,53,58,59,60,61,66,67,68,69,72,73,74,75,79,80,81] [] [] [] [.tmp 4]
def A4l:E5:=⟨[(3,.p 103),(6,.v 2)],[(103,.box [.v 2,.v 2,.v 2,.v 2,.v 2,.v 2,.v 2,.v 2,.v 26,.v 2,.v 2,.v 41,.v 26])]⟩
def A4m:E5:=⟨[(2,.p 102),(3,.p 103),(5,.v 2)],[(103,.box [.v 2,.v 2,.v 2,.v 2,.v 2,.v 2,.v 2,.v 2,.v 26,.v 2,.v 2,.v 41,.v 26]),(102,.st 25 true)]⟩
def A4n (K:Nat)(n:Nat)(q:PT A4l):Rt s_51:=Apx K q.2.2.2.2.2.2.2.2.2.2.2.2.2.1 n q.1
def A4o (K:Nat)(n:Nat)(q:PT A4m):Rt s_51:=Apg K q.2.2.2.2.2.2.2.2.2.2.2.2.2.2.1 n q.1 q.2.1 q.2.2.1 q.2.2.2.1 q.2.2.2.2.1 q.2.2.2.2.2.1 q.2.2.2.2.2.2.1 q.2.2.2.2.2.2.2.1 q.2.2.2.2.2.2.2.2.1 q.2.2.2.2.2.2.2.2.2.1 q.2.2.2.2.2.2.2.2.2.2.1 q.2.2.2.2.2.2.2.2.2.2.2.1 q.2.2.2.2.2.2.2.2.2.2.2.2.1 q.2.2.2.2.2.2.2.2.2.2.2.2.2.1
theorem Bic (K:Nat):AtL (Boo K) (fun n=>[]) [] (bd Tryz.f142) 506 (A4n K):=fun n q=>by kernel_rfl
theorem Bid (K:Nat):AtL (Boo K) (fun n=>[(506,ar A4l (A4n K K))]) [] (bd Tryz.f142) 250 (A4o K):=fun n q=>by kernel_rfl
theorem Bie (K:Nat):XF [.tmp 4] s_51 116 [] (Boo K):=xkF (gC (Azn K) (gC (Bd7 K) (gC (Bzy K) (gC (Bz0 K) (gC (Bq2 K) gN))))) oN
theorem Bif (K:Nat)(n:Nat):CF [.tmp 4] s_51 116 [] (bd Tryz.f142) [] 506 (ar A4l (A4n K n)):=
 Aei (Bie K) (Bic K) (fun n=>kN) n
theorem Big (K:Nat)(n:Nat):CF [.tmp 4] s_51 116 [] (bd Tryz.f142) [] 250 (ar A4m (A4o K n)):=
 Aei (Bie K) (Bid K) (fun n=>(kC (Ao2 (by kernel_rfl) (Bif K K)) kN)) n
theorem B0a (K:Nat):OkF 142 (Bz9 K):=
 Aa6 (x:=Boo K) (L:=[(250,ar A4m (A4o K K))]) (c0:=bd Tryz.f142) (Bie K) (by intro a0 a1;show @Eq _ _ _;kernel_rfl) (kC (Big K K) kN) Tryz.func142 trivial
def Arh (K:Nat)(v2:Int)(v3:List Int)(v4:List Int)(v5:List Int)(C1:(List Int)->Int->(List Int)->(List Int)->(List Int)->Option ((List Int)))(v6:List Int):Option ((List Int)):=(C1 v6 (Aoa .i64 v2 1) v3 v4 v5)
def Alj (K:Nat)(a1:Int):Nat->(List Int)->Int->(List Int)->(List Int)->(List Int)->Option ((List Int))
 |0,_,_,_,_,_=>none
 |n1+1,v1,v2,v3,v4,v5=>(bif (decide (v2<(v4.length:Int)))then(bif (decide (v2<(v5.length:Int)))then(if(0:Int)≤v2∧v2<(v4.length:Int)then(bif ((gt v4 v2)==1)then(if(0:Int)≤v2∧v2<(v5.length:Int)then(bif ((gt v5 v2)==a1)then(if(v1++([v2]:List Int)).length*8≤140737488355328∧(v1++([v2]:List Int)).length≤maxLen then(Arh K v2 v3 v4 v5 (Alj K a1 n1) (v1++([v2]:List Int)))else none)else(Arh K v2 v3 v4 v5 (Alj K a1 n1) v1))else none)else(Arh K v2 v3 v4 v5 (Alj K a1 n1) v1))else none)else some v1)else some v1)
def Au6 (K:Nat)(a0:Dw)(a1:Int):Option ((List Int)):=(Alj K a1 K ([]:List Int) 0 a0.Fy a0.Hh a0.Fz)
def s_52:Sig:=⟨[.v 28,.v 3],[.n 26 true],true⟩
def B0b (K:Nat):Gb tyU:=⟨s_52,Au6 K⟩
def Bop (K:Nat):=xF s_52 [] [] 42 [12,13,27,28] [] [] [233] [.tmp 4]
def A4p:E5:=⟨[(1,.v 2),(2,.p 102),(5,.o 1005 3 true),(6,.v 2)],[(102,.box [.v 22,.v 26,.v 26])]⟩
def Ax4:E5:=⟨[(1,.v 2),(2,.p 102),(5,.o 1005 3 true),(6,.v 2)],[(102,.box [.v 22,.v 26,.v 26])]⟩
def A4q (K:Nat)(C58:CT Ax4 s_52)(q:PT A4p):Rt s_52:=Arh K q.2.2.1 q.2.2.2.1 q.2.2.2.2.1 q.2.2.2.2.2.1 (fun v1 v2 v3 v4 v5=>C58 (q.1,v1,v2,v3,v4,v5,())) q.2.1
def A1n (K:Nat)(n:Nat)(q:PT Ax4):Rt s_52:=Alj K q.1 n q.2.1 q.2.2.1 q.2.2.2.1 q.2.2.2.2.1 q.2.2.2.2.2.1
theorem Bih (K:Nat)(C58:CT Ax4 s_52):AtJ (Bop K) [] [(58,ar Ax4 C58)] (bd Tryz.f217) 233 (A4q K C58):=fun q=>by kernel_rfl
theorem Boq (K:Nat):AtL (Bop K) (fun n=>[(233,ar A4p (A4q K (A1n K n)))]) [] (bd Tryz.f217) 58 (A1n K):=fun n q=>by kernel_rfl
theorem Bii (K:Nat):XF [.tmp 4] s_52 42 [233] (Bop K):=xkF gN oN
theorem Bij (K:Nat)(C58:CT Ax4 s_52):CF [.tmp 4] s_52 42 [233] (bd Tryz.f217) [(58,ar Ax4 C58)] 233 (ar A4p (A4q K C58)):=
 Ala (Bii K) (Bih K C58) kN
theorem Bor (K:Nat)(n:Nat):CF [.tmp 4] s_52 42 [233] (bd Tryz.f217) [] 58 (ar Ax4 (A1n K n)):=
 Aei (Bii K) (Boq K) (fun n=>(kC (Bij K (A1n K n)) kN)) n
theorem B0c (K:Nat):OkF 217 (B0b K):=
 Aa6 (x:=Bop K) (L:=[(58,ar Ax4 (A1n K K))]) (c0:=bd Tryz.f217) (Bii K) (by intro a0 a1;show @Eq _ _ _;kernel_rfl) (kC (Bor K K) kN) Tryz.func217 trivial
def Ank (K:Nat)(a1:Int)(r1:(List Int)):Nat->Int->Int->Int->Int->Int->Int->Int->(List Int)->(List Int)->(List Int)->(List Ba)->(List Ax)->(List Int)->Option (Bool)
 |0,_,_,_,_,_,_,_,_,_,_,_,_,_=>none
 |n1+1,v2,v3,v4,v5,v6,v7,v8,v9,v10,v11,v12,v13,v14=>(bif (decide (v2<(r1.length:Int)))then(if(0:Int)≤a1∧a1<(v12.length:Int)then(if(0:Int)≤v2∧v2<(r1.length:Int)then((An6 K ((gt v12 a1).Ae) (gt r1 v2)).bind fun r15=>(bif (!r15)then some false else(Ank K a1 r1 n1 (Aoa .i64 v2 1) v3 v4 v5 v6 v7 v8 v9 v10 v11 v12 v13 v14)))else none)else none)else(if(0:Int)≤a1∧a1<(v12.length:Int)then some ((r1.length:Int)==(((gt v12 a1).Ae).length:Int))else none))
def Ath (K:Nat)(a0:Eb)(a1:Int):Option (Bool):=((Au6 K a0.fP a1).bind fun r1=>(Ank K a1 r1 K 0 a0.fC.Ae a0.fC.Eg a0.fC.C0 a0.fC.E9 a0.fC.C1 a0.fC.Eh a0.fP.Fy a0.fP.Hh a0.fP.Fz a0.fL a0.fQ a0.Pr))
def s_53:Sig:=⟨[.v 32,.v 3],[.v 4],true⟩
def B0d (K:Nat):Gb tyU:=⟨s_53,Ath K⟩
def Bvd (K:Nat):=xF s_53 [(217,B0b K),(218,Bci K)] [] 39 [] [] [] [] [.tmp 4]
def A9e:E5:=⟨[(1,.v 2),(2,.p 102),(5,.v 26),(6,.v 2)],[(102,.box [.v 2,.v 2,.v 2,.v 2,.v 2,.v 2,.v 22,.v 26,.v 26,.v 29,.v 30,.v 26])]⟩
def A9f (K:Nat)(n:Nat)(q:PT A9e):Rt s_53:=Ank K q.1 q.2.1 n q.2.2.1 q.2.2.2.1 q.2.2.2.2.1 q.2.2.2.2.2.1 q.2.2.2.2.2.2.1 q.2.2.2.2.2.2.2.1 q.2.2.2.2.2.2.2.2.1 q.2.2.2.2.2.2.2.2.2.1 q.2.2.2.2.2.2.2.2.2.2.1 q.2.2.2.2.2.2.2.2.2.2.2.1 q.2.2.2.2.2.2.2.2.2.2.2.2.1 q.2.2.2.2.2.2.2.2.2.2.2.2.2.1 q.2.2.2.2.2.2.2.2.2.2.2.2.2.2.1
theorem Bos (K:Nat):AtL (Bvd K) (fun n=>[]) [] (bd Tryz.f143) 58 (A9f K):=fun n q=>by kernel_rfl
theorem Bq3 (K:Nat):XF [.tmp 4] s_53 39 [] (Bvd K):=xkF (gC (B0c K) (gC (A7w K) gN)) oN
theorem Bou (K:Nat)(n:Nat):CF [.tmp 4] s_53 39 [] (bd Tryz.f143) [] 58 (ar A9e (A9f K n)):=
 Aei (Bq3 K) (Bos K) (fun n=>kN) n
theorem B0e (K:Nat):OkF 143 (B0d K):=
 Aa6 (x:=Bvd K) (L:=[(58,ar A9e (A9f K K))]) (c0:=bd Tryz.f143) (Bq3 K) (by intro a0 a1;show @Eq _ _ _;kernel_rfl) (kC (Bou K K) kN) Tryz.func143 trivial
def Aow (K:Nat)(a0:Er)(v1:Int)(v2:Int)(v3:Int)(v4:Int)(v5:Int)(v6:Int)(v7:Int)(v8:Int)(v9:Int)(v10:List Int)(v11:Int)(v12:Int)(v13:List A9)(v14:List Int)(C1:Int->Int->Int->Int->Int->Int->Int->Int->Int->(List Int)->Int->Int->(List A9)->(List Int)->Option (Bool)):Nat->Int->A9->Option (Bool)
 |0,_,_=>none
 |n2+1,v16,v17=>(if a0.Eg≠(0:Int)then(bif (decide (v16≤(Alr .i64 (Aob .i64 (Aoa .i64 v17.fAt v17.Vu) 1) a0.Eg)))then((An6 K v10 v16).bind fun r18=>(bif (!r18)then some false else(Aow K a0 v1 v2 v3 v4 v5 v6 v7 v8 v9 v10 v11 v12 v13 v14 C1 n2 (Aoa .i64 v16 1) v17)))else(C1 (Aoa .i64 v1 1) v2 v3 v4 v5 v6 v7 v8 v9 v10 v11 v12 v13 v14))else none)
def Ak4 (K:Nat)(a0:Er):Nat->Int->Int->Int->Int->Int->Int->Int->Int->Int->(List Int)->Int->Int->(List A9)->(List Int)->Option (Bool)
 |0,_,_,_,_,_,_,_,_,_,_,_,_,_,_=>none
 |n1+1,v1,v2,v3,v4,v5,v6,v7,v8,v9,v10,v11,v12,v13,v14=>(bif (decide (v1<(v13.length:Int)))then(if(0:Int)≤v1∧v1<(v13.length:Int)then((Arg K a0 (gt v13 v1)).bind fun r15=>(bif (!r15)then some false else(if a0.Eg≠(0:Int)then(Aow K a0 v1 v2 v3 v4 v5 v6 v7 v8 v9 v10 v11 v12 v13 v14 (Ak4 K a0 n1) K (Alr .i64 ((gt v13 v1).fAt) a0.Eg) (gt v13 v1))else none)))else none)else some true)
def At5 (K:Nat)(a0:Er)(a1:Ba):Option (Bool):=(Ak4 K a0 K 0 a1.Hh a1.C2 a1.Ly a1.fUp a1.Gq a1.Bt a1.Gr a1.Gs a1.Ae a1.Pq a1.Gt a1.Ea a1.Dg)
def s_54:Sig:=⟨[.v 25,.v 44],[.v 4],true⟩
def B0f (K:Nat):Gb tyU:=⟨s_54,At5 K⟩
def Bov (K:Nat):=xF s_54 [(216,Bvc K),(218,Bci K)] [] 47 [] [] [] [] [.tmp 4]
def A2o:E5:=⟨[(2,.p 102),(3,.p 103),(5,.v 2),(6,.p 106),(7,.v 2)],[(106,.st 89 true),(103,.box [.v 2,.v 2,.v 2,.v 2,.v 2,.v 2,.v 2,.v 2,.v 26,.v 2,.v 2,.v 41,.v 26]),(102,.st 25 true)]⟩
def Ax5:E5:=⟨[(2,.p 102),(3,.p 103),(5,.v 2)],[(103,.box [.v 2,.v 2,.v 2,.v 2,.v 2,.v 2,.v 2,.v 2,.v 26,.v 2,.v 2,.v 41,.v 26]),(102,.st 25 true)]⟩
def A2p (K:Nat)(C26:CT Ax5 s_54)(n:Nat)(q:PT A2o):Rt s_54:=Aow K q.2.2.2.2.2.2.2.2.2.2.2.2.2.2.2.2.1 q.1 q.2.2.2.1 q.2.2.2.2.1 q.2.2.2.2.2.1 q.2.2.2.2.2.2.1 q.2.2.2.2.2.2.2.1 q.2.2.2.2.2.2.2.2.1 q.2.2.2.2.2.2.2.2.2.1 q.2.2.2.2.2.2.2.2.2.2.1 q.2.2.2.2.2.2.2.2.2.2.2.1 q.2.2.2.2.2.2.2.2.2.2.2.2.1 q.2.2.2.2.2.2.2.2.2.2.2.2.2.1 q.2.2.2.2.2.2.2.2.2.2.2.2.2.2.1 q.2.2.2.2.2.2.2.2.2.2.2.2.2.2.2.1 (fun v1 v2 v3 v4 v5 v6 v7 v8 v9 v10 v11 v12 v13 v14=>C26 (v1,v2,v3,v4,v5,v6,v7,v8,v9,v10,v11,v12,v13,v14,q.2.2.2.2.2.2.2.2.2.2.2.2.2.2.2.2.1,())) n q.2.1 q.2.2.1
def A1o (K:Nat)(n:Nat)(q:PT Ax5):Rt s_54:=Ak4 K q.2.2.2.2.2.2.2.2.2.2.2.2.2.2.1 n q.1 q.2.1 q.2.2.1 q.2.2.2.1 q.2.2.2.2.1 q.2.2.2.2.2.1 q.2.2.2.2.2.2.1 q.2.2.2.2.2.2.2.1 q.2.2.2.2.2.2.2.2.1 q.2.2.2.2.2.2.2.2.2.1 q.2.2.2.2.2.2.2.2.2.2.1 q.2.2.2.2.2.2.2.2.2.2.2.1 q.2.2.2.2.2.2.2.2.2.2.2.2.1 q.2.2.2.2.2.2.2.2.2.2.2.2.2.1
theorem Bfj (K:Nat)(C26:CT Ax5 s_54):AtL (Bov K) (fun n=>[]) [(26,ar Ax5 C26)] (bd Tryz.f144) 6734 (A2p K C26):=fun n q=>by kernel_rfl
theorem Bow (K:Nat):AtL (Bov K) (fun n=>[(6734,ar A2o (A2p K (A1o K n) K))]) [] (bd Tryz.f144) 26 (A1o K):=fun n q=>by kernel_rfl
theorem Bik (K:Nat):XF [.tmp 4] s_54 47 [] (Bov K):=xkF (gC (Bq2 K) (gC (A7w K) gN)) oN
theorem Bfk (K:Nat)(C26:CT Ax5 s_54)(n:Nat):CF [.tmp 4] s_54 47 [] (bd Tryz.f144) [(26,ar Ax5 C26)] 6734 (ar A2o (A2p K C26 n)):=
 Aei (Bik K) (Bfj K C26) (fun n=>kN) n
theorem Box (K:Nat)(n:Nat):CF [.tmp 4] s_54 47 [] (bd Tryz.f144) [] 26 (ar Ax5 (A1o K n)):=
 Aei (Bik K) (Bow K) (fun n=>(kC (Bfk K (A1o K n) K) kN)) n
theorem B0g (K:Nat):OkF 144 (B0f K):=
 Aa6 (x:=Bov K) (L:=[(26,ar Ax5 (A1o K K))]) (c0:=bd Tryz.f144) (Bik K) (by intro a0 a1;show @Eq _ _ _;kernel_rfl) (kC (Box K K) kN) Tryz.func144 trivial
def Axa (K:Nat)(a0:A9)(a1:A9):Option (Bool):=(bif (decide (a0.Vu<1))then some true else(bif (decide (a1.Vu<1))then some true else(bif (decide (a0.fAt≤a1.fAt))then(bif (decide ((Aob .i64 a1.fAt a0.fAt)≥a0.Vu))then some true else some (decide ((Aob .i64 a1.fAt a0.fAt)<0)))else(bif (decide ((Aob .i64 a0.fAt a1.fAt)≥a1.Vu))then some true else some (decide ((Aob .i64 a0.fAt a1.fAt)<0))))))
def B0h:Sig:=⟨[.v 89,.v 89],[.v 4],true⟩
def B0i (K:Nat):Gb tyU:=⟨B0h,Axa K⟩
def B5c (K:Nat):=xF B0h [] [] 50 [7,8,25,26,41,42] [] [] [] [.tmp 4]
theorem B0j (K:Nat):OkF 219 (B0i K):=
 Aa6 (x:=B5c K) (L:=[]) (c0:=bd Tryz.f219) (xkF gN oN) (by intro a0 a1;show @Eq _ _ _;kernel_rfl) kN Tryz.func219 trivial
def Aox (K:Nat)(a0:List A9)(v1:Int)(C1:Int->Option (Bool)):Nat->Int->Option (Bool)
 |0,_=>none
 |n2+1,v2=>(bif (decide (v2<v1))then(if(0:Int)≤v1∧v1<(a0.length:Int)then(if(0:Int)≤v2∧v2<(a0.length:Int)then((Axa K (gt a0 v1) (gt a0 v2)).bind fun r3=>(bif (!r3)then some false else(Aox K a0 v1 C1 n2 (Aoa .i64 v2 1))))else none)else none)else(C1 (Aoa .i64 v1 1)))
def Ak5 (K:Nat)(a0:List A9):Nat->Int->Option (Bool)
 |0,_=>none
 |n1+1,v1=>(bif (decide (v1<(a0.length:Int)))then(Aox K a0 v1 (Ak5 K a0 n1) K 0)else some true)
def At6 (K:Nat)(a0:List A9):Option (Bool):=(Ak5 K a0 K 0)
def s_56:Sig:=⟨[.v 41],[.v 4],true⟩
def B0k (K:Nat):Gb tyU:=⟨s_56,At6 K⟩
def Boy (K:Nat):=xF s_56 [(219,B0i K)] [] 26 [] [] [] [] [.tmp 2]
def A2q:E5:=⟨[(0,.v 41),(3,.v 2),(4,.v 2)],[]⟩
def Ax6:E5:=⟨[(0,.v 41),(3,.v 2)],[]⟩
def A2r (K:Nat)(C26:CT Ax6 s_56)(n:Nat)(q:PT A2q):Rt s_56:=Aox K q.1 q.2.1 (fun v1=>C26 (q.1,v1,())) n q.2.2.1
def A1p (K:Nat)(n:Nat)(q:PT Ax6):Rt s_56:=Ak5 K q.1 n q.2.1
theorem Bfl (K:Nat)(C26:CT Ax6 s_56):AtL (Boy K) (fun n=>[]) [(26,ar Ax6 C26)] (bd Tryz.f145) 1682 (A2r K C26):=fun n q=>by kernel_rfl
theorem Boz (K:Nat):AtL (Boy K) (fun n=>[(1682,ar A2q (A2r K (A1p K n) K))]) [] (bd Tryz.f145) 26 (A1p K):=fun n q=>by kernel_rfl
theorem Bil (K:Nat):XF [.tmp 2] s_56 26 [] (Boy K):=xkF (gC (B0j K) gN) oN
theorem Bfm (K:Nat)(C26:CT Ax6 s_56)(n:Nat):CF [.tmp 2] s_56 26 [] (bd Tryz.f145) [(26,ar Ax6 C26)] 1682 (ar A2q (A2r K C26 n)):=
 Aei (Bil K) (Bfl K C26) (fun n=>kN) n
theorem Bo0 (K:Nat)(n:Nat):CF [.tmp 2] s_56 26 [] (bd Tryz.f145) [] 26 (ar Ax6 (A1p K n)):=
 Aei (Bil K) (Boz K) (fun n=>(kC (Bfm K (A1p K n) K) kN)) n
theorem B0l (K:Nat):OkF 145 (B0k K):=
 Aa6 (x:=Boy K) (L:=[(26,ar Ax6 (A1p K K))]) (c0:=bd Tryz.f145) (Bil K) (by intro a0;show @Eq _ _ _;kernel_rfl) (kC (Bo0 K K) kN) Tryz.func145 trivial
def Aso (K:Nat)(v1:Int)(v2:Int)(v3:Int)(v4:Int)(v5:Int)(v6:Int)(v7:Int)(v8:Int)(v9:Int)(v10:Int)(v11:Int)(v12:List Int)(v13:Int)(v14:Int)(v15:List A9)(v16:List Int)(v17:Int)(v18:Int)(v19:Int)(v20:Int)(v21:Int)(v22:Int)(v23:List Int)(v24:List Int)(v25:List Int)(v26:List Ba)(v27:List Ax)(v28:List Int)(C1:Int->Int->Int->Int->Int->Int->Int->Int->Int->Int->Int->(List Int)->Int->Int->(List A9)->(List Int)->Int->Int->Int->Int->Int->Int->(List Int)->(List Int)->(List Int)->(List Ba)->(List Ax)->(List Int)->Option (Bool)):Option (Bool):=(C1 v1 v2 (Aoa .i64 v3 1) v4 v5 v6 v7 v8 v9 v10 v11 v12 v13 v14 v15 v16 v17 v18 v19 v20 v21 v22 v23 v24 v25 v26 v27 v28)
def Amf (K:Nat):Nat->Int->Int->Int->Int->Int->Int->Int->Int->Int->Int->Int->(List Int)->Int->Int->(List A9)->(List Int)->Int->Int->Int->Int->Int->Int->(List Int)->(List Int)->(List Int)->(List Ba)->(List Ax)->(List Int)->Option (Bool)
 |0,_,_,_,_,_,_,_,_,_,_,_,_,_,_,_,_,_,_,_,_,_,_,_,_,_,_,_,_=>none
 |n1+1,v1,v2,v3,v4,v5,v6,v7,v8,v9,v10,v11,v12,v13,v14,v15,v16,v17,v18,v19,v20,v21,v22,v23,v24,v25,v26,v27,v28=>(bif (decide (v3<(v15.length:Int)))then(if(0:Int)≤v3∧v3<(v15.length:Int)then(bif (decide (((gt v15 v3).fAt)<v2))then(bif (decide ((Aoa .i64 ((gt v15 v3).fAt) ((gt v15 v3).Vu))>v1))then some false else(Aso K v1 v2 v3 v4 v5 v6 v7 v8 v9 v10 v11 v12 v13 v14 v15 v16 v17 v18 v19 v20 v21 v22 v23 v24 v25 v26 v27 v28 (Amf K n1)))else(Aso K v1 v2 v3 v4 v5 v6 v7 v8 v9 v10 v11 v12 v13 v14 v15 v16 v17 v18 v19 v20 v21 v22 v23 v24 v25 v26 v27 v28 (Amf K n1)))else none)else(if(0:Int)≤v1∧v1≤v2∧v2≤(v23.length:Int)then((Asc K ((v23.drop v1.toNat).take (v2 - v1).toNat)).bind fun r29=>some r29)else none))
def At7 (K:Nat)(a0:Eb)(a1:Int):Option (Bool):=(if(0:Int)≤a1∧a1<(a0.fL.length:Int)then(bif (((gt a0.fL a1).Pq)==0)then some true else(bif (decide ((Aoa .i64 (Aoc .i64 (Aob .i64 ((gt a0.fL a1).Pq) 1) a0.fC.Eg) ((gt a0.fL a1).Gt))≥(Aoc .i64 ((gt a0.fL a1).Pq) a0.fC.Eg)))then some true else(Amf K K (Aoa .i64 (Aoc .i64 (Aob .i64 ((gt a0.fL a1).Pq) 1) a0.fC.Eg) ((gt a0.fL a1).Gt)) (Aoc .i64 ((gt a0.fL a1).Pq) a0.fC.Eg) 0 ((gt a0.fL a1).Hh) ((gt a0.fL a1).C2) ((gt a0.fL a1).Ly) ((gt a0.fL a1).fUp) ((gt a0.fL a1).Gq) ((gt a0.fL a1).Bt) ((gt a0.fL a1).Gr) ((gt a0.fL a1).Gs) ((gt a0.fL a1).Ae) ((gt a0.fL a1).Pq) ((gt a0.fL a1).Gt) ((gt a0.fL a1).Ea) ((gt a0.fL a1).Dg) a0.fC.Ae a0.fC.Eg a0.fC.C0 a0.fC.E9 a0.fC.C1 a0.fC.Eh a0.fP.Fy a0.fP.Hh a0.fP.Fz a0.fL a0.fQ a0.Pr)))else none)
def s_57:Sig:=⟨[.v 32,.v 3],[.v 4],true⟩
def B0m (K:Nat):Gb tyU:=⟨s_57,At7 K⟩
def Bo1 (K:Nat):=xF s_57 [(212,Bno K)] [] 71 [33,34,54,55] [] [] [2025] [.tmp 4]
def A2s:E5:=⟨[(2,.p 102),(5,.p 105),(6,.v 2),(7,.v 2),(8,.v 2)],[(105,.box [.v 2,.v 2,.v 2,.v 2,.v 2,.v 2,.v 2,.v 2,.v 26,.v 2,.v 2,.v 41,.v 26]),(102,.box [.v 2,.v 2,.v 2,.v 2,.v 2,.v 2,.v 22,.v 26,.v 26,.v 29,.v 30,.v 26])]⟩
def Aws:E5:=⟨[(2,.p 102),(5,.p 105),(6,.v 2),(7,.v 2),(8,.v 2)],[(105,.box [.v 2,.v 2,.v 2,.v 2,.v 2,.v 2,.v 2,.v 2,.v 26,.v 2,.v 2,.v 41,.v 26]),(102,.box [.v 2,.v 2,.v 2,.v 2,.v 2,.v 2,.v 22,.v 26,.v 26,.v 29,.v 30,.v 26])]⟩
def A2t (K:Nat)(C506:CT Aws s_57)(q:PT A2s):Rt s_57:=Aso K q.1 q.2.1 q.2.2.1 q.2.2.2.1 q.2.2.2.2.1 q.2.2.2.2.2.1 q.2.2.2.2.2.2.1 q.2.2.2.2.2.2.2.1 q.2.2.2.2.2.2.2.2.1 q.2.2.2.2.2.2.2.2.2.1 q.2.2.2.2.2.2.2.2.2.2.1 q.2.2.2.2.2.2.2.2.2.2.2.1 q.2.2.2.2.2.2.2.2.2.2.2.2.1 q.2.2.2.2.2.2.2.2.2.2.2.2.2.1 q.2.2.2.2.2.2.2.2.2.2.2.2.2.2.1 q.2.2.2.2.2.2.2.2.2.2.2.2.2.2.2.1 q.2.2.2.2.2.2.2.2.2.2.2.2.2.2.2.2.1 q.2.2.2.2.2.2.2.2.2.2.2.2.2.2.2.2.2.1 q.2.2.2.2.2.2.2.2.2.2.2.2.2.2.2.2.2.2.1 q.2.2.2.2.2.2.2.2.2.2.2.2.2.2.2.2.2.2.2.1 q.2.2.2.2.2.2.2.2.2.2.2.2.2.2.2.2.2.2.2.2.1 q.2.2.2.2.2.2.2.2.2.2.2.2.2.2.2.2.2.2.2.2.2.1 q.2.2.2.2.2.2.2.2.2.2.2.2.2.2.2.2.2.2.2.2.2.2.1 q.2.2.2.2.2.2.2.2.2.2.2.2.2.2.2.2.2.2.2.2.2.2.2.1 q.2.2.2.2.2.2.2.2.2.2.2.2.2.2.2.2.2.2.2.2.2.2.2.2.1 q.2.2.2.2.2.2.2.2.2.2.2.2.2.2.2.2.2.2.2.2.2.2.2.2.2.1 q.2.2.2.2.2.2.2.2.2.2.2.2.2.2.2.2.2.2.2.2.2.2.2.2.2.2.1 q.2.2.2.2.2.2.2.2.2.2.2.2.2.2.2.2.2.2.2.2.2.2.2.2.2.2.2.1 (fun v1 v2 v3 v4 v5 v6 v7 v8 v9 v10 v11 v12 v13 v14 v15 v16 v17 v18 v19 v20 v21 v22 v23 v24 v25 v26 v27 v28=>C506 (v1,v2,v3,v4,v5,v6,v7,v8,v9,v10,v11,v12,v13,v14,v15,v16,v17,v18,v19,v20,v21,v22,v23,v24,v25,v26,v27,v28,()))
def Azp (K:Nat)(n:Nat)(q:PT Aws):Rt s_57:=Amf K n q.1 q.2.1 q.2.2.1 q.2.2.2.1 q.2.2.2.2.1 q.2.2.2.2.2.1 q.2.2.2.2.2.2.1 q.2.2.2.2.2.2.2.1 q.2.2.2.2.2.2.2.2.1 q.2.2.2.2.2.2.2.2.2.1 q.2.2.2.2.2.2.2.2.2.2.1 q.2.2.2.2.2.2.2.2.2.2.2.1 q.2.2.2.2.2.2.2.2.2.2.2.2.1 q.2.2.2.2.2.2.2.2.2.2.2.2.2.1 q.2.2.2.2.2.2.2.2.2.2.2.2.2.2.1 q.2.2.2.2.2.2.2.2.2.2.2.2.2.2.2.1 q.2.2.2.2.2.2.2.2.2.2.2.2.2.2.2.2.1 q.2.2.2.2.2.2.2.2.2.2.2.2.2.2.2.2.2.1 q.2.2.2.2.2.2.2.2.2.2.2.2.2.2.2.2.2.2.1 q.2.2.2.2.2.2.2.2.2.2.2.2.2.2.2.2.2.2.2.1 q.2.2.2.2.2.2.2.2.2.2.2.2.2.2.2.2.2.2.2.2.1 q.2.2.2.2.2.2.2.2.2.2.2.2.2.2.2.2.2.2.2.2.2.1 q.2.2.2.2.2.2.2.2.2.2.2.2.2.2.2.2.2.2.2.2.2.2.1 q.2.2.2.2.2.2.2.2.2.2.2.2.2.2.2.2.2.2.2.2.2.2.2.1 q.2.2.2.2.2.2.2.2.2.2.2.2.2.2.2.2.2.2.2.2.2.2.2.2.1 q.2.2.2.2.2.2.2.2.2.2.2.2.2.2.2.2.2.2.2.2.2.2.2.2.2.1 q.2.2.2.2.2.2.2.2.2.2.2.2.2.2.2.2.2.2.2.2.2.2.2.2.2.2.1 q.2.2.2.2.2.2.2.2.2.2.2.2.2.2.2.2.2.2.2.2.2.2.2.2.2.2.2.1
theorem Bfn (K:Nat)(C506:CT Aws s_57):AtJ (Bo1 K) [] [(506,ar Aws C506)] (bd Tryz.f146) 2025 (A2t K C506):=fun q=>by kernel_rfl
theorem Bim (K:Nat):AtL (Bo1 K) (fun n=>[(2025,ar A2s (A2t K (Azp K n)))]) [] (bd Tryz.f146) 506 (Azp K):=fun n q=>by kernel_rfl
theorem Bin (K:Nat):XF [.tmp 4] s_57 71 [2025] (Bo1 K):=xkF (gC (Bhn K) gN) oN
theorem Bfo (K:Nat)(C506:CT Aws s_57):CF [.tmp 4] s_57 71 [2025] (bd Tryz.f146) [(506,ar Aws C506)] 2025 (ar A2s (A2t K C506)):=
 Ala (Bin K) (Bfn K C506) kN
theorem Bio (K:Nat)(n:Nat):CF [.tmp 4] s_57 71 [2025] (bd Tryz.f146) [] 506 (ar Aws (Azp K n)):=
 Aei (Bin K) (Bim K) (fun n=>(kC (Bfo K (Azp K n)) kN)) n
theorem B0n (K:Nat):OkF 146 (B0m K):=
 Aa6 (x:=Bo1 K) (L:=[(506,ar Aws (Azp K K))]) (c0:=bd Tryz.f146) (Bin K) (by intro a0 a1;show @Eq _ _ _;kernel_rfl) (kC (Bio K K) kN) Tryz.func146 trivial
def Anq (K:Nat)(v4:Int)(v5:Int)(v6:Int)(v7:Int)(v8:Int)(v9:Int)(v10:List Int)(v11:List Int)(v12:List Int)(v13:List Ba)(v14:List Ax)(v15:List Int):Nat->Int->Option (Bool)
 |0,_=>none
 |n3+1,v23=>(bif (decide (v23<(v15.length:Int)))then(if(0:Int)≤v23∧v23<(v15.length:Int)then((Abk K (gt v15 v23) 0 255).bind fun r24=>(bif (!r24)then some false else(Anq K v4 v5 v6 v7 v8 v9 v10 v11 v12 v13 v14 v15 n3 (Aoa .i64 v23 1))))else none)else((Ate K (Eb.mk (Er.mk v4 v5 v6 v7 v8 v9) (Dw.mk v10 v11 v12) v13 v14 v15)).bind fun r25=>some r25))
def App (K:Nat)(v4:Int)(v5:Int)(v6:Int)(v7:Int)(v8:Int)(v9:Int)(v10:List Int)(v11:List Int)(v12:List Int)(v13:List Ba)(v14:List Ax)(v15:List Int):Nat->Int->Option (Bool)
 |0,_=>none
 |n2+1,v21=>(bif (decide (v21<(v14.length:Int)))then((At3 K (Eb.mk (Er.mk v4 v5 v6 v7 v8 v9) (Dw.mk v10 v11 v12) v13 v14 v15) v21).bind fun r22=>(bif (!r22)then some false else(App K v4 v5 v6 v7 v8 v9 v10 v11 v12 v13 v14 v15 n2 (Aoa .i64 v21 1))))else(Anq K v4 v5 v6 v7 v8 v9 v10 v11 v12 v13 v14 v15 K 0))
def Anr (K:Nat):Nat->Int->Int->Int->Int->Int->Int->Int->(List Int)->(List Int)->(List Int)->(List Ba)->(List Ax)->(List Int)->Option (Bool)
 |0,_,_,_,_,_,_,_,_,_,_,_,_,_=>none
 |n1+1,v3,v4,v5,v6,v7,v8,v9,v10,v11,v12,v13,v14,v15=>(bif (decide (v3<(v13.length:Int)))then(if(0:Int)≤v3∧v3<(v13.length:Int)then((Awa K (Er.mk v4 v5 v6 v7 v8 v9) (gt v13 v3)).bind fun r16=>(bif r16 then((Ath K (Eb.mk (Er.mk v4 v5 v6 v7 v8 v9) (Dw.mk v10 v11 v12) v13 v14 v15) v3).bind fun r17=>(bif r17 then(if(0:Int)≤v3∧v3<(v13.length:Int)then((At5 K (Er.mk v4 v5 v6 v7 v8 v9) (gt v13 v3)).bind fun r18=>(bif r18 then(if(0:Int)≤v3∧v3<(v13.length:Int)then((At6 K ((gt v13 v3).Ea)).bind fun r19=>(bif r19 then((At7 K (Eb.mk (Er.mk v4 v5 v6 v7 v8 v9) (Dw.mk v10 v11 v12) v13 v14 v15) v3).bind fun r20=>(bif (!r20)then some false else(Anr K n1 (Aoa .i64 v3 1) v4 v5 v6 v7 v8 v9 v10 v11 v12 v13 v14 v15)))else some false))else none)else some false))else none)else some false))else some false))else none)else(App K v4 v5 v6 v7 v8 v9 v10 v11 v12 v13 v14 v15 K 0))
def Au7 (K:Nat)(a0:Eb):Option (Bool):=((Av8 K a0.fC a0.fP).bind fun r1=>(bif r1 then(bif ((a0.fL.length:Int) != a0.fC.C0)then some false else((Av9 K a0.fL).bind fun r2=>(bif (!r2)then some false else(Anr K K 0 a0.fC.Ae a0.fC.Eg a0.fC.C0 a0.fC.E9 a0.fC.C1 a0.fC.Eh a0.fP.Fy a0.fP.Hh a0.fP.Fz a0.fL a0.fQ a0.Pr))))else some false))
def s_58:Sig:=⟨[.v 32],[.v 4],true⟩
def B0o (K:Nat):Gb tyU:=⟨s_58,Au7 K⟩
def Bip (K:Nat):=xF s_58 [(84,A3u K),(140,Bza K),(141,Bzj K),(142,Bz9 K),(143,B0d K),(144,B0f K),(145,B0k K),(146,B0m K),(147,Bzu K),(148,Bzq K)] [] 103 [10,11,12,19,20,21,41,42,43,46,47,48,49,57,58,59,60,67,68,69,70] [] [] [] [.tmp 2]
def A4r:E5:=⟨[(1,.p 101),(5,.v 2)],[(101,.box [.v 2,.v 2,.v 2,.v 2,.v 2,.v 2,.v 22,.v 26,.v 26,.v 29,.v 30,.v 26])]⟩
def A4s:E5:=⟨[(1,.p 101),(4,.v 2)],[(101,.box [.v 2,.v 2,.v 2,.v 2,.v 2,.v 2,.v 22,.v 26,.v 26,.v 29,.v 30,.v 26])]⟩
def A9g:E5:=⟨[(1,.p 101),(3,.v 2)],[(101,.box [.v 2,.v 2,.v 2,.v 2,.v 2,.v 2,.v 22,.v 26,.v 26,.v 29,.v 30,.v 26])]⟩
def A4t (K:Nat)(n:Nat)(q:PT A4r):Rt s_58:=Anq K q.2.1 q.2.2.1 q.2.2.2.1 q.2.2.2.2.1 q.2.2.2.2.2.1 q.2.2.2.2.2.2.1 q.2.2.2.2.2.2.2.1 q.2.2.2.2.2.2.2.2.1 q.2.2.2.2.2.2.2.2.2.1 q.2.2.2.2.2.2.2.2.2.2.1 q.2.2.2.2.2.2.2.2.2.2.2.1 q.2.2.2.2.2.2.2.2.2.2.2.2.1 n q.1
def A4u (K:Nat)(n:Nat)(q:PT A4s):Rt s_58:=App K q.2.1 q.2.2.1 q.2.2.2.1 q.2.2.2.2.1 q.2.2.2.2.2.1 q.2.2.2.2.2.2.1 q.2.2.2.2.2.2.2.1 q.2.2.2.2.2.2.2.2.1 q.2.2.2.2.2.2.2.2.2.1 q.2.2.2.2.2.2.2.2.2.2.1 q.2.2.2.2.2.2.2.2.2.2.2.1 q.2.2.2.2.2.2.2.2.2.2.2.2.1 n q.1
def A9h (K:Nat)(n:Nat)(q:PT A9g):Rt s_58:=Anr K n q.1 q.2.1 q.2.2.1 q.2.2.2.1 q.2.2.2.2.1 q.2.2.2.2.2.1 q.2.2.2.2.2.2.1 q.2.2.2.2.2.2.2.1 q.2.2.2.2.2.2.2.2.1 q.2.2.2.2.2.2.2.2.2.1 q.2.2.2.2.2.2.2.2.2.2.1 q.2.2.2.2.2.2.2.2.2.2.2.1 q.2.2.2.2.2.2.2.2.2.2.2.2.1
theorem Biq (K:Nat):AtL (Bip K) (fun n=>[]) [] (bd Tryz.f83) 250 (A4t K):=fun n q=>by kernel_rfl
theorem Bir (K:Nat):AtL (Bip K) (fun n=>[(250,ar A4r (A4t K K))]) [] (bd Tryz.f83) 122 (A4u K):=fun n q=>by kernel_rfl
theorem Bo2 (K:Nat):AtL (Bip K) (fun n=>[(122,ar A4s (A4u K K))]) [] (bd Tryz.f83) 58 (A9h K):=fun n q=>by kernel_rfl
theorem Beb (K:Nat):XF [.tmp 2] s_58 103 [] (Bip K):=xkF (gC (Azn K) (gC (Bzb K) (gC (Bzk K) (gC (B0a K) (gC (B0e K) (gC (B0g K) (gC (B0l K) (gC (B0n K) (gC (Bzv K) (gC (Bzr K) gN)))))))))) oN
theorem Bis (K:Nat)(n:Nat):CF [.tmp 2] s_58 103 [] (bd Tryz.f83) [] 250 (ar A4r (A4t K n)):=
 Aei (Beb K) (Biq K) (fun n=>kN) n
theorem Biu (K:Nat)(n:Nat):CF [.tmp 2] s_58 103 [] (bd Tryz.f83) [] 122 (ar A4s (A4u K n)):=
 Aei (Beb K) (Bir K) (fun n=>(kC (Ao2 (by kernel_rfl) (Bis K K)) kN)) n
theorem Bo3 (K:Nat)(n:Nat):CF [.tmp 2] s_58 103 [] (bd Tryz.f83) [] 58 (ar A9g (A9h K n)):=
 Aei (Beb K) (Bo2 K) (fun n=>(kC (Ao2 (by kernel_rfl) (Biu K K)) kN)) n
theorem B0p (K:Nat):OkF 83 (B0o K):=
 Aa6 (x:=Bip K) (L:=[(58,ar A9g (A9h K K))]) (c0:=bd Tryz.f83) (Beb K) (by intro a0;show @Eq _ _ _;kernel_rfl) (kC (Bo3 K K) kN) Tryz.func83 trivial
def At8 (K:Nat)(a0:Ct):Option (Bool):=(bif (decide (a0.A5≥0))then some (decide (a0.C2≥1))else some false)
def B0q:Sig:=⟨[.v 34],[.v 4],true⟩
def B0r (K:Nat):Gb tyU:=⟨B0q,At8 K⟩
def B5d (K:Nat):=xF B0q [] [] 11 [5,6] [] [] [] [.tmp 2]
theorem B0s (K:Nat):OkF 149 (B0r K):=
 Aa6 (x:=B5d K) (L:=[]) (c0:=bd Tryz.f149) (xkF gN oN) (by intro a0;show @Eq _ _ _;kernel_rfl) kN Tryz.func149 trivial
def Ari (K:Nat)(a0:List Ba)(a1:Ct):Option (Int):=((Abk K a1.A5 0 (Aob .i64 (a0.length:Int) 1)).bind fun r1=>(bif r1 then(if(0:Int)≤a1.A5∧a1.A5<(a0.length:Int)then(bif (((gt a0 a1.A5).Hh) != 1)then some (-1)else(if(0:Int)≤a1.A5∧a1.A5<(a0.length:Int)then(bif (((gt a0 a1.A5).C2) != a1.C2)then some (-1)else some a1.A5)else none))else none)else some (-1)))
def B0t:Sig:=⟨[.v 29,.v 34],[.v 3],true⟩
def Bve (K:Nat):Gb tyU:=⟨B0t,Ari K⟩
def B5e (K:Nat):=xF B0t [(84,A3u K)] [] 34 [10,11,12,19,20,21] [] [] [] [.tmp 4]
theorem Bq4 (K:Nat):OkF 150 (Bve K):=
 Aa6 (x:=B5e K) (L:=[]) (c0:=bd Tryz.f150) (xkF (gC (Azn K) gN) oN) (by intro a0 a1;show @Eq _ _ _;kernel_rfl) kN Tryz.func150 trivial
def Au8 (K:Nat)(v2:Int)(C1:Int->Option (Bool)):Option (Bool):=(C1 (Aoa .i64 v2 1))
def Arj (K:Nat)(a0:List Ba)(r1:(List Int)):Nat->Int->Option (Bool)
 |0,_=>none
 |n1+1,v2=>(bif (decide (v2<(r1.length:Int)))then(if(0:Int)≤v2∧v2<(r1.length:Int)then(if(0:Int)≤(gt r1 v2)∧(gt r1 v2)<(a0.length:Int)then(bif (((gt a0 (gt r1 v2)).Hh) != 1)then some false else(bif (decide ((Aoa .i64 v2 1)<(r1.length:Int)))then(if(0:Int)≤v2∧v2<(r1.length:Int)then((Aqx K a0 (gt r1 v2)).bind fun r3=>(bif (!r3)then some false else(Au8 K v2 (Arj K a0 r1 n1))))else none)else(Au8 K v2 (Arj K a0 r1 n1))))else none)else none)else(bif (decide ((r1.length:Int)>0))then(if(0:Int)≤(Aob .i64 (r1.length:Int) 1)∧(Aob .i64 (r1.length:Int) 1)<(r1.length:Int)then(if(0:Int)≤(gt r1 (Aob .i64 (r1.length:Int) 1))∧(gt r1 (Aob .i64 (r1.length:Int) 1))<(a0.length:Int)then some (((gt a0 (gt r1 (Aob .i64 (r1.length:Int) 1))).fUp)==0)else none)else none)else some false))
def Axb (K:Nat)(a0:List Ba)(a1:Int):Option (Bool):=((Aur K a0 a1).bind fun r1=>(Arj K a0 r1 K 0))
def s_61:Sig:=⟨[.v 29,.v 3],[.v 4],true⟩
def B0u (K:Nat):Gb tyU:=⟨s_61,Axb K⟩
def Bo4 (K:Nat):=xF s_61 [(224,Bnu K),(225,Bnt K)] [] 57 [24,25,30,31,43,44] [] [] [233] [.tmp 4]
def A4v:E5:=⟨[(0,.v 29),(5,.v 26),(6,.v 2)],[]⟩
def Ax7:E5:=⟨[(0,.v 29),(5,.v 26),(6,.v 2)],[]⟩
def A4w (K:Nat)(C58:CT Ax7 s_61)(q:PT A4v):Rt s_61:=Au8 K q.2.2.1 (fun v2=>C58 (q.1,q.2.1,v2,()))
def A1q (K:Nat)(n:Nat)(q:PT Ax7):Rt s_61:=Arj K q.1 q.2.1 n q.2.2.1
theorem Biv (K:Nat)(C58:CT Ax7 s_61):AtJ (Bo4 K) [] [(58,ar Ax7 C58)] (bd Tryz.f151) 233 (A4w K C58):=fun q=>by kernel_rfl
theorem Bo5 (K:Nat):AtL (Bo4 K) (fun n=>[(233,ar A4v (A4w K (A1q K n)))]) [] (bd Tryz.f151) 58 (A1q K):=fun n q=>by kernel_rfl
theorem Biw (K:Nat):XF [.tmp 4] s_61 57 [233] (Bo4 K):=xkF (gC (Bhs K) (gC (Bhr K) gN)) oN
theorem Bix (K:Nat)(C58:CT Ax7 s_61):CF [.tmp 4] s_61 57 [233] (bd Tryz.f151) [(58,ar Ax7 C58)] 233 (ar A4v (A4w K C58)):=
 Ala (Biw K) (Biv K C58) kN
theorem Bo6 (K:Nat)(n:Nat):CF [.tmp 4] s_61 57 [233] (bd Tryz.f151) [] 58 (ar Ax7 (A1q K n)):=
 Aei (Biw K) (Bo5 K) (fun n=>(kC (Bix K (A1q K n)) kN)) n
theorem B0v (K:Nat):OkF 151 (B0u K):=
 Aa6 (x:=Bo4 K) (L:=[(58,ar Ax7 (A1q K K))]) (c0:=bd Tryz.f151) (Biw K) (by intro a0 a1;show @Eq _ _ _;kernel_rfl) (kC (Bo6 K K) kN) Tryz.func151 trivial
def At9 (K:Nat)(a0:Eb)(a1:Ct):Option (Int×Int):=((At8 K a1).bind fun r1=>(bif (!r1)then some ((-1),1)else((Ari K a0.fL a1).bind fun r2=>(bif (decide (r2<0))then some ((-1),2)else((Axb K a0.fL r2).bind fun r3=>(bif (!r3)then some ((-1),2)else some (r2,0)))))))
def B0w:Sig:=⟨[.v 32,.v 34],[.v 3,.v 3],true⟩
def B0x (K:Nat):Gb tyU:=⟨B0w,At9 K⟩
def B5f (K:Nat):=xF B0w [(149,B0r K),(150,Bve K),(151,B0u K)] [] 24 [15,16] [] [] [] [.tmp 4,.tmp 5]
theorem B0y (K:Nat):OkF 85 (B0x K):=
 Aa6 (x:=B5f K) (L:=[]) (c0:=bd Tryz.f85) (xkF (gC (B0s K) (gC (Bq4 K) (gC (B0v K) gN))) oN) (by intro a0 a1;show @Eq _ _ _;kernel_rfl) kN Tryz.func85 trivial
def Ark (K:Nat)(a0:Ba)(a1:Int):Option (Ax):=(if(([]:List Int)++a0.Dg).length*8≤140737488355328∧(([]:List Int)++a0.Dg).length≤maxLen then(if(([]:List Int)++a0.Ae).length*8≤140737488355328∧(([]:List Int)++a0.Ae).length≤maxLen then some (Ax.mk a1 a0.Bt (([]:List Int)++a0.Dg) (([]:List Int)++a0.Ae) 0)else none)else none)
def B0z:Sig:=⟨[.v 44,.v 3],[.n 159 true],true⟩
def Bvf (K:Nat):Gb tyU:=⟨B0z,Ark K⟩
def B5g (K:Nat):=xF B0z [] [] 17 [] [] [] [] [.cell 4 159]
theorem Bq5 (K:Nat):OkF 168 (Bvf K):=
 Aa6 (x:=B5g K) (L:=[]) (c0:=bd Tryz.f168) (xkF gN oN) (by intro a0 a1;show @Eq _ _ _;kernel_rfl) kN Tryz.func168 trivial
def Arl (K:Nat)(v3:Dw)(v4:Dw):Option (Dw):=some v3
def Axc (K:Nat)(a0:Dw)(a1:Int):Option (Dw):=((Atq K a0).bind fun r1=>((Abk K a1 0 (Aob .i64 (a0.Hh.length:Int) 1)).bind fun r2=>(bif r2 then(bif (decide (a1<(a0.Fz.length:Int)))then(if(0:Int)≤a1∧a1<(a0.Hh.length:Int)then(bif ((gt a0.Hh a1)==1)then(if(0:Int)≤a1∧a1<(r1.Hh.length:Int)then(if(0:Int)≤a1∧a1<(r1.Fz.length:Int)then(Arl K (Dw.mk r1.Fy (r1.Hh.set a1.toNat 2) (r1.Fz.set a1.toNat (-1))) (Dw.mk [] [] []))else none)else none)else(Arl K r1 (Dw.mk [] [] [])))else none)else(Arl K r1 (Dw.mk [] [] [])))else(Arl K r1 (Dw.mk [] [] [])))))
def s_64:Sig:=⟨[.v 28,.v 3],[.n 28 true],true⟩
def B00 (K:Nat):Gb tyU:=⟨s_64,Axc K⟩
def Bvg (K:Nat):=xF s_64 [(84,A3u K),(137,Buw K)] [] 38 [13,14,19,20,21] [(5,[.take 105 0 6680,.take 105 1 6681,.take 105 2 6682])] [] [7] [.cell 4 28]
def Bcl:E5:=⟨[(4,.p 104),(5,.p 105)],[(105,.st 28 true),(104,.st 28 true)]⟩
def Bcm (K:Nat)(q:PT Bcl):Rt s_64:=Arl K q.1 q.2.1
theorem Bvh (K:Nat):AtJ (Bvg K) [] [] (bd Tryz.f242) 7 (Bcm K):=fun q=>by kernel_rfl
theorem Bq6 (K:Nat):XF [.cell 4 28] s_64 38 [7] (Bvg K):=xkF (gC (Azn K) (gC (Bqq K) gN)) oN
theorem Bvi (K:Nat):CF [.cell 4 28] s_64 38 [7] (bd Tryz.f242) [] 7 (ar Bcl (Bcm K)):=
 Ala (Bq6 K) (Bvh K) kN
theorem B01 (K:Nat):OkF 242 (B00 K):=
 Aa6 (x:=Bvg K) (L:=[(7,ar Bcl (Bcm K))]) (c0:=bd Tryz.f242) (Bq6 K) (by intro a0 a1;show @Eq _ _ _;kernel_rfl) (kC (Bvi K) kN) Tryz.func242 trivial
def Apy (K:Nat)(a1:List Int):Nat->Int->Int->Int->Int->Int->Int->Int->(List Int)->(List Int)->(List Int)->(List Ba)->(List Ax)->(List Int)->Option (Eb)
 |0,_,_,_,_,_,_,_,_,_,_,_,_,_=>none
 |n1+1,v1,v2,v3,v4,v5,v6,v7,v8,v9,v10,v11,v12,v13=>(bif (decide (v1<(a1.length:Int)))then(if(0:Int)≤v1∧v1<(a1.length:Int)then((Axc K (Dw.mk v8 v9 v10) (gt a1 v1)).bind fun r14=>(Apy K a1 n1 (Aoa .i64 v1 1) v2 v3 v4 v5 v6 v7 r14.Fy r14.Hh r14.Fz v11 v12 v13))else none)else some (Eb.mk (Er.mk v2 v3 v4 v5 v6 v7) (Dw.mk v8 v9 v10) v11 v12 v13))
def Awb (K:Nat)(a0:Eb)(a1:List Int):Option (Eb):=(Apy K a1 K 0 a0.fC.Ae a0.fC.Eg a0.fC.C0 a0.fC.E9 a0.fC.C1 a0.fC.Eh a0.fP.Fy a0.fP.Hh a0.fP.Fz a0.fL a0.fQ a0.Pr)
def s_65:Sig:=⟨[.b 32 false,.v 26],[],false⟩
def B02 (K:Nat):Gb tyU:=⟨s_65,Awb K⟩
def Bvj (K:Nat):=xF s_65 [(242,B00 K)] [] 23 [] [(3,[.take 1 6 5022,.take 1 7 5023,.take 1 8 5024])] [] [] []
def Bcn:E5:=⟨[(0,.p 1),(1,.v 26),(4,.v 2)],[(1,.box [.v 2,.v 2,.v 2,.v 2,.v 2,.v 2,.T 5 true,.T 3 true,.T 3 true,.T 44 false,.T 159 false,.T 3 true])]⟩
def Bco (K:Nat)(n:Nat)(q:PT Bcn):Rt s_65:=Apy K q.1 n q.2.1 q.2.2.1 q.2.2.2.1 q.2.2.2.2.1 q.2.2.2.2.2.1 q.2.2.2.2.2.2.1 q.2.2.2.2.2.2.2.1 q.2.2.2.2.2.2.2.2.1 q.2.2.2.2.2.2.2.2.2.1 q.2.2.2.2.2.2.2.2.2.2.1 q.2.2.2.2.2.2.2.2.2.2.2.1 q.2.2.2.2.2.2.2.2.2.2.2.2.1 q.2.2.2.2.2.2.2.2.2.2.2.2.2.1
theorem Bvk (K:Nat):AtL (Bvj K) (fun n=>[]) [] (bd Tryz.f169) 6 (Bco K):=fun n q=>by kernel_rfl
theorem Bq7 (K:Nat):XF [] s_65 23 [] (Bvj K):=xkF (gC (B01 K) gN) oN
theorem Bvl (K:Nat)(n:Nat):CF [] s_65 23 [] (bd Tryz.f169) [] 6 (ar Bcn (Bco K n)):=
 Aei (Bq7 K) (Bvk K) (fun n=>kN) n
theorem B03 (K:Nat):OkF 169 (B02 K):=
 Aa6 (x:=Bvj K) (L:=[(6,ar Bcn (Bco K K))]) (c0:=bd Tryz.f169) (Bq7 K) (by intro a0 a1;show @Eq _ _ _;kernel_rfl) (kC (Bvl K K) kN) Tryz.func169 trivial
def Ar6 (K:Nat)(a1:Int)(v21:List Ba):Option ((List Ba)):=(if(0:Int)≤a1∧a1<(v21.length:Int)then(Aql (v21.set a1.toNat (Ba.mk ((gt v21 a1).Hh) ((gt v21 a1).C2) ((gt v21 a1).Ly) 0 ((gt v21 a1).Gq) ((gt v21 a1).Bt) ((gt v21 a1).Gr) ((gt v21 a1).Gs) ((gt v21 a1).Ae) ((gt v21 a1).Pq) ((gt v21 a1).Gt) ((gt v21 a1).Ea) ((gt v21 a1).Dg))) fun v22=>(if(0:Int)≤a1∧a1<(v22.length:Int)then(Aql (v22.set a1.toNat (Ba.mk ((gt v22 a1).Hh) ((gt v22 a1).C2) ((gt v22 a1).Ly) ((gt v22 a1).fUp) 0 ((gt v22 a1).Bt) ((gt v22 a1).Gr) ((gt v22 a1).Gs) ((gt v22 a1).Ae) ((gt v22 a1).Pq) ((gt v22 a1).Gt) ((gt v22 a1).Ea) ((gt v22 a1).Dg))) fun v23=>(if(0:Int)≤a1∧a1<(v23.length:Int)then(Aql (v23.set a1.toNat (Ba.mk ((gt v23 a1).Hh) ((gt v23 a1).C2) ((gt v23 a1).Ly) ((gt v23 a1).fUp) ((gt v23 a1).Gq) ((gt v23 a1).Bt) 0 ((gt v23 a1).Gs) ((gt v23 a1).Ae) ((gt v23 a1).Pq) ((gt v23 a1).Gt) ((gt v23 a1).Ea) ((gt v23 a1).Dg))) fun v24=>(if(0:Int)≤a1∧a1<(v24.length:Int)then(Aql (v24.set a1.toNat (Ba.mk ((gt v24 a1).Hh) ((gt v24 a1).C2) ((gt v24 a1).Ly) ((gt v24 a1).fUp) ((gt v24 a1).Gq) ((gt v24 a1).Bt) ((gt v24 a1).Gr) 0 ((gt v24 a1).Ae) ((gt v24 a1).Pq) ((gt v24 a1).Gt) ((gt v24 a1).Ea) ((gt v24 a1).Dg))) fun v25=>some v25)else none))else none))else none))else none)
def Aqr (K:Nat)(a0:List Ba)(a1:Int)(v5:List Ba)(v6:Int)(v7:Int)(v8:Int)(v9:Int)(v10:Int)(v11:Int)(v12:Int)(v13:Int)(v14:List Int)(v15:Int)(v16:Int)(v17:List A9)(v18:List Int):Option ((List Ba)):=((Ai0 K a0 v12).bind fun r19=>(bif r19 then(if(0:Int)≤(Aob .i64 v12 1)∧(Aob .i64 v12 1)<(v5.length:Int)then(Aql (v5.set (Aob .i64 v12 1).toNat (Ba.mk ((gt v5 (Aob .i64 v12 1)).Hh) ((gt v5 (Aob .i64 v12 1)).C2) ((gt v5 (Aob .i64 v12 1)).Ly) ((gt v5 (Aob .i64 v12 1)).fUp) ((gt v5 (Aob .i64 v12 1)).Gq) ((gt v5 (Aob .i64 v12 1)).Bt) ((gt v5 (Aob .i64 v12 1)).Gr) v13 ((gt v5 (Aob .i64 v12 1)).Ae) ((gt v5 (Aob .i64 v12 1)).Pq) ((gt v5 (Aob .i64 v12 1)).Gt) ((gt v5 (Aob .i64 v12 1)).Ea) ((gt v5 (Aob .i64 v12 1)).Dg))) fun v20=>(Ar6 K a1 v20))else none)else(Ar6 K a1 v5)))
def Apz (K:Nat)(a0:List Ba)(a1:Int)(r1:(List Ba))(v27:Bool)(v28:Int)(v29:Int)(v30:Int)(v31:Int)(v32:Int)(v33:Int)(v34:Int)(v35:Int)(v36:List Int)(v37:Int)(v38:Int)(v39:List A9)(v40:List Int):Option ((List Ba)):=(bif v27 then(if(0:Int)≤(Aob .i64 v31 1)∧(Aob .i64 v31 1)<(r1.length:Int)then(Aql (r1.set (Aob .i64 v31 1).toNat (Ba.mk ((gt r1 (Aob .i64 v31 1)).Hh) ((gt r1 (Aob .i64 v31 1)).C2) ((gt r1 (Aob .i64 v31 1)).Ly) ((gt r1 (Aob .i64 v31 1)).fUp) ((gt r1 (Aob .i64 v31 1)).Gq) v34 ((gt r1 (Aob .i64 v31 1)).Gr) ((gt r1 (Aob .i64 v31 1)).Gs) ((gt r1 (Aob .i64 v31 1)).Ae) ((gt r1 (Aob .i64 v31 1)).Pq) ((gt r1 (Aob .i64 v31 1)).Gt) ((gt r1 (Aob .i64 v31 1)).Ea) ((gt r1 (Aob .i64 v31 1)).Dg))) fun v41=>(Aqr K a0 a1 v41 v28 v29 v30 v31 v32 v33 v34 v35 v36 v37 v38 v39 v40))else none)else(Aqr K a0 a1 r1 v28 v29 v30 v31 v32 v33 v34 v35 v36 v37 v38 v39 v40))
def Awc (K:Nat)(a0:List Ba)(a1:Int):Option ((List Ba)):=((Au0 K a0).bind fun r1=>((Ai0 K a0 (Aoa .i64 a1 1)).bind fun r2=>(bif (!r2)then some r1 else(if(0:Int)≤a1∧a1<(a0.length:Int)then((Ai0 K a0 ((gt a0 a1).Gs)).bind fun r3=>(bif r3 then(if(0:Int)≤(Aob .i64 ((gt a0 a1).Gs) 1)∧(Aob .i64 ((gt a0 a1).Gs) 1)<(r1.length:Int)then(Aql (r1.set (Aob .i64 ((gt a0 a1).Gs) 1).toNat (Ba.mk ((gt r1 (Aob .i64 ((gt a0 a1).Gs) 1)).Hh) ((gt r1 (Aob .i64 ((gt a0 a1).Gs) 1)).C2) ((gt r1 (Aob .i64 ((gt a0 a1).Gs) 1)).Ly) ((gt r1 (Aob .i64 ((gt a0 a1).Gs) 1)).fUp) ((gt r1 (Aob .i64 ((gt a0 a1).Gs) 1)).Gq) ((gt r1 (Aob .i64 ((gt a0 a1).Gs) 1)).Bt) ((gt a0 a1).Gr) ((gt r1 (Aob .i64 ((gt a0 a1).Gs) 1)).Gs) ((gt r1 (Aob .i64 ((gt a0 a1).Gs) 1)).Ae) ((gt r1 (Aob .i64 ((gt a0 a1).Gs) 1)).Pq) ((gt r1 (Aob .i64 ((gt a0 a1).Gs) 1)).Gt) ((gt r1 (Aob .i64 ((gt a0 a1).Gs) 1)).Ea) ((gt r1 (Aob .i64 ((gt a0 a1).Gs) 1)).Dg))) fun v4=>(Aqr K a0 a1 v4 ((gt a0 a1).Hh) ((gt a0 a1).C2) ((gt a0 a1).Ly) ((gt a0 a1).fUp) ((gt a0 a1).Gq) ((gt a0 a1).Bt) ((gt a0 a1).Gr) ((gt a0 a1).Gs) ((gt a0 a1).Ae) ((gt a0 a1).Pq) ((gt a0 a1).Gt) ((gt a0 a1).Ea) ((gt a0 a1).Dg)))else none)else(bif (((gt a0 a1).Gs)==0)then((Ai0 K a0 ((gt a0 a1).fUp)).bind fun r26=>(bif r26 then(if(0:Int)≤(Aob .i64 ((gt a0 a1).fUp) 1)∧(Aob .i64 ((gt a0 a1).fUp) 1)<(a0.length:Int)then(Apz K a0 a1 r1 (((gt a0 (Aob .i64 ((gt a0 a1).fUp) 1)).Bt)==(Aoa .i64 a1 1)) ((gt a0 a1).Hh) ((gt a0 a1).C2) ((gt a0 a1).Ly) ((gt a0 a1).fUp) ((gt a0 a1).Gq) ((gt a0 a1).Bt) ((gt a0 a1).Gr) ((gt a0 a1).Gs) ((gt a0 a1).Ae) ((gt a0 a1).Pq) ((gt a0 a1).Gt) ((gt a0 a1).Ea) ((gt a0 a1).Dg))else none)else(Apz K a0 a1 r1 false ((gt a0 a1).Hh) ((gt a0 a1).C2) ((gt a0 a1).Ly) ((gt a0 a1).fUp) ((gt a0 a1).Gq) ((gt a0 a1).Bt) ((gt a0 a1).Gr) ((gt a0 a1).Gs) ((gt a0 a1).Ae) ((gt a0 a1).Pq) ((gt a0 a1).Gt) ((gt a0 a1).Ea) ((gt a0 a1).Dg))))else(Apz K a0 a1 r1 false ((gt a0 a1).Hh) ((gt a0 a1).C2) ((gt a0 a1).Ly) ((gt a0 a1).fUp) ((gt a0 a1).Gq) ((gt a0 a1).Bt) ((gt a0 a1).Gr) ((gt a0 a1).Gs) ((gt a0 a1).Ae) ((gt a0 a1).Pq) ((gt a0 a1).Gt) ((gt a0 a1).Ea) ((gt a0 a1).Dg)))))else none))))
def s_66:Sig:=⟨[.v 29,.v 3],[.n 29 true],true⟩
def B04 (K:Nat):Gb tyU:=⟨s_66,Awc K⟩
def Biy (K:Nat):=xF s_66 [(138,Bux K),(244,Bce K)] [] 91 [35,36,40,41,42] [] [] [31,63,499] [.tmp 4]
def A9i:E5:=⟨[(1,.v 2),(5,.o 1005 44 true)],[]⟩
def A3w:E5:=⟨[(0,.v 29),(1,.v 2),(5,.o 1005 44 true),(6,.p 106)],[(106,.box [.v 2,.v 2,.v 2,.v 2,.v 2,.v 2,.v 2,.v 2,.v 26,.v 2,.v 2,.v 41,.v 26])]⟩
def A4x:E5:=⟨[(0,.v 29),(1,.v 2),(5,.o 1005 44 true),(6,.p 106),(32,.v 4)],[(106,.box [.v 2,.v 2,.v 2,.v 2,.v 2,.v 2,.v 2,.v 2,.v 26,.v 2,.v 2,.v 41,.v 26])]⟩
def A9j (K:Nat)(q:PT A9i):Rt s_66:=Ar6 K q.1 q.2.1
def A3x (K:Nat)(q:PT A3w):Rt s_66:=Aqr K q.1 q.2.1 q.2.2.1 q.2.2.2.1 q.2.2.2.2.1 q.2.2.2.2.2.1 q.2.2.2.2.2.2.1 q.2.2.2.2.2.2.2.1 q.2.2.2.2.2.2.2.2.1 q.2.2.2.2.2.2.2.2.2.1 q.2.2.2.2.2.2.2.2.2.2.1 q.2.2.2.2.2.2.2.2.2.2.2.1 q.2.2.2.2.2.2.2.2.2.2.2.2.1 q.2.2.2.2.2.2.2.2.2.2.2.2.2.1 q.2.2.2.2.2.2.2.2.2.2.2.2.2.2.1 q.2.2.2.2.2.2.2.2.2.2.2.2.2.2.2.1
def A4y (K:Nat)(q:PT A4x):Rt s_66:=Apz K q.1 q.2.1 q.2.2.1 q.2.2.2.1 q.2.2.2.2.1 q.2.2.2.2.2.1 q.2.2.2.2.2.2.1 q.2.2.2.2.2.2.2.1 q.2.2.2.2.2.2.2.2.1 q.2.2.2.2.2.2.2.2.2.1 q.2.2.2.2.2.2.2.2.2.2.1 q.2.2.2.2.2.2.2.2.2.2.2.1 q.2.2.2.2.2.2.2.2.2.2.2.2.1 q.2.2.2.2.2.2.2.2.2.2.2.2.2.1 q.2.2.2.2.2.2.2.2.2.2.2.2.2.2.1 q.2.2.2.2.2.2.2.2.2.2.2.2.2.2.2.1 q.2.2.2.2.2.2.2.2.2.2.2.2.2.2.2.2.1
theorem Bo7 (K:Nat):AtJ (Biy K) [] [] (bd Tryz.f175) 63 (A9j K):=fun q=>by kernel_rfl
theorem Bo8 (K:Nat):AtJ (Biy K) [(63,ar A9i (A9j K))] [] (bd Tryz.f175) 31 (A3x K):=fun q=>by kernel_rfl
theorem Biz (K:Nat):AtJ (Biy K) [(31,ar A3w (A3x K))] [] (bd Tryz.f175) 499 (A4y K):=fun q=>by kernel_rfl
theorem Bec (K:Nat):XF [.tmp 4] s_66 91 [31,63,499] (Biy K):=xkF (gC (Bqs K) (gC (A7u K) gN)) oN
theorem Bo9 (K:Nat):CF [.tmp 4] s_66 91 [31,63,499] (bd Tryz.f175) [] 63 (ar A9i (A9j K)):=
 Ala (Bec K) (Bo7 K) kN
theorem Bed (K:Nat):CF [.tmp 4] s_66 91 [31,63,499] (bd Tryz.f175) [] 31 (ar A3w (A3x K)):=
 Ala (Bec K) (Bo8 K) (kC (Bo9 K) kN)
theorem Bi0 (K:Nat):CF [.tmp 4] s_66 91 [31,63,499] (bd Tryz.f175) [] 499 (ar A4x (A4y K)):=
 Ala (Bec K) (Biz K) (kC (Bed K) kN)
theorem B05 (K:Nat):OkF 175 (B04 K):=
 Aa6 (x:=Biy K) (L:=[(31,ar A3w (A3x K)),(499,ar A4x (A4y K))]) (c0:=bd Tryz.f175) (Bec K) (by intro a0 a1;show @Eq _ _ _;kernel_rfl) (kC (Bed K) (kC (Bi0 K) kN)) Tryz.func175 trivial
def Azq (K:Nat)(a0:Ba):Option (Ba):=some (Ba.mk 2 a0.C2 0 0 0 0 0 0 [] 0 0 [] [])
def B06:Sig:=⟨[.v 44],[.n 44 true],true⟩
def B07 (K:Nat):Gb tyU:=⟨B06,Azq K⟩
def B5h (K:Nat):=xF B06 [] [] 6 [] [] [] [] [.cell 2 44]
theorem B08 (K:Nat):OkF 176 (B07 K):=
 Aa6 (x:=B5h K) (L:=[]) (c0:=bd Tryz.f176) (xkF gN oN) (by intro a0;show @Eq _ _ _;kernel_rfl) kN Tryz.func176 trivial
def Aua (K:Nat)(a0:Eb)(a1:Int):Option (Eb):=(if(0:Int)≤a1∧a1<(a0.fL.length:Int)then((Ark K (gt a0.fL a1) (Aoa .i64 a1 1)).bind fun r1=>(if(0:Int)≤a1∧a1<(a0.fL.length:Int)then((Awb K a0 ((gt a0.fL a1).Ae)).bind fun r2=>((Awc K r2.fL a1).bind fun r3=>(if(0:Int)≤a1∧a1<(r3.length:Int)then(if(0:Int)≤a1∧a1<(r3.length:Int)then((Azq K (gt r3 a1)).bind fun r4=>(if(0:Int)≤a1∧a1<(r3.length:Int)then(if(r2.fQ++([r1]:List Ax)).length*72≤140737488355328∧(r2.fQ++([r1]:List Ax)).length≤maxLen then some (Eb.mk r2.fC r2.fP (r3.set a1.toNat r4) (r2.fQ++([r1]:List Ax)) r2.Pr)else none)else none))else none)else none)))else none))else none)
def B09:Sig:=⟨[.b 32 false,.v 3],[],false⟩
def B1a (K:Nat):Gb tyU:=⟨B09,Aua K⟩
def B5i (K:Nat):=xF B09 [(168,Bvf K),(169,B02 K),(175,B04 K),(176,B07 K)] [] 58 [] [(0,[.take 1 9 5025]),(1,[.put 1,.take 1 9 5025]),(2,[.take 1 9 5025]),(3,[.opn 3031 (.tmp 1),.takeE 3031 8 41992,.takeE 3031 11 41995,.takeE 3031 12 41996]),(4,[.take 1 10 5026,.frz 20448,.frz 20449])] [(23,[.put 1])] [] []
theorem B1b (K:Nat):OkF 104 (B1a K):=
 Aa6 (x:=B5i K) (L:=[]) (c0:=bd Tryz.f104) (xkF (gC (Bq5 K) (gC (B03 K) (gC (B05 K) (gC (B08 K) gN)))) oN) (by intro a0 a1;show @Eq _ _ _;kernel_rfl) kN Tryz.func104 trivial
def Ayn (K:Nat)(a0:List Ba)(a1:Int):Option (Int):=((Aur K a0 a1).bind fun r1=>some (r1.length:Int))
def B1c:Sig:=⟨[.v 29,.v 3],[.v 3],true⟩
def B1d (K:Nat):Gb tyU:=⟨B1c,Ayn K⟩
def B5j (K:Nat):=xF B1c [(224,Bnu K)] [] 9 [] [] [] [] [.tmp 4]
theorem B1e (K:Nat):OkF 152 (B1d K):=
 Aa6 (x:=B5j K) (L:=[]) (c0:=bd Tryz.f152) (xkF (gC (Bhs K) gN) oN) (by intro a0 a1;show @Eq _ _ _;kernel_rfl) kN Tryz.func152 trivial
def Ats (K:Nat)(a0:Eb)(a1:Ct):Option (Int):=((Ari K a0.fL a1).bind fun r1=>((Ayn K a0.fL r1).bind fun r2=>some r2))
def B1f:Sig:=⟨[.v 32,.v 34],[.v 3],true⟩
def B1g (K:Nat):Gb tyU:=⟨B1f,Ats K⟩
def B5k (K:Nat):=xF B1f [(150,Bve K),(152,B1d K)] [] 12 [] [] [] [] [.tmp 4]
theorem B1h (K:Nat):OkF 86 (B1g K):=
 Aa6 (x:=B5k K) (L:=[]) (c0:=bd Tryz.f86) (xkF (gC (Bq4 K) (gC (B1e K) gN)) oN) (by intro a0 a1;show @Eq _ _ _;kernel_rfl) kN Tryz.func86 trivial
def Au9 (K:Nat)(a0:Eb)(a1:Ct):Option (Eb×Fh):=((Au2 K a0).bind fun r1=>((Au7 K a0).bind fun r2=>(bif (!r2)then some (r1,(Fh.mk 1 (Ct.mk 0 0) (Fg.mk (Ct.mk 0 0) 0 0) [] 0 0 0))else((At9 K a0 a1).bind fun r3=>(bif (r3.2==0)then((Aua K r1 r3.1).bind fun r4=>((Ats K a0 a1).bind fun r5=>some (r4,(Fh.mk r3.2 (Ct.mk 0 0) (Fg.mk (Ct.mk 0 0) 0 0) [] r5 0 0))))else((Ats K a0 a1).bind fun r6=>some (r1,(Fh.mk r3.2 (Ct.mk 0 0) (Fg.mk (Ct.mk 0 0) 0 0) [] r6 0 0))))))))
def B1i:Sig:=⟨[.v 32,.v 34],[.n 32 false,.n 69 true],false⟩
def B1j (K:Nat):Gb tyU:=⟨B1i,Au9 K⟩
def B5l (K:Nat):=xF B1i [(82,By5 K),(83,B0o K),(85,B0x K),(86,B1g K),(104,B1a K)] [] 32 [] [(6,[.put 106,.take 106 9 6705,.shal 6705,.take 106 10 6706,.shal 6706]),(7,[.take 106 6 6702,.take 106 7 6703,.take 106 8 6704,.take 106 9 6705,.take 106 10 6706,.take 106 11 6707])] [(24,[.put 106])] [] [.cell 4 32,.cell 5 69]
theorem B1k (K:Nat):OkF 41 (B1j K):=
 Aa6 (x:=B5l K) (L:=[]) (c0:=bd Tryz.f41) (xkF (gC (By6 K) (gC (B0p K) (gC (B0y K) (gC (B1h K) (gC (B1b K) gN))))) oN) (by intro a0 a1;show @Eq _ _ _;kernel_rfl) kN Tryz.func41 trivial
def Aub (K:Nat)(a0:Er)(a1:Int):Option (Int):=((As2 K a1 a0.C1).bind fun r1=>some r1)
def B1l:Sig:=⟨[.v 25,.v 3],[.v 3],true⟩
def B1m (K:Nat):Gb tyU:=⟨B1l,Aub K⟩
def B5m (K:Nat):=xF B1l [(296,Bvb K)] [] 9 [] [] [] [] [.tmp 4]
theorem B1n (K:Nat):OkF 258 (B1m K):=
 Aa6 (x:=B5m K) (L:=[]) (c0:=bd Tryz.f258) (xkF (gC (Bq1 K) gN) oN) (by intro a0 a1;show @Eq _ _ _;kernel_rfl) kN Tryz.func258 trivial
def Asp (K:Nat)(v2:Int)(v3:Int)(v4:Int)(v5:List Int)(v6:List Int)(v7:Int)(C1:Int->Int->Int->Int->(List Int)->(List Int)->Int->Option (Int))(v9:Int):Option (Int):=(C1 v9 (Aoa .i64 v2 1) v3 v4 v5 v6 v7)
def Aoy (K:Nat)(a0:Er):Nat->Int->Int->Int->Int->(List Int)->(List Int)->Int->Option (Int)
 |0,_,_,_,_,_,_,_=>none
 |n1+1,v1,v2,v3,v4,v5,v6,v7=>(bif (decide (v2<(v6.length:Int)))then(bif (v2==0)then((Aub K a0 (Aob .i64 a0.Eg v7)).bind fun r8=>(Asp K v2 v3 v4 v5 v6 v7 (Aoy K a0 n1) (Aoa .i64 v1 r8)))else((Aub K a0 a0.Eg).bind fun r10=>(Asp K v2 v3 v4 v5 v6 v7 (Aoy K a0 n1) (Aoa .i64 v1 r10))))else some v1)
def Ar7 (K:Nat)(a0:Er)(a1:Ax):Option (Int):=(Aoy K a0 K (Aoa .i64 (a1.Dg.length:Int) 1) 0 a1.A5 a1.Bt a1.Dg a1.Ae a1.Gu)
def s_73:Sig:=⟨[.v 25,.v 159],[.v 3],true⟩
def Bvm (K:Nat):Gb tyU:=⟨s_73,Ar7 K⟩
def Bpa (K:Nat):=xF s_73 [(258,B1m K)] [] 36 [] [] [] [233] [.tmp 4]
def A4z:E5:=⟨[(2,.p 102),(3,.p 103),(5,.v 2),(6,.v 2)],[(103,.box [.v 2,.v 2,.v 26,.v 26,.v 2]),(102,.st 25 true)]⟩
def Ax8:E5:=⟨[(2,.p 102),(3,.p 103),(5,.v 2),(6,.v 2)],[(103,.box [.v 2,.v 2,.v 26,.v 26,.v 2]),(102,.st 25 true)]⟩
def A40 (K:Nat)(C58:CT Ax8 s_73)(q:PT A4z):Rt s_73:=Asp K q.2.1 q.2.2.1 q.2.2.2.1 q.2.2.2.2.1 q.2.2.2.2.2.1 q.2.2.2.2.2.2.1 (fun v1 v2 v3 v4 v5 v6 v7=>C58 (v1,v2,v3,v4,v5,v6,v7,q.2.2.2.2.2.2.2.1,())) q.1
def A1r (K:Nat)(n:Nat)(q:PT Ax8):Rt s_73:=Aoy K q.2.2.2.2.2.2.2.1 n q.1 q.2.1 q.2.2.1 q.2.2.2.1 q.2.2.2.2.1 q.2.2.2.2.2.1 q.2.2.2.2.2.2.1
theorem Bi1 (K:Nat)(C58:CT Ax8 s_73):AtJ (Bpa K) [] [(58,ar Ax8 C58)] (bd Tryz.f201) 233 (A40 K C58):=fun q=>by kernel_rfl
theorem Bpb (K:Nat):AtL (Bpa K) (fun n=>[(233,ar A4z (A40 K (A1r K n)))]) [] (bd Tryz.f201) 58 (A1r K):=fun n q=>by kernel_rfl
theorem Bi2 (K:Nat):XF [.tmp 4] s_73 36 [233] (Bpa K):=xkF (gC (B1n K) gN) oN
theorem Bi3 (K:Nat)(C58:CT Ax8 s_73):CF [.tmp 4] s_73 36 [233] (bd Tryz.f201) [(58,ar Ax8 C58)] 233 (ar A4z (A40 K C58)):=
 Ala (Bi2 K) (Bi1 K C58) kN
theorem Bpc (K:Nat)(n:Nat):CF [.tmp 4] s_73 36 [233] (bd Tryz.f201) [] 58 (ar Ax8 (A1r K n)):=
 Aei (Bi2 K) (Bpb K) (fun n=>(kC (Bi3 K (A1r K n)) kN)) n
theorem Bq8 (K:Nat):OkF 201 (Bvm K):=
 Aa6 (x:=Bpa K) (L:=[(58,ar Ax8 (A1r K K))]) (c0:=bd Tryz.f201) (Bi2 K) (by intro a0 a1;show @Eq _ _ _;kernel_rfl) (kC (Bpc K K) kN) Tryz.func201 trivial
def Apq (K:Nat)(Rc:Eb->Int->(List Int)->Option (Int×(List Int)))(r5:(List Int)):Nat->(List Int)->Int->Int->Int->Int->Int->Int->Int->Int->(List Int)->(List Int)->(List Int)->(List Ba)->(List Ax)->(List Int)->Option (Int×(List Int))
 |0,_,_,_,_,_,_,_,_,_,_,_,_,_,_,_=>none
 |n1+1,v6,v7,v8,v9,v10,v11,v12,v13,v14,v15,v16,v17,v18,v19,v20=>(bif (decide (v8<(r5.length:Int)))then(if(0:Int)≤v8∧v8<(r5.length:Int)then((Rc (Eb.mk (Er.mk v9 v10 v11 v12 v13 v14) (Dw.mk v15 v16 v17) v18 v19 v20) (gt r5 v8) v6).bind fun r21=>(Apq K Rc r5 n1 r21.2 (Aoa .i64 v7 r21.1) (Aoa .i64 v8 1) v9 v10 v11 v12 v13 v14 v15 v16 v17 v18 v19 v20))else none)else some (v7,v6))
def Ava (K:Nat)(Rc:Eb->Int->(List Int)->Option (Int×(List Int)))(a0:Eb)(a1:Int)(a2:List Int):Option (Int×(List Int)):=((Abk K a1 0 (Aob .i64 (a0.fL.length:Int) 1)).bind fun r1=>(bif r1 then((An6 K a2 a1).bind fun r2=>(bif r2 then some (0,a2)else(if(([]:List Int)++a2).length*8≤140737488355328∧(([]:List Int)++a2).length≤maxLen then(if((([]:List Int)++a2)++([a1]:List Int)).length*8≤140737488355328∧((([]:List Int)++a2)++([a1]:List Int)).length≤maxLen then(if(0:Int)≤a1∧a1<(a0.fL.length:Int)then((Ark K (gt a0.fL a1) 0).bind fun r3=>((Ar7 K a0.fC r3).bind fun r4=>(if(0:Int)≤a1∧a1<(a0.fL.length:Int)then((Aq7 K a0.fL ((gt a0.fL a1).Bt)).bind fun r5=>(Apq K Rc r5 K ((([]:List Int)++a2)++([a1]:List Int)) (Aoa .i64 1 r4) 0 a0.fC.Ae a0.fC.Eg a0.fC.C0 a0.fC.E9 a0.fC.C1 a0.fC.Eh a0.fP.Fy a0.fP.Hh a0.fP.Fz a0.fL a0.fQ a0.Pr))else none)))else none)else none)else none)))else some (0,a2)))
def Ale:Nat->Eb->Int->(List Int)->Option (Int×(List Int))
 |0,_,_,_=>none
 |K+1,a0,a1,a2=>Ava K (Ale K) a0 a1 a2
def s_74:Sig:=⟨[.v 32,.v 3,.v 26],[.v 3,.v 26],false⟩
def B1o (K:Nat):Gb tyU:=⟨s_74,Ale K⟩
def Bvn (K:Nat)(Rc:Eb->Int->(List Int)->Option (Int×(List Int))):=xF s_74 [(84,A3u K),(168,Bvf K),(201,Bvm K),(202,Bh4 K),(218,Bci K),(259,⟨s_74,Rc⟩)] [] 73 [18,19,20] [] [] [] [.tmp 6,.tmp 7]
def A41:E5:=⟨[(2,.v 26),(3,.p 103),(8,.v 2),(9,.v 26),(10,.v 2)],[(103,.box [.v 2,.v 2,.v 2,.v 2,.v 2,.v 2,.v 22,.v 26,.v 26,.v 29,.v 30,.v 26])]⟩
def A42 (K:Nat)(Rc:Eb->Int->(List Int)->Option (Int×(List Int)))(n:Nat)(q:PT A41):Rt s_74:=Apq K Rc q.2.2.1 n q.1 q.2.1 q.2.2.2.1 q.2.2.2.2.1 q.2.2.2.2.2.1 q.2.2.2.2.2.2.1 q.2.2.2.2.2.2.2.1 q.2.2.2.2.2.2.2.2.1 q.2.2.2.2.2.2.2.2.2.1 q.2.2.2.2.2.2.2.2.2.2.1 q.2.2.2.2.2.2.2.2.2.2.2.1 q.2.2.2.2.2.2.2.2.2.2.2.2.1 q.2.2.2.2.2.2.2.2.2.2.2.2.2.1 q.2.2.2.2.2.2.2.2.2.2.2.2.2.2.1 q.2.2.2.2.2.2.2.2.2.2.2.2.2.2.2.1
theorem Bi4 (K:Nat)(Rc:Eb->Int->(List Int)->Option (Int×(List Int))):AtL (Bvn K Rc) (fun n=>[]) [] (bd Tryz.f259) 506 (A42 K Rc):=fun n q=>by kernel_rfl
theorem B5n (K:Nat)(Rc:Eb->Int->(List Int)->Option (Int×(List Int))):EqF s_74 (Bvn K Rc [(506,ar A41 (A42 K Rc K))] []) (bd Tryz.f259) (Ava K Rc):=by
 intro a0 a1 a2;show @Eq _ _ _;kernel_rfl
theorem Bq9 (K:Nat)(Rc:Eb->Int->(List Int)->Option (Int×(List Int)))(hR:Gb.Ok tyU Tryz.prog 259 ⟨s_74,Rc⟩∧E2 Tryz.prog 259):XF [.tmp 6,.tmp 7] s_74 73 [] (Bvn K Rc):=xkF (gC (Azn K) (gC (Bq5 K) (gC (Bq8 K) (gC (Bd9 K) (gC (A7w K) (gC hR gN)))))) oN
theorem Bi5 (K:Nat)(Rc:Eb->Int->(List Int)->Option (Int×(List Int)))(hR:Gb.Ok tyU Tryz.prog 259 ⟨s_74,Rc⟩∧E2 Tryz.prog 259)(n:Nat):CF [.tmp 6,.tmp 7] s_74 73 [] (bd Tryz.f259) [] 506 (ar A41 (A42 K Rc n)):=
 Aei (Bq9 K Rc hR) (Bi4 K Rc) (fun n=>kN) n
theorem Bra: ∀K:Nat,Gb.Ok tyU Tryz.prog 259 (B1o K)∧E2 Tryz.prog 259
 |0=>⟨(by intro a0 a1 a2 r h;cases h),_,Tryz.func259,rfl,rfl⟩
 |K+1=>have ih:=Bra K;Ao1 (Bq9 K (Ale K) ih) Apn (B5n K (Ale K)) (kC (Bi5 K (Ale K) ih K) kN) Tryz.func259 rfl rfl rfl rfl rfl rfl rfl trivial
def Awd (K:Nat)(a0:Eb)(a1:Int):Option (Int):=((Ale K a0 a1 ([]:List Int)).bind fun r1=>some r1.1)
def B1p:Sig:=⟨[.v 32,.v 3],[.v 3],true⟩
def B1q (K:Nat):Gb tyU:=⟨B1p,Awd K⟩
def B5o (K:Nat):=xF B1p [(259,B1o K)] [] 15 [] [] [(10,[.frz 3010])] [] [.tmp 4]
theorem B1r (K:Nat):OkF 203 (B1q K):=
 Aa6 (x:=B5o K) (L:=[]) (c0:=bd Tryz.f203) (xkF (gC (Bra K) gN) oN) (by intro a0 a1;show @Eq _ _ _;kernel_rfl) kN Tryz.func203 trivial
def Aqs (K:Nat)(r3:(List Int)):Nat->Int->Int->Int->Int->Int->Int->Int->Int->(List Int)->(List Int)->(List Int)->(List Ba)->(List Ax)->(List Int)->Option (Int)
 |0,_,_,_,_,_,_,_,_,_,_,_,_,_,_=>none
 |n1+1,v4,v5,v6,v7,v8,v9,v10,v11,v12,v13,v14,v15,v16,v17=>(bif (decide (v5<(r3.length:Int)))then(if(0:Int)≤v5∧v5<(r3.length:Int)then((Awd K (Eb.mk (Er.mk v6 v7 v8 v9 v10 v11) (Dw.mk v12 v13 v14) v15 v16 v17) (gt r3 v5)).bind fun r18=>(Aqs K r3 n1 (Aoa .i64 v4 r18) (Aoa .i64 v5 1) v6 v7 v8 v9 v10 v11 v12 v13 v14 v15 v16 v17))else none)else some v4)
def Awe (K:Nat)(a0:Eb)(a1:Int):Option (Int):=((Abk K a1 0 (Aob .i64 (a0.fQ.length:Int) 1)).bind fun r1=>(bif (!r1)then some 0 else(if(0:Int)≤a1∧a1<(a0.fQ.length:Int)then((Ar7 K a0.fC (gt a0.fQ a1)).bind fun r2=>(if(0:Int)≤a1∧a1<(a0.fQ.length:Int)then((Aq7 K a0.fL ((gt a0.fQ a1).Bt)).bind fun r3=>(Aqs K r3 K r2 0 a0.fC.Ae a0.fC.Eg a0.fC.C0 a0.fC.E9 a0.fC.C1 a0.fC.Eh a0.fP.Fy a0.fP.Hh a0.fP.Fz a0.fL a0.fQ a0.Pr))else none))else none)))
def s_76:Sig:=⟨[.v 32,.v 3],[.v 3],true⟩
def B1s (K:Nat):Gb tyU:=⟨s_76,Awe K⟩
def Bvo (K:Nat):=xF s_76 [(84,A3u K),(201,Bvm K),(202,Bh4 K),(203,B1q K)] [] 47 [] [] [] [] [.tmp 4]
def A43:E5:=⟨[(2,.p 102),(5,.v 2),(6,.v 26),(7,.v 2)],[(102,.box [.v 2,.v 2,.v 2,.v 2,.v 2,.v 2,.v 22,.v 26,.v 26,.v 29,.v 30,.v 26])]⟩
def A44 (K:Nat)(n:Nat)(q:PT A43):Rt s_76:=Aqs K q.2.1 n q.1 q.2.2.1 q.2.2.2.1 q.2.2.2.2.1 q.2.2.2.2.2.1 q.2.2.2.2.2.2.1 q.2.2.2.2.2.2.2.1 q.2.2.2.2.2.2.2.2.1 q.2.2.2.2.2.2.2.2.2.1 q.2.2.2.2.2.2.2.2.2.2.1 q.2.2.2.2.2.2.2.2.2.2.2.1 q.2.2.2.2.2.2.2.2.2.2.2.2.1 q.2.2.2.2.2.2.2.2.2.2.2.2.2.1 q.2.2.2.2.2.2.2.2.2.2.2.2.2.2.1
theorem Bi6 (K:Nat):AtL (Bvo K) (fun n=>[]) [] (bd Tryz.f130) 250 (A44 K):=fun n q=>by kernel_rfl
theorem Brb (K:Nat):XF [.tmp 4] s_76 47 [] (Bvo K):=xkF (gC (Azn K) (gC (Bq8 K) (gC (Bd9 K) (gC (B1r K) gN)))) oN
theorem Bi7 (K:Nat)(n:Nat):CF [.tmp 4] s_76 47 [] (bd Tryz.f130) [] 250 (ar A43 (A44 K n)):=
 Aei (Brb K) (Bi6 K) (fun n=>kN) n
theorem B1t (K:Nat):OkF 130 (B1s K):=
 Aa6 (x:=Bvo K) (L:=[(250,ar A43 (A44 K K))]) (c0:=bd Tryz.f130) (Brb K) (by intro a0 a1;show @Eq _ _ _;kernel_rfl) (kC (Bi7 K K) kN) Tryz.func130 trivial
def Asd (K:Nat):Nat->Int->Int->Int->Int->Int->Int->Int->Int->(List Int)->(List Int)->(List Int)->(List Ba)->(List Ax)->(List Int)->Option (Int)
 |0,_,_,_,_,_,_,_,_,_,_,_,_,_,_=>none
 |n1+1,v1,v2,v3,v4,v5,v6,v7,v8,v9,v10,v11,v12,v13,v14=>(bif (decide (v2<(v13.length:Int)))then((Awe K (Eb.mk (Er.mk v3 v4 v5 v6 v7 v8) (Dw.mk v9 v10 v11) v12 v13 v14) v2).bind fun r15=>(Asd K n1 (Aoa .i64 v1 r15) (Aoa .i64 v2 1) v3 v4 v5 v6 v7 v8 v9 v10 v11 v12 v13 v14))else some v1)
def Ax9 (K:Nat)(a0:Eb):Option (Int):=(Asd K K 0 0 a0.fC.Ae a0.fC.Eg a0.fC.C0 a0.fC.E9 a0.fC.C1 a0.fC.Eh a0.fP.Fy a0.fP.Hh a0.fP.Fz a0.fL a0.fQ a0.Pr)
def s_77:Sig:=⟨[.v 32],[.v 3],true⟩
def B1u (K:Nat):Gb tyU:=⟨s_77,Ax9 K⟩
def Bvp (K:Nat):=xF s_77 [(130,B1s K)] [] 18 [] [] [] [] [.tmp 2]
def A9k:E5:=⟨[(1,.p 101),(3,.v 2),(4,.v 2)],[(101,.box [.v 2,.v 2,.v 2,.v 2,.v 2,.v 2,.v 22,.v 26,.v 26,.v 29,.v 30,.v 26])]⟩
def A9l (K:Nat)(n:Nat)(q:PT A9k):Rt s_77:=Asd K n q.1 q.2.1 q.2.2.1 q.2.2.2.1 q.2.2.2.2.1 q.2.2.2.2.2.1 q.2.2.2.2.2.2.1 q.2.2.2.2.2.2.2.1 q.2.2.2.2.2.2.2.2.1 q.2.2.2.2.2.2.2.2.2.1 q.2.2.2.2.2.2.2.2.2.2.1 q.2.2.2.2.2.2.2.2.2.2.2.1 q.2.2.2.2.2.2.2.2.2.2.2.2.1 q.2.2.2.2.2.2.2.2.2.2.2.2.2.1
theorem Bpd (K:Nat):AtL (Bvp K) (fun n=>[]) [] (bd Tryz.f64) 58 (A9l K):=fun n q=>by kernel_rfl
theorem Brc (K:Nat):XF [.tmp 2] s_77 18 [] (Bvp K):=xkF (gC (B1t K) gN) oN
theorem Bpe (K:Nat)(n:Nat):CF [.tmp 2] s_77 18 [] (bd Tryz.f64) [] 58 (ar A9k (A9l K n)):=
 Aei (Brc K) (Bpd K) (fun n=>kN) n
theorem B1v (K:Nat):OkF 64 (B1u K):=
 Aa6 (x:=Bvp K) (L:=[(58,ar A9k (A9l K K))]) (c0:=bd Tryz.f64) (Brc K) (by intro a0;show @Eq _ _ _;kernel_rfl) (kC (Bpe K K) kN) Tryz.func64 trivial
def Ayo (K:Nat)(a0:Eb)(a1:Ct):Option (Int):=((Au9 K a0 a1).bind fun r1=>((Ax9 K r1.1).bind fun r2=>some r2))
def B1w:Sig:=⟨[.v 32,.v 34],[.v 3],true⟩
def B1x (K:Nat):Gb tyU:=⟨B1w,Ayo K⟩
def B5p (K:Nat):=xF B1w [(41,B1j K),(64,B1u K)] [] 15 [] [] [] [] [.tmp 4]
theorem B1y (K:Nat):OkF 19 (B1x K):=
 Aa6 (x:=B5p K) (L:=[]) (c0:=bd Tryz.f19) (xkF (gC (B1k K) (gC (B1v K) gN)) oN) (by intro a0 a1;show @Eq _ _ _;kernel_rfl) kN Tryz.func19 trivial
def Ac1 (K:Nat)(a0:Int)(a1:Int)(a2:Int):Option (Bool):=(bif (decide (a0≥a1))then some (decide (a0≤a2))else some false)
def B1z:Sig:=⟨[.v 3,.v 3,.v 3],[.v 4],true⟩
def A45 (K:Nat):Gb tyU:=⟨B1z,Ac1 K⟩
def B5q (K:Nat):=xF B1z [] [] 15 [9,10] [] [] [] [.tmp 6]
theorem A0r (K:Nat):OkF 88 (A45 K):=
 Aa6 (x:=B5q K) (L:=[]) (c0:=bd Tryz.f88) (xkF gN oN) (by intro a0 a1 a2;show @Eq _ _ _;kernel_rfl) kN Tryz.func88 trivial
def Ase (K:Nat)(a0:Er):Option (Bool):=((Ac1 K a0.Ae 2 12).bind fun r1=>(bif r1 then((Ac1 K a0.Eg 8 16).bind fun r2=>(bif r2 then((Ac1 K a0.C0 2 8).bind fun r3=>(bif r3 then((Ac1 K a0.E9 1 8).bind fun r4=>(bif r4 then((Ac1 K a0.C1 1 16).bind fun r5=>(bif r5 then((Ac1 K a0.Eh 1 4).bind fun r6=>some r6)else some false))else some false))else some false))else some false))else some false))
def B10:Sig:=⟨[.v 25],[.v 4],true⟩
def Bi8 (K:Nat):Gb tyU:=⟨B10,Ase K⟩
def B5r (K:Nat):=xF B10 [(88,A45 K)] [] 31 [5,6,9,10,11,14,15,16,19,20,21,24,25,26] [] [] [] [.tmp 2]
theorem Bee (K:Nat):OkF 198 (Bi8 K):=
 Aa6 (x:=B5r K) (L:=[]) (c0:=bd Tryz.f198) (xkF (gC (A0r K) gN) oN) (by intro a0;show @Eq _ _ _;kernel_rfl) kN Tryz.func198 trivial
def Avb (K:Nat)(a0:Er):Option (Int):=((Ase K a0).bind fun r1=>(bif (!r1)then some 0 else some (Aoc .i64 a0.Ae a0.Eg)))
def B11:Sig:=⟨[.v 25],[.v 3],true⟩
def Bvq (K:Nat):Gb tyU:=⟨B11,Avb K⟩
def B5s (K:Nat):=xF B11 [(198,Bi8 K)] [] 11 [] [] [] [] [.tmp 2]
theorem Brd (K:Nat):OkF 123 (Bvq K):=
 Aa6 (x:=B5s K) (L:=[]) (c0:=bd Tryz.f123) (xkF (gC (Bee K) gN) oN) (by intro a0;show @Eq _ _ _;kernel_rfl) kN Tryz.func123 trivial
def Aqz (K:Nat)(a0:Dw)(a1:Er)(a2:Int):Option ((List Int)):=(if(0:Int)≤(Aoc .i64 a2 a1.Eg)∧(Aoc .i64 a2 a1.Eg)≤(Aoc .i64 (Aoa .i64 a2 1) a1.Eg)∧(Aoc .i64 (Aoa .i64 a2 1) a1.Eg)≤(a0.Fy.length:Int)then some ((a0.Fy.drop (Aoc .i64 a2 a1.Eg).toNat).take ((Aoc .i64 (Aoa .i64 a2 1) a1.Eg) - (Aoc .i64 a2 a1.Eg)).toNat)else none)
def B12:Sig:=⟨[.v 28,.v 25,.v 3],[.v 22],false⟩
def Bvr (K:Nat):Gb tyU:=⟨B12,Aqz K⟩
def B5t (K:Nat):=xF B12 [] [] 19 [] [] [] [] [.tmp 6]
theorem Bre (K:Nat):OkF 227 (Bvr K):=
 Aa6 (x:=B5t K) (L:=[]) (c0:=bd Tryz.f227) (xkF gN oN) (by intro a0 a1 a2;show @Eq _ _ _;kernel_rfl) kN Tryz.func227 trivial
def Aw3 (K:Nat)(a0:Int):Option (Bool):=some (a0 != 0)
def B13:Sig:=⟨[.v 5],[.v 4],true⟩
def B14 (K:Nat):Gb tyU:=⟨B13,Aw3 K⟩
def B5u (K:Nat):=xF B13 [] [] 5 [] [] [] [] [.tmp 2]
theorem B15 (K:Nat):OkF 268 (B14 K):=
 Aa6 (x:=B5u K) (L:=[]) (c0:=bd Tryz.f268) (xkF gN oN) (by intro a0;show @Eq _ _ _;kernel_rfl) kN Tryz.func268 trivial
def Ahb (K:Nat)(a0:List Int):Nat->Int->Int->Option (Int)
 |0,_,_=>none
 |n1+1,v1,v2=>(bif (decide (v2<v1))then(if(0:Int)≤v2∧v2<(a0.length:Int)then((Aw3 K (gt a0 v2)).bind fun r3=>(bif r3 then some v2 else(Ahb K a0 n1 v1 (Aoa .i64 v2 1))))else none)else some (-1))
def Alo (K:Nat)(a0:List Int):Option (Int):=(Ahb K a0 K (a0.length:Int) 0)
def s_84:Sig:=⟨[.v 22,.f 268 [] []],[.v 3],true⟩
def B16 (K:Nat):Gb tyU:=⟨s_84,Alo K⟩
def Bvs (K:Nat):=xF s_84 [(268,B14 K)] [] 19 [] [] [] [] [.tmp 4]
def A9m:E5:=⟨[(0,.v 22),(1,.f 268 [] []),(7,.v 2),(8,.v 2)],[]⟩
def A9n (K:Nat)(n:Nat)(q:PT A9m):Rt s_84:=Ahb K q.1 n q.2.1 q.2.2.1
theorem Bpf (K:Nat):AtL (Bvs K) (fun n=>[]) [] (bd Tryz.f297) 26 (A9n K):=fun n q=>by kernel_rfl
theorem Brf (K:Nat):XF [.tmp 4] s_84 19 [] (Bvs K):=xkF (gC (B15 K) gN) oN
theorem Bpg (K:Nat)(n:Nat):CF [.tmp 4] s_84 19 [] (bd Tryz.f297) [] 26 (ar A9m (A9n K n)):=
 Aei (Brf K) (Bpf K) (fun n=>kN) n
theorem B17 (K:Nat):OkF 297 (B16 K):=
 Aa6 (x:=Bvs K) (L:=[(26,ar A9m (A9n K K))]) (c0:=bd Tryz.f297) (Brf K) (by intro a0;show @Eq _ _ _;kernel_rfl) (kC (Bpg K K) kN) Tryz.func297 trivial
def Ak3 (K:Nat)(a0:List Int):Option (Bool):=((Alo K a0).bind fun r1=>some (decide (r1≥0)))
def B18:Sig:=⟨[.v 22,.f 268 [] []],[.v 4],true⟩
def B19 (K:Nat):Gb tyU:=⟨B18,Ak3 K⟩
def B5v (K:Nat):=xF B18 [(297,B16 K)] [] 9 [] [] [] [] [.tmp 4]
theorem B2a (K:Nat):OkF 267 (B19 K):=
 Aa6 (x:=B5v K) (L:=[]) (c0:=bd Tryz.f267) (xkF (gC (B17 K) gN) oN) (by intro a0;show @Eq _ _ _;kernel_rfl) kN Tryz.func267 trivial
def Asf (K:Nat)(a0:List Int):Option (Bool):=((Ak3 K a0).bind fun r1=>some (!r1))
def B2b:Sig:=⟨[.v 22],[.v 4],true⟩
def Bph (K:Nat):Gb tyU:=⟨B2b,Asf K⟩
def B5w (K:Nat):=xF B2b [(267,B19 K)] [] 6 [] [] [] [] [.tmp 2]
theorem Bi9 (K:Nat):OkF 226 (Bph K):=
 Aa6 (x:=B5w K) (L:=[]) (c0:=bd Tryz.f226) (xkF (gC (B2a K) gN) oN) (by intro a0;show @Eq _ _ _;kernel_rfl) kN Tryz.func226 trivial
def Auc (K:Nat)(v3:List Int)(v4:Int)(v6:List Int)(v7:List Int)(v8:List Int)(v12:Int)(C1:(List Int)->Int->Int->(List Int)->(List Int)->(List Int)->Option (Bool))(v16:Bool):Option (Bool):=(bif v16 then some false else(C1 v3 v4 (Aoa .i64 v12 1) v6 v7 v8))
def Ap0 (K:Nat)(a0:Er)(v3:List Int)(v4:Int)(v5:Int)(v6:List Int)(v7:List Int)(v8:List Int)(C1:(List Int)->Int->Int->(List Int)->(List Int)->(List Int)->Option (Bool))(v11:Int)(v12:Int)(v13:Bool):Option (Bool):=(bif v13 then some false else(bif (v11==0)then((Aqz K (Dw.mk v6 v7 v8) a0 v5).bind fun r14=>((Asf K r14).bind fun r15=>(Auc K v3 v4 v6 v7 v8 v12 (C1) (!r15))))else(Auc K v3 v4 v6 v7 v8 v12 (C1) false)))
def Ai8 (K:Nat)(a0:Er):Nat->(List Int)->Int->Int->(List Int)->(List Int)->(List Int)->Option (Bool)
 |0,_,_,_,_,_,_=>none
 |n1+1,v3,v4,v5,v6,v7,v8=>(bif (decide (v5<v4))then(if(0:Int)≤v5∧v5<(v3.length:Int)then((Ac1 K (gt v3 v5) 0 2).bind fun r9=>(bif (!r9)then some false else(bif ((gt v3 v5)==1)then(if(0:Int)≤v5∧v5<(v8.length:Int)then((Ac1 K (gt v8 v5) 0 (Aob .i64 a0.C0 1)).bind fun r10=>(bif r10 then(bif ((gt v3 v5) != 1)then(if(0:Int)≤v5∧v5<(v8.length:Int)then(Ap0 K a0 v3 v4 v5 v6 v7 v8 (Ai8 K a0 n1) (gt v3 v5) v5 ((gt v8 v5) != (-1)))else none)else(Ap0 K a0 v3 v4 v5 v6 v7 v8 (Ai8 K a0 n1) (gt v3 v5) v5 false))else(Ap0 K a0 v3 v4 v5 v6 v7 v8 (Ai8 K a0 n1) (gt v3 v5) v5 true)))else none)else(bif ((gt v3 v5) != 1)then(if(0:Int)≤v5∧v5<(v8.length:Int)then(Ap0 K a0 v3 v4 v5 v6 v7 v8 (Ai8 K a0 n1) (gt v3 v5) v5 ((gt v8 v5) != (-1)))else none)else(Ap0 K a0 v3 v4 v5 v6 v7 v8 (Ai8 K a0 n1) (gt v3 v5) v5 false)))))else none)else some true)
def Awf (K:Nat)(a0:Er)(a1:Dw):Option (Bool):=((Ase K a0).bind fun r1=>(bif r1 then((Avb K a0).bind fun r2=>(bif ((a1.Fy.length:Int) != r2)then some false else(bif ((a1.Hh.length:Int) != a0.Ae)then some false else(bif ((a1.Fz.length:Int) != a0.Ae)then some false else(Ai8 K a0 K a1.Hh (a1.Hh.length:Int) 0 a1.Fy a1.Hh a1.Fz)))))else some false))
def s_87:Sig:=⟨[.v 25,.v 28],[.v 4],true⟩
def B2c (K:Nat):Gb tyU:=⟨s_87,Awf K⟩
def Bja (K:Nat):=xF s_87 [(88,A45 K),(123,Bvq K),(198,Bi8 K),(226,Bph K),(227,Bvr K)] [] 85 [8,9,10,16,17,18,24,25,26,48,49,58,59,60,61,63,64,75,76] [] [] [29899,119599] [.tmp 4]
def Azr:E5:=⟨[(2,.p 102),(3,.p 103),(35,.v 26),(36,.v 2),(37,.v 2),(73,.v 4)],[(103,.box [.v 22,.v 26,.v 26]),(102,.st 25 true)]⟩
def A01:E5:=⟨[(2,.p 102),(3,.p 103),(5,.v 2),(6,.v 2),(35,.v 26),(36,.v 2),(37,.v 2),(46,.v 4)],[(103,.box [.v 22,.v 26,.v 26]),(102,.st 25 true)]⟩
def Ati:E5:=⟨[(2,.p 102),(3,.p 103),(35,.v 26),(36,.v 2),(37,.v 2)],[(103,.box [.v 22,.v 26,.v 26]),(102,.st 25 true)]⟩
def Azs (K:Nat)(C58:CT Ati s_87)(q:PT Azr):Rt s_87:=Auc K q.1 q.2.1 q.2.2.2.2.1 q.2.2.2.2.2.1 q.2.2.2.2.2.2.1 q.2.2.1 (fun v3 v4 v5 v6 v7 v8=>C58 (v3,v4,v5,v6,v7,v8,q.2.2.2.2.2.2.2.1,())) q.2.2.2.1
def A02 (K:Nat)(C58:CT Ati s_87)(q:PT A01):Rt s_87:=Ap0 K q.2.2.2.2.2.2.2.2.2.1 q.2.2.1 q.2.2.2.1 q.1 q.2.2.2.2.2.2.1 q.2.2.2.2.2.2.2.1 q.2.2.2.2.2.2.2.2.1 (fun v3 v4 v5 v6 v7 v8=>C58 (v3,v4,v5,v6,v7,v8,q.2.2.2.2.2.2.2.2.2.1,())) q.2.1 q.2.2.2.2.1 q.2.2.2.2.2.1
def A1s (K:Nat)(n:Nat)(q:PT Ati):Rt s_87:=Ai8 K q.2.2.2.2.2.2.1 n q.1 q.2.1 q.2.2.1 q.2.2.2.1 q.2.2.2.2.1 q.2.2.2.2.2.1
theorem Ba3 (K:Nat)(C58:CT Ati s_87):AtJ (Bja K) [] [(58,ar Ati C58)] (bd Tryz.f153) 119599 (Azs K C58):=fun q=>by kernel_rfl
theorem Bcp (K:Nat)(C58:CT Ati s_87):AtJ (Bja K) [(119599,ar Azr (Azs K C58))] [(58,ar Ati C58)] (bd Tryz.f153) 29899 (A02 K C58):=fun q=>by kernel_rfl
theorem Bpi (K:Nat):AtL (Bja K) (fun n=>[(29899,ar A01 (A02 K (A1s K n)))]) [] (bd Tryz.f153) 58 (A1s K):=fun n q=>by kernel_rfl
theorem Bef (K:Nat):XF [.tmp 4] s_87 85 [29899,119599] (Bja K):=xkF (gC (A0r K) (gC (Brd K) (gC (Bee K) (gC (Bi9 K) (gC (Bre K) gN))))) oN
theorem Ba4 (K:Nat)(C58:CT Ati s_87):CF [.tmp 4] s_87 85 [29899,119599] (bd Tryz.f153) [(58,ar Ati C58)] 119599 (ar Azr (Azs K C58)):=
 Ala (Bef K) (Ba3 K C58) kN
theorem Bcq (K:Nat)(C58:CT Ati s_87):CF [.tmp 4] s_87 85 [29899,119599] (bd Tryz.f153) [(58,ar Ati C58)] 29899 (ar A01 (A02 K C58)):=
 Ala (Bef K) (Bcp K C58) (kC (Ba4 K C58) kN)
theorem Bpj (K:Nat)(n:Nat):CF [.tmp 4] s_87 85 [29899,119599] (bd Tryz.f153) [] 58 (ar Ati (A1s K n)):=
 Aei (Bef K) (Bpi K) (fun n=>(kC (Bcq K (A1s K n)) kN)) n
theorem B2d (K:Nat):OkF 153 (B2c K):=
 Aa6 (x:=Bja K) (L:=[(58,ar Ati (A1s K K))]) (c0:=bd Tryz.f153) (Bef K) (by intro a0 a1;show @Eq _ _ _;kernel_rfl) (kC (Bpj K K) kN) Tryz.func153 trivial
def Aen (K:Nat)(a0:List Int):Option ((List Int)):=(bif a0.isEmpty then Afd (some []) ((if(([]:List Int)++a0).length*8≤140737488355328∧(([]:List Int)++a0).length≤maxLen then some (([]:List Int)++a0)else none))else(if(([]:List Int)++a0).length*8≤140737488355328∧(([]:List Int)++a0).length≤maxLen then some (([]:List Int)++a0)else none))
def B2e:Sig:=⟨[.v 26],[.n 26 true],true⟩
def Bcr (K:Nat):Gb tyU:=⟨B2e,Aen K⟩
def B5x (K:Nat):=xF B2e [] [] 8 [] [] [] [] [.tmp 2]
theorem A7x (K:Nat):OkF 160 (Bcr K):=
 Aa6 (x:=B5x K) (L:=[]) (c0:=bd Tryz.f160) (xkF gN oN) (by intro a0;show @Eq _ _ _;kernel_rfl) kN Tryz.func160 trivial
def Ai1 (K:Nat)(a0:List Int)(a1:List Int):Nat->Int->Int->Option (Bool)
 |0,_,_=>none
 |n1+1,v1,v2=>(bif (decide (v2<v1))then(if(0:Int)≤v2∧v2<(a0.length:Int)then(if(0:Int)≤v2∧v2<(a1.length:Int)then(bif ((gt a0 v2) != (gt a1 v2))then some false else(Ai1 K a0 a1 n1 v1 (Aoa .i64 v2 1)))else none)else none)else some true)
def Ai3 (K:Nat)(a0:List Int)(a1:List Int):Option (Bool):=(bif ((a0.length:Int) != (a1.length:Int))then some false else(Ai1 K a0 a1 K (a0.length:Int) 0))
def s_90:Sig:=⟨[.v 26,.v 26],[.v 4],true⟩
def Bvt (K:Nat):Gb tyU:=⟨s_90,Ai3 K⟩
def Bvu (K:Nat):=xF s_90 [] [] 26 [] [] [] [] [.tmp 4]
def A9o:E5:=⟨[(0,.v 26),(1,.v 26),(12,.v 2),(13,.v 2)],[]⟩
def A9p (K:Nat)(n:Nat)(q:PT A9o):Rt s_90:=Ai1 K q.1 q.2.1 n q.2.2.1 q.2.2.2.1
theorem Bpk (K:Nat):AtL (Bvu K) (fun n=>[]) [] (bd Tryz.f229) 58 (A9p K):=fun n q=>by kernel_rfl
theorem Brg (K:Nat):XF [.tmp 4] s_90 26 [] (Bvu K):=xkF gN oN
theorem Bpl (K:Nat)(n:Nat):CF [.tmp 4] s_90 26 [] (bd Tryz.f229) [] 58 (ar A9o (A9p K n)):=
 Aei (Brg K) (Bpk K) (fun n=>kN) n
theorem Brh (K:Nat):OkF 229 (Bvt K):=
 Aa6 (x:=Bvu K) (L:=[(58,ar A9o (A9p K K))]) (c0:=bd Tryz.f229) (Brg K) (by intro a0 a1;show @Eq _ _ _;kernel_rfl) (kC (Bpl K K) kN) Tryz.func229 trivial
def Anv (K:Nat)(a0:List A9)(a1:List A9):Nat->Int->Int->Option (Bool)
 |0,_,_=>none
 |n1+1,v1,v2=>(bif (decide (v2<v1))then(if(0:Int)≤v2∧v2<(a0.length:Int)then(if(0:Int)≤v2∧v2<(a1.length:Int)then(bif (!((((gt a0 v2).fAt)==((gt a1 v2).fAt))&&((((gt a0 v2).Vu)==((gt a1 v2).Vu))&&((((gt a0 v2).Vv)==((gt a1 v2).Vv))&&true))))then some false else(Anv K a0 a1 n1 v1 (Aoa .i64 v2 1)))else none)else none)else some true)
def Al6 (K:Nat)(a0:List A9)(a1:List A9):Option (Bool):=(bif ((a0.length:Int) != (a1.length:Int))then some false else(Anv K a0 a1 K (a0.length:Int) 0))
def s_91:Sig:=⟨[.v 41,.v 41],[.v 4],true⟩
def B2f (K:Nat):Gb tyU:=⟨s_91,Al6 K⟩
def Bvv (K:Nat):=xF s_91 [] [] 26 [] [] [] [] [.tmp 4]
def A9q:E5:=⟨[(0,.v 41),(1,.v 41),(12,.v 2),(13,.v 2)],[]⟩
def A9r (K:Nat)(n:Nat)(q:PT A9q):Rt s_91:=Anv K q.1 q.2.1 n q.2.2.1 q.2.2.2.1
theorem Bpm (K:Nat):AtL (Bvv K) (fun n=>[]) [] (bd Tryz.f309) 58 (A9r K):=fun n q=>by kernel_rfl
theorem Bri (K:Nat):XF [.tmp 4] s_91 26 [] (Bvv K):=xkF gN oN
theorem Bpn (K:Nat)(n:Nat):CF [.tmp 4] s_91 26 [] (bd Tryz.f309) [] 58 (ar A9q (A9r K n)):=
 Aei (Bri K) (Bpm K) (fun n=>kN) n
theorem B2g (K:Nat):OkF 309 (B2f K):=
 Aa6 (x:=Bvv K) (L:=[(58,ar A9q (A9r K K))]) (c0:=bd Tryz.f309) (Bri K) (by intro a0 a1;show @Eq _ _ _;kernel_rfl) (kC (Bpn K K) kN) Tryz.func309 trivial
def Aw4 (K:Nat)(a0:Ba)(a1:Ba):Option (Bool):=(bif (a0.Hh==a1.Hh)then(bif (a0.C2==a1.C2)then(bif (a0.Ly==a1.Ly)then(bif (a0.fUp==a1.fUp)then(bif (a0.Gq==a1.Gq)then(bif (a0.Bt==a1.Bt)then(bif (a0.Gr==a1.Gr)then(bif (a0.Gs==a1.Gs)then((Ai3 K a0.Ae a1.Ae).bind fun r1=>(bif r1 then(bif (a0.Pq==a1.Pq)then(bif (a0.Gt==a1.Gt)then((Al6 K a0.Ea a1.Ea).bind fun r2=>(bif r2 then((Ai3 K a0.Dg a1.Dg).bind fun r3=>some r3)else some false))else some false)else some false)else some false))else some false)else some false)else some false)else some false)else some false)else some false)else some false)else some false)
def B2h:Sig:=⟨[.v 44,.v 44],[.v 4],true⟩
def B2i (K:Nat):Gb tyU:=⟨B2h,Aw4 K⟩
def B5y (K:Nat):=xF B2h [(229,Bvt K),(309,B2f K)] [] 94 [9,10,15,16,17,22,23,24,29,30,31,36,37,38,43,44,45,50,51,52,57,58,59,64,65,66,71,72,73,78,79,80,85,86,87] [] [] [] [.tmp 4]
theorem B2j (K:Nat):OkF 274 (B2i K):=
 Aa6 (x:=B5y K) (L:=[]) (c0:=bd Tryz.f274) (xkF (gC (Brh K) (gC (B2g K) gN)) oN) (by intro a0 a1;show @Eq _ _ _;kernel_rfl) kN Tryz.func274 trivial
def Aya (K:Nat)(a0:Ba):Option (Bool):=((Aw4 K a0 (Ba.mk a0.Hh a0.C2 0 0 0 0 0 0 ([]:List Int) 0 0 ([]:List A9) ([]:List Int))).bind fun r1=>some r1)
def B2k:Sig:=⟨[.v 44],[.v 4],true⟩
def B2l (K:Nat):Gb tyU:=⟨B2k,Aya K⟩
def B5z (K:Nat):=xF B2k [(274,B2i K)] [] 10 [] [] [] [] [.tmp 2]
theorem B2m (K:Nat):OkF 239 (B2l K):=
 Aa6 (x:=B5z K) (L:=[]) (c0:=bd Tryz.f239) (xkF (gC (B2j K) gN) oN) (by intro a0;show @Eq _ _ _;kernel_rfl) kN Tryz.func239 trivial
def Ans (K:Nat)(a0:List Int)(a1:Int):Nat->Int->Int->Option (Int)
 |0,_,_=>none
 |n1+1,v1,v2=>(bif (decide (v2<v1))then(if(0:Int)≤v2∧v2<(a0.length:Int)then(bif (a1==(gt a0 v2))then some v2 else(Ans K a0 a1 n1 v1 (Aoa .i64 v2 1)))else none)else some (-1))
def Aup (K:Nat)(a0:List Int)(a1:Int):Option (Int):=(Ans K a0 a1 K (a0.length:Int) 0)
def s_94:Sig:=⟨[.v 26,.v 3],[.v 3],true⟩
def B2n (K:Nat):Gb tyU:=⟨s_94,Aup K⟩
def Bvw (K:Nat):=xF s_94 [] [] 19 [] [] [] [] [.tmp 4]
def A9s:E5:=⟨[(0,.v 26),(1,.v 2),(7,.v 2),(8,.v 2)],[]⟩
def A9t (K:Nat)(n:Nat)(q:PT A9s):Rt s_94:=Ans K q.1 q.2.1 n q.2.2.1 q.2.2.2.1
theorem Bpo (K:Nat):AtL (Bvw K) (fun n=>[]) [] (bd Tryz.f126) 26 (A9t K):=fun n q=>by kernel_rfl
theorem Brj (K:Nat):XF [.tmp 4] s_94 19 [] (Bvw K):=xkF gN oN
theorem Bpp (K:Nat)(n:Nat):CF [.tmp 4] s_94 19 [] (bd Tryz.f126) [] 26 (ar A9s (A9t K n)):=
 Aei (Brj K) (Bpo K) (fun n=>kN) n
theorem B2o (K:Nat):OkF 126 (B2n K):=
 Aa6 (x:=Bvw K) (L:=[(26,ar A9s (A9t K K))]) (c0:=bd Tryz.f126) (Brj K) (by intro a0 a1;show @Eq _ _ _;kernel_rfl) (kC (Bpp K K) kN) Tryz.func126 trivial
def Ang (K:Nat)(a0:List Int)(a1:Int):Option (Bool):=((Aup K a0 a1).bind fun r1=>some (decide (r1≥0)))
def B2p:Sig:=⟨[.v 26,.v 3],[.v 4],true⟩
def Bpq (K:Nat):Gb tyU:=⟨B2p,Ang K⟩
def B50 (K:Nat):=xF B2p [(126,B2n K)] [] 9 [] [] [] [] [.tmp 4]
theorem Bjb (K:Nat):OkF 57 (Bpq K):=
 Aa6 (x:=B50 K) (L:=[]) (c0:=bd Tryz.f57) (xkF (gC (B2o K) gN) oN) (by intro a0 a1;show @Eq _ _ _;kernel_rfl) kN Tryz.func57 trivial
def Ao0 (K:Nat)(a0:Er)(a1:List Int):Nat->(List Int)->Int->Int->Option (Bool)
 |0,_,_,_=>none
 |n1+1,v1,v2,v3=>(bif (decide (v3<v2))then(if(0:Int)≤v3∧v3<(v1.length:Int)then((Ac1 K (gt v1 v3) 0 (Aob .i64 a0.Ae 1)).bind fun r4=>(bif r4 then(if(0:Int)≤0∧0≤v3∧v3≤(a1.length:Int)then((Ang K ((a1.drop (0:Int).toNat).take (v3 - 0).toNat) (gt v1 v3)).bind fun r5=>(bif r5 then some false else(Ao0 K a0 a1 n1 v1 v2 (Aoa .i64 v3 1))))else none)else some false))else none)else some true)
def Ar8 (K:Nat)(a0:Er)(a1:List Int):Option (Bool):=(Ao0 K a0 a1 K a1 (a1.length:Int) 0)
def s_96:Sig:=⟨[.v 25,.v 26],[.v 4],true⟩
def Bvx (K:Nat):Gb tyU:=⟨s_96,Ar8 K⟩
def Bvy (K:Nat):=xF s_96 [(57,Bpq K),(88,A45 K)] [] 28 [18,19,20] [] [] [] [.tmp 4]
def A9u:E5:=⟨[(1,.v 26),(2,.p 102),(7,.v 26),(8,.v 2),(9,.v 2)],[(102,.st 25 true)]⟩
def A9v (K:Nat)(n:Nat)(q:PT A9u):Rt s_96:=Ao0 K q.2.2.2.2.1 q.1 n q.2.1 q.2.2.1 q.2.2.2.1
theorem Bpr (K:Nat):AtL (Bvy K) (fun n=>[]) [] (bd Tryz.f240) 26 (A9v K):=fun n q=>by kernel_rfl
theorem Brk (K:Nat):XF [.tmp 4] s_96 28 [] (Bvy K):=xkF (gC (Bjb K) (gC (A0r K) gN)) oN
theorem Bps (K:Nat)(n:Nat):CF [.tmp 4] s_96 28 [] (bd Tryz.f240) [] 26 (ar A9u (A9v K n)):=
 Aei (Brk K) (Bpr K) (fun n=>kN) n
theorem Brl (K:Nat):OkF 240 (Bvx K):=
 Aa6 (x:=Bvy K) (L:=[(26,ar A9u (A9v K K))]) (c0:=bd Tryz.f240) (Brk K) (by intro a0 a1;show @Eq _ _ _;kernel_rfl) (kC (Bps K K) kN) Tryz.func240 trivial
def Asq (K:Nat)(a0:Int):Option (Bool):=((Ac1 K a0 0 255).bind fun r1=>some (!r1))
def B2q:Sig:=⟨[.v 3],[.v 4],true⟩
def B2r (K:Nat):Gb tyU:=⟨B2q,Asq K⟩
def B51 (K:Nat):=xF B2q [(88,A45 K)] [] 6 [] [] [] [] [.tmp 2]
theorem B2s (K:Nat):OkF 237 (B2r K):=
 Aa6 (x:=B51 K) (L:=[]) (c0:=bd Tryz.f237) (xkF (gC (A0r K) gN) oN) (by intro a0;show @Eq _ _ _;kernel_rfl) kN Tryz.func237 trivial
def Ag7 (K:Nat)(a0:List Int):Nat->Int->Int->Option (Int)
 |0,_,_=>none
 |n1+1,v1,v2=>(bif (decide (v2<v1))then(if(0:Int)≤v2∧v2<(a0.length:Int)then((Asq K (gt a0 v2)).bind fun r3=>(bif r3 then some v2 else(Ag7 K a0 n1 v1 (Aoa .i64 v2 1))))else none)else some (-1))
def Alf (K:Nat)(a0:List Int):Option (Int):=(Ag7 K a0 K (a0.length:Int) 0)
def s_98:Sig:=⟨[.v 26,.f 237 [] []],[.v 3],true⟩
def B2t (K:Nat):Gb tyU:=⟨s_98,Alf K⟩
def Bvz (K:Nat):=xF s_98 [(237,B2r K)] [] 19 [] [] [] [] [.tmp 4]
def A9w:E5:=⟨[(0,.v 26),(1,.f 237 [] []),(7,.v 2),(8,.v 2)],[]⟩
def A9x (K:Nat)(n:Nat)(q:PT A9w):Rt s_98:=Ag7 K q.1 n q.2.1 q.2.2.1
theorem Bpt (K:Nat):AtL (Bvz K) (fun n=>[]) [] (bd Tryz.f272) 26 (A9x K):=fun n q=>by kernel_rfl
theorem Brm (K:Nat):XF [.tmp 4] s_98 19 [] (Bvz K):=xkF (gC (B2s K) gN) oN
theorem Bpu (K:Nat)(n:Nat):CF [.tmp 4] s_98 19 [] (bd Tryz.f272) [] 26 (ar A9w (A9x K n)):=
 Aei (Brm K) (Bpt K) (fun n=>kN) n
theorem B2u (K:Nat):OkF 272 (B2t K):=
 Aa6 (x:=Bvz K) (L:=[(26,ar A9w (A9x K K))]) (c0:=bd Tryz.f272) (Brm K) (by intro a0;show @Eq _ _ _;kernel_rfl) (kC (Bpu K K) kN) Tryz.func272 trivial
def Ajb (K:Nat)(a0:List Int):Option (Bool):=((Alf K a0).bind fun r1=>some (decide (r1≥0)))
def B2v:Sig:=⟨[.v 26,.f 237 [] []],[.v 4],true⟩
def B2w (K:Nat):Gb tyU:=⟨B2v,Ajb K⟩
def B52 (K:Nat):=xF B2v [(272,B2t K)] [] 9 [] [] [] [] [.tmp 4]
theorem B2x (K:Nat):OkF 236 (B2w K):=
 Aa6 (x:=B52 K) (L:=[]) (c0:=bd Tryz.f236) (xkF (gC (B2u K) gN) oN) (by intro a0;show @Eq _ _ _;kernel_rfl) kN Tryz.func236 trivial
def Aqt (K:Nat)(a0:List Int):Option (Bool):=((Ajb K a0).bind fun r1=>some (!r1))
def Brn:Sig:=⟨[.v 26],[.v 4],true⟩
def Beg (K:Nat):Gb tyU:=⟨Brn,Aqt K⟩
def B2y (K:Nat):=xF Brn [(236,B2w K)] [] 6 [] [] [] [] [.tmp 2]
theorem Bcs (K:Nat):OkF 157 (Beg K):=
 Aa6 (x:=B2y K) (L:=[]) (c0:=bd Tryz.f157) (xkF (gC (B2x K) gN) oN) (by intro a0;show @Eq _ _ _;kernel_rfl) kN Tryz.func157 trivial
def Azt (K:Nat)(a0:Er)(a1:Int):Option (Bool):=some (decide (a1>a0.Eg))
def Bro:Sig:=⟨[.v 25,.v 3],[.v 4],true⟩
def Brp (K:Nat):Gb tyU:=⟨Bro,Azt K⟩
def B2z (K:Nat):=xF Bro [] [] 9 [] [] [] [] [.tmp 4]
theorem Bv0 (K:Nat):OkF 124 (Brp K):=
 Aa6 (x:=B2z K) (L:=[]) (c0:=bd Tryz.f124) (xkF gN oN) (by intro a0 a1;show @Eq _ _ _;kernel_rfl) kN Tryz.func124 trivial
def Avc (K:Nat)(a0:Int)(a1:Int):Option (Int):=((Ac1 K a0 0 1000000000).bind fun r1=>(bif r1 then((Ac1 K a1 1 1000000000).bind fun r2=>(bif (!r2)then some 0 else(if a1≠(0:Int)then some (Alr .i64 (Aob .i64 (Aoa .i64 a0 a1) 1) a1)else none)))else some 0))
def Brq:Sig:=⟨[.v 3,.v 3],[.v 3],true⟩
def Bjc (K:Nat):Gb tyU:=⟨Brq,Avc K⟩
def B20 (K:Nat):=xF Brq [(88,A45 K)] [] 19 [6,7,8] [] [] [] [.tmp 4]
theorem Bjd (K:Nat):OkF 199 (Bjc K):=
 Aa6 (x:=B20 K) (L:=[]) (c0:=bd Tryz.f199) (xkF (gC (A0r K) gN) oN) (by intro a0 a1;show @Eq _ _ _;kernel_rfl) kN Tryz.func199 trivial
def Ayw (K:Nat)(a0:Er)(a1:Int):Option (Int):=((Avc K a1 a0.Eg).bind fun r1=>some r1)
def Brr:Sig:=⟨[.v 25,.v 3],[.v 3],true⟩
def Brs (K:Nat):Gb tyU:=⟨Brr,Ayw K⟩
def B21 (K:Nat):=xF Brr [(199,Bjc K)] [] 9 [] [] [] [] [.tmp 4]
theorem Bv1 (K:Nat):OkF 125 (Brs K):=
 Aa6 (x:=B21 K) (L:=[]) (c0:=bd Tryz.f125) (xkF (gC (Bjd K) gN) oN) (by intro a0 a1;show @Eq _ _ _;kernel_rfl) kN Tryz.func125 trivial
def Arm (K:Nat)(a0:Er)(a1:A9):Option (Bool):=((Avb K a0).bind fun r1=>(bif (decide (a1.Vu≤0))then some false else(bif (decide (a1.fAt<0))then some false else(bif (decide (a1.Vu>r1))then some false else(bif (decide (a1.fAt>(Aob .i64 r1 a1.Vu)))then some false else(bif (a1.Vv==0)then(bif (decide (a1.Vu≤a0.Eg))then(if a0.Eg≠(0:Int)then(if a0.Eg≠(0:Int)then some ((Alr .i64 a1.fAt a0.Eg)==(Alr .i64 (Aob .i64 (Aoa .i64 a1.fAt a1.Vu) 1) a0.Eg))else none)else none)else some false)else((Azt K a0 a1.Vu).bind fun r2=>(bif r2 then((Ayw K a0 a1.Vu).bind fun r3=>(bif (a1.Vv==r3)then(if a0.Eg≠(0:Int)then some ((Int.tmod a1.fAt a0.Eg)==0)else none)else some false))else some false))))))))
def Brt:Sig:=⟨[.v 25,.v 89],[.v 4],true⟩
def Bje (K:Nat):Gb tyU:=⟨Brt,Arm K⟩
def B22 (K:Nat):=xF Brt [(123,Bvq K),(124,Brp K),(125,Brs K)] [] 77 [10,11,14,15,16,20,21,22,38,39,59,60,67,68,69] [] [] [] [.tmp 4]
theorem Bjf (K:Nat):OkF 56 (Bje K):=
 Aa6 (x:=B22 K) (L:=[]) (c0:=bd Tryz.f56) (xkF (gC (Brd K) (gC (Bv0 K) (gC (Bv1 K) gN))) oN) (by intro a0 a1;show @Eq _ _ _;kernel_rfl) kN Tryz.func56 trivial
def Aud (K:Nat)(a0:A9)(a1:Er):Option (Bool):=((Arm K a1 a0).bind fun r1=>some (!r1))
def Bru:Sig:=⟨[.v 89,.r 25],[.v 4],true⟩
def Brv (K:Nat):Gb tyU:=⟨Bru,Aud K⟩
def B23 (K:Nat):=xF Bru [(56,Bje K)] [] 8 [] [] [] [] [.tmp 3]
theorem Bv2 (K:Nat):OkF 241 (Brv K):=
 Aa6 (x:=B23 K) (L:=[]) (c0:=bd Tryz.f241) (xkF (gC (Bjf K) gN) oN) (by intro a0 a1;show @Eq _ _ _;kernel_rfl) kN Tryz.func241 trivial
def Ae9 (K:Nat)(a0:List A9)(a1_0:Er):Nat->Int->Int->Option (Int)
 |0,_,_=>none
 |n1+1,v1,v2=>(bif (decide (v2<v1))then(if(0:Int)≤v2∧v2<(a0.length:Int)then((Aud K (gt a0 v2) a1_0).bind fun r3=>(bif r3 then some v2 else(Ae9 K a0 a1_0 n1 v1 (Aoa .i64 v2 1))))else none)else some (-1))
def An1 (K:Nat)(a0:List A9)(a1_0:Er):Option (Int):=(Ae9 K a0 a1_0 K (a0.length:Int) 0)
def s_106:Sig:=⟨[.v 41,.f 241 [] [25]],[.v 3],true⟩
def Brw (K:Nat):Gb tyU:=⟨s_106,An1 K⟩
def Bjg (K:Nat):=xF s_106 [(241,Brv K)] [] 19 [] [] [] [] [.tmp 4]
def A46:E5:=⟨[(0,.v 41),(1,.f 241 [] [25]),(7,.v 2),(8,.v 2)],[]⟩
def A47 (K:Nat)(n:Nat)(q:PT A46):Rt s_106:=Ae9 K q.1 q.2.1 n q.2.2.1 q.2.2.2.1
theorem Bjh (K:Nat):AtL (Bjg K) (fun n=>[]) [] (bd Tryz.f122) 26 (A47 K):=fun n q=>by kernel_rfl
theorem Bji (K:Nat):XF [.tmp 4] s_106 19 [] (Bjg K):=xkF (gC (Bv2 K) gN) oN
theorem Bjj (K:Nat)(n:Nat):CF [.tmp 4] s_106 19 [] (bd Tryz.f122) [] 26 (ar A46 (A47 K n)):=
 Aei (Bji K) (Bjh K) (fun n=>kN) n
theorem Bv3 (K:Nat):OkF 122 (Brw K):=
 Aa6 (x:=Bjg K) (L:=[(26,ar A46 (A47 K K))]) (c0:=bd Tryz.f122) (Bji K) (by intro a0 a1_0;show @Eq _ _ _;kernel_rfl) (kC (Bjj K K) kN) Tryz.func122 trivial
def Aiq (K:Nat)(a0:List A9)(a1_0:Er):Option (Bool):=((An1 K a0 a1_0).bind fun r1=>some (decide (r1≥0)))
def Brx:Sig:=⟨[.v 41,.f 241 [] [25]],[.v 4],true⟩
def Bry (K:Nat):Gb tyU:=⟨Brx,Aiq K⟩
def B24 (K:Nat):=xF Brx [(122,Brw K)] [] 9 [] [] [] [] [.tmp 4]
theorem Bv4 (K:Nat):OkF 54 (Bry K):=
 Aa6 (x:=B24 K) (L:=[]) (c0:=bd Tryz.f54) (xkF (gC (Bv3 K) gN) oN) (by intro a0 a1_0;show @Eq _ _ _;kernel_rfl) kN Tryz.func54 trivial
def Ap1 (K:Nat)(a0:Er)(v19:List A9)(v20:List Int):Option (Bool):=(bif (decide ((v19.length:Int)≤12))then(bif (decide ((v20.length:Int)≤6))then((Aqt K v20).bind fun r25=>(bif r25 then((Aiq K v19 a0).bind fun r26=>some (!r26))else some false))else some false)else some false)
def Aph (K:Nat)(a0:Er):Nat->(List Int)->Int->Int->Int->Int->Int->Int->Int->Int->Int->Int->(List Int)->Int->Int->(List A9)->(List Int)->Option (Bool)
 |0,_,_,_,_,_,_,_,_,_,_,_,_,_,_,_,_=>none
 |n1+1,v5,v6,v7,v8,v9,v10,v11,v12,v13,v14,v15,v16,v17,v18,v19,v20=>(bif (decide (v7<v6))then(if(0:Int)≤v7∧v7<(v5.length:Int)then((Ac1 K (gt v5 v7) 0 a0.C0).bind fun r21=>(bif (!r21)then some false else(Aph K a0 n1 v5 v6 (Aoa .i64 v7 1) v8 v9 v10 v11 v12 v13 v14 v15 v16 v17 v18 v19 v20)))else none)else(bif (decide (v10<0))then some false else(bif (decide (v12<0))then some false else((Ar8 K a0 v16).bind fun r22=>(bif r22 then(bif (v17 != 0)then((Ang K v16 (Aob .i64 v17 1)).bind fun r23=>(bif r23 then((Ac1 K v18 0 a0.Eg).bind fun r24=>(bif r24 then(bif (v17==0)then(bif (v18 != 0)then some false else(Ap1 K a0 v19 v20))else(Ap1 K a0 v19 v20))else some false))else some false))else((Ac1 K v18 0 a0.Eg).bind fun r27=>(bif r27 then(bif (v17==0)then(bif (v18 != 0)then some false else(Ap1 K a0 v19 v20))else(Ap1 K a0 v19 v20))else some false)))else some false)))))
def Awg (K:Nat)(a0:Er)(a1:Ba):Option (Bool):=((Ase K a0).bind fun r1=>(bif r1 then((Ac1 K a1.Hh 0 3).bind fun r2=>(bif r2 then((Ac1 K a1.C2 1 a0.Eh).bind fun r3=>(bif (!r3)then some false else(bif (a1.Hh != 1)then((Aya K a1).bind fun r4=>some r4)else(Aph K a0 K ([a1.fUp,a1.Bt,a1.Gr,a1.Gs]:List Int) (([a1.fUp,a1.Bt,a1.Gr,a1.Gs]:List Int).length:Int) 0 a1.Hh a1.C2 a1.Ly a1.fUp a1.Gq a1.Bt a1.Gr a1.Gs a1.Ae a1.Pq a1.Gt a1.Ea a1.Dg))))else some false))else some false))
def s_108:Sig:=⟨[.v 25,.v 44],[.v 4],true⟩
def Brz (K:Nat):Gb tyU:=⟨s_108,Awg K⟩
def Beh (K:Nat):=xF s_108 [(54,Bry K),(57,Bpq K),(88,A45 K),(157,Beg K),(198,Bi8 K),(239,B2l K),(240,Bvx K)] [] 118 [8,9,10,13,14,15,16,51,52,55,56,57,61,62,63,64,67,68,74,75,76,77,78,83,84,85,86,89,90,99,100,104,105,106,109,110,111] [(13,[.frzB 102 25])] [] [31] [.tmp 4]
def A48:E5:=⟨[(2,.p 102),(3,.p 103)],[(103,.box [.v 2,.v 2,.v 2,.v 2,.v 2,.v 2,.v 2,.v 2,.v 26,.v 2,.v 2,.v 41,.v 26]),(102,.st 25 true)]⟩
def A2u:E5:=⟨[(2,.p 102),(3,.p 103),(37,.v 26),(38,.v 2),(39,.v 2)],[(103,.box [.v 2,.v 2,.v 2,.v 2,.v 2,.v 2,.v 2,.v 2,.v 26,.v 2,.v 2,.v 41,.v 26]),(102,.st 25 true)]⟩
def A49 (K:Nat)(q:PT A48):Rt s_108:=Ap1 K q.2.2.2.2.2.2.2.2.2.2.2.2.2.1 q.2.2.2.2.2.2.2.2.2.2.2.1 q.2.2.2.2.2.2.2.2.2.2.2.2.1
def A2v (K:Nat)(n:Nat)(q:PT A2u):Rt s_108:=Aph K q.2.2.2.2.2.2.2.2.2.2.2.2.2.2.2.2.1 n q.1 q.2.1 q.2.2.1 q.2.2.2.1 q.2.2.2.2.1 q.2.2.2.2.2.1 q.2.2.2.2.2.2.1 q.2.2.2.2.2.2.2.1 q.2.2.2.2.2.2.2.2.1 q.2.2.2.2.2.2.2.2.2.1 q.2.2.2.2.2.2.2.2.2.2.1 q.2.2.2.2.2.2.2.2.2.2.2.1 q.2.2.2.2.2.2.2.2.2.2.2.2.1 q.2.2.2.2.2.2.2.2.2.2.2.2.2.1 q.2.2.2.2.2.2.2.2.2.2.2.2.2.2.1 q.2.2.2.2.2.2.2.2.2.2.2.2.2.2.2.1
theorem Bjk (K:Nat):AtJ (Beh K) [] [] (bd Tryz.f167) 31 (A49 K):=fun q=>by kernel_rfl
theorem Bfp (K:Nat):AtL (Beh K) (fun n=>[(31,ar A48 (A49 K))]) [] (bd Tryz.f167) 122 (A2v K):=fun n q=>by kernel_rfl
theorem Bct (K:Nat):XF [.tmp 4] s_108 118 [31] (Beh K):=xkF (gC (Bv4 K) (gC (Bjb K) (gC (A0r K) (gC (Bcs K) (gC (Bee K) (gC (B2m K) (gC (Brl K) gN))))))) oN
theorem Bjl (K:Nat):CF [.tmp 4] s_108 118 [31] (bd Tryz.f167) [] 31 (ar A48 (A49 K)):=
 Ala (Bct K) (Bjk K) kN
theorem Bfq (K:Nat)(n:Nat):CF [.tmp 4] s_108 118 [31] (bd Tryz.f167) [] 122 (ar A2u (A2v K n)):=
 Aei (Bct K) (Bfp K) (fun n=>(kC (Ao2 (by kernel_rfl) (Bjl K)) kN)) n
theorem Bv5 (K:Nat):OkF 167 (Brz K):=
 Aa6 (x:=Beh K) (L:=[(122,ar A2u (A2v K K))]) (c0:=bd Tryz.f167) (Bct K) (by intro a0 a1;show @Eq _ _ _;kernel_rfl) (kC (Bfq K K) kN) Tryz.func167 trivial
def Arn (K:Nat)(v2:Int)(v3:Int)(v4:List Int)(v5:List Int)(v6:List Int)(C1:(List Int)->Int->Int->(List Int)->(List Int)->(List Int)->Option ((List Int)))(v7:List Int):Option ((List Int)):=(C1 v7 v2 (Aoa .i64 v3 1) v4 v5 v6)
def Al3 (K:Nat)(a1:Int):Nat->(List Int)->Int->Int->(List Int)->(List Int)->(List Int)->Option ((List Int))
 |0,_,_,_,_,_,_=>none
 |n1+1,v1,v2,v3,v4,v5,v6=>(bif (decide (v3<v2))then(if(0:Int)≤v3∧v3<(v5.length:Int)then(bif ((gt v5 v3)==1)then(if(0:Int)≤v3∧v3<(v6.length:Int)then(bif ((gt v6 v3)==a1)then(if(v1++([v3]:List Int)).length*8≤140737488355328∧(v1++([v3]:List Int)).length≤maxLen then(Arn K v2 v3 v4 v5 v6 (Al3 K a1 n1) (v1++([v3]:List Int)))else none)else(Arn K v2 v3 v4 v5 v6 (Al3 K a1 n1) v1))else none)else(Arn K v2 v3 v4 v5 v6 (Al3 K a1 n1) v1))else none)else some v1)
def Avd (K:Nat)(a0:Dw)(a1:Int):Option ((List Int)):=(Al3 K a1 K ([]:List Int) (Aaf (a0.Hh.length:Int) (a0.Fz.length:Int)) 0 a0.Fy a0.Hh a0.Fz)
def s_109:Sig:=⟨[.v 28,.v 3],[.n 26 true],true⟩
def Br0 (K:Nat):Gb tyU:=⟨s_109,Avd K⟩
def Bei (K:Nat):=xF s_109 [] [] 39 [23,24] [] [] [467] [.tmp 4]
def A2w:E5:=⟨[(1,.v 2),(2,.p 102),(5,.o 1005 3 true),(14,.v 2),(15,.v 2)],[(102,.box [.v 22,.v 26,.v 26])]⟩
def Awt:E5:=⟨[(1,.v 2),(2,.p 102),(5,.o 1005 3 true),(14,.v 2),(15,.v 2)],[(102,.box [.v 22,.v 26,.v 26])]⟩
def A2x (K:Nat)(C58:CT Awt s_109)(q:PT A2w):Rt s_109:=Arn K q.2.2.1 q.2.2.2.1 q.2.2.2.2.1 q.2.2.2.2.2.1 q.2.2.2.2.2.2.1 (fun v1 v2 v3 v4 v5 v6=>C58 (q.1,v1,v2,v3,v4,v5,v6,())) q.2.1
def Azu (K:Nat)(n:Nat)(q:PT Awt):Rt s_109:=Al3 K q.1 n q.2.1 q.2.2.1 q.2.2.2.1 q.2.2.2.2.1 q.2.2.2.2.2.1 q.2.2.2.2.2.2.1
theorem Bfr (K:Nat)(C58:CT Awt s_109):AtJ (Bei K) [] [(58,ar Awt C58)] (bd Tryz.f16) 467 (A2x K C58):=fun q=>by kernel_rfl
theorem Bjm (K:Nat):AtL (Bei K) (fun n=>[(467,ar A2w (A2x K (Azu K n)))]) [] (bd Tryz.f16) 58 (Azu K):=fun n q=>by kernel_rfl
theorem Bcu (K:Nat):XF [.tmp 4] s_109 39 [467] (Bei K):=xkF gN oN
theorem Bfs (K:Nat)(C58:CT Awt s_109):CF [.tmp 4] s_109 39 [467] (bd Tryz.f16) [(58,ar Awt C58)] 467 (ar A2w (A2x K C58)):=
 Ala (Bcu K) (Bfr K C58) kN
theorem Bjn (K:Nat)(n:Nat):CF [.tmp 4] s_109 39 [467] (bd Tryz.f16) [] 58 (ar Awt (Azu K n)):=
 Aei (Bcu K) (Bjm K) (fun n=>(kC (Bfs K (Azu K n)) kN)) n
theorem Bv6 (K:Nat):OkF 16 (Br0 K):=
 Aa6 (x:=Bei K) (L:=[(58,ar Awt (Azu K K))]) (c0:=bd Tryz.f16) (Bcu K) (by intro a0 a1;show @Eq _ _ _;kernel_rfl) (kC (Bjn K K) kN) Tryz.func16 trivial
def Al7 (K:Nat)(a0:A9)(a1:Er)(a2:Ba):Nat->Int->Option (Bool)
 |0,_=>none
 |n1+1,v2=>(if a1.Eg≠(0:Int)then(bif (decide (v2≤(Alr .i64 (Aob .i64 (Aoa .i64 a0.fAt a0.Vu) 1) a1.Eg)))then((Ang K a2.Ae v2).bind fun r3=>(bif (!r3)then some true else(Al7 K a0 a1 a2 n1 (Aoa .i64 v2 1))))else some false)else none)
def Aq0 (K:Nat)(a0:A9)(a1:Er)(a2:Ba):Option (Bool):=((Arm K a1 a0).bind fun r1=>(bif (!r1)then some true else(if a1.Eg≠(0:Int)then(Al7 K a0 a1 a2 K (Alr .i64 a0.fAt a1.Eg))else none)))
def s_110:Sig:=⟨[.v 89,.r 25,.r 44],[.v 4],true⟩
def Br1 (K:Nat):Gb tyU:=⟨s_110,Aq0 K⟩
def Bjo (K:Nat):=xF s_110 [(56,Bje K),(57,Bpq K)] [] 33 [] [] [] [] [.tmp 4]
def A5a:E5:=⟨[(1,.r 25),(2,.r 44),(3,.p 103),(5,.v 2)],[(103,.st 89 true)]⟩
def A5b (K:Nat)(n:Nat)(q:PT A5a):Rt s_110:=Al7 K q.2.2.2.1 q.1 q.2.1 n q.2.2.1
theorem Bjp (K:Nat):AtL (Bjo K) (fun n=>[]) [] (bd Tryz.f55) 58 (A5b K):=fun n q=>by kernel_rfl
theorem Bjq (K:Nat):XF [.tmp 4] s_110 33 [] (Bjo K):=xkF (gC (Bjf K) (gC (Bjb K) gN)) oN
theorem Bjr (K:Nat)(n:Nat):CF [.tmp 4] s_110 33 [] (bd Tryz.f55) [] 58 (ar A5a (A5b K n)):=
 Aei (Bjq K) (Bjp K) (fun n=>kN) n
theorem Bv7 (K:Nat):OkF 55 (Br1 K):=
 Aa6 (x:=Bjo K) (L:=[(58,ar A5a (A5b K K))]) (c0:=bd Tryz.f55) (Bjq K) (by intro a0 a1 a2;show @Eq _ _ _;kernel_rfl) (kC (Bjr K K) kN) Tryz.func55 trivial
def Ael (K:Nat)(a0:List A9)(a1_0:Er)(a1_1:Ba):Nat->Int->Int->Option (Int)
 |0,_,_=>none
 |n1+1,v1,v2=>(bif (decide (v2<v1))then(if(0:Int)≤v2∧v2<(a0.length:Int)then((Aq0 K (gt a0 v2) a1_0 a1_1).bind fun r3=>(bif r3 then some v2 else(Ael K a0 a1_0 a1_1 n1 v1 (Aoa .i64 v2 1))))else none)else some (-1))
def Anh (K:Nat)(a0:List A9)(a1_0:Er)(a1_1:Ba):Option (Int):=(Ael K a0 a1_0 a1_1 K (a0.length:Int) 0)
def s_111:Sig:=⟨[.v 41,.f 55 [] [25,44]],[.v 3],true⟩
def Br2 (K:Nat):Gb tyU:=⟨s_111,Anh K⟩
def Bjs (K:Nat):=xF s_111 [(55,Br1 K)] [] 19 [] [] [] [] [.tmp 4]
def A5c:E5:=⟨[(0,.v 41),(1,.f 55 [] [25,44]),(7,.v 2),(8,.v 2)],[]⟩
def A5d (K:Nat)(n:Nat)(q:PT A5c):Rt s_111:=Ael K q.1 q.2.1 q.2.2.1 n q.2.2.2.1 q.2.2.2.2.1
theorem Bjt (K:Nat):AtL (Bjs K) (fun n=>[]) [] (bd Tryz.f122) 26 (A5d K):=fun n q=>by kernel_rfl
theorem Bju (K:Nat):XF [.tmp 4] s_111 19 [] (Bjs K):=xkF (gC (Bv7 K) gN) oN
theorem Bjv (K:Nat)(n:Nat):CF [.tmp 4] s_111 19 [] (bd Tryz.f122) [] 26 (ar A5c (A5d K n)):=
 Aei (Bju K) (Bjt K) (fun n=>kN) n
theorem Bv8 (K:Nat):OkF 122 (Br2 K):=
 Aa6 (x:=Bjs K) (L:=[(26,ar A5c (A5d K K))]) (c0:=bd Tryz.f122) (Bju K) (by intro a0 a1_0 a1_1;show @Eq _ _ _;kernel_rfl) (kC (Bjv K K) kN) Tryz.func122 trivial
def Ahd (K:Nat)(a0:List A9)(a1_0:Er)(a1_1:Ba):Option (Bool):=((Anh K a0 a1_0 a1_1).bind fun r1=>some (decide (r1≥0)))
def Br3:Sig:=⟨[.v 41,.f 55 [] [25,44]],[.v 4],true⟩
def Br4 (K:Nat):Gb tyU:=⟨Br3,Ahd K⟩
def B25 (K:Nat):=xF Br3 [(122,Br2 K)] [] 9 [] [] [] [] [.tmp 4]
theorem Bv9 (K:Nat):OkF 54 (Br4 K):=
 Aa6 (x:=B25 K) (L:=[]) (c0:=bd Tryz.f54) (xkF (gC (Bv8 K) gN) oN) (by intro a0 a1_0 a1_1;show @Eq _ _ _;kernel_rfl) kN Tryz.func54 trivial
def Aue (K:Nat)(a0:Er)(a1:Ba):Option (Bool):=((Ahd K a1.Ea a0 a1).bind fun r1=>some (!r1))
def Br5:Sig:=⟨[.v 25,.v 44],[.v 4],true⟩
def Br6 (K:Nat):Gb tyU:=⟨Br5,Aue K⟩
def B26 (K:Nat):=xF Br5 [(54,Br4 K)] [] 10 [] [(1,[.frzB 102 25,.frzB 103 44])] [] [] [.tmp 4]
theorem Bwa (K:Nat):OkF 15 (Br6 K):=
 Aa6 (x:=B26 K) (L:=[]) (c0:=bd Tryz.f15) (xkF (gC (Bv9 K) gN) oN) (by intro a0 a1;show @Eq _ _ _;kernel_rfl) kN Tryz.func15 trivial
def Ave (K:Nat)(v1:A9)(v2:A9):Option (Bool):=some (decide ((Aob .u64 (IntKind.u64.wrap v1.fAt) (IntKind.u64.wrap v2.fAt))≥(IntKind.u64.wrap v2.Vu)))
def Avf (K:Nat)(a0:A9)(a1:A9):Option (Bool):=(bif (decide (a0.Vu≤0))then some true else(bif (decide (a1.Vu≤0))then some true else(bif (decide (a0.fAt>a1.fAt))then(Ave K a0 a1)else(Ave K a1 a0))))
def s_114:Sig:=⟨[.v 89,.v 89],[.v 4],true⟩
def Bjw (K:Nat):Gb tyU:=⟨s_114,Avf K⟩
def Bjx (K:Nat):=xF s_114 [] [] 31 [7,8] [] [] [7] [.tmp 4]
def A9y:E5:=⟨[(2,.p 102),(3,.p 103)],[(103,.st 89 true),(102,.st 89 true)]⟩
def A9z (K:Nat)(q:PT A9y):Rt s_114:=Ave K q.1 q.2.1
theorem Bpv (K:Nat):AtJ (Bjx K) [] [] (bd Tryz.f59) 7 (A9z K):=fun q=>by kernel_rfl
theorem Bjy (K:Nat):XF [.tmp 4] s_114 31 [7] (Bjx K):=xkF gN oN
theorem Bpw (K:Nat):CF [.tmp 4] s_114 31 [7] (bd Tryz.f59) [] 7 (ar A9y (A9z K)):=
 Ala (Bjy K) (Bpv K) kN
theorem Bjz (K:Nat):OkF 59 (Bjw K):=
 Aa6 (x:=Bjx K) (L:=[(7,ar A9y (A9z K))]) (c0:=bd Tryz.f59) (Bjy K) (by intro a0 a1;show @Eq _ _ _;kernel_rfl) (kC (Bpw K) kN) Tryz.func59 trivial
def Asr (K:Nat)(a0:A9)(a1:A9):Option (Bool):=((Avf K a0 a1).bind fun r1=>some (!r1))
def Br7:Sig:=⟨[.v 89,.r 89],[.v 4],true⟩
def Br8 (K:Nat):Gb tyU:=⟨Br7,Asr K⟩
def B27 (K:Nat):=xF Br7 [(59,Bjw K)] [] 8 [] [] [] [] [.tmp 3]
theorem Bwb (K:Nat):OkF 58 (Br8 K):=
 Aa6 (x:=B27 K) (L:=[]) (c0:=bd Tryz.f58) (xkF (gC (Bjz K) gN) oN) (by intro a0 a1;show @Eq _ _ _;kernel_rfl) kN Tryz.func58 trivial
def Aem (K:Nat)(a0:List A9)(a1_0:A9):Nat->Int->Int->Option (Int)
 |0,_,_=>none
 |n1+1,v1,v2=>(bif (decide (v2<v1))then(if(0:Int)≤v2∧v2<(a0.length:Int)then((Asr K (gt a0 v2) a1_0).bind fun r3=>(bif r3 then some v2 else(Aem K a0 a1_0 n1 v1 (Aoa .i64 v2 1))))else none)else some (-1))
def Ani (K:Nat)(a0:List A9)(a1_0:A9):Option (Int):=(Aem K a0 a1_0 K (a0.length:Int) 0)
def s_116:Sig:=⟨[.v 41,.f 58 [] [89]],[.v 3],true⟩
def Br9 (K:Nat):Gb tyU:=⟨s_116,Ani K⟩
def Bj0 (K:Nat):=xF s_116 [(58,Br8 K)] [] 19 [] [] [] [] [.tmp 4]
def A5e:E5:=⟨[(0,.v 41),(1,.f 58 [] [89]),(7,.v 2),(8,.v 2)],[]⟩
def A5f (K:Nat)(n:Nat)(q:PT A5e):Rt s_116:=Aem K q.1 q.2.1 n q.2.2.1 q.2.2.2.1
theorem Bj1 (K:Nat):AtL (Bj0 K) (fun n=>[]) [] (bd Tryz.f122) 26 (A5f K):=fun n q=>by kernel_rfl
theorem Bj2 (K:Nat):XF [.tmp 4] s_116 19 [] (Bj0 K):=xkF (gC (Bwb K) gN) oN
theorem Bj3 (K:Nat)(n:Nat):CF [.tmp 4] s_116 19 [] (bd Tryz.f122) [] 26 (ar A5e (A5f K n)):=
 Aei (Bj2 K) (Bj1 K) (fun n=>kN) n
theorem Bwc (K:Nat):OkF 122 (Br9 K):=
 Aa6 (x:=Bj0 K) (L:=[(26,ar A5e (A5f K K))]) (c0:=bd Tryz.f122) (Bj2 K) (by intro a0 a1_0;show @Eq _ _ _;kernel_rfl) (kC (Bj3 K K) kN) Tryz.func122 trivial
def Ahe (K:Nat)(a0:List A9)(a1_0:A9):Option (Bool):=((Ani K a0 a1_0).bind fun r1=>some (decide (r1≥0)))
def Bsa:Sig:=⟨[.v 41,.f 58 [] [89]],[.v 4],true⟩
def Bsb (K:Nat):Gb tyU:=⟨Bsa,Ahe K⟩
def B28 (K:Nat):=xF Bsa [(122,Br9 K)] [] 9 [] [] [] [] [.tmp 4]
theorem Bwd (K:Nat):OkF 54 (Bsb K):=
 Aa6 (x:=B28 K) (L:=[]) (c0:=bd Tryz.f54) (xkF (gC (Bwc K) gN) oN) (by intro a0 a1_0;show @Eq _ _ _;kernel_rfl) kN Tryz.func54 trivial
def Ao3 (K:Nat)(a0:List A9):Nat->(List A9)->Int->Int->Option (Bool)
 |0,_,_,_=>none
 |n1+1,v1,v2,v3=>(bif (decide (v3<v2))then(if(0:Int)≤v3∧v3<(v1.length:Int)then(if(0:Int)≤0∧0≤v3∧v3≤(a0.length:Int)then((Ahe K ((a0.drop (0:Int).toNat).take (v3 - 0).toNat) (gt v1 v3)).bind fun r4=>(bif r4 then some false else(Ao3 K a0 n1 v1 v2 (Aoa .i64 v3 1))))else none)else none)else some true)
def Auf (K:Nat)(a0:List A9):Option (Bool):=(Ao3 K a0 K a0 (a0.length:Int) 0)
def s_118:Sig:=⟨[.v 41],[.v 4],true⟩
def Bsc (K:Nat):Gb tyU:=⟨s_118,Auf K⟩
def Bj4 (K:Nat):=xF s_118 [(54,Bsb K)] [] 18 [] [(4,[.frzB 104 89])] [] [] [.tmp 2]
def A5g:E5:=⟨[(0,.v 41),(5,.v 41),(6,.v 2),(7,.v 2)],[]⟩
def A5h (K:Nat)(n:Nat)(q:PT A5g):Rt s_118:=Ao3 K q.1 n q.2.1 q.2.2.1 q.2.2.2.1
theorem Bj5 (K:Nat):AtL (Bj4 K) (fun n=>[]) [] (bd Tryz.f17) 26 (A5h K):=fun n q=>by kernel_rfl
theorem Bj6 (K:Nat):XF [.tmp 2] s_118 18 [] (Bj4 K):=xkF (gC (Bwd K) gN) oN
theorem Bj7 (K:Nat)(n:Nat):CF [.tmp 2] s_118 18 [] (bd Tryz.f17) [] 26 (ar A5g (A5h K n)):=
 Aei (Bj6 K) (Bj5 K) (fun n=>kN) n
theorem Bwe (K:Nat):OkF 17 (Bsc K):=
 Aa6 (x:=Bj4 K) (L:=[(26,ar A5g (A5h K K))]) (c0:=bd Tryz.f17) (Bj6 K) (by intro a0;show @Eq _ _ _;kernel_rfl) (kC (Bj7 K K) kN) Tryz.func17 trivial
def Ap5 (K:Nat)(a0:A9)(a1:A9):Option (Bool):=((Avf K a0 a1).bind fun r1=>some (!r1))
def Bsd:Sig:=⟨[.v 89,.r 89],[.v 4],true⟩
def Bse (K:Nat):Gb tyU:=⟨Bsd,Ap5 K⟩
def B29 (K:Nat):=xF Bsd [(59,Bjw K)] [] 8 [] [] [] [] [.tmp 3]
theorem Bwf (K:Nat):OkF 230 (Bse K):=
 Aa6 (x:=B29 K) (L:=[]) (c0:=bd Tryz.f230) (xkF (gC (Bjz K) gN) oN) (by intro a0 a1;show @Eq _ _ _;kernel_rfl) kN Tryz.func230 trivial
def Aeh (K:Nat)(a0:List A9)(a1_0:A9):Nat->Int->Int->Option (Int)
 |0,_,_=>none
 |n1+1,v1,v2=>(bif (decide (v2<v1))then(if(0:Int)≤v2∧v2<(a0.length:Int)then((Ap5 K (gt a0 v2) a1_0).bind fun r3=>(bif r3 then some v2 else(Aeh K a0 a1_0 n1 v1 (Aoa .i64 v2 1))))else none)else some (-1))
def Alg (K:Nat)(a0:List A9)(a1_0:A9):Option (Int):=(Aeh K a0 a1_0 K (a0.length:Int) 0)
def s_120:Sig:=⟨[.v 41,.f 230 [] [89]],[.v 3],true⟩
def Bsf (K:Nat):Gb tyU:=⟨s_120,Alg K⟩
def Bj8 (K:Nat):=xF s_120 [(230,Bse K)] [] 19 [] [] [] [] [.tmp 4]
def A5i:E5:=⟨[(0,.v 41),(1,.f 230 [] [89]),(7,.v 2),(8,.v 2)],[]⟩
def A5j (K:Nat)(n:Nat)(q:PT A5i):Rt s_120:=Aeh K q.1 q.2.1 n q.2.2.1 q.2.2.2.1
theorem Bj9 (K:Nat):AtL (Bj8 K) (fun n=>[]) [] (bd Tryz.f122) 26 (A5j K):=fun n q=>by kernel_rfl
theorem Bka (K:Nat):XF [.tmp 4] s_120 19 [] (Bj8 K):=xkF (gC (Bwf K) gN) oN
theorem Bkb (K:Nat)(n:Nat):CF [.tmp 4] s_120 19 [] (bd Tryz.f122) [] 26 (ar A5i (A5j K n)):=
 Aei (Bka K) (Bj9 K) (fun n=>kN) n
theorem Bwg (K:Nat):OkF 122 (Bsf K):=
 Aa6 (x:=Bj8 K) (L:=[(26,ar A5i (A5j K K))]) (c0:=bd Tryz.f122) (Bka K) (by intro a0 a1_0;show @Eq _ _ _;kernel_rfl) (kC (Bkb K K) kN) Tryz.func122 trivial
def Ag2 (K:Nat)(a0:List A9)(a1_0:A9):Option (Bool):=((Alg K a0 a1_0).bind fun r1=>some (decide (r1≥0)))
def Bsg:Sig:=⟨[.v 41,.f 230 [] [89]],[.v 4],true⟩
def Bsh (K:Nat):Gb tyU:=⟨Bsg,Ag2 K⟩
def B3a (K:Nat):=xF Bsg [(122,Bsf K)] [] 9 [] [] [] [] [.tmp 4]
theorem Bwh (K:Nat):OkF 54 (Bsh K):=
 Aa6 (x:=B3a K) (L:=[]) (c0:=bd Tryz.f54) (xkF (gC (Bwg K) gN) oN) (by intro a0 a1_0;show @Eq _ _ _;kernel_rfl) kN Tryz.func54 trivial
def Ap6 (K:Nat)(v1:List Ba)(v2:Int)(v3:Int)(v4:Int)(v5:Int)(v6:Int)(v7:Int)(v8:Int)(v9:Int)(v10:List Int)(v11:List Int)(v12:List Int)(v13:List Ba)(v14:List Ax)(v15:List Int)(C1:(List Ba)->Int->Int->Int->Int->Int->Int->Int->Int->(List Int)->(List Int)->(List Int)->(List Ba)->(List Ax)->(List Int)->Option (Bool)):Option (Bool):=(C1 v1 v2 (Aoa .i64 v3 1) v4 v5 v6 v7 v8 v9 v10 v11 v12 v13 v14 v15)
def Ahl (K:Nat):Nat->(List Ba)->Int->Int->Int->Int->Int->Int->Int->Int->(List Int)->(List Int)->(List Int)->(List Ba)->(List Ax)->(List Int)->Option (Bool)
 |0,_,_,_,_,_,_,_,_,_,_,_,_,_,_,_=>none
 |n1+1,v1,v2,v3,v4,v5,v6,v7,v8,v9,v10,v11,v12,v13,v14,v15=>(bif (decide (v3<v2))then(if(0:Int)≤v3∧v3<(v1.length:Int)then((Aen K ((gt v1 v3).Ae)).bind fun r16=>((Eu K r16).bind fun r17=>(if r17.length=r16.length then((Awg K (Er.mk v4 v5 v6 v7 v8 v9) (gt v1 v3)).bind fun r18=>(bif r18 then((Avd K (Dw.mk v10 v11 v12) v3).bind fun r19=>((Ai3 K r17 r19).bind fun r20=>(bif r20 then((Aue K (Er.mk v4 v5 v6 v7 v8 v9) (gt v1 v3)).bind fun r21=>(bif r21 then((Auf K ((gt v1 v3).Ea)).bind fun r22=>(bif (!r22)then some false else(bif (((gt v1 v3).Pq)==0)then(Ap6 K v1 v2 v3 v4 v5 v6 v7 v8 v9 v10 v11 v12 v13 v14 v15 (Ahl K n1))else(if(0:Int)≤((A9.mk (Aoa .i64 (Aoc .i64 (Aob .i64 ((gt v1 v3).Pq) 1) v5) ((gt v1 v3).Gt)) (Aob .i64 v5 ((gt v1 v3).Gt)) 0).fAt)∧((A9.mk (Aoa .i64 (Aoc .i64 (Aob .i64 ((gt v1 v3).Pq) 1) v5) ((gt v1 v3).Gt)) (Aob .i64 v5 ((gt v1 v3).Gt)) 0).fAt)≤(Aoa .i64 ((A9.mk (Aoa .i64 (Aoc .i64 (Aob .i64 ((gt v1 v3).Pq) 1) v5) ((gt v1 v3).Gt)) (Aob .i64 v5 ((gt v1 v3).Gt)) 0).fAt) ((A9.mk (Aoa .i64 (Aoc .i64 (Aob .i64 ((gt v1 v3).Pq) 1) v5) ((gt v1 v3).Gt)) (Aob .i64 v5 ((gt v1 v3).Gt)) 0).Vu))∧(Aoa .i64 ((A9.mk (Aoa .i64 (Aoc .i64 (Aob .i64 ((gt v1 v3).Pq) 1) v5) ((gt v1 v3).Gt)) (Aob .i64 v5 ((gt v1 v3).Gt)) 0).fAt) ((A9.mk (Aoa .i64 (Aoc .i64 (Aob .i64 ((gt v1 v3).Pq) 1) v5) ((gt v1 v3).Gt)) (Aob .i64 v5 ((gt v1 v3).Gt)) 0).Vu))≤(v10.length:Int)then((Asf K ((v10.drop ((A9.mk (Aoa .i64 (Aoc .i64 (Aob .i64 ((gt v1 v3).Pq) 1) v5) ((gt v1 v3).Gt)) (Aob .i64 v5 ((gt v1 v3).Gt)) 0).fAt).toNat).take ((Aoa .i64 ((A9.mk (Aoa .i64 (Aoc .i64 (Aob .i64 ((gt v1 v3).Pq) 1) v5) ((gt v1 v3).Gt)) (Aob .i64 v5 ((gt v1 v3).Gt)) 0).fAt) ((A9.mk (Aoa .i64 (Aoc .i64 (Aob .i64 ((gt v1 v3).Pq) 1) v5) ((gt v1 v3).Gt)) (Aob .i64 v5 ((gt v1 v3).Gt)) 0).Vu)) - ((A9.mk (Aoa .i64 (Aoc .i64 (Aob .i64 ((gt v1 v3).Pq) 1) v5) ((gt v1 v3).Gt)) (Aob .i64 v5 ((gt v1 v3).Gt)) 0).fAt)).toNat)).bind fun r23=>(bif r23 then((Ag2 K ((gt v1 v3).Ea) (A9.mk (Aoa .i64 (Aoc .i64 (Aob .i64 ((gt v1 v3).Pq) 1) v5) ((gt v1 v3).Gt)) (Aob .i64 v5 ((gt v1 v3).Gt)) 0)).bind fun r24=>(bif r24 then some false else(Ap6 K v1 v2 v3 v4 v5 v6 v7 v8 v9 v10 v11 v12 v13 v14 v15 (Ahl K n1))))else some false))else none))))else some false))else some false)))else some false))else none)))else none)else some true)
def Aq1 (K:Nat)(a0:Eb):Option (Bool):=(Ahl K K a0.fL (a0.fL.length:Int) 0 a0.fC.Ae a0.fC.Eg a0.fC.C0 a0.fC.E9 a0.fC.C1 a0.fC.Eh a0.fP.Fy a0.fP.Hh a0.fP.Fz a0.fL a0.fQ a0.Pr)
def s_122:Sig:=⟨[.v 32],[.v 4],true⟩
def Bsi (K:Nat):Gb tyU:=⟨s_122,Aq1 K⟩
def Bej (K:Nat):=xF s_122 [(15,Br6 K),(16,Br0 K),(17,Bsc K),(54,Bsh K),(160,Bcr K),(167,Brz K),(226,Bph K),(228,Ev K),(229,Bvt K)] [] 87 [23,24,25,31,32,33,34,38,39,40,41,78,79,80] [(10,[.frzB 106 89])] [] [211] [.tmp 2]
def A2y:E5:=⟨[(1,.p 101),(8,.v 29),(9,.v 2),(10,.v 2)],[(101,.box [.v 2,.v 2,.v 2,.v 2,.v 2,.v 2,.v 22,.v 26,.v 26,.v 29,.v 30,.v 26])]⟩
def Awu:E5:=⟨[(1,.p 101),(8,.v 29),(9,.v 2),(10,.v 2)],[(101,.box [.v 2,.v 2,.v 2,.v 2,.v 2,.v 2,.v 22,.v 26,.v 26,.v 29,.v 30,.v 26])]⟩
def A2z (K:Nat)(C26:CT Awu s_122)(q:PT A2y):Rt s_122:=Ap6 K q.1 q.2.1 q.2.2.1 q.2.2.2.1 q.2.2.2.2.1 q.2.2.2.2.2.1 q.2.2.2.2.2.2.1 q.2.2.2.2.2.2.2.1 q.2.2.2.2.2.2.2.2.1 q.2.2.2.2.2.2.2.2.2.1 q.2.2.2.2.2.2.2.2.2.2.1 q.2.2.2.2.2.2.2.2.2.2.2.1 q.2.2.2.2.2.2.2.2.2.2.2.2.1 q.2.2.2.2.2.2.2.2.2.2.2.2.2.1 q.2.2.2.2.2.2.2.2.2.2.2.2.2.2.1 (fun v1 v2 v3 v4 v5 v6 v7 v8 v9 v10 v11 v12 v13 v14 v15=>C26 (v1,v2,v3,v4,v5,v6,v7,v8,v9,v10,v11,v12,v13,v14,v15,()))
def Azv (K:Nat)(n:Nat)(q:PT Awu):Rt s_122:=Ahl K n q.1 q.2.1 q.2.2.1 q.2.2.2.1 q.2.2.2.2.1 q.2.2.2.2.2.1 q.2.2.2.2.2.2.1 q.2.2.2.2.2.2.2.1 q.2.2.2.2.2.2.2.2.1 q.2.2.2.2.2.2.2.2.2.1 q.2.2.2.2.2.2.2.2.2.2.1 q.2.2.2.2.2.2.2.2.2.2.2.1 q.2.2.2.2.2.2.2.2.2.2.2.2.1 q.2.2.2.2.2.2.2.2.2.2.2.2.2.1 q.2.2.2.2.2.2.2.2.2.2.2.2.2.2.1
theorem Bft (K:Nat)(C26:CT Awu s_122):AtJ (Bej K) [] [(26,ar Awu C26)] (bd Tryz.f154) 211 (A2z K C26):=fun q=>by kernel_rfl
theorem Bkc (K:Nat):AtL (Bej K) (fun n=>[(211,ar A2y (A2z K (Azv K n)))]) [] (bd Tryz.f154) 26 (Azv K):=fun n q=>by kernel_rfl
theorem Bcv (K:Nat):XF [.tmp 2] s_122 87 [211] (Bej K):=xkF (gC (Bwa K) (gC (Bv6 K) (gC (Bwe K) (gC (Bwh K) (gC (A7x K) (gC (Bv5 K) (gC (Bi9 K) (gC (V7 K) (gC (Brh K) gN))))))))) oN
theorem Bfu (K:Nat)(C26:CT Awu s_122):CF [.tmp 2] s_122 87 [211] (bd Tryz.f154) [(26,ar Awu C26)] 211 (ar A2y (A2z K C26)):=
 Ala (Bcv K) (Bft K C26) kN
theorem Bkd (K:Nat)(n:Nat):CF [.tmp 2] s_122 87 [211] (bd Tryz.f154) [] 26 (ar Awu (Azv K n)):=
 Aei (Bcv K) (Bkc K) (fun n=>(kC (Bfu K (Azv K n)) kN)) n
theorem Bwi (K:Nat):OkF 154 (Bsi K):=
 Aa6 (x:=Bej K) (L:=[(26,ar Awu (Azv K K))]) (c0:=bd Tryz.f154) (Bcv K) (by intro a0;show @Eq _ _ _;kernel_rfl) (kC (Bkd K K) kN) Tryz.func154 trivial
def Ag9 (K:Nat)(a0:List Ba)(a1:Int):Option (Bool):=((Ac1 K a1 0 (Aob .i64 (a0.length:Int) 1)).bind fun r1=>some r1)
def Bsj:Sig:=⟨[.v 29,.v 3],[.v 4],true⟩
def A0s (K:Nat):Gb tyU:=⟨Bsj,Ag9 K⟩
def B3b (K:Nat):=xF Bsj [(88,A45 K)] [] 10 [] [] [] [] [.tmp 4]
theorem Ay5 (K:Nat):OkF 171 (A0s K):=
 Aa6 (x:=B3b K) (L:=[]) (c0:=bd Tryz.f171) (xkF (gC (A0r K) gN) oN) (by intro a0 a1;show @Eq _ _ _;kernel_rfl) kN Tryz.func171 trivial
def Asg (K:Nat)(a0:List Ba)(a1:Int):Option (Bool):=(bif (a1==0)then some true else((Ag9 K a0 (Aob .i64 a1 1)).bind fun r1=>(bif r1 then(if(0:Int)≤(Aob .i64 a1 1)∧(Aob .i64 a1 1)<(a0.length:Int)then some (((gt a0 (Aob .i64 a1 1)).Hh)==1)else none)else some false)))
def Bsk:Sig:=⟨[.v 29,.v 3],[.v 4],true⟩
def Bsl (K:Nat):Gb tyU:=⟨Bsk,Asg K⟩
def B3c (K:Nat):=xF Bsk [(171,A0s K)] [] 22 [6,7,11,12] [] [] [] [.tmp 4]
theorem Bwj (K:Nat):OkF 271 (Bsl K):=
 Aa6 (x:=B3c K) (L:=[]) (c0:=bd Tryz.f271) (xkF (gC (Ay5 K) gN) oN) (by intro a0 a1;show @Eq _ _ _;kernel_rfl) kN Tryz.func271 trivial
def Aqc (K:Nat)(a0:List Ba)(a1:Int):Option (Bool):=(if(0:Int)≤a1∧a1<(a0.length:Int)then((Ag9 K a0 (Aob .i64 ((gt a0 a1).fUp) 1)).bind fun r1=>(bif r1 then(if(0:Int)≤(Aob .i64 ((gt a0 a1).fUp) 1)∧(Aob .i64 ((gt a0 a1).fUp) 1)<(a0.length:Int)then(bif (((gt a0 (Aob .i64 ((gt a0 a1).fUp) 1)).Hh)==1)then(if(0:Int)≤(Aob .i64 ((gt a0 a1).fUp) 1)∧(Aob .i64 ((gt a0 a1).fUp) 1)<(a0.length:Int)then(if(0:Int)≤a1∧a1<(a0.length:Int)then some (((gt a0 (Aob .i64 ((gt a0 a1).fUp) 1)).Ly)==((gt a0 a1).Gq))else none)else none)else some false)else none)else some false))else none)
def Bsm:Sig:=⟨[.v 29,.v 3],[.v 4],true⟩
def Bek (K:Nat):Gb tyU:=⟨Bsm,Aqc K⟩
def B3d (K:Nat):=xF Bsm [(171,A0s K)] [] 36 [14,15,21,22,23] [] [] [] [.tmp 4]
theorem Bcw (K:Nat):OkF 233 (Bek K):=
 Aa6 (x:=B3d K) (L:=[]) (c0:=bd Tryz.f233) (xkF (gC (Ay5 K) gN) oN) (by intro a0 a1;show @Eq _ _ _;kernel_rfl) kN Tryz.func233 trivial
def Aro (K:Nat)(a0:List Ba)(a1:Int)(v8:Int)(v12:Int):Option (Bool):=(bif (v12 != 0)then some true else((Aqc K a0 a1).bind fun r18=>(bif r18 then(if(0:Int)≤(Aob .i64 v8 1)∧(Aob .i64 v8 1)<(a0.length:Int)then some (((gt a0 (Aob .i64 v8 1)).Bt)==(Aoa .i64 a1 1))else none)else some true)))
def Arp (K:Nat)(a0:List Ba)(a1:Int)(v8:Int)(v12:Int):Option (Bool):=(bif (v12 != 0)then(if(0:Int)≤(Aob .i64 v12 1)∧(Aob .i64 v12 1)<(a0.length:Int)then(bif (((gt a0 (Aob .i64 v12 1)).Gr) != (Aoa .i64 a1 1))then some false else(Aro K a0 a1 v8 v12))else none)else(Aro K a0 a1 v8 v12))
def Arq (K:Nat)(a0:List Ba)(a1:Int)(v8:Int)(v9:Int)(v11:Int)(v12:Int):Option (Bool):=(bif (v11 != 0)then(if(0:Int)≤(Aob .i64 v11 1)∧(Aob .i64 v11 1)<(a0.length:Int)then(bif (((gt a0 (Aob .i64 v11 1)).Gs) != (Aoa .i64 a1 1))then some false else(bif (((gt a0 (Aob .i64 v11 1)).fUp) != v8)then some false else(bif (((gt a0 (Aob .i64 v11 1)).Gq) != v9)then some false else(Arp K a0 a1 v8 v12))))else none)else(Arp K a0 a1 v8 v12))
def Arr (K:Nat)(a0:List Ba)(a1:Int)(v5:Int)(v6:Int)(v7:Int)(v8:Int)(v9:Int)(v10:Int)(v11:Int)(v12:Int)(v13:List Int)(v14:Int)(v15:Int)(v16:List A9)(v17:List Int):Option (Bool):=(bif (v10 != 0)then(if(0:Int)≤(Aob .i64 v10 1)∧(Aob .i64 v10 1)<(a0.length:Int)then(bif (((gt a0 (Aob .i64 v10 1)).Gs) != 0)then some false else(bif (((gt a0 (Aob .i64 v10 1)).fUp) != (Aoa .i64 a1 1))then some false else(bif (((gt a0 (Aob .i64 v10 1)).Gq) != v7)then some false else(Arq K a0 a1 v8 v9 v11 v12))))else none)else(Arq K a0 a1 v8 v9 v11 v12))
def Avg (K:Nat)(a0:List Ba)(a1:Int):Option (Bool):=(if(0:Int)≤a1∧a1<(a0.length:Int)then((Asg K a0 ((gt a0 a1).Bt)).bind fun r1=>(bif r1 then((Asg K a0 ((gt a0 a1).Gr)).bind fun r2=>(bif r2 then((Asg K a0 ((gt a0 a1).Gs)).bind fun r3=>(bif r3 then(bif (((gt a0 a1).fUp) != 0)then((Ag9 K a0 (Aob .i64 ((gt a0 a1).fUp) 1)).bind fun r4=>(bif (!r4)then some false else(Arr K a0 a1 ((gt a0 a1).Hh) ((gt a0 a1).C2) ((gt a0 a1).Ly) ((gt a0 a1).fUp) ((gt a0 a1).Gq) ((gt a0 a1).Bt) ((gt a0 a1).Gr) ((gt a0 a1).Gs) ((gt a0 a1).Ae) ((gt a0 a1).Pq) ((gt a0 a1).Gt) ((gt a0 a1).Ea) ((gt a0 a1).Dg))))else(Arr K a0 a1 ((gt a0 a1).Hh) ((gt a0 a1).C2) ((gt a0 a1).Ly) ((gt a0 a1).fUp) ((gt a0 a1).Gq) ((gt a0 a1).Bt) ((gt a0 a1).Gr) ((gt a0 a1).Gs) ((gt a0 a1).Ae) ((gt a0 a1).Pq) ((gt a0 a1).Gt) ((gt a0 a1).Ea) ((gt a0 a1).Dg)))else some false))else some false))else some false))else none)
def s_126:Sig:=⟨[.v 29,.v 3],[.v 4],true⟩
def Bsn (K:Nat):Gb tyU:=⟨s_126,Avg K⟩
def A7y (K:Nat):=xF s_126 [(171,A0s K),(233,Bek K),(271,Bsl K)] [] 134 [15,16,17,21,22,23,24,28,29,30,31,34,35,55,56,61,62,63,83,84,89,90,91,100,101,115,116,119,120,121,122] [] [] [7,15,31,63] [.tmp 4]
def A5k:E5:=⟨[(0,.v 29),(1,.v 2),(5,.p 105)],[(105,.box [.v 2,.v 2,.v 2,.v 2,.v 2,.v 2,.v 2,.v 2,.v 26,.v 2,.v 2,.v 41,.v 26])]⟩
def A5l:E5:=⟨[(0,.v 29),(1,.v 2),(5,.p 105)],[(105,.box [.v 2,.v 2,.v 2,.v 2,.v 2,.v 2,.v 2,.v 2,.v 26,.v 2,.v 2,.v 41,.v 26])]⟩
def A5m:E5:=⟨[(0,.v 29),(1,.v 2),(5,.p 105)],[(105,.box [.v 2,.v 2,.v 2,.v 2,.v 2,.v 2,.v 2,.v 2,.v 26,.v 2,.v 2,.v 41,.v 26])]⟩
def A90:E5:=⟨[(0,.v 29),(1,.v 2),(5,.p 105)],[(105,.box [.v 2,.v 2,.v 2,.v 2,.v 2,.v 2,.v 2,.v 2,.v 26,.v 2,.v 2,.v 41,.v 26])]⟩
def A5n (K:Nat)(q:PT A5k):Rt s_126:=Aro K q.1 q.2.1 q.2.2.2.2.2.1 q.2.2.2.2.2.2.2.2.2.1
def A5o (K:Nat)(q:PT A5l):Rt s_126:=Arp K q.1 q.2.1 q.2.2.2.2.2.1 q.2.2.2.2.2.2.2.2.2.1
def A5p (K:Nat)(q:PT A5m):Rt s_126:=Arq K q.1 q.2.1 q.2.2.2.2.2.1 q.2.2.2.2.2.2.1 q.2.2.2.2.2.2.2.2.1 q.2.2.2.2.2.2.2.2.2.1
def A91 (K:Nat)(q:PT A90):Rt s_126:=Arr K q.1 q.2.1 q.2.2.1 q.2.2.2.1 q.2.2.2.2.1 q.2.2.2.2.2.1 q.2.2.2.2.2.2.1 q.2.2.2.2.2.2.2.1 q.2.2.2.2.2.2.2.2.1 q.2.2.2.2.2.2.2.2.2.1 q.2.2.2.2.2.2.2.2.2.2.1 q.2.2.2.2.2.2.2.2.2.2.2.1 q.2.2.2.2.2.2.2.2.2.2.2.2.1 q.2.2.2.2.2.2.2.2.2.2.2.2.2.1 q.2.2.2.2.2.2.2.2.2.2.2.2.2.2.1
theorem Bke (K:Nat):AtJ (A7y K) [] [] (bd Tryz.f231) 63 (A5n K):=fun q=>by kernel_rfl
theorem Bkf (K:Nat):AtJ (A7y K) [(63,ar A5k (A5n K))] [] (bd Tryz.f231) 31 (A5o K):=fun q=>by kernel_rfl
theorem Bkg (K:Nat):AtJ (A7y K) [(31,ar A5l (A5o K))] [] (bd Tryz.f231) 15 (A5p K):=fun q=>by kernel_rfl
theorem Bpx (K:Nat):AtJ (A7y K) [(15,ar A5m (A5p K))] [] (bd Tryz.f231) 7 (A91 K):=fun q=>by kernel_rfl
theorem A5q (K:Nat):XF [.tmp 4] s_126 134 [7,15,31,63] (A7y K):=xkF (gC (Ay5 K) (gC (Bcw K) (gC (Bwj K) gN))) oN
theorem Bkh (K:Nat):CF [.tmp 4] s_126 134 [7,15,31,63] (bd Tryz.f231) [] 63 (ar A5k (A5n K)):=
 Ala (A5q K) (Bke K) kN
theorem Bki (K:Nat):CF [.tmp 4] s_126 134 [7,15,31,63] (bd Tryz.f231) [] 31 (ar A5l (A5o K)):=
 Ala (A5q K) (Bkf K) (kC (Bkh K) kN)
theorem Bkj (K:Nat):CF [.tmp 4] s_126 134 [7,15,31,63] (bd Tryz.f231) [] 15 (ar A5m (A5p K)):=
 Ala (A5q K) (Bkg K) (kC (Bki K) kN)
theorem Bpy (K:Nat):CF [.tmp 4] s_126 134 [7,15,31,63] (bd Tryz.f231) [] 7 (ar A90 (A91 K)):=
 Ala (A5q K) (Bpx K) (kC (Bkj K) kN)
theorem Bwk (K:Nat):OkF 231 (Bsn K):=
 Aa6 (x:=A7y K) (L:=[(7,ar A90 (A91 K))]) (c0:=bd Tryz.f231) (A5q K) (by intro a0 a1;show @Eq _ _ _;kernel_rfl) (kC (Bpy K) kN) Tryz.func231 trivial
def Att (K:Nat)(a0:List Ba):Nat->Int->(List Int)->Option ((List Int))
 |0,_,_=>none
 |n1+1,v1,v2=>((Ag9 K a0 v1).bind fun r3=>(bif r3 then(bif (decide ((v2.length:Int)<(a0.length:Int)))then(if(v2++([v1]:List Int)).length*8≤140737488355328∧(v2++([v1]:List Int)).length≤maxLen then(if(0:Int)≤v1∧v1<(a0.length:Int)then(Att K a0 n1 (Aob .i64 ((gt a0 v1).fUp) 1) (v2++([v1]:List Int)))else none)else none)else some v2)else some v2))
def Aut (K:Nat)(a0:List Ba)(a1:Int):Option ((List Int)):=(Att K a0 K a1 ([]:List Int))
def s_127:Sig:=⟨[.v 29,.v 3],[.n 26 true],true⟩
def Bel (K:Nat):Gb tyU:=⟨s_127,Aut K⟩
def Bkk (K:Nat):=xF s_127 [(171,A0s K)] [] 28 [9,10] [] [] [] [.tmp 4]
def A5r:E5:=⟨[(0,.v 29),(1,.v 2),(5,.o 1005 3 true)],[]⟩
def A5s (K:Nat)(n:Nat)(q:PT A5r):Rt s_127:=Att K q.1 n q.2.1 q.2.2.1
theorem Bkl (K:Nat):AtL (Bkk K) (fun n=>[]) [] (bd Tryz.f232) 28 (A5s K):=fun n q=>by kernel_rfl
theorem Bkm (K:Nat):XF [.tmp 4] s_127 28 [] (Bkk K):=xkF (gC (Ay5 K) gN) oN
theorem Bkn (K:Nat)(n:Nat):CF [.tmp 4] s_127 28 [] (bd Tryz.f232) [] 28 (ar A5r (A5s K n)):=
 Aei (Bkm K) (Bkl K) (fun n=>kN) n
theorem Bcx (K:Nat):OkF 232 (Bel K):=
 Aa6 (x:=Bkk K) (L:=[(28,ar A5r (A5s K K))]) (c0:=bd Tryz.f232) (Bkm K) (by intro a0 a1;show @Eq _ _ _;kernel_rfl) (kC (Bkn K K) kN) Tryz.func232 trivial
def Aug (K:Nat)(v1:List Ba)(v2:Int)(v3:Int)(C1:(List Ba)->Int->Int->Option (Bool)):Option (Bool):=(C1 v1 v2 (Aoa .i64 v3 1))
def Api (K:Nat)(a0:List Ba):Nat->(List Ba)->Int->Int->Option (Bool)
 |0,_,_,_=>none
 |n1+1,v1,v2,v3=>(bif (decide (v3<v2))then(if(0:Int)≤v3∧v3<(v1.length:Int)then(bif (((gt v1 v3).Hh) != 1)then(Aug K v1 v2 v3 (Api K a0 n1))else((Avg K a0 v3).bind fun r4=>(bif (!r4)then some false else((Aut K a0 v3).bind fun r5=>(bif (decide ((r5.length:Int)>4))then some false else(if(0:Int)≤(Aob .i64 (r5.length:Int) 1)∧(Aob .i64 (r5.length:Int) 1)<(r5.length:Int)then((Aqc K a0 (gt r5 (Aob .i64 (r5.length:Int) 1))).bind fun r6=>(bif r6 then some false else(Aug K v1 v2 v3 (Api K a0 n1))))else none))))))else none)else some true)
def Awh (K:Nat)(a0:List Ba):Option (Bool):=(Api K a0 K a0 (a0.length:Int) 0)
def s_128:Sig:=⟨[.v 29],[.v 4],true⟩
def Bso (K:Nat):Gb tyU:=⟨s_128,Awh K⟩
def Bem (K:Nat):=xF s_128 [(231,Bsn K),(232,Bel K),(233,Bek K)] [] 37 [25,26] [] [] [211] [.tmp 2]
def A20:E5:=⟨[(0,.v 29),(6,.v 29),(7,.v 2),(8,.v 2)],[]⟩
def Awv:E5:=⟨[(0,.v 29),(6,.v 29),(7,.v 2),(8,.v 2)],[]⟩
def A21 (K:Nat)(C26:CT Awv s_128)(q:PT A20):Rt s_128:=Aug K q.2.1 q.2.2.1 q.2.2.2.1 (fun v1 v2 v3=>C26 (q.1,v1,v2,v3,()))
def Azw (K:Nat)(n:Nat)(q:PT Awv):Rt s_128:=Api K q.1 n q.2.1 q.2.2.1 q.2.2.2.1
theorem Bfv (K:Nat)(C26:CT Awv s_128):AtJ (Bem K) [] [(26,ar Awv C26)] (bd Tryz.f155) 211 (A21 K C26):=fun q=>by kernel_rfl
theorem Bko (K:Nat):AtL (Bem K) (fun n=>[(211,ar A20 (A21 K (Azw K n)))]) [] (bd Tryz.f155) 26 (Azw K):=fun n q=>by kernel_rfl
theorem Bcy (K:Nat):XF [.tmp 2] s_128 37 [211] (Bem K):=xkF (gC (Bwk K) (gC (Bcx K) (gC (Bcw K) gN))) oN
theorem Bfw (K:Nat)(C26:CT Awv s_128):CF [.tmp 2] s_128 37 [211] (bd Tryz.f155) [(26,ar Awv C26)] 211 (ar A20 (A21 K C26)):=
 Ala (Bcy K) (Bfv K C26) kN
theorem Bkp (K:Nat)(n:Nat):CF [.tmp 2] s_128 37 [211] (bd Tryz.f155) [] 26 (ar Awv (Azw K n)):=
 Aei (Bcy K) (Bko K) (fun n=>(kC (Bfw K (Azw K n)) kN)) n
theorem Bwl (K:Nat):OkF 155 (Bso K):=
 Aa6 (x:=Bem K) (L:=[(26,ar Awv (Azw K K))]) (c0:=bd Tryz.f155) (Bcy K) (by intro a0;show @Eq _ _ _;kernel_rfl) (kC (Bkp K K) kN) Tryz.func155 trivial
def Aqu (K:Nat)(a0:List Ba)(a1:Int):Option (Bool):=(if(0:Int)≤a1∧a1<(a0.length:Int)then(bif (((gt a0 a1).Hh)==1)then(if(0:Int)≤a1∧a1<(a0.length:Int)then(bif (((gt a0 a1).fUp) != 0)then((Aqc K a0 a1).bind fun r1=>some (!r1))else some false)else none)else some false)else none)
def Bsp:Sig:=⟨[.v 29,.v 3],[.v 4],true⟩
def Bsq (K:Nat):Gb tyU:=⟨Bsp,Aqu K⟩
def B3e (K:Nat):=xF Bsp [(233,Bek K)] [] 25 [10,11,17,18,19] [] [] [] [.tmp 4]
theorem Bwm (K:Nat):OkF 235 (Bsq K):=
 Aa6 (x:=B3e K) (L:=[]) (c0:=bd Tryz.f235) (xkF (gC (Bcw K) gN) oN) (by intro a0 a1;show @Eq _ _ _;kernel_rfl) kN Tryz.func235 trivial
def Avh (K:Nat)(a0:Er)(a1:Ax):Option (Bool):=((Ase K a0).bind fun r1=>(bif r1 then((Ac1 K a1.A5 0 a0.C0).bind fun r2=>(bif r2 then((Ac1 K a1.Bt 0 a0.C0).bind fun r3=>(bif r3 then(bif (decide ((a1.Dg.length:Int)≤6))then((Aqt K a1.Dg).bind fun r4=>(bif r4 then((Ar8 K a0 a1.Ae).bind fun r5=>(bif r5 then((Ac1 K a1.Gu 0 (Aob .i64 a0.Eg 1)).bind fun r6=>(bif r6 then(bif (decide ((a1.Ae.length:Int)>0))then some true else some (a1.Gu==0))else some false))else some false))else some false))else some false)else some false))else some false))else some false))
def Bsr:Sig:=⟨[.v 25,.v 159],[.v 4],true⟩
def Bss (K:Nat):Gb tyU:=⟨Bsr,Avh K⟩
def B3f (K:Nat):=xF Bsr [(88,A45 K),(157,Beg K),(198,Bi8 K),(240,Bvx K)] [] 57 [6,7,12,13,14,19,20,21,25,26,27,30,31,32,36,37,38,44,45,46,50,51] [] [] [] [.tmp 4]
theorem Bwn (K:Nat):OkF 234 (Bss K):=
 Aa6 (x:=B3f K) (L:=[]) (c0:=bd Tryz.f234) (xkF (gC (A0r K) (gC (Bcs K) (gC (Bee K) (gC (Brl K) gN)))) oN) (by intro a0 a1;show @Eq _ _ _;kernel_rfl) kN Tryz.func234 trivial
def Ar9 (K:Nat)(a0:List Ba):Nat->(List Int)->Int->Option ((List Int))
 |0,_,_=>none
 |n1+1,v1,v2=>((Ag9 K a0 v2).bind fun r3=>(bif r3 then(bif (decide ((v1.length:Int)<(a0.length:Int)))then(if(v1++([v2]:List Int)).length*8≤140737488355328∧(v1++([v2]:List Int)).length≤maxLen then(if(0:Int)≤v2∧v2<(a0.length:Int)then(Ar9 K a0 n1 (v1++([v2]:List Int)) (Aob .i64 ((gt a0 v2).Gr) 1))else none)else none)else some v1)else some v1))
def Ash (K:Nat)(a0:List Ba)(a1:Int):Option ((List Int)):=(Ar9 K a0 K ([]:List Int) (Aob .i64 a1 1))
def s_131:Sig:=⟨[.v 29,.v 3],[.n 26 true],true⟩
def Ben (K:Nat):Gb tyU:=⟨s_131,Ash K⟩
def Bkq (K:Nat):=xF s_131 [(171,A0s K)] [] 31 [12,13] [] [] [] [.tmp 4]
def A5t:E5:=⟨[(0,.v 29),(5,.o 1005 3 true),(6,.v 2)],[]⟩
def A5u (K:Nat)(n:Nat)(q:PT A5t):Rt s_131:=Ar9 K q.1 n q.2.1 q.2.2.1
theorem Bkr (K:Nat):AtL (Bkq K) (fun n=>[]) [] (bd Tryz.f206) 58 (A5u K):=fun n q=>by kernel_rfl
theorem Bks (K:Nat):XF [.tmp 4] s_131 31 [] (Bkq K):=xkF (gC (Ay5 K) gN) oN
theorem Bkt (K:Nat)(n:Nat):CF [.tmp 4] s_131 31 [] (bd Tryz.f206) [] 58 (ar A5t (A5u K n)):=
 Aei (Bks K) (Bkr K) (fun n=>kN) n
theorem Bcz (K:Nat):OkF 206 (Ben K):=
 Aa6 (x:=Bkq K) (L:=[(58,ar A5t (A5u K K))]) (c0:=bd Tryz.f206) (Bks K) (by intro a0 a1;show @Eq _ _ _;kernel_rfl) (kC (Bkt K K) kN) Tryz.func206 trivial
def Ai4 (K:Nat)(v4:List Ax)(v5:Int)(v6:Int)(v7:Int)(v8:Int)(v9:Int)(v10:Int)(v11:Int)(v12:Int)(v13:List Int)(v14:List Int)(v15:List Int)(v16:List Ba)(v17:List Ax)(v18:List Int)(v27:List Int)(v31:List Int)(r32:(List Int))(C1:(List Int)->(List Int)->(List Int)->(List Ax)->Int->Int->Int->Int->Int->Int->Int->Int->(List Int)->(List Int)->(List Int)->(List Ba)->(List Ax)->(List Int)->Option (Bool)):Nat->(List Int)->Int->Int->Option (Bool)
 |0,_,_,_=>none
 |n6+1,v33,v34,v35=>(bif (decide (v35<v34))then(if(0:Int)≤v35∧v35<(r32.length:Int)then(if(0:Int)≤(gt r32 v35)∧(gt r32 v35)<(v33.length:Int)then(if(0:Int)≤(gt r32 v35)∧(gt r32 v35)<(v33.length:Int)then((Aqu K v16 (gt r32 v35)).bind fun r36=>(bif (!r36)then some false else(Ai4 K v4 v5 v6 v7 v8 v9 v10 v11 v12 v13 v14 v15 v16 v17 v18 v27 v31 r32 C1 n6 (v33.set (gt r32 v35).toNat (Aoa .i64 (gt v33 (gt r32 v35)) 1)) v34 (Aoa .i64 v35 1))))else none)else none)else none)else(C1 v27 v31 v33 v4 v5 (Aoa .i64 v6 1) v7 v8 v9 v10 v11 v12 v13 v14 v15 v16 v17 v18))
def Apa (K:Nat)(v3:List Int)(v4:List Ax)(v5:Int)(v6:Int)(v7:Int)(v8:Int)(v9:Int)(v10:Int)(v11:Int)(v12:Int)(v13:List Int)(v14:List Int)(v15:List Int)(v16:List Ba)(v17:List Ax)(v18:List Int)(v23:Int)(v27:List Int)(v31:List Int)(C1:(List Int)->(List Int)->(List Int)->(List Ax)->Int->Int->Int->Int->Int->Int->Int->Int->(List Int)->(List Int)->(List Int)->(List Ba)->(List Ax)->(List Int)->Option (Bool)):Option (Bool):=((Ash K v16 v23).bind fun r32=>(Ai4 K v4 v5 v6 v7 v8 v9 v10 v11 v12 v13 v14 v15 v16 v17 v18 v27 v31 r32 (C1) K v3 (r32.length:Int) 0))
def Apb (K:Nat)(v3:List Int)(v4:List Ax)(v5:Int)(v6:Int)(v7:Int)(v8:Int)(v9:Int)(v10:Int)(v11:Int)(v12:Int)(v13:List Int)(v14:List Int)(v15:List Int)(v16:List Ba)(v17:List Ax)(v18:List Int)(v23:Int)(v27:List Int)(C1:(List Int)->(List Int)->(List Int)->(List Ax)->Int->Int->Int->Int->Int->Int->Int->Int->(List Int)->(List Int)->(List Int)->(List Ba)->(List Ax)->(List Int)->Option (Bool))(v31:List Int):Option (Bool):=(bif (decide (v23>0))then(if(0:Int)≤(Aob .i64 v23 1)∧(Aob .i64 v23 1)<(v16.length:Int)then(bif (((gt v16 (Aob .i64 v23 1)).Gs) != 0)then some false else(Apa K v3 v4 v5 v6 v7 v8 v9 v10 v11 v12 v13 v14 v15 v16 v17 v18 v23 v27 v31 (C1)))else none)else(Apa K v3 v4 v5 v6 v7 v8 v9 v10 v11 v12 v13 v14 v15 v16 v17 v18 v23 v27 v31 (C1)))
def Ai5 (K:Nat)(v2:List Int)(v3:List Int)(v4:List Ax)(v5:Int)(v6:Int)(v7:Int)(v8:Int)(v9:Int)(v10:Int)(v11:Int)(v12:Int)(v13:List Int)(v14:List Int)(v15:List Int)(v16:List Ba)(v17:List Ax)(v18:List Int)(v22:Int)(v23:Int)(v25:List Int)(C1:(List Int)->(List Int)->(List Int)->(List Ax)->Int->Int->Int->Int->Int->Int->Int->Int->(List Int)->(List Int)->(List Int)->(List Ba)->(List Ax)->(List Int)->Option (Bool)):Nat->(List Int)->Int->Int->(List Int)->Option (Bool)
 |0,_,_,_,_=>none
 |n3+1,v27,v28,v29,v30=>(bif (decide (v29<v28))then(if(0:Int)≤v29∧v29<(v25.length:Int)then(if(0:Int)≤(gt v25 v29)∧(gt v25 v29)<(v27.length:Int)then(if(0:Int)≤(gt v25 v29)∧(gt v25 v29)<(v27.length:Int)then(if(0:Int)≤(gt v25 v29)∧(gt v25 v29)<(v14.length:Int)then(bif ((gt v14 (gt v25 v29)) != 2)then some false else(Ai5 K v2 v3 v4 v5 v6 v7 v8 v9 v10 v11 v12 v13 v14 v15 v16 v17 v18 v22 v23 v25 C1 n3 (v27.set (gt v25 v29).toNat (Aoa .i64 (gt v27 (gt v25 v29)) 1)) v28 (Aoa .i64 v29 1) v30))else none)else none)else none)else none)else(bif (decide (v22>0))then(if(0:Int)≤(Aob .i64 v22 1)∧(Aob .i64 v22 1)<(v2.length:Int)then(if(0:Int)≤(Aob .i64 v22 1)∧(Aob .i64 v22 1)<(v2.length:Int)then(if(0:Int)≤(Aob .i64 v22 1)∧(Aob .i64 v22 1)<(v16.length:Int)then(bif (((gt v16 (Aob .i64 v22 1)).Hh) != 2)then some false else(Apb K v3 v4 v5 v6 v7 v8 v9 v10 v11 v12 v13 v14 v15 v16 v17 v18 v23 v27 (C1) (v2.set (Aob .i64 v22 1).toNat (Aoa .i64 (gt v2 (Aob .i64 v22 1)) 1))))else none)else none)else none)else(Apb K v3 v4 v5 v6 v7 v8 v9 v10 v11 v12 v13 v14 v15 v16 v17 v18 v23 v27 (C1) v2)))
def Apc (K:Nat)(v1:List Int)(v2:List Int)(v3:List Int)(v4:List Ax)(v5:Int)(v6:Int)(v7:Int)(v8:Int)(v9:Int)(v10:Int)(v11:Int)(v12:Int)(v13:List Int)(v14:List Int)(v15:List Int)(v16:List Ba)(v17:List Ax)(v18:List Int)(C1:(List Int)->(List Int)->(List Int)->(List Ax)->Int->Int->Int->Int->Int->Int->Int->Int->(List Int)->(List Int)->(List Int)->(List Ba)->(List Ax)->(List Int)->Option (Bool))(v22:Int)(v23:Int)(v24:List Int)(v25:List Int)(v26:Int):Option (Bool):=(Ai5 K v2 v3 v4 v5 v6 v7 v8 v9 v10 v11 v12 v13 v14 v15 v16 v17 v18 v22 v23 v25 (C1) K v1 (v25.length:Int) 0 v25)
def Ap7 (K:Nat)(v37:Int)(v38:Int)(v39:List Int)(C7:Int->Int->(List Int)->Option (Bool)):Option (Bool):=(C7 v37 (Aoa .i64 v38 1) v39)
def Ak9 (K:Nat)(v40:Int)(v41:Int)(v42:List Ba)(C9:Int->Int->(List Ba)->Option (Bool)):Option (Bool):=(C9 v40 (Aoa .i64 v41 1) v42)
def Aek (K:Nat)(v2:List Int)(v3:List Int)(v16:List Ba):Nat->Int->Int->(List Ba)->Option (Bool)
 |0,_,_,_=>none
 |n9+1,v40,v41,v42=>(bif (decide (v41<v40))then(if(0:Int)≤v41∧v41<(v16.length:Int)then(bif (((gt v16 v41).Hh)==2)then(if(0:Int)≤v41∧v41<(v2.length:Int)then(bif ((gt v2 v41) != 1)then some false else((Aqu K v42 v41).bind fun r43=>(bif r43 then(if(0:Int)≤v41∧v41<(v3.length:Int)then(bif ((gt v3 v41) != 1)then some false else(Ak9 K v40 v41 v42 (Aek K v2 v3 v16 n9)))else none)else(Ak9 K v40 v41 v42 (Aek K v2 v3 v16 n9)))))else none)else((Aqu K v42 v41).bind fun r44=>(bif r44 then(if(0:Int)≤v41∧v41<(v3.length:Int)then(bif ((gt v3 v41) != 1)then some false else(Ak9 K v40 v41 v42 (Aek K v2 v3 v16 n9)))else none)else(Ak9 K v40 v41 v42 (Aek K v2 v3 v16 n9)))))else none)else some true)
def Ag3 (K:Nat)(v1:List Int)(v2:List Int)(v3:List Int)(v14:List Int)(v16:List Ba):Nat->Int->Int->(List Int)->Option (Bool)
 |0,_,_,_=>none
 |n7+1,v37,v38,v39=>(bif (decide (v38<v37))then(if(0:Int)≤v38∧v38<(v14.length:Int)then(bif ((gt v14 v38)==2)then(if(0:Int)≤v38∧v38<(v1.length:Int)then(bif ((gt v1 v38) != 1)then some false else(Ap7 K v37 v38 v39 (Ag3 K v1 v2 v3 v14 v16 n7)))else none)else(Ap7 K v37 v38 v39 (Ag3 K v1 v2 v3 v14 v16 n7)))else none)else(Aek K v2 v3 v16 K (v16.length:Int) 0 v16))
def Aa1 (K:Nat):Nat->(List Int)->(List Int)->(List Int)->(List Ax)->Int->Int->Int->Int->Int->Int->Int->Int->(List Int)->(List Int)->(List Int)->(List Ba)->(List Ax)->(List Int)->Option (Bool)
 |0,_,_,_,_,_,_,_,_,_,_,_,_,_,_,_,_,_,_=>none
 |n1+1,v1,v2,v3,v4,v5,v6,v7,v8,v9,v10,v11,v12,v13,v14,v15,v16,v17,v18=>(bif (decide (v6<v5))then(if(0:Int)≤v6∧v6<(v4.length:Int)then((Avh K (Er.mk v7 v8 v9 v10 v11 v12) (gt v4 v6)).bind fun r19=>(bif r19 then(bif (decide ((((gt v4 v6).Ae).length:Int)>0))then(if(0:Int)≤0∧0<(((gt v4 v6).Ae).length:Int)then((Aqz K (Dw.mk v13 v14 v15) (Er.mk v7 v8 v9 v10 v11 v12) (gt ((gt v4 v6).Ae) 0)).bind fun r20=>(if(0:Int)≤0∧0≤((gt v4 v6).Gu)∧((gt v4 v6).Gu)≤(r20.length:Int)then((Asf K ((r20.drop (0:Int).toNat).take (((gt v4 v6).Gu) - 0).toNat)).bind fun r21=>(bif (!r21)then some false else(Apc K v1 v2 v3 v4 v5 v6 v7 v8 v9 v10 v11 v12 v13 v14 v15 v16 v17 v18 (Aa1 K n1) ((gt v4 v6).A5) ((gt v4 v6).Bt) ((gt v4 v6).Dg) ((gt v4 v6).Ae) ((gt v4 v6).Gu))))else none))else none)else(Apc K v1 v2 v3 v4 v5 v6 v7 v8 v9 v10 v11 v12 v13 v14 v15 v16 v17 v18 (Aa1 K n1) ((gt v4 v6).A5) ((gt v4 v6).Bt) ((gt v4 v6).Dg) ((gt v4 v6).Ae) ((gt v4 v6).Gu)))else some false))else none)else(Ag3 K v1 v2 v3 v14 v16 K (v14.length:Int) 0 v14))
def Aq2 (K:Nat)(a0:Eb):Option (Bool):=(if(0:Int)≤a0.fC.Ae∧a0.fC.Ae≤a0.fC.Ae∧(8:Int)*a0.fC.Ae≤281474976710656∧a0.fC.Ae≤9223372036854775807 then(if(0:Int)≤a0.fC.C0∧a0.fC.C0≤a0.fC.C0∧(8:Int)*a0.fC.C0≤281474976710656∧a0.fC.C0≤9223372036854775807 then(if(0:Int)≤a0.fC.C0∧a0.fC.C0≤a0.fC.C0∧(8:Int)*a0.fC.C0≤281474976710656∧a0.fC.C0≤9223372036854775807 then(Aa1 K K (List.replicate a0.fC.Ae.toNat 0) (List.replicate a0.fC.C0.toNat 0) (List.replicate a0.fC.C0.toNat 0) a0.fQ (a0.fQ.length:Int) 0 a0.fC.Ae a0.fC.Eg a0.fC.C0 a0.fC.E9 a0.fC.C1 a0.fC.Eh a0.fP.Fy a0.fP.Hh a0.fP.Fz a0.fL a0.fQ a0.Pr)else none)else none)else none)
def s_132:Sig:=⟨[.v 32],[.v 4],true⟩
def Bst (K:Nat):Gb tyU:=⟨s_132,Aq2 K⟩
def Azj (K:Nat):=xF s_132 [(206,Ben K),(226,Bph K),(227,Bvr K),(234,Bss K),(235,Bsq K)] [] 191 [38,39,40,44,45,105,106,150,151,169,170,175,176,177,181,182] [] [] [979,2003,3737,14951,29903] [.tmp 2]
def Ay6:E5:=⟨[(1,.p 101),(3,.o 1003 3 true),(4,.o 1004 3 true),(5,.o 1005 3 true),(29,.v 30),(30,.v 2),(31,.v 2),(121,.v 26),(122,.v 2),(123,.v 2)],[(101,.box [.v 2,.v 2,.v 2,.v 2,.v 2,.v 2,.v 22,.v 26,.v 26,.v 29,.v 30,.v 26])]⟩
def Azx:E5:=⟨[(1,.p 101),(3,.o 1003 3 true),(4,.o 1004 3 true),(5,.o 1005 3 true),(7,.p 107),(29,.v 30),(30,.v 2),(31,.v 2)],[(107,.box [.v 2,.v 2,.v 26,.v 26,.v 2]),(101,.box [.v 2,.v 2,.v 2,.v 2,.v 2,.v 2,.v 22,.v 26,.v 26,.v 29,.v 30,.v 26])]⟩
def Azy:E5:=⟨[(1,.p 101),(3,.o 1003 3 true),(4,.o 1004 3 true),(5,.o 1005 3 true),(7,.p 107),(29,.v 30),(30,.v 2),(31,.v 2)],[(107,.box [.v 2,.v 2,.v 26,.v 26,.v 2]),(101,.box [.v 2,.v 2,.v 2,.v 2,.v 2,.v 2,.v 22,.v 26,.v 26,.v 29,.v 30,.v 26])]⟩
def Azz:E5:=⟨[(1,.p 101),(3,.o 1003 3 true),(4,.o 1004 3 true),(5,.o 1005 3 true),(7,.p 107),(29,.v 30),(30,.v 2),(31,.v 2),(63,.v 26),(64,.v 2),(65,.v 2)],[(107,.box [.v 2,.v 2,.v 26,.v 26,.v 2]),(101,.box [.v 2,.v 2,.v 2,.v 2,.v 2,.v 2,.v 22,.v 26,.v 26,.v 29,.v 30,.v 26])]⟩
def A03:E5:=⟨[(1,.p 101),(3,.o 1003 3 true),(4,.o 1004 3 true),(5,.o 1005 3 true),(7,.p 107),(29,.v 30),(30,.v 2),(31,.v 2)],[(107,.box [.v 2,.v 2,.v 26,.v 26,.v 2]),(101,.box [.v 2,.v 2,.v 2,.v 2,.v 2,.v 2,.v 22,.v 26,.v 26,.v 29,.v 30,.v 26])]⟩
def A22:E5:=⟨[(1,.p 101),(3,.o 1003 3 true),(4,.o 1004 3 true),(5,.o 1005 3 true),(142,.v 26),(143,.v 2),(144,.v 2)],[(101,.box [.v 2,.v 2,.v 2,.v 2,.v 2,.v 2,.v 22,.v 26,.v 26,.v 29,.v 30,.v 26])]⟩
def A04:E5:=⟨[(1,.p 101),(4,.o 1004 3 true),(5,.o 1005 3 true),(160,.v 29),(161,.v 2),(162,.v 2)],[(101,.box [.v 2,.v 2,.v 2,.v 2,.v 2,.v 2,.v 22,.v 26,.v 26,.v 29,.v 30,.v 26])]⟩
def Auu:E5:=⟨[(1,.p 101),(4,.o 1004 3 true),(5,.o 1005 3 true),(160,.v 29),(161,.v 2),(162,.v 2)],[(101,.box [.v 2,.v 2,.v 2,.v 2,.v 2,.v 2,.v 22,.v 26,.v 26,.v 29,.v 30,.v 26])]⟩
def Auv:E5:=⟨[(1,.p 101),(3,.o 1003 3 true),(4,.o 1004 3 true),(5,.o 1005 3 true),(142,.v 26),(143,.v 2),(144,.v 2)],[(101,.box [.v 2,.v 2,.v 2,.v 2,.v 2,.v 2,.v 22,.v 26,.v 26,.v 29,.v 30,.v 26])]⟩
def Aiz:E5:=⟨[(1,.p 101),(3,.o 1003 3 true),(4,.o 1004 3 true),(5,.o 1005 3 true),(29,.v 30),(30,.v 2),(31,.v 2)],[(101,.box [.v 2,.v 2,.v 2,.v 2,.v 2,.v 2,.v 22,.v 26,.v 26,.v 29,.v 30,.v 26])]⟩
def Ay7 (K:Nat)(C58:CT Aiz s_132)(n:Nat)(q:PT Ay6):Rt s_132:=Ai4 K q.2.2.2.1 q.2.2.2.2.1 q.2.2.2.2.2.1 q.2.2.2.2.2.2.2.2.2.1 q.2.2.2.2.2.2.2.2.2.2.1 q.2.2.2.2.2.2.2.2.2.2.2.1 q.2.2.2.2.2.2.2.2.2.2.2.2.1 q.2.2.2.2.2.2.2.2.2.2.2.2.2.1 q.2.2.2.2.2.2.2.2.2.2.2.2.2.2.1 q.2.2.2.2.2.2.2.2.2.2.2.2.2.2.2.1 q.2.2.2.2.2.2.2.2.2.2.2.2.2.2.2.2.1 q.2.2.2.2.2.2.2.2.2.2.2.2.2.2.2.2.2.1 q.2.2.2.2.2.2.2.2.2.2.2.2.2.2.2.2.2.2.1 q.2.2.2.2.2.2.2.2.2.2.2.2.2.2.2.2.2.2.2.1 q.2.2.2.2.2.2.2.2.2.2.2.2.2.2.2.2.2.2.2.2.1 q.1 q.2.1 q.2.2.2.2.2.2.1 (fun v1 v2 v3 v4 v5 v6 v7 v8 v9 v10 v11 v12 v13 v14 v15 v16 v17 v18=>C58 (v1,v2,v3,v4,v5,v6,v7,v8,v9,v10,v11,v12,v13,v14,v15,v16,v17,v18,())) n q.2.2.1 q.2.2.2.2.2.2.2.1 q.2.2.2.2.2.2.2.2.1
def Az0 (K:Nat)(C58:CT Aiz s_132)(q:PT Azx):Rt s_132:=Apa K q.2.2.1 q.2.2.2.1 q.2.2.2.2.1 q.2.2.2.2.2.1 q.2.2.2.2.2.2.2.2.2.2.2.1 q.2.2.2.2.2.2.2.2.2.2.2.2.1 q.2.2.2.2.2.2.2.2.2.2.2.2.2.1 q.2.2.2.2.2.2.2.2.2.2.2.2.2.2.1 q.2.2.2.2.2.2.2.2.2.2.2.2.2.2.2.1 q.2.2.2.2.2.2.2.2.2.2.2.2.2.2.2.2.1 q.2.2.2.2.2.2.2.2.2.2.2.2.2.2.2.2.2.1 q.2.2.2.2.2.2.2.2.2.2.2.2.2.2.2.2.2.2.1 q.2.2.2.2.2.2.2.2.2.2.2.2.2.2.2.2.2.2.2.1 q.2.2.2.2.2.2.2.2.2.2.2.2.2.2.2.2.2.2.2.2.1 q.2.2.2.2.2.2.2.2.2.2.2.2.2.2.2.2.2.2.2.2.2.1 q.2.2.2.2.2.2.2.2.2.2.2.2.2.2.2.2.2.2.2.2.2.2.1 q.2.2.2.2.2.2.2.1 q.1 q.2.1 (fun v1 v2 v3 v4 v5 v6 v7 v8 v9 v10 v11 v12 v13 v14 v15 v16 v17 v18=>C58 (v1,v2,v3,v4,v5,v6,v7,v8,v9,v10,v11,v12,v13,v14,v15,v16,v17,v18,()))
def Az1 (K:Nat)(C58:CT Aiz s_132)(q:PT Azy):Rt s_132:=Apb K q.2.2.1 q.2.2.2.1 q.2.2.2.2.1 q.2.2.2.2.2.1 q.2.2.2.2.2.2.2.2.2.2.2.1 q.2.2.2.2.2.2.2.2.2.2.2.2.1 q.2.2.2.2.2.2.2.2.2.2.2.2.2.1 q.2.2.2.2.2.2.2.2.2.2.2.2.2.2.1 q.2.2.2.2.2.2.2.2.2.2.2.2.2.2.2.1 q.2.2.2.2.2.2.2.2.2.2.2.2.2.2.2.2.1 q.2.2.2.2.2.2.2.2.2.2.2.2.2.2.2.2.2.1 q.2.2.2.2.2.2.2.2.2.2.2.2.2.2.2.2.2.2.1 q.2.2.2.2.2.2.2.2.2.2.2.2.2.2.2.2.2.2.2.1 q.2.2.2.2.2.2.2.2.2.2.2.2.2.2.2.2.2.2.2.2.1 q.2.2.2.2.2.2.2.2.2.2.2.2.2.2.2.2.2.2.2.2.2.1 q.2.2.2.2.2.2.2.2.2.2.2.2.2.2.2.2.2.2.2.2.2.2.1 q.2.2.2.2.2.2.2.1 q.1 (fun v1 v2 v3 v4 v5 v6 v7 v8 v9 v10 v11 v12 v13 v14 v15 v16 v17 v18=>C58 (v1,v2,v3,v4,v5,v6,v7,v8,v9,v10,v11,v12,v13,v14,v15,v16,v17,v18,())) q.2.1
def Az2 (K:Nat)(C58:CT Aiz s_132)(n:Nat)(q:PT Azz):Rt s_132:=Ai5 K q.2.1 q.2.2.1 q.2.2.2.1 q.2.2.2.2.1 q.2.2.2.2.2.1 q.2.2.2.2.2.2.2.2.2.2.2.2.2.2.1 q.2.2.2.2.2.2.2.2.2.2.2.2.2.2.2.1 q.2.2.2.2.2.2.2.2.2.2.2.2.2.2.2.2.1 q.2.2.2.2.2.2.2.2.2.2.2.2.2.2.2.2.2.1 q.2.2.2.2.2.2.2.2.2.2.2.2.2.2.2.2.2.2.1 q.2.2.2.2.2.2.2.2.2.2.2.2.2.2.2.2.2.2.2.1 q.2.2.2.2.2.2.2.2.2.2.2.2.2.2.2.2.2.2.2.2.1 q.2.2.2.2.2.2.2.2.2.2.2.2.2.2.2.2.2.2.2.2.2.1 q.2.2.2.2.2.2.2.2.2.2.2.2.2.2.2.2.2.2.2.2.2.2.1 q.2.2.2.2.2.2.2.2.2.2.2.2.2.2.2.2.2.2.2.2.2.2.2.1 q.2.2.2.2.2.2.2.2.2.2.2.2.2.2.2.2.2.2.2.2.2.2.2.2.1 q.2.2.2.2.2.2.2.2.2.2.2.2.2.2.2.2.2.2.2.2.2.2.2.2.2.1 q.2.2.2.2.2.2.2.2.2.1 q.2.2.2.2.2.2.2.2.2.2.1 q.2.2.2.2.2.2.1 (fun v1 v2 v3 v4 v5 v6 v7 v8 v9 v10 v11 v12 v13 v14 v15 v16 v17 v18=>C58 (v1,v2,v3,v4,v5,v6,v7,v8,v9,v10,v11,v12,v13,v14,v15,v16,v17,v18,())) n q.1 q.2.2.2.2.2.2.2.1 q.2.2.2.2.2.2.2.2.1 q.2.2.2.2.2.2.2.2.2.2.2.2.1
def A05 (K:Nat)(C58:CT Aiz s_132)(q:PT A03):Rt s_132:=Apc K q.1 q.2.1 q.2.2.1 q.2.2.2.1 q.2.2.2.2.1 q.2.2.2.2.2.1 q.2.2.2.2.2.2.2.2.2.2.2.1 q.2.2.2.2.2.2.2.2.2.2.2.2.1 q.2.2.2.2.2.2.2.2.2.2.2.2.2.1 q.2.2.2.2.2.2.2.2.2.2.2.2.2.2.1 q.2.2.2.2.2.2.2.2.2.2.2.2.2.2.2.1 q.2.2.2.2.2.2.2.2.2.2.2.2.2.2.2.2.1 q.2.2.2.2.2.2.2.2.2.2.2.2.2.2.2.2.2.1 q.2.2.2.2.2.2.2.2.2.2.2.2.2.2.2.2.2.2.1 q.2.2.2.2.2.2.2.2.2.2.2.2.2.2.2.2.2.2.2.1 q.2.2.2.2.2.2.2.2.2.2.2.2.2.2.2.2.2.2.2.2.1 q.2.2.2.2.2.2.2.2.2.2.2.2.2.2.2.2.2.2.2.2.2.1 q.2.2.2.2.2.2.2.2.2.2.2.2.2.2.2.2.2.2.2.2.2.2.1 (fun v1 v2 v3 v4 v5 v6 v7 v8 v9 v10 v11 v12 v13 v14 v15 v16 v17 v18=>C58 (v1,v2,v3,v4,v5,v6,v7,v8,v9,v10,v11,v12,v13,v14,v15,v16,v17,v18,())) q.2.2.2.2.2.2.1 q.2.2.2.2.2.2.2.1 q.2.2.2.2.2.2.2.2.1 q.2.2.2.2.2.2.2.2.2.1 q.2.2.2.2.2.2.2.2.2.2.1
def A23 (K:Nat)(C122:CT Auv s_132)(q:PT A22):Rt s_132:=Ap7 K q.2.2.2.2.1 q.2.2.2.2.2.1 q.2.2.2.2.2.2.2.2.2.2.2.2.2.1 (fun v37 v38 v39=>C122 (q.1,q.2.1,q.2.2.1,q.2.2.2.1,v37,v38,q.2.2.2.2.2.2.1,q.2.2.2.2.2.2.2.1,q.2.2.2.2.2.2.2.2.1,q.2.2.2.2.2.2.2.2.2.1,q.2.2.2.2.2.2.2.2.2.2.1,q.2.2.2.2.2.2.2.2.2.2.2.1,q.2.2.2.2.2.2.2.2.2.2.2.2.1,v39,q.2.2.2.2.2.2.2.2.2.2.2.2.2.2.1,q.2.2.2.2.2.2.2.2.2.2.2.2.2.2.2.1,q.2.2.2.2.2.2.2.2.2.2.2.2.2.2.2.2.1,q.2.2.2.2.2.2.2.2.2.2.2.2.2.2.2.2.2.1,()))
def A06 (K:Nat)(C250:CT Auu s_132)(q:PT A04):Rt s_132:=Ak9 K q.2.2.2.1 q.2.2.2.2.1 q.2.2.2.2.2.2.2.2.2.2.2.2.2.2.1 (fun v40 v41 v42=>C250 (q.1,q.2.1,q.2.2.1,v40,v41,q.2.2.2.2.2.1,q.2.2.2.2.2.2.1,q.2.2.2.2.2.2.2.1,q.2.2.2.2.2.2.2.2.1,q.2.2.2.2.2.2.2.2.2.1,q.2.2.2.2.2.2.2.2.2.2.1,q.2.2.2.2.2.2.2.2.2.2.2.1,q.2.2.2.2.2.2.2.2.2.2.2.2.1,q.2.2.2.2.2.2.2.2.2.2.2.2.2.1,v42,q.2.2.2.2.2.2.2.2.2.2.2.2.2.2.2.1,q.2.2.2.2.2.2.2.2.2.2.2.2.2.2.2.2.1,()))
def Ayx (K:Nat)(n:Nat)(q:PT Auu):Rt s_132:=Aek K q.1 q.2.1 q.2.2.1 n q.2.2.2.1 q.2.2.2.2.1 q.2.2.2.2.2.2.2.2.2.2.2.2.2.2.1
def Ayy (K:Nat)(n:Nat)(q:PT Auv):Rt s_132:=Ag3 K q.1 q.2.1 q.2.2.1 q.2.2.2.1 q.2.2.2.2.2.2.2.2.2.2.2.2.2.2.2.1 n q.2.2.2.2.1 q.2.2.2.2.2.1 q.2.2.2.2.2.2.2.2.2.2.2.2.2.1
def Az3 (K:Nat)(n:Nat)(q:PT Aiz):Rt s_132:=Aa1 K n q.1 q.2.1 q.2.2.1 q.2.2.2.1 q.2.2.2.2.1 q.2.2.2.2.2.1 q.2.2.2.2.2.2.1 q.2.2.2.2.2.2.2.1 q.2.2.2.2.2.2.2.2.1 q.2.2.2.2.2.2.2.2.2.1 q.2.2.2.2.2.2.2.2.2.2.1 q.2.2.2.2.2.2.2.2.2.2.2.1 q.2.2.2.2.2.2.2.2.2.2.2.2.1 q.2.2.2.2.2.2.2.2.2.2.2.2.2.1 q.2.2.2.2.2.2.2.2.2.2.2.2.2.2.1 q.2.2.2.2.2.2.2.2.2.2.2.2.2.2.2.1 q.2.2.2.2.2.2.2.2.2.2.2.2.2.2.2.2.1 q.2.2.2.2.2.2.2.2.2.2.2.2.2.2.2.2.2.1
theorem A92 (K:Nat)(C58:CT Aiz s_132):AtL (Azj K) (fun n=>[]) [(58,ar Aiz C58)] (bd Tryz.f156) 239230 (Ay7 K C58):=fun n q=>by kernel_rfl
theorem Ba5 (K:Nat)(C58:CT Aiz s_132):AtJ (Azj K) [(239230,ar Ay6 (Ay7 K C58 K))] [(58,ar Aiz C58)] (bd Tryz.f156) 29903 (Az0 K C58):=fun q=>by kernel_rfl
theorem Ba6 (K:Nat)(C58:CT Aiz s_132):AtJ (Azj K) [(29903,ar Azx (Az0 K C58))] [(58,ar Aiz C58)] (bd Tryz.f156) 14951 (Az1 K C58):=fun q=>by kernel_rfl
theorem Ba7 (K:Nat)(C58:CT Aiz s_132):AtL (Azj K) (fun n=>[(14951,ar Azy (Az1 K C58))]) [(58,ar Aiz C58)] (bd Tryz.f156) 59802 (Az2 K C58):=fun n q=>by kernel_rfl
theorem Bc0 (K:Nat)(C58:CT Aiz s_132):AtJ (Azj K) [(59802,ar Azz (Az2 K C58 K))] [(58,ar Aiz C58)] (bd Tryz.f156) 3737 (A05 K C58):=fun q=>by kernel_rfl
theorem Bfx (K:Nat)(C122:CT Auv s_132):AtJ (Azj K) [] [(122,ar Auv C122)] (bd Tryz.f156) 979 (A23 K C122):=fun q=>by kernel_rfl
theorem Bc1 (K:Nat)(C250:CT Auu s_132):AtJ (Azj K) [] [(250,ar Auu C250)] (bd Tryz.f156) 2003 (A06 K C250):=fun q=>by kernel_rfl
theorem Bfy (K:Nat):AtL (Azj K) (fun n=>[(2003,ar A04 (A06 K (Ayx K n)))]) [] (bd Tryz.f156) 250 (Ayx K):=fun n q=>by kernel_rfl
theorem Bfz (K:Nat):AtL (Azj K) (fun n=>[(979,ar A22 (A23 K (Ayy K n))),(250,ar Auu (Ayx K K))]) [] (bd Tryz.f156) 122 (Ayy K):=fun n q=>by kernel_rfl
theorem Bku (K:Nat):AtL (Azj K) (fun n=>[(3737,ar A03 (A05 K (Az3 K n))),(122,ar Auv (Ayy K K))]) [] (bd Tryz.f156) 58 (Az3 K):=fun n q=>by kernel_rfl
theorem Axl (K:Nat):XF [.tmp 2] s_132 191 [979,2003,3737,14951,29903] (Azj K):=xkF (gC (Bcz K) (gC (Bi9 K) (gC (Bre K) (gC (Bwn K) (gC (Bwm K) gN))))) oN
theorem A93 (K:Nat)(C58:CT Aiz s_132)(n:Nat):CF [.tmp 2] s_132 191 [979,2003,3737,14951,29903] (bd Tryz.f156) [(58,ar Aiz C58)] 239230 (ar Ay6 (Ay7 K C58 n)):=
 Aei (Axl K) (A92 K C58) (fun n=>kN) n
theorem Ba8 (K:Nat)(C58:CT Aiz s_132):CF [.tmp 2] s_132 191 [979,2003,3737,14951,29903] (bd Tryz.f156) [(58,ar Aiz C58)] 29903 (ar Azx (Az0 K C58)):=
 Ala (Axl K) (Ba5 K C58) (kC (A93 K C58 K) kN)
theorem Ba9 (K:Nat)(C58:CT Aiz s_132):CF [.tmp 2] s_132 191 [979,2003,3737,14951,29903] (bd Tryz.f156) [(58,ar Aiz C58)] 14951 (ar Azy (Az1 K C58)):=
 Ala (Axl K) (Ba6 K C58) (kC (Ba8 K C58) kN)
theorem Bba (K:Nat)(C58:CT Aiz s_132)(n:Nat):CF [.tmp 2] s_132 191 [979,2003,3737,14951,29903] (bd Tryz.f156) [(58,ar Aiz C58)] 59802 (ar Azz (Az2 K C58 n)):=
 Aei (Axl K) (Ba7 K C58) (fun n=>(kC (Ao2 (by kernel_rfl) (Ba9 K C58)) kN)) n
theorem Bc2 (K:Nat)(C58:CT Aiz s_132):CF [.tmp 2] s_132 191 [979,2003,3737,14951,29903] (bd Tryz.f156) [(58,ar Aiz C58)] 3737 (ar A03 (A05 K C58)):=
 Ala (Axl K) (Bc0 K C58) (kC (Bba K C58 K) kN)
theorem Bf0 (K:Nat)(C122:CT Auv s_132):CF [.tmp 2] s_132 191 [979,2003,3737,14951,29903] (bd Tryz.f156) [(122,ar Auv C122)] 979 (ar A22 (A23 K C122)):=
 Ala (Axl K) (Bfx K C122) kN
theorem Bc3 (K:Nat)(C250:CT Auu s_132):CF [.tmp 2] s_132 191 [979,2003,3737,14951,29903] (bd Tryz.f156) [(250,ar Auu C250)] 2003 (ar A04 (A06 K C250)):=
 Ala (Axl K) (Bc1 K C250) kN
theorem Bf1 (K:Nat)(n:Nat):CF [.tmp 2] s_132 191 [979,2003,3737,14951,29903] (bd Tryz.f156) [] 250 (ar Auu (Ayx K n)):=
 Aei (Axl K) (Bfy K) (fun n=>(kC (Bc3 K (Ayx K n)) kN)) n
theorem Bf2 (K:Nat)(n:Nat):CF [.tmp 2] s_132 191 [979,2003,3737,14951,29903] (bd Tryz.f156) [] 122 (ar Auv (Ayy K n)):=
 Aei (Axl K) (Bfz K) (fun n=>(kC (Bf0 K (Ayy K n)) (kC (Ao2 (by kernel_rfl) (Bf1 K K)) kN))) n
theorem Bkv (K:Nat)(n:Nat):CF [.tmp 2] s_132 191 [979,2003,3737,14951,29903] (bd Tryz.f156) [] 58 (ar Aiz (Az3 K n)):=
 Aei (Axl K) (Bku K) (fun n=>(kC (Bc2 K (Az3 K n)) (kC (Ao2 (by kernel_rfl) (Bf2 K K)) kN))) n
theorem Bwo (K:Nat):OkF 156 (Bst K):=
 Aa6 (x:=Azj K) (L:=[(58,ar Aiz (Az3 K K))]) (c0:=bd Tryz.f156) (Axl K) (by intro a0;show @Eq _ _ _;kernel_rfl) (kC (Bkv K K) kN) Tryz.func156 trivial
def Avi (K:Nat)(a0:Eb):Option (Bool):=((Awf K a0.fC a0.fP).bind fun r1=>(bif r1 then(bif ((a0.fL.length:Int)==a0.fC.C0)then((Aq1 K a0).bind fun r2=>(bif r2 then((Awh K a0.fL).bind fun r3=>(bif r3 then((Aq2 K a0).bind fun r4=>(bif r4 then((Aqt K a0.Pr).bind fun r5=>some r5)else some false))else some false))else some false))else some false)else some false))
def Bsu:Sig:=⟨[.v 32],[.v 4],true⟩
def Bsv (K:Nat):Gb tyU:=⟨Bsu,Avi K⟩
def B3g (K:Nat):=xF Bsu [(153,B2c K),(154,Bsi K),(155,Bso K),(156,Bst K),(157,Beg K)] [] 35 [7,8,15,16,17,19,20,21,24,25,26,28,29,30] [] [] [] [.tmp 2]
theorem Bwp (K:Nat):OkF 87 (Bsv K):=
 Aa6 (x:=B3g K) (L:=[]) (c0:=bd Tryz.f87) (xkF (gC (B2d K) (gC (Bwi K) (gC (Bwl K) (gC (Bwo K) (gC (Bcs K) gN))))) oN) (by intro a0;show @Eq _ _ _;kernel_rfl) kN Tryz.func87 trivial
def Aq9 (K:Nat)(a0:List Int):Option ((List Int)):=(bif a0.isEmpty then Afd (some []) ((if(([]:List Int)++a0).length*1≤140737488355328∧(([]:List Int)++a0).length≤maxLen then some (([]:List Int)++a0)else none))else(if(([]:List Int)++a0).length*1≤140737488355328∧(([]:List Int)++a0).length≤maxLen then some (([]:List Int)++a0)else none))
def Bsw:Sig:=⟨[.v 22],[.n 22 true],true⟩
def Bsx (K:Nat):Gb tyU:=⟨Bsw,Aq9 K⟩
def B3h (K:Nat):=xF Bsw [] [] 8 [] [] [] [] [.tmp 2]
theorem Bwq (K:Nat):OkF 188 (Bsx K):=
 Aa6 (x:=B3h K) (L:=[]) (c0:=bd Tryz.f188) (xkF gN oN) (by intro a0;show @Eq _ _ _;kernel_rfl) kN Tryz.func188 trivial
def Asa (K:Nat)(a0:Dw):Option (Dw):=((Aq9 K a0.Fy).bind fun r1=>((Aen K a0.Hh).bind fun r2=>((Aen K a0.Fz).bind fun r3=>some (Dw.mk r1 r2 r3))))
def Bsy:Sig:=⟨[.v 28],[.n 28 true],true⟩
def Bkw (K:Nat):Gb tyU:=⟨Bsy,Asa K⟩
def B3i (K:Nat):=xF Bsy [(160,Bcr K),(188,Bsx K)] [] 13 [] [] [] [] [.cell 2 28]
theorem Bkx (K:Nat):OkF 158 (Bkw K):=
 Aa6 (x:=B3i K) (L:=[]) (c0:=bd Tryz.f158) (xkF (gC (A7x K) (gC (Bwq K) gN)) oN) (by intro a0;show @Eq _ _ _;kernel_rfl) kN Tryz.func158 trivial
def Apj (K:Nat)(a0:List A9):Option ((List A9)):=(bif a0.isEmpty then Afd (some []) ((if(([]:List A9)++a0).length*24≤140737488355328∧(([]:List A9)++a0).length≤maxLen then some (([]:List A9)++a0)else none))else(if(([]:List A9)++a0).length*24≤140737488355328∧(([]:List A9)++a0).length≤maxLen then some (([]:List A9)++a0)else none))
def Bsz:Sig:=⟨[.v 41],[.n 41 true],true⟩
def Bs0 (K:Nat):Gb tyU:=⟨Bsz,Apj K⟩
def B3j (K:Nat):=xF Bsz [] [] 8 [] [] [] [] [.tmp 2]
theorem Bwr (K:Nat):OkF 273 (Bs0 K):=
 Aa6 (x:=B3j K) (L:=[]) (c0:=bd Tryz.f273) (xkF gN oN) (by intro a0;show @Eq _ _ _;kernel_rfl) kN Tryz.func273 trivial
def Auh (K:Nat)(a0:Ba):Option (Ba):=((Aen K a0.Ae).bind fun r1=>((Apj K a0.Ea).bind fun r2=>((Aen K a0.Dg).bind fun r3=>some (Ba.mk a0.Hh a0.C2 a0.Ly a0.fUp a0.Gq a0.Bt a0.Gr a0.Gs r1 a0.Pq a0.Gt r2 r3))))
def Bs1:Sig:=⟨[.v 44],[.n 44 true],true⟩
def Bs2 (K:Nat):Gb tyU:=⟨Bs1,Auh K⟩
def B3k (K:Nat):=xF Bs1 [(160,Bcr K),(273,Bs0 K)] [] 16 [] [] [] [] [.cell 2 44]
theorem Bws (K:Nat):OkF 238 (Bs2 K):=
 Aa6 (x:=B3k K) (L:=[]) (c0:=bd Tryz.f238) (xkF (gC (A7x K) (gC (Bwr K) gN)) oN) (by intro a0;show @Eq _ _ _;kernel_rfl) kN Tryz.func238 trivial
def Anl (K:Nat)(a0:List Ba):Nat->(List Ba)->Int->Int->Option ((List Ba))
 |0,_,_,_=>none
 |n1+1,v1,v2,v3=>(bif (decide (v3<v2))then(if(0:Int)≤v3∧v3<(a0.length:Int)then((Auh K (gt a0 v3)).bind fun r4=>(if(v1++[r4]).length*152≤140737488355328∧(v1++[r4]).length≤maxLen then(Anl K a0 n1 (v1++[r4]) v2 (Aoa .i64 v3 1))else none))else none)else some v1)
def Ars (K:Nat)(a0:List Ba):Option ((List Ba)):=(Anl K a0 K ([]:List Ba) (a0.length:Int) 0)
def s_138:Sig:=⟨[.v 29],[.n 29 true],true⟩
def Bky (K:Nat):Gb tyU:=⟨s_138,Ars K⟩
def Bkz (K:Nat):=xF s_138 [(238,Bs2 K)] [] 20 [] [] [(16,[.put 3016])] [] [.tmp 2]
def A5v:E5:=⟨[(3,.o 1003 44 true),(7,.v 29),(8,.v 2),(9,.v 2)],[]⟩
def A5w (K:Nat)(n:Nat)(q:PT A5v):Rt s_138:=Anl K q.2.1 n q.1 q.2.2.1 q.2.2.2.1
theorem Bk0 (K:Nat):AtL (Bkz K) (fun n=>[]) [] (bd Tryz.f159) 58 (A5w K):=fun n q=>by kernel_rfl
theorem Bk1 (K:Nat):XF [.tmp 2] s_138 20 [] (Bkz K):=xkF (gC (Bws K) gN) oN
theorem Bk2 (K:Nat)(n:Nat):CF [.tmp 2] s_138 20 [] (bd Tryz.f159) [] 58 (ar A5v (A5w K n)):=
 Aei (Bk1 K) (Bk0 K) (fun n=>kN) n
theorem Bk3 (K:Nat):OkF 159 (Bky K):=
 Aa6 (x:=Bkz K) (L:=[(58,ar A5v (A5w K K))]) (c0:=bd Tryz.f159) (Bk1 K) (by intro a0;show @Eq _ _ _;kernel_rfl) (kC (Bk2 K K) kN) Tryz.func159 trivial
def Atj (K:Nat)(a0:Ax):Option (Ax):=((Aen K a0.Dg).bind fun r1=>((Aen K a0.Ae).bind fun r2=>some (Ax.mk a0.A5 a0.Bt r1 r2 a0.Gu)))
def Bs3:Sig:=⟨[.v 159],[.n 159 true],true⟩
def Bs4 (K:Nat):Gb tyU:=⟨Bs3,Atj K⟩
def B3l (K:Nat):=xF Bs3 [(160,Bcr K)] [] 12 [] [] [] [] [.cell 2 159]
theorem Bwt (K:Nat):OkF 161 (Bs4 K):=
 Aa6 (x:=B3l K) (L:=[]) (c0:=bd Tryz.f161) (xkF (gC (A7x K) gN) oN) (by intro a0;show @Eq _ _ _;kernel_rfl) kN Tryz.func161 trivial
def Anm (K:Nat):Nat->(List Ax)->Int->Int->Eb->Eb->Option (Eb)
 |0,_,_,_,_,_=>none
 |n1+1,v4,v5,v6,v7,v8=>(bif (decide (v6<v5))then(if(0:Int)≤v6∧v6<(v4.length:Int)then((Atj K (gt v4 v6)).bind fun r9=>(if(v7.fQ.length+1)*72≤140737488355328∧v7.fQ.length+1≤maxLen then(Anm K n1 v4 v5 (Aoa .i64 v6 1) (Eb.mk v7.fC v7.fP v7.fL ((v7.fQ++[(default:Ax)]).set (v7.fQ.length:Int).toNat r9) v7.Pr) v8)else none))else none)else some v7)
def Aqd (K:Nat)(a0:Eb):Option (Eb):=((Asa K a0.fP).bind fun r1=>((Ars K a0.fL).bind fun r2=>((Aen K a0.Pr).bind fun r3=>(Anm K K a0.fQ (a0.fQ.length:Int) 0 (Eb.mk a0.fC r1 r2 [] r3) (Eb.mk (Er.mk 0 0 0 0 0 0) (Dw.mk [] [] []) [] [] [])))))
def s_140:Sig:=⟨[.v 32],[.n 32 true],true⟩
def Beo (K:Nat):Gb tyU:=⟨s_140,Aqd K⟩
def Bk4 (K:Nat):=xF s_140 [(158,Bkw K),(159,Bky K),(160,Bcr K),(161,Bs4 K)] [] 34 [] [(5,[.take 103 10 6658]),(7,[.take 103 6 6654,.take 103 7 6655,.take 103 8 6656,.take 103 9 6657,.take 103 10 6658,.take 103 11 6659])] [] [] [.cell 2 32]
def A5x:E5:=⟨[(2,.p 102),(3,.p 103),(19,.v 30),(20,.v 2),(21,.v 2)],[(103,.st 32 true),(102,.st 32 true)]⟩
def A5y (K:Nat)(n:Nat)(q:PT A5x):Rt s_140:=Anm K n q.1 q.2.1 q.2.2.1 q.2.2.2.1 q.2.2.2.2.1
theorem Bk5 (K:Nat):AtL (Bk4 K) (fun n=>[]) [] (bd Tryz.f90) 58 (A5y K):=fun n q=>by kernel_rfl
theorem Bk6 (K:Nat):XF [.cell 2 32] s_140 34 [] (Bk4 K):=xkF (gC (Bkx K) (gC (Bk3 K) (gC (A7x K) (gC (Bwt K) gN)))) oN
theorem Bk7 (K:Nat)(n:Nat):CF [.cell 2 32] s_140 34 [] (bd Tryz.f90) [] 58 (ar A5x (A5y K n)):=
 Aei (Bk6 K) (Bk5 K) (fun n=>kN) n
theorem Bc4 (K:Nat):OkF 90 (Beo K):=
 Aa6 (x:=Bk4 K) (L:=[(58,ar A5x (A5y K K))]) (c0:=bd Tryz.f90) (Bk6 K) (by intro a0;show @Eq _ _ _;kernel_rfl) (kC (Bk7 K K) kN) Tryz.func90 trivial
def Axm (K:Nat)(a0:Eb)(a1:Int):Option (Eb×Fh):=((Aqd K a0).bind fun r1=>some (r1,(Fh.mk a1 (Ct.mk 0 0) (Fg.mk (Ct.mk 0 0) 0 0) [] 0 0 0)))
def Bs5:Sig:=⟨[.v 32,.v 3],[.n 32 true,.n 69 true],true⟩
def Bs6 (K:Nat):Gb tyU:=⟨Bs5,Axm K⟩
def B3m (K:Nat):=xF Bs5 [(90,Beo K)] [] 10 [] [] [] [] [.cell 4 32,.cell 5 69]
theorem Bwu (K:Nat):OkF 89 (Bs6 K):=
 Aa6 (x:=B3m K) (L:=[]) (c0:=bd Tryz.f89) (xkF (gC (Bc4 K) gN) oN) (by intro a0 a1;show @Eq _ _ _;kernel_rfl) kN Tryz.func89 trivial
def As3 (K:Nat)(a0:List Ba)(a1:Ct):Option (Int):=((Ag9 K a0 a1.A5).bind fun r1=>(bif r1 then(if(0:Int)≤a1.A5∧a1.A5<(a0.length:Int)then(bif (((gt a0 a1.A5).Hh) != 1)then some (-1)else(if(0:Int)≤a1.A5∧a1.A5<(a0.length:Int)then(bif (((gt a0 a1.A5).C2) != a1.C2)then some (-1)else some a1.A5)else none))else none)else some (-1)))
def Bs7:Sig:=⟨[.v 29,.v 34],[.v 3],true⟩
def Bk8 (K:Nat):Gb tyU:=⟨Bs7,As3 K⟩
def B3n (K:Nat):=xF Bs7 [(171,A0s K)] [] 32 [8,9,10,17,18,19] [] [] [] [.tmp 4]
theorem Bk9 (K:Nat):OkF 163 (Bk8 K):=
 Aa6 (x:=B3n K) (L:=[]) (c0:=bd Tryz.f163) (xkF (gC (Ay5 K) gN) oN) (by intro a0 a1;show @Eq _ _ _;kernel_rfl) kN Tryz.func163 trivial
def Ayp (K:Nat)(a0:List Ba)(a1:Int):Option (Int):=((Aut K a0 a1).bind fun r1=>some (r1.length:Int))
def Bs8:Sig:=⟨[.v 29,.v 3],[.v 3],true⟩
def Bs9 (K:Nat):Gb tyU:=⟨Bs8,Ayp K⟩
def B3o (K:Nat):=xF Bs8 [(232,Bel K)] [] 9 [] [] [] [] [.tmp 4]
theorem Bwv (K:Nat):OkF 162 (Bs9 K):=
 Aa6 (x:=B3o K) (L:=[]) (c0:=bd Tryz.f162) (xkF (gC (Bcx K) gN) oN) (by intro a0 a1;show @Eq _ _ _;kernel_rfl) kN Tryz.func162 trivial
def Awi (K:Nat)(a0:Eb)(a1:Ct):Option (Int):=((As3 K a0.fL a1).bind fun r1=>((Ayp K a0.fL r1).bind fun r2=>some r2))
def Bta:Sig:=⟨[.v 32,.v 34],[.v 3],true⟩
def Btb (K:Nat):Gb tyU:=⟨Bta,Awi K⟩
def B3p (K:Nat):=xF Bta [(162,Bs9 K),(163,Bk8 K)] [] 12 [] [] [] [] [.tmp 4]
theorem Bww (K:Nat):OkF 91 (Btb K):=
 Aa6 (x:=B3p K) (L:=[]) (c0:=bd Tryz.f91) (xkF (gC (Bwv K) (gC (Bk9 K) gN)) oN) (by intro a0 a1;show @Eq _ _ _;kernel_rfl) kN Tryz.func91 trivial
def Aui (K:Nat)(a0:Ct):Option (Bool):=(bif (decide (a0.A5≥0))then some (decide (a0.C2≥1))else some false)
def Btc:Sig:=⟨[.v 34],[.v 4],true⟩
def Btd (K:Nat):Gb tyU:=⟨Btc,Aui K⟩
def B3q (K:Nat):=xF Btc [] [] 11 [5,6] [] [] [] [.tmp 2]
theorem Bwx (K:Nat):OkF 164 (Btd K):=
 Aa6 (x:=B3q K) (L:=[]) (c0:=bd Tryz.f164) (xkF gN oN) (by intro a0;show @Eq _ _ _;kernel_rfl) kN Tryz.func164 trivial
def Avj (K:Nat)(v2:List Int)(v3:Int)(v4:Int)(C1:(List Int)->Int->Int->Option (Bool)):Option (Bool):=(C1 v2 v3 (Aoa .i64 v4 1))
def Art (K:Nat)(a0:List Ba)(r1:(List Int)):Nat->(List Int)->Int->Int->Option (Bool)
 |0,_,_,_=>none
 |n1+1,v2,v3,v4=>(bif (decide (v4<v3))then(if(0:Int)≤v4∧v4<(v2.length:Int)then(if(0:Int)≤(gt v2 v4)∧(gt v2 v4)<(a0.length:Int)then(bif (((gt a0 (gt v2 v4)).Hh) != 1)then some false else(bif (decide ((Aoa .i64 v4 1)<(r1.length:Int)))then(if(0:Int)≤(gt v2 v4)∧(gt v2 v4)<(a0.length:Int)then(if(0:Int)≤(Aoa .i64 v4 1)∧(Aoa .i64 v4 1)<(r1.length:Int)then(if(0:Int)≤(gt r1 (Aoa .i64 v4 1))∧(gt r1 (Aoa .i64 v4 1))<(a0.length:Int)then(bif (((gt a0 (gt v2 v4)).Gq) != ((gt a0 (gt r1 (Aoa .i64 v4 1))).Ly))then some false else(Avj K v2 v3 v4 (Art K a0 r1 n1)))else none)else none)else none)else(Avj K v2 v3 v4 (Art K a0 r1 n1))))else none)else none)else(bif (decide ((r1.length:Int)>0))then(if(0:Int)≤(Aob .i64 (r1.length:Int) 1)∧(Aob .i64 (r1.length:Int) 1)<(r1.length:Int)then(if(0:Int)≤(gt r1 (Aob .i64 (r1.length:Int) 1))∧(gt r1 (Aob .i64 (r1.length:Int) 1))<(a0.length:Int)then some (((gt a0 (gt r1 (Aob .i64 (r1.length:Int) 1))).fUp)==0)else none)else none)else some false))
def Axd (K:Nat)(a0:List Ba)(a1:Int):Option (Bool):=((Aut K a0 a1).bind fun r1=>(Art K a0 r1 K r1 (r1.length:Int) 0))
def s_146:Sig:=⟨[.v 29,.v 3],[.v 4],true⟩
def Bte (K:Nat):Gb tyU:=⟨s_146,Axd K⟩
def Bep (K:Nat):=xF s_146 [(232,Bel K)] [] 63 [28,29,49,50] [] [] [467] [.tmp 4]
def A24:E5:=⟨[(0,.v 29),(5,.v 26),(11,.v 26),(12,.v 2),(13,.v 2)],[]⟩
def Aww:E5:=⟨[(0,.v 29),(5,.v 26),(11,.v 26),(12,.v 2),(13,.v 2)],[]⟩
def A25 (K:Nat)(C58:CT Aww s_146)(q:PT A24):Rt s_146:=Avj K q.2.2.1 q.2.2.2.1 q.2.2.2.2.1 (fun v2 v3 v4=>C58 (q.1,q.2.1,v2,v3,v4,()))
def Az4 (K:Nat)(n:Nat)(q:PT Aww):Rt s_146:=Art K q.1 q.2.1 n q.2.2.1 q.2.2.2.1 q.2.2.2.2.1
theorem Bf3 (K:Nat)(C58:CT Aww s_146):AtJ (Bep K) [] [(58,ar Aww C58)] (bd Tryz.f165) 467 (A25 K C58):=fun q=>by kernel_rfl
theorem Bla (K:Nat):AtL (Bep K) (fun n=>[(467,ar A24 (A25 K (Az4 K n)))]) [] (bd Tryz.f165) 58 (Az4 K):=fun n q=>by kernel_rfl
theorem Bc5 (K:Nat):XF [.tmp 4] s_146 63 [467] (Bep K):=xkF (gC (Bcx K) gN) oN
theorem Bf4 (K:Nat)(C58:CT Aww s_146):CF [.tmp 4] s_146 63 [467] (bd Tryz.f165) [(58,ar Aww C58)] 467 (ar A24 (A25 K C58)):=
 Ala (Bc5 K) (Bf3 K C58) kN
theorem Blb (K:Nat)(n:Nat):CF [.tmp 4] s_146 63 [467] (bd Tryz.f165) [] 58 (ar Aww (Az4 K n)):=
 Aei (Bc5 K) (Bla K) (fun n=>(kC (Bf4 K (Az4 K n)) kN)) n
theorem Bwy (K:Nat):OkF 165 (Bte K):=
 Aa6 (x:=Bep K) (L:=[(58,ar Aww (Az4 K K))]) (c0:=bd Tryz.f165) (Bc5 K) (by intro a0 a1;show @Eq _ _ _;kernel_rfl) (kC (Blb K K) kN) Tryz.func165 trivial
def Auj (K:Nat)(a0:Eb)(a1:Ct):Option (Int×Int):=((Aui K a1).bind fun r1=>(bif (!r1)then some ((-1),1)else((As3 K a0.fL a1).bind fun r2=>(bif (decide (r2<0))then some ((-1),2)else((Axd K a0.fL r2).bind fun r3=>(bif (!r3)then some ((-1),2)else some (r2,0)))))))
def Btf:Sig:=⟨[.v 32,.v 34],[.v 3,.v 3],true⟩
def Btg (K:Nat):Gb tyU:=⟨Btf,Auj K⟩
def B3r (K:Nat):=xF Btf [(163,Bk8 K),(164,Btd K),(165,Bte K)] [] 24 [15,16] [] [] [] [.tmp 4,.tmp 5]
theorem Bwz (K:Nat):OkF 92 (Btg K):=
 Aa6 (x:=B3r K) (L:=[]) (c0:=bd Tryz.f92) (xkF (gC (Bk9 K) (gC (Bwx K) (gC (Bwy K) gN))) oN) (by intro a0 a1;show @Eq _ _ _;kernel_rfl) kN Tryz.func92 trivial
def Aru (K:Nat)(a0:Ba)(a1:Int):Option (Ax):=((Aen K a0.Dg).bind fun r1=>((Aen K a0.Ae).bind fun r2=>some (Ax.mk a1 a0.Bt r1 r2 0)))
def Bth:Sig:=⟨[.v 44,.v 3],[.n 159 true],true⟩
def Blc (K:Nat):Gb tyU:=⟨Bth,Aru K⟩
def B3s (K:Nat):=xF Bth [(160,Bcr K)] [] 15 [] [] [] [] [.cell 4 159]
theorem Bld (K:Nat):OkF 172 (Blc K):=
 Aa6 (x:=B3s K) (L:=[]) (c0:=bd Tryz.f172) (xkF (gC (A7x K) gN) oN) (by intro a0 a1;show @Eq _ _ _;kernel_rfl) kN Tryz.func172 trivial
def As4 (K:Nat)(v3:Dw)(v4:Dw):Option (Dw):=some v3
def Axe (K:Nat)(a0:Dw)(a1:Int):Option (Dw):=((Asa K a0).bind fun r1=>((Ac1 K a1 0 (Aob .i64 (Aaf (a0.Hh.length:Int) (a0.Fz.length:Int)) 1)).bind fun r2=>(bif r2 then(if(0:Int)≤a1∧a1<(a0.Hh.length:Int)then(bif ((gt a0.Hh a1)==1)then(if(0:Int)≤a1∧a1<(r1.Hh.length:Int)then(if(0:Int)≤a1∧a1<(r1.Fz.length:Int)then(As4 K (Dw.mk r1.Fy (r1.Hh.set a1.toNat 2) (r1.Fz.set a1.toNat (-1))) (Dw.mk [] [] []))else none)else none)else(As4 K r1 (Dw.mk [] [] [])))else none)else(As4 K r1 (Dw.mk [] [] [])))))
def s_149:Sig:=⟨[.v 28,.v 3],[.n 28 true],true⟩
def Bti (K:Nat):Gb tyU:=⟨s_149,Axe K⟩
def Ble (K:Nat):=xF s_149 [(88,A45 K),(158,Bkw K)] [] 35 [17,18] [(4,[.take 105 0 6680,.take 105 1 6681,.take 105 2 6682])] [] [7] [.cell 4 28]
def A94:E5:=⟨[(4,.p 104),(5,.p 105)],[(105,.st 28 true),(104,.st 28 true)]⟩
def A95 (K:Nat)(q:PT A94):Rt s_149:=As4 K q.1 q.2.1
theorem Bpz (K:Nat):AtJ (Ble K) [] [] (bd Tryz.f243) 7 (A95 K):=fun q=>by kernel_rfl
theorem Blf (K:Nat):XF [.cell 4 28] s_149 35 [7] (Ble K):=xkF (gC (A0r K) (gC (Bkx K) gN)) oN
theorem Bp0 (K:Nat):CF [.cell 4 28] s_149 35 [7] (bd Tryz.f243) [] 7 (ar A94 (A95 K)):=
 Ala (Blf K) (Bpz K) kN
theorem Bw0 (K:Nat):OkF 243 (Bti K):=
 Aa6 (x:=Ble K) (L:=[(7,ar A94 (A95 K))]) (c0:=bd Tryz.f243) (Blf K) (by intro a0 a1;show @Eq _ _ _;kernel_rfl) (kC (Bp0 K) kN) Tryz.func243 trivial
def Alh (K:Nat):Nat->(List Int)->Int->Int->Int->Int->Int->Int->Int->Int->(List Int)->(List Int)->(List Int)->Nat->(List Ax)->(List Int)->(List Ba)->Nat->Int->Int->Int->Int->Int->Int->Int->Int->Nat->Int->Int->(List A9)->(List Int)->Option (Eb)
 |0,_,_,_,_,_,_,_,_,_,_,_,_,_,_,_,_,_,_,_,_,_,_,_,_,_,_,_,_,_,_=>none
 |n1+1,v1,v2,v3,v4,v5,v6,v7,v8,v9,v10,v11,v12,v13,v14,v15,v16,v17,v18,v19,v20,v21,v22,v23,v24,v25,v26,v27,v28,v29,v30=>(bif (decide (v3<v2))then(if(0:Int)≤v3∧v3<(v1.length:Int)then((Axe K (Dw.mk v10 v11 v12) (gt v1 v3)).bind fun r31=>(Alh K n1 v1 v2 (Aoa .i64 v3 1) v4 v5 v6 v7 v8 v9 r31.Fy r31.Hh r31.Fz v13 v14 v15 v16 ((v17:Int).toNat) v18 v19 v20 v21 v22 v23 v24 v25 v26 v27 v28 v29 v30))else none)else some (Eb.mk (Er.mk v4 v5 v6 v7 v8 v9) (Dw.mk v10 v11 v12) (v16.set (v17:Int).toNat (Ba.mk v18 v19 v20 v21 v22 v23 v24 v25 v1 v27 v28 v29 v30)) v14 v15))
def Ar0 (K:Nat)(a0:Eb)(a1:Int):Option (Eb):=(if(0:Int)≤a1∧a1<(a0.fL.length:Int)then(if(0:Int)≤a1∧a1<(a0.fL.length:Int)then(Alh K K ((gt a0.fL a1).Ae) (((gt a0.fL a1).Ae).length:Int) 0 a0.fC.Ae a0.fC.Eg a0.fC.C0 a0.fC.E9 a0.fC.C1 a0.fC.Eh a0.fP.Fy a0.fP.Hh a0.fP.Fz a0.fL.length a0.fQ a0.Pr a0.fL a1.toNat ((gt a0.fL a1).Hh) ((gt a0.fL a1).C2) ((gt a0.fL a1).Ly) ((gt a0.fL a1).fUp) ((gt a0.fL a1).Gq) ((gt a0.fL a1).Bt) ((gt a0.fL a1).Gr) ((gt a0.fL a1).Gs) (((gt a0.fL a1).Ae).length) ((gt a0.fL a1).Pq) ((gt a0.fL a1).Gt) ((gt a0.fL a1).Ea) ((gt a0.fL a1).Dg))else none)else none)
def s_150:Sig:=⟨[.b 32 true,.v 3],[],true⟩
def Btj (K:Nat):Gb tyU:=⟨s_150,Ar0 K⟩
def Blg (K:Nat):=xF s_150 [(243,Bti K)] [] 29 [] [(0,[.take 1 9 5025,.opn 5025 (.tmp 1),.takeE 5025 8 41608]),(3,[.take 1 6 5022,.take 1 7 5023,.take 1 8 5024])] [] [] []
def A96:E5:=⟨[(0,.p 1),(13,.o 41608 3 true),(14,.v 2),(15,.v 2)],[(1,.ob [.v 2,.v 2,.v 2,.v 2,.v 2,.v 2,.T 5 true,.T 3 true,.T 3 true,.O 5025,.T 159 true,.T 3 true]),(5025,.opn 44 true [.v 2,.v 2,.v 2,.v 2,.v 2,.v 2,.v 2,.v 2,.O 41608,.v 2,.v 2,.T 89 true,.T 3 true])]⟩
def A97 (K:Nat)(n:Nat)(q:PT A96):Rt s_150:=Alh K n q.1 q.2.1 q.2.2.1 q.2.2.2.1 q.2.2.2.2.1 q.2.2.2.2.2.1 q.2.2.2.2.2.2.1 q.2.2.2.2.2.2.2.1 q.2.2.2.2.2.2.2.2.1 q.2.2.2.2.2.2.2.2.2.1 q.2.2.2.2.2.2.2.2.2.2.1 q.2.2.2.2.2.2.2.2.2.2.2.1 q.2.2.2.2.2.2.2.2.2.2.2.2.1 q.2.2.2.2.2.2.2.2.2.2.2.2.2.1 q.2.2.2.2.2.2.2.2.2.2.2.2.2.2.1 q.2.2.2.2.2.2.2.2.2.2.2.2.2.2.2.1 q.2.2.2.2.2.2.2.2.2.2.2.2.2.2.2.2.1 q.2.2.2.2.2.2.2.2.2.2.2.2.2.2.2.2.2.1 q.2.2.2.2.2.2.2.2.2.2.2.2.2.2.2.2.2.2.1 q.2.2.2.2.2.2.2.2.2.2.2.2.2.2.2.2.2.2.2.1 q.2.2.2.2.2.2.2.2.2.2.2.2.2.2.2.2.2.2.2.2.1 q.2.2.2.2.2.2.2.2.2.2.2.2.2.2.2.2.2.2.2.2.2.1 q.2.2.2.2.2.2.2.2.2.2.2.2.2.2.2.2.2.2.2.2.2.2.1 q.2.2.2.2.2.2.2.2.2.2.2.2.2.2.2.2.2.2.2.2.2.2.2.1 q.2.2.2.2.2.2.2.2.2.2.2.2.2.2.2.2.2.2.2.2.2.2.2.2.1 q.2.2.2.2.2.2.2.2.2.2.2.2.2.2.2.2.2.2.2.2.2.2.2.2.2.1 q.2.2.2.2.2.2.2.2.2.2.2.2.2.2.2.2.2.2.2.2.2.2.2.2.2.2.1 q.2.2.2.2.2.2.2.2.2.2.2.2.2.2.2.2.2.2.2.2.2.2.2.2.2.2.2.1 q.2.2.2.2.2.2.2.2.2.2.2.2.2.2.2.2.2.2.2.2.2.2.2.2.2.2.2.2.1 q.2.2.2.2.2.2.2.2.2.2.2.2.2.2.2.2.2.2.2.2.2.2.2.2.2.2.2.2.2.1
theorem Bp1 (K:Nat):AtL (Blg K) (fun n=>[]) [] (bd Tryz.f173) 6 (A97 K):=fun n q=>by kernel_rfl
theorem Blh (K:Nat):XF [] s_150 29 [] (Blg K):=xkF (gC (Bw0 K) gN) oN
theorem Bp2 (K:Nat)(n:Nat):CF [] s_150 29 [] (bd Tryz.f173) [] 6 (ar A96 (A97 K n)):=
 Aei (Blh K) (Bp1 K) (fun n=>kN) n
theorem Bw1 (K:Nat):OkF 173 (Btj K):=
 Aa6 (x:=Blg K) (L:=[(6,ar A96 (A97 K K))]) (c0:=bd Tryz.f173) (Blh K) (by intro a0 a1;show @Eq _ _ _;kernel_rfl) (kC (Bp2 K K) kN) Tryz.func173 trivial
def Auk (K:Nat)(a1:Int)(v9:List Ba):Option ((List Ba)):=(if(0:Int)≤a1∧a1<(v9.length:Int)then(Aql (v9.set a1.toNat (Ba.mk ((gt v9 a1).Hh) ((gt v9 a1).C2) ((gt v9 a1).Ly) 0 ((gt v9 a1).Gq) ((gt v9 a1).Bt) ((gt v9 a1).Gr) ((gt v9 a1).Gs) ((gt v9 a1).Ae) ((gt v9 a1).Pq) ((gt v9 a1).Gt) ((gt v9 a1).Ea) ((gt v9 a1).Dg))) fun v10=>(if(0:Int)≤a1∧a1<(v10.length:Int)then(Aql (v10.set a1.toNat (Ba.mk ((gt v10 a1).Hh) ((gt v10 a1).C2) ((gt v10 a1).Ly) ((gt v10 a1).fUp) 0 ((gt v10 a1).Bt) ((gt v10 a1).Gr) ((gt v10 a1).Gs) ((gt v10 a1).Ae) ((gt v10 a1).Pq) ((gt v10 a1).Gt) ((gt v10 a1).Ea) ((gt v10 a1).Dg))) fun v11=>(if(0:Int)≤a1∧a1<(v11.length:Int)then(Aql (v11.set a1.toNat (Ba.mk ((gt v11 a1).Hh) ((gt v11 a1).C2) ((gt v11 a1).Ly) ((gt v11 a1).fUp) ((gt v11 a1).Gq) ((gt v11 a1).Bt) 0 ((gt v11 a1).Gs) ((gt v11 a1).Ae) ((gt v11 a1).Pq) ((gt v11 a1).Gt) ((gt v11 a1).Ea) ((gt v11 a1).Dg))) fun v12=>(if(0:Int)≤a1∧a1<(v12.length:Int)then(Aql (v12.set a1.toNat (Ba.mk ((gt v12 a1).Hh) ((gt v12 a1).C2) ((gt v12 a1).Ly) ((gt v12 a1).fUp) ((gt v12 a1).Gq) ((gt v12 a1).Bt) ((gt v12 a1).Gr) 0 ((gt v12 a1).Ae) ((gt v12 a1).Pq) ((gt v12 a1).Gt) ((gt v12 a1).Ea) ((gt v12 a1).Dg))) fun v13=>some v13)else none))else none))else none))else none)
def Aqv (K:Nat)(a0:List Ba)(a1:Int)(v5:List Ba)(v6:Int):Option ((List Ba)):=((Ag9 K a0 v6).bind fun r7=>(bif r7 then(if(0:Int)≤a1∧a1<(v5.length:Int)then(if(0:Int)≤v6∧v6<(v5.length:Int)then(Aql (v5.set v6.toNat (Ba.mk ((gt v5 v6).Hh) ((gt v5 v6).C2) ((gt v5 v6).Ly) ((gt v5 v6).fUp) ((gt v5 v6).Gq) ((gt v5 v6).Bt) ((gt v5 v6).Gr) ((gt v5 a1).Gs) ((gt v5 v6).Ae) ((gt v5 v6).Pq) ((gt v5 v6).Gt) ((gt v5 v6).Ea) ((gt v5 v6).Dg))) fun v8=>(Auk K a1 v8))else none)else none)else(Auk K a1 v5)))
def Ap2 (K:Nat)(a0:List Ba)(a1:Int)(r1:(List Ba))(v15:Int)(v16:Int)(v17:Bool):Option ((List Ba)):=(bif v17 then(if(0:Int)≤a1∧a1<(r1.length:Int)then(if(0:Int)≤v16∧v16<(r1.length:Int)then(Aql (r1.set v16.toNat (Ba.mk ((gt r1 v16).Hh) ((gt r1 v16).C2) ((gt r1 v16).Ly) ((gt r1 v16).fUp) ((gt r1 v16).Gq) ((gt r1 a1).Gr) ((gt r1 v16).Gr) ((gt r1 v16).Gs) ((gt r1 v16).Ae) ((gt r1 v16).Pq) ((gt r1 v16).Gt) ((gt r1 v16).Ea) ((gt r1 v16).Dg))) fun v18=>(Aqv K a0 a1 v18 v15))else none)else none)else(Aqv K a0 a1 r1 v15))
def Awj (K:Nat)(a0:List Ba)(a1:Int):Option ((List Ba)):=((Ars K a0).bind fun r1=>((Ag9 K a0 a1).bind fun r2=>(bif (!r2)then some r1 else(if(0:Int)≤a1∧a1<(r1.length:Int)then(if(0:Int)≤a1∧a1<(r1.length:Int)then(if(0:Int)≤a1∧a1<(r1.length:Int)then((Ag9 K a0 (Aob .i64 ((gt r1 a1).Gs) 1)).bind fun r3=>(bif r3 then(if(0:Int)≤a1∧a1<(r1.length:Int)then(if(0:Int)≤(Aob .i64 ((gt r1 a1).Gs) 1)∧(Aob .i64 ((gt r1 a1).Gs) 1)<(r1.length:Int)then(Aql (r1.set (Aob .i64 ((gt r1 a1).Gs) 1).toNat (Ba.mk ((gt r1 (Aob .i64 ((gt r1 a1).Gs) 1)).Hh) ((gt r1 (Aob .i64 ((gt r1 a1).Gs) 1)).C2) ((gt r1 (Aob .i64 ((gt r1 a1).Gs) 1)).Ly) ((gt r1 (Aob .i64 ((gt r1 a1).Gs) 1)).fUp) ((gt r1 (Aob .i64 ((gt r1 a1).Gs) 1)).Gq) ((gt r1 (Aob .i64 ((gt r1 a1).Gs) 1)).Bt) ((gt r1 a1).Gr) ((gt r1 (Aob .i64 ((gt r1 a1).Gs) 1)).Gs) ((gt r1 (Aob .i64 ((gt r1 a1).Gs) 1)).Ae) ((gt r1 (Aob .i64 ((gt r1 a1).Gs) 1)).Pq) ((gt r1 (Aob .i64 ((gt r1 a1).Gs) 1)).Gt) ((gt r1 (Aob .i64 ((gt r1 a1).Gs) 1)).Ea) ((gt r1 (Aob .i64 ((gt r1 a1).Gs) 1)).Dg))) fun v4=>(Aqv K a0 a1 v4 (Aob .i64 ((gt r1 a1).Gr) 1)))else none)else none)else(if(0:Int)≤a1∧a1<(r1.length:Int)then(bif (((gt r1 a1).Gs)==0)then((Ag9 K a0 (Aob .i64 ((gt r1 a1).fUp) 1)).bind fun r14=>(bif r14 then(if(0:Int)≤(Aob .i64 ((gt r1 a1).fUp) 1)∧(Aob .i64 ((gt r1 a1).fUp) 1)<(r1.length:Int)then(Ap2 K a0 a1 r1 (Aob .i64 ((gt r1 a1).Gr) 1) (Aob .i64 ((gt r1 a1).fUp) 1) (((gt r1 (Aob .i64 ((gt r1 a1).fUp) 1)).Bt)==(Aoa .i64 a1 1)))else none)else(Ap2 K a0 a1 r1 (Aob .i64 ((gt r1 a1).Gr) 1) (Aob .i64 ((gt r1 a1).fUp) 1) false)))else(Ap2 K a0 a1 r1 (Aob .i64 ((gt r1 a1).Gr) 1) (Aob .i64 ((gt r1 a1).fUp) 1) false))else none)))else none)else none)else none))))
def s_151:Sig:=⟨[.v 29,.v 3],[.n 29 true],true⟩
def Btk (K:Nat):Gb tyU:=⟨s_151,Awj K⟩
def Bbb (K:Nat):=xF s_151 [(159,Bky K),(171,A0s K)] [] 107 [53,54,57,58,59] [] [] [31,63,499] [.tmp 4]
def A5z:E5:=⟨[(1,.v 2),(5,.o 1005 44 true)],[]⟩
def A1t:E5:=⟨[(0,.v 29),(1,.v 2),(5,.o 1005 44 true),(7,.v 2)],[]⟩
def A26:E5:=⟨[(0,.v 29),(1,.v 2),(5,.o 1005 44 true),(7,.v 2),(8,.v 2),(47,.v 4)],[]⟩
def A50 (K:Nat)(q:PT A5z):Rt s_151:=Auk K q.1 q.2.1
def A1u (K:Nat)(q:PT A1t):Rt s_151:=Aqv K q.1 q.2.1 q.2.2.1 q.2.2.2.1
def A27 (K:Nat)(q:PT A26):Rt s_151:=Ap2 K q.1 q.2.1 q.2.2.1 q.2.2.2.1 q.2.2.2.2.1 q.2.2.2.2.2.1
theorem Bli (K:Nat):AtJ (Bbb K) [] [] (bd Tryz.f177) 63 (A50 K):=fun q=>by kernel_rfl
theorem Blj (K:Nat):AtJ (Bbb K) [(63,ar A5z (A50 K))] [] (bd Tryz.f177) 31 (A1u K):=fun q=>by kernel_rfl
theorem Bf5 (K:Nat):AtJ (Bbb K) [(31,ar A1t (A1u K))] [] (bd Tryz.f177) 499 (A27 K):=fun q=>by kernel_rfl
theorem A98 (K:Nat):XF [.tmp 4] s_151 107 [31,63,499] (Bbb K):=xkF (gC (Bk3 K) (gC (Ay5 K) gN)) oN
theorem Bll (K:Nat):CF [.tmp 4] s_151 107 [31,63,499] (bd Tryz.f177) [] 63 (ar A5z (A50 K)):=
 Ala (A98 K) (Bli K) kN
theorem Bbc (K:Nat):CF [.tmp 4] s_151 107 [31,63,499] (bd Tryz.f177) [] 31 (ar A1t (A1u K)):=
 Ala (A98 K) (Blj K) (kC (Bll K) kN)
theorem Bf6 (K:Nat):CF [.tmp 4] s_151 107 [31,63,499] (bd Tryz.f177) [] 499 (ar A26 (A27 K)):=
 Ala (A98 K) (Bf5 K) (kC (Bbc K) kN)
theorem Bw2 (K:Nat):OkF 177 (Btk K):=
 Aa6 (x:=Bbb K) (L:=[(31,ar A1t (A1u K)),(499,ar A26 (A27 K))]) (c0:=bd Tryz.f177) (A98 K) (by intro a0 a1;show @Eq _ _ _;kernel_rfl) (kC (Bbc K) (kC (Bf6 K) kN)) Tryz.func177 trivial
def Az5 (K:Nat)(a0:Ba):Option (Ba):=some (Ba.mk 2 a0.C2 0 0 0 0 0 0 [] 0 0 [] [])
def Btl:Sig:=⟨[.v 44],[.n 44 true],true⟩
def Btm (K:Nat):Gb tyU:=⟨Btl,Az5 K⟩
def B3t (K:Nat):=xF Btl [] [] 6 [] [] [] [] [.cell 2 44]
theorem Bw3 (K:Nat):OkF 178 (Btm K):=
 Aa6 (x:=B3t K) (L:=[]) (c0:=bd Tryz.f178) (xkF gN oN) (by intro a0;show @Eq _ _ _;kernel_rfl) kN Tryz.func178 trivial
def Axf (K:Nat)(a0:Eb)(a1:Int):Option (Eb):=((Aqd K a0).bind fun r1=>((Ag9 K a0.fL a1).bind fun r2=>(bif r2 then(if(0:Int)≤a1∧a1<(a0.fL.length:Int)then(bif (((gt a0.fL a1).Hh) != 1)then some r1 else(if(0:Int)≤a1∧a1<(a0.fL.length:Int)then((Aru K (gt a0.fL a1) (Aoa .i64 a1 1)).bind fun r3=>(if(r1.fQ.length+1)*72≤140737488355328∧r1.fQ.length+1≤maxLen then((Ar0 K (Eb.mk r1.fC r1.fP r1.fL ((r1.fQ++[(default:Ax)]).set (r1.fQ.length:Int).toNat r3) r1.Pr) a1).bind fun r4=>((Awj K r4.fL a1).bind fun r5=>(if(0:Int)≤a1∧a1<(r5.length:Int)then(if(0:Int)≤a1∧a1<(r5.length:Int)then((Az5 K (gt r5 a1)).bind fun r6=>(if(0:Int)≤a1∧a1<(r5.length:Int)then some (Eb.mk r4.fC r4.fP (r5.set a1.toNat r6) r4.fQ r4.Pr)else none))else none)else none)))else none))else none))else none)else some r1)))
def Btn:Sig:=⟨[.v 32,.v 3],[.n 32 true],true⟩
def Bto (K:Nat):Gb tyU:=⟨Btn,Axf K⟩
def B3u (K:Nat):=xF Btn [(90,Beo K),(171,A0s K),(172,Blc K),(173,Btj K),(177,Btk K),(178,Btm K)] [] 54 [11,12,13] [(5,[.put 105]),(6,[.take 105 9 6689]),(7,[.opn 3041 (.tmp 1),.takeE 3041 8 42632,.takeE 3041 11 42635,.takeE 3041 12 42636]),(8,[.take 105 6 6686,.take 105 7 6687,.take 105 8 6688,.take 105 10 6690,.take 105 11 6691])] [] [] [.cell 4 32]
theorem Bw4 (K:Nat):OkF 105 (Bto K):=
 Aa6 (x:=B3u K) (L:=[]) (c0:=bd Tryz.f105) (xkF (gC (Bc4 K) (gC (Ay5 K) (gC (Bld K) (gC (Bw1 K) (gC (Bw2 K) (gC (Bw3 K) gN)))))) oN) (by intro a0 a1;show @Eq _ _ _;kernel_rfl) kN Tryz.func105 trivial
def Arv (K:Nat)(a0:Eb)(a1:Ct):Option (Eb×Fh):=((Avi K a0).bind fun r1=>(bif (!r1)then((Axm K a0 1).bind fun r2=>some (r2.1,r2.2))else((Awi K a0 a1).bind fun r3=>((Auj K a0 a1).bind fun r4=>(bif (r4.2 != 0)then((Aqd K a0).bind fun r5=>some (r5,(Fh.mk r4.2 (Ct.mk 0 0) (Fg.mk (Ct.mk 0 0) 0 0) [] r3 0 0)))else((Axf K a0 r4.1).bind fun r6=>some (r6,(Fh.mk r4.2 (Ct.mk 0 0) (Fg.mk (Ct.mk 0 0) 0 0) [] r3 0 0))))))))
def Btp:Sig:=⟨[.v 32,.v 34,.f 105 [] []],[.n 32 true,.n 69 true],true⟩
def Btq (K:Nat):Gb tyU:=⟨Btp,Arv K⟩
def B3v (K:Nat):=xF Btp [(87,Bsv K),(89,Bs6 K),(90,Beo K),(91,Btb K),(92,Btg K),(105,Bto K)] [] 40 [] [(7,[.take 108 7 6735]),(8,[.take 108 7 6735])] [] [] [.cell 6 32,.cell 7 69]
theorem Bw5 (K:Nat):OkF 102 (Btq K):=
 Aa6 (x:=B3v K) (L:=[]) (c0:=bd Tryz.f102) (xkF (gC (Bwp K) (gC (Bwu K) (gC (Bc4 K) (gC (Bww K) (gC (Bwz K) (gC (Bw4 K) gN)))))) oN) (by intro a0 a1;show @Eq _ _ _;kernel_rfl) kN Tryz.func102 trivial
def Avk (K:Nat)(a0:Eb)(a1:Ct):Option (Eb×Fh):=((Arv K a0 a1).bind fun r1=>some (r1.1,r1.2))
def Btr:Sig:=⟨[.v 32,.v 34],[.n 32 true,.n 69 true],true⟩
def Bts (K:Nat):Gb tyU:=⟨Btr,Avk K⟩
def B3w (K:Nat):=xF Btr [(102,Btq K)] [] 11 [] [] [] [] [.cell 4 32,.cell 5 69]
theorem Bw6 (K:Nat):OkF 42 (Bts K):=
 Aa6 (x:=B3w K) (L:=[]) (c0:=bd Tryz.f42) (xkF (gC (Bw5 K) gN) oN) (by intro a0 a1;show @Eq _ _ _;kernel_rfl) kN Tryz.func42 trivial
def Aul (K:Nat)(a0:Er)(a1:Int):Option (Int):=((Avc K a1 a0.C1).bind fun r1=>some r1)
def Btt:Sig:=⟨[.v 25,.v 3],[.v 3],true⟩
def Btu (K:Nat):Gb tyU:=⟨Btt,Aul K⟩
def B3x (K:Nat):=xF Btt [(199,Bjc K)] [] 9 [] [] [] [] [.tmp 4]
theorem Bw7 (K:Nat):OkF 261 (Btu K):=
 Aa6 (x:=B3x K) (L:=[]) (c0:=bd Tryz.f261) (xkF (gC (Bjd K) gN) oN) (by intro a0 a1;show @Eq _ _ _;kernel_rfl) kN Tryz.func261 trivial
def Ass (K:Nat)(v2:Int)(v3:Int)(v4:Int)(v5:Int)(v6:List Int)(v7:List Int)(v8:Int)(C1:Int->Int->Int->Int->Int->(List Int)->(List Int)->Int->Option (Int))(v10:Int):Option (Int):=(C1 v10 v2 (Aoa .i64 v3 1) v4 v5 v6 v7 v8)
def Apd (K:Nat)(a0:Er):Nat->Int->Int->Int->Int->Int->(List Int)->(List Int)->Int->Option (Int)
 |0,_,_,_,_,_,_,_,_=>none
 |n1+1,v1,v2,v3,v4,v5,v6,v7,v8=>(bif (decide (v3<v2))then(bif (v3==0)then((Aul K a0 (Aob .i64 a0.Eg v8)).bind fun r9=>(Ass K v2 v3 v4 v5 v6 v7 v8 (Apd K a0 n1) (Aoa .i64 v1 r9)))else((Aul K a0 a0.Eg).bind fun r11=>(Ass K v2 v3 v4 v5 v6 v7 v8 (Apd K a0 n1) (Aoa .i64 v1 r11))))else some v1)
def Asb (K:Nat)(a0:Er)(a1:Ax):Option (Int):=(Apd K a0 K (Aoa .i64 (a1.Dg.length:Int) 1) (a1.Ae.length:Int) 0 a1.A5 a1.Bt a1.Dg a1.Ae a1.Gu)
def s_157:Sig:=⟨[.v 25,.v 159],[.v 3],true⟩
def Blm (K:Nat):Gb tyU:=⟨s_157,Asb K⟩
def Beq (K:Nat):=xF s_157 [(261,Btu K)] [] 36 [] [] [] [467] [.tmp 4]
def A28:E5:=⟨[(2,.p 102),(3,.p 103),(5,.v 2),(13,.v 2),(14,.v 2)],[(103,.box [.v 2,.v 2,.v 26,.v 26,.v 2]),(102,.st 25 true)]⟩
def Awx:E5:=⟨[(2,.p 102),(3,.p 103),(5,.v 2),(13,.v 2),(14,.v 2)],[(103,.box [.v 2,.v 2,.v 26,.v 26,.v 2]),(102,.st 25 true)]⟩
def A29 (K:Nat)(C58:CT Awx s_157)(q:PT A28):Rt s_157:=Ass K q.2.1 q.2.2.1 q.2.2.2.1 q.2.2.2.2.1 q.2.2.2.2.2.1 q.2.2.2.2.2.2.1 q.2.2.2.2.2.2.2.1 (fun v1 v2 v3 v4 v5 v6 v7 v8=>C58 (v1,v2,v3,v4,v5,v6,v7,v8,q.2.2.2.2.2.2.2.2.1,())) q.1
def Az6 (K:Nat)(n:Nat)(q:PT Awx):Rt s_157:=Apd K q.2.2.2.2.2.2.2.2.1 n q.1 q.2.1 q.2.2.1 q.2.2.2.1 q.2.2.2.2.1 q.2.2.2.2.2.1 q.2.2.2.2.2.2.1 q.2.2.2.2.2.2.2.1
theorem Bf7 (K:Nat)(C58:CT Awx s_157):AtJ (Beq K) [] [(58,ar Awx C58)] (bd Tryz.f205) 467 (A29 K C58):=fun q=>by kernel_rfl
theorem Bln (K:Nat):AtL (Beq K) (fun n=>[(467,ar A28 (A29 K (Az6 K n)))]) [] (bd Tryz.f205) 58 (Az6 K):=fun n q=>by kernel_rfl
theorem Bc6 (K:Nat):XF [.tmp 4] s_157 36 [467] (Beq K):=xkF (gC (Bw7 K) gN) oN
theorem Bf8 (K:Nat)(C58:CT Awx s_157):CF [.tmp 4] s_157 36 [467] (bd Tryz.f205) [(58,ar Awx C58)] 467 (ar A28 (A29 K C58)):=
 Ala (Bc6 K) (Bf7 K C58) kN
theorem Blo (K:Nat)(n:Nat):CF [.tmp 4] s_157 36 [467] (bd Tryz.f205) [] 58 (ar Awx (Az6 K n)):=
 Aei (Bc6 K) (Bln K) (fun n=>(kC (Bf8 K (Az6 K n)) kN)) n
theorem Blp (K:Nat):OkF 205 (Blm K):=
 Aa6 (x:=Beq K) (L:=[(58,ar Awx (Az6 K K))]) (c0:=bd Tryz.f205) (Bc6 K) (by intro a0 a1;show @Eq _ _ _;kernel_rfl) (kC (Blo K K) kN) Tryz.func205 trivial
def Ara (K:Nat)(Rc:Eb->(List Int)->(List Bool)->Option (Int×(List Bool)))(v3:Int)(v4:Int)(v5:Int)(v6:Int)(v7:Int)(v8:Int)(v9:Int)(v10:Int)(v11:List Int)(v12:List Int)(v13:List Int)(v14:List Ba)(v15:List Ax)(v16:List Int)(C1:(List Bool)->Int->Int->Int->Int->Int->Int->Int->Int->Int->(List Int)->(List Int)->(List Int)->(List Ba)->(List Ax)->(List Int)->Option (Int×(List Bool)))(v17:List Bool)(v18:Int):Option (Int×(List Bool)):=(C1 v17 v18 v3 (Aoa .i64 v4 1) v5 v6 v7 v8 v9 v10 v11 v12 v13 v14 v15 v16)
def Amb (K:Nat)(Rc:Eb->(List Int)->(List Bool)->Option (Int×(List Bool)))(a1:List Int):Nat->(List Bool)->Int->Int->Int->Int->Int->Int->Int->Int->Int->(List Int)->(List Int)->(List Int)->(List Ba)->(List Ax)->(List Int)->Option (Int×(List Bool))
 |0,_,_,_,_,_,_,_,_,_,_,_,_,_,_,_,_=>none
 |n1+1,v1,v2,v3,v4,v5,v6,v7,v8,v9,v10,v11,v12,v13,v14,v15,v16=>(bif (decide (v4<v3))then(if(0:Int)≤v4∧v4<(a1.length:Int)then(if(0:Int)≤(gt a1 v4)∧(gt a1 v4)<(v1.length:Int)then(bif (gt v1 (gt a1 v4))then(Ara K Rc v3 v4 v5 v6 v7 v8 v9 v10 v11 v12 v13 v14 v15 v16 (Amb K Rc a1 n1) v1 v2)else(if(0:Int)≤(gt a1 v4)∧(gt a1 v4)<(v1.length:Int)then(if(0:Int)≤(gt a1 v4)∧(gt a1 v4)<(v14.length:Int)then((Aru K (gt v14 (gt a1 v4)) 0).bind fun r19=>((Asb K (Er.mk v5 v6 v7 v8 v9 v10) r19).bind fun r20=>(if(0:Int)≤(gt a1 v4)∧(gt a1 v4)<(v14.length:Int)then((Ash K v14 ((gt v14 (gt a1 v4)).Bt)).bind fun r21=>((Rc (Eb.mk (Er.mk v5 v6 v7 v8 v9 v10) (Dw.mk v11 v12 v13) v14 v15 v16) r21 (v1.set (gt a1 v4).toNat true)).bind fun r22=>(if r22.2.length=(v1.set (gt a1 v4).toNat true).length then(Ara K Rc v3 v4 v5 v6 v7 v8 v9 v10 v11 v12 v13 v14 v15 v16 (Amb K Rc a1 n1) r22.2 (Aoa .i64 v2 (Aoa .i64 (Aoa .i64 1 r20) r22.1)))else none)))else none)))else none)else none))else none)else none)else some (v2,v1))
def Avl (K:Nat)(Rc:Eb->(List Int)->(List Bool)->Option (Int×(List Bool)))(a0:Eb)(a1:List Int)(a2:List Bool):Option (Int×(List Bool)):=(Amb K Rc a1 K a2 0 (a1.length:Int) 0 a0.fC.Ae a0.fC.Eg a0.fC.C0 a0.fC.E9 a0.fC.C1 a0.fC.Eh a0.fP.Fy a0.fP.Hh a0.fP.Fz a0.fL a0.fQ a0.Pr)
def Ak7:Nat->Eb->(List Int)->(List Bool)->Option (Int×(List Bool))
 |0,_,_,_=>none
 |K+1,a0,a1,a2=>Avl K (Ak7 K) a0 a1 a2
def s_158:Sig:=⟨[.v 32,.v 26,.w 224 true [(4,true)]],[.v 3],true⟩
def Btv (K:Nat):Gb tyU:=⟨s_158,Ak7 K⟩
def Ber (K:Nat)(Rc:Eb->(List Int)->(List Bool)->Option (Int×(List Bool))):=xF s_158 [(172,Blc K),(205,Blm K),(206,Ben K),(262,⟨s_158,Rc⟩)] [] 50 [] [] [] [467] [.tmp 6]
def A3a:E5:=⟨[(2,.o 1 4 true),(3,.p 103),(7,.v 2),(10,.v 26),(11,.v 2),(12,.v 2)],[(103,.box [.v 2,.v 2,.v 2,.v 2,.v 2,.v 2,.v 22,.v 26,.v 26,.v 29,.v 30,.v 26])]⟩
def Awy:E5:=⟨[(2,.o 1 4 true),(3,.p 103),(7,.v 2),(10,.v 26),(11,.v 2),(12,.v 2)],[(103,.box [.v 2,.v 2,.v 2,.v 2,.v 2,.v 2,.v 22,.v 26,.v 26,.v 29,.v 30,.v 26])]⟩
def A3b (K:Nat)(Rc:Eb->(List Int)->(List Bool)->Option (Int×(List Bool)))(C58:CT Awy s_158)(q:PT A3a):Rt s_158:=Ara K Rc q.2.2.2.1 q.2.2.2.2.1 q.2.2.2.2.2.1 q.2.2.2.2.2.2.1 q.2.2.2.2.2.2.2.1 q.2.2.2.2.2.2.2.2.1 q.2.2.2.2.2.2.2.2.2.1 q.2.2.2.2.2.2.2.2.2.2.1 q.2.2.2.2.2.2.2.2.2.2.2.1 q.2.2.2.2.2.2.2.2.2.2.2.2.1 q.2.2.2.2.2.2.2.2.2.2.2.2.2.1 q.2.2.2.2.2.2.2.2.2.2.2.2.2.2.1 q.2.2.2.2.2.2.2.2.2.2.2.2.2.2.2.1 q.2.2.2.2.2.2.2.2.2.2.2.2.2.2.2.2.1 (fun v1 v2 v3 v4 v5 v6 v7 v8 v9 v10 v11 v12 v13 v14 v15 v16=>C58 (v1,v2,q.2.2.1,v3,v4,v5,v6,v7,v8,v9,v10,v11,v12,v13,v14,v15,v16,())) q.1 q.2.1
def Az7 (K:Nat)(Rc:Eb->(List Int)->(List Bool)->Option (Int×(List Bool)))(n:Nat)(q:PT Awy):Rt s_158:=Amb K Rc q.2.2.1 n q.1 q.2.1 q.2.2.2.1 q.2.2.2.2.1 q.2.2.2.2.2.1 q.2.2.2.2.2.2.1 q.2.2.2.2.2.2.2.1 q.2.2.2.2.2.2.2.2.1 q.2.2.2.2.2.2.2.2.2.1 q.2.2.2.2.2.2.2.2.2.2.1 q.2.2.2.2.2.2.2.2.2.2.2.1 q.2.2.2.2.2.2.2.2.2.2.2.2.1 q.2.2.2.2.2.2.2.2.2.2.2.2.2.1 q.2.2.2.2.2.2.2.2.2.2.2.2.2.2.1 q.2.2.2.2.2.2.2.2.2.2.2.2.2.2.2.1 q.2.2.2.2.2.2.2.2.2.2.2.2.2.2.2.2.1
theorem Bf9 (K:Nat)(Rc:Eb->(List Int)->(List Bool)->Option (Int×(List Bool)))(C58:CT Awy s_158):AtJ (Ber K Rc) [] [(58,ar Awy C58)] (bd Tryz.f262) 467 (A3b K Rc C58):=fun q=>by kernel_rfl
theorem Blq (K:Nat)(Rc:Eb->(List Int)->(List Bool)->Option (Int×(List Bool))):AtL (Ber K Rc) (fun n=>[(467,ar A3a (A3b K Rc (Az7 K Rc n)))]) [] (bd Tryz.f262) 58 (Az7 K Rc):=fun n q=>by kernel_rfl
theorem B3y (K:Nat)(Rc:Eb->(List Int)->(List Bool)->Option (Int×(List Bool))):EqF s_158 (Ber K Rc [(58,ar Awy (Az7 K Rc K))] []) (bd Tryz.f262) (Avl K Rc):=by
 intro a0 a1 a2;show @Eq _ _ _;kernel_rfl
theorem Bc7 (K:Nat)(Rc:Eb->(List Int)->(List Bool)->Option (Int×(List Bool)))(hR:Gb.Ok tyU Tryz.prog 262 ⟨s_158,Rc⟩∧E2 Tryz.prog 262):XF [.tmp 6] s_158 50 [467] (Ber K Rc):=xkF (gC (Bld K) (gC (Blp K) (gC (Bcz K) (gC hR gN)))) oN
theorem Bga (K:Nat)(Rc:Eb->(List Int)->(List Bool)->Option (Int×(List Bool)))(hR:Gb.Ok tyU Tryz.prog 262 ⟨s_158,Rc⟩∧E2 Tryz.prog 262)(C58:CT Awy s_158):CF [.tmp 6] s_158 50 [467] (bd Tryz.f262) [(58,ar Awy C58)] 467 (ar A3a (A3b K Rc C58)):=
 Ala (Bc7 K Rc hR) (Bf9 K Rc C58) kN
theorem Blr (K:Nat)(Rc:Eb->(List Int)->(List Bool)->Option (Int×(List Bool)))(hR:Gb.Ok tyU Tryz.prog 262 ⟨s_158,Rc⟩∧E2 Tryz.prog 262)(n:Nat):CF [.tmp 6] s_158 50 [467] (bd Tryz.f262) [] 58 (ar Awy (Az7 K Rc n)):=
 Aei (Bc7 K Rc hR) (Blq K Rc) (fun n=>(kC (Bga K Rc hR (Az7 K Rc n)) kN)) n
theorem Bls: ∀K:Nat,Gb.Ok tyU Tryz.prog 262 (Btv K)∧E2 Tryz.prog 262
 |0=>⟨(by intro a0 a1 a2 r h;cases h),_,Tryz.func262,rfl,rfl⟩
 |K+1=>have ih:=Bls K;Ao1 (Bc7 K (Ak7 K) ih) Apn (B3y K (Ak7 K)) (kC (Blr K (Ak7 K) ih K) kN) Tryz.func262 rfl rfl rfl rfl rfl rfl rfl ⟨fun _=>rfl,trivial⟩
def Awk (K:Nat)(a0:Eb)(a1:Int):Option (Int):=((Ag9 K a0.fL a1).bind fun r1=>(bif (!r1)then some 0 else(if(0:Int)≤(a0.fL.length:Int)∧(a0.fL.length:Int)≤(a0.fL.length:Int)∧(1:Int)*(a0.fL.length:Int)≤281474976710656∧(a0.fL.length:Int)≤9223372036854775807 then((Ak7 K a0 ([a1]:List Int) (List.replicate (a0.fL.length:Int).toNat false)).bind fun r2=>(if r2.2.length=(List.replicate (a0.fL.length:Int).toNat false).length then some r2.1 else none))else none)))
def Btw:Sig:=⟨[.v 32,.v 3],[.v 3],true⟩
def Btx (K:Nat):Gb tyU:=⟨Btw,Awk K⟩
def B3z (K:Nat):=xF Btw [(171,A0s K),(262,Btv K)] [] 18 [] [] [] [] [.tmp 4]
theorem Bw8 (K:Nat):OkF 207 (Btx K):=
 Aa6 (x:=B3z K) (L:=[]) (c0:=bd Tryz.f207) (xkF (gC (Ay5 K) (gC (Bls K) gN)) oN) (by intro a0 a1;show @Eq _ _ _;kernel_rfl) kN Tryz.func207 trivial
def Aqw (K:Nat)(r3:(List Int)):Nat->Int->Int->Int->Int->Int->Int->Int->Int->Int->(List Int)->(List Int)->(List Int)->(List Ba)->(List Ax)->(List Int)->Option (Int)
 |0,_,_,_,_,_,_,_,_,_,_,_,_,_,_,_=>none
 |n1+1,v4,v5,v6,v7,v8,v9,v10,v11,v12,v13,v14,v15,v16,v17,v18=>(bif (decide (v6<v5))then(if(0:Int)≤v6∧v6<(r3.length:Int)then((Awk K (Eb.mk (Er.mk v7 v8 v9 v10 v11 v12) (Dw.mk v13 v14 v15) v16 v17 v18) (gt r3 v6)).bind fun r19=>(Aqw K r3 n1 (Aoa .i64 v4 r19) v5 (Aoa .i64 v6 1) v7 v8 v9 v10 v11 v12 v13 v14 v15 v16 v17 v18))else none)else some v4)
def Awl (K:Nat)(a0:Eb)(a1:Int):Option (Int):=((Ac1 K a1 0 (Aob .i64 (a0.fQ.length:Int) 1)).bind fun r1=>(bif (!r1)then some 0 else(if(0:Int)≤a1∧a1<(a0.fQ.length:Int)then((Asb K a0.fC (gt a0.fQ a1)).bind fun r2=>(if(0:Int)≤a1∧a1<(a0.fQ.length:Int)then((Ash K a0.fL ((gt a0.fQ a1).Bt)).bind fun r3=>(Aqw K r3 K r2 (r3.length:Int) 0 a0.fC.Ae a0.fC.Eg a0.fC.C0 a0.fC.E9 a0.fC.C1 a0.fC.Eh a0.fP.Fy a0.fP.Hh a0.fP.Fz a0.fL a0.fQ a0.Pr))else none))else none)))
def s_160:Sig:=⟨[.v 32,.v 3],[.v 3],true⟩
def Bty (K:Nat):Gb tyU:=⟨s_160,Awl K⟩
def Blt (K:Nat):=xF s_160 [(88,A45 K),(205,Blm K),(206,Ben K),(207,Btx K)] [] 44 [] [] [] [] [.tmp 4]
def A3c:E5:=⟨[(2,.p 102),(5,.v 2),(31,.v 26),(32,.v 2),(33,.v 2)],[(102,.box [.v 2,.v 2,.v 2,.v 2,.v 2,.v 2,.v 22,.v 26,.v 26,.v 29,.v 30,.v 26])]⟩
def A3d (K:Nat)(n:Nat)(q:PT A3c):Rt s_160:=Aqw K q.2.1 n q.1 q.2.2.1 q.2.2.2.1 q.2.2.2.2.1 q.2.2.2.2.2.1 q.2.2.2.2.2.2.1 q.2.2.2.2.2.2.2.1 q.2.2.2.2.2.2.2.2.1 q.2.2.2.2.2.2.2.2.2.1 q.2.2.2.2.2.2.2.2.2.2.1 q.2.2.2.2.2.2.2.2.2.2.2.1 q.2.2.2.2.2.2.2.2.2.2.2.2.1 q.2.2.2.2.2.2.2.2.2.2.2.2.2.1 q.2.2.2.2.2.2.2.2.2.2.2.2.2.2.1 q.2.2.2.2.2.2.2.2.2.2.2.2.2.2.2.1
theorem Bgb (K:Nat):AtL (Blt K) (fun n=>[]) [] (bd Tryz.f133) 122 (A3d K):=fun n q=>by kernel_rfl
theorem Blu (K:Nat):XF [.tmp 4] s_160 44 [] (Blt K):=xkF (gC (A0r K) (gC (Blp K) (gC (Bcz K) (gC (Bw8 K) gN)))) oN
theorem Bgc (K:Nat)(n:Nat):CF [.tmp 4] s_160 44 [] (bd Tryz.f133) [] 122 (ar A3c (A3d K n)):=
 Aei (Blu K) (Bgb K) (fun n=>kN) n
theorem Bw9 (K:Nat):OkF 133 (Bty K):=
 Aa6 (x:=Blt K) (L:=[(122,ar A3c (A3d K K))]) (c0:=bd Tryz.f133) (Blu K) (by intro a0 a1;show @Eq _ _ _;kernel_rfl) (kC (Bgc K K) kN) Tryz.func133 trivial
def Asi (K:Nat):Nat->Int->Int->Int->Int->Int->Int->Int->Int->Int->(List Int)->(List Int)->(List Int)->(List Ba)->(List Ax)->(List Int)->Option (Int)
 |0,_,_,_,_,_,_,_,_,_,_,_,_,_,_,_=>none
 |n1+1,v1,v2,v3,v4,v5,v6,v7,v8,v9,v10,v11,v12,v13,v14,v15=>(bif (decide (v3<v2))then((Awl K (Eb.mk (Er.mk v4 v5 v6 v7 v8 v9) (Dw.mk v10 v11 v12) v13 v14 v15) v3).bind fun r16=>(Asi K n1 (Aoa .i64 v1 r16) v2 (Aoa .i64 v3 1) v4 v5 v6 v7 v8 v9 v10 v11 v12 v13 v14 v15))else some v1)
def Ayb (K:Nat)(a0:Eb):Option (Int):=(Asi K K 0 (a0.fQ.length:Int) 0 a0.fC.Ae a0.fC.Eg a0.fC.C0 a0.fC.E9 a0.fC.C1 a0.fC.Eh a0.fP.Fy a0.fP.Hh a0.fP.Fz a0.fL a0.fQ a0.Pr)
def s_161:Sig:=⟨[.v 32],[.v 3],true⟩
def Btz (K:Nat):Gb tyU:=⟨s_161,Ayb K⟩
def Blv (K:Nat):=xF s_161 [(133,Bty K)] [] 18 [] [] [] [] [.tmp 2]
def A51:E5:=⟨[(1,.p 101),(3,.v 2),(7,.v 2),(8,.v 2)],[(101,.box [.v 2,.v 2,.v 2,.v 2,.v 2,.v 2,.v 22,.v 26,.v 26,.v 29,.v 30,.v 26])]⟩
def A52 (K:Nat)(n:Nat)(q:PT A51):Rt s_161:=Asi K n q.1 q.2.1 q.2.2.1 q.2.2.2.1 q.2.2.2.2.1 q.2.2.2.2.2.1 q.2.2.2.2.2.2.1 q.2.2.2.2.2.2.2.1 q.2.2.2.2.2.2.2.2.1 q.2.2.2.2.2.2.2.2.2.1 q.2.2.2.2.2.2.2.2.2.2.1 q.2.2.2.2.2.2.2.2.2.2.2.1 q.2.2.2.2.2.2.2.2.2.2.2.2.1 q.2.2.2.2.2.2.2.2.2.2.2.2.2.1 q.2.2.2.2.2.2.2.2.2.2.2.2.2.2.1
theorem Blw (K:Nat):AtL (Blv K) (fun n=>[]) [] (bd Tryz.f70) 58 (A52 K):=fun n q=>by kernel_rfl
theorem Blx (K:Nat):XF [.tmp 2] s_161 18 [] (Blv K):=xkF (gC (Bw9 K) gN) oN
theorem Bly (K:Nat)(n:Nat):CF [.tmp 2] s_161 18 [] (bd Tryz.f70) [] 58 (ar A51 (A52 K n)):=
 Aei (Blx K) (Blw K) (fun n=>kN) n
theorem Bxa (K:Nat):OkF 70 (Btz K):=
 Aa6 (x:=Blv K) (L:=[(58,ar A51 (A52 K K))]) (c0:=bd Tryz.f70) (Blx K) (by intro a0;show @Eq _ _ _;kernel_rfl) (kC (Bly K K) kN) Tryz.func70 trivial
def Ayq (K:Nat)(a0:Eb)(a1:Ct):Option (Int):=((Avk K a0 a1).bind fun r1=>((Ayb K r1.1).bind fun r2=>some r2))
def Bt0:Sig:=⟨[.v 32,.v 34],[.v 3],true⟩
def Bt1 (K:Nat):Gb tyU:=⟨Bt0,Ayq K⟩
def B30 (K:Nat):=xF Bt0 [(42,Bts K),(70,Btz K)] [] 15 [] [] [] [] [.tmp 4]
theorem Bxb (K:Nat):OkF 22 (Bt1 K):=
 Aa6 (x:=B30 K) (L:=[]) (c0:=bd Tryz.f22) (xkF (gC (Bw6 K) (gC (Bxa K) gN)) oN) (by intro a0 a1;show @Eq _ _ _;kernel_rfl) kN Tryz.func22 trivial
def Ayr (K:Nat)(a0:Er)(a1:Er):Option (Bool):=(bif (a0.Ae != a1.Ae)then some false else(bif (a0.Eg != a1.Eg)then some false else(bif (a0.C0 != a1.C0)then some false else(bif (a0.E9 != a1.E9)then some false else(bif (a0.C1 != a1.C1)then some false else(bif (a0.Eh != a1.Eh)then some false else some true))))))
def Bt2:Sig:=⟨[.v 25,.v 25],[.v 4],true⟩
def Bt3 (K:Nat):Gb tyU:=⟨Bt2,Ayr K⟩
def B31 (K:Nat):=xF Bt2 [] [] 35 [] [] [] [] [.tmp 4]
theorem Bxc (K:Nat):OkF 71 (Bt3 K):=
 Aa6 (x:=B31 K) (L:=[]) (c0:=bd Tryz.f71) (xkF gN oN) (by intro a0 a1;show @Eq _ _ _;kernel_rfl) kN Tryz.func71 trivial
def Atk (K:Nat)(a0:List Int)(a1:List Int):Nat->Int->Option (Bool)
 |0,_=>none
 |n1+1,v1=>(bif (decide (v1<(a0.length:Int)))then(if(0:Int)≤v1∧v1<(a0.length:Int)then(if(0:Int)≤v1∧v1<(a1.length:Int)then(bif ((gt a0 v1) != (gt a1 v1))then some false else(Atk K a0 a1 n1 (Aoa .i64 v1 1)))else none)else none)else some true)
def Avm (K:Nat)(a0:List Int)(a1:List Int):Option (Bool):=(bif ((a0.length:Int) != (a1.length:Int))then some false else(Atk K a0 a1 K 0))
def s_164:Sig:=⟨[.v 22,.v 22],[.v 4],true⟩
def Bt4 (K:Nat):Gb tyU:=⟨s_164,Avm K⟩
def Blz (K:Nat):=xF s_164 [] [] 26 [] [] [] [] [.tmp 4]
def A53:E5:=⟨[(0,.v 22),(1,.v 22),(5,.v 2)],[]⟩
def A54 (K:Nat)(n:Nat)(q:PT A53):Rt s_164:=Atk K q.1 q.2.1 n q.2.2.1
theorem Bl0 (K:Nat):AtL (Blz K) (fun n=>[]) [] (bd Tryz.f27) 58 (A54 K):=fun n q=>by kernel_rfl
theorem Bl1 (K:Nat):XF [.tmp 4] s_164 26 [] (Blz K):=xkF gN oN
theorem Bl2 (K:Nat)(n:Nat):CF [.tmp 4] s_164 26 [] (bd Tryz.f27) [] 58 (ar A53 (A54 K n)):=
 Aei (Bl1 K) (Bl0 K) (fun n=>kN) n
theorem Bxd (K:Nat):OkF 27 (Bt4 K):=
 Aa6 (x:=Blz K) (L:=[(58,ar A53 (A54 K K))]) (c0:=bd Tryz.f27) (Bl1 K) (by intro a0 a1;show @Eq _ _ _;kernel_rfl) (kC (Bl2 K K) kN) Tryz.func27 trivial
def Aum (K:Nat)(a0:List Int)(a1:List Int):Nat->Int->Option (Bool)
 |0,_=>none
 |n1+1,v1=>(bif (decide (v1<(a0.length:Int)))then(if(0:Int)≤v1∧v1<(a0.length:Int)then(if(0:Int)≤v1∧v1<(a1.length:Int)then(bif ((gt a0 v1) != (gt a1 v1))then some false else(Aum K a0 a1 n1 (Aoa .i64 v1 1)))else none)else none)else some true)
def An4 (K:Nat)(a0:List Int)(a1:List Int):Option (Bool):=(bif ((a0.length:Int) != (a1.length:Int))then some false else(Aum K a0 a1 K 0))
def s_165:Sig:=⟨[.v 26,.v 26],[.v 4],true⟩
def Bbd (K:Nat):Gb tyU:=⟨s_165,An4 K⟩
def Bl3 (K:Nat):=xF s_165 [] [] 26 [] [] [] [] [.tmp 4]
def A55:E5:=⟨[(0,.v 26),(1,.v 26),(5,.v 2)],[]⟩
def A56 (K:Nat)(n:Nat)(q:PT A55):Rt s_165:=Aum K q.1 q.2.1 n q.2.2.1
theorem Bl4 (K:Nat):AtL (Bl3 K) (fun n=>[]) [] (bd Tryz.f75) 58 (A56 K):=fun n q=>by kernel_rfl
theorem Bl5 (K:Nat):XF [.tmp 4] s_165 26 [] (Bl3 K):=xkF gN oN
theorem Bl6 (K:Nat)(n:Nat):CF [.tmp 4] s_165 26 [] (bd Tryz.f75) [] 58 (ar A55 (A56 K n)):=
 Aei (Bl5 K) (Bl4 K) (fun n=>kN) n
theorem A99 (K:Nat):OkF 75 (Bbd K):=
 Aa6 (x:=Bl3 K) (L:=[(58,ar A55 (A56 K K))]) (c0:=bd Tryz.f75) (Bl5 K) (by intro a0 a1;show @Eq _ _ _;kernel_rfl) (kC (Bl6 K K) kN) Tryz.func75 trivial
def Ays (K:Nat)(a0:Dw)(a1:Dw):Option (Bool):=((Avm K a0.Fy a1.Fy).bind fun r1=>(bif (!r1)then some false else((An4 K a0.Hh a1.Hh).bind fun r2=>(bif (!r2)then some false else((An4 K a0.Fz a1.Fz).bind fun r3=>(bif (!r3)then some false else some true))))))
def Bt5:Sig:=⟨[.v 28,.v 28],[.v 4],true⟩
def Bt6 (K:Nat):Gb tyU:=⟨Bt5,Ays K⟩
def B32 (K:Nat):=xF Bt5 [(27,Bt4 K),(75,Bbd K)] [] 23 [] [] [] [] [.tmp 4]
theorem Bxe (K:Nat):OkF 72 (Bt6 K):=
 Aa6 (x:=B32 K) (L:=[]) (c0:=bd Tryz.f72) (xkF (gC (Bxd K) (gC (A99 K) gN)) oN) (by intro a0 a1;show @Eq _ _ _;kernel_rfl) kN Tryz.func72 trivial
def As5 (K:Nat)(a0:A9)(a1:A9):Option (Bool):=(bif (a0.fAt != a1.fAt)then some false else(bif (a0.Vu != a1.Vu)then some false else(bif (a0.Vv != a1.Vv)then some false else some true)))
def Bt7:Sig:=⟨[.v 89,.v 89],[.v 4],true⟩
def Bt8 (K:Nat):Gb tyU:=⟨Bt7,As5 K⟩
def B33 (K:Nat):=xF Bt7 [] [] 20 [] [] [] [] [.tmp 4]
theorem Bxf (K:Nat):OkF 263 (Bt8 K):=
 Aa6 (x:=B33 K) (L:=[]) (c0:=bd Tryz.f263) (xkF gN oN) (by intro a0 a1;show @Eq _ _ _;kernel_rfl) kN Tryz.func263 trivial
def Aq3 (K:Nat)(a0:List A9)(a1:List A9):Nat->Int->Option (Bool)
 |0,_=>none
 |n1+1,v1=>(bif (decide (v1<(a0.length:Int)))then(if(0:Int)≤v1∧v1<(a0.length:Int)then(if(0:Int)≤v1∧v1<(a1.length:Int)then((As5 K (gt a0 v1) (gt a1 v1)).bind fun r2=>(bif (!r2)then some false else(Aq3 K a0 a1 n1 (Aoa .i64 v1 1))))else none)else none)else some true)
def Aun (K:Nat)(a0:List A9)(a1:List A9):Option (Bool):=(bif ((a0.length:Int) != (a1.length:Int))then some false else(Aq3 K a0 a1 K 0))
def s_168:Sig:=⟨[.v 41,.v 41],[.v 4],true⟩
def Bt9 (K:Nat):Gb tyU:=⟨s_168,Aun K⟩
def Bl7 (K:Nat):=xF s_168 [(263,Bt8 K)] [] 27 [] [] [] [] [.tmp 4]
def A57:E5:=⟨[(0,.v 41),(1,.v 41),(5,.v 2)],[]⟩
def A58 (K:Nat)(n:Nat)(q:PT A57):Rt s_168:=Aq3 K q.1 q.2.1 n q.2.2.1
theorem Bl8 (K:Nat):AtL (Bl7 K) (fun n=>[]) [] (bd Tryz.f208) 58 (A58 K):=fun n q=>by kernel_rfl
theorem Bl9 (K:Nat):XF [.tmp 4] s_168 27 [] (Bl7 K):=xkF (gC (Bxf K) gN) oN
theorem Bma (K:Nat)(n:Nat):CF [.tmp 4] s_168 27 [] (bd Tryz.f208) [] 58 (ar A57 (A58 K n)):=
 Aei (Bl9 K) (Bl8 K) (fun n=>kN) n
theorem Bxg (K:Nat):OkF 208 (Bt9 K):=
 Aa6 (x:=Bl7 K) (L:=[(58,ar A57 (A58 K K))]) (c0:=bd Tryz.f208) (Bl9 K) (by intro a0 a1;show @Eq _ _ _;kernel_rfl) (kC (Bma K K) kN) Tryz.func208 trivial
def Atu (K:Nat)(a0:Ba)(a1:Ba):Option (Bool):=(bif (a0.Hh != a1.Hh)then some false else(bif (a0.C2 != a1.C2)then some false else(bif (a0.Ly != a1.Ly)then some false else(bif (a0.fUp != a1.fUp)then some false else(bif (a0.Gq != a1.Gq)then some false else(bif (a0.Bt != a1.Bt)then some false else(bif (a0.Gr != a1.Gr)then some false else(bif (a0.Gs != a1.Gs)then some false else((An4 K a0.Ae a1.Ae).bind fun r1=>(bif (!r1)then some false else(bif (a0.Pq != a1.Pq)then some false else(bif (a0.Gt != a1.Gt)then some false else((Aun K a0.Ea a1.Ea).bind fun r2=>(bif (!r2)then some false else((An4 K a0.Dg a1.Dg).bind fun r3=>(bif (!r3)then some false else some true))))))))))))))))
def Bua:Sig:=⟨[.v 44,.v 44],[.v 4],true⟩
def Bub (K:Nat):Gb tyU:=⟨Bua,Atu K⟩
def B34 (K:Nat):=xF Bua [(75,Bbd K),(208,Bt9 K)] [] 73 [] [] [] [] [.tmp 4]
theorem Bxh (K:Nat):OkF 134 (Bub K):=
 Aa6 (x:=B34 K) (L:=[]) (c0:=bd Tryz.f134) (xkF (gC (A99 K) (gC (Bxg K) gN)) oN) (by intro a0 a1;show @Eq _ _ _;kernel_rfl) kN Tryz.func134 trivial
def Arw (K:Nat)(a0:List Ba)(a1:List Ba):Nat->Int->Option (Bool)
 |0,_=>none
 |n1+1,v1=>(bif (decide (v1<(a0.length:Int)))then(if(0:Int)≤v1∧v1<(a0.length:Int)then(if(0:Int)≤v1∧v1<(a1.length:Int)then((Atu K (gt a0 v1) (gt a1 v1)).bind fun r2=>(bif (!r2)then some false else(Arw K a0 a1 n1 (Aoa .i64 v1 1))))else none)else none)else some true)
def Avn (K:Nat)(a0:List Ba)(a1:List Ba):Option (Bool):=(bif ((a0.length:Int) != (a1.length:Int))then some false else(Arw K a0 a1 K 0))
def s_170:Sig:=⟨[.v 29,.v 29],[.v 4],true⟩
def Buc (K:Nat):Gb tyU:=⟨s_170,Avn K⟩
def Bmb (K:Nat):=xF s_170 [(134,Bub K)] [] 27 [] [] [] [] [.tmp 4]
def A59:E5:=⟨[(0,.v 29),(1,.v 29),(5,.v 2)],[]⟩
def A6a (K:Nat)(n:Nat)(q:PT A59):Rt s_170:=Arw K q.1 q.2.1 n q.2.2.1
theorem Bmc (K:Nat):AtL (Bmb K) (fun n=>[]) [] (bd Tryz.f73) 58 (A6a K):=fun n q=>by kernel_rfl
theorem Bmd (K:Nat):XF [.tmp 4] s_170 27 [] (Bmb K):=xkF (gC (Bxh K) gN) oN
theorem Bme (K:Nat)(n:Nat):CF [.tmp 4] s_170 27 [] (bd Tryz.f73) [] 58 (ar A59 (A6a K n)):=
 Aei (Bmd K) (Bmc K) (fun n=>kN) n
theorem Bxi (K:Nat):OkF 73 (Buc K):=
 Aa6 (x:=Bmb K) (L:=[(58,ar A59 (A6a K K))]) (c0:=bd Tryz.f73) (Bmd K) (by intro a0 a1;show @Eq _ _ _;kernel_rfl) (kC (Bme K K) kN) Tryz.func73 trivial
def As6 (K:Nat)(a0:Ax)(a1:Ax):Option (Bool):=(bif (a0.A5 != a1.A5)then some false else(bif (a0.Bt != a1.Bt)then some false else((An4 K a0.Dg a1.Dg).bind fun r1=>(bif (!r1)then some false else((An4 K a0.Ae a1.Ae).bind fun r2=>(bif (!r2)then some false else(bif (a0.Gu != a1.Gu)then some false else some true)))))))
def Bud:Sig:=⟨[.v 159,.v 159],[.v 4],true⟩
def Bue (K:Nat):Gb tyU:=⟨Bud,As6 K⟩
def B35 (K:Nat):=xF Bud [(75,Bbd K)] [] 32 [] [] [] [] [.tmp 4]
theorem Bxj (K:Nat):OkF 135 (Bue K):=
 Aa6 (x:=B35 K) (L:=[]) (c0:=bd Tryz.f135) (xkF (gC (A99 K) gN) oN) (by intro a0 a1;show @Eq _ _ _;kernel_rfl) kN Tryz.func135 trivial
def Aq4 (K:Nat)(a0:List Ax)(a1:List Ax):Nat->Int->Option (Bool)
 |0,_=>none
 |n1+1,v1=>(bif (decide (v1<(a0.length:Int)))then(if(0:Int)≤v1∧v1<(a0.length:Int)then(if(0:Int)≤v1∧v1<(a1.length:Int)then((As6 K (gt a0 v1) (gt a1 v1)).bind fun r2=>(bif (!r2)then some false else(Aq4 K a0 a1 n1 (Aoa .i64 v1 1))))else none)else none)else some true)
end
end Go.Proofs.YtjdblamhaljjbaaGreat
