/- What the functions compute that FnExactDestroy reaches, and that they do; no condition. Printed by gen3.py. -/
import Derived.Test.YtjdblamhaljjbaaGreatFSrt
set_option linter.all false
set_option maxRecDepth 20000
namespace Go.Proofs.YtjdblamhaljjbaaGreat
open Go.Eng
noncomputable section
abbrev bd (f:Func):Code:=f.body.getD .skip
abbrev PT (h:E5):Type:=Am tyU h.codes
abbrev Rt (s:Sig):Type:=Option (Au tyU s.codes)
abbrev CT (h:E5)(s:Sig):Type:=Am tyU h.codes->Option (Au tyU s.codes)
abbrev ar{s:Sig}(h:E5)(M:CT h s):SS Ah->Rt s:=arr tyU tab h M
def xF (s:Sig)(G:List (Nat×Gb tyU))(O:List (Nat×List (Nat×Gb tyU)))(N:Nat)(spl:List Nat)(pre post:List (Nat×List Cmd))(js:List Nat)(rl:List ResultVar)(L B:Λt tyU s):Ox tyU (Au tyU s.codes):=⟨G,O,eqT eqs,N,spl,pre,post,js,L,B,Afh tyU tab s rl⟩
abbrev XF (rl:List ResultVar)(s:Sig)(N:Nat)(js:List Nat)(x:Λt tyU s->Λt tyU s->Ox tyU (Au tyU s.codes)):Prop:=XOk tyU tab Tryz.prog rl s N js x
theorem B4x:Tryz.prog.follows .mixedOrders=true:=by kernel_rfl
theorem xkF{rl:List ResultVar}{s:Sig}{N:Nat}{js:List Nat}{G:List (Nat×Gb tyU)}{O:List (Nat×List (Nat×Gb tyU))}{spl:List Nat}{pre post:List (Nat×List Cmd)}(hΓ: ∀f c,lk G f=some c->Gb.Ok tyU Tryz.prog f c∧E2 Tryz.prog f)(hov: ∀d l,lk O d=some l-> ∀f c,lk l f=some c->Gb.Ok tyU Tryz.prog f c∧E2 Tryz.prog f):XF rl s N js (xF s G O N spl pre post js rl):=xok Aqp B4x hΓ hov Apo
abbrev OkF (f:FuncId)(c:Gb tyU):Prop:=Gb.Ok tyU Tryz.prog f c∧E2 Tryz.prog f
abbrev CF (rl:List ResultVar)(s:Sig)(N:Nat)(js:List Nat)(c:Code)(B:Λt tyU s)(p:Nat)(f:SS Ah->Rt s):Prop:=Cut tyU tab Tryz.prog rl s N js c B p f
abbrev EqF (s:Sig)(x:Ox tyU (Au tyU s.codes))(c:Code)(m:Wk tyU s.ps (Rt s)):Prop:=Uy tyU tab x c s.ps 0 [] [] m
abbrev AtL{s:Sig}{h:E5}(x:Λt tyU s->Λt tyU s->Ox tyU (Au tyU s.codes))(L:Nat->Λt tyU s)(B:Λt tyU s)(c:Code)(p:Nat)(M:Nat->CT h s):Prop:= ∀n q,M (n+1) q=Aff tyU tab (x (L n) ((p,ar h (M n))::B)) c (2*p) (h.emb tyU q)
abbrev AtJ{s:Sig}{h:E5}(x:Λt tyU s->Λt tyU s->Ox tyU (Au tyU s.codes))(L B:Λt tyU s)(c:Code)(p:Nat)(M:CT h s):Prop:= ∀q,M q=Aff tyU tab (x L B) c (2*p+1) (h.emb tyU q)
theorem Aeh{rl:List ResultVar}{s:Sig}{N:Nat}{js:List Nat}{x:Λt tyU s->Λt tyU s->Ox tyU (Au tyU s.codes)}{c:Code}{L:Nat->Λt tyU s}{B:Λt tyU s}{p:Nat}{h:E5}{M:Nat->CT h s}(hx:XF rl s N js x)(e:AtL x L B c p M)(hc: ∀n,Vs tyU tab Tryz.prog rl s N js c ((p,ar h (M n))::B) (L n))(n:Nat)(hp:Nat.ble 1 p=true:=by rfl)(hk:Tc js c p=true:=by kernel_rfl)(e0: ∀q,M 0 q=none:=by intro q;rfl):CF rl s N js c B p (ar h (M n)):=Amn hx hp hk e0 e hc n
theorem Amf{rl:List ResultVar}{s:Sig}{N:Nat}{js:List Nat}{x:Λt tyU s->Λt tyU s->Ox tyU (Au tyU s.codes)}{c:Code}{L B:Λt tyU s}{p:Nat}{h:E5}{M:CT h s}(hx:XF rl s N js x)(e:AtJ x L B c p M)(hc:Vs tyU tab Tryz.prog rl s N js c B L)(hp:Nat.ble 1 p=true:=by rfl):CF rl s N js c B p (ar h M):=Amm hx hp e hc
theorem Aa6{rl:List ResultVar}{s:Sig}{N:Nat}{js:List Nat}{x:Λt tyU s->Λt tyU s->Ox tyU (Au tyU s.codes)}{c0:Code}(hx:XF rl s N js x){L:Λt tyU s}{f:FuncId}{fn:Func}{m:Wk tyU s.ps (Rt s)}(e:EqF s (x L []) c0 m)(hc:Vs tyU tab Tryz.prog rl s N js c0 [] L)(hf:Tryz.prog.funcs[f]? =some fn)(hs:W8 tyU s.ps)(h1:(fn.name== "runtime.NumGoroutine")=false:=by rfl)(h2:fn.body=some c0:=by rfl)(h3:fn.results=rl.toArray:=by rfl)(h4:fn.ntmps=N:=by rfl)(h5:Nat.ble s.ps.length N=true:=by rfl)(h6:Nat.ble (A8 s.ps+1) 100=true:=by rfl)(h7:Nat.ble rl.length 4=true:=by rfl):OkF f ⟨s,m⟩:=Ao1 hx Apn e hc hf h1 h2 h3 h4 h5 h6 h7 hs
def Avb (K:Nat)(a0:List Int)(a1:Int):Option (Int):=(bif (decide ((Aob .i64 a1 (a0.length:Int))<0))then some (-1)else some (Aob .i64 a1 (a0.length:Int)))
def s_0:Sig:=⟨[.v 22,.v 3],[.v 3],true⟩
def c_0 (K:Nat):Gb tyU:=⟨s_0,Avb K⟩
def x_0 (K:Nat):=xF s_0 [] [] 12 [] [] [] [] [.tmp 4]
theorem B4y (K:Nat):OkF 127 (c_0 K):=
 Aa6 (x:=x_0 K) (L:=[]) (c0:=bd Tryz.f127) (xkF gN oN) (by intro a0 a1;show @Eq _ _ _;kernel_rfl) kN Tryz.func127 trivial
def Aov (K:Nat)(a0:List Int)(a1:Int):Option (Int):=(bif (decide ((Aob .i64 a1 (a0.length:Int))<0))then some (-1)else some (Aob .i64 a1 (a0.length:Int)))
def s_1:Sig:=⟨[.v 26,.v 3],[.v 3],true⟩
def c_1 (K:Nat):Gb tyU:=⟨s_1,Aov K⟩
def x_1 (K:Nat):=xF s_1 [] [] 12 [] [] [] [] [.tmp 4]
theorem Bnm (K:Nat):OkF 63 (c_1 K):=
 Aa6 (x:=x_1 K) (L:=[]) (c0:=bd Tryz.f63) (xkF gN oN) (by intro a0 a1;show @Eq _ _ _;kernel_rfl) kN Tryz.func63 trivial
def At2 (K:Nat)(a0:Dx)(a1:Int):Option (Int):=((Avb K a0.Fy a1).bind fun r1=>(bif (decide (r1<0))then some (-1)else((Aov K a0.Hh r1).bind fun r2=>(bif (decide (r2<0))then some (-1)else((Aov K a0.Fz r2).bind fun r3=>(bif (decide (r3<0))then some (-1)else some r3))))))
def s_2:Sig:=⟨[.v 48,.v 3],[.v 3],true⟩
def c_2 (K:Nat):Gb tyU:=⟨s_2,At2 K⟩
def x_2 (K:Nat):=xF s_2 [(63,c_1 K),(127,c_0 K)] [] 24 [] [] [] [] [.tmp 4]
theorem B4z (K:Nat):OkF 60 (c_2 K):=
 Aa6 (x:=x_2 K) (L:=[]) (c0:=bd Tryz.f60) (xkF (gC (Bnm K) (gC (B4y K) gN)) oN) (by intro a0 a1;show @Eq _ _ _;kernel_rfl) kN Tryz.func60 trivial
def Aub (K:Nat)(a0:List Bb)(a1:Int):Option (Int):=(bif (decide ((Aob .i64 a1 (a0.length:Int))<0))then some (-1)else some (Aob .i64 a1 (a0.length:Int)))
def s_3:Sig:=⟨[.v 152,.v 3],[.v 3],true⟩
def c_3 (K:Nat):Gb tyU:=⟨s_3,Aub K⟩
def x_3 (K:Nat):=xF s_3 [] [] 12 [] [] [] [] [.tmp 4]
theorem B40 (K:Nat):OkF 200 (c_3 K):=
 Aa6 (x:=x_3 K) (L:=[]) (c0:=bd Tryz.f200) (xkF gN oN) (by intro a0 a1;show @Eq _ _ _;kernel_rfl) kN Tryz.func200 trivial
def Aqc (K:Nat)(a0:Bc)(a1:Int):Option (Int):=((Aov K a0.Ae a1).bind fun r1=>(bif (decide (r1<0))then some (-1)else((Aub K a0.Ea r1).bind fun r2=>(bif (decide (r2<0))then some (-1)else((Aov K a0.Dg r2).bind fun r3=>(bif (decide (r3<0))then some (-1)else some r3))))))
def s_4:Sig:=⟨[.v 154,.v 3],[.v 3],true⟩
def c_4 (K:Nat):Gb tyU:=⟨s_4,Aqc K⟩
def x_4 (K:Nat):=xF s_4 [(63,c_1 K),(200,c_3 K)] [] 24 [] [] [] [] [.tmp 4]
theorem B41 (K:Nat):OkF 128 (c_4 K):=
 Aa6 (x:=x_4 K) (L:=[]) (c0:=bd Tryz.f128) (xkF (gC (Bnm K) (gC (B40 K) gN)) oN) (by intro a0 a1;show @Eq _ _ _;kernel_rfl) kN Tryz.func128 trivial
def Aqe (K:Nat)(a0:List Bc):Nat->Int->Int->Option (Int)
 |0,_,_=>none
 |n1+1,v1,v2=>(bif (decide (v2<(a0.length:Int)))then(if(0:Int)≤v2∧v2<(a0.length:Int)then((Aqc K (gt a0 v2) v1).bind fun r3=>(bif (decide (r3<0))then some (-1)else(Aqe K a0 n1 r3 (Aoa .i64 v2 1))))else none)else some v1)
def As0 (K:Nat)(a0:List Bc)(a1:Int):Option (Int):=(bif (decide ((Aob .i64 a1 (a0.length:Int))<0))then some (-1)else(Aqe K a0 K (Aob .i64 a1 (a0.length:Int)) 0))
def s_5:Sig:=⟨[.v 49,.v 3],[.v 3],true⟩
def c_5 (K:Nat):Gb tyU:=⟨s_5,As0 K⟩
def x_5 (K:Nat):=xF s_5 [(128,c_4 K)] [] 27 [] [] [] [] [.tmp 4]
def A8c:E5:=⟨[(0,.v 49),(1,.v 2),(5,.v 2)],[]⟩
def A8d (K:Nat)(n:Nat)(q:PT A8c):Rt s_5:=Aqe K q.1 n q.2.1 q.2.2.1
theorem Bnn (K:Nat):AtL (x_5 K) (fun n=>[]) [] (bd Tryz.f61) 122 (A8d K):=fun n q=>by kernel_rfl
theorem Bym (K:Nat):XF [.tmp 4] s_5 27 [] (x_5 K):=xkF (gC (B41 K) gN) oN
theorem Bno (K:Nat)(n:Nat):CF [.tmp 4] s_5 27 [] (bd Tryz.f61) [] 122 (ar A8c (A8d K n)):=
 Aeh (Bym K) (Bnn K) (fun n=>kN) n
theorem B43 (K:Nat):OkF 61 (c_5 K):=
 Aa6 (x:=x_5 K) (L:=[(122,ar A8c (A8d K K))]) (c0:=bd Tryz.f61) (Bym K) (by intro a0 a1;show @Eq _ _ _;kernel_rfl) (kC (Bno K K) kN) Tryz.func61 trivial
def Apv (K:Nat)(a0:Ay)(a1:Int):Option (Int):=((Aov K a0.Dg a1).bind fun r1=>(bif (decide (r1<0))then some (-1)else((Aov K a0.Ae r1).bind fun r2=>(bif (decide (r2<0))then some (-1)else some r2))))
def s_6:Sig:=⟨[.v 157,.v 3],[.v 3],true⟩
def c_6 (K:Nat):Gb tyU:=⟨s_6,Apv K⟩
def x_6 (K:Nat):=xF s_6 [(63,c_1 K)] [] 18 [] [] [] [] [.tmp 4]
theorem B44 (K:Nat):OkF 129 (c_6 K):=
 Aa6 (x:=x_6 K) (L:=[]) (c0:=bd Tryz.f129) (xkF (gC (Bnm K) gN) oN) (by intro a0 a1;show @Eq _ _ _;kernel_rfl) kN Tryz.func129 trivial
def Apy (K:Nat)(a0:List Ay):Nat->Int->Int->Option (Int)
 |0,_,_=>none
 |n1+1,v1,v2=>(bif (decide (v2<(a0.length:Int)))then(if(0:Int)≤v2∧v2<(a0.length:Int)then((Apv K (gt a0 v2) v1).bind fun r3=>(bif (decide (r3<0))then some (-1)else(Apy K a0 n1 r3 (Aoa .i64 v2 1))))else none)else some v1)
def Asb (K:Nat)(a0:List Ay)(a1:Int):Option (Int):=(bif (decide ((Aob .i64 a1 (a0.length:Int))<0))then some (-1)else(Apy K a0 K (Aob .i64 a1 (a0.length:Int)) 0))
def s_7:Sig:=⟨[.v 50,.v 3],[.v 3],true⟩
def c_7 (K:Nat):Gb tyU:=⟨s_7,Asb K⟩
def x_7 (K:Nat):=xF s_7 [(129,c_6 K)] [] 27 [] [] [] [] [.tmp 4]
def A8e:E5:=⟨[(0,.v 50),(1,.v 2),(5,.v 2)],[]⟩
def A8f (K:Nat)(n:Nat)(q:PT A8e):Rt s_7:=Apy K q.1 n q.2.1 q.2.2.1
theorem Bnp (K:Nat):AtL (x_7 K) (fun n=>[]) [] (bd Tryz.f62) 122 (A8f K):=fun n q=>by kernel_rfl
theorem Byn (K:Nat):XF [.tmp 4] s_7 27 [] (x_7 K):=xkF (gC (B44 K) gN) oN
theorem Bnq (K:Nat)(n:Nat):CF [.tmp 4] s_7 27 [] (bd Tryz.f62) [] 122 (ar A8e (A8f K n)):=
 Aeh (Byn K) (Bnp K) (fun n=>kN) n
theorem B46 (K:Nat):OkF 62 (c_7 K):=
 Aa6 (x:=x_7 K) (L:=[(122,ar A8e (A8f K K))]) (c0:=bd Tryz.f62) (Byn K) (by intro a0 a1;show @Eq _ _ _;kernel_rfl) (kC (Bnq K K) kN) Tryz.func62 trivial
def Aqi (K:Nat)(a0:Ec)(a1:Int):Option (Int):=((At2 K a0.fP a1).bind fun r1=>(bif (decide (r1<0))then some (-1)else((As0 K a0.fL r1).bind fun r2=>(bif (decide (r2<0))then some (-1)else((Asb K a0.fQ r2).bind fun r3=>(bif (decide (r3<0))then some (-1)else((Aov K a0.Pr r3).bind fun r4=>(bif (decide (r4<0))then some (-1)else some r4))))))))
def s_8:Sig:=⟨[.v 52,.v 3],[.v 3],true⟩
def c_8 (K:Nat):Gb tyU:=⟨s_8,Aqi K⟩
def x_8 (K:Nat):=xF s_8 [(60,c_2 K),(61,c_5 K),(62,c_7 K),(63,c_1 K)] [] 30 [] [] [] [] [.tmp 4]
theorem B47 (K:Nat):OkF 18 (c_8 K):=
 Aa6 (x:=x_8 K) (L:=[]) (c0:=bd Tryz.f18) (xkF (gC (B4z K) (gC (B43 K) (gC (B46 K) (gC (Bnm K) gN)))) oN) (by intro a0 a1;show @Eq _ _ _;kernel_rfl) kN Tryz.func18 trivial
def Awk (K:Nat)(a0:Es):Option (Er):=some (Er.mk a0.Ae a0.Eg a0.C0 a0.E9 a0.C1 a0.Eh)
def s_9:Sig:=⟨[.v 47],[.v 25],true⟩
def c_9 (K:Nat):Gb tyU:=⟨s_9,Awk K⟩
def x_9 (K:Nat):=xF s_9 [] [] 23 [] [] [] [] [.cell 2 25]
theorem Byo (K:Nat):OkF 65 (c_9 K):=
 Aa6 (x:=x_9 K) (L:=[]) (c0:=bd Tryz.f65) (xkF gN oN) (by intro a0;show @Eq _ _ _;kernel_rfl) kN Tryz.func65 trivial
def Atk (K:Nat)(a0:List Int):Nat->(List Int)->Int->Option ((List Int))
 |0,_,_=>none
 |n1+1,v1,v2=>(bif (decide (v2<(a0.length:Int)))then(if(0:Int)≤v2∧v2<(a0.length:Int)then(if(0:Int)≤v2∧v2<(v1.length:Int)then(Atk K a0 n1 (v1.set v2.toNat (gt a0 v2)) (Aoa .i64 v2 1))else none)else none)else some v1)
def Avc (K:Nat)(a0:List Int):Option ((List Int)):=(if(0:Int)≤(a0.length:Int)∧(a0.length:Int)≤(a0.length:Int)∧(1:Int)*(a0.length:Int)≤281474976710656∧(a0.length:Int)≤9223372036854775807 then(Atk K a0 K (List.replicate (a0.length:Int).toNat 0) 0)else none)
def s_10:Sig:=⟨[.v 22],[.n 22 true],true⟩
def Byp (K:Nat):Gb tyU:=⟨s_10,Avc K⟩
def Bu4 (K:Nat):=xF s_10 [] [] 22 [] [] [] [] [.tmp 2]
def A8g:E5:=⟨[(0,.v 22),(3,.o 1003 5 true),(4,.v 2)],[]⟩
def A8h (K:Nat)(n:Nat)(q:PT A8g):Rt s_10:=Atk K q.1 n q.2.1 q.2.2.1
theorem Bnr (K:Nat):AtL (Bu4 K) (fun n=>[]) [] (bd Tryz.f46) 58 (A8h K):=fun n q=>by kernel_rfl
theorem Bqw (K:Nat):XF [.tmp 2] s_10 22 [] (Bu4 K):=xkF gN oN
theorem Bns (K:Nat)(n:Nat):CF [.tmp 2] s_10 22 [] (bd Tryz.f46) [] 58 (ar A8g (A8h K n)):=
 Aeh (Bqw K) (Bnr K) (fun n=>kN) n
theorem Byq (K:Nat):OkF 46 (Byp K):=
 Aa6 (x:=Bu4 K) (L:=[(58,ar A8g (A8h K K))]) (c0:=bd Tryz.f46) (Bqw K) (by intro a0;show @Eq _ _ _;kernel_rfl) (kC (Bns K K) kN) Tryz.func46 trivial
def Auc (K:Nat)(a0:List Int):Nat->(List Int)->Int->Option ((List Int))
 |0,_,_=>none
 |n1+1,v1,v2=>(bif (decide (v2<(a0.length:Int)))then(if(0:Int)≤v2∧v2<(a0.length:Int)then(if(0:Int)≤v2∧v2<(v1.length:Int)then(Auc K a0 n1 (v1.set v2.toNat (gt a0 v2)) (Aoa .i64 v2 1))else none)else none)else some v1)
def Ank (K:Nat)(a0:List Int):Option ((List Int)):=(if(0:Int)≤(a0.length:Int)∧(a0.length:Int)≤(a0.length:Int)∧(8:Int)*(a0.length:Int)≤281474976710656∧(a0.length:Int)≤9223372036854775807 then(Auc K a0 K (List.replicate (a0.length:Int).toNat 0) 0)else none)
def s_11:Sig:=⟨[.v 26],[.n 26 true],true⟩
def Be2 (K:Nat):Gb tyU:=⟨s_11,Ank K⟩
def Bu5 (K:Nat):=xF s_11 [] [] 22 [] [] [] [] [.tmp 2]
def A8i:E5:=⟨[(0,.v 26),(3,.o 1003 3 true),(4,.v 2)],[]⟩
def A8j (K:Nat)(n:Nat)(q:PT A8i):Rt s_11:=Auc K q.1 n q.2.1 q.2.2.1
theorem Bnt (K:Nat):AtL (Bu5 K) (fun n=>[]) [] (bd Tryz.f69) 58 (A8j K):=fun n q=>by kernel_rfl
theorem Bqx (K:Nat):XF [.tmp 2] s_11 22 [] (Bu5 K):=xkF gN oN
theorem Bnu (K:Nat)(n:Nat):CF [.tmp 2] s_11 22 [] (bd Tryz.f69) [] 58 (ar A8i (A8j K n)):=
 Aeh (Bqx K) (Bnt K) (fun n=>kN) n
theorem Ba6 (K:Nat):OkF 69 (Be2 K):=
 Aa6 (x:=Bu5 K) (L:=[(58,ar A8i (A8j K K))]) (c0:=bd Tryz.f69) (Bqx K) (by intro a0;show @Eq _ _ _;kernel_rfl) (kC (Bnu K K) kN) Tryz.func69 trivial
def Awl (K:Nat)(a0:Dx):Option (Dw):=((Avc K a0.Fy).bind fun r1=>((Ank K a0.Hh).bind fun r2=>((Ank K a0.Fz).bind fun r3=>some (Dw.mk r1 r2 r3))))
def Byr:Sig:=⟨[.v 48],[.n 28 true],true⟩
def Bu6 (K:Nat):Gb tyU:=⟨Byr,Awl K⟩
def B49 (K:Nat):=xF Byr [(46,Byp K),(69,Be2 K)] [] 17 [] [] [] [] [.cell 2 28]
theorem Bqy (K:Nat):OkF 66 (Bu6 K):=
 Aa6 (x:=B49 K) (L:=[]) (c0:=bd Tryz.f66) (xkF (gC (Byq K) (gC (Ba6 K) gN)) oN) (by intro a0;show @Eq _ _ _;kernel_rfl) kN Tryz.func66 trivial
def Axt (K:Nat)(a0:Bb):Option (A9):=some (A9.mk a0.fAt a0.Vu a0.Vv)
def Bys:Sig:=⟨[.v 222],[.v 89],true⟩
def Byt (K:Nat):Gb tyU:=⟨Bys,Axt K⟩
def B5a (K:Nat):=xF Bys [] [] 14 [] [] [] [] [.cell 2 89]
theorem Byu (K:Nat):OkF 260 (Byt K):=
 Aa6 (x:=B5a K) (L:=[]) (c0:=bd Tryz.f260) (xkF gN oN) (by intro a0;show @Eq _ _ _;kernel_rfl) kN Tryz.func260 trivial
def Asp (K:Nat)(a0:List Bb):Nat->(List A9)->Int->Option ((List A9))
 |0,_,_=>none
 |n1+1,v1,v2=>(bif (decide (v2<(a0.length:Int)))then(if(0:Int)≤v2∧v2<(a0.length:Int)then((Axt K (gt a0 v2)).bind fun r3=>(if(0:Int)≤v2∧v2<(v1.length:Int)then(Asp K a0 n1 (v1.set v2.toNat r3) (Aoa .i64 v2 1))else none))else none)else some v1)
def Aud (K:Nat)(a0:List Bb):Option ((List A9)):=(if(0:Int)≤(a0.length:Int)∧(a0.length:Int)≤(a0.length:Int)∧(24:Int)*(a0.length:Int)≤281474976710656∧(a0.length:Int)≤9223372036854775807 then(Asp K a0 K (List.replicate (a0.length:Int).toNat (A9.mk 0 0 0)) 0)else none)
def s_14:Sig:=⟨[.v 152],[.n 41 true],true⟩
def Byv (K:Nat):Gb tyU:=⟨s_14,Aud K⟩
def Bu7 (K:Nat):=xF s_14 [(260,Byt K)] [] 23 [] [] [] [] [.tmp 2]
def A8k:E5:=⟨[(0,.v 152),(3,.o 1003 89 true),(4,.v 2)],[]⟩
def A8l (K:Nat)(n:Nat)(q:PT A8k):Rt s_14:=Asp K q.1 n q.2.1 q.2.2.1
theorem Bnv (K:Nat):AtL (Bu7 K) (fun n=>[]) [] (bd Tryz.f204) 58 (A8l K):=fun n q=>by kernel_rfl
theorem Bqz (K:Nat):XF [.tmp 2] s_14 23 [] (Bu7 K):=xkF (gC (Byu K) gN) oN
theorem Bnw (K:Nat)(n:Nat):CF [.tmp 2] s_14 23 [] (bd Tryz.f204) [] 58 (ar A8k (A8l K n)):=
 Aeh (Bqz K) (Bnv K) (fun n=>kN) n
theorem Byw (K:Nat):OkF 204 (Byv K):=
 Aa6 (x:=Bu7 K) (L:=[(58,ar A8k (A8l K K))]) (c0:=bd Tryz.f204) (Bqz K) (by intro a0;show @Eq _ _ _;kernel_rfl) (kC (Bnw K K) kN) Tryz.func204 trivial
def At3 (K:Nat)(a0:Bc):Option (Ba):=((Ank K a0.Ae).bind fun r1=>((Aud K a0.Ea).bind fun r2=>((Ank K a0.Dg).bind fun r3=>some (Ba.mk a0.Hh a0.C2 a0.Ly a0.fUp a0.Gq a0.Bt a0.Gr a0.Gs r1 a0.Pq a0.Gt r2 r3))))
def Byx:Sig:=⟨[.v 154],[.n 44 true],true⟩
def Byy (K:Nat):Gb tyU:=⟨Byx,At3 K⟩
def B5b (K:Nat):=xF Byx [(69,Be2 K),(204,Byv K)] [] 47 [] [] [] [] [.cell 2 44]
theorem Byz (K:Nat):OkF 131 (Byy K):=
 Aa6 (x:=B5b K) (L:=[]) (c0:=bd Tryz.f131) (xkF (gC (Ba6 K) (gC (Byw K) gN)) oN) (by intro a0;show @Eq _ _ _;kernel_rfl) kN Tryz.func131 trivial
def Atl (K:Nat)(a0:List Bc):Nat->(List Ba)->Int->Option ((List Ba))
 |0,_,_=>none
 |n1+1,v1,v2=>(bif (decide (v2<(a0.length:Int)))then(if(0:Int)≤v2∧v2<(a0.length:Int)then((At3 K (gt a0 v2)).bind fun r3=>(if(0:Int)≤v2∧v2<(v1.length:Int)then(Atl K a0 n1 (v1.set v2.toNat r3) (Aoa .i64 v2 1))else none))else none)else some v1)
def As1 (K:Nat)(a0:List Bc):Option ((List Ba)):=(if(0:Int)≤(a0.length:Int)∧(a0.length:Int)≤(a0.length:Int)∧(152:Int)*(a0.length:Int)≤281474976710656∧(a0.length:Int)≤9223372036854775807 then(Atl K a0 K (List.replicate (a0.length:Int).toNat (Ba.mk 0 0 0 0 0 0 0 0 [] 0 0 [] [])) 0)else none)
def s_16:Sig:=⟨[.v 49],[.n 29 true],true⟩
def Bu8 (K:Nat):Gb tyU:=⟨s_16,As1 K⟩
def Bu9 (K:Nat):=xF s_16 [(131,Byy K)] [] 23 [] [] [] [] [.tmp 2]
def A8m:E5:=⟨[(0,.v 49),(3,.o 1003 44 true),(4,.v 2)],[]⟩
def A8n (K:Nat)(n:Nat)(q:PT A8m):Rt s_16:=Atl K q.1 n q.2.1 q.2.2.1
theorem Bnx (K:Nat):AtL (Bu9 K) (fun n=>[]) [] (bd Tryz.f67) 58 (A8n K):=fun n q=>by kernel_rfl
theorem Bq0 (K:Nat):XF [.tmp 2] s_16 23 [] (Bu9 K):=xkF (gC (Byz K) gN) oN
theorem Bny (K:Nat)(n:Nat):CF [.tmp 2] s_16 23 [] (bd Tryz.f67) [] 58 (ar A8m (A8n K n)):=
 Aeh (Bq0 K) (Bnx K) (fun n=>kN) n
theorem Bq1 (K:Nat):OkF 67 (Bu8 K):=
 Aa6 (x:=Bu9 K) (L:=[(58,ar A8m (A8n K K))]) (c0:=bd Tryz.f67) (Bq0 K) (by intro a0;show @Eq _ _ _;kernel_rfl) (kC (Bny K K) kN) Tryz.func67 trivial
def As2 (K:Nat)(a0:Ay):Option (Ax):=((Ank K a0.Dg).bind fun r1=>((Ank K a0.Ae).bind fun r2=>some (Ax.mk a0.A5 a0.Bt r1 r2 a0.Gu)))
def By0:Sig:=⟨[.v 157],[.n 159 true],true⟩
def By1 (K:Nat):Gb tyU:=⟨By0,As2 K⟩
def B5c (K:Nat):=xF By0 [(69,Be2 K)] [] 22 [] [] [] [] [.cell 2 159]
theorem By2 (K:Nat):OkF 132 (By1 K):=
 Aa6 (x:=B5c K) (L:=[]) (c0:=bd Tryz.f132) (xkF (gC (Ba6 K) gN) oN) (by intro a0;show @Eq _ _ _;kernel_rfl) kN Tryz.func132 trivial
def Asq (K:Nat)(a0:List Ay):Nat->(List Ax)->Int->Option ((List Ax))
 |0,_,_=>none
 |n1+1,v1,v2=>(bif (decide (v2<(a0.length:Int)))then(if(0:Int)≤v2∧v2<(a0.length:Int)then((As2 K (gt a0 v2)).bind fun r3=>(if(0:Int)≤v2∧v2<(v1.length:Int)then(Asq K a0 n1 (v1.set v2.toNat r3) (Aoa .i64 v2 1))else none))else none)else some v1)
def Asc (K:Nat)(a0:List Ay):Option ((List Ax)):=(if(0:Int)≤(a0.length:Int)∧(a0.length:Int)≤(a0.length:Int)∧(72:Int)*(a0.length:Int)≤281474976710656∧(a0.length:Int)≤9223372036854775807 then(Asq K a0 K (List.replicate (a0.length:Int).toNat (Ax.mk 0 0 [] [] 0)) 0)else none)
def s_18:Sig:=⟨[.v 50],[.n 30 true],true⟩
def Bva (K:Nat):Gb tyU:=⟨s_18,Asc K⟩
def Bvb (K:Nat):=xF s_18 [(132,By1 K)] [] 23 [] [] [] [] [.tmp 2]
def A8o:E5:=⟨[(0,.v 50),(3,.o 1003 159 true),(4,.v 2)],[]⟩
def A8p (K:Nat)(n:Nat)(q:PT A8o):Rt s_18:=Asq K q.1 n q.2.1 q.2.2.1
theorem Bnz (K:Nat):AtL (Bvb K) (fun n=>[]) [] (bd Tryz.f68) 58 (A8p K):=fun n q=>by kernel_rfl
theorem Bq2 (K:Nat):XF [.tmp 2] s_18 23 [] (Bvb K):=xkF (gC (By2 K) gN) oN
theorem Bn0 (K:Nat)(n:Nat):CF [.tmp 2] s_18 23 [] (bd Tryz.f68) [] 58 (ar A8o (A8p K n)):=
 Aeh (Bq2 K) (Bnz K) (fun n=>kN) n
theorem Bq3 (K:Nat):OkF 68 (Bva K):=
 Aa6 (x:=Bvb K) (L:=[(58,ar A8o (A8p K K))]) (c0:=bd Tryz.f68) (Bq2 K) (by intro a0;show @Eq _ _ _;kernel_rfl) (kC (Bn0 K K) kN) Tryz.func68 trivial
def Ari (K:Nat)(a0:Ec):Option (Eb):=((Awk K a0.fC).bind fun r1=>((Awl K a0.fP).bind fun r2=>((As1 K a0.fL).bind fun r3=>((Asc K a0.fQ).bind fun r4=>((Ank K a0.Pr).bind fun r5=>some (Eb.mk r1 r2 r3 r4 r5))))))
def By3:Sig:=⟨[.v 52],[.n 32 true],true⟩
def By4 (K:Nat):Gb tyU:=⟨By3,Ari K⟩
def B5d (K:Nat):=xF By3 [(65,c_9 K),(66,Bu6 K),(67,Bu8 K),(68,Bva K),(69,Be2 K)] [] 25 [] [] [] [] [.cell 2 32]
theorem By5 (K:Nat):OkF 20 (By4 K):=
 Aa6 (x:=B5d K) (L:=[]) (c0:=bd Tryz.f20) (xkF (gC (Byo K) (gC (Bqy K) (gC (Bq1 K) (gC (Bq3 K) (gC (Ba6 K) gN))))) oN) (by intro a0;show @Eq _ _ _;kernel_rfl) kN Tryz.func20 trivial
def Asd (K:Nat)(a0:Dn):Option (Ct):=some (Ct.mk a0.A5 a0.C2)
def By6:Sig:=⟨[.v 53],[.v 34],true⟩
def By7 (K:Nat):Gb tyU:=⟨By6,Asd K⟩
def B5e (K:Nat):=xF By6 [] [] 11 [] [] [] [] [.cell 2 34]
theorem By8 (K:Nat):OkF 21 (By7 K):=
 Aa6 (x:=B5e K) (L:=[]) (c0:=bd Tryz.f21) (xkF gN oN) (by intro a0;show @Eq _ _ _;kernel_rfl) kN Tryz.func21 trivial
def At4 (K:Nat)(a0:Dw):Option (Dw):=(if(([]:List Int)++a0.Fy).length*1≤140737488355328∧(([]:List Int)++a0.Fy).length≤maxLen then(if(([]:List Int)++a0.Hh).length*8≤140737488355328∧(([]:List Int)++a0.Hh).length≤maxLen then(if(([]:List Int)++a0.Fz).length*8≤140737488355328∧(([]:List Int)++a0.Fz).length≤maxLen then some (Dw.mk (([]:List Int)++a0.Fy) (([]:List Int)++a0.Hh) (([]:List Int)++a0.Fz))else none)else none)else none)
def By9:Sig:=⟨[.v 28],[.n 28 true],true⟩
def Bvc (K:Nat):Gb tyU:=⟨By9,At4 K⟩
def B5f (K:Nat):=xF By9 [] [] 16 [] [] [] [] [.cell 2 28]
theorem Bq4 (K:Nat):OkF 137 (Bvc K):=
 Aa6 (x:=B5f K) (L:=[]) (c0:=bd Tryz.f137) (xkF gN oN) (by intro a0;show @Eq _ _ _;kernel_rfl) kN Tryz.func137 trivial
def Awm (K:Nat)(a0:Ba):Option (Ba):=(if(([]:List Int)++a0.Ae).length*8≤140737488355328∧(([]:List Int)++a0.Ae).length≤maxLen then(if(([]:List A9)++a0.Ea).length*24≤140737488355328∧(([]:List A9)++a0.Ea).length≤maxLen then(if(([]:List Int)++a0.Dg).length*8≤140737488355328∧(([]:List Int)++a0.Dg).length≤maxLen then some (Ba.mk a0.Hh a0.C2 a0.Ly a0.fUp a0.Gq a0.Bt a0.Gr a0.Gs (([]:List Int)++a0.Ae) a0.Pq a0.Gt (([]:List A9)++a0.Ea) (([]:List Int)++a0.Dg))else none)else none)else none)
def Bza:Sig:=⟨[.v 44],[.n 44 true],true⟩
def Bzb (K:Nat):Gb tyU:=⟨Bza,Awm K⟩
def B5g (K:Nat):=xF Bza [] [] 21 [] [] [] [] [.cell 2 44]
theorem Bzc (K:Nat):OkF 209 (Bzb K):=
 Aa6 (x:=B5g K) (L:=[]) (c0:=bd Tryz.f209) (xkF gN oN) (by intro a0;show @Eq _ _ _;kernel_rfl) kN Tryz.func209 trivial
def Aqj (K:Nat)(a0:List Ba):Nat->(List Ba)->Int->Option ((List Ba))
 |0,_,_=>none
 |n1+1,v1,v2=>(bif (decide (v2<(a0.length:Int)))then(if(0:Int)≤v2∧v2<(a0.length:Int)then((Awm K (gt a0 v2)).bind fun r3=>(if(v1++[r3]).length*152≤140737488355328∧(v1++[r3]).length≤maxLen then(Aqj K a0 n1 (v1++[r3]) (Aoa .i64 v2 1))else none))else none)else some v1)
def Avd (K:Nat)(a0:List Ba):Option ((List Ba)):=(Aqj K a0 K ([]:List Ba) 0)
def s_23:Sig:=⟨[.v 29],[.n 29 true],true⟩
def Bvd (K:Nat):Gb tyU:=⟨s_23,Avd K⟩
def Bve (K:Nat):=xF s_23 [(209,Bzb K)] [] 23 [] [] [(20,[.put 3020])] [] [.tmp 2]
def A8q:E5:=⟨[(0,.v 29),(3,.o 1003 44 true),(4,.v 2)],[]⟩
def A8r (K:Nat)(n:Nat)(q:PT A8q):Rt s_23:=Aqj K q.1 n q.2.1 q.2.2.1
theorem Bn1 (K:Nat):AtL (Bve K) (fun n=>[]) [] (bd Tryz.f138) 58 (A8r K):=fun n q=>by kernel_rfl
theorem Bq5 (K:Nat):XF [.tmp 2] s_23 23 [] (Bve K):=xkF (gC (Bzc K) gN) oN
theorem Bn2 (K:Nat)(n:Nat):CF [.tmp 2] s_23 23 [] (bd Tryz.f138) [] 58 (ar A8q (A8r K n)):=
 Aeh (Bq5 K) (Bn1 K) (fun n=>kN) n
theorem Bq6 (K:Nat):OkF 138 (Bvd K):=
 Aa6 (x:=Bve K) (L:=[(58,ar A8q (A8r K K))]) (c0:=bd Tryz.f138) (Bq5 K) (by intro a0;show @Eq _ _ _;kernel_rfl) (kC (Bn2 K K) kN) Tryz.func138 trivial
def Ave (K:Nat)(a0:Ax):Option (Ax):=(if(([]:List Int)++a0.Dg).length*8≤140737488355328∧(([]:List Int)++a0.Dg).length≤maxLen then(if(([]:List Int)++a0.Ae).length*8≤140737488355328∧(([]:List Int)++a0.Ae).length≤maxLen then some (Ax.mk a0.A5 a0.Bt (([]:List Int)++a0.Dg) (([]:List Int)++a0.Ae) a0.Gu)else none)else none)
def Bzd:Sig:=⟨[.v 159],[.n 159 true],true⟩
def Bze (K:Nat):Gb tyU:=⟨Bzd,Ave K⟩
def B5h (K:Nat):=xF Bzd [] [] 16 [] [] [] [] [.cell 2 159]
theorem Bzf (K:Nat):OkF 139 (Bze K):=
 Aa6 (x:=B5h K) (L:=[]) (c0:=bd Tryz.f139) (xkF gN oN) (by intro a0;show @Eq _ _ _;kernel_rfl) kN Tryz.func139 trivial
def Apq (K:Nat):Nat->Int->Int->Int->Int->Int->Int->Int->(List Int)->(List Int)->(List Int)->(List Ba)->(List Ax)->(List Int)->Eb->Int->Int->Int->Int->Int->Int->(List Int)->(List Int)->(List Int)->(List Ba)->(List Ax)->(List Int)->Option (Eb)
 |0,_,_,_,_,_,_,_,_,_,_,_,_,_,_,_,_,_,_,_,_,_,_,_,_,_,_=>none
 |n1+1,v3,v4,v5,v6,v7,v8,v9,v10,v11,v12,v13,v14,v15,v16,v17,v18,v19,v20,v21,v22,v23,v24,v25,v26,v27,v28=>(bif (decide (v3<(v27.length:Int)))then(if(0:Int)≤v3∧v3<(v27.length:Int)then((Ave K (gt v27 v3)).bind fun r29=>(if(v14++[r29]).length*72≤140737488355328∧(v14++[r29]).length≤maxLen then(Apq K n1 (Aoa .i64 v3 1) v4 v5 v6 v7 v8 v9 v10 v11 v12 v13 (v14++[r29]) v15 v16 v17 v18 v19 v20 v21 v22 v23 v24 v25 v26 v27 v28)else none))else none)else(if(([]:List Int)++v28).length*8≤140737488355328∧(([]:List Int)++v28).length≤maxLen then some (Eb.mk (Er.mk v4 v5 v6 v7 v8 v9) (Dw.mk v10 v11 v12) v13 v14 (([]:List Int)++v28))else none))
def Avf (K:Nat)(a0:Eb):Option (Eb):=((At4 K a0.fP).bind fun r1=>((Avd K a0.fL).bind fun r2=>(Apq K K 0 a0.fC.Ae a0.fC.Eg a0.fC.C0 a0.fC.E9 a0.fC.C1 a0.fC.Eh r1.Fy r1.Hh r1.Fz r2 ([]:List Ax) a0.Pr (Eb.mk (Er.mk 0 0 0 0 0 0) (Dw.mk [] [] []) [] [] []) a0.fC.Ae a0.fC.Eg a0.fC.C0 a0.fC.E9 a0.fC.C1 a0.fC.Eh a0.fP.Fy a0.fP.Hh a0.fP.Fz a0.fL a0.fQ a0.Pr)))
def s_25:Sig:=⟨[.v 32],[.n 32 true],true⟩
def Bzg (K:Nat):Gb tyU:=⟨s_25,Avf K⟩
def Bvf (K:Nat):=xF s_25 [(137,Bvc K),(138,Bvd K),(139,Bze K)] [] 42 [] [(9,[.take 103 10 6658]),(11,[.take 103 6 6654,.take 103 7 6655,.take 103 8 6656,.take 103 9 6657,.take 103 10 6658])] [(33,[.put 3033])] [] [.cell 2 32]
def A3t:E5:=⟨[(1,.p 101),(2,.p 102),(3,.p 103),(4,.v 2)],[(103,.box [.v 2,.v 2,.v 2,.v 2,.v 2,.v 2,.T 5 true,.T 3 true,.T 3 true,.T 44 true,.T 159 true,.v 26]),(102,.st 32 true),(101,.box [.v 2,.v 2,.v 2,.v 2,.v 2,.v 2,.v 22,.v 26,.v 26,.v 29,.v 30,.v 26])]⟩
def A3u (K:Nat)(n:Nat)(q:PT A3t):Rt s_25:=Apq K n q.1 q.2.1 q.2.2.1 q.2.2.2.1 q.2.2.2.2.1 q.2.2.2.2.2.1 q.2.2.2.2.2.2.1 q.2.2.2.2.2.2.2.1 q.2.2.2.2.2.2.2.2.1 q.2.2.2.2.2.2.2.2.2.1 q.2.2.2.2.2.2.2.2.2.2.1 q.2.2.2.2.2.2.2.2.2.2.2.1 q.2.2.2.2.2.2.2.2.2.2.2.2.1 q.2.2.2.2.2.2.2.2.2.2.2.2.2.1 q.2.2.2.2.2.2.2.2.2.2.2.2.2.2.1 q.2.2.2.2.2.2.2.2.2.2.2.2.2.2.2.1 q.2.2.2.2.2.2.2.2.2.2.2.2.2.2.2.2.1 q.2.2.2.2.2.2.2.2.2.2.2.2.2.2.2.2.2.1 q.2.2.2.2.2.2.2.2.2.2.2.2.2.2.2.2.2.2.1 q.2.2.2.2.2.2.2.2.2.2.2.2.2.2.2.2.2.2.2.1 q.2.2.2.2.2.2.2.2.2.2.2.2.2.2.2.2.2.2.2.2.1 q.2.2.2.2.2.2.2.2.2.2.2.2.2.2.2.2.2.2.2.2.2.1 q.2.2.2.2.2.2.2.2.2.2.2.2.2.2.2.2.2.2.2.2.2.2.1 q.2.2.2.2.2.2.2.2.2.2.2.2.2.2.2.2.2.2.2.2.2.2.2.1 q.2.2.2.2.2.2.2.2.2.2.2.2.2.2.2.2.2.2.2.2.2.2.2.2.1 q.2.2.2.2.2.2.2.2.2.2.2.2.2.2.2.2.2.2.2.2.2.2.2.2.2.1
theorem Bhc (K:Nat):AtL (Bvf K) (fun n=>[]) [] (bd Tryz.f82) 506 (A3u K):=fun n q=>by kernel_rfl
theorem Bq7 (K:Nat):XF [.cell 2 32] s_25 42 [] (Bvf K):=xkF (gC (Bq4 K) (gC (Bq6 K) (gC (Bzf K) gN))) oN
theorem Bhd (K:Nat)(n:Nat):CF [.cell 2 32] s_25 42 [] (bd Tryz.f82) [] 506 (ar A3t (A3u K n)):=
 Aeh (Bq7 K) (Bhc K) (fun n=>kN) n
theorem Bzh (K:Nat):OkF 82 (Bzg K):=
 Aa6 (x:=Bvf K) (L:=[(506,ar A3t (A3u K K))]) (c0:=bd Tryz.f82) (Bq7 K) (by intro a0;show @Eq _ _ _;kernel_rfl) (kC (Bhd K K) kN) Tryz.func82 trivial
def Abk (K:Nat)(a0:Int)(a1:Int)(a2:Int):Option (Bool):=(bif (decide (a0≥a1))then some (decide (a0≤a2))else some false)
def Bzi:Sig:=⟨[.v 3,.v 3,.v 3],[.v 4],true⟩
def A64 (K:Nat):Gb tyU:=⟨Bzi,Abk K⟩
def B5i (K:Nat):=xF Bzi [] [] 15 [9,10] [] [] [] [.tmp 6]
theorem A1h (K:Nat):OkF 84 (A64 K):=
 Aa6 (x:=B5i K) (L:=[]) (c0:=bd Tryz.f84) (xkF gN oN) (by intro a0 a1 a2;show @Eq _ _ _;kernel_rfl) kN Tryz.func84 trivial
def Ard (K:Nat)(a0:Er):Option (Bool):=((Abk K a0.Ae 2 12).bind fun r1=>(bif r1 then((Abk K a0.Eg 8 16).bind fun r2=>(bif r2 then((Abk K a0.C0 2 8).bind fun r3=>(bif r3 then((Abk K a0.E9 1 8).bind fun r4=>(bif r4 then((Abk K a0.C1 1 16).bind fun r5=>(bif r5 then((Abk K a0.Eh 1 4).bind fun r6=>some r6)else some false))else some false))else some false))else some false))else some false))
def Bzj:Sig:=⟨[.v 25],[.v 4],true⟩
def Bhe (K:Nat):Gb tyU:=⟨Bzj,Ard K⟩
def B5j (K:Nat):=xF Bzj [(84,A64 K)] [] 31 [5,6,9,10,11,14,15,16,19,20,21,24,25,26] [] [] [] [.tmp 2]
theorem Beb (K:Nat):OkF 210 (Bhe K):=
 Aa6 (x:=B5j K) (L:=[]) (c0:=bd Tryz.f210) (xkF (gC (A1h K) gN) oN) (by intro a0;show @Eq _ _ _;kernel_rfl) kN Tryz.func210 trivial
def As3 (K:Nat)(a0:Er):Option (Int):=((Ard K a0).bind fun r1=>(bif (!r1)then some 0 else some (Aoc .i64 a0.Ae a0.Eg)))
def Bzk:Sig:=⟨[.v 25],[.v 3],true⟩
def Bvg (K:Nat):Gb tyU:=⟨Bzk,As3 K⟩
def B5k (K:Nat):=xF Bzk [(210,Bhe K)] [] 11 [] [] [] [] [.tmp 2]
theorem Bq8 (K:Nat):OkF 211 (Bvg K):=
 Aa6 (x:=B5k K) (L:=[]) (c0:=bd Tryz.f211) (xkF (gC (Beb K) gN) oN) (by intro a0;show @Eq _ _ _;kernel_rfl) kN Tryz.func211 trivial
def Aqw (K:Nat)(a0:List Int):Nat->Int->Option (Bool)
 |0,_=>none
 |n1+1,v1=>(bif (decide (v1<(a0.length:Int)))then(if(0:Int)≤v1∧v1<(a0.length:Int)then(bif ((gt a0 v1) != 0)then some false else(Aqw K a0 n1 (Aoa .i64 v1 1)))else none)else some true)
def Asj (K:Nat)(a0:List Int):Option (Bool):=(Aqw K a0 K 0)
def s_29:Sig:=⟨[.v 22],[.v 4],true⟩
def Bn3 (K:Nat):Gb tyU:=⟨s_29,Asj K⟩
def Bvh (K:Nat):=xF s_29 [] [] 15 [] [] [] [] [.tmp 2]
def A8s:E5:=⟨[(0,.v 22),(3,.v 2)],[]⟩
def A8t (K:Nat)(n:Nat)(q:PT A8s):Rt s_29:=Aqw K q.1 n q.2.1
theorem Bn4 (K:Nat):AtL (Bvh K) (fun n=>[]) [] (bd Tryz.f212) 26 (A8t K):=fun n q=>by kernel_rfl
theorem Bq9 (K:Nat):XF [.tmp 2] s_29 15 [] (Bvh K):=xkF gN oN
theorem Bn5 (K:Nat)(n:Nat):CF [.tmp 2] s_29 15 [] (bd Tryz.f212) [] 26 (ar A8s (A8t K n)):=
 Aeh (Bq9 K) (Bn4 K) (fun n=>kN) n
theorem Bhf (K:Nat):OkF 212 (Bn3 K):=
 Aa6 (x:=Bvh K) (L:=[(26,ar A8s (A8t K K))]) (c0:=bd Tryz.f212) (Bq9 K) (by intro a0;show @Eq _ _ _;kernel_rfl) (kC (Bn5 K K) kN) Tryz.func212 trivial
def Aue (K:Nat)(v3:Int)(v4:List Int)(v5:List Int)(v6:List Int)(C1:Int->(List Int)->(List Int)->(List Int)->Option (Bool)):Option (Bool):=(C1 (Aoa .i64 v3 1) v4 v5 v6)
def Aqx (K:Nat)(a0:Er)(v3:Int)(v4:List Int)(v5:List Int)(v6:List Int)(C1:Int->(List Int)->(List Int)->(List Int)->Option (Bool)):Option (Bool):=(if(0:Int)≤v3∧v3<(v5.length:Int)then(bif ((gt v5 v3)==0)then(if(0:Int)≤(Aoc .i64 v3 a0.Eg)∧(Aoc .i64 v3 a0.Eg)≤(Aoc .i64 (Aoa .i64 v3 1) a0.Eg)∧(Aoc .i64 (Aoa .i64 v3 1) a0.Eg)≤(v4.length:Int)then((Asj K ((v4.drop (Aoc .i64 v3 a0.Eg).toNat).take ((Aoc .i64 (Aoa .i64 v3 1) a0.Eg) - (Aoc .i64 v3 a0.Eg)).toNat)).bind fun r9=>(bif (!r9)then some false else(Aue K v3 v4 v5 v6 (C1))))else none)else(Aue K v3 v4 v5 v6 (C1)))else none)
def Alf (K:Nat)(a0:Er):Nat->Int->(List Int)->(List Int)->(List Int)->Option (Bool)
 |0,_,_,_,_=>none
 |n1+1,v3,v4,v5,v6=>(bif (decide (v3<a0.Ae))then(if(0:Int)≤v3∧v3<(v5.length:Int)then((Abk K (gt v5 v3) 0 2).bind fun r7=>(bif (!r7)then some false else(if(0:Int)≤v3∧v3<(v5.length:Int)then(bif ((gt v5 v3)==1)then(if(0:Int)≤v3∧v3<(v6.length:Int)then((Abk K (gt v6 v3) 0 (Aob .i64 a0.C0 1)).bind fun r8=>(bif r8 then(if(0:Int)≤v3∧v3<(v5.length:Int)then(bif ((gt v5 v3) != 1)then(if(0:Int)≤v3∧v3<(v6.length:Int)then(bif ((gt v6 v3) != (-1))then some false else(Aqx K a0 v3 v4 v5 v6 (Alf K a0 n1)))else none)else(Aqx K a0 v3 v4 v5 v6 (Alf K a0 n1)))else none)else some false))else none)else(if(0:Int)≤v3∧v3<(v5.length:Int)then(bif ((gt v5 v3) != 1)then(if(0:Int)≤v3∧v3<(v6.length:Int)then(bif ((gt v6 v3) != (-1))then some false else(Aqx K a0 v3 v4 v5 v6 (Alf K a0 n1)))else none)else(Aqx K a0 v3 v4 v5 v6 (Alf K a0 n1)))else none))else none)))else none)else some true)
def Awn (K:Nat)(a0:Er)(a1:Dw):Option (Bool):=((Ard K a0).bind fun r1=>(bif r1 then((As3 K a0).bind fun r2=>(bif ((a1.Fy.length:Int) != r2)then some false else(bif ((a1.Hh.length:Int) != a0.Ae)then some false else(bif ((a1.Fz.length:Int) != a0.Ae)then some false else(Alf K a0 K 0 a1.Fy a1.Hh a1.Fz)))))else some false))
def s_30:Sig:=⟨[.v 25,.v 28],[.v 4],true⟩
def Bzl (K:Nat):Gb tyU:=⟨s_30,Awn K⟩
def Bhg (K:Nat):=xF s_30 [(84,A64 K),(210,Bhe K),(211,Bvg K),(212,Bn3 K)] [] 102 [7,8,9,15,16,17,23,24,25,51,52,61,62,63,64,70,71,85,86] [] [] [233,1865] [.tmp 4]
def A3v:E5:=⟨[(2,.p 102),(3,.p 103),(5,.v 2)],[(103,.box [.v 22,.v 26,.v 26]),(102,.st 25 true)]⟩
def A2a:E5:=⟨[(2,.p 102),(3,.p 103),(5,.v 2)],[(103,.box [.v 22,.v 26,.v 26]),(102,.st 25 true)]⟩
def Atm:E5:=⟨[(2,.p 102),(3,.p 103),(5,.v 2)],[(103,.box [.v 22,.v 26,.v 26]),(102,.st 25 true)]⟩
def A3w (K:Nat)(C58:CT Atm s_30)(q:PT A3v):Rt s_30:=Aue K q.1 q.2.1 q.2.2.1 q.2.2.2.1 (fun v3 v4 v5 v6=>C58 (v3,v4,v5,v6,q.2.2.2.2.1,()))
def A2b (K:Nat)(C58:CT Atm s_30)(q:PT A2a):Rt s_30:=Aqx K q.2.2.2.2.1 q.1 q.2.1 q.2.2.1 q.2.2.2.1 (fun v3 v4 v5 v6=>C58 (v3,v4,v5,v6,q.2.2.2.2.1,()))
def A1i (K:Nat)(n:Nat)(q:PT Atm):Rt s_30:=Alf K q.2.2.2.2.1 n q.1 q.2.1 q.2.2.1 q.2.2.2.1
theorem Bhh (K:Nat)(C58:CT Atm s_30):AtJ (Bhg K) [] [(58,ar Atm C58)] (bd Tryz.f140) 233 (A3w K C58):=fun q=>by kernel_rfl
theorem Be3 (K:Nat)(C58:CT Atm s_30):AtJ (Bhg K) [(233,ar A3v (A3w K C58))] [(58,ar Atm C58)] (bd Tryz.f140) 1865 (A2b K C58):=fun q=>by kernel_rfl
theorem Bn6 (K:Nat):AtL (Bhg K) (fun n=>[(1865,ar A2a (A2b K (A1i K n)))]) [] (bd Tryz.f140) 58 (A1i K):=fun n q=>by kernel_rfl
theorem Bec (K:Nat):XF [.tmp 4] s_30 102 [233,1865] (Bhg K):=xkF (gC (A1h K) (gC (Beb K) (gC (Bq8 K) (gC (Bhf K) gN)))) oN
theorem Bhi (K:Nat)(C58:CT Atm s_30):CF [.tmp 4] s_30 102 [233,1865] (bd Tryz.f140) [(58,ar Atm C58)] 233 (ar A3v (A3w K C58)):=
 Amf (Bec K) (Bhh K C58) kN
theorem Be4 (K:Nat)(C58:CT Atm s_30):CF [.tmp 4] s_30 102 [233,1865] (bd Tryz.f140) [(58,ar Atm C58)] 1865 (ar A2a (A2b K C58)):=
 Amf (Bec K) (Be3 K C58) (kC (Bhi K C58) kN)
theorem Bn7 (K:Nat)(n:Nat):CF [.tmp 4] s_30 102 [233,1865] (bd Tryz.f140) [] 58 (ar Atm (A1i K n)):=
 Aeh (Bec K) (Bn6 K) (fun n=>(kC (Be4 K (A1i K n)) kN)) n
theorem Bzm (K:Nat):OkF 140 (Bzl K):=
 Aa6 (x:=Bhg K) (L:=[(58,ar Atm (A1i K K))]) (c0:=bd Tryz.f140) (Bec K) (by intro a0 a1;show @Eq _ _ _;kernel_rfl) (kC (Bn7 K K) kN) Tryz.func140 trivial
def Aiz (K:Nat)(a0:List Ba)(a1:Int):Option (Bool):=(bif (decide (a1≥1))then some (decide (a1≤(a0.length:Int)))else some false)
def Bzn:Sig:=⟨[.v 29,.v 3],[.v 4],true⟩
def Bco (K:Nat):Gb tyU:=⟨Bzn,Aiz K⟩
def B5l (K:Nat):=xF Bzn [] [] 13 [6,7] [] [] [] [.tmp 4]
theorem A7t (K:Nat):OkF 244 (Bco K):=
 Aa6 (x:=B5l K) (L:=[]) (c0:=bd Tryz.f244) (xkF gN oN) (by intro a0 a1;show @Eq _ _ _;kernel_rfl) kN Tryz.func244 trivial
def Apt (K:Nat)(a0:List Ba)(a1:Int):Option (Bool):=(bif (a1==0)then some true else((Aiz K a0 a1).bind fun r1=>(bif r1 then(if(0:Int)≤(Aob .i64 a1 1)∧(Aob .i64 a1 1)<(a0.length:Int)then some (((gt a0 (Aob .i64 a1 1)).Hh)==1)else none)else some false)))
def Bzo:Sig:=⟨[.v 29,.v 3],[.v 4],true⟩
def Bzp (K:Nat):Gb tyU:=⟨Bzo,Apt K⟩
def B5m (K:Nat):=xF Bzo [(244,Bco K)] [] 21 [6,7,10,11] [] [] [] [.tmp 4]
theorem Bzq (K:Nat):OkF 264 (Bzp K):=
 Aa6 (x:=B5m K) (L:=[]) (c0:=bd Tryz.f264) (xkF (gC (A7t K) gN) oN) (by intro a0 a1;show @Eq _ _ _;kernel_rfl) kN Tryz.func264 trivial
def Aq2 (K:Nat)(a0:List Ba)(a1:Int):Option (Bool):=(if(0:Int)≤a1∧a1<(a0.length:Int)then((Aiz K a0 ((gt a0 a1).fUp)).bind fun r1=>(bif r1 then(if(0:Int)≤(Aob .i64 ((gt a0 a1).fUp) 1)∧(Aob .i64 ((gt a0 a1).fUp) 1)<(a0.length:Int)then(bif (((gt a0 (Aob .i64 ((gt a0 a1).fUp) 1)).Hh)==1)then(if(0:Int)≤(Aob .i64 ((gt a0 a1).fUp) 1)∧(Aob .i64 ((gt a0 a1).fUp) 1)<(a0.length:Int)then(if(0:Int)≤a1∧a1<(a0.length:Int)then some (((gt a0 (Aob .i64 ((gt a0 a1).fUp) 1)).Ly)==((gt a0 a1).Gq))else none)else none)else some false)else none)else some false))else none)
def Bzr:Sig:=⟨[.v 29,.v 3],[.v 4],true⟩
def Bn8 (K:Nat):Gb tyU:=⟨Bzr,Aq2 K⟩
def B5n (K:Nat):=xF Bzr [(244,Bco K)] [] 37 [13,14,21,22,23] [] [] [] [.tmp 4]
theorem Bhj (K:Nat):OkF 225 (Bn8 K):=
 Aa6 (x:=B5n K) (L:=[]) (c0:=bd Tryz.f225) (xkF (gC (A7t K) gN) oN) (by intro a0 a1;show @Eq _ _ _;kernel_rfl) kN Tryz.func225 trivial
def At5 (K:Nat)(a0:List Ba):Nat->Int->(List Int)->Option ((List Int))
 |0,_,_=>none
 |n1+1,v1,v2=>((Aiz K a0 (Aoa .i64 v1 1)).bind fun r3=>(bif r3 then(bif (decide ((v2.length:Int)<(a0.length:Int)))then(if(v2++([v1]:List Int)).length*8≤140737488355328∧(v2++([v1]:List Int)).length≤maxLen then(if(0:Int)≤v1∧v1<(a0.length:Int)then(At5 K a0 n1 (Aob .i64 ((gt a0 v1).fUp) 1) (v2++([v1]:List Int)))else none)else none)else some v2)else some v2))
def Au5 (K:Nat)(a0:List Ba)(a1:Int):Option ((List Int)):=(At5 K a0 K a1 ([]:List Int))
def s_34:Sig:=⟨[.v 29,.v 3],[.n 26 true],true⟩
def Bn9 (K:Nat):Gb tyU:=⟨s_34,Au5 K⟩
def Bvi (K:Nat):=xF s_34 [(244,Bco K)] [] 29 [10,11] [] [] [] [.tmp 4]
def A8u:E5:=⟨[(0,.v 29),(1,.v 2),(5,.o 1005 3 true)],[]⟩
def A8v (K:Nat)(n:Nat)(q:PT A8u):Rt s_34:=At5 K q.1 n q.2.1 q.2.2.1
theorem Boa (K:Nat):AtL (Bvi K) (fun n=>[]) [] (bd Tryz.f224) 28 (A8v K):=fun n q=>by kernel_rfl
theorem Bra (K:Nat):XF [.tmp 4] s_34 29 [] (Bvi K):=xkF (gC (A7t K) gN) oN
theorem Bob (K:Nat)(n:Nat):CF [.tmp 4] s_34 29 [] (bd Tryz.f224) [] 28 (ar A8u (A8v K n)):=
 Aeh (Bra K) (Boa K) (fun n=>kN) n
theorem Bhk (K:Nat):OkF 224 (Bn9 K):=
 Aa6 (x:=Bvi K) (L:=[(28,ar A8u (A8v K K))]) (c0:=bd Tryz.f224) (Bra K) (by intro a0 a1;show @Eq _ _ _;kernel_rfl) (kC (Bob K K) kN) Tryz.func224 trivial
def Arj (K:Nat)(a0:List Ba)(a1:Int):Option (Bool):=((Au5 K a0 a1).bind fun r19=>(bif (decide ((r19.length:Int)≤4))then(if(0:Int)≤(Aob .i64 (r19.length:Int) 1)∧(Aob .i64 (r19.length:Int) 1)<(r19.length:Int)then((Aq2 K a0 (gt r19 (Aob .i64 (r19.length:Int) 1))).bind fun r20=>some (!r20))else none)else some false))
def As4 (K:Nat)(a0:List Ba)(a1:Int)(v8:Int)(v12:Int):Option (Bool):=(bif (v12==0)then((Aq2 K a0 a1).bind fun r18=>(bif r18 then(if(0:Int)≤(Aob .i64 v8 1)∧(Aob .i64 v8 1)<(a0.length:Int)then(bif (((gt a0 (Aob .i64 v8 1)).Bt) != (Aoa .i64 a1 1))then some false else(Arj K a0 a1))else none)else(Arj K a0 a1)))else(Arj K a0 a1))
def As5 (K:Nat)(a0:List Ba)(a1:Int)(v8:Int)(v12:Int):Option (Bool):=(bif (v12 != 0)then(if(0:Int)≤(Aob .i64 v12 1)∧(Aob .i64 v12 1)<(a0.length:Int)then(bif (((gt a0 (Aob .i64 v12 1)).Gr) != (Aoa .i64 a1 1))then some false else(As4 K a0 a1 v8 v12))else none)else(As4 K a0 a1 v8 v12))
def As6 (K:Nat)(a0:List Ba)(a1:Int)(v8:Int)(v9:Int)(v11:Int)(v12:Int):Option (Bool):=(bif (v11 != 0)then(if(0:Int)≤(Aob .i64 v11 1)∧(Aob .i64 v11 1)<(a0.length:Int)then(bif (((gt a0 (Aob .i64 v11 1)).Gs) != (Aoa .i64 a1 1))then some false else(bif (((gt a0 (Aob .i64 v11 1)).fUp) != v8)then some false else(bif (((gt a0 (Aob .i64 v11 1)).Gq) != v9)then some false else(As5 K a0 a1 v8 v12))))else none)else(As5 K a0 a1 v8 v12))
def As7 (K:Nat)(a0:List Ba)(a1:Int)(v5:Int)(v6:Int)(v7:Int)(v8:Int)(v9:Int)(v10:Int)(v11:Int)(v12:Int)(v13:List Int)(v14:Int)(v15:Int)(v16:List A9)(v17:List Int):Option (Bool):=(bif (v10 != 0)then(if(0:Int)≤(Aob .i64 v10 1)∧(Aob .i64 v10 1)<(a0.length:Int)then(bif (((gt a0 (Aob .i64 v10 1)).Gs) != 0)then some false else(bif (((gt a0 (Aob .i64 v10 1)).fUp) != (Aoa .i64 a1 1))then some false else(bif (((gt a0 (Aob .i64 v10 1)).Gq) != v7)then some false else(As6 K a0 a1 v8 v9 v11 v12))))else none)else(As6 K a0 a1 v8 v9 v11 v12))
def Axj (K:Nat)(a0:List Ba)(a1:Int):Option (Bool):=(if(0:Int)≤a1∧a1<(a0.length:Int)then(bif (((gt a0 a1).fUp) != 0)then((Aiz K a0 ((gt a0 a1).fUp)).bind fun r1=>(bif r1 then((Apt K a0 ((gt a0 a1).Bt)).bind fun r2=>(bif r2 then((Apt K a0 ((gt a0 a1).Gr)).bind fun r3=>(bif r3 then((Apt K a0 ((gt a0 a1).Gs)).bind fun r4=>(bif (!r4)then some false else(As7 K a0 a1 ((gt a0 a1).Hh) ((gt a0 a1).C2) ((gt a0 a1).Ly) ((gt a0 a1).fUp) ((gt a0 a1).Gq) ((gt a0 a1).Bt) ((gt a0 a1).Gr) ((gt a0 a1).Gs) ((gt a0 a1).Ae) ((gt a0 a1).Pq) ((gt a0 a1).Gt) ((gt a0 a1).Ea) ((gt a0 a1).Dg))))else some false))else some false))else some false))else((Apt K a0 ((gt a0 a1).Bt)).bind fun r21=>(bif r21 then((Apt K a0 ((gt a0 a1).Gr)).bind fun r22=>(bif r22 then((Apt K a0 ((gt a0 a1).Gs)).bind fun r23=>(bif (!r23)then some false else(As7 K a0 a1 ((gt a0 a1).Hh) ((gt a0 a1).C2) ((gt a0 a1).Ly) ((gt a0 a1).fUp) ((gt a0 a1).Gq) ((gt a0 a1).Bt) ((gt a0 a1).Gr) ((gt a0 a1).Gs) ((gt a0 a1).Ae) ((gt a0 a1).Pq) ((gt a0 a1).Gt) ((gt a0 a1).Ea) ((gt a0 a1).Dg))))else some false))else some false)))else none)
def s_35:Sig:=⟨[.v 29,.v 3],[.v 4],true⟩
def Bzs (K:Nat):Gb tyU:=⟨s_35,Axj K⟩
def Bcp (K:Nat):=xF s_35 [(224,Bn9 K),(225,Bn8 K),(244,Bco K),(264,Bzp K)] [] 150 [15,16,20,21,22,23,27,28,29,30,34,35,36,37,55,56,61,62,63,83,84,89,90,91,100,101,115,116,119,120,121,138,139] [] [] [7,15,31,63,127] [.tmp 4]
def A3x:E5:=⟨[(0,.v 29),(1,.v 2)],[]⟩
def A8w:E5:=⟨[(0,.v 29),(1,.v 2),(5,.p 105)],[(105,.box [.v 2,.v 2,.v 2,.v 2,.v 2,.v 2,.v 2,.v 2,.v 26,.v 2,.v 2,.v 41,.v 26])]⟩
def A8x:E5:=⟨[(0,.v 29),(1,.v 2),(5,.p 105)],[(105,.box [.v 2,.v 2,.v 2,.v 2,.v 2,.v 2,.v 2,.v 2,.v 26,.v 2,.v 2,.v 41,.v 26])]⟩
def A8y:E5:=⟨[(0,.v 29),(1,.v 2),(5,.p 105)],[(105,.box [.v 2,.v 2,.v 2,.v 2,.v 2,.v 2,.v 2,.v 2,.v 26,.v 2,.v 2,.v 41,.v 26])]⟩
def Bcq:E5:=⟨[(0,.v 29),(1,.v 2),(5,.p 105)],[(105,.box [.v 2,.v 2,.v 2,.v 2,.v 2,.v 2,.v 2,.v 2,.v 26,.v 2,.v 2,.v 41,.v 26])]⟩
def A3y (K:Nat)(q:PT A3x):Rt s_35:=Arj K q.1 q.2.1
def A8z (K:Nat)(q:PT A8w):Rt s_35:=As4 K q.1 q.2.1 q.2.2.2.2.2.1 q.2.2.2.2.2.2.2.2.2.1
def A80 (K:Nat)(q:PT A8x):Rt s_35:=As5 K q.1 q.2.1 q.2.2.2.2.2.1 q.2.2.2.2.2.2.2.2.2.1
def A81 (K:Nat)(q:PT A8y):Rt s_35:=As6 K q.1 q.2.1 q.2.2.2.2.2.1 q.2.2.2.2.2.2.1 q.2.2.2.2.2.2.2.2.1 q.2.2.2.2.2.2.2.2.2.1
def Bcr (K:Nat)(q:PT Bcq):Rt s_35:=As7 K q.1 q.2.1 q.2.2.1 q.2.2.2.1 q.2.2.2.2.1 q.2.2.2.2.2.1 q.2.2.2.2.2.2.1 q.2.2.2.2.2.2.2.1 q.2.2.2.2.2.2.2.2.1 q.2.2.2.2.2.2.2.2.2.1 q.2.2.2.2.2.2.2.2.2.2.1 q.2.2.2.2.2.2.2.2.2.2.2.1 q.2.2.2.2.2.2.2.2.2.2.2.2.1 q.2.2.2.2.2.2.2.2.2.2.2.2.2.1 q.2.2.2.2.2.2.2.2.2.2.2.2.2.2.1
theorem Bhl (K:Nat):AtJ (Bcp K) [] [] (bd Tryz.f213) 127 (A3y K):=fun q=>by kernel_rfl
theorem Boc (K:Nat):AtJ (Bcp K) [(127,ar A3x (A3y K))] [] (bd Tryz.f213) 63 (A8z K):=fun q=>by kernel_rfl
theorem Bod (K:Nat):AtJ (Bcp K) [(63,ar A8w (A8z K))] [] (bd Tryz.f213) 31 (A80 K):=fun q=>by kernel_rfl
theorem Boe (K:Nat):AtJ (Bcp K) [(31,ar A8x (A80 K))] [] (bd Tryz.f213) 15 (A81 K):=fun q=>by kernel_rfl
theorem Bvj (K:Nat):AtJ (Bcp K) [(15,ar A8y (A81 K))] [] (bd Tryz.f213) 7 (Bcr K):=fun q=>by kernel_rfl
theorem A7u (K:Nat):XF [.tmp 4] s_35 150 [7,15,31,63,127] (Bcp K):=xkF (gC (Bhk K) (gC (Bhj K) (gC (A7t K) (gC (Bzq K) gN)))) oN
theorem Bhm (K:Nat):CF [.tmp 4] s_35 150 [7,15,31,63,127] (bd Tryz.f213) [] 127 (ar A3x (A3y K)):=
 Amf (A7u K) (Bhl K) kN
theorem Bof (K:Nat):CF [.tmp 4] s_35 150 [7,15,31,63,127] (bd Tryz.f213) [] 63 (ar A8w (A8z K)):=
 Amf (A7u K) (Boc K) (kC (Bhm K) kN)
theorem Bog (K:Nat):CF [.tmp 4] s_35 150 [7,15,31,63,127] (bd Tryz.f213) [] 31 (ar A8x (A80 K)):=
 Amf (A7u K) (Bod K) (kC (Bof K) kN)
theorem Boh (K:Nat):CF [.tmp 4] s_35 150 [7,15,31,63,127] (bd Tryz.f213) [] 15 (ar A8y (A81 K)):=
 Amf (A7u K) (Boe K) (kC (Bog K) kN)
theorem Bvk (K:Nat):CF [.tmp 4] s_35 150 [7,15,31,63,127] (bd Tryz.f213) [] 7 (ar Bcq (Bcr K)):=
 Amf (A7u K) (Bvj K) (kC (Boh K) kN)
theorem Bzt (K:Nat):OkF 213 (Bzs K):=
 Aa6 (x:=Bcp K) (L:=[(7,ar Bcq (Bcr K))]) (c0:=bd Tryz.f213) (A7u K) (by intro a0 a1;show @Eq _ _ _;kernel_rfl) (kC (Bvk K) kN) Tryz.func213 trivial
def Auf (K:Nat)(v1:Int)(C1:Int->Option (Bool)):Option (Bool):=(C1 (Aoa .i64 v1 1))
def Aph (K:Nat)(a0:List Ba):Nat->Int->Option (Bool)
 |0,_=>none
 |n1+1,v1=>(bif (decide (v1<(a0.length:Int)))then(if(0:Int)≤v1∧v1<(a0.length:Int)then(bif (((gt a0 v1).Hh)==1)then((Axj K a0 v1).bind fun r2=>(bif (!r2)then some false else(Auf K v1 (Aph K a0 n1))))else(Auf K v1 (Aph K a0 n1)))else none)else some true)
def Awo (K:Nat)(a0:List Ba):Option (Bool):=(Aph K a0 K 0)
def s_36:Sig:=⟨[.v 29],[.v 4],true⟩
def Bzu (K:Nat):Gb tyU:=⟨s_36,Awo K⟩
def Boi (K:Nat):=xF s_36 [(213,Bzs K)] [] 22 [15,16] [] [] [105] [.tmp 2]
def A3z:E5:=⟨[(0,.v 29),(3,.v 2)],[]⟩
def Ayb:E5:=⟨[(0,.v 29),(3,.v 2)],[]⟩
def A30 (K:Nat)(C26:CT Ayb s_36)(q:PT A3z):Rt s_36:=Auf K q.2.1 (fun v1=>C26 (q.1,v1,()))
def A1j (K:Nat)(n:Nat)(q:PT Ayb):Rt s_36:=Aph K q.1 n q.2.1
theorem Bhn (K:Nat)(C26:CT Ayb s_36):AtJ (Boi K) [] [(26,ar Ayb C26)] (bd Tryz.f141) 105 (A30 K C26):=fun q=>by kernel_rfl
theorem Boj (K:Nat):AtL (Boi K) (fun n=>[(105,ar A3z (A30 K (A1j K n)))]) [] (bd Tryz.f141) 26 (A1j K):=fun n q=>by kernel_rfl
theorem Bho (K:Nat):XF [.tmp 2] s_36 22 [105] (Boi K):=xkF (gC (Bzt K) gN) oN
theorem Bhp (K:Nat)(C26:CT Ayb s_36):CF [.tmp 2] s_36 22 [105] (bd Tryz.f141) [(26,ar Ayb C26)] 105 (ar A3z (A30 K C26)):=
 Amf (Bho K) (Bhn K C26) kN
theorem Bok (K:Nat)(n:Nat):CF [.tmp 2] s_36 22 [105] (bd Tryz.f141) [] 26 (ar Ayb (A1j K n)):=
 Aeh (Bho K) (Boj K) (fun n=>(kC (Bhp K (A1j K n)) kN)) n
theorem Bzv (K:Nat):OkF 141 (Bzu K):=
 Aa6 (x:=Boi K) (L:=[(26,ar Ayb (A1j K K))]) (c0:=bd Tryz.f141) (Bho K) (by intro a0;show @Eq _ _ _;kernel_rfl) (kC (Bok K K) kN) Tryz.func141 trivial
def Atn (K:Nat)(v2:Int)(v3:List Int)(v4:List Int)(v5:List Int)(C1:Int->Int->(List Int)->(List Int)->(List Int)->Option (Int))(v6:Int):Option (Int):=(C1 v6 (Aoa .i64 v2 1) v3 v4 v5)
def Ant (K:Nat)(a1:Int):Nat->Int->Int->(List Int)->(List Int)->(List Int)->Option (Int)
 |0,_,_,_,_,_=>none
 |n1+1,v1,v2,v3,v4,v5=>(bif (decide (v2<(v4.length:Int)))then(if(0:Int)≤v2∧v2<(v4.length:Int)then(bif ((gt v4 v2)==a1)then(Atn K v2 v3 v4 v5 (Ant K a1 n1) (Aoa .i64 v1 1))else(Atn K v2 v3 v4 v5 (Ant K a1 n1) v1))else none)else some v1)
def Avg (K:Nat)(a0:Dw)(a1:Int):Option (Int):=(Ant K a1 K 0 0 a0.Fy a0.Hh a0.Fz)
def s_37:Sig:=⟨[.v 28,.v 3],[.v 3],true⟩
def Bzw (K:Nat):Gb tyU:=⟨s_37,Avg K⟩
def Bol (K:Nat):=xF s_37 [] [] 24 [] [] [] [233] [.tmp 4]
def A31:E5:=⟨[(1,.v 2),(2,.p 102),(5,.v 2),(6,.v 2)],[(102,.box [.v 22,.v 26,.v 26])]⟩
def Ayc:E5:=⟨[(1,.v 2),(2,.p 102),(5,.v 2),(6,.v 2)],[(102,.box [.v 22,.v 26,.v 26])]⟩
def A32 (K:Nat)(C58:CT Ayc s_37)(q:PT A31):Rt s_37:=Atn K q.2.2.1 q.2.2.2.1 q.2.2.2.2.1 q.2.2.2.2.2.1 (fun v1 v2 v3 v4 v5=>C58 (q.1,v1,v2,v3,v4,v5,())) q.2.1
def A1k (K:Nat)(n:Nat)(q:PT Ayc):Rt s_37:=Ant K q.1 n q.2.1 q.2.2.1 q.2.2.2.1 q.2.2.2.2.1 q.2.2.2.2.2.1
theorem Bhq (K:Nat)(C58:CT Ayc s_37):AtJ (Bol K) [] [(58,ar Ayc C58)] (bd Tryz.f222) 233 (A32 K C58):=fun q=>by kernel_rfl
theorem Bom (K:Nat):AtL (Bol K) (fun n=>[(233,ar A31 (A32 K (A1k K n)))]) [] (bd Tryz.f222) 58 (A1k K):=fun n q=>by kernel_rfl
theorem Bhr (K:Nat):XF [.tmp 4] s_37 24 [233] (Bol K):=xkF gN oN
theorem Bhs (K:Nat)(C58:CT Ayc s_37):CF [.tmp 4] s_37 24 [233] (bd Tryz.f222) [(58,ar Ayc C58)] 233 (ar A31 (A32 K C58)):=
 Amf (Bhr K) (Bhq K C58) kN
theorem Bon (K:Nat)(n:Nat):CF [.tmp 4] s_37 24 [233] (bd Tryz.f222) [] 58 (ar Ayc (A1k K n)):=
 Aeh (Bhr K) (Bom K) (fun n=>(kC (Bhs K (A1k K n)) kN)) n
theorem Bzx (K:Nat):OkF 222 (Bzw K):=
 Aa6 (x:=Bol K) (L:=[(58,ar Ayc (A1k K K))]) (c0:=bd Tryz.f222) (Bhr K) (by intro a0 a1;show @Eq _ _ _;kernel_rfl) (kC (Bon K K) kN) Tryz.func222 trivial
def Arf (K:Nat)(v2:Int)(C1:Int->Int->Option (Int))(v3:Int):Option (Int):=(C1 v3 (Aoa .i64 v2 1))
def Ajz (K:Nat)(a0:List Ba)(a1:Int):Nat->Int->Int->Option (Int)
 |0,_,_=>none
 |n1+1,v1,v2=>(bif (decide (v2<(a0.length:Int)))then(if(0:Int)≤v2∧v2<(a0.length:Int)then(bif (((gt a0 v2).Hh)==a1)then(Arf K v2 (Ajz K a0 a1 n1) (Aoa .i64 v1 1))else(Arf K v2 (Ajz K a0 a1 n1) v1))else none)else some v1)
def Asr (K:Nat)(a0:List Ba)(a1:Int):Option (Int):=(Ajz K a0 a1 K 0 0)
def s_38:Sig:=⟨[.v 29,.v 3],[.v 3],true⟩
def Bzy (K:Nat):Gb tyU:=⟨s_38,Asr K⟩
def Boo (K:Nat):=xF s_38 [] [] 23 [] [] [] [233] [.tmp 4]
def A33:E5:=⟨[(0,.v 29),(1,.v 2),(5,.v 2),(6,.v 2)],[]⟩
def Ayd:E5:=⟨[(0,.v 29),(1,.v 2),(5,.v 2),(6,.v 2)],[]⟩
def A34 (K:Nat)(C58:CT Ayd s_38)(q:PT A33):Rt s_38:=Arf K q.2.2.2.1 (fun v1 v2=>C58 (q.1,q.2.1,v1,v2,())) q.2.2.1
def A1l (K:Nat)(n:Nat)(q:PT Ayd):Rt s_38:=Ajz K q.1 q.2.1 n q.2.2.1 q.2.2.2.1
theorem Bht (K:Nat)(C58:CT Ayd s_38):AtJ (Boo K) [] [(58,ar Ayd C58)] (bd Tryz.f223) 233 (A34 K C58):=fun q=>by kernel_rfl
theorem Bop (K:Nat):AtL (Boo K) (fun n=>[(233,ar A33 (A34 K (A1l K n)))]) [] (bd Tryz.f223) 58 (A1l K):=fun n q=>by kernel_rfl
theorem Bhu (K:Nat):XF [.tmp 4] s_38 23 [233] (Boo K):=xkF gN oN
theorem Bhv (K:Nat)(C58:CT Ayd s_38):CF [.tmp 4] s_38 23 [233] (bd Tryz.f223) [(58,ar Ayd C58)] 233 (ar A33 (A34 K C58)):=
 Amf (Bhu K) (Bht K C58) kN
theorem Boq (K:Nat)(n:Nat):CF [.tmp 4] s_38 23 [233] (bd Tryz.f223) [] 58 (ar Ayd (A1l K n)):=
 Aeh (Bhu K) (Bop K) (fun n=>(kC (Bhv K (A1l K n)) kN)) n
theorem Bzz (K:Nat):OkF 223 (Bzy K):=
 Aa6 (x:=Boo K) (L:=[(58,ar Ayd (A1l K K))]) (c0:=bd Tryz.f223) (Bhu K) (by intro a0 a1;show @Eq _ _ _;kernel_rfl) (kC (Boq K K) kN) Tryz.func223 trivial
def As8 (K:Nat)(a0:List Int)(a1:Int):Nat->Int->Option (Bool)
 |0,_=>none
 |n1+1,v1=>(bif (decide (v1<(a0.length:Int)))then(if(0:Int)≤v1∧v1<(a0.length:Int)then(bif ((gt a0 v1)==a1)then some true else(As8 K a0 a1 n1 (Aoa .i64 v1 1)))else none)else some false)
def Apu (K:Nat)(a0:List Int)(a1:Int):Option (Bool):=(As8 K a0 a1 K 0)
def s_39:Sig:=⟨[.v 26,.v 3],[.v 4],true⟩
def Be5 (K:Nat):Gb tyU:=⟨s_39,Apu K⟩
def Bvl (K:Nat):=xF s_39 [] [] 18 [] [] [] [] [.tmp 4]
def A82:E5:=⟨[(0,.v 26),(1,.v 2),(5,.v 2)],[]⟩
def A83 (K:Nat)(n:Nat)(q:PT A82):Rt s_39:=As8 K q.1 q.2.1 n q.2.2.1
theorem Bor (K:Nat):AtL (Bvl K) (fun n=>[]) [] (bd Tryz.f218) 26 (A83 K):=fun n q=>by kernel_rfl
theorem Brb (K:Nat):XF [.tmp 4] s_39 18 [] (Bvl K):=xkF gN oN
theorem Bos (K:Nat)(n:Nat):CF [.tmp 4] s_39 18 [] (bd Tryz.f218) [] 26 (ar A82 (A83 K n)):=
 Aeh (Brb K) (Bor K) (fun n=>kN) n
theorem Ba7 (K:Nat):OkF 218 (Be5 K):=
 Aa6 (x:=Bvl K) (L:=[(26,ar A82 (A83 K K))]) (c0:=bd Tryz.f218) (Brb K) (by intro a0 a1;show @Eq _ _ _;kernel_rfl) (kC (Bos K K) kN) Tryz.func218 trivial
def Ark (K:Nat)(a0:List Ba)(a1:Int):Option (Bool):=(if(0:Int)≤a1∧a1<(a0.length:Int)then(bif (((gt a0 a1).Hh)==1)then(if(0:Int)≤a1∧a1<(a0.length:Int)then(bif (((gt a0 a1).fUp) != 0)then((Aq2 K a0 a1).bind fun r1=>some (!r1))else some false)else none)else some false)else none)
def Bz0:Sig:=⟨[.v 29,.v 3],[.v 4],true⟩
def Bvm (K:Nat):Gb tyU:=⟨Bz0,Ark K⟩
def B5o (K:Nat):=xF Bz0 [(225,Bn8 K)] [] 25 [10,11,17,18,19] [] [] [] [.tmp 4]
theorem Brc (K:Nat):OkF 221 (Bvm K):=
 Aa6 (x:=B5o K) (L:=[]) (c0:=bd Tryz.f221) (xkF (gC (Bhj K) gN) oN) (by intro a0 a1;show @Eq _ _ _;kernel_rfl) kN Tryz.func221 trivial
def Ase (K:Nat)(a0:List Ba):Nat->Int->(List Int)->Option ((List Int))
 |0,_,_=>none
 |n1+1,v1,v2=>((Aiz K a0 v1).bind fun r3=>(bif r3 then(bif (decide ((v2.length:Int)<(a0.length:Int)))then(if(v2++([(Aob .i64 v1 1)]:List Int)).length*8≤140737488355328∧(v2++([(Aob .i64 v1 1)]:List Int)).length≤maxLen then(if(0:Int)≤(Aob .i64 v1 1)∧(Aob .i64 v1 1)<(a0.length:Int)then(Ase K a0 n1 ((gt a0 (Aob .i64 v1 1)).Gr) (v2++([(Aob .i64 v1 1)]:List Int)))else none)else none)else some v2)else some v2))
def At6 (K:Nat)(a0:List Ba)(a1:Int):Option ((List Int)):=(Ase K a0 K a1 ([]:List Int))
def s_41:Sig:=⟨[.v 29,.v 3],[.n 26 true],true⟩
def Bvn (K:Nat):Gb tyU:=⟨s_41,At6 K⟩
def Bvo (K:Nat):=xF s_41 [(244,Bco K)] [] 29 [9,10] [] [] [] [.tmp 4]
def A84:E5:=⟨[(0,.v 29),(1,.v 2),(5,.o 1005 3 true)],[]⟩
def A85 (K:Nat)(n:Nat)(q:PT A84):Rt s_41:=Ase K q.1 n q.2.1 q.2.2.1
theorem Bou (K:Nat):AtL (Bvo K) (fun n=>[]) [] (bd Tryz.f202) 28 (A85 K):=fun n q=>by kernel_rfl
theorem Brd (K:Nat):XF [.tmp 4] s_41 29 [] (Bvo K):=xkF (gC (A7t K) gN) oN
theorem Bov (K:Nat)(n:Nat):CF [.tmp 4] s_41 29 [] (bd Tryz.f202) [] 28 (ar A84 (A85 K n)):=
 Aeh (Brd K) (Bou K) (fun n=>kN) n
theorem Bre (K:Nat):OkF 202 (Bvn K):=
 Aa6 (x:=Bvo K) (L:=[(28,ar A84 (A85 K K))]) (c0:=bd Tryz.f202) (Brd K) (by intro a0 a1;show @Eq _ _ _;kernel_rfl) (kC (Bov K K) kN) Tryz.func202 trivial
def Ann (K:Nat)(v4:Int)(v15:List Ax)(v20:List Int)(v21:Int)(C3:(List Int)->Int->Option (Bool)):Nat->Int->Option (Bool)
 |0,_=>none
 |n5+1,v22=>(if(0:Int)≤v4∧v4<(v15.length:Int)then(bif (decide (v22<(((gt v15 v4).Ae).length:Int)))then(if(0:Int)≤v21∧v21<(v15.length:Int)then(if(0:Int)≤v4∧v4<(v15.length:Int)then(if(0:Int)≤v22∧v22<(((gt v15 v4).Ae).length:Int)then((Apu K ((gt v15 v21).Ae) (gt ((gt v15 v4).Ae) v22)).bind fun r23=>(bif r23 then some false else(Ann K v4 v15 v20 v21 C3 n5 (Aoa .i64 v22 1))))else none)else none)else none)else(C3 v20 (Aoa .i64 v21 1)))else none)
def Aqk (K:Nat)(v4:Int)(v15:List Ax)(v20:List Int)(v21:Int)(C3:(List Int)->Int->Option (Bool)):Option (Bool):=(Ann K v4 v15 v20 v21 (C3) K 0)
def Ak9 (K:Nat)(v4:Int)(v5:Int)(v6:Int)(v7:Int)(v8:Int)(v9:Int)(v10:Int)(v11:List Int)(v12:List Int)(v13:List Int)(v14:List Ba)(v15:List Ax)(v16:List Int)(v17:Int)(v18:Int)(C1:Int->Int->(List Int)->Int->Int->Int->Int->Int->Int->Int->(List Int)->(List Int)->(List Int)->(List Ba)->(List Ax)->(List Int)->Option (Bool)):Nat->(List Int)->Int->Option (Bool)
 |0,_,_=>none
 |n3+1,v20,v21=>(bif (decide (v21<v4))then(if(0:Int)≤v4∧v4<(v15.length:Int)then(bif (((gt v15 v4).A5) != 0)then(if(0:Int)≤v21∧v21<(v15.length:Int)then(if(0:Int)≤v4∧v4<(v15.length:Int)then(bif (((gt v15 v21).A5)==((gt v15 v4).A5))then some false else(Aqk K v4 v15 v20 v21 (Ak9 K v4 v5 v6 v7 v8 v9 v10 v11 v12 v13 v14 v15 v16 v17 v18 C1 n3)))else none)else none)else(Aqk K v4 v15 v20 v21 (Ak9 K v4 v5 v6 v7 v8 v9 v10 v11 v12 v13 v14 v15 v16 v17 v18 C1 n3)))else none)else(C1 v17 v18 v20 (Aoa .i64 v4 1) v5 v6 v7 v8 v9 v10 v11 v12 v13 v14 v15 v16))
def Aqm (K:Nat)(v3:List Int)(v4:Int)(v5:Int)(v6:Int)(v7:Int)(v8:Int)(v9:Int)(v10:Int)(v11:List Int)(v12:List Int)(v13:List Int)(v14:List Ba)(v15:List Ax)(v16:List Int)(C1:Int->Int->(List Int)->Int->Int->Int->Int->Int->Int->Int->(List Int)->(List Int)->(List Int)->(List Ba)->(List Ax)->(List Int)->Option (Bool))(v17:Int)(v18:Int):Option (Bool):=(if(0:Int)≤v4∧v4<(v15.length:Int)then((At6 K v14 ((gt v15 v4).Bt)).bind fun r19=>(if(v3++r19).length*8≤140737488355328∧(v3++r19).length≤maxLen then(Ak9 K v4 v5 v6 v7 v8 v9 v10 v11 v12 v13 v14 v15 v16 v17 v18 (C1) K (v3++r19) 0)else none))else none)
def Ar6 (K:Nat)(v25:Int)(C6:Int->Int->Option (Bool))(v27:Int):Option (Bool):=(C6 v27 (Aoa .i64 v25 1))
def Ala (K:Nat)(v1:Int)(v2:Int)(v3:List Int)(v11:List Int)(v12:List Int)(v13:List Int)(v14:List Ba)(v24:Int):Nat->Int->Option (Bool)
 |0,_=>none
 |n8+1,v28=>(bif (decide (v28<(v3.length:Int)))then(if(0:Int)≤0∧0≤v28∧v28≤(v3.length:Int)then(if(0:Int)≤v28∧v28<(v3.length:Int)then((Apu K ((v3.drop (0:Int).toNat).take (v28 - 0).toNat) (gt v3 v28)).bind fun r29=>(bif r29 then some false else(Ala K v1 v2 v3 v11 v12 v13 v14 v24 n8 (Aoa .i64 v28 1))))else none)else none)else((Avg K (Dw.mk v11 v12 v13) 2).bind fun r30=>(bif (v1==r30)then((Asr K v14 2).bind fun r31=>(bif (v2==r31)then some ((v3.length:Int)==v24)else some false))else some false)))
def Ahy (K:Nat)(v1:Int)(v2:Int)(v3:List Int)(v11:List Int)(v12:List Int)(v13:List Int)(v14:List Ba):Nat->Int->Int->Option (Bool)
 |0,_,_=>none
 |n6+1,v24,v25=>(bif (decide (v25<(v14.length:Int)))then((Ark K v14 v25).bind fun r26=>(bif r26 then(Ar6 K v25 (Ahy K v1 v2 v3 v11 v12 v13 v14 n6) (Aoa .i64 v24 1))else(Ar6 K v25 (Ahy K v1 v2 v3 v11 v12 v13 v14 n6) v24)))else(Ala K v1 v2 v3 v11 v12 v13 v14 v24 K 0))
def Ag0 (K:Nat):Nat->Int->Int->(List Int)->Int->Int->Int->Int->Int->Int->Int->(List Int)->(List Int)->(List Int)->(List Ba)->(List Ax)->(List Int)->Option (Bool)
 |0,_,_,_,_,_,_,_,_,_,_,_,_,_,_,_,_=>none
 |n1+1,v1,v2,v3,v4,v5,v6,v7,v8,v9,v10,v11,v12,v13,v14,v15,v16=>(bif (decide (v4<(v15.length:Int)))then(if(0:Int)≤v4∧v4<(v15.length:Int)then(if(0:Int)≤v4∧v4<(v15.length:Int)then(bif (((gt v15 v4).A5) != 0)then(Aqm K v3 v4 v5 v6 v7 v8 v9 v10 v11 v12 v13 v14 v15 v16 (Ag0 K n1) (Aoa .i64 v1 (((gt v15 v4).Ae).length:Int)) (Aoa .i64 v2 1))else(Aqm K v3 v4 v5 v6 v7 v8 v9 v10 v11 v12 v13 v14 v15 v16 (Ag0 K n1) (Aoa .i64 v1 (((gt v15 v4).Ae).length:Int)) v2))else none)else none)else(Ahy K v1 v2 v3 v11 v12 v13 v14 K 0 0))
def Ato (K:Nat)(a0:Eb):Option (Bool):=(Ag0 K K 0 0 ([]:List Int) 0 a0.fC.Ae a0.fC.Eg a0.fC.C0 a0.fC.E9 a0.fC.C1 a0.fC.Eh a0.fP.Fy a0.fP.Hh a0.fP.Fz a0.fL a0.fQ a0.Pr)
def s_42:Sig:=⟨[.v 32],[.v 4],true⟩
def Bz1 (K:Nat):Gb tyU:=⟨s_42,Ato K⟩
def A65 (K:Nat):=xF s_42 [(202,Bvn K),(218,Be5 K),(221,Bvm K),(222,Bzw K),(223,Bzy K)] [] 148 [60,61,134,135,140,141,142] [] [] [4073,8009,2050532] [.tmp 2]
def Ayo:E5:=⟨[(1,.p 101),(3,.v 2),(4,.v 2),(5,.o 1005 3 true),(6,.v 2),(7,.v 2),(8,.v 2)],[(101,.box [.v 2,.v 2,.v 2,.v 2,.v 2,.v 2,.v 22,.v 26,.v 26,.v 29,.v 30,.v 26])]⟩
def Ay5:E5:=⟨[(1,.p 101),(3,.v 2),(4,.v 2),(5,.o 1005 3 true),(6,.v 2),(7,.v 2)],[(101,.box [.v 2,.v 2,.v 2,.v 2,.v 2,.v 2,.v 22,.v 26,.v 26,.v 29,.v 30,.v 26])]⟩
def Anv:E5:=⟨[(1,.p 101),(3,.v 2),(4,.v 2),(5,.o 1005 3 true),(6,.v 2),(7,.v 2)],[(101,.box [.v 2,.v 2,.v 2,.v 2,.v 2,.v 2,.v 22,.v 26,.v 26,.v 29,.v 30,.v 26])]⟩
def A2c:E5:=⟨[(1,.p 101),(3,.v 2),(4,.v 2),(5,.o 1005 3 true),(6,.v 2)],[(101,.box [.v 2,.v 2,.v 2,.v 2,.v 2,.v 2,.v 22,.v 26,.v 26,.v 29,.v 30,.v 26])]⟩
def A2d:E5:=⟨[(1,.p 101),(3,.v 2),(4,.v 2),(5,.o 1005 3 true),(9,.v 2),(10,.v 2)],[(101,.box [.v 2,.v 2,.v 2,.v 2,.v 2,.v 2,.v 22,.v 26,.v 26,.v 29,.v 30,.v 26])]⟩
def A2e:E5:=⟨[(1,.p 101),(3,.v 2),(4,.v 2),(5,.o 1005 3 true),(9,.v 2),(11,.v 2)],[(101,.box [.v 2,.v 2,.v 2,.v 2,.v 2,.v 2,.v 22,.v 26,.v 26,.v 29,.v 30,.v 26])]⟩
def Au6:E5:=⟨[(1,.p 101),(3,.v 2),(4,.v 2),(5,.o 1005 3 true),(9,.v 2),(10,.v 2)],[(101,.box [.v 2,.v 2,.v 2,.v 2,.v 2,.v 2,.v 22,.v 26,.v 26,.v 29,.v 30,.v 26])]⟩
def Alb:E5:=⟨[(1,.p 101),(3,.v 2),(4,.v 2),(5,.o 1005 3 true),(6,.v 2)],[(101,.box [.v 2,.v 2,.v 2,.v 2,.v 2,.v 2,.v 22,.v 26,.v 26,.v 29,.v 30,.v 26])]⟩
def Ayp (K:Nat)(C250:CT Alb s_42)(C128158:CT Anv s_42)(n:Nat)(q:PT Ayo):Rt s_42:=Ann K q.2.2.2.1 q.2.2.2.2.2.2.2.2.2.2.2.2.2.2.2.2.1 q.2.2.1 q.2.2.2.2.1 (fun v20 v21=>C128158 (q.1,q.2.1,v20,q.2.2.2.1,v21,q.2.2.2.2.2.2.1,q.2.2.2.2.2.2.2.1,q.2.2.2.2.2.2.2.2.1,q.2.2.2.2.2.2.2.2.2.1,q.2.2.2.2.2.2.2.2.2.2.1,q.2.2.2.2.2.2.2.2.2.2.2.1,q.2.2.2.2.2.2.2.2.2.2.2.2.1,q.2.2.2.2.2.2.2.2.2.2.2.2.2.1,q.2.2.2.2.2.2.2.2.2.2.2.2.2.2.1,q.2.2.2.2.2.2.2.2.2.2.2.2.2.2.2.1,q.2.2.2.2.2.2.2.2.2.2.2.2.2.2.2.2.1,q.2.2.2.2.2.2.2.2.2.2.2.2.2.2.2.2.2.1,())) n q.2.2.2.2.2.1
def Ay6 (K:Nat)(C250:CT Alb s_42)(C128158:CT Anv s_42)(q:PT Ay5):Rt s_42:=Aqk K q.2.2.2.1 q.2.2.2.2.2.2.2.2.2.2.2.2.2.2.2.1 q.2.2.1 q.2.2.2.2.1 (fun v20 v21=>C128158 (q.1,q.2.1,v20,q.2.2.2.1,v21,q.2.2.2.2.2.1,q.2.2.2.2.2.2.1,q.2.2.2.2.2.2.2.1,q.2.2.2.2.2.2.2.2.1,q.2.2.2.2.2.2.2.2.2.1,q.2.2.2.2.2.2.2.2.2.2.1,q.2.2.2.2.2.2.2.2.2.2.2.1,q.2.2.2.2.2.2.2.2.2.2.2.2.1,q.2.2.2.2.2.2.2.2.2.2.2.2.2.1,q.2.2.2.2.2.2.2.2.2.2.2.2.2.2.1,q.2.2.2.2.2.2.2.2.2.2.2.2.2.2.2.1,q.2.2.2.2.2.2.2.2.2.2.2.2.2.2.2.2.1,()))
def Aw3 (K:Nat)(C250:CT Alb s_42)(n:Nat)(q:PT Anv):Rt s_42:=Ak9 K q.2.2.2.1 q.2.2.2.2.2.1 q.2.2.2.2.2.2.1 q.2.2.2.2.2.2.2.1 q.2.2.2.2.2.2.2.2.1 q.2.2.2.2.2.2.2.2.2.1 q.2.2.2.2.2.2.2.2.2.2.1 q.2.2.2.2.2.2.2.2.2.2.2.1 q.2.2.2.2.2.2.2.2.2.2.2.2.1 q.2.2.2.2.2.2.2.2.2.2.2.2.2.1 q.2.2.2.2.2.2.2.2.2.2.2.2.2.2.1 q.2.2.2.2.2.2.2.2.2.2.2.2.2.2.2.1 q.2.2.2.2.2.2.2.2.2.2.2.2.2.2.2.2.1 q.1 q.2.1 (fun v1 v2 v3 v4 v5 v6 v7 v8 v9 v10 v11 v12 v13 v14 v15 v16=>C250 (v1,v2,v3,v4,v5,v6,v7,v8,v9,v10,v11,v12,v13,v14,v15,v16,())) n q.2.2.1 q.2.2.2.2.1
def A2f (K:Nat)(C250:CT Alb s_42)(q:PT A2c):Rt s_42:=Aqm K q.2.2.1 q.2.2.2.1 q.2.2.2.2.1 q.2.2.2.2.2.1 q.2.2.2.2.2.2.1 q.2.2.2.2.2.2.2.1 q.2.2.2.2.2.2.2.2.1 q.2.2.2.2.2.2.2.2.2.1 q.2.2.2.2.2.2.2.2.2.2.1 q.2.2.2.2.2.2.2.2.2.2.2.1 q.2.2.2.2.2.2.2.2.2.2.2.2.1 q.2.2.2.2.2.2.2.2.2.2.2.2.2.1 q.2.2.2.2.2.2.2.2.2.2.2.2.2.2.1 q.2.2.2.2.2.2.2.2.2.2.2.2.2.2.2.1 (fun v1 v2 v3 v4 v5 v6 v7 v8 v9 v10 v11 v12 v13 v14 v15 v16=>C250 (v1,v2,v3,v4,v5,v6,v7,v8,v9,v10,v11,v12,v13,v14,v15,v16,())) q.1 q.2.1
def A2g (K:Nat)(C1018:CT Au6 s_42)(q:PT A2d):Rt s_42:=Ar6 K q.2.2.2.2.1 (fun v24 v25=>C1018 (q.1,q.2.1,q.2.2.1,v24,v25,q.2.2.2.2.2.1,q.2.2.2.2.2.2.1,q.2.2.2.2.2.2.2.1,q.2.2.2.2.2.2.2.2.1,q.2.2.2.2.2.2.2.2.2.1,q.2.2.2.2.2.2.2.2.2.2.1,q.2.2.2.2.2.2.2.2.2.2.2.1,q.2.2.2.2.2.2.2.2.2.2.2.2.1,q.2.2.2.2.2.2.2.2.2.2.2.2.2.1,q.2.2.2.2.2.2.2.2.2.2.2.2.2.2.1,q.2.2.2.2.2.2.2.2.2.2.2.2.2.2.2.1,q.2.2.2.2.2.2.2.2.2.2.2.2.2.2.2.2.1,())) q.2.2.2.1
def A2h (K:Nat)(n:Nat)(q:PT A2e):Rt s_42:=Ala K q.1 q.2.1 q.2.2.1 q.2.2.2.2.2.2.2.2.2.2.2.1 q.2.2.2.2.2.2.2.2.2.2.2.2.1 q.2.2.2.2.2.2.2.2.2.2.2.2.2.1 q.2.2.2.2.2.2.2.2.2.2.2.2.2.2.1 q.2.2.2.1 n q.2.2.2.2.1
def Ayw (K:Nat)(n:Nat)(q:PT Au6):Rt s_42:=Ahy K q.1 q.2.1 q.2.2.1 q.2.2.2.2.2.2.2.2.2.2.2.1 q.2.2.2.2.2.2.2.2.2.2.2.2.1 q.2.2.2.2.2.2.2.2.2.2.2.2.2.1 q.2.2.2.2.2.2.2.2.2.2.2.2.2.2.1 n q.2.2.2.1 q.2.2.2.2.1
def Azp (K:Nat)(n:Nat)(q:PT Alb):Rt s_42:=Ag0 K n q.1 q.2.1 q.2.2.1 q.2.2.2.1 q.2.2.2.2.1 q.2.2.2.2.2.1 q.2.2.2.2.2.2.1 q.2.2.2.2.2.2.2.1 q.2.2.2.2.2.2.2.2.1 q.2.2.2.2.2.2.2.2.2.1 q.2.2.2.2.2.2.2.2.2.2.1 q.2.2.2.2.2.2.2.2.2.2.2.1 q.2.2.2.2.2.2.2.2.2.2.2.2.1 q.2.2.2.2.2.2.2.2.2.2.2.2.2.1 q.2.2.2.2.2.2.2.2.2.2.2.2.2.2.1 q.2.2.2.2.2.2.2.2.2.2.2.2.2.2.2.1
theorem A66 (K:Nat)(C250:CT Alb s_42)(C128158:CT Anv s_42):AtL (A65 K) (fun n=>[]) [(128158,ar Anv C128158),(250,ar Alb C250)] (bd Tryz.f148) 16404262 (Ayp K C250 C128158):=fun n q=>by kernel_rfl
theorem A86 (K:Nat)(C250:CT Alb s_42)(C128158:CT Anv s_42):AtJ (A65 K) [(16404262,ar Ayo (Ayp K C250 C128158 K))] [(128158,ar Anv C128158),(250,ar Alb C250)] (bd Tryz.f148) 2050532 (Ay6 K C250 C128158):=fun q=>by kernel_rfl
theorem Ba8 (K:Nat)(C250:CT Alb s_42):AtL (A65 K) (fun n=>[(2050532,ar Ay5 (Ay6 K C250 (Aw3 K C250 n)))]) [(250,ar Alb C250)] (bd Tryz.f148) 128158 (Aw3 K C250):=fun n q=>by kernel_rfl
theorem Be6 (K:Nat)(C250:CT Alb s_42):AtJ (A65 K) [(128158,ar Anv (Aw3 K C250 K))] [(250,ar Alb C250)] (bd Tryz.f148) 8009 (A2f K C250):=fun q=>by kernel_rfl
theorem Be7 (K:Nat)(C1018:CT Au6 s_42):AtJ (A65 K) [] [(1018,ar Au6 C1018)] (bd Tryz.f148) 4073 (A2g K C1018):=fun q=>by kernel_rfl
theorem Be8 (K:Nat):AtL (A65 K) (fun n=>[]) [] (bd Tryz.f148) 2042 (A2h K):=fun n q=>by kernel_rfl
theorem Be9 (K:Nat):AtL (A65 K) (fun n=>[(4073,ar A2d (A2g K (Ayw K n))),(2042,ar A2e (A2h K K))]) [] (bd Tryz.f148) 1018 (Ayw K):=fun n q=>by kernel_rfl
theorem Bhw (K:Nat):AtL (A65 K) (fun n=>[(8009,ar A2c (A2f K (Azp K n))),(1018,ar Au6 (Ayw K K))]) [] (bd Tryz.f148) 250 (Azp K):=fun n q=>by kernel_rfl
theorem A1m (K:Nat):XF [.tmp 2] s_42 148 [4073,8009,2050532] (A65 K):=xkF (gC (Bre K) (gC (Ba7 K) (gC (Brc K) (gC (Bzx K) (gC (Bzz K) gN))))) oN
theorem A67 (K:Nat)(C250:CT Alb s_42)(C128158:CT Anv s_42)(n:Nat):CF [.tmp 2] s_42 148 [4073,8009,2050532] (bd Tryz.f148) [(128158,ar Anv C128158),(250,ar Alb C250)] 16404262 (ar Ayo (Ayp K C250 C128158 n)):=
 Aeh (A1m K) (A66 K C250 C128158) (fun n=>kN) n
theorem A87 (K:Nat)(C250:CT Alb s_42)(C128158:CT Anv s_42):CF [.tmp 2] s_42 148 [4073,8009,2050532] (bd Tryz.f148) [(128158,ar Anv C128158),(250,ar Alb C250)] 2050532 (ar Ay5 (Ay6 K C250 C128158)):=
 Amf (A1m K) (A86 K C250 C128158) (kC (A67 K C250 C128158 K) kN)
theorem Ba9 (K:Nat)(C250:CT Alb s_42)(n:Nat):CF [.tmp 2] s_42 148 [4073,8009,2050532] (bd Tryz.f148) [(250,ar Alb C250)] 128158 (ar Anv (Aw3 K C250 n)):=
 Aeh (A1m K) (Ba8 K C250) (fun n=>(kC (A87 K C250 (Aw3 K C250 n)) kN)) n
theorem Bfa (K:Nat)(C250:CT Alb s_42):CF [.tmp 2] s_42 148 [4073,8009,2050532] (bd Tryz.f148) [(250,ar Alb C250)] 8009 (ar A2c (A2f K C250)):=
 Amf (A1m K) (Be6 K C250) (kC (Ba9 K C250 K) kN)
theorem Bfb (K:Nat)(C1018:CT Au6 s_42):CF [.tmp 2] s_42 148 [4073,8009,2050532] (bd Tryz.f148) [(1018,ar Au6 C1018)] 4073 (ar A2d (A2g K C1018)):=
 Amf (A1m K) (Be7 K C1018) kN
theorem Bfc (K:Nat)(n:Nat):CF [.tmp 2] s_42 148 [4073,8009,2050532] (bd Tryz.f148) [] 2042 (ar A2e (A2h K n)):=
 Aeh (A1m K) (Be8 K) (fun n=>kN) n
theorem Bfd (K:Nat)(n:Nat):CF [.tmp 2] s_42 148 [4073,8009,2050532] (bd Tryz.f148) [] 1018 (ar Au6 (Ayw K n)):=
 Aeh (A1m K) (Be9 K) (fun n=>(kC (Bfb K (Ayw K n)) (kC (Ao2 (by kernel_rfl) (Bfc K K)) kN))) n
theorem Bhx (K:Nat)(n:Nat):CF [.tmp 2] s_42 148 [4073,8009,2050532] (bd Tryz.f148) [] 250 (ar Alb (Azp K n)):=
 Aeh (A1m K) (Bhw K) (fun n=>(kC (Bfa K (Azp K n)) (kC (Ao2 (by kernel_rfl) (Bfd K K)) kN))) n
theorem Bz2 (K:Nat):OkF 148 (Bz1 K):=
 Aa6 (x:=A65 K) (L:=[(250,ar Alb (Azp K K))]) (c0:=bd Tryz.f148) (A1m K) (by intro a0;show @Eq _ _ _;kernel_rfl) (kC (Bhx K K) kN) Tryz.func148 trivial
def Anz (K:Nat)(a0:Er)(v8:List Int):Nat->Int->Option (Bool)
 |0,_=>none
 |n3+1,v12=>(bif (decide (v12<(v8.length:Int)))then(if(0:Int)≤v12∧v12<(v8.length:Int)then((Abk K (gt v8 v12) 0 (Aob .i64 a0.Ae 1)).bind fun r13=>(bif r13 then(if(0:Int)≤0∧0≤v12∧v12≤(v8.length:Int)then(if(0:Int)≤v12∧v12<(v8.length:Int)then((Apu K ((v8.drop (0:Int).toNat).take (v12 - 0).toNat) (gt v8 v12)).bind fun r14=>(bif r14 then some false else(Anz K a0 v8 n3 (Aoa .i64 v12 1))))else none)else none)else some false))else none)else some true)
def Apr (K:Nat)(a0:Er)(v7:List Int)(v8:List Int):Nat->Int->Option (Bool)
 |0,_=>none
 |n2+1,v10=>(bif (decide (v10<(v7.length:Int)))then(if(0:Int)≤v10∧v10<(v7.length:Int)then((Abk K (gt v7 v10) 0 255).bind fun r11=>(bif (!r11)then some false else(Apr K a0 v7 v8 n2 (Aoa .i64 v10 1))))else none)else(Anz K a0 v8 K 0))
def Atp (K:Nat)(a0:Er)(v5:Int)(v6:Int)(v7:List Int)(v8:List Int)(v9:Int):Option (Bool):=(Apr K a0 v7 v8 K 0)
def Avh (K:Nat)(a0:Er)(a1:Ax):Option (Bool):=((Ard K a0).bind fun r1=>(bif r1 then((Abk K a1.A5 0 a0.C0).bind fun r2=>(bif r2 then((Abk K a1.Bt 0 a0.C0).bind fun r3=>(bif r3 then(bif (decide ((a1.Dg.length:Int)>6))then some false else((Abk K a1.Gu 0 (Aob .i64 a0.Eg 1)).bind fun r4=>(bif r4 then(bif ((a1.Ae.length:Int)==0)then(bif (a1.Gu != 0)then some false else(Atp K a0 a1.A5 a1.Bt a1.Dg a1.Ae a1.Gu))else(Atp K a0 a1.A5 a1.Bt a1.Dg a1.Ae a1.Gu))else some false)))else some false))else some false))else some false))
def s_43:Sig:=⟨[.v 25,.v 159],[.v 4],true⟩
def Bz3 (K:Nat):Gb tyU:=⟨s_43,Avh K⟩
def Bhy (K:Nat):=xF s_43 [(84,A64 K),(210,Bhe K),(218,Be5 K)] [] 95 [8,9,10,15,16,17,18,23,24,25,26,30,31,32,38,39,40,41,45,46,81,82,83] [] [] [3] [.tmp 4]
def A35:E5:=⟨[(2,.p 102),(3,.p 103),(6,.v 2)],[(103,.box [.v 2,.v 2,.v 26,.v 26,.v 2]),(102,.st 25 true)]⟩
def A88:E5:=⟨[(2,.p 102),(3,.p 103),(5,.v 2)],[(103,.box [.v 2,.v 2,.v 26,.v 26,.v 2]),(102,.st 25 true)]⟩
def Bcs:E5:=⟨[(2,.p 102),(3,.p 103)],[(103,.box [.v 2,.v 2,.v 26,.v 26,.v 2]),(102,.st 25 true)]⟩
def A36 (K:Nat)(n:Nat)(q:PT A35):Rt s_43:=Anz K q.2.2.2.2.2.2.1 q.2.2.2.2.1 n q.1
def A89 (K:Nat)(n:Nat)(q:PT A88):Rt s_43:=Apr K q.2.2.2.2.2.2.1 q.2.2.2.1 q.2.2.2.2.1 n q.1
def Bct (K:Nat)(q:PT Bcs):Rt s_43:=Atp K q.2.2.2.2.2.1 q.1 q.2.1 q.2.2.1 q.2.2.2.1 q.2.2.2.2.1
theorem Bhz (K:Nat):AtL (Bhy K) (fun n=>[]) [] (bd Tryz.f220) 122 (A36 K):=fun n q=>by kernel_rfl
theorem Bow (K:Nat):AtL (Bhy K) (fun n=>[(122,ar A35 (A36 K K))]) [] (bd Tryz.f220) 58 (A89 K):=fun n q=>by kernel_rfl
theorem Bvp (K:Nat):AtJ (Bhy K) [(58,ar A88 (A89 K K))] [] (bd Tryz.f220) 3 (Bct K):=fun q=>by kernel_rfl
theorem Bed (K:Nat):XF [.tmp 4] s_43 95 [3] (Bhy K):=xkF (gC (A1h K) (gC (Beb K) (gC (Ba7 K) gN))) oN
theorem Bh0 (K:Nat)(n:Nat):CF [.tmp 4] s_43 95 [3] (bd Tryz.f220) [] 122 (ar A35 (A36 K n)):=
 Aeh (Bed K) (Bhz K) (fun n=>kN) n
theorem Box (K:Nat)(n:Nat):CF [.tmp 4] s_43 95 [3] (bd Tryz.f220) [] 58 (ar A88 (A89 K n)):=
 Aeh (Bed K) (Bow K) (fun n=>(kC (Ao2 (by kernel_rfl) (Bh0 K K)) kN)) n
theorem Bvq (K:Nat):CF [.tmp 4] s_43 95 [3] (bd Tryz.f220) [] 3 (ar Bcs (Bct K)):=
 Amf (Bed K) (Bvp K) (kC (Box K K) kN)
theorem Bz4 (K:Nat):OkF 220 (Bz3 K):=
 Aa6 (x:=Bhy K) (L:=[(3,ar Bcs (Bct K))]) (c0:=bd Tryz.f220) (Bed K) (by intro a0 a1;show @Eq _ _ _;kernel_rfl) (kC (Bvq K) kN) Tryz.func220 trivial
def Apz (K:Nat)(v17:List Ba)(r21:(List Int)):Nat->Int->Option (Bool)
 |0,_=>none
 |n4+1,v22=>(bif (decide (v22<(r21.length:Int)))then(if(0:Int)≤v22∧v22<(r21.length:Int)then((Ark K v17 (gt r21 v22)).bind fun r23=>(bif (!r23)then some false else(Apz K v17 r21 n4 (Aoa .i64 v22 1))))else none)else some true)
def Aox (K:Nat)(v4:Int)(v17:List Ba):Option (Bool):=((At6 K v17 v4).bind fun r21=>(Apz K v17 r21 K 0))
def Aq3 (K:Nat)(v3:Int)(v4:Int)(v17:List Ba):Option (Bool):=(bif (v3 != 0)then(if(0:Int)≤(Aob .i64 v3 1)∧(Aob .i64 v3 1)<(v17.length:Int)then(bif (((gt v17 (Aob .i64 v3 1)).Hh) != 2)then some false else(bif (v4 != 0)then(if(0:Int)≤(Aob .i64 v4 1)∧(Aob .i64 v4 1)<(v17.length:Int)then(bif (((gt v17 (Aob .i64 v4 1)).Gs) != 0)then some false else(Aox K v4 v17))else none)else(Aox K v4 v17)))else none)else(bif (v4 != 0)then(if(0:Int)≤(Aob .i64 v4 1)∧(Aob .i64 v4 1)<(v17.length:Int)then(bif (((gt v17 (Aob .i64 v4 1)).Gs) != 0)then some false else(Aox K v4 v17))else none)else(Aox K v4 v17)))
def Aoy (K:Nat):Nat->Int->Int->Int->(List Int)->(List Int)->Int->Int->Int->Int->Int->Int->Int->(List Int)->(List Int)->(List Int)->(List Ba)->(List Ax)->(List Int)->Option (Bool)
 |0,_,_,_,_,_,_,_,_,_,_,_,_,_,_,_,_,_,_=>none
 |n1+1,v2,v3,v4,v5,v6,v7,v8,v9,v10,v11,v12,v13,v14,v15,v16,v17,v18,v19=>(bif (decide (v2<(v6.length:Int)))then(if(0:Int)≤v2∧v2<(v6.length:Int)then(if(0:Int)≤(gt v6 v2)∧(gt v6 v2)<(v15.length:Int)then(bif ((gt v15 (gt v6 v2)) != 2)then some false else(Aoy K n1 (Aoa .i64 v2 1) v3 v4 v5 v6 v7 v8 v9 v10 v11 v12 v13 v14 v15 v16 v17 v18 v19))else none)else none)else(bif (decide ((v6.length:Int)>0))then(if(0:Int)≤0∧0<(v6.length:Int)then(if(0:Int)≤0∧0<(v6.length:Int)then(if(0:Int)≤(Aoc .i64 (gt v6 0) v9)∧(Aoc .i64 (gt v6 0) v9)≤(Aoa .i64 (Aoc .i64 (gt v6 0) v9) v7)∧(Aoa .i64 (Aoc .i64 (gt v6 0) v9) v7)≤(v14.length:Int)then((Asj K ((v14.drop (Aoc .i64 (gt v6 0) v9).toNat).take ((Aoa .i64 (Aoc .i64 (gt v6 0) v9) v7) - (Aoc .i64 (gt v6 0) v9)).toNat)).bind fun r20=>(bif (!r20)then some false else(Aq3 K v3 v4 v17)))else none)else none)else none)else(Aq3 K v3 v4 v17)))
def Aug (K:Nat)(a0:Eb)(a1:Int):Option (Bool):=(if(0:Int)≤a1∧a1<(a0.fQ.length:Int)then((Avh K a0.fC (gt a0.fQ a1)).bind fun r1=>(bif (!r1)then some false else(Aoy K K 0 ((gt a0.fQ a1).A5) ((gt a0.fQ a1).Bt) ((gt a0.fQ a1).Dg) ((gt a0.fQ a1).Ae) ((gt a0.fQ a1).Gu) a0.fC.Ae a0.fC.Eg a0.fC.C0 a0.fC.E9 a0.fC.C1 a0.fC.Eh a0.fP.Fy a0.fP.Hh a0.fP.Fz a0.fL a0.fQ a0.Pr)))else none)
def s_44:Sig:=⟨[.v 32,.v 3],[.v 4],true⟩
def Bz5 (K:Nat):Gb tyU:=⟨s_44,Aug K⟩
def Bfe (K:Nat):=xF s_44 [(202,Bvn K),(212,Bn3 K),(220,Bz3 K),(221,Bvm K)] [] 117 [40,41,70,71,80,81,82,85,86] [] [] [31,63] [.tmp 4]
def A2i:E5:=⟨[(2,.p 102),(7,.v 26),(8,.v 2)],[(102,.box [.v 2,.v 2,.v 2,.v 2,.v 2,.v 2,.v 22,.v 26,.v 26,.v 29,.v 30,.v 26])]⟩
def A9a:E5:=⟨[(2,.p 102),(5,.p 105)],[(105,.box [.v 2,.v 2,.v 26,.v 26,.v 2]),(102,.box [.v 2,.v 2,.v 2,.v 2,.v 2,.v 2,.v 22,.v 26,.v 26,.v 29,.v 30,.v 26])]⟩
def A9b:E5:=⟨[(2,.p 102),(5,.p 105)],[(105,.box [.v 2,.v 2,.v 26,.v 26,.v 2]),(102,.box [.v 2,.v 2,.v 2,.v 2,.v 2,.v 2,.v 22,.v 26,.v 26,.v 29,.v 30,.v 26])]⟩
def A37:E5:=⟨[(2,.p 102),(5,.p 105),(6,.v 2)],[(105,.box [.v 2,.v 2,.v 26,.v 26,.v 2]),(102,.box [.v 2,.v 2,.v 2,.v 2,.v 2,.v 2,.v 22,.v 26,.v 26,.v 29,.v 30,.v 26])]⟩
def A2j (K:Nat)(n:Nat)(q:PT A2i):Rt s_44:=Apz K q.2.2.2.2.2.2.2.2.2.2.2.1 q.1 n q.2.1
def A9c (K:Nat)(q:PT A9a):Rt s_44:=Aox K q.2.1 q.2.2.2.2.2.2.2.2.2.2.2.2.2.2.1
def A9d (K:Nat)(q:PT A9b):Rt s_44:=Aq3 K q.1 q.2.1 q.2.2.2.2.2.2.2.2.2.2.2.2.2.2.1
def A38 (K:Nat)(n:Nat)(q:PT A37):Rt s_44:=Aoy K n q.1 q.2.1 q.2.2.1 q.2.2.2.1 q.2.2.2.2.1 q.2.2.2.2.2.1 q.2.2.2.2.2.2.1 q.2.2.2.2.2.2.2.1 q.2.2.2.2.2.2.2.2.1 q.2.2.2.2.2.2.2.2.2.1 q.2.2.2.2.2.2.2.2.2.2.1 q.2.2.2.2.2.2.2.2.2.2.2.1 q.2.2.2.2.2.2.2.2.2.2.2.2.1 q.2.2.2.2.2.2.2.2.2.2.2.2.2.1 q.2.2.2.2.2.2.2.2.2.2.2.2.2.2.1 q.2.2.2.2.2.2.2.2.2.2.2.2.2.2.2.1 q.2.2.2.2.2.2.2.2.2.2.2.2.2.2.2.2.1 q.2.2.2.2.2.2.2.2.2.2.2.2.2.2.2.2.2.1
theorem Bff (K:Nat):AtL (Bfe K) (fun n=>[]) [] (bd Tryz.f147) 2042 (A2j K):=fun n q=>by kernel_rfl
theorem Boy (K:Nat):AtJ (Bfe K) [(2042,ar A2i (A2j K K))] [] (bd Tryz.f147) 63 (A9c K):=fun q=>by kernel_rfl
theorem Boz (K:Nat):AtJ (Bfe K) [(63,ar A9a (A9c K))] [] (bd Tryz.f147) 31 (A9d K):=fun q=>by kernel_rfl
theorem Bh1 (K:Nat):AtL (Bfe K) (fun n=>[(31,ar A9b (A9d K))]) [] (bd Tryz.f147) 122 (A38 K):=fun n q=>by kernel_rfl
theorem Bba (K:Nat):XF [.tmp 4] s_44 117 [31,63] (Bfe K):=xkF (gC (Bre K) (gC (Bhf K) (gC (Bz4 K) (gC (Brc K) gN)))) oN
theorem Bfg (K:Nat)(n:Nat):CF [.tmp 4] s_44 117 [31,63] (bd Tryz.f147) [] 2042 (ar A2i (A2j K n)):=
 Aeh (Bba K) (Bff K) (fun n=>kN) n
theorem Bo0 (K:Nat):CF [.tmp 4] s_44 117 [31,63] (bd Tryz.f147) [] 63 (ar A9a (A9c K)):=
 Amf (Bba K) (Boy K) (kC (Bfg K K) kN)
theorem Bo1 (K:Nat):CF [.tmp 4] s_44 117 [31,63] (bd Tryz.f147) [] 31 (ar A9b (A9d K)):=
 Amf (Bba K) (Boz K) (kC (Bo0 K) kN)
theorem Bh2 (K:Nat)(n:Nat):CF [.tmp 4] s_44 117 [31,63] (bd Tryz.f147) [] 122 (ar A37 (A38 K n)):=
 Aeh (Bba K) (Bh1 K) (fun n=>(kC (Ao2 (by kernel_rfl) (Bo1 K)) kN)) n
theorem Bz6 (K:Nat):OkF 147 (Bz5 K):=
 Aa6 (x:=Bfe K) (L:=[(122,ar A37 (A38 K K))]) (c0:=bd Tryz.f147) (Bba K) (by intro a0 a1;show @Eq _ _ _;kernel_rfl) (kC (Bh2 K K) kN) Tryz.func147 trivial
def Aye (K:Nat)(a0:Ba):Option (Bool):=(bif (a0.Ly==0)then(bif (a0.fUp==0)then(bif (a0.Gq==0)then(bif (a0.Bt==0)then(bif (a0.Gr==0)then(bif (a0.Gs==0)then(bif ((a0.Ae.length:Int)==0)then(bif (a0.Pq==0)then(bif (a0.Gt==0)then(bif ((a0.Ea.length:Int)==0)then some ((a0.Dg.length:Int)==0)else some false)else some false)else some false)else some false)else some false)else some false)else some false)else some false)else some false)else some false)
def Bz7:Sig:=⟨[.v 44],[.v 4],true⟩
def Bz8 (K:Nat):Gb tyU:=⟨Bz7,Aye K⟩
def B5p (K:Nat):=xF Bz7 [] [] 59 [5,6,9,10,11,14,15,16,19,20,21,24,25,26,29,30,31,35,36,37,40,41,42,45,46,47,51,52,53] [] [] [] [.tmp 2]
theorem Bz9 (K:Nat):OkF 214 (Bz8 K):=
 Aa6 (x:=B5p K) (L:=[]) (c0:=bd Tryz.f214) (xkF gN oN) (by intro a0;show @Eq _ _ _;kernel_rfl) kN Tryz.func214 trivial
def Ao0 (K:Nat)(a0:Er):Nat->Int->Int->Int->Int->Int->Int->Int->Int->Int->(List Int)->Int->Int->(List A9)->(List Int)->Option (Bool)
 |0,_,_,_,_,_,_,_,_,_,_,_,_,_,_=>none
 |n1+1,v1,v2,v3,v4,v5,v6,v7,v8,v9,v10,v11,v12,v13,v14=>(bif (decide (v1<(v10.length:Int)))then(if(0:Int)≤v1∧v1<(v10.length:Int)then((Abk K (gt v10 v1) 0 (Aob .i64 a0.Ae 1)).bind fun r15=>(bif r15 then(if(0:Int)≤0∧0≤v1∧v1≤(v10.length:Int)then(if(0:Int)≤v1∧v1<(v10.length:Int)then((Apu K ((v10.drop (0:Int).toNat).take (v1 - 0).toNat) (gt v10 v1)).bind fun r16=>(bif r16 then some false else(Ao0 K a0 n1 (Aoa .i64 v1 1) v2 v3 v4 v5 v6 v7 v8 v9 v10 v11 v12 v13 v14)))else none)else none)else some false))else none)else(bif (v11==0)then some (v12==0)else((Apu K v10 (Aob .i64 v11 1)).bind fun r17=>(bif r17 then((Abk K v12 0 a0.Eg).bind fun r18=>some r18)else some false))))
def Auh (K:Nat)(a0:Er)(a1:Ba):Option (Bool):=(Ao0 K a0 K 0 a1.Hh a1.C2 a1.Ly a1.fUp a1.Gq a1.Bt a1.Gr a1.Gs a1.Ae a1.Pq a1.Gt a1.Ea a1.Dg)
def s_46:Sig:=⟨[.v 25,.v 44],[.v 4],true⟩
def B0a (K:Nat):Gb tyU:=⟨s_46,Auh K⟩
def Bvr (K:Nat):=xF s_46 [(84,A64 K),(218,Be5 K)] [] 54 [21,22,23,46,47] [] [] [] [.tmp 4]
def A9e:E5:=⟨[(2,.p 102),(3,.p 103),(5,.v 2)],[(103,.box [.v 2,.v 2,.v 2,.v 2,.v 2,.v 2,.v 2,.v 2,.v 26,.v 2,.v 2,.v 41,.v 26]),(102,.st 25 true)]⟩
def A9f (K:Nat)(n:Nat)(q:PT A9e):Rt s_46:=Ao0 K q.2.2.2.2.2.2.2.2.2.2.2.2.2.2.1 n q.1 q.2.1 q.2.2.1 q.2.2.2.1 q.2.2.2.2.1 q.2.2.2.2.2.1 q.2.2.2.2.2.2.1 q.2.2.2.2.2.2.2.1 q.2.2.2.2.2.2.2.2.1 q.2.2.2.2.2.2.2.2.2.1 q.2.2.2.2.2.2.2.2.2.2.1 q.2.2.2.2.2.2.2.2.2.2.2.1 q.2.2.2.2.2.2.2.2.2.2.2.2.1 q.2.2.2.2.2.2.2.2.2.2.2.2.2.1
theorem Bo2 (K:Nat):AtL (Bvr K) (fun n=>[]) [] (bd Tryz.f215) 26 (A9f K):=fun n q=>by kernel_rfl
theorem Brf (K:Nat):XF [.tmp 4] s_46 54 [] (Bvr K):=xkF (gC (A1h K) (gC (Ba7 K) gN)) oN
theorem Bo3 (K:Nat)(n:Nat):CF [.tmp 4] s_46 54 [] (bd Tryz.f215) [] 26 (ar A9e (A9f K n)):=
 Aeh (Brf K) (Bo2 K) (fun n=>kN) n
theorem B0b (K:Nat):OkF 215 (B0a K):=
 Aa6 (x:=Bvr K) (L:=[(26,ar A9e (A9f K K))]) (c0:=bd Tryz.f215) (Brf K) (by intro a0 a1;show @Eq _ _ _;kernel_rfl) (kC (Bo3 K K) kN) Tryz.func215 trivial
def Avi (K:Nat)(a0:Er)(a1:Int):Option (Bool):=some (decide (a1>a0.Eg))
def B0c:Sig:=⟨[.v 25,.v 3],[.v 4],true⟩
def B0d (K:Nat):Gb tyU:=⟨B0c,Avi K⟩
def B5q (K:Nat):=xF B0c [] [] 9 [] [] [] [] [.tmp 4]
theorem B0e (K:Nat):OkF 265 (B0d K):=
 Aa6 (x:=B5q K) (L:=[]) (c0:=bd Tryz.f265) (xkF gN oN) (by intro a0 a1;show @Eq _ _ _;kernel_rfl) kN Tryz.func265 trivial
def Avj (K:Nat)(a0:Int)(a1:Int):Option (Int):=((Abk K a0 0 1000000000).bind fun r1=>(bif r1 then((Abk K a1 1 1000000000).bind fun r2=>(bif (!r2)then some 0 else(if a1≠(0:Int)then some (Alr .i64 (Aob .i64 (Aoa .i64 a0 a1) 1) a1)else none)))else some 0))
def B0f:Sig:=⟨[.v 3,.v 3],[.v 3],true⟩
def B0g (K:Nat):Gb tyU:=⟨B0f,Avj K⟩
def B5r (K:Nat):=xF B0f [(84,A64 K)] [] 19 [6,7,8] [] [] [] [.tmp 4]
theorem B0h (K:Nat):OkF 296 (B0g K):=
 Aa6 (x:=B5r K) (L:=[]) (c0:=bd Tryz.f296) (xkF (gC (A1h K) gN) oN) (by intro a0 a1;show @Eq _ _ _;kernel_rfl) kN Tryz.func296 trivial
def Atq (K:Nat)(a0:Er)(a1:Int):Option (Int):=((Avj K a1 a0.Eg).bind fun r1=>some r1)
def B0i:Sig:=⟨[.v 25,.v 3],[.v 3],true⟩
def B0j (K:Nat):Gb tyU:=⟨B0i,Atq K⟩
def B5s (K:Nat):=xF B0i [(296,B0g K)] [] 9 [] [] [] [] [.tmp 4]
theorem B0k (K:Nat):OkF 266 (B0j K):=
 Aa6 (x:=B5s K) (L:=[]) (c0:=bd Tryz.f266) (xkF (gC (B0h K) gN) oN) (by intro a0 a1;show @Eq _ _ _;kernel_rfl) kN Tryz.func266 trivial
def Arl (K:Nat)(a0:Er)(a1:A9):Option (Bool):=((As3 K a0).bind fun r1=>(bif (r1==0)then some false else(bif (decide (a1.Vu<1))then some false else(bif (decide (a1.fAt<0))then some false else(bif (decide (a1.fAt>r1))then some false else(bif (decide (a1.Vu>(Aob .i64 r1 a1.fAt)))then some false else(bif (a1.Vv==0)then(bif (decide (a1.Vu≤a0.Eg))then(if a0.Eg≠(0:Int)then(if a0.Eg≠(0:Int)then some ((Alr .i64 a1.fAt a0.Eg)==(Alr .i64 (Aob .i64 (Aoa .i64 a1.fAt a1.Vu) 1) a0.Eg))else none)else none)else some false)else((Avi K a0 a1.Vu).bind fun r2=>(bif r2 then((Atq K a0 a1.Vu).bind fun r3=>(bif (a1.Vv==r3)then(if a0.Eg≠(0:Int)then some ((Int.tmod a1.fAt a0.Eg)==0)else none)else some false))else some false)))))))))
def B0l:Sig:=⟨[.v 25,.v 89],[.v 4],true⟩
def Bvs (K:Nat):Gb tyU:=⟨B0l,Arl K⟩
def B5t (K:Nat):=xF B0l [(211,Bvg K),(265,B0d K),(266,B0j K)] [] 81 [9,10,13,14,15,18,19,20,24,25,26,42,43,63,64,71,72,73] [] [] [] [.tmp 4]
theorem Brg (K:Nat):OkF 216 (Bvs K):=
 Aa6 (x:=B5t K) (L:=[]) (c0:=bd Tryz.f216) (xkF (gC (Bq8 K) (gC (B0e K) (gC (B0k K) gN))) oN) (by intro a0 a1;show @Eq _ _ _;kernel_rfl) kN Tryz.func216 trivial
def Ap0 (K:Nat)(v23:List Int):Nat->Int->Option (Bool)
 |0,_=>none
 |n2+1,v25=>(bif (decide (v25<(v23.length:Int)))then(if(0:Int)≤v25∧v25<(v23.length:Int)then((Abk K (gt v23 v25) 0 255).bind fun r26=>(bif (!r26)then some false else(Ap0 K v23 n2 (Aoa .i64 v25 1))))else none)else some true)
def Api (K:Nat)(a0:Er):Nat->Int->Int->Int->Int->Int->Int->Int->Int->Int->(List Int)->Int->Int->(List A9)->(List Int)->Option (Bool)
 |0,_,_,_,_,_,_,_,_,_,_,_,_,_,_=>none
 |n1+1,v10,v11,v12,v13,v14,v15,v16,v17,v18,v19,v20,v21,v22,v23=>(bif (decide (v10<(v22.length:Int)))then(if(0:Int)≤v10∧v10<(v22.length:Int)then((Arl K a0 (gt v22 v10)).bind fun r24=>(bif (!r24)then some false else(Api K a0 n1 (Aoa .i64 v10 1) v11 v12 v13 v14 v15 v16 v17 v18 v19 v20 v21 v22 v23)))else none)else(Ap0 K v23 K 0))
def Awp (K:Nat)(a0:Er)(a1:Ba):Option (Bool):=((Ard K a0).bind fun r1=>(bif r1 then((Abk K a1.Hh 0 3).bind fun r2=>(bif r2 then((Abk K a1.C2 1 a0.Eh).bind fun r3=>(bif (!r3)then some false else(bif (a1.Hh != 1)then((Aye K a1).bind fun r4=>some r4)else(bif (decide (a1.Ly<0))then some false else(bif (decide (a1.Gq<0))then some false else((Abk K a1.fUp 0 a0.C0).bind fun r5=>(bif r5 then((Abk K a1.Bt 0 a0.C0).bind fun r6=>(bif r6 then((Abk K a1.Gr 0 a0.C0).bind fun r7=>(bif r7 then((Abk K a1.Gs 0 a0.C0).bind fun r8=>(bif r8 then((Auh K a0 a1).bind fun r9=>(bif r9 then(bif (decide ((a1.Ea.length:Int)>12))then some false else(bif (decide ((a1.Dg.length:Int)>6))then some false else(Api K a0 K 0 a1.Hh a1.C2 a1.Ly a1.fUp a1.Gq a1.Bt a1.Gr a1.Gs a1.Ae a1.Pq a1.Gt a1.Ea a1.Dg)))else some false))else some false))else some false))else some false))else some false)))))))else some false))else some false))
def s_51:Sig:=⟨[.v 25,.v 44],[.v 4],true⟩
def B0m (K:Nat):Gb tyU:=⟨s_51,Awp K⟩
def Bo4 (K:Nat):=xF s_51 [(84,A64 K),(210,Bhe K),(214,Bz8 K),(215,B0a K),(216,Bvs K)] [] 116 [8,9,10,13,14,15,16,31,32,35,36,37,42,43,44,45,50,51,52,53,58,59,60,61,66,67,68,69,72,73,74,75,79,80,81] [] [] [] [.tmp 4]
def A39:E5:=⟨[(3,.p 103),(6,.v 2)],[(103,.box [.v 2,.v 2,.v 2,.v 2,.v 2,.v 2,.v 2,.v 2,.v 26,.v 2,.v 2,.v 41,.v 26])]⟩
def A4a:E5:=⟨[(2,.p 102),(3,.p 103),(5,.v 2)],[(103,.box [.v 2,.v 2,.v 2,.v 2,.v 2,.v 2,.v 2,.v 2,.v 26,.v 2,.v 2,.v 41,.v 26]),(102,.st 25 true)]⟩
def A4b (K:Nat)(n:Nat)(q:PT A39):Rt s_51:=Ap0 K q.2.2.2.2.2.2.2.2.2.2.2.2.2.1 n q.1
def A4c (K:Nat)(n:Nat)(q:PT A4a):Rt s_51:=Api K q.2.2.2.2.2.2.2.2.2.2.2.2.2.2.1 n q.1 q.2.1 q.2.2.1 q.2.2.2.1 q.2.2.2.2.1 q.2.2.2.2.2.1 q.2.2.2.2.2.2.1 q.2.2.2.2.2.2.2.1 q.2.2.2.2.2.2.2.2.1 q.2.2.2.2.2.2.2.2.2.1 q.2.2.2.2.2.2.2.2.2.2.1 q.2.2.2.2.2.2.2.2.2.2.2.1 q.2.2.2.2.2.2.2.2.2.2.2.2.1 q.2.2.2.2.2.2.2.2.2.2.2.2.2.1
theorem Bh3 (K:Nat):AtL (Bo4 K) (fun n=>[]) [] (bd Tryz.f142) 506 (A4b K):=fun n q=>by kernel_rfl
theorem Bh4 (K:Nat):AtL (Bo4 K) (fun n=>[(506,ar A39 (A4b K K))]) [] (bd Tryz.f142) 250 (A4c K):=fun n q=>by kernel_rfl
theorem Bh5 (K:Nat):XF [.tmp 4] s_51 116 [] (Bo4 K):=xkF (gC (A1h K) (gC (Beb K) (gC (Bz9 K) (gC (B0b K) (gC (Brg K) gN))))) oN
theorem Bh6 (K:Nat)(n:Nat):CF [.tmp 4] s_51 116 [] (bd Tryz.f142) [] 506 (ar A39 (A4b K n)):=
 Aeh (Bh5 K) (Bh3 K) (fun n=>kN) n
theorem Bh7 (K:Nat)(n:Nat):CF [.tmp 4] s_51 116 [] (bd Tryz.f142) [] 250 (ar A4a (A4c K n)):=
 Aeh (Bh5 K) (Bh4 K) (fun n=>(kC (Ao2 (by kernel_rfl) (Bh6 K K)) kN)) n
theorem B0n (K:Nat):OkF 142 (B0m K):=
 Aa6 (x:=Bo4 K) (L:=[(250,ar A4a (A4c K K))]) (c0:=bd Tryz.f142) (Bh5 K) (by intro a0 a1;show @Eq _ _ _;kernel_rfl) (kC (Bh7 K K) kN) Tryz.func142 trivial
def Arm (K:Nat)(v2:Int)(v3:List Int)(v4:List Int)(v5:List Int)(C1:(List Int)->Int->(List Int)->(List Int)->(List Int)->Option ((List Int)))(v6:List Int):Option ((List Int)):=(C1 v6 (Aoa .i64 v2 1) v3 v4 v5)
def Ali (K:Nat)(a1:Int):Nat->(List Int)->Int->(List Int)->(List Int)->(List Int)->Option ((List Int))
 |0,_,_,_,_,_=>none
 |n1+1,v1,v2,v3,v4,v5=>(bif (decide (v2<(v4.length:Int)))then(bif (decide (v2<(v5.length:Int)))then(if(0:Int)≤v2∧v2<(v4.length:Int)then(bif ((gt v4 v2)==1)then(if(0:Int)≤v2∧v2<(v5.length:Int)then(bif ((gt v5 v2)==a1)then(if(v1++([v2]:List Int)).length*8≤140737488355328∧(v1++([v2]:List Int)).length≤maxLen then(Arm K v2 v3 v4 v5 (Ali K a1 n1) (v1++([v2]:List Int)))else none)else(Arm K v2 v3 v4 v5 (Ali K a1 n1) v1))else none)else(Arm K v2 v3 v4 v5 (Ali K a1 n1) v1))else none)else some v1)else some v1)
def Avk (K:Nat)(a0:Dw)(a1:Int):Option ((List Int)):=(Ali K a1 K ([]:List Int) 0 a0.Fy a0.Hh a0.Fz)
def s_52:Sig:=⟨[.v 28,.v 3],[.n 26 true],true⟩
def B0o (K:Nat):Gb tyU:=⟨s_52,Avk K⟩
def Bo5 (K:Nat):=xF s_52 [] [] 42 [12,13,27,28] [] [] [233] [.tmp 4]
def A4d:E5:=⟨[(1,.v 2),(2,.p 102),(5,.o 1005 3 true),(6,.v 2)],[(102,.box [.v 22,.v 26,.v 26])]⟩
def Ayf:E5:=⟨[(1,.v 2),(2,.p 102),(5,.o 1005 3 true),(6,.v 2)],[(102,.box [.v 22,.v 26,.v 26])]⟩
def A4e (K:Nat)(C58:CT Ayf s_52)(q:PT A4d):Rt s_52:=Arm K q.2.2.1 q.2.2.2.1 q.2.2.2.2.1 q.2.2.2.2.2.1 (fun v1 v2 v3 v4 v5=>C58 (q.1,v1,v2,v3,v4,v5,())) q.2.1
def A1n (K:Nat)(n:Nat)(q:PT Ayf):Rt s_52:=Ali K q.1 n q.2.1 q.2.2.1 q.2.2.2.1 q.2.2.2.2.1 q.2.2.2.2.2.1
theorem Bh8 (K:Nat)(C58:CT Ayf s_52):AtJ (Bo5 K) [] [(58,ar Ayf C58)] (bd Tryz.f217) 233 (A4e K C58):=fun q=>by kernel_rfl
theorem Bo6 (K:Nat):AtL (Bo5 K) (fun n=>[(233,ar A4d (A4e K (A1n K n)))]) [] (bd Tryz.f217) 58 (A1n K):=fun n q=>by kernel_rfl
theorem Bh9 (K:Nat):XF [.tmp 4] s_52 42 [233] (Bo5 K):=xkF gN oN
theorem Bia (K:Nat)(C58:CT Ayf s_52):CF [.tmp 4] s_52 42 [233] (bd Tryz.f217) [(58,ar Ayf C58)] 233 (ar A4d (A4e K C58)):=
 Amf (Bh9 K) (Bh8 K C58) kN
theorem Bo7 (K:Nat)(n:Nat):CF [.tmp 4] s_52 42 [233] (bd Tryz.f217) [] 58 (ar Ayf (A1n K n)):=
 Aeh (Bh9 K) (Bo6 K) (fun n=>(kC (Bia K (A1n K n)) kN)) n
theorem B0p (K:Nat):OkF 217 (B0o K):=
 Aa6 (x:=Bo5 K) (L:=[(58,ar Ayf (A1n K K))]) (c0:=bd Tryz.f217) (Bh9 K) (by intro a0 a1;show @Eq _ _ _;kernel_rfl) (kC (Bo7 K K) kN) Tryz.func217 trivial
def Ano (K:Nat)(a1:Int)(r1:(List Int)):Nat->Int->Int->Int->Int->Int->Int->Int->(List Int)->(List Int)->(List Int)->(List Ba)->(List Ax)->(List Int)->Option (Bool)
 |0,_,_,_,_,_,_,_,_,_,_,_,_,_=>none
 |n1+1,v2,v3,v4,v5,v6,v7,v8,v9,v10,v11,v12,v13,v14=>(bif (decide (v2<(r1.length:Int)))then(if(0:Int)≤a1∧a1<(v12.length:Int)then(if(0:Int)≤v2∧v2<(r1.length:Int)then((Apu K ((gt v12 a1).Ae) (gt r1 v2)).bind fun r15=>(bif (!r15)then some false else(Ano K a1 r1 n1 (Aoa .i64 v2 1) v3 v4 v5 v6 v7 v8 v9 v10 v11 v12 v13 v14)))else none)else none)else(if(0:Int)≤a1∧a1<(v12.length:Int)then some ((r1.length:Int)==(((gt v12 a1).Ae).length:Int))else none))
def Atr (K:Nat)(a0:Eb)(a1:Int):Option (Bool):=((Avk K a0.fP a1).bind fun r1=>(Ano K a1 r1 K 0 a0.fC.Ae a0.fC.Eg a0.fC.C0 a0.fC.E9 a0.fC.C1 a0.fC.Eh a0.fP.Fy a0.fP.Hh a0.fP.Fz a0.fL a0.fQ a0.Pr))
def s_53:Sig:=⟨[.v 32,.v 3],[.v 4],true⟩
def B0q (K:Nat):Gb tyU:=⟨s_53,Atr K⟩
def Bvt (K:Nat):=xF s_53 [(217,B0o K),(218,Be5 K)] [] 39 [] [] [] [] [.tmp 4]
def A9g:E5:=⟨[(1,.v 2),(2,.p 102),(5,.v 26),(6,.v 2)],[(102,.box [.v 2,.v 2,.v 2,.v 2,.v 2,.v 2,.v 22,.v 26,.v 26,.v 29,.v 30,.v 26])]⟩
def A9h (K:Nat)(n:Nat)(q:PT A9g):Rt s_53:=Ano K q.1 q.2.1 n q.2.2.1 q.2.2.2.1 q.2.2.2.2.1 q.2.2.2.2.2.1 q.2.2.2.2.2.2.1 q.2.2.2.2.2.2.2.1 q.2.2.2.2.2.2.2.2.1 q.2.2.2.2.2.2.2.2.2.1 q.2.2.2.2.2.2.2.2.2.2.1 q.2.2.2.2.2.2.2.2.2.2.2.1 q.2.2.2.2.2.2.2.2.2.2.2.2.1 q.2.2.2.2.2.2.2.2.2.2.2.2.2.1 q.2.2.2.2.2.2.2.2.2.2.2.2.2.2.1
theorem Bo8 (K:Nat):AtL (Bvt K) (fun n=>[]) [] (bd Tryz.f143) 58 (A9h K):=fun n q=>by kernel_rfl
theorem Brh (K:Nat):XF [.tmp 4] s_53 39 [] (Bvt K):=xkF (gC (B0p K) (gC (Ba7 K) gN)) oN
theorem Bo9 (K:Nat)(n:Nat):CF [.tmp 4] s_53 39 [] (bd Tryz.f143) [] 58 (ar A9g (A9h K n)):=
 Aeh (Brh K) (Bo8 K) (fun n=>kN) n
theorem B0r (K:Nat):OkF 143 (B0q K):=
 Aa6 (x:=Bvt K) (L:=[(58,ar A9g (A9h K K))]) (c0:=bd Tryz.f143) (Brh K) (by intro a0 a1;show @Eq _ _ _;kernel_rfl) (kC (Bo9 K K) kN) Tryz.func143 trivial
def Ao3 (K:Nat)(a0:Er)(v1:Int)(v2:Int)(v3:Int)(v4:Int)(v5:Int)(v6:Int)(v7:Int)(v8:Int)(v9:Int)(v10:List Int)(v11:Int)(v12:Int)(v13:List A9)(v14:List Int)(C1:Int->Int->Int->Int->Int->Int->Int->Int->Int->(List Int)->Int->Int->(List A9)->(List Int)->Option (Bool)):Nat->Int->A9->Option (Bool)
 |0,_,_=>none
 |n2+1,v16,v17=>(if a0.Eg≠(0:Int)then(bif (decide (v16≤(Alr .i64 (Aob .i64 (Aoa .i64 v17.fAt v17.Vu) 1) a0.Eg)))then((Apu K v10 v16).bind fun r18=>(bif (!r18)then some false else(Ao3 K a0 v1 v2 v3 v4 v5 v6 v7 v8 v9 v10 v11 v12 v13 v14 C1 n2 (Aoa .i64 v16 1) v17)))else(C1 (Aoa .i64 v1 1) v2 v3 v4 v5 v6 v7 v8 v9 v10 v11 v12 v13 v14))else none)
def Ak4 (K:Nat)(a0:Er):Nat->Int->Int->Int->Int->Int->Int->Int->Int->Int->(List Int)->Int->Int->(List A9)->(List Int)->Option (Bool)
 |0,_,_,_,_,_,_,_,_,_,_,_,_,_,_=>none
 |n1+1,v1,v2,v3,v4,v5,v6,v7,v8,v9,v10,v11,v12,v13,v14=>(bif (decide (v1<(v13.length:Int)))then(if(0:Int)≤v1∧v1<(v13.length:Int)then((Arl K a0 (gt v13 v1)).bind fun r15=>(bif (!r15)then some false else(if a0.Eg≠(0:Int)then(Ao3 K a0 v1 v2 v3 v4 v5 v6 v7 v8 v9 v10 v11 v12 v13 v14 (Ak4 K a0 n1) K (Alr .i64 ((gt v13 v1).fAt) a0.Eg) (gt v13 v1))else none)))else none)else some true)
def Aui (K:Nat)(a0:Er)(a1:Ba):Option (Bool):=(Ak4 K a0 K 0 a1.Hh a1.C2 a1.Ly a1.fUp a1.Gq a1.Bt a1.Gr a1.Gs a1.Ae a1.Pq a1.Gt a1.Ea a1.Dg)
def s_54:Sig:=⟨[.v 25,.v 44],[.v 4],true⟩
def B0s (K:Nat):Gb tyU:=⟨s_54,Aui K⟩
def Bpa (K:Nat):=xF s_54 [(216,Bvs K),(218,Be5 K)] [] 47 [] [] [] [] [.tmp 4]
def A2k:E5:=⟨[(2,.p 102),(3,.p 103),(5,.v 2),(6,.p 106),(7,.v 2)],[(106,.st 89 true),(103,.box [.v 2,.v 2,.v 2,.v 2,.v 2,.v 2,.v 2,.v 2,.v 26,.v 2,.v 2,.v 41,.v 26]),(102,.st 25 true)]⟩
def Ayg:E5:=⟨[(2,.p 102),(3,.p 103),(5,.v 2)],[(103,.box [.v 2,.v 2,.v 2,.v 2,.v 2,.v 2,.v 2,.v 2,.v 26,.v 2,.v 2,.v 41,.v 26]),(102,.st 25 true)]⟩
def A2l (K:Nat)(C26:CT Ayg s_54)(n:Nat)(q:PT A2k):Rt s_54:=Ao3 K q.2.2.2.2.2.2.2.2.2.2.2.2.2.2.2.2.1 q.1 q.2.2.2.1 q.2.2.2.2.1 q.2.2.2.2.2.1 q.2.2.2.2.2.2.1 q.2.2.2.2.2.2.2.1 q.2.2.2.2.2.2.2.2.1 q.2.2.2.2.2.2.2.2.2.1 q.2.2.2.2.2.2.2.2.2.2.1 q.2.2.2.2.2.2.2.2.2.2.2.1 q.2.2.2.2.2.2.2.2.2.2.2.2.1 q.2.2.2.2.2.2.2.2.2.2.2.2.2.1 q.2.2.2.2.2.2.2.2.2.2.2.2.2.2.1 q.2.2.2.2.2.2.2.2.2.2.2.2.2.2.2.1 (fun v1 v2 v3 v4 v5 v6 v7 v8 v9 v10 v11 v12 v13 v14=>C26 (v1,v2,v3,v4,v5,v6,v7,v8,v9,v10,v11,v12,v13,v14,q.2.2.2.2.2.2.2.2.2.2.2.2.2.2.2.2.1,())) n q.2.1 q.2.2.1
def A1o (K:Nat)(n:Nat)(q:PT Ayg):Rt s_54:=Ak4 K q.2.2.2.2.2.2.2.2.2.2.2.2.2.2.1 n q.1 q.2.1 q.2.2.1 q.2.2.2.1 q.2.2.2.2.1 q.2.2.2.2.2.1 q.2.2.2.2.2.2.1 q.2.2.2.2.2.2.2.1 q.2.2.2.2.2.2.2.2.1 q.2.2.2.2.2.2.2.2.2.1 q.2.2.2.2.2.2.2.2.2.2.1 q.2.2.2.2.2.2.2.2.2.2.2.1 q.2.2.2.2.2.2.2.2.2.2.2.2.1 q.2.2.2.2.2.2.2.2.2.2.2.2.2.1
theorem Bfh (K:Nat)(C26:CT Ayg s_54):AtL (Bpa K) (fun n=>[]) [(26,ar Ayg C26)] (bd Tryz.f144) 6734 (A2l K C26):=fun n q=>by kernel_rfl
theorem Bpb (K:Nat):AtL (Bpa K) (fun n=>[(6734,ar A2k (A2l K (A1o K n) K))]) [] (bd Tryz.f144) 26 (A1o K):=fun n q=>by kernel_rfl
theorem Bib (K:Nat):XF [.tmp 4] s_54 47 [] (Bpa K):=xkF (gC (Brg K) (gC (Ba7 K) gN)) oN
theorem Bfi (K:Nat)(C26:CT Ayg s_54)(n:Nat):CF [.tmp 4] s_54 47 [] (bd Tryz.f144) [(26,ar Ayg C26)] 6734 (ar A2k (A2l K C26 n)):=
 Aeh (Bib K) (Bfh K C26) (fun n=>kN) n
theorem Bpc (K:Nat)(n:Nat):CF [.tmp 4] s_54 47 [] (bd Tryz.f144) [] 26 (ar Ayg (A1o K n)):=
 Aeh (Bib K) (Bpb K) (fun n=>(kC (Bfi K (A1o K n) K) kN)) n
theorem B0t (K:Nat):OkF 144 (B0s K):=
 Aa6 (x:=Bpa K) (L:=[(26,ar Ayg (A1o K K))]) (c0:=bd Tryz.f144) (Bib K) (by intro a0 a1;show @Eq _ _ _;kernel_rfl) (kC (Bpc K K) kN) Tryz.func144 trivial
def Axk (K:Nat)(a0:A9)(a1:A9):Option (Bool):=(bif (decide (a0.Vu<1))then some true else(bif (decide (a1.Vu<1))then some true else(bif (decide (a0.fAt≤a1.fAt))then(bif (decide ((Aob .i64 a1.fAt a0.fAt)≥a0.Vu))then some true else some (decide ((Aob .i64 a1.fAt a0.fAt)<0)))else(bif (decide ((Aob .i64 a0.fAt a1.fAt)≥a1.Vu))then some true else some (decide ((Aob .i64 a0.fAt a1.fAt)<0))))))
def B0u:Sig:=⟨[.v 89,.v 89],[.v 4],true⟩
def B0v (K:Nat):Gb tyU:=⟨B0u,Axk K⟩
def B5u (K:Nat):=xF B0u [] [] 50 [7,8,25,26,41,42] [] [] [] [.tmp 4]
theorem B0w (K:Nat):OkF 219 (B0v K):=
 Aa6 (x:=B5u K) (L:=[]) (c0:=bd Tryz.f219) (xkF gN oN) (by intro a0 a1;show @Eq _ _ _;kernel_rfl) kN Tryz.func219 trivial
def Apa (K:Nat)(a0:List A9)(v1:Int)(C1:Int->Option (Bool)):Nat->Int->Option (Bool)
 |0,_=>none
 |n2+1,v2=>(bif (decide (v2<v1))then(if(0:Int)≤v1∧v1<(a0.length:Int)then(if(0:Int)≤v2∧v2<(a0.length:Int)then((Axk K (gt a0 v1) (gt a0 v2)).bind fun r3=>(bif (!r3)then some false else(Apa K a0 v1 C1 n2 (Aoa .i64 v2 1))))else none)else none)else(C1 (Aoa .i64 v1 1)))
def Ak5 (K:Nat)(a0:List A9):Nat->Int->Option (Bool)
 |0,_=>none
 |n1+1,v1=>(bif (decide (v1<(a0.length:Int)))then(Apa K a0 v1 (Ak5 K a0 n1) K 0)else some true)
def Auj (K:Nat)(a0:List A9):Option (Bool):=(Ak5 K a0 K 0)
def s_56:Sig:=⟨[.v 41],[.v 4],true⟩
def B0x (K:Nat):Gb tyU:=⟨s_56,Auj K⟩
def Bpd (K:Nat):=xF s_56 [(219,B0v K)] [] 26 [] [] [] [] [.tmp 2]
def A2m:E5:=⟨[(0,.v 41),(3,.v 2),(4,.v 2)],[]⟩
def Ayh:E5:=⟨[(0,.v 41),(3,.v 2)],[]⟩
def A2n (K:Nat)(C26:CT Ayh s_56)(n:Nat)(q:PT A2m):Rt s_56:=Apa K q.1 q.2.1 (fun v1=>C26 (q.1,v1,())) n q.2.2.1
def A1p (K:Nat)(n:Nat)(q:PT Ayh):Rt s_56:=Ak5 K q.1 n q.2.1
theorem Bfj (K:Nat)(C26:CT Ayh s_56):AtL (Bpd K) (fun n=>[]) [(26,ar Ayh C26)] (bd Tryz.f145) 1682 (A2n K C26):=fun n q=>by kernel_rfl
theorem Bpe (K:Nat):AtL (Bpd K) (fun n=>[(1682,ar A2m (A2n K (A1p K n) K))]) [] (bd Tryz.f145) 26 (A1p K):=fun n q=>by kernel_rfl
theorem Bic (K:Nat):XF [.tmp 2] s_56 26 [] (Bpd K):=xkF (gC (B0w K) gN) oN
theorem Bfk (K:Nat)(C26:CT Ayh s_56)(n:Nat):CF [.tmp 2] s_56 26 [] (bd Tryz.f145) [(26,ar Ayh C26)] 1682 (ar A2m (A2n K C26 n)):=
 Aeh (Bic K) (Bfj K C26) (fun n=>kN) n
theorem Bpf (K:Nat)(n:Nat):CF [.tmp 2] s_56 26 [] (bd Tryz.f145) [] 26 (ar Ayh (A1p K n)):=
 Aeh (Bic K) (Bpe K) (fun n=>(kC (Bfk K (A1p K n) K) kN)) n
theorem B0y (K:Nat):OkF 145 (B0x K):=
 Aa6 (x:=Bpd K) (L:=[(26,ar Ayh (A1p K K))]) (c0:=bd Tryz.f145) (Bic K) (by intro a0;show @Eq _ _ _;kernel_rfl) (kC (Bpf K K) kN) Tryz.func145 trivial
def Ass (K:Nat)(v1:Int)(v2:Int)(v3:Int)(v4:Int)(v5:Int)(v6:Int)(v7:Int)(v8:Int)(v9:Int)(v10:Int)(v11:Int)(v12:List Int)(v13:Int)(v14:Int)(v15:List A9)(v16:List Int)(v17:Int)(v18:Int)(v19:Int)(v20:Int)(v21:Int)(v22:Int)(v23:List Int)(v24:List Int)(v25:List Int)(v26:List Ba)(v27:List Ax)(v28:List Int)(C1:Int->Int->Int->Int->Int->Int->Int->Int->Int->Int->Int->(List Int)->Int->Int->(List A9)->(List Int)->Int->Int->Int->Int->Int->Int->(List Int)->(List Int)->(List Int)->(List Ba)->(List Ax)->(List Int)->Option (Bool)):Option (Bool):=(C1 v1 v2 (Aoa .i64 v3 1) v4 v5 v6 v7 v8 v9 v10 v11 v12 v13 v14 v15 v16 v17 v18 v19 v20 v21 v22 v23 v24 v25 v26 v27 v28)
def Ang (K:Nat):Nat->Int->Int->Int->Int->Int->Int->Int->Int->Int->Int->Int->(List Int)->Int->Int->(List A9)->(List Int)->Int->Int->Int->Int->Int->Int->(List Int)->(List Int)->(List Int)->(List Ba)->(List Ax)->(List Int)->Option (Bool)
 |0,_,_,_,_,_,_,_,_,_,_,_,_,_,_,_,_,_,_,_,_,_,_,_,_,_,_,_,_=>none
 |n1+1,v1,v2,v3,v4,v5,v6,v7,v8,v9,v10,v11,v12,v13,v14,v15,v16,v17,v18,v19,v20,v21,v22,v23,v24,v25,v26,v27,v28=>(bif (decide (v3<(v15.length:Int)))then(if(0:Int)≤v3∧v3<(v15.length:Int)then(bif (decide (((gt v15 v3).fAt)<v2))then(bif (decide ((Aoa .i64 ((gt v15 v3).fAt) ((gt v15 v3).Vu))>v1))then some false else(Ass K v1 v2 v3 v4 v5 v6 v7 v8 v9 v10 v11 v12 v13 v14 v15 v16 v17 v18 v19 v20 v21 v22 v23 v24 v25 v26 v27 v28 (Ang K n1)))else(Ass K v1 v2 v3 v4 v5 v6 v7 v8 v9 v10 v11 v12 v13 v14 v15 v16 v17 v18 v19 v20 v21 v22 v23 v24 v25 v26 v27 v28 (Ang K n1)))else none)else(if(0:Int)≤v1∧v1≤v2∧v2≤(v23.length:Int)then((Asj K ((v23.drop v1.toNat).take (v2 - v1).toNat)).bind fun r29=>some r29)else none))
def Auk (K:Nat)(a0:Eb)(a1:Int):Option (Bool):=(if(0:Int)≤a1∧a1<(a0.fL.length:Int)then(bif (((gt a0.fL a1).Pq)==0)then some true else(bif (decide ((Aoa .i64 (Aoc .i64 (Aob .i64 ((gt a0.fL a1).Pq) 1) a0.fC.Eg) ((gt a0.fL a1).Gt))≥(Aoc .i64 ((gt a0.fL a1).Pq) a0.fC.Eg)))then some true else(Ang K K (Aoa .i64 (Aoc .i64 (Aob .i64 ((gt a0.fL a1).Pq) 1) a0.fC.Eg) ((gt a0.fL a1).Gt)) (Aoc .i64 ((gt a0.fL a1).Pq) a0.fC.Eg) 0 ((gt a0.fL a1).Hh) ((gt a0.fL a1).C2) ((gt a0.fL a1).Ly) ((gt a0.fL a1).fUp) ((gt a0.fL a1).Gq) ((gt a0.fL a1).Bt) ((gt a0.fL a1).Gr) ((gt a0.fL a1).Gs) ((gt a0.fL a1).Ae) ((gt a0.fL a1).Pq) ((gt a0.fL a1).Gt) ((gt a0.fL a1).Ea) ((gt a0.fL a1).Dg) a0.fC.Ae a0.fC.Eg a0.fC.C0 a0.fC.E9 a0.fC.C1 a0.fC.Eh a0.fP.Fy a0.fP.Hh a0.fP.Fz a0.fL a0.fQ a0.Pr)))else none)
def s_57:Sig:=⟨[.v 32,.v 3],[.v 4],true⟩
def B0z (K:Nat):Gb tyU:=⟨s_57,Auk K⟩
def Bpg (K:Nat):=xF s_57 [(212,Bn3 K)] [] 71 [33,34,54,55] [] [] [2025] [.tmp 4]
def A2o:E5:=⟨[(2,.p 102),(5,.p 105),(6,.v 2),(7,.v 2),(8,.v 2)],[(105,.box [.v 2,.v 2,.v 2,.v 2,.v 2,.v 2,.v 2,.v 2,.v 26,.v 2,.v 2,.v 41,.v 26]),(102,.box [.v 2,.v 2,.v 2,.v 2,.v 2,.v 2,.v 22,.v 26,.v 26,.v 29,.v 30,.v 26])]⟩
def Aw4:E5:=⟨[(2,.p 102),(5,.p 105),(6,.v 2),(7,.v 2),(8,.v 2)],[(105,.box [.v 2,.v 2,.v 2,.v 2,.v 2,.v 2,.v 2,.v 2,.v 26,.v 2,.v 2,.v 41,.v 26]),(102,.box [.v 2,.v 2,.v 2,.v 2,.v 2,.v 2,.v 22,.v 26,.v 26,.v 29,.v 30,.v 26])]⟩
def A2p (K:Nat)(C506:CT Aw4 s_57)(q:PT A2o):Rt s_57:=Ass K q.1 q.2.1 q.2.2.1 q.2.2.2.1 q.2.2.2.2.1 q.2.2.2.2.2.1 q.2.2.2.2.2.2.1 q.2.2.2.2.2.2.2.1 q.2.2.2.2.2.2.2.2.1 q.2.2.2.2.2.2.2.2.2.1 q.2.2.2.2.2.2.2.2.2.2.1 q.2.2.2.2.2.2.2.2.2.2.2.1 q.2.2.2.2.2.2.2.2.2.2.2.2.1 q.2.2.2.2.2.2.2.2.2.2.2.2.2.1 q.2.2.2.2.2.2.2.2.2.2.2.2.2.2.1 q.2.2.2.2.2.2.2.2.2.2.2.2.2.2.2.1 q.2.2.2.2.2.2.2.2.2.2.2.2.2.2.2.2.1 q.2.2.2.2.2.2.2.2.2.2.2.2.2.2.2.2.2.1 q.2.2.2.2.2.2.2.2.2.2.2.2.2.2.2.2.2.2.1 q.2.2.2.2.2.2.2.2.2.2.2.2.2.2.2.2.2.2.2.1 q.2.2.2.2.2.2.2.2.2.2.2.2.2.2.2.2.2.2.2.2.1 q.2.2.2.2.2.2.2.2.2.2.2.2.2.2.2.2.2.2.2.2.2.1 q.2.2.2.2.2.2.2.2.2.2.2.2.2.2.2.2.2.2.2.2.2.2.1 q.2.2.2.2.2.2.2.2.2.2.2.2.2.2.2.2.2.2.2.2.2.2.2.1 q.2.2.2.2.2.2.2.2.2.2.2.2.2.2.2.2.2.2.2.2.2.2.2.2.1 q.2.2.2.2.2.2.2.2.2.2.2.2.2.2.2.2.2.2.2.2.2.2.2.2.2.1 q.2.2.2.2.2.2.2.2.2.2.2.2.2.2.2.2.2.2.2.2.2.2.2.2.2.2.1 q.2.2.2.2.2.2.2.2.2.2.2.2.2.2.2.2.2.2.2.2.2.2.2.2.2.2.2.1 (fun v1 v2 v3 v4 v5 v6 v7 v8 v9 v10 v11 v12 v13 v14 v15 v16 v17 v18 v19 v20 v21 v22 v23 v24 v25 v26 v27 v28=>C506 (v1,v2,v3,v4,v5,v6,v7,v8,v9,v10,v11,v12,v13,v14,v15,v16,v17,v18,v19,v20,v21,v22,v23,v24,v25,v26,v27,v28,()))
def Azq (K:Nat)(n:Nat)(q:PT Aw4):Rt s_57:=Ang K n q.1 q.2.1 q.2.2.1 q.2.2.2.1 q.2.2.2.2.1 q.2.2.2.2.2.1 q.2.2.2.2.2.2.1 q.2.2.2.2.2.2.2.1 q.2.2.2.2.2.2.2.2.1 q.2.2.2.2.2.2.2.2.2.1 q.2.2.2.2.2.2.2.2.2.2.1 q.2.2.2.2.2.2.2.2.2.2.2.1 q.2.2.2.2.2.2.2.2.2.2.2.2.1 q.2.2.2.2.2.2.2.2.2.2.2.2.2.1 q.2.2.2.2.2.2.2.2.2.2.2.2.2.2.1 q.2.2.2.2.2.2.2.2.2.2.2.2.2.2.2.1 q.2.2.2.2.2.2.2.2.2.2.2.2.2.2.2.2.1 q.2.2.2.2.2.2.2.2.2.2.2.2.2.2.2.2.2.1 q.2.2.2.2.2.2.2.2.2.2.2.2.2.2.2.2.2.2.1 q.2.2.2.2.2.2.2.2.2.2.2.2.2.2.2.2.2.2.2.1 q.2.2.2.2.2.2.2.2.2.2.2.2.2.2.2.2.2.2.2.2.1 q.2.2.2.2.2.2.2.2.2.2.2.2.2.2.2.2.2.2.2.2.2.1 q.2.2.2.2.2.2.2.2.2.2.2.2.2.2.2.2.2.2.2.2.2.2.1 q.2.2.2.2.2.2.2.2.2.2.2.2.2.2.2.2.2.2.2.2.2.2.2.1 q.2.2.2.2.2.2.2.2.2.2.2.2.2.2.2.2.2.2.2.2.2.2.2.2.1 q.2.2.2.2.2.2.2.2.2.2.2.2.2.2.2.2.2.2.2.2.2.2.2.2.2.1 q.2.2.2.2.2.2.2.2.2.2.2.2.2.2.2.2.2.2.2.2.2.2.2.2.2.2.1 q.2.2.2.2.2.2.2.2.2.2.2.2.2.2.2.2.2.2.2.2.2.2.2.2.2.2.2.1
theorem Bfl (K:Nat)(C506:CT Aw4 s_57):AtJ (Bpg K) [] [(506,ar Aw4 C506)] (bd Tryz.f146) 2025 (A2p K C506):=fun q=>by kernel_rfl
theorem Bid (K:Nat):AtL (Bpg K) (fun n=>[(2025,ar A2o (A2p K (Azq K n)))]) [] (bd Tryz.f146) 506 (Azq K):=fun n q=>by kernel_rfl
theorem Bie (K:Nat):XF [.tmp 4] s_57 71 [2025] (Bpg K):=xkF (gC (Bhf K) gN) oN
theorem Bfm (K:Nat)(C506:CT Aw4 s_57):CF [.tmp 4] s_57 71 [2025] (bd Tryz.f146) [(506,ar Aw4 C506)] 2025 (ar A2o (A2p K C506)):=
 Amf (Bie K) (Bfl K C506) kN
theorem Bif (K:Nat)(n:Nat):CF [.tmp 4] s_57 71 [2025] (bd Tryz.f146) [] 506 (ar Aw4 (Azq K n)):=
 Aeh (Bie K) (Bid K) (fun n=>(kC (Bfm K (Azq K n)) kN)) n
theorem B00 (K:Nat):OkF 146 (B0z K):=
 Aa6 (x:=Bpg K) (L:=[(506,ar Aw4 (Azq K K))]) (c0:=bd Tryz.f146) (Bie K) (by intro a0 a1;show @Eq _ _ _;kernel_rfl) (kC (Bif K K) kN) Tryz.func146 trivial
def An0 (K:Nat)(v4:Int)(v5:Int)(v6:Int)(v7:Int)(v8:Int)(v9:Int)(v10:List Int)(v11:List Int)(v12:List Int)(v13:List Ba)(v14:List Ax)(v15:List Int):Nat->Int->Option (Bool)
 |0,_=>none
 |n3+1,v23=>(bif (decide (v23<(v15.length:Int)))then(if(0:Int)≤v23∧v23<(v15.length:Int)then((Abk K (gt v15 v23) 0 255).bind fun r24=>(bif (!r24)then some false else(An0 K v4 v5 v6 v7 v8 v9 v10 v11 v12 v13 v14 v15 n3 (Aoa .i64 v23 1))))else none)else((Ato K (Eb.mk (Er.mk v4 v5 v6 v7 v8 v9) (Dw.mk v10 v11 v12) v13 v14 v15)).bind fun r25=>some r25))
def Aps (K:Nat)(v4:Int)(v5:Int)(v6:Int)(v7:Int)(v8:Int)(v9:Int)(v10:List Int)(v11:List Int)(v12:List Int)(v13:List Ba)(v14:List Ax)(v15:List Int):Nat->Int->Option (Bool)
 |0,_=>none
 |n2+1,v21=>(bif (decide (v21<(v14.length:Int)))then((Aug K (Eb.mk (Er.mk v4 v5 v6 v7 v8 v9) (Dw.mk v10 v11 v12) v13 v14 v15) v21).bind fun r22=>(bif (!r22)then some false else(Aps K v4 v5 v6 v7 v8 v9 v10 v11 v12 v13 v14 v15 n2 (Aoa .i64 v21 1))))else(An0 K v4 v5 v6 v7 v8 v9 v10 v11 v12 v13 v14 v15 K 0))
def An1 (K:Nat):Nat->Int->Int->Int->Int->Int->Int->Int->(List Int)->(List Int)->(List Int)->(List Ba)->(List Ax)->(List Int)->Option (Bool)
 |0,_,_,_,_,_,_,_,_,_,_,_,_,_=>none
 |n1+1,v3,v4,v5,v6,v7,v8,v9,v10,v11,v12,v13,v14,v15=>(bif (decide (v3<(v13.length:Int)))then(if(0:Int)≤v3∧v3<(v13.length:Int)then((Awp K (Er.mk v4 v5 v6 v7 v8 v9) (gt v13 v3)).bind fun r16=>(bif r16 then((Atr K (Eb.mk (Er.mk v4 v5 v6 v7 v8 v9) (Dw.mk v10 v11 v12) v13 v14 v15) v3).bind fun r17=>(bif r17 then(if(0:Int)≤v3∧v3<(v13.length:Int)then((Aui K (Er.mk v4 v5 v6 v7 v8 v9) (gt v13 v3)).bind fun r18=>(bif r18 then(if(0:Int)≤v3∧v3<(v13.length:Int)then((Auj K ((gt v13 v3).Ea)).bind fun r19=>(bif r19 then((Auk K (Eb.mk (Er.mk v4 v5 v6 v7 v8 v9) (Dw.mk v10 v11 v12) v13 v14 v15) v3).bind fun r20=>(bif (!r20)then some false else(An1 K n1 (Aoa .i64 v3 1) v4 v5 v6 v7 v8 v9 v10 v11 v12 v13 v14 v15)))else some false))else none)else some false))else none)else some false))else some false))else none)else(Aps K v4 v5 v6 v7 v8 v9 v10 v11 v12 v13 v14 v15 K 0))
def Avl (K:Nat)(a0:Eb):Option (Bool):=((Awn K a0.fC a0.fP).bind fun r1=>(bif r1 then(bif ((a0.fL.length:Int) != a0.fC.C0)then some false else((Awo K a0.fL).bind fun r2=>(bif (!r2)then some false else(An1 K K 0 a0.fC.Ae a0.fC.Eg a0.fC.C0 a0.fC.E9 a0.fC.C1 a0.fC.Eh a0.fP.Fy a0.fP.Hh a0.fP.Fz a0.fL a0.fQ a0.Pr))))else some false))
def s_58:Sig:=⟨[.v 32],[.v 4],true⟩
def B01 (K:Nat):Gb tyU:=⟨s_58,Avl K⟩
def Big (K:Nat):=xF s_58 [(84,A64 K),(140,Bzl K),(141,Bzu K),(142,B0m K),(143,B0q K),(144,B0s K),(145,B0x K),(146,B0z K),(147,Bz5 K),(148,Bz1 K)] [] 103 [10,11,12,19,20,21,41,42,43,46,47,48,49,57,58,59,60,67,68,69,70] [] [] [] [.tmp 2]
def A4f:E5:=⟨[(1,.p 101),(5,.v 2)],[(101,.box [.v 2,.v 2,.v 2,.v 2,.v 2,.v 2,.v 22,.v 26,.v 26,.v 29,.v 30,.v 26])]⟩
def A4g:E5:=⟨[(1,.p 101),(4,.v 2)],[(101,.box [.v 2,.v 2,.v 2,.v 2,.v 2,.v 2,.v 22,.v 26,.v 26,.v 29,.v 30,.v 26])]⟩
def A9i:E5:=⟨[(1,.p 101),(3,.v 2)],[(101,.box [.v 2,.v 2,.v 2,.v 2,.v 2,.v 2,.v 22,.v 26,.v 26,.v 29,.v 30,.v 26])]⟩
def A4h (K:Nat)(n:Nat)(q:PT A4f):Rt s_58:=An0 K q.2.1 q.2.2.1 q.2.2.2.1 q.2.2.2.2.1 q.2.2.2.2.2.1 q.2.2.2.2.2.2.1 q.2.2.2.2.2.2.2.1 q.2.2.2.2.2.2.2.2.1 q.2.2.2.2.2.2.2.2.2.1 q.2.2.2.2.2.2.2.2.2.2.1 q.2.2.2.2.2.2.2.2.2.2.2.1 q.2.2.2.2.2.2.2.2.2.2.2.2.1 n q.1
def A4i (K:Nat)(n:Nat)(q:PT A4g):Rt s_58:=Aps K q.2.1 q.2.2.1 q.2.2.2.1 q.2.2.2.2.1 q.2.2.2.2.2.1 q.2.2.2.2.2.2.1 q.2.2.2.2.2.2.2.1 q.2.2.2.2.2.2.2.2.1 q.2.2.2.2.2.2.2.2.2.1 q.2.2.2.2.2.2.2.2.2.2.1 q.2.2.2.2.2.2.2.2.2.2.2.1 q.2.2.2.2.2.2.2.2.2.2.2.2.1 n q.1
def A9j (K:Nat)(n:Nat)(q:PT A9i):Rt s_58:=An1 K n q.1 q.2.1 q.2.2.1 q.2.2.2.1 q.2.2.2.2.1 q.2.2.2.2.2.1 q.2.2.2.2.2.2.1 q.2.2.2.2.2.2.2.1 q.2.2.2.2.2.2.2.2.1 q.2.2.2.2.2.2.2.2.2.1 q.2.2.2.2.2.2.2.2.2.2.1 q.2.2.2.2.2.2.2.2.2.2.2.1 q.2.2.2.2.2.2.2.2.2.2.2.2.1
theorem Bih (K:Nat):AtL (Big K) (fun n=>[]) [] (bd Tryz.f83) 250 (A4h K):=fun n q=>by kernel_rfl
theorem Bii (K:Nat):AtL (Big K) (fun n=>[(250,ar A4f (A4h K K))]) [] (bd Tryz.f83) 122 (A4i K):=fun n q=>by kernel_rfl
theorem Bph (K:Nat):AtL (Big K) (fun n=>[(122,ar A4g (A4i K K))]) [] (bd Tryz.f83) 58 (A9j K):=fun n q=>by kernel_rfl
theorem Bee (K:Nat):XF [.tmp 2] s_58 103 [] (Big K):=xkF (gC (A1h K) (gC (Bzm K) (gC (Bzv K) (gC (B0n K) (gC (B0r K) (gC (B0t K) (gC (B0y K) (gC (B00 K) (gC (Bz6 K) (gC (Bz2 K) gN)))))))))) oN
theorem Bij (K:Nat)(n:Nat):CF [.tmp 2] s_58 103 [] (bd Tryz.f83) [] 250 (ar A4f (A4h K n)):=
 Aeh (Bee K) (Bih K) (fun n=>kN) n
theorem Bik (K:Nat)(n:Nat):CF [.tmp 2] s_58 103 [] (bd Tryz.f83) [] 122 (ar A4g (A4i K n)):=
 Aeh (Bee K) (Bii K) (fun n=>(kC (Ao2 (by kernel_rfl) (Bij K K)) kN)) n
theorem Bpi (K:Nat)(n:Nat):CF [.tmp 2] s_58 103 [] (bd Tryz.f83) [] 58 (ar A9i (A9j K n)):=
 Aeh (Bee K) (Bph K) (fun n=>(kC (Ao2 (by kernel_rfl) (Bik K K)) kN)) n
theorem B02 (K:Nat):OkF 83 (B01 K):=
 Aa6 (x:=Big K) (L:=[(58,ar A9i (A9j K K))]) (c0:=bd Tryz.f83) (Bee K) (by intro a0;show @Eq _ _ _;kernel_rfl) (kC (Bpi K K) kN) Tryz.func83 trivial
def Aul (K:Nat)(a0:Ct):Option (Bool):=(bif (decide (a0.A5≥0))then some (decide (a0.C2≥1))else some false)
def B03:Sig:=⟨[.v 34],[.v 4],true⟩
def B04 (K:Nat):Gb tyU:=⟨B03,Aul K⟩
def B5v (K:Nat):=xF B03 [] [] 11 [5,6] [] [] [] [.tmp 2]
theorem B05 (K:Nat):OkF 149 (B04 K):=
 Aa6 (x:=B5v K) (L:=[]) (c0:=bd Tryz.f149) (xkF gN oN) (by intro a0;show @Eq _ _ _;kernel_rfl) kN Tryz.func149 trivial
def Arn (K:Nat)(a0:List Ba)(a1:Ct):Option (Int):=((Abk K a1.A5 0 (Aob .i64 (a0.length:Int) 1)).bind fun r1=>(bif r1 then(if(0:Int)≤a1.A5∧a1.A5<(a0.length:Int)then(bif (((gt a0 a1.A5).Hh) != 1)then some (-1)else(if(0:Int)≤a1.A5∧a1.A5<(a0.length:Int)then(bif (((gt a0 a1.A5).C2) != a1.C2)then some (-1)else some a1.A5)else none))else none)else some (-1)))
def B06:Sig:=⟨[.v 29,.v 34],[.v 3],true⟩
def Bvu (K:Nat):Gb tyU:=⟨B06,Arn K⟩
def B5w (K:Nat):=xF B06 [(84,A64 K)] [] 34 [10,11,12,19,20,21] [] [] [] [.tmp 4]
theorem Bri (K:Nat):OkF 150 (Bvu K):=
 Aa6 (x:=B5w K) (L:=[]) (c0:=bd Tryz.f150) (xkF (gC (A1h K) gN) oN) (by intro a0 a1;show @Eq _ _ _;kernel_rfl) kN Tryz.func150 trivial
def Avm (K:Nat)(v2:Int)(C1:Int->Option (Bool)):Option (Bool):=(C1 (Aoa .i64 v2 1))
def Aro (K:Nat)(a0:List Ba)(r1:(List Int)):Nat->Int->Option (Bool)
 |0,_=>none
 |n1+1,v2=>(bif (decide (v2<(r1.length:Int)))then(if(0:Int)≤v2∧v2<(r1.length:Int)then(if(0:Int)≤(gt r1 v2)∧(gt r1 v2)<(a0.length:Int)then(bif (((gt a0 (gt r1 v2)).Hh) != 1)then some false else(bif (decide ((Aoa .i64 v2 1)<(r1.length:Int)))then(if(0:Int)≤v2∧v2<(r1.length:Int)then((Aq2 K a0 (gt r1 v2)).bind fun r3=>(bif (!r3)then some false else(Avm K v2 (Aro K a0 r1 n1))))else none)else(Avm K v2 (Aro K a0 r1 n1))))else none)else none)else(bif (decide ((r1.length:Int)>0))then(if(0:Int)≤(Aob .i64 (r1.length:Int) 1)∧(Aob .i64 (r1.length:Int) 1)<(r1.length:Int)then(if(0:Int)≤(gt r1 (Aob .i64 (r1.length:Int) 1))∧(gt r1 (Aob .i64 (r1.length:Int) 1))<(a0.length:Int)then some (((gt a0 (gt r1 (Aob .i64 (r1.length:Int) 1))).fUp)==0)else none)else none)else some false))
def Axl (K:Nat)(a0:List Ba)(a1:Int):Option (Bool):=((Au5 K a0 a1).bind fun r1=>(Aro K a0 r1 K 0))
def s_61:Sig:=⟨[.v 29,.v 3],[.v 4],true⟩
def B07 (K:Nat):Gb tyU:=⟨s_61,Axl K⟩
def Bpj (K:Nat):=xF s_61 [(224,Bn9 K),(225,Bn8 K)] [] 57 [24,25,30,31,43,44] [] [] [233] [.tmp 4]
def A4j:E5:=⟨[(0,.v 29),(5,.v 26),(6,.v 2)],[]⟩
def Ayi:E5:=⟨[(0,.v 29),(5,.v 26),(6,.v 2)],[]⟩
def A4k (K:Nat)(C58:CT Ayi s_61)(q:PT A4j):Rt s_61:=Avm K q.2.2.1 (fun v2=>C58 (q.1,q.2.1,v2,()))
def A1q (K:Nat)(n:Nat)(q:PT Ayi):Rt s_61:=Aro K q.1 q.2.1 n q.2.2.1
theorem Bil (K:Nat)(C58:CT Ayi s_61):AtJ (Bpj K) [] [(58,ar Ayi C58)] (bd Tryz.f151) 233 (A4k K C58):=fun q=>by kernel_rfl
theorem Bpk (K:Nat):AtL (Bpj K) (fun n=>[(233,ar A4j (A4k K (A1q K n)))]) [] (bd Tryz.f151) 58 (A1q K):=fun n q=>by kernel_rfl
theorem Bim (K:Nat):XF [.tmp 4] s_61 57 [233] (Bpj K):=xkF (gC (Bhk K) (gC (Bhj K) gN)) oN
theorem Bin (K:Nat)(C58:CT Ayi s_61):CF [.tmp 4] s_61 57 [233] (bd Tryz.f151) [(58,ar Ayi C58)] 233 (ar A4j (A4k K C58)):=
 Amf (Bim K) (Bil K C58) kN
theorem Bpl (K:Nat)(n:Nat):CF [.tmp 4] s_61 57 [233] (bd Tryz.f151) [] 58 (ar Ayi (A1q K n)):=
 Aeh (Bim K) (Bpk K) (fun n=>(kC (Bin K (A1q K n)) kN)) n
theorem B08 (K:Nat):OkF 151 (B07 K):=
 Aa6 (x:=Bpj K) (L:=[(58,ar Ayi (A1q K K))]) (c0:=bd Tryz.f151) (Bim K) (by intro a0 a1;show @Eq _ _ _;kernel_rfl) (kC (Bpl K K) kN) Tryz.func151 trivial
def Aum (K:Nat)(a0:Eb)(a1:Ct):Option (Int×Int):=((Aul K a1).bind fun r1=>(bif (!r1)then some ((-1),1)else((Arn K a0.fL a1).bind fun r2=>(bif (decide (r2<0))then some ((-1),2)else((Axl K a0.fL r2).bind fun r3=>(bif (!r3)then some ((-1),2)else some (r2,0)))))))
def B09:Sig:=⟨[.v 32,.v 34],[.v 3,.v 3],true⟩
def B1a (K:Nat):Gb tyU:=⟨B09,Aum K⟩
def B5x (K:Nat):=xF B09 [(149,B04 K),(150,Bvu K),(151,B07 K)] [] 24 [15,16] [] [] [] [.tmp 4,.tmp 5]
theorem B1b (K:Nat):OkF 85 (B1a K):=
 Aa6 (x:=B5x K) (L:=[]) (c0:=bd Tryz.f85) (xkF (gC (B05 K) (gC (Bri K) (gC (B08 K) gN))) oN) (by intro a0 a1;show @Eq _ _ _;kernel_rfl) kN Tryz.func85 trivial
def Avn (K:Nat)(a0:Ba)(a1:Int):Option (Ax):=(if(([]:List Int)++a0.Dg).length*8≤140737488355328∧(([]:List Int)++a0.Dg).length≤maxLen then(if(([]:List Int)++a0.Ae).length*8≤140737488355328∧(([]:List Int)++a0.Ae).length≤maxLen then some (Ax.mk a1 a0.Bt (([]:List Int)++a0.Dg) (([]:List Int)++a0.Ae) 0)else none)else none)
def B1c:Sig:=⟨[.v 44,.v 3],[.n 159 true],true⟩
def B1d (K:Nat):Gb tyU:=⟨B1c,Avn K⟩
def B5y (K:Nat):=xF B1c [] [] 17 [] [] [] [] [.cell 4 159]
theorem B1e (K:Nat):OkF 168 (B1d K):=
 Aa6 (x:=B5y K) (L:=[]) (c0:=bd Tryz.f168) (xkF gN oN) (by intro a0 a1;show @Eq _ _ _;kernel_rfl) kN Tryz.func168 trivial
def Arp (K:Nat)(v3:Dw)(v4:Dw):Option (Dw):=some v3
def Axm (K:Nat)(a0:Dw)(a1:Int):Option (Dw):=((At4 K a0).bind fun r1=>((Abk K a1 0 (Aob .i64 (a0.Hh.length:Int) 1)).bind fun r2=>(bif r2 then(bif (decide (a1<(a0.Fz.length:Int)))then(if(0:Int)≤a1∧a1<(a0.Hh.length:Int)then(bif ((gt a0.Hh a1)==1)then(if(0:Int)≤a1∧a1<(r1.Hh.length:Int)then(if(0:Int)≤a1∧a1<(r1.Fz.length:Int)then(Arp K (Dw.mk r1.Fy (r1.Hh.set a1.toNat 2) (r1.Fz.set a1.toNat (-1))) (Dw.mk [] [] []))else none)else none)else(Arp K r1 (Dw.mk [] [] [])))else none)else(Arp K r1 (Dw.mk [] [] [])))else(Arp K r1 (Dw.mk [] [] [])))))
def s_64:Sig:=⟨[.v 28,.v 3],[.n 28 true],true⟩
def B1f (K:Nat):Gb tyU:=⟨s_64,Axm K⟩
def Bvv (K:Nat):=xF s_64 [(84,A64 K),(137,Bvc K)] [] 38 [13,14,19,20,21] [(5,[.take 105 0 6680,.take 105 1 6681,.take 105 2 6682])] [] [7] [.cell 4 28]
def Bcu:E5:=⟨[(4,.p 104),(5,.p 105)],[(105,.st 28 true),(104,.st 28 true)]⟩
def Bcv (K:Nat)(q:PT Bcu):Rt s_64:=Arp K q.1 q.2.1
theorem Bvw (K:Nat):AtJ (Bvv K) [] [] (bd Tryz.f242) 7 (Bcv K):=fun q=>by kernel_rfl
theorem Brj (K:Nat):XF [.cell 4 28] s_64 38 [7] (Bvv K):=xkF (gC (A1h K) (gC (Bq4 K) gN)) oN
theorem Bvx (K:Nat):CF [.cell 4 28] s_64 38 [7] (bd Tryz.f242) [] 7 (ar Bcu (Bcv K)):=
 Amf (Brj K) (Bvw K) kN
theorem B1g (K:Nat):OkF 242 (B1f K):=
 Aa6 (x:=Bvv K) (L:=[(7,ar Bcu (Bcv K))]) (c0:=bd Tryz.f242) (Brj K) (by intro a0 a1;show @Eq _ _ _;kernel_rfl) (kC (Bvx K) kN) Tryz.func242 trivial
def Ap1 (K:Nat)(a1:List Int):Nat->Int->Int->Int->Int->Int->Int->Int->(List Int)->(List Int)->(List Int)->(List Ba)->(List Ax)->(List Int)->Option (Eb)
 |0,_,_,_,_,_,_,_,_,_,_,_,_,_=>none
 |n1+1,v1,v2,v3,v4,v5,v6,v7,v8,v9,v10,v11,v12,v13=>(bif (decide (v1<(a1.length:Int)))then(if(0:Int)≤v1∧v1<(a1.length:Int)then((Axm K (Dw.mk v8 v9 v10) (gt a1 v1)).bind fun r14=>(Ap1 K a1 n1 (Aoa .i64 v1 1) v2 v3 v4 v5 v6 v7 r14.Fy r14.Hh r14.Fz v11 v12 v13))else none)else some (Eb.mk (Er.mk v2 v3 v4 v5 v6 v7) (Dw.mk v8 v9 v10) v11 v12 v13))
def Awq (K:Nat)(a0:Eb)(a1:List Int):Option (Eb):=(Ap1 K a1 K 0 a0.fC.Ae a0.fC.Eg a0.fC.C0 a0.fC.E9 a0.fC.C1 a0.fC.Eh a0.fP.Fy a0.fP.Hh a0.fP.Fz a0.fL a0.fQ a0.Pr)
def s_65:Sig:=⟨[.b 32 false,.v 26],[],false⟩
def B1h (K:Nat):Gb tyU:=⟨s_65,Awq K⟩
def Bvy (K:Nat):=xF s_65 [(242,B1f K)] [] 23 [] [(3,[.take 1 6 5022,.take 1 7 5023,.take 1 8 5024])] [] [] []
def Bcw:E5:=⟨[(0,.p 1),(1,.v 26),(4,.v 2)],[(1,.box [.v 2,.v 2,.v 2,.v 2,.v 2,.v 2,.T 5 true,.T 3 true,.T 3 true,.T 44 false,.T 159 false,.T 3 true])]⟩
def Bcx (K:Nat)(n:Nat)(q:PT Bcw):Rt s_65:=Ap1 K q.1 n q.2.1 q.2.2.1 q.2.2.2.1 q.2.2.2.2.1 q.2.2.2.2.2.1 q.2.2.2.2.2.2.1 q.2.2.2.2.2.2.2.1 q.2.2.2.2.2.2.2.2.1 q.2.2.2.2.2.2.2.2.2.1 q.2.2.2.2.2.2.2.2.2.2.1 q.2.2.2.2.2.2.2.2.2.2.2.1 q.2.2.2.2.2.2.2.2.2.2.2.2.1 q.2.2.2.2.2.2.2.2.2.2.2.2.2.1
theorem Bvz (K:Nat):AtL (Bvy K) (fun n=>[]) [] (bd Tryz.f169) 6 (Bcx K):=fun n q=>by kernel_rfl
theorem Brk (K:Nat):XF [] s_65 23 [] (Bvy K):=xkF (gC (B1g K) gN) oN
theorem Bv0 (K:Nat)(n:Nat):CF [] s_65 23 [] (bd Tryz.f169) [] 6 (ar Bcw (Bcx K n)):=
 Aeh (Brk K) (Bvz K) (fun n=>kN) n
theorem B1i (K:Nat):OkF 169 (B1h K):=
 Aa6 (x:=Bvy K) (L:=[(6,ar Bcw (Bcx K K))]) (c0:=bd Tryz.f169) (Brk K) (by intro a0 a1;show @Eq _ _ _;kernel_rfl) (kC (Bv0 K K) kN) Tryz.func169 trivial
def Asf (K:Nat)(a1:Int)(v21:List Ba):Option ((List Ba)):=(if(0:Int)≤a1∧a1<(v21.length:Int)then(Aql (v21.set a1.toNat (Ba.mk ((gt v21 a1).Hh) ((gt v21 a1).C2) ((gt v21 a1).Ly) 0 ((gt v21 a1).Gq) ((gt v21 a1).Bt) ((gt v21 a1).Gr) ((gt v21 a1).Gs) ((gt v21 a1).Ae) ((gt v21 a1).Pq) ((gt v21 a1).Gt) ((gt v21 a1).Ea) ((gt v21 a1).Dg))) fun v22=>(if(0:Int)≤a1∧a1<(v22.length:Int)then(Aql (v22.set a1.toNat (Ba.mk ((gt v22 a1).Hh) ((gt v22 a1).C2) ((gt v22 a1).Ly) ((gt v22 a1).fUp) 0 ((gt v22 a1).Bt) ((gt v22 a1).Gr) ((gt v22 a1).Gs) ((gt v22 a1).Ae) ((gt v22 a1).Pq) ((gt v22 a1).Gt) ((gt v22 a1).Ea) ((gt v22 a1).Dg))) fun v23=>(if(0:Int)≤a1∧a1<(v23.length:Int)then(Aql (v23.set a1.toNat (Ba.mk ((gt v23 a1).Hh) ((gt v23 a1).C2) ((gt v23 a1).Ly) ((gt v23 a1).fUp) ((gt v23 a1).Gq) ((gt v23 a1).Bt) 0 ((gt v23 a1).Gs) ((gt v23 a1).Ae) ((gt v23 a1).Pq) ((gt v23 a1).Gt) ((gt v23 a1).Ea) ((gt v23 a1).Dg))) fun v24=>(if(0:Int)≤a1∧a1<(v24.length:Int)then(Aql (v24.set a1.toNat (Ba.mk ((gt v24 a1).Hh) ((gt v24 a1).C2) ((gt v24 a1).Ly) ((gt v24 a1).fUp) ((gt v24 a1).Gq) ((gt v24 a1).Bt) ((gt v24 a1).Gr) 0 ((gt v24 a1).Ae) ((gt v24 a1).Pq) ((gt v24 a1).Gt) ((gt v24 a1).Ea) ((gt v24 a1).Dg))) fun v25=>some v25)else none))else none))else none))else none)
def Aqy (K:Nat)(a0:List Ba)(a1:Int)(v5:List Ba)(v6:Int)(v7:Int)(v8:Int)(v9:Int)(v10:Int)(v11:Int)(v12:Int)(v13:Int)(v14:List Int)(v15:Int)(v16:Int)(v17:List A9)(v18:List Int):Option ((List Ba)):=((Aiz K a0 v12).bind fun r19=>(bif r19 then(if(0:Int)≤(Aob .i64 v12 1)∧(Aob .i64 v12 1)<(v5.length:Int)then(Aql (v5.set (Aob .i64 v12 1).toNat (Ba.mk ((gt v5 (Aob .i64 v12 1)).Hh) ((gt v5 (Aob .i64 v12 1)).C2) ((gt v5 (Aob .i64 v12 1)).Ly) ((gt v5 (Aob .i64 v12 1)).fUp) ((gt v5 (Aob .i64 v12 1)).Gq) ((gt v5 (Aob .i64 v12 1)).Bt) ((gt v5 (Aob .i64 v12 1)).Gr) v13 ((gt v5 (Aob .i64 v12 1)).Ae) ((gt v5 (Aob .i64 v12 1)).Pq) ((gt v5 (Aob .i64 v12 1)).Gt) ((gt v5 (Aob .i64 v12 1)).Ea) ((gt v5 (Aob .i64 v12 1)).Dg))) fun v20=>(Asf K a1 v20))else none)else(Asf K a1 v5)))
def Ap2 (K:Nat)(a0:List Ba)(a1:Int)(r1:(List Ba))(v27:Bool)(v28:Int)(v29:Int)(v30:Int)(v31:Int)(v32:Int)(v33:Int)(v34:Int)(v35:Int)(v36:List Int)(v37:Int)(v38:Int)(v39:List A9)(v40:List Int):Option ((List Ba)):=(bif v27 then(if(0:Int)≤(Aob .i64 v31 1)∧(Aob .i64 v31 1)<(r1.length:Int)then(Aql (r1.set (Aob .i64 v31 1).toNat (Ba.mk ((gt r1 (Aob .i64 v31 1)).Hh) ((gt r1 (Aob .i64 v31 1)).C2) ((gt r1 (Aob .i64 v31 1)).Ly) ((gt r1 (Aob .i64 v31 1)).fUp) ((gt r1 (Aob .i64 v31 1)).Gq) v34 ((gt r1 (Aob .i64 v31 1)).Gr) ((gt r1 (Aob .i64 v31 1)).Gs) ((gt r1 (Aob .i64 v31 1)).Ae) ((gt r1 (Aob .i64 v31 1)).Pq) ((gt r1 (Aob .i64 v31 1)).Gt) ((gt r1 (Aob .i64 v31 1)).Ea) ((gt r1 (Aob .i64 v31 1)).Dg))) fun v41=>(Aqy K a0 a1 v41 v28 v29 v30 v31 v32 v33 v34 v35 v36 v37 v38 v39 v40))else none)else(Aqy K a0 a1 r1 v28 v29 v30 v31 v32 v33 v34 v35 v36 v37 v38 v39 v40))
def Awr (K:Nat)(a0:List Ba)(a1:Int):Option ((List Ba)):=((Avd K a0).bind fun r1=>((Aiz K a0 (Aoa .i64 a1 1)).bind fun r2=>(bif (!r2)then some r1 else(if(0:Int)≤a1∧a1<(a0.length:Int)then((Aiz K a0 ((gt a0 a1).Gs)).bind fun r3=>(bif r3 then(if(0:Int)≤(Aob .i64 ((gt a0 a1).Gs) 1)∧(Aob .i64 ((gt a0 a1).Gs) 1)<(r1.length:Int)then(Aql (r1.set (Aob .i64 ((gt a0 a1).Gs) 1).toNat (Ba.mk ((gt r1 (Aob .i64 ((gt a0 a1).Gs) 1)).Hh) ((gt r1 (Aob .i64 ((gt a0 a1).Gs) 1)).C2) ((gt r1 (Aob .i64 ((gt a0 a1).Gs) 1)).Ly) ((gt r1 (Aob .i64 ((gt a0 a1).Gs) 1)).fUp) ((gt r1 (Aob .i64 ((gt a0 a1).Gs) 1)).Gq) ((gt r1 (Aob .i64 ((gt a0 a1).Gs) 1)).Bt) ((gt a0 a1).Gr) ((gt r1 (Aob .i64 ((gt a0 a1).Gs) 1)).Gs) ((gt r1 (Aob .i64 ((gt a0 a1).Gs) 1)).Ae) ((gt r1 (Aob .i64 ((gt a0 a1).Gs) 1)).Pq) ((gt r1 (Aob .i64 ((gt a0 a1).Gs) 1)).Gt) ((gt r1 (Aob .i64 ((gt a0 a1).Gs) 1)).Ea) ((gt r1 (Aob .i64 ((gt a0 a1).Gs) 1)).Dg))) fun v4=>(Aqy K a0 a1 v4 ((gt a0 a1).Hh) ((gt a0 a1).C2) ((gt a0 a1).Ly) ((gt a0 a1).fUp) ((gt a0 a1).Gq) ((gt a0 a1).Bt) ((gt a0 a1).Gr) ((gt a0 a1).Gs) ((gt a0 a1).Ae) ((gt a0 a1).Pq) ((gt a0 a1).Gt) ((gt a0 a1).Ea) ((gt a0 a1).Dg)))else none)else(bif (((gt a0 a1).Gs)==0)then((Aiz K a0 ((gt a0 a1).fUp)).bind fun r26=>(bif r26 then(if(0:Int)≤(Aob .i64 ((gt a0 a1).fUp) 1)∧(Aob .i64 ((gt a0 a1).fUp) 1)<(a0.length:Int)then(Ap2 K a0 a1 r1 (((gt a0 (Aob .i64 ((gt a0 a1).fUp) 1)).Bt)==(Aoa .i64 a1 1)) ((gt a0 a1).Hh) ((gt a0 a1).C2) ((gt a0 a1).Ly) ((gt a0 a1).fUp) ((gt a0 a1).Gq) ((gt a0 a1).Bt) ((gt a0 a1).Gr) ((gt a0 a1).Gs) ((gt a0 a1).Ae) ((gt a0 a1).Pq) ((gt a0 a1).Gt) ((gt a0 a1).Ea) ((gt a0 a1).Dg))else none)else(Ap2 K a0 a1 r1 false ((gt a0 a1).Hh) ((gt a0 a1).C2) ((gt a0 a1).Ly) ((gt a0 a1).fUp) ((gt a0 a1).Gq) ((gt a0 a1).Bt) ((gt a0 a1).Gr) ((gt a0 a1).Gs) ((gt a0 a1).Ae) ((gt a0 a1).Pq) ((gt a0 a1).Gt) ((gt a0 a1).Ea) ((gt a0 a1).Dg))))else(Ap2 K a0 a1 r1 false ((gt a0 a1).Hh) ((gt a0 a1).C2) ((gt a0 a1).Ly) ((gt a0 a1).fUp) ((gt a0 a1).Gq) ((gt a0 a1).Bt) ((gt a0 a1).Gr) ((gt a0 a1).Gs) ((gt a0 a1).Ae) ((gt a0 a1).Pq) ((gt a0 a1).Gt) ((gt a0 a1).Ea) ((gt a0 a1).Dg)))))else none))))
def s_66:Sig:=⟨[.v 29,.v 3],[.n 29 true],true⟩
def B1j (K:Nat):Gb tyU:=⟨s_66,Awr K⟩
def Bio (K:Nat):=xF s_66 [(138,Bvd K),(244,Bco K)] [] 91 [35,36,40,41,42] [] [] [31,63,499] [.tmp 4]
def A9k:E5:=⟨[(1,.v 2),(5,.o 1005 44 true)],[]⟩
def A3m:E5:=⟨[(0,.v 29),(1,.v 2),(5,.o 1005 44 true),(6,.p 106)],[(106,.box [.v 2,.v 2,.v 2,.v 2,.v 2,.v 2,.v 2,.v 2,.v 26,.v 2,.v 2,.v 41,.v 26])]⟩
def A4l:E5:=⟨[(0,.v 29),(1,.v 2),(5,.o 1005 44 true),(6,.p 106),(32,.v 4)],[(106,.box [.v 2,.v 2,.v 2,.v 2,.v 2,.v 2,.v 2,.v 2,.v 26,.v 2,.v 2,.v 41,.v 26])]⟩
def A9l (K:Nat)(q:PT A9k):Rt s_66:=Asf K q.1 q.2.1
def A3n (K:Nat)(q:PT A3m):Rt s_66:=Aqy K q.1 q.2.1 q.2.2.1 q.2.2.2.1 q.2.2.2.2.1 q.2.2.2.2.2.1 q.2.2.2.2.2.2.1 q.2.2.2.2.2.2.2.1 q.2.2.2.2.2.2.2.2.1 q.2.2.2.2.2.2.2.2.2.1 q.2.2.2.2.2.2.2.2.2.2.1 q.2.2.2.2.2.2.2.2.2.2.2.1 q.2.2.2.2.2.2.2.2.2.2.2.2.1 q.2.2.2.2.2.2.2.2.2.2.2.2.2.1 q.2.2.2.2.2.2.2.2.2.2.2.2.2.2.1 q.2.2.2.2.2.2.2.2.2.2.2.2.2.2.2.1
def A4m (K:Nat)(q:PT A4l):Rt s_66:=Ap2 K q.1 q.2.1 q.2.2.1 q.2.2.2.1 q.2.2.2.2.1 q.2.2.2.2.2.1 q.2.2.2.2.2.2.1 q.2.2.2.2.2.2.2.1 q.2.2.2.2.2.2.2.2.1 q.2.2.2.2.2.2.2.2.2.1 q.2.2.2.2.2.2.2.2.2.2.1 q.2.2.2.2.2.2.2.2.2.2.2.1 q.2.2.2.2.2.2.2.2.2.2.2.2.1 q.2.2.2.2.2.2.2.2.2.2.2.2.2.1 q.2.2.2.2.2.2.2.2.2.2.2.2.2.2.1 q.2.2.2.2.2.2.2.2.2.2.2.2.2.2.2.1 q.2.2.2.2.2.2.2.2.2.2.2.2.2.2.2.2.1
theorem Bpm (K:Nat):AtJ (Bio K) [] [] (bd Tryz.f175) 63 (A9l K):=fun q=>by kernel_rfl
theorem Bpn (K:Nat):AtJ (Bio K) [(63,ar A9k (A9l K))] [] (bd Tryz.f175) 31 (A3n K):=fun q=>by kernel_rfl
theorem Bip (K:Nat):AtJ (Bio K) [(31,ar A3m (A3n K))] [] (bd Tryz.f175) 499 (A4m K):=fun q=>by kernel_rfl
theorem Bef (K:Nat):XF [.tmp 4] s_66 91 [31,63,499] (Bio K):=xkF (gC (Bq6 K) (gC (A7t K) gN)) oN
theorem Bpo (K:Nat):CF [.tmp 4] s_66 91 [31,63,499] (bd Tryz.f175) [] 63 (ar A9k (A9l K)):=
 Amf (Bef K) (Bpm K) kN
theorem Beg (K:Nat):CF [.tmp 4] s_66 91 [31,63,499] (bd Tryz.f175) [] 31 (ar A3m (A3n K)):=
 Amf (Bef K) (Bpn K) (kC (Bpo K) kN)
theorem Biq (K:Nat):CF [.tmp 4] s_66 91 [31,63,499] (bd Tryz.f175) [] 499 (ar A4l (A4m K)):=
 Amf (Bef K) (Bip K) (kC (Beg K) kN)
theorem B1k (K:Nat):OkF 175 (B1j K):=
 Aa6 (x:=Bio K) (L:=[(31,ar A3m (A3n K)),(499,ar A4l (A4m K))]) (c0:=bd Tryz.f175) (Bef K) (by intro a0 a1;show @Eq _ _ _;kernel_rfl) (kC (Beg K) (kC (Biq K) kN)) Tryz.func175 trivial
def Azr (K:Nat)(a0:Ba):Option (Ba):=some (Ba.mk 2 a0.C2 0 0 0 0 0 0 [] 0 0 [] [])
def B1l:Sig:=⟨[.v 44],[.n 44 true],true⟩
def B1m (K:Nat):Gb tyU:=⟨B1l,Azr K⟩
def B5z (K:Nat):=xF B1l [] [] 6 [] [] [] [] [.cell 2 44]
theorem B1n (K:Nat):OkF 176 (B1m K):=
 Aa6 (x:=B5z K) (L:=[]) (c0:=bd Tryz.f176) (xkF gN oN) (by intro a0;show @Eq _ _ _;kernel_rfl) kN Tryz.func176 trivial
def Aun (K:Nat)(a0:Eb)(a1:Int):Option (Eb):=(if(0:Int)≤a1∧a1<(a0.fL.length:Int)then((Avn K (gt a0.fL a1) (Aoa .i64 a1 1)).bind fun r1=>(if(0:Int)≤a1∧a1<(a0.fL.length:Int)then((Awq K a0 ((gt a0.fL a1).Ae)).bind fun r2=>((Awr K r2.fL a1).bind fun r3=>(if(0:Int)≤a1∧a1<(r3.length:Int)then(if(0:Int)≤a1∧a1<(r3.length:Int)then((Azr K (gt r3 a1)).bind fun r4=>(if(0:Int)≤a1∧a1<(r3.length:Int)then(if(r2.fQ++([r1]:List Ax)).length*72≤140737488355328∧(r2.fQ++([r1]:List Ax)).length≤maxLen then some (Eb.mk r2.fC r2.fP (r3.set a1.toNat r4) (r2.fQ++([r1]:List Ax)) r2.Pr)else none)else none))else none)else none)))else none))else none)
def B1o:Sig:=⟨[.b 32 false,.v 3],[],false⟩
def B1p (K:Nat):Gb tyU:=⟨B1o,Aun K⟩
def B50 (K:Nat):=xF B1o [(168,B1d K),(169,B1h K),(175,B1j K),(176,B1m K)] [] 58 [] [(0,[.take 1 9 5025]),(1,[.put 1,.take 1 9 5025]),(2,[.take 1 9 5025]),(3,[.opn 3031 (.tmp 1),.takeE 3031 8 41992,.takeE 3031 11 41995,.takeE 3031 12 41996]),(4,[.take 1 10 5026,.frz 20448,.frz 20449])] [(23,[.put 1])] [] []
theorem B1q (K:Nat):OkF 104 (B1p K):=
 Aa6 (x:=B50 K) (L:=[]) (c0:=bd Tryz.f104) (xkF (gC (B1e K) (gC (B1i K) (gC (B1k K) (gC (B1n K) gN)))) oN) (by intro a0 a1;show @Eq _ _ _;kernel_rfl) kN Tryz.func104 trivial
def Ayq (K:Nat)(a0:List Ba)(a1:Int):Option (Int):=((Au5 K a0 a1).bind fun r1=>some (r1.length:Int))
def B1r:Sig:=⟨[.v 29,.v 3],[.v 3],true⟩
def B1s (K:Nat):Gb tyU:=⟨B1r,Ayq K⟩
def B51 (K:Nat):=xF B1r [(224,Bn9 K)] [] 9 [] [] [] [] [.tmp 4]
theorem B1t (K:Nat):OkF 152 (B1s K):=
 Aa6 (x:=B51 K) (L:=[]) (c0:=bd Tryz.f152) (xkF (gC (Bhk K) gN) oN) (by intro a0 a1;show @Eq _ _ _;kernel_rfl) kN Tryz.func152 trivial
def At7 (K:Nat)(a0:Eb)(a1:Ct):Option (Int):=((Arn K a0.fL a1).bind fun r1=>((Ayq K a0.fL r1).bind fun r2=>some r2))
def B1u:Sig:=⟨[.v 32,.v 34],[.v 3],true⟩
def B1v (K:Nat):Gb tyU:=⟨B1u,At7 K⟩
def B52 (K:Nat):=xF B1u [(150,Bvu K),(152,B1s K)] [] 12 [] [] [] [] [.tmp 4]
theorem B1w (K:Nat):OkF 86 (B1v K):=
 Aa6 (x:=B52 K) (L:=[]) (c0:=bd Tryz.f86) (xkF (gC (Bri K) (gC (B1t K) gN)) oN) (by intro a0 a1;show @Eq _ _ _;kernel_rfl) kN Tryz.func86 trivial
def Avo (K:Nat)(a0:Eb)(a1:Ct):Option (Eb×Fh):=((Avf K a0).bind fun r1=>((Avl K a0).bind fun r2=>(bif (!r2)then some (r1,(Fh.mk 1 (Ct.mk 0 0) (Fg.mk (Ct.mk 0 0) 0 0) [] 0 0 0))else((Aum K a0 a1).bind fun r3=>(bif (r3.2==0)then((Aun K r1 r3.1).bind fun r4=>((At7 K a0 a1).bind fun r5=>some (r4,(Fh.mk r3.2 (Ct.mk 0 0) (Fg.mk (Ct.mk 0 0) 0 0) [] r5 0 0))))else((At7 K a0 a1).bind fun r6=>some (r1,(Fh.mk r3.2 (Ct.mk 0 0) (Fg.mk (Ct.mk 0 0) 0 0) [] r6 0 0))))))))
def B1x:Sig:=⟨[.v 32,.v 34],[.n 32 false,.n 69 true],false⟩
def B1y (K:Nat):Gb tyU:=⟨B1x,Avo K⟩
def B53 (K:Nat):=xF B1x [(82,Bzg K),(83,B01 K),(85,B1a K),(86,B1v K),(104,B1p K)] [] 32 [] [(6,[.put 106,.take 106 9 6705,.shal 6705,.take 106 10 6706,.shal 6706]),(7,[.take 106 6 6702,.take 106 7 6703,.take 106 8 6704,.take 106 9 6705,.take 106 10 6706,.take 106 11 6707])] [(24,[.put 106])] [] [.cell 4 32,.cell 5 69]
theorem B1z (K:Nat):OkF 41 (B1y K):=
 Aa6 (x:=B53 K) (L:=[]) (c0:=bd Tryz.f41) (xkF (gC (Bzh K) (gC (B02 K) (gC (B1b K) (gC (B1w K) (gC (B1q K) gN))))) oN) (by intro a0 a1;show @Eq _ _ _;kernel_rfl) kN Tryz.func41 trivial
def Axc (K:Nat)(a0:Ec):Option (Eb):=((Awk K a0.fC).bind fun r1=>((Awl K a0.fP).bind fun r2=>((As1 K a0.fL).bind fun r3=>((Asc K a0.fQ).bind fun r4=>((Ank K a0.Pr).bind fun r5=>some (Eb.mk r1 r2 r3 r4 r5))))))
def B10:Sig:=⟨[.v 52],[.v 32],false⟩
def B11 (K:Nat):Gb tyU:=⟨B10,Axc K⟩
def B54 (K:Nat):=xF B10 [(65,c_9 K),(66,Bu6 K),(67,Bu8 K),(68,Bva K),(69,Be2 K)] [] 25 [] [] [] [] [.cell 2 32]
theorem B12 (K:Nat):OkF 20 (B11 K):=
 Aa6 (x:=B54 K) (L:=[]) (c0:=bd Tryz.f20) (xkF (gC (Byo K) (gC (Bqy K) (gC (Bq1 K) (gC (Bq3 K) (gC (Ba6 K) gN))))) oN) (by intro a0;show @Eq _ _ _;kernel_rfl) kN Tryz.func20 trivial
def Ac1 (K:Nat)(a0:Int)(a1:Int)(a2:Int):Option (Bool):=(bif (decide (a0≥a1))then some (decide (a0≤a2))else some false)
def B13:Sig:=⟨[.v 3,.v 3,.v 3],[.v 4],true⟩
def A68 (K:Nat):Gb tyU:=⟨B13,Ac1 K⟩
def B55 (K:Nat):=xF B13 [] [] 15 [9,10] [] [] [] [.tmp 6]
theorem A1r (K:Nat):OkF 88 (A68 K):=
 Aa6 (x:=B55 K) (L:=[]) (c0:=bd Tryz.f88) (xkF gN oN) (by intro a0 a1 a2;show @Eq _ _ _;kernel_rfl) kN Tryz.func88 trivial
def Ask (K:Nat)(a0:Er):Option (Bool):=((Ac1 K a0.Ae 2 12).bind fun r1=>(bif r1 then((Ac1 K a0.Eg 8 16).bind fun r2=>(bif r2 then((Ac1 K a0.C0 2 8).bind fun r3=>(bif r3 then((Ac1 K a0.E9 1 8).bind fun r4=>(bif r4 then((Ac1 K a0.C1 1 16).bind fun r5=>(bif r5 then((Ac1 K a0.Eh 1 4).bind fun r6=>some r6)else some false))else some false))else some false))else some false))else some false))
def B14:Sig:=⟨[.v 25],[.v 4],true⟩
def Bir (K:Nat):Gb tyU:=⟨B14,Ask K⟩
def B56 (K:Nat):=xF B14 [(88,A68 K)] [] 31 [5,6,9,10,11,14,15,16,19,20,21,24,25,26] [] [] [] [.tmp 2]
theorem Beh (K:Nat):OkF 198 (Bir K):=
 Aa6 (x:=B56 K) (L:=[]) (c0:=bd Tryz.f198) (xkF (gC (A1r K) gN) oN) (by intro a0;show @Eq _ _ _;kernel_rfl) kN Tryz.func198 trivial
def Avp (K:Nat)(a0:Er):Option (Int):=((Ask K a0).bind fun r1=>(bif (!r1)then some 0 else some (Aoc .i64 a0.Ae a0.Eg)))
def B15:Sig:=⟨[.v 25],[.v 3],true⟩
def Bv1 (K:Nat):Gb tyU:=⟨B15,Avp K⟩
def B57 (K:Nat):=xF B15 [(198,Bir K)] [] 11 [] [] [] [] [.tmp 2]
theorem Brl (K:Nat):OkF 123 (Bv1 K):=
 Aa6 (x:=B57 K) (L:=[]) (c0:=bd Tryz.f123) (xkF (gC (Beh K) gN) oN) (by intro a0;show @Eq _ _ _;kernel_rfl) kN Tryz.func123 trivial
def Aq4 (K:Nat)(a0:Dw)(a1:Er)(a2:Int):Option ((List Int)):=(if(0:Int)≤(Aoc .i64 a2 a1.Eg)∧(Aoc .i64 a2 a1.Eg)≤(Aoc .i64 (Aoa .i64 a2 1) a1.Eg)∧(Aoc .i64 (Aoa .i64 a2 1) a1.Eg)≤(a0.Fy.length:Int)then some ((a0.Fy.drop (Aoc .i64 a2 a1.Eg).toNat).take ((Aoc .i64 (Aoa .i64 a2 1) a1.Eg) - (Aoc .i64 a2 a1.Eg)).toNat)else none)
def B16:Sig:=⟨[.v 28,.v 25,.v 3],[.v 22],false⟩
def Bv2 (K:Nat):Gb tyU:=⟨B16,Aq4 K⟩
def B58 (K:Nat):=xF B16 [] [] 19 [] [] [] [] [.tmp 6]
theorem Brm (K:Nat):OkF 227 (Bv2 K):=
 Aa6 (x:=B58 K) (L:=[]) (c0:=bd Tryz.f227) (xkF gN oN) (by intro a0 a1 a2;show @Eq _ _ _;kernel_rfl) kN Tryz.func227 trivial
def Axd (K:Nat)(a0:Int):Option (Bool):=some (a0 != 0)
def B17:Sig:=⟨[.v 5],[.v 4],true⟩
def B18 (K:Nat):Gb tyU:=⟨B17,Axd K⟩
def B59 (K:Nat):=xF B17 [] [] 5 [] [] [] [] [.tmp 2]
theorem B19 (K:Nat):OkF 268 (B18 K):=
 Aa6 (x:=B59 K) (L:=[]) (c0:=bd Tryz.f268) (xkF gN oN) (by intro a0;show @Eq _ _ _;kernel_rfl) kN Tryz.func268 trivial
def Ag9 (K:Nat)(a0:List Int):Nat->Int->Int->Option (Int)
 |0,_,_=>none
 |n1+1,v1,v2=>(bif (decide (v2<v1))then(if(0:Int)≤v2∧v2<(a0.length:Int)then((Axd K (gt a0 v2)).bind fun r3=>(bif r3 then some v2 else(Ag9 K a0 n1 v1 (Aoa .i64 v2 1))))else none)else some (-1))
def Alj (K:Nat)(a0:List Int):Option (Int):=(Ag9 K a0 K (a0.length:Int) 0)
def s_78:Sig:=⟨[.v 22,.f 268 [] []],[.v 3],true⟩
def B2a (K:Nat):Gb tyU:=⟨s_78,Alj K⟩
def Bv3 (K:Nat):=xF s_78 [(268,B18 K)] [] 19 [] [] [] [] [.tmp 4]
def A9m:E5:=⟨[(0,.v 22),(1,.f 268 [] []),(7,.v 2),(8,.v 2)],[]⟩
def A9n (K:Nat)(n:Nat)(q:PT A9m):Rt s_78:=Ag9 K q.1 n q.2.1 q.2.2.1
theorem Bpp (K:Nat):AtL (Bv3 K) (fun n=>[]) [] (bd Tryz.f297) 26 (A9n K):=fun n q=>by kernel_rfl
theorem Brn (K:Nat):XF [.tmp 4] s_78 19 [] (Bv3 K):=xkF (gC (B19 K) gN) oN
theorem Bpq (K:Nat)(n:Nat):CF [.tmp 4] s_78 19 [] (bd Tryz.f297) [] 26 (ar A9m (A9n K n)):=
 Aeh (Brn K) (Bpp K) (fun n=>kN) n
theorem B2b (K:Nat):OkF 297 (B2a K):=
 Aa6 (x:=Bv3 K) (L:=[(26,ar A9m (A9n K K))]) (c0:=bd Tryz.f297) (Brn K) (by intro a0;show @Eq _ _ _;kernel_rfl) (kC (Bpq K K) kN) Tryz.func297 trivial
def Ak3 (K:Nat)(a0:List Int):Option (Bool):=((Alj K a0).bind fun r1=>some (decide (r1≥0)))
def B2c:Sig:=⟨[.v 22,.f 268 [] []],[.v 4],true⟩
def B2d (K:Nat):Gb tyU:=⟨B2c,Ak3 K⟩
def B6a (K:Nat):=xF B2c [(297,B2a K)] [] 9 [] [] [] [] [.tmp 4]
theorem B2e (K:Nat):OkF 267 (B2d K):=
 Aa6 (x:=B6a K) (L:=[]) (c0:=bd Tryz.f267) (xkF (gC (B2b K) gN) oN) (by intro a0;show @Eq _ _ _;kernel_rfl) kN Tryz.func267 trivial
def Asl (K:Nat)(a0:List Int):Option (Bool):=((Ak3 K a0).bind fun r1=>some (!r1))
def B2f:Sig:=⟨[.v 22],[.v 4],true⟩
def Bpr (K:Nat):Gb tyU:=⟨B2f,Asl K⟩
def B6b (K:Nat):=xF B2f [(267,B2d K)] [] 6 [] [] [] [] [.tmp 2]
theorem Bis (K:Nat):OkF 226 (Bpr K):=
 Aa6 (x:=B6b K) (L:=[]) (c0:=bd Tryz.f226) (xkF (gC (B2e K) gN) oN) (by intro a0;show @Eq _ _ _;kernel_rfl) kN Tryz.func226 trivial
def Auo (K:Nat)(v3:List Int)(v4:Int)(v6:List Int)(v7:List Int)(v8:List Int)(v12:Int)(C1:(List Int)->Int->Int->(List Int)->(List Int)->(List Int)->Option (Bool))(v16:Bool):Option (Bool):=(bif v16 then some false else(C1 v3 v4 (Aoa .i64 v12 1) v6 v7 v8))
def Ap3 (K:Nat)(a0:Er)(v3:List Int)(v4:Int)(v5:Int)(v6:List Int)(v7:List Int)(v8:List Int)(C1:(List Int)->Int->Int->(List Int)->(List Int)->(List Int)->Option (Bool))(v11:Int)(v12:Int)(v13:Bool):Option (Bool):=(bif v13 then some false else(bif (v11==0)then((Aq4 K (Dw.mk v6 v7 v8) a0 v5).bind fun r14=>((Asl K r14).bind fun r15=>(Auo K v3 v4 v6 v7 v8 v12 (C1) (!r15))))else(Auo K v3 v4 v6 v7 v8 v12 (C1) false)))
def Ai8 (K:Nat)(a0:Er):Nat->(List Int)->Int->Int->(List Int)->(List Int)->(List Int)->Option (Bool)
 |0,_,_,_,_,_,_=>none
 |n1+1,v3,v4,v5,v6,v7,v8=>(bif (decide (v5<v4))then(if(0:Int)≤v5∧v5<(v3.length:Int)then((Ac1 K (gt v3 v5) 0 2).bind fun r9=>(bif (!r9)then some false else(bif ((gt v3 v5)==1)then(if(0:Int)≤v5∧v5<(v8.length:Int)then((Ac1 K (gt v8 v5) 0 (Aob .i64 a0.C0 1)).bind fun r10=>(bif r10 then(bif ((gt v3 v5) != 1)then(if(0:Int)≤v5∧v5<(v8.length:Int)then(Ap3 K a0 v3 v4 v5 v6 v7 v8 (Ai8 K a0 n1) (gt v3 v5) v5 ((gt v8 v5) != (-1)))else none)else(Ap3 K a0 v3 v4 v5 v6 v7 v8 (Ai8 K a0 n1) (gt v3 v5) v5 false))else(Ap3 K a0 v3 v4 v5 v6 v7 v8 (Ai8 K a0 n1) (gt v3 v5) v5 true)))else none)else(bif ((gt v3 v5) != 1)then(if(0:Int)≤v5∧v5<(v8.length:Int)then(Ap3 K a0 v3 v4 v5 v6 v7 v8 (Ai8 K a0 n1) (gt v3 v5) v5 ((gt v8 v5) != (-1)))else none)else(Ap3 K a0 v3 v4 v5 v6 v7 v8 (Ai8 K a0 n1) (gt v3 v5) v5 false)))))else none)else some true)
def Aws (K:Nat)(a0:Er)(a1:Dw):Option (Bool):=((Ask K a0).bind fun r1=>(bif r1 then((Avp K a0).bind fun r2=>(bif ((a1.Fy.length:Int) != r2)then some false else(bif ((a1.Hh.length:Int) != a0.Ae)then some false else(bif ((a1.Fz.length:Int) != a0.Ae)then some false else(Ai8 K a0 K a1.Hh (a1.Hh.length:Int) 0 a1.Fy a1.Hh a1.Fz)))))else some false))
def s_81:Sig:=⟨[.v 25,.v 28],[.v 4],true⟩
def B2g (K:Nat):Gb tyU:=⟨s_81,Aws K⟩
def Biu (K:Nat):=xF s_81 [(88,A68 K),(123,Bv1 K),(198,Bir K),(226,Bpr K),(227,Bv2 K)] [] 85 [8,9,10,16,17,18,24,25,26,48,49,58,59,60,61,63,64,75,76] [] [] [29899,119599] [.tmp 4]
def Azs:E5:=⟨[(2,.p 102),(3,.p 103),(35,.v 26),(36,.v 2),(37,.v 2),(73,.v 4)],[(103,.box [.v 22,.v 26,.v 26]),(102,.st 25 true)]⟩
def A0x:E5:=⟨[(2,.p 102),(3,.p 103),(5,.v 2),(6,.v 2),(35,.v 26),(36,.v 2),(37,.v 2),(46,.v 4)],[(103,.box [.v 22,.v 26,.v 26]),(102,.st 25 true)]⟩
def Ats:E5:=⟨[(2,.p 102),(3,.p 103),(35,.v 26),(36,.v 2),(37,.v 2)],[(103,.box [.v 22,.v 26,.v 26]),(102,.st 25 true)]⟩
def Azt (K:Nat)(C58:CT Ats s_81)(q:PT Azs):Rt s_81:=Auo K q.1 q.2.1 q.2.2.2.2.1 q.2.2.2.2.2.1 q.2.2.2.2.2.2.1 q.2.2.1 (fun v3 v4 v5 v6 v7 v8=>C58 (v3,v4,v5,v6,v7,v8,q.2.2.2.2.2.2.2.1,())) q.2.2.2.1
def A0y (K:Nat)(C58:CT Ats s_81)(q:PT A0x):Rt s_81:=Ap3 K q.2.2.2.2.2.2.2.2.2.1 q.2.2.1 q.2.2.2.1 q.1 q.2.2.2.2.2.2.1 q.2.2.2.2.2.2.2.1 q.2.2.2.2.2.2.2.2.1 (fun v3 v4 v5 v6 v7 v8=>C58 (v3,v4,v5,v6,v7,v8,q.2.2.2.2.2.2.2.2.2.1,())) q.2.1 q.2.2.2.2.1 q.2.2.2.2.2.1
def A1s (K:Nat)(n:Nat)(q:PT Ats):Rt s_81:=Ai8 K q.2.2.2.2.2.2.1 n q.1 q.2.1 q.2.2.1 q.2.2.2.1 q.2.2.2.2.1 q.2.2.2.2.2.1
theorem Bbb (K:Nat)(C58:CT Ats s_81):AtJ (Biu K) [] [(58,ar Ats C58)] (bd Tryz.f153) 119599 (Azt K C58):=fun q=>by kernel_rfl
theorem Bcy (K:Nat)(C58:CT Ats s_81):AtJ (Biu K) [(119599,ar Azs (Azt K C58))] [(58,ar Ats C58)] (bd Tryz.f153) 29899 (A0y K C58):=fun q=>by kernel_rfl
theorem Bps (K:Nat):AtL (Biu K) (fun n=>[(29899,ar A0x (A0y K (A1s K n)))]) [] (bd Tryz.f153) 58 (A1s K):=fun n q=>by kernel_rfl
theorem Bei (K:Nat):XF [.tmp 4] s_81 85 [29899,119599] (Biu K):=xkF (gC (A1r K) (gC (Brl K) (gC (Beh K) (gC (Bis K) (gC (Brm K) gN))))) oN
theorem Bbc (K:Nat)(C58:CT Ats s_81):CF [.tmp 4] s_81 85 [29899,119599] (bd Tryz.f153) [(58,ar Ats C58)] 119599 (ar Azs (Azt K C58)):=
 Amf (Bei K) (Bbb K C58) kN
theorem Bcz (K:Nat)(C58:CT Ats s_81):CF [.tmp 4] s_81 85 [29899,119599] (bd Tryz.f153) [(58,ar Ats C58)] 29899 (ar A0x (A0y K C58)):=
 Amf (Bei K) (Bcy K C58) (kC (Bbc K C58) kN)
theorem Bpt (K:Nat)(n:Nat):CF [.tmp 4] s_81 85 [29899,119599] (bd Tryz.f153) [] 58 (ar Ats (A1s K n)):=
 Aeh (Bei K) (Bps K) (fun n=>(kC (Bcz K (A1s K n)) kN)) n
theorem B2h (K:Nat):OkF 153 (B2g K):=
 Aa6 (x:=Biu K) (L:=[(58,ar Ats (A1s K K))]) (c0:=bd Tryz.f153) (Bei K) (by intro a0 a1;show @Eq _ _ _;kernel_rfl) (kC (Bpt K K) kN) Tryz.func153 trivial
def Aen (K:Nat)(a0:List Int):Option ((List Int)):=(bif a0.isEmpty then Afd (some []) ((if(([]:List Int)++a0).length*8≤140737488355328∧(([]:List Int)++a0).length≤maxLen then some (([]:List Int)++a0)else none))else(if(([]:List Int)++a0).length*8≤140737488355328∧(([]:List Int)++a0).length≤maxLen then some (([]:List Int)++a0)else none))
def B2i:Sig:=⟨[.v 26],[.n 26 true],true⟩
def Bc0 (K:Nat):Gb tyU:=⟨B2i,Aen K⟩
def B6c (K:Nat):=xF B2i [] [] 8 [] [] [] [] [.tmp 2]
theorem A7v (K:Nat):OkF 160 (Bc0 K):=
 Aa6 (x:=B6c K) (L:=[]) (c0:=bd Tryz.f160) (xkF gN oN) (by intro a0;show @Eq _ _ _;kernel_rfl) kN Tryz.func160 trivial
def Ai1 (K:Nat)(a0:List Int)(a1:List Int):Nat->Int->Int->Option (Bool)
 |0,_,_=>none
 |n1+1,v1,v2=>(bif (decide (v2<v1))then(if(0:Int)≤v2∧v2<(a0.length:Int)then(if(0:Int)≤v2∧v2<(a1.length:Int)then(bif ((gt a0 v2) != (gt a1 v2))then some false else(Ai1 K a0 a1 n1 v1 (Aoa .i64 v2 1)))else none)else none)else some true)
def Ai3 (K:Nat)(a0:List Int)(a1:List Int):Option (Bool):=(bif ((a0.length:Int) != (a1.length:Int))then some false else(Ai1 K a0 a1 K (a0.length:Int) 0))
def s_84:Sig:=⟨[.v 26,.v 26],[.v 4],true⟩
def Bv4 (K:Nat):Gb tyU:=⟨s_84,Ai3 K⟩
def Bv5 (K:Nat):=xF s_84 [] [] 26 [] [] [] [] [.tmp 4]
def A9o:E5:=⟨[(0,.v 26),(1,.v 26),(12,.v 2),(13,.v 2)],[]⟩
def A9p (K:Nat)(n:Nat)(q:PT A9o):Rt s_84:=Ai1 K q.1 q.2.1 n q.2.2.1 q.2.2.2.1
theorem Bpu (K:Nat):AtL (Bv5 K) (fun n=>[]) [] (bd Tryz.f229) 58 (A9p K):=fun n q=>by kernel_rfl
theorem Bro (K:Nat):XF [.tmp 4] s_84 26 [] (Bv5 K):=xkF gN oN
theorem Bpv (K:Nat)(n:Nat):CF [.tmp 4] s_84 26 [] (bd Tryz.f229) [] 58 (ar A9o (A9p K n)):=
 Aeh (Bro K) (Bpu K) (fun n=>kN) n
theorem Brp (K:Nat):OkF 229 (Bv4 K):=
 Aa6 (x:=Bv5 K) (L:=[(58,ar A9o (A9p K K))]) (c0:=bd Tryz.f229) (Bro K) (by intro a0 a1;show @Eq _ _ _;kernel_rfl) (kC (Bpv K K) kN) Tryz.func229 trivial
def An6 (K:Nat)(a0:List A9)(a1:List A9):Nat->Int->Int->Option (Bool)
 |0,_,_=>none
 |n1+1,v1,v2=>(bif (decide (v2<v1))then(if(0:Int)≤v2∧v2<(a0.length:Int)then(if(0:Int)≤v2∧v2<(a1.length:Int)then(bif (!((((gt a0 v2).fAt)==((gt a1 v2).fAt))&&((((gt a0 v2).Vu)==((gt a1 v2).Vu))&&((((gt a0 v2).Vv)==((gt a1 v2).Vv))&&true))))then some false else(An6 K a0 a1 n1 v1 (Aoa .i64 v2 1)))else none)else none)else some true)
def Al3 (K:Nat)(a0:List A9)(a1:List A9):Option (Bool):=(bif ((a0.length:Int) != (a1.length:Int))then some false else(An6 K a0 a1 K (a0.length:Int) 0))
def s_85:Sig:=⟨[.v 41,.v 41],[.v 4],true⟩
def B2j (K:Nat):Gb tyU:=⟨s_85,Al3 K⟩
def Bv6 (K:Nat):=xF s_85 [] [] 26 [] [] [] [] [.tmp 4]
def A9q:E5:=⟨[(0,.v 41),(1,.v 41),(12,.v 2),(13,.v 2)],[]⟩
def A9r (K:Nat)(n:Nat)(q:PT A9q):Rt s_85:=An6 K q.1 q.2.1 n q.2.2.1 q.2.2.2.1
theorem Bpw (K:Nat):AtL (Bv6 K) (fun n=>[]) [] (bd Tryz.f309) 58 (A9r K):=fun n q=>by kernel_rfl
theorem Brq (K:Nat):XF [.tmp 4] s_85 26 [] (Bv6 K):=xkF gN oN
theorem Bpx (K:Nat)(n:Nat):CF [.tmp 4] s_85 26 [] (bd Tryz.f309) [] 58 (ar A9q (A9r K n)):=
 Aeh (Brq K) (Bpw K) (fun n=>kN) n
theorem B2k (K:Nat):OkF 309 (B2j K):=
 Aa6 (x:=Bv6 K) (L:=[(58,ar A9q (A9r K K))]) (c0:=bd Tryz.f309) (Brq K) (by intro a0 a1;show @Eq _ _ _;kernel_rfl) (kC (Bpx K K) kN) Tryz.func309 trivial
def Axe (K:Nat)(a0:Ba)(a1:Ba):Option (Bool):=(bif (a0.Hh==a1.Hh)then(bif (a0.C2==a1.C2)then(bif (a0.Ly==a1.Ly)then(bif (a0.fUp==a1.fUp)then(bif (a0.Gq==a1.Gq)then(bif (a0.Bt==a1.Bt)then(bif (a0.Gr==a1.Gr)then(bif (a0.Gs==a1.Gs)then((Ai3 K a0.Ae a1.Ae).bind fun r1=>(bif r1 then(bif (a0.Pq==a1.Pq)then(bif (a0.Gt==a1.Gt)then((Al3 K a0.Ea a1.Ea).bind fun r2=>(bif r2 then((Ai3 K a0.Dg a1.Dg).bind fun r3=>some r3)else some false))else some false)else some false)else some false))else some false)else some false)else some false)else some false)else some false)else some false)else some false)else some false)
def B2l:Sig:=⟨[.v 44,.v 44],[.v 4],true⟩
def B2m (K:Nat):Gb tyU:=⟨B2l,Axe K⟩
def B6d (K:Nat):=xF B2l [(229,Bv4 K),(309,B2j K)] [] 94 [9,10,15,16,17,22,23,24,29,30,31,36,37,38,43,44,45,50,51,52,57,58,59,64,65,66,71,72,73,78,79,80,85,86,87] [] [] [] [.tmp 4]
theorem B2n (K:Nat):OkF 274 (B2m K):=
 Aa6 (x:=B6d K) (L:=[]) (c0:=bd Tryz.f274) (xkF (gC (Brp K) (gC (B2k K) gN)) oN) (by intro a0 a1;show @Eq _ _ _;kernel_rfl) kN Tryz.func274 trivial
def Ayj (K:Nat)(a0:Ba):Option (Bool):=((Axe K a0 (Ba.mk a0.Hh a0.C2 0 0 0 0 0 0 ([]:List Int) 0 0 ([]:List A9) ([]:List Int))).bind fun r1=>some r1)
def B2o:Sig:=⟨[.v 44],[.v 4],true⟩
def B2p (K:Nat):Gb tyU:=⟨B2o,Ayj K⟩
def B6e (K:Nat):=xF B2o [(274,B2m K)] [] 10 [] [] [] [] [.tmp 2]
theorem B2q (K:Nat):OkF 239 (B2p K):=
 Aa6 (x:=B6e K) (L:=[]) (c0:=bd Tryz.f239) (xkF (gC (B2n K) gN) oN) (by intro a0;show @Eq _ _ _;kernel_rfl) kN Tryz.func239 trivial
def An2 (K:Nat)(a0:List Int)(a1:Int):Nat->Int->Int->Option (Int)
 |0,_,_=>none
 |n1+1,v1,v2=>(bif (decide (v2<v1))then(if(0:Int)≤v2∧v2<(a0.length:Int)then(bif (a1==(gt a0 v2))then some v2 else(An2 K a0 a1 n1 v1 (Aoa .i64 v2 1)))else none)else some (-1))
def Au2 (K:Nat)(a0:List Int)(a1:Int):Option (Int):=(An2 K a0 a1 K (a0.length:Int) 0)
def s_88:Sig:=⟨[.v 26,.v 3],[.v 3],true⟩
def B2r (K:Nat):Gb tyU:=⟨s_88,Au2 K⟩
def Bv7 (K:Nat):=xF s_88 [] [] 19 [] [] [] [] [.tmp 4]
def A9s:E5:=⟨[(0,.v 26),(1,.v 2),(7,.v 2),(8,.v 2)],[]⟩
def A9t (K:Nat)(n:Nat)(q:PT A9s):Rt s_88:=An2 K q.1 q.2.1 n q.2.2.1 q.2.2.2.1
theorem Bpy (K:Nat):AtL (Bv7 K) (fun n=>[]) [] (bd Tryz.f126) 26 (A9t K):=fun n q=>by kernel_rfl
theorem Brr (K:Nat):XF [.tmp 4] s_88 19 [] (Bv7 K):=xkF gN oN
theorem Bpz (K:Nat)(n:Nat):CF [.tmp 4] s_88 19 [] (bd Tryz.f126) [] 26 (ar A9s (A9t K n)):=
 Aeh (Brr K) (Bpy K) (fun n=>kN) n
theorem B2s (K:Nat):OkF 126 (B2r K):=
 Aa6 (x:=Bv7 K) (L:=[(26,ar A9s (A9t K K))]) (c0:=bd Tryz.f126) (Brr K) (by intro a0 a1;show @Eq _ _ _;kernel_rfl) (kC (Bpz K K) kN) Tryz.func126 trivial
def Ani (K:Nat)(a0:List Int)(a1:Int):Option (Bool):=((Au2 K a0 a1).bind fun r1=>some (decide (r1≥0)))
def B2t:Sig:=⟨[.v 26,.v 3],[.v 4],true⟩
def Bp0 (K:Nat):Gb tyU:=⟨B2t,Ani K⟩
def B6f (K:Nat):=xF B2t [(126,B2r K)] [] 9 [] [] [] [] [.tmp 4]
theorem Biv (K:Nat):OkF 57 (Bp0 K):=
 Aa6 (x:=B6f K) (L:=[]) (c0:=bd Tryz.f57) (xkF (gC (B2s K) gN) oN) (by intro a0 a1;show @Eq _ _ _;kernel_rfl) kN Tryz.func57 trivial
def Apb (K:Nat)(a0:Er)(a1:List Int):Nat->(List Int)->Int->Int->Option (Bool)
 |0,_,_,_=>none
 |n1+1,v1,v2,v3=>(bif (decide (v3<v2))then(if(0:Int)≤v3∧v3<(v1.length:Int)then((Ac1 K (gt v1 v3) 0 (Aob .i64 a0.Ae 1)).bind fun r4=>(bif r4 then(if(0:Int)≤0∧0≤v3∧v3≤(a1.length:Int)then((Ani K ((a1.drop (0:Int).toNat).take (v3 - 0).toNat) (gt v1 v3)).bind fun r5=>(bif r5 then some false else(Apb K a0 a1 n1 v1 v2 (Aoa .i64 v3 1))))else none)else some false))else none)else some true)
def Asg (K:Nat)(a0:Er)(a1:List Int):Option (Bool):=(Apb K a0 a1 K a1 (a1.length:Int) 0)
def s_90:Sig:=⟨[.v 25,.v 26],[.v 4],true⟩
def Bv8 (K:Nat):Gb tyU:=⟨s_90,Asg K⟩
def Bv9 (K:Nat):=xF s_90 [(57,Bp0 K),(88,A68 K)] [] 28 [18,19,20] [] [] [] [.tmp 4]
def A9u:E5:=⟨[(1,.v 26),(2,.p 102),(7,.v 26),(8,.v 2),(9,.v 2)],[(102,.st 25 true)]⟩
def A9v (K:Nat)(n:Nat)(q:PT A9u):Rt s_90:=Apb K q.2.2.2.2.1 q.1 n q.2.1 q.2.2.1 q.2.2.2.1
theorem Bp1 (K:Nat):AtL (Bv9 K) (fun n=>[]) [] (bd Tryz.f240) 26 (A9v K):=fun n q=>by kernel_rfl
theorem Brs (K:Nat):XF [.tmp 4] s_90 28 [] (Bv9 K):=xkF (gC (Biv K) (gC (A1r K) gN)) oN
theorem Bp2 (K:Nat)(n:Nat):CF [.tmp 4] s_90 28 [] (bd Tryz.f240) [] 26 (ar A9u (A9v K n)):=
 Aeh (Brs K) (Bp1 K) (fun n=>kN) n
theorem Brt (K:Nat):OkF 240 (Bv8 K):=
 Aa6 (x:=Bv9 K) (L:=[(26,ar A9u (A9v K K))]) (c0:=bd Tryz.f240) (Brs K) (by intro a0 a1;show @Eq _ _ _;kernel_rfl) (kC (Bp2 K K) kN) Tryz.func240 trivial
def Ast (K:Nat)(a0:Int):Option (Bool):=((Ac1 K a0 0 255).bind fun r1=>some (!r1))
def B2u:Sig:=⟨[.v 3],[.v 4],true⟩
def B2v (K:Nat):Gb tyU:=⟨B2u,Ast K⟩
def B6g (K:Nat):=xF B2u [(88,A68 K)] [] 6 [] [] [] [] [.tmp 2]
theorem B2w (K:Nat):OkF 237 (B2v K):=
 Aa6 (x:=B6g K) (L:=[]) (c0:=bd Tryz.f237) (xkF (gC (A1r K) gN) oN) (by intro a0;show @Eq _ _ _;kernel_rfl) kN Tryz.func237 trivial
def Ag5 (K:Nat)(a0:List Int):Nat->Int->Int->Option (Int)
 |0,_,_=>none
 |n1+1,v1,v2=>(bif (decide (v2<v1))then(if(0:Int)≤v2∧v2<(a0.length:Int)then((Ast K (gt a0 v2)).bind fun r3=>(bif r3 then some v2 else(Ag5 K a0 n1 v1 (Aoa .i64 v2 1))))else none)else some (-1))
def Alc (K:Nat)(a0:List Int):Option (Int):=(Ag5 K a0 K (a0.length:Int) 0)
def s_92:Sig:=⟨[.v 26,.f 237 [] []],[.v 3],true⟩
def B2x (K:Nat):Gb tyU:=⟨s_92,Alc K⟩
def Bwa (K:Nat):=xF s_92 [(237,B2v K)] [] 19 [] [] [] [] [.tmp 4]
def A9w:E5:=⟨[(0,.v 26),(1,.f 237 [] []),(7,.v 2),(8,.v 2)],[]⟩
def A9x (K:Nat)(n:Nat)(q:PT A9w):Rt s_92:=Ag5 K q.1 n q.2.1 q.2.2.1
theorem Bp3 (K:Nat):AtL (Bwa K) (fun n=>[]) [] (bd Tryz.f272) 26 (A9x K):=fun n q=>by kernel_rfl
theorem Bru (K:Nat):XF [.tmp 4] s_92 19 [] (Bwa K):=xkF (gC (B2w K) gN) oN
theorem Bp4 (K:Nat)(n:Nat):CF [.tmp 4] s_92 19 [] (bd Tryz.f272) [] 26 (ar A9w (A9x K n)):=
 Aeh (Bru K) (Bp3 K) (fun n=>kN) n
theorem B2y (K:Nat):OkF 272 (B2x K):=
 Aa6 (x:=Bwa K) (L:=[(26,ar A9w (A9x K K))]) (c0:=bd Tryz.f272) (Bru K) (by intro a0;show @Eq _ _ _;kernel_rfl) (kC (Bp4 K K) kN) Tryz.func272 trivial
def Ajb (K:Nat)(a0:List Int):Option (Bool):=((Alc K a0).bind fun r1=>some (decide (r1≥0)))
def B2z:Sig:=⟨[.v 26,.f 237 [] []],[.v 4],true⟩
def B20 (K:Nat):Gb tyU:=⟨B2z,Ajb K⟩
def B6h (K:Nat):=xF B2z [(272,B2x K)] [] 9 [] [] [] [] [.tmp 4]
theorem B21 (K:Nat):OkF 236 (B20 K):=
 Aa6 (x:=B6h K) (L:=[]) (c0:=bd Tryz.f236) (xkF (gC (B2y K) gN) oN) (by intro a0;show @Eq _ _ _;kernel_rfl) kN Tryz.func236 trivial
def Aqz (K:Nat)(a0:List Int):Option (Bool):=((Ajb K a0).bind fun r1=>some (!r1))
def B22:Sig:=⟨[.v 26],[.v 4],true⟩
def Bp5 (K:Nat):Gb tyU:=⟨B22,Aqz K⟩
def B6i (K:Nat):=xF B22 [(236,B20 K)] [] 6 [] [] [] [] [.tmp 2]
theorem Biw (K:Nat):OkF 157 (Bp5 K):=
 Aa6 (x:=B6i K) (L:=[]) (c0:=bd Tryz.f157) (xkF (gC (B21 K) gN) oN) (by intro a0;show @Eq _ _ _;kernel_rfl) kN Tryz.func157 trivial
def Azu (K:Nat)(a0:Er)(a1:Int):Option (Bool):=some (decide (a1>a0.Eg))
def B23:Sig:=⟨[.v 25,.v 3],[.v 4],true⟩
def B24 (K:Nat):Gb tyU:=⟨B23,Azu K⟩
def B6j (K:Nat):=xF B23 [] [] 9 [] [] [] [] [.tmp 4]
theorem B25 (K:Nat):OkF 124 (B24 K):=
 Aa6 (x:=B6j K) (L:=[]) (c0:=bd Tryz.f124) (xkF gN oN) (by intro a0 a1;show @Eq _ _ _;kernel_rfl) kN Tryz.func124 trivial
def Azv (K:Nat)(a0:Int)(a1:Int):Option (Int):=((Ac1 K a0 0 1000000000).bind fun r1=>(bif r1 then((Ac1 K a1 1 1000000000).bind fun r2=>(bif (!r2)then some 0 else(if a1≠(0:Int)then some (Alr .i64 (Aob .i64 (Aoa .i64 a0 a1) 1) a1)else none)))else some 0))
def B26:Sig:=⟨[.v 3,.v 3],[.v 3],true⟩
def B27 (K:Nat):Gb tyU:=⟨B26,Azv K⟩
def B6k (K:Nat):=xF B26 [(88,A68 K)] [] 19 [6,7,8] [] [] [] [.tmp 4]
theorem B28 (K:Nat):OkF 199 (B27 K):=
 Aa6 (x:=B6k K) (L:=[]) (c0:=bd Tryz.f199) (xkF (gC (A1r K) gN) oN) (by intro a0 a1;show @Eq _ _ _;kernel_rfl) kN Tryz.func199 trivial
def Ayx (K:Nat)(a0:Er)(a1:Int):Option (Int):=((Azv K a1 a0.Eg).bind fun r1=>some r1)
def B29:Sig:=⟨[.v 25,.v 3],[.v 3],true⟩
def B3a (K:Nat):Gb tyU:=⟨B29,Ayx K⟩
def B6l (K:Nat):=xF B29 [(199,B27 K)] [] 9 [] [] [] [] [.tmp 4]
theorem B3b (K:Nat):OkF 125 (B3a K):=
 Aa6 (x:=B6l K) (L:=[]) (c0:=bd Tryz.f125) (xkF (gC (B28 K) gN) oN) (by intro a0 a1;show @Eq _ _ _;kernel_rfl) kN Tryz.func125 trivial
def Arq (K:Nat)(a0:Er)(a1:A9):Option (Bool):=((Avp K a0).bind fun r1=>(bif (decide (a1.Vu≤0))then some false else(bif (decide (a1.fAt<0))then some false else(bif (decide (a1.Vu>r1))then some false else(bif (decide (a1.fAt>(Aob .i64 r1 a1.Vu)))then some false else(bif (a1.Vv==0)then(bif (decide (a1.Vu≤a0.Eg))then(if a0.Eg≠(0:Int)then(if a0.Eg≠(0:Int)then some ((Alr .i64 a1.fAt a0.Eg)==(Alr .i64 (Aob .i64 (Aoa .i64 a1.fAt a1.Vu) 1) a0.Eg))else none)else none)else some false)else((Azu K a0 a1.Vu).bind fun r2=>(bif r2 then((Ayx K a0 a1.Vu).bind fun r3=>(bif (a1.Vv==r3)then(if a0.Eg≠(0:Int)then some ((Int.tmod a1.fAt a0.Eg)==0)else none)else some false))else some false))))))))
def B3c:Sig:=⟨[.v 25,.v 89],[.v 4],true⟩
def Bwb (K:Nat):Gb tyU:=⟨B3c,Arq K⟩
def B6m (K:Nat):=xF B3c [(123,Bv1 K),(124,B24 K),(125,B3a K)] [] 77 [10,11,14,15,16,20,21,22,38,39,59,60,67,68,69] [] [] [] [.tmp 4]
theorem Brv (K:Nat):OkF 56 (Bwb K):=
 Aa6 (x:=B6m K) (L:=[]) (c0:=bd Tryz.f56) (xkF (gC (Brl K) (gC (B25 K) (gC (B3b K) gN))) oN) (by intro a0 a1;show @Eq _ _ _;kernel_rfl) kN Tryz.func56 trivial
def Aup (K:Nat)(a0:A9)(a1:Er):Option (Bool):=((Arq K a1 a0).bind fun r1=>some (!r1))
def B3d:Sig:=⟨[.v 89,.r 25],[.v 4],true⟩
def B3e (K:Nat):Gb tyU:=⟨B3d,Aup K⟩
def B6n (K:Nat):=xF B3d [(56,Bwb K)] [] 8 [] [] [] [] [.tmp 3]
theorem B3f (K:Nat):OkF 241 (B3e K):=
 Aa6 (x:=B6n K) (L:=[]) (c0:=bd Tryz.f241) (xkF (gC (Brv K) gN) oN) (by intro a0 a1;show @Eq _ _ _;kernel_rfl) kN Tryz.func241 trivial
def Ae9 (K:Nat)(a0:List A9)(a1_0:Er):Nat->Int->Int->Option (Int)
 |0,_,_=>none
 |n1+1,v1,v2=>(bif (decide (v2<v1))then(if(0:Int)≤v2∧v2<(a0.length:Int)then((Aup K (gt a0 v2) a1_0).bind fun r3=>(bif r3 then some v2 else(Ae9 K a0 a1_0 n1 v1 (Aoa .i64 v2 1))))else none)else some (-1))
def Aou (K:Nat)(a0:List A9)(a1_0:Er):Option (Int):=(Ae9 K a0 a1_0 K (a0.length:Int) 0)
def s_100:Sig:=⟨[.v 41,.f 241 [] [25]],[.v 3],true⟩
def Brw (K:Nat):Gb tyU:=⟨s_100,Aou K⟩
def Bix (K:Nat):=xF s_100 [(241,B3e K)] [] 19 [] [] [] [] [.tmp 4]
def A4n:E5:=⟨[(0,.v 41),(1,.f 241 [] [25]),(7,.v 2),(8,.v 2)],[]⟩
def A4o (K:Nat)(n:Nat)(q:PT A4n):Rt s_100:=Ae9 K q.1 q.2.1 n q.2.2.1 q.2.2.2.1
theorem Biy (K:Nat):AtL (Bix K) (fun n=>[]) [] (bd Tryz.f122) 26 (A4o K):=fun n q=>by kernel_rfl
theorem Biz (K:Nat):XF [.tmp 4] s_100 19 [] (Bix K):=xkF (gC (B3f K) gN) oN
theorem Bi0 (K:Nat)(n:Nat):CF [.tmp 4] s_100 19 [] (bd Tryz.f122) [] 26 (ar A4n (A4o K n)):=
 Aeh (Biz K) (Biy K) (fun n=>kN) n
theorem Bwc (K:Nat):OkF 122 (Brw K):=
 Aa6 (x:=Bix K) (L:=[(26,ar A4n (A4o K K))]) (c0:=bd Tryz.f122) (Biz K) (by intro a0 a1_0;show @Eq _ _ _;kernel_rfl) (kC (Bi0 K K) kN) Tryz.func122 trivial
def Aiq (K:Nat)(a0:List A9)(a1_0:Er):Option (Bool):=((Aou K a0 a1_0).bind fun r1=>some (decide (r1≥0)))
def Brx:Sig:=⟨[.v 41,.f 241 [] [25]],[.v 4],true⟩
def Bry (K:Nat):Gb tyU:=⟨Brx,Aiq K⟩
def B3g (K:Nat):=xF Brx [(122,Brw K)] [] 9 [] [] [] [] [.tmp 4]
theorem Bwd (K:Nat):OkF 54 (Bry K):=
 Aa6 (x:=B3g K) (L:=[]) (c0:=bd Tryz.f54) (xkF (gC (Bwc K) gN) oN) (by intro a0 a1_0;show @Eq _ _ _;kernel_rfl) kN Tryz.func54 trivial
def Ap4 (K:Nat)(a0:Er)(v19:List A9)(v20:List Int):Option (Bool):=(bif (decide ((v19.length:Int)≤12))then(bif (decide ((v20.length:Int)≤6))then((Aqz K v20).bind fun r25=>(bif r25 then((Aiq K v19 a0).bind fun r26=>some (!r26))else some false))else some false)else some false)
def Apj (K:Nat)(a0:Er):Nat->(List Int)->Int->Int->Int->Int->Int->Int->Int->Int->Int->Int->(List Int)->Int->Int->(List A9)->(List Int)->Option (Bool)
 |0,_,_,_,_,_,_,_,_,_,_,_,_,_,_,_,_=>none
 |n1+1,v5,v6,v7,v8,v9,v10,v11,v12,v13,v14,v15,v16,v17,v18,v19,v20=>(bif (decide (v7<v6))then(if(0:Int)≤v7∧v7<(v5.length:Int)then((Ac1 K (gt v5 v7) 0 a0.C0).bind fun r21=>(bif (!r21)then some false else(Apj K a0 n1 v5 v6 (Aoa .i64 v7 1) v8 v9 v10 v11 v12 v13 v14 v15 v16 v17 v18 v19 v20)))else none)else(bif (decide (v10<0))then some false else(bif (decide (v12<0))then some false else((Asg K a0 v16).bind fun r22=>(bif r22 then(bif (v17 != 0)then((Ani K v16 (Aob .i64 v17 1)).bind fun r23=>(bif r23 then((Ac1 K v18 0 a0.Eg).bind fun r24=>(bif r24 then(bif (v17==0)then(bif (v18 != 0)then some false else(Ap4 K a0 v19 v20))else(Ap4 K a0 v19 v20))else some false))else some false))else((Ac1 K v18 0 a0.Eg).bind fun r27=>(bif r27 then(bif (v17==0)then(bif (v18 != 0)then some false else(Ap4 K a0 v19 v20))else(Ap4 K a0 v19 v20))else some false)))else some false)))))
def Awt (K:Nat)(a0:Er)(a1:Ba):Option (Bool):=((Ask K a0).bind fun r1=>(bif r1 then((Ac1 K a1.Hh 0 3).bind fun r2=>(bif r2 then((Ac1 K a1.C2 1 a0.Eh).bind fun r3=>(bif (!r3)then some false else(bif (a1.Hh != 1)then((Ayj K a1).bind fun r4=>some r4)else(Apj K a0 K ([a1.fUp,a1.Bt,a1.Gr,a1.Gs]:List Int) (([a1.fUp,a1.Bt,a1.Gr,a1.Gs]:List Int).length:Int) 0 a1.Hh a1.C2 a1.Ly a1.fUp a1.Gq a1.Bt a1.Gr a1.Gs a1.Ae a1.Pq a1.Gt a1.Ea a1.Dg))))else some false))else some false))
def s_102:Sig:=⟨[.v 25,.v 44],[.v 4],true⟩
def Brz (K:Nat):Gb tyU:=⟨s_102,Awt K⟩
def Bej (K:Nat):=xF s_102 [(54,Bry K),(57,Bp0 K),(88,A68 K),(157,Bp5 K),(198,Bir K),(239,B2p K),(240,Bv8 K)] [] 118 [8,9,10,13,14,15,16,51,52,55,56,57,61,62,63,64,67,68,74,75,76,77,78,83,84,85,86,89,90,99,100,104,105,106,109,110,111] [(13,[.frzB 102 25])] [] [31] [.tmp 4]
def A4p:E5:=⟨[(2,.p 102),(3,.p 103)],[(103,.box [.v 2,.v 2,.v 2,.v 2,.v 2,.v 2,.v 2,.v 2,.v 26,.v 2,.v 2,.v 41,.v 26]),(102,.st 25 true)]⟩
def A2q:E5:=⟨[(2,.p 102),(3,.p 103),(37,.v 26),(38,.v 2),(39,.v 2)],[(103,.box [.v 2,.v 2,.v 2,.v 2,.v 2,.v 2,.v 2,.v 2,.v 26,.v 2,.v 2,.v 41,.v 26]),(102,.st 25 true)]⟩
def A4q (K:Nat)(q:PT A4p):Rt s_102:=Ap4 K q.2.2.2.2.2.2.2.2.2.2.2.2.2.1 q.2.2.2.2.2.2.2.2.2.2.2.1 q.2.2.2.2.2.2.2.2.2.2.2.2.1
def A2r (K:Nat)(n:Nat)(q:PT A2q):Rt s_102:=Apj K q.2.2.2.2.2.2.2.2.2.2.2.2.2.2.2.2.1 n q.1 q.2.1 q.2.2.1 q.2.2.2.1 q.2.2.2.2.1 q.2.2.2.2.2.1 q.2.2.2.2.2.2.1 q.2.2.2.2.2.2.2.1 q.2.2.2.2.2.2.2.2.1 q.2.2.2.2.2.2.2.2.2.1 q.2.2.2.2.2.2.2.2.2.2.1 q.2.2.2.2.2.2.2.2.2.2.2.1 q.2.2.2.2.2.2.2.2.2.2.2.2.1 q.2.2.2.2.2.2.2.2.2.2.2.2.2.1 q.2.2.2.2.2.2.2.2.2.2.2.2.2.2.1 q.2.2.2.2.2.2.2.2.2.2.2.2.2.2.2.1
theorem Bi1 (K:Nat):AtJ (Bej K) [] [] (bd Tryz.f167) 31 (A4q K):=fun q=>by kernel_rfl
theorem Bfn (K:Nat):AtL (Bej K) (fun n=>[(31,ar A4p (A4q K))]) [] (bd Tryz.f167) 122 (A2r K):=fun n q=>by kernel_rfl
theorem Bc1 (K:Nat):XF [.tmp 4] s_102 118 [31] (Bej K):=xkF (gC (Bwd K) (gC (Biv K) (gC (A1r K) (gC (Biw K) (gC (Beh K) (gC (B2q K) (gC (Brt K) gN))))))) oN
theorem Bi2 (K:Nat):CF [.tmp 4] s_102 118 [31] (bd Tryz.f167) [] 31 (ar A4p (A4q K)):=
 Amf (Bc1 K) (Bi1 K) kN
theorem Bfo (K:Nat)(n:Nat):CF [.tmp 4] s_102 118 [31] (bd Tryz.f167) [] 122 (ar A2q (A2r K n)):=
 Aeh (Bc1 K) (Bfn K) (fun n=>(kC (Ao2 (by kernel_rfl) (Bi2 K)) kN)) n
theorem Bwe (K:Nat):OkF 167 (Brz K):=
 Aa6 (x:=Bej K) (L:=[(122,ar A2q (A2r K K))]) (c0:=bd Tryz.f167) (Bc1 K) (by intro a0 a1;show @Eq _ _ _;kernel_rfl) (kC (Bfo K K) kN) Tryz.func167 trivial
def Arr (K:Nat)(v2:Int)(v3:Int)(v4:List Int)(v5:List Int)(v6:List Int)(C1:(List Int)->Int->Int->(List Int)->(List Int)->(List Int)->Option ((List Int)))(v7:List Int):Option ((List Int)):=(C1 v7 v2 (Aoa .i64 v3 1) v4 v5 v6)
def Alo (K:Nat)(a1:Int):Nat->(List Int)->Int->Int->(List Int)->(List Int)->(List Int)->Option ((List Int))
 |0,_,_,_,_,_,_=>none
 |n1+1,v1,v2,v3,v4,v5,v6=>(bif (decide (v3<v2))then(if(0:Int)≤v3∧v3<(v5.length:Int)then(bif ((gt v5 v3)==1)then(if(0:Int)≤v3∧v3<(v6.length:Int)then(bif ((gt v6 v3)==a1)then(if(v1++([v3]:List Int)).length*8≤140737488355328∧(v1++([v3]:List Int)).length≤maxLen then(Arr K v2 v3 v4 v5 v6 (Alo K a1 n1) (v1++([v3]:List Int)))else none)else(Arr K v2 v3 v4 v5 v6 (Alo K a1 n1) v1))else none)else(Arr K v2 v3 v4 v5 v6 (Alo K a1 n1) v1))else none)else some v1)
def Avq (K:Nat)(a0:Dw)(a1:Int):Option ((List Int)):=(Alo K a1 K ([]:List Int) (Aaf (a0.Hh.length:Int) (a0.Fz.length:Int)) 0 a0.Fy a0.Hh a0.Fz)
def s_103:Sig:=⟨[.v 28,.v 3],[.n 26 true],true⟩
def Br0 (K:Nat):Gb tyU:=⟨s_103,Avq K⟩
def Bek (K:Nat):=xF s_103 [] [] 39 [23,24] [] [] [467] [.tmp 4]
def A2s:E5:=⟨[(1,.v 2),(2,.p 102),(5,.o 1005 3 true),(14,.v 2),(15,.v 2)],[(102,.box [.v 22,.v 26,.v 26])]⟩
def Aw5:E5:=⟨[(1,.v 2),(2,.p 102),(5,.o 1005 3 true),(14,.v 2),(15,.v 2)],[(102,.box [.v 22,.v 26,.v 26])]⟩
def A2t (K:Nat)(C58:CT Aw5 s_103)(q:PT A2s):Rt s_103:=Arr K q.2.2.1 q.2.2.2.1 q.2.2.2.2.1 q.2.2.2.2.2.1 q.2.2.2.2.2.2.1 (fun v1 v2 v3 v4 v5 v6=>C58 (q.1,v1,v2,v3,v4,v5,v6,())) q.2.1
def Azw (K:Nat)(n:Nat)(q:PT Aw5):Rt s_103:=Alo K q.1 n q.2.1 q.2.2.1 q.2.2.2.1 q.2.2.2.2.1 q.2.2.2.2.2.1 q.2.2.2.2.2.2.1
theorem Bfp (K:Nat)(C58:CT Aw5 s_103):AtJ (Bek K) [] [(58,ar Aw5 C58)] (bd Tryz.f16) 467 (A2t K C58):=fun q=>by kernel_rfl
theorem Bi3 (K:Nat):AtL (Bek K) (fun n=>[(467,ar A2s (A2t K (Azw K n)))]) [] (bd Tryz.f16) 58 (Azw K):=fun n q=>by kernel_rfl
theorem Bc2 (K:Nat):XF [.tmp 4] s_103 39 [467] (Bek K):=xkF gN oN
theorem Bfq (K:Nat)(C58:CT Aw5 s_103):CF [.tmp 4] s_103 39 [467] (bd Tryz.f16) [(58,ar Aw5 C58)] 467 (ar A2s (A2t K C58)):=
 Amf (Bc2 K) (Bfp K C58) kN
theorem Bi4 (K:Nat)(n:Nat):CF [.tmp 4] s_103 39 [467] (bd Tryz.f16) [] 58 (ar Aw5 (Azw K n)):=
 Aeh (Bc2 K) (Bi3 K) (fun n=>(kC (Bfq K (Azw K n)) kN)) n
theorem Bwf (K:Nat):OkF 16 (Br0 K):=
 Aa6 (x:=Bek K) (L:=[(58,ar Aw5 (Azw K K))]) (c0:=bd Tryz.f16) (Bc2 K) (by intro a0 a1;show @Eq _ _ _;kernel_rfl) (kC (Bi4 K K) kN) Tryz.func16 trivial
def Al4 (K:Nat)(a0:A9)(a1:Er)(a2:Ba):Nat->Int->Option (Bool)
 |0,_=>none
 |n1+1,v2=>(if a1.Eg≠(0:Int)then(bif (decide (v2≤(Alr .i64 (Aob .i64 (Aoa .i64 a0.fAt a0.Vu) 1) a1.Eg)))then((Ani K a2.Ae v2).bind fun r3=>(bif (!r3)then some true else(Al4 K a0 a1 a2 n1 (Aoa .i64 v2 1))))else some false)else none)
def Aq5 (K:Nat)(a0:A9)(a1:Er)(a2:Ba):Option (Bool):=((Arq K a1 a0).bind fun r1=>(bif (!r1)then some true else(if a1.Eg≠(0:Int)then(Al4 K a0 a1 a2 K (Alr .i64 a0.fAt a1.Eg))else none)))
def s_104:Sig:=⟨[.v 89,.r 25,.r 44],[.v 4],true⟩
def Br1 (K:Nat):Gb tyU:=⟨s_104,Aq5 K⟩
def Bi5 (K:Nat):=xF s_104 [(56,Bwb K),(57,Bp0 K)] [] 33 [] [] [] [] [.tmp 4]
def A4r:E5:=⟨[(1,.r 25),(2,.r 44),(3,.p 103),(5,.v 2)],[(103,.st 89 true)]⟩
def A4s (K:Nat)(n:Nat)(q:PT A4r):Rt s_104:=Al4 K q.2.2.2.1 q.1 q.2.1 n q.2.2.1
theorem Bi6 (K:Nat):AtL (Bi5 K) (fun n=>[]) [] (bd Tryz.f55) 58 (A4s K):=fun n q=>by kernel_rfl
theorem Bi7 (K:Nat):XF [.tmp 4] s_104 33 [] (Bi5 K):=xkF (gC (Brv K) (gC (Biv K) gN)) oN
theorem Bi8 (K:Nat)(n:Nat):CF [.tmp 4] s_104 33 [] (bd Tryz.f55) [] 58 (ar A4r (A4s K n)):=
 Aeh (Bi7 K) (Bi6 K) (fun n=>kN) n
theorem Bwg (K:Nat):OkF 55 (Br1 K):=
 Aa6 (x:=Bi5 K) (L:=[(58,ar A4r (A4s K K))]) (c0:=bd Tryz.f55) (Bi7 K) (by intro a0 a1 a2;show @Eq _ _ _;kernel_rfl) (kC (Bi8 K K) kN) Tryz.func55 trivial
def Ael (K:Nat)(a0:List A9)(a1_0:Er)(a1_1:Ba):Nat->Int->Int->Option (Int)
 |0,_,_=>none
 |n1+1,v1,v2=>(bif (decide (v2<v1))then(if(0:Int)≤v2∧v2<(a0.length:Int)then((Aq5 K (gt a0 v2) a1_0 a1_1).bind fun r3=>(bif r3 then some v2 else(Ael K a0 a1_0 a1_1 n1 v1 (Aoa .i64 v2 1))))else none)else some (-1))
def Anl (K:Nat)(a0:List A9)(a1_0:Er)(a1_1:Ba):Option (Int):=(Ael K a0 a1_0 a1_1 K (a0.length:Int) 0)
def s_105:Sig:=⟨[.v 41,.f 55 [] [25,44]],[.v 3],true⟩
def Br2 (K:Nat):Gb tyU:=⟨s_105,Anl K⟩
def Bi9 (K:Nat):=xF s_105 [(55,Br1 K)] [] 19 [] [] [] [] [.tmp 4]
def A4t:E5:=⟨[(0,.v 41),(1,.f 55 [] [25,44]),(7,.v 2),(8,.v 2)],[]⟩
def A4u (K:Nat)(n:Nat)(q:PT A4t):Rt s_105:=Ael K q.1 q.2.1 q.2.2.1 n q.2.2.2.1 q.2.2.2.2.1
theorem Bja (K:Nat):AtL (Bi9 K) (fun n=>[]) [] (bd Tryz.f122) 26 (A4u K):=fun n q=>by kernel_rfl
theorem Bjb (K:Nat):XF [.tmp 4] s_105 19 [] (Bi9 K):=xkF (gC (Bwg K) gN) oN
theorem Bjc (K:Nat)(n:Nat):CF [.tmp 4] s_105 19 [] (bd Tryz.f122) [] 26 (ar A4t (A4u K n)):=
 Aeh (Bjb K) (Bja K) (fun n=>kN) n
theorem Bwh (K:Nat):OkF 122 (Br2 K):=
 Aa6 (x:=Bi9 K) (L:=[(26,ar A4t (A4u K K))]) (c0:=bd Tryz.f122) (Bjb K) (by intro a0 a1_0 a1_1;show @Eq _ _ _;kernel_rfl) (kC (Bjc K K) kN) Tryz.func122 trivial
def Ahb (K:Nat)(a0:List A9)(a1_0:Er)(a1_1:Ba):Option (Bool):=((Anl K a0 a1_0 a1_1).bind fun r1=>some (decide (r1≥0)))
def Br3:Sig:=⟨[.v 41,.f 55 [] [25,44]],[.v 4],true⟩
def Br4 (K:Nat):Gb tyU:=⟨Br3,Ahb K⟩
def B3h (K:Nat):=xF Br3 [(122,Br2 K)] [] 9 [] [] [] [] [.tmp 4]
theorem Bwi (K:Nat):OkF 54 (Br4 K):=
 Aa6 (x:=B3h K) (L:=[]) (c0:=bd Tryz.f54) (xkF (gC (Bwh K) gN) oN) (by intro a0 a1_0 a1_1;show @Eq _ _ _;kernel_rfl) kN Tryz.func54 trivial
def Auq (K:Nat)(a0:Er)(a1:Ba):Option (Bool):=((Ahb K a1.Ea a0 a1).bind fun r1=>some (!r1))
def Br5:Sig:=⟨[.v 25,.v 44],[.v 4],true⟩
def Br6 (K:Nat):Gb tyU:=⟨Br5,Auq K⟩
def B3i (K:Nat):=xF Br5 [(54,Br4 K)] [] 10 [] [(1,[.frzB 102 25,.frzB 103 44])] [] [] [.tmp 4]
theorem Bwj (K:Nat):OkF 15 (Br6 K):=
 Aa6 (x:=B3i K) (L:=[]) (c0:=bd Tryz.f15) (xkF (gC (Bwi K) gN) oN) (by intro a0 a1;show @Eq _ _ _;kernel_rfl) kN Tryz.func15 trivial
def Avr (K:Nat)(v1:A9)(v2:A9):Option (Bool):=some (decide ((Aob .u64 (IntKind.u64.wrap v1.fAt) (IntKind.u64.wrap v2.fAt))≥(IntKind.u64.wrap v2.Vu)))
def Avs (K:Nat)(a0:A9)(a1:A9):Option (Bool):=(bif (decide (a0.Vu≤0))then some true else(bif (decide (a1.Vu≤0))then some true else(bif (decide (a0.fAt>a1.fAt))then(Avr K a0 a1)else(Avr K a1 a0))))
def s_108:Sig:=⟨[.v 89,.v 89],[.v 4],true⟩
def Bjd (K:Nat):Gb tyU:=⟨s_108,Avs K⟩
def Bje (K:Nat):=xF s_108 [] [] 31 [7,8] [] [] [7] [.tmp 4]
def A9y:E5:=⟨[(2,.p 102),(3,.p 103)],[(103,.st 89 true),(102,.st 89 true)]⟩
def A9z (K:Nat)(q:PT A9y):Rt s_108:=Avr K q.1 q.2.1
theorem Bp6 (K:Nat):AtJ (Bje K) [] [] (bd Tryz.f59) 7 (A9z K):=fun q=>by kernel_rfl
theorem Bjf (K:Nat):XF [.tmp 4] s_108 31 [7] (Bje K):=xkF gN oN
theorem Bp7 (K:Nat):CF [.tmp 4] s_108 31 [7] (bd Tryz.f59) [] 7 (ar A9y (A9z K)):=
 Amf (Bjf K) (Bp6 K) kN
theorem Bjg (K:Nat):OkF 59 (Bjd K):=
 Aa6 (x:=Bje K) (L:=[(7,ar A9y (A9z K))]) (c0:=bd Tryz.f59) (Bjf K) (by intro a0 a1;show @Eq _ _ _;kernel_rfl) (kC (Bp7 K) kN) Tryz.func59 trivial
def Asu (K:Nat)(a0:A9)(a1:A9):Option (Bool):=((Avs K a0 a1).bind fun r1=>some (!r1))
def Br7:Sig:=⟨[.v 89,.r 89],[.v 4],true⟩
def Br8 (K:Nat):Gb tyU:=⟨Br7,Asu K⟩
def B3j (K:Nat):=xF Br7 [(59,Bjd K)] [] 8 [] [] [] [] [.tmp 3]
theorem Bwk (K:Nat):OkF 58 (Br8 K):=
 Aa6 (x:=B3j K) (L:=[]) (c0:=bd Tryz.f58) (xkF (gC (Bjg K) gN) oN) (by intro a0 a1;show @Eq _ _ _;kernel_rfl) kN Tryz.func58 trivial
def Aem (K:Nat)(a0:List A9)(a1_0:A9):Nat->Int->Int->Option (Int)
 |0,_,_=>none
 |n1+1,v1,v2=>(bif (decide (v2<v1))then(if(0:Int)≤v2∧v2<(a0.length:Int)then((Asu K (gt a0 v2) a1_0).bind fun r3=>(bif r3 then some v2 else(Aem K a0 a1_0 n1 v1 (Aoa .i64 v2 1))))else none)else some (-1))
def Anm (K:Nat)(a0:List A9)(a1_0:A9):Option (Int):=(Aem K a0 a1_0 K (a0.length:Int) 0)
def s_110:Sig:=⟨[.v 41,.f 58 [] [89]],[.v 3],true⟩
def Br9 (K:Nat):Gb tyU:=⟨s_110,Anm K⟩
def Bjh (K:Nat):=xF s_110 [(58,Br8 K)] [] 19 [] [] [] [] [.tmp 4]
def A4v:E5:=⟨[(0,.v 41),(1,.f 58 [] [89]),(7,.v 2),(8,.v 2)],[]⟩
def A4w (K:Nat)(n:Nat)(q:PT A4v):Rt s_110:=Aem K q.1 q.2.1 n q.2.2.1 q.2.2.2.1
theorem Bji (K:Nat):AtL (Bjh K) (fun n=>[]) [] (bd Tryz.f122) 26 (A4w K):=fun n q=>by kernel_rfl
theorem Bjj (K:Nat):XF [.tmp 4] s_110 19 [] (Bjh K):=xkF (gC (Bwk K) gN) oN
theorem Bjk (K:Nat)(n:Nat):CF [.tmp 4] s_110 19 [] (bd Tryz.f122) [] 26 (ar A4v (A4w K n)):=
 Aeh (Bjj K) (Bji K) (fun n=>kN) n
theorem Bwl (K:Nat):OkF 122 (Br9 K):=
 Aa6 (x:=Bjh K) (L:=[(26,ar A4v (A4w K K))]) (c0:=bd Tryz.f122) (Bjj K) (by intro a0 a1_0;show @Eq _ _ _;kernel_rfl) (kC (Bjk K K) kN) Tryz.func122 trivial
def Ahd (K:Nat)(a0:List A9)(a1_0:A9):Option (Bool):=((Anm K a0 a1_0).bind fun r1=>some (decide (r1≥0)))
def Bsa:Sig:=⟨[.v 41,.f 58 [] [89]],[.v 4],true⟩
def Bsb (K:Nat):Gb tyU:=⟨Bsa,Ahd K⟩
def B3k (K:Nat):=xF Bsa [(122,Br9 K)] [] 9 [] [] [] [] [.tmp 4]
theorem Bwm (K:Nat):OkF 54 (Bsb K):=
 Aa6 (x:=B3k K) (L:=[]) (c0:=bd Tryz.f54) (xkF (gC (Bwl K) gN) oN) (by intro a0 a1_0;show @Eq _ _ _;kernel_rfl) kN Tryz.func54 trivial
def Apc (K:Nat)(a0:List A9):Nat->(List A9)->Int->Int->Option (Bool)
 |0,_,_,_=>none
 |n1+1,v1,v2,v3=>(bif (decide (v3<v2))then(if(0:Int)≤v3∧v3<(v1.length:Int)then(if(0:Int)≤0∧0≤v3∧v3≤(a0.length:Int)then((Ahd K ((a0.drop (0:Int).toNat).take (v3 - 0).toNat) (gt v1 v3)).bind fun r4=>(bif r4 then some false else(Apc K a0 n1 v1 v2 (Aoa .i64 v3 1))))else none)else none)else some true)
def Aur (K:Nat)(a0:List A9):Option (Bool):=(Apc K a0 K a0 (a0.length:Int) 0)
def s_112:Sig:=⟨[.v 41],[.v 4],true⟩
def Bsc (K:Nat):Gb tyU:=⟨s_112,Aur K⟩
def Bjl (K:Nat):=xF s_112 [(54,Bsb K)] [] 18 [] [(4,[.frzB 104 89])] [] [] [.tmp 2]
def A4x:E5:=⟨[(0,.v 41),(5,.v 41),(6,.v 2),(7,.v 2)],[]⟩
def A4y (K:Nat)(n:Nat)(q:PT A4x):Rt s_112:=Apc K q.1 n q.2.1 q.2.2.1 q.2.2.2.1
theorem Bjm (K:Nat):AtL (Bjl K) (fun n=>[]) [] (bd Tryz.f17) 26 (A4y K):=fun n q=>by kernel_rfl
theorem Bjn (K:Nat):XF [.tmp 2] s_112 18 [] (Bjl K):=xkF (gC (Bwm K) gN) oN
theorem Bjo (K:Nat)(n:Nat):CF [.tmp 2] s_112 18 [] (bd Tryz.f17) [] 26 (ar A4x (A4y K n)):=
 Aeh (Bjn K) (Bjm K) (fun n=>kN) n
theorem Bwn (K:Nat):OkF 17 (Bsc K):=
 Aa6 (x:=Bjl K) (L:=[(26,ar A4x (A4y K K))]) (c0:=bd Tryz.f17) (Bjn K) (by intro a0;show @Eq _ _ _;kernel_rfl) (kC (Bjo K K) kN) Tryz.func17 trivial
def Ap8 (K:Nat)(a0:A9)(a1:A9):Option (Bool):=((Avs K a0 a1).bind fun r1=>some (!r1))
def Bsd:Sig:=⟨[.v 89,.r 89],[.v 4],true⟩
def Bse (K:Nat):Gb tyU:=⟨Bsd,Ap8 K⟩
def B3l (K:Nat):=xF Bsd [(59,Bjd K)] [] 8 [] [] [] [] [.tmp 3]
theorem Bwo (K:Nat):OkF 230 (Bse K):=
 Aa6 (x:=B3l K) (L:=[]) (c0:=bd Tryz.f230) (xkF (gC (Bjg K) gN) oN) (by intro a0 a1;show @Eq _ _ _;kernel_rfl) kN Tryz.func230 trivial
def Aei (K:Nat)(a0:List A9)(a1_0:A9):Nat->Int->Int->Option (Int)
 |0,_,_=>none
 |n1+1,v1,v2=>(bif (decide (v2<v1))then(if(0:Int)≤v2∧v2<(a0.length:Int)then((Ap8 K (gt a0 v2) a1_0).bind fun r3=>(bif r3 then some v2 else(Aei K a0 a1_0 n1 v1 (Aoa .i64 v2 1))))else none)else some (-1))
def Ald (K:Nat)(a0:List A9)(a1_0:A9):Option (Int):=(Aei K a0 a1_0 K (a0.length:Int) 0)
def s_114:Sig:=⟨[.v 41,.f 230 [] [89]],[.v 3],true⟩
def Bsf (K:Nat):Gb tyU:=⟨s_114,Ald K⟩
def Bjp (K:Nat):=xF s_114 [(230,Bse K)] [] 19 [] [] [] [] [.tmp 4]
def A4z:E5:=⟨[(0,.v 41),(1,.f 230 [] [89]),(7,.v 2),(8,.v 2)],[]⟩
def A40 (K:Nat)(n:Nat)(q:PT A4z):Rt s_114:=Aei K q.1 q.2.1 n q.2.2.1 q.2.2.2.1
theorem Bjq (K:Nat):AtL (Bjp K) (fun n=>[]) [] (bd Tryz.f122) 26 (A40 K):=fun n q=>by kernel_rfl
theorem Bjr (K:Nat):XF [.tmp 4] s_114 19 [] (Bjp K):=xkF (gC (Bwo K) gN) oN
theorem Bjs (K:Nat)(n:Nat):CF [.tmp 4] s_114 19 [] (bd Tryz.f122) [] 26 (ar A4z (A40 K n)):=
 Aeh (Bjr K) (Bjq K) (fun n=>kN) n
theorem Bwp (K:Nat):OkF 122 (Bsf K):=
 Aa6 (x:=Bjp K) (L:=[(26,ar A4z (A40 K K))]) (c0:=bd Tryz.f122) (Bjr K) (by intro a0 a1_0;show @Eq _ _ _;kernel_rfl) (kC (Bjs K K) kN) Tryz.func122 trivial
def Ag2 (K:Nat)(a0:List A9)(a1_0:A9):Option (Bool):=((Ald K a0 a1_0).bind fun r1=>some (decide (r1≥0)))
def Bsg:Sig:=⟨[.v 41,.f 230 [] [89]],[.v 4],true⟩
def Bsh (K:Nat):Gb tyU:=⟨Bsg,Ag2 K⟩
def B3m (K:Nat):=xF Bsg [(122,Bsf K)] [] 9 [] [] [] [] [.tmp 4]
theorem Bwq (K:Nat):OkF 54 (Bsh K):=
 Aa6 (x:=B3m K) (L:=[]) (c0:=bd Tryz.f54) (xkF (gC (Bwp K) gN) oN) (by intro a0 a1_0;show @Eq _ _ _;kernel_rfl) kN Tryz.func54 trivial
def Ap9 (K:Nat)(v1:List Ba)(v2:Int)(v3:Int)(v4:Int)(v5:Int)(v6:Int)(v7:Int)(v8:Int)(v9:Int)(v10:List Int)(v11:List Int)(v12:List Int)(v13:List Ba)(v14:List Ax)(v15:List Int)(C1:(List Ba)->Int->Int->Int->Int->Int->Int->Int->Int->(List Int)->(List Int)->(List Int)->(List Ba)->(List Ax)->(List Int)->Option (Bool)):Option (Bool):=(C1 v1 v2 (Aoa .i64 v3 1) v4 v5 v6 v7 v8 v9 v10 v11 v12 v13 v14 v15)
def Ahs (K:Nat):Nat->(List Ba)->Int->Int->Int->Int->Int->Int->Int->Int->(List Int)->(List Int)->(List Int)->(List Ba)->(List Ax)->(List Int)->Option (Bool)
 |0,_,_,_,_,_,_,_,_,_,_,_,_,_,_,_=>none
 |n1+1,v1,v2,v3,v4,v5,v6,v7,v8,v9,v10,v11,v12,v13,v14,v15=>(bif (decide (v3<v2))then(if(0:Int)≤v3∧v3<(v1.length:Int)then((Aen K ((gt v1 v3).Ae)).bind fun r16=>((Eu K r16).bind fun r17=>(if r17.length=r16.length then((Awt K (Er.mk v4 v5 v6 v7 v8 v9) (gt v1 v3)).bind fun r18=>(bif r18 then((Avq K (Dw.mk v10 v11 v12) v3).bind fun r19=>((Ai3 K r17 r19).bind fun r20=>(bif r20 then((Auq K (Er.mk v4 v5 v6 v7 v8 v9) (gt v1 v3)).bind fun r21=>(bif r21 then((Aur K ((gt v1 v3).Ea)).bind fun r22=>(bif (!r22)then some false else(bif (((gt v1 v3).Pq)==0)then(Ap9 K v1 v2 v3 v4 v5 v6 v7 v8 v9 v10 v11 v12 v13 v14 v15 (Ahs K n1))else(if(0:Int)≤((A9.mk (Aoa .i64 (Aoc .i64 (Aob .i64 ((gt v1 v3).Pq) 1) v5) ((gt v1 v3).Gt)) (Aob .i64 v5 ((gt v1 v3).Gt)) 0).fAt)∧((A9.mk (Aoa .i64 (Aoc .i64 (Aob .i64 ((gt v1 v3).Pq) 1) v5) ((gt v1 v3).Gt)) (Aob .i64 v5 ((gt v1 v3).Gt)) 0).fAt)≤(Aoa .i64 ((A9.mk (Aoa .i64 (Aoc .i64 (Aob .i64 ((gt v1 v3).Pq) 1) v5) ((gt v1 v3).Gt)) (Aob .i64 v5 ((gt v1 v3).Gt)) 0).fAt) ((A9.mk (Aoa .i64 (Aoc .i64 (Aob .i64 ((gt v1 v3).Pq) 1) v5) ((gt v1 v3).Gt)) (Aob .i64 v5 ((gt v1 v3).Gt)) 0).Vu))∧(Aoa .i64 ((A9.mk (Aoa .i64 (Aoc .i64 (Aob .i64 ((gt v1 v3).Pq) 1) v5) ((gt v1 v3).Gt)) (Aob .i64 v5 ((gt v1 v3).Gt)) 0).fAt) ((A9.mk (Aoa .i64 (Aoc .i64 (Aob .i64 ((gt v1 v3).Pq) 1) v5) ((gt v1 v3).Gt)) (Aob .i64 v5 ((gt v1 v3).Gt)) 0).Vu))≤(v10.length:Int)then((Asl K ((v10.drop ((A9.mk (Aoa .i64 (Aoc .i64 (Aob .i64 ((gt v1 v3).Pq) 1) v5) ((gt v1 v3).Gt)) (Aob .i64 v5 ((gt v1 v3).Gt)) 0).fAt).toNat).take ((Aoa .i64 ((A9.mk (Aoa .i64 (Aoc .i64 (Aob .i64 ((gt v1 v3).Pq) 1) v5) ((gt v1 v3).Gt)) (Aob .i64 v5 ((gt v1 v3).Gt)) 0).fAt) ((A9.mk (Aoa .i64 (Aoc .i64 (Aob .i64 ((gt v1 v3).Pq) 1) v5) ((gt v1 v3).Gt)) (Aob .i64 v5 ((gt v1 v3).Gt)) 0).Vu)) - ((A9.mk (Aoa .i64 (Aoc .i64 (Aob .i64 ((gt v1 v3).Pq) 1) v5) ((gt v1 v3).Gt)) (Aob .i64 v5 ((gt v1 v3).Gt)) 0).fAt)).toNat)).bind fun r23=>(bif r23 then((Ag2 K ((gt v1 v3).Ea) (A9.mk (Aoa .i64 (Aoc .i64 (Aob .i64 ((gt v1 v3).Pq) 1) v5) ((gt v1 v3).Gt)) (Aob .i64 v5 ((gt v1 v3).Gt)) 0)).bind fun r24=>(bif r24 then some false else(Ap9 K v1 v2 v3 v4 v5 v6 v7 v8 v9 v10 v11 v12 v13 v14 v15 (Ahs K n1))))else some false))else none))))else some false))else some false)))else some false))else none)))else none)else some true)
def Aq6 (K:Nat)(a0:Eb):Option (Bool):=(Ahs K K a0.fL (a0.fL.length:Int) 0 a0.fC.Ae a0.fC.Eg a0.fC.C0 a0.fC.E9 a0.fC.C1 a0.fC.Eh a0.fP.Fy a0.fP.Hh a0.fP.Fz a0.fL a0.fQ a0.Pr)
def s_116:Sig:=⟨[.v 32],[.v 4],true⟩
def Bsi (K:Nat):Gb tyU:=⟨s_116,Aq6 K⟩
def Bel (K:Nat):=xF s_116 [(15,Br6 K),(16,Br0 K),(17,Bsc K),(54,Bsh K),(160,Bc0 K),(167,Brz K),(226,Bpr K),(228,Ev K),(229,Bv4 K)] [] 87 [23,24,25,31,32,33,34,38,39,40,41,78,79,80] [(10,[.frzB 106 89])] [] [211] [.tmp 2]
def A2u:E5:=⟨[(1,.p 101),(8,.v 29),(9,.v 2),(10,.v 2)],[(101,.box [.v 2,.v 2,.v 2,.v 2,.v 2,.v 2,.v 22,.v 26,.v 26,.v 29,.v 30,.v 26])]⟩
def Aw6:E5:=⟨[(1,.p 101),(8,.v 29),(9,.v 2),(10,.v 2)],[(101,.box [.v 2,.v 2,.v 2,.v 2,.v 2,.v 2,.v 22,.v 26,.v 26,.v 29,.v 30,.v 26])]⟩
def A2v (K:Nat)(C26:CT Aw6 s_116)(q:PT A2u):Rt s_116:=Ap9 K q.1 q.2.1 q.2.2.1 q.2.2.2.1 q.2.2.2.2.1 q.2.2.2.2.2.1 q.2.2.2.2.2.2.1 q.2.2.2.2.2.2.2.1 q.2.2.2.2.2.2.2.2.1 q.2.2.2.2.2.2.2.2.2.1 q.2.2.2.2.2.2.2.2.2.2.1 q.2.2.2.2.2.2.2.2.2.2.2.1 q.2.2.2.2.2.2.2.2.2.2.2.2.1 q.2.2.2.2.2.2.2.2.2.2.2.2.2.1 q.2.2.2.2.2.2.2.2.2.2.2.2.2.2.1 (fun v1 v2 v3 v4 v5 v6 v7 v8 v9 v10 v11 v12 v13 v14 v15=>C26 (v1,v2,v3,v4,v5,v6,v7,v8,v9,v10,v11,v12,v13,v14,v15,()))
def Azx (K:Nat)(n:Nat)(q:PT Aw6):Rt s_116:=Ahs K n q.1 q.2.1 q.2.2.1 q.2.2.2.1 q.2.2.2.2.1 q.2.2.2.2.2.1 q.2.2.2.2.2.2.1 q.2.2.2.2.2.2.2.1 q.2.2.2.2.2.2.2.2.1 q.2.2.2.2.2.2.2.2.2.1 q.2.2.2.2.2.2.2.2.2.2.1 q.2.2.2.2.2.2.2.2.2.2.2.1 q.2.2.2.2.2.2.2.2.2.2.2.2.1 q.2.2.2.2.2.2.2.2.2.2.2.2.2.1 q.2.2.2.2.2.2.2.2.2.2.2.2.2.2.1
theorem Bfr (K:Nat)(C26:CT Aw6 s_116):AtJ (Bel K) [] [(26,ar Aw6 C26)] (bd Tryz.f154) 211 (A2v K C26):=fun q=>by kernel_rfl
theorem Bjt (K:Nat):AtL (Bel K) (fun n=>[(211,ar A2u (A2v K (Azx K n)))]) [] (bd Tryz.f154) 26 (Azx K):=fun n q=>by kernel_rfl
theorem Bc3 (K:Nat):XF [.tmp 2] s_116 87 [211] (Bel K):=xkF (gC (Bwj K) (gC (Bwf K) (gC (Bwn K) (gC (Bwq K) (gC (A7v K) (gC (Bwe K) (gC (Bis K) (gC (V7 K) (gC (Brp K) gN))))))))) oN
theorem Bfs (K:Nat)(C26:CT Aw6 s_116):CF [.tmp 2] s_116 87 [211] (bd Tryz.f154) [(26,ar Aw6 C26)] 211 (ar A2u (A2v K C26)):=
 Amf (Bc3 K) (Bfr K C26) kN
theorem Bju (K:Nat)(n:Nat):CF [.tmp 2] s_116 87 [211] (bd Tryz.f154) [] 26 (ar Aw6 (Azx K n)):=
 Aeh (Bc3 K) (Bjt K) (fun n=>(kC (Bfs K (Azx K n)) kN)) n
theorem Bwr (K:Nat):OkF 154 (Bsi K):=
 Aa6 (x:=Bel K) (L:=[(26,ar Aw6 (Azx K K))]) (c0:=bd Tryz.f154) (Bc3 K) (by intro a0;show @Eq _ _ _;kernel_rfl) (kC (Bju K K) kN) Tryz.func154 trivial
def Aix (K:Nat)(a0:List Ba)(a1:Int):Option (Bool):=((Ac1 K a1 0 (Aob .i64 (a0.length:Int) 1)).bind fun r1=>some r1)
def Bsj:Sig:=⟨[.v 29,.v 3],[.v 4],true⟩
def A1t (K:Nat):Gb tyU:=⟨Bsj,Aix K⟩
def B3n (K:Nat):=xF Bsj [(88,A68 K)] [] 10 [] [] [] [] [.tmp 4]
theorem Azy (K:Nat):OkF 171 (A1t K):=
 Aa6 (x:=B3n K) (L:=[]) (c0:=bd Tryz.f171) (xkF (gC (A1r K) gN) oN) (by intro a0 a1;show @Eq _ _ _;kernel_rfl) kN Tryz.func171 trivial
def Asm (K:Nat)(a0:List Ba)(a1:Int):Option (Bool):=(bif (a1==0)then some true else((Aix K a0 (Aob .i64 a1 1)).bind fun r1=>(bif r1 then(if(0:Int)≤(Aob .i64 a1 1)∧(Aob .i64 a1 1)<(a0.length:Int)then some (((gt a0 (Aob .i64 a1 1)).Hh)==1)else none)else some false)))
def Bsk:Sig:=⟨[.v 29,.v 3],[.v 4],true⟩
def Bsl (K:Nat):Gb tyU:=⟨Bsk,Asm K⟩
def B3o (K:Nat):=xF Bsk [(171,A1t K)] [] 22 [6,7,11,12] [] [] [] [.tmp 4]
theorem Bws (K:Nat):OkF 271 (Bsl K):=
 Aa6 (x:=B3o K) (L:=[]) (c0:=bd Tryz.f271) (xkF (gC (Azy K) gN) oN) (by intro a0 a1;show @Eq _ _ _;kernel_rfl) kN Tryz.func271 trivial
def Aqf (K:Nat)(a0:List Ba)(a1:Int):Option (Bool):=(if(0:Int)≤a1∧a1<(a0.length:Int)then((Aix K a0 (Aob .i64 ((gt a0 a1).fUp) 1)).bind fun r1=>(bif r1 then(if(0:Int)≤(Aob .i64 ((gt a0 a1).fUp) 1)∧(Aob .i64 ((gt a0 a1).fUp) 1)<(a0.length:Int)then(bif (((gt a0 (Aob .i64 ((gt a0 a1).fUp) 1)).Hh)==1)then(if(0:Int)≤(Aob .i64 ((gt a0 a1).fUp) 1)∧(Aob .i64 ((gt a0 a1).fUp) 1)<(a0.length:Int)then(if(0:Int)≤a1∧a1<(a0.length:Int)then some (((gt a0 (Aob .i64 ((gt a0 a1).fUp) 1)).Ly)==((gt a0 a1).Gq))else none)else none)else some false)else none)else some false))else none)
def Bsm:Sig:=⟨[.v 29,.v 3],[.v 4],true⟩
def Bem (K:Nat):Gb tyU:=⟨Bsm,Aqf K⟩
def B3p (K:Nat):=xF Bsm [(171,A1t K)] [] 36 [14,15,21,22,23] [] [] [] [.tmp 4]
theorem Bc4 (K:Nat):OkF 233 (Bem K):=
 Aa6 (x:=B3p K) (L:=[]) (c0:=bd Tryz.f233) (xkF (gC (Azy K) gN) oN) (by intro a0 a1;show @Eq _ _ _;kernel_rfl) kN Tryz.func233 trivial
def Ars (K:Nat)(a0:List Ba)(a1:Int)(v8:Int)(v12:Int):Option (Bool):=(bif (v12 != 0)then some true else((Aqf K a0 a1).bind fun r18=>(bif r18 then(if(0:Int)≤(Aob .i64 v8 1)∧(Aob .i64 v8 1)<(a0.length:Int)then some (((gt a0 (Aob .i64 v8 1)).Bt)==(Aoa .i64 a1 1))else none)else some true)))
def Art (K:Nat)(a0:List Ba)(a1:Int)(v8:Int)(v12:Int):Option (Bool):=(bif (v12 != 0)then(if(0:Int)≤(Aob .i64 v12 1)∧(Aob .i64 v12 1)<(a0.length:Int)then(bif (((gt a0 (Aob .i64 v12 1)).Gr) != (Aoa .i64 a1 1))then some false else(Ars K a0 a1 v8 v12))else none)else(Ars K a0 a1 v8 v12))
def Aru (K:Nat)(a0:List Ba)(a1:Int)(v8:Int)(v9:Int)(v11:Int)(v12:Int):Option (Bool):=(bif (v11 != 0)then(if(0:Int)≤(Aob .i64 v11 1)∧(Aob .i64 v11 1)<(a0.length:Int)then(bif (((gt a0 (Aob .i64 v11 1)).Gs) != (Aoa .i64 a1 1))then some false else(bif (((gt a0 (Aob .i64 v11 1)).fUp) != v8)then some false else(bif (((gt a0 (Aob .i64 v11 1)).Gq) != v9)then some false else(Art K a0 a1 v8 v12))))else none)else(Art K a0 a1 v8 v12))
def Arv (K:Nat)(a0:List Ba)(a1:Int)(v5:Int)(v6:Int)(v7:Int)(v8:Int)(v9:Int)(v10:Int)(v11:Int)(v12:Int)(v13:List Int)(v14:Int)(v15:Int)(v16:List A9)(v17:List Int):Option (Bool):=(bif (v10 != 0)then(if(0:Int)≤(Aob .i64 v10 1)∧(Aob .i64 v10 1)<(a0.length:Int)then(bif (((gt a0 (Aob .i64 v10 1)).Gs) != 0)then some false else(bif (((gt a0 (Aob .i64 v10 1)).fUp) != (Aoa .i64 a1 1))then some false else(bif (((gt a0 (Aob .i64 v10 1)).Gq) != v7)then some false else(Aru K a0 a1 v8 v9 v11 v12))))else none)else(Aru K a0 a1 v8 v9 v11 v12))
def Avt (K:Nat)(a0:List Ba)(a1:Int):Option (Bool):=(if(0:Int)≤a1∧a1<(a0.length:Int)then((Asm K a0 ((gt a0 a1).Bt)).bind fun r1=>(bif r1 then((Asm K a0 ((gt a0 a1).Gr)).bind fun r2=>(bif r2 then((Asm K a0 ((gt a0 a1).Gs)).bind fun r3=>(bif r3 then(bif (((gt a0 a1).fUp) != 0)then((Aix K a0 (Aob .i64 ((gt a0 a1).fUp) 1)).bind fun r4=>(bif (!r4)then some false else(Arv K a0 a1 ((gt a0 a1).Hh) ((gt a0 a1).C2) ((gt a0 a1).Ly) ((gt a0 a1).fUp) ((gt a0 a1).Gq) ((gt a0 a1).Bt) ((gt a0 a1).Gr) ((gt a0 a1).Gs) ((gt a0 a1).Ae) ((gt a0 a1).Pq) ((gt a0 a1).Gt) ((gt a0 a1).Ea) ((gt a0 a1).Dg))))else(Arv K a0 a1 ((gt a0 a1).Hh) ((gt a0 a1).C2) ((gt a0 a1).Ly) ((gt a0 a1).fUp) ((gt a0 a1).Gq) ((gt a0 a1).Bt) ((gt a0 a1).Gr) ((gt a0 a1).Gs) ((gt a0 a1).Ae) ((gt a0 a1).Pq) ((gt a0 a1).Gt) ((gt a0 a1).Ea) ((gt a0 a1).Dg)))else some false))else some false))else some false))else none)
def s_120:Sig:=⟨[.v 29,.v 3],[.v 4],true⟩
def Bsn (K:Nat):Gb tyU:=⟨s_120,Avt K⟩
def A7w (K:Nat):=xF s_120 [(171,A1t K),(233,Bem K),(271,Bsl K)] [] 134 [15,16,17,21,22,23,24,28,29,30,31,34,35,55,56,61,62,63,83,84,89,90,91,100,101,115,116,119,120,121,122] [] [] [7,15,31,63] [.tmp 4]
def A41:E5:=⟨[(0,.v 29),(1,.v 2),(5,.p 105)],[(105,.box [.v 2,.v 2,.v 2,.v 2,.v 2,.v 2,.v 2,.v 2,.v 26,.v 2,.v 2,.v 41,.v 26])]⟩
def A42:E5:=⟨[(0,.v 29),(1,.v 2),(5,.p 105)],[(105,.box [.v 2,.v 2,.v 2,.v 2,.v 2,.v 2,.v 2,.v 2,.v 26,.v 2,.v 2,.v 41,.v 26])]⟩
def A43:E5:=⟨[(0,.v 29),(1,.v 2),(5,.p 105)],[(105,.box [.v 2,.v 2,.v 2,.v 2,.v 2,.v 2,.v 2,.v 2,.v 26,.v 2,.v 2,.v 41,.v 26])]⟩
def A90:E5:=⟨[(0,.v 29),(1,.v 2),(5,.p 105)],[(105,.box [.v 2,.v 2,.v 2,.v 2,.v 2,.v 2,.v 2,.v 2,.v 26,.v 2,.v 2,.v 41,.v 26])]⟩
def A44 (K:Nat)(q:PT A41):Rt s_120:=Ars K q.1 q.2.1 q.2.2.2.2.2.1 q.2.2.2.2.2.2.2.2.2.1
def A45 (K:Nat)(q:PT A42):Rt s_120:=Art K q.1 q.2.1 q.2.2.2.2.2.1 q.2.2.2.2.2.2.2.2.2.1
def A46 (K:Nat)(q:PT A43):Rt s_120:=Aru K q.1 q.2.1 q.2.2.2.2.2.1 q.2.2.2.2.2.2.1 q.2.2.2.2.2.2.2.2.1 q.2.2.2.2.2.2.2.2.2.1
def A91 (K:Nat)(q:PT A90):Rt s_120:=Arv K q.1 q.2.1 q.2.2.1 q.2.2.2.1 q.2.2.2.2.1 q.2.2.2.2.2.1 q.2.2.2.2.2.2.1 q.2.2.2.2.2.2.2.1 q.2.2.2.2.2.2.2.2.1 q.2.2.2.2.2.2.2.2.2.1 q.2.2.2.2.2.2.2.2.2.2.1 q.2.2.2.2.2.2.2.2.2.2.2.1 q.2.2.2.2.2.2.2.2.2.2.2.2.1 q.2.2.2.2.2.2.2.2.2.2.2.2.2.1 q.2.2.2.2.2.2.2.2.2.2.2.2.2.2.1
theorem Bjv (K:Nat):AtJ (A7w K) [] [] (bd Tryz.f231) 63 (A44 K):=fun q=>by kernel_rfl
theorem Bjw (K:Nat):AtJ (A7w K) [(63,ar A41 (A44 K))] [] (bd Tryz.f231) 31 (A45 K):=fun q=>by kernel_rfl
theorem Bjx (K:Nat):AtJ (A7w K) [(31,ar A42 (A45 K))] [] (bd Tryz.f231) 15 (A46 K):=fun q=>by kernel_rfl
theorem Bp8 (K:Nat):AtJ (A7w K) [(15,ar A43 (A46 K))] [] (bd Tryz.f231) 7 (A91 K):=fun q=>by kernel_rfl
theorem A47 (K:Nat):XF [.tmp 4] s_120 134 [7,15,31,63] (A7w K):=xkF (gC (Azy K) (gC (Bc4 K) (gC (Bws K) gN))) oN
theorem Bjy (K:Nat):CF [.tmp 4] s_120 134 [7,15,31,63] (bd Tryz.f231) [] 63 (ar A41 (A44 K)):=
 Amf (A47 K) (Bjv K) kN
theorem Bjz (K:Nat):CF [.tmp 4] s_120 134 [7,15,31,63] (bd Tryz.f231) [] 31 (ar A42 (A45 K)):=
 Amf (A47 K) (Bjw K) (kC (Bjy K) kN)
theorem Bj0 (K:Nat):CF [.tmp 4] s_120 134 [7,15,31,63] (bd Tryz.f231) [] 15 (ar A43 (A46 K)):=
 Amf (A47 K) (Bjx K) (kC (Bjz K) kN)
theorem Bp9 (K:Nat):CF [.tmp 4] s_120 134 [7,15,31,63] (bd Tryz.f231) [] 7 (ar A90 (A91 K)):=
 Amf (A47 K) (Bp8 K) (kC (Bj0 K) kN)
theorem Bwt (K:Nat):OkF 231 (Bsn K):=
 Aa6 (x:=A7w K) (L:=[(7,ar A90 (A91 K))]) (c0:=bd Tryz.f231) (A47 K) (by intro a0 a1;show @Eq _ _ _;kernel_rfl) (kC (Bp9 K) kN) Tryz.func231 trivial
def At8 (K:Nat)(a0:List Ba):Nat->Int->(List Int)->Option ((List Int))
 |0,_,_=>none
 |n1+1,v1,v2=>((Aix K a0 v1).bind fun r3=>(bif r3 then(bif (decide ((v2.length:Int)<(a0.length:Int)))then(if(v2++([v1]:List Int)).length*8≤140737488355328∧(v2++([v1]:List Int)).length≤maxLen then(if(0:Int)≤v1∧v1<(a0.length:Int)then(At8 K a0 n1 (Aob .i64 ((gt a0 v1).fUp) 1) (v2++([v1]:List Int)))else none)else none)else some v2)else some v2))
def Au7 (K:Nat)(a0:List Ba)(a1:Int):Option ((List Int)):=(At8 K a0 K a1 ([]:List Int))
def s_121:Sig:=⟨[.v 29,.v 3],[.n 26 true],true⟩
def Ben (K:Nat):Gb tyU:=⟨s_121,Au7 K⟩
def Bj1 (K:Nat):=xF s_121 [(171,A1t K)] [] 28 [9,10] [] [] [] [.tmp 4]
def A48:E5:=⟨[(0,.v 29),(1,.v 2),(5,.o 1005 3 true)],[]⟩
def A49 (K:Nat)(n:Nat)(q:PT A48):Rt s_121:=At8 K q.1 n q.2.1 q.2.2.1
theorem Bj2 (K:Nat):AtL (Bj1 K) (fun n=>[]) [] (bd Tryz.f232) 28 (A49 K):=fun n q=>by kernel_rfl
theorem Bj3 (K:Nat):XF [.tmp 4] s_121 28 [] (Bj1 K):=xkF (gC (Azy K) gN) oN
theorem Bj4 (K:Nat)(n:Nat):CF [.tmp 4] s_121 28 [] (bd Tryz.f232) [] 28 (ar A48 (A49 K n)):=
 Aeh (Bj3 K) (Bj2 K) (fun n=>kN) n
theorem Bc5 (K:Nat):OkF 232 (Ben K):=
 Aa6 (x:=Bj1 K) (L:=[(28,ar A48 (A49 K K))]) (c0:=bd Tryz.f232) (Bj3 K) (by intro a0 a1;show @Eq _ _ _;kernel_rfl) (kC (Bj4 K K) kN) Tryz.func232 trivial
def Aus (K:Nat)(v1:List Ba)(v2:Int)(v3:Int)(C1:(List Ba)->Int->Int->Option (Bool)):Option (Bool):=(C1 v1 v2 (Aoa .i64 v3 1))
def Apk (K:Nat)(a0:List Ba):Nat->(List Ba)->Int->Int->Option (Bool)
 |0,_,_,_=>none
 |n1+1,v1,v2,v3=>(bif (decide (v3<v2))then(if(0:Int)≤v3∧v3<(v1.length:Int)then(bif (((gt v1 v3).Hh) != 1)then(Aus K v1 v2 v3 (Apk K a0 n1))else((Avt K a0 v3).bind fun r4=>(bif (!r4)then some false else((Au7 K a0 v3).bind fun r5=>(bif (decide ((r5.length:Int)>4))then some false else(if(0:Int)≤(Aob .i64 (r5.length:Int) 1)∧(Aob .i64 (r5.length:Int) 1)<(r5.length:Int)then((Aqf K a0 (gt r5 (Aob .i64 (r5.length:Int) 1))).bind fun r6=>(bif r6 then some false else(Aus K v1 v2 v3 (Apk K a0 n1))))else none))))))else none)else some true)
def Awu (K:Nat)(a0:List Ba):Option (Bool):=(Apk K a0 K a0 (a0.length:Int) 0)
def s_122:Sig:=⟨[.v 29],[.v 4],true⟩
def Bso (K:Nat):Gb tyU:=⟨s_122,Awu K⟩
def Beo (K:Nat):=xF s_122 [(231,Bsn K),(232,Ben K),(233,Bem K)] [] 37 [25,26] [] [] [211] [.tmp 2]
def A2w:E5:=⟨[(0,.v 29),(6,.v 29),(7,.v 2),(8,.v 2)],[]⟩
def Aw7:E5:=⟨[(0,.v 29),(6,.v 29),(7,.v 2),(8,.v 2)],[]⟩
def A2x (K:Nat)(C26:CT Aw7 s_122)(q:PT A2w):Rt s_122:=Aus K q.2.1 q.2.2.1 q.2.2.2.1 (fun v1 v2 v3=>C26 (q.1,v1,v2,v3,()))
def Azz (K:Nat)(n:Nat)(q:PT Aw7):Rt s_122:=Apk K q.1 n q.2.1 q.2.2.1 q.2.2.2.1
theorem Bft (K:Nat)(C26:CT Aw7 s_122):AtJ (Beo K) [] [(26,ar Aw7 C26)] (bd Tryz.f155) 211 (A2x K C26):=fun q=>by kernel_rfl
theorem Bj5 (K:Nat):AtL (Beo K) (fun n=>[(211,ar A2w (A2x K (Azz K n)))]) [] (bd Tryz.f155) 26 (Azz K):=fun n q=>by kernel_rfl
theorem Bc6 (K:Nat):XF [.tmp 2] s_122 37 [211] (Beo K):=xkF (gC (Bwt K) (gC (Bc5 K) (gC (Bc4 K) gN))) oN
theorem Bfu (K:Nat)(C26:CT Aw7 s_122):CF [.tmp 2] s_122 37 [211] (bd Tryz.f155) [(26,ar Aw7 C26)] 211 (ar A2w (A2x K C26)):=
 Amf (Bc6 K) (Bft K C26) kN
theorem Bj6 (K:Nat)(n:Nat):CF [.tmp 2] s_122 37 [211] (bd Tryz.f155) [] 26 (ar Aw7 (Azz K n)):=
 Aeh (Bc6 K) (Bj5 K) (fun n=>(kC (Bfu K (Azz K n)) kN)) n
theorem Bwu (K:Nat):OkF 155 (Bso K):=
 Aa6 (x:=Beo K) (L:=[(26,ar Aw7 (Azz K K))]) (c0:=bd Tryz.f155) (Bc6 K) (by intro a0;show @Eq _ _ _;kernel_rfl) (kC (Bj6 K K) kN) Tryz.func155 trivial
def Aq0 (K:Nat)(a0:List Ba)(a1:Int):Option (Bool):=(if(0:Int)≤a1∧a1<(a0.length:Int)then(bif (((gt a0 a1).Hh)==1)then(if(0:Int)≤a1∧a1<(a0.length:Int)then(bif (((gt a0 a1).fUp) != 0)then((Aqf K a0 a1).bind fun r1=>some (!r1))else some false)else none)else some false)else none)
def Bsp:Sig:=⟨[.v 29,.v 3],[.v 4],true⟩
def Bsq (K:Nat):Gb tyU:=⟨Bsp,Aq0 K⟩
def B3q (K:Nat):=xF Bsp [(233,Bem K)] [] 25 [10,11,17,18,19] [] [] [] [.tmp 4]
theorem Bwv (K:Nat):OkF 235 (Bsq K):=
 Aa6 (x:=B3q K) (L:=[]) (c0:=bd Tryz.f235) (xkF (gC (Bc4 K) gN) oN) (by intro a0 a1;show @Eq _ _ _;kernel_rfl) kN Tryz.func235 trivial
def Avu (K:Nat)(a0:Er)(a1:Ax):Option (Bool):=((Ask K a0).bind fun r1=>(bif r1 then((Ac1 K a1.A5 0 a0.C0).bind fun r2=>(bif r2 then((Ac1 K a1.Bt 0 a0.C0).bind fun r3=>(bif r3 then(bif (decide ((a1.Dg.length:Int)≤6))then((Aqz K a1.Dg).bind fun r4=>(bif r4 then((Asg K a0 a1.Ae).bind fun r5=>(bif r5 then((Ac1 K a1.Gu 0 (Aob .i64 a0.Eg 1)).bind fun r6=>(bif r6 then(bif (decide ((a1.Ae.length:Int)>0))then some true else some (a1.Gu==0))else some false))else some false))else some false))else some false)else some false))else some false))else some false))
def Bsr:Sig:=⟨[.v 25,.v 159],[.v 4],true⟩
def Bss (K:Nat):Gb tyU:=⟨Bsr,Avu K⟩
def B3r (K:Nat):=xF Bsr [(88,A68 K),(157,Bp5 K),(198,Bir K),(240,Bv8 K)] [] 57 [6,7,12,13,14,19,20,21,25,26,27,30,31,32,36,37,38,44,45,46,50,51] [] [] [] [.tmp 4]
theorem Bww (K:Nat):OkF 234 (Bss K):=
 Aa6 (x:=B3r K) (L:=[]) (c0:=bd Tryz.f234) (xkF (gC (A1r K) (gC (Biw K) (gC (Beh K) (gC (Brt K) gN)))) oN) (by intro a0 a1;show @Eq _ _ _;kernel_rfl) kN Tryz.func234 trivial
def Ash (K:Nat)(a0:List Ba):Nat->(List Int)->Int->Option ((List Int))
 |0,_,_=>none
 |n1+1,v1,v2=>((Aix K a0 v2).bind fun r3=>(bif r3 then(bif (decide ((v1.length:Int)<(a0.length:Int)))then(if(v1++([v2]:List Int)).length*8≤140737488355328∧(v1++([v2]:List Int)).length≤maxLen then(if(0:Int)≤v2∧v2<(a0.length:Int)then(Ash K a0 n1 (v1++([v2]:List Int)) (Aob .i64 ((gt a0 v2).Gr) 1))else none)else none)else some v1)else some v1))
def Awv (K:Nat)(a0:List Ba)(a1:Int):Option ((List Int)):=(Ash K a0 K ([]:List Int) (Aob .i64 a1 1))
def s_125:Sig:=⟨[.v 29,.v 3],[.n 26 true],true⟩
def Bst (K:Nat):Gb tyU:=⟨s_125,Awv K⟩
def Bj7 (K:Nat):=xF s_125 [(171,A1t K)] [] 31 [12,13] [] [] [] [.tmp 4]
def A5a:E5:=⟨[(0,.v 29),(5,.o 1005 3 true),(6,.v 2)],[]⟩
def A5b (K:Nat)(n:Nat)(q:PT A5a):Rt s_125:=Ash K q.1 n q.2.1 q.2.2.1
theorem Bj8 (K:Nat):AtL (Bj7 K) (fun n=>[]) [] (bd Tryz.f206) 58 (A5b K):=fun n q=>by kernel_rfl
theorem Bj9 (K:Nat):XF [.tmp 4] s_125 31 [] (Bj7 K):=xkF (gC (Azy K) gN) oN
theorem Bka (K:Nat)(n:Nat):CF [.tmp 4] s_125 31 [] (bd Tryz.f206) [] 58 (ar A5a (A5b K n)):=
 Aeh (Bj9 K) (Bj8 K) (fun n=>kN) n
theorem Bwx (K:Nat):OkF 206 (Bst K):=
 Aa6 (x:=Bj7 K) (L:=[(58,ar A5a (A5b K K))]) (c0:=bd Tryz.f206) (Bj9 K) (by intro a0 a1;show @Eq _ _ _;kernel_rfl) (kC (Bka K K) kN) Tryz.func206 trivial
def Ai4 (K:Nat)(v4:List Ax)(v5:Int)(v6:Int)(v7:Int)(v8:Int)(v9:Int)(v10:Int)(v11:Int)(v12:Int)(v13:List Int)(v14:List Int)(v15:List Int)(v16:List Ba)(v17:List Ax)(v18:List Int)(v27:List Int)(v31:List Int)(r32:(List Int))(C1:(List Int)->(List Int)->(List Int)->(List Ax)->Int->Int->Int->Int->Int->Int->Int->Int->(List Int)->(List Int)->(List Int)->(List Ba)->(List Ax)->(List Int)->Option (Bool)):Nat->(List Int)->Int->Int->Option (Bool)
 |0,_,_,_=>none
 |n6+1,v33,v34,v35=>(bif (decide (v35<v34))then(if(0:Int)≤v35∧v35<(r32.length:Int)then(if(0:Int)≤(gt r32 v35)∧(gt r32 v35)<(v33.length:Int)then(if(0:Int)≤(gt r32 v35)∧(gt r32 v35)<(v33.length:Int)then((Aq0 K v16 (gt r32 v35)).bind fun r36=>(bif (!r36)then some false else(Ai4 K v4 v5 v6 v7 v8 v9 v10 v11 v12 v13 v14 v15 v16 v17 v18 v27 v31 r32 C1 n6 (v33.set (gt r32 v35).toNat (Aoa .i64 (gt v33 (gt r32 v35)) 1)) v34 (Aoa .i64 v35 1))))else none)else none)else none)else(C1 v27 v31 v33 v4 v5 (Aoa .i64 v6 1) v7 v8 v9 v10 v11 v12 v13 v14 v15 v16 v17 v18))
def Apd (K:Nat)(v3:List Int)(v4:List Ax)(v5:Int)(v6:Int)(v7:Int)(v8:Int)(v9:Int)(v10:Int)(v11:Int)(v12:Int)(v13:List Int)(v14:List Int)(v15:List Int)(v16:List Ba)(v17:List Ax)(v18:List Int)(v23:Int)(v27:List Int)(v31:List Int)(C1:(List Int)->(List Int)->(List Int)->(List Ax)->Int->Int->Int->Int->Int->Int->Int->Int->(List Int)->(List Int)->(List Int)->(List Ba)->(List Ax)->(List Int)->Option (Bool)):Option (Bool):=((Awv K v16 v23).bind fun r32=>(Ai4 K v4 v5 v6 v7 v8 v9 v10 v11 v12 v13 v14 v15 v16 v17 v18 v27 v31 r32 (C1) K v3 (r32.length:Int) 0))
def Ape (K:Nat)(v3:List Int)(v4:List Ax)(v5:Int)(v6:Int)(v7:Int)(v8:Int)(v9:Int)(v10:Int)(v11:Int)(v12:Int)(v13:List Int)(v14:List Int)(v15:List Int)(v16:List Ba)(v17:List Ax)(v18:List Int)(v23:Int)(v27:List Int)(C1:(List Int)->(List Int)->(List Int)->(List Ax)->Int->Int->Int->Int->Int->Int->Int->Int->(List Int)->(List Int)->(List Int)->(List Ba)->(List Ax)->(List Int)->Option (Bool))(v31:List Int):Option (Bool):=(bif (decide (v23>0))then(if(0:Int)≤(Aob .i64 v23 1)∧(Aob .i64 v23 1)<(v16.length:Int)then(bif (((gt v16 (Aob .i64 v23 1)).Gs) != 0)then some false else(Apd K v3 v4 v5 v6 v7 v8 v9 v10 v11 v12 v13 v14 v15 v16 v17 v18 v23 v27 v31 (C1)))else none)else(Apd K v3 v4 v5 v6 v7 v8 v9 v10 v11 v12 v13 v14 v15 v16 v17 v18 v23 v27 v31 (C1)))
def Ai5 (K:Nat)(v2:List Int)(v3:List Int)(v4:List Ax)(v5:Int)(v6:Int)(v7:Int)(v8:Int)(v9:Int)(v10:Int)(v11:Int)(v12:Int)(v13:List Int)(v14:List Int)(v15:List Int)(v16:List Ba)(v17:List Ax)(v18:List Int)(v22:Int)(v23:Int)(v25:List Int)(C1:(List Int)->(List Int)->(List Int)->(List Ax)->Int->Int->Int->Int->Int->Int->Int->Int->(List Int)->(List Int)->(List Int)->(List Ba)->(List Ax)->(List Int)->Option (Bool)):Nat->(List Int)->Int->Int->(List Int)->Option (Bool)
 |0,_,_,_,_=>none
 |n3+1,v27,v28,v29,v30=>(bif (decide (v29<v28))then(if(0:Int)≤v29∧v29<(v25.length:Int)then(if(0:Int)≤(gt v25 v29)∧(gt v25 v29)<(v27.length:Int)then(if(0:Int)≤(gt v25 v29)∧(gt v25 v29)<(v27.length:Int)then(if(0:Int)≤(gt v25 v29)∧(gt v25 v29)<(v14.length:Int)then(bif ((gt v14 (gt v25 v29)) != 2)then some false else(Ai5 K v2 v3 v4 v5 v6 v7 v8 v9 v10 v11 v12 v13 v14 v15 v16 v17 v18 v22 v23 v25 C1 n3 (v27.set (gt v25 v29).toNat (Aoa .i64 (gt v27 (gt v25 v29)) 1)) v28 (Aoa .i64 v29 1) v30))else none)else none)else none)else none)else(bif (decide (v22>0))then(if(0:Int)≤(Aob .i64 v22 1)∧(Aob .i64 v22 1)<(v2.length:Int)then(if(0:Int)≤(Aob .i64 v22 1)∧(Aob .i64 v22 1)<(v2.length:Int)then(if(0:Int)≤(Aob .i64 v22 1)∧(Aob .i64 v22 1)<(v16.length:Int)then(bif (((gt v16 (Aob .i64 v22 1)).Hh) != 2)then some false else(Ape K v3 v4 v5 v6 v7 v8 v9 v10 v11 v12 v13 v14 v15 v16 v17 v18 v23 v27 (C1) (v2.set (Aob .i64 v22 1).toNat (Aoa .i64 (gt v2 (Aob .i64 v22 1)) 1))))else none)else none)else none)else(Ape K v3 v4 v5 v6 v7 v8 v9 v10 v11 v12 v13 v14 v15 v16 v17 v18 v23 v27 (C1) v2)))
def Apf (K:Nat)(v1:List Int)(v2:List Int)(v3:List Int)(v4:List Ax)(v5:Int)(v6:Int)(v7:Int)(v8:Int)(v9:Int)(v10:Int)(v11:Int)(v12:Int)(v13:List Int)(v14:List Int)(v15:List Int)(v16:List Ba)(v17:List Ax)(v18:List Int)(C1:(List Int)->(List Int)->(List Int)->(List Ax)->Int->Int->Int->Int->Int->Int->Int->Int->(List Int)->(List Int)->(List Int)->(List Ba)->(List Ax)->(List Int)->Option (Bool))(v22:Int)(v23:Int)(v24:List Int)(v25:List Int)(v26:Int):Option (Bool):=(Ai5 K v2 v3 v4 v5 v6 v7 v8 v9 v10 v11 v12 v13 v14 v15 v16 v17 v18 v22 v23 v25 (C1) K v1 (v25.length:Int) 0 v25)
def Aqa (K:Nat)(v37:Int)(v38:Int)(v39:List Int)(C7:Int->Int->(List Int)->Option (Bool)):Option (Bool):=(C7 v37 (Aoa .i64 v38 1) v39)
def Ak8 (K:Nat)(v40:Int)(v41:Int)(v42:List Ba)(C9:Int->Int->(List Ba)->Option (Bool)):Option (Bool):=(C9 v40 (Aoa .i64 v41 1) v42)
def Aek (K:Nat)(v2:List Int)(v3:List Int)(v16:List Ba):Nat->Int->Int->(List Ba)->Option (Bool)
 |0,_,_,_=>none
 |n9+1,v40,v41,v42=>(bif (decide (v41<v40))then(if(0:Int)≤v41∧v41<(v16.length:Int)then(bif (((gt v16 v41).Hh)==2)then(if(0:Int)≤v41∧v41<(v2.length:Int)then(bif ((gt v2 v41) != 1)then some false else((Aq0 K v42 v41).bind fun r43=>(bif r43 then(if(0:Int)≤v41∧v41<(v3.length:Int)then(bif ((gt v3 v41) != 1)then some false else(Ak8 K v40 v41 v42 (Aek K v2 v3 v16 n9)))else none)else(Ak8 K v40 v41 v42 (Aek K v2 v3 v16 n9)))))else none)else((Aq0 K v42 v41).bind fun r44=>(bif r44 then(if(0:Int)≤v41∧v41<(v3.length:Int)then(bif ((gt v3 v41) != 1)then some false else(Ak8 K v40 v41 v42 (Aek K v2 v3 v16 n9)))else none)else(Ak8 K v40 v41 v42 (Aek K v2 v3 v16 n9)))))else none)else some true)
def Ag3 (K:Nat)(v1:List Int)(v2:List Int)(v3:List Int)(v14:List Int)(v16:List Ba):Nat->Int->Int->(List Int)->Option (Bool)
 |0,_,_,_=>none
 |n7+1,v37,v38,v39=>(bif (decide (v38<v37))then(if(0:Int)≤v38∧v38<(v14.length:Int)then(bif ((gt v14 v38)==2)then(if(0:Int)≤v38∧v38<(v1.length:Int)then(bif ((gt v1 v38) != 1)then some false else(Aqa K v37 v38 v39 (Ag3 K v1 v2 v3 v14 v16 n7)))else none)else(Aqa K v37 v38 v39 (Ag3 K v1 v2 v3 v14 v16 n7)))else none)else(Aek K v2 v3 v16 K (v16.length:Int) 0 v16))
def Aa1 (K:Nat):Nat->(List Int)->(List Int)->(List Int)->(List Ax)->Int->Int->Int->Int->Int->Int->Int->Int->(List Int)->(List Int)->(List Int)->(List Ba)->(List Ax)->(List Int)->Option (Bool)
 |0,_,_,_,_,_,_,_,_,_,_,_,_,_,_,_,_,_,_=>none
 |n1+1,v1,v2,v3,v4,v5,v6,v7,v8,v9,v10,v11,v12,v13,v14,v15,v16,v17,v18=>(bif (decide (v6<v5))then(if(0:Int)≤v6∧v6<(v4.length:Int)then((Avu K (Er.mk v7 v8 v9 v10 v11 v12) (gt v4 v6)).bind fun r19=>(bif r19 then(bif (decide ((((gt v4 v6).Ae).length:Int)>0))then(if(0:Int)≤0∧0<(((gt v4 v6).Ae).length:Int)then((Aq4 K (Dw.mk v13 v14 v15) (Er.mk v7 v8 v9 v10 v11 v12) (gt ((gt v4 v6).Ae) 0)).bind fun r20=>(if(0:Int)≤0∧0≤((gt v4 v6).Gu)∧((gt v4 v6).Gu)≤(r20.length:Int)then((Asl K ((r20.drop (0:Int).toNat).take (((gt v4 v6).Gu) - 0).toNat)).bind fun r21=>(bif (!r21)then some false else(Apf K v1 v2 v3 v4 v5 v6 v7 v8 v9 v10 v11 v12 v13 v14 v15 v16 v17 v18 (Aa1 K n1) ((gt v4 v6).A5) ((gt v4 v6).Bt) ((gt v4 v6).Dg) ((gt v4 v6).Ae) ((gt v4 v6).Gu))))else none))else none)else(Apf K v1 v2 v3 v4 v5 v6 v7 v8 v9 v10 v11 v12 v13 v14 v15 v16 v17 v18 (Aa1 K n1) ((gt v4 v6).A5) ((gt v4 v6).Bt) ((gt v4 v6).Dg) ((gt v4 v6).Ae) ((gt v4 v6).Gu)))else some false))else none)else(Ag3 K v1 v2 v3 v14 v16 K (v14.length:Int) 0 v14))
def Aq7 (K:Nat)(a0:Eb):Option (Bool):=(if(0:Int)≤a0.fC.Ae∧a0.fC.Ae≤a0.fC.Ae∧(8:Int)*a0.fC.Ae≤281474976710656∧a0.fC.Ae≤9223372036854775807 then(if(0:Int)≤a0.fC.C0∧a0.fC.C0≤a0.fC.C0∧(8:Int)*a0.fC.C0≤281474976710656∧a0.fC.C0≤9223372036854775807 then(if(0:Int)≤a0.fC.C0∧a0.fC.C0≤a0.fC.C0∧(8:Int)*a0.fC.C0≤281474976710656∧a0.fC.C0≤9223372036854775807 then(Aa1 K K (List.replicate a0.fC.Ae.toNat 0) (List.replicate a0.fC.C0.toNat 0) (List.replicate a0.fC.C0.toNat 0) a0.fQ (a0.fQ.length:Int) 0 a0.fC.Ae a0.fC.Eg a0.fC.C0 a0.fC.E9 a0.fC.C1 a0.fC.Eh a0.fP.Fy a0.fP.Hh a0.fP.Fz a0.fL a0.fQ a0.Pr)else none)else none)else none)
def s_126:Sig:=⟨[.v 32],[.v 4],true⟩
def Bsu (K:Nat):Gb tyU:=⟨s_126,Aq7 K⟩
def Azj (K:Nat):=xF s_126 [(206,Bst K),(226,Bpr K),(227,Bv2 K),(234,Bss K),(235,Bsq K)] [] 191 [38,39,40,44,45,105,106,150,151,169,170,175,176,177,181,182] [] [] [979,2003,3737,14951,29903] [.tmp 2]
def Ay7:E5:=⟨[(1,.p 101),(3,.o 1003 3 true),(4,.o 1004 3 true),(5,.o 1005 3 true),(29,.v 30),(30,.v 2),(31,.v 2),(121,.v 26),(122,.v 2),(123,.v 2)],[(101,.box [.v 2,.v 2,.v 2,.v 2,.v 2,.v 2,.v 22,.v 26,.v 26,.v 29,.v 30,.v 26])]⟩
def Az0:E5:=⟨[(1,.p 101),(3,.o 1003 3 true),(4,.o 1004 3 true),(5,.o 1005 3 true),(7,.p 107),(29,.v 30),(30,.v 2),(31,.v 2)],[(107,.box [.v 2,.v 2,.v 26,.v 26,.v 2]),(101,.box [.v 2,.v 2,.v 2,.v 2,.v 2,.v 2,.v 22,.v 26,.v 26,.v 29,.v 30,.v 26])]⟩
def Az1:E5:=⟨[(1,.p 101),(3,.o 1003 3 true),(4,.o 1004 3 true),(5,.o 1005 3 true),(7,.p 107),(29,.v 30),(30,.v 2),(31,.v 2)],[(107,.box [.v 2,.v 2,.v 26,.v 26,.v 2]),(101,.box [.v 2,.v 2,.v 2,.v 2,.v 2,.v 2,.v 22,.v 26,.v 26,.v 29,.v 30,.v 26])]⟩
def Az2:E5:=⟨[(1,.p 101),(3,.o 1003 3 true),(4,.o 1004 3 true),(5,.o 1005 3 true),(7,.p 107),(29,.v 30),(30,.v 2),(31,.v 2),(63,.v 26),(64,.v 2),(65,.v 2)],[(107,.box [.v 2,.v 2,.v 26,.v 26,.v 2]),(101,.box [.v 2,.v 2,.v 2,.v 2,.v 2,.v 2,.v 22,.v 26,.v 26,.v 29,.v 30,.v 26])]⟩
def A0z:E5:=⟨[(1,.p 101),(3,.o 1003 3 true),(4,.o 1004 3 true),(5,.o 1005 3 true),(7,.p 107),(29,.v 30),(30,.v 2),(31,.v 2)],[(107,.box [.v 2,.v 2,.v 26,.v 26,.v 2]),(101,.box [.v 2,.v 2,.v 2,.v 2,.v 2,.v 2,.v 22,.v 26,.v 26,.v 29,.v 30,.v 26])]⟩
def A2y:E5:=⟨[(1,.p 101),(3,.o 1003 3 true),(4,.o 1004 3 true),(5,.o 1005 3 true),(142,.v 26),(143,.v 2),(144,.v 2)],[(101,.box [.v 2,.v 2,.v 2,.v 2,.v 2,.v 2,.v 22,.v 26,.v 26,.v 29,.v 30,.v 26])]⟩
def A00:E5:=⟨[(1,.p 101),(4,.o 1004 3 true),(5,.o 1005 3 true),(160,.v 29),(161,.v 2),(162,.v 2)],[(101,.box [.v 2,.v 2,.v 2,.v 2,.v 2,.v 2,.v 22,.v 26,.v 26,.v 29,.v 30,.v 26])]⟩
def Au8:E5:=⟨[(1,.p 101),(4,.o 1004 3 true),(5,.o 1005 3 true),(160,.v 29),(161,.v 2),(162,.v 2)],[(101,.box [.v 2,.v 2,.v 2,.v 2,.v 2,.v 2,.v 22,.v 26,.v 26,.v 29,.v 30,.v 26])]⟩
def Au9:E5:=⟨[(1,.p 101),(3,.o 1003 3 true),(4,.o 1004 3 true),(5,.o 1005 3 true),(142,.v 26),(143,.v 2),(144,.v 2)],[(101,.box [.v 2,.v 2,.v 2,.v 2,.v 2,.v 2,.v 22,.v 26,.v 26,.v 29,.v 30,.v 26])]⟩
def Aiy:E5:=⟨[(1,.p 101),(3,.o 1003 3 true),(4,.o 1004 3 true),(5,.o 1005 3 true),(29,.v 30),(30,.v 2),(31,.v 2)],[(101,.box [.v 2,.v 2,.v 2,.v 2,.v 2,.v 2,.v 22,.v 26,.v 26,.v 29,.v 30,.v 26])]⟩
def Ay8 (K:Nat)(C58:CT Aiy s_126)(n:Nat)(q:PT Ay7):Rt s_126:=Ai4 K q.2.2.2.1 q.2.2.2.2.1 q.2.2.2.2.2.1 q.2.2.2.2.2.2.2.2.2.1 q.2.2.2.2.2.2.2.2.2.2.1 q.2.2.2.2.2.2.2.2.2.2.2.1 q.2.2.2.2.2.2.2.2.2.2.2.2.1 q.2.2.2.2.2.2.2.2.2.2.2.2.2.1 q.2.2.2.2.2.2.2.2.2.2.2.2.2.2.1 q.2.2.2.2.2.2.2.2.2.2.2.2.2.2.2.1 q.2.2.2.2.2.2.2.2.2.2.2.2.2.2.2.2.1 q.2.2.2.2.2.2.2.2.2.2.2.2.2.2.2.2.2.1 q.2.2.2.2.2.2.2.2.2.2.2.2.2.2.2.2.2.2.1 q.2.2.2.2.2.2.2.2.2.2.2.2.2.2.2.2.2.2.2.1 q.2.2.2.2.2.2.2.2.2.2.2.2.2.2.2.2.2.2.2.2.1 q.1 q.2.1 q.2.2.2.2.2.2.1 (fun v1 v2 v3 v4 v5 v6 v7 v8 v9 v10 v11 v12 v13 v14 v15 v16 v17 v18=>C58 (v1,v2,v3,v4,v5,v6,v7,v8,v9,v10,v11,v12,v13,v14,v15,v16,v17,v18,())) n q.2.2.1 q.2.2.2.2.2.2.2.1 q.2.2.2.2.2.2.2.2.1
def Az3 (K:Nat)(C58:CT Aiy s_126)(q:PT Az0):Rt s_126:=Apd K q.2.2.1 q.2.2.2.1 q.2.2.2.2.1 q.2.2.2.2.2.1 q.2.2.2.2.2.2.2.2.2.2.2.1 q.2.2.2.2.2.2.2.2.2.2.2.2.1 q.2.2.2.2.2.2.2.2.2.2.2.2.2.1 q.2.2.2.2.2.2.2.2.2.2.2.2.2.2.1 q.2.2.2.2.2.2.2.2.2.2.2.2.2.2.2.1 q.2.2.2.2.2.2.2.2.2.2.2.2.2.2.2.2.1 q.2.2.2.2.2.2.2.2.2.2.2.2.2.2.2.2.2.1 q.2.2.2.2.2.2.2.2.2.2.2.2.2.2.2.2.2.2.1 q.2.2.2.2.2.2.2.2.2.2.2.2.2.2.2.2.2.2.2.1 q.2.2.2.2.2.2.2.2.2.2.2.2.2.2.2.2.2.2.2.2.1 q.2.2.2.2.2.2.2.2.2.2.2.2.2.2.2.2.2.2.2.2.2.1 q.2.2.2.2.2.2.2.2.2.2.2.2.2.2.2.2.2.2.2.2.2.2.1 q.2.2.2.2.2.2.2.1 q.1 q.2.1 (fun v1 v2 v3 v4 v5 v6 v7 v8 v9 v10 v11 v12 v13 v14 v15 v16 v17 v18=>C58 (v1,v2,v3,v4,v5,v6,v7,v8,v9,v10,v11,v12,v13,v14,v15,v16,v17,v18,()))
def Az4 (K:Nat)(C58:CT Aiy s_126)(q:PT Az1):Rt s_126:=Ape K q.2.2.1 q.2.2.2.1 q.2.2.2.2.1 q.2.2.2.2.2.1 q.2.2.2.2.2.2.2.2.2.2.2.1 q.2.2.2.2.2.2.2.2.2.2.2.2.1 q.2.2.2.2.2.2.2.2.2.2.2.2.2.1 q.2.2.2.2.2.2.2.2.2.2.2.2.2.2.1 q.2.2.2.2.2.2.2.2.2.2.2.2.2.2.2.1 q.2.2.2.2.2.2.2.2.2.2.2.2.2.2.2.2.1 q.2.2.2.2.2.2.2.2.2.2.2.2.2.2.2.2.2.1 q.2.2.2.2.2.2.2.2.2.2.2.2.2.2.2.2.2.2.1 q.2.2.2.2.2.2.2.2.2.2.2.2.2.2.2.2.2.2.2.1 q.2.2.2.2.2.2.2.2.2.2.2.2.2.2.2.2.2.2.2.2.1 q.2.2.2.2.2.2.2.2.2.2.2.2.2.2.2.2.2.2.2.2.2.1 q.2.2.2.2.2.2.2.2.2.2.2.2.2.2.2.2.2.2.2.2.2.2.1 q.2.2.2.2.2.2.2.1 q.1 (fun v1 v2 v3 v4 v5 v6 v7 v8 v9 v10 v11 v12 v13 v14 v15 v16 v17 v18=>C58 (v1,v2,v3,v4,v5,v6,v7,v8,v9,v10,v11,v12,v13,v14,v15,v16,v17,v18,())) q.2.1
def Az5 (K:Nat)(C58:CT Aiy s_126)(n:Nat)(q:PT Az2):Rt s_126:=Ai5 K q.2.1 q.2.2.1 q.2.2.2.1 q.2.2.2.2.1 q.2.2.2.2.2.1 q.2.2.2.2.2.2.2.2.2.2.2.2.2.2.1 q.2.2.2.2.2.2.2.2.2.2.2.2.2.2.2.1 q.2.2.2.2.2.2.2.2.2.2.2.2.2.2.2.2.1 q.2.2.2.2.2.2.2.2.2.2.2.2.2.2.2.2.2.1 q.2.2.2.2.2.2.2.2.2.2.2.2.2.2.2.2.2.2.1 q.2.2.2.2.2.2.2.2.2.2.2.2.2.2.2.2.2.2.2.1 q.2.2.2.2.2.2.2.2.2.2.2.2.2.2.2.2.2.2.2.2.1 q.2.2.2.2.2.2.2.2.2.2.2.2.2.2.2.2.2.2.2.2.2.1 q.2.2.2.2.2.2.2.2.2.2.2.2.2.2.2.2.2.2.2.2.2.2.1 q.2.2.2.2.2.2.2.2.2.2.2.2.2.2.2.2.2.2.2.2.2.2.2.1 q.2.2.2.2.2.2.2.2.2.2.2.2.2.2.2.2.2.2.2.2.2.2.2.2.1 q.2.2.2.2.2.2.2.2.2.2.2.2.2.2.2.2.2.2.2.2.2.2.2.2.2.1 q.2.2.2.2.2.2.2.2.2.1 q.2.2.2.2.2.2.2.2.2.2.1 q.2.2.2.2.2.2.1 (fun v1 v2 v3 v4 v5 v6 v7 v8 v9 v10 v11 v12 v13 v14 v15 v16 v17 v18=>C58 (v1,v2,v3,v4,v5,v6,v7,v8,v9,v10,v11,v12,v13,v14,v15,v16,v17,v18,())) n q.1 q.2.2.2.2.2.2.2.1 q.2.2.2.2.2.2.2.2.1 q.2.2.2.2.2.2.2.2.2.2.2.2.1
def A01 (K:Nat)(C58:CT Aiy s_126)(q:PT A0z):Rt s_126:=Apf K q.1 q.2.1 q.2.2.1 q.2.2.2.1 q.2.2.2.2.1 q.2.2.2.2.2.1 q.2.2.2.2.2.2.2.2.2.2.2.1 q.2.2.2.2.2.2.2.2.2.2.2.2.1 q.2.2.2.2.2.2.2.2.2.2.2.2.2.1 q.2.2.2.2.2.2.2.2.2.2.2.2.2.2.1 q.2.2.2.2.2.2.2.2.2.2.2.2.2.2.2.1 q.2.2.2.2.2.2.2.2.2.2.2.2.2.2.2.2.1 q.2.2.2.2.2.2.2.2.2.2.2.2.2.2.2.2.2.1 q.2.2.2.2.2.2.2.2.2.2.2.2.2.2.2.2.2.2.1 q.2.2.2.2.2.2.2.2.2.2.2.2.2.2.2.2.2.2.2.1 q.2.2.2.2.2.2.2.2.2.2.2.2.2.2.2.2.2.2.2.2.1 q.2.2.2.2.2.2.2.2.2.2.2.2.2.2.2.2.2.2.2.2.2.1 q.2.2.2.2.2.2.2.2.2.2.2.2.2.2.2.2.2.2.2.2.2.2.1 (fun v1 v2 v3 v4 v5 v6 v7 v8 v9 v10 v11 v12 v13 v14 v15 v16 v17 v18=>C58 (v1,v2,v3,v4,v5,v6,v7,v8,v9,v10,v11,v12,v13,v14,v15,v16,v17,v18,())) q.2.2.2.2.2.2.1 q.2.2.2.2.2.2.2.1 q.2.2.2.2.2.2.2.2.1 q.2.2.2.2.2.2.2.2.2.1 q.2.2.2.2.2.2.2.2.2.2.1
def A2z (K:Nat)(C122:CT Au9 s_126)(q:PT A2y):Rt s_126:=Aqa K q.2.2.2.2.1 q.2.2.2.2.2.1 q.2.2.2.2.2.2.2.2.2.2.2.2.2.1 (fun v37 v38 v39=>C122 (q.1,q.2.1,q.2.2.1,q.2.2.2.1,v37,v38,q.2.2.2.2.2.2.1,q.2.2.2.2.2.2.2.1,q.2.2.2.2.2.2.2.2.1,q.2.2.2.2.2.2.2.2.2.1,q.2.2.2.2.2.2.2.2.2.2.1,q.2.2.2.2.2.2.2.2.2.2.2.1,q.2.2.2.2.2.2.2.2.2.2.2.2.1,v39,q.2.2.2.2.2.2.2.2.2.2.2.2.2.2.1,q.2.2.2.2.2.2.2.2.2.2.2.2.2.2.2.1,q.2.2.2.2.2.2.2.2.2.2.2.2.2.2.2.2.1,q.2.2.2.2.2.2.2.2.2.2.2.2.2.2.2.2.2.1,()))
def A02 (K:Nat)(C250:CT Au8 s_126)(q:PT A00):Rt s_126:=Ak8 K q.2.2.2.1 q.2.2.2.2.1 q.2.2.2.2.2.2.2.2.2.2.2.2.2.2.1 (fun v40 v41 v42=>C250 (q.1,q.2.1,q.2.2.1,v40,v41,q.2.2.2.2.2.1,q.2.2.2.2.2.2.1,q.2.2.2.2.2.2.2.1,q.2.2.2.2.2.2.2.2.1,q.2.2.2.2.2.2.2.2.2.1,q.2.2.2.2.2.2.2.2.2.2.1,q.2.2.2.2.2.2.2.2.2.2.2.1,q.2.2.2.2.2.2.2.2.2.2.2.2.1,q.2.2.2.2.2.2.2.2.2.2.2.2.2.1,v42,q.2.2.2.2.2.2.2.2.2.2.2.2.2.2.2.1,q.2.2.2.2.2.2.2.2.2.2.2.2.2.2.2.2.1,()))
def Ayy (K:Nat)(n:Nat)(q:PT Au8):Rt s_126:=Aek K q.1 q.2.1 q.2.2.1 n q.2.2.2.1 q.2.2.2.2.1 q.2.2.2.2.2.2.2.2.2.2.2.2.2.2.1
def Ayz (K:Nat)(n:Nat)(q:PT Au9):Rt s_126:=Ag3 K q.1 q.2.1 q.2.2.1 q.2.2.2.1 q.2.2.2.2.2.2.2.2.2.2.2.2.2.2.2.1 n q.2.2.2.2.1 q.2.2.2.2.2.1 q.2.2.2.2.2.2.2.2.2.2.2.2.2.1
def Az6 (K:Nat)(n:Nat)(q:PT Aiy):Rt s_126:=Aa1 K n q.1 q.2.1 q.2.2.1 q.2.2.2.1 q.2.2.2.2.1 q.2.2.2.2.2.1 q.2.2.2.2.2.2.1 q.2.2.2.2.2.2.2.1 q.2.2.2.2.2.2.2.2.1 q.2.2.2.2.2.2.2.2.2.1 q.2.2.2.2.2.2.2.2.2.2.1 q.2.2.2.2.2.2.2.2.2.2.2.1 q.2.2.2.2.2.2.2.2.2.2.2.2.1 q.2.2.2.2.2.2.2.2.2.2.2.2.2.1 q.2.2.2.2.2.2.2.2.2.2.2.2.2.2.1 q.2.2.2.2.2.2.2.2.2.2.2.2.2.2.2.1 q.2.2.2.2.2.2.2.2.2.2.2.2.2.2.2.2.1 q.2.2.2.2.2.2.2.2.2.2.2.2.2.2.2.2.2.1
theorem A92 (K:Nat)(C58:CT Aiy s_126):AtL (Azj K) (fun n=>[]) [(58,ar Aiy C58)] (bd Tryz.f156) 239230 (Ay8 K C58):=fun n q=>by kernel_rfl
theorem Bbd (K:Nat)(C58:CT Aiy s_126):AtJ (Azj K) [(239230,ar Ay7 (Ay8 K C58 K))] [(58,ar Aiy C58)] (bd Tryz.f156) 29903 (Az3 K C58):=fun q=>by kernel_rfl
theorem Bbe (K:Nat)(C58:CT Aiy s_126):AtJ (Azj K) [(29903,ar Az0 (Az3 K C58))] [(58,ar Aiy C58)] (bd Tryz.f156) 14951 (Az4 K C58):=fun q=>by kernel_rfl
theorem Bbf (K:Nat)(C58:CT Aiy s_126):AtL (Azj K) (fun n=>[(14951,ar Az1 (Az4 K C58))]) [(58,ar Aiy C58)] (bd Tryz.f156) 59802 (Az5 K C58):=fun n q=>by kernel_rfl
theorem Bc7 (K:Nat)(C58:CT Aiy s_126):AtJ (Azj K) [(59802,ar Az2 (Az5 K C58 K))] [(58,ar Aiy C58)] (bd Tryz.f156) 3737 (A01 K C58):=fun q=>by kernel_rfl
theorem Bfv (K:Nat)(C122:CT Au9 s_126):AtJ (Azj K) [] [(122,ar Au9 C122)] (bd Tryz.f156) 979 (A2z K C122):=fun q=>by kernel_rfl
theorem Bc8 (K:Nat)(C250:CT Au8 s_126):AtJ (Azj K) [] [(250,ar Au8 C250)] (bd Tryz.f156) 2003 (A02 K C250):=fun q=>by kernel_rfl
theorem Bfw (K:Nat):AtL (Azj K) (fun n=>[(2003,ar A00 (A02 K (Ayy K n)))]) [] (bd Tryz.f156) 250 (Ayy K):=fun n q=>by kernel_rfl
theorem Bfx (K:Nat):AtL (Azj K) (fun n=>[(979,ar A2y (A2z K (Ayz K n))),(250,ar Au8 (Ayy K K))]) [] (bd Tryz.f156) 122 (Ayz K):=fun n q=>by kernel_rfl
theorem Bkb (K:Nat):AtL (Azj K) (fun n=>[(3737,ar A0z (A01 K (Az6 K n))),(122,ar Au9 (Ayz K K))]) [] (bd Tryz.f156) 58 (Az6 K):=fun n q=>by kernel_rfl
theorem Axu (K:Nat):XF [.tmp 2] s_126 191 [979,2003,3737,14951,29903] (Azj K):=xkF (gC (Bwx K) (gC (Bis K) (gC (Brm K) (gC (Bww K) (gC (Bwv K) gN))))) oN
theorem A93 (K:Nat)(C58:CT Aiy s_126)(n:Nat):CF [.tmp 2] s_126 191 [979,2003,3737,14951,29903] (bd Tryz.f156) [(58,ar Aiy C58)] 239230 (ar Ay7 (Ay8 K C58 n)):=
 Aeh (Axu K) (A92 K C58) (fun n=>kN) n
theorem Bbg (K:Nat)(C58:CT Aiy s_126):CF [.tmp 2] s_126 191 [979,2003,3737,14951,29903] (bd Tryz.f156) [(58,ar Aiy C58)] 29903 (ar Az0 (Az3 K C58)):=
 Amf (Axu K) (Bbd K C58) (kC (A93 K C58 K) kN)
theorem Bbh (K:Nat)(C58:CT Aiy s_126):CF [.tmp 2] s_126 191 [979,2003,3737,14951,29903] (bd Tryz.f156) [(58,ar Aiy C58)] 14951 (ar Az1 (Az4 K C58)):=
 Amf (Axu K) (Bbe K C58) (kC (Bbg K C58) kN)
theorem Bbi (K:Nat)(C58:CT Aiy s_126)(n:Nat):CF [.tmp 2] s_126 191 [979,2003,3737,14951,29903] (bd Tryz.f156) [(58,ar Aiy C58)] 59802 (ar Az2 (Az5 K C58 n)):=
 Aeh (Axu K) (Bbf K C58) (fun n=>(kC (Ao2 (by kernel_rfl) (Bbh K C58)) kN)) n
theorem Bc9 (K:Nat)(C58:CT Aiy s_126):CF [.tmp 2] s_126 191 [979,2003,3737,14951,29903] (bd Tryz.f156) [(58,ar Aiy C58)] 3737 (ar A0z (A01 K C58)):=
 Amf (Axu K) (Bc7 K C58) (kC (Bbi K C58 K) kN)
theorem Bfy (K:Nat)(C122:CT Au9 s_126):CF [.tmp 2] s_126 191 [979,2003,3737,14951,29903] (bd Tryz.f156) [(122,ar Au9 C122)] 979 (ar A2y (A2z K C122)):=
 Amf (Axu K) (Bfv K C122) kN
theorem Bda (K:Nat)(C250:CT Au8 s_126):CF [.tmp 2] s_126 191 [979,2003,3737,14951,29903] (bd Tryz.f156) [(250,ar Au8 C250)] 2003 (ar A00 (A02 K C250)):=
 Amf (Axu K) (Bc8 K C250) kN
theorem Bfz (K:Nat)(n:Nat):CF [.tmp 2] s_126 191 [979,2003,3737,14951,29903] (bd Tryz.f156) [] 250 (ar Au8 (Ayy K n)):=
 Aeh (Axu K) (Bfw K) (fun n=>(kC (Bda K (Ayy K n)) kN)) n
theorem Bf0 (K:Nat)(n:Nat):CF [.tmp 2] s_126 191 [979,2003,3737,14951,29903] (bd Tryz.f156) [] 122 (ar Au9 (Ayz K n)):=
 Aeh (Axu K) (Bfx K) (fun n=>(kC (Bfy K (Ayz K n)) (kC (Ao2 (by kernel_rfl) (Bfz K K)) kN))) n
theorem Bkc (K:Nat)(n:Nat):CF [.tmp 2] s_126 191 [979,2003,3737,14951,29903] (bd Tryz.f156) [] 58 (ar Aiy (Az6 K n)):=
 Aeh (Axu K) (Bkb K) (fun n=>(kC (Bc9 K (Az6 K n)) (kC (Ao2 (by kernel_rfl) (Bf0 K K)) kN))) n
theorem Bwy (K:Nat):OkF 156 (Bsu K):=
 Aa6 (x:=Azj K) (L:=[(58,ar Aiy (Az6 K K))]) (c0:=bd Tryz.f156) (Axu K) (by intro a0;show @Eq _ _ _;kernel_rfl) (kC (Bkc K K) kN) Tryz.func156 trivial
def Avv (K:Nat)(a0:Eb):Option (Bool):=((Aws K a0.fC a0.fP).bind fun r1=>(bif r1 then(bif ((a0.fL.length:Int)==a0.fC.C0)then((Aq6 K a0).bind fun r2=>(bif r2 then((Awu K a0.fL).bind fun r3=>(bif r3 then((Aq7 K a0).bind fun r4=>(bif r4 then((Aqz K a0.Pr).bind fun r5=>some r5)else some false))else some false))else some false))else some false)else some false))
def Bsv:Sig:=⟨[.v 32],[.v 4],true⟩
def Bsw (K:Nat):Gb tyU:=⟨Bsv,Avv K⟩
def B3s (K:Nat):=xF Bsv [(153,B2g K),(154,Bsi K),(155,Bso K),(156,Bsu K),(157,Bp5 K)] [] 35 [7,8,15,16,17,19,20,21,24,25,26,28,29,30] [] [] [] [.tmp 2]
theorem Bwz (K:Nat):OkF 87 (Bsw K):=
 Aa6 (x:=B3s K) (L:=[]) (c0:=bd Tryz.f87) (xkF (gC (B2h K) (gC (Bwr K) (gC (Bwu K) (gC (Bwy K) (gC (Biw K) gN))))) oN) (by intro a0;show @Eq _ _ _;kernel_rfl) kN Tryz.func87 trivial
def Arg (K:Nat)(a0:List Int):Option ((List Int)):=(bif a0.isEmpty then Afd (some []) ((if(([]:List Int)++a0).length*1≤140737488355328∧(([]:List Int)++a0).length≤maxLen then some (([]:List Int)++a0)else none))else(if(([]:List Int)++a0).length*1≤140737488355328∧(([]:List Int)++a0).length≤maxLen then some (([]:List Int)++a0)else none))
def Bsx:Sig:=⟨[.v 22],[.n 22 true],true⟩
def Bsy (K:Nat):Gb tyU:=⟨Bsx,Arg K⟩
def B3t (K:Nat):=xF Bsx [] [] 8 [] [] [] [] [.tmp 2]
theorem Bw0 (K:Nat):OkF 188 (Bsy K):=
 Aa6 (x:=B3t K) (L:=[]) (c0:=bd Tryz.f188) (xkF gN oN) (by intro a0;show @Eq _ _ _;kernel_rfl) kN Tryz.func188 trivial
def Asi (K:Nat)(a0:Dw):Option (Dw):=((Arg K a0.Fy).bind fun r1=>((Aen K a0.Hh).bind fun r2=>((Aen K a0.Fz).bind fun r3=>some (Dw.mk r1 r2 r3))))
def Bsz:Sig:=⟨[.v 28],[.n 28 true],true⟩
def Bkd (K:Nat):Gb tyU:=⟨Bsz,Asi K⟩
def B3u (K:Nat):=xF Bsz [(160,Bc0 K),(188,Bsy K)] [] 13 [] [] [] [] [.cell 2 28]
theorem Bke (K:Nat):OkF 158 (Bkd K):=
 Aa6 (x:=B3u K) (L:=[]) (c0:=bd Tryz.f158) (xkF (gC (A7v K) (gC (Bw0 K) gN)) oN) (by intro a0;show @Eq _ _ _;kernel_rfl) kN Tryz.func158 trivial
def App (K:Nat)(a0:List A9):Option ((List A9)):=(bif a0.isEmpty then Afd (some []) ((if(([]:List A9)++a0).length*24≤140737488355328∧(([]:List A9)++a0).length≤maxLen then some (([]:List A9)++a0)else none))else(if(([]:List A9)++a0).length*24≤140737488355328∧(([]:List A9)++a0).length≤maxLen then some (([]:List A9)++a0)else none))
def Bs0:Sig:=⟨[.v 41],[.n 41 true],true⟩
def Bs1 (K:Nat):Gb tyU:=⟨Bs0,App K⟩
def B3v (K:Nat):=xF Bs0 [] [] 8 [] [] [] [] [.tmp 2]
theorem Bw1 (K:Nat):OkF 273 (Bs1 K):=
 Aa6 (x:=B3v K) (L:=[]) (c0:=bd Tryz.f273) (xkF gN oN) (by intro a0;show @Eq _ _ _;kernel_rfl) kN Tryz.func273 trivial
def Aut (K:Nat)(a0:Ba):Option (Ba):=((Aen K a0.Ae).bind fun r1=>((App K a0.Ea).bind fun r2=>((Aen K a0.Dg).bind fun r3=>some (Ba.mk a0.Hh a0.C2 a0.Ly a0.fUp a0.Gq a0.Bt a0.Gr a0.Gs r1 a0.Pq a0.Gt r2 r3))))
def Bs2:Sig:=⟨[.v 44],[.n 44 true],true⟩
def Bs3 (K:Nat):Gb tyU:=⟨Bs2,Aut K⟩
def B3w (K:Nat):=xF Bs2 [(160,Bc0 K),(273,Bs1 K)] [] 16 [] [] [] [] [.cell 2 44]
theorem Bw2 (K:Nat):OkF 238 (Bs3 K):=
 Aa6 (x:=B3w K) (L:=[]) (c0:=bd Tryz.f238) (xkF (gC (A7v K) (gC (Bw1 K) gN)) oN) (by intro a0;show @Eq _ _ _;kernel_rfl) kN Tryz.func238 trivial
def Anp (K:Nat)(a0:List Ba):Nat->(List Ba)->Int->Int->Option ((List Ba))
 |0,_,_,_=>none
 |n1+1,v1,v2,v3=>(bif (decide (v3<v2))then(if(0:Int)≤v3∧v3<(a0.length:Int)then((Aut K (gt a0 v3)).bind fun r4=>(if(v1++[r4]).length*152≤140737488355328∧(v1++[r4]).length≤maxLen then(Anp K a0 n1 (v1++[r4]) v2 (Aoa .i64 v3 1))else none))else none)else some v1)
def Arw (K:Nat)(a0:List Ba):Option ((List Ba)):=(Anp K a0 K ([]:List Ba) (a0.length:Int) 0)
def s_132:Sig:=⟨[.v 29],[.n 29 true],true⟩
def Bkf (K:Nat):Gb tyU:=⟨s_132,Arw K⟩
def Bkg (K:Nat):=xF s_132 [(238,Bs3 K)] [] 20 [] [] [(16,[.put 3016])] [] [.tmp 2]
def A5c:E5:=⟨[(3,.o 1003 44 true),(7,.v 29),(8,.v 2),(9,.v 2)],[]⟩
def A5d (K:Nat)(n:Nat)(q:PT A5c):Rt s_132:=Anp K q.2.1 n q.1 q.2.2.1 q.2.2.2.1
theorem Bkh (K:Nat):AtL (Bkg K) (fun n=>[]) [] (bd Tryz.f159) 58 (A5d K):=fun n q=>by kernel_rfl
theorem Bki (K:Nat):XF [.tmp 2] s_132 20 [] (Bkg K):=xkF (gC (Bw2 K) gN) oN
theorem Bkj (K:Nat)(n:Nat):CF [.tmp 2] s_132 20 [] (bd Tryz.f159) [] 58 (ar A5c (A5d K n)):=
 Aeh (Bki K) (Bkh K) (fun n=>kN) n
theorem Bkk (K:Nat):OkF 159 (Bkf K):=
 Aa6 (x:=Bkg K) (L:=[(58,ar A5c (A5d K K))]) (c0:=bd Tryz.f159) (Bki K) (by intro a0;show @Eq _ _ _;kernel_rfl) (kC (Bkj K K) kN) Tryz.func159 trivial
def Att (K:Nat)(a0:Ax):Option (Ax):=((Aen K a0.Dg).bind fun r1=>((Aen K a0.Ae).bind fun r2=>some (Ax.mk a0.A5 a0.Bt r1 r2 a0.Gu)))
def Bs4:Sig:=⟨[.v 159],[.n 159 true],true⟩
def Bs5 (K:Nat):Gb tyU:=⟨Bs4,Att K⟩
def B3x (K:Nat):=xF Bs4 [(160,Bc0 K)] [] 12 [] [] [] [] [.cell 2 159]
theorem Bw3 (K:Nat):OkF 161 (Bs5 K):=
 Aa6 (x:=B3x K) (L:=[]) (c0:=bd Tryz.f161) (xkF (gC (A7v K) gN) oN) (by intro a0;show @Eq _ _ _;kernel_rfl) kN Tryz.func161 trivial
def Anq (K:Nat):Nat->(List Ax)->Int->Int->Eb->Eb->Option (Eb)
 |0,_,_,_,_,_=>none
 |n1+1,v4,v5,v6,v7,v8=>(bif (decide (v6<v5))then(if(0:Int)≤v6∧v6<(v4.length:Int)then((Att K (gt v4 v6)).bind fun r9=>(if(v7.fQ.length+1)*72≤140737488355328∧v7.fQ.length+1≤maxLen then(Anq K n1 v4 v5 (Aoa .i64 v6 1) (Eb.mk v7.fC v7.fP v7.fL ((v7.fQ++[(default:Ax)]).set (v7.fQ.length:Int).toNat r9) v7.Pr) v8)else none))else none)else some v7)
def Aqg (K:Nat)(a0:Eb):Option (Eb):=((Asi K a0.fP).bind fun r1=>((Arw K a0.fL).bind fun r2=>((Aen K a0.Pr).bind fun r3=>(Anq K K a0.fQ (a0.fQ.length:Int) 0 (Eb.mk a0.fC r1 r2 [] r3) (Eb.mk (Er.mk 0 0 0 0 0 0) (Dw.mk [] [] []) [] [] [])))))
def s_134:Sig:=⟨[.v 32],[.n 32 true],true⟩
def Bep (K:Nat):Gb tyU:=⟨s_134,Aqg K⟩
def Bkl (K:Nat):=xF s_134 [(158,Bkd K),(159,Bkf K),(160,Bc0 K),(161,Bs5 K)] [] 34 [] [(5,[.take 103 10 6658]),(7,[.take 103 6 6654,.take 103 7 6655,.take 103 8 6656,.take 103 9 6657,.take 103 10 6658,.take 103 11 6659])] [] [] [.cell 2 32]
def A5e:E5:=⟨[(2,.p 102),(3,.p 103),(19,.v 30),(20,.v 2),(21,.v 2)],[(103,.st 32 true),(102,.st 32 true)]⟩
def A5f (K:Nat)(n:Nat)(q:PT A5e):Rt s_134:=Anq K n q.1 q.2.1 q.2.2.1 q.2.2.2.1 q.2.2.2.2.1
theorem Bkm (K:Nat):AtL (Bkl K) (fun n=>[]) [] (bd Tryz.f90) 58 (A5f K):=fun n q=>by kernel_rfl
theorem Bkn (K:Nat):XF [.cell 2 32] s_134 34 [] (Bkl K):=xkF (gC (Bke K) (gC (Bkk K) (gC (A7v K) (gC (Bw3 K) gN)))) oN
theorem Bko (K:Nat)(n:Nat):CF [.cell 2 32] s_134 34 [] (bd Tryz.f90) [] 58 (ar A5e (A5f K n)):=
 Aeh (Bkn K) (Bkm K) (fun n=>kN) n
theorem Bdb (K:Nat):OkF 90 (Bep K):=
 Aa6 (x:=Bkl K) (L:=[(58,ar A5e (A5f K K))]) (c0:=bd Tryz.f90) (Bkn K) (by intro a0;show @Eq _ _ _;kernel_rfl) (kC (Bko K K) kN) Tryz.func90 trivial
def Axv (K:Nat)(a0:Eb)(a1:Int):Option (Eb×Fh):=((Aqg K a0).bind fun r1=>some (r1,(Fh.mk a1 (Ct.mk 0 0) (Fg.mk (Ct.mk 0 0) 0 0) [] 0 0 0)))
def Bs6:Sig:=⟨[.v 32,.v 3],[.n 32 true,.n 69 true],true⟩
def Bs7 (K:Nat):Gb tyU:=⟨Bs6,Axv K⟩
def B3y (K:Nat):=xF Bs6 [(90,Bep K)] [] 10 [] [] [] [] [.cell 4 32,.cell 5 69]
theorem Bw4 (K:Nat):OkF 89 (Bs7 K):=
 Aa6 (x:=B3y K) (L:=[]) (c0:=bd Tryz.f89) (xkF (gC (Bdb K) gN) oN) (by intro a0 a1;show @Eq _ _ _;kernel_rfl) kN Tryz.func89 trivial
def As9 (K:Nat)(a0:List Ba)(a1:Ct):Option (Int):=((Aix K a0 a1.A5).bind fun r1=>(bif r1 then(if(0:Int)≤a1.A5∧a1.A5<(a0.length:Int)then(bif (((gt a0 a1.A5).Hh) != 1)then some (-1)else(if(0:Int)≤a1.A5∧a1.A5<(a0.length:Int)then(bif (((gt a0 a1.A5).C2) != a1.C2)then some (-1)else some a1.A5)else none))else none)else some (-1)))
def Bs8:Sig:=⟨[.v 29,.v 34],[.v 3],true⟩
def Bkp (K:Nat):Gb tyU:=⟨Bs8,As9 K⟩
def B3z (K:Nat):=xF Bs8 [(171,A1t K)] [] 32 [8,9,10,17,18,19] [] [] [] [.tmp 4]
theorem Bkq (K:Nat):OkF 163 (Bkp K):=
 Aa6 (x:=B3z K) (L:=[]) (c0:=bd Tryz.f163) (xkF (gC (Azy K) gN) oN) (by intro a0 a1;show @Eq _ _ _;kernel_rfl) kN Tryz.func163 trivial
def Ayr (K:Nat)(a0:List Ba)(a1:Int):Option (Int):=((Au7 K a0 a1).bind fun r1=>some (r1.length:Int))
def Bs9:Sig:=⟨[.v 29,.v 3],[.v 3],true⟩
def Bta (K:Nat):Gb tyU:=⟨Bs9,Ayr K⟩
def B30 (K:Nat):=xF Bs9 [(232,Ben K)] [] 9 [] [] [] [] [.tmp 4]
theorem Bw5 (K:Nat):OkF 162 (Bta K):=
 Aa6 (x:=B30 K) (L:=[]) (c0:=bd Tryz.f162) (xkF (gC (Bc5 K) gN) oN) (by intro a0 a1;show @Eq _ _ _;kernel_rfl) kN Tryz.func162 trivial
def Aww (K:Nat)(a0:Eb)(a1:Ct):Option (Int):=((As9 K a0.fL a1).bind fun r1=>((Ayr K a0.fL r1).bind fun r2=>some r2))
def Btb:Sig:=⟨[.v 32,.v 34],[.v 3],true⟩
def Btc (K:Nat):Gb tyU:=⟨Btb,Aww K⟩
def B31 (K:Nat):=xF Btb [(162,Bta K),(163,Bkp K)] [] 12 [] [] [] [] [.tmp 4]
theorem Bw6 (K:Nat):OkF 91 (Btc K):=
 Aa6 (x:=B31 K) (L:=[]) (c0:=bd Tryz.f91) (xkF (gC (Bw5 K) (gC (Bkq K) gN)) oN) (by intro a0 a1;show @Eq _ _ _;kernel_rfl) kN Tryz.func91 trivial
def Auu (K:Nat)(a0:Ct):Option (Bool):=(bif (decide (a0.A5≥0))then some (decide (a0.C2≥1))else some false)
def Btd:Sig:=⟨[.v 34],[.v 4],true⟩
def Bte (K:Nat):Gb tyU:=⟨Btd,Auu K⟩
def B32 (K:Nat):=xF Btd [] [] 11 [5,6] [] [] [] [.tmp 2]
theorem Bw7 (K:Nat):OkF 164 (Bte K):=
 Aa6 (x:=B32 K) (L:=[]) (c0:=bd Tryz.f164) (xkF gN oN) (by intro a0;show @Eq _ _ _;kernel_rfl) kN Tryz.func164 trivial
def Avw (K:Nat)(v2:List Int)(v3:Int)(v4:Int)(C1:(List Int)->Int->Int->Option (Bool)):Option (Bool):=(C1 v2 v3 (Aoa .i64 v4 1))
def Arx (K:Nat)(a0:List Ba)(r1:(List Int)):Nat->(List Int)->Int->Int->Option (Bool)
 |0,_,_,_=>none
 |n1+1,v2,v3,v4=>(bif (decide (v4<v3))then(if(0:Int)≤v4∧v4<(v2.length:Int)then(if(0:Int)≤(gt v2 v4)∧(gt v2 v4)<(a0.length:Int)then(bif (((gt a0 (gt v2 v4)).Hh) != 1)then some false else(bif (decide ((Aoa .i64 v4 1)<(r1.length:Int)))then(if(0:Int)≤(gt v2 v4)∧(gt v2 v4)<(a0.length:Int)then(if(0:Int)≤(Aoa .i64 v4 1)∧(Aoa .i64 v4 1)<(r1.length:Int)then(if(0:Int)≤(gt r1 (Aoa .i64 v4 1))∧(gt r1 (Aoa .i64 v4 1))<(a0.length:Int)then(bif (((gt a0 (gt v2 v4)).Gq) != ((gt a0 (gt r1 (Aoa .i64 v4 1))).Ly))then some false else(Avw K v2 v3 v4 (Arx K a0 r1 n1)))else none)else none)else none)else(Avw K v2 v3 v4 (Arx K a0 r1 n1))))else none)else none)else(bif (decide ((r1.length:Int)>0))then(if(0:Int)≤(Aob .i64 (r1.length:Int) 1)∧(Aob .i64 (r1.length:Int) 1)<(r1.length:Int)then(if(0:Int)≤(gt r1 (Aob .i64 (r1.length:Int) 1))∧(gt r1 (Aob .i64 (r1.length:Int) 1))<(a0.length:Int)then some (((gt a0 (gt r1 (Aob .i64 (r1.length:Int) 1))).fUp)==0)else none)else none)else some false))
def Axn (K:Nat)(a0:List Ba)(a1:Int):Option (Bool):=((Au7 K a0 a1).bind fun r1=>(Arx K a0 r1 K r1 (r1.length:Int) 0))
def s_140:Sig:=⟨[.v 29,.v 3],[.v 4],true⟩
def Btf (K:Nat):Gb tyU:=⟨s_140,Axn K⟩
def Beq (K:Nat):=xF s_140 [(232,Ben K)] [] 63 [28,29,49,50] [] [] [467] [.tmp 4]
def A20:E5:=⟨[(0,.v 29),(5,.v 26),(11,.v 26),(12,.v 2),(13,.v 2)],[]⟩
def Aw8:E5:=⟨[(0,.v 29),(5,.v 26),(11,.v 26),(12,.v 2),(13,.v 2)],[]⟩
def A21 (K:Nat)(C58:CT Aw8 s_140)(q:PT A20):Rt s_140:=Avw K q.2.2.1 q.2.2.2.1 q.2.2.2.2.1 (fun v2 v3 v4=>C58 (q.1,q.2.1,v2,v3,v4,()))
def Az7 (K:Nat)(n:Nat)(q:PT Aw8):Rt s_140:=Arx K q.1 q.2.1 n q.2.2.1 q.2.2.2.1 q.2.2.2.2.1
theorem Bf1 (K:Nat)(C58:CT Aw8 s_140):AtJ (Beq K) [] [(58,ar Aw8 C58)] (bd Tryz.f165) 467 (A21 K C58):=fun q=>by kernel_rfl
theorem Bkr (K:Nat):AtL (Beq K) (fun n=>[(467,ar A20 (A21 K (Az7 K n)))]) [] (bd Tryz.f165) 58 (Az7 K):=fun n q=>by kernel_rfl
theorem Bdc (K:Nat):XF [.tmp 4] s_140 63 [467] (Beq K):=xkF (gC (Bc5 K) gN) oN
theorem Bf2 (K:Nat)(C58:CT Aw8 s_140):CF [.tmp 4] s_140 63 [467] (bd Tryz.f165) [(58,ar Aw8 C58)] 467 (ar A20 (A21 K C58)):=
 Amf (Bdc K) (Bf1 K C58) kN
theorem Bks (K:Nat)(n:Nat):CF [.tmp 4] s_140 63 [467] (bd Tryz.f165) [] 58 (ar Aw8 (Az7 K n)):=
 Aeh (Bdc K) (Bkr K) (fun n=>(kC (Bf2 K (Az7 K n)) kN)) n
theorem Bw8 (K:Nat):OkF 165 (Btf K):=
 Aa6 (x:=Beq K) (L:=[(58,ar Aw8 (Az7 K K))]) (c0:=bd Tryz.f165) (Bdc K) (by intro a0 a1;show @Eq _ _ _;kernel_rfl) (kC (Bks K K) kN) Tryz.func165 trivial
def Auv (K:Nat)(a0:Eb)(a1:Ct):Option (Int×Int):=((Auu K a1).bind fun r1=>(bif (!r1)then some ((-1),1)else((As9 K a0.fL a1).bind fun r2=>(bif (decide (r2<0))then some ((-1),2)else((Axn K a0.fL r2).bind fun r3=>(bif (!r3)then some ((-1),2)else some (r2,0)))))))
def Btg:Sig:=⟨[.v 32,.v 34],[.v 3,.v 3],true⟩
def Bth (K:Nat):Gb tyU:=⟨Btg,Auv K⟩
def B33 (K:Nat):=xF Btg [(163,Bkp K),(164,Bte K),(165,Btf K)] [] 24 [15,16] [] [] [] [.tmp 4,.tmp 5]
theorem Bw9 (K:Nat):OkF 92 (Bth K):=
 Aa6 (x:=B33 K) (L:=[]) (c0:=bd Tryz.f92) (xkF (gC (Bkq K) (gC (Bw7 K) (gC (Bw8 K) gN))) oN) (by intro a0 a1;show @Eq _ _ _;kernel_rfl) kN Tryz.func92 trivial
def Avx (K:Nat)(a0:Ba)(a1:Int):Option (Ax):=((Aen K a0.Dg).bind fun r1=>((Aen K a0.Ae).bind fun r2=>some (Ax.mk a1 a0.Bt r1 r2 0)))
def Bti:Sig:=⟨[.v 44,.v 3],[.n 159 true],true⟩
def Btj (K:Nat):Gb tyU:=⟨Bti,Avx K⟩
def B34 (K:Nat):=xF Bti [(160,Bc0 K)] [] 15 [] [] [] [] [.cell 4 159]
theorem Bxa (K:Nat):OkF 172 (Btj K):=
 Aa6 (x:=B34 K) (L:=[]) (c0:=bd Tryz.f172) (xkF (gC (A7v K) gN) oN) (by intro a0 a1;show @Eq _ _ _;kernel_rfl) kN Tryz.func172 trivial
def Ata (K:Nat)(v3:Dw)(v4:Dw):Option (Dw):=some v3
def Axo (K:Nat)(a0:Dw)(a1:Int):Option (Dw):=((Asi K a0).bind fun r1=>((Ac1 K a1 0 (Aob .i64 (Aaf (a0.Hh.length:Int) (a0.Fz.length:Int)) 1)).bind fun r2=>(bif r2 then(if(0:Int)≤a1∧a1<(a0.Hh.length:Int)then(bif ((gt a0.Hh a1)==1)then(if(0:Int)≤a1∧a1<(r1.Hh.length:Int)then(if(0:Int)≤a1∧a1<(r1.Fz.length:Int)then(Ata K (Dw.mk r1.Fy (r1.Hh.set a1.toNat 2) (r1.Fz.set a1.toNat (-1))) (Dw.mk [] [] []))else none)else none)else(Ata K r1 (Dw.mk [] [] [])))else none)else(Ata K r1 (Dw.mk [] [] [])))))
def s_143:Sig:=⟨[.v 28,.v 3],[.n 28 true],true⟩
def Btk (K:Nat):Gb tyU:=⟨s_143,Axo K⟩
def Bkt (K:Nat):=xF s_143 [(88,A68 K),(158,Bkd K)] [] 35 [17,18] [(4,[.take 105 0 6680,.take 105 1 6681,.take 105 2 6682])] [] [7] [.cell 4 28]
def A94:E5:=⟨[(4,.p 104),(5,.p 105)],[(105,.st 28 true),(104,.st 28 true)]⟩
def A95 (K:Nat)(q:PT A94):Rt s_143:=Ata K q.1 q.2.1
theorem Bqa (K:Nat):AtJ (Bkt K) [] [] (bd Tryz.f243) 7 (A95 K):=fun q=>by kernel_rfl
theorem Bku (K:Nat):XF [.cell 4 28] s_143 35 [7] (Bkt K):=xkF (gC (A1r K) (gC (Bke K) gN)) oN
theorem Bqb (K:Nat):CF [.cell 4 28] s_143 35 [7] (bd Tryz.f243) [] 7 (ar A94 (A95 K)):=
 Amf (Bku K) (Bqa K) kN
theorem Bxb (K:Nat):OkF 243 (Btk K):=
 Aa6 (x:=Bkt K) (L:=[(7,ar A94 (A95 K))]) (c0:=bd Tryz.f243) (Bku K) (by intro a0 a1;show @Eq _ _ _;kernel_rfl) (kC (Bqb K) kN) Tryz.func243 trivial
def Ale (K:Nat):Nat->(List Int)->Int->Int->Int->Int->Int->Int->Int->Int->(List Int)->(List Int)->(List Int)->Nat->(List Ax)->(List Int)->(List Ba)->Nat->Int->Int->Int->Int->Int->Int->Int->Int->Nat->Int->Int->(List A9)->(List Int)->Option (Eb)
 |0,_,_,_,_,_,_,_,_,_,_,_,_,_,_,_,_,_,_,_,_,_,_,_,_,_,_,_,_,_,_=>none
 |n1+1,v1,v2,v3,v4,v5,v6,v7,v8,v9,v10,v11,v12,v13,v14,v15,v16,v17,v18,v19,v20,v21,v22,v23,v24,v25,v26,v27,v28,v29,v30=>(bif (decide (v3<v2))then(if(0:Int)≤v3∧v3<(v1.length:Int)then((Axo K (Dw.mk v10 v11 v12) (gt v1 v3)).bind fun r31=>(Ale K n1 v1 v2 (Aoa .i64 v3 1) v4 v5 v6 v7 v8 v9 r31.Fy r31.Hh r31.Fz v13 v14 v15 v16 ((v17:Int).toNat) v18 v19 v20 v21 v22 v23 v24 v25 v26 v27 v28 v29 v30))else none)else some (Eb.mk (Er.mk v4 v5 v6 v7 v8 v9) (Dw.mk v10 v11 v12) (v16.set (v17:Int).toNat (Ba.mk v18 v19 v20 v21 v22 v23 v24 v25 v1 v27 v28 v29 v30)) v14 v15))
def Ar7 (K:Nat)(a0:Eb)(a1:Int):Option (Eb):=(if(0:Int)≤a1∧a1<(a0.fL.length:Int)then(if(0:Int)≤a1∧a1<(a0.fL.length:Int)then(Ale K K ((gt a0.fL a1).Ae) (((gt a0.fL a1).Ae).length:Int) 0 a0.fC.Ae a0.fC.Eg a0.fC.C0 a0.fC.E9 a0.fC.C1 a0.fC.Eh a0.fP.Fy a0.fP.Hh a0.fP.Fz a0.fL.length a0.fQ a0.Pr a0.fL a1.toNat ((gt a0.fL a1).Hh) ((gt a0.fL a1).C2) ((gt a0.fL a1).Ly) ((gt a0.fL a1).fUp) ((gt a0.fL a1).Gq) ((gt a0.fL a1).Bt) ((gt a0.fL a1).Gr) ((gt a0.fL a1).Gs) (((gt a0.fL a1).Ae).length) ((gt a0.fL a1).Pq) ((gt a0.fL a1).Gt) ((gt a0.fL a1).Ea) ((gt a0.fL a1).Dg))else none)else none)
def s_144:Sig:=⟨[.b 32 true,.v 3],[],true⟩
def Btl (K:Nat):Gb tyU:=⟨s_144,Ar7 K⟩
def Bkv (K:Nat):=xF s_144 [(243,Btk K)] [] 29 [] [(0,[.take 1 9 5025,.opn 5025 (.tmp 1),.takeE 5025 8 41608]),(3,[.take 1 6 5022,.take 1 7 5023,.take 1 8 5024])] [] [] []
def A96:E5:=⟨[(0,.p 1),(13,.o 41608 3 true),(14,.v 2),(15,.v 2)],[(1,.ob [.v 2,.v 2,.v 2,.v 2,.v 2,.v 2,.T 5 true,.T 3 true,.T 3 true,.O 5025,.T 159 true,.T 3 true]),(5025,.opn 44 true [.v 2,.v 2,.v 2,.v 2,.v 2,.v 2,.v 2,.v 2,.O 41608,.v 2,.v 2,.T 89 true,.T 3 true])]⟩
def A97 (K:Nat)(n:Nat)(q:PT A96):Rt s_144:=Ale K n q.1 q.2.1 q.2.2.1 q.2.2.2.1 q.2.2.2.2.1 q.2.2.2.2.2.1 q.2.2.2.2.2.2.1 q.2.2.2.2.2.2.2.1 q.2.2.2.2.2.2.2.2.1 q.2.2.2.2.2.2.2.2.2.1 q.2.2.2.2.2.2.2.2.2.2.1 q.2.2.2.2.2.2.2.2.2.2.2.1 q.2.2.2.2.2.2.2.2.2.2.2.2.1 q.2.2.2.2.2.2.2.2.2.2.2.2.2.1 q.2.2.2.2.2.2.2.2.2.2.2.2.2.2.1 q.2.2.2.2.2.2.2.2.2.2.2.2.2.2.2.1 q.2.2.2.2.2.2.2.2.2.2.2.2.2.2.2.2.1 q.2.2.2.2.2.2.2.2.2.2.2.2.2.2.2.2.2.1 q.2.2.2.2.2.2.2.2.2.2.2.2.2.2.2.2.2.2.1 q.2.2.2.2.2.2.2.2.2.2.2.2.2.2.2.2.2.2.2.1 q.2.2.2.2.2.2.2.2.2.2.2.2.2.2.2.2.2.2.2.2.1 q.2.2.2.2.2.2.2.2.2.2.2.2.2.2.2.2.2.2.2.2.2.1 q.2.2.2.2.2.2.2.2.2.2.2.2.2.2.2.2.2.2.2.2.2.2.1 q.2.2.2.2.2.2.2.2.2.2.2.2.2.2.2.2.2.2.2.2.2.2.2.1 q.2.2.2.2.2.2.2.2.2.2.2.2.2.2.2.2.2.2.2.2.2.2.2.2.1 q.2.2.2.2.2.2.2.2.2.2.2.2.2.2.2.2.2.2.2.2.2.2.2.2.2.1 q.2.2.2.2.2.2.2.2.2.2.2.2.2.2.2.2.2.2.2.2.2.2.2.2.2.2.1 q.2.2.2.2.2.2.2.2.2.2.2.2.2.2.2.2.2.2.2.2.2.2.2.2.2.2.2.1 q.2.2.2.2.2.2.2.2.2.2.2.2.2.2.2.2.2.2.2.2.2.2.2.2.2.2.2.2.1 q.2.2.2.2.2.2.2.2.2.2.2.2.2.2.2.2.2.2.2.2.2.2.2.2.2.2.2.2.2.1
theorem Bqc (K:Nat):AtL (Bkv K) (fun n=>[]) [] (bd Tryz.f173) 6 (A97 K):=fun n q=>by kernel_rfl
theorem Bkw (K:Nat):XF [] s_144 29 [] (Bkv K):=xkF (gC (Bxb K) gN) oN
theorem Bqd (K:Nat)(n:Nat):CF [] s_144 29 [] (bd Tryz.f173) [] 6 (ar A96 (A97 K n)):=
 Aeh (Bkw K) (Bqc K) (fun n=>kN) n
theorem Bxc (K:Nat):OkF 173 (Btl K):=
 Aa6 (x:=Bkv K) (L:=[(6,ar A96 (A97 K K))]) (c0:=bd Tryz.f173) (Bkw K) (by intro a0 a1;show @Eq _ _ _;kernel_rfl) (kC (Bqd K K) kN) Tryz.func173 trivial
def Auw (K:Nat)(a1:Int)(v9:List Ba):Option ((List Ba)):=(if(0:Int)≤a1∧a1<(v9.length:Int)then(Aql (v9.set a1.toNat (Ba.mk ((gt v9 a1).Hh) ((gt v9 a1).C2) ((gt v9 a1).Ly) 0 ((gt v9 a1).Gq) ((gt v9 a1).Bt) ((gt v9 a1).Gr) ((gt v9 a1).Gs) ((gt v9 a1).Ae) ((gt v9 a1).Pq) ((gt v9 a1).Gt) ((gt v9 a1).Ea) ((gt v9 a1).Dg))) fun v10=>(if(0:Int)≤a1∧a1<(v10.length:Int)then(Aql (v10.set a1.toNat (Ba.mk ((gt v10 a1).Hh) ((gt v10 a1).C2) ((gt v10 a1).Ly) ((gt v10 a1).fUp) 0 ((gt v10 a1).Bt) ((gt v10 a1).Gr) ((gt v10 a1).Gs) ((gt v10 a1).Ae) ((gt v10 a1).Pq) ((gt v10 a1).Gt) ((gt v10 a1).Ea) ((gt v10 a1).Dg))) fun v11=>(if(0:Int)≤a1∧a1<(v11.length:Int)then(Aql (v11.set a1.toNat (Ba.mk ((gt v11 a1).Hh) ((gt v11 a1).C2) ((gt v11 a1).Ly) ((gt v11 a1).fUp) ((gt v11 a1).Gq) ((gt v11 a1).Bt) 0 ((gt v11 a1).Gs) ((gt v11 a1).Ae) ((gt v11 a1).Pq) ((gt v11 a1).Gt) ((gt v11 a1).Ea) ((gt v11 a1).Dg))) fun v12=>(if(0:Int)≤a1∧a1<(v12.length:Int)then(Aql (v12.set a1.toNat (Ba.mk ((gt v12 a1).Hh) ((gt v12 a1).C2) ((gt v12 a1).Ly) ((gt v12 a1).fUp) ((gt v12 a1).Gq) ((gt v12 a1).Bt) ((gt v12 a1).Gr) 0 ((gt v12 a1).Ae) ((gt v12 a1).Pq) ((gt v12 a1).Gt) ((gt v12 a1).Ea) ((gt v12 a1).Dg))) fun v13=>some v13)else none))else none))else none))else none)
def Aq1 (K:Nat)(a0:List Ba)(a1:Int)(v5:List Ba)(v6:Int):Option ((List Ba)):=((Aix K a0 v6).bind fun r7=>(bif r7 then(if(0:Int)≤a1∧a1<(v5.length:Int)then(if(0:Int)≤v6∧v6<(v5.length:Int)then(Aql (v5.set v6.toNat (Ba.mk ((gt v5 v6).Hh) ((gt v5 v6).C2) ((gt v5 v6).Ly) ((gt v5 v6).fUp) ((gt v5 v6).Gq) ((gt v5 v6).Bt) ((gt v5 v6).Gr) ((gt v5 a1).Gs) ((gt v5 v6).Ae) ((gt v5 v6).Pq) ((gt v5 v6).Gt) ((gt v5 v6).Ea) ((gt v5 v6).Dg))) fun v8=>(Auw K a1 v8))else none)else none)else(Auw K a1 v5)))
def Ap5 (K:Nat)(a0:List Ba)(a1:Int)(r1:(List Ba))(v15:Int)(v16:Int)(v17:Bool):Option ((List Ba)):=(bif v17 then(if(0:Int)≤a1∧a1<(r1.length:Int)then(if(0:Int)≤v16∧v16<(r1.length:Int)then(Aql (r1.set v16.toNat (Ba.mk ((gt r1 v16).Hh) ((gt r1 v16).C2) ((gt r1 v16).Ly) ((gt r1 v16).fUp) ((gt r1 v16).Gq) ((gt r1 a1).Gr) ((gt r1 v16).Gr) ((gt r1 v16).Gs) ((gt r1 v16).Ae) ((gt r1 v16).Pq) ((gt r1 v16).Gt) ((gt r1 v16).Ea) ((gt r1 v16).Dg))) fun v18=>(Aq1 K a0 a1 v18 v15))else none)else none)else(Aq1 K a0 a1 r1 v15))
def Awx (K:Nat)(a0:List Ba)(a1:Int):Option ((List Ba)):=((Arw K a0).bind fun r1=>((Aix K a0 a1).bind fun r2=>(bif (!r2)then some r1 else(if(0:Int)≤a1∧a1<(r1.length:Int)then(if(0:Int)≤a1∧a1<(r1.length:Int)then(if(0:Int)≤a1∧a1<(r1.length:Int)then((Aix K a0 (Aob .i64 ((gt r1 a1).Gs) 1)).bind fun r3=>(bif r3 then(if(0:Int)≤a1∧a1<(r1.length:Int)then(if(0:Int)≤(Aob .i64 ((gt r1 a1).Gs) 1)∧(Aob .i64 ((gt r1 a1).Gs) 1)<(r1.length:Int)then(Aql (r1.set (Aob .i64 ((gt r1 a1).Gs) 1).toNat (Ba.mk ((gt r1 (Aob .i64 ((gt r1 a1).Gs) 1)).Hh) ((gt r1 (Aob .i64 ((gt r1 a1).Gs) 1)).C2) ((gt r1 (Aob .i64 ((gt r1 a1).Gs) 1)).Ly) ((gt r1 (Aob .i64 ((gt r1 a1).Gs) 1)).fUp) ((gt r1 (Aob .i64 ((gt r1 a1).Gs) 1)).Gq) ((gt r1 (Aob .i64 ((gt r1 a1).Gs) 1)).Bt) ((gt r1 a1).Gr) ((gt r1 (Aob .i64 ((gt r1 a1).Gs) 1)).Gs) ((gt r1 (Aob .i64 ((gt r1 a1).Gs) 1)).Ae) ((gt r1 (Aob .i64 ((gt r1 a1).Gs) 1)).Pq) ((gt r1 (Aob .i64 ((gt r1 a1).Gs) 1)).Gt) ((gt r1 (Aob .i64 ((gt r1 a1).Gs) 1)).Ea) ((gt r1 (Aob .i64 ((gt r1 a1).Gs) 1)).Dg))) fun v4=>(Aq1 K a0 a1 v4 (Aob .i64 ((gt r1 a1).Gr) 1)))else none)else none)else(if(0:Int)≤a1∧a1<(r1.length:Int)then(bif (((gt r1 a1).Gs)==0)then((Aix K a0 (Aob .i64 ((gt r1 a1).fUp) 1)).bind fun r14=>(bif r14 then(if(0:Int)≤(Aob .i64 ((gt r1 a1).fUp) 1)∧(Aob .i64 ((gt r1 a1).fUp) 1)<(r1.length:Int)then(Ap5 K a0 a1 r1 (Aob .i64 ((gt r1 a1).Gr) 1) (Aob .i64 ((gt r1 a1).fUp) 1) (((gt r1 (Aob .i64 ((gt r1 a1).fUp) 1)).Bt)==(Aoa .i64 a1 1)))else none)else(Ap5 K a0 a1 r1 (Aob .i64 ((gt r1 a1).Gr) 1) (Aob .i64 ((gt r1 a1).fUp) 1) false)))else(Ap5 K a0 a1 r1 (Aob .i64 ((gt r1 a1).Gr) 1) (Aob .i64 ((gt r1 a1).fUp) 1) false))else none)))else none)else none)else none))))
def s_145:Sig:=⟨[.v 29,.v 3],[.n 29 true],true⟩
def Btm (K:Nat):Gb tyU:=⟨s_145,Awx K⟩
def Bbj (K:Nat):=xF s_145 [(159,Bkf K),(171,A1t K)] [] 107 [53,54,57,58,59] [] [] [31,63,499] [.tmp 4]
def A5g:E5:=⟨[(1,.v 2),(5,.o 1005 44 true)],[]⟩
def A1u:E5:=⟨[(0,.v 29),(1,.v 2),(5,.o 1005 44 true),(7,.v 2)],[]⟩
def A22:E5:=⟨[(0,.v 29),(1,.v 2),(5,.o 1005 44 true),(7,.v 2),(8,.v 2),(47,.v 4)],[]⟩
def A5h (K:Nat)(q:PT A5g):Rt s_145:=Auw K q.1 q.2.1
def A1v (K:Nat)(q:PT A1u):Rt s_145:=Aq1 K q.1 q.2.1 q.2.2.1 q.2.2.2.1
def A23 (K:Nat)(q:PT A22):Rt s_145:=Ap5 K q.1 q.2.1 q.2.2.1 q.2.2.2.1 q.2.2.2.2.1 q.2.2.2.2.2.1
theorem Bkx (K:Nat):AtJ (Bbj K) [] [] (bd Tryz.f177) 63 (A5h K):=fun q=>by kernel_rfl
theorem Bky (K:Nat):AtJ (Bbj K) [(63,ar A5g (A5h K))] [] (bd Tryz.f177) 31 (A1v K):=fun q=>by kernel_rfl
theorem Bf3 (K:Nat):AtJ (Bbj K) [(31,ar A1u (A1v K))] [] (bd Tryz.f177) 499 (A23 K):=fun q=>by kernel_rfl
theorem A98 (K:Nat):XF [.tmp 4] s_145 107 [31,63,499] (Bbj K):=xkF (gC (Bkk K) (gC (Azy K) gN)) oN
theorem Bkz (K:Nat):CF [.tmp 4] s_145 107 [31,63,499] (bd Tryz.f177) [] 63 (ar A5g (A5h K)):=
 Amf (A98 K) (Bkx K) kN
theorem Bbk (K:Nat):CF [.tmp 4] s_145 107 [31,63,499] (bd Tryz.f177) [] 31 (ar A1u (A1v K)):=
 Amf (A98 K) (Bky K) (kC (Bkz K) kN)
theorem Bf4 (K:Nat):CF [.tmp 4] s_145 107 [31,63,499] (bd Tryz.f177) [] 499 (ar A22 (A23 K)):=
 Amf (A98 K) (Bf3 K) (kC (Bbk K) kN)
theorem Bxd (K:Nat):OkF 177 (Btm K):=
 Aa6 (x:=Bbj K) (L:=[(31,ar A1u (A1v K)),(499,ar A22 (A23 K))]) (c0:=bd Tryz.f177) (A98 K) (by intro a0 a1;show @Eq _ _ _;kernel_rfl) (kC (Bbk K) (kC (Bf4 K) kN)) Tryz.func177 trivial
def Az8 (K:Nat)(a0:Ba):Option (Ba):=some (Ba.mk 2 a0.C2 0 0 0 0 0 0 [] 0 0 [] [])
def Btn:Sig:=⟨[.v 44],[.n 44 true],true⟩
def Bto (K:Nat):Gb tyU:=⟨Btn,Az8 K⟩
def B35 (K:Nat):=xF Btn [] [] 6 [] [] [] [] [.cell 2 44]
theorem Bxe (K:Nat):OkF 178 (Bto K):=
 Aa6 (x:=B35 K) (L:=[]) (c0:=bd Tryz.f178) (xkF gN oN) (by intro a0;show @Eq _ _ _;kernel_rfl) kN Tryz.func178 trivial
def Axp (K:Nat)(a0:Eb)(a1:Int):Option (Eb):=((Aqg K a0).bind fun r1=>((Aix K a0.fL a1).bind fun r2=>(bif r2 then(if(0:Int)≤a1∧a1<(a0.fL.length:Int)then(bif (((gt a0.fL a1).Hh) != 1)then some r1 else(if(0:Int)≤a1∧a1<(a0.fL.length:Int)then((Avx K (gt a0.fL a1) (Aoa .i64 a1 1)).bind fun r3=>(if(r1.fQ.length+1)*72≤140737488355328∧r1.fQ.length+1≤maxLen then((Ar7 K (Eb.mk r1.fC r1.fP r1.fL ((r1.fQ++[(default:Ax)]).set (r1.fQ.length:Int).toNat r3) r1.Pr) a1).bind fun r4=>((Awx K r4.fL a1).bind fun r5=>(if(0:Int)≤a1∧a1<(r5.length:Int)then(if(0:Int)≤a1∧a1<(r5.length:Int)then((Az8 K (gt r5 a1)).bind fun r6=>(if(0:Int)≤a1∧a1<(r5.length:Int)then some (Eb.mk r4.fC r4.fP (r5.set a1.toNat r6) r4.fQ r4.Pr)else none))else none)else none)))else none))else none))else none)else some r1)))
def Btp:Sig:=⟨[.v 32,.v 3],[.n 32 true],true⟩
def Btq (K:Nat):Gb tyU:=⟨Btp,Axp K⟩
def B36 (K:Nat):=xF Btp [(90,Bep K),(171,A1t K),(172,Btj K),(173,Btl K),(177,Btm K),(178,Bto K)] [] 54 [11,12,13] [(5,[.put 105]),(6,[.take 105 9 6689]),(7,[.opn 3041 (.tmp 1),.takeE 3041 8 42632,.takeE 3041 11 42635,.takeE 3041 12 42636]),(8,[.take 105 6 6686,.take 105 7 6687,.take 105 8 6688,.take 105 10 6690,.take 105 11 6691])] [] [] [.cell 4 32]
theorem Bxf (K:Nat):OkF 105 (Btq K):=
 Aa6 (x:=B36 K) (L:=[]) (c0:=bd Tryz.f105) (xkF (gC (Bdb K) (gC (Azy K) (gC (Bxa K) (gC (Bxc K) (gC (Bxd K) (gC (Bxe K) gN)))))) oN) (by intro a0 a1;show @Eq _ _ _;kernel_rfl) kN Tryz.func105 trivial
def Ary (K:Nat)(a0:Eb)(a1:Ct):Option (Eb×Fh):=((Avv K a0).bind fun r1=>(bif (!r1)then((Axv K a0 1).bind fun r2=>some (r2.1,r2.2))else((Aww K a0 a1).bind fun r3=>((Auv K a0 a1).bind fun r4=>(bif (r4.2 != 0)then((Aqg K a0).bind fun r5=>some (r5,(Fh.mk r4.2 (Ct.mk 0 0) (Fg.mk (Ct.mk 0 0) 0 0) [] r3 0 0)))else((Axp K a0 r4.1).bind fun r6=>some (r6,(Fh.mk r4.2 (Ct.mk 0 0) (Fg.mk (Ct.mk 0 0) 0 0) [] r3 0 0))))))))
def Btr:Sig:=⟨[.v 32,.v 34,.f 105 [] []],[.n 32 true,.n 69 true],true⟩
def Bts (K:Nat):Gb tyU:=⟨Btr,Ary K⟩
def B37 (K:Nat):=xF Btr [(87,Bsw K),(89,Bs7 K),(90,Bep K),(91,Btc K),(92,Bth K),(105,Btq K)] [] 40 [] [(7,[.take 108 7 6735]),(8,[.take 108 7 6735])] [] [] [.cell 6 32,.cell 7 69]
theorem Bxg (K:Nat):OkF 102 (Bts K):=
 Aa6 (x:=B37 K) (L:=[]) (c0:=bd Tryz.f102) (xkF (gC (Bwz K) (gC (Bw4 K) (gC (Bdb K) (gC (Bw6 K) (gC (Bw9 K) (gC (Bxf K) gN)))))) oN) (by intro a0 a1;show @Eq _ _ _;kernel_rfl) kN Tryz.func102 trivial
def Atb (K:Nat)(a0:Eb)(a1:Ct):Option (Eb×Fh):=((Ary K a0 a1).bind fun r1=>some (r1.1,r1.2))
def Btt:Sig:=⟨[.v 32,.v 34],[.n 32 true,.n 69 true],true⟩
def Btu (K:Nat):Gb tyU:=⟨Btt,Atb K⟩
def B38 (K:Nat):=xF Btt [(102,Bts K)] [] 11 [] [] [] [] [.cell 4 32,.cell 5 69]
theorem Bxh (K:Nat):OkF 42 (Btu K):=
 Aa6 (x:=B38 K) (L:=[]) (c0:=bd Tryz.f42) (xkF (gC (Bxg K) gN) oN) (by intro a0 a1;show @Eq _ _ _;kernel_rfl) kN Tryz.func42 trivial
def Ays (K:Nat)(a0:Er)(a1:Er):Option (Bool):=(bif (a0.Ae != a1.Ae)then some false else(bif (a0.Eg != a1.Eg)then some false else(bif (a0.C0 != a1.C0)then some false else(bif (a0.E9 != a1.E9)then some false else(bif (a0.C1 != a1.C1)then some false else(bif (a0.Eh != a1.Eh)then some false else some true))))))
def Btv:Sig:=⟨[.v 25,.v 25],[.v 4],true⟩
def Btw (K:Nat):Gb tyU:=⟨Btv,Ays K⟩
def B39 (K:Nat):=xF Btv [] [] 35 [] [] [] [] [.tmp 4]
theorem Bxi (K:Nat):OkF 71 (Btw K):=
 Aa6 (x:=B39 K) (L:=[]) (c0:=bd Tryz.f71) (xkF gN oN) (by intro a0 a1;show @Eq _ _ _;kernel_rfl) kN Tryz.func71 trivial
def Atu (K:Nat)(a0:List Int)(a1:List Int):Nat->Int->Option (Bool)
 |0,_=>none
 |n1+1,v1=>(bif (decide (v1<(a0.length:Int)))then(if(0:Int)≤v1∧v1<(a0.length:Int)then(if(0:Int)≤v1∧v1<(a1.length:Int)then(bif ((gt a0 v1) != (gt a1 v1))then some false else(Atu K a0 a1 n1 (Aoa .i64 v1 1)))else none)else none)else some true)
def Atc (K:Nat)(a0:List Int)(a1:List Int):Option (Bool):=(bif ((a0.length:Int) != (a1.length:Int))then some false else(Atu K a0 a1 K 0))
def s_151:Sig:=⟨[.v 22,.v 22],[.v 4],true⟩
def Bk0 (K:Nat):Gb tyU:=⟨s_151,Atc K⟩
def Bk1 (K:Nat):=xF s_151 [] [] 26 [] [] [] [] [.tmp 4]
def A5i:E5:=⟨[(0,.v 22),(1,.v 22),(5,.v 2)],[]⟩
def A5j (K:Nat)(n:Nat)(q:PT A5i):Rt s_151:=Atu K q.1 q.2.1 n q.2.2.1
theorem Bk2 (K:Nat):AtL (Bk1 K) (fun n=>[]) [] (bd Tryz.f27) 58 (A5j K):=fun n q=>by kernel_rfl
theorem Bk3 (K:Nat):XF [.tmp 4] s_151 26 [] (Bk1 K):=xkF gN oN
theorem Bk4 (K:Nat)(n:Nat):CF [.tmp 4] s_151 26 [] (bd Tryz.f27) [] 58 (ar A5i (A5j K n)):=
 Aeh (Bk3 K) (Bk2 K) (fun n=>kN) n
theorem Bk5 (K:Nat):OkF 27 (Bk0 K):=
 Aa6 (x:=Bk1 K) (L:=[(58,ar A5i (A5j K K))]) (c0:=bd Tryz.f27) (Bk3 K) (by intro a0 a1;show @Eq _ _ _;kernel_rfl) (kC (Bk4 K K) kN) Tryz.func27 trivial
def Aux (K:Nat)(a0:List Int)(a1:List Int):Nat->Int->Option (Bool)
 |0,_=>none
 |n1+1,v1=>(bif (decide (v1<(a0.length:Int)))then(if(0:Int)≤v1∧v1<(a0.length:Int)then(if(0:Int)≤v1∧v1<(a1.length:Int)then(bif ((gt a0 v1) != (gt a1 v1))then some false else(Aux K a0 a1 n1 (Aoa .i64 v1 1)))else none)else none)else some true)
def Aow (K:Nat)(a0:List Int)(a1:List Int):Option (Bool):=(bif ((a0.length:Int) != (a1.length:Int))then some false else(Aux K a0 a1 K 0))
def s_152:Sig:=⟨[.v 26,.v 26],[.v 4],true⟩
def Bbl (K:Nat):Gb tyU:=⟨s_152,Aow K⟩
def Bk6 (K:Nat):=xF s_152 [] [] 26 [] [] [] [] [.tmp 4]
def A5k:E5:=⟨[(0,.v 26),(1,.v 26),(5,.v 2)],[]⟩
def A5l (K:Nat)(n:Nat)(q:PT A5k):Rt s_152:=Aux K q.1 q.2.1 n q.2.2.1
theorem Bk7 (K:Nat):AtL (Bk6 K) (fun n=>[]) [] (bd Tryz.f75) 58 (A5l K):=fun n q=>by kernel_rfl
theorem Bk8 (K:Nat):XF [.tmp 4] s_152 26 [] (Bk6 K):=xkF gN oN
theorem Bk9 (K:Nat)(n:Nat):CF [.tmp 4] s_152 26 [] (bd Tryz.f75) [] 58 (ar A5k (A5l K n)):=
 Aeh (Bk8 K) (Bk7 K) (fun n=>kN) n
theorem A99 (K:Nat):OkF 75 (Bbl K):=
 Aa6 (x:=Bk6 K) (L:=[(58,ar A5k (A5l K K))]) (c0:=bd Tryz.f75) (Bk8 K) (by intro a0 a1;show @Eq _ _ _;kernel_rfl) (kC (Bk9 K K) kN) Tryz.func75 trivial
def Ayt (K:Nat)(a0:Dw)(a1:Dw):Option (Bool):=((Atc K a0.Fy a1.Fy).bind fun r1=>(bif (!r1)then some false else((Aow K a0.Hh a1.Hh).bind fun r2=>(bif (!r2)then some false else((Aow K a0.Fz a1.Fz).bind fun r3=>(bif (!r3)then some false else some true))))))
def Btx:Sig:=⟨[.v 28,.v 28],[.v 4],true⟩
def Bty (K:Nat):Gb tyU:=⟨Btx,Ayt K⟩
def B4a (K:Nat):=xF Btx [(27,Bk0 K),(75,Bbl K)] [] 23 [] [] [] [] [.tmp 4]
theorem Bxj (K:Nat):OkF 72 (Bty K):=
 Aa6 (x:=B4a K) (L:=[]) (c0:=bd Tryz.f72) (xkF (gC (Bk5 K) (gC (A99 K) gN)) oN) (by intro a0 a1;show @Eq _ _ _;kernel_rfl) kN Tryz.func72 trivial
def Atd (K:Nat)(a0:A9)(a1:A9):Option (Bool):=(bif (a0.fAt != a1.fAt)then some false else(bif (a0.Vu != a1.Vu)then some false else(bif (a0.Vv != a1.Vv)then some false else some true)))
def Btz:Sig:=⟨[.v 89,.v 89],[.v 4],true⟩
def Bt0 (K:Nat):Gb tyU:=⟨Btz,Atd K⟩
def B4b (K:Nat):=xF Btz [] [] 20 [] [] [] [] [.tmp 4]
theorem Bxk (K:Nat):OkF 263 (Bt0 K):=
 Aa6 (x:=B4b K) (L:=[]) (c0:=bd Tryz.f263) (xkF gN oN) (by intro a0 a1;show @Eq _ _ _;kernel_rfl) kN Tryz.func263 trivial
def Aq8 (K:Nat)(a0:List A9)(a1:List A9):Nat->Int->Option (Bool)
 |0,_=>none
 |n1+1,v1=>(bif (decide (v1<(a0.length:Int)))then(if(0:Int)≤v1∧v1<(a0.length:Int)then(if(0:Int)≤v1∧v1<(a1.length:Int)then((Atd K (gt a0 v1) (gt a1 v1)).bind fun r2=>(bif (!r2)then some false else(Aq8 K a0 a1 n1 (Aoa .i64 v1 1))))else none)else none)else some true)
def Auy (K:Nat)(a0:List A9)(a1:List A9):Option (Bool):=(bif ((a0.length:Int) != (a1.length:Int))then some false else(Aq8 K a0 a1 K 0))
def s_155:Sig:=⟨[.v 41,.v 41],[.v 4],true⟩
def Bt1 (K:Nat):Gb tyU:=⟨s_155,Auy K⟩
def Bla (K:Nat):=xF s_155 [(263,Bt0 K)] [] 27 [] [] [] [] [.tmp 4]
def A5m:E5:=⟨[(0,.v 41),(1,.v 41),(5,.v 2)],[]⟩
def A5n (K:Nat)(n:Nat)(q:PT A5m):Rt s_155:=Aq8 K q.1 q.2.1 n q.2.2.1
theorem Blb (K:Nat):AtL (Bla K) (fun n=>[]) [] (bd Tryz.f208) 58 (A5n K):=fun n q=>by kernel_rfl
theorem Blc (K:Nat):XF [.tmp 4] s_155 27 [] (Bla K):=xkF (gC (Bxk K) gN) oN
theorem Bld (K:Nat)(n:Nat):CF [.tmp 4] s_155 27 [] (bd Tryz.f208) [] 58 (ar A5m (A5n K n)):=
 Aeh (Blc K) (Blb K) (fun n=>kN) n
theorem Bxl (K:Nat):OkF 208 (Bt1 K):=
 Aa6 (x:=Bla K) (L:=[(58,ar A5m (A5n K K))]) (c0:=bd Tryz.f208) (Blc K) (by intro a0 a1;show @Eq _ _ _;kernel_rfl) (kC (Bld K K) kN) Tryz.func208 trivial
def At9 (K:Nat)(a0:Ba)(a1:Ba):Option (Bool):=(bif (a0.Hh != a1.Hh)then some false else(bif (a0.C2 != a1.C2)then some false else(bif (a0.Ly != a1.Ly)then some false else(bif (a0.fUp != a1.fUp)then some false else(bif (a0.Gq != a1.Gq)then some false else(bif (a0.Bt != a1.Bt)then some false else(bif (a0.Gr != a1.Gr)then some false else(bif (a0.Gs != a1.Gs)then some false else((Aow K a0.Ae a1.Ae).bind fun r1=>(bif (!r1)then some false else(bif (a0.Pq != a1.Pq)then some false else(bif (a0.Gt != a1.Gt)then some false else((Auy K a0.Ea a1.Ea).bind fun r2=>(bif (!r2)then some false else((Aow K a0.Dg a1.Dg).bind fun r3=>(bif (!r3)then some false else some true))))))))))))))))
def Bt2:Sig:=⟨[.v 44,.v 44],[.v 4],true⟩
def Bt3 (K:Nat):Gb tyU:=⟨Bt2,At9 K⟩
def B4c (K:Nat):=xF Bt2 [(75,Bbl K),(208,Bt1 K)] [] 73 [] [] [] [] [.tmp 4]
theorem Bxm (K:Nat):OkF 134 (Bt3 K):=
 Aa6 (x:=B4c K) (L:=[]) (c0:=bd Tryz.f134) (xkF (gC (A99 K) (gC (Bxl K) gN)) oN) (by intro a0 a1;show @Eq _ _ _;kernel_rfl) kN Tryz.func134 trivial
def Arz (K:Nat)(a0:List Ba)(a1:List Ba):Nat->Int->Option (Bool)
 |0,_=>none
 |n1+1,v1=>(bif (decide (v1<(a0.length:Int)))then(if(0:Int)≤v1∧v1<(a0.length:Int)then(if(0:Int)≤v1∧v1<(a1.length:Int)then((At9 K (gt a0 v1) (gt a1 v1)).bind fun r2=>(bif (!r2)then some false else(Arz K a0 a1 n1 (Aoa .i64 v1 1))))else none)else none)else some true)
def Avy (K:Nat)(a0:List Ba)(a1:List Ba):Option (Bool):=(bif ((a0.length:Int) != (a1.length:Int))then some false else(Arz K a0 a1 K 0))
def s_157:Sig:=⟨[.v 29,.v 29],[.v 4],true⟩
def Bt4 (K:Nat):Gb tyU:=⟨s_157,Avy K⟩
def Ble (K:Nat):=xF s_157 [(134,Bt3 K)] [] 27 [] [] [] [] [.tmp 4]
def A5o:E5:=⟨[(0,.v 29),(1,.v 29),(5,.v 2)],[]⟩
def A5p (K:Nat)(n:Nat)(q:PT A5o):Rt s_157:=Arz K q.1 q.2.1 n q.2.2.1
theorem Blf (K:Nat):AtL (Ble K) (fun n=>[]) [] (bd Tryz.f73) 58 (A5p K):=fun n q=>by kernel_rfl
theorem Blg (K:Nat):XF [.tmp 4] s_157 27 [] (Ble K):=xkF (gC (Bxm K) gN) oN
theorem Blh (K:Nat)(n:Nat):CF [.tmp 4] s_157 27 [] (bd Tryz.f73) [] 58 (ar A5o (A5p K n)):=
 Aeh (Blg K) (Blf K) (fun n=>kN) n
theorem Bxn (K:Nat):OkF 73 (Bt4 K):=
 Aa6 (x:=Ble K) (L:=[(58,ar A5o (A5p K K))]) (c0:=bd Tryz.f73) (Blg K) (by intro a0 a1;show @Eq _ _ _;kernel_rfl) (kC (Blh K K) kN) Tryz.func73 trivial
def Ate (K:Nat)(a0:Ax)(a1:Ax):Option (Bool):=(bif (a0.A5 != a1.A5)then some false else(bif (a0.Bt != a1.Bt)then some false else((Aow K a0.Dg a1.Dg).bind fun r1=>(bif (!r1)then some false else((Aow K a0.Ae a1.Ae).bind fun r2=>(bif (!r2)then some false else(bif (a0.Gu != a1.Gu)then some false else some true)))))))
def Bt5:Sig:=⟨[.v 159,.v 159],[.v 4],true⟩
def Bt6 (K:Nat):Gb tyU:=⟨Bt5,Ate K⟩
def B4d (K:Nat):=xF Bt5 [(75,Bbl K)] [] 32 [] [] [] [] [.tmp 4]
theorem Bxo (K:Nat):OkF 135 (Bt6 K):=
 Aa6 (x:=B4d K) (L:=[]) (c0:=bd Tryz.f135) (xkF (gC (A99 K) gN) oN) (by intro a0 a1;show @Eq _ _ _;kernel_rfl) kN Tryz.func135 trivial
def Aq9 (K:Nat)(a0:List Ax)(a1:List Ax):Nat->Int->Option (Bool)
 |0,_=>none
 |n1+1,v1=>(bif (decide (v1<(a0.length:Int)))then(if(0:Int)≤v1∧v1<(a0.length:Int)then(if(0:Int)≤v1∧v1<(a1.length:Int)then((Ate K (gt a0 v1) (gt a1 v1)).bind fun r2=>(bif (!r2)then some false else(Aq9 K a0 a1 n1 (Aoa .i64 v1 1))))else none)else none)else some true)
def Auz (K:Nat)(a0:List Ax)(a1:List Ax):Option (Bool):=(bif ((a0.length:Int) != (a1.length:Int))then some false else(Aq9 K a0 a1 K 0))
def s_159:Sig:=⟨[.v 30,.v 30],[.v 4],true⟩
def Bt7 (K:Nat):Gb tyU:=⟨s_159,Auz K⟩
def Bli (K:Nat):=xF s_159 [(135,Bt6 K)] [] 27 [] [] [] [] [.tmp 4]
def A5q:E5:=⟨[(0,.v 30),(1,.v 30),(5,.v 2)],[]⟩
def A5r (K:Nat)(n:Nat)(q:PT A5q):Rt s_159:=Aq9 K q.1 q.2.1 n q.2.2.1
theorem Blj (K:Nat):AtL (Bli K) (fun n=>[]) [] (bd Tryz.f74) 58 (A5r K):=fun n q=>by kernel_rfl
theorem Bll (K:Nat):XF [.tmp 4] s_159 27 [] (Bli K):=xkF (gC (Bxo K) gN) oN
theorem Blm (K:Nat)(n:Nat):CF [.tmp 4] s_159 27 [] (bd Tryz.f74) [] 58 (ar A5q (A5r K n)):=
 Aeh (Bll K) (Blj K) (fun n=>kN) n
theorem Bxp (K:Nat):OkF 74 (Bt7 K):=
 Aa6 (x:=Bli K) (L:=[(58,ar A5q (A5r K K))]) (c0:=bd Tryz.f74) (Bll K) (by intro a0 a1;show @Eq _ _ _;kernel_rfl) (kC (Blm K K) kN) Tryz.func74 trivial
def Aqn (K:Nat)(a0:Eb)(a1:Eb):Option (Bool):=((Ays K a0.fC a1.fC).bind fun r1=>(bif (!r1)then some false else((Ayt K a0.fP a1.fP).bind fun r2=>(bif (!r2)then some false else((Avy K a0.fL a1.fL).bind fun r3=>(bif (!r3)then some false else((Auz K a0.fQ a1.fQ).bind fun r4=>(bif (!r4)then some false else((Aow K a0.Pr a1.Pr).bind fun r5=>(bif (!r5)then some false else some true))))))))))
def Bt8:Sig:=⟨[.v 32,.v 32],[.v 4],true⟩
def Bt9 (K:Nat):Gb tyU:=⟨Bt8,Aqn K⟩
def B4e (K:Nat):=xF Bt8 [(71,Btw K),(72,Bty K),(73,Bt4 K),(74,Bt7 K),(75,Bbl K)] [] 35 [] [] [] [] [.tmp 4]
theorem Bxq (K:Nat):OkF 23 (Bt9 K):=
 Aa6 (x:=B4e K) (L:=[]) (c0:=bd Tryz.f23) (xkF (gC (Bxi K) (gC (Bxj K) (gC (Bxn K) (gC (Bxp K) (gC (A99 K) gN))))) oN) (by intro a0 a1;show @Eq _ _ _;kernel_rfl) kN Tryz.func23 trivial
def Au0 (K:Nat)(a0:Ct)(a1:Ct):Option (Bool):=(bif (a0.A5 != a1.A5)then some false else(bif (a0.C2 != a1.C2)then some false else some true))
def Bua:Sig:=⟨[.v 34,.v 34],[.v 4],true⟩
def Bln (K:Nat):Gb tyU:=⟨Bua,Au0 K⟩
def B4f (K:Nat):=xF Bua [] [] 15 [] [] [] [] [.tmp 4]
theorem Blo (K:Nat):OkF 93 (Bln K):=
 Aa6 (x:=B4f K) (L:=[]) (c0:=bd Tryz.f93) (xkF gN oN) (by intro a0 a1;show @Eq _ _ _;kernel_rfl) kN Tryz.func93 trivial
def Ay9 (K:Nat)(a0:Fg)(a1:Fg):Option (Bool):=((Au0 K a0.fH a1.fH).bind fun r1=>(bif (!r1)then some false else(bif (a0.Ly != a1.Ly)then some false else(bif (a0.fNo != a1.fNo)then some false else some true))))
def Bub:Sig:=⟨[.v 36,.v 36],[.v 4],true⟩
def Buc (K:Nat):Gb tyU:=⟨Bub,Ay9 K⟩
def B4g (K:Nat):=xF Bub [(93,Bln K)] [] 21 [] [] [] [] [.tmp 4]
theorem Bxr (K:Nat):OkF 94 (Buc K):=
 Aa6 (x:=B4g K) (L:=[]) (c0:=bd Tryz.f94) (xkF (gC (Blo K) gN) oN) (by intro a0 a1;show @Eq _ _ _;kernel_rfl) kN Tryz.func94 trivial
def Atv (K:Nat)(a0:Fh)(a1:Fh):Option (Bool):=(bif (a0.W9 != a1.W9)then some false else((Au0 K a0.fH a1.fH).bind fun r1=>(bif (!r1)then some false else((Ay9 K a0.fR a1.fR).bind fun r2=>(bif (!r2)then some false else((Atc K a0.fB a1.fB).bind fun r3=>(bif (!r3)then some false else(bif (a0.Xa != a1.Xa)then some false else(bif (a0.E9 != a1.E9)then some false else(bif (a0.Ps != a1.Ps)then some false else some true))))))))))
def Bud:Sig:=⟨[.v 69,.v 69],[.v 4],true⟩
def Bue (K:Nat):Gb tyU:=⟨Bud,Atv K⟩
def B4h (K:Nat):=xF Bud [(27,Bk0 K),(93,Bln K),(94,Buc K)] [] 43 [] [] [] [] [.tmp 4]
theorem Bxs (K:Nat):OkF 33 (Bue K):=
 Aa6 (x:=B4h K) (L:=[]) (c0:=bd Tryz.f33) (xkF (gC (Bk5 K) (gC (Blo K) (gC (Bxr K) gN))) oN) (by intro a0 a1;show @Eq _ _ _;kernel_rfl) kN Tryz.func33 trivial
def Aqo (K:Nat):Nat->(List Int)->Int->Int->Option (Int×(List Int))
 |0,_,_,_=>none
 |n1+1,v1,v2,v3=>(bif (decide (v3<(v1.length:Int)))then(if(0:Int)≤v3∧v3<(v1.length:Int)then(Aqo K n1 (v1.set v3.toNat (IntKind.u8.wrap v2)) (Aoa .i64 v2 1) (Aoa .i64 v3 1))else none)else some (v2,v1))
def Ar0 (K:Nat)(a0:List Int)(a1:Int):Option (Int×(List Int)):=(Aqo K K a0 a1 0)
def s_164:Sig:=⟨[.w 22 true [(5,true)],.v 3],[.v 3],true⟩
def Blp (K:Nat):Gb tyU:=⟨s_164,Ar0 K⟩
def Blq (K:Nat):=xF s_164 [] [] 20 [] [] [] [] [.tmp 4]
def A5s:E5:=⟨[(0,.o 1 5 true),(1,.v 2),(5,.v 2)],[]⟩
def A5t (K:Nat)(n:Nat)(q:PT A5s):Rt s_164:=Aqo K n q.1 q.2.1 q.2.2.1
theorem Blr (K:Nat):AtL (Blq K) (fun n=>[]) [] (bd Tryz.f29) 26 (A5t K):=fun n q=>by kernel_rfl
theorem Bls (K:Nat):XF [.tmp 4] s_164 20 [] (Blq K):=xkF gN oN
theorem Blt (K:Nat)(n:Nat):CF [.tmp 4] s_164 20 [] (bd Tryz.f29) [] 26 (ar A5s (A5t K n)):=
 Aeh (Bls K) (Blr K) (fun n=>kN) n
theorem Blu (K:Nat):OkF 29 (Blp K):=
 Aa6 (x:=Blq K) (L:=[(26,ar A5s (A5t K K))]) (c0:=bd Tryz.f29) (Bls K) (by intro a0 a1;show @Eq _ _ _;kernel_rfl) (kC (Blt K K) kN) Tryz.func29 ⟨fun _=>rfl,trivial⟩
def Ara (K:Nat):Nat->(List Int)->Int->Int->Option (Int×(List Int))
 |0,_,_,_=>none
 |n1+1,v1,v2,v3=>(bif (decide (v3<(v1.length:Int)))then(if(0:Int)≤v3∧v3<(v1.length:Int)then(Ara K n1 (v1.set v3.toNat v2) (Aoa .i64 v2 1) (Aoa .i64 v3 1))else none)else some (v2,v1))
def Alg (K:Nat)(a0:List Int)(a1:Int):Option (Int×(List Int)):=(Ara K K a0 a1 0)
def s_165:Sig:=⟨[.w 26 true [(3,true)],.v 3],[.v 3],true⟩
def Bbm (K:Nat):Gb tyU:=⟨s_165,Alg K⟩
def Blv (K:Nat):=xF s_165 [] [] 19 [] [] [] [] [.tmp 4]
def A5u:E5:=⟨[(0,.o 1 3 true),(1,.v 2),(5,.v 2)],[]⟩
def A5v (K:Nat)(n:Nat)(q:PT A5u):Rt s_165:=Ara K n q.1 q.2.1 q.2.2.1
theorem Blw (K:Nat):AtL (Blv K) (fun n=>[]) [] (bd Tryz.f81) 26 (A5v K):=fun n q=>by kernel_rfl
theorem Blx (K:Nat):XF [.tmp 4] s_165 19 [] (Blv K):=xkF gN oN
theorem Bly (K:Nat)(n:Nat):CF [.tmp 4] s_165 19 [] (bd Tryz.f81) [] 26 (ar A5u (A5v K n)):=
 Aeh (Blx K) (Blw K) (fun n=>kN) n
theorem Baa (K:Nat):OkF 81 (Bbm K):=
 Aa6 (x:=Blv K) (L:=[(26,ar A5u (A5v K K))]) (c0:=bd Tryz.f81) (Blx K) (by intro a0 a1;show @Eq _ _ _;kernel_rfl) (kC (Bly K K) kN) Tryz.func81 ⟨fun _=>rfl,trivial⟩
def Au1 (K:Nat)(a0:Dw)(a1:Int):Option (Int×(List Int)×(List Int)×(List Int)):=((Ar0 K a0.Fy a1).bind fun r1=>(if r1.2.length=a0.Fy.length then((Alg K a0.Hh r1.1).bind fun r2=>(if r2.2.length=a0.Hh.length then((Alg K a0.Fz r2.1).bind fun r3=>(if r3.2.length=a0.Fz.length then some (r3.1,r1.2,r2.2,r3.2)else none))else none))else none))
def Buf:Sig:=⟨[.w 28 true [(5,true),(3,true),(3,true)],.v 3],[.v 3],true⟩
def Bug (K:Nat):Gb tyU:=⟨Buf,Au1 K⟩
def B4i (K:Nat):=xF Buf [(29,Blp K),(81,Bbm K)] [] 18 [] [] [] [] [.tmp 4]
theorem Bxt (K:Nat):OkF 78 (Bug K):=
 Aa6 (x:=B4i K) (L:=[]) (c0:=bd Tryz.f78) (xkF (gC (Blu K) (gC (Baa K) gN)) oN) (by intro a0 a1;show @Eq _ _ _;kernel_rfl) kN Tryz.func78 ⟨fun _=>rfl,trivial⟩
def Al5 (K:Nat):Nat->(List A9)->Int->Int->Option (Int×(List A9))
 |0,_,_,_=>none
 |n1+1,v1,v2,v3=>(bif (decide (v3<(v1.length:Int)))then(if(0:Int)≤v3∧v3<(v1.length:Int)then(if(0:Int)≤v3∧v3<((v1.set v3.toNat (A9.mk v2 ((gt v1 v3).Vu) ((gt v1 v3).Vv))).length:Int)then(Aql ((v1.set v3.toNat (A9.mk v2 ((gt v1 v3).Vu) ((gt v1 v3).Vv))).set v3.toNat (A9.mk ((gt (v1.set v3.toNat (A9.mk v2 ((gt v1 v3).Vu) ((gt v1 v3).Vv))) v3).fAt) (Aoa .i64 v2 1) ((gt (v1.set v3.toNat (A9.mk v2 ((gt v1 v3).Vu) ((gt v1 v3).Vv))) v3).Vv))) fun v4=>(if(0:Int)≤v3∧v3<(v4.length:Int)then(Al5 K n1 (v4.set v3.toNat (A9.mk ((gt v4 v3).fAt) ((gt v4 v3).Vu) (Aoa .i64 (Aoa .i64 v2 1) 1))) (Aoa .i64 (Aoa .i64 (Aoa .i64 v2 1) 1) 1) (Aoa .i64 v3 1))else none))else none)else none)else some (v2,v1))
def Asv (K:Nat)(a0:List A9)(a1:Int):Option (Int×(List A9)):=(Al5 K K a0 a1 0)
def s_167:Sig:=⟨[.w 41 true [(89,true)],.v 3],[.v 3],true⟩
def Buh (K:Nat):Gb tyU:=⟨s_167,Asv K⟩
def Blz (K:Nat):=xF s_167 [] [] 34 [] [] [] [] [.tmp 4]
def A5w:E5:=⟨[(0,.o 1 89 true),(1,.v 2),(5,.v 2)],[]⟩
def A5x (K:Nat)(n:Nat)(q:PT A5w):Rt s_167:=Al5 K n q.1 q.2.1 q.2.2.1
theorem Bl0 (K:Nat):AtL (Blz K) (fun n=>[]) [] (bd Tryz.f136) 26 (A5x K):=fun n q=>by kernel_rfl
theorem Bl1 (K:Nat):XF [.tmp 4] s_167 34 [] (Blz K):=xkF gN oN
theorem Bl2 (K:Nat)(n:Nat):CF [.tmp 4] s_167 34 [] (bd Tryz.f136) [] 26 (ar A5w (A5x K n)):=
 Aeh (Bl1 K) (Bl0 K) (fun n=>kN) n
theorem Bxu (K:Nat):OkF 136 (Buh K):=
 Aa6 (x:=Blz K) (L:=[(26,ar A5w (A5x K K))]) (c0:=bd Tryz.f136) (Bl1 K) (by intro a0 a1;show @Eq _ _ _;kernel_rfl) (kC (Bl2 K K) kN) Tryz.func136 ⟨fun _=>rfl,trivial⟩
def Anr (K:Nat):Nat->(List Ba)->Int->Int->Option (Int×(List Ba))
 |0,_,_,_=>none
 |n1+1,v1,v2,v3=>(bif (decide (v3<(v1.length:Int)))then(if(0:Int)≤v3∧v3<(v1.length:Int)then(Aql (v1.set v3.toNat (Ba.mk v2 ((gt v1 v3).C2) ((gt v1 v3).Ly) ((gt v1 v3).fUp) ((gt v1 v3).Gq) ((gt v1 v3).Bt) ((gt v1 v3).Gr) ((gt v1 v3).Gs) ((gt v1 v3).Ae) ((gt v1 v3).Pq) ((gt v1 v3).Gt) ((gt v1 v3).Ea) ((gt v1 v3).Dg))) fun v4=>(if(0:Int)≤v3∧v3<(v4.length:Int)then(Aql (v4.set v3.toNat (Ba.mk ((gt v4 v3).Hh) (Aoa .i64 v2 1) ((gt v4 v3).Ly) ((gt v4 v3).fUp) ((gt v4 v3).Gq) ((gt v4 v3).Bt) ((gt v4 v3).Gr) ((gt v4 v3).Gs) ((gt v4 v3).Ae) ((gt v4 v3).Pq) ((gt v4 v3).Gt) ((gt v4 v3).Ea) ((gt v4 v3).Dg))) fun v5=>(if(0:Int)≤v3∧v3<(v5.length:Int)then(Aql (v5.set v3.toNat (Ba.mk ((gt v5 v3).Hh) ((gt v5 v3).C2) (Aoa .i64 (Aoa .i64 v2 1) 1) ((gt v5 v3).fUp) ((gt v5 v3).Gq) ((gt v5 v3).Bt) ((gt v5 v3).Gr) ((gt v5 v3).Gs) ((gt v5 v3).Ae) ((gt v5 v3).Pq) ((gt v5 v3).Gt) ((gt v5 v3).Ea) ((gt v5 v3).Dg))) fun v6=>(if(0:Int)≤v3∧v3<(v6.length:Int)then(Aql (v6.set v3.toNat (Ba.mk ((gt v6 v3).Hh) ((gt v6 v3).C2) ((gt v6 v3).Ly) (Aoa .i64 (Aoa .i64 (Aoa .i64 v2 1) 1) 1) ((gt v6 v3).Gq) ((gt v6 v3).Bt) ((gt v6 v3).Gr) ((gt v6 v3).Gs) ((gt v6 v3).Ae) ((gt v6 v3).Pq) ((gt v6 v3).Gt) ((gt v6 v3).Ea) ((gt v6 v3).Dg))) fun v7=>(if(0:Int)≤v3∧v3<(v7.length:Int)then(Aql (v7.set v3.toNat (Ba.mk ((gt v7 v3).Hh) ((gt v7 v3).C2) ((gt v7 v3).Ly) ((gt v7 v3).fUp) (Aoa .i64 (Aoa .i64 (Aoa .i64 (Aoa .i64 v2 1) 1) 1) 1) ((gt v7 v3).Bt) ((gt v7 v3).Gr) ((gt v7 v3).Gs) ((gt v7 v3).Ae) ((gt v7 v3).Pq) ((gt v7 v3).Gt) ((gt v7 v3).Ea) ((gt v7 v3).Dg))) fun v8=>(if(0:Int)≤v3∧v3<(v8.length:Int)then(Aql (v8.set v3.toNat (Ba.mk ((gt v8 v3).Hh) ((gt v8 v3).C2) ((gt v8 v3).Ly) ((gt v8 v3).fUp) ((gt v8 v3).Gq) (Aoa .i64 (Aoa .i64 (Aoa .i64 (Aoa .i64 (Aoa .i64 v2 1) 1) 1) 1) 1) ((gt v8 v3).Gr) ((gt v8 v3).Gs) ((gt v8 v3).Ae) ((gt v8 v3).Pq) ((gt v8 v3).Gt) ((gt v8 v3).Ea) ((gt v8 v3).Dg))) fun v9=>(if(0:Int)≤v3∧v3<(v9.length:Int)then(Aql (v9.set v3.toNat (Ba.mk ((gt v9 v3).Hh) ((gt v9 v3).C2) ((gt v9 v3).Ly) ((gt v9 v3).fUp) ((gt v9 v3).Gq) ((gt v9 v3).Bt) (Aoa .i64 (Aoa .i64 (Aoa .i64 (Aoa .i64 (Aoa .i64 (Aoa .i64 v2 1) 1) 1) 1) 1) 1) ((gt v9 v3).Gs) ((gt v9 v3).Ae) ((gt v9 v3).Pq) ((gt v9 v3).Gt) ((gt v9 v3).Ea) ((gt v9 v3).Dg))) fun v10=>(if(0:Int)≤v3∧v3<(v10.length:Int)then(Aql (v10.set v3.toNat (Ba.mk ((gt v10 v3).Hh) ((gt v10 v3).C2) ((gt v10 v3).Ly) ((gt v10 v3).fUp) ((gt v10 v3).Gq) ((gt v10 v3).Bt) ((gt v10 v3).Gr) (Aoa .i64 (Aoa .i64 (Aoa .i64 (Aoa .i64 (Aoa .i64 (Aoa .i64 (Aoa .i64 v2 1) 1) 1) 1) 1) 1) 1) ((gt v10 v3).Ae) ((gt v10 v3).Pq) ((gt v10 v3).Gt) ((gt v10 v3).Ea) ((gt v10 v3).Dg))) fun v11=>(if(0:Int)≤v3∧v3<(v11.length:Int)then(if(0:Int)≤v3∧v3<(v11.length:Int)then((Alg K ((gt v11 v3).Ae) (Aoa .i64 (Aoa .i64 (Aoa .i64 (Aoa .i64 (Aoa .i64 (Aoa .i64 (Aoa .i64 (Aoa .i64 v2 1) 1) 1) 1) 1) 1) 1) 1)).bind fun r12=>(if r12.2.length=((gt v11 v3).Ae).length then(if(0:Int)≤v3∧v3<(v11.length:Int)then(if(0:Int)≤v3∧v3<(v11.length:Int)then(if(0:Int)≤v3∧v3<(v11.length:Int)then((Asv K ((gt v11 v3).Ea) (Aoa .i64 (Aoa .i64 r12.1 1) 1)).bind fun r13=>(if r13.2.length=((gt v11 v3).Ea).length then(if(0:Int)≤v3∧v3<(v11.length:Int)then((Alg K ((gt v11 v3).Dg) r13.1).bind fun r14=>(if r14.2.length=((gt v11 v3).Dg).length then(Anr K n1 (v11.set v3.toNat (Ba.mk ((gt v11 v3).Hh) ((gt v11 v3).C2) ((gt v11 v3).Ly) ((gt v11 v3).fUp) ((gt v11 v3).Gq) ((gt v11 v3).Bt) ((gt v11 v3).Gr) ((gt v11 v3).Gs) r12.2 r12.1 (Aoa .i64 r12.1 1) r13.2 r14.2)) r14.1 (Aoa .i64 v3 1))else none))else none)else none))else none)else none)else none)else none))else none)else none))else none))else none))else none))else none))else none))else none))else none))else none)else some (v2,v1))
def Atw (K:Nat)(a0:List Ba)(a1:Int):Option (Int×(List Ba)):=(Anr K K a0 a1 0)
def s_168:Sig:=⟨[.w 29 true [(44,true)],.v 3],[.v 3],true⟩
def Bui (K:Nat):Gb tyU:=⟨s_168,Atw K⟩
def Bl3 (K:Nat):=xF s_168 [(81,Bbm K),(136,Buh K)] [] 104 [] [(20,[.opn 1 (.tmp 5),.takeE 1 8 40072]),(25,[.takeE 1 11 40075]),(26,[.takeE 1 12 40076])] [] [] [.tmp 4]
def A5y:E5:=⟨[(0,.o 1 44 true),(1,.v 2),(5,.v 2)],[]⟩
def A5z (K:Nat)(n:Nat)(q:PT A5y):Rt s_168:=Anr K n q.1 q.2.1 q.2.2.1
theorem Bl4 (K:Nat):AtL (Bl3 K) (fun n=>[]) [] (bd Tryz.f79) 26 (A5z K):=fun n q=>by kernel_rfl
theorem Bl5 (K:Nat):XF [.tmp 4] s_168 104 [] (Bl3 K):=xkF (gC (Baa K) (gC (Bxu K) gN)) oN
theorem Bl6 (K:Nat)(n:Nat):CF [.tmp 4] s_168 104 [] (bd Tryz.f79) [] 26 (ar A5y (A5z K n)):=
 Aeh (Bl5 K) (Bl4 K) (fun n=>kN) n
theorem Bxv (K:Nat):OkF 79 (Bui K):=
 Aa6 (x:=Bl3 K) (L:=[(26,ar A5y (A5z K K))]) (c0:=bd Tryz.f79) (Bl5 K) (by intro a0 a1;show @Eq _ _ _;kernel_rfl) (kC (Bl6 K K) kN) Tryz.func79 ⟨fun _=>rfl,trivial⟩
def Al6 (K:Nat):Nat->(List Ax)->Int->Int->Option (Int×(List Ax))
 |0,_,_,_=>none
 |n1+1,v1,v2,v3=>(bif (decide (v3<(v1.length:Int)))then(if(0:Int)≤v3∧v3<(v1.length:Int)then(if(0:Int)≤v3∧v3<((v1.set v3.toNat (Ax.mk v2 ((gt v1 v3).Bt) ((gt v1 v3).Dg) ((gt v1 v3).Ae) ((gt v1 v3).Gu))).length:Int)then(Aql ((v1.set v3.toNat (Ax.mk v2 ((gt v1 v3).Bt) ((gt v1 v3).Dg) ((gt v1 v3).Ae) ((gt v1 v3).Gu))).set v3.toNat (Ax.mk ((gt (v1.set v3.toNat (Ax.mk v2 ((gt v1 v3).Bt) ((gt v1 v3).Dg) ((gt v1 v3).Ae) ((gt v1 v3).Gu))) v3).A5) (Aoa .i64 v2 1) ((gt (v1.set v3.toNat (Ax.mk v2 ((gt v1 v3).Bt) ((gt v1 v3).Dg) ((gt v1 v3).Ae) ((gt v1 v3).Gu))) v3).Dg) ((gt (v1.set v3.toNat (Ax.mk v2 ((gt v1 v3).Bt) ((gt v1 v3).Dg) ((gt v1 v3).Ae) ((gt v1 v3).Gu))) v3).Ae) ((gt (v1.set v3.toNat (Ax.mk v2 ((gt v1 v3).Bt) ((gt v1 v3).Dg) ((gt v1 v3).Ae) ((gt v1 v3).Gu))) v3).Gu))) fun v4=>(if(0:Int)≤v3∧v3<(v4.length:Int)then(if(0:Int)≤v3∧v3<(v4.length:Int)then((Alg K ((gt v4 v3).Dg) (Aoa .i64 (Aoa .i64 v2 1) 1)).bind fun r5=>(if r5.2.length=((gt v4 v3).Dg).length then(if(0:Int)≤v3∧v3<(v4.length:Int)then((Alg K ((gt v4 v3).Ae) r5.1).bind fun r6=>(if r6.2.length=((gt v4 v3).Ae).length then(if(0:Int)≤v3∧v3<(v4.length:Int)then(Al6 K n1 (v4.set v3.toNat (Ax.mk ((gt v4 v3).A5) ((gt v4 v3).Bt) r5.2 r6.2 r6.1)) (Aoa .i64 r6.1 1) (Aoa .i64 v3 1))else none)else none))else none)else none))else none)else none))else none)else none)else some (v2,v1))
def Asw (K:Nat)(a0:List Ax)(a1:Int):Option (Int×(List Ax)):=(Al6 K K a0 a1 0)
def s_169:Sig:=⟨[.w 30 true [(159,true)],.v 3],[.v 3],true⟩
def Buj (K:Nat):Gb tyU:=⟨s_169,Asw K⟩
def Bl7 (K:Nat):=xF s_169 [(81,Bbm K)] [] 48 [] [(8,[.opn 1 (.tmp 5),.takeE 1 2 40066]),(9,[.takeE 1 3 40067])] [] [] [.tmp 4]
def A50:E5:=⟨[(0,.o 1 159 true),(1,.v 2),(5,.v 2)],[]⟩
def A51 (K:Nat)(n:Nat)(q:PT A50):Rt s_169:=Al6 K n q.1 q.2.1 q.2.2.1
theorem Bl8 (K:Nat):AtL (Bl7 K) (fun n=>[]) [] (bd Tryz.f80) 26 (A51 K):=fun n q=>by kernel_rfl
theorem Bl9 (K:Nat):XF [.tmp 4] s_169 48 [] (Bl7 K):=xkF (gC (Baa K) gN) oN
theorem Bma (K:Nat)(n:Nat):CF [.tmp 4] s_169 48 [] (bd Tryz.f80) [] 26 (ar A50 (A51 K n)):=
 Aeh (Bl9 K) (Bl8 K) (fun n=>kN) n
theorem Bxw (K:Nat):OkF 80 (Buj K):=
 Aa6 (x:=Bl7 K) (L:=[(26,ar A50 (A51 K K))]) (c0:=bd Tryz.f80) (Bl9 K) (by intro a0 a1;show @Eq _ _ _;kernel_rfl) (kC (Bma K K) kN) Tryz.func80 ⟨fun _=>rfl,trivial⟩
def Ar1 (K:Nat)(a0:Eb)(a1:Int):Option (Int×(List Int)×(List Int)×(List Int)×(List Ba)×(List Ax)×(List Int)):=((Au1 K a0.fP a1).bind fun r1=>(if r1.2.1.length=a0.fP.Fy.length∧r1.2.2.1.length=a0.fP.Hh.length∧r1.2.2.2.length=a0.fP.Fz.length then((Atw K a0.fL r1.1).bind fun r2=>(if r2.2.length=a0.fL.length then((Asw K a0.fQ r2.1).bind fun r3=>(if r3.2.length=a0.fQ.length then((Alg K a0.Pr r3.1).bind fun r4=>(if r4.2.length=a0.Pr.length then some (r4.1,r1.2.1,r1.2.2.1,r1.2.2.2,r2.2,r3.2,r4.2)else none))else none))else none))else none))
def Buk:Sig:=⟨[.w 32 true [(5,true),(3,true),(3,true),(44,true),(159,true),(3,true)],.v 3],[.v 3],true⟩
def Bul (K:Nat):Gb tyU:=⟨Buk,Ar1 K⟩
def B4j (K:Nat):=xF Buk [(78,Bug K),(79,Bui K),(80,Buj K),(81,Bbm K)] [] 22 [] [] [] [] [.tmp 4]
theorem Bxx (K:Nat):OkF 28 (Bul K):=
 Aa6 (x:=B4j K) (L:=[]) (c0:=bd Tryz.f28) (xkF (gC (Bxt K) (gC (Bxv K) (gC (Bxw K) (gC (Baa K) gN)))) oN) (by intro a0 a1;show @Eq _ _ _;kernel_rfl) kN Tryz.func28 ⟨fun _=>rfl,trivial⟩
def Avz (K:Nat)(a0:Fh)(a1:Int):Option (Int×(List Int)):=((Ar0 K a0.fB a1).bind fun r1=>(if r1.2.length=a0.fB.length then some (r1.1,r1.2)else none))
def Bum:Sig:=⟨[.w 69 true [(5,true)],.v 3],[.v 3],true⟩
def Bun (K:Nat):Gb tyU:=⟨Bum,Avz K⟩
def B4k (K:Nat):=xF Bum [(29,Blp K)] [] 10 [] [] [] [] [.tmp 4]
theorem Bxy (K:Nat):OkF 34 (Bun K):=
 Aa6 (x:=B4k K) (L:=[]) (c0:=bd Tryz.f34) (xkF (gC (Blu K) gN) oN) (by intro a0 a1;show @Eq _ _ _;kernel_rfl) kN Tryz.func34 ⟨fun _=>rfl,trivial⟩
def Aqq (K:Nat)(a0:List Int):Nat->Int->Int->Option (Int)
 |0,_,_=>none
 |n1+1,v1,v2=>(bif (decide (v2<(a0.length:Int)))then(if(0:Int)≤v2∧v2<(a0.length:Int)then(bif ((gt a0 v2) != (IntKind.u8.wrap v1))then some (-1)else(Aqq K a0 n1 (Aoa .i64 v1 1) (Aoa .i64 v2 1)))else none)else some v1)
def Ar2 (K:Nat)(a0:List Int)(a1:Int):Option (Int):=(Aqq K a0 K a1 0)
def s_172:Sig:=⟨[.v 22,.v 3],[.v 3],true⟩
def Bmb (K:Nat):Gb tyU:=⟨s_172,Ar2 K⟩
def Bmc (K:Nat):=xF s_172 [] [] 22 [] [] [] [] [.tmp 4]
def A52:E5:=⟨[(0,.v 22),(1,.v 2),(5,.v 2)],[]⟩
def A53 (K:Nat)(n:Nat)(q:PT A52):Rt s_172:=Aqq K q.1 n q.2.1 q.2.2.1
theorem Bmd (K:Nat):AtL (Bmc K) (fun n=>[]) [] (bd Tryz.f30) 26 (A53 K):=fun n q=>by kernel_rfl
theorem Bme (K:Nat):XF [.tmp 4] s_172 22 [] (Bmc K):=xkF gN oN
theorem Bmf (K:Nat)(n:Nat):CF [.tmp 4] s_172 22 [] (bd Tryz.f30) [] 26 (ar A52 (A53 K n)):=
 Aeh (Bme K) (Bmd K) (fun n=>kN) n
theorem Bmg (K:Nat):OkF 30 (Bmb K):=
 Aa6 (x:=Bmc K) (L:=[(26,ar A52 (A53 K K))]) (c0:=bd Tryz.f30) (Bme K) (by intro a0 a1;show @Eq _ _ _;kernel_rfl) (kC (Bmf K K) kN) Tryz.func30 trivial
def Arb (K:Nat)(a0:List Int):Nat->Int->Int->Option (Int)
 |0,_,_=>none
 |n1+1,v1,v2=>(bif (decide (v2<(a0.length:Int)))then(if(0:Int)≤v2∧v2<(a0.length:Int)then(bif ((gt a0 v2) != v1)then some (-1)else(Arb K a0 n1 (Aoa .i64 v1 1) (Aoa .i64 v2 1)))else none)else some v1)
def Alh (K:Nat)(a0:List Int)(a1:Int):Option (Int):=(Arb K a0 K a1 0)
def s_173:Sig:=⟨[.v 26,.v 3],[.v 3],true⟩
def Bbn (K:Nat):Gb tyU:=⟨s_173,Alh K⟩
def Bmh (K:Nat):=xF s_173 [] [] 21 [] [] [] [] [.tmp 4]
def A54:E5:=⟨[(0,.v 26),(1,.v 2),(5,.v 2)],[]⟩
def A55 (K:Nat)(n:Nat)(q:PT A54):Rt s_173:=Arb K q.1 n q.2.1 q.2.2.1
theorem Bmi (K:Nat):AtL (Bmh K) (fun n=>[]) [] (bd Tryz.f98) 26 (A55 K):=fun n q=>by kernel_rfl
theorem Bmj (K:Nat):XF [.tmp 4] s_173 21 [] (Bmh K):=xkF gN oN
theorem Bmk (K:Nat)(n:Nat):CF [.tmp 4] s_173 21 [] (bd Tryz.f98) [] 26 (ar A54 (A55 K n)):=
 Aeh (Bmj K) (Bmi K) (fun n=>kN) n
theorem Bab (K:Nat):OkF 98 (Bbn K):=
 Aa6 (x:=Bmh K) (L:=[(26,ar A54 (A55 K K))]) (c0:=bd Tryz.f98) (Bmj K) (by intro a0 a1;show @Eq _ _ _;kernel_rfl) (kC (Bmk K K) kN) Tryz.func98 trivial
def Axf (K:Nat)(a0:Dw)(a1:Int):Option (Int):=((Ar2 K a0.Fy a1).bind fun r1=>(bif (decide (r1<0))then some (-1)else((Alh K a0.Hh r1).bind fun r2=>(bif (decide (r2<0))then some (-1)else((Alh K a0.Fz r2).bind fun r3=>(bif (decide (r3<0))then some (-1)else some r3))))))
def Buo:Sig:=⟨[.v 28,.v 3],[.v 3],true⟩
def Bup (K:Nat):Gb tyU:=⟨Buo,Axf K⟩
def B4l (K:Nat):=xF Buo [(30,Bmb K),(98,Bbn K)] [] 24 [] [] [] [] [.tmp 4]
theorem Bxz (K:Nat):OkF 95 (Bup K):=
 Aa6 (x:=B4l K) (L:=[]) (c0:=bd Tryz.f95) (xkF (gC (Bmg K) (gC (Bab K) gN)) oN) (by intro a0 a1;show @Eq _ _ _;kernel_rfl) kN Tryz.func95 trivial
def Al7 (K:Nat)(a0:List A9):Nat->Int->Int->Option (Int)
 |0,_,_=>none
 |n1+1,v1,v2=>(bif (decide (v2<(a0.length:Int)))then(if(0:Int)≤v2∧v2<(a0.length:Int)then(bif (((gt a0 v2).fAt) != v1)then some (-1)else(if(0:Int)≤v2∧v2<(a0.length:Int)then(bif (((gt a0 v2).Vu) != (Aoa .i64 v1 1))then some (-1)else(if(0:Int)≤v2∧v2<(a0.length:Int)then(bif (((gt a0 v2).Vv) != (Aoa .i64 (Aoa .i64 v1 1) 1))then some (-1)else(Al7 K a0 n1 (Aoa .i64 (Aoa .i64 (Aoa .i64 v1 1) 1) 1) (Aoa .i64 v2 1)))else none))else none))else none)else some v1)
def Asx (K:Nat)(a0:List A9)(a1:Int):Option (Int):=(Al7 K a0 K a1 0)
def s_175:Sig:=⟨[.v 41,.v 3],[.v 3],true⟩
def Buq (K:Nat):Gb tyU:=⟨s_175,Asx K⟩
def Bml (K:Nat):=xF s_175 [] [] 40 [] [] [] [] [.tmp 4]
def A56:E5:=⟨[(0,.v 41),(1,.v 2),(5,.v 2)],[]⟩
def A57 (K:Nat)(n:Nat)(q:PT A56):Rt s_175:=Al7 K q.1 n q.2.1 q.2.2.1
theorem Bmm (K:Nat):AtL (Bml K) (fun n=>[]) [] (bd Tryz.f166) 26 (A57 K):=fun n q=>by kernel_rfl
theorem Bmn (K:Nat):XF [.tmp 4] s_175 40 [] (Bml K):=xkF gN oN
theorem Bmo (K:Nat)(n:Nat):CF [.tmp 4] s_175 40 [] (bd Tryz.f166) [] 26 (ar A56 (A57 K n)):=
 Aeh (Bmn K) (Bmm K) (fun n=>kN) n
theorem Bx0 (K:Nat):OkF 166 (Buq K):=
 Aa6 (x:=Bml K) (L:=[(26,ar A56 (A57 K K))]) (c0:=bd Tryz.f166) (Bmn K) (by intro a0 a1;show @Eq _ _ _;kernel_rfl) (kC (Bmo K K) kN) Tryz.func166 trivial
def Ans (K:Nat)(a0:List Ba):Nat->Int->Int->Option (Int)
 |0,_,_=>none
 |n1+1,v1,v2=>(bif (decide (v2<(a0.length:Int)))then(if(0:Int)≤v2∧v2<(a0.length:Int)then(bif (((gt a0 v2).Hh) != v1)then some (-1)else(if(0:Int)≤v2∧v2<(a0.length:Int)then(bif (((gt a0 v2).C2) != (Aoa .i64 v1 1))then some (-1)else(if(0:Int)≤v2∧v2<(a0.length:Int)then(bif (((gt a0 v2).Ly) != (Aoa .i64 (Aoa .i64 v1 1) 1))then some (-1)else(if(0:Int)≤v2∧v2<(a0.length:Int)then(bif (((gt a0 v2).fUp) != (Aoa .i64 (Aoa .i64 (Aoa .i64 v1 1) 1) 1))then some (-1)else(if(0:Int)≤v2∧v2<(a0.length:Int)then(bif (((gt a0 v2).Gq) != (Aoa .i64 (Aoa .i64 (Aoa .i64 (Aoa .i64 v1 1) 1) 1) 1))then some (-1)else(if(0:Int)≤v2∧v2<(a0.length:Int)then(bif (((gt a0 v2).Bt) != (Aoa .i64 (Aoa .i64 (Aoa .i64 (Aoa .i64 (Aoa .i64 v1 1) 1) 1) 1) 1))then some (-1)else(if(0:Int)≤v2∧v2<(a0.length:Int)then(bif (((gt a0 v2).Gr) != (Aoa .i64 (Aoa .i64 (Aoa .i64 (Aoa .i64 (Aoa .i64 (Aoa .i64 v1 1) 1) 1) 1) 1) 1))then some (-1)else(if(0:Int)≤v2∧v2<(a0.length:Int)then(bif (((gt a0 v2).Gs) != (Aoa .i64 (Aoa .i64 (Aoa .i64 (Aoa .i64 (Aoa .i64 (Aoa .i64 (Aoa .i64 v1 1) 1) 1) 1) 1) 1) 1))then some (-1)else(if(0:Int)≤v2∧v2<(a0.length:Int)then((Alh K ((gt a0 v2).Ae) (Aoa .i64 (Aoa .i64 (Aoa .i64 (Aoa .i64 (Aoa .i64 (Aoa .i64 (Aoa .i64 (Aoa .i64 v1 1) 1) 1) 1) 1) 1) 1) 1)).bind fun r3=>(bif (decide (r3<0))then some (-1)else(if(0:Int)≤v2∧v2<(a0.length:Int)then(bif (((gt a0 v2).Pq) != r3)then some (-1)else(if(0:Int)≤v2∧v2<(a0.length:Int)then(bif (((gt a0 v2).Gt) != (Aoa .i64 r3 1))then some (-1)else(if(0:Int)≤v2∧v2<(a0.length:Int)then((Asx K ((gt a0 v2).Ea) (Aoa .i64 (Aoa .i64 r3 1) 1)).bind fun r4=>(bif (decide (r4<0))then some (-1)else(if(0:Int)≤v2∧v2<(a0.length:Int)then((Alh K ((gt a0 v2).Dg) r4).bind fun r5=>(bif (decide (r5<0))then some (-1)else(Ans K a0 n1 r5 (Aoa .i64 v2 1))))else none)))else none))else none))else none)))else none))else none))else none))else none))else none))else none))else none))else none))else none)else some v1)
def Atx (K:Nat)(a0:List Ba)(a1:Int):Option (Int):=(Ans K a0 K a1 0)
def s_176:Sig:=⟨[.v 29,.v 3],[.v 3],true⟩
def Bur (K:Nat):Gb tyU:=⟨s_176,Atx K⟩
def Bmp (K:Nat):=xF s_176 [(98,Bbn K),(166,Buq K)] [] 130 [] [] [] [] [.tmp 4]
def A58:E5:=⟨[(0,.v 29),(1,.v 2),(5,.v 2)],[]⟩
def A59 (K:Nat)(n:Nat)(q:PT A58):Rt s_176:=Ans K q.1 n q.2.1 q.2.2.1
theorem Bmq (K:Nat):AtL (Bmp K) (fun n=>[]) [] (bd Tryz.f96) 26 (A59 K):=fun n q=>by kernel_rfl
theorem Bmr (K:Nat):XF [.tmp 4] s_176 130 [] (Bmp K):=xkF (gC (Bab K) (gC (Bx0 K) gN)) oN
theorem Bms (K:Nat)(n:Nat):CF [.tmp 4] s_176 130 [] (bd Tryz.f96) [] 26 (ar A58 (A59 K n)):=
 Aeh (Bmr K) (Bmq K) (fun n=>kN) n
theorem Bx1 (K:Nat):OkF 96 (Bur K):=
 Aa6 (x:=Bmp K) (L:=[(26,ar A58 (A59 K K))]) (c0:=bd Tryz.f96) (Bmr K) (by intro a0 a1;show @Eq _ _ _;kernel_rfl) (kC (Bms K K) kN) Tryz.func96 trivial
end
end Go.Proofs.YtjdblamhaljjbaaGreat
