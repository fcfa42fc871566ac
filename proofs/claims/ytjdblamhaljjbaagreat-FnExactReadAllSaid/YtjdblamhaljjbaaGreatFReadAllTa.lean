/- What the functions compute that FnExactReadAll reaches, and that they do; no condition. Printed by gen3.py. -/
import Derived.Test.YtjdblamhaljjbaaGreatFSrt
set_option linter.all false
set_option maxRecDepth 20000
namespace Go.Proofs.YtjdblamhaljjbaaGreat
open Go.Eng
noncomputable section
abbrev bd (f : Func) : Code := f.body.getD .skip
abbrev PT (h : Shape) : Type := PTup tyU h.codes
abbrev Rt (s : Sig) : Type := Option (Tup tyU s.codes)
abbrev CT (h : Shape) (s : Sig) : Type := PTup tyU h.codes -> Option (Tup tyU s.codes)
abbrev ar {s : Sig} (h : Shape) (M : CT h s) : SS tyD -> Rt s := arr tyU tab h M
def xF (s : Sig) (G : List (Nat × Ctr tyU)) (O : List (Nat × List (Nat × Ctr tyU))) (N : Nat) (spl : List Nat) (pre post : List (Nat × List Cmd)) (js : List Nat) (rl : List ResultVar) (L B : Λt tyU s) : Ox tyU (Tup tyU s.codes) := ⟨G, O, eqT eqs, N, spl, pre, post, js, L, B, finS tyU tab s rl⟩
abbrev XF (rl : List ResultVar) (s : Sig) (N : Nat) (js : List Nat) (x : Λt tyU s -> Λt tyU s -> Ox tyU (Tup tyU s.codes)) : Prop := XOk tyU tab Tryz.prog rl s N js x
theorem mixF : Tryz.prog.follows .mixedOrders = true := by kernel_rfl
theorem xkF {rl : List ResultVar} {s : Sig} {N : Nat} {js : List Nat} {G : List (Nat × Ctr tyU)} {O : List (Nat × List (Nat × Ctr tyU))} {spl : List Nat} {pre post : List (Nat × List Cmd)} (hΓ : ∀ f c, lk G f = some c -> Ctr.Ok tyU Tryz.prog f c ∧ FnOk Tryz.prog f) (hov : ∀ d l, lk O d = some l -> ∀ f c, lk l f = some c -> Ctr.Ok tyU Tryz.prog f c ∧ FnOk Tryz.prog f) : XF rl s N js (xF s G O N spl pre post js rl) := xok tyOk mixF hΓ hov eqsOk
abbrev OkF (f : FuncId) (c : Ctr tyU) : Prop := Ctr.Ok tyU Tryz.prog f c ∧ FnOk Tryz.prog f
abbrev CF (rl : List ResultVar) (s : Sig) (N : Nat) (js : List Nat) (c : Code) (B : Λt tyU s) (p : Nat) (f : SS tyD -> Rt s) : Prop := Cut tyU tab Tryz.prog rl s N js c B p f
abbrev EqF (s : Sig) (x : Ox tyU (Tup tyU s.codes)) (c : Code) (m : FnT tyU s.ps (Rt s)) : Prop := EqGo tyU tab x c s.ps 0 [] [] m
abbrev AtL {s : Sig} {h : Shape} (x : Λt tyU s -> Λt tyU s -> Ox tyU (Tup tyU s.codes)) (L : Nat -> Λt tyU s) (B : Λt tyU s) (c : Code) (p : Nat) (M : Nat -> CT h s) : Prop := ∀ n q, M (n + 1) q = goAt tyU tab (x (L n) ((p, ar h (M n)) :: B)) c (2 * p) (h.emb tyU q)
abbrev AtJ {s : Sig} {h : Shape} (x : Λt tyU s -> Λt tyU s -> Ox tyU (Tup tyU s.codes)) (L B : Λt tyU s) (c : Code) (p : Nat) (M : CT h s) : Prop := ∀ q, M q = goAt tyU tab (x L B) c (2 * p + 1) (h.emb tyU q)
theorem loopF {rl : List ResultVar} {s : Sig} {N : Nat} {js : List Nat} {x : Λt tyU s -> Λt tyU s -> Ox tyU (Tup tyU s.codes)} {c : Code} {L : Nat -> Λt tyU s} {B : Λt tyU s} {p : Nat} {h : Shape} {M : Nat -> CT h s} (hx : XF rl s N js x) (e : AtL x L B c p M) (hc : ∀ n, Cuts tyU tab Tryz.prog rl s N js c ((p, ar h (M n)) :: B) (L n)) (n : Nat) (hp : Nat.ble 1 p = true := by rfl) (hk : isLoopAt js c p = true := by kernel_rfl) (e0 : ∀ q, M 0 q = none := by intro q; rfl) : CF rl s N js c B p (ar h (M n)) := cut_loop hx hp hk e0 e hc n
theorem joinF {rl : List ResultVar} {s : Sig} {N : Nat} {js : List Nat} {x : Λt tyU s -> Λt tyU s -> Ox tyU (Tup tyU s.codes)} {c : Code} {L B : Λt tyU s} {p : Nat} {h : Shape} {M : CT h s} (hx : XF rl s N js x) (e : AtJ x L B c p M) (hc : Cuts tyU tab Tryz.prog rl s N js c B L) (hp : Nat.ble 1 p = true := by rfl) : CF rl s N js c B p (ar h M) := cut_join hx hp e hc
theorem ctrF {rl : List ResultVar} {s : Sig} {N : Nat} {js : List Nat} {x : Λt tyU s -> Λt tyU s -> Ox tyU (Tup tyU s.codes)} {c0 : Code} (hx : XF rl s N js x) {L : Λt tyU s} {f : FuncId} {fn : Func} {m : FnT tyU s.ps (Rt s)} (e : EqF s (x L []) c0 m) (hc : Cuts tyU tab Tryz.prog rl s N js c0 [] L) (hf : Tryz.prog.funcs[f]? = some fn) (hs : SigOk tyU s.ps) (h1 : (fn.name == "runtime.NumGoroutine") = false := by rfl) (h2 : fn.body = some c0 := by rfl) (h3 : fn.results = rl.toArray := by rfl) (h4 : fn.ntmps = N := by rfl) (h5 : Nat.ble s.ps.length N = true := by rfl) (h6 : Nat.ble (nBlk s.ps + 1) 100 = true := by rfl) (h7 : Nat.ble rl.length 4 = true := by rfl) : OkF f ⟨s, m⟩ := ctr_ok hx tabOk e hc hf h1 h2 h3 h4 h5 h6 h7 hs
def m_laws_szByteS (K : Nat) (a0 : List Int) (a1 : Int) : Option (Int) := (bif (decide ((iSub .i64 a1 (a0.length : Int)) < 0)) then some (-1) else some (iSub .i64 a1 (a0.length : Int)))
def s_0 : Sig := ⟨[.v 22, .v 3], [.v 3], true⟩
def c_0 (K : Nat) : Ctr tyU := ⟨s_0, m_laws_szByteS K⟩
def x_0 (K : Nat) := xF s_0 [] [] 12 [] [] [] [] [.tmp 4]
theorem sp_0 (K : Nat) : OkF 127 (c_0 K) :=
 ctrF (x := x_0 K) (L := []) (c0 := bd Tryz.f127) (xkF gam_nil ov_nil) (by intro a0 a1; show @Eq _ _ _; kernel_rfl) cuts_nil Tryz.func127 trivial
def m_laws_szIntS (K : Nat) (a0 : List Int) (a1 : Int) : Option (Int) := (bif (decide ((iSub .i64 a1 (a0.length : Int)) < 0)) then some (-1) else some (iSub .i64 a1 (a0.length : Int)))
def s_1 : Sig := ⟨[.v 26, .v 3], [.v 3], true⟩
def c_1 (K : Nat) : Ctr tyU := ⟨s_1, m_laws_szIntS K⟩
def x_1 (K : Nat) := xF s_1 [] [] 12 [] [] [] [] [.tmp 4]
theorem sp_1 (K : Nat) : OkF 63 (c_1 K) :=
 ctrF (x := x_1 K) (L := []) (c0 := bd Tryz.f63) (xkF gam_nil ov_nil) (by intro a0 a1; show @Eq _ _ _; kernel_rfl) cuts_nil Tryz.func63 trivial
def m_laws_szPool (K : Nat) (a0 : T_laws_Pool) (a1 : Int) : Option (Int) := ((m_laws_szByteS K a0.fMem a1).bind fun r1 => (bif (decide (r1 < 0)) then some (-1) else ((m_laws_szIntS K a0.fSt r1).bind fun r2 => (bif (decide (r2 < 0)) then some (-1) else ((m_laws_szIntS K a0.fOwn r2).bind fun r3 => (bif (decide (r3 < 0)) then some (-1) else some r3))))))
def s_2 : Sig := ⟨[.v 48, .v 3], [.v 3], true⟩
def c_2 (K : Nat) : Ctr tyU := ⟨s_2, m_laws_szPool K⟩
def x_2 (K : Nat) := xF s_2 [(63, c_1 K), (127, c_0 K)] [] 24 [] [] [] [] [.tmp 4]
theorem sp_2 (K : Nat) : OkF 60 (c_2 K) :=
 ctrF (x := x_2 K) (L := []) (c0 := bd Tryz.f60) (xkF (gam_cons (sp_1 K) (gam_cons (sp_0 K) gam_nil)) ov_nil) (by intro a0 a1; show @Eq _ _ _; kernel_rfl) cuts_nil Tryz.func60 trivial
def m_laws_szThingS (K : Nat) (a0 : List T_laws_Thing) (a1 : Int) : Option (Int) := (bif (decide ((iSub .i64 a1 (a0.length : Int)) < 0)) then some (-1) else some (iSub .i64 a1 (a0.length : Int)))
def s_3 : Sig := ⟨[.v 152, .v 3], [.v 3], true⟩
def c_3 (K : Nat) : Ctr tyU := ⟨s_3, m_laws_szThingS K⟩
def x_3 (K : Nat) := xF s_3 [] [] 12 [] [] [] [] [.tmp 4]
theorem sp_3 (K : Nat) : OkF 200 (c_3 K) :=
 ctrF (x := x_3 K) (L := []) (c0 := bd Tryz.f200) (xkF gam_nil ov_nil) (by intro a0 a1; show @Eq _ _ _; kernel_rfl) cuts_nil Tryz.func200 trivial
def m_laws_szNode (K : Nat) (a0 : T_laws_Node) (a1 : Int) : Option (Int) := ((m_laws_szIntS K a0.fChunks a1).bind fun r1 => (bif (decide (r1 < 0)) then some (-1) else ((m_laws_szThingS K a0.fThings r1).bind fun r2 => (bif (decide (r2 < 0)) then some (-1) else ((m_laws_szIntS K a0.fTags r2).bind fun r3 => (bif (decide (r3 < 0)) then some (-1) else some r3))))))
def s_4 : Sig := ⟨[.v 154, .v 3], [.v 3], true⟩
def c_4 (K : Nat) : Ctr tyU := ⟨s_4, m_laws_szNode K⟩
def x_4 (K : Nat) := xF s_4 [(63, c_1 K), (200, c_3 K)] [] 24 [] [] [] [] [.tmp 4]
theorem sp_4 (K : Nat) : OkF 128 (c_4 K) :=
 ctrF (x := x_4 K) (L := []) (c0 := bd Tryz.f128) (xkF (gam_cons (sp_1 K) (gam_cons (sp_3 K) gam_nil)) ov_nil) (by intro a0 a1; show @Eq _ _ _; kernel_rfl) cuts_nil Tryz.func128 trivial
def l_laws_szNodeS_1 (K : Nat) (a0 : List T_laws_Node) : Nat -> Int -> Int -> Option (Int)
 | 0, _, _ => none
 | n1 + 1, v1, v2 => (bif (decide (v2 < (a0.length : Int))) then (if (0 : Int) ≤ v2 ∧ v2 < (a0.length : Int) then ((m_laws_szNode K (gt a0 v2) v1).bind fun r3 => (bif (decide (r3 < 0)) then some (-1) else (l_laws_szNodeS_1 K a0 n1 r3 (iAdd .i64 v2 1)))) else none) else some v1)
def m_laws_szNodeS (K : Nat) (a0 : List T_laws_Node) (a1 : Int) : Option (Int) := (bif (decide ((iSub .i64 a1 (a0.length : Int)) < 0)) then some (-1) else (l_laws_szNodeS_1 K a0 K (iSub .i64 a1 (a0.length : Int)) 0))
def s_5 : Sig := ⟨[.v 49, .v 3], [.v 3], true⟩
def c_5 (K : Nat) : Ctr tyU := ⟨s_5, m_laws_szNodeS K⟩
def x_5 (K : Nat) := xF s_5 [(128, c_4 K)] [] 27 [] [] [] [] [.tmp 4]
def h_5_122 : Shape := ⟨[(0, .v 49), (1, .v 2), (5, .v 2)], []⟩
def M_5_122 (K : Nat) (n : Nat) (q : PT h_5_122) : Rt s_5 := l_laws_szNodeS_1 K q.1 n q.2.1 q.2.2.1
theorem e_5_122 (K : Nat) : AtL (x_5 K) (fun n => []) [] (bd Tryz.f61) 122 (M_5_122 K) := fun n q => by kernel_rfl
theorem xk_5 (K : Nat) : XF [.tmp 4] s_5 27 [] (x_5 K) := xkF (gam_cons (sp_4 K) gam_nil) ov_nil
theorem k_5_122 (K : Nat) (n : Nat) : CF [.tmp 4] s_5 27 [] (bd Tryz.f61) [] 122 (ar h_5_122 (M_5_122 K n)) :=
 loopF (xk_5 K) (e_5_122 K) (fun n => cuts_nil) n
theorem sp_5 (K : Nat) : OkF 61 (c_5 K) :=
 ctrF (x := x_5 K) (L := [(122, ar h_5_122 (M_5_122 K K))]) (c0 := bd Tryz.f61) (xk_5 K) (by intro a0 a1; show @Eq _ _ _; kernel_rfl) (cuts_cons (k_5_122 K K) cuts_nil) Tryz.func61 trivial
def m_laws_szWaste (K : Nat) (a0 : T_laws_Waste) (a1 : Int) : Option (Int) := ((m_laws_szIntS K a0.fTags a1).bind fun r1 => (bif (decide (r1 < 0)) then some (-1) else ((m_laws_szIntS K a0.fChunks r1).bind fun r2 => (bif (decide (r2 < 0)) then some (-1) else some r2))))
def s_6 : Sig := ⟨[.v 157, .v 3], [.v 3], true⟩
def c_6 (K : Nat) : Ctr tyU := ⟨s_6, m_laws_szWaste K⟩
def x_6 (K : Nat) := xF s_6 [(63, c_1 K)] [] 18 [] [] [] [] [.tmp 4]
theorem sp_6 (K : Nat) : OkF 129 (c_6 K) :=
 ctrF (x := x_6 K) (L := []) (c0 := bd Tryz.f129) (xkF (gam_cons (sp_1 K) gam_nil) ov_nil) (by intro a0 a1; show @Eq _ _ _; kernel_rfl) cuts_nil Tryz.func129 trivial
def l_laws_szWasteS_1 (K : Nat) (a0 : List T_laws_Waste) : Nat -> Int -> Int -> Option (Int)
 | 0, _, _ => none
 | n1 + 1, v1, v2 => (bif (decide (v2 < (a0.length : Int))) then (if (0 : Int) ≤ v2 ∧ v2 < (a0.length : Int) then ((m_laws_szWaste K (gt a0 v2) v1).bind fun r3 => (bif (decide (r3 < 0)) then some (-1) else (l_laws_szWasteS_1 K a0 n1 r3 (iAdd .i64 v2 1)))) else none) else some v1)
def m_laws_szWasteS (K : Nat) (a0 : List T_laws_Waste) (a1 : Int) : Option (Int) := (bif (decide ((iSub .i64 a1 (a0.length : Int)) < 0)) then some (-1) else (l_laws_szWasteS_1 K a0 K (iSub .i64 a1 (a0.length : Int)) 0))
def s_7 : Sig := ⟨[.v 50, .v 3], [.v 3], true⟩
def c_7 (K : Nat) : Ctr tyU := ⟨s_7, m_laws_szWasteS K⟩
def x_7 (K : Nat) := xF s_7 [(129, c_6 K)] [] 27 [] [] [] [] [.tmp 4]
def h_7_122 : Shape := ⟨[(0, .v 50), (1, .v 2), (5, .v 2)], []⟩
def M_7_122 (K : Nat) (n : Nat) (q : PT h_7_122) : Rt s_7 := l_laws_szWasteS_1 K q.1 n q.2.1 q.2.2.1
theorem e_7_122 (K : Nat) : AtL (x_7 K) (fun n => []) [] (bd Tryz.f62) 122 (M_7_122 K) := fun n q => by kernel_rfl
theorem xk_7 (K : Nat) : XF [.tmp 4] s_7 27 [] (x_7 K) := xkF (gam_cons (sp_6 K) gam_nil) ov_nil
theorem k_7_122 (K : Nat) (n : Nat) : CF [.tmp 4] s_7 27 [] (bd Tryz.f62) [] 122 (ar h_7_122 (M_7_122 K n)) :=
 loopF (xk_7 K) (e_7_122 K) (fun n => cuts_nil) n
theorem sp_7 (K : Nat) : OkF 62 (c_7 K) :=
 ctrF (x := x_7 K) (L := [(122, ar h_7_122 (M_7_122 K K))]) (c0 := bd Tryz.f62) (xk_7 K) (by intro a0 a1; show @Eq _ _ _; kernel_rfl) (cuts_cons (k_7_122 K K) cuts_nil) Tryz.func62 trivial
def m_laws_szWorld (K : Nat) (a0 : T_laws_World) (a1 : Int) : Option (Int) := ((m_laws_szPool K a0.fP a1).bind fun r1 => (bif (decide (r1 < 0)) then some (-1) else ((m_laws_szNodeS K a0.fL r1).bind fun r2 => (bif (decide (r2 < 0)) then some (-1) else ((m_laws_szWasteS K a0.fQ r2).bind fun r3 => (bif (decide (r3 < 0)) then some (-1) else ((m_laws_szIntS K a0.fLog r3).bind fun r4 => (bif (decide (r4 < 0)) then some (-1) else some r4))))))))
def s_8 : Sig := ⟨[.v 52, .v 3], [.v 3], true⟩
def c_8 (K : Nat) : Ctr tyU := ⟨s_8, m_laws_szWorld K⟩
def x_8 (K : Nat) := xF s_8 [(60, c_2 K), (61, c_5 K), (62, c_7 K), (63, c_1 K)] [] 30 [] [] [] [] [.tmp 4]
theorem sp_8 (K : Nat) : OkF 18 (c_8 K) :=
 ctrF (x := x_8 K) (L := []) (c0 := bd Tryz.f18) (xkF (gam_cons (sp_2 K) (gam_cons (sp_5 K) (gam_cons (sp_7 K) (gam_cons (sp_1 K) gam_nil)))) ov_nil) (by intro a0 a1; show @Eq _ _ _; kernel_rfl) cuts_nil Tryz.func18 trivial
def m_laws_toConf (K : Nat) (a0 : T_laws_Conf) : Option (T_impl_Conf) := some (T_impl_Conf.mk a0.fChunks a0.fSize a0.fSlots a0.fTax a0.fSlice a0.fGens)
def s_9 : Sig := ⟨[.v 47], [.v 25], true⟩
def c_9 (K : Nat) : Ctr tyU := ⟨s_9, m_laws_toConf K⟩
def x_9 (K : Nat) := xF s_9 [] [] 23 [] [] [] [] [.cell 2 25]
theorem sp_9 (K : Nat) : OkF 65 (c_9 K) :=
 ctrF (x := x_9 K) (L := []) (c0 := bd Tryz.f65) (xkF gam_nil ov_nil) (by intro a0; show @Eq _ _ _; kernel_rfl) cuts_nil Tryz.func65 trivial
def l_laws_toByteS_1 (K : Nat) (a0 : List Int) : Nat -> (List Int) -> Int -> Option ((List Int))
 | 0, _, _ => none
 | n1 + 1, v1, v2 => (bif (decide (v2 < (a0.length : Int))) then (if (0 : Int) ≤ v2 ∧ v2 < (a0.length : Int) then (if (0 : Int) ≤ v2 ∧ v2 < (v1.length : Int) then (l_laws_toByteS_1 K a0 n1 (v1.set v2.toNat (gt a0 v2)) (iAdd .i64 v2 1)) else none) else none) else some v1)
def m_laws_toByteS (K : Nat) (a0 : List Int) : Option ((List Int)) := (if (0 : Int) ≤ (a0.length : Int) ∧ (a0.length : Int) ≤ (a0.length : Int) ∧ (1 : Int) * (a0.length : Int) ≤ 281474976710656 ∧ (a0.length : Int) ≤ 9223372036854775807 then (l_laws_toByteS_1 K a0 K (List.replicate (a0.length : Int).toNat 0) 0) else none)
def s_10 : Sig := ⟨[.v 22], [.n 22 true], true⟩
def c_10 (K : Nat) : Ctr tyU := ⟨s_10, m_laws_toByteS K⟩
def x_10 (K : Nat) := xF s_10 [] [] 22 [] [] [] [] [.tmp 2]
def h_10_58 : Shape := ⟨[(0, .v 22), (3, .o 1003 5 true), (4, .v 2)], []⟩
def M_10_58 (K : Nat) (n : Nat) (q : PT h_10_58) : Rt s_10 := l_laws_toByteS_1 K q.1 n q.2.1 q.2.2.1
theorem e_10_58 (K : Nat) : AtL (x_10 K) (fun n => []) [] (bd Tryz.f46) 58 (M_10_58 K) := fun n q => by kernel_rfl
theorem xk_10 (K : Nat) : XF [.tmp 2] s_10 22 [] (x_10 K) := xkF gam_nil ov_nil
theorem k_10_58 (K : Nat) (n : Nat) : CF [.tmp 2] s_10 22 [] (bd Tryz.f46) [] 58 (ar h_10_58 (M_10_58 K n)) :=
 loopF (xk_10 K) (e_10_58 K) (fun n => cuts_nil) n
theorem sp_10 (K : Nat) : OkF 46 (c_10 K) :=
 ctrF (x := x_10 K) (L := [(58, ar h_10_58 (M_10_58 K K))]) (c0 := bd Tryz.f46) (xk_10 K) (by intro a0; show @Eq _ _ _; kernel_rfl) (cuts_cons (k_10_58 K K) cuts_nil) Tryz.func46 trivial
def l_laws_toIntS_1 (K : Nat) (a0 : List Int) : Nat -> (List Int) -> Int -> Option ((List Int))
 | 0, _, _ => none
 | n1 + 1, v1, v2 => (bif (decide (v2 < (a0.length : Int))) then (if (0 : Int) ≤ v2 ∧ v2 < (a0.length : Int) then (if (0 : Int) ≤ v2 ∧ v2 < (v1.length : Int) then (l_laws_toIntS_1 K a0 n1 (v1.set v2.toNat (gt a0 v2)) (iAdd .i64 v2 1)) else none) else none) else some v1)
def m_laws_toIntS (K : Nat) (a0 : List Int) : Option ((List Int)) := (if (0 : Int) ≤ (a0.length : Int) ∧ (a0.length : Int) ≤ (a0.length : Int) ∧ (8 : Int) * (a0.length : Int) ≤ 281474976710656 ∧ (a0.length : Int) ≤ 9223372036854775807 then (l_laws_toIntS_1 K a0 K (List.replicate (a0.length : Int).toNat 0) 0) else none)
def s_11 : Sig := ⟨[.v 26], [.n 26 true], true⟩
def c_11 (K : Nat) : Ctr tyU := ⟨s_11, m_laws_toIntS K⟩
def x_11 (K : Nat) := xF s_11 [] [] 22 [] [] [] [] [.tmp 2]
def h_11_58 : Shape := ⟨[(0, .v 26), (3, .o 1003 3 true), (4, .v 2)], []⟩
def M_11_58 (K : Nat) (n : Nat) (q : PT h_11_58) : Rt s_11 := l_laws_toIntS_1 K q.1 n q.2.1 q.2.2.1
theorem e_11_58 (K : Nat) : AtL (x_11 K) (fun n => []) [] (bd Tryz.f69) 58 (M_11_58 K) := fun n q => by kernel_rfl
theorem xk_11 (K : Nat) : XF [.tmp 2] s_11 22 [] (x_11 K) := xkF gam_nil ov_nil
theorem k_11_58 (K : Nat) (n : Nat) : CF [.tmp 2] s_11 22 [] (bd Tryz.f69) [] 58 (ar h_11_58 (M_11_58 K n)) :=
 loopF (xk_11 K) (e_11_58 K) (fun n => cuts_nil) n
theorem sp_11 (K : Nat) : OkF 69 (c_11 K) :=
 ctrF (x := x_11 K) (L := [(58, ar h_11_58 (M_11_58 K K))]) (c0 := bd Tryz.f69) (xk_11 K) (by intro a0; show @Eq _ _ _; kernel_rfl) (cuts_cons (k_11_58 K K) cuts_nil) Tryz.func69 trivial
def m_laws_toPool (K : Nat) (a0 : T_laws_Pool) : Option (T_impl_Pool) := ((m_laws_toByteS K a0.fMem).bind fun r1 => ((m_laws_toIntS K a0.fSt).bind fun r2 => ((m_laws_toIntS K a0.fOwn).bind fun r3 => some (T_impl_Pool.mk r1 r2 r3))))
def s_12 : Sig := ⟨[.v 48], [.n 28 true], true⟩
def c_12 (K : Nat) : Ctr tyU := ⟨s_12, m_laws_toPool K⟩
def x_12 (K : Nat) := xF s_12 [(46, c_10 K), (69, c_11 K)] [] 17 [] [] [] [] [.cell 2 28]
theorem sp_12 (K : Nat) : OkF 66 (c_12 K) :=
 ctrF (x := x_12 K) (L := []) (c0 := bd Tryz.f66) (xkF (gam_cons (sp_10 K) (gam_cons (sp_11 K) gam_nil)) ov_nil) (by intro a0; show @Eq _ _ _; kernel_rfl) cuts_nil Tryz.func66 trivial
def m_laws_toThing (K : Nat) (a0 : T_laws_Thing) : Option (T_impl_Thing) := some (T_impl_Thing.mk a0.fAt a0.fLen a0.fRun)
def s_13 : Sig := ⟨[.v 222], [.v 89], true⟩
def c_13 (K : Nat) : Ctr tyU := ⟨s_13, m_laws_toThing K⟩
def x_13 (K : Nat) := xF s_13 [] [] 14 [] [] [] [] [.cell 2 89]
theorem sp_13 (K : Nat) : OkF 260 (c_13 K) :=
 ctrF (x := x_13 K) (L := []) (c0 := bd Tryz.f260) (xkF gam_nil ov_nil) (by intro a0; show @Eq _ _ _; kernel_rfl) cuts_nil Tryz.func260 trivial
def l_laws_toThingS_1 (K : Nat) (a0 : List T_laws_Thing) : Nat -> (List T_impl_Thing) -> Int -> Option ((List T_impl_Thing))
 | 0, _, _ => none
 | n1 + 1, v1, v2 => (bif (decide (v2 < (a0.length : Int))) then (if (0 : Int) ≤ v2 ∧ v2 < (a0.length : Int) then ((m_laws_toThing K (gt a0 v2)).bind fun r3 => (if (0 : Int) ≤ v2 ∧ v2 < (v1.length : Int) then (l_laws_toThingS_1 K a0 n1 (v1.set v2.toNat r3) (iAdd .i64 v2 1)) else none)) else none) else some v1)
def m_laws_toThingS (K : Nat) (a0 : List T_laws_Thing) : Option ((List T_impl_Thing)) := (if (0 : Int) ≤ (a0.length : Int) ∧ (a0.length : Int) ≤ (a0.length : Int) ∧ (24 : Int) * (a0.length : Int) ≤ 281474976710656 ∧ (a0.length : Int) ≤ 9223372036854775807 then (l_laws_toThingS_1 K a0 K (List.replicate (a0.length : Int).toNat (T_impl_Thing.mk 0 0 0)) 0) else none)
def s_14 : Sig := ⟨[.v 152], [.n 41 true], true⟩
def c_14 (K : Nat) : Ctr tyU := ⟨s_14, m_laws_toThingS K⟩
def x_14 (K : Nat) := xF s_14 [(260, c_13 K)] [] 23 [] [] [] [] [.tmp 2]
def h_14_58 : Shape := ⟨[(0, .v 152), (3, .o 1003 89 true), (4, .v 2)], []⟩
def M_14_58 (K : Nat) (n : Nat) (q : PT h_14_58) : Rt s_14 := l_laws_toThingS_1 K q.1 n q.2.1 q.2.2.1
theorem e_14_58 (K : Nat) : AtL (x_14 K) (fun n => []) [] (bd Tryz.f204) 58 (M_14_58 K) := fun n q => by kernel_rfl
theorem xk_14 (K : Nat) : XF [.tmp 2] s_14 23 [] (x_14 K) := xkF (gam_cons (sp_13 K) gam_nil) ov_nil
theorem k_14_58 (K : Nat) (n : Nat) : CF [.tmp 2] s_14 23 [] (bd Tryz.f204) [] 58 (ar h_14_58 (M_14_58 K n)) :=
 loopF (xk_14 K) (e_14_58 K) (fun n => cuts_nil) n
theorem sp_14 (K : Nat) : OkF 204 (c_14 K) :=
 ctrF (x := x_14 K) (L := [(58, ar h_14_58 (M_14_58 K K))]) (c0 := bd Tryz.f204) (xk_14 K) (by intro a0; show @Eq _ _ _; kernel_rfl) (cuts_cons (k_14_58 K K) cuts_nil) Tryz.func204 trivial
def m_laws_toNode (K : Nat) (a0 : T_laws_Node) : Option (T_impl_Node) := ((m_laws_toIntS K a0.fChunks).bind fun r1 => ((m_laws_toThingS K a0.fThings).bind fun r2 => ((m_laws_toIntS K a0.fTags).bind fun r3 => some (T_impl_Node.mk a0.fSt a0.fGen a0.fEp a0.fUp a0.fUpEp a0.fFirst a0.fNext a0.fPrev r1 a0.fCur a0.fBump r2 r3))))
def s_15 : Sig := ⟨[.v 154], [.n 44 true], true⟩
def c_15 (K : Nat) : Ctr tyU := ⟨s_15, m_laws_toNode K⟩
def x_15 (K : Nat) := xF s_15 [(69, c_11 K), (204, c_14 K)] [] 47 [] [] [] [] [.cell 2 44]
theorem sp_15 (K : Nat) : OkF 131 (c_15 K) :=
 ctrF (x := x_15 K) (L := []) (c0 := bd Tryz.f131) (xkF (gam_cons (sp_11 K) (gam_cons (sp_14 K) gam_nil)) ov_nil) (by intro a0; show @Eq _ _ _; kernel_rfl) cuts_nil Tryz.func131 trivial
def l_laws_toNodeS_1 (K : Nat) (a0 : List T_laws_Node) : Nat -> (List T_impl_Node) -> Int -> Option ((List T_impl_Node))
 | 0, _, _ => none
 | n1 + 1, v1, v2 => (bif (decide (v2 < (a0.length : Int))) then (if (0 : Int) ≤ v2 ∧ v2 < (a0.length : Int) then ((m_laws_toNode K (gt a0 v2)).bind fun r3 => (if (0 : Int) ≤ v2 ∧ v2 < (v1.length : Int) then (l_laws_toNodeS_1 K a0 n1 (v1.set v2.toNat r3) (iAdd .i64 v2 1)) else none)) else none) else some v1)
def m_laws_toNodeS (K : Nat) (a0 : List T_laws_Node) : Option ((List T_impl_Node)) := (if (0 : Int) ≤ (a0.length : Int) ∧ (a0.length : Int) ≤ (a0.length : Int) ∧ (152 : Int) * (a0.length : Int) ≤ 281474976710656 ∧ (a0.length : Int) ≤ 9223372036854775807 then (l_laws_toNodeS_1 K a0 K (List.replicate (a0.length : Int).toNat (T_impl_Node.mk 0 0 0 0 0 0 0 0 [] 0 0 [] [])) 0) else none)
def s_16 : Sig := ⟨[.v 49], [.n 29 true], true⟩
def c_16 (K : Nat) : Ctr tyU := ⟨s_16, m_laws_toNodeS K⟩
def x_16 (K : Nat) := xF s_16 [(131, c_15 K)] [] 23 [] [] [] [] [.tmp 2]
def h_16_58 : Shape := ⟨[(0, .v 49), (3, .o 1003 44 true), (4, .v 2)], []⟩
def M_16_58 (K : Nat) (n : Nat) (q : PT h_16_58) : Rt s_16 := l_laws_toNodeS_1 K q.1 n q.2.1 q.2.2.1
theorem e_16_58 (K : Nat) : AtL (x_16 K) (fun n => []) [] (bd Tryz.f67) 58 (M_16_58 K) := fun n q => by kernel_rfl
theorem xk_16 (K : Nat) : XF [.tmp 2] s_16 23 [] (x_16 K) := xkF (gam_cons (sp_15 K) gam_nil) ov_nil
theorem k_16_58 (K : Nat) (n : Nat) : CF [.tmp 2] s_16 23 [] (bd Tryz.f67) [] 58 (ar h_16_58 (M_16_58 K n)) :=
 loopF (xk_16 K) (e_16_58 K) (fun n => cuts_nil) n
theorem sp_16 (K : Nat) : OkF 67 (c_16 K) :=
 ctrF (x := x_16 K) (L := [(58, ar h_16_58 (M_16_58 K K))]) (c0 := bd Tryz.f67) (xk_16 K) (by intro a0; show @Eq _ _ _; kernel_rfl) (cuts_cons (k_16_58 K K) cuts_nil) Tryz.func67 trivial
def m_laws_toWaste (K : Nat) (a0 : T_laws_Waste) : Option (T_impl_Waste) := ((m_laws_toIntS K a0.fTags).bind fun r1 => ((m_laws_toIntS K a0.fChunks).bind fun r2 => some (T_impl_Waste.mk a0.fSlot a0.fFirst r1 r2 a0.fDone)))
def s_17 : Sig := ⟨[.v 157], [.n 159 true], true⟩
def c_17 (K : Nat) : Ctr tyU := ⟨s_17, m_laws_toWaste K⟩
def x_17 (K : Nat) := xF s_17 [(69, c_11 K)] [] 22 [] [] [] [] [.cell 2 159]
theorem sp_17 (K : Nat) : OkF 132 (c_17 K) :=
 ctrF (x := x_17 K) (L := []) (c0 := bd Tryz.f132) (xkF (gam_cons (sp_11 K) gam_nil) ov_nil) (by intro a0; show @Eq _ _ _; kernel_rfl) cuts_nil Tryz.func132 trivial
def l_laws_toWasteS_1 (K : Nat) (a0 : List T_laws_Waste) : Nat -> (List T_impl_Waste) -> Int -> Option ((List T_impl_Waste))
 | 0, _, _ => none
 | n1 + 1, v1, v2 => (bif (decide (v2 < (a0.length : Int))) then (if (0 : Int) ≤ v2 ∧ v2 < (a0.length : Int) then ((m_laws_toWaste K (gt a0 v2)).bind fun r3 => (if (0 : Int) ≤ v2 ∧ v2 < (v1.length : Int) then (l_laws_toWasteS_1 K a0 n1 (v1.set v2.toNat r3) (iAdd .i64 v2 1)) else none)) else none) else some v1)
def m_laws_toWasteS (K : Nat) (a0 : List T_laws_Waste) : Option ((List T_impl_Waste)) := (if (0 : Int) ≤ (a0.length : Int) ∧ (a0.length : Int) ≤ (a0.length : Int) ∧ (72 : Int) * (a0.length : Int) ≤ 281474976710656 ∧ (a0.length : Int) ≤ 9223372036854775807 then (l_laws_toWasteS_1 K a0 K (List.replicate (a0.length : Int).toNat (T_impl_Waste.mk 0 0 [] [] 0)) 0) else none)
def s_18 : Sig := ⟨[.v 50], [.n 30 true], true⟩
def c_18 (K : Nat) : Ctr tyU := ⟨s_18, m_laws_toWasteS K⟩
def x_18 (K : Nat) := xF s_18 [(132, c_17 K)] [] 23 [] [] [] [] [.tmp 2]
def h_18_58 : Shape := ⟨[(0, .v 50), (3, .o 1003 159 true), (4, .v 2)], []⟩
def M_18_58 (K : Nat) (n : Nat) (q : PT h_18_58) : Rt s_18 := l_laws_toWasteS_1 K q.1 n q.2.1 q.2.2.1
theorem e_18_58 (K : Nat) : AtL (x_18 K) (fun n => []) [] (bd Tryz.f68) 58 (M_18_58 K) := fun n q => by kernel_rfl
theorem xk_18 (K : Nat) : XF [.tmp 2] s_18 23 [] (x_18 K) := xkF (gam_cons (sp_17 K) gam_nil) ov_nil
theorem k_18_58 (K : Nat) (n : Nat) : CF [.tmp 2] s_18 23 [] (bd Tryz.f68) [] 58 (ar h_18_58 (M_18_58 K n)) :=
 loopF (xk_18 K) (e_18_58 K) (fun n => cuts_nil) n
theorem sp_18 (K : Nat) : OkF 68 (c_18 K) :=
 ctrF (x := x_18 K) (L := [(58, ar h_18_58 (M_18_58 K K))]) (c0 := bd Tryz.f68) (xk_18 K) (by intro a0; show @Eq _ _ _; kernel_rfl) (cuts_cons (k_18_58 K K) cuts_nil) Tryz.func68 trivial
def m_laws_toWorld (K : Nat) (a0 : T_laws_World) : Option (T_impl_World) := ((m_laws_toConf K a0.fC).bind fun r1 => ((m_laws_toPool K a0.fP).bind fun r2 => ((m_laws_toNodeS K a0.fL).bind fun r3 => ((m_laws_toWasteS K a0.fQ).bind fun r4 => ((m_laws_toIntS K a0.fLog).bind fun r5 => some (T_impl_World.mk r1 r2 r3 r4 r5))))))
def s_19 : Sig := ⟨[.v 52], [.n 32 true], true⟩
def c_19 (K : Nat) : Ctr tyU := ⟨s_19, m_laws_toWorld K⟩
def x_19 (K : Nat) := xF s_19 [(65, c_9 K), (66, c_12 K), (67, c_16 K), (68, c_18 K), (69, c_11 K)] [] 25 [] [] [] [] [.cell 2 32]
theorem sp_19 (K : Nat) : OkF 20 (c_19 K) :=
 ctrF (x := x_19 K) (L := []) (c0 := bd Tryz.f20) (xkF (gam_cons (sp_9 K) (gam_cons (sp_12 K) (gam_cons (sp_16 K) (gam_cons (sp_18 K) (gam_cons (sp_11 K) gam_nil))))) ov_nil) (by intro a0; show @Eq _ _ _; kernel_rfl) cuts_nil Tryz.func20 trivial
def m_laws_toHandle (K : Nat) (a0 : T_laws_Handle) : Option (T_impl_Handle) := some (T_impl_Handle.mk a0.fSlot a0.fGen)
def s_20 : Sig := ⟨[.v 53], [.v 34], true⟩
def c_20 (K : Nat) : Ctr tyU := ⟨s_20, m_laws_toHandle K⟩
def x_20 (K : Nat) := xF s_20 [] [] 11 [] [] [] [] [.cell 2 34]
theorem sp_20 (K : Nat) : OkF 21 (c_20 K) :=
 ctrF (x := x_20 K) (L := []) (c0 := bd Tryz.f21) (xkF gam_nil ov_nil) (by intro a0; show @Eq _ _ _; kernel_rfl) cuts_nil Tryz.func21 trivial
def m_laws_toRef (K : Nat) (a0 : T_laws_Ref) : Option (T_impl_Ref) := ((m_laws_toHandle K a0.fH).bind fun r1 => some (T_impl_Ref.mk r1 a0.fEp a0.fNo))
def s_21 : Sig := ⟨[.v 61], [.v 36], true⟩
def c_21 (K : Nat) : Ctr tyU := ⟨s_21, m_laws_toRef K⟩
def x_21 (K : Nat) := xF s_21 [(21, c_20 K)] [] 15 [] [] [] [] [.cell 2 36]
theorem sp_21 (K : Nat) : OkF 25 (c_21 K) :=
 ctrF (x := x_21 K) (L := []) (c0 := bd Tryz.f25) (xkF (gam_cons (sp_20 K) gam_nil) ov_nil) (by intro a0; show @Eq _ _ _; kernel_rfl) cuts_nil Tryz.func25 trivial
def m_spec_HandleOk (K : Nat) (a0 : T_impl_Handle) : Option (Bool) := (bif (decide (a0.fSlot ≥ 0)) then some (decide (a0.fGen ≥ 1)) else some false)
def s_22 : Sig := ⟨[.v 34], [.v 4], true⟩
def c_22 (K : Nat) : Ctr tyU := ⟨s_22, m_spec_HandleOk K⟩
def x_22 (K : Nat) := xF s_22 [] [] 11 [5, 6] [] [] [] [.tmp 2]
theorem sp_22 (K : Nat) : OkF 149 (c_22 K) :=
 ctrF (x := x_22 K) (L := []) (c0 := bd Tryz.f149) (xkF gam_nil ov_nil) (by intro a0; show @Eq _ _ _; kernel_rfl) cuts_nil Tryz.func149 trivial
def m_spec_RefOk (K : Nat) (a0 : T_impl_Ref) : Option (Bool) := ((m_spec_HandleOk K a0.fH).bind fun r1 => (bif r1 then (bif (decide (a0.fEp ≥ 0)) then some (decide (a0.fNo ≥ 0)) else some false) else some false))
def s_23 : Sig := ⟨[.v 36], [.v 4], true⟩
def c_23 (K : Nat) : Ctr tyU := ⟨s_23, m_spec_RefOk K⟩
def x_23 (K : Nat) := xF s_23 [(149, c_22 K)] [] 16 [5, 6, 9, 10, 11] [] [] [] [.tmp 2]
theorem sp_23 (K : Nat) : OkF 179 (c_23 K) :=
 ctrF (x := x_23 K) (L := []) (c0 := bd Tryz.f179) (xkF (gam_cons (sp_22 K) gam_nil) ov_nil) (by intro a0; show @Eq _ _ _; kernel_rfl) cuts_nil Tryz.func179 trivial
def m_spec_l1In (K : Nat) (a0 : Int) (a1 : Int) (a2 : Int) : Option (Bool) := (bif (decide (a0 ≥ a1)) then some (decide (a0 ≤ a2)) else some false)
def s_24 : Sig := ⟨[.v 3, .v 3, .v 3], [.v 4], true⟩
def c_24 (K : Nat) : Ctr tyU := ⟨s_24, m_spec_l1In K⟩
def x_24 (K : Nat) := xF s_24 [] [] 15 [9, 10] [] [] [] [.tmp 6]
theorem sp_24 (K : Nat) : OkF 84 (c_24 K) :=
 ctrF (x := x_24 K) (L := []) (c0 := bd Tryz.f84) (xkF gam_nil ov_nil) (by intro a0 a1 a2; show @Eq _ _ _; kernel_rfl) cuts_nil Tryz.func84 trivial
def m_spec_PlaceOf (K : Nat) (a0 : List T_impl_Node) (a1 : T_impl_Handle) : Option (Int) := ((m_spec_l1In K a1.fSlot 0 (iSub .i64 (a0.length : Int) 1)).bind fun r1 => (bif r1 then (if (0 : Int) ≤ a1.fSlot ∧ a1.fSlot < (a0.length : Int) then (bif (((gt a0 a1.fSlot).fSt) != 1) then some (-1) else (if (0 : Int) ≤ a1.fSlot ∧ a1.fSlot < (a0.length : Int) then (bif (((gt a0 a1.fSlot).fGen) != a1.fGen) then some (-1) else some a1.fSlot) else none)) else none) else some (-1)))
def s_25 : Sig := ⟨[.v 29, .v 34], [.v 3], true⟩
def c_25 (K : Nat) : Ctr tyU := ⟨s_25, m_spec_PlaceOf K⟩
def x_25 (K : Nat) := xF s_25 [(84, c_24 K)] [] 34 [10, 11, 12, 19, 20, 21] [] [] [] [.tmp 4]
theorem sp_25 (K : Nat) : OkF 150 (c_25 K) :=
 ctrF (x := x_25 K) (L := []) (c0 := bd Tryz.f150) (xkF (gam_cons (sp_24 K) gam_nil) ov_nil) (by intro a0 a1; show @Eq _ _ _; kernel_rfl) cuts_nil Tryz.func150 trivial
def m_spec_l9Place (K : Nat) (a0 : List T_impl_Node) (a1 : Int) : Option (Bool) := (bif (decide (a1 ≥ 1)) then some (decide (a1 ≤ (a0.length : Int))) else some false)
def s_26 : Sig := ⟨[.v 29, .v 3], [.v 4], true⟩
def c_26 (K : Nat) : Ctr tyU := ⟨s_26, m_spec_l9Place K⟩
def x_26 (K : Nat) := xF s_26 [] [] 13 [6, 7] [] [] [] [.tmp 4]
theorem sp_26 (K : Nat) : OkF 244 (c_26 K) :=
 ctrF (x := x_26 K) (L := []) (c0 := bd Tryz.f244) (xkF gam_nil ov_nil) (by intro a0 a1; show @Eq _ _ _; kernel_rfl) cuts_nil Tryz.func244 trivial
def l_spec_Rise_1 (K : Nat) (a0 : List T_impl_Node) : Nat -> Int -> (List Int) -> Option ((List Int))
 | 0, _, _ => none
 | n1 + 1, v1, v2 => ((m_spec_l9Place K a0 (iAdd .i64 v1 1)).bind fun r3 => (bif r3 then (bif (decide ((v2.length : Int) < (a0.length : Int))) then (if (v2 ++ ([v1] : List Int)).length * 8 ≤ 140737488355328 ∧ (v2 ++ ([v1] : List Int)).length ≤ maxLen then (if (0 : Int) ≤ v1 ∧ v1 < (a0.length : Int) then (l_spec_Rise_1 K a0 n1 (iSub .i64 ((gt a0 v1).fUp) 1) (v2 ++ ([v1] : List Int))) else none) else none) else some v2) else some v2))
def m_spec_Rise (K : Nat) (a0 : List T_impl_Node) (a1 : Int) : Option ((List Int)) := (l_spec_Rise_1 K a0 K a1 ([] : List Int))
def s_27 : Sig := ⟨[.v 29, .v 3], [.n 26 true], true⟩
def c_27 (K : Nat) : Ctr tyU := ⟨s_27, m_spec_Rise K⟩
def x_27 (K : Nat) := xF s_27 [(244, c_26 K)] [] 29 [10, 11] [] [] [] [.tmp 4]
def h_27_28 : Shape := ⟨[(0, .v 29), (1, .v 2), (5, .o 1005 3 true)], []⟩
def M_27_28 (K : Nat) (n : Nat) (q : PT h_27_28) : Rt s_27 := l_spec_Rise_1 K q.1 n q.2.1 q.2.2.1
theorem e_27_28 (K : Nat) : AtL (x_27 K) (fun n => []) [] (bd Tryz.f224) 28 (M_27_28 K) := fun n q => by kernel_rfl
theorem xk_27 (K : Nat) : XF [.tmp 4] s_27 29 [] (x_27 K) := xkF (gam_cons (sp_26 K) gam_nil) ov_nil
theorem k_27_28 (K : Nat) (n : Nat) : CF [.tmp 4] s_27 29 [] (bd Tryz.f224) [] 28 (ar h_27_28 (M_27_28 K n)) :=
 loopF (xk_27 K) (e_27_28 K) (fun n => cuts_nil) n
theorem sp_27 (K : Nat) : OkF 224 (c_27 K) :=
 ctrF (x := x_27 K) (L := [(28, ar h_27_28 (M_27_28 K K))]) (c0 := bd Tryz.f224) (xk_27 K) (by intro a0 a1; show @Eq _ _ _; kernel_rfl) (cuts_cons (k_27_28 K K) cuts_nil) Tryz.func224 trivial
def m_spec_l9In (K : Nat) (a0 : List T_impl_Node) (a1 : Int) : Option (Bool) := (if (0 : Int) ≤ a1 ∧ a1 < (a0.length : Int) then ((m_spec_l9Place K a0 ((gt a0 a1).fUp)).bind fun r1 => (bif r1 then (if (0 : Int) ≤ (iSub .i64 ((gt a0 a1).fUp) 1) ∧ (iSub .i64 ((gt a0 a1).fUp) 1) < (a0.length : Int) then (bif (((gt a0 (iSub .i64 ((gt a0 a1).fUp) 1)).fSt) == 1) then (if (0 : Int) ≤ (iSub .i64 ((gt a0 a1).fUp) 1) ∧ (iSub .i64 ((gt a0 a1).fUp) 1) < (a0.length : Int) then (if (0 : Int) ≤ a1 ∧ a1 < (a0.length : Int) then some (((gt a0 (iSub .i64 ((gt a0 a1).fUp) 1)).fEp) == ((gt a0 a1).fUpEp)) else none) else none) else some false) else none) else some false)) else none)
def s_28 : Sig := ⟨[.v 29, .v 3], [.v 4], true⟩
def c_28 (K : Nat) : Ctr tyU := ⟨s_28, m_spec_l9In K⟩
def x_28 (K : Nat) := xF s_28 [(244, c_26 K)] [] 37 [13, 14, 21, 22, 23] [] [] [] [.tmp 4]
theorem sp_28 (K : Nat) : OkF 225 (c_28 K) :=
 ctrF (x := x_28 K) (L := []) (c0 := bd Tryz.f225) (xkF (gam_cons (sp_26 K) gam_nil) ov_nil) (by intro a0 a1; show @Eq _ _ _; kernel_rfl) cuts_nil Tryz.func225 trivial
def j_spec_Alive_2 (K : Nat) (v2 : Int) (C1 : Int -> Option (Bool)) : Option (Bool) := (C1 (iAdd .i64 v2 1))
def l_spec_Alive_1 (K : Nat) (a0 : List T_impl_Node) (r1 : (List Int)) : Nat -> Int -> Option (Bool)
 | 0, _ => none
 | n1 + 1, v2 => (bif (decide (v2 < (r1.length : Int))) then (if (0 : Int) ≤ v2 ∧ v2 < (r1.length : Int) then (if (0 : Int) ≤ (gt r1 v2) ∧ (gt r1 v2) < (a0.length : Int) then (bif (((gt a0 (gt r1 v2)).fSt) != 1) then some false else (bif (decide ((iAdd .i64 v2 1) < (r1.length : Int))) then (if (0 : Int) ≤ v2 ∧ v2 < (r1.length : Int) then ((m_spec_l9In K a0 (gt r1 v2)).bind fun r3 => (bif (!r3) then some false else (j_spec_Alive_2 K v2 (l_spec_Alive_1 K a0 r1 n1)))) else none) else (j_spec_Alive_2 K v2 (l_spec_Alive_1 K a0 r1 n1)))) else none) else none) else (bif (decide ((r1.length : Int) > 0)) then (if (0 : Int) ≤ (iSub .i64 (r1.length : Int) 1) ∧ (iSub .i64 (r1.length : Int) 1) < (r1.length : Int) then (if (0 : Int) ≤ (gt r1 (iSub .i64 (r1.length : Int) 1)) ∧ (gt r1 (iSub .i64 (r1.length : Int) 1)) < (a0.length : Int) then some (((gt a0 (gt r1 (iSub .i64 (r1.length : Int) 1))).fUp) == 0) else none) else none) else some false))
def m_spec_Alive (K : Nat) (a0 : List T_impl_Node) (a1 : Int) : Option (Bool) := ((m_spec_Rise K a0 a1).bind fun r1 => (l_spec_Alive_1 K a0 r1 K 0))
def s_29 : Sig := ⟨[.v 29, .v 3], [.v 4], true⟩
def c_29 (K : Nat) : Ctr tyU := ⟨s_29, m_spec_Alive K⟩
def x_29 (K : Nat) := xF s_29 [(224, c_27 K), (225, c_28 K)] [] 57 [24, 25, 30, 31, 43, 44] [] [] [233] [.tmp 4]
def h_29_233 : Shape := ⟨[(0, .v 29), (5, .v 26), (6, .v 2)], []⟩
def h_29_58 : Shape := ⟨[(0, .v 29), (5, .v 26), (6, .v 2)], []⟩
def M_29_233 (K : Nat) (C58 : CT h_29_58 s_29) (q : PT h_29_233) : Rt s_29 := j_spec_Alive_2 K q.2.2.1 (fun v2 => C58 (q.1, q.2.1, v2, ()))
def M_29_58 (K : Nat) (n : Nat) (q : PT h_29_58) : Rt s_29 := l_spec_Alive_1 K q.1 q.2.1 n q.2.2.1
theorem e_29_233 (K : Nat) (C58 : CT h_29_58 s_29) : AtJ (x_29 K) [] [(58, ar h_29_58 C58)] (bd Tryz.f151) 233 (M_29_233 K C58) := fun q => by kernel_rfl
theorem e_29_58 (K : Nat) : AtL (x_29 K) (fun n => [(233, ar h_29_233 (M_29_233 K (M_29_58 K n)))]) [] (bd Tryz.f151) 58 (M_29_58 K) := fun n q => by kernel_rfl
theorem xk_29 (K : Nat) : XF [.tmp 4] s_29 57 [233] (x_29 K) := xkF (gam_cons (sp_27 K) (gam_cons (sp_28 K) gam_nil)) ov_nil
theorem k_29_233 (K : Nat) (C58 : CT h_29_58 s_29) : CF [.tmp 4] s_29 57 [233] (bd Tryz.f151) [(58, ar h_29_58 C58)] 233 (ar h_29_233 (M_29_233 K C58)) :=
 joinF (xk_29 K) (e_29_233 K C58) cuts_nil
theorem k_29_58 (K : Nat) (n : Nat) : CF [.tmp 4] s_29 57 [233] (bd Tryz.f151) [] 58 (ar h_29_58 (M_29_58 K n)) :=
 loopF (xk_29 K) (e_29_58 K) (fun n => (cuts_cons (k_29_233 K (M_29_58 K n)) cuts_nil)) n
theorem sp_29 (K : Nat) : OkF 151 (c_29 K) :=
 ctrF (x := x_29 K) (L := [(58, ar h_29_58 (M_29_58 K K))]) (c0 := bd Tryz.f151) (xk_29 K) (by intro a0 a1; show @Eq _ _ _; kernel_rfl) (cuts_cons (k_29_58 K K) cuts_nil) Tryz.func151 trivial
def m_spec_FindRoom (K : Nat) (a0 : T_impl_World) (a1 : T_impl_Handle) : Option (Int × Int) := ((m_spec_HandleOk K a1).bind fun r1 => (bif (!r1) then some ((-1), 1) else ((m_spec_PlaceOf K a0.fL a1).bind fun r2 => (bif (decide (r2 < 0)) then some ((-1), 2) else ((m_spec_Alive K a0.fL r2).bind fun r3 => (bif (!r3) then some ((-1), 2) else some (r2, 0)))))))
def s_30 : Sig := ⟨[.v 32, .v 34], [.v 3, .v 3], true⟩
def c_30 (K : Nat) : Ctr tyU := ⟨s_30, m_spec_FindRoom K⟩
def x_30 (K : Nat) := xF s_30 [(149, c_22 K), (150, c_25 K), (151, c_29 K)] [] 24 [15, 16] [] [] [] [.tmp 4, .tmp 5]
theorem sp_30 (K : Nat) : OkF 85 (c_30 K) :=
 ctrF (x := x_30 K) (L := []) (c0 := bd Tryz.f85) (xkF (gam_cons (sp_22 K) (gam_cons (sp_25 K) (gam_cons (sp_29 K) gam_nil))) ov_nil) (by intro a0 a1; show @Eq _ _ _; kernel_rfl) cuts_nil Tryz.func85 trivial
def m_spec_ThingOf (K : Nat) (a0 : T_impl_Node) (a1 : T_impl_Ref) : Option (T_impl_Thing × Bool) := (bif (a0.fSt != 1) then some ((T_impl_Thing.mk 0 0 0), false) else (bif (a0.fEp != a1.fEp) then some ((T_impl_Thing.mk 0 0 0), false) else ((m_spec_l1In K a1.fNo 0 (iSub .i64 (a0.fThings.length : Int) 1)).bind fun r1 => (bif (!r1) then some ((T_impl_Thing.mk 0 0 0), false) else (if (0 : Int) ≤ a1.fNo ∧ a1.fNo < (a0.fThings.length : Int) then some ((gt a0.fThings a1.fNo), true) else none)))))
def s_31 : Sig := ⟨[.v 44, .v 36], [.v 89, .v 4], true⟩
def c_31 (K : Nat) : Ctr tyU := ⟨s_31, m_spec_ThingOf K⟩
def x_31 (K : Nat) := xF s_31 [(84, c_24 K)] [] 33 [8, 9, 14, 15, 16] [] [] [] [.cell 4 89, .tmp 5]
theorem sp_31 (K : Nat) : OkF 180 (c_31 K) :=
 ctrF (x := x_31 K) (L := []) (c0 := bd Tryz.f180) (xkF (gam_cons (sp_24 K) gam_nil) ov_nil) (by intro a0 a1; show @Eq _ _ _; kernel_rfl) cuts_nil Tryz.func180 trivial
def m_spec_FindThing (K : Nat) (a0 : T_impl_World) (a1 : T_impl_Ref) : Option (Int × T_impl_Thing × Int) := ((m_spec_RefOk K a1).bind fun r1 => (bif (!r1) then some ((-1), (T_impl_Thing.mk 0 0 0), 1) else ((m_spec_FindRoom K a0 a1.fH).bind fun r2 => (bif (r2.2 != 0) then some ((-1), (T_impl_Thing.mk 0 0 0), r2.2) else (if (0 : Int) ≤ r2.1 ∧ r2.1 < (a0.fL.length : Int) then ((m_spec_ThingOf K (gt a0.fL r2.1) a1).bind fun r3 => (bif (!r3.2) then some ((-1), (T_impl_Thing.mk 0 0 0), 2) else some (r2.1, r3.1, 0))) else none)))))
def s_32 : Sig := ⟨[.v 32, .v 36], [.v 3, .v 89, .v 3], true⟩
def c_32 (K : Nat) : Ctr tyU := ⟨s_32, m_spec_FindThing K⟩
def x_32 (K : Nat) := xF s_32 [(85, c_30 K), (179, c_23 K), (180, c_31 K)] [] 41 [] [] [] [] [.tmp 4, .cell 5 89, .tmp 6]
theorem sp_32 (K : Nat) : OkF 106 (c_32 K) :=
 ctrF (x := x_32 K) (L := []) (c0 := bd Tryz.f106) (xkF (gam_cons (sp_30 K) (gam_cons (sp_23 K) (gam_cons (sp_31 K) gam_nil))) ov_nil) (by intro a0 a1; show @Eq _ _ _; kernel_rfl) cuts_nil Tryz.func106 trivial
def m_spec_SizeOf (K : Nat) (a0 : T_impl_World) (a1 : T_impl_Ref) : Option (Int) := ((m_spec_FindThing K a0 a1).bind fun r1 => some r1.2.1.fLen)
def s_33 : Sig := ⟨[.v 32, .v 36], [.v 3], true⟩
def c_33 (K : Nat) : Ctr tyU := ⟨s_33, m_spec_SizeOf K⟩
def x_33 (K : Nat) := xF s_33 [(106, c_32 K)] [] 17 [] [] [] [] [.tmp 4]
theorem sp_33 (K : Nat) : OkF 76 (c_33 K) :=
 ctrF (x := x_33 K) (L := []) (c0 := bd Tryz.f76) (xkF (gam_cons (sp_32 K) gam_nil) ov_nil) (by intro a0 a1; show @Eq _ _ _; kernel_rfl) cuts_nil Tryz.func76 trivial
def m_spec_l4Copy (K : Nat) (a0 : T_impl_Pool) : Option (T_impl_Pool) := (if (([] : List Int) ++ a0.fMem).length * 1 ≤ 140737488355328 ∧ (([] : List Int) ++ a0.fMem).length ≤ maxLen then (if (([] : List Int) ++ a0.fSt).length * 8 ≤ 140737488355328 ∧ (([] : List Int) ++ a0.fSt).length ≤ maxLen then (if (([] : List Int) ++ a0.fOwn).length * 8 ≤ 140737488355328 ∧ (([] : List Int) ++ a0.fOwn).length ≤ maxLen then some (T_impl_Pool.mk (([] : List Int) ++ a0.fMem) (([] : List Int) ++ a0.fSt) (([] : List Int) ++ a0.fOwn)) else none) else none) else none)
def s_34 : Sig := ⟨[.v 28], [.n 28 true], true⟩
def c_34 (K : Nat) : Ctr tyU := ⟨s_34, m_spec_l4Copy K⟩
def x_34 (K : Nat) := xF s_34 [] [] 16 [] [] [] [] [.cell 2 28]
theorem sp_34 (K : Nat) : OkF 137 (c_34 K) :=
 ctrF (x := x_34 K) (L := []) (c0 := bd Tryz.f137) (xkF gam_nil ov_nil) (by intro a0; show @Eq _ _ _; kernel_rfl) cuts_nil Tryz.func137 trivial
def m_spec_l7Copy (K : Nat) (a0 : T_impl_Node) : Option (T_impl_Node) := (if (([] : List Int) ++ a0.fChunks).length * 8 ≤ 140737488355328 ∧ (([] : List Int) ++ a0.fChunks).length ≤ maxLen then (if (([] : List T_impl_Thing) ++ a0.fThings).length * 24 ≤ 140737488355328 ∧ (([] : List T_impl_Thing) ++ a0.fThings).length ≤ maxLen then (if (([] : List Int) ++ a0.fTags).length * 8 ≤ 140737488355328 ∧ (([] : List Int) ++ a0.fTags).length ≤ maxLen then some (T_impl_Node.mk a0.fSt a0.fGen a0.fEp a0.fUp a0.fUpEp a0.fFirst a0.fNext a0.fPrev (([] : List Int) ++ a0.fChunks) a0.fCur a0.fBump (([] : List T_impl_Thing) ++ a0.fThings) (([] : List Int) ++ a0.fTags)) else none) else none) else none)
def s_35 : Sig := ⟨[.v 44], [.n 44 true], true⟩
def c_35 (K : Nat) : Ctr tyU := ⟨s_35, m_spec_l7Copy K⟩
def x_35 (K : Nat) := xF s_35 [] [] 21 [] [] [] [] [.cell 2 44]
theorem sp_35 (K : Nat) : OkF 209 (c_35 K) :=
 ctrF (x := x_35 K) (L := []) (c0 := bd Tryz.f209) (xkF gam_nil ov_nil) (by intro a0; show @Eq _ _ _; kernel_rfl) cuts_nil Tryz.func209 trivial
def l_spec_l7All_1 (K : Nat) (a0 : List T_impl_Node) : Nat -> (List T_impl_Node) -> Int -> Option ((List T_impl_Node))
 | 0, _, _ => none
 | n1 + 1, v1, v2 => (bif (decide (v2 < (a0.length : Int))) then (if (0 : Int) ≤ v2 ∧ v2 < (a0.length : Int) then ((m_spec_l7Copy K (gt a0 v2)).bind fun r3 => (if (v1 ++ [r3]).length * 152 ≤ 140737488355328 ∧ (v1 ++ [r3]).length ≤ maxLen then (l_spec_l7All_1 K a0 n1 (v1 ++ [r3]) (iAdd .i64 v2 1)) else none)) else none) else some v1)
def m_spec_l7All (K : Nat) (a0 : List T_impl_Node) : Option ((List T_impl_Node)) := (l_spec_l7All_1 K a0 K ([] : List T_impl_Node) 0)
def s_36 : Sig := ⟨[.v 29], [.n 29 true], true⟩
def c_36 (K : Nat) : Ctr tyU := ⟨s_36, m_spec_l7All K⟩
def x_36 (K : Nat) := xF s_36 [(209, c_35 K)] [] 23 [] [] [(20, [.put 3020])] [] [.tmp 2]
def h_36_58 : Shape := ⟨[(0, .v 29), (3, .o 1003 44 true), (4, .v 2)], []⟩
def M_36_58 (K : Nat) (n : Nat) (q : PT h_36_58) : Rt s_36 := l_spec_l7All_1 K q.1 n q.2.1 q.2.2.1
theorem e_36_58 (K : Nat) : AtL (x_36 K) (fun n => []) [] (bd Tryz.f138) 58 (M_36_58 K) := fun n q => by kernel_rfl
theorem xk_36 (K : Nat) : XF [.tmp 2] s_36 23 [] (x_36 K) := xkF (gam_cons (sp_35 K) gam_nil) ov_nil
theorem k_36_58 (K : Nat) (n : Nat) : CF [.tmp 2] s_36 23 [] (bd Tryz.f138) [] 58 (ar h_36_58 (M_36_58 K n)) :=
 loopF (xk_36 K) (e_36_58 K) (fun n => cuts_nil) n
theorem sp_36 (K : Nat) : OkF 138 (c_36 K) :=
 ctrF (x := x_36 K) (L := [(58, ar h_36_58 (M_36_58 K K))]) (c0 := bd Tryz.f138) (xk_36 K) (by intro a0; show @Eq _ _ _; kernel_rfl) (cuts_cons (k_36_58 K K) cuts_nil) Tryz.func138 trivial
def m_spec_l12Copy (K : Nat) (a0 : T_impl_Waste) : Option (T_impl_Waste) := (if (([] : List Int) ++ a0.fTags).length * 8 ≤ 140737488355328 ∧ (([] : List Int) ++ a0.fTags).length ≤ maxLen then (if (([] : List Int) ++ a0.fChunks).length * 8 ≤ 140737488355328 ∧ (([] : List Int) ++ a0.fChunks).length ≤ maxLen then some (T_impl_Waste.mk a0.fSlot a0.fFirst (([] : List Int) ++ a0.fTags) (([] : List Int) ++ a0.fChunks) a0.fDone) else none) else none)
def s_37 : Sig := ⟨[.v 159], [.n 159 true], true⟩
def c_37 (K : Nat) : Ctr tyU := ⟨s_37, m_spec_l12Copy K⟩
def x_37 (K : Nat) := xF s_37 [] [] 16 [] [] [] [] [.cell 2 159]
theorem sp_37 (K : Nat) : OkF 139 (c_37 K) :=
 ctrF (x := x_37 K) (L := []) (c0 := bd Tryz.f139) (xkF gam_nil ov_nil) (by intro a0; show @Eq _ _ _; kernel_rfl) cuts_nil Tryz.func139 trivial
def l_spec_l13Copy_1 (K : Nat) : Nat -> Int -> Int -> Int -> Int -> Int -> Int -> Int -> (List Int) -> (List Int) -> (List Int) -> (List T_impl_Node) -> (List T_impl_Waste) -> (List Int) -> T_impl_World -> Int -> Int -> Int -> Int -> Int -> Int -> (List Int) -> (List Int) -> (List Int) -> (List T_impl_Node) -> (List T_impl_Waste) -> (List Int) -> Option (T_impl_World)
 | 0, _, _, _, _, _, _, _, _, _, _, _, _, _, _, _, _, _, _, _, _, _, _, _, _, _, _ => none
 | n1 + 1, v3, v4, v5, v6, v7, v8, v9, v10, v11, v12, v13, v14, v15, v16, v17, v18, v19, v20, v21, v22, v23, v24, v25, v26, v27, v28 => (bif (decide (v3 < (v27.length : Int))) then (if (0 : Int) ≤ v3 ∧ v3 < (v27.length : Int) then ((m_spec_l12Copy K (gt v27 v3)).bind fun r29 => (if (v14 ++ [r29]).length * 72 ≤ 140737488355328 ∧ (v14 ++ [r29]).length ≤ maxLen then (l_spec_l13Copy_1 K n1 (iAdd .i64 v3 1) v4 v5 v6 v7 v8 v9 v10 v11 v12 v13 (v14 ++ [r29]) v15 v16 v17 v18 v19 v20 v21 v22 v23 v24 v25 v26 v27 v28) else none)) else none) else (if (([] : List Int) ++ v28).length * 8 ≤ 140737488355328 ∧ (([] : List Int) ++ v28).length ≤ maxLen then some (T_impl_World.mk (T_impl_Conf.mk v4 v5 v6 v7 v8 v9) (T_impl_Pool.mk v10 v11 v12) v13 v14 (([] : List Int) ++ v28)) else none))
def m_spec_l13Copy (K : Nat) (a0 : T_impl_World) : Option (T_impl_World) := ((m_spec_l4Copy K a0.fP).bind fun r1 => ((m_spec_l7All K a0.fL).bind fun r2 => (l_spec_l13Copy_1 K K 0 a0.fC.fChunks a0.fC.fSize a0.fC.fSlots a0.fC.fTax a0.fC.fSlice a0.fC.fGens r1.fMem r1.fSt r1.fOwn r2 ([] : List T_impl_Waste) a0.fLog (T_impl_World.mk (T_impl_Conf.mk 0 0 0 0 0 0) (T_impl_Pool.mk [] [] []) [] [] []) a0.fC.fChunks a0.fC.fSize a0.fC.fSlots a0.fC.fTax a0.fC.fSlice a0.fC.fGens a0.fP.fMem a0.fP.fSt a0.fP.fOwn a0.fL a0.fQ a0.fLog)))
def s_38 : Sig := ⟨[.v 32], [.n 32 true], true⟩
def c_38 (K : Nat) : Ctr tyU := ⟨s_38, m_spec_l13Copy K⟩
def x_38 (K : Nat) := xF s_38 [(137, c_34 K), (138, c_36 K), (139, c_37 K)] [] 42 [] [(9, [.take 103 10 6658]), (11, [.take 103 6 6654, .take 103 7 6655, .take 103 8 6656, .take 103 9 6657, .take 103 10 6658])] [(33, [.put 3033])] [] [.cell 2 32]
def h_38_506 : Shape := ⟨[(1, .p 101), (2, .p 102), (3, .p 103), (4, .v 2)], [(103, .box [.v 2, .v 2, .v 2, .v 2, .v 2, .v 2, .T 5 true, .T 3 true, .T 3 true, .T 44 true, .T 159 true, .v 26]), (102, .st 32 true), (101, .box [.v 2, .v 2, .v 2, .v 2, .v 2, .v 2, .v 22, .v 26, .v 26, .v 29, .v 30, .v 26])]⟩
def M_38_506 (K : Nat) (n : Nat) (q : PT h_38_506) : Rt s_38 := l_spec_l13Copy_1 K n q.1 q.2.1 q.2.2.1 q.2.2.2.1 q.2.2.2.2.1 q.2.2.2.2.2.1 q.2.2.2.2.2.2.1 q.2.2.2.2.2.2.2.1 q.2.2.2.2.2.2.2.2.1 q.2.2.2.2.2.2.2.2.2.1 q.2.2.2.2.2.2.2.2.2.2.1 q.2.2.2.2.2.2.2.2.2.2.2.1 q.2.2.2.2.2.2.2.2.2.2.2.2.1 q.2.2.2.2.2.2.2.2.2.2.2.2.2.1 q.2.2.2.2.2.2.2.2.2.2.2.2.2.2.1 q.2.2.2.2.2.2.2.2.2.2.2.2.2.2.2.1 q.2.2.2.2.2.2.2.2.2.2.2.2.2.2.2.2.1 q.2.2.2.2.2.2.2.2.2.2.2.2.2.2.2.2.2.1 q.2.2.2.2.2.2.2.2.2.2.2.2.2.2.2.2.2.2.1 q.2.2.2.2.2.2.2.2.2.2.2.2.2.2.2.2.2.2.2.1 q.2.2.2.2.2.2.2.2.2.2.2.2.2.2.2.2.2.2.2.2.1 q.2.2.2.2.2.2.2.2.2.2.2.2.2.2.2.2.2.2.2.2.2.1 q.2.2.2.2.2.2.2.2.2.2.2.2.2.2.2.2.2.2.2.2.2.2.1 q.2.2.2.2.2.2.2.2.2.2.2.2.2.2.2.2.2.2.2.2.2.2.2.1 q.2.2.2.2.2.2.2.2.2.2.2.2.2.2.2.2.2.2.2.2.2.2.2.2.1 q.2.2.2.2.2.2.2.2.2.2.2.2.2.2.2.2.2.2.2.2.2.2.2.2.2.1
theorem e_38_506 (K : Nat) : AtL (x_38 K) (fun n => []) [] (bd Tryz.f82) 506 (M_38_506 K) := fun n q => by kernel_rfl
theorem xk_38 (K : Nat) : XF [.cell 2 32] s_38 42 [] (x_38 K) := xkF (gam_cons (sp_34 K) (gam_cons (sp_36 K) (gam_cons (sp_37 K) gam_nil))) ov_nil
theorem k_38_506 (K : Nat) (n : Nat) : CF [.cell 2 32] s_38 42 [] (bd Tryz.f82) [] 506 (ar h_38_506 (M_38_506 K n)) :=
 loopF (xk_38 K) (e_38_506 K) (fun n => cuts_nil) n
theorem sp_38 (K : Nat) : OkF 82 (c_38 K) :=
 ctrF (x := x_38 K) (L := [(506, ar h_38_506 (M_38_506 K K))]) (c0 := bd Tryz.f82) (xk_38 K) (by intro a0; show @Eq _ _ _; kernel_rfl) (cuts_cons (k_38_506 K K) cuts_nil) Tryz.func82 trivial
def m_spec_ConfOk (K : Nat) (a0 : T_impl_Conf) : Option (Bool) := ((m_spec_l1In K a0.fChunks 2 12).bind fun r1 => (bif r1 then ((m_spec_l1In K a0.fSize 8 16).bind fun r2 => (bif r2 then ((m_spec_l1In K a0.fSlots 2 8).bind fun r3 => (bif r3 then ((m_spec_l1In K a0.fTax 1 8).bind fun r4 => (bif r4 then ((m_spec_l1In K a0.fSlice 1 16).bind fun r5 => (bif r5 then ((m_spec_l1In K a0.fGens 1 4).bind fun r6 => some r6) else some false)) else some false)) else some false)) else some false)) else some false))
def s_39 : Sig := ⟨[.v 25], [.v 4], true⟩
def c_39 (K : Nat) : Ctr tyU := ⟨s_39, m_spec_ConfOk K⟩
def x_39 (K : Nat) := xF s_39 [(84, c_24 K)] [] 31 [5, 6, 9, 10, 11, 14, 15, 16, 19, 20, 21, 24, 25, 26] [] [] [] [.tmp 2]
theorem sp_39 (K : Nat) : OkF 210 (c_39 K) :=
 ctrF (x := x_39 K) (L := []) (c0 := bd Tryz.f210) (xkF (gam_cons (sp_24 K) gam_nil) ov_nil) (by intro a0; show @Eq _ _ _; kernel_rfl) cuts_nil Tryz.func210 trivial
def m_spec_BytesOf (K : Nat) (a0 : T_impl_Conf) : Option (Int) := ((m_spec_ConfOk K a0).bind fun r1 => (bif (!r1) then some 0 else some (iMul .i64 a0.fChunks a0.fSize)))
def s_40 : Sig := ⟨[.v 25], [.v 3], true⟩
def c_40 (K : Nat) : Ctr tyU := ⟨s_40, m_spec_BytesOf K⟩
def x_40 (K : Nat) := xF s_40 [(210, c_39 K)] [] 11 [] [] [] [] [.tmp 2]
theorem sp_40 (K : Nat) : OkF 211 (c_40 K) :=
 ctrF (x := x_40 K) (L := []) (c0 := bd Tryz.f211) (xkF (gam_cons (sp_39 K) gam_nil) ov_nil) (by intro a0; show @Eq _ _ _; kernel_rfl) cuts_nil Tryz.func211 trivial
def l_spec_IsZero_1 (K : Nat) (a0 : List Int) : Nat -> Int -> Option (Bool)
 | 0, _ => none
 | n1 + 1, v1 => (bif (decide (v1 < (a0.length : Int))) then (if (0 : Int) ≤ v1 ∧ v1 < (a0.length : Int) then (bif ((gt a0 v1) != 0) then some false else (l_spec_IsZero_1 K a0 n1 (iAdd .i64 v1 1))) else none) else some true)
def m_spec_IsZero (K : Nat) (a0 : List Int) : Option (Bool) := (l_spec_IsZero_1 K a0 K 0)
def s_41 : Sig := ⟨[.v 22], [.v 4], true⟩
def c_41 (K : Nat) : Ctr tyU := ⟨s_41, m_spec_IsZero K⟩
def x_41 (K : Nat) := xF s_41 [] [] 15 [] [] [] [] [.tmp 2]
def h_41_26 : Shape := ⟨[(0, .v 22), (3, .v 2)], []⟩
def M_41_26 (K : Nat) (n : Nat) (q : PT h_41_26) : Rt s_41 := l_spec_IsZero_1 K q.1 n q.2.1
theorem e_41_26 (K : Nat) : AtL (x_41 K) (fun n => []) [] (bd Tryz.f212) 26 (M_41_26 K) := fun n q => by kernel_rfl
theorem xk_41 (K : Nat) : XF [.tmp 2] s_41 15 [] (x_41 K) := xkF gam_nil ov_nil
theorem k_41_26 (K : Nat) (n : Nat) : CF [.tmp 2] s_41 15 [] (bd Tryz.f212) [] 26 (ar h_41_26 (M_41_26 K n)) :=
 loopF (xk_41 K) (e_41_26 K) (fun n => cuts_nil) n
theorem sp_41 (K : Nat) : OkF 212 (c_41 K) :=
 ctrF (x := x_41 K) (L := [(26, ar h_41_26 (M_41_26 K K))]) (c0 := bd Tryz.f212) (xk_41 K) (by intro a0; show @Eq _ _ _; kernel_rfl) (cuts_cons (k_41_26 K K) cuts_nil) Tryz.func212 trivial
def j_spec_PoolOk_3 (K : Nat) (v3 : Int) (v4 : List Int) (v5 : List Int) (v6 : List Int) (C1 : Int -> (List Int) -> (List Int) -> (List Int) -> Option (Bool)) : Option (Bool) := (C1 (iAdd .i64 v3 1) v4 v5 v6)
def j_spec_PoolOk_2 (K : Nat) (a0 : T_impl_Conf) (v3 : Int) (v4 : List Int) (v5 : List Int) (v6 : List Int) (C1 : Int -> (List Int) -> (List Int) -> (List Int) -> Option (Bool)) : Option (Bool) := (if (0 : Int) ≤ v3 ∧ v3 < (v5.length : Int) then (bif ((gt v5 v3) == 0) then (if (0 : Int) ≤ (iMul .i64 v3 a0.fSize) ∧ (iMul .i64 v3 a0.fSize) ≤ (iMul .i64 (iAdd .i64 v3 1) a0.fSize) ∧ (iMul .i64 (iAdd .i64 v3 1) a0.fSize) ≤ (v4.length : Int) then ((m_spec_IsZero K ((v4.drop (iMul .i64 v3 a0.fSize).toNat).take ((iMul .i64 (iAdd .i64 v3 1) a0.fSize) - (iMul .i64 v3 a0.fSize)).toNat)).bind fun r9 => (bif (!r9) then some false else (j_spec_PoolOk_3 K v3 v4 v5 v6 (C1)))) else none) else (j_spec_PoolOk_3 K v3 v4 v5 v6 (C1))) else none)
def l_spec_PoolOk_1 (K : Nat) (a0 : T_impl_Conf) : Nat -> Int -> (List Int) -> (List Int) -> (List Int) -> Option (Bool)
 | 0, _, _, _, _ => none
 | n1 + 1, v3, v4, v5, v6 => (bif (decide (v3 < a0.fChunks)) then (if (0 : Int) ≤ v3 ∧ v3 < (v5.length : Int) then ((m_spec_l1In K (gt v5 v3) 0 2).bind fun r7 => (bif (!r7) then some false else (if (0 : Int) ≤ v3 ∧ v3 < (v5.length : Int) then (bif ((gt v5 v3) == 1) then (if (0 : Int) ≤ v3 ∧ v3 < (v6.length : Int) then ((m_spec_l1In K (gt v6 v3) 0 (iSub .i64 a0.fSlots 1)).bind fun r8 => (bif r8 then (if (0 : Int) ≤ v3 ∧ v3 < (v5.length : Int) then (bif ((gt v5 v3) != 1) then (if (0 : Int) ≤ v3 ∧ v3 < (v6.length : Int) then (bif ((gt v6 v3) != (-1)) then some false else (j_spec_PoolOk_2 K a0 v3 v4 v5 v6 (l_spec_PoolOk_1 K a0 n1))) else none) else (j_spec_PoolOk_2 K a0 v3 v4 v5 v6 (l_spec_PoolOk_1 K a0 n1))) else none) else some false)) else none) else (if (0 : Int) ≤ v3 ∧ v3 < (v5.length : Int) then (bif ((gt v5 v3) != 1) then (if (0 : Int) ≤ v3 ∧ v3 < (v6.length : Int) then (bif ((gt v6 v3) != (-1)) then some false else (j_spec_PoolOk_2 K a0 v3 v4 v5 v6 (l_spec_PoolOk_1 K a0 n1))) else none) else (j_spec_PoolOk_2 K a0 v3 v4 v5 v6 (l_spec_PoolOk_1 K a0 n1))) else none)) else none))) else none) else some true)
def m_spec_PoolOk (K : Nat) (a0 : T_impl_Conf) (a1 : T_impl_Pool) : Option (Bool) := ((m_spec_ConfOk K a0).bind fun r1 => (bif r1 then ((m_spec_BytesOf K a0).bind fun r2 => (bif ((a1.fMem.length : Int) != r2) then some false else (bif ((a1.fSt.length : Int) != a0.fChunks) then some false else (bif ((a1.fOwn.length : Int) != a0.fChunks) then some false else (l_spec_PoolOk_1 K a0 K 0 a1.fMem a1.fSt a1.fOwn))))) else some false))
def s_42 : Sig := ⟨[.v 25, .v 28], [.v 4], true⟩
def c_42 (K : Nat) : Ctr tyU := ⟨s_42, m_spec_PoolOk K⟩
def x_42 (K : Nat) := xF s_42 [(84, c_24 K), (210, c_39 K), (211, c_40 K), (212, c_41 K)] [] 102 [7, 8, 9, 15, 16, 17, 23, 24, 25, 51, 52, 61, 62, 63, 64, 70, 71, 85, 86] [] [] [233, 1865] [.tmp 4]
def h_42_233 : Shape := ⟨[(2, .p 102), (3, .p 103), (5, .v 2)], [(103, .box [.v 22, .v 26, .v 26]), (102, .st 25 true)]⟩
def h_42_1865 : Shape := ⟨[(2, .p 102), (3, .p 103), (5, .v 2)], [(103, .box [.v 22, .v 26, .v 26]), (102, .st 25 true)]⟩
def h_42_58 : Shape := ⟨[(2, .p 102), (3, .p 103), (5, .v 2)], [(103, .box [.v 22, .v 26, .v 26]), (102, .st 25 true)]⟩
def M_42_233 (K : Nat) (C58 : CT h_42_58 s_42) (q : PT h_42_233) : Rt s_42 := j_spec_PoolOk_3 K q.1 q.2.1 q.2.2.1 q.2.2.2.1 (fun v3 v4 v5 v6 => C58 (v3, v4, v5, v6, q.2.2.2.2.1, ()))
def M_42_1865 (K : Nat) (C58 : CT h_42_58 s_42) (q : PT h_42_1865) : Rt s_42 := j_spec_PoolOk_2 K q.2.2.2.2.1 q.1 q.2.1 q.2.2.1 q.2.2.2.1 (fun v3 v4 v5 v6 => C58 (v3, v4, v5, v6, q.2.2.2.2.1, ()))
def M_42_58 (K : Nat) (n : Nat) (q : PT h_42_58) : Rt s_42 := l_spec_PoolOk_1 K q.2.2.2.2.1 n q.1 q.2.1 q.2.2.1 q.2.2.2.1
theorem e_42_233 (K : Nat) (C58 : CT h_42_58 s_42) : AtJ (x_42 K) [] [(58, ar h_42_58 C58)] (bd Tryz.f140) 233 (M_42_233 K C58) := fun q => by kernel_rfl
theorem e_42_1865 (K : Nat) (C58 : CT h_42_58 s_42) : AtJ (x_42 K) [(233, ar h_42_233 (M_42_233 K C58))] [(58, ar h_42_58 C58)] (bd Tryz.f140) 1865 (M_42_1865 K C58) := fun q => by kernel_rfl
theorem e_42_58 (K : Nat) : AtL (x_42 K) (fun n => [(1865, ar h_42_1865 (M_42_1865 K (M_42_58 K n)))]) [] (bd Tryz.f140) 58 (M_42_58 K) := fun n q => by kernel_rfl
theorem xk_42 (K : Nat) : XF [.tmp 4] s_42 102 [233, 1865] (x_42 K) := xkF (gam_cons (sp_24 K) (gam_cons (sp_39 K) (gam_cons (sp_40 K) (gam_cons (sp_41 K) gam_nil)))) ov_nil
theorem k_42_233 (K : Nat) (C58 : CT h_42_58 s_42) : CF [.tmp 4] s_42 102 [233, 1865] (bd Tryz.f140) [(58, ar h_42_58 C58)] 233 (ar h_42_233 (M_42_233 K C58)) :=
 joinF (xk_42 K) (e_42_233 K C58) cuts_nil
theorem k_42_1865 (K : Nat) (C58 : CT h_42_58 s_42) : CF [.tmp 4] s_42 102 [233, 1865] (bd Tryz.f140) [(58, ar h_42_58 C58)] 1865 (ar h_42_1865 (M_42_1865 K C58)) :=
 joinF (xk_42 K) (e_42_1865 K C58) (cuts_cons (k_42_233 K C58) cuts_nil)
theorem k_42_58 (K : Nat) (n : Nat) : CF [.tmp 4] s_42 102 [233, 1865] (bd Tryz.f140) [] 58 (ar h_42_58 (M_42_58 K n)) :=
 loopF (xk_42 K) (e_42_58 K) (fun n => (cuts_cons (k_42_1865 K (M_42_58 K n)) cuts_nil)) n
theorem sp_42 (K : Nat) : OkF 140 (c_42 K) :=
 ctrF (x := x_42 K) (L := [(58, ar h_42_58 (M_42_58 K K))]) (c0 := bd Tryz.f140) (xk_42 K) (by intro a0 a1; show @Eq _ _ _; kernel_rfl) (cuts_cons (k_42_58 K K) cuts_nil) Tryz.func140 trivial
def m_spec_l9Live (K : Nat) (a0 : List T_impl_Node) (a1 : Int) : Option (Bool) := (bif (a1 == 0) then some true else ((m_spec_l9Place K a0 a1).bind fun r1 => (bif r1 then (if (0 : Int) ≤ (iSub .i64 a1 1) ∧ (iSub .i64 a1 1) < (a0.length : Int) then some (((gt a0 (iSub .i64 a1 1)).fSt) == 1) else none) else some false)))
def s_43 : Sig := ⟨[.v 29, .v 3], [.v 4], true⟩
def c_43 (K : Nat) : Ctr tyU := ⟨s_43, m_spec_l9Live K⟩
def x_43 (K : Nat) := xF s_43 [(244, c_26 K)] [] 21 [6, 7, 10, 11] [] [] [] [.tmp 4]
theorem sp_43 (K : Nat) : OkF 264 (c_43 K) :=
 ctrF (x := x_43 K) (L := []) (c0 := bd Tryz.f264) (xkF (gam_cons (sp_26 K) gam_nil) ov_nil) (by intro a0 a1; show @Eq _ _ _; kernel_rfl) cuts_nil Tryz.func264 trivial
def j_spec_l9One_5 (K : Nat) (a0 : List T_impl_Node) (a1 : Int) : Option (Bool) := ((m_spec_Rise K a0 a1).bind fun r19 => (bif (decide ((r19.length : Int) ≤ 4)) then (if (0 : Int) ≤ (iSub .i64 (r19.length : Int) 1) ∧ (iSub .i64 (r19.length : Int) 1) < (r19.length : Int) then ((m_spec_l9In K a0 (gt r19 (iSub .i64 (r19.length : Int) 1))).bind fun r20 => some (!r20)) else none) else some false))
def j_spec_l9One_4 (K : Nat) (a0 : List T_impl_Node) (a1 : Int) (v8 : Int) (v12 : Int) : Option (Bool) := (bif (v12 == 0) then ((m_spec_l9In K a0 a1).bind fun r18 => (bif r18 then (if (0 : Int) ≤ (iSub .i64 v8 1) ∧ (iSub .i64 v8 1) < (a0.length : Int) then (bif (((gt a0 (iSub .i64 v8 1)).fFirst) != (iAdd .i64 a1 1)) then some false else (j_spec_l9One_5 K a0 a1)) else none) else (j_spec_l9One_5 K a0 a1))) else (j_spec_l9One_5 K a0 a1))
def j_spec_l9One_3 (K : Nat) (a0 : List T_impl_Node) (a1 : Int) (v8 : Int) (v12 : Int) : Option (Bool) := (bif (v12 != 0) then (if (0 : Int) ≤ (iSub .i64 v12 1) ∧ (iSub .i64 v12 1) < (a0.length : Int) then (bif (((gt a0 (iSub .i64 v12 1)).fNext) != (iAdd .i64 a1 1)) then some false else (j_spec_l9One_4 K a0 a1 v8 v12)) else none) else (j_spec_l9One_4 K a0 a1 v8 v12))
def j_spec_l9One_2 (K : Nat) (a0 : List T_impl_Node) (a1 : Int) (v8 : Int) (v9 : Int) (v11 : Int) (v12 : Int) : Option (Bool) := (bif (v11 != 0) then (if (0 : Int) ≤ (iSub .i64 v11 1) ∧ (iSub .i64 v11 1) < (a0.length : Int) then (bif (((gt a0 (iSub .i64 v11 1)).fPrev) != (iAdd .i64 a1 1)) then some false else (bif (((gt a0 (iSub .i64 v11 1)).fUp) != v8) then some false else (bif (((gt a0 (iSub .i64 v11 1)).fUpEp) != v9) then some false else (j_spec_l9One_3 K a0 a1 v8 v12)))) else none) else (j_spec_l9One_3 K a0 a1 v8 v12))
def j_spec_l9One_1 (K : Nat) (a0 : List T_impl_Node) (a1 : Int) (v5 : Int) (v6 : Int) (v7 : Int) (v8 : Int) (v9 : Int) (v10 : Int) (v11 : Int) (v12 : Int) (v13 : List Int) (v14 : Int) (v15 : Int) (v16 : List T_impl_Thing) (v17 : List Int) : Option (Bool) := (bif (v10 != 0) then (if (0 : Int) ≤ (iSub .i64 v10 1) ∧ (iSub .i64 v10 1) < (a0.length : Int) then (bif (((gt a0 (iSub .i64 v10 1)).fPrev) != 0) then some false else (bif (((gt a0 (iSub .i64 v10 1)).fUp) != (iAdd .i64 a1 1)) then some false else (bif (((gt a0 (iSub .i64 v10 1)).fUpEp) != v7) then some false else (j_spec_l9One_2 K a0 a1 v8 v9 v11 v12)))) else none) else (j_spec_l9One_2 K a0 a1 v8 v9 v11 v12))
def m_spec_l9One (K : Nat) (a0 : List T_impl_Node) (a1 : Int) : Option (Bool) := (if (0 : Int) ≤ a1 ∧ a1 < (a0.length : Int) then (bif (((gt a0 a1).fUp) != 0) then ((m_spec_l9Place K a0 ((gt a0 a1).fUp)).bind fun r1 => (bif r1 then ((m_spec_l9Live K a0 ((gt a0 a1).fFirst)).bind fun r2 => (bif r2 then ((m_spec_l9Live K a0 ((gt a0 a1).fNext)).bind fun r3 => (bif r3 then ((m_spec_l9Live K a0 ((gt a0 a1).fPrev)).bind fun r4 => (bif (!r4) then some false else (j_spec_l9One_1 K a0 a1 ((gt a0 a1).fSt) ((gt a0 a1).fGen) ((gt a0 a1).fEp) ((gt a0 a1).fUp) ((gt a0 a1).fUpEp) ((gt a0 a1).fFirst) ((gt a0 a1).fNext) ((gt a0 a1).fPrev) ((gt a0 a1).fChunks) ((gt a0 a1).fCur) ((gt a0 a1).fBump) ((gt a0 a1).fThings) ((gt a0 a1).fTags)))) else some false)) else some false)) else some false)) else ((m_spec_l9Live K a0 ((gt a0 a1).fFirst)).bind fun r21 => (bif r21 then ((m_spec_l9Live K a0 ((gt a0 a1).fNext)).bind fun r22 => (bif r22 then ((m_spec_l9Live K a0 ((gt a0 a1).fPrev)).bind fun r23 => (bif (!r23) then some false else (j_spec_l9One_1 K a0 a1 ((gt a0 a1).fSt) ((gt a0 a1).fGen) ((gt a0 a1).fEp) ((gt a0 a1).fUp) ((gt a0 a1).fUpEp) ((gt a0 a1).fFirst) ((gt a0 a1).fNext) ((gt a0 a1).fPrev) ((gt a0 a1).fChunks) ((gt a0 a1).fCur) ((gt a0 a1).fBump) ((gt a0 a1).fThings) ((gt a0 a1).fTags)))) else some false)) else some false))) else none)
def s_44 : Sig := ⟨[.v 29, .v 3], [.v 4], true⟩
def c_44 (K : Nat) : Ctr tyU := ⟨s_44, m_spec_l9One K⟩
def x_44 (K : Nat) := xF s_44 [(224, c_27 K), (225, c_28 K), (244, c_26 K), (264, c_43 K)] [] 150 [15, 16, 20, 21, 22, 23, 27, 28, 29, 30, 34, 35, 36, 37, 55, 56, 61, 62, 63, 83, 84, 89, 90, 91, 100, 101, 115, 116, 119, 120, 121, 138, 139] [] [] [7, 15, 31, 63, 127] [.tmp 4]
def h_44_127 : Shape := ⟨[(0, .v 29), (1, .v 2)], []⟩
def h_44_63 : Shape := ⟨[(0, .v 29), (1, .v 2), (5, .p 105)], [(105, .box [.v 2, .v 2, .v 2, .v 2, .v 2, .v 2, .v 2, .v 2, .v 26, .v 2, .v 2, .v 41, .v 26])]⟩
def h_44_31 : Shape := ⟨[(0, .v 29), (1, .v 2), (5, .p 105)], [(105, .box [.v 2, .v 2, .v 2, .v 2, .v 2, .v 2, .v 2, .v 2, .v 26, .v 2, .v 2, .v 41, .v 26])]⟩
def h_44_15 : Shape := ⟨[(0, .v 29), (1, .v 2), (5, .p 105)], [(105, .box [.v 2, .v 2, .v 2, .v 2, .v 2, .v 2, .v 2, .v 2, .v 26, .v 2, .v 2, .v 41, .v 26])]⟩
def h_44_7 : Shape := ⟨[(0, .v 29), (1, .v 2), (5, .p 105)], [(105, .box [.v 2, .v 2, .v 2, .v 2, .v 2, .v 2, .v 2, .v 2, .v 26, .v 2, .v 2, .v 41, .v 26])]⟩
def M_44_127 (K : Nat) (q : PT h_44_127) : Rt s_44 := j_spec_l9One_5 K q.1 q.2.1
def M_44_63 (K : Nat) (q : PT h_44_63) : Rt s_44 := j_spec_l9One_4 K q.1 q.2.1 q.2.2.2.2.2.1 q.2.2.2.2.2.2.2.2.2.1
def M_44_31 (K : Nat) (q : PT h_44_31) : Rt s_44 := j_spec_l9One_3 K q.1 q.2.1 q.2.2.2.2.2.1 q.2.2.2.2.2.2.2.2.2.1
def M_44_15 (K : Nat) (q : PT h_44_15) : Rt s_44 := j_spec_l9One_2 K q.1 q.2.1 q.2.2.2.2.2.1 q.2.2.2.2.2.2.1 q.2.2.2.2.2.2.2.2.1 q.2.2.2.2.2.2.2.2.2.1
def M_44_7 (K : Nat) (q : PT h_44_7) : Rt s_44 := j_spec_l9One_1 K q.1 q.2.1 q.2.2.1 q.2.2.2.1 q.2.2.2.2.1 q.2.2.2.2.2.1 q.2.2.2.2.2.2.1 q.2.2.2.2.2.2.2.1 q.2.2.2.2.2.2.2.2.1 q.2.2.2.2.2.2.2.2.2.1 q.2.2.2.2.2.2.2.2.2.2.1 q.2.2.2.2.2.2.2.2.2.2.2.1 q.2.2.2.2.2.2.2.2.2.2.2.2.1 q.2.2.2.2.2.2.2.2.2.2.2.2.2.1 q.2.2.2.2.2.2.2.2.2.2.2.2.2.2.1
theorem e_44_127 (K : Nat) : AtJ (x_44 K) [] [] (bd Tryz.f213) 127 (M_44_127 K) := fun q => by kernel_rfl
theorem e_44_63 (K : Nat) : AtJ (x_44 K) [(127, ar h_44_127 (M_44_127 K))] [] (bd Tryz.f213) 63 (M_44_63 K) := fun q => by kernel_rfl
theorem e_44_31 (K : Nat) : AtJ (x_44 K) [(63, ar h_44_63 (M_44_63 K))] [] (bd Tryz.f213) 31 (M_44_31 K) := fun q => by kernel_rfl
theorem e_44_15 (K : Nat) : AtJ (x_44 K) [(31, ar h_44_31 (M_44_31 K))] [] (bd Tryz.f213) 15 (M_44_15 K) := fun q => by kernel_rfl
theorem e_44_7 (K : Nat) : AtJ (x_44 K) [(15, ar h_44_15 (M_44_15 K))] [] (bd Tryz.f213) 7 (M_44_7 K) := fun q => by kernel_rfl
theorem xk_44 (K : Nat) : XF [.tmp 4] s_44 150 [7, 15, 31, 63, 127] (x_44 K) := xkF (gam_cons (sp_27 K) (gam_cons (sp_28 K) (gam_cons (sp_26 K) (gam_cons (sp_43 K) gam_nil)))) ov_nil
theorem k_44_127 (K : Nat) : CF [.tmp 4] s_44 150 [7, 15, 31, 63, 127] (bd Tryz.f213) [] 127 (ar h_44_127 (M_44_127 K)) :=
 joinF (xk_44 K) (e_44_127 K) cuts_nil
theorem k_44_63 (K : Nat) : CF [.tmp 4] s_44 150 [7, 15, 31, 63, 127] (bd Tryz.f213) [] 63 (ar h_44_63 (M_44_63 K)) :=
 joinF (xk_44 K) (e_44_63 K) (cuts_cons (k_44_127 K) cuts_nil)
theorem k_44_31 (K : Nat) : CF [.tmp 4] s_44 150 [7, 15, 31, 63, 127] (bd Tryz.f213) [] 31 (ar h_44_31 (M_44_31 K)) :=
 joinF (xk_44 K) (e_44_31 K) (cuts_cons (k_44_63 K) cuts_nil)
theorem k_44_15 (K : Nat) : CF [.tmp 4] s_44 150 [7, 15, 31, 63, 127] (bd Tryz.f213) [] 15 (ar h_44_15 (M_44_15 K)) :=
 joinF (xk_44 K) (e_44_15 K) (cuts_cons (k_44_31 K) cuts_nil)
theorem k_44_7 (K : Nat) : CF [.tmp 4] s_44 150 [7, 15, 31, 63, 127] (bd Tryz.f213) [] 7 (ar h_44_7 (M_44_7 K)) :=
 joinF (xk_44 K) (e_44_7 K) (cuts_cons (k_44_15 K) cuts_nil)
theorem sp_44 (K : Nat) : OkF 213 (c_44 K) :=
 ctrF (x := x_44 K) (L := [(7, ar h_44_7 (M_44_7 K))]) (c0 := bd Tryz.f213) (xk_44 K) (by intro a0 a1; show @Eq _ _ _; kernel_rfl) (cuts_cons (k_44_7 K) cuts_nil) Tryz.func213 trivial
def j_spec_TreeOk_2 (K : Nat) (v1 : Int) (C1 : Int -> Option (Bool)) : Option (Bool) := (C1 (iAdd .i64 v1 1))
def l_spec_TreeOk_1 (K : Nat) (a0 : List T_impl_Node) : Nat -> Int -> Option (Bool)
 | 0, _ => none
 | n1 + 1, v1 => (bif (decide (v1 < (a0.length : Int))) then (if (0 : Int) ≤ v1 ∧ v1 < (a0.length : Int) then (bif (((gt a0 v1).fSt) == 1) then ((m_spec_l9One K a0 v1).bind fun r2 => (bif (!r2) then some false else (j_spec_TreeOk_2 K v1 (l_spec_TreeOk_1 K a0 n1)))) else (j_spec_TreeOk_2 K v1 (l_spec_TreeOk_1 K a0 n1))) else none) else some true)
def m_spec_TreeOk (K : Nat) (a0 : List T_impl_Node) : Option (Bool) := (l_spec_TreeOk_1 K a0 K 0)
def s_45 : Sig := ⟨[.v 29], [.v 4], true⟩
def c_45 (K : Nat) : Ctr tyU := ⟨s_45, m_spec_TreeOk K⟩
def x_45 (K : Nat) := xF s_45 [(213, c_44 K)] [] 22 [15, 16] [] [] [105] [.tmp 2]
def h_45_105 : Shape := ⟨[(0, .v 29), (3, .v 2)], []⟩
def h_45_26 : Shape := ⟨[(0, .v 29), (3, .v 2)], []⟩
def M_45_105 (K : Nat) (C26 : CT h_45_26 s_45) (q : PT h_45_105) : Rt s_45 := j_spec_TreeOk_2 K q.2.1 (fun v1 => C26 (q.1, v1, ()))
def M_45_26 (K : Nat) (n : Nat) (q : PT h_45_26) : Rt s_45 := l_spec_TreeOk_1 K q.1 n q.2.1
theorem e_45_105 (K : Nat) (C26 : CT h_45_26 s_45) : AtJ (x_45 K) [] [(26, ar h_45_26 C26)] (bd Tryz.f141) 105 (M_45_105 K C26) := fun q => by kernel_rfl
theorem e_45_26 (K : Nat) : AtL (x_45 K) (fun n => [(105, ar h_45_105 (M_45_105 K (M_45_26 K n)))]) [] (bd Tryz.f141) 26 (M_45_26 K) := fun n q => by kernel_rfl
theorem xk_45 (K : Nat) : XF [.tmp 2] s_45 22 [105] (x_45 K) := xkF (gam_cons (sp_44 K) gam_nil) ov_nil
theorem k_45_105 (K : Nat) (C26 : CT h_45_26 s_45) : CF [.tmp 2] s_45 22 [105] (bd Tryz.f141) [(26, ar h_45_26 C26)] 105 (ar h_45_105 (M_45_105 K C26)) :=
 joinF (xk_45 K) (e_45_105 K C26) cuts_nil
theorem k_45_26 (K : Nat) (n : Nat) : CF [.tmp 2] s_45 22 [105] (bd Tryz.f141) [] 26 (ar h_45_26 (M_45_26 K n)) :=
 loopF (xk_45 K) (e_45_26 K) (fun n => (cuts_cons (k_45_105 K (M_45_26 K n)) cuts_nil)) n
theorem sp_45 (K : Nat) : OkF 141 (c_45 K) :=
 ctrF (x := x_45 K) (L := [(26, ar h_45_26 (M_45_26 K K))]) (c0 := bd Tryz.f141) (xk_45 K) (by intro a0; show @Eq _ _ _; kernel_rfl) (cuts_cons (k_45_26 K K) cuts_nil) Tryz.func141 trivial
def j_spec_CountOf_2 (K : Nat) (v2 : Int) (v3 : List Int) (v4 : List Int) (v5 : List Int) (C1 : Int -> Int -> (List Int) -> (List Int) -> (List Int) -> Option (Int)) (v6 : Int) : Option (Int) := (C1 v6 (iAdd .i64 v2 1) v3 v4 v5)
def l_spec_CountOf_1 (K : Nat) (a1 : Int) : Nat -> Int -> Int -> (List Int) -> (List Int) -> (List Int) -> Option (Int)
 | 0, _, _, _, _, _ => none
 | n1 + 1, v1, v2, v3, v4, v5 => (bif (decide (v2 < (v4.length : Int))) then (if (0 : Int) ≤ v2 ∧ v2 < (v4.length : Int) then (bif ((gt v4 v2) == a1) then (j_spec_CountOf_2 K v2 v3 v4 v5 (l_spec_CountOf_1 K a1 n1) (iAdd .i64 v1 1)) else (j_spec_CountOf_2 K v2 v3 v4 v5 (l_spec_CountOf_1 K a1 n1) v1)) else none) else some v1)
def m_spec_CountOf (K : Nat) (a0 : T_impl_Pool) (a1 : Int) : Option (Int) := (l_spec_CountOf_1 K a1 K 0 0 a0.fMem a0.fSt a0.fOwn)
def s_46 : Sig := ⟨[.v 28, .v 3], [.v 3], true⟩
def c_46 (K : Nat) : Ctr tyU := ⟨s_46, m_spec_CountOf K⟩
def x_46 (K : Nat) := xF s_46 [] [] 24 [] [] [] [233] [.tmp 4]
def h_46_233 : Shape := ⟨[(1, .v 2), (2, .p 102), (5, .v 2), (6, .v 2)], [(102, .box [.v 22, .v 26, .v 26])]⟩
def h_46_58 : Shape := ⟨[(1, .v 2), (2, .p 102), (5, .v 2), (6, .v 2)], [(102, .box [.v 22, .v 26, .v 26])]⟩
def M_46_233 (K : Nat) (C58 : CT h_46_58 s_46) (q : PT h_46_233) : Rt s_46 := j_spec_CountOf_2 K q.2.2.1 q.2.2.2.1 q.2.2.2.2.1 q.2.2.2.2.2.1 (fun v1 v2 v3 v4 v5 => C58 (q.1, v1, v2, v3, v4, v5, ())) q.2.1
def M_46_58 (K : Nat) (n : Nat) (q : PT h_46_58) : Rt s_46 := l_spec_CountOf_1 K q.1 n q.2.1 q.2.2.1 q.2.2.2.1 q.2.2.2.2.1 q.2.2.2.2.2.1
theorem e_46_233 (K : Nat) (C58 : CT h_46_58 s_46) : AtJ (x_46 K) [] [(58, ar h_46_58 C58)] (bd Tryz.f222) 233 (M_46_233 K C58) := fun q => by kernel_rfl
theorem e_46_58 (K : Nat) : AtL (x_46 K) (fun n => [(233, ar h_46_233 (M_46_233 K (M_46_58 K n)))]) [] (bd Tryz.f222) 58 (M_46_58 K) := fun n q => by kernel_rfl
theorem xk_46 (K : Nat) : XF [.tmp 4] s_46 24 [233] (x_46 K) := xkF gam_nil ov_nil
theorem k_46_233 (K : Nat) (C58 : CT h_46_58 s_46) : CF [.tmp 4] s_46 24 [233] (bd Tryz.f222) [(58, ar h_46_58 C58)] 233 (ar h_46_233 (M_46_233 K C58)) :=
 joinF (xk_46 K) (e_46_233 K C58) cuts_nil
theorem k_46_58 (K : Nat) (n : Nat) : CF [.tmp 4] s_46 24 [233] (bd Tryz.f222) [] 58 (ar h_46_58 (M_46_58 K n)) :=
 loopF (xk_46 K) (e_46_58 K) (fun n => (cuts_cons (k_46_233 K (M_46_58 K n)) cuts_nil)) n
theorem sp_46 (K : Nat) : OkF 222 (c_46 K) :=
 ctrF (x := x_46 K) (L := [(58, ar h_46_58 (M_46_58 K K))]) (c0 := bd Tryz.f222) (xk_46 K) (by intro a0 a1; show @Eq _ _ _; kernel_rfl) (cuts_cons (k_46_58 K K) cuts_nil) Tryz.func222 trivial
def j_spec_CountNodes_2 (K : Nat) (v2 : Int) (C1 : Int -> Int -> Option (Int)) (v3 : Int) : Option (Int) := (C1 v3 (iAdd .i64 v2 1))
def l_spec_CountNodes_1 (K : Nat) (a0 : List T_impl_Node) (a1 : Int) : Nat -> Int -> Int -> Option (Int)
 | 0, _, _ => none
 | n1 + 1, v1, v2 => (bif (decide (v2 < (a0.length : Int))) then (if (0 : Int) ≤ v2 ∧ v2 < (a0.length : Int) then (bif (((gt a0 v2).fSt) == a1) then (j_spec_CountNodes_2 K v2 (l_spec_CountNodes_1 K a0 a1 n1) (iAdd .i64 v1 1)) else (j_spec_CountNodes_2 K v2 (l_spec_CountNodes_1 K a0 a1 n1) v1)) else none) else some v1)
def m_spec_CountNodes (K : Nat) (a0 : List T_impl_Node) (a1 : Int) : Option (Int) := (l_spec_CountNodes_1 K a0 a1 K 0 0)
def s_47 : Sig := ⟨[.v 29, .v 3], [.v 3], true⟩
def c_47 (K : Nat) : Ctr tyU := ⟨s_47, m_spec_CountNodes K⟩
def x_47 (K : Nat) := xF s_47 [] [] 23 [] [] [] [233] [.tmp 4]
def h_47_233 : Shape := ⟨[(0, .v 29), (1, .v 2), (5, .v 2), (6, .v 2)], []⟩
def h_47_58 : Shape := ⟨[(0, .v 29), (1, .v 2), (5, .v 2), (6, .v 2)], []⟩
def M_47_233 (K : Nat) (C58 : CT h_47_58 s_47) (q : PT h_47_233) : Rt s_47 := j_spec_CountNodes_2 K q.2.2.2.1 (fun v1 v2 => C58 (q.1, q.2.1, v1, v2, ())) q.2.2.1
def M_47_58 (K : Nat) (n : Nat) (q : PT h_47_58) : Rt s_47 := l_spec_CountNodes_1 K q.1 q.2.1 n q.2.2.1 q.2.2.2.1
theorem e_47_233 (K : Nat) (C58 : CT h_47_58 s_47) : AtJ (x_47 K) [] [(58, ar h_47_58 C58)] (bd Tryz.f223) 233 (M_47_233 K C58) := fun q => by kernel_rfl
theorem e_47_58 (K : Nat) : AtL (x_47 K) (fun n => [(233, ar h_47_233 (M_47_233 K (M_47_58 K n)))]) [] (bd Tryz.f223) 58 (M_47_58 K) := fun n q => by kernel_rfl
theorem xk_47 (K : Nat) : XF [.tmp 4] s_47 23 [233] (x_47 K) := xkF gam_nil ov_nil
theorem k_47_233 (K : Nat) (C58 : CT h_47_58 s_47) : CF [.tmp 4] s_47 23 [233] (bd Tryz.f223) [(58, ar h_47_58 C58)] 233 (ar h_47_233 (M_47_233 K C58)) :=
 joinF (xk_47 K) (e_47_233 K C58) cuts_nil
theorem k_47_58 (K : Nat) (n : Nat) : CF [.tmp 4] s_47 23 [233] (bd Tryz.f223) [] 58 (ar h_47_58 (M_47_58 K n)) :=
 loopF (xk_47 K) (e_47_58 K) (fun n => (cuts_cons (k_47_233 K (M_47_58 K n)) cuts_nil)) n
theorem sp_47 (K : Nat) : OkF 223 (c_47 K) :=
 ctrF (x := x_47 K) (L := [(58, ar h_47_58 (M_47_58 K K))]) (c0 := bd Tryz.f223) (xk_47 K) (by intro a0 a1; show @Eq _ _ _; kernel_rfl) (cuts_cons (k_47_58 K K) cuts_nil) Tryz.func223 trivial
def l_spec_l7Has_1 (K : Nat) (a0 : List Int) (a1 : Int) : Nat -> Int -> Option (Bool)
 | 0, _ => none
 | n1 + 1, v1 => (bif (decide (v1 < (a0.length : Int))) then (if (0 : Int) ≤ v1 ∧ v1 < (a0.length : Int) then (bif ((gt a0 v1) == a1) then some true else (l_spec_l7Has_1 K a0 a1 n1 (iAdd .i64 v1 1))) else none) else some false)
def m_spec_l7Has (K : Nat) (a0 : List Int) (a1 : Int) : Option (Bool) := (l_spec_l7Has_1 K a0 a1 K 0)
def s_48 : Sig := ⟨[.v 26, .v 3], [.v 4], true⟩
def c_48 (K : Nat) : Ctr tyU := ⟨s_48, m_spec_l7Has K⟩
def x_48 (K : Nat) := xF s_48 [] [] 18 [] [] [] [] [.tmp 4]
def h_48_26 : Shape := ⟨[(0, .v 26), (1, .v 2), (5, .v 2)], []⟩
def M_48_26 (K : Nat) (n : Nat) (q : PT h_48_26) : Rt s_48 := l_spec_l7Has_1 K q.1 q.2.1 n q.2.2.1
theorem e_48_26 (K : Nat) : AtL (x_48 K) (fun n => []) [] (bd Tryz.f218) 26 (M_48_26 K) := fun n q => by kernel_rfl
theorem xk_48 (K : Nat) : XF [.tmp 4] s_48 18 [] (x_48 K) := xkF gam_nil ov_nil
theorem k_48_26 (K : Nat) (n : Nat) : CF [.tmp 4] s_48 18 [] (bd Tryz.f218) [] 26 (ar h_48_26 (M_48_26 K n)) :=
 loopF (xk_48 K) (e_48_26 K) (fun n => cuts_nil) n
theorem sp_48 (K : Nat) : OkF 218 (c_48 K) :=
 ctrF (x := x_48 K) (L := [(26, ar h_48_26 (M_48_26 K K))]) (c0 := bd Tryz.f218) (xk_48 K) (by intro a0 a1; show @Eq _ _ _; kernel_rfl) (cuts_cons (k_48_26 K K) cuts_nil) Tryz.func218 trivial
def m_spec_l13Orphan (K : Nat) (a0 : List T_impl_Node) (a1 : Int) : Option (Bool) := (if (0 : Int) ≤ a1 ∧ a1 < (a0.length : Int) then (bif (((gt a0 a1).fSt) == 1) then (if (0 : Int) ≤ a1 ∧ a1 < (a0.length : Int) then (bif (((gt a0 a1).fUp) != 0) then ((m_spec_l9In K a0 a1).bind fun r1 => some (!r1)) else some false) else none) else some false) else none)
def s_49 : Sig := ⟨[.v 29, .v 3], [.v 4], true⟩
def c_49 (K : Nat) : Ctr tyU := ⟨s_49, m_spec_l13Orphan K⟩
def x_49 (K : Nat) := xF s_49 [(225, c_28 K)] [] 25 [10, 11, 17, 18, 19] [] [] [] [.tmp 4]
theorem sp_49 (K : Nat) : OkF 221 (c_49 K) :=
 ctrF (x := x_49 K) (L := []) (c0 := bd Tryz.f221) (xkF (gam_cons (sp_28 K) gam_nil) ov_nil) (by intro a0 a1; show @Eq _ _ _; kernel_rfl) cuts_nil Tryz.func221 trivial
def l_spec_KidsOf_1 (K : Nat) (a0 : List T_impl_Node) : Nat -> Int -> (List Int) -> Option ((List Int))
 | 0, _, _ => none
 | n1 + 1, v1, v2 => ((m_spec_l9Place K a0 v1).bind fun r3 => (bif r3 then (bif (decide ((v2.length : Int) < (a0.length : Int))) then (if (v2 ++ ([(iSub .i64 v1 1)] : List Int)).length * 8 ≤ 140737488355328 ∧ (v2 ++ ([(iSub .i64 v1 1)] : List Int)).length ≤ maxLen then (if (0 : Int) ≤ (iSub .i64 v1 1) ∧ (iSub .i64 v1 1) < (a0.length : Int) then (l_spec_KidsOf_1 K a0 n1 ((gt a0 (iSub .i64 v1 1)).fNext) (v2 ++ ([(iSub .i64 v1 1)] : List Int))) else none) else none) else some v2) else some v2))
def m_spec_KidsOf (K : Nat) (a0 : List T_impl_Node) (a1 : Int) : Option ((List Int)) := (l_spec_KidsOf_1 K a0 K a1 ([] : List Int))
def s_50 : Sig := ⟨[.v 29, .v 3], [.n 26 true], true⟩
def c_50 (K : Nat) : Ctr tyU := ⟨s_50, m_spec_KidsOf K⟩
def x_50 (K : Nat) := xF s_50 [(244, c_26 K)] [] 29 [9, 10] [] [] [] [.tmp 4]
def h_50_28 : Shape := ⟨[(0, .v 29), (1, .v 2), (5, .o 1005 3 true)], []⟩
def M_50_28 (K : Nat) (n : Nat) (q : PT h_50_28) : Rt s_50 := l_spec_KidsOf_1 K q.1 n q.2.1 q.2.2.1
theorem e_50_28 (K : Nat) : AtL (x_50 K) (fun n => []) [] (bd Tryz.f202) 28 (M_50_28 K) := fun n q => by kernel_rfl
theorem xk_50 (K : Nat) : XF [.tmp 4] s_50 29 [] (x_50 K) := xkF (gam_cons (sp_26 K) gam_nil) ov_nil
theorem k_50_28 (K : Nat) (n : Nat) : CF [.tmp 4] s_50 29 [] (bd Tryz.f202) [] 28 (ar h_50_28 (M_50_28 K n)) :=
 loopF (xk_50 K) (e_50_28 K) (fun n => cuts_nil) n
theorem sp_50 (K : Nat) : OkF 202 (c_50 K) :=
 ctrF (x := x_50 K) (L := [(28, ar h_50_28 (M_50_28 K K))]) (c0 := bd Tryz.f202) (xk_50 K) (by intro a0 a1; show @Eq _ _ _; kernel_rfl) (cuts_cons (k_50_28 K K) cuts_nil) Tryz.func202 trivial
def l_spec_l13Counts_5 (K : Nat) (v4 : Int) (v15 : List T_impl_Waste) (v20 : List Int) (v21 : Int) (C3 : (List Int) -> Int -> Option (Bool)) : Nat -> Int -> Option (Bool)
 | 0, _ => none
 | n5 + 1, v22 => (if (0 : Int) ≤ v4 ∧ v4 < (v15.length : Int) then (bif (decide (v22 < (((gt v15 v4).fChunks).length : Int))) then (if (0 : Int) ≤ v21 ∧ v21 < (v15.length : Int) then (if (0 : Int) ≤ v4 ∧ v4 < (v15.length : Int) then (if (0 : Int) ≤ v22 ∧ v22 < (((gt v15 v4).fChunks).length : Int) then ((m_spec_l7Has K ((gt v15 v21).fChunks) (gt ((gt v15 v4).fChunks) v22)).bind fun r23 => (bif r23 then some false else (l_spec_l13Counts_5 K v4 v15 v20 v21 C3 n5 (iAdd .i64 v22 1)))) else none) else none) else none) else (C3 v20 (iAdd .i64 v21 1))) else none)
def j_spec_l13Counts_4 (K : Nat) (v4 : Int) (v15 : List T_impl_Waste) (v20 : List Int) (v21 : Int) (C3 : (List Int) -> Int -> Option (Bool)) : Option (Bool) := (l_spec_l13Counts_5 K v4 v15 v20 v21 (C3) K 0)
def l_spec_l13Counts_3 (K : Nat) (v4 : Int) (v5 : Int) (v6 : Int) (v7 : Int) (v8 : Int) (v9 : Int) (v10 : Int) (v11 : List Int) (v12 : List Int) (v13 : List Int) (v14 : List T_impl_Node) (v15 : List T_impl_Waste) (v16 : List Int) (v17 : Int) (v18 : Int) (C1 : Int -> Int -> (List Int) -> Int -> Int -> Int -> Int -> Int -> Int -> Int -> (List Int) -> (List Int) -> (List Int) -> (List T_impl_Node) -> (List T_impl_Waste) -> (List Int) -> Option (Bool)) : Nat -> (List Int) -> Int -> Option (Bool)
 | 0, _, _ => none
 | n3 + 1, v20, v21 => (bif (decide (v21 < v4)) then (if (0 : Int) ≤ v4 ∧ v4 < (v15.length : Int) then (bif (((gt v15 v4).fSlot) != 0) then (if (0 : Int) ≤ v21 ∧ v21 < (v15.length : Int) then (if (0 : Int) ≤ v4 ∧ v4 < (v15.length : Int) then (bif (((gt v15 v21).fSlot) == ((gt v15 v4).fSlot)) then some false else (j_spec_l13Counts_4 K v4 v15 v20 v21 (l_spec_l13Counts_3 K v4 v5 v6 v7 v8 v9 v10 v11 v12 v13 v14 v15 v16 v17 v18 C1 n3))) else none) else none) else (j_spec_l13Counts_4 K v4 v15 v20 v21 (l_spec_l13Counts_3 K v4 v5 v6 v7 v8 v9 v10 v11 v12 v13 v14 v15 v16 v17 v18 C1 n3))) else none) else (C1 v17 v18 v20 (iAdd .i64 v4 1) v5 v6 v7 v8 v9 v10 v11 v12 v13 v14 v15 v16))
def j_spec_l13Counts_2 (K : Nat) (v3 : List Int) (v4 : Int) (v5 : Int) (v6 : Int) (v7 : Int) (v8 : Int) (v9 : Int) (v10 : Int) (v11 : List Int) (v12 : List Int) (v13 : List Int) (v14 : List T_impl_Node) (v15 : List T_impl_Waste) (v16 : List Int) (C1 : Int -> Int -> (List Int) -> Int -> Int -> Int -> Int -> Int -> Int -> Int -> (List Int) -> (List Int) -> (List Int) -> (List T_impl_Node) -> (List T_impl_Waste) -> (List Int) -> Option (Bool)) (v17 : Int) (v18 : Int) : Option (Bool) := (if (0 : Int) ≤ v4 ∧ v4 < (v15.length : Int) then ((m_spec_KidsOf K v14 ((gt v15 v4).fFirst)).bind fun r19 => (if (v3 ++ r19).length * 8 ≤ 140737488355328 ∧ (v3 ++ r19).length ≤ maxLen then (l_spec_l13Counts_3 K v4 v5 v6 v7 v8 v9 v10 v11 v12 v13 v14 v15 v16 v17 v18 (C1) K (v3 ++ r19) 0) else none)) else none)
def j_spec_l13Counts_7 (K : Nat) (v25 : Int) (C6 : Int -> Int -> Option (Bool)) (v27 : Int) : Option (Bool) := (C6 v27 (iAdd .i64 v25 1))
def l_spec_l13Counts_8 (K : Nat) (v1 : Int) (v2 : Int) (v3 : List Int) (v11 : List Int) (v12 : List Int) (v13 : List Int) (v14 : List T_impl_Node) (v24 : Int) : Nat -> Int -> Option (Bool)
 | 0, _ => none
 | n8 + 1, v28 => (bif (decide (v28 < (v3.length : Int))) then (if (0 : Int) ≤ 0 ∧ 0 ≤ v28 ∧ v28 ≤ (v3.length : Int) then (if (0 : Int) ≤ v28 ∧ v28 < (v3.length : Int) then ((m_spec_l7Has K ((v3.drop (0 : Int).toNat).take (v28 - 0).toNat) (gt v3 v28)).bind fun r29 => (bif r29 then some false else (l_spec_l13Counts_8 K v1 v2 v3 v11 v12 v13 v14 v24 n8 (iAdd .i64 v28 1)))) else none) else none) else ((m_spec_CountOf K (T_impl_Pool.mk v11 v12 v13) 2).bind fun r30 => (bif (v1 == r30) then ((m_spec_CountNodes K v14 2).bind fun r31 => (bif (v2 == r31) then some ((v3.length : Int) == v24) else some false)) else some false)))
def l_spec_l13Counts_6 (K : Nat) (v1 : Int) (v2 : Int) (v3 : List Int) (v11 : List Int) (v12 : List Int) (v13 : List Int) (v14 : List T_impl_Node) : Nat -> Int -> Int -> Option (Bool)
 | 0, _, _ => none
 | n6 + 1, v24, v25 => (bif (decide (v25 < (v14.length : Int))) then ((m_spec_l13Orphan K v14 v25).bind fun r26 => (bif r26 then (j_spec_l13Counts_7 K v25 (l_spec_l13Counts_6 K v1 v2 v3 v11 v12 v13 v14 n6) (iAdd .i64 v24 1)) else (j_spec_l13Counts_7 K v25 (l_spec_l13Counts_6 K v1 v2 v3 v11 v12 v13 v14 n6) v24))) else (l_spec_l13Counts_8 K v1 v2 v3 v11 v12 v13 v14 v24 K 0))
def l_spec_l13Counts_1 (K : Nat) : Nat -> Int -> Int -> (List Int) -> Int -> Int -> Int -> Int -> Int -> Int -> Int -> (List Int) -> (List Int) -> (List Int) -> (List T_impl_Node) -> (List T_impl_Waste) -> (List Int) -> Option (Bool)
 | 0, _, _, _, _, _, _, _, _, _, _, _, _, _, _, _, _ => none
 | n1 + 1, v1, v2, v3, v4, v5, v6, v7, v8, v9, v10, v11, v12, v13, v14, v15, v16 => (bif (decide (v4 < (v15.length : Int))) then (if (0 : Int) ≤ v4 ∧ v4 < (v15.length : Int) then (if (0 : Int) ≤ v4 ∧ v4 < (v15.length : Int) then (bif (((gt v15 v4).fSlot) != 0) then (j_spec_l13Counts_2 K v3 v4 v5 v6 v7 v8 v9 v10 v11 v12 v13 v14 v15 v16 (l_spec_l13Counts_1 K n1) (iAdd .i64 v1 (((gt v15 v4).fChunks).length : Int)) (iAdd .i64 v2 1)) else (j_spec_l13Counts_2 K v3 v4 v5 v6 v7 v8 v9 v10 v11 v12 v13 v14 v15 v16 (l_spec_l13Counts_1 K n1) (iAdd .i64 v1 (((gt v15 v4).fChunks).length : Int)) v2)) else none) else none) else (l_spec_l13Counts_6 K v1 v2 v3 v11 v12 v13 v14 K 0 0))
def m_spec_l13Counts (K : Nat) (a0 : T_impl_World) : Option (Bool) := (l_spec_l13Counts_1 K K 0 0 ([] : List Int) 0 a0.fC.fChunks a0.fC.fSize a0.fC.fSlots a0.fC.fTax a0.fC.fSlice a0.fC.fGens a0.fP.fMem a0.fP.fSt a0.fP.fOwn a0.fL a0.fQ a0.fLog)
def s_51 : Sig := ⟨[.v 32], [.v 4], true⟩
def c_51 (K : Nat) : Ctr tyU := ⟨s_51, m_spec_l13Counts K⟩
def x_51 (K : Nat) := xF s_51 [(202, c_50 K), (218, c_48 K), (221, c_49 K), (222, c_46 K), (223, c_47 K)] [] 148 [60, 61, 134, 135, 140, 141, 142] [] [] [4073, 8009, 2050532] [.tmp 2]
def h_51_16404262 : Shape := ⟨[(1, .p 101), (3, .v 2), (4, .v 2), (5, .o 1005 3 true), (6, .v 2), (7, .v 2), (8, .v 2)], [(101, .box [.v 2, .v 2, .v 2, .v 2, .v 2, .v 2, .v 22, .v 26, .v 26, .v 29, .v 30, .v 26])]⟩
def h_51_2050532 : Shape := ⟨[(1, .p 101), (3, .v 2), (4, .v 2), (5, .o 1005 3 true), (6, .v 2), (7, .v 2)], [(101, .box [.v 2, .v 2, .v 2, .v 2, .v 2, .v 2, .v 22, .v 26, .v 26, .v 29, .v 30, .v 26])]⟩
def h_51_128158 : Shape := ⟨[(1, .p 101), (3, .v 2), (4, .v 2), (5, .o 1005 3 true), (6, .v 2), (7, .v 2)], [(101, .box [.v 2, .v 2, .v 2, .v 2, .v 2, .v 2, .v 22, .v 26, .v 26, .v 29, .v 30, .v 26])]⟩
def h_51_8009 : Shape := ⟨[(1, .p 101), (3, .v 2), (4, .v 2), (5, .o 1005 3 true), (6, .v 2)], [(101, .box [.v 2, .v 2, .v 2, .v 2, .v 2, .v 2, .v 22, .v 26, .v 26, .v 29, .v 30, .v 26])]⟩
def h_51_4073 : Shape := ⟨[(1, .p 101), (3, .v 2), (4, .v 2), (5, .o 1005 3 true), (9, .v 2), (10, .v 2)], [(101, .box [.v 2, .v 2, .v 2, .v 2, .v 2, .v 2, .v 22, .v 26, .v 26, .v 29, .v 30, .v 26])]⟩
def h_51_2042 : Shape := ⟨[(1, .p 101), (3, .v 2), (4, .v 2), (5, .o 1005 3 true), (9, .v 2), (11, .v 2)], [(101, .box [.v 2, .v 2, .v 2, .v 2, .v 2, .v 2, .v 22, .v 26, .v 26, .v 29, .v 30, .v 26])]⟩
def h_51_1018 : Shape := ⟨[(1, .p 101), (3, .v 2), (4, .v 2), (5, .o 1005 3 true), (9, .v 2), (10, .v 2)], [(101, .box [.v 2, .v 2, .v 2, .v 2, .v 2, .v 2, .v 22, .v 26, .v 26, .v 29, .v 30, .v 26])]⟩
def h_51_250 : Shape := ⟨[(1, .p 101), (3, .v 2), (4, .v 2), (5, .o 1005 3 true), (6, .v 2)], [(101, .box [.v 2, .v 2, .v 2, .v 2, .v 2, .v 2, .v 22, .v 26, .v 26, .v 29, .v 30, .v 26])]⟩
def M_51_16404262 (K : Nat) (C250 : CT h_51_250 s_51) (C128158 : CT h_51_128158 s_51) (n : Nat) (q : PT h_51_16404262) : Rt s_51 := l_spec_l13Counts_5 K q.2.2.2.1 q.2.2.2.2.2.2.2.2.2.2.2.2.2.2.2.2.1 q.2.2.1 q.2.2.2.2.1 (fun v20 v21 => C128158 (q.1, q.2.1, v20, q.2.2.2.1, v21, q.2.2.2.2.2.2.1, q.2.2.2.2.2.2.2.1, q.2.2.2.2.2.2.2.2.1, q.2.2.2.2.2.2.2.2.2.1, q.2.2.2.2.2.2.2.2.2.2.1, q.2.2.2.2.2.2.2.2.2.2.2.1, q.2.2.2.2.2.2.2.2.2.2.2.2.1, q.2.2.2.2.2.2.2.2.2.2.2.2.2.1, q.2.2.2.2.2.2.2.2.2.2.2.2.2.2.1, q.2.2.2.2.2.2.2.2.2.2.2.2.2.2.2.1, q.2.2.2.2.2.2.2.2.2.2.2.2.2.2.2.2.1, q.2.2.2.2.2.2.2.2.2.2.2.2.2.2.2.2.2.1, ())) n q.2.2.2.2.2.1
def M_51_2050532 (K : Nat) (C250 : CT h_51_250 s_51) (C128158 : CT h_51_128158 s_51) (q : PT h_51_2050532) : Rt s_51 := j_spec_l13Counts_4 K q.2.2.2.1 q.2.2.2.2.2.2.2.2.2.2.2.2.2.2.2.1 q.2.2.1 q.2.2.2.2.1 (fun v20 v21 => C128158 (q.1, q.2.1, v20, q.2.2.2.1, v21, q.2.2.2.2.2.1, q.2.2.2.2.2.2.1, q.2.2.2.2.2.2.2.1, q.2.2.2.2.2.2.2.2.1, q.2.2.2.2.2.2.2.2.2.1, q.2.2.2.2.2.2.2.2.2.2.1, q.2.2.2.2.2.2.2.2.2.2.2.1, q.2.2.2.2.2.2.2.2.2.2.2.2.1, q.2.2.2.2.2.2.2.2.2.2.2.2.2.1, q.2.2.2.2.2.2.2.2.2.2.2.2.2.2.1, q.2.2.2.2.2.2.2.2.2.2.2.2.2.2.2.1, q.2.2.2.2.2.2.2.2.2.2.2.2.2.2.2.2.1, ()))
def M_51_128158 (K : Nat) (C250 : CT h_51_250 s_51) (n : Nat) (q : PT h_51_128158) : Rt s_51 := l_spec_l13Counts_3 K q.2.2.2.1 q.2.2.2.2.2.1 q.2.2.2.2.2.2.1 q.2.2.2.2.2.2.2.1 q.2.2.2.2.2.2.2.2.1 q.2.2.2.2.2.2.2.2.2.1 q.2.2.2.2.2.2.2.2.2.2.1 q.2.2.2.2.2.2.2.2.2.2.2.1 q.2.2.2.2.2.2.2.2.2.2.2.2.1 q.2.2.2.2.2.2.2.2.2.2.2.2.2.1 q.2.2.2.2.2.2.2.2.2.2.2.2.2.2.1 q.2.2.2.2.2.2.2.2.2.2.2.2.2.2.2.1 q.2.2.2.2.2.2.2.2.2.2.2.2.2.2.2.2.1 q.1 q.2.1 (fun v1 v2 v3 v4 v5 v6 v7 v8 v9 v10 v11 v12 v13 v14 v15 v16 => C250 (v1, v2, v3, v4, v5, v6, v7, v8, v9, v10, v11, v12, v13, v14, v15, v16, ())) n q.2.2.1 q.2.2.2.2.1
def M_51_8009 (K : Nat) (C250 : CT h_51_250 s_51) (q : PT h_51_8009) : Rt s_51 := j_spec_l13Counts_2 K q.2.2.1 q.2.2.2.1 q.2.2.2.2.1 q.2.2.2.2.2.1 q.2.2.2.2.2.2.1 q.2.2.2.2.2.2.2.1 q.2.2.2.2.2.2.2.2.1 q.2.2.2.2.2.2.2.2.2.1 q.2.2.2.2.2.2.2.2.2.2.1 q.2.2.2.2.2.2.2.2.2.2.2.1 q.2.2.2.2.2.2.2.2.2.2.2.2.1 q.2.2.2.2.2.2.2.2.2.2.2.2.2.1 q.2.2.2.2.2.2.2.2.2.2.2.2.2.2.1 q.2.2.2.2.2.2.2.2.2.2.2.2.2.2.2.1 (fun v1 v2 v3 v4 v5 v6 v7 v8 v9 v10 v11 v12 v13 v14 v15 v16 => C250 (v1, v2, v3, v4, v5, v6, v7, v8, v9, v10, v11, v12, v13, v14, v15, v16, ())) q.1 q.2.1
def M_51_4073 (K : Nat) (C1018 : CT h_51_1018 s_51) (q : PT h_51_4073) : Rt s_51 := j_spec_l13Counts_7 K q.2.2.2.2.1 (fun v24 v25 => C1018 (q.1, q.2.1, q.2.2.1, v24, v25, q.2.2.2.2.2.1, q.2.2.2.2.2.2.1, q.2.2.2.2.2.2.2.1, q.2.2.2.2.2.2.2.2.1, q.2.2.2.2.2.2.2.2.2.1, q.2.2.2.2.2.2.2.2.2.2.1, q.2.2.2.2.2.2.2.2.2.2.2.1, q.2.2.2.2.2.2.2.2.2.2.2.2.1, q.2.2.2.2.2.2.2.2.2.2.2.2.2.1, q.2.2.2.2.2.2.2.2.2.2.2.2.2.2.1, q.2.2.2.2.2.2.2.2.2.2.2.2.2.2.2.1, q.2.2.2.2.2.2.2.2.2.2.2.2.2.2.2.2.1, ())) q.2.2.2.1
def M_51_2042 (K : Nat) (n : Nat) (q : PT h_51_2042) : Rt s_51 := l_spec_l13Counts_8 K q.1 q.2.1 q.2.2.1 q.2.2.2.2.2.2.2.2.2.2.2.1 q.2.2.2.2.2.2.2.2.2.2.2.2.1 q.2.2.2.2.2.2.2.2.2.2.2.2.2.1 q.2.2.2.2.2.2.2.2.2.2.2.2.2.2.1 q.2.2.2.1 n q.2.2.2.2.1
def M_51_1018 (K : Nat) (n : Nat) (q : PT h_51_1018) : Rt s_51 := l_spec_l13Counts_6 K q.1 q.2.1 q.2.2.1 q.2.2.2.2.2.2.2.2.2.2.2.1 q.2.2.2.2.2.2.2.2.2.2.2.2.1 q.2.2.2.2.2.2.2.2.2.2.2.2.2.1 q.2.2.2.2.2.2.2.2.2.2.2.2.2.2.1 n q.2.2.2.1 q.2.2.2.2.1
def M_51_250 (K : Nat) (n : Nat) (q : PT h_51_250) : Rt s_51 := l_spec_l13Counts_1 K n q.1 q.2.1 q.2.2.1 q.2.2.2.1 q.2.2.2.2.1 q.2.2.2.2.2.1 q.2.2.2.2.2.2.1 q.2.2.2.2.2.2.2.1 q.2.2.2.2.2.2.2.2.1 q.2.2.2.2.2.2.2.2.2.1 q.2.2.2.2.2.2.2.2.2.2.1 q.2.2.2.2.2.2.2.2.2.2.2.1 q.2.2.2.2.2.2.2.2.2.2.2.2.1 q.2.2.2.2.2.2.2.2.2.2.2.2.2.1 q.2.2.2.2.2.2.2.2.2.2.2.2.2.2.1 q.2.2.2.2.2.2.2.2.2.2.2.2.2.2.2.1
theorem e_51_16404262 (K : Nat) (C250 : CT h_51_250 s_51) (C128158 : CT h_51_128158 s_51) : AtL (x_51 K) (fun n => []) [(128158, ar h_51_128158 C128158), (250, ar h_51_250 C250)] (bd Tryz.f148) 16404262 (M_51_16404262 K C250 C128158) := fun n q => by kernel_rfl
theorem e_51_2050532 (K : Nat) (C250 : CT h_51_250 s_51) (C128158 : CT h_51_128158 s_51) : AtJ (x_51 K) [(16404262, ar h_51_16404262 (M_51_16404262 K C250 C128158 K))] [(128158, ar h_51_128158 C128158), (250, ar h_51_250 C250)] (bd Tryz.f148) 2050532 (M_51_2050532 K C250 C128158) := fun q => by kernel_rfl
theorem e_51_128158 (K : Nat) (C250 : CT h_51_250 s_51) : AtL (x_51 K) (fun n => [(2050532, ar h_51_2050532 (M_51_2050532 K C250 (M_51_128158 K C250 n)))]) [(250, ar h_51_250 C250)] (bd Tryz.f148) 128158 (M_51_128158 K C250) := fun n q => by kernel_rfl
theorem e_51_8009 (K : Nat) (C250 : CT h_51_250 s_51) : AtJ (x_51 K) [(128158, ar h_51_128158 (M_51_128158 K C250 K))] [(250, ar h_51_250 C250)] (bd Tryz.f148) 8009 (M_51_8009 K C250) := fun q => by kernel_rfl
theorem e_51_4073 (K : Nat) (C1018 : CT h_51_1018 s_51) : AtJ (x_51 K) [] [(1018, ar h_51_1018 C1018)] (bd Tryz.f148) 4073 (M_51_4073 K C1018) := fun q => by kernel_rfl
theorem e_51_2042 (K : Nat) : AtL (x_51 K) (fun n => []) [] (bd Tryz.f148) 2042 (M_51_2042 K) := fun n q => by kernel_rfl
theorem e_51_1018 (K : Nat) : AtL (x_51 K) (fun n => [(4073, ar h_51_4073 (M_51_4073 K (M_51_1018 K n))), (2042, ar h_51_2042 (M_51_2042 K K))]) [] (bd Tryz.f148) 1018 (M_51_1018 K) := fun n q => by kernel_rfl
theorem e_51_250 (K : Nat) : AtL (x_51 K) (fun n => [(8009, ar h_51_8009 (M_51_8009 K (M_51_250 K n))), (1018, ar h_51_1018 (M_51_1018 K K))]) [] (bd Tryz.f148) 250 (M_51_250 K) := fun n q => by kernel_rfl
theorem xk_51 (K : Nat) : XF [.tmp 2] s_51 148 [4073, 8009, 2050532] (x_51 K) := xkF (gam_cons (sp_50 K) (gam_cons (sp_48 K) (gam_cons (sp_49 K) (gam_cons (sp_46 K) (gam_cons (sp_47 K) gam_nil))))) ov_nil
theorem k_51_16404262 (K : Nat) (C250 : CT h_51_250 s_51) (C128158 : CT h_51_128158 s_51) (n : Nat) : CF [.tmp 2] s_51 148 [4073, 8009, 2050532] (bd Tryz.f148) [(128158, ar h_51_128158 C128158), (250, ar h_51_250 C250)] 16404262 (ar h_51_16404262 (M_51_16404262 K C250 C128158 n)) :=
 loopF (xk_51 K) (e_51_16404262 K C250 C128158) (fun n => cuts_nil) n
theorem k_51_2050532 (K : Nat) (C250 : CT h_51_250 s_51) (C128158 : CT h_51_128158 s_51) : CF [.tmp 2] s_51 148 [4073, 8009, 2050532] (bd Tryz.f148) [(128158, ar h_51_128158 C128158), (250, ar h_51_250 C250)] 2050532 (ar h_51_2050532 (M_51_2050532 K C250 C128158)) :=
 joinF (xk_51 K) (e_51_2050532 K C250 C128158) (cuts_cons (k_51_16404262 K C250 C128158 K) cuts_nil)
theorem k_51_128158 (K : Nat) (C250 : CT h_51_250 s_51) (n : Nat) : CF [.tmp 2] s_51 148 [4073, 8009, 2050532] (bd Tryz.f148) [(250, ar h_51_250 C250)] 128158 (ar h_51_128158 (M_51_128158 K C250 n)) :=
 loopF (xk_51 K) (e_51_128158 K C250) (fun n => (cuts_cons (k_51_2050532 K C250 (M_51_128158 K C250 n)) cuts_nil)) n
theorem k_51_8009 (K : Nat) (C250 : CT h_51_250 s_51) : CF [.tmp 2] s_51 148 [4073, 8009, 2050532] (bd Tryz.f148) [(250, ar h_51_250 C250)] 8009 (ar h_51_8009 (M_51_8009 K C250)) :=
 joinF (xk_51 K) (e_51_8009 K C250) (cuts_cons (k_51_128158 K C250 K) cuts_nil)
theorem k_51_4073 (K : Nat) (C1018 : CT h_51_1018 s_51) : CF [.tmp 2] s_51 148 [4073, 8009, 2050532] (bd Tryz.f148) [(1018, ar h_51_1018 C1018)] 4073 (ar h_51_4073 (M_51_4073 K C1018)) :=
 joinF (xk_51 K) (e_51_4073 K C1018) cuts_nil
theorem k_51_2042 (K : Nat) (n : Nat) : CF [.tmp 2] s_51 148 [4073, 8009, 2050532] (bd Tryz.f148) [] 2042 (ar h_51_2042 (M_51_2042 K n)) :=
 loopF (xk_51 K) (e_51_2042 K) (fun n => cuts_nil) n
theorem k_51_1018 (K : Nat) (n : Nat) : CF [.tmp 2] s_51 148 [4073, 8009, 2050532] (bd Tryz.f148) [] 1018 (ar h_51_1018 (M_51_1018 K n)) :=
 loopF (xk_51 K) (e_51_1018 K) (fun n => (cuts_cons (k_51_4073 K (M_51_1018 K n)) (cuts_cons (cut_up (by kernel_rfl) (k_51_2042 K K)) cuts_nil))) n
theorem k_51_250 (K : Nat) (n : Nat) : CF [.tmp 2] s_51 148 [4073, 8009, 2050532] (bd Tryz.f148) [] 250 (ar h_51_250 (M_51_250 K n)) :=
 loopF (xk_51 K) (e_51_250 K) (fun n => (cuts_cons (k_51_8009 K (M_51_250 K n)) (cuts_cons (cut_up (by kernel_rfl) (k_51_1018 K K)) cuts_nil))) n
theorem sp_51 (K : Nat) : OkF 148 (c_51 K) :=
 ctrF (x := x_51 K) (L := [(250, ar h_51_250 (M_51_250 K K))]) (c0 := bd Tryz.f148) (xk_51 K) (by intro a0; show @Eq _ _ _; kernel_rfl) (cuts_cons (k_51_250 K K) cuts_nil) Tryz.func148 trivial
def l_spec_WasteOk_3 (K : Nat) (a0 : T_impl_Conf) (v8 : List Int) : Nat -> Int -> Option (Bool)
 | 0, _ => none
 | n3 + 1, v12 => (bif (decide (v12 < (v8.length : Int))) then (if (0 : Int) ≤ v12 ∧ v12 < (v8.length : Int) then ((m_spec_l1In K (gt v8 v12) 0 (iSub .i64 a0.fChunks 1)).bind fun r13 => (bif r13 then (if (0 : Int) ≤ 0 ∧ 0 ≤ v12 ∧ v12 ≤ (v8.length : Int) then (if (0 : Int) ≤ v12 ∧ v12 < (v8.length : Int) then ((m_spec_l7Has K ((v8.drop (0 : Int).toNat).take (v12 - 0).toNat) (gt v8 v12)).bind fun r14 => (bif r14 then some false else (l_spec_WasteOk_3 K a0 v8 n3 (iAdd .i64 v12 1)))) else none) else none) else some false)) else none) else some true)
def l_spec_WasteOk_2 (K : Nat) (a0 : T_impl_Conf) (v7 : List Int) (v8 : List Int) : Nat -> Int -> Option (Bool)
 | 0, _ => none
 | n2 + 1, v10 => (bif (decide (v10 < (v7.length : Int))) then (if (0 : Int) ≤ v10 ∧ v10 < (v7.length : Int) then ((m_spec_l1In K (gt v7 v10) 0 255).bind fun r11 => (bif (!r11) then some false else (l_spec_WasteOk_2 K a0 v7 v8 n2 (iAdd .i64 v10 1)))) else none) else (l_spec_WasteOk_3 K a0 v8 K 0))
def j_spec_WasteOk_1 (K : Nat) (a0 : T_impl_Conf) (v5 : Int) (v6 : Int) (v7 : List Int) (v8 : List Int) (v9 : Int) : Option (Bool) := (l_spec_WasteOk_2 K a0 v7 v8 K 0)
def m_spec_WasteOk (K : Nat) (a0 : T_impl_Conf) (a1 : T_impl_Waste) : Option (Bool) := ((m_spec_ConfOk K a0).bind fun r1 => (bif r1 then ((m_spec_l1In K a1.fSlot 0 a0.fSlots).bind fun r2 => (bif r2 then ((m_spec_l1In K a1.fFirst 0 a0.fSlots).bind fun r3 => (bif r3 then (bif (decide ((a1.fTags.length : Int) > 6)) then some false else ((m_spec_l1In K a1.fDone 0 (iSub .i64 a0.fSize 1)).bind fun r4 => (bif r4 then (bif ((a1.fChunks.length : Int) == 0) then (bif (a1.fDone != 0) then some false else (j_spec_WasteOk_1 K a0 a1.fSlot a1.fFirst a1.fTags a1.fChunks a1.fDone)) else (j_spec_WasteOk_1 K a0 a1.fSlot a1.fFirst a1.fTags a1.fChunks a1.fDone)) else some false))) else some false)) else some false)) else some false))
def s_52 : Sig := ⟨[.v 25, .v 159], [.v 4], true⟩
def c_52 (K : Nat) : Ctr tyU := ⟨s_52, m_spec_WasteOk K⟩
def x_52 (K : Nat) := xF s_52 [(84, c_24 K), (210, c_39 K), (218, c_48 K)] [] 95 [8, 9, 10, 15, 16, 17, 18, 23, 24, 25, 26, 30, 31, 32, 38, 39, 40, 41, 45, 46, 81, 82, 83] [] [] [3] [.tmp 4]
def h_52_122 : Shape := ⟨[(2, .p 102), (3, .p 103), (6, .v 2)], [(103, .box [.v 2, .v 2, .v 26, .v 26, .v 2]), (102, .st 25 true)]⟩
def h_52_58 : Shape := ⟨[(2, .p 102), (3, .p 103), (5, .v 2)], [(103, .box [.v 2, .v 2, .v 26, .v 26, .v 2]), (102, .st 25 true)]⟩
def h_52_3 : Shape := ⟨[(2, .p 102), (3, .p 103)], [(103, .box [.v 2, .v 2, .v 26, .v 26, .v 2]), (102, .st 25 true)]⟩
def M_52_122 (K : Nat) (n : Nat) (q : PT h_52_122) : Rt s_52 := l_spec_WasteOk_3 K q.2.2.2.2.2.2.1 q.2.2.2.2.1 n q.1
def M_52_58 (K : Nat) (n : Nat) (q : PT h_52_58) : Rt s_52 := l_spec_WasteOk_2 K q.2.2.2.2.2.2.1 q.2.2.2.1 q.2.2.2.2.1 n q.1
def M_52_3 (K : Nat) (q : PT h_52_3) : Rt s_52 := j_spec_WasteOk_1 K q.2.2.2.2.2.1 q.1 q.2.1 q.2.2.1 q.2.2.2.1 q.2.2.2.2.1
theorem e_52_122 (K : Nat) : AtL (x_52 K) (fun n => []) [] (bd Tryz.f220) 122 (M_52_122 K) := fun n q => by kernel_rfl
theorem e_52_58 (K : Nat) : AtL (x_52 K) (fun n => [(122, ar h_52_122 (M_52_122 K K))]) [] (bd Tryz.f220) 58 (M_52_58 K) := fun n q => by kernel_rfl
theorem e_52_3 (K : Nat) : AtJ (x_52 K) [(58, ar h_52_58 (M_52_58 K K))] [] (bd Tryz.f220) 3 (M_52_3 K) := fun q => by kernel_rfl
theorem xk_52 (K : Nat) : XF [.tmp 4] s_52 95 [3] (x_52 K) := xkF (gam_cons (sp_24 K) (gam_cons (sp_39 K) (gam_cons (sp_48 K) gam_nil))) ov_nil
theorem k_52_122 (K : Nat) (n : Nat) : CF [.tmp 4] s_52 95 [3] (bd Tryz.f220) [] 122 (ar h_52_122 (M_52_122 K n)) :=
 loopF (xk_52 K) (e_52_122 K) (fun n => cuts_nil) n
theorem k_52_58 (K : Nat) (n : Nat) : CF [.tmp 4] s_52 95 [3] (bd Tryz.f220) [] 58 (ar h_52_58 (M_52_58 K n)) :=
 loopF (xk_52 K) (e_52_58 K) (fun n => (cuts_cons (cut_up (by kernel_rfl) (k_52_122 K K)) cuts_nil)) n
theorem k_52_3 (K : Nat) : CF [.tmp 4] s_52 95 [3] (bd Tryz.f220) [] 3 (ar h_52_3 (M_52_3 K)) :=
 joinF (xk_52 K) (e_52_3 K) (cuts_cons (k_52_58 K K) cuts_nil)
theorem sp_52 (K : Nat) : OkF 220 (c_52 K) :=
 ctrF (x := x_52 K) (L := [(3, ar h_52_3 (M_52_3 K))]) (c0 := bd Tryz.f220) (xk_52 K) (by intro a0 a1; show @Eq _ _ _; kernel_rfl) (cuts_cons (k_52_3 K) cuts_nil) Tryz.func220 trivial
def l_spec_l13Waste_4 (K : Nat) (v17 : List T_impl_Node) (r21 : (List Int)) : Nat -> Int -> Option (Bool)
 | 0, _ => none
 | n4 + 1, v22 => (bif (decide (v22 < (r21.length : Int))) then (if (0 : Int) ≤ v22 ∧ v22 < (r21.length : Int) then ((m_spec_l13Orphan K v17 (gt r21 v22)).bind fun r23 => (bif (!r23) then some false else (l_spec_l13Waste_4 K v17 r21 n4 (iAdd .i64 v22 1)))) else none) else some true)
def j_spec_l13Waste_3 (K : Nat) (v4 : Int) (v17 : List T_impl_Node) : Option (Bool) := ((m_spec_KidsOf K v17 v4).bind fun r21 => (l_spec_l13Waste_4 K v17 r21 K 0))
def j_spec_l13Waste_2 (K : Nat) (v3 : Int) (v4 : Int) (v17 : List T_impl_Node) : Option (Bool) := (bif (v3 != 0) then (if (0 : Int) ≤ (iSub .i64 v3 1) ∧ (iSub .i64 v3 1) < (v17.length : Int) then (bif (((gt v17 (iSub .i64 v3 1)).fSt) != 2) then some false else (bif (v4 != 0) then (if (0 : Int) ≤ (iSub .i64 v4 1) ∧ (iSub .i64 v4 1) < (v17.length : Int) then (bif (((gt v17 (iSub .i64 v4 1)).fPrev) != 0) then some false else (j_spec_l13Waste_3 K v4 v17)) else none) else (j_spec_l13Waste_3 K v4 v17))) else none) else (bif (v4 != 0) then (if (0 : Int) ≤ (iSub .i64 v4 1) ∧ (iSub .i64 v4 1) < (v17.length : Int) then (bif (((gt v17 (iSub .i64 v4 1)).fPrev) != 0) then some false else (j_spec_l13Waste_3 K v4 v17)) else none) else (j_spec_l13Waste_3 K v4 v17)))
def l_spec_l13Waste_1 (K : Nat) : Nat -> Int -> Int -> Int -> (List Int) -> (List Int) -> Int -> Int -> Int -> Int -> Int -> Int -> Int -> (List Int) -> (List Int) -> (List Int) -> (List T_impl_Node) -> (List T_impl_Waste) -> (List Int) -> Option (Bool)
 | 0, _, _, _, _, _, _, _, _, _, _, _, _, _, _, _, _, _, _ => none
 | n1 + 1, v2, v3, v4, v5, v6, v7, v8, v9, v10, v11, v12, v13, v14, v15, v16, v17, v18, v19 => (bif (decide (v2 < (v6.length : Int))) then (if (0 : Int) ≤ v2 ∧ v2 < (v6.length : Int) then (if (0 : Int) ≤ (gt v6 v2) ∧ (gt v6 v2) < (v15.length : Int) then (bif ((gt v15 (gt v6 v2)) != 2) then some false else (l_spec_l13Waste_1 K n1 (iAdd .i64 v2 1) v3 v4 v5 v6 v7 v8 v9 v10 v11 v12 v13 v14 v15 v16 v17 v18 v19)) else none) else none) else (bif (decide ((v6.length : Int) > 0)) then (if (0 : Int) ≤ 0 ∧ 0 < (v6.length : Int) then (if (0 : Int) ≤ 0 ∧ 0 < (v6.length : Int) then (if (0 : Int) ≤ (iMul .i64 (gt v6 0) v9) ∧ (iMul .i64 (gt v6 0) v9) ≤ (iAdd .i64 (iMul .i64 (gt v6 0) v9) v7) ∧ (iAdd .i64 (iMul .i64 (gt v6 0) v9) v7) ≤ (v14.length : Int) then ((m_spec_IsZero K ((v14.drop (iMul .i64 (gt v6 0) v9).toNat).take ((iAdd .i64 (iMul .i64 (gt v6 0) v9) v7) - (iMul .i64 (gt v6 0) v9)).toNat)).bind fun r20 => (bif (!r20) then some false else (j_spec_l13Waste_2 K v3 v4 v17))) else none) else none) else none) else (j_spec_l13Waste_2 K v3 v4 v17)))
def m_spec_l13Waste (K : Nat) (a0 : T_impl_World) (a1 : Int) : Option (Bool) := (if (0 : Int) ≤ a1 ∧ a1 < (a0.fQ.length : Int) then ((m_spec_WasteOk K a0.fC (gt a0.fQ a1)).bind fun r1 => (bif (!r1) then some false else (l_spec_l13Waste_1 K K 0 ((gt a0.fQ a1).fSlot) ((gt a0.fQ a1).fFirst) ((gt a0.fQ a1).fTags) ((gt a0.fQ a1).fChunks) ((gt a0.fQ a1).fDone) a0.fC.fChunks a0.fC.fSize a0.fC.fSlots a0.fC.fTax a0.fC.fSlice a0.fC.fGens a0.fP.fMem a0.fP.fSt a0.fP.fOwn a0.fL a0.fQ a0.fLog))) else none)
def s_53 : Sig := ⟨[.v 32, .v 3], [.v 4], true⟩
def c_53 (K : Nat) : Ctr tyU := ⟨s_53, m_spec_l13Waste K⟩
def x_53 (K : Nat) := xF s_53 [(202, c_50 K), (212, c_41 K), (220, c_52 K), (221, c_49 K)] [] 117 [40, 41, 70, 71, 80, 81, 82, 85, 86] [] [] [31, 63] [.tmp 4]
def h_53_2042 : Shape := ⟨[(2, .p 102), (7, .v 26), (8, .v 2)], [(102, .box [.v 2, .v 2, .v 2, .v 2, .v 2, .v 2, .v 22, .v 26, .v 26, .v 29, .v 30, .v 26])]⟩
def h_53_63 : Shape := ⟨[(2, .p 102), (5, .p 105)], [(105, .box [.v 2, .v 2, .v 26, .v 26, .v 2]), (102, .box [.v 2, .v 2, .v 2, .v 2, .v 2, .v 2, .v 22, .v 26, .v 26, .v 29, .v 30, .v 26])]⟩
def h_53_31 : Shape := ⟨[(2, .p 102), (5, .p 105)], [(105, .box [.v 2, .v 2, .v 26, .v 26, .v 2]), (102, .box [.v 2, .v 2, .v 2, .v 2, .v 2, .v 2, .v 22, .v 26, .v 26, .v 29, .v 30, .v 26])]⟩
def h_53_122 : Shape := ⟨[(2, .p 102), (5, .p 105), (6, .v 2)], [(105, .box [.v 2, .v 2, .v 26, .v 26, .v 2]), (102, .box [.v 2, .v 2, .v 2, .v 2, .v 2, .v 2, .v 22, .v 26, .v 26, .v 29, .v 30, .v 26])]⟩
def M_53_2042 (K : Nat) (n : Nat) (q : PT h_53_2042) : Rt s_53 := l_spec_l13Waste_4 K q.2.2.2.2.2.2.2.2.2.2.2.1 q.1 n q.2.1
def M_53_63 (K : Nat) (q : PT h_53_63) : Rt s_53 := j_spec_l13Waste_3 K q.2.1 q.2.2.2.2.2.2.2.2.2.2.2.2.2.2.1
def M_53_31 (K : Nat) (q : PT h_53_31) : Rt s_53 := j_spec_l13Waste_2 K q.1 q.2.1 q.2.2.2.2.2.2.2.2.2.2.2.2.2.2.1
def M_53_122 (K : Nat) (n : Nat) (q : PT h_53_122) : Rt s_53 := l_spec_l13Waste_1 K n q.1 q.2.1 q.2.2.1 q.2.2.2.1 q.2.2.2.2.1 q.2.2.2.2.2.1 q.2.2.2.2.2.2.1 q.2.2.2.2.2.2.2.1 q.2.2.2.2.2.2.2.2.1 q.2.2.2.2.2.2.2.2.2.1 q.2.2.2.2.2.2.2.2.2.2.1 q.2.2.2.2.2.2.2.2.2.2.2.1 q.2.2.2.2.2.2.2.2.2.2.2.2.1 q.2.2.2.2.2.2.2.2.2.2.2.2.2.1 q.2.2.2.2.2.2.2.2.2.2.2.2.2.2.1 q.2.2.2.2.2.2.2.2.2.2.2.2.2.2.2.1 q.2.2.2.2.2.2.2.2.2.2.2.2.2.2.2.2.1 q.2.2.2.2.2.2.2.2.2.2.2.2.2.2.2.2.2.1
theorem e_53_2042 (K : Nat) : AtL (x_53 K) (fun n => []) [] (bd Tryz.f147) 2042 (M_53_2042 K) := fun n q => by kernel_rfl
theorem e_53_63 (K : Nat) : AtJ (x_53 K) [(2042, ar h_53_2042 (M_53_2042 K K))] [] (bd Tryz.f147) 63 (M_53_63 K) := fun q => by kernel_rfl
theorem e_53_31 (K : Nat) : AtJ (x_53 K) [(63, ar h_53_63 (M_53_63 K))] [] (bd Tryz.f147) 31 (M_53_31 K) := fun q => by kernel_rfl
theorem e_53_122 (K : Nat) : AtL (x_53 K) (fun n => [(31, ar h_53_31 (M_53_31 K))]) [] (bd Tryz.f147) 122 (M_53_122 K) := fun n q => by kernel_rfl
theorem xk_53 (K : Nat) : XF [.tmp 4] s_53 117 [31, 63] (x_53 K) := xkF (gam_cons (sp_50 K) (gam_cons (sp_41 K) (gam_cons (sp_52 K) (gam_cons (sp_49 K) gam_nil)))) ov_nil
theorem k_53_2042 (K : Nat) (n : Nat) : CF [.tmp 4] s_53 117 [31, 63] (bd Tryz.f147) [] 2042 (ar h_53_2042 (M_53_2042 K n)) :=
 loopF (xk_53 K) (e_53_2042 K) (fun n => cuts_nil) n
theorem k_53_63 (K : Nat) : CF [.tmp 4] s_53 117 [31, 63] (bd Tryz.f147) [] 63 (ar h_53_63 (M_53_63 K)) :=
 joinF (xk_53 K) (e_53_63 K) (cuts_cons (k_53_2042 K K) cuts_nil)
theorem k_53_31 (K : Nat) : CF [.tmp 4] s_53 117 [31, 63] (bd Tryz.f147) [] 31 (ar h_53_31 (M_53_31 K)) :=
 joinF (xk_53 K) (e_53_31 K) (cuts_cons (k_53_63 K) cuts_nil)
theorem k_53_122 (K : Nat) (n : Nat) : CF [.tmp 4] s_53 117 [31, 63] (bd Tryz.f147) [] 122 (ar h_53_122 (M_53_122 K n)) :=
 loopF (xk_53 K) (e_53_122 K) (fun n => (cuts_cons (cut_up (by kernel_rfl) (k_53_31 K)) cuts_nil)) n
theorem sp_53 (K : Nat) : OkF 147 (c_53 K) :=
 ctrF (x := x_53 K) (L := [(122, ar h_53_122 (M_53_122 K K))]) (c0 := bd Tryz.f147) (xk_53 K) (by intro a0 a1; show @Eq _ _ _; kernel_rfl) (cuts_cons (k_53_122 K K) cuts_nil) Tryz.func147 trivial
def m_spec_Bare (K : Nat) (a0 : T_impl_Node) : Option (Bool) := (bif (a0.fEp == 0) then (bif (a0.fUp == 0) then (bif (a0.fUpEp == 0) then (bif (a0.fFirst == 0) then (bif (a0.fNext == 0) then (bif (a0.fPrev == 0) then (bif ((a0.fChunks.length : Int) == 0) then (bif (a0.fCur == 0) then (bif (a0.fBump == 0) then (bif ((a0.fThings.length : Int) == 0) then some ((a0.fTags.length : Int) == 0) else some false) else some false) else some false) else some false) else some false) else some false) else some false) else some false) else some false) else some false)
def s_54 : Sig := ⟨[.v 44], [.v 4], true⟩
def c_54 (K : Nat) : Ctr tyU := ⟨s_54, m_spec_Bare K⟩
def x_54 (K : Nat) := xF s_54 [] [] 59 [5, 6, 9, 10, 11, 14, 15, 16, 19, 20, 21, 24, 25, 26, 29, 30, 31, 35, 36, 37, 40, 41, 42, 45, 46, 47, 51, 52, 53] [] [] [] [.tmp 2]
theorem sp_54 (K : Nat) : OkF 214 (c_54 K) :=
 ctrF (x := x_54 K) (L := []) (c0 := bd Tryz.f214) (xkF gam_nil ov_nil) (by intro a0; show @Eq _ _ _; kernel_rfl) cuts_nil Tryz.func214 trivial
def l_spec_l7Chunks_1 (K : Nat) (a0 : T_impl_Conf) : Nat -> Int -> Int -> Int -> Int -> Int -> Int -> Int -> Int -> Int -> (List Int) -> Int -> Int -> (List T_impl_Thing) -> (List Int) -> Option (Bool)
 | 0, _, _, _, _, _, _, _, _, _, _, _, _, _, _ => none
 | n1 + 1, v1, v2, v3, v4, v5, v6, v7, v8, v9, v10, v11, v12, v13, v14 => (bif (decide (v1 < (v10.length : Int))) then (if (0 : Int) ≤ v1 ∧ v1 < (v10.length : Int) then ((m_spec_l1In K (gt v10 v1) 0 (iSub .i64 a0.fChunks 1)).bind fun r15 => (bif r15 then (if (0 : Int) ≤ 0 ∧ 0 ≤ v1 ∧ v1 ≤ (v10.length : Int) then (if (0 : Int) ≤ v1 ∧ v1 < (v10.length : Int) then ((m_spec_l7Has K ((v10.drop (0 : Int).toNat).take (v1 - 0).toNat) (gt v10 v1)).bind fun r16 => (bif r16 then some false else (l_spec_l7Chunks_1 K a0 n1 (iAdd .i64 v1 1) v2 v3 v4 v5 v6 v7 v8 v9 v10 v11 v12 v13 v14))) else none) else none) else some false)) else none) else (bif (v11 == 0) then some (v12 == 0) else ((m_spec_l7Has K v10 (iSub .i64 v11 1)).bind fun r17 => (bif r17 then ((m_spec_l1In K v12 0 a0.fSize).bind fun r18 => some r18) else some false))))
def m_spec_l7Chunks (K : Nat) (a0 : T_impl_Conf) (a1 : T_impl_Node) : Option (Bool) := (l_spec_l7Chunks_1 K a0 K 0 a1.fSt a1.fGen a1.fEp a1.fUp a1.fUpEp a1.fFirst a1.fNext a1.fPrev a1.fChunks a1.fCur a1.fBump a1.fThings a1.fTags)
def s_55 : Sig := ⟨[.v 25, .v 44], [.v 4], true⟩
def c_55 (K : Nat) : Ctr tyU := ⟨s_55, m_spec_l7Chunks K⟩
def x_55 (K : Nat) := xF s_55 [(84, c_24 K), (218, c_48 K)] [] 54 [21, 22, 23, 46, 47] [] [] [] [.tmp 4]
def h_55_26 : Shape := ⟨[(2, .p 102), (3, .p 103), (5, .v 2)], [(103, .box [.v 2, .v 2, .v 2, .v 2, .v 2, .v 2, .v 2, .v 2, .v 26, .v 2, .v 2, .v 41, .v 26]), (102, .st 25 true)]⟩
def M_55_26 (K : Nat) (n : Nat) (q : PT h_55_26) : Rt s_55 := l_spec_l7Chunks_1 K q.2.2.2.2.2.2.2.2.2.2.2.2.2.2.1 n q.1 q.2.1 q.2.2.1 q.2.2.2.1 q.2.2.2.2.1 q.2.2.2.2.2.1 q.2.2.2.2.2.2.1 q.2.2.2.2.2.2.2.1 q.2.2.2.2.2.2.2.2.1 q.2.2.2.2.2.2.2.2.2.1 q.2.2.2.2.2.2.2.2.2.2.1 q.2.2.2.2.2.2.2.2.2.2.2.1 q.2.2.2.2.2.2.2.2.2.2.2.2.1 q.2.2.2.2.2.2.2.2.2.2.2.2.2.1
theorem e_55_26 (K : Nat) : AtL (x_55 K) (fun n => []) [] (bd Tryz.f215) 26 (M_55_26 K) := fun n q => by kernel_rfl
theorem xk_55 (K : Nat) : XF [.tmp 4] s_55 54 [] (x_55 K) := xkF (gam_cons (sp_24 K) (gam_cons (sp_48 K) gam_nil)) ov_nil
theorem k_55_26 (K : Nat) (n : Nat) : CF [.tmp 4] s_55 54 [] (bd Tryz.f215) [] 26 (ar h_55_26 (M_55_26 K n)) :=
 loopF (xk_55 K) (e_55_26 K) (fun n => cuts_nil) n
theorem sp_55 (K : Nat) : OkF 215 (c_55 K) :=
 ctrF (x := x_55 K) (L := [(26, ar h_55_26 (M_55_26 K K))]) (c0 := bd Tryz.f215) (xk_55 K) (by intro a0 a1; show @Eq _ _ _; kernel_rfl) (cuts_cons (k_55_26 K K) cuts_nil) Tryz.func215 trivial
def m_spec_IsLarge (K : Nat) (a0 : T_impl_Conf) (a1 : Int) : Option (Bool) := some (decide (a1 > a0.fSize))
def s_56 : Sig := ⟨[.v 25, .v 3], [.v 4], true⟩
def c_56 (K : Nat) : Ctr tyU := ⟨s_56, m_spec_IsLarge K⟩
def x_56 (K : Nat) := xF s_56 [] [] 9 [] [] [] [] [.tmp 4]
theorem sp_56 (K : Nat) : OkF 265 (c_56 K) :=
 ctrF (x := x_56 K) (L := []) (c0 := bd Tryz.f265) (xkF gam_nil ov_nil) (by intro a0 a1; show @Eq _ _ _; kernel_rfl) cuts_nil Tryz.func265 trivial
def m_spec_CeilDiv (K : Nat) (a0 : Int) (a1 : Int) : Option (Int) := ((m_spec_l1In K a0 0 1000000000).bind fun r1 => (bif r1 then ((m_spec_l1In K a1 1 1000000000).bind fun r2 => (bif (!r2) then some 0 else (if a1 ≠ (0 : Int) then some (iQuo .i64 (iSub .i64 (iAdd .i64 a0 a1) 1) a1) else none))) else some 0))
def s_57 : Sig := ⟨[.v 3, .v 3], [.v 3], true⟩
def c_57 (K : Nat) : Ctr tyU := ⟨s_57, m_spec_CeilDiv K⟩
def x_57 (K : Nat) := xF s_57 [(84, c_24 K)] [] 19 [6, 7, 8] [] [] [] [.tmp 4]
theorem sp_57 (K : Nat) : OkF 296 (c_57 K) :=
 ctrF (x := x_57 K) (L := []) (c0 := bd Tryz.f296) (xkF (gam_cons (sp_24 K) gam_nil) ov_nil) (by intro a0 a1; show @Eq _ _ _; kernel_rfl) cuts_nil Tryz.func296 trivial
def m_spec_ChunksFor (K : Nat) (a0 : T_impl_Conf) (a1 : Int) : Option (Int) := ((m_spec_CeilDiv K a1 a0.fSize).bind fun r1 => some r1)
def s_58 : Sig := ⟨[.v 25, .v 3], [.v 3], true⟩
def c_58 (K : Nat) : Ctr tyU := ⟨s_58, m_spec_ChunksFor K⟩
def x_58 (K : Nat) := xF s_58 [(296, c_57 K)] [] 9 [] [] [] [] [.tmp 4]
theorem sp_58 (K : Nat) : OkF 266 (c_58 K) :=
 ctrF (x := x_58 K) (L := []) (c0 := bd Tryz.f266) (xkF (gam_cons (sp_57 K) gam_nil) ov_nil) (by intro a0 a1; show @Eq _ _ _; kernel_rfl) cuts_nil Tryz.func266 trivial
def m_spec_ThingOk (K : Nat) (a0 : T_impl_Conf) (a1 : T_impl_Thing) : Option (Bool) := ((m_spec_BytesOf K a0).bind fun r1 => (bif (r1 == 0) then some false else (bif (decide (a1.fLen < 1)) then some false else (bif (decide (a1.fAt < 0)) then some false else (bif (decide (a1.fAt > r1)) then some false else (bif (decide (a1.fLen > (iSub .i64 r1 a1.fAt))) then some false else (bif (a1.fRun == 0) then (bif (decide (a1.fLen ≤ a0.fSize)) then (if a0.fSize ≠ (0 : Int) then (if a0.fSize ≠ (0 : Int) then some ((iQuo .i64 a1.fAt a0.fSize) == (iQuo .i64 (iSub .i64 (iAdd .i64 a1.fAt a1.fLen) 1) a0.fSize)) else none) else none) else some false) else ((m_spec_IsLarge K a0 a1.fLen).bind fun r2 => (bif r2 then ((m_spec_ChunksFor K a0 a1.fLen).bind fun r3 => (bif (a1.fRun == r3) then (if a0.fSize ≠ (0 : Int) then some ((Int.tmod a1.fAt a0.fSize) == 0) else none) else some false)) else some false)))))))))
def s_59 : Sig := ⟨[.v 25, .v 89], [.v 4], true⟩
def c_59 (K : Nat) : Ctr tyU := ⟨s_59, m_spec_ThingOk K⟩
def x_59 (K : Nat) := xF s_59 [(211, c_40 K), (265, c_56 K), (266, c_58 K)] [] 81 [9, 10, 13, 14, 15, 18, 19, 20, 24, 25, 26, 42, 43, 63, 64, 71, 72, 73] [] [] [] [.tmp 4]
theorem sp_59 (K : Nat) : OkF 216 (c_59 K) :=
 ctrF (x := x_59 K) (L := []) (c0 := bd Tryz.f216) (xkF (gam_cons (sp_40 K) (gam_cons (sp_56 K) (gam_cons (sp_58 K) gam_nil))) ov_nil) (by intro a0 a1; show @Eq _ _ _; kernel_rfl) cuts_nil Tryz.func216 trivial
def l_spec_NodeOk_2 (K : Nat) (v23 : List Int) : Nat -> Int -> Option (Bool)
 | 0, _ => none
 | n2 + 1, v25 => (bif (decide (v25 < (v23.length : Int))) then (if (0 : Int) ≤ v25 ∧ v25 < (v23.length : Int) then ((m_spec_l1In K (gt v23 v25) 0 255).bind fun r26 => (bif (!r26) then some false else (l_spec_NodeOk_2 K v23 n2 (iAdd .i64 v25 1)))) else none) else some true)
def l_spec_NodeOk_1 (K : Nat) (a0 : T_impl_Conf) : Nat -> Int -> Int -> Int -> Int -> Int -> Int -> Int -> Int -> Int -> (List Int) -> Int -> Int -> (List T_impl_Thing) -> (List Int) -> Option (Bool)
 | 0, _, _, _, _, _, _, _, _, _, _, _, _, _, _ => none
 | n1 + 1, v10, v11, v12, v13, v14, v15, v16, v17, v18, v19, v20, v21, v22, v23 => (bif (decide (v10 < (v22.length : Int))) then (if (0 : Int) ≤ v10 ∧ v10 < (v22.length : Int) then ((m_spec_ThingOk K a0 (gt v22 v10)).bind fun r24 => (bif (!r24) then some false else (l_spec_NodeOk_1 K a0 n1 (iAdd .i64 v10 1) v11 v12 v13 v14 v15 v16 v17 v18 v19 v20 v21 v22 v23))) else none) else (l_spec_NodeOk_2 K v23 K 0))
def m_spec_NodeOk (K : Nat) (a0 : T_impl_Conf) (a1 : T_impl_Node) : Option (Bool) := ((m_spec_ConfOk K a0).bind fun r1 => (bif r1 then ((m_spec_l1In K a1.fSt 0 3).bind fun r2 => (bif r2 then ((m_spec_l1In K a1.fGen 1 a0.fGens).bind fun r3 => (bif (!r3) then some false else (bif (a1.fSt != 1) then ((m_spec_Bare K a1).bind fun r4 => some r4) else (bif (decide (a1.fEp < 0)) then some false else (bif (decide (a1.fUpEp < 0)) then some false else ((m_spec_l1In K a1.fUp 0 a0.fSlots).bind fun r5 => (bif r5 then ((m_spec_l1In K a1.fFirst 0 a0.fSlots).bind fun r6 => (bif r6 then ((m_spec_l1In K a1.fNext 0 a0.fSlots).bind fun r7 => (bif r7 then ((m_spec_l1In K a1.fPrev 0 a0.fSlots).bind fun r8 => (bif r8 then ((m_spec_l7Chunks K a0 a1).bind fun r9 => (bif r9 then (bif (decide ((a1.fThings.length : Int) > 12)) then some false else (bif (decide ((a1.fTags.length : Int) > 6)) then some false else (l_spec_NodeOk_1 K a0 K 0 a1.fSt a1.fGen a1.fEp a1.fUp a1.fUpEp a1.fFirst a1.fNext a1.fPrev a1.fChunks a1.fCur a1.fBump a1.fThings a1.fTags))) else some false)) else some false)) else some false)) else some false)) else some false))))))) else some false)) else some false))
def s_60 : Sig := ⟨[.v 25, .v 44], [.v 4], true⟩
def c_60 (K : Nat) : Ctr tyU := ⟨s_60, m_spec_NodeOk K⟩
def x_60 (K : Nat) := xF s_60 [(84, c_24 K), (210, c_39 K), (214, c_54 K), (215, c_55 K), (216, c_59 K)] [] 116 [8, 9, 10, 13, 14, 15, 16, 31, 32, 35, 36, 37, 42, 43, 44, 45, 50, 51, 52, 53, 58, 59, 60, 61, 66, 67, 68, 69, 72, 73, 74, 75, 79, 80, 81] [] [] [] [.tmp 4]
def h_60_506 : Shape := ⟨[(3, .p 103), (6, .v 2)], [(103, .box [.v 2, .v 2, .v 2, .v 2, .v 2, .v 2, .v 2, .v 2, .v 26, .v 2, .v 2, .v 41, .v 26])]⟩
def h_60_250 : Shape := ⟨[(2, .p 102), (3, .p 103), (5, .v 2)], [(103, .box [.v 2, .v 2, .v 2, .v 2, .v 2, .v 2, .v 2, .v 2, .v 26, .v 2, .v 2, .v 41, .v 26]), (102, .st 25 true)]⟩
def M_60_506 (K : Nat) (n : Nat) (q : PT h_60_506) : Rt s_60 := l_spec_NodeOk_2 K q.2.2.2.2.2.2.2.2.2.2.2.2.2.1 n q.1
def M_60_250 (K : Nat) (n : Nat) (q : PT h_60_250) : Rt s_60 := l_spec_NodeOk_1 K q.2.2.2.2.2.2.2.2.2.2.2.2.2.2.1 n q.1 q.2.1 q.2.2.1 q.2.2.2.1 q.2.2.2.2.1 q.2.2.2.2.2.1 q.2.2.2.2.2.2.1 q.2.2.2.2.2.2.2.1 q.2.2.2.2.2.2.2.2.1 q.2.2.2.2.2.2.2.2.2.1 q.2.2.2.2.2.2.2.2.2.2.1 q.2.2.2.2.2.2.2.2.2.2.2.1 q.2.2.2.2.2.2.2.2.2.2.2.2.1 q.2.2.2.2.2.2.2.2.2.2.2.2.2.1
theorem e_60_506 (K : Nat) : AtL (x_60 K) (fun n => []) [] (bd Tryz.f142) 506 (M_60_506 K) := fun n q => by kernel_rfl
theorem e_60_250 (K : Nat) : AtL (x_60 K) (fun n => [(506, ar h_60_506 (M_60_506 K K))]) [] (bd Tryz.f142) 250 (M_60_250 K) := fun n q => by kernel_rfl
theorem xk_60 (K : Nat) : XF [.tmp 4] s_60 116 [] (x_60 K) := xkF (gam_cons (sp_24 K) (gam_cons (sp_39 K) (gam_cons (sp_54 K) (gam_cons (sp_55 K) (gam_cons (sp_59 K) gam_nil))))) ov_nil
theorem k_60_506 (K : Nat) (n : Nat) : CF [.tmp 4] s_60 116 [] (bd Tryz.f142) [] 506 (ar h_60_506 (M_60_506 K n)) :=
 loopF (xk_60 K) (e_60_506 K) (fun n => cuts_nil) n
theorem k_60_250 (K : Nat) (n : Nat) : CF [.tmp 4] s_60 116 [] (bd Tryz.f142) [] 250 (ar h_60_250 (M_60_250 K n)) :=
 loopF (xk_60 K) (e_60_250 K) (fun n => (cuts_cons (cut_up (by kernel_rfl) (k_60_506 K K)) cuts_nil)) n
theorem sp_60 (K : Nat) : OkF 142 (c_60 K) :=
 ctrF (x := x_60 K) (L := [(250, ar h_60_250 (M_60_250 K K))]) (c0 := bd Tryz.f142) (xk_60 K) (by intro a0 a1; show @Eq _ _ _; kernel_rfl) (cuts_cons (k_60_250 K K) cuts_nil) Tryz.func142 trivial
def j_spec_OwnedBy_2 (K : Nat) (v2 : Int) (v3 : List Int) (v4 : List Int) (v5 : List Int) (C1 : (List Int) -> Int -> (List Int) -> (List Int) -> (List Int) -> Option ((List Int))) (v6 : List Int) : Option ((List Int)) := (C1 v6 (iAdd .i64 v2 1) v3 v4 v5)
def l_spec_OwnedBy_1 (K : Nat) (a1 : Int) : Nat -> (List Int) -> Int -> (List Int) -> (List Int) -> (List Int) -> Option ((List Int))
 | 0, _, _, _, _, _ => none
 | n1 + 1, v1, v2, v3, v4, v5 => (bif (decide (v2 < (v4.length : Int))) then (bif (decide (v2 < (v5.length : Int))) then (if (0 : Int) ≤ v2 ∧ v2 < (v4.length : Int) then (bif ((gt v4 v2) == 1) then (if (0 : Int) ≤ v2 ∧ v2 < (v5.length : Int) then (bif ((gt v5 v2) == a1) then (if (v1 ++ ([v2] : List Int)).length * 8 ≤ 140737488355328 ∧ (v1 ++ ([v2] : List Int)).length ≤ maxLen then (j_spec_OwnedBy_2 K v2 v3 v4 v5 (l_spec_OwnedBy_1 K a1 n1) (v1 ++ ([v2] : List Int))) else none) else (j_spec_OwnedBy_2 K v2 v3 v4 v5 (l_spec_OwnedBy_1 K a1 n1) v1)) else none) else (j_spec_OwnedBy_2 K v2 v3 v4 v5 (l_spec_OwnedBy_1 K a1 n1) v1)) else none) else some v1) else some v1)
def m_spec_OwnedBy (K : Nat) (a0 : T_impl_Pool) (a1 : Int) : Option ((List Int)) := (l_spec_OwnedBy_1 K a1 K ([] : List Int) 0 a0.fMem a0.fSt a0.fOwn)
def s_61 : Sig := ⟨[.v 28, .v 3], [.n 26 true], true⟩
def c_61 (K : Nat) : Ctr tyU := ⟨s_61, m_spec_OwnedBy K⟩
def x_61 (K : Nat) := xF s_61 [] [] 42 [12, 13, 27, 28] [] [] [233] [.tmp 4]
def h_61_233 : Shape := ⟨[(1, .v 2), (2, .p 102), (5, .o 1005 3 true), (6, .v 2)], [(102, .box [.v 22, .v 26, .v 26])]⟩
def h_61_58 : Shape := ⟨[(1, .v 2), (2, .p 102), (5, .o 1005 3 true), (6, .v 2)], [(102, .box [.v 22, .v 26, .v 26])]⟩
def M_61_233 (K : Nat) (C58 : CT h_61_58 s_61) (q : PT h_61_233) : Rt s_61 := j_spec_OwnedBy_2 K q.2.2.1 q.2.2.2.1 q.2.2.2.2.1 q.2.2.2.2.2.1 (fun v1 v2 v3 v4 v5 => C58 (q.1, v1, v2, v3, v4, v5, ())) q.2.1
def M_61_58 (K : Nat) (n : Nat) (q : PT h_61_58) : Rt s_61 := l_spec_OwnedBy_1 K q.1 n q.2.1 q.2.2.1 q.2.2.2.1 q.2.2.2.2.1 q.2.2.2.2.2.1
theorem e_61_233 (K : Nat) (C58 : CT h_61_58 s_61) : AtJ (x_61 K) [] [(58, ar h_61_58 C58)] (bd Tryz.f217) 233 (M_61_233 K C58) := fun q => by kernel_rfl
theorem e_61_58 (K : Nat) : AtL (x_61 K) (fun n => [(233, ar h_61_233 (M_61_233 K (M_61_58 K n)))]) [] (bd Tryz.f217) 58 (M_61_58 K) := fun n q => by kernel_rfl
theorem xk_61 (K : Nat) : XF [.tmp 4] s_61 42 [233] (x_61 K) := xkF gam_nil ov_nil
theorem k_61_233 (K : Nat) (C58 : CT h_61_58 s_61) : CF [.tmp 4] s_61 42 [233] (bd Tryz.f217) [(58, ar h_61_58 C58)] 233 (ar h_61_233 (M_61_233 K C58)) :=
 joinF (xk_61 K) (e_61_233 K C58) cuts_nil
theorem k_61_58 (K : Nat) (n : Nat) : CF [.tmp 4] s_61 42 [233] (bd Tryz.f217) [] 58 (ar h_61_58 (M_61_58 K n)) :=
 loopF (xk_61 K) (e_61_58 K) (fun n => (cuts_cons (k_61_233 K (M_61_58 K n)) cuts_nil)) n
theorem sp_61 (K : Nat) : OkF 217 (c_61 K) :=
 ctrF (x := x_61 K) (L := [(58, ar h_61_58 (M_61_58 K K))]) (c0 := bd Tryz.f217) (xk_61 K) (by intro a0 a1; show @Eq _ _ _; kernel_rfl) (cuts_cons (k_61_58 K K) cuts_nil) Tryz.func217 trivial
def l_spec_l13Chunks_1 (K : Nat) (a1 : Int) (r1 : (List Int)) : Nat -> Int -> Int -> Int -> Int -> Int -> Int -> Int -> (List Int) -> (List Int) -> (List Int) -> (List T_impl_Node) -> (List T_impl_Waste) -> (List Int) -> Option (Bool)
 | 0, _, _, _, _, _, _, _, _, _, _, _, _, _ => none
 | n1 + 1, v2, v3, v4, v5, v6, v7, v8, v9, v10, v11, v12, v13, v14 => (bif (decide (v2 < (r1.length : Int))) then (if (0 : Int) ≤ a1 ∧ a1 < (v12.length : Int) then (if (0 : Int) ≤ v2 ∧ v2 < (r1.length : Int) then ((m_spec_l7Has K ((gt v12 a1).fChunks) (gt r1 v2)).bind fun r15 => (bif (!r15) then some false else (l_spec_l13Chunks_1 K a1 r1 n1 (iAdd .i64 v2 1) v3 v4 v5 v6 v7 v8 v9 v10 v11 v12 v13 v14))) else none) else none) else (if (0 : Int) ≤ a1 ∧ a1 < (v12.length : Int) then some ((r1.length : Int) == (((gt v12 a1).fChunks).length : Int)) else none))
def m_spec_l13Chunks (K : Nat) (a0 : T_impl_World) (a1 : Int) : Option (Bool) := ((m_spec_OwnedBy K a0.fP a1).bind fun r1 => (l_spec_l13Chunks_1 K a1 r1 K 0 a0.fC.fChunks a0.fC.fSize a0.fC.fSlots a0.fC.fTax a0.fC.fSlice a0.fC.fGens a0.fP.fMem a0.fP.fSt a0.fP.fOwn a0.fL a0.fQ a0.fLog))
def s_62 : Sig := ⟨[.v 32, .v 3], [.v 4], true⟩
def c_62 (K : Nat) : Ctr tyU := ⟨s_62, m_spec_l13Chunks K⟩
def x_62 (K : Nat) := xF s_62 [(217, c_61 K), (218, c_48 K)] [] 39 [] [] [] [] [.tmp 4]
def h_62_58 : Shape := ⟨[(1, .v 2), (2, .p 102), (5, .v 26), (6, .v 2)], [(102, .box [.v 2, .v 2, .v 2, .v 2, .v 2, .v 2, .v 22, .v 26, .v 26, .v 29, .v 30, .v 26])]⟩
def M_62_58 (K : Nat) (n : Nat) (q : PT h_62_58) : Rt s_62 := l_spec_l13Chunks_1 K q.1 q.2.1 n q.2.2.1 q.2.2.2.1 q.2.2.2.2.1 q.2.2.2.2.2.1 q.2.2.2.2.2.2.1 q.2.2.2.2.2.2.2.1 q.2.2.2.2.2.2.2.2.1 q.2.2.2.2.2.2.2.2.2.1 q.2.2.2.2.2.2.2.2.2.2.1 q.2.2.2.2.2.2.2.2.2.2.2.1 q.2.2.2.2.2.2.2.2.2.2.2.2.1 q.2.2.2.2.2.2.2.2.2.2.2.2.2.1 q.2.2.2.2.2.2.2.2.2.2.2.2.2.2.1
theorem e_62_58 (K : Nat) : AtL (x_62 K) (fun n => []) [] (bd Tryz.f143) 58 (M_62_58 K) := fun n q => by kernel_rfl
theorem xk_62 (K : Nat) : XF [.tmp 4] s_62 39 [] (x_62 K) := xkF (gam_cons (sp_61 K) (gam_cons (sp_48 K) gam_nil)) ov_nil
theorem k_62_58 (K : Nat) (n : Nat) : CF [.tmp 4] s_62 39 [] (bd Tryz.f143) [] 58 (ar h_62_58 (M_62_58 K n)) :=
 loopF (xk_62 K) (e_62_58 K) (fun n => cuts_nil) n
theorem sp_62 (K : Nat) : OkF 143 (c_62 K) :=
 ctrF (x := x_62 K) (L := [(58, ar h_62_58 (M_62_58 K K))]) (c0 := bd Tryz.f143) (xk_62 K) (by intro a0 a1; show @Eq _ _ _; kernel_rfl) (cuts_cons (k_62_58 K K) cuts_nil) Tryz.func143 trivial
def l_spec_InChunks_2 (K : Nat) (a0 : T_impl_Conf) (v1 : Int) (v2 : Int) (v3 : Int) (v4 : Int) (v5 : Int) (v6 : Int) (v7 : Int) (v8 : Int) (v9 : Int) (v10 : List Int) (v11 : Int) (v12 : Int) (v13 : List T_impl_Thing) (v14 : List Int) (C1 : Int -> Int -> Int -> Int -> Int -> Int -> Int -> Int -> Int -> (List Int) -> Int -> Int -> (List T_impl_Thing) -> (List Int) -> Option (Bool)) : Nat -> Int -> T_impl_Thing -> Option (Bool)
 | 0, _, _ => none
 | n2 + 1, v16, v17 => (if a0.fSize ≠ (0 : Int) then (bif (decide (v16 ≤ (iQuo .i64 (iSub .i64 (iAdd .i64 v17.fAt v17.fLen) 1) a0.fSize))) then ((m_spec_l7Has K v10 v16).bind fun r18 => (bif (!r18) then some false else (l_spec_InChunks_2 K a0 v1 v2 v3 v4 v5 v6 v7 v8 v9 v10 v11 v12 v13 v14 C1 n2 (iAdd .i64 v16 1) v17))) else (C1 (iAdd .i64 v1 1) v2 v3 v4 v5 v6 v7 v8 v9 v10 v11 v12 v13 v14)) else none)
def l_spec_InChunks_1 (K : Nat) (a0 : T_impl_Conf) : Nat -> Int -> Int -> Int -> Int -> Int -> Int -> Int -> Int -> Int -> (List Int) -> Int -> Int -> (List T_impl_Thing) -> (List Int) -> Option (Bool)
 | 0, _, _, _, _, _, _, _, _, _, _, _, _, _, _ => none
 | n1 + 1, v1, v2, v3, v4, v5, v6, v7, v8, v9, v10, v11, v12, v13, v14 => (bif (decide (v1 < (v13.length : Int))) then (if (0 : Int) ≤ v1 ∧ v1 < (v13.length : Int) then ((m_spec_ThingOk K a0 (gt v13 v1)).bind fun r15 => (bif (!r15) then some false else (if a0.fSize ≠ (0 : Int) then (l_spec_InChunks_2 K a0 v1 v2 v3 v4 v5 v6 v7 v8 v9 v10 v11 v12 v13 v14 (l_spec_InChunks_1 K a0 n1) K (iQuo .i64 ((gt v13 v1).fAt) a0.fSize) (gt v13 v1)) else none))) else none) else some true)
def m_spec_InChunks (K : Nat) (a0 : T_impl_Conf) (a1 : T_impl_Node) : Option (Bool) := (l_spec_InChunks_1 K a0 K 0 a1.fSt a1.fGen a1.fEp a1.fUp a1.fUpEp a1.fFirst a1.fNext a1.fPrev a1.fChunks a1.fCur a1.fBump a1.fThings a1.fTags)
def s_63 : Sig := ⟨[.v 25, .v 44], [.v 4], true⟩
def c_63 (K : Nat) : Ctr tyU := ⟨s_63, m_spec_InChunks K⟩
def x_63 (K : Nat) := xF s_63 [(216, c_59 K), (218, c_48 K)] [] 47 [] [] [] [] [.tmp 4]
def h_63_6734 : Shape := ⟨[(2, .p 102), (3, .p 103), (5, .v 2), (6, .p 106), (7, .v 2)], [(106, .st 89 true), (103, .box [.v 2, .v 2, .v 2, .v 2, .v 2, .v 2, .v 2, .v 2, .v 26, .v 2, .v 2, .v 41, .v 26]), (102, .st 25 true)]⟩
def h_63_26 : Shape := ⟨[(2, .p 102), (3, .p 103), (5, .v 2)], [(103, .box [.v 2, .v 2, .v 2, .v 2, .v 2, .v 2, .v 2, .v 2, .v 26, .v 2, .v 2, .v 41, .v 26]), (102, .st 25 true)]⟩
def M_63_6734 (K : Nat) (C26 : CT h_63_26 s_63) (n : Nat) (q : PT h_63_6734) : Rt s_63 := l_spec_InChunks_2 K q.2.2.2.2.2.2.2.2.2.2.2.2.2.2.2.2.1 q.1 q.2.2.2.1 q.2.2.2.2.1 q.2.2.2.2.2.1 q.2.2.2.2.2.2.1 q.2.2.2.2.2.2.2.1 q.2.2.2.2.2.2.2.2.1 q.2.2.2.2.2.2.2.2.2.1 q.2.2.2.2.2.2.2.2.2.2.1 q.2.2.2.2.2.2.2.2.2.2.2.1 q.2.2.2.2.2.2.2.2.2.2.2.2.1 q.2.2.2.2.2.2.2.2.2.2.2.2.2.1 q.2.2.2.2.2.2.2.2.2.2.2.2.2.2.1 q.2.2.2.2.2.2.2.2.2.2.2.2.2.2.2.1 (fun v1 v2 v3 v4 v5 v6 v7 v8 v9 v10 v11 v12 v13 v14 => C26 (v1, v2, v3, v4, v5, v6, v7, v8, v9, v10, v11, v12, v13, v14, q.2.2.2.2.2.2.2.2.2.2.2.2.2.2.2.2.1, ())) n q.2.1 q.2.2.1
def M_63_26 (K : Nat) (n : Nat) (q : PT h_63_26) : Rt s_63 := l_spec_InChunks_1 K q.2.2.2.2.2.2.2.2.2.2.2.2.2.2.1 n q.1 q.2.1 q.2.2.1 q.2.2.2.1 q.2.2.2.2.1 q.2.2.2.2.2.1 q.2.2.2.2.2.2.1 q.2.2.2.2.2.2.2.1 q.2.2.2.2.2.2.2.2.1 q.2.2.2.2.2.2.2.2.2.1 q.2.2.2.2.2.2.2.2.2.2.1 q.2.2.2.2.2.2.2.2.2.2.2.1 q.2.2.2.2.2.2.2.2.2.2.2.2.1 q.2.2.2.2.2.2.2.2.2.2.2.2.2.1
theorem e_63_6734 (K : Nat) (C26 : CT h_63_26 s_63) : AtL (x_63 K) (fun n => []) [(26, ar h_63_26 C26)] (bd Tryz.f144) 6734 (M_63_6734 K C26) := fun n q => by kernel_rfl
theorem e_63_26 (K : Nat) : AtL (x_63 K) (fun n => [(6734, ar h_63_6734 (M_63_6734 K (M_63_26 K n) K))]) [] (bd Tryz.f144) 26 (M_63_26 K) := fun n q => by kernel_rfl
theorem xk_63 (K : Nat) : XF [.tmp 4] s_63 47 [] (x_63 K) := xkF (gam_cons (sp_59 K) (gam_cons (sp_48 K) gam_nil)) ov_nil
theorem k_63_6734 (K : Nat) (C26 : CT h_63_26 s_63) (n : Nat) : CF [.tmp 4] s_63 47 [] (bd Tryz.f144) [(26, ar h_63_26 C26)] 6734 (ar h_63_6734 (M_63_6734 K C26 n)) :=
 loopF (xk_63 K) (e_63_6734 K C26) (fun n => cuts_nil) n
theorem k_63_26 (K : Nat) (n : Nat) : CF [.tmp 4] s_63 47 [] (bd Tryz.f144) [] 26 (ar h_63_26 (M_63_26 K n)) :=
 loopF (xk_63 K) (e_63_26 K) (fun n => (cuts_cons (k_63_6734 K (M_63_26 K n) K) cuts_nil)) n
theorem sp_63 (K : Nat) : OkF 144 (c_63 K) :=
 ctrF (x := x_63 K) (L := [(26, ar h_63_26 (M_63_26 K K))]) (c0 := bd Tryz.f144) (xk_63 K) (by intro a0 a1; show @Eq _ _ _; kernel_rfl) (cuts_cons (k_63_26 K K) cuts_nil) Tryz.func144 trivial
def m_spec_Apart (K : Nat) (a0 : T_impl_Thing) (a1 : T_impl_Thing) : Option (Bool) := (bif (decide (a0.fLen < 1)) then some true else (bif (decide (a1.fLen < 1)) then some true else (bif (decide (a0.fAt ≤ a1.fAt)) then (bif (decide ((iSub .i64 a1.fAt a0.fAt) ≥ a0.fLen)) then some true else some (decide ((iSub .i64 a1.fAt a0.fAt) < 0))) else (bif (decide ((iSub .i64 a0.fAt a1.fAt) ≥ a1.fLen)) then some true else some (decide ((iSub .i64 a0.fAt a1.fAt) < 0))))))
def s_64 : Sig := ⟨[.v 89, .v 89], [.v 4], true⟩
def c_64 (K : Nat) : Ctr tyU := ⟨s_64, m_spec_Apart K⟩
def x_64 (K : Nat) := xF s_64 [] [] 50 [7, 8, 25, 26, 41, 42] [] [] [] [.tmp 4]
theorem sp_64 (K : Nat) : OkF 219 (c_64 K) :=
 ctrF (x := x_64 K) (L := []) (c0 := bd Tryz.f219) (xkF gam_nil ov_nil) (by intro a0 a1; show @Eq _ _ _; kernel_rfl) cuts_nil Tryz.func219 trivial
def l_spec_AllApart_2 (K : Nat) (a0 : List T_impl_Thing) (v1 : Int) (C1 : Int -> Option (Bool)) : Nat -> Int -> Option (Bool)
 | 0, _ => none
 | n2 + 1, v2 => (bif (decide (v2 < v1)) then (if (0 : Int) ≤ v1 ∧ v1 < (a0.length : Int) then (if (0 : Int) ≤ v2 ∧ v2 < (a0.length : Int) then ((m_spec_Apart K (gt a0 v1) (gt a0 v2)).bind fun r3 => (bif (!r3) then some false else (l_spec_AllApart_2 K a0 v1 C1 n2 (iAdd .i64 v2 1)))) else none) else none) else (C1 (iAdd .i64 v1 1)))
def l_spec_AllApart_1 (K : Nat) (a0 : List T_impl_Thing) : Nat -> Int -> Option (Bool)
 | 0, _ => none
 | n1 + 1, v1 => (bif (decide (v1 < (a0.length : Int))) then (l_spec_AllApart_2 K a0 v1 (l_spec_AllApart_1 K a0 n1) K 0) else some true)
def m_spec_AllApart (K : Nat) (a0 : List T_impl_Thing) : Option (Bool) := (l_spec_AllApart_1 K a0 K 0)
def s_65 : Sig := ⟨[.v 41], [.v 4], true⟩
def c_65 (K : Nat) : Ctr tyU := ⟨s_65, m_spec_AllApart K⟩
def x_65 (K : Nat) := xF s_65 [(219, c_64 K)] [] 26 [] [] [] [] [.tmp 2]
def h_65_1682 : Shape := ⟨[(0, .v 41), (3, .v 2), (4, .v 2)], []⟩
def h_65_26 : Shape := ⟨[(0, .v 41), (3, .v 2)], []⟩
def M_65_1682 (K : Nat) (C26 : CT h_65_26 s_65) (n : Nat) (q : PT h_65_1682) : Rt s_65 := l_spec_AllApart_2 K q.1 q.2.1 (fun v1 => C26 (q.1, v1, ())) n q.2.2.1
def M_65_26 (K : Nat) (n : Nat) (q : PT h_65_26) : Rt s_65 := l_spec_AllApart_1 K q.1 n q.2.1
theorem e_65_1682 (K : Nat) (C26 : CT h_65_26 s_65) : AtL (x_65 K) (fun n => []) [(26, ar h_65_26 C26)] (bd Tryz.f145) 1682 (M_65_1682 K C26) := fun n q => by kernel_rfl
theorem e_65_26 (K : Nat) : AtL (x_65 K) (fun n => [(1682, ar h_65_1682 (M_65_1682 K (M_65_26 K n) K))]) [] (bd Tryz.f145) 26 (M_65_26 K) := fun n q => by kernel_rfl
theorem xk_65 (K : Nat) : XF [.tmp 2] s_65 26 [] (x_65 K) := xkF (gam_cons (sp_64 K) gam_nil) ov_nil
theorem k_65_1682 (K : Nat) (C26 : CT h_65_26 s_65) (n : Nat) : CF [.tmp 2] s_65 26 [] (bd Tryz.f145) [(26, ar h_65_26 C26)] 1682 (ar h_65_1682 (M_65_1682 K C26 n)) :=
 loopF (xk_65 K) (e_65_1682 K C26) (fun n => cuts_nil) n
theorem k_65_26 (K : Nat) (n : Nat) : CF [.tmp 2] s_65 26 [] (bd Tryz.f145) [] 26 (ar h_65_26 (M_65_26 K n)) :=
 loopF (xk_65 K) (e_65_26 K) (fun n => (cuts_cons (k_65_1682 K (M_65_26 K n) K) cuts_nil)) n
theorem sp_65 (K : Nat) : OkF 145 (c_65 K) :=
 ctrF (x := x_65 K) (L := [(26, ar h_65_26 (M_65_26 K K))]) (c0 := bd Tryz.f145) (xk_65 K) (by intro a0; show @Eq _ _ _; kernel_rfl) (cuts_cons (k_65_26 K K) cuts_nil) Tryz.func145 trivial
def j_spec_l13Loose_2 (K : Nat) (v1 : Int) (v2 : Int) (v3 : Int) (v4 : Int) (v5 : Int) (v6 : Int) (v7 : Int) (v8 : Int) (v9 : Int) (v10 : Int) (v11 : Int) (v12 : List Int) (v13 : Int) (v14 : Int) (v15 : List T_impl_Thing) (v16 : List Int) (v17 : Int) (v18 : Int) (v19 : Int) (v20 : Int) (v21 : Int) (v22 : Int) (v23 : List Int) (v24 : List Int) (v25 : List Int) (v26 : List T_impl_Node) (v27 : List T_impl_Waste) (v28 : List Int) (C1 : Int -> Int -> Int -> Int -> Int -> Int -> Int -> Int -> Int -> Int -> Int -> (List Int) -> Int -> Int -> (List T_impl_Thing) -> (List Int) -> Int -> Int -> Int -> Int -> Int -> Int -> (List Int) -> (List Int) -> (List Int) -> (List T_impl_Node) -> (List T_impl_Waste) -> (List Int) -> Option (Bool)) : Option (Bool) := (C1 v1 v2 (iAdd .i64 v3 1) v4 v5 v6 v7 v8 v9 v10 v11 v12 v13 v14 v15 v16 v17 v18 v19 v20 v21 v22 v23 v24 v25 v26 v27 v28)
def l_spec_l13Loose_1 (K : Nat) : Nat -> Int -> Int -> Int -> Int -> Int -> Int -> Int -> Int -> Int -> Int -> Int -> (List Int) -> Int -> Int -> (List T_impl_Thing) -> (List Int) -> Int -> Int -> Int -> Int -> Int -> Int -> (List Int) -> (List Int) -> (List Int) -> (List T_impl_Node) -> (List T_impl_Waste) -> (List Int) -> Option (Bool)
 | 0, _, _, _, _, _, _, _, _, _, _, _, _, _, _, _, _, _, _, _, _, _, _, _, _, _, _, _, _ => none
 | n1 + 1, v1, v2, v3, v4, v5, v6, v7, v8, v9, v10, v11, v12, v13, v14, v15, v16, v17, v18, v19, v20, v21, v22, v23, v24, v25, v26, v27, v28 => (bif (decide (v3 < (v15.length : Int))) then (if (0 : Int) ≤ v3 ∧ v3 < (v15.length : Int) then (bif (decide (((gt v15 v3).fAt) < v2)) then (bif (decide ((iAdd .i64 ((gt v15 v3).fAt) ((gt v15 v3).fLen)) > v1)) then some false else (j_spec_l13Loose_2 K v1 v2 v3 v4 v5 v6 v7 v8 v9 v10 v11 v12 v13 v14 v15 v16 v17 v18 v19 v20 v21 v22 v23 v24 v25 v26 v27 v28 (l_spec_l13Loose_1 K n1))) else (j_spec_l13Loose_2 K v1 v2 v3 v4 v5 v6 v7 v8 v9 v10 v11 v12 v13 v14 v15 v16 v17 v18 v19 v20 v21 v22 v23 v24 v25 v26 v27 v28 (l_spec_l13Loose_1 K n1))) else none) else (if (0 : Int) ≤ v1 ∧ v1 ≤ v2 ∧ v2 ≤ (v23.length : Int) then ((m_spec_IsZero K ((v23.drop v1.toNat).take (v2 - v1).toNat)).bind fun r29 => some r29) else none))
def m_spec_l13Loose (K : Nat) (a0 : T_impl_World) (a1 : Int) : Option (Bool) := (if (0 : Int) ≤ a1 ∧ a1 < (a0.fL.length : Int) then (bif (((gt a0.fL a1).fCur) == 0) then some true else (bif (decide ((iAdd .i64 (iMul .i64 (iSub .i64 ((gt a0.fL a1).fCur) 1) a0.fC.fSize) ((gt a0.fL a1).fBump)) ≥ (iMul .i64 ((gt a0.fL a1).fCur) a0.fC.fSize))) then some true else (l_spec_l13Loose_1 K K (iAdd .i64 (iMul .i64 (iSub .i64 ((gt a0.fL a1).fCur) 1) a0.fC.fSize) ((gt a0.fL a1).fBump)) (iMul .i64 ((gt a0.fL a1).fCur) a0.fC.fSize) 0 ((gt a0.fL a1).fSt) ((gt a0.fL a1).fGen) ((gt a0.fL a1).fEp) ((gt a0.fL a1).fUp) ((gt a0.fL a1).fUpEp) ((gt a0.fL a1).fFirst) ((gt a0.fL a1).fNext) ((gt a0.fL a1).fPrev) ((gt a0.fL a1).fChunks) ((gt a0.fL a1).fCur) ((gt a0.fL a1).fBump) ((gt a0.fL a1).fThings) ((gt a0.fL a1).fTags) a0.fC.fChunks a0.fC.fSize a0.fC.fSlots a0.fC.fTax a0.fC.fSlice a0.fC.fGens a0.fP.fMem a0.fP.fSt a0.fP.fOwn a0.fL a0.fQ a0.fLog))) else none)
def s_66 : Sig := ⟨[.v 32, .v 3], [.v 4], true⟩
def c_66 (K : Nat) : Ctr tyU := ⟨s_66, m_spec_l13Loose K⟩
def x_66 (K : Nat) := xF s_66 [(212, c_41 K)] [] 71 [33, 34, 54, 55] [] [] [2025] [.tmp 4]
def h_66_2025 : Shape := ⟨[(2, .p 102), (5, .p 105), (6, .v 2), (7, .v 2), (8, .v 2)], [(105, .box [.v 2, .v 2, .v 2, .v 2, .v 2, .v 2, .v 2, .v 2, .v 26, .v 2, .v 2, .v 41, .v 26]), (102, .box [.v 2, .v 2, .v 2, .v 2, .v 2, .v 2, .v 22, .v 26, .v 26, .v 29, .v 30, .v 26])]⟩
def h_66_506 : Shape := ⟨[(2, .p 102), (5, .p 105), (6, .v 2), (7, .v 2), (8, .v 2)], [(105, .box [.v 2, .v 2, .v 2, .v 2, .v 2, .v 2, .v 2, .v 2, .v 26, .v 2, .v 2, .v 41, .v 26]), (102, .box [.v 2, .v 2, .v 2, .v 2, .v 2, .v 2, .v 22, .v 26, .v 26, .v 29, .v 30, .v 26])]⟩
def M_66_2025 (K : Nat) (C506 : CT h_66_506 s_66) (q : PT h_66_2025) : Rt s_66 := j_spec_l13Loose_2 K q.1 q.2.1 q.2.2.1 q.2.2.2.1 q.2.2.2.2.1 q.2.2.2.2.2.1 q.2.2.2.2.2.2.1 q.2.2.2.2.2.2.2.1 q.2.2.2.2.2.2.2.2.1 q.2.2.2.2.2.2.2.2.2.1 q.2.2.2.2.2.2.2.2.2.2.1 q.2.2.2.2.2.2.2.2.2.2.2.1 q.2.2.2.2.2.2.2.2.2.2.2.2.1 q.2.2.2.2.2.2.2.2.2.2.2.2.2.1 q.2.2.2.2.2.2.2.2.2.2.2.2.2.2.1 q.2.2.2.2.2.2.2.2.2.2.2.2.2.2.2.1 q.2.2.2.2.2.2.2.2.2.2.2.2.2.2.2.2.1 q.2.2.2.2.2.2.2.2.2.2.2.2.2.2.2.2.2.1 q.2.2.2.2.2.2.2.2.2.2.2.2.2.2.2.2.2.2.1 q.2.2.2.2.2.2.2.2.2.2.2.2.2.2.2.2.2.2.2.1 q.2.2.2.2.2.2.2.2.2.2.2.2.2.2.2.2.2.2.2.2.1 q.2.2.2.2.2.2.2.2.2.2.2.2.2.2.2.2.2.2.2.2.2.1 q.2.2.2.2.2.2.2.2.2.2.2.2.2.2.2.2.2.2.2.2.2.2.1 q.2.2.2.2.2.2.2.2.2.2.2.2.2.2.2.2.2.2.2.2.2.2.2.1 q.2.2.2.2.2.2.2.2.2.2.2.2.2.2.2.2.2.2.2.2.2.2.2.2.1 q.2.2.2.2.2.2.2.2.2.2.2.2.2.2.2.2.2.2.2.2.2.2.2.2.2.1 q.2.2.2.2.2.2.2.2.2.2.2.2.2.2.2.2.2.2.2.2.2.2.2.2.2.2.1 q.2.2.2.2.2.2.2.2.2.2.2.2.2.2.2.2.2.2.2.2.2.2.2.2.2.2.2.1 (fun v1 v2 v3 v4 v5 v6 v7 v8 v9 v10 v11 v12 v13 v14 v15 v16 v17 v18 v19 v20 v21 v22 v23 v24 v25 v26 v27 v28 => C506 (v1, v2, v3, v4, v5, v6, v7, v8, v9, v10, v11, v12, v13, v14, v15, v16, v17, v18, v19, v20, v21, v22, v23, v24, v25, v26, v27, v28, ()))
def M_66_506 (K : Nat) (n : Nat) (q : PT h_66_506) : Rt s_66 := l_spec_l13Loose_1 K n q.1 q.2.1 q.2.2.1 q.2.2.2.1 q.2.2.2.2.1 q.2.2.2.2.2.1 q.2.2.2.2.2.2.1 q.2.2.2.2.2.2.2.1 q.2.2.2.2.2.2.2.2.1 q.2.2.2.2.2.2.2.2.2.1 q.2.2.2.2.2.2.2.2.2.2.1 q.2.2.2.2.2.2.2.2.2.2.2.1 q.2.2.2.2.2.2.2.2.2.2.2.2.1 q.2.2.2.2.2.2.2.2.2.2.2.2.2.1 q.2.2.2.2.2.2.2.2.2.2.2.2.2.2.1 q.2.2.2.2.2.2.2.2.2.2.2.2.2.2.2.1 q.2.2.2.2.2.2.2.2.2.2.2.2.2.2.2.2.1 q.2.2.2.2.2.2.2.2.2.2.2.2.2.2.2.2.2.1 q.2.2.2.2.2.2.2.2.2.2.2.2.2.2.2.2.2.2.1 q.2.2.2.2.2.2.2.2.2.2.2.2.2.2.2.2.2.2.2.1 q.2.2.2.2.2.2.2.2.2.2.2.2.2.2.2.2.2.2.2.2.1 q.2.2.2.2.2.2.2.2.2.2.2.2.2.2.2.2.2.2.2.2.2.1 q.2.2.2.2.2.2.2.2.2.2.2.2.2.2.2.2.2.2.2.2.2.2.1 q.2.2.2.2.2.2.2.2.2.2.2.2.2.2.2.2.2.2.2.2.2.2.2.1 q.2.2.2.2.2.2.2.2.2.2.2.2.2.2.2.2.2.2.2.2.2.2.2.2.1 q.2.2.2.2.2.2.2.2.2.2.2.2.2.2.2.2.2.2.2.2.2.2.2.2.2.1 q.2.2.2.2.2.2.2.2.2.2.2.2.2.2.2.2.2.2.2.2.2.2.2.2.2.2.1 q.2.2.2.2.2.2.2.2.2.2.2.2.2.2.2.2.2.2.2.2.2.2.2.2.2.2.2.1
theorem e_66_2025 (K : Nat) (C506 : CT h_66_506 s_66) : AtJ (x_66 K) [] [(506, ar h_66_506 C506)] (bd Tryz.f146) 2025 (M_66_2025 K C506) := fun q => by kernel_rfl
theorem e_66_506 (K : Nat) : AtL (x_66 K) (fun n => [(2025, ar h_66_2025 (M_66_2025 K (M_66_506 K n)))]) [] (bd Tryz.f146) 506 (M_66_506 K) := fun n q => by kernel_rfl
theorem xk_66 (K : Nat) : XF [.tmp 4] s_66 71 [2025] (x_66 K) := xkF (gam_cons (sp_41 K) gam_nil) ov_nil
theorem k_66_2025 (K : Nat) (C506 : CT h_66_506 s_66) : CF [.tmp 4] s_66 71 [2025] (bd Tryz.f146) [(506, ar h_66_506 C506)] 2025 (ar h_66_2025 (M_66_2025 K C506)) :=
 joinF (xk_66 K) (e_66_2025 K C506) cuts_nil
theorem k_66_506 (K : Nat) (n : Nat) : CF [.tmp 4] s_66 71 [2025] (bd Tryz.f146) [] 506 (ar h_66_506 (M_66_506 K n)) :=
 loopF (xk_66 K) (e_66_506 K) (fun n => (cuts_cons (k_66_2025 K (M_66_506 K n)) cuts_nil)) n
theorem sp_66 (K : Nat) : OkF 146 (c_66 K) :=
 ctrF (x := x_66 K) (L := [(506, ar h_66_506 (M_66_506 K K))]) (c0 := bd Tryz.f146) (xk_66 K) (by intro a0 a1; show @Eq _ _ _; kernel_rfl) (cuts_cons (k_66_506 K K) cuts_nil) Tryz.func146 trivial
def l_spec_WorldOk_3 (K : Nat) (v4 : Int) (v5 : Int) (v6 : Int) (v7 : Int) (v8 : Int) (v9 : Int) (v10 : List Int) (v11 : List Int) (v12 : List Int) (v13 : List T_impl_Node) (v14 : List T_impl_Waste) (v15 : List Int) : Nat -> Int -> Option (Bool)
 | 0, _ => none
 | n3 + 1, v23 => (bif (decide (v23 < (v15.length : Int))) then (if (0 : Int) ≤ v23 ∧ v23 < (v15.length : Int) then ((m_spec_l1In K (gt v15 v23) 0 255).bind fun r24 => (bif (!r24) then some false else (l_spec_WorldOk_3 K v4 v5 v6 v7 v8 v9 v10 v11 v12 v13 v14 v15 n3 (iAdd .i64 v23 1)))) else none) else ((m_spec_l13Counts K (T_impl_World.mk (T_impl_Conf.mk v4 v5 v6 v7 v8 v9) (T_impl_Pool.mk v10 v11 v12) v13 v14 v15)).bind fun r25 => some r25))
def l_spec_WorldOk_2 (K : Nat) (v4 : Int) (v5 : Int) (v6 : Int) (v7 : Int) (v8 : Int) (v9 : Int) (v10 : List Int) (v11 : List Int) (v12 : List Int) (v13 : List T_impl_Node) (v14 : List T_impl_Waste) (v15 : List Int) : Nat -> Int -> Option (Bool)
 | 0, _ => none
 | n2 + 1, v21 => (bif (decide (v21 < (v14.length : Int))) then ((m_spec_l13Waste K (T_impl_World.mk (T_impl_Conf.mk v4 v5 v6 v7 v8 v9) (T_impl_Pool.mk v10 v11 v12) v13 v14 v15) v21).bind fun r22 => (bif (!r22) then some false else (l_spec_WorldOk_2 K v4 v5 v6 v7 v8 v9 v10 v11 v12 v13 v14 v15 n2 (iAdd .i64 v21 1)))) else (l_spec_WorldOk_3 K v4 v5 v6 v7 v8 v9 v10 v11 v12 v13 v14 v15 K 0))
def l_spec_WorldOk_1 (K : Nat) : Nat -> Int -> Int -> Int -> Int -> Int -> Int -> Int -> (List Int) -> (List Int) -> (List Int) -> (List T_impl_Node) -> (List T_impl_Waste) -> (List Int) -> Option (Bool)
 | 0, _, _, _, _, _, _, _, _, _, _, _, _, _ => none
 | n1 + 1, v3, v4, v5, v6, v7, v8, v9, v10, v11, v12, v13, v14, v15 => (bif (decide (v3 < (v13.length : Int))) then (if (0 : Int) ≤ v3 ∧ v3 < (v13.length : Int) then ((m_spec_NodeOk K (T_impl_Conf.mk v4 v5 v6 v7 v8 v9) (gt v13 v3)).bind fun r16 => (bif r16 then ((m_spec_l13Chunks K (T_impl_World.mk (T_impl_Conf.mk v4 v5 v6 v7 v8 v9) (T_impl_Pool.mk v10 v11 v12) v13 v14 v15) v3).bind fun r17 => (bif r17 then (if (0 : Int) ≤ v3 ∧ v3 < (v13.length : Int) then ((m_spec_InChunks K (T_impl_Conf.mk v4 v5 v6 v7 v8 v9) (gt v13 v3)).bind fun r18 => (bif r18 then (if (0 : Int) ≤ v3 ∧ v3 < (v13.length : Int) then ((m_spec_AllApart K ((gt v13 v3).fThings)).bind fun r19 => (bif r19 then ((m_spec_l13Loose K (T_impl_World.mk (T_impl_Conf.mk v4 v5 v6 v7 v8 v9) (T_impl_Pool.mk v10 v11 v12) v13 v14 v15) v3).bind fun r20 => (bif (!r20) then some false else (l_spec_WorldOk_1 K n1 (iAdd .i64 v3 1) v4 v5 v6 v7 v8 v9 v10 v11 v12 v13 v14 v15))) else some false)) else none) else some false)) else none) else some false)) else some false)) else none) else (l_spec_WorldOk_2 K v4 v5 v6 v7 v8 v9 v10 v11 v12 v13 v14 v15 K 0))
def m_spec_WorldOk (K : Nat) (a0 : T_impl_World) : Option (Bool) := ((m_spec_PoolOk K a0.fC a0.fP).bind fun r1 => (bif r1 then (bif ((a0.fL.length : Int) != a0.fC.fSlots) then some false else ((m_spec_TreeOk K a0.fL).bind fun r2 => (bif (!r2) then some false else (l_spec_WorldOk_1 K K 0 a0.fC.fChunks a0.fC.fSize a0.fC.fSlots a0.fC.fTax a0.fC.fSlice a0.fC.fGens a0.fP.fMem a0.fP.fSt a0.fP.fOwn a0.fL a0.fQ a0.fLog)))) else some false))
def s_67 : Sig := ⟨[.v 32], [.v 4], true⟩
def c_67 (K : Nat) : Ctr tyU := ⟨s_67, m_spec_WorldOk K⟩
def x_67 (K : Nat) := xF s_67 [(84, c_24 K), (140, c_42 K), (141, c_45 K), (142, c_60 K), (143, c_62 K), (144, c_63 K), (145, c_65 K), (146, c_66 K), (147, c_53 K), (148, c_51 K)] [] 103 [10, 11, 12, 19, 20, 21, 41, 42, 43, 46, 47, 48, 49, 57, 58, 59, 60, 67, 68, 69, 70] [] [] [] [.tmp 2]
def h_67_250 : Shape := ⟨[(1, .p 101), (5, .v 2)], [(101, .box [.v 2, .v 2, .v 2, .v 2, .v 2, .v 2, .v 22, .v 26, .v 26, .v 29, .v 30, .v 26])]⟩
def h_67_122 : Shape := ⟨[(1, .p 101), (4, .v 2)], [(101, .box [.v 2, .v 2, .v 2, .v 2, .v 2, .v 2, .v 22, .v 26, .v 26, .v 29, .v 30, .v 26])]⟩
def h_67_58 : Shape := ⟨[(1, .p 101), (3, .v 2)], [(101, .box [.v 2, .v 2, .v 2, .v 2, .v 2, .v 2, .v 22, .v 26, .v 26, .v 29, .v 30, .v 26])]⟩
def M_67_250 (K : Nat) (n : Nat) (q : PT h_67_250) : Rt s_67 := l_spec_WorldOk_3 K q.2.1 q.2.2.1 q.2.2.2.1 q.2.2.2.2.1 q.2.2.2.2.2.1 q.2.2.2.2.2.2.1 q.2.2.2.2.2.2.2.1 q.2.2.2.2.2.2.2.2.1 q.2.2.2.2.2.2.2.2.2.1 q.2.2.2.2.2.2.2.2.2.2.1 q.2.2.2.2.2.2.2.2.2.2.2.1 q.2.2.2.2.2.2.2.2.2.2.2.2.1 n q.1
def M_67_122 (K : Nat) (n : Nat) (q : PT h_67_122) : Rt s_67 := l_spec_WorldOk_2 K q.2.1 q.2.2.1 q.2.2.2.1 q.2.2.2.2.1 q.2.2.2.2.2.1 q.2.2.2.2.2.2.1 q.2.2.2.2.2.2.2.1 q.2.2.2.2.2.2.2.2.1 q.2.2.2.2.2.2.2.2.2.1 q.2.2.2.2.2.2.2.2.2.2.1 q.2.2.2.2.2.2.2.2.2.2.2.1 q.2.2.2.2.2.2.2.2.2.2.2.2.1 n q.1
def M_67_58 (K : Nat) (n : Nat) (q : PT h_67_58) : Rt s_67 := l_spec_WorldOk_1 K n q.1 q.2.1 q.2.2.1 q.2.2.2.1 q.2.2.2.2.1 q.2.2.2.2.2.1 q.2.2.2.2.2.2.1 q.2.2.2.2.2.2.2.1 q.2.2.2.2.2.2.2.2.1 q.2.2.2.2.2.2.2.2.2.1 q.2.2.2.2.2.2.2.2.2.2.1 q.2.2.2.2.2.2.2.2.2.2.2.1 q.2.2.2.2.2.2.2.2.2.2.2.2.1
theorem e_67_250 (K : Nat) : AtL (x_67 K) (fun n => []) [] (bd Tryz.f83) 250 (M_67_250 K) := fun n q => by kernel_rfl
theorem e_67_122 (K : Nat) : AtL (x_67 K) (fun n => [(250, ar h_67_250 (M_67_250 K K))]) [] (bd Tryz.f83) 122 (M_67_122 K) := fun n q => by kernel_rfl
theorem e_67_58 (K : Nat) : AtL (x_67 K) (fun n => [(122, ar h_67_122 (M_67_122 K K))]) [] (bd Tryz.f83) 58 (M_67_58 K) := fun n q => by kernel_rfl
theorem xk_67 (K : Nat) : XF [.tmp 2] s_67 103 [] (x_67 K) := xkF (gam_cons (sp_24 K) (gam_cons (sp_42 K) (gam_cons (sp_45 K) (gam_cons (sp_60 K) (gam_cons (sp_62 K) (gam_cons (sp_63 K) (gam_cons (sp_65 K) (gam_cons (sp_66 K) (gam_cons (sp_53 K) (gam_cons (sp_51 K) gam_nil)))))))))) ov_nil
theorem k_67_250 (K : Nat) (n : Nat) : CF [.tmp 2] s_67 103 [] (bd Tryz.f83) [] 250 (ar h_67_250 (M_67_250 K n)) :=
 loopF (xk_67 K) (e_67_250 K) (fun n => cuts_nil) n
theorem k_67_122 (K : Nat) (n : Nat) : CF [.tmp 2] s_67 103 [] (bd Tryz.f83) [] 122 (ar h_67_122 (M_67_122 K n)) :=
 loopF (xk_67 K) (e_67_122 K) (fun n => (cuts_cons (cut_up (by kernel_rfl) (k_67_250 K K)) cuts_nil)) n
theorem k_67_58 (K : Nat) (n : Nat) : CF [.tmp 2] s_67 103 [] (bd Tryz.f83) [] 58 (ar h_67_58 (M_67_58 K n)) :=
 loopF (xk_67 K) (e_67_58 K) (fun n => (cuts_cons (cut_up (by kernel_rfl) (k_67_122 K K)) cuts_nil)) n
theorem sp_67 (K : Nat) : OkF 83 (c_67 K) :=
 ctrF (x := x_67 K) (L := [(58, ar h_67_58 (M_67_58 K K))]) (c0 := bd Tryz.f83) (xk_67 K) (by intro a0; show @Eq _ _ _; kernel_rfl) (cuts_cons (k_67_58 K K) cuts_nil) Tryz.func83 trivial
def m_spec_DeepOf (K : Nat) (a0 : List T_impl_Node) (a1 : Int) : Option (Int) := ((m_spec_Rise K a0 a1).bind fun r1 => some (r1.length : Int))
def s_68 : Sig := ⟨[.v 29, .v 3], [.v 3], true⟩
def c_68 (K : Nat) : Ctr tyU := ⟨s_68, m_spec_DeepOf K⟩
def x_68 (K : Nat) := xF s_68 [(224, c_27 K)] [] 9 [] [] [] [] [.tmp 4]
theorem sp_68 (K : Nat) : OkF 152 (c_68 K) :=
 ctrF (x := x_68 K) (L := []) (c0 := bd Tryz.f152) (xkF (gam_cons (sp_27 K) gam_nil) ov_nil) (by intro a0 a1; show @Eq _ _ _; kernel_rfl) cuts_nil Tryz.func152 trivial
def m_spec_WalkOf (K : Nat) (a0 : T_impl_World) (a1 : T_impl_Handle) : Option (Int) := ((m_spec_PlaceOf K a0.fL a1).bind fun r1 => ((m_spec_DeepOf K a0.fL r1).bind fun r2 => some r2))
def s_69 : Sig := ⟨[.v 32, .v 34], [.v 3], true⟩
def c_69 (K : Nat) : Ctr tyU := ⟨s_69, m_spec_WalkOf K⟩
def x_69 (K : Nat) := xF s_69 [(150, c_25 K), (152, c_68 K)] [] 12 [] [] [] [] [.tmp 4]
theorem sp_69 (K : Nat) : OkF 86 (c_69 K) :=
 ctrF (x := x_69 K) (L := []) (c0 := bd Tryz.f86) (xkF (gam_cons (sp_25 K) (gam_cons (sp_68 K) gam_nil)) ov_nil) (by intro a0 a1; show @Eq _ _ _; kernel_rfl) cuts_nil Tryz.func86 trivial
def m_spec_l11In (K : Nat) (a0 : T_impl_Thing) (a1 : Int) (a2 : Int) : Option (Bool) := (bif (decide (a1 ≥ 0)) then (bif (decide (a2 ≥ 0)) then (bif (decide (a1 ≤ a0.fLen)) then (bif (decide (a2 ≤ (iSub .i64 a0.fLen a1))) then (bif (decide (a0.fAt < 0)) then some true else some (decide ((iAdd .i64 a0.fAt a1) ≥ 0))) else some false) else some false) else some false) else some false)
def s_70 : Sig := ⟨[.v 89, .v 3, .v 3], [.v 4], true⟩
def c_70 (K : Nat) : Ctr tyU := ⟨s_70, m_spec_l11In K⟩
def x_70 (K : Nat) := xF s_70 [] [] 39 [8, 9, 11, 12, 13, 17, 18, 19, 25, 26, 27, 30, 31] [] [] [] [.tmp 6]
theorem sp_70 (K : Nat) : OkF 181 (c_70 K) :=
 ctrF (x := x_70 K) (L := []) (c0 := bd Tryz.f181) (xkF gam_nil ov_nil) (by intro a0 a1 a2; show @Eq _ _ _; kernel_rfl) cuts_nil Tryz.func181 trivial
def m_spec_l2There (K : Nat) (a0 : List Int) (a1 : Int) (a2 : Int) : Option (Bool) := (bif (decide (a1 ≥ 0)) then (bif (decide (a2 ≥ 0)) then (bif (decide (a1 ≤ (a0.length : Int))) then some (decide (a2 ≤ (iSub .i64 (a0.length : Int) a1))) else some false) else some false) else some false)
def s_71 : Sig := ⟨[.v 22, .v 3, .v 3], [.v 4], true⟩
def c_71 (K : Nat) : Ctr tyU := ⟨s_71, m_spec_l2There K⟩
def x_71 (K : Nat) := xF s_71 [] [] 27 [8, 9, 11, 12, 13, 17, 18, 19] [] [] [] [.tmp 6]
theorem sp_71 (K : Nat) : OkF 245 (c_71 K) :=
 ctrF (x := x_71 K) (L := []) (c0 := bd Tryz.f245) (xkF gam_nil ov_nil) (by intro a0 a1 a2; show @Eq _ _ _; kernel_rfl) cuts_nil Tryz.func245 trivial
def m_spec_GetAt (K : Nat) (a0 : List Int) (a1 : Int) (a2 : Int) : Option ((List Int) × Bool) := ((m_spec_l2There K a0 a1 a2).bind fun r1 => (bif (!r1) then some (([] : List Int), false) else (if (0 : Int) ≤ a1 ∧ a1 ≤ (iAdd .i64 a1 a2) ∧ (iAdd .i64 a1 a2) ≤ (a0.length : Int) then (if (([] : List Int) ++ ((a0.drop a1.toNat).take ((iAdd .i64 a1 a2) - a1).toNat)).length * 1 ≤ 140737488355328 ∧ (([] : List Int) ++ ((a0.drop a1.toNat).take ((iAdd .i64 a1 a2) - a1).toNat)).length ≤ maxLen then some ((([] : List Int) ++ ((a0.drop a1.toNat).take ((iAdd .i64 a1 a2) - a1).toNat)), true) else none) else none)))
def s_72 : Sig := ⟨[.v 22, .v 3, .v 3], [.n 22 true, .v 4], true⟩
def c_72 (K : Nat) : Ctr tyU := ⟨s_72, m_spec_GetAt K⟩
def x_72 (K : Nat) := xF s_72 [(245, c_71 K)] [] 22 [] [] [] [] [.tmp 6, .tmp 7]
theorem sp_72 (K : Nat) : OkF 182 (c_72 K) :=
 ctrF (x := x_72 K) (L := []) (c0 := bd Tryz.f182) (xkF (gam_cons (sp_71 K) gam_nil) ov_nil) (by intro a0 a1 a2; show @Eq _ _ _; kernel_rfl) cuts_nil Tryz.func182 trivial
def m_spec_ReadThing (K : Nat) (a0 : List Int) (a1 : T_impl_Thing) (a2 : Int) (a3 : Int) : Option ((List Int) × Bool) := ((m_spec_l11In K a1 a2 a3).bind fun r1 => (bif (!r1) then some (([] : List Int), false) else ((m_spec_GetAt K a0 (iAdd .i64 a1.fAt a2) a3).bind fun r2 => some (r2.1, r2.2))))
def s_73 : Sig := ⟨[.v 22, .v 89, .v 3, .v 3], [.n 22 true, .v 4], true⟩
def c_73 (K : Nat) : Ctr tyU := ⟨s_73, m_spec_ReadThing K⟩
def x_73 (K : Nat) := xF s_73 [(181, c_70 K), (182, c_72 K)] [] 25 [] [] [] [] [.tmp 8, .tmp 9]
theorem sp_73 (K : Nat) : OkF 107 (c_73 K) :=
 ctrF (x := x_73 K) (L := []) (c0 := bd Tryz.f107) (xkF (gam_cons (sp_70 K) (gam_cons (sp_72 K) gam_nil)) ov_nil) (by intro a0 a1 a2 a3; show @Eq _ _ _; kernel_rfl) cuts_nil Tryz.func107 trivial
def m_spec_Read (K : Nat) (a0 : T_impl_World) (a1 : T_impl_Ref) (a2 : Int) (a3 : Int) : Option (T_impl_World × T_impl_Ans) := ((m_spec_l13Copy K a0).bind fun r1 => ((m_spec_WorldOk K a0).bind fun r2 => (bif (!r2) then some (r1, (T_impl_Ans.mk 1 (T_impl_Handle.mk 0 0) (T_impl_Ref.mk (T_impl_Handle.mk 0 0) 0 0) [] 0 0 0)) else ((m_spec_FindThing K a0 a1).bind fun r3 => ((m_spec_WalkOf K a0 a1.fH).bind fun r4 => (bif (r3.2.2 != 0) then some (r1, (T_impl_Ans.mk r3.2.2 (T_impl_Handle.mk 0 0) (T_impl_Ref.mk (T_impl_Handle.mk 0 0) 0 0) [] r4 0 0)) else ((m_spec_ReadThing K a0.fP.fMem r3.2.1 a2 a3).bind fun r5 => (bif (!r5.2) then some (r1, (T_impl_Ans.mk 7 (T_impl_Handle.mk 0 0) (T_impl_Ref.mk (T_impl_Handle.mk 0 0) 0 0) [] r4 0 0)) else some (r1, (T_impl_Ans.mk r3.2.2 (T_impl_Handle.mk 0 0) (T_impl_Ref.mk (T_impl_Handle.mk 0 0) 0 0) r5.1 r4 0 0))))))))))
def s_74 : Sig := ⟨[.v 32, .v 36, .v 3, .v 3], [.n 32 true, .n 69 true], true⟩
def c_74 (K : Nat) : Ctr tyU := ⟨s_74, m_spec_Read K⟩
def x_74 (K : Nat) := xF s_74 [(82, c_38 K), (83, c_67 K), (86, c_69 K), (106, c_32 K), (107, c_73 K)] [] 60 [] [(7, [.take 114 7 6831]), (11, [.take 114 7 6831])] [] [] [.cell 8 32, .cell 9 69]
theorem sp_74 (K : Nat) : OkF 43 (c_74 K) :=
 ctrF (x := x_74 K) (L := []) (c0 := bd Tryz.f43) (xkF (gam_cons (sp_38 K) (gam_cons (sp_67 K) (gam_cons (sp_69 K) (gam_cons (sp_32 K) (gam_cons (sp_73 K) gam_nil))))) ov_nil) (by intro a0 a1 a2 a3; show @Eq _ _ _; kernel_rfl) cuts_nil Tryz.func43 trivial
def m_spec_ReadAll (K : Nat) (a0 : T_impl_World) (a1 : T_impl_Ref) : Option ((List Int)) := ((m_spec_SizeOf K a0 a1).bind fun r1 => ((m_spec_Read K a0 a1 0 r1).bind fun r2 => (if (([] : List Int) ++ r2.2.fB).length * 1 ≤ 140737488355328 ∧ (([] : List Int) ++ r2.2.fB).length ≤ maxLen then some (([] : List Int) ++ r2.2.fB) else none)))
def s_75 : Sig := ⟨[.v 32, .v 36], [.n 22 true], true⟩
def c_75 (K : Nat) : Ctr tyU := ⟨s_75, m_spec_ReadAll K⟩
def x_75 (K : Nat) := xF s_75 [(43, c_74 K), (76, c_33 K)] [] 20 [] [] [] [] [.tmp 4]
theorem sp_75 (K : Nat) : OkF 24 (c_75 K) :=
 ctrF (x := x_75 K) (L := []) (c0 := bd Tryz.f24) (xkF (gam_cons (sp_74 K) (gam_cons (sp_33 K) gam_nil)) ov_nil) (by intro a0 a1; show @Eq _ _ _; kernel_rfl) cuts_nil Tryz.func24 trivial
def m_impl_HandleOk (K : Nat) (a0 : T_impl_Handle) : Option (Bool) := (bif (decide (a0.fSlot ≥ 0)) then some (decide (a0.fGen ≥ 1)) else some false)
def s_76 : Sig := ⟨[.v 34], [.v 4], true⟩
def c_76 (K : Nat) : Ctr tyU := ⟨s_76, m_impl_HandleOk K⟩
def x_76 (K : Nat) := xF s_76 [] [] 11 [5, 6] [] [] [] [.tmp 2]
theorem sp_76 (K : Nat) : OkF 164 (c_76 K) :=
 ctrF (x := x_76 K) (L := []) (c0 := bd Tryz.f164) (xkF gam_nil ov_nil) (by intro a0; show @Eq _ _ _; kernel_rfl) cuts_nil Tryz.func164 trivial
def m_impl_RefOk (K : Nat) (a0 : T_impl_Ref) : Option (Bool) := ((m_impl_HandleOk K a0.fH).bind fun r1 => (bif r1 then (bif (decide (a0.fEp ≥ 0)) then some (decide (a0.fNo ≥ 0)) else some false) else some false))
def s_77 : Sig := ⟨[.v 36], [.v 4], true⟩
def c_77 (K : Nat) : Ctr tyU := ⟨s_77, m_impl_RefOk K⟩
def x_77 (K : Nat) := xF s_77 [(164, c_76 K)] [] 16 [5, 6, 9, 10, 11] [] [] [] [.tmp 2]
theorem sp_77 (K : Nat) : OkF 183 (c_77 K) :=
 ctrF (x := x_77 K) (L := []) (c0 := bd Tryz.f183) (xkF (gam_cons (sp_76 K) gam_nil) ov_nil) (by intro a0; show @Eq _ _ _; kernel_rfl) cuts_nil Tryz.func183 trivial
def m_impl_within (K : Nat) (a0 : Int) (a1 : Int) (a2 : Int) : Option (Bool) := (bif (decide (a0 ≥ a1)) then some (decide (a0 ≤ a2)) else some false)
def s_78 : Sig := ⟨[.v 3, .v 3, .v 3], [.v 4], true⟩
def c_78 (K : Nat) : Ctr tyU := ⟨s_78, m_impl_within K⟩
def x_78 (K : Nat) := xF s_78 [] [] 15 [9, 10] [] [] [] [.tmp 6]
theorem sp_78 (K : Nat) : OkF 88 (c_78 K) :=
 ctrF (x := x_78 K) (L := []) (c0 := bd Tryz.f88) (xkF gam_nil ov_nil) (by intro a0 a1 a2; show @Eq _ _ _; kernel_rfl) cuts_nil Tryz.func88 trivial
def m_impl_isSlot (K : Nat) (a0 : List T_impl_Node) (a1 : Int) : Option (Bool) := ((m_impl_within K a1 0 (iSub .i64 (a0.length : Int) 1)).bind fun r1 => some r1)
def s_79 : Sig := ⟨[.v 29, .v 3], [.v 4], true⟩
def c_79 (K : Nat) : Ctr tyU := ⟨s_79, m_impl_isSlot K⟩
def x_79 (K : Nat) := xF s_79 [(88, c_78 K)] [] 10 [] [] [] [] [.tmp 4]
theorem sp_79 (K : Nat) : OkF 171 (c_79 K) :=
 ctrF (x := x_79 K) (L := []) (c0 := bd Tryz.f171) (xkF (gam_cons (sp_78 K) gam_nil) ov_nil) (by intro a0 a1; show @Eq _ _ _; kernel_rfl) cuts_nil Tryz.func171 trivial
def m_impl_PlaceOf (K : Nat) (a0 : List T_impl_Node) (a1 : T_impl_Handle) : Option (Int) := ((m_impl_isSlot K a0 a1.fSlot).bind fun r1 => (bif r1 then (if (0 : Int) ≤ a1.fSlot ∧ a1.fSlot < (a0.length : Int) then (bif (((gt a0 a1.fSlot).fSt) != 1) then some (-1) else (if (0 : Int) ≤ a1.fSlot ∧ a1.fSlot < (a0.length : Int) then (bif (((gt a0 a1.fSlot).fGen) != a1.fGen) then some (-1) else some a1.fSlot) else none)) else none) else some (-1)))
def s_80 : Sig := ⟨[.v 29, .v 34], [.v 3], true⟩
def c_80 (K : Nat) : Ctr tyU := ⟨s_80, m_impl_PlaceOf K⟩
def x_80 (K : Nat) := xF s_80 [(171, c_79 K)] [] 32 [8, 9, 10, 17, 18, 19] [] [] [] [.tmp 4]
theorem sp_80 (K : Nat) : OkF 163 (c_80 K) :=
 ctrF (x := x_80 K) (L := []) (c0 := bd Tryz.f163) (xkF (gam_cons (sp_79 K) gam_nil) ov_nil) (by intro a0 a1; show @Eq _ _ _; kernel_rfl) cuts_nil Tryz.func163 trivial
def l_impl_Rise_1 (K : Nat) (a0 : List T_impl_Node) : Nat -> Int -> (List Int) -> Option ((List Int))
 | 0, _, _ => none
 | n1 + 1, v1, v2 => ((m_impl_isSlot K a0 v1).bind fun r3 => (bif r3 then (bif (decide ((v2.length : Int) < (a0.length : Int))) then (if (v2 ++ ([v1] : List Int)).length * 8 ≤ 140737488355328 ∧ (v2 ++ ([v1] : List Int)).length ≤ maxLen then (if (0 : Int) ≤ v1 ∧ v1 < (a0.length : Int) then (l_impl_Rise_1 K a0 n1 (iSub .i64 ((gt a0 v1).fUp) 1) (v2 ++ ([v1] : List Int))) else none) else none) else some v2) else some v2))
def m_impl_Rise (K : Nat) (a0 : List T_impl_Node) (a1 : Int) : Option ((List Int)) := (l_impl_Rise_1 K a0 K a1 ([] : List Int))
def s_81 : Sig := ⟨[.v 29, .v 3], [.n 26 true], true⟩
def c_81 (K : Nat) : Ctr tyU := ⟨s_81, m_impl_Rise K⟩
def x_81 (K : Nat) := xF s_81 [(171, c_79 K)] [] 28 [9, 10] [] [] [] [.tmp 4]
def h_81_28 : Shape := ⟨[(0, .v 29), (1, .v 2), (5, .o 1005 3 true)], []⟩
def M_81_28 (K : Nat) (n : Nat) (q : PT h_81_28) : Rt s_81 := l_impl_Rise_1 K q.1 n q.2.1 q.2.2.1
theorem e_81_28 (K : Nat) : AtL (x_81 K) (fun n => []) [] (bd Tryz.f232) 28 (M_81_28 K) := fun n q => by kernel_rfl
theorem xk_81 (K : Nat) : XF [.tmp 4] s_81 28 [] (x_81 K) := xkF (gam_cons (sp_79 K) gam_nil) ov_nil
theorem k_81_28 (K : Nat) (n : Nat) : CF [.tmp 4] s_81 28 [] (bd Tryz.f232) [] 28 (ar h_81_28 (M_81_28 K n)) :=
 loopF (xk_81 K) (e_81_28 K) (fun n => cuts_nil) n
theorem sp_81 (K : Nat) : OkF 232 (c_81 K) :=
 ctrF (x := x_81 K) (L := [(28, ar h_81_28 (M_81_28 K K))]) (c0 := bd Tryz.f232) (xk_81 K) (by intro a0 a1; show @Eq _ _ _; kernel_rfl) (cuts_cons (k_81_28 K K) cuts_nil) Tryz.func232 trivial
def j_impl_Alive_2 (K : Nat) (v2 : List Int) (v3 : Int) (v4 : Int) (C1 : (List Int) -> Int -> Int -> Option (Bool)) : Option (Bool) := (C1 v2 v3 (iAdd .i64 v4 1))
def l_impl_Alive_1 (K : Nat) (a0 : List T_impl_Node) (r1 : (List Int)) : Nat -> (List Int) -> Int -> Int -> Option (Bool)
 | 0, _, _, _ => none
 | n1 + 1, v2, v3, v4 => (bif (decide (v4 < v3)) then (if (0 : Int) ≤ v4 ∧ v4 < (v2.length : Int) then (if (0 : Int) ≤ (gt v2 v4) ∧ (gt v2 v4) < (a0.length : Int) then (bif (((gt a0 (gt v2 v4)).fSt) != 1) then some false else (bif (decide ((iAdd .i64 v4 1) < (r1.length : Int))) then (if (0 : Int) ≤ (gt v2 v4) ∧ (gt v2 v4) < (a0.length : Int) then (if (0 : Int) ≤ (iAdd .i64 v4 1) ∧ (iAdd .i64 v4 1) < (r1.length : Int) then (if (0 : Int) ≤ (gt r1 (iAdd .i64 v4 1)) ∧ (gt r1 (iAdd .i64 v4 1)) < (a0.length : Int) then (bif (((gt a0 (gt v2 v4)).fUpEp) != ((gt a0 (gt r1 (iAdd .i64 v4 1))).fEp)) then some false else (j_impl_Alive_2 K v2 v3 v4 (l_impl_Alive_1 K a0 r1 n1))) else none) else none) else none) else (j_impl_Alive_2 K v2 v3 v4 (l_impl_Alive_1 K a0 r1 n1)))) else none) else none) else (bif (decide ((r1.length : Int) > 0)) then (if (0 : Int) ≤ (iSub .i64 (r1.length : Int) 1) ∧ (iSub .i64 (r1.length : Int) 1) < (r1.length : Int) then (if (0 : Int) ≤ (gt r1 (iSub .i64 (r1.length : Int) 1)) ∧ (gt r1 (iSub .i64 (r1.length : Int) 1)) < (a0.length : Int) then some (((gt a0 (gt r1 (iSub .i64 (r1.length : Int) 1))).fUp) == 0) else none) else none) else some false))
def m_impl_Alive (K : Nat) (a0 : List T_impl_Node) (a1 : Int) : Option (Bool) := ((m_impl_Rise K a0 a1).bind fun r1 => (l_impl_Alive_1 K a0 r1 K r1 (r1.length : Int) 0))
def s_82 : Sig := ⟨[.v 29, .v 3], [.v 4], true⟩
def c_82 (K : Nat) : Ctr tyU := ⟨s_82, m_impl_Alive K⟩
def x_82 (K : Nat) := xF s_82 [(232, c_81 K)] [] 63 [28, 29, 49, 50] [] [] [467] [.tmp 4]
def h_82_467 : Shape := ⟨[(0, .v 29), (5, .v 26), (11, .v 26), (12, .v 2), (13, .v 2)], []⟩
def h_82_58 : Shape := ⟨[(0, .v 29), (5, .v 26), (11, .v 26), (12, .v 2), (13, .v 2)], []⟩
def M_82_467 (K : Nat) (C58 : CT h_82_58 s_82) (q : PT h_82_467) : Rt s_82 := j_impl_Alive_2 K q.2.2.1 q.2.2.2.1 q.2.2.2.2.1 (fun v2 v3 v4 => C58 (q.1, q.2.1, v2, v3, v4, ()))
def M_82_58 (K : Nat) (n : Nat) (q : PT h_82_58) : Rt s_82 := l_impl_Alive_1 K q.1 q.2.1 n q.2.2.1 q.2.2.2.1 q.2.2.2.2.1
theorem e_82_467 (K : Nat) (C58 : CT h_82_58 s_82) : AtJ (x_82 K) [] [(58, ar h_82_58 C58)] (bd Tryz.f165) 467 (M_82_467 K C58) := fun q => by kernel_rfl
theorem e_82_58 (K : Nat) : AtL (x_82 K) (fun n => [(467, ar h_82_467 (M_82_467 K (M_82_58 K n)))]) [] (bd Tryz.f165) 58 (M_82_58 K) := fun n q => by kernel_rfl
theorem xk_82 (K : Nat) : XF [.tmp 4] s_82 63 [467] (x_82 K) := xkF (gam_cons (sp_81 K) gam_nil) ov_nil
theorem k_82_467 (K : Nat) (C58 : CT h_82_58 s_82) : CF [.tmp 4] s_82 63 [467] (bd Tryz.f165) [(58, ar h_82_58 C58)] 467 (ar h_82_467 (M_82_467 K C58)) :=
 joinF (xk_82 K) (e_82_467 K C58) cuts_nil
theorem k_82_58 (K : Nat) (n : Nat) : CF [.tmp 4] s_82 63 [467] (bd Tryz.f165) [] 58 (ar h_82_58 (M_82_58 K n)) :=
 loopF (xk_82 K) (e_82_58 K) (fun n => (cuts_cons (k_82_467 K (M_82_58 K n)) cuts_nil)) n
theorem sp_82 (K : Nat) : OkF 165 (c_82 K) :=
 ctrF (x := x_82 K) (L := [(58, ar h_82_58 (M_82_58 K K))]) (c0 := bd Tryz.f165) (xk_82 K) (by intro a0 a1; show @Eq _ _ _; kernel_rfl) (cuts_cons (k_82_58 K K) cuts_nil) Tryz.func165 trivial
def m_impl_FindRoom (K : Nat) (a0 : T_impl_World) (a1 : T_impl_Handle) : Option (Int × Int) := ((m_impl_HandleOk K a1).bind fun r1 => (bif (!r1) then some ((-1), 1) else ((m_impl_PlaceOf K a0.fL a1).bind fun r2 => (bif (decide (r2 < 0)) then some ((-1), 2) else ((m_impl_Alive K a0.fL r2).bind fun r3 => (bif (!r3) then some ((-1), 2) else some (r2, 0)))))))
def s_83 : Sig := ⟨[.v 32, .v 34], [.v 3, .v 3], true⟩
def c_83 (K : Nat) : Ctr tyU := ⟨s_83, m_impl_FindRoom K⟩
def x_83 (K : Nat) := xF s_83 [(163, c_80 K), (164, c_76 K), (165, c_82 K)] [] 24 [15, 16] [] [] [] [.tmp 4, .tmp 5]
theorem sp_83 (K : Nat) : OkF 92 (c_83 K) :=
 ctrF (x := x_83 K) (L := []) (c0 := bd Tryz.f92) (xkF (gam_cons (sp_80 K) (gam_cons (sp_76 K) (gam_cons (sp_82 K) gam_nil))) ov_nil) (by intro a0 a1; show @Eq _ _ _; kernel_rfl) cuts_nil Tryz.func92 trivial
def m_impl_ThingOf (K : Nat) (a0 : T_impl_Node) (a1 : T_impl_Ref) : Option (T_impl_Thing × Bool) := (bif (a0.fSt != 1) then some ((T_impl_Thing.mk 0 0 0), false) else (bif (a0.fEp != a1.fEp) then some ((T_impl_Thing.mk 0 0 0), false) else ((m_impl_within K a1.fNo 0 (iSub .i64 (a0.fThings.length : Int) 1)).bind fun r1 => (bif (!r1) then some ((T_impl_Thing.mk 0 0 0), false) else (if (0 : Int) ≤ a1.fNo ∧ a1.fNo < (a0.fThings.length : Int) then some ((gt a0.fThings a1.fNo), true) else none)))))
def s_84 : Sig := ⟨[.v 44, .v 36], [.v 89, .v 4], true⟩
def c_84 (K : Nat) : Ctr tyU := ⟨s_84, m_impl_ThingOf K⟩
def x_84 (K : Nat) := xF s_84 [(88, c_78 K)] [] 33 [8, 9, 14, 15, 16] [] [] [] [.cell 4 89, .tmp 5]
theorem sp_84 (K : Nat) : OkF 184 (c_84 K) :=
 ctrF (x := x_84 K) (L := []) (c0 := bd Tryz.f184) (xkF (gam_cons (sp_78 K) gam_nil) ov_nil) (by intro a0 a1; show @Eq _ _ _; kernel_rfl) cuts_nil Tryz.func184 trivial
def m_impl_FindThing (K : Nat) (a0 : T_impl_World) (a1 : T_impl_Ref) : Option (Int × T_impl_Thing × Int) := ((m_impl_RefOk K a1).bind fun r1 => (bif (!r1) then some ((-1), (T_impl_Thing.mk 0 0 0), 1) else ((m_impl_FindRoom K a0 a1.fH).bind fun r2 => (bif (r2.2 != 0) then some ((-1), (T_impl_Thing.mk 0 0 0), r2.2) else (if (0 : Int) ≤ r2.1 ∧ r2.1 < (a0.fL.length : Int) then ((m_impl_ThingOf K (gt a0.fL r2.1) a1).bind fun r3 => (bif (!r3.2) then some ((-1), (T_impl_Thing.mk 0 0 0), 2) else some (r2.1, r3.1, 0))) else none)))))
def s_85 : Sig := ⟨[.v 32, .v 36], [.v 3, .v 89, .v 3], true⟩
def c_85 (K : Nat) : Ctr tyU := ⟨s_85, m_impl_FindThing K⟩
def x_85 (K : Nat) := xF s_85 [(92, c_83 K), (183, c_77 K), (184, c_84 K)] [] 41 [] [] [] [] [.tmp 4, .cell 5 89, .tmp 6]
theorem sp_85 (K : Nat) : OkF 108 (c_85 K) :=
 ctrF (x := x_85 K) (L := []) (c0 := bd Tryz.f108) (xkF (gam_cons (sp_83 K) (gam_cons (sp_77 K) (gam_cons (sp_84 K) gam_nil))) ov_nil) (by intro a0 a1; show @Eq _ _ _; kernel_rfl) cuts_nil Tryz.func108 trivial
def m_impl_SizeOf (K : Nat) (a0 : T_impl_World) (a1 : T_impl_Ref) : Option (Int) := ((m_impl_FindThing K a0 a1).bind fun r1 => some r1.2.1.fLen)
def s_86 : Sig := ⟨[.v 32, .v 36], [.v 3], true⟩
def c_86 (K : Nat) : Ctr tyU := ⟨s_86, m_impl_SizeOf K⟩
def x_86 (K : Nat) := xF s_86 [(108, c_85 K)] [] 17 [] [] [] [] [.tmp 4]
theorem sp_86 (K : Nat) : OkF 77 (c_86 K) :=
 ctrF (x := x_86 K) (L := []) (c0 := bd Tryz.f77) (xkF (gam_cons (sp_85 K) gam_nil) ov_nil) (by intro a0 a1; show @Eq _ _ _; kernel_rfl) cuts_nil Tryz.func77 trivial
def m_impl_ConfOk (K : Nat) (a0 : T_impl_Conf) : Option (Bool) := ((m_impl_within K a0.fChunks 2 12).bind fun r1 => (bif r1 then ((m_impl_within K a0.fSize 8 16).bind fun r2 => (bif r2 then ((m_impl_within K a0.fSlots 2 8).bind fun r3 => (bif r3 then ((m_impl_within K a0.fTax 1 8).bind fun r4 => (bif r4 then ((m_impl_within K a0.fSlice 1 16).bind fun r5 => (bif r5 then ((m_impl_within K a0.fGens 1 4).bind fun r6 => some r6) else some false)) else some false)) else some false)) else some false)) else some false))
def s_87 : Sig := ⟨[.v 25], [.v 4], true⟩
def c_87 (K : Nat) : Ctr tyU := ⟨s_87, m_impl_ConfOk K⟩
def x_87 (K : Nat) := xF s_87 [(88, c_78 K)] [] 31 [5, 6, 9, 10, 11, 14, 15, 16, 19, 20, 21, 24, 25, 26] [] [] [] [.tmp 2]
theorem sp_87 (K : Nat) : OkF 198 (c_87 K) :=
 ctrF (x := x_87 K) (L := []) (c0 := bd Tryz.f198) (xkF (gam_cons (sp_78 K) gam_nil) ov_nil) (by intro a0; show @Eq _ _ _; kernel_rfl) cuts_nil Tryz.func198 trivial
def m_impl_BytesOf (K : Nat) (a0 : T_impl_Conf) : Option (Int) := ((m_impl_ConfOk K a0).bind fun r1 => (bif (!r1) then some 0 else some (iMul .i64 a0.fChunks a0.fSize)))
def s_88 : Sig := ⟨[.v 25], [.v 3], true⟩
def c_88 (K : Nat) : Ctr tyU := ⟨s_88, m_impl_BytesOf K⟩
def x_88 (K : Nat) := xF s_88 [(198, c_87 K)] [] 11 [] [] [] [] [.tmp 2]
theorem sp_88 (K : Nat) : OkF 123 (c_88 K) :=
 ctrF (x := x_88 K) (L := []) (c0 := bd Tryz.f123) (xkF (gam_cons (sp_87 K) gam_nil) ov_nil) (by intro a0; show @Eq _ _ _; kernel_rfl) cuts_nil Tryz.func123 trivial
def m_impl_Pool_chunk (K : Nat) (a0 : T_impl_Pool) (a1 : T_impl_Conf) (a2 : Int) : Option ((List Int)) := (if (0 : Int) ≤ (iMul .i64 a2 a1.fSize) ∧ (iMul .i64 a2 a1.fSize) ≤ (iMul .i64 (iAdd .i64 a2 1) a1.fSize) ∧ (iMul .i64 (iAdd .i64 a2 1) a1.fSize) ≤ (a0.fMem.length : Int) then some ((a0.fMem.drop (iMul .i64 a2 a1.fSize).toNat).take ((iMul .i64 (iAdd .i64 a2 1) a1.fSize) - (iMul .i64 a2 a1.fSize)).toNat) else none)
def s_89 : Sig := ⟨[.v 28, .v 25, .v 3], [.v 22], false⟩
def c_89 (K : Nat) : Ctr tyU := ⟨s_89, m_impl_Pool_chunk K⟩
def x_89 (K : Nat) := xF s_89 [] [] 19 [] [] [] [] [.tmp 6]
theorem sp_89 (K : Nat) : OkF 227 (c_89 K) :=
 ctrF (x := x_89 K) (L := []) (c0 := bd Tryz.f227) (xkF gam_nil ov_nil) (by intro a0 a1 a2; show @Eq _ _ _; kernel_rfl) cuts_nil Tryz.func227 trivial
def m_impl_IsZero_1 (K : Nat) (a0 : Int) : Option (Bool) := some (a0 != 0)
def s_90 : Sig := ⟨[.v 5], [.v 4], true⟩
def c_90 (K : Nat) : Ctr tyU := ⟨s_90, m_impl_IsZero_1 K⟩
def x_90 (K : Nat) := xF s_90 [] [] 5 [] [] [] [] [.tmp 2]
theorem sp_90 (K : Nat) : OkF 268 (c_90 K) :=
 ctrF (x := x_90 K) (L := []) (c0 := bd Tryz.f268) (xkF gam_nil ov_nil) (by intro a0; show @Eq _ _ _; kernel_rfl) cuts_nil Tryz.func268 trivial
def l_slices_IndexFunc_byte_impl_IsZero_1_1 (K : Nat) (a0 : List Int) : Nat -> Int -> Int -> Option (Int)
 | 0, _, _ => none
 | n1 + 1, v1, v2 => (bif (decide (v2 < v1)) then (if (0 : Int) ≤ v2 ∧ v2 < (a0.length : Int) then ((m_impl_IsZero_1 K (gt a0 v2)).bind fun r3 => (bif r3 then some v2 else (l_slices_IndexFunc_byte_impl_IsZero_1_1 K a0 n1 v1 (iAdd .i64 v2 1)))) else none) else some (-1))
def m_slices_IndexFunc_byte_impl_IsZero_1 (K : Nat) (a0 : List Int) : Option (Int) := (l_slices_IndexFunc_byte_impl_IsZero_1_1 K a0 K (a0.length : Int) 0)
def s_91 : Sig := ⟨[.v 22, .f 268 [] []], [.v 3], true⟩
def c_91 (K : Nat) : Ctr tyU := ⟨s_91, m_slices_IndexFunc_byte_impl_IsZero_1 K⟩
def x_91 (K : Nat) := xF s_91 [(268, c_90 K)] [] 19 [] [] [] [] [.tmp 4]
def h_91_26 : Shape := ⟨[(0, .v 22), (1, .f 268 [] []), (7, .v 2), (8, .v 2)], []⟩
def M_91_26 (K : Nat) (n : Nat) (q : PT h_91_26) : Rt s_91 := l_slices_IndexFunc_byte_impl_IsZero_1_1 K q.1 n q.2.1 q.2.2.1
theorem e_91_26 (K : Nat) : AtL (x_91 K) (fun n => []) [] (bd Tryz.f297) 26 (M_91_26 K) := fun n q => by kernel_rfl
theorem xk_91 (K : Nat) : XF [.tmp 4] s_91 19 [] (x_91 K) := xkF (gam_cons (sp_90 K) gam_nil) ov_nil
theorem k_91_26 (K : Nat) (n : Nat) : CF [.tmp 4] s_91 19 [] (bd Tryz.f297) [] 26 (ar h_91_26 (M_91_26 K n)) :=
 loopF (xk_91 K) (e_91_26 K) (fun n => cuts_nil) n
theorem sp_91 (K : Nat) : OkF 297 (c_91 K) :=
 ctrF (x := x_91 K) (L := [(26, ar h_91_26 (M_91_26 K K))]) (c0 := bd Tryz.f297) (xk_91 K) (by intro a0; show @Eq _ _ _; kernel_rfl) (cuts_cons (k_91_26 K K) cuts_nil) Tryz.func297 trivial
def m_slices_ContainsFunc_byte_impl_IsZero_1 (K : Nat) (a0 : List Int) : Option (Bool) := ((m_slices_IndexFunc_byte_impl_IsZero_1 K a0).bind fun r1 => some (decide (r1 ≥ 0)))
def s_92 : Sig := ⟨[.v 22, .f 268 [] []], [.v 4], true⟩
def c_92 (K : Nat) : Ctr tyU := ⟨s_92, m_slices_ContainsFunc_byte_impl_IsZero_1 K⟩
def x_92 (K : Nat) := xF s_92 [(297, c_91 K)] [] 9 [] [] [] [] [.tmp 4]
theorem sp_92 (K : Nat) : OkF 267 (c_92 K) :=
 ctrF (x := x_92 K) (L := []) (c0 := bd Tryz.f267) (xkF (gam_cons (sp_91 K) gam_nil) ov_nil) (by intro a0; show @Eq _ _ _; kernel_rfl) cuts_nil Tryz.func267 trivial
def m_impl_IsZero (K : Nat) (a0 : List Int) : Option (Bool) := ((m_slices_ContainsFunc_byte_impl_IsZero_1 K a0).bind fun r1 => some (!r1))
def s_93 : Sig := ⟨[.v 22], [.v 4], true⟩
def c_93 (K : Nat) : Ctr tyU := ⟨s_93, m_impl_IsZero K⟩
def x_93 (K : Nat) := xF s_93 [(267, c_92 K)] [] 6 [] [] [] [] [.tmp 2]
theorem sp_93 (K : Nat) : OkF 226 (c_93 K) :=
 ctrF (x := x_93 K) (L := []) (c0 := bd Tryz.f226) (xkF (gam_cons (sp_92 K) gam_nil) ov_nil) (by intro a0; show @Eq _ _ _; kernel_rfl) cuts_nil Tryz.func226 trivial
def j_impl_PoolOk_3 (K : Nat) (v3 : List Int) (v4 : Int) (v6 : List Int) (v7 : List Int) (v8 : List Int) (v12 : Int) (C1 : (List Int) -> Int -> Int -> (List Int) -> (List Int) -> (List Int) -> Option (Bool)) (v16 : Bool) : Option (Bool) := (bif v16 then some false else (C1 v3 v4 (iAdd .i64 v12 1) v6 v7 v8))
def j_impl_PoolOk_2 (K : Nat) (a0 : T_impl_Conf) (v3 : List Int) (v4 : Int) (v5 : Int) (v6 : List Int) (v7 : List Int) (v8 : List Int) (C1 : (List Int) -> Int -> Int -> (List Int) -> (List Int) -> (List Int) -> Option (Bool)) (v11 : Int) (v12 : Int) (v13 : Bool) : Option (Bool) := (bif v13 then some false else (bif (v11 == 0) then ((m_impl_Pool_chunk K (T_impl_Pool.mk v6 v7 v8) a0 v5).bind fun r14 => ((m_impl_IsZero K r14).bind fun r15 => (j_impl_PoolOk_3 K v3 v4 v6 v7 v8 v12 (C1) (!r15)))) else (j_impl_PoolOk_3 K v3 v4 v6 v7 v8 v12 (C1) false)))
def l_impl_PoolOk_1 (K : Nat) (a0 : T_impl_Conf) : Nat -> (List Int) -> Int -> Int -> (List Int) -> (List Int) -> (List Int) -> Option (Bool)
 | 0, _, _, _, _, _, _ => none
 | n1 + 1, v3, v4, v5, v6, v7, v8 => (bif (decide (v5 < v4)) then (if (0 : Int) ≤ v5 ∧ v5 < (v3.length : Int) then ((m_impl_within K (gt v3 v5) 0 2).bind fun r9 => (bif (!r9) then some false else (bif ((gt v3 v5) == 1) then (if (0 : Int) ≤ v5 ∧ v5 < (v8.length : Int) then ((m_impl_within K (gt v8 v5) 0 (iSub .i64 a0.fSlots 1)).bind fun r10 => (bif r10 then (bif ((gt v3 v5) != 1) then (if (0 : Int) ≤ v5 ∧ v5 < (v8.length : Int) then (j_impl_PoolOk_2 K a0 v3 v4 v5 v6 v7 v8 (l_impl_PoolOk_1 K a0 n1) (gt v3 v5) v5 ((gt v8 v5) != (-1))) else none) else (j_impl_PoolOk_2 K a0 v3 v4 v5 v6 v7 v8 (l_impl_PoolOk_1 K a0 n1) (gt v3 v5) v5 false)) else (j_impl_PoolOk_2 K a0 v3 v4 v5 v6 v7 v8 (l_impl_PoolOk_1 K a0 n1) (gt v3 v5) v5 true))) else none) else (bif ((gt v3 v5) != 1) then (if (0 : Int) ≤ v5 ∧ v5 < (v8.length : Int) then (j_impl_PoolOk_2 K a0 v3 v4 v5 v6 v7 v8 (l_impl_PoolOk_1 K a0 n1) (gt v3 v5) v5 ((gt v8 v5) != (-1))) else none) else (j_impl_PoolOk_2 K a0 v3 v4 v5 v6 v7 v8 (l_impl_PoolOk_1 K a0 n1) (gt v3 v5) v5 false))))) else none) else some true)
def m_impl_PoolOk (K : Nat) (a0 : T_impl_Conf) (a1 : T_impl_Pool) : Option (Bool) := ((m_impl_ConfOk K a0).bind fun r1 => (bif r1 then ((m_impl_BytesOf K a0).bind fun r2 => (bif ((a1.fMem.length : Int) != r2) then some false else (bif ((a1.fSt.length : Int) != a0.fChunks) then some false else (bif ((a1.fOwn.length : Int) != a0.fChunks) then some false else (l_impl_PoolOk_1 K a0 K a1.fSt (a1.fSt.length : Int) 0 a1.fMem a1.fSt a1.fOwn))))) else some false))
def s_94 : Sig := ⟨[.v 25, .v 28], [.v 4], true⟩
def c_94 (K : Nat) : Ctr tyU := ⟨s_94, m_impl_PoolOk K⟩
def x_94 (K : Nat) := xF s_94 [(88, c_78 K), (123, c_88 K), (198, c_87 K), (226, c_93 K), (227, c_89 K)] [] 85 [8, 9, 10, 16, 17, 18, 24, 25, 26, 48, 49, 58, 59, 60, 61, 63, 64, 75, 76] [] [] [29899, 119599] [.tmp 4]
def h_94_119599 : Shape := ⟨[(2, .p 102), (3, .p 103), (35, .v 26), (36, .v 2), (37, .v 2), (73, .v 4)], [(103, .box [.v 22, .v 26, .v 26]), (102, .st 25 true)]⟩
def h_94_29899 : Shape := ⟨[(2, .p 102), (3, .p 103), (5, .v 2), (6, .v 2), (35, .v 26), (36, .v 2), (37, .v 2), (46, .v 4)], [(103, .box [.v 22, .v 26, .v 26]), (102, .st 25 true)]⟩
def h_94_58 : Shape := ⟨[(2, .p 102), (3, .p 103), (35, .v 26), (36, .v 2), (37, .v 2)], [(103, .box [.v 22, .v 26, .v 26]), (102, .st 25 true)]⟩
def M_94_119599 (K : Nat) (C58 : CT h_94_58 s_94) (q : PT h_94_119599) : Rt s_94 := j_impl_PoolOk_3 K q.1 q.2.1 q.2.2.2.2.1 q.2.2.2.2.2.1 q.2.2.2.2.2.2.1 q.2.2.1 (fun v3 v4 v5 v6 v7 v8 => C58 (v3, v4, v5, v6, v7, v8, q.2.2.2.2.2.2.2.1, ())) q.2.2.2.1
def M_94_29899 (K : Nat) (C58 : CT h_94_58 s_94) (q : PT h_94_29899) : Rt s_94 := j_impl_PoolOk_2 K q.2.2.2.2.2.2.2.2.2.1 q.2.2.1 q.2.2.2.1 q.1 q.2.2.2.2.2.2.1 q.2.2.2.2.2.2.2.1 q.2.2.2.2.2.2.2.2.1 (fun v3 v4 v5 v6 v7 v8 => C58 (v3, v4, v5, v6, v7, v8, q.2.2.2.2.2.2.2.2.2.1, ())) q.2.1 q.2.2.2.2.1 q.2.2.2.2.2.1
def M_94_58 (K : Nat) (n : Nat) (q : PT h_94_58) : Rt s_94 := l_impl_PoolOk_1 K q.2.2.2.2.2.2.1 n q.1 q.2.1 q.2.2.1 q.2.2.2.1 q.2.2.2.2.1 q.2.2.2.2.2.1
theorem e_94_119599 (K : Nat) (C58 : CT h_94_58 s_94) : AtJ (x_94 K) [] [(58, ar h_94_58 C58)] (bd Tryz.f153) 119599 (M_94_119599 K C58) := fun q => by kernel_rfl
theorem e_94_29899 (K : Nat) (C58 : CT h_94_58 s_94) : AtJ (x_94 K) [(119599, ar h_94_119599 (M_94_119599 K C58))] [(58, ar h_94_58 C58)] (bd Tryz.f153) 29899 (M_94_29899 K C58) := fun q => by kernel_rfl
theorem e_94_58 (K : Nat) : AtL (x_94 K) (fun n => [(29899, ar h_94_29899 (M_94_29899 K (M_94_58 K n)))]) [] (bd Tryz.f153) 58 (M_94_58 K) := fun n q => by kernel_rfl
theorem xk_94 (K : Nat) : XF [.tmp 4] s_94 85 [29899, 119599] (x_94 K) := xkF (gam_cons (sp_78 K) (gam_cons (sp_88 K) (gam_cons (sp_87 K) (gam_cons (sp_93 K) (gam_cons (sp_89 K) gam_nil))))) ov_nil
theorem k_94_119599 (K : Nat) (C58 : CT h_94_58 s_94) : CF [.tmp 4] s_94 85 [29899, 119599] (bd Tryz.f153) [(58, ar h_94_58 C58)] 119599 (ar h_94_119599 (M_94_119599 K C58)) :=
 joinF (xk_94 K) (e_94_119599 K C58) cuts_nil
theorem k_94_29899 (K : Nat) (C58 : CT h_94_58 s_94) : CF [.tmp 4] s_94 85 [29899, 119599] (bd Tryz.f153) [(58, ar h_94_58 C58)] 29899 (ar h_94_29899 (M_94_29899 K C58)) :=
 joinF (xk_94 K) (e_94_29899 K C58) (cuts_cons (k_94_119599 K C58) cuts_nil)
theorem k_94_58 (K : Nat) (n : Nat) : CF [.tmp 4] s_94 85 [29899, 119599] (bd Tryz.f153) [] 58 (ar h_94_58 (M_94_58 K n)) :=
 loopF (xk_94 K) (e_94_58 K) (fun n => (cuts_cons (k_94_29899 K (M_94_58 K n)) cuts_nil)) n
theorem sp_94 (K : Nat) : OkF 153 (c_94 K) :=
 ctrF (x := x_94 K) (L := [(58, ar h_94_58 (M_94_58 K K))]) (c0 := bd Tryz.f153) (xk_94 K) (by intro a0 a1; show @Eq _ _ _; kernel_rfl) (cuts_cons (k_94_58 K K) cuts_nil) Tryz.func153 trivial
def m_slices_Clone_int (K : Nat) (a0 : List Int) : Option ((List Int)) := (bif a0.isEmpty then both (some []) ((if (([] : List Int) ++ a0).length * 8 ≤ 140737488355328 ∧ (([] : List Int) ++ a0).length ≤ maxLen then some (([] : List Int) ++ a0) else none)) else (if (([] : List Int) ++ a0).length * 8 ≤ 140737488355328 ∧ (([] : List Int) ++ a0).length ≤ maxLen then some (([] : List Int) ++ a0) else none))
def s_95 : Sig := ⟨[.v 26], [.n 26 true], true⟩
def c_95 (K : Nat) : Ctr tyU := ⟨s_95, m_slices_Clone_int K⟩
def x_95 (K : Nat) := xF s_95 [] [] 8 [] [] [] [] [.tmp 2]
theorem sp_95 (K : Nat) : OkF 160 (c_95 K) :=
 ctrF (x := x_95 K) (L := []) (c0 := bd Tryz.f160) (xkF gam_nil ov_nil) (by intro a0; show @Eq _ _ _; kernel_rfl) cuts_nil Tryz.func160 trivial
def l_slices_Equal_int_1 (K : Nat) (a0 : List Int) (a1 : List Int) : Nat -> Int -> Int -> Option (Bool)
 | 0, _, _ => none
 | n1 + 1, v1, v2 => (bif (decide (v2 < v1)) then (if (0 : Int) ≤ v2 ∧ v2 < (a0.length : Int) then (if (0 : Int) ≤ v2 ∧ v2 < (a1.length : Int) then (bif ((gt a0 v2) != (gt a1 v2)) then some false else (l_slices_Equal_int_1 K a0 a1 n1 v1 (iAdd .i64 v2 1))) else none) else none) else some true)
def m_slices_Equal_int (K : Nat) (a0 : List Int) (a1 : List Int) : Option (Bool) := (bif ((a0.length : Int) != (a1.length : Int)) then some false else (l_slices_Equal_int_1 K a0 a1 K (a0.length : Int) 0))
def s_97 : Sig := ⟨[.v 26, .v 26], [.v 4], true⟩
def c_97 (K : Nat) : Ctr tyU := ⟨s_97, m_slices_Equal_int K⟩
def x_97 (K : Nat) := xF s_97 [] [] 26 [] [] [] [] [.tmp 4]
def h_97_58 : Shape := ⟨[(0, .v 26), (1, .v 26), (12, .v 2), (13, .v 2)], []⟩
def M_97_58 (K : Nat) (n : Nat) (q : PT h_97_58) : Rt s_97 := l_slices_Equal_int_1 K q.1 q.2.1 n q.2.2.1 q.2.2.2.1
theorem e_97_58 (K : Nat) : AtL (x_97 K) (fun n => []) [] (bd Tryz.f229) 58 (M_97_58 K) := fun n q => by kernel_rfl
theorem xk_97 (K : Nat) : XF [.tmp 4] s_97 26 [] (x_97 K) := xkF gam_nil ov_nil
theorem k_97_58 (K : Nat) (n : Nat) : CF [.tmp 4] s_97 26 [] (bd Tryz.f229) [] 58 (ar h_97_58 (M_97_58 K n)) :=
 loopF (xk_97 K) (e_97_58 K) (fun n => cuts_nil) n
theorem sp_97 (K : Nat) : OkF 229 (c_97 K) :=
 ctrF (x := x_97 K) (L := [(58, ar h_97_58 (M_97_58 K K))]) (c0 := bd Tryz.f229) (xk_97 K) (by intro a0 a1; show @Eq _ _ _; kernel_rfl) (cuts_cons (k_97_58 K K) cuts_nil) Tryz.func229 trivial
def l_slices_Equal_impl_Thing_1 (K : Nat) (a0 : List T_impl_Thing) (a1 : List T_impl_Thing) : Nat -> Int -> Int -> Option (Bool)
 | 0, _, _ => none
 | n1 + 1, v1, v2 => (bif (decide (v2 < v1)) then (if (0 : Int) ≤ v2 ∧ v2 < (a0.length : Int) then (if (0 : Int) ≤ v2 ∧ v2 < (a1.length : Int) then (bif (!((((gt a0 v2).fAt) == ((gt a1 v2).fAt)) && ((((gt a0 v2).fLen) == ((gt a1 v2).fLen)) && ((((gt a0 v2).fRun) == ((gt a1 v2).fRun)) && true)))) then some false else (l_slices_Equal_impl_Thing_1 K a0 a1 n1 v1 (iAdd .i64 v2 1))) else none) else none) else some true)
def m_slices_Equal_impl_Thing (K : Nat) (a0 : List T_impl_Thing) (a1 : List T_impl_Thing) : Option (Bool) := (bif ((a0.length : Int) != (a1.length : Int)) then some false else (l_slices_Equal_impl_Thing_1 K a0 a1 K (a0.length : Int) 0))
def s_98 : Sig := ⟨[.v 41, .v 41], [.v 4], true⟩
def c_98 (K : Nat) : Ctr tyU := ⟨s_98, m_slices_Equal_impl_Thing K⟩
def x_98 (K : Nat) := xF s_98 [] [] 26 [] [] [] [] [.tmp 4]
def h_98_58 : Shape := ⟨[(0, .v 41), (1, .v 41), (12, .v 2), (13, .v 2)], []⟩
def M_98_58 (K : Nat) (n : Nat) (q : PT h_98_58) : Rt s_98 := l_slices_Equal_impl_Thing_1 K q.1 q.2.1 n q.2.2.1 q.2.2.2.1
theorem e_98_58 (K : Nat) : AtL (x_98 K) (fun n => []) [] (bd Tryz.f309) 58 (M_98_58 K) := fun n q => by kernel_rfl
theorem xk_98 (K : Nat) : XF [.tmp 4] s_98 26 [] (x_98 K) := xkF gam_nil ov_nil
theorem k_98_58 (K : Nat) (n : Nat) : CF [.tmp 4] s_98 26 [] (bd Tryz.f309) [] 58 (ar h_98_58 (M_98_58 K n)) :=
 loopF (xk_98 K) (e_98_58 K) (fun n => cuts_nil) n
theorem sp_98 (K : Nat) : OkF 309 (c_98 K) :=
 ctrF (x := x_98 K) (L := [(58, ar h_98_58 (M_98_58 K K))]) (c0 := bd Tryz.f309) (xk_98 K) (by intro a0 a1; show @Eq _ _ _; kernel_rfl) (cuts_cons (k_98_58 K K) cuts_nil) Tryz.func309 trivial
def m_impl_SameNode (K : Nat) (a0 : T_impl_Node) (a1 : T_impl_Node) : Option (Bool) := (bif (a0.fSt == a1.fSt) then (bif (a0.fGen == a1.fGen) then (bif (a0.fEp == a1.fEp) then (bif (a0.fUp == a1.fUp) then (bif (a0.fUpEp == a1.fUpEp) then (bif (a0.fFirst == a1.fFirst) then (bif (a0.fNext == a1.fNext) then (bif (a0.fPrev == a1.fPrev) then ((m_slices_Equal_int K a0.fChunks a1.fChunks).bind fun r1 => (bif r1 then (bif (a0.fCur == a1.fCur) then (bif (a0.fBump == a1.fBump) then ((m_slices_Equal_impl_Thing K a0.fThings a1.fThings).bind fun r2 => (bif r2 then ((m_slices_Equal_int K a0.fTags a1.fTags).bind fun r3 => some r3) else some false)) else some false) else some false) else some false)) else some false) else some false) else some false) else some false) else some false) else some false) else some false) else some false)
def s_99 : Sig := ⟨[.v 44, .v 44], [.v 4], true⟩
def c_99 (K : Nat) : Ctr tyU := ⟨s_99, m_impl_SameNode K⟩
def x_99 (K : Nat) := xF s_99 [(229, c_97 K), (309, c_98 K)] [] 94 [9, 10, 15, 16, 17, 22, 23, 24, 29, 30, 31, 36, 37, 38, 43, 44, 45, 50, 51, 52, 57, 58, 59, 64, 65, 66, 71, 72, 73, 78, 79, 80, 85, 86, 87] [] [] [] [.tmp 4]
theorem sp_99 (K : Nat) : OkF 274 (c_99 K) :=
 ctrF (x := x_99 K) (L := []) (c0 := bd Tryz.f274) (xkF (gam_cons (sp_97 K) (gam_cons (sp_98 K) gam_nil)) ov_nil) (by intro a0 a1; show @Eq _ _ _; kernel_rfl) cuts_nil Tryz.func274 trivial
def m_impl_Bare (K : Nat) (a0 : T_impl_Node) : Option (Bool) := ((m_impl_SameNode K a0 (T_impl_Node.mk a0.fSt a0.fGen 0 0 0 0 0 0 ([] : List Int) 0 0 ([] : List T_impl_Thing) ([] : List Int))).bind fun r1 => some r1)
def s_100 : Sig := ⟨[.v 44], [.v 4], true⟩
def c_100 (K : Nat) : Ctr tyU := ⟨s_100, m_impl_Bare K⟩
def x_100 (K : Nat) := xF s_100 [(274, c_99 K)] [] 10 [] [] [] [] [.tmp 2]
theorem sp_100 (K : Nat) : OkF 239 (c_100 K) :=
 ctrF (x := x_100 K) (L := []) (c0 := bd Tryz.f239) (xkF (gam_cons (sp_99 K) gam_nil) ov_nil) (by intro a0; show @Eq _ _ _; kernel_rfl) cuts_nil Tryz.func239 trivial
def l_slices_Index_int_1 (K : Nat) (a0 : List Int) (a1 : Int) : Nat -> Int -> Int -> Option (Int)
 | 0, _, _ => none
 | n1 + 1, v1, v2 => (bif (decide (v2 < v1)) then (if (0 : Int) ≤ v2 ∧ v2 < (a0.length : Int) then (bif (a1 == (gt a0 v2)) then some v2 else (l_slices_Index_int_1 K a0 a1 n1 v1 (iAdd .i64 v2 1))) else none) else some (-1))
def m_slices_Index_int (K : Nat) (a0 : List Int) (a1 : Int) : Option (Int) := (l_slices_Index_int_1 K a0 a1 K (a0.length : Int) 0)
def s_101 : Sig := ⟨[.v 26, .v 3], [.v 3], true⟩
def c_101 (K : Nat) : Ctr tyU := ⟨s_101, m_slices_Index_int K⟩
def x_101 (K : Nat) := xF s_101 [] [] 19 [] [] [] [] [.tmp 4]
def h_101_26 : Shape := ⟨[(0, .v 26), (1, .v 2), (7, .v 2), (8, .v 2)], []⟩
def M_101_26 (K : Nat) (n : Nat) (q : PT h_101_26) : Rt s_101 := l_slices_Index_int_1 K q.1 q.2.1 n q.2.2.1 q.2.2.2.1
theorem e_101_26 (K : Nat) : AtL (x_101 K) (fun n => []) [] (bd Tryz.f126) 26 (M_101_26 K) := fun n q => by kernel_rfl
theorem xk_101 (K : Nat) : XF [.tmp 4] s_101 19 [] (x_101 K) := xkF gam_nil ov_nil
theorem k_101_26 (K : Nat) (n : Nat) : CF [.tmp 4] s_101 19 [] (bd Tryz.f126) [] 26 (ar h_101_26 (M_101_26 K n)) :=
 loopF (xk_101 K) (e_101_26 K) (fun n => cuts_nil) n
theorem sp_101 (K : Nat) : OkF 126 (c_101 K) :=
 ctrF (x := x_101 K) (L := [(26, ar h_101_26 (M_101_26 K K))]) (c0 := bd Tryz.f126) (xk_101 K) (by intro a0 a1; show @Eq _ _ _; kernel_rfl) (cuts_cons (k_101_26 K K) cuts_nil) Tryz.func126 trivial
def m_slices_Contains_int (K : Nat) (a0 : List Int) (a1 : Int) : Option (Bool) := ((m_slices_Index_int K a0 a1).bind fun r1 => some (decide (r1 ≥ 0)))
def s_102 : Sig := ⟨[.v 26, .v 3], [.v 4], true⟩
def c_102 (K : Nat) : Ctr tyU := ⟨s_102, m_slices_Contains_int K⟩
def x_102 (K : Nat) := xF s_102 [(126, c_101 K)] [] 9 [] [] [] [] [.tmp 4]
theorem sp_102 (K : Nat) : OkF 57 (c_102 K) :=
 ctrF (x := x_102 K) (L := []) (c0 := bd Tryz.f57) (xkF (gam_cons (sp_101 K) gam_nil) ov_nil) (by intro a0 a1; show @Eq _ _ _; kernel_rfl) cuts_nil Tryz.func57 trivial
def l_impl_distinct_1 (K : Nat) (a0 : T_impl_Conf) (a1 : List Int) : Nat -> (List Int) -> Int -> Int -> Option (Bool)
 | 0, _, _, _ => none
 | n1 + 1, v1, v2, v3 => (bif (decide (v3 < v2)) then (if (0 : Int) ≤ v3 ∧ v3 < (v1.length : Int) then ((m_impl_within K (gt v1 v3) 0 (iSub .i64 a0.fChunks 1)).bind fun r4 => (bif r4 then (if (0 : Int) ≤ 0 ∧ 0 ≤ v3 ∧ v3 ≤ (a1.length : Int) then ((m_slices_Contains_int K ((a1.drop (0 : Int).toNat).take (v3 - 0).toNat) (gt v1 v3)).bind fun r5 => (bif r5 then some false else (l_impl_distinct_1 K a0 a1 n1 v1 v2 (iAdd .i64 v3 1)))) else none) else some false)) else none) else some true)
def m_impl_distinct (K : Nat) (a0 : T_impl_Conf) (a1 : List Int) : Option (Bool) := (l_impl_distinct_1 K a0 a1 K a1 (a1.length : Int) 0)
def s_103 : Sig := ⟨[.v 25, .v 26], [.v 4], true⟩
def c_103 (K : Nat) : Ctr tyU := ⟨s_103, m_impl_distinct K⟩
def x_103 (K : Nat) := xF s_103 [(57, c_102 K), (88, c_78 K)] [] 28 [18, 19, 20] [] [] [] [.tmp 4]
def h_103_26 : Shape := ⟨[(1, .v 26), (2, .p 102), (7, .v 26), (8, .v 2), (9, .v 2)], [(102, .st 25 true)]⟩
def M_103_26 (K : Nat) (n : Nat) (q : PT h_103_26) : Rt s_103 := l_impl_distinct_1 K q.2.2.2.2.1 q.1 n q.2.1 q.2.2.1 q.2.2.2.1
theorem e_103_26 (K : Nat) : AtL (x_103 K) (fun n => []) [] (bd Tryz.f240) 26 (M_103_26 K) := fun n q => by kernel_rfl
theorem xk_103 (K : Nat) : XF [.tmp 4] s_103 28 [] (x_103 K) := xkF (gam_cons (sp_102 K) (gam_cons (sp_78 K) gam_nil)) ov_nil
theorem k_103_26 (K : Nat) (n : Nat) : CF [.tmp 4] s_103 28 [] (bd Tryz.f240) [] 26 (ar h_103_26 (M_103_26 K n)) :=
 loopF (xk_103 K) (e_103_26 K) (fun n => cuts_nil) n
theorem sp_103 (K : Nat) : OkF 240 (c_103 K) :=
 ctrF (x := x_103 K) (L := [(26, ar h_103_26 (M_103_26 K K))]) (c0 := bd Tryz.f240) (xk_103 K) (by intro a0 a1; show @Eq _ _ _; kernel_rfl) (cuts_cons (k_103_26 K K) cuts_nil) Tryz.func240 trivial
def m_impl_areBytes_1 (K : Nat) (a0 : Int) : Option (Bool) := ((m_impl_within K a0 0 255).bind fun r1 => some (!r1))
def s_104 : Sig := ⟨[.v 3], [.v 4], true⟩
def c_104 (K : Nat) : Ctr tyU := ⟨s_104, m_impl_areBytes_1 K⟩
def x_104 (K : Nat) := xF s_104 [(88, c_78 K)] [] 6 [] [] [] [] [.tmp 2]
theorem sp_104 (K : Nat) : OkF 237 (c_104 K) :=
 ctrF (x := x_104 K) (L := []) (c0 := bd Tryz.f237) (xkF (gam_cons (sp_78 K) gam_nil) ov_nil) (by intro a0; show @Eq _ _ _; kernel_rfl) cuts_nil Tryz.func237 trivial
def l_slices_IndexFunc_int_impl_areBytes_1_1 (K : Nat) (a0 : List Int) : Nat -> Int -> Int -> Option (Int)
 | 0, _, _ => none
 | n1 + 1, v1, v2 => (bif (decide (v2 < v1)) then (if (0 : Int) ≤ v2 ∧ v2 < (a0.length : Int) then ((m_impl_areBytes_1 K (gt a0 v2)).bind fun r3 => (bif r3 then some v2 else (l_slices_IndexFunc_int_impl_areBytes_1_1 K a0 n1 v1 (iAdd .i64 v2 1)))) else none) else some (-1))
def m_slices_IndexFunc_int_impl_areBytes_1 (K : Nat) (a0 : List Int) : Option (Int) := (l_slices_IndexFunc_int_impl_areBytes_1_1 K a0 K (a0.length : Int) 0)
def s_105 : Sig := ⟨[.v 26, .f 237 [] []], [.v 3], true⟩
def c_105 (K : Nat) : Ctr tyU := ⟨s_105, m_slices_IndexFunc_int_impl_areBytes_1 K⟩
def x_105 (K : Nat) := xF s_105 [(237, c_104 K)] [] 19 [] [] [] [] [.tmp 4]
def h_105_26 : Shape := ⟨[(0, .v 26), (1, .f 237 [] []), (7, .v 2), (8, .v 2)], []⟩
def M_105_26 (K : Nat) (n : Nat) (q : PT h_105_26) : Rt s_105 := l_slices_IndexFunc_int_impl_areBytes_1_1 K q.1 n q.2.1 q.2.2.1
theorem e_105_26 (K : Nat) : AtL (x_105 K) (fun n => []) [] (bd Tryz.f272) 26 (M_105_26 K) := fun n q => by kernel_rfl
theorem xk_105 (K : Nat) : XF [.tmp 4] s_105 19 [] (x_105 K) := xkF (gam_cons (sp_104 K) gam_nil) ov_nil
theorem k_105_26 (K : Nat) (n : Nat) : CF [.tmp 4] s_105 19 [] (bd Tryz.f272) [] 26 (ar h_105_26 (M_105_26 K n)) :=
 loopF (xk_105 K) (e_105_26 K) (fun n => cuts_nil) n
theorem sp_105 (K : Nat) : OkF 272 (c_105 K) :=
 ctrF (x := x_105 K) (L := [(26, ar h_105_26 (M_105_26 K K))]) (c0 := bd Tryz.f272) (xk_105 K) (by intro a0; show @Eq _ _ _; kernel_rfl) (cuts_cons (k_105_26 K K) cuts_nil) Tryz.func272 trivial
def m_slices_ContainsFunc_int_impl_areBytes_1 (K : Nat) (a0 : List Int) : Option (Bool) := ((m_slices_IndexFunc_int_impl_areBytes_1 K a0).bind fun r1 => some (decide (r1 ≥ 0)))
def s_106 : Sig := ⟨[.v 26, .f 237 [] []], [.v 4], true⟩
def c_106 (K : Nat) : Ctr tyU := ⟨s_106, m_slices_ContainsFunc_int_impl_areBytes_1 K⟩
def x_106 (K : Nat) := xF s_106 [(272, c_105 K)] [] 9 [] [] [] [] [.tmp 4]
theorem sp_106 (K : Nat) : OkF 236 (c_106 K) :=
 ctrF (x := x_106 K) (L := []) (c0 := bd Tryz.f236) (xkF (gam_cons (sp_105 K) gam_nil) ov_nil) (by intro a0; show @Eq _ _ _; kernel_rfl) cuts_nil Tryz.func236 trivial
def m_impl_areBytes (K : Nat) (a0 : List Int) : Option (Bool) := ((m_slices_ContainsFunc_int_impl_areBytes_1 K a0).bind fun r1 => some (!r1))
def s_107 : Sig := ⟨[.v 26], [.v 4], true⟩
def c_107 (K : Nat) : Ctr tyU := ⟨s_107, m_impl_areBytes K⟩
def x_107 (K : Nat) := xF s_107 [(236, c_106 K)] [] 6 [] [] [] [] [.tmp 2]
theorem sp_107 (K : Nat) : OkF 157 (c_107 K) :=
 ctrF (x := x_107 K) (L := []) (c0 := bd Tryz.f157) (xkF (gam_cons (sp_106 K) gam_nil) ov_nil) (by intro a0; show @Eq _ _ _; kernel_rfl) cuts_nil Tryz.func157 trivial
def m_impl_IsLarge (K : Nat) (a0 : T_impl_Conf) (a1 : Int) : Option (Bool) := some (decide (a1 > a0.fSize))
def s_108 : Sig := ⟨[.v 25, .v 3], [.v 4], true⟩
def c_108 (K : Nat) : Ctr tyU := ⟨s_108, m_impl_IsLarge K⟩
def x_108 (K : Nat) := xF s_108 [] [] 9 [] [] [] [] [.tmp 4]
theorem sp_108 (K : Nat) : OkF 124 (c_108 K) :=
 ctrF (x := x_108 K) (L := []) (c0 := bd Tryz.f124) (xkF gam_nil ov_nil) (by intro a0 a1; show @Eq _ _ _; kernel_rfl) cuts_nil Tryz.func124 trivial
def m_impl_CeilDiv (K : Nat) (a0 : Int) (a1 : Int) : Option (Int) := ((m_impl_within K a0 0 1000000000).bind fun r1 => (bif r1 then ((m_impl_within K a1 1 1000000000).bind fun r2 => (bif (!r2) then some 0 else (if a1 ≠ (0 : Int) then some (iQuo .i64 (iSub .i64 (iAdd .i64 a0 a1) 1) a1) else none))) else some 0))
def s_109 : Sig := ⟨[.v 3, .v 3], [.v 3], true⟩
def c_109 (K : Nat) : Ctr tyU := ⟨s_109, m_impl_CeilDiv K⟩
def x_109 (K : Nat) := xF s_109 [(88, c_78 K)] [] 19 [6, 7, 8] [] [] [] [.tmp 4]
theorem sp_109 (K : Nat) : OkF 199 (c_109 K) :=
 ctrF (x := x_109 K) (L := []) (c0 := bd Tryz.f199) (xkF (gam_cons (sp_78 K) gam_nil) ov_nil) (by intro a0 a1; show @Eq _ _ _; kernel_rfl) cuts_nil Tryz.func199 trivial
def m_impl_ChunksFor (K : Nat) (a0 : T_impl_Conf) (a1 : Int) : Option (Int) := ((m_impl_CeilDiv K a1 a0.fSize).bind fun r1 => some r1)
def s_110 : Sig := ⟨[.v 25, .v 3], [.v 3], true⟩
def c_110 (K : Nat) : Ctr tyU := ⟨s_110, m_impl_ChunksFor K⟩
def x_110 (K : Nat) := xF s_110 [(199, c_109 K)] [] 9 [] [] [] [] [.tmp 4]
theorem sp_110 (K : Nat) : OkF 125 (c_110 K) :=
 ctrF (x := x_110 K) (L := []) (c0 := bd Tryz.f125) (xkF (gam_cons (sp_109 K) gam_nil) ov_nil) (by intro a0 a1; show @Eq _ _ _; kernel_rfl) cuts_nil Tryz.func125 trivial
def m_impl_ThingOk (K : Nat) (a0 : T_impl_Conf) (a1 : T_impl_Thing) : Option (Bool) := ((m_impl_BytesOf K a0).bind fun r1 => (bif (decide (a1.fLen ≤ 0)) then some false else (bif (decide (a1.fAt < 0)) then some false else (bif (decide (a1.fLen > r1)) then some false else (bif (decide (a1.fAt > (iSub .i64 r1 a1.fLen))) then some false else (bif (a1.fRun == 0) then (bif (decide (a1.fLen ≤ a0.fSize)) then (if a0.fSize ≠ (0 : Int) then (if a0.fSize ≠ (0 : Int) then some ((iQuo .i64 a1.fAt a0.fSize) == (iQuo .i64 (iSub .i64 (iAdd .i64 a1.fAt a1.fLen) 1) a0.fSize)) else none) else none) else some false) else ((m_impl_IsLarge K a0 a1.fLen).bind fun r2 => (bif r2 then ((m_impl_ChunksFor K a0 a1.fLen).bind fun r3 => (bif (a1.fRun == r3) then (if a0.fSize ≠ (0 : Int) then some ((Int.tmod a1.fAt a0.fSize) == 0) else none) else some false)) else some false))))))))
def s_111 : Sig := ⟨[.v 25, .v 89], [.v 4], true⟩
def c_111 (K : Nat) : Ctr tyU := ⟨s_111, m_impl_ThingOk K⟩
def x_111 (K : Nat) := xF s_111 [(123, c_88 K), (124, c_108 K), (125, c_110 K)] [] 77 [10, 11, 14, 15, 16, 20, 21, 22, 38, 39, 59, 60, 67, 68, 69] [] [] [] [.tmp 4]
theorem sp_111 (K : Nat) : OkF 56 (c_111 K) :=
 ctrF (x := x_111 K) (L := []) (c0 := bd Tryz.f56) (xkF (gam_cons (sp_88 K) (gam_cons (sp_108 K) (gam_cons (sp_110 K) gam_nil))) ov_nil) (by intro a0 a1; show @Eq _ _ _; kernel_rfl) cuts_nil Tryz.func56 trivial
def m_impl_NodeOk_1 (K : Nat) (a0 : T_impl_Thing) (a1 : T_impl_Conf) : Option (Bool) := ((m_impl_ThingOk K a1 a0).bind fun r1 => some (!r1))
def s_112 : Sig := ⟨[.v 89, .r 25], [.v 4], true⟩
def c_112 (K : Nat) : Ctr tyU := ⟨s_112, m_impl_NodeOk_1 K⟩
def x_112 (K : Nat) := xF s_112 [(56, c_111 K)] [] 8 [] [] [] [] [.tmp 3]
theorem sp_112 (K : Nat) : OkF 241 (c_112 K) :=
 ctrF (x := x_112 K) (L := []) (c0 := bd Tryz.f241) (xkF (gam_cons (sp_111 K) gam_nil) ov_nil) (by intro a0 a1; show @Eq _ _ _; kernel_rfl) cuts_nil Tryz.func241 trivial
def l_slices_IndexFunc_impl_Thing_impl_NodeOk_1_1 (K : Nat) (a0 : List T_impl_Thing) (a1_0 : T_impl_Conf) : Nat -> Int -> Int -> Option (Int)
 | 0, _, _ => none
 | n1 + 1, v1, v2 => (bif (decide (v2 < v1)) then (if (0 : Int) ≤ v2 ∧ v2 < (a0.length : Int) then ((m_impl_NodeOk_1 K (gt a0 v2) a1_0).bind fun r3 => (bif r3 then some v2 else (l_slices_IndexFunc_impl_Thing_impl_NodeOk_1_1 K a0 a1_0 n1 v1 (iAdd .i64 v2 1)))) else none) else some (-1))
def m_slices_IndexFunc_impl_Thing_impl_NodeOk_1 (K : Nat) (a0 : List T_impl_Thing) (a1_0 : T_impl_Conf) : Option (Int) := (l_slices_IndexFunc_impl_Thing_impl_NodeOk_1_1 K a0 a1_0 K (a0.length : Int) 0)
def s_113 : Sig := ⟨[.v 41, .f 241 [] [25]], [.v 3], true⟩
def c_113 (K : Nat) : Ctr tyU := ⟨s_113, m_slices_IndexFunc_impl_Thing_impl_NodeOk_1 K⟩
def x_113 (K : Nat) := xF s_113 [(241, c_112 K)] [] 19 [] [] [] [] [.tmp 4]
def h_113_26 : Shape := ⟨[(0, .v 41), (1, .f 241 [] [25]), (7, .v 2), (8, .v 2)], []⟩
def M_113_26 (K : Nat) (n : Nat) (q : PT h_113_26) : Rt s_113 := l_slices_IndexFunc_impl_Thing_impl_NodeOk_1_1 K q.1 q.2.1 n q.2.2.1 q.2.2.2.1
theorem e_113_26 (K : Nat) : AtL (x_113 K) (fun n => []) [] (bd Tryz.f122) 26 (M_113_26 K) := fun n q => by kernel_rfl
theorem xk_113 (K : Nat) : XF [.tmp 4] s_113 19 [] (x_113 K) := xkF (gam_cons (sp_112 K) gam_nil) ov_nil
theorem k_113_26 (K : Nat) (n : Nat) : CF [.tmp 4] s_113 19 [] (bd Tryz.f122) [] 26 (ar h_113_26 (M_113_26 K n)) :=
 loopF (xk_113 K) (e_113_26 K) (fun n => cuts_nil) n
theorem sp_113 (K : Nat) : OkF 122 (c_113 K) :=
 ctrF (x := x_113 K) (L := [(26, ar h_113_26 (M_113_26 K K))]) (c0 := bd Tryz.f122) (xk_113 K) (by intro a0 a1_0; show @Eq _ _ _; kernel_rfl) (cuts_cons (k_113_26 K K) cuts_nil) Tryz.func122 trivial
def m_slices_ContainsFunc_impl_Thing_impl_NodeOk_1 (K : Nat) (a0 : List T_impl_Thing) (a1_0 : T_impl_Conf) : Option (Bool) := ((m_slices_IndexFunc_impl_Thing_impl_NodeOk_1 K a0 a1_0).bind fun r1 => some (decide (r1 ≥ 0)))
def s_114 : Sig := ⟨[.v 41, .f 241 [] [25]], [.v 4], true⟩
def c_114 (K : Nat) : Ctr tyU := ⟨s_114, m_slices_ContainsFunc_impl_Thing_impl_NodeOk_1 K⟩
def x_114 (K : Nat) := xF s_114 [(122, c_113 K)] [] 9 [] [] [] [] [.tmp 4]
theorem sp_114 (K : Nat) : OkF 54 (c_114 K) :=
 ctrF (x := x_114 K) (L := []) (c0 := bd Tryz.f54) (xkF (gam_cons (sp_113 K) gam_nil) ov_nil) (by intro a0 a1_0; show @Eq _ _ _; kernel_rfl) cuts_nil Tryz.func54 trivial
def j_impl_NodeOk_2 (K : Nat) (a0 : T_impl_Conf) (v19 : List T_impl_Thing) (v20 : List Int) : Option (Bool) := (bif (decide ((v19.length : Int) ≤ 12)) then (bif (decide ((v20.length : Int) ≤ 6)) then ((m_impl_areBytes K v20).bind fun r25 => (bif r25 then ((m_slices_ContainsFunc_impl_Thing_impl_NodeOk_1 K v19 a0).bind fun r26 => some (!r26)) else some false)) else some false) else some false)
def l_impl_NodeOk_1 (K : Nat) (a0 : T_impl_Conf) : Nat -> (List Int) -> Int -> Int -> Int -> Int -> Int -> Int -> Int -> Int -> Int -> Int -> (List Int) -> Int -> Int -> (List T_impl_Thing) -> (List Int) -> Option (Bool)
 | 0, _, _, _, _, _, _, _, _, _, _, _, _, _, _, _, _ => none
 | n1 + 1, v5, v6, v7, v8, v9, v10, v11, v12, v13, v14, v15, v16, v17, v18, v19, v20 => (bif (decide (v7 < v6)) then (if (0 : Int) ≤ v7 ∧ v7 < (v5.length : Int) then ((m_impl_within K (gt v5 v7) 0 a0.fSlots).bind fun r21 => (bif (!r21) then some false else (l_impl_NodeOk_1 K a0 n1 v5 v6 (iAdd .i64 v7 1) v8 v9 v10 v11 v12 v13 v14 v15 v16 v17 v18 v19 v20))) else none) else (bif (decide (v10 < 0)) then some false else (bif (decide (v12 < 0)) then some false else ((m_impl_distinct K a0 v16).bind fun r22 => (bif r22 then (bif (v17 != 0) then ((m_slices_Contains_int K v16 (iSub .i64 v17 1)).bind fun r23 => (bif r23 then ((m_impl_within K v18 0 a0.fSize).bind fun r24 => (bif r24 then (bif (v17 == 0) then (bif (v18 != 0) then some false else (j_impl_NodeOk_2 K a0 v19 v20)) else (j_impl_NodeOk_2 K a0 v19 v20)) else some false)) else some false)) else ((m_impl_within K v18 0 a0.fSize).bind fun r27 => (bif r27 then (bif (v17 == 0) then (bif (v18 != 0) then some false else (j_impl_NodeOk_2 K a0 v19 v20)) else (j_impl_NodeOk_2 K a0 v19 v20)) else some false))) else some false)))))
def m_impl_NodeOk (K : Nat) (a0 : T_impl_Conf) (a1 : T_impl_Node) : Option (Bool) := ((m_impl_ConfOk K a0).bind fun r1 => (bif r1 then ((m_impl_within K a1.fSt 0 3).bind fun r2 => (bif r2 then ((m_impl_within K a1.fGen 1 a0.fGens).bind fun r3 => (bif (!r3) then some false else (bif (a1.fSt != 1) then ((m_impl_Bare K a1).bind fun r4 => some r4) else (l_impl_NodeOk_1 K a0 K ([a1.fUp, a1.fFirst, a1.fNext, a1.fPrev] : List Int) (([a1.fUp, a1.fFirst, a1.fNext, a1.fPrev] : List Int).length : Int) 0 a1.fSt a1.fGen a1.fEp a1.fUp a1.fUpEp a1.fFirst a1.fNext a1.fPrev a1.fChunks a1.fCur a1.fBump a1.fThings a1.fTags)))) else some false)) else some false))
def s_115 : Sig := ⟨[.v 25, .v 44], [.v 4], true⟩
def c_115 (K : Nat) : Ctr tyU := ⟨s_115, m_impl_NodeOk K⟩
def x_115 (K : Nat) := xF s_115 [(54, c_114 K), (57, c_102 K), (88, c_78 K), (157, c_107 K), (198, c_87 K), (239, c_100 K), (240, c_103 K)] [] 118 [8, 9, 10, 13, 14, 15, 16, 51, 52, 55, 56, 57, 61, 62, 63, 64, 67, 68, 74, 75, 76, 77, 78, 83, 84, 85, 86, 89, 90, 99, 100, 104, 105, 106, 109, 110, 111] [(13, [.frzB 102 25])] [] [31] [.tmp 4]
def h_115_31 : Shape := ⟨[(2, .p 102), (3, .p 103)], [(103, .box [.v 2, .v 2, .v 2, .v 2, .v 2, .v 2, .v 2, .v 2, .v 26, .v 2, .v 2, .v 41, .v 26]), (102, .st 25 true)]⟩
def h_115_122 : Shape := ⟨[(2, .p 102), (3, .p 103), (37, .v 26), (38, .v 2), (39, .v 2)], [(103, .box [.v 2, .v 2, .v 2, .v 2, .v 2, .v 2, .v 2, .v 2, .v 26, .v 2, .v 2, .v 41, .v 26]), (102, .st 25 true)]⟩
def M_115_31 (K : Nat) (q : PT h_115_31) : Rt s_115 := j_impl_NodeOk_2 K q.2.2.2.2.2.2.2.2.2.2.2.2.2.1 q.2.2.2.2.2.2.2.2.2.2.2.1 q.2.2.2.2.2.2.2.2.2.2.2.2.1
def M_115_122 (K : Nat) (n : Nat) (q : PT h_115_122) : Rt s_115 := l_impl_NodeOk_1 K q.2.2.2.2.2.2.2.2.2.2.2.2.2.2.2.2.1 n q.1 q.2.1 q.2.2.1 q.2.2.2.1 q.2.2.2.2.1 q.2.2.2.2.2.1 q.2.2.2.2.2.2.1 q.2.2.2.2.2.2.2.1 q.2.2.2.2.2.2.2.2.1 q.2.2.2.2.2.2.2.2.2.1 q.2.2.2.2.2.2.2.2.2.2.1 q.2.2.2.2.2.2.2.2.2.2.2.1 q.2.2.2.2.2.2.2.2.2.2.2.2.1 q.2.2.2.2.2.2.2.2.2.2.2.2.2.1 q.2.2.2.2.2.2.2.2.2.2.2.2.2.2.1 q.2.2.2.2.2.2.2.2.2.2.2.2.2.2.2.1
theorem e_115_31 (K : Nat) : AtJ (x_115 K) [] [] (bd Tryz.f167) 31 (M_115_31 K) := fun q => by kernel_rfl
theorem e_115_122 (K : Nat) : AtL (x_115 K) (fun n => [(31, ar h_115_31 (M_115_31 K))]) [] (bd Tryz.f167) 122 (M_115_122 K) := fun n q => by kernel_rfl
theorem xk_115 (K : Nat) : XF [.tmp 4] s_115 118 [31] (x_115 K) := xkF (gam_cons (sp_114 K) (gam_cons (sp_102 K) (gam_cons (sp_78 K) (gam_cons (sp_107 K) (gam_cons (sp_87 K) (gam_cons (sp_100 K) (gam_cons (sp_103 K) gam_nil))))))) ov_nil
theorem k_115_31 (K : Nat) : CF [.tmp 4] s_115 118 [31] (bd Tryz.f167) [] 31 (ar h_115_31 (M_115_31 K)) :=
 joinF (xk_115 K) (e_115_31 K) cuts_nil
theorem k_115_122 (K : Nat) (n : Nat) : CF [.tmp 4] s_115 118 [31] (bd Tryz.f167) [] 122 (ar h_115_122 (M_115_122 K n)) :=
 loopF (xk_115 K) (e_115_122 K) (fun n => (cuts_cons (cut_up (by kernel_rfl) (k_115_31 K)) cuts_nil)) n
theorem sp_115 (K : Nat) : OkF 167 (c_115 K) :=
 ctrF (x := x_115 K) (L := [(122, ar h_115_122 (M_115_122 K K))]) (c0 := bd Tryz.f167) (xk_115 K) (by intro a0 a1; show @Eq _ _ _; kernel_rfl) (cuts_cons (k_115_122 K K) cuts_nil) Tryz.func167 trivial
def j_impl_OwnedBy_2 (K : Nat) (v2 : Int) (v3 : Int) (v4 : List Int) (v5 : List Int) (v6 : List Int) (C1 : (List Int) -> Int -> Int -> (List Int) -> (List Int) -> (List Int) -> Option ((List Int))) (v7 : List Int) : Option ((List Int)) := (C1 v7 v2 (iAdd .i64 v3 1) v4 v5 v6)
def l_impl_OwnedBy_1 (K : Nat) (a1 : Int) : Nat -> (List Int) -> Int -> Int -> (List Int) -> (List Int) -> (List Int) -> Option ((List Int))
 | 0, _, _, _, _, _, _ => none
 | n1 + 1, v1, v2, v3, v4, v5, v6 => (bif (decide (v3 < v2)) then (if (0 : Int) ≤ v3 ∧ v3 < (v5.length : Int) then (bif ((gt v5 v3) == 1) then (if (0 : Int) ≤ v3 ∧ v3 < (v6.length : Int) then (bif ((gt v6 v3) == a1) then (if (v1 ++ ([v3] : List Int)).length * 8 ≤ 140737488355328 ∧ (v1 ++ ([v3] : List Int)).length ≤ maxLen then (j_impl_OwnedBy_2 K v2 v3 v4 v5 v6 (l_impl_OwnedBy_1 K a1 n1) (v1 ++ ([v3] : List Int))) else none) else (j_impl_OwnedBy_2 K v2 v3 v4 v5 v6 (l_impl_OwnedBy_1 K a1 n1) v1)) else none) else (j_impl_OwnedBy_2 K v2 v3 v4 v5 v6 (l_impl_OwnedBy_1 K a1 n1) v1)) else none) else some v1)
def m_impl_OwnedBy (K : Nat) (a0 : T_impl_Pool) (a1 : Int) : Option ((List Int)) := (l_impl_OwnedBy_1 K a1 K ([] : List Int) (iMin (a0.fSt.length : Int) (a0.fOwn.length : Int)) 0 a0.fMem a0.fSt a0.fOwn)
def s_116 : Sig := ⟨[.v 28, .v 3], [.n 26 true], true⟩
def c_116 (K : Nat) : Ctr tyU := ⟨s_116, m_impl_OwnedBy K⟩
def x_116 (K : Nat) := xF s_116 [] [] 39 [23, 24] [] [] [467] [.tmp 4]
def h_116_467 : Shape := ⟨[(1, .v 2), (2, .p 102), (5, .o 1005 3 true), (14, .v 2), (15, .v 2)], [(102, .box [.v 22, .v 26, .v 26])]⟩
def h_116_58 : Shape := ⟨[(1, .v 2), (2, .p 102), (5, .o 1005 3 true), (14, .v 2), (15, .v 2)], [(102, .box [.v 22, .v 26, .v 26])]⟩
def M_116_467 (K : Nat) (C58 : CT h_116_58 s_116) (q : PT h_116_467) : Rt s_116 := j_impl_OwnedBy_2 K q.2.2.1 q.2.2.2.1 q.2.2.2.2.1 q.2.2.2.2.2.1 q.2.2.2.2.2.2.1 (fun v1 v2 v3 v4 v5 v6 => C58 (q.1, v1, v2, v3, v4, v5, v6, ())) q.2.1
def M_116_58 (K : Nat) (n : Nat) (q : PT h_116_58) : Rt s_116 := l_impl_OwnedBy_1 K q.1 n q.2.1 q.2.2.1 q.2.2.2.1 q.2.2.2.2.1 q.2.2.2.2.2.1 q.2.2.2.2.2.2.1
theorem e_116_467 (K : Nat) (C58 : CT h_116_58 s_116) : AtJ (x_116 K) [] [(58, ar h_116_58 C58)] (bd Tryz.f16) 467 (M_116_467 K C58) := fun q => by kernel_rfl
theorem e_116_58 (K : Nat) : AtL (x_116 K) (fun n => [(467, ar h_116_467 (M_116_467 K (M_116_58 K n)))]) [] (bd Tryz.f16) 58 (M_116_58 K) := fun n q => by kernel_rfl
theorem xk_116 (K : Nat) : XF [.tmp 4] s_116 39 [467] (x_116 K) := xkF gam_nil ov_nil
theorem k_116_467 (K : Nat) (C58 : CT h_116_58 s_116) : CF [.tmp 4] s_116 39 [467] (bd Tryz.f16) [(58, ar h_116_58 C58)] 467 (ar h_116_467 (M_116_467 K C58)) :=
 joinF (xk_116 K) (e_116_467 K C58) cuts_nil
theorem k_116_58 (K : Nat) (n : Nat) : CF [.tmp 4] s_116 39 [467] (bd Tryz.f16) [] 58 (ar h_116_58 (M_116_58 K n)) :=
 loopF (xk_116 K) (e_116_58 K) (fun n => (cuts_cons (k_116_467 K (M_116_58 K n)) cuts_nil)) n
theorem sp_116 (K : Nat) : OkF 16 (c_116 K) :=
 ctrF (x := x_116 K) (L := [(58, ar h_116_58 (M_116_58 K K))]) (c0 := bd Tryz.f16) (xk_116 K) (by intro a0 a1; show @Eq _ _ _; kernel_rfl) (cuts_cons (k_116_58 K K) cuts_nil) Tryz.func16 trivial
def l_impl_InChunks_1_1 (K : Nat) (a0 : T_impl_Thing) (a1 : T_impl_Conf) (a2 : T_impl_Node) : Nat -> Int -> Option (Bool)
 | 0, _ => none
 | n1 + 1, v2 => (if a1.fSize ≠ (0 : Int) then (bif (decide (v2 ≤ (iQuo .i64 (iSub .i64 (iAdd .i64 a0.fAt a0.fLen) 1) a1.fSize))) then ((m_slices_Contains_int K a2.fChunks v2).bind fun r3 => (bif (!r3) then some true else (l_impl_InChunks_1_1 K a0 a1 a2 n1 (iAdd .i64 v2 1)))) else some false) else none)
def m_impl_InChunks_1 (K : Nat) (a0 : T_impl_Thing) (a1 : T_impl_Conf) (a2 : T_impl_Node) : Option (Bool) := ((m_impl_ThingOk K a1 a0).bind fun r1 => (bif (!r1) then some true else (if a1.fSize ≠ (0 : Int) then (l_impl_InChunks_1_1 K a0 a1 a2 K (iQuo .i64 a0.fAt a1.fSize)) else none)))
def s_117 : Sig := ⟨[.v 89, .r 25, .r 44], [.v 4], true⟩
def c_117 (K : Nat) : Ctr tyU := ⟨s_117, m_impl_InChunks_1 K⟩
def x_117 (K : Nat) := xF s_117 [(56, c_111 K), (57, c_102 K)] [] 33 [] [] [] [] [.tmp 4]
def h_117_58 : Shape := ⟨[(1, .r 25), (2, .r 44), (3, .p 103), (5, .v 2)], [(103, .st 89 true)]⟩
def M_117_58 (K : Nat) (n : Nat) (q : PT h_117_58) : Rt s_117 := l_impl_InChunks_1_1 K q.2.2.2.1 q.1 q.2.1 n q.2.2.1
theorem e_117_58 (K : Nat) : AtL (x_117 K) (fun n => []) [] (bd Tryz.f55) 58 (M_117_58 K) := fun n q => by kernel_rfl
theorem xk_117 (K : Nat) : XF [.tmp 4] s_117 33 [] (x_117 K) := xkF (gam_cons (sp_111 K) (gam_cons (sp_102 K) gam_nil)) ov_nil
theorem k_117_58 (K : Nat) (n : Nat) : CF [.tmp 4] s_117 33 [] (bd Tryz.f55) [] 58 (ar h_117_58 (M_117_58 K n)) :=
 loopF (xk_117 K) (e_117_58 K) (fun n => cuts_nil) n
theorem sp_117 (K : Nat) : OkF 55 (c_117 K) :=
 ctrF (x := x_117 K) (L := [(58, ar h_117_58 (M_117_58 K K))]) (c0 := bd Tryz.f55) (xk_117 K) (by intro a0 a1 a2; show @Eq _ _ _; kernel_rfl) (cuts_cons (k_117_58 K K) cuts_nil) Tryz.func55 trivial
def l_slices_IndexFunc_impl_Thing_impl_InChunks_1_1 (K : Nat) (a0 : List T_impl_Thing) (a1_0 : T_impl_Conf) (a1_1 : T_impl_Node) : Nat -> Int -> Int -> Option (Int)
 | 0, _, _ => none
 | n1 + 1, v1, v2 => (bif (decide (v2 < v1)) then (if (0 : Int) ≤ v2 ∧ v2 < (a0.length : Int) then ((m_impl_InChunks_1 K (gt a0 v2) a1_0 a1_1).bind fun r3 => (bif r3 then some v2 else (l_slices_IndexFunc_impl_Thing_impl_InChunks_1_1 K a0 a1_0 a1_1 n1 v1 (iAdd .i64 v2 1)))) else none) else some (-1))
def m_slices_IndexFunc_impl_Thing_impl_InChunks_1 (K : Nat) (a0 : List T_impl_Thing) (a1_0 : T_impl_Conf) (a1_1 : T_impl_Node) : Option (Int) := (l_slices_IndexFunc_impl_Thing_impl_InChunks_1_1 K a0 a1_0 a1_1 K (a0.length : Int) 0)
def s_118 : Sig := ⟨[.v 41, .f 55 [] [25, 44]], [.v 3], true⟩
def c_118 (K : Nat) : Ctr tyU := ⟨s_118, m_slices_IndexFunc_impl_Thing_impl_InChunks_1 K⟩
def x_118 (K : Nat) := xF s_118 [(55, c_117 K)] [] 19 [] [] [] [] [.tmp 4]
def h_118_26 : Shape := ⟨[(0, .v 41), (1, .f 55 [] [25, 44]), (7, .v 2), (8, .v 2)], []⟩
def M_118_26 (K : Nat) (n : Nat) (q : PT h_118_26) : Rt s_118 := l_slices_IndexFunc_impl_Thing_impl_InChunks_1_1 K q.1 q.2.1 q.2.2.1 n q.2.2.2.1 q.2.2.2.2.1
theorem e_118_26 (K : Nat) : AtL (x_118 K) (fun n => []) [] (bd Tryz.f122) 26 (M_118_26 K) := fun n q => by kernel_rfl
theorem xk_118 (K : Nat) : XF [.tmp 4] s_118 19 [] (x_118 K) := xkF (gam_cons (sp_117 K) gam_nil) ov_nil
theorem k_118_26 (K : Nat) (n : Nat) : CF [.tmp 4] s_118 19 [] (bd Tryz.f122) [] 26 (ar h_118_26 (M_118_26 K n)) :=
 loopF (xk_118 K) (e_118_26 K) (fun n => cuts_nil) n
theorem sp_118 (K : Nat) : OkF 122 (c_118 K) :=
 ctrF (x := x_118 K) (L := [(26, ar h_118_26 (M_118_26 K K))]) (c0 := bd Tryz.f122) (xk_118 K) (by intro a0 a1_0 a1_1; show @Eq _ _ _; kernel_rfl) (cuts_cons (k_118_26 K K) cuts_nil) Tryz.func122 trivial
def m_slices_ContainsFunc_impl_Thing_impl_InChunks_1 (K : Nat) (a0 : List T_impl_Thing) (a1_0 : T_impl_Conf) (a1_1 : T_impl_Node) : Option (Bool) := ((m_slices_IndexFunc_impl_Thing_impl_InChunks_1 K a0 a1_0 a1_1).bind fun r1 => some (decide (r1 ≥ 0)))
def s_119 : Sig := ⟨[.v 41, .f 55 [] [25, 44]], [.v 4], true⟩
def c_119 (K : Nat) : Ctr tyU := ⟨s_119, m_slices_ContainsFunc_impl_Thing_impl_InChunks_1 K⟩
def x_119 (K : Nat) := xF s_119 [(122, c_118 K)] [] 9 [] [] [] [] [.tmp 4]
theorem sp_119 (K : Nat) : OkF 54 (c_119 K) :=
 ctrF (x := x_119 K) (L := []) (c0 := bd Tryz.f54) (xkF (gam_cons (sp_118 K) gam_nil) ov_nil) (by intro a0 a1_0 a1_1; show @Eq _ _ _; kernel_rfl) cuts_nil Tryz.func54 trivial
def m_impl_InChunks (K : Nat) (a0 : T_impl_Conf) (a1 : T_impl_Node) : Option (Bool) := ((m_slices_ContainsFunc_impl_Thing_impl_InChunks_1 K a1.fThings a0 a1).bind fun r1 => some (!r1))
def s_120 : Sig := ⟨[.v 25, .v 44], [.v 4], true⟩
def c_120 (K : Nat) : Ctr tyU := ⟨s_120, m_impl_InChunks K⟩
def x_120 (K : Nat) := xF s_120 [(54, c_119 K)] [] 10 [] [(1, [.frzB 102 25, .frzB 103 44])] [] [] [.tmp 4]
theorem sp_120 (K : Nat) : OkF 15 (c_120 K) :=
 ctrF (x := x_120 K) (L := []) (c0 := bd Tryz.f15) (xkF (gam_cons (sp_119 K) gam_nil) ov_nil) (by intro a0 a1; show @Eq _ _ _; kernel_rfl) cuts_nil Tryz.func15 trivial
def j_impl_Apart_1 (K : Nat) (v1 : T_impl_Thing) (v2 : T_impl_Thing) : Option (Bool) := some (decide ((iSub .u64 (IntKind.u64.wrap v1.fAt) (IntKind.u64.wrap v2.fAt)) ≥ (IntKind.u64.wrap v2.fLen)))
def m_impl_Apart (K : Nat) (a0 : T_impl_Thing) (a1 : T_impl_Thing) : Option (Bool) := (bif (decide (a0.fLen ≤ 0)) then some true else (bif (decide (a1.fLen ≤ 0)) then some true else (bif (decide (a0.fAt > a1.fAt)) then (j_impl_Apart_1 K a0 a1) else (j_impl_Apart_1 K a1 a0))))
def s_121 : Sig := ⟨[.v 89, .v 89], [.v 4], true⟩
def c_121 (K : Nat) : Ctr tyU := ⟨s_121, m_impl_Apart K⟩
def x_121 (K : Nat) := xF s_121 [] [] 31 [7, 8] [] [] [7] [.tmp 4]
def h_121_7 : Shape := ⟨[(2, .p 102), (3, .p 103)], [(103, .st 89 true), (102, .st 89 true)]⟩
def M_121_7 (K : Nat) (q : PT h_121_7) : Rt s_121 := j_impl_Apart_1 K q.1 q.2.1
theorem e_121_7 (K : Nat) : AtJ (x_121 K) [] [] (bd Tryz.f59) 7 (M_121_7 K) := fun q => by kernel_rfl
theorem xk_121 (K : Nat) : XF [.tmp 4] s_121 31 [7] (x_121 K) := xkF gam_nil ov_nil
theorem k_121_7 (K : Nat) : CF [.tmp 4] s_121 31 [7] (bd Tryz.f59) [] 7 (ar h_121_7 (M_121_7 K)) :=
 joinF (xk_121 K) (e_121_7 K) cuts_nil
theorem sp_121 (K : Nat) : OkF 59 (c_121 K) :=
 ctrF (x := x_121 K) (L := [(7, ar h_121_7 (M_121_7 K))]) (c0 := bd Tryz.f59) (xk_121 K) (by intro a0 a1; show @Eq _ _ _; kernel_rfl) (cuts_cons (k_121_7 K) cuts_nil) Tryz.func59 trivial
def m_impl_AllApart_1 (K : Nat) (a0 : T_impl_Thing) (a1 : T_impl_Thing) : Option (Bool) := ((m_impl_Apart K a0 a1).bind fun r1 => some (!r1))
def s_122 : Sig := ⟨[.v 89, .r 89], [.v 4], true⟩
def c_122 (K : Nat) : Ctr tyU := ⟨s_122, m_impl_AllApart_1 K⟩
def x_122 (K : Nat) := xF s_122 [(59, c_121 K)] [] 8 [] [] [] [] [.tmp 3]
theorem sp_122 (K : Nat) : OkF 58 (c_122 K) :=
 ctrF (x := x_122 K) (L := []) (c0 := bd Tryz.f58) (xkF (gam_cons (sp_121 K) gam_nil) ov_nil) (by intro a0 a1; show @Eq _ _ _; kernel_rfl) cuts_nil Tryz.func58 trivial
def l_slices_IndexFunc_impl_Thing_impl_AllApart_1_1 (K : Nat) (a0 : List T_impl_Thing) (a1_0 : T_impl_Thing) : Nat -> Int -> Int -> Option (Int)
 | 0, _, _ => none
 | n1 + 1, v1, v2 => (bif (decide (v2 < v1)) then (if (0 : Int) ≤ v2 ∧ v2 < (a0.length : Int) then ((m_impl_AllApart_1 K (gt a0 v2) a1_0).bind fun r3 => (bif r3 then some v2 else (l_slices_IndexFunc_impl_Thing_impl_AllApart_1_1 K a0 a1_0 n1 v1 (iAdd .i64 v2 1)))) else none) else some (-1))
def m_slices_IndexFunc_impl_Thing_impl_AllApart_1 (K : Nat) (a0 : List T_impl_Thing) (a1_0 : T_impl_Thing) : Option (Int) := (l_slices_IndexFunc_impl_Thing_impl_AllApart_1_1 K a0 a1_0 K (a0.length : Int) 0)
def s_123 : Sig := ⟨[.v 41, .f 58 [] [89]], [.v 3], true⟩
def c_123 (K : Nat) : Ctr tyU := ⟨s_123, m_slices_IndexFunc_impl_Thing_impl_AllApart_1 K⟩
def x_123 (K : Nat) := xF s_123 [(58, c_122 K)] [] 19 [] [] [] [] [.tmp 4]
def h_123_26 : Shape := ⟨[(0, .v 41), (1, .f 58 [] [89]), (7, .v 2), (8, .v 2)], []⟩
def M_123_26 (K : Nat) (n : Nat) (q : PT h_123_26) : Rt s_123 := l_slices_IndexFunc_impl_Thing_impl_AllApart_1_1 K q.1 q.2.1 n q.2.2.1 q.2.2.2.1
theorem e_123_26 (K : Nat) : AtL (x_123 K) (fun n => []) [] (bd Tryz.f122) 26 (M_123_26 K) := fun n q => by kernel_rfl
theorem xk_123 (K : Nat) : XF [.tmp 4] s_123 19 [] (x_123 K) := xkF (gam_cons (sp_122 K) gam_nil) ov_nil
theorem k_123_26 (K : Nat) (n : Nat) : CF [.tmp 4] s_123 19 [] (bd Tryz.f122) [] 26 (ar h_123_26 (M_123_26 K n)) :=
 loopF (xk_123 K) (e_123_26 K) (fun n => cuts_nil) n
theorem sp_123 (K : Nat) : OkF 122 (c_123 K) :=
 ctrF (x := x_123 K) (L := [(26, ar h_123_26 (M_123_26 K K))]) (c0 := bd Tryz.f122) (xk_123 K) (by intro a0 a1_0; show @Eq _ _ _; kernel_rfl) (cuts_cons (k_123_26 K K) cuts_nil) Tryz.func122 trivial
def m_slices_ContainsFunc_impl_Thing_impl_AllApart_1 (K : Nat) (a0 : List T_impl_Thing) (a1_0 : T_impl_Thing) : Option (Bool) := ((m_slices_IndexFunc_impl_Thing_impl_AllApart_1 K a0 a1_0).bind fun r1 => some (decide (r1 ≥ 0)))
def s_124 : Sig := ⟨[.v 41, .f 58 [] [89]], [.v 4], true⟩
def c_124 (K : Nat) : Ctr tyU := ⟨s_124, m_slices_ContainsFunc_impl_Thing_impl_AllApart_1 K⟩
def x_124 (K : Nat) := xF s_124 [(122, c_123 K)] [] 9 [] [] [] [] [.tmp 4]
theorem sp_124 (K : Nat) : OkF 54 (c_124 K) :=
 ctrF (x := x_124 K) (L := []) (c0 := bd Tryz.f54) (xkF (gam_cons (sp_123 K) gam_nil) ov_nil) (by intro a0 a1_0; show @Eq _ _ _; kernel_rfl) cuts_nil Tryz.func54 trivial
def l_impl_AllApart_1 (K : Nat) (a0 : List T_impl_Thing) : Nat -> (List T_impl_Thing) -> Int -> Int -> Option (Bool)
 | 0, _, _, _ => none
 | n1 + 1, v1, v2, v3 => (bif (decide (v3 < v2)) then (if (0 : Int) ≤ v3 ∧ v3 < (v1.length : Int) then (if (0 : Int) ≤ 0 ∧ 0 ≤ v3 ∧ v3 ≤ (a0.length : Int) then ((m_slices_ContainsFunc_impl_Thing_impl_AllApart_1 K ((a0.drop (0 : Int).toNat).take (v3 - 0).toNat) (gt v1 v3)).bind fun r4 => (bif r4 then some false else (l_impl_AllApart_1 K a0 n1 v1 v2 (iAdd .i64 v3 1)))) else none) else none) else some true)
def m_impl_AllApart (K : Nat) (a0 : List T_impl_Thing) : Option (Bool) := (l_impl_AllApart_1 K a0 K a0 (a0.length : Int) 0)
def s_125 : Sig := ⟨[.v 41], [.v 4], true⟩
def c_125 (K : Nat) : Ctr tyU := ⟨s_125, m_impl_AllApart K⟩
def x_125 (K : Nat) := xF s_125 [(54, c_124 K)] [] 18 [] [(4, [.frzB 104 89])] [] [] [.tmp 2]
def h_125_26 : Shape := ⟨[(0, .v 41), (5, .v 41), (6, .v 2), (7, .v 2)], []⟩
def M_125_26 (K : Nat) (n : Nat) (q : PT h_125_26) : Rt s_125 := l_impl_AllApart_1 K q.1 n q.2.1 q.2.2.1 q.2.2.2.1
theorem e_125_26 (K : Nat) : AtL (x_125 K) (fun n => []) [] (bd Tryz.f17) 26 (M_125_26 K) := fun n q => by kernel_rfl
theorem xk_125 (K : Nat) : XF [.tmp 2] s_125 18 [] (x_125 K) := xkF (gam_cons (sp_124 K) gam_nil) ov_nil
theorem k_125_26 (K : Nat) (n : Nat) : CF [.tmp 2] s_125 18 [] (bd Tryz.f17) [] 26 (ar h_125_26 (M_125_26 K n)) :=
 loopF (xk_125 K) (e_125_26 K) (fun n => cuts_nil) n
theorem sp_125 (K : Nat) : OkF 17 (c_125 K) :=
 ctrF (x := x_125 K) (L := [(26, ar h_125_26 (M_125_26 K K))]) (c0 := bd Tryz.f17) (xk_125 K) (by intro a0; show @Eq _ _ _; kernel_rfl) (cuts_cons (k_125_26 K K) cuts_nil) Tryz.func17 trivial
def m_impl_World_slotsOk_1 (K : Nat) (a0 : T_impl_Thing) (a1 : T_impl_Thing) : Option (Bool) := ((m_impl_Apart K a0 a1).bind fun r1 => some (!r1))
def s_126 : Sig := ⟨[.v 89, .r 89], [.v 4], true⟩
def c_126 (K : Nat) : Ctr tyU := ⟨s_126, m_impl_World_slotsOk_1 K⟩
def x_126 (K : Nat) := xF s_126 [(59, c_121 K)] [] 8 [] [] [] [] [.tmp 3]
theorem sp_126 (K : Nat) : OkF 230 (c_126 K) :=
 ctrF (x := x_126 K) (L := []) (c0 := bd Tryz.f230) (xkF (gam_cons (sp_121 K) gam_nil) ov_nil) (by intro a0 a1; show @Eq _ _ _; kernel_rfl) cuts_nil Tryz.func230 trivial
def l_slices_IndexFunc_impl_Thing_impl_World_slotsOk_1_1 (K : Nat) (a0 : List T_impl_Thing) (a1_0 : T_impl_Thing) : Nat -> Int -> Int -> Option (Int)
 | 0, _, _ => none
 | n1 + 1, v1, v2 => (bif (decide (v2 < v1)) then (if (0 : Int) ≤ v2 ∧ v2 < (a0.length : Int) then ((m_impl_World_slotsOk_1 K (gt a0 v2) a1_0).bind fun r3 => (bif r3 then some v2 else (l_slices_IndexFunc_impl_Thing_impl_World_slotsOk_1_1 K a0 a1_0 n1 v1 (iAdd .i64 v2 1)))) else none) else some (-1))
def m_slices_IndexFunc_impl_Thing_impl_World_slotsOk_1 (K : Nat) (a0 : List T_impl_Thing) (a1_0 : T_impl_Thing) : Option (Int) := (l_slices_IndexFunc_impl_Thing_impl_World_slotsOk_1_1 K a0 a1_0 K (a0.length : Int) 0)
def s_127 : Sig := ⟨[.v 41, .f 230 [] [89]], [.v 3], true⟩
def c_127 (K : Nat) : Ctr tyU := ⟨s_127, m_slices_IndexFunc_impl_Thing_impl_World_slotsOk_1 K⟩
def x_127 (K : Nat) := xF s_127 [(230, c_126 K)] [] 19 [] [] [] [] [.tmp 4]
def h_127_26 : Shape := ⟨[(0, .v 41), (1, .f 230 [] [89]), (7, .v 2), (8, .v 2)], []⟩
def M_127_26 (K : Nat) (n : Nat) (q : PT h_127_26) : Rt s_127 := l_slices_IndexFunc_impl_Thing_impl_World_slotsOk_1_1 K q.1 q.2.1 n q.2.2.1 q.2.2.2.1
theorem e_127_26 (K : Nat) : AtL (x_127 K) (fun n => []) [] (bd Tryz.f122) 26 (M_127_26 K) := fun n q => by kernel_rfl
theorem xk_127 (K : Nat) : XF [.tmp 4] s_127 19 [] (x_127 K) := xkF (gam_cons (sp_126 K) gam_nil) ov_nil
theorem k_127_26 (K : Nat) (n : Nat) : CF [.tmp 4] s_127 19 [] (bd Tryz.f122) [] 26 (ar h_127_26 (M_127_26 K n)) :=
 loopF (xk_127 K) (e_127_26 K) (fun n => cuts_nil) n
theorem sp_127 (K : Nat) : OkF 122 (c_127 K) :=
 ctrF (x := x_127 K) (L := [(26, ar h_127_26 (M_127_26 K K))]) (c0 := bd Tryz.f122) (xk_127 K) (by intro a0 a1_0; show @Eq _ _ _; kernel_rfl) (cuts_cons (k_127_26 K K) cuts_nil) Tryz.func122 trivial
def m_slices_ContainsFunc_impl_Thing_impl_World_slotsOk_1 (K : Nat) (a0 : List T_impl_Thing) (a1_0 : T_impl_Thing) : Option (Bool) := ((m_slices_IndexFunc_impl_Thing_impl_World_slotsOk_1 K a0 a1_0).bind fun r1 => some (decide (r1 ≥ 0)))
def s_128 : Sig := ⟨[.v 41, .f 230 [] [89]], [.v 4], true⟩
def c_128 (K : Nat) : Ctr tyU := ⟨s_128, m_slices_ContainsFunc_impl_Thing_impl_World_slotsOk_1 K⟩
def x_128 (K : Nat) := xF s_128 [(122, c_127 K)] [] 9 [] [] [] [] [.tmp 4]
theorem sp_128 (K : Nat) : OkF 54 (c_128 K) :=
 ctrF (x := x_128 K) (L := []) (c0 := bd Tryz.f54) (xkF (gam_cons (sp_127 K) gam_nil) ov_nil) (by intro a0 a1_0; show @Eq _ _ _; kernel_rfl) cuts_nil Tryz.func54 trivial
def j_impl_World_slotsOk_2 (K : Nat) (v1 : List T_impl_Node) (v2 : Int) (v3 : Int) (v4 : Int) (v5 : Int) (v6 : Int) (v7 : Int) (v8 : Int) (v9 : Int) (v10 : List Int) (v11 : List Int) (v12 : List Int) (v13 : List T_impl_Node) (v14 : List T_impl_Waste) (v15 : List Int) (C1 : (List T_impl_Node) -> Int -> Int -> Int -> Int -> Int -> Int -> Int -> Int -> (List Int) -> (List Int) -> (List Int) -> (List T_impl_Node) -> (List T_impl_Waste) -> (List Int) -> Option (Bool)) : Option (Bool) := (C1 v1 v2 (iAdd .i64 v3 1) v4 v5 v6 v7 v8 v9 v10 v11 v12 v13 v14 v15)
def l_impl_World_slotsOk_1 (K : Nat) : Nat -> (List T_impl_Node) -> Int -> Int -> Int -> Int -> Int -> Int -> Int -> Int -> (List Int) -> (List Int) -> (List Int) -> (List T_impl_Node) -> (List T_impl_Waste) -> (List Int) -> Option (Bool)
 | 0, _, _, _, _, _, _, _, _, _, _, _, _, _, _, _ => none
 | n1 + 1, v1, v2, v3, v4, v5, v6, v7, v8, v9, v10, v11, v12, v13, v14, v15 => (bif (decide (v3 < v2)) then (if (0 : Int) ≤ v3 ∧ v3 < (v1.length : Int) then ((m_slices_Clone_int K ((gt v1 v3).fChunks)).bind fun r16 => ((m_slices_Sort_int K r16).bind fun r17 => (if r17.length = r16.length then ((m_impl_NodeOk K (T_impl_Conf.mk v4 v5 v6 v7 v8 v9) (gt v1 v3)).bind fun r18 => (bif r18 then ((m_impl_OwnedBy K (T_impl_Pool.mk v10 v11 v12) v3).bind fun r19 => ((m_slices_Equal_int K r17 r19).bind fun r20 => (bif r20 then ((m_impl_InChunks K (T_impl_Conf.mk v4 v5 v6 v7 v8 v9) (gt v1 v3)).bind fun r21 => (bif r21 then ((m_impl_AllApart K ((gt v1 v3).fThings)).bind fun r22 => (bif (!r22) then some false else (bif (((gt v1 v3).fCur) == 0) then (j_impl_World_slotsOk_2 K v1 v2 v3 v4 v5 v6 v7 v8 v9 v10 v11 v12 v13 v14 v15 (l_impl_World_slotsOk_1 K n1)) else (if (0 : Int) ≤ ((T_impl_Thing.mk (iAdd .i64 (iMul .i64 (iSub .i64 ((gt v1 v3).fCur) 1) v5) ((gt v1 v3).fBump)) (iSub .i64 v5 ((gt v1 v3).fBump)) 0).fAt) ∧ ((T_impl_Thing.mk (iAdd .i64 (iMul .i64 (iSub .i64 ((gt v1 v3).fCur) 1) v5) ((gt v1 v3).fBump)) (iSub .i64 v5 ((gt v1 v3).fBump)) 0).fAt) ≤ (iAdd .i64 ((T_impl_Thing.mk (iAdd .i64 (iMul .i64 (iSub .i64 ((gt v1 v3).fCur) 1) v5) ((gt v1 v3).fBump)) (iSub .i64 v5 ((gt v1 v3).fBump)) 0).fAt) ((T_impl_Thing.mk (iAdd .i64 (iMul .i64 (iSub .i64 ((gt v1 v3).fCur) 1) v5) ((gt v1 v3).fBump)) (iSub .i64 v5 ((gt v1 v3).fBump)) 0).fLen)) ∧ (iAdd .i64 ((T_impl_Thing.mk (iAdd .i64 (iMul .i64 (iSub .i64 ((gt v1 v3).fCur) 1) v5) ((gt v1 v3).fBump)) (iSub .i64 v5 ((gt v1 v3).fBump)) 0).fAt) ((T_impl_Thing.mk (iAdd .i64 (iMul .i64 (iSub .i64 ((gt v1 v3).fCur) 1) v5) ((gt v1 v3).fBump)) (iSub .i64 v5 ((gt v1 v3).fBump)) 0).fLen)) ≤ (v10.length : Int) then ((m_impl_IsZero K ((v10.drop ((T_impl_Thing.mk (iAdd .i64 (iMul .i64 (iSub .i64 ((gt v1 v3).fCur) 1) v5) ((gt v1 v3).fBump)) (iSub .i64 v5 ((gt v1 v3).fBump)) 0).fAt).toNat).take ((iAdd .i64 ((T_impl_Thing.mk (iAdd .i64 (iMul .i64 (iSub .i64 ((gt v1 v3).fCur) 1) v5) ((gt v1 v3).fBump)) (iSub .i64 v5 ((gt v1 v3).fBump)) 0).fAt) ((T_impl_Thing.mk (iAdd .i64 (iMul .i64 (iSub .i64 ((gt v1 v3).fCur) 1) v5) ((gt v1 v3).fBump)) (iSub .i64 v5 ((gt v1 v3).fBump)) 0).fLen)) - ((T_impl_Thing.mk (iAdd .i64 (iMul .i64 (iSub .i64 ((gt v1 v3).fCur) 1) v5) ((gt v1 v3).fBump)) (iSub .i64 v5 ((gt v1 v3).fBump)) 0).fAt)).toNat)).bind fun r23 => (bif r23 then ((m_slices_ContainsFunc_impl_Thing_impl_World_slotsOk_1 K ((gt v1 v3).fThings) (T_impl_Thing.mk (iAdd .i64 (iMul .i64 (iSub .i64 ((gt v1 v3).fCur) 1) v5) ((gt v1 v3).fBump)) (iSub .i64 v5 ((gt v1 v3).fBump)) 0)).bind fun r24 => (bif r24 then some false else (j_impl_World_slotsOk_2 K v1 v2 v3 v4 v5 v6 v7 v8 v9 v10 v11 v12 v13 v14 v15 (l_impl_World_slotsOk_1 K n1)))) else some false)) else none)))) else some false)) else some false))) else some false)) else none))) else none) else some true)
def m_impl_World_slotsOk (K : Nat) (a0 : T_impl_World) : Option (Bool) := (l_impl_World_slotsOk_1 K K a0.fL (a0.fL.length : Int) 0 a0.fC.fChunks a0.fC.fSize a0.fC.fSlots a0.fC.fTax a0.fC.fSlice a0.fC.fGens a0.fP.fMem a0.fP.fSt a0.fP.fOwn a0.fL a0.fQ a0.fLog)
def s_129 : Sig := ⟨[.v 32], [.v 4], true⟩
def c_129 (K : Nat) : Ctr tyU := ⟨s_129, m_impl_World_slotsOk K⟩
def x_129 (K : Nat) := xF s_129 [(15, c_120 K), (16, c_116 K), (17, c_125 K), (54, c_128 K), (160, c_95 K), (167, c_115 K), (226, c_93 K), (228, c_slices_Sort_int K), (229, c_97 K)] [] 87 [23, 24, 25, 31, 32, 33, 34, 38, 39, 40, 41, 78, 79, 80] [(10, [.frzB 106 89])] [] [211] [.tmp 2]
def h_129_211 : Shape := ⟨[(1, .p 101), (8, .v 29), (9, .v 2), (10, .v 2)], [(101, .box [.v 2, .v 2, .v 2, .v 2, .v 2, .v 2, .v 22, .v 26, .v 26, .v 29, .v 30, .v 26])]⟩
def h_129_26 : Shape := ⟨[(1, .p 101), (8, .v 29), (9, .v 2), (10, .v 2)], [(101, .box [.v 2, .v 2, .v 2, .v 2, .v 2, .v 2, .v 22, .v 26, .v 26, .v 29, .v 30, .v 26])]⟩
def M_129_211 (K : Nat) (C26 : CT h_129_26 s_129) (q : PT h_129_211) : Rt s_129 := j_impl_World_slotsOk_2 K q.1 q.2.1 q.2.2.1 q.2.2.2.1 q.2.2.2.2.1 q.2.2.2.2.2.1 q.2.2.2.2.2.2.1 q.2.2.2.2.2.2.2.1 q.2.2.2.2.2.2.2.2.1 q.2.2.2.2.2.2.2.2.2.1 q.2.2.2.2.2.2.2.2.2.2.1 q.2.2.2.2.2.2.2.2.2.2.2.1 q.2.2.2.2.2.2.2.2.2.2.2.2.1 q.2.2.2.2.2.2.2.2.2.2.2.2.2.1 q.2.2.2.2.2.2.2.2.2.2.2.2.2.2.1 (fun v1 v2 v3 v4 v5 v6 v7 v8 v9 v10 v11 v12 v13 v14 v15 => C26 (v1, v2, v3, v4, v5, v6, v7, v8, v9, v10, v11, v12, v13, v14, v15, ()))
def M_129_26 (K : Nat) (n : Nat) (q : PT h_129_26) : Rt s_129 := l_impl_World_slotsOk_1 K n q.1 q.2.1 q.2.2.1 q.2.2.2.1 q.2.2.2.2.1 q.2.2.2.2.2.1 q.2.2.2.2.2.2.1 q.2.2.2.2.2.2.2.1 q.2.2.2.2.2.2.2.2.1 q.2.2.2.2.2.2.2.2.2.1 q.2.2.2.2.2.2.2.2.2.2.1 q.2.2.2.2.2.2.2.2.2.2.2.1 q.2.2.2.2.2.2.2.2.2.2.2.2.1 q.2.2.2.2.2.2.2.2.2.2.2.2.2.1 q.2.2.2.2.2.2.2.2.2.2.2.2.2.2.1
theorem e_129_211 (K : Nat) (C26 : CT h_129_26 s_129) : AtJ (x_129 K) [] [(26, ar h_129_26 C26)] (bd Tryz.f154) 211 (M_129_211 K C26) := fun q => by kernel_rfl
theorem e_129_26 (K : Nat) : AtL (x_129 K) (fun n => [(211, ar h_129_211 (M_129_211 K (M_129_26 K n)))]) [] (bd Tryz.f154) 26 (M_129_26 K) := fun n q => by kernel_rfl
theorem xk_129 (K : Nat) : XF [.tmp 2] s_129 87 [211] (x_129 K) := xkF (gam_cons (sp_120 K) (gam_cons (sp_116 K) (gam_cons (sp_125 K) (gam_cons (sp_128 K) (gam_cons (sp_95 K) (gam_cons (sp_115 K) (gam_cons (sp_93 K) (gam_cons (sp_slices_Sort_int K) (gam_cons (sp_97 K) gam_nil))))))))) ov_nil
theorem k_129_211 (K : Nat) (C26 : CT h_129_26 s_129) : CF [.tmp 2] s_129 87 [211] (bd Tryz.f154) [(26, ar h_129_26 C26)] 211 (ar h_129_211 (M_129_211 K C26)) :=
 joinF (xk_129 K) (e_129_211 K C26) cuts_nil
theorem k_129_26 (K : Nat) (n : Nat) : CF [.tmp 2] s_129 87 [211] (bd Tryz.f154) [] 26 (ar h_129_26 (M_129_26 K n)) :=
 loopF (xk_129 K) (e_129_26 K) (fun n => (cuts_cons (k_129_211 K (M_129_26 K n)) cuts_nil)) n
theorem sp_129 (K : Nat) : OkF 154 (c_129 K) :=
 ctrF (x := x_129 K) (L := [(26, ar h_129_26 (M_129_26 K K))]) (c0 := bd Tryz.f154) (xk_129 K) (by intro a0; show @Eq _ _ _; kernel_rfl) (cuts_cons (k_129_26 K K) cuts_nil) Tryz.func154 trivial
def m_impl_isLive (K : Nat) (a0 : List T_impl_Node) (a1 : Int) : Option (Bool) := (bif (a1 == 0) then some true else ((m_impl_isSlot K a0 (iSub .i64 a1 1)).bind fun r1 => (bif r1 then (if (0 : Int) ≤ (iSub .i64 a1 1) ∧ (iSub .i64 a1 1) < (a0.length : Int) then some (((gt a0 (iSub .i64 a1 1)).fSt) == 1) else none) else some false)))
def s_130 : Sig := ⟨[.v 29, .v 3], [.v 4], true⟩
def c_130 (K : Nat) : Ctr tyU := ⟨s_130, m_impl_isLive K⟩
def x_130 (K : Nat) := xF s_130 [(171, c_79 K)] [] 22 [6, 7, 11, 12] [] [] [] [.tmp 4]
theorem sp_130 (K : Nat) : OkF 271 (c_130 K) :=
 ctrF (x := x_130 K) (L := []) (c0 := bd Tryz.f271) (xkF (gam_cons (sp_79 K) gam_nil) ov_nil) (by intro a0 a1; show @Eq _ _ _; kernel_rfl) cuts_nil Tryz.func271 trivial
def m_impl_isCurrent (K : Nat) (a0 : List T_impl_Node) (a1 : Int) : Option (Bool) := (if (0 : Int) ≤ a1 ∧ a1 < (a0.length : Int) then ((m_impl_isSlot K a0 (iSub .i64 ((gt a0 a1).fUp) 1)).bind fun r1 => (bif r1 then (if (0 : Int) ≤ (iSub .i64 ((gt a0 a1).fUp) 1) ∧ (iSub .i64 ((gt a0 a1).fUp) 1) < (a0.length : Int) then (bif (((gt a0 (iSub .i64 ((gt a0 a1).fUp) 1)).fSt) == 1) then (if (0 : Int) ≤ (iSub .i64 ((gt a0 a1).fUp) 1) ∧ (iSub .i64 ((gt a0 a1).fUp) 1) < (a0.length : Int) then (if (0 : Int) ≤ a1 ∧ a1 < (a0.length : Int) then some (((gt a0 (iSub .i64 ((gt a0 a1).fUp) 1)).fEp) == ((gt a0 a1).fUpEp)) else none) else none) else some false) else none) else some false)) else none)
def s_131 : Sig := ⟨[.v 29, .v 3], [.v 4], true⟩
def c_131 (K : Nat) : Ctr tyU := ⟨s_131, m_impl_isCurrent K⟩
def x_131 (K : Nat) := xF s_131 [(171, c_79 K)] [] 36 [14, 15, 21, 22, 23] [] [] [] [.tmp 4]
theorem sp_131 (K : Nat) : OkF 233 (c_131 K) :=
 ctrF (x := x_131 K) (L := []) (c0 := bd Tryz.f233) (xkF (gam_cons (sp_79 K) gam_nil) ov_nil) (by intro a0 a1; show @Eq _ _ _; kernel_rfl) cuts_nil Tryz.func233 trivial
def j_impl_linksOk_4 (K : Nat) (a0 : List T_impl_Node) (a1 : Int) (v8 : Int) (v12 : Int) : Option (Bool) := (bif (v12 != 0) then some true else ((m_impl_isCurrent K a0 a1).bind fun r18 => (bif r18 then (if (0 : Int) ≤ (iSub .i64 v8 1) ∧ (iSub .i64 v8 1) < (a0.length : Int) then some (((gt a0 (iSub .i64 v8 1)).fFirst) == (iAdd .i64 a1 1)) else none) else some true)))
def j_impl_linksOk_3 (K : Nat) (a0 : List T_impl_Node) (a1 : Int) (v8 : Int) (v12 : Int) : Option (Bool) := (bif (v12 != 0) then (if (0 : Int) ≤ (iSub .i64 v12 1) ∧ (iSub .i64 v12 1) < (a0.length : Int) then (bif (((gt a0 (iSub .i64 v12 1)).fNext) != (iAdd .i64 a1 1)) then some false else (j_impl_linksOk_4 K a0 a1 v8 v12)) else none) else (j_impl_linksOk_4 K a0 a1 v8 v12))
def j_impl_linksOk_2 (K : Nat) (a0 : List T_impl_Node) (a1 : Int) (v8 : Int) (v9 : Int) (v11 : Int) (v12 : Int) : Option (Bool) := (bif (v11 != 0) then (if (0 : Int) ≤ (iSub .i64 v11 1) ∧ (iSub .i64 v11 1) < (a0.length : Int) then (bif (((gt a0 (iSub .i64 v11 1)).fPrev) != (iAdd .i64 a1 1)) then some false else (bif (((gt a0 (iSub .i64 v11 1)).fUp) != v8) then some false else (bif (((gt a0 (iSub .i64 v11 1)).fUpEp) != v9) then some false else (j_impl_linksOk_3 K a0 a1 v8 v12)))) else none) else (j_impl_linksOk_3 K a0 a1 v8 v12))
def j_impl_linksOk_1 (K : Nat) (a0 : List T_impl_Node) (a1 : Int) (v5 : Int) (v6 : Int) (v7 : Int) (v8 : Int) (v9 : Int) (v10 : Int) (v11 : Int) (v12 : Int) (v13 : List Int) (v14 : Int) (v15 : Int) (v16 : List T_impl_Thing) (v17 : List Int) : Option (Bool) := (bif (v10 != 0) then (if (0 : Int) ≤ (iSub .i64 v10 1) ∧ (iSub .i64 v10 1) < (a0.length : Int) then (bif (((gt a0 (iSub .i64 v10 1)).fPrev) != 0) then some false else (bif (((gt a0 (iSub .i64 v10 1)).fUp) != (iAdd .i64 a1 1)) then some false else (bif (((gt a0 (iSub .i64 v10 1)).fUpEp) != v7) then some false else (j_impl_linksOk_2 K a0 a1 v8 v9 v11 v12)))) else none) else (j_impl_linksOk_2 K a0 a1 v8 v9 v11 v12))
def m_impl_linksOk (K : Nat) (a0 : List T_impl_Node) (a1 : Int) : Option (Bool) := (if (0 : Int) ≤ a1 ∧ a1 < (a0.length : Int) then ((m_impl_isLive K a0 ((gt a0 a1).fFirst)).bind fun r1 => (bif r1 then ((m_impl_isLive K a0 ((gt a0 a1).fNext)).bind fun r2 => (bif r2 then ((m_impl_isLive K a0 ((gt a0 a1).fPrev)).bind fun r3 => (bif r3 then (bif (((gt a0 a1).fUp) != 0) then ((m_impl_isSlot K a0 (iSub .i64 ((gt a0 a1).fUp) 1)).bind fun r4 => (bif (!r4) then some false else (j_impl_linksOk_1 K a0 a1 ((gt a0 a1).fSt) ((gt a0 a1).fGen) ((gt a0 a1).fEp) ((gt a0 a1).fUp) ((gt a0 a1).fUpEp) ((gt a0 a1).fFirst) ((gt a0 a1).fNext) ((gt a0 a1).fPrev) ((gt a0 a1).fChunks) ((gt a0 a1).fCur) ((gt a0 a1).fBump) ((gt a0 a1).fThings) ((gt a0 a1).fTags)))) else (j_impl_linksOk_1 K a0 a1 ((gt a0 a1).fSt) ((gt a0 a1).fGen) ((gt a0 a1).fEp) ((gt a0 a1).fUp) ((gt a0 a1).fUpEp) ((gt a0 a1).fFirst) ((gt a0 a1).fNext) ((gt a0 a1).fPrev) ((gt a0 a1).fChunks) ((gt a0 a1).fCur) ((gt a0 a1).fBump) ((gt a0 a1).fThings) ((gt a0 a1).fTags))) else some false)) else some false)) else some false)) else none)
def s_132 : Sig := ⟨[.v 29, .v 3], [.v 4], true⟩
def c_132 (K : Nat) : Ctr tyU := ⟨s_132, m_impl_linksOk K⟩
def x_132 (K : Nat) := xF s_132 [(171, c_79 K), (233, c_131 K), (271, c_130 K)] [] 134 [15, 16, 17, 21, 22, 23, 24, 28, 29, 30, 31, 34, 35, 55, 56, 61, 62, 63, 83, 84, 89, 90, 91, 100, 101, 115, 116, 119, 120, 121, 122] [] [] [7, 15, 31, 63] [.tmp 4]
def h_132_63 : Shape := ⟨[(0, .v 29), (1, .v 2), (5, .p 105)], [(105, .box [.v 2, .v 2, .v 2, .v 2, .v 2, .v 2, .v 2, .v 2, .v 26, .v 2, .v 2, .v 41, .v 26])]⟩
def h_132_31 : Shape := ⟨[(0, .v 29), (1, .v 2), (5, .p 105)], [(105, .box [.v 2, .v 2, .v 2, .v 2, .v 2, .v 2, .v 2, .v 2, .v 26, .v 2, .v 2, .v 41, .v 26])]⟩
def h_132_15 : Shape := ⟨[(0, .v 29), (1, .v 2), (5, .p 105)], [(105, .box [.v 2, .v 2, .v 2, .v 2, .v 2, .v 2, .v 2, .v 2, .v 26, .v 2, .v 2, .v 41, .v 26])]⟩
def h_132_7 : Shape := ⟨[(0, .v 29), (1, .v 2), (5, .p 105)], [(105, .box [.v 2, .v 2, .v 2, .v 2, .v 2, .v 2, .v 2, .v 2, .v 26, .v 2, .v 2, .v 41, .v 26])]⟩
def M_132_63 (K : Nat) (q : PT h_132_63) : Rt s_132 := j_impl_linksOk_4 K q.1 q.2.1 q.2.2.2.2.2.1 q.2.2.2.2.2.2.2.2.2.1
def M_132_31 (K : Nat) (q : PT h_132_31) : Rt s_132 := j_impl_linksOk_3 K q.1 q.2.1 q.2.2.2.2.2.1 q.2.2.2.2.2.2.2.2.2.1
def M_132_15 (K : Nat) (q : PT h_132_15) : Rt s_132 := j_impl_linksOk_2 K q.1 q.2.1 q.2.2.2.2.2.1 q.2.2.2.2.2.2.1 q.2.2.2.2.2.2.2.2.1 q.2.2.2.2.2.2.2.2.2.1
def M_132_7 (K : Nat) (q : PT h_132_7) : Rt s_132 := j_impl_linksOk_1 K q.1 q.2.1 q.2.2.1 q.2.2.2.1 q.2.2.2.2.1 q.2.2.2.2.2.1 q.2.2.2.2.2.2.1 q.2.2.2.2.2.2.2.1 q.2.2.2.2.2.2.2.2.1 q.2.2.2.2.2.2.2.2.2.1 q.2.2.2.2.2.2.2.2.2.2.1 q.2.2.2.2.2.2.2.2.2.2.2.1 q.2.2.2.2.2.2.2.2.2.2.2.2.1 q.2.2.2.2.2.2.2.2.2.2.2.2.2.1 q.2.2.2.2.2.2.2.2.2.2.2.2.2.2.1
theorem e_132_63 (K : Nat) : AtJ (x_132 K) [] [] (bd Tryz.f231) 63 (M_132_63 K) := fun q => by kernel_rfl
theorem e_132_31 (K : Nat) : AtJ (x_132 K) [(63, ar h_132_63 (M_132_63 K))] [] (bd Tryz.f231) 31 (M_132_31 K) := fun q => by kernel_rfl
theorem e_132_15 (K : Nat) : AtJ (x_132 K) [(31, ar h_132_31 (M_132_31 K))] [] (bd Tryz.f231) 15 (M_132_15 K) := fun q => by kernel_rfl
theorem e_132_7 (K : Nat) : AtJ (x_132 K) [(15, ar h_132_15 (M_132_15 K))] [] (bd Tryz.f231) 7 (M_132_7 K) := fun q => by kernel_rfl
theorem xk_132 (K : Nat) : XF [.tmp 4] s_132 134 [7, 15, 31, 63] (x_132 K) := xkF (gam_cons (sp_79 K) (gam_cons (sp_131 K) (gam_cons (sp_130 K) gam_nil))) ov_nil
theorem k_132_63 (K : Nat) : CF [.tmp 4] s_132 134 [7, 15, 31, 63] (bd Tryz.f231) [] 63 (ar h_132_63 (M_132_63 K)) :=
 joinF (xk_132 K) (e_132_63 K) cuts_nil
theorem k_132_31 (K : Nat) : CF [.tmp 4] s_132 134 [7, 15, 31, 63] (bd Tryz.f231) [] 31 (ar h_132_31 (M_132_31 K)) :=
 joinF (xk_132 K) (e_132_31 K) (cuts_cons (k_132_63 K) cuts_nil)
theorem k_132_15 (K : Nat) : CF [.tmp 4] s_132 134 [7, 15, 31, 63] (bd Tryz.f231) [] 15 (ar h_132_15 (M_132_15 K)) :=
 joinF (xk_132 K) (e_132_15 K) (cuts_cons (k_132_31 K) cuts_nil)
theorem k_132_7 (K : Nat) : CF [.tmp 4] s_132 134 [7, 15, 31, 63] (bd Tryz.f231) [] 7 (ar h_132_7 (M_132_7 K)) :=
 joinF (xk_132 K) (e_132_7 K) (cuts_cons (k_132_15 K) cuts_nil)
theorem sp_132 (K : Nat) : OkF 231 (c_132 K) :=
 ctrF (x := x_132 K) (L := [(7, ar h_132_7 (M_132_7 K))]) (c0 := bd Tryz.f231) (xk_132 K) (by intro a0 a1; show @Eq _ _ _; kernel_rfl) (cuts_cons (k_132_7 K) cuts_nil) Tryz.func231 trivial
def j_impl_TreeOk_2 (K : Nat) (v1 : List T_impl_Node) (v2 : Int) (v3 : Int) (C1 : (List T_impl_Node) -> Int -> Int -> Option (Bool)) : Option (Bool) := (C1 v1 v2 (iAdd .i64 v3 1))
def l_impl_TreeOk_1 (K : Nat) (a0 : List T_impl_Node) : Nat -> (List T_impl_Node) -> Int -> Int -> Option (Bool)
 | 0, _, _, _ => none
 | n1 + 1, v1, v2, v3 => (bif (decide (v3 < v2)) then (if (0 : Int) ≤ v3 ∧ v3 < (v1.length : Int) then (bif (((gt v1 v3).fSt) != 1) then (j_impl_TreeOk_2 K v1 v2 v3 (l_impl_TreeOk_1 K a0 n1)) else ((m_impl_linksOk K a0 v3).bind fun r4 => (bif (!r4) then some false else ((m_impl_Rise K a0 v3).bind fun r5 => (bif (decide ((r5.length : Int) > 4)) then some false else (if (0 : Int) ≤ (iSub .i64 (r5.length : Int) 1) ∧ (iSub .i64 (r5.length : Int) 1) < (r5.length : Int) then ((m_impl_isCurrent K a0 (gt r5 (iSub .i64 (r5.length : Int) 1))).bind fun r6 => (bif r6 then some false else (j_impl_TreeOk_2 K v1 v2 v3 (l_impl_TreeOk_1 K a0 n1)))) else none)))))) else none) else some true)
def m_impl_TreeOk (K : Nat) (a0 : List T_impl_Node) : Option (Bool) := (l_impl_TreeOk_1 K a0 K a0 (a0.length : Int) 0)
def s_133 : Sig := ⟨[.v 29], [.v 4], true⟩
def c_133 (K : Nat) : Ctr tyU := ⟨s_133, m_impl_TreeOk K⟩
def x_133 (K : Nat) := xF s_133 [(231, c_132 K), (232, c_81 K), (233, c_131 K)] [] 37 [25, 26] [] [] [211] [.tmp 2]
def h_133_211 : Shape := ⟨[(0, .v 29), (6, .v 29), (7, .v 2), (8, .v 2)], []⟩
def h_133_26 : Shape := ⟨[(0, .v 29), (6, .v 29), (7, .v 2), (8, .v 2)], []⟩
def M_133_211 (K : Nat) (C26 : CT h_133_26 s_133) (q : PT h_133_211) : Rt s_133 := j_impl_TreeOk_2 K q.2.1 q.2.2.1 q.2.2.2.1 (fun v1 v2 v3 => C26 (q.1, v1, v2, v3, ()))
def M_133_26 (K : Nat) (n : Nat) (q : PT h_133_26) : Rt s_133 := l_impl_TreeOk_1 K q.1 n q.2.1 q.2.2.1 q.2.2.2.1
theorem e_133_211 (K : Nat) (C26 : CT h_133_26 s_133) : AtJ (x_133 K) [] [(26, ar h_133_26 C26)] (bd Tryz.f155) 211 (M_133_211 K C26) := fun q => by kernel_rfl
theorem e_133_26 (K : Nat) : AtL (x_133 K) (fun n => [(211, ar h_133_211 (M_133_211 K (M_133_26 K n)))]) [] (bd Tryz.f155) 26 (M_133_26 K) := fun n q => by kernel_rfl
theorem xk_133 (K : Nat) : XF [.tmp 2] s_133 37 [211] (x_133 K) := xkF (gam_cons (sp_132 K) (gam_cons (sp_81 K) (gam_cons (sp_131 K) gam_nil))) ov_nil
theorem k_133_211 (K : Nat) (C26 : CT h_133_26 s_133) : CF [.tmp 2] s_133 37 [211] (bd Tryz.f155) [(26, ar h_133_26 C26)] 211 (ar h_133_211 (M_133_211 K C26)) :=
 joinF (xk_133 K) (e_133_211 K C26) cuts_nil
theorem k_133_26 (K : Nat) (n : Nat) : CF [.tmp 2] s_133 37 [211] (bd Tryz.f155) [] 26 (ar h_133_26 (M_133_26 K n)) :=
 loopF (xk_133 K) (e_133_26 K) (fun n => (cuts_cons (k_133_211 K (M_133_26 K n)) cuts_nil)) n
theorem sp_133 (K : Nat) : OkF 155 (c_133 K) :=
 ctrF (x := x_133 K) (L := [(26, ar h_133_26 (M_133_26 K K))]) (c0 := bd Tryz.f155) (xk_133 K) (by intro a0; show @Eq _ _ _; kernel_rfl) (cuts_cons (k_133_26 K K) cuts_nil) Tryz.func155 trivial
def m_impl_isOrphan (K : Nat) (a0 : List T_impl_Node) (a1 : Int) : Option (Bool) := (if (0 : Int) ≤ a1 ∧ a1 < (a0.length : Int) then (bif (((gt a0 a1).fSt) == 1) then (if (0 : Int) ≤ a1 ∧ a1 < (a0.length : Int) then (bif (((gt a0 a1).fUp) != 0) then ((m_impl_isCurrent K a0 a1).bind fun r1 => some (!r1)) else some false) else none) else some false) else none)
def s_134 : Sig := ⟨[.v 29, .v 3], [.v 4], true⟩
def c_134 (K : Nat) : Ctr tyU := ⟨s_134, m_impl_isOrphan K⟩
def x_134 (K : Nat) := xF s_134 [(233, c_131 K)] [] 25 [10, 11, 17, 18, 19] [] [] [] [.tmp 4]
theorem sp_134 (K : Nat) : OkF 235 (c_134 K) :=
 ctrF (x := x_134 K) (L := []) (c0 := bd Tryz.f235) (xkF (gam_cons (sp_131 K) gam_nil) ov_nil) (by intro a0 a1; show @Eq _ _ _; kernel_rfl) cuts_nil Tryz.func235 trivial
def m_impl_WasteOk (K : Nat) (a0 : T_impl_Conf) (a1 : T_impl_Waste) : Option (Bool) := ((m_impl_ConfOk K a0).bind fun r1 => (bif r1 then ((m_impl_within K a1.fSlot 0 a0.fSlots).bind fun r2 => (bif r2 then ((m_impl_within K a1.fFirst 0 a0.fSlots).bind fun r3 => (bif r3 then (bif (decide ((a1.fTags.length : Int) ≤ 6)) then ((m_impl_areBytes K a1.fTags).bind fun r4 => (bif r4 then ((m_impl_distinct K a0 a1.fChunks).bind fun r5 => (bif r5 then ((m_impl_within K a1.fDone 0 (iSub .i64 a0.fSize 1)).bind fun r6 => (bif r6 then (bif (decide ((a1.fChunks.length : Int) > 0)) then some true else some (a1.fDone == 0)) else some false)) else some false)) else some false)) else some false) else some false)) else some false)) else some false))
def s_135 : Sig := ⟨[.v 25, .v 159], [.v 4], true⟩
def c_135 (K : Nat) : Ctr tyU := ⟨s_135, m_impl_WasteOk K⟩
def x_135 (K : Nat) := xF s_135 [(88, c_78 K), (157, c_107 K), (198, c_87 K), (240, c_103 K)] [] 57 [6, 7, 12, 13, 14, 19, 20, 21, 25, 26, 27, 30, 31, 32, 36, 37, 38, 44, 45, 46, 50, 51] [] [] [] [.tmp 4]
theorem sp_135 (K : Nat) : OkF 234 (c_135 K) :=
 ctrF (x := x_135 K) (L := []) (c0 := bd Tryz.f234) (xkF (gam_cons (sp_78 K) (gam_cons (sp_107 K) (gam_cons (sp_87 K) (gam_cons (sp_103 K) gam_nil)))) ov_nil) (by intro a0 a1; show @Eq _ _ _; kernel_rfl) cuts_nil Tryz.func234 trivial
def l_impl_KidsOf_1 (K : Nat) (a0 : List T_impl_Node) : Nat -> (List Int) -> Int -> Option ((List Int))
 | 0, _, _ => none
 | n1 + 1, v1, v2 => ((m_impl_isSlot K a0 v2).bind fun r3 => (bif r3 then (bif (decide ((v1.length : Int) < (a0.length : Int))) then (if (v1 ++ ([v2] : List Int)).length * 8 ≤ 140737488355328 ∧ (v1 ++ ([v2] : List Int)).length ≤ maxLen then (if (0 : Int) ≤ v2 ∧ v2 < (a0.length : Int) then (l_impl_KidsOf_1 K a0 n1 (v1 ++ ([v2] : List Int)) (iSub .i64 ((gt a0 v2).fNext) 1)) else none) else none) else some v1) else some v1))
def m_impl_KidsOf (K : Nat) (a0 : List T_impl_Node) (a1 : Int) : Option ((List Int)) := (l_impl_KidsOf_1 K a0 K ([] : List Int) (iSub .i64 a1 1))
def s_136 : Sig := ⟨[.v 29, .v 3], [.n 26 true], true⟩
def c_136 (K : Nat) : Ctr tyU := ⟨s_136, m_impl_KidsOf K⟩
def x_136 (K : Nat) := xF s_136 [(171, c_79 K)] [] 31 [12, 13] [] [] [] [.tmp 4]
def h_136_58 : Shape := ⟨[(0, .v 29), (5, .o 1005 3 true), (6, .v 2)], []⟩
def M_136_58 (K : Nat) (n : Nat) (q : PT h_136_58) : Rt s_136 := l_impl_KidsOf_1 K q.1 n q.2.1 q.2.2.1
theorem e_136_58 (K : Nat) : AtL (x_136 K) (fun n => []) [] (bd Tryz.f206) 58 (M_136_58 K) := fun n q => by kernel_rfl
theorem xk_136 (K : Nat) : XF [.tmp 4] s_136 31 [] (x_136 K) := xkF (gam_cons (sp_79 K) gam_nil) ov_nil
theorem k_136_58 (K : Nat) (n : Nat) : CF [.tmp 4] s_136 31 [] (bd Tryz.f206) [] 58 (ar h_136_58 (M_136_58 K n)) :=
 loopF (xk_136 K) (e_136_58 K) (fun n => cuts_nil) n
theorem sp_136 (K : Nat) : OkF 206 (c_136 K) :=
 ctrF (x := x_136 K) (L := [(58, ar h_136_58 (M_136_58 K K))]) (c0 := bd Tryz.f206) (xk_136 K) (by intro a0 a1; show @Eq _ _ _; kernel_rfl) (cuts_cons (k_136_58 K K) cuts_nil) Tryz.func206 trivial
def l_impl_World_wasteOk_6 (K : Nat) (v4 : List T_impl_Waste) (v5 : Int) (v6 : Int) (v7 : Int) (v8 : Int) (v9 : Int) (v10 : Int) (v11 : Int) (v12 : Int) (v13 : List Int) (v14 : List Int) (v15 : List Int) (v16 : List T_impl_Node) (v17 : List T_impl_Waste) (v18 : List Int) (v27 : List Int) (v31 : List Int) (r32 : (List Int)) (C1 : (List Int) -> (List Int) -> (List Int) -> (List T_impl_Waste) -> Int -> Int -> Int -> Int -> Int -> Int -> Int -> Int -> (List Int) -> (List Int) -> (List Int) -> (List T_impl_Node) -> (List T_impl_Waste) -> (List Int) -> Option (Bool)) : Nat -> (List Int) -> Int -> Int -> Option (Bool)
 | 0, _, _, _ => none
 | n6 + 1, v33, v34, v35 => (bif (decide (v35 < v34)) then (if (0 : Int) ≤ v35 ∧ v35 < (r32.length : Int) then (if (0 : Int) ≤ (gt r32 v35) ∧ (gt r32 v35) < (v33.length : Int) then (if (0 : Int) ≤ (gt r32 v35) ∧ (gt r32 v35) < (v33.length : Int) then ((m_impl_isOrphan K v16 (gt r32 v35)).bind fun r36 => (bif (!r36) then some false else (l_impl_World_wasteOk_6 K v4 v5 v6 v7 v8 v9 v10 v11 v12 v13 v14 v15 v16 v17 v18 v27 v31 r32 C1 n6 (v33.set (gt r32 v35).toNat (iAdd .i64 (gt v33 (gt r32 v35)) 1)) v34 (iAdd .i64 v35 1)))) else none) else none) else none) else (C1 v27 v31 v33 v4 v5 (iAdd .i64 v6 1) v7 v8 v9 v10 v11 v12 v13 v14 v15 v16 v17 v18))
def j_impl_World_wasteOk_5 (K : Nat) (v3 : List Int) (v4 : List T_impl_Waste) (v5 : Int) (v6 : Int) (v7 : Int) (v8 : Int) (v9 : Int) (v10 : Int) (v11 : Int) (v12 : Int) (v13 : List Int) (v14 : List Int) (v15 : List Int) (v16 : List T_impl_Node) (v17 : List T_impl_Waste) (v18 : List Int) (v23 : Int) (v27 : List Int) (v31 : List Int) (C1 : (List Int) -> (List Int) -> (List Int) -> (List T_impl_Waste) -> Int -> Int -> Int -> Int -> Int -> Int -> Int -> Int -> (List Int) -> (List Int) -> (List Int) -> (List T_impl_Node) -> (List T_impl_Waste) -> (List Int) -> Option (Bool)) : Option (Bool) := ((m_impl_KidsOf K v16 v23).bind fun r32 => (l_impl_World_wasteOk_6 K v4 v5 v6 v7 v8 v9 v10 v11 v12 v13 v14 v15 v16 v17 v18 v27 v31 r32 (C1) K v3 (r32.length : Int) 0))
def j_impl_World_wasteOk_4 (K : Nat) (v3 : List Int) (v4 : List T_impl_Waste) (v5 : Int) (v6 : Int) (v7 : Int) (v8 : Int) (v9 : Int) (v10 : Int) (v11 : Int) (v12 : Int) (v13 : List Int) (v14 : List Int) (v15 : List Int) (v16 : List T_impl_Node) (v17 : List T_impl_Waste) (v18 : List Int) (v23 : Int) (v27 : List Int) (C1 : (List Int) -> (List Int) -> (List Int) -> (List T_impl_Waste) -> Int -> Int -> Int -> Int -> Int -> Int -> Int -> Int -> (List Int) -> (List Int) -> (List Int) -> (List T_impl_Node) -> (List T_impl_Waste) -> (List Int) -> Option (Bool)) (v31 : List Int) : Option (Bool) := (bif (decide (v23 > 0)) then (if (0 : Int) ≤ (iSub .i64 v23 1) ∧ (iSub .i64 v23 1) < (v16.length : Int) then (bif (((gt v16 (iSub .i64 v23 1)).fPrev) != 0) then some false else (j_impl_World_wasteOk_5 K v3 v4 v5 v6 v7 v8 v9 v10 v11 v12 v13 v14 v15 v16 v17 v18 v23 v27 v31 (C1))) else none) else (j_impl_World_wasteOk_5 K v3 v4 v5 v6 v7 v8 v9 v10 v11 v12 v13 v14 v15 v16 v17 v18 v23 v27 v31 (C1)))
def l_impl_World_wasteOk_3 (K : Nat) (v2 : List Int) (v3 : List Int) (v4 : List T_impl_Waste) (v5 : Int) (v6 : Int) (v7 : Int) (v8 : Int) (v9 : Int) (v10 : Int) (v11 : Int) (v12 : Int) (v13 : List Int) (v14 : List Int) (v15 : List Int) (v16 : List T_impl_Node) (v17 : List T_impl_Waste) (v18 : List Int) (v22 : Int) (v23 : Int) (v25 : List Int) (C1 : (List Int) -> (List Int) -> (List Int) -> (List T_impl_Waste) -> Int -> Int -> Int -> Int -> Int -> Int -> Int -> Int -> (List Int) -> (List Int) -> (List Int) -> (List T_impl_Node) -> (List T_impl_Waste) -> (List Int) -> Option (Bool)) : Nat -> (List Int) -> Int -> Int -> (List Int) -> Option (Bool)
 | 0, _, _, _, _ => none
 | n3 + 1, v27, v28, v29, v30 => (bif (decide (v29 < v28)) then (if (0 : Int) ≤ v29 ∧ v29 < (v25.length : Int) then (if (0 : Int) ≤ (gt v25 v29) ∧ (gt v25 v29) < (v27.length : Int) then (if (0 : Int) ≤ (gt v25 v29) ∧ (gt v25 v29) < (v27.length : Int) then (if (0 : Int) ≤ (gt v25 v29) ∧ (gt v25 v29) < (v14.length : Int) then (bif ((gt v14 (gt v25 v29)) != 2) then some false else (l_impl_World_wasteOk_3 K v2 v3 v4 v5 v6 v7 v8 v9 v10 v11 v12 v13 v14 v15 v16 v17 v18 v22 v23 v25 C1 n3 (v27.set (gt v25 v29).toNat (iAdd .i64 (gt v27 (gt v25 v29)) 1)) v28 (iAdd .i64 v29 1) v30)) else none) else none) else none) else none) else (bif (decide (v22 > 0)) then (if (0 : Int) ≤ (iSub .i64 v22 1) ∧ (iSub .i64 v22 1) < (v2.length : Int) then (if (0 : Int) ≤ (iSub .i64 v22 1) ∧ (iSub .i64 v22 1) < (v2.length : Int) then (if (0 : Int) ≤ (iSub .i64 v22 1) ∧ (iSub .i64 v22 1) < (v16.length : Int) then (bif (((gt v16 (iSub .i64 v22 1)).fSt) != 2) then some false else (j_impl_World_wasteOk_4 K v3 v4 v5 v6 v7 v8 v9 v10 v11 v12 v13 v14 v15 v16 v17 v18 v23 v27 (C1) (v2.set (iSub .i64 v22 1).toNat (iAdd .i64 (gt v2 (iSub .i64 v22 1)) 1)))) else none) else none) else none) else (j_impl_World_wasteOk_4 K v3 v4 v5 v6 v7 v8 v9 v10 v11 v12 v13 v14 v15 v16 v17 v18 v23 v27 (C1) v2)))
def j_impl_World_wasteOk_2 (K : Nat) (v1 : List Int) (v2 : List Int) (v3 : List Int) (v4 : List T_impl_Waste) (v5 : Int) (v6 : Int) (v7 : Int) (v8 : Int) (v9 : Int) (v10 : Int) (v11 : Int) (v12 : Int) (v13 : List Int) (v14 : List Int) (v15 : List Int) (v16 : List T_impl_Node) (v17 : List T_impl_Waste) (v18 : List Int) (C1 : (List Int) -> (List Int) -> (List Int) -> (List T_impl_Waste) -> Int -> Int -> Int -> Int -> Int -> Int -> Int -> Int -> (List Int) -> (List Int) -> (List Int) -> (List T_impl_Node) -> (List T_impl_Waste) -> (List Int) -> Option (Bool)) (v22 : Int) (v23 : Int) (v24 : List Int) (v25 : List Int) (v26 : Int) : Option (Bool) := (l_impl_World_wasteOk_3 K v2 v3 v4 v5 v6 v7 v8 v9 v10 v11 v12 v13 v14 v15 v16 v17 v18 v22 v23 v25 (C1) K v1 (v25.length : Int) 0 v25)
def j_impl_World_wasteOk_8 (K : Nat) (v37 : Int) (v38 : Int) (v39 : List Int) (C7 : Int -> Int -> (List Int) -> Option (Bool)) : Option (Bool) := (C7 v37 (iAdd .i64 v38 1) v39)
def j_impl_World_wasteOk_10 (K : Nat) (v40 : Int) (v41 : Int) (v42 : List T_impl_Node) (C9 : Int -> Int -> (List T_impl_Node) -> Option (Bool)) : Option (Bool) := (C9 v40 (iAdd .i64 v41 1) v42)
def l_impl_World_wasteOk_9 (K : Nat) (v2 : List Int) (v3 : List Int) (v16 : List T_impl_Node) : Nat -> Int -> Int -> (List T_impl_Node) -> Option (Bool)
 | 0, _, _, _ => none
 | n9 + 1, v40, v41, v42 => (bif (decide (v41 < v40)) then (if (0 : Int) ≤ v41 ∧ v41 < (v16.length : Int) then (bif (((gt v16 v41).fSt) == 2) then (if (0 : Int) ≤ v41 ∧ v41 < (v2.length : Int) then (bif ((gt v2 v41) != 1) then some false else ((m_impl_isOrphan K v42 v41).bind fun r43 => (bif r43 then (if (0 : Int) ≤ v41 ∧ v41 < (v3.length : Int) then (bif ((gt v3 v41) != 1) then some false else (j_impl_World_wasteOk_10 K v40 v41 v42 (l_impl_World_wasteOk_9 K v2 v3 v16 n9))) else none) else (j_impl_World_wasteOk_10 K v40 v41 v42 (l_impl_World_wasteOk_9 K v2 v3 v16 n9))))) else none) else ((m_impl_isOrphan K v42 v41).bind fun r44 => (bif r44 then (if (0 : Int) ≤ v41 ∧ v41 < (v3.length : Int) then (bif ((gt v3 v41) != 1) then some false else (j_impl_World_wasteOk_10 K v40 v41 v42 (l_impl_World_wasteOk_9 K v2 v3 v16 n9))) else none) else (j_impl_World_wasteOk_10 K v40 v41 v42 (l_impl_World_wasteOk_9 K v2 v3 v16 n9))))) else none) else some true)
def l_impl_World_wasteOk_7 (K : Nat) (v1 : List Int) (v2 : List Int) (v3 : List Int) (v14 : List Int) (v16 : List T_impl_Node) : Nat -> Int -> Int -> (List Int) -> Option (Bool)
 | 0, _, _, _ => none
 | n7 + 1, v37, v38, v39 => (bif (decide (v38 < v37)) then (if (0 : Int) ≤ v38 ∧ v38 < (v14.length : Int) then (bif ((gt v14 v38) == 2) then (if (0 : Int) ≤ v38 ∧ v38 < (v1.length : Int) then (bif ((gt v1 v38) != 1) then some false else (j_impl_World_wasteOk_8 K v37 v38 v39 (l_impl_World_wasteOk_7 K v1 v2 v3 v14 v16 n7))) else none) else (j_impl_World_wasteOk_8 K v37 v38 v39 (l_impl_World_wasteOk_7 K v1 v2 v3 v14 v16 n7))) else none) else (l_impl_World_wasteOk_9 K v2 v3 v16 K (v16.length : Int) 0 v16))
def l_impl_World_wasteOk_1 (K : Nat) : Nat -> (List Int) -> (List Int) -> (List Int) -> (List T_impl_Waste) -> Int -> Int -> Int -> Int -> Int -> Int -> Int -> Int -> (List Int) -> (List Int) -> (List Int) -> (List T_impl_Node) -> (List T_impl_Waste) -> (List Int) -> Option (Bool)
 | 0, _, _, _, _, _, _, _, _, _, _, _, _, _, _, _, _, _, _ => none
 | n1 + 1, v1, v2, v3, v4, v5, v6, v7, v8, v9, v10, v11, v12, v13, v14, v15, v16, v17, v18 => (bif (decide (v6 < v5)) then (if (0 : Int) ≤ v6 ∧ v6 < (v4.length : Int) then ((m_impl_WasteOk K (T_impl_Conf.mk v7 v8 v9 v10 v11 v12) (gt v4 v6)).bind fun r19 => (bif r19 then (bif (decide ((((gt v4 v6).fChunks).length : Int) > 0)) then (if (0 : Int) ≤ 0 ∧ 0 < (((gt v4 v6).fChunks).length : Int) then ((m_impl_Pool_chunk K (T_impl_Pool.mk v13 v14 v15) (T_impl_Conf.mk v7 v8 v9 v10 v11 v12) (gt ((gt v4 v6).fChunks) 0)).bind fun r20 => (if (0 : Int) ≤ 0 ∧ 0 ≤ ((gt v4 v6).fDone) ∧ ((gt v4 v6).fDone) ≤ (r20.length : Int) then ((m_impl_IsZero K ((r20.drop (0 : Int).toNat).take (((gt v4 v6).fDone) - 0).toNat)).bind fun r21 => (bif (!r21) then some false else (j_impl_World_wasteOk_2 K v1 v2 v3 v4 v5 v6 v7 v8 v9 v10 v11 v12 v13 v14 v15 v16 v17 v18 (l_impl_World_wasteOk_1 K n1) ((gt v4 v6).fSlot) ((gt v4 v6).fFirst) ((gt v4 v6).fTags) ((gt v4 v6).fChunks) ((gt v4 v6).fDone)))) else none)) else none) else (j_impl_World_wasteOk_2 K v1 v2 v3 v4 v5 v6 v7 v8 v9 v10 v11 v12 v13 v14 v15 v16 v17 v18 (l_impl_World_wasteOk_1 K n1) ((gt v4 v6).fSlot) ((gt v4 v6).fFirst) ((gt v4 v6).fTags) ((gt v4 v6).fChunks) ((gt v4 v6).fDone))) else some false)) else none) else (l_impl_World_wasteOk_7 K v1 v2 v3 v14 v16 K (v14.length : Int) 0 v14))
def m_impl_World_wasteOk (K : Nat) (a0 : T_impl_World) : Option (Bool) := (if (0 : Int) ≤ a0.fC.fChunks ∧ a0.fC.fChunks ≤ a0.fC.fChunks ∧ (8 : Int) * a0.fC.fChunks ≤ 281474976710656 ∧ a0.fC.fChunks ≤ 9223372036854775807 then (if (0 : Int) ≤ a0.fC.fSlots ∧ a0.fC.fSlots ≤ a0.fC.fSlots ∧ (8 : Int) * a0.fC.fSlots ≤ 281474976710656 ∧ a0.fC.fSlots ≤ 9223372036854775807 then (if (0 : Int) ≤ a0.fC.fSlots ∧ a0.fC.fSlots ≤ a0.fC.fSlots ∧ (8 : Int) * a0.fC.fSlots ≤ 281474976710656 ∧ a0.fC.fSlots ≤ 9223372036854775807 then (l_impl_World_wasteOk_1 K K (List.replicate a0.fC.fChunks.toNat 0) (List.replicate a0.fC.fSlots.toNat 0) (List.replicate a0.fC.fSlots.toNat 0) a0.fQ (a0.fQ.length : Int) 0 a0.fC.fChunks a0.fC.fSize a0.fC.fSlots a0.fC.fTax a0.fC.fSlice a0.fC.fGens a0.fP.fMem a0.fP.fSt a0.fP.fOwn a0.fL a0.fQ a0.fLog) else none) else none) else none)
def s_137 : Sig := ⟨[.v 32], [.v 4], true⟩
def c_137 (K : Nat) : Ctr tyU := ⟨s_137, m_impl_World_wasteOk K⟩
def x_137 (K : Nat) := xF s_137 [(206, c_136 K), (226, c_93 K), (227, c_89 K), (234, c_135 K), (235, c_134 K)] [] 191 [38, 39, 40, 44, 45, 105, 106, 150, 151, 169, 170, 175, 176, 177, 181, 182] [] [] [979, 2003, 3737, 14951, 29903] [.tmp 2]
def h_137_239230 : Shape := ⟨[(1, .p 101), (3, .o 1003 3 true), (4, .o 1004 3 true), (5, .o 1005 3 true), (29, .v 30), (30, .v 2), (31, .v 2), (121, .v 26), (122, .v 2), (123, .v 2)], [(101, .box [.v 2, .v 2, .v 2, .v 2, .v 2, .v 2, .v 22, .v 26, .v 26, .v 29, .v 30, .v 26])]⟩
def h_137_29903 : Shape := ⟨[(1, .p 101), (3, .o 1003 3 true), (4, .o 1004 3 true), (5, .o 1005 3 true), (7, .p 107), (29, .v 30), (30, .v 2), (31, .v 2)], [(107, .box [.v 2, .v 2, .v 26, .v 26, .v 2]), (101, .box [.v 2, .v 2, .v 2, .v 2, .v 2, .v 2, .v 22, .v 26, .v 26, .v 29, .v 30, .v 26])]⟩
def h_137_14951 : Shape := ⟨[(1, .p 101), (3, .o 1003 3 true), (4, .o 1004 3 true), (5, .o 1005 3 true), (7, .p 107), (29, .v 30), (30, .v 2), (31, .v 2)], [(107, .box [.v 2, .v 2, .v 26, .v 26, .v 2]), (101, .box [.v 2, .v 2, .v 2, .v 2, .v 2, .v 2, .v 22, .v 26, .v 26, .v 29, .v 30, .v 26])]⟩
def h_137_59802 : Shape := ⟨[(1, .p 101), (3, .o 1003 3 true), (4, .o 1004 3 true), (5, .o 1005 3 true), (7, .p 107), (29, .v 30), (30, .v 2), (31, .v 2), (63, .v 26), (64, .v 2), (65, .v 2)], [(107, .box [.v 2, .v 2, .v 26, .v 26, .v 2]), (101, .box [.v 2, .v 2, .v 2, .v 2, .v 2, .v 2, .v 22, .v 26, .v 26, .v 29, .v 30, .v 26])]⟩
def h_137_3737 : Shape := ⟨[(1, .p 101), (3, .o 1003 3 true), (4, .o 1004 3 true), (5, .o 1005 3 true), (7, .p 107), (29, .v 30), (30, .v 2), (31, .v 2)], [(107, .box [.v 2, .v 2, .v 26, .v 26, .v 2]), (101, .box [.v 2, .v 2, .v 2, .v 2, .v 2, .v 2, .v 22, .v 26, .v 26, .v 29, .v 30, .v 26])]⟩
def h_137_979 : Shape := ⟨[(1, .p 101), (3, .o 1003 3 true), (4, .o 1004 3 true), (5, .o 1005 3 true), (142, .v 26), (143, .v 2), (144, .v 2)], [(101, .box [.v 2, .v 2, .v 2, .v 2, .v 2, .v 2, .v 22, .v 26, .v 26, .v 29, .v 30, .v 26])]⟩
def h_137_2003 : Shape := ⟨[(1, .p 101), (4, .o 1004 3 true), (5, .o 1005 3 true), (160, .v 29), (161, .v 2), (162, .v 2)], [(101, .box [.v 2, .v 2, .v 2, .v 2, .v 2, .v 2, .v 22, .v 26, .v 26, .v 29, .v 30, .v 26])]⟩
def h_137_250 : Shape := ⟨[(1, .p 101), (4, .o 1004 3 true), (5, .o 1005 3 true), (160, .v 29), (161, .v 2), (162, .v 2)], [(101, .box [.v 2, .v 2, .v 2, .v 2, .v 2, .v 2, .v 22, .v 26, .v 26, .v 29, .v 30, .v 26])]⟩
def h_137_122 : Shape := ⟨[(1, .p 101), (3, .o 1003 3 true), (4, .o 1004 3 true), (5, .o 1005 3 true), (142, .v 26), (143, .v 2), (144, .v 2)], [(101, .box [.v 2, .v 2, .v 2, .v 2, .v 2, .v 2, .v 22, .v 26, .v 26, .v 29, .v 30, .v 26])]⟩
def h_137_58 : Shape := ⟨[(1, .p 101), (3, .o 1003 3 true), (4, .o 1004 3 true), (5, .o 1005 3 true), (29, .v 30), (30, .v 2), (31, .v 2)], [(101, .box [.v 2, .v 2, .v 2, .v 2, .v 2, .v 2, .v 22, .v 26, .v 26, .v 29, .v 30, .v 26])]⟩
def M_137_239230 (K : Nat) (C58 : CT h_137_58 s_137) (n : Nat) (q : PT h_137_239230) : Rt s_137 := l_impl_World_wasteOk_6 K q.2.2.2.1 q.2.2.2.2.1 q.2.2.2.2.2.1 q.2.2.2.2.2.2.2.2.2.1 q.2.2.2.2.2.2.2.2.2.2.1 q.2.2.2.2.2.2.2.2.2.2.2.1 q.2.2.2.2.2.2.2.2.2.2.2.2.1 q.2.2.2.2.2.2.2.2.2.2.2.2.2.1 q.2.2.2.2.2.2.2.2.2.2.2.2.2.2.1 q.2.2.2.2.2.2.2.2.2.2.2.2.2.2.2.1 q.2.2.2.2.2.2.2.2.2.2.2.2.2.2.2.2.1 q.2.2.2.2.2.2.2.2.2.2.2.2.2.2.2.2.2.1 q.2.2.2.2.2.2.2.2.2.2.2.2.2.2.2.2.2.2.1 q.2.2.2.2.2.2.2.2.2.2.2.2.2.2.2.2.2.2.2.1 q.2.2.2.2.2.2.2.2.2.2.2.2.2.2.2.2.2.2.2.2.1 q.1 q.2.1 q.2.2.2.2.2.2.1 (fun v1 v2 v3 v4 v5 v6 v7 v8 v9 v10 v11 v12 v13 v14 v15 v16 v17 v18 => C58 (v1, v2, v3, v4, v5, v6, v7, v8, v9, v10, v11, v12, v13, v14, v15, v16, v17, v18, ())) n q.2.2.1 q.2.2.2.2.2.2.2.1 q.2.2.2.2.2.2.2.2.1
def M_137_29903 (K : Nat) (C58 : CT h_137_58 s_137) (q : PT h_137_29903) : Rt s_137 := j_impl_World_wasteOk_5 K q.2.2.1 q.2.2.2.1 q.2.2.2.2.1 q.2.2.2.2.2.1 q.2.2.2.2.2.2.2.2.2.2.2.1 q.2.2.2.2.2.2.2.2.2.2.2.2.1 q.2.2.2.2.2.2.2.2.2.2.2.2.2.1 q.2.2.2.2.2.2.2.2.2.2.2.2.2.2.1 q.2.2.2.2.2.2.2.2.2.2.2.2.2.2.2.1 q.2.2.2.2.2.2.2.2.2.2.2.2.2.2.2.2.1 q.2.2.2.2.2.2.2.2.2.2.2.2.2.2.2.2.2.1 q.2.2.2.2.2.2.2.2.2.2.2.2.2.2.2.2.2.2.1 q.2.2.2.2.2.2.2.2.2.2.2.2.2.2.2.2.2.2.2.1 q.2.2.2.2.2.2.2.2.2.2.2.2.2.2.2.2.2.2.2.2.1 q.2.2.2.2.2.2.2.2.2.2.2.2.2.2.2.2.2.2.2.2.2.1 q.2.2.2.2.2.2.2.2.2.2.2.2.2.2.2.2.2.2.2.2.2.2.1 q.2.2.2.2.2.2.2.1 q.1 q.2.1 (fun v1 v2 v3 v4 v5 v6 v7 v8 v9 v10 v11 v12 v13 v14 v15 v16 v17 v18 => C58 (v1, v2, v3, v4, v5, v6, v7, v8, v9, v10, v11, v12, v13, v14, v15, v16, v17, v18, ()))
def M_137_14951 (K : Nat) (C58 : CT h_137_58 s_137) (q : PT h_137_14951) : Rt s_137 := j_impl_World_wasteOk_4 K q.2.2.1 q.2.2.2.1 q.2.2.2.2.1 q.2.2.2.2.2.1 q.2.2.2.2.2.2.2.2.2.2.2.1 q.2.2.2.2.2.2.2.2.2.2.2.2.1 q.2.2.2.2.2.2.2.2.2.2.2.2.2.1 q.2.2.2.2.2.2.2.2.2.2.2.2.2.2.1 q.2.2.2.2.2.2.2.2.2.2.2.2.2.2.2.1 q.2.2.2.2.2.2.2.2.2.2.2.2.2.2.2.2.1 q.2.2.2.2.2.2.2.2.2.2.2.2.2.2.2.2.2.1 q.2.2.2.2.2.2.2.2.2.2.2.2.2.2.2.2.2.2.1 q.2.2.2.2.2.2.2.2.2.2.2.2.2.2.2.2.2.2.2.1 q.2.2.2.2.2.2.2.2.2.2.2.2.2.2.2.2.2.2.2.2.1 q.2.2.2.2.2.2.2.2.2.2.2.2.2.2.2.2.2.2.2.2.2.1 q.2.2.2.2.2.2.2.2.2.2.2.2.2.2.2.2.2.2.2.2.2.2.1 q.2.2.2.2.2.2.2.1 q.1 (fun v1 v2 v3 v4 v5 v6 v7 v8 v9 v10 v11 v12 v13 v14 v15 v16 v17 v18 => C58 (v1, v2, v3, v4, v5, v6, v7, v8, v9, v10, v11, v12, v13, v14, v15, v16, v17, v18, ())) q.2.1
def M_137_59802 (K : Nat) (C58 : CT h_137_58 s_137) (n : Nat) (q : PT h_137_59802) : Rt s_137 := l_impl_World_wasteOk_3 K q.2.1 q.2.2.1 q.2.2.2.1 q.2.2.2.2.1 q.2.2.2.2.2.1 q.2.2.2.2.2.2.2.2.2.2.2.2.2.2.1 q.2.2.2.2.2.2.2.2.2.2.2.2.2.2.2.1 q.2.2.2.2.2.2.2.2.2.2.2.2.2.2.2.2.1 q.2.2.2.2.2.2.2.2.2.2.2.2.2.2.2.2.2.1 q.2.2.2.2.2.2.2.2.2.2.2.2.2.2.2.2.2.2.1 q.2.2.2.2.2.2.2.2.2.2.2.2.2.2.2.2.2.2.2.1 q.2.2.2.2.2.2.2.2.2.2.2.2.2.2.2.2.2.2.2.2.1 q.2.2.2.2.2.2.2.2.2.2.2.2.2.2.2.2.2.2.2.2.2.1 q.2.2.2.2.2.2.2.2.2.2.2.2.2.2.2.2.2.2.2.2.2.2.1 q.2.2.2.2.2.2.2.2.2.2.2.2.2.2.2.2.2.2.2.2.2.2.2.1 q.2.2.2.2.2.2.2.2.2.2.2.2.2.2.2.2.2.2.2.2.2.2.2.2.1 q.2.2.2.2.2.2.2.2.2.2.2.2.2.2.2.2.2.2.2.2.2.2.2.2.2.1 q.2.2.2.2.2.2.2.2.2.1 q.2.2.2.2.2.2.2.2.2.2.1 q.2.2.2.2.2.2.1 (fun v1 v2 v3 v4 v5 v6 v7 v8 v9 v10 v11 v12 v13 v14 v15 v16 v17 v18 => C58 (v1, v2, v3, v4, v5, v6, v7, v8, v9, v10, v11, v12, v13, v14, v15, v16, v17, v18, ())) n q.1 q.2.2.2.2.2.2.2.1 q.2.2.2.2.2.2.2.2.1 q.2.2.2.2.2.2.2.2.2.2.2.2.1
def M_137_3737 (K : Nat) (C58 : CT h_137_58 s_137) (q : PT h_137_3737) : Rt s_137 := j_impl_World_wasteOk_2 K q.1 q.2.1 q.2.2.1 q.2.2.2.1 q.2.2.2.2.1 q.2.2.2.2.2.1 q.2.2.2.2.2.2.2.2.2.2.2.1 q.2.2.2.2.2.2.2.2.2.2.2.2.1 q.2.2.2.2.2.2.2.2.2.2.2.2.2.1 q.2.2.2.2.2.2.2.2.2.2.2.2.2.2.1 q.2.2.2.2.2.2.2.2.2.2.2.2.2.2.2.1 q.2.2.2.2.2.2.2.2.2.2.2.2.2.2.2.2.1 q.2.2.2.2.2.2.2.2.2.2.2.2.2.2.2.2.2.1 q.2.2.2.2.2.2.2.2.2.2.2.2.2.2.2.2.2.2.1 q.2.2.2.2.2.2.2.2.2.2.2.2.2.2.2.2.2.2.2.1 q.2.2.2.2.2.2.2.2.2.2.2.2.2.2.2.2.2.2.2.2.1 q.2.2.2.2.2.2.2.2.2.2.2.2.2.2.2.2.2.2.2.2.2.1 q.2.2.2.2.2.2.2.2.2.2.2.2.2.2.2.2.2.2.2.2.2.2.1 (fun v1 v2 v3 v4 v5 v6 v7 v8 v9 v10 v11 v12 v13 v14 v15 v16 v17 v18 => C58 (v1, v2, v3, v4, v5, v6, v7, v8, v9, v10, v11, v12, v13, v14, v15, v16, v17, v18, ())) q.2.2.2.2.2.2.1 q.2.2.2.2.2.2.2.1 q.2.2.2.2.2.2.2.2.1 q.2.2.2.2.2.2.2.2.2.1 q.2.2.2.2.2.2.2.2.2.2.1
def M_137_979 (K : Nat) (C122 : CT h_137_122 s_137) (q : PT h_137_979) : Rt s_137 := j_impl_World_wasteOk_8 K q.2.2.2.2.1 q.2.2.2.2.2.1 q.2.2.2.2.2.2.2.2.2.2.2.2.2.1 (fun v37 v38 v39 => C122 (q.1, q.2.1, q.2.2.1, q.2.2.2.1, v37, v38, q.2.2.2.2.2.2.1, q.2.2.2.2.2.2.2.1, q.2.2.2.2.2.2.2.2.1, q.2.2.2.2.2.2.2.2.2.1, q.2.2.2.2.2.2.2.2.2.2.1, q.2.2.2.2.2.2.2.2.2.2.2.1, q.2.2.2.2.2.2.2.2.2.2.2.2.1, v39, q.2.2.2.2.2.2.2.2.2.2.2.2.2.2.1, q.2.2.2.2.2.2.2.2.2.2.2.2.2.2.2.1, q.2.2.2.2.2.2.2.2.2.2.2.2.2.2.2.2.1, q.2.2.2.2.2.2.2.2.2.2.2.2.2.2.2.2.2.1, ()))
def M_137_2003 (K : Nat) (C250 : CT h_137_250 s_137) (q : PT h_137_2003) : Rt s_137 := j_impl_World_wasteOk_10 K q.2.2.2.1 q.2.2.2.2.1 q.2.2.2.2.2.2.2.2.2.2.2.2.2.2.1 (fun v40 v41 v42 => C250 (q.1, q.2.1, q.2.2.1, v40, v41, q.2.2.2.2.2.1, q.2.2.2.2.2.2.1, q.2.2.2.2.2.2.2.1, q.2.2.2.2.2.2.2.2.1, q.2.2.2.2.2.2.2.2.2.1, q.2.2.2.2.2.2.2.2.2.2.1, q.2.2.2.2.2.2.2.2.2.2.2.1, q.2.2.2.2.2.2.2.2.2.2.2.2.1, q.2.2.2.2.2.2.2.2.2.2.2.2.2.1, v42, q.2.2.2.2.2.2.2.2.2.2.2.2.2.2.2.1, q.2.2.2.2.2.2.2.2.2.2.2.2.2.2.2.2.1, ()))
def M_137_250 (K : Nat) (n : Nat) (q : PT h_137_250) : Rt s_137 := l_impl_World_wasteOk_9 K q.1 q.2.1 q.2.2.1 n q.2.2.2.1 q.2.2.2.2.1 q.2.2.2.2.2.2.2.2.2.2.2.2.2.2.1
def M_137_122 (K : Nat) (n : Nat) (q : PT h_137_122) : Rt s_137 := l_impl_World_wasteOk_7 K q.1 q.2.1 q.2.2.1 q.2.2.2.1 q.2.2.2.2.2.2.2.2.2.2.2.2.2.2.2.1 n q.2.2.2.2.1 q.2.2.2.2.2.1 q.2.2.2.2.2.2.2.2.2.2.2.2.2.1
def M_137_58 (K : Nat) (n : Nat) (q : PT h_137_58) : Rt s_137 := l_impl_World_wasteOk_1 K n q.1 q.2.1 q.2.2.1 q.2.2.2.1 q.2.2.2.2.1 q.2.2.2.2.2.1 q.2.2.2.2.2.2.1 q.2.2.2.2.2.2.2.1 q.2.2.2.2.2.2.2.2.1 q.2.2.2.2.2.2.2.2.2.1 q.2.2.2.2.2.2.2.2.2.2.1 q.2.2.2.2.2.2.2.2.2.2.2.1 q.2.2.2.2.2.2.2.2.2.2.2.2.1 q.2.2.2.2.2.2.2.2.2.2.2.2.2.1 q.2.2.2.2.2.2.2.2.2.2.2.2.2.2.1 q.2.2.2.2.2.2.2.2.2.2.2.2.2.2.2.1 q.2.2.2.2.2.2.2.2.2.2.2.2.2.2.2.2.1 q.2.2.2.2.2.2.2.2.2.2.2.2.2.2.2.2.2.1
theorem e_137_239230 (K : Nat) (C58 : CT h_137_58 s_137) : AtL (x_137 K) (fun n => []) [(58, ar h_137_58 C58)] (bd Tryz.f156) 239230 (M_137_239230 K C58) := fun n q => by kernel_rfl
theorem e_137_29903 (K : Nat) (C58 : CT h_137_58 s_137) : AtJ (x_137 K) [(239230, ar h_137_239230 (M_137_239230 K C58 K))] [(58, ar h_137_58 C58)] (bd Tryz.f156) 29903 (M_137_29903 K C58) := fun q => by kernel_rfl
theorem e_137_14951 (K : Nat) (C58 : CT h_137_58 s_137) : AtJ (x_137 K) [(29903, ar h_137_29903 (M_137_29903 K C58))] [(58, ar h_137_58 C58)] (bd Tryz.f156) 14951 (M_137_14951 K C58) := fun q => by kernel_rfl
theorem e_137_59802 (K : Nat) (C58 : CT h_137_58 s_137) : AtL (x_137 K) (fun n => [(14951, ar h_137_14951 (M_137_14951 K C58))]) [(58, ar h_137_58 C58)] (bd Tryz.f156) 59802 (M_137_59802 K C58) := fun n q => by kernel_rfl
theorem e_137_3737 (K : Nat) (C58 : CT h_137_58 s_137) : AtJ (x_137 K) [(59802, ar h_137_59802 (M_137_59802 K C58 K))] [(58, ar h_137_58 C58)] (bd Tryz.f156) 3737 (M_137_3737 K C58) := fun q => by kernel_rfl
theorem e_137_979 (K : Nat) (C122 : CT h_137_122 s_137) : AtJ (x_137 K) [] [(122, ar h_137_122 C122)] (bd Tryz.f156) 979 (M_137_979 K C122) := fun q => by kernel_rfl
theorem e_137_2003 (K : Nat) (C250 : CT h_137_250 s_137) : AtJ (x_137 K) [] [(250, ar h_137_250 C250)] (bd Tryz.f156) 2003 (M_137_2003 K C250) := fun q => by kernel_rfl
theorem e_137_250 (K : Nat) : AtL (x_137 K) (fun n => [(2003, ar h_137_2003 (M_137_2003 K (M_137_250 K n)))]) [] (bd Tryz.f156) 250 (M_137_250 K) := fun n q => by kernel_rfl
theorem e_137_122 (K : Nat) : AtL (x_137 K) (fun n => [(979, ar h_137_979 (M_137_979 K (M_137_122 K n))), (250, ar h_137_250 (M_137_250 K K))]) [] (bd Tryz.f156) 122 (M_137_122 K) := fun n q => by kernel_rfl
theorem e_137_58 (K : Nat) : AtL (x_137 K) (fun n => [(3737, ar h_137_3737 (M_137_3737 K (M_137_58 K n))), (122, ar h_137_122 (M_137_122 K K))]) [] (bd Tryz.f156) 58 (M_137_58 K) := fun n q => by kernel_rfl
theorem xk_137 (K : Nat) : XF [.tmp 2] s_137 191 [979, 2003, 3737, 14951, 29903] (x_137 K) := xkF (gam_cons (sp_136 K) (gam_cons (sp_93 K) (gam_cons (sp_89 K) (gam_cons (sp_135 K) (gam_cons (sp_134 K) gam_nil))))) ov_nil
theorem k_137_239230 (K : Nat) (C58 : CT h_137_58 s_137) (n : Nat) : CF [.tmp 2] s_137 191 [979, 2003, 3737, 14951, 29903] (bd Tryz.f156) [(58, ar h_137_58 C58)] 239230 (ar h_137_239230 (M_137_239230 K C58 n)) :=
 loopF (xk_137 K) (e_137_239230 K C58) (fun n => cuts_nil) n
theorem k_137_29903 (K : Nat) (C58 : CT h_137_58 s_137) : CF [.tmp 2] s_137 191 [979, 2003, 3737, 14951, 29903] (bd Tryz.f156) [(58, ar h_137_58 C58)] 29903 (ar h_137_29903 (M_137_29903 K C58)) :=
 joinF (xk_137 K) (e_137_29903 K C58) (cuts_cons (k_137_239230 K C58 K) cuts_nil)
theorem k_137_14951 (K : Nat) (C58 : CT h_137_58 s_137) : CF [.tmp 2] s_137 191 [979, 2003, 3737, 14951, 29903] (bd Tryz.f156) [(58, ar h_137_58 C58)] 14951 (ar h_137_14951 (M_137_14951 K C58)) :=
 joinF (xk_137 K) (e_137_14951 K C58) (cuts_cons (k_137_29903 K C58) cuts_nil)
theorem k_137_59802 (K : Nat) (C58 : CT h_137_58 s_137) (n : Nat) : CF [.tmp 2] s_137 191 [979, 2003, 3737, 14951, 29903] (bd Tryz.f156) [(58, ar h_137_58 C58)] 59802 (ar h_137_59802 (M_137_59802 K C58 n)) :=
 loopF (xk_137 K) (e_137_59802 K C58) (fun n => (cuts_cons (cut_up (by kernel_rfl) (k_137_14951 K C58)) cuts_nil)) n
theorem k_137_3737 (K : Nat) (C58 : CT h_137_58 s_137) : CF [.tmp 2] s_137 191 [979, 2003, 3737, 14951, 29903] (bd Tryz.f156) [(58, ar h_137_58 C58)] 3737 (ar h_137_3737 (M_137_3737 K C58)) :=
 joinF (xk_137 K) (e_137_3737 K C58) (cuts_cons (k_137_59802 K C58 K) cuts_nil)
theorem k_137_979 (K : Nat) (C122 : CT h_137_122 s_137) : CF [.tmp 2] s_137 191 [979, 2003, 3737, 14951, 29903] (bd Tryz.f156) [(122, ar h_137_122 C122)] 979 (ar h_137_979 (M_137_979 K C122)) :=
 joinF (xk_137 K) (e_137_979 K C122) cuts_nil
theorem k_137_2003 (K : Nat) (C250 : CT h_137_250 s_137) : CF [.tmp 2] s_137 191 [979, 2003, 3737, 14951, 29903] (bd Tryz.f156) [(250, ar h_137_250 C250)] 2003 (ar h_137_2003 (M_137_2003 K C250)) :=
 joinF (xk_137 K) (e_137_2003 K C250) cuts_nil
theorem k_137_250 (K : Nat) (n : Nat) : CF [.tmp 2] s_137 191 [979, 2003, 3737, 14951, 29903] (bd Tryz.f156) [] 250 (ar h_137_250 (M_137_250 K n)) :=
 loopF (xk_137 K) (e_137_250 K) (fun n => (cuts_cons (k_137_2003 K (M_137_250 K n)) cuts_nil)) n
theorem k_137_122 (K : Nat) (n : Nat) : CF [.tmp 2] s_137 191 [979, 2003, 3737, 14951, 29903] (bd Tryz.f156) [] 122 (ar h_137_122 (M_137_122 K n)) :=
 loopF (xk_137 K) (e_137_122 K) (fun n => (cuts_cons (k_137_979 K (M_137_122 K n)) (cuts_cons (cut_up (by kernel_rfl) (k_137_250 K K)) cuts_nil))) n
theorem k_137_58 (K : Nat) (n : Nat) : CF [.tmp 2] s_137 191 [979, 2003, 3737, 14951, 29903] (bd Tryz.f156) [] 58 (ar h_137_58 (M_137_58 K n)) :=
 loopF (xk_137 K) (e_137_58 K) (fun n => (cuts_cons (k_137_3737 K (M_137_58 K n)) (cuts_cons (cut_up (by kernel_rfl) (k_137_122 K K)) cuts_nil))) n
theorem sp_137 (K : Nat) : OkF 156 (c_137 K) :=
 ctrF (x := x_137 K) (L := [(58, ar h_137_58 (M_137_58 K K))]) (c0 := bd Tryz.f156) (xk_137 K) (by intro a0; show @Eq _ _ _; kernel_rfl) (cuts_cons (k_137_58 K K) cuts_nil) Tryz.func156 trivial
def m_impl_WorldOk (K : Nat) (a0 : T_impl_World) : Option (Bool) := ((m_impl_PoolOk K a0.fC a0.fP).bind fun r1 => (bif r1 then (bif ((a0.fL.length : Int) == a0.fC.fSlots) then ((m_impl_World_slotsOk K a0).bind fun r2 => (bif r2 then ((m_impl_TreeOk K a0.fL).bind fun r3 => (bif r3 then ((m_impl_World_wasteOk K a0).bind fun r4 => (bif r4 then ((m_impl_areBytes K a0.fLog).bind fun r5 => some r5) else some false)) else some false)) else some false)) else some false) else some false))
def s_138 : Sig := ⟨[.v 32], [.v 4], true⟩
def c_138 (K : Nat) : Ctr tyU := ⟨s_138, m_impl_WorldOk K⟩
def x_138 (K : Nat) := xF s_138 [(153, c_94 K), (154, c_129 K), (155, c_133 K), (156, c_137 K), (157, c_107 K)] [] 35 [7, 8, 15, 16, 17, 19, 20, 21, 24, 25, 26, 28, 29, 30] [] [] [] [.tmp 2]
theorem sp_138 (K : Nat) : OkF 87 (c_138 K) :=
 ctrF (x := x_138 K) (L := []) (c0 := bd Tryz.f87) (xkF (gam_cons (sp_94 K) (gam_cons (sp_129 K) (gam_cons (sp_133 K) (gam_cons (sp_137 K) (gam_cons (sp_107 K) gam_nil))))) ov_nil) (by intro a0; show @Eq _ _ _; kernel_rfl) cuts_nil Tryz.func87 trivial
def m_slices_Clone_byte (K : Nat) (a0 : List Int) : Option ((List Int)) := (bif a0.isEmpty then both (some []) ((if (([] : List Int) ++ a0).length * 1 ≤ 140737488355328 ∧ (([] : List Int) ++ a0).length ≤ maxLen then some (([] : List Int) ++ a0) else none)) else (if (([] : List Int) ++ a0).length * 1 ≤ 140737488355328 ∧ (([] : List Int) ++ a0).length ≤ maxLen then some (([] : List Int) ++ a0) else none))
def s_139 : Sig := ⟨[.v 22], [.n 22 true], true⟩
def c_139 (K : Nat) : Ctr tyU := ⟨s_139, m_slices_Clone_byte K⟩
def x_139 (K : Nat) := xF s_139 [] [] 8 [] [] [] [] [.tmp 2]
theorem sp_139 (K : Nat) : OkF 188 (c_139 K) :=
 ctrF (x := x_139 K) (L := []) (c0 := bd Tryz.f188) (xkF gam_nil ov_nil) (by intro a0; show @Eq _ _ _; kernel_rfl) cuts_nil Tryz.func188 trivial
def m_impl_copyPool (K : Nat) (a0 : T_impl_Pool) : Option (T_impl_Pool) := ((m_slices_Clone_byte K a0.fMem).bind fun r1 => ((m_slices_Clone_int K a0.fSt).bind fun r2 => ((m_slices_Clone_int K a0.fOwn).bind fun r3 => some (T_impl_Pool.mk r1 r2 r3))))
def s_140 : Sig := ⟨[.v 28], [.n 28 true], true⟩
def c_140 (K : Nat) : Ctr tyU := ⟨s_140, m_impl_copyPool K⟩
def x_140 (K : Nat) := xF s_140 [(160, c_95 K), (188, c_139 K)] [] 13 [] [] [] [] [.cell 2 28]
theorem sp_140 (K : Nat) : OkF 158 (c_140 K) :=
 ctrF (x := x_140 K) (L := []) (c0 := bd Tryz.f158) (xkF (gam_cons (sp_95 K) (gam_cons (sp_139 K) gam_nil)) ov_nil) (by intro a0; show @Eq _ _ _; kernel_rfl) cuts_nil Tryz.func158 trivial
def m_slices_Clone_impl_Thing (K : Nat) (a0 : List T_impl_Thing) : Option ((List T_impl_Thing)) := (bif a0.isEmpty then both (some []) ((if (([] : List T_impl_Thing) ++ a0).length * 24 ≤ 140737488355328 ∧ (([] : List T_impl_Thing) ++ a0).length ≤ maxLen then some (([] : List T_impl_Thing) ++ a0) else none)) else (if (([] : List T_impl_Thing) ++ a0).length * 24 ≤ 140737488355328 ∧ (([] : List T_impl_Thing) ++ a0).length ≤ maxLen then some (([] : List T_impl_Thing) ++ a0) else none))
def s_141 : Sig := ⟨[.v 41], [.n 41 true], true⟩
def c_141 (K : Nat) : Ctr tyU := ⟨s_141, m_slices_Clone_impl_Thing K⟩
def x_141 (K : Nat) := xF s_141 [] [] 8 [] [] [] [] [.tmp 2]
theorem sp_141 (K : Nat) : OkF 273 (c_141 K) :=
 ctrF (x := x_141 K) (L := []) (c0 := bd Tryz.f273) (xkF gam_nil ov_nil) (by intro a0; show @Eq _ _ _; kernel_rfl) cuts_nil Tryz.func273 trivial
def m_impl_copyNode (K : Nat) (a0 : T_impl_Node) : Option (T_impl_Node) := ((m_slices_Clone_int K a0.fChunks).bind fun r1 => ((m_slices_Clone_impl_Thing K a0.fThings).bind fun r2 => ((m_slices_Clone_int K a0.fTags).bind fun r3 => some (T_impl_Node.mk a0.fSt a0.fGen a0.fEp a0.fUp a0.fUpEp a0.fFirst a0.fNext a0.fPrev r1 a0.fCur a0.fBump r2 r3))))
def s_142 : Sig := ⟨[.v 44], [.n 44 true], true⟩
def c_142 (K : Nat) : Ctr tyU := ⟨s_142, m_impl_copyNode K⟩
def x_142 (K : Nat) := xF s_142 [(160, c_95 K), (273, c_141 K)] [] 16 [] [] [] [] [.cell 2 44]
theorem sp_142 (K : Nat) : OkF 238 (c_142 K) :=
 ctrF (x := x_142 K) (L := []) (c0 := bd Tryz.f238) (xkF (gam_cons (sp_95 K) (gam_cons (sp_141 K) gam_nil)) ov_nil) (by intro a0; show @Eq _ _ _; kernel_rfl) cuts_nil Tryz.func238 trivial
def l_impl_copyTable_1 (K : Nat) (a0 : List T_impl_Node) : Nat -> (List T_impl_Node) -> Int -> Int -> Option ((List T_impl_Node))
 | 0, _, _, _ => none
 | n1 + 1, v1, v2, v3 => (bif (decide (v3 < v2)) then (if (0 : Int) ≤ v3 ∧ v3 < (a0.length : Int) then ((m_impl_copyNode K (gt a0 v3)).bind fun r4 => (if (v1 ++ [r4]).length * 152 ≤ 140737488355328 ∧ (v1 ++ [r4]).length ≤ maxLen then (l_impl_copyTable_1 K a0 n1 (v1 ++ [r4]) v2 (iAdd .i64 v3 1)) else none)) else none) else some v1)
def m_impl_copyTable (K : Nat) (a0 : List T_impl_Node) : Option ((List T_impl_Node)) := (l_impl_copyTable_1 K a0 K ([] : List T_impl_Node) (a0.length : Int) 0)
def s_143 : Sig := ⟨[.v 29], [.n 29 true], true⟩
def c_143 (K : Nat) : Ctr tyU := ⟨s_143, m_impl_copyTable K⟩
def x_143 (K : Nat) := xF s_143 [(238, c_142 K)] [] 20 [] [] [(16, [.put 3016])] [] [.tmp 2]
def h_143_58 : Shape := ⟨[(3, .o 1003 44 true), (7, .v 29), (8, .v 2), (9, .v 2)], []⟩
def M_143_58 (K : Nat) (n : Nat) (q : PT h_143_58) : Rt s_143 := l_impl_copyTable_1 K q.2.1 n q.1 q.2.2.1 q.2.2.2.1
theorem e_143_58 (K : Nat) : AtL (x_143 K) (fun n => []) [] (bd Tryz.f159) 58 (M_143_58 K) := fun n q => by kernel_rfl
theorem xk_143 (K : Nat) : XF [.tmp 2] s_143 20 [] (x_143 K) := xkF (gam_cons (sp_142 K) gam_nil) ov_nil
theorem k_143_58 (K : Nat) (n : Nat) : CF [.tmp 2] s_143 20 [] (bd Tryz.f159) [] 58 (ar h_143_58 (M_143_58 K n)) :=
 loopF (xk_143 K) (e_143_58 K) (fun n => cuts_nil) n
theorem sp_143 (K : Nat) : OkF 159 (c_143 K) :=
 ctrF (x := x_143 K) (L := [(58, ar h_143_58 (M_143_58 K K))]) (c0 := bd Tryz.f159) (xk_143 K) (by intro a0; show @Eq _ _ _; kernel_rfl) (cuts_cons (k_143_58 K K) cuts_nil) Tryz.func159 trivial
def m_impl_copyWaste (K : Nat) (a0 : T_impl_Waste) : Option (T_impl_Waste) := ((m_slices_Clone_int K a0.fTags).bind fun r1 => ((m_slices_Clone_int K a0.fChunks).bind fun r2 => some (T_impl_Waste.mk a0.fSlot a0.fFirst r1 r2 a0.fDone)))
def s_144 : Sig := ⟨[.v 159], [.n 159 true], true⟩
def c_144 (K : Nat) : Ctr tyU := ⟨s_144, m_impl_copyWaste K⟩
def x_144 (K : Nat) := xF s_144 [(160, c_95 K)] [] 12 [] [] [] [] [.cell 2 159]
theorem sp_144 (K : Nat) : OkF 161 (c_144 K) :=
 ctrF (x := x_144 K) (L := []) (c0 := bd Tryz.f161) (xkF (gam_cons (sp_95 K) gam_nil) ov_nil) (by intro a0; show @Eq _ _ _; kernel_rfl) cuts_nil Tryz.func161 trivial
def l_impl_copyWorld_1 (K : Nat) : Nat -> (List T_impl_Waste) -> Int -> Int -> T_impl_World -> T_impl_World -> Option (T_impl_World)
 | 0, _, _, _, _, _ => none
 | n1 + 1, v4, v5, v6, v7, v8 => (bif (decide (v6 < v5)) then (if (0 : Int) ≤ v6 ∧ v6 < (v4.length : Int) then ((m_impl_copyWaste K (gt v4 v6)).bind fun r9 => (if (v7.fQ.length + 1) * 72 ≤ 140737488355328 ∧ v7.fQ.length + 1 ≤ maxLen then (l_impl_copyWorld_1 K n1 v4 v5 (iAdd .i64 v6 1) (T_impl_World.mk v7.fC v7.fP v7.fL ((v7.fQ ++ [(default : T_impl_Waste)]).set (v7.fQ.length : Int).toNat r9) v7.fLog) v8) else none)) else none) else some v7)
def m_impl_copyWorld (K : Nat) (a0 : T_impl_World) : Option (T_impl_World) := ((m_impl_copyPool K a0.fP).bind fun r1 => ((m_impl_copyTable K a0.fL).bind fun r2 => ((m_slices_Clone_int K a0.fLog).bind fun r3 => (l_impl_copyWorld_1 K K a0.fQ (a0.fQ.length : Int) 0 (T_impl_World.mk a0.fC r1 r2 [] r3) (T_impl_World.mk (T_impl_Conf.mk 0 0 0 0 0 0) (T_impl_Pool.mk [] [] []) [] [] [])))))
def s_145 : Sig := ⟨[.v 32], [.n 32 true], true⟩
def c_145 (K : Nat) : Ctr tyU := ⟨s_145, m_impl_copyWorld K⟩
def x_145 (K : Nat) := xF s_145 [(158, c_140 K), (159, c_143 K), (160, c_95 K), (161, c_144 K)] [] 34 [] [(5, [.take 103 10 6658]), (7, [.take 103 6 6654, .take 103 7 6655, .take 103 8 6656, .take 103 9 6657, .take 103 10 6658, .take 103 11 6659])] [] [] [.cell 2 32]
def h_145_58 : Shape := ⟨[(2, .p 102), (3, .p 103), (19, .v 30), (20, .v 2), (21, .v 2)], [(103, .st 32 true), (102, .st 32 true)]⟩
def M_145_58 (K : Nat) (n : Nat) (q : PT h_145_58) : Rt s_145 := l_impl_copyWorld_1 K n q.1 q.2.1 q.2.2.1 q.2.2.2.1 q.2.2.2.2.1
theorem e_145_58 (K : Nat) : AtL (x_145 K) (fun n => []) [] (bd Tryz.f90) 58 (M_145_58 K) := fun n q => by kernel_rfl
theorem xk_145 (K : Nat) : XF [.cell 2 32] s_145 34 [] (x_145 K) := xkF (gam_cons (sp_140 K) (gam_cons (sp_143 K) (gam_cons (sp_95 K) (gam_cons (sp_144 K) gam_nil)))) ov_nil
theorem k_145_58 (K : Nat) (n : Nat) : CF [.cell 2 32] s_145 34 [] (bd Tryz.f90) [] 58 (ar h_145_58 (M_145_58 K n)) :=
 loopF (xk_145 K) (e_145_58 K) (fun n => cuts_nil) n
theorem sp_145 (K : Nat) : OkF 90 (c_145 K) :=
 ctrF (x := x_145 K) (L := [(58, ar h_145_58 (M_145_58 K K))]) (c0 := bd Tryz.f90) (xk_145 K) (by intro a0; show @Eq _ _ _; kernel_rfl) (cuts_cons (k_145_58 K K) cuts_nil) Tryz.func90 trivial
def m_impl_refused (K : Nat) (a0 : T_impl_World) (a1 : Int) : Option (T_impl_World × T_impl_Ans) := ((m_impl_copyWorld K a0).bind fun r1 => some (r1, (T_impl_Ans.mk a1 (T_impl_Handle.mk 0 0) (T_impl_Ref.mk (T_impl_Handle.mk 0 0) 0 0) [] 0 0 0)))
def s_146 : Sig := ⟨[.v 32, .v 3], [.n 32 true, .n 69 true], true⟩
def c_146 (K : Nat) : Ctr tyU := ⟨s_146, m_impl_refused K⟩
def x_146 (K : Nat) := xF s_146 [(90, c_145 K)] [] 10 [] [] [] [] [.cell 4 32, .cell 5 69]
theorem sp_146 (K : Nat) : OkF 89 (c_146 K) :=
 ctrF (x := x_146 K) (L := []) (c0 := bd Tryz.f89) (xkF (gam_cons (sp_145 K) gam_nil) ov_nil) (by intro a0 a1; show @Eq _ _ _; kernel_rfl) cuts_nil Tryz.func89 trivial
def m_impl_DeepOf (K : Nat) (a0 : List T_impl_Node) (a1 : Int) : Option (Int) := ((m_impl_Rise K a0 a1).bind fun r1 => some (r1.length : Int))
def s_147 : Sig := ⟨[.v 29, .v 3], [.v 3], true⟩
def c_147 (K : Nat) : Ctr tyU := ⟨s_147, m_impl_DeepOf K⟩
def x_147 (K : Nat) := xF s_147 [(232, c_81 K)] [] 9 [] [] [] [] [.tmp 4]
theorem sp_147 (K : Nat) : OkF 162 (c_147 K) :=
 ctrF (x := x_147 K) (L := []) (c0 := bd Tryz.f162) (xkF (gam_cons (sp_81 K) gam_nil) ov_nil) (by intro a0 a1; show @Eq _ _ _; kernel_rfl) cuts_nil Tryz.func162 trivial
def m_impl_WalkOf (K : Nat) (a0 : T_impl_World) (a1 : T_impl_Handle) : Option (Int) := ((m_impl_PlaceOf K a0.fL a1).bind fun r1 => ((m_impl_DeepOf K a0.fL r1).bind fun r2 => some r2))
def s_148 : Sig := ⟨[.v 32, .v 34], [.v 3], true⟩
def c_148 (K : Nat) : Ctr tyU := ⟨s_148, m_impl_WalkOf K⟩
def x_148 (K : Nat) := xF s_148 [(162, c_147 K), (163, c_80 K)] [] 12 [] [] [] [] [.tmp 4]
theorem sp_148 (K : Nat) : OkF 91 (c_148 K) :=
 ctrF (x := x_148 K) (L := []) (c0 := bd Tryz.f91) (xkF (gam_cons (sp_147 K) (gam_cons (sp_80 K) gam_nil)) ov_nil) (by intro a0 a1; show @Eq _ _ _; kernel_rfl) cuts_nil Tryz.func91 trivial
def m_impl_has (K : Nat) (a0 : Int) (a1 : Int) (a2 : Int) : Option (Bool) := (bif (decide (a2 ≥ 0)) then (bif (decide (a2 ≤ a0)) then ((m_impl_within K a1 0 (iSub .i64 a0 a2)).bind fun r1 => some r1) else some false) else some false)
def s_149 : Sig := ⟨[.v 3, .v 3, .v 3], [.v 4], true⟩
def c_149 (K : Nat) : Ctr tyU := ⟨s_149, m_impl_has K⟩
def x_149 (K : Nat) := xF s_149 [(88, c_78 K)] [] 21 [8, 9, 12, 13, 14] [] [] [] [.tmp 6]
theorem sp_149 (K : Nat) : OkF 246 (c_149 K) :=
 ctrF (x := x_149 K) (L := []) (c0 := bd Tryz.f246) (xkF (gam_cons (sp_78 K) gam_nil) ov_nil) (by intro a0 a1 a2; show @Eq _ _ _; kernel_rfl) cuts_nil Tryz.func246 trivial
def m_impl_startOf (K : Nat) (a0 : List Int) (a1 : T_impl_Thing) (a2 : Int) (a3 : Int) : Option (Int × Bool) := (bif (decide (a2 < 0)) then some (0, false) else (bif (decide (a3 < 0)) then some (0, false) else (bif (decide (a3 > a1.fLen)) then some (0, false) else (bif (decide (a2 > (iSub .i64 a1.fLen a3))) then some (0, false) else (bif (decide ((iAdd .i64 a1.fAt a2) < 0)) then some (0, false) else ((m_impl_has K (a0.length : Int) (iAdd .i64 a1.fAt a2) a3).bind fun r1 => some ((iAdd .i64 a1.fAt a2), r1)))))))
def s_150 : Sig := ⟨[.v 22, .v 89, .v 3, .v 3], [.v 3, .v 4], true⟩
def c_150 (K : Nat) : Ctr tyU := ⟨s_150, m_impl_startOf K⟩
def x_150 (K : Nat) := xF s_150 [(246, c_149 K)] [] 43 [12, 13, 15, 16, 17, 21, 22, 23] [] [] [] [.tmp 8, .tmp 9]
theorem sp_150 (K : Nat) : OkF 185 (c_150 K) :=
 ctrF (x := x_150 K) (L := []) (c0 := bd Tryz.f185) (xkF (gam_cons (sp_149 K) gam_nil) ov_nil) (by intro a0 a1 a2 a3; show @Eq _ _ _; kernel_rfl) cuts_nil Tryz.func185 trivial
def m_impl_GetAt (K : Nat) (a0 : List Int) (a1 : Int) (a2 : Int) : Option ((List Int) × Bool) := ((m_impl_has K (a0.length : Int) a1 a2).bind fun r1 => (bif (!r1) then some ([], false) else (if (0 : Int) ≤ a1 ∧ a1 ≤ (iAdd .i64 a1 a2) ∧ (iAdd .i64 a1 a2) ≤ (a0.length : Int) then ((m_slices_Clone_byte K ((a0.drop a1.toNat).take ((iAdd .i64 a1 a2) - a1).toNat)).bind fun r2 => some (r2, true)) else none)))
def s_151 : Sig := ⟨[.v 22, .v 3, .v 3], [.n 22 true, .v 4], true⟩
def c_151 (K : Nat) : Ctr tyU := ⟨s_151, m_impl_GetAt K⟩
def x_151 (K : Nat) := xF s_151 [(188, c_139 K), (246, c_149 K)] [] 21 [] [] [] [] [.tmp 6, .tmp 7]
theorem sp_151 (K : Nat) : OkF 186 (c_151 K) :=
 ctrF (x := x_151 K) (L := []) (c0 := bd Tryz.f186) (xkF (gam_cons (sp_139 K) (gam_cons (sp_149 K) gam_nil)) ov_nil) (by intro a0 a1 a2; show @Eq _ _ _; kernel_rfl) cuts_nil Tryz.func186 trivial
def m_impl_ReadThing (K : Nat) (a0 : List Int) (a1 : T_impl_Thing) (a2 : Int) (a3 : Int) : Option ((List Int) × Bool) := ((m_impl_startOf K a0 a1 a2 a3).bind fun r1 => (bif (!r1.2) then some ([], false) else ((m_impl_GetAt K a0 r1.1 a3).bind fun r2 => some (r2.1, r2.2))))
def s_152 : Sig := ⟨[.v 22, .v 89, .v 3, .v 3], [.n 22 true, .v 4], true⟩
def c_152 (K : Nat) : Ctr tyU := ⟨s_152, m_impl_ReadThing K⟩
def x_152 (K : Nat) := xF s_152 [(185, c_150 K), (186, c_151 K)] [] 28 [] [] [] [] [.tmp 8, .tmp 9]
theorem sp_152 (K : Nat) : OkF 109 (c_152 K) :=
 ctrF (x := x_152 K) (L := []) (c0 := bd Tryz.f109) (xkF (gam_cons (sp_150 K) (gam_cons (sp_151 K) gam_nil)) ov_nil) (by intro a0 a1 a2 a3; show @Eq _ _ _; kernel_rfl) cuts_nil Tryz.func109 trivial
def j_impl_Read_1 (K : Nat) (v6 : T_impl_Ans) (v7 : T_impl_Ans) (v8 : T_impl_World) (v9 : Int) (v10 : Int) (v11 : Int) (v12 : Int) (v13 : Int) (v14 : Int) (v15 : List Int) (v16 : List Int) (v17 : List Int) (v18 : List T_impl_Node) (v19 : List T_impl_Waste) (v20 : List Int) : Option (T_impl_World × T_impl_Ans) := ((m_impl_copyWorld K (T_impl_World.mk (T_impl_Conf.mk v9 v10 v11 v12 v13 v14) (T_impl_Pool.mk v15 v16 v17) v18 v19 v20)).bind fun r21 => some (r21, v6))
def m_impl_Read (K : Nat) (a0 : T_impl_World) (a1 : T_impl_Ref) (a2 : Int) (a3 : Int) : Option (T_impl_World × T_impl_Ans) := ((m_impl_WorldOk K a0).bind fun r1 => (bif (!r1) then ((m_impl_refused K a0 1).bind fun r2 => some (r2.1, r2.2)) else ((m_impl_WalkOf K a0 a1.fH).bind fun r3 => ((m_impl_FindThing K a0 a1).bind fun r4 => (bif (r4.2.2 == 0) then ((m_impl_ReadThing K a0.fP.fMem r4.2.1 a2 a3).bind fun r5 => (bif (!r5.2) then (j_impl_Read_1 K (T_impl_Ans.mk 7 (T_impl_Handle.mk 0 0) (T_impl_Ref.mk (T_impl_Handle.mk 0 0) 0 0) r5.1 r3 0 0) (T_impl_Ans.mk 0 (T_impl_Handle.mk 0 0) (T_impl_Ref.mk (T_impl_Handle.mk 0 0) 0 0) [] 0 0 0) (T_impl_World.mk (T_impl_Conf.mk 0 0 0 0 0 0) (T_impl_Pool.mk [] [] []) [] [] []) a0.fC.fChunks a0.fC.fSize a0.fC.fSlots a0.fC.fTax a0.fC.fSlice a0.fC.fGens a0.fP.fMem a0.fP.fSt a0.fP.fOwn a0.fL a0.fQ a0.fLog) else (j_impl_Read_1 K (T_impl_Ans.mk r4.2.2 (T_impl_Handle.mk 0 0) (T_impl_Ref.mk (T_impl_Handle.mk 0 0) 0 0) r5.1 r3 0 0) (T_impl_Ans.mk 0 (T_impl_Handle.mk 0 0) (T_impl_Ref.mk (T_impl_Handle.mk 0 0) 0 0) [] 0 0 0) (T_impl_World.mk (T_impl_Conf.mk 0 0 0 0 0 0) (T_impl_Pool.mk [] [] []) [] [] []) a0.fC.fChunks a0.fC.fSize a0.fC.fSlots a0.fC.fTax a0.fC.fSlice a0.fC.fGens a0.fP.fMem a0.fP.fSt a0.fP.fOwn a0.fL a0.fQ a0.fLog))) else (j_impl_Read_1 K (T_impl_Ans.mk r4.2.2 (T_impl_Handle.mk 0 0) (T_impl_Ref.mk (T_impl_Handle.mk 0 0) 0 0) [] r3 0 0) (T_impl_Ans.mk 0 (T_impl_Handle.mk 0 0) (T_impl_Ref.mk (T_impl_Handle.mk 0 0) 0 0) [] 0 0 0) (T_impl_World.mk (T_impl_Conf.mk 0 0 0 0 0 0) (T_impl_Pool.mk [] [] []) [] [] []) a0.fC.fChunks a0.fC.fSize a0.fC.fSlots a0.fC.fTax a0.fC.fSlice a0.fC.fGens a0.fP.fMem a0.fP.fSt a0.fP.fOwn a0.fL a0.fQ a0.fLog))))))
def s_153 : Sig := ⟨[.v 32, .v 36, .v 3, .v 3], [.n 32 true, .n 69 true], true⟩
def c_153 (K : Nat) : Ctr tyU := ⟨s_153, m_impl_Read K⟩
def x_153 (K : Nat) := xF s_153 [(87, c_138 K), (89, c_146 K), (90, c_145 K), (91, c_148 K), (108, c_85 K), (109, c_152 K)] [] 57 [] [(11, [.take 110 7 6767])] [] [63] [.cell 8 32, .cell 9 69]
def h_153_63 : Shape := ⟨[(4, .p 104), (8, .p 108), (9, .p 109), (10, .p 110)], [(110, .st 69 true), (109, .st 69 true), (108, .st 32 true), (104, .box [.v 2, .v 2, .v 2, .v 2, .v 2, .v 2, .v 22, .v 26, .v 26, .v 29, .v 30, .v 26])]⟩
def M_153_63 (K : Nat) (q : PT h_153_63) : Rt s_153 := j_impl_Read_1 K q.1 q.2.1 q.2.2.1 q.2.2.2.1 q.2.2.2.2.1 q.2.2.2.2.2.1 q.2.2.2.2.2.2.1 q.2.2.2.2.2.2.2.1 q.2.2.2.2.2.2.2.2.1 q.2.2.2.2.2.2.2.2.2.1 q.2.2.2.2.2.2.2.2.2.2.1 q.2.2.2.2.2.2.2.2.2.2.2.1 q.2.2.2.2.2.2.2.2.2.2.2.2.1 q.2.2.2.2.2.2.2.2.2.2.2.2.2.1 q.2.2.2.2.2.2.2.2.2.2.2.2.2.2.1
theorem e_153_63 (K : Nat) : AtJ (x_153 K) [] [] (bd Tryz.f44) 63 (M_153_63 K) := fun q => by kernel_rfl
theorem xk_153 (K : Nat) : XF [.cell 8 32, .cell 9 69] s_153 57 [63] (x_153 K) := xkF (gam_cons (sp_138 K) (gam_cons (sp_146 K) (gam_cons (sp_145 K) (gam_cons (sp_148 K) (gam_cons (sp_85 K) (gam_cons (sp_152 K) gam_nil)))))) ov_nil
theorem k_153_63 (K : Nat) : CF [.cell 8 32, .cell 9 69] s_153 57 [63] (bd Tryz.f44) [] 63 (ar h_153_63 (M_153_63 K)) :=
 joinF (xk_153 K) (e_153_63 K) cuts_nil
theorem sp_153 (K : Nat) : OkF 44 (c_153 K) :=
 ctrF (x := x_153 K) (L := [(63, ar h_153_63 (M_153_63 K))]) (c0 := bd Tryz.f44) (xk_153 K) (by intro a0 a1 a2 a3; show @Eq _ _ _; kernel_rfl) (cuts_cons (k_153_63 K) cuts_nil) Tryz.func44 trivial
def m_impl_ReadAll (K : Nat) (a0 : T_impl_World) (a1 : T_impl_Ref) : Option ((List Int)) := ((m_impl_SizeOf K a0 a1).bind fun r1 => ((m_impl_Read K a0 a1 0 r1).bind fun r2 => some r2.2.fB))
def s_154 : Sig := ⟨[.v 32, .v 36], [.n 22 true], true⟩
def c_154 (K : Nat) : Ctr tyU := ⟨s_154, m_impl_ReadAll K⟩
def x_154 (K : Nat) := xF s_154 [(44, c_153 K), (77, c_86 K)] [] 18 [] [] [] [] [.tmp 4]
theorem sp_154 (K : Nat) : OkF 26 (c_154 K) :=
 ctrF (x := x_154 K) (L := []) (c0 := bd Tryz.f26) (xkF (gam_cons (sp_153 K) (gam_cons (sp_86 K) gam_nil)) ov_nil) (by intro a0 a1; show @Eq _ _ _; kernel_rfl) cuts_nil Tryz.func26 trivial
def l_laws_eqByteS_1 (K : Nat) (a0 : List Int) (a1 : List Int) : Nat -> Int -> Option (Bool)
 | 0, _ => none
 | n1 + 1, v1 => (bif (decide (v1 < (a0.length : Int))) then (if (0 : Int) ≤ v1 ∧ v1 < (a0.length : Int) then (if (0 : Int) ≤ v1 ∧ v1 < (a1.length : Int) then (bif ((gt a0 v1) != (gt a1 v1)) then some false else (l_laws_eqByteS_1 K a0 a1 n1 (iAdd .i64 v1 1))) else none) else none) else some true)
def m_laws_eqByteS (K : Nat) (a0 : List Int) (a1 : List Int) : Option (Bool) := (bif ((a0.length : Int) != (a1.length : Int)) then some false else (l_laws_eqByteS_1 K a0 a1 K 0))
def s_155 : Sig := ⟨[.v 22, .v 22], [.v 4], true⟩
def c_155 (K : Nat) : Ctr tyU := ⟨s_155, m_laws_eqByteS K⟩
def x_155 (K : Nat) := xF s_155 [] [] 26 [] [] [] [] [.tmp 4]
def h_155_58 : Shape := ⟨[(0, .v 22), (1, .v 22), (5, .v 2)], []⟩
def M_155_58 (K : Nat) (n : Nat) (q : PT h_155_58) : Rt s_155 := l_laws_eqByteS_1 K q.1 q.2.1 n q.2.2.1
theorem e_155_58 (K : Nat) : AtL (x_155 K) (fun n => []) [] (bd Tryz.f27) 58 (M_155_58 K) := fun n q => by kernel_rfl
theorem xk_155 (K : Nat) : XF [.tmp 4] s_155 26 [] (x_155 K) := xkF gam_nil ov_nil
theorem k_155_58 (K : Nat) (n : Nat) : CF [.tmp 4] s_155 26 [] (bd Tryz.f27) [] 58 (ar h_155_58 (M_155_58 K n)) :=
 loopF (xk_155 K) (e_155_58 K) (fun n => cuts_nil) n
theorem sp_155 (K : Nat) : OkF 27 (c_155 K) :=
 ctrF (x := x_155 K) (L := [(58, ar h_155_58 (M_155_58 K K))]) (c0 := bd Tryz.f27) (xk_155 K) (by intro a0 a1; show @Eq _ _ _; kernel_rfl) (cuts_cons (k_155_58 K K) cuts_nil) Tryz.func27 trivial
def m_laws_eqConf (K : Nat) (a0 : T_impl_Conf) (a1 : T_impl_Conf) : Option (Bool) := (bif (a0.fChunks != a1.fChunks) then some false else (bif (a0.fSize != a1.fSize) then some false else (bif (a0.fSlots != a1.fSlots) then some false else (bif (a0.fTax != a1.fTax) then some false else (bif (a0.fSlice != a1.fSlice) then some false else (bif (a0.fGens != a1.fGens) then some false else some true))))))
def s_156 : Sig := ⟨[.v 25, .v 25], [.v 4], true⟩
def c_156 (K : Nat) : Ctr tyU := ⟨s_156, m_laws_eqConf K⟩
def x_156 (K : Nat) := xF s_156 [] [] 35 [] [] [] [] [.tmp 4]
theorem sp_156 (K : Nat) : OkF 71 (c_156 K) :=
 ctrF (x := x_156 K) (L := []) (c0 := bd Tryz.f71) (xkF gam_nil ov_nil) (by intro a0 a1; show @Eq _ _ _; kernel_rfl) cuts_nil Tryz.func71 trivial
def l_laws_eqIntS_1 (K : Nat) (a0 : List Int) (a1 : List Int) : Nat -> Int -> Option (Bool)
 | 0, _ => none
 | n1 + 1, v1 => (bif (decide (v1 < (a0.length : Int))) then (if (0 : Int) ≤ v1 ∧ v1 < (a0.length : Int) then (if (0 : Int) ≤ v1 ∧ v1 < (a1.length : Int) then (bif ((gt a0 v1) != (gt a1 v1)) then some false else (l_laws_eqIntS_1 K a0 a1 n1 (iAdd .i64 v1 1))) else none) else none) else some true)
def m_laws_eqIntS (K : Nat) (a0 : List Int) (a1 : List Int) : Option (Bool) := (bif ((a0.length : Int) != (a1.length : Int)) then some false else (l_laws_eqIntS_1 K a0 a1 K 0))
def s_157 : Sig := ⟨[.v 26, .v 26], [.v 4], true⟩
def c_157 (K : Nat) : Ctr tyU := ⟨s_157, m_laws_eqIntS K⟩
def x_157 (K : Nat) := xF s_157 [] [] 26 [] [] [] [] [.tmp 4]
def h_157_58 : Shape := ⟨[(0, .v 26), (1, .v 26), (5, .v 2)], []⟩
def M_157_58 (K : Nat) (n : Nat) (q : PT h_157_58) : Rt s_157 := l_laws_eqIntS_1 K q.1 q.2.1 n q.2.2.1
theorem e_157_58 (K : Nat) : AtL (x_157 K) (fun n => []) [] (bd Tryz.f75) 58 (M_157_58 K) := fun n q => by kernel_rfl
theorem xk_157 (K : Nat) : XF [.tmp 4] s_157 26 [] (x_157 K) := xkF gam_nil ov_nil
theorem k_157_58 (K : Nat) (n : Nat) : CF [.tmp 4] s_157 26 [] (bd Tryz.f75) [] 58 (ar h_157_58 (M_157_58 K n)) :=
 loopF (xk_157 K) (e_157_58 K) (fun n => cuts_nil) n
theorem sp_157 (K : Nat) : OkF 75 (c_157 K) :=
 ctrF (x := x_157 K) (L := [(58, ar h_157_58 (M_157_58 K K))]) (c0 := bd Tryz.f75) (xk_157 K) (by intro a0 a1; show @Eq _ _ _; kernel_rfl) (cuts_cons (k_157_58 K K) cuts_nil) Tryz.func75 trivial
def m_laws_eqPool (K : Nat) (a0 : T_impl_Pool) (a1 : T_impl_Pool) : Option (Bool) := ((m_laws_eqByteS K a0.fMem a1.fMem).bind fun r1 => (bif (!r1) then some false else ((m_laws_eqIntS K a0.fSt a1.fSt).bind fun r2 => (bif (!r2) then some false else ((m_laws_eqIntS K a0.fOwn a1.fOwn).bind fun r3 => (bif (!r3) then some false else some true))))))
def s_158 : Sig := ⟨[.v 28, .v 28], [.v 4], true⟩
def c_158 (K : Nat) : Ctr tyU := ⟨s_158, m_laws_eqPool K⟩
def x_158 (K : Nat) := xF s_158 [(27, c_155 K), (75, c_157 K)] [] 23 [] [] [] [] [.tmp 4]
theorem sp_158 (K : Nat) : OkF 72 (c_158 K) :=
 ctrF (x := x_158 K) (L := []) (c0 := bd Tryz.f72) (xkF (gam_cons (sp_155 K) (gam_cons (sp_157 K) gam_nil)) ov_nil) (by intro a0 a1; show @Eq _ _ _; kernel_rfl) cuts_nil Tryz.func72 trivial
def m_laws_eqThing (K : Nat) (a0 : T_impl_Thing) (a1 : T_impl_Thing) : Option (Bool) := (bif (a0.fAt != a1.fAt) then some false else (bif (a0.fLen != a1.fLen) then some false else (bif (a0.fRun != a1.fRun) then some false else some true)))
def s_159 : Sig := ⟨[.v 89, .v 89], [.v 4], true⟩
def c_159 (K : Nat) : Ctr tyU := ⟨s_159, m_laws_eqThing K⟩
def x_159 (K : Nat) := xF s_159 [] [] 20 [] [] [] [] [.tmp 4]
theorem sp_159 (K : Nat) : OkF 263 (c_159 K) :=
 ctrF (x := x_159 K) (L := []) (c0 := bd Tryz.f263) (xkF gam_nil ov_nil) (by intro a0 a1; show @Eq _ _ _; kernel_rfl) cuts_nil Tryz.func263 trivial
def l_laws_eqThingS_1 (K : Nat) (a0 : List T_impl_Thing) (a1 : List T_impl_Thing) : Nat -> Int -> Option (Bool)
 | 0, _ => none
 | n1 + 1, v1 => (bif (decide (v1 < (a0.length : Int))) then (if (0 : Int) ≤ v1 ∧ v1 < (a0.length : Int) then (if (0 : Int) ≤ v1 ∧ v1 < (a1.length : Int) then ((m_laws_eqThing K (gt a0 v1) (gt a1 v1)).bind fun r2 => (bif (!r2) then some false else (l_laws_eqThingS_1 K a0 a1 n1 (iAdd .i64 v1 1)))) else none) else none) else some true)
def m_laws_eqThingS (K : Nat) (a0 : List T_impl_Thing) (a1 : List T_impl_Thing) : Option (Bool) := (bif ((a0.length : Int) != (a1.length : Int)) then some false else (l_laws_eqThingS_1 K a0 a1 K 0))
def s_160 : Sig := ⟨[.v 41, .v 41], [.v 4], true⟩
def c_160 (K : Nat) : Ctr tyU := ⟨s_160, m_laws_eqThingS K⟩
def x_160 (K : Nat) := xF s_160 [(263, c_159 K)] [] 27 [] [] [] [] [.tmp 4]
def h_160_58 : Shape := ⟨[(0, .v 41), (1, .v 41), (5, .v 2)], []⟩
def M_160_58 (K : Nat) (n : Nat) (q : PT h_160_58) : Rt s_160 := l_laws_eqThingS_1 K q.1 q.2.1 n q.2.2.1
theorem e_160_58 (K : Nat) : AtL (x_160 K) (fun n => []) [] (bd Tryz.f208) 58 (M_160_58 K) := fun n q => by kernel_rfl
theorem xk_160 (K : Nat) : XF [.tmp 4] s_160 27 [] (x_160 K) := xkF (gam_cons (sp_159 K) gam_nil) ov_nil
theorem k_160_58 (K : Nat) (n : Nat) : CF [.tmp 4] s_160 27 [] (bd Tryz.f208) [] 58 (ar h_160_58 (M_160_58 K n)) :=
 loopF (xk_160 K) (e_160_58 K) (fun n => cuts_nil) n
theorem sp_160 (K : Nat) : OkF 208 (c_160 K) :=
 ctrF (x := x_160 K) (L := [(58, ar h_160_58 (M_160_58 K K))]) (c0 := bd Tryz.f208) (xk_160 K) (by intro a0 a1; show @Eq _ _ _; kernel_rfl) (cuts_cons (k_160_58 K K) cuts_nil) Tryz.func208 trivial
def m_laws_eqNode (K : Nat) (a0 : T_impl_Node) (a1 : T_impl_Node) : Option (Bool) := (bif (a0.fSt != a1.fSt) then some false else (bif (a0.fGen != a1.fGen) then some false else (bif (a0.fEp != a1.fEp) then some false else (bif (a0.fUp != a1.fUp) then some false else (bif (a0.fUpEp != a1.fUpEp) then some false else (bif (a0.fFirst != a1.fFirst) then some false else (bif (a0.fNext != a1.fNext) then some false else (bif (a0.fPrev != a1.fPrev) then some false else ((m_laws_eqIntS K a0.fChunks a1.fChunks).bind fun r1 => (bif (!r1) then some false else (bif (a0.fCur != a1.fCur) then some false else (bif (a0.fBump != a1.fBump) then some false else ((m_laws_eqThingS K a0.fThings a1.fThings).bind fun r2 => (bif (!r2) then some false else ((m_laws_eqIntS K a0.fTags a1.fTags).bind fun r3 => (bif (!r3) then some false else some true))))))))))))))))
def s_161 : Sig := ⟨[.v 44, .v 44], [.v 4], true⟩
def c_161 (K : Nat) : Ctr tyU := ⟨s_161, m_laws_eqNode K⟩
def x_161 (K : Nat) := xF s_161 [(75, c_157 K), (208, c_160 K)] [] 73 [] [] [] [] [.tmp 4]
end
end Go.Proofs.YtjdblamhaljjbaaGreat
