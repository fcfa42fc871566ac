/- What the functions compute that FnExactStats reaches, and that they do; no condition. Printed by gen3.py. -/
import Derived.Test.YtjdblamhaljjbaaGreatFSrt
set_option linter.all false
set_option maxRecDepth 20000
namespace Go.Proofs.YtjdblamhaljjbaaGreat
open Go.Eng
noncomputable section
abbrev bd (f : Func) : Code := f.body.getD .skip
abbrev PT (h : Shape) : Type := PTup tyU h.codes
abbrev Rt (s : Sig) : Type := Option (Tup tyU s.codes)
abbrev CT (h : Shape) (s : Sig) : Type := PTup tyU h.codes -> Option (Tup tyU s.codes)
abbrev ar {s : Sig} (h : Shape) (M : CT h s) : SS tyD -> Rt s := arr tyU tab h M
def xF (s : Sig) (G : List (Nat × Ctr tyU)) (O : List (Nat × List (Nat × Ctr tyU))) (N : Nat) (spl : List Nat) (pre post : List (Nat × List Cmd)) (js : List Nat) (rl : List ResultVar) (L B : Λt tyU s) : Ox tyU (Tup tyU s.codes) := ⟨G, O, eqT eqs, N, spl, pre, post, js, L, B, finS tyU tab s rl⟩
abbrev XF (rl : List ResultVar) (s : Sig) (N : Nat) (js : List Nat) (x : Λt tyU s -> Λt tyU s -> Ox tyU (Tup tyU s.codes)) : Prop := XOk tyU tab Tryz.prog rl s N js x
theorem mixF : Tryz.prog.follows .mixedOrders = true := by kernel_rfl
theorem xkF {rl : List ResultVar} {s : Sig} {N : Nat} {js : List Nat} {G : List (Nat × Ctr tyU)} {O : List (Nat × List (Nat × Ctr tyU))} {spl : List Nat} {pre post : List (Nat × List Cmd)} (hΓ : ∀ f c, lk G f = some c -> Ctr.Ok tyU Tryz.prog f c ∧ FnOk Tryz.prog f) (hov : ∀ d l, lk O d = some l -> ∀ f c, lk l f = some c -> Ctr.Ok tyU Tryz.prog f c ∧ FnOk Tryz.prog f) : XF rl s N js (xF s G O N spl pre post js rl) := xok tyOk mixF hΓ hov eqsOk
abbrev OkF (f : FuncId) (c : Ctr tyU) : Prop := Ctr.Ok tyU Tryz.prog f c ∧ FnOk Tryz.prog f
abbrev CF (rl : List ResultVar) (s : Sig) (N : Nat) (js : List Nat) (c : Code) (B : Λt tyU s) (p : Nat) (f : SS tyD -> Rt s) : Prop := Cut tyU tab Tryz.prog rl s N js c B p f
abbrev EqF (s : Sig) (x : Ox tyU (Tup tyU s.codes)) (c : Code) (m : FnT tyU s.ps (Rt s)) : Prop := EqGo tyU tab x c s.ps 0 [] [] m
abbrev AtL {s : Sig} {h : Shape} (x : Λt tyU s -> Λt tyU s -> Ox tyU (Tup tyU s.codes)) (L : Nat -> Λt tyU s) (B : Λt tyU s) (c : Code) (p : Nat) (M : Nat -> CT h s) : Prop := ∀ n q, M (n + 1) q = goAt tyU tab (x (L n) ((p, ar h (M n)) :: B)) c (2 * p) (h.emb tyU q)
abbrev AtJ {s : Sig} {h : Shape} (x : Λt tyU s -> Λt tyU s -> Ox tyU (Tup tyU s.codes)) (L B : Λt tyU s) (c : Code) (p : Nat) (M : CT h s) : Prop := ∀ q, M q = goAt tyU tab (x L B) c (2 * p + 1) (h.emb tyU q)
theorem loopF {rl : List ResultVar} {s : Sig} {N : Nat} {js : List Nat} {x : Λt tyU s -> Λt tyU s -> Ox tyU (Tup tyU s.codes)} {c : Code} {L : Nat -> Λt tyU s} {B : Λt tyU s} {p : Nat} {h : Shape} {M : Nat -> CT h s} (hx : XF rl s N js x) (e : AtL x L B c p M) (hc : ∀ n, Cuts tyU tab Tryz.prog rl s N js c ((p, ar h (M n)) :: B) (L n)) (n : Nat) (hp : Nat.ble 1 p = true := by rfl) (hk : isLoopAt js c p = true := by kernel_rfl) (e0 : ∀ q, M 0 q = none := by intro q; rfl) : CF rl s N js c B p (ar h (M n)) := cut_loop hx hp hk e0 e hc n
theorem joinF {rl : List ResultVar} {s : Sig} {N : Nat} {js : List Nat} {x : Λt tyU s -> Λt tyU s -> Ox tyU (Tup tyU s.codes)} {c : Code} {L B : Λt tyU s} {p : Nat} {h : Shape} {M : CT h s} (hx : XF rl s N js x) (e : AtJ x L B c p M) (hc : Cuts tyU tab Tryz.prog rl s N js c B L) (hp : Nat.ble 1 p = true := by rfl) : CF rl s N js c B p (ar h M) := cut_join hx hp e hc
theorem ctrF {rl : List ResultVar} {s : Sig} {N : Nat} {js : List Nat} {x : Λt tyU s -> Λt tyU s -> Ox tyU (Tup tyU s.codes)} {c0 : Code} (hx : XF rl s N js x) {L : Λt tyU s} {f : FuncId} {fn : Func} {m : FnT tyU s.ps (Rt s)} (e : EqF s (x L []) c0 m) (hc : Cuts tyU tab Tryz.prog rl s N js c0 [] L) (hf : Tryz.prog.funcs[f]? = some fn) (hs : SigOk tyU s.ps) (h1 : (fn.name == "runtime.NumGoroutine") = false := by rfl) (h2 : fn.body = some c0 := by rfl) (h3 : fn.results = rl.toArray := by rfl) (h4 : fn.ntmps = N := by rfl) (h5 : Nat.ble s.ps.length N = true := by rfl) (h6 : Nat.ble (nBlk s.ps + 1) 100 = true := by rfl) (h7 : Nat.ble rl.length 4 = true := by rfl) : OkF f ⟨s, m⟩ := ctr_ok hx tabOk e hc hf h1 h2 h3 h4 h5 h6 h7 hs
def m_laws_szByteS (K : Nat) (a0 : List Int) (a1 : Int) : Option (Int) := (bif (decide ((iSub .i64 a1 (a0.length : Int)) < 0)) then some (-1) else some (iSub .i64 a1 (a0.length : Int)))
def s_0 : Sig := ⟨[.v 22, .v 3], [.v 3], true⟩
def c_0 (K : Nat) : Ctr tyU := ⟨s_0, m_laws_szByteS K⟩
def x_0 (K : Nat) := xF s_0 [] [] 12 [] [] [] [] [.tmp 4]
theorem sp_0 (K : Nat) : OkF 127 (c_0 K) :=
 ctrF (x := x_0 K) (L := []) (c0 := bd Tryz.f127) (xkF gam_nil ov_nil) (by intro a0 a1; show @Eq _ _ _; kernel_rfl) cuts_nil Tryz.func127 trivial
def m_laws_szIntS (K : Nat) (a0 : List Int) (a1 : Int) : Option (Int) := (bif (decide ((iSub .i64 a1 (a0.length : Int)) < 0)) then some (-1) else some (iSub .i64 a1 (a0.length : Int)))
def s_1 : Sig := ⟨[.v 26, .v 3], [.v 3], true⟩
def c_1 (K : Nat) : Ctr tyU := ⟨s_1, m_laws_szIntS K⟩
def x_1 (K : Nat) := xF s_1 [] [] 12 [] [] [] [] [.tmp 4]
theorem sp_1 (K : Nat) : OkF 63 (c_1 K) :=
 ctrF (x := x_1 K) (L := []) (c0 := bd Tryz.f63) (xkF gam_nil ov_nil) (by intro a0 a1; show @Eq _ _ _; kernel_rfl) cuts_nil Tryz.func63 trivial
def m_laws_szPool (K : Nat) (a0 : T_laws_Pool) (a1 : Int) : Option (Int) := ((m_laws_szByteS K a0.fMem a1).bind fun r1 => (bif (decide (r1 < 0)) then some (-1) else ((m_laws_szIntS K a0.fSt r1).bind fun r2 => (bif (decide (r2 < 0)) then some (-1) else ((m_laws_szIntS K a0.fOwn r2).bind fun r3 => (bif (decide (r3 < 0)) then some (-1) else some r3))))))
def s_2 : Sig := ⟨[.v 48, .v 3], [.v 3], true⟩
def c_2 (K : Nat) : Ctr tyU := ⟨s_2, m_laws_szPool K⟩
def x_2 (K : Nat) := xF s_2 [(63, c_1 K), (127, c_0 K)] [] 24 [] [] [] [] [.tmp 4]
theorem sp_2 (K : Nat) : OkF 60 (c_2 K) :=
 ctrF (x := x_2 K) (L := []) (c0 := bd Tryz.f60) (xkF (gam_cons (sp_1 K) (gam_cons (sp_0 K) gam_nil)) ov_nil) (by intro a0 a1; show @Eq _ _ _; kernel_rfl) cuts_nil Tryz.func60 trivial
def m_laws_szThingS (K : Nat) (a0 : List T_laws_Thing) (a1 : Int) : Option (Int) := (bif (decide ((iSub .i64 a1 (a0.length : Int)) < 0)) then some (-1) else some (iSub .i64 a1 (a0.length : Int)))
def s_3 : Sig := ⟨[.v 152, .v 3], [.v 3], true⟩
def c_3 (K : Nat) : Ctr tyU := ⟨s_3, m_laws_szThingS K⟩
def x_3 (K : Nat) := xF s_3 [] [] 12 [] [] [] [] [.tmp 4]
theorem sp_3 (K : Nat) : OkF 200 (c_3 K) :=
 ctrF (x := x_3 K) (L := []) (c0 := bd Tryz.f200) (xkF gam_nil ov_nil) (by intro a0 a1; show @Eq _ _ _; kernel_rfl) cuts_nil Tryz.func200 trivial
def m_laws_szNode (K : Nat) (a0 : T_laws_Node) (a1 : Int) : Option (Int) := ((m_laws_szIntS K a0.fChunks a1).bind fun r1 => (bif (decide (r1 < 0)) then some (-1) else ((m_laws_szThingS K a0.fThings r1).bind fun r2 => (bif (decide (r2 < 0)) then some (-1) else ((m_laws_szIntS K a0.fTags r2).bind fun r3 => (bif (decide (r3 < 0)) then some (-1) else some r3))))))
def s_4 : Sig := ⟨[.v 154, .v 3], [.v 3], true⟩
def c_4 (K : Nat) : Ctr tyU := ⟨s_4, m_laws_szNode K⟩
def x_4 (K : Nat) := xF s_4 [(63, c_1 K), (200, c_3 K)] [] 24 [] [] [] [] [.tmp 4]
theorem sp_4 (K : Nat) : OkF 128 (c_4 K) :=
 ctrF (x := x_4 K) (L := []) (c0 := bd Tryz.f128) (xkF (gam_cons (sp_1 K) (gam_cons (sp_3 K) gam_nil)) ov_nil) (by intro a0 a1; show @Eq _ _ _; kernel_rfl) cuts_nil Tryz.func128 trivial
def l_laws_szNodeS_1 (K : Nat) (a0 : List T_laws_Node) : Nat -> Int -> Int -> Option (Int)
 | 0, _, _ => none
 | n1 + 1, v1, v2 => (bif (decide (v2 < (a0.length : Int))) then (if (0 : Int) ≤ v2 ∧ v2 < (a0.length : Int) then ((m_laws_szNode K (gt a0 v2) v1).bind fun r3 => (bif (decide (r3 < 0)) then some (-1) else (l_laws_szNodeS_1 K a0 n1 r3 (iAdd .i64 v2 1)))) else none) else some v1)
def m_laws_szNodeS (K : Nat) (a0 : List T_laws_Node) (a1 : Int) : Option (Int) := (bif (decide ((iSub .i64 a1 (a0.length : Int)) < 0)) then some (-1) else (l_laws_szNodeS_1 K a0 K (iSub .i64 a1 (a0.length : Int)) 0))
def s_5 : Sig := ⟨[.v 49, .v 3], [.v 3], true⟩
def c_5 (K : Nat) : Ctr tyU := ⟨s_5, m_laws_szNodeS K⟩
def x_5 (K : Nat) := xF s_5 [(128, c_4 K)] [] 27 [] [] [] [] [.tmp 4]
def h_5_122 : Shape := ⟨[(0, .v 49), (1, .v 2), (5, .v 2)], []⟩
def M_5_122 (K : Nat) (n : Nat) (q : PT h_5_122) : Rt s_5 := l_laws_szNodeS_1 K q.1 n q.2.1 q.2.2.1
theorem e_5_122 (K : Nat) : AtL (x_5 K) (fun n => []) [] (bd Tryz.f61) 122 (M_5_122 K) := fun n q => by kernel_rfl
theorem xk_5 (K : Nat) : XF [.tmp 4] s_5 27 [] (x_5 K) := xkF (gam_cons (sp_4 K) gam_nil) ov_nil
theorem k_5_122 (K : Nat) (n : Nat) : CF [.tmp 4] s_5 27 [] (bd Tryz.f61) [] 122 (ar h_5_122 (M_5_122 K n)) :=
 loopF (xk_5 K) (e_5_122 K) (fun n => cuts_nil) n
theorem sp_5 (K : Nat) : OkF 61 (c_5 K) :=
 ctrF (x := x_5 K) (L := [(122, ar h_5_122 (M_5_122 K K))]) (c0 := bd Tryz.f61) (xk_5 K) (by intro a0 a1; show @Eq _ _ _; kernel_rfl) (cuts_cons (k_5_122 K K) cuts_nil) Tryz.func61 trivial
def m_laws_szWaste (K : Nat) (a0 : T_laws_Waste) (a1 : Int) : Option (Int) := ((m_laws_szIntS K a0.fTags a1).bind fun r1 => (bif (decide (r1 < 0)) then some (-1) else ((m_laws_szIntS K a0.fChunks r1).bind fun r2 => (bif (decide (r2 < 0)) then some (-1) else some r2))))
def s_6 : Sig := ⟨[.v 157, .v 3], [.v 3], true⟩
def c_6 (K : Nat) : Ctr tyU := ⟨s_6, m_laws_szWaste K⟩
def x_6 (K : Nat) := xF s_6 [(63, c_1 K)] [] 18 [] [] [] [] [.tmp 4]
theorem sp_6 (K : Nat) : OkF 129 (c_6 K) :=
 ctrF (x := x_6 K) (L := []) (c0 := bd Tryz.f129) (xkF (gam_cons (sp_1 K) gam_nil) ov_nil) (by intro a0 a1; show @Eq _ _ _; kernel_rfl) cuts_nil Tryz.func129 trivial
def l_laws_szWasteS_1 (K : Nat) (a0 : List T_laws_Waste) : Nat -> Int -> Int -> Option (Int)
 | 0, _, _ => none
 | n1 + 1, v1, v2 => (bif (decide (v2 < (a0.length : Int))) then (if (0 : Int) ≤ v2 ∧ v2 < (a0.length : Int) then ((m_laws_szWaste K (gt a0 v2) v1).bind fun r3 => (bif (decide (r3 < 0)) then some (-1) else (l_laws_szWasteS_1 K a0 n1 r3 (iAdd .i64 v2 1)))) else none) else some v1)
def m_laws_szWasteS (K : Nat) (a0 : List T_laws_Waste) (a1 : Int) : Option (Int) := (bif (decide ((iSub .i64 a1 (a0.length : Int)) < 0)) then some (-1) else (l_laws_szWasteS_1 K a0 K (iSub .i64 a1 (a0.length : Int)) 0))
def s_7 : Sig := ⟨[.v 50, .v 3], [.v 3], true⟩
def c_7 (K : Nat) : Ctr tyU := ⟨s_7, m_laws_szWasteS K⟩
def x_7 (K : Nat) := xF s_7 [(129, c_6 K)] [] 27 [] [] [] [] [.tmp 4]
def h_7_122 : Shape := ⟨[(0, .v 50), (1, .v 2), (5, .v 2)], []⟩
def M_7_122 (K : Nat) (n : Nat) (q : PT h_7_122) : Rt s_7 := l_laws_szWasteS_1 K q.1 n q.2.1 q.2.2.1
theorem e_7_122 (K : Nat) : AtL (x_7 K) (fun n => []) [] (bd Tryz.f62) 122 (M_7_122 K) := fun n q => by kernel_rfl
theorem xk_7 (K : Nat) : XF [.tmp 4] s_7 27 [] (x_7 K) := xkF (gam_cons (sp_6 K) gam_nil) ov_nil
theorem k_7_122 (K : Nat) (n : Nat) : CF [.tmp 4] s_7 27 [] (bd Tryz.f62) [] 122 (ar h_7_122 (M_7_122 K n)) :=
 loopF (xk_7 K) (e_7_122 K) (fun n => cuts_nil) n
theorem sp_7 (K : Nat) : OkF 62 (c_7 K) :=
 ctrF (x := x_7 K) (L := [(122, ar h_7_122 (M_7_122 K K))]) (c0 := bd Tryz.f62) (xk_7 K) (by intro a0 a1; show @Eq _ _ _; kernel_rfl) (cuts_cons (k_7_122 K K) cuts_nil) Tryz.func62 trivial
def m_laws_szWorld (K : Nat) (a0 : T_laws_World) (a1 : Int) : Option (Int) := ((m_laws_szPool K a0.fP a1).bind fun r1 => (bif (decide (r1 < 0)) then some (-1) else ((m_laws_szNodeS K a0.fL r1).bind fun r2 => (bif (decide (r2 < 0)) then some (-1) else ((m_laws_szWasteS K a0.fQ r2).bind fun r3 => (bif (decide (r3 < 0)) then some (-1) else ((m_laws_szIntS K a0.fLog r3).bind fun r4 => (bif (decide (r4 < 0)) then some (-1) else some r4))))))))
def s_8 : Sig := ⟨[.v 52, .v 3], [.v 3], true⟩
def c_8 (K : Nat) : Ctr tyU := ⟨s_8, m_laws_szWorld K⟩
def x_8 (K : Nat) := xF s_8 [(60, c_2 K), (61, c_5 K), (62, c_7 K), (63, c_1 K)] [] 30 [] [] [] [] [.tmp 4]
theorem sp_8 (K : Nat) : OkF 18 (c_8 K) :=
 ctrF (x := x_8 K) (L := []) (c0 := bd Tryz.f18) (xkF (gam_cons (sp_2 K) (gam_cons (sp_5 K) (gam_cons (sp_7 K) (gam_cons (sp_1 K) gam_nil)))) ov_nil) (by intro a0 a1; show @Eq _ _ _; kernel_rfl) cuts_nil Tryz.func18 trivial
def m_laws_toConf (K : Nat) (a0 : T_laws_Conf) : Option (T_impl_Conf) := some (T_impl_Conf.mk a0.fChunks a0.fSize a0.fSlots a0.fTax a0.fSlice a0.fGens)
def s_9 : Sig := ⟨[.v 47], [.v 25], true⟩
def c_9 (K : Nat) : Ctr tyU := ⟨s_9, m_laws_toConf K⟩
def x_9 (K : Nat) := xF s_9 [] [] 23 [] [] [] [] [.cell 2 25]
theorem sp_9 (K : Nat) : OkF 65 (c_9 K) :=
 ctrF (x := x_9 K) (L := []) (c0 := bd Tryz.f65) (xkF gam_nil ov_nil) (by intro a0; show @Eq _ _ _; kernel_rfl) cuts_nil Tryz.func65 trivial
def l_laws_toByteS_1 (K : Nat) (a0 : List Int) : Nat -> (List Int) -> Int -> Option ((List Int))
 | 0, _, _ => none
 | n1 + 1, v1, v2 => (bif (decide (v2 < (a0.length : Int))) then (if (0 : Int) ≤ v2 ∧ v2 < (a0.length : Int) then (if (0 : Int) ≤ v2 ∧ v2 < (v1.length : Int) then (l_laws_toByteS_1 K a0 n1 (v1.set v2.toNat (gt a0 v2)) (iAdd .i64 v2 1)) else none) else none) else some v1)
def m_laws_toByteS (K : Nat) (a0 : List Int) : Option ((List Int)) := (if (0 : Int) ≤ (a0.length : Int) ∧ (a0.length : Int) ≤ (a0.length : Int) ∧ (1 : Int) * (a0.length : Int) ≤ 281474976710656 ∧ (a0.length : Int) ≤ 9223372036854775807 then (l_laws_toByteS_1 K a0 K (List.replicate (a0.length : Int).toNat 0) 0) else none)
def s_10 : Sig := ⟨[.v 22], [.n 22 true], true⟩
def c_10 (K : Nat) : Ctr tyU := ⟨s_10, m_laws_toByteS K⟩
def x_10 (K : Nat) := xF s_10 [] [] 22 [] [] [] [] [.tmp 2]
def h_10_58 : Shape := ⟨[(0, .v 22), (3, .o 1003 5 true), (4, .v 2)], []⟩
def M_10_58 (K : Nat) (n : Nat) (q : PT h_10_58) : Rt s_10 := l_laws_toByteS_1 K q.1 n q.2.1 q.2.2.1
theorem e_10_58 (K : Nat) : AtL (x_10 K) (fun n => []) [] (bd Tryz.f46) 58 (M_10_58 K) := fun n q => by kernel_rfl
theorem xk_10 (K : Nat) : XF [.tmp 2] s_10 22 [] (x_10 K) := xkF gam_nil ov_nil
theorem k_10_58 (K : Nat) (n : Nat) : CF [.tmp 2] s_10 22 [] (bd Tryz.f46) [] 58 (ar h_10_58 (M_10_58 K n)) :=
 loopF (xk_10 K) (e_10_58 K) (fun n => cuts_nil) n
theorem sp_10 (K : Nat) : OkF 46 (c_10 K) :=
 ctrF (x := x_10 K) (L := [(58, ar h_10_58 (M_10_58 K K))]) (c0 := bd Tryz.f46) (xk_10 K) (by intro a0; show @Eq _ _ _; kernel_rfl) (cuts_cons (k_10_58 K K) cuts_nil) Tryz.func46 trivial
def l_laws_toIntS_1 (K : Nat) (a0 : List Int) : Nat -> (List Int) -> Int -> Option ((List Int))
 | 0, _, _ => none
 | n1 + 1, v1, v2 => (bif (decide (v2 < (a0.length : Int))) then (if (0 : Int) ≤ v2 ∧ v2 < (a0.length : Int) then (if (0 : Int) ≤ v2 ∧ v2 < (v1.length : Int) then (l_laws_toIntS_1 K a0 n1 (v1.set v2.toNat (gt a0 v2)) (iAdd .i64 v2 1)) else none) else none) else some v1)
def m_laws_toIntS (K : Nat) (a0 : List Int) : Option ((List Int)) := (if (0 : Int) ≤ (a0.length : Int) ∧ (a0.length : Int) ≤ (a0.length : Int) ∧ (8 : Int) * (a0.length : Int) ≤ 281474976710656 ∧ (a0.length : Int) ≤ 9223372036854775807 then (l_laws_toIntS_1 K a0 K (List.replicate (a0.length : Int).toNat 0) 0) else none)
def s_11 : Sig := ⟨[.v 26], [.n 26 true], true⟩
def c_11 (K : Nat) : Ctr tyU := ⟨s_11, m_laws_toIntS K⟩
def x_11 (K : Nat) := xF s_11 [] [] 22 [] [] [] [] [.tmp 2]
def h_11_58 : Shape := ⟨[(0, .v 26), (3, .o 1003 3 true), (4, .v 2)], []⟩
def M_11_58 (K : Nat) (n : Nat) (q : PT h_11_58) : Rt s_11 := l_laws_toIntS_1 K q.1 n q.2.1 q.2.2.1
theorem e_11_58 (K : Nat) : AtL (x_11 K) (fun n => []) [] (bd Tryz.f69) 58 (M_11_58 K) := fun n q => by kernel_rfl
theorem xk_11 (K : Nat) : XF [.tmp 2] s_11 22 [] (x_11 K) := xkF gam_nil ov_nil
theorem k_11_58 (K : Nat) (n : Nat) : CF [.tmp 2] s_11 22 [] (bd Tryz.f69) [] 58 (ar h_11_58 (M_11_58 K n)) :=
 loopF (xk_11 K) (e_11_58 K) (fun n => cuts_nil) n
theorem sp_11 (K : Nat) : OkF 69 (c_11 K) :=
 ctrF (x := x_11 K) (L := [(58, ar h_11_58 (M_11_58 K K))]) (c0 := bd Tryz.f69) (xk_11 K) (by intro a0; show @Eq _ _ _; kernel_rfl) (cuts_cons (k_11_58 K K) cuts_nil) Tryz.func69 trivial
def m_laws_toPool (K : Nat) (a0 : T_laws_Pool) : Option (T_impl_Pool) := ((m_laws_toByteS K a0.fMem).bind fun r1 => ((m_laws_toIntS K a0.fSt).bind fun r2 => ((m_laws_toIntS K a0.fOwn).bind fun r3 => some (T_impl_Pool.mk r1 r2 r3))))
def s_12 : Sig := ⟨[.v 48], [.n 28 true], true⟩
def c_12 (K : Nat) : Ctr tyU := ⟨s_12, m_laws_toPool K⟩
def x_12 (K : Nat) := xF s_12 [(46, c_10 K), (69, c_11 K)] [] 17 [] [] [] [] [.cell 2 28]
theorem sp_12 (K : Nat) : OkF 66 (c_12 K) :=
 ctrF (x := x_12 K) (L := []) (c0 := bd Tryz.f66) (xkF (gam_cons (sp_10 K) (gam_cons (sp_11 K) gam_nil)) ov_nil) (by intro a0; show @Eq _ _ _; kernel_rfl) cuts_nil Tryz.func66 trivial
def m_laws_toThing (K : Nat) (a0 : T_laws_Thing) : Option (T_impl_Thing) := some (T_impl_Thing.mk a0.fAt a0.fLen a0.fRun)
def s_13 : Sig := ⟨[.v 222], [.v 89], true⟩
def c_13 (K : Nat) : Ctr tyU := ⟨s_13, m_laws_toThing K⟩
def x_13 (K : Nat) := xF s_13 [] [] 14 [] [] [] [] [.cell 2 89]
theorem sp_13 (K : Nat) : OkF 260 (c_13 K) :=
 ctrF (x := x_13 K) (L := []) (c0 := bd Tryz.f260) (xkF gam_nil ov_nil) (by intro a0; show @Eq _ _ _; kernel_rfl) cuts_nil Tryz.func260 trivial
def l_laws_toThingS_1 (K : Nat) (a0 : List T_laws_Thing) : Nat -> (List T_impl_Thing) -> Int -> Option ((List T_impl_Thing))
 | 0, _, _ => none
 | n1 + 1, v1, v2 => (bif (decide (v2 < (a0.length : Int))) then (if (0 : Int) ≤ v2 ∧ v2 < (a0.length : Int) then ((m_laws_toThing K (gt a0 v2)).bind fun r3 => (if (0 : Int) ≤ v2 ∧ v2 < (v1.length : Int) then (l_laws_toThingS_1 K a0 n1 (v1.set v2.toNat r3) (iAdd .i64 v2 1)) else none)) else none) else some v1)
def m_laws_toThingS (K : Nat) (a0 : List T_laws_Thing) : Option ((List T_impl_Thing)) := (if (0 : Int) ≤ (a0.length : Int) ∧ (a0.length : Int) ≤ (a0.length : Int) ∧ (24 : Int) * (a0.length : Int) ≤ 281474976710656 ∧ (a0.length : Int) ≤ 9223372036854775807 then (l_laws_toThingS_1 K a0 K (List.replicate (a0.length : Int).toNat (T_impl_Thing.mk 0 0 0)) 0) else none)
def s_14 : Sig := ⟨[.v 152], [.n 41 true], true⟩
def c_14 (K : Nat) : Ctr tyU := ⟨s_14, m_laws_toThingS K⟩
def x_14 (K : Nat) := xF s_14 [(260, c_13 K)] [] 23 [] [] [] [] [.tmp 2]
def h_14_58 : Shape := ⟨[(0, .v 152), (3, .o 1003 89 true), (4, .v 2)], []⟩
def M_14_58 (K : Nat) (n : Nat) (q : PT h_14_58) : Rt s_14 := l_laws_toThingS_1 K q.1 n q.2.1 q.2.2.1
theorem e_14_58 (K : Nat) : AtL (x_14 K) (fun n => []) [] (bd Tryz.f204) 58 (M_14_58 K) := fun n q => by kernel_rfl
theorem xk_14 (K : Nat) : XF [.tmp 2] s_14 23 [] (x_14 K) := xkF (gam_cons (sp_13 K) gam_nil) ov_nil
theorem k_14_58 (K : Nat) (n : Nat) : CF [.tmp 2] s_14 23 [] (bd Tryz.f204) [] 58 (ar h_14_58 (M_14_58 K n)) :=
 loopF (xk_14 K) (e_14_58 K) (fun n => cuts_nil) n
theorem sp_14 (K : Nat) : OkF 204 (c_14 K) :=
 ctrF (x := x_14 K) (L := [(58, ar h_14_58 (M_14_58 K K))]) (c0 := bd Tryz.f204) (xk_14 K) (by intro a0; show @Eq _ _ _; kernel_rfl) (cuts_cons (k_14_58 K K) cuts_nil) Tryz.func204 trivial
def m_laws_toNode (K : Nat) (a0 : T_laws_Node) : Option (T_impl_Node) := ((m_laws_toIntS K a0.fChunks).bind fun r1 => ((m_laws_toThingS K a0.fThings).bind fun r2 => ((m_laws_toIntS K a0.fTags).bind fun r3 => some (T_impl_Node.mk a0.fSt a0.fGen a0.fEp a0.fUp a0.fUpEp a0.fFirst a0.fNext a0.fPrev r1 a0.fCur a0.fBump r2 r3))))
def s_15 : Sig := ⟨[.v 154], [.n 44 true], true⟩
def c_15 (K : Nat) : Ctr tyU := ⟨s_15, m_laws_toNode K⟩
def x_15 (K : Nat) := xF s_15 [(69, c_11 K), (204, c_14 K)] [] 47 [] [] [] [] [.cell 2 44]
theorem sp_15 (K : Nat) : OkF 131 (c_15 K) :=
 ctrF (x := x_15 K) (L := []) (c0 := bd Tryz.f131) (xkF (gam_cons (sp_11 K) (gam_cons (sp_14 K) gam_nil)) ov_nil) (by intro a0; show @Eq _ _ _; kernel_rfl) cuts_nil Tryz.func131 trivial
def l_laws_toNodeS_1 (K : Nat) (a0 : List T_laws_Node) : Nat -> (List T_impl_Node) -> Int -> Option ((List T_impl_Node))
 | 0, _, _ => none
 | n1 + 1, v1, v2 => (bif (decide (v2 < (a0.length : Int))) then (if (0 : Int) ≤ v2 ∧ v2 < (a0.length : Int) then ((m_laws_toNode K (gt a0 v2)).bind fun r3 => (if (0 : Int) ≤ v2 ∧ v2 < (v1.length : Int) then (l_laws_toNodeS_1 K a0 n1 (v1.set v2.toNat r3) (iAdd .i64 v2 1)) else none)) else none) else some v1)
def m_laws_toNodeS (K : Nat) (a0 : List T_laws_Node) : Option ((List T_impl_Node)) := (if (0 : Int) ≤ (a0.length : Int) ∧ (a0.length : Int) ≤ (a0.length : Int) ∧ (152 : Int) * (a0.length : Int) ≤ 281474976710656 ∧ (a0.length : Int) ≤ 9223372036854775807 then (l_laws_toNodeS_1 K a0 K (List.replicate (a0.length : Int).toNat (T_impl_Node.mk 0 0 0 0 0 0 0 0 [] 0 0 [] [])) 0) else none)
def s_16 : Sig := ⟨[.v 49], [.n 29 true], true⟩
def c_16 (K : Nat) : Ctr tyU := ⟨s_16, m_laws_toNodeS K⟩
def x_16 (K : Nat) := xF s_16 [(131, c_15 K)] [] 23 [] [] [] [] [.tmp 2]
def h_16_58 : Shape := ⟨[(0, .v 49), (3, .o 1003 44 true), (4, .v 2)], []⟩
def M_16_58 (K : Nat) (n : Nat) (q : PT h_16_58) : Rt s_16 := l_laws_toNodeS_1 K q.1 n q.2.1 q.2.2.1
theorem e_16_58 (K : Nat) : AtL (x_16 K) (fun n => []) [] (bd Tryz.f67) 58 (M_16_58 K) := fun n q => by kernel_rfl
theorem xk_16 (K : Nat) : XF [.tmp 2] s_16 23 [] (x_16 K) := xkF (gam_cons (sp_15 K) gam_nil) ov_nil
theorem k_16_58 (K : Nat) (n : Nat) : CF [.tmp 2] s_16 23 [] (bd Tryz.f67) [] 58 (ar h_16_58 (M_16_58 K n)) :=
 loopF (xk_16 K) (e_16_58 K) (fun n => cuts_nil) n
theorem sp_16 (K : Nat) : OkF 67 (c_16 K) :=
 ctrF (x := x_16 K) (L := [(58, ar h_16_58 (M_16_58 K K))]) (c0 := bd Tryz.f67) (xk_16 K) (by intro a0; show @Eq _ _ _; kernel_rfl) (cuts_cons (k_16_58 K K) cuts_nil) Tryz.func67 trivial
def m_laws_toWaste (K : Nat) (a0 : T_laws_Waste) : Option (T_impl_Waste) := ((m_laws_toIntS K a0.fTags).bind fun r1 => ((m_laws_toIntS K a0.fChunks).bind fun r2 => some (T_impl_Waste.mk a0.fSlot a0.fFirst r1 r2 a0.fDone)))
def s_17 : Sig := ⟨[.v 157], [.n 159 true], true⟩
def c_17 (K : Nat) : Ctr tyU := ⟨s_17, m_laws_toWaste K⟩
def x_17 (K : Nat) := xF s_17 [(69, c_11 K)] [] 22 [] [] [] [] [.cell 2 159]
theorem sp_17 (K : Nat) : OkF 132 (c_17 K) :=
 ctrF (x := x_17 K) (L := []) (c0 := bd Tryz.f132) (xkF (gam_cons (sp_11 K) gam_nil) ov_nil) (by intro a0; show @Eq _ _ _; kernel_rfl) cuts_nil Tryz.func132 trivial
def l_laws_toWasteS_1 (K : Nat) (a0 : List T_laws_Waste) : Nat -> (List T_impl_Waste) -> Int -> Option ((List T_impl_Waste))
 | 0, _, _ => none
 | n1 + 1, v1, v2 => (bif (decide (v2 < (a0.length : Int))) then (if (0 : Int) ≤ v2 ∧ v2 < (a0.length : Int) then ((m_laws_toWaste K (gt a0 v2)).bind fun r3 => (if (0 : Int) ≤ v2 ∧ v2 < (v1.length : Int) then (l_laws_toWasteS_1 K a0 n1 (v1.set v2.toNat r3) (iAdd .i64 v2 1)) else none)) else none) else some v1)
def m_laws_toWasteS (K : Nat) (a0 : List T_laws_Waste) : Option ((List T_impl_Waste)) := (if (0 : Int) ≤ (a0.length : Int) ∧ (a0.length : Int) ≤ (a0.length : Int) ∧ (72 : Int) * (a0.length : Int) ≤ 281474976710656 ∧ (a0.length : Int) ≤ 9223372036854775807 then (l_laws_toWasteS_1 K a0 K (List.replicate (a0.length : Int).toNat (T_impl_Waste.mk 0 0 [] [] 0)) 0) else none)
def s_18 : Sig := ⟨[.v 50], [.n 30 true], true⟩
def c_18 (K : Nat) : Ctr tyU := ⟨s_18, m_laws_toWasteS K⟩
def x_18 (K : Nat) := xF s_18 [(132, c_17 K)] [] 23 [] [] [] [] [.tmp 2]
def h_18_58 : Shape := ⟨[(0, .v 50), (3, .o 1003 159 true), (4, .v 2)], []⟩
def M_18_58 (K : Nat) (n : Nat) (q : PT h_18_58) : Rt s_18 := l_laws_toWasteS_1 K q.1 n q.2.1 q.2.2.1
theorem e_18_58 (K : Nat) : AtL (x_18 K) (fun n => []) [] (bd Tryz.f68) 58 (M_18_58 K) := fun n q => by kernel_rfl
theorem xk_18 (K : Nat) : XF [.tmp 2] s_18 23 [] (x_18 K) := xkF (gam_cons (sp_17 K) gam_nil) ov_nil
theorem k_18_58 (K : Nat) (n : Nat) : CF [.tmp 2] s_18 23 [] (bd Tryz.f68) [] 58 (ar h_18_58 (M_18_58 K n)) :=
 loopF (xk_18 K) (e_18_58 K) (fun n => cuts_nil) n
theorem sp_18 (K : Nat) : OkF 68 (c_18 K) :=
 ctrF (x := x_18 K) (L := [(58, ar h_18_58 (M_18_58 K K))]) (c0 := bd Tryz.f68) (xk_18 K) (by intro a0; show @Eq _ _ _; kernel_rfl) (cuts_cons (k_18_58 K K) cuts_nil) Tryz.func68 trivial
def m_laws_toWorld (K : Nat) (a0 : T_laws_World) : Option (T_impl_World) := ((m_laws_toConf K a0.fC).bind fun r1 => ((m_laws_toPool K a0.fP).bind fun r2 => ((m_laws_toNodeS K a0.fL).bind fun r3 => ((m_laws_toWasteS K a0.fQ).bind fun r4 => ((m_laws_toIntS K a0.fLog).bind fun r5 => some (T_impl_World.mk r1 r2 r3 r4 r5))))))
def s_19 : Sig := ⟨[.v 52], [.n 32 true], true⟩
def c_19 (K : Nat) : Ctr tyU := ⟨s_19, m_laws_toWorld K⟩
def x_19 (K : Nat) := xF s_19 [(65, c_9 K), (66, c_12 K), (67, c_16 K), (68, c_18 K), (69, c_11 K)] [] 25 [] [] [] [] [.cell 2 32]
theorem sp_19 (K : Nat) : OkF 20 (c_19 K) :=
 ctrF (x := x_19 K) (L := []) (c0 := bd Tryz.f20) (xkF (gam_cons (sp_9 K) (gam_cons (sp_12 K) (gam_cons (sp_16 K) (gam_cons (sp_18 K) (gam_cons (sp_11 K) gam_nil))))) ov_nil) (by intro a0; show @Eq _ _ _; kernel_rfl) cuts_nil Tryz.func20 trivial
def m_laws_toHandle (K : Nat) (a0 : T_laws_Handle) : Option (T_impl_Handle) := some (T_impl_Handle.mk a0.fSlot a0.fGen)
def s_20 : Sig := ⟨[.v 53], [.v 34], true⟩
def c_20 (K : Nat) : Ctr tyU := ⟨s_20, m_laws_toHandle K⟩
def x_20 (K : Nat) := xF s_20 [] [] 11 [] [] [] [] [.cell 2 34]
theorem sp_20 (K : Nat) : OkF 21 (c_20 K) :=
 ctrF (x := x_20 K) (L := []) (c0 := bd Tryz.f21) (xkF gam_nil ov_nil) (by intro a0; show @Eq _ _ _; kernel_rfl) cuts_nil Tryz.func21 trivial
def m_spec_l4Copy (K : Nat) (a0 : T_impl_Pool) : Option (T_impl_Pool) := (if (([] : List Int) ++ a0.fMem).length * 1 ≤ 140737488355328 ∧ (([] : List Int) ++ a0.fMem).length ≤ maxLen then (if (([] : List Int) ++ a0.fSt).length * 8 ≤ 140737488355328 ∧ (([] : List Int) ++ a0.fSt).length ≤ maxLen then (if (([] : List Int) ++ a0.fOwn).length * 8 ≤ 140737488355328 ∧ (([] : List Int) ++ a0.fOwn).length ≤ maxLen then some (T_impl_Pool.mk (([] : List Int) ++ a0.fMem) (([] : List Int) ++ a0.fSt) (([] : List Int) ++ a0.fOwn)) else none) else none) else none)
def s_21 : Sig := ⟨[.v 28], [.n 28 true], true⟩
def c_21 (K : Nat) : Ctr tyU := ⟨s_21, m_spec_l4Copy K⟩
def x_21 (K : Nat) := xF s_21 [] [] 16 [] [] [] [] [.cell 2 28]
theorem sp_21 (K : Nat) : OkF 137 (c_21 K) :=
 ctrF (x := x_21 K) (L := []) (c0 := bd Tryz.f137) (xkF gam_nil ov_nil) (by intro a0; show @Eq _ _ _; kernel_rfl) cuts_nil Tryz.func137 trivial
def m_spec_l7Copy (K : Nat) (a0 : T_impl_Node) : Option (T_impl_Node) := (if (([] : List Int) ++ a0.fChunks).length * 8 ≤ 140737488355328 ∧ (([] : List Int) ++ a0.fChunks).length ≤ maxLen then (if (([] : List T_impl_Thing) ++ a0.fThings).length * 24 ≤ 140737488355328 ∧ (([] : List T_impl_Thing) ++ a0.fThings).length ≤ maxLen then (if (([] : List Int) ++ a0.fTags).length * 8 ≤ 140737488355328 ∧ (([] : List Int) ++ a0.fTags).length ≤ maxLen then some (T_impl_Node.mk a0.fSt a0.fGen a0.fEp a0.fUp a0.fUpEp a0.fFirst a0.fNext a0.fPrev (([] : List Int) ++ a0.fChunks) a0.fCur a0.fBump (([] : List T_impl_Thing) ++ a0.fThings) (([] : List Int) ++ a0.fTags)) else none) else none) else none)
def s_22 : Sig := ⟨[.v 44], [.n 44 true], true⟩
def c_22 (K : Nat) : Ctr tyU := ⟨s_22, m_spec_l7Copy K⟩
def x_22 (K : Nat) := xF s_22 [] [] 21 [] [] [] [] [.cell 2 44]
theorem sp_22 (K : Nat) : OkF 209 (c_22 K) :=
 ctrF (x := x_22 K) (L := []) (c0 := bd Tryz.f209) (xkF gam_nil ov_nil) (by intro a0; show @Eq _ _ _; kernel_rfl) cuts_nil Tryz.func209 trivial
def l_spec_l7All_1 (K : Nat) (a0 : List T_impl_Node) : Nat -> (List T_impl_Node) -> Int -> Option ((List T_impl_Node))
 | 0, _, _ => none
 | n1 + 1, v1, v2 => (bif (decide (v2 < (a0.length : Int))) then (if (0 : Int) ≤ v2 ∧ v2 < (a0.length : Int) then ((m_spec_l7Copy K (gt a0 v2)).bind fun r3 => (if (v1 ++ [r3]).length * 152 ≤ 140737488355328 ∧ (v1 ++ [r3]).length ≤ maxLen then (l_spec_l7All_1 K a0 n1 (v1 ++ [r3]) (iAdd .i64 v2 1)) else none)) else none) else some v1)
def m_spec_l7All (K : Nat) (a0 : List T_impl_Node) : Option ((List T_impl_Node)) := (l_spec_l7All_1 K a0 K ([] : List T_impl_Node) 0)
def s_23 : Sig := ⟨[.v 29], [.n 29 true], true⟩
def c_23 (K : Nat) : Ctr tyU := ⟨s_23, m_spec_l7All K⟩
def x_23 (K : Nat) := xF s_23 [(209, c_22 K)] [] 23 [] [] [(20, [.put 3020])] [] [.tmp 2]
def h_23_58 : Shape := ⟨[(0, .v 29), (3, .o 1003 44 true), (4, .v 2)], []⟩
def M_23_58 (K : Nat) (n : Nat) (q : PT h_23_58) : Rt s_23 := l_spec_l7All_1 K q.1 n q.2.1 q.2.2.1
theorem e_23_58 (K : Nat) : AtL (x_23 K) (fun n => []) [] (bd Tryz.f138) 58 (M_23_58 K) := fun n q => by kernel_rfl
theorem xk_23 (K : Nat) : XF [.tmp 2] s_23 23 [] (x_23 K) := xkF (gam_cons (sp_22 K) gam_nil) ov_nil
theorem k_23_58 (K : Nat) (n : Nat) : CF [.tmp 2] s_23 23 [] (bd Tryz.f138) [] 58 (ar h_23_58 (M_23_58 K n)) :=
 loopF (xk_23 K) (e_23_58 K) (fun n => cuts_nil) n
theorem sp_23 (K : Nat) : OkF 138 (c_23 K) :=
 ctrF (x := x_23 K) (L := [(58, ar h_23_58 (M_23_58 K K))]) (c0 := bd Tryz.f138) (xk_23 K) (by intro a0; show @Eq _ _ _; kernel_rfl) (cuts_cons (k_23_58 K K) cuts_nil) Tryz.func138 trivial
def m_spec_l12Copy (K : Nat) (a0 : T_impl_Waste) : Option (T_impl_Waste) := (if (([] : List Int) ++ a0.fTags).length * 8 ≤ 140737488355328 ∧ (([] : List Int) ++ a0.fTags).length ≤ maxLen then (if (([] : List Int) ++ a0.fChunks).length * 8 ≤ 140737488355328 ∧ (([] : List Int) ++ a0.fChunks).length ≤ maxLen then some (T_impl_Waste.mk a0.fSlot a0.fFirst (([] : List Int) ++ a0.fTags) (([] : List Int) ++ a0.fChunks) a0.fDone) else none) else none)
def s_24 : Sig := ⟨[.v 159], [.n 159 true], true⟩
def c_24 (K : Nat) : Ctr tyU := ⟨s_24, m_spec_l12Copy K⟩
def x_24 (K : Nat) := xF s_24 [] [] 16 [] [] [] [] [.cell 2 159]
theorem sp_24 (K : Nat) : OkF 139 (c_24 K) :=
 ctrF (x := x_24 K) (L := []) (c0 := bd Tryz.f139) (xkF gam_nil ov_nil) (by intro a0; show @Eq _ _ _; kernel_rfl) cuts_nil Tryz.func139 trivial
def l_spec_l13Copy_1 (K : Nat) : Nat -> Int -> Int -> Int -> Int -> Int -> Int -> Int -> (List Int) -> (List Int) -> (List Int) -> (List T_impl_Node) -> (List T_impl_Waste) -> (List Int) -> T_impl_World -> Int -> Int -> Int -> Int -> Int -> Int -> (List Int) -> (List Int) -> (List Int) -> (List T_impl_Node) -> (List T_impl_Waste) -> (List Int) -> Option (T_impl_World)
 | 0, _, _, _, _, _, _, _, _, _, _, _, _, _, _, _, _, _, _, _, _, _, _, _, _, _, _ => none
 | n1 + 1, v3, v4, v5, v6, v7, v8, v9, v10, v11, v12, v13, v14, v15, v16, v17, v18, v19, v20, v21, v22, v23, v24, v25, v26, v27, v28 => (bif (decide (v3 < (v27.length : Int))) then (if (0 : Int) ≤ v3 ∧ v3 < (v27.length : Int) then ((m_spec_l12Copy K (gt v27 v3)).bind fun r29 => (if (v14 ++ [r29]).length * 72 ≤ 140737488355328 ∧ (v14 ++ [r29]).length ≤ maxLen then (l_spec_l13Copy_1 K n1 (iAdd .i64 v3 1) v4 v5 v6 v7 v8 v9 v10 v11 v12 v13 (v14 ++ [r29]) v15 v16 v17 v18 v19 v20 v21 v22 v23 v24 v25 v26 v27 v28) else none)) else none) else (if (([] : List Int) ++ v28).length * 8 ≤ 140737488355328 ∧ (([] : List Int) ++ v28).length ≤ maxLen then some (T_impl_World.mk (T_impl_Conf.mk v4 v5 v6 v7 v8 v9) (T_impl_Pool.mk v10 v11 v12) v13 v14 (([] : List Int) ++ v28)) else none))
def m_spec_l13Copy (K : Nat) (a0 : T_impl_World) : Option (T_impl_World) := ((m_spec_l4Copy K a0.fP).bind fun r1 => ((m_spec_l7All K a0.fL).bind fun r2 => (l_spec_l13Copy_1 K K 0 a0.fC.fChunks a0.fC.fSize a0.fC.fSlots a0.fC.fTax a0.fC.fSlice a0.fC.fGens r1.fMem r1.fSt r1.fOwn r2 ([] : List T_impl_Waste) a0.fLog (T_impl_World.mk (T_impl_Conf.mk 0 0 0 0 0 0) (T_impl_Pool.mk [] [] []) [] [] []) a0.fC.fChunks a0.fC.fSize a0.fC.fSlots a0.fC.fTax a0.fC.fSlice a0.fC.fGens a0.fP.fMem a0.fP.fSt a0.fP.fOwn a0.fL a0.fQ a0.fLog)))
def s_25 : Sig := ⟨[.v 32], [.n 32 true], true⟩
def c_25 (K : Nat) : Ctr tyU := ⟨s_25, m_spec_l13Copy K⟩
def x_25 (K : Nat) := xF s_25 [(137, c_21 K), (138, c_23 K), (139, c_24 K)] [] 42 [] [(9, [.take 103 10 6658]), (11, [.take 103 6 6654, .take 103 7 6655, .take 103 8 6656, .take 103 9 6657, .take 103 10 6658])] [(33, [.put 3033])] [] [.cell 2 32]
def h_25_506 : Shape := ⟨[(1, .p 101), (2, .p 102), (3, .p 103), (4, .v 2)], [(103, .box [.v 2, .v 2, .v 2, .v 2, .v 2, .v 2, .T 5 true, .T 3 true, .T 3 true, .T 44 true, .T 159 true, .v 26]), (102, .st 32 true), (101, .box [.v 2, .v 2, .v 2, .v 2, .v 2, .v 2, .v 22, .v 26, .v 26, .v 29, .v 30, .v 26])]⟩
def M_25_506 (K : Nat) (n : Nat) (q : PT h_25_506) : Rt s_25 := l_spec_l13Copy_1 K n q.1 q.2.1 q.2.2.1 q.2.2.2.1 q.2.2.2.2.1 q.2.2.2.2.2.1 q.2.2.2.2.2.2.1 q.2.2.2.2.2.2.2.1 q.2.2.2.2.2.2.2.2.1 q.2.2.2.2.2.2.2.2.2.1 q.2.2.2.2.2.2.2.2.2.2.1 q.2.2.2.2.2.2.2.2.2.2.2.1 q.2.2.2.2.2.2.2.2.2.2.2.2.1 q.2.2.2.2.2.2.2.2.2.2.2.2.2.1 q.2.2.2.2.2.2.2.2.2.2.2.2.2.2.1 q.2.2.2.2.2.2.2.2.2.2.2.2.2.2.2.1 q.2.2.2.2.2.2.2.2.2.2.2.2.2.2.2.2.1 q.2.2.2.2.2.2.2.2.2.2.2.2.2.2.2.2.2.1 q.2.2.2.2.2.2.2.2.2.2.2.2.2.2.2.2.2.2.1 q.2.2.2.2.2.2.2.2.2.2.2.2.2.2.2.2.2.2.2.1 q.2.2.2.2.2.2.2.2.2.2.2.2.2.2.2.2.2.2.2.2.1 q.2.2.2.2.2.2.2.2.2.2.2.2.2.2.2.2.2.2.2.2.2.1 q.2.2.2.2.2.2.2.2.2.2.2.2.2.2.2.2.2.2.2.2.2.2.1 q.2.2.2.2.2.2.2.2.2.2.2.2.2.2.2.2.2.2.2.2.2.2.2.1 q.2.2.2.2.2.2.2.2.2.2.2.2.2.2.2.2.2.2.2.2.2.2.2.2.1 q.2.2.2.2.2.2.2.2.2.2.2.2.2.2.2.2.2.2.2.2.2.2.2.2.2.1
theorem e_25_506 (K : Nat) : AtL (x_25 K) (fun n => []) [] (bd Tryz.f82) 506 (M_25_506 K) := fun n q => by kernel_rfl
theorem xk_25 (K : Nat) : XF [.cell 2 32] s_25 42 [] (x_25 K) := xkF (gam_cons (sp_21 K) (gam_cons (sp_23 K) (gam_cons (sp_24 K) gam_nil))) ov_nil
theorem k_25_506 (K : Nat) (n : Nat) : CF [.cell 2 32] s_25 42 [] (bd Tryz.f82) [] 506 (ar h_25_506 (M_25_506 K n)) :=
 loopF (xk_25 K) (e_25_506 K) (fun n => cuts_nil) n
theorem sp_25 (K : Nat) : OkF 82 (c_25 K) :=
 ctrF (x := x_25 K) (L := [(506, ar h_25_506 (M_25_506 K K))]) (c0 := bd Tryz.f82) (xk_25 K) (by intro a0; show @Eq _ _ _; kernel_rfl) (cuts_cons (k_25_506 K K) cuts_nil) Tryz.func82 trivial
def m_spec_l1In (K : Nat) (a0 : Int) (a1 : Int) (a2 : Int) : Option (Bool) := (bif (decide (a0 ≥ a1)) then some (decide (a0 ≤ a2)) else some false)
def s_26 : Sig := ⟨[.v 3, .v 3, .v 3], [.v 4], true⟩
def c_26 (K : Nat) : Ctr tyU := ⟨s_26, m_spec_l1In K⟩
def x_26 (K : Nat) := xF s_26 [] [] 15 [9, 10] [] [] [] [.tmp 6]
theorem sp_26 (K : Nat) : OkF 84 (c_26 K) :=
 ctrF (x := x_26 K) (L := []) (c0 := bd Tryz.f84) (xkF gam_nil ov_nil) (by intro a0 a1 a2; show @Eq _ _ _; kernel_rfl) cuts_nil Tryz.func84 trivial
def m_spec_ConfOk (K : Nat) (a0 : T_impl_Conf) : Option (Bool) := ((m_spec_l1In K a0.fChunks 2 12).bind fun r1 => (bif r1 then ((m_spec_l1In K a0.fSize 8 16).bind fun r2 => (bif r2 then ((m_spec_l1In K a0.fSlots 2 8).bind fun r3 => (bif r3 then ((m_spec_l1In K a0.fTax 1 8).bind fun r4 => (bif r4 then ((m_spec_l1In K a0.fSlice 1 16).bind fun r5 => (bif r5 then ((m_spec_l1In K a0.fGens 1 4).bind fun r6 => some r6) else some false)) else some false)) else some false)) else some false)) else some false))
def s_27 : Sig := ⟨[.v 25], [.v 4], true⟩
def c_27 (K : Nat) : Ctr tyU := ⟨s_27, m_spec_ConfOk K⟩
def x_27 (K : Nat) := xF s_27 [(84, c_26 K)] [] 31 [5, 6, 9, 10, 11, 14, 15, 16, 19, 20, 21, 24, 25, 26] [] [] [] [.tmp 2]
theorem sp_27 (K : Nat) : OkF 210 (c_27 K) :=
 ctrF (x := x_27 K) (L := []) (c0 := bd Tryz.f210) (xkF (gam_cons (sp_26 K) gam_nil) ov_nil) (by intro a0; show @Eq _ _ _; kernel_rfl) cuts_nil Tryz.func210 trivial
def m_spec_BytesOf (K : Nat) (a0 : T_impl_Conf) : Option (Int) := ((m_spec_ConfOk K a0).bind fun r1 => (bif (!r1) then some 0 else some (iMul .i64 a0.fChunks a0.fSize)))
def s_28 : Sig := ⟨[.v 25], [.v 3], true⟩
def c_28 (K : Nat) : Ctr tyU := ⟨s_28, m_spec_BytesOf K⟩
def x_28 (K : Nat) := xF s_28 [(210, c_27 K)] [] 11 [] [] [] [] [.tmp 2]
theorem sp_28 (K : Nat) : OkF 211 (c_28 K) :=
 ctrF (x := x_28 K) (L := []) (c0 := bd Tryz.f211) (xkF (gam_cons (sp_27 K) gam_nil) ov_nil) (by intro a0; show @Eq _ _ _; kernel_rfl) cuts_nil Tryz.func211 trivial
def l_spec_IsZero_1 (K : Nat) (a0 : List Int) : Nat -> Int -> Option (Bool)
 | 0, _ => none
 | n1 + 1, v1 => (bif (decide (v1 < (a0.length : Int))) then (if (0 : Int) ≤ v1 ∧ v1 < (a0.length : Int) then (bif ((gt a0 v1) != 0) then some false else (l_spec_IsZero_1 K a0 n1 (iAdd .i64 v1 1))) else none) else some true)
def m_spec_IsZero (K : Nat) (a0 : List Int) : Option (Bool) := (l_spec_IsZero_1 K a0 K 0)
def s_29 : Sig := ⟨[.v 22], [.v 4], true⟩
def c_29 (K : Nat) : Ctr tyU := ⟨s_29, m_spec_IsZero K⟩
def x_29 (K : Nat) := xF s_29 [] [] 15 [] [] [] [] [.tmp 2]
def h_29_26 : Shape := ⟨[(0, .v 22), (3, .v 2)], []⟩
def M_29_26 (K : Nat) (n : Nat) (q : PT h_29_26) : Rt s_29 := l_spec_IsZero_1 K q.1 n q.2.1
theorem e_29_26 (K : Nat) : AtL (x_29 K) (fun n => []) [] (bd Tryz.f212) 26 (M_29_26 K) := fun n q => by kernel_rfl
theorem xk_29 (K : Nat) : XF [.tmp 2] s_29 15 [] (x_29 K) := xkF gam_nil ov_nil
theorem k_29_26 (K : Nat) (n : Nat) : CF [.tmp 2] s_29 15 [] (bd Tryz.f212) [] 26 (ar h_29_26 (M_29_26 K n)) :=
 loopF (xk_29 K) (e_29_26 K) (fun n => cuts_nil) n
theorem sp_29 (K : Nat) : OkF 212 (c_29 K) :=
 ctrF (x := x_29 K) (L := [(26, ar h_29_26 (M_29_26 K K))]) (c0 := bd Tryz.f212) (xk_29 K) (by intro a0; show @Eq _ _ _; kernel_rfl) (cuts_cons (k_29_26 K K) cuts_nil) Tryz.func212 trivial
def j_spec_PoolOk_3 (K : Nat) (v3 : Int) (v4 : List Int) (v5 : List Int) (v6 : List Int) (C1 : Int -> (List Int) -> (List Int) -> (List Int) -> Option (Bool)) : Option (Bool) := (C1 (iAdd .i64 v3 1) v4 v5 v6)
def j_spec_PoolOk_2 (K : Nat) (a0 : T_impl_Conf) (v3 : Int) (v4 : List Int) (v5 : List Int) (v6 : List Int) (C1 : Int -> (List Int) -> (List Int) -> (List Int) -> Option (Bool)) : Option (Bool) := (if (0 : Int) ≤ v3 ∧ v3 < (v5.length : Int) then (bif ((gt v5 v3) == 0) then (if (0 : Int) ≤ (iMul .i64 v3 a0.fSize) ∧ (iMul .i64 v3 a0.fSize) ≤ (iMul .i64 (iAdd .i64 v3 1) a0.fSize) ∧ (iMul .i64 (iAdd .i64 v3 1) a0.fSize) ≤ (v4.length : Int) then ((m_spec_IsZero K ((v4.drop (iMul .i64 v3 a0.fSize).toNat).take ((iMul .i64 (iAdd .i64 v3 1) a0.fSize) - (iMul .i64 v3 a0.fSize)).toNat)).bind fun r9 => (bif (!r9) then some false else (j_spec_PoolOk_3 K v3 v4 v5 v6 (C1)))) else none) else (j_spec_PoolOk_3 K v3 v4 v5 v6 (C1))) else none)
def l_spec_PoolOk_1 (K : Nat) (a0 : T_impl_Conf) : Nat -> Int -> (List Int) -> (List Int) -> (List Int) -> Option (Bool)
 | 0, _, _, _, _ => none
 | n1 + 1, v3, v4, v5, v6 => (bif (decide (v3 < a0.fChunks)) then (if (0 : Int) ≤ v3 ∧ v3 < (v5.length : Int) then ((m_spec_l1In K (gt v5 v3) 0 2).bind fun r7 => (bif (!r7) then some false else (if (0 : Int) ≤ v3 ∧ v3 < (v5.length : Int) then (bif ((gt v5 v3) == 1) then (if (0 : Int) ≤ v3 ∧ v3 < (v6.length : Int) then ((m_spec_l1In K (gt v6 v3) 0 (iSub .i64 a0.fSlots 1)).bind fun r8 => (bif r8 then (if (0 : Int) ≤ v3 ∧ v3 < (v5.length : Int) then (bif ((gt v5 v3) != 1) then (if (0 : Int) ≤ v3 ∧ v3 < (v6.length : Int) then (bif ((gt v6 v3) != (-1)) then some false else (j_spec_PoolOk_2 K a0 v3 v4 v5 v6 (l_spec_PoolOk_1 K a0 n1))) else none) else (j_spec_PoolOk_2 K a0 v3 v4 v5 v6 (l_spec_PoolOk_1 K a0 n1))) else none) else some false)) else none) else (if (0 : Int) ≤ v3 ∧ v3 < (v5.length : Int) then (bif ((gt v5 v3) != 1) then (if (0 : Int) ≤ v3 ∧ v3 < (v6.length : Int) then (bif ((gt v6 v3) != (-1)) then some false else (j_spec_PoolOk_2 K a0 v3 v4 v5 v6 (l_spec_PoolOk_1 K a0 n1))) else none) else (j_spec_PoolOk_2 K a0 v3 v4 v5 v6 (l_spec_PoolOk_1 K a0 n1))) else none)) else none))) else none) else some true)
def m_spec_PoolOk (K : Nat) (a0 : T_impl_Conf) (a1 : T_impl_Pool) : Option (Bool) := ((m_spec_ConfOk K a0).bind fun r1 => (bif r1 then ((m_spec_BytesOf K a0).bind fun r2 => (bif ((a1.fMem.length : Int) != r2) then some false else (bif ((a1.fSt.length : Int) != a0.fChunks) then some false else (bif ((a1.fOwn.length : Int) != a0.fChunks) then some false else (l_spec_PoolOk_1 K a0 K 0 a1.fMem a1.fSt a1.fOwn))))) else some false))
def s_30 : Sig := ⟨[.v 25, .v 28], [.v 4], true⟩
def c_30 (K : Nat) : Ctr tyU := ⟨s_30, m_spec_PoolOk K⟩
def x_30 (K : Nat) := xF s_30 [(84, c_26 K), (210, c_27 K), (211, c_28 K), (212, c_29 K)] [] 102 [7, 8, 9, 15, 16, 17, 23, 24, 25, 51, 52, 61, 62, 63, 64, 70, 71, 85, 86] [] [] [233, 1865] [.tmp 4]
def h_30_233 : Shape := ⟨[(2, .p 102), (3, .p 103), (5, .v 2)], [(103, .box [.v 22, .v 26, .v 26]), (102, .st 25 true)]⟩
def h_30_1865 : Shape := ⟨[(2, .p 102), (3, .p 103), (5, .v 2)], [(103, .box [.v 22, .v 26, .v 26]), (102, .st 25 true)]⟩
def h_30_58 : Shape := ⟨[(2, .p 102), (3, .p 103), (5, .v 2)], [(103, .box [.v 22, .v 26, .v 26]), (102, .st 25 true)]⟩
def M_30_233 (K : Nat) (C58 : CT h_30_58 s_30) (q : PT h_30_233) : Rt s_30 := j_spec_PoolOk_3 K q.1 q.2.1 q.2.2.1 q.2.2.2.1 (fun v3 v4 v5 v6 => C58 (v3, v4, v5, v6, q.2.2.2.2.1, ()))
def M_30_1865 (K : Nat) (C58 : CT h_30_58 s_30) (q : PT h_30_1865) : Rt s_30 := j_spec_PoolOk_2 K q.2.2.2.2.1 q.1 q.2.1 q.2.2.1 q.2.2.2.1 (fun v3 v4 v5 v6 => C58 (v3, v4, v5, v6, q.2.2.2.2.1, ()))
def M_30_58 (K : Nat) (n : Nat) (q : PT h_30_58) : Rt s_30 := l_spec_PoolOk_1 K q.2.2.2.2.1 n q.1 q.2.1 q.2.2.1 q.2.2.2.1
theorem e_30_233 (K : Nat) (C58 : CT h_30_58 s_30) : AtJ (x_30 K) [] [(58, ar h_30_58 C58)] (bd Tryz.f140) 233 (M_30_233 K C58) := fun q => by kernel_rfl
theorem e_30_1865 (K : Nat) (C58 : CT h_30_58 s_30) : AtJ (x_30 K) [(233, ar h_30_233 (M_30_233 K C58))] [(58, ar h_30_58 C58)] (bd Tryz.f140) 1865 (M_30_1865 K C58) := fun q => by kernel_rfl
theorem e_30_58 (K : Nat) : AtL (x_30 K) (fun n => [(1865, ar h_30_1865 (M_30_1865 K (M_30_58 K n)))]) [] (bd Tryz.f140) 58 (M_30_58 K) := fun n q => by kernel_rfl
theorem xk_30 (K : Nat) : XF [.tmp 4] s_30 102 [233, 1865] (x_30 K) := xkF (gam_cons (sp_26 K) (gam_cons (sp_27 K) (gam_cons (sp_28 K) (gam_cons (sp_29 K) gam_nil)))) ov_nil
theorem k_30_233 (K : Nat) (C58 : CT h_30_58 s_30) : CF [.tmp 4] s_30 102 [233, 1865] (bd Tryz.f140) [(58, ar h_30_58 C58)] 233 (ar h_30_233 (M_30_233 K C58)) :=
 joinF (xk_30 K) (e_30_233 K C58) cuts_nil
theorem k_30_1865 (K : Nat) (C58 : CT h_30_58 s_30) : CF [.tmp 4] s_30 102 [233, 1865] (bd Tryz.f140) [(58, ar h_30_58 C58)] 1865 (ar h_30_1865 (M_30_1865 K C58)) :=
 joinF (xk_30 K) (e_30_1865 K C58) (cuts_cons (k_30_233 K C58) cuts_nil)
theorem k_30_58 (K : Nat) (n : Nat) : CF [.tmp 4] s_30 102 [233, 1865] (bd Tryz.f140) [] 58 (ar h_30_58 (M_30_58 K n)) :=
 loopF (xk_30 K) (e_30_58 K) (fun n => (cuts_cons (k_30_1865 K (M_30_58 K n)) cuts_nil)) n
theorem sp_30 (K : Nat) : OkF 140 (c_30 K) :=
 ctrF (x := x_30 K) (L := [(58, ar h_30_58 (M_30_58 K K))]) (c0 := bd Tryz.f140) (xk_30 K) (by intro a0 a1; show @Eq _ _ _; kernel_rfl) (cuts_cons (k_30_58 K K) cuts_nil) Tryz.func140 trivial
def m_spec_l9Place (K : Nat) (a0 : List T_impl_Node) (a1 : Int) : Option (Bool) := (bif (decide (a1 ≥ 1)) then some (decide (a1 ≤ (a0.length : Int))) else some false)
def s_31 : Sig := ⟨[.v 29, .v 3], [.v 4], true⟩
def c_31 (K : Nat) : Ctr tyU := ⟨s_31, m_spec_l9Place K⟩
def x_31 (K : Nat) := xF s_31 [] [] 13 [6, 7] [] [] [] [.tmp 4]
theorem sp_31 (K : Nat) : OkF 244 (c_31 K) :=
 ctrF (x := x_31 K) (L := []) (c0 := bd Tryz.f244) (xkF gam_nil ov_nil) (by intro a0 a1; show @Eq _ _ _; kernel_rfl) cuts_nil Tryz.func244 trivial
def m_spec_l9Live (K : Nat) (a0 : List T_impl_Node) (a1 : Int) : Option (Bool) := (bif (a1 == 0) then some true else ((m_spec_l9Place K a0 a1).bind fun r1 => (bif r1 then (if (0 : Int) ≤ (iSub .i64 a1 1) ∧ (iSub .i64 a1 1) < (a0.length : Int) then some (((gt a0 (iSub .i64 a1 1)).fSt) == 1) else none) else some false)))
def s_32 : Sig := ⟨[.v 29, .v 3], [.v 4], true⟩
def c_32 (K : Nat) : Ctr tyU := ⟨s_32, m_spec_l9Live K⟩
def x_32 (K : Nat) := xF s_32 [(244, c_31 K)] [] 21 [6, 7, 10, 11] [] [] [] [.tmp 4]
theorem sp_32 (K : Nat) : OkF 264 (c_32 K) :=
 ctrF (x := x_32 K) (L := []) (c0 := bd Tryz.f264) (xkF (gam_cons (sp_31 K) gam_nil) ov_nil) (by intro a0 a1; show @Eq _ _ _; kernel_rfl) cuts_nil Tryz.func264 trivial
def m_spec_l9In (K : Nat) (a0 : List T_impl_Node) (a1 : Int) : Option (Bool) := (if (0 : Int) ≤ a1 ∧ a1 < (a0.length : Int) then ((m_spec_l9Place K a0 ((gt a0 a1).fUp)).bind fun r1 => (bif r1 then (if (0 : Int) ≤ (iSub .i64 ((gt a0 a1).fUp) 1) ∧ (iSub .i64 ((gt a0 a1).fUp) 1) < (a0.length : Int) then (bif (((gt a0 (iSub .i64 ((gt a0 a1).fUp) 1)).fSt) == 1) then (if (0 : Int) ≤ (iSub .i64 ((gt a0 a1).fUp) 1) ∧ (iSub .i64 ((gt a0 a1).fUp) 1) < (a0.length : Int) then (if (0 : Int) ≤ a1 ∧ a1 < (a0.length : Int) then some (((gt a0 (iSub .i64 ((gt a0 a1).fUp) 1)).fEp) == ((gt a0 a1).fUpEp)) else none) else none) else some false) else none) else some false)) else none)
def s_33 : Sig := ⟨[.v 29, .v 3], [.v 4], true⟩
def c_33 (K : Nat) : Ctr tyU := ⟨s_33, m_spec_l9In K⟩
def x_33 (K : Nat) := xF s_33 [(244, c_31 K)] [] 37 [13, 14, 21, 22, 23] [] [] [] [.tmp 4]
theorem sp_33 (K : Nat) : OkF 225 (c_33 K) :=
 ctrF (x := x_33 K) (L := []) (c0 := bd Tryz.f225) (xkF (gam_cons (sp_31 K) gam_nil) ov_nil) (by intro a0 a1; show @Eq _ _ _; kernel_rfl) cuts_nil Tryz.func225 trivial
def l_spec_Rise_1 (K : Nat) (a0 : List T_impl_Node) : Nat -> Int -> (List Int) -> Option ((List Int))
 | 0, _, _ => none
 | n1 + 1, v1, v2 => ((m_spec_l9Place K a0 (iAdd .i64 v1 1)).bind fun r3 => (bif r3 then (bif (decide ((v2.length : Int) < (a0.length : Int))) then (if (v2 ++ ([v1] : List Int)).length * 8 ≤ 140737488355328 ∧ (v2 ++ ([v1] : List Int)).length ≤ maxLen then (if (0 : Int) ≤ v1 ∧ v1 < (a0.length : Int) then (l_spec_Rise_1 K a0 n1 (iSub .i64 ((gt a0 v1).fUp) 1) (v2 ++ ([v1] : List Int))) else none) else none) else some v2) else some v2))
def m_spec_Rise (K : Nat) (a0 : List T_impl_Node) (a1 : Int) : Option ((List Int)) := (l_spec_Rise_1 K a0 K a1 ([] : List Int))
def s_34 : Sig := ⟨[.v 29, .v 3], [.n 26 true], true⟩
def c_34 (K : Nat) : Ctr tyU := ⟨s_34, m_spec_Rise K⟩
def x_34 (K : Nat) := xF s_34 [(244, c_31 K)] [] 29 [10, 11] [] [] [] [.tmp 4]
def h_34_28 : Shape := ⟨[(0, .v 29), (1, .v 2), (5, .o 1005 3 true)], []⟩
def M_34_28 (K : Nat) (n : Nat) (q : PT h_34_28) : Rt s_34 := l_spec_Rise_1 K q.1 n q.2.1 q.2.2.1
theorem e_34_28 (K : Nat) : AtL (x_34 K) (fun n => []) [] (bd Tryz.f224) 28 (M_34_28 K) := fun n q => by kernel_rfl
theorem xk_34 (K : Nat) : XF [.tmp 4] s_34 29 [] (x_34 K) := xkF (gam_cons (sp_31 K) gam_nil) ov_nil
theorem k_34_28 (K : Nat) (n : Nat) : CF [.tmp 4] s_34 29 [] (bd Tryz.f224) [] 28 (ar h_34_28 (M_34_28 K n)) :=
 loopF (xk_34 K) (e_34_28 K) (fun n => cuts_nil) n
theorem sp_34 (K : Nat) : OkF 224 (c_34 K) :=
 ctrF (x := x_34 K) (L := [(28, ar h_34_28 (M_34_28 K K))]) (c0 := bd Tryz.f224) (xk_34 K) (by intro a0 a1; show @Eq _ _ _; kernel_rfl) (cuts_cons (k_34_28 K K) cuts_nil) Tryz.func224 trivial
def j_spec_l9One_5 (K : Nat) (a0 : List T_impl_Node) (a1 : Int) : Option (Bool) := ((m_spec_Rise K a0 a1).bind fun r19 => (bif (decide ((r19.length : Int) ≤ 4)) then (if (0 : Int) ≤ (iSub .i64 (r19.length : Int) 1) ∧ (iSub .i64 (r19.length : Int) 1) < (r19.length : Int) then ((m_spec_l9In K a0 (gt r19 (iSub .i64 (r19.length : Int) 1))).bind fun r20 => some (!r20)) else none) else some false))
def j_spec_l9One_4 (K : Nat) (a0 : List T_impl_Node) (a1 : Int) (v8 : Int) (v12 : Int) : Option (Bool) := (bif (v12 == 0) then ((m_spec_l9In K a0 a1).bind fun r18 => (bif r18 then (if (0 : Int) ≤ (iSub .i64 v8 1) ∧ (iSub .i64 v8 1) < (a0.length : Int) then (bif (((gt a0 (iSub .i64 v8 1)).fFirst) != (iAdd .i64 a1 1)) then some false else (j_spec_l9One_5 K a0 a1)) else none) else (j_spec_l9One_5 K a0 a1))) else (j_spec_l9One_5 K a0 a1))
def j_spec_l9One_3 (K : Nat) (a0 : List T_impl_Node) (a1 : Int) (v8 : Int) (v12 : Int) : Option (Bool) := (bif (v12 != 0) then (if (0 : Int) ≤ (iSub .i64 v12 1) ∧ (iSub .i64 v12 1) < (a0.length : Int) then (bif (((gt a0 (iSub .i64 v12 1)).fNext) != (iAdd .i64 a1 1)) then some false else (j_spec_l9One_4 K a0 a1 v8 v12)) else none) else (j_spec_l9One_4 K a0 a1 v8 v12))
def j_spec_l9One_2 (K : Nat) (a0 : List T_impl_Node) (a1 : Int) (v8 : Int) (v9 : Int) (v11 : Int) (v12 : Int) : Option (Bool) := (bif (v11 != 0) then (if (0 : Int) ≤ (iSub .i64 v11 1) ∧ (iSub .i64 v11 1) < (a0.length : Int) then (bif (((gt a0 (iSub .i64 v11 1)).fPrev) != (iAdd .i64 a1 1)) then some false else (bif (((gt a0 (iSub .i64 v11 1)).fUp) != v8) then some false else (bif (((gt a0 (iSub .i64 v11 1)).fUpEp) != v9) then some false else (j_spec_l9One_3 K a0 a1 v8 v12)))) else none) else (j_spec_l9One_3 K a0 a1 v8 v12))
def j_spec_l9One_1 (K : Nat) (a0 : List T_impl_Node) (a1 : Int) (v5 : Int) (v6 : Int) (v7 : Int) (v8 : Int) (v9 : Int) (v10 : Int) (v11 : Int) (v12 : Int) (v13 : List Int) (v14 : Int) (v15 : Int) (v16 : List T_impl_Thing) (v17 : List Int) : Option (Bool) := (bif (v10 != 0) then (if (0 : Int) ≤ (iSub .i64 v10 1) ∧ (iSub .i64 v10 1) < (a0.length : Int) then (bif (((gt a0 (iSub .i64 v10 1)).fPrev) != 0) then some false else (bif (((gt a0 (iSub .i64 v10 1)).fUp) != (iAdd .i64 a1 1)) then some false else (bif (((gt a0 (iSub .i64 v10 1)).fUpEp) != v7) then some false else (j_spec_l9One_2 K a0 a1 v8 v9 v11 v12)))) else none) else (j_spec_l9One_2 K a0 a1 v8 v9 v11 v12))
def m_spec_l9One (K : Nat) (a0 : List T_impl_Node) (a1 : Int) : Option (Bool) := (if (0 : Int) ≤ a1 ∧ a1 < (a0.length : Int) then (bif (((gt a0 a1).fUp) != 0) then ((m_spec_l9Place K a0 ((gt a0 a1).fUp)).bind fun r1 => (bif r1 then ((m_spec_l9Live K a0 ((gt a0 a1).fFirst)).bind fun r2 => (bif r2 then ((m_spec_l9Live K a0 ((gt a0 a1).fNext)).bind fun r3 => (bif r3 then ((m_spec_l9Live K a0 ((gt a0 a1).fPrev)).bind fun r4 => (bif (!r4) then some false else (j_spec_l9One_1 K a0 a1 ((gt a0 a1).fSt) ((gt a0 a1).fGen) ((gt a0 a1).fEp) ((gt a0 a1).fUp) ((gt a0 a1).fUpEp) ((gt a0 a1).fFirst) ((gt a0 a1).fNext) ((gt a0 a1).fPrev) ((gt a0 a1).fChunks) ((gt a0 a1).fCur) ((gt a0 a1).fBump) ((gt a0 a1).fThings) ((gt a0 a1).fTags)))) else some false)) else some false)) else some false)) else ((m_spec_l9Live K a0 ((gt a0 a1).fFirst)).bind fun r21 => (bif r21 then ((m_spec_l9Live K a0 ((gt a0 a1).fNext)).bind fun r22 => (bif r22 then ((m_spec_l9Live K a0 ((gt a0 a1).fPrev)).bind fun r23 => (bif (!r23) then some false else (j_spec_l9One_1 K a0 a1 ((gt a0 a1).fSt) ((gt a0 a1).fGen) ((gt a0 a1).fEp) ((gt a0 a1).fUp) ((gt a0 a1).fUpEp) ((gt a0 a1).fFirst) ((gt a0 a1).fNext) ((gt a0 a1).fPrev) ((gt a0 a1).fChunks) ((gt a0 a1).fCur) ((gt a0 a1).fBump) ((gt a0 a1).fThings) ((gt a0 a1).fTags)))) else some false)) else some false))) else none)
def s_35 : Sig := ⟨[.v 29, .v 3], [.v 4], true⟩
def c_35 (K : Nat) : Ctr tyU := ⟨s_35, m_spec_l9One K⟩
def x_35 (K : Nat) := xF s_35 [(224, c_34 K), (225, c_33 K), (244, c_31 K), (264, c_32 K)] [] 150 [15, 16, 20, 21, 22, 23, 27, 28, 29, 30, 34, 35, 36, 37, 55, 56, 61, 62, 63, 83, 84, 89, 90, 91, 100, 101, 115, 116, 119, 120, 121, 138, 139] [] [] [7, 15, 31, 63, 127] [.tmp 4]
def h_35_127 : Shape := ⟨[(0, .v 29), (1, .v 2)], []⟩
def h_35_63 : Shape := ⟨[(0, .v 29), (1, .v 2), (5, .p 105)], [(105, .box [.v 2, .v 2, .v 2, .v 2, .v 2, .v 2, .v 2, .v 2, .v 26, .v 2, .v 2, .v 41, .v 26])]⟩
def h_35_31 : Shape := ⟨[(0, .v 29), (1, .v 2), (5, .p 105)], [(105, .box [.v 2, .v 2, .v 2, .v 2, .v 2, .v 2, .v 2, .v 2, .v 26, .v 2, .v 2, .v 41, .v 26])]⟩
def h_35_15 : Shape := ⟨[(0, .v 29), (1, .v 2), (5, .p 105)], [(105, .box [.v 2, .v 2, .v 2, .v 2, .v 2, .v 2, .v 2, .v 2, .v 26, .v 2, .v 2, .v 41, .v 26])]⟩
def h_35_7 : Shape := ⟨[(0, .v 29), (1, .v 2), (5, .p 105)], [(105, .box [.v 2, .v 2, .v 2, .v 2, .v 2, .v 2, .v 2, .v 2, .v 26, .v 2, .v 2, .v 41, .v 26])]⟩
def M_35_127 (K : Nat) (q : PT h_35_127) : Rt s_35 := j_spec_l9One_5 K q.1 q.2.1
def M_35_63 (K : Nat) (q : PT h_35_63) : Rt s_35 := j_spec_l9One_4 K q.1 q.2.1 q.2.2.2.2.2.1 q.2.2.2.2.2.2.2.2.2.1
def M_35_31 (K : Nat) (q : PT h_35_31) : Rt s_35 := j_spec_l9One_3 K q.1 q.2.1 q.2.2.2.2.2.1 q.2.2.2.2.2.2.2.2.2.1
def M_35_15 (K : Nat) (q : PT h_35_15) : Rt s_35 := j_spec_l9One_2 K q.1 q.2.1 q.2.2.2.2.2.1 q.2.2.2.2.2.2.1 q.2.2.2.2.2.2.2.2.1 q.2.2.2.2.2.2.2.2.2.1
def M_35_7 (K : Nat) (q : PT h_35_7) : Rt s_35 := j_spec_l9One_1 K q.1 q.2.1 q.2.2.1 q.2.2.2.1 q.2.2.2.2.1 q.2.2.2.2.2.1 q.2.2.2.2.2.2.1 q.2.2.2.2.2.2.2.1 q.2.2.2.2.2.2.2.2.1 q.2.2.2.2.2.2.2.2.2.1 q.2.2.2.2.2.2.2.2.2.2.1 q.2.2.2.2.2.2.2.2.2.2.2.1 q.2.2.2.2.2.2.2.2.2.2.2.2.1 q.2.2.2.2.2.2.2.2.2.2.2.2.2.1 q.2.2.2.2.2.2.2.2.2.2.2.2.2.2.1
theorem e_35_127 (K : Nat) : AtJ (x_35 K) [] [] (bd Tryz.f213) 127 (M_35_127 K) := fun q => by kernel_rfl
theorem e_35_63 (K : Nat) : AtJ (x_35 K) [(127, ar h_35_127 (M_35_127 K))] [] (bd Tryz.f213) 63 (M_35_63 K) := fun q => by kernel_rfl
theorem e_35_31 (K : Nat) : AtJ (x_35 K) [(63, ar h_35_63 (M_35_63 K))] [] (bd Tryz.f213) 31 (M_35_31 K) := fun q => by kernel_rfl
theorem e_35_15 (K : Nat) : AtJ (x_35 K) [(31, ar h_35_31 (M_35_31 K))] [] (bd Tryz.f213) 15 (M_35_15 K) := fun q => by kernel_rfl
theorem e_35_7 (K : Nat) : AtJ (x_35 K) [(15, ar h_35_15 (M_35_15 K))] [] (bd Tryz.f213) 7 (M_35_7 K) := fun q => by kernel_rfl
theorem xk_35 (K : Nat) : XF [.tmp 4] s_35 150 [7, 15, 31, 63, 127] (x_35 K) := xkF (gam_cons (sp_34 K) (gam_cons (sp_33 K) (gam_cons (sp_31 K) (gam_cons (sp_32 K) gam_nil)))) ov_nil
theorem k_35_127 (K : Nat) : CF [.tmp 4] s_35 150 [7, 15, 31, 63, 127] (bd Tryz.f213) [] 127 (ar h_35_127 (M_35_127 K)) :=
 joinF (xk_35 K) (e_35_127 K) cuts_nil
theorem k_35_63 (K : Nat) : CF [.tmp 4] s_35 150 [7, 15, 31, 63, 127] (bd Tryz.f213) [] 63 (ar h_35_63 (M_35_63 K)) :=
 joinF (xk_35 K) (e_35_63 K) (cuts_cons (k_35_127 K) cuts_nil)
theorem k_35_31 (K : Nat) : CF [.tmp 4] s_35 150 [7, 15, 31, 63, 127] (bd Tryz.f213) [] 31 (ar h_35_31 (M_35_31 K)) :=
 joinF (xk_35 K) (e_35_31 K) (cuts_cons (k_35_63 K) cuts_nil)
theorem k_35_15 (K : Nat) : CF [.tmp 4] s_35 150 [7, 15, 31, 63, 127] (bd Tryz.f213) [] 15 (ar h_35_15 (M_35_15 K)) :=
 joinF (xk_35 K) (e_35_15 K) (cuts_cons (k_35_31 K) cuts_nil)
theorem k_35_7 (K : Nat) : CF [.tmp 4] s_35 150 [7, 15, 31, 63, 127] (bd Tryz.f213) [] 7 (ar h_35_7 (M_35_7 K)) :=
 joinF (xk_35 K) (e_35_7 K) (cuts_cons (k_35_15 K) cuts_nil)
theorem sp_35 (K : Nat) : OkF 213 (c_35 K) :=
 ctrF (x := x_35 K) (L := [(7, ar h_35_7 (M_35_7 K))]) (c0 := bd Tryz.f213) (xk_35 K) (by intro a0 a1; show @Eq _ _ _; kernel_rfl) (cuts_cons (k_35_7 K) cuts_nil) Tryz.func213 trivial
def j_spec_TreeOk_2 (K : Nat) (v1 : Int) (C1 : Int -> Option (Bool)) : Option (Bool) := (C1 (iAdd .i64 v1 1))
def l_spec_TreeOk_1 (K : Nat) (a0 : List T_impl_Node) : Nat -> Int -> Option (Bool)
 | 0, _ => none
 | n1 + 1, v1 => (bif (decide (v1 < (a0.length : Int))) then (if (0 : Int) ≤ v1 ∧ v1 < (a0.length : Int) then (bif (((gt a0 v1).fSt) == 1) then ((m_spec_l9One K a0 v1).bind fun r2 => (bif (!r2) then some false else (j_spec_TreeOk_2 K v1 (l_spec_TreeOk_1 K a0 n1)))) else (j_spec_TreeOk_2 K v1 (l_spec_TreeOk_1 K a0 n1))) else none) else some true)
def m_spec_TreeOk (K : Nat) (a0 : List T_impl_Node) : Option (Bool) := (l_spec_TreeOk_1 K a0 K 0)
def s_36 : Sig := ⟨[.v 29], [.v 4], true⟩
def c_36 (K : Nat) : Ctr tyU := ⟨s_36, m_spec_TreeOk K⟩
def x_36 (K : Nat) := xF s_36 [(213, c_35 K)] [] 22 [15, 16] [] [] [105] [.tmp 2]
def h_36_105 : Shape := ⟨[(0, .v 29), (3, .v 2)], []⟩
def h_36_26 : Shape := ⟨[(0, .v 29), (3, .v 2)], []⟩
def M_36_105 (K : Nat) (C26 : CT h_36_26 s_36) (q : PT h_36_105) : Rt s_36 := j_spec_TreeOk_2 K q.2.1 (fun v1 => C26 (q.1, v1, ()))
def M_36_26 (K : Nat) (n : Nat) (q : PT h_36_26) : Rt s_36 := l_spec_TreeOk_1 K q.1 n q.2.1
theorem e_36_105 (K : Nat) (C26 : CT h_36_26 s_36) : AtJ (x_36 K) [] [(26, ar h_36_26 C26)] (bd Tryz.f141) 105 (M_36_105 K C26) := fun q => by kernel_rfl
theorem e_36_26 (K : Nat) : AtL (x_36 K) (fun n => [(105, ar h_36_105 (M_36_105 K (M_36_26 K n)))]) [] (bd Tryz.f141) 26 (M_36_26 K) := fun n q => by kernel_rfl
theorem xk_36 (K : Nat) : XF [.tmp 2] s_36 22 [105] (x_36 K) := xkF (gam_cons (sp_35 K) gam_nil) ov_nil
theorem k_36_105 (K : Nat) (C26 : CT h_36_26 s_36) : CF [.tmp 2] s_36 22 [105] (bd Tryz.f141) [(26, ar h_36_26 C26)] 105 (ar h_36_105 (M_36_105 K C26)) :=
 joinF (xk_36 K) (e_36_105 K C26) cuts_nil
theorem k_36_26 (K : Nat) (n : Nat) : CF [.tmp 2] s_36 22 [105] (bd Tryz.f141) [] 26 (ar h_36_26 (M_36_26 K n)) :=
 loopF (xk_36 K) (e_36_26 K) (fun n => (cuts_cons (k_36_105 K (M_36_26 K n)) cuts_nil)) n
theorem sp_36 (K : Nat) : OkF 141 (c_36 K) :=
 ctrF (x := x_36 K) (L := [(26, ar h_36_26 (M_36_26 K K))]) (c0 := bd Tryz.f141) (xk_36 K) (by intro a0; show @Eq _ _ _; kernel_rfl) (cuts_cons (k_36_26 K K) cuts_nil) Tryz.func141 trivial
def j_spec_CountOf_2 (K : Nat) (v2 : Int) (v3 : List Int) (v4 : List Int) (v5 : List Int) (C1 : Int -> Int -> (List Int) -> (List Int) -> (List Int) -> Option (Int)) (v6 : Int) : Option (Int) := (C1 v6 (iAdd .i64 v2 1) v3 v4 v5)
def l_spec_CountOf_1 (K : Nat) (a1 : Int) : Nat -> Int -> Int -> (List Int) -> (List Int) -> (List Int) -> Option (Int)
 | 0, _, _, _, _, _ => none
 | n1 + 1, v1, v2, v3, v4, v5 => (bif (decide (v2 < (v4.length : Int))) then (if (0 : Int) ≤ v2 ∧ v2 < (v4.length : Int) then (bif ((gt v4 v2) == a1) then (j_spec_CountOf_2 K v2 v3 v4 v5 (l_spec_CountOf_1 K a1 n1) (iAdd .i64 v1 1)) else (j_spec_CountOf_2 K v2 v3 v4 v5 (l_spec_CountOf_1 K a1 n1) v1)) else none) else some v1)
def m_spec_CountOf (K : Nat) (a0 : T_impl_Pool) (a1 : Int) : Option (Int) := (l_spec_CountOf_1 K a1 K 0 0 a0.fMem a0.fSt a0.fOwn)
def s_37 : Sig := ⟨[.v 28, .v 3], [.v 3], true⟩
def c_37 (K : Nat) : Ctr tyU := ⟨s_37, m_spec_CountOf K⟩
def x_37 (K : Nat) := xF s_37 [] [] 24 [] [] [] [233] [.tmp 4]
def h_37_233 : Shape := ⟨[(1, .v 2), (2, .p 102), (5, .v 2), (6, .v 2)], [(102, .box [.v 22, .v 26, .v 26])]⟩
def h_37_58 : Shape := ⟨[(1, .v 2), (2, .p 102), (5, .v 2), (6, .v 2)], [(102, .box [.v 22, .v 26, .v 26])]⟩
def M_37_233 (K : Nat) (C58 : CT h_37_58 s_37) (q : PT h_37_233) : Rt s_37 := j_spec_CountOf_2 K q.2.2.1 q.2.2.2.1 q.2.2.2.2.1 q.2.2.2.2.2.1 (fun v1 v2 v3 v4 v5 => C58 (q.1, v1, v2, v3, v4, v5, ())) q.2.1
def M_37_58 (K : Nat) (n : Nat) (q : PT h_37_58) : Rt s_37 := l_spec_CountOf_1 K q.1 n q.2.1 q.2.2.1 q.2.2.2.1 q.2.2.2.2.1 q.2.2.2.2.2.1
theorem e_37_233 (K : Nat) (C58 : CT h_37_58 s_37) : AtJ (x_37 K) [] [(58, ar h_37_58 C58)] (bd Tryz.f222) 233 (M_37_233 K C58) := fun q => by kernel_rfl
theorem e_37_58 (K : Nat) : AtL (x_37 K) (fun n => [(233, ar h_37_233 (M_37_233 K (M_37_58 K n)))]) [] (bd Tryz.f222) 58 (M_37_58 K) := fun n q => by kernel_rfl
theorem xk_37 (K : Nat) : XF [.tmp 4] s_37 24 [233] (x_37 K) := xkF gam_nil ov_nil
theorem k_37_233 (K : Nat) (C58 : CT h_37_58 s_37) : CF [.tmp 4] s_37 24 [233] (bd Tryz.f222) [(58, ar h_37_58 C58)] 233 (ar h_37_233 (M_37_233 K C58)) :=
 joinF (xk_37 K) (e_37_233 K C58) cuts_nil
theorem k_37_58 (K : Nat) (n : Nat) : CF [.tmp 4] s_37 24 [233] (bd Tryz.f222) [] 58 (ar h_37_58 (M_37_58 K n)) :=
 loopF (xk_37 K) (e_37_58 K) (fun n => (cuts_cons (k_37_233 K (M_37_58 K n)) cuts_nil)) n
theorem sp_37 (K : Nat) : OkF 222 (c_37 K) :=
 ctrF (x := x_37 K) (L := [(58, ar h_37_58 (M_37_58 K K))]) (c0 := bd Tryz.f222) (xk_37 K) (by intro a0 a1; show @Eq _ _ _; kernel_rfl) (cuts_cons (k_37_58 K K) cuts_nil) Tryz.func222 trivial
def j_spec_CountNodes_2 (K : Nat) (v2 : Int) (C1 : Int -> Int -> Option (Int)) (v3 : Int) : Option (Int) := (C1 v3 (iAdd .i64 v2 1))
def l_spec_CountNodes_1 (K : Nat) (a0 : List T_impl_Node) (a1 : Int) : Nat -> Int -> Int -> Option (Int)
 | 0, _, _ => none
 | n1 + 1, v1, v2 => (bif (decide (v2 < (a0.length : Int))) then (if (0 : Int) ≤ v2 ∧ v2 < (a0.length : Int) then (bif (((gt a0 v2).fSt) == a1) then (j_spec_CountNodes_2 K v2 (l_spec_CountNodes_1 K a0 a1 n1) (iAdd .i64 v1 1)) else (j_spec_CountNodes_2 K v2 (l_spec_CountNodes_1 K a0 a1 n1) v1)) else none) else some v1)
def m_spec_CountNodes (K : Nat) (a0 : List T_impl_Node) (a1 : Int) : Option (Int) := (l_spec_CountNodes_1 K a0 a1 K 0 0)
def s_38 : Sig := ⟨[.v 29, .v 3], [.v 3], true⟩
def c_38 (K : Nat) : Ctr tyU := ⟨s_38, m_spec_CountNodes K⟩
def x_38 (K : Nat) := xF s_38 [] [] 23 [] [] [] [233] [.tmp 4]
def h_38_233 : Shape := ⟨[(0, .v 29), (1, .v 2), (5, .v 2), (6, .v 2)], []⟩
def h_38_58 : Shape := ⟨[(0, .v 29), (1, .v 2), (5, .v 2), (6, .v 2)], []⟩
def M_38_233 (K : Nat) (C58 : CT h_38_58 s_38) (q : PT h_38_233) : Rt s_38 := j_spec_CountNodes_2 K q.2.2.2.1 (fun v1 v2 => C58 (q.1, q.2.1, v1, v2, ())) q.2.2.1
def M_38_58 (K : Nat) (n : Nat) (q : PT h_38_58) : Rt s_38 := l_spec_CountNodes_1 K q.1 q.2.1 n q.2.2.1 q.2.2.2.1
theorem e_38_233 (K : Nat) (C58 : CT h_38_58 s_38) : AtJ (x_38 K) [] [(58, ar h_38_58 C58)] (bd Tryz.f223) 233 (M_38_233 K C58) := fun q => by kernel_rfl
theorem e_38_58 (K : Nat) : AtL (x_38 K) (fun n => [(233, ar h_38_233 (M_38_233 K (M_38_58 K n)))]) [] (bd Tryz.f223) 58 (M_38_58 K) := fun n q => by kernel_rfl
theorem xk_38 (K : Nat) : XF [.tmp 4] s_38 23 [233] (x_38 K) := xkF gam_nil ov_nil
theorem k_38_233 (K : Nat) (C58 : CT h_38_58 s_38) : CF [.tmp 4] s_38 23 [233] (bd Tryz.f223) [(58, ar h_38_58 C58)] 233 (ar h_38_233 (M_38_233 K C58)) :=
 joinF (xk_38 K) (e_38_233 K C58) cuts_nil
theorem k_38_58 (K : Nat) (n : Nat) : CF [.tmp 4] s_38 23 [233] (bd Tryz.f223) [] 58 (ar h_38_58 (M_38_58 K n)) :=
 loopF (xk_38 K) (e_38_58 K) (fun n => (cuts_cons (k_38_233 K (M_38_58 K n)) cuts_nil)) n
theorem sp_38 (K : Nat) : OkF 223 (c_38 K) :=
 ctrF (x := x_38 K) (L := [(58, ar h_38_58 (M_38_58 K K))]) (c0 := bd Tryz.f223) (xk_38 K) (by intro a0 a1; show @Eq _ _ _; kernel_rfl) (cuts_cons (k_38_58 K K) cuts_nil) Tryz.func223 trivial
def l_spec_l7Has_1 (K : Nat) (a0 : List Int) (a1 : Int) : Nat -> Int -> Option (Bool)
 | 0, _ => none
 | n1 + 1, v1 => (bif (decide (v1 < (a0.length : Int))) then (if (0 : Int) ≤ v1 ∧ v1 < (a0.length : Int) then (bif ((gt a0 v1) == a1) then some true else (l_spec_l7Has_1 K a0 a1 n1 (iAdd .i64 v1 1))) else none) else some false)
def m_spec_l7Has (K : Nat) (a0 : List Int) (a1 : Int) : Option (Bool) := (l_spec_l7Has_1 K a0 a1 K 0)
def s_39 : Sig := ⟨[.v 26, .v 3], [.v 4], true⟩
def c_39 (K : Nat) : Ctr tyU := ⟨s_39, m_spec_l7Has K⟩
def x_39 (K : Nat) := xF s_39 [] [] 18 [] [] [] [] [.tmp 4]
def h_39_26 : Shape := ⟨[(0, .v 26), (1, .v 2), (5, .v 2)], []⟩
def M_39_26 (K : Nat) (n : Nat) (q : PT h_39_26) : Rt s_39 := l_spec_l7Has_1 K q.1 q.2.1 n q.2.2.1
theorem e_39_26 (K : Nat) : AtL (x_39 K) (fun n => []) [] (bd Tryz.f218) 26 (M_39_26 K) := fun n q => by kernel_rfl
theorem xk_39 (K : Nat) : XF [.tmp 4] s_39 18 [] (x_39 K) := xkF gam_nil ov_nil
theorem k_39_26 (K : Nat) (n : Nat) : CF [.tmp 4] s_39 18 [] (bd Tryz.f218) [] 26 (ar h_39_26 (M_39_26 K n)) :=
 loopF (xk_39 K) (e_39_26 K) (fun n => cuts_nil) n
theorem sp_39 (K : Nat) : OkF 218 (c_39 K) :=
 ctrF (x := x_39 K) (L := [(26, ar h_39_26 (M_39_26 K K))]) (c0 := bd Tryz.f218) (xk_39 K) (by intro a0 a1; show @Eq _ _ _; kernel_rfl) (cuts_cons (k_39_26 K K) cuts_nil) Tryz.func218 trivial
def m_spec_l13Orphan (K : Nat) (a0 : List T_impl_Node) (a1 : Int) : Option (Bool) := (if (0 : Int) ≤ a1 ∧ a1 < (a0.length : Int) then (bif (((gt a0 a1).fSt) == 1) then (if (0 : Int) ≤ a1 ∧ a1 < (a0.length : Int) then (bif (((gt a0 a1).fUp) != 0) then ((m_spec_l9In K a0 a1).bind fun r1 => some (!r1)) else some false) else none) else some false) else none)
def s_40 : Sig := ⟨[.v 29, .v 3], [.v 4], true⟩
def c_40 (K : Nat) : Ctr tyU := ⟨s_40, m_spec_l13Orphan K⟩
def x_40 (K : Nat) := xF s_40 [(225, c_33 K)] [] 25 [10, 11, 17, 18, 19] [] [] [] [.tmp 4]
theorem sp_40 (K : Nat) : OkF 221 (c_40 K) :=
 ctrF (x := x_40 K) (L := []) (c0 := bd Tryz.f221) (xkF (gam_cons (sp_33 K) gam_nil) ov_nil) (by intro a0 a1; show @Eq _ _ _; kernel_rfl) cuts_nil Tryz.func221 trivial
def l_spec_KidsOf_1 (K : Nat) (a0 : List T_impl_Node) : Nat -> Int -> (List Int) -> Option ((List Int))
 | 0, _, _ => none
 | n1 + 1, v1, v2 => ((m_spec_l9Place K a0 v1).bind fun r3 => (bif r3 then (bif (decide ((v2.length : Int) < (a0.length : Int))) then (if (v2 ++ ([(iSub .i64 v1 1)] : List Int)).length * 8 ≤ 140737488355328 ∧ (v2 ++ ([(iSub .i64 v1 1)] : List Int)).length ≤ maxLen then (if (0 : Int) ≤ (iSub .i64 v1 1) ∧ (iSub .i64 v1 1) < (a0.length : Int) then (l_spec_KidsOf_1 K a0 n1 ((gt a0 (iSub .i64 v1 1)).fNext) (v2 ++ ([(iSub .i64 v1 1)] : List Int))) else none) else none) else some v2) else some v2))
def m_spec_KidsOf (K : Nat) (a0 : List T_impl_Node) (a1 : Int) : Option ((List Int)) := (l_spec_KidsOf_1 K a0 K a1 ([] : List Int))
def s_41 : Sig := ⟨[.v 29, .v 3], [.n 26 true], true⟩
def c_41 (K : Nat) : Ctr tyU := ⟨s_41, m_spec_KidsOf K⟩
def x_41 (K : Nat) := xF s_41 [(244, c_31 K)] [] 29 [9, 10] [] [] [] [.tmp 4]
def h_41_28 : Shape := ⟨[(0, .v 29), (1, .v 2), (5, .o 1005 3 true)], []⟩
def M_41_28 (K : Nat) (n : Nat) (q : PT h_41_28) : Rt s_41 := l_spec_KidsOf_1 K q.1 n q.2.1 q.2.2.1
theorem e_41_28 (K : Nat) : AtL (x_41 K) (fun n => []) [] (bd Tryz.f202) 28 (M_41_28 K) := fun n q => by kernel_rfl
theorem xk_41 (K : Nat) : XF [.tmp 4] s_41 29 [] (x_41 K) := xkF (gam_cons (sp_31 K) gam_nil) ov_nil
theorem k_41_28 (K : Nat) (n : Nat) : CF [.tmp 4] s_41 29 [] (bd Tryz.f202) [] 28 (ar h_41_28 (M_41_28 K n)) :=
 loopF (xk_41 K) (e_41_28 K) (fun n => cuts_nil) n
theorem sp_41 (K : Nat) : OkF 202 (c_41 K) :=
 ctrF (x := x_41 K) (L := [(28, ar h_41_28 (M_41_28 K K))]) (c0 := bd Tryz.f202) (xk_41 K) (by intro a0 a1; show @Eq _ _ _; kernel_rfl) (cuts_cons (k_41_28 K K) cuts_nil) Tryz.func202 trivial
def l_spec_l13Counts_5 (K : Nat) (v4 : Int) (v15 : List T_impl_Waste) (v20 : List Int) (v21 : Int) (C3 : (List Int) -> Int -> Option (Bool)) : Nat -> Int -> Option (Bool)
 | 0, _ => none
 | n5 + 1, v22 => (if (0 : Int) ≤ v4 ∧ v4 < (v15.length : Int) then (bif (decide (v22 < (((gt v15 v4).fChunks).length : Int))) then (if (0 : Int) ≤ v21 ∧ v21 < (v15.length : Int) then (if (0 : Int) ≤ v4 ∧ v4 < (v15.length : Int) then (if (0 : Int) ≤ v22 ∧ v22 < (((gt v15 v4).fChunks).length : Int) then ((m_spec_l7Has K ((gt v15 v21).fChunks) (gt ((gt v15 v4).fChunks) v22)).bind fun r23 => (bif r23 then some false else (l_spec_l13Counts_5 K v4 v15 v20 v21 C3 n5 (iAdd .i64 v22 1)))) else none) else none) else none) else (C3 v20 (iAdd .i64 v21 1))) else none)
def j_spec_l13Counts_4 (K : Nat) (v4 : Int) (v15 : List T_impl_Waste) (v20 : List Int) (v21 : Int) (C3 : (List Int) -> Int -> Option (Bool)) : Option (Bool) := (l_spec_l13Counts_5 K v4 v15 v20 v21 (C3) K 0)
def l_spec_l13Counts_3 (K : Nat) (v4 : Int) (v5 : Int) (v6 : Int) (v7 : Int) (v8 : Int) (v9 : Int) (v10 : Int) (v11 : List Int) (v12 : List Int) (v13 : List Int) (v14 : List T_impl_Node) (v15 : List T_impl_Waste) (v16 : List Int) (v17 : Int) (v18 : Int) (C1 : Int -> Int -> (List Int) -> Int -> Int -> Int -> Int -> Int -> Int -> Int -> (List Int) -> (List Int) -> (List Int) -> (List T_impl_Node) -> (List T_impl_Waste) -> (List Int) -> Option (Bool)) : Nat -> (List Int) -> Int -> Option (Bool)
 | 0, _, _ => none
 | n3 + 1, v20, v21 => (bif (decide (v21 < v4)) then (if (0 : Int) ≤ v4 ∧ v4 < (v15.length : Int) then (bif (((gt v15 v4).fSlot) != 0) then (if (0 : Int) ≤ v21 ∧ v21 < (v15.length : Int) then (if (0 : Int) ≤ v4 ∧ v4 < (v15.length : Int) then (bif (((gt v15 v21).fSlot) == ((gt v15 v4).fSlot)) then some false else (j_spec_l13Counts_4 K v4 v15 v20 v21 (l_spec_l13Counts_3 K v4 v5 v6 v7 v8 v9 v10 v11 v12 v13 v14 v15 v16 v17 v18 C1 n3))) else none) else none) else (j_spec_l13Counts_4 K v4 v15 v20 v21 (l_spec_l13Counts_3 K v4 v5 v6 v7 v8 v9 v10 v11 v12 v13 v14 v15 v16 v17 v18 C1 n3))) else none) else (C1 v17 v18 v20 (iAdd .i64 v4 1) v5 v6 v7 v8 v9 v10 v11 v12 v13 v14 v15 v16))
def j_spec_l13Counts_2 (K : Nat) (v3 : List Int) (v4 : Int) (v5 : Int) (v6 : Int) (v7 : Int) (v8 : Int) (v9 : Int) (v10 : Int) (v11 : List Int) (v12 : List Int) (v13 : List Int) (v14 : List T_impl_Node) (v15 : List T_impl_Waste) (v16 : List Int) (C1 : Int -> Int -> (List Int) -> Int -> Int -> Int -> Int -> Int -> Int -> Int -> (List Int) -> (List Int) -> (List Int) -> (List T_impl_Node) -> (List T_impl_Waste) -> (List Int) -> Option (Bool)) (v17 : Int) (v18 : Int) : Option (Bool) := (if (0 : Int) ≤ v4 ∧ v4 < (v15.length : Int) then ((m_spec_KidsOf K v14 ((gt v15 v4).fFirst)).bind fun r19 => (if (v3 ++ r19).length * 8 ≤ 140737488355328 ∧ (v3 ++ r19).length ≤ maxLen then (l_spec_l13Counts_3 K v4 v5 v6 v7 v8 v9 v10 v11 v12 v13 v14 v15 v16 v17 v18 (C1) K (v3 ++ r19) 0) else none)) else none)
def j_spec_l13Counts_7 (K : Nat) (v25 : Int) (C6 : Int -> Int -> Option (Bool)) (v27 : Int) : Option (Bool) := (C6 v27 (iAdd .i64 v25 1))
def l_spec_l13Counts_8 (K : Nat) (v1 : Int) (v2 : Int) (v3 : List Int) (v11 : List Int) (v12 : List Int) (v13 : List Int) (v14 : List T_impl_Node) (v24 : Int) : Nat -> Int -> Option (Bool)
 | 0, _ => none
 | n8 + 1, v28 => (bif (decide (v28 < (v3.length : Int))) then (if (0 : Int) ≤ 0 ∧ 0 ≤ v28 ∧ v28 ≤ (v3.length : Int) then (if (0 : Int) ≤ v28 ∧ v28 < (v3.length : Int) then ((m_spec_l7Has K ((v3.drop (0 : Int).toNat).take (v28 - 0).toNat) (gt v3 v28)).bind fun r29 => (bif r29 then some false else (l_spec_l13Counts_8 K v1 v2 v3 v11 v12 v13 v14 v24 n8 (iAdd .i64 v28 1)))) else none) else none) else ((m_spec_CountOf K (T_impl_Pool.mk v11 v12 v13) 2).bind fun r30 => (bif (v1 == r30) then ((m_spec_CountNodes K v14 2).bind fun r31 => (bif (v2 == r31) then some ((v3.length : Int) == v24) else some false)) else some false)))
def l_spec_l13Counts_6 (K : Nat) (v1 : Int) (v2 : Int) (v3 : List Int) (v11 : List Int) (v12 : List Int) (v13 : List Int) (v14 : List T_impl_Node) : Nat -> Int -> Int -> Option (Bool)
 | 0, _, _ => none
 | n6 + 1, v24, v25 => (bif (decide (v25 < (v14.length : Int))) then ((m_spec_l13Orphan K v14 v25).bind fun r26 => (bif r26 then (j_spec_l13Counts_7 K v25 (l_spec_l13Counts_6 K v1 v2 v3 v11 v12 v13 v14 n6) (iAdd .i64 v24 1)) else (j_spec_l13Counts_7 K v25 (l_spec_l13Counts_6 K v1 v2 v3 v11 v12 v13 v14 n6) v24))) else (l_spec_l13Counts_8 K v1 v2 v3 v11 v12 v13 v14 v24 K 0))
def l_spec_l13Counts_1 (K : Nat) : Nat -> Int -> Int -> (List Int) -> Int -> Int -> Int -> Int -> Int -> Int -> Int -> (List Int) -> (List Int) -> (List Int) -> (List T_impl_Node) -> (List T_impl_Waste) -> (List Int) -> Option (Bool)
 | 0, _, _, _, _, _, _, _, _, _, _, _, _, _, _, _, _ => none
 | n1 + 1, v1, v2, v3, v4, v5, v6, v7, v8, v9, v10, v11, v12, v13, v14, v15, v16 => (bif (decide (v4 < (v15.length : Int))) then (if (0 : Int) ≤ v4 ∧ v4 < (v15.length : Int) then (if (0 : Int) ≤ v4 ∧ v4 < (v15.length : Int) then (bif (((gt v15 v4).fSlot) != 0) then (j_spec_l13Counts_2 K v3 v4 v5 v6 v7 v8 v9 v10 v11 v12 v13 v14 v15 v16 (l_spec_l13Counts_1 K n1) (iAdd .i64 v1 (((gt v15 v4).fChunks).length : Int)) (iAdd .i64 v2 1)) else (j_spec_l13Counts_2 K v3 v4 v5 v6 v7 v8 v9 v10 v11 v12 v13 v14 v15 v16 (l_spec_l13Counts_1 K n1) (iAdd .i64 v1 (((gt v15 v4).fChunks).length : Int)) v2)) else none) else none) else (l_spec_l13Counts_6 K v1 v2 v3 v11 v12 v13 v14 K 0 0))
def m_spec_l13Counts (K : Nat) (a0 : T_impl_World) : Option (Bool) := (l_spec_l13Counts_1 K K 0 0 ([] : List Int) 0 a0.fC.fChunks a0.fC.fSize a0.fC.fSlots a0.fC.fTax a0.fC.fSlice a0.fC.fGens a0.fP.fMem a0.fP.fSt a0.fP.fOwn a0.fL a0.fQ a0.fLog)
def s_42 : Sig := ⟨[.v 32], [.v 4], true⟩
def c_42 (K : Nat) : Ctr tyU := ⟨s_42, m_spec_l13Counts K⟩
def x_42 (K : Nat) := xF s_42 [(202, c_41 K), (218, c_39 K), (221, c_40 K), (222, c_37 K), (223, c_38 K)] [] 148 [60, 61, 134, 135, 140, 141, 142] [] [] [4073, 8009, 2050532] [.tmp 2]
def h_42_16404262 : Shape := ⟨[(1, .p 101), (3, .v 2), (4, .v 2), (5, .o 1005 3 true), (6, .v 2), (7, .v 2), (8, .v 2)], [(101, .box [.v 2, .v 2, .v 2, .v 2, .v 2, .v 2, .v 22, .v 26, .v 26, .v 29, .v 30, .v 26])]⟩
def h_42_2050532 : Shape := ⟨[(1, .p 101), (3, .v 2), (4, .v 2), (5, .o 1005 3 true), (6, .v 2), (7, .v 2)], [(101, .box [.v 2, .v 2, .v 2, .v 2, .v 2, .v 2, .v 22, .v 26, .v 26, .v 29, .v 30, .v 26])]⟩
def h_42_128158 : Shape := ⟨[(1, .p 101), (3, .v 2), (4, .v 2), (5, .o 1005 3 true), (6, .v 2), (7, .v 2)], [(101, .box [.v 2, .v 2, .v 2, .v 2, .v 2, .v 2, .v 22, .v 26, .v 26, .v 29, .v 30, .v 26])]⟩
def h_42_8009 : Shape := ⟨[(1, .p 101), (3, .v 2), (4, .v 2), (5, .o 1005 3 true), (6, .v 2)], [(101, .box [.v 2, .v 2, .v 2, .v 2, .v 2, .v 2, .v 22, .v 26, .v 26, .v 29, .v 30, .v 26])]⟩
def h_42_4073 : Shape := ⟨[(1, .p 101), (3, .v 2), (4, .v 2), (5, .o 1005 3 true), (9, .v 2), (10, .v 2)], [(101, .box [.v 2, .v 2, .v 2, .v 2, .v 2, .v 2, .v 22, .v 26, .v 26, .v 29, .v 30, .v 26])]⟩
def h_42_2042 : Shape := ⟨[(1, .p 101), (3, .v 2), (4, .v 2), (5, .o 1005 3 true), (9, .v 2), (11, .v 2)], [(101, .box [.v 2, .v 2, .v 2, .v 2, .v 2, .v 2, .v 22, .v 26, .v 26, .v 29, .v 30, .v 26])]⟩
def h_42_1018 : Shape := ⟨[(1, .p 101), (3, .v 2), (4, .v 2), (5, .o 1005 3 true), (9, .v 2), (10, .v 2)], [(101, .box [.v 2, .v 2, .v 2, .v 2, .v 2, .v 2, .v 22, .v 26, .v 26, .v 29, .v 30, .v 26])]⟩
def h_42_250 : Shape := ⟨[(1, .p 101), (3, .v 2), (4, .v 2), (5, .o 1005 3 true), (6, .v 2)], [(101, .box [.v 2, .v 2, .v 2, .v 2, .v 2, .v 2, .v 22, .v 26, .v 26, .v 29, .v 30, .v 26])]⟩
def M_42_16404262 (K : Nat) (C250 : CT h_42_250 s_42) (C128158 : CT h_42_128158 s_42) (n : Nat) (q : PT h_42_16404262) : Rt s_42 := l_spec_l13Counts_5 K q.2.2.2.1 q.2.2.2.2.2.2.2.2.2.2.2.2.2.2.2.2.1 q.2.2.1 q.2.2.2.2.1 (fun v20 v21 => C128158 (q.1, q.2.1, v20, q.2.2.2.1, v21, q.2.2.2.2.2.2.1, q.2.2.2.2.2.2.2.1, q.2.2.2.2.2.2.2.2.1, q.2.2.2.2.2.2.2.2.2.1, q.2.2.2.2.2.2.2.2.2.2.1, q.2.2.2.2.2.2.2.2.2.2.2.1, q.2.2.2.2.2.2.2.2.2.2.2.2.1, q.2.2.2.2.2.2.2.2.2.2.2.2.2.1, q.2.2.2.2.2.2.2.2.2.2.2.2.2.2.1, q.2.2.2.2.2.2.2.2.2.2.2.2.2.2.2.1, q.2.2.2.2.2.2.2.2.2.2.2.2.2.2.2.2.1, q.2.2.2.2.2.2.2.2.2.2.2.2.2.2.2.2.2.1, ())) n q.2.2.2.2.2.1
def M_42_2050532 (K : Nat) (C250 : CT h_42_250 s_42) (C128158 : CT h_42_128158 s_42) (q : PT h_42_2050532) : Rt s_42 := j_spec_l13Counts_4 K q.2.2.2.1 q.2.2.2.2.2.2.2.2.2.2.2.2.2.2.2.1 q.2.2.1 q.2.2.2.2.1 (fun v20 v21 => C128158 (q.1, q.2.1, v20, q.2.2.2.1, v21, q.2.2.2.2.2.1, q.2.2.2.2.2.2.1, q.2.2.2.2.2.2.2.1, q.2.2.2.2.2.2.2.2.1, q.2.2.2.2.2.2.2.2.2.1, q.2.2.2.2.2.2.2.2.2.2.1, q.2.2.2.2.2.2.2.2.2.2.2.1, q.2.2.2.2.2.2.2.2.2.2.2.2.1, q.2.2.2.2.2.2.2.2.2.2.2.2.2.1, q.2.2.2.2.2.2.2.2.2.2.2.2.2.2.1, q.2.2.2.2.2.2.2.2.2.2.2.2.2.2.2.1, q.2.2.2.2.2.2.2.2.2.2.2.2.2.2.2.2.1, ()))
def M_42_128158 (K : Nat) (C250 : CT h_42_250 s_42) (n : Nat) (q : PT h_42_128158) : Rt s_42 := l_spec_l13Counts_3 K q.2.2.2.1 q.2.2.2.2.2.1 q.2.2.2.2.2.2.1 q.2.2.2.2.2.2.2.1 q.2.2.2.2.2.2.2.2.1 q.2.2.2.2.2.2.2.2.2.1 q.2.2.2.2.2.2.2.2.2.2.1 q.2.2.2.2.2.2.2.2.2.2.2.1 q.2.2.2.2.2.2.2.2.2.2.2.2.1 q.2.2.2.2.2.2.2.2.2.2.2.2.2.1 q.2.2.2.2.2.2.2.2.2.2.2.2.2.2.1 q.2.2.2.2.2.2.2.2.2.2.2.2.2.2.2.1 q.2.2.2.2.2.2.2.2.2.2.2.2.2.2.2.2.1 q.1 q.2.1 (fun v1 v2 v3 v4 v5 v6 v7 v8 v9 v10 v11 v12 v13 v14 v15 v16 => C250 (v1, v2, v3, v4, v5, v6, v7, v8, v9, v10, v11, v12, v13, v14, v15, v16, ())) n q.2.2.1 q.2.2.2.2.1
def M_42_8009 (K : Nat) (C250 : CT h_42_250 s_42) (q : PT h_42_8009) : Rt s_42 := j_spec_l13Counts_2 K q.2.2.1 q.2.2.2.1 q.2.2.2.2.1 q.2.2.2.2.2.1 q.2.2.2.2.2.2.1 q.2.2.2.2.2.2.2.1 q.2.2.2.2.2.2.2.2.1 q.2.2.2.2.2.2.2.2.2.1 q.2.2.2.2.2.2.2.2.2.2.1 q.2.2.2.2.2.2.2.2.2.2.2.1 q.2.2.2.2.2.2.2.2.2.2.2.2.1 q.2.2.2.2.2.2.2.2.2.2.2.2.2.1 q.2.2.2.2.2.2.2.2.2.2.2.2.2.2.1 q.2.2.2.2.2.2.2.2.2.2.2.2.2.2.2.1 (fun v1 v2 v3 v4 v5 v6 v7 v8 v9 v10 v11 v12 v13 v14 v15 v16 => C250 (v1, v2, v3, v4, v5, v6, v7, v8, v9, v10, v11, v12, v13, v14, v15, v16, ())) q.1 q.2.1
def M_42_4073 (K : Nat) (C1018 : CT h_42_1018 s_42) (q : PT h_42_4073) : Rt s_42 := j_spec_l13Counts_7 K q.2.2.2.2.1 (fun v24 v25 => C1018 (q.1, q.2.1, q.2.2.1, v24, v25, q.2.2.2.2.2.1, q.2.2.2.2.2.2.1, q.2.2.2.2.2.2.2.1, q.2.2.2.2.2.2.2.2.1, q.2.2.2.2.2.2.2.2.2.1, q.2.2.2.2.2.2.2.2.2.2.1, q.2.2.2.2.2.2.2.2.2.2.2.1, q.2.2.2.2.2.2.2.2.2.2.2.2.1, q.2.2.2.2.2.2.2.2.2.2.2.2.2.1, q.2.2.2.2.2.2.2.2.2.2.2.2.2.2.1, q.2.2.2.2.2.2.2.2.2.2.2.2.2.2.2.1, q.2.2.2.2.2.2.2.2.2.2.2.2.2.2.2.2.1, ())) q.2.2.2.1
def M_42_2042 (K : Nat) (n : Nat) (q : PT h_42_2042) : Rt s_42 := l_spec_l13Counts_8 K q.1 q.2.1 q.2.2.1 q.2.2.2.2.2.2.2.2.2.2.2.1 q.2.2.2.2.2.2.2.2.2.2.2.2.1 q.2.2.2.2.2.2.2.2.2.2.2.2.2.1 q.2.2.2.2.2.2.2.2.2.2.2.2.2.2.1 q.2.2.2.1 n q.2.2.2.2.1
def M_42_1018 (K : Nat) (n : Nat) (q : PT h_42_1018) : Rt s_42 := l_spec_l13Counts_6 K q.1 q.2.1 q.2.2.1 q.2.2.2.2.2.2.2.2.2.2.2.1 q.2.2.2.2.2.2.2.2.2.2.2.2.1 q.2.2.2.2.2.2.2.2.2.2.2.2.2.1 q.2.2.2.2.2.2.2.2.2.2.2.2.2.2.1 n q.2.2.2.1 q.2.2.2.2.1
def M_42_250 (K : Nat) (n : Nat) (q : PT h_42_250) : Rt s_42 := l_spec_l13Counts_1 K n q.1 q.2.1 q.2.2.1 q.2.2.2.1 q.2.2.2.2.1 q.2.2.2.2.2.1 q.2.2.2.2.2.2.1 q.2.2.2.2.2.2.2.1 q.2.2.2.2.2.2.2.2.1 q.2.2.2.2.2.2.2.2.2.1 q.2.2.2.2.2.2.2.2.2.2.1 q.2.2.2.2.2.2.2.2.2.2.2.1 q.2.2.2.2.2.2.2.2.2.2.2.2.1 q.2.2.2.2.2.2.2.2.2.2.2.2.2.1 q.2.2.2.2.2.2.2.2.2.2.2.2.2.2.1 q.2.2.2.2.2.2.2.2.2.2.2.2.2.2.2.1
theorem e_42_16404262 (K : Nat) (C250 : CT h_42_250 s_42) (C128158 : CT h_42_128158 s_42) : AtL (x_42 K) (fun n => []) [(128158, ar h_42_128158 C128158), (250, ar h_42_250 C250)] (bd Tryz.f148) 16404262 (M_42_16404262 K C250 C128158) := fun n q => by kernel_rfl
theorem e_42_2050532 (K : Nat) (C250 : CT h_42_250 s_42) (C128158 : CT h_42_128158 s_42) : AtJ (x_42 K) [(16404262, ar h_42_16404262 (M_42_16404262 K C250 C128158 K))] [(128158, ar h_42_128158 C128158), (250, ar h_42_250 C250)] (bd Tryz.f148) 2050532 (M_42_2050532 K C250 C128158) := fun q => by kernel_rfl
theorem e_42_128158 (K : Nat) (C250 : CT h_42_250 s_42) : AtL (x_42 K) (fun n => [(2050532, ar h_42_2050532 (M_42_2050532 K C250 (M_42_128158 K C250 n)))]) [(250, ar h_42_250 C250)] (bd Tryz.f148) 128158 (M_42_128158 K C250) := fun n q => by kernel_rfl
theorem e_42_8009 (K : Nat) (C250 : CT h_42_250 s_42) : AtJ (x_42 K) [(128158, ar h_42_128158 (M_42_128158 K C250 K))] [(250, ar h_42_250 C250)] (bd Tryz.f148) 8009 (M_42_8009 K C250) := fun q => by kernel_rfl
theorem e_42_4073 (K : Nat) (C1018 : CT h_42_1018 s_42) : AtJ (x_42 K) [] [(1018, ar h_42_1018 C1018)] (bd Tryz.f148) 4073 (M_42_4073 K C1018) := fun q => by kernel_rfl
theorem e_42_2042 (K : Nat) : AtL (x_42 K) (fun n => []) [] (bd Tryz.f148) 2042 (M_42_2042 K) := fun n q => by kernel_rfl
theorem e_42_1018 (K : Nat) : AtL (x_42 K) (fun n => [(4073, ar h_42_4073 (M_42_4073 K (M_42_1018 K n))), (2042, ar h_42_2042 (M_42_2042 K K))]) [] (bd Tryz.f148) 1018 (M_42_1018 K) := fun n q => by kernel_rfl
theorem e_42_250 (K : Nat) : AtL (x_42 K) (fun n => [(8009, ar h_42_8009 (M_42_8009 K (M_42_250 K n))), (1018, ar h_42_1018 (M_42_1018 K K))]) [] (bd Tryz.f148) 250 (M_42_250 K) := fun n q => by kernel_rfl
theorem xk_42 (K : Nat) : XF [.tmp 2] s_42 148 [4073, 8009, 2050532] (x_42 K) := xkF (gam_cons (sp_41 K) (gam_cons (sp_39 K) (gam_cons (sp_40 K) (gam_cons (sp_37 K) (gam_cons (sp_38 K) gam_nil))))) ov_nil
theorem k_42_16404262 (K : Nat) (C250 : CT h_42_250 s_42) (C128158 : CT h_42_128158 s_42) (n : Nat) : CF [.tmp 2] s_42 148 [4073, 8009, 2050532] (bd Tryz.f148) [(128158, ar h_42_128158 C128158), (250, ar h_42_250 C250)] 16404262 (ar h_42_16404262 (M_42_16404262 K C250 C128158 n)) :=
 loopF (xk_42 K) (e_42_16404262 K C250 C128158) (fun n => cuts_nil) n
theorem k_42_2050532 (K : Nat) (C250 : CT h_42_250 s_42) (C128158 : CT h_42_128158 s_42) : CF [.tmp 2] s_42 148 [4073, 8009, 2050532] (bd Tryz.f148) [(128158, ar h_42_128158 C128158), (250, ar h_42_250 C250)] 2050532 (ar h_42_2050532 (M_42_2050532 K C250 C128158)) :=
 joinF (xk_42 K) (e_42_2050532 K C250 C128158) (cuts_cons (k_42_16404262 K C250 C128158 K) cuts_nil)
theorem k_42_128158 (K : Nat) (C250 : CT h_42_250 s_42) (n : Nat) : CF [.tmp 2] s_42 148 [4073, 8009, 2050532] (bd Tryz.f148) [(250, ar h_42_250 C250)] 128158 (ar h_42_128158 (M_42_128158 K C250 n)) :=
 loopF (xk_42 K) (e_42_128158 K C250) (fun n => (cuts_cons (k_42_2050532 K C250 (M_42_128158 K C250 n)) cuts_nil)) n
theorem k_42_8009 (K : Nat) (C250 : CT h_42_250 s_42) : CF [.tmp 2] s_42 148 [4073, 8009, 2050532] (bd Tryz.f148) [(250, ar h_42_250 C250)] 8009 (ar h_42_8009 (M_42_8009 K C250)) :=
 joinF (xk_42 K) (e_42_8009 K C250) (cuts_cons (k_42_128158 K C250 K) cuts_nil)
theorem k_42_4073 (K : Nat) (C1018 : CT h_42_1018 s_42) : CF [.tmp 2] s_42 148 [4073, 8009, 2050532] (bd Tryz.f148) [(1018, ar h_42_1018 C1018)] 4073 (ar h_42_4073 (M_42_4073 K C1018)) :=
 joinF (xk_42 K) (e_42_4073 K C1018) cuts_nil
theorem k_42_2042 (K : Nat) (n : Nat) : CF [.tmp 2] s_42 148 [4073, 8009, 2050532] (bd Tryz.f148) [] 2042 (ar h_42_2042 (M_42_2042 K n)) :=
 loopF (xk_42 K) (e_42_2042 K) (fun n => cuts_nil) n
theorem k_42_1018 (K : Nat) (n : Nat) : CF [.tmp 2] s_42 148 [4073, 8009, 2050532] (bd Tryz.f148) [] 1018 (ar h_42_1018 (M_42_1018 K n)) :=
 loopF (xk_42 K) (e_42_1018 K) (fun n => (cuts_cons (k_42_4073 K (M_42_1018 K n)) (cuts_cons (cut_up (by kernel_rfl) (k_42_2042 K K)) cuts_nil))) n
theorem k_42_250 (K : Nat) (n : Nat) : CF [.tmp 2] s_42 148 [4073, 8009, 2050532] (bd Tryz.f148) [] 250 (ar h_42_250 (M_42_250 K n)) :=
 loopF (xk_42 K) (e_42_250 K) (fun n => (cuts_cons (k_42_8009 K (M_42_250 K n)) (cuts_cons (cut_up (by kernel_rfl) (k_42_1018 K K)) cuts_nil))) n
theorem sp_42 (K : Nat) : OkF 148 (c_42 K) :=
 ctrF (x := x_42 K) (L := [(250, ar h_42_250 (M_42_250 K K))]) (c0 := bd Tryz.f148) (xk_42 K) (by intro a0; show @Eq _ _ _; kernel_rfl) (cuts_cons (k_42_250 K K) cuts_nil) Tryz.func148 trivial
def l_spec_WasteOk_3 (K : Nat) (a0 : T_impl_Conf) (v8 : List Int) : Nat -> Int -> Option (Bool)
 | 0, _ => none
 | n3 + 1, v12 => (bif (decide (v12 < (v8.length : Int))) then (if (0 : Int) ≤ v12 ∧ v12 < (v8.length : Int) then ((m_spec_l1In K (gt v8 v12) 0 (iSub .i64 a0.fChunks 1)).bind fun r13 => (bif r13 then (if (0 : Int) ≤ 0 ∧ 0 ≤ v12 ∧ v12 ≤ (v8.length : Int) then (if (0 : Int) ≤ v12 ∧ v12 < (v8.length : Int) then ((m_spec_l7Has K ((v8.drop (0 : Int).toNat).take (v12 - 0).toNat) (gt v8 v12)).bind fun r14 => (bif r14 then some false else (l_spec_WasteOk_3 K a0 v8 n3 (iAdd .i64 v12 1)))) else none) else none) else some false)) else none) else some true)
def l_spec_WasteOk_2 (K : Nat) (a0 : T_impl_Conf) (v7 : List Int) (v8 : List Int) : Nat -> Int -> Option (Bool)
 | 0, _ => none
 | n2 + 1, v10 => (bif (decide (v10 < (v7.length : Int))) then (if (0 : Int) ≤ v10 ∧ v10 < (v7.length : Int) then ((m_spec_l1In K (gt v7 v10) 0 255).bind fun r11 => (bif (!r11) then some false else (l_spec_WasteOk_2 K a0 v7 v8 n2 (iAdd .i64 v10 1)))) else none) else (l_spec_WasteOk_3 K a0 v8 K 0))
def j_spec_WasteOk_1 (K : Nat) (a0 : T_impl_Conf) (v5 : Int) (v6 : Int) (v7 : List Int) (v8 : List Int) (v9 : Int) : Option (Bool) := (l_spec_WasteOk_2 K a0 v7 v8 K 0)
def m_spec_WasteOk (K : Nat) (a0 : T_impl_Conf) (a1 : T_impl_Waste) : Option (Bool) := ((m_spec_ConfOk K a0).bind fun r1 => (bif r1 then ((m_spec_l1In K a1.fSlot 0 a0.fSlots).bind fun r2 => (bif r2 then ((m_spec_l1In K a1.fFirst 0 a0.fSlots).bind fun r3 => (bif r3 then (bif (decide ((a1.fTags.length : Int) > 6)) then some false else ((m_spec_l1In K a1.fDone 0 (iSub .i64 a0.fSize 1)).bind fun r4 => (bif r4 then (bif ((a1.fChunks.length : Int) == 0) then (bif (a1.fDone != 0) then some false else (j_spec_WasteOk_1 K a0 a1.fSlot a1.fFirst a1.fTags a1.fChunks a1.fDone)) else (j_spec_WasteOk_1 K a0 a1.fSlot a1.fFirst a1.fTags a1.fChunks a1.fDone)) else some false))) else some false)) else some false)) else some false))
def s_43 : Sig := ⟨[.v 25, .v 159], [.v 4], true⟩
def c_43 (K : Nat) : Ctr tyU := ⟨s_43, m_spec_WasteOk K⟩
def x_43 (K : Nat) := xF s_43 [(84, c_26 K), (210, c_27 K), (218, c_39 K)] [] 95 [8, 9, 10, 15, 16, 17, 18, 23, 24, 25, 26, 30, 31, 32, 38, 39, 40, 41, 45, 46, 81, 82, 83] [] [] [3] [.tmp 4]
def h_43_122 : Shape := ⟨[(2, .p 102), (3, .p 103), (6, .v 2)], [(103, .box [.v 2, .v 2, .v 26, .v 26, .v 2]), (102, .st 25 true)]⟩
def h_43_58 : Shape := ⟨[(2, .p 102), (3, .p 103), (5, .v 2)], [(103, .box [.v 2, .v 2, .v 26, .v 26, .v 2]), (102, .st 25 true)]⟩
def h_43_3 : Shape := ⟨[(2, .p 102), (3, .p 103)], [(103, .box [.v 2, .v 2, .v 26, .v 26, .v 2]), (102, .st 25 true)]⟩
def M_43_122 (K : Nat) (n : Nat) (q : PT h_43_122) : Rt s_43 := l_spec_WasteOk_3 K q.2.2.2.2.2.2.1 q.2.2.2.2.1 n q.1
def M_43_58 (K : Nat) (n : Nat) (q : PT h_43_58) : Rt s_43 := l_spec_WasteOk_2 K q.2.2.2.2.2.2.1 q.2.2.2.1 q.2.2.2.2.1 n q.1
def M_43_3 (K : Nat) (q : PT h_43_3) : Rt s_43 := j_spec_WasteOk_1 K q.2.2.2.2.2.1 q.1 q.2.1 q.2.2.1 q.2.2.2.1 q.2.2.2.2.1
theorem e_43_122 (K : Nat) : AtL (x_43 K) (fun n => []) [] (bd Tryz.f220) 122 (M_43_122 K) := fun n q => by kernel_rfl
theorem e_43_58 (K : Nat) : AtL (x_43 K) (fun n => [(122, ar h_43_122 (M_43_122 K K))]) [] (bd Tryz.f220) 58 (M_43_58 K) := fun n q => by kernel_rfl
theorem e_43_3 (K : Nat) : AtJ (x_43 K) [(58, ar h_43_58 (M_43_58 K K))] [] (bd Tryz.f220) 3 (M_43_3 K) := fun q => by kernel_rfl
theorem xk_43 (K : Nat) : XF [.tmp 4] s_43 95 [3] (x_43 K) := xkF (gam_cons (sp_26 K) (gam_cons (sp_27 K) (gam_cons (sp_39 K) gam_nil))) ov_nil
theorem k_43_122 (K : Nat) (n : Nat) : CF [.tmp 4] s_43 95 [3] (bd Tryz.f220) [] 122 (ar h_43_122 (M_43_122 K n)) :=
 loopF (xk_43 K) (e_43_122 K) (fun n => cuts_nil) n
theorem k_43_58 (K : Nat) (n : Nat) : CF [.tmp 4] s_43 95 [3] (bd Tryz.f220) [] 58 (ar h_43_58 (M_43_58 K n)) :=
 loopF (xk_43 K) (e_43_58 K) (fun n => (cuts_cons (cut_up (by kernel_rfl) (k_43_122 K K)) cuts_nil)) n
theorem k_43_3 (K : Nat) : CF [.tmp 4] s_43 95 [3] (bd Tryz.f220) [] 3 (ar h_43_3 (M_43_3 K)) :=
 joinF (xk_43 K) (e_43_3 K) (cuts_cons (k_43_58 K K) cuts_nil)
theorem sp_43 (K : Nat) : OkF 220 (c_43 K) :=
 ctrF (x := x_43 K) (L := [(3, ar h_43_3 (M_43_3 K))]) (c0 := bd Tryz.f220) (xk_43 K) (by intro a0 a1; show @Eq _ _ _; kernel_rfl) (cuts_cons (k_43_3 K) cuts_nil) Tryz.func220 trivial
def l_spec_l13Waste_4 (K : Nat) (v17 : List T_impl_Node) (r21 : (List Int)) : Nat -> Int -> Option (Bool)
 | 0, _ => none
 | n4 + 1, v22 => (bif (decide (v22 < (r21.length : Int))) then (if (0 : Int) ≤ v22 ∧ v22 < (r21.length : Int) then ((m_spec_l13Orphan K v17 (gt r21 v22)).bind fun r23 => (bif (!r23) then some false else (l_spec_l13Waste_4 K v17 r21 n4 (iAdd .i64 v22 1)))) else none) else some true)
def j_spec_l13Waste_3 (K : Nat) (v4 : Int) (v17 : List T_impl_Node) : Option (Bool) := ((m_spec_KidsOf K v17 v4).bind fun r21 => (l_spec_l13Waste_4 K v17 r21 K 0))
def j_spec_l13Waste_2 (K : Nat) (v3 : Int) (v4 : Int) (v17 : List T_impl_Node) : Option (Bool) := (bif (v3 != 0) then (if (0 : Int) ≤ (iSub .i64 v3 1) ∧ (iSub .i64 v3 1) < (v17.length : Int) then (bif (((gt v17 (iSub .i64 v3 1)).fSt) != 2) then some false else (bif (v4 != 0) then (if (0 : Int) ≤ (iSub .i64 v4 1) ∧ (iSub .i64 v4 1) < (v17.length : Int) then (bif (((gt v17 (iSub .i64 v4 1)).fPrev) != 0) then some false else (j_spec_l13Waste_3 K v4 v17)) else none) else (j_spec_l13Waste_3 K v4 v17))) else none) else (bif (v4 != 0) then (if (0 : Int) ≤ (iSub .i64 v4 1) ∧ (iSub .i64 v4 1) < (v17.length : Int) then (bif (((gt v17 (iSub .i64 v4 1)).fPrev) != 0) then some false else (j_spec_l13Waste_3 K v4 v17)) else none) else (j_spec_l13Waste_3 K v4 v17)))
def l_spec_l13Waste_1 (K : Nat) : Nat -> Int -> Int -> Int -> (List Int) -> (List Int) -> Int -> Int -> Int -> Int -> Int -> Int -> Int -> (List Int) -> (List Int) -> (List Int) -> (List T_impl_Node) -> (List T_impl_Waste) -> (List Int) -> Option (Bool)
 | 0, _, _, _, _, _, _, _, _, _, _, _, _, _, _, _, _, _, _ => none
 | n1 + 1, v2, v3, v4, v5, v6, v7, v8, v9, v10, v11, v12, v13, v14, v15, v16, v17, v18, v19 => (bif (decide (v2 < (v6.length : Int))) then (if (0 : Int) ≤ v2 ∧ v2 < (v6.length : Int) then (if (0 : Int) ≤ (gt v6 v2) ∧ (gt v6 v2) < (v15.length : Int) then (bif ((gt v15 (gt v6 v2)) != 2) then some false else (l_spec_l13Waste_1 K n1 (iAdd .i64 v2 1) v3 v4 v5 v6 v7 v8 v9 v10 v11 v12 v13 v14 v15 v16 v17 v18 v19)) else none) else none) else (bif (decide ((v6.length : Int) > 0)) then (if (0 : Int) ≤ 0 ∧ 0 < (v6.length : Int) then (if (0 : Int) ≤ 0 ∧ 0 < (v6.length : Int) then (if (0 : Int) ≤ (iMul .i64 (gt v6 0) v9) ∧ (iMul .i64 (gt v6 0) v9) ≤ (iAdd .i64 (iMul .i64 (gt v6 0) v9) v7) ∧ (iAdd .i64 (iMul .i64 (gt v6 0) v9) v7) ≤ (v14.length : Int) then ((m_spec_IsZero K ((v14.drop (iMul .i64 (gt v6 0) v9).toNat).take ((iAdd .i64 (iMul .i64 (gt v6 0) v9) v7) - (iMul .i64 (gt v6 0) v9)).toNat)).bind fun r20 => (bif (!r20) then some false else (j_spec_l13Waste_2 K v3 v4 v17))) else none) else none) else none) else (j_spec_l13Waste_2 K v3 v4 v17)))
def m_spec_l13Waste (K : Nat) (a0 : T_impl_World) (a1 : Int) : Option (Bool) := (if (0 : Int) ≤ a1 ∧ a1 < (a0.fQ.length : Int) then ((m_spec_WasteOk K a0.fC (gt a0.fQ a1)).bind fun r1 => (bif (!r1) then some false else (l_spec_l13Waste_1 K K 0 ((gt a0.fQ a1).fSlot) ((gt a0.fQ a1).fFirst) ((gt a0.fQ a1).fTags) ((gt a0.fQ a1).fChunks) ((gt a0.fQ a1).fDone) a0.fC.fChunks a0.fC.fSize a0.fC.fSlots a0.fC.fTax a0.fC.fSlice a0.fC.fGens a0.fP.fMem a0.fP.fSt a0.fP.fOwn a0.fL a0.fQ a0.fLog))) else none)
def s_44 : Sig := ⟨[.v 32, .v 3], [.v 4], true⟩
def c_44 (K : Nat) : Ctr tyU := ⟨s_44, m_spec_l13Waste K⟩
def x_44 (K : Nat) := xF s_44 [(202, c_41 K), (212, c_29 K), (220, c_43 K), (221, c_40 K)] [] 117 [40, 41, 70, 71, 80, 81, 82, 85, 86] [] [] [31, 63] [.tmp 4]
def h_44_2042 : Shape := ⟨[(2, .p 102), (7, .v 26), (8, .v 2)], [(102, .box [.v 2, .v 2, .v 2, .v 2, .v 2, .v 2, .v 22, .v 26, .v 26, .v 29, .v 30, .v 26])]⟩
def h_44_63 : Shape := ⟨[(2, .p 102), (5, .p 105)], [(105, .box [.v 2, .v 2, .v 26, .v 26, .v 2]), (102, .box [.v 2, .v 2, .v 2, .v 2, .v 2, .v 2, .v 22, .v 26, .v 26, .v 29, .v 30, .v 26])]⟩
def h_44_31 : Shape := ⟨[(2, .p 102), (5, .p 105)], [(105, .box [.v 2, .v 2, .v 26, .v 26, .v 2]), (102, .box [.v 2, .v 2, .v 2, .v 2, .v 2, .v 2, .v 22, .v 26, .v 26, .v 29, .v 30, .v 26])]⟩
def h_44_122 : Shape := ⟨[(2, .p 102), (5, .p 105), (6, .v 2)], [(105, .box [.v 2, .v 2, .v 26, .v 26, .v 2]), (102, .box [.v 2, .v 2, .v 2, .v 2, .v 2, .v 2, .v 22, .v 26, .v 26, .v 29, .v 30, .v 26])]⟩
def M_44_2042 (K : Nat) (n : Nat) (q : PT h_44_2042) : Rt s_44 := l_spec_l13Waste_4 K q.2.2.2.2.2.2.2.2.2.2.2.1 q.1 n q.2.1
def M_44_63 (K : Nat) (q : PT h_44_63) : Rt s_44 := j_spec_l13Waste_3 K q.2.1 q.2.2.2.2.2.2.2.2.2.2.2.2.2.2.1
def M_44_31 (K : Nat) (q : PT h_44_31) : Rt s_44 := j_spec_l13Waste_2 K q.1 q.2.1 q.2.2.2.2.2.2.2.2.2.2.2.2.2.2.1
def M_44_122 (K : Nat) (n : Nat) (q : PT h_44_122) : Rt s_44 := l_spec_l13Waste_1 K n q.1 q.2.1 q.2.2.1 q.2.2.2.1 q.2.2.2.2.1 q.2.2.2.2.2.1 q.2.2.2.2.2.2.1 q.2.2.2.2.2.2.2.1 q.2.2.2.2.2.2.2.2.1 q.2.2.2.2.2.2.2.2.2.1 q.2.2.2.2.2.2.2.2.2.2.1 q.2.2.2.2.2.2.2.2.2.2.2.1 q.2.2.2.2.2.2.2.2.2.2.2.2.1 q.2.2.2.2.2.2.2.2.2.2.2.2.2.1 q.2.2.2.2.2.2.2.2.2.2.2.2.2.2.1 q.2.2.2.2.2.2.2.2.2.2.2.2.2.2.2.1 q.2.2.2.2.2.2.2.2.2.2.2.2.2.2.2.2.1 q.2.2.2.2.2.2.2.2.2.2.2.2.2.2.2.2.2.1
theorem e_44_2042 (K : Nat) : AtL (x_44 K) (fun n => []) [] (bd Tryz.f147) 2042 (M_44_2042 K) := fun n q => by kernel_rfl
theorem e_44_63 (K : Nat) : AtJ (x_44 K) [(2042, ar h_44_2042 (M_44_2042 K K))] [] (bd Tryz.f147) 63 (M_44_63 K) := fun q => by kernel_rfl
theorem e_44_31 (K : Nat) : AtJ (x_44 K) [(63, ar h_44_63 (M_44_63 K))] [] (bd Tryz.f147) 31 (M_44_31 K) := fun q => by kernel_rfl
theorem e_44_122 (K : Nat) : AtL (x_44 K) (fun n => [(31, ar h_44_31 (M_44_31 K))]) [] (bd Tryz.f147) 122 (M_44_122 K) := fun n q => by kernel_rfl
theorem xk_44 (K : Nat) : XF [.tmp 4] s_44 117 [31, 63] (x_44 K) := xkF (gam_cons (sp_41 K) (gam_cons (sp_29 K) (gam_cons (sp_43 K) (gam_cons (sp_40 K) gam_nil)))) ov_nil
theorem k_44_2042 (K : Nat) (n : Nat) : CF [.tmp 4] s_44 117 [31, 63] (bd Tryz.f147) [] 2042 (ar h_44_2042 (M_44_2042 K n)) :=
 loopF (xk_44 K) (e_44_2042 K) (fun n => cuts_nil) n
theorem k_44_63 (K : Nat) : CF [.tmp 4] s_44 117 [31, 63] (bd Tryz.f147) [] 63 (ar h_44_63 (M_44_63 K)) :=
 joinF (xk_44 K) (e_44_63 K) (cuts_cons (k_44_2042 K K) cuts_nil)
theorem k_44_31 (K : Nat) : CF [.tmp 4] s_44 117 [31, 63] (bd Tryz.f147) [] 31 (ar h_44_31 (M_44_31 K)) :=
 joinF (xk_44 K) (e_44_31 K) (cuts_cons (k_44_63 K) cuts_nil)
theorem k_44_122 (K : Nat) (n : Nat) : CF [.tmp 4] s_44 117 [31, 63] (bd Tryz.f147) [] 122 (ar h_44_122 (M_44_122 K n)) :=
 loopF (xk_44 K) (e_44_122 K) (fun n => (cuts_cons (cut_up (by kernel_rfl) (k_44_31 K)) cuts_nil)) n
theorem sp_44 (K : Nat) : OkF 147 (c_44 K) :=
 ctrF (x := x_44 K) (L := [(122, ar h_44_122 (M_44_122 K K))]) (c0 := bd Tryz.f147) (xk_44 K) (by intro a0 a1; show @Eq _ _ _; kernel_rfl) (cuts_cons (k_44_122 K K) cuts_nil) Tryz.func147 trivial
def m_spec_Bare (K : Nat) (a0 : T_impl_Node) : Option (Bool) := (bif (a0.fEp == 0) then (bif (a0.fUp == 0) then (bif (a0.fUpEp == 0) then (bif (a0.fFirst == 0) then (bif (a0.fNext == 0) then (bif (a0.fPrev == 0) then (bif ((a0.fChunks.length : Int) == 0) then (bif (a0.fCur == 0) then (bif (a0.fBump == 0) then (bif ((a0.fThings.length : Int) == 0) then some ((a0.fTags.length : Int) == 0) else some false) else some false) else some false) else some false) else some false) else some false) else some false) else some false) else some false) else some false)
def s_45 : Sig := ⟨[.v 44], [.v 4], true⟩
def c_45 (K : Nat) : Ctr tyU := ⟨s_45, m_spec_Bare K⟩
def x_45 (K : Nat) := xF s_45 [] [] 59 [5, 6, 9, 10, 11, 14, 15, 16, 19, 20, 21, 24, 25, 26, 29, 30, 31, 35, 36, 37, 40, 41, 42, 45, 46, 47, 51, 52, 53] [] [] [] [.tmp 2]
theorem sp_45 (K : Nat) : OkF 214 (c_45 K) :=
 ctrF (x := x_45 K) (L := []) (c0 := bd Tryz.f214) (xkF gam_nil ov_nil) (by intro a0; show @Eq _ _ _; kernel_rfl) cuts_nil Tryz.func214 trivial
def l_spec_l7Chunks_1 (K : Nat) (a0 : T_impl_Conf) : Nat -> Int -> Int -> Int -> Int -> Int -> Int -> Int -> Int -> Int -> (List Int) -> Int -> Int -> (List T_impl_Thing) -> (List Int) -> Option (Bool)
 | 0, _, _, _, _, _, _, _, _, _, _, _, _, _, _ => none
 | n1 + 1, v1, v2, v3, v4, v5, v6, v7, v8, v9, v10, v11, v12, v13, v14 => (bif (decide (v1 < (v10.length : Int))) then (if (0 : Int) ≤ v1 ∧ v1 < (v10.length : Int) then ((m_spec_l1In K (gt v10 v1) 0 (iSub .i64 a0.fChunks 1)).bind fun r15 => (bif r15 then (if (0 : Int) ≤ 0 ∧ 0 ≤ v1 ∧ v1 ≤ (v10.length : Int) then (if (0 : Int) ≤ v1 ∧ v1 < (v10.length : Int) then ((m_spec_l7Has K ((v10.drop (0 : Int).toNat).take (v1 - 0).toNat) (gt v10 v1)).bind fun r16 => (bif r16 then some false else (l_spec_l7Chunks_1 K a0 n1 (iAdd .i64 v1 1) v2 v3 v4 v5 v6 v7 v8 v9 v10 v11 v12 v13 v14))) else none) else none) else some false)) else none) else (bif (v11 == 0) then some (v12 == 0) else ((m_spec_l7Has K v10 (iSub .i64 v11 1)).bind fun r17 => (bif r17 then ((m_spec_l1In K v12 0 a0.fSize).bind fun r18 => some r18) else some false))))
def m_spec_l7Chunks (K : Nat) (a0 : T_impl_Conf) (a1 : T_impl_Node) : Option (Bool) := (l_spec_l7Chunks_1 K a0 K 0 a1.fSt a1.fGen a1.fEp a1.fUp a1.fUpEp a1.fFirst a1.fNext a1.fPrev a1.fChunks a1.fCur a1.fBump a1.fThings a1.fTags)
def s_46 : Sig := ⟨[.v 25, .v 44], [.v 4], true⟩
def c_46 (K : Nat) : Ctr tyU := ⟨s_46, m_spec_l7Chunks K⟩
def x_46 (K : Nat) := xF s_46 [(84, c_26 K), (218, c_39 K)] [] 54 [21, 22, 23, 46, 47] [] [] [] [.tmp 4]
def h_46_26 : Shape := ⟨[(2, .p 102), (3, .p 103), (5, .v 2)], [(103, .box [.v 2, .v 2, .v 2, .v 2, .v 2, .v 2, .v 2, .v 2, .v 26, .v 2, .v 2, .v 41, .v 26]), (102, .st 25 true)]⟩
def M_46_26 (K : Nat) (n : Nat) (q : PT h_46_26) : Rt s_46 := l_spec_l7Chunks_1 K q.2.2.2.2.2.2.2.2.2.2.2.2.2.2.1 n q.1 q.2.1 q.2.2.1 q.2.2.2.1 q.2.2.2.2.1 q.2.2.2.2.2.1 q.2.2.2.2.2.2.1 q.2.2.2.2.2.2.2.1 q.2.2.2.2.2.2.2.2.1 q.2.2.2.2.2.2.2.2.2.1 q.2.2.2.2.2.2.2.2.2.2.1 q.2.2.2.2.2.2.2.2.2.2.2.1 q.2.2.2.2.2.2.2.2.2.2.2.2.1 q.2.2.2.2.2.2.2.2.2.2.2.2.2.1
theorem e_46_26 (K : Nat) : AtL (x_46 K) (fun n => []) [] (bd Tryz.f215) 26 (M_46_26 K) := fun n q => by kernel_rfl
theorem xk_46 (K : Nat) : XF [.tmp 4] s_46 54 [] (x_46 K) := xkF (gam_cons (sp_26 K) (gam_cons (sp_39 K) gam_nil)) ov_nil
theorem k_46_26 (K : Nat) (n : Nat) : CF [.tmp 4] s_46 54 [] (bd Tryz.f215) [] 26 (ar h_46_26 (M_46_26 K n)) :=
 loopF (xk_46 K) (e_46_26 K) (fun n => cuts_nil) n
theorem sp_46 (K : Nat) : OkF 215 (c_46 K) :=
 ctrF (x := x_46 K) (L := [(26, ar h_46_26 (M_46_26 K K))]) (c0 := bd Tryz.f215) (xk_46 K) (by intro a0 a1; show @Eq _ _ _; kernel_rfl) (cuts_cons (k_46_26 K K) cuts_nil) Tryz.func215 trivial
def m_spec_IsLarge (K : Nat) (a0 : T_impl_Conf) (a1 : Int) : Option (Bool) := some (decide (a1 > a0.fSize))
def s_47 : Sig := ⟨[.v 25, .v 3], [.v 4], true⟩
def c_47 (K : Nat) : Ctr tyU := ⟨s_47, m_spec_IsLarge K⟩
def x_47 (K : Nat) := xF s_47 [] [] 9 [] [] [] [] [.tmp 4]
theorem sp_47 (K : Nat) : OkF 265 (c_47 K) :=
 ctrF (x := x_47 K) (L := []) (c0 := bd Tryz.f265) (xkF gam_nil ov_nil) (by intro a0 a1; show @Eq _ _ _; kernel_rfl) cuts_nil Tryz.func265 trivial
def m_spec_CeilDiv (K : Nat) (a0 : Int) (a1 : Int) : Option (Int) := ((m_spec_l1In K a0 0 1000000000).bind fun r1 => (bif r1 then ((m_spec_l1In K a1 1 1000000000).bind fun r2 => (bif (!r2) then some 0 else (if a1 ≠ (0 : Int) then some (iQuo .i64 (iSub .i64 (iAdd .i64 a0 a1) 1) a1) else none))) else some 0))
def s_48 : Sig := ⟨[.v 3, .v 3], [.v 3], true⟩
def c_48 (K : Nat) : Ctr tyU := ⟨s_48, m_spec_CeilDiv K⟩
def x_48 (K : Nat) := xF s_48 [(84, c_26 K)] [] 19 [6, 7, 8] [] [] [] [.tmp 4]
theorem sp_48 (K : Nat) : OkF 296 (c_48 K) :=
 ctrF (x := x_48 K) (L := []) (c0 := bd Tryz.f296) (xkF (gam_cons (sp_26 K) gam_nil) ov_nil) (by intro a0 a1; show @Eq _ _ _; kernel_rfl) cuts_nil Tryz.func296 trivial
def m_spec_ChunksFor (K : Nat) (a0 : T_impl_Conf) (a1 : Int) : Option (Int) := ((m_spec_CeilDiv K a1 a0.fSize).bind fun r1 => some r1)
def s_49 : Sig := ⟨[.v 25, .v 3], [.v 3], true⟩
def c_49 (K : Nat) : Ctr tyU := ⟨s_49, m_spec_ChunksFor K⟩
def x_49 (K : Nat) := xF s_49 [(296, c_48 K)] [] 9 [] [] [] [] [.tmp 4]
theorem sp_49 (K : Nat) : OkF 266 (c_49 K) :=
 ctrF (x := x_49 K) (L := []) (c0 := bd Tryz.f266) (xkF (gam_cons (sp_48 K) gam_nil) ov_nil) (by intro a0 a1; show @Eq _ _ _; kernel_rfl) cuts_nil Tryz.func266 trivial
def m_spec_ThingOk (K : Nat) (a0 : T_impl_Conf) (a1 : T_impl_Thing) : Option (Bool) := ((m_spec_BytesOf K a0).bind fun r1 => (bif (r1 == 0) then some false else (bif (decide (a1.fLen < 1)) then some false else (bif (decide (a1.fAt < 0)) then some false else (bif (decide (a1.fAt > r1)) then some false else (bif (decide (a1.fLen > (iSub .i64 r1 a1.fAt))) then some false else (bif (a1.fRun == 0) then (bif (decide (a1.fLen ≤ a0.fSize)) then (if a0.fSize ≠ (0 : Int) then (if a0.fSize ≠ (0 : Int) then some ((iQuo .i64 a1.fAt a0.fSize) == (iQuo .i64 (iSub .i64 (iAdd .i64 a1.fAt a1.fLen) 1) a0.fSize)) else none) else none) else some false) else ((m_spec_IsLarge K a0 a1.fLen).bind fun r2 => (bif r2 then ((m_spec_ChunksFor K a0 a1.fLen).bind fun r3 => (bif (a1.fRun == r3) then (if a0.fSize ≠ (0 : Int) then some ((Int.tmod a1.fAt a0.fSize) == 0) else none) else some false)) else some false)))))))))
def s_50 : Sig := ⟨[.v 25, .v 89], [.v 4], true⟩
def c_50 (K : Nat) : Ctr tyU := ⟨s_50, m_spec_ThingOk K⟩
def x_50 (K : Nat) := xF s_50 [(211, c_28 K), (265, c_47 K), (266, c_49 K)] [] 81 [9, 10, 13, 14, 15, 18, 19, 20, 24, 25, 26, 42, 43, 63, 64, 71, 72, 73] [] [] [] [.tmp 4]
theorem sp_50 (K : Nat) : OkF 216 (c_50 K) :=
 ctrF (x := x_50 K) (L := []) (c0 := bd Tryz.f216) (xkF (gam_cons (sp_28 K) (gam_cons (sp_47 K) (gam_cons (sp_49 K) gam_nil))) ov_nil) (by intro a0 a1; show @Eq _ _ _; kernel_rfl) cuts_nil Tryz.func216 trivial
def l_spec_NodeOk_2 (K : Nat) (v23 : List Int) : Nat -> Int -> Option (Bool)
 | 0, _ => none
 | n2 + 1, v25 => (bif (decide (v25 < (v23.length : Int))) then (if (0 : Int) ≤ v25 ∧ v25 < (v23.length : Int) then ((m_spec_l1In K (gt v23 v25) 0 255).bind fun r26 => (bif (!r26) then some false else (l_spec_NodeOk_2 K v23 n2 (iAdd .i64 v25 1)))) else none) else some true)
def l_spec_NodeOk_1 (K : Nat) (a0 : T_impl_Conf) : Nat -> Int -> Int -> Int -> Int -> Int -> Int -> Int -> Int -> Int -> (List Int) -> Int -> Int -> (List T_impl_Thing) -> (List Int) -> Option (Bool)
 | 0, _, _, _, _, _, _, _, _, _, _, _, _, _, _ => none
 | n1 + 1, v10, v11, v12, v13, v14, v15, v16, v17, v18, v19, v20, v21, v22, v23 => (bif (decide (v10 < (v22.length : Int))) then (if (0 : Int) ≤ v10 ∧ v10 < (v22.length : Int) then ((m_spec_ThingOk K a0 (gt v22 v10)).bind fun r24 => (bif (!r24) then some false else (l_spec_NodeOk_1 K a0 n1 (iAdd .i64 v10 1) v11 v12 v13 v14 v15 v16 v17 v18 v19 v20 v21 v22 v23))) else none) else (l_spec_NodeOk_2 K v23 K 0))
def m_spec_NodeOk (K : Nat) (a0 : T_impl_Conf) (a1 : T_impl_Node) : Option (Bool) := ((m_spec_ConfOk K a0).bind fun r1 => (bif r1 then ((m_spec_l1In K a1.fSt 0 3).bind fun r2 => (bif r2 then ((m_spec_l1In K a1.fGen 1 a0.fGens).bind fun r3 => (bif (!r3) then some false else (bif (a1.fSt != 1) then ((m_spec_Bare K a1).bind fun r4 => some r4) else (bif (decide (a1.fEp < 0)) then some false else (bif (decide (a1.fUpEp < 0)) then some false else ((m_spec_l1In K a1.fUp 0 a0.fSlots).bind fun r5 => (bif r5 then ((m_spec_l1In K a1.fFirst 0 a0.fSlots).bind fun r6 => (bif r6 then ((m_spec_l1In K a1.fNext 0 a0.fSlots).bind fun r7 => (bif r7 then ((m_spec_l1In K a1.fPrev 0 a0.fSlots).bind fun r8 => (bif r8 then ((m_spec_l7Chunks K a0 a1).bind fun r9 => (bif r9 then (bif (decide ((a1.fThings.length : Int) > 12)) then some false else (bif (decide ((a1.fTags.length : Int) > 6)) then some false else (l_spec_NodeOk_1 K a0 K 0 a1.fSt a1.fGen a1.fEp a1.fUp a1.fUpEp a1.fFirst a1.fNext a1.fPrev a1.fChunks a1.fCur a1.fBump a1.fThings a1.fTags))) else some false)) else some false)) else some false)) else some false)) else some false))))))) else some false)) else some false))
def s_51 : Sig := ⟨[.v 25, .v 44], [.v 4], true⟩
def c_51 (K : Nat) : Ctr tyU := ⟨s_51, m_spec_NodeOk K⟩
def x_51 (K : Nat) := xF s_51 [(84, c_26 K), (210, c_27 K), (214, c_45 K), (215, c_46 K), (216, c_50 K)] [] 116 [8, 9, 10, 13, 14, 15, 16, 31, 32, 35, 36, 37, 42, 43, 44, 45, 50, 51, 52, 53, 58, 59, 60, 61, 66, 67, 68, 69, 72, 73, 74, 75, 79, 80, 81] [] [] [] [.tmp 4]
def h_51_506 : Shape := ⟨[(3, .p 103), (6, .v 2)], [(103, .box [.v 2, .v 2, .v 2, .v 2, .v 2, .v 2, .v 2, .v 2, .v 26, .v 2, .v 2, .v 41, .v 26])]⟩
def h_51_250 : Shape := ⟨[(2, .p 102), (3, .p 103), (5, .v 2)], [(103, .box [.v 2, .v 2, .v 2, .v 2, .v 2, .v 2, .v 2, .v 2, .v 26, .v 2, .v 2, .v 41, .v 26]), (102, .st 25 true)]⟩
def M_51_506 (K : Nat) (n : Nat) (q : PT h_51_506) : Rt s_51 := l_spec_NodeOk_2 K q.2.2.2.2.2.2.2.2.2.2.2.2.2.1 n q.1
def M_51_250 (K : Nat) (n : Nat) (q : PT h_51_250) : Rt s_51 := l_spec_NodeOk_1 K q.2.2.2.2.2.2.2.2.2.2.2.2.2.2.1 n q.1 q.2.1 q.2.2.1 q.2.2.2.1 q.2.2.2.2.1 q.2.2.2.2.2.1 q.2.2.2.2.2.2.1 q.2.2.2.2.2.2.2.1 q.2.2.2.2.2.2.2.2.1 q.2.2.2.2.2.2.2.2.2.1 q.2.2.2.2.2.2.2.2.2.2.1 q.2.2.2.2.2.2.2.2.2.2.2.1 q.2.2.2.2.2.2.2.2.2.2.2.2.1 q.2.2.2.2.2.2.2.2.2.2.2.2.2.1
theorem e_51_506 (K : Nat) : AtL (x_51 K) (fun n => []) [] (bd Tryz.f142) 506 (M_51_506 K) := fun n q => by kernel_rfl
theorem e_51_250 (K : Nat) : AtL (x_51 K) (fun n => [(506, ar h_51_506 (M_51_506 K K))]) [] (bd Tryz.f142) 250 (M_51_250 K) := fun n q => by kernel_rfl
theorem xk_51 (K : Nat) : XF [.tmp 4] s_51 116 [] (x_51 K) := xkF (gam_cons (sp_26 K) (gam_cons (sp_27 K) (gam_cons (sp_45 K) (gam_cons (sp_46 K) (gam_cons (sp_50 K) gam_nil))))) ov_nil
theorem k_51_506 (K : Nat) (n : Nat) : CF [.tmp 4] s_51 116 [] (bd Tryz.f142) [] 506 (ar h_51_506 (M_51_506 K n)) :=
 loopF (xk_51 K) (e_51_506 K) (fun n => cuts_nil) n
theorem k_51_250 (K : Nat) (n : Nat) : CF [.tmp 4] s_51 116 [] (bd Tryz.f142) [] 250 (ar h_51_250 (M_51_250 K n)) :=
 loopF (xk_51 K) (e_51_250 K) (fun n => (cuts_cons (cut_up (by kernel_rfl) (k_51_506 K K)) cuts_nil)) n
theorem sp_51 (K : Nat) : OkF 142 (c_51 K) :=
 ctrF (x := x_51 K) (L := [(250, ar h_51_250 (M_51_250 K K))]) (c0 := bd Tryz.f142) (xk_51 K) (by intro a0 a1; show @Eq _ _ _; kernel_rfl) (cuts_cons (k_51_250 K K) cuts_nil) Tryz.func142 trivial
def j_spec_OwnedBy_2 (K : Nat) (v2 : Int) (v3 : List Int) (v4 : List Int) (v5 : List Int) (C1 : (List Int) -> Int -> (List Int) -> (List Int) -> (List Int) -> Option ((List Int))) (v6 : List Int) : Option ((List Int)) := (C1 v6 (iAdd .i64 v2 1) v3 v4 v5)
def l_spec_OwnedBy_1 (K : Nat) (a1 : Int) : Nat -> (List Int) -> Int -> (List Int) -> (List Int) -> (List Int) -> Option ((List Int))
 | 0, _, _, _, _, _ => none
 | n1 + 1, v1, v2, v3, v4, v5 => (bif (decide (v2 < (v4.length : Int))) then (bif (decide (v2 < (v5.length : Int))) then (if (0 : Int) ≤ v2 ∧ v2 < (v4.length : Int) then (bif ((gt v4 v2) == 1) then (if (0 : Int) ≤ v2 ∧ v2 < (v5.length : Int) then (bif ((gt v5 v2) == a1) then (if (v1 ++ ([v2] : List Int)).length * 8 ≤ 140737488355328 ∧ (v1 ++ ([v2] : List Int)).length ≤ maxLen then (j_spec_OwnedBy_2 K v2 v3 v4 v5 (l_spec_OwnedBy_1 K a1 n1) (v1 ++ ([v2] : List Int))) else none) else (j_spec_OwnedBy_2 K v2 v3 v4 v5 (l_spec_OwnedBy_1 K a1 n1) v1)) else none) else (j_spec_OwnedBy_2 K v2 v3 v4 v5 (l_spec_OwnedBy_1 K a1 n1) v1)) else none) else some v1) else some v1)
def m_spec_OwnedBy (K : Nat) (a0 : T_impl_Pool) (a1 : Int) : Option ((List Int)) := (l_spec_OwnedBy_1 K a1 K ([] : List Int) 0 a0.fMem a0.fSt a0.fOwn)
def s_52 : Sig := ⟨[.v 28, .v 3], [.n 26 true], true⟩
def c_52 (K : Nat) : Ctr tyU := ⟨s_52, m_spec_OwnedBy K⟩
def x_52 (K : Nat) := xF s_52 [] [] 42 [12, 13, 27, 28] [] [] [233] [.tmp 4]
def h_52_233 : Shape := ⟨[(1, .v 2), (2, .p 102), (5, .o 1005 3 true), (6, .v 2)], [(102, .box [.v 22, .v 26, .v 26])]⟩
def h_52_58 : Shape := ⟨[(1, .v 2), (2, .p 102), (5, .o 1005 3 true), (6, .v 2)], [(102, .box [.v 22, .v 26, .v 26])]⟩
def M_52_233 (K : Nat) (C58 : CT h_52_58 s_52) (q : PT h_52_233) : Rt s_52 := j_spec_OwnedBy_2 K q.2.2.1 q.2.2.2.1 q.2.2.2.2.1 q.2.2.2.2.2.1 (fun v1 v2 v3 v4 v5 => C58 (q.1, v1, v2, v3, v4, v5, ())) q.2.1
def M_52_58 (K : Nat) (n : Nat) (q : PT h_52_58) : Rt s_52 := l_spec_OwnedBy_1 K q.1 n q.2.1 q.2.2.1 q.2.2.2.1 q.2.2.2.2.1 q.2.2.2.2.2.1
theorem e_52_233 (K : Nat) (C58 : CT h_52_58 s_52) : AtJ (x_52 K) [] [(58, ar h_52_58 C58)] (bd Tryz.f217) 233 (M_52_233 K C58) := fun q => by kernel_rfl
theorem e_52_58 (K : Nat) : AtL (x_52 K) (fun n => [(233, ar h_52_233 (M_52_233 K (M_52_58 K n)))]) [] (bd Tryz.f217) 58 (M_52_58 K) := fun n q => by kernel_rfl
theorem xk_52 (K : Nat) : XF [.tmp 4] s_52 42 [233] (x_52 K) := xkF gam_nil ov_nil
theorem k_52_233 (K : Nat) (C58 : CT h_52_58 s_52) : CF [.tmp 4] s_52 42 [233] (bd Tryz.f217) [(58, ar h_52_58 C58)] 233 (ar h_52_233 (M_52_233 K C58)) :=
 joinF (xk_52 K) (e_52_233 K C58) cuts_nil
theorem k_52_58 (K : Nat) (n : Nat) : CF [.tmp 4] s_52 42 [233] (bd Tryz.f217) [] 58 (ar h_52_58 (M_52_58 K n)) :=
 loopF (xk_52 K) (e_52_58 K) (fun n => (cuts_cons (k_52_233 K (M_52_58 K n)) cuts_nil)) n
theorem sp_52 (K : Nat) : OkF 217 (c_52 K) :=
 ctrF (x := x_52 K) (L := [(58, ar h_52_58 (M_52_58 K K))]) (c0 := bd Tryz.f217) (xk_52 K) (by intro a0 a1; show @Eq _ _ _; kernel_rfl) (cuts_cons (k_52_58 K K) cuts_nil) Tryz.func217 trivial
def l_spec_l13Chunks_1 (K : Nat) (a1 : Int) (r1 : (List Int)) : Nat -> Int -> Int -> Int -> Int -> Int -> Int -> Int -> (List Int) -> (List Int) -> (List Int) -> (List T_impl_Node) -> (List T_impl_Waste) -> (List Int) -> Option (Bool)
 | 0, _, _, _, _, _, _, _, _, _, _, _, _, _ => none
 | n1 + 1, v2, v3, v4, v5, v6, v7, v8, v9, v10, v11, v12, v13, v14 => (bif (decide (v2 < (r1.length : Int))) then (if (0 : Int) ≤ a1 ∧ a1 < (v12.length : Int) then (if (0 : Int) ≤ v2 ∧ v2 < (r1.length : Int) then ((m_spec_l7Has K ((gt v12 a1).fChunks) (gt r1 v2)).bind fun r15 => (bif (!r15) then some false else (l_spec_l13Chunks_1 K a1 r1 n1 (iAdd .i64 v2 1) v3 v4 v5 v6 v7 v8 v9 v10 v11 v12 v13 v14))) else none) else none) else (if (0 : Int) ≤ a1 ∧ a1 < (v12.length : Int) then some ((r1.length : Int) == (((gt v12 a1).fChunks).length : Int)) else none))
def m_spec_l13Chunks (K : Nat) (a0 : T_impl_World) (a1 : Int) : Option (Bool) := ((m_spec_OwnedBy K a0.fP a1).bind fun r1 => (l_spec_l13Chunks_1 K a1 r1 K 0 a0.fC.fChunks a0.fC.fSize a0.fC.fSlots a0.fC.fTax a0.fC.fSlice a0.fC.fGens a0.fP.fMem a0.fP.fSt a0.fP.fOwn a0.fL a0.fQ a0.fLog))
def s_53 : Sig := ⟨[.v 32, .v 3], [.v 4], true⟩
def c_53 (K : Nat) : Ctr tyU := ⟨s_53, m_spec_l13Chunks K⟩
def x_53 (K : Nat) := xF s_53 [(217, c_52 K), (218, c_39 K)] [] 39 [] [] [] [] [.tmp 4]
def h_53_58 : Shape := ⟨[(1, .v 2), (2, .p 102), (5, .v 26), (6, .v 2)], [(102, .box [.v 2, .v 2, .v 2, .v 2, .v 2, .v 2, .v 22, .v 26, .v 26, .v 29, .v 30, .v 26])]⟩
def M_53_58 (K : Nat) (n : Nat) (q : PT h_53_58) : Rt s_53 := l_spec_l13Chunks_1 K q.1 q.2.1 n q.2.2.1 q.2.2.2.1 q.2.2.2.2.1 q.2.2.2.2.2.1 q.2.2.2.2.2.2.1 q.2.2.2.2.2.2.2.1 q.2.2.2.2.2.2.2.2.1 q.2.2.2.2.2.2.2.2.2.1 q.2.2.2.2.2.2.2.2.2.2.1 q.2.2.2.2.2.2.2.2.2.2.2.1 q.2.2.2.2.2.2.2.2.2.2.2.2.1 q.2.2.2.2.2.2.2.2.2.2.2.2.2.1 q.2.2.2.2.2.2.2.2.2.2.2.2.2.2.1
theorem e_53_58 (K : Nat) : AtL (x_53 K) (fun n => []) [] (bd Tryz.f143) 58 (M_53_58 K) := fun n q => by kernel_rfl
theorem xk_53 (K : Nat) : XF [.tmp 4] s_53 39 [] (x_53 K) := xkF (gam_cons (sp_52 K) (gam_cons (sp_39 K) gam_nil)) ov_nil
theorem k_53_58 (K : Nat) (n : Nat) : CF [.tmp 4] s_53 39 [] (bd Tryz.f143) [] 58 (ar h_53_58 (M_53_58 K n)) :=
 loopF (xk_53 K) (e_53_58 K) (fun n => cuts_nil) n
theorem sp_53 (K : Nat) : OkF 143 (c_53 K) :=
 ctrF (x := x_53 K) (L := [(58, ar h_53_58 (M_53_58 K K))]) (c0 := bd Tryz.f143) (xk_53 K) (by intro a0 a1; show @Eq _ _ _; kernel_rfl) (cuts_cons (k_53_58 K K) cuts_nil) Tryz.func143 trivial
def l_spec_InChunks_2 (K : Nat) (a0 : T_impl_Conf) (v1 : Int) (v2 : Int) (v3 : Int) (v4 : Int) (v5 : Int) (v6 : Int) (v7 : Int) (v8 : Int) (v9 : Int) (v10 : List Int) (v11 : Int) (v12 : Int) (v13 : List T_impl_Thing) (v14 : List Int) (C1 : Int -> Int -> Int -> Int -> Int -> Int -> Int -> Int -> Int -> (List Int) -> Int -> Int -> (List T_impl_Thing) -> (List Int) -> Option (Bool)) : Nat -> Int -> T_impl_Thing -> Option (Bool)
 | 0, _, _ => none
 | n2 + 1, v16, v17 => (if a0.fSize ≠ (0 : Int) then (bif (decide (v16 ≤ (iQuo .i64 (iSub .i64 (iAdd .i64 v17.fAt v17.fLen) 1) a0.fSize))) then ((m_spec_l7Has K v10 v16).bind fun r18 => (bif (!r18) then some false else (l_spec_InChunks_2 K a0 v1 v2 v3 v4 v5 v6 v7 v8 v9 v10 v11 v12 v13 v14 C1 n2 (iAdd .i64 v16 1) v17))) else (C1 (iAdd .i64 v1 1) v2 v3 v4 v5 v6 v7 v8 v9 v10 v11 v12 v13 v14)) else none)
def l_spec_InChunks_1 (K : Nat) (a0 : T_impl_Conf) : Nat -> Int -> Int -> Int -> Int -> Int -> Int -> Int -> Int -> Int -> (List Int) -> Int -> Int -> (List T_impl_Thing) -> (List Int) -> Option (Bool)
 | 0, _, _, _, _, _, _, _, _, _, _, _, _, _, _ => none
 | n1 + 1, v1, v2, v3, v4, v5, v6, v7, v8, v9, v10, v11, v12, v13, v14 => (bif (decide (v1 < (v13.length : Int))) then (if (0 : Int) ≤ v1 ∧ v1 < (v13.length : Int) then ((m_spec_ThingOk K a0 (gt v13 v1)).bind fun r15 => (bif (!r15) then some false else (if a0.fSize ≠ (0 : Int) then (l_spec_InChunks_2 K a0 v1 v2 v3 v4 v5 v6 v7 v8 v9 v10 v11 v12 v13 v14 (l_spec_InChunks_1 K a0 n1) K (iQuo .i64 ((gt v13 v1).fAt) a0.fSize) (gt v13 v1)) else none))) else none) else some true)
def m_spec_InChunks (K : Nat) (a0 : T_impl_Conf) (a1 : T_impl_Node) : Option (Bool) := (l_spec_InChunks_1 K a0 K 0 a1.fSt a1.fGen a1.fEp a1.fUp a1.fUpEp a1.fFirst a1.fNext a1.fPrev a1.fChunks a1.fCur a1.fBump a1.fThings a1.fTags)
def s_54 : Sig := ⟨[.v 25, .v 44], [.v 4], true⟩
def c_54 (K : Nat) : Ctr tyU := ⟨s_54, m_spec_InChunks K⟩
def x_54 (K : Nat) := xF s_54 [(216, c_50 K), (218, c_39 K)] [] 47 [] [] [] [] [.tmp 4]
def h_54_6734 : Shape := ⟨[(2, .p 102), (3, .p 103), (5, .v 2), (6, .p 106), (7, .v 2)], [(106, .st 89 true), (103, .box [.v 2, .v 2, .v 2, .v 2, .v 2, .v 2, .v 2, .v 2, .v 26, .v 2, .v 2, .v 41, .v 26]), (102, .st 25 true)]⟩
def h_54_26 : Shape := ⟨[(2, .p 102), (3, .p 103), (5, .v 2)], [(103, .box [.v 2, .v 2, .v 2, .v 2, .v 2, .v 2, .v 2, .v 2, .v 26, .v 2, .v 2, .v 41, .v 26]), (102, .st 25 true)]⟩
def M_54_6734 (K : Nat) (C26 : CT h_54_26 s_54) (n : Nat) (q : PT h_54_6734) : Rt s_54 := l_spec_InChunks_2 K q.2.2.2.2.2.2.2.2.2.2.2.2.2.2.2.2.1 q.1 q.2.2.2.1 q.2.2.2.2.1 q.2.2.2.2.2.1 q.2.2.2.2.2.2.1 q.2.2.2.2.2.2.2.1 q.2.2.2.2.2.2.2.2.1 q.2.2.2.2.2.2.2.2.2.1 q.2.2.2.2.2.2.2.2.2.2.1 q.2.2.2.2.2.2.2.2.2.2.2.1 q.2.2.2.2.2.2.2.2.2.2.2.2.1 q.2.2.2.2.2.2.2.2.2.2.2.2.2.1 q.2.2.2.2.2.2.2.2.2.2.2.2.2.2.1 q.2.2.2.2.2.2.2.2.2.2.2.2.2.2.2.1 (fun v1 v2 v3 v4 v5 v6 v7 v8 v9 v10 v11 v12 v13 v14 => C26 (v1, v2, v3, v4, v5, v6, v7, v8, v9, v10, v11, v12, v13, v14, q.2.2.2.2.2.2.2.2.2.2.2.2.2.2.2.2.1, ())) n q.2.1 q.2.2.1
def M_54_26 (K : Nat) (n : Nat) (q : PT h_54_26) : Rt s_54 := l_spec_InChunks_1 K q.2.2.2.2.2.2.2.2.2.2.2.2.2.2.1 n q.1 q.2.1 q.2.2.1 q.2.2.2.1 q.2.2.2.2.1 q.2.2.2.2.2.1 q.2.2.2.2.2.2.1 q.2.2.2.2.2.2.2.1 q.2.2.2.2.2.2.2.2.1 q.2.2.2.2.2.2.2.2.2.1 q.2.2.2.2.2.2.2.2.2.2.1 q.2.2.2.2.2.2.2.2.2.2.2.1 q.2.2.2.2.2.2.2.2.2.2.2.2.1 q.2.2.2.2.2.2.2.2.2.2.2.2.2.1
theorem e_54_6734 (K : Nat) (C26 : CT h_54_26 s_54) : AtL (x_54 K) (fun n => []) [(26, ar h_54_26 C26)] (bd Tryz.f144) 6734 (M_54_6734 K C26) := fun n q => by kernel_rfl
theorem e_54_26 (K : Nat) : AtL (x_54 K) (fun n => [(6734, ar h_54_6734 (M_54_6734 K (M_54_26 K n) K))]) [] (bd Tryz.f144) 26 (M_54_26 K) := fun n q => by kernel_rfl
theorem xk_54 (K : Nat) : XF [.tmp 4] s_54 47 [] (x_54 K) := xkF (gam_cons (sp_50 K) (gam_cons (sp_39 K) gam_nil)) ov_nil
theorem k_54_6734 (K : Nat) (C26 : CT h_54_26 s_54) (n : Nat) : CF [.tmp 4] s_54 47 [] (bd Tryz.f144) [(26, ar h_54_26 C26)] 6734 (ar h_54_6734 (M_54_6734 K C26 n)) :=
 loopF (xk_54 K) (e_54_6734 K C26) (fun n => cuts_nil) n
theorem k_54_26 (K : Nat) (n : Nat) : CF [.tmp 4] s_54 47 [] (bd Tryz.f144) [] 26 (ar h_54_26 (M_54_26 K n)) :=
 loopF (xk_54 K) (e_54_26 K) (fun n => (cuts_cons (k_54_6734 K (M_54_26 K n) K) cuts_nil)) n
theorem sp_54 (K : Nat) : OkF 144 (c_54 K) :=
 ctrF (x := x_54 K) (L := [(26, ar h_54_26 (M_54_26 K K))]) (c0 := bd Tryz.f144) (xk_54 K) (by intro a0 a1; show @Eq _ _ _; kernel_rfl) (cuts_cons (k_54_26 K K) cuts_nil) Tryz.func144 trivial
def m_spec_Apart (K : Nat) (a0 : T_impl_Thing) (a1 : T_impl_Thing) : Option (Bool) := (bif (decide (a0.fLen < 1)) then some true else (bif (decide (a1.fLen < 1)) then some true else (bif (decide (a0.fAt ≤ a1.fAt)) then (bif (decide ((iSub .i64 a1.fAt a0.fAt) ≥ a0.fLen)) then some true else some (decide ((iSub .i64 a1.fAt a0.fAt) < 0))) else (bif (decide ((iSub .i64 a0.fAt a1.fAt) ≥ a1.fLen)) then some true else some (decide ((iSub .i64 a0.fAt a1.fAt) < 0))))))
def s_55 : Sig := ⟨[.v 89, .v 89], [.v 4], true⟩
def c_55 (K : Nat) : Ctr tyU := ⟨s_55, m_spec_Apart K⟩
def x_55 (K : Nat) := xF s_55 [] [] 50 [7, 8, 25, 26, 41, 42] [] [] [] [.tmp 4]
theorem sp_55 (K : Nat) : OkF 219 (c_55 K) :=
 ctrF (x := x_55 K) (L := []) (c0 := bd Tryz.f219) (xkF gam_nil ov_nil) (by intro a0 a1; show @Eq _ _ _; kernel_rfl) cuts_nil Tryz.func219 trivial
def l_spec_AllApart_2 (K : Nat) (a0 : List T_impl_Thing) (v1 : Int) (C1 : Int -> Option (Bool)) : Nat -> Int -> Option (Bool)
 | 0, _ => none
 | n2 + 1, v2 => (bif (decide (v2 < v1)) then (if (0 : Int) ≤ v1 ∧ v1 < (a0.length : Int) then (if (0 : Int) ≤ v2 ∧ v2 < (a0.length : Int) then ((m_spec_Apart K (gt a0 v1) (gt a0 v2)).bind fun r3 => (bif (!r3) then some false else (l_spec_AllApart_2 K a0 v1 C1 n2 (iAdd .i64 v2 1)))) else none) else none) else (C1 (iAdd .i64 v1 1)))
def l_spec_AllApart_1 (K : Nat) (a0 : List T_impl_Thing) : Nat -> Int -> Option (Bool)
 | 0, _ => none
 | n1 + 1, v1 => (bif (decide (v1 < (a0.length : Int))) then (l_spec_AllApart_2 K a0 v1 (l_spec_AllApart_1 K a0 n1) K 0) else some true)
def m_spec_AllApart (K : Nat) (a0 : List T_impl_Thing) : Option (Bool) := (l_spec_AllApart_1 K a0 K 0)
def s_56 : Sig := ⟨[.v 41], [.v 4], true⟩
def c_56 (K : Nat) : Ctr tyU := ⟨s_56, m_spec_AllApart K⟩
def x_56 (K : Nat) := xF s_56 [(219, c_55 K)] [] 26 [] [] [] [] [.tmp 2]
def h_56_1682 : Shape := ⟨[(0, .v 41), (3, .v 2), (4, .v 2)], []⟩
def h_56_26 : Shape := ⟨[(0, .v 41), (3, .v 2)], []⟩
def M_56_1682 (K : Nat) (C26 : CT h_56_26 s_56) (n : Nat) (q : PT h_56_1682) : Rt s_56 := l_spec_AllApart_2 K q.1 q.2.1 (fun v1 => C26 (q.1, v1, ())) n q.2.2.1
def M_56_26 (K : Nat) (n : Nat) (q : PT h_56_26) : Rt s_56 := l_spec_AllApart_1 K q.1 n q.2.1
theorem e_56_1682 (K : Nat) (C26 : CT h_56_26 s_56) : AtL (x_56 K) (fun n => []) [(26, ar h_56_26 C26)] (bd Tryz.f145) 1682 (M_56_1682 K C26) := fun n q => by kernel_rfl
theorem e_56_26 (K : Nat) : AtL (x_56 K) (fun n => [(1682, ar h_56_1682 (M_56_1682 K (M_56_26 K n) K))]) [] (bd Tryz.f145) 26 (M_56_26 K) := fun n q => by kernel_rfl
theorem xk_56 (K : Nat) : XF [.tmp 2] s_56 26 [] (x_56 K) := xkF (gam_cons (sp_55 K) gam_nil) ov_nil
theorem k_56_1682 (K : Nat) (C26 : CT h_56_26 s_56) (n : Nat) : CF [.tmp 2] s_56 26 [] (bd Tryz.f145) [(26, ar h_56_26 C26)] 1682 (ar h_56_1682 (M_56_1682 K C26 n)) :=
 loopF (xk_56 K) (e_56_1682 K C26) (fun n => cuts_nil) n
theorem k_56_26 (K : Nat) (n : Nat) : CF [.tmp 2] s_56 26 [] (bd Tryz.f145) [] 26 (ar h_56_26 (M_56_26 K n)) :=
 loopF (xk_56 K) (e_56_26 K) (fun n => (cuts_cons (k_56_1682 K (M_56_26 K n) K) cuts_nil)) n
theorem sp_56 (K : Nat) : OkF 145 (c_56 K) :=
 ctrF (x := x_56 K) (L := [(26, ar h_56_26 (M_56_26 K K))]) (c0 := bd Tryz.f145) (xk_56 K) (by intro a0; show @Eq _ _ _; kernel_rfl) (cuts_cons (k_56_26 K K) cuts_nil) Tryz.func145 trivial
def j_spec_l13Loose_2 (K : Nat) (v1 : Int) (v2 : Int) (v3 : Int) (v4 : Int) (v5 : Int) (v6 : Int) (v7 : Int) (v8 : Int) (v9 : Int) (v10 : Int) (v11 : Int) (v12 : List Int) (v13 : Int) (v14 : Int) (v15 : List T_impl_Thing) (v16 : List Int) (v17 : Int) (v18 : Int) (v19 : Int) (v20 : Int) (v21 : Int) (v22 : Int) (v23 : List Int) (v24 : List Int) (v25 : List Int) (v26 : List T_impl_Node) (v27 : List T_impl_Waste) (v28 : List Int) (C1 : Int -> Int -> Int -> Int -> Int -> Int -> Int -> Int -> Int -> Int -> Int -> (List Int) -> Int -> Int -> (List T_impl_Thing) -> (List Int) -> Int -> Int -> Int -> Int -> Int -> Int -> (List Int) -> (List Int) -> (List Int) -> (List T_impl_Node) -> (List T_impl_Waste) -> (List Int) -> Option (Bool)) : Option (Bool) := (C1 v1 v2 (iAdd .i64 v3 1) v4 v5 v6 v7 v8 v9 v10 v11 v12 v13 v14 v15 v16 v17 v18 v19 v20 v21 v22 v23 v24 v25 v26 v27 v28)
def l_spec_l13Loose_1 (K : Nat) : Nat -> Int -> Int -> Int -> Int -> Int -> Int -> Int -> Int -> Int -> Int -> Int -> (List Int) -> Int -> Int -> (List T_impl_Thing) -> (List Int) -> Int -> Int -> Int -> Int -> Int -> Int -> (List Int) -> (List Int) -> (List Int) -> (List T_impl_Node) -> (List T_impl_Waste) -> (List Int) -> Option (Bool)
 | 0, _, _, _, _, _, _, _, _, _, _, _, _, _, _, _, _, _, _, _, _, _, _, _, _, _, _, _, _ => none
 | n1 + 1, v1, v2, v3, v4, v5, v6, v7, v8, v9, v10, v11, v12, v13, v14, v15, v16, v17, v18, v19, v20, v21, v22, v23, v24, v25, v26, v27, v28 => (bif (decide (v3 < (v15.length : Int))) then (if (0 : Int) ≤ v3 ∧ v3 < (v15.length : Int) then (bif (decide (((gt v15 v3).fAt) < v2)) then (bif (decide ((iAdd .i64 ((gt v15 v3).fAt) ((gt v15 v3).fLen)) > v1)) then some false else (j_spec_l13Loose_2 K v1 v2 v3 v4 v5 v6 v7 v8 v9 v10 v11 v12 v13 v14 v15 v16 v17 v18 v19 v20 v21 v22 v23 v24 v25 v26 v27 v28 (l_spec_l13Loose_1 K n1))) else (j_spec_l13Loose_2 K v1 v2 v3 v4 v5 v6 v7 v8 v9 v10 v11 v12 v13 v14 v15 v16 v17 v18 v19 v20 v21 v22 v23 v24 v25 v26 v27 v28 (l_spec_l13Loose_1 K n1))) else none) else (if (0 : Int) ≤ v1 ∧ v1 ≤ v2 ∧ v2 ≤ (v23.length : Int) then ((m_spec_IsZero K ((v23.drop v1.toNat).take (v2 - v1).toNat)).bind fun r29 => some r29) else none))
def m_spec_l13Loose (K : Nat) (a0 : T_impl_World) (a1 : Int) : Option (Bool) := (if (0 : Int) ≤ a1 ∧ a1 < (a0.fL.length : Int) then (bif (((gt a0.fL a1).fCur) == 0) then some true else (bif (decide ((iAdd .i64 (iMul .i64 (iSub .i64 ((gt a0.fL a1).fCur) 1) a0.fC.fSize) ((gt a0.fL a1).fBump)) ≥ (iMul .i64 ((gt a0.fL a1).fCur) a0.fC.fSize))) then some true else (l_spec_l13Loose_1 K K (iAdd .i64 (iMul .i64 (iSub .i64 ((gt a0.fL a1).fCur) 1) a0.fC.fSize) ((gt a0.fL a1).fBump)) (iMul .i64 ((gt a0.fL a1).fCur) a0.fC.fSize) 0 ((gt a0.fL a1).fSt) ((gt a0.fL a1).fGen) ((gt a0.fL a1).fEp) ((gt a0.fL a1).fUp) ((gt a0.fL a1).fUpEp) ((gt a0.fL a1).fFirst) ((gt a0.fL a1).fNext) ((gt a0.fL a1).fPrev) ((gt a0.fL a1).fChunks) ((gt a0.fL a1).fCur) ((gt a0.fL a1).fBump) ((gt a0.fL a1).fThings) ((gt a0.fL a1).fTags) a0.fC.fChunks a0.fC.fSize a0.fC.fSlots a0.fC.fTax a0.fC.fSlice a0.fC.fGens a0.fP.fMem a0.fP.fSt a0.fP.fOwn a0.fL a0.fQ a0.fLog))) else none)
def s_57 : Sig := ⟨[.v 32, .v 3], [.v 4], true⟩
def c_57 (K : Nat) : Ctr tyU := ⟨s_57, m_spec_l13Loose K⟩
def x_57 (K : Nat) := xF s_57 [(212, c_29 K)] [] 71 [33, 34, 54, 55] [] [] [2025] [.tmp 4]
def h_57_2025 : Shape := ⟨[(2, .p 102), (5, .p 105), (6, .v 2), (7, .v 2), (8, .v 2)], [(105, .box [.v 2, .v 2, .v 2, .v 2, .v 2, .v 2, .v 2, .v 2, .v 26, .v 2, .v 2, .v 41, .v 26]), (102, .box [.v 2, .v 2, .v 2, .v 2, .v 2, .v 2, .v 22, .v 26, .v 26, .v 29, .v 30, .v 26])]⟩
def h_57_506 : Shape := ⟨[(2, .p 102), (5, .p 105), (6, .v 2), (7, .v 2), (8, .v 2)], [(105, .box [.v 2, .v 2, .v 2, .v 2, .v 2, .v 2, .v 2, .v 2, .v 26, .v 2, .v 2, .v 41, .v 26]), (102, .box [.v 2, .v 2, .v 2, .v 2, .v 2, .v 2, .v 22, .v 26, .v 26, .v 29, .v 30, .v 26])]⟩
def M_57_2025 (K : Nat) (C506 : CT h_57_506 s_57) (q : PT h_57_2025) : Rt s_57 := j_spec_l13Loose_2 K q.1 q.2.1 q.2.2.1 q.2.2.2.1 q.2.2.2.2.1 q.2.2.2.2.2.1 q.2.2.2.2.2.2.1 q.2.2.2.2.2.2.2.1 q.2.2.2.2.2.2.2.2.1 q.2.2.2.2.2.2.2.2.2.1 q.2.2.2.2.2.2.2.2.2.2.1 q.2.2.2.2.2.2.2.2.2.2.2.1 q.2.2.2.2.2.2.2.2.2.2.2.2.1 q.2.2.2.2.2.2.2.2.2.2.2.2.2.1 q.2.2.2.2.2.2.2.2.2.2.2.2.2.2.1 q.2.2.2.2.2.2.2.2.2.2.2.2.2.2.2.1 q.2.2.2.2.2.2.2.2.2.2.2.2.2.2.2.2.1 q.2.2.2.2.2.2.2.2.2.2.2.2.2.2.2.2.2.1 q.2.2.2.2.2.2.2.2.2.2.2.2.2.2.2.2.2.2.1 q.2.2.2.2.2.2.2.2.2.2.2.2.2.2.2.2.2.2.2.1 q.2.2.2.2.2.2.2.2.2.2.2.2.2.2.2.2.2.2.2.2.1 q.2.2.2.2.2.2.2.2.2.2.2.2.2.2.2.2.2.2.2.2.2.1 q.2.2.2.2.2.2.2.2.2.2.2.2.2.2.2.2.2.2.2.2.2.2.1 q.2.2.2.2.2.2.2.2.2.2.2.2.2.2.2.2.2.2.2.2.2.2.2.1 q.2.2.2.2.2.2.2.2.2.2.2.2.2.2.2.2.2.2.2.2.2.2.2.2.1 q.2.2.2.2.2.2.2.2.2.2.2.2.2.2.2.2.2.2.2.2.2.2.2.2.2.1 q.2.2.2.2.2.2.2.2.2.2.2.2.2.2.2.2.2.2.2.2.2.2.2.2.2.2.1 q.2.2.2.2.2.2.2.2.2.2.2.2.2.2.2.2.2.2.2.2.2.2.2.2.2.2.2.1 (fun v1 v2 v3 v4 v5 v6 v7 v8 v9 v10 v11 v12 v13 v14 v15 v16 v17 v18 v19 v20 v21 v22 v23 v24 v25 v26 v27 v28 => C506 (v1, v2, v3, v4, v5, v6, v7, v8, v9, v10, v11, v12, v13, v14, v15, v16, v17, v18, v19, v20, v21, v22, v23, v24, v25, v26, v27, v28, ()))
def M_57_506 (K : Nat) (n : Nat) (q : PT h_57_506) : Rt s_57 := l_spec_l13Loose_1 K n q.1 q.2.1 q.2.2.1 q.2.2.2.1 q.2.2.2.2.1 q.2.2.2.2.2.1 q.2.2.2.2.2.2.1 q.2.2.2.2.2.2.2.1 q.2.2.2.2.2.2.2.2.1 q.2.2.2.2.2.2.2.2.2.1 q.2.2.2.2.2.2.2.2.2.2.1 q.2.2.2.2.2.2.2.2.2.2.2.1 q.2.2.2.2.2.2.2.2.2.2.2.2.1 q.2.2.2.2.2.2.2.2.2.2.2.2.2.1 q.2.2.2.2.2.2.2.2.2.2.2.2.2.2.1 q.2.2.2.2.2.2.2.2.2.2.2.2.2.2.2.1 q.2.2.2.2.2.2.2.2.2.2.2.2.2.2.2.2.1 q.2.2.2.2.2.2.2.2.2.2.2.2.2.2.2.2.2.1 q.2.2.2.2.2.2.2.2.2.2.2.2.2.2.2.2.2.2.1 q.2.2.2.2.2.2.2.2.2.2.2.2.2.2.2.2.2.2.2.1 q.2.2.2.2.2.2.2.2.2.2.2.2.2.2.2.2.2.2.2.2.1 q.2.2.2.2.2.2.2.2.2.2.2.2.2.2.2.2.2.2.2.2.2.1 q.2.2.2.2.2.2.2.2.2.2.2.2.2.2.2.2.2.2.2.2.2.2.1 q.2.2.2.2.2.2.2.2.2.2.2.2.2.2.2.2.2.2.2.2.2.2.2.1 q.2.2.2.2.2.2.2.2.2.2.2.2.2.2.2.2.2.2.2.2.2.2.2.2.1 q.2.2.2.2.2.2.2.2.2.2.2.2.2.2.2.2.2.2.2.2.2.2.2.2.2.1 q.2.2.2.2.2.2.2.2.2.2.2.2.2.2.2.2.2.2.2.2.2.2.2.2.2.2.1 q.2.2.2.2.2.2.2.2.2.2.2.2.2.2.2.2.2.2.2.2.2.2.2.2.2.2.2.1
theorem e_57_2025 (K : Nat) (C506 : CT h_57_506 s_57) : AtJ (x_57 K) [] [(506, ar h_57_506 C506)] (bd Tryz.f146) 2025 (M_57_2025 K C506) := fun q => by kernel_rfl
theorem e_57_506 (K : Nat) : AtL (x_57 K) (fun n => [(2025, ar h_57_2025 (M_57_2025 K (M_57_506 K n)))]) [] (bd Tryz.f146) 506 (M_57_506 K) := fun n q => by kernel_rfl
theorem xk_57 (K : Nat) : XF [.tmp 4] s_57 71 [2025] (x_57 K) := xkF (gam_cons (sp_29 K) gam_nil) ov_nil
theorem k_57_2025 (K : Nat) (C506 : CT h_57_506 s_57) : CF [.tmp 4] s_57 71 [2025] (bd Tryz.f146) [(506, ar h_57_506 C506)] 2025 (ar h_57_2025 (M_57_2025 K C506)) :=
 joinF (xk_57 K) (e_57_2025 K C506) cuts_nil
theorem k_57_506 (K : Nat) (n : Nat) : CF [.tmp 4] s_57 71 [2025] (bd Tryz.f146) [] 506 (ar h_57_506 (M_57_506 K n)) :=
 loopF (xk_57 K) (e_57_506 K) (fun n => (cuts_cons (k_57_2025 K (M_57_506 K n)) cuts_nil)) n
theorem sp_57 (K : Nat) : OkF 146 (c_57 K) :=
 ctrF (x := x_57 K) (L := [(506, ar h_57_506 (M_57_506 K K))]) (c0 := bd Tryz.f146) (xk_57 K) (by intro a0 a1; show @Eq _ _ _; kernel_rfl) (cuts_cons (k_57_506 K K) cuts_nil) Tryz.func146 trivial
def l_spec_WorldOk_3 (K : Nat) (v4 : Int) (v5 : Int) (v6 : Int) (v7 : Int) (v8 : Int) (v9 : Int) (v10 : List Int) (v11 : List Int) (v12 : List Int) (v13 : List T_impl_Node) (v14 : List T_impl_Waste) (v15 : List Int) : Nat -> Int -> Option (Bool)
 | 0, _ => none
 | n3 + 1, v23 => (bif (decide (v23 < (v15.length : Int))) then (if (0 : Int) ≤ v23 ∧ v23 < (v15.length : Int) then ((m_spec_l1In K (gt v15 v23) 0 255).bind fun r24 => (bif (!r24) then some false else (l_spec_WorldOk_3 K v4 v5 v6 v7 v8 v9 v10 v11 v12 v13 v14 v15 n3 (iAdd .i64 v23 1)))) else none) else ((m_spec_l13Counts K (T_impl_World.mk (T_impl_Conf.mk v4 v5 v6 v7 v8 v9) (T_impl_Pool.mk v10 v11 v12) v13 v14 v15)).bind fun r25 => some r25))
def l_spec_WorldOk_2 (K : Nat) (v4 : Int) (v5 : Int) (v6 : Int) (v7 : Int) (v8 : Int) (v9 : Int) (v10 : List Int) (v11 : List Int) (v12 : List Int) (v13 : List T_impl_Node) (v14 : List T_impl_Waste) (v15 : List Int) : Nat -> Int -> Option (Bool)
 | 0, _ => none
 | n2 + 1, v21 => (bif (decide (v21 < (v14.length : Int))) then ((m_spec_l13Waste K (T_impl_World.mk (T_impl_Conf.mk v4 v5 v6 v7 v8 v9) (T_impl_Pool.mk v10 v11 v12) v13 v14 v15) v21).bind fun r22 => (bif (!r22) then some false else (l_spec_WorldOk_2 K v4 v5 v6 v7 v8 v9 v10 v11 v12 v13 v14 v15 n2 (iAdd .i64 v21 1)))) else (l_spec_WorldOk_3 K v4 v5 v6 v7 v8 v9 v10 v11 v12 v13 v14 v15 K 0))
def l_spec_WorldOk_1 (K : Nat) : Nat -> Int -> Int -> Int -> Int -> Int -> Int -> Int -> (List Int) -> (List Int) -> (List Int) -> (List T_impl_Node) -> (List T_impl_Waste) -> (List Int) -> Option (Bool)
 | 0, _, _, _, _, _, _, _, _, _, _, _, _, _ => none
 | n1 + 1, v3, v4, v5, v6, v7, v8, v9, v10, v11, v12, v13, v14, v15 => (bif (decide (v3 < (v13.length : Int))) then (if (0 : Int) ≤ v3 ∧ v3 < (v13.length : Int) then ((m_spec_NodeOk K (T_impl_Conf.mk v4 v5 v6 v7 v8 v9) (gt v13 v3)).bind fun r16 => (bif r16 then ((m_spec_l13Chunks K (T_impl_World.mk (T_impl_Conf.mk v4 v5 v6 v7 v8 v9) (T_impl_Pool.mk v10 v11 v12) v13 v14 v15) v3).bind fun r17 => (bif r17 then (if (0 : Int) ≤ v3 ∧ v3 < (v13.length : Int) then ((m_spec_InChunks K (T_impl_Conf.mk v4 v5 v6 v7 v8 v9) (gt v13 v3)).bind fun r18 => (bif r18 then (if (0 : Int) ≤ v3 ∧ v3 < (v13.length : Int) then ((m_spec_AllApart K ((gt v13 v3).fThings)).bind fun r19 => (bif r19 then ((m_spec_l13Loose K (T_impl_World.mk (T_impl_Conf.mk v4 v5 v6 v7 v8 v9) (T_impl_Pool.mk v10 v11 v12) v13 v14 v15) v3).bind fun r20 => (bif (!r20) then some false else (l_spec_WorldOk_1 K n1 (iAdd .i64 v3 1) v4 v5 v6 v7 v8 v9 v10 v11 v12 v13 v14 v15))) else some false)) else none) else some false)) else none) else some false)) else some false)) else none) else (l_spec_WorldOk_2 K v4 v5 v6 v7 v8 v9 v10 v11 v12 v13 v14 v15 K 0))
def m_spec_WorldOk (K : Nat) (a0 : T_impl_World) : Option (Bool) := ((m_spec_PoolOk K a0.fC a0.fP).bind fun r1 => (bif r1 then (bif ((a0.fL.length : Int) != a0.fC.fSlots) then some false else ((m_spec_TreeOk K a0.fL).bind fun r2 => (bif (!r2) then some false else (l_spec_WorldOk_1 K K 0 a0.fC.fChunks a0.fC.fSize a0.fC.fSlots a0.fC.fTax a0.fC.fSlice a0.fC.fGens a0.fP.fMem a0.fP.fSt a0.fP.fOwn a0.fL a0.fQ a0.fLog)))) else some false))
def s_58 : Sig := ⟨[.v 32], [.v 4], true⟩
def c_58 (K : Nat) : Ctr tyU := ⟨s_58, m_spec_WorldOk K⟩
def x_58 (K : Nat) := xF s_58 [(84, c_26 K), (140, c_30 K), (141, c_36 K), (142, c_51 K), (143, c_53 K), (144, c_54 K), (145, c_56 K), (146, c_57 K), (147, c_44 K), (148, c_42 K)] [] 103 [10, 11, 12, 19, 20, 21, 41, 42, 43, 46, 47, 48, 49, 57, 58, 59, 60, 67, 68, 69, 70] [] [] [] [.tmp 2]
def h_58_250 : Shape := ⟨[(1, .p 101), (5, .v 2)], [(101, .box [.v 2, .v 2, .v 2, .v 2, .v 2, .v 2, .v 22, .v 26, .v 26, .v 29, .v 30, .v 26])]⟩
def h_58_122 : Shape := ⟨[(1, .p 101), (4, .v 2)], [(101, .box [.v 2, .v 2, .v 2, .v 2, .v 2, .v 2, .v 22, .v 26, .v 26, .v 29, .v 30, .v 26])]⟩
def h_58_58 : Shape := ⟨[(1, .p 101), (3, .v 2)], [(101, .box [.v 2, .v 2, .v 2, .v 2, .v 2, .v 2, .v 22, .v 26, .v 26, .v 29, .v 30, .v 26])]⟩
def M_58_250 (K : Nat) (n : Nat) (q : PT h_58_250) : Rt s_58 := l_spec_WorldOk_3 K q.2.1 q.2.2.1 q.2.2.2.1 q.2.2.2.2.1 q.2.2.2.2.2.1 q.2.2.2.2.2.2.1 q.2.2.2.2.2.2.2.1 q.2.2.2.2.2.2.2.2.1 q.2.2.2.2.2.2.2.2.2.1 q.2.2.2.2.2.2.2.2.2.2.1 q.2.2.2.2.2.2.2.2.2.2.2.1 q.2.2.2.2.2.2.2.2.2.2.2.2.1 n q.1
def M_58_122 (K : Nat) (n : Nat) (q : PT h_58_122) : Rt s_58 := l_spec_WorldOk_2 K q.2.1 q.2.2.1 q.2.2.2.1 q.2.2.2.2.1 q.2.2.2.2.2.1 q.2.2.2.2.2.2.1 q.2.2.2.2.2.2.2.1 q.2.2.2.2.2.2.2.2.1 q.2.2.2.2.2.2.2.2.2.1 q.2.2.2.2.2.2.2.2.2.2.1 q.2.2.2.2.2.2.2.2.2.2.2.1 q.2.2.2.2.2.2.2.2.2.2.2.2.1 n q.1
def M_58_58 (K : Nat) (n : Nat) (q : PT h_58_58) : Rt s_58 := l_spec_WorldOk_1 K n q.1 q.2.1 q.2.2.1 q.2.2.2.1 q.2.2.2.2.1 q.2.2.2.2.2.1 q.2.2.2.2.2.2.1 q.2.2.2.2.2.2.2.1 q.2.2.2.2.2.2.2.2.1 q.2.2.2.2.2.2.2.2.2.1 q.2.2.2.2.2.2.2.2.2.2.1 q.2.2.2.2.2.2.2.2.2.2.2.1 q.2.2.2.2.2.2.2.2.2.2.2.2.1
theorem e_58_250 (K : Nat) : AtL (x_58 K) (fun n => []) [] (bd Tryz.f83) 250 (M_58_250 K) := fun n q => by kernel_rfl
theorem e_58_122 (K : Nat) : AtL (x_58 K) (fun n => [(250, ar h_58_250 (M_58_250 K K))]) [] (bd Tryz.f83) 122 (M_58_122 K) := fun n q => by kernel_rfl
theorem e_58_58 (K : Nat) : AtL (x_58 K) (fun n => [(122, ar h_58_122 (M_58_122 K K))]) [] (bd Tryz.f83) 58 (M_58_58 K) := fun n q => by kernel_rfl
theorem xk_58 (K : Nat) : XF [.tmp 2] s_58 103 [] (x_58 K) := xkF (gam_cons (sp_26 K) (gam_cons (sp_30 K) (gam_cons (sp_36 K) (gam_cons (sp_51 K) (gam_cons (sp_53 K) (gam_cons (sp_54 K) (gam_cons (sp_56 K) (gam_cons (sp_57 K) (gam_cons (sp_44 K) (gam_cons (sp_42 K) gam_nil)))))))))) ov_nil
theorem k_58_250 (K : Nat) (n : Nat) : CF [.tmp 2] s_58 103 [] (bd Tryz.f83) [] 250 (ar h_58_250 (M_58_250 K n)) :=
 loopF (xk_58 K) (e_58_250 K) (fun n => cuts_nil) n
theorem k_58_122 (K : Nat) (n : Nat) : CF [.tmp 2] s_58 103 [] (bd Tryz.f83) [] 122 (ar h_58_122 (M_58_122 K n)) :=
 loopF (xk_58 K) (e_58_122 K) (fun n => (cuts_cons (cut_up (by kernel_rfl) (k_58_250 K K)) cuts_nil)) n
theorem k_58_58 (K : Nat) (n : Nat) : CF [.tmp 2] s_58 103 [] (bd Tryz.f83) [] 58 (ar h_58_58 (M_58_58 K n)) :=
 loopF (xk_58 K) (e_58_58 K) (fun n => (cuts_cons (cut_up (by kernel_rfl) (k_58_122 K K)) cuts_nil)) n
theorem sp_58 (K : Nat) : OkF 83 (c_58 K) :=
 ctrF (x := x_58 K) (L := [(58, ar h_58_58 (M_58_58 K K))]) (c0 := bd Tryz.f83) (xk_58 K) (by intro a0; show @Eq _ _ _; kernel_rfl) (cuts_cons (k_58_58 K K) cuts_nil) Tryz.func83 trivial
def m_spec_HandleOk (K : Nat) (a0 : T_impl_Handle) : Option (Bool) := (bif (decide (a0.fSlot ≥ 0)) then some (decide (a0.fGen ≥ 1)) else some false)
def s_59 : Sig := ⟨[.v 34], [.v 4], true⟩
def c_59 (K : Nat) : Ctr tyU := ⟨s_59, m_spec_HandleOk K⟩
def x_59 (K : Nat) := xF s_59 [] [] 11 [5, 6] [] [] [] [.tmp 2]
theorem sp_59 (K : Nat) : OkF 149 (c_59 K) :=
 ctrF (x := x_59 K) (L := []) (c0 := bd Tryz.f149) (xkF gam_nil ov_nil) (by intro a0; show @Eq _ _ _; kernel_rfl) cuts_nil Tryz.func149 trivial
def m_spec_PlaceOf (K : Nat) (a0 : List T_impl_Node) (a1 : T_impl_Handle) : Option (Int) := ((m_spec_l1In K a1.fSlot 0 (iSub .i64 (a0.length : Int) 1)).bind fun r1 => (bif r1 then (if (0 : Int) ≤ a1.fSlot ∧ a1.fSlot < (a0.length : Int) then (bif (((gt a0 a1.fSlot).fSt) != 1) then some (-1) else (if (0 : Int) ≤ a1.fSlot ∧ a1.fSlot < (a0.length : Int) then (bif (((gt a0 a1.fSlot).fGen) != a1.fGen) then some (-1) else some a1.fSlot) else none)) else none) else some (-1)))
def s_60 : Sig := ⟨[.v 29, .v 34], [.v 3], true⟩
def c_60 (K : Nat) : Ctr tyU := ⟨s_60, m_spec_PlaceOf K⟩
def x_60 (K : Nat) := xF s_60 [(84, c_26 K)] [] 34 [10, 11, 12, 19, 20, 21] [] [] [] [.tmp 4]
theorem sp_60 (K : Nat) : OkF 150 (c_60 K) :=
 ctrF (x := x_60 K) (L := []) (c0 := bd Tryz.f150) (xkF (gam_cons (sp_26 K) gam_nil) ov_nil) (by intro a0 a1; show @Eq _ _ _; kernel_rfl) cuts_nil Tryz.func150 trivial
def j_spec_Alive_2 (K : Nat) (v2 : Int) (C1 : Int -> Option (Bool)) : Option (Bool) := (C1 (iAdd .i64 v2 1))
def l_spec_Alive_1 (K : Nat) (a0 : List T_impl_Node) (r1 : (List Int)) : Nat -> Int -> Option (Bool)
 | 0, _ => none
 | n1 + 1, v2 => (bif (decide (v2 < (r1.length : Int))) then (if (0 : Int) ≤ v2 ∧ v2 < (r1.length : Int) then (if (0 : Int) ≤ (gt r1 v2) ∧ (gt r1 v2) < (a0.length : Int) then (bif (((gt a0 (gt r1 v2)).fSt) != 1) then some false else (bif (decide ((iAdd .i64 v2 1) < (r1.length : Int))) then (if (0 : Int) ≤ v2 ∧ v2 < (r1.length : Int) then ((m_spec_l9In K a0 (gt r1 v2)).bind fun r3 => (bif (!r3) then some false else (j_spec_Alive_2 K v2 (l_spec_Alive_1 K a0 r1 n1)))) else none) else (j_spec_Alive_2 K v2 (l_spec_Alive_1 K a0 r1 n1)))) else none) else none) else (bif (decide ((r1.length : Int) > 0)) then (if (0 : Int) ≤ (iSub .i64 (r1.length : Int) 1) ∧ (iSub .i64 (r1.length : Int) 1) < (r1.length : Int) then (if (0 : Int) ≤ (gt r1 (iSub .i64 (r1.length : Int) 1)) ∧ (gt r1 (iSub .i64 (r1.length : Int) 1)) < (a0.length : Int) then some (((gt a0 (gt r1 (iSub .i64 (r1.length : Int) 1))).fUp) == 0) else none) else none) else some false))
def m_spec_Alive (K : Nat) (a0 : List T_impl_Node) (a1 : Int) : Option (Bool) := ((m_spec_Rise K a0 a1).bind fun r1 => (l_spec_Alive_1 K a0 r1 K 0))
def s_61 : Sig := ⟨[.v 29, .v 3], [.v 4], true⟩
def c_61 (K : Nat) : Ctr tyU := ⟨s_61, m_spec_Alive K⟩
def x_61 (K : Nat) := xF s_61 [(224, c_34 K), (225, c_33 K)] [] 57 [24, 25, 30, 31, 43, 44] [] [] [233] [.tmp 4]
def h_61_233 : Shape := ⟨[(0, .v 29), (5, .v 26), (6, .v 2)], []⟩
def h_61_58 : Shape := ⟨[(0, .v 29), (5, .v 26), (6, .v 2)], []⟩
def M_61_233 (K : Nat) (C58 : CT h_61_58 s_61) (q : PT h_61_233) : Rt s_61 := j_spec_Alive_2 K q.2.2.1 (fun v2 => C58 (q.1, q.2.1, v2, ()))
def M_61_58 (K : Nat) (n : Nat) (q : PT h_61_58) : Rt s_61 := l_spec_Alive_1 K q.1 q.2.1 n q.2.2.1
theorem e_61_233 (K : Nat) (C58 : CT h_61_58 s_61) : AtJ (x_61 K) [] [(58, ar h_61_58 C58)] (bd Tryz.f151) 233 (M_61_233 K C58) := fun q => by kernel_rfl
theorem e_61_58 (K : Nat) : AtL (x_61 K) (fun n => [(233, ar h_61_233 (M_61_233 K (M_61_58 K n)))]) [] (bd Tryz.f151) 58 (M_61_58 K) := fun n q => by kernel_rfl
theorem xk_61 (K : Nat) : XF [.tmp 4] s_61 57 [233] (x_61 K) := xkF (gam_cons (sp_34 K) (gam_cons (sp_33 K) gam_nil)) ov_nil
theorem k_61_233 (K : Nat) (C58 : CT h_61_58 s_61) : CF [.tmp 4] s_61 57 [233] (bd Tryz.f151) [(58, ar h_61_58 C58)] 233 (ar h_61_233 (M_61_233 K C58)) :=
 joinF (xk_61 K) (e_61_233 K C58) cuts_nil
theorem k_61_58 (K : Nat) (n : Nat) : CF [.tmp 4] s_61 57 [233] (bd Tryz.f151) [] 58 (ar h_61_58 (M_61_58 K n)) :=
 loopF (xk_61 K) (e_61_58 K) (fun n => (cuts_cons (k_61_233 K (M_61_58 K n)) cuts_nil)) n
theorem sp_61 (K : Nat) : OkF 151 (c_61 K) :=
 ctrF (x := x_61 K) (L := [(58, ar h_61_58 (M_61_58 K K))]) (c0 := bd Tryz.f151) (xk_61 K) (by intro a0 a1; show @Eq _ _ _; kernel_rfl) (cuts_cons (k_61_58 K K) cuts_nil) Tryz.func151 trivial
def m_spec_FindRoom (K : Nat) (a0 : T_impl_World) (a1 : T_impl_Handle) : Option (Int × Int) := ((m_spec_HandleOk K a1).bind fun r1 => (bif (!r1) then some ((-1), 1) else ((m_spec_PlaceOf K a0.fL a1).bind fun r2 => (bif (decide (r2 < 0)) then some ((-1), 2) else ((m_spec_Alive K a0.fL r2).bind fun r3 => (bif (!r3) then some ((-1), 2) else some (r2, 0)))))))
def s_62 : Sig := ⟨[.v 32, .v 34], [.v 3, .v 3], true⟩
def c_62 (K : Nat) : Ctr tyU := ⟨s_62, m_spec_FindRoom K⟩
def x_62 (K : Nat) := xF s_62 [(149, c_59 K), (150, c_60 K), (151, c_61 K)] [] 24 [15, 16] [] [] [] [.tmp 4, .tmp 5]
theorem sp_62 (K : Nat) : OkF 85 (c_62 K) :=
 ctrF (x := x_62 K) (L := []) (c0 := bd Tryz.f85) (xkF (gam_cons (sp_59 K) (gam_cons (sp_60 K) (gam_cons (sp_61 K) gam_nil))) ov_nil) (by intro a0 a1; show @Eq _ _ _; kernel_rfl) cuts_nil Tryz.func85 trivial
def m_spec_DeepOf (K : Nat) (a0 : List T_impl_Node) (a1 : Int) : Option (Int) := ((m_spec_Rise K a0 a1).bind fun r1 => some (r1.length : Int))
def s_63 : Sig := ⟨[.v 29, .v 3], [.v 3], true⟩
def c_63 (K : Nat) : Ctr tyU := ⟨s_63, m_spec_DeepOf K⟩
def x_63 (K : Nat) := xF s_63 [(224, c_34 K)] [] 9 [] [] [] [] [.tmp 4]
theorem sp_63 (K : Nat) : OkF 152 (c_63 K) :=
 ctrF (x := x_63 K) (L := []) (c0 := bd Tryz.f152) (xkF (gam_cons (sp_34 K) gam_nil) ov_nil) (by intro a0 a1; show @Eq _ _ _; kernel_rfl) cuts_nil Tryz.func152 trivial
def m_spec_WalkOf (K : Nat) (a0 : T_impl_World) (a1 : T_impl_Handle) : Option (Int) := ((m_spec_PlaceOf K a0.fL a1).bind fun r1 => ((m_spec_DeepOf K a0.fL r1).bind fun r2 => some r2))
def s_64 : Sig := ⟨[.v 32, .v 34], [.v 3], true⟩
def c_64 (K : Nat) : Ctr tyU := ⟨s_64, m_spec_WalkOf K⟩
def x_64 (K : Nat) := xF s_64 [(150, c_60 K), (152, c_63 K)] [] 12 [] [] [] [] [.tmp 4]
theorem sp_64 (K : Nat) : OkF 86 (c_64 K) :=
 ctrF (x := x_64 K) (L := []) (c0 := bd Tryz.f86) (xkF (gam_cons (sp_60 K) (gam_cons (sp_63 K) gam_nil)) ov_nil) (by intro a0 a1; show @Eq _ _ _; kernel_rfl) cuts_nil Tryz.func86 trivial
def m_spec_LooseIn (K : Nat) (a0 : T_impl_Conf) (a1 : T_impl_Node) : Option (Int) := (bif (a1.fCur == 0) then some 0 else ((m_spec_NodeOk K a0 a1).bind fun r1 => (bif (!r1) then some 0 else some (iSub .i64 a0.fSize a1.fBump))))
def s_65 : Sig := ⟨[.v 25, .v 44], [.v 3], true⟩
def c_65 (K : Nat) : Ctr tyU := ⟨s_65, m_spec_LooseIn K⟩
def x_65 (K : Nat) := xF s_65 [(142, c_51 K)] [] 19 [7, 8] [] [] [] [.tmp 4]
theorem sp_65 (K : Nat) : OkF 99 (c_65 K) :=
 ctrF (x := x_65 K) (L := []) (c0 := bd Tryz.f99) (xkF (gam_cons (sp_51 K) gam_nil) ov_nil) (by intro a0 a1; show @Eq _ _ _; kernel_rfl) cuts_nil Tryz.func99 trivial
def j_spec_Stats_1 (K : Nat) (r1 : T_impl_World) (v6 : T_impl_Ans) (v7 : T_impl_Ans) (v8 : T_impl_World) : Option (T_impl_World × T_impl_Ans) := some (r1, v6)
def m_spec_Stats (K : Nat) (a0 : T_impl_World) (a1 : T_impl_Handle) : Option (T_impl_World × T_impl_Ans) := ((m_spec_l13Copy K a0).bind fun r1 => ((m_spec_WorldOk K a0).bind fun r2 => (bif (!r2) then some (r1, (T_impl_Ans.mk 1 (T_impl_Handle.mk 0 0) (T_impl_Ref.mk (T_impl_Handle.mk 0 0) 0 0) [] 0 0 0)) else ((m_spec_FindRoom K a0 a1).bind fun r3 => ((m_spec_WalkOf K a0 a1).bind fun r4 => (bif (r3.2 == 0) then (if (0 : Int) ≤ r3.1 ∧ r3.1 < (a0.fL.length : Int) then ((m_spec_LooseIn K a0.fC (gt a0.fL r3.1)).bind fun r5 => (j_spec_Stats_1 K r1 (T_impl_Ans.mk r3.2 (T_impl_Handle.mk 0 0) (T_impl_Ref.mk (T_impl_Handle.mk 0 0) 0 0) ([(IntKind.u8.wrap (((gt a0.fL r3.1).fChunks).length : Int)), (IntKind.u8.wrap (((gt a0.fL r3.1).fThings).length : Int)), (IntKind.u8.wrap (((gt a0.fL r3.1).fTags).length : Int)), (IntKind.u8.wrap r5)] : List Int) r4 0 0) (T_impl_Ans.mk 0 (T_impl_Handle.mk 0 0) (T_impl_Ref.mk (T_impl_Handle.mk 0 0) 0 0) [] 0 0 0) (T_impl_World.mk (T_impl_Conf.mk 0 0 0 0 0 0) (T_impl_Pool.mk [] [] []) [] [] []))) else none) else (j_spec_Stats_1 K r1 (T_impl_Ans.mk r3.2 (T_impl_Handle.mk 0 0) (T_impl_Ref.mk (T_impl_Handle.mk 0 0) 0 0) [] r4 0 0) (T_impl_Ans.mk 0 (T_impl_Handle.mk 0 0) (T_impl_Ref.mk (T_impl_Handle.mk 0 0) 0 0) [] 0 0 0) (T_impl_World.mk (T_impl_Conf.mk 0 0 0 0 0 0) (T_impl_Pool.mk [] [] []) [] [] []))))))))
def s_66 : Sig := ⟨[.v 32, .v 34], [.n 32 true, .n 69 true], true⟩
def c_66 (K : Nat) : Ctr tyU := ⟨s_66, m_spec_Stats K⟩
def x_66 (K : Nat) := xF s_66 [(82, c_25 K), (83, c_58 K), (85, c_62 K), (86, c_64 K), (99, c_65 K)] [] 57 [] [(9, [.take 106 6 6702, .take 106 7 6703, .take 106 8 6704, .take 106 9 6705, .take 106 10 6706, .take 106 11 6707, .take 109 7 6751])] [] [63] [.cell 4 32, .cell 5 69]
def h_66_63 : Shape := ⟨[(4, .p 104), (5, .p 105), (6, .p 106), (9, .p 109)], [(109, .st 69 true), (106, .st 32 true), (105, .st 69 true), (104, .st 32 true)]⟩
def M_66_63 (K : Nat) (q : PT h_66_63) : Rt s_66 := j_spec_Stats_1 K q.2.1 q.1 q.2.2.1 q.2.2.2.1
theorem e_66_63 (K : Nat) : AtJ (x_66 K) [] [] (bd Tryz.f37) 63 (M_66_63 K) := fun q => by kernel_rfl
theorem xk_66 (K : Nat) : XF [.cell 4 32, .cell 5 69] s_66 57 [63] (x_66 K) := xkF (gam_cons (sp_25 K) (gam_cons (sp_58 K) (gam_cons (sp_62 K) (gam_cons (sp_64 K) (gam_cons (sp_65 K) gam_nil))))) ov_nil
theorem k_66_63 (K : Nat) : CF [.cell 4 32, .cell 5 69] s_66 57 [63] (bd Tryz.f37) [] 63 (ar h_66_63 (M_66_63 K)) :=
 joinF (xk_66 K) (e_66_63 K) cuts_nil
theorem sp_66 (K : Nat) : OkF 37 (c_66 K) :=
 ctrF (x := x_66 K) (L := [(63, ar h_66_63 (M_66_63 K))]) (c0 := bd Tryz.f37) (xk_66 K) (by intro a0 a1; show @Eq _ _ _; kernel_rfl) (cuts_cons (k_66_63 K) cuts_nil) Tryz.func37 trivial
def m_impl_within (K : Nat) (a0 : Int) (a1 : Int) (a2 : Int) : Option (Bool) := (bif (decide (a0 ≥ a1)) then some (decide (a0 ≤ a2)) else some false)
def s_67 : Sig := ⟨[.v 3, .v 3, .v 3], [.v 4], true⟩
def c_67 (K : Nat) : Ctr tyU := ⟨s_67, m_impl_within K⟩
def x_67 (K : Nat) := xF s_67 [] [] 15 [9, 10] [] [] [] [.tmp 6]
theorem sp_67 (K : Nat) : OkF 88 (c_67 K) :=
 ctrF (x := x_67 K) (L := []) (c0 := bd Tryz.f88) (xkF gam_nil ov_nil) (by intro a0 a1 a2; show @Eq _ _ _; kernel_rfl) cuts_nil Tryz.func88 trivial
def m_impl_ConfOk (K : Nat) (a0 : T_impl_Conf) : Option (Bool) := ((m_impl_within K a0.fChunks 2 12).bind fun r1 => (bif r1 then ((m_impl_within K a0.fSize 8 16).bind fun r2 => (bif r2 then ((m_impl_within K a0.fSlots 2 8).bind fun r3 => (bif r3 then ((m_impl_within K a0.fTax 1 8).bind fun r4 => (bif r4 then ((m_impl_within K a0.fSlice 1 16).bind fun r5 => (bif r5 then ((m_impl_within K a0.fGens 1 4).bind fun r6 => some r6) else some false)) else some false)) else some false)) else some false)) else some false))
def s_68 : Sig := ⟨[.v 25], [.v 4], true⟩
def c_68 (K : Nat) : Ctr tyU := ⟨s_68, m_impl_ConfOk K⟩
def x_68 (K : Nat) := xF s_68 [(88, c_67 K)] [] 31 [5, 6, 9, 10, 11, 14, 15, 16, 19, 20, 21, 24, 25, 26] [] [] [] [.tmp 2]
theorem sp_68 (K : Nat) : OkF 198 (c_68 K) :=
 ctrF (x := x_68 K) (L := []) (c0 := bd Tryz.f198) (xkF (gam_cons (sp_67 K) gam_nil) ov_nil) (by intro a0; show @Eq _ _ _; kernel_rfl) cuts_nil Tryz.func198 trivial
def m_impl_BytesOf (K : Nat) (a0 : T_impl_Conf) : Option (Int) := ((m_impl_ConfOk K a0).bind fun r1 => (bif (!r1) then some 0 else some (iMul .i64 a0.fChunks a0.fSize)))
def s_69 : Sig := ⟨[.v 25], [.v 3], true⟩
def c_69 (K : Nat) : Ctr tyU := ⟨s_69, m_impl_BytesOf K⟩
def x_69 (K : Nat) := xF s_69 [(198, c_68 K)] [] 11 [] [] [] [] [.tmp 2]
theorem sp_69 (K : Nat) : OkF 123 (c_69 K) :=
 ctrF (x := x_69 K) (L := []) (c0 := bd Tryz.f123) (xkF (gam_cons (sp_68 K) gam_nil) ov_nil) (by intro a0; show @Eq _ _ _; kernel_rfl) cuts_nil Tryz.func123 trivial
def m_impl_Pool_chunk (K : Nat) (a0 : T_impl_Pool) (a1 : T_impl_Conf) (a2 : Int) : Option ((List Int)) := (if (0 : Int) ≤ (iMul .i64 a2 a1.fSize) ∧ (iMul .i64 a2 a1.fSize) ≤ (iMul .i64 (iAdd .i64 a2 1) a1.fSize) ∧ (iMul .i64 (iAdd .i64 a2 1) a1.fSize) ≤ (a0.fMem.length : Int) then some ((a0.fMem.drop (iMul .i64 a2 a1.fSize).toNat).take ((iMul .i64 (iAdd .i64 a2 1) a1.fSize) - (iMul .i64 a2 a1.fSize)).toNat) else none)
def s_70 : Sig := ⟨[.v 28, .v 25, .v 3], [.v 22], false⟩
def c_70 (K : Nat) : Ctr tyU := ⟨s_70, m_impl_Pool_chunk K⟩
def x_70 (K : Nat) := xF s_70 [] [] 19 [] [] [] [] [.tmp 6]
theorem sp_70 (K : Nat) : OkF 227 (c_70 K) :=
 ctrF (x := x_70 K) (L := []) (c0 := bd Tryz.f227) (xkF gam_nil ov_nil) (by intro a0 a1 a2; show @Eq _ _ _; kernel_rfl) cuts_nil Tryz.func227 trivial
def m_impl_IsZero_1 (K : Nat) (a0 : Int) : Option (Bool) := some (a0 != 0)
def s_71 : Sig := ⟨[.v 5], [.v 4], true⟩
def c_71 (K : Nat) : Ctr tyU := ⟨s_71, m_impl_IsZero_1 K⟩
def x_71 (K : Nat) := xF s_71 [] [] 5 [] [] [] [] [.tmp 2]
theorem sp_71 (K : Nat) : OkF 268 (c_71 K) :=
 ctrF (x := x_71 K) (L := []) (c0 := bd Tryz.f268) (xkF gam_nil ov_nil) (by intro a0; show @Eq _ _ _; kernel_rfl) cuts_nil Tryz.func268 trivial
def l_slices_IndexFunc_byte_impl_IsZero_1_1 (K : Nat) (a0 : List Int) : Nat -> Int -> Int -> Option (Int)
 | 0, _, _ => none
 | n1 + 1, v1, v2 => (bif (decide (v2 < v1)) then (if (0 : Int) ≤ v2 ∧ v2 < (a0.length : Int) then ((m_impl_IsZero_1 K (gt a0 v2)).bind fun r3 => (bif r3 then some v2 else (l_slices_IndexFunc_byte_impl_IsZero_1_1 K a0 n1 v1 (iAdd .i64 v2 1)))) else none) else some (-1))
def m_slices_IndexFunc_byte_impl_IsZero_1 (K : Nat) (a0 : List Int) : Option (Int) := (l_slices_IndexFunc_byte_impl_IsZero_1_1 K a0 K (a0.length : Int) 0)
def s_72 : Sig := ⟨[.v 22, .f 268 [] []], [.v 3], true⟩
def c_72 (K : Nat) : Ctr tyU := ⟨s_72, m_slices_IndexFunc_byte_impl_IsZero_1 K⟩
def x_72 (K : Nat) := xF s_72 [(268, c_71 K)] [] 19 [] [] [] [] [.tmp 4]
def h_72_26 : Shape := ⟨[(0, .v 22), (1, .f 268 [] []), (7, .v 2), (8, .v 2)], []⟩
def M_72_26 (K : Nat) (n : Nat) (q : PT h_72_26) : Rt s_72 := l_slices_IndexFunc_byte_impl_IsZero_1_1 K q.1 n q.2.1 q.2.2.1
theorem e_72_26 (K : Nat) : AtL (x_72 K) (fun n => []) [] (bd Tryz.f297) 26 (M_72_26 K) := fun n q => by kernel_rfl
theorem xk_72 (K : Nat) : XF [.tmp 4] s_72 19 [] (x_72 K) := xkF (gam_cons (sp_71 K) gam_nil) ov_nil
theorem k_72_26 (K : Nat) (n : Nat) : CF [.tmp 4] s_72 19 [] (bd Tryz.f297) [] 26 (ar h_72_26 (M_72_26 K n)) :=
 loopF (xk_72 K) (e_72_26 K) (fun n => cuts_nil) n
theorem sp_72 (K : Nat) : OkF 297 (c_72 K) :=
 ctrF (x := x_72 K) (L := [(26, ar h_72_26 (M_72_26 K K))]) (c0 := bd Tryz.f297) (xk_72 K) (by intro a0; show @Eq _ _ _; kernel_rfl) (cuts_cons (k_72_26 K K) cuts_nil) Tryz.func297 trivial
def m_slices_ContainsFunc_byte_impl_IsZero_1 (K : Nat) (a0 : List Int) : Option (Bool) := ((m_slices_IndexFunc_byte_impl_IsZero_1 K a0).bind fun r1 => some (decide (r1 ≥ 0)))
def s_73 : Sig := ⟨[.v 22, .f 268 [] []], [.v 4], true⟩
def c_73 (K : Nat) : Ctr tyU := ⟨s_73, m_slices_ContainsFunc_byte_impl_IsZero_1 K⟩
def x_73 (K : Nat) := xF s_73 [(297, c_72 K)] [] 9 [] [] [] [] [.tmp 4]
theorem sp_73 (K : Nat) : OkF 267 (c_73 K) :=
 ctrF (x := x_73 K) (L := []) (c0 := bd Tryz.f267) (xkF (gam_cons (sp_72 K) gam_nil) ov_nil) (by intro a0; show @Eq _ _ _; kernel_rfl) cuts_nil Tryz.func267 trivial
def m_impl_IsZero (K : Nat) (a0 : List Int) : Option (Bool) := ((m_slices_ContainsFunc_byte_impl_IsZero_1 K a0).bind fun r1 => some (!r1))
def s_74 : Sig := ⟨[.v 22], [.v 4], true⟩
def c_74 (K : Nat) : Ctr tyU := ⟨s_74, m_impl_IsZero K⟩
def x_74 (K : Nat) := xF s_74 [(267, c_73 K)] [] 6 [] [] [] [] [.tmp 2]
theorem sp_74 (K : Nat) : OkF 226 (c_74 K) :=
 ctrF (x := x_74 K) (L := []) (c0 := bd Tryz.f226) (xkF (gam_cons (sp_73 K) gam_nil) ov_nil) (by intro a0; show @Eq _ _ _; kernel_rfl) cuts_nil Tryz.func226 trivial
def j_impl_PoolOk_3 (K : Nat) (v3 : List Int) (v4 : Int) (v6 : List Int) (v7 : List Int) (v8 : List Int) (v12 : Int) (C1 : (List Int) -> Int -> Int -> (List Int) -> (List Int) -> (List Int) -> Option (Bool)) (v16 : Bool) : Option (Bool) := (bif v16 then some false else (C1 v3 v4 (iAdd .i64 v12 1) v6 v7 v8))
def j_impl_PoolOk_2 (K : Nat) (a0 : T_impl_Conf) (v3 : List Int) (v4 : Int) (v5 : Int) (v6 : List Int) (v7 : List Int) (v8 : List Int) (C1 : (List Int) -> Int -> Int -> (List Int) -> (List Int) -> (List Int) -> Option (Bool)) (v11 : Int) (v12 : Int) (v13 : Bool) : Option (Bool) := (bif v13 then some false else (bif (v11 == 0) then ((m_impl_Pool_chunk K (T_impl_Pool.mk v6 v7 v8) a0 v5).bind fun r14 => ((m_impl_IsZero K r14).bind fun r15 => (j_impl_PoolOk_3 K v3 v4 v6 v7 v8 v12 (C1) (!r15)))) else (j_impl_PoolOk_3 K v3 v4 v6 v7 v8 v12 (C1) false)))
def l_impl_PoolOk_1 (K : Nat) (a0 : T_impl_Conf) : Nat -> (List Int) -> Int -> Int -> (List Int) -> (List Int) -> (List Int) -> Option (Bool)
 | 0, _, _, _, _, _, _ => none
 | n1 + 1, v3, v4, v5, v6, v7, v8 => (bif (decide (v5 < v4)) then (if (0 : Int) ≤ v5 ∧ v5 < (v3.length : Int) then ((m_impl_within K (gt v3 v5) 0 2).bind fun r9 => (bif (!r9) then some false else (bif ((gt v3 v5) == 1) then (if (0 : Int) ≤ v5 ∧ v5 < (v8.length : Int) then ((m_impl_within K (gt v8 v5) 0 (iSub .i64 a0.fSlots 1)).bind fun r10 => (bif r10 then (bif ((gt v3 v5) != 1) then (if (0 : Int) ≤ v5 ∧ v5 < (v8.length : Int) then (j_impl_PoolOk_2 K a0 v3 v4 v5 v6 v7 v8 (l_impl_PoolOk_1 K a0 n1) (gt v3 v5) v5 ((gt v8 v5) != (-1))) else none) else (j_impl_PoolOk_2 K a0 v3 v4 v5 v6 v7 v8 (l_impl_PoolOk_1 K a0 n1) (gt v3 v5) v5 false)) else (j_impl_PoolOk_2 K a0 v3 v4 v5 v6 v7 v8 (l_impl_PoolOk_1 K a0 n1) (gt v3 v5) v5 true))) else none) else (bif ((gt v3 v5) != 1) then (if (0 : Int) ≤ v5 ∧ v5 < (v8.length : Int) then (j_impl_PoolOk_2 K a0 v3 v4 v5 v6 v7 v8 (l_impl_PoolOk_1 K a0 n1) (gt v3 v5) v5 ((gt v8 v5) != (-1))) else none) else (j_impl_PoolOk_2 K a0 v3 v4 v5 v6 v7 v8 (l_impl_PoolOk_1 K a0 n1) (gt v3 v5) v5 false))))) else none) else some true)
def m_impl_PoolOk (K : Nat) (a0 : T_impl_Conf) (a1 : T_impl_Pool) : Option (Bool) := ((m_impl_ConfOk K a0).bind fun r1 => (bif r1 then ((m_impl_BytesOf K a0).bind fun r2 => (bif ((a1.fMem.length : Int) != r2) then some false else (bif ((a1.fSt.length : Int) != a0.fChunks) then some false else (bif ((a1.fOwn.length : Int) != a0.fChunks) then some false else (l_impl_PoolOk_1 K a0 K a1.fSt (a1.fSt.length : Int) 0 a1.fMem a1.fSt a1.fOwn))))) else some false))
def s_75 : Sig := ⟨[.v 25, .v 28], [.v 4], true⟩
def c_75 (K : Nat) : Ctr tyU := ⟨s_75, m_impl_PoolOk K⟩
def x_75 (K : Nat) := xF s_75 [(88, c_67 K), (123, c_69 K), (198, c_68 K), (226, c_74 K), (227, c_70 K)] [] 85 [8, 9, 10, 16, 17, 18, 24, 25, 26, 48, 49, 58, 59, 60, 61, 63, 64, 75, 76] [] [] [29899, 119599] [.tmp 4]
def h_75_119599 : Shape := ⟨[(2, .p 102), (3, .p 103), (35, .v 26), (36, .v 2), (37, .v 2), (73, .v 4)], [(103, .box [.v 22, .v 26, .v 26]), (102, .st 25 true)]⟩
def h_75_29899 : Shape := ⟨[(2, .p 102), (3, .p 103), (5, .v 2), (6, .v 2), (35, .v 26), (36, .v 2), (37, .v 2), (46, .v 4)], [(103, .box [.v 22, .v 26, .v 26]), (102, .st 25 true)]⟩
def h_75_58 : Shape := ⟨[(2, .p 102), (3, .p 103), (35, .v 26), (36, .v 2), (37, .v 2)], [(103, .box [.v 22, .v 26, .v 26]), (102, .st 25 true)]⟩
def M_75_119599 (K : Nat) (C58 : CT h_75_58 s_75) (q : PT h_75_119599) : Rt s_75 := j_impl_PoolOk_3 K q.1 q.2.1 q.2.2.2.2.1 q.2.2.2.2.2.1 q.2.2.2.2.2.2.1 q.2.2.1 (fun v3 v4 v5 v6 v7 v8 => C58 (v3, v4, v5, v6, v7, v8, q.2.2.2.2.2.2.2.1, ())) q.2.2.2.1
def M_75_29899 (K : Nat) (C58 : CT h_75_58 s_75) (q : PT h_75_29899) : Rt s_75 := j_impl_PoolOk_2 K q.2.2.2.2.2.2.2.2.2.1 q.2.2.1 q.2.2.2.1 q.1 q.2.2.2.2.2.2.1 q.2.2.2.2.2.2.2.1 q.2.2.2.2.2.2.2.2.1 (fun v3 v4 v5 v6 v7 v8 => C58 (v3, v4, v5, v6, v7, v8, q.2.2.2.2.2.2.2.2.2.1, ())) q.2.1 q.2.2.2.2.1 q.2.2.2.2.2.1
def M_75_58 (K : Nat) (n : Nat) (q : PT h_75_58) : Rt s_75 := l_impl_PoolOk_1 K q.2.2.2.2.2.2.1 n q.1 q.2.1 q.2.2.1 q.2.2.2.1 q.2.2.2.2.1 q.2.2.2.2.2.1
theorem e_75_119599 (K : Nat) (C58 : CT h_75_58 s_75) : AtJ (x_75 K) [] [(58, ar h_75_58 C58)] (bd Tryz.f153) 119599 (M_75_119599 K C58) := fun q => by kernel_rfl
theorem e_75_29899 (K : Nat) (C58 : CT h_75_58 s_75) : AtJ (x_75 K) [(119599, ar h_75_119599 (M_75_119599 K C58))] [(58, ar h_75_58 C58)] (bd Tryz.f153) 29899 (M_75_29899 K C58) := fun q => by kernel_rfl
theorem e_75_58 (K : Nat) : AtL (x_75 K) (fun n => [(29899, ar h_75_29899 (M_75_29899 K (M_75_58 K n)))]) [] (bd Tryz.f153) 58 (M_75_58 K) := fun n q => by kernel_rfl
theorem xk_75 (K : Nat) : XF [.tmp 4] s_75 85 [29899, 119599] (x_75 K) := xkF (gam_cons (sp_67 K) (gam_cons (sp_69 K) (gam_cons (sp_68 K) (gam_cons (sp_74 K) (gam_cons (sp_70 K) gam_nil))))) ov_nil
theorem k_75_119599 (K : Nat) (C58 : CT h_75_58 s_75) : CF [.tmp 4] s_75 85 [29899, 119599] (bd Tryz.f153) [(58, ar h_75_58 C58)] 119599 (ar h_75_119599 (M_75_119599 K C58)) :=
 joinF (xk_75 K) (e_75_119599 K C58) cuts_nil
theorem k_75_29899 (K : Nat) (C58 : CT h_75_58 s_75) : CF [.tmp 4] s_75 85 [29899, 119599] (bd Tryz.f153) [(58, ar h_75_58 C58)] 29899 (ar h_75_29899 (M_75_29899 K C58)) :=
 joinF (xk_75 K) (e_75_29899 K C58) (cuts_cons (k_75_119599 K C58) cuts_nil)
theorem k_75_58 (K : Nat) (n : Nat) : CF [.tmp 4] s_75 85 [29899, 119599] (bd Tryz.f153) [] 58 (ar h_75_58 (M_75_58 K n)) :=
 loopF (xk_75 K) (e_75_58 K) (fun n => (cuts_cons (k_75_29899 K (M_75_58 K n)) cuts_nil)) n
theorem sp_75 (K : Nat) : OkF 153 (c_75 K) :=
 ctrF (x := x_75 K) (L := [(58, ar h_75_58 (M_75_58 K K))]) (c0 := bd Tryz.f153) (xk_75 K) (by intro a0 a1; show @Eq _ _ _; kernel_rfl) (cuts_cons (k_75_58 K K) cuts_nil) Tryz.func153 trivial
def m_slices_Clone_int (K : Nat) (a0 : List Int) : Option ((List Int)) := (bif a0.isEmpty then both (some []) ((if (([] : List Int) ++ a0).length * 8 ≤ 140737488355328 ∧ (([] : List Int) ++ a0).length ≤ maxLen then some (([] : List Int) ++ a0) else none)) else (if (([] : List Int) ++ a0).length * 8 ≤ 140737488355328 ∧ (([] : List Int) ++ a0).length ≤ maxLen then some (([] : List Int) ++ a0) else none))
def s_76 : Sig := ⟨[.v 26], [.n 26 true], true⟩
def c_76 (K : Nat) : Ctr tyU := ⟨s_76, m_slices_Clone_int K⟩
def x_76 (K : Nat) := xF s_76 [] [] 8 [] [] [] [] [.tmp 2]
theorem sp_76 (K : Nat) : OkF 160 (c_76 K) :=
 ctrF (x := x_76 K) (L := []) (c0 := bd Tryz.f160) (xkF gam_nil ov_nil) (by intro a0; show @Eq _ _ _; kernel_rfl) cuts_nil Tryz.func160 trivial
def l_slices_Equal_int_1 (K : Nat) (a0 : List Int) (a1 : List Int) : Nat -> Int -> Int -> Option (Bool)
 | 0, _, _ => none
 | n1 + 1, v1, v2 => (bif (decide (v2 < v1)) then (if (0 : Int) ≤ v2 ∧ v2 < (a0.length : Int) then (if (0 : Int) ≤ v2 ∧ v2 < (a1.length : Int) then (bif ((gt a0 v2) != (gt a1 v2)) then some false else (l_slices_Equal_int_1 K a0 a1 n1 v1 (iAdd .i64 v2 1))) else none) else none) else some true)
def m_slices_Equal_int (K : Nat) (a0 : List Int) (a1 : List Int) : Option (Bool) := (bif ((a0.length : Int) != (a1.length : Int)) then some false else (l_slices_Equal_int_1 K a0 a1 K (a0.length : Int) 0))
def s_78 : Sig := ⟨[.v 26, .v 26], [.v 4], true⟩
def c_78 (K : Nat) : Ctr tyU := ⟨s_78, m_slices_Equal_int K⟩
def x_78 (K : Nat) := xF s_78 [] [] 26 [] [] [] [] [.tmp 4]
def h_78_58 : Shape := ⟨[(0, .v 26), (1, .v 26), (12, .v 2), (13, .v 2)], []⟩
def M_78_58 (K : Nat) (n : Nat) (q : PT h_78_58) : Rt s_78 := l_slices_Equal_int_1 K q.1 q.2.1 n q.2.2.1 q.2.2.2.1
theorem e_78_58 (K : Nat) : AtL (x_78 K) (fun n => []) [] (bd Tryz.f229) 58 (M_78_58 K) := fun n q => by kernel_rfl
theorem xk_78 (K : Nat) : XF [.tmp 4] s_78 26 [] (x_78 K) := xkF gam_nil ov_nil
theorem k_78_58 (K : Nat) (n : Nat) : CF [.tmp 4] s_78 26 [] (bd Tryz.f229) [] 58 (ar h_78_58 (M_78_58 K n)) :=
 loopF (xk_78 K) (e_78_58 K) (fun n => cuts_nil) n
theorem sp_78 (K : Nat) : OkF 229 (c_78 K) :=
 ctrF (x := x_78 K) (L := [(58, ar h_78_58 (M_78_58 K K))]) (c0 := bd Tryz.f229) (xk_78 K) (by intro a0 a1; show @Eq _ _ _; kernel_rfl) (cuts_cons (k_78_58 K K) cuts_nil) Tryz.func229 trivial
def l_slices_Equal_impl_Thing_1 (K : Nat) (a0 : List T_impl_Thing) (a1 : List T_impl_Thing) : Nat -> Int -> Int -> Option (Bool)
 | 0, _, _ => none
 | n1 + 1, v1, v2 => (bif (decide (v2 < v1)) then (if (0 : Int) ≤ v2 ∧ v2 < (a0.length : Int) then (if (0 : Int) ≤ v2 ∧ v2 < (a1.length : Int) then (bif (!((((gt a0 v2).fAt) == ((gt a1 v2).fAt)) && ((((gt a0 v2).fLen) == ((gt a1 v2).fLen)) && ((((gt a0 v2).fRun) == ((gt a1 v2).fRun)) && true)))) then some false else (l_slices_Equal_impl_Thing_1 K a0 a1 n1 v1 (iAdd .i64 v2 1))) else none) else none) else some true)
def m_slices_Equal_impl_Thing (K : Nat) (a0 : List T_impl_Thing) (a1 : List T_impl_Thing) : Option (Bool) := (bif ((a0.length : Int) != (a1.length : Int)) then some false else (l_slices_Equal_impl_Thing_1 K a0 a1 K (a0.length : Int) 0))
def s_79 : Sig := ⟨[.v 41, .v 41], [.v 4], true⟩
def c_79 (K : Nat) : Ctr tyU := ⟨s_79, m_slices_Equal_impl_Thing K⟩
def x_79 (K : Nat) := xF s_79 [] [] 26 [] [] [] [] [.tmp 4]
def h_79_58 : Shape := ⟨[(0, .v 41), (1, .v 41), (12, .v 2), (13, .v 2)], []⟩
def M_79_58 (K : Nat) (n : Nat) (q : PT h_79_58) : Rt s_79 := l_slices_Equal_impl_Thing_1 K q.1 q.2.1 n q.2.2.1 q.2.2.2.1
theorem e_79_58 (K : Nat) : AtL (x_79 K) (fun n => []) [] (bd Tryz.f309) 58 (M_79_58 K) := fun n q => by kernel_rfl
theorem xk_79 (K : Nat) : XF [.tmp 4] s_79 26 [] (x_79 K) := xkF gam_nil ov_nil
theorem k_79_58 (K : Nat) (n : Nat) : CF [.tmp 4] s_79 26 [] (bd Tryz.f309) [] 58 (ar h_79_58 (M_79_58 K n)) :=
 loopF (xk_79 K) (e_79_58 K) (fun n => cuts_nil) n
theorem sp_79 (K : Nat) : OkF 309 (c_79 K) :=
 ctrF (x := x_79 K) (L := [(58, ar h_79_58 (M_79_58 K K))]) (c0 := bd Tryz.f309) (xk_79 K) (by intro a0 a1; show @Eq _ _ _; kernel_rfl) (cuts_cons (k_79_58 K K) cuts_nil) Tryz.func309 trivial
def m_impl_SameNode (K : Nat) (a0 : T_impl_Node) (a1 : T_impl_Node) : Option (Bool) := (bif (a0.fSt == a1.fSt) then (bif (a0.fGen == a1.fGen) then (bif (a0.fEp == a1.fEp) then (bif (a0.fUp == a1.fUp) then (bif (a0.fUpEp == a1.fUpEp) then (bif (a0.fFirst == a1.fFirst) then (bif (a0.fNext == a1.fNext) then (bif (a0.fPrev == a1.fPrev) then ((m_slices_Equal_int K a0.fChunks a1.fChunks).bind fun r1 => (bif r1 then (bif (a0.fCur == a1.fCur) then (bif (a0.fBump == a1.fBump) then ((m_slices_Equal_impl_Thing K a0.fThings a1.fThings).bind fun r2 => (bif r2 then ((m_slices_Equal_int K a0.fTags a1.fTags).bind fun r3 => some r3) else some false)) else some false) else some false) else some false)) else some false) else some false) else some false) else some false) else some false) else some false) else some false) else some false)
def s_80 : Sig := ⟨[.v 44, .v 44], [.v 4], true⟩
def c_80 (K : Nat) : Ctr tyU := ⟨s_80, m_impl_SameNode K⟩
def x_80 (K : Nat) := xF s_80 [(229, c_78 K), (309, c_79 K)] [] 94 [9, 10, 15, 16, 17, 22, 23, 24, 29, 30, 31, 36, 37, 38, 43, 44, 45, 50, 51, 52, 57, 58, 59, 64, 65, 66, 71, 72, 73, 78, 79, 80, 85, 86, 87] [] [] [] [.tmp 4]
theorem sp_80 (K : Nat) : OkF 274 (c_80 K) :=
 ctrF (x := x_80 K) (L := []) (c0 := bd Tryz.f274) (xkF (gam_cons (sp_78 K) (gam_cons (sp_79 K) gam_nil)) ov_nil) (by intro a0 a1; show @Eq _ _ _; kernel_rfl) cuts_nil Tryz.func274 trivial
def m_impl_Bare (K : Nat) (a0 : T_impl_Node) : Option (Bool) := ((m_impl_SameNode K a0 (T_impl_Node.mk a0.fSt a0.fGen 0 0 0 0 0 0 ([] : List Int) 0 0 ([] : List T_impl_Thing) ([] : List Int))).bind fun r1 => some r1)
def s_81 : Sig := ⟨[.v 44], [.v 4], true⟩
def c_81 (K : Nat) : Ctr tyU := ⟨s_81, m_impl_Bare K⟩
def x_81 (K : Nat) := xF s_81 [(274, c_80 K)] [] 10 [] [] [] [] [.tmp 2]
theorem sp_81 (K : Nat) : OkF 239 (c_81 K) :=
 ctrF (x := x_81 K) (L := []) (c0 := bd Tryz.f239) (xkF (gam_cons (sp_80 K) gam_nil) ov_nil) (by intro a0; show @Eq _ _ _; kernel_rfl) cuts_nil Tryz.func239 trivial
def l_slices_Index_int_1 (K : Nat) (a0 : List Int) (a1 : Int) : Nat -> Int -> Int -> Option (Int)
 | 0, _, _ => none
 | n1 + 1, v1, v2 => (bif (decide (v2 < v1)) then (if (0 : Int) ≤ v2 ∧ v2 < (a0.length : Int) then (bif (a1 == (gt a0 v2)) then some v2 else (l_slices_Index_int_1 K a0 a1 n1 v1 (iAdd .i64 v2 1))) else none) else some (-1))
def m_slices_Index_int (K : Nat) (a0 : List Int) (a1 : Int) : Option (Int) := (l_slices_Index_int_1 K a0 a1 K (a0.length : Int) 0)
def s_82 : Sig := ⟨[.v 26, .v 3], [.v 3], true⟩
def c_82 (K : Nat) : Ctr tyU := ⟨s_82, m_slices_Index_int K⟩
def x_82 (K : Nat) := xF s_82 [] [] 19 [] [] [] [] [.tmp 4]
def h_82_26 : Shape := ⟨[(0, .v 26), (1, .v 2), (7, .v 2), (8, .v 2)], []⟩
def M_82_26 (K : Nat) (n : Nat) (q : PT h_82_26) : Rt s_82 := l_slices_Index_int_1 K q.1 q.2.1 n q.2.2.1 q.2.2.2.1
theorem e_82_26 (K : Nat) : AtL (x_82 K) (fun n => []) [] (bd Tryz.f126) 26 (M_82_26 K) := fun n q => by kernel_rfl
theorem xk_82 (K : Nat) : XF [.tmp 4] s_82 19 [] (x_82 K) := xkF gam_nil ov_nil
theorem k_82_26 (K : Nat) (n : Nat) : CF [.tmp 4] s_82 19 [] (bd Tryz.f126) [] 26 (ar h_82_26 (M_82_26 K n)) :=
 loopF (xk_82 K) (e_82_26 K) (fun n => cuts_nil) n
theorem sp_82 (K : Nat) : OkF 126 (c_82 K) :=
 ctrF (x := x_82 K) (L := [(26, ar h_82_26 (M_82_26 K K))]) (c0 := bd Tryz.f126) (xk_82 K) (by intro a0 a1; show @Eq _ _ _; kernel_rfl) (cuts_cons (k_82_26 K K) cuts_nil) Tryz.func126 trivial
def m_slices_Contains_int (K : Nat) (a0 : List Int) (a1 : Int) : Option (Bool) := ((m_slices_Index_int K a0 a1).bind fun r1 => some (decide (r1 ≥ 0)))
def s_83 : Sig := ⟨[.v 26, .v 3], [.v 4], true⟩
def c_83 (K : Nat) : Ctr tyU := ⟨s_83, m_slices_Contains_int K⟩
def x_83 (K : Nat) := xF s_83 [(126, c_82 K)] [] 9 [] [] [] [] [.tmp 4]
theorem sp_83 (K : Nat) : OkF 57 (c_83 K) :=
 ctrF (x := x_83 K) (L := []) (c0 := bd Tryz.f57) (xkF (gam_cons (sp_82 K) gam_nil) ov_nil) (by intro a0 a1; show @Eq _ _ _; kernel_rfl) cuts_nil Tryz.func57 trivial
def l_impl_distinct_1 (K : Nat) (a0 : T_impl_Conf) (a1 : List Int) : Nat -> (List Int) -> Int -> Int -> Option (Bool)
 | 0, _, _, _ => none
 | n1 + 1, v1, v2, v3 => (bif (decide (v3 < v2)) then (if (0 : Int) ≤ v3 ∧ v3 < (v1.length : Int) then ((m_impl_within K (gt v1 v3) 0 (iSub .i64 a0.fChunks 1)).bind fun r4 => (bif r4 then (if (0 : Int) ≤ 0 ∧ 0 ≤ v3 ∧ v3 ≤ (a1.length : Int) then ((m_slices_Contains_int K ((a1.drop (0 : Int).toNat).take (v3 - 0).toNat) (gt v1 v3)).bind fun r5 => (bif r5 then some false else (l_impl_distinct_1 K a0 a1 n1 v1 v2 (iAdd .i64 v3 1)))) else none) else some false)) else none) else some true)
def m_impl_distinct (K : Nat) (a0 : T_impl_Conf) (a1 : List Int) : Option (Bool) := (l_impl_distinct_1 K a0 a1 K a1 (a1.length : Int) 0)
def s_84 : Sig := ⟨[.v 25, .v 26], [.v 4], true⟩
def c_84 (K : Nat) : Ctr tyU := ⟨s_84, m_impl_distinct K⟩
def x_84 (K : Nat) := xF s_84 [(57, c_83 K), (88, c_67 K)] [] 28 [18, 19, 20] [] [] [] [.tmp 4]
def h_84_26 : Shape := ⟨[(1, .v 26), (2, .p 102), (7, .v 26), (8, .v 2), (9, .v 2)], [(102, .st 25 true)]⟩
def M_84_26 (K : Nat) (n : Nat) (q : PT h_84_26) : Rt s_84 := l_impl_distinct_1 K q.2.2.2.2.1 q.1 n q.2.1 q.2.2.1 q.2.2.2.1
theorem e_84_26 (K : Nat) : AtL (x_84 K) (fun n => []) [] (bd Tryz.f240) 26 (M_84_26 K) := fun n q => by kernel_rfl
theorem xk_84 (K : Nat) : XF [.tmp 4] s_84 28 [] (x_84 K) := xkF (gam_cons (sp_83 K) (gam_cons (sp_67 K) gam_nil)) ov_nil
theorem k_84_26 (K : Nat) (n : Nat) : CF [.tmp 4] s_84 28 [] (bd Tryz.f240) [] 26 (ar h_84_26 (M_84_26 K n)) :=
 loopF (xk_84 K) (e_84_26 K) (fun n => cuts_nil) n
theorem sp_84 (K : Nat) : OkF 240 (c_84 K) :=
 ctrF (x := x_84 K) (L := [(26, ar h_84_26 (M_84_26 K K))]) (c0 := bd Tryz.f240) (xk_84 K) (by intro a0 a1; show @Eq _ _ _; kernel_rfl) (cuts_cons (k_84_26 K K) cuts_nil) Tryz.func240 trivial
def m_impl_areBytes_1 (K : Nat) (a0 : Int) : Option (Bool) := ((m_impl_within K a0 0 255).bind fun r1 => some (!r1))
def s_85 : Sig := ⟨[.v 3], [.v 4], true⟩
def c_85 (K : Nat) : Ctr tyU := ⟨s_85, m_impl_areBytes_1 K⟩
def x_85 (K : Nat) := xF s_85 [(88, c_67 K)] [] 6 [] [] [] [] [.tmp 2]
theorem sp_85 (K : Nat) : OkF 237 (c_85 K) :=
 ctrF (x := x_85 K) (L := []) (c0 := bd Tryz.f237) (xkF (gam_cons (sp_67 K) gam_nil) ov_nil) (by intro a0; show @Eq _ _ _; kernel_rfl) cuts_nil Tryz.func237 trivial
def l_slices_IndexFunc_int_impl_areBytes_1_1 (K : Nat) (a0 : List Int) : Nat -> Int -> Int -> Option (Int)
 | 0, _, _ => none
 | n1 + 1, v1, v2 => (bif (decide (v2 < v1)) then (if (0 : Int) ≤ v2 ∧ v2 < (a0.length : Int) then ((m_impl_areBytes_1 K (gt a0 v2)).bind fun r3 => (bif r3 then some v2 else (l_slices_IndexFunc_int_impl_areBytes_1_1 K a0 n1 v1 (iAdd .i64 v2 1)))) else none) else some (-1))
def m_slices_IndexFunc_int_impl_areBytes_1 (K : Nat) (a0 : List Int) : Option (Int) := (l_slices_IndexFunc_int_impl_areBytes_1_1 K a0 K (a0.length : Int) 0)
def s_86 : Sig := ⟨[.v 26, .f 237 [] []], [.v 3], true⟩
def c_86 (K : Nat) : Ctr tyU := ⟨s_86, m_slices_IndexFunc_int_impl_areBytes_1 K⟩
def x_86 (K : Nat) := xF s_86 [(237, c_85 K)] [] 19 [] [] [] [] [.tmp 4]
def h_86_26 : Shape := ⟨[(0, .v 26), (1, .f 237 [] []), (7, .v 2), (8, .v 2)], []⟩
def M_86_26 (K : Nat) (n : Nat) (q : PT h_86_26) : Rt s_86 := l_slices_IndexFunc_int_impl_areBytes_1_1 K q.1 n q.2.1 q.2.2.1
theorem e_86_26 (K : Nat) : AtL (x_86 K) (fun n => []) [] (bd Tryz.f272) 26 (M_86_26 K) := fun n q => by kernel_rfl
theorem xk_86 (K : Nat) : XF [.tmp 4] s_86 19 [] (x_86 K) := xkF (gam_cons (sp_85 K) gam_nil) ov_nil
theorem k_86_26 (K : Nat) (n : Nat) : CF [.tmp 4] s_86 19 [] (bd Tryz.f272) [] 26 (ar h_86_26 (M_86_26 K n)) :=
 loopF (xk_86 K) (e_86_26 K) (fun n => cuts_nil) n
theorem sp_86 (K : Nat) : OkF 272 (c_86 K) :=
 ctrF (x := x_86 K) (L := [(26, ar h_86_26 (M_86_26 K K))]) (c0 := bd Tryz.f272) (xk_86 K) (by intro a0; show @Eq _ _ _; kernel_rfl) (cuts_cons (k_86_26 K K) cuts_nil) Tryz.func272 trivial
def m_slices_ContainsFunc_int_impl_areBytes_1 (K : Nat) (a0 : List Int) : Option (Bool) := ((m_slices_IndexFunc_int_impl_areBytes_1 K a0).bind fun r1 => some (decide (r1 ≥ 0)))
def s_87 : Sig := ⟨[.v 26, .f 237 [] []], [.v 4], true⟩
def c_87 (K : Nat) : Ctr tyU := ⟨s_87, m_slices_ContainsFunc_int_impl_areBytes_1 K⟩
def x_87 (K : Nat) := xF s_87 [(272, c_86 K)] [] 9 [] [] [] [] [.tmp 4]
theorem sp_87 (K : Nat) : OkF 236 (c_87 K) :=
 ctrF (x := x_87 K) (L := []) (c0 := bd Tryz.f236) (xkF (gam_cons (sp_86 K) gam_nil) ov_nil) (by intro a0; show @Eq _ _ _; kernel_rfl) cuts_nil Tryz.func236 trivial
def m_impl_areBytes (K : Nat) (a0 : List Int) : Option (Bool) := ((m_slices_ContainsFunc_int_impl_areBytes_1 K a0).bind fun r1 => some (!r1))
def s_88 : Sig := ⟨[.v 26], [.v 4], true⟩
def c_88 (K : Nat) : Ctr tyU := ⟨s_88, m_impl_areBytes K⟩
def x_88 (K : Nat) := xF s_88 [(236, c_87 K)] [] 6 [] [] [] [] [.tmp 2]
theorem sp_88 (K : Nat) : OkF 157 (c_88 K) :=
 ctrF (x := x_88 K) (L := []) (c0 := bd Tryz.f157) (xkF (gam_cons (sp_87 K) gam_nil) ov_nil) (by intro a0; show @Eq _ _ _; kernel_rfl) cuts_nil Tryz.func157 trivial
def m_impl_IsLarge (K : Nat) (a0 : T_impl_Conf) (a1 : Int) : Option (Bool) := some (decide (a1 > a0.fSize))
def s_89 : Sig := ⟨[.v 25, .v 3], [.v 4], true⟩
def c_89 (K : Nat) : Ctr tyU := ⟨s_89, m_impl_IsLarge K⟩
def x_89 (K : Nat) := xF s_89 [] [] 9 [] [] [] [] [.tmp 4]
theorem sp_89 (K : Nat) : OkF 124 (c_89 K) :=
 ctrF (x := x_89 K) (L := []) (c0 := bd Tryz.f124) (xkF gam_nil ov_nil) (by intro a0 a1; show @Eq _ _ _; kernel_rfl) cuts_nil Tryz.func124 trivial
def m_impl_CeilDiv (K : Nat) (a0 : Int) (a1 : Int) : Option (Int) := ((m_impl_within K a0 0 1000000000).bind fun r1 => (bif r1 then ((m_impl_within K a1 1 1000000000).bind fun r2 => (bif (!r2) then some 0 else (if a1 ≠ (0 : Int) then some (iQuo .i64 (iSub .i64 (iAdd .i64 a0 a1) 1) a1) else none))) else some 0))
def s_90 : Sig := ⟨[.v 3, .v 3], [.v 3], true⟩
def c_90 (K : Nat) : Ctr tyU := ⟨s_90, m_impl_CeilDiv K⟩
def x_90 (K : Nat) := xF s_90 [(88, c_67 K)] [] 19 [6, 7, 8] [] [] [] [.tmp 4]
theorem sp_90 (K : Nat) : OkF 199 (c_90 K) :=
 ctrF (x := x_90 K) (L := []) (c0 := bd Tryz.f199) (xkF (gam_cons (sp_67 K) gam_nil) ov_nil) (by intro a0 a1; show @Eq _ _ _; kernel_rfl) cuts_nil Tryz.func199 trivial
def m_impl_ChunksFor (K : Nat) (a0 : T_impl_Conf) (a1 : Int) : Option (Int) := ((m_impl_CeilDiv K a1 a0.fSize).bind fun r1 => some r1)
def s_91 : Sig := ⟨[.v 25, .v 3], [.v 3], true⟩
def c_91 (K : Nat) : Ctr tyU := ⟨s_91, m_impl_ChunksFor K⟩
def x_91 (K : Nat) := xF s_91 [(199, c_90 K)] [] 9 [] [] [] [] [.tmp 4]
theorem sp_91 (K : Nat) : OkF 125 (c_91 K) :=
 ctrF (x := x_91 K) (L := []) (c0 := bd Tryz.f125) (xkF (gam_cons (sp_90 K) gam_nil) ov_nil) (by intro a0 a1; show @Eq _ _ _; kernel_rfl) cuts_nil Tryz.func125 trivial
def m_impl_ThingOk (K : Nat) (a0 : T_impl_Conf) (a1 : T_impl_Thing) : Option (Bool) := ((m_impl_BytesOf K a0).bind fun r1 => (bif (decide (a1.fLen ≤ 0)) then some false else (bif (decide (a1.fAt < 0)) then some false else (bif (decide (a1.fLen > r1)) then some false else (bif (decide (a1.fAt > (iSub .i64 r1 a1.fLen))) then some false else (bif (a1.fRun == 0) then (bif (decide (a1.fLen ≤ a0.fSize)) then (if a0.fSize ≠ (0 : Int) then (if a0.fSize ≠ (0 : Int) then some ((iQuo .i64 a1.fAt a0.fSize) == (iQuo .i64 (iSub .i64 (iAdd .i64 a1.fAt a1.fLen) 1) a0.fSize)) else none) else none) else some false) else ((m_impl_IsLarge K a0 a1.fLen).bind fun r2 => (bif r2 then ((m_impl_ChunksFor K a0 a1.fLen).bind fun r3 => (bif (a1.fRun == r3) then (if a0.fSize ≠ (0 : Int) then some ((Int.tmod a1.fAt a0.fSize) == 0) else none) else some false)) else some false))))))))
def s_92 : Sig := ⟨[.v 25, .v 89], [.v 4], true⟩
def c_92 (K : Nat) : Ctr tyU := ⟨s_92, m_impl_ThingOk K⟩
def x_92 (K : Nat) := xF s_92 [(123, c_69 K), (124, c_89 K), (125, c_91 K)] [] 77 [10, 11, 14, 15, 16, 20, 21, 22, 38, 39, 59, 60, 67, 68, 69] [] [] [] [.tmp 4]
theorem sp_92 (K : Nat) : OkF 56 (c_92 K) :=
 ctrF (x := x_92 K) (L := []) (c0 := bd Tryz.f56) (xkF (gam_cons (sp_69 K) (gam_cons (sp_89 K) (gam_cons (sp_91 K) gam_nil))) ov_nil) (by intro a0 a1; show @Eq _ _ _; kernel_rfl) cuts_nil Tryz.func56 trivial
def m_impl_NodeOk_1 (K : Nat) (a0 : T_impl_Thing) (a1 : T_impl_Conf) : Option (Bool) := ((m_impl_ThingOk K a1 a0).bind fun r1 => some (!r1))
def s_93 : Sig := ⟨[.v 89, .r 25], [.v 4], true⟩
def c_93 (K : Nat) : Ctr tyU := ⟨s_93, m_impl_NodeOk_1 K⟩
def x_93 (K : Nat) := xF s_93 [(56, c_92 K)] [] 8 [] [] [] [] [.tmp 3]
theorem sp_93 (K : Nat) : OkF 241 (c_93 K) :=
 ctrF (x := x_93 K) (L := []) (c0 := bd Tryz.f241) (xkF (gam_cons (sp_92 K) gam_nil) ov_nil) (by intro a0 a1; show @Eq _ _ _; kernel_rfl) cuts_nil Tryz.func241 trivial
def l_slices_IndexFunc_impl_Thing_impl_NodeOk_1_1 (K : Nat) (a0 : List T_impl_Thing) (a1_0 : T_impl_Conf) : Nat -> Int -> Int -> Option (Int)
 | 0, _, _ => none
 | n1 + 1, v1, v2 => (bif (decide (v2 < v1)) then (if (0 : Int) ≤ v2 ∧ v2 < (a0.length : Int) then ((m_impl_NodeOk_1 K (gt a0 v2) a1_0).bind fun r3 => (bif r3 then some v2 else (l_slices_IndexFunc_impl_Thing_impl_NodeOk_1_1 K a0 a1_0 n1 v1 (iAdd .i64 v2 1)))) else none) else some (-1))
def m_slices_IndexFunc_impl_Thing_impl_NodeOk_1 (K : Nat) (a0 : List T_impl_Thing) (a1_0 : T_impl_Conf) : Option (Int) := (l_slices_IndexFunc_impl_Thing_impl_NodeOk_1_1 K a0 a1_0 K (a0.length : Int) 0)
def s_94 : Sig := ⟨[.v 41, .f 241 [] [25]], [.v 3], true⟩
def c_94 (K : Nat) : Ctr tyU := ⟨s_94, m_slices_IndexFunc_impl_Thing_impl_NodeOk_1 K⟩
def x_94 (K : Nat) := xF s_94 [(241, c_93 K)] [] 19 [] [] [] [] [.tmp 4]
def h_94_26 : Shape := ⟨[(0, .v 41), (1, .f 241 [] [25]), (7, .v 2), (8, .v 2)], []⟩
def M_94_26 (K : Nat) (n : Nat) (q : PT h_94_26) : Rt s_94 := l_slices_IndexFunc_impl_Thing_impl_NodeOk_1_1 K q.1 q.2.1 n q.2.2.1 q.2.2.2.1
theorem e_94_26 (K : Nat) : AtL (x_94 K) (fun n => []) [] (bd Tryz.f122) 26 (M_94_26 K) := fun n q => by kernel_rfl
theorem xk_94 (K : Nat) : XF [.tmp 4] s_94 19 [] (x_94 K) := xkF (gam_cons (sp_93 K) gam_nil) ov_nil
theorem k_94_26 (K : Nat) (n : Nat) : CF [.tmp 4] s_94 19 [] (bd Tryz.f122) [] 26 (ar h_94_26 (M_94_26 K n)) :=
 loopF (xk_94 K) (e_94_26 K) (fun n => cuts_nil) n
theorem sp_94 (K : Nat) : OkF 122 (c_94 K) :=
 ctrF (x := x_94 K) (L := [(26, ar h_94_26 (M_94_26 K K))]) (c0 := bd Tryz.f122) (xk_94 K) (by intro a0 a1_0; show @Eq _ _ _; kernel_rfl) (cuts_cons (k_94_26 K K) cuts_nil) Tryz.func122 trivial
def m_slices_ContainsFunc_impl_Thing_impl_NodeOk_1 (K : Nat) (a0 : List T_impl_Thing) (a1_0 : T_impl_Conf) : Option (Bool) := ((m_slices_IndexFunc_impl_Thing_impl_NodeOk_1 K a0 a1_0).bind fun r1 => some (decide (r1 ≥ 0)))
def s_95 : Sig := ⟨[.v 41, .f 241 [] [25]], [.v 4], true⟩
def c_95 (K : Nat) : Ctr tyU := ⟨s_95, m_slices_ContainsFunc_impl_Thing_impl_NodeOk_1 K⟩
def x_95 (K : Nat) := xF s_95 [(122, c_94 K)] [] 9 [] [] [] [] [.tmp 4]
theorem sp_95 (K : Nat) : OkF 54 (c_95 K) :=
 ctrF (x := x_95 K) (L := []) (c0 := bd Tryz.f54) (xkF (gam_cons (sp_94 K) gam_nil) ov_nil) (by intro a0 a1_0; show @Eq _ _ _; kernel_rfl) cuts_nil Tryz.func54 trivial
def j_impl_NodeOk_2 (K : Nat) (a0 : T_impl_Conf) (v19 : List T_impl_Thing) (v20 : List Int) : Option (Bool) := (bif (decide ((v19.length : Int) ≤ 12)) then (bif (decide ((v20.length : Int) ≤ 6)) then ((m_impl_areBytes K v20).bind fun r25 => (bif r25 then ((m_slices_ContainsFunc_impl_Thing_impl_NodeOk_1 K v19 a0).bind fun r26 => some (!r26)) else some false)) else some false) else some false)
def l_impl_NodeOk_1 (K : Nat) (a0 : T_impl_Conf) : Nat -> (List Int) -> Int -> Int -> Int -> Int -> Int -> Int -> Int -> Int -> Int -> Int -> (List Int) -> Int -> Int -> (List T_impl_Thing) -> (List Int) -> Option (Bool)
 | 0, _, _, _, _, _, _, _, _, _, _, _, _, _, _, _, _ => none
 | n1 + 1, v5, v6, v7, v8, v9, v10, v11, v12, v13, v14, v15, v16, v17, v18, v19, v20 => (bif (decide (v7 < v6)) then (if (0 : Int) ≤ v7 ∧ v7 < (v5.length : Int) then ((m_impl_within K (gt v5 v7) 0 a0.fSlots).bind fun r21 => (bif (!r21) then some false else (l_impl_NodeOk_1 K a0 n1 v5 v6 (iAdd .i64 v7 1) v8 v9 v10 v11 v12 v13 v14 v15 v16 v17 v18 v19 v20))) else none) else (bif (decide (v10 < 0)) then some false else (bif (decide (v12 < 0)) then some false else ((m_impl_distinct K a0 v16).bind fun r22 => (bif r22 then (bif (v17 != 0) then ((m_slices_Contains_int K v16 (iSub .i64 v17 1)).bind fun r23 => (bif r23 then ((m_impl_within K v18 0 a0.fSize).bind fun r24 => (bif r24 then (bif (v17 == 0) then (bif (v18 != 0) then some false else (j_impl_NodeOk_2 K a0 v19 v20)) else (j_impl_NodeOk_2 K a0 v19 v20)) else some false)) else some false)) else ((m_impl_within K v18 0 a0.fSize).bind fun r27 => (bif r27 then (bif (v17 == 0) then (bif (v18 != 0) then some false else (j_impl_NodeOk_2 K a0 v19 v20)) else (j_impl_NodeOk_2 K a0 v19 v20)) else some false))) else some false)))))
def m_impl_NodeOk (K : Nat) (a0 : T_impl_Conf) (a1 : T_impl_Node) : Option (Bool) := ((m_impl_ConfOk K a0).bind fun r1 => (bif r1 then ((m_impl_within K a1.fSt 0 3).bind fun r2 => (bif r2 then ((m_impl_within K a1.fGen 1 a0.fGens).bind fun r3 => (bif (!r3) then some false else (bif (a1.fSt != 1) then ((m_impl_Bare K a1).bind fun r4 => some r4) else (l_impl_NodeOk_1 K a0 K ([a1.fUp, a1.fFirst, a1.fNext, a1.fPrev] : List Int) (([a1.fUp, a1.fFirst, a1.fNext, a1.fPrev] : List Int).length : Int) 0 a1.fSt a1.fGen a1.fEp a1.fUp a1.fUpEp a1.fFirst a1.fNext a1.fPrev a1.fChunks a1.fCur a1.fBump a1.fThings a1.fTags)))) else some false)) else some false))
def s_96 : Sig := ⟨[.v 25, .v 44], [.v 4], true⟩
def c_96 (K : Nat) : Ctr tyU := ⟨s_96, m_impl_NodeOk K⟩
def x_96 (K : Nat) := xF s_96 [(54, c_95 K), (57, c_83 K), (88, c_67 K), (157, c_88 K), (198, c_68 K), (239, c_81 K), (240, c_84 K)] [] 118 [8, 9, 10, 13, 14, 15, 16, 51, 52, 55, 56, 57, 61, 62, 63, 64, 67, 68, 74, 75, 76, 77, 78, 83, 84, 85, 86, 89, 90, 99, 100, 104, 105, 106, 109, 110, 111] [(13, [.frzB 102 25])] [] [31] [.tmp 4]
def h_96_31 : Shape := ⟨[(2, .p 102), (3, .p 103)], [(103, .box [.v 2, .v 2, .v 2, .v 2, .v 2, .v 2, .v 2, .v 2, .v 26, .v 2, .v 2, .v 41, .v 26]), (102, .st 25 true)]⟩
def h_96_122 : Shape := ⟨[(2, .p 102), (3, .p 103), (37, .v 26), (38, .v 2), (39, .v 2)], [(103, .box [.v 2, .v 2, .v 2, .v 2, .v 2, .v 2, .v 2, .v 2, .v 26, .v 2, .v 2, .v 41, .v 26]), (102, .st 25 true)]⟩
def M_96_31 (K : Nat) (q : PT h_96_31) : Rt s_96 := j_impl_NodeOk_2 K q.2.2.2.2.2.2.2.2.2.2.2.2.2.1 q.2.2.2.2.2.2.2.2.2.2.2.1 q.2.2.2.2.2.2.2.2.2.2.2.2.1
def M_96_122 (K : Nat) (n : Nat) (q : PT h_96_122) : Rt s_96 := l_impl_NodeOk_1 K q.2.2.2.2.2.2.2.2.2.2.2.2.2.2.2.2.1 n q.1 q.2.1 q.2.2.1 q.2.2.2.1 q.2.2.2.2.1 q.2.2.2.2.2.1 q.2.2.2.2.2.2.1 q.2.2.2.2.2.2.2.1 q.2.2.2.2.2.2.2.2.1 q.2.2.2.2.2.2.2.2.2.1 q.2.2.2.2.2.2.2.2.2.2.1 q.2.2.2.2.2.2.2.2.2.2.2.1 q.2.2.2.2.2.2.2.2.2.2.2.2.1 q.2.2.2.2.2.2.2.2.2.2.2.2.2.1 q.2.2.2.2.2.2.2.2.2.2.2.2.2.2.1 q.2.2.2.2.2.2.2.2.2.2.2.2.2.2.2.1
theorem e_96_31 (K : Nat) : AtJ (x_96 K) [] [] (bd Tryz.f167) 31 (M_96_31 K) := fun q => by kernel_rfl
theorem e_96_122 (K : Nat) : AtL (x_96 K) (fun n => [(31, ar h_96_31 (M_96_31 K))]) [] (bd Tryz.f167) 122 (M_96_122 K) := fun n q => by kernel_rfl
theorem xk_96 (K : Nat) : XF [.tmp 4] s_96 118 [31] (x_96 K) := xkF (gam_cons (sp_95 K) (gam_cons (sp_83 K) (gam_cons (sp_67 K) (gam_cons (sp_88 K) (gam_cons (sp_68 K) (gam_cons (sp_81 K) (gam_cons (sp_84 K) gam_nil))))))) ov_nil
theorem k_96_31 (K : Nat) : CF [.tmp 4] s_96 118 [31] (bd Tryz.f167) [] 31 (ar h_96_31 (M_96_31 K)) :=
 joinF (xk_96 K) (e_96_31 K) cuts_nil
theorem k_96_122 (K : Nat) (n : Nat) : CF [.tmp 4] s_96 118 [31] (bd Tryz.f167) [] 122 (ar h_96_122 (M_96_122 K n)) :=
 loopF (xk_96 K) (e_96_122 K) (fun n => (cuts_cons (cut_up (by kernel_rfl) (k_96_31 K)) cuts_nil)) n
theorem sp_96 (K : Nat) : OkF 167 (c_96 K) :=
 ctrF (x := x_96 K) (L := [(122, ar h_96_122 (M_96_122 K K))]) (c0 := bd Tryz.f167) (xk_96 K) (by intro a0 a1; show @Eq _ _ _; kernel_rfl) (cuts_cons (k_96_122 K K) cuts_nil) Tryz.func167 trivial
def j_impl_OwnedBy_2 (K : Nat) (v2 : Int) (v3 : Int) (v4 : List Int) (v5 : List Int) (v6 : List Int) (C1 : (List Int) -> Int -> Int -> (List Int) -> (List Int) -> (List Int) -> Option ((List Int))) (v7 : List Int) : Option ((List Int)) := (C1 v7 v2 (iAdd .i64 v3 1) v4 v5 v6)
def l_impl_OwnedBy_1 (K : Nat) (a1 : Int) : Nat -> (List Int) -> Int -> Int -> (List Int) -> (List Int) -> (List Int) -> Option ((List Int))
 | 0, _, _, _, _, _, _ => none
 | n1 + 1, v1, v2, v3, v4, v5, v6 => (bif (decide (v3 < v2)) then (if (0 : Int) ≤ v3 ∧ v3 < (v5.length : Int) then (bif ((gt v5 v3) == 1) then (if (0 : Int) ≤ v3 ∧ v3 < (v6.length : Int) then (bif ((gt v6 v3) == a1) then (if (v1 ++ ([v3] : List Int)).length * 8 ≤ 140737488355328 ∧ (v1 ++ ([v3] : List Int)).length ≤ maxLen then (j_impl_OwnedBy_2 K v2 v3 v4 v5 v6 (l_impl_OwnedBy_1 K a1 n1) (v1 ++ ([v3] : List Int))) else none) else (j_impl_OwnedBy_2 K v2 v3 v4 v5 v6 (l_impl_OwnedBy_1 K a1 n1) v1)) else none) else (j_impl_OwnedBy_2 K v2 v3 v4 v5 v6 (l_impl_OwnedBy_1 K a1 n1) v1)) else none) else some v1)
def m_impl_OwnedBy (K : Nat) (a0 : T_impl_Pool) (a1 : Int) : Option ((List Int)) := (l_impl_OwnedBy_1 K a1 K ([] : List Int) (iMin (a0.fSt.length : Int) (a0.fOwn.length : Int)) 0 a0.fMem a0.fSt a0.fOwn)
def s_97 : Sig := ⟨[.v 28, .v 3], [.n 26 true], true⟩
def c_97 (K : Nat) : Ctr tyU := ⟨s_97, m_impl_OwnedBy K⟩
def x_97 (K : Nat) := xF s_97 [] [] 39 [23, 24] [] [] [467] [.tmp 4]
def h_97_467 : Shape := ⟨[(1, .v 2), (2, .p 102), (5, .o 1005 3 true), (14, .v 2), (15, .v 2)], [(102, .box [.v 22, .v 26, .v 26])]⟩
def h_97_58 : Shape := ⟨[(1, .v 2), (2, .p 102), (5, .o 1005 3 true), (14, .v 2), (15, .v 2)], [(102, .box [.v 22, .v 26, .v 26])]⟩
def M_97_467 (K : Nat) (C58 : CT h_97_58 s_97) (q : PT h_97_467) : Rt s_97 := j_impl_OwnedBy_2 K q.2.2.1 q.2.2.2.1 q.2.2.2.2.1 q.2.2.2.2.2.1 q.2.2.2.2.2.2.1 (fun v1 v2 v3 v4 v5 v6 => C58 (q.1, v1, v2, v3, v4, v5, v6, ())) q.2.1
def M_97_58 (K : Nat) (n : Nat) (q : PT h_97_58) : Rt s_97 := l_impl_OwnedBy_1 K q.1 n q.2.1 q.2.2.1 q.2.2.2.1 q.2.2.2.2.1 q.2.2.2.2.2.1 q.2.2.2.2.2.2.1
theorem e_97_467 (K : Nat) (C58 : CT h_97_58 s_97) : AtJ (x_97 K) [] [(58, ar h_97_58 C58)] (bd Tryz.f16) 467 (M_97_467 K C58) := fun q => by kernel_rfl
theorem e_97_58 (K : Nat) : AtL (x_97 K) (fun n => [(467, ar h_97_467 (M_97_467 K (M_97_58 K n)))]) [] (bd Tryz.f16) 58 (M_97_58 K) := fun n q => by kernel_rfl
theorem xk_97 (K : Nat) : XF [.tmp 4] s_97 39 [467] (x_97 K) := xkF gam_nil ov_nil
theorem k_97_467 (K : Nat) (C58 : CT h_97_58 s_97) : CF [.tmp 4] s_97 39 [467] (bd Tryz.f16) [(58, ar h_97_58 C58)] 467 (ar h_97_467 (M_97_467 K C58)) :=
 joinF (xk_97 K) (e_97_467 K C58) cuts_nil
theorem k_97_58 (K : Nat) (n : Nat) : CF [.tmp 4] s_97 39 [467] (bd Tryz.f16) [] 58 (ar h_97_58 (M_97_58 K n)) :=
 loopF (xk_97 K) (e_97_58 K) (fun n => (cuts_cons (k_97_467 K (M_97_58 K n)) cuts_nil)) n
theorem sp_97 (K : Nat) : OkF 16 (c_97 K) :=
 ctrF (x := x_97 K) (L := [(58, ar h_97_58 (M_97_58 K K))]) (c0 := bd Tryz.f16) (xk_97 K) (by intro a0 a1; show @Eq _ _ _; kernel_rfl) (cuts_cons (k_97_58 K K) cuts_nil) Tryz.func16 trivial
def l_impl_InChunks_1_1 (K : Nat) (a0 : T_impl_Thing) (a1 : T_impl_Conf) (a2 : T_impl_Node) : Nat -> Int -> Option (Bool)
 | 0, _ => none
 | n1 + 1, v2 => (if a1.fSize ≠ (0 : Int) then (bif (decide (v2 ≤ (iQuo .i64 (iSub .i64 (iAdd .i64 a0.fAt a0.fLen) 1) a1.fSize))) then ((m_slices_Contains_int K a2.fChunks v2).bind fun r3 => (bif (!r3) then some true else (l_impl_InChunks_1_1 K a0 a1 a2 n1 (iAdd .i64 v2 1)))) else some false) else none)
def m_impl_InChunks_1 (K : Nat) (a0 : T_impl_Thing) (a1 : T_impl_Conf) (a2 : T_impl_Node) : Option (Bool) := ((m_impl_ThingOk K a1 a0).bind fun r1 => (bif (!r1) then some true else (if a1.fSize ≠ (0 : Int) then (l_impl_InChunks_1_1 K a0 a1 a2 K (iQuo .i64 a0.fAt a1.fSize)) else none)))
def s_98 : Sig := ⟨[.v 89, .r 25, .r 44], [.v 4], true⟩
def c_98 (K : Nat) : Ctr tyU := ⟨s_98, m_impl_InChunks_1 K⟩
def x_98 (K : Nat) := xF s_98 [(56, c_92 K), (57, c_83 K)] [] 33 [] [] [] [] [.tmp 4]
def h_98_58 : Shape := ⟨[(1, .r 25), (2, .r 44), (3, .p 103), (5, .v 2)], [(103, .st 89 true)]⟩
def M_98_58 (K : Nat) (n : Nat) (q : PT h_98_58) : Rt s_98 := l_impl_InChunks_1_1 K q.2.2.2.1 q.1 q.2.1 n q.2.2.1
theorem e_98_58 (K : Nat) : AtL (x_98 K) (fun n => []) [] (bd Tryz.f55) 58 (M_98_58 K) := fun n q => by kernel_rfl
theorem xk_98 (K : Nat) : XF [.tmp 4] s_98 33 [] (x_98 K) := xkF (gam_cons (sp_92 K) (gam_cons (sp_83 K) gam_nil)) ov_nil
theorem k_98_58 (K : Nat) (n : Nat) : CF [.tmp 4] s_98 33 [] (bd Tryz.f55) [] 58 (ar h_98_58 (M_98_58 K n)) :=
 loopF (xk_98 K) (e_98_58 K) (fun n => cuts_nil) n
theorem sp_98 (K : Nat) : OkF 55 (c_98 K) :=
 ctrF (x := x_98 K) (L := [(58, ar h_98_58 (M_98_58 K K))]) (c0 := bd Tryz.f55) (xk_98 K) (by intro a0 a1 a2; show @Eq _ _ _; kernel_rfl) (cuts_cons (k_98_58 K K) cuts_nil) Tryz.func55 trivial
def l_slices_IndexFunc_impl_Thing_impl_InChunks_1_1 (K : Nat) (a0 : List T_impl_Thing) (a1_0 : T_impl_Conf) (a1_1 : T_impl_Node) : Nat -> Int -> Int -> Option (Int)
 | 0, _, _ => none
 | n1 + 1, v1, v2 => (bif (decide (v2 < v1)) then (if (0 : Int) ≤ v2 ∧ v2 < (a0.length : Int) then ((m_impl_InChunks_1 K (gt a0 v2) a1_0 a1_1).bind fun r3 => (bif r3 then some v2 else (l_slices_IndexFunc_impl_Thing_impl_InChunks_1_1 K a0 a1_0 a1_1 n1 v1 (iAdd .i64 v2 1)))) else none) else some (-1))
def m_slices_IndexFunc_impl_Thing_impl_InChunks_1 (K : Nat) (a0 : List T_impl_Thing) (a1_0 : T_impl_Conf) (a1_1 : T_impl_Node) : Option (Int) := (l_slices_IndexFunc_impl_Thing_impl_InChunks_1_1 K a0 a1_0 a1_1 K (a0.length : Int) 0)
def s_99 : Sig := ⟨[.v 41, .f 55 [] [25, 44]], [.v 3], true⟩
def c_99 (K : Nat) : Ctr tyU := ⟨s_99, m_slices_IndexFunc_impl_Thing_impl_InChunks_1 K⟩
def x_99 (K : Nat) := xF s_99 [(55, c_98 K)] [] 19 [] [] [] [] [.tmp 4]
def h_99_26 : Shape := ⟨[(0, .v 41), (1, .f 55 [] [25, 44]), (7, .v 2), (8, .v 2)], []⟩
def M_99_26 (K : Nat) (n : Nat) (q : PT h_99_26) : Rt s_99 := l_slices_IndexFunc_impl_Thing_impl_InChunks_1_1 K q.1 q.2.1 q.2.2.1 n q.2.2.2.1 q.2.2.2.2.1
theorem e_99_26 (K : Nat) : AtL (x_99 K) (fun n => []) [] (bd Tryz.f122) 26 (M_99_26 K) := fun n q => by kernel_rfl
theorem xk_99 (K : Nat) : XF [.tmp 4] s_99 19 [] (x_99 K) := xkF (gam_cons (sp_98 K) gam_nil) ov_nil
theorem k_99_26 (K : Nat) (n : Nat) : CF [.tmp 4] s_99 19 [] (bd Tryz.f122) [] 26 (ar h_99_26 (M_99_26 K n)) :=
 loopF (xk_99 K) (e_99_26 K) (fun n => cuts_nil) n
theorem sp_99 (K : Nat) : OkF 122 (c_99 K) :=
 ctrF (x := x_99 K) (L := [(26, ar h_99_26 (M_99_26 K K))]) (c0 := bd Tryz.f122) (xk_99 K) (by intro a0 a1_0 a1_1; show @Eq _ _ _; kernel_rfl) (cuts_cons (k_99_26 K K) cuts_nil) Tryz.func122 trivial
def m_slices_ContainsFunc_impl_Thing_impl_InChunks_1 (K : Nat) (a0 : List T_impl_Thing) (a1_0 : T_impl_Conf) (a1_1 : T_impl_Node) : Option (Bool) := ((m_slices_IndexFunc_impl_Thing_impl_InChunks_1 K a0 a1_0 a1_1).bind fun r1 => some (decide (r1 ≥ 0)))
def s_100 : Sig := ⟨[.v 41, .f 55 [] [25, 44]], [.v 4], true⟩
def c_100 (K : Nat) : Ctr tyU := ⟨s_100, m_slices_ContainsFunc_impl_Thing_impl_InChunks_1 K⟩
def x_100 (K : Nat) := xF s_100 [(122, c_99 K)] [] 9 [] [] [] [] [.tmp 4]
theorem sp_100 (K : Nat) : OkF 54 (c_100 K) :=
 ctrF (x := x_100 K) (L := []) (c0 := bd Tryz.f54) (xkF (gam_cons (sp_99 K) gam_nil) ov_nil) (by intro a0 a1_0 a1_1; show @Eq _ _ _; kernel_rfl) cuts_nil Tryz.func54 trivial
def m_impl_InChunks (K : Nat) (a0 : T_impl_Conf) (a1 : T_impl_Node) : Option (Bool) := ((m_slices_ContainsFunc_impl_Thing_impl_InChunks_1 K a1.fThings a0 a1).bind fun r1 => some (!r1))
def s_101 : Sig := ⟨[.v 25, .v 44], [.v 4], true⟩
def c_101 (K : Nat) : Ctr tyU := ⟨s_101, m_impl_InChunks K⟩
def x_101 (K : Nat) := xF s_101 [(54, c_100 K)] [] 10 [] [(1, [.frzB 102 25, .frzB 103 44])] [] [] [.tmp 4]
theorem sp_101 (K : Nat) : OkF 15 (c_101 K) :=
 ctrF (x := x_101 K) (L := []) (c0 := bd Tryz.f15) (xkF (gam_cons (sp_100 K) gam_nil) ov_nil) (by intro a0 a1; show @Eq _ _ _; kernel_rfl) cuts_nil Tryz.func15 trivial
def j_impl_Apart_1 (K : Nat) (v1 : T_impl_Thing) (v2 : T_impl_Thing) : Option (Bool) := some (decide ((iSub .u64 (IntKind.u64.wrap v1.fAt) (IntKind.u64.wrap v2.fAt)) ≥ (IntKind.u64.wrap v2.fLen)))
def m_impl_Apart (K : Nat) (a0 : T_impl_Thing) (a1 : T_impl_Thing) : Option (Bool) := (bif (decide (a0.fLen ≤ 0)) then some true else (bif (decide (a1.fLen ≤ 0)) then some true else (bif (decide (a0.fAt > a1.fAt)) then (j_impl_Apart_1 K a0 a1) else (j_impl_Apart_1 K a1 a0))))
def s_102 : Sig := ⟨[.v 89, .v 89], [.v 4], true⟩
def c_102 (K : Nat) : Ctr tyU := ⟨s_102, m_impl_Apart K⟩
def x_102 (K : Nat) := xF s_102 [] [] 31 [7, 8] [] [] [7] [.tmp 4]
def h_102_7 : Shape := ⟨[(2, .p 102), (3, .p 103)], [(103, .st 89 true), (102, .st 89 true)]⟩
def M_102_7 (K : Nat) (q : PT h_102_7) : Rt s_102 := j_impl_Apart_1 K q.1 q.2.1
theorem e_102_7 (K : Nat) : AtJ (x_102 K) [] [] (bd Tryz.f59) 7 (M_102_7 K) := fun q => by kernel_rfl
theorem xk_102 (K : Nat) : XF [.tmp 4] s_102 31 [7] (x_102 K) := xkF gam_nil ov_nil
theorem k_102_7 (K : Nat) : CF [.tmp 4] s_102 31 [7] (bd Tryz.f59) [] 7 (ar h_102_7 (M_102_7 K)) :=
 joinF (xk_102 K) (e_102_7 K) cuts_nil
theorem sp_102 (K : Nat) : OkF 59 (c_102 K) :=
 ctrF (x := x_102 K) (L := [(7, ar h_102_7 (M_102_7 K))]) (c0 := bd Tryz.f59) (xk_102 K) (by intro a0 a1; show @Eq _ _ _; kernel_rfl) (cuts_cons (k_102_7 K) cuts_nil) Tryz.func59 trivial
def m_impl_AllApart_1 (K : Nat) (a0 : T_impl_Thing) (a1 : T_impl_Thing) : Option (Bool) := ((m_impl_Apart K a0 a1).bind fun r1 => some (!r1))
def s_103 : Sig := ⟨[.v 89, .r 89], [.v 4], true⟩
def c_103 (K : Nat) : Ctr tyU := ⟨s_103, m_impl_AllApart_1 K⟩
def x_103 (K : Nat) := xF s_103 [(59, c_102 K)] [] 8 [] [] [] [] [.tmp 3]
theorem sp_103 (K : Nat) : OkF 58 (c_103 K) :=
 ctrF (x := x_103 K) (L := []) (c0 := bd Tryz.f58) (xkF (gam_cons (sp_102 K) gam_nil) ov_nil) (by intro a0 a1; show @Eq _ _ _; kernel_rfl) cuts_nil Tryz.func58 trivial
def l_slices_IndexFunc_impl_Thing_impl_AllApart_1_1 (K : Nat) (a0 : List T_impl_Thing) (a1_0 : T_impl_Thing) : Nat -> Int -> Int -> Option (Int)
 | 0, _, _ => none
 | n1 + 1, v1, v2 => (bif (decide (v2 < v1)) then (if (0 : Int) ≤ v2 ∧ v2 < (a0.length : Int) then ((m_impl_AllApart_1 K (gt a0 v2) a1_0).bind fun r3 => (bif r3 then some v2 else (l_slices_IndexFunc_impl_Thing_impl_AllApart_1_1 K a0 a1_0 n1 v1 (iAdd .i64 v2 1)))) else none) else some (-1))
def m_slices_IndexFunc_impl_Thing_impl_AllApart_1 (K : Nat) (a0 : List T_impl_Thing) (a1_0 : T_impl_Thing) : Option (Int) := (l_slices_IndexFunc_impl_Thing_impl_AllApart_1_1 K a0 a1_0 K (a0.length : Int) 0)
def s_104 : Sig := ⟨[.v 41, .f 58 [] [89]], [.v 3], true⟩
def c_104 (K : Nat) : Ctr tyU := ⟨s_104, m_slices_IndexFunc_impl_Thing_impl_AllApart_1 K⟩
def x_104 (K : Nat) := xF s_104 [(58, c_103 K)] [] 19 [] [] [] [] [.tmp 4]
def h_104_26 : Shape := ⟨[(0, .v 41), (1, .f 58 [] [89]), (7, .v 2), (8, .v 2)], []⟩
def M_104_26 (K : Nat) (n : Nat) (q : PT h_104_26) : Rt s_104 := l_slices_IndexFunc_impl_Thing_impl_AllApart_1_1 K q.1 q.2.1 n q.2.2.1 q.2.2.2.1
theorem e_104_26 (K : Nat) : AtL (x_104 K) (fun n => []) [] (bd Tryz.f122) 26 (M_104_26 K) := fun n q => by kernel_rfl
theorem xk_104 (K : Nat) : XF [.tmp 4] s_104 19 [] (x_104 K) := xkF (gam_cons (sp_103 K) gam_nil) ov_nil
theorem k_104_26 (K : Nat) (n : Nat) : CF [.tmp 4] s_104 19 [] (bd Tryz.f122) [] 26 (ar h_104_26 (M_104_26 K n)) :=
 loopF (xk_104 K) (e_104_26 K) (fun n => cuts_nil) n
theorem sp_104 (K : Nat) : OkF 122 (c_104 K) :=
 ctrF (x := x_104 K) (L := [(26, ar h_104_26 (M_104_26 K K))]) (c0 := bd Tryz.f122) (xk_104 K) (by intro a0 a1_0; show @Eq _ _ _; kernel_rfl) (cuts_cons (k_104_26 K K) cuts_nil) Tryz.func122 trivial
def m_slices_ContainsFunc_impl_Thing_impl_AllApart_1 (K : Nat) (a0 : List T_impl_Thing) (a1_0 : T_impl_Thing) : Option (Bool) := ((m_slices_IndexFunc_impl_Thing_impl_AllApart_1 K a0 a1_0).bind fun r1 => some (decide (r1 ≥ 0)))
def s_105 : Sig := ⟨[.v 41, .f 58 [] [89]], [.v 4], true⟩
def c_105 (K : Nat) : Ctr tyU := ⟨s_105, m_slices_ContainsFunc_impl_Thing_impl_AllApart_1 K⟩
def x_105 (K : Nat) := xF s_105 [(122, c_104 K)] [] 9 [] [] [] [] [.tmp 4]
theorem sp_105 (K : Nat) : OkF 54 (c_105 K) :=
 ctrF (x := x_105 K) (L := []) (c0 := bd Tryz.f54) (xkF (gam_cons (sp_104 K) gam_nil) ov_nil) (by intro a0 a1_0; show @Eq _ _ _; kernel_rfl) cuts_nil Tryz.func54 trivial
def l_impl_AllApart_1 (K : Nat) (a0 : List T_impl_Thing) : Nat -> (List T_impl_Thing) -> Int -> Int -> Option (Bool)
 | 0, _, _, _ => none
 | n1 + 1, v1, v2, v3 => (bif (decide (v3 < v2)) then (if (0 : Int) ≤ v3 ∧ v3 < (v1.length : Int) then (if (0 : Int) ≤ 0 ∧ 0 ≤ v3 ∧ v3 ≤ (a0.length : Int) then ((m_slices_ContainsFunc_impl_Thing_impl_AllApart_1 K ((a0.drop (0 : Int).toNat).take (v3 - 0).toNat) (gt v1 v3)).bind fun r4 => (bif r4 then some false else (l_impl_AllApart_1 K a0 n1 v1 v2 (iAdd .i64 v3 1)))) else none) else none) else some true)
def m_impl_AllApart (K : Nat) (a0 : List T_impl_Thing) : Option (Bool) := (l_impl_AllApart_1 K a0 K a0 (a0.length : Int) 0)
def s_106 : Sig := ⟨[.v 41], [.v 4], true⟩
def c_106 (K : Nat) : Ctr tyU := ⟨s_106, m_impl_AllApart K⟩
def x_106 (K : Nat) := xF s_106 [(54, c_105 K)] [] 18 [] [(4, [.frzB 104 89])] [] [] [.tmp 2]
def h_106_26 : Shape := ⟨[(0, .v 41), (5, .v 41), (6, .v 2), (7, .v 2)], []⟩
def M_106_26 (K : Nat) (n : Nat) (q : PT h_106_26) : Rt s_106 := l_impl_AllApart_1 K q.1 n q.2.1 q.2.2.1 q.2.2.2.1
theorem e_106_26 (K : Nat) : AtL (x_106 K) (fun n => []) [] (bd Tryz.f17) 26 (M_106_26 K) := fun n q => by kernel_rfl
theorem xk_106 (K : Nat) : XF [.tmp 2] s_106 18 [] (x_106 K) := xkF (gam_cons (sp_105 K) gam_nil) ov_nil
theorem k_106_26 (K : Nat) (n : Nat) : CF [.tmp 2] s_106 18 [] (bd Tryz.f17) [] 26 (ar h_106_26 (M_106_26 K n)) :=
 loopF (xk_106 K) (e_106_26 K) (fun n => cuts_nil) n
theorem sp_106 (K : Nat) : OkF 17 (c_106 K) :=
 ctrF (x := x_106 K) (L := [(26, ar h_106_26 (M_106_26 K K))]) (c0 := bd Tryz.f17) (xk_106 K) (by intro a0; show @Eq _ _ _; kernel_rfl) (cuts_cons (k_106_26 K K) cuts_nil) Tryz.func17 trivial
def m_impl_World_slotsOk_1 (K : Nat) (a0 : T_impl_Thing) (a1 : T_impl_Thing) : Option (Bool) := ((m_impl_Apart K a0 a1).bind fun r1 => some (!r1))
def s_107 : Sig := ⟨[.v 89, .r 89], [.v 4], true⟩
def c_107 (K : Nat) : Ctr tyU := ⟨s_107, m_impl_World_slotsOk_1 K⟩
def x_107 (K : Nat) := xF s_107 [(59, c_102 K)] [] 8 [] [] [] [] [.tmp 3]
theorem sp_107 (K : Nat) : OkF 230 (c_107 K) :=
 ctrF (x := x_107 K) (L := []) (c0 := bd Tryz.f230) (xkF (gam_cons (sp_102 K) gam_nil) ov_nil) (by intro a0 a1; show @Eq _ _ _; kernel_rfl) cuts_nil Tryz.func230 trivial
def l_slices_IndexFunc_impl_Thing_impl_World_slotsOk_1_1 (K : Nat) (a0 : List T_impl_Thing) (a1_0 : T_impl_Thing) : Nat -> Int -> Int -> Option (Int)
 | 0, _, _ => none
 | n1 + 1, v1, v2 => (bif (decide (v2 < v1)) then (if (0 : Int) ≤ v2 ∧ v2 < (a0.length : Int) then ((m_impl_World_slotsOk_1 K (gt a0 v2) a1_0).bind fun r3 => (bif r3 then some v2 else (l_slices_IndexFunc_impl_Thing_impl_World_slotsOk_1_1 K a0 a1_0 n1 v1 (iAdd .i64 v2 1)))) else none) else some (-1))
def m_slices_IndexFunc_impl_Thing_impl_World_slotsOk_1 (K : Nat) (a0 : List T_impl_Thing) (a1_0 : T_impl_Thing) : Option (Int) := (l_slices_IndexFunc_impl_Thing_impl_World_slotsOk_1_1 K a0 a1_0 K (a0.length : Int) 0)
def s_108 : Sig := ⟨[.v 41, .f 230 [] [89]], [.v 3], true⟩
def c_108 (K : Nat) : Ctr tyU := ⟨s_108, m_slices_IndexFunc_impl_Thing_impl_World_slotsOk_1 K⟩
def x_108 (K : Nat) := xF s_108 [(230, c_107 K)] [] 19 [] [] [] [] [.tmp 4]
def h_108_26 : Shape := ⟨[(0, .v 41), (1, .f 230 [] [89]), (7, .v 2), (8, .v 2)], []⟩
def M_108_26 (K : Nat) (n : Nat) (q : PT h_108_26) : Rt s_108 := l_slices_IndexFunc_impl_Thing_impl_World_slotsOk_1_1 K q.1 q.2.1 n q.2.2.1 q.2.2.2.1
theorem e_108_26 (K : Nat) : AtL (x_108 K) (fun n => []) [] (bd Tryz.f122) 26 (M_108_26 K) := fun n q => by kernel_rfl
theorem xk_108 (K : Nat) : XF [.tmp 4] s_108 19 [] (x_108 K) := xkF (gam_cons (sp_107 K) gam_nil) ov_nil
theorem k_108_26 (K : Nat) (n : Nat) : CF [.tmp 4] s_108 19 [] (bd Tryz.f122) [] 26 (ar h_108_26 (M_108_26 K n)) :=
 loopF (xk_108 K) (e_108_26 K) (fun n => cuts_nil) n
theorem sp_108 (K : Nat) : OkF 122 (c_108 K) :=
 ctrF (x := x_108 K) (L := [(26, ar h_108_26 (M_108_26 K K))]) (c0 := bd Tryz.f122) (xk_108 K) (by intro a0 a1_0; show @Eq _ _ _; kernel_rfl) (cuts_cons (k_108_26 K K) cuts_nil) Tryz.func122 trivial
def m_slices_ContainsFunc_impl_Thing_impl_World_slotsOk_1 (K : Nat) (a0 : List T_impl_Thing) (a1_0 : T_impl_Thing) : Option (Bool) := ((m_slices_IndexFunc_impl_Thing_impl_World_slotsOk_1 K a0 a1_0).bind fun r1 => some (decide (r1 ≥ 0)))
def s_109 : Sig := ⟨[.v 41, .f 230 [] [89]], [.v 4], true⟩
def c_109 (K : Nat) : Ctr tyU := ⟨s_109, m_slices_ContainsFunc_impl_Thing_impl_World_slotsOk_1 K⟩
def x_109 (K : Nat) := xF s_109 [(122, c_108 K)] [] 9 [] [] [] [] [.tmp 4]
theorem sp_109 (K : Nat) : OkF 54 (c_109 K) :=
 ctrF (x := x_109 K) (L := []) (c0 := bd Tryz.f54) (xkF (gam_cons (sp_108 K) gam_nil) ov_nil) (by intro a0 a1_0; show @Eq _ _ _; kernel_rfl) cuts_nil Tryz.func54 trivial
def j_impl_World_slotsOk_2 (K : Nat) (v1 : List T_impl_Node) (v2 : Int) (v3 : Int) (v4 : Int) (v5 : Int) (v6 : Int) (v7 : Int) (v8 : Int) (v9 : Int) (v10 : List Int) (v11 : List Int) (v12 : List Int) (v13 : List T_impl_Node) (v14 : List T_impl_Waste) (v15 : List Int) (C1 : (List T_impl_Node) -> Int -> Int -> Int -> Int -> Int -> Int -> Int -> Int -> (List Int) -> (List Int) -> (List Int) -> (List T_impl_Node) -> (List T_impl_Waste) -> (List Int) -> Option (Bool)) : Option (Bool) := (C1 v1 v2 (iAdd .i64 v3 1) v4 v5 v6 v7 v8 v9 v10 v11 v12 v13 v14 v15)
def l_impl_World_slotsOk_1 (K : Nat) : Nat -> (List T_impl_Node) -> Int -> Int -> Int -> Int -> Int -> Int -> Int -> Int -> (List Int) -> (List Int) -> (List Int) -> (List T_impl_Node) -> (List T_impl_Waste) -> (List Int) -> Option (Bool)
 | 0, _, _, _, _, _, _, _, _, _, _, _, _, _, _, _ => none
 | n1 + 1, v1, v2, v3, v4, v5, v6, v7, v8, v9, v10, v11, v12, v13, v14, v15 => (bif (decide (v3 < v2)) then (if (0 : Int) ≤ v3 ∧ v3 < (v1.length : Int) then ((m_slices_Clone_int K ((gt v1 v3).fChunks)).bind fun r16 => ((m_slices_Sort_int K r16).bind fun r17 => (if r17.length = r16.length then ((m_impl_NodeOk K (T_impl_Conf.mk v4 v5 v6 v7 v8 v9) (gt v1 v3)).bind fun r18 => (bif r18 then ((m_impl_OwnedBy K (T_impl_Pool.mk v10 v11 v12) v3).bind fun r19 => ((m_slices_Equal_int K r17 r19).bind fun r20 => (bif r20 then ((m_impl_InChunks K (T_impl_Conf.mk v4 v5 v6 v7 v8 v9) (gt v1 v3)).bind fun r21 => (bif r21 then ((m_impl_AllApart K ((gt v1 v3).fThings)).bind fun r22 => (bif (!r22) then some false else (bif (((gt v1 v3).fCur) == 0) then (j_impl_World_slotsOk_2 K v1 v2 v3 v4 v5 v6 v7 v8 v9 v10 v11 v12 v13 v14 v15 (l_impl_World_slotsOk_1 K n1)) else (if (0 : Int) ≤ ((T_impl_Thing.mk (iAdd .i64 (iMul .i64 (iSub .i64 ((gt v1 v3).fCur) 1) v5) ((gt v1 v3).fBump)) (iSub .i64 v5 ((gt v1 v3).fBump)) 0).fAt) ∧ ((T_impl_Thing.mk (iAdd .i64 (iMul .i64 (iSub .i64 ((gt v1 v3).fCur) 1) v5) ((gt v1 v3).fBump)) (iSub .i64 v5 ((gt v1 v3).fBump)) 0).fAt) ≤ (iAdd .i64 ((T_impl_Thing.mk (iAdd .i64 (iMul .i64 (iSub .i64 ((gt v1 v3).fCur) 1) v5) ((gt v1 v3).fBump)) (iSub .i64 v5 ((gt v1 v3).fBump)) 0).fAt) ((T_impl_Thing.mk (iAdd .i64 (iMul .i64 (iSub .i64 ((gt v1 v3).fCur) 1) v5) ((gt v1 v3).fBump)) (iSub .i64 v5 ((gt v1 v3).fBump)) 0).fLen)) ∧ (iAdd .i64 ((T_impl_Thing.mk (iAdd .i64 (iMul .i64 (iSub .i64 ((gt v1 v3).fCur) 1) v5) ((gt v1 v3).fBump)) (iSub .i64 v5 ((gt v1 v3).fBump)) 0).fAt) ((T_impl_Thing.mk (iAdd .i64 (iMul .i64 (iSub .i64 ((gt v1 v3).fCur) 1) v5) ((gt v1 v3).fBump)) (iSub .i64 v5 ((gt v1 v3).fBump)) 0).fLen)) ≤ (v10.length : Int) then ((m_impl_IsZero K ((v10.drop ((T_impl_Thing.mk (iAdd .i64 (iMul .i64 (iSub .i64 ((gt v1 v3).fCur) 1) v5) ((gt v1 v3).fBump)) (iSub .i64 v5 ((gt v1 v3).fBump)) 0).fAt).toNat).take ((iAdd .i64 ((T_impl_Thing.mk (iAdd .i64 (iMul .i64 (iSub .i64 ((gt v1 v3).fCur) 1) v5) ((gt v1 v3).fBump)) (iSub .i64 v5 ((gt v1 v3).fBump)) 0).fAt) ((T_impl_Thing.mk (iAdd .i64 (iMul .i64 (iSub .i64 ((gt v1 v3).fCur) 1) v5) ((gt v1 v3).fBump)) (iSub .i64 v5 ((gt v1 v3).fBump)) 0).fLen)) - ((T_impl_Thing.mk (iAdd .i64 (iMul .i64 (iSub .i64 ((gt v1 v3).fCur) 1) v5) ((gt v1 v3).fBump)) (iSub .i64 v5 ((gt v1 v3).fBump)) 0).fAt)).toNat)).bind fun r23 => (bif r23 then ((m_slices_ContainsFunc_impl_Thing_impl_World_slotsOk_1 K ((gt v1 v3).fThings) (T_impl_Thing.mk (iAdd .i64 (iMul .i64 (iSub .i64 ((gt v1 v3).fCur) 1) v5) ((gt v1 v3).fBump)) (iSub .i64 v5 ((gt v1 v3).fBump)) 0)).bind fun r24 => (bif r24 then some false else (j_impl_World_slotsOk_2 K v1 v2 v3 v4 v5 v6 v7 v8 v9 v10 v11 v12 v13 v14 v15 (l_impl_World_slotsOk_1 K n1)))) else some false)) else none)))) else some false)) else some false))) else some false)) else none))) else none) else some true)
def m_impl_World_slotsOk (K : Nat) (a0 : T_impl_World) : Option (Bool) := (l_impl_World_slotsOk_1 K K a0.fL (a0.fL.length : Int) 0 a0.fC.fChunks a0.fC.fSize a0.fC.fSlots a0.fC.fTax a0.fC.fSlice a0.fC.fGens a0.fP.fMem a0.fP.fSt a0.fP.fOwn a0.fL a0.fQ a0.fLog)
def s_110 : Sig := ⟨[.v 32], [.v 4], true⟩
def c_110 (K : Nat) : Ctr tyU := ⟨s_110, m_impl_World_slotsOk K⟩
def x_110 (K : Nat) := xF s_110 [(15, c_101 K), (16, c_97 K), (17, c_106 K), (54, c_109 K), (160, c_76 K), (167, c_96 K), (226, c_74 K), (228, c_slices_Sort_int K), (229, c_78 K)] [] 87 [23, 24, 25, 31, 32, 33, 34, 38, 39, 40, 41, 78, 79, 80] [(10, [.frzB 106 89])] [] [211] [.tmp 2]
def h_110_211 : Shape := ⟨[(1, .p 101), (8, .v 29), (9, .v 2), (10, .v 2)], [(101, .box [.v 2, .v 2, .v 2, .v 2, .v 2, .v 2, .v 22, .v 26, .v 26, .v 29, .v 30, .v 26])]⟩
def h_110_26 : Shape := ⟨[(1, .p 101), (8, .v 29), (9, .v 2), (10, .v 2)], [(101, .box [.v 2, .v 2, .v 2, .v 2, .v 2, .v 2, .v 22, .v 26, .v 26, .v 29, .v 30, .v 26])]⟩
def M_110_211 (K : Nat) (C26 : CT h_110_26 s_110) (q : PT h_110_211) : Rt s_110 := j_impl_World_slotsOk_2 K q.1 q.2.1 q.2.2.1 q.2.2.2.1 q.2.2.2.2.1 q.2.2.2.2.2.1 q.2.2.2.2.2.2.1 q.2.2.2.2.2.2.2.1 q.2.2.2.2.2.2.2.2.1 q.2.2.2.2.2.2.2.2.2.1 q.2.2.2.2.2.2.2.2.2.2.1 q.2.2.2.2.2.2.2.2.2.2.2.1 q.2.2.2.2.2.2.2.2.2.2.2.2.1 q.2.2.2.2.2.2.2.2.2.2.2.2.2.1 q.2.2.2.2.2.2.2.2.2.2.2.2.2.2.1 (fun v1 v2 v3 v4 v5 v6 v7 v8 v9 v10 v11 v12 v13 v14 v15 => C26 (v1, v2, v3, v4, v5, v6, v7, v8, v9, v10, v11, v12, v13, v14, v15, ()))
def M_110_26 (K : Nat) (n : Nat) (q : PT h_110_26) : Rt s_110 := l_impl_World_slotsOk_1 K n q.1 q.2.1 q.2.2.1 q.2.2.2.1 q.2.2.2.2.1 q.2.2.2.2.2.1 q.2.2.2.2.2.2.1 q.2.2.2.2.2.2.2.1 q.2.2.2.2.2.2.2.2.1 q.2.2.2.2.2.2.2.2.2.1 q.2.2.2.2.2.2.2.2.2.2.1 q.2.2.2.2.2.2.2.2.2.2.2.1 q.2.2.2.2.2.2.2.2.2.2.2.2.1 q.2.2.2.2.2.2.2.2.2.2.2.2.2.1 q.2.2.2.2.2.2.2.2.2.2.2.2.2.2.1
theorem e_110_211 (K : Nat) (C26 : CT h_110_26 s_110) : AtJ (x_110 K) [] [(26, ar h_110_26 C26)] (bd Tryz.f154) 211 (M_110_211 K C26) := fun q => by kernel_rfl
theorem e_110_26 (K : Nat) : AtL (x_110 K) (fun n => [(211, ar h_110_211 (M_110_211 K (M_110_26 K n)))]) [] (bd Tryz.f154) 26 (M_110_26 K) := fun n q => by kernel_rfl
theorem xk_110 (K : Nat) : XF [.tmp 2] s_110 87 [211] (x_110 K) := xkF (gam_cons (sp_101 K) (gam_cons (sp_97 K) (gam_cons (sp_106 K) (gam_cons (sp_109 K) (gam_cons (sp_76 K) (gam_cons (sp_96 K) (gam_cons (sp_74 K) (gam_cons (sp_slices_Sort_int K) (gam_cons (sp_78 K) gam_nil))))))))) ov_nil
theorem k_110_211 (K : Nat) (C26 : CT h_110_26 s_110) : CF [.tmp 2] s_110 87 [211] (bd Tryz.f154) [(26, ar h_110_26 C26)] 211 (ar h_110_211 (M_110_211 K C26)) :=
 joinF (xk_110 K) (e_110_211 K C26) cuts_nil
theorem k_110_26 (K : Nat) (n : Nat) : CF [.tmp 2] s_110 87 [211] (bd Tryz.f154) [] 26 (ar h_110_26 (M_110_26 K n)) :=
 loopF (xk_110 K) (e_110_26 K) (fun n => (cuts_cons (k_110_211 K (M_110_26 K n)) cuts_nil)) n
theorem sp_110 (K : Nat) : OkF 154 (c_110 K) :=
 ctrF (x := x_110 K) (L := [(26, ar h_110_26 (M_110_26 K K))]) (c0 := bd Tryz.f154) (xk_110 K) (by intro a0; show @Eq _ _ _; kernel_rfl) (cuts_cons (k_110_26 K K) cuts_nil) Tryz.func154 trivial
def m_impl_isSlot (K : Nat) (a0 : List T_impl_Node) (a1 : Int) : Option (Bool) := ((m_impl_within K a1 0 (iSub .i64 (a0.length : Int) 1)).bind fun r1 => some r1)
def s_111 : Sig := ⟨[.v 29, .v 3], [.v 4], true⟩
def c_111 (K : Nat) : Ctr tyU := ⟨s_111, m_impl_isSlot K⟩
def x_111 (K : Nat) := xF s_111 [(88, c_67 K)] [] 10 [] [] [] [] [.tmp 4]
theorem sp_111 (K : Nat) : OkF 171 (c_111 K) :=
 ctrF (x := x_111 K) (L := []) (c0 := bd Tryz.f171) (xkF (gam_cons (sp_67 K) gam_nil) ov_nil) (by intro a0 a1; show @Eq _ _ _; kernel_rfl) cuts_nil Tryz.func171 trivial
def m_impl_isLive (K : Nat) (a0 : List T_impl_Node) (a1 : Int) : Option (Bool) := (bif (a1 == 0) then some true else ((m_impl_isSlot K a0 (iSub .i64 a1 1)).bind fun r1 => (bif r1 then (if (0 : Int) ≤ (iSub .i64 a1 1) ∧ (iSub .i64 a1 1) < (a0.length : Int) then some (((gt a0 (iSub .i64 a1 1)).fSt) == 1) else none) else some false)))
def s_112 : Sig := ⟨[.v 29, .v 3], [.v 4], true⟩
def c_112 (K : Nat) : Ctr tyU := ⟨s_112, m_impl_isLive K⟩
def x_112 (K : Nat) := xF s_112 [(171, c_111 K)] [] 22 [6, 7, 11, 12] [] [] [] [.tmp 4]
theorem sp_112 (K : Nat) : OkF 271 (c_112 K) :=
 ctrF (x := x_112 K) (L := []) (c0 := bd Tryz.f271) (xkF (gam_cons (sp_111 K) gam_nil) ov_nil) (by intro a0 a1; show @Eq _ _ _; kernel_rfl) cuts_nil Tryz.func271 trivial
def m_impl_isCurrent (K : Nat) (a0 : List T_impl_Node) (a1 : Int) : Option (Bool) := (if (0 : Int) ≤ a1 ∧ a1 < (a0.length : Int) then ((m_impl_isSlot K a0 (iSub .i64 ((gt a0 a1).fUp) 1)).bind fun r1 => (bif r1 then (if (0 : Int) ≤ (iSub .i64 ((gt a0 a1).fUp) 1) ∧ (iSub .i64 ((gt a0 a1).fUp) 1) < (a0.length : Int) then (bif (((gt a0 (iSub .i64 ((gt a0 a1).fUp) 1)).fSt) == 1) then (if (0 : Int) ≤ (iSub .i64 ((gt a0 a1).fUp) 1) ∧ (iSub .i64 ((gt a0 a1).fUp) 1) < (a0.length : Int) then (if (0 : Int) ≤ a1 ∧ a1 < (a0.length : Int) then some (((gt a0 (iSub .i64 ((gt a0 a1).fUp) 1)).fEp) == ((gt a0 a1).fUpEp)) else none) else none) else some false) else none) else some false)) else none)
def s_113 : Sig := ⟨[.v 29, .v 3], [.v 4], true⟩
def c_113 (K : Nat) : Ctr tyU := ⟨s_113, m_impl_isCurrent K⟩
def x_113 (K : Nat) := xF s_113 [(171, c_111 K)] [] 36 [14, 15, 21, 22, 23] [] [] [] [.tmp 4]
theorem sp_113 (K : Nat) : OkF 233 (c_113 K) :=
 ctrF (x := x_113 K) (L := []) (c0 := bd Tryz.f233) (xkF (gam_cons (sp_111 K) gam_nil) ov_nil) (by intro a0 a1; show @Eq _ _ _; kernel_rfl) cuts_nil Tryz.func233 trivial
def j_impl_linksOk_4 (K : Nat) (a0 : List T_impl_Node) (a1 : Int) (v8 : Int) (v12 : Int) : Option (Bool) := (bif (v12 != 0) then some true else ((m_impl_isCurrent K a0 a1).bind fun r18 => (bif r18 then (if (0 : Int) ≤ (iSub .i64 v8 1) ∧ (iSub .i64 v8 1) < (a0.length : Int) then some (((gt a0 (iSub .i64 v8 1)).fFirst) == (iAdd .i64 a1 1)) else none) else some true)))
def j_impl_linksOk_3 (K : Nat) (a0 : List T_impl_Node) (a1 : Int) (v8 : Int) (v12 : Int) : Option (Bool) := (bif (v12 != 0) then (if (0 : Int) ≤ (iSub .i64 v12 1) ∧ (iSub .i64 v12 1) < (a0.length : Int) then (bif (((gt a0 (iSub .i64 v12 1)).fNext) != (iAdd .i64 a1 1)) then some false else (j_impl_linksOk_4 K a0 a1 v8 v12)) else none) else (j_impl_linksOk_4 K a0 a1 v8 v12))
def j_impl_linksOk_2 (K : Nat) (a0 : List T_impl_Node) (a1 : Int) (v8 : Int) (v9 : Int) (v11 : Int) (v12 : Int) : Option (Bool) := (bif (v11 != 0) then (if (0 : Int) ≤ (iSub .i64 v11 1) ∧ (iSub .i64 v11 1) < (a0.length : Int) then (bif (((gt a0 (iSub .i64 v11 1)).fPrev) != (iAdd .i64 a1 1)) then some false else (bif (((gt a0 (iSub .i64 v11 1)).fUp) != v8) then some false else (bif (((gt a0 (iSub .i64 v11 1)).fUpEp) != v9) then some false else (j_impl_linksOk_3 K a0 a1 v8 v12)))) else none) else (j_impl_linksOk_3 K a0 a1 v8 v12))
def j_impl_linksOk_1 (K : Nat) (a0 : List T_impl_Node) (a1 : Int) (v5 : Int) (v6 : Int) (v7 : Int) (v8 : Int) (v9 : Int) (v10 : Int) (v11 : Int) (v12 : Int) (v13 : List Int) (v14 : Int) (v15 : Int) (v16 : List T_impl_Thing) (v17 : List Int) : Option (Bool) := (bif (v10 != 0) then (if (0 : Int) ≤ (iSub .i64 v10 1) ∧ (iSub .i64 v10 1) < (a0.length : Int) then (bif (((gt a0 (iSub .i64 v10 1)).fPrev) != 0) then some false else (bif (((gt a0 (iSub .i64 v10 1)).fUp) != (iAdd .i64 a1 1)) then some false else (bif (((gt a0 (iSub .i64 v10 1)).fUpEp) != v7) then some false else (j_impl_linksOk_2 K a0 a1 v8 v9 v11 v12)))) else none) else (j_impl_linksOk_2 K a0 a1 v8 v9 v11 v12))
def m_impl_linksOk (K : Nat) (a0 : List T_impl_Node) (a1 : Int) : Option (Bool) := (if (0 : Int) ≤ a1 ∧ a1 < (a0.length : Int) then ((m_impl_isLive K a0 ((gt a0 a1).fFirst)).bind fun r1 => (bif r1 then ((m_impl_isLive K a0 ((gt a0 a1).fNext)).bind fun r2 => (bif r2 then ((m_impl_isLive K a0 ((gt a0 a1).fPrev)).bind fun r3 => (bif r3 then (bif (((gt a0 a1).fUp) != 0) then ((m_impl_isSlot K a0 (iSub .i64 ((gt a0 a1).fUp) 1)).bind fun r4 => (bif (!r4) then some false else (j_impl_linksOk_1 K a0 a1 ((gt a0 a1).fSt) ((gt a0 a1).fGen) ((gt a0 a1).fEp) ((gt a0 a1).fUp) ((gt a0 a1).fUpEp) ((gt a0 a1).fFirst) ((gt a0 a1).fNext) ((gt a0 a1).fPrev) ((gt a0 a1).fChunks) ((gt a0 a1).fCur) ((gt a0 a1).fBump) ((gt a0 a1).fThings) ((gt a0 a1).fTags)))) else (j_impl_linksOk_1 K a0 a1 ((gt a0 a1).fSt) ((gt a0 a1).fGen) ((gt a0 a1).fEp) ((gt a0 a1).fUp) ((gt a0 a1).fUpEp) ((gt a0 a1).fFirst) ((gt a0 a1).fNext) ((gt a0 a1).fPrev) ((gt a0 a1).fChunks) ((gt a0 a1).fCur) ((gt a0 a1).fBump) ((gt a0 a1).fThings) ((gt a0 a1).fTags))) else some false)) else some false)) else some false)) else none)
def s_114 : Sig := ⟨[.v 29, .v 3], [.v 4], true⟩
def c_114 (K : Nat) : Ctr tyU := ⟨s_114, m_impl_linksOk K⟩
def x_114 (K : Nat) := xF s_114 [(171, c_111 K), (233, c_113 K), (271, c_112 K)] [] 134 [15, 16, 17, 21, 22, 23, 24, 28, 29, 30, 31, 34, 35, 55, 56, 61, 62, 63, 83, 84, 89, 90, 91, 100, 101, 115, 116, 119, 120, 121, 122] [] [] [7, 15, 31, 63] [.tmp 4]
def h_114_63 : Shape := ⟨[(0, .v 29), (1, .v 2), (5, .p 105)], [(105, .box [.v 2, .v 2, .v 2, .v 2, .v 2, .v 2, .v 2, .v 2, .v 26, .v 2, .v 2, .v 41, .v 26])]⟩
def h_114_31 : Shape := ⟨[(0, .v 29), (1, .v 2), (5, .p 105)], [(105, .box [.v 2, .v 2, .v 2, .v 2, .v 2, .v 2, .v 2, .v 2, .v 26, .v 2, .v 2, .v 41, .v 26])]⟩
def h_114_15 : Shape := ⟨[(0, .v 29), (1, .v 2), (5, .p 105)], [(105, .box [.v 2, .v 2, .v 2, .v 2, .v 2, .v 2, .v 2, .v 2, .v 26, .v 2, .v 2, .v 41, .v 26])]⟩
def h_114_7 : Shape := ⟨[(0, .v 29), (1, .v 2), (5, .p 105)], [(105, .box [.v 2, .v 2, .v 2, .v 2, .v 2, .v 2, .v 2, .v 2, .v 26, .v 2, .v 2, .v 41, .v 26])]⟩
def M_114_63 (K : Nat) (q : PT h_114_63) : Rt s_114 := j_impl_linksOk_4 K q.1 q.2.1 q.2.2.2.2.2.1 q.2.2.2.2.2.2.2.2.2.1
def M_114_31 (K : Nat) (q : PT h_114_31) : Rt s_114 := j_impl_linksOk_3 K q.1 q.2.1 q.2.2.2.2.2.1 q.2.2.2.2.2.2.2.2.2.1
def M_114_15 (K : Nat) (q : PT h_114_15) : Rt s_114 := j_impl_linksOk_2 K q.1 q.2.1 q.2.2.2.2.2.1 q.2.2.2.2.2.2.1 q.2.2.2.2.2.2.2.2.1 q.2.2.2.2.2.2.2.2.2.1
def M_114_7 (K : Nat) (q : PT h_114_7) : Rt s_114 := j_impl_linksOk_1 K q.1 q.2.1 q.2.2.1 q.2.2.2.1 q.2.2.2.2.1 q.2.2.2.2.2.1 q.2.2.2.2.2.2.1 q.2.2.2.2.2.2.2.1 q.2.2.2.2.2.2.2.2.1 q.2.2.2.2.2.2.2.2.2.1 q.2.2.2.2.2.2.2.2.2.2.1 q.2.2.2.2.2.2.2.2.2.2.2.1 q.2.2.2.2.2.2.2.2.2.2.2.2.1 q.2.2.2.2.2.2.2.2.2.2.2.2.2.1 q.2.2.2.2.2.2.2.2.2.2.2.2.2.2.1
theorem e_114_63 (K : Nat) : AtJ (x_114 K) [] [] (bd Tryz.f231) 63 (M_114_63 K) := fun q => by kernel_rfl
theorem e_114_31 (K : Nat) : AtJ (x_114 K) [(63, ar h_114_63 (M_114_63 K))] [] (bd Tryz.f231) 31 (M_114_31 K) := fun q => by kernel_rfl
theorem e_114_15 (K : Nat) : AtJ (x_114 K) [(31, ar h_114_31 (M_114_31 K))] [] (bd Tryz.f231) 15 (M_114_15 K) := fun q => by kernel_rfl
theorem e_114_7 (K : Nat) : AtJ (x_114 K) [(15, ar h_114_15 (M_114_15 K))] [] (bd Tryz.f231) 7 (M_114_7 K) := fun q => by kernel_rfl
theorem xk_114 (K : Nat) : XF [.tmp 4] s_114 134 [7, 15, 31, 63] (x_114 K) := xkF (gam_cons (sp_111 K) (gam_cons (sp_113 K) (gam_cons (sp_112 K) gam_nil))) ov_nil
theorem k_114_63 (K : Nat) : CF [.tmp 4] s_114 134 [7, 15, 31, 63] (bd Tryz.f231) [] 63 (ar h_114_63 (M_114_63 K)) :=
 joinF (xk_114 K) (e_114_63 K) cuts_nil
theorem k_114_31 (K : Nat) : CF [.tmp 4] s_114 134 [7, 15, 31, 63] (bd Tryz.f231) [] 31 (ar h_114_31 (M_114_31 K)) :=
 joinF (xk_114 K) (e_114_31 K) (cuts_cons (k_114_63 K) cuts_nil)
theorem k_114_15 (K : Nat) : CF [.tmp 4] s_114 134 [7, 15, 31, 63] (bd Tryz.f231) [] 15 (ar h_114_15 (M_114_15 K)) :=
 joinF (xk_114 K) (e_114_15 K) (cuts_cons (k_114_31 K) cuts_nil)
theorem k_114_7 (K : Nat) : CF [.tmp 4] s_114 134 [7, 15, 31, 63] (bd Tryz.f231) [] 7 (ar h_114_7 (M_114_7 K)) :=
 joinF (xk_114 K) (e_114_7 K) (cuts_cons (k_114_15 K) cuts_nil)
theorem sp_114 (K : Nat) : OkF 231 (c_114 K) :=
 ctrF (x := x_114 K) (L := [(7, ar h_114_7 (M_114_7 K))]) (c0 := bd Tryz.f231) (xk_114 K) (by intro a0 a1; show @Eq _ _ _; kernel_rfl) (cuts_cons (k_114_7 K) cuts_nil) Tryz.func231 trivial
def l_impl_Rise_1 (K : Nat) (a0 : List T_impl_Node) : Nat -> Int -> (List Int) -> Option ((List Int))
 | 0, _, _ => none
 | n1 + 1, v1, v2 => ((m_impl_isSlot K a0 v1).bind fun r3 => (bif r3 then (bif (decide ((v2.length : Int) < (a0.length : Int))) then (if (v2 ++ ([v1] : List Int)).length * 8 ≤ 140737488355328 ∧ (v2 ++ ([v1] : List Int)).length ≤ maxLen then (if (0 : Int) ≤ v1 ∧ v1 < (a0.length : Int) then (l_impl_Rise_1 K a0 n1 (iSub .i64 ((gt a0 v1).fUp) 1) (v2 ++ ([v1] : List Int))) else none) else none) else some v2) else some v2))
def m_impl_Rise (K : Nat) (a0 : List T_impl_Node) (a1 : Int) : Option ((List Int)) := (l_impl_Rise_1 K a0 K a1 ([] : List Int))
def s_115 : Sig := ⟨[.v 29, .v 3], [.n 26 true], true⟩
def c_115 (K : Nat) : Ctr tyU := ⟨s_115, m_impl_Rise K⟩
def x_115 (K : Nat) := xF s_115 [(171, c_111 K)] [] 28 [9, 10] [] [] [] [.tmp 4]
def h_115_28 : Shape := ⟨[(0, .v 29), (1, .v 2), (5, .o 1005 3 true)], []⟩
def M_115_28 (K : Nat) (n : Nat) (q : PT h_115_28) : Rt s_115 := l_impl_Rise_1 K q.1 n q.2.1 q.2.2.1
theorem e_115_28 (K : Nat) : AtL (x_115 K) (fun n => []) [] (bd Tryz.f232) 28 (M_115_28 K) := fun n q => by kernel_rfl
theorem xk_115 (K : Nat) : XF [.tmp 4] s_115 28 [] (x_115 K) := xkF (gam_cons (sp_111 K) gam_nil) ov_nil
theorem k_115_28 (K : Nat) (n : Nat) : CF [.tmp 4] s_115 28 [] (bd Tryz.f232) [] 28 (ar h_115_28 (M_115_28 K n)) :=
 loopF (xk_115 K) (e_115_28 K) (fun n => cuts_nil) n
theorem sp_115 (K : Nat) : OkF 232 (c_115 K) :=
 ctrF (x := x_115 K) (L := [(28, ar h_115_28 (M_115_28 K K))]) (c0 := bd Tryz.f232) (xk_115 K) (by intro a0 a1; show @Eq _ _ _; kernel_rfl) (cuts_cons (k_115_28 K K) cuts_nil) Tryz.func232 trivial
def j_impl_TreeOk_2 (K : Nat) (v1 : List T_impl_Node) (v2 : Int) (v3 : Int) (C1 : (List T_impl_Node) -> Int -> Int -> Option (Bool)) : Option (Bool) := (C1 v1 v2 (iAdd .i64 v3 1))
def l_impl_TreeOk_1 (K : Nat) (a0 : List T_impl_Node) : Nat -> (List T_impl_Node) -> Int -> Int -> Option (Bool)
 | 0, _, _, _ => none
 | n1 + 1, v1, v2, v3 => (bif (decide (v3 < v2)) then (if (0 : Int) ≤ v3 ∧ v3 < (v1.length : Int) then (bif (((gt v1 v3).fSt) != 1) then (j_impl_TreeOk_2 K v1 v2 v3 (l_impl_TreeOk_1 K a0 n1)) else ((m_impl_linksOk K a0 v3).bind fun r4 => (bif (!r4) then some false else ((m_impl_Rise K a0 v3).bind fun r5 => (bif (decide ((r5.length : Int) > 4)) then some false else (if (0 : Int) ≤ (iSub .i64 (r5.length : Int) 1) ∧ (iSub .i64 (r5.length : Int) 1) < (r5.length : Int) then ((m_impl_isCurrent K a0 (gt r5 (iSub .i64 (r5.length : Int) 1))).bind fun r6 => (bif r6 then some false else (j_impl_TreeOk_2 K v1 v2 v3 (l_impl_TreeOk_1 K a0 n1)))) else none)))))) else none) else some true)
def m_impl_TreeOk (K : Nat) (a0 : List T_impl_Node) : Option (Bool) := (l_impl_TreeOk_1 K a0 K a0 (a0.length : Int) 0)
def s_116 : Sig := ⟨[.v 29], [.v 4], true⟩
def c_116 (K : Nat) : Ctr tyU := ⟨s_116, m_impl_TreeOk K⟩
def x_116 (K : Nat) := xF s_116 [(231, c_114 K), (232, c_115 K), (233, c_113 K)] [] 37 [25, 26] [] [] [211] [.tmp 2]
def h_116_211 : Shape := ⟨[(0, .v 29), (6, .v 29), (7, .v 2), (8, .v 2)], []⟩
def h_116_26 : Shape := ⟨[(0, .v 29), (6, .v 29), (7, .v 2), (8, .v 2)], []⟩
def M_116_211 (K : Nat) (C26 : CT h_116_26 s_116) (q : PT h_116_211) : Rt s_116 := j_impl_TreeOk_2 K q.2.1 q.2.2.1 q.2.2.2.1 (fun v1 v2 v3 => C26 (q.1, v1, v2, v3, ()))
def M_116_26 (K : Nat) (n : Nat) (q : PT h_116_26) : Rt s_116 := l_impl_TreeOk_1 K q.1 n q.2.1 q.2.2.1 q.2.2.2.1
theorem e_116_211 (K : Nat) (C26 : CT h_116_26 s_116) : AtJ (x_116 K) [] [(26, ar h_116_26 C26)] (bd Tryz.f155) 211 (M_116_211 K C26) := fun q => by kernel_rfl
theorem e_116_26 (K : Nat) : AtL (x_116 K) (fun n => [(211, ar h_116_211 (M_116_211 K (M_116_26 K n)))]) [] (bd Tryz.f155) 26 (M_116_26 K) := fun n q => by kernel_rfl
theorem xk_116 (K : Nat) : XF [.tmp 2] s_116 37 [211] (x_116 K) := xkF (gam_cons (sp_114 K) (gam_cons (sp_115 K) (gam_cons (sp_113 K) gam_nil))) ov_nil
theorem k_116_211 (K : Nat) (C26 : CT h_116_26 s_116) : CF [.tmp 2] s_116 37 [211] (bd Tryz.f155) [(26, ar h_116_26 C26)] 211 (ar h_116_211 (M_116_211 K C26)) :=
 joinF (xk_116 K) (e_116_211 K C26) cuts_nil
theorem k_116_26 (K : Nat) (n : Nat) : CF [.tmp 2] s_116 37 [211] (bd Tryz.f155) [] 26 (ar h_116_26 (M_116_26 K n)) :=
 loopF (xk_116 K) (e_116_26 K) (fun n => (cuts_cons (k_116_211 K (M_116_26 K n)) cuts_nil)) n
theorem sp_116 (K : Nat) : OkF 155 (c_116 K) :=
 ctrF (x := x_116 K) (L := [(26, ar h_116_26 (M_116_26 K K))]) (c0 := bd Tryz.f155) (xk_116 K) (by intro a0; show @Eq _ _ _; kernel_rfl) (cuts_cons (k_116_26 K K) cuts_nil) Tryz.func155 trivial
def m_impl_isOrphan (K : Nat) (a0 : List T_impl_Node) (a1 : Int) : Option (Bool) := (if (0 : Int) ≤ a1 ∧ a1 < (a0.length : Int) then (bif (((gt a0 a1).fSt) == 1) then (if (0 : Int) ≤ a1 ∧ a1 < (a0.length : Int) then (bif (((gt a0 a1).fUp) != 0) then ((m_impl_isCurrent K a0 a1).bind fun r1 => some (!r1)) else some false) else none) else some false) else none)
def s_117 : Sig := ⟨[.v 29, .v 3], [.v 4], true⟩
def c_117 (K : Nat) : Ctr tyU := ⟨s_117, m_impl_isOrphan K⟩
def x_117 (K : Nat) := xF s_117 [(233, c_113 K)] [] 25 [10, 11, 17, 18, 19] [] [] [] [.tmp 4]
theorem sp_117 (K : Nat) : OkF 235 (c_117 K) :=
 ctrF (x := x_117 K) (L := []) (c0 := bd Tryz.f235) (xkF (gam_cons (sp_113 K) gam_nil) ov_nil) (by intro a0 a1; show @Eq _ _ _; kernel_rfl) cuts_nil Tryz.func235 trivial
def m_impl_WasteOk (K : Nat) (a0 : T_impl_Conf) (a1 : T_impl_Waste) : Option (Bool) := ((m_impl_ConfOk K a0).bind fun r1 => (bif r1 then ((m_impl_within K a1.fSlot 0 a0.fSlots).bind fun r2 => (bif r2 then ((m_impl_within K a1.fFirst 0 a0.fSlots).bind fun r3 => (bif r3 then (bif (decide ((a1.fTags.length : Int) ≤ 6)) then ((m_impl_areBytes K a1.fTags).bind fun r4 => (bif r4 then ((m_impl_distinct K a0 a1.fChunks).bind fun r5 => (bif r5 then ((m_impl_within K a1.fDone 0 (iSub .i64 a0.fSize 1)).bind fun r6 => (bif r6 then (bif (decide ((a1.fChunks.length : Int) > 0)) then some true else some (a1.fDone == 0)) else some false)) else some false)) else some false)) else some false) else some false)) else some false)) else some false))
def s_118 : Sig := ⟨[.v 25, .v 159], [.v 4], true⟩
def c_118 (K : Nat) : Ctr tyU := ⟨s_118, m_impl_WasteOk K⟩
def x_118 (K : Nat) := xF s_118 [(88, c_67 K), (157, c_88 K), (198, c_68 K), (240, c_84 K)] [] 57 [6, 7, 12, 13, 14, 19, 20, 21, 25, 26, 27, 30, 31, 32, 36, 37, 38, 44, 45, 46, 50, 51] [] [] [] [.tmp 4]
theorem sp_118 (K : Nat) : OkF 234 (c_118 K) :=
 ctrF (x := x_118 K) (L := []) (c0 := bd Tryz.f234) (xkF (gam_cons (sp_67 K) (gam_cons (sp_88 K) (gam_cons (sp_68 K) (gam_cons (sp_84 K) gam_nil)))) ov_nil) (by intro a0 a1; show @Eq _ _ _; kernel_rfl) cuts_nil Tryz.func234 trivial
def l_impl_KidsOf_1 (K : Nat) (a0 : List T_impl_Node) : Nat -> (List Int) -> Int -> Option ((List Int))
 | 0, _, _ => none
 | n1 + 1, v1, v2 => ((m_impl_isSlot K a0 v2).bind fun r3 => (bif r3 then (bif (decide ((v1.length : Int) < (a0.length : Int))) then (if (v1 ++ ([v2] : List Int)).length * 8 ≤ 140737488355328 ∧ (v1 ++ ([v2] : List Int)).length ≤ maxLen then (if (0 : Int) ≤ v2 ∧ v2 < (a0.length : Int) then (l_impl_KidsOf_1 K a0 n1 (v1 ++ ([v2] : List Int)) (iSub .i64 ((gt a0 v2).fNext) 1)) else none) else none) else some v1) else some v1))
def m_impl_KidsOf (K : Nat) (a0 : List T_impl_Node) (a1 : Int) : Option ((List Int)) := (l_impl_KidsOf_1 K a0 K ([] : List Int) (iSub .i64 a1 1))
def s_119 : Sig := ⟨[.v 29, .v 3], [.n 26 true], true⟩
def c_119 (K : Nat) : Ctr tyU := ⟨s_119, m_impl_KidsOf K⟩
def x_119 (K : Nat) := xF s_119 [(171, c_111 K)] [] 31 [12, 13] [] [] [] [.tmp 4]
def h_119_58 : Shape := ⟨[(0, .v 29), (5, .o 1005 3 true), (6, .v 2)], []⟩
def M_119_58 (K : Nat) (n : Nat) (q : PT h_119_58) : Rt s_119 := l_impl_KidsOf_1 K q.1 n q.2.1 q.2.2.1
theorem e_119_58 (K : Nat) : AtL (x_119 K) (fun n => []) [] (bd Tryz.f206) 58 (M_119_58 K) := fun n q => by kernel_rfl
theorem xk_119 (K : Nat) : XF [.tmp 4] s_119 31 [] (x_119 K) := xkF (gam_cons (sp_111 K) gam_nil) ov_nil
theorem k_119_58 (K : Nat) (n : Nat) : CF [.tmp 4] s_119 31 [] (bd Tryz.f206) [] 58 (ar h_119_58 (M_119_58 K n)) :=
 loopF (xk_119 K) (e_119_58 K) (fun n => cuts_nil) n
theorem sp_119 (K : Nat) : OkF 206 (c_119 K) :=
 ctrF (x := x_119 K) (L := [(58, ar h_119_58 (M_119_58 K K))]) (c0 := bd Tryz.f206) (xk_119 K) (by intro a0 a1; show @Eq _ _ _; kernel_rfl) (cuts_cons (k_119_58 K K) cuts_nil) Tryz.func206 trivial
def l_impl_World_wasteOk_6 (K : Nat) (v4 : List T_impl_Waste) (v5 : Int) (v6 : Int) (v7 : Int) (v8 : Int) (v9 : Int) (v10 : Int) (v11 : Int) (v12 : Int) (v13 : List Int) (v14 : List Int) (v15 : List Int) (v16 : List T_impl_Node) (v17 : List T_impl_Waste) (v18 : List Int) (v27 : List Int) (v31 : List Int) (r32 : (List Int)) (C1 : (List Int) -> (List Int) -> (List Int) -> (List T_impl_Waste) -> Int -> Int -> Int -> Int -> Int -> Int -> Int -> Int -> (List Int) -> (List Int) -> (List Int) -> (List T_impl_Node) -> (List T_impl_Waste) -> (List Int) -> Option (Bool)) : Nat -> (List Int) -> Int -> Int -> Option (Bool)
 | 0, _, _, _ => none
 | n6 + 1, v33, v34, v35 => (bif (decide (v35 < v34)) then (if (0 : Int) ≤ v35 ∧ v35 < (r32.length : Int) then (if (0 : Int) ≤ (gt r32 v35) ∧ (gt r32 v35) < (v33.length : Int) then (if (0 : Int) ≤ (gt r32 v35) ∧ (gt r32 v35) < (v33.length : Int) then ((m_impl_isOrphan K v16 (gt r32 v35)).bind fun r36 => (bif (!r36) then some false else (l_impl_World_wasteOk_6 K v4 v5 v6 v7 v8 v9 v10 v11 v12 v13 v14 v15 v16 v17 v18 v27 v31 r32 C1 n6 (v33.set (gt r32 v35).toNat (iAdd .i64 (gt v33 (gt r32 v35)) 1)) v34 (iAdd .i64 v35 1)))) else none) else none) else none) else (C1 v27 v31 v33 v4 v5 (iAdd .i64 v6 1) v7 v8 v9 v10 v11 v12 v13 v14 v15 v16 v17 v18))
def j_impl_World_wasteOk_5 (K : Nat) (v3 : List Int) (v4 : List T_impl_Waste) (v5 : Int) (v6 : Int) (v7 : Int) (v8 : Int) (v9 : Int) (v10 : Int) (v11 : Int) (v12 : Int) (v13 : List Int) (v14 : List Int) (v15 : List Int) (v16 : List T_impl_Node) (v17 : List T_impl_Waste) (v18 : List Int) (v23 : Int) (v27 : List Int) (v31 : List Int) (C1 : (List Int) -> (List Int) -> (List Int) -> (List T_impl_Waste) -> Int -> Int -> Int -> Int -> Int -> Int -> Int -> Int -> (List Int) -> (List Int) -> (List Int) -> (List T_impl_Node) -> (List T_impl_Waste) -> (List Int) -> Option (Bool)) : Option (Bool) := ((m_impl_KidsOf K v16 v23).bind fun r32 => (l_impl_World_wasteOk_6 K v4 v5 v6 v7 v8 v9 v10 v11 v12 v13 v14 v15 v16 v17 v18 v27 v31 r32 (C1) K v3 (r32.length : Int) 0))
def j_impl_World_wasteOk_4 (K : Nat) (v3 : List Int) (v4 : List T_impl_Waste) (v5 : Int) (v6 : Int) (v7 : Int) (v8 : Int) (v9 : Int) (v10 : Int) (v11 : Int) (v12 : Int) (v13 : List Int) (v14 : List Int) (v15 : List Int) (v16 : List T_impl_Node) (v17 : List T_impl_Waste) (v18 : List Int) (v23 : Int) (v27 : List Int) (C1 : (List Int) -> (List Int) -> (List Int) -> (List T_impl_Waste) -> Int -> Int -> Int -> Int -> Int -> Int -> Int -> Int -> (List Int) -> (List Int) -> (List Int) -> (List T_impl_Node) -> (List T_impl_Waste) -> (List Int) -> Option (Bool)) (v31 : List Int) : Option (Bool) := (bif (decide (v23 > 0)) then (if (0 : Int) ≤ (iSub .i64 v23 1) ∧ (iSub .i64 v23 1) < (v16.length : Int) then (bif (((gt v16 (iSub .i64 v23 1)).fPrev) != 0) then some false else (j_impl_World_wasteOk_5 K v3 v4 v5 v6 v7 v8 v9 v10 v11 v12 v13 v14 v15 v16 v17 v18 v23 v27 v31 (C1))) else none) else (j_impl_World_wasteOk_5 K v3 v4 v5 v6 v7 v8 v9 v10 v11 v12 v13 v14 v15 v16 v17 v18 v23 v27 v31 (C1)))
def l_impl_World_wasteOk_3 (K : Nat) (v2 : List Int) (v3 : List Int) (v4 : List T_impl_Waste) (v5 : Int) (v6 : Int) (v7 : Int) (v8 : Int) (v9 : Int) (v10 : Int) (v11 : Int) (v12 : Int) (v13 : List Int) (v14 : List Int) (v15 : List Int) (v16 : List T_impl_Node) (v17 : List T_impl_Waste) (v18 : List Int) (v22 : Int) (v23 : Int) (v25 : List Int) (C1 : (List Int) -> (List Int) -> (List Int) -> (List T_impl_Waste) -> Int -> Int -> Int -> Int -> Int -> Int -> Int -> Int -> (List Int) -> (List Int) -> (List Int) -> (List T_impl_Node) -> (List T_impl_Waste) -> (List Int) -> Option (Bool)) : Nat -> (List Int) -> Int -> Int -> (List Int) -> Option (Bool)
 | 0, _, _, _, _ => none
 | n3 + 1, v27, v28, v29, v30 => (bif (decide (v29 < v28)) then (if (0 : Int) ≤ v29 ∧ v29 < (v25.length : Int) then (if (0 : Int) ≤ (gt v25 v29) ∧ (gt v25 v29) < (v27.length : Int) then (if (0 : Int) ≤ (gt v25 v29) ∧ (gt v25 v29) < (v27.length : Int) then (if (0 : Int) ≤ (gt v25 v29) ∧ (gt v25 v29) < (v14.length : Int) then (bif ((gt v14 (gt v25 v29)) != 2) then some false else (l_impl_World_wasteOk_3 K v2 v3 v4 v5 v6 v7 v8 v9 v10 v11 v12 v13 v14 v15 v16 v17 v18 v22 v23 v25 C1 n3 (v27.set (gt v25 v29).toNat (iAdd .i64 (gt v27 (gt v25 v29)) 1)) v28 (iAdd .i64 v29 1) v30)) else none) else none) else none) else none) else (bif (decide (v22 > 0)) then (if (0 : Int) ≤ (iSub .i64 v22 1) ∧ (iSub .i64 v22 1) < (v2.length : Int) then (if (0 : Int) ≤ (iSub .i64 v22 1) ∧ (iSub .i64 v22 1) < (v2.length : Int) then (if (0 : Int) ≤ (iSub .i64 v22 1) ∧ (iSub .i64 v22 1) < (v16.length : Int) then (bif (((gt v16 (iSub .i64 v22 1)).fSt) != 2) then some false else (j_impl_World_wasteOk_4 K v3 v4 v5 v6 v7 v8 v9 v10 v11 v12 v13 v14 v15 v16 v17 v18 v23 v27 (C1) (v2.set (iSub .i64 v22 1).toNat (iAdd .i64 (gt v2 (iSub .i64 v22 1)) 1)))) else none) else none) else none) else (j_impl_World_wasteOk_4 K v3 v4 v5 v6 v7 v8 v9 v10 v11 v12 v13 v14 v15 v16 v17 v18 v23 v27 (C1) v2)))
def j_impl_World_wasteOk_2 (K : Nat) (v1 : List Int) (v2 : List Int) (v3 : List Int) (v4 : List T_impl_Waste) (v5 : Int) (v6 : Int) (v7 : Int) (v8 : Int) (v9 : Int) (v10 : Int) (v11 : Int) (v12 : Int) (v13 : List Int) (v14 : List Int) (v15 : List Int) (v16 : List T_impl_Node) (v17 : List T_impl_Waste) (v18 : List Int) (C1 : (List Int) -> (List Int) -> (List Int) -> (List T_impl_Waste) -> Int -> Int -> Int -> Int -> Int -> Int -> Int -> Int -> (List Int) -> (List Int) -> (List Int) -> (List T_impl_Node) -> (List T_impl_Waste) -> (List Int) -> Option (Bool)) (v22 : Int) (v23 : Int) (v24 : List Int) (v25 : List Int) (v26 : Int) : Option (Bool) := (l_impl_World_wasteOk_3 K v2 v3 v4 v5 v6 v7 v8 v9 v10 v11 v12 v13 v14 v15 v16 v17 v18 v22 v23 v25 (C1) K v1 (v25.length : Int) 0 v25)
def j_impl_World_wasteOk_8 (K : Nat) (v37 : Int) (v38 : Int) (v39 : List Int) (C7 : Int -> Int -> (List Int) -> Option (Bool)) : Option (Bool) := (C7 v37 (iAdd .i64 v38 1) v39)
def j_impl_World_wasteOk_10 (K : Nat) (v40 : Int) (v41 : Int) (v42 : List T_impl_Node) (C9 : Int -> Int -> (List T_impl_Node) -> Option (Bool)) : Option (Bool) := (C9 v40 (iAdd .i64 v41 1) v42)
def l_impl_World_wasteOk_9 (K : Nat) (v2 : List Int) (v3 : List Int) (v16 : List T_impl_Node) : Nat -> Int -> Int -> (List T_impl_Node) -> Option (Bool)
 | 0, _, _, _ => none
 | n9 + 1, v40, v41, v42 => (bif (decide (v41 < v40)) then (if (0 : Int) ≤ v41 ∧ v41 < (v16.length : Int) then (bif (((gt v16 v41).fSt) == 2) then (if (0 : Int) ≤ v41 ∧ v41 < (v2.length : Int) then (bif ((gt v2 v41) != 1) then some false else ((m_impl_isOrphan K v42 v41).bind fun r43 => (bif r43 then (if (0 : Int) ≤ v41 ∧ v41 < (v3.length : Int) then (bif ((gt v3 v41) != 1) then some false else (j_impl_World_wasteOk_10 K v40 v41 v42 (l_impl_World_wasteOk_9 K v2 v3 v16 n9))) else none) else (j_impl_World_wasteOk_10 K v40 v41 v42 (l_impl_World_wasteOk_9 K v2 v3 v16 n9))))) else none) else ((m_impl_isOrphan K v42 v41).bind fun r44 => (bif r44 then (if (0 : Int) ≤ v41 ∧ v41 < (v3.length : Int) then (bif ((gt v3 v41) != 1) then some false else (j_impl_World_wasteOk_10 K v40 v41 v42 (l_impl_World_wasteOk_9 K v2 v3 v16 n9))) else none) else (j_impl_World_wasteOk_10 K v40 v41 v42 (l_impl_World_wasteOk_9 K v2 v3 v16 n9))))) else none) else some true)
def l_impl_World_wasteOk_7 (K : Nat) (v1 : List Int) (v2 : List Int) (v3 : List Int) (v14 : List Int) (v16 : List T_impl_Node) : Nat -> Int -> Int -> (List Int) -> Option (Bool)
 | 0, _, _, _ => none
 | n7 + 1, v37, v38, v39 => (bif (decide (v38 < v37)) then (if (0 : Int) ≤ v38 ∧ v38 < (v14.length : Int) then (bif ((gt v14 v38) == 2) then (if (0 : Int) ≤ v38 ∧ v38 < (v1.length : Int) then (bif ((gt v1 v38) != 1) then some false else (j_impl_World_wasteOk_8 K v37 v38 v39 (l_impl_World_wasteOk_7 K v1 v2 v3 v14 v16 n7))) else none) else (j_impl_World_wasteOk_8 K v37 v38 v39 (l_impl_World_wasteOk_7 K v1 v2 v3 v14 v16 n7))) else none) else (l_impl_World_wasteOk_9 K v2 v3 v16 K (v16.length : Int) 0 v16))
def l_impl_World_wasteOk_1 (K : Nat) : Nat -> (List Int) -> (List Int) -> (List Int) -> (List T_impl_Waste) -> Int -> Int -> Int -> Int -> Int -> Int -> Int -> Int -> (List Int) -> (List Int) -> (List Int) -> (List T_impl_Node) -> (List T_impl_Waste) -> (List Int) -> Option (Bool)
 | 0, _, _, _, _, _, _, _, _, _, _, _, _, _, _, _, _, _, _ => none
 | n1 + 1, v1, v2, v3, v4, v5, v6, v7, v8, v9, v10, v11, v12, v13, v14, v15, v16, v17, v18 => (bif (decide (v6 < v5)) then (if (0 : Int) ≤ v6 ∧ v6 < (v4.length : Int) then ((m_impl_WasteOk K (T_impl_Conf.mk v7 v8 v9 v10 v11 v12) (gt v4 v6)).bind fun r19 => (bif r19 then (bif (decide ((((gt v4 v6).fChunks).length : Int) > 0)) then (if (0 : Int) ≤ 0 ∧ 0 < (((gt v4 v6).fChunks).length : Int) then ((m_impl_Pool_chunk K (T_impl_Pool.mk v13 v14 v15) (T_impl_Conf.mk v7 v8 v9 v10 v11 v12) (gt ((gt v4 v6).fChunks) 0)).bind fun r20 => (if (0 : Int) ≤ 0 ∧ 0 ≤ ((gt v4 v6).fDone) ∧ ((gt v4 v6).fDone) ≤ (r20.length : Int) then ((m_impl_IsZero K ((r20.drop (0 : Int).toNat).take (((gt v4 v6).fDone) - 0).toNat)).bind fun r21 => (bif (!r21) then some false else (j_impl_World_wasteOk_2 K v1 v2 v3 v4 v5 v6 v7 v8 v9 v10 v11 v12 v13 v14 v15 v16 v17 v18 (l_impl_World_wasteOk_1 K n1) ((gt v4 v6).fSlot) ((gt v4 v6).fFirst) ((gt v4 v6).fTags) ((gt v4 v6).fChunks) ((gt v4 v6).fDone)))) else none)) else none) else (j_impl_World_wasteOk_2 K v1 v2 v3 v4 v5 v6 v7 v8 v9 v10 v11 v12 v13 v14 v15 v16 v17 v18 (l_impl_World_wasteOk_1 K n1) ((gt v4 v6).fSlot) ((gt v4 v6).fFirst) ((gt v4 v6).fTags) ((gt v4 v6).fChunks) ((gt v4 v6).fDone))) else some false)) else none) else (l_impl_World_wasteOk_7 K v1 v2 v3 v14 v16 K (v14.length : Int) 0 v14))
def m_impl_World_wasteOk (K : Nat) (a0 : T_impl_World) : Option (Bool) := (if (0 : Int) ≤ a0.fC.fChunks ∧ a0.fC.fChunks ≤ a0.fC.fChunks ∧ (8 : Int) * a0.fC.fChunks ≤ 281474976710656 ∧ a0.fC.fChunks ≤ 9223372036854775807 then (if (0 : Int) ≤ a0.fC.fSlots ∧ a0.fC.fSlots ≤ a0.fC.fSlots ∧ (8 : Int) * a0.fC.fSlots ≤ 281474976710656 ∧ a0.fC.fSlots ≤ 9223372036854775807 then (if (0 : Int) ≤ a0.fC.fSlots ∧ a0.fC.fSlots ≤ a0.fC.fSlots ∧ (8 : Int) * a0.fC.fSlots ≤ 281474976710656 ∧ a0.fC.fSlots ≤ 9223372036854775807 then (l_impl_World_wasteOk_1 K K (List.replicate a0.fC.fChunks.toNat 0) (List.replicate a0.fC.fSlots.toNat 0) (List.replicate a0.fC.fSlots.toNat 0) a0.fQ (a0.fQ.length : Int) 0 a0.fC.fChunks a0.fC.fSize a0.fC.fSlots a0.fC.fTax a0.fC.fSlice a0.fC.fGens a0.fP.fMem a0.fP.fSt a0.fP.fOwn a0.fL a0.fQ a0.fLog) else none) else none) else none)
def s_120 : Sig := ⟨[.v 32], [.v 4], true⟩
def c_120 (K : Nat) : Ctr tyU := ⟨s_120, m_impl_World_wasteOk K⟩
def x_120 (K : Nat) := xF s_120 [(206, c_119 K), (226, c_74 K), (227, c_70 K), (234, c_118 K), (235, c_117 K)] [] 191 [38, 39, 40, 44, 45, 105, 106, 150, 151, 169, 170, 175, 176, 177, 181, 182] [] [] [979, 2003, 3737, 14951, 29903] [.tmp 2]
def h_120_239230 : Shape := ⟨[(1, .p 101), (3, .o 1003 3 true), (4, .o 1004 3 true), (5, .o 1005 3 true), (29, .v 30), (30, .v 2), (31, .v 2), (121, .v 26), (122, .v 2), (123, .v 2)], [(101, .box [.v 2, .v 2, .v 2, .v 2, .v 2, .v 2, .v 22, .v 26, .v 26, .v 29, .v 30, .v 26])]⟩
def h_120_29903 : Shape := ⟨[(1, .p 101), (3, .o 1003 3 true), (4, .o 1004 3 true), (5, .o 1005 3 true), (7, .p 107), (29, .v 30), (30, .v 2), (31, .v 2)], [(107, .box [.v 2, .v 2, .v 26, .v 26, .v 2]), (101, .box [.v 2, .v 2, .v 2, .v 2, .v 2, .v 2, .v 22, .v 26, .v 26, .v 29, .v 30, .v 26])]⟩
def h_120_14951 : Shape := ⟨[(1, .p 101), (3, .o 1003 3 true), (4, .o 1004 3 true), (5, .o 1005 3 true), (7, .p 107), (29, .v 30), (30, .v 2), (31, .v 2)], [(107, .box [.v 2, .v 2, .v 26, .v 26, .v 2]), (101, .box [.v 2, .v 2, .v 2, .v 2, .v 2, .v 2, .v 22, .v 26, .v 26, .v 29, .v 30, .v 26])]⟩
def h_120_59802 : Shape := ⟨[(1, .p 101), (3, .o 1003 3 true), (4, .o 1004 3 true), (5, .o 1005 3 true), (7, .p 107), (29, .v 30), (30, .v 2), (31, .v 2), (63, .v 26), (64, .v 2), (65, .v 2)], [(107, .box [.v 2, .v 2, .v 26, .v 26, .v 2]), (101, .box [.v 2, .v 2, .v 2, .v 2, .v 2, .v 2, .v 22, .v 26, .v 26, .v 29, .v 30, .v 26])]⟩
def h_120_3737 : Shape := ⟨[(1, .p 101), (3, .o 1003 3 true), (4, .o 1004 3 true), (5, .o 1005 3 true), (7, .p 107), (29, .v 30), (30, .v 2), (31, .v 2)], [(107, .box [.v 2, .v 2, .v 26, .v 26, .v 2]), (101, .box [.v 2, .v 2, .v 2, .v 2, .v 2, .v 2, .v 22, .v 26, .v 26, .v 29, .v 30, .v 26])]⟩
def h_120_979 : Shape := ⟨[(1, .p 101), (3, .o 1003 3 true), (4, .o 1004 3 true), (5, .o 1005 3 true), (142, .v 26), (143, .v 2), (144, .v 2)], [(101, .box [.v 2, .v 2, .v 2, .v 2, .v 2, .v 2, .v 22, .v 26, .v 26, .v 29, .v 30, .v 26])]⟩
def h_120_2003 : Shape := ⟨[(1, .p 101), (4, .o 1004 3 true), (5, .o 1005 3 true), (160, .v 29), (161, .v 2), (162, .v 2)], [(101, .box [.v 2, .v 2, .v 2, .v 2, .v 2, .v 2, .v 22, .v 26, .v 26, .v 29, .v 30, .v 26])]⟩
def h_120_250 : Shape := ⟨[(1, .p 101), (4, .o 1004 3 true), (5, .o 1005 3 true), (160, .v 29), (161, .v 2), (162, .v 2)], [(101, .box [.v 2, .v 2, .v 2, .v 2, .v 2, .v 2, .v 22, .v 26, .v 26, .v 29, .v 30, .v 26])]⟩
def h_120_122 : Shape := ⟨[(1, .p 101), (3, .o 1003 3 true), (4, .o 1004 3 true), (5, .o 1005 3 true), (142, .v 26), (143, .v 2), (144, .v 2)], [(101, .box [.v 2, .v 2, .v 2, .v 2, .v 2, .v 2, .v 22, .v 26, .v 26, .v 29, .v 30, .v 26])]⟩
def h_120_58 : Shape := ⟨[(1, .p 101), (3, .o 1003 3 true), (4, .o 1004 3 true), (5, .o 1005 3 true), (29, .v 30), (30, .v 2), (31, .v 2)], [(101, .box [.v 2, .v 2, .v 2, .v 2, .v 2, .v 2, .v 22, .v 26, .v 26, .v 29, .v 30, .v 26])]⟩
def M_120_239230 (K : Nat) (C58 : CT h_120_58 s_120) (n : Nat) (q : PT h_120_239230) : Rt s_120 := l_impl_World_wasteOk_6 K q.2.2.2.1 q.2.2.2.2.1 q.2.2.2.2.2.1 q.2.2.2.2.2.2.2.2.2.1 q.2.2.2.2.2.2.2.2.2.2.1 q.2.2.2.2.2.2.2.2.2.2.2.1 q.2.2.2.2.2.2.2.2.2.2.2.2.1 q.2.2.2.2.2.2.2.2.2.2.2.2.2.1 q.2.2.2.2.2.2.2.2.2.2.2.2.2.2.1 q.2.2.2.2.2.2.2.2.2.2.2.2.2.2.2.1 q.2.2.2.2.2.2.2.2.2.2.2.2.2.2.2.2.1 q.2.2.2.2.2.2.2.2.2.2.2.2.2.2.2.2.2.1 q.2.2.2.2.2.2.2.2.2.2.2.2.2.2.2.2.2.2.1 q.2.2.2.2.2.2.2.2.2.2.2.2.2.2.2.2.2.2.2.1 q.2.2.2.2.2.2.2.2.2.2.2.2.2.2.2.2.2.2.2.2.1 q.1 q.2.1 q.2.2.2.2.2.2.1 (fun v1 v2 v3 v4 v5 v6 v7 v8 v9 v10 v11 v12 v13 v14 v15 v16 v17 v18 => C58 (v1, v2, v3, v4, v5, v6, v7, v8, v9, v10, v11, v12, v13, v14, v15, v16, v17, v18, ())) n q.2.2.1 q.2.2.2.2.2.2.2.1 q.2.2.2.2.2.2.2.2.1
def M_120_29903 (K : Nat) (C58 : CT h_120_58 s_120) (q : PT h_120_29903) : Rt s_120 := j_impl_World_wasteOk_5 K q.2.2.1 q.2.2.2.1 q.2.2.2.2.1 q.2.2.2.2.2.1 q.2.2.2.2.2.2.2.2.2.2.2.1 q.2.2.2.2.2.2.2.2.2.2.2.2.1 q.2.2.2.2.2.2.2.2.2.2.2.2.2.1 q.2.2.2.2.2.2.2.2.2.2.2.2.2.2.1 q.2.2.2.2.2.2.2.2.2.2.2.2.2.2.2.1 q.2.2.2.2.2.2.2.2.2.2.2.2.2.2.2.2.1 q.2.2.2.2.2.2.2.2.2.2.2.2.2.2.2.2.2.1 q.2.2.2.2.2.2.2.2.2.2.2.2.2.2.2.2.2.2.1 q.2.2.2.2.2.2.2.2.2.2.2.2.2.2.2.2.2.2.2.1 q.2.2.2.2.2.2.2.2.2.2.2.2.2.2.2.2.2.2.2.2.1 q.2.2.2.2.2.2.2.2.2.2.2.2.2.2.2.2.2.2.2.2.2.1 q.2.2.2.2.2.2.2.2.2.2.2.2.2.2.2.2.2.2.2.2.2.2.1 q.2.2.2.2.2.2.2.1 q.1 q.2.1 (fun v1 v2 v3 v4 v5 v6 v7 v8 v9 v10 v11 v12 v13 v14 v15 v16 v17 v18 => C58 (v1, v2, v3, v4, v5, v6, v7, v8, v9, v10, v11, v12, v13, v14, v15, v16, v17, v18, ()))
def M_120_14951 (K : Nat) (C58 : CT h_120_58 s_120) (q : PT h_120_14951) : Rt s_120 := j_impl_World_wasteOk_4 K q.2.2.1 q.2.2.2.1 q.2.2.2.2.1 q.2.2.2.2.2.1 q.2.2.2.2.2.2.2.2.2.2.2.1 q.2.2.2.2.2.2.2.2.2.2.2.2.1 q.2.2.2.2.2.2.2.2.2.2.2.2.2.1 q.2.2.2.2.2.2.2.2.2.2.2.2.2.2.1 q.2.2.2.2.2.2.2.2.2.2.2.2.2.2.2.1 q.2.2.2.2.2.2.2.2.2.2.2.2.2.2.2.2.1 q.2.2.2.2.2.2.2.2.2.2.2.2.2.2.2.2.2.1 q.2.2.2.2.2.2.2.2.2.2.2.2.2.2.2.2.2.2.1 q.2.2.2.2.2.2.2.2.2.2.2.2.2.2.2.2.2.2.2.1 q.2.2.2.2.2.2.2.2.2.2.2.2.2.2.2.2.2.2.2.2.1 q.2.2.2.2.2.2.2.2.2.2.2.2.2.2.2.2.2.2.2.2.2.1 q.2.2.2.2.2.2.2.2.2.2.2.2.2.2.2.2.2.2.2.2.2.2.1 q.2.2.2.2.2.2.2.1 q.1 (fun v1 v2 v3 v4 v5 v6 v7 v8 v9 v10 v11 v12 v13 v14 v15 v16 v17 v18 => C58 (v1, v2, v3, v4, v5, v6, v7, v8, v9, v10, v11, v12, v13, v14, v15, v16, v17, v18, ())) q.2.1
def M_120_59802 (K : Nat) (C58 : CT h_120_58 s_120) (n : Nat) (q : PT h_120_59802) : Rt s_120 := l_impl_World_wasteOk_3 K q.2.1 q.2.2.1 q.2.2.2.1 q.2.2.2.2.1 q.2.2.2.2.2.1 q.2.2.2.2.2.2.2.2.2.2.2.2.2.2.1 q.2.2.2.2.2.2.2.2.2.2.2.2.2.2.2.1 q.2.2.2.2.2.2.2.2.2.2.2.2.2.2.2.2.1 q.2.2.2.2.2.2.2.2.2.2.2.2.2.2.2.2.2.1 q.2.2.2.2.2.2.2.2.2.2.2.2.2.2.2.2.2.2.1 q.2.2.2.2.2.2.2.2.2.2.2.2.2.2.2.2.2.2.2.1 q.2.2.2.2.2.2.2.2.2.2.2.2.2.2.2.2.2.2.2.2.1 q.2.2.2.2.2.2.2.2.2.2.2.2.2.2.2.2.2.2.2.2.2.1 q.2.2.2.2.2.2.2.2.2.2.2.2.2.2.2.2.2.2.2.2.2.2.1 q.2.2.2.2.2.2.2.2.2.2.2.2.2.2.2.2.2.2.2.2.2.2.2.1 q.2.2.2.2.2.2.2.2.2.2.2.2.2.2.2.2.2.2.2.2.2.2.2.2.1 q.2.2.2.2.2.2.2.2.2.2.2.2.2.2.2.2.2.2.2.2.2.2.2.2.2.1 q.2.2.2.2.2.2.2.2.2.1 q.2.2.2.2.2.2.2.2.2.2.1 q.2.2.2.2.2.2.1 (fun v1 v2 v3 v4 v5 v6 v7 v8 v9 v10 v11 v12 v13 v14 v15 v16 v17 v18 => C58 (v1, v2, v3, v4, v5, v6, v7, v8, v9, v10, v11, v12, v13, v14, v15, v16, v17, v18, ())) n q.1 q.2.2.2.2.2.2.2.1 q.2.2.2.2.2.2.2.2.1 q.2.2.2.2.2.2.2.2.2.2.2.2.1
def M_120_3737 (K : Nat) (C58 : CT h_120_58 s_120) (q : PT h_120_3737) : Rt s_120 := j_impl_World_wasteOk_2 K q.1 q.2.1 q.2.2.1 q.2.2.2.1 q.2.2.2.2.1 q.2.2.2.2.2.1 q.2.2.2.2.2.2.2.2.2.2.2.1 q.2.2.2.2.2.2.2.2.2.2.2.2.1 q.2.2.2.2.2.2.2.2.2.2.2.2.2.1 q.2.2.2.2.2.2.2.2.2.2.2.2.2.2.1 q.2.2.2.2.2.2.2.2.2.2.2.2.2.2.2.1 q.2.2.2.2.2.2.2.2.2.2.2.2.2.2.2.2.1 q.2.2.2.2.2.2.2.2.2.2.2.2.2.2.2.2.2.1 q.2.2.2.2.2.2.2.2.2.2.2.2.2.2.2.2.2.2.1 q.2.2.2.2.2.2.2.2.2.2.2.2.2.2.2.2.2.2.2.1 q.2.2.2.2.2.2.2.2.2.2.2.2.2.2.2.2.2.2.2.2.1 q.2.2.2.2.2.2.2.2.2.2.2.2.2.2.2.2.2.2.2.2.2.1 q.2.2.2.2.2.2.2.2.2.2.2.2.2.2.2.2.2.2.2.2.2.2.1 (fun v1 v2 v3 v4 v5 v6 v7 v8 v9 v10 v11 v12 v13 v14 v15 v16 v17 v18 => C58 (v1, v2, v3, v4, v5, v6, v7, v8, v9, v10, v11, v12, v13, v14, v15, v16, v17, v18, ())) q.2.2.2.2.2.2.1 q.2.2.2.2.2.2.2.1 q.2.2.2.2.2.2.2.2.1 q.2.2.2.2.2.2.2.2.2.1 q.2.2.2.2.2.2.2.2.2.2.1
def M_120_979 (K : Nat) (C122 : CT h_120_122 s_120) (q : PT h_120_979) : Rt s_120 := j_impl_World_wasteOk_8 K q.2.2.2.2.1 q.2.2.2.2.2.1 q.2.2.2.2.2.2.2.2.2.2.2.2.2.1 (fun v37 v38 v39 => C122 (q.1, q.2.1, q.2.2.1, q.2.2.2.1, v37, v38, q.2.2.2.2.2.2.1, q.2.2.2.2.2.2.2.1, q.2.2.2.2.2.2.2.2.1, q.2.2.2.2.2.2.2.2.2.1, q.2.2.2.2.2.2.2.2.2.2.1, q.2.2.2.2.2.2.2.2.2.2.2.1, q.2.2.2.2.2.2.2.2.2.2.2.2.1, v39, q.2.2.2.2.2.2.2.2.2.2.2.2.2.2.1, q.2.2.2.2.2.2.2.2.2.2.2.2.2.2.2.1, q.2.2.2.2.2.2.2.2.2.2.2.2.2.2.2.2.1, q.2.2.2.2.2.2.2.2.2.2.2.2.2.2.2.2.2.1, ()))
def M_120_2003 (K : Nat) (C250 : CT h_120_250 s_120) (q : PT h_120_2003) : Rt s_120 := j_impl_World_wasteOk_10 K q.2.2.2.1 q.2.2.2.2.1 q.2.2.2.2.2.2.2.2.2.2.2.2.2.2.1 (fun v40 v41 v42 => C250 (q.1, q.2.1, q.2.2.1, v40, v41, q.2.2.2.2.2.1, q.2.2.2.2.2.2.1, q.2.2.2.2.2.2.2.1, q.2.2.2.2.2.2.2.2.1, q.2.2.2.2.2.2.2.2.2.1, q.2.2.2.2.2.2.2.2.2.2.1, q.2.2.2.2.2.2.2.2.2.2.2.1, q.2.2.2.2.2.2.2.2.2.2.2.2.1, q.2.2.2.2.2.2.2.2.2.2.2.2.2.1, v42, q.2.2.2.2.2.2.2.2.2.2.2.2.2.2.2.1, q.2.2.2.2.2.2.2.2.2.2.2.2.2.2.2.2.1, ()))
def M_120_250 (K : Nat) (n : Nat) (q : PT h_120_250) : Rt s_120 := l_impl_World_wasteOk_9 K q.1 q.2.1 q.2.2.1 n q.2.2.2.1 q.2.2.2.2.1 q.2.2.2.2.2.2.2.2.2.2.2.2.2.2.1
def M_120_122 (K : Nat) (n : Nat) (q : PT h_120_122) : Rt s_120 := l_impl_World_wasteOk_7 K q.1 q.2.1 q.2.2.1 q.2.2.2.1 q.2.2.2.2.2.2.2.2.2.2.2.2.2.2.2.1 n q.2.2.2.2.1 q.2.2.2.2.2.1 q.2.2.2.2.2.2.2.2.2.2.2.2.2.1
def M_120_58 (K : Nat) (n : Nat) (q : PT h_120_58) : Rt s_120 := l_impl_World_wasteOk_1 K n q.1 q.2.1 q.2.2.1 q.2.2.2.1 q.2.2.2.2.1 q.2.2.2.2.2.1 q.2.2.2.2.2.2.1 q.2.2.2.2.2.2.2.1 q.2.2.2.2.2.2.2.2.1 q.2.2.2.2.2.2.2.2.2.1 q.2.2.2.2.2.2.2.2.2.2.1 q.2.2.2.2.2.2.2.2.2.2.2.1 q.2.2.2.2.2.2.2.2.2.2.2.2.1 q.2.2.2.2.2.2.2.2.2.2.2.2.2.1 q.2.2.2.2.2.2.2.2.2.2.2.2.2.2.1 q.2.2.2.2.2.2.2.2.2.2.2.2.2.2.2.1 q.2.2.2.2.2.2.2.2.2.2.2.2.2.2.2.2.1 q.2.2.2.2.2.2.2.2.2.2.2.2.2.2.2.2.2.1
theorem e_120_239230 (K : Nat) (C58 : CT h_120_58 s_120) : AtL (x_120 K) (fun n => []) [(58, ar h_120_58 C58)] (bd Tryz.f156) 239230 (M_120_239230 K C58) := fun n q => by kernel_rfl
theorem e_120_29903 (K : Nat) (C58 : CT h_120_58 s_120) : AtJ (x_120 K) [(239230, ar h_120_239230 (M_120_239230 K C58 K))] [(58, ar h_120_58 C58)] (bd Tryz.f156) 29903 (M_120_29903 K C58) := fun q => by kernel_rfl
theorem e_120_14951 (K : Nat) (C58 : CT h_120_58 s_120) : AtJ (x_120 K) [(29903, ar h_120_29903 (M_120_29903 K C58))] [(58, ar h_120_58 C58)] (bd Tryz.f156) 14951 (M_120_14951 K C58) := fun q => by kernel_rfl
theorem e_120_59802 (K : Nat) (C58 : CT h_120_58 s_120) : AtL (x_120 K) (fun n => [(14951, ar h_120_14951 (M_120_14951 K C58))]) [(58, ar h_120_58 C58)] (bd Tryz.f156) 59802 (M_120_59802 K C58) := fun n q => by kernel_rfl
theorem e_120_3737 (K : Nat) (C58 : CT h_120_58 s_120) : AtJ (x_120 K) [(59802, ar h_120_59802 (M_120_59802 K C58 K))] [(58, ar h_120_58 C58)] (bd Tryz.f156) 3737 (M_120_3737 K C58) := fun q => by kernel_rfl
theorem e_120_979 (K : Nat) (C122 : CT h_120_122 s_120) : AtJ (x_120 K) [] [(122, ar h_120_122 C122)] (bd Tryz.f156) 979 (M_120_979 K C122) := fun q => by kernel_rfl
theorem e_120_2003 (K : Nat) (C250 : CT h_120_250 s_120) : AtJ (x_120 K) [] [(250, ar h_120_250 C250)] (bd Tryz.f156) 2003 (M_120_2003 K C250) := fun q => by kernel_rfl
theorem e_120_250 (K : Nat) : AtL (x_120 K) (fun n => [(2003, ar h_120_2003 (M_120_2003 K (M_120_250 K n)))]) [] (bd Tryz.f156) 250 (M_120_250 K) := fun n q => by kernel_rfl
theorem e_120_122 (K : Nat) : AtL (x_120 K) (fun n => [(979, ar h_120_979 (M_120_979 K (M_120_122 K n))), (250, ar h_120_250 (M_120_250 K K))]) [] (bd Tryz.f156) 122 (M_120_122 K) := fun n q => by kernel_rfl
theorem e_120_58 (K : Nat) : AtL (x_120 K) (fun n => [(3737, ar h_120_3737 (M_120_3737 K (M_120_58 K n))), (122, ar h_120_122 (M_120_122 K K))]) [] (bd Tryz.f156) 58 (M_120_58 K) := fun n q => by kernel_rfl
theorem xk_120 (K : Nat) : XF [.tmp 2] s_120 191 [979, 2003, 3737, 14951, 29903] (x_120 K) := xkF (gam_cons (sp_119 K) (gam_cons (sp_74 K) (gam_cons (sp_70 K) (gam_cons (sp_118 K) (gam_cons (sp_117 K) gam_nil))))) ov_nil
theorem k_120_239230 (K : Nat) (C58 : CT h_120_58 s_120) (n : Nat) : CF [.tmp 2] s_120 191 [979, 2003, 3737, 14951, 29903] (bd Tryz.f156) [(58, ar h_120_58 C58)] 239230 (ar h_120_239230 (M_120_239230 K C58 n)) :=
 loopF (xk_120 K) (e_120_239230 K C58) (fun n => cuts_nil) n
theorem k_120_29903 (K : Nat) (C58 : CT h_120_58 s_120) : CF [.tmp 2] s_120 191 [979, 2003, 3737, 14951, 29903] (bd Tryz.f156) [(58, ar h_120_58 C58)] 29903 (ar h_120_29903 (M_120_29903 K C58)) :=
 joinF (xk_120 K) (e_120_29903 K C58) (cuts_cons (k_120_239230 K C58 K) cuts_nil)
theorem k_120_14951 (K : Nat) (C58 : CT h_120_58 s_120) : CF [.tmp 2] s_120 191 [979, 2003, 3737, 14951, 29903] (bd Tryz.f156) [(58, ar h_120_58 C58)] 14951 (ar h_120_14951 (M_120_14951 K C58)) :=
 joinF (xk_120 K) (e_120_14951 K C58) (cuts_cons (k_120_29903 K C58) cuts_nil)
theorem k_120_59802 (K : Nat) (C58 : CT h_120_58 s_120) (n : Nat) : CF [.tmp 2] s_120 191 [979, 2003, 3737, 14951, 29903] (bd Tryz.f156) [(58, ar h_120_58 C58)] 59802 (ar h_120_59802 (M_120_59802 K C58 n)) :=
 loopF (xk_120 K) (e_120_59802 K C58) (fun n => (cuts_cons (cut_up (by kernel_rfl) (k_120_14951 K C58)) cuts_nil)) n
theorem k_120_3737 (K : Nat) (C58 : CT h_120_58 s_120) : CF [.tmp 2] s_120 191 [979, 2003, 3737, 14951, 29903] (bd Tryz.f156) [(58, ar h_120_58 C58)] 3737 (ar h_120_3737 (M_120_3737 K C58)) :=
 joinF (xk_120 K) (e_120_3737 K C58) (cuts_cons (k_120_59802 K C58 K) cuts_nil)
theorem k_120_979 (K : Nat) (C122 : CT h_120_122 s_120) : CF [.tmp 2] s_120 191 [979, 2003, 3737, 14951, 29903] (bd Tryz.f156) [(122, ar h_120_122 C122)] 979 (ar h_120_979 (M_120_979 K C122)) :=
 joinF (xk_120 K) (e_120_979 K C122) cuts_nil
theorem k_120_2003 (K : Nat) (C250 : CT h_120_250 s_120) : CF [.tmp 2] s_120 191 [979, 2003, 3737, 14951, 29903] (bd Tryz.f156) [(250, ar h_120_250 C250)] 2003 (ar h_120_2003 (M_120_2003 K C250)) :=
 joinF (xk_120 K) (e_120_2003 K C250) cuts_nil
theorem k_120_250 (K : Nat) (n : Nat) : CF [.tmp 2] s_120 191 [979, 2003, 3737, 14951, 29903] (bd Tryz.f156) [] 250 (ar h_120_250 (M_120_250 K n)) :=
 loopF (xk_120 K) (e_120_250 K) (fun n => (cuts_cons (k_120_2003 K (M_120_250 K n)) cuts_nil)) n
theorem k_120_122 (K : Nat) (n : Nat) : CF [.tmp 2] s_120 191 [979, 2003, 3737, 14951, 29903] (bd Tryz.f156) [] 122 (ar h_120_122 (M_120_122 K n)) :=
 loopF (xk_120 K) (e_120_122 K) (fun n => (cuts_cons (k_120_979 K (M_120_122 K n)) (cuts_cons (cut_up (by kernel_rfl) (k_120_250 K K)) cuts_nil))) n
theorem k_120_58 (K : Nat) (n : Nat) : CF [.tmp 2] s_120 191 [979, 2003, 3737, 14951, 29903] (bd Tryz.f156) [] 58 (ar h_120_58 (M_120_58 K n)) :=
 loopF (xk_120 K) (e_120_58 K) (fun n => (cuts_cons (k_120_3737 K (M_120_58 K n)) (cuts_cons (cut_up (by kernel_rfl) (k_120_122 K K)) cuts_nil))) n
theorem sp_120 (K : Nat) : OkF 156 (c_120 K) :=
 ctrF (x := x_120 K) (L := [(58, ar h_120_58 (M_120_58 K K))]) (c0 := bd Tryz.f156) (xk_120 K) (by intro a0; show @Eq _ _ _; kernel_rfl) (cuts_cons (k_120_58 K K) cuts_nil) Tryz.func156 trivial
def m_impl_WorldOk (K : Nat) (a0 : T_impl_World) : Option (Bool) := ((m_impl_PoolOk K a0.fC a0.fP).bind fun r1 => (bif r1 then (bif ((a0.fL.length : Int) == a0.fC.fSlots) then ((m_impl_World_slotsOk K a0).bind fun r2 => (bif r2 then ((m_impl_TreeOk K a0.fL).bind fun r3 => (bif r3 then ((m_impl_World_wasteOk K a0).bind fun r4 => (bif r4 then ((m_impl_areBytes K a0.fLog).bind fun r5 => some r5) else some false)) else some false)) else some false)) else some false) else some false))
def s_121 : Sig := ⟨[.v 32], [.v 4], true⟩
def c_121 (K : Nat) : Ctr tyU := ⟨s_121, m_impl_WorldOk K⟩
def x_121 (K : Nat) := xF s_121 [(153, c_75 K), (154, c_110 K), (155, c_116 K), (156, c_120 K), (157, c_88 K)] [] 35 [7, 8, 15, 16, 17, 19, 20, 21, 24, 25, 26, 28, 29, 30] [] [] [] [.tmp 2]
theorem sp_121 (K : Nat) : OkF 87 (c_121 K) :=
 ctrF (x := x_121 K) (L := []) (c0 := bd Tryz.f87) (xkF (gam_cons (sp_75 K) (gam_cons (sp_110 K) (gam_cons (sp_116 K) (gam_cons (sp_120 K) (gam_cons (sp_88 K) gam_nil))))) ov_nil) (by intro a0; show @Eq _ _ _; kernel_rfl) cuts_nil Tryz.func87 trivial
def m_slices_Clone_byte (K : Nat) (a0 : List Int) : Option ((List Int)) := (bif a0.isEmpty then both (some []) ((if (([] : List Int) ++ a0).length * 1 ≤ 140737488355328 ∧ (([] : List Int) ++ a0).length ≤ maxLen then some (([] : List Int) ++ a0) else none)) else (if (([] : List Int) ++ a0).length * 1 ≤ 140737488355328 ∧ (([] : List Int) ++ a0).length ≤ maxLen then some (([] : List Int) ++ a0) else none))
def s_122 : Sig := ⟨[.v 22], [.n 22 true], true⟩
def c_122 (K : Nat) : Ctr tyU := ⟨s_122, m_slices_Clone_byte K⟩
def x_122 (K : Nat) := xF s_122 [] [] 8 [] [] [] [] [.tmp 2]
theorem sp_122 (K : Nat) : OkF 188 (c_122 K) :=
 ctrF (x := x_122 K) (L := []) (c0 := bd Tryz.f188) (xkF gam_nil ov_nil) (by intro a0; show @Eq _ _ _; kernel_rfl) cuts_nil Tryz.func188 trivial
def m_impl_copyPool (K : Nat) (a0 : T_impl_Pool) : Option (T_impl_Pool) := ((m_slices_Clone_byte K a0.fMem).bind fun r1 => ((m_slices_Clone_int K a0.fSt).bind fun r2 => ((m_slices_Clone_int K a0.fOwn).bind fun r3 => some (T_impl_Pool.mk r1 r2 r3))))
def s_123 : Sig := ⟨[.v 28], [.n 28 true], true⟩
def c_123 (K : Nat) : Ctr tyU := ⟨s_123, m_impl_copyPool K⟩
def x_123 (K : Nat) := xF s_123 [(160, c_76 K), (188, c_122 K)] [] 13 [] [] [] [] [.cell 2 28]
theorem sp_123 (K : Nat) : OkF 158 (c_123 K) :=
 ctrF (x := x_123 K) (L := []) (c0 := bd Tryz.f158) (xkF (gam_cons (sp_76 K) (gam_cons (sp_122 K) gam_nil)) ov_nil) (by intro a0; show @Eq _ _ _; kernel_rfl) cuts_nil Tryz.func158 trivial
def m_slices_Clone_impl_Thing (K : Nat) (a0 : List T_impl_Thing) : Option ((List T_impl_Thing)) := (bif a0.isEmpty then both (some []) ((if (([] : List T_impl_Thing) ++ a0).length * 24 ≤ 140737488355328 ∧ (([] : List T_impl_Thing) ++ a0).length ≤ maxLen then some (([] : List T_impl_Thing) ++ a0) else none)) else (if (([] : List T_impl_Thing) ++ a0).length * 24 ≤ 140737488355328 ∧ (([] : List T_impl_Thing) ++ a0).length ≤ maxLen then some (([] : List T_impl_Thing) ++ a0) else none))
def s_124 : Sig := ⟨[.v 41], [.n 41 true], true⟩
def c_124 (K : Nat) : Ctr tyU := ⟨s_124, m_slices_Clone_impl_Thing K⟩
def x_124 (K : Nat) := xF s_124 [] [] 8 [] [] [] [] [.tmp 2]
theorem sp_124 (K : Nat) : OkF 273 (c_124 K) :=
 ctrF (x := x_124 K) (L := []) (c0 := bd Tryz.f273) (xkF gam_nil ov_nil) (by intro a0; show @Eq _ _ _; kernel_rfl) cuts_nil Tryz.func273 trivial
def m_impl_copyNode (K : Nat) (a0 : T_impl_Node) : Option (T_impl_Node) := ((m_slices_Clone_int K a0.fChunks).bind fun r1 => ((m_slices_Clone_impl_Thing K a0.fThings).bind fun r2 => ((m_slices_Clone_int K a0.fTags).bind fun r3 => some (T_impl_Node.mk a0.fSt a0.fGen a0.fEp a0.fUp a0.fUpEp a0.fFirst a0.fNext a0.fPrev r1 a0.fCur a0.fBump r2 r3))))
def s_125 : Sig := ⟨[.v 44], [.n 44 true], true⟩
def c_125 (K : Nat) : Ctr tyU := ⟨s_125, m_impl_copyNode K⟩
def x_125 (K : Nat) := xF s_125 [(160, c_76 K), (273, c_124 K)] [] 16 [] [] [] [] [.cell 2 44]
theorem sp_125 (K : Nat) : OkF 238 (c_125 K) :=
 ctrF (x := x_125 K) (L := []) (c0 := bd Tryz.f238) (xkF (gam_cons (sp_76 K) (gam_cons (sp_124 K) gam_nil)) ov_nil) (by intro a0; show @Eq _ _ _; kernel_rfl) cuts_nil Tryz.func238 trivial
def l_impl_copyTable_1 (K : Nat) (a0 : List T_impl_Node) : Nat -> (List T_impl_Node) -> Int -> Int -> Option ((List T_impl_Node))
 | 0, _, _, _ => none
 | n1 + 1, v1, v2, v3 => (bif (decide (v3 < v2)) then (if (0 : Int) ≤ v3 ∧ v3 < (a0.length : Int) then ((m_impl_copyNode K (gt a0 v3)).bind fun r4 => (if (v1 ++ [r4]).length * 152 ≤ 140737488355328 ∧ (v1 ++ [r4]).length ≤ maxLen then (l_impl_copyTable_1 K a0 n1 (v1 ++ [r4]) v2 (iAdd .i64 v3 1)) else none)) else none) else some v1)
def m_impl_copyTable (K : Nat) (a0 : List T_impl_Node) : Option ((List T_impl_Node)) := (l_impl_copyTable_1 K a0 K ([] : List T_impl_Node) (a0.length : Int) 0)
def s_126 : Sig := ⟨[.v 29], [.n 29 true], true⟩
def c_126 (K : Nat) : Ctr tyU := ⟨s_126, m_impl_copyTable K⟩
def x_126 (K : Nat) := xF s_126 [(238, c_125 K)] [] 20 [] [] [(16, [.put 3016])] [] [.tmp 2]
def h_126_58 : Shape := ⟨[(3, .o 1003 44 true), (7, .v 29), (8, .v 2), (9, .v 2)], []⟩
def M_126_58 (K : Nat) (n : Nat) (q : PT h_126_58) : Rt s_126 := l_impl_copyTable_1 K q.2.1 n q.1 q.2.2.1 q.2.2.2.1
theorem e_126_58 (K : Nat) : AtL (x_126 K) (fun n => []) [] (bd Tryz.f159) 58 (M_126_58 K) := fun n q => by kernel_rfl
theorem xk_126 (K : Nat) : XF [.tmp 2] s_126 20 [] (x_126 K) := xkF (gam_cons (sp_125 K) gam_nil) ov_nil
theorem k_126_58 (K : Nat) (n : Nat) : CF [.tmp 2] s_126 20 [] (bd Tryz.f159) [] 58 (ar h_126_58 (M_126_58 K n)) :=
 loopF (xk_126 K) (e_126_58 K) (fun n => cuts_nil) n
theorem sp_126 (K : Nat) : OkF 159 (c_126 K) :=
 ctrF (x := x_126 K) (L := [(58, ar h_126_58 (M_126_58 K K))]) (c0 := bd Tryz.f159) (xk_126 K) (by intro a0; show @Eq _ _ _; kernel_rfl) (cuts_cons (k_126_58 K K) cuts_nil) Tryz.func159 trivial
def m_impl_copyWaste (K : Nat) (a0 : T_impl_Waste) : Option (T_impl_Waste) := ((m_slices_Clone_int K a0.fTags).bind fun r1 => ((m_slices_Clone_int K a0.fChunks).bind fun r2 => some (T_impl_Waste.mk a0.fSlot a0.fFirst r1 r2 a0.fDone)))
def s_127 : Sig := ⟨[.v 159], [.n 159 true], true⟩
def c_127 (K : Nat) : Ctr tyU := ⟨s_127, m_impl_copyWaste K⟩
def x_127 (K : Nat) := xF s_127 [(160, c_76 K)] [] 12 [] [] [] [] [.cell 2 159]
theorem sp_127 (K : Nat) : OkF 161 (c_127 K) :=
 ctrF (x := x_127 K) (L := []) (c0 := bd Tryz.f161) (xkF (gam_cons (sp_76 K) gam_nil) ov_nil) (by intro a0; show @Eq _ _ _; kernel_rfl) cuts_nil Tryz.func161 trivial
def l_impl_copyWorld_1 (K : Nat) : Nat -> (List T_impl_Waste) -> Int -> Int -> T_impl_World -> T_impl_World -> Option (T_impl_World)
 | 0, _, _, _, _, _ => none
 | n1 + 1, v4, v5, v6, v7, v8 => (bif (decide (v6 < v5)) then (if (0 : Int) ≤ v6 ∧ v6 < (v4.length : Int) then ((m_impl_copyWaste K (gt v4 v6)).bind fun r9 => (if (v7.fQ.length + 1) * 72 ≤ 140737488355328 ∧ v7.fQ.length + 1 ≤ maxLen then (l_impl_copyWorld_1 K n1 v4 v5 (iAdd .i64 v6 1) (T_impl_World.mk v7.fC v7.fP v7.fL ((v7.fQ ++ [(default : T_impl_Waste)]).set (v7.fQ.length : Int).toNat r9) v7.fLog) v8) else none)) else none) else some v7)
def m_impl_copyWorld (K : Nat) (a0 : T_impl_World) : Option (T_impl_World) := ((m_impl_copyPool K a0.fP).bind fun r1 => ((m_impl_copyTable K a0.fL).bind fun r2 => ((m_slices_Clone_int K a0.fLog).bind fun r3 => (l_impl_copyWorld_1 K K a0.fQ (a0.fQ.length : Int) 0 (T_impl_World.mk a0.fC r1 r2 [] r3) (T_impl_World.mk (T_impl_Conf.mk 0 0 0 0 0 0) (T_impl_Pool.mk [] [] []) [] [] [])))))
def s_128 : Sig := ⟨[.v 32], [.n 32 true], true⟩
def c_128 (K : Nat) : Ctr tyU := ⟨s_128, m_impl_copyWorld K⟩
def x_128 (K : Nat) := xF s_128 [(158, c_123 K), (159, c_126 K), (160, c_76 K), (161, c_127 K)] [] 34 [] [(5, [.take 103 10 6658]), (7, [.take 103 6 6654, .take 103 7 6655, .take 103 8 6656, .take 103 9 6657, .take 103 10 6658, .take 103 11 6659])] [] [] [.cell 2 32]
def h_128_58 : Shape := ⟨[(2, .p 102), (3, .p 103), (19, .v 30), (20, .v 2), (21, .v 2)], [(103, .st 32 true), (102, .st 32 true)]⟩
def M_128_58 (K : Nat) (n : Nat) (q : PT h_128_58) : Rt s_128 := l_impl_copyWorld_1 K n q.1 q.2.1 q.2.2.1 q.2.2.2.1 q.2.2.2.2.1
theorem e_128_58 (K : Nat) : AtL (x_128 K) (fun n => []) [] (bd Tryz.f90) 58 (M_128_58 K) := fun n q => by kernel_rfl
theorem xk_128 (K : Nat) : XF [.cell 2 32] s_128 34 [] (x_128 K) := xkF (gam_cons (sp_123 K) (gam_cons (sp_126 K) (gam_cons (sp_76 K) (gam_cons (sp_127 K) gam_nil)))) ov_nil
theorem k_128_58 (K : Nat) (n : Nat) : CF [.cell 2 32] s_128 34 [] (bd Tryz.f90) [] 58 (ar h_128_58 (M_128_58 K n)) :=
 loopF (xk_128 K) (e_128_58 K) (fun n => cuts_nil) n
theorem sp_128 (K : Nat) : OkF 90 (c_128 K) :=
 ctrF (x := x_128 K) (L := [(58, ar h_128_58 (M_128_58 K K))]) (c0 := bd Tryz.f90) (xk_128 K) (by intro a0; show @Eq _ _ _; kernel_rfl) (cuts_cons (k_128_58 K K) cuts_nil) Tryz.func90 trivial
def m_impl_refused (K : Nat) (a0 : T_impl_World) (a1 : Int) : Option (T_impl_World × T_impl_Ans) := ((m_impl_copyWorld K a0).bind fun r1 => some (r1, (T_impl_Ans.mk a1 (T_impl_Handle.mk 0 0) (T_impl_Ref.mk (T_impl_Handle.mk 0 0) 0 0) [] 0 0 0)))
def s_129 : Sig := ⟨[.v 32, .v 3], [.n 32 true, .n 69 true], true⟩
def c_129 (K : Nat) : Ctr tyU := ⟨s_129, m_impl_refused K⟩
def x_129 (K : Nat) := xF s_129 [(90, c_128 K)] [] 10 [] [] [] [] [.cell 4 32, .cell 5 69]
theorem sp_129 (K : Nat) : OkF 89 (c_129 K) :=
 ctrF (x := x_129 K) (L := []) (c0 := bd Tryz.f89) (xkF (gam_cons (sp_128 K) gam_nil) ov_nil) (by intro a0 a1; show @Eq _ _ _; kernel_rfl) cuts_nil Tryz.func89 trivial
def m_impl_PlaceOf (K : Nat) (a0 : List T_impl_Node) (a1 : T_impl_Handle) : Option (Int) := ((m_impl_isSlot K a0 a1.fSlot).bind fun r1 => (bif r1 then (if (0 : Int) ≤ a1.fSlot ∧ a1.fSlot < (a0.length : Int) then (bif (((gt a0 a1.fSlot).fSt) != 1) then some (-1) else (if (0 : Int) ≤ a1.fSlot ∧ a1.fSlot < (a0.length : Int) then (bif (((gt a0 a1.fSlot).fGen) != a1.fGen) then some (-1) else some a1.fSlot) else none)) else none) else some (-1)))
def s_130 : Sig := ⟨[.v 29, .v 34], [.v 3], true⟩
def c_130 (K : Nat) : Ctr tyU := ⟨s_130, m_impl_PlaceOf K⟩
def x_130 (K : Nat) := xF s_130 [(171, c_111 K)] [] 32 [8, 9, 10, 17, 18, 19] [] [] [] [.tmp 4]
theorem sp_130 (K : Nat) : OkF 163 (c_130 K) :=
 ctrF (x := x_130 K) (L := []) (c0 := bd Tryz.f163) (xkF (gam_cons (sp_111 K) gam_nil) ov_nil) (by intro a0 a1; show @Eq _ _ _; kernel_rfl) cuts_nil Tryz.func163 trivial
def m_impl_DeepOf (K : Nat) (a0 : List T_impl_Node) (a1 : Int) : Option (Int) := ((m_impl_Rise K a0 a1).bind fun r1 => some (r1.length : Int))
def s_131 : Sig := ⟨[.v 29, .v 3], [.v 3], true⟩
def c_131 (K : Nat) : Ctr tyU := ⟨s_131, m_impl_DeepOf K⟩
def x_131 (K : Nat) := xF s_131 [(232, c_115 K)] [] 9 [] [] [] [] [.tmp 4]
theorem sp_131 (K : Nat) : OkF 162 (c_131 K) :=
 ctrF (x := x_131 K) (L := []) (c0 := bd Tryz.f162) (xkF (gam_cons (sp_115 K) gam_nil) ov_nil) (by intro a0 a1; show @Eq _ _ _; kernel_rfl) cuts_nil Tryz.func162 trivial
def m_impl_WalkOf (K : Nat) (a0 : T_impl_World) (a1 : T_impl_Handle) : Option (Int) := ((m_impl_PlaceOf K a0.fL a1).bind fun r1 => ((m_impl_DeepOf K a0.fL r1).bind fun r2 => some r2))
def s_132 : Sig := ⟨[.v 32, .v 34], [.v 3], true⟩
def c_132 (K : Nat) : Ctr tyU := ⟨s_132, m_impl_WalkOf K⟩
def x_132 (K : Nat) := xF s_132 [(162, c_131 K), (163, c_130 K)] [] 12 [] [] [] [] [.tmp 4]
theorem sp_132 (K : Nat) : OkF 91 (c_132 K) :=
 ctrF (x := x_132 K) (L := []) (c0 := bd Tryz.f91) (xkF (gam_cons (sp_131 K) (gam_cons (sp_130 K) gam_nil)) ov_nil) (by intro a0 a1; show @Eq _ _ _; kernel_rfl) cuts_nil Tryz.func91 trivial
def m_impl_HandleOk (K : Nat) (a0 : T_impl_Handle) : Option (Bool) := (bif (decide (a0.fSlot ≥ 0)) then some (decide (a0.fGen ≥ 1)) else some false)
def s_133 : Sig := ⟨[.v 34], [.v 4], true⟩
def c_133 (K : Nat) : Ctr tyU := ⟨s_133, m_impl_HandleOk K⟩
def x_133 (K : Nat) := xF s_133 [] [] 11 [5, 6] [] [] [] [.tmp 2]
theorem sp_133 (K : Nat) : OkF 164 (c_133 K) :=
 ctrF (x := x_133 K) (L := []) (c0 := bd Tryz.f164) (xkF gam_nil ov_nil) (by intro a0; show @Eq _ _ _; kernel_rfl) cuts_nil Tryz.func164 trivial
def j_impl_Alive_2 (K : Nat) (v2 : List Int) (v3 : Int) (v4 : Int) (C1 : (List Int) -> Int -> Int -> Option (Bool)) : Option (Bool) := (C1 v2 v3 (iAdd .i64 v4 1))
def l_impl_Alive_1 (K : Nat) (a0 : List T_impl_Node) (r1 : (List Int)) : Nat -> (List Int) -> Int -> Int -> Option (Bool)
 | 0, _, _, _ => none
 | n1 + 1, v2, v3, v4 => (bif (decide (v4 < v3)) then (if (0 : Int) ≤ v4 ∧ v4 < (v2.length : Int) then (if (0 : Int) ≤ (gt v2 v4) ∧ (gt v2 v4) < (a0.length : Int) then (bif (((gt a0 (gt v2 v4)).fSt) != 1) then some false else (bif (decide ((iAdd .i64 v4 1) < (r1.length : Int))) then (if (0 : Int) ≤ (gt v2 v4) ∧ (gt v2 v4) < (a0.length : Int) then (if (0 : Int) ≤ (iAdd .i64 v4 1) ∧ (iAdd .i64 v4 1) < (r1.length : Int) then (if (0 : Int) ≤ (gt r1 (iAdd .i64 v4 1)) ∧ (gt r1 (iAdd .i64 v4 1)) < (a0.length : Int) then (bif (((gt a0 (gt v2 v4)).fUpEp) != ((gt a0 (gt r1 (iAdd .i64 v4 1))).fEp)) then some false else (j_impl_Alive_2 K v2 v3 v4 (l_impl_Alive_1 K a0 r1 n1))) else none) else none) else none) else (j_impl_Alive_2 K v2 v3 v4 (l_impl_Alive_1 K a0 r1 n1)))) else none) else none) else (bif (decide ((r1.length : Int) > 0)) then (if (0 : Int) ≤ (iSub .i64 (r1.length : Int) 1) ∧ (iSub .i64 (r1.length : Int) 1) < (r1.length : Int) then (if (0 : Int) ≤ (gt r1 (iSub .i64 (r1.length : Int) 1)) ∧ (gt r1 (iSub .i64 (r1.length : Int) 1)) < (a0.length : Int) then some (((gt a0 (gt r1 (iSub .i64 (r1.length : Int) 1))).fUp) == 0) else none) else none) else some false))
def m_impl_Alive (K : Nat) (a0 : List T_impl_Node) (a1 : Int) : Option (Bool) := ((m_impl_Rise K a0 a1).bind fun r1 => (l_impl_Alive_1 K a0 r1 K r1 (r1.length : Int) 0))
def s_134 : Sig := ⟨[.v 29, .v 3], [.v 4], true⟩
def c_134 (K : Nat) : Ctr tyU := ⟨s_134, m_impl_Alive K⟩
def x_134 (K : Nat) := xF s_134 [(232, c_115 K)] [] 63 [28, 29, 49, 50] [] [] [467] [.tmp 4]
def h_134_467 : Shape := ⟨[(0, .v 29), (5, .v 26), (11, .v 26), (12, .v 2), (13, .v 2)], []⟩
def h_134_58 : Shape := ⟨[(0, .v 29), (5, .v 26), (11, .v 26), (12, .v 2), (13, .v 2)], []⟩
def M_134_467 (K : Nat) (C58 : CT h_134_58 s_134) (q : PT h_134_467) : Rt s_134 := j_impl_Alive_2 K q.2.2.1 q.2.2.2.1 q.2.2.2.2.1 (fun v2 v3 v4 => C58 (q.1, q.2.1, v2, v3, v4, ()))
def M_134_58 (K : Nat) (n : Nat) (q : PT h_134_58) : Rt s_134 := l_impl_Alive_1 K q.1 q.2.1 n q.2.2.1 q.2.2.2.1 q.2.2.2.2.1
theorem e_134_467 (K : Nat) (C58 : CT h_134_58 s_134) : AtJ (x_134 K) [] [(58, ar h_134_58 C58)] (bd Tryz.f165) 467 (M_134_467 K C58) := fun q => by kernel_rfl
theorem e_134_58 (K : Nat) : AtL (x_134 K) (fun n => [(467, ar h_134_467 (M_134_467 K (M_134_58 K n)))]) [] (bd Tryz.f165) 58 (M_134_58 K) := fun n q => by kernel_rfl
theorem xk_134 (K : Nat) : XF [.tmp 4] s_134 63 [467] (x_134 K) := xkF (gam_cons (sp_115 K) gam_nil) ov_nil
theorem k_134_467 (K : Nat) (C58 : CT h_134_58 s_134) : CF [.tmp 4] s_134 63 [467] (bd Tryz.f165) [(58, ar h_134_58 C58)] 467 (ar h_134_467 (M_134_467 K C58)) :=
 joinF (xk_134 K) (e_134_467 K C58) cuts_nil
theorem k_134_58 (K : Nat) (n : Nat) : CF [.tmp 4] s_134 63 [467] (bd Tryz.f165) [] 58 (ar h_134_58 (M_134_58 K n)) :=
 loopF (xk_134 K) (e_134_58 K) (fun n => (cuts_cons (k_134_467 K (M_134_58 K n)) cuts_nil)) n
theorem sp_134 (K : Nat) : OkF 165 (c_134 K) :=
 ctrF (x := x_134 K) (L := [(58, ar h_134_58 (M_134_58 K K))]) (c0 := bd Tryz.f165) (xk_134 K) (by intro a0 a1; show @Eq _ _ _; kernel_rfl) (cuts_cons (k_134_58 K K) cuts_nil) Tryz.func165 trivial
def m_impl_FindRoom (K : Nat) (a0 : T_impl_World) (a1 : T_impl_Handle) : Option (Int × Int) := ((m_impl_HandleOk K a1).bind fun r1 => (bif (!r1) then some ((-1), 1) else ((m_impl_PlaceOf K a0.fL a1).bind fun r2 => (bif (decide (r2 < 0)) then some ((-1), 2) else ((m_impl_Alive K a0.fL r2).bind fun r3 => (bif (!r3) then some ((-1), 2) else some (r2, 0)))))))
def s_135 : Sig := ⟨[.v 32, .v 34], [.v 3, .v 3], true⟩
def c_135 (K : Nat) : Ctr tyU := ⟨s_135, m_impl_FindRoom K⟩
def x_135 (K : Nat) := xF s_135 [(163, c_130 K), (164, c_133 K), (165, c_134 K)] [] 24 [15, 16] [] [] [] [.tmp 4, .tmp 5]
theorem sp_135 (K : Nat) : OkF 92 (c_135 K) :=
 ctrF (x := x_135 K) (L := []) (c0 := bd Tryz.f92) (xkF (gam_cons (sp_130 K) (gam_cons (sp_133 K) (gam_cons (sp_134 K) gam_nil))) ov_nil) (by intro a0 a1; show @Eq _ _ _; kernel_rfl) cuts_nil Tryz.func92 trivial
def m_impl_LooseIn (K : Nat) (a0 : T_impl_Conf) (a1 : T_impl_Node) : Option (Int) := ((m_impl_NodeOk K a0 a1).bind fun r1 => (bif r1 then (bif (a1.fCur == 0) then some 0 else some (iSub .i64 a0.fSize a1.fBump)) else some 0))
def s_136 : Sig := ⟨[.v 25, .v 44], [.v 3], true⟩
def c_136 (K : Nat) : Ctr tyU := ⟨s_136, m_impl_LooseIn K⟩
def x_136 (K : Nat) := xF s_136 [(167, c_96 K)] [] 19 [7, 8, 9] [] [] [] [.tmp 4]
theorem sp_136 (K : Nat) : OkF 100 (c_136 K) :=
 ctrF (x := x_136 K) (L := []) (c0 := bd Tryz.f100) (xkF (gam_cons (sp_96 K) gam_nil) ov_nil) (by intro a0 a1; show @Eq _ _ _; kernel_rfl) cuts_nil Tryz.func100 trivial
def j_impl_Stats_1 (K : Nat) (v6 : T_impl_Ans) (v7 : T_impl_Ans) (v8 : T_impl_World) (v9 : Int) (v10 : Int) (v11 : Int) (v12 : Int) (v13 : Int) (v14 : Int) (v15 : List Int) (v16 : List Int) (v17 : List Int) (v18 : List T_impl_Node) (v19 : List T_impl_Waste) (v20 : List Int) : Option (T_impl_World × T_impl_Ans) := ((m_impl_copyWorld K (T_impl_World.mk (T_impl_Conf.mk v9 v10 v11 v12 v13 v14) (T_impl_Pool.mk v15 v16 v17) v18 v19 v20)).bind fun r21 => some (r21, v6))
def m_impl_Stats (K : Nat) (a0 : T_impl_World) (a1 : T_impl_Handle) : Option (T_impl_World × T_impl_Ans) := ((m_impl_WorldOk K a0).bind fun r1 => (bif (!r1) then ((m_impl_refused K a0 1).bind fun r2 => some (r2.1, r2.2)) else ((m_impl_WalkOf K a0 a1).bind fun r3 => ((m_impl_FindRoom K a0 a1).bind fun r4 => (bif (r4.2 == 0) then (if (0 : Int) ≤ r4.1 ∧ r4.1 < (a0.fL.length : Int) then ((m_impl_LooseIn K a0.fC (gt a0.fL r4.1)).bind fun r5 => (j_impl_Stats_1 K (T_impl_Ans.mk r4.2 (T_impl_Handle.mk 0 0) (T_impl_Ref.mk (T_impl_Handle.mk 0 0) 0 0) ([(IntKind.u8.wrap (((gt a0.fL r4.1).fChunks).length : Int)), (IntKind.u8.wrap (((gt a0.fL r4.1).fThings).length : Int)), (IntKind.u8.wrap (((gt a0.fL r4.1).fTags).length : Int)), (IntKind.u8.wrap r5)] : List Int) r3 0 0) (T_impl_Ans.mk 0 (T_impl_Handle.mk 0 0) (T_impl_Ref.mk (T_impl_Handle.mk 0 0) 0 0) [] 0 0 0) (T_impl_World.mk (T_impl_Conf.mk 0 0 0 0 0 0) (T_impl_Pool.mk [] [] []) [] [] []) a0.fC.fChunks a0.fC.fSize a0.fC.fSlots a0.fC.fTax a0.fC.fSlice a0.fC.fGens a0.fP.fMem a0.fP.fSt a0.fP.fOwn a0.fL a0.fQ a0.fLog)) else none) else (j_impl_Stats_1 K (T_impl_Ans.mk r4.2 (T_impl_Handle.mk 0 0) (T_impl_Ref.mk (T_impl_Handle.mk 0 0) 0 0) [] r3 0 0) (T_impl_Ans.mk 0 (T_impl_Handle.mk 0 0) (T_impl_Ref.mk (T_impl_Handle.mk 0 0) 0 0) [] 0 0 0) (T_impl_World.mk (T_impl_Conf.mk 0 0 0 0 0 0) (T_impl_Pool.mk [] [] []) [] [] []) a0.fC.fChunks a0.fC.fSize a0.fC.fSlots a0.fC.fTax a0.fC.fSlice a0.fC.fGens a0.fP.fMem a0.fP.fSt a0.fP.fOwn a0.fL a0.fQ a0.fLog))))))
def s_137 : Sig := ⟨[.v 32, .v 34], [.n 32 true, .n 69 true], true⟩
def c_137 (K : Nat) : Ctr tyU := ⟨s_137, m_impl_Stats K⟩
def x_137 (K : Nat) := xF s_137 [(87, c_121 K), (89, c_129 K), (90, c_128 K), (91, c_132 K), (92, c_135 K), (100, c_136 K)] [] 58 [] [(9, [.take 106 7 6703])] [] [63] [.cell 4 32, .cell 5 69]
def h_137_63 : Shape := ⟨[(2, .p 102), (4, .p 104), (5, .p 105), (6, .p 106)], [(106, .st 69 true), (105, .st 69 true), (104, .st 32 true), (102, .box [.v 2, .v 2, .v 2, .v 2, .v 2, .v 2, .v 22, .v 26, .v 26, .v 29, .v 30, .v 26])]⟩
def M_137_63 (K : Nat) (q : PT h_137_63) : Rt s_137 := j_impl_Stats_1 K q.1 q.2.1 q.2.2.1 q.2.2.2.1 q.2.2.2.2.1 q.2.2.2.2.2.1 q.2.2.2.2.2.2.1 q.2.2.2.2.2.2.2.1 q.2.2.2.2.2.2.2.2.1 q.2.2.2.2.2.2.2.2.2.1 q.2.2.2.2.2.2.2.2.2.2.1 q.2.2.2.2.2.2.2.2.2.2.2.1 q.2.2.2.2.2.2.2.2.2.2.2.2.1 q.2.2.2.2.2.2.2.2.2.2.2.2.2.1 q.2.2.2.2.2.2.2.2.2.2.2.2.2.2.1
theorem e_137_63 (K : Nat) : AtJ (x_137 K) [] [] (bd Tryz.f38) 63 (M_137_63 K) := fun q => by kernel_rfl
theorem xk_137 (K : Nat) : XF [.cell 4 32, .cell 5 69] s_137 58 [63] (x_137 K) := xkF (gam_cons (sp_121 K) (gam_cons (sp_129 K) (gam_cons (sp_128 K) (gam_cons (sp_132 K) (gam_cons (sp_135 K) (gam_cons (sp_136 K) gam_nil)))))) ov_nil
theorem k_137_63 (K : Nat) : CF [.cell 4 32, .cell 5 69] s_137 58 [63] (bd Tryz.f38) [] 63 (ar h_137_63 (M_137_63 K)) :=
 joinF (xk_137 K) (e_137_63 K) cuts_nil
theorem sp_137 (K : Nat) : OkF 38 (c_137 K) :=
 ctrF (x := x_137 K) (L := [(63, ar h_137_63 (M_137_63 K))]) (c0 := bd Tryz.f38) (xk_137 K) (by intro a0 a1; show @Eq _ _ _; kernel_rfl) (cuts_cons (k_137_63 K) cuts_nil) Tryz.func38 trivial
def m_laws_eqConf (K : Nat) (a0 : T_impl_Conf) (a1 : T_impl_Conf) : Option (Bool) := (bif (a0.fChunks != a1.fChunks) then some false else (bif (a0.fSize != a1.fSize) then some false else (bif (a0.fSlots != a1.fSlots) then some false else (bif (a0.fTax != a1.fTax) then some false else (bif (a0.fSlice != a1.fSlice) then some false else (bif (a0.fGens != a1.fGens) then some false else some true))))))
def s_138 : Sig := ⟨[.v 25, .v 25], [.v 4], true⟩
def c_138 (K : Nat) : Ctr tyU := ⟨s_138, m_laws_eqConf K⟩
def x_138 (K : Nat) := xF s_138 [] [] 35 [] [] [] [] [.tmp 4]
theorem sp_138 (K : Nat) : OkF 71 (c_138 K) :=
 ctrF (x := x_138 K) (L := []) (c0 := bd Tryz.f71) (xkF gam_nil ov_nil) (by intro a0 a1; show @Eq _ _ _; kernel_rfl) cuts_nil Tryz.func71 trivial
def l_laws_eqByteS_1 (K : Nat) (a0 : List Int) (a1 : List Int) : Nat -> Int -> Option (Bool)
 | 0, _ => none
 | n1 + 1, v1 => (bif (decide (v1 < (a0.length : Int))) then (if (0 : Int) ≤ v1 ∧ v1 < (a0.length : Int) then (if (0 : Int) ≤ v1 ∧ v1 < (a1.length : Int) then (bif ((gt a0 v1) != (gt a1 v1)) then some false else (l_laws_eqByteS_1 K a0 a1 n1 (iAdd .i64 v1 1))) else none) else none) else some true)
def m_laws_eqByteS (K : Nat) (a0 : List Int) (a1 : List Int) : Option (Bool) := (bif ((a0.length : Int) != (a1.length : Int)) then some false else (l_laws_eqByteS_1 K a0 a1 K 0))
def s_139 : Sig := ⟨[.v 22, .v 22], [.v 4], true⟩
def c_139 (K : Nat) : Ctr tyU := ⟨s_139, m_laws_eqByteS K⟩
def x_139 (K : Nat) := xF s_139 [] [] 26 [] [] [] [] [.tmp 4]
def h_139_58 : Shape := ⟨[(0, .v 22), (1, .v 22), (5, .v 2)], []⟩
def M_139_58 (K : Nat) (n : Nat) (q : PT h_139_58) : Rt s_139 := l_laws_eqByteS_1 K q.1 q.2.1 n q.2.2.1
theorem e_139_58 (K : Nat) : AtL (x_139 K) (fun n => []) [] (bd Tryz.f27) 58 (M_139_58 K) := fun n q => by kernel_rfl
theorem xk_139 (K : Nat) : XF [.tmp 4] s_139 26 [] (x_139 K) := xkF gam_nil ov_nil
theorem k_139_58 (K : Nat) (n : Nat) : CF [.tmp 4] s_139 26 [] (bd Tryz.f27) [] 58 (ar h_139_58 (M_139_58 K n)) :=
 loopF (xk_139 K) (e_139_58 K) (fun n => cuts_nil) n
theorem sp_139 (K : Nat) : OkF 27 (c_139 K) :=
 ctrF (x := x_139 K) (L := [(58, ar h_139_58 (M_139_58 K K))]) (c0 := bd Tryz.f27) (xk_139 K) (by intro a0 a1; show @Eq _ _ _; kernel_rfl) (cuts_cons (k_139_58 K K) cuts_nil) Tryz.func27 trivial
def l_laws_eqIntS_1 (K : Nat) (a0 : List Int) (a1 : List Int) : Nat -> Int -> Option (Bool)
 | 0, _ => none
 | n1 + 1, v1 => (bif (decide (v1 < (a0.length : Int))) then (if (0 : Int) ≤ v1 ∧ v1 < (a0.length : Int) then (if (0 : Int) ≤ v1 ∧ v1 < (a1.length : Int) then (bif ((gt a0 v1) != (gt a1 v1)) then some false else (l_laws_eqIntS_1 K a0 a1 n1 (iAdd .i64 v1 1))) else none) else none) else some true)
def m_laws_eqIntS (K : Nat) (a0 : List Int) (a1 : List Int) : Option (Bool) := (bif ((a0.length : Int) != (a1.length : Int)) then some false else (l_laws_eqIntS_1 K a0 a1 K 0))
def s_140 : Sig := ⟨[.v 26, .v 26], [.v 4], true⟩
def c_140 (K : Nat) : Ctr tyU := ⟨s_140, m_laws_eqIntS K⟩
def x_140 (K : Nat) := xF s_140 [] [] 26 [] [] [] [] [.tmp 4]
def h_140_58 : Shape := ⟨[(0, .v 26), (1, .v 26), (5, .v 2)], []⟩
def M_140_58 (K : Nat) (n : Nat) (q : PT h_140_58) : Rt s_140 := l_laws_eqIntS_1 K q.1 q.2.1 n q.2.2.1
theorem e_140_58 (K : Nat) : AtL (x_140 K) (fun n => []) [] (bd Tryz.f75) 58 (M_140_58 K) := fun n q => by kernel_rfl
theorem xk_140 (K : Nat) : XF [.tmp 4] s_140 26 [] (x_140 K) := xkF gam_nil ov_nil
theorem k_140_58 (K : Nat) (n : Nat) : CF [.tmp 4] s_140 26 [] (bd Tryz.f75) [] 58 (ar h_140_58 (M_140_58 K n)) :=
 loopF (xk_140 K) (e_140_58 K) (fun n => cuts_nil) n
theorem sp_140 (K : Nat) : OkF 75 (c_140 K) :=
 ctrF (x := x_140 K) (L := [(58, ar h_140_58 (M_140_58 K K))]) (c0 := bd Tryz.f75) (xk_140 K) (by intro a0 a1; show @Eq _ _ _; kernel_rfl) (cuts_cons (k_140_58 K K) cuts_nil) Tryz.func75 trivial
def m_laws_eqPool (K : Nat) (a0 : T_impl_Pool) (a1 : T_impl_Pool) : Option (Bool) := ((m_laws_eqByteS K a0.fMem a1.fMem).bind fun r1 => (bif (!r1) then some false else ((m_laws_eqIntS K a0.fSt a1.fSt).bind fun r2 => (bif (!r2) then some false else ((m_laws_eqIntS K a0.fOwn a1.fOwn).bind fun r3 => (bif (!r3) then some false else some true))))))
def s_141 : Sig := ⟨[.v 28, .v 28], [.v 4], true⟩
def c_141 (K : Nat) : Ctr tyU := ⟨s_141, m_laws_eqPool K⟩
def x_141 (K : Nat) := xF s_141 [(27, c_139 K), (75, c_140 K)] [] 23 [] [] [] [] [.tmp 4]
theorem sp_141 (K : Nat) : OkF 72 (c_141 K) :=
 ctrF (x := x_141 K) (L := []) (c0 := bd Tryz.f72) (xkF (gam_cons (sp_139 K) (gam_cons (sp_140 K) gam_nil)) ov_nil) (by intro a0 a1; show @Eq _ _ _; kernel_rfl) cuts_nil Tryz.func72 trivial
def m_laws_eqThing (K : Nat) (a0 : T_impl_Thing) (a1 : T_impl_Thing) : Option (Bool) := (bif (a0.fAt != a1.fAt) then some false else (bif (a0.fLen != a1.fLen) then some false else (bif (a0.fRun != a1.fRun) then some false else some true)))
def s_142 : Sig := ⟨[.v 89, .v 89], [.v 4], true⟩
def c_142 (K : Nat) : Ctr tyU := ⟨s_142, m_laws_eqThing K⟩
def x_142 (K : Nat) := xF s_142 [] [] 20 [] [] [] [] [.tmp 4]
theorem sp_142 (K : Nat) : OkF 263 (c_142 K) :=
 ctrF (x := x_142 K) (L := []) (c0 := bd Tryz.f263) (xkF gam_nil ov_nil) (by intro a0 a1; show @Eq _ _ _; kernel_rfl) cuts_nil Tryz.func263 trivial
def l_laws_eqThingS_1 (K : Nat) (a0 : List T_impl_Thing) (a1 : List T_impl_Thing) : Nat -> Int -> Option (Bool)
 | 0, _ => none
 | n1 + 1, v1 => (bif (decide (v1 < (a0.length : Int))) then (if (0 : Int) ≤ v1 ∧ v1 < (a0.length : Int) then (if (0 : Int) ≤ v1 ∧ v1 < (a1.length : Int) then ((m_laws_eqThing K (gt a0 v1) (gt a1 v1)).bind fun r2 => (bif (!r2) then some false else (l_laws_eqThingS_1 K a0 a1 n1 (iAdd .i64 v1 1)))) else none) else none) else some true)
def m_laws_eqThingS (K : Nat) (a0 : List T_impl_Thing) (a1 : List T_impl_Thing) : Option (Bool) := (bif ((a0.length : Int) != (a1.length : Int)) then some false else (l_laws_eqThingS_1 K a0 a1 K 0))
def s_143 : Sig := ⟨[.v 41, .v 41], [.v 4], true⟩
def c_143 (K : Nat) : Ctr tyU := ⟨s_143, m_laws_eqThingS K⟩
def x_143 (K : Nat) := xF s_143 [(263, c_142 K)] [] 27 [] [] [] [] [.tmp 4]
def h_143_58 : Shape := ⟨[(0, .v 41), (1, .v 41), (5, .v 2)], []⟩
def M_143_58 (K : Nat) (n : Nat) (q : PT h_143_58) : Rt s_143 := l_laws_eqThingS_1 K q.1 q.2.1 n q.2.2.1
theorem e_143_58 (K : Nat) : AtL (x_143 K) (fun n => []) [] (bd Tryz.f208) 58 (M_143_58 K) := fun n q => by kernel_rfl
theorem xk_143 (K : Nat) : XF [.tmp 4] s_143 27 [] (x_143 K) := xkF (gam_cons (sp_142 K) gam_nil) ov_nil
theorem k_143_58 (K : Nat) (n : Nat) : CF [.tmp 4] s_143 27 [] (bd Tryz.f208) [] 58 (ar h_143_58 (M_143_58 K n)) :=
 loopF (xk_143 K) (e_143_58 K) (fun n => cuts_nil) n
theorem sp_143 (K : Nat) : OkF 208 (c_143 K) :=
 ctrF (x := x_143 K) (L := [(58, ar h_143_58 (M_143_58 K K))]) (c0 := bd Tryz.f208) (xk_143 K) (by intro a0 a1; show @Eq _ _ _; kernel_rfl) (cuts_cons (k_143_58 K K) cuts_nil) Tryz.func208 trivial
def m_laws_eqNode (K : Nat) (a0 : T_impl_Node) (a1 : T_impl_Node) : Option (Bool) := (bif (a0.fSt != a1.fSt) then some false else (bif (a0.fGen != a1.fGen) then some false else (bif (a0.fEp != a1.fEp) then some false else (bif (a0.fUp != a1.fUp) then some false else (bif (a0.fUpEp != a1.fUpEp) then some false else (bif (a0.fFirst != a1.fFirst) then some false else (bif (a0.fNext != a1.fNext) then some false else (bif (a0.fPrev != a1.fPrev) then some false else ((m_laws_eqIntS K a0.fChunks a1.fChunks).bind fun r1 => (bif (!r1) then some false else (bif (a0.fCur != a1.fCur) then some false else (bif (a0.fBump != a1.fBump) then some false else ((m_laws_eqThingS K a0.fThings a1.fThings).bind fun r2 => (bif (!r2) then some false else ((m_laws_eqIntS K a0.fTags a1.fTags).bind fun r3 => (bif (!r3) then some false else some true))))))))))))))))
def s_144 : Sig := ⟨[.v 44, .v 44], [.v 4], true⟩
def c_144 (K : Nat) : Ctr tyU := ⟨s_144, m_laws_eqNode K⟩
def x_144 (K : Nat) := xF s_144 [(75, c_140 K), (208, c_143 K)] [] 73 [] [] [] [] [.tmp 4]
theorem sp_144 (K : Nat) : OkF 134 (c_144 K) :=
 ctrF (x := x_144 K) (L := []) (c0 := bd Tryz.f134) (xkF (gam_cons (sp_140 K) (gam_cons (sp_143 K) gam_nil)) ov_nil) (by intro a0 a1; show @Eq _ _ _; kernel_rfl) cuts_nil Tryz.func134 trivial
def l_laws_eqNodeS_1 (K : Nat) (a0 : List T_impl_Node) (a1 : List T_impl_Node) : Nat -> Int -> Option (Bool)
 | 0, _ => none
 | n1 + 1, v1 => (bif (decide (v1 < (a0.length : Int))) then (if (0 : Int) ≤ v1 ∧ v1 < (a0.length : Int) then (if (0 : Int) ≤ v1 ∧ v1 < (a1.length : Int) then ((m_laws_eqNode K (gt a0 v1) (gt a1 v1)).bind fun r2 => (bif (!r2) then some false else (l_laws_eqNodeS_1 K a0 a1 n1 (iAdd .i64 v1 1)))) else none) else none) else some true)
def m_laws_eqNodeS (K : Nat) (a0 : List T_impl_Node) (a1 : List T_impl_Node) : Option (Bool) := (bif ((a0.length : Int) != (a1.length : Int)) then some false else (l_laws_eqNodeS_1 K a0 a1 K 0))
def s_145 : Sig := ⟨[.v 29, .v 29], [.v 4], true⟩
def c_145 (K : Nat) : Ctr tyU := ⟨s_145, m_laws_eqNodeS K⟩
def x_145 (K : Nat) := xF s_145 [(134, c_144 K)] [] 27 [] [] [] [] [.tmp 4]
def h_145_58 : Shape := ⟨[(0, .v 29), (1, .v 29), (5, .v 2)], []⟩
def M_145_58 (K : Nat) (n : Nat) (q : PT h_145_58) : Rt s_145 := l_laws_eqNodeS_1 K q.1 q.2.1 n q.2.2.1
theorem e_145_58 (K : Nat) : AtL (x_145 K) (fun n => []) [] (bd Tryz.f73) 58 (M_145_58 K) := fun n q => by kernel_rfl
theorem xk_145 (K : Nat) : XF [.tmp 4] s_145 27 [] (x_145 K) := xkF (gam_cons (sp_144 K) gam_nil) ov_nil
theorem k_145_58 (K : Nat) (n : Nat) : CF [.tmp 4] s_145 27 [] (bd Tryz.f73) [] 58 (ar h_145_58 (M_145_58 K n)) :=
 loopF (xk_145 K) (e_145_58 K) (fun n => cuts_nil) n
theorem sp_145 (K : Nat) : OkF 73 (c_145 K) :=
 ctrF (x := x_145 K) (L := [(58, ar h_145_58 (M_145_58 K K))]) (c0 := bd Tryz.f73) (xk_145 K) (by intro a0 a1; show @Eq _ _ _; kernel_rfl) (cuts_cons (k_145_58 K K) cuts_nil) Tryz.func73 trivial
def m_laws_eqWaste (K : Nat) (a0 : T_impl_Waste) (a1 : T_impl_Waste) : Option (Bool) := (bif (a0.fSlot != a1.fSlot) then some false else (bif (a0.fFirst != a1.fFirst) then some false else ((m_laws_eqIntS K a0.fTags a1.fTags).bind fun r1 => (bif (!r1) then some false else ((m_laws_eqIntS K a0.fChunks a1.fChunks).bind fun r2 => (bif (!r2) then some false else (bif (a0.fDone != a1.fDone) then some false else some true)))))))
def s_146 : Sig := ⟨[.v 159, .v 159], [.v 4], true⟩
def c_146 (K : Nat) : Ctr tyU := ⟨s_146, m_laws_eqWaste K⟩
def x_146 (K : Nat) := xF s_146 [(75, c_140 K)] [] 32 [] [] [] [] [.tmp 4]
theorem sp_146 (K : Nat) : OkF 135 (c_146 K) :=
 ctrF (x := x_146 K) (L := []) (c0 := bd Tryz.f135) (xkF (gam_cons (sp_140 K) gam_nil) ov_nil) (by intro a0 a1; show @Eq _ _ _; kernel_rfl) cuts_nil Tryz.func135 trivial
def l_laws_eqWasteS_1 (K : Nat) (a0 : List T_impl_Waste) (a1 : List T_impl_Waste) : Nat -> Int -> Option (Bool)
 | 0, _ => none
 | n1 + 1, v1 => (bif (decide (v1 < (a0.length : Int))) then (if (0 : Int) ≤ v1 ∧ v1 < (a0.length : Int) then (if (0 : Int) ≤ v1 ∧ v1 < (a1.length : Int) then ((m_laws_eqWaste K (gt a0 v1) (gt a1 v1)).bind fun r2 => (bif (!r2) then some false else (l_laws_eqWasteS_1 K a0 a1 n1 (iAdd .i64 v1 1)))) else none) else none) else some true)
def m_laws_eqWasteS (K : Nat) (a0 : List T_impl_Waste) (a1 : List T_impl_Waste) : Option (Bool) := (bif ((a0.length : Int) != (a1.length : Int)) then some false else (l_laws_eqWasteS_1 K a0 a1 K 0))
def s_147 : Sig := ⟨[.v 30, .v 30], [.v 4], true⟩
def c_147 (K : Nat) : Ctr tyU := ⟨s_147, m_laws_eqWasteS K⟩
def x_147 (K : Nat) := xF s_147 [(135, c_146 K)] [] 27 [] [] [] [] [.tmp 4]
def h_147_58 : Shape := ⟨[(0, .v 30), (1, .v 30), (5, .v 2)], []⟩
def M_147_58 (K : Nat) (n : Nat) (q : PT h_147_58) : Rt s_147 := l_laws_eqWasteS_1 K q.1 q.2.1 n q.2.2.1
theorem e_147_58 (K : Nat) : AtL (x_147 K) (fun n => []) [] (bd Tryz.f74) 58 (M_147_58 K) := fun n q => by kernel_rfl
theorem xk_147 (K : Nat) : XF [.tmp 4] s_147 27 [] (x_147 K) := xkF (gam_cons (sp_146 K) gam_nil) ov_nil
theorem k_147_58 (K : Nat) (n : Nat) : CF [.tmp 4] s_147 27 [] (bd Tryz.f74) [] 58 (ar h_147_58 (M_147_58 K n)) :=
 loopF (xk_147 K) (e_147_58 K) (fun n => cuts_nil) n
theorem sp_147 (K : Nat) : OkF 74 (c_147 K) :=
 ctrF (x := x_147 K) (L := [(58, ar h_147_58 (M_147_58 K K))]) (c0 := bd Tryz.f74) (xk_147 K) (by intro a0 a1; show @Eq _ _ _; kernel_rfl) (cuts_cons (k_147_58 K K) cuts_nil) Tryz.func74 trivial
def m_laws_eqWorld (K : Nat) (a0 : T_impl_World) (a1 : T_impl_World) : Option (Bool) := ((m_laws_eqConf K a0.fC a1.fC).bind fun r1 => (bif (!r1) then some false else ((m_laws_eqPool K a0.fP a1.fP).bind fun r2 => (bif (!r2) then some false else ((m_laws_eqNodeS K a0.fL a1.fL).bind fun r3 => (bif (!r3) then some false else ((m_laws_eqWasteS K a0.fQ a1.fQ).bind fun r4 => (bif (!r4) then some false else ((m_laws_eqIntS K a0.fLog a1.fLog).bind fun r5 => (bif (!r5) then some false else some true))))))))))
def s_148 : Sig := ⟨[.v 32, .v 32], [.v 4], true⟩
def c_148 (K : Nat) : Ctr tyU := ⟨s_148, m_laws_eqWorld K⟩
def x_148 (K : Nat) := xF s_148 [(71, c_138 K), (72, c_141 K), (73, c_145 K), (74, c_147 K), (75, c_140 K)] [] 35 [] [] [] [] [.tmp 4]
theorem sp_148 (K : Nat) : OkF 23 (c_148 K) :=
 ctrF (x := x_148 K) (L := []) (c0 := bd Tryz.f23) (xkF (gam_cons (sp_138 K) (gam_cons (sp_141 K) (gam_cons (sp_145 K) (gam_cons (sp_147 K) (gam_cons (sp_140 K) gam_nil))))) ov_nil) (by intro a0 a1; show @Eq _ _ _; kernel_rfl) cuts_nil Tryz.func23 trivial
def m_laws_eqHandle (K : Nat) (a0 : T_impl_Handle) (a1 : T_impl_Handle) : Option (Bool) := (bif (a0.fSlot != a1.fSlot) then some false else (bif (a0.fGen != a1.fGen) then some false else some true))
def s_149 : Sig := ⟨[.v 34, .v 34], [.v 4], true⟩
def c_149 (K : Nat) : Ctr tyU := ⟨s_149, m_laws_eqHandle K⟩
def x_149 (K : Nat) := xF s_149 [] [] 15 [] [] [] [] [.tmp 4]
theorem sp_149 (K : Nat) : OkF 93 (c_149 K) :=
 ctrF (x := x_149 K) (L := []) (c0 := bd Tryz.f93) (xkF gam_nil ov_nil) (by intro a0 a1; show @Eq _ _ _; kernel_rfl) cuts_nil Tryz.func93 trivial
def m_laws_eqRef (K : Nat) (a0 : T_impl_Ref) (a1 : T_impl_Ref) : Option (Bool) := ((m_laws_eqHandle K a0.fH a1.fH).bind fun r1 => (bif (!r1) then some false else (bif (a0.fEp != a1.fEp) then some false else (bif (a0.fNo != a1.fNo) then some false else some true))))
def s_150 : Sig := ⟨[.v 36, .v 36], [.v 4], true⟩
def c_150 (K : Nat) : Ctr tyU := ⟨s_150, m_laws_eqRef K⟩
def x_150 (K : Nat) := xF s_150 [(93, c_149 K)] [] 21 [] [] [] [] [.tmp 4]
theorem sp_150 (K : Nat) : OkF 94 (c_150 K) :=
 ctrF (x := x_150 K) (L := []) (c0 := bd Tryz.f94) (xkF (gam_cons (sp_149 K) gam_nil) ov_nil) (by intro a0 a1; show @Eq _ _ _; kernel_rfl) cuts_nil Tryz.func94 trivial
def m_laws_eqAns (K : Nat) (a0 : T_impl_Ans) (a1 : T_impl_Ans) : Option (Bool) := (bif (a0.fCode != a1.fCode) then some false else ((m_laws_eqHandle K a0.fH a1.fH).bind fun r1 => (bif (!r1) then some false else ((m_laws_eqRef K a0.fR a1.fR).bind fun r2 => (bif (!r2) then some false else ((m_laws_eqByteS K a0.fB a1.fB).bind fun r3 => (bif (!r3) then some false else (bif (a0.fWalk != a1.fWalk) then some false else (bif (a0.fTax != a1.fTax) then some false else (bif (a0.fDrain != a1.fDrain) then some false else some true))))))))))
def s_151 : Sig := ⟨[.v 69, .v 69], [.v 4], true⟩
def c_151 (K : Nat) : Ctr tyU := ⟨s_151, m_laws_eqAns K⟩
def x_151 (K : Nat) := xF s_151 [(27, c_139 K), (93, c_149 K), (94, c_150 K)] [] 43 [] [] [] [] [.tmp 4]
theorem sp_151 (K : Nat) : OkF 33 (c_151 K) :=
 ctrF (x := x_151 K) (L := []) (c0 := bd Tryz.f33) (xkF (gam_cons (sp_139 K) (gam_cons (sp_149 K) (gam_cons (sp_150 K) gam_nil))) ov_nil) (by intro a0 a1; show @Eq _ _ _; kernel_rfl) cuts_nil Tryz.func33 trivial
def l_laws_markByteS_1 (K : Nat) : Nat -> (List Int) -> Int -> Int -> Option (Int × (List Int))
 | 0, _, _, _ => none
 | n1 + 1, v1, v2, v3 => (bif (decide (v3 < (v1.length : Int))) then (if (0 : Int) ≤ v3 ∧ v3 < (v1.length : Int) then (l_laws_markByteS_1 K n1 (v1.set v3.toNat (IntKind.u8.wrap v2)) (iAdd .i64 v2 1) (iAdd .i64 v3 1)) else none) else some (v2, v1))
def m_laws_markByteS (K : Nat) (a0 : List Int) (a1 : Int) : Option (Int × (List Int)) := (l_laws_markByteS_1 K K a0 a1 0)
def s_152 : Sig := ⟨[.w 22 true [(5, true)], .v 3], [.v 3], true⟩
def c_152 (K : Nat) : Ctr tyU := ⟨s_152, m_laws_markByteS K⟩
def x_152 (K : Nat) := xF s_152 [] [] 20 [] [] [] [] [.tmp 4]
def h_152_26 : Shape := ⟨[(0, .o 1 5 true), (1, .v 2), (5, .v 2)], []⟩
def M_152_26 (K : Nat) (n : Nat) (q : PT h_152_26) : Rt s_152 := l_laws_markByteS_1 K n q.1 q.2.1 q.2.2.1
theorem e_152_26 (K : Nat) : AtL (x_152 K) (fun n => []) [] (bd Tryz.f29) 26 (M_152_26 K) := fun n q => by kernel_rfl
theorem xk_152 (K : Nat) : XF [.tmp 4] s_152 20 [] (x_152 K) := xkF gam_nil ov_nil
theorem k_152_26 (K : Nat) (n : Nat) : CF [.tmp 4] s_152 20 [] (bd Tryz.f29) [] 26 (ar h_152_26 (M_152_26 K n)) :=
 loopF (xk_152 K) (e_152_26 K) (fun n => cuts_nil) n
theorem sp_152 (K : Nat) : OkF 29 (c_152 K) :=
 ctrF (x := x_152 K) (L := [(26, ar h_152_26 (M_152_26 K K))]) (c0 := bd Tryz.f29) (xk_152 K) (by intro a0 a1; show @Eq _ _ _; kernel_rfl) (cuts_cons (k_152_26 K K) cuts_nil) Tryz.func29 ⟨fun _ => rfl, trivial⟩
def l_laws_markIntS_1 (K : Nat) : Nat -> (List Int) -> Int -> Int -> Option (Int × (List Int))
 | 0, _, _, _ => none
 | n1 + 1, v1, v2, v3 => (bif (decide (v3 < (v1.length : Int))) then (if (0 : Int) ≤ v3 ∧ v3 < (v1.length : Int) then (l_laws_markIntS_1 K n1 (v1.set v3.toNat v2) (iAdd .i64 v2 1) (iAdd .i64 v3 1)) else none) else some (v2, v1))
def m_laws_markIntS (K : Nat) (a0 : List Int) (a1 : Int) : Option (Int × (List Int)) := (l_laws_markIntS_1 K K a0 a1 0)
def s_153 : Sig := ⟨[.w 26 true [(3, true)], .v 3], [.v 3], true⟩
def c_153 (K : Nat) : Ctr tyU := ⟨s_153, m_laws_markIntS K⟩
def x_153 (K : Nat) := xF s_153 [] [] 19 [] [] [] [] [.tmp 4]
def h_153_26 : Shape := ⟨[(0, .o 1 3 true), (1, .v 2), (5, .v 2)], []⟩
def M_153_26 (K : Nat) (n : Nat) (q : PT h_153_26) : Rt s_153 := l_laws_markIntS_1 K n q.1 q.2.1 q.2.2.1
theorem e_153_26 (K : Nat) : AtL (x_153 K) (fun n => []) [] (bd Tryz.f81) 26 (M_153_26 K) := fun n q => by kernel_rfl
theorem xk_153 (K : Nat) : XF [.tmp 4] s_153 19 [] (x_153 K) := xkF gam_nil ov_nil
theorem k_153_26 (K : Nat) (n : Nat) : CF [.tmp 4] s_153 19 [] (bd Tryz.f81) [] 26 (ar h_153_26 (M_153_26 K n)) :=
 loopF (xk_153 K) (e_153_26 K) (fun n => cuts_nil) n
theorem sp_153 (K : Nat) : OkF 81 (c_153 K) :=
 ctrF (x := x_153 K) (L := [(26, ar h_153_26 (M_153_26 K K))]) (c0 := bd Tryz.f81) (xk_153 K) (by intro a0 a1; show @Eq _ _ _; kernel_rfl) (cuts_cons (k_153_26 K K) cuts_nil) Tryz.func81 ⟨fun _ => rfl, trivial⟩
def m_laws_markPool (K : Nat) (a0 : T_impl_Pool) (a1 : Int) : Option (Int × (List Int) × (List Int) × (List Int)) := ((m_laws_markByteS K a0.fMem a1).bind fun r1 => (if r1.2.length = a0.fMem.length then ((m_laws_markIntS K a0.fSt r1.1).bind fun r2 => (if r2.2.length = a0.fSt.length then ((m_laws_markIntS K a0.fOwn r2.1).bind fun r3 => (if r3.2.length = a0.fOwn.length then some (r3.1, r1.2, r2.2, r3.2) else none)) else none)) else none))
def s_154 : Sig := ⟨[.w 28 true [(5, true), (3, true), (3, true)], .v 3], [.v 3], true⟩
def c_154 (K : Nat) : Ctr tyU := ⟨s_154, m_laws_markPool K⟩
def x_154 (K : Nat) := xF s_154 [(29, c_152 K), (81, c_153 K)] [] 18 [] [] [] [] [.tmp 4]
theorem sp_154 (K : Nat) : OkF 78 (c_154 K) :=
 ctrF (x := x_154 K) (L := []) (c0 := bd Tryz.f78) (xkF (gam_cons (sp_152 K) (gam_cons (sp_153 K) gam_nil)) ov_nil) (by intro a0 a1; show @Eq _ _ _; kernel_rfl) cuts_nil Tryz.func78 ⟨fun _ => rfl, trivial⟩
def l_laws_markThingS_1 (K : Nat) : Nat -> (List T_impl_Thing) -> Int -> Int -> Option (Int × (List T_impl_Thing))
 | 0, _, _, _ => none
 | n1 + 1, v1, v2, v3 => (bif (decide (v3 < (v1.length : Int))) then (if (0 : Int) ≤ v3 ∧ v3 < (v1.length : Int) then (if (0 : Int) ≤ v3 ∧ v3 < ((v1.set v3.toNat (T_impl_Thing.mk v2 ((gt v1 v3).fLen) ((gt v1 v3).fRun))).length : Int) then (letM ((v1.set v3.toNat (T_impl_Thing.mk v2 ((gt v1 v3).fLen) ((gt v1 v3).fRun))).set v3.toNat (T_impl_Thing.mk ((gt (v1.set v3.toNat (T_impl_Thing.mk v2 ((gt v1 v3).fLen) ((gt v1 v3).fRun))) v3).fAt) (iAdd .i64 v2 1) ((gt (v1.set v3.toNat (T_impl_Thing.mk v2 ((gt v1 v3).fLen) ((gt v1 v3).fRun))) v3).fRun))) fun v4 => (if (0 : Int) ≤ v3 ∧ v3 < (v4.length : Int) then (l_laws_markThingS_1 K n1 (v4.set v3.toNat (T_impl_Thing.mk ((gt v4 v3).fAt) ((gt v4 v3).fLen) (iAdd .i64 (iAdd .i64 v2 1) 1))) (iAdd .i64 (iAdd .i64 (iAdd .i64 v2 1) 1) 1) (iAdd .i64 v3 1)) else none)) else none) else none) else some (v2, v1))
def m_laws_markThingS (K : Nat) (a0 : List T_impl_Thing) (a1 : Int) : Option (Int × (List T_impl_Thing)) := (l_laws_markThingS_1 K K a0 a1 0)
end
end Go.Proofs.YtjdblamhaljjbaaGreat
