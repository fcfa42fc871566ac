/- Models of the program's functions, and the walks that show them. Printed by gen.py. -/
import Derived.Test.YtlenlhlggknelaaEng23
import Derived.Test.YtlenlhlggknelaaTab
set_option linter.unusedVariables false
set_option linter.unusedSimpArgs false
namespace Go.Proofs.Ytlenlhlggknelaa
open Go.Eng Go.ChangeShapes Go.WideShapes Go.ChangeAt Go.RowKit
structure T_impl_Conf where
  fChunks : Int
  fSize : Int
  fSlots : Int
  fTax : Int
  fSlice : Int
  fGens : Int
  deriving Inhabited
structure T_laws_Conf where
  fChunks : Int
  fSize : Int
  fSlots : Int
  fTax : Int
  fSlice : Int
  fGens : Int
  deriving Inhabited
structure T_laws_Handle where
  fSlot : Int
  fGen : Int
  deriving Inhabited
structure T_laws_Ref where
  fH : T_laws_Handle
  fEp : Int
  fNo : Int
  deriving Inhabited
structure T_laws_Op where
  fKind : Int
  fH : T_laws_Handle
  fR : T_laws_Ref
  fN : Int
  fM : Int
  fB : List Int
  deriving Inhabited
structure T_impl_Handle where
  fSlot : Int
  fGen : Int
  deriving Inhabited
structure T_impl_Ref where
  fH : T_impl_Handle
  fEp : Int
  fNo : Int
  deriving Inhabited
structure T_impl_Op where
  fKind : Int
  fH : T_impl_Handle
  fR : T_impl_Ref
  fN : Int
  fM : Int
  fB : List Int
  deriving Inhabited
structure T_laws_Ans where
  fCode : Int
  fH : T_laws_Handle
  fR : T_laws_Ref
  fB : List Int
  fWalk : Int
  fTax : Int
  fDrain : Int
  deriving Inhabited
structure T_impl_Ans where
  fCode : Int
  fH : T_impl_Handle
  fR : T_impl_Ref
  fB : List Int
  fWalk : Int
  fTax : Int
  fDrain : Int
  deriving Inhabited
def en5 (x : Int) : List V := [.int .u8 x]
theorem enOk5 : En en5 1 := ⟨fun _ => rfl, fun _ => rfl, fun _ => rfl, fun x => rfl⟩
def en3 (x : Int) : List V := [.int .i64 x]
theorem enOk3 : En en3 1 := ⟨fun _ => rfl, fun _ => rfl, fun _ => rfl, fun x => rfl⟩
def en25 (x : T_impl_Conf) : List V := [.int .i64 x.fChunks, .int .i64 x.fSize, .int .i64 x.fSlots, .int .i64 x.fTax, .int .i64 x.fSlice, .int .i64 x.fGens]
theorem enOk25 : En en25 6 := ⟨fun _ => rfl, fun _ => rfl, fun _ => rfl, fun x => rfl⟩
def en23 (x : T_laws_Conf) : List V := [.int .i64 x.fChunks, .int .i64 x.fSize, .int .i64 x.fSlots, .int .i64 x.fTax, .int .i64 x.fSlice, .int .i64 x.fGens]
theorem enOk23 : En en23 6 := ⟨fun _ => rfl, fun _ => rfl, fun _ => rfl, fun x => rfl⟩
def en39 (x : T_laws_Handle) : List V := [.int .i64 x.fSlot, .int .i64 x.fGen]
theorem enOk39 : En en39 2 := ⟨fun _ => rfl, fun _ => rfl, fun _ => rfl, fun x => rfl⟩
def en41 (x : T_laws_Ref) : List V := [.int .i64 x.fH.fSlot, .int .i64 x.fH.fGen, .int .i64 x.fEp, .int .i64 x.fNo]
theorem enOk41 : En en41 4 := ⟨fun _ => rfl, fun _ => rfl, fun _ => rfl, fun x => rfl⟩
def en30 (x : List Int) : List V := [.row false 1 (x.map en5)]
theorem enOk30 : En en30 1 := ⟨fun _ => rfl, fun _ => rfl, fun _ => rfl, fun l => by show [V.share _] = _; rw [V.share, enOk5.shareLL]; rfl⟩
def en43 (x : T_laws_Op) : List V := [.int .i64 x.fKind, .int .i64 x.fH.fSlot, .int .i64 x.fH.fGen, .int .i64 x.fR.fH.fSlot, .int .i64 x.fR.fH.fGen, .int .i64 x.fR.fEp, .int .i64 x.fR.fNo, .int .i64 x.fN, .int .i64 x.fM, .row false 1 (x.fB.map en5)]
theorem enOk43 : En en43 10 := ⟨fun _ => rfl, fun _ => rfl, fun _ => rfl, fun x => by simp only [en43, shareL, V.share, enOk5.shareLL]⟩
def en46 (x : T_impl_Handle) : List V := [.int .i64 x.fSlot, .int .i64 x.fGen]
theorem enOk46 : En en46 2 := ⟨fun _ => rfl, fun _ => rfl, fun _ => rfl, fun x => rfl⟩
def en48 (x : T_impl_Ref) : List V := [.int .i64 x.fH.fSlot, .int .i64 x.fH.fGen, .int .i64 x.fEp, .int .i64 x.fNo]
theorem enOk48 : En en48 4 := ⟨fun _ => rfl, fun _ => rfl, fun _ => rfl, fun x => rfl⟩
def en50 (x : T_impl_Op) : List V := [.int .i64 x.fKind, .int .i64 x.fH.fSlot, .int .i64 x.fH.fGen, .int .i64 x.fR.fH.fSlot, .int .i64 x.fR.fH.fGen, .int .i64 x.fR.fEp, .int .i64 x.fR.fNo, .int .i64 x.fN, .int .i64 x.fM, .row false 1 (x.fB.map en5)]
theorem enOk50 : En en50 10 := ⟨fun _ => rfl, fun _ => rfl, fun _ => rfl, fun x => by simp only [en50, shareL, V.share, enOk5.shareLL]⟩
def en55 (x : T_laws_Ans) : List V := [.int .i64 x.fCode, .int .i64 x.fH.fSlot, .int .i64 x.fH.fGen, .int .i64 x.fR.fH.fSlot, .int .i64 x.fR.fH.fGen, .int .i64 x.fR.fEp, .int .i64 x.fR.fNo, .row false 1 (x.fB.map en5), .int .i64 x.fWalk, .int .i64 x.fTax, .int .i64 x.fDrain]
theorem enOk55 : En en55 11 := ⟨fun _ => rfl, fun _ => rfl, fun _ => rfl, fun x => by simp only [en55, shareL, V.share, enOk5.shareLL]⟩
def en59 (x : T_impl_Ans) : List V := [.int .i64 x.fCode, .int .i64 x.fH.fSlot, .int .i64 x.fH.fGen, .int .i64 x.fR.fH.fSlot, .int .i64 x.fR.fH.fGen, .int .i64 x.fR.fEp, .int .i64 x.fR.fNo, .row false 1 (x.fB.map en5), .int .i64 x.fWalk, .int .i64 x.fTax, .int .i64 x.fDrain]
theorem enOk59 : En en59 11 := ⟨fun _ => rfl, fun _ => rfl, fun _ => rfl, fun x => by simp only [en59, shareL, V.share, enOk5.shareLL]⟩

/-! ### loop.example/g00499/impl.within -/
def m_impl_within (K : Nat) (a0 : Int) (a1 : Int) (a2 : Int) : Option (Bool) := (bif (decide (a0 ≥ a1)) then some (decide (a0 ≤ a2)) else some false)
set_option maxRecDepth 20000 in
set_option maxHeartbeats 8000000 in
theorem w_impl_within (K : Nat) (a0 : Int) (a1 : Int) (a2 : Int) (r : Bool) (h : m_impl_within K a0 a1 a2 = some r) : Sp Try.prog 57 [.c (.int .i64 a0), .c (.int .i64 a1), .c (.int .i64 a2)] [] (.c (.bool r)) [] := by
  refine Sp.of_W tabOk Try.func57 rfl rfl (Nat.le_of_ble_eq_true rfl) (Nat.le_of_ble_eq_true rfl) fun F hP hN hm => ?_
  obtain ⟨P, N, w0, σ0, β0, m⟩ := F
  obtain rfl : P = Try.prog := hP
  obtain rfl : N = 15 := hN
  obtain rfl : m = 1 := hm
  have he : Env ⟨Try.prog, 15, w0, σ0, β0, 1⟩ tab := ⟨Nat.le_of_ble_eq_true rfl, tabOk⟩
  unfold m_impl_within at h
  refine W_seq ?_
  refine W_reg he rfl ?_
  refine g0 (sA rfl [] rfl) rfl ?_
  refine ge ?_
  refine W2 [0, 1, 2] [] [] (l := [(0, .c (.int _ _)), (1, .c (.int _ _)), (2, .c (.int _ _))]) (h := []) (h' := []) trivial rfl rfl rfl ?_
  refine W_seq ?_
  refine W_reg he rfl ?_
  refine g0 (sM rfl [] rfl) rfl ?_
  refine g0 (sM rfl [] rfl) rfl ?_
  refine gB (sBi rfl rfl rfl rfl) rfl rfl fun b1 hb1 => ?_
  cases b1 with
  | true =>
    replace h := brT hb1 h
    refine g0 (sM rfl [] rfl) rfl ?_
    refine q0 (sM rfl [] rfl) rfl rfl rfl ?_
    refine q0 (sM rfl [] rfl) rfl rfl rfl ?_
    refine q0 (sBi rfl rfl rfl rfl) rfl rfl rfl ?_
    refine g0 (sPk rfl [] rfl rfl) rfl ?_
    refine g0 (sA rfl [] rfl) rfl ?_
    refine ge ?_
    refine W2 [6] [] [] (l := [(6, .c (.bool _))]) (h := []) (h' := []) trivial rfl rfl rfl ?_
    obtain rfl := Option.some.inj h
    exact W_ret (r0 rfl rfl)
  | false =>
    replace h := brF hb1 h
    refine g0 (sM rfl [] rfl) rfl ?_
    refine qP rfl rfl rfl rfl ?_
    refine qP rfl rfl rfl rfl ?_
    refine qP rfl rfl rfl rfl ?_
    refine g0 (sPk rfl [] rfl rfl) rfl ?_
    refine g0 (sA rfl [] rfl) rfl ?_
    refine ge ?_
    refine W2 [6] [] [] (l := [(6, .c (.bool false))]) (h := []) (h' := []) trivial rfl rfl rfl ?_
    obtain rfl := Option.some.inj h
    exact W_ret (r0 rfl rfl)
theorem ok_impl_within : FnOk Try.prog 57 := ⟨_, Try.func57, rfl, rfl⟩


/-! ### loop.example/g00499/spec.l1In -/
def m_spec_l1In (K : Nat) (a0 : Int) (a1 : Int) (a2 : Int) : Option (Bool) := (bif (decide (a0 ≥ a1)) then some (decide (a0 ≤ a2)) else some false)
set_option maxRecDepth 20000 in
set_option maxHeartbeats 8000000 in
theorem w_spec_l1In (K : Nat) (a0 : Int) (a1 : Int) (a2 : Int) (r : Bool) (h : m_spec_l1In K a0 a1 a2 = some r) : Sp Try.prog 56 [.c (.int .i64 a0), .c (.int .i64 a1), .c (.int .i64 a2)] [] (.c (.bool r)) [] := by
  refine Sp.of_W tabOk Try.func56 rfl rfl (Nat.le_of_ble_eq_true rfl) (Nat.le_of_ble_eq_true rfl) fun F hP hN hm => ?_
  obtain ⟨P, N, w0, σ0, β0, m⟩ := F
  obtain rfl : P = Try.prog := hP
  obtain rfl : N = 15 := hN
  obtain rfl : m = 1 := hm
  have he : Env ⟨Try.prog, 15, w0, σ0, β0, 1⟩ tab := ⟨Nat.le_of_ble_eq_true rfl, tabOk⟩
  unfold m_spec_l1In at h
  refine W_seq ?_
  refine W_reg he rfl ?_
  refine g0 (sA rfl [] rfl) rfl ?_
  refine ge ?_
  refine W2 [0, 1, 2] [] [] (l := [(0, .c (.int _ _)), (1, .c (.int _ _)), (2, .c (.int _ _))]) (h := []) (h' := []) trivial rfl rfl rfl ?_
  refine W_seq ?_
  refine W_reg he rfl ?_
  refine g0 (sM rfl [] rfl) rfl ?_
  refine g0 (sM rfl [] rfl) rfl ?_
  refine gB (sBi rfl rfl rfl rfl) rfl rfl fun b1 hb1 => ?_
  cases b1 with
  | true =>
    replace h := brT hb1 h
    refine g0 (sM rfl [] rfl) rfl ?_
    refine q0 (sM rfl [] rfl) rfl rfl rfl ?_
    refine q0 (sM rfl [] rfl) rfl rfl rfl ?_
    refine q0 (sBi rfl rfl rfl rfl) rfl rfl rfl ?_
    refine g0 (sPk rfl [] rfl rfl) rfl ?_
    refine g0 (sA rfl [] rfl) rfl ?_
    refine ge ?_
    refine W2 [6] [] [] (l := [(6, .c (.bool _))]) (h := []) (h' := []) trivial rfl rfl rfl ?_
    obtain rfl := Option.some.inj h
    exact W_ret (r0 rfl rfl)
  | false =>
    replace h := brF hb1 h
    refine g0 (sM rfl [] rfl) rfl ?_
    refine qP rfl rfl rfl rfl ?_
    refine qP rfl rfl rfl rfl ?_
    refine qP rfl rfl rfl rfl ?_
    refine g0 (sPk rfl [] rfl rfl) rfl ?_
    refine g0 (sA rfl [] rfl) rfl ?_
    refine ge ?_
    refine W2 [6] [] [] (l := [(6, .c (.bool false))]) (h := []) (h' := []) trivial rfl rfl rfl ?_
    obtain rfl := Option.some.inj h
    exact W_ret (r0 rfl rfl)
theorem ok_spec_l1In : FnOk Try.prog 56 := ⟨_, Try.func56, rfl, rfl⟩


/-! ### loop.example/g00499/laws.eqByteS -/
def l_laws_eqByteS_3 (K : Nat) (a0 : List Int) (a1 : List Int) : Nat → Int → Option (Bool)
  | 0, _ => none
  | n + 1, v2 => (bif (decide (v2 < (a0.length : Int))) then (if 0 ≤ v2 ∧ v2 < (a0.length : Int) then (if 0 ≤ v2 ∧ v2 < (a1.length : Int) then (bif ((gt a0 v2) != (gt a1 v2)) then some false else l_laws_eqByteS_3 K a0 a1 n (iAdd .i64 v2 1)) else none) else none) else some true)
def m_laws_eqByteS (K : Nat) (a0 : List Int) (a1 : List Int) : Option (Bool) := (bif ((a0.length : Int) != (a1.length : Int)) then some false else l_laws_eqByteS_3 K a0 a1 K 0)
set_option maxRecDepth 20000 in
set_option maxHeartbeats 8000000 in
theorem w_laws_eqByteS (K : Nat) (a0 : List Int) (a1 : List Int) (r : Bool) (h : m_laws_eqByteS K a0 a1 = some r) : Sp Try.prog 23 [.c (.row false 1 (a0.map en5)), .c (.row false 1 (a1.map en5))] [] (.c (.bool r)) [] := by
  refine Sp.of_W tabOk Try.func23 rfl rfl (Nat.le_of_ble_eq_true rfl) (Nat.le_of_ble_eq_true rfl) fun F hP hN hm => ?_
  obtain ⟨P, N, w0, σ0, β0, m⟩ := F
  obtain rfl : P = Try.prog := hP
  obtain rfl : N = 26 := hN
  obtain rfl : m = 1 := hm
  have he : Env ⟨Try.prog, 26, w0, σ0, β0, 1⟩ tab := ⟨Nat.le_of_ble_eq_true rfl, tabOk⟩
  unfold m_laws_eqByteS at h
  refine W_seq ?_
  refine W_reg he rfl ?_
  refine g0 (sA rfl [] rfl) rfl ?_
  refine ge ?_
  refine W2 [0, 1] [] [] (l := [(0, .c (.row _ _ _)), (1, .c (.row _ _ _))]) (h := []) (h' := []) trivial rfl rfl rfl ?_
  refine W_seq ?_
  refine W_seq ?_
  refine W_reg he rfl ?_
  refine g0 (sM rfl [] rfl) rfl ?_
  refine g0 (sLm rfl rfl rfl rfl) rfl ?_
  refine g0 (sM rfl [] rfl) rfl ?_
  refine g0 (sLm rfl rfl rfl rfl) rfl ?_
  refine gB (sBi rfl rfl rfl rfl) rfl rfl fun b1 hb1 => ?_
  cases b1 with
  | true =>
    replace h := brT hb1 h
    refine ge ?_
    refine W2 [0, 1, 10] [] [] (l := [(0, .c (.row _ _ _)), (1, .c (.row _ _ _)), (10, .c (.bool true))]) (h := []) (h' := []) trivial rfl rfl rfl ?_
    refine W_true rfl ?_
    refine W_seq ?_
    refine W_reg he rfl ?_
    refine g0 (sA rfl [] rfl) rfl ?_
    refine ge ?_
    refine W2 [4] [] [] (l := [(4, .c (.bool false))]) (h := []) (h' := []) trivial rfl rfl rfl ?_
    obtain rfl := Option.some.inj h
    exact W_ret (r0 rfl rfl)
  | false =>
    replace h := brF hb1 h
    refine ge ?_
    refine W2 [0, 1, 10] [] [] (l := [(0, .c (.row _ _ _)), (1, .c (.row _ _ _)), (10, .c (.bool false))]) (h := []) (h' := []) trivial rfl rfl rfl ?_
    refine W_false rfl ?_
    refine W_skip ?_
    refine W_seq ?_
    refine W_seq ?_
    refine W_reg he rfl ?_
    refine g0 (sA rfl [] rfl) rfl ?_
    refine ge ?_
    refine W2 [0, 1, 5] [] [] (l := [(0, .c (.row _ _ _)), (1, .c (.row _ _ _)), (5, .c (.int _ _))]) (h := []) (h' := []) trivial rfl rfl rfl ?_
    refine W_block ?_
    refine W2 [0, 1, 5] [] [] (l := [(0, .c (.row _ _ _)), (1, .c (.row _ _ _)), (5, .c (.int _ _))]) (h := []) (h' := []) trivial rfl rfl rfl ?_
    refine W_loopW (fun n S => ∃ (v2 : Int), S = StL [(0, .c (.row false 1 (a0.map en5))), (1, .c (.row false 1 (a1.map en5))), (5, .c (.int .i64 v2))] ([] ++ []) ∧ l_laws_eqByteS_3 K a0 a1 n v2 = some r) K ⟨_, rfl, h⟩ ?_
    rintro n S ⟨v2, rfl, h⟩
    cases n with
    | zero => simp [l_laws_eqByteS_3] at h
    | succ n =>
      rw [l_laws_eqByteS_3] at h
      refine W_seq ?_
      refine W_seq ?_
      refine W_reg he rfl ?_
      refine g0 (sM rfl [] rfl) rfl ?_
      refine g0 (sM rfl [] rfl) rfl ?_
      refine g0 (sLm rfl rfl rfl rfl) rfl ?_
      refine gB (sBi rfl rfl rfl rfl) rfl rfl fun b4 hb4 => ?_
      cases b4 with
      | true =>
        replace h := brT hb4 h
        refine ge ?_
        refine W2 [0, 1, 5, 14] [] [] (l := [(0, .c (.row _ _ _)), (1, .c (.row _ _ _)), (5, .c (.int _ _)), (14, .c (.bool true))]) (h := []) (h' := []) trivial rfl rfl rfl ?_
        refine W_true rfl ?_
        refine W_skip ?_
        refine W_seq ?_
        refine W_block ?_
        refine W_seq ?_
        refine W_regD he rfl rfl rfl ?_
        refine g0 (sM rfl [] rfl) rfl ?_
        refine g0 (sM rfl [] rfl) rfl ?_
        obtain ⟨c5, h⟩ := chk h
        refine g0 (sIRm rfl rfl rfl rfl c5) rfl ?_
        refine g0 (sLI rfl rfl (en5 (gt a0 v2)) (gt_at _ c5) rfl rfl rfl) rfl ?_
        refine g0 (sM rfl [] rfl) rfl ?_
        refine g0 (sM rfl [] rfl) rfl ?_
        obtain ⟨c6, h⟩ := chk h
        refine g0 (sIRm rfl rfl rfl rfl c6) rfl ?_
        refine g0 (sLI rfl rfl (en5 (gt a1 v2)) (gt_at _ c6) rfl rfl rfl) rfl ?_
        refine gB (sBi rfl rfl rfl rfl) rfl rfl fun b7 hb7 => ?_
        cases b7 with
        | true =>
          replace h := brT hb7 h
          refine ge ⟨rfl, ?_⟩
          refine W2 [0, 1, 5, 25] [] [] (l := [(0, .c (.row _ _ _)), (1, .c (.row _ _ _)), (5, .c (.int _ _)), (25, .c (.bool true))]) (h := []) (h' := []) trivial rfl rfl rfl ?_
          refine W_true rfl ?_
          refine W_seq ?_
          refine W_reg he rfl ?_
          refine g0 (sA rfl [] rfl) rfl ?_
          refine ge ?_
          refine W2 [4] [] [] (l := [(4, .c (.bool false))]) (h := []) (h' := []) trivial rfl rfl rfl ?_
          obtain rfl := Option.some.inj h
          exact W_ret (r0 rfl rfl)
        | false =>
          replace h := brF hb7 h
          refine ge ⟨rfl, ?_⟩
          refine W2 [0, 1, 5, 25] [] [] (l := [(0, .c (.row _ _ _)), (1, .c (.row _ _ _)), (5, .c (.int _ _)), (25, .c (.bool false))]) (h := []) (h' := []) trivial rfl rfl rfl ?_
          refine W_false rfl ?_
          refine W_skip ?_
          refine W_reg he rfl ?_
          refine g0 (sM rfl [] rfl) rfl ?_
          refine g0 (sBi rfl rfl rfl rfl) rfl ?_
          refine g0 (sA rfl [] rfl) rfl ?_
          refine ge ?_
          exact ⟨n, _, Nat.lt_succ_self n, wk2 [0, 1, 5] [] [] (l := [(0, .c (.row _ _ _)), (1, .c (.row _ _ _)), (5, .c (.int _ _))]) (h := []) (h' := []) trivial rfl rfl rfl, _, rfl, h⟩
      | false =>
        replace h := brF hb4 h
        refine ge ?_
        refine W2 [0, 1, 5, 14] [] [] (l := [(0, .c (.row _ _ _)), (1, .c (.row _ _ _)), (5, .c (.int _ _)), (14, .c (.bool false))]) (h := []) (h' := []) trivial rfl rfl rfl ?_
        refine W_false rfl ?_
        refine W_exit (ex_then (ex_then (ex_hit ?_)))
        refine W_seq ?_
        refine W_reg he rfl ?_
        refine g0 (sA rfl [] rfl) rfl ?_
        refine ge ?_
        refine W2 [4] [] [] (l := [(4, .c (.bool true))]) (h := []) (h' := []) trivial rfl rfl rfl ?_
        obtain rfl := Option.some.inj h
        exact W_ret (r0 rfl rfl)
theorem ok_laws_eqByteS : FnOk Try.prog 23 := ⟨_, Try.func23, rfl, rfl⟩


/-! ### loop.example/g00499/laws.heldByteS -/
def l_laws_heldByteS_3 (K : Nat) (a0 : List Int) : Nat → Int → Int → Option (Int)
  | 0, _, _ => none
  | n + 1, v1, v2 => (bif (decide (v2 < (a0.length : Int))) then (if 0 ≤ v2 ∧ v2 < (a0.length : Int) then (bif ((gt a0 v2) != (IntKind.u8.wrap v1)) then some (-1) else l_laws_heldByteS_3 K a0 n (iAdd .i64 v1 1) (iAdd .i64 v2 1)) else none) else some v1)
def m_laws_heldByteS (K : Nat) (a0 : List Int) (a1 : Int) : Option (Int) := l_laws_heldByteS_3 K a0 K a1 0
set_option maxRecDepth 20000 in
set_option maxHeartbeats 8000000 in
theorem w_laws_heldByteS (K : Nat) (a0 : List Int) (a1 : Int) (r : Int) (h : m_laws_heldByteS K a0 a1 = some r) : Sp Try.prog 27 [.c (.row false 1 (a0.map en5)), .c (.int .i64 a1)] [] (.c (.int .i64 r)) [] := by
  refine Sp.of_W tabOk Try.func27 rfl rfl (Nat.le_of_ble_eq_true rfl) (Nat.le_of_ble_eq_true rfl) fun F hP hN hm => ?_
  obtain ⟨P, N, w0, σ0, β0, m⟩ := F
  obtain rfl : P = Try.prog := hP
  obtain rfl : N = 22 := hN
  obtain rfl : m = 1 := hm
  have he : Env ⟨Try.prog, 22, w0, σ0, β0, 1⟩ tab := ⟨Nat.le_of_ble_eq_true rfl, tabOk⟩
  unfold m_laws_heldByteS at h
  refine W_seq ?_
  refine W_reg he rfl ?_
  refine g0 (sA rfl [] rfl) rfl ?_
  refine ge ?_
  refine W2 [0, 1] [] [] (l := [(0, .c (.row _ _ _)), (1, .c (.int _ _))]) (h := []) (h' := []) trivial rfl rfl rfl ?_
  refine W_seq ?_
  refine W_seq ?_
  refine W_reg he rfl ?_
  refine g0 (sA rfl [] rfl) rfl ?_
  refine ge ?_
  refine W2 [0, 1, 5] [] [] (l := [(0, .c (.row _ _ _)), (1, .c (.int _ _)), (5, .c (.int _ _))]) (h := []) (h' := []) trivial rfl rfl rfl ?_
  refine W_block ?_
  refine W2 [0, 1, 5] [] [] (l := [(0, .c (.row _ _ _)), (1, .c (.int _ _)), (5, .c (.int _ _))]) (h := []) (h' := []) trivial rfl rfl rfl ?_
  refine W_loopW (fun n S => ∃ (v1 : Int), ∃ (v2 : Int), S = StL [(0, .c (.row false 1 (a0.map en5))), (1, .c (.int .i64 v1)), (5, .c (.int .i64 v2))] ([] ++ []) ∧ l_laws_heldByteS_3 K a0 n v1 v2 = some r) K ⟨_, _, rfl, h⟩ ?_
  rintro n S ⟨v1, v2, rfl, h⟩
  cases n with
  | zero => simp [l_laws_heldByteS_3] at h
  | succ n =>
    rw [l_laws_heldByteS_3] at h
    refine W_seq ?_
    refine W_seq ?_
    refine W_reg he rfl ?_
    refine g0 (sM rfl [] rfl) rfl ?_
    refine g0 (sM rfl [] rfl) rfl ?_
    refine g0 (sLm rfl rfl rfl rfl) rfl ?_
    refine gB (sBi rfl rfl rfl rfl) rfl rfl fun b4 hb4 => ?_
    cases b4 with
    | true =>
      replace h := brT hb4 h
      refine ge ?_
      refine W2 [0, 1, 5, 9] [] [] (l := [(0, .c (.row _ _ _)), (1, .c (.int _ _)), (5, .c (.int _ _)), (9, .c (.bool true))]) (h := []) (h' := []) trivial rfl rfl rfl ?_
      refine W_true rfl ?_
      refine W_skip ?_
      refine W_seq ?_
      refine W_block ?_
      refine W_seq ?_
      refine W_seq ?_
      refine W_reg he rfl ?_
      refine g0 (sM rfl [] rfl) rfl ?_
      refine g0 (sM rfl [] rfl) rfl ?_
      obtain ⟨c5, h⟩ := chk h
      refine g0 (sIRm rfl rfl rfl rfl c5) rfl ?_
      refine g0 (sLI rfl rfl (en5 (gt a0 v2)) (gt_at _ c5) rfl rfl rfl) rfl ?_
      refine g0 (sM rfl [] rfl) rfl ?_
      refine g0 (sCv rfl rfl rfl rfl rfl rfl) rfl ?_
      refine gB (sBi rfl rfl rfl rfl) rfl rfl fun b6 hb6 => ?_
      cases b6 with
      | true =>
        replace h := brT hb6 h
        refine ge ?_
        refine W2 [0, 1, 5, 18] [] [] (l := [(0, .c (.row _ _ _)), (1, .c (.int _ _)), (5, .c (.int _ _)), (18, .c (.bool true))]) (h := []) (h' := []) trivial rfl rfl rfl ?_
        refine W_true rfl ?_
        refine W_seq ?_
        refine W_reg he rfl ?_
        refine g0 (sA rfl [] rfl) rfl ?_
        refine ge ?_
        refine W2 [4] [] [] (l := [(4, .c (.int _ _))]) (h := []) (h' := []) trivial rfl rfl rfl ?_
        obtain rfl := Option.some.inj h
        exact W_ret (r0 rfl rfl)
      | false =>
        replace h := brF hb6 h
        refine ge ?_
        refine W2 [0, 1, 5, 18] [] [] (l := [(0, .c (.row _ _ _)), (1, .c (.int _ _)), (5, .c (.int _ _)), (18, .c (.bool false))]) (h := []) (h' := []) trivial rfl rfl rfl ?_
        refine W_false rfl ?_
        refine W_skip ?_
        refine W_reg he rfl ?_
        refine g0 (sM rfl [] rfl) rfl ?_
        refine g0 (sBi rfl rfl rfl rfl) rfl ?_
        refine g0 (sA rfl [] rfl) rfl ?_
        refine ge ?_
        refine W2 [0, 1, 5] [] [] (l := [(0, .c (.row _ _ _)), (1, .c (.int _ _)), (5, .c (.int _ _))]) (h := []) (h' := []) trivial rfl rfl rfl ?_
        refine W_reg he rfl ?_
        refine g0 (sM rfl [] rfl) rfl ?_
        refine g0 (sBi rfl rfl rfl rfl) rfl ?_
        refine g0 (sA rfl [] rfl) rfl ?_
        refine ge ?_
        exact ⟨n, _, Nat.lt_succ_self n, wk2 [0, 1, 5] [] [] (l := [(0, .c (.row _ _ _)), (1, .c (.int _ _)), (5, .c (.int _ _))]) (h := []) (h' := []) trivial rfl rfl rfl, _, _, rfl, h⟩
    | false =>
      replace h := brF hb4 h
      refine ge ?_
      refine W2 [0, 1, 5, 9] [] [] (l := [(0, .c (.row _ _ _)), (1, .c (.int _ _)), (5, .c (.int _ _)), (9, .c (.bool false))]) (h := []) (h' := []) trivial rfl rfl rfl ?_
      refine W_false rfl ?_
      refine W_exit (ex_then (ex_then (ex_hit ?_)))
      refine W_seq ?_
      refine W_reg he rfl ?_
      refine g0 (sM rfl [] rfl) rfl ?_
      refine g0 (sA rfl [] rfl) rfl ?_
      refine ge ?_
      refine W2 [4] [] [] (l := [(4, .c (.int _ _))]) (h := []) (h' := []) trivial rfl rfl rfl ?_
      obtain rfl := Option.some.inj h
      exact W_ret (r0 rfl rfl)
theorem ok_laws_heldByteS : FnOk Try.prog 27 := ⟨_, Try.func27, rfl, rfl⟩


/-! ### loop.example/g00499/laws.big -/
def m_laws_big (K : Nat) (a0 : List Int) : Option (Bool) := some (decide ((a0.length : Int) > 1048576))
set_option maxRecDepth 20000 in
set_option maxHeartbeats 8000000 in
theorem w_laws_big (K : Nat) (a0 : List Int) (r : Bool) (h : m_laws_big K a0 = some r) : Sp Try.prog 42 [.c (.row false 1 (a0.map en5))] [] (.c (.bool r)) [] := by
  refine Sp.of_W tabOk Try.func42 rfl rfl (Nat.le_of_ble_eq_true rfl) (Nat.le_of_ble_eq_true rfl) fun F hP hN hm => ?_
  obtain ⟨P, N, w0, σ0, β0, m⟩ := F
  obtain rfl : P = Try.prog := hP
  obtain rfl : N = 6 := hN
  obtain rfl : m = 1 := hm
  have he : Env ⟨Try.prog, 6, w0, σ0, β0, 1⟩ tab := ⟨Nat.le_of_ble_eq_true rfl, tabOk⟩
  unfold m_laws_big at h
  refine W_seq ?_
  refine W_reg he rfl ?_
  refine g0 (sA rfl [] rfl) rfl ?_
  refine ge ?_
  refine W2 [0] [] [] (l := [(0, .c (.row _ _ _))]) (h := []) (h' := []) trivial rfl rfl rfl ?_
  refine W_seq ?_
  refine W_reg he rfl ?_
  refine g0 (sM rfl [] rfl) rfl ?_
  refine g0 (sLm rfl rfl rfl rfl) rfl ?_
  refine g0 (sBi rfl rfl rfl rfl) rfl ?_
  refine g0 (sA rfl [] rfl) rfl ?_
  refine ge ?_
  refine W2 [2] [] [] (l := [(2, .c (.bool _))]) (h := []) (h' := []) trivial rfl rfl rfl ?_
  obtain rfl := Option.some.inj h
  exact W_ret (r0 rfl rfl)
theorem ok_laws_big : FnOk Try.prog 42 := ⟨_, Try.func42, rfl, rfl⟩


/-! ### loop.example/g00499/spec.GetVar -/
def l_spec_GetVar_3 (K : Nat) (a0 : List Int) (a1 : Int) : Nat → Int → Int → Option (Int × Int × Bool)
  | 0, _, _ => none
  | n + 1, v1, v2 => (bif (decide (v2 < 5)) then (bif (decide (a1 < 0)) then some (0, 0, false) else (bif (decide (a1 ≥ (iSub .i64 (a0.length : Int) v2))) then some (0, 0, false) else (if 0 ≤ (iAdd .i64 a1 v2) ∧ (iAdd .i64 a1 v2) < (a0.length : Int) then (if 0 ≤ (iMul .i64 7 v2) then (bif (decide ((IntKind.i64.wrap (gt a0 (iAdd .i64 a1 v2))) < 128)) then (bif ((IntKind.i64.wrap (gt a0 (iAdd .i64 a1 v2))) == 0) then (bif (decide (v2 > 0)) then some (0, 0, false) else (bif (decide ((iOr .i64 v1 (iShl .i64 (iAnd .i64 (IntKind.i64.wrap (gt a0 (iAdd .i64 a1 v2))) 127) (iMul .i64 7 v2))) > 1000000000)) then some (0, 0, false) else some ((iOr .i64 v1 (iShl .i64 (iAnd .i64 (IntKind.i64.wrap (gt a0 (iAdd .i64 a1 v2))) 127) (iMul .i64 7 v2))), (iAdd .i64 (iAdd .i64 a1 v2) 1), true))) else (bif (decide ((iOr .i64 v1 (iShl .i64 (iAnd .i64 (IntKind.i64.wrap (gt a0 (iAdd .i64 a1 v2))) 127) (iMul .i64 7 v2))) > 1000000000)) then some (0, 0, false) else some ((iOr .i64 v1 (iShl .i64 (iAnd .i64 (IntKind.i64.wrap (gt a0 (iAdd .i64 a1 v2))) 127) (iMul .i64 7 v2))), (iAdd .i64 (iAdd .i64 a1 v2) 1), true))) else l_spec_GetVar_3 K a0 a1 n (iOr .i64 v1 (iShl .i64 (iAnd .i64 (IntKind.i64.wrap (gt a0 (iAdd .i64 a1 v2))) 127) (iMul .i64 7 v2))) (iAdd .i64 v2 1)) else none) else none))) else some (0, 0, false))
def m_spec_GetVar (K : Nat) (a0 : List Int) (a1 : Int) : Option (Int × Int × Bool) := l_spec_GetVar_3 K a0 a1 K 0 0
set_option maxRecDepth 20000 in
set_option maxHeartbeats 8000000 in
theorem w_spec_GetVar (K : Nat) (a0 : List Int) (a1 : Int) (r : Int × Int × Bool) (h : m_spec_GetVar K a0 a1 = some r) : Sp Try.prog 20 [.c (.row false 1 (a0.map en5)), .c (.int .i64 a1)] [] (.t [.c (.int .i64 r.1), .c (.int .i64 r.2.1), .c (.bool r.2.2)]) [] := by
  refine Sp.of_W tabOk Try.func20 rfl rfl (Nat.le_of_ble_eq_true rfl) (Nat.le_of_ble_eq_true rfl) fun F hP hN hm => ?_
  obtain ⟨P, N, w0, σ0, β0, m⟩ := F
  obtain rfl : P = Try.prog := hP
  obtain rfl : N = 55 := hN
  obtain rfl : m = 1 := hm
  have he : Env ⟨Try.prog, 55, w0, σ0, β0, 1⟩ tab := ⟨Nat.le_of_ble_eq_true rfl, tabOk⟩
  unfold m_spec_GetVar at h
  refine W_seq ?_
  refine W_reg he rfl ?_
  refine g0 (sA rfl [] rfl) rfl ?_
  refine g0 (sA rfl [] rfl) rfl ?_
  refine g0 (sA rfl [] rfl) rfl ?_
  refine ge ?_
  refine W2 [0, 1] [] [] (l := [(0, .c (.row _ _ _)), (1, .c (.int _ _))]) (h := []) (h' := []) trivial rfl rfl rfl ?_
  refine W_seq ?_
  refine W_reg he rfl ?_
  refine g0 (sA rfl [] rfl) rfl ?_
  refine ge ?_
  refine W2 [0, 1, 7] [] [] (l := [(0, .c (.row _ _ _)), (1, .c (.int _ _)), (7, .c (.int _ _))]) (h := []) (h' := []) trivial rfl rfl rfl ?_
  refine W_seq ?_
  refine W_seq ?_
  refine W_reg he rfl ?_
  refine g0 (sA rfl [] rfl) rfl ?_
  refine ge ?_
  refine W2 [0, 1, 7, 8] [] [] (l := [(0, .c (.row _ _ _)), (1, .c (.int _ _)), (7, .c (.int _ _)), (8, .c (.int _ _))]) (h := []) (h' := []) trivial rfl rfl rfl ?_
  refine W_block ?_
  refine W2 [0, 1, 7, 8] [] [] (l := [(0, .c (.row _ _ _)), (1, .c (.int _ _)), (7, .c (.int _ _)), (8, .c (.int _ _))]) (h := []) (h' := []) trivial rfl rfl rfl ?_
  refine W_loopW (fun n S => ∃ (v1 : Int), ∃ (v2 : Int), S = StL [(0, .c (.row false 1 (a0.map en5))), (1, .c (.int .i64 a1)), (7, .c (.int .i64 v1)), (8, .c (.int .i64 v2))] ([] ++ []) ∧ l_spec_GetVar_3 K a0 a1 n v1 v2 = some r) K ⟨_, _, rfl, h⟩ ?_
  rintro n S ⟨v1, v2, rfl, h⟩
  cases n with
  | zero => simp [l_spec_GetVar_3] at h
  | succ n =>
    rw [l_spec_GetVar_3] at h
    refine W_seq ?_
    refine W_seq ?_
    refine W_reg he rfl ?_
    refine g0 (sM rfl [] rfl) rfl ?_
    refine gB (sBi rfl rfl rfl rfl) rfl rfl fun b4 hb4 => ?_
    cases b4 with
    | true =>
      replace h := brT hb4 h
      refine ge ?_
      refine W2 [0, 1, 7, 8, 11] [] [] (l := [(0, .c (.row _ _ _)), (1, .c (.int _ _)), (7, .c (.int _ _)), (8, .c (.int _ _)), (11, .c (.bool true))]) (h := []) (h' := []) trivial rfl rfl rfl ?_
      refine W_true rfl ?_
      refine W_skip ?_
      refine W_seq ?_
      refine W_block ?_
      refine W_seq ?_
      refine W_seq ?_
      refine W_reg he rfl ?_
      refine g0 (sM rfl [] rfl) rfl ?_
      refine gB (sBi rfl rfl rfl rfl) rfl rfl fun b5 hb5 => ?_
      cases b5 with
      | true =>
        replace h := brT hb5 h
        refine g0 (sM rfl [] rfl) rfl ?_
        refine qP rfl rfl rfl rfl ?_
        refine qP rfl rfl rfl rfl ?_
        refine qP rfl rfl rfl rfl ?_
        refine qP rfl rfl rfl rfl ?_
        refine qP rfl rfl rfl rfl ?_
        refine qP rfl rfl rfl rfl ?_
        refine g0 (sPk rfl [] rfl rfl) rfl ?_
        refine ge ?_
        refine W2 [0, 1, 7, 8, 23] [] [] (l := [(0, .c (.row _ _ _)), (1, .c (.int _ _)), (7, .c (.int _ _)), (8, .c (.int _ _)), (23, .c (.bool true))]) (h := []) (h' := []) trivial rfl rfl rfl ?_
        refine W_true rfl ?_
        refine W_seq ?_
        refine W_reg he rfl ?_
        refine g0 (sA rfl [] rfl) rfl ?_
        refine g0 (sA rfl [] rfl) rfl ?_
        refine g0 (sA rfl [] rfl) rfl ?_
        refine ge ?_
        refine W2 [4, 5, 6] [] [] (l := [(4, .c (.int _ _)), (5, .c (.int _ _)), (6, .c (.bool false))]) (h := []) (h' := []) trivial rfl rfl rfl ?_
        obtain rfl := Option.some.inj h
        exact W_ret (r0 rfl rfl)
      | false =>
        replace h := brF hb5 h
        refine g0 (sM rfl [] rfl) rfl ?_
        refine q0 (sM rfl [] rfl) rfl rfl rfl ?_
        refine q0 (sM rfl [] rfl) rfl rfl rfl ?_
        refine q0 (sLm rfl rfl rfl rfl) rfl rfl rfl ?_
        refine q0 (sM rfl [] rfl) rfl rfl rfl ?_
        refine q0 (sBi rfl rfl rfl rfl) rfl rfl rfl ?_
        refine qB (sBi rfl rfl rfl rfl) rfl rfl rfl rfl fun b6 hb6 => ?_
        cases b6 with
        | true =>
          replace h := brT hb6 h
          refine g0 (sPk rfl [] rfl rfl) rfl ?_
          refine ge ?_
          refine W2 [0, 1, 7, 8, 23] [] [] (l := [(0, .c (.row _ _ _)), (1, .c (.int _ _)), (7, .c (.int _ _)), (8, .c (.int _ _)), (23, .c (.bool true))]) (h := []) (h' := []) trivial rfl rfl rfl ?_
          refine W_true rfl ?_
          refine W_seq ?_
          refine W_reg he rfl ?_
          refine g0 (sA rfl [] rfl) rfl ?_
          refine g0 (sA rfl [] rfl) rfl ?_
          refine g0 (sA rfl [] rfl) rfl ?_
          refine ge ?_
          refine W2 [4, 5, 6] [] [] (l := [(4, .c (.int _ _)), (5, .c (.int _ _)), (6, .c (.bool false))]) (h := []) (h' := []) trivial rfl rfl rfl ?_
          obtain rfl := Option.some.inj h
          exact W_ret (r0 rfl rfl)
        | false =>
          replace h := brF hb6 h
          refine g0 (sPk rfl [] rfl rfl) rfl ?_
          refine ge ?_
          refine W2 [0, 1, 7, 8, 23] [] [] (l := [(0, .c (.row _ _ _)), (1, .c (.int _ _)), (7, .c (.int _ _)), (8, .c (.int _ _)), (23, .c (.bool false))]) (h := []) (h' := []) trivial rfl rfl rfl ?_
          refine W_false rfl ?_
          refine W_skip ?_
          refine W_seq ?_
          refine W_reg he rfl ?_
          refine g0 (sM rfl [] rfl) rfl ?_
          refine g0 (sM rfl [] rfl) rfl ?_
          refine g0 (sM rfl [] rfl) rfl ?_
          refine g0 (sBi rfl rfl rfl rfl) rfl ?_
          obtain ⟨c7, h⟩ := chk h
          refine g0 (sIRm rfl rfl rfl rfl c7) rfl ?_
          refine g0 (sLI rfl rfl (en5 (gt a0 (iAdd .i64 a1 v2))) (gt_at _ c7) rfl rfl rfl) rfl ?_
          refine g0 (sCv rfl rfl rfl rfl rfl rfl) rfl ?_
          refine g0 (sA rfl [] rfl) rfl ?_
          refine ge ?_
          refine W2 [0, 1, 7, 8, 9] [] [] (l := [(0, .c (.row _ _ _)), (1, .c (.int _ _)), (7, .c (.int _ _)), (8, .c (.int _ _)), (9, .c (.int _ _))]) (h := []) (h' := []) trivial rfl rfl rfl ?_
          refine W_seq ?_
          refine W_reg he rfl ?_
          refine g0 (sM rfl [] rfl) rfl ?_
          refine g0 (sM rfl [] rfl) rfl ?_
          refine g0 (sBi rfl rfl rfl rfl) rfl ?_
          refine g0 (sM rfl [] rfl) rfl ?_
          refine g0 (sBi rfl rfl rfl rfl) rfl ?_
          obtain ⟨c8, h⟩ := chk h
          refine g0 (sSh rfl rfl rfl c8) rfl ?_
          refine g0 (sBi rfl rfl rfl rfl) rfl ?_
          refine g0 (sA rfl [] rfl) rfl ?_
          refine ge ?_
          refine W2 [0, 1, 7, 8, 9] [] [] (l := [(0, .c (.row _ _ _)), (1, .c (.int _ _)), (7, .c (.int _ _)), (8, .c (.int _ _)), (9, .c (.int _ _))]) (h := []) (h' := []) trivial rfl rfl rfl ?_
          refine W_seq ?_
          refine W_reg he rfl ?_
          refine g0 (sM rfl [] rfl) rfl ?_
          refine gB (sBi rfl rfl rfl rfl) rfl rfl fun b9 hb9 => ?_
          cases b9 with
          | true =>
            replace h := brT hb9 h
            refine ge ?_
            refine W2 [0, 1, 7, 8, 9, 39] [] [] (l := [(0, .c (.row _ _ _)), (1, .c (.int _ _)), (7, .c (.int _ _)), (8, .c (.int _ _)), (9, .c (.int _ _)), (39, .c (.bool true))]) (h := []) (h' := []) trivial rfl rfl rfl ?_
            refine W_true rfl ?_
            refine W_seq ?_
            refine W_seq ?_
            refine W_reg he rfl ?_
            refine g0 (sM rfl [] rfl) rfl ?_
            refine gB (sBi rfl rfl rfl rfl) rfl rfl fun b10 hb10 => ?_
            cases b10 with
            | true =>
              replace h := brT hb10 h
              refine g0 (sM rfl [] rfl) rfl ?_
              refine q0 (sM rfl [] rfl) rfl rfl rfl ?_
              refine qB (sBi rfl rfl rfl rfl) rfl rfl rfl rfl fun b11 hb11 => ?_
              cases b11 with
              | true =>
                replace h := brT hb11 h
                refine g0 (sPk rfl [] rfl rfl) rfl ?_
                refine g0 (sM rfl [] rfl) rfl ?_
                refine qP rfl rfl rfl rfl ?_
                refine qP rfl rfl rfl rfl ?_
                refine g0 (sPk rfl [] rfl rfl) rfl ?_
                refine ge ?_
                refine W2 [1, 7, 8, 49] [] [] (l := [(1, .c (.int _ _)), (7, .c (.int _ _)), (8, .c (.int _ _)), (49, .c (.bool true))]) (h := []) (h' := []) trivial rfl rfl rfl ?_
                refine W_true rfl ?_
                refine W_seq ?_
                refine W_reg he rfl ?_
                refine g0 (sA rfl [] rfl) rfl ?_
                refine g0 (sA rfl [] rfl) rfl ?_
                refine g0 (sA rfl [] rfl) rfl ?_
                refine ge ?_
                refine W2 [4, 5, 6] [] [] (l := [(4, .c (.int _ _)), (5, .c (.int _ _)), (6, .c (.bool false))]) (h := []) (h' := []) trivial rfl rfl rfl ?_
                obtain rfl := Option.some.inj h
                exact W_ret (r0 rfl rfl)
              | false =>
                replace h := brF hb11 h
                refine g0 (sPk rfl [] rfl rfl) rfl ?_
                refine g0 (sM rfl [] rfl) rfl ?_
                refine q0 (sM rfl [] rfl) rfl rfl rfl ?_
                refine qB (sBi rfl rfl rfl rfl) rfl rfl rfl rfl fun b12 hb12 => ?_
                cases b12 with
                | true =>
                  replace h := brT hb12 h
                  refine g0 (sPk rfl [] rfl rfl) rfl ?_
                  refine ge ?_
                  refine W2 [1, 7, 8, 49] [] [] (l := [(1, .c (.int _ _)), (7, .c (.int _ _)), (8, .c (.int _ _)), (49, .c (.bool true))]) (h := []) (h' := []) trivial rfl rfl rfl ?_
                  refine W_true rfl ?_
                  refine W_seq ?_
                  refine W_reg he rfl ?_
                  refine g0 (sA rfl [] rfl) rfl ?_
                  refine g0 (sA rfl [] rfl) rfl ?_
                  refine g0 (sA rfl [] rfl) rfl ?_
                  refine ge ?_
                  refine W2 [4, 5, 6] [] [] (l := [(4, .c (.int _ _)), (5, .c (.int _ _)), (6, .c (.bool false))]) (h := []) (h' := []) trivial rfl rfl rfl ?_
                  obtain rfl := Option.some.inj h
                  exact W_ret (r0 rfl rfl)
                | false =>
                  replace h := brF hb12 h
                  refine g0 (sPk rfl [] rfl rfl) rfl ?_
                  refine ge ?_
                  refine W2 [1, 7, 8, 49] [] [] (l := [(1, .c (.int _ _)), (7, .c (.int _ _)), (8, .c (.int _ _)), (49, .c (.bool false))]) (h := []) (h' := []) trivial rfl rfl rfl ?_
                  refine W_false rfl ?_
                  refine W_skip ?_
                  refine W_seq ?_
                  refine W_reg he rfl ?_
                  refine g0 (sM rfl [] rfl) rfl ?_
                  refine g0 (sM rfl [] rfl) rfl ?_
                  refine g0 (sM rfl [] rfl) rfl ?_
                  refine g0 (sBi rfl rfl rfl rfl) rfl ?_
                  refine g0 (sBi rfl rfl rfl rfl) rfl ?_
                  refine g0 (sA rfl [] rfl) rfl ?_
                  refine g0 (sA rfl [] rfl) rfl ?_
                  refine g0 (sA rfl [] rfl) rfl ?_
                  refine ge ?_
                  refine W2 [4, 5, 6] [] [] (l := [(4, .c (.int _ _)), (5, .c (.int _ _)), (6, .c (.bool true))]) (h := []) (h' := []) trivial rfl rfl rfl ?_
                  obtain rfl := Option.some.inj h
                  exact W_ret (r0 rfl rfl)
            | false =>
              replace h := brF hb10 h
              refine g0 (sM rfl [] rfl) rfl ?_
              refine qP rfl rfl rfl rfl ?_
              refine qP rfl rfl rfl rfl ?_
              refine g0 (sPk rfl [] rfl rfl) rfl ?_
              refine g0 (sM rfl [] rfl) rfl ?_
              refine q0 (sM rfl [] rfl) rfl rfl rfl ?_
              refine qB (sBi rfl rfl rfl rfl) rfl rfl rfl rfl fun b13 hb13 => ?_
              cases b13 with
              | true =>
                replace h := brT hb13 h
                refine g0 (sPk rfl [] rfl rfl) rfl ?_
                refine ge ?_
                refine W2 [1, 7, 8, 49] [] [] (l := [(1, .c (.int _ _)), (7, .c (.int _ _)), (8, .c (.int _ _)), (49, .c (.bool true))]) (h := []) (h' := []) trivial rfl rfl rfl ?_
                refine W_true rfl ?_
                refine W_seq ?_
                refine W_reg he rfl ?_
                refine g0 (sA rfl [] rfl) rfl ?_
                refine g0 (sA rfl [] rfl) rfl ?_
                refine g0 (sA rfl [] rfl) rfl ?_
                refine ge ?_
                refine W2 [4, 5, 6] [] [] (l := [(4, .c (.int _ _)), (5, .c (.int _ _)), (6, .c (.bool false))]) (h := []) (h' := []) trivial rfl rfl rfl ?_
                obtain rfl := Option.some.inj h
                exact W_ret (r0 rfl rfl)
              | false =>
                replace h := brF hb13 h
                refine g0 (sPk rfl [] rfl rfl) rfl ?_
                refine ge ?_
                refine W2 [1, 7, 8, 49] [] [] (l := [(1, .c (.int _ _)), (7, .c (.int _ _)), (8, .c (.int _ _)), (49, .c (.bool false))]) (h := []) (h' := []) trivial rfl rfl rfl ?_
                refine W_false rfl ?_
                refine W_skip ?_
                refine W_seq ?_
                refine W_reg he rfl ?_
                refine g0 (sM rfl [] rfl) rfl ?_
                refine g0 (sM rfl [] rfl) rfl ?_
                refine g0 (sM rfl [] rfl) rfl ?_
                refine g0 (sBi rfl rfl rfl rfl) rfl ?_
                refine g0 (sBi rfl rfl rfl rfl) rfl ?_
                refine g0 (sA rfl [] rfl) rfl ?_
                refine g0 (sA rfl [] rfl) rfl ?_
                refine g0 (sA rfl [] rfl) rfl ?_
                refine ge ?_
                refine W2 [4, 5, 6] [] [] (l := [(4, .c (.int _ _)), (5, .c (.int _ _)), (6, .c (.bool true))]) (h := []) (h' := []) trivial rfl rfl rfl ?_
                obtain rfl := Option.some.inj h
                exact W_ret (r0 rfl rfl)
          | false =>
            replace h := brF hb9 h
            refine ge ?_
            refine W2 [0, 1, 7, 8, 9, 39] [] [] (l := [(0, .c (.row _ _ _)), (1, .c (.int _ _)), (7, .c (.int _ _)), (8, .c (.int _ _)), (9, .c (.int _ _)), (39, .c (.bool false))]) (h := []) (h' := []) trivial rfl rfl rfl ?_
            refine W_false rfl ?_
            refine W_skip ?_
            refine W_reg he rfl ?_
            refine g0 (sM rfl [] rfl) rfl ?_
            refine g0 (sBi rfl rfl rfl rfl) rfl ?_
            refine g0 (sA rfl [] rfl) rfl ?_
            refine ge ?_
            exact ⟨n, _, Nat.lt_succ_self n, wk2 [0, 1, 7, 8] [] [] (l := [(0, .c (.row _ _ _)), (1, .c (.int _ _)), (7, .c (.int _ _)), (8, .c (.int _ _))]) (h := []) (h' := []) trivial rfl rfl rfl, _, _, rfl, h⟩
    | false =>
      replace h := brF hb4 h
      refine ge ?_
      refine W2 [0, 1, 7, 8, 11] [] [] (l := [(0, .c (.row _ _ _)), (1, .c (.int _ _)), (7, .c (.int _ _)), (8, .c (.int _ _)), (11, .c (.bool false))]) (h := []) (h' := []) trivial rfl rfl rfl ?_
      refine W_false rfl ?_
      refine W_exit (ex_then (ex_then (ex_hit ?_)))
      refine W_seq ?_
      refine W_reg he rfl ?_
      refine g0 (sA rfl [] rfl) rfl ?_
      refine g0 (sA rfl [] rfl) rfl ?_
      refine g0 (sA rfl [] rfl) rfl ?_
      refine ge ?_
      refine W2 [4, 5, 6] [] [] (l := [(4, .c (.int _ _)), (5, .c (.int _ _)), (6, .c (.bool false))]) (h := []) (h' := []) trivial rfl rfl rfl ?_
      obtain rfl := Option.some.inj h
      exact W_ret (r0 rfl rfl)
theorem ok_spec_GetVar : FnOk Try.prog 20 := ⟨_, Try.func20, rfl, rfl⟩


/-! ### loop.example/g00499/impl.GetVar -/
def l_impl_GetVar_5 (K : Nat) (a0 : List Int) (a1 : Int) : Nat → Int → Int → Option (Int × Int × Bool)
  | 0, _, _ => none
  | n + 1, v3, v4 => (bif (decide (v4 < (iMin 5 (iSub .i64 (a0.length : Int) a1)))) then (if 0 ≤ (iAdd .i64 a1 v4) ∧ (iAdd .i64 a1 v4) < (a0.length : Int) then (if 0 ≤ (IntKind.u64.wrap (iMul .i64 7 v4)) then (bif (decide ((gt a0 (iAdd .i64 a1 v4)) < 128)) then (bif (decide (v4 > 0)) then (bif ((gt a0 (iAdd .i64 a1 v4)) == 0) then some (0, 0, false) else (bif (decide ((iOr .i64 v3 (iShl .i64 (IntKind.i64.wrap (iAnd .u8 (gt a0 (iAdd .i64 a1 v4)) 127)) (IntKind.u64.wrap (iMul .i64 7 v4)))) > 1000000000)) then some (0, 0, false) else some ((iOr .i64 v3 (iShl .i64 (IntKind.i64.wrap (iAnd .u8 (gt a0 (iAdd .i64 a1 v4)) 127)) (IntKind.u64.wrap (iMul .i64 7 v4)))), (iAdd .i64 (iAdd .i64 a1 v4) 1), true))) else (bif (decide ((iOr .i64 v3 (iShl .i64 (IntKind.i64.wrap (iAnd .u8 (gt a0 (iAdd .i64 a1 v4)) 127)) (IntKind.u64.wrap (iMul .i64 7 v4)))) > 1000000000)) then some (0, 0, false) else some ((iOr .i64 v3 (iShl .i64 (IntKind.i64.wrap (iAnd .u8 (gt a0 (iAdd .i64 a1 v4)) 127)) (IntKind.u64.wrap (iMul .i64 7 v4)))), (iAdd .i64 (iAdd .i64 a1 v4) 1), true))) else l_impl_GetVar_5 K a0 a1 n (iOr .i64 v3 (iShl .i64 (IntKind.i64.wrap (iAnd .u8 (gt a0 (iAdd .i64 a1 v4)) 127)) (IntKind.u64.wrap (iMul .i64 7 v4)))) (iAdd .i64 v4 1)) else none) else none) else some (0, 0, false))
def m_impl_GetVar (K : Nat) (a0 : List Int) (a1 : Int) : Option (Int × Int × Bool) := ((m_impl_within K a1 0 (iSub .i64 (a0.length : Int) 1)).bind fun r1 => (bif r1 then l_impl_GetVar_5 K a0 a1 K 0 0 else some (0, 0, false)))
set_option maxRecDepth 20000 in
set_option maxHeartbeats 8000000 in
theorem w_impl_GetVar (K : Nat) (a0 : List Int) (a1 : Int) (r : Int × Int × Bool) (h : m_impl_GetVar K a0 a1 = some r) : Sp Try.prog 22 [.c (.row false 1 (a0.map en5)), .c (.int .i64 a1)] [] (.t [.c (.int .i64 r.1), .c (.int .i64 r.2.1), .c (.bool r.2.2)]) [] := by
  refine Sp.of_W tabOk Try.func22 rfl rfl (Nat.le_of_ble_eq_true rfl) (Nat.le_of_ble_eq_true rfl) fun F hP hN hm => ?_
  obtain ⟨P, N, w0, σ0, β0, m⟩ := F
  obtain rfl : P = Try.prog := hP
  obtain rfl : N = 57 := hN
  obtain rfl : m = 1 := hm
  have he : Env ⟨Try.prog, 57, w0, σ0, β0, 1⟩ tab := ⟨Nat.le_of_ble_eq_true rfl, tabOk⟩
  unfold m_impl_GetVar at h
  refine W_seq ?_
  refine W_reg he rfl ?_
  refine g0 (sA rfl [] rfl) rfl ?_
  refine g0 (sA rfl [] rfl) rfl ?_
  refine g0 (sA rfl [] rfl) rfl ?_
  refine ge ?_
  refine W2 [0, 1] [] [] (l := [(0, .c (.row _ _ _)), (1, .c (.int _ _))]) (h := []) (h' := []) trivial rfl rfl rfl ?_
  refine W_seq ?_
  refine W_seq ?_
  refine W_reg he rfl ?_
  refine g0 (sM rfl [] rfl) rfl ?_
  refine g0 (sM rfl [] rfl) rfl ?_
  refine g0 (sLm rfl rfl rfl rfl) rfl ?_
  refine g0 (sBi rfl rfl rfl rfl) rfl ?_
  obtain ⟨r1, hr1, h⟩ := bnd2 h
  refine gB (sCm (w_impl_within K a1 0 (iSub .i64 (a0.length : Int) 1) _ hr1) ok_impl_within rfl rfl rfl rfl) rfl rfl fun b2 hb2 => ?_
  cases b2 with
  | true =>
    replace h := brT hb2 h
    refine g0 (sNt rfl rfl) rfl ?_
    refine ge ?_
    refine W2 [0, 1, 15] [] [] (l := [(0, .c (.row _ _ _)), (1, .c (.int _ _)), (15, .c (.bool false))]) (h := []) (h' := []) trivial rfl rfl rfl ?_
    refine W_false rfl ?_
    refine W_skip ?_
    refine W_seq ?_
    refine W_reg he rfl ?_
    refine g0 (sA rfl [] rfl) rfl ?_
    refine ge ?_
    refine W2 [0, 1, 7] [] [] (l := [(0, .c (.row _ _ _)), (1, .c (.int _ _)), (7, .c (.int _ _))]) (h := []) (h' := []) trivial rfl rfl rfl ?_
    refine W_seq ?_
    refine W_seq ?_
    refine W_reg he rfl ?_
    refine g0 (sM rfl [] rfl) rfl ?_
    refine g0 (sLm rfl rfl rfl rfl) rfl ?_
    refine g0 (sM rfl [] rfl) rfl ?_
    refine g0 (sBi rfl rfl rfl rfl) rfl ?_
    refine g0 (sMn rfl rfl rfl) rfl ?_
    refine g0 (sM rfl [] rfl) rfl ?_
    refine ge ?_
    refine W2 [0, 1, 7, 20, 21] [] [] (l := [(0, .c (.row _ _ _)), (1, .c (.int _ _)), (7, .c (.int _ _)), (20, .c (.int _ _)), (21, .c (.int _ _))]) (h := []) (h' := []) trivial rfl rfl rfl ?_
    refine W_block ?_
    refine W2 [0, 1, 7, 20, 21] [] [] (l := [(0, .c (.row _ _ _)), (1, .c (.int _ _)), (7, .c (.int _ _)), (20, .c (.int _ _)), (21, .c (.int _ _))]) (h := []) (h' := []) trivial rfl rfl rfl ?_
    refine W_loopW (fun n S => ∃ (v3 : Int), ∃ (v4 : Int), S = StL [(0, .c (.row false 1 (a0.map en5))), (1, .c (.int .i64 a1)), (7, .c (.int .i64 v3)), (20, .c (.int .i64 (iMin 5 (iSub .i64 (a0.length : Int) a1)))), (21, .c (.int .i64 v4))] ([] ++ []) ∧ l_impl_GetVar_5 K a0 a1 n v3 v4 = some r) K ⟨_, _, rfl, h⟩ ?_
    rintro n S ⟨v3, v4, rfl, h⟩
    cases n with
    | zero => simp [l_impl_GetVar_5] at h
    | succ n =>
      rw [l_impl_GetVar_5] at h
      refine W_seq ?_
      refine W_reg he rfl ?_
      refine gB (sBi rfl rfl rfl rfl) rfl rfl fun b6 hb6 => ?_
      cases b6 with
      | true =>
        replace h := brT hb6 h
        refine ge ?_
        refine W2 [0, 1, 7, 20, 21, 22] [] [] (l := [(0, .c (.row _ _ _)), (1, .c (.int _ _)), (7, .c (.int _ _)), (20, .c (.int _ _)), (21, .c (.int _ _)), (22, .c (.bool true))]) (h := []) (h' := []) trivial rfl rfl rfl ?_
        refine W_seq ?_
        refine W_true rfl ?_
        refine W_skip ?_
        refine W_seq ?_
        refine W_block ?_
        refine W_seq ?_
        refine W_reg he rfl ?_
        refine g0 (sM rfl [] rfl) rfl ?_
        refine g0 (sA rfl [] rfl) rfl ?_
        refine ge ?_
        refine W2 [0, 1, 7, 8, 20, 21] [] [] (l := [(0, .c (.row _ _ _)), (1, .c (.int _ _)), (7, .c (.int _ _)), (8, .c (.int _ _)), (20, .c (.int _ _)), (21, .c (.int _ _))]) (h := []) (h' := []) trivial rfl rfl rfl ?_
        refine W_seq ?_
        refine W_reg he rfl ?_
        refine g0 (sM rfl [] rfl) rfl ?_
        refine g0 (sM rfl [] rfl) rfl ?_
        refine g0 (sM rfl [] rfl) rfl ?_
        refine g0 (sBi rfl rfl rfl rfl) rfl ?_
        obtain ⟨c7, h⟩ := chk h
        refine g0 (sIRm rfl rfl rfl rfl c7) rfl ?_
        refine g0 (sLI rfl rfl (en5 (gt a0 (iAdd .i64 a1 v4))) (gt_at _ c7) rfl rfl rfl) rfl ?_
        refine g0 (sA rfl [] rfl) rfl ?_
        refine ge ?_
        refine W2 [0, 1, 7, 8, 9, 20, 21] [] [] (l := [(0, .c (.row _ _ _)), (1, .c (.int _ _)), (7, .c (.int _ _)), (8, .c (.int _ _)), (9, .c (.int _ _)), (20, .c (.int _ _)), (21, .c (.int _ _))]) (h := []) (h' := []) trivial rfl rfl rfl ?_
        refine W_seq ?_
        refine W_reg he rfl ?_
        refine g0 (sM rfl [] rfl) rfl ?_
        refine g0 (sM rfl [] rfl) rfl ?_
        refine g0 (sBi rfl rfl rfl rfl) rfl ?_
        refine g0 (sCv rfl rfl rfl rfl rfl rfl) rfl ?_
        refine g0 (sM rfl [] rfl) rfl ?_
        refine g0 (sBi rfl rfl rfl rfl) rfl ?_
        refine g0 (sCv rfl rfl rfl rfl rfl rfl) rfl ?_
        obtain ⟨c8, h⟩ := chk h
        refine g0 (sSh rfl rfl rfl c8) rfl ?_
        refine g0 (sBi rfl rfl rfl rfl) rfl ?_
        refine g0 (sA rfl [] rfl) rfl ?_
        refine ge ?_
        refine W2 [0, 1, 7, 8, 9, 20, 21] [] [] (l := [(0, .c (.row _ _ _)), (1, .c (.int _ _)), (7, .c (.int _ _)), (8, .c (.int _ _)), (9, .c (.int _ _)), (20, .c (.int _ _)), (21, .c (.int _ _))]) (h := []) (h' := []) trivial rfl rfl rfl ?_
        refine W_seq ?_
        refine W_reg he rfl ?_
        refine g0 (sM rfl [] rfl) rfl ?_
        refine gB (sBi rfl rfl rfl rfl) rfl rfl fun b9 hb9 => ?_
        cases b9 with
        | true =>
          replace h := brT hb9 h
          refine ge ?_
          refine W2 [0, 1, 7, 8, 9, 20, 21, 40] [] [] (l := [(0, .c (.row _ _ _)), (1, .c (.int _ _)), (7, .c (.int _ _)), (8, .c (.int _ _)), (9, .c (.int _ _)), (20, .c (.int _ _)), (21, .c (.int _ _)), (40, .c (.bool true))]) (h := []) (h' := []) trivial rfl rfl rfl ?_
          refine W_true rfl ?_
          refine W_seq ?_
          refine W_seq ?_
          refine W_reg he rfl ?_
          refine g0 (sM rfl [] rfl) rfl ?_
          refine gB (sBi rfl rfl rfl rfl) rfl rfl fun b10 hb10 => ?_
          cases b10 with
          | true =>
            replace h := brT hb10 h
            refine g0 (sM rfl [] rfl) rfl ?_
            refine q0 (sM rfl [] rfl) rfl rfl rfl ?_
            refine qB (sBi rfl rfl rfl rfl) rfl rfl rfl rfl fun b11 hb11 => ?_
            cases b11 with
            | true =>
              replace h := brT hb11 h
              refine g0 (sPk rfl [] rfl rfl) rfl ?_
              refine g0 (sM rfl [] rfl) rfl ?_
              refine qP rfl rfl rfl rfl ?_
              refine qP rfl rfl rfl rfl ?_
              refine g0 (sPk rfl [] rfl rfl) rfl ?_
              refine ge ?_
              refine W2 [1, 7, 8, 50] [] [] (l := [(1, .c (.int _ _)), (7, .c (.int _ _)), (8, .c (.int _ _)), (50, .c (.bool true))]) (h := []) (h' := []) trivial rfl rfl rfl ?_
              refine W_true rfl ?_
              refine W_exit (ex_then (ex_miss rfl (ex_then (ex_then (ex_hit ?_)))))
              refine W_seq ?_
              refine W_reg he rfl ?_
              refine g0 (sA rfl [] rfl) rfl ?_
              refine g0 (sA rfl [] rfl) rfl ?_
              refine g0 (sA rfl [] rfl) rfl ?_
              refine ge ?_
              refine W2 [4, 5, 6] [] [] (l := [(4, .c (.int _ _)), (5, .c (.int _ _)), (6, .c (.bool false))]) (h := []) (h' := []) trivial rfl rfl rfl ?_
              obtain rfl := Option.some.inj h
              exact W_ret (r0 rfl rfl)
            | false =>
              replace h := brF hb11 h
              refine g0 (sPk rfl [] rfl rfl) rfl ?_
              refine g0 (sM rfl [] rfl) rfl ?_
              refine q0 (sM rfl [] rfl) rfl rfl rfl ?_
              refine qB (sBi rfl rfl rfl rfl) rfl rfl rfl rfl fun b12 hb12 => ?_
              cases b12 with
              | true =>
                replace h := brT hb12 h
                refine g0 (sPk rfl [] rfl rfl) rfl ?_
                refine ge ?_
                refine W2 [1, 7, 8, 50] [] [] (l := [(1, .c (.int _ _)), (7, .c (.int _ _)), (8, .c (.int _ _)), (50, .c (.bool true))]) (h := []) (h' := []) trivial rfl rfl rfl ?_
                refine W_true rfl ?_
                refine W_exit (ex_then (ex_miss rfl (ex_then (ex_then (ex_hit ?_)))))
                refine W_seq ?_
                refine W_reg he rfl ?_
                refine g0 (sA rfl [] rfl) rfl ?_
                refine g0 (sA rfl [] rfl) rfl ?_
                refine g0 (sA rfl [] rfl) rfl ?_
                refine ge ?_
                refine W2 [4, 5, 6] [] [] (l := [(4, .c (.int _ _)), (5, .c (.int _ _)), (6, .c (.bool false))]) (h := []) (h' := []) trivial rfl rfl rfl ?_
                obtain rfl := Option.some.inj h
                exact W_ret (r0 rfl rfl)
              | false =>
                replace h := brF hb12 h
                refine g0 (sPk rfl [] rfl rfl) rfl ?_
                refine ge ?_
                refine W2 [1, 7, 8, 50] [] [] (l := [(1, .c (.int _ _)), (7, .c (.int _ _)), (8, .c (.int _ _)), (50, .c (.bool false))]) (h := []) (h' := []) trivial rfl rfl rfl ?_
                refine W_false rfl ?_
                refine W_skip ?_
                refine W_seq ?_
                refine W_reg he rfl ?_
                refine g0 (sM rfl [] rfl) rfl ?_
                refine g0 (sM rfl [] rfl) rfl ?_
                refine g0 (sM rfl [] rfl) rfl ?_
                refine g0 (sBi rfl rfl rfl rfl) rfl ?_
                refine g0 (sBi rfl rfl rfl rfl) rfl ?_
                refine g0 (sA rfl [] rfl) rfl ?_
                refine g0 (sA rfl [] rfl) rfl ?_
                refine g0 (sA rfl [] rfl) rfl ?_
                refine ge ?_
                refine W2 [4, 5, 6] [] [] (l := [(4, .c (.int _ _)), (5, .c (.int _ _)), (6, .c (.bool true))]) (h := []) (h' := []) trivial rfl rfl rfl ?_
                obtain rfl := Option.some.inj h
                exact W_ret (r0 rfl rfl)
          | false =>
            replace h := brF hb10 h
            refine g0 (sM rfl [] rfl) rfl ?_
            refine qP rfl rfl rfl rfl ?_
            refine qP rfl rfl rfl rfl ?_
            refine g0 (sPk rfl [] rfl rfl) rfl ?_
            refine g0 (sM rfl [] rfl) rfl ?_
            refine q0 (sM rfl [] rfl) rfl rfl rfl ?_
            refine qB (sBi rfl rfl rfl rfl) rfl rfl rfl rfl fun b13 hb13 => ?_
            cases b13 with
            | true =>
              replace h := brT hb13 h
              refine g0 (sPk rfl [] rfl rfl) rfl ?_
              refine ge ?_
              refine W2 [1, 7, 8, 50] [] [] (l := [(1, .c (.int _ _)), (7, .c (.int _ _)), (8, .c (.int _ _)), (50, .c (.bool true))]) (h := []) (h' := []) trivial rfl rfl rfl ?_
              refine W_true rfl ?_
              refine W_exit (ex_then (ex_miss rfl (ex_then (ex_then (ex_hit ?_)))))
              refine W_seq ?_
              refine W_reg he rfl ?_
              refine g0 (sA rfl [] rfl) rfl ?_
              refine g0 (sA rfl [] rfl) rfl ?_
              refine g0 (sA rfl [] rfl) rfl ?_
              refine ge ?_
              refine W2 [4, 5, 6] [] [] (l := [(4, .c (.int _ _)), (5, .c (.int _ _)), (6, .c (.bool false))]) (h := []) (h' := []) trivial rfl rfl rfl ?_
              obtain rfl := Option.some.inj h
              exact W_ret (r0 rfl rfl)
            | false =>
              replace h := brF hb13 h
              refine g0 (sPk rfl [] rfl rfl) rfl ?_
              refine ge ?_
              refine W2 [1, 7, 8, 50] [] [] (l := [(1, .c (.int _ _)), (7, .c (.int _ _)), (8, .c (.int _ _)), (50, .c (.bool false))]) (h := []) (h' := []) trivial rfl rfl rfl ?_
              refine W_false rfl ?_
              refine W_skip ?_
              refine W_seq ?_
              refine W_reg he rfl ?_
              refine g0 (sM rfl [] rfl) rfl ?_
              refine g0 (sM rfl [] rfl) rfl ?_
              refine g0 (sM rfl [] rfl) rfl ?_
              refine g0 (sBi rfl rfl rfl rfl) rfl ?_
              refine g0 (sBi rfl rfl rfl rfl) rfl ?_
              refine g0 (sA rfl [] rfl) rfl ?_
              refine g0 (sA rfl [] rfl) rfl ?_
              refine g0 (sA rfl [] rfl) rfl ?_
              refine ge ?_
              refine W2 [4, 5, 6] [] [] (l := [(4, .c (.int _ _)), (5, .c (.int _ _)), (6, .c (.bool true))]) (h := []) (h' := []) trivial rfl rfl rfl ?_
              obtain rfl := Option.some.inj h
              exact W_ret (r0 rfl rfl)
        | false =>
          replace h := brF hb9 h
          refine ge ?_
          refine W2 [0, 1, 7, 8, 9, 20, 21, 40] [] [] (l := [(0, .c (.row _ _ _)), (1, .c (.int _ _)), (7, .c (.int _ _)), (8, .c (.int _ _)), (9, .c (.int _ _)), (20, .c (.int _ _)), (21, .c (.int _ _)), (40, .c (.bool false))]) (h := []) (h' := []) trivial rfl rfl rfl ?_
          refine W_false rfl ?_
          refine W_skip ?_
          refine W_reg he rfl ?_
          refine g0 (sBi rfl rfl rfl rfl) rfl ?_
          refine g0 (sM rfl [] rfl) rfl ?_
          refine ge ?_
          exact ⟨n, _, Nat.lt_succ_self n, wk2 [0, 1, 7, 20, 21] [] [] (l := [(0, .c (.row _ _ _)), (1, .c (.int _ _)), (7, .c (.int _ _)), (20, .c (.int _ _)), (21, .c (.int _ _))]) (h := []) (h' := []) trivial rfl rfl rfl, _, _, rfl, h⟩
      | false =>
        replace h := brF hb6 h
        refine ge ?_
        refine W2 [0, 1, 7, 20, 21, 22] [] [] (l := [(0, .c (.row _ _ _)), (1, .c (.int _ _)), (7, .c (.int _ _)), (20, .c (.int _ _)), (21, .c (.int _ _)), (22, .c (.bool false))]) (h := []) (h' := []) trivial rfl rfl rfl ?_
        refine W_seq ?_
        refine W_false rfl ?_
        refine W_exit (ex_then (ex_then (ex_hit ?_)))
        refine W_seq ?_
        refine W_reg he rfl ?_
        refine g0 (sA rfl [] rfl) rfl ?_
        refine g0 (sA rfl [] rfl) rfl ?_
        refine g0 (sA rfl [] rfl) rfl ?_
        refine ge ?_
        refine W2 [4, 5, 6] [] [] (l := [(4, .c (.int _ _)), (5, .c (.int _ _)), (6, .c (.bool false))]) (h := []) (h' := []) trivial rfl rfl rfl ?_
        obtain rfl := Option.some.inj h
        exact W_ret (r0 rfl rfl)
  | false =>
    replace h := brF hb2 h
    refine g0 (sNt rfl rfl) rfl ?_
    refine ge ?_
    refine W2 [0, 1, 15] [] [] (l := [(0, .c (.row _ _ _)), (1, .c (.int _ _)), (15, .c (.bool true))]) (h := []) (h' := []) trivial rfl rfl rfl ?_
    refine W_true rfl ?_
    refine W_seq ?_
    refine W_reg he rfl ?_
    refine g0 (sA rfl [] rfl) rfl ?_
    refine g0 (sA rfl [] rfl) rfl ?_
    refine g0 (sA rfl [] rfl) rfl ?_
    refine ge ?_
    refine W2 [4, 5, 6] [] [] (l := [(4, .c (.int _ _)), (5, .c (.int _ _)), (6, .c (.bool false))]) (h := []) (h' := []) trivial rfl rfl rfl ?_
    obtain rfl := Option.some.inj h
    exact W_ret (r0 rfl rfl)
theorem ok_impl_GetVar : FnOk Try.prog 22 := ⟨_, Try.func22, rfl, rfl⟩


/-! ### loop.example/g00499/impl.SpentMost -/
def m_impl_SpentMost (K : Nat) (a0 : T_impl_Conf) : Option (Int) := some (iAdd .i64 4 a0.fTax)
set_option maxRecDepth 20000 in
set_option maxHeartbeats 8000000 in
theorem w_impl_SpentMost (K : Nat) (a0 : T_impl_Conf) (r : Int) (h : m_impl_SpentMost K a0 = some r) : Sp Try.prog 17 [.g [.int .i64 a0.fChunks, .int .i64 a0.fSize, .int .i64 a0.fSlots, .int .i64 a0.fTax, .int .i64 a0.fSlice, .int .i64 a0.fGens]] [] (.c (.int .i64 r)) [] := by
  refine Sp.of_W tabOk Try.func17 rfl rfl (Nat.le_of_ble_eq_true rfl) (Nat.le_of_ble_eq_true rfl) fun F hP hN hm => ?_
  obtain ⟨P, N, w0, σ0, β0, m⟩ := F
  obtain rfl : P = Try.prog := hP
  obtain rfl : N = 6 := hN
  obtain rfl : m = 1 := hm
  have he : Env ⟨Try.prog, 6, w0, σ0, β0, 1⟩ tab := ⟨Nat.le_of_ble_eq_true rfl, tabOk⟩
  unfold m_impl_SpentMost at h
  refine W_seq ?_
  refine W_reg he rfl ?_
  refine g0 (sBx rfl [] rfl rfl 101 rfl) rfl ?_
  refine g0 (sA rfl [] rfl) rfl ?_
  refine ge ?_
  refine W2 [1] [101] [] (l := [(1, .c (.ptr _ _ _ _))]) (h := [(101, ⟨_, _, [[.int _ _, .int _ _, .int _ _, .int _ _, .int _ _, .int _ _]]⟩)]) (h' := []) trivial rfl rfl rfl ?_
  refine W_seq ?_
  refine W_reg he rfl ?_
  refine g0 (sFP rfl rfl rfl) rfl ?_
  refine g0 (sLd rfl rfl) rfl ?_
  refine g0 (sBi rfl rfl rfl rfl) rfl ?_
  refine g0 (sA rfl [] rfl) rfl ?_
  refine ge ?_
  refine W2 [2] [] [] (l := [(2, .c (.int _ _))]) (h := []) (h' := []) trivial rfl rfl rfl ?_
  obtain rfl := Option.some.inj h
  exact W_ret (r0 rfl rfl)
theorem ok_impl_SpentMost : FnOk Try.prog 17 := ⟨_, Try.func17, rfl, rfl⟩


/-! ### loop.example/g00499/spec.SpentMost -/
def m_spec_SpentMost (K : Nat) (a0 : T_impl_Conf) : Option (Int) := some (iAdd .i64 4 a0.fTax)
set_option maxRecDepth 20000 in
set_option maxHeartbeats 8000000 in
theorem w_spec_SpentMost (K : Nat) (a0 : T_impl_Conf) (r : Int) (h : m_spec_SpentMost K a0 = some r) : Sp Try.prog 15 [.g [.int .i64 a0.fChunks, .int .i64 a0.fSize, .int .i64 a0.fSlots, .int .i64 a0.fTax, .int .i64 a0.fSlice, .int .i64 a0.fGens]] [] (.c (.int .i64 r)) [] := by
  refine Sp.of_W tabOk Try.func15 rfl rfl (Nat.le_of_ble_eq_true rfl) (Nat.le_of_ble_eq_true rfl) fun F hP hN hm => ?_
  obtain ⟨P, N, w0, σ0, β0, m⟩ := F
  obtain rfl : P = Try.prog := hP
  obtain rfl : N = 6 := hN
  obtain rfl : m = 1 := hm
  have he : Env ⟨Try.prog, 6, w0, σ0, β0, 1⟩ tab := ⟨Nat.le_of_ble_eq_true rfl, tabOk⟩
  unfold m_spec_SpentMost at h
  refine W_seq ?_
  refine W_reg he rfl ?_
  refine g0 (sBx rfl [] rfl rfl 101 rfl) rfl ?_
  refine g0 (sA rfl [] rfl) rfl ?_
  refine ge ?_
  refine W2 [1] [101] [] (l := [(1, .c (.ptr _ _ _ _))]) (h := [(101, ⟨_, _, [[.int _ _, .int _ _, .int _ _, .int _ _, .int _ _, .int _ _]]⟩)]) (h' := []) trivial rfl rfl rfl ?_
  refine W_seq ?_
  refine W_reg he rfl ?_
  refine g0 (sFP rfl rfl rfl) rfl ?_
  refine g0 (sLd rfl rfl) rfl ?_
  refine g0 (sBi rfl rfl rfl rfl) rfl ?_
  refine g0 (sA rfl [] rfl) rfl ?_
  refine ge ?_
  refine W2 [2] [] [] (l := [(2, .c (.int _ _))]) (h := []) (h' := []) trivial rfl rfl rfl ?_
  obtain rfl := Option.some.inj h
  exact W_ret (r0 rfl rfl)
theorem ok_spec_SpentMost : FnOk Try.prog 15 := ⟨_, Try.func15, rfl, rfl⟩


/-! ### loop.example/g00499/laws.toConf -/
def m_laws_toConf (K : Nat) (a0 : T_laws_Conf) : Option (T_impl_Conf) := some (T_impl_Conf.mk a0.fChunks a0.fSize a0.fSlots a0.fTax a0.fSlice a0.fGens)
set_option maxRecDepth 20000 in
set_option maxHeartbeats 8000000 in
theorem w_laws_toConf (K : Nat) (a0 : T_laws_Conf) (r : T_impl_Conf) (h : m_laws_toConf K a0 = some r) : Sp Try.prog 16 [.g [.int .i64 a0.fChunks, .int .i64 a0.fSize, .int .i64 a0.fSlots, .int .i64 a0.fTax, .int .i64 a0.fSlice, .int .i64 a0.fGens]] [] (.g [.int .i64 r.fChunks, .int .i64 r.fSize, .int .i64 r.fSlots, .int .i64 r.fTax, .int .i64 r.fSlice, .int .i64 r.fGens]) [] := by
  refine Sp.of_W tabOk Try.func16 rfl rfl (Nat.le_of_ble_eq_true rfl) (Nat.le_of_ble_eq_true rfl) fun F hP hN hm => ?_
  obtain ⟨P, N, w0, σ0, β0, m⟩ := F
  obtain rfl : P = Try.prog := hP
  obtain rfl : N = 23 := hN
  obtain rfl : m = 1 := hm
  have he : Env ⟨Try.prog, 23, w0, σ0, β0, 1⟩ tab := ⟨Nat.le_of_ble_eq_true rfl, tabOk⟩
  unfold m_laws_toConf at h
  refine W_seq ?_
  refine W_reg he rfl ?_
  refine g0 (sBx rfl [] rfl rfl 101 rfl) rfl ?_
  refine g0 (sAl rfl rfl 102 rfl) rfl ?_
  refine ge ?_
  refine W2 [1, 2] [101, 102] [] (l := [(1, .c (.ptr _ _ _ _)), (2, .c (.ptr _ _ _ _))]) (h := [(101, ⟨_, _, [[.int _ _, .int _ _, .int _ _, .int _ _, .int _ _, .int _ _]]⟩), (102, ⟨_, _, [[.int _ _, .int _ _, .int _ _, .int _ _, .int _ _, .int _ _]]⟩)]) (h' := []) trivial rfl rfl rfl ?_
  refine W_seq ?_
  refine W_reg he rfl ?_
  refine g0 (sAl rfl rfl 103 rfl) rfl ?_
  refine ge ?_
  refine W2 [1, 2, 3] [101, 102, 103] [] (l := [(1, .c (.ptr _ _ _ _)), (2, .c (.ptr _ _ _ _)), (3, .c (.ptr _ _ _ _))]) (h := [(101, ⟨_, _, [[.int _ _, .int _ _, .int _ _, .int _ _, .int _ _, .int _ _]]⟩), (102, ⟨_, _, [[.int _ _, .int _ _, .int _ _, .int _ _, .int _ _, .int _ _]]⟩), (103, ⟨_, _, [[.int _ _, .int _ _, .int _ _, .int _ _, .int _ _, .int _ _]]⟩)]) (h' := []) trivial rfl rfl rfl ?_
  refine W_seq ?_
  refine W_reg he rfl ?_
  refine g0 (sFP rfl rfl rfl) rfl ?_
  refine g0 (sLd rfl rfl) rfl ?_
  refine g0 (sFP rfl rfl rfl) rfl ?_
  refine g0 (sSt rfl rfl [] rfl rfl) rfl ?_
  refine ge ?_
  refine W2 [1, 2, 3] [101, 102, 103] [] (l := [(1, .c (.ptr _ _ _ _)), (2, .c (.ptr _ _ _ _)), (3, .c (.ptr _ _ _ _))]) (h := [(101, ⟨_, _, [[.int _ _, .int _ _, .int _ _, .int _ _, .int _ _, .int _ _]]⟩), (102, ⟨_, _, [[.int _ _, .int _ _, .int _ _, .int _ _, .int _ _, .int _ _]]⟩), (103, ⟨_, _, [[.int _ _, .int _ _, .int _ _, .int _ _, .int _ _, .int _ _]]⟩)]) (h' := []) trivial rfl rfl rfl ?_
  refine W_seq ?_
  refine W_reg he rfl ?_
  refine g0 (sFP rfl rfl rfl) rfl ?_
  refine g0 (sLd rfl rfl) rfl ?_
  refine g0 (sFP rfl rfl rfl) rfl ?_
  refine g0 (sSt rfl rfl [] rfl rfl) rfl ?_
  refine ge ?_
  refine W2 [1, 2, 3] [101, 102, 103] [] (l := [(1, .c (.ptr _ _ _ _)), (2, .c (.ptr _ _ _ _)), (3, .c (.ptr _ _ _ _))]) (h := [(101, ⟨_, _, [[.int _ _, .int _ _, .int _ _, .int _ _, .int _ _, .int _ _]]⟩), (102, ⟨_, _, [[.int _ _, .int _ _, .int _ _, .int _ _, .int _ _, .int _ _]]⟩), (103, ⟨_, _, [[.int _ _, .int _ _, .int _ _, .int _ _, .int _ _, .int _ _]]⟩)]) (h' := []) trivial rfl rfl rfl ?_
  refine W_seq ?_
  refine W_reg he rfl ?_
  refine g0 (sFP rfl rfl rfl) rfl ?_
  refine g0 (sLd rfl rfl) rfl ?_
  refine g0 (sFP rfl rfl rfl) rfl ?_
  refine g0 (sSt rfl rfl [] rfl rfl) rfl ?_
  refine ge ?_
  refine W2 [1, 2, 3] [101, 102, 103] [] (l := [(1, .c (.ptr _ _ _ _)), (2, .c (.ptr _ _ _ _)), (3, .c (.ptr _ _ _ _))]) (h := [(101, ⟨_, _, [[.int _ _, .int _ _, .int _ _, .int _ _, .int _ _, .int _ _]]⟩), (102, ⟨_, _, [[.int _ _, .int _ _, .int _ _, .int _ _, .int _ _, .int _ _]]⟩), (103, ⟨_, _, [[.int _ _, .int _ _, .int _ _, .int _ _, .int _ _, .int _ _]]⟩)]) (h' := []) trivial rfl rfl rfl ?_
  refine W_seq ?_
  refine W_reg he rfl ?_
  refine g0 (sFP rfl rfl rfl) rfl ?_
  refine g0 (sLd rfl rfl) rfl ?_
  refine g0 (sFP rfl rfl rfl) rfl ?_
  refine g0 (sSt rfl rfl [] rfl rfl) rfl ?_
  refine ge ?_
  refine W2 [1, 2, 3] [101, 102, 103] [] (l := [(1, .c (.ptr _ _ _ _)), (2, .c (.ptr _ _ _ _)), (3, .c (.ptr _ _ _ _))]) (h := [(101, ⟨_, _, [[.int _ _, .int _ _, .int _ _, .int _ _, .int _ _, .int _ _]]⟩), (102, ⟨_, _, [[.int _ _, .int _ _, .int _ _, .int _ _, .int _ _, .int _ _]]⟩), (103, ⟨_, _, [[.int _ _, .int _ _, .int _ _, .int _ _, .int _ _, .int _ _]]⟩)]) (h' := []) trivial rfl rfl rfl ?_
  refine W_seq ?_
  refine W_reg he rfl ?_
  refine g0 (sFP rfl rfl rfl) rfl ?_
  refine g0 (sLd rfl rfl) rfl ?_
  refine g0 (sFP rfl rfl rfl) rfl ?_
  refine g0 (sSt rfl rfl [] rfl rfl) rfl ?_
  refine ge ?_
  refine W2 [1, 2, 3] [101, 102, 103] [] (l := [(1, .c (.ptr _ _ _ _)), (2, .c (.ptr _ _ _ _)), (3, .c (.ptr _ _ _ _))]) (h := [(101, ⟨_, _, [[.int _ _, .int _ _, .int _ _, .int _ _, .int _ _, .int _ _]]⟩), (102, ⟨_, _, [[.int _ _, .int _ _, .int _ _, .int _ _, .int _ _, .int _ _]]⟩), (103, ⟨_, _, [[.int _ _, .int _ _, .int _ _, .int _ _, .int _ _, .int _ _]]⟩)]) (h' := []) trivial rfl rfl rfl ?_
  refine W_seq ?_
  refine W_reg he rfl ?_
  refine g0 (sFP rfl rfl rfl) rfl ?_
  refine g0 (sLd rfl rfl) rfl ?_
  refine g0 (sFP rfl rfl rfl) rfl ?_
  refine g0 (sSt rfl rfl [] rfl rfl) rfl ?_
  refine ge ?_
  refine W2 [2, 3] [102, 103] [] (l := [(2, .c (.ptr _ _ _ _)), (3, .c (.ptr _ _ _ _))]) (h := [(102, ⟨_, _, [[.int _ _, .int _ _, .int _ _, .int _ _, .int _ _, .int _ _]]⟩), (103, ⟨_, _, [[.int _ _, .int _ _, .int _ _, .int _ _, .int _ _, .int _ _]]⟩)]) (h' := []) trivial rfl rfl rfl ?_
  refine W_seq ?_
  refine W_reg he rfl ?_
  refine g0 (sLd rfl rfl) rfl ?_
  refine g0 (sSt rfl rfl [] rfl rfl) rfl ?_
  refine ge ?_
  refine W2 [2] [102] [] (l := [(2, .c (.ptr _ _ _ _))]) (h := [(102, ⟨_, _, [[.int _ _, .int _ _, .int _ _, .int _ _, .int _ _, .int _ _]]⟩)]) (h' := []) trivial rfl rfl rfl ?_
  obtain rfl := Option.some.inj h
  exact W_ret (r0 rfl rfl)
theorem ok_laws_toConf : FnOk Try.prog 16 := ⟨_, Try.func16, rfl, rfl⟩


/-! ### loop.example/g00499/laws.FnExactSpentMost -/
def m_laws_FnExactSpentMost (K : Nat) (a0 : T_laws_Conf) : Option (Bool) := ((m_laws_toConf K a0).bind fun r1 => ((m_spec_SpentMost K r1).bind fun r2 => ((m_laws_toConf K a0).bind fun r3 => ((m_impl_SpentMost K r3).bind fun r4 => (bif (r4 != r2) then some false else some true)))))
set_option maxRecDepth 20000 in
set_option maxHeartbeats 8000000 in
theorem w_laws_FnExactSpentMost (K : Nat) (a0 : T_laws_Conf) (r : Bool) (h : m_laws_FnExactSpentMost K a0 = some r) : Sp Try.prog 3 [.g [.int .i64 a0.fChunks, .int .i64 a0.fSize, .int .i64 a0.fSlots, .int .i64 a0.fTax, .int .i64 a0.fSlice, .int .i64 a0.fGens]] [] (.c (.bool r)) [] := by
  refine Sp.of_W tabOk Try.func3 rfl rfl (Nat.le_of_ble_eq_true rfl) (Nat.le_of_ble_eq_true rfl) fun F hP hN hm => ?_
  obtain ⟨P, N, w0, σ0, β0, m⟩ := F
  obtain rfl : P = Try.prog := hP
  obtain rfl : N = 14 := hN
  obtain rfl : m = 1 := hm
  have he : Env ⟨Try.prog, 14, w0, σ0, β0, 1⟩ tab := ⟨Nat.le_of_ble_eq_true rfl, tabOk⟩
  unfold m_laws_FnExactSpentMost at h
  refine W_seq ?_
  refine W_reg he rfl ?_
  refine g0 (sBx rfl [] rfl rfl 101 rfl) rfl ?_
  refine g0 (sA rfl [] rfl) rfl ?_
  refine ge ?_
  refine W2 [1] [101] [] (l := [(1, .c (.ptr _ _ _ _))]) (h := [(101, ⟨_, _, [[.int _ _, .int _ _, .int _ _, .int _ _, .int _ _, .int _ _]]⟩)]) (h' := []) trivial rfl rfl rfl ?_
  refine W_seq ?_
  refine W_reg he rfl ?_
  refine g0 (sLd rfl rfl) rfl ?_
  obtain ⟨r1, hr1, h⟩ := bnd2 h
  refine g0 (sCm (w_laws_toConf K a0 _ hr1) ok_laws_toConf rfl rfl rfl rfl) rfl ?_
  obtain ⟨r2, hr2, h⟩ := bnd2 h
  refine g0 (sCm (w_spec_SpentMost K r1 _ hr2) ok_spec_SpentMost rfl rfl rfl rfl) rfl ?_
  refine g0 (sA rfl [] rfl) rfl ?_
  refine ge ?_
  refine W2 [1, 3] [101] [] (l := [(1, .c (.ptr _ _ _ _)), (3, .c (.int _ _))]) (h := [(101, ⟨_, _, [[.int _ _, .int _ _, .int _ _, .int _ _, .int _ _, .int _ _]]⟩)]) (h' := []) trivial rfl rfl rfl ?_
  refine W_seq ?_
  refine W_reg he rfl ?_
  refine g0 (sLd rfl rfl) rfl ?_
  obtain ⟨r3, hr3, h⟩ := bnd2 h
  refine g0 (sCm (w_laws_toConf K a0 _ hr3) ok_laws_toConf rfl rfl rfl rfl) rfl ?_
  obtain ⟨r4, hr4, h⟩ := bnd2 h
  refine g0 (sCm (w_impl_SpentMost K r3 _ hr4) ok_impl_SpentMost rfl rfl rfl rfl) rfl ?_
  refine g0 (sA rfl [] rfl) rfl ?_
  refine ge ?_
  refine W2 [3, 4] [] [] (l := [(3, .c (.int _ _)), (4, .c (.int _ _))]) (h := []) (h' := []) trivial rfl rfl rfl ?_
  refine W_seq ?_
  refine W_seq ?_
  refine W_reg he rfl ?_
  refine g0 (sM rfl [] rfl) rfl ?_
  refine g0 (sM rfl [] rfl) rfl ?_
  refine gB (sBi rfl rfl rfl rfl) rfl rfl fun b5 hb5 => ?_
  cases b5 with
  | true =>
    replace h := brT hb5 h
    refine ge ?_
    refine W2 [13] [] [] (l := [(13, .c (.bool true))]) (h := []) (h' := []) trivial rfl rfl rfl ?_
    refine W_true rfl ?_
    refine W_seq ?_
    refine W_reg he rfl ?_
    refine g0 (sA rfl [] rfl) rfl ?_
    refine ge ?_
    refine W2 [2] [] [] (l := [(2, .c (.bool false))]) (h := []) (h' := []) trivial rfl rfl rfl ?_
    obtain rfl := Option.some.inj h
    exact W_ret (r0 rfl rfl)
  | false =>
    replace h := brF hb5 h
    refine ge ?_
    refine W2 [13] [] [] (l := [(13, .c (.bool false))]) (h := []) (h' := []) trivial rfl rfl rfl ?_
    refine W_false rfl ?_
    refine W_skip ?_
    refine W_seq ?_
    refine W_reg he rfl ?_
    refine g0 (sA rfl [] rfl) rfl ?_
    refine ge ?_
    refine W2 [2] [] [] (l := [(2, .c (.bool true))]) (h := []) (h' := []) trivial rfl rfl rfl ?_
    obtain rfl := Option.some.inj h
    exact W_ret (r0 rfl rfl)
theorem ok_laws_FnExactSpentMost : FnOk Try.prog 3 := ⟨_, Try.func3, rfl, rfl⟩


/-! ### loop.example/g00499/laws.toByteS -/
def l_laws_toByteS_4 (K : Nat) (a0 : List Int) : Nat → Int → List Int → Option ((List Int))
  | 0, _, _ => none
  | n + 1, v2, v3 => (bif (decide (v2 < (a0.length : Int))) then (if 0 ≤ v2 ∧ v2 < (a0.length : Int) then (if 0 ≤ v2 ∧ v2 < (v3.length : Int) then l_laws_toByteS_4 K a0 n (iAdd .i64 v2 1) (v3.set v2.toNat (gt a0 v2)) else none) else none) else some v3)
def m_laws_toByteS (K : Nat) (a0 : List Int) : Option ((List Int)) := (if 0 ≤ (a0.length : Int) ∧ (a0.length : Int) ≤ (a0.length : Int) ∧ (1 : Int) * (a0.length : Int) ≤ 281474976710656 ∧ (a0.length : Int) ≤ 9223372036854775807 then l_laws_toByteS_4 K a0 K 0 (List.replicate (a0.length : Int).toNat 0) else none)
set_option maxRecDepth 20000 in
set_option maxHeartbeats 8000000 in
theorem w_laws_toByteS (K : Nat) (a0 : List Int) (r : (List Int)) (h : m_laws_toByteS K a0 = some r) : Sp Try.prog 21 [.c (.row false 1 (a0.map en5))] [] (.c (.row false 1 (r.map en5))) [] := by
  refine Sp.of_W tabOk Try.func21 rfl rfl (Nat.le_of_ble_eq_true rfl) (Nat.le_of_ble_eq_true rfl) fun F hP hN hm => ?_
  obtain ⟨P, N, w0, σ0, β0, m⟩ := F
  obtain rfl : P = Try.prog := hP
  obtain rfl : N = 22 := hN
  obtain rfl : m = 1 := hm
  have he : Env ⟨Try.prog, 22, w0, σ0, β0, 1⟩ tab := ⟨Nat.le_of_ble_eq_true rfl, tabOk⟩
  unfold m_laws_toByteS at h
  refine W_seq ?_
  refine W_reg he rfl ?_
  refine g0 (sA rfl [1] rfl) rfl ?_
  refine ge ?_
  refine W2 [0] [] [] (l := [(0, .c (.row _ _ _))]) (h := []) (h' := []) trivial rfl rfl rfl ?_
  refine W_seq ?_
  refine W_reg he rfl ?_
  refine g0 (sM rfl [] rfl) rfl ?_
  refine g0 (sLm rfl rfl rfl rfl) rfl ?_
  obtain ⟨c1, h⟩ := chk h
  refine g0 (sMkm rfl 1007 (f := en5) 0 rfl rfl rfl rfl rfl rfl rfl rfl rfl c1) rfl ?_
  refine g0 (sA rfl [] rfl) rfl ?_
  refine ge ?_
  refine W2 [0, 3] [] [1007] (l := [(0, .c (.row _ _ _)), (3, .c (.own _ _ _ _))]) (h := []) (h' := [(1007, ⟨_, _, _⟩)]) ⟨⟨_, rfl, enOk5.allClosed _ _ _⟩, trivial⟩ rfl rfl rfl ?_
  refine W_seq ?_
  refine W_seq ?_
  refine W_reg he rfl ?_
  refine g0 (sA rfl [] rfl) rfl ?_
  refine ge ?_
  refine W2 [0, 3, 4] [] [1007] (l := [(0, .c (.row _ _ _)), (3, .c (.own _ _ _ _)), (4, .c (.int _ _))]) (h := []) (h' := [(1007, ⟨_, _, _⟩)]) ⟨⟨_, rfl, enOk5.allClosed _ _ _⟩, trivial⟩ rfl rfl rfl ?_
  refine W_block ?_
  refine W2 [0, 3, 4] [] [1007] (l := [(0, .c (.row _ _ _)), (3, .c (.own _ _ _ _)), (4, .c (.int _ _))]) (h := []) (h' := [(1007, ⟨_, _, _⟩)]) ⟨⟨_, rfl, enOk5.allClosed _ _ _⟩, trivial⟩ rfl rfl rfl ?_
  refine W_loopW (fun n S => ∃ (v2 : Int), ∃ (v3 : List Int), S = StL [(0, .c (.row false 1 (a0.map en5))), (3, .c (.own 1007 0 0 v3.length)), (4, .c (.int .i64 v2))] ([] ++ [(1007, ⟨0, 1, v3.map en5⟩)]) ∧ l_laws_toByteS_4 K a0 n v2 v3 = some r) K ⟨_, _, rfl, h⟩ ?_
  rintro n S ⟨v2, v3, rfl, h⟩
  cases n with
  | zero => simp [l_laws_toByteS_4] at h
  | succ n =>
    rw [l_laws_toByteS_4] at h
    refine W_seq ?_
    refine W_seq ?_
    refine W_reg he rfl ?_
    refine g0 (sM rfl [] rfl) rfl ?_
    refine g0 (sM rfl [] rfl) rfl ?_
    refine g0 (sLm rfl rfl rfl rfl) rfl ?_
    refine gB (sBi rfl rfl rfl rfl) rfl rfl fun b5 hb5 => ?_
    cases b5 with
    | true =>
      replace h := brT hb5 h
      refine ge ?_
      refine W2 [0, 3, 4, 11] [] [1007] (l := [(0, .c (.row _ _ _)), (3, .c (.own _ _ _ _)), (4, .c (.int _ _)), (11, .c (.bool true))]) (h := []) (h' := [(1007, ⟨_, _, _⟩)]) ⟨⟨_, rfl, enOk5.allClosed _ _ _⟩, trivial⟩ rfl rfl rfl ?_
      refine W_true rfl ?_
      refine W_skip ?_
      refine W_seq ?_
      refine W_block ?_
      refine W_reg he rfl ?_
      refine g0 (sM rfl [] rfl) rfl ?_
      refine g0 (sM rfl [] rfl) rfl ?_
      refine g0 (sM rfl [] rfl) rfl ?_
      refine g0 (sM rfl [] rfl) rfl ?_
      obtain ⟨c6, h⟩ := chk h
      refine g0 (sIRm rfl rfl rfl rfl c6) rfl ?_
      refine g0 (sLI rfl rfl (en5 (gt a0 v2)) (gt_at _ c6) rfl rfl rfl) rfl ?_
      obtain ⟨c7, h⟩ := chk h
      refine g0 (sIOm rfl rfl rfl c7) rfl ?_
      refine g0 (sSkm rfl rfl [] v3 (gt a0 v2) c7 rfl rfl rfl rfl rfl rfl rfl rfl rfl) rfl ?_
      refine ge ?_
      refine W.weak (wk_len 3 (n' := (v3.set v2.toNat (gt a0 v2)).length) (by simp only [List.length_set]) rfl) ?_
      refine W2 [0, 3, 4] [] [1007] (l := [(0, .c (.row _ _ _)), (3, .c (.own _ _ _ _)), (4, .c (.int _ _))]) (h := []) (h' := [(1007, ⟨_, _, _⟩)]) ⟨⟨_, rfl, enOk5.allClosed _ _ _⟩, trivial⟩ rfl rfl rfl ?_
      refine W_reg he rfl ?_
      refine g0 (sM rfl [] rfl) rfl ?_
      refine g0 (sBi rfl rfl rfl rfl) rfl ?_
      refine g0 (sA rfl [] rfl) rfl ?_
      refine ge ?_
      exact ⟨n, _, Nat.lt_succ_self n, wk2 [0, 3, 4] [] [1007] (l := [(0, .c (.row _ _ _)), (3, .c (.own _ _ _ _)), (4, .c (.int _ _))]) (h := []) (h' := [(1007, ⟨_, _, _⟩)]) ⟨⟨_, rfl, enOk5.allClosed _ _ _⟩, trivial⟩ rfl rfl rfl, _, _, rfl, h⟩
    | false =>
      replace h := brF hb5 h
      refine ge ?_
      refine W2 [0, 3, 4, 11] [] [1007] (l := [(0, .c (.row _ _ _)), (3, .c (.own _ _ _ _)), (4, .c (.int _ _)), (11, .c (.bool false))]) (h := []) (h' := [(1007, ⟨_, _, _⟩)]) ⟨⟨_, rfl, enOk5.allClosed _ _ _⟩, trivial⟩ rfl rfl rfl ?_
      refine W_false rfl ?_
      refine W_exit (ex_then (ex_then (ex_hit ?_)))
      refine W_seq ?_
      refine W_reg he rfl ?_
      refine g0 (sM rfl [] rfl) rfl ?_
      refine g0 (sA rfl [] rfl) rfl ?_
      refine ge ?_
      refine W2 [2] [] [1007] (l := [(2, .c (.own _ _ _ _))]) (h := []) (h' := [(1007, ⟨_, _, _⟩)]) ⟨⟨_, rfl, enOk5.allClosed _ _ _⟩, trivial⟩ rfl rfl rfl ?_
      obtain rfl := Option.some.inj h
      refine W.weak (wk_row 2 enOk5 rfl rfl) ?_
      exact W_ret (r0 rfl rfl)
theorem ok_laws_toByteS : FnOk Try.prog 21 := ⟨_, Try.func21, rfl, rfl⟩


/-! ### loop.example/g00499/laws.FnExactGetVar -/
def m_laws_FnExactGetVar (K : Nat) (a0 : List Int) (a1 : Int) : Option (Bool) := (bif (decide ((a0.length : Int) > 1048576)) then some true else ((m_laws_toByteS K a0).bind fun r2 => ((m_spec_GetVar K r2 a1).bind fun r3 => ((m_laws_toByteS K a0).bind fun r4 => ((m_impl_GetVar K r4 a1).bind fun r5 => (bif (r5.1 != r3.1) then some false else (bif (r5.2.1 != r3.2.1) then some false else (bif (!(r5.2.2 == r3.2.2)) then some false else ((m_laws_toByteS K a0).bind fun r9 => ((m_laws_eqByteS K r4 r9).bind fun r10 => (bif r10 then some true else some false)))))))))))
set_option maxRecDepth 20000 in
set_option maxHeartbeats 8000000 in
theorem w_laws_FnExactGetVar (K : Nat) (a0 : List Int) (a1 : Int) (r : Bool) (h : m_laws_FnExactGetVar K a0 a1 = some r) : Sp Try.prog 5 [.c (.row false 1 (a0.map en5)), .c (.int .i64 a1)] [] (.c (.bool r)) [] := by
  refine Sp.of_W tabOk Try.func5 rfl rfl (Nat.le_of_ble_eq_true rfl) (Nat.le_of_ble_eq_true rfl) fun F hP hN hm => ?_
  obtain ⟨P, N, w0, σ0, β0, m⟩ := F
  obtain rfl : P = Try.prog := hP
  obtain rfl : N = 50 := hN
  obtain rfl : m = 1 := hm
  have he : Env ⟨Try.prog, 50, w0, σ0, β0, 1⟩ tab := ⟨Nat.le_of_ble_eq_true rfl, tabOk⟩
  unfold m_laws_FnExactGetVar at h
  refine W_seq ?_
  refine W_reg he rfl ?_
  refine g0 (sA rfl [] rfl) rfl ?_
  refine ge ?_
  refine W2 [0, 1] [] [] (l := [(0, .c (.row _ _ _)), (1, .c (.int _ _))]) (h := []) (h' := []) trivial rfl rfl rfl ?_
  refine W_seq ?_
  refine W_seq ?_
  refine W_reg he rfl ?_
  refine g0 (sM rfl [] rfl) rfl ?_
  refine g0 (sLm rfl rfl rfl rfl) rfl ?_
  refine gB (sBi rfl rfl rfl rfl) rfl rfl fun b1 hb1 => ?_
  cases b1 with
  | true =>
    replace h := brT hb1 h
    refine ge ?_
    refine W2 [0, 1, 14] [] [] (l := [(0, .c (.row _ _ _)), (1, .c (.int _ _)), (14, .c (.bool true))]) (h := []) (h' := []) trivial rfl rfl rfl ?_
    refine W_true rfl ?_
    refine W_seq ?_
    refine W_reg he rfl ?_
    refine g0 (sA rfl [] rfl) rfl ?_
    refine ge ?_
    refine W2 [4] [] [] (l := [(4, .c (.bool true))]) (h := []) (h' := []) trivial rfl rfl rfl ?_
    obtain rfl := Option.some.inj h
    exact W_ret (r0 rfl rfl)
  | false =>
    replace h := brF hb1 h
    refine ge ?_
    refine W2 [0, 1, 14] [] [] (l := [(0, .c (.row _ _ _)), (1, .c (.int _ _)), (14, .c (.bool false))]) (h := []) (h' := []) trivial rfl rfl rfl ?_
    refine W_false rfl ?_
    refine W_skip ?_
    refine W_seq ?_
    refine W_reg he rfl ?_
    refine g0 (sM rfl [] rfl) rfl ?_
    obtain ⟨r2, hr2, h⟩ := bnd2 h
    refine g0 (sCm (w_laws_toByteS K a0 _ hr2) ok_laws_toByteS rfl rfl rfl rfl) rfl ?_
    refine g0 (sM rfl [] rfl) rfl ?_
    obtain ⟨r3, hr3, h⟩ := bnd2 h
    refine g0 (sCm (w_spec_GetVar K r2 a1 _ hr3) ok_spec_GetVar rfl rfl rfl rfl) rfl ?_
    refine g0 (sM rfl [] rfl) rfl ?_
    refine g0 (sEx rfl rfl rfl) rfl ?_
    refine g0 (sEx rfl rfl rfl) rfl ?_
    refine g0 (sEx rfl rfl rfl) rfl ?_
    refine g0 (sA rfl [] rfl) rfl ?_
    refine g0 (sA rfl [] rfl) rfl ?_
    refine g0 (sA rfl [] rfl) rfl ?_
    refine ge ?_
    refine W2 [0, 1, 5, 6, 7] [] [] (l := [(0, .c (.row _ _ _)), (1, .c (.int _ _)), (5, .c (.int _ _)), (6, .c (.int _ _)), (7, .c (.bool _))]) (h := []) (h' := []) trivial rfl rfl rfl ?_
    refine W_seq ?_
    refine W_reg he rfl ?_
    refine g0 (sM rfl [] rfl) rfl ?_
    obtain ⟨r4, hr4, h⟩ := bnd2 h
    refine g0 (sCm (w_laws_toByteS K a0 _ hr4) ok_laws_toByteS rfl rfl rfl rfl) rfl ?_
    refine g0 (sA rfl [] rfl) rfl ?_
    refine ge ?_
    refine W2 [0, 1, 5, 6, 7, 8] [] [] (l := [(0, .c (.row _ _ _)), (1, .c (.int _ _)), (5, .c (.int _ _)), (6, .c (.int _ _)), (7, .c (.bool _)), (8, .c (.row _ _ _))]) (h := []) (h' := []) trivial rfl rfl rfl ?_
    refine W_seq ?_
    refine W_reg he rfl ?_
    refine g0 (sM rfl [] rfl) rfl ?_
    refine g0 (sM rfl [] rfl) rfl ?_
    obtain ⟨r5, hr5, h⟩ := bnd2 h
    refine g0 (sCm (w_impl_GetVar K r4 a1 _ hr5) ok_impl_GetVar rfl rfl rfl rfl) rfl ?_
    refine g0 (sM rfl [] rfl) rfl ?_
    refine g0 (sEx rfl rfl rfl) rfl ?_
    refine g0 (sEx rfl rfl rfl) rfl ?_
    refine g0 (sEx rfl rfl rfl) rfl ?_
    refine g0 (sA rfl [] rfl) rfl ?_
    refine g0 (sA rfl [] rfl) rfl ?_
    refine g0 (sA rfl [] rfl) rfl ?_
    refine ge ?_
    refine W2 [0, 5, 6, 7, 8, 9, 10, 11] [] [] (l := [(0, .c (.row _ _ _)), (5, .c (.int _ _)), (6, .c (.int _ _)), (7, .c (.bool _)), (8, .c (.row _ _ _)), (9, .c (.int _ _)), (10, .c (.int _ _)), (11, .c (.bool _))]) (h := []) (h' := []) trivial rfl rfl rfl ?_
    refine W_seq ?_
    refine W_seq ?_
    refine W_reg he rfl ?_
    refine g0 (sM rfl [] rfl) rfl ?_
    refine g0 (sM rfl [] rfl) rfl ?_
    refine gB (sBi rfl rfl rfl rfl) rfl rfl fun b6 hb6 => ?_
    cases b6 with
    | true =>
      replace h := brT hb6 h
      refine g0 (sM rfl [] rfl) rfl ?_
      refine qP rfl rfl rfl rfl ?_
      refine qP rfl rfl rfl rfl ?_
      refine qP rfl rfl rfl rfl ?_
      refine g0 (sPk rfl [] rfl rfl) rfl ?_
      refine g0 (sM rfl [] rfl) rfl ?_
      refine qP rfl rfl rfl rfl ?_
      refine qP rfl rfl rfl rfl ?_
      refine qP rfl rfl rfl rfl ?_
      refine g0 (sPk rfl [] rfl rfl) rfl ?_
      refine ge ?_
      refine W2 [0, 8, 44] [] [] (l := [(0, .c (.row _ _ _)), (8, .c (.row _ _ _)), (44, .c (.bool true))]) (h := []) (h' := []) trivial rfl rfl rfl ?_
      refine W_true rfl ?_
      refine W_seq ?_
      refine W_reg he rfl ?_
      refine g0 (sA rfl [] rfl) rfl ?_
      refine ge ?_
      refine W2 [4] [] [] (l := [(4, .c (.bool false))]) (h := []) (h' := []) trivial rfl rfl rfl ?_
      obtain rfl := Option.some.inj h
      exact W_ret (r0 rfl rfl)
    | false =>
      replace h := brF hb6 h
      refine g0 (sM rfl [] rfl) rfl ?_
      refine q0 (sM rfl [] rfl) rfl rfl rfl ?_
      refine q0 (sM rfl [] rfl) rfl rfl rfl ?_
      refine qB (sBi rfl rfl rfl rfl) rfl rfl rfl rfl fun b7 hb7 => ?_
      cases b7 with
      | true =>
        replace h := brT hb7 h
        refine g0 (sPk rfl [] rfl rfl) rfl ?_
        refine g0 (sM rfl [] rfl) rfl ?_
        refine qP rfl rfl rfl rfl ?_
        refine qP rfl rfl rfl rfl ?_
        refine qP rfl rfl rfl rfl ?_
        refine g0 (sPk rfl [] rfl rfl) rfl ?_
        refine ge ?_
        refine W2 [0, 8, 44] [] [] (l := [(0, .c (.row _ _ _)), (8, .c (.row _ _ _)), (44, .c (.bool true))]) (h := []) (h' := []) trivial rfl rfl rfl ?_
        refine W_true rfl ?_
        refine W_seq ?_
        refine W_reg he rfl ?_
        refine g0 (sA rfl [] rfl) rfl ?_
        refine ge ?_
        refine W2 [4] [] [] (l := [(4, .c (.bool false))]) (h := []) (h' := []) trivial rfl rfl rfl ?_
        obtain rfl := Option.some.inj h
        exact W_ret (r0 rfl rfl)
      | false =>
        replace h := brF hb7 h
        refine g0 (sPk rfl [] rfl rfl) rfl ?_
        refine g0 (sM rfl [] rfl) rfl ?_
        refine q0 (sM rfl [] rfl) rfl rfl rfl ?_
        refine q0 (sM rfl [] rfl) rfl rfl rfl ?_
        refine qB (sBe rfl (.inr rfl) rfl rfl rfl rfl) rfl rfl rfl rfl fun b8 hb8 => ?_
        cases b8 with
        | true =>
          replace h := brT hb8 h
          refine g0 (sPk rfl [] rfl rfl) rfl ?_
          refine ge ?_
          refine W2 [0, 8, 44] [] [] (l := [(0, .c (.row _ _ _)), (8, .c (.row _ _ _)), (44, .c (.bool true))]) (h := []) (h' := []) trivial rfl rfl rfl ?_
          refine W_true rfl ?_
          refine W_seq ?_
          refine W_reg he rfl ?_
          refine g0 (sA rfl [] rfl) rfl ?_
          refine ge ?_
          refine W2 [4] [] [] (l := [(4, .c (.bool false))]) (h := []) (h' := []) trivial rfl rfl rfl ?_
          obtain rfl := Option.some.inj h
          exact W_ret (r0 rfl rfl)
        | false =>
          replace h := brF hb8 h
          refine g0 (sPk rfl [] rfl rfl) rfl ?_
          refine ge ?_
          refine W2 [0, 8, 44] [] [] (l := [(0, .c (.row _ _ _)), (8, .c (.row _ _ _)), (44, .c (.bool false))]) (h := []) (h' := []) trivial rfl rfl rfl ?_
          refine W_false rfl ?_
          refine W_skip ?_
          refine W_seq ?_
          refine W_seq ?_
          refine W_reg he rfl ?_
          refine g0 (sM rfl [] rfl) rfl ?_
          refine g0 (sM rfl [] rfl) rfl ?_
          obtain ⟨r9, hr9, h⟩ := bnd2 h
          refine g0 (sCm (w_laws_toByteS K a0 _ hr9) ok_laws_toByteS rfl rfl rfl rfl) rfl ?_
          obtain ⟨r10, hr10, h⟩ := bnd2 h
          refine gB (sCm (w_laws_eqByteS K r4 r9 _ hr10) ok_laws_eqByteS rfl rfl rfl rfl) rfl rfl fun b11 hb11 => ?_
          cases b11 with
          | true =>
            replace h := brT hb11 h
            refine g0 (sNt rfl rfl) rfl ?_
            refine ge ?_
            refine W2 [49] [] [] (l := [(49, .c (.bool false))]) (h := []) (h' := []) trivial rfl rfl rfl ?_
            refine W_false rfl ?_
            refine W_skip ?_
            refine W_seq ?_
            refine W_reg he rfl ?_
            refine g0 (sA rfl [] rfl) rfl ?_
            refine ge ?_
            refine W2 [4] [] [] (l := [(4, .c (.bool true))]) (h := []) (h' := []) trivial rfl rfl rfl ?_
            obtain rfl := Option.some.inj h
            exact W_ret (r0 rfl rfl)
          | false =>
            replace h := brF hb11 h
            refine g0 (sNt rfl rfl) rfl ?_
            refine ge ?_
            refine W2 [49] [] [] (l := [(49, .c (.bool true))]) (h := []) (h' := []) trivial rfl rfl rfl ?_
            refine W_true rfl ?_
            refine W_seq ?_
            refine W_reg he rfl ?_
            refine g0 (sA rfl [] rfl) rfl ?_
            refine ge ?_
            refine W2 [4] [] [] (l := [(4, .c (.bool false))]) (h := []) (h' := []) trivial rfl rfl rfl ?_
            obtain rfl := Option.some.inj h
            exact W_ret (r0 rfl rfl)
theorem ok_laws_FnExactGetVar : FnOk Try.prog 5 := ⟨_, Try.func5, rfl, rfl⟩


/-! ### loop.example/g00499/laws.szByteS -/
def m_laws_szByteS (K : Nat) (a0 : List Int) (a1 : Int) : Option (Int) := (bif (decide ((iSub .i64 a1 (a0.length : Int)) < 0)) then some (-1) else some (iSub .i64 a1 (a0.length : Int)))
set_option maxRecDepth 20000 in
set_option maxHeartbeats 8000000 in
theorem w_laws_szByteS (K : Nat) (a0 : List Int) (a1 : Int) (r : Int) (h : m_laws_szByteS K a0 a1 = some r) : Sp Try.prog 59 [.c (.row false 1 (a0.map en5)), .c (.int .i64 a1)] [] (.c (.int .i64 r)) [] := by
  refine Sp.of_W tabOk Try.func59 rfl rfl (Nat.le_of_ble_eq_true rfl) (Nat.le_of_ble_eq_true rfl) fun F hP hN hm => ?_
  obtain ⟨P, N, w0, σ0, β0, m⟩ := F
  obtain rfl : P = Try.prog := hP
  obtain rfl : N = 12 := hN
  obtain rfl : m = 1 := hm
  have he : Env ⟨Try.prog, 12, w0, σ0, β0, 1⟩ tab := ⟨Nat.le_of_ble_eq_true rfl, tabOk⟩
  unfold m_laws_szByteS at h
  refine W_seq ?_
  refine W_reg he rfl ?_
  refine g0 (sA rfl [] rfl) rfl ?_
  refine ge ?_
  refine W2 [0, 1] [] [] (l := [(0, .c (.row _ _ _)), (1, .c (.int _ _))]) (h := []) (h' := []) trivial rfl rfl rfl ?_
  refine W_seq ?_
  refine W_reg he rfl ?_
  refine g0 (sM rfl [] rfl) rfl ?_
  refine g0 (sM rfl [] rfl) rfl ?_
  refine g0 (sLm rfl rfl rfl rfl) rfl ?_
  refine g0 (sBi rfl rfl rfl rfl) rfl ?_
  refine g0 (sA rfl [] rfl) rfl ?_
  refine ge ?_
  refine W2 [1] [] [] (l := [(1, .c (.int _ _))]) (h := []) (h' := []) trivial rfl rfl rfl ?_
  refine W_seq ?_
  refine W_seq ?_
  refine W_reg he rfl ?_
  refine g0 (sM rfl [] rfl) rfl ?_
  refine gB (sBi rfl rfl rfl rfl) rfl rfl fun b1 hb1 => ?_
  cases b1 with
  | true =>
    replace h := brT hb1 h
    refine ge ?_
    refine W2 [1, 10] [] [] (l := [(1, .c (.int _ _)), (10, .c (.bool true))]) (h := []) (h' := []) trivial rfl rfl rfl ?_
    refine W_true rfl ?_
    refine W_seq ?_
    refine W_reg he rfl ?_
    refine g0 (sA rfl [] rfl) rfl ?_
    refine ge ?_
    refine W2 [4] [] [] (l := [(4, .c (.int _ _))]) (h := []) (h' := []) trivial rfl rfl rfl ?_
    obtain rfl := Option.some.inj h
    exact W_ret (r0 rfl rfl)
  | false =>
    replace h := brF hb1 h
    refine ge ?_
    refine W2 [1, 10] [] [] (l := [(1, .c (.int _ _)), (10, .c (.bool false))]) (h := []) (h' := []) trivial rfl rfl rfl ?_
    refine W_false rfl ?_
    refine W_skip ?_
    refine W_seq ?_
    refine W_reg he rfl ?_
    refine g0 (sM rfl [] rfl) rfl ?_
    refine g0 (sA rfl [] rfl) rfl ?_
    refine ge ?_
    refine W2 [4] [] [] (l := [(4, .c (.int _ _))]) (h := []) (h' := []) trivial rfl rfl rfl ?_
    obtain rfl := Option.some.inj h
    exact W_ret (r0 rfl rfl)
theorem ok_laws_szByteS : FnOk Try.prog 59 := ⟨_, Try.func59, rfl, rfl⟩


/-! ### loop.example/g00499/laws.szOp -/
def m_laws_szOp (K : Nat) (a0 : T_laws_Op) (a1 : Int) : Option (Int) := ((m_laws_szByteS K a0.fB a1).bind fun r1 => (bif (decide (r1 < 0)) then some (-1) else some r1))
set_option maxRecDepth 20000 in
set_option maxHeartbeats 8000000 in
theorem w_laws_szOp (K : Nat) (a0 : T_laws_Op) (a1 : Int) (r : Int) (h : m_laws_szOp K a0 a1 = some r) : Sp Try.prog 28 [.g [.int .i64 a0.fKind, .int .i64 a0.fH.fSlot, .int .i64 a0.fH.fGen, .int .i64 a0.fR.fH.fSlot, .int .i64 a0.fR.fH.fGen, .int .i64 a0.fR.fEp, .int .i64 a0.fR.fNo, .int .i64 a0.fN, .int .i64 a0.fM, .row false 1 (a0.fB.map en5)], .c (.int .i64 a1)] [] (.c (.int .i64 r)) [] := by
  refine Sp.of_W tabOk Try.func28 rfl rfl (Nat.le_of_ble_eq_true rfl) (Nat.le_of_ble_eq_true rfl) fun F hP hN hm => ?_
  obtain ⟨P, N, w0, σ0, β0, m⟩ := F
  obtain rfl : P = Try.prog := hP
  obtain rfl : N = 12 := hN
  obtain rfl : m = 1 := hm
  have he : Env ⟨Try.prog, 12, w0, σ0, β0, 1⟩ tab := ⟨Nat.le_of_ble_eq_true rfl, tabOk⟩
  unfold m_laws_szOp at h
  refine W_seq ?_
  refine W_reg he rfl ?_
  refine g0 (sBx rfl [] rfl rfl 101 rfl) rfl ?_
  refine g0 (sA rfl [] rfl) rfl ?_
  refine ge ?_
  refine W2 [1, 2] [101] [] (l := [(1, .c (.int _ _)), (2, .c (.ptr _ _ _ _))]) (h := [(101, ⟨_, _, [[.int _ _, .int _ _, .int _ _, .int _ _, .int _ _, .int _ _, .int _ _, .int _ _, .int _ _, .row _ _ _]]⟩)]) (h' := []) trivial rfl rfl rfl ?_
  refine W_seq ?_
  refine W_reg he rfl ?_
  refine g0 (sFP rfl rfl rfl) rfl ?_
  refine g0 (sLd rfl rfl) rfl ?_
  refine g0 (sM rfl [] rfl) rfl ?_
  obtain ⟨r1, hr1, h⟩ := bnd2 h
  refine g0 (sCm (w_laws_szByteS K a0.fB a1 _ hr1) ok_laws_szByteS rfl rfl rfl rfl) rfl ?_
  refine g0 (sA rfl [] rfl) rfl ?_
  refine ge ?_
  refine W2 [1] [] [] (l := [(1, .c (.int _ _))]) (h := []) (h' := []) trivial rfl rfl rfl ?_
  refine W_seq ?_
  refine W_seq ?_
  refine W_reg he rfl ?_
  refine g0 (sM rfl [] rfl) rfl ?_
  refine gB (sBi rfl rfl rfl rfl) rfl rfl fun b2 hb2 => ?_
  cases b2 with
  | true =>
    replace h := brT hb2 h
    refine ge ?_
    refine W2 [1, 10] [] [] (l := [(1, .c (.int _ _)), (10, .c (.bool true))]) (h := []) (h' := []) trivial rfl rfl rfl ?_
    refine W_true rfl ?_
    refine W_seq ?_
    refine W_reg he rfl ?_
    refine g0 (sA rfl [] rfl) rfl ?_
    refine ge ?_
    refine W2 [4] [] [] (l := [(4, .c (.int _ _))]) (h := []) (h' := []) trivial rfl rfl rfl ?_
    obtain rfl := Option.some.inj h
    exact W_ret (r0 rfl rfl)
  | false =>
    replace h := brF hb2 h
    refine ge ?_
    refine W2 [1, 10] [] [] (l := [(1, .c (.int _ _)), (10, .c (.bool false))]) (h := []) (h' := []) trivial rfl rfl rfl ?_
    refine W_false rfl ?_
    refine W_skip ?_
    refine W_seq ?_
    refine W_reg he rfl ?_
    refine g0 (sM rfl [] rfl) rfl ?_
    refine g0 (sA rfl [] rfl) rfl ?_
    refine ge ?_
    refine W2 [4] [] [] (l := [(4, .c (.int _ _))]) (h := []) (h' := []) trivial rfl rfl rfl ?_
    obtain rfl := Option.some.inj h
    exact W_ret (r0 rfl rfl)
theorem ok_laws_szOp : FnOk Try.prog 28 := ⟨_, Try.func28, rfl, rfl⟩


/-! ### loop.example/g00499/laws.toHandle -/
def m_laws_toHandle (K : Nat) (a0 : T_laws_Handle) : Option (T_impl_Handle) := some (T_impl_Handle.mk a0.fSlot a0.fGen)
set_option maxRecDepth 20000 in
set_option maxHeartbeats 8000000 in
theorem w_laws_toHandle (K : Nat) (a0 : T_laws_Handle) (r : T_impl_Handle) (h : m_laws_toHandle K a0 = some r) : Sp Try.prog 60 [.g [.int .i64 a0.fSlot, .int .i64 a0.fGen]] [] (.g [.int .i64 r.fSlot, .int .i64 r.fGen]) [] := by
  refine Sp.of_W tabOk Try.func60 rfl rfl (Nat.le_of_ble_eq_true rfl) (Nat.le_of_ble_eq_true rfl) fun F hP hN hm => ?_
  obtain ⟨P, N, w0, σ0, β0, m⟩ := F
  obtain rfl : P = Try.prog := hP
  obtain rfl : N = 11 := hN
  obtain rfl : m = 1 := hm
  have he : Env ⟨Try.prog, 11, w0, σ0, β0, 1⟩ tab := ⟨Nat.le_of_ble_eq_true rfl, tabOk⟩
  unfold m_laws_toHandle at h
  refine W_seq ?_
  refine W_reg he rfl ?_
  refine g0 (sBx rfl [] rfl rfl 101 rfl) rfl ?_
  refine g0 (sAl rfl rfl 102 rfl) rfl ?_
  refine ge ?_
  refine W2 [1, 2] [101, 102] [] (l := [(1, .c (.ptr _ _ _ _)), (2, .c (.ptr _ _ _ _))]) (h := [(101, ⟨_, _, [[.int _ _, .int _ _]]⟩), (102, ⟨_, _, [[.int _ _, .int _ _]]⟩)]) (h' := []) trivial rfl rfl rfl ?_
  refine W_seq ?_
  refine W_reg he rfl ?_
  refine g0 (sAl rfl rfl 103 rfl) rfl ?_
  refine ge ?_
  refine W2 [1, 2, 3] [101, 102, 103] [] (l := [(1, .c (.ptr _ _ _ _)), (2, .c (.ptr _ _ _ _)), (3, .c (.ptr _ _ _ _))]) (h := [(101, ⟨_, _, [[.int _ _, .int _ _]]⟩), (102, ⟨_, _, [[.int _ _, .int _ _]]⟩), (103, ⟨_, _, [[.int _ _, .int _ _]]⟩)]) (h' := []) trivial rfl rfl rfl ?_
  refine W_seq ?_
  refine W_reg he rfl ?_
  refine g0 (sFP rfl rfl rfl) rfl ?_
  refine g0 (sLd rfl rfl) rfl ?_
  refine g0 (sFP rfl rfl rfl) rfl ?_
  refine g0 (sSt rfl rfl [] rfl rfl) rfl ?_
  refine ge ?_
  refine W2 [1, 2, 3] [101, 102, 103] [] (l := [(1, .c (.ptr _ _ _ _)), (2, .c (.ptr _ _ _ _)), (3, .c (.ptr _ _ _ _))]) (h := [(101, ⟨_, _, [[.int _ _, .int _ _]]⟩), (102, ⟨_, _, [[.int _ _, .int _ _]]⟩), (103, ⟨_, _, [[.int _ _, .int _ _]]⟩)]) (h' := []) trivial rfl rfl rfl ?_
  refine W_seq ?_
  refine W_reg he rfl ?_
  refine g0 (sFP rfl rfl rfl) rfl ?_
  refine g0 (sLd rfl rfl) rfl ?_
  refine g0 (sFP rfl rfl rfl) rfl ?_
  refine g0 (sSt rfl rfl [] rfl rfl) rfl ?_
  refine ge ?_
  refine W2 [2, 3] [102, 103] [] (l := [(2, .c (.ptr _ _ _ _)), (3, .c (.ptr _ _ _ _))]) (h := [(102, ⟨_, _, [[.int _ _, .int _ _]]⟩), (103, ⟨_, _, [[.int _ _, .int _ _]]⟩)]) (h' := []) trivial rfl rfl rfl ?_
  refine W_seq ?_
  refine W_reg he rfl ?_
  refine g0 (sLd rfl rfl) rfl ?_
  refine g0 (sSt rfl rfl [] rfl rfl) rfl ?_
  refine ge ?_
  refine W2 [2] [102] [] (l := [(2, .c (.ptr _ _ _ _))]) (h := [(102, ⟨_, _, [[.int _ _, .int _ _]]⟩)]) (h' := []) trivial rfl rfl rfl ?_
  obtain rfl := Option.some.inj h
  exact W_ret (r0 rfl rfl)
theorem ok_laws_toHandle : FnOk Try.prog 60 := ⟨_, Try.func60, rfl, rfl⟩


/-! ### loop.example/g00499/laws.toRef -/
def m_laws_toRef (K : Nat) (a0 : T_laws_Ref) : Option (T_impl_Ref) := ((m_laws_toHandle K a0.fH).bind fun r1 => some (T_impl_Ref.mk r1 a0.fEp a0.fNo))
set_option maxRecDepth 20000 in
set_option maxHeartbeats 8000000 in
theorem w_laws_toRef (K : Nat) (a0 : T_laws_Ref) (r : T_impl_Ref) (h : m_laws_toRef K a0 = some r) : Sp Try.prog 61 [.g [.int .i64 a0.fH.fSlot, .int .i64 a0.fH.fGen, .int .i64 a0.fEp, .int .i64 a0.fNo]] [] (.g [.int .i64 r.fH.fSlot, .int .i64 r.fH.fGen, .int .i64 r.fEp, .int .i64 r.fNo]) [] := by
  refine Sp.of_W tabOk Try.func61 rfl rfl (Nat.le_of_ble_eq_true rfl) (Nat.le_of_ble_eq_true rfl) fun F hP hN hm => ?_
  obtain ⟨P, N, w0, σ0, β0, m⟩ := F
  obtain rfl : P = Try.prog := hP
  obtain rfl : N = 15 := hN
  obtain rfl : m = 1 := hm
  have he : Env ⟨Try.prog, 15, w0, σ0, β0, 1⟩ tab := ⟨Nat.le_of_ble_eq_true rfl, tabOk⟩
  unfold m_laws_toRef at h
  refine W_seq ?_
  refine W_reg he rfl ?_
  refine g0 (sBx rfl [] rfl rfl 101 rfl) rfl ?_
  refine g0 (sAl rfl rfl 102 rfl) rfl ?_
  refine ge ?_
  refine W2 [1, 2] [101, 102] [] (l := [(1, .c (.ptr _ _ _ _)), (2, .c (.ptr _ _ _ _))]) (h := [(101, ⟨_, _, [[.int _ _, .int _ _, .int _ _, .int _ _]]⟩), (102, ⟨_, _, [[.int _ _, .int _ _, .int _ _, .int _ _]]⟩)]) (h' := []) trivial rfl rfl rfl ?_
  refine W_seq ?_
  refine W_reg he rfl ?_
  refine g0 (sAl rfl rfl 103 rfl) rfl ?_
  refine ge ?_
  refine W2 [1, 2, 3] [101, 102, 103] [] (l := [(1, .c (.ptr _ _ _ _)), (2, .c (.ptr _ _ _ _)), (3, .c (.ptr _ _ _ _))]) (h := [(101, ⟨_, _, [[.int _ _, .int _ _, .int _ _, .int _ _]]⟩), (102, ⟨_, _, [[.int _ _, .int _ _, .int _ _, .int _ _]]⟩), (103, ⟨_, _, [[.int _ _, .int _ _, .int _ _, .int _ _]]⟩)]) (h' := []) trivial rfl rfl rfl ?_
  refine W_seq ?_
  refine W_reg he rfl ?_
  refine g0 (sFP rfl rfl rfl) rfl ?_
  refine g0 (sLd rfl rfl) rfl ?_
  obtain ⟨r1, hr1, h⟩ := bnd2 h
  refine g0 (sCm (w_laws_toHandle K a0.fH _ hr1) ok_laws_toHandle rfl rfl rfl rfl) rfl ?_
  refine g0 (sFP rfl rfl rfl) rfl ?_
  refine g0 (sSt rfl rfl [] rfl rfl) rfl ?_
  refine ge ?_
  refine W2 [1, 2, 3] [101, 102, 103] [] (l := [(1, .c (.ptr _ _ _ _)), (2, .c (.ptr _ _ _ _)), (3, .c (.ptr _ _ _ _))]) (h := [(101, ⟨_, _, [[.int _ _, .int _ _, .int _ _, .int _ _]]⟩), (102, ⟨_, _, [[.int _ _, .int _ _, .int _ _, .int _ _]]⟩), (103, ⟨_, _, [[.int _ _, .int _ _, .int _ _, .int _ _]]⟩)]) (h' := []) trivial rfl rfl rfl ?_
  refine W_seq ?_
  refine W_reg he rfl ?_
  refine g0 (sFP rfl rfl rfl) rfl ?_
  refine g0 (sLd rfl rfl) rfl ?_
  refine g0 (sFP rfl rfl rfl) rfl ?_
  refine g0 (sSt rfl rfl [] rfl rfl) rfl ?_
  refine ge ?_
  refine W2 [1, 2, 3] [101, 102, 103] [] (l := [(1, .c (.ptr _ _ _ _)), (2, .c (.ptr _ _ _ _)), (3, .c (.ptr _ _ _ _))]) (h := [(101, ⟨_, _, [[.int _ _, .int _ _, .int _ _, .int _ _]]⟩), (102, ⟨_, _, [[.int _ _, .int _ _, .int _ _, .int _ _]]⟩), (103, ⟨_, _, [[.int _ _, .int _ _, .int _ _, .int _ _]]⟩)]) (h' := []) trivial rfl rfl rfl ?_
  refine W_seq ?_
  refine W_reg he rfl ?_
  refine g0 (sFP rfl rfl rfl) rfl ?_
  refine g0 (sLd rfl rfl) rfl ?_
  refine g0 (sFP rfl rfl rfl) rfl ?_
  refine g0 (sSt rfl rfl [] rfl rfl) rfl ?_
  refine ge ?_
  refine W2 [2, 3] [102, 103] [] (l := [(2, .c (.ptr _ _ _ _)), (3, .c (.ptr _ _ _ _))]) (h := [(102, ⟨_, _, [[.int _ _, .int _ _, .int _ _, .int _ _]]⟩), (103, ⟨_, _, [[.int _ _, .int _ _, .int _ _, .int _ _]]⟩)]) (h' := []) trivial rfl rfl rfl ?_
  refine W_seq ?_
  refine W_reg he rfl ?_
  refine g0 (sLd rfl rfl) rfl ?_
  refine g0 (sSt rfl rfl [] rfl rfl) rfl ?_
  refine ge ?_
  refine W2 [2] [102] [] (l := [(2, .c (.ptr _ _ _ _))]) (h := [(102, ⟨_, _, [[.int _ _, .int _ _, .int _ _, .int _ _]]⟩)]) (h' := []) trivial rfl rfl rfl ?_
  obtain rfl := Option.some.inj h
  exact W_ret (r0 rfl rfl)
theorem ok_laws_toRef : FnOk Try.prog 61 := ⟨_, Try.func61, rfl, rfl⟩


/-! ### loop.example/g00499/laws.toOp -/
def m_laws_toOp (K : Nat) (a0 : T_laws_Op) : Option (T_impl_Op) := ((m_laws_toHandle K a0.fH).bind fun r1 => ((m_laws_toRef K a0.fR).bind fun r2 => ((m_laws_toByteS K a0.fB).bind fun r3 => some (T_impl_Op.mk a0.fKind r1 r2 a0.fN a0.fM r3))))
set_option maxRecDepth 20000 in
set_option maxHeartbeats 8000000 in
theorem w_laws_toOp (K : Nat) (a0 : T_laws_Op) (r : T_impl_Op) (h : m_laws_toOp K a0 = some r) : Sp Try.prog 30 [.g [.int .i64 a0.fKind, .int .i64 a0.fH.fSlot, .int .i64 a0.fH.fGen, .int .i64 a0.fR.fH.fSlot, .int .i64 a0.fR.fH.fGen, .int .i64 a0.fR.fEp, .int .i64 a0.fR.fNo, .int .i64 a0.fN, .int .i64 a0.fM, .row false 1 (a0.fB.map en5)]] [] (.g [.int .i64 r.fKind, .int .i64 r.fH.fSlot, .int .i64 r.fH.fGen, .int .i64 r.fR.fH.fSlot, .int .i64 r.fR.fH.fGen, .int .i64 r.fR.fEp, .int .i64 r.fR.fNo, .int .i64 r.fN, .int .i64 r.fM, .row false 1 (r.fB.map en5)]) [] := by
  refine Sp.of_W tabOk Try.func30 rfl rfl (Nat.le_of_ble_eq_true rfl) (Nat.le_of_ble_eq_true rfl) fun F hP hN hm => ?_
  obtain ⟨P, N, w0, σ0, β0, m⟩ := F
  obtain rfl : P = Try.prog := hP
  obtain rfl : N = 26 := hN
  obtain rfl : m = 1 := hm
  have he : Env ⟨Try.prog, 26, w0, σ0, β0, 1⟩ tab := ⟨Nat.le_of_ble_eq_true rfl, tabOk⟩
  unfold m_laws_toOp at h
  refine W_seq ?_
  refine W_reg he rfl ?_
  refine g0 (sBx rfl [] rfl rfl 101 rfl) rfl ?_
  refine g0 (sAl rfl rfl 102 rfl) rfl ?_
  refine ge ?_
  refine W2 [1, 2] [101, 102] [] (l := [(1, .c (.ptr _ _ _ _)), (2, .c (.ptr _ _ _ _))]) (h := [(101, ⟨_, _, [[.int _ _, .int _ _, .int _ _, .int _ _, .int _ _, .int _ _, .int _ _, .int _ _, .int _ _, .row _ _ _]]⟩), (102, ⟨_, _, [[.int _ _, .int _ _, .int _ _, .int _ _, .int _ _, .int _ _, .int _ _, .int _ _, .int _ _, .row _ _ _]]⟩)]) (h' := []) trivial rfl rfl rfl ?_
  refine W_seq ?_
  refine W_reg he rfl ?_
  refine g0 (sAl rfl rfl 103 rfl) rfl ?_
  refine ge ?_
  refine W2 [1, 2, 3] [101, 102, 103] [] (l := [(1, .c (.ptr _ _ _ _)), (2, .c (.ptr _ _ _ _)), (3, .c (.ptr _ _ _ _))]) (h := [(101, ⟨_, _, [[.int _ _, .int _ _, .int _ _, .int _ _, .int _ _, .int _ _, .int _ _, .int _ _, .int _ _, .row _ _ _]]⟩), (102, ⟨_, _, [[.int _ _, .int _ _, .int _ _, .int _ _, .int _ _, .int _ _, .int _ _, .int _ _, .int _ _, .row _ _ _]]⟩), (103, ⟨_, _, [[.int _ _, .int _ _, .int _ _, .int _ _, .int _ _, .int _ _, .int _ _, .int _ _, .int _ _, .row _ _ _]]⟩)]) (h' := []) trivial rfl rfl rfl ?_
  refine W_seq ?_
  refine W_reg he rfl ?_
  refine g0 (sFP rfl rfl rfl) rfl ?_
  refine g0 (sLd rfl rfl) rfl ?_
  refine g0 (sFP rfl rfl rfl) rfl ?_
  refine g0 (sSt rfl rfl [] rfl rfl) rfl ?_
  refine ge ?_
  refine W2 [1, 2, 3] [101, 102, 103] [] (l := [(1, .c (.ptr _ _ _ _)), (2, .c (.ptr _ _ _ _)), (3, .c (.ptr _ _ _ _))]) (h := [(101, ⟨_, _, [[.int _ _, .int _ _, .int _ _, .int _ _, .int _ _, .int _ _, .int _ _, .int _ _, .int _ _, .row _ _ _]]⟩), (102, ⟨_, _, [[.int _ _, .int _ _, .int _ _, .int _ _, .int _ _, .int _ _, .int _ _, .int _ _, .int _ _, .row _ _ _]]⟩), (103, ⟨_, _, [[.int _ _, .int _ _, .int _ _, .int _ _, .int _ _, .int _ _, .int _ _, .int _ _, .int _ _, .row _ _ _]]⟩)]) (h' := []) trivial rfl rfl rfl ?_
  refine W_seq ?_
  refine W_reg he rfl ?_
  refine g0 (sFP rfl rfl rfl) rfl ?_
  refine g0 (sLd rfl rfl) rfl ?_
  obtain ⟨r1, hr1, h⟩ := bnd2 h
  refine g0 (sCm (w_laws_toHandle K a0.fH _ hr1) ok_laws_toHandle rfl rfl rfl rfl) rfl ?_
  refine g0 (sFP rfl rfl rfl) rfl ?_
  refine g0 (sSt rfl rfl [] rfl rfl) rfl ?_
  refine ge ?_
  refine W2 [1, 2, 3] [101, 102, 103] [] (l := [(1, .c (.ptr _ _ _ _)), (2, .c (.ptr _ _ _ _)), (3, .c (.ptr _ _ _ _))]) (h := [(101, ⟨_, _, [[.int _ _, .int _ _, .int _ _, .int _ _, .int _ _, .int _ _, .int _ _, .int _ _, .int _ _, .row _ _ _]]⟩), (102, ⟨_, _, [[.int _ _, .int _ _, .int _ _, .int _ _, .int _ _, .int _ _, .int _ _, .int _ _, .int _ _, .row _ _ _]]⟩), (103, ⟨_, _, [[.int _ _, .int _ _, .int _ _, .int _ _, .int _ _, .int _ _, .int _ _, .int _ _, .int _ _, .row _ _ _]]⟩)]) (h' := []) trivial rfl rfl rfl ?_
  refine W_seq ?_
  refine W_reg he rfl ?_
  refine g0 (sFP rfl rfl rfl) rfl ?_
  refine g0 (sLd rfl rfl) rfl ?_
  obtain ⟨r2, hr2, h⟩ := bnd2 h
  refine g0 (sCm (w_laws_toRef K a0.fR _ hr2) ok_laws_toRef rfl rfl rfl rfl) rfl ?_
  refine g0 (sFP rfl rfl rfl) rfl ?_
  refine g0 (sSt rfl rfl [] rfl rfl) rfl ?_
  refine ge ?_
  refine W2 [1, 2, 3] [101, 102, 103] [] (l := [(1, .c (.ptr _ _ _ _)), (2, .c (.ptr _ _ _ _)), (3, .c (.ptr _ _ _ _))]) (h := [(101, ⟨_, _, [[.int _ _, .int _ _, .int _ _, .int _ _, .int _ _, .int _ _, .int _ _, .int _ _, .int _ _, .row _ _ _]]⟩), (102, ⟨_, _, [[.int _ _, .int _ _, .int _ _, .int _ _, .int _ _, .int _ _, .int _ _, .int _ _, .int _ _, .row _ _ _]]⟩), (103, ⟨_, _, [[.int _ _, .int _ _, .int _ _, .int _ _, .int _ _, .int _ _, .int _ _, .int _ _, .int _ _, .row _ _ _]]⟩)]) (h' := []) trivial rfl rfl rfl ?_
  refine W_seq ?_
  refine W_reg he rfl ?_
  refine g0 (sFP rfl rfl rfl) rfl ?_
  refine g0 (sLd rfl rfl) rfl ?_
  refine g0 (sFP rfl rfl rfl) rfl ?_
  refine g0 (sSt rfl rfl [] rfl rfl) rfl ?_
  refine ge ?_
  refine W2 [1, 2, 3] [101, 102, 103] [] (l := [(1, .c (.ptr _ _ _ _)), (2, .c (.ptr _ _ _ _)), (3, .c (.ptr _ _ _ _))]) (h := [(101, ⟨_, _, [[.int _ _, .int _ _, .int _ _, .int _ _, .int _ _, .int _ _, .int _ _, .int _ _, .int _ _, .row _ _ _]]⟩), (102, ⟨_, _, [[.int _ _, .int _ _, .int _ _, .int _ _, .int _ _, .int _ _, .int _ _, .int _ _, .int _ _, .row _ _ _]]⟩), (103, ⟨_, _, [[.int _ _, .int _ _, .int _ _, .int _ _, .int _ _, .int _ _, .int _ _, .int _ _, .int _ _, .row _ _ _]]⟩)]) (h' := []) trivial rfl rfl rfl ?_
  refine W_seq ?_
  refine W_reg he rfl ?_
  refine g0 (sFP rfl rfl rfl) rfl ?_
  refine g0 (sLd rfl rfl) rfl ?_
  refine g0 (sFP rfl rfl rfl) rfl ?_
  refine g0 (sSt rfl rfl [] rfl rfl) rfl ?_
  refine ge ?_
  refine W2 [1, 2, 3] [101, 102, 103] [] (l := [(1, .c (.ptr _ _ _ _)), (2, .c (.ptr _ _ _ _)), (3, .c (.ptr _ _ _ _))]) (h := [(101, ⟨_, _, [[.int _ _, .int _ _, .int _ _, .int _ _, .int _ _, .int _ _, .int _ _, .int _ _, .int _ _, .row _ _ _]]⟩), (102, ⟨_, _, [[.int _ _, .int _ _, .int _ _, .int _ _, .int _ _, .int _ _, .int _ _, .int _ _, .int _ _, .row _ _ _]]⟩), (103, ⟨_, _, [[.int _ _, .int _ _, .int _ _, .int _ _, .int _ _, .int _ _, .int _ _, .int _ _, .int _ _, .row _ _ _]]⟩)]) (h' := []) trivial rfl rfl rfl ?_
  refine W_seq ?_
  refine W_reg he rfl ?_
  refine g0 (sFP rfl rfl rfl) rfl ?_
  refine g0 (sLd rfl rfl) rfl ?_
  obtain ⟨r3, hr3, h⟩ := bnd2 h
  refine g0 (sCm (w_laws_toByteS K a0.fB _ hr3) ok_laws_toByteS rfl rfl rfl rfl) rfl ?_
  refine g0 (sFP rfl rfl rfl) rfl ?_
  refine g0 (sSt rfl rfl [] rfl rfl) rfl ?_
  refine ge ?_
  refine W2 [2, 3] [102, 103] [] (l := [(2, .c (.ptr _ _ _ _)), (3, .c (.ptr _ _ _ _))]) (h := [(102, ⟨_, _, [[.int _ _, .int _ _, .int _ _, .int _ _, .int _ _, .int _ _, .int _ _, .int _ _, .int _ _, .row _ _ _]]⟩), (103, ⟨_, _, [[.int _ _, .int _ _, .int _ _, .int _ _, .int _ _, .int _ _, .int _ _, .int _ _, .int _ _, .row _ _ _]]⟩)]) (h' := []) trivial rfl rfl rfl ?_
  refine W_seq ?_
  refine W_reg he rfl ?_
  refine g0 (sLd rfl rfl) rfl ?_
  refine g0 (sSt rfl rfl [] rfl rfl) rfl ?_
  refine ge ?_
  refine W2 [2] [102] [] (l := [(2, .c (.ptr _ _ _ _))]) (h := [(102, ⟨_, _, [[.int _ _, .int _ _, .int _ _, .int _ _, .int _ _, .int _ _, .int _ _, .int _ _, .int _ _, .row _ _ _]]⟩)]) (h' := []) trivial rfl rfl rfl ?_
  obtain rfl := Option.some.inj h
  exact W_ret (r0 rfl rfl)
theorem ok_laws_toOp : FnOk Try.prog 30 := ⟨_, Try.func30, rfl, rfl⟩


/-! ### loop.example/g00499/spec.Taxed -/
def m_spec_Taxed (K : Nat) (a0 : T_impl_Op) : Option (Bool) := (bif (a0.fKind == 1) then some true else some (a0.fKind == 2))
set_option maxRecDepth 20000 in
set_option maxHeartbeats 8000000 in
theorem w_spec_Taxed (K : Nat) (a0 : T_impl_Op) (r : Bool) (h : m_spec_Taxed K a0 = some r) : Sp Try.prog 29 [.g [.int .i64 a0.fKind, .int .i64 a0.fH.fSlot, .int .i64 a0.fH.fGen, .int .i64 a0.fR.fH.fSlot, .int .i64 a0.fR.fH.fGen, .int .i64 a0.fR.fEp, .int .i64 a0.fR.fNo, .int .i64 a0.fN, .int .i64 a0.fM, .row false 1 (a0.fB.map en5)]] [] (.c (.bool r)) [] := by
  refine Sp.of_W tabOk Try.func29 rfl rfl (Nat.le_of_ble_eq_true rfl) (Nat.le_of_ble_eq_true rfl) fun F hP hN hm => ?_
  obtain ⟨P, N, w0, σ0, β0, m⟩ := F
  obtain rfl : P = Try.prog := hP
  obtain rfl : N = 11 := hN
  obtain rfl : m = 1 := hm
  have he : Env ⟨Try.prog, 11, w0, σ0, β0, 1⟩ tab := ⟨Nat.le_of_ble_eq_true rfl, tabOk⟩
  unfold m_spec_Taxed at h
  refine W_seq ?_
  refine W_reg he rfl ?_
  refine g0 (sBx rfl [] rfl rfl 101 rfl) rfl ?_
  refine g0 (sA rfl [] rfl) rfl ?_
  refine ge ?_
  refine W2 [1] [101] [] (l := [(1, .c (.ptr _ _ _ _))]) (h := [(101, ⟨_, _, [[.int _ _, .int _ _, .int _ _, .int _ _, .int _ _, .int _ _, .int _ _, .int _ _, .int _ _, .row _ _ _]]⟩)]) (h' := []) trivial rfl rfl rfl ?_
  refine W_seq ?_
  refine W_reg he rfl ?_
  refine g0 (sFP rfl rfl rfl) rfl ?_
  refine g0 (sLd rfl rfl) rfl ?_
  refine gB (sBi rfl rfl rfl rfl) rfl rfl fun b1 hb1 => ?_
  cases b1 with
  | true =>
    replace h := brT hb1 h
    refine g0 (sM rfl [] rfl) rfl ?_
    refine qP rfl rfl rfl rfl ?_
    refine qP rfl rfl rfl rfl ?_
    refine qP rfl rfl rfl rfl ?_
    refine g0 (sPk rfl [] rfl rfl) rfl ?_
    refine g0 (sA rfl [] rfl) rfl ?_
    refine ge ?_
    refine W2 [2] [] [] (l := [(2, .c (.bool true))]) (h := []) (h' := []) trivial rfl rfl rfl ?_
    obtain rfl := Option.some.inj h
    exact W_ret (r0 rfl rfl)
  | false =>
    replace h := brF hb1 h
    refine g0 (sM rfl [] rfl) rfl ?_
    refine q0 (sFP rfl rfl rfl) rfl rfl rfl ?_
    refine q0 (sLd rfl rfl) rfl rfl rfl ?_
    refine q0 (sBi rfl rfl rfl rfl) rfl rfl rfl ?_
    refine g0 (sPk rfl [] rfl rfl) rfl ?_
    refine g0 (sA rfl [] rfl) rfl ?_
    refine ge ?_
    refine W2 [2] [] [] (l := [(2, .c (.bool _))]) (h := []) (h' := []) trivial rfl rfl rfl ?_
    obtain rfl := Option.some.inj h
    exact W_ret (r0 rfl rfl)
theorem ok_spec_Taxed : FnOk Try.prog 29 := ⟨_, Try.func29, rfl, rfl⟩


/-! ### loop.example/g00499/impl.Taxed -/
def m_impl_Taxed (K : Nat) (a0 : T_impl_Op) : Option (Bool) := (bif (a0.fKind == 1) then some true else some (a0.fKind == 2))
set_option maxRecDepth 20000 in
set_option maxHeartbeats 8000000 in
theorem w_impl_Taxed (K : Nat) (a0 : T_impl_Op) (r : Bool) (h : m_impl_Taxed K a0 = some r) : Sp Try.prog 31 [.g [.int .i64 a0.fKind, .int .i64 a0.fH.fSlot, .int .i64 a0.fH.fGen, .int .i64 a0.fR.fH.fSlot, .int .i64 a0.fR.fH.fGen, .int .i64 a0.fR.fEp, .int .i64 a0.fR.fNo, .int .i64 a0.fN, .int .i64 a0.fM, .row false 1 (a0.fB.map en5)]] [] (.c (.bool r)) [] := by
  refine Sp.of_W tabOk Try.func31 rfl rfl (Nat.le_of_ble_eq_true rfl) (Nat.le_of_ble_eq_true rfl) fun F hP hN hm => ?_
  obtain ⟨P, N, w0, σ0, β0, m⟩ := F
  obtain rfl : P = Try.prog := hP
  obtain rfl : N = 11 := hN
  obtain rfl : m = 1 := hm
  have he : Env ⟨Try.prog, 11, w0, σ0, β0, 1⟩ tab := ⟨Nat.le_of_ble_eq_true rfl, tabOk⟩
  unfold m_impl_Taxed at h
  refine W_seq ?_
  refine W_reg he rfl ?_
  refine g0 (sBx rfl [] rfl rfl 101 rfl) rfl ?_
  refine g0 (sA rfl [] rfl) rfl ?_
  refine ge ?_
  refine W2 [1] [101] [] (l := [(1, .c (.ptr _ _ _ _))]) (h := [(101, ⟨_, _, [[.int _ _, .int _ _, .int _ _, .int _ _, .int _ _, .int _ _, .int _ _, .int _ _, .int _ _, .row _ _ _]]⟩)]) (h' := []) trivial rfl rfl rfl ?_
  refine W_seq ?_
  refine W_reg he rfl ?_
  refine g0 (sFP rfl rfl rfl) rfl ?_
  refine g0 (sLd rfl rfl) rfl ?_
  refine gB (sBi rfl rfl rfl rfl) rfl rfl fun b1 hb1 => ?_
  cases b1 with
  | true =>
    replace h := brT hb1 h
    refine g0 (sM rfl [] rfl) rfl ?_
    refine qP rfl rfl rfl rfl ?_
    refine qP rfl rfl rfl rfl ?_
    refine qP rfl rfl rfl rfl ?_
    refine g0 (sPk rfl [] rfl rfl) rfl ?_
    refine g0 (sA rfl [] rfl) rfl ?_
    refine ge ?_
    refine W2 [2] [] [] (l := [(2, .c (.bool true))]) (h := []) (h' := []) trivial rfl rfl rfl ?_
    obtain rfl := Option.some.inj h
    exact W_ret (r0 rfl rfl)
  | false =>
    replace h := brF hb1 h
    refine g0 (sM rfl [] rfl) rfl ?_
    refine q0 (sFP rfl rfl rfl) rfl rfl rfl ?_
    refine q0 (sLd rfl rfl) rfl rfl rfl ?_
    refine q0 (sBi rfl rfl rfl rfl) rfl rfl rfl ?_
    refine g0 (sPk rfl [] rfl rfl) rfl ?_
    refine g0 (sA rfl [] rfl) rfl ?_
    refine ge ?_
    refine W2 [2] [] [] (l := [(2, .c (.bool _))]) (h := []) (h' := []) trivial rfl rfl rfl ?_
    obtain rfl := Option.some.inj h
    exact W_ret (r0 rfl rfl)
theorem ok_impl_Taxed : FnOk Try.prog 31 := ⟨_, Try.func31, rfl, rfl⟩


/-! ### loop.example/g00499/laws.eqHandle -/
def m_laws_eqHandle (K : Nat) (a0 : T_impl_Handle) (a1 : T_impl_Handle) : Option (Bool) := (bif (a0.fSlot != a1.fSlot) then some false else (bif (a0.fGen != a1.fGen) then some false else some true))
set_option maxRecDepth 20000 in
set_option maxHeartbeats 8000000 in
theorem w_laws_eqHandle (K : Nat) (a0 : T_impl_Handle) (a1 : T_impl_Handle) (r : Bool) (h : m_laws_eqHandle K a0 a1 = some r) : Sp Try.prog 62 [.g [.int .i64 a0.fSlot, .int .i64 a0.fGen], .g [.int .i64 a1.fSlot, .int .i64 a1.fGen]] [] (.c (.bool r)) [] := by
  refine Sp.of_W tabOk Try.func62 rfl rfl (Nat.le_of_ble_eq_true rfl) (Nat.le_of_ble_eq_true rfl) fun F hP hN hm => ?_
  obtain ⟨P, N, w0, σ0, β0, m⟩ := F
  obtain rfl : P = Try.prog := hP
  obtain rfl : N = 15 := hN
  obtain rfl : m = 1 := hm
  have he : Env ⟨Try.prog, 15, w0, σ0, β0, 1⟩ tab := ⟨Nat.le_of_ble_eq_true rfl, tabOk⟩
  unfold m_laws_eqHandle at h
  refine W_seq ?_
  refine W_reg he rfl ?_
  refine g0 (sBx rfl [] rfl rfl 101 rfl) rfl ?_
  refine g0 (sBx rfl [] rfl rfl 102 rfl) rfl ?_
  refine g0 (sA rfl [] rfl) rfl ?_
  refine ge ?_
  refine W2 [2, 3] [101, 102] [] (l := [(2, .c (.ptr _ _ _ _)), (3, .c (.ptr _ _ _ _))]) (h := [(101, ⟨_, _, [[.int _ _, .int _ _]]⟩), (102, ⟨_, _, [[.int _ _, .int _ _]]⟩)]) (h' := []) trivial rfl rfl rfl ?_
  refine W_seq ?_
  refine W_seq ?_
  refine W_reg he rfl ?_
  refine g0 (sFP rfl rfl rfl) rfl ?_
  refine g0 (sLd rfl rfl) rfl ?_
  refine g0 (sFP rfl rfl rfl) rfl ?_
  refine g0 (sLd rfl rfl) rfl ?_
  refine gB (sBi rfl rfl rfl rfl) rfl rfl fun b1 hb1 => ?_
  cases b1 with
  | true =>
    replace h := brT hb1 h
    refine ge ?_
    refine W2 [2, 3, 9] [101, 102] [] (l := [(2, .c (.ptr _ _ _ _)), (3, .c (.ptr _ _ _ _)), (9, .c (.bool true))]) (h := [(101, ⟨_, _, [[.int _ _, .int _ _]]⟩), (102, ⟨_, _, [[.int _ _, .int _ _]]⟩)]) (h' := []) trivial rfl rfl rfl ?_
    refine W_true rfl ?_
    refine W_seq ?_
    refine W_reg he rfl ?_
    refine g0 (sA rfl [] rfl) rfl ?_
    refine ge ?_
    refine W2 [4] [] [] (l := [(4, .c (.bool false))]) (h := []) (h' := []) trivial rfl rfl rfl ?_
    obtain rfl := Option.some.inj h
    exact W_ret (r0 rfl rfl)
  | false =>
    replace h := brF hb1 h
    refine ge ?_
    refine W2 [2, 3, 9] [101, 102] [] (l := [(2, .c (.ptr _ _ _ _)), (3, .c (.ptr _ _ _ _)), (9, .c (.bool false))]) (h := [(101, ⟨_, _, [[.int _ _, .int _ _]]⟩), (102, ⟨_, _, [[.int _ _, .int _ _]]⟩)]) (h' := []) trivial rfl rfl rfl ?_
    refine W_false rfl ?_
    refine W_skip ?_
    refine W_seq ?_
    refine W_seq ?_
    refine W_reg he rfl ?_
    refine g0 (sFP rfl rfl rfl) rfl ?_
    refine g0 (sLd rfl rfl) rfl ?_
    refine g0 (sFP rfl rfl rfl) rfl ?_
    refine g0 (sLd rfl rfl) rfl ?_
    refine gB (sBi rfl rfl rfl rfl) rfl rfl fun b2 hb2 => ?_
    cases b2 with
    | true =>
      replace h := brT hb2 h
      refine ge ?_
      refine W2 [14] [] [] (l := [(14, .c (.bool true))]) (h := []) (h' := []) trivial rfl rfl rfl ?_
      refine W_true rfl ?_
      refine W_seq ?_
      refine W_reg he rfl ?_
      refine g0 (sA rfl [] rfl) rfl ?_
      refine ge ?_
      refine W2 [4] [] [] (l := [(4, .c (.bool false))]) (h := []) (h' := []) trivial rfl rfl rfl ?_
      obtain rfl := Option.some.inj h
      exact W_ret (r0 rfl rfl)
    | false =>
      replace h := brF hb2 h
      refine ge ?_
      refine W2 [14] [] [] (l := [(14, .c (.bool false))]) (h := []) (h' := []) trivial rfl rfl rfl ?_
      refine W_false rfl ?_
      refine W_skip ?_
      refine W_seq ?_
      refine W_reg he rfl ?_
      refine g0 (sA rfl [] rfl) rfl ?_
      refine ge ?_
      refine W2 [4] [] [] (l := [(4, .c (.bool true))]) (h := []) (h' := []) trivial rfl rfl rfl ?_
      obtain rfl := Option.some.inj h
      exact W_ret (r0 rfl rfl)
theorem ok_laws_eqHandle : FnOk Try.prog 62 := ⟨_, Try.func62, rfl, rfl⟩


/-! ### loop.example/g00499/laws.eqRef -/
def m_laws_eqRef (K : Nat) (a0 : T_impl_Ref) (a1 : T_impl_Ref) : Option (Bool) := ((m_laws_eqHandle K a0.fH a1.fH).bind fun r1 => (bif r1 then (bif (a0.fEp != a1.fEp) then some false else (bif (a0.fNo != a1.fNo) then some false else some true)) else some false))
set_option maxRecDepth 20000 in
set_option maxHeartbeats 8000000 in
theorem w_laws_eqRef (K : Nat) (a0 : T_impl_Ref) (a1 : T_impl_Ref) (r : Bool) (h : m_laws_eqRef K a0 a1 = some r) : Sp Try.prog 63 [.g [.int .i64 a0.fH.fSlot, .int .i64 a0.fH.fGen, .int .i64 a0.fEp, .int .i64 a0.fNo], .g [.int .i64 a1.fH.fSlot, .int .i64 a1.fH.fGen, .int .i64 a1.fEp, .int .i64 a1.fNo]] [] (.c (.bool r)) [] := by
  refine Sp.of_W tabOk Try.func63 rfl rfl (Nat.le_of_ble_eq_true rfl) (Nat.le_of_ble_eq_true rfl) fun F hP hN hm => ?_
  obtain ⟨P, N, w0, σ0, β0, m⟩ := F
  obtain rfl : P = Try.prog := hP
  obtain rfl : N = 21 := hN
  obtain rfl : m = 1 := hm
  have he : Env ⟨Try.prog, 21, w0, σ0, β0, 1⟩ tab := ⟨Nat.le_of_ble_eq_true rfl, tabOk⟩
  unfold m_laws_eqRef at h
  refine W_seq ?_
  refine W_reg he rfl ?_
  refine g0 (sBx rfl [] rfl rfl 101 rfl) rfl ?_
  refine g0 (sBx rfl [] rfl rfl 102 rfl) rfl ?_
  refine g0 (sA rfl [] rfl) rfl ?_
  refine ge ?_
  refine W2 [2, 3] [101, 102] [] (l := [(2, .c (.ptr _ _ _ _)), (3, .c (.ptr _ _ _ _))]) (h := [(101, ⟨_, _, [[.int _ _, .int _ _, .int _ _, .int _ _]]⟩), (102, ⟨_, _, [[.int _ _, .int _ _, .int _ _, .int _ _]]⟩)]) (h' := []) trivial rfl rfl rfl ?_
  refine W_seq ?_
  refine W_seq ?_
  refine W_reg he rfl ?_
  refine g0 (sFP rfl rfl rfl) rfl ?_
  refine g0 (sLd rfl rfl) rfl ?_
  refine g0 (sFP rfl rfl rfl) rfl ?_
  refine g0 (sLd rfl rfl) rfl ?_
  obtain ⟨r1, hr1, h⟩ := bnd2 h
  refine gB (sCm (w_laws_eqHandle K a0.fH a1.fH _ hr1) ok_laws_eqHandle rfl rfl rfl rfl) rfl rfl fun b2 hb2 => ?_
  cases b2 with
  | true =>
    replace h := brT hb2 h
    refine g0 (sNt rfl rfl) rfl ?_
    refine ge ?_
    refine W2 [2, 3, 10] [101, 102] [] (l := [(2, .c (.ptr _ _ _ _)), (3, .c (.ptr _ _ _ _)), (10, .c (.bool false))]) (h := [(101, ⟨_, _, [[.int _ _, .int _ _, .int _ _, .int _ _]]⟩), (102, ⟨_, _, [[.int _ _, .int _ _, .int _ _, .int _ _]]⟩)]) (h' := []) trivial rfl rfl rfl ?_
    refine W_false rfl ?_
    refine W_skip ?_
    refine W_seq ?_
    refine W_seq ?_
    refine W_reg he rfl ?_
    refine g0 (sFP rfl rfl rfl) rfl ?_
    refine g0 (sLd rfl rfl) rfl ?_
    refine g0 (sFP rfl rfl rfl) rfl ?_
    refine g0 (sLd rfl rfl) rfl ?_
    refine gB (sBi rfl rfl rfl rfl) rfl rfl fun b3 hb3 => ?_
    cases b3 with
    | true =>
      replace h := brT hb3 h
      refine ge ?_
      refine W2 [2, 3, 15] [101, 102] [] (l := [(2, .c (.ptr _ _ _ _)), (3, .c (.ptr _ _ _ _)), (15, .c (.bool true))]) (h := [(101, ⟨_, _, [[.int _ _, .int _ _, .int _ _, .int _ _]]⟩), (102, ⟨_, _, [[.int _ _, .int _ _, .int _ _, .int _ _]]⟩)]) (h' := []) trivial rfl rfl rfl ?_
      refine W_true rfl ?_
      refine W_seq ?_
      refine W_reg he rfl ?_
      refine g0 (sA rfl [] rfl) rfl ?_
      refine ge ?_
      refine W2 [4] [] [] (l := [(4, .c (.bool false))]) (h := []) (h' := []) trivial rfl rfl rfl ?_
      obtain rfl := Option.some.inj h
      exact W_ret (r0 rfl rfl)
    | false =>
      replace h := brF hb3 h
      refine ge ?_
      refine W2 [2, 3, 15] [101, 102] [] (l := [(2, .c (.ptr _ _ _ _)), (3, .c (.ptr _ _ _ _)), (15, .c (.bool false))]) (h := [(101, ⟨_, _, [[.int _ _, .int _ _, .int _ _, .int _ _]]⟩), (102, ⟨_, _, [[.int _ _, .int _ _, .int _ _, .int _ _]]⟩)]) (h' := []) trivial rfl rfl rfl ?_
      refine W_false rfl ?_
      refine W_skip ?_
      refine W_seq ?_
      refine W_seq ?_
      refine W_reg he rfl ?_
      refine g0 (sFP rfl rfl rfl) rfl ?_
      refine g0 (sLd rfl rfl) rfl ?_
      refine g0 (sFP rfl rfl rfl) rfl ?_
      refine g0 (sLd rfl rfl) rfl ?_
      refine gB (sBi rfl rfl rfl rfl) rfl rfl fun b4 hb4 => ?_
      cases b4 with
      | true =>
        replace h := brT hb4 h
        refine ge ?_
        refine W2 [20] [] [] (l := [(20, .c (.bool true))]) (h := []) (h' := []) trivial rfl rfl rfl ?_
        refine W_true rfl ?_
        refine W_seq ?_
        refine W_reg he rfl ?_
        refine g0 (sA rfl [] rfl) rfl ?_
        refine ge ?_
        refine W2 [4] [] [] (l := [(4, .c (.bool false))]) (h := []) (h' := []) trivial rfl rfl rfl ?_
        obtain rfl := Option.some.inj h
        exact W_ret (r0 rfl rfl)
      | false =>
        replace h := brF hb4 h
        refine ge ?_
        refine W2 [20] [] [] (l := [(20, .c (.bool false))]) (h := []) (h' := []) trivial rfl rfl rfl ?_
        refine W_false rfl ?_
        refine W_skip ?_
        refine W_seq ?_
        refine W_reg he rfl ?_
        refine g0 (sA rfl [] rfl) rfl ?_
        refine ge ?_
        refine W2 [4] [] [] (l := [(4, .c (.bool true))]) (h := []) (h' := []) trivial rfl rfl rfl ?_
        obtain rfl := Option.some.inj h
        exact W_ret (r0 rfl rfl)
  | false =>
    replace h := brF hb2 h
    refine g0 (sNt rfl rfl) rfl ?_
    refine ge ?_
    refine W2 [2, 3, 10] [101, 102] [] (l := [(2, .c (.ptr _ _ _ _)), (3, .c (.ptr _ _ _ _)), (10, .c (.bool true))]) (h := [(101, ⟨_, _, [[.int _ _, .int _ _, .int _ _, .int _ _]]⟩), (102, ⟨_, _, [[.int _ _, .int _ _, .int _ _, .int _ _]]⟩)]) (h' := []) trivial rfl rfl rfl ?_
    refine W_true rfl ?_
    refine W_seq ?_
    refine W_reg he rfl ?_
    refine g0 (sA rfl [] rfl) rfl ?_
    refine ge ?_
    refine W2 [4] [] [] (l := [(4, .c (.bool false))]) (h := []) (h' := []) trivial rfl rfl rfl ?_
    obtain rfl := Option.some.inj h
    exact W_ret (r0 rfl rfl)
theorem ok_laws_eqRef : FnOk Try.prog 63 := ⟨_, Try.func63, rfl, rfl⟩


/-! ### loop.example/g00499/laws.eqOp -/
def m_laws_eqOp (K : Nat) (a0 : T_impl_Op) (a1 : T_impl_Op) : Option (Bool) := (bif (a0.fKind != a1.fKind) then some false else ((m_laws_eqHandle K a0.fH a1.fH).bind fun r2 => (bif r2 then ((m_laws_eqRef K a0.fR a1.fR).bind fun r4 => (bif r4 then (bif (a0.fN != a1.fN) then some false else (bif (a0.fM != a1.fM) then some false else ((m_laws_eqByteS K a0.fB a1.fB).bind fun r8 => (bif r8 then some true else some false)))) else some false)) else some false)))
set_option maxRecDepth 20000 in
set_option maxHeartbeats 8000000 in
theorem w_laws_eqOp (K : Nat) (a0 : T_impl_Op) (a1 : T_impl_Op) (r : Bool) (h : m_laws_eqOp K a0 a1 = some r) : Sp Try.prog 32 [.g [.int .i64 a0.fKind, .int .i64 a0.fH.fSlot, .int .i64 a0.fH.fGen, .int .i64 a0.fR.fH.fSlot, .int .i64 a0.fR.fH.fGen, .int .i64 a0.fR.fEp, .int .i64 a0.fR.fNo, .int .i64 a0.fN, .int .i64 a0.fM, .row false 1 (a0.fB.map en5)], .g [.int .i64 a1.fKind, .int .i64 a1.fH.fSlot, .int .i64 a1.fH.fGen, .int .i64 a1.fR.fH.fSlot, .int .i64 a1.fR.fH.fGen, .int .i64 a1.fR.fEp, .int .i64 a1.fR.fNo, .int .i64 a1.fN, .int .i64 a1.fM, .row false 1 (a1.fB.map en5)]] [] (.c (.bool r)) [] := by
  refine Sp.of_W tabOk Try.func32 rfl rfl (Nat.le_of_ble_eq_true rfl) (Nat.le_of_ble_eq_true rfl) fun F hP hN hm => ?_
  obtain ⟨P, N, w0, σ0, β0, m⟩ := F
  obtain rfl : P = Try.prog := hP
  obtain rfl : N = 38 := hN
  obtain rfl : m = 1 := hm
  have he : Env ⟨Try.prog, 38, w0, σ0, β0, 1⟩ tab := ⟨Nat.le_of_ble_eq_true rfl, tabOk⟩
  unfold m_laws_eqOp at h
  refine W_seq ?_
  refine W_reg he rfl ?_
  refine g0 (sBx rfl [] rfl rfl 101 rfl) rfl ?_
  refine g0 (sBx rfl [] rfl rfl 102 rfl) rfl ?_
  refine g0 (sA rfl [] rfl) rfl ?_
  refine ge ?_
  refine W2 [2, 3] [101, 102] [] (l := [(2, .c (.ptr _ _ _ _)), (3, .c (.ptr _ _ _ _))]) (h := [(101, ⟨_, _, [[.int _ _, .int _ _, .int _ _, .int _ _, .int _ _, .int _ _, .int _ _, .int _ _, .int _ _, .row _ _ _]]⟩), (102, ⟨_, _, [[.int _ _, .int _ _, .int _ _, .int _ _, .int _ _, .int _ _, .int _ _, .int _ _, .int _ _, .row _ _ _]]⟩)]) (h' := []) trivial rfl rfl rfl ?_
  refine W_seq ?_
  refine W_seq ?_
  refine W_reg he rfl ?_
  refine g0 (sFP rfl rfl rfl) rfl ?_
  refine g0 (sLd rfl rfl) rfl ?_
  refine g0 (sFP rfl rfl rfl) rfl ?_
  refine g0 (sLd rfl rfl) rfl ?_
  refine gB (sBi rfl rfl rfl rfl) rfl rfl fun b1 hb1 => ?_
  cases b1 with
  | true =>
    replace h := brT hb1 h
    refine ge ?_
    refine W2 [2, 3, 9] [101, 102] [] (l := [(2, .c (.ptr _ _ _ _)), (3, .c (.ptr _ _ _ _)), (9, .c (.bool true))]) (h := [(101, ⟨_, _, [[.int _ _, .int _ _, .int _ _, .int _ _, .int _ _, .int _ _, .int _ _, .int _ _, .int _ _, .row _ _ _]]⟩), (102, ⟨_, _, [[.int _ _, .int _ _, .int _ _, .int _ _, .int _ _, .int _ _, .int _ _, .int _ _, .int _ _, .row _ _ _]]⟩)]) (h' := []) trivial rfl rfl rfl ?_
    refine W_true rfl ?_
    refine W_seq ?_
    refine W_reg he rfl ?_
    refine g0 (sA rfl [] rfl) rfl ?_
    refine ge ?_
    refine W2 [4] [] [] (l := [(4, .c (.bool false))]) (h := []) (h' := []) trivial rfl rfl rfl ?_
    obtain rfl := Option.some.inj h
    exact W_ret (r0 rfl rfl)
  | false =>
    replace h := brF hb1 h
    refine ge ?_
    refine W2 [2, 3, 9] [101, 102] [] (l := [(2, .c (.ptr _ _ _ _)), (3, .c (.ptr _ _ _ _)), (9, .c (.bool false))]) (h := [(101, ⟨_, _, [[.int _ _, .int _ _, .int _ _, .int _ _, .int _ _, .int _ _, .int _ _, .int _ _, .int _ _, .row _ _ _]]⟩), (102, ⟨_, _, [[.int _ _, .int _ _, .int _ _, .int _ _, .int _ _, .int _ _, .int _ _, .int _ _, .int _ _, .row _ _ _]]⟩)]) (h' := []) trivial rfl rfl rfl ?_
    refine W_false rfl ?_
    refine W_skip ?_
    refine W_seq ?_
    refine W_seq ?_
    refine W_reg he rfl ?_
    refine g0 (sFP rfl rfl rfl) rfl ?_
    refine g0 (sLd rfl rfl) rfl ?_
    refine g0 (sFP rfl rfl rfl) rfl ?_
    refine g0 (sLd rfl rfl) rfl ?_
    obtain ⟨r2, hr2, h⟩ := bnd2 h
    refine gB (sCm (w_laws_eqHandle K a0.fH a1.fH _ hr2) ok_laws_eqHandle rfl rfl rfl rfl) rfl rfl fun b3 hb3 => ?_
    cases b3 with
    | true =>
      replace h := brT hb3 h
      refine g0 (sNt rfl rfl) rfl ?_
      refine ge ?_
      refine W2 [2, 3, 15] [101, 102] [] (l := [(2, .c (.ptr _ _ _ _)), (3, .c (.ptr _ _ _ _)), (15, .c (.bool false))]) (h := [(101, ⟨_, _, [[.int _ _, .int _ _, .int _ _, .int _ _, .int _ _, .int _ _, .int _ _, .int _ _, .int _ _, .row _ _ _]]⟩), (102, ⟨_, _, [[.int _ _, .int _ _, .int _ _, .int _ _, .int _ _, .int _ _, .int _ _, .int _ _, .int _ _, .row _ _ _]]⟩)]) (h' := []) trivial rfl rfl rfl ?_
      refine W_false rfl ?_
      refine W_skip ?_
      refine W_seq ?_
      refine W_seq ?_
      refine W_reg he rfl ?_
      refine g0 (sFP rfl rfl rfl) rfl ?_
      refine g0 (sLd rfl rfl) rfl ?_
      refine g0 (sFP rfl rfl rfl) rfl ?_
      refine g0 (sLd rfl rfl) rfl ?_
      obtain ⟨r4, hr4, h⟩ := bnd2 h
      refine gB (sCm (w_laws_eqRef K a0.fR a1.fR _ hr4) ok_laws_eqRef rfl rfl rfl rfl) rfl rfl fun b5 hb5 => ?_
      cases b5 with
      | true =>
        replace h := brT hb5 h
        refine g0 (sNt rfl rfl) rfl ?_
        refine ge ?_
        refine W2 [2, 3, 21] [101, 102] [] (l := [(2, .c (.ptr _ _ _ _)), (3, .c (.ptr _ _ _ _)), (21, .c (.bool false))]) (h := [(101, ⟨_, _, [[.int _ _, .int _ _, .int _ _, .int _ _, .int _ _, .int _ _, .int _ _, .int _ _, .int _ _, .row _ _ _]]⟩), (102, ⟨_, _, [[.int _ _, .int _ _, .int _ _, .int _ _, .int _ _, .int _ _, .int _ _, .int _ _, .int _ _, .row _ _ _]]⟩)]) (h' := []) trivial rfl rfl rfl ?_
        refine W_false rfl ?_
        refine W_skip ?_
        refine W_seq ?_
        refine W_seq ?_
        refine W_reg he rfl ?_
        refine g0 (sFP rfl rfl rfl) rfl ?_
        refine g0 (sLd rfl rfl) rfl ?_
        refine g0 (sFP rfl rfl rfl) rfl ?_
        refine g0 (sLd rfl rfl) rfl ?_
        refine gB (sBi rfl rfl rfl rfl) rfl rfl fun b6 hb6 => ?_
        cases b6 with
        | true =>
          replace h := brT hb6 h
          refine ge ?_
          refine W2 [2, 3, 26] [101, 102] [] (l := [(2, .c (.ptr _ _ _ _)), (3, .c (.ptr _ _ _ _)), (26, .c (.bool true))]) (h := [(101, ⟨_, _, [[.int _ _, .int _ _, .int _ _, .int _ _, .int _ _, .int _ _, .int _ _, .int _ _, .int _ _, .row _ _ _]]⟩), (102, ⟨_, _, [[.int _ _, .int _ _, .int _ _, .int _ _, .int _ _, .int _ _, .int _ _, .int _ _, .int _ _, .row _ _ _]]⟩)]) (h' := []) trivial rfl rfl rfl ?_
          refine W_true rfl ?_
          refine W_seq ?_
          refine W_reg he rfl ?_
          refine g0 (sA rfl [] rfl) rfl ?_
          refine ge ?_
          refine W2 [4] [] [] (l := [(4, .c (.bool false))]) (h := []) (h' := []) trivial rfl rfl rfl ?_
          obtain rfl := Option.some.inj h
          exact W_ret (r0 rfl rfl)
        | false =>
          replace h := brF hb6 h
          refine ge ?_
          refine W2 [2, 3, 26] [101, 102] [] (l := [(2, .c (.ptr _ _ _ _)), (3, .c (.ptr _ _ _ _)), (26, .c (.bool false))]) (h := [(101, ⟨_, _, [[.int _ _, .int _ _, .int _ _, .int _ _, .int _ _, .int _ _, .int _ _, .int _ _, .int _ _, .row _ _ _]]⟩), (102, ⟨_, _, [[.int _ _, .int _ _, .int _ _, .int _ _, .int _ _, .int _ _, .int _ _, .int _ _, .int _ _, .row _ _ _]]⟩)]) (h' := []) trivial rfl rfl rfl ?_
          refine W_false rfl ?_
          refine W_skip ?_
          refine W_seq ?_
          refine W_seq ?_
          refine W_reg he rfl ?_
          refine g0 (sFP rfl rfl rfl) rfl ?_
          refine g0 (sLd rfl rfl) rfl ?_
          refine g0 (sFP rfl rfl rfl) rfl ?_
          refine g0 (sLd rfl rfl) rfl ?_
          refine gB (sBi rfl rfl rfl rfl) rfl rfl fun b7 hb7 => ?_
          cases b7 with
          | true =>
            replace h := brT hb7 h
            refine ge ?_
            refine W2 [2, 3, 31] [101, 102] [] (l := [(2, .c (.ptr _ _ _ _)), (3, .c (.ptr _ _ _ _)), (31, .c (.bool true))]) (h := [(101, ⟨_, _, [[.int _ _, .int _ _, .int _ _, .int _ _, .int _ _, .int _ _, .int _ _, .int _ _, .int _ _, .row _ _ _]]⟩), (102, ⟨_, _, [[.int _ _, .int _ _, .int _ _, .int _ _, .int _ _, .int _ _, .int _ _, .int _ _, .int _ _, .row _ _ _]]⟩)]) (h' := []) trivial rfl rfl rfl ?_
            refine W_true rfl ?_
            refine W_seq ?_
            refine W_reg he rfl ?_
            refine g0 (sA rfl [] rfl) rfl ?_
            refine ge ?_
            refine W2 [4] [] [] (l := [(4, .c (.bool false))]) (h := []) (h' := []) trivial rfl rfl rfl ?_
            obtain rfl := Option.some.inj h
            exact W_ret (r0 rfl rfl)
          | false =>
            replace h := brF hb7 h
            refine ge ?_
            refine W2 [2, 3, 31] [101, 102] [] (l := [(2, .c (.ptr _ _ _ _)), (3, .c (.ptr _ _ _ _)), (31, .c (.bool false))]) (h := [(101, ⟨_, _, [[.int _ _, .int _ _, .int _ _, .int _ _, .int _ _, .int _ _, .int _ _, .int _ _, .int _ _, .row _ _ _]]⟩), (102, ⟨_, _, [[.int _ _, .int _ _, .int _ _, .int _ _, .int _ _, .int _ _, .int _ _, .int _ _, .int _ _, .row _ _ _]]⟩)]) (h' := []) trivial rfl rfl rfl ?_
            refine W_false rfl ?_
            refine W_skip ?_
            refine W_seq ?_
            refine W_seq ?_
            refine W_reg he rfl ?_
            refine g0 (sFP rfl rfl rfl) rfl ?_
            refine g0 (sLd rfl rfl) rfl ?_
            refine g0 (sFP rfl rfl rfl) rfl ?_
            refine g0 (sLd rfl rfl) rfl ?_
            obtain ⟨r8, hr8, h⟩ := bnd2 h
            refine gB (sCm (w_laws_eqByteS K a0.fB a1.fB _ hr8) ok_laws_eqByteS rfl rfl rfl rfl) rfl rfl fun b9 hb9 => ?_
            cases b9 with
            | true =>
              replace h := brT hb9 h
              refine g0 (sNt rfl rfl) rfl ?_
              refine ge ?_
              refine W2 [37] [] [] (l := [(37, .c (.bool false))]) (h := []) (h' := []) trivial rfl rfl rfl ?_
              refine W_false rfl ?_
              refine W_skip ?_
              refine W_seq ?_
              refine W_reg he rfl ?_
              refine g0 (sA rfl [] rfl) rfl ?_
              refine ge ?_
              refine W2 [4] [] [] (l := [(4, .c (.bool true))]) (h := []) (h' := []) trivial rfl rfl rfl ?_
              obtain rfl := Option.some.inj h
              exact W_ret (r0 rfl rfl)
            | false =>
              replace h := brF hb9 h
              refine g0 (sNt rfl rfl) rfl ?_
              refine ge ?_
              refine W2 [37] [] [] (l := [(37, .c (.bool true))]) (h := []) (h' := []) trivial rfl rfl rfl ?_
              refine W_true rfl ?_
              refine W_seq ?_
              refine W_reg he rfl ?_
              refine g0 (sA rfl [] rfl) rfl ?_
              refine ge ?_
              refine W2 [4] [] [] (l := [(4, .c (.bool false))]) (h := []) (h' := []) trivial rfl rfl rfl ?_
              obtain rfl := Option.some.inj h
              exact W_ret (r0 rfl rfl)
      | false =>
        replace h := brF hb5 h
        refine g0 (sNt rfl rfl) rfl ?_
        refine ge ?_
        refine W2 [2, 3, 21] [101, 102] [] (l := [(2, .c (.ptr _ _ _ _)), (3, .c (.ptr _ _ _ _)), (21, .c (.bool true))]) (h := [(101, ⟨_, _, [[.int _ _, .int _ _, .int _ _, .int _ _, .int _ _, .int _ _, .int _ _, .int _ _, .int _ _, .row _ _ _]]⟩), (102, ⟨_, _, [[.int _ _, .int _ _, .int _ _, .int _ _, .int _ _, .int _ _, .int _ _, .int _ _, .int _ _, .row _ _ _]]⟩)]) (h' := []) trivial rfl rfl rfl ?_
        refine W_true rfl ?_
        refine W_seq ?_
        refine W_reg he rfl ?_
        refine g0 (sA rfl [] rfl) rfl ?_
        refine ge ?_
        refine W2 [4] [] [] (l := [(4, .c (.bool false))]) (h := []) (h' := []) trivial rfl rfl rfl ?_
        obtain rfl := Option.some.inj h
        exact W_ret (r0 rfl rfl)
    | false =>
      replace h := brF hb3 h
      refine g0 (sNt rfl rfl) rfl ?_
      refine ge ?_
      refine W2 [2, 3, 15] [101, 102] [] (l := [(2, .c (.ptr _ _ _ _)), (3, .c (.ptr _ _ _ _)), (15, .c (.bool true))]) (h := [(101, ⟨_, _, [[.int _ _, .int _ _, .int _ _, .int _ _, .int _ _, .int _ _, .int _ _, .int _ _, .int _ _, .row _ _ _]]⟩), (102, ⟨_, _, [[.int _ _, .int _ _, .int _ _, .int _ _, .int _ _, .int _ _, .int _ _, .int _ _, .int _ _, .row _ _ _]]⟩)]) (h' := []) trivial rfl rfl rfl ?_
      refine W_true rfl ?_
      refine W_seq ?_
      refine W_reg he rfl ?_
      refine g0 (sA rfl [] rfl) rfl ?_
      refine ge ?_
      refine W2 [4] [] [] (l := [(4, .c (.bool false))]) (h := []) (h' := []) trivial rfl rfl rfl ?_
      obtain rfl := Option.some.inj h
      exact W_ret (r0 rfl rfl)
theorem ok_laws_eqOp : FnOk Try.prog 32 := ⟨_, Try.func32, rfl, rfl⟩


/-! ### loop.example/g00499/laws.FnExactTaxed -/
def m_laws_FnExactTaxed (K : Nat) (a0 : T_laws_Op) : Option (Bool) := ((m_laws_szOp K a0 1048576).bind fun r1 => (bif (decide (r1 < 0)) then some true else ((m_laws_toOp K a0).bind fun r3 => ((m_spec_Taxed K r3).bind fun r4 => ((m_laws_toOp K a0).bind fun r5 => ((m_impl_Taxed K r5).bind fun r6 => (bif (!(r6 == r4)) then some false else ((m_laws_toOp K a0).bind fun r8 => ((m_laws_eqOp K r5 r8).bind fun r9 => (bif r9 then some true else some false))))))))))
set_option maxRecDepth 20000 in
set_option maxHeartbeats 8000000 in
theorem w_laws_FnExactTaxed (K : Nat) (a0 : T_laws_Op) (r : Bool) (h : m_laws_FnExactTaxed K a0 = some r) : Sp Try.prog 7 [.g [.int .i64 a0.fKind, .int .i64 a0.fH.fSlot, .int .i64 a0.fH.fGen, .int .i64 a0.fR.fH.fSlot, .int .i64 a0.fR.fH.fGen, .int .i64 a0.fR.fEp, .int .i64 a0.fR.fNo, .int .i64 a0.fN, .int .i64 a0.fM, .row false 1 (a0.fB.map en5)]] [] (.c (.bool r)) [] := by
  refine Sp.of_W tabOk Try.func7 rfl rfl (Nat.le_of_ble_eq_true rfl) (Nat.le_of_ble_eq_true rfl) fun F hP hN hm => ?_
  obtain ⟨P, N, w0, σ0, β0, m⟩ := F
  obtain rfl : P = Try.prog := hP
  obtain rfl : N = 27 := hN
  obtain rfl : m = 1 := hm
  have he : Env ⟨Try.prog, 27, w0, σ0, β0, 1⟩ tab := ⟨Nat.le_of_ble_eq_true rfl, tabOk⟩
  unfold m_laws_FnExactTaxed at h
  refine W_seq ?_
  refine W_reg he rfl ?_
  refine g0 (sBx rfl [] rfl rfl 101 rfl) rfl ?_
  refine g0 (sA rfl [] rfl) rfl ?_
  refine ge ?_
  refine W2 [1] [101] [] (l := [(1, .c (.ptr _ _ _ _))]) (h := [(101, ⟨_, _, [[.int _ _, .int _ _, .int _ _, .int _ _, .int _ _, .int _ _, .int _ _, .int _ _, .int _ _, .row _ _ _]]⟩)]) (h' := []) trivial rfl rfl rfl ?_
  refine W_seq ?_
  refine W_reg he rfl ?_
  refine g0 (sA rfl [] rfl) rfl ?_
  refine ge ?_
  refine W2 [1, 3] [101] [] (l := [(1, .c (.ptr _ _ _ _)), (3, .c (.int _ _))]) (h := [(101, ⟨_, _, [[.int _ _, .int _ _, .int _ _, .int _ _, .int _ _, .int _ _, .int _ _, .int _ _, .int _ _, .row _ _ _]]⟩)]) (h' := []) trivial rfl rfl rfl ?_
  refine W_seq ?_
  refine W_reg he rfl ?_
  refine g0 (sLd rfl rfl) rfl ?_
  refine g0 (sM rfl [] rfl) rfl ?_
  obtain ⟨r1, hr1, h⟩ := bnd2 h
  refine g0 (sCm (w_laws_szOp K a0 1048576 _ hr1) ok_laws_szOp rfl rfl rfl rfl) rfl ?_
  refine g0 (sA rfl [] rfl) rfl ?_
  refine ge ?_
  refine W2 [1, 3] [101] [] (l := [(1, .c (.ptr _ _ _ _)), (3, .c (.int _ _))]) (h := [(101, ⟨_, _, [[.int _ _, .int _ _, .int _ _, .int _ _, .int _ _, .int _ _, .int _ _, .int _ _, .int _ _, .row _ _ _]]⟩)]) (h' := []) trivial rfl rfl rfl ?_
  refine W_seq ?_
  refine W_seq ?_
  refine W_reg he rfl ?_
  refine g0 (sM rfl [] rfl) rfl ?_
  refine gB (sBi rfl rfl rfl rfl) rfl rfl fun b2 hb2 => ?_
  cases b2 with
  | true =>
    replace h := brT hb2 h
    refine ge ?_
    refine W2 [1, 11] [101] [] (l := [(1, .c (.ptr _ _ _ _)), (11, .c (.bool true))]) (h := [(101, ⟨_, _, [[.int _ _, .int _ _, .int _ _, .int _ _, .int _ _, .int _ _, .int _ _, .int _ _, .int _ _, .row _ _ _]]⟩)]) (h' := []) trivial rfl rfl rfl ?_
    refine W_true rfl ?_
    refine W_seq ?_
    refine W_reg he rfl ?_
    refine g0 (sA rfl [] rfl) rfl ?_
    refine ge ?_
    refine W2 [2] [] [] (l := [(2, .c (.bool true))]) (h := []) (h' := []) trivial rfl rfl rfl ?_
    obtain rfl := Option.some.inj h
    exact W_ret (r0 rfl rfl)
  | false =>
    replace h := brF hb2 h
    refine ge ?_
    refine W2 [1, 11] [101] [] (l := [(1, .c (.ptr _ _ _ _)), (11, .c (.bool false))]) (h := [(101, ⟨_, _, [[.int _ _, .int _ _, .int _ _, .int _ _, .int _ _, .int _ _, .int _ _, .int _ _, .int _ _, .row _ _ _]]⟩)]) (h' := []) trivial rfl rfl rfl ?_
    refine W_false rfl ?_
    refine W_skip ?_
    refine W_seq ?_
    refine W_reg he rfl ?_
    refine g0 (sLd rfl rfl) rfl ?_
    obtain ⟨r3, hr3, h⟩ := bnd2 h
    refine g0 (sCm (w_laws_toOp K a0 _ hr3) ok_laws_toOp rfl rfl rfl rfl) rfl ?_
    obtain ⟨r4, hr4, h⟩ := bnd2 h
    refine g0 (sCm (w_spec_Taxed K r3 _ hr4) ok_spec_Taxed rfl rfl rfl rfl) rfl ?_
    refine g0 (sA rfl [] rfl) rfl ?_
    refine ge ?_
    refine W2 [1, 4] [101] [] (l := [(1, .c (.ptr _ _ _ _)), (4, .c (.bool _))]) (h := [(101, ⟨_, _, [[.int _ _, .int _ _, .int _ _, .int _ _, .int _ _, .int _ _, .int _ _, .int _ _, .int _ _, .row _ _ _]]⟩)]) (h' := []) trivial rfl rfl rfl ?_
    refine W_seq ?_
    refine W_reg he rfl ?_
    refine g0 (sLd rfl rfl) rfl ?_
    obtain ⟨r5, hr5, h⟩ := bnd2 h
    refine g0 (sCm (w_laws_toOp K a0 _ hr5) ok_laws_toOp rfl rfl rfl rfl) rfl ?_
    refine g0 (sAl rfl rfl 102 rfl) rfl ?_
    refine g0 (sSt rfl rfl [] rfl rfl) rfl ?_
    refine ge ?_
    refine W2 [1, 4, 5] [101, 102] [] (l := [(1, .c (.ptr _ _ _ _)), (4, .c (.bool _)), (5, .c (.ptr _ _ _ _))]) (h := [(101, ⟨_, _, [[.int _ _, .int _ _, .int _ _, .int _ _, .int _ _, .int _ _, .int _ _, .int _ _, .int _ _, .row _ _ _]]⟩), (102, ⟨_, _, [[.int _ _, .int _ _, .int _ _, .int _ _, .int _ _, .int _ _, .int _ _, .int _ _, .int _ _, .row _ _ _]]⟩)]) (h' := []) trivial rfl rfl rfl ?_
    refine W_seq ?_
    refine W_reg he rfl ?_
    refine g0 (sLd rfl rfl) rfl ?_
    obtain ⟨r6, hr6, h⟩ := bnd2 h
    refine g0 (sCm (w_impl_Taxed K r5 _ hr6) ok_impl_Taxed rfl rfl rfl rfl) rfl ?_
    refine g0 (sA rfl [] rfl) rfl ?_
    refine ge ?_
    refine W2 [1, 4, 5, 6] [101, 102] [] (l := [(1, .c (.ptr _ _ _ _)), (4, .c (.bool _)), (5, .c (.ptr _ _ _ _)), (6, .c (.bool _))]) (h := [(101, ⟨_, _, [[.int _ _, .int _ _, .int _ _, .int _ _, .int _ _, .int _ _, .int _ _, .int _ _, .int _ _, .row _ _ _]]⟩), (102, ⟨_, _, [[.int _ _, .int _ _, .int _ _, .int _ _, .int _ _, .int _ _, .int _ _, .int _ _, .int _ _, .row _ _ _]]⟩)]) (h' := []) trivial rfl rfl rfl ?_
    refine W_seq ?_
    refine W_seq ?_
    refine W_reg he rfl ?_
    refine g0 (sM rfl [] rfl) rfl ?_
    refine g0 (sM rfl [] rfl) rfl ?_
    refine gB (sBe rfl (.inr rfl) rfl rfl rfl rfl) rfl rfl fun b7 hb7 => ?_
    cases b7 with
    | true =>
      replace h := brT hb7 h
      refine ge ?_
      refine W2 [1, 5, 21] [101, 102] [] (l := [(1, .c (.ptr _ _ _ _)), (5, .c (.ptr _ _ _ _)), (21, .c (.bool true))]) (h := [(101, ⟨_, _, [[.int _ _, .int _ _, .int _ _, .int _ _, .int _ _, .int _ _, .int _ _, .int _ _, .int _ _, .row _ _ _]]⟩), (102, ⟨_, _, [[.int _ _, .int _ _, .int _ _, .int _ _, .int _ _, .int _ _, .int _ _, .int _ _, .int _ _, .row _ _ _]]⟩)]) (h' := []) trivial rfl rfl rfl ?_
      refine W_true rfl ?_
      refine W_seq ?_
      refine W_reg he rfl ?_
      refine g0 (sA rfl [] rfl) rfl ?_
      refine ge ?_
      refine W2 [2] [] [] (l := [(2, .c (.bool false))]) (h := []) (h' := []) trivial rfl rfl rfl ?_
      obtain rfl := Option.some.inj h
      exact W_ret (r0 rfl rfl)
    | false =>
      replace h := brF hb7 h
      refine ge ?_
      refine W2 [1, 5, 21] [101, 102] [] (l := [(1, .c (.ptr _ _ _ _)), (5, .c (.ptr _ _ _ _)), (21, .c (.bool false))]) (h := [(101, ⟨_, _, [[.int _ _, .int _ _, .int _ _, .int _ _, .int _ _, .int _ _, .int _ _, .int _ _, .int _ _, .row _ _ _]]⟩), (102, ⟨_, _, [[.int _ _, .int _ _, .int _ _, .int _ _, .int _ _, .int _ _, .int _ _, .int _ _, .int _ _, .row _ _ _]]⟩)]) (h' := []) trivial rfl rfl rfl ?_
      refine W_false rfl ?_
      refine W_skip ?_
      refine W_seq ?_
      refine W_seq ?_
      refine W_regD he rfl rfl rfl ?_
      refine g0 (sLd rfl rfl) rfl ?_
      refine g0 (sLd rfl rfl) rfl ?_
      obtain ⟨r8, hr8, h⟩ := bnd2 h
      refine g0 (sCm (w_laws_toOp K a0 _ hr8) ok_laws_toOp rfl rfl rfl rfl) rfl ?_
      obtain ⟨r9, hr9, h⟩ := bnd2 h
      refine gB (sCm (w_laws_eqOp K r5 r8 _ hr9) ok_laws_eqOp rfl rfl rfl rfl) rfl rfl fun b10 hb10 => ?_
      cases b10 with
      | true =>
        replace h := brT hb10 h
        refine g0 (sNt rfl rfl) rfl ?_
        refine ge ⟨rfl, ?_⟩
        refine W2 [26] [] [] (l := [(26, .c (.bool false))]) (h := []) (h' := []) trivial rfl rfl rfl ?_
        refine W_false rfl ?_
        refine W_skip ?_
        refine W_seq ?_
        refine W_reg he rfl ?_
        refine g0 (sA rfl [] rfl) rfl ?_
        refine ge ?_
        refine W2 [2] [] [] (l := [(2, .c (.bool true))]) (h := []) (h' := []) trivial rfl rfl rfl ?_
        obtain rfl := Option.some.inj h
        exact W_ret (r0 rfl rfl)
      | false =>
        replace h := brF hb10 h
        refine g0 (sNt rfl rfl) rfl ?_
        refine ge ⟨rfl, ?_⟩
        refine W2 [26] [] [] (l := [(26, .c (.bool true))]) (h := []) (h' := []) trivial rfl rfl rfl ?_
        refine W_true rfl ?_
        refine W_seq ?_
        refine W_reg he rfl ?_
        refine g0 (sA rfl [] rfl) rfl ?_
        refine ge ?_
        refine W2 [2] [] [] (l := [(2, .c (.bool false))]) (h := []) (h' := []) trivial rfl rfl rfl ?_
        obtain rfl := Option.some.inj h
        exact W_ret (r0 rfl rfl)
theorem ok_laws_FnExactTaxed : FnOk Try.prog 7 := ⟨_, Try.func7, rfl, rfl⟩


/-! ### loop.example/g00499/spec.Turns -/
def m_spec_Turns (K : Nat) (a0 : T_impl_Op) : Option (Bool) := (bif (a0.fKind != 3) then some (a0.fKind != 8) else some false)
set_option maxRecDepth 20000 in
set_option maxHeartbeats 8000000 in
theorem w_spec_Turns (K : Nat) (a0 : T_impl_Op) (r : Bool) (h : m_spec_Turns K a0 = some r) : Sp Try.prog 33 [.g [.int .i64 a0.fKind, .int .i64 a0.fH.fSlot, .int .i64 a0.fH.fGen, .int .i64 a0.fR.fH.fSlot, .int .i64 a0.fR.fH.fGen, .int .i64 a0.fR.fEp, .int .i64 a0.fR.fNo, .int .i64 a0.fN, .int .i64 a0.fM, .row false 1 (a0.fB.map en5)]] [] (.c (.bool r)) [] := by
  refine Sp.of_W tabOk Try.func33 rfl rfl (Nat.le_of_ble_eq_true rfl) (Nat.le_of_ble_eq_true rfl) fun F hP hN hm => ?_
  obtain ⟨P, N, w0, σ0, β0, m⟩ := F
  obtain rfl : P = Try.prog := hP
  obtain rfl : N = 11 := hN
  obtain rfl : m = 1 := hm
  have he : Env ⟨Try.prog, 11, w0, σ0, β0, 1⟩ tab := ⟨Nat.le_of_ble_eq_true rfl, tabOk⟩
  unfold m_spec_Turns at h
  refine W_seq ?_
  refine W_reg he rfl ?_
  refine g0 (sBx rfl [] rfl rfl 101 rfl) rfl ?_
  refine g0 (sA rfl [] rfl) rfl ?_
  refine ge ?_
  refine W2 [1] [101] [] (l := [(1, .c (.ptr _ _ _ _))]) (h := [(101, ⟨_, _, [[.int _ _, .int _ _, .int _ _, .int _ _, .int _ _, .int _ _, .int _ _, .int _ _, .int _ _, .row _ _ _]]⟩)]) (h' := []) trivial rfl rfl rfl ?_
  refine W_seq ?_
  refine W_reg he rfl ?_
  refine g0 (sFP rfl rfl rfl) rfl ?_
  refine g0 (sLd rfl rfl) rfl ?_
  refine gB (sBi rfl rfl rfl rfl) rfl rfl fun b1 hb1 => ?_
  cases b1 with
  | true =>
    replace h := brT hb1 h
    refine g0 (sM rfl [] rfl) rfl ?_
    refine q0 (sFP rfl rfl rfl) rfl rfl rfl ?_
    refine q0 (sLd rfl rfl) rfl rfl rfl ?_
    refine q0 (sBi rfl rfl rfl rfl) rfl rfl rfl ?_
    refine g0 (sPk rfl [] rfl rfl) rfl ?_
    refine g0 (sA rfl [] rfl) rfl ?_
    refine ge ?_
    refine W2 [2] [] [] (l := [(2, .c (.bool _))]) (h := []) (h' := []) trivial rfl rfl rfl ?_
    obtain rfl := Option.some.inj h
    exact W_ret (r0 rfl rfl)
  | false =>
    replace h := brF hb1 h
    refine g0 (sM rfl [] rfl) rfl ?_
    refine qP rfl rfl rfl rfl ?_
    refine qP rfl rfl rfl rfl ?_
    refine qP rfl rfl rfl rfl ?_
    refine g0 (sPk rfl [] rfl rfl) rfl ?_
    refine g0 (sA rfl [] rfl) rfl ?_
    refine ge ?_
    refine W2 [2] [] [] (l := [(2, .c (.bool false))]) (h := []) (h' := []) trivial rfl rfl rfl ?_
    obtain rfl := Option.some.inj h
    exact W_ret (r0 rfl rfl)
theorem ok_spec_Turns : FnOk Try.prog 33 := ⟨_, Try.func33, rfl, rfl⟩


/-! ### loop.example/g00499/impl.Turns -/
def m_impl_Turns (K : Nat) (a0 : T_impl_Op) : Option (Bool) := (bif (a0.fKind != 3) then some (a0.fKind != 8) else some false)
set_option maxRecDepth 20000 in
set_option maxHeartbeats 8000000 in
theorem w_impl_Turns (K : Nat) (a0 : T_impl_Op) (r : Bool) (h : m_impl_Turns K a0 = some r) : Sp Try.prog 34 [.g [.int .i64 a0.fKind, .int .i64 a0.fH.fSlot, .int .i64 a0.fH.fGen, .int .i64 a0.fR.fH.fSlot, .int .i64 a0.fR.fH.fGen, .int .i64 a0.fR.fEp, .int .i64 a0.fR.fNo, .int .i64 a0.fN, .int .i64 a0.fM, .row false 1 (a0.fB.map en5)]] [] (.c (.bool r)) [] := by
  refine Sp.of_W tabOk Try.func34 rfl rfl (Nat.le_of_ble_eq_true rfl) (Nat.le_of_ble_eq_true rfl) fun F hP hN hm => ?_
  obtain ⟨P, N, w0, σ0, β0, m⟩ := F
  obtain rfl : P = Try.prog := hP
  obtain rfl : N = 11 := hN
  obtain rfl : m = 1 := hm
  have he : Env ⟨Try.prog, 11, w0, σ0, β0, 1⟩ tab := ⟨Nat.le_of_ble_eq_true rfl, tabOk⟩
  unfold m_impl_Turns at h
  refine W_seq ?_
  refine W_reg he rfl ?_
  refine g0 (sBx rfl [] rfl rfl 101 rfl) rfl ?_
  refine g0 (sA rfl [] rfl) rfl ?_
  refine ge ?_
  refine W2 [1] [101] [] (l := [(1, .c (.ptr _ _ _ _))]) (h := [(101, ⟨_, _, [[.int _ _, .int _ _, .int _ _, .int _ _, .int _ _, .int _ _, .int _ _, .int _ _, .int _ _, .row _ _ _]]⟩)]) (h' := []) trivial rfl rfl rfl ?_
  refine W_seq ?_
  refine W_reg he rfl ?_
  refine g0 (sFP rfl rfl rfl) rfl ?_
  refine g0 (sLd rfl rfl) rfl ?_
  refine gB (sBi rfl rfl rfl rfl) rfl rfl fun b1 hb1 => ?_
  cases b1 with
  | true =>
    replace h := brT hb1 h
    refine g0 (sM rfl [] rfl) rfl ?_
    refine q0 (sFP rfl rfl rfl) rfl rfl rfl ?_
    refine q0 (sLd rfl rfl) rfl rfl rfl ?_
    refine q0 (sBi rfl rfl rfl rfl) rfl rfl rfl ?_
    refine g0 (sPk rfl [] rfl rfl) rfl ?_
    refine g0 (sA rfl [] rfl) rfl ?_
    refine ge ?_
    refine W2 [2] [] [] (l := [(2, .c (.bool _))]) (h := []) (h' := []) trivial rfl rfl rfl ?_
    obtain rfl := Option.some.inj h
    exact W_ret (r0 rfl rfl)
  | false =>
    replace h := brF hb1 h
    refine g0 (sM rfl [] rfl) rfl ?_
    refine qP rfl rfl rfl rfl ?_
    refine qP rfl rfl rfl rfl ?_
    refine qP rfl rfl rfl rfl ?_
    refine g0 (sPk rfl [] rfl rfl) rfl ?_
    refine g0 (sA rfl [] rfl) rfl ?_
    refine ge ?_
    refine W2 [2] [] [] (l := [(2, .c (.bool false))]) (h := []) (h' := []) trivial rfl rfl rfl ?_
    obtain rfl := Option.some.inj h
    exact W_ret (r0 rfl rfl)
theorem ok_impl_Turns : FnOk Try.prog 34 := ⟨_, Try.func34, rfl, rfl⟩


/-! ### loop.example/g00499/laws.szAns -/
def m_laws_szAns (K : Nat) (a0 : T_laws_Ans) (a1 : Int) : Option (Int) := ((m_laws_szByteS K a0.fB a1).bind fun r1 => (bif (decide (r1 < 0)) then some (-1) else some r1))
set_option maxRecDepth 20000 in
set_option maxHeartbeats 8000000 in
theorem w_laws_szAns (K : Nat) (a0 : T_laws_Ans) (a1 : Int) (r : Int) (h : m_laws_szAns K a0 a1 = some r) : Sp Try.prog 35 [.g [.int .i64 a0.fCode, .int .i64 a0.fH.fSlot, .int .i64 a0.fH.fGen, .int .i64 a0.fR.fH.fSlot, .int .i64 a0.fR.fH.fGen, .int .i64 a0.fR.fEp, .int .i64 a0.fR.fNo, .row false 1 (a0.fB.map en5), .int .i64 a0.fWalk, .int .i64 a0.fTax, .int .i64 a0.fDrain], .c (.int .i64 a1)] [] (.c (.int .i64 r)) [] := by
  refine Sp.of_W tabOk Try.func35 rfl rfl (Nat.le_of_ble_eq_true rfl) (Nat.le_of_ble_eq_true rfl) fun F hP hN hm => ?_
  obtain ⟨P, N, w0, σ0, β0, m⟩ := F
  obtain rfl : P = Try.prog := hP
  obtain rfl : N = 12 := hN
  obtain rfl : m = 1 := hm
  have he : Env ⟨Try.prog, 12, w0, σ0, β0, 1⟩ tab := ⟨Nat.le_of_ble_eq_true rfl, tabOk⟩
  unfold m_laws_szAns at h
  refine W_seq ?_
  refine W_reg he rfl ?_
  refine g0 (sBx rfl [] rfl rfl 101 rfl) rfl ?_
  refine g0 (sA rfl [] rfl) rfl ?_
  refine ge ?_
  refine W2 [1, 2] [101] [] (l := [(1, .c (.int _ _)), (2, .c (.ptr _ _ _ _))]) (h := [(101, ⟨_, _, [[.int _ _, .int _ _, .int _ _, .int _ _, .int _ _, .int _ _, .int _ _, .row _ _ _, .int _ _, .int _ _, .int _ _]]⟩)]) (h' := []) trivial rfl rfl rfl ?_
  refine W_seq ?_
  refine W_reg he rfl ?_
  refine g0 (sFP rfl rfl rfl) rfl ?_
  refine g0 (sLd rfl rfl) rfl ?_
  refine g0 (sM rfl [] rfl) rfl ?_
  obtain ⟨r1, hr1, h⟩ := bnd2 h
  refine g0 (sCm (w_laws_szByteS K a0.fB a1 _ hr1) ok_laws_szByteS rfl rfl rfl rfl) rfl ?_
  refine g0 (sA rfl [] rfl) rfl ?_
  refine ge ?_
  refine W2 [1] [] [] (l := [(1, .c (.int _ _))]) (h := []) (h' := []) trivial rfl rfl rfl ?_
  refine W_seq ?_
  refine W_seq ?_
  refine W_reg he rfl ?_
  refine g0 (sM rfl [] rfl) rfl ?_
  refine gB (sBi rfl rfl rfl rfl) rfl rfl fun b2 hb2 => ?_
  cases b2 with
  | true =>
    replace h := brT hb2 h
    refine ge ?_
    refine W2 [1, 10] [] [] (l := [(1, .c (.int _ _)), (10, .c (.bool true))]) (h := []) (h' := []) trivial rfl rfl rfl ?_
    refine W_true rfl ?_
    refine W_seq ?_
    refine W_reg he rfl ?_
    refine g0 (sA rfl [] rfl) rfl ?_
    refine ge ?_
    refine W2 [4] [] [] (l := [(4, .c (.int _ _))]) (h := []) (h' := []) trivial rfl rfl rfl ?_
    obtain rfl := Option.some.inj h
    exact W_ret (r0 rfl rfl)
  | false =>
    replace h := brF hb2 h
    refine ge ?_
    refine W2 [1, 10] [] [] (l := [(1, .c (.int _ _)), (10, .c (.bool false))]) (h := []) (h' := []) trivial rfl rfl rfl ?_
    refine W_false rfl ?_
    refine W_skip ?_
    refine W_seq ?_
    refine W_reg he rfl ?_
    refine g0 (sM rfl [] rfl) rfl ?_
    refine g0 (sA rfl [] rfl) rfl ?_
    refine ge ?_
    refine W2 [4] [] [] (l := [(4, .c (.int _ _))]) (h := []) (h' := []) trivial rfl rfl rfl ?_
    obtain rfl := Option.some.inj h
    exact W_ret (r0 rfl rfl)
theorem ok_laws_szAns : FnOk Try.prog 35 := ⟨_, Try.func35, rfl, rfl⟩


/-! ### loop.example/g00499/spec.Spent -/
def m_spec_Spent (K : Nat) (a0 : T_impl_Ans) : Option (Int) := some (iAdd .i64 (iAdd .i64 a0.fWalk a0.fTax) a0.fDrain)
set_option maxRecDepth 20000 in
set_option maxHeartbeats 8000000 in
theorem w_spec_Spent (K : Nat) (a0 : T_impl_Ans) (r : Int) (h : m_spec_Spent K a0 = some r) : Sp Try.prog 36 [.g [.int .i64 a0.fCode, .int .i64 a0.fH.fSlot, .int .i64 a0.fH.fGen, .int .i64 a0.fR.fH.fSlot, .int .i64 a0.fR.fH.fGen, .int .i64 a0.fR.fEp, .int .i64 a0.fR.fNo, .row false 1 (a0.fB.map en5), .int .i64 a0.fWalk, .int .i64 a0.fTax, .int .i64 a0.fDrain]] [] (.c (.int .i64 r)) [] := by
  refine Sp.of_W tabOk Try.func36 rfl rfl (Nat.le_of_ble_eq_true rfl) (Nat.le_of_ble_eq_true rfl) fun F hP hN hm => ?_
  obtain ⟨P, N, w0, σ0, β0, m⟩ := F
  obtain rfl : P = Try.prog := hP
  obtain rfl : N = 11 := hN
  obtain rfl : m = 1 := hm
  have he : Env ⟨Try.prog, 11, w0, σ0, β0, 1⟩ tab := ⟨Nat.le_of_ble_eq_true rfl, tabOk⟩
  unfold m_spec_Spent at h
  refine W_seq ?_
  refine W_reg he rfl ?_
  refine g0 (sBx rfl [] rfl rfl 101 rfl) rfl ?_
  refine g0 (sA rfl [] rfl) rfl ?_
  refine ge ?_
  refine W2 [1] [101] [] (l := [(1, .c (.ptr _ _ _ _))]) (h := [(101, ⟨_, _, [[.int _ _, .int _ _, .int _ _, .int _ _, .int _ _, .int _ _, .int _ _, .row _ _ _, .int _ _, .int _ _, .int _ _]]⟩)]) (h' := []) trivial rfl rfl rfl ?_
  refine W_seq ?_
  refine W_reg he rfl ?_
  refine g0 (sFP rfl rfl rfl) rfl ?_
  refine g0 (sLd rfl rfl) rfl ?_
  refine g0 (sFP rfl rfl rfl) rfl ?_
  refine g0 (sLd rfl rfl) rfl ?_
  refine g0 (sBi rfl rfl rfl rfl) rfl ?_
  refine g0 (sFP rfl rfl rfl) rfl ?_
  refine g0 (sLd rfl rfl) rfl ?_
  refine g0 (sBi rfl rfl rfl rfl) rfl ?_
  refine g0 (sA rfl [] rfl) rfl ?_
  refine ge ?_
  refine W2 [2] [] [] (l := [(2, .c (.int _ _))]) (h := []) (h' := []) trivial rfl rfl rfl ?_
  obtain rfl := Option.some.inj h
  exact W_ret (r0 rfl rfl)
theorem ok_spec_Spent : FnOk Try.prog 36 := ⟨_, Try.func36, rfl, rfl⟩


/-! ### loop.example/g00499/laws.toAns -/
def m_laws_toAns (K : Nat) (a0 : T_laws_Ans) : Option (T_impl_Ans) := ((m_laws_toHandle K a0.fH).bind fun r1 => ((m_laws_toRef K a0.fR).bind fun r2 => ((m_laws_toByteS K a0.fB).bind fun r3 => some (T_impl_Ans.mk a0.fCode r1 r2 r3 a0.fWalk a0.fTax a0.fDrain))))
set_option maxRecDepth 20000 in
set_option maxHeartbeats 8000000 in
theorem w_laws_toAns (K : Nat) (a0 : T_laws_Ans) (r : T_impl_Ans) (h : m_laws_toAns K a0 = some r) : Sp Try.prog 37 [.g [.int .i64 a0.fCode, .int .i64 a0.fH.fSlot, .int .i64 a0.fH.fGen, .int .i64 a0.fR.fH.fSlot, .int .i64 a0.fR.fH.fGen, .int .i64 a0.fR.fEp, .int .i64 a0.fR.fNo, .row false 1 (a0.fB.map en5), .int .i64 a0.fWalk, .int .i64 a0.fTax, .int .i64 a0.fDrain]] [] (.g [.int .i64 r.fCode, .int .i64 r.fH.fSlot, .int .i64 r.fH.fGen, .int .i64 r.fR.fH.fSlot, .int .i64 r.fR.fH.fGen, .int .i64 r.fR.fEp, .int .i64 r.fR.fNo, .row false 1 (r.fB.map en5), .int .i64 r.fWalk, .int .i64 r.fTax, .int .i64 r.fDrain]) [] := by
  refine Sp.of_W tabOk Try.func37 rfl rfl (Nat.le_of_ble_eq_true rfl) (Nat.le_of_ble_eq_true rfl) fun F hP hN hm => ?_
  obtain ⟨P, N, w0, σ0, β0, m⟩ := F
  obtain rfl : P = Try.prog := hP
  obtain rfl : N = 29 := hN
  obtain rfl : m = 1 := hm
  have he : Env ⟨Try.prog, 29, w0, σ0, β0, 1⟩ tab := ⟨Nat.le_of_ble_eq_true rfl, tabOk⟩
  unfold m_laws_toAns at h
  refine W_seq ?_
  refine W_reg he rfl ?_
  refine g0 (sBx rfl [] rfl rfl 101 rfl) rfl ?_
  refine g0 (sAl rfl rfl 102 rfl) rfl ?_
  refine ge ?_
  refine W2 [1, 2] [101, 102] [] (l := [(1, .c (.ptr _ _ _ _)), (2, .c (.ptr _ _ _ _))]) (h := [(101, ⟨_, _, [[.int _ _, .int _ _, .int _ _, .int _ _, .int _ _, .int _ _, .int _ _, .row _ _ _, .int _ _, .int _ _, .int _ _]]⟩), (102, ⟨_, _, [[.int _ _, .int _ _, .int _ _, .int _ _, .int _ _, .int _ _, .int _ _, .row _ _ _, .int _ _, .int _ _, .int _ _]]⟩)]) (h' := []) trivial rfl rfl rfl ?_
  refine W_seq ?_
  refine W_reg he rfl ?_
  refine g0 (sAl rfl rfl 103 rfl) rfl ?_
  refine ge ?_
  refine W2 [1, 2, 3] [101, 102, 103] [] (l := [(1, .c (.ptr _ _ _ _)), (2, .c (.ptr _ _ _ _)), (3, .c (.ptr _ _ _ _))]) (h := [(101, ⟨_, _, [[.int _ _, .int _ _, .int _ _, .int _ _, .int _ _, .int _ _, .int _ _, .row _ _ _, .int _ _, .int _ _, .int _ _]]⟩), (102, ⟨_, _, [[.int _ _, .int _ _, .int _ _, .int _ _, .int _ _, .int _ _, .int _ _, .row _ _ _, .int _ _, .int _ _, .int _ _]]⟩), (103, ⟨_, _, [[.int _ _, .int _ _, .int _ _, .int _ _, .int _ _, .int _ _, .int _ _, .row _ _ _, .int _ _, .int _ _, .int _ _]]⟩)]) (h' := []) trivial rfl rfl rfl ?_
  refine W_seq ?_
  refine W_reg he rfl ?_
  refine g0 (sFP rfl rfl rfl) rfl ?_
  refine g0 (sLd rfl rfl) rfl ?_
  refine g0 (sFP rfl rfl rfl) rfl ?_
  refine g0 (sSt rfl rfl [] rfl rfl) rfl ?_
  refine ge ?_
  refine W2 [1, 2, 3] [101, 102, 103] [] (l := [(1, .c (.ptr _ _ _ _)), (2, .c (.ptr _ _ _ _)), (3, .c (.ptr _ _ _ _))]) (h := [(101, ⟨_, _, [[.int _ _, .int _ _, .int _ _, .int _ _, .int _ _, .int _ _, .int _ _, .row _ _ _, .int _ _, .int _ _, .int _ _]]⟩), (102, ⟨_, _, [[.int _ _, .int _ _, .int _ _, .int _ _, .int _ _, .int _ _, .int _ _, .row _ _ _, .int _ _, .int _ _, .int _ _]]⟩), (103, ⟨_, _, [[.int _ _, .int _ _, .int _ _, .int _ _, .int _ _, .int _ _, .int _ _, .row _ _ _, .int _ _, .int _ _, .int _ _]]⟩)]) (h' := []) trivial rfl rfl rfl ?_
  refine W_seq ?_
  refine W_reg he rfl ?_
  refine g0 (sFP rfl rfl rfl) rfl ?_
  refine g0 (sLd rfl rfl) rfl ?_
  obtain ⟨r1, hr1, h⟩ := bnd2 h
  refine g0 (sCm (w_laws_toHandle K a0.fH _ hr1) ok_laws_toHandle rfl rfl rfl rfl) rfl ?_
  refine g0 (sFP rfl rfl rfl) rfl ?_
  refine g0 (sSt rfl rfl [] rfl rfl) rfl ?_
  refine ge ?_
  refine W2 [1, 2, 3] [101, 102, 103] [] (l := [(1, .c (.ptr _ _ _ _)), (2, .c (.ptr _ _ _ _)), (3, .c (.ptr _ _ _ _))]) (h := [(101, ⟨_, _, [[.int _ _, .int _ _, .int _ _, .int _ _, .int _ _, .int _ _, .int _ _, .row _ _ _, .int _ _, .int _ _, .int _ _]]⟩), (102, ⟨_, _, [[.int _ _, .int _ _, .int _ _, .int _ _, .int _ _, .int _ _, .int _ _, .row _ _ _, .int _ _, .int _ _, .int _ _]]⟩), (103, ⟨_, _, [[.int _ _, .int _ _, .int _ _, .int _ _, .int _ _, .int _ _, .int _ _, .row _ _ _, .int _ _, .int _ _, .int _ _]]⟩)]) (h' := []) trivial rfl rfl rfl ?_
  refine W_seq ?_
  refine W_reg he rfl ?_
  refine g0 (sFP rfl rfl rfl) rfl ?_
  refine g0 (sLd rfl rfl) rfl ?_
  obtain ⟨r2, hr2, h⟩ := bnd2 h
  refine g0 (sCm (w_laws_toRef K a0.fR _ hr2) ok_laws_toRef rfl rfl rfl rfl) rfl ?_
  refine g0 (sFP rfl rfl rfl) rfl ?_
  refine g0 (sSt rfl rfl [] rfl rfl) rfl ?_
  refine ge ?_
  refine W2 [1, 2, 3] [101, 102, 103] [] (l := [(1, .c (.ptr _ _ _ _)), (2, .c (.ptr _ _ _ _)), (3, .c (.ptr _ _ _ _))]) (h := [(101, ⟨_, _, [[.int _ _, .int _ _, .int _ _, .int _ _, .int _ _, .int _ _, .int _ _, .row _ _ _, .int _ _, .int _ _, .int _ _]]⟩), (102, ⟨_, _, [[.int _ _, .int _ _, .int _ _, .int _ _, .int _ _, .int _ _, .int _ _, .row _ _ _, .int _ _, .int _ _, .int _ _]]⟩), (103, ⟨_, _, [[.int _ _, .int _ _, .int _ _, .int _ _, .int _ _, .int _ _, .int _ _, .row _ _ _, .int _ _, .int _ _, .int _ _]]⟩)]) (h' := []) trivial rfl rfl rfl ?_
  refine W_seq ?_
  refine W_reg he rfl ?_
  refine g0 (sFP rfl rfl rfl) rfl ?_
  refine g0 (sLd rfl rfl) rfl ?_
  obtain ⟨r3, hr3, h⟩ := bnd2 h
  refine g0 (sCm (w_laws_toByteS K a0.fB _ hr3) ok_laws_toByteS rfl rfl rfl rfl) rfl ?_
  refine g0 (sFP rfl rfl rfl) rfl ?_
  refine g0 (sSt rfl rfl [] rfl rfl) rfl ?_
  refine ge ?_
  refine W2 [1, 2, 3] [101, 102, 103] [] (l := [(1, .c (.ptr _ _ _ _)), (2, .c (.ptr _ _ _ _)), (3, .c (.ptr _ _ _ _))]) (h := [(101, ⟨_, _, [[.int _ _, .int _ _, .int _ _, .int _ _, .int _ _, .int _ _, .int _ _, .row _ _ _, .int _ _, .int _ _, .int _ _]]⟩), (102, ⟨_, _, [[.int _ _, .int _ _, .int _ _, .int _ _, .int _ _, .int _ _, .int _ _, .row _ _ _, .int _ _, .int _ _, .int _ _]]⟩), (103, ⟨_, _, [[.int _ _, .int _ _, .int _ _, .int _ _, .int _ _, .int _ _, .int _ _, .row _ _ _, .int _ _, .int _ _, .int _ _]]⟩)]) (h' := []) trivial rfl rfl rfl ?_
  refine W_seq ?_
  refine W_reg he rfl ?_
  refine g0 (sFP rfl rfl rfl) rfl ?_
  refine g0 (sLd rfl rfl) rfl ?_
  refine g0 (sFP rfl rfl rfl) rfl ?_
  refine g0 (sSt rfl rfl [] rfl rfl) rfl ?_
  refine ge ?_
  refine W2 [1, 2, 3] [101, 102, 103] [] (l := [(1, .c (.ptr _ _ _ _)), (2, .c (.ptr _ _ _ _)), (3, .c (.ptr _ _ _ _))]) (h := [(101, ⟨_, _, [[.int _ _, .int _ _, .int _ _, .int _ _, .int _ _, .int _ _, .int _ _, .row _ _ _, .int _ _, .int _ _, .int _ _]]⟩), (102, ⟨_, _, [[.int _ _, .int _ _, .int _ _, .int _ _, .int _ _, .int _ _, .int _ _, .row _ _ _, .int _ _, .int _ _, .int _ _]]⟩), (103, ⟨_, _, [[.int _ _, .int _ _, .int _ _, .int _ _, .int _ _, .int _ _, .int _ _, .row _ _ _, .int _ _, .int _ _, .int _ _]]⟩)]) (h' := []) trivial rfl rfl rfl ?_
  refine W_seq ?_
  refine W_reg he rfl ?_
  refine g0 (sFP rfl rfl rfl) rfl ?_
  refine g0 (sLd rfl rfl) rfl ?_
  refine g0 (sFP rfl rfl rfl) rfl ?_
  refine g0 (sSt rfl rfl [] rfl rfl) rfl ?_
  refine ge ?_
  refine W2 [1, 2, 3] [101, 102, 103] [] (l := [(1, .c (.ptr _ _ _ _)), (2, .c (.ptr _ _ _ _)), (3, .c (.ptr _ _ _ _))]) (h := [(101, ⟨_, _, [[.int _ _, .int _ _, .int _ _, .int _ _, .int _ _, .int _ _, .int _ _, .row _ _ _, .int _ _, .int _ _, .int _ _]]⟩), (102, ⟨_, _, [[.int _ _, .int _ _, .int _ _, .int _ _, .int _ _, .int _ _, .int _ _, .row _ _ _, .int _ _, .int _ _, .int _ _]]⟩), (103, ⟨_, _, [[.int _ _, .int _ _, .int _ _, .int _ _, .int _ _, .int _ _, .int _ _, .row _ _ _, .int _ _, .int _ _, .int _ _]]⟩)]) (h' := []) trivial rfl rfl rfl ?_
  refine W_seq ?_
  refine W_reg he rfl ?_
  refine g0 (sFP rfl rfl rfl) rfl ?_
  refine g0 (sLd rfl rfl) rfl ?_
  refine g0 (sFP rfl rfl rfl) rfl ?_
  refine g0 (sSt rfl rfl [] rfl rfl) rfl ?_
  refine ge ?_
  refine W2 [2, 3] [102, 103] [] (l := [(2, .c (.ptr _ _ _ _)), (3, .c (.ptr _ _ _ _))]) (h := [(102, ⟨_, _, [[.int _ _, .int _ _, .int _ _, .int _ _, .int _ _, .int _ _, .int _ _, .row _ _ _, .int _ _, .int _ _, .int _ _]]⟩), (103, ⟨_, _, [[.int _ _, .int _ _, .int _ _, .int _ _, .int _ _, .int _ _, .int _ _, .row _ _ _, .int _ _, .int _ _, .int _ _]]⟩)]) (h' := []) trivial rfl rfl rfl ?_
  refine W_seq ?_
  refine W_reg he rfl ?_
  refine g0 (sLd rfl rfl) rfl ?_
  refine g0 (sSt rfl rfl [] rfl rfl) rfl ?_
  refine ge ?_
  refine W2 [2] [102] [] (l := [(2, .c (.ptr _ _ _ _))]) (h := [(102, ⟨_, _, [[.int _ _, .int _ _, .int _ _, .int _ _, .int _ _, .int _ _, .int _ _, .row _ _ _, .int _ _, .int _ _, .int _ _]]⟩)]) (h' := []) trivial rfl rfl rfl ?_
  obtain rfl := Option.some.inj h
  exact W_ret (r0 rfl rfl)
theorem ok_laws_toAns : FnOk Try.prog 37 := ⟨_, Try.func37, rfl, rfl⟩


/-! ### loop.example/g00499/impl.Spent -/
def m_impl_Spent (K : Nat) (a0 : T_impl_Ans) : Option (Int) := some (iAdd .i64 (iAdd .i64 a0.fWalk a0.fTax) a0.fDrain)
set_option maxRecDepth 20000 in
set_option maxHeartbeats 8000000 in
theorem w_impl_Spent (K : Nat) (a0 : T_impl_Ans) (r : Int) (h : m_impl_Spent K a0 = some r) : Sp Try.prog 38 [.g [.int .i64 a0.fCode, .int .i64 a0.fH.fSlot, .int .i64 a0.fH.fGen, .int .i64 a0.fR.fH.fSlot, .int .i64 a0.fR.fH.fGen, .int .i64 a0.fR.fEp, .int .i64 a0.fR.fNo, .row false 1 (a0.fB.map en5), .int .i64 a0.fWalk, .int .i64 a0.fTax, .int .i64 a0.fDrain]] [] (.c (.int .i64 r)) [] := by
  refine Sp.of_W tabOk Try.func38 rfl rfl (Nat.le_of_ble_eq_true rfl) (Nat.le_of_ble_eq_true rfl) fun F hP hN hm => ?_
  obtain ⟨P, N, w0, σ0, β0, m⟩ := F
  obtain rfl : P = Try.prog := hP
  obtain rfl : N = 11 := hN
  obtain rfl : m = 1 := hm
  have he : Env ⟨Try.prog, 11, w0, σ0, β0, 1⟩ tab := ⟨Nat.le_of_ble_eq_true rfl, tabOk⟩
  unfold m_impl_Spent at h
  refine W_seq ?_
  refine W_reg he rfl ?_
  refine g0 (sBx rfl [] rfl rfl 101 rfl) rfl ?_
  refine g0 (sA rfl [] rfl) rfl ?_
  refine ge ?_
  refine W2 [1] [101] [] (l := [(1, .c (.ptr _ _ _ _))]) (h := [(101, ⟨_, _, [[.int _ _, .int _ _, .int _ _, .int _ _, .int _ _, .int _ _, .int _ _, .row _ _ _, .int _ _, .int _ _, .int _ _]]⟩)]) (h' := []) trivial rfl rfl rfl ?_
  refine W_seq ?_
  refine W_reg he rfl ?_
  refine g0 (sFP rfl rfl rfl) rfl ?_
  refine g0 (sLd rfl rfl) rfl ?_
  refine g0 (sFP rfl rfl rfl) rfl ?_
  refine g0 (sLd rfl rfl) rfl ?_
  refine g0 (sBi rfl rfl rfl rfl) rfl ?_
  refine g0 (sFP rfl rfl rfl) rfl ?_
  refine g0 (sLd rfl rfl) rfl ?_
  refine g0 (sBi rfl rfl rfl rfl) rfl ?_
  refine g0 (sA rfl [] rfl) rfl ?_
  refine ge ?_
  refine W2 [2] [] [] (l := [(2, .c (.int _ _))]) (h := []) (h' := []) trivial rfl rfl rfl ?_
  obtain rfl := Option.some.inj h
  exact W_ret (r0 rfl rfl)
theorem ok_impl_Spent : FnOk Try.prog 38 := ⟨_, Try.func38, rfl, rfl⟩


/-! ### loop.example/g00499/laws.eqAns -/
def m_laws_eqAns (K : Nat) (a0 : T_impl_Ans) (a1 : T_impl_Ans) : Option (Bool) := (bif (a0.fCode != a1.fCode) then some false else ((m_laws_eqHandle K a0.fH a1.fH).bind fun r2 => (bif r2 then ((m_laws_eqRef K a0.fR a1.fR).bind fun r4 => (bif r4 then ((m_laws_eqByteS K a0.fB a1.fB).bind fun r6 => (bif r6 then (bif (a0.fWalk != a1.fWalk) then some false else (bif (a0.fTax != a1.fTax) then some false else (bif (a0.fDrain != a1.fDrain) then some false else some true))) else some false)) else some false)) else some false)))
set_option maxRecDepth 20000 in
set_option maxHeartbeats 8000000 in
theorem w_laws_eqAns (K : Nat) (a0 : T_impl_Ans) (a1 : T_impl_Ans) (r : Bool) (h : m_laws_eqAns K a0 a1 = some r) : Sp Try.prog 39 [.g [.int .i64 a0.fCode, .int .i64 a0.fH.fSlot, .int .i64 a0.fH.fGen, .int .i64 a0.fR.fH.fSlot, .int .i64 a0.fR.fH.fGen, .int .i64 a0.fR.fEp, .int .i64 a0.fR.fNo, .row false 1 (a0.fB.map en5), .int .i64 a0.fWalk, .int .i64 a0.fTax, .int .i64 a0.fDrain], .g [.int .i64 a1.fCode, .int .i64 a1.fH.fSlot, .int .i64 a1.fH.fGen, .int .i64 a1.fR.fH.fSlot, .int .i64 a1.fR.fH.fGen, .int .i64 a1.fR.fEp, .int .i64 a1.fR.fNo, .row false 1 (a1.fB.map en5), .int .i64 a1.fWalk, .int .i64 a1.fTax, .int .i64 a1.fDrain]] [] (.c (.bool r)) [] := by
  refine Sp.of_W tabOk Try.func39 rfl rfl (Nat.le_of_ble_eq_true rfl) (Nat.le_of_ble_eq_true rfl) fun F hP hN hm => ?_
  obtain ⟨P, N, w0, σ0, β0, m⟩ := F
  obtain rfl : P = Try.prog := hP
  obtain rfl : N = 43 := hN
  obtain rfl : m = 1 := hm
  have he : Env ⟨Try.prog, 43, w0, σ0, β0, 1⟩ tab := ⟨Nat.le_of_ble_eq_true rfl, tabOk⟩
  unfold m_laws_eqAns at h
  refine W_seq ?_
  refine W_reg he rfl ?_
  refine g0 (sBx rfl [] rfl rfl 101 rfl) rfl ?_
  refine g0 (sBx rfl [] rfl rfl 102 rfl) rfl ?_
  refine g0 (sA rfl [] rfl) rfl ?_
  refine ge ?_
  refine W2 [2, 3] [101, 102] [] (l := [(2, .c (.ptr _ _ _ _)), (3, .c (.ptr _ _ _ _))]) (h := [(101, ⟨_, _, [[.int _ _, .int _ _, .int _ _, .int _ _, .int _ _, .int _ _, .int _ _, .row _ _ _, .int _ _, .int _ _, .int _ _]]⟩), (102, ⟨_, _, [[.int _ _, .int _ _, .int _ _, .int _ _, .int _ _, .int _ _, .int _ _, .row _ _ _, .int _ _, .int _ _, .int _ _]]⟩)]) (h' := []) trivial rfl rfl rfl ?_
  refine W_seq ?_
  refine W_seq ?_
  refine W_reg he rfl ?_
  refine g0 (sFP rfl rfl rfl) rfl ?_
  refine g0 (sLd rfl rfl) rfl ?_
  refine g0 (sFP rfl rfl rfl) rfl ?_
  refine g0 (sLd rfl rfl) rfl ?_
  refine gB (sBi rfl rfl rfl rfl) rfl rfl fun b1 hb1 => ?_
  cases b1 with
  | true =>
    replace h := brT hb1 h
    refine ge ?_
    refine W2 [2, 3, 9] [101, 102] [] (l := [(2, .c (.ptr _ _ _ _)), (3, .c (.ptr _ _ _ _)), (9, .c (.bool true))]) (h := [(101, ⟨_, _, [[.int _ _, .int _ _, .int _ _, .int _ _, .int _ _, .int _ _, .int _ _, .row _ _ _, .int _ _, .int _ _, .int _ _]]⟩), (102, ⟨_, _, [[.int _ _, .int _ _, .int _ _, .int _ _, .int _ _, .int _ _, .int _ _, .row _ _ _, .int _ _, .int _ _, .int _ _]]⟩)]) (h' := []) trivial rfl rfl rfl ?_
    refine W_true rfl ?_
    refine W_seq ?_
    refine W_reg he rfl ?_
    refine g0 (sA rfl [] rfl) rfl ?_
    refine ge ?_
    refine W2 [4] [] [] (l := [(4, .c (.bool false))]) (h := []) (h' := []) trivial rfl rfl rfl ?_
    obtain rfl := Option.some.inj h
    exact W_ret (r0 rfl rfl)
  | false =>
    replace h := brF hb1 h
    refine ge ?_
    refine W2 [2, 3, 9] [101, 102] [] (l := [(2, .c (.ptr _ _ _ _)), (3, .c (.ptr _ _ _ _)), (9, .c (.bool false))]) (h := [(101, ⟨_, _, [[.int _ _, .int _ _, .int _ _, .int _ _, .int _ _, .int _ _, .int _ _, .row _ _ _, .int _ _, .int _ _, .int _ _]]⟩), (102, ⟨_, _, [[.int _ _, .int _ _, .int _ _, .int _ _, .int _ _, .int _ _, .int _ _, .row _ _ _, .int _ _, .int _ _, .int _ _]]⟩)]) (h' := []) trivial rfl rfl rfl ?_
    refine W_false rfl ?_
    refine W_skip ?_
    refine W_seq ?_
    refine W_seq ?_
    refine W_reg he rfl ?_
    refine g0 (sFP rfl rfl rfl) rfl ?_
    refine g0 (sLd rfl rfl) rfl ?_
    refine g0 (sFP rfl rfl rfl) rfl ?_
    refine g0 (sLd rfl rfl) rfl ?_
    obtain ⟨r2, hr2, h⟩ := bnd2 h
    refine gB (sCm (w_laws_eqHandle K a0.fH a1.fH _ hr2) ok_laws_eqHandle rfl rfl rfl rfl) rfl rfl fun b3 hb3 => ?_
    cases b3 with
    | true =>
      replace h := brT hb3 h
      refine g0 (sNt rfl rfl) rfl ?_
      refine ge ?_
      refine W2 [2, 3, 15] [101, 102] [] (l := [(2, .c (.ptr _ _ _ _)), (3, .c (.ptr _ _ _ _)), (15, .c (.bool false))]) (h := [(101, ⟨_, _, [[.int _ _, .int _ _, .int _ _, .int _ _, .int _ _, .int _ _, .int _ _, .row _ _ _, .int _ _, .int _ _, .int _ _]]⟩), (102, ⟨_, _, [[.int _ _, .int _ _, .int _ _, .int _ _, .int _ _, .int _ _, .int _ _, .row _ _ _, .int _ _, .int _ _, .int _ _]]⟩)]) (h' := []) trivial rfl rfl rfl ?_
      refine W_false rfl ?_
      refine W_skip ?_
      refine W_seq ?_
      refine W_seq ?_
      refine W_reg he rfl ?_
      refine g0 (sFP rfl rfl rfl) rfl ?_
      refine g0 (sLd rfl rfl) rfl ?_
      refine g0 (sFP rfl rfl rfl) rfl ?_
      refine g0 (sLd rfl rfl) rfl ?_
      obtain ⟨r4, hr4, h⟩ := bnd2 h
      refine gB (sCm (w_laws_eqRef K a0.fR a1.fR _ hr4) ok_laws_eqRef rfl rfl rfl rfl) rfl rfl fun b5 hb5 => ?_
      cases b5 with
      | true =>
        replace h := brT hb5 h
        refine g0 (sNt rfl rfl) rfl ?_
        refine ge ?_
        refine W2 [2, 3, 21] [101, 102] [] (l := [(2, .c (.ptr _ _ _ _)), (3, .c (.ptr _ _ _ _)), (21, .c (.bool false))]) (h := [(101, ⟨_, _, [[.int _ _, .int _ _, .int _ _, .int _ _, .int _ _, .int _ _, .int _ _, .row _ _ _, .int _ _, .int _ _, .int _ _]]⟩), (102, ⟨_, _, [[.int _ _, .int _ _, .int _ _, .int _ _, .int _ _, .int _ _, .int _ _, .row _ _ _, .int _ _, .int _ _, .int _ _]]⟩)]) (h' := []) trivial rfl rfl rfl ?_
        refine W_false rfl ?_
        refine W_skip ?_
        refine W_seq ?_
        refine W_seq ?_
        refine W_reg he rfl ?_
        refine g0 (sFP rfl rfl rfl) rfl ?_
        refine g0 (sLd rfl rfl) rfl ?_
        refine g0 (sFP rfl rfl rfl) rfl ?_
        refine g0 (sLd rfl rfl) rfl ?_
        obtain ⟨r6, hr6, h⟩ := bnd2 h
        refine gB (sCm (w_laws_eqByteS K a0.fB a1.fB _ hr6) ok_laws_eqByteS rfl rfl rfl rfl) rfl rfl fun b7 hb7 => ?_
        cases b7 with
        | true =>
          replace h := brT hb7 h
          refine g0 (sNt rfl rfl) rfl ?_
          refine ge ?_
          refine W2 [2, 3, 27] [101, 102] [] (l := [(2, .c (.ptr _ _ _ _)), (3, .c (.ptr _ _ _ _)), (27, .c (.bool false))]) (h := [(101, ⟨_, _, [[.int _ _, .int _ _, .int _ _, .int _ _, .int _ _, .int _ _, .int _ _, .row _ _ _, .int _ _, .int _ _, .int _ _]]⟩), (102, ⟨_, _, [[.int _ _, .int _ _, .int _ _, .int _ _, .int _ _, .int _ _, .int _ _, .row _ _ _, .int _ _, .int _ _, .int _ _]]⟩)]) (h' := []) trivial rfl rfl rfl ?_
          refine W_false rfl ?_
          refine W_skip ?_
          refine W_seq ?_
          refine W_seq ?_
          refine W_reg he rfl ?_
          refine g0 (sFP rfl rfl rfl) rfl ?_
          refine g0 (sLd rfl rfl) rfl ?_
          refine g0 (sFP rfl rfl rfl) rfl ?_
          refine g0 (sLd rfl rfl) rfl ?_
          refine gB (sBi rfl rfl rfl rfl) rfl rfl fun b8 hb8 => ?_
          cases b8 with
          | true =>
            replace h := brT hb8 h
            refine ge ?_
            refine W2 [2, 3, 32] [101, 102] [] (l := [(2, .c (.ptr _ _ _ _)), (3, .c (.ptr _ _ _ _)), (32, .c (.bool true))]) (h := [(101, ⟨_, _, [[.int _ _, .int _ _, .int _ _, .int _ _, .int _ _, .int _ _, .int _ _, .row _ _ _, .int _ _, .int _ _, .int _ _]]⟩), (102, ⟨_, _, [[.int _ _, .int _ _, .int _ _, .int _ _, .int _ _, .int _ _, .int _ _, .row _ _ _, .int _ _, .int _ _, .int _ _]]⟩)]) (h' := []) trivial rfl rfl rfl ?_
            refine W_true rfl ?_
            refine W_seq ?_
            refine W_reg he rfl ?_
            refine g0 (sA rfl [] rfl) rfl ?_
            refine ge ?_
            refine W2 [4] [] [] (l := [(4, .c (.bool false))]) (h := []) (h' := []) trivial rfl rfl rfl ?_
            obtain rfl := Option.some.inj h
            exact W_ret (r0 rfl rfl)
          | false =>
            replace h := brF hb8 h
            refine ge ?_
            refine W2 [2, 3, 32] [101, 102] [] (l := [(2, .c (.ptr _ _ _ _)), (3, .c (.ptr _ _ _ _)), (32, .c (.bool false))]) (h := [(101, ⟨_, _, [[.int _ _, .int _ _, .int _ _, .int _ _, .int _ _, .int _ _, .int _ _, .row _ _ _, .int _ _, .int _ _, .int _ _]]⟩), (102, ⟨_, _, [[.int _ _, .int _ _, .int _ _, .int _ _, .int _ _, .int _ _, .int _ _, .row _ _ _, .int _ _, .int _ _, .int _ _]]⟩)]) (h' := []) trivial rfl rfl rfl ?_
            refine W_false rfl ?_
            refine W_skip ?_
            refine W_seq ?_
            refine W_seq ?_
            refine W_reg he rfl ?_
            refine g0 (sFP rfl rfl rfl) rfl ?_
            refine g0 (sLd rfl rfl) rfl ?_
            refine g0 (sFP rfl rfl rfl) rfl ?_
            refine g0 (sLd rfl rfl) rfl ?_
            refine gB (sBi rfl rfl rfl rfl) rfl rfl fun b9 hb9 => ?_
            cases b9 with
            | true =>
              replace h := brT hb9 h
              refine ge ?_
              refine W2 [2, 3, 37] [101, 102] [] (l := [(2, .c (.ptr _ _ _ _)), (3, .c (.ptr _ _ _ _)), (37, .c (.bool true))]) (h := [(101, ⟨_, _, [[.int _ _, .int _ _, .int _ _, .int _ _, .int _ _, .int _ _, .int _ _, .row _ _ _, .int _ _, .int _ _, .int _ _]]⟩), (102, ⟨_, _, [[.int _ _, .int _ _, .int _ _, .int _ _, .int _ _, .int _ _, .int _ _, .row _ _ _, .int _ _, .int _ _, .int _ _]]⟩)]) (h' := []) trivial rfl rfl rfl ?_
              refine W_true rfl ?_
              refine W_seq ?_
              refine W_reg he rfl ?_
              refine g0 (sA rfl [] rfl) rfl ?_
              refine ge ?_
              refine W2 [4] [] [] (l := [(4, .c (.bool false))]) (h := []) (h' := []) trivial rfl rfl rfl ?_
              obtain rfl := Option.some.inj h
              exact W_ret (r0 rfl rfl)
            | false =>
              replace h := brF hb9 h
              refine ge ?_
              refine W2 [2, 3, 37] [101, 102] [] (l := [(2, .c (.ptr _ _ _ _)), (3, .c (.ptr _ _ _ _)), (37, .c (.bool false))]) (h := [(101, ⟨_, _, [[.int _ _, .int _ _, .int _ _, .int _ _, .int _ _, .int _ _, .int _ _, .row _ _ _, .int _ _, .int _ _, .int _ _]]⟩), (102, ⟨_, _, [[.int _ _, .int _ _, .int _ _, .int _ _, .int _ _, .int _ _, .int _ _, .row _ _ _, .int _ _, .int _ _, .int _ _]]⟩)]) (h' := []) trivial rfl rfl rfl ?_
              refine W_false rfl ?_
              refine W_skip ?_
              refine W_seq ?_
              refine W_seq ?_
              refine W_reg he rfl ?_
              refine g0 (sFP rfl rfl rfl) rfl ?_
              refine g0 (sLd rfl rfl) rfl ?_
              refine g0 (sFP rfl rfl rfl) rfl ?_
              refine g0 (sLd rfl rfl) rfl ?_
              refine gB (sBi rfl rfl rfl rfl) rfl rfl fun b10 hb10 => ?_
              cases b10 with
              | true =>
                replace h := brT hb10 h
                refine ge ?_
                refine W2 [42] [] [] (l := [(42, .c (.bool true))]) (h := []) (h' := []) trivial rfl rfl rfl ?_
                refine W_true rfl ?_
                refine W_seq ?_
                refine W_reg he rfl ?_
                refine g0 (sA rfl [] rfl) rfl ?_
                refine ge ?_
                refine W2 [4] [] [] (l := [(4, .c (.bool false))]) (h := []) (h' := []) trivial rfl rfl rfl ?_
                obtain rfl := Option.some.inj h
                exact W_ret (r0 rfl rfl)
              | false =>
                replace h := brF hb10 h
                refine ge ?_
                refine W2 [42] [] [] (l := [(42, .c (.bool false))]) (h := []) (h' := []) trivial rfl rfl rfl ?_
                refine W_false rfl ?_
                refine W_skip ?_
                refine W_seq ?_
                refine W_reg he rfl ?_
                refine g0 (sA rfl [] rfl) rfl ?_
                refine ge ?_
                refine W2 [4] [] [] (l := [(4, .c (.bool true))]) (h := []) (h' := []) trivial rfl rfl rfl ?_
                obtain rfl := Option.some.inj h
                exact W_ret (r0 rfl rfl)
        | false =>
          replace h := brF hb7 h
          refine g0 (sNt rfl rfl) rfl ?_
          refine ge ?_
          refine W2 [2, 3, 27] [101, 102] [] (l := [(2, .c (.ptr _ _ _ _)), (3, .c (.ptr _ _ _ _)), (27, .c (.bool true))]) (h := [(101, ⟨_, _, [[.int _ _, .int _ _, .int _ _, .int _ _, .int _ _, .int _ _, .int _ _, .row _ _ _, .int _ _, .int _ _, .int _ _]]⟩), (102, ⟨_, _, [[.int _ _, .int _ _, .int _ _, .int _ _, .int _ _, .int _ _, .int _ _, .row _ _ _, .int _ _, .int _ _, .int _ _]]⟩)]) (h' := []) trivial rfl rfl rfl ?_
          refine W_true rfl ?_
          refine W_seq ?_
          refine W_reg he rfl ?_
          refine g0 (sA rfl [] rfl) rfl ?_
          refine ge ?_
          refine W2 [4] [] [] (l := [(4, .c (.bool false))]) (h := []) (h' := []) trivial rfl rfl rfl ?_
          obtain rfl := Option.some.inj h
          exact W_ret (r0 rfl rfl)
      | false =>
        replace h := brF hb5 h
        refine g0 (sNt rfl rfl) rfl ?_
        refine ge ?_
        refine W2 [2, 3, 21] [101, 102] [] (l := [(2, .c (.ptr _ _ _ _)), (3, .c (.ptr _ _ _ _)), (21, .c (.bool true))]) (h := [(101, ⟨_, _, [[.int _ _, .int _ _, .int _ _, .int _ _, .int _ _, .int _ _, .int _ _, .row _ _ _, .int _ _, .int _ _, .int _ _]]⟩), (102, ⟨_, _, [[.int _ _, .int _ _, .int _ _, .int _ _, .int _ _, .int _ _, .int _ _, .row _ _ _, .int _ _, .int _ _, .int _ _]]⟩)]) (h' := []) trivial rfl rfl rfl ?_
        refine W_true rfl ?_
        refine W_seq ?_
        refine W_reg he rfl ?_
        refine g0 (sA rfl [] rfl) rfl ?_
        refine ge ?_
        refine W2 [4] [] [] (l := [(4, .c (.bool false))]) (h := []) (h' := []) trivial rfl rfl rfl ?_
        obtain rfl := Option.some.inj h
        exact W_ret (r0 rfl rfl)
    | false =>
      replace h := brF hb3 h
      refine g0 (sNt rfl rfl) rfl ?_
      refine ge ?_
      refine W2 [2, 3, 15] [101, 102] [] (l := [(2, .c (.ptr _ _ _ _)), (3, .c (.ptr _ _ _ _)), (15, .c (.bool true))]) (h := [(101, ⟨_, _, [[.int _ _, .int _ _, .int _ _, .int _ _, .int _ _, .int _ _, .int _ _, .row _ _ _, .int _ _, .int _ _, .int _ _]]⟩), (102, ⟨_, _, [[.int _ _, .int _ _, .int _ _, .int _ _, .int _ _, .int _ _, .int _ _, .row _ _ _, .int _ _, .int _ _, .int _ _]]⟩)]) (h' := []) trivial rfl rfl rfl ?_
      refine W_true rfl ?_
      refine W_seq ?_
      refine W_reg he rfl ?_
      refine g0 (sA rfl [] rfl) rfl ?_
      refine ge ?_
      refine W2 [4] [] [] (l := [(4, .c (.bool false))]) (h := []) (h' := []) trivial rfl rfl rfl ?_
      obtain rfl := Option.some.inj h
      exact W_ret (r0 rfl rfl)
theorem ok_laws_eqAns : FnOk Try.prog 39 := ⟨_, Try.func39, rfl, rfl⟩


/-! ### loop.example/g00499/laws.FnExactTurns -/
def m_laws_FnExactTurns (K : Nat) (a0 : T_laws_Op) : Option (Bool) := ((m_laws_szOp K a0 1048576).bind fun r1 => (bif (decide (r1 < 0)) then some true else ((m_laws_toOp K a0).bind fun r3 => ((m_spec_Turns K r3).bind fun r4 => ((m_laws_toOp K a0).bind fun r5 => ((m_impl_Turns K r5).bind fun r6 => (bif (!(r6 == r4)) then some false else ((m_laws_toOp K a0).bind fun r8 => ((m_laws_eqOp K r5 r8).bind fun r9 => (bif r9 then some true else some false))))))))))
set_option maxRecDepth 20000 in
set_option maxHeartbeats 8000000 in
theorem w_laws_FnExactTurns (K : Nat) (a0 : T_laws_Op) (r : Bool) (h : m_laws_FnExactTurns K a0 = some r) : Sp Try.prog 8 [.g [.int .i64 a0.fKind, .int .i64 a0.fH.fSlot, .int .i64 a0.fH.fGen, .int .i64 a0.fR.fH.fSlot, .int .i64 a0.fR.fH.fGen, .int .i64 a0.fR.fEp, .int .i64 a0.fR.fNo, .int .i64 a0.fN, .int .i64 a0.fM, .row false 1 (a0.fB.map en5)]] [] (.c (.bool r)) [] := by
  refine Sp.of_W tabOk Try.func8 rfl rfl (Nat.le_of_ble_eq_true rfl) (Nat.le_of_ble_eq_true rfl) fun F hP hN hm => ?_
  obtain ⟨P, N, w0, σ0, β0, m⟩ := F
  obtain rfl : P = Try.prog := hP
  obtain rfl : N = 27 := hN
  obtain rfl : m = 1 := hm
  have he : Env ⟨Try.prog, 27, w0, σ0, β0, 1⟩ tab := ⟨Nat.le_of_ble_eq_true rfl, tabOk⟩
  unfold m_laws_FnExactTurns at h
  refine W_seq ?_
  refine W_reg he rfl ?_
  refine g0 (sBx rfl [] rfl rfl 101 rfl) rfl ?_
  refine g0 (sA rfl [] rfl) rfl ?_
  refine ge ?_
  refine W2 [1] [101] [] (l := [(1, .c (.ptr _ _ _ _))]) (h := [(101, ⟨_, _, [[.int _ _, .int _ _, .int _ _, .int _ _, .int _ _, .int _ _, .int _ _, .int _ _, .int _ _, .row _ _ _]]⟩)]) (h' := []) trivial rfl rfl rfl ?_
  refine W_seq ?_
  refine W_reg he rfl ?_
  refine g0 (sA rfl [] rfl) rfl ?_
  refine ge ?_
  refine W2 [1, 3] [101] [] (l := [(1, .c (.ptr _ _ _ _)), (3, .c (.int _ _))]) (h := [(101, ⟨_, _, [[.int _ _, .int _ _, .int _ _, .int _ _, .int _ _, .int _ _, .int _ _, .int _ _, .int _ _, .row _ _ _]]⟩)]) (h' := []) trivial rfl rfl rfl ?_
  refine W_seq ?_
  refine W_reg he rfl ?_
  refine g0 (sLd rfl rfl) rfl ?_
  refine g0 (sM rfl [] rfl) rfl ?_
  obtain ⟨r1, hr1, h⟩ := bnd2 h
  refine g0 (sCm (w_laws_szOp K a0 1048576 _ hr1) ok_laws_szOp rfl rfl rfl rfl) rfl ?_
  refine g0 (sA rfl [] rfl) rfl ?_
  refine ge ?_
  refine W2 [1, 3] [101] [] (l := [(1, .c (.ptr _ _ _ _)), (3, .c (.int _ _))]) (h := [(101, ⟨_, _, [[.int _ _, .int _ _, .int _ _, .int _ _, .int _ _, .int _ _, .int _ _, .int _ _, .int _ _, .row _ _ _]]⟩)]) (h' := []) trivial rfl rfl rfl ?_
  refine W_seq ?_
  refine W_seq ?_
  refine W_reg he rfl ?_
  refine g0 (sM rfl [] rfl) rfl ?_
  refine gB (sBi rfl rfl rfl rfl) rfl rfl fun b2 hb2 => ?_
  cases b2 with
  | true =>
    replace h := brT hb2 h
    refine ge ?_
    refine W2 [1, 11] [101] [] (l := [(1, .c (.ptr _ _ _ _)), (11, .c (.bool true))]) (h := [(101, ⟨_, _, [[.int _ _, .int _ _, .int _ _, .int _ _, .int _ _, .int _ _, .int _ _, .int _ _, .int _ _, .row _ _ _]]⟩)]) (h' := []) trivial rfl rfl rfl ?_
    refine W_true rfl ?_
    refine W_seq ?_
    refine W_reg he rfl ?_
    refine g0 (sA rfl [] rfl) rfl ?_
    refine ge ?_
    refine W2 [2] [] [] (l := [(2, .c (.bool true))]) (h := []) (h' := []) trivial rfl rfl rfl ?_
    obtain rfl := Option.some.inj h
    exact W_ret (r0 rfl rfl)
  | false =>
    replace h := brF hb2 h
    refine ge ?_
    refine W2 [1, 11] [101] [] (l := [(1, .c (.ptr _ _ _ _)), (11, .c (.bool false))]) (h := [(101, ⟨_, _, [[.int _ _, .int _ _, .int _ _, .int _ _, .int _ _, .int _ _, .int _ _, .int _ _, .int _ _, .row _ _ _]]⟩)]) (h' := []) trivial rfl rfl rfl ?_
    refine W_false rfl ?_
    refine W_skip ?_
    refine W_seq ?_
    refine W_reg he rfl ?_
    refine g0 (sLd rfl rfl) rfl ?_
    obtain ⟨r3, hr3, h⟩ := bnd2 h
    refine g0 (sCm (w_laws_toOp K a0 _ hr3) ok_laws_toOp rfl rfl rfl rfl) rfl ?_
    obtain ⟨r4, hr4, h⟩ := bnd2 h
    refine g0 (sCm (w_spec_Turns K r3 _ hr4) ok_spec_Turns rfl rfl rfl rfl) rfl ?_
    refine g0 (sA rfl [] rfl) rfl ?_
    refine ge ?_
    refine W2 [1, 4] [101] [] (l := [(1, .c (.ptr _ _ _ _)), (4, .c (.bool _))]) (h := [(101, ⟨_, _, [[.int _ _, .int _ _, .int _ _, .int _ _, .int _ _, .int _ _, .int _ _, .int _ _, .int _ _, .row _ _ _]]⟩)]) (h' := []) trivial rfl rfl rfl ?_
    refine W_seq ?_
    refine W_reg he rfl ?_
    refine g0 (sLd rfl rfl) rfl ?_
    obtain ⟨r5, hr5, h⟩ := bnd2 h
    refine g0 (sCm (w_laws_toOp K a0 _ hr5) ok_laws_toOp rfl rfl rfl rfl) rfl ?_
    refine g0 (sAl rfl rfl 102 rfl) rfl ?_
    refine g0 (sSt rfl rfl [] rfl rfl) rfl ?_
    refine ge ?_
    refine W2 [1, 4, 5] [101, 102] [] (l := [(1, .c (.ptr _ _ _ _)), (4, .c (.bool _)), (5, .c (.ptr _ _ _ _))]) (h := [(101, ⟨_, _, [[.int _ _, .int _ _, .int _ _, .int _ _, .int _ _, .int _ _, .int _ _, .int _ _, .int _ _, .row _ _ _]]⟩), (102, ⟨_, _, [[.int _ _, .int _ _, .int _ _, .int _ _, .int _ _, .int _ _, .int _ _, .int _ _, .int _ _, .row _ _ _]]⟩)]) (h' := []) trivial rfl rfl rfl ?_
    refine W_seq ?_
    refine W_reg he rfl ?_
    refine g0 (sLd rfl rfl) rfl ?_
    obtain ⟨r6, hr6, h⟩ := bnd2 h
    refine g0 (sCm (w_impl_Turns K r5 _ hr6) ok_impl_Turns rfl rfl rfl rfl) rfl ?_
    refine g0 (sA rfl [] rfl) rfl ?_
    refine ge ?_
    refine W2 [1, 4, 5, 6] [101, 102] [] (l := [(1, .c (.ptr _ _ _ _)), (4, .c (.bool _)), (5, .c (.ptr _ _ _ _)), (6, .c (.bool _))]) (h := [(101, ⟨_, _, [[.int _ _, .int _ _, .int _ _, .int _ _, .int _ _, .int _ _, .int _ _, .int _ _, .int _ _, .row _ _ _]]⟩), (102, ⟨_, _, [[.int _ _, .int _ _, .int _ _, .int _ _, .int _ _, .int _ _, .int _ _, .int _ _, .int _ _, .row _ _ _]]⟩)]) (h' := []) trivial rfl rfl rfl ?_
    refine W_seq ?_
    refine W_seq ?_
    refine W_reg he rfl ?_
    refine g0 (sM rfl [] rfl) rfl ?_
    refine g0 (sM rfl [] rfl) rfl ?_
    refine gB (sBe rfl (.inr rfl) rfl rfl rfl rfl) rfl rfl fun b7 hb7 => ?_
    cases b7 with
    | true =>
      replace h := brT hb7 h
      refine ge ?_
      refine W2 [1, 5, 21] [101, 102] [] (l := [(1, .c (.ptr _ _ _ _)), (5, .c (.ptr _ _ _ _)), (21, .c (.bool true))]) (h := [(101, ⟨_, _, [[.int _ _, .int _ _, .int _ _, .int _ _, .int _ _, .int _ _, .int _ _, .int _ _, .int _ _, .row _ _ _]]⟩), (102, ⟨_, _, [[.int _ _, .int _ _, .int _ _, .int _ _, .int _ _, .int _ _, .int _ _, .int _ _, .int _ _, .row _ _ _]]⟩)]) (h' := []) trivial rfl rfl rfl ?_
      refine W_true rfl ?_
      refine W_seq ?_
      refine W_reg he rfl ?_
      refine g0 (sA rfl [] rfl) rfl ?_
      refine ge ?_
      refine W2 [2] [] [] (l := [(2, .c (.bool false))]) (h := []) (h' := []) trivial rfl rfl rfl ?_
      obtain rfl := Option.some.inj h
      exact W_ret (r0 rfl rfl)
    | false =>
      replace h := brF hb7 h
      refine ge ?_
      refine W2 [1, 5, 21] [101, 102] [] (l := [(1, .c (.ptr _ _ _ _)), (5, .c (.ptr _ _ _ _)), (21, .c (.bool false))]) (h := [(101, ⟨_, _, [[.int _ _, .int _ _, .int _ _, .int _ _, .int _ _, .int _ _, .int _ _, .int _ _, .int _ _, .row _ _ _]]⟩), (102, ⟨_, _, [[.int _ _, .int _ _, .int _ _, .int _ _, .int _ _, .int _ _, .int _ _, .int _ _, .int _ _, .row _ _ _]]⟩)]) (h' := []) trivial rfl rfl rfl ?_
      refine W_false rfl ?_
      refine W_skip ?_
      refine W_seq ?_
      refine W_seq ?_
      refine W_regD he rfl rfl rfl ?_
      refine g0 (sLd rfl rfl) rfl ?_
      refine g0 (sLd rfl rfl) rfl ?_
      obtain ⟨r8, hr8, h⟩ := bnd2 h
      refine g0 (sCm (w_laws_toOp K a0 _ hr8) ok_laws_toOp rfl rfl rfl rfl) rfl ?_
      obtain ⟨r9, hr9, h⟩ := bnd2 h
      refine gB (sCm (w_laws_eqOp K r5 r8 _ hr9) ok_laws_eqOp rfl rfl rfl rfl) rfl rfl fun b10 hb10 => ?_
      cases b10 with
      | true =>
        replace h := brT hb10 h
        refine g0 (sNt rfl rfl) rfl ?_
        refine ge ⟨rfl, ?_⟩
        refine W2 [26] [] [] (l := [(26, .c (.bool false))]) (h := []) (h' := []) trivial rfl rfl rfl ?_
        refine W_false rfl ?_
        refine W_skip ?_
        refine W_seq ?_
        refine W_reg he rfl ?_
        refine g0 (sA rfl [] rfl) rfl ?_
        refine ge ?_
        refine W2 [2] [] [] (l := [(2, .c (.bool true))]) (h := []) (h' := []) trivial rfl rfl rfl ?_
        obtain rfl := Option.some.inj h
        exact W_ret (r0 rfl rfl)
      | false =>
        replace h := brF hb10 h
        refine g0 (sNt rfl rfl) rfl ?_
        refine ge ⟨rfl, ?_⟩
        refine W2 [26] [] [] (l := [(26, .c (.bool true))]) (h := []) (h' := []) trivial rfl rfl rfl ?_
        refine W_true rfl ?_
        refine W_seq ?_
        refine W_reg he rfl ?_
        refine g0 (sA rfl [] rfl) rfl ?_
        refine ge ?_
        refine W2 [2] [] [] (l := [(2, .c (.bool false))]) (h := []) (h' := []) trivial rfl rfl rfl ?_
        obtain rfl := Option.some.inj h
        exact W_ret (r0 rfl rfl)
theorem ok_laws_FnExactTurns : FnOk Try.prog 8 := ⟨_, Try.func8, rfl, rfl⟩


/-! ### loop.example/g00499/laws.FnExactSpent -/
def m_laws_FnExactSpent (K : Nat) (a0 : T_laws_Ans) : Option (Bool) := ((m_laws_szAns K a0 1048576).bind fun r1 => (bif (decide (r1 < 0)) then some true else ((m_laws_toAns K a0).bind fun r3 => ((m_spec_Spent K r3).bind fun r4 => ((m_laws_toAns K a0).bind fun r5 => ((m_impl_Spent K r5).bind fun r6 => (bif (r6 != r4) then some false else ((m_laws_toAns K a0).bind fun r8 => ((m_laws_eqAns K r5 r8).bind fun r9 => (bif r9 then some true else some false))))))))))
set_option maxRecDepth 20000 in
set_option maxHeartbeats 8000000 in
theorem w_laws_FnExactSpent (K : Nat) (a0 : T_laws_Ans) (r : Bool) (h : m_laws_FnExactSpent K a0 = some r) : Sp Try.prog 9 [.g [.int .i64 a0.fCode, .int .i64 a0.fH.fSlot, .int .i64 a0.fH.fGen, .int .i64 a0.fR.fH.fSlot, .int .i64 a0.fR.fH.fGen, .int .i64 a0.fR.fEp, .int .i64 a0.fR.fNo, .row false 1 (a0.fB.map en5), .int .i64 a0.fWalk, .int .i64 a0.fTax, .int .i64 a0.fDrain]] [] (.c (.bool r)) [] := by
  refine Sp.of_W tabOk Try.func9 rfl rfl (Nat.le_of_ble_eq_true rfl) (Nat.le_of_ble_eq_true rfl) fun F hP hN hm => ?_
  obtain ⟨P, N, w0, σ0, β0, m⟩ := F
  obtain rfl : P = Try.prog := hP
  obtain rfl : N = 27 := hN
  obtain rfl : m = 1 := hm
  have he : Env ⟨Try.prog, 27, w0, σ0, β0, 1⟩ tab := ⟨Nat.le_of_ble_eq_true rfl, tabOk⟩
  unfold m_laws_FnExactSpent at h
  refine W_seq ?_
  refine W_reg he rfl ?_
  refine g0 (sBx rfl [] rfl rfl 101 rfl) rfl ?_
  refine g0 (sA rfl [] rfl) rfl ?_
  refine ge ?_
  refine W2 [1] [101] [] (l := [(1, .c (.ptr _ _ _ _))]) (h := [(101, ⟨_, _, [[.int _ _, .int _ _, .int _ _, .int _ _, .int _ _, .int _ _, .int _ _, .row _ _ _, .int _ _, .int _ _, .int _ _]]⟩)]) (h' := []) trivial rfl rfl rfl ?_
  refine W_seq ?_
  refine W_reg he rfl ?_
  refine g0 (sA rfl [] rfl) rfl ?_
  refine ge ?_
  refine W2 [1, 3] [101] [] (l := [(1, .c (.ptr _ _ _ _)), (3, .c (.int _ _))]) (h := [(101, ⟨_, _, [[.int _ _, .int _ _, .int _ _, .int _ _, .int _ _, .int _ _, .int _ _, .row _ _ _, .int _ _, .int _ _, .int _ _]]⟩)]) (h' := []) trivial rfl rfl rfl ?_
  refine W_seq ?_
  refine W_reg he rfl ?_
  refine g0 (sLd rfl rfl) rfl ?_
  refine g0 (sM rfl [] rfl) rfl ?_
  obtain ⟨r1, hr1, h⟩ := bnd2 h
  refine g0 (sCm (w_laws_szAns K a0 1048576 _ hr1) ok_laws_szAns rfl rfl rfl rfl) rfl ?_
  refine g0 (sA rfl [] rfl) rfl ?_
  refine ge ?_
  refine W2 [1, 3] [101] [] (l := [(1, .c (.ptr _ _ _ _)), (3, .c (.int _ _))]) (h := [(101, ⟨_, _, [[.int _ _, .int _ _, .int _ _, .int _ _, .int _ _, .int _ _, .int _ _, .row _ _ _, .int _ _, .int _ _, .int _ _]]⟩)]) (h' := []) trivial rfl rfl rfl ?_
  refine W_seq ?_
  refine W_seq ?_
  refine W_reg he rfl ?_
  refine g0 (sM rfl [] rfl) rfl ?_
  refine gB (sBi rfl rfl rfl rfl) rfl rfl fun b2 hb2 => ?_
  cases b2 with
  | true =>
    replace h := brT hb2 h
    refine ge ?_
    refine W2 [1, 11] [101] [] (l := [(1, .c (.ptr _ _ _ _)), (11, .c (.bool true))]) (h := [(101, ⟨_, _, [[.int _ _, .int _ _, .int _ _, .int _ _, .int _ _, .int _ _, .int _ _, .row _ _ _, .int _ _, .int _ _, .int _ _]]⟩)]) (h' := []) trivial rfl rfl rfl ?_
    refine W_true rfl ?_
    refine W_seq ?_
    refine W_reg he rfl ?_
    refine g0 (sA rfl [] rfl) rfl ?_
    refine ge ?_
    refine W2 [2] [] [] (l := [(2, .c (.bool true))]) (h := []) (h' := []) trivial rfl rfl rfl ?_
    obtain rfl := Option.some.inj h
    exact W_ret (r0 rfl rfl)
  | false =>
    replace h := brF hb2 h
    refine ge ?_
    refine W2 [1, 11] [101] [] (l := [(1, .c (.ptr _ _ _ _)), (11, .c (.bool false))]) (h := [(101, ⟨_, _, [[.int _ _, .int _ _, .int _ _, .int _ _, .int _ _, .int _ _, .int _ _, .row _ _ _, .int _ _, .int _ _, .int _ _]]⟩)]) (h' := []) trivial rfl rfl rfl ?_
    refine W_false rfl ?_
    refine W_skip ?_
    refine W_seq ?_
    refine W_reg he rfl ?_
    refine g0 (sLd rfl rfl) rfl ?_
    obtain ⟨r3, hr3, h⟩ := bnd2 h
    refine g0 (sCm (w_laws_toAns K a0 _ hr3) ok_laws_toAns rfl rfl rfl rfl) rfl ?_
    obtain ⟨r4, hr4, h⟩ := bnd2 h
    refine g0 (sCm (w_spec_Spent K r3 _ hr4) ok_spec_Spent rfl rfl rfl rfl) rfl ?_
    refine g0 (sA rfl [] rfl) rfl ?_
    refine ge ?_
    refine W2 [1, 4] [101] [] (l := [(1, .c (.ptr _ _ _ _)), (4, .c (.int _ _))]) (h := [(101, ⟨_, _, [[.int _ _, .int _ _, .int _ _, .int _ _, .int _ _, .int _ _, .int _ _, .row _ _ _, .int _ _, .int _ _, .int _ _]]⟩)]) (h' := []) trivial rfl rfl rfl ?_
    refine W_seq ?_
    refine W_reg he rfl ?_
    refine g0 (sLd rfl rfl) rfl ?_
    obtain ⟨r5, hr5, h⟩ := bnd2 h
    refine g0 (sCm (w_laws_toAns K a0 _ hr5) ok_laws_toAns rfl rfl rfl rfl) rfl ?_
    refine g0 (sAl rfl rfl 102 rfl) rfl ?_
    refine g0 (sSt rfl rfl [] rfl rfl) rfl ?_
    refine ge ?_
    refine W2 [1, 4, 5] [101, 102] [] (l := [(1, .c (.ptr _ _ _ _)), (4, .c (.int _ _)), (5, .c (.ptr _ _ _ _))]) (h := [(101, ⟨_, _, [[.int _ _, .int _ _, .int _ _, .int _ _, .int _ _, .int _ _, .int _ _, .row _ _ _, .int _ _, .int _ _, .int _ _]]⟩), (102, ⟨_, _, [[.int _ _, .int _ _, .int _ _, .int _ _, .int _ _, .int _ _, .int _ _, .row _ _ _, .int _ _, .int _ _, .int _ _]]⟩)]) (h' := []) trivial rfl rfl rfl ?_
    refine W_seq ?_
    refine W_reg he rfl ?_
    refine g0 (sLd rfl rfl) rfl ?_
    obtain ⟨r6, hr6, h⟩ := bnd2 h
    refine g0 (sCm (w_impl_Spent K r5 _ hr6) ok_impl_Spent rfl rfl rfl rfl) rfl ?_
    refine g0 (sA rfl [] rfl) rfl ?_
    refine ge ?_
    refine W2 [1, 4, 5, 6] [101, 102] [] (l := [(1, .c (.ptr _ _ _ _)), (4, .c (.int _ _)), (5, .c (.ptr _ _ _ _)), (6, .c (.int _ _))]) (h := [(101, ⟨_, _, [[.int _ _, .int _ _, .int _ _, .int _ _, .int _ _, .int _ _, .int _ _, .row _ _ _, .int _ _, .int _ _, .int _ _]]⟩), (102, ⟨_, _, [[.int _ _, .int _ _, .int _ _, .int _ _, .int _ _, .int _ _, .int _ _, .row _ _ _, .int _ _, .int _ _, .int _ _]]⟩)]) (h' := []) trivial rfl rfl rfl ?_
    refine W_seq ?_
    refine W_seq ?_
    refine W_reg he rfl ?_
    refine g0 (sM rfl [] rfl) rfl ?_
    refine g0 (sM rfl [] rfl) rfl ?_
    refine gB (sBi rfl rfl rfl rfl) rfl rfl fun b7 hb7 => ?_
    cases b7 with
    | true =>
      replace h := brT hb7 h
      refine ge ?_
      refine W2 [1, 5, 21] [101, 102] [] (l := [(1, .c (.ptr _ _ _ _)), (5, .c (.ptr _ _ _ _)), (21, .c (.bool true))]) (h := [(101, ⟨_, _, [[.int _ _, .int _ _, .int _ _, .int _ _, .int _ _, .int _ _, .int _ _, .row _ _ _, .int _ _, .int _ _, .int _ _]]⟩), (102, ⟨_, _, [[.int _ _, .int _ _, .int _ _, .int _ _, .int _ _, .int _ _, .int _ _, .row _ _ _, .int _ _, .int _ _, .int _ _]]⟩)]) (h' := []) trivial rfl rfl rfl ?_
      refine W_true rfl ?_
      refine W_seq ?_
      refine W_reg he rfl ?_
      refine g0 (sA rfl [] rfl) rfl ?_
      refine ge ?_
      refine W2 [2] [] [] (l := [(2, .c (.bool false))]) (h := []) (h' := []) trivial rfl rfl rfl ?_
      obtain rfl := Option.some.inj h
      exact W_ret (r0 rfl rfl)
    | false =>
      replace h := brF hb7 h
      refine ge ?_
      refine W2 [1, 5, 21] [101, 102] [] (l := [(1, .c (.ptr _ _ _ _)), (5, .c (.ptr _ _ _ _)), (21, .c (.bool false))]) (h := [(101, ⟨_, _, [[.int _ _, .int _ _, .int _ _, .int _ _, .int _ _, .int _ _, .int _ _, .row _ _ _, .int _ _, .int _ _, .int _ _]]⟩), (102, ⟨_, _, [[.int _ _, .int _ _, .int _ _, .int _ _, .int _ _, .int _ _, .int _ _, .row _ _ _, .int _ _, .int _ _, .int _ _]]⟩)]) (h' := []) trivial rfl rfl rfl ?_
      refine W_false rfl ?_
      refine W_skip ?_
      refine W_seq ?_
      refine W_seq ?_
      refine W_regD he rfl rfl rfl ?_
      refine g0 (sLd rfl rfl) rfl ?_
      refine g0 (sLd rfl rfl) rfl ?_
      obtain ⟨r8, hr8, h⟩ := bnd2 h
      refine g0 (sCm (w_laws_toAns K a0 _ hr8) ok_laws_toAns rfl rfl rfl rfl) rfl ?_
      obtain ⟨r9, hr9, h⟩ := bnd2 h
      refine gB (sCm (w_laws_eqAns K r5 r8 _ hr9) ok_laws_eqAns rfl rfl rfl rfl) rfl rfl fun b10 hb10 => ?_
      cases b10 with
      | true =>
        replace h := brT hb10 h
        refine g0 (sNt rfl rfl) rfl ?_
        refine ge ⟨rfl, ?_⟩
        refine W2 [26] [] [] (l := [(26, .c (.bool false))]) (h := []) (h' := []) trivial rfl rfl rfl ?_
        refine W_false rfl ?_
        refine W_skip ?_
        refine W_seq ?_
        refine W_reg he rfl ?_
        refine g0 (sA rfl [] rfl) rfl ?_
        refine ge ?_
        refine W2 [2] [] [] (l := [(2, .c (.bool true))]) (h := []) (h' := []) trivial rfl rfl rfl ?_
        obtain rfl := Option.some.inj h
        exact W_ret (r0 rfl rfl)
      | false =>
        replace h := brF hb10 h
        refine g0 (sNt rfl rfl) rfl ?_
        refine ge ⟨rfl, ?_⟩
        refine W2 [26] [] [] (l := [(26, .c (.bool true))]) (h := []) (h' := []) trivial rfl rfl rfl ?_
        refine W_true rfl ?_
        refine W_seq ?_
        refine W_reg he rfl ?_
        refine g0 (sA rfl [] rfl) rfl ?_
        refine ge ?_
        refine W2 [2] [] [] (l := [(2, .c (.bool false))]) (h := []) (h' := []) trivial rfl rfl rfl ?_
        obtain rfl := Option.some.inj h
        exact W_ret (r0 rfl rfl)
theorem ok_laws_FnExactSpent : FnOk Try.prog 9 := ⟨_, Try.func9, rfl, rfl⟩


def Wf5 (x : Int) : Prop := (Lit.int .u8 x).wf = true
def Wf3 (x : Int) : Prop := (Lit.int .i64 x).wf = true
def Wf25 (x : T_impl_Conf) : Prop := Wf3 x.fChunks ∧ Wf3 x.fSize ∧ Wf3 x.fSlots ∧ Wf3 x.fTax ∧ Wf3 x.fSlice ∧ Wf3 x.fGens
def Wf23 (x : T_laws_Conf) : Prop := Wf3 x.fChunks ∧ Wf3 x.fSize ∧ Wf3 x.fSlots ∧ Wf3 x.fTax ∧ Wf3 x.fSlice ∧ Wf3 x.fGens
def Wf39 (x : T_laws_Handle) : Prop := Wf3 x.fSlot ∧ Wf3 x.fGen
def Wf41 (x : T_laws_Ref) : Prop := Wf39 x.fH ∧ Wf3 x.fEp ∧ Wf3 x.fNo
def Wf30 (x : List Int) : Prop := (∀ a ∈ x, Wf5 a) ∧ x.length * 1 ≤ reachBytes ∧ x.length ≤ maxLen
def Wf43 (x : T_laws_Op) : Prop := Wf3 x.fKind ∧ Wf39 x.fH ∧ Wf41 x.fR ∧ Wf3 x.fN ∧ Wf3 x.fM ∧ Wf30 x.fB
def Wf46 (x : T_impl_Handle) : Prop := Wf3 x.fSlot ∧ Wf3 x.fGen
def Wf48 (x : T_impl_Ref) : Prop := Wf46 x.fH ∧ Wf3 x.fEp ∧ Wf3 x.fNo
def Wf50 (x : T_impl_Op) : Prop := Wf3 x.fKind ∧ Wf46 x.fH ∧ Wf48 x.fR ∧ Wf3 x.fN ∧ Wf3 x.fM ∧ Wf30 x.fB
def Wf55 (x : T_laws_Ans) : Prop := Wf3 x.fCode ∧ Wf39 x.fH ∧ Wf41 x.fR ∧ Wf30 x.fB ∧ Wf3 x.fWalk ∧ Wf3 x.fTax ∧ Wf3 x.fDrain
def Wf59 (x : T_impl_Ans) : Prop := Wf3 x.fCode ∧ Wf46 x.fH ∧ Wf48 x.fR ∧ Wf30 x.fB ∧ Wf3 x.fWalk ∧ Wf3 x.fTax ∧ Wf3 x.fDrain
theorem lf5 {v : V} (h : Lf tab 5 v) : ∃ a, v = .int .u8 a ∧ Wf5 a := lf_int h rfl rfl
theorem ro5 (x : List V) (hl : x.length = 1) (h : ∀ (i : Nat) l v, ([5] : List Nat)[i]? = some l → x[i]? = some v → Lf tab l v) : ∃ a, x = en5 a ∧ Wf5 a := by
  match x, hl with
  | [v0], _ =>
    obtain ⟨x0, rfl, w0⟩ := lf5 (h 0 _ _ rfl rfl)
    exact ⟨x0, rfl, w0⟩
theorem ta5 {x : A} (h : TA tab 5 x) : ∃ a, x = .c (.int .u8 a) ∧ Wf5 a := let ⟨v, e, h1⟩ := ta_one h rfl rfl; let ⟨a, e2, w⟩ := lf5 h1; ⟨a, by rw [e, e2], w⟩
theorem lf3 {v : V} (h : Lf tab 3 v) : ∃ a, v = .int .i64 a ∧ Wf3 a := lf_int h rfl rfl
theorem ro3 (x : List V) (hl : x.length = 1) (h : ∀ (i : Nat) l v, ([3] : List Nat)[i]? = some l → x[i]? = some v → Lf tab l v) : ∃ a, x = en3 a ∧ Wf3 a := by
  match x, hl with
  | [v0], _ =>
    obtain ⟨x0, rfl, w0⟩ := lf3 (h 0 _ _ rfl rfl)
    exact ⟨x0, rfl, w0⟩
theorem ta3 {x : A} (h : TA tab 3 x) : ∃ a, x = .c (.int .i64 a) ∧ Wf3 a := let ⟨v, e, h1⟩ := ta_one h rfl rfl; let ⟨a, e2, w⟩ := lf3 h1; ⟨a, by rw [e, e2], w⟩
theorem ro25 (x : List V) (hl : x.length = 6) (h : ∀ (i : Nat) l v, ([3, 3, 3, 3, 3, 3] : List Nat)[i]? = some l → x[i]? = some v → Lf tab l v) : ∃ a, x = en25 a ∧ Wf25 a := by
  match x, hl with
  | [v0, v1, v2, v3, v4, v5], _ =>
    obtain ⟨x0, rfl, w0⟩ := lf3 (h 0 _ _ rfl rfl)
    obtain ⟨x1, rfl, w1⟩ := lf3 (h 1 _ _ rfl rfl)
    obtain ⟨x2, rfl, w2⟩ := lf3 (h 2 _ _ rfl rfl)
    obtain ⟨x3, rfl, w3⟩ := lf3 (h 3 _ _ rfl rfl)
    obtain ⟨x4, rfl, w4⟩ := lf3 (h 4 _ _ rfl rfl)
    obtain ⟨x5, rfl, w5⟩ := lf3 (h 5 _ _ rfl rfl)
    exact ⟨(T_impl_Conf.mk x0 x1 x2 x3 x4 x5), rfl, ⟨w0, w1, w2, w3, w4, w5⟩⟩
theorem ta25 {x : A} (h : TA tab 25 x) : ∃ a, x = .g [.int .i64 a.fChunks, .int .i64 a.fSize, .int .i64 a.fSlots, .int .i64 a.fTax, .int .i64 a.fSlice, .int .i64 a.fGens] ∧ Wf25 a := let ⟨vs, e, h1, h2⟩ := ta_agg h rfl rfl rfl; let ⟨a, e2, w⟩ := ro25 vs h1 h2; ⟨a, by rw [e, e2]; rfl, w⟩
theorem ro23 (x : List V) (hl : x.length = 6) (h : ∀ (i : Nat) l v, ([3, 3, 3, 3, 3, 3] : List Nat)[i]? = some l → x[i]? = some v → Lf tab l v) : ∃ a, x = en23 a ∧ Wf23 a := by
  match x, hl with
  | [v0, v1, v2, v3, v4, v5], _ =>
    obtain ⟨x0, rfl, w0⟩ := lf3 (h 0 _ _ rfl rfl)
    obtain ⟨x1, rfl, w1⟩ := lf3 (h 1 _ _ rfl rfl)
    obtain ⟨x2, rfl, w2⟩ := lf3 (h 2 _ _ rfl rfl)
    obtain ⟨x3, rfl, w3⟩ := lf3 (h 3 _ _ rfl rfl)
    obtain ⟨x4, rfl, w4⟩ := lf3 (h 4 _ _ rfl rfl)
    obtain ⟨x5, rfl, w5⟩ := lf3 (h 5 _ _ rfl rfl)
    exact ⟨(T_laws_Conf.mk x0 x1 x2 x3 x4 x5), rfl, ⟨w0, w1, w2, w3, w4, w5⟩⟩
theorem ta23 {x : A} (h : TA tab 23 x) : ∃ a, x = .g [.int .i64 a.fChunks, .int .i64 a.fSize, .int .i64 a.fSlots, .int .i64 a.fTax, .int .i64 a.fSlice, .int .i64 a.fGens] ∧ Wf23 a := let ⟨vs, e, h1, h2⟩ := ta_agg h rfl rfl rfl; let ⟨a, e2, w⟩ := ro23 vs h1 h2; ⟨a, by rw [e, e2]; rfl, w⟩
theorem ro39 (x : List V) (hl : x.length = 2) (h : ∀ (i : Nat) l v, ([3, 3] : List Nat)[i]? = some l → x[i]? = some v → Lf tab l v) : ∃ a, x = en39 a ∧ Wf39 a := by
  match x, hl with
  | [v0, v1], _ =>
    obtain ⟨x0, rfl, w0⟩ := lf3 (h 0 _ _ rfl rfl)
    obtain ⟨x1, rfl, w1⟩ := lf3 (h 1 _ _ rfl rfl)
    exact ⟨(T_laws_Handle.mk x0 x1), rfl, ⟨w0, w1⟩⟩
theorem ta39 {x : A} (h : TA tab 39 x) : ∃ a, x = .g [.int .i64 a.fSlot, .int .i64 a.fGen] ∧ Wf39 a := let ⟨vs, e, h1, h2⟩ := ta_agg h rfl rfl rfl; let ⟨a, e2, w⟩ := ro39 vs h1 h2; ⟨a, by rw [e, e2]; rfl, w⟩
theorem ro41 (x : List V) (hl : x.length = 4) (h : ∀ (i : Nat) l v, ([3, 3, 3, 3] : List Nat)[i]? = some l → x[i]? = some v → Lf tab l v) : ∃ a, x = en41 a ∧ Wf41 a := by
  match x, hl with
  | [v0, v1, v2, v3], _ =>
    obtain ⟨x0, rfl, w0⟩ := lf3 (h 0 _ _ rfl rfl)
    obtain ⟨x1, rfl, w1⟩ := lf3 (h 1 _ _ rfl rfl)
    obtain ⟨x2, rfl, w2⟩ := lf3 (h 2 _ _ rfl rfl)
    obtain ⟨x3, rfl, w3⟩ := lf3 (h 3 _ _ rfl rfl)
    exact ⟨(T_laws_Ref.mk (T_laws_Handle.mk x0 x1) x2 x3), rfl, ⟨⟨w0, w1⟩, w2, w3⟩⟩
theorem ta41 {x : A} (h : TA tab 41 x) : ∃ a, x = .g [.int .i64 a.fH.fSlot, .int .i64 a.fH.fGen, .int .i64 a.fEp, .int .i64 a.fNo] ∧ Wf41 a := let ⟨vs, e, h1, h2⟩ := ta_agg h rfl rfl rfl; let ⟨a, e2, w⟩ := ro41 vs h1 h2; ⟨a, by rw [e, e2]; rfl, w⟩
theorem lf30 {v : V} (h : Lf tab 30 v) : ∃ a, v = .row false 1 (a.map en5) ∧ Wf30 a := let ⟨l, e, h1, h2, h3⟩ := lf_row h rfl rfl rfl rfl ro5; ⟨l, e, h1, h2, h3⟩
theorem ro30 (x : List V) (hl : x.length = 1) (h : ∀ (i : Nat) l v, ([30] : List Nat)[i]? = some l → x[i]? = some v → Lf tab l v) : ∃ a, x = en30 a ∧ Wf30 a := by
  match x, hl with
  | [v0], _ =>
    obtain ⟨x0, rfl, w0⟩ := lf30 (h 0 _ _ rfl rfl)
    exact ⟨x0, rfl, w0⟩
theorem ta30 {x : A} (h : TA tab 30 x) : ∃ a, x = .c (.row false 1 (a.map en5)) ∧ Wf30 a := let ⟨v, e, h1⟩ := ta_one h rfl rfl; let ⟨a, e2, w⟩ := lf30 h1; ⟨a, by rw [e, e2], w⟩
theorem ro43 (x : List V) (hl : x.length = 10) (h : ∀ (i : Nat) l v, ([3, 3, 3, 3, 3, 3, 3, 3, 3, 30] : List Nat)[i]? = some l → x[i]? = some v → Lf tab l v) : ∃ a, x = en43 a ∧ Wf43 a := by
  match x, hl with
  | [v0, v1, v2, v3, v4, v5, v6, v7, v8, v9], _ =>
    obtain ⟨x0, rfl, w0⟩ := lf3 (h 0 _ _ rfl rfl)
    obtain ⟨x1, rfl, w1⟩ := lf3 (h 1 _ _ rfl rfl)
    obtain ⟨x2, rfl, w2⟩ := lf3 (h 2 _ _ rfl rfl)
    obtain ⟨x3, rfl, w3⟩ := lf3 (h 3 _ _ rfl rfl)
    obtain ⟨x4, rfl, w4⟩ := lf3 (h 4 _ _ rfl rfl)
    obtain ⟨x5, rfl, w5⟩ := lf3 (h 5 _ _ rfl rfl)
    obtain ⟨x6, rfl, w6⟩ := lf3 (h 6 _ _ rfl rfl)
    obtain ⟨x7, rfl, w7⟩ := lf3 (h 7 _ _ rfl rfl)
    obtain ⟨x8, rfl, w8⟩ := lf3 (h 8 _ _ rfl rfl)
    obtain ⟨x9, rfl, w9⟩ := lf30 (h 9 _ _ rfl rfl)
    exact ⟨(T_laws_Op.mk x0 (T_laws_Handle.mk x1 x2) (T_laws_Ref.mk (T_laws_Handle.mk x3 x4) x5 x6) x7 x8 x9), rfl, ⟨w0, ⟨w1, w2⟩, ⟨⟨w3, w4⟩, w5, w6⟩, w7, w8, w9⟩⟩
theorem ta43 {x : A} (h : TA tab 43 x) : ∃ a, x = .g [.int .i64 a.fKind, .int .i64 a.fH.fSlot, .int .i64 a.fH.fGen, .int .i64 a.fR.fH.fSlot, .int .i64 a.fR.fH.fGen, .int .i64 a.fR.fEp, .int .i64 a.fR.fNo, .int .i64 a.fN, .int .i64 a.fM, .row false 1 (a.fB.map en5)] ∧ Wf43 a := let ⟨vs, e, h1, h2⟩ := ta_agg h rfl rfl rfl; let ⟨a, e2, w⟩ := ro43 vs h1 h2; ⟨a, by rw [e, e2]; rfl, w⟩
theorem ro46 (x : List V) (hl : x.length = 2) (h : ∀ (i : Nat) l v, ([3, 3] : List Nat)[i]? = some l → x[i]? = some v → Lf tab l v) : ∃ a, x = en46 a ∧ Wf46 a := by
  match x, hl with
  | [v0, v1], _ =>
    obtain ⟨x0, rfl, w0⟩ := lf3 (h 0 _ _ rfl rfl)
    obtain ⟨x1, rfl, w1⟩ := lf3 (h 1 _ _ rfl rfl)
    exact ⟨(T_impl_Handle.mk x0 x1), rfl, ⟨w0, w1⟩⟩
theorem ta46 {x : A} (h : TA tab 46 x) : ∃ a, x = .g [.int .i64 a.fSlot, .int .i64 a.fGen] ∧ Wf46 a := let ⟨vs, e, h1, h2⟩ := ta_agg h rfl rfl rfl; let ⟨a, e2, w⟩ := ro46 vs h1 h2; ⟨a, by rw [e, e2]; rfl, w⟩
theorem ro48 (x : List V) (hl : x.length = 4) (h : ∀ (i : Nat) l v, ([3, 3, 3, 3] : List Nat)[i]? = some l → x[i]? = some v → Lf tab l v) : ∃ a, x = en48 a ∧ Wf48 a := by
  match x, hl with
  | [v0, v1, v2, v3], _ =>
    obtain ⟨x0, rfl, w0⟩ := lf3 (h 0 _ _ rfl rfl)
    obtain ⟨x1, rfl, w1⟩ := lf3 (h 1 _ _ rfl rfl)
    obtain ⟨x2, rfl, w2⟩ := lf3 (h 2 _ _ rfl rfl)
    obtain ⟨x3, rfl, w3⟩ := lf3 (h 3 _ _ rfl rfl)
    exact ⟨(T_impl_Ref.mk (T_impl_Handle.mk x0 x1) x2 x3), rfl, ⟨⟨w0, w1⟩, w2, w3⟩⟩
theorem ta48 {x : A} (h : TA tab 48 x) : ∃ a, x = .g [.int .i64 a.fH.fSlot, .int .i64 a.fH.fGen, .int .i64 a.fEp, .int .i64 a.fNo] ∧ Wf48 a := let ⟨vs, e, h1, h2⟩ := ta_agg h rfl rfl rfl; let ⟨a, e2, w⟩ := ro48 vs h1 h2; ⟨a, by rw [e, e2]; rfl, w⟩
theorem ro50 (x : List V) (hl : x.length = 10) (h : ∀ (i : Nat) l v, ([3, 3, 3, 3, 3, 3, 3, 3, 3, 30] : List Nat)[i]? = some l → x[i]? = some v → Lf tab l v) : ∃ a, x = en50 a ∧ Wf50 a := by
  match x, hl with
  | [v0, v1, v2, v3, v4, v5, v6, v7, v8, v9], _ =>
    obtain ⟨x0, rfl, w0⟩ := lf3 (h 0 _ _ rfl rfl)
    obtain ⟨x1, rfl, w1⟩ := lf3 (h 1 _ _ rfl rfl)
    obtain ⟨x2, rfl, w2⟩ := lf3 (h 2 _ _ rfl rfl)
    obtain ⟨x3, rfl, w3⟩ := lf3 (h 3 _ _ rfl rfl)
    obtain ⟨x4, rfl, w4⟩ := lf3 (h 4 _ _ rfl rfl)
    obtain ⟨x5, rfl, w5⟩ := lf3 (h 5 _ _ rfl rfl)
    obtain ⟨x6, rfl, w6⟩ := lf3 (h 6 _ _ rfl rfl)
    obtain ⟨x7, rfl, w7⟩ := lf3 (h 7 _ _ rfl rfl)
    obtain ⟨x8, rfl, w8⟩ := lf3 (h 8 _ _ rfl rfl)
    obtain ⟨x9, rfl, w9⟩ := lf30 (h 9 _ _ rfl rfl)
    exact ⟨(T_impl_Op.mk x0 (T_impl_Handle.mk x1 x2) (T_impl_Ref.mk (T_impl_Handle.mk x3 x4) x5 x6) x7 x8 x9), rfl, ⟨w0, ⟨w1, w2⟩, ⟨⟨w3, w4⟩, w5, w6⟩, w7, w8, w9⟩⟩
theorem ta50 {x : A} (h : TA tab 50 x) : ∃ a, x = .g [.int .i64 a.fKind, .int .i64 a.fH.fSlot, .int .i64 a.fH.fGen, .int .i64 a.fR.fH.fSlot, .int .i64 a.fR.fH.fGen, .int .i64 a.fR.fEp, .int .i64 a.fR.fNo, .int .i64 a.fN, .int .i64 a.fM, .row false 1 (a.fB.map en5)] ∧ Wf50 a := let ⟨vs, e, h1, h2⟩ := ta_agg h rfl rfl rfl; let ⟨a, e2, w⟩ := ro50 vs h1 h2; ⟨a, by rw [e, e2]; rfl, w⟩
theorem ro55 (x : List V) (hl : x.length = 11) (h : ∀ (i : Nat) l v, ([3, 3, 3, 3, 3, 3, 3, 30, 3, 3, 3] : List Nat)[i]? = some l → x[i]? = some v → Lf tab l v) : ∃ a, x = en55 a ∧ Wf55 a := by
  match x, hl with
  | [v0, v1, v2, v3, v4, v5, v6, v7, v8, v9, v10], _ =>
    obtain ⟨x0, rfl, w0⟩ := lf3 (h 0 _ _ rfl rfl)
    obtain ⟨x1, rfl, w1⟩ := lf3 (h 1 _ _ rfl rfl)
    obtain ⟨x2, rfl, w2⟩ := lf3 (h 2 _ _ rfl rfl)
    obtain ⟨x3, rfl, w3⟩ := lf3 (h 3 _ _ rfl rfl)
    obtain ⟨x4, rfl, w4⟩ := lf3 (h 4 _ _ rfl rfl)
    obtain ⟨x5, rfl, w5⟩ := lf3 (h 5 _ _ rfl rfl)
    obtain ⟨x6, rfl, w6⟩ := lf3 (h 6 _ _ rfl rfl)
    obtain ⟨x7, rfl, w7⟩ := lf30 (h 7 _ _ rfl rfl)
    obtain ⟨x8, rfl, w8⟩ := lf3 (h 8 _ _ rfl rfl)
    obtain ⟨x9, rfl, w9⟩ := lf3 (h 9 _ _ rfl rfl)
    obtain ⟨x10, rfl, w10⟩ := lf3 (h 10 _ _ rfl rfl)
    exact ⟨(T_laws_Ans.mk x0 (T_laws_Handle.mk x1 x2) (T_laws_Ref.mk (T_laws_Handle.mk x3 x4) x5 x6) x7 x8 x9 x10), rfl, ⟨w0, ⟨w1, w2⟩, ⟨⟨w3, w4⟩, w5, w6⟩, w7, w8, w9, w10⟩⟩
theorem ta55 {x : A} (h : TA tab 55 x) : ∃ a, x = .g [.int .i64 a.fCode, .int .i64 a.fH.fSlot, .int .i64 a.fH.fGen, .int .i64 a.fR.fH.fSlot, .int .i64 a.fR.fH.fGen, .int .i64 a.fR.fEp, .int .i64 a.fR.fNo, .row false 1 (a.fB.map en5), .int .i64 a.fWalk, .int .i64 a.fTax, .int .i64 a.fDrain] ∧ Wf55 a := let ⟨vs, e, h1, h2⟩ := ta_agg h rfl rfl rfl; let ⟨a, e2, w⟩ := ro55 vs h1 h2; ⟨a, by rw [e, e2]; rfl, w⟩
theorem ro59 (x : List V) (hl : x.length = 11) (h : ∀ (i : Nat) l v, ([3, 3, 3, 3, 3, 3, 3, 30, 3, 3, 3] : List Nat)[i]? = some l → x[i]? = some v → Lf tab l v) : ∃ a, x = en59 a ∧ Wf59 a := by
  match x, hl with
  | [v0, v1, v2, v3, v4, v5, v6, v7, v8, v9, v10], _ =>
    obtain ⟨x0, rfl, w0⟩ := lf3 (h 0 _ _ rfl rfl)
    obtain ⟨x1, rfl, w1⟩ := lf3 (h 1 _ _ rfl rfl)
    obtain ⟨x2, rfl, w2⟩ := lf3 (h 2 _ _ rfl rfl)
    obtain ⟨x3, rfl, w3⟩ := lf3 (h 3 _ _ rfl rfl)
    obtain ⟨x4, rfl, w4⟩ := lf3 (h 4 _ _ rfl rfl)
    obtain ⟨x5, rfl, w5⟩ := lf3 (h 5 _ _ rfl rfl)
    obtain ⟨x6, rfl, w6⟩ := lf3 (h 6 _ _ rfl rfl)
    obtain ⟨x7, rfl, w7⟩ := lf30 (h 7 _ _ rfl rfl)
    obtain ⟨x8, rfl, w8⟩ := lf3 (h 8 _ _ rfl rfl)
    obtain ⟨x9, rfl, w9⟩ := lf3 (h 9 _ _ rfl rfl)
    obtain ⟨x10, rfl, w10⟩ := lf3 (h 10 _ _ rfl rfl)
    exact ⟨(T_impl_Ans.mk x0 (T_impl_Handle.mk x1 x2) (T_impl_Ref.mk (T_impl_Handle.mk x3 x4) x5 x6) x7 x8 x9 x10), rfl, ⟨w0, ⟨w1, w2⟩, ⟨⟨w3, w4⟩, w5, w6⟩, w7, w8, w9, w10⟩⟩
theorem ta59 {x : A} (h : TA tab 59 x) : ∃ a, x = .g [.int .i64 a.fCode, .int .i64 a.fH.fSlot, .int .i64 a.fH.fGen, .int .i64 a.fR.fH.fSlot, .int .i64 a.fR.fH.fGen, .int .i64 a.fR.fEp, .int .i64 a.fR.fNo, .row false 1 (a.fB.map en5), .int .i64 a.fWalk, .int .i64 a.fTax, .int .i64 a.fDrain] ∧ Wf59 a := let ⟨vs, e, h1, h2⟩ := ta_agg h rfl rfl rfl; let ⟨a, e2, w⟩ := ro59 vs h1 h2; ⟨a, by rw [e, e2]; rfl, w⟩

theorem ownKnob0 : ownKnob Try.prog.godebug = none := by kernel_rfl
theorem laidOut0 : laidOutB Try.prog = true := by kernel_rfl
end Go.Proofs.Ytlenlhlggknelaa
