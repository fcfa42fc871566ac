/- Models of the program's functions, and the walks that show them. Printed by gen.py. -/
import Derived.Test.YtlenlhlggknelaaGFnExactPutOpa
set_option linter.unusedVariables false
set_option linter.unusedSimpArgs false
namespace Go.Proofs.Ytlenlhlggknelaa
open Go.Eng Go.ChangeShapes Go.WideShapes Go.ChangeAt Go.RowKit
/-! ### loop.example/g00499/laws.markByteS -/
def l_laws_markByteSW_4 (K : Nat) : Nat → Int → Int → (List Int) → Option (Int × (List Int))
  | 0, _, _, _ => none
  | n4 + 1, v1, v2, v3 => (bif (decide (v2 < (v3.length : Int))) then (if (0 : Int) ≤ v2 ∧ v2 < (v3.length : Int) then (l_laws_markByteSW_4 K n4 (iAdd .i64 v1 1) (iAdd .i64 v2 1) (v3.set v2.toNat (IntKind.u8.wrap v1))) else none) else some (v1, v3))
def m_laws_markByteSW (K : Nat) (a0 : List Int) (a1 : Int) : Option (Int × (List Int)) := (l_laws_markByteSW_4 K K a1 0 a0)
set_option maxRecDepth 20000 in
set_option maxHeartbeats 8000000 in
theorem w_laws_markByteSW (K : Nat) (a0 : List Int) (a1 : Int) (r : Int × (List Int)) (h : m_laws_markByteSW K a0 a1 = some r) : Sp Try.prog 26 [.c (.own 1 0 0 a0.length), .c (.int .i64 a1)] [⟨0, 1, a0.map en_u8⟩] (.c (.int .i64 r.1)) [⟨0, 1, r.2.map en_u8⟩] := by
  refine Sp.of_W tabOk Try.func26 rfl rfl (Nat.le_of_ble_eq_true rfl) (Nat.le_of_ble_eq_true rfl) fun F hP hN hm => ?_
  obtain ⟨P, N, w0, σ0, β0, m⟩ := F
  obtain rfl : P = Try.prog := hP
  obtain rfl : N = 20 := hN
  obtain rfl : m = 2 := hm
  have he : Env ⟨Try.prog, 20, w0, σ0, β0, 2⟩ tab := ⟨Nat.le_of_ble_eq_true rfl, tabOk⟩
  unfold m_laws_markByteSW at h
  refine W_seq ?_
  refine W_regV he rfl ?_
  refine v0 (sA rfl [] rfl) rfl ?_
  refine ve ?_
  refine W2 [0, 1] [] [1] (l := [(0, .c (.own _ _ _ _)), (1, .c (.int _ _))]) (h := []) (h' := [(1, ⟨0, 1, a0.map en_u8⟩)]) ⟨⟨_, rfl, enOk_u8.allClosed _ _ a0⟩, trivial⟩ rfl rfl rfl ?_
  refine W_seq ?_
  refine W_seq ?_
  refine W_regV he rfl ?_
  refine v0 (sA rfl [] rfl) rfl ?_
  refine ve ?_
  refine W2 [0, 1, 5] [] [1] (l := [(0, .c (.own _ _ _ _)), (1, .c (.int _ _)), (5, .c (.int _ _))]) (h := []) (h' := [(1, ⟨0, 1, a0.map en_u8⟩)]) ⟨⟨_, rfl, enOk_u8.allClosed _ _ a0⟩, trivial⟩ rfl rfl rfl ?_
  refine W_block ?_
  refine W2 [0, 1, 5] [] [1] (l := [(0, .c (.own _ _ _ _)), (1, .c (.int _ _)), (5, .c (.int _ _))]) (h := []) (h' := [(1, ⟨0, 1, a0.map en_u8⟩)]) ⟨⟨_, rfl, enOk_u8.allClosed _ _ a0⟩, trivial⟩ rfl rfl rfl ?_
  refine W_loopW (fun n4 S => ∃ (v1 : Int), ∃ (v2 : Int), ∃ (v3 : List Int), S = StL [(0, .c (.own 1 0 0 v3.length)), (1, .c (.int .i64 v1)), (5, .c (.int .i64 v2))] ([] ++ [(1, ⟨0, 1, v3.map en_u8⟩)]) ∧ l_laws_markByteSW_4 K n4 v1 v2 v3 = some r) K ⟨_, _, _, rfl, h⟩ ?_
  rintro n4 S ⟨v1, v2, v3, rfl, h⟩
  cases n4 with
  | zero => simp [l_laws_markByteSW_4] at h
  | succ n4 =>
    rw [l_laws_markByteSW_4] at h
    refine W_seq ?_
    refine W_seq ?_
    refine W_regV he rfl ?_
    refine v0 (sM rfl [] rfl) rfl ?_
    refine v0 (sM rfl [] rfl) rfl ?_
    refine v0 (sLo rfl rfl rfl rfl) rfl ?_
    refine vB (sBi rfl rfl rfl rfl) rfl rfl fun b5 hb5 => ?_
    cases b5 with
    | true =>
      replace h := brT hb5 h
      refine ve ?_
      refine W2 [0, 1, 5, 9] [] [1] (l := [(0, .c (.own _ _ _ _)), (1, .c (.int _ _)), (5, .c (.int _ _)), (9, .c (.bool true))]) (h := []) (h' := [(1, ⟨0, 1, v3.map en_u8⟩)]) ⟨⟨_, rfl, enOk_u8.allClosed _ _ v3⟩, trivial⟩ rfl rfl rfl ?_
      refine W_true rfl ?_
      refine W_skip ?_
      refine W_seq ?_
      refine W_block ?_
      refine W_seq ?_
      refine W_regV he rfl ?_
      refine v0 (sM rfl [] rfl) rfl ?_
      refine v0 (sM rfl [] rfl) rfl ?_
      refine v0 (sM rfl [] rfl) rfl ?_
      refine v0 (sCv rfl rfl rfl rfl rfl rfl) rfl ?_
      obtain ⟨c6, h⟩ := chk h
      refine v0 (sIOm rfl rfl rfl c6) rfl ?_
      refine v0 (sSkm rfl rfl [] v3 (IntKind.u8.wrap v1) c6 rfl rfl rfl rfl rfl rfl rfl rfl rfl) rfl ?_
      refine ve ?_
      refine W.weak (wk_len 0 (n' := (v3.set v2.toNat (IntKind.u8.wrap v1)).length) (by simp only [List.length_set]) rfl) ?_
      refine W2 [0, 1, 5] [] [1] (l := [(0, .c (.own _ _ _ _)), (1, .c (.int _ _)), (5, .c (.int _ _))]) (h := []) (h' := [(1, ⟨0, 1, (v3.set v2.toNat (IntKind.u8.wrap v1)).map en_u8⟩)]) ⟨⟨_, rfl, enOk_u8.allClosed _ _ (v3.set v2.toNat (IntKind.u8.wrap v1))⟩, trivial⟩ rfl rfl rfl ?_
      refine W_regV he rfl ?_
      refine v0 (sM rfl [] rfl) rfl ?_
      refine v0 (sBi rfl rfl rfl rfl) rfl ?_
      refine v0 (sA rfl [] rfl) rfl ?_
      refine ve ?_
      refine W2 [0, 1, 5] [] [1] (l := [(0, .c (.own _ _ _ _)), (1, .c (.int _ _)), (5, .c (.int _ _))]) (h := []) (h' := [(1, ⟨0, 1, (v3.set v2.toNat (IntKind.u8.wrap v1)).map en_u8⟩)]) ⟨⟨_, rfl, enOk_u8.allClosed _ _ (v3.set v2.toNat (IntKind.u8.wrap v1))⟩, trivial⟩ rfl rfl rfl ?_
      refine W_regV he rfl ?_
      refine v0 (sM rfl [] rfl) rfl ?_
      refine v0 (sBi rfl rfl rfl rfl) rfl ?_
      refine v0 (sA rfl [] rfl) rfl ?_
      refine ve ?_
      exact ⟨n4, _, Nat.lt_succ_self n4, wk2 [0, 1, 5] [] [1] (l := [(0, .c (.own _ _ _ _)), (1, .c (.int _ _)), (5, .c (.int _ _))]) (h := []) (h' := [(1, ⟨0, 1, (v3.set v2.toNat (IntKind.u8.wrap v1)).map en_u8⟩)]) ⟨⟨_, rfl, enOk_u8.allClosed _ _ (v3.set v2.toNat (IntKind.u8.wrap v1))⟩, trivial⟩ rfl rfl rfl, _, _, _, rfl, h⟩
    | false =>
      replace h := brF hb5 h
      refine ve ?_
      refine W2 [0, 1, 5, 9] [] [1] (l := [(0, .c (.own _ _ _ _)), (1, .c (.int _ _)), (5, .c (.int _ _)), (9, .c (.bool false))]) (h := []) (h' := [(1, ⟨0, 1, v3.map en_u8⟩)]) ⟨⟨_, rfl, enOk_u8.allClosed _ _ v3⟩, trivial⟩ rfl rfl rfl ?_
      refine W_false rfl ?_
      refine W_exit (ex_then (ex_then (ex_hit ?_)))
      refine W_seq ?_
      refine W_regV he rfl ?_
      refine v0 (sM rfl [] rfl) rfl ?_
      refine v0 (sA rfl [] rfl) rfl ?_
      refine ve ?_
      refine W2 [4] [] [1] (l := [(4, .c (.int _ _))]) (h := []) (h' := [(1, ⟨0, 1, v3.map en_u8⟩)]) ⟨⟨_, rfl, enOk_u8.allClosed _ _ v3⟩, trivial⟩ rfl rfl rfl ?_
      obtain rfl := Option.some.inj h
      exact W_ret (retOne 1 1 (.inr ⟨rfl, rfl⟩) enOk_u8 rfl rfl rfl)
theorem ok_laws_markByteS : FnOk Try.prog 26 := ⟨_, Try.func26, rfl, rfl⟩


/-! ### loop.example/g00499/laws.markOp -/
def m_laws_markOpW (K : Nat) (a0 : T_impl_Op) (a1 : Int) : Option (Int × (List Int)) := ((m_laws_markByteSW K a0.fB a1).bind fun r1 => (if r1.2.length = a0.fB.length then some (r1.1, r1.2) else none))
set_option maxRecDepth 20000 in
set_option maxHeartbeats 8000000 in
theorem w_laws_markOpW (K : Nat) (a0 : T_impl_Op) (a1 : Int) (r : Int × (List Int)) (h : m_laws_markOpW K a0 a1 = some r) : Sp Try.prog 48 [.g [.int .i64 a0.fKind, .int .i64 a0.fH.fSlot, .int .i64 a0.fH.fGen, .int .i64 a0.fR.fH.fSlot, .int .i64 a0.fR.fH.fGen, .int .i64 a0.fR.fEp, .int .i64 a0.fR.fNo, .int .i64 a0.fN, .int .i64 a0.fM, .own 1 0 0 a0.fB.length], .c (.int .i64 a1)] [⟨0, 1, a0.fB.map en_u8⟩] (.c (.int .i64 r.1)) [⟨0, 1, r.2.map en_u8⟩] := by
  refine Sp.of_W tabOk Try.func48 rfl rfl (Nat.le_of_ble_eq_true rfl) (Nat.le_of_ble_eq_true rfl) fun F hP hN hm => ?_
  obtain ⟨P, N, w0, σ0, β0, m⟩ := F
  obtain rfl : P = Try.prog := hP
  obtain rfl : N = 10 := hN
  obtain rfl : m = 2 := hm
  have he : Env ⟨Try.prog, 10, w0, σ0, β0, 2⟩ tab := ⟨Nat.le_of_ble_eq_true rfl, tabOk⟩
  unfold m_laws_markOpW at h
  refine W_seq ?_
  refine W_regV he rfl ?_
  refine v0 (sBx rfl [] rfl rfl 101 rfl) rfl ?_
  refine v0 (sA rfl [] rfl) rfl ?_
  refine ve ?_
  refine W2 [1, 2] [101] [1] (l := [(1, .c (.int _ _)), (2, .c (.ptr _ _ _ _))]) (h := [(101, ⟨0, 10, [[.int _ _, .int _ _, .int _ _, .int _ _, .int _ _, .int _ _, .int _ _, .int _ _, .int _ _, .own _ _ _ _]]⟩)]) (h' := [(1, ⟨0, 1, a0.fB.map en_u8⟩)]) ⟨⟨_, rfl, enOk_u8.allClosed _ _ a0.fB⟩, trivial⟩ rfl rfl rfl ?_
  refine W_seq ?_
  refine W_regV he rfl ?_
  refine v0 (sFP rfl rfl rfl) rfl ?_
  refine v0 (sLd rfl rfl) rfl ?_
  refine v0 (sM rfl [] rfl) rfl ?_
  obtain ⟨r1, hr1, h⟩ := bnd2 h
  obtain ⟨c2, h⟩ := chk h
  refine v0 (sCw (w_laws_markByteSW K a0.fB a1 _ hr1) ok_laws_markByteS enOk_u8 (fun _ => rfl) c2 1 rfl rfl rfl rfl rfl rfl) rfl ?_
  refine v0 (sA rfl [] rfl) rfl ?_
  refine ve ?_
  refine W2 [1] [] [1] (l := [(1, .c (.int _ _))]) (h := []) (h' := [(1, ⟨0, 1, r1.2.map en_u8⟩)]) ⟨⟨_, rfl, enOk_u8.allClosed _ _ r1.2⟩, trivial⟩ rfl rfl rfl ?_
  refine W_seq ?_
  refine W_regV he rfl ?_
  refine v0 (sM rfl [] rfl) rfl ?_
  refine v0 (sA rfl [] rfl) rfl ?_
  refine ve ?_
  refine W2 [4] [] [1] (l := [(4, .c (.int _ _))]) (h := []) (h' := [(1, ⟨0, 1, r1.2.map en_u8⟩)]) ⟨⟨_, rfl, enOk_u8.allClosed _ _ r1.2⟩, trivial⟩ rfl rfl rfl ?_
  obtain rfl := Option.some.inj h
  exact W_ret (retOne 1 1 (.inr ⟨rfl, rfl⟩) enOk_u8 rfl rfl rfl)
theorem ok_laws_markOp : FnOk Try.prog 48 := ⟨_, Try.func48, rfl, rfl⟩


/-! ### loop.example/g00499/laws.heldByteS -/
def l_laws_heldByteS_3 (K : Nat) (a0 : List Int) : Nat → Int → Int → Option (Int)
  | 0, _, _ => none
  | n3 + 1, v1, v2 => (bif (decide (v2 < (a0.length : Int))) then (if (0 : Int) ≤ v2 ∧ v2 < (a0.length : Int) then (bif ((gt a0 v2) != (IntKind.u8.wrap v1)) then some (-1) else (l_laws_heldByteS_3 K a0 n3 (iAdd .i64 v1 1) (iAdd .i64 v2 1))) else none) else some v1)
def m_laws_heldByteS (K : Nat) (a0 : List Int) (a1 : Int) : Option (Int) := (l_laws_heldByteS_3 K a0 K a1 0)
set_option maxRecDepth 20000 in
set_option maxHeartbeats 8000000 in
theorem w_laws_heldByteS (K : Nat) (a0 : List Int) (a1 : Int) (r : Int) (h : m_laws_heldByteS K a0 a1 = some r) : Sp Try.prog 27 [.c (.row false 1 (a0.map en_u8)), .c (.int .i64 a1)] [] (.c (.int .i64 r)) [] := by
  refine Sp.of_W tabOk Try.func27 rfl rfl (Nat.le_of_ble_eq_true rfl) (Nat.le_of_ble_eq_true rfl) fun F hP hN hm => ?_
  obtain ⟨P, N, w0, σ0, β0, m⟩ := F
  obtain rfl : P = Try.prog := hP
  obtain rfl : N = 22 := hN
  obtain rfl : m = 1 := hm
  have he : Env ⟨Try.prog, 22, w0, σ0, β0, 1⟩ tab := ⟨Nat.le_of_ble_eq_true rfl, tabOk⟩
  unfold m_laws_heldByteS at h
  refine W_seq ?_
  refine W_regV he rfl ?_
  refine v0 (sA rfl [] rfl) rfl ?_
  refine ve ?_
  refine W2 [0, 1] [] [] (l := [(0, .c (.row _ _ _)), (1, .c (.int _ _))]) (h := []) (h' := []) trivial rfl rfl rfl ?_
  refine W_seq ?_
  refine W_seq ?_
  refine W_regV he rfl ?_
  refine v0 (sA rfl [] rfl) rfl ?_
  refine ve ?_
  refine W2 [0, 1, 5] [] [] (l := [(0, .c (.row _ _ _)), (1, .c (.int _ _)), (5, .c (.int _ _))]) (h := []) (h' := []) trivial rfl rfl rfl ?_
  refine W_block ?_
  refine W2 [0, 1, 5] [] [] (l := [(0, .c (.row _ _ _)), (1, .c (.int _ _)), (5, .c (.int _ _))]) (h := []) (h' := []) trivial rfl rfl rfl ?_
  refine W_loopW (fun n3 S => ∃ (v1 : Int), ∃ (v2 : Int), S = StL [(0, .c (.row false 1 (a0.map en_u8))), (1, .c (.int .i64 v1)), (5, .c (.int .i64 v2))] ([] ++ []) ∧ l_laws_heldByteS_3 K a0 n3 v1 v2 = some r) K ⟨_, _, rfl, h⟩ ?_
  rintro n3 S ⟨v1, v2, rfl, h⟩
  cases n3 with
  | zero => simp [l_laws_heldByteS_3] at h
  | succ n3 =>
    rw [l_laws_heldByteS_3] at h
    refine W_seq ?_
    refine W_seq ?_
    refine W_regV he rfl ?_
    refine v0 (sM rfl [] rfl) rfl ?_
    refine v0 (sM rfl [] rfl) rfl ?_
    refine v0 (sLm rfl rfl rfl rfl) rfl ?_
    refine vB (sBi rfl rfl rfl rfl) rfl rfl fun b4 hb4 => ?_
    cases b4 with
    | true =>
      replace h := brT hb4 h
      refine ve ?_
      refine W2 [0, 1, 5, 9] [] [] (l := [(0, .c (.row _ _ _)), (1, .c (.int _ _)), (5, .c (.int _ _)), (9, .c (.bool true))]) (h := []) (h' := []) trivial rfl rfl rfl ?_
      refine W_true rfl ?_
      refine W_skip ?_
      refine W_seq ?_
      refine W_block ?_
      refine W_seq ?_
      refine W_seq ?_
      refine W_regV he rfl ?_
      refine v0 (sM rfl [] rfl) rfl ?_
      refine v0 (sM rfl [] rfl) rfl ?_
      obtain ⟨c5, h⟩ := chk h
      refine v0 (sIRm rfl rfl rfl rfl c5) rfl ?_
      refine v0 (sLI rfl rfl (en_u8 (gt a0 v2)) (gt_at _ c5) rfl rfl rfl) rfl ?_
      refine v0 (sM rfl [] rfl) rfl ?_
      refine v0 (sCv rfl rfl rfl rfl rfl rfl) rfl ?_
      refine vB (sBi rfl rfl rfl rfl) rfl rfl fun b6 hb6 => ?_
      cases b6 with
      | true =>
        replace h := brT hb6 h
        refine ve ?_
        refine W2 [0, 1, 5, 18] [] [] (l := [(0, .c (.row _ _ _)), (1, .c (.int _ _)), (5, .c (.int _ _)), (18, .c (.bool true))]) (h := []) (h' := []) trivial rfl rfl rfl ?_
        refine W_true rfl ?_
        refine W_seq ?_
        refine W_regV he rfl ?_
        refine v0 (sA rfl [] rfl) rfl ?_
        refine ve ?_
        refine W2 [4] [] [] (l := [(4, .c (.int _ _))]) (h := []) (h' := []) trivial rfl rfl rfl ?_
        obtain rfl := Option.some.inj h
        exact W_ret (r0 rfl rfl)
      | false =>
        replace h := brF hb6 h
        refine ve ?_
        refine W2 [0, 1, 5, 18] [] [] (l := [(0, .c (.row _ _ _)), (1, .c (.int _ _)), (5, .c (.int _ _)), (18, .c (.bool false))]) (h := []) (h' := []) trivial rfl rfl rfl ?_
        refine W_false rfl ?_
        refine W_skip ?_
        refine W_regV he rfl ?_
        refine v0 (sM rfl [] rfl) rfl ?_
        refine v0 (sBi rfl rfl rfl rfl) rfl ?_
        refine v0 (sA rfl [] rfl) rfl ?_
        refine ve ?_
        refine W2 [0, 1, 5] [] [] (l := [(0, .c (.row _ _ _)), (1, .c (.int _ _)), (5, .c (.int _ _))]) (h := []) (h' := []) trivial rfl rfl rfl ?_
        refine W_regV he rfl ?_
        refine v0 (sM rfl [] rfl) rfl ?_
        refine v0 (sBi rfl rfl rfl rfl) rfl ?_
        refine v0 (sA rfl [] rfl) rfl ?_
        refine ve ?_
        exact ⟨n3, _, Nat.lt_succ_self n3, wk2 [0, 1, 5] [] [] (l := [(0, .c (.row _ _ _)), (1, .c (.int _ _)), (5, .c (.int _ _))]) (h := []) (h' := []) trivial rfl rfl rfl, _, _, rfl, h⟩
    | false =>
      replace h := brF hb4 h
      refine ve ?_
      refine W2 [0, 1, 5, 9] [] [] (l := [(0, .c (.row _ _ _)), (1, .c (.int _ _)), (5, .c (.int _ _)), (9, .c (.bool false))]) (h := []) (h' := []) trivial rfl rfl rfl ?_
      refine W_false rfl ?_
      refine W_exit (ex_then (ex_then (ex_hit ?_)))
      refine W_seq ?_
      refine W_regV he rfl ?_
      refine v0 (sM rfl [] rfl) rfl ?_
      refine v0 (sA rfl [] rfl) rfl ?_
      refine ve ?_
      refine W2 [4] [] [] (l := [(4, .c (.int _ _))]) (h := []) (h' := []) trivial rfl rfl rfl ?_
      obtain rfl := Option.some.inj h
      exact W_ret (r0 rfl rfl)
theorem ok_laws_heldByteS : FnOk Try.prog 27 := ⟨_, Try.func27, rfl, rfl⟩


/-! ### loop.example/g00499/laws.FnExactPutOp -/
def m_laws_FnExactPutOp (K : Nat) (a0 : T_laws_Op) : Option (Bool) := ((m_laws_szOp K a0 1048576).bind fun r1 => (bif (decide (r1 < 0)) then some true else ((m_laws_toOp K a0).bind fun r3 => ((m_spec_PutOp K r3).bind fun r4 => ((m_laws_toOp K a0).bind fun r5 => ((m_impl_PutOp K r5).bind fun r6 => ((m_laws_eqByteS K r6 r4).bind fun r7 => (bif r7 then ((m_laws_toOp K a0).bind fun r9 => ((m_laws_eqOp K r5 r9).bind fun r10 => (bif r10 then ((m_laws_markOpW K r5 1).bind fun r12 => (if r12.2.length = r5.fB.length then (bif (decide (r12.1 < 0)) then some false else ((m_laws_eqByteS K r6 r4).bind fun r15 => (bif r15 then ((m_laws_markByteSW K r6 1).bind fun r17 => (if r17.2.length = r6.length then ((m_laws_heldByteS K r17.2 1).bind fun r19 => (bif (decide (r19 < 0)) then some false else (bif (r19 != r17.1) then some false else ((m_laws_toOp K a0).bind fun r22 => ((m_impl_PutOp K r22).bind fun r23 => ((m_laws_eqByteS K r23 r4).bind fun r24 => (bif r24 then ((m_laws_heldByteS K r17.2 1).bind fun r26 => (bif (decide (r26 < 0)) then some false else (bif (r26 != r17.1) then some false else some true))) else some false))))))) else none)) else some false))) else none)) else some false))) else some false))))))))
set_option maxRecDepth 20000 in
set_option maxHeartbeats 8000000 in
theorem w_laws_FnExactPutOp (K : Nat) (a0 : T_laws_Op) (r : Bool) (h : m_laws_FnExactPutOp K a0 = some r) : Sp Try.prog 12 [.g [.int .i64 a0.fKind, .int .i64 a0.fH.fSlot, .int .i64 a0.fH.fGen, .int .i64 a0.fR.fH.fSlot, .int .i64 a0.fR.fH.fGen, .int .i64 a0.fR.fEp, .int .i64 a0.fR.fNo, .int .i64 a0.fN, .int .i64 a0.fM, .row false 1 (a0.fB.map en_u8)]] [] (.c (.bool r)) [] := by
  refine Sp.of_W tabOk Try.func12 rfl rfl (Nat.le_of_ble_eq_true rfl) (Nat.le_of_ble_eq_true rfl) fun F hP hN hm => ?_
  obtain ⟨P, N, w0, σ0, β0, m⟩ := F
  obtain rfl : P = Try.prog := hP
  obtain rfl : N = 69 := hN
  obtain rfl : m = 1 := hm
  have he : Env ⟨Try.prog, 69, w0, σ0, β0, 1⟩ tab := ⟨Nat.le_of_ble_eq_true rfl, tabOk⟩
  unfold m_laws_FnExactPutOp at h
  refine W_seq ?_
  refine W_regV he rfl ?_
  refine v0 (sBx rfl [] rfl rfl 101 rfl) rfl ?_
  refine v0 (sA rfl [] rfl) rfl ?_
  refine ve ?_
  refine W2 [1] [101] [] (l := [(1, .c (.ptr _ _ _ _))]) (h := [(101, ⟨0, 10, [[.int _ _, .int _ _, .int _ _, .int _ _, .int _ _, .int _ _, .int _ _, .int _ _, .int _ _, .row _ _ _]]⟩)]) (h' := []) trivial rfl rfl rfl ?_
  refine W_seq ?_
  refine W_regV he rfl ?_
  refine v0 (sA rfl [] rfl) rfl ?_
  refine ve ?_
  refine W2 [1, 3] [101] [] (l := [(1, .c (.ptr _ _ _ _)), (3, .c (.int _ _))]) (h := [(101, ⟨0, 10, [[.int _ _, .int _ _, .int _ _, .int _ _, .int _ _, .int _ _, .int _ _, .int _ _, .int _ _, .row _ _ _]]⟩)]) (h' := []) trivial rfl rfl rfl ?_
  refine W_seq ?_
  refine W_regV he rfl ?_
  refine v0 (sLd rfl rfl) rfl ?_
  refine v0 (sM rfl [] rfl) rfl ?_
  obtain ⟨r1, hr1, h⟩ := bnd2 h
  refine v0 (sCm (w_laws_szOp K a0 1048576 _ hr1) ok_laws_szOp rfl rfl rfl rfl) rfl ?_
  refine v0 (sA rfl [] rfl) rfl ?_
  refine ve ?_
  refine W2 [1, 3] [101] [] (l := [(1, .c (.ptr _ _ _ _)), (3, .c (.int _ _))]) (h := [(101, ⟨0, 10, [[.int _ _, .int _ _, .int _ _, .int _ _, .int _ _, .int _ _, .int _ _, .int _ _, .int _ _, .row _ _ _]]⟩)]) (h' := []) trivial rfl rfl rfl ?_
  refine W_seq ?_
  refine W_seq ?_
  refine W_regV he rfl ?_
  refine v0 (sM rfl [] rfl) rfl ?_
  refine vB (sBi rfl rfl rfl rfl) rfl rfl fun b2 hb2 => ?_
  cases b2 with
  | true =>
    replace h := brT hb2 h
    refine ve ?_
    refine W2 [1, 15] [101] [] (l := [(1, .c (.ptr _ _ _ _)), (15, .c (.bool true))]) (h := [(101, ⟨0, 10, [[.int _ _, .int _ _, .int _ _, .int _ _, .int _ _, .int _ _, .int _ _, .int _ _, .int _ _, .row _ _ _]]⟩)]) (h' := []) trivial rfl rfl rfl ?_
    refine W_true rfl ?_
    refine W_seq ?_
    refine W_regV he rfl ?_
    refine v0 (sA rfl [] rfl) rfl ?_
    refine ve ?_
    refine W2 [2] [] [] (l := [(2, .c (.bool true))]) (h := []) (h' := []) trivial rfl rfl rfl ?_
    obtain rfl := Option.some.inj h
    exact W_ret (r0 rfl rfl)
  | false =>
    replace h := brF hb2 h
    refine ve ?_
    refine W2 [1, 15] [101] [] (l := [(1, .c (.ptr _ _ _ _)), (15, .c (.bool false))]) (h := [(101, ⟨0, 10, [[.int _ _, .int _ _, .int _ _, .int _ _, .int _ _, .int _ _, .int _ _, .int _ _, .int _ _, .row _ _ _]]⟩)]) (h' := []) trivial rfl rfl rfl ?_
    refine W_false rfl ?_
    refine W_skip ?_
    refine W_seq ?_
    refine W_regV he rfl ?_
    refine v0 (sLd rfl rfl) rfl ?_
    obtain ⟨r3, hr3, h⟩ := bnd2 h
    refine v0 (sCm (w_laws_toOp K a0 _ hr3) ok_laws_toOp rfl rfl rfl rfl) rfl ?_
    obtain ⟨r4, hr4, h⟩ := bnd2 h
    refine v0 (sCm (w_spec_PutOp K r3 _ hr4) ok_spec_PutOp rfl rfl rfl rfl) rfl ?_
    refine v0 (sA rfl [] rfl) rfl ?_
    refine ve ?_
    refine W2 [1, 4] [101] [] (l := [(1, .c (.ptr _ _ _ _)), (4, .c (.row _ _ _))]) (h := [(101, ⟨0, 10, [[.int _ _, .int _ _, .int _ _, .int _ _, .int _ _, .int _ _, .int _ _, .int _ _, .int _ _, .row _ _ _]]⟩)]) (h' := []) trivial rfl rfl rfl ?_
    refine W_seq ?_
    refine W_regV he rfl ?_
    refine v0 (sLd rfl rfl) rfl ?_
    obtain ⟨r5, hr5, h⟩ := bnd2 h
    refine v0 (sCo (wo_laws_toOp K a0 _ hr5) ok_laws_toOp (fun _ => rfl) [] 1020 rfl rfl rfl rfl rfl) rfl ?_
    refine v0 (sAl rfl rfl 102 rfl) rfl ?_
    refine v0 (sSt rfl rfl [] rfl rfl) rfl ?_
    refine ve ?_
    refine W2 [1, 4, 5] [101, 102] [1020] (l := [(1, .c (.ptr _ _ _ _)), (4, .c (.row _ _ _)), (5, .c (.ptr _ _ _ _))]) (h := [(101, ⟨0, 10, [[.int _ _, .int _ _, .int _ _, .int _ _, .int _ _, .int _ _, .int _ _, .int _ _, .int _ _, .row _ _ _]]⟩), (102, ⟨0, 10, [[.int _ _, .int _ _, .int _ _, .int _ _, .int _ _, .int _ _, .int _ _, .int _ _, .int _ _, .own _ _ _ _]]⟩)]) (h' := [(1020, ⟨0, 1, r5.fB.map en_u8⟩)]) ⟨⟨_, rfl, enOk_u8.allClosed _ _ r5.fB⟩, trivial⟩ rfl rfl rfl ?_
    refine W_seq ?_
    refine W_regV he rfl ?_
    refine v0 (sLd rfl rfl) rfl ?_
    obtain ⟨r6, hr6, h⟩ := bnd2 h
    refine v0 (sCo (wo_impl_PutOp K r5 _ hr6) ok_impl_PutOp (fun _ => rfl) [1020] 1006 rfl rfl rfl (low_cons (low_g (lowc_cons rfl (lowc_cons rfl (lowc_cons rfl (lowc_cons rfl (lowc_cons rfl (lowc_cons rfl (lowc_cons rfl (lowc_cons rfl (lowc_cons rfl (lowc_cons (low_lentV (l := r5.fB) enOk_u8 rfl rfl rfl) (lowc_nil)))))))))))) (low_nil)) rfl) rfl ?_
    refine v0 (sA rfl [] rfl) rfl ?_
    refine ve ?_
    refine W2 [1, 4, 5, 6] [101, 102] [1006, 1020] (l := [(1, .c (.ptr _ _ _ _)), (4, .c (.row _ _ _)), (5, .c (.ptr _ _ _ _)), (6, .c (.own _ _ _ _))]) (h := [(101, ⟨0, 10, [[.int _ _, .int _ _, .int _ _, .int _ _, .int _ _, .int _ _, .int _ _, .int _ _, .int _ _, .row _ _ _]]⟩), (102, ⟨0, 10, [[.int _ _, .int _ _, .int _ _, .int _ _, .int _ _, .int _ _, .int _ _, .int _ _, .int _ _, .own _ _ _ _]]⟩)]) (h' := [(1006, ⟨0, 1, r6.map en_u8⟩), (1020, ⟨0, 1, r5.fB.map en_u8⟩)]) ⟨⟨_, rfl, enOk_u8.allClosed _ _ r6⟩, ⟨⟨_, rfl, enOk_u8.allClosed _ _ r5.fB⟩, trivial⟩⟩ rfl rfl rfl ?_
    refine W_seq ?_
    refine W_seq ?_
    refine W_regV he rfl ?_
    refine v0 (sM rfl [] rfl) rfl ?_
    refine v0 (sM rfl [] rfl) rfl ?_
    obtain ⟨r7, hr7, h⟩ := bnd2 h
    refine vB (sCle (w_laws_eqByteS K r6 r4 _ hr7) ok_laws_eqByteS [1006] rfl rfl (low_cons (low_lent (l := r6) enOk_u8 rfl rfl rfl) (low_cons (rfl) (low_nil))) rfl) rfl rfl fun b8 hb8 => ?_
    cases b8 with
    | true =>
      replace h := brT hb8 h
      refine v0 (sNt rfl rfl) rfl ?_
      refine ve ?_
      refine W2 [1, 4, 5, 6, 26] [101, 102] [1006, 1020] (l := [(1, .c (.ptr _ _ _ _)), (4, .c (.row _ _ _)), (5, .c (.ptr _ _ _ _)), (6, .c (.own _ _ _ _)), (26, .c (.bool false))]) (h := [(101, ⟨0, 10, [[.int _ _, .int _ _, .int _ _, .int _ _, .int _ _, .int _ _, .int _ _, .int _ _, .int _ _, .row _ _ _]]⟩), (102, ⟨0, 10, [[.int _ _, .int _ _, .int _ _, .int _ _, .int _ _, .int _ _, .int _ _, .int _ _, .int _ _, .own _ _ _ _]]⟩)]) (h' := [(1006, ⟨0, 1, r6.map en_u8⟩), (1020, ⟨0, 1, r5.fB.map en_u8⟩)]) ⟨⟨_, rfl, enOk_u8.allClosed _ _ r6⟩, ⟨⟨_, rfl, enOk_u8.allClosed _ _ r5.fB⟩, trivial⟩⟩ rfl rfl rfl ?_
      refine W_false rfl ?_
      refine W_skip ?_
      refine W_seq ?_
      refine W_seq ?_
      refine W_regD he rfl rfl rfl ?_
      refine g0 (sLd rfl rfl) rfl ?_
      refine g0 (sLd rfl rfl) rfl ?_
      obtain ⟨r9, hr9, h⟩ := bnd2 h
      refine g0 (sCm (w_laws_toOp K a0 _ hr9) ok_laws_toOp rfl rfl rfl rfl) rfl ?_
      obtain ⟨r10, hr10, h⟩ := bnd2 h
      refine gB (sCle (w_laws_eqOp K r5 r9 _ hr10) ok_laws_eqOp [1020] rfl rfl (low_cons (low_g (lowc_cons rfl (lowc_cons rfl (lowc_cons rfl (lowc_cons rfl (lowc_cons rfl (lowc_cons rfl (lowc_cons rfl (lowc_cons rfl (lowc_cons rfl (lowc_cons (low_lentV (l := r5.fB) enOk_u8 rfl rfl rfl) (lowc_nil)))))))))))) (low_cons (rfl) (low_nil))) rfl) rfl rfl fun b11 hb11 => ?_
      cases b11 with
      | true =>
        replace h := brT hb11 h
        refine g0 (sNt rfl rfl) rfl ?_
        refine ge ⟨rfl, ?_⟩
        refine W2 [1, 4, 5, 6, 31] [101, 102] [1006, 1020] (l := [(1, .c (.ptr _ _ _ _)), (4, .c (.row _ _ _)), (5, .c (.ptr _ _ _ _)), (6, .c (.own _ _ _ _)), (31, .c (.bool false))]) (h := [(101, ⟨0, 10, [[.int _ _, .int _ _, .int _ _, .int _ _, .int _ _, .int _ _, .int _ _, .int _ _, .int _ _, .row _ _ _]]⟩), (102, ⟨0, 10, [[.int _ _, .int _ _, .int _ _, .int _ _, .int _ _, .int _ _, .int _ _, .int _ _, .int _ _, .own _ _ _ _]]⟩)]) (h' := [(1006, ⟨0, 1, r6.map en_u8⟩), (1020, ⟨0, 1, r5.fB.map en_u8⟩)]) ⟨⟨_, rfl, enOk_u8.allClosed _ _ r6⟩, ⟨⟨_, rfl, enOk_u8.allClosed _ _ r5.fB⟩, trivial⟩⟩ rfl rfl rfl ?_
        refine W_false rfl ?_
        refine W_skip ?_
        refine W_seq ?_
        refine W_regV he rfl ?_
        refine v0 (sA rfl [] rfl) rfl ?_
        refine ve ?_
        refine W2 [1, 4, 5, 6, 7] [101, 102] [1006, 1020] (l := [(1, .c (.ptr _ _ _ _)), (4, .c (.row _ _ _)), (5, .c (.ptr _ _ _ _)), (6, .c (.own _ _ _ _)), (7, .c (.int _ _))]) (h := [(101, ⟨0, 10, [[.int _ _, .int _ _, .int _ _, .int _ _, .int _ _, .int _ _, .int _ _, .int _ _, .int _ _, .row _ _ _]]⟩), (102, ⟨0, 10, [[.int _ _, .int _ _, .int _ _, .int _ _, .int _ _, .int _ _, .int _ _, .int _ _, .int _ _, .own _ _ _ _]]⟩)]) (h' := [(1006, ⟨0, 1, r6.map en_u8⟩), (1020, ⟨0, 1, r5.fB.map en_u8⟩)]) ⟨⟨_, rfl, enOk_u8.allClosed _ _ r6⟩, ⟨⟨_, rfl, enOk_u8.allClosed _ _ r5.fB⟩, trivial⟩⟩ rfl rfl rfl ?_
        refine W_seq ?_
        refine W_regV he rfl ?_
        refine v0 (sLd rfl rfl) rfl ?_
        refine v0 (sM rfl [] rfl) rfl ?_
        obtain ⟨r12, hr12, h⟩ := bnd2 h
        obtain ⟨c13, h⟩ := chk h
        refine v0 (sCw (w_laws_markOpW K r5 1 _ hr12) ok_laws_markOp enOk_u8 (fun _ => rfl) c13 1020 rfl rfl rfl rfl rfl rfl) rfl ?_
        refine v0 (sA rfl [] rfl) rfl ?_
        refine ve ?_
        refine W2 [1, 4, 6, 7] [101] [1006] (l := [(1, .c (.ptr _ _ _ _)), (4, .c (.row _ _ _)), (6, .c (.own _ _ _ _)), (7, .c (.int _ _))]) (h := [(101, ⟨0, 10, [[.int _ _, .int _ _, .int _ _, .int _ _, .int _ _, .int _ _, .int _ _, .int _ _, .int _ _, .row _ _ _]]⟩)]) (h' := [(1006, ⟨0, 1, r6.map en_u8⟩)]) ⟨⟨_, rfl, enOk_u8.allClosed _ _ r6⟩, trivial⟩ rfl rfl rfl ?_
        refine W_seq ?_
        refine W_seq ?_
        refine W_regV he rfl ?_
        refine v0 (sM rfl [] rfl) rfl ?_
        refine vB (sBi rfl rfl rfl rfl) rfl rfl fun b14 hb14 => ?_
        cases b14 with
        | true =>
          replace h := brT hb14 h
          refine v0 (sM rfl [] rfl) rfl ?_
          refine uP rfl rfl rfl rfl ?_
          refine uP rfl rfl rfl rfl ?_
          refine uP rfl rfl rfl rfl ?_
          refine uP rfl rfl rfl rfl ?_
          refine v0 (sPk rfl [] rfl rfl) rfl ?_
          refine ve ?_
          refine W2 [1, 4, 6, 42] [101] [1006] (l := [(1, .c (.ptr _ _ _ _)), (4, .c (.row _ _ _)), (6, .c (.own _ _ _ _)), (42, .c (.bool true))]) (h := [(101, ⟨0, 10, [[.int _ _, .int _ _, .int _ _, .int _ _, .int _ _, .int _ _, .int _ _, .int _ _, .int _ _, .row _ _ _]]⟩)]) (h' := [(1006, ⟨0, 1, r6.map en_u8⟩)]) ⟨⟨_, rfl, enOk_u8.allClosed _ _ r6⟩, trivial⟩ rfl rfl rfl ?_
          refine W_true rfl ?_
          refine W_seq ?_
          refine W_regV he rfl ?_
          refine v0 (sA rfl [] rfl) rfl ?_
          refine ve ?_
          refine W2 [2] [] [] (l := [(2, .c (.bool false))]) (h := []) (h' := []) trivial rfl rfl rfl ?_
          obtain rfl := Option.some.inj h
          exact W_ret (r0 rfl rfl)
        | false =>
          replace h := brF hb14 h
          refine v0 (sM rfl [] rfl) rfl ?_
          refine u0 (sM rfl [] rfl) rfl rfl rfl ?_
          refine u0 (sM rfl [] rfl) rfl rfl rfl ?_
          obtain ⟨r15, hr15, h⟩ := bnd2 h
          refine uB (sCle (w_laws_eqByteS K r6 r4 _ hr15) ok_laws_eqByteS [1006] rfl rfl (low_cons (low_lent (l := r6) enOk_u8 rfl rfl rfl) (low_cons (rfl) (low_nil))) rfl) rfl rfl rfl rfl fun b16 hb16 => ?_
          cases b16 with
          | true =>
            replace h := brT hb16 h
            refine u0 (sNt rfl rfl) rfl rfl rfl ?_
            refine v0 (sPk rfl [] rfl rfl) rfl ?_
            refine ve ?_
            refine W2 [1, 4, 6, 42] [101] [1006] (l := [(1, .c (.ptr _ _ _ _)), (4, .c (.row _ _ _)), (6, .c (.own _ _ _ _)), (42, .c (.bool false))]) (h := [(101, ⟨0, 10, [[.int _ _, .int _ _, .int _ _, .int _ _, .int _ _, .int _ _, .int _ _, .int _ _, .int _ _, .row _ _ _]]⟩)]) (h' := [(1006, ⟨0, 1, r6.map en_u8⟩)]) ⟨⟨_, rfl, enOk_u8.allClosed _ _ r6⟩, trivial⟩ rfl rfl rfl ?_
            refine W_false rfl ?_
            refine W_skip ?_
            refine W_seq ?_
            refine W_regV he rfl ?_
            refine v0 (sA rfl [] rfl) rfl ?_
            refine ve ?_
            refine W2 [1, 4, 6, 8] [101] [1006] (l := [(1, .c (.ptr _ _ _ _)), (4, .c (.row _ _ _)), (6, .c (.own _ _ _ _)), (8, .c (.int _ _))]) (h := [(101, ⟨0, 10, [[.int _ _, .int _ _, .int _ _, .int _ _, .int _ _, .int _ _, .int _ _, .int _ _, .int _ _, .row _ _ _]]⟩)]) (h' := [(1006, ⟨0, 1, r6.map en_u8⟩)]) ⟨⟨_, rfl, enOk_u8.allClosed _ _ r6⟩, trivial⟩ rfl rfl rfl ?_
            refine W_seq ?_
            refine W_regV he rfl ?_
            refine v0 (sM rfl [] rfl) rfl ?_
            refine v0 (sM rfl [] rfl) rfl ?_
            obtain ⟨r17, hr17, h⟩ := bnd2 h
            obtain ⟨c18, h⟩ := chk h
            refine v0 (sCw (w_laws_markByteSW K r6 1 _ hr17) ok_laws_markByteS enOk_u8 (fun _ => rfl) c18 1006 rfl rfl rfl rfl rfl rfl) rfl ?_
            refine v0 (sA rfl [] rfl) rfl ?_
            refine ve ?_
            refine W.weak (wk_len 6 (n' := r17.2.length) (by simp only [List.length_set, c13, c18]) rfl) ?_
            refine W2 [1, 4, 6, 8] [101] [1006] (l := [(1, .c (.ptr _ _ _ _)), (4, .c (.row _ _ _)), (6, .c (.own _ _ _ _)), (8, .c (.int _ _))]) (h := [(101, ⟨0, 10, [[.int _ _, .int _ _, .int _ _, .int _ _, .int _ _, .int _ _, .int _ _, .int _ _, .int _ _, .row _ _ _]]⟩)]) (h' := [(1006, ⟨0, 1, r17.2.map en_u8⟩)]) ⟨⟨_, rfl, enOk_u8.allClosed _ _ r17.2⟩, trivial⟩ rfl rfl rfl ?_
            refine W_seq ?_
            refine W_regV he rfl ?_
            refine v0 (sA rfl [] rfl) rfl ?_
            refine ve ?_
            refine W2 [1, 4, 6, 8, 9] [101] [1006] (l := [(1, .c (.ptr _ _ _ _)), (4, .c (.row _ _ _)), (6, .c (.own _ _ _ _)), (8, .c (.int _ _)), (9, .c (.int _ _))]) (h := [(101, ⟨0, 10, [[.int _ _, .int _ _, .int _ _, .int _ _, .int _ _, .int _ _, .int _ _, .int _ _, .int _ _, .row _ _ _]]⟩)]) (h' := [(1006, ⟨0, 1, r17.2.map en_u8⟩)]) ⟨⟨_, rfl, enOk_u8.allClosed _ _ r17.2⟩, trivial⟩ rfl rfl rfl ?_
            refine W_seq ?_
            refine W_regV he rfl ?_
            refine v0 (sM rfl [] rfl) rfl ?_
            refine v0 (sM rfl [] rfl) rfl ?_
            obtain ⟨r19, hr19, h⟩ := bnd2 h
            refine v0 (sCle (w_laws_heldByteS K r17.2 1 _ hr19) ok_laws_heldByteS [1006] rfl rfl (low_cons (low_lent (l := r17.2) enOk_u8 rfl rfl rfl) (low_cons (rfl) (low_nil))) rfl) rfl ?_
            refine v0 (sA rfl [] rfl) rfl ?_
            refine ve ?_
            refine W2 [1, 4, 6, 8, 9] [101] [1006] (l := [(1, .c (.ptr _ _ _ _)), (4, .c (.row _ _ _)), (6, .c (.own _ _ _ _)), (8, .c (.int _ _)), (9, .c (.int _ _))]) (h := [(101, ⟨0, 10, [[.int _ _, .int _ _, .int _ _, .int _ _, .int _ _, .int _ _, .int _ _, .int _ _, .int _ _, .row _ _ _]]⟩)]) (h' := [(1006, ⟨0, 1, r17.2.map en_u8⟩)]) ⟨⟨_, rfl, enOk_u8.allClosed _ _ r17.2⟩, trivial⟩ rfl rfl rfl ?_
            refine W_seq ?_
            refine W_seq ?_
            refine W_regV he rfl ?_
            refine v0 (sM rfl [] rfl) rfl ?_
            refine vB (sBi rfl rfl rfl rfl) rfl rfl fun b20 hb20 => ?_
            cases b20 with
            | true =>
              replace h := brT hb20 h
              refine ve ?_
              refine W2 [1, 4, 6, 8, 9, 50] [101] [1006] (l := [(1, .c (.ptr _ _ _ _)), (4, .c (.row _ _ _)), (6, .c (.own _ _ _ _)), (8, .c (.int _ _)), (9, .c (.int _ _)), (50, .c (.bool true))]) (h := [(101, ⟨0, 10, [[.int _ _, .int _ _, .int _ _, .int _ _, .int _ _, .int _ _, .int _ _, .int _ _, .int _ _, .row _ _ _]]⟩)]) (h' := [(1006, ⟨0, 1, r17.2.map en_u8⟩)]) ⟨⟨_, rfl, enOk_u8.allClosed _ _ r17.2⟩, trivial⟩ rfl rfl rfl ?_
              refine W_true rfl ?_
              refine W_seq ?_
              refine W_regV he rfl ?_
              refine v0 (sA rfl [] rfl) rfl ?_
              refine ve ?_
              refine W2 [2] [] [] (l := [(2, .c (.bool false))]) (h := []) (h' := []) trivial rfl rfl rfl ?_
              obtain rfl := Option.some.inj h
              exact W_ret (r0 rfl rfl)
            | false =>
              replace h := brF hb20 h
              refine ve ?_
              refine W2 [1, 4, 6, 8, 9, 50] [101] [1006] (l := [(1, .c (.ptr _ _ _ _)), (4, .c (.row _ _ _)), (6, .c (.own _ _ _ _)), (8, .c (.int _ _)), (9, .c (.int _ _)), (50, .c (.bool false))]) (h := [(101, ⟨0, 10, [[.int _ _, .int _ _, .int _ _, .int _ _, .int _ _, .int _ _, .int _ _, .int _ _, .int _ _, .row _ _ _]]⟩)]) (h' := [(1006, ⟨0, 1, r17.2.map en_u8⟩)]) ⟨⟨_, rfl, enOk_u8.allClosed _ _ r17.2⟩, trivial⟩ rfl rfl rfl ?_
              refine W_false rfl ?_
              refine W_skip ?_
              refine W_seq ?_
              refine W_seq ?_
              refine W_regV he rfl ?_
              refine v0 (sM rfl [] rfl) rfl ?_
              refine v0 (sM rfl [] rfl) rfl ?_
              refine vB (sBi rfl rfl rfl rfl) rfl rfl fun b21 hb21 => ?_
              cases b21 with
              | true =>
                replace h := brT hb21 h
                refine ve ?_
                refine W2 [1, 4, 6, 8, 53] [101] [1006] (l := [(1, .c (.ptr _ _ _ _)), (4, .c (.row _ _ _)), (6, .c (.own _ _ _ _)), (8, .c (.int _ _)), (53, .c (.bool true))]) (h := [(101, ⟨0, 10, [[.int _ _, .int _ _, .int _ _, .int _ _, .int _ _, .int _ _, .int _ _, .int _ _, .int _ _, .row _ _ _]]⟩)]) (h' := [(1006, ⟨0, 1, r17.2.map en_u8⟩)]) ⟨⟨_, rfl, enOk_u8.allClosed _ _ r17.2⟩, trivial⟩ rfl rfl rfl ?_
                refine W_true rfl ?_
                refine W_seq ?_
                refine W_regV he rfl ?_
                refine v0 (sA rfl [] rfl) rfl ?_
                refine ve ?_
                refine W2 [2] [] [] (l := [(2, .c (.bool false))]) (h := []) (h' := []) trivial rfl rfl rfl ?_
                obtain rfl := Option.some.inj h
                exact W_ret (r0 rfl rfl)
              | false =>
                replace h := brF hb21 h
                refine ve ?_
                refine W2 [1, 4, 6, 8, 53] [101] [1006] (l := [(1, .c (.ptr _ _ _ _)), (4, .c (.row _ _ _)), (6, .c (.own _ _ _ _)), (8, .c (.int _ _)), (53, .c (.bool false))]) (h := [(101, ⟨0, 10, [[.int _ _, .int _ _, .int _ _, .int _ _, .int _ _, .int _ _, .int _ _, .int _ _, .int _ _, .row _ _ _]]⟩)]) (h' := [(1006, ⟨0, 1, r17.2.map en_u8⟩)]) ⟨⟨_, rfl, enOk_u8.allClosed _ _ r17.2⟩, trivial⟩ rfl rfl rfl ?_
                refine W_false rfl ?_
                refine W_skip ?_
                refine W_seq ?_
                refine W_regV he rfl ?_
                refine v0 (sLd rfl rfl) rfl ?_
                obtain ⟨r22, hr22, h⟩ := bnd2 h
                refine v0 (sCm (w_laws_toOp K a0 _ hr22) ok_laws_toOp rfl rfl rfl rfl) rfl ?_
                obtain ⟨r23, hr23, h⟩ := bnd2 h
                refine v0 (sCm (w_impl_PutOp K r22 _ hr23) ok_impl_PutOp rfl rfl rfl rfl) rfl ?_
                refine v0 (sA rfl [] rfl) rfl ?_
                refine ve ?_
                refine W2 [4, 6, 8, 10] [] [1006] (l := [(4, .c (.row _ _ _)), (6, .c (.own _ _ _ _)), (8, .c (.int _ _)), (10, .c (.row _ _ _))]) (h := []) (h' := [(1006, ⟨0, 1, r17.2.map en_u8⟩)]) ⟨⟨_, rfl, enOk_u8.allClosed _ _ r17.2⟩, trivial⟩ rfl rfl rfl ?_
                refine W_seq ?_
                refine W_seq ?_
                refine W_regV he rfl ?_
                refine v0 (sM rfl [] rfl) rfl ?_
                refine v0 (sM rfl [] rfl) rfl ?_
                obtain ⟨r24, hr24, h⟩ := bnd2 h
                refine vB (sCm (w_laws_eqByteS K r23 r4 _ hr24) ok_laws_eqByteS rfl rfl rfl rfl) rfl rfl fun b25 hb25 => ?_
                cases b25 with
                | true =>
                  replace h := brT hb25 h
                  refine v0 (sNt rfl rfl) rfl ?_
                  refine ve ?_
                  refine W2 [6, 8, 60] [] [1006] (l := [(6, .c (.own _ _ _ _)), (8, .c (.int _ _)), (60, .c (.bool false))]) (h := []) (h' := [(1006, ⟨0, 1, r17.2.map en_u8⟩)]) ⟨⟨_, rfl, enOk_u8.allClosed _ _ r17.2⟩, trivial⟩ rfl rfl rfl ?_
                  refine W_false rfl ?_
                  refine W_skip ?_
                  refine W_seq ?_
                  refine W_regV he rfl ?_
                  refine v0 (sA rfl [] rfl) rfl ?_
                  refine ve ?_
                  refine W2 [6, 8, 9] [] [1006] (l := [(6, .c (.own _ _ _ _)), (8, .c (.int _ _)), (9, .c (.int _ _))]) (h := []) (h' := [(1006, ⟨0, 1, r17.2.map en_u8⟩)]) ⟨⟨_, rfl, enOk_u8.allClosed _ _ r17.2⟩, trivial⟩ rfl rfl rfl ?_
                  refine W_seq ?_
                  refine W_regV he rfl ?_
                  refine v0 (sM rfl [] rfl) rfl ?_
                  refine v0 (sM rfl [] rfl) rfl ?_
                  obtain ⟨r26, hr26, h⟩ := bnd2 h
                  refine v0 (sCle (w_laws_heldByteS K r17.2 1 _ hr26) ok_laws_heldByteS [1006] rfl rfl (low_cons (low_lent (l := r17.2) enOk_u8 rfl rfl rfl) (low_cons (rfl) (low_nil))) rfl) rfl ?_
                  refine v0 (sA rfl [] rfl) rfl ?_
                  refine ve ?_
                  refine W2 [8, 9] [] [] (l := [(8, .c (.int _ _)), (9, .c (.int _ _))]) (h := []) (h' := []) trivial rfl rfl rfl ?_
                  refine W_seq ?_
                  refine W_seq ?_
                  refine W_regV he rfl ?_
                  refine v0 (sM rfl [] rfl) rfl ?_
                  refine vB (sBi rfl rfl rfl rfl) rfl rfl fun b27 hb27 => ?_
                  cases b27 with
                  | true =>
                    replace h := brT hb27 h
                    refine ve ?_
                    refine W2 [8, 9, 65] [] [] (l := [(8, .c (.int _ _)), (9, .c (.int _ _)), (65, .c (.bool true))]) (h := []) (h' := []) trivial rfl rfl rfl ?_
                    refine W_true rfl ?_
                    refine W_seq ?_
                    refine W_regV he rfl ?_
                    refine v0 (sA rfl [] rfl) rfl ?_
                    refine ve ?_
                    refine W2 [2] [] [] (l := [(2, .c (.bool false))]) (h := []) (h' := []) trivial rfl rfl rfl ?_
                    obtain rfl := Option.some.inj h
                    exact W_ret (r0 rfl rfl)
                  | false =>
                    replace h := brF hb27 h
                    refine ve ?_
                    refine W2 [8, 9, 65] [] [] (l := [(8, .c (.int _ _)), (9, .c (.int _ _)), (65, .c (.bool false))]) (h := []) (h' := []) trivial rfl rfl rfl ?_
                    refine W_false rfl ?_
                    refine W_skip ?_
                    refine W_seq ?_
                    refine W_seq ?_
                    refine W_regV he rfl ?_
                    refine v0 (sM rfl [] rfl) rfl ?_
                    refine v0 (sM rfl [] rfl) rfl ?_
                    refine vB (sBi rfl rfl rfl rfl) rfl rfl fun b28 hb28 => ?_
                    cases b28 with
                    | true =>
                      replace h := brT hb28 h
                      refine ve ?_
                      refine W2 [68] [] [] (l := [(68, .c (.bool true))]) (h := []) (h' := []) trivial rfl rfl rfl ?_
                      refine W_true rfl ?_
                      refine W_seq ?_
                      refine W_regV he rfl ?_
                      refine v0 (sA rfl [] rfl) rfl ?_
                      refine ve ?_
                      refine W2 [2] [] [] (l := [(2, .c (.bool false))]) (h := []) (h' := []) trivial rfl rfl rfl ?_
                      obtain rfl := Option.some.inj h
                      exact W_ret (r0 rfl rfl)
                    | false =>
                      replace h := brF hb28 h
                      refine ve ?_
                      refine W2 [68] [] [] (l := [(68, .c (.bool false))]) (h := []) (h' := []) trivial rfl rfl rfl ?_
                      refine W_false rfl ?_
                      refine W_skip ?_
                      refine W_seq ?_
                      refine W_regV he rfl ?_
                      refine v0 (sA rfl [] rfl) rfl ?_
                      refine ve ?_
                      refine W2 [2] [] [] (l := [(2, .c (.bool true))]) (h := []) (h' := []) trivial rfl rfl rfl ?_
                      obtain rfl := Option.some.inj h
                      exact W_ret (r0 rfl rfl)
                | false =>
                  replace h := brF hb25 h
                  refine v0 (sNt rfl rfl) rfl ?_
                  refine ve ?_
                  refine W2 [6, 8, 60] [] [1006] (l := [(6, .c (.own _ _ _ _)), (8, .c (.int _ _)), (60, .c (.bool true))]) (h := []) (h' := [(1006, ⟨0, 1, r17.2.map en_u8⟩)]) ⟨⟨_, rfl, enOk_u8.allClosed _ _ r17.2⟩, trivial⟩ rfl rfl rfl ?_
                  refine W_true rfl ?_
                  refine W_seq ?_
                  refine W_regV he rfl ?_
                  refine v0 (sA rfl [] rfl) rfl ?_
                  refine ve ?_
                  refine W2 [2] [] [] (l := [(2, .c (.bool false))]) (h := []) (h' := []) trivial rfl rfl rfl ?_
                  obtain rfl := Option.some.inj h
                  exact W_ret (r0 rfl rfl)
          | false =>
            replace h := brF hb16 h
            refine u0 (sNt rfl rfl) rfl rfl rfl ?_
            refine v0 (sPk rfl [] rfl rfl) rfl ?_
            refine ve ?_
            refine W2 [1, 4, 6, 42] [101] [1006] (l := [(1, .c (.ptr _ _ _ _)), (4, .c (.row _ _ _)), (6, .c (.own _ _ _ _)), (42, .c (.bool true))]) (h := [(101, ⟨0, 10, [[.int _ _, .int _ _, .int _ _, .int _ _, .int _ _, .int _ _, .int _ _, .int _ _, .int _ _, .row _ _ _]]⟩)]) (h' := [(1006, ⟨0, 1, r6.map en_u8⟩)]) ⟨⟨_, rfl, enOk_u8.allClosed _ _ r6⟩, trivial⟩ rfl rfl rfl ?_
            refine W_true rfl ?_
            refine W_seq ?_
            refine W_regV he rfl ?_
            refine v0 (sA rfl [] rfl) rfl ?_
            refine ve ?_
            refine W2 [2] [] [] (l := [(2, .c (.bool false))]) (h := []) (h' := []) trivial rfl rfl rfl ?_
            obtain rfl := Option.some.inj h
            exact W_ret (r0 rfl rfl)
      | false =>
        replace h := brF hb11 h
        refine g0 (sNt rfl rfl) rfl ?_
        refine ge ⟨rfl, ?_⟩
        refine W2 [1, 4, 5, 6, 31] [101, 102] [1006, 1020] (l := [(1, .c (.ptr _ _ _ _)), (4, .c (.row _ _ _)), (5, .c (.ptr _ _ _ _)), (6, .c (.own _ _ _ _)), (31, .c (.bool true))]) (h := [(101, ⟨0, 10, [[.int _ _, .int _ _, .int _ _, .int _ _, .int _ _, .int _ _, .int _ _, .int _ _, .int _ _, .row _ _ _]]⟩), (102, ⟨0, 10, [[.int _ _, .int _ _, .int _ _, .int _ _, .int _ _, .int _ _, .int _ _, .int _ _, .int _ _, .own _ _ _ _]]⟩)]) (h' := [(1006, ⟨0, 1, r6.map en_u8⟩), (1020, ⟨0, 1, r5.fB.map en_u8⟩)]) ⟨⟨_, rfl, enOk_u8.allClosed _ _ r6⟩, ⟨⟨_, rfl, enOk_u8.allClosed _ _ r5.fB⟩, trivial⟩⟩ rfl rfl rfl ?_
        refine W_true rfl ?_
        refine W_seq ?_
        refine W_regV he rfl ?_
        refine v0 (sA rfl [] rfl) rfl ?_
        refine ve ?_
        refine W2 [2] [] [] (l := [(2, .c (.bool false))]) (h := []) (h' := []) trivial rfl rfl rfl ?_
        obtain rfl := Option.some.inj h
        exact W_ret (r0 rfl rfl)
    | false =>
      replace h := brF hb8 h
      refine v0 (sNt rfl rfl) rfl ?_
      refine ve ?_
      refine W2 [1, 4, 5, 6, 26] [101, 102] [1006, 1020] (l := [(1, .c (.ptr _ _ _ _)), (4, .c (.row _ _ _)), (5, .c (.ptr _ _ _ _)), (6, .c (.own _ _ _ _)), (26, .c (.bool true))]) (h := [(101, ⟨0, 10, [[.int _ _, .int _ _, .int _ _, .int _ _, .int _ _, .int _ _, .int _ _, .int _ _, .int _ _, .row _ _ _]]⟩), (102, ⟨0, 10, [[.int _ _, .int _ _, .int _ _, .int _ _, .int _ _, .int _ _, .int _ _, .int _ _, .int _ _, .own _ _ _ _]]⟩)]) (h' := [(1006, ⟨0, 1, r6.map en_u8⟩), (1020, ⟨0, 1, r5.fB.map en_u8⟩)]) ⟨⟨_, rfl, enOk_u8.allClosed _ _ r6⟩, ⟨⟨_, rfl, enOk_u8.allClosed _ _ r5.fB⟩, trivial⟩⟩ rfl rfl rfl ?_
      refine W_true rfl ?_
      refine W_seq ?_
      refine W_regV he rfl ?_
      refine v0 (sA rfl [] rfl) rfl ?_
      refine ve ?_
      refine W2 [2] [] [] (l := [(2, .c (.bool false))]) (h := []) (h' := []) trivial rfl rfl rfl ?_
      obtain rfl := Option.some.inj h
      exact W_ret (r0 rfl rfl)
theorem ok_laws_FnExactPutOp : FnOk Try.prog 12 := ⟨_, Try.func12, rfl, rfl⟩


def Wf_i64 (x : Int) : Prop := (Lit.int .i64 x).wf = true
def Wf_laws_Handle (x : T_laws_Handle) : Prop := Wf_i64 x.fSlot ∧ Wf_i64 x.fGen
def Wf_laws_Ref (x : T_laws_Ref) : Prop := Wf_laws_Handle x.fH ∧ Wf_i64 x.fEp ∧ Wf_i64 x.fNo
def Wf_u8 (x : Int) : Prop := (Lit.int .u8 x).wf = true
def Wf_Lu8 (x : List Int) : Prop := (∀ a ∈ x, Wf_u8 a) ∧ x.length * 1 ≤ reachBytes ∧ x.length ≤ maxLen
def Wf_laws_Op (x : T_laws_Op) : Prop := Wf_i64 x.fKind ∧ Wf_laws_Handle x.fH ∧ Wf_laws_Ref x.fR ∧ Wf_i64 x.fN ∧ Wf_i64 x.fM ∧ Wf_Lu8 x.fB
def Wf_impl_Handle (x : T_impl_Handle) : Prop := Wf_i64 x.fSlot ∧ Wf_i64 x.fGen
def Wf_impl_Ref (x : T_impl_Ref) : Prop := Wf_impl_Handle x.fH ∧ Wf_i64 x.fEp ∧ Wf_i64 x.fNo
def Wf_impl_Op (x : T_impl_Op) : Prop := Wf_i64 x.fKind ∧ Wf_impl_Handle x.fH ∧ Wf_impl_Ref x.fR ∧ Wf_i64 x.fN ∧ Wf_i64 x.fM ∧ Wf_Lu8 x.fB
theorem lf_i64 {v : V} (h : Lf tab 3 v) : ∃ a, v = .int .i64 a ∧ Wf_i64 a := lf_int h rfl rfl
theorem ro_i64 (x : List V) (hl : x.length = 1) (h : ∀ (i : Nat) l v, ([3] : List Nat)[i]? = some l → x[i]? = some v → Lf tab l v) : ∃ a, x = en_i64 a ∧ Wf_i64 a := by
  match x, hl with
  | [v0], _ =>
    obtain ⟨x0, rfl, w0⟩ := lf_i64 (h 0 _ _ rfl rfl)
    exact ⟨x0, rfl, w0⟩
theorem ta_i64 {x : A} (h : TA tab 3 x) : ∃ a, x = .c (.int .i64 a) ∧ Wf_i64 a := let ⟨v, e, h1⟩ := ta_one h rfl rfl; let ⟨a, e2, w⟩ := lf_i64 h1; ⟨a, by rw [e, e2], w⟩
theorem ro_laws_Handle (x : List V) (hl : x.length = 2) (h : ∀ (i : Nat) l v, ([3, 3] : List Nat)[i]? = some l → x[i]? = some v → Lf tab l v) : ∃ a, x = en_laws_Handle a ∧ Wf_laws_Handle a := by
  match x, hl with
  | [v0, v1], _ =>
    obtain ⟨x0, rfl, w0⟩ := lf_i64 (h 0 _ _ rfl rfl)
    obtain ⟨x1, rfl, w1⟩ := lf_i64 (h 1 _ _ rfl rfl)
    exact ⟨(T_laws_Handle.mk x0 x1), rfl, ⟨w0, w1⟩⟩
theorem ta_laws_Handle {x : A} (h : TA tab 39 x) : ∃ a, x = .g [.int .i64 a.fSlot, .int .i64 a.fGen] ∧ Wf_laws_Handle a := let ⟨vs, e, h1, h2⟩ := ta_agg h rfl rfl rfl; let ⟨a, e2, w⟩ := ro_laws_Handle vs h1 h2; ⟨a, by rw [e, e2]; rfl, w⟩
theorem ro_laws_Ref (x : List V) (hl : x.length = 4) (h : ∀ (i : Nat) l v, ([3, 3, 3, 3] : List Nat)[i]? = some l → x[i]? = some v → Lf tab l v) : ∃ a, x = en_laws_Ref a ∧ Wf_laws_Ref a := by
  match x, hl with
  | [v0, v1, v2, v3], _ =>
    obtain ⟨x0, rfl, w0⟩ := lf_i64 (h 0 _ _ rfl rfl)
    obtain ⟨x1, rfl, w1⟩ := lf_i64 (h 1 _ _ rfl rfl)
    obtain ⟨x2, rfl, w2⟩ := lf_i64 (h 2 _ _ rfl rfl)
    obtain ⟨x3, rfl, w3⟩ := lf_i64 (h 3 _ _ rfl rfl)
    exact ⟨(T_laws_Ref.mk (T_laws_Handle.mk x0 x1) x2 x3), rfl, ⟨⟨w0, w1⟩, w2, w3⟩⟩
theorem ta_laws_Ref {x : A} (h : TA tab 41 x) : ∃ a, x = .g [.int .i64 a.fH.fSlot, .int .i64 a.fH.fGen, .int .i64 a.fEp, .int .i64 a.fNo] ∧ Wf_laws_Ref a := let ⟨vs, e, h1, h2⟩ := ta_agg h rfl rfl rfl; let ⟨a, e2, w⟩ := ro_laws_Ref vs h1 h2; ⟨a, by rw [e, e2]; rfl, w⟩
theorem lf_u8 {v : V} (h : Lf tab 5 v) : ∃ a, v = .int .u8 a ∧ Wf_u8 a := lf_int h rfl rfl
theorem ro_u8 (x : List V) (hl : x.length = 1) (h : ∀ (i : Nat) l v, ([5] : List Nat)[i]? = some l → x[i]? = some v → Lf tab l v) : ∃ a, x = en_u8 a ∧ Wf_u8 a := by
  match x, hl with
  | [v0], _ =>
    obtain ⟨x0, rfl, w0⟩ := lf_u8 (h 0 _ _ rfl rfl)
    exact ⟨x0, rfl, w0⟩
theorem ta_u8 {x : A} (h : TA tab 5 x) : ∃ a, x = .c (.int .u8 a) ∧ Wf_u8 a := let ⟨v, e, h1⟩ := ta_one h rfl rfl; let ⟨a, e2, w⟩ := lf_u8 h1; ⟨a, by rw [e, e2], w⟩
theorem lf_Lu8 {v : V} (h : Lf tab 30 v) : ∃ a, v = .row false 1 (a.map en_u8) ∧ Wf_Lu8 a := let ⟨l, e, h1, h2, h3⟩ := lf_row h rfl rfl rfl rfl ro_u8; ⟨l, e, h1, h2, h3⟩
theorem ro_Lu8 (x : List V) (hl : x.length = 1) (h : ∀ (i : Nat) l v, ([30] : List Nat)[i]? = some l → x[i]? = some v → Lf tab l v) : ∃ a, x = en_Lu8 a ∧ Wf_Lu8 a := by
  match x, hl with
  | [v0], _ =>
    obtain ⟨x0, rfl, w0⟩ := lf_Lu8 (h 0 _ _ rfl rfl)
    exact ⟨x0, rfl, w0⟩
theorem ta_Lu8 {x : A} (h : TA tab 30 x) : ∃ a, x = .c (.row false 1 (a.map en_u8)) ∧ Wf_Lu8 a := let ⟨v, e, h1⟩ := ta_one h rfl rfl; let ⟨a, e2, w⟩ := lf_Lu8 h1; ⟨a, by rw [e, e2], w⟩
theorem ro_laws_Op (x : List V) (hl : x.length = 10) (h : ∀ (i : Nat) l v, ([3, 3, 3, 3, 3, 3, 3, 3, 3, 30] : List Nat)[i]? = some l → x[i]? = some v → Lf tab l v) : ∃ a, x = en_laws_Op a ∧ Wf_laws_Op a := by
  match x, hl with
  | [v0, v1, v2, v3, v4, v5, v6, v7, v8, v9], _ =>
    obtain ⟨x0, rfl, w0⟩ := lf_i64 (h 0 _ _ rfl rfl)
    obtain ⟨x1, rfl, w1⟩ := lf_i64 (h 1 _ _ rfl rfl)
    obtain ⟨x2, rfl, w2⟩ := lf_i64 (h 2 _ _ rfl rfl)
    obtain ⟨x3, rfl, w3⟩ := lf_i64 (h 3 _ _ rfl rfl)
    obtain ⟨x4, rfl, w4⟩ := lf_i64 (h 4 _ _ rfl rfl)
    obtain ⟨x5, rfl, w5⟩ := lf_i64 (h 5 _ _ rfl rfl)
    obtain ⟨x6, rfl, w6⟩ := lf_i64 (h 6 _ _ rfl rfl)
    obtain ⟨x7, rfl, w7⟩ := lf_i64 (h 7 _ _ rfl rfl)
    obtain ⟨x8, rfl, w8⟩ := lf_i64 (h 8 _ _ rfl rfl)
    obtain ⟨x9, rfl, w9⟩ := lf_Lu8 (h 9 _ _ rfl rfl)
    exact ⟨(T_laws_Op.mk x0 (T_laws_Handle.mk x1 x2) (T_laws_Ref.mk (T_laws_Handle.mk x3 x4) x5 x6) x7 x8 x9), rfl, ⟨w0, ⟨w1, w2⟩, ⟨⟨w3, w4⟩, w5, w6⟩, w7, w8, w9⟩⟩
theorem ta_laws_Op {x : A} (h : TA tab 43 x) : ∃ a, x = .g [.int .i64 a.fKind, .int .i64 a.fH.fSlot, .int .i64 a.fH.fGen, .int .i64 a.fR.fH.fSlot, .int .i64 a.fR.fH.fGen, .int .i64 a.fR.fEp, .int .i64 a.fR.fNo, .int .i64 a.fN, .int .i64 a.fM, .row false 1 (a.fB.map en_u8)] ∧ Wf_laws_Op a := let ⟨vs, e, h1, h2⟩ := ta_agg h rfl rfl rfl; let ⟨a, e2, w⟩ := ro_laws_Op vs h1 h2; ⟨a, by rw [e, e2]; rfl, w⟩
theorem ro_impl_Handle (x : List V) (hl : x.length = 2) (h : ∀ (i : Nat) l v, ([3, 3] : List Nat)[i]? = some l → x[i]? = some v → Lf tab l v) : ∃ a, x = en_impl_Handle a ∧ Wf_impl_Handle a := by
  match x, hl with
  | [v0, v1], _ =>
    obtain ⟨x0, rfl, w0⟩ := lf_i64 (h 0 _ _ rfl rfl)
    obtain ⟨x1, rfl, w1⟩ := lf_i64 (h 1 _ _ rfl rfl)
    exact ⟨(T_impl_Handle.mk x0 x1), rfl, ⟨w0, w1⟩⟩
theorem ta_impl_Handle {x : A} (h : TA tab 46 x) : ∃ a, x = .g [.int .i64 a.fSlot, .int .i64 a.fGen] ∧ Wf_impl_Handle a := let ⟨vs, e, h1, h2⟩ := ta_agg h rfl rfl rfl; let ⟨a, e2, w⟩ := ro_impl_Handle vs h1 h2; ⟨a, by rw [e, e2]; rfl, w⟩
theorem ro_impl_Ref (x : List V) (hl : x.length = 4) (h : ∀ (i : Nat) l v, ([3, 3, 3, 3] : List Nat)[i]? = some l → x[i]? = some v → Lf tab l v) : ∃ a, x = en_impl_Ref a ∧ Wf_impl_Ref a := by
  match x, hl with
  | [v0, v1, v2, v3], _ =>
    obtain ⟨x0, rfl, w0⟩ := lf_i64 (h 0 _ _ rfl rfl)
    obtain ⟨x1, rfl, w1⟩ := lf_i64 (h 1 _ _ rfl rfl)
    obtain ⟨x2, rfl, w2⟩ := lf_i64 (h 2 _ _ rfl rfl)
    obtain ⟨x3, rfl, w3⟩ := lf_i64 (h 3 _ _ rfl rfl)
    exact ⟨(T_impl_Ref.mk (T_impl_Handle.mk x0 x1) x2 x3), rfl, ⟨⟨w0, w1⟩, w2, w3⟩⟩
theorem ta_impl_Ref {x : A} (h : TA tab 48 x) : ∃ a, x = .g [.int .i64 a.fH.fSlot, .int .i64 a.fH.fGen, .int .i64 a.fEp, .int .i64 a.fNo] ∧ Wf_impl_Ref a := let ⟨vs, e, h1, h2⟩ := ta_agg h rfl rfl rfl; let ⟨a, e2, w⟩ := ro_impl_Ref vs h1 h2; ⟨a, by rw [e, e2]; rfl, w⟩
theorem ro_impl_Op (x : List V) (hl : x.length = 10) (h : ∀ (i : Nat) l v, ([3, 3, 3, 3, 3, 3, 3, 3, 3, 30] : List Nat)[i]? = some l → x[i]? = some v → Lf tab l v) : ∃ a, x = en_impl_Op a ∧ Wf_impl_Op a := by
  match x, hl with
  | [v0, v1, v2, v3, v4, v5, v6, v7, v8, v9], _ =>
    obtain ⟨x0, rfl, w0⟩ := lf_i64 (h 0 _ _ rfl rfl)
    obtain ⟨x1, rfl, w1⟩ := lf_i64 (h 1 _ _ rfl rfl)
    obtain ⟨x2, rfl, w2⟩ := lf_i64 (h 2 _ _ rfl rfl)
    obtain ⟨x3, rfl, w3⟩ := lf_i64 (h 3 _ _ rfl rfl)
    obtain ⟨x4, rfl, w4⟩ := lf_i64 (h 4 _ _ rfl rfl)
    obtain ⟨x5, rfl, w5⟩ := lf_i64 (h 5 _ _ rfl rfl)
    obtain ⟨x6, rfl, w6⟩ := lf_i64 (h 6 _ _ rfl rfl)
    obtain ⟨x7, rfl, w7⟩ := lf_i64 (h 7 _ _ rfl rfl)
    obtain ⟨x8, rfl, w8⟩ := lf_i64 (h 8 _ _ rfl rfl)
    obtain ⟨x9, rfl, w9⟩ := lf_Lu8 (h 9 _ _ rfl rfl)
    exact ⟨(T_impl_Op.mk x0 (T_impl_Handle.mk x1 x2) (T_impl_Ref.mk (T_impl_Handle.mk x3 x4) x5 x6) x7 x8 x9), rfl, ⟨w0, ⟨w1, w2⟩, ⟨⟨w3, w4⟩, w5, w6⟩, w7, w8, w9⟩⟩
theorem ta_impl_Op {x : A} (h : TA tab 50 x) : ∃ a, x = .g [.int .i64 a.fKind, .int .i64 a.fH.fSlot, .int .i64 a.fH.fGen, .int .i64 a.fR.fH.fSlot, .int .i64 a.fR.fH.fGen, .int .i64 a.fR.fEp, .int .i64 a.fR.fNo, .int .i64 a.fN, .int .i64 a.fM, .row false 1 (a.fB.map en_u8)] ∧ Wf_impl_Op a := let ⟨vs, e, h1, h2⟩ := ta_agg h rfl rfl rfl; let ⟨a, e2, w⟩ := ro_impl_Op vs h1 h2; ⟨a, by rw [e, e2]; rfl, w⟩

theorem ownKnob0 : ownKnob Try.prog.godebug = none := by kernel_rfl
theorem laidOut0 : laidOutB Try.prog = true := by kernel_rfl
end Go.Proofs.Ytlenlhlggknelaa
