/- Models of the program's functions, and the walks that show them. Printed by gen.py. -/
import Derived.Test.YtlenlhlggknelaaEng23
import Derived.Test.YtlenlhlggknelaaEng26
import Derived.Test.YtlenlhlggknelaaTab
set_option linter.unusedVariables false
set_option linter.unusedSimpArgs false
namespace Go.Proofs.Ytlenlhlggknelaa
open Go.Eng Go.ChangeShapes Go.WideShapes Go.ChangeAt Go.RowKit
def en_u8 (x : Int) : List V := [.int .u8 x]
theorem enOk_u8 : En en_u8 1 := ⟨fun _ => rfl, fun _ => rfl, fun _ => rfl, fun x => rfl⟩
def en_Lu8 (x : List Int) : List V := [.row false 1 (x.map en_u8)]
theorem enOk_Lu8 : En en_Lu8 1 := ⟨fun _ => rfl, fun _ => rfl, fun _ => rfl, fun l => by show [V.share _] = _; rw [V.share, enOk_u8.shareLL]; rfl⟩
def en_i64 (x : Int) : List V := [.int .i64 x]
theorem enOk_i64 : En en_i64 1 := ⟨fun _ => rfl, fun _ => rfl, fun _ => rfl, fun x => rfl⟩

/-! ### loop.example/g00499/laws.toByteS -/
def l_laws_toByteS_4 (K : Nat) (a0 : List Int) : Nat → Int → (List Int) → Option ((List Int))
  | 0, _, _ => none
  | n4 + 1, v2, v3 => (bif (decide (v2 < (a0.length : Int))) then (if (0 : Int) ≤ v2 ∧ v2 < (a0.length : Int) then (if (0 : Int) ≤ v2 ∧ v2 < (v3.length : Int) then (l_laws_toByteS_4 K a0 n4 (iAdd .i64 v2 1) (v3.set v2.toNat (gt a0 v2))) else none) else none) else some v3)
def m_laws_toByteS (K : Nat) (a0 : List Int) : Option ((List Int)) := (if (0 : Int) ≤ (a0.length : Int) ∧ (a0.length : Int) ≤ (a0.length : Int) ∧ (1 : Int) * (a0.length : Int) ≤ 281474976710656 ∧ (a0.length : Int) ≤ 9223372036854775807 then (l_laws_toByteS_4 K a0 K 0 (List.replicate (a0.length : Int).toNat 0)) else none)
set_option maxRecDepth 20000 in
set_option maxHeartbeats 8000000 in
theorem w_laws_toByteS (K : Nat) (a0 : List Int) (r : (List Int)) (h : m_laws_toByteS K a0 = some r) : Sp Try.prog 21 [.c (.row false 1 (a0.map en_u8))] [] (.c (.row false 1 (r.map en_u8))) [] := by
  refine Sp.of_W tabOk Try.func21 rfl rfl (Nat.le_of_ble_eq_true rfl) (Nat.le_of_ble_eq_true rfl) fun F hP hN hm => ?_
  obtain ⟨P, N, w0, σ0, β0, m⟩ := F
  obtain rfl : P = Try.prog := hP
  obtain rfl : N = 22 := hN
  obtain rfl : m = 1 := hm
  have he : Env ⟨Try.prog, 22, w0, σ0, β0, 1⟩ tab := ⟨Nat.le_of_ble_eq_true rfl, tabOk⟩
  unfold m_laws_toByteS at h
  refine W_seq ?_
  refine W_regV he rfl ?_
  refine v0 (sA rfl [1] rfl) rfl ?_
  refine ve ?_
  refine W2 [0] [] [] (l := [(0, .c (.row _ _ _))]) (h := []) (h' := []) trivial rfl rfl rfl ?_
  refine W_seq ?_
  refine W_regV he rfl ?_
  refine v0 (sM rfl [] rfl) rfl ?_
  refine v0 (sLm rfl rfl rfl rfl) rfl ?_
  obtain ⟨c1, h⟩ := chk h
  refine v0 (sMkm rfl 1003 (f := en_u8) 0 rfl rfl rfl rfl rfl rfl rfl rfl rfl c1) rfl ?_
  refine v0 (sA rfl [] rfl) rfl ?_
  refine ve ?_
  refine W2 [0, 3] [] [1003] (l := [(0, .c (.row _ _ _)), (3, .c (.own _ _ _ _))]) (h := []) (h' := [(1003, ⟨0, 1, (List.replicate (a0.length : Int).toNat 0).map en_u8⟩)]) ⟨⟨_, rfl, enOk_u8.allClosed _ _ (List.replicate (a0.length : Int).toNat 0)⟩, trivial⟩ rfl rfl rfl ?_
  refine W_seq ?_
  refine W_seq ?_
  refine W_regV he rfl ?_
  refine v0 (sA rfl [] rfl) rfl ?_
  refine ve ?_
  refine W2 [0, 3, 4] [] [1003] (l := [(0, .c (.row _ _ _)), (3, .c (.own _ _ _ _)), (4, .c (.int _ _))]) (h := []) (h' := [(1003, ⟨0, 1, (List.replicate (a0.length : Int).toNat 0).map en_u8⟩)]) ⟨⟨_, rfl, enOk_u8.allClosed _ _ (List.replicate (a0.length : Int).toNat 0)⟩, trivial⟩ rfl rfl rfl ?_
  refine W_block ?_
  refine W2 [0, 3, 4] [] [1003] (l := [(0, .c (.row _ _ _)), (3, .c (.own _ _ _ _)), (4, .c (.int _ _))]) (h := []) (h' := [(1003, ⟨0, 1, (List.replicate (a0.length : Int).toNat 0).map en_u8⟩)]) ⟨⟨_, rfl, enOk_u8.allClosed _ _ (List.replicate (a0.length : Int).toNat 0)⟩, trivial⟩ rfl rfl rfl ?_
  refine W_loopW (fun n4 S => ∃ (v2 : Int), ∃ (v3 : List Int), S = StL [(0, .c (.row false 1 (a0.map en_u8))), (3, .c (.own 1003 0 0 v3.length)), (4, .c (.int .i64 v2))] ([] ++ [(1003, ⟨0, 1, v3.map en_u8⟩)]) ∧ l_laws_toByteS_4 K a0 n4 v2 v3 = some r) K ⟨_, _, rfl, h⟩ ?_
  rintro n4 S ⟨v2, v3, rfl, h⟩
  cases n4 with
  | zero => simp [l_laws_toByteS_4] at h
  | succ n4 =>
    rw [l_laws_toByteS_4] at h
    refine W_seq ?_
    refine W_seq ?_
    refine W_regV he rfl ?_
    refine v0 (sM rfl [] rfl) rfl ?_
    refine v0 (sM rfl [] rfl) rfl ?_
    refine v0 (sLm rfl rfl rfl rfl) rfl ?_
    refine vB (sBi rfl rfl rfl rfl) rfl rfl fun b5 hb5 => ?_
    cases b5 with
    | true =>
      replace h := brT hb5 h
      refine ve ?_
      refine W2 [0, 3, 4, 11] [] [1003] (l := [(0, .c (.row _ _ _)), (3, .c (.own _ _ _ _)), (4, .c (.int _ _)), (11, .c (.bool true))]) (h := []) (h' := [(1003, ⟨0, 1, v3.map en_u8⟩)]) ⟨⟨_, rfl, enOk_u8.allClosed _ _ v3⟩, trivial⟩ rfl rfl rfl ?_
      refine W_true rfl ?_
      refine W_skip ?_
      refine W_seq ?_
      refine W_block ?_
      refine W_regV he rfl ?_
      refine v0 (sM rfl [] rfl) rfl ?_
      refine v0 (sM rfl [] rfl) rfl ?_
      refine v0 (sM rfl [] rfl) rfl ?_
      refine v0 (sM rfl [] rfl) rfl ?_
      obtain ⟨c6, h⟩ := chk h
      refine v0 (sIRm rfl rfl rfl rfl c6) rfl ?_
      refine v0 (sLI rfl rfl (en_u8 (gt a0 v2)) (gt_at _ c6) rfl rfl rfl) rfl ?_
      obtain ⟨c7, h⟩ := chk h
      refine v0 (sIOm rfl rfl rfl c7) rfl ?_
      refine v0 (sSkm rfl rfl [] v3 (gt a0 v2) c7 rfl rfl rfl rfl rfl rfl rfl rfl rfl) rfl ?_
      refine ve ?_
      refine W.weak (wk_len 3 (n' := (v3.set v2.toNat (gt a0 v2)).length) (by simp only [List.length_set]) rfl) ?_
      refine W2 [0, 3, 4] [] [1003] (l := [(0, .c (.row _ _ _)), (3, .c (.own _ _ _ _)), (4, .c (.int _ _))]) (h := []) (h' := [(1003, ⟨0, 1, (v3.set v2.toNat (gt a0 v2)).map en_u8⟩)]) ⟨⟨_, rfl, enOk_u8.allClosed _ _ (v3.set v2.toNat (gt a0 v2))⟩, trivial⟩ rfl rfl rfl ?_
      refine W_regV he rfl ?_
      refine v0 (sM rfl [] rfl) rfl ?_
      refine v0 (sBi rfl rfl rfl rfl) rfl ?_
      refine v0 (sA rfl [] rfl) rfl ?_
      refine ve ?_
      exact ⟨n4, _, Nat.lt_succ_self n4, wk2 [0, 3, 4] [] [1003] (l := [(0, .c (.row _ _ _)), (3, .c (.own _ _ _ _)), (4, .c (.int _ _))]) (h := []) (h' := [(1003, ⟨0, 1, (v3.set v2.toNat (gt a0 v2)).map en_u8⟩)]) ⟨⟨_, rfl, enOk_u8.allClosed _ _ (v3.set v2.toNat (gt a0 v2))⟩, trivial⟩ rfl rfl rfl, _, _, rfl, h⟩
    | false =>
      replace h := brF hb5 h
      refine ve ?_
      refine W2 [0, 3, 4, 11] [] [1003] (l := [(0, .c (.row _ _ _)), (3, .c (.own _ _ _ _)), (4, .c (.int _ _)), (11, .c (.bool false))]) (h := []) (h' := [(1003, ⟨0, 1, v3.map en_u8⟩)]) ⟨⟨_, rfl, enOk_u8.allClosed _ _ v3⟩, trivial⟩ rfl rfl rfl ?_
      refine W_false rfl ?_
      refine W_exit (ex_then (ex_then (ex_hit ?_)))
      refine W_seq ?_
      refine W_regV he rfl ?_
      refine v0 (sM rfl [] rfl) rfl ?_
      refine v0 (sA rfl [] rfl) rfl ?_
      refine ve ?_
      refine W2 [2] [] [1003] (l := [(2, .c (.own _ _ _ _))]) (h := []) (h' := [(1003, ⟨0, 1, v3.map en_u8⟩)]) ⟨⟨_, rfl, enOk_u8.allClosed _ _ v3⟩, trivial⟩ rfl rfl rfl ?_
      obtain rfl := Option.some.inj h
      refine W.weak (wk_row 2 enOk_u8 rfl rfl) ?_
      exact W_ret (r0 rfl rfl)
theorem ok_laws_toByteS : FnOk Try.prog 21 := ⟨_, Try.func21, rfl, rfl⟩


/-! ### loop.example/g00499/spec.l1In -/
def m_spec_l1In (K : Nat) (a0 : Int) (a1 : Int) (a2 : Int) : Option (Bool) := (bif (decide (a0 ≥ a1)) then some (decide (a0 ≤ a2)) else some false)
set_option maxRecDepth 20000 in
set_option maxHeartbeats 8000000 in
theorem w_spec_l1In (K : Nat) (a0 : Int) (a1 : Int) (a2 : Int) (r : Bool) (h : m_spec_l1In K a0 a1 a2 = some r) : Sp Try.prog 56 [.c (.int .i64 a0), .c (.int .i64 a1), .c (.int .i64 a2)] [] (.c (.bool r)) [] := by
  refine Sp.of_W tabOk Try.func56 rfl rfl (Nat.le_of_ble_eq_true rfl) (Nat.le_of_ble_eq_true rfl) fun F hP hN hm => ?_
  obtain ⟨P, N, w0, σ0, β0, m⟩ := F
  obtain rfl : P = Try.prog := hP
  obtain rfl : N = 15 := hN
  obtain rfl : m = 1 := hm
  have he : Env ⟨Try.prog, 15, w0, σ0, β0, 1⟩ tab := ⟨Nat.le_of_ble_eq_true rfl, tabOk⟩
  unfold m_spec_l1In at h
  refine W_seq ?_
  refine W_regV he rfl ?_
  refine v0 (sA rfl [] rfl) rfl ?_
  refine ve ?_
  refine W2 [0, 1, 2] [] [] (l := [(0, .c (.int _ _)), (1, .c (.int _ _)), (2, .c (.int _ _))]) (h := []) (h' := []) trivial rfl rfl rfl ?_
  refine W_seq ?_
  refine W_regV he rfl ?_
  refine v0 (sM rfl [] rfl) rfl ?_
  refine v0 (sM rfl [] rfl) rfl ?_
  refine vB (sBi rfl rfl rfl rfl) rfl rfl fun b1 hb1 => ?_
  cases b1 with
  | true =>
    replace h := brT hb1 h
    refine v0 (sM rfl [] rfl) rfl ?_
    refine u0 (sM rfl [] rfl) rfl rfl rfl ?_
    refine u0 (sM rfl [] rfl) rfl rfl rfl ?_
    refine u0 (sBi rfl rfl rfl rfl) rfl rfl rfl ?_
    refine v0 (sPk rfl [] rfl rfl) rfl ?_
    refine v0 (sA rfl [] rfl) rfl ?_
    refine ve ?_
    refine W2 [6] [] [] (l := [(6, .c (.bool _))]) (h := []) (h' := []) trivial rfl rfl rfl ?_
    obtain rfl := Option.some.inj h
    exact W_ret (r0 rfl rfl)
  | false =>
    replace h := brF hb1 h
    refine v0 (sM rfl [] rfl) rfl ?_
    refine uP rfl rfl rfl rfl ?_
    refine uP rfl rfl rfl rfl ?_
    refine uP rfl rfl rfl rfl ?_
    refine v0 (sPk rfl [] rfl rfl) rfl ?_
    refine v0 (sA rfl [] rfl) rfl ?_
    refine ve ?_
    refine W2 [6] [] [] (l := [(6, .c (.bool false))]) (h := []) (h' := []) trivial rfl rfl rfl ?_
    obtain rfl := Option.some.inj h
    exact W_ret (r0 rfl rfl)
theorem ok_spec_l1In : FnOk Try.prog 56 := ⟨_, Try.func56, rfl, rfl⟩


/-! ### loop.example/g00499/spec.PutVar -/
def l_spec_PutVar_6 (K : Nat) : Nat → Int → (List Int) → Option ((List Int))
  | 0, _, _ => none
  | n6 + 1, v4, v5 => (bif (decide (v4 > 127)) then (if (v5 ++ ([(IntKind.u8.wrap (iOr .i64 (iAnd .i64 v4 127) 128))] : List Int)).length * 1 ≤ 140737488355328 ∧ (v5 ++ ([(IntKind.u8.wrap (iOr .i64 (iAnd .i64 v4 127) 128))] : List Int)).length ≤ maxLen then (if (0 : Int) ≤ 7 then (l_spec_PutVar_6 K n6 (iShr .i64 v4 7) (v5 ++ ([(IntKind.u8.wrap (iOr .i64 (iAnd .i64 v4 127) 128))] : List Int))) else none) else none) else (if (v5 ++ ([(IntKind.u8.wrap v4)] : List Int)).length * 1 ≤ 140737488355328 ∧ (v5 ++ ([(IntKind.u8.wrap v4)] : List Int)).length ≤ maxLen then some (v5 ++ ([(IntKind.u8.wrap v4)] : List Int)) else none))
def m_spec_PutVar (K : Nat) (a0 : List Int) (a1 : Int) : Option ((List Int)) := (if (([] : List Int) ++ a0).length * 1 ≤ 140737488355328 ∧ (([] : List Int) ++ a0).length ≤ maxLen then ((m_spec_l1In K a1 0 1000000000).bind fun r2 => (bif r2 then (l_spec_PutVar_6 K K a1 (([] : List Int) ++ a0)) else some (([] : List Int) ++ a0))) else none)
set_option maxRecDepth 20000 in
set_option maxHeartbeats 8000000 in
theorem w_spec_PutVar (K : Nat) (a0 : List Int) (a1 : Int) (r : (List Int)) (h : m_spec_PutVar K a0 a1 = some r) : Sp Try.prog 24 [.c (.row false 1 (a0.map en_u8)), .c (.int .i64 a1)] [] (.c (.row false 1 (r.map en_u8))) [] := by
  refine Sp.of_W tabOk Try.func24 rfl rfl (Nat.le_of_ble_eq_true rfl) (Nat.le_of_ble_eq_true rfl) fun F hP hN hm => ?_
  obtain ⟨P, N, w0, σ0, β0, m⟩ := F
  obtain rfl : P = Try.prog := hP
  obtain rfl : N = 29 := hN
  obtain rfl : m = 1 := hm
  have he : Env ⟨Try.prog, 29, w0, σ0, β0, 1⟩ tab := ⟨Nat.le_of_ble_eq_true rfl, tabOk⟩
  unfold m_spec_PutVar at h
  refine W_seq ?_
  refine W_regV he rfl ?_
  refine v0 (sA rfl [1] rfl) rfl ?_
  refine ve ?_
  refine W2 [0, 1] [] [] (l := [(0, .c (.row _ _ _)), (1, .c (.int _ _))]) (h := []) (h' := []) trivial rfl rfl rfl ?_
  refine W_seq ?_
  refine W_regV he rfl ?_
  refine v0 (sBS rfl 1006 (rows := ([] : List Int).map en_u8) rfl rfl rfl (by kernel_rfl) rfl rfl rfl rfl) rfl ?_
  refine v0 (sM rfl [] rfl) rfl ?_
  obtain ⟨c1, h⟩ := chk h
  refine v0 (sAo rfl 1005 ([] : List Int) a0 enOk_u8 rfl rfl rfl rfl rfl rfl rfl rfl rfl rfl rfl c1) rfl ?_
  refine v0 (sA rfl [] rfl) rfl ?_
  refine ve ?_
  refine W2 [1, 5] [] [1005] (l := [(1, .c (.int _ _)), (5, .c (.own _ _ _ _))]) (h := []) (h' := [(1005, ⟨0, 1, (([] : List Int) ++ a0).map en_u8⟩)]) ⟨⟨_, rfl, enOk_u8.allClosed _ _ (([] : List Int) ++ a0)⟩, trivial⟩ rfl rfl rfl ?_
  refine W_seq ?_
  refine W_seq ?_
  refine W_regV he rfl ?_
  refine v0 (sM rfl [] rfl) rfl ?_
  obtain ⟨r2, hr2, h⟩ := bnd2 h
  refine vB (sCm (w_spec_l1In K a1 0 1000000000 _ hr2) ok_spec_l1In rfl rfl rfl rfl) rfl rfl fun b3 hb3 => ?_
  cases b3 with
  | true =>
    replace h := brT hb3 h
    refine v0 (sNt rfl rfl) rfl ?_
    refine ve ?_
    refine W2 [1, 5, 11] [] [1005] (l := [(1, .c (.int _ _)), (5, .c (.own _ _ _ _)), (11, .c (.bool false))]) (h := []) (h' := [(1005, ⟨0, 1, (([] : List Int) ++ a0).map en_u8⟩)]) ⟨⟨_, rfl, enOk_u8.allClosed _ _ (([] : List Int) ++ a0)⟩, trivial⟩ rfl rfl rfl ?_
    refine W_false rfl ?_
    refine W_skip ?_
    refine W_seq ?_
    refine W_block ?_
    refine W2 [1, 5] [] [1005] (l := [(1, .c (.int _ _)), (5, .c (.own _ _ _ _))]) (h := []) (h' := [(1005, ⟨0, 1, (([] : List Int) ++ a0).map en_u8⟩)]) ⟨⟨_, rfl, enOk_u8.allClosed _ _ (([] : List Int) ++ a0)⟩, trivial⟩ rfl rfl rfl ?_
    refine W_loopW (fun n6 S => ∃ (v4 : Int), ∃ (v5 : List Int), S = StL [(1, .c (.int .i64 v4)), (5, .c (.own 1005 0 0 v5.length))] ([] ++ [(1005, ⟨0, 1, v5.map en_u8⟩)]) ∧ l_spec_PutVar_6 K n6 v4 v5 = some r) K ⟨_, _, rfl, h⟩ ?_
    rintro n6 S ⟨v4, v5, rfl, h⟩
    cases n6 with
    | zero => simp [l_spec_PutVar_6] at h
    | succ n6 =>
      rw [l_spec_PutVar_6] at h
      refine W_seq ?_
      refine W_seq ?_
      refine W_regV he rfl ?_
      refine v0 (sM rfl [] rfl) rfl ?_
      refine vB (sBi rfl rfl rfl rfl) rfl rfl fun b7 hb7 => ?_
      cases b7 with
      | true =>
        replace h := brT hb7 h
        refine ve ?_
        refine W2 [1, 5, 14] [] [1005] (l := [(1, .c (.int _ _)), (5, .c (.own _ _ _ _)), (14, .c (.bool true))]) (h := []) (h' := [(1005, ⟨0, 1, v5.map en_u8⟩)]) ⟨⟨_, rfl, enOk_u8.allClosed _ _ v5⟩, trivial⟩ rfl rfl rfl ?_
        refine W_true rfl ?_
        refine W_skip ?_
        refine W_block ?_
        refine W_seq ?_
        refine W_regV he rfl ?_
        refine v0 (sM rfl [] rfl) rfl ?_
        refine v0 (sM rfl [] rfl) rfl ?_
        refine v0 (sBi rfl rfl rfl rfl) rfl ?_
        refine v0 (sBi rfl rfl rfl rfl) rfl ?_
        refine v0 (sCv rfl rfl rfl rfl rfl rfl) rfl ?_
        refine v0 (sBS rfl 1020 (rows := ([(IntKind.u8.wrap (iOr .i64 (iAnd .i64 v4 127) 128))] : List Int).map en_u8) rfl rfl rfl (by kernel_rfl) rfl rfl rfl rfl) rfl ?_
        obtain ⟨c8, h⟩ := chk h
        refine v0 (sAo rfl 1005 v5 ([(IntKind.u8.wrap (iOr .i64 (iAnd .i64 v4 127) 128))] : List Int) enOk_u8 rfl rfl rfl rfl rfl rfl rfl rfl rfl rfl rfl c8) rfl ?_
        refine v0 (sA rfl [] rfl) rfl ?_
        refine ve ?_
        refine W2 [1, 5] [] [1005] (l := [(1, .c (.int _ _)), (5, .c (.own _ _ _ _))]) (h := []) (h' := [(1005, ⟨0, 1, (v5 ++ ([(IntKind.u8.wrap (iOr .i64 (iAnd .i64 v4 127) 128))] : List Int)).map en_u8⟩)]) ⟨⟨_, rfl, enOk_u8.allClosed _ _ (v5 ++ ([(IntKind.u8.wrap (iOr .i64 (iAnd .i64 v4 127) 128))] : List Int))⟩, trivial⟩ rfl rfl rfl ?_
        refine W_regV he rfl ?_
        refine v0 (sM rfl [] rfl) rfl ?_
        obtain ⟨c9, h⟩ := chk h
        refine v0 (sSr rfl rfl rfl c9) rfl ?_
        refine v0 (sA rfl [] rfl) rfl ?_
        refine ve ?_
        exact ⟨n6, _, Nat.lt_succ_self n6, wk2 [1, 5] [] [1005] (l := [(1, .c (.int _ _)), (5, .c (.own _ _ _ _))]) (h := []) (h' := [(1005, ⟨0, 1, (v5 ++ ([(IntKind.u8.wrap (iOr .i64 (iAnd .i64 v4 127) 128))] : List Int)).map en_u8⟩)]) ⟨⟨_, rfl, enOk_u8.allClosed _ _ (v5 ++ ([(IntKind.u8.wrap (iOr .i64 (iAnd .i64 v4 127) 128))] : List Int))⟩, trivial⟩ rfl rfl rfl, _, _, rfl, h⟩
      | false =>
        replace h := brF hb7 h
        refine ve ?_
        refine W2 [1, 5, 14] [] [1005] (l := [(1, .c (.int _ _)), (5, .c (.own _ _ _ _)), (14, .c (.bool false))]) (h := []) (h' := [(1005, ⟨0, 1, v5.map en_u8⟩)]) ⟨⟨_, rfl, enOk_u8.allClosed _ _ v5⟩, trivial⟩ rfl rfl rfl ?_
        refine W_false rfl ?_
        refine W_exit (ex_then (ex_then (ex_hit ?_)))
        refine W_seq ?_
        refine W_regV he rfl ?_
        refine v0 (sM rfl [] rfl) rfl ?_
        refine v0 (sM rfl [] rfl) rfl ?_
        refine v0 (sCv rfl rfl rfl rfl rfl rfl) rfl ?_
        refine v0 (sBS rfl 1027 (rows := ([(IntKind.u8.wrap v4)] : List Int).map en_u8) rfl rfl rfl (by kernel_rfl) rfl rfl rfl rfl) rfl ?_
        obtain ⟨c10, h⟩ := chk h
        refine v0 (sAo rfl 1004 v5 ([(IntKind.u8.wrap v4)] : List Int) enOk_u8 rfl rfl rfl rfl rfl rfl rfl rfl rfl rfl rfl c10) rfl ?_
        refine v0 (sA rfl [] rfl) rfl ?_
        refine ve ?_
        refine W2 [4] [] [1004] (l := [(4, .c (.own _ _ _ _))]) (h := []) (h' := [(1004, ⟨0, 1, (v5 ++ ([(IntKind.u8.wrap v4)] : List Int)).map en_u8⟩)]) ⟨⟨_, rfl, enOk_u8.allClosed _ _ (v5 ++ ([(IntKind.u8.wrap v4)] : List Int))⟩, trivial⟩ rfl rfl rfl ?_
        obtain rfl := Option.some.inj h
        refine W.weak (wk_row 4 enOk_u8 rfl rfl) ?_
        exact W_ret (r0 rfl rfl)
  | false =>
    replace h := brF hb3 h
    refine v0 (sNt rfl rfl) rfl ?_
    refine ve ?_
    refine W2 [1, 5, 11] [] [1005] (l := [(1, .c (.int _ _)), (5, .c (.own _ _ _ _)), (11, .c (.bool true))]) (h := []) (h' := [(1005, ⟨0, 1, (([] : List Int) ++ a0).map en_u8⟩)]) ⟨⟨_, rfl, enOk_u8.allClosed _ _ (([] : List Int) ++ a0)⟩, trivial⟩ rfl rfl rfl ?_
    refine W_true rfl ?_
    refine W_seq ?_
    refine W_regV he rfl ?_
    refine v0 (sM rfl [] rfl) rfl ?_
    refine v0 (sA rfl [] rfl) rfl ?_
    refine ve ?_
    refine W2 [4] [] [1005] (l := [(4, .c (.own _ _ _ _))]) (h := []) (h' := [(1005, ⟨0, 1, (([] : List Int) ++ a0).map en_u8⟩)]) ⟨⟨_, rfl, enOk_u8.allClosed _ _ (([] : List Int) ++ a0)⟩, trivial⟩ rfl rfl rfl ?_
    obtain rfl := Option.some.inj h
    refine W.weak (wk_row 4 enOk_u8 rfl rfl) ?_
    exact W_ret (r0 rfl rfl)
theorem ok_spec_PutVar : FnOk Try.prog 24 := ⟨_, Try.func24, rfl, rfl⟩


/-! ### loop.example/g00499/laws.toByteS -/
set_option maxRecDepth 20000 in
set_option maxHeartbeats 8000000 in
theorem wo_laws_toByteS (K : Nat) (a0 : List Int) (r : (List Int)) (h : m_laws_toByteS K a0 = some r) : Sp Try.prog 21 [.c (.row false 1 (a0.map en_u8))] [] (.c (.own 1 0 0 r.length)) [⟨0, 1, r.map en_u8⟩] := by
  refine Sp.of_W tabOk Try.func21 rfl rfl (Nat.le_of_ble_eq_true rfl) (Nat.le_of_ble_eq_true rfl) fun F hP hN hm => ?_
  obtain ⟨P, N, w0, σ0, β0, m⟩ := F
  obtain rfl : P = Try.prog := hP
  obtain rfl : N = 22 := hN
  obtain rfl : m = 1 := hm
  have he : Env ⟨Try.prog, 22, w0, σ0, β0, 1⟩ tab := ⟨Nat.le_of_ble_eq_true rfl, tabOk⟩
  unfold m_laws_toByteS at h
  refine W_seq ?_
  refine W_regV he rfl ?_
  refine v0 (sA rfl [1] rfl) rfl ?_
  refine ve ?_
  refine W2 [0] [] [] (l := [(0, .c (.row _ _ _))]) (h := []) (h' := []) trivial rfl rfl rfl ?_
  refine W_seq ?_
  refine W_regV he rfl ?_
  refine v0 (sM rfl [] rfl) rfl ?_
  refine v0 (sLm rfl rfl rfl rfl) rfl ?_
  obtain ⟨c1, h⟩ := chk h
  refine v0 (sMkm rfl 1003 (f := en_u8) 0 rfl rfl rfl rfl rfl rfl rfl rfl rfl c1) rfl ?_
  refine v0 (sA rfl [] rfl) rfl ?_
  refine ve ?_
  refine W2 [0, 3] [] [1003] (l := [(0, .c (.row _ _ _)), (3, .c (.own _ _ _ _))]) (h := []) (h' := [(1003, ⟨0, 1, (List.replicate (a0.length : Int).toNat 0).map en_u8⟩)]) ⟨⟨_, rfl, enOk_u8.allClosed _ _ (List.replicate (a0.length : Int).toNat 0)⟩, trivial⟩ rfl rfl rfl ?_
  refine W_seq ?_
  refine W_seq ?_
  refine W_regV he rfl ?_
  refine v0 (sA rfl [] rfl) rfl ?_
  refine ve ?_
  refine W2 [0, 3, 4] [] [1003] (l := [(0, .c (.row _ _ _)), (3, .c (.own _ _ _ _)), (4, .c (.int _ _))]) (h := []) (h' := [(1003, ⟨0, 1, (List.replicate (a0.length : Int).toNat 0).map en_u8⟩)]) ⟨⟨_, rfl, enOk_u8.allClosed _ _ (List.replicate (a0.length : Int).toNat 0)⟩, trivial⟩ rfl rfl rfl ?_
  refine W_block ?_
  refine W2 [0, 3, 4] [] [1003] (l := [(0, .c (.row _ _ _)), (3, .c (.own _ _ _ _)), (4, .c (.int _ _))]) (h := []) (h' := [(1003, ⟨0, 1, (List.replicate (a0.length : Int).toNat 0).map en_u8⟩)]) ⟨⟨_, rfl, enOk_u8.allClosed _ _ (List.replicate (a0.length : Int).toNat 0)⟩, trivial⟩ rfl rfl rfl ?_
  refine W_loopW (fun n4 S => ∃ (v2 : Int), ∃ (v3 : List Int), S = StL [(0, .c (.row false 1 (a0.map en_u8))), (3, .c (.own 1003 0 0 v3.length)), (4, .c (.int .i64 v2))] ([] ++ [(1003, ⟨0, 1, v3.map en_u8⟩)]) ∧ l_laws_toByteS_4 K a0 n4 v2 v3 = some r) K ⟨_, _, rfl, h⟩ ?_
  rintro n4 S ⟨v2, v3, rfl, h⟩
  cases n4 with
  | zero => simp [l_laws_toByteS_4] at h
  | succ n4 =>
    rw [l_laws_toByteS_4] at h
    refine W_seq ?_
    refine W_seq ?_
    refine W_regV he rfl ?_
    refine v0 (sM rfl [] rfl) rfl ?_
    refine v0 (sM rfl [] rfl) rfl ?_
    refine v0 (sLm rfl rfl rfl rfl) rfl ?_
    refine vB (sBi rfl rfl rfl rfl) rfl rfl fun b5 hb5 => ?_
    cases b5 with
    | true =>
      replace h := brT hb5 h
      refine ve ?_
      refine W2 [0, 3, 4, 11] [] [1003] (l := [(0, .c (.row _ _ _)), (3, .c (.own _ _ _ _)), (4, .c (.int _ _)), (11, .c (.bool true))]) (h := []) (h' := [(1003, ⟨0, 1, v3.map en_u8⟩)]) ⟨⟨_, rfl, enOk_u8.allClosed _ _ v3⟩, trivial⟩ rfl rfl rfl ?_
      refine W_true rfl ?_
      refine W_skip ?_
      refine W_seq ?_
      refine W_block ?_
      refine W_regV he rfl ?_
      refine v0 (sM rfl [] rfl) rfl ?_
      refine v0 (sM rfl [] rfl) rfl ?_
      refine v0 (sM rfl [] rfl) rfl ?_
      refine v0 (sM rfl [] rfl) rfl ?_
      obtain ⟨c6, h⟩ := chk h
      refine v0 (sIRm rfl rfl rfl rfl c6) rfl ?_
      refine v0 (sLI rfl rfl (en_u8 (gt a0 v2)) (gt_at _ c6) rfl rfl rfl) rfl ?_
      obtain ⟨c7, h⟩ := chk h
      refine v0 (sIOm rfl rfl rfl c7) rfl ?_
      refine v0 (sSkm rfl rfl [] v3 (gt a0 v2) c7 rfl rfl rfl rfl rfl rfl rfl rfl rfl) rfl ?_
      refine ve ?_
      refine W.weak (wk_len 3 (n' := (v3.set v2.toNat (gt a0 v2)).length) (by simp only [List.length_set]) rfl) ?_
      refine W2 [0, 3, 4] [] [1003] (l := [(0, .c (.row _ _ _)), (3, .c (.own _ _ _ _)), (4, .c (.int _ _))]) (h := []) (h' := [(1003, ⟨0, 1, (v3.set v2.toNat (gt a0 v2)).map en_u8⟩)]) ⟨⟨_, rfl, enOk_u8.allClosed _ _ (v3.set v2.toNat (gt a0 v2))⟩, trivial⟩ rfl rfl rfl ?_
      refine W_regV he rfl ?_
      refine v0 (sM rfl [] rfl) rfl ?_
      refine v0 (sBi rfl rfl rfl rfl) rfl ?_
      refine v0 (sA rfl [] rfl) rfl ?_
      refine ve ?_
      exact ⟨n4, _, Nat.lt_succ_self n4, wk2 [0, 3, 4] [] [1003] (l := [(0, .c (.row _ _ _)), (3, .c (.own _ _ _ _)), (4, .c (.int _ _))]) (h := []) (h' := [(1003, ⟨0, 1, (v3.set v2.toNat (gt a0 v2)).map en_u8⟩)]) ⟨⟨_, rfl, enOk_u8.allClosed _ _ (v3.set v2.toNat (gt a0 v2))⟩, trivial⟩ rfl rfl rfl, _, _, rfl, h⟩
    | false =>
      replace h := brF hb5 h
      refine ve ?_
      refine W2 [0, 3, 4, 11] [] [1003] (l := [(0, .c (.row _ _ _)), (3, .c (.own _ _ _ _)), (4, .c (.int _ _)), (11, .c (.bool false))]) (h := []) (h' := [(1003, ⟨0, 1, v3.map en_u8⟩)]) ⟨⟨_, rfl, enOk_u8.allClosed _ _ v3⟩, trivial⟩ rfl rfl rfl ?_
      refine W_false rfl ?_
      refine W_exit (ex_then (ex_then (ex_hit ?_)))
      refine W_seq ?_
      refine W_regV he rfl ?_
      refine v0 (sM rfl [] rfl) rfl ?_
      refine v0 (sA rfl [] rfl) rfl ?_
      refine ve ?_
      refine W2 [2] [] [1003] (l := [(2, .c (.own _ _ _ _))]) (h := []) (h' := [(1003, ⟨0, 1, v3.map en_u8⟩)]) ⟨⟨_, rfl, enOk_u8.allClosed _ _ v3⟩, trivial⟩ rfl rfl rfl ?_
      obtain rfl := Option.some.inj h
      exact W_ret (retOne 0 1003 (.inl rfl) enOk_u8 rfl rfl rfl)


/-! ### slices.Clone[[]byte,byte] -/
def m_slices_Clone_byte_byte (K : Nat) (a0 : List Int) : Option ((List Int)) := (if (([] : List Int) ++ a0).length * 1 ≤ 140737488355328 ∧ (([] : List Int) ++ a0).length ≤ maxLen then some (([] : List Int) ++ a0) else none)
set_option maxRecDepth 20000 in
set_option maxHeartbeats 8000000 in
theorem w_slices_Clone_byte_byte (K : Nat) (a0 : List Int) (r : (List Int)) (h : m_slices_Clone_byte_byte K a0 = some r) : Sp Try.prog 58 [.c (.row false 1 (a0.map en_u8))] [] (.c (.row false 1 (r.map en_u8))) [] := by
  refine Sp.of_W tabOk Try.func58 rfl rfl (Nat.le_of_ble_eq_true rfl) (Nat.le_of_ble_eq_true rfl) fun F hP hN hm => ?_
  obtain ⟨P, N, w0, σ0, β0, m⟩ := F
  obtain rfl : P = Try.prog := hP
  obtain rfl : N = 8 := hN
  obtain rfl : m = 1 := hm
  have he : Env ⟨Try.prog, 8, w0, σ0, β0, 1⟩ tab := ⟨Nat.le_of_ble_eq_true rfl, tabOk⟩
  unfold m_slices_Clone_byte_byte at h
  refine W_seq ?_
  refine W_regV he rfl ?_
  refine v0 (sA rfl [1] rfl) rfl ?_
  refine ve ?_
  refine W2 [0] [] [] (l := [(0, .c (.row _ _ _))]) (h := []) (h' := []) trivial rfl rfl rfl ?_
  refine W_seq ?_
  refine W_seq ?_
  refine W_regV he rfl ?_
  refine v0 (sM rfl [] rfl) rfl ?_
  refine vN rfl rfl rfl rfl rfl fun b1 hb1 => ?_
  cases b1 with
  | false =>
    refine ve ?_
    refine W2 [0, 4] [] [] (l := [(0, .c (.row _ _ _)), (4, .c (.bool false))]) (h := []) (h' := []) trivial rfl rfl rfl ?_
    refine W_false rfl ?_
    refine W_skip ?_
    refine W_seq ?_
    refine W_regV he rfl ?_
    refine v0 (sBS rfl 1005 (rows := ([] : List Int).map en_u8) rfl rfl rfl (by kernel_rfl) rfl rfl rfl rfl) rfl ?_
    refine v0 (sM rfl [] rfl) rfl ?_
    obtain ⟨c2, h⟩ := chk h
    refine v0 (sAo rfl 1002 ([] : List Int) a0 enOk_u8 rfl rfl rfl rfl rfl rfl rfl rfl rfl rfl rfl c2) rfl ?_
    refine v0 (sA rfl [] rfl) rfl ?_
    refine ve ?_
    refine W2 [2] [] [1002] (l := [(2, .c (.own _ _ _ _))]) (h := []) (h' := [(1002, ⟨0, 1, (([] : List Int) ++ a0).map en_u8⟩)]) ⟨⟨_, rfl, enOk_u8.allClosed _ _ (([] : List Int) ++ a0)⟩, trivial⟩ rfl rfl rfl ?_
    obtain rfl := Option.some.inj h
    refine W.weak (wk_row 2 enOk_u8 rfl rfl) ?_
    exact W_ret (r0 rfl rfl)
  | true =>
    have hzb1 : a0 = [] := List.map_eq_nil_iff.1 (hb1 rfl)
    replace h : some [] = some r := by simpa [hzb1] using h
    refine ve ?_
    refine W2 [0, 4] [] [] (l := [(0, .c (.row _ _ _)), (4, .c (.bool true))]) (h := []) (h' := []) trivial rfl rfl rfl ?_
    refine W_true rfl ?_
    refine W_seq ?_
    refine W_regV he rfl ?_
    refine v0 (sA rfl [1] rfl) rfl ?_
    refine ve ?_
    refine W2 [2] [] [] (l := [(2, .c (.row _ _ _))]) (h := []) (h' := []) trivial rfl rfl rfl ?_
    obtain rfl := Option.some.inj h
    exact W_ret (r0 rfl rfl)
theorem ok_slices_Clone_byte_byte : FnOk Try.prog 58 := ⟨_, Try.func58, rfl, rfl⟩


/-! ### slices.Clone[[]byte,byte] -/
set_option maxRecDepth 20000 in
set_option maxHeartbeats 8000000 in
theorem wo_slices_Clone_byte_byte (K : Nat) (a0 : List Int) (r : (List Int)) (h : m_slices_Clone_byte_byte K a0 = some r) : Sp Try.prog 58 [.c (.row false 1 (a0.map en_u8))] [] (.c (.own 1 0 0 r.length)) [⟨0, 1, r.map en_u8⟩] := by
  refine Sp.of_W tabOk Try.func58 rfl rfl (Nat.le_of_ble_eq_true rfl) (Nat.le_of_ble_eq_true rfl) fun F hP hN hm => ?_
  obtain ⟨P, N, w0, σ0, β0, m⟩ := F
  obtain rfl : P = Try.prog := hP
  obtain rfl : N = 8 := hN
  obtain rfl : m = 1 := hm
  have he : Env ⟨Try.prog, 8, w0, σ0, β0, 1⟩ tab := ⟨Nat.le_of_ble_eq_true rfl, tabOk⟩
  unfold m_slices_Clone_byte_byte at h
  refine W_seq ?_
  refine W_regV he rfl ?_
  refine v0 (sA rfl [1] rfl) rfl ?_
  refine ve ?_
  refine W2 [0] [] [] (l := [(0, .c (.row _ _ _))]) (h := []) (h' := []) trivial rfl rfl rfl ?_
  refine W_seq ?_
  refine W_seq ?_
  refine W_regV he rfl ?_
  refine v0 (sM rfl [] rfl) rfl ?_
  refine vN rfl rfl rfl rfl rfl fun b1 hb1 => ?_
  cases b1 with
  | false =>
    refine ve ?_
    refine W2 [0, 4] [] [] (l := [(0, .c (.row _ _ _)), (4, .c (.bool false))]) (h := []) (h' := []) trivial rfl rfl rfl ?_
    refine W_false rfl ?_
    refine W_skip ?_
    refine W_seq ?_
    refine W_regV he rfl ?_
    refine v0 (sBS rfl 1005 (rows := ([] : List Int).map en_u8) rfl rfl rfl (by kernel_rfl) rfl rfl rfl rfl) rfl ?_
    refine v0 (sM rfl [] rfl) rfl ?_
    obtain ⟨c2, h⟩ := chk h
    refine v0 (sAo rfl 1002 ([] : List Int) a0 enOk_u8 rfl rfl rfl rfl rfl rfl rfl rfl rfl rfl rfl c2) rfl ?_
    refine v0 (sA rfl [] rfl) rfl ?_
    refine ve ?_
    refine W2 [2] [] [1002] (l := [(2, .c (.own _ _ _ _))]) (h := []) (h' := [(1002, ⟨0, 1, (([] : List Int) ++ a0).map en_u8⟩)]) ⟨⟨_, rfl, enOk_u8.allClosed _ _ (([] : List Int) ++ a0)⟩, trivial⟩ rfl rfl rfl ?_
    obtain rfl := Option.some.inj h
    exact W_ret (retOne 0 1002 (.inl rfl) enOk_u8 rfl rfl rfl)
  | true =>
    have hzb1 : a0 = [] := List.map_eq_nil_iff.1 (hb1 rfl)
    replace h : some [] = some r := by simpa [hzb1] using h
    refine ve ?_
    refine W2 [0, 4] [] [] (l := [(0, .c (.row _ _ _)), (4, .c (.bool true))]) (h := []) (h' := []) trivial rfl rfl rfl ?_
    refine W_true rfl ?_
    refine W_seq ?_
    refine W_regV he rfl ?_
    refine v0 (sA rfl [1] rfl) rfl ?_
    refine ve ?_
    refine W2 [2] [] [] (l := [(2, .c (.row _ _ _))]) (h := []) (h' := []) trivial rfl rfl rfl ?_
    obtain rfl := Option.some.inj h
    refine W_ownNil he 2 1900 rfl rfl ?_
    exact W_ret (retOne (l := ([] : List Int)) 0 1900 (.inl rfl) enOk_u8 rfl rfl rfl)


/-! ### loop.example/g00499/impl.within -/
def m_impl_within (K : Nat) (a0 : Int) (a1 : Int) (a2 : Int) : Option (Bool) := (bif (decide (a0 ≥ a1)) then some (decide (a0 ≤ a2)) else some false)
set_option maxRecDepth 20000 in
set_option maxHeartbeats 8000000 in
theorem w_impl_within (K : Nat) (a0 : Int) (a1 : Int) (a2 : Int) (r : Bool) (h : m_impl_within K a0 a1 a2 = some r) : Sp Try.prog 57 [.c (.int .i64 a0), .c (.int .i64 a1), .c (.int .i64 a2)] [] (.c (.bool r)) [] := by
  refine Sp.of_W tabOk Try.func57 rfl rfl (Nat.le_of_ble_eq_true rfl) (Nat.le_of_ble_eq_true rfl) fun F hP hN hm => ?_
  obtain ⟨P, N, w0, σ0, β0, m⟩ := F
  obtain rfl : P = Try.prog := hP
  obtain rfl : N = 15 := hN
  obtain rfl : m = 1 := hm
  have he : Env ⟨Try.prog, 15, w0, σ0, β0, 1⟩ tab := ⟨Nat.le_of_ble_eq_true rfl, tabOk⟩
  unfold m_impl_within at h
  refine W_seq ?_
  refine W_regV he rfl ?_
  refine v0 (sA rfl [] rfl) rfl ?_
  refine ve ?_
  refine W2 [0, 1, 2] [] [] (l := [(0, .c (.int _ _)), (1, .c (.int _ _)), (2, .c (.int _ _))]) (h := []) (h' := []) trivial rfl rfl rfl ?_
  refine W_seq ?_
  refine W_regV he rfl ?_
  refine v0 (sM rfl [] rfl) rfl ?_
  refine v0 (sM rfl [] rfl) rfl ?_
  refine vB (sBi rfl rfl rfl rfl) rfl rfl fun b1 hb1 => ?_
  cases b1 with
  | true =>
    replace h := brT hb1 h
    refine v0 (sM rfl [] rfl) rfl ?_
    refine u0 (sM rfl [] rfl) rfl rfl rfl ?_
    refine u0 (sM rfl [] rfl) rfl rfl rfl ?_
    refine u0 (sBi rfl rfl rfl rfl) rfl rfl rfl ?_
    refine v0 (sPk rfl [] rfl rfl) rfl ?_
    refine v0 (sA rfl [] rfl) rfl ?_
    refine ve ?_
    refine W2 [6] [] [] (l := [(6, .c (.bool _))]) (h := []) (h' := []) trivial rfl rfl rfl ?_
    obtain rfl := Option.some.inj h
    exact W_ret (r0 rfl rfl)
  | false =>
    replace h := brF hb1 h
    refine v0 (sM rfl [] rfl) rfl ?_
    refine uP rfl rfl rfl rfl ?_
    refine uP rfl rfl rfl rfl ?_
    refine uP rfl rfl rfl rfl ?_
    refine v0 (sPk rfl [] rfl rfl) rfl ?_
    refine v0 (sA rfl [] rfl) rfl ?_
    refine ve ?_
    refine W2 [6] [] [] (l := [(6, .c (.bool false))]) (h := []) (h' := []) trivial rfl rfl rfl ?_
    obtain rfl := Option.some.inj h
    exact W_ret (r0 rfl rfl)
theorem ok_impl_within : FnOk Try.prog 57 := ⟨_, Try.func57, rfl, rfl⟩


/-! ### loop.example/g00499/impl.PutVar -/
def l_impl_PutVar_6 (K : Nat) : Nat → Int → (List Int) → Option ((List Int))
  | 0, _, _ => none
  | n6 + 1, v4, v5 => (bif (decide (v4 > 127)) then (if (v5 ++ ([(IntKind.u8.wrap (iOr .i64 (iAnd .i64 v4 127) 128))] : List Int)).length * 1 ≤ 140737488355328 ∧ (v5 ++ ([(IntKind.u8.wrap (iOr .i64 (iAnd .i64 v4 127) 128))] : List Int)).length ≤ maxLen then (if (0 : Int) ≤ 7 then (l_impl_PutVar_6 K n6 (iShr .i64 v4 7) (v5 ++ ([(IntKind.u8.wrap (iOr .i64 (iAnd .i64 v4 127) 128))] : List Int))) else none) else none) else (if (v5 ++ ([(IntKind.u8.wrap v4)] : List Int)).length * 1 ≤ 140737488355328 ∧ (v5 ++ ([(IntKind.u8.wrap v4)] : List Int)).length ≤ maxLen then some (v5 ++ ([(IntKind.u8.wrap v4)] : List Int)) else none))
def m_impl_PutVar (K : Nat) (a0 : List Int) (a1 : Int) : Option ((List Int)) := ((m_slices_Clone_byte_byte K a0).bind fun r1 => ((m_impl_within K a1 0 1000000000).bind fun r2 => (bif r2 then (l_impl_PutVar_6 K K a1 r1) else some r1)))
set_option maxRecDepth 20000 in
set_option maxHeartbeats 8000000 in
theorem w_impl_PutVar (K : Nat) (a0 : List Int) (a1 : Int) (r : (List Int)) (h : m_impl_PutVar K a0 a1 = some r) : Sp Try.prog 25 [.c (.row false 1 (a0.map en_u8)), .c (.int .i64 a1)] [] (.c (.row false 1 (r.map en_u8))) [] := by
  refine Sp.of_W tabOk Try.func25 rfl rfl (Nat.le_of_ble_eq_true rfl) (Nat.le_of_ble_eq_true rfl) fun F hP hN hm => ?_
  obtain ⟨P, N, w0, σ0, β0, m⟩ := F
  obtain rfl : P = Try.prog := hP
  obtain rfl : N = 28 := hN
  obtain rfl : m = 1 := hm
  have he : Env ⟨Try.prog, 28, w0, σ0, β0, 1⟩ tab := ⟨Nat.le_of_ble_eq_true rfl, tabOk⟩
  unfold m_impl_PutVar at h
  refine W_seq ?_
  refine W_regV he rfl ?_
  refine v0 (sA rfl [1] rfl) rfl ?_
  refine ve ?_
  refine W2 [0, 1] [] [] (l := [(0, .c (.row _ _ _)), (1, .c (.int _ _))]) (h := []) (h' := []) trivial rfl rfl rfl ?_
  refine W_seq ?_
  refine W_regV he rfl ?_
  refine v0 (sM rfl [] rfl) rfl ?_
  obtain ⟨r1, hr1, h⟩ := bnd2 h
  refine v0 (sCo (wo_slices_Clone_byte_byte K a0 _ hr1) ok_slices_Clone_byte_byte (fun _ => rfl) [] 1005 rfl rfl rfl rfl rfl) rfl ?_
  refine v0 (sA rfl [] rfl) rfl ?_
  refine ve ?_
  refine W2 [1, 5] [] [1005] (l := [(1, .c (.int _ _)), (5, .c (.own _ _ _ _))]) (h := []) (h' := [(1005, ⟨0, 1, r1.map en_u8⟩)]) ⟨⟨_, rfl, enOk_u8.allClosed _ _ r1⟩, trivial⟩ rfl rfl rfl ?_
  refine W_seq ?_
  refine W_seq ?_
  refine W_regV he rfl ?_
  refine v0 (sM rfl [] rfl) rfl ?_
  obtain ⟨r2, hr2, h⟩ := bnd2 h
  refine vB (sCm (w_impl_within K a1 0 1000000000 _ hr2) ok_impl_within rfl rfl rfl rfl) rfl rfl fun b3 hb3 => ?_
  cases b3 with
  | true =>
    replace h := brT hb3 h
    refine v0 (sNt rfl rfl) rfl ?_
    refine ve ?_
    refine W2 [1, 5, 10] [] [1005] (l := [(1, .c (.int _ _)), (5, .c (.own _ _ _ _)), (10, .c (.bool false))]) (h := []) (h' := [(1005, ⟨0, 1, r1.map en_u8⟩)]) ⟨⟨_, rfl, enOk_u8.allClosed _ _ r1⟩, trivial⟩ rfl rfl rfl ?_
    refine W_false rfl ?_
    refine W_skip ?_
    refine W_seq ?_
    refine W_block ?_
    refine W2 [1, 5] [] [1005] (l := [(1, .c (.int _ _)), (5, .c (.own _ _ _ _))]) (h := []) (h' := [(1005, ⟨0, 1, r1.map en_u8⟩)]) ⟨⟨_, rfl, enOk_u8.allClosed _ _ r1⟩, trivial⟩ rfl rfl rfl ?_
    refine W_loopW (fun n6 S => ∃ (v4 : Int), ∃ (v5 : List Int), S = StL [(1, .c (.int .i64 v4)), (5, .c (.own 1005 0 0 v5.length))] ([] ++ [(1005, ⟨0, 1, v5.map en_u8⟩)]) ∧ l_impl_PutVar_6 K n6 v4 v5 = some r) K ⟨_, _, rfl, h⟩ ?_
    rintro n6 S ⟨v4, v5, rfl, h⟩
    cases n6 with
    | zero => simp [l_impl_PutVar_6] at h
    | succ n6 =>
      rw [l_impl_PutVar_6] at h
      refine W_seq ?_
      refine W_seq ?_
      refine W_regV he rfl ?_
      refine v0 (sM rfl [] rfl) rfl ?_
      refine vB (sBi rfl rfl rfl rfl) rfl rfl fun b7 hb7 => ?_
      cases b7 with
      | true =>
        replace h := brT hb7 h
        refine ve ?_
        refine W2 [1, 5, 13] [] [1005] (l := [(1, .c (.int _ _)), (5, .c (.own _ _ _ _)), (13, .c (.bool true))]) (h := []) (h' := [(1005, ⟨0, 1, v5.map en_u8⟩)]) ⟨⟨_, rfl, enOk_u8.allClosed _ _ v5⟩, trivial⟩ rfl rfl rfl ?_
        refine W_true rfl ?_
        refine W_skip ?_
        refine W_block ?_
        refine W_seq ?_
        refine W_regV he rfl ?_
        refine v0 (sM rfl [] rfl) rfl ?_
        refine v0 (sM rfl [] rfl) rfl ?_
        refine v0 (sBi rfl rfl rfl rfl) rfl ?_
        refine v0 (sBi rfl rfl rfl rfl) rfl ?_
        refine v0 (sCv rfl rfl rfl rfl rfl rfl) rfl ?_
        refine v0 (sBS rfl 1019 (rows := ([(IntKind.u8.wrap (iOr .i64 (iAnd .i64 v4 127) 128))] : List Int).map en_u8) rfl rfl rfl (by kernel_rfl) rfl rfl rfl rfl) rfl ?_
        obtain ⟨c8, h⟩ := chk h
        refine v0 (sAo rfl 1005 v5 ([(IntKind.u8.wrap (iOr .i64 (iAnd .i64 v4 127) 128))] : List Int) enOk_u8 rfl rfl rfl rfl rfl rfl rfl rfl rfl rfl rfl c8) rfl ?_
        refine v0 (sA rfl [] rfl) rfl ?_
        refine ve ?_
        refine W2 [1, 5] [] [1005] (l := [(1, .c (.int _ _)), (5, .c (.own _ _ _ _))]) (h := []) (h' := [(1005, ⟨0, 1, (v5 ++ ([(IntKind.u8.wrap (iOr .i64 (iAnd .i64 v4 127) 128))] : List Int)).map en_u8⟩)]) ⟨⟨_, rfl, enOk_u8.allClosed _ _ (v5 ++ ([(IntKind.u8.wrap (iOr .i64 (iAnd .i64 v4 127) 128))] : List Int))⟩, trivial⟩ rfl rfl rfl ?_
        refine W_regV he rfl ?_
        refine v0 (sM rfl [] rfl) rfl ?_
        obtain ⟨c9, h⟩ := chk h
        refine v0 (sSr rfl rfl rfl c9) rfl ?_
        refine v0 (sA rfl [] rfl) rfl ?_
        refine ve ?_
        exact ⟨n6, _, Nat.lt_succ_self n6, wk2 [1, 5] [] [1005] (l := [(1, .c (.int _ _)), (5, .c (.own _ _ _ _))]) (h := []) (h' := [(1005, ⟨0, 1, (v5 ++ ([(IntKind.u8.wrap (iOr .i64 (iAnd .i64 v4 127) 128))] : List Int)).map en_u8⟩)]) ⟨⟨_, rfl, enOk_u8.allClosed _ _ (v5 ++ ([(IntKind.u8.wrap (iOr .i64 (iAnd .i64 v4 127) 128))] : List Int))⟩, trivial⟩ rfl rfl rfl, _, _, rfl, h⟩
      | false =>
        replace h := brF hb7 h
        refine ve ?_
        refine W2 [1, 5, 13] [] [1005] (l := [(1, .c (.int _ _)), (5, .c (.own _ _ _ _)), (13, .c (.bool false))]) (h := []) (h' := [(1005, ⟨0, 1, v5.map en_u8⟩)]) ⟨⟨_, rfl, enOk_u8.allClosed _ _ v5⟩, trivial⟩ rfl rfl rfl ?_
        refine W_false rfl ?_
        refine W_exit (ex_then (ex_then (ex_hit ?_)))
        refine W_seq ?_
        refine W_regV he rfl ?_
        refine v0 (sM rfl [] rfl) rfl ?_
        refine v0 (sM rfl [] rfl) rfl ?_
        refine v0 (sCv rfl rfl rfl rfl rfl rfl) rfl ?_
        refine v0 (sBS rfl 1026 (rows := ([(IntKind.u8.wrap v4)] : List Int).map en_u8) rfl rfl rfl (by kernel_rfl) rfl rfl rfl rfl) rfl ?_
        obtain ⟨c10, h⟩ := chk h
        refine v0 (sAo rfl 1004 v5 ([(IntKind.u8.wrap v4)] : List Int) enOk_u8 rfl rfl rfl rfl rfl rfl rfl rfl rfl rfl rfl c10) rfl ?_
        refine v0 (sA rfl [] rfl) rfl ?_
        refine ve ?_
        refine W2 [4] [] [1004] (l := [(4, .c (.own _ _ _ _))]) (h := []) (h' := [(1004, ⟨0, 1, (v5 ++ ([(IntKind.u8.wrap v4)] : List Int)).map en_u8⟩)]) ⟨⟨_, rfl, enOk_u8.allClosed _ _ (v5 ++ ([(IntKind.u8.wrap v4)] : List Int))⟩, trivial⟩ rfl rfl rfl ?_
        obtain rfl := Option.some.inj h
        refine W.weak (wk_row 4 enOk_u8 rfl rfl) ?_
        exact W_ret (r0 rfl rfl)
  | false =>
    replace h := brF hb3 h
    refine v0 (sNt rfl rfl) rfl ?_
    refine ve ?_
    refine W2 [1, 5, 10] [] [1005] (l := [(1, .c (.int _ _)), (5, .c (.own _ _ _ _)), (10, .c (.bool true))]) (h := []) (h' := [(1005, ⟨0, 1, r1.map en_u8⟩)]) ⟨⟨_, rfl, enOk_u8.allClosed _ _ r1⟩, trivial⟩ rfl rfl rfl ?_
    refine W_true rfl ?_
    refine W_seq ?_
    refine W_regV he rfl ?_
    refine v0 (sM rfl [] rfl) rfl ?_
    refine v0 (sA rfl [] rfl) rfl ?_
    refine ve ?_
    refine W2 [4] [] [1005] (l := [(4, .c (.own _ _ _ _))]) (h := []) (h' := [(1005, ⟨0, 1, r1.map en_u8⟩)]) ⟨⟨_, rfl, enOk_u8.allClosed _ _ r1⟩, trivial⟩ rfl rfl rfl ?_
    obtain rfl := Option.some.inj h
    refine W.weak (wk_row 4 enOk_u8 rfl rfl) ?_
    exact W_ret (r0 rfl rfl)
theorem ok_impl_PutVar : FnOk Try.prog 25 := ⟨_, Try.func25, rfl, rfl⟩


/-! ### loop.example/g00499/impl.PutVar -/
set_option maxRecDepth 20000 in
set_option maxHeartbeats 8000000 in
theorem wo_impl_PutVar (K : Nat) (a0 : List Int) (a1 : Int) (r : (List Int)) (h : m_impl_PutVar K a0 a1 = some r) : Sp Try.prog 25 [.c (.row false 1 (a0.map en_u8)), .c (.int .i64 a1)] [] (.c (.own 1 0 0 r.length)) [⟨0, 1, r.map en_u8⟩] := by
  refine Sp.of_W tabOk Try.func25 rfl rfl (Nat.le_of_ble_eq_true rfl) (Nat.le_of_ble_eq_true rfl) fun F hP hN hm => ?_
  obtain ⟨P, N, w0, σ0, β0, m⟩ := F
  obtain rfl : P = Try.prog := hP
  obtain rfl : N = 28 := hN
  obtain rfl : m = 1 := hm
  have he : Env ⟨Try.prog, 28, w0, σ0, β0, 1⟩ tab := ⟨Nat.le_of_ble_eq_true rfl, tabOk⟩
  unfold m_impl_PutVar at h
  refine W_seq ?_
  refine W_regV he rfl ?_
  refine v0 (sA rfl [1] rfl) rfl ?_
  refine ve ?_
  refine W2 [0, 1] [] [] (l := [(0, .c (.row _ _ _)), (1, .c (.int _ _))]) (h := []) (h' := []) trivial rfl rfl rfl ?_
  refine W_seq ?_
  refine W_regV he rfl ?_
  refine v0 (sM rfl [] rfl) rfl ?_
  obtain ⟨r1, hr1, h⟩ := bnd2 h
  refine v0 (sCo (wo_slices_Clone_byte_byte K a0 _ hr1) ok_slices_Clone_byte_byte (fun _ => rfl) [] 1005 rfl rfl rfl rfl rfl) rfl ?_
  refine v0 (sA rfl [] rfl) rfl ?_
  refine ve ?_
  refine W2 [1, 5] [] [1005] (l := [(1, .c (.int _ _)), (5, .c (.own _ _ _ _))]) (h := []) (h' := [(1005, ⟨0, 1, r1.map en_u8⟩)]) ⟨⟨_, rfl, enOk_u8.allClosed _ _ r1⟩, trivial⟩ rfl rfl rfl ?_
  refine W_seq ?_
  refine W_seq ?_
  refine W_regV he rfl ?_
  refine v0 (sM rfl [] rfl) rfl ?_
  obtain ⟨r2, hr2, h⟩ := bnd2 h
  refine vB (sCm (w_impl_within K a1 0 1000000000 _ hr2) ok_impl_within rfl rfl rfl rfl) rfl rfl fun b3 hb3 => ?_
  cases b3 with
  | true =>
    replace h := brT hb3 h
    refine v0 (sNt rfl rfl) rfl ?_
    refine ve ?_
    refine W2 [1, 5, 10] [] [1005] (l := [(1, .c (.int _ _)), (5, .c (.own _ _ _ _)), (10, .c (.bool false))]) (h := []) (h' := [(1005, ⟨0, 1, r1.map en_u8⟩)]) ⟨⟨_, rfl, enOk_u8.allClosed _ _ r1⟩, trivial⟩ rfl rfl rfl ?_
    refine W_false rfl ?_
    refine W_skip ?_
    refine W_seq ?_
    refine W_block ?_
    refine W2 [1, 5] [] [1005] (l := [(1, .c (.int _ _)), (5, .c (.own _ _ _ _))]) (h := []) (h' := [(1005, ⟨0, 1, r1.map en_u8⟩)]) ⟨⟨_, rfl, enOk_u8.allClosed _ _ r1⟩, trivial⟩ rfl rfl rfl ?_
    refine W_loopW (fun n6 S => ∃ (v4 : Int), ∃ (v5 : List Int), S = StL [(1, .c (.int .i64 v4)), (5, .c (.own 1005 0 0 v5.length))] ([] ++ [(1005, ⟨0, 1, v5.map en_u8⟩)]) ∧ l_impl_PutVar_6 K n6 v4 v5 = some r) K ⟨_, _, rfl, h⟩ ?_
    rintro n6 S ⟨v4, v5, rfl, h⟩
    cases n6 with
    | zero => simp [l_impl_PutVar_6] at h
    | succ n6 =>
      rw [l_impl_PutVar_6] at h
      refine W_seq ?_
      refine W_seq ?_
      refine W_regV he rfl ?_
      refine v0 (sM rfl [] rfl) rfl ?_
      refine vB (sBi rfl rfl rfl rfl) rfl rfl fun b7 hb7 => ?_
      cases b7 with
      | true =>
        replace h := brT hb7 h
        refine ve ?_
        refine W2 [1, 5, 13] [] [1005] (l := [(1, .c (.int _ _)), (5, .c (.own _ _ _ _)), (13, .c (.bool true))]) (h := []) (h' := [(1005, ⟨0, 1, v5.map en_u8⟩)]) ⟨⟨_, rfl, enOk_u8.allClosed _ _ v5⟩, trivial⟩ rfl rfl rfl ?_
        refine W_true rfl ?_
        refine W_skip ?_
        refine W_block ?_
        refine W_seq ?_
        refine W_regV he rfl ?_
        refine v0 (sM rfl [] rfl) rfl ?_
        refine v0 (sM rfl [] rfl) rfl ?_
        refine v0 (sBi rfl rfl rfl rfl) rfl ?_
        refine v0 (sBi rfl rfl rfl rfl) rfl ?_
        refine v0 (sCv rfl rfl rfl rfl rfl rfl) rfl ?_
        refine v0 (sBS rfl 1019 (rows := ([(IntKind.u8.wrap (iOr .i64 (iAnd .i64 v4 127) 128))] : List Int).map en_u8) rfl rfl rfl (by kernel_rfl) rfl rfl rfl rfl) rfl ?_
        obtain ⟨c8, h⟩ := chk h
        refine v0 (sAo rfl 1005 v5 ([(IntKind.u8.wrap (iOr .i64 (iAnd .i64 v4 127) 128))] : List Int) enOk_u8 rfl rfl rfl rfl rfl rfl rfl rfl rfl rfl rfl c8) rfl ?_
        refine v0 (sA rfl [] rfl) rfl ?_
        refine ve ?_
        refine W2 [1, 5] [] [1005] (l := [(1, .c (.int _ _)), (5, .c (.own _ _ _ _))]) (h := []) (h' := [(1005, ⟨0, 1, (v5 ++ ([(IntKind.u8.wrap (iOr .i64 (iAnd .i64 v4 127) 128))] : List Int)).map en_u8⟩)]) ⟨⟨_, rfl, enOk_u8.allClosed _ _ (v5 ++ ([(IntKind.u8.wrap (iOr .i64 (iAnd .i64 v4 127) 128))] : List Int))⟩, trivial⟩ rfl rfl rfl ?_
        refine W_regV he rfl ?_
        refine v0 (sM rfl [] rfl) rfl ?_
        obtain ⟨c9, h⟩ := chk h
        refine v0 (sSr rfl rfl rfl c9) rfl ?_
        refine v0 (sA rfl [] rfl) rfl ?_
        refine ve ?_
        exact ⟨n6, _, Nat.lt_succ_self n6, wk2 [1, 5] [] [1005] (l := [(1, .c (.int _ _)), (5, .c (.own _ _ _ _))]) (h := []) (h' := [(1005, ⟨0, 1, (v5 ++ ([(IntKind.u8.wrap (iOr .i64 (iAnd .i64 v4 127) 128))] : List Int)).map en_u8⟩)]) ⟨⟨_, rfl, enOk_u8.allClosed _ _ (v5 ++ ([(IntKind.u8.wrap (iOr .i64 (iAnd .i64 v4 127) 128))] : List Int))⟩, trivial⟩ rfl rfl rfl, _, _, rfl, h⟩
      | false =>
        replace h := brF hb7 h
        refine ve ?_
        refine W2 [1, 5, 13] [] [1005] (l := [(1, .c (.int _ _)), (5, .c (.own _ _ _ _)), (13, .c (.bool false))]) (h := []) (h' := [(1005, ⟨0, 1, v5.map en_u8⟩)]) ⟨⟨_, rfl, enOk_u8.allClosed _ _ v5⟩, trivial⟩ rfl rfl rfl ?_
        refine W_false rfl ?_
        refine W_exit (ex_then (ex_then (ex_hit ?_)))
        refine W_seq ?_
        refine W_regV he rfl ?_
        refine v0 (sM rfl [] rfl) rfl ?_
        refine v0 (sM rfl [] rfl) rfl ?_
        refine v0 (sCv rfl rfl rfl rfl rfl rfl) rfl ?_
        refine v0 (sBS rfl 1026 (rows := ([(IntKind.u8.wrap v4)] : List Int).map en_u8) rfl rfl rfl (by kernel_rfl) rfl rfl rfl rfl) rfl ?_
        obtain ⟨c10, h⟩ := chk h
        refine v0 (sAo rfl 1004 v5 ([(IntKind.u8.wrap v4)] : List Int) enOk_u8 rfl rfl rfl rfl rfl rfl rfl rfl rfl rfl rfl c10) rfl ?_
        refine v0 (sA rfl [] rfl) rfl ?_
        refine ve ?_
        refine W2 [4] [] [1004] (l := [(4, .c (.own _ _ _ _))]) (h := []) (h' := [(1004, ⟨0, 1, (v5 ++ ([(IntKind.u8.wrap v4)] : List Int)).map en_u8⟩)]) ⟨⟨_, rfl, enOk_u8.allClosed _ _ (v5 ++ ([(IntKind.u8.wrap v4)] : List Int))⟩, trivial⟩ rfl rfl rfl ?_
        obtain rfl := Option.some.inj h
        exact W_ret (retOne 0 1004 (.inl rfl) enOk_u8 rfl rfl rfl)
  | false =>
    replace h := brF hb3 h
    refine v0 (sNt rfl rfl) rfl ?_
    refine ve ?_
    refine W2 [1, 5, 10] [] [1005] (l := [(1, .c (.int _ _)), (5, .c (.own _ _ _ _)), (10, .c (.bool true))]) (h := []) (h' := [(1005, ⟨0, 1, r1.map en_u8⟩)]) ⟨⟨_, rfl, enOk_u8.allClosed _ _ r1⟩, trivial⟩ rfl rfl rfl ?_
    refine W_true rfl ?_
    refine W_seq ?_
    refine W_regV he rfl ?_
    refine v0 (sM rfl [] rfl) rfl ?_
    refine v0 (sA rfl [] rfl) rfl ?_
    refine ve ?_
    refine W2 [4] [] [1005] (l := [(4, .c (.own _ _ _ _))]) (h := []) (h' := [(1005, ⟨0, 1, r1.map en_u8⟩)]) ⟨⟨_, rfl, enOk_u8.allClosed _ _ r1⟩, trivial⟩ rfl rfl rfl ?_
    obtain rfl := Option.some.inj h
    exact W_ret (retOne 0 1005 (.inl rfl) enOk_u8 rfl rfl rfl)


/-! ### loop.example/g00499/laws.eqByteS -/
def l_laws_eqByteS_3 (K : Nat) (a0 : List Int) (a1 : List Int) : Nat → Int → Option (Bool)
  | 0, _ => none
  | n3 + 1, v2 => (bif (decide (v2 < (a0.length : Int))) then (if (0 : Int) ≤ v2 ∧ v2 < (a0.length : Int) then (if (0 : Int) ≤ v2 ∧ v2 < (a1.length : Int) then (bif ((gt a0 v2) != (gt a1 v2)) then some false else (l_laws_eqByteS_3 K a0 a1 n3 (iAdd .i64 v2 1))) else none) else none) else some true)
def m_laws_eqByteS (K : Nat) (a0 : List Int) (a1 : List Int) : Option (Bool) := (bif ((a0.length : Int) != (a1.length : Int)) then some false else (l_laws_eqByteS_3 K a0 a1 K 0))
set_option maxRecDepth 20000 in
set_option maxHeartbeats 8000000 in
theorem w_laws_eqByteS (K : Nat) (a0 : List Int) (a1 : List Int) (r : Bool) (h : m_laws_eqByteS K a0 a1 = some r) : Sp Try.prog 23 [.c (.row false 1 (a0.map en_u8)), .c (.row false 1 (a1.map en_u8))] [] (.c (.bool r)) [] := by
  refine Sp.of_W tabOk Try.func23 rfl rfl (Nat.le_of_ble_eq_true rfl) (Nat.le_of_ble_eq_true rfl) fun F hP hN hm => ?_
  obtain ⟨P, N, w0, σ0, β0, m⟩ := F
  obtain rfl : P = Try.prog := hP
  obtain rfl : N = 26 := hN
  obtain rfl : m = 1 := hm
  have he : Env ⟨Try.prog, 26, w0, σ0, β0, 1⟩ tab := ⟨Nat.le_of_ble_eq_true rfl, tabOk⟩
  unfold m_laws_eqByteS at h
  refine W_seq ?_
  refine W_regV he rfl ?_
  refine v0 (sA rfl [] rfl) rfl ?_
  refine ve ?_
  refine W2 [0, 1] [] [] (l := [(0, .c (.row _ _ _)), (1, .c (.row _ _ _))]) (h := []) (h' := []) trivial rfl rfl rfl ?_
  refine W_seq ?_
  refine W_seq ?_
  refine W_regV he rfl ?_
  refine v0 (sM rfl [] rfl) rfl ?_
  refine v0 (sLm rfl rfl rfl rfl) rfl ?_
  refine v0 (sM rfl [] rfl) rfl ?_
  refine v0 (sLm rfl rfl rfl rfl) rfl ?_
  refine vB (sBi rfl rfl rfl rfl) rfl rfl fun b1 hb1 => ?_
  cases b1 with
  | true =>
    replace h := brT hb1 h
    refine ve ?_
    refine W2 [0, 1, 10] [] [] (l := [(0, .c (.row _ _ _)), (1, .c (.row _ _ _)), (10, .c (.bool true))]) (h := []) (h' := []) trivial rfl rfl rfl ?_
    refine W_true rfl ?_
    refine W_seq ?_
    refine W_regV he rfl ?_
    refine v0 (sA rfl [] rfl) rfl ?_
    refine ve ?_
    refine W2 [4] [] [] (l := [(4, .c (.bool false))]) (h := []) (h' := []) trivial rfl rfl rfl ?_
    obtain rfl := Option.some.inj h
    exact W_ret (r0 rfl rfl)
  | false =>
    replace h := brF hb1 h
    refine ve ?_
    refine W2 [0, 1, 10] [] [] (l := [(0, .c (.row _ _ _)), (1, .c (.row _ _ _)), (10, .c (.bool false))]) (h := []) (h' := []) trivial rfl rfl rfl ?_
    refine W_false rfl ?_
    refine W_skip ?_
    refine W_seq ?_
    refine W_seq ?_
    refine W_regV he rfl ?_
    refine v0 (sA rfl [] rfl) rfl ?_
    refine ve ?_
    refine W2 [0, 1, 5] [] [] (l := [(0, .c (.row _ _ _)), (1, .c (.row _ _ _)), (5, .c (.int _ _))]) (h := []) (h' := []) trivial rfl rfl rfl ?_
    refine W_block ?_
    refine W2 [0, 1, 5] [] [] (l := [(0, .c (.row _ _ _)), (1, .c (.row _ _ _)), (5, .c (.int _ _))]) (h := []) (h' := []) trivial rfl rfl rfl ?_
    refine W_loopW (fun n3 S => ∃ (v2 : Int), S = StL [(0, .c (.row false 1 (a0.map en_u8))), (1, .c (.row false 1 (a1.map en_u8))), (5, .c (.int .i64 v2))] ([] ++ []) ∧ l_laws_eqByteS_3 K a0 a1 n3 v2 = some r) K ⟨_, rfl, h⟩ ?_
    rintro n3 S ⟨v2, rfl, h⟩
    cases n3 with
    | zero => simp [l_laws_eqByteS_3] at h
    | succ n3 =>
      rw [l_laws_eqByteS_3] at h
      refine W_seq ?_
      refine W_seq ?_
      refine W_regV he rfl ?_
      refine v0 (sM rfl [] rfl) rfl ?_
      refine v0 (sM rfl [] rfl) rfl ?_
      refine v0 (sLm rfl rfl rfl rfl) rfl ?_
      refine vB (sBi rfl rfl rfl rfl) rfl rfl fun b4 hb4 => ?_
      cases b4 with
      | true =>
        replace h := brT hb4 h
        refine ve ?_
        refine W2 [0, 1, 5, 14] [] [] (l := [(0, .c (.row _ _ _)), (1, .c (.row _ _ _)), (5, .c (.int _ _)), (14, .c (.bool true))]) (h := []) (h' := []) trivial rfl rfl rfl ?_
        refine W_true rfl ?_
        refine W_skip ?_
        refine W_seq ?_
        refine W_block ?_
        refine W_seq ?_
        refine W_regD he rfl rfl rfl ?_
        refine g0 (sM rfl [] rfl) rfl ?_
        refine g0 (sM rfl [] rfl) rfl ?_
        obtain ⟨c5, h⟩ := chk h
        refine g0 (sIRm rfl rfl rfl rfl c5) rfl ?_
        refine g0 (sLI rfl rfl (en_u8 (gt a0 v2)) (gt_at _ c5) rfl rfl rfl) rfl ?_
        refine g0 (sM rfl [] rfl) rfl ?_
        refine g0 (sM rfl [] rfl) rfl ?_
        obtain ⟨c6, h⟩ := chk h
        refine g0 (sIRm rfl rfl rfl rfl c6) rfl ?_
        refine g0 (sLI rfl rfl (en_u8 (gt a1 v2)) (gt_at _ c6) rfl rfl rfl) rfl ?_
        refine gB (sBi rfl rfl rfl rfl) rfl rfl fun b7 hb7 => ?_
        cases b7 with
        | true =>
          replace h := brT hb7 h
          refine ge ⟨rfl, ?_⟩
          refine W2 [0, 1, 5, 25] [] [] (l := [(0, .c (.row _ _ _)), (1, .c (.row _ _ _)), (5, .c (.int _ _)), (25, .c (.bool true))]) (h := []) (h' := []) trivial rfl rfl rfl ?_
          refine W_true rfl ?_
          refine W_seq ?_
          refine W_regV he rfl ?_
          refine v0 (sA rfl [] rfl) rfl ?_
          refine ve ?_
          refine W2 [4] [] [] (l := [(4, .c (.bool false))]) (h := []) (h' := []) trivial rfl rfl rfl ?_
          obtain rfl := Option.some.inj h
          exact W_ret (r0 rfl rfl)
        | false =>
          replace h := brF hb7 h
          refine ge ⟨rfl, ?_⟩
          refine W2 [0, 1, 5, 25] [] [] (l := [(0, .c (.row _ _ _)), (1, .c (.row _ _ _)), (5, .c (.int _ _)), (25, .c (.bool false))]) (h := []) (h' := []) trivial rfl rfl rfl ?_
          refine W_false rfl ?_
          refine W_skip ?_
          refine W_regV he rfl ?_
          refine v0 (sM rfl [] rfl) rfl ?_
          refine v0 (sBi rfl rfl rfl rfl) rfl ?_
          refine v0 (sA rfl [] rfl) rfl ?_
          refine ve ?_
          exact ⟨n3, _, Nat.lt_succ_self n3, wk2 [0, 1, 5] [] [] (l := [(0, .c (.row _ _ _)), (1, .c (.row _ _ _)), (5, .c (.int _ _))]) (h := []) (h' := []) trivial rfl rfl rfl, _, rfl, h⟩
      | false =>
        replace h := brF hb4 h
        refine ve ?_
        refine W2 [0, 1, 5, 14] [] [] (l := [(0, .c (.row _ _ _)), (1, .c (.row _ _ _)), (5, .c (.int _ _)), (14, .c (.bool false))]) (h := []) (h' := []) trivial rfl rfl rfl ?_
        refine W_false rfl ?_
        refine W_exit (ex_then (ex_then (ex_hit ?_)))
        refine W_seq ?_
        refine W_regV he rfl ?_
        refine v0 (sA rfl [] rfl) rfl ?_
        refine ve ?_
        refine W2 [4] [] [] (l := [(4, .c (.bool true))]) (h := []) (h' := []) trivial rfl rfl rfl ?_
        obtain rfl := Option.some.inj h
        exact W_ret (r0 rfl rfl)
theorem ok_laws_eqByteS : FnOk Try.prog 23 := ⟨_, Try.func23, rfl, rfl⟩


/-! ### loop.example/g00499/laws.markByteS -/
def l_laws_markByteSW_4 (K : Nat) : Nat → Int → Int → (List Int) → Option (Int × (List Int))
  | 0, _, _, _ => none
  | n4 + 1, v1, v2, v3 => (bif (decide (v2 < (v3.length : Int))) then (if (0 : Int) ≤ v2 ∧ v2 < (v3.length : Int) then (l_laws_markByteSW_4 K n4 (iAdd .i64 v1 1) (iAdd .i64 v2 1) (v3.set v2.toNat (IntKind.u8.wrap v1))) else none) else some (v1, v3))
def m_laws_markByteSW (K : Nat) (a0 : List Int) (a1 : Int) : Option (Int × (List Int)) := (l_laws_markByteSW_4 K K a1 0 a0)
set_option maxRecDepth 20000 in
set_option maxHeartbeats 8000000 in
theorem w_laws_markByteSW (K : Nat) (a0 : List Int) (a1 : Int) (r : Int × (List Int)) (h : m_laws_markByteSW K a0 a1 = some r) : Sp Try.prog 26 [.c (.own 1 0 0 a0.length), .c (.int .i64 a1)] [⟨0, 1, a0.map en_u8⟩] (.c (.int .i64 r.1)) [⟨0, 1, r.2.map en_u8⟩] := by
  refine Sp.of_W tabOk Try.func26 rfl rfl (Nat.le_of_ble_eq_true rfl) (Nat.le_of_ble_eq_true rfl) fun F hP hN hm => ?_
  obtain ⟨P, N, w0, σ0, β0, m⟩ := F
  obtain rfl : P = Try.prog := hP
  obtain rfl : N = 20 := hN
  obtain rfl : m = 2 := hm
  have he : Env ⟨Try.prog, 20, w0, σ0, β0, 2⟩ tab := ⟨Nat.le_of_ble_eq_true rfl, tabOk⟩
  unfold m_laws_markByteSW at h
  refine W_seq ?_
  refine W_regV he rfl ?_
  refine v0 (sA rfl [] rfl) rfl ?_
  refine ve ?_
  refine W2 [0, 1] [] [1] (l := [(0, .c (.own _ _ _ _)), (1, .c (.int _ _))]) (h := []) (h' := [(1, ⟨0, 1, a0.map en_u8⟩)]) ⟨⟨_, rfl, enOk_u8.allClosed _ _ a0⟩, trivial⟩ rfl rfl rfl ?_
  refine W_seq ?_
  refine W_seq ?_
  refine W_regV he rfl ?_
  refine v0 (sA rfl [] rfl) rfl ?_
  refine ve ?_
  refine W2 [0, 1, 5] [] [1] (l := [(0, .c (.own _ _ _ _)), (1, .c (.int _ _)), (5, .c (.int _ _))]) (h := []) (h' := [(1, ⟨0, 1, a0.map en_u8⟩)]) ⟨⟨_, rfl, enOk_u8.allClosed _ _ a0⟩, trivial⟩ rfl rfl rfl ?_
  refine W_block ?_
  refine W2 [0, 1, 5] [] [1] (l := [(0, .c (.own _ _ _ _)), (1, .c (.int _ _)), (5, .c (.int _ _))]) (h := []) (h' := [(1, ⟨0, 1, a0.map en_u8⟩)]) ⟨⟨_, rfl, enOk_u8.allClosed _ _ a0⟩, trivial⟩ rfl rfl rfl ?_
  refine W_loopW (fun n4 S => ∃ (v1 : Int), ∃ (v2 : Int), ∃ (v3 : List Int), S = StL [(0, .c (.own 1 0 0 v3.length)), (1, .c (.int .i64 v1)), (5, .c (.int .i64 v2))] ([] ++ [(1, ⟨0, 1, v3.map en_u8⟩)]) ∧ l_laws_markByteSW_4 K n4 v1 v2 v3 = some r) K ⟨_, _, _, rfl, h⟩ ?_
  rintro n4 S ⟨v1, v2, v3, rfl, h⟩
  cases n4 with
  | zero => simp [l_laws_markByteSW_4] at h
  | succ n4 =>
    rw [l_laws_markByteSW_4] at h
    refine W_seq ?_
    refine W_seq ?_
    refine W_regV he rfl ?_
    refine v0 (sM rfl [] rfl) rfl ?_
    refine v0 (sM rfl [] rfl) rfl ?_
    refine v0 (sLo rfl rfl rfl rfl) rfl ?_
    refine vB (sBi rfl rfl rfl rfl) rfl rfl fun b5 hb5 => ?_
    cases b5 with
    | true =>
      replace h := brT hb5 h
      refine ve ?_
      refine W2 [0, 1, 5, 9] [] [1] (l := [(0, .c (.own _ _ _ _)), (1, .c (.int _ _)), (5, .c (.int _ _)), (9, .c (.bool true))]) (h := []) (h' := [(1, ⟨0, 1, v3.map en_u8⟩)]) ⟨⟨_, rfl, enOk_u8.allClosed _ _ v3⟩, trivial⟩ rfl rfl rfl ?_
      refine W_true rfl ?_
      refine W_skip ?_
      refine W_seq ?_
      refine W_block ?_
      refine W_seq ?_
      refine W_regV he rfl ?_
      refine v0 (sM rfl [] rfl) rfl ?_
      refine v0 (sM rfl [] rfl) rfl ?_
      refine v0 (sM rfl [] rfl) rfl ?_
      refine v0 (sCv rfl rfl rfl rfl rfl rfl) rfl ?_
      obtain ⟨c6, h⟩ := chk h
      refine v0 (sIOm rfl rfl rfl c6) rfl ?_
      refine v0 (sSkm rfl rfl [] v3 (IntKind.u8.wrap v1) c6 rfl rfl rfl rfl rfl rfl rfl rfl rfl) rfl ?_
      refine ve ?_
      refine W.weak (wk_len 0 (n' := (v3.set v2.toNat (IntKind.u8.wrap v1)).length) (by simp only [List.length_set]) rfl) ?_
      refine W2 [0, 1, 5] [] [1] (l := [(0, .c (.own _ _ _ _)), (1, .c (.int _ _)), (5, .c (.int _ _))]) (h := []) (h' := [(1, ⟨0, 1, (v3.set v2.toNat (IntKind.u8.wrap v1)).map en_u8⟩)]) ⟨⟨_, rfl, enOk_u8.allClosed _ _ (v3.set v2.toNat (IntKind.u8.wrap v1))⟩, trivial⟩ rfl rfl rfl ?_
      refine W_regV he rfl ?_
      refine v0 (sM rfl [] rfl) rfl ?_
      refine v0 (sBi rfl rfl rfl rfl) rfl ?_
      refine v0 (sA rfl [] rfl) rfl ?_
      refine ve ?_
      refine W2 [0, 1, 5] [] [1] (l := [(0, .c (.own _ _ _ _)), (1, .c (.int _ _)), (5, .c (.int _ _))]) (h := []) (h' := [(1, ⟨0, 1, (v3.set v2.toNat (IntKind.u8.wrap v1)).map en_u8⟩)]) ⟨⟨_, rfl, enOk_u8.allClosed _ _ (v3.set v2.toNat (IntKind.u8.wrap v1))⟩, trivial⟩ rfl rfl rfl ?_
      refine W_regV he rfl ?_
      refine v0 (sM rfl [] rfl) rfl ?_
      refine v0 (sBi rfl rfl rfl rfl) rfl ?_
      refine v0 (sA rfl [] rfl) rfl ?_
      refine ve ?_
      exact ⟨n4, _, Nat.lt_succ_self n4, wk2 [0, 1, 5] [] [1] (l := [(0, .c (.own _ _ _ _)), (1, .c (.int _ _)), (5, .c (.int _ _))]) (h := []) (h' := [(1, ⟨0, 1, (v3.set v2.toNat (IntKind.u8.wrap v1)).map en_u8⟩)]) ⟨⟨_, rfl, enOk_u8.allClosed _ _ (v3.set v2.toNat (IntKind.u8.wrap v1))⟩, trivial⟩ rfl rfl rfl, _, _, _, rfl, h⟩
    | false =>
      replace h := brF hb5 h
      refine ve ?_
      refine W2 [0, 1, 5, 9] [] [1] (l := [(0, .c (.own _ _ _ _)), (1, .c (.int _ _)), (5, .c (.int _ _)), (9, .c (.bool false))]) (h := []) (h' := [(1, ⟨0, 1, v3.map en_u8⟩)]) ⟨⟨_, rfl, enOk_u8.allClosed _ _ v3⟩, trivial⟩ rfl rfl rfl ?_
      refine W_false rfl ?_
      refine W_exit (ex_then (ex_then (ex_hit ?_)))
      refine W_seq ?_
      refine W_regV he rfl ?_
      refine v0 (sM rfl [] rfl) rfl ?_
      refine v0 (sA rfl [] rfl) rfl ?_
      refine ve ?_
      refine W2 [4] [] [1] (l := [(4, .c (.int _ _))]) (h := []) (h' := [(1, ⟨0, 1, v3.map en_u8⟩)]) ⟨⟨_, rfl, enOk_u8.allClosed _ _ v3⟩, trivial⟩ rfl rfl rfl ?_
      obtain rfl := Option.some.inj h
      exact W_ret (retOne 1 1 (.inr ⟨rfl, rfl⟩) enOk_u8 rfl rfl rfl)
theorem ok_laws_markByteS : FnOk Try.prog 26 := ⟨_, Try.func26, rfl, rfl⟩


/-! ### loop.example/g00499/laws.heldByteS -/
def l_laws_heldByteS_3 (K : Nat) (a0 : List Int) : Nat → Int → Int → Option (Int)
  | 0, _, _ => none
  | n3 + 1, v1, v2 => (bif (decide (v2 < (a0.length : Int))) then (if (0 : Int) ≤ v2 ∧ v2 < (a0.length : Int) then (bif ((gt a0 v2) != (IntKind.u8.wrap v1)) then some (-1) else (l_laws_heldByteS_3 K a0 n3 (iAdd .i64 v1 1) (iAdd .i64 v2 1))) else none) else some v1)
def m_laws_heldByteS (K : Nat) (a0 : List Int) (a1 : Int) : Option (Int) := (l_laws_heldByteS_3 K a0 K a1 0)
set_option maxRecDepth 20000 in
set_option maxHeartbeats 8000000 in
theorem w_laws_heldByteS (K : Nat) (a0 : List Int) (a1 : Int) (r : Int) (h : m_laws_heldByteS K a0 a1 = some r) : Sp Try.prog 27 [.c (.row false 1 (a0.map en_u8)), .c (.int .i64 a1)] [] (.c (.int .i64 r)) [] := by
  refine Sp.of_W tabOk Try.func27 rfl rfl (Nat.le_of_ble_eq_true rfl) (Nat.le_of_ble_eq_true rfl) fun F hP hN hm => ?_
  obtain ⟨P, N, w0, σ0, β0, m⟩ := F
  obtain rfl : P = Try.prog := hP
  obtain rfl : N = 22 := hN
  obtain rfl : m = 1 := hm
  have he : Env ⟨Try.prog, 22, w0, σ0, β0, 1⟩ tab := ⟨Nat.le_of_ble_eq_true rfl, tabOk⟩
  unfold m_laws_heldByteS at h
  refine W_seq ?_
  refine W_regV he rfl ?_
  refine v0 (sA rfl [] rfl) rfl ?_
  refine ve ?_
  refine W2 [0, 1] [] [] (l := [(0, .c (.row _ _ _)), (1, .c (.int _ _))]) (h := []) (h' := []) trivial rfl rfl rfl ?_
  refine W_seq ?_
  refine W_seq ?_
  refine W_regV he rfl ?_
  refine v0 (sA rfl [] rfl) rfl ?_
  refine ve ?_
  refine W2 [0, 1, 5] [] [] (l := [(0, .c (.row _ _ _)), (1, .c (.int _ _)), (5, .c (.int _ _))]) (h := []) (h' := []) trivial rfl rfl rfl ?_
  refine W_block ?_
  refine W2 [0, 1, 5] [] [] (l := [(0, .c (.row _ _ _)), (1, .c (.int _ _)), (5, .c (.int _ _))]) (h := []) (h' := []) trivial rfl rfl rfl ?_
  refine W_loopW (fun n3 S => ∃ (v1 : Int), ∃ (v2 : Int), S = StL [(0, .c (.row false 1 (a0.map en_u8))), (1, .c (.int .i64 v1)), (5, .c (.int .i64 v2))] ([] ++ []) ∧ l_laws_heldByteS_3 K a0 n3 v1 v2 = some r) K ⟨_, _, rfl, h⟩ ?_
  rintro n3 S ⟨v1, v2, rfl, h⟩
  cases n3 with
  | zero => simp [l_laws_heldByteS_3] at h
  | succ n3 =>
    rw [l_laws_heldByteS_3] at h
    refine W_seq ?_
    refine W_seq ?_
    refine W_regV he rfl ?_
    refine v0 (sM rfl [] rfl) rfl ?_
    refine v0 (sM rfl [] rfl) rfl ?_
    refine v0 (sLm rfl rfl rfl rfl) rfl ?_
    refine vB (sBi rfl rfl rfl rfl) rfl rfl fun b4 hb4 => ?_
    cases b4 with
    | true =>
      replace h := brT hb4 h
      refine ve ?_
      refine W2 [0, 1, 5, 9] [] [] (l := [(0, .c (.row _ _ _)), (1, .c (.int _ _)), (5, .c (.int _ _)), (9, .c (.bool true))]) (h := []) (h' := []) trivial rfl rfl rfl ?_
      refine W_true rfl ?_
      refine W_skip ?_
      refine W_seq ?_
      refine W_block ?_
      refine W_seq ?_
      refine W_seq ?_
      refine W_regV he rfl ?_
      refine v0 (sM rfl [] rfl) rfl ?_
      refine v0 (sM rfl [] rfl) rfl ?_
      obtain ⟨c5, h⟩ := chk h
      refine v0 (sIRm rfl rfl rfl rfl c5) rfl ?_
      refine v0 (sLI rfl rfl (en_u8 (gt a0 v2)) (gt_at _ c5) rfl rfl rfl) rfl ?_
      refine v0 (sM rfl [] rfl) rfl ?_
      refine v0 (sCv rfl rfl rfl rfl rfl rfl) rfl ?_
      refine vB (sBi rfl rfl rfl rfl) rfl rfl fun b6 hb6 => ?_
      cases b6 with
      | true =>
        replace h := brT hb6 h
        refine ve ?_
        refine W2 [0, 1, 5, 18] [] [] (l := [(0, .c (.row _ _ _)), (1, .c (.int _ _)), (5, .c (.int _ _)), (18, .c (.bool true))]) (h := []) (h' := []) trivial rfl rfl rfl ?_
        refine W_true rfl ?_
        refine W_seq ?_
        refine W_regV he rfl ?_
        refine v0 (sA rfl [] rfl) rfl ?_
        refine ve ?_
        refine W2 [4] [] [] (l := [(4, .c (.int _ _))]) (h := []) (h' := []) trivial rfl rfl rfl ?_
        obtain rfl := Option.some.inj h
        exact W_ret (r0 rfl rfl)
      | false =>
        replace h := brF hb6 h
        refine ve ?_
        refine W2 [0, 1, 5, 18] [] [] (l := [(0, .c (.row _ _ _)), (1, .c (.int _ _)), (5, .c (.int _ _)), (18, .c (.bool false))]) (h := []) (h' := []) trivial rfl rfl rfl ?_
        refine W_false rfl ?_
        refine W_skip ?_
        refine W_regV he rfl ?_
        refine v0 (sM rfl [] rfl) rfl ?_
        refine v0 (sBi rfl rfl rfl rfl) rfl ?_
        refine v0 (sA rfl [] rfl) rfl ?_
        refine ve ?_
        refine W2 [0, 1, 5] [] [] (l := [(0, .c (.row _ _ _)), (1, .c (.int _ _)), (5, .c (.int _ _))]) (h := []) (h' := []) trivial rfl rfl rfl ?_
        refine W_regV he rfl ?_
        refine v0 (sM rfl [] rfl) rfl ?_
        refine v0 (sBi rfl rfl rfl rfl) rfl ?_
        refine v0 (sA rfl [] rfl) rfl ?_
        refine ve ?_
        exact ⟨n3, _, Nat.lt_succ_self n3, wk2 [0, 1, 5] [] [] (l := [(0, .c (.row _ _ _)), (1, .c (.int _ _)), (5, .c (.int _ _))]) (h := []) (h' := []) trivial rfl rfl rfl, _, _, rfl, h⟩
    | false =>
      replace h := brF hb4 h
      refine ve ?_
      refine W2 [0, 1, 5, 9] [] [] (l := [(0, .c (.row _ _ _)), (1, .c (.int _ _)), (5, .c (.int _ _)), (9, .c (.bool false))]) (h := []) (h' := []) trivial rfl rfl rfl ?_
      refine W_false rfl ?_
      refine W_exit (ex_then (ex_then (ex_hit ?_)))
      refine W_seq ?_
      refine W_regV he rfl ?_
      refine v0 (sM rfl [] rfl) rfl ?_
      refine v0 (sA rfl [] rfl) rfl ?_
      refine ve ?_
      refine W2 [4] [] [] (l := [(4, .c (.int _ _))]) (h := []) (h' := []) trivial rfl rfl rfl ?_
      obtain rfl := Option.some.inj h
      exact W_ret (r0 rfl rfl)
theorem ok_laws_heldByteS : FnOk Try.prog 27 := ⟨_, Try.func27, rfl, rfl⟩


/-! ### loop.example/g00499/laws.FnExactPutVar -/
def m_laws_FnExactPutVar (K : Nat) (a0 : List Int) (a1 : Int) : Option (Bool) := (bif (decide ((a0.length : Int) > 1048576)) then some true else ((m_laws_toByteS K a0).bind fun r2 => ((m_spec_PutVar K r2 a1).bind fun r3 => ((m_laws_toByteS K a0).bind fun r4 => ((m_impl_PutVar K r4 a1).bind fun r5 => ((m_laws_eqByteS K r5 r3).bind fun r6 => (bif r6 then ((m_laws_toByteS K a0).bind fun r8 => ((m_laws_eqByteS K r4 r8).bind fun r9 => (bif r9 then ((m_laws_markByteSW K r4 1).bind fun r11 => (if r11.2.length = r4.length then (bif (decide (r11.1 < 0)) then some false else ((m_laws_eqByteS K r5 r3).bind fun r14 => (bif r14 then ((m_laws_markByteSW K r5 1).bind fun r16 => (if r16.2.length = r5.length then ((m_laws_heldByteS K r16.2 1).bind fun r18 => (bif (decide (r18 < 0)) then some false else (bif (r18 != r16.1) then some false else ((m_laws_toByteS K a0).bind fun r21 => ((m_impl_PutVar K r21 a1).bind fun r22 => ((m_laws_eqByteS K r22 r3).bind fun r23 => (bif r23 then ((m_laws_heldByteS K r16.2 1).bind fun r25 => (bif (decide (r25 < 0)) then some false else (bif (r25 != r16.1) then some false else some true))) else some false))))))) else none)) else some false))) else none)) else some false))) else some false)))))))
set_option maxRecDepth 20000 in
set_option maxHeartbeats 8000000 in
theorem w_laws_FnExactPutVar (K : Nat) (a0 : List Int) (a1 : Int) (r : Bool) (h : m_laws_FnExactPutVar K a0 a1 = some r) : Sp Try.prog 6 [.c (.row false 1 (a0.map en_u8)), .c (.int .i64 a1)] [] (.c (.bool r)) [] := by
  refine Sp.of_W tabOk Try.func6 rfl rfl (Nat.le_of_ble_eq_true rfl) (Nat.le_of_ble_eq_true rfl) fun F hP hN hm => ?_
  obtain ⟨P, N, w0, σ0, β0, m⟩ := F
  obtain rfl : P = Try.prog := hP
  obtain rfl : N = 71 := hN
  obtain rfl : m = 1 := hm
  have he : Env ⟨Try.prog, 71, w0, σ0, β0, 1⟩ tab := ⟨Nat.le_of_ble_eq_true rfl, tabOk⟩
  unfold m_laws_FnExactPutVar at h
  refine W_seq ?_
  refine W_regV he rfl ?_
  refine v0 (sA rfl [] rfl) rfl ?_
  refine ve ?_
  refine W2 [0, 1] [] [] (l := [(0, .c (.row _ _ _)), (1, .c (.int _ _))]) (h := []) (h' := []) trivial rfl rfl rfl ?_
  refine W_seq ?_
  refine W_seq ?_
  refine W_regV he rfl ?_
  refine v0 (sM rfl [] rfl) rfl ?_
  refine v0 (sLm rfl rfl rfl rfl) rfl ?_
  refine vB (sBi rfl rfl rfl rfl) rfl rfl fun b1 hb1 => ?_
  cases b1 with
  | true =>
    replace h := brT hb1 h
    refine ve ?_
    refine W2 [0, 1, 14] [] [] (l := [(0, .c (.row _ _ _)), (1, .c (.int _ _)), (14, .c (.bool true))]) (h := []) (h' := []) trivial rfl rfl rfl ?_
    refine W_true rfl ?_
    refine W_seq ?_
    refine W_regV he rfl ?_
    refine v0 (sA rfl [] rfl) rfl ?_
    refine ve ?_
    refine W2 [4] [] [] (l := [(4, .c (.bool true))]) (h := []) (h' := []) trivial rfl rfl rfl ?_
    obtain rfl := Option.some.inj h
    exact W_ret (r0 rfl rfl)
  | false =>
    replace h := brF hb1 h
    refine ve ?_
    refine W2 [0, 1, 14] [] [] (l := [(0, .c (.row _ _ _)), (1, .c (.int _ _)), (14, .c (.bool false))]) (h := []) (h' := []) trivial rfl rfl rfl ?_
    refine W_false rfl ?_
    refine W_skip ?_
    refine W_seq ?_
    refine W_regV he rfl ?_
    refine v0 (sM rfl [] rfl) rfl ?_
    obtain ⟨r2, hr2, h⟩ := bnd2 h
    refine v0 (sCm (w_laws_toByteS K a0 _ hr2) ok_laws_toByteS rfl rfl rfl rfl) rfl ?_
    refine v0 (sM rfl [] rfl) rfl ?_
    obtain ⟨r3, hr3, h⟩ := bnd2 h
    refine v0 (sCm (w_spec_PutVar K r2 a1 _ hr3) ok_spec_PutVar rfl rfl rfl rfl) rfl ?_
    refine v0 (sA rfl [] rfl) rfl ?_
    refine ve ?_
    refine W2 [0, 1, 5] [] [] (l := [(0, .c (.row _ _ _)), (1, .c (.int _ _)), (5, .c (.row _ _ _))]) (h := []) (h' := []) trivial rfl rfl rfl ?_
    refine W_seq ?_
    refine W_regV he rfl ?_
    refine v0 (sM rfl [] rfl) rfl ?_
    obtain ⟨r4, hr4, h⟩ := bnd2 h
    refine v0 (sCo (wo_laws_toByteS K a0 _ hr4) ok_laws_toByteS (fun _ => rfl) [] 1006 rfl rfl rfl rfl rfl) rfl ?_
    refine v0 (sA rfl [] rfl) rfl ?_
    refine ve ?_
    refine W2 [0, 1, 5, 6] [] [1006] (l := [(0, .c (.row _ _ _)), (1, .c (.int _ _)), (5, .c (.row _ _ _)), (6, .c (.own _ _ _ _))]) (h := []) (h' := [(1006, ⟨0, 1, r4.map en_u8⟩)]) ⟨⟨_, rfl, enOk_u8.allClosed _ _ r4⟩, trivial⟩ rfl rfl rfl ?_
    refine W_seq ?_
    refine W_regV he rfl ?_
    refine v0 (sM rfl [] rfl) rfl ?_
    refine v0 (sM rfl [] rfl) rfl ?_
    obtain ⟨r5, hr5, h⟩ := bnd2 h
    refine v0 (sCo (wo_impl_PutVar K r4 a1 _ hr5) ok_impl_PutVar (fun _ => rfl) [1006] 1007 rfl rfl rfl (low_cons (low_lent enOk_u8 rfl rfl rfl) (low_cons (rfl) (low_nil))) rfl) rfl ?_
    refine v0 (sA rfl [] rfl) rfl ?_
    refine ve ?_
    refine W2 [0, 1, 5, 6, 7] [] [1006, 1007] (l := [(0, .c (.row _ _ _)), (1, .c (.int _ _)), (5, .c (.row _ _ _)), (6, .c (.own _ _ _ _)), (7, .c (.own _ _ _ _))]) (h := []) (h' := [(1006, ⟨0, 1, r4.map en_u8⟩), (1007, ⟨0, 1, r5.map en_u8⟩)]) ⟨⟨_, rfl, enOk_u8.allClosed _ _ r4⟩, ⟨⟨_, rfl, enOk_u8.allClosed _ _ r5⟩, trivial⟩⟩ rfl rfl rfl ?_
    refine W_seq ?_
    refine W_seq ?_
    refine W_regV he rfl ?_
    refine v0 (sM rfl [] rfl) rfl ?_
    refine v0 (sM rfl [] rfl) rfl ?_
    obtain ⟨r6, hr6, h⟩ := bnd2 h
    refine vB (sCle (w_laws_eqByteS K r5 r3 _ hr6) ok_laws_eqByteS [1007] rfl rfl (low_cons (low_lent enOk_u8 rfl rfl rfl) (low_cons (rfl) (low_nil))) rfl) rfl rfl fun b7 hb7 => ?_
    cases b7 with
    | true =>
      replace h := brT hb7 h
      refine v0 (sNt rfl rfl) rfl ?_
      refine ve ?_
      refine W2 [0, 1, 5, 6, 7, 27] [] [1006, 1007] (l := [(0, .c (.row _ _ _)), (1, .c (.int _ _)), (5, .c (.row _ _ _)), (6, .c (.own _ _ _ _)), (7, .c (.own _ _ _ _)), (27, .c (.bool false))]) (h := []) (h' := [(1006, ⟨0, 1, r4.map en_u8⟩), (1007, ⟨0, 1, r5.map en_u8⟩)]) ⟨⟨_, rfl, enOk_u8.allClosed _ _ r4⟩, ⟨⟨_, rfl, enOk_u8.allClosed _ _ r5⟩, trivial⟩⟩ rfl rfl rfl ?_
      refine W_false rfl ?_
      refine W_skip ?_
      refine W_seq ?_
      refine W_seq ?_
      refine W_regV he rfl ?_
      refine v0 (sM rfl [] rfl) rfl ?_
      refine v0 (sM rfl [] rfl) rfl ?_
      obtain ⟨r8, hr8, h⟩ := bnd2 h
      refine v0 (sCm (w_laws_toByteS K a0 _ hr8) ok_laws_toByteS rfl rfl rfl rfl) rfl ?_
      obtain ⟨r9, hr9, h⟩ := bnd2 h
      refine vB (sCle (w_laws_eqByteS K r4 r8 _ hr9) ok_laws_eqByteS [1006] rfl rfl (low_cons (low_lent enOk_u8 rfl rfl rfl) (low_cons (rfl) (low_nil))) rfl) rfl rfl fun b10 hb10 => ?_
      cases b10 with
      | true =>
        replace h := brT hb10 h
        refine v0 (sNt rfl rfl) rfl ?_
        refine ve ?_
        refine W2 [0, 1, 5, 6, 7, 32] [] [1006, 1007] (l := [(0, .c (.row _ _ _)), (1, .c (.int _ _)), (5, .c (.row _ _ _)), (6, .c (.own _ _ _ _)), (7, .c (.own _ _ _ _)), (32, .c (.bool false))]) (h := []) (h' := [(1006, ⟨0, 1, r4.map en_u8⟩), (1007, ⟨0, 1, r5.map en_u8⟩)]) ⟨⟨_, rfl, enOk_u8.allClosed _ _ r4⟩, ⟨⟨_, rfl, enOk_u8.allClosed _ _ r5⟩, trivial⟩⟩ rfl rfl rfl ?_
        refine W_false rfl ?_
        refine W_skip ?_
        refine W_seq ?_
        refine W_regV he rfl ?_
        refine v0 (sA rfl [] rfl) rfl ?_
        refine ve ?_
        refine W2 [0, 1, 5, 6, 7, 8] [] [1006, 1007] (l := [(0, .c (.row _ _ _)), (1, .c (.int _ _)), (5, .c (.row _ _ _)), (6, .c (.own _ _ _ _)), (7, .c (.own _ _ _ _)), (8, .c (.int _ _))]) (h := []) (h' := [(1006, ⟨0, 1, r4.map en_u8⟩), (1007, ⟨0, 1, r5.map en_u8⟩)]) ⟨⟨_, rfl, enOk_u8.allClosed _ _ r4⟩, ⟨⟨_, rfl, enOk_u8.allClosed _ _ r5⟩, trivial⟩⟩ rfl rfl rfl ?_
        refine W_seq ?_
        refine W_regV he rfl ?_
        refine v0 (sM rfl [] rfl) rfl ?_
        refine v0 (sM rfl [] rfl) rfl ?_
        obtain ⟨r11, hr11, h⟩ := bnd2 h
        obtain ⟨c12, h⟩ := chk h
        refine v0 (sCw (w_laws_markByteSW K r4 1 _ hr11) ok_laws_markByteS enOk_u8 (fun _ => rfl) c12 1006 rfl rfl rfl rfl rfl rfl) rfl ?_
        refine v0 (sA rfl [] rfl) rfl ?_
        refine ve ?_
        refine W2 [0, 1, 5, 7, 8] [] [1007] (l := [(0, .c (.row _ _ _)), (1, .c (.int _ _)), (5, .c (.row _ _ _)), (7, .c (.own _ _ _ _)), (8, .c (.int _ _))]) (h := []) (h' := [(1007, ⟨0, 1, r5.map en_u8⟩)]) ⟨⟨_, rfl, enOk_u8.allClosed _ _ r5⟩, trivial⟩ rfl rfl rfl ?_
        refine W_seq ?_
        refine W_seq ?_
        refine W_regV he rfl ?_
        refine v0 (sM rfl [] rfl) rfl ?_
        refine vB (sBi rfl rfl rfl rfl) rfl rfl fun b13 hb13 => ?_
        cases b13 with
        | true =>
          replace h := brT hb13 h
          refine v0 (sM rfl [] rfl) rfl ?_
          refine uP rfl rfl rfl rfl ?_
          refine uP rfl rfl rfl rfl ?_
          refine uP rfl rfl rfl rfl ?_
          refine uP rfl rfl rfl rfl ?_
          refine v0 (sPk rfl [] rfl rfl) rfl ?_
          refine ve ?_
          refine W2 [0, 1, 5, 7, 43] [] [1007] (l := [(0, .c (.row _ _ _)), (1, .c (.int _ _)), (5, .c (.row _ _ _)), (7, .c (.own _ _ _ _)), (43, .c (.bool true))]) (h := []) (h' := [(1007, ⟨0, 1, r5.map en_u8⟩)]) ⟨⟨_, rfl, enOk_u8.allClosed _ _ r5⟩, trivial⟩ rfl rfl rfl ?_
          refine W_true rfl ?_
          refine W_seq ?_
          refine W_regV he rfl ?_
          refine v0 (sA rfl [] rfl) rfl ?_
          refine ve ?_
          refine W2 [4] [] [] (l := [(4, .c (.bool false))]) (h := []) (h' := []) trivial rfl rfl rfl ?_
          obtain rfl := Option.some.inj h
          exact W_ret (r0 rfl rfl)
        | false =>
          replace h := brF hb13 h
          refine v0 (sM rfl [] rfl) rfl ?_
          refine u0 (sM rfl [] rfl) rfl rfl rfl ?_
          refine u0 (sM rfl [] rfl) rfl rfl rfl ?_
          obtain ⟨r14, hr14, h⟩ := bnd2 h
          refine uB (sCle (w_laws_eqByteS K r5 r3 _ hr14) ok_laws_eqByteS [1007] rfl rfl (low_cons (low_lent enOk_u8 rfl rfl rfl) (low_cons (rfl) (low_nil))) rfl) rfl rfl rfl rfl fun b15 hb15 => ?_
          cases b15 with
          | true =>
            replace h := brT hb15 h
            refine u0 (sNt rfl rfl) rfl rfl rfl ?_
            refine v0 (sPk rfl [] rfl rfl) rfl ?_
            refine ve ?_
            refine W2 [0, 1, 5, 7, 43] [] [1007] (l := [(0, .c (.row _ _ _)), (1, .c (.int _ _)), (5, .c (.row _ _ _)), (7, .c (.own _ _ _ _)), (43, .c (.bool false))]) (h := []) (h' := [(1007, ⟨0, 1, r5.map en_u8⟩)]) ⟨⟨_, rfl, enOk_u8.allClosed _ _ r5⟩, trivial⟩ rfl rfl rfl ?_
            refine W_false rfl ?_
            refine W_skip ?_
            refine W_seq ?_
            refine W_regV he rfl ?_
            refine v0 (sA rfl [] rfl) rfl ?_
            refine ve ?_
            refine W2 [0, 1, 5, 7, 9] [] [1007] (l := [(0, .c (.row _ _ _)), (1, .c (.int _ _)), (5, .c (.row _ _ _)), (7, .c (.own _ _ _ _)), (9, .c (.int _ _))]) (h := []) (h' := [(1007, ⟨0, 1, r5.map en_u8⟩)]) ⟨⟨_, rfl, enOk_u8.allClosed _ _ r5⟩, trivial⟩ rfl rfl rfl ?_
            refine W_seq ?_
            refine W_regV he rfl ?_
            refine v0 (sM rfl [] rfl) rfl ?_
            refine v0 (sM rfl [] rfl) rfl ?_
            obtain ⟨r16, hr16, h⟩ := bnd2 h
            obtain ⟨c17, h⟩ := chk h
            refine v0 (sCw (w_laws_markByteSW K r5 1 _ hr16) ok_laws_markByteS enOk_u8 (fun _ => rfl) c17 1007 rfl rfl rfl rfl rfl rfl) rfl ?_
            refine v0 (sA rfl [] rfl) rfl ?_
            refine ve ?_
            refine W.weak (wk_len 7 (n' := r16.2.length) (by simp only [List.length_set, c12, c17]) rfl) ?_
            refine W2 [0, 1, 5, 7, 9] [] [1007] (l := [(0, .c (.row _ _ _)), (1, .c (.int _ _)), (5, .c (.row _ _ _)), (7, .c (.own _ _ _ _)), (9, .c (.int _ _))]) (h := []) (h' := [(1007, ⟨0, 1, r16.2.map en_u8⟩)]) ⟨⟨_, rfl, enOk_u8.allClosed _ _ r16.2⟩, trivial⟩ rfl rfl rfl ?_
            refine W_seq ?_
            refine W_regV he rfl ?_
            refine v0 (sA rfl [] rfl) rfl ?_
            refine ve ?_
            refine W2 [0, 1, 5, 7, 9, 10] [] [1007] (l := [(0, .c (.row _ _ _)), (1, .c (.int _ _)), (5, .c (.row _ _ _)), (7, .c (.own _ _ _ _)), (9, .c (.int _ _)), (10, .c (.int _ _))]) (h := []) (h' := [(1007, ⟨0, 1, r16.2.map en_u8⟩)]) ⟨⟨_, rfl, enOk_u8.allClosed _ _ r16.2⟩, trivial⟩ rfl rfl rfl ?_
            refine W_seq ?_
            refine W_regV he rfl ?_
            refine v0 (sM rfl [] rfl) rfl ?_
            refine v0 (sM rfl [] rfl) rfl ?_
            obtain ⟨r18, hr18, h⟩ := bnd2 h
            refine v0 (sCle (w_laws_heldByteS K r16.2 1 _ hr18) ok_laws_heldByteS [1007] rfl rfl (low_cons (low_lent enOk_u8 rfl rfl rfl) (low_cons (rfl) (low_nil))) rfl) rfl ?_
            refine v0 (sA rfl [] rfl) rfl ?_
            refine ve ?_
            refine W2 [0, 1, 5, 7, 9, 10] [] [1007] (l := [(0, .c (.row _ _ _)), (1, .c (.int _ _)), (5, .c (.row _ _ _)), (7, .c (.own _ _ _ _)), (9, .c (.int _ _)), (10, .c (.int _ _))]) (h := []) (h' := [(1007, ⟨0, 1, r16.2.map en_u8⟩)]) ⟨⟨_, rfl, enOk_u8.allClosed _ _ r16.2⟩, trivial⟩ rfl rfl rfl ?_
            refine W_seq ?_
            refine W_seq ?_
            refine W_regV he rfl ?_
            refine v0 (sM rfl [] rfl) rfl ?_
            refine vB (sBi rfl rfl rfl rfl) rfl rfl fun b19 hb19 => ?_
            cases b19 with
            | true =>
              replace h := brT hb19 h
              refine ve ?_
              refine W2 [0, 1, 5, 7, 9, 10, 51] [] [1007] (l := [(0, .c (.row _ _ _)), (1, .c (.int _ _)), (5, .c (.row _ _ _)), (7, .c (.own _ _ _ _)), (9, .c (.int _ _)), (10, .c (.int _ _)), (51, .c (.bool true))]) (h := []) (h' := [(1007, ⟨0, 1, r16.2.map en_u8⟩)]) ⟨⟨_, rfl, enOk_u8.allClosed _ _ r16.2⟩, trivial⟩ rfl rfl rfl ?_
              refine W_true rfl ?_
              refine W_seq ?_
              refine W_regV he rfl ?_
              refine v0 (sA rfl [] rfl) rfl ?_
              refine ve ?_
              refine W2 [4] [] [] (l := [(4, .c (.bool false))]) (h := []) (h' := []) trivial rfl rfl rfl ?_
              obtain rfl := Option.some.inj h
              exact W_ret (r0 rfl rfl)
            | false =>
              replace h := brF hb19 h
              refine ve ?_
              refine W2 [0, 1, 5, 7, 9, 10, 51] [] [1007] (l := [(0, .c (.row _ _ _)), (1, .c (.int _ _)), (5, .c (.row _ _ _)), (7, .c (.own _ _ _ _)), (9, .c (.int _ _)), (10, .c (.int _ _)), (51, .c (.bool false))]) (h := []) (h' := [(1007, ⟨0, 1, r16.2.map en_u8⟩)]) ⟨⟨_, rfl, enOk_u8.allClosed _ _ r16.2⟩, trivial⟩ rfl rfl rfl ?_
              refine W_false rfl ?_
              refine W_skip ?_
              refine W_seq ?_
              refine W_seq ?_
              refine W_regV he rfl ?_
              refine v0 (sM rfl [] rfl) rfl ?_
              refine v0 (sM rfl [] rfl) rfl ?_
              refine vB (sBi rfl rfl rfl rfl) rfl rfl fun b20 hb20 => ?_
              cases b20 with
              | true =>
                replace h := brT hb20 h
                refine ve ?_
                refine W2 [0, 1, 5, 7, 9, 54] [] [1007] (l := [(0, .c (.row _ _ _)), (1, .c (.int _ _)), (5, .c (.row _ _ _)), (7, .c (.own _ _ _ _)), (9, .c (.int _ _)), (54, .c (.bool true))]) (h := []) (h' := [(1007, ⟨0, 1, r16.2.map en_u8⟩)]) ⟨⟨_, rfl, enOk_u8.allClosed _ _ r16.2⟩, trivial⟩ rfl rfl rfl ?_
                refine W_true rfl ?_
                refine W_seq ?_
                refine W_regV he rfl ?_
                refine v0 (sA rfl [] rfl) rfl ?_
                refine ve ?_
                refine W2 [4] [] [] (l := [(4, .c (.bool false))]) (h := []) (h' := []) trivial rfl rfl rfl ?_
                obtain rfl := Option.some.inj h
                exact W_ret (r0 rfl rfl)
              | false =>
                replace h := brF hb20 h
                refine ve ?_
                refine W2 [0, 1, 5, 7, 9, 54] [] [1007] (l := [(0, .c (.row _ _ _)), (1, .c (.int _ _)), (5, .c (.row _ _ _)), (7, .c (.own _ _ _ _)), (9, .c (.int _ _)), (54, .c (.bool false))]) (h := []) (h' := [(1007, ⟨0, 1, r16.2.map en_u8⟩)]) ⟨⟨_, rfl, enOk_u8.allClosed _ _ r16.2⟩, trivial⟩ rfl rfl rfl ?_
                refine W_false rfl ?_
                refine W_skip ?_
                refine W_seq ?_
                refine W_regV he rfl ?_
                refine v0 (sM rfl [] rfl) rfl ?_
                obtain ⟨r21, hr21, h⟩ := bnd2 h
                refine v0 (sCm (w_laws_toByteS K a0 _ hr21) ok_laws_toByteS rfl rfl rfl rfl) rfl ?_
                refine v0 (sM rfl [] rfl) rfl ?_
                obtain ⟨r22, hr22, h⟩ := bnd2 h
                refine v0 (sCm (w_impl_PutVar K r21 a1 _ hr22) ok_impl_PutVar rfl rfl rfl rfl) rfl ?_
                refine v0 (sA rfl [] rfl) rfl ?_
                refine ve ?_
                refine W2 [5, 7, 9, 11] [] [1007] (l := [(5, .c (.row _ _ _)), (7, .c (.own _ _ _ _)), (9, .c (.int _ _)), (11, .c (.row _ _ _))]) (h := []) (h' := [(1007, ⟨0, 1, r16.2.map en_u8⟩)]) ⟨⟨_, rfl, enOk_u8.allClosed _ _ r16.2⟩, trivial⟩ rfl rfl rfl ?_
                refine W_seq ?_
                refine W_seq ?_
                refine W_regV he rfl ?_
                refine v0 (sM rfl [] rfl) rfl ?_
                refine v0 (sM rfl [] rfl) rfl ?_
                obtain ⟨r23, hr23, h⟩ := bnd2 h
                refine vB (sCm (w_laws_eqByteS K r22 r3 _ hr23) ok_laws_eqByteS rfl rfl rfl rfl) rfl rfl fun b24 hb24 => ?_
                cases b24 with
                | true =>
                  replace h := brT hb24 h
                  refine v0 (sNt rfl rfl) rfl ?_
                  refine ve ?_
                  refine W2 [7, 9, 62] [] [1007] (l := [(7, .c (.own _ _ _ _)), (9, .c (.int _ _)), (62, .c (.bool false))]) (h := []) (h' := [(1007, ⟨0, 1, r16.2.map en_u8⟩)]) ⟨⟨_, rfl, enOk_u8.allClosed _ _ r16.2⟩, trivial⟩ rfl rfl rfl ?_
                  refine W_false rfl ?_
                  refine W_skip ?_
                  refine W_seq ?_
                  refine W_regV he rfl ?_
                  refine v0 (sA rfl [] rfl) rfl ?_
                  refine ve ?_
                  refine W2 [7, 9, 10] [] [1007] (l := [(7, .c (.own _ _ _ _)), (9, .c (.int _ _)), (10, .c (.int _ _))]) (h := []) (h' := [(1007, ⟨0, 1, r16.2.map en_u8⟩)]) ⟨⟨_, rfl, enOk_u8.allClosed _ _ r16.2⟩, trivial⟩ rfl rfl rfl ?_
                  refine W_seq ?_
                  refine W_regV he rfl ?_
                  refine v0 (sM rfl [] rfl) rfl ?_
                  refine v0 (sM rfl [] rfl) rfl ?_
                  obtain ⟨r25, hr25, h⟩ := bnd2 h
                  refine v0 (sCle (w_laws_heldByteS K r16.2 1 _ hr25) ok_laws_heldByteS [1007] rfl rfl (low_cons (low_lent enOk_u8 rfl rfl rfl) (low_cons (rfl) (low_nil))) rfl) rfl ?_
                  refine v0 (sA rfl [] rfl) rfl ?_
                  refine ve ?_
                  refine W2 [9, 10] [] [] (l := [(9, .c (.int _ _)), (10, .c (.int _ _))]) (h := []) (h' := []) trivial rfl rfl rfl ?_
                  refine W_seq ?_
                  refine W_seq ?_
                  refine W_regV he rfl ?_
                  refine v0 (sM rfl [] rfl) rfl ?_
                  refine vB (sBi rfl rfl rfl rfl) rfl rfl fun b26 hb26 => ?_
                  cases b26 with
                  | true =>
                    replace h := brT hb26 h
                    refine ve ?_
                    refine W2 [9, 10, 67] [] [] (l := [(9, .c (.int _ _)), (10, .c (.int _ _)), (67, .c (.bool true))]) (h := []) (h' := []) trivial rfl rfl rfl ?_
                    refine W_true rfl ?_
                    refine W_seq ?_
                    refine W_regV he rfl ?_
                    refine v0 (sA rfl [] rfl) rfl ?_
                    refine ve ?_
                    refine W2 [4] [] [] (l := [(4, .c (.bool false))]) (h := []) (h' := []) trivial rfl rfl rfl ?_
                    obtain rfl := Option.some.inj h
                    exact W_ret (r0 rfl rfl)
                  | false =>
                    replace h := brF hb26 h
                    refine ve ?_
                    refine W2 [9, 10, 67] [] [] (l := [(9, .c (.int _ _)), (10, .c (.int _ _)), (67, .c (.bool false))]) (h := []) (h' := []) trivial rfl rfl rfl ?_
                    refine W_false rfl ?_
                    refine W_skip ?_
                    refine W_seq ?_
                    refine W_seq ?_
                    refine W_regV he rfl ?_
                    refine v0 (sM rfl [] rfl) rfl ?_
                    refine v0 (sM rfl [] rfl) rfl ?_
                    refine vB (sBi rfl rfl rfl rfl) rfl rfl fun b27 hb27 => ?_
                    cases b27 with
                    | true =>
                      replace h := brT hb27 h
                      refine ve ?_
                      refine W2 [70] [] [] (l := [(70, .c (.bool true))]) (h := []) (h' := []) trivial rfl rfl rfl ?_
                      refine W_true rfl ?_
                      refine W_seq ?_
                      refine W_regV he rfl ?_
                      refine v0 (sA rfl [] rfl) rfl ?_
                      refine ve ?_
                      refine W2 [4] [] [] (l := [(4, .c (.bool false))]) (h := []) (h' := []) trivial rfl rfl rfl ?_
                      obtain rfl := Option.some.inj h
                      exact W_ret (r0 rfl rfl)
                    | false =>
                      replace h := brF hb27 h
                      refine ve ?_
                      refine W2 [70] [] [] (l := [(70, .c (.bool false))]) (h := []) (h' := []) trivial rfl rfl rfl ?_
                      refine W_false rfl ?_
                      refine W_skip ?_
                      refine W_seq ?_
                      refine W_regV he rfl ?_
                      refine v0 (sA rfl [] rfl) rfl ?_
                      refine ve ?_
                      refine W2 [4] [] [] (l := [(4, .c (.bool true))]) (h := []) (h' := []) trivial rfl rfl rfl ?_
                      obtain rfl := Option.some.inj h
                      exact W_ret (r0 rfl rfl)
                | false =>
                  replace h := brF hb24 h
                  refine v0 (sNt rfl rfl) rfl ?_
                  refine ve ?_
                  refine W2 [7, 9, 62] [] [1007] (l := [(7, .c (.own _ _ _ _)), (9, .c (.int _ _)), (62, .c (.bool true))]) (h := []) (h' := [(1007, ⟨0, 1, r16.2.map en_u8⟩)]) ⟨⟨_, rfl, enOk_u8.allClosed _ _ r16.2⟩, trivial⟩ rfl rfl rfl ?_
                  refine W_true rfl ?_
                  refine W_seq ?_
                  refine W_regV he rfl ?_
                  refine v0 (sA rfl [] rfl) rfl ?_
                  refine ve ?_
                  refine W2 [4] [] [] (l := [(4, .c (.bool false))]) (h := []) (h' := []) trivial rfl rfl rfl ?_
                  obtain rfl := Option.some.inj h
                  exact W_ret (r0 rfl rfl)
          | false =>
            replace h := brF hb15 h
            refine u0 (sNt rfl rfl) rfl rfl rfl ?_
            refine v0 (sPk rfl [] rfl rfl) rfl ?_
            refine ve ?_
            refine W2 [0, 1, 5, 7, 43] [] [1007] (l := [(0, .c (.row _ _ _)), (1, .c (.int _ _)), (5, .c (.row _ _ _)), (7, .c (.own _ _ _ _)), (43, .c (.bool true))]) (h := []) (h' := [(1007, ⟨0, 1, r5.map en_u8⟩)]) ⟨⟨_, rfl, enOk_u8.allClosed _ _ r5⟩, trivial⟩ rfl rfl rfl ?_
            refine W_true rfl ?_
            refine W_seq ?_
            refine W_regV he rfl ?_
            refine v0 (sA rfl [] rfl) rfl ?_
            refine ve ?_
            refine W2 [4] [] [] (l := [(4, .c (.bool false))]) (h := []) (h' := []) trivial rfl rfl rfl ?_
            obtain rfl := Option.some.inj h
            exact W_ret (r0 rfl rfl)
      | false =>
        replace h := brF hb10 h
        refine v0 (sNt rfl rfl) rfl ?_
        refine ve ?_
        refine W2 [0, 1, 5, 6, 7, 32] [] [1006, 1007] (l := [(0, .c (.row _ _ _)), (1, .c (.int _ _)), (5, .c (.row _ _ _)), (6, .c (.own _ _ _ _)), (7, .c (.own _ _ _ _)), (32, .c (.bool true))]) (h := []) (h' := [(1006, ⟨0, 1, r4.map en_u8⟩), (1007, ⟨0, 1, r5.map en_u8⟩)]) ⟨⟨_, rfl, enOk_u8.allClosed _ _ r4⟩, ⟨⟨_, rfl, enOk_u8.allClosed _ _ r5⟩, trivial⟩⟩ rfl rfl rfl ?_
        refine W_true rfl ?_
        refine W_seq ?_
        refine W_regV he rfl ?_
        refine v0 (sA rfl [] rfl) rfl ?_
        refine ve ?_
        refine W2 [4] [] [] (l := [(4, .c (.bool false))]) (h := []) (h' := []) trivial rfl rfl rfl ?_
        obtain rfl := Option.some.inj h
        exact W_ret (r0 rfl rfl)
    | false =>
      replace h := brF hb7 h
      refine v0 (sNt rfl rfl) rfl ?_
      refine ve ?_
      refine W2 [0, 1, 5, 6, 7, 27] [] [1006, 1007] (l := [(0, .c (.row _ _ _)), (1, .c (.int _ _)), (5, .c (.row _ _ _)), (6, .c (.own _ _ _ _)), (7, .c (.own _ _ _ _)), (27, .c (.bool true))]) (h := []) (h' := [(1006, ⟨0, 1, r4.map en_u8⟩), (1007, ⟨0, 1, r5.map en_u8⟩)]) ⟨⟨_, rfl, enOk_u8.allClosed _ _ r4⟩, ⟨⟨_, rfl, enOk_u8.allClosed _ _ r5⟩, trivial⟩⟩ rfl rfl rfl ?_
      refine W_true rfl ?_
      refine W_seq ?_
      refine W_regV he rfl ?_
      refine v0 (sA rfl [] rfl) rfl ?_
      refine ve ?_
      refine W2 [4] [] [] (l := [(4, .c (.bool false))]) (h := []) (h' := []) trivial rfl rfl rfl ?_
      obtain rfl := Option.some.inj h
      exact W_ret (r0 rfl rfl)
theorem ok_laws_FnExactPutVar : FnOk Try.prog 6 := ⟨_, Try.func6, rfl, rfl⟩


def Wf_u8 (x : Int) : Prop := (Lit.int .u8 x).wf = true
def Wf_Lu8 (x : List Int) : Prop := (∀ a ∈ x, Wf_u8 a) ∧ x.length * 1 ≤ reachBytes ∧ x.length ≤ maxLen
def Wf_i64 (x : Int) : Prop := (Lit.int .i64 x).wf = true
theorem lf_u8 {v : V} (h : Lf tab 5 v) : ∃ a, v = .int .u8 a ∧ Wf_u8 a := lf_int h rfl rfl
theorem ro_u8 (x : List V) (hl : x.length = 1) (h : ∀ (i : Nat) l v, ([5] : List Nat)[i]? = some l → x[i]? = some v → Lf tab l v) : ∃ a, x = en_u8 a ∧ Wf_u8 a := by
  match x, hl with
  | [v0], _ =>
    obtain ⟨x0, rfl, w0⟩ := lf_u8 (h 0 _ _ rfl rfl)
    exact ⟨x0, rfl, w0⟩
theorem ta_u8 {x : A} (h : TA tab 5 x) : ∃ a, x = .c (.int .u8 a) ∧ Wf_u8 a := let ⟨v, e, h1⟩ := ta_one h rfl rfl; let ⟨a, e2, w⟩ := lf_u8 h1; ⟨a, by rw [e, e2], w⟩
theorem lf_Lu8 {v : V} (h : Lf tab 30 v) : ∃ a, v = .row false 1 (a.map en_u8) ∧ Wf_Lu8 a := let ⟨l, e, h1, h2, h3⟩ := lf_row h rfl rfl rfl rfl ro_u8; ⟨l, e, h1, h2, h3⟩
theorem ro_Lu8 (x : List V) (hl : x.length = 1) (h : ∀ (i : Nat) l v, ([30] : List Nat)[i]? = some l → x[i]? = some v → Lf tab l v) : ∃ a, x = en_Lu8 a ∧ Wf_Lu8 a := by
  match x, hl with
  | [v0], _ =>
    obtain ⟨x0, rfl, w0⟩ := lf_Lu8 (h 0 _ _ rfl rfl)
    exact ⟨x0, rfl, w0⟩
theorem ta_Lu8 {x : A} (h : TA tab 30 x) : ∃ a, x = .c (.row false 1 (a.map en_u8)) ∧ Wf_Lu8 a := let ⟨v, e, h1⟩ := ta_one h rfl rfl; let ⟨a, e2, w⟩ := lf_Lu8 h1; ⟨a, by rw [e, e2], w⟩
theorem lf_i64 {v : V} (h : Lf tab 3 v) : ∃ a, v = .int .i64 a ∧ Wf_i64 a := lf_int h rfl rfl
theorem ro_i64 (x : List V) (hl : x.length = 1) (h : ∀ (i : Nat) l v, ([3] : List Nat)[i]? = some l → x[i]? = some v → Lf tab l v) : ∃ a, x = en_i64 a ∧ Wf_i64 a := by
  match x, hl with
  | [v0], _ =>
    obtain ⟨x0, rfl, w0⟩ := lf_i64 (h 0 _ _ rfl rfl)
    exact ⟨x0, rfl, w0⟩
theorem ta_i64 {x : A} (h : TA tab 3 x) : ∃ a, x = .c (.int .i64 a) ∧ Wf_i64 a := let ⟨v, e, h1⟩ := ta_one h rfl rfl; let ⟨a, e2, w⟩ := lf_i64 h1; ⟨a, by rw [e, e2], w⟩

theorem ownKnob0 : ownKnob Try.prog.godebug = none := by kernel_rfl
theorem laidOut0 : laidOutB Try.prog = true := by kernel_rfl
end Go.Proofs.Ytlenlhlggknelaa
