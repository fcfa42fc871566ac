/- Models of the program's functions, and the walks that show them. Printed by gen.py. -/
import Derived.Test.YtlenlhlggknelaaEng23
import Derived.Test.YtlenlhlggknelaaEng27
import Derived.Test.YtlenlhlggknelaaTab
set_option linter.unusedVariables false
set_option linter.unusedSimpArgs false
namespace Go.Proofs.Ytlenlhlggknelaa
open Go.Eng Go.ChangeShapes Go.WideShapes Go.ChangeAt Go.RowKit
structure T_impl_Handle where
  fSlot : Int
  fGen : Int
  deriving Inhabited
structure T_impl_Ref where
  fH : T_impl_Handle
  fEp : Int
  fNo : Int
  deriving Inhabited
structure T_impl_Op where
  fKind : Int
  fH : T_impl_Handle
  fR : T_impl_Ref
  fN : Int
  fM : Int
  fB : List Int
  deriving Inhabited
def en_u8 (x : Int) : List V := [.int .u8 x]
theorem enOk_u8 : En en_u8 1 := ⟨fun _ => rfl, fun _ => rfl, fun _ => rfl, fun x => rfl⟩
def en_i64 (x : Int) : List V := [.int .i64 x]
theorem enOk_i64 : En en_i64 1 := ⟨fun _ => rfl, fun _ => rfl, fun _ => rfl, fun x => rfl⟩
def en_impl_Handle (x : T_impl_Handle) : List V := [.int .i64 x.fSlot, .int .i64 x.fGen]
theorem enOk_impl_Handle : En en_impl_Handle 2 := ⟨fun _ => rfl, fun _ => rfl, fun _ => rfl, fun x => rfl⟩
def en_impl_Ref (x : T_impl_Ref) : List V := [.int .i64 x.fH.fSlot, .int .i64 x.fH.fGen, .int .i64 x.fEp, .int .i64 x.fNo]
theorem enOk_impl_Ref : En en_impl_Ref 4 := ⟨fun _ => rfl, fun _ => rfl, fun _ => rfl, fun x => rfl⟩
def en_Lu8 (x : List Int) : List V := [.row false 1 (x.map en_u8)]
theorem enOk_Lu8 : En en_Lu8 1 := ⟨fun _ => rfl, fun _ => rfl, fun _ => rfl, fun l => by show [V.share _] = _; rw [V.share, enOk_u8.shareLL]; rfl⟩
def en_impl_Op (x : T_impl_Op) : List V := [.int .i64 x.fKind, .int .i64 x.fH.fSlot, .int .i64 x.fH.fGen, .int .i64 x.fR.fH.fSlot, .int .i64 x.fR.fH.fGen, .int .i64 x.fR.fEp, .int .i64 x.fR.fNo, .int .i64 x.fN, .int .i64 x.fM, .row false 1 (x.fB.map en_u8)]
theorem enOk_impl_Op : En en_impl_Op 10 := ⟨fun _ => rfl, fun _ => rfl, fun _ => rfl, fun x => by simp only [en_impl_Op, shareL, V.share, enOk_u8.shareLL]⟩

/-! ### loop.example/g00499/laws.toByteS -/
def l_laws_toByteS_4 (K : Nat) (a0 : List Int) : Nat → Int → (List Int) → Option ((List Int))
  | 0, _, _ => none
  | n4 + 1, v2, v3 => (bif (decide (v2 < (a0.length : Int))) then (if (0 : Int) ≤ v2 ∧ v2 < (a0.length : Int) then (if (0 : Int) ≤ v2 ∧ v2 < (v3.length : Int) then (l_laws_toByteS_4 K a0 n4 (iAdd .i64 v2 1) (v3.set v2.toNat (gt a0 v2))) else none) else none) else some v3)
def m_laws_toByteS (K : Nat) (a0 : List Int) : Option ((List Int)) := (if (0 : Int) ≤ (a0.length : Int) ∧ (a0.length : Int) ≤ (a0.length : Int) ∧ (1 : Int) * (a0.length : Int) ≤ 281474976710656 ∧ (a0.length : Int) ≤ 9223372036854775807 then (l_laws_toByteS_4 K a0 K 0 (List.replicate (a0.length : Int).toNat 0)) else none)
set_option maxRecDepth 20000 in
set_option maxHeartbeats 8000000 in
theorem w_laws_toByteS (K : Nat) (a0 : List Int) (r : (List Int)) (h : m_laws_toByteS K a0 = some r) : Sp Try.prog 21 [.c (.row false 1 (a0.map en_u8))] [] (.c (.row false 1 (r.map en_u8))) [] := by
  refine Sp.of_W tabOk Try.func21 rfl rfl (Nat.le_of_ble_eq_true rfl) (Nat.le_of_ble_eq_true rfl) fun F hP hN hm => ?_
  obtain ⟨P, N, w0, σ0, β0, m⟩ := F
  obtain rfl : P = Try.prog := hP
  obtain rfl : N = 22 := hN
  obtain rfl : m = 1 := hm
  have he : Env ⟨Try.prog, 22, w0, σ0, β0, 1⟩ tab := ⟨Nat.le_of_ble_eq_true rfl, tabOk⟩
  unfold m_laws_toByteS at h
  refine W_seq ?_
  refine W_regV he rfl ?_
  refine v0 (sA rfl [1] rfl) rfl ?_
  refine ve ?_
  refine W2 [0] [] [] (l := [(0, .c (.row _ _ _))]) (h := []) (h' := []) trivial rfl rfl rfl ?_
  refine W_seq ?_
  refine W_regV he rfl ?_
  refine v0 (sM rfl [] rfl) rfl ?_
  refine v0 (sLm rfl rfl rfl rfl) rfl ?_
  obtain ⟨c1, h⟩ := chk h
  refine v0 (sMkm rfl 1003 (f := en_u8) 0 rfl rfl rfl rfl rfl rfl rfl rfl rfl c1) rfl ?_
  refine v0 (sA rfl [] rfl) rfl ?_
  refine ve ?_
  refine W2 [0, 3] [] [1003] (l := [(0, .c (.row _ _ _)), (3, .c (.own _ _ _ _))]) (h := []) (h' := [(1003, ⟨0, 1, (List.replicate (a0.length : Int).toNat 0).map en_u8⟩)]) ⟨⟨_, rfl, enOk_u8.allClosed _ _ (List.replicate (a0.length : Int).toNat 0)⟩, trivial⟩ rfl rfl rfl ?_
  refine W_seq ?_
  refine W_seq ?_
  refine W_regV he rfl ?_
  refine v0 (sA rfl [] rfl) rfl ?_
  refine ve ?_
  refine W2 [0, 3, 4] [] [1003] (l := [(0, .c (.row _ _ _)), (3, .c (.own _ _ _ _)), (4, .c (.int _ _))]) (h := []) (h' := [(1003, ⟨0, 1, (List.replicate (a0.length : Int).toNat 0).map en_u8⟩)]) ⟨⟨_, rfl, enOk_u8.allClosed _ _ (List.replicate (a0.length : Int).toNat 0)⟩, trivial⟩ rfl rfl rfl ?_
  refine W_block ?_
  refine W2 [0, 3, 4] [] [1003] (l := [(0, .c (.row _ _ _)), (3, .c (.own _ _ _ _)), (4, .c (.int _ _))]) (h := []) (h' := [(1003, ⟨0, 1, (List.replicate (a0.length : Int).toNat 0).map en_u8⟩)]) ⟨⟨_, rfl, enOk_u8.allClosed _ _ (List.replicate (a0.length : Int).toNat 0)⟩, trivial⟩ rfl rfl rfl ?_
  refine W_loopW (fun n4 S => ∃ (v2 : Int), ∃ (v3 : List Int), S = StL [(0, .c (.row false 1 (a0.map en_u8))), (3, .c (.own 1003 0 0 v3.length)), (4, .c (.int .i64 v2))] ([] ++ [(1003, ⟨0, 1, v3.map en_u8⟩)]) ∧ l_laws_toByteS_4 K a0 n4 v2 v3 = some r) K ⟨_, _, rfl, h⟩ ?_
  rintro n4 S ⟨v2, v3, rfl, h⟩
  cases n4 with
  | zero => simp [l_laws_toByteS_4] at h
  | succ n4 =>
    rw [l_laws_toByteS_4] at h
    refine W_seq ?_
    refine W_seq ?_
    refine W_regV he rfl ?_
    refine v0 (sM rfl [] rfl) rfl ?_
    refine v0 (sM rfl [] rfl) rfl ?_
    refine v0 (sLm rfl rfl rfl rfl) rfl ?_
    refine vB (sBi rfl rfl rfl rfl) rfl rfl fun b5 hb5 => ?_
    cases b5 with
    | true =>
      replace h := brT hb5 h
      refine ve ?_
      refine W2 [0, 3, 4, 11] [] [1003] (l := [(0, .c (.row _ _ _)), (3, .c (.own _ _ _ _)), (4, .c (.int _ _)), (11, .c (.bool true))]) (h := []) (h' := [(1003, ⟨0, 1, v3.map en_u8⟩)]) ⟨⟨_, rfl, enOk_u8.allClosed _ _ v3⟩, trivial⟩ rfl rfl rfl ?_
      refine W_true rfl ?_
      refine W_skip ?_
      refine W_seq ?_
      refine W_block ?_
      refine W_regV he rfl ?_
      refine v0 (sM rfl [] rfl) rfl ?_
      refine v0 (sM rfl [] rfl) rfl ?_
      refine v0 (sM rfl [] rfl) rfl ?_
      refine v0 (sM rfl [] rfl) rfl ?_
      obtain ⟨c6, h⟩ := chk h
      refine v0 (sIRm rfl rfl rfl rfl c6) rfl ?_
      refine v0 (sLI rfl rfl (en_u8 (gt a0 v2)) (gt_at _ c6) rfl rfl rfl) rfl ?_
      obtain ⟨c7, h⟩ := chk h
      refine v0 (sIOm rfl rfl rfl c7) rfl ?_
      refine v0 (sSkm rfl rfl [] v3 (gt a0 v2) c7 rfl rfl rfl rfl rfl rfl rfl rfl rfl) rfl ?_
      refine ve ?_
      refine W.weak (wk_len 3 (n' := (v3.set v2.toNat (gt a0 v2)).length) (by simp only [List.length_set]) rfl) ?_
      refine W2 [0, 3, 4] [] [1003] (l := [(0, .c (.row _ _ _)), (3, .c (.own _ _ _ _)), (4, .c (.int _ _))]) (h := []) (h' := [(1003, ⟨0, 1, (v3.set v2.toNat (gt a0 v2)).map en_u8⟩)]) ⟨⟨_, rfl, enOk_u8.allClosed _ _ (v3.set v2.toNat (gt a0 v2))⟩, trivial⟩ rfl rfl rfl ?_
      refine W_regV he rfl ?_
      refine v0 (sM rfl [] rfl) rfl ?_
      refine v0 (sBi rfl rfl rfl rfl) rfl ?_
      refine v0 (sA rfl [] rfl) rfl ?_
      refine ve ?_
      exact ⟨n4, _, Nat.lt_succ_self n4, wk2 [0, 3, 4] [] [1003] (l := [(0, .c (.row _ _ _)), (3, .c (.own _ _ _ _)), (4, .c (.int _ _))]) (h := []) (h' := [(1003, ⟨0, 1, (v3.set v2.toNat (gt a0 v2)).map en_u8⟩)]) ⟨⟨_, rfl, enOk_u8.allClosed _ _ (v3.set v2.toNat (gt a0 v2))⟩, trivial⟩ rfl rfl rfl, _, _, rfl, h⟩
    | false =>
      replace h := brF hb5 h
      refine ve ?_
      refine W2 [0, 3, 4, 11] [] [1003] (l := [(0, .c (.row _ _ _)), (3, .c (.own _ _ _ _)), (4, .c (.int _ _)), (11, .c (.bool false))]) (h := []) (h' := [(1003, ⟨0, 1, v3.map en_u8⟩)]) ⟨⟨_, rfl, enOk_u8.allClosed _ _ v3⟩, trivial⟩ rfl rfl rfl ?_
      refine W_false rfl ?_
      refine W_exit (ex_then (ex_then (ex_hit ?_)))
      refine W_seq ?_
      refine W_regV he rfl ?_
      refine v0 (sM rfl [] rfl) rfl ?_
      refine v0 (sA rfl [] rfl) rfl ?_
      refine ve ?_
      refine W2 [2] [] [1003] (l := [(2, .c (.own _ _ _ _))]) (h := []) (h' := [(1003, ⟨0, 1, v3.map en_u8⟩)]) ⟨⟨_, rfl, enOk_u8.allClosed _ _ v3⟩, trivial⟩ rfl rfl rfl ?_
      obtain rfl := Option.some.inj h
      refine W.weak (wk_row (l := v3) 2 enOk_u8 rfl rfl) ?_
      exact W_ret (r0 rfl rfl)
theorem ok_laws_toByteS : FnOk Try.prog 21 := ⟨_, Try.func21, rfl, rfl⟩


/-! ### loop.example/g00499/spec.l1In -/
def m_spec_l1In (K : Nat) (a0 : Int) (a1 : Int) (a2 : Int) : Option (Bool) := (bif (decide (a0 ≥ a1)) then some (decide (a0 ≤ a2)) else some false)
set_option maxRecDepth 20000 in
set_option maxHeartbeats 8000000 in
theorem w_spec_l1In (K : Nat) (a0 : Int) (a1 : Int) (a2 : Int) (r : Bool) (h : m_spec_l1In K a0 a1 a2 = some r) : Sp Try.prog 56 [.c (.int .i64 a0), .c (.int .i64 a1), .c (.int .i64 a2)] [] (.c (.bool r)) [] := by
  refine Sp.of_W tabOk Try.func56 rfl rfl (Nat.le_of_ble_eq_true rfl) (Nat.le_of_ble_eq_true rfl) fun F hP hN hm => ?_
  obtain ⟨P, N, w0, σ0, β0, m⟩ := F
  obtain rfl : P = Try.prog := hP
  obtain rfl : N = 15 := hN
  obtain rfl : m = 1 := hm
  have he : Env ⟨Try.prog, 15, w0, σ0, β0, 1⟩ tab := ⟨Nat.le_of_ble_eq_true rfl, tabOk⟩
  unfold m_spec_l1In at h
  refine W_seq ?_
  refine W_regV he rfl ?_
  refine v0 (sA rfl [] rfl) rfl ?_
  refine ve ?_
  refine W2 [0, 1, 2] [] [] (l := [(0, .c (.int _ _)), (1, .c (.int _ _)), (2, .c (.int _ _))]) (h := []) (h' := []) trivial rfl rfl rfl ?_
  refine W_seq ?_
  refine W_regV he rfl ?_
  refine v0 (sM rfl [] rfl) rfl ?_
  refine v0 (sM rfl [] rfl) rfl ?_
  refine vB (sBi rfl rfl rfl rfl) rfl rfl fun b1 hb1 => ?_
  cases b1 with
  | true =>
    replace h := brT hb1 h
    refine v0 (sM rfl [] rfl) rfl ?_
    refine u0 (sM rfl [] rfl) rfl rfl rfl ?_
    refine u0 (sM rfl [] rfl) rfl rfl rfl ?_
    refine u0 (sBi rfl rfl rfl rfl) rfl rfl rfl ?_
    refine v0 (sPk rfl [] rfl rfl) rfl ?_
    refine v0 (sA rfl [] rfl) rfl ?_
    refine ve ?_
    refine W2 [6] [] [] (l := [(6, .c (.bool _))]) (h := []) (h' := []) trivial rfl rfl rfl ?_
    obtain rfl := Option.some.inj h
    exact W_ret (r0 rfl rfl)
  | false =>
    replace h := brF hb1 h
    refine v0 (sM rfl [] rfl) rfl ?_
    refine uP rfl rfl rfl rfl ?_
    refine uP rfl rfl rfl rfl ?_
    refine uP rfl rfl rfl rfl ?_
    refine v0 (sPk rfl [] rfl rfl) rfl ?_
    refine v0 (sA rfl [] rfl) rfl ?_
    refine ve ?_
    refine W2 [6] [] [] (l := [(6, .c (.bool false))]) (h := []) (h' := []) trivial rfl rfl rfl ?_
    obtain rfl := Option.some.inj h
    exact W_ret (r0 rfl rfl)
theorem ok_spec_l1In : FnOk Try.prog 56 := ⟨_, Try.func56, rfl, rfl⟩


/-! ### loop.example/g00499/spec.l21Num -/
def m_spec_l21Num (K : Nat) (a0 : Int) : Option (Bool) := ((m_spec_l1In K a0 0 1000000000).bind fun r1 => some r1)
set_option maxRecDepth 20000 in
set_option maxHeartbeats 8000000 in
theorem w_spec_l21Num (K : Nat) (a0 : Int) (r : Bool) (h : m_spec_l21Num K a0 = some r) : Sp Try.prog 64 [.c (.int .i64 a0)] [] (.c (.bool r)) [] := by
  refine Sp.of_W tabOk Try.func64 rfl rfl (Nat.le_of_ble_eq_true rfl) (Nat.le_of_ble_eq_true rfl) fun F hP hN hm => ?_
  obtain ⟨P, N, w0, σ0, β0, m⟩ := F
  obtain rfl : P = Try.prog := hP
  obtain rfl : N = 5 := hN
  obtain rfl : m = 1 := hm
  have he : Env ⟨Try.prog, 5, w0, σ0, β0, 1⟩ tab := ⟨Nat.le_of_ble_eq_true rfl, tabOk⟩
  unfold m_spec_l21Num at h
  refine W_seq ?_
  refine W_regV he rfl ?_
  refine v0 (sA rfl [] rfl) rfl ?_
  refine ve ?_
  refine W2 [0] [] [] (l := [(0, .c (.int _ _))]) (h := []) (h' := []) trivial rfl rfl rfl ?_
  refine W_seq ?_
  refine W_regV he rfl ?_
  refine v0 (sM rfl [] rfl) rfl ?_
  obtain ⟨r1, hr1, h⟩ := bnd2 h
  refine v0 (sCm (w_spec_l1In K a0 0 1000000000 _ hr1) ok_spec_l1In rfl rfl rfl rfl) rfl ?_
  refine v0 (sA rfl [] rfl) rfl ?_
  refine ve ?_
  refine W2 [2] [] [] (l := [(2, .c (.bool _))]) (h := []) (h' := []) trivial rfl rfl rfl ?_
  obtain rfl := Option.some.inj h
  exact W_ret (r0 rfl rfl)
theorem ok_spec_l21Num : FnOk Try.prog 64 := ⟨_, Try.func64, rfl, rfl⟩


/-! ### loop.example/g00499/spec.OpOk -/
def j_spec_OpOk_18 (K : Nat) (a0 : T_impl_Op) (v119 : Bool) : Option (Bool) := (bif v119 then (bif (((a0.fR.fH.fSlot == 0) && ((a0.fR.fH.fGen == 0) && true)) && ((a0.fR.fEp == 0) && ((a0.fR.fNo == 0) && true))) then (bif (a0.fN == 0) then (bif (a0.fM == 0) then some ((a0.fB.length : Int) == 0) else some false) else some false) else some false) else (bif (a0.fKind == 2) then (bif (((a0.fR.fH.fSlot == 0) && ((a0.fR.fH.fGen == 0) && true)) && ((a0.fR.fEp == 0) && ((a0.fR.fNo == 0) && true))) then some ((a0.fB.length : Int) == 0) else some false) else (bif (a0.fKind == 3) then (bif ((a0.fH.fSlot == 0) && ((a0.fH.fGen == 0) && true)) then some ((a0.fB.length : Int) == 0) else some false) else (bif (a0.fKind == 4) then (bif ((a0.fH.fSlot == 0) && ((a0.fH.fGen == 0) && true)) then some (a0.fM == 0) else some false) else (bif (a0.fKind == 5) then (bif (((a0.fR.fH.fSlot == 0) && ((a0.fR.fH.fGen == 0) && true)) && ((a0.fR.fEp == 0) && ((a0.fR.fNo == 0) && true))) then (bif (a0.fM == 0) then some ((a0.fB.length : Int) == 0) else some false) else some false) else (bif (a0.fKind == 9) then (bif ((a0.fH.fSlot == 0) && ((a0.fH.fGen == 0) && true)) then (bif (((a0.fR.fH.fSlot == 0) && ((a0.fR.fH.fGen == 0) && true)) && ((a0.fR.fEp == 0) && ((a0.fR.fNo == 0) && true))) then (bif (a0.fN == 0) then (bif (a0.fM == 0) then some ((a0.fB.length : Int) == 0) else some false) else some false) else some false) else some false) else some false))))))
def m_spec_OpOk (K : Nat) (a0 : T_impl_Op) : Option (Bool) := ((m_spec_l21Num K a0.fH.fSlot).bind fun r1 => (bif r1 then ((m_spec_l21Num K a0.fH.fGen).bind fun r3 => (bif r3 then ((m_spec_l21Num K a0.fR.fH.fSlot).bind fun r5 => (bif r5 then ((m_spec_l21Num K a0.fR.fH.fGen).bind fun r7 => (bif r7 then ((m_spec_l21Num K a0.fR.fEp).bind fun r9 => (bif r9 then ((m_spec_l21Num K a0.fR.fNo).bind fun r11 => (bif r11 then ((m_spec_l21Num K a0.fN).bind fun r13 => (bif r13 then ((m_spec_l21Num K a0.fM).bind fun r15 => (bif r15 then (bif (decide ((a0.fB.length : Int) > 200)) then some false else (bif (a0.fKind == 1) then j_spec_OpOk_18 K a0 (a0.fKind == 1) else (bif (a0.fKind == 6) then j_spec_OpOk_18 K a0 (a0.fKind == 6) else (bif (a0.fKind == 7) then j_spec_OpOk_18 K a0 (a0.fKind == 7) else j_spec_OpOk_18 K a0 (a0.fKind == 8))))) else some false)) else some false)) else some false)) else some false)) else some false)) else some false)) else some false)) else some false))
set_option maxRecDepth 20000 in
set_option maxHeartbeats 8000000 in
theorem w_spec_OpOk (K : Nat) (a0 : T_impl_Op) (r : Bool) (h : m_spec_OpOk K a0 = some r) : Sp Try.prog 40 [.g [.int .i64 a0.fKind, .int .i64 a0.fH.fSlot, .int .i64 a0.fH.fGen, .int .i64 a0.fR.fH.fSlot, .int .i64 a0.fR.fH.fGen, .int .i64 a0.fR.fEp, .int .i64 a0.fR.fNo, .int .i64 a0.fN, .int .i64 a0.fM, .row false 1 (a0.fB.map en_u8)]] [] (.c (.bool r)) [] := by
  refine Sp.of_W tabOk Try.func40 rfl rfl (Nat.le_of_ble_eq_true rfl) (Nat.le_of_ble_eq_true rfl) fun F hP hN hm => ?_
  obtain ⟨P, N, w0, σ0, β0, m⟩ := F
  obtain rfl : P = Try.prog := hP
  obtain rfl : N = 162 := hN
  obtain rfl : m = 1 := hm
  have he : Env ⟨Try.prog, 162, w0, σ0, β0, 1⟩ tab := ⟨Nat.le_of_ble_eq_true rfl, tabOk⟩
  unfold m_spec_OpOk at h
  refine W_seq ?_
  refine W_regV he rfl ?_
  refine v0 (sBx rfl [] rfl rfl 101 rfl) rfl ?_
  refine v0 (sA rfl [] rfl) rfl ?_
  refine ve ?_
  refine W2 [1] [101] [] (l := [(1, .c (.ptr _ _ _ _))]) (h := [(101, ⟨0, 10, [[.int _ _, .int _ _, .int _ _, .int _ _, .int _ _, .int _ _, .int _ _, .int _ _, .int _ _, .row _ _ _]]⟩)]) (h' := []) trivial rfl rfl rfl ?_
  refine W_seq ?_
  refine W_seq ?_
  refine W_regV he rfl ?_
  refine v0 (sFP rfl rfl rfl) rfl ?_
  refine v0 (sFP rfl rfl rfl) rfl ?_
  refine v0 (sLd rfl rfl) rfl ?_
  obtain ⟨r1, hr1, h⟩ := bnd2 h
  refine vB (sCm (w_spec_l21Num K a0.fH.fSlot _ hr1) ok_spec_l21Num rfl rfl rfl rfl) rfl rfl fun b2 hb2 => ?_
  cases b2 with
  | true =>
    replace h := brT hb2 h
    refine v0 (sNt rfl rfl) rfl ?_
    refine v0 (sM rfl [] rfl) rfl ?_
    refine u0 (sFP rfl rfl rfl) rfl rfl rfl ?_
    refine u0 (sFP rfl rfl rfl) rfl rfl rfl ?_
    refine u0 (sLd rfl rfl) rfl rfl rfl ?_
    obtain ⟨r3, hr3, h⟩ := bnd2 h
    refine uB (sCm (w_spec_l21Num K a0.fH.fGen _ hr3) ok_spec_l21Num rfl rfl rfl rfl) rfl rfl rfl rfl fun b4 hb4 => ?_
    cases b4 with
    | true =>
      replace h := brT hb4 h
      refine u0 (sNt rfl rfl) rfl rfl rfl ?_
      refine v0 (sPk rfl [] rfl rfl) rfl ?_
      refine v0 (sM rfl [] rfl) rfl ?_
      refine u0 (sFP rfl rfl rfl) rfl rfl rfl ?_
      refine u0 (sFP rfl rfl rfl) rfl rfl rfl ?_
      refine u0 (sFP rfl rfl rfl) rfl rfl rfl ?_
      refine u0 (sLd rfl rfl) rfl rfl rfl ?_
      obtain ⟨r5, hr5, h⟩ := bnd2 h
      refine uB (sCm (w_spec_l21Num K a0.fR.fH.fSlot _ hr5) ok_spec_l21Num rfl rfl rfl rfl) rfl rfl rfl rfl fun b6 hb6 => ?_
      cases b6 with
      | true =>
        replace h := brT hb6 h
        refine u0 (sNt rfl rfl) rfl rfl rfl ?_
        refine v0 (sPk rfl [] rfl rfl) rfl ?_
        refine v0 (sM rfl [] rfl) rfl ?_
        refine u0 (sFP rfl rfl rfl) rfl rfl rfl ?_
        refine u0 (sFP rfl rfl rfl) rfl rfl rfl ?_
        refine u0 (sFP rfl rfl rfl) rfl rfl rfl ?_
        refine u0 (sLd rfl rfl) rfl rfl rfl ?_
        obtain ⟨r7, hr7, h⟩ := bnd2 h
        refine uB (sCm (w_spec_l21Num K a0.fR.fH.fGen _ hr7) ok_spec_l21Num rfl rfl rfl rfl) rfl rfl rfl rfl fun b8 hb8 => ?_
        cases b8 with
        | true =>
          replace h := brT hb8 h
          refine u0 (sNt rfl rfl) rfl rfl rfl ?_
          refine v0 (sPk rfl [] rfl rfl) rfl ?_
          refine v0 (sM rfl [] rfl) rfl ?_
          refine u0 (sFP rfl rfl rfl) rfl rfl rfl ?_
          refine u0 (sFP rfl rfl rfl) rfl rfl rfl ?_
          refine u0 (sLd rfl rfl) rfl rfl rfl ?_
          obtain ⟨r9, hr9, h⟩ := bnd2 h
          refine uB (sCm (w_spec_l21Num K a0.fR.fEp _ hr9) ok_spec_l21Num rfl rfl rfl rfl) rfl rfl rfl rfl fun b10 hb10 => ?_
          cases b10 with
          | true =>
            replace h := brT hb10 h
            refine u0 (sNt rfl rfl) rfl rfl rfl ?_
            refine v0 (sPk rfl [] rfl rfl) rfl ?_
            refine v0 (sM rfl [] rfl) rfl ?_
            refine u0 (sFP rfl rfl rfl) rfl rfl rfl ?_
            refine u0 (sFP rfl rfl rfl) rfl rfl rfl ?_
            refine u0 (sLd rfl rfl) rfl rfl rfl ?_
            obtain ⟨r11, hr11, h⟩ := bnd2 h
            refine uB (sCm (w_spec_l21Num K a0.fR.fNo _ hr11) ok_spec_l21Num rfl rfl rfl rfl) rfl rfl rfl rfl fun b12 hb12 => ?_
            cases b12 with
            | true =>
              replace h := brT hb12 h
              refine u0 (sNt rfl rfl) rfl rfl rfl ?_
              refine v0 (sPk rfl [] rfl rfl) rfl ?_
              refine v0 (sM rfl [] rfl) rfl ?_
              refine u0 (sFP rfl rfl rfl) rfl rfl rfl ?_
              refine u0 (sLd rfl rfl) rfl rfl rfl ?_
              obtain ⟨r13, hr13, h⟩ := bnd2 h
              refine uB (sCm (w_spec_l21Num K a0.fN _ hr13) ok_spec_l21Num rfl rfl rfl rfl) rfl rfl rfl rfl fun b14 hb14 => ?_
              cases b14 with
              | true =>
                replace h := brT hb14 h
                refine u0 (sNt rfl rfl) rfl rfl rfl ?_
                refine v0 (sPk rfl [] rfl rfl) rfl ?_
                refine v0 (sM rfl [] rfl) rfl ?_
                refine u0 (sFP rfl rfl rfl) rfl rfl rfl ?_
                refine u0 (sLd rfl rfl) rfl rfl rfl ?_
                obtain ⟨r15, hr15, h⟩ := bnd2 h
                refine uB (sCm (w_spec_l21Num K a0.fM _ hr15) ok_spec_l21Num rfl rfl rfl rfl) rfl rfl rfl rfl fun b16 hb16 => ?_
                cases b16 with
                | true =>
                  replace h := brT hb16 h
                  refine u0 (sNt rfl rfl) rfl rfl rfl ?_
                  refine v0 (sPk rfl [] rfl rfl) rfl ?_
                  refine v0 (sM rfl [] rfl) rfl ?_
                  refine u0 (sFP rfl rfl rfl) rfl rfl rfl ?_
                  refine u0 (sLd rfl rfl) rfl rfl rfl ?_
                  refine u0 (sLm rfl rfl rfl rfl) rfl rfl rfl ?_
                  refine uB (sBi rfl rfl rfl rfl) rfl rfl rfl rfl fun b17 hb17 => ?_
                  cases b17 with
                  | true =>
                    replace h := brT hb17 h
                    refine v0 (sPk rfl [] rfl rfl) rfl ?_
                    refine ve ?_
                    refine W2 [1, 64] [101] [] (l := [(1, .c (.ptr _ _ _ _)), (64, .c (.bool true))]) (h := [(101, ⟨0, 10, [[.int _ _, .int _ _, .int _ _, .int _ _, .int _ _, .int _ _, .int _ _, .int _ _, .int _ _, .row _ _ _]]⟩)]) (h' := []) trivial rfl rfl rfl ?_
                    refine W_true rfl ?_
                    refine W_seq ?_
                    refine W_regV he rfl ?_
                    refine v0 (sA rfl [] rfl) rfl ?_
                    refine ve ?_
                    refine W2 [2] [] [] (l := [(2, .c (.bool false))]) (h := []) (h' := []) trivial rfl rfl rfl ?_
                    obtain rfl := Option.some.inj h
                    exact W_ret (r0 rfl rfl)
                  | false =>
                    replace h := brF hb17 h
                    refine v0 (sPk rfl [] rfl rfl) rfl ?_
                    refine ve ?_
                    refine W2 [1, 64] [101] [] (l := [(1, .c (.ptr _ _ _ _)), (64, .c (.bool false))]) (h := [(101, ⟨0, 10, [[.int _ _, .int _ _, .int _ _, .int _ _, .int _ _, .int _ _, .int _ _, .int _ _, .int _ _, .row _ _ _]]⟩)]) (h' := []) trivial rfl rfl rfl ?_
                    refine W_false rfl ?_
                    refine W_skip ?_
                    refine W_seq ?_
                    refine W_regV he rfl ?_
                    refine v0 (sFP rfl rfl rfl) rfl ?_
                    refine v0 (sLd rfl rfl) rfl ?_
                    refine v0 (sBd rfl [] (out := [.int .i64 0, .int .i64 0]) rfl (by kernel_rfl)) rfl ?_
                    refine v0 (sEs rfl (.inl rfl) rfl rfl rfl rfl (by kernel_rfl) (by kernel_rfl) rfl rfl rfl) rfl ?_
                    refine v0 (sA rfl [] rfl) rfl ?_
                    refine ve ?_
                    refine W2 [1, 3] [101] [] (l := [(1, .c (.ptr _ _ _ _)), (3, .c (.bool _))]) (h := [(101, ⟨0, 10, [[.int _ _, .int _ _, .int _ _, .int _ _, .int _ _, .int _ _, .int _ _, .int _ _, .int _ _, .row _ _ _]]⟩)]) (h' := []) trivial rfl rfl rfl ?_
                    refine W_seq ?_
                    refine W_regV he rfl ?_
                    refine v0 (sFP rfl rfl rfl) rfl ?_
                    refine v0 (sLd rfl rfl) rfl ?_
                    refine v0 (sBd rfl [] (out := [.int .i64 0, .int .i64 0, .int .i64 0, .int .i64 0]) rfl (by kernel_rfl)) rfl ?_
                    refine v0 (sEs rfl (.inl rfl) rfl rfl rfl rfl (by kernel_rfl) (by kernel_rfl) rfl rfl rfl) rfl ?_
                    refine v0 (sA rfl [] rfl) rfl ?_
                    refine ve ?_
                    refine W2 [1, 3, 4] [101] [] (l := [(1, .c (.ptr _ _ _ _)), (3, .c (.bool _)), (4, .c (.bool _))]) (h := [(101, ⟨0, 10, [[.int _ _, .int _ _, .int _ _, .int _ _, .int _ _, .int _ _, .int _ _, .int _ _, .int _ _, .row _ _ _]]⟩)]) (h' := []) trivial rfl rfl rfl ?_
                    refine W_seq ?_
                    refine W_seq ?_
                    refine W_regV he rfl ?_
                    refine v0 (sFP rfl rfl rfl) rfl ?_
                    refine v0 (sLd rfl rfl) rfl ?_
                    refine ve ?_
                    refine W2 [1, 3, 4, 74] [101] [] (l := [(1, .c (.ptr _ _ _ _)), (3, .c (.bool _)), (4, .c (.bool _)), (74, .c (.int _ _))]) (h := [(101, ⟨0, 10, [[.int _ _, .int _ _, .int _ _, .int _ _, .int _ _, .int _ _, .int _ _, .int _ _, .int _ _, .row _ _ _]]⟩)]) (h' := []) trivial rfl rfl rfl ?_
                    refine W_block ?_
                    refine W_join (fun S => ∃ (v119 : Bool), S = StL [(1, .c (.ptr 101 0 0 0)), (3, .c (.bool ((a0.fH.fSlot == 0) && ((a0.fH.fGen == 0) && true)))), (4, .c (.bool (((a0.fR.fH.fSlot == 0) && ((a0.fR.fH.fGen == 0) && true)) && ((a0.fR.fEp == 0) && ((a0.fR.fNo == 0) && true))))), (74, .c (.int .i64 a0.fKind)), (75, .c (.bool v119))] ([(101, ⟨0, 10, [[.int .i64 a0.fKind, .int .i64 a0.fH.fSlot, .int .i64 a0.fH.fGen, .int .i64 a0.fR.fH.fSlot, .int .i64 a0.fR.fH.fGen, .int .i64 a0.fR.fEp, .int .i64 a0.fR.fNo, .int .i64 a0.fN, .int .i64 a0.fM, .row false 1 (a0.fB.map en_u8)]]⟩)] ++ []) ∧ j_spec_OpOk_18 K a0 v119 = some r) ?_ ?_
                    · rintro S ⟨v119, rfl, h⟩
                      unfold j_spec_OpOk_18 at h
                      refine W_condB rfl (fun hb120 => ?_) (fun hb120 => ?_)
                      ·
                        replace h := brT hb120 h
                        refine W_seq ?_
                        refine W_regV he rfl ?_
                        refine vB (sM rfl [] rfl) rfl rfl fun b121 hb121 => ?_
                        cases b121 with
                        | true =>
                          replace h := brT hb121 h
                          refine v0 (sM rfl [] rfl) rfl ?_
                          refine u0 (sFP rfl rfl rfl) rfl rfl rfl ?_
                          refine u0 (sLd rfl rfl) rfl rfl rfl ?_
                          refine uB (sBi rfl rfl rfl rfl) rfl rfl rfl rfl fun b122 hb122 => ?_
                          cases b122 with
                          | true =>
                            replace h := brT hb122 h
                            refine v0 (sPk rfl [] rfl rfl) rfl ?_
                            refine v0 (sM rfl [] rfl) rfl ?_
                            refine u0 (sFP rfl rfl rfl) rfl rfl rfl ?_
                            refine u0 (sLd rfl rfl) rfl rfl rfl ?_
                            refine uB (sBi rfl rfl rfl rfl) rfl rfl rfl rfl fun b123 hb123 => ?_
                            cases b123 with
                            | true =>
                              replace h := brT hb123 h
                              refine v0 (sPk rfl [] rfl rfl) rfl ?_
                              refine v0 (sM rfl [] rfl) rfl ?_
                              refine u0 (sFP rfl rfl rfl) rfl rfl rfl ?_
                              refine u0 (sLd rfl rfl) rfl rfl rfl ?_
                              refine u0 (sLm rfl rfl rfl rfl) rfl rfl rfl ?_
                              refine u0 (sBi rfl rfl rfl rfl) rfl rfl rfl ?_
                              refine v0 (sPk rfl [] rfl rfl) rfl ?_
                              refine v0 (sA rfl [] rfl) rfl ?_
                              refine ve ?_
                              refine W2 [2] [] [] (l := [(2, .c (.bool _))]) (h := []) (h' := []) trivial rfl rfl rfl ?_
                              obtain rfl := Option.some.inj h
                              exact W_ret (r0 rfl rfl)
                            | false =>
                              replace h := brF hb123 h
                              refine v0 (sPk rfl [] rfl rfl) rfl ?_
                              refine v0 (sM rfl [] rfl) rfl ?_
                              refine uP rfl rfl rfl rfl ?_
                              refine uP rfl rfl rfl rfl ?_
                              refine uP rfl rfl rfl rfl ?_
                              refine uP rfl rfl rfl rfl ?_
                              refine v0 (sPk rfl [] rfl rfl) rfl ?_
                              refine v0 (sA rfl [] rfl) rfl ?_
                              refine ve ?_
                              refine W2 [2] [] [] (l := [(2, .c (.bool false))]) (h := []) (h' := []) trivial rfl rfl rfl ?_
                              obtain rfl := Option.some.inj h
                              exact W_ret (r0 rfl rfl)
                          | false =>
                            replace h := brF hb122 h
                            refine v0 (sPk rfl [] rfl rfl) rfl ?_
                            refine v0 (sM rfl [] rfl) rfl ?_
                            refine uP rfl rfl rfl rfl ?_
                            refine uP rfl rfl rfl rfl ?_
                            refine uP rfl rfl rfl rfl ?_
                            refine v0 (sPk rfl [] rfl rfl) rfl ?_
                            refine v0 (sM rfl [] rfl) rfl ?_
                            refine uP rfl rfl rfl rfl ?_
                            refine uP rfl rfl rfl rfl ?_
                            refine uP rfl rfl rfl rfl ?_
                            refine uP rfl rfl rfl rfl ?_
                            refine v0 (sPk rfl [] rfl rfl) rfl ?_
                            refine v0 (sA rfl [] rfl) rfl ?_
                            refine ve ?_
                            refine W2 [2] [] [] (l := [(2, .c (.bool false))]) (h := []) (h' := []) trivial rfl rfl rfl ?_
                            obtain rfl := Option.some.inj h
                            exact W_ret (r0 rfl rfl)
                        | false =>
                          replace h := brF hb121 h
                          refine v0 (sM rfl [] rfl) rfl ?_
                          refine uP rfl rfl rfl rfl ?_
                          refine uP rfl rfl rfl rfl ?_
                          refine uP rfl rfl rfl rfl ?_
                          refine v0 (sPk rfl [] rfl rfl) rfl ?_
                          refine v0 (sM rfl [] rfl) rfl ?_
                          refine uP rfl rfl rfl rfl ?_
                          refine uP rfl rfl rfl rfl ?_
                          refine uP rfl rfl rfl rfl ?_
                          refine v0 (sPk rfl [] rfl rfl) rfl ?_
                          refine v0 (sM rfl [] rfl) rfl ?_
                          refine uP rfl rfl rfl rfl ?_
                          refine uP rfl rfl rfl rfl ?_
                          refine uP rfl rfl rfl rfl ?_
                          refine uP rfl rfl rfl rfl ?_
                          refine v0 (sPk rfl [] rfl rfl) rfl ?_
                          refine v0 (sA rfl [] rfl) rfl ?_
                          refine ve ?_
                          refine W2 [2] [] [] (l := [(2, .c (.bool false))]) (h := []) (h' := []) trivial rfl rfl rfl ?_
                          obtain rfl := Option.some.inj h
                          exact W_ret (r0 rfl rfl)
                      ·
                        replace h := brF hb120 h
                        refine W_seq ?_
                        refine W_regV he rfl ?_
                        refine v0 (sBi rfl rfl rfl rfl) rfl ?_
                        refine v0 (sA rfl [] rfl) rfl ?_
                        refine ve ?_
                        refine W2 [1, 3, 4, 74, 97] [101] [] (l := [(1, .c (.ptr _ _ _ _)), (3, .c (.bool _)), (4, .c (.bool _)), (74, .c (.int _ _)), (97, .c (.bool _))]) (h := [(101, ⟨0, 10, [[.int _ _, .int _ _, .int _ _, .int _ _, .int _ _, .int _ _, .int _ _, .int _ _, .int _ _, .row _ _ _]]⟩)]) (h' := []) trivial rfl rfl rfl ?_
                        refine W_condB rfl (fun hb124 => ?_) (fun hb124 => ?_)
                        ·
                          replace h := brT hb124 h
                          refine W_seq ?_
                          refine W_regV he rfl ?_
                          refine vB (sM rfl [] rfl) rfl rfl fun b125 hb125 => ?_
                          cases b125 with
                          | true =>
                            replace h := brT hb125 h
                            refine v0 (sM rfl [] rfl) rfl ?_
                            refine u0 (sFP rfl rfl rfl) rfl rfl rfl ?_
                            refine u0 (sLd rfl rfl) rfl rfl rfl ?_
                            refine u0 (sLm rfl rfl rfl rfl) rfl rfl rfl ?_
                            refine u0 (sBi rfl rfl rfl rfl) rfl rfl rfl ?_
                            refine v0 (sPk rfl [] rfl rfl) rfl ?_
                            refine v0 (sA rfl [] rfl) rfl ?_
                            refine ve ?_
                            refine W2 [2] [] [] (l := [(2, .c (.bool _))]) (h := []) (h' := []) trivial rfl rfl rfl ?_
                            obtain rfl := Option.some.inj h
                            exact W_ret (r0 rfl rfl)
                          | false =>
                            replace h := brF hb125 h
                            refine v0 (sM rfl [] rfl) rfl ?_
                            refine uP rfl rfl rfl rfl ?_
                            refine uP rfl rfl rfl rfl ?_
                            refine uP rfl rfl rfl rfl ?_
                            refine uP rfl rfl rfl rfl ?_
                            refine v0 (sPk rfl [] rfl rfl) rfl ?_
                            refine v0 (sA rfl [] rfl) rfl ?_
                            refine ve ?_
                            refine W2 [2] [] [] (l := [(2, .c (.bool false))]) (h := []) (h' := []) trivial rfl rfl rfl ?_
                            obtain rfl := Option.some.inj h
                            exact W_ret (r0 rfl rfl)
                        ·
                          replace h := brF hb124 h
                          refine W_seq ?_
                          refine W_regV he rfl ?_
                          refine v0 (sBi rfl rfl rfl rfl) rfl ?_
                          refine v0 (sA rfl [] rfl) rfl ?_
                          refine ve ?_
                          refine W2 [1, 3, 4, 74, 106] [101] [] (l := [(1, .c (.ptr _ _ _ _)), (3, .c (.bool _)), (4, .c (.bool _)), (74, .c (.int _ _)), (106, .c (.bool _))]) (h := [(101, ⟨0, 10, [[.int _ _, .int _ _, .int _ _, .int _ _, .int _ _, .int _ _, .int _ _, .int _ _, .int _ _, .row _ _ _]]⟩)]) (h' := []) trivial rfl rfl rfl ?_
                          refine W_condB rfl (fun hb126 => ?_) (fun hb126 => ?_)
                          ·
                            replace h := brT hb126 h
                            refine W_seq ?_
                            refine W_regV he rfl ?_
                            refine vB (sM rfl [] rfl) rfl rfl fun b127 hb127 => ?_
                            cases b127 with
                            | true =>
                              replace h := brT hb127 h
                              refine v0 (sM rfl [] rfl) rfl ?_
                              refine u0 (sFP rfl rfl rfl) rfl rfl rfl ?_
                              refine u0 (sLd rfl rfl) rfl rfl rfl ?_
                              refine u0 (sLm rfl rfl rfl rfl) rfl rfl rfl ?_
                              refine u0 (sBi rfl rfl rfl rfl) rfl rfl rfl ?_
                              refine v0 (sPk rfl [] rfl rfl) rfl ?_
                              refine v0 (sA rfl [] rfl) rfl ?_
                              refine ve ?_
                              refine W2 [2] [] [] (l := [(2, .c (.bool _))]) (h := []) (h' := []) trivial rfl rfl rfl ?_
                              obtain rfl := Option.some.inj h
                              exact W_ret (r0 rfl rfl)
                            | false =>
                              replace h := brF hb127 h
                              refine v0 (sM rfl [] rfl) rfl ?_
                              refine uP rfl rfl rfl rfl ?_
                              refine uP rfl rfl rfl rfl ?_
                              refine uP rfl rfl rfl rfl ?_
                              refine uP rfl rfl rfl rfl ?_
                              refine v0 (sPk rfl [] rfl rfl) rfl ?_
                              refine v0 (sA rfl [] rfl) rfl ?_
                              refine ve ?_
                              refine W2 [2] [] [] (l := [(2, .c (.bool false))]) (h := []) (h' := []) trivial rfl rfl rfl ?_
                              obtain rfl := Option.some.inj h
                              exact W_ret (r0 rfl rfl)
                          ·
                            replace h := brF hb126 h
                            refine W_seq ?_
                            refine W_regV he rfl ?_
                            refine v0 (sBi rfl rfl rfl rfl) rfl ?_
                            refine v0 (sA rfl [] rfl) rfl ?_
                            refine ve ?_
                            refine W2 [1, 3, 4, 74, 115] [101] [] (l := [(1, .c (.ptr _ _ _ _)), (3, .c (.bool _)), (4, .c (.bool _)), (74, .c (.int _ _)), (115, .c (.bool _))]) (h := [(101, ⟨0, 10, [[.int _ _, .int _ _, .int _ _, .int _ _, .int _ _, .int _ _, .int _ _, .int _ _, .int _ _, .row _ _ _]]⟩)]) (h' := []) trivial rfl rfl rfl ?_
                            refine W_condB rfl (fun hb128 => ?_) (fun hb128 => ?_)
                            ·
                              replace h := brT hb128 h
                              refine W_seq ?_
                              refine W_regV he rfl ?_
                              refine vB (sM rfl [] rfl) rfl rfl fun b129 hb129 => ?_
                              cases b129 with
                              | true =>
                                replace h := brT hb129 h
                                refine v0 (sM rfl [] rfl) rfl ?_
                                refine u0 (sFP rfl rfl rfl) rfl rfl rfl ?_
                                refine u0 (sLd rfl rfl) rfl rfl rfl ?_
                                refine u0 (sBi rfl rfl rfl rfl) rfl rfl rfl ?_
                                refine v0 (sPk rfl [] rfl rfl) rfl ?_
                                refine v0 (sA rfl [] rfl) rfl ?_
                                refine ve ?_
                                refine W2 [2] [] [] (l := [(2, .c (.bool _))]) (h := []) (h' := []) trivial rfl rfl rfl ?_
                                obtain rfl := Option.some.inj h
                                exact W_ret (r0 rfl rfl)
                              | false =>
                                replace h := brF hb129 h
                                refine v0 (sM rfl [] rfl) rfl ?_
                                refine uP rfl rfl rfl rfl ?_
                                refine uP rfl rfl rfl rfl ?_
                                refine uP rfl rfl rfl rfl ?_
                                refine v0 (sPk rfl [] rfl rfl) rfl ?_
                                refine v0 (sA rfl [] rfl) rfl ?_
                                refine ve ?_
                                refine W2 [2] [] [] (l := [(2, .c (.bool false))]) (h := []) (h' := []) trivial rfl rfl rfl ?_
                                obtain rfl := Option.some.inj h
                                exact W_ret (r0 rfl rfl)
                            ·
                              replace h := brF hb128 h
                              refine W_seq ?_
                              refine W_regV he rfl ?_
                              refine v0 (sBi rfl rfl rfl rfl) rfl ?_
                              refine v0 (sA rfl [] rfl) rfl ?_
                              refine ve ?_
                              refine W2 [1, 3, 4, 123] [101] [] (l := [(1, .c (.ptr _ _ _ _)), (3, .c (.bool _)), (4, .c (.bool _)), (123, .c (.bool _))]) (h := [(101, ⟨0, 10, [[.int _ _, .int _ _, .int _ _, .int _ _, .int _ _, .int _ _, .int _ _, .int _ _, .int _ _, .row _ _ _]]⟩)]) (h' := []) trivial rfl rfl rfl ?_
                              refine W_condB rfl (fun hb130 => ?_) (fun hb130 => ?_)
                              ·
                                replace h := brT hb130 h
                                refine W_seq ?_
                                refine W_regV he rfl ?_
                                refine vB (sM rfl [] rfl) rfl rfl fun b131 hb131 => ?_
                                cases b131 with
                                | true =>
                                  replace h := brT hb131 h
                                  refine v0 (sM rfl [] rfl) rfl ?_
                                  refine u0 (sFP rfl rfl rfl) rfl rfl rfl ?_
                                  refine u0 (sLd rfl rfl) rfl rfl rfl ?_
                                  refine uB (sBi rfl rfl rfl rfl) rfl rfl rfl rfl fun b132 hb132 => ?_
                                  cases b132 with
                                  | true =>
                                    replace h := brT hb132 h
                                    refine v0 (sPk rfl [] rfl rfl) rfl ?_
                                    refine v0 (sM rfl [] rfl) rfl ?_
                                    refine u0 (sFP rfl rfl rfl) rfl rfl rfl ?_
                                    refine u0 (sLd rfl rfl) rfl rfl rfl ?_
                                    refine u0 (sLm rfl rfl rfl rfl) rfl rfl rfl ?_
                                    refine u0 (sBi rfl rfl rfl rfl) rfl rfl rfl ?_
                                    refine v0 (sPk rfl [] rfl rfl) rfl ?_
                                    refine v0 (sA rfl [] rfl) rfl ?_
                                    refine ve ?_
                                    refine W2 [2] [] [] (l := [(2, .c (.bool _))]) (h := []) (h' := []) trivial rfl rfl rfl ?_
                                    obtain rfl := Option.some.inj h
                                    exact W_ret (r0 rfl rfl)
                                  | false =>
                                    replace h := brF hb132 h
                                    refine v0 (sPk rfl [] rfl rfl) rfl ?_
                                    refine v0 (sM rfl [] rfl) rfl ?_
                                    refine uP rfl rfl rfl rfl ?_
                                    refine uP rfl rfl rfl rfl ?_
                                    refine uP rfl rfl rfl rfl ?_
                                    refine uP rfl rfl rfl rfl ?_
                                    refine v0 (sPk rfl [] rfl rfl) rfl ?_
                                    refine v0 (sA rfl [] rfl) rfl ?_
                                    refine ve ?_
                                    refine W2 [2] [] [] (l := [(2, .c (.bool false))]) (h := []) (h' := []) trivial rfl rfl rfl ?_
                                    obtain rfl := Option.some.inj h
                                    exact W_ret (r0 rfl rfl)
                                | false =>
                                  replace h := brF hb131 h
                                  refine v0 (sM rfl [] rfl) rfl ?_
                                  refine uP rfl rfl rfl rfl ?_
                                  refine uP rfl rfl rfl rfl ?_
                                  refine uP rfl rfl rfl rfl ?_
                                  refine v0 (sPk rfl [] rfl rfl) rfl ?_
                                  refine v0 (sM rfl [] rfl) rfl ?_
                                  refine uP rfl rfl rfl rfl ?_
                                  refine uP rfl rfl rfl rfl ?_
                                  refine uP rfl rfl rfl rfl ?_
                                  refine uP rfl rfl rfl rfl ?_
                                  refine v0 (sPk rfl [] rfl rfl) rfl ?_
                                  refine v0 (sA rfl [] rfl) rfl ?_
                                  refine ve ?_
                                  refine W2 [2] [] [] (l := [(2, .c (.bool false))]) (h := []) (h' := []) trivial rfl rfl rfl ?_
                                  obtain rfl := Option.some.inj h
                                  exact W_ret (r0 rfl rfl)
                              ·
                                replace h := brF hb130 h
                                refine W_skip ?_
                                refine W_seq ?_
                                refine W_regV he rfl ?_
                                refine v0 (sFP rfl rfl rfl) rfl ?_
                                refine v0 (sLd rfl rfl) rfl ?_
                                refine vB (sBi rfl rfl rfl rfl) rfl rfl fun b133 hb133 => ?_
                                cases b133 with
                                | true =>
                                  replace h := brT hb133 h
                                  refine v0 (sM rfl [] rfl) rfl ?_
                                  refine uB (sM rfl [] rfl) rfl rfl rfl rfl fun b134 hb134 => ?_
                                  cases b134 with
                                  | true =>
                                    replace h := brT hb134 h
                                    refine v0 (sPk rfl [] rfl rfl) rfl ?_
                                    refine v0 (sM rfl [] rfl) rfl ?_
                                    refine uB (sM rfl [] rfl) rfl rfl rfl rfl fun b135 hb135 => ?_
                                    cases b135 with
                                    | true =>
                                      replace h := brT hb135 h
                                      refine v0 (sPk rfl [] rfl rfl) rfl ?_
                                      refine v0 (sM rfl [] rfl) rfl ?_
                                      refine u0 (sFP rfl rfl rfl) rfl rfl rfl ?_
                                      refine u0 (sLd rfl rfl) rfl rfl rfl ?_
                                      refine uB (sBi rfl rfl rfl rfl) rfl rfl rfl rfl fun b136 hb136 => ?_
                                      cases b136 with
                                      | true =>
                                        replace h := brT hb136 h
                                        refine v0 (sPk rfl [] rfl rfl) rfl ?_
                                        refine v0 (sM rfl [] rfl) rfl ?_
                                        refine u0 (sFP rfl rfl rfl) rfl rfl rfl ?_
                                        refine u0 (sLd rfl rfl) rfl rfl rfl ?_
                                        refine uB (sBi rfl rfl rfl rfl) rfl rfl rfl rfl fun b137 hb137 => ?_
                                        cases b137 with
                                        | true =>
                                          replace h := brT hb137 h
                                          refine v0 (sPk rfl [] rfl rfl) rfl ?_
                                          refine v0 (sM rfl [] rfl) rfl ?_
                                          refine u0 (sFP rfl rfl rfl) rfl rfl rfl ?_
                                          refine u0 (sLd rfl rfl) rfl rfl rfl ?_
                                          refine u0 (sLm rfl rfl rfl rfl) rfl rfl rfl ?_
                                          refine u0 (sBi rfl rfl rfl rfl) rfl rfl rfl ?_
                                          refine v0 (sPk rfl [] rfl rfl) rfl ?_
                                          refine v0 (sA rfl [] rfl) rfl ?_
                                          refine ve ?_
                                          refine W2 [2] [] [] (l := [(2, .c (.bool _))]) (h := []) (h' := []) trivial rfl rfl rfl ?_
                                          obtain rfl := Option.some.inj h
                                          exact W_ret (r0 rfl rfl)
                                        | false =>
                                          replace h := brF hb137 h
                                          refine v0 (sPk rfl [] rfl rfl) rfl ?_
                                          refine v0 (sM rfl [] rfl) rfl ?_
                                          refine uP rfl rfl rfl rfl ?_
                                          refine uP rfl rfl rfl rfl ?_
                                          refine uP rfl rfl rfl rfl ?_
                                          refine uP rfl rfl rfl rfl ?_
                                          refine v0 (sPk rfl [] rfl rfl) rfl ?_
                                          refine v0 (sA rfl [] rfl) rfl ?_
                                          refine ve ?_
                                          refine W2 [2] [] [] (l := [(2, .c (.bool false))]) (h := []) (h' := []) trivial rfl rfl rfl ?_
                                          obtain rfl := Option.some.inj h
                                          exact W_ret (r0 rfl rfl)
                                      | false =>
                                        replace h := brF hb136 h
                                        refine v0 (sPk rfl [] rfl rfl) rfl ?_
                                        refine v0 (sM rfl [] rfl) rfl ?_
                                        refine uP rfl rfl rfl rfl ?_
                                        refine uP rfl rfl rfl rfl ?_
                                        refine uP rfl rfl rfl rfl ?_
                                        refine v0 (sPk rfl [] rfl rfl) rfl ?_
                                        refine v0 (sM rfl [] rfl) rfl ?_
                                        refine uP rfl rfl rfl rfl ?_
                                        refine uP rfl rfl rfl rfl ?_
                                        refine uP rfl rfl rfl rfl ?_
                                        refine uP rfl rfl rfl rfl ?_
                                        refine v0 (sPk rfl [] rfl rfl) rfl ?_
                                        refine v0 (sA rfl [] rfl) rfl ?_
                                        refine ve ?_
                                        refine W2 [2] [] [] (l := [(2, .c (.bool false))]) (h := []) (h' := []) trivial rfl rfl rfl ?_
                                        obtain rfl := Option.some.inj h
                                        exact W_ret (r0 rfl rfl)
                                    | false =>
                                      replace h := brF hb135 h
                                      refine v0 (sPk rfl [] rfl rfl) rfl ?_
                                      refine v0 (sM rfl [] rfl) rfl ?_
                                      refine uP rfl rfl rfl rfl ?_
                                      refine uP rfl rfl rfl rfl ?_
                                      refine uP rfl rfl rfl rfl ?_
                                      refine v0 (sPk rfl [] rfl rfl) rfl ?_
                                      refine v0 (sM rfl [] rfl) rfl ?_
                                      refine uP rfl rfl rfl rfl ?_
                                      refine uP rfl rfl rfl rfl ?_
                                      refine uP rfl rfl rfl rfl ?_
                                      refine v0 (sPk rfl [] rfl rfl) rfl ?_
                                      refine v0 (sM rfl [] rfl) rfl ?_
                                      refine uP rfl rfl rfl rfl ?_
                                      refine uP rfl rfl rfl rfl ?_
                                      refine uP rfl rfl rfl rfl ?_
                                      refine uP rfl rfl rfl rfl ?_
                                      refine v0 (sPk rfl [] rfl rfl) rfl ?_
                                      refine v0 (sA rfl [] rfl) rfl ?_
                                      refine ve ?_
                                      refine W2 [2] [] [] (l := [(2, .c (.bool false))]) (h := []) (h' := []) trivial rfl rfl rfl ?_
                                      obtain rfl := Option.some.inj h
                                      exact W_ret (r0 rfl rfl)
                                  | false =>
                                    replace h := brF hb134 h
                                    refine v0 (sPk rfl [] rfl rfl) rfl ?_
                                    refine v0 (sM rfl [] rfl) rfl ?_
                                    refine uP rfl rfl rfl rfl ?_
                                    refine v0 (sPk rfl [] rfl rfl) rfl ?_
                                    refine v0 (sM rfl [] rfl) rfl ?_
                                    refine uP rfl rfl rfl rfl ?_
                                    refine uP rfl rfl rfl rfl ?_
                                    refine uP rfl rfl rfl rfl ?_
                                    refine v0 (sPk rfl [] rfl rfl) rfl ?_
                                    refine v0 (sM rfl [] rfl) rfl ?_
                                    refine uP rfl rfl rfl rfl ?_
                                    refine uP rfl rfl rfl rfl ?_
                                    refine uP rfl rfl rfl rfl ?_
                                    refine v0 (sPk rfl [] rfl rfl) rfl ?_
                                    refine v0 (sM rfl [] rfl) rfl ?_
                                    refine uP rfl rfl rfl rfl ?_
                                    refine uP rfl rfl rfl rfl ?_
                                    refine uP rfl rfl rfl rfl ?_
                                    refine uP rfl rfl rfl rfl ?_
                                    refine v0 (sPk rfl [] rfl rfl) rfl ?_
                                    refine v0 (sA rfl [] rfl) rfl ?_
                                    refine ve ?_
                                    refine W2 [2] [] [] (l := [(2, .c (.bool false))]) (h := []) (h' := []) trivial rfl rfl rfl ?_
                                    obtain rfl := Option.some.inj h
                                    exact W_ret (r0 rfl rfl)
                                | false =>
                                  replace h := brF hb133 h
                                  refine v0 (sM rfl [] rfl) rfl ?_
                                  refine uP rfl rfl rfl rfl ?_
                                  refine v0 (sPk rfl [] rfl rfl) rfl ?_
                                  refine v0 (sM rfl [] rfl) rfl ?_
                                  refine uP rfl rfl rfl rfl ?_
                                  refine v0 (sPk rfl [] rfl rfl) rfl ?_
                                  refine v0 (sM rfl [] rfl) rfl ?_
                                  refine uP rfl rfl rfl rfl ?_
                                  refine uP rfl rfl rfl rfl ?_
                                  refine uP rfl rfl rfl rfl ?_
                                  refine v0 (sPk rfl [] rfl rfl) rfl ?_
                                  refine v0 (sM rfl [] rfl) rfl ?_
                                  refine uP rfl rfl rfl rfl ?_
                                  refine uP rfl rfl rfl rfl ?_
                                  refine uP rfl rfl rfl rfl ?_
                                  refine v0 (sPk rfl [] rfl rfl) rfl ?_
                                  refine v0 (sM rfl [] rfl) rfl ?_
                                  refine uP rfl rfl rfl rfl ?_
                                  refine uP rfl rfl rfl rfl ?_
                                  refine uP rfl rfl rfl rfl ?_
                                  refine uP rfl rfl rfl rfl ?_
                                  refine v0 (sPk rfl [] rfl rfl) rfl ?_
                                  refine v0 (sA rfl [] rfl) rfl ?_
                                  refine ve ?_
                                  refine W2 [2] [] [] (l := [(2, .c (.bool false))]) (h := []) (h' := []) trivial rfl rfl rfl ?_
                                  obtain rfl := Option.some.inj h
                                  exact W_ret (r0 rfl rfl)
                    ·
                      refine W_seq ?_
                      refine W_regV he rfl ?_
                      refine v0 (sBi rfl rfl rfl rfl) rfl ?_
                      refine v0 (sA rfl [] rfl) rfl ?_
                      refine ve ?_
                      refine W2 [1, 3, 4, 74, 75] [101] [] (l := [(1, .c (.ptr _ _ _ _)), (3, .c (.bool _)), (4, .c (.bool _)), (74, .c (.int _ _)), (75, .c (.bool _))]) (h := [(101, ⟨0, 10, [[.int _ _, .int _ _, .int _ _, .int _ _, .int _ _, .int _ _, .int _ _, .int _ _, .int _ _, .row _ _ _]]⟩)]) (h' := []) trivial rfl rfl rfl ?_
                      refine W_condB rfl (fun hb138 => ?_) (fun hb138 => ?_)
                      ·
                        replace h := brT hb138 h
                        refine W_skip ?_
                        exact ⟨_, wk2 [1, 3, 4, 74, 75] [101] [] (l := [(1, .c (.ptr _ _ _ _)), (3, .c (.bool _)), (4, .c (.bool _)), (74, .c (.int _ _)), (75, .c (.bool _))]) (h := [(101, ⟨0, 10, [[.int _ _, .int _ _, .int _ _, .int _ _, .int _ _, .int _ _, .int _ _, .int _ _, .int _ _, .row _ _ _]]⟩)]) (h' := []) trivial rfl rfl rfl, _, rfl, h⟩
                      ·
                        replace h := brF hb138 h
                        refine W_seq ?_
                        refine W_regV he rfl ?_
                        refine v0 (sBi rfl rfl rfl rfl) rfl ?_
                        refine v0 (sA rfl [] rfl) rfl ?_
                        refine ve ?_
                        refine W2 [1, 3, 4, 74, 75] [101] [] (l := [(1, .c (.ptr _ _ _ _)), (3, .c (.bool _)), (4, .c (.bool _)), (74, .c (.int _ _)), (75, .c (.bool _))]) (h := [(101, ⟨0, 10, [[.int _ _, .int _ _, .int _ _, .int _ _, .int _ _, .int _ _, .int _ _, .int _ _, .int _ _, .row _ _ _]]⟩)]) (h' := []) trivial rfl rfl rfl ?_
                        refine W_condB rfl (fun hb139 => ?_) (fun hb139 => ?_)
                        ·
                          replace h := brT hb139 h
                          refine W_skip ?_
                          exact ⟨_, wk2 [1, 3, 4, 74, 75] [101] [] (l := [(1, .c (.ptr _ _ _ _)), (3, .c (.bool _)), (4, .c (.bool _)), (74, .c (.int _ _)), (75, .c (.bool _))]) (h := [(101, ⟨0, 10, [[.int _ _, .int _ _, .int _ _, .int _ _, .int _ _, .int _ _, .int _ _, .int _ _, .int _ _, .row _ _ _]]⟩)]) (h' := []) trivial rfl rfl rfl, _, rfl, h⟩
                        ·
                          replace h := brF hb139 h
                          refine W_seq ?_
                          refine W_regV he rfl ?_
                          refine v0 (sBi rfl rfl rfl rfl) rfl ?_
                          refine v0 (sA rfl [] rfl) rfl ?_
                          refine ve ?_
                          refine W2 [1, 3, 4, 74, 75] [101] [] (l := [(1, .c (.ptr _ _ _ _)), (3, .c (.bool _)), (4, .c (.bool _)), (74, .c (.int _ _)), (75, .c (.bool _))]) (h := [(101, ⟨0, 10, [[.int _ _, .int _ _, .int _ _, .int _ _, .int _ _, .int _ _, .int _ _, .int _ _, .int _ _, .row _ _ _]]⟩)]) (h' := []) trivial rfl rfl rfl ?_
                          refine W_condB rfl (fun hb140 => ?_) (fun hb140 => ?_)
                          ·
                            replace h := brT hb140 h
                            refine W_skip ?_
                            exact ⟨_, wk2 [1, 3, 4, 74, 75] [101] [] (l := [(1, .c (.ptr _ _ _ _)), (3, .c (.bool _)), (4, .c (.bool _)), (74, .c (.int _ _)), (75, .c (.bool _))]) (h := [(101, ⟨0, 10, [[.int _ _, .int _ _, .int _ _, .int _ _, .int _ _, .int _ _, .int _ _, .int _ _, .int _ _, .row _ _ _]]⟩)]) (h' := []) trivial rfl rfl rfl, _, rfl, h⟩
                          ·
                            replace h := brF hb140 h
                            refine W_regV he rfl ?_
                            refine v0 (sBi rfl rfl rfl rfl) rfl ?_
                            refine v0 (sA rfl [] rfl) rfl ?_
                            refine ve ?_
                            exact ⟨_, wk2 [1, 3, 4, 74, 75] [101] [] (l := [(1, .c (.ptr _ _ _ _)), (3, .c (.bool _)), (4, .c (.bool _)), (74, .c (.int _ _)), (75, .c (.bool _))]) (h := [(101, ⟨0, 10, [[.int _ _, .int _ _, .int _ _, .int _ _, .int _ _, .int _ _, .int _ _, .int _ _, .int _ _, .row _ _ _]]⟩)]) (h' := []) trivial rfl rfl rfl, _, rfl, h⟩
                | false =>
                  replace h := brF hb16 h
                  refine u0 (sNt rfl rfl) rfl rfl rfl ?_
                  refine v0 (sPk rfl [] rfl rfl) rfl ?_
                  refine v0 (sM rfl [] rfl) rfl ?_
                  refine uP rfl rfl rfl rfl ?_
                  refine uP rfl rfl rfl rfl ?_
                  refine uP rfl rfl rfl rfl ?_
                  refine uP rfl rfl rfl rfl ?_
                  refine v0 (sPk rfl [] rfl rfl) rfl ?_
                  refine ve ?_
                  refine W2 [1, 64] [101] [] (l := [(1, .c (.ptr _ _ _ _)), (64, .c (.bool true))]) (h := [(101, ⟨0, 10, [[.int _ _, .int _ _, .int _ _, .int _ _, .int _ _, .int _ _, .int _ _, .int _ _, .int _ _, .row _ _ _]]⟩)]) (h' := []) trivial rfl rfl rfl ?_
                  refine W_true rfl ?_
                  refine W_seq ?_
                  refine W_regV he rfl ?_
                  refine v0 (sA rfl [] rfl) rfl ?_
                  refine ve ?_
                  refine W2 [2] [] [] (l := [(2, .c (.bool false))]) (h := []) (h' := []) trivial rfl rfl rfl ?_
                  obtain rfl := Option.some.inj h
                  exact W_ret (r0 rfl rfl)
              | false =>
                replace h := brF hb14 h
                refine u0 (sNt rfl rfl) rfl rfl rfl ?_
                refine v0 (sPk rfl [] rfl rfl) rfl ?_
                refine v0 (sM rfl [] rfl) rfl ?_
                refine uP rfl rfl rfl rfl ?_
                refine uP rfl rfl rfl rfl ?_
                refine uP rfl rfl rfl rfl ?_
                refine uP rfl rfl rfl rfl ?_
                refine v0 (sPk rfl [] rfl rfl) rfl ?_
                refine v0 (sM rfl [] rfl) rfl ?_
                refine uP rfl rfl rfl rfl ?_
                refine uP rfl rfl rfl rfl ?_
                refine uP rfl rfl rfl rfl ?_
                refine uP rfl rfl rfl rfl ?_
                refine v0 (sPk rfl [] rfl rfl) rfl ?_
                refine ve ?_
                refine W2 [1, 64] [101] [] (l := [(1, .c (.ptr _ _ _ _)), (64, .c (.bool true))]) (h := [(101, ⟨0, 10, [[.int _ _, .int _ _, .int _ _, .int _ _, .int _ _, .int _ _, .int _ _, .int _ _, .int _ _, .row _ _ _]]⟩)]) (h' := []) trivial rfl rfl rfl ?_
                refine W_true rfl ?_
                refine W_seq ?_
                refine W_regV he rfl ?_
                refine v0 (sA rfl [] rfl) rfl ?_
                refine ve ?_
                refine W2 [2] [] [] (l := [(2, .c (.bool false))]) (h := []) (h' := []) trivial rfl rfl rfl ?_
                obtain rfl := Option.some.inj h
                exact W_ret (r0 rfl rfl)
            | false =>
              replace h := brF hb12 h
              refine u0 (sNt rfl rfl) rfl rfl rfl ?_
              refine v0 (sPk rfl [] rfl rfl) rfl ?_
              refine v0 (sM rfl [] rfl) rfl ?_
              refine uP rfl rfl rfl rfl ?_
              refine uP rfl rfl rfl rfl ?_
              refine uP rfl rfl rfl rfl ?_
              refine uP rfl rfl rfl rfl ?_
              refine v0 (sPk rfl [] rfl rfl) rfl ?_
              refine v0 (sM rfl [] rfl) rfl ?_
              refine uP rfl rfl rfl rfl ?_
              refine uP rfl rfl rfl rfl ?_
              refine uP rfl rfl rfl rfl ?_
              refine uP rfl rfl rfl rfl ?_
              refine v0 (sPk rfl [] rfl rfl) rfl ?_
              refine v0 (sM rfl [] rfl) rfl ?_
              refine uP rfl rfl rfl rfl ?_
              refine uP rfl rfl rfl rfl ?_
              refine uP rfl rfl rfl rfl ?_
              refine uP rfl rfl rfl rfl ?_
              refine v0 (sPk rfl [] rfl rfl) rfl ?_
              refine ve ?_
              refine W2 [1, 64] [101] [] (l := [(1, .c (.ptr _ _ _ _)), (64, .c (.bool true))]) (h := [(101, ⟨0, 10, [[.int _ _, .int _ _, .int _ _, .int _ _, .int _ _, .int _ _, .int _ _, .int _ _, .int _ _, .row _ _ _]]⟩)]) (h' := []) trivial rfl rfl rfl ?_
              refine W_true rfl ?_
              refine W_seq ?_
              refine W_regV he rfl ?_
              refine v0 (sA rfl [] rfl) rfl ?_
              refine ve ?_
              refine W2 [2] [] [] (l := [(2, .c (.bool false))]) (h := []) (h' := []) trivial rfl rfl rfl ?_
              obtain rfl := Option.some.inj h
              exact W_ret (r0 rfl rfl)
          | false =>
            replace h := brF hb10 h
            refine u0 (sNt rfl rfl) rfl rfl rfl ?_
            refine v0 (sPk rfl [] rfl rfl) rfl ?_
            refine v0 (sM rfl [] rfl) rfl ?_
            refine uP rfl rfl rfl rfl ?_
            refine uP rfl rfl rfl rfl ?_
            refine uP rfl rfl rfl rfl ?_
            refine uP rfl rfl rfl rfl ?_
            refine uP rfl rfl rfl rfl ?_
            refine v0 (sPk rfl [] rfl rfl) rfl ?_
            refine v0 (sM rfl [] rfl) rfl ?_
            refine uP rfl rfl rfl rfl ?_
            refine uP rfl rfl rfl rfl ?_
            refine uP rfl rfl rfl rfl ?_
            refine uP rfl rfl rfl rfl ?_
            refine v0 (sPk rfl [] rfl rfl) rfl ?_
            refine v0 (sM rfl [] rfl) rfl ?_
            refine uP rfl rfl rfl rfl ?_
            refine uP rfl rfl rfl rfl ?_
            refine uP rfl rfl rfl rfl ?_
            refine uP rfl rfl rfl rfl ?_
            refine v0 (sPk rfl [] rfl rfl) rfl ?_
            refine v0 (sM rfl [] rfl) rfl ?_
            refine uP rfl rfl rfl rfl ?_
            refine uP rfl rfl rfl rfl ?_
            refine uP rfl rfl rfl rfl ?_
            refine uP rfl rfl rfl rfl ?_
            refine v0 (sPk rfl [] rfl rfl) rfl ?_
            refine ve ?_
            refine W2 [1, 64] [101] [] (l := [(1, .c (.ptr _ _ _ _)), (64, .c (.bool true))]) (h := [(101, ⟨0, 10, [[.int _ _, .int _ _, .int _ _, .int _ _, .int _ _, .int _ _, .int _ _, .int _ _, .int _ _, .row _ _ _]]⟩)]) (h' := []) trivial rfl rfl rfl ?_
            refine W_true rfl ?_
            refine W_seq ?_
            refine W_regV he rfl ?_
            refine v0 (sA rfl [] rfl) rfl ?_
            refine ve ?_
            refine W2 [2] [] [] (l := [(2, .c (.bool false))]) (h := []) (h' := []) trivial rfl rfl rfl ?_
            obtain rfl := Option.some.inj h
            exact W_ret (r0 rfl rfl)
        | false =>
          replace h := brF hb8 h
          refine u0 (sNt rfl rfl) rfl rfl rfl ?_
          refine v0 (sPk rfl [] rfl rfl) rfl ?_
          refine v0 (sM rfl [] rfl) rfl ?_
          refine uP rfl rfl rfl rfl ?_
          refine uP rfl rfl rfl rfl ?_
          refine uP rfl rfl rfl rfl ?_
          refine uP rfl rfl rfl rfl ?_
          refine uP rfl rfl rfl rfl ?_
          refine v0 (sPk rfl [] rfl rfl) rfl ?_
          refine v0 (sM rfl [] rfl) rfl ?_
          refine uP rfl rfl rfl rfl ?_
          refine uP rfl rfl rfl rfl ?_
          refine uP rfl rfl rfl rfl ?_
          refine uP rfl rfl rfl rfl ?_
          refine uP rfl rfl rfl rfl ?_
          refine v0 (sPk rfl [] rfl rfl) rfl ?_
          refine v0 (sM rfl [] rfl) rfl ?_
          refine uP rfl rfl rfl rfl ?_
          refine uP rfl rfl rfl rfl ?_
          refine uP rfl rfl rfl rfl ?_
          refine uP rfl rfl rfl rfl ?_
          refine v0 (sPk rfl [] rfl rfl) rfl ?_
          refine v0 (sM rfl [] rfl) rfl ?_
          refine uP rfl rfl rfl rfl ?_
          refine uP rfl rfl rfl rfl ?_
          refine uP rfl rfl rfl rfl ?_
          refine uP rfl rfl rfl rfl ?_
          refine v0 (sPk rfl [] rfl rfl) rfl ?_
          refine v0 (sM rfl [] rfl) rfl ?_
          refine uP rfl rfl rfl rfl ?_
          refine uP rfl rfl rfl rfl ?_
          refine uP rfl rfl rfl rfl ?_
          refine uP rfl rfl rfl rfl ?_
          refine v0 (sPk rfl [] rfl rfl) rfl ?_
          refine ve ?_
          refine W2 [1, 64] [101] [] (l := [(1, .c (.ptr _ _ _ _)), (64, .c (.bool true))]) (h := [(101, ⟨0, 10, [[.int _ _, .int _ _, .int _ _, .int _ _, .int _ _, .int _ _, .int _ _, .int _ _, .int _ _, .row _ _ _]]⟩)]) (h' := []) trivial rfl rfl rfl ?_
          refine W_true rfl ?_
          refine W_seq ?_
          refine W_regV he rfl ?_
          refine v0 (sA rfl [] rfl) rfl ?_
          refine ve ?_
          refine W2 [2] [] [] (l := [(2, .c (.bool false))]) (h := []) (h' := []) trivial rfl rfl rfl ?_
          obtain rfl := Option.some.inj h
          exact W_ret (r0 rfl rfl)
      | false =>
        replace h := brF hb6 h
        refine u0 (sNt rfl rfl) rfl rfl rfl ?_
        refine v0 (sPk rfl [] rfl rfl) rfl ?_
        refine v0 (sM rfl [] rfl) rfl ?_
        refine uP rfl rfl rfl rfl ?_
        refine uP rfl rfl rfl rfl ?_
        refine uP rfl rfl rfl rfl ?_
        refine uP rfl rfl rfl rfl ?_
        refine uP rfl rfl rfl rfl ?_
        refine uP rfl rfl rfl rfl ?_
        refine v0 (sPk rfl [] rfl rfl) rfl ?_
        refine v0 (sM rfl [] rfl) rfl ?_
        refine uP rfl rfl rfl rfl ?_
        refine uP rfl rfl rfl rfl ?_
        refine uP rfl rfl rfl rfl ?_
        refine uP rfl rfl rfl rfl ?_
        refine uP rfl rfl rfl rfl ?_
        refine v0 (sPk rfl [] rfl rfl) rfl ?_
        refine v0 (sM rfl [] rfl) rfl ?_
        refine uP rfl rfl rfl rfl ?_
        refine uP rfl rfl rfl rfl ?_
        refine uP rfl rfl rfl rfl ?_
        refine uP rfl rfl rfl rfl ?_
        refine uP rfl rfl rfl rfl ?_
        refine v0 (sPk rfl [] rfl rfl) rfl ?_
        refine v0 (sM rfl [] rfl) rfl ?_
        refine uP rfl rfl rfl rfl ?_
        refine uP rfl rfl rfl rfl ?_
        refine uP rfl rfl rfl rfl ?_
        refine uP rfl rfl rfl rfl ?_
        refine v0 (sPk rfl [] rfl rfl) rfl ?_
        refine v0 (sM rfl [] rfl) rfl ?_
        refine uP rfl rfl rfl rfl ?_
        refine uP rfl rfl rfl rfl ?_
        refine uP rfl rfl rfl rfl ?_
        refine uP rfl rfl rfl rfl ?_
        refine v0 (sPk rfl [] rfl rfl) rfl ?_
        refine v0 (sM rfl [] rfl) rfl ?_
        refine uP rfl rfl rfl rfl ?_
        refine uP rfl rfl rfl rfl ?_
        refine uP rfl rfl rfl rfl ?_
        refine uP rfl rfl rfl rfl ?_
        refine v0 (sPk rfl [] rfl rfl) rfl ?_
        refine ve ?_
        refine W2 [1, 64] [101] [] (l := [(1, .c (.ptr _ _ _ _)), (64, .c (.bool true))]) (h := [(101, ⟨0, 10, [[.int _ _, .int _ _, .int _ _, .int _ _, .int _ _, .int _ _, .int _ _, .int _ _, .int _ _, .row _ _ _]]⟩)]) (h' := []) trivial rfl rfl rfl ?_
        refine W_true rfl ?_
        refine W_seq ?_
        refine W_regV he rfl ?_
        refine v0 (sA rfl [] rfl) rfl ?_
        refine ve ?_
        refine W2 [2] [] [] (l := [(2, .c (.bool false))]) (h := []) (h' := []) trivial rfl rfl rfl ?_
        obtain rfl := Option.some.inj h
        exact W_ret (r0 rfl rfl)
    | false =>
      replace h := brF hb4 h
      refine u0 (sNt rfl rfl) rfl rfl rfl ?_
      refine v0 (sPk rfl [] rfl rfl) rfl ?_
      refine v0 (sM rfl [] rfl) rfl ?_
      refine uP rfl rfl rfl rfl ?_
      refine uP rfl rfl rfl rfl ?_
      refine uP rfl rfl rfl rfl ?_
      refine uP rfl rfl rfl rfl ?_
      refine uP rfl rfl rfl rfl ?_
      refine uP rfl rfl rfl rfl ?_
      refine v0 (sPk rfl [] rfl rfl) rfl ?_
      refine v0 (sM rfl [] rfl) rfl ?_
      refine uP rfl rfl rfl rfl ?_
      refine uP rfl rfl rfl rfl ?_
      refine uP rfl rfl rfl rfl ?_
      refine uP rfl rfl rfl rfl ?_
      refine uP rfl rfl rfl rfl ?_
      refine uP rfl rfl rfl rfl ?_
      refine v0 (sPk rfl [] rfl rfl) rfl ?_
      refine v0 (sM rfl [] rfl) rfl ?_
      refine uP rfl rfl rfl rfl ?_
      refine uP rfl rfl rfl rfl ?_
      refine uP rfl rfl rfl rfl ?_
      refine uP rfl rfl rfl rfl ?_
      refine uP rfl rfl rfl rfl ?_
      refine v0 (sPk rfl [] rfl rfl) rfl ?_
      refine v0 (sM rfl [] rfl) rfl ?_
      refine uP rfl rfl rfl rfl ?_
      refine uP rfl rfl rfl rfl ?_
      refine uP rfl rfl rfl rfl ?_
      refine uP rfl rfl rfl rfl ?_
      refine uP rfl rfl rfl rfl ?_
      refine v0 (sPk rfl [] rfl rfl) rfl ?_
      refine v0 (sM rfl [] rfl) rfl ?_
      refine uP rfl rfl rfl rfl ?_
      refine uP rfl rfl rfl rfl ?_
      refine uP rfl rfl rfl rfl ?_
      refine uP rfl rfl rfl rfl ?_
      refine v0 (sPk rfl [] rfl rfl) rfl ?_
      refine v0 (sM rfl [] rfl) rfl ?_
      refine uP rfl rfl rfl rfl ?_
      refine uP rfl rfl rfl rfl ?_
      refine uP rfl rfl rfl rfl ?_
      refine uP rfl rfl rfl rfl ?_
      refine v0 (sPk rfl [] rfl rfl) rfl ?_
      refine v0 (sM rfl [] rfl) rfl ?_
      refine uP rfl rfl rfl rfl ?_
      refine uP rfl rfl rfl rfl ?_
      refine uP rfl rfl rfl rfl ?_
      refine uP rfl rfl rfl rfl ?_
      refine v0 (sPk rfl [] rfl rfl) rfl ?_
      refine ve ?_
      refine W2 [1, 64] [101] [] (l := [(1, .c (.ptr _ _ _ _)), (64, .c (.bool true))]) (h := [(101, ⟨0, 10, [[.int _ _, .int _ _, .int _ _, .int _ _, .int _ _, .int _ _, .int _ _, .int _ _, .int _ _, .row _ _ _]]⟩)]) (h' := []) trivial rfl rfl rfl ?_
      refine W_true rfl ?_
      refine W_seq ?_
      refine W_regV he rfl ?_
      refine v0 (sA rfl [] rfl) rfl ?_
      refine ve ?_
      refine W2 [2] [] [] (l := [(2, .c (.bool false))]) (h := []) (h' := []) trivial rfl rfl rfl ?_
      obtain rfl := Option.some.inj h
      exact W_ret (r0 rfl rfl)
  | false =>
    replace h := brF hb2 h
    refine v0 (sNt rfl rfl) rfl ?_
    refine v0 (sM rfl [] rfl) rfl ?_
    refine uP rfl rfl rfl rfl ?_
    refine uP rfl rfl rfl rfl ?_
    refine uP rfl rfl rfl rfl ?_
    refine uP rfl rfl rfl rfl ?_
    refine uP rfl rfl rfl rfl ?_
    refine v0 (sPk rfl [] rfl rfl) rfl ?_
    refine v0 (sM rfl [] rfl) rfl ?_
    refine uP rfl rfl rfl rfl ?_
    refine uP rfl rfl rfl rfl ?_
    refine uP rfl rfl rfl rfl ?_
    refine uP rfl rfl rfl rfl ?_
    refine uP rfl rfl rfl rfl ?_
    refine uP rfl rfl rfl rfl ?_
    refine v0 (sPk rfl [] rfl rfl) rfl ?_
    refine v0 (sM rfl [] rfl) rfl ?_
    refine uP rfl rfl rfl rfl ?_
    refine uP rfl rfl rfl rfl ?_
    refine uP rfl rfl rfl rfl ?_
    refine uP rfl rfl rfl rfl ?_
    refine uP rfl rfl rfl rfl ?_
    refine uP rfl rfl rfl rfl ?_
    refine v0 (sPk rfl [] rfl rfl) rfl ?_
    refine v0 (sM rfl [] rfl) rfl ?_
    refine uP rfl rfl rfl rfl ?_
    refine uP rfl rfl rfl rfl ?_
    refine uP rfl rfl rfl rfl ?_
    refine uP rfl rfl rfl rfl ?_
    refine uP rfl rfl rfl rfl ?_
    refine v0 (sPk rfl [] rfl rfl) rfl ?_
    refine v0 (sM rfl [] rfl) rfl ?_
    refine uP rfl rfl rfl rfl ?_
    refine uP rfl rfl rfl rfl ?_
    refine uP rfl rfl rfl rfl ?_
    refine uP rfl rfl rfl rfl ?_
    refine uP rfl rfl rfl rfl ?_
    refine v0 (sPk rfl [] rfl rfl) rfl ?_
    refine v0 (sM rfl [] rfl) rfl ?_
    refine uP rfl rfl rfl rfl ?_
    refine uP rfl rfl rfl rfl ?_
    refine uP rfl rfl rfl rfl ?_
    refine uP rfl rfl rfl rfl ?_
    refine v0 (sPk rfl [] rfl rfl) rfl ?_
    refine v0 (sM rfl [] rfl) rfl ?_
    refine uP rfl rfl rfl rfl ?_
    refine uP rfl rfl rfl rfl ?_
    refine uP rfl rfl rfl rfl ?_
    refine uP rfl rfl rfl rfl ?_
    refine v0 (sPk rfl [] rfl rfl) rfl ?_
    refine v0 (sM rfl [] rfl) rfl ?_
    refine uP rfl rfl rfl rfl ?_
    refine uP rfl rfl rfl rfl ?_
    refine uP rfl rfl rfl rfl ?_
    refine uP rfl rfl rfl rfl ?_
    refine v0 (sPk rfl [] rfl rfl) rfl ?_
    refine ve ?_
    refine W2 [1, 64] [101] [] (l := [(1, .c (.ptr _ _ _ _)), (64, .c (.bool true))]) (h := [(101, ⟨0, 10, [[.int _ _, .int _ _, .int _ _, .int _ _, .int _ _, .int _ _, .int _ _, .int _ _, .int _ _, .row _ _ _]]⟩)]) (h' := []) trivial rfl rfl rfl ?_
    refine W_true rfl ?_
    refine W_seq ?_
    refine W_regV he rfl ?_
    refine v0 (sA rfl [] rfl) rfl ?_
    refine ve ?_
    refine W2 [2] [] [] (l := [(2, .c (.bool false))]) (h := []) (h' := []) trivial rfl rfl rfl ?_
    obtain rfl := Option.some.inj h
    exact W_ret (r0 rfl rfl)
theorem ok_spec_OpOk : FnOk Try.prog 40 := ⟨_, Try.func40, rfl, rfl⟩


/-! ### loop.example/g00499/spec.GetVar -/
def j_spec_GetVar_10 (K : Nat) (a0 : List Int) (a1 : Int) (v1 : Int) (v2 : Int) : Option (Int × Int × Bool) := some ((iOr .i64 v1 (iShl .i64 (iAnd .i64 (IntKind.i64.wrap (gt a0 (iAdd .i64 a1 v2))) 127) (iMul .i64 7 v2))), (iAdd .i64 (iAdd .i64 a1 v2) 1), true)
def l_spec_GetVar_3 (K : Nat) (a0 : List Int) (a1 : Int) : Nat → Int → Int → Option (Int × Int × Bool)
  | 0, _, _ => none
  | n3 + 1, v1, v2 => (bif (decide (v2 < 5)) then (bif (decide (a1 < 0)) then some (0, 0, false) else (bif (decide (a1 ≥ (iSub .i64 (a0.length : Int) v2))) then some (0, 0, false) else (if (0 : Int) ≤ (iAdd .i64 a1 v2) ∧ (iAdd .i64 a1 v2) < (a0.length : Int) then (if (0 : Int) ≤ (iMul .i64 7 v2) then (bif (decide ((IntKind.i64.wrap (gt a0 (iAdd .i64 a1 v2))) < 128)) then (bif ((IntKind.i64.wrap (gt a0 (iAdd .i64 a1 v2))) == 0) then (bif (decide (v2 > 0)) then some (0, 0, false) else (bif (decide ((iOr .i64 v1 (iShl .i64 (iAnd .i64 (IntKind.i64.wrap (gt a0 (iAdd .i64 a1 v2))) 127) (iMul .i64 7 v2))) > 1000000000)) then some (0, 0, false) else j_spec_GetVar_10 K a0 a1 v1 v2 )) else (bif (decide ((iOr .i64 v1 (iShl .i64 (iAnd .i64 (IntKind.i64.wrap (gt a0 (iAdd .i64 a1 v2))) 127) (iMul .i64 7 v2))) > 1000000000)) then some (0, 0, false) else j_spec_GetVar_10 K a0 a1 v1 v2 )) else (l_spec_GetVar_3 K a0 a1 n3 (iOr .i64 v1 (iShl .i64 (iAnd .i64 (IntKind.i64.wrap (gt a0 (iAdd .i64 a1 v2))) 127) (iMul .i64 7 v2))) (iAdd .i64 v2 1))) else none) else none))) else some (0, 0, false))
def m_spec_GetVar (K : Nat) (a0 : List Int) (a1 : Int) : Option (Int × Int × Bool) := (l_spec_GetVar_3 K a0 a1 K 0 0)
set_option maxRecDepth 20000 in
set_option maxHeartbeats 8000000 in
theorem w_spec_GetVar (K : Nat) (a0 : List Int) (a1 : Int) (r : Int × Int × Bool) (h : m_spec_GetVar K a0 a1 = some r) : Sp Try.prog 20 [.c (.row false 1 (a0.map en_u8)), .c (.int .i64 a1)] [] (.t [.c (.int .i64 r.1), .c (.int .i64 r.2.1), .c (.bool r.2.2)]) [] := by
  refine Sp.of_W tabOk Try.func20 rfl rfl (Nat.le_of_ble_eq_true rfl) (Nat.le_of_ble_eq_true rfl) fun F hP hN hm => ?_
  obtain ⟨P, N, w0, σ0, β0, m⟩ := F
  obtain rfl : P = Try.prog := hP
  obtain rfl : N = 55 := hN
  obtain rfl : m = 1 := hm
  have he : Env ⟨Try.prog, 55, w0, σ0, β0, 1⟩ tab := ⟨Nat.le_of_ble_eq_true rfl, tabOk⟩
  unfold m_spec_GetVar at h
  refine W_seq ?_
  refine W_regV he rfl ?_
  refine v0 (sA rfl [] rfl) rfl ?_
  refine v0 (sA rfl [] rfl) rfl ?_
  refine v0 (sA rfl [] rfl) rfl ?_
  refine ve ?_
  refine W2 [0, 1] [] [] (l := [(0, .c (.row _ _ _)), (1, .c (.int _ _))]) (h := []) (h' := []) trivial rfl rfl rfl ?_
  refine W_seq ?_
  refine W_regV he rfl ?_
  refine v0 (sA rfl [] rfl) rfl ?_
  refine ve ?_
  refine W2 [0, 1, 7] [] [] (l := [(0, .c (.row _ _ _)), (1, .c (.int _ _)), (7, .c (.int _ _))]) (h := []) (h' := []) trivial rfl rfl rfl ?_
  refine W_seq ?_
  refine W_seq ?_
  refine W_regV he rfl ?_
  refine v0 (sA rfl [] rfl) rfl ?_
  refine ve ?_
  refine W2 [0, 1, 7, 8] [] [] (l := [(0, .c (.row _ _ _)), (1, .c (.int _ _)), (7, .c (.int _ _)), (8, .c (.int _ _))]) (h := []) (h' := []) trivial rfl rfl rfl ?_
  refine W_block ?_
  refine W2 [0, 1, 7, 8] [] [] (l := [(0, .c (.row _ _ _)), (1, .c (.int _ _)), (7, .c (.int _ _)), (8, .c (.int _ _))]) (h := []) (h' := []) trivial rfl rfl rfl ?_
  refine W_loopW (fun n3 S => ∃ (v1 : Int), ∃ (v2 : Int), S = StL [(0, .c (.row false 1 (a0.map en_u8))), (1, .c (.int .i64 a1)), (7, .c (.int .i64 v1)), (8, .c (.int .i64 v2))] ([] ++ []) ∧ l_spec_GetVar_3 K a0 a1 n3 v1 v2 = some r) K ⟨_, _, rfl, h⟩ ?_
  rintro n3 S ⟨v1, v2, rfl, h⟩
  cases n3 with
  | zero => simp [l_spec_GetVar_3] at h
  | succ n3 =>
    rw [l_spec_GetVar_3] at h
    refine W_seq ?_
    refine W_seq ?_
    refine W_regV he rfl ?_
    refine v0 (sM rfl [] rfl) rfl ?_
    refine vB (sBi rfl rfl rfl rfl) rfl rfl fun b4 hb4 => ?_
    cases b4 with
    | true =>
      replace h := brT hb4 h
      refine ve ?_
      refine W2 [0, 1, 7, 8, 11] [] [] (l := [(0, .c (.row _ _ _)), (1, .c (.int _ _)), (7, .c (.int _ _)), (8, .c (.int _ _)), (11, .c (.bool true))]) (h := []) (h' := []) trivial rfl rfl rfl ?_
      refine W_true rfl ?_
      refine W_skip ?_
      refine W_seq ?_
      refine W_block ?_
      refine W_seq ?_
      refine W_seq ?_
      refine W_regV he rfl ?_
      refine v0 (sM rfl [] rfl) rfl ?_
      refine vB (sBi rfl rfl rfl rfl) rfl rfl fun b5 hb5 => ?_
      cases b5 with
      | true =>
        replace h := brT hb5 h
        refine v0 (sM rfl [] rfl) rfl ?_
        refine uP rfl rfl rfl rfl ?_
        refine uP rfl rfl rfl rfl ?_
        refine uP rfl rfl rfl rfl ?_
        refine uP rfl rfl rfl rfl ?_
        refine uP rfl rfl rfl rfl ?_
        refine uP rfl rfl rfl rfl ?_
        refine v0 (sPk rfl [] rfl rfl) rfl ?_
        refine ve ?_
        refine W2 [0, 1, 7, 8, 23] [] [] (l := [(0, .c (.row _ _ _)), (1, .c (.int _ _)), (7, .c (.int _ _)), (8, .c (.int _ _)), (23, .c (.bool true))]) (h := []) (h' := []) trivial rfl rfl rfl ?_
        refine W_true rfl ?_
        refine W_seq ?_
        refine W_regV he rfl ?_
        refine v0 (sA rfl [] rfl) rfl ?_
        refine v0 (sA rfl [] rfl) rfl ?_
        refine v0 (sA rfl [] rfl) rfl ?_
        refine ve ?_
        refine W2 [4, 5, 6] [] [] (l := [(4, .c (.int _ _)), (5, .c (.int _ _)), (6, .c (.bool false))]) (h := []) (h' := []) trivial rfl rfl rfl ?_
        obtain rfl := Option.some.inj h
        exact W_ret (r0 rfl rfl)
      | false =>
        replace h := brF hb5 h
        refine v0 (sM rfl [] rfl) rfl ?_
        refine u0 (sM rfl [] rfl) rfl rfl rfl ?_
        refine u0 (sM rfl [] rfl) rfl rfl rfl ?_
        refine u0 (sLm rfl rfl rfl rfl) rfl rfl rfl ?_
        refine u0 (sM rfl [] rfl) rfl rfl rfl ?_
        refine u0 (sBi rfl rfl rfl rfl) rfl rfl rfl ?_
        refine uB (sBi rfl rfl rfl rfl) rfl rfl rfl rfl fun b6 hb6 => ?_
        cases b6 with
        | true =>
          replace h := brT hb6 h
          refine v0 (sPk rfl [] rfl rfl) rfl ?_
          refine ve ?_
          refine W2 [0, 1, 7, 8, 23] [] [] (l := [(0, .c (.row _ _ _)), (1, .c (.int _ _)), (7, .c (.int _ _)), (8, .c (.int _ _)), (23, .c (.bool true))]) (h := []) (h' := []) trivial rfl rfl rfl ?_
          refine W_true rfl ?_
          refine W_seq ?_
          refine W_regV he rfl ?_
          refine v0 (sA rfl [] rfl) rfl ?_
          refine v0 (sA rfl [] rfl) rfl ?_
          refine v0 (sA rfl [] rfl) rfl ?_
          refine ve ?_
          refine W2 [4, 5, 6] [] [] (l := [(4, .c (.int _ _)), (5, .c (.int _ _)), (6, .c (.bool false))]) (h := []) (h' := []) trivial rfl rfl rfl ?_
          obtain rfl := Option.some.inj h
          exact W_ret (r0 rfl rfl)
        | false =>
          replace h := brF hb6 h
          refine v0 (sPk rfl [] rfl rfl) rfl ?_
          refine ve ?_
          refine W2 [0, 1, 7, 8, 23] [] [] (l := [(0, .c (.row _ _ _)), (1, .c (.int _ _)), (7, .c (.int _ _)), (8, .c (.int _ _)), (23, .c (.bool false))]) (h := []) (h' := []) trivial rfl rfl rfl ?_
          refine W_false rfl ?_
          refine W_skip ?_
          refine W_seq ?_
          refine W_regV he rfl ?_
          refine v0 (sM rfl [] rfl) rfl ?_
          refine v0 (sM rfl [] rfl) rfl ?_
          refine v0 (sM rfl [] rfl) rfl ?_
          refine v0 (sBi rfl rfl rfl rfl) rfl ?_
          obtain ⟨c7, h⟩ := chk h
          refine v0 (sIRm rfl rfl rfl rfl c7) rfl ?_
          refine v0 (sLI rfl rfl (en_u8 (gt a0 (iAdd .i64 a1 v2))) (gt_at _ c7) rfl rfl rfl) rfl ?_
          refine v0 (sCv rfl rfl rfl rfl rfl rfl) rfl ?_
          refine v0 (sA rfl [] rfl) rfl ?_
          refine ve ?_
          refine W2 [0, 1, 7, 8, 9] [] [] (l := [(0, .c (.row _ _ _)), (1, .c (.int _ _)), (7, .c (.int _ _)), (8, .c (.int _ _)), (9, .c (.int _ _))]) (h := []) (h' := []) trivial rfl rfl rfl ?_
          refine W_seq ?_
          refine W_regV he rfl ?_
          refine v0 (sM rfl [] rfl) rfl ?_
          refine v0 (sM rfl [] rfl) rfl ?_
          refine v0 (sBi rfl rfl rfl rfl) rfl ?_
          refine v0 (sM rfl [] rfl) rfl ?_
          refine v0 (sBi rfl rfl rfl rfl) rfl ?_
          obtain ⟨c8, h⟩ := chk h
          refine v0 (sSh rfl rfl rfl c8) rfl ?_
          refine v0 (sBi rfl rfl rfl rfl) rfl ?_
          refine v0 (sA rfl [] rfl) rfl ?_
          refine ve ?_
          refine W2 [0, 1, 7, 8, 9] [] [] (l := [(0, .c (.row _ _ _)), (1, .c (.int _ _)), (7, .c (.int _ _)), (8, .c (.int _ _)), (9, .c (.int _ _))]) (h := []) (h' := []) trivial rfl rfl rfl ?_
          refine W_seq ?_
          refine W_regV he rfl ?_
          refine v0 (sM rfl [] rfl) rfl ?_
          refine vB (sBi rfl rfl rfl rfl) rfl rfl fun b9 hb9 => ?_
          cases b9 with
          | true =>
            replace h := brT hb9 h
            refine ve ?_
            refine W2 [0, 1, 7, 8, 9, 39] [] [] (l := [(0, .c (.row _ _ _)), (1, .c (.int _ _)), (7, .c (.int _ _)), (8, .c (.int _ _)), (9, .c (.int _ _)), (39, .c (.bool true))]) (h := []) (h' := []) trivial rfl rfl rfl ?_
            refine W_true rfl ?_
            refine W_join (fun S => S = StL [(1, .c (.int .i64 a1)), (7, .c (.int .i64 (iOr .i64 v1 (iShl .i64 (iAnd .i64 (IntKind.i64.wrap (gt a0 (iAdd .i64 a1 v2))) 127) (iMul .i64 7 v2))))), (8, .c (.int .i64 v2))] ([] ++ []) ∧ j_spec_GetVar_10 K a0 a1 v1 v2  = some r) ?_ ?_
            · rintro S ⟨rfl, h⟩
              unfold j_spec_GetVar_10 at h
              refine W_seq ?_
              refine W_regV he rfl ?_
              refine v0 (sM rfl [] rfl) rfl ?_
              refine v0 (sM rfl [] rfl) rfl ?_
              refine v0 (sM rfl [] rfl) rfl ?_
              refine v0 (sBi rfl rfl rfl rfl) rfl ?_
              refine v0 (sBi rfl rfl rfl rfl) rfl ?_
              refine v0 (sA rfl [] rfl) rfl ?_
              refine v0 (sA rfl [] rfl) rfl ?_
              refine v0 (sA rfl [] rfl) rfl ?_
              refine ve ?_
              refine W2 [4, 5, 6] [] [] (l := [(4, .c (.int _ _)), (5, .c (.int _ _)), (6, .c (.bool true))]) (h := []) (h' := []) trivial rfl rfl rfl ?_
              obtain rfl := Option.some.inj h
              exact W_ret (r0 rfl rfl)
            ·
              refine W_seq ?_
              refine W_regV he rfl ?_
              refine v0 (sM rfl [] rfl) rfl ?_
              refine vB (sBi rfl rfl rfl rfl) rfl rfl fun b111 hb111 => ?_
              cases b111 with
              | true =>
                replace h := brT hb111 h
                refine v0 (sM rfl [] rfl) rfl ?_
                refine u0 (sM rfl [] rfl) rfl rfl rfl ?_
                refine uB (sBi rfl rfl rfl rfl) rfl rfl rfl rfl fun b112 hb112 => ?_
                cases b112 with
                | true =>
                  replace h := brT hb112 h
                  refine v0 (sPk rfl [] rfl rfl) rfl ?_
                  refine v0 (sM rfl [] rfl) rfl ?_
                  refine uP rfl rfl rfl rfl ?_
                  refine uP rfl rfl rfl rfl ?_
                  refine v0 (sPk rfl [] rfl rfl) rfl ?_
                  refine ve ?_
                  refine W2 [1, 7, 8, 49] [] [] (l := [(1, .c (.int _ _)), (7, .c (.int _ _)), (8, .c (.int _ _)), (49, .c (.bool true))]) (h := []) (h' := []) trivial rfl rfl rfl ?_
                  refine W_true rfl ?_
                  refine W_seq ?_
                  refine W_regV he rfl ?_
                  refine v0 (sA rfl [] rfl) rfl ?_
                  refine v0 (sA rfl [] rfl) rfl ?_
                  refine v0 (sA rfl [] rfl) rfl ?_
                  refine ve ?_
                  refine W2 [4, 5, 6] [] [] (l := [(4, .c (.int _ _)), (5, .c (.int _ _)), (6, .c (.bool false))]) (h := []) (h' := []) trivial rfl rfl rfl ?_
                  obtain rfl := Option.some.inj h
                  exact W_ret (r0 rfl rfl)
                | false =>
                  replace h := brF hb112 h
                  refine v0 (sPk rfl [] rfl rfl) rfl ?_
                  refine v0 (sM rfl [] rfl) rfl ?_
                  refine u0 (sM rfl [] rfl) rfl rfl rfl ?_
                  refine uB (sBi rfl rfl rfl rfl) rfl rfl rfl rfl fun b113 hb113 => ?_
                  cases b113 with
                  | true =>
                    replace h := brT hb113 h
                    refine v0 (sPk rfl [] rfl rfl) rfl ?_
                    refine ve ?_
                    refine W2 [1, 7, 8, 49] [] [] (l := [(1, .c (.int _ _)), (7, .c (.int _ _)), (8, .c (.int _ _)), (49, .c (.bool true))]) (h := []) (h' := []) trivial rfl rfl rfl ?_
                    refine W_true rfl ?_
                    refine W_seq ?_
                    refine W_regV he rfl ?_
                    refine v0 (sA rfl [] rfl) rfl ?_
                    refine v0 (sA rfl [] rfl) rfl ?_
                    refine v0 (sA rfl [] rfl) rfl ?_
                    refine ve ?_
                    refine W2 [4, 5, 6] [] [] (l := [(4, .c (.int _ _)), (5, .c (.int _ _)), (6, .c (.bool false))]) (h := []) (h' := []) trivial rfl rfl rfl ?_
                    obtain rfl := Option.some.inj h
                    exact W_ret (r0 rfl rfl)
                  | false =>
                    replace h := brF hb113 h
                    refine v0 (sPk rfl [] rfl rfl) rfl ?_
                    refine ve ?_
                    refine W2 [1, 7, 8, 49] [] [] (l := [(1, .c (.int _ _)), (7, .c (.int _ _)), (8, .c (.int _ _)), (49, .c (.bool false))]) (h := []) (h' := []) trivial rfl rfl rfl ?_
                    refine W_false rfl ?_
                    refine W_skip ?_
                    exact ⟨_, wk2 [1, 7, 8] [] [] (l := [(1, .c (.int _ _)), (7, .c (.int _ _)), (8, .c (.int _ _))]) (h := []) (h' := []) trivial rfl rfl rfl, rfl, h⟩
              | false =>
                replace h := brF hb111 h
                refine v0 (sM rfl [] rfl) rfl ?_
                refine uP rfl rfl rfl rfl ?_
                refine uP rfl rfl rfl rfl ?_
                refine v0 (sPk rfl [] rfl rfl) rfl ?_
                refine v0 (sM rfl [] rfl) rfl ?_
                refine u0 (sM rfl [] rfl) rfl rfl rfl ?_
                refine uB (sBi rfl rfl rfl rfl) rfl rfl rfl rfl fun b114 hb114 => ?_
                cases b114 with
                | true =>
                  replace h := brT hb114 h
                  refine v0 (sPk rfl [] rfl rfl) rfl ?_
                  refine ve ?_
                  refine W2 [1, 7, 8, 49] [] [] (l := [(1, .c (.int _ _)), (7, .c (.int _ _)), (8, .c (.int _ _)), (49, .c (.bool true))]) (h := []) (h' := []) trivial rfl rfl rfl ?_
                  refine W_true rfl ?_
                  refine W_seq ?_
                  refine W_regV he rfl ?_
                  refine v0 (sA rfl [] rfl) rfl ?_
                  refine v0 (sA rfl [] rfl) rfl ?_
                  refine v0 (sA rfl [] rfl) rfl ?_
                  refine ve ?_
                  refine W2 [4, 5, 6] [] [] (l := [(4, .c (.int _ _)), (5, .c (.int _ _)), (6, .c (.bool false))]) (h := []) (h' := []) trivial rfl rfl rfl ?_
                  obtain rfl := Option.some.inj h
                  exact W_ret (r0 rfl rfl)
                | false =>
                  replace h := brF hb114 h
                  refine v0 (sPk rfl [] rfl rfl) rfl ?_
                  refine ve ?_
                  refine W2 [1, 7, 8, 49] [] [] (l := [(1, .c (.int _ _)), (7, .c (.int _ _)), (8, .c (.int _ _)), (49, .c (.bool false))]) (h := []) (h' := []) trivial rfl rfl rfl ?_
                  refine W_false rfl ?_
                  refine W_skip ?_
                  exact ⟨_, wk2 [1, 7, 8] [] [] (l := [(1, .c (.int _ _)), (7, .c (.int _ _)), (8, .c (.int _ _))]) (h := []) (h' := []) trivial rfl rfl rfl, rfl, h⟩
          | false =>
            replace h := brF hb9 h
            refine ve ?_
            refine W2 [0, 1, 7, 8, 9, 39] [] [] (l := [(0, .c (.row _ _ _)), (1, .c (.int _ _)), (7, .c (.int _ _)), (8, .c (.int _ _)), (9, .c (.int _ _)), (39, .c (.bool false))]) (h := []) (h' := []) trivial rfl rfl rfl ?_
            refine W_false rfl ?_
            refine W_skip ?_
            refine W_regV he rfl ?_
            refine v0 (sM rfl [] rfl) rfl ?_
            refine v0 (sBi rfl rfl rfl rfl) rfl ?_
            refine v0 (sA rfl [] rfl) rfl ?_
            refine ve ?_
            exact ⟨n3, _, Nat.lt_succ_self n3, wk2 [0, 1, 7, 8] [] [] (l := [(0, .c (.row _ _ _)), (1, .c (.int _ _)), (7, .c (.int _ _)), (8, .c (.int _ _))]) (h := []) (h' := []) trivial rfl rfl rfl, _, _, rfl, h⟩
    | false =>
      replace h := brF hb4 h
      refine ve ?_
      refine W2 [0, 1, 7, 8, 11] [] [] (l := [(0, .c (.row _ _ _)), (1, .c (.int _ _)), (7, .c (.int _ _)), (8, .c (.int _ _)), (11, .c (.bool false))]) (h := []) (h' := []) trivial rfl rfl rfl ?_
      refine W_false rfl ?_
      refine W_exit (ex_then (ex_then (ex_hit ?_)))
      refine W_seq ?_
      refine W_regV he rfl ?_
      refine v0 (sA rfl [] rfl) rfl ?_
      refine v0 (sA rfl [] rfl) rfl ?_
      refine v0 (sA rfl [] rfl) rfl ?_
      refine ve ?_
      refine W2 [4, 5, 6] [] [] (l := [(4, .c (.int _ _)), (5, .c (.int _ _)), (6, .c (.bool false))]) (h := []) (h' := []) trivial rfl rfl rfl ?_
      obtain rfl := Option.some.inj h
      exact W_ret (r0 rfl rfl)
theorem ok_spec_GetVar : FnOk Try.prog 20 := ⟨_, Try.func20, rfl, rfl⟩


/-! ### loop.example/g00499/spec.GetOp -/
def l_spec_GetOp_4 (K : Nat) (a0 : List Int) : Nat → (List Int) → Int → Int → Option (T_impl_Op × Bool)
  | 0, _, _, _ => none
  | n4 + 1, v1, v2, v3 => (bif (decide (v3 < 10)) then ((m_spec_GetVar K a0 v2).bind fun r6 => (bif r6.2.2 then (if (v1 ++ ([r6.1] : List Int)).length * 8 ≤ 140737488355328 ∧ (v1 ++ ([r6.1] : List Int)).length ≤ maxLen then (l_spec_GetOp_4 K a0 n4 (v1 ++ ([r6.1] : List Int)) r6.2.1 (iAdd .i64 v3 1)) else none) else some ((T_impl_Op.mk 0 (T_impl_Handle.mk 0 0) (T_impl_Ref.mk (T_impl_Handle.mk 0 0) 0 0) 0 0 []), false))) else (if (0 : Int) ≤ 0 ∧ 0 < (v1.length : Int) then (if (0 : Int) ≤ 1 ∧ 1 < (v1.length : Int) then (if (0 : Int) ≤ 2 ∧ 2 < (v1.length : Int) then (if (0 : Int) ≤ 3 ∧ 3 < (v1.length : Int) then (if (0 : Int) ≤ 4 ∧ 4 < (v1.length : Int) then (if (0 : Int) ≤ 5 ∧ 5 < (v1.length : Int) then (if (0 : Int) ≤ 6 ∧ 6 < (v1.length : Int) then (if (0 : Int) ≤ 7 ∧ 7 < (v1.length : Int) then (if (0 : Int) ≤ 8 ∧ 8 < (v1.length : Int) then (if (0 : Int) ≤ v2 ∧ v2 ≤ (a0.length : Int) ∧ (a0.length : Int) ≤ (a0.length : Int) then (if (([] : List Int) ++ ((a0.drop v2.toNat).take ((a0.length : Int) - v2).toNat)).length * 1 ≤ 140737488355328 ∧ (([] : List Int) ++ ((a0.drop v2.toNat).take ((a0.length : Int) - v2).toNat)).length ≤ maxLen then (if (0 : Int) ≤ 9 ∧ 9 < (v1.length : Int) then (bif (((([] : List Int) ++ ((a0.drop v2.toNat).take ((a0.length : Int) - v2).toNat)).length : Int) != (gt v1 9)) then some ((T_impl_Op.mk 0 (T_impl_Handle.mk 0 0) (T_impl_Ref.mk (T_impl_Handle.mk 0 0) 0 0) 0 0 []), false) else ((m_spec_OpOk K (T_impl_Op.mk (gt v1 0) (T_impl_Handle.mk (gt v1 1) (gt v1 2)) (T_impl_Ref.mk (T_impl_Handle.mk (gt v1 3) (gt v1 4)) (gt v1 5) (gt v1 6)) (gt v1 7) (gt v1 8) (([] : List Int) ++ ((a0.drop v2.toNat).take ((a0.length : Int) - v2).toNat)))).bind fun r22 => (bif r22 then some ((T_impl_Op.mk (gt v1 0) (T_impl_Handle.mk (gt v1 1) (gt v1 2)) (T_impl_Ref.mk (T_impl_Handle.mk (gt v1 3) (gt v1 4)) (gt v1 5) (gt v1 6)) (gt v1 7) (gt v1 8) (([] : List Int) ++ ((a0.drop v2.toNat).take ((a0.length : Int) - v2).toNat))), true) else some ((T_impl_Op.mk 0 (T_impl_Handle.mk 0 0) (T_impl_Ref.mk (T_impl_Handle.mk 0 0) 0 0) 0 0 []), false)))) else none) else none) else none) else none) else none) else none) else none) else none) else none) else none) else none) else none))
def m_spec_GetOp (K : Nat) (a0 : List Int) : Option (T_impl_Op × Bool) := (l_spec_GetOp_4 K a0 K ([] : List Int) 0 0)
set_option maxRecDepth 20000 in
set_option maxHeartbeats 8000000 in
theorem w_spec_GetOp (K : Nat) (a0 : List Int) (r : T_impl_Op × Bool) (h : m_spec_GetOp K a0 = some r) : Sp Try.prog 49 [.c (.row false 1 (a0.map en_u8))] [] (.t [.g [.int .i64 r.1.fKind, .int .i64 r.1.fH.fSlot, .int .i64 r.1.fH.fGen, .int .i64 r.1.fR.fH.fSlot, .int .i64 r.1.fR.fH.fGen, .int .i64 r.1.fR.fEp, .int .i64 r.1.fR.fNo, .int .i64 r.1.fN, .int .i64 r.1.fM, .row false 1 (r.1.fB.map en_u8)], .c (.bool r.2)]) [] := by
  refine Sp.of_W tabOk Try.func49 rfl rfl (Nat.le_of_ble_eq_true rfl) (Nat.le_of_ble_eq_true rfl) fun F hP hN hm => ?_
  obtain ⟨P, N, w0, σ0, β0, m⟩ := F
  obtain rfl : P = Try.prog := hP
  obtain rfl : N = 82 := hN
  obtain rfl : m = 1 := hm
  have he : Env ⟨Try.prog, 82, w0, σ0, β0, 1⟩ tab := ⟨Nat.le_of_ble_eq_true rfl, tabOk⟩
  unfold m_spec_GetOp at h
  refine W_seq ?_
  refine W_regV he rfl ?_
  refine v0 (sAl rfl rfl 101 rfl) rfl ?_
  refine v0 (sA rfl [] rfl) rfl ?_
  refine ve ?_
  refine W2 [0, 2] [101] [] (l := [(0, .c (.row _ _ _)), (2, .c (.ptr _ _ _ _))]) (h := [(101, ⟨0, 10, [[.int _ _, .int _ _, .int _ _, .int _ _, .int _ _, .int _ _, .int _ _, .int _ _, .int _ _, .row _ _ _]]⟩)]) (h' := []) trivial rfl rfl rfl ?_
  refine W_seq ?_
  refine W_regV he rfl ?_
  refine v0 (sBS rfl 1004 (rows := ([] : List Int).map en_i64) rfl rfl rfl (by kernel_rfl) rfl rfl rfl rfl) rfl ?_
  refine v0 (sA rfl [] rfl) rfl ?_
  refine ve ?_
  refine W2 [0, 2, 4] [101] [1004] (l := [(0, .c (.row _ _ _)), (2, .c (.ptr _ _ _ _)), (4, .c (.own _ _ _ _))]) (h := [(101, ⟨0, 10, [[.int _ _, .int _ _, .int _ _, .int _ _, .int _ _, .int _ _, .int _ _, .int _ _, .int _ _, .row _ _ _]]⟩)]) (h' := [(1004, ⟨0, 1, ([] : List Int).map en_i64⟩)]) ⟨⟨_, rfl, enOk_i64.allClosed _ _ ([] : List Int)⟩, trivial⟩ rfl rfl rfl ?_
  refine W_seq ?_
  refine W_regV he rfl ?_
  refine v0 (sA rfl [] rfl) rfl ?_
  refine ve ?_
  refine W2 [0, 2, 4, 5] [101] [1004] (l := [(0, .c (.row _ _ _)), (2, .c (.ptr _ _ _ _)), (4, .c (.own _ _ _ _)), (5, .c (.int _ _))]) (h := [(101, ⟨0, 10, [[.int _ _, .int _ _, .int _ _, .int _ _, .int _ _, .int _ _, .int _ _, .int _ _, .int _ _, .row _ _ _]]⟩)]) (h' := [(1004, ⟨0, 1, ([] : List Int).map en_i64⟩)]) ⟨⟨_, rfl, enOk_i64.allClosed _ _ ([] : List Int)⟩, trivial⟩ rfl rfl rfl ?_
  refine W_seq ?_
  refine W_seq ?_
  refine W_regV he rfl ?_
  refine v0 (sA rfl [] rfl) rfl ?_
  refine ve ?_
  refine W2 [0, 2, 4, 5, 6] [101] [1004] (l := [(0, .c (.row _ _ _)), (2, .c (.ptr _ _ _ _)), (4, .c (.own _ _ _ _)), (5, .c (.int _ _)), (6, .c (.int _ _))]) (h := [(101, ⟨0, 10, [[.int _ _, .int _ _, .int _ _, .int _ _, .int _ _, .int _ _, .int _ _, .int _ _, .int _ _, .row _ _ _]]⟩)]) (h' := [(1004, ⟨0, 1, ([] : List Int).map en_i64⟩)]) ⟨⟨_, rfl, enOk_i64.allClosed _ _ ([] : List Int)⟩, trivial⟩ rfl rfl rfl ?_
  refine W_block ?_
  refine W2 [0, 2, 4, 5, 6] [101] [1004] (l := [(0, .c (.row _ _ _)), (2, .c (.ptr _ _ _ _)), (4, .c (.own _ _ _ _)), (5, .c (.int _ _)), (6, .c (.int _ _))]) (h := [(101, ⟨0, 10, [[.int _ _, .int _ _, .int _ _, .int _ _, .int _ _, .int _ _, .int _ _, .int _ _, .int _ _, .row _ _ _]]⟩)]) (h' := [(1004, ⟨0, 1, ([] : List Int).map en_i64⟩)]) ⟨⟨_, rfl, enOk_i64.allClosed _ _ ([] : List Int)⟩, trivial⟩ rfl rfl rfl ?_
  refine W_loopW (fun n4 S => ∃ (v1 : List Int), ∃ (v2 : Int), ∃ (v3 : Int), S = StL [(0, .c (.row false 1 (a0.map en_u8))), (2, .c (.ptr 101 0 0 0)), (4, .c (.own 1004 0 0 v1.length)), (5, .c (.int .i64 v2)), (6, .c (.int .i64 v3))] ([(101, ⟨0, 10, [[.int .i64 0, .int .i64 0, .int .i64 0, .int .i64 0, .int .i64 0, .int .i64 0, .int .i64 0, .int .i64 0, .int .i64 0, .row true 1 []]]⟩)] ++ [(1004, ⟨0, 1, v1.map en_i64⟩)]) ∧ l_spec_GetOp_4 K a0 n4 v1 v2 v3 = some r) K ⟨_, _, _, rfl, h⟩ ?_
  rintro n4 S ⟨v1, v2, v3, rfl, h⟩
  cases n4 with
  | zero => simp [l_spec_GetOp_4] at h
  | succ n4 =>
    rw [l_spec_GetOp_4] at h
    refine W_seq ?_
    refine W_seq ?_
    refine W_regV he rfl ?_
    refine v0 (sM rfl [] rfl) rfl ?_
    refine vB (sBi rfl rfl rfl rfl) rfl rfl fun b5 hb5 => ?_
    cases b5 with
    | true =>
      replace h := brT hb5 h
      refine ve ?_
      refine W2 [0, 2, 4, 5, 6, 13] [101] [1004] (l := [(0, .c (.row _ _ _)), (2, .c (.ptr _ _ _ _)), (4, .c (.own _ _ _ _)), (5, .c (.int _ _)), (6, .c (.int _ _)), (13, .c (.bool true))]) (h := [(101, ⟨0, 10, [[.int _ _, .int _ _, .int _ _, .int _ _, .int _ _, .int _ _, .int _ _, .int _ _, .int _ _, .row _ _ _]]⟩)]) (h' := [(1004, ⟨0, 1, v1.map en_i64⟩)]) ⟨⟨_, rfl, enOk_i64.allClosed _ _ v1⟩, trivial⟩ rfl rfl rfl ?_
      refine W_true rfl ?_
      refine W_skip ?_
      refine W_seq ?_
      refine W_block ?_
      refine W_seq ?_
      refine W_regV he rfl ?_
      refine v0 (sM rfl [] rfl) rfl ?_
      refine v0 (sM rfl [] rfl) rfl ?_
      obtain ⟨r6, hr6, h⟩ := bnd2 h
      refine v0 (sCm (w_spec_GetVar K a0 v2 _ hr6) ok_spec_GetVar rfl rfl rfl rfl) rfl ?_
      refine v0 (sM rfl [] rfl) rfl ?_
      refine v0 (sEx rfl rfl rfl) rfl ?_
      refine v0 (sEx rfl rfl rfl) rfl ?_
      refine v0 (sEx rfl rfl rfl) rfl ?_
      refine v0 (sA rfl [] rfl) rfl ?_
      refine v0 (sA rfl [] rfl) rfl ?_
      refine v0 (sA rfl [] rfl) rfl ?_
      refine ve ?_
      refine W2 [0, 2, 4, 6, 7, 8, 9] [101] [1004] (l := [(0, .c (.row _ _ _)), (2, .c (.ptr _ _ _ _)), (4, .c (.own _ _ _ _)), (6, .c (.int _ _)), (7, .c (.int _ _)), (8, .c (.int _ _)), (9, .c (.bool _))]) (h := [(101, ⟨0, 10, [[.int _ _, .int _ _, .int _ _, .int _ _, .int _ _, .int _ _, .int _ _, .int _ _, .int _ _, .row _ _ _]]⟩)]) (h' := [(1004, ⟨0, 1, v1.map en_i64⟩)]) ⟨⟨_, rfl, enOk_i64.allClosed _ _ v1⟩, trivial⟩ rfl rfl rfl ?_
      refine W_seq ?_
      refine W_seq ?_
      refine W_regV he rfl ?_
      refine vB (sM rfl [] rfl) rfl rfl fun b7 hb7 => ?_
      cases b7 with
      | true =>
        replace h := brT hb7 h
        refine v0 (sNt rfl rfl) rfl ?_
        refine ve ?_
        refine W2 [0, 2, 4, 6, 7, 8, 24] [101] [1004] (l := [(0, .c (.row _ _ _)), (2, .c (.ptr _ _ _ _)), (4, .c (.own _ _ _ _)), (6, .c (.int _ _)), (7, .c (.int _ _)), (8, .c (.int _ _)), (24, .c (.bool false))]) (h := [(101, ⟨0, 10, [[.int _ _, .int _ _, .int _ _, .int _ _, .int _ _, .int _ _, .int _ _, .int _ _, .int _ _, .row _ _ _]]⟩)]) (h' := [(1004, ⟨0, 1, v1.map en_i64⟩)]) ⟨⟨_, rfl, enOk_i64.allClosed _ _ v1⟩, trivial⟩ rfl rfl rfl ?_
        refine W_false rfl ?_
        refine W_skip ?_
        refine W_seq ?_
        refine W_regV he rfl ?_
        refine v0 (sM rfl [] rfl) rfl ?_
        refine v0 (sM rfl [] rfl) rfl ?_
        refine v0 (sBS rfl 1028 (rows := ([r6.1] : List Int).map en_i64) rfl rfl rfl (by kernel_rfl) rfl rfl rfl rfl) rfl ?_
        obtain ⟨c8, h⟩ := chk h
        refine v0 (sAo rfl 1004 v1 ([r6.1] : List Int) enOk_i64 rfl rfl rfl rfl rfl rfl rfl rfl rfl rfl rfl c8) rfl ?_
        refine v0 (sA rfl [] rfl) rfl ?_
        refine ve ?_
        refine W2 [0, 2, 4, 6, 8] [101] [1004] (l := [(0, .c (.row _ _ _)), (2, .c (.ptr _ _ _ _)), (4, .c (.own _ _ _ _)), (6, .c (.int _ _)), (8, .c (.int _ _))]) (h := [(101, ⟨0, 10, [[.int _ _, .int _ _, .int _ _, .int _ _, .int _ _, .int _ _, .int _ _, .int _ _, .int _ _, .row _ _ _]]⟩)]) (h' := [(1004, ⟨0, 1, (v1 ++ ([r6.1] : List Int)).map en_i64⟩)]) ⟨⟨_, rfl, enOk_i64.allClosed _ _ (v1 ++ ([r6.1] : List Int))⟩, trivial⟩ rfl rfl rfl ?_
        refine W_regV he rfl ?_
        refine v0 (sM rfl [] rfl) rfl ?_
        refine v0 (sA rfl [] rfl) rfl ?_
        refine ve ?_
        refine W2 [0, 2, 4, 5, 6] [101] [1004] (l := [(0, .c (.row _ _ _)), (2, .c (.ptr _ _ _ _)), (4, .c (.own _ _ _ _)), (5, .c (.int _ _)), (6, .c (.int _ _))]) (h := [(101, ⟨0, 10, [[.int _ _, .int _ _, .int _ _, .int _ _, .int _ _, .int _ _, .int _ _, .int _ _, .int _ _, .row _ _ _]]⟩)]) (h' := [(1004, ⟨0, 1, (v1 ++ ([r6.1] : List Int)).map en_i64⟩)]) ⟨⟨_, rfl, enOk_i64.allClosed _ _ (v1 ++ ([r6.1] : List Int))⟩, trivial⟩ rfl rfl rfl ?_
        refine W_regV he rfl ?_
        refine v0 (sM rfl [] rfl) rfl ?_
        refine v0 (sBi rfl rfl rfl rfl) rfl ?_
        refine v0 (sA rfl [] rfl) rfl ?_
        refine ve ?_
        exact ⟨n4, _, Nat.lt_succ_self n4, wk2 [0, 2, 4, 5, 6] [101] [1004] (l := [(0, .c (.row _ _ _)), (2, .c (.ptr _ _ _ _)), (4, .c (.own _ _ _ _)), (5, .c (.int _ _)), (6, .c (.int _ _))]) (h := [(101, ⟨0, 10, [[.int _ _, .int _ _, .int _ _, .int _ _, .int _ _, .int _ _, .int _ _, .int _ _, .int _ _, .row _ _ _]]⟩)]) (h' := [(1004, ⟨0, 1, (v1 ++ ([r6.1] : List Int)).map en_i64⟩)]) ⟨⟨_, rfl, enOk_i64.allClosed _ _ (v1 ++ ([r6.1] : List Int))⟩, trivial⟩ rfl rfl rfl, _, _, _, rfl, h⟩
      | false =>
        replace h := brF hb7 h
        refine v0 (sNt rfl rfl) rfl ?_
        refine ve ?_
        refine W2 [0, 2, 4, 6, 7, 8, 24] [101] [1004] (l := [(0, .c (.row _ _ _)), (2, .c (.ptr _ _ _ _)), (4, .c (.own _ _ _ _)), (6, .c (.int _ _)), (7, .c (.int _ _)), (8, .c (.int _ _)), (24, .c (.bool true))]) (h := [(101, ⟨0, 10, [[.int _ _, .int _ _, .int _ _, .int _ _, .int _ _, .int _ _, .int _ _, .int _ _, .int _ _, .row _ _ _]]⟩)]) (h' := [(1004, ⟨0, 1, v1.map en_i64⟩)]) ⟨⟨_, rfl, enOk_i64.allClosed _ _ v1⟩, trivial⟩ rfl rfl rfl ?_
        refine W_true rfl ?_
        refine W_seq ?_
        refine W_regV he rfl ?_
        refine v0 (sBd rfl [] (out := [.int .i64 0, .int .i64 0, .int .i64 0, .int .i64 0, .int .i64 0, .int .i64 0, .int .i64 0, .int .i64 0, .int .i64 0, .row true 1 []]) rfl (by kernel_rfl)) rfl ?_
        refine v0 (sSt rfl rfl [] rfl rfl) rfl ?_
        refine v0 (sA rfl [] rfl) rfl ?_
        refine ve ?_
        refine W2 [2, 3] [101] [] (l := [(2, .c (.ptr _ _ _ _)), (3, .c (.bool false))]) (h := [(101, ⟨0, 10, [[.int _ _, .int _ _, .int _ _, .int _ _, .int _ _, .int _ _, .int _ _, .int _ _, .int _ _, .row _ _ _]]⟩)]) (h' := []) trivial rfl rfl rfl ?_
        obtain rfl := Option.some.inj h
        refine W.weak (wk_cold 101 rfl) ?_
        exact W_ret (r0 rfl rfl)
    | false =>
      replace h := brF hb5 h
      refine ve ?_
      refine W2 [0, 2, 4, 5, 6, 13] [101] [1004] (l := [(0, .c (.row _ _ _)), (2, .c (.ptr _ _ _ _)), (4, .c (.own _ _ _ _)), (5, .c (.int _ _)), (6, .c (.int _ _)), (13, .c (.bool false))]) (h := [(101, ⟨0, 10, [[.int _ _, .int _ _, .int _ _, .int _ _, .int _ _, .int _ _, .int _ _, .int _ _, .int _ _, .row _ _ _]]⟩)]) (h' := [(1004, ⟨0, 1, v1.map en_i64⟩)]) ⟨⟨_, rfl, enOk_i64.allClosed _ _ v1⟩, trivial⟩ rfl rfl rfl ?_
      refine W_false rfl ?_
      refine W_exit (ex_then (ex_then (ex_hit ?_)))
      refine W_seq ?_
      refine W_regD he rfl rfl rfl ?_
      refine g0 (sM rfl [] rfl) rfl ?_
      obtain ⟨c9, h⟩ := chk h
      refine g0 (sIOm rfl rfl rfl c9) rfl ?_
      refine g0 (sLkm rfl v1 c9 rfl rfl rfl rfl rfl rfl) rfl ?_
      refine g0 (sM rfl [] rfl) rfl ?_
      obtain ⟨c10, h⟩ := chk h
      refine g0 (sIOm rfl rfl rfl c10) rfl ?_
      refine g0 (sLkm rfl v1 c10 rfl rfl rfl rfl rfl rfl) rfl ?_
      refine g0 (sM rfl [] rfl) rfl ?_
      obtain ⟨c11, h⟩ := chk h
      refine g0 (sIOm rfl rfl rfl c11) rfl ?_
      refine g0 (sLkm rfl v1 c11 rfl rfl rfl rfl rfl rfl) rfl ?_
      refine g0 (sBd rfl [[], []] (out := [.int .i64 (gt v1 1), .int .i64 (gt v1 2)]) rfl (by kernel_rfl)) rfl ?_
      refine g0 (sM rfl [] rfl) rfl ?_
      obtain ⟨c12, h⟩ := chk h
      refine g0 (sIOm rfl rfl rfl c12) rfl ?_
      refine g0 (sLkm rfl v1 c12 rfl rfl rfl rfl rfl rfl) rfl ?_
      refine g0 (sM rfl [] rfl) rfl ?_
      obtain ⟨c13, h⟩ := chk h
      refine g0 (sIOm rfl rfl rfl c13) rfl ?_
      refine g0 (sLkm rfl v1 c13 rfl rfl rfl rfl rfl rfl) rfl ?_
      refine g0 (sBd rfl [[], []] (out := [.int .i64 (gt v1 3), .int .i64 (gt v1 4)]) rfl (by kernel_rfl)) rfl ?_
      refine g0 (sM rfl [] rfl) rfl ?_
      obtain ⟨c14, h⟩ := chk h
      refine g0 (sIOm rfl rfl rfl c14) rfl ?_
      refine g0 (sLkm rfl v1 c14 rfl rfl rfl rfl rfl rfl) rfl ?_
      refine g0 (sM rfl [] rfl) rfl ?_
      obtain ⟨c15, h⟩ := chk h
      refine g0 (sIOm rfl rfl rfl c15) rfl ?_
      refine g0 (sLkm rfl v1 c15 rfl rfl rfl rfl rfl rfl) rfl ?_
      refine g0 (sBd rfl [[], [], []] (out := [.int .i64 (gt v1 3), .int .i64 (gt v1 4), .int .i64 (gt v1 5), .int .i64 (gt v1 6)]) rfl (by kernel_rfl)) rfl ?_
      refine g0 (sM rfl [] rfl) rfl ?_
      obtain ⟨c16, h⟩ := chk h
      refine g0 (sIOm rfl rfl rfl c16) rfl ?_
      refine g0 (sLkm rfl v1 c16 rfl rfl rfl rfl rfl rfl) rfl ?_
      refine g0 (sM rfl [] rfl) rfl ?_
      obtain ⟨c17, h⟩ := chk h
      refine g0 (sIOm rfl rfl rfl c17) rfl ?_
      refine g0 (sLkm rfl v1 c17 rfl rfl rfl rfl rfl rfl) rfl ?_
      refine g0 (sBd rfl [[], [], [], [], []] (out := [.int .i64 (gt v1 0), .int .i64 (gt v1 1), .int .i64 (gt v1 2), .int .i64 (gt v1 3), .int .i64 (gt v1 4), .int .i64 (gt v1 5), .int .i64 (gt v1 6), .int .i64 (gt v1 7), .int .i64 (gt v1 8), .row true 1 []]) rfl (by kernel_rfl)) rfl ?_
      refine g0 (sAl rfl rfl 102 rfl) rfl ?_
      refine g0 (sSt rfl rfl [] rfl rfl) rfl ?_
      refine ge ⟨rfl, ?_⟩
      refine W2 [0, 2, 4, 5, 10] [101, 102] [1004] (l := [(0, .c (.row _ _ _)), (2, .c (.ptr _ _ _ _)), (4, .c (.own _ _ _ _)), (5, .c (.int _ _)), (10, .c (.ptr _ _ _ _))]) (h := [(101, ⟨0, 10, [[.int _ _, .int _ _, .int _ _, .int _ _, .int _ _, .int _ _, .int _ _, .int _ _, .int _ _, .row _ _ _]]⟩), (102, ⟨0, 10, [[.int _ _, .int _ _, .int _ _, .int _ _, .int _ _, .int _ _, .int _ _, .int _ _, .int _ _, .row _ _ _]]⟩)]) (h' := [(1004, ⟨0, 1, v1.map en_i64⟩)]) ⟨⟨_, rfl, enOk_i64.allClosed _ _ v1⟩, trivial⟩ rfl rfl rfl ?_
      refine W_seq ?_
      refine W_regV he rfl ?_
      refine v0 (sBS rfl 1062 (rows := ([] : List Int).map en_u8) rfl rfl rfl (by kernel_rfl) rfl rfl rfl rfl) rfl ?_
      refine v0 (sM rfl [] rfl) rfl ?_
      refine v0 (sM rfl [] rfl) rfl ?_
      obtain ⟨c18, h⟩ := chk h
      refine v0 (sSlM rfl rfl rfl rfl rfl c18) rfl ?_
      obtain ⟨c19, h⟩ := chk h
      refine v0 (sAo rfl 1066 ([] : List Int) ((a0.drop v2.toNat).take ((a0.length : Int) - v2).toNat) enOk_u8 rfl rfl rfl rfl rfl rfl rfl rfl rfl rfl rfl c19) rfl ?_
      refine v0 (sFP rfl rfl rfl) rfl ?_
      refine vWk (wk_row (l := (([] : List Int) ++ ((a0.drop v2.toNat).take ((a0.length : Int) - v2).toNat))) 66 enOk_u8 rfl rfl) ?_
      refine v0 (sSt rfl rfl [] rfl rfl) rfl ?_
      refine ve ?_
      refine W2 [2, 4, 10] [101, 102] [1004] (l := [(2, .c (.ptr _ _ _ _)), (4, .c (.own _ _ _ _)), (10, .c (.ptr _ _ _ _))]) (h := [(101, ⟨0, 10, [[.int _ _, .int _ _, .int _ _, .int _ _, .int _ _, .int _ _, .int _ _, .int _ _, .int _ _, .row _ _ _]]⟩), (102, ⟨0, 10, [[.int _ _, .int _ _, .int _ _, .int _ _, .int _ _, .int _ _, .int _ _, .int _ _, .int _ _, .row _ _ _]]⟩)]) (h' := [(1004, ⟨0, 1, v1.map en_i64⟩)]) ⟨⟨_, rfl, enOk_i64.allClosed _ _ v1⟩, trivial⟩ rfl rfl rfl ?_
      refine W_seq ?_
      refine W_seq ?_
      refine W_regD he rfl rfl rfl ?_
      refine g0 (sFP rfl rfl rfl) rfl ?_
      refine g0 (sLd rfl rfl) rfl ?_
      refine g0 (sLm rfl rfl rfl rfl) rfl ?_
      refine g0 (sM rfl [] rfl) rfl ?_
      obtain ⟨c20, h⟩ := chk h
      refine g0 (sIOm rfl rfl rfl c20) rfl ?_
      refine g0 (sLkm rfl v1 c20 rfl rfl rfl rfl rfl rfl) rfl ?_
      refine gB (sBi rfl rfl rfl rfl) rfl rfl fun b21 hb21 => ?_
      cases b21 with
      | true =>
        replace h := brT hb21 h
        refine g0 (sM rfl [] rfl) rfl ?_
        refine qP rfl rfl rfl rfl ?_
        refine qP rfl rfl rfl rfl ?_
        refine qP rfl rfl rfl rfl ?_
        refine g0 (sPk rfl [] rfl rfl) rfl ?_
        refine ge ⟨rfl, ?_⟩
        refine W2 [2, 10, 79] [101, 102] [] (l := [(2, .c (.ptr _ _ _ _)), (10, .c (.ptr _ _ _ _)), (79, .c (.bool true))]) (h := [(101, ⟨0, 10, [[.int _ _, .int _ _, .int _ _, .int _ _, .int _ _, .int _ _, .int _ _, .int _ _, .int _ _, .row _ _ _]]⟩), (102, ⟨0, 10, [[.int _ _, .int _ _, .int _ _, .int _ _, .int _ _, .int _ _, .int _ _, .int _ _, .int _ _, .row _ _ _]]⟩)]) (h' := []) trivial rfl rfl rfl ?_
        refine W_true rfl ?_
        refine W_seq ?_
        refine W_regV he rfl ?_
        refine v0 (sBd rfl [] (out := [.int .i64 0, .int .i64 0, .int .i64 0, .int .i64 0, .int .i64 0, .int .i64 0, .int .i64 0, .int .i64 0, .int .i64 0, .row true 1 []]) rfl (by kernel_rfl)) rfl ?_
        refine v0 (sSt rfl rfl [] rfl rfl) rfl ?_
        refine v0 (sA rfl [] rfl) rfl ?_
        refine ve ?_
        refine W2 [2, 3] [101] [] (l := [(2, .c (.ptr _ _ _ _)), (3, .c (.bool false))]) (h := [(101, ⟨0, 10, [[.int _ _, .int _ _, .int _ _, .int _ _, .int _ _, .int _ _, .int _ _, .int _ _, .int _ _, .row _ _ _]]⟩)]) (h' := []) trivial rfl rfl rfl ?_
        obtain rfl := Option.some.inj h
        refine W.weak (wk_cold 101 rfl) ?_
        exact W_ret (r0 rfl rfl)
      | false =>
        replace h := brF hb21 h
        refine g0 (sM rfl [] rfl) rfl ?_
        refine q0 (sLd rfl rfl) rfl rfl rfl ?_
        obtain ⟨r22, hr22, h⟩ := bnd2 h
        refine qB (sCm (w_spec_OpOk K (T_impl_Op.mk (gt v1 0) (T_impl_Handle.mk (gt v1 1) (gt v1 2)) (T_impl_Ref.mk (T_impl_Handle.mk (gt v1 3) (gt v1 4)) (gt v1 5) (gt v1 6)) (gt v1 7) (gt v1 8) (([] : List Int) ++ ((a0.drop v2.toNat).take ((a0.length : Int) - v2).toNat))) _ hr22) ok_spec_OpOk rfl rfl rfl rfl) rfl rfl rfl rfl fun b23 hb23 => ?_
        cases b23 with
        | true =>
          replace h := brT hb23 h
          refine q0 (sNt rfl rfl) rfl rfl rfl ?_
          refine g0 (sPk rfl [] rfl rfl) rfl ?_
          refine ge ⟨rfl, ?_⟩
          refine W2 [2, 10, 79] [101, 102] [] (l := [(2, .c (.ptr _ _ _ _)), (10, .c (.ptr _ _ _ _)), (79, .c (.bool false))]) (h := [(101, ⟨0, 10, [[.int _ _, .int _ _, .int _ _, .int _ _, .int _ _, .int _ _, .int _ _, .int _ _, .int _ _, .row _ _ _]]⟩), (102, ⟨0, 10, [[.int _ _, .int _ _, .int _ _, .int _ _, .int _ _, .int _ _, .int _ _, .int _ _, .int _ _, .row _ _ _]]⟩)]) (h' := []) trivial rfl rfl rfl ?_
          refine W_false rfl ?_
          refine W_skip ?_
          refine W_seq ?_
          refine W_regV he rfl ?_
          refine v0 (sLd rfl rfl) rfl ?_
          refine v0 (sSt rfl rfl [] rfl rfl) rfl ?_
          refine v0 (sA rfl [] rfl) rfl ?_
          refine ve ?_
          refine W2 [2, 3] [101] [] (l := [(2, .c (.ptr _ _ _ _)), (3, .c (.bool true))]) (h := [(101, ⟨0, 10, [[.int _ _, .int _ _, .int _ _, .int _ _, .int _ _, .int _ _, .int _ _, .int _ _, .int _ _, .row _ _ _]]⟩)]) (h' := []) trivial rfl rfl rfl ?_
          obtain rfl := Option.some.inj h
          exact W_ret (r0 rfl rfl)
        | false =>
          replace h := brF hb23 h
          refine q0 (sNt rfl rfl) rfl rfl rfl ?_
          refine g0 (sPk rfl [] rfl rfl) rfl ?_
          refine ge ⟨rfl, ?_⟩
          refine W2 [2, 10, 79] [101, 102] [] (l := [(2, .c (.ptr _ _ _ _)), (10, .c (.ptr _ _ _ _)), (79, .c (.bool true))]) (h := [(101, ⟨0, 10, [[.int _ _, .int _ _, .int _ _, .int _ _, .int _ _, .int _ _, .int _ _, .int _ _, .int _ _, .row _ _ _]]⟩), (102, ⟨0, 10, [[.int _ _, .int _ _, .int _ _, .int _ _, .int _ _, .int _ _, .int _ _, .int _ _, .int _ _, .row _ _ _]]⟩)]) (h' := []) trivial rfl rfl rfl ?_
          refine W_true rfl ?_
          refine W_seq ?_
          refine W_regV he rfl ?_
          refine v0 (sBd rfl [] (out := [.int .i64 0, .int .i64 0, .int .i64 0, .int .i64 0, .int .i64 0, .int .i64 0, .int .i64 0, .int .i64 0, .int .i64 0, .row true 1 []]) rfl (by kernel_rfl)) rfl ?_
          refine v0 (sSt rfl rfl [] rfl rfl) rfl ?_
          refine v0 (sA rfl [] rfl) rfl ?_
          refine ve ?_
          refine W2 [2, 3] [101] [] (l := [(2, .c (.ptr _ _ _ _)), (3, .c (.bool false))]) (h := [(101, ⟨0, 10, [[.int _ _, .int _ _, .int _ _, .int _ _, .int _ _, .int _ _, .int _ _, .int _ _, .int _ _, .row _ _ _]]⟩)]) (h' := []) trivial rfl rfl rfl ?_
          obtain rfl := Option.some.inj h
          refine W.weak (wk_cold 101 rfl) ?_
          exact W_ret (r0 rfl rfl)
theorem ok_spec_GetOp : FnOk Try.prog 49 := ⟨_, Try.func49, rfl, rfl⟩


/-! ### loop.example/g00499/laws.toByteS -/
set_option maxRecDepth 20000 in
set_option maxHeartbeats 8000000 in
theorem wo_laws_toByteS (K : Nat) (a0 : List Int) (r : (List Int)) (h : m_laws_toByteS K a0 = some r) : Sp Try.prog 21 [.c (.row false 1 (a0.map en_u8))] [] (.c (.own 1 0 0 r.length)) [⟨0, 1, r.map en_u8⟩] := by
  refine Sp.of_W tabOk Try.func21 rfl rfl (Nat.le_of_ble_eq_true rfl) (Nat.le_of_ble_eq_true rfl) fun F hP hN hm => ?_
  obtain ⟨P, N, w0, σ0, β0, m⟩ := F
  obtain rfl : P = Try.prog := hP
  obtain rfl : N = 22 := hN
  obtain rfl : m = 1 := hm
  have he : Env ⟨Try.prog, 22, w0, σ0, β0, 1⟩ tab := ⟨Nat.le_of_ble_eq_true rfl, tabOk⟩
  unfold m_laws_toByteS at h
  refine W_seq ?_
  refine W_regV he rfl ?_
  refine v0 (sA rfl [1] rfl) rfl ?_
  refine ve ?_
  refine W2 [0] [] [] (l := [(0, .c (.row _ _ _))]) (h := []) (h' := []) trivial rfl rfl rfl ?_
  refine W_seq ?_
  refine W_regV he rfl ?_
  refine v0 (sM rfl [] rfl) rfl ?_
  refine v0 (sLm rfl rfl rfl rfl) rfl ?_
  obtain ⟨c1, h⟩ := chk h
  refine v0 (sMkm rfl 1003 (f := en_u8) 0 rfl rfl rfl rfl rfl rfl rfl rfl rfl c1) rfl ?_
  refine v0 (sA rfl [] rfl) rfl ?_
  refine ve ?_
  refine W2 [0, 3] [] [1003] (l := [(0, .c (.row _ _ _)), (3, .c (.own _ _ _ _))]) (h := []) (h' := [(1003, ⟨0, 1, (List.replicate (a0.length : Int).toNat 0).map en_u8⟩)]) ⟨⟨_, rfl, enOk_u8.allClosed _ _ (List.replicate (a0.length : Int).toNat 0)⟩, trivial⟩ rfl rfl rfl ?_
  refine W_seq ?_
  refine W_seq ?_
  refine W_regV he rfl ?_
  refine v0 (sA rfl [] rfl) rfl ?_
  refine ve ?_
  refine W2 [0, 3, 4] [] [1003] (l := [(0, .c (.row _ _ _)), (3, .c (.own _ _ _ _)), (4, .c (.int _ _))]) (h := []) (h' := [(1003, ⟨0, 1, (List.replicate (a0.length : Int).toNat 0).map en_u8⟩)]) ⟨⟨_, rfl, enOk_u8.allClosed _ _ (List.replicate (a0.length : Int).toNat 0)⟩, trivial⟩ rfl rfl rfl ?_
  refine W_block ?_
  refine W2 [0, 3, 4] [] [1003] (l := [(0, .c (.row _ _ _)), (3, .c (.own _ _ _ _)), (4, .c (.int _ _))]) (h := []) (h' := [(1003, ⟨0, 1, (List.replicate (a0.length : Int).toNat 0).map en_u8⟩)]) ⟨⟨_, rfl, enOk_u8.allClosed _ _ (List.replicate (a0.length : Int).toNat 0)⟩, trivial⟩ rfl rfl rfl ?_
  refine W_loopW (fun n4 S => ∃ (v2 : Int), ∃ (v3 : List Int), S = StL [(0, .c (.row false 1 (a0.map en_u8))), (3, .c (.own 1003 0 0 v3.length)), (4, .c (.int .i64 v2))] ([] ++ [(1003, ⟨0, 1, v3.map en_u8⟩)]) ∧ l_laws_toByteS_4 K a0 n4 v2 v3 = some r) K ⟨_, _, rfl, h⟩ ?_
  rintro n4 S ⟨v2, v3, rfl, h⟩
  cases n4 with
  | zero => simp [l_laws_toByteS_4] at h
  | succ n4 =>
    rw [l_laws_toByteS_4] at h
    refine W_seq ?_
    refine W_seq ?_
    refine W_regV he rfl ?_
    refine v0 (sM rfl [] rfl) rfl ?_
    refine v0 (sM rfl [] rfl) rfl ?_
    refine v0 (sLm rfl rfl rfl rfl) rfl ?_
    refine vB (sBi rfl rfl rfl rfl) rfl rfl fun b5 hb5 => ?_
    cases b5 with
    | true =>
      replace h := brT hb5 h
      refine ve ?_
      refine W2 [0, 3, 4, 11] [] [1003] (l := [(0, .c (.row _ _ _)), (3, .c (.own _ _ _ _)), (4, .c (.int _ _)), (11, .c (.bool true))]) (h := []) (h' := [(1003, ⟨0, 1, v3.map en_u8⟩)]) ⟨⟨_, rfl, enOk_u8.allClosed _ _ v3⟩, trivial⟩ rfl rfl rfl ?_
      refine W_true rfl ?_
      refine W_skip ?_
      refine W_seq ?_
      refine W_block ?_
      refine W_regV he rfl ?_
      refine v0 (sM rfl [] rfl) rfl ?_
      refine v0 (sM rfl [] rfl) rfl ?_
      refine v0 (sM rfl [] rfl) rfl ?_
      refine v0 (sM rfl [] rfl) rfl ?_
      obtain ⟨c6, h⟩ := chk h
      refine v0 (sIRm rfl rfl rfl rfl c6) rfl ?_
      refine v0 (sLI rfl rfl (en_u8 (gt a0 v2)) (gt_at _ c6) rfl rfl rfl) rfl ?_
      obtain ⟨c7, h⟩ := chk h
      refine v0 (sIOm rfl rfl rfl c7) rfl ?_
      refine v0 (sSkm rfl rfl [] v3 (gt a0 v2) c7 rfl rfl rfl rfl rfl rfl rfl rfl rfl) rfl ?_
      refine ve ?_
      refine W.weak (wk_len 3 (n' := (v3.set v2.toNat (gt a0 v2)).length) (by simp only [List.length_set]) rfl) ?_
      refine W2 [0, 3, 4] [] [1003] (l := [(0, .c (.row _ _ _)), (3, .c (.own _ _ _ _)), (4, .c (.int _ _))]) (h := []) (h' := [(1003, ⟨0, 1, (v3.set v2.toNat (gt a0 v2)).map en_u8⟩)]) ⟨⟨_, rfl, enOk_u8.allClosed _ _ (v3.set v2.toNat (gt a0 v2))⟩, trivial⟩ rfl rfl rfl ?_
      refine W_regV he rfl ?_
      refine v0 (sM rfl [] rfl) rfl ?_
      refine v0 (sBi rfl rfl rfl rfl) rfl ?_
      refine v0 (sA rfl [] rfl) rfl ?_
      refine ve ?_
      exact ⟨n4, _, Nat.lt_succ_self n4, wk2 [0, 3, 4] [] [1003] (l := [(0, .c (.row _ _ _)), (3, .c (.own _ _ _ _)), (4, .c (.int _ _))]) (h := []) (h' := [(1003, ⟨0, 1, (v3.set v2.toNat (gt a0 v2)).map en_u8⟩)]) ⟨⟨_, rfl, enOk_u8.allClosed _ _ (v3.set v2.toNat (gt a0 v2))⟩, trivial⟩ rfl rfl rfl, _, _, rfl, h⟩
    | false =>
      replace h := brF hb5 h
      refine ve ?_
      refine W2 [0, 3, 4, 11] [] [1003] (l := [(0, .c (.row _ _ _)), (3, .c (.own _ _ _ _)), (4, .c (.int _ _)), (11, .c (.bool false))]) (h := []) (h' := [(1003, ⟨0, 1, v3.map en_u8⟩)]) ⟨⟨_, rfl, enOk_u8.allClosed _ _ v3⟩, trivial⟩ rfl rfl rfl ?_
      refine W_false rfl ?_
      refine W_exit (ex_then (ex_then (ex_hit ?_)))
      refine W_seq ?_
      refine W_regV he rfl ?_
      refine v0 (sM rfl [] rfl) rfl ?_
      refine v0 (sA rfl [] rfl) rfl ?_
      refine ve ?_
      refine W2 [2] [] [1003] (l := [(2, .c (.own _ _ _ _))]) (h := []) (h' := [(1003, ⟨0, 1, v3.map en_u8⟩)]) ⟨⟨_, rfl, enOk_u8.allClosed _ _ v3⟩, trivial⟩ rfl rfl rfl ?_
      obtain rfl := Option.some.inj h
      exact W_ret (retOne 0 1003 (.inl rfl) enOk_u8 rfl rfl rfl)


/-! ### loop.example/g00499/impl.within -/
def m_impl_within (K : Nat) (a0 : Int) (a1 : Int) (a2 : Int) : Option (Bool) := (bif (decide (a0 ≥ a1)) then some (decide (a0 ≤ a2)) else some false)
set_option maxRecDepth 20000 in
set_option maxHeartbeats 8000000 in
theorem w_impl_within (K : Nat) (a0 : Int) (a1 : Int) (a2 : Int) (r : Bool) (h : m_impl_within K a0 a1 a2 = some r) : Sp Try.prog 57 [.c (.int .i64 a0), .c (.int .i64 a1), .c (.int .i64 a2)] [] (.c (.bool r)) [] := by
  refine Sp.of_W tabOk Try.func57 rfl rfl (Nat.le_of_ble_eq_true rfl) (Nat.le_of_ble_eq_true rfl) fun F hP hN hm => ?_
  obtain ⟨P, N, w0, σ0, β0, m⟩ := F
  obtain rfl : P = Try.prog := hP
  obtain rfl : N = 15 := hN
  obtain rfl : m = 1 := hm
  have he : Env ⟨Try.prog, 15, w0, σ0, β0, 1⟩ tab := ⟨Nat.le_of_ble_eq_true rfl, tabOk⟩
  unfold m_impl_within at h
  refine W_seq ?_
  refine W_regV he rfl ?_
  refine v0 (sA rfl [] rfl) rfl ?_
  refine ve ?_
  refine W2 [0, 1, 2] [] [] (l := [(0, .c (.int _ _)), (1, .c (.int _ _)), (2, .c (.int _ _))]) (h := []) (h' := []) trivial rfl rfl rfl ?_
  refine W_seq ?_
  refine W_regV he rfl ?_
  refine v0 (sM rfl [] rfl) rfl ?_
  refine v0 (sM rfl [] rfl) rfl ?_
  refine vB (sBi rfl rfl rfl rfl) rfl rfl fun b1 hb1 => ?_
  cases b1 with
  | true =>
    replace h := brT hb1 h
    refine v0 (sM rfl [] rfl) rfl ?_
    refine u0 (sM rfl [] rfl) rfl rfl rfl ?_
    refine u0 (sM rfl [] rfl) rfl rfl rfl ?_
    refine u0 (sBi rfl rfl rfl rfl) rfl rfl rfl ?_
    refine v0 (sPk rfl [] rfl rfl) rfl ?_
    refine v0 (sA rfl [] rfl) rfl ?_
    refine ve ?_
    refine W2 [6] [] [] (l := [(6, .c (.bool _))]) (h := []) (h' := []) trivial rfl rfl rfl ?_
    obtain rfl := Option.some.inj h
    exact W_ret (r0 rfl rfl)
  | false =>
    replace h := brF hb1 h
    refine v0 (sM rfl [] rfl) rfl ?_
    refine uP rfl rfl rfl rfl ?_
    refine uP rfl rfl rfl rfl ?_
    refine uP rfl rfl rfl rfl ?_
    refine v0 (sPk rfl [] rfl rfl) rfl ?_
    refine v0 (sA rfl [] rfl) rfl ?_
    refine ve ?_
    refine W2 [6] [] [] (l := [(6, .c (.bool false))]) (h := []) (h' := []) trivial rfl rfl rfl ?_
    obtain rfl := Option.some.inj h
    exact W_ret (r0 rfl rfl)
theorem ok_impl_within : FnOk Try.prog 57 := ⟨_, Try.func57, rfl, rfl⟩


/-! ### loop.example/g00499/impl.GetVar -/
def j_impl_GetVar_10 (K : Nat) (a0 : List Int) (a1 : Int) (v3 : Int) (v4 : Int) : Option (Int × Int × Bool) := some ((iOr .i64 v3 (iShl .i64 (IntKind.i64.wrap (iAnd .u8 (gt a0 (iAdd .i64 a1 v4)) 127)) (IntKind.u64.wrap (iMul .i64 7 v4)))), (iAdd .i64 (iAdd .i64 a1 v4) 1), true)
def l_impl_GetVar_5 (K : Nat) (a0 : List Int) (a1 : Int) : Nat → Int → Int → Option (Int × Int × Bool)
  | 0, _, _ => none
  | n5 + 1, v3, v4 => (bif (decide (v4 < (iMin 5 (iSub .i64 (a0.length : Int) a1)))) then (if (0 : Int) ≤ (iAdd .i64 a1 v4) ∧ (iAdd .i64 a1 v4) < (a0.length : Int) then (if (0 : Int) ≤ (IntKind.u64.wrap (iMul .i64 7 v4)) then (bif (decide ((gt a0 (iAdd .i64 a1 v4)) < 128)) then (bif (decide (v4 > 0)) then (bif ((gt a0 (iAdd .i64 a1 v4)) == 0) then some (0, 0, false) else (bif (decide ((iOr .i64 v3 (iShl .i64 (IntKind.i64.wrap (iAnd .u8 (gt a0 (iAdd .i64 a1 v4)) 127)) (IntKind.u64.wrap (iMul .i64 7 v4)))) > 1000000000)) then some (0, 0, false) else j_impl_GetVar_10 K a0 a1 v3 v4 )) else (bif (decide ((iOr .i64 v3 (iShl .i64 (IntKind.i64.wrap (iAnd .u8 (gt a0 (iAdd .i64 a1 v4)) 127)) (IntKind.u64.wrap (iMul .i64 7 v4)))) > 1000000000)) then some (0, 0, false) else j_impl_GetVar_10 K a0 a1 v3 v4 )) else (l_impl_GetVar_5 K a0 a1 n5 (iOr .i64 v3 (iShl .i64 (IntKind.i64.wrap (iAnd .u8 (gt a0 (iAdd .i64 a1 v4)) 127)) (IntKind.u64.wrap (iMul .i64 7 v4)))) (iAdd .i64 v4 1))) else none) else none) else some (0, 0, false))
def m_impl_GetVar (K : Nat) (a0 : List Int) (a1 : Int) : Option (Int × Int × Bool) := ((m_impl_within K a1 0 (iSub .i64 (a0.length : Int) 1)).bind fun r1 => (bif r1 then (l_impl_GetVar_5 K a0 a1 K 0 0) else some (0, 0, false)))
set_option maxRecDepth 20000 in
set_option maxHeartbeats 8000000 in
theorem w_impl_GetVar (K : Nat) (a0 : List Int) (a1 : Int) (r : Int × Int × Bool) (h : m_impl_GetVar K a0 a1 = some r) : Sp Try.prog 22 [.c (.row false 1 (a0.map en_u8)), .c (.int .i64 a1)] [] (.t [.c (.int .i64 r.1), .c (.int .i64 r.2.1), .c (.bool r.2.2)]) [] := by
  refine Sp.of_W tabOk Try.func22 rfl rfl (Nat.le_of_ble_eq_true rfl) (Nat.le_of_ble_eq_true rfl) fun F hP hN hm => ?_
  obtain ⟨P, N, w0, σ0, β0, m⟩ := F
  obtain rfl : P = Try.prog := hP
  obtain rfl : N = 57 := hN
  obtain rfl : m = 1 := hm
  have he : Env ⟨Try.prog, 57, w0, σ0, β0, 1⟩ tab := ⟨Nat.le_of_ble_eq_true rfl, tabOk⟩
  unfold m_impl_GetVar at h
  refine W_seq ?_
  refine W_regV he rfl ?_
  refine v0 (sA rfl [] rfl) rfl ?_
  refine v0 (sA rfl [] rfl) rfl ?_
  refine v0 (sA rfl [] rfl) rfl ?_
  refine ve ?_
  refine W2 [0, 1] [] [] (l := [(0, .c (.row _ _ _)), (1, .c (.int _ _))]) (h := []) (h' := []) trivial rfl rfl rfl ?_
  refine W_seq ?_
  refine W_seq ?_
  refine W_regV he rfl ?_
  refine v0 (sM rfl [] rfl) rfl ?_
  refine v0 (sM rfl [] rfl) rfl ?_
  refine v0 (sLm rfl rfl rfl rfl) rfl ?_
  refine v0 (sBi rfl rfl rfl rfl) rfl ?_
  obtain ⟨r1, hr1, h⟩ := bnd2 h
  refine vB (sCm (w_impl_within K a1 0 (iSub .i64 (a0.length : Int) 1) _ hr1) ok_impl_within rfl rfl rfl rfl) rfl rfl fun b2 hb2 => ?_
  cases b2 with
  | true =>
    replace h := brT hb2 h
    refine v0 (sNt rfl rfl) rfl ?_
    refine ve ?_
    refine W2 [0, 1, 15] [] [] (l := [(0, .c (.row _ _ _)), (1, .c (.int _ _)), (15, .c (.bool false))]) (h := []) (h' := []) trivial rfl rfl rfl ?_
    refine W_false rfl ?_
    refine W_skip ?_
    refine W_seq ?_
    refine W_regV he rfl ?_
    refine v0 (sA rfl [] rfl) rfl ?_
    refine ve ?_
    refine W2 [0, 1, 7] [] [] (l := [(0, .c (.row _ _ _)), (1, .c (.int _ _)), (7, .c (.int _ _))]) (h := []) (h' := []) trivial rfl rfl rfl ?_
    refine W_seq ?_
    refine W_seq ?_
    refine W_regV he rfl ?_
    refine v0 (sM rfl [] rfl) rfl ?_
    refine v0 (sLm rfl rfl rfl rfl) rfl ?_
    refine v0 (sM rfl [] rfl) rfl ?_
    refine v0 (sBi rfl rfl rfl rfl) rfl ?_
    refine v0 (sMn rfl rfl rfl) rfl ?_
    refine v0 (sM rfl [] rfl) rfl ?_
    refine ve ?_
    refine W2 [0, 1, 7, 20, 21] [] [] (l := [(0, .c (.row _ _ _)), (1, .c (.int _ _)), (7, .c (.int _ _)), (20, .c (.int _ _)), (21, .c (.int _ _))]) (h := []) (h' := []) trivial rfl rfl rfl ?_
    refine W_block ?_
    refine W2 [0, 1, 7, 20, 21] [] [] (l := [(0, .c (.row _ _ _)), (1, .c (.int _ _)), (7, .c (.int _ _)), (20, .c (.int _ _)), (21, .c (.int _ _))]) (h := []) (h' := []) trivial rfl rfl rfl ?_
    refine W_loopW (fun n5 S => ∃ (v3 : Int), ∃ (v4 : Int), S = StL [(0, .c (.row false 1 (a0.map en_u8))), (1, .c (.int .i64 a1)), (7, .c (.int .i64 v3)), (20, .c (.int .i64 (iMin 5 (iSub .i64 (a0.length : Int) a1)))), (21, .c (.int .i64 v4))] ([] ++ []) ∧ l_impl_GetVar_5 K a0 a1 n5 v3 v4 = some r) K ⟨_, _, rfl, h⟩ ?_
    rintro n5 S ⟨v3, v4, rfl, h⟩
    cases n5 with
    | zero => simp [l_impl_GetVar_5] at h
    | succ n5 =>
      rw [l_impl_GetVar_5] at h
      refine W_seq ?_
      refine W_regV he rfl ?_
      refine vB (sBi rfl rfl rfl rfl) rfl rfl fun b6 hb6 => ?_
      cases b6 with
      | true =>
        replace h := brT hb6 h
        refine ve ?_
        refine W2 [0, 1, 7, 20, 21, 22] [] [] (l := [(0, .c (.row _ _ _)), (1, .c (.int _ _)), (7, .c (.int _ _)), (20, .c (.int _ _)), (21, .c (.int _ _)), (22, .c (.bool true))]) (h := []) (h' := []) trivial rfl rfl rfl ?_
        refine W_seq ?_
        refine W_true rfl ?_
        refine W_skip ?_
        refine W_seq ?_
        refine W_block ?_
        refine W_seq ?_
        refine W_regV he rfl ?_
        refine v0 (sM rfl [] rfl) rfl ?_
        refine v0 (sA rfl [] rfl) rfl ?_
        refine ve ?_
        refine W2 [0, 1, 7, 8, 20, 21] [] [] (l := [(0, .c (.row _ _ _)), (1, .c (.int _ _)), (7, .c (.int _ _)), (8, .c (.int _ _)), (20, .c (.int _ _)), (21, .c (.int _ _))]) (h := []) (h' := []) trivial rfl rfl rfl ?_
        refine W_seq ?_
        refine W_regV he rfl ?_
        refine v0 (sM rfl [] rfl) rfl ?_
        refine v0 (sM rfl [] rfl) rfl ?_
        refine v0 (sM rfl [] rfl) rfl ?_
        refine v0 (sBi rfl rfl rfl rfl) rfl ?_
        obtain ⟨c7, h⟩ := chk h
        refine v0 (sIRm rfl rfl rfl rfl c7) rfl ?_
        refine v0 (sLI rfl rfl (en_u8 (gt a0 (iAdd .i64 a1 v4))) (gt_at _ c7) rfl rfl rfl) rfl ?_
        refine v0 (sA rfl [] rfl) rfl ?_
        refine ve ?_
        refine W2 [0, 1, 7, 8, 9, 20, 21] [] [] (l := [(0, .c (.row _ _ _)), (1, .c (.int _ _)), (7, .c (.int _ _)), (8, .c (.int _ _)), (9, .c (.int _ _)), (20, .c (.int _ _)), (21, .c (.int _ _))]) (h := []) (h' := []) trivial rfl rfl rfl ?_
        refine W_seq ?_
        refine W_regV he rfl ?_
        refine v0 (sM rfl [] rfl) rfl ?_
        refine v0 (sM rfl [] rfl) rfl ?_
        refine v0 (sBi rfl rfl rfl rfl) rfl ?_
        refine v0 (sCv rfl rfl rfl rfl rfl rfl) rfl ?_
        refine v0 (sM rfl [] rfl) rfl ?_
        refine v0 (sBi rfl rfl rfl rfl) rfl ?_
        refine v0 (sCv rfl rfl rfl rfl rfl rfl) rfl ?_
        obtain ⟨c8, h⟩ := chk h
        refine v0 (sSh rfl rfl rfl c8) rfl ?_
        refine v0 (sBi rfl rfl rfl rfl) rfl ?_
        refine v0 (sA rfl [] rfl) rfl ?_
        refine ve ?_
        refine W2 [0, 1, 7, 8, 9, 20, 21] [] [] (l := [(0, .c (.row _ _ _)), (1, .c (.int _ _)), (7, .c (.int _ _)), (8, .c (.int _ _)), (9, .c (.int _ _)), (20, .c (.int _ _)), (21, .c (.int _ _))]) (h := []) (h' := []) trivial rfl rfl rfl ?_
        refine W_seq ?_
        refine W_regV he rfl ?_
        refine v0 (sM rfl [] rfl) rfl ?_
        refine vB (sBi rfl rfl rfl rfl) rfl rfl fun b9 hb9 => ?_
        cases b9 with
        | true =>
          replace h := brT hb9 h
          refine ve ?_
          refine W2 [0, 1, 7, 8, 9, 20, 21, 40] [] [] (l := [(0, .c (.row _ _ _)), (1, .c (.int _ _)), (7, .c (.int _ _)), (8, .c (.int _ _)), (9, .c (.int _ _)), (20, .c (.int _ _)), (21, .c (.int _ _)), (40, .c (.bool true))]) (h := []) (h' := []) trivial rfl rfl rfl ?_
          refine W_true rfl ?_
          refine W_join (fun S => S = StL [(1, .c (.int .i64 a1)), (7, .c (.int .i64 (iOr .i64 v3 (iShl .i64 (IntKind.i64.wrap (iAnd .u8 (gt a0 (iAdd .i64 a1 v4)) 127)) (IntKind.u64.wrap (iMul .i64 7 v4)))))), (8, .c (.int .i64 v4))] ([] ++ []) ∧ j_impl_GetVar_10 K a0 a1 v3 v4  = some r) ?_ ?_
          · rintro S ⟨rfl, h⟩
            unfold j_impl_GetVar_10 at h
            refine W_seq ?_
            refine W_regV he rfl ?_
            refine v0 (sM rfl [] rfl) rfl ?_
            refine v0 (sM rfl [] rfl) rfl ?_
            refine v0 (sM rfl [] rfl) rfl ?_
            refine v0 (sBi rfl rfl rfl rfl) rfl ?_
            refine v0 (sBi rfl rfl rfl rfl) rfl ?_
            refine v0 (sA rfl [] rfl) rfl ?_
            refine v0 (sA rfl [] rfl) rfl ?_
            refine v0 (sA rfl [] rfl) rfl ?_
            refine ve ?_
            refine W2 [4, 5, 6] [] [] (l := [(4, .c (.int _ _)), (5, .c (.int _ _)), (6, .c (.bool true))]) (h := []) (h' := []) trivial rfl rfl rfl ?_
            obtain rfl := Option.some.inj h
            exact W_ret (r0 rfl rfl)
          ·
            refine W_seq ?_
            refine W_regV he rfl ?_
            refine v0 (sM rfl [] rfl) rfl ?_
            refine vB (sBi rfl rfl rfl rfl) rfl rfl fun b111 hb111 => ?_
            cases b111 with
            | true =>
              replace h := brT hb111 h
              refine v0 (sM rfl [] rfl) rfl ?_
              refine u0 (sM rfl [] rfl) rfl rfl rfl ?_
              refine uB (sBi rfl rfl rfl rfl) rfl rfl rfl rfl fun b112 hb112 => ?_
              cases b112 with
              | true =>
                replace h := brT hb112 h
                refine v0 (sPk rfl [] rfl rfl) rfl ?_
                refine v0 (sM rfl [] rfl) rfl ?_
                refine uP rfl rfl rfl rfl ?_
                refine uP rfl rfl rfl rfl ?_
                refine v0 (sPk rfl [] rfl rfl) rfl ?_
                refine ve ?_
                refine W2 [1, 7, 8, 50] [] [] (l := [(1, .c (.int _ _)), (7, .c (.int _ _)), (8, .c (.int _ _)), (50, .c (.bool true))]) (h := []) (h' := []) trivial rfl rfl rfl ?_
                refine W_true rfl ?_
                refine W_exit (ex_then (ex_miss rfl (ex_then (ex_then (ex_hit ?_)))))
                refine W_seq ?_
                refine W_regV he rfl ?_
                refine v0 (sA rfl [] rfl) rfl ?_
                refine v0 (sA rfl [] rfl) rfl ?_
                refine v0 (sA rfl [] rfl) rfl ?_
                refine ve ?_
                refine W2 [4, 5, 6] [] [] (l := [(4, .c (.int _ _)), (5, .c (.int _ _)), (6, .c (.bool false))]) (h := []) (h' := []) trivial rfl rfl rfl ?_
                obtain rfl := Option.some.inj h
                exact W_ret (r0 rfl rfl)
              | false =>
                replace h := brF hb112 h
                refine v0 (sPk rfl [] rfl rfl) rfl ?_
                refine v0 (sM rfl [] rfl) rfl ?_
                refine u0 (sM rfl [] rfl) rfl rfl rfl ?_
                refine uB (sBi rfl rfl rfl rfl) rfl rfl rfl rfl fun b113 hb113 => ?_
                cases b113 with
                | true =>
                  replace h := brT hb113 h
                  refine v0 (sPk rfl [] rfl rfl) rfl ?_
                  refine ve ?_
                  refine W2 [1, 7, 8, 50] [] [] (l := [(1, .c (.int _ _)), (7, .c (.int _ _)), (8, .c (.int _ _)), (50, .c (.bool true))]) (h := []) (h' := []) trivial rfl rfl rfl ?_
                  refine W_true rfl ?_
                  refine W_exit (ex_then (ex_miss rfl (ex_then (ex_then (ex_hit ?_)))))
                  refine W_seq ?_
                  refine W_regV he rfl ?_
                  refine v0 (sA rfl [] rfl) rfl ?_
                  refine v0 (sA rfl [] rfl) rfl ?_
                  refine v0 (sA rfl [] rfl) rfl ?_
                  refine ve ?_
                  refine W2 [4, 5, 6] [] [] (l := [(4, .c (.int _ _)), (5, .c (.int _ _)), (6, .c (.bool false))]) (h := []) (h' := []) trivial rfl rfl rfl ?_
                  obtain rfl := Option.some.inj h
                  exact W_ret (r0 rfl rfl)
                | false =>
                  replace h := brF hb113 h
                  refine v0 (sPk rfl [] rfl rfl) rfl ?_
                  refine ve ?_
                  refine W2 [1, 7, 8, 50] [] [] (l := [(1, .c (.int _ _)), (7, .c (.int _ _)), (8, .c (.int _ _)), (50, .c (.bool false))]) (h := []) (h' := []) trivial rfl rfl rfl ?_
                  refine W_false rfl ?_
                  refine W_skip ?_
                  exact ⟨_, wk2 [1, 7, 8] [] [] (l := [(1, .c (.int _ _)), (7, .c (.int _ _)), (8, .c (.int _ _))]) (h := []) (h' := []) trivial rfl rfl rfl, rfl, h⟩
            | false =>
              replace h := brF hb111 h
              refine v0 (sM rfl [] rfl) rfl ?_
              refine uP rfl rfl rfl rfl ?_
              refine uP rfl rfl rfl rfl ?_
              refine v0 (sPk rfl [] rfl rfl) rfl ?_
              refine v0 (sM rfl [] rfl) rfl ?_
              refine u0 (sM rfl [] rfl) rfl rfl rfl ?_
              refine uB (sBi rfl rfl rfl rfl) rfl rfl rfl rfl fun b114 hb114 => ?_
              cases b114 with
              | true =>
                replace h := brT hb114 h
                refine v0 (sPk rfl [] rfl rfl) rfl ?_
                refine ve ?_
                refine W2 [1, 7, 8, 50] [] [] (l := [(1, .c (.int _ _)), (7, .c (.int _ _)), (8, .c (.int _ _)), (50, .c (.bool true))]) (h := []) (h' := []) trivial rfl rfl rfl ?_
                refine W_true rfl ?_
                refine W_exit (ex_then (ex_miss rfl (ex_then (ex_then (ex_hit ?_)))))
                refine W_seq ?_
                refine W_regV he rfl ?_
                refine v0 (sA rfl [] rfl) rfl ?_
                refine v0 (sA rfl [] rfl) rfl ?_
                refine v0 (sA rfl [] rfl) rfl ?_
                refine ve ?_
                refine W2 [4, 5, 6] [] [] (l := [(4, .c (.int _ _)), (5, .c (.int _ _)), (6, .c (.bool false))]) (h := []) (h' := []) trivial rfl rfl rfl ?_
                obtain rfl := Option.some.inj h
                exact W_ret (r0 rfl rfl)
              | false =>
                replace h := brF hb114 h
                refine v0 (sPk rfl [] rfl rfl) rfl ?_
                refine ve ?_
                refine W2 [1, 7, 8, 50] [] [] (l := [(1, .c (.int _ _)), (7, .c (.int _ _)), (8, .c (.int _ _)), (50, .c (.bool false))]) (h := []) (h' := []) trivial rfl rfl rfl ?_
                refine W_false rfl ?_
                refine W_skip ?_
                exact ⟨_, wk2 [1, 7, 8] [] [] (l := [(1, .c (.int _ _)), (7, .c (.int _ _)), (8, .c (.int _ _))]) (h := []) (h' := []) trivial rfl rfl rfl, rfl, h⟩
        | false =>
          replace h := brF hb9 h
          refine ve ?_
          refine W2 [0, 1, 7, 8, 9, 20, 21, 40] [] [] (l := [(0, .c (.row _ _ _)), (1, .c (.int _ _)), (7, .c (.int _ _)), (8, .c (.int _ _)), (9, .c (.int _ _)), (20, .c (.int _ _)), (21, .c (.int _ _)), (40, .c (.bool false))]) (h := []) (h' := []) trivial rfl rfl rfl ?_
          refine W_false rfl ?_
          refine W_skip ?_
          refine W_regV he rfl ?_
          refine v0 (sBi rfl rfl rfl rfl) rfl ?_
          refine v0 (sM rfl [] rfl) rfl ?_
          refine ve ?_
          exact ⟨n5, _, Nat.lt_succ_self n5, wk2 [0, 1, 7, 20, 21] [] [] (l := [(0, .c (.row _ _ _)), (1, .c (.int _ _)), (7, .c (.int _ _)), (20, .c (.int _ _)), (21, .c (.int _ _))]) (h := []) (h' := []) trivial rfl rfl rfl, _, _, rfl, h⟩
      | false =>
        replace h := brF hb6 h
        refine ve ?_
        refine W2 [0, 1, 7, 20, 21, 22] [] [] (l := [(0, .c (.row _ _ _)), (1, .c (.int _ _)), (7, .c (.int _ _)), (20, .c (.int _ _)), (21, .c (.int _ _)), (22, .c (.bool false))]) (h := []) (h' := []) trivial rfl rfl rfl ?_
        refine W_seq ?_
        refine W_false rfl ?_
        refine W_exit (ex_then (ex_then (ex_hit ?_)))
        refine W_seq ?_
        refine W_regV he rfl ?_
        refine v0 (sA rfl [] rfl) rfl ?_
        refine v0 (sA rfl [] rfl) rfl ?_
        refine v0 (sA rfl [] rfl) rfl ?_
        refine ve ?_
        refine W2 [4, 5, 6] [] [] (l := [(4, .c (.int _ _)), (5, .c (.int _ _)), (6, .c (.bool false))]) (h := []) (h' := []) trivial rfl rfl rfl ?_
        obtain rfl := Option.some.inj h
        exact W_ret (r0 rfl rfl)
  | false =>
    replace h := brF hb2 h
    refine v0 (sNt rfl rfl) rfl ?_
    refine ve ?_
    refine W2 [0, 1, 15] [] [] (l := [(0, .c (.row _ _ _)), (1, .c (.int _ _)), (15, .c (.bool true))]) (h := []) (h' := []) trivial rfl rfl rfl ?_
    refine W_true rfl ?_
    refine W_seq ?_
    refine W_regV he rfl ?_
    refine v0 (sA rfl [] rfl) rfl ?_
    refine v0 (sA rfl [] rfl) rfl ?_
    refine v0 (sA rfl [] rfl) rfl ?_
    refine ve ?_
    refine W2 [4, 5, 6] [] [] (l := [(4, .c (.int _ _)), (5, .c (.int _ _)), (6, .c (.bool false))]) (h := []) (h' := []) trivial rfl rfl rfl ?_
    obtain rfl := Option.some.inj h
    exact W_ret (r0 rfl rfl)
theorem ok_impl_GetVar : FnOk Try.prog 22 := ⟨_, Try.func22, rfl, rfl⟩


/-! ### slices.Clone[[]byte,byte] -/
def m_slices_Clone_byte_byte (K : Nat) (a0 : List Int) : Option ((List Int)) := (if (([] : List Int) ++ a0).length * 1 ≤ 140737488355328 ∧ (([] : List Int) ++ a0).length ≤ maxLen then some (([] : List Int) ++ a0) else none)
set_option maxRecDepth 20000 in
set_option maxHeartbeats 8000000 in
theorem w_slices_Clone_byte_byte (K : Nat) (a0 : List Int) (r : (List Int)) (h : m_slices_Clone_byte_byte K a0 = some r) : Sp Try.prog 58 [.c (.row false 1 (a0.map en_u8))] [] (.c (.row false 1 (r.map en_u8))) [] := by
  refine Sp.of_W tabOk Try.func58 rfl rfl (Nat.le_of_ble_eq_true rfl) (Nat.le_of_ble_eq_true rfl) fun F hP hN hm => ?_
  obtain ⟨P, N, w0, σ0, β0, m⟩ := F
  obtain rfl : P = Try.prog := hP
  obtain rfl : N = 8 := hN
  obtain rfl : m = 1 := hm
  have he : Env ⟨Try.prog, 8, w0, σ0, β0, 1⟩ tab := ⟨Nat.le_of_ble_eq_true rfl, tabOk⟩
  unfold m_slices_Clone_byte_byte at h
  refine W_seq ?_
  refine W_regV he rfl ?_
  refine v0 (sA rfl [1] rfl) rfl ?_
  refine ve ?_
  refine W2 [0] [] [] (l := [(0, .c (.row _ _ _))]) (h := []) (h' := []) trivial rfl rfl rfl ?_
  refine W_seq ?_
  refine W_seq ?_
  refine W_regV he rfl ?_
  refine v0 (sM rfl [] rfl) rfl ?_
  refine vN rfl rfl rfl rfl rfl fun b1 hb1 => ?_
  cases b1 with
  | false =>
    refine ve ?_
    refine W2 [0, 4] [] [] (l := [(0, .c (.row _ _ _)), (4, .c (.bool false))]) (h := []) (h' := []) trivial rfl rfl rfl ?_
    refine W_false rfl ?_
    refine W_skip ?_
    refine W_seq ?_
    refine W_regV he rfl ?_
    refine v0 (sBS rfl 1005 (rows := ([] : List Int).map en_u8) rfl rfl rfl (by kernel_rfl) rfl rfl rfl rfl) rfl ?_
    refine v0 (sM rfl [] rfl) rfl ?_
    obtain ⟨c2, h⟩ := chk h
    refine v0 (sAo rfl 1002 ([] : List Int) a0 enOk_u8 rfl rfl rfl rfl rfl rfl rfl rfl rfl rfl rfl c2) rfl ?_
    refine v0 (sA rfl [] rfl) rfl ?_
    refine ve ?_
    refine W2 [2] [] [1002] (l := [(2, .c (.own _ _ _ _))]) (h := []) (h' := [(1002, ⟨0, 1, (([] : List Int) ++ a0).map en_u8⟩)]) ⟨⟨_, rfl, enOk_u8.allClosed _ _ (([] : List Int) ++ a0)⟩, trivial⟩ rfl rfl rfl ?_
    obtain rfl := Option.some.inj h
    refine W.weak (wk_row (l := (([] : List Int) ++ a0)) 2 enOk_u8 rfl rfl) ?_
    exact W_ret (r0 rfl rfl)
  | true =>
    have hzb1 : a0 = [] := List.map_eq_nil_iff.1 (hb1 rfl)
    replace h : some [] = some r := by simpa [hzb1] using h
    refine ve ?_
    refine W2 [0, 4] [] [] (l := [(0, .c (.row _ _ _)), (4, .c (.bool true))]) (h := []) (h' := []) trivial rfl rfl rfl ?_
    refine W_true rfl ?_
    refine W_seq ?_
    refine W_regV he rfl ?_
    refine v0 (sA rfl [1] rfl) rfl ?_
    refine ve ?_
    refine W2 [2] [] [] (l := [(2, .c (.row _ _ _))]) (h := []) (h' := []) trivial rfl rfl rfl ?_
    obtain rfl := Option.some.inj h
    exact W_ret (r0 rfl rfl)
theorem ok_slices_Clone_byte_byte : FnOk Try.prog 58 := ⟨_, Try.func58, rfl, rfl⟩


/-! ### loop.example/g00499/impl.isNum -/
def m_impl_isNum (K : Nat) (a0 : Int) : Option (Bool) := ((m_impl_within K a0 0 1000000000).bind fun r1 => some r1)
set_option maxRecDepth 20000 in
set_option maxHeartbeats 8000000 in
theorem w_impl_isNum (K : Nat) (a0 : Int) (r : Bool) (h : m_impl_isNum K a0 = some r) : Sp Try.prog 65 [.c (.int .i64 a0)] [] (.c (.bool r)) [] := by
  refine Sp.of_W tabOk Try.func65 rfl rfl (Nat.le_of_ble_eq_true rfl) (Nat.le_of_ble_eq_true rfl) fun F hP hN hm => ?_
  obtain ⟨P, N, w0, σ0, β0, m⟩ := F
  obtain rfl : P = Try.prog := hP
  obtain rfl : N = 5 := hN
  obtain rfl : m = 1 := hm
  have he : Env ⟨Try.prog, 5, w0, σ0, β0, 1⟩ tab := ⟨Nat.le_of_ble_eq_true rfl, tabOk⟩
  unfold m_impl_isNum at h
  refine W_seq ?_
  refine W_regV he rfl ?_
  refine v0 (sA rfl [] rfl) rfl ?_
  refine ve ?_
  refine W2 [0] [] [] (l := [(0, .c (.int _ _))]) (h := []) (h' := []) trivial rfl rfl rfl ?_
  refine W_seq ?_
  refine W_regV he rfl ?_
  refine v0 (sM rfl [] rfl) rfl ?_
  obtain ⟨r1, hr1, h⟩ := bnd2 h
  refine v0 (sCm (w_impl_within K a0 0 1000000000 _ hr1) ok_impl_within rfl rfl rfl rfl) rfl ?_
  refine v0 (sA rfl [] rfl) rfl ?_
  refine ve ?_
  refine W2 [2] [] [] (l := [(2, .c (.bool _))]) (h := []) (h' := []) trivial rfl rfl rfl ?_
  obtain rfl := Option.some.inj h
  exact W_ret (r0 rfl rfl)
theorem ok_impl_isNum : FnOk Try.prog 65 := ⟨_, Try.func65, rfl, rfl⟩


/-! ### loop.example/g00499/impl.OpOk -/
def j_impl_OpOk_419 (K : Nat) (a0 : T_impl_Op) (v213 : Bool) (v315 : Bool) (v520 : Bool) : Option (Bool) := (bif v520 then some false else (bif v213 then (bif v315 then (bif (a0.fKind == 4) then some true else some ((a0.fB.length : Int) == 0)) else (bif (a0.fM == 0) then (bif (a0.fKind == 4) then some true else some ((a0.fB.length : Int) == 0)) else some false)) else (bif (a0.fN == 0) then (bif v315 then (bif (a0.fKind == 4) then some true else some ((a0.fB.length : Int) == 0)) else (bif (a0.fM == 0) then (bif (a0.fKind == 4) then some true else some ((a0.fB.length : Int) == 0)) else some false)) else some false)))
def j_impl_OpOk_316 (K : Nat) (a0 : T_impl_Op) (v111 : Bool) (v213 : Bool) (v315 : Bool) (v417 : Bool) : Option (Bool) := (bif v417 then some false else (bif v111 then j_impl_OpOk_419 K a0 v213 v315 false else j_impl_OpOk_419 K a0 v213 v315 (!(((a0.fR.fH.fSlot == 0) && ((a0.fR.fH.fGen == 0) && true)) && ((a0.fR.fEp == 0) && ((a0.fR.fNo == 0) && true))))))
def j_impl_OpOk_214 (K : Nat) (a0 : T_impl_Op) (v111 : Bool) (v213 : Bool) (v315 : Bool) : Option (Bool) := (bif v111 then j_impl_OpOk_316 K a0 v111 v213 v315 (!((a0.fH.fSlot == 0) && ((a0.fH.fGen == 0) && true))) else (bif (a0.fKind == 9) then j_impl_OpOk_316 K a0 v111 v213 v315 (!((a0.fH.fSlot == 0) && ((a0.fH.fGen == 0) && true))) else j_impl_OpOk_316 K a0 v111 v213 v315 false))
def j_impl_OpOk_112 (K : Nat) (a0 : T_impl_Op) (v111 : Bool) (v213 : Bool) : Option (Bool) := (bif (a0.fKind == 2) then j_impl_OpOk_214 K a0 v111 v213 true else j_impl_OpOk_214 K a0 v111 v213 (a0.fKind == 3))
def j_impl_OpOk_10 (K : Nat) (a0 : T_impl_Op) (v111 : Bool) : Option (Bool) := (bif v111 then j_impl_OpOk_112 K a0 v111 true else (bif (a0.fKind == 2) then j_impl_OpOk_112 K a0 v111 true else j_impl_OpOk_112 K a0 v111 (a0.fKind == 5)))
def l_impl_OpOk_5 (K : Nat) (a0 : T_impl_Op) : Nat → Int → Option (Bool)
  | 0, _ => none
  | n5 + 1, v4 => (bif (decide (v4 < (([a0.fH.fSlot, a0.fH.fGen, a0.fR.fH.fSlot, a0.fR.fH.fGen, a0.fR.fEp, a0.fR.fNo, a0.fN, a0.fM] : List Int).length : Int))) then (if (0 : Int) ≤ v4 ∧ v4 < (([a0.fH.fSlot, a0.fH.fGen, a0.fR.fH.fSlot, a0.fR.fH.fGen, a0.fR.fEp, a0.fR.fNo, a0.fN, a0.fM] : List Int).length : Int) then ((m_impl_isNum K (gt ([a0.fH.fSlot, a0.fH.fGen, a0.fR.fH.fSlot, a0.fR.fH.fGen, a0.fR.fEp, a0.fR.fNo, a0.fN, a0.fM] : List Int) v4)).bind fun r8 => (bif r8 then (l_impl_OpOk_5 K a0 n5 (iAdd .i64 v4 1)) else some false)) else none) else (bif (a0.fKind == 3) then j_impl_OpOk_10 K a0 true else j_impl_OpOk_10 K a0 (a0.fKind == 4)))
def m_impl_OpOk (K : Nat) (a0 : T_impl_Op) : Option (Bool) := ((m_impl_within K a0.fKind 1 9).bind fun r1 => (bif r1 then (bif (decide ((a0.fB.length : Int) > 200)) then some false else (l_impl_OpOk_5 K a0 K 0)) else some false))
set_option maxRecDepth 20000 in
set_option maxHeartbeats 8000000 in
theorem w_impl_OpOk (K : Nat) (a0 : T_impl_Op) (r : Bool) (h : m_impl_OpOk K a0 = some r) : Sp Try.prog 41 [.g [.int .i64 a0.fKind, .int .i64 a0.fH.fSlot, .int .i64 a0.fH.fGen, .int .i64 a0.fR.fH.fSlot, .int .i64 a0.fR.fH.fGen, .int .i64 a0.fR.fEp, .int .i64 a0.fR.fNo, .int .i64 a0.fN, .int .i64 a0.fM, .row false 1 (a0.fB.map en_u8)]] [] (.c (.bool r)) [] := by
  refine Sp.of_W tabOk Try.func41 rfl rfl (Nat.le_of_ble_eq_true rfl) (Nat.le_of_ble_eq_true rfl) fun F hP hN hm => ?_
  obtain ⟨P, N, w0, σ0, β0, m⟩ := F
  obtain rfl : P = Try.prog := hP
  obtain rfl : N = 126 := hN
  obtain rfl : m = 1 := hm
  have he : Env ⟨Try.prog, 126, w0, σ0, β0, 1⟩ tab := ⟨Nat.le_of_ble_eq_true rfl, tabOk⟩
  unfold m_impl_OpOk at h
  refine W_seq ?_
  refine W_regV he rfl ?_
  refine v0 (sBx rfl [] rfl rfl 101 rfl) rfl ?_
  refine v0 (sA rfl [] rfl) rfl ?_
  refine ve ?_
  refine W2 [1] [101] [] (l := [(1, .c (.ptr _ _ _ _))]) (h := [(101, ⟨0, 10, [[.int _ _, .int _ _, .int _ _, .int _ _, .int _ _, .int _ _, .int _ _, .int _ _, .int _ _, .row _ _ _]]⟩)]) (h' := []) trivial rfl rfl rfl ?_
  refine W_seq ?_
  refine W_seq ?_
  refine W_regV he rfl ?_
  refine v0 (sFP rfl rfl rfl) rfl ?_
  refine v0 (sLd rfl rfl) rfl ?_
  obtain ⟨r1, hr1, h⟩ := bnd2 h
  refine vB (sCm (w_impl_within K a0.fKind 1 9 _ hr1) ok_impl_within rfl rfl rfl rfl) rfl rfl fun b2 hb2 => ?_
  cases b2 with
  | true =>
    replace h := brT hb2 h
    refine v0 (sNt rfl rfl) rfl ?_
    refine v0 (sM rfl [] rfl) rfl ?_
    refine u0 (sFP rfl rfl rfl) rfl rfl rfl ?_
    refine u0 (sLd rfl rfl) rfl rfl rfl ?_
    refine u0 (sLm rfl rfl rfl rfl) rfl rfl rfl ?_
    refine uB (sBi rfl rfl rfl rfl) rfl rfl rfl rfl fun b3 hb3 => ?_
    cases b3 with
    | true =>
      replace h := brT hb3 h
      refine v0 (sPk rfl [] rfl rfl) rfl ?_
      refine ve ?_
      refine W2 [1, 17] [101] [] (l := [(1, .c (.ptr _ _ _ _)), (17, .c (.bool true))]) (h := [(101, ⟨0, 10, [[.int _ _, .int _ _, .int _ _, .int _ _, .int _ _, .int _ _, .int _ _, .int _ _, .int _ _, .row _ _ _]]⟩)]) (h' := []) trivial rfl rfl rfl ?_
      refine W_true rfl ?_
      refine W_seq ?_
      refine W_regV he rfl ?_
      refine v0 (sA rfl [] rfl) rfl ?_
      refine ve ?_
      refine W2 [2] [] [] (l := [(2, .c (.bool false))]) (h := []) (h' := []) trivial rfl rfl rfl ?_
      obtain rfl := Option.some.inj h
      exact W_ret (r0 rfl rfl)
    | false =>
      replace h := brF hb3 h
      refine v0 (sPk rfl [] rfl rfl) rfl ?_
      refine ve ?_
      refine W2 [1, 17] [101] [] (l := [(1, .c (.ptr _ _ _ _)), (17, .c (.bool false))]) (h := [(101, ⟨0, 10, [[.int _ _, .int _ _, .int _ _, .int _ _, .int _ _, .int _ _, .int _ _, .int _ _, .int _ _, .row _ _ _]]⟩)]) (h' := []) trivial rfl rfl rfl ?_
      refine W_false rfl ?_
      refine W_skip ?_
      refine W_seq ?_
      refine W_seq ?_
      refine W_regV he rfl ?_
      refine v0 (sFP rfl rfl rfl) rfl ?_
      refine v0 (sFP rfl rfl rfl) rfl ?_
      refine v0 (sLd rfl rfl) rfl ?_
      refine v0 (sFP rfl rfl rfl) rfl ?_
      refine v0 (sFP rfl rfl rfl) rfl ?_
      refine v0 (sLd rfl rfl) rfl ?_
      refine v0 (sFP rfl rfl rfl) rfl ?_
      refine v0 (sFP rfl rfl rfl) rfl ?_
      refine v0 (sFP rfl rfl rfl) rfl ?_
      refine v0 (sLd rfl rfl) rfl ?_
      refine v0 (sFP rfl rfl rfl) rfl ?_
      refine v0 (sFP rfl rfl rfl) rfl ?_
      refine v0 (sFP rfl rfl rfl) rfl ?_
      refine v0 (sLd rfl rfl) rfl ?_
      refine v0 (sFP rfl rfl rfl) rfl ?_
      refine v0 (sFP rfl rfl rfl) rfl ?_
      refine v0 (sLd rfl rfl) rfl ?_
      refine v0 (sFP rfl rfl rfl) rfl ?_
      refine v0 (sFP rfl rfl rfl) rfl ?_
      refine v0 (sLd rfl rfl) rfl ?_
      refine v0 (sFP rfl rfl rfl) rfl ?_
      refine v0 (sLd rfl rfl) rfl ?_
      refine v0 (sFP rfl rfl rfl) rfl ?_
      refine v0 (sLd rfl rfl) rfl ?_
      refine v0 (sBS rfl 1042 (rows := ([a0.fH.fSlot, a0.fH.fGen, a0.fR.fH.fSlot, a0.fR.fH.fGen, a0.fR.fEp, a0.fR.fNo, a0.fN, a0.fM] : List Int).map en_i64) rfl rfl rfl (by kernel_rfl) rfl rfl rfl rfl) rfl ?_
      refine v0 (sLo rfl rfl rfl rfl) rfl ?_
      refine v0 (sM rfl [] rfl) rfl ?_
      refine ve ?_
      refine W2 [1, 42, 43, 44] [101] [1042] (l := [(1, .c (.ptr _ _ _ _)), (42, .c (.own _ _ _ _)), (43, .c (.int _ _)), (44, .c (.int _ _))]) (h := [(101, ⟨0, 10, [[.int _ _, .int _ _, .int _ _, .int _ _, .int _ _, .int _ _, .int _ _, .int _ _, .int _ _, .row _ _ _]]⟩)]) (h' := [(1042, ⟨0, 1, ([a0.fH.fSlot, a0.fH.fGen, a0.fR.fH.fSlot, a0.fR.fH.fGen, a0.fR.fEp, a0.fR.fNo, a0.fN, a0.fM] : List Int).map en_i64⟩)]) ⟨⟨_, rfl, enOk_i64.allClosed _ _ ([a0.fH.fSlot, a0.fH.fGen, a0.fR.fH.fSlot, a0.fR.fH.fGen, a0.fR.fEp, a0.fR.fNo, a0.fN, a0.fM] : List Int)⟩, trivial⟩ rfl rfl rfl ?_
      refine W_block ?_
      refine W2 [1, 42, 43, 44] [101] [1042] (l := [(1, .c (.ptr _ _ _ _)), (42, .c (.own _ _ _ _)), (43, .c (.int _ _)), (44, .c (.int _ _))]) (h := [(101, ⟨0, 10, [[.int _ _, .int _ _, .int _ _, .int _ _, .int _ _, .int _ _, .int _ _, .int _ _, .int _ _, .row _ _ _]]⟩)]) (h' := [(1042, ⟨0, 1, ([a0.fH.fSlot, a0.fH.fGen, a0.fR.fH.fSlot, a0.fR.fH.fGen, a0.fR.fEp, a0.fR.fNo, a0.fN, a0.fM] : List Int).map en_i64⟩)]) ⟨⟨_, rfl, enOk_i64.allClosed _ _ ([a0.fH.fSlot, a0.fH.fGen, a0.fR.fH.fSlot, a0.fR.fH.fGen, a0.fR.fEp, a0.fR.fNo, a0.fN, a0.fM] : List Int)⟩, trivial⟩ rfl rfl rfl ?_
      refine W_loopW (fun n5 S => ∃ (v4 : Int), S = StL [(1, .c (.ptr 101 0 0 0)), (42, .c (.own 1042 0 0 ([a0.fH.fSlot, a0.fH.fGen, a0.fR.fH.fSlot, a0.fR.fH.fGen, a0.fR.fEp, a0.fR.fNo, a0.fN, a0.fM] : List Int).length)), (43, .c (.int .i64 (([a0.fH.fSlot, a0.fH.fGen, a0.fR.fH.fSlot, a0.fR.fH.fGen, a0.fR.fEp, a0.fR.fNo, a0.fN, a0.fM] : List Int).length : Int))), (44, .c (.int .i64 v4))] ([(101, ⟨0, 10, [[.int .i64 a0.fKind, .int .i64 a0.fH.fSlot, .int .i64 a0.fH.fGen, .int .i64 a0.fR.fH.fSlot, .int .i64 a0.fR.fH.fGen, .int .i64 a0.fR.fEp, .int .i64 a0.fR.fNo, .int .i64 a0.fN, .int .i64 a0.fM, .row false 1 (a0.fB.map en_u8)]]⟩)] ++ [(1042, ⟨0, 1, ([a0.fH.fSlot, a0.fH.fGen, a0.fR.fH.fSlot, a0.fR.fH.fGen, a0.fR.fEp, a0.fR.fNo, a0.fN, a0.fM] : List Int).map en_i64⟩)]) ∧ l_impl_OpOk_5 K a0 n5 v4 = some r) K ⟨_, rfl, h⟩ ?_
      rintro n5 S ⟨v4, rfl, h⟩
      cases n5 with
      | zero => simp [l_impl_OpOk_5] at h
      | succ n5 =>
        rw [l_impl_OpOk_5] at h
        refine W_seq ?_
        refine W_regV he rfl ?_
        refine vB (sBi rfl rfl rfl rfl) rfl rfl fun b6 hb6 => ?_
        cases b6 with
        | true =>
          replace h := brT hb6 h
          refine ve ?_
          refine W2 [1, 42, 43, 44, 45] [101] [1042] (l := [(1, .c (.ptr _ _ _ _)), (42, .c (.own _ _ _ _)), (43, .c (.int _ _)), (44, .c (.int _ _)), (45, .c (.bool true))]) (h := [(101, ⟨0, 10, [[.int _ _, .int _ _, .int _ _, .int _ _, .int _ _, .int _ _, .int _ _, .int _ _, .int _ _, .row _ _ _]]⟩)]) (h' := [(1042, ⟨0, 1, ([a0.fH.fSlot, a0.fH.fGen, a0.fR.fH.fSlot, a0.fR.fH.fGen, a0.fR.fEp, a0.fR.fNo, a0.fN, a0.fM] : List Int).map en_i64⟩)]) ⟨⟨_, rfl, enOk_i64.allClosed _ _ ([a0.fH.fSlot, a0.fH.fGen, a0.fR.fH.fSlot, a0.fR.fH.fGen, a0.fR.fEp, a0.fR.fNo, a0.fN, a0.fM] : List Int)⟩, trivial⟩ rfl rfl rfl ?_
          refine W_seq ?_
          refine W_true rfl ?_
          refine W_skip ?_
          refine W_seq ?_
          refine W_block ?_
          refine W_seq ?_
          refine W_regV he rfl ?_
          obtain ⟨c7, h⟩ := chk h
          refine v0 (sIOm rfl rfl rfl c7) rfl ?_
          refine v0 (sLkm rfl ([a0.fH.fSlot, a0.fH.fGen, a0.fR.fH.fSlot, a0.fR.fH.fGen, a0.fR.fEp, a0.fR.fNo, a0.fN, a0.fM] : List Int) c7 rfl rfl rfl rfl rfl rfl) rfl ?_
          refine v0 (sA rfl [] rfl) rfl ?_
          refine ve ?_
          refine W2 [1, 4, 42, 43, 44] [101] [1042] (l := [(1, .c (.ptr _ _ _ _)), (4, .c (.int _ _)), (42, .c (.own _ _ _ _)), (43, .c (.int _ _)), (44, .c (.int _ _))]) (h := [(101, ⟨0, 10, [[.int _ _, .int _ _, .int _ _, .int _ _, .int _ _, .int _ _, .int _ _, .int _ _, .int _ _, .row _ _ _]]⟩)]) (h' := [(1042, ⟨0, 1, ([a0.fH.fSlot, a0.fH.fGen, a0.fR.fH.fSlot, a0.fR.fH.fGen, a0.fR.fEp, a0.fR.fNo, a0.fN, a0.fM] : List Int).map en_i64⟩)]) ⟨⟨_, rfl, enOk_i64.allClosed _ _ ([a0.fH.fSlot, a0.fH.fGen, a0.fR.fH.fSlot, a0.fR.fH.fGen, a0.fR.fEp, a0.fR.fNo, a0.fN, a0.fM] : List Int)⟩, trivial⟩ rfl rfl rfl ?_
          refine W_seq ?_
          refine W_regV he rfl ?_
          refine v0 (sM rfl [] rfl) rfl ?_
          obtain ⟨r8, hr8, h⟩ := bnd2 h
          refine vB (sCm (w_impl_isNum K (gt ([a0.fH.fSlot, a0.fH.fGen, a0.fR.fH.fSlot, a0.fR.fH.fGen, a0.fR.fEp, a0.fR.fNo, a0.fN, a0.fM] : List Int) v4) _ hr8) ok_impl_isNum rfl rfl rfl rfl) rfl rfl fun b9 hb9 => ?_
          cases b9 with
          | true =>
            replace h := brT hb9 h
            refine v0 (sNt rfl rfl) rfl ?_
            refine ve ?_
            refine W2 [1, 42, 43, 44, 50] [101] [1042] (l := [(1, .c (.ptr _ _ _ _)), (42, .c (.own _ _ _ _)), (43, .c (.int _ _)), (44, .c (.int _ _)), (50, .c (.bool false))]) (h := [(101, ⟨0, 10, [[.int _ _, .int _ _, .int _ _, .int _ _, .int _ _, .int _ _, .int _ _, .int _ _, .int _ _, .row _ _ _]]⟩)]) (h' := [(1042, ⟨0, 1, ([a0.fH.fSlot, a0.fH.fGen, a0.fR.fH.fSlot, a0.fR.fH.fGen, a0.fR.fEp, a0.fR.fNo, a0.fN, a0.fM] : List Int).map en_i64⟩)]) ⟨⟨_, rfl, enOk_i64.allClosed _ _ ([a0.fH.fSlot, a0.fH.fGen, a0.fR.fH.fSlot, a0.fR.fH.fGen, a0.fR.fEp, a0.fR.fNo, a0.fN, a0.fM] : List Int)⟩, trivial⟩ rfl rfl rfl ?_
            refine W_false rfl ?_
            refine W_skip ?_
            refine W_regV he rfl ?_
            refine v0 (sBi rfl rfl rfl rfl) rfl ?_
            refine v0 (sM rfl [] rfl) rfl ?_
            refine ve ?_
            exact ⟨n5, _, Nat.lt_succ_self n5, wk2 [1, 42, 43, 44] [101] [1042] (l := [(1, .c (.ptr _ _ _ _)), (42, .c (.own _ _ _ _)), (43, .c (.int _ _)), (44, .c (.int _ _))]) (h := [(101, ⟨0, 10, [[.int _ _, .int _ _, .int _ _, .int _ _, .int _ _, .int _ _, .int _ _, .int _ _, .int _ _, .row _ _ _]]⟩)]) (h' := [(1042, ⟨0, 1, ([a0.fH.fSlot, a0.fH.fGen, a0.fR.fH.fSlot, a0.fR.fH.fGen, a0.fR.fEp, a0.fR.fNo, a0.fN, a0.fM] : List Int).map en_i64⟩)]) ⟨⟨_, rfl, enOk_i64.allClosed _ _ ([a0.fH.fSlot, a0.fH.fGen, a0.fR.fH.fSlot, a0.fR.fH.fGen, a0.fR.fEp, a0.fR.fNo, a0.fN, a0.fM] : List Int)⟩, trivial⟩ rfl rfl rfl, _, rfl, h⟩
          | false =>
            replace h := brF hb9 h
            refine v0 (sNt rfl rfl) rfl ?_
            refine ve ?_
            refine W2 [1, 42, 43, 44, 50] [101] [1042] (l := [(1, .c (.ptr _ _ _ _)), (42, .c (.own _ _ _ _)), (43, .c (.int _ _)), (44, .c (.int _ _)), (50, .c (.bool true))]) (h := [(101, ⟨0, 10, [[.int _ _, .int _ _, .int _ _, .int _ _, .int _ _, .int _ _, .int _ _, .int _ _, .int _ _, .row _ _ _]]⟩)]) (h' := [(1042, ⟨0, 1, ([a0.fH.fSlot, a0.fH.fGen, a0.fR.fH.fSlot, a0.fR.fH.fGen, a0.fR.fEp, a0.fR.fNo, a0.fN, a0.fM] : List Int).map en_i64⟩)]) ⟨⟨_, rfl, enOk_i64.allClosed _ _ ([a0.fH.fSlot, a0.fH.fGen, a0.fR.fH.fSlot, a0.fR.fH.fGen, a0.fR.fEp, a0.fR.fNo, a0.fN, a0.fM] : List Int)⟩, trivial⟩ rfl rfl rfl ?_
            refine W_true rfl ?_
            refine W_seq ?_
            refine W_regV he rfl ?_
            refine v0 (sA rfl [] rfl) rfl ?_
            refine ve ?_
            refine W2 [2] [] [] (l := [(2, .c (.bool false))]) (h := []) (h' := []) trivial rfl rfl rfl ?_
            obtain rfl := Option.some.inj h
            exact W_ret (r0 rfl rfl)
        | false =>
          replace h := brF hb6 h
          refine ve ?_
          refine W2 [1, 42, 43, 44, 45] [101] [1042] (l := [(1, .c (.ptr _ _ _ _)), (42, .c (.own _ _ _ _)), (43, .c (.int _ _)), (44, .c (.int _ _)), (45, .c (.bool false))]) (h := [(101, ⟨0, 10, [[.int _ _, .int _ _, .int _ _, .int _ _, .int _ _, .int _ _, .int _ _, .int _ _, .int _ _, .row _ _ _]]⟩)]) (h' := [(1042, ⟨0, 1, ([a0.fH.fSlot, a0.fH.fGen, a0.fR.fH.fSlot, a0.fR.fH.fGen, a0.fR.fEp, a0.fR.fNo, a0.fN, a0.fM] : List Int).map en_i64⟩)]) ⟨⟨_, rfl, enOk_i64.allClosed _ _ ([a0.fH.fSlot, a0.fH.fGen, a0.fR.fH.fSlot, a0.fR.fH.fGen, a0.fR.fEp, a0.fR.fNo, a0.fN, a0.fM] : List Int)⟩, trivial⟩ rfl rfl rfl ?_
          refine W_seq ?_
          refine W_false rfl ?_
          refine W_exit (ex_then (ex_then (ex_hit ?_)))
          refine W_join (fun S => ∃ (v111 : Bool), S = StL [(1, .c (.ptr 101 0 0 0)), (5, .c (.bool v111))] ([(101, ⟨0, 10, [[.int .i64 a0.fKind, .int .i64 a0.fH.fSlot, .int .i64 a0.fH.fGen, .int .i64 a0.fR.fH.fSlot, .int .i64 a0.fR.fH.fGen, .int .i64 a0.fR.fEp, .int .i64 a0.fR.fNo, .int .i64 a0.fN, .int .i64 a0.fM, .row false 1 (a0.fB.map en_u8)]]⟩)] ++ []) ∧ j_impl_OpOk_10 K a0 v111 = some r) ?_ ?_
          · rintro S ⟨v111, rfl, h⟩
            unfold j_impl_OpOk_10 at h
            refine W_join (fun S => ∃ (v213 : Bool), S = StL [(1, .c (.ptr 101 0 0 0)), (5, .c (.bool v111)), (6, .c (.bool v213))] ([(101, ⟨0, 10, [[.int .i64 a0.fKind, .int .i64 a0.fH.fSlot, .int .i64 a0.fH.fGen, .int .i64 a0.fR.fH.fSlot, .int .i64 a0.fR.fH.fGen, .int .i64 a0.fR.fEp, .int .i64 a0.fR.fNo, .int .i64 a0.fN, .int .i64 a0.fM, .row false 1 (a0.fB.map en_u8)]]⟩)] ++ []) ∧ j_impl_OpOk_112 K a0 v111 v213 = some r) ?_ ?_
            · rintro S ⟨v213, rfl, h⟩
              unfold j_impl_OpOk_112 at h
              refine W_join (fun S => ∃ (v315 : Bool), S = StL [(1, .c (.ptr 101 0 0 0)), (5, .c (.bool v111)), (6, .c (.bool v213)), (7, .c (.bool v315))] ([(101, ⟨0, 10, [[.int .i64 a0.fKind, .int .i64 a0.fH.fSlot, .int .i64 a0.fH.fGen, .int .i64 a0.fR.fH.fSlot, .int .i64 a0.fR.fH.fGen, .int .i64 a0.fR.fEp, .int .i64 a0.fR.fNo, .int .i64 a0.fN, .int .i64 a0.fM, .row false 1 (a0.fB.map en_u8)]]⟩)] ++ []) ∧ j_impl_OpOk_214 K a0 v111 v213 v315 = some r) ?_ ?_
              · rintro S ⟨v315, rfl, h⟩
                unfold j_impl_OpOk_214 at h
                refine W_seq ?_
                refine W_block ?_
                refine W_join (fun S => ∃ (v417 : Bool), S = StL [(1, .c (.ptr 101 0 0 0)), (5, .c (.bool v111)), (6, .c (.bool v213)), (7, .c (.bool v315)), (79, .c (.bool v417))] ([(101, ⟨0, 10, [[.int .i64 a0.fKind, .int .i64 a0.fH.fSlot, .int .i64 a0.fH.fGen, .int .i64 a0.fR.fH.fSlot, .int .i64 a0.fR.fH.fGen, .int .i64 a0.fR.fEp, .int .i64 a0.fR.fNo, .int .i64 a0.fN, .int .i64 a0.fM, .row false 1 (a0.fB.map en_u8)]]⟩)] ++ []) ∧ j_impl_OpOk_316 K a0 v111 v213 v315 v417 = some r) ?_ ?_
                · rintro S ⟨v417, rfl, h⟩
                  unfold j_impl_OpOk_316 at h
                  refine W_condB rfl (fun hb418 => ?_) (fun hb418 => ?_)
                  ·
                    replace h := brT hb418 h
                    refine W_seq ?_
                    refine W_regV he rfl ?_
                    refine v0 (sA rfl [] rfl) rfl ?_
                    refine ve ?_
                    refine W2 [2] [] [] (l := [(2, .c (.bool false))]) (h := []) (h' := []) trivial rfl rfl rfl ?_
                    obtain rfl := Option.some.inj h
                    exact W_ret (r0 rfl rfl)
                  ·
                    replace h := brF hb418 h
                    refine W_join (fun S => ∃ (v520 : Bool), S = StL [(1, .c (.ptr 101 0 0 0)), (6, .c (.bool v213)), (7, .c (.bool v315)), (92, .c (.bool v520))] ([(101, ⟨0, 10, [[.int .i64 a0.fKind, .int .i64 a0.fH.fSlot, .int .i64 a0.fH.fGen, .int .i64 a0.fR.fH.fSlot, .int .i64 a0.fR.fH.fGen, .int .i64 a0.fR.fEp, .int .i64 a0.fR.fNo, .int .i64 a0.fN, .int .i64 a0.fM, .row false 1 (a0.fB.map en_u8)]]⟩)] ++ []) ∧ j_impl_OpOk_419 K a0 v213 v315 v520 = some r) ?_ ?_
                    · rintro S ⟨v520, rfl, h⟩
                      unfold j_impl_OpOk_419 at h
                      refine W_condB rfl (fun hb521 => ?_) (fun hb521 => ?_)
                      ·
                        replace h := brT hb521 h
                        refine W_seq ?_
                        refine W_regV he rfl ?_
                        refine v0 (sA rfl [] rfl) rfl ?_
                        refine ve ?_
                        refine W2 [2] [] [] (l := [(2, .c (.bool false))]) (h := []) (h' := []) trivial rfl rfl rfl ?_
                        obtain rfl := Option.some.inj h
                        exact W_ret (r0 rfl rfl)
                      ·
                        replace h := brF hb521 h
                        refine W_skip ?_
                        refine W_seq ?_
                        refine W_regV he rfl ?_
                        refine vB (sM rfl [] rfl) rfl rfl fun b522 hb522 => ?_
                        cases b522 with
                        | true =>
                          replace h := brT hb522 h
                          refine v0 (sM rfl [] rfl) rfl ?_
                          refine uP rfl rfl rfl rfl ?_
                          refine uP rfl rfl rfl rfl ?_
                          refine uP rfl rfl rfl rfl ?_
                          refine v0 (sPk rfl [] rfl rfl) rfl ?_
                          refine v0 (sM rfl [] rfl) rfl ?_
                          refine uB (sM rfl [] rfl) rfl rfl rfl rfl fun b523 hb523 => ?_
                          cases b523 with
                          | true =>
                            replace h := brT hb523 h
                            refine u0 (sM rfl [] rfl) rfl rfl rfl ?_
                            refine uP rfl rfl rfl rfl ?_
                            refine uP rfl rfl rfl rfl ?_
                            refine uP rfl rfl rfl rfl ?_
                            refine u0 (sPk rfl [] rfl rfl) rfl rfl rfl ?_
                            refine v0 (sPk rfl [] rfl rfl) rfl ?_
                            refine v0 (sM rfl [] rfl) rfl ?_
                            refine u0 (sFP rfl rfl rfl) rfl rfl rfl ?_
                            refine u0 (sLd rfl rfl) rfl rfl rfl ?_
                            refine uB (sBi rfl rfl rfl rfl) rfl rfl rfl rfl fun b524 hb524 => ?_
                            cases b524 with
                            | true =>
                              replace h := brT hb524 h
                              refine u0 (sM rfl [] rfl) rfl rfl rfl ?_
                              refine uP rfl rfl rfl rfl ?_
                              refine uP rfl rfl rfl rfl ?_
                              refine uP rfl rfl rfl rfl ?_
                              refine uP rfl rfl rfl rfl ?_
                              refine u0 (sPk rfl [] rfl rfl) rfl rfl rfl ?_
                              refine v0 (sPk rfl [] rfl rfl) rfl ?_
                              refine v0 (sA rfl [] rfl) rfl ?_
                              refine ve ?_
                              refine W2 [2] [] [] (l := [(2, .c (.bool true))]) (h := []) (h' := []) trivial rfl rfl rfl ?_
                              obtain rfl := Option.some.inj h
                              exact W_ret (r0 rfl rfl)
                            | false =>
                              replace h := brF hb524 h
                              refine u0 (sM rfl [] rfl) rfl rfl rfl ?_
                              refine u0 (sFP rfl rfl rfl) rfl rfl rfl ?_
                              refine u0 (sLd rfl rfl) rfl rfl rfl ?_
                              refine u0 (sLm rfl rfl rfl rfl) rfl rfl rfl ?_
                              refine u0 (sBi rfl rfl rfl rfl) rfl rfl rfl ?_
                              refine u0 (sPk rfl [] rfl rfl) rfl rfl rfl ?_
                              refine v0 (sPk rfl [] rfl rfl) rfl ?_
                              refine v0 (sA rfl [] rfl) rfl ?_
                              refine ve ?_
                              refine W2 [2] [] [] (l := [(2, .c (.bool _))]) (h := []) (h' := []) trivial rfl rfl rfl ?_
                              obtain rfl := Option.some.inj h
                              exact W_ret (r0 rfl rfl)
                          | false =>
                            replace h := brF hb523 h
                            refine u0 (sM rfl [] rfl) rfl rfl rfl ?_
                            refine u0 (sFP rfl rfl rfl) rfl rfl rfl ?_
                            refine u0 (sLd rfl rfl) rfl rfl rfl ?_
                            refine uB (sBi rfl rfl rfl rfl) rfl rfl rfl rfl fun b525 hb525 => ?_
                            cases b525 with
                            | true =>
                              replace h := brT hb525 h
                              refine u0 (sPk rfl [] rfl rfl) rfl rfl rfl ?_
                              refine v0 (sPk rfl [] rfl rfl) rfl ?_
                              refine v0 (sM rfl [] rfl) rfl ?_
                              refine u0 (sFP rfl rfl rfl) rfl rfl rfl ?_
                              refine u0 (sLd rfl rfl) rfl rfl rfl ?_
                              refine uB (sBi rfl rfl rfl rfl) rfl rfl rfl rfl fun b526 hb526 => ?_
                              cases b526 with
                              | true =>
                                replace h := brT hb526 h
                                refine u0 (sM rfl [] rfl) rfl rfl rfl ?_
                                refine uP rfl rfl rfl rfl ?_
                                refine uP rfl rfl rfl rfl ?_
                                refine uP rfl rfl rfl rfl ?_
                                refine uP rfl rfl rfl rfl ?_
                                refine u0 (sPk rfl [] rfl rfl) rfl rfl rfl ?_
                                refine v0 (sPk rfl [] rfl rfl) rfl ?_
                                refine v0 (sA rfl [] rfl) rfl ?_
                                refine ve ?_
                                refine W2 [2] [] [] (l := [(2, .c (.bool true))]) (h := []) (h' := []) trivial rfl rfl rfl ?_
                                obtain rfl := Option.some.inj h
                                exact W_ret (r0 rfl rfl)
                              | false =>
                                replace h := brF hb526 h
                                refine u0 (sM rfl [] rfl) rfl rfl rfl ?_
                                refine u0 (sFP rfl rfl rfl) rfl rfl rfl ?_
                                refine u0 (sLd rfl rfl) rfl rfl rfl ?_
                                refine u0 (sLm rfl rfl rfl rfl) rfl rfl rfl ?_
                                refine u0 (sBi rfl rfl rfl rfl) rfl rfl rfl ?_
                                refine u0 (sPk rfl [] rfl rfl) rfl rfl rfl ?_
                                refine v0 (sPk rfl [] rfl rfl) rfl ?_
                                refine v0 (sA rfl [] rfl) rfl ?_
                                refine ve ?_
                                refine W2 [2] [] [] (l := [(2, .c (.bool _))]) (h := []) (h' := []) trivial rfl rfl rfl ?_
                                obtain rfl := Option.some.inj h
                                exact W_ret (r0 rfl rfl)
                            | false =>
                              replace h := brF hb525 h
                              refine u0 (sPk rfl [] rfl rfl) rfl rfl rfl ?_
                              refine v0 (sPk rfl [] rfl rfl) rfl ?_
                              refine v0 (sM rfl [] rfl) rfl ?_
                              refine uP rfl rfl rfl rfl ?_
                              refine uP rfl rfl rfl rfl ?_
                              refine uP rfl rfl rfl rfl ?_
                              refine uP rfl rfl rfl rfl ?_
                              refine uS rfl rfl rfl ?_
                              refine uS rfl rfl rfl ?_
                              refine uS rfl rfl rfl ?_
                              refine uS rfl rfl rfl ?_
                              refine uP rfl rfl rfl rfl ?_
                              refine v0 (sPk rfl [] rfl rfl) rfl ?_
                              refine v0 (sA rfl [] rfl) rfl ?_
                              refine ve ?_
                              refine W2 [2] [] [] (l := [(2, .c (.bool false))]) (h := []) (h' := []) trivial rfl rfl rfl ?_
                              obtain rfl := Option.some.inj h
                              exact W_ret (r0 rfl rfl)
                        | false =>
                          replace h := brF hb522 h
                          refine v0 (sM rfl [] rfl) rfl ?_
                          refine u0 (sFP rfl rfl rfl) rfl rfl rfl ?_
                          refine u0 (sLd rfl rfl) rfl rfl rfl ?_
                          refine uB (sBi rfl rfl rfl rfl) rfl rfl rfl rfl fun b527 hb527 => ?_
                          cases b527 with
                          | true =>
                            replace h := brT hb527 h
                            refine v0 (sPk rfl [] rfl rfl) rfl ?_
                            refine v0 (sM rfl [] rfl) rfl ?_
                            refine uB (sM rfl [] rfl) rfl rfl rfl rfl fun b528 hb528 => ?_
                            cases b528 with
                            | true =>
                              replace h := brT hb528 h
                              refine u0 (sM rfl [] rfl) rfl rfl rfl ?_
                              refine uP rfl rfl rfl rfl ?_
                              refine uP rfl rfl rfl rfl ?_
                              refine uP rfl rfl rfl rfl ?_
                              refine u0 (sPk rfl [] rfl rfl) rfl rfl rfl ?_
                              refine v0 (sPk rfl [] rfl rfl) rfl ?_
                              refine v0 (sM rfl [] rfl) rfl ?_
                              refine u0 (sFP rfl rfl rfl) rfl rfl rfl ?_
                              refine u0 (sLd rfl rfl) rfl rfl rfl ?_
                              refine uB (sBi rfl rfl rfl rfl) rfl rfl rfl rfl fun b529 hb529 => ?_
                              cases b529 with
                              | true =>
                                replace h := brT hb529 h
                                refine u0 (sM rfl [] rfl) rfl rfl rfl ?_
                                refine uP rfl rfl rfl rfl ?_
                                refine uP rfl rfl rfl rfl ?_
                                refine uP rfl rfl rfl rfl ?_
                                refine uP rfl rfl rfl rfl ?_
                                refine u0 (sPk rfl [] rfl rfl) rfl rfl rfl ?_
                                refine v0 (sPk rfl [] rfl rfl) rfl ?_
                                refine v0 (sA rfl [] rfl) rfl ?_
                                refine ve ?_
                                refine W2 [2] [] [] (l := [(2, .c (.bool true))]) (h := []) (h' := []) trivial rfl rfl rfl ?_
                                obtain rfl := Option.some.inj h
                                exact W_ret (r0 rfl rfl)
                              | false =>
                                replace h := brF hb529 h
                                refine u0 (sM rfl [] rfl) rfl rfl rfl ?_
                                refine u0 (sFP rfl rfl rfl) rfl rfl rfl ?_
                                refine u0 (sLd rfl rfl) rfl rfl rfl ?_
                                refine u0 (sLm rfl rfl rfl rfl) rfl rfl rfl ?_
                                refine u0 (sBi rfl rfl rfl rfl) rfl rfl rfl ?_
                                refine u0 (sPk rfl [] rfl rfl) rfl rfl rfl ?_
                                refine v0 (sPk rfl [] rfl rfl) rfl ?_
                                refine v0 (sA rfl [] rfl) rfl ?_
                                refine ve ?_
                                refine W2 [2] [] [] (l := [(2, .c (.bool _))]) (h := []) (h' := []) trivial rfl rfl rfl ?_
                                obtain rfl := Option.some.inj h
                                exact W_ret (r0 rfl rfl)
                            | false =>
                              replace h := brF hb528 h
                              refine u0 (sM rfl [] rfl) rfl rfl rfl ?_
                              refine u0 (sFP rfl rfl rfl) rfl rfl rfl ?_
                              refine u0 (sLd rfl rfl) rfl rfl rfl ?_
                              refine uB (sBi rfl rfl rfl rfl) rfl rfl rfl rfl fun b530 hb530 => ?_
                              cases b530 with
                              | true =>
                                replace h := brT hb530 h
                                refine u0 (sPk rfl [] rfl rfl) rfl rfl rfl ?_
                                refine v0 (sPk rfl [] rfl rfl) rfl ?_
                                refine v0 (sM rfl [] rfl) rfl ?_
                                refine u0 (sFP rfl rfl rfl) rfl rfl rfl ?_
                                refine u0 (sLd rfl rfl) rfl rfl rfl ?_
                                refine uB (sBi rfl rfl rfl rfl) rfl rfl rfl rfl fun b531 hb531 => ?_
                                cases b531 with
                                | true =>
                                  replace h := brT hb531 h
                                  refine u0 (sM rfl [] rfl) rfl rfl rfl ?_
                                  refine uP rfl rfl rfl rfl ?_
                                  refine uP rfl rfl rfl rfl ?_
                                  refine uP rfl rfl rfl rfl ?_
                                  refine uP rfl rfl rfl rfl ?_
                                  refine u0 (sPk rfl [] rfl rfl) rfl rfl rfl ?_
                                  refine v0 (sPk rfl [] rfl rfl) rfl ?_
                                  refine v0 (sA rfl [] rfl) rfl ?_
                                  refine ve ?_
                                  refine W2 [2] [] [] (l := [(2, .c (.bool true))]) (h := []) (h' := []) trivial rfl rfl rfl ?_
                                  obtain rfl := Option.some.inj h
                                  exact W_ret (r0 rfl rfl)
                                | false =>
                                  replace h := brF hb531 h
                                  refine u0 (sM rfl [] rfl) rfl rfl rfl ?_
                                  refine u0 (sFP rfl rfl rfl) rfl rfl rfl ?_
                                  refine u0 (sLd rfl rfl) rfl rfl rfl ?_
                                  refine u0 (sLm rfl rfl rfl rfl) rfl rfl rfl ?_
                                  refine u0 (sBi rfl rfl rfl rfl) rfl rfl rfl ?_
                                  refine u0 (sPk rfl [] rfl rfl) rfl rfl rfl ?_
                                  refine v0 (sPk rfl [] rfl rfl) rfl ?_
                                  refine v0 (sA rfl [] rfl) rfl ?_
                                  refine ve ?_
                                  refine W2 [2] [] [] (l := [(2, .c (.bool _))]) (h := []) (h' := []) trivial rfl rfl rfl ?_
                                  obtain rfl := Option.some.inj h
                                  exact W_ret (r0 rfl rfl)
                              | false =>
                                replace h := brF hb530 h
                                refine u0 (sPk rfl [] rfl rfl) rfl rfl rfl ?_
                                refine v0 (sPk rfl [] rfl rfl) rfl ?_
                                refine v0 (sM rfl [] rfl) rfl ?_
                                refine uP rfl rfl rfl rfl ?_
                                refine uP rfl rfl rfl rfl ?_
                                refine uP rfl rfl rfl rfl ?_
                                refine uP rfl rfl rfl rfl ?_
                                refine uS rfl rfl rfl ?_
                                refine uS rfl rfl rfl ?_
                                refine uS rfl rfl rfl ?_
                                refine uS rfl rfl rfl ?_
                                refine uP rfl rfl rfl rfl ?_
                                refine v0 (sPk rfl [] rfl rfl) rfl ?_
                                refine v0 (sA rfl [] rfl) rfl ?_
                                refine ve ?_
                                refine W2 [2] [] [] (l := [(2, .c (.bool false))]) (h := []) (h' := []) trivial rfl rfl rfl ?_
                                obtain rfl := Option.some.inj h
                                exact W_ret (r0 rfl rfl)
                          | false =>
                            replace h := brF hb527 h
                            refine v0 (sPk rfl [] rfl rfl) rfl ?_
                            refine v0 (sM rfl [] rfl) rfl ?_
                            refine uP rfl rfl rfl rfl ?_
                            refine uP rfl rfl rfl rfl ?_
                            refine uS rfl rfl rfl ?_
                            refine uS rfl rfl rfl ?_
                            refine uS rfl rfl rfl ?_
                            refine uP rfl rfl rfl rfl ?_
                            refine v0 (sPk rfl [] rfl rfl) rfl ?_
                            refine v0 (sM rfl [] rfl) rfl ?_
                            refine uP rfl rfl rfl rfl ?_
                            refine uP rfl rfl rfl rfl ?_
                            refine uP rfl rfl rfl rfl ?_
                            refine uP rfl rfl rfl rfl ?_
                            refine uS rfl rfl rfl ?_
                            refine uS rfl rfl rfl ?_
                            refine uS rfl rfl rfl ?_
                            refine uS rfl rfl rfl ?_
                            refine uP rfl rfl rfl rfl ?_
                            refine v0 (sPk rfl [] rfl rfl) rfl ?_
                            refine v0 (sA rfl [] rfl) rfl ?_
                            refine ve ?_
                            refine W2 [2] [] [] (l := [(2, .c (.bool false))]) (h := []) (h' := []) trivial rfl rfl rfl ?_
                            obtain rfl := Option.some.inj h
                            exact W_ret (r0 rfl rfl)
                    ·
                      refine W_regV he rfl ?_
                      refine vB (sM rfl [] rfl) rfl rfl fun b532 hb532 => ?_
                      cases b532 with
                      | true =>
                        replace h := brT hb532 h
                        refine v0 (sNt rfl rfl) rfl ?_
                        refine v0 (sM rfl [] rfl) rfl ?_
                        refine uP rfl rfl rfl rfl ?_
                        refine uP rfl rfl rfl rfl ?_
                        refine uP rfl rfl rfl rfl ?_
                        refine uP rfl rfl rfl rfl ?_
                        refine v0 (sPk rfl [] rfl rfl) rfl ?_
                        refine v0 (sA rfl [] rfl) rfl ?_
                        refine ve ?_
                        exact ⟨_, wk2 [1, 6, 7, 92] [101] [] (l := [(1, .c (.ptr _ _ _ _)), (6, .c (.bool _)), (7, .c (.bool _)), (92, .c (.bool false))]) (h := [(101, ⟨0, 10, [[.int _ _, .int _ _, .int _ _, .int _ _, .int _ _, .int _ _, .int _ _, .int _ _, .int _ _, .row _ _ _]]⟩)]) (h' := []) trivial rfl rfl rfl, _, rfl, h⟩
                      | false =>
                        replace h := brF hb532 h
                        refine v0 (sNt rfl rfl) rfl ?_
                        refine v0 (sM rfl [] rfl) rfl ?_
                        refine u0 (sFP rfl rfl rfl) rfl rfl rfl ?_
                        refine u0 (sLd rfl rfl) rfl rfl rfl ?_
                        refine u0 (sBd rfl [] (out := [.int .i64 0, .int .i64 0, .int .i64 0, .int .i64 0]) rfl (by kernel_rfl)) rfl rfl rfl ?_
                        refine u0 (sEs rfl (.inr rfl) rfl rfl rfl rfl (by kernel_rfl) (by kernel_rfl) rfl rfl rfl) rfl rfl rfl ?_
                        refine v0 (sPk rfl [] rfl rfl) rfl ?_
                        refine v0 (sA rfl [] rfl) rfl ?_
                        refine ve ?_
                        exact ⟨_, wk2 [1, 6, 7, 92] [101] [] (l := [(1, .c (.ptr _ _ _ _)), (6, .c (.bool _)), (7, .c (.bool _)), (92, .c (.bool _))]) (h := [(101, ⟨0, 10, [[.int _ _, .int _ _, .int _ _, .int _ _, .int _ _, .int _ _, .int _ _, .int _ _, .int _ _, .row _ _ _]]⟩)]) (h' := []) trivial rfl rfl rfl, _, rfl, h⟩
                ·
                  refine W_regV he rfl ?_
                  refine vB (sM rfl [] rfl) rfl rfl fun b533 hb533 => ?_
                  cases b533 with
                  | true =>
                    replace h := brT hb533 h
                    refine v0 (sM rfl [] rfl) rfl ?_
                    refine uP rfl rfl rfl rfl ?_
                    refine uP rfl rfl rfl rfl ?_
                    refine uP rfl rfl rfl rfl ?_
                    refine v0 (sPk rfl [] rfl rfl) rfl ?_
                    refine v0 (sM rfl [] rfl) rfl ?_
                    refine u0 (sFP rfl rfl rfl) rfl rfl rfl ?_
                    refine u0 (sLd rfl rfl) rfl rfl rfl ?_
                    refine u0 (sBd rfl [] (out := [.int .i64 0, .int .i64 0]) rfl (by kernel_rfl)) rfl rfl rfl ?_
                    refine u0 (sEs rfl (.inr rfl) rfl rfl rfl rfl (by kernel_rfl) (by kernel_rfl) rfl rfl rfl) rfl rfl rfl ?_
                    refine v0 (sPk rfl [] rfl rfl) rfl ?_
                    refine v0 (sA rfl [] rfl) rfl ?_
                    refine ve ?_
                    exact ⟨_, wk2 [1, 5, 6, 7, 79] [101] [] (l := [(1, .c (.ptr _ _ _ _)), (5, .c (.bool _)), (6, .c (.bool _)), (7, .c (.bool _)), (79, .c (.bool _))]) (h := [(101, ⟨0, 10, [[.int _ _, .int _ _, .int _ _, .int _ _, .int _ _, .int _ _, .int _ _, .int _ _, .int _ _, .row _ _ _]]⟩)]) (h' := []) trivial rfl rfl rfl, _, rfl, h⟩
                  | false =>
                    replace h := brF hb533 h
                    refine v0 (sM rfl [] rfl) rfl ?_
                    refine u0 (sFP rfl rfl rfl) rfl rfl rfl ?_
                    refine u0 (sLd rfl rfl) rfl rfl rfl ?_
                    refine uB (sBi rfl rfl rfl rfl) rfl rfl rfl rfl fun b534 hb534 => ?_
                    cases b534 with
                    | true =>
                      replace h := brT hb534 h
                      refine v0 (sPk rfl [] rfl rfl) rfl ?_
                      refine v0 (sM rfl [] rfl) rfl ?_
                      refine u0 (sFP rfl rfl rfl) rfl rfl rfl ?_
                      refine u0 (sLd rfl rfl) rfl rfl rfl ?_
                      refine u0 (sBd rfl [] (out := [.int .i64 0, .int .i64 0]) rfl (by kernel_rfl)) rfl rfl rfl ?_
                      refine u0 (sEs rfl (.inr rfl) rfl rfl rfl rfl (by kernel_rfl) (by kernel_rfl) rfl rfl rfl) rfl rfl rfl ?_
                      refine v0 (sPk rfl [] rfl rfl) rfl ?_
                      refine v0 (sA rfl [] rfl) rfl ?_
                      refine ve ?_
                      exact ⟨_, wk2 [1, 5, 6, 7, 79] [101] [] (l := [(1, .c (.ptr _ _ _ _)), (5, .c (.bool _)), (6, .c (.bool _)), (7, .c (.bool _)), (79, .c (.bool _))]) (h := [(101, ⟨0, 10, [[.int _ _, .int _ _, .int _ _, .int _ _, .int _ _, .int _ _, .int _ _, .int _ _, .int _ _, .row _ _ _]]⟩)]) (h' := []) trivial rfl rfl rfl, _, rfl, h⟩
                    | false =>
                      replace h := brF hb534 h
                      refine v0 (sPk rfl [] rfl rfl) rfl ?_
                      refine v0 (sM rfl [] rfl) rfl ?_
                      refine uP rfl rfl rfl rfl ?_
                      refine uP rfl rfl rfl rfl ?_
                      refine uP rfl rfl rfl rfl ?_
                      refine uP rfl rfl rfl rfl ?_
                      refine v0 (sPk rfl [] rfl rfl) rfl ?_
                      refine v0 (sA rfl [] rfl) rfl ?_
                      refine ve ?_
                      exact ⟨_, wk2 [1, 5, 6, 7, 79] [101] [] (l := [(1, .c (.ptr _ _ _ _)), (5, .c (.bool _)), (6, .c (.bool _)), (7, .c (.bool _)), (79, .c (.bool false))]) (h := [(101, ⟨0, 10, [[.int _ _, .int _ _, .int _ _, .int _ _, .int _ _, .int _ _, .int _ _, .int _ _, .int _ _, .row _ _ _]]⟩)]) (h' := []) trivial rfl rfl rfl, _, rfl, h⟩
              ·
                refine W_regV he rfl ?_
                refine v0 (sFP rfl rfl rfl) rfl ?_
                refine v0 (sLd rfl rfl) rfl ?_
                refine vB (sBi rfl rfl rfl rfl) rfl rfl fun b535 hb535 => ?_
                cases b535 with
                | true =>
                  replace h := brT hb535 h
                  refine v0 (sM rfl [] rfl) rfl ?_
                  refine uP rfl rfl rfl rfl ?_
                  refine uP rfl rfl rfl rfl ?_
                  refine uP rfl rfl rfl rfl ?_
                  refine v0 (sPk rfl [] rfl rfl) rfl ?_
                  refine v0 (sA rfl [] rfl) rfl ?_
                  refine ve ?_
                  exact ⟨_, wk2 [1, 5, 6, 7] [101] [] (l := [(1, .c (.ptr _ _ _ _)), (5, .c (.bool _)), (6, .c (.bool _)), (7, .c (.bool true))]) (h := [(101, ⟨0, 10, [[.int _ _, .int _ _, .int _ _, .int _ _, .int _ _, .int _ _, .int _ _, .int _ _, .int _ _, .row _ _ _]]⟩)]) (h' := []) trivial rfl rfl rfl, _, rfl, h⟩
                | false =>
                  replace h := brF hb535 h
                  refine v0 (sM rfl [] rfl) rfl ?_
                  refine u0 (sFP rfl rfl rfl) rfl rfl rfl ?_
                  refine u0 (sLd rfl rfl) rfl rfl rfl ?_
                  refine u0 (sBi rfl rfl rfl rfl) rfl rfl rfl ?_
                  refine v0 (sPk rfl [] rfl rfl) rfl ?_
                  refine v0 (sA rfl [] rfl) rfl ?_
                  refine ve ?_
                  exact ⟨_, wk2 [1, 5, 6, 7] [101] [] (l := [(1, .c (.ptr _ _ _ _)), (5, .c (.bool _)), (6, .c (.bool _)), (7, .c (.bool _))]) (h := [(101, ⟨0, 10, [[.int _ _, .int _ _, .int _ _, .int _ _, .int _ _, .int _ _, .int _ _, .int _ _, .int _ _, .row _ _ _]]⟩)]) (h' := []) trivial rfl rfl rfl, _, rfl, h⟩
            ·
              refine W_regV he rfl ?_
              refine vB (sM rfl [] rfl) rfl rfl fun b536 hb536 => ?_
              cases b536 with
              | true =>
                replace h := brT hb536 h
                refine v0 (sM rfl [] rfl) rfl ?_
                refine uP rfl rfl rfl rfl ?_
                refine uP rfl rfl rfl rfl ?_
                refine uP rfl rfl rfl rfl ?_
                refine v0 (sPk rfl [] rfl rfl) rfl ?_
                refine v0 (sM rfl [] rfl) rfl ?_
                refine uP rfl rfl rfl rfl ?_
                refine uP rfl rfl rfl rfl ?_
                refine uP rfl rfl rfl rfl ?_
                refine v0 (sPk rfl [] rfl rfl) rfl ?_
                refine v0 (sA rfl [] rfl) rfl ?_
                refine ve ?_
                exact ⟨_, wk2 [1, 5, 6] [101] [] (l := [(1, .c (.ptr _ _ _ _)), (5, .c (.bool _)), (6, .c (.bool true))]) (h := [(101, ⟨0, 10, [[.int _ _, .int _ _, .int _ _, .int _ _, .int _ _, .int _ _, .int _ _, .int _ _, .int _ _, .row _ _ _]]⟩)]) (h' := []) trivial rfl rfl rfl, _, rfl, h⟩
              | false =>
                replace h := brF hb536 h
                refine v0 (sM rfl [] rfl) rfl ?_
                refine u0 (sFP rfl rfl rfl) rfl rfl rfl ?_
                refine u0 (sLd rfl rfl) rfl rfl rfl ?_
                refine uB (sBi rfl rfl rfl rfl) rfl rfl rfl rfl fun b537 hb537 => ?_
                cases b537 with
                | true =>
                  replace h := brT hb537 h
                  refine v0 (sPk rfl [] rfl rfl) rfl ?_
                  refine v0 (sM rfl [] rfl) rfl ?_
                  refine uP rfl rfl rfl rfl ?_
                  refine uP rfl rfl rfl rfl ?_
                  refine uP rfl rfl rfl rfl ?_
                  refine v0 (sPk rfl [] rfl rfl) rfl ?_
                  refine v0 (sA rfl [] rfl) rfl ?_
                  refine ve ?_
                  exact ⟨_, wk2 [1, 5, 6] [101] [] (l := [(1, .c (.ptr _ _ _ _)), (5, .c (.bool _)), (6, .c (.bool true))]) (h := [(101, ⟨0, 10, [[.int _ _, .int _ _, .int _ _, .int _ _, .int _ _, .int _ _, .int _ _, .int _ _, .int _ _, .row _ _ _]]⟩)]) (h' := []) trivial rfl rfl rfl, _, rfl, h⟩
                | false =>
                  replace h := brF hb537 h
                  refine v0 (sPk rfl [] rfl rfl) rfl ?_
                  refine v0 (sM rfl [] rfl) rfl ?_
                  refine u0 (sFP rfl rfl rfl) rfl rfl rfl ?_
                  refine u0 (sLd rfl rfl) rfl rfl rfl ?_
                  refine u0 (sBi rfl rfl rfl rfl) rfl rfl rfl ?_
                  refine v0 (sPk rfl [] rfl rfl) rfl ?_
                  refine v0 (sA rfl [] rfl) rfl ?_
                  refine ve ?_
                  exact ⟨_, wk2 [1, 5, 6] [101] [] (l := [(1, .c (.ptr _ _ _ _)), (5, .c (.bool _)), (6, .c (.bool _))]) (h := [(101, ⟨0, 10, [[.int _ _, .int _ _, .int _ _, .int _ _, .int _ _, .int _ _, .int _ _, .int _ _, .int _ _, .row _ _ _]]⟩)]) (h' := []) trivial rfl rfl rfl, _, rfl, h⟩
          ·
            refine W_regV he rfl ?_
            refine v0 (sFP rfl rfl rfl) rfl ?_
            refine v0 (sLd rfl rfl) rfl ?_
            refine vB (sBi rfl rfl rfl rfl) rfl rfl fun b538 hb538 => ?_
            cases b538 with
            | true =>
              replace h := brT hb538 h
              refine v0 (sM rfl [] rfl) rfl ?_
              refine uP rfl rfl rfl rfl ?_
              refine uP rfl rfl rfl rfl ?_
              refine uP rfl rfl rfl rfl ?_
              refine v0 (sPk rfl [] rfl rfl) rfl ?_
              refine v0 (sA rfl [] rfl) rfl ?_
              refine ve ?_
              exact ⟨_, wk2 [1, 5] [101] [] (l := [(1, .c (.ptr _ _ _ _)), (5, .c (.bool true))]) (h := [(101, ⟨0, 10, [[.int _ _, .int _ _, .int _ _, .int _ _, .int _ _, .int _ _, .int _ _, .int _ _, .int _ _, .row _ _ _]]⟩)]) (h' := []) trivial rfl rfl rfl, _, rfl, h⟩
            | false =>
              replace h := brF hb538 h
              refine v0 (sM rfl [] rfl) rfl ?_
              refine u0 (sFP rfl rfl rfl) rfl rfl rfl ?_
              refine u0 (sLd rfl rfl) rfl rfl rfl ?_
              refine u0 (sBi rfl rfl rfl rfl) rfl rfl rfl ?_
              refine v0 (sPk rfl [] rfl rfl) rfl ?_
              refine v0 (sA rfl [] rfl) rfl ?_
              refine ve ?_
              exact ⟨_, wk2 [1, 5] [101] [] (l := [(1, .c (.ptr _ _ _ _)), (5, .c (.bool _))]) (h := [(101, ⟨0, 10, [[.int _ _, .int _ _, .int _ _, .int _ _, .int _ _, .int _ _, .int _ _, .int _ _, .int _ _, .row _ _ _]]⟩)]) (h' := []) trivial rfl rfl rfl, _, rfl, h⟩
  | false =>
    replace h := brF hb2 h
    refine v0 (sNt rfl rfl) rfl ?_
    refine v0 (sM rfl [] rfl) rfl ?_
    refine uP rfl rfl rfl rfl ?_
    refine uP rfl rfl rfl rfl ?_
    refine uP rfl rfl rfl rfl ?_
    refine uP rfl rfl rfl rfl ?_
    refine v0 (sPk rfl [] rfl rfl) rfl ?_
    refine ve ?_
    refine W2 [1, 17] [101] [] (l := [(1, .c (.ptr _ _ _ _)), (17, .c (.bool true))]) (h := [(101, ⟨0, 10, [[.int _ _, .int _ _, .int _ _, .int _ _, .int _ _, .int _ _, .int _ _, .int _ _, .int _ _, .row _ _ _]]⟩)]) (h' := []) trivial rfl rfl rfl ?_
    refine W_true rfl ?_
    refine W_seq ?_
    refine W_regV he rfl ?_
    refine v0 (sA rfl [] rfl) rfl ?_
    refine ve ?_
    refine W2 [2] [] [] (l := [(2, .c (.bool false))]) (h := []) (h' := []) trivial rfl rfl rfl ?_
    obtain rfl := Option.some.inj h
    exact W_ret (r0 rfl rfl)
theorem ok_impl_OpOk : FnOk Try.prog 41 := ⟨_, Try.func41, rfl, rfl⟩


/-! ### slices.Clone[[]byte,byte] -/
set_option maxRecDepth 20000 in
set_option maxHeartbeats 8000000 in
theorem wo_slices_Clone_byte_byte (K : Nat) (a0 : List Int) (r : (List Int)) (h : m_slices_Clone_byte_byte K a0 = some r) : Sp Try.prog 58 [.c (.row false 1 (a0.map en_u8))] [] (.c (.own 1 0 0 r.length)) [⟨0, 1, r.map en_u8⟩] := by
  refine Sp.of_W tabOk Try.func58 rfl rfl (Nat.le_of_ble_eq_true rfl) (Nat.le_of_ble_eq_true rfl) fun F hP hN hm => ?_
  obtain ⟨P, N, w0, σ0, β0, m⟩ := F
  obtain rfl : P = Try.prog := hP
  obtain rfl : N = 8 := hN
  obtain rfl : m = 1 := hm
  have he : Env ⟨Try.prog, 8, w0, σ0, β0, 1⟩ tab := ⟨Nat.le_of_ble_eq_true rfl, tabOk⟩
  unfold m_slices_Clone_byte_byte at h
  refine W_seq ?_
  refine W_regV he rfl ?_
  refine v0 (sA rfl [1] rfl) rfl ?_
  refine ve ?_
  refine W2 [0] [] [] (l := [(0, .c (.row _ _ _))]) (h := []) (h' := []) trivial rfl rfl rfl ?_
  refine W_seq ?_
  refine W_seq ?_
  refine W_regV he rfl ?_
  refine v0 (sM rfl [] rfl) rfl ?_
  refine vN rfl rfl rfl rfl rfl fun b1 hb1 => ?_
  cases b1 with
  | false =>
    refine ve ?_
    refine W2 [0, 4] [] [] (l := [(0, .c (.row _ _ _)), (4, .c (.bool false))]) (h := []) (h' := []) trivial rfl rfl rfl ?_
    refine W_false rfl ?_
    refine W_skip ?_
    refine W_seq ?_
    refine W_regV he rfl ?_
    refine v0 (sBS rfl 1005 (rows := ([] : List Int).map en_u8) rfl rfl rfl (by kernel_rfl) rfl rfl rfl rfl) rfl ?_
    refine v0 (sM rfl [] rfl) rfl ?_
    obtain ⟨c2, h⟩ := chk h
    refine v0 (sAo rfl 1002 ([] : List Int) a0 enOk_u8 rfl rfl rfl rfl rfl rfl rfl rfl rfl rfl rfl c2) rfl ?_
    refine v0 (sA rfl [] rfl) rfl ?_
    refine ve ?_
    refine W2 [2] [] [1002] (l := [(2, .c (.own _ _ _ _))]) (h := []) (h' := [(1002, ⟨0, 1, (([] : List Int) ++ a0).map en_u8⟩)]) ⟨⟨_, rfl, enOk_u8.allClosed _ _ (([] : List Int) ++ a0)⟩, trivial⟩ rfl rfl rfl ?_
    obtain rfl := Option.some.inj h
    exact W_ret (retOne 0 1002 (.inl rfl) enOk_u8 rfl rfl rfl)
  | true =>
    have hzb1 : a0 = [] := List.map_eq_nil_iff.1 (hb1 rfl)
    replace h : some [] = some r := by simpa [hzb1] using h
    refine ve ?_
    refine W2 [0, 4] [] [] (l := [(0, .c (.row _ _ _)), (4, .c (.bool true))]) (h := []) (h' := []) trivial rfl rfl rfl ?_
    refine W_true rfl ?_
    refine W_seq ?_
    refine W_regV he rfl ?_
    refine v0 (sA rfl [1] rfl) rfl ?_
    refine ve ?_
    refine W2 [2] [] [] (l := [(2, .c (.row _ _ _))]) (h := []) (h' := []) trivial rfl rfl rfl ?_
    obtain rfl := Option.some.inj h
    refine W_ownNil he 2 1900 rfl rfl ?_
    exact W_ret (retOne (l := ([] : List Int)) 0 1900 (.inl rfl) enOk_u8 rfl rfl rfl)


/-! ### loop.example/g00499/impl.PutVar -/
def l_impl_PutVar_6 (K : Nat) : Nat → Int → (List Int) → Option ((List Int))
  | 0, _, _ => none
  | n6 + 1, v4, v5 => (bif (decide (v4 > 127)) then (if (v5 ++ ([(IntKind.u8.wrap (iOr .i64 (iAnd .i64 v4 127) 128))] : List Int)).length * 1 ≤ 140737488355328 ∧ (v5 ++ ([(IntKind.u8.wrap (iOr .i64 (iAnd .i64 v4 127) 128))] : List Int)).length ≤ maxLen then (if (0 : Int) ≤ 7 then (l_impl_PutVar_6 K n6 (iShr .i64 v4 7) (v5 ++ ([(IntKind.u8.wrap (iOr .i64 (iAnd .i64 v4 127) 128))] : List Int))) else none) else none) else (if (v5 ++ ([(IntKind.u8.wrap v4)] : List Int)).length * 1 ≤ 140737488355328 ∧ (v5 ++ ([(IntKind.u8.wrap v4)] : List Int)).length ≤ maxLen then some (v5 ++ ([(IntKind.u8.wrap v4)] : List Int)) else none))
def m_impl_PutVar (K : Nat) (a0 : List Int) (a1 : Int) : Option ((List Int)) := ((m_slices_Clone_byte_byte K a0).bind fun r1 => ((m_impl_within K a1 0 1000000000).bind fun r2 => (bif r2 then (l_impl_PutVar_6 K K a1 r1) else some r1)))
set_option maxRecDepth 20000 in
set_option maxHeartbeats 8000000 in
theorem w_impl_PutVar (K : Nat) (a0 : List Int) (a1 : Int) (r : (List Int)) (h : m_impl_PutVar K a0 a1 = some r) : Sp Try.prog 25 [.c (.row false 1 (a0.map en_u8)), .c (.int .i64 a1)] [] (.c (.row false 1 (r.map en_u8))) [] := by
  refine Sp.of_W tabOk Try.func25 rfl rfl (Nat.le_of_ble_eq_true rfl) (Nat.le_of_ble_eq_true rfl) fun F hP hN hm => ?_
  obtain ⟨P, N, w0, σ0, β0, m⟩ := F
  obtain rfl : P = Try.prog := hP
  obtain rfl : N = 28 := hN
  obtain rfl : m = 1 := hm
  have he : Env ⟨Try.prog, 28, w0, σ0, β0, 1⟩ tab := ⟨Nat.le_of_ble_eq_true rfl, tabOk⟩
  unfold m_impl_PutVar at h
  refine W_seq ?_
  refine W_regV he rfl ?_
  refine v0 (sA rfl [1] rfl) rfl ?_
  refine ve ?_
  refine W2 [0, 1] [] [] (l := [(0, .c (.row _ _ _)), (1, .c (.int _ _))]) (h := []) (h' := []) trivial rfl rfl rfl ?_
  refine W_seq ?_
  refine W_regV he rfl ?_
  refine v0 (sM rfl [] rfl) rfl ?_
  obtain ⟨r1, hr1, h⟩ := bnd2 h
  refine v0 (sCo (wo_slices_Clone_byte_byte K a0 _ hr1) ok_slices_Clone_byte_byte (fun _ => rfl) [] 1005 rfl rfl rfl rfl rfl) rfl ?_
  refine v0 (sA rfl [] rfl) rfl ?_
  refine ve ?_
  refine W2 [1, 5] [] [1005] (l := [(1, .c (.int _ _)), (5, .c (.own _ _ _ _))]) (h := []) (h' := [(1005, ⟨0, 1, r1.map en_u8⟩)]) ⟨⟨_, rfl, enOk_u8.allClosed _ _ r1⟩, trivial⟩ rfl rfl rfl ?_
  refine W_seq ?_
  refine W_seq ?_
  refine W_regV he rfl ?_
  refine v0 (sM rfl [] rfl) rfl ?_
  obtain ⟨r2, hr2, h⟩ := bnd2 h
  refine vB (sCm (w_impl_within K a1 0 1000000000 _ hr2) ok_impl_within rfl rfl rfl rfl) rfl rfl fun b3 hb3 => ?_
  cases b3 with
  | true =>
    replace h := brT hb3 h
    refine v0 (sNt rfl rfl) rfl ?_
    refine ve ?_
    refine W2 [1, 5, 10] [] [1005] (l := [(1, .c (.int _ _)), (5, .c (.own _ _ _ _)), (10, .c (.bool false))]) (h := []) (h' := [(1005, ⟨0, 1, r1.map en_u8⟩)]) ⟨⟨_, rfl, enOk_u8.allClosed _ _ r1⟩, trivial⟩ rfl rfl rfl ?_
    refine W_false rfl ?_
    refine W_skip ?_
    refine W_seq ?_
    refine W_block ?_
    refine W2 [1, 5] [] [1005] (l := [(1, .c (.int _ _)), (5, .c (.own _ _ _ _))]) (h := []) (h' := [(1005, ⟨0, 1, r1.map en_u8⟩)]) ⟨⟨_, rfl, enOk_u8.allClosed _ _ r1⟩, trivial⟩ rfl rfl rfl ?_
    refine W_loopW (fun n6 S => ∃ (v4 : Int), ∃ (v5 : List Int), S = StL [(1, .c (.int .i64 v4)), (5, .c (.own 1005 0 0 v5.length))] ([] ++ [(1005, ⟨0, 1, v5.map en_u8⟩)]) ∧ l_impl_PutVar_6 K n6 v4 v5 = some r) K ⟨_, _, rfl, h⟩ ?_
    rintro n6 S ⟨v4, v5, rfl, h⟩
    cases n6 with
    | zero => simp [l_impl_PutVar_6] at h
    | succ n6 =>
      rw [l_impl_PutVar_6] at h
      refine W_seq ?_
      refine W_seq ?_
      refine W_regV he rfl ?_
      refine v0 (sM rfl [] rfl) rfl ?_
      refine vB (sBi rfl rfl rfl rfl) rfl rfl fun b7 hb7 => ?_
      cases b7 with
      | true =>
        replace h := brT hb7 h
        refine ve ?_
        refine W2 [1, 5, 13] [] [1005] (l := [(1, .c (.int _ _)), (5, .c (.own _ _ _ _)), (13, .c (.bool true))]) (h := []) (h' := [(1005, ⟨0, 1, v5.map en_u8⟩)]) ⟨⟨_, rfl, enOk_u8.allClosed _ _ v5⟩, trivial⟩ rfl rfl rfl ?_
        refine W_true rfl ?_
        refine W_skip ?_
        refine W_block ?_
        refine W_seq ?_
        refine W_regV he rfl ?_
        refine v0 (sM rfl [] rfl) rfl ?_
        refine v0 (sM rfl [] rfl) rfl ?_
        refine v0 (sBi rfl rfl rfl rfl) rfl ?_
        refine v0 (sBi rfl rfl rfl rfl) rfl ?_
        refine v0 (sCv rfl rfl rfl rfl rfl rfl) rfl ?_
        refine v0 (sBS rfl 1019 (rows := ([(IntKind.u8.wrap (iOr .i64 (iAnd .i64 v4 127) 128))] : List Int).map en_u8) rfl rfl rfl (by kernel_rfl) rfl rfl rfl rfl) rfl ?_
        obtain ⟨c8, h⟩ := chk h
        refine v0 (sAo rfl 1005 v5 ([(IntKind.u8.wrap (iOr .i64 (iAnd .i64 v4 127) 128))] : List Int) enOk_u8 rfl rfl rfl rfl rfl rfl rfl rfl rfl rfl rfl c8) rfl ?_
        refine v0 (sA rfl [] rfl) rfl ?_
        refine ve ?_
        refine W2 [1, 5] [] [1005] (l := [(1, .c (.int _ _)), (5, .c (.own _ _ _ _))]) (h := []) (h' := [(1005, ⟨0, 1, (v5 ++ ([(IntKind.u8.wrap (iOr .i64 (iAnd .i64 v4 127) 128))] : List Int)).map en_u8⟩)]) ⟨⟨_, rfl, enOk_u8.allClosed _ _ (v5 ++ ([(IntKind.u8.wrap (iOr .i64 (iAnd .i64 v4 127) 128))] : List Int))⟩, trivial⟩ rfl rfl rfl ?_
        refine W_regV he rfl ?_
        refine v0 (sM rfl [] rfl) rfl ?_
        obtain ⟨c9, h⟩ := chk h
        refine v0 (sSr rfl rfl rfl c9) rfl ?_
        refine v0 (sA rfl [] rfl) rfl ?_
        refine ve ?_
        exact ⟨n6, _, Nat.lt_succ_self n6, wk2 [1, 5] [] [1005] (l := [(1, .c (.int _ _)), (5, .c (.own _ _ _ _))]) (h := []) (h' := [(1005, ⟨0, 1, (v5 ++ ([(IntKind.u8.wrap (iOr .i64 (iAnd .i64 v4 127) 128))] : List Int)).map en_u8⟩)]) ⟨⟨_, rfl, enOk_u8.allClosed _ _ (v5 ++ ([(IntKind.u8.wrap (iOr .i64 (iAnd .i64 v4 127) 128))] : List Int))⟩, trivial⟩ rfl rfl rfl, _, _, rfl, h⟩
      | false =>
        replace h := brF hb7 h
        refine ve ?_
        refine W2 [1, 5, 13] [] [1005] (l := [(1, .c (.int _ _)), (5, .c (.own _ _ _ _)), (13, .c (.bool false))]) (h := []) (h' := [(1005, ⟨0, 1, v5.map en_u8⟩)]) ⟨⟨_, rfl, enOk_u8.allClosed _ _ v5⟩, trivial⟩ rfl rfl rfl ?_
        refine W_false rfl ?_
        refine W_exit (ex_then (ex_then (ex_hit ?_)))
        refine W_seq ?_
        refine W_regV he rfl ?_
        refine v0 (sM rfl [] rfl) rfl ?_
        refine v0 (sM rfl [] rfl) rfl ?_
        refine v0 (sCv rfl rfl rfl rfl rfl rfl) rfl ?_
        refine v0 (sBS rfl 1026 (rows := ([(IntKind.u8.wrap v4)] : List Int).map en_u8) rfl rfl rfl (by kernel_rfl) rfl rfl rfl rfl) rfl ?_
        obtain ⟨c10, h⟩ := chk h
        refine v0 (sAo rfl 1004 v5 ([(IntKind.u8.wrap v4)] : List Int) enOk_u8 rfl rfl rfl rfl rfl rfl rfl rfl rfl rfl rfl c10) rfl ?_
        refine v0 (sA rfl [] rfl) rfl ?_
        refine ve ?_
        refine W2 [4] [] [1004] (l := [(4, .c (.own _ _ _ _))]) (h := []) (h' := [(1004, ⟨0, 1, (v5 ++ ([(IntKind.u8.wrap v4)] : List Int)).map en_u8⟩)]) ⟨⟨_, rfl, enOk_u8.allClosed _ _ (v5 ++ ([(IntKind.u8.wrap v4)] : List Int))⟩, trivial⟩ rfl rfl rfl ?_
        obtain rfl := Option.some.inj h
        refine W.weak (wk_row (l := (v5 ++ ([(IntKind.u8.wrap v4)] : List Int))) 4 enOk_u8 rfl rfl) ?_
        exact W_ret (r0 rfl rfl)
  | false =>
    replace h := brF hb3 h
    refine v0 (sNt rfl rfl) rfl ?_
    refine ve ?_
    refine W2 [1, 5, 10] [] [1005] (l := [(1, .c (.int _ _)), (5, .c (.own _ _ _ _)), (10, .c (.bool true))]) (h := []) (h' := [(1005, ⟨0, 1, r1.map en_u8⟩)]) ⟨⟨_, rfl, enOk_u8.allClosed _ _ r1⟩, trivial⟩ rfl rfl rfl ?_
    refine W_true rfl ?_
    refine W_seq ?_
    refine W_regV he rfl ?_
    refine v0 (sM rfl [] rfl) rfl ?_
    refine v0 (sA rfl [] rfl) rfl ?_
    refine ve ?_
    refine W2 [4] [] [1005] (l := [(4, .c (.own _ _ _ _))]) (h := []) (h' := [(1005, ⟨0, 1, r1.map en_u8⟩)]) ⟨⟨_, rfl, enOk_u8.allClosed _ _ r1⟩, trivial⟩ rfl rfl rfl ?_
    obtain rfl := Option.some.inj h
    refine W.weak (wk_row (l := r1) 4 enOk_u8 rfl rfl) ?_
    exact W_ret (r0 rfl rfl)
theorem ok_impl_PutVar : FnOk Try.prog 25 := ⟨_, Try.func25, rfl, rfl⟩


/-! ### loop.example/g00499/impl.PutVar -/
set_option maxRecDepth 20000 in
set_option maxHeartbeats 8000000 in
theorem wo_impl_PutVar (K : Nat) (a0 : List Int) (a1 : Int) (r : (List Int)) (h : m_impl_PutVar K a0 a1 = some r) : Sp Try.prog 25 [.c (.row false 1 (a0.map en_u8)), .c (.int .i64 a1)] [] (.c (.own 1 0 0 r.length)) [⟨0, 1, r.map en_u8⟩] := by
  refine Sp.of_W tabOk Try.func25 rfl rfl (Nat.le_of_ble_eq_true rfl) (Nat.le_of_ble_eq_true rfl) fun F hP hN hm => ?_
  obtain ⟨P, N, w0, σ0, β0, m⟩ := F
  obtain rfl : P = Try.prog := hP
  obtain rfl : N = 28 := hN
  obtain rfl : m = 1 := hm
  have he : Env ⟨Try.prog, 28, w0, σ0, β0, 1⟩ tab := ⟨Nat.le_of_ble_eq_true rfl, tabOk⟩
  unfold m_impl_PutVar at h
  refine W_seq ?_
  refine W_regV he rfl ?_
  refine v0 (sA rfl [1] rfl) rfl ?_
  refine ve ?_
  refine W2 [0, 1] [] [] (l := [(0, .c (.row _ _ _)), (1, .c (.int _ _))]) (h := []) (h' := []) trivial rfl rfl rfl ?_
  refine W_seq ?_
  refine W_regV he rfl ?_
  refine v0 (sM rfl [] rfl) rfl ?_
  obtain ⟨r1, hr1, h⟩ := bnd2 h
  refine v0 (sCo (wo_slices_Clone_byte_byte K a0 _ hr1) ok_slices_Clone_byte_byte (fun _ => rfl) [] 1005 rfl rfl rfl rfl rfl) rfl ?_
  refine v0 (sA rfl [] rfl) rfl ?_
  refine ve ?_
  refine W2 [1, 5] [] [1005] (l := [(1, .c (.int _ _)), (5, .c (.own _ _ _ _))]) (h := []) (h' := [(1005, ⟨0, 1, r1.map en_u8⟩)]) ⟨⟨_, rfl, enOk_u8.allClosed _ _ r1⟩, trivial⟩ rfl rfl rfl ?_
  refine W_seq ?_
  refine W_seq ?_
  refine W_regV he rfl ?_
  refine v0 (sM rfl [] rfl) rfl ?_
  obtain ⟨r2, hr2, h⟩ := bnd2 h
  refine vB (sCm (w_impl_within K a1 0 1000000000 _ hr2) ok_impl_within rfl rfl rfl rfl) rfl rfl fun b3 hb3 => ?_
  cases b3 with
  | true =>
    replace h := brT hb3 h
    refine v0 (sNt rfl rfl) rfl ?_
    refine ve ?_
    refine W2 [1, 5, 10] [] [1005] (l := [(1, .c (.int _ _)), (5, .c (.own _ _ _ _)), (10, .c (.bool false))]) (h := []) (h' := [(1005, ⟨0, 1, r1.map en_u8⟩)]) ⟨⟨_, rfl, enOk_u8.allClosed _ _ r1⟩, trivial⟩ rfl rfl rfl ?_
    refine W_false rfl ?_
    refine W_skip ?_
    refine W_seq ?_
    refine W_block ?_
    refine W2 [1, 5] [] [1005] (l := [(1, .c (.int _ _)), (5, .c (.own _ _ _ _))]) (h := []) (h' := [(1005, ⟨0, 1, r1.map en_u8⟩)]) ⟨⟨_, rfl, enOk_u8.allClosed _ _ r1⟩, trivial⟩ rfl rfl rfl ?_
    refine W_loopW (fun n6 S => ∃ (v4 : Int), ∃ (v5 : List Int), S = StL [(1, .c (.int .i64 v4)), (5, .c (.own 1005 0 0 v5.length))] ([] ++ [(1005, ⟨0, 1, v5.map en_u8⟩)]) ∧ l_impl_PutVar_6 K n6 v4 v5 = some r) K ⟨_, _, rfl, h⟩ ?_
    rintro n6 S ⟨v4, v5, rfl, h⟩
    cases n6 with
    | zero => simp [l_impl_PutVar_6] at h
    | succ n6 =>
      rw [l_impl_PutVar_6] at h
      refine W_seq ?_
      refine W_seq ?_
      refine W_regV he rfl ?_
      refine v0 (sM rfl [] rfl) rfl ?_
      refine vB (sBi rfl rfl rfl rfl) rfl rfl fun b7 hb7 => ?_
      cases b7 with
      | true =>
        replace h := brT hb7 h
        refine ve ?_
        refine W2 [1, 5, 13] [] [1005] (l := [(1, .c (.int _ _)), (5, .c (.own _ _ _ _)), (13, .c (.bool true))]) (h := []) (h' := [(1005, ⟨0, 1, v5.map en_u8⟩)]) ⟨⟨_, rfl, enOk_u8.allClosed _ _ v5⟩, trivial⟩ rfl rfl rfl ?_
        refine W_true rfl ?_
        refine W_skip ?_
        refine W_block ?_
        refine W_seq ?_
        refine W_regV he rfl ?_
        refine v0 (sM rfl [] rfl) rfl ?_
        refine v0 (sM rfl [] rfl) rfl ?_
        refine v0 (sBi rfl rfl rfl rfl) rfl ?_
        refine v0 (sBi rfl rfl rfl rfl) rfl ?_
        refine v0 (sCv rfl rfl rfl rfl rfl rfl) rfl ?_
        refine v0 (sBS rfl 1019 (rows := ([(IntKind.u8.wrap (iOr .i64 (iAnd .i64 v4 127) 128))] : List Int).map en_u8) rfl rfl rfl (by kernel_rfl) rfl rfl rfl rfl) rfl ?_
        obtain ⟨c8, h⟩ := chk h
        refine v0 (sAo rfl 1005 v5 ([(IntKind.u8.wrap (iOr .i64 (iAnd .i64 v4 127) 128))] : List Int) enOk_u8 rfl rfl rfl rfl rfl rfl rfl rfl rfl rfl rfl c8) rfl ?_
        refine v0 (sA rfl [] rfl) rfl ?_
        refine ve ?_
        refine W2 [1, 5] [] [1005] (l := [(1, .c (.int _ _)), (5, .c (.own _ _ _ _))]) (h := []) (h' := [(1005, ⟨0, 1, (v5 ++ ([(IntKind.u8.wrap (iOr .i64 (iAnd .i64 v4 127) 128))] : List Int)).map en_u8⟩)]) ⟨⟨_, rfl, enOk_u8.allClosed _ _ (v5 ++ ([(IntKind.u8.wrap (iOr .i64 (iAnd .i64 v4 127) 128))] : List Int))⟩, trivial⟩ rfl rfl rfl ?_
        refine W_regV he rfl ?_
        refine v0 (sM rfl [] rfl) rfl ?_
        obtain ⟨c9, h⟩ := chk h
        refine v0 (sSr rfl rfl rfl c9) rfl ?_
        refine v0 (sA rfl [] rfl) rfl ?_
        refine ve ?_
        exact ⟨n6, _, Nat.lt_succ_self n6, wk2 [1, 5] [] [1005] (l := [(1, .c (.int _ _)), (5, .c (.own _ _ _ _))]) (h := []) (h' := [(1005, ⟨0, 1, (v5 ++ ([(IntKind.u8.wrap (iOr .i64 (iAnd .i64 v4 127) 128))] : List Int)).map en_u8⟩)]) ⟨⟨_, rfl, enOk_u8.allClosed _ _ (v5 ++ ([(IntKind.u8.wrap (iOr .i64 (iAnd .i64 v4 127) 128))] : List Int))⟩, trivial⟩ rfl rfl rfl, _, _, rfl, h⟩
      | false =>
        replace h := brF hb7 h
        refine ve ?_
        refine W2 [1, 5, 13] [] [1005] (l := [(1, .c (.int _ _)), (5, .c (.own _ _ _ _)), (13, .c (.bool false))]) (h := []) (h' := [(1005, ⟨0, 1, v5.map en_u8⟩)]) ⟨⟨_, rfl, enOk_u8.allClosed _ _ v5⟩, trivial⟩ rfl rfl rfl ?_
        refine W_false rfl ?_
        refine W_exit (ex_then (ex_then (ex_hit ?_)))
        refine W_seq ?_
        refine W_regV he rfl ?_
        refine v0 (sM rfl [] rfl) rfl ?_
        refine v0 (sM rfl [] rfl) rfl ?_
        refine v0 (sCv rfl rfl rfl rfl rfl rfl) rfl ?_
        refine v0 (sBS rfl 1026 (rows := ([(IntKind.u8.wrap v4)] : List Int).map en_u8) rfl rfl rfl (by kernel_rfl) rfl rfl rfl rfl) rfl ?_
        obtain ⟨c10, h⟩ := chk h
        refine v0 (sAo rfl 1004 v5 ([(IntKind.u8.wrap v4)] : List Int) enOk_u8 rfl rfl rfl rfl rfl rfl rfl rfl rfl rfl rfl c10) rfl ?_
        refine v0 (sA rfl [] rfl) rfl ?_
        refine ve ?_
        refine W2 [4] [] [1004] (l := [(4, .c (.own _ _ _ _))]) (h := []) (h' := [(1004, ⟨0, 1, (v5 ++ ([(IntKind.u8.wrap v4)] : List Int)).map en_u8⟩)]) ⟨⟨_, rfl, enOk_u8.allClosed _ _ (v5 ++ ([(IntKind.u8.wrap v4)] : List Int))⟩, trivial⟩ rfl rfl rfl ?_
        obtain rfl := Option.some.inj h
        exact W_ret (retOne 0 1004 (.inl rfl) enOk_u8 rfl rfl rfl)
  | false =>
    replace h := brF hb3 h
    refine v0 (sNt rfl rfl) rfl ?_
    refine ve ?_
    refine W2 [1, 5, 10] [] [1005] (l := [(1, .c (.int _ _)), (5, .c (.own _ _ _ _)), (10, .c (.bool true))]) (h := []) (h' := [(1005, ⟨0, 1, r1.map en_u8⟩)]) ⟨⟨_, rfl, enOk_u8.allClosed _ _ r1⟩, trivial⟩ rfl rfl rfl ?_
    refine W_true rfl ?_
    refine W_seq ?_
    refine W_regV he rfl ?_
    refine v0 (sM rfl [] rfl) rfl ?_
    refine v0 (sA rfl [] rfl) rfl ?_
    refine ve ?_
    refine W2 [4] [] [1005] (l := [(4, .c (.own _ _ _ _))]) (h := []) (h' := [(1005, ⟨0, 1, r1.map en_u8⟩)]) ⟨⟨_, rfl, enOk_u8.allClosed _ _ r1⟩, trivial⟩ rfl rfl rfl ?_
    obtain rfl := Option.some.inj h
    exact W_ret (retOne 0 1005 (.inl rfl) enOk_u8 rfl rfl rfl)


/-! ### loop.example/g00499/impl.PutOp -/
def l_impl_PutOp_5 (K : Nat) (a0 : T_impl_Op) : Nat → (List Int) → Int → Option ((List Int))
  | 0, _, _ => none
  | n5 + 1, v3, v4 => (bif (decide (v4 < (([a0.fKind, a0.fH.fSlot, a0.fH.fGen, a0.fR.fH.fSlot, a0.fR.fH.fGen, a0.fR.fEp, a0.fR.fNo, a0.fN, a0.fM, (a0.fB.length : Int)] : List Int).length : Int))) then (if (0 : Int) ≤ v4 ∧ v4 < (([a0.fKind, a0.fH.fSlot, a0.fH.fGen, a0.fR.fH.fSlot, a0.fR.fH.fGen, a0.fR.fEp, a0.fR.fNo, a0.fN, a0.fM, (a0.fB.length : Int)] : List Int).length : Int) then ((m_impl_PutVar K v3 (gt ([a0.fKind, a0.fH.fSlot, a0.fH.fGen, a0.fR.fH.fSlot, a0.fR.fH.fGen, a0.fR.fEp, a0.fR.fNo, a0.fN, a0.fM, (a0.fB.length : Int)] : List Int) v4)).bind fun r8 => (l_impl_PutOp_5 K a0 n5 r8 (iAdd .i64 v4 1))) else none) else (if (v3 ++ a0.fB).length * 1 ≤ 140737488355328 ∧ (v3 ++ a0.fB).length ≤ maxLen then some (v3 ++ a0.fB) else none))
def m_impl_PutOp (K : Nat) (a0 : T_impl_Op) : Option ((List Int)) := ((m_impl_OpOk K a0).bind fun r1 => (bif r1 then (l_impl_PutOp_5 K a0 K ([] : List Int) 0) else some ([] : List Int)))
set_option maxRecDepth 20000 in
set_option maxHeartbeats 8000000 in
theorem w_impl_PutOp (K : Nat) (a0 : T_impl_Op) (r : (List Int)) (h : m_impl_PutOp K a0 = some r) : Sp Try.prog 47 [.g [.int .i64 a0.fKind, .int .i64 a0.fH.fSlot, .int .i64 a0.fH.fGen, .int .i64 a0.fR.fH.fSlot, .int .i64 a0.fR.fH.fGen, .int .i64 a0.fR.fEp, .int .i64 a0.fR.fNo, .int .i64 a0.fN, .int .i64 a0.fM, .row false 1 (a0.fB.map en_u8)]] [] (.c (.row false 1 (r.map en_u8))) [] := by
  refine Sp.of_W tabOk Try.func47 rfl rfl (Nat.le_of_ble_eq_true rfl) (Nat.le_of_ble_eq_true rfl) fun F hP hN hm => ?_
  obtain ⟨P, N, w0, σ0, β0, m⟩ := F
  obtain rfl : P = Try.prog := hP
  obtain rfl : N = 54 := hN
  obtain rfl : m = 1 := hm
  have he : Env ⟨Try.prog, 54, w0, σ0, β0, 1⟩ tab := ⟨Nat.le_of_ble_eq_true rfl, tabOk⟩
  unfold m_impl_PutOp at h
  refine W_seq ?_
  refine W_regV he rfl ?_
  refine v0 (sBx rfl [] rfl rfl 101 rfl) rfl ?_
  refine v0 (sA rfl [1] rfl) rfl ?_
  refine ve ?_
  refine W2 [1] [101] [] (l := [(1, .c (.ptr _ _ _ _))]) (h := [(101, ⟨0, 10, [[.int _ _, .int _ _, .int _ _, .int _ _, .int _ _, .int _ _, .int _ _, .int _ _, .int _ _, .row _ _ _]]⟩)]) (h' := []) trivial rfl rfl rfl ?_
  refine W_seq ?_
  refine W_regV he rfl ?_
  refine v0 (sBS rfl 1003 (rows := ([] : List Int).map en_u8) rfl rfl rfl (by kernel_rfl) rfl rfl rfl rfl) rfl ?_
  refine v0 (sA rfl [] rfl) rfl ?_
  refine ve ?_
  refine W2 [1, 3] [101] [1003] (l := [(1, .c (.ptr _ _ _ _)), (3, .c (.own _ _ _ _))]) (h := [(101, ⟨0, 10, [[.int _ _, .int _ _, .int _ _, .int _ _, .int _ _, .int _ _, .int _ _, .int _ _, .int _ _, .row _ _ _]]⟩)]) (h' := [(1003, ⟨0, 1, ([] : List Int).map en_u8⟩)]) ⟨⟨_, rfl, enOk_u8.allClosed _ _ ([] : List Int)⟩, trivial⟩ rfl rfl rfl ?_
  refine W_seq ?_
  refine W_seq ?_
  refine W_regV he rfl ?_
  refine v0 (sLd rfl rfl) rfl ?_
  obtain ⟨r1, hr1, h⟩ := bnd2 h
  refine vB (sCm (w_impl_OpOk K a0 _ hr1) ok_impl_OpOk rfl rfl rfl rfl) rfl rfl fun b2 hb2 => ?_
  cases b2 with
  | true =>
    replace h := brT hb2 h
    refine v0 (sNt rfl rfl) rfl ?_
    refine ve ?_
    refine W2 [1, 3, 9] [101] [1003] (l := [(1, .c (.ptr _ _ _ _)), (3, .c (.own _ _ _ _)), (9, .c (.bool false))]) (h := [(101, ⟨0, 10, [[.int _ _, .int _ _, .int _ _, .int _ _, .int _ _, .int _ _, .int _ _, .int _ _, .int _ _, .row _ _ _]]⟩)]) (h' := [(1003, ⟨0, 1, ([] : List Int).map en_u8⟩)]) ⟨⟨_, rfl, enOk_u8.allClosed _ _ ([] : List Int)⟩, trivial⟩ rfl rfl rfl ?_
    refine W_false rfl ?_
    refine W_skip ?_
    refine W_seq ?_
    refine W_seq ?_
    refine W_regV he rfl ?_
    refine v0 (sFP rfl rfl rfl) rfl ?_
    refine v0 (sLd rfl rfl) rfl ?_
    refine v0 (sFP rfl rfl rfl) rfl ?_
    refine v0 (sFP rfl rfl rfl) rfl ?_
    refine v0 (sLd rfl rfl) rfl ?_
    refine v0 (sFP rfl rfl rfl) rfl ?_
    refine v0 (sFP rfl rfl rfl) rfl ?_
    refine v0 (sLd rfl rfl) rfl ?_
    refine v0 (sFP rfl rfl rfl) rfl ?_
    refine v0 (sFP rfl rfl rfl) rfl ?_
    refine v0 (sFP rfl rfl rfl) rfl ?_
    refine v0 (sLd rfl rfl) rfl ?_
    refine v0 (sFP rfl rfl rfl) rfl ?_
    refine v0 (sFP rfl rfl rfl) rfl ?_
    refine v0 (sFP rfl rfl rfl) rfl ?_
    refine v0 (sLd rfl rfl) rfl ?_
    refine v0 (sFP rfl rfl rfl) rfl ?_
    refine v0 (sFP rfl rfl rfl) rfl ?_
    refine v0 (sLd rfl rfl) rfl ?_
    refine v0 (sFP rfl rfl rfl) rfl ?_
    refine v0 (sFP rfl rfl rfl) rfl ?_
    refine v0 (sLd rfl rfl) rfl ?_
    refine v0 (sFP rfl rfl rfl) rfl ?_
    refine v0 (sLd rfl rfl) rfl ?_
    refine v0 (sFP rfl rfl rfl) rfl ?_
    refine v0 (sLd rfl rfl) rfl ?_
    refine v0 (sFP rfl rfl rfl) rfl ?_
    refine v0 (sLd rfl rfl) rfl ?_
    refine v0 (sLm rfl rfl rfl rfl) rfl ?_
    refine v0 (sBS rfl 1040 (rows := ([a0.fKind, a0.fH.fSlot, a0.fH.fGen, a0.fR.fH.fSlot, a0.fR.fH.fGen, a0.fR.fEp, a0.fR.fNo, a0.fN, a0.fM, (a0.fB.length : Int)] : List Int).map en_i64) rfl rfl rfl (by kernel_rfl) rfl rfl rfl rfl) rfl ?_
    refine v0 (sLo rfl rfl rfl rfl) rfl ?_
    refine v0 (sM rfl [] rfl) rfl ?_
    refine ve ?_
    refine W2 [1, 3, 40, 41, 42] [101] [1003, 1040] (l := [(1, .c (.ptr _ _ _ _)), (3, .c (.own _ _ _ _)), (40, .c (.own _ _ _ _)), (41, .c (.int _ _)), (42, .c (.int _ _))]) (h := [(101, ⟨0, 10, [[.int _ _, .int _ _, .int _ _, .int _ _, .int _ _, .int _ _, .int _ _, .int _ _, .int _ _, .row _ _ _]]⟩)]) (h' := [(1003, ⟨0, 1, ([] : List Int).map en_u8⟩), (1040, ⟨0, 1, ([a0.fKind, a0.fH.fSlot, a0.fH.fGen, a0.fR.fH.fSlot, a0.fR.fH.fGen, a0.fR.fEp, a0.fR.fNo, a0.fN, a0.fM, (a0.fB.length : Int)] : List Int).map en_i64⟩)]) ⟨⟨_, rfl, enOk_u8.allClosed _ _ ([] : List Int)⟩, ⟨⟨_, rfl, enOk_i64.allClosed _ _ ([a0.fKind, a0.fH.fSlot, a0.fH.fGen, a0.fR.fH.fSlot, a0.fR.fH.fGen, a0.fR.fEp, a0.fR.fNo, a0.fN, a0.fM, (a0.fB.length : Int)] : List Int)⟩, trivial⟩⟩ rfl rfl rfl ?_
    refine W_block ?_
    refine W2 [1, 3, 40, 41, 42] [101] [1003, 1040] (l := [(1, .c (.ptr _ _ _ _)), (3, .c (.own _ _ _ _)), (40, .c (.own _ _ _ _)), (41, .c (.int _ _)), (42, .c (.int _ _))]) (h := [(101, ⟨0, 10, [[.int _ _, .int _ _, .int _ _, .int _ _, .int _ _, .int _ _, .int _ _, .int _ _, .int _ _, .row _ _ _]]⟩)]) (h' := [(1003, ⟨0, 1, ([] : List Int).map en_u8⟩), (1040, ⟨0, 1, ([a0.fKind, a0.fH.fSlot, a0.fH.fGen, a0.fR.fH.fSlot, a0.fR.fH.fGen, a0.fR.fEp, a0.fR.fNo, a0.fN, a0.fM, (a0.fB.length : Int)] : List Int).map en_i64⟩)]) ⟨⟨_, rfl, enOk_u8.allClosed _ _ ([] : List Int)⟩, ⟨⟨_, rfl, enOk_i64.allClosed _ _ ([a0.fKind, a0.fH.fSlot, a0.fH.fGen, a0.fR.fH.fSlot, a0.fR.fH.fGen, a0.fR.fEp, a0.fR.fNo, a0.fN, a0.fM, (a0.fB.length : Int)] : List Int)⟩, trivial⟩⟩ rfl rfl rfl ?_
    refine W_loopW (fun n5 S => ∃ (v3 : List Int), ∃ (v4 : Int), S = StL [(1, .c (.ptr 101 0 0 0)), (3, .c (.own 1003 0 0 v3.length)), (40, .c (.own 1040 0 0 ([a0.fKind, a0.fH.fSlot, a0.fH.fGen, a0.fR.fH.fSlot, a0.fR.fH.fGen, a0.fR.fEp, a0.fR.fNo, a0.fN, a0.fM, (a0.fB.length : Int)] : List Int).length)), (41, .c (.int .i64 (([a0.fKind, a0.fH.fSlot, a0.fH.fGen, a0.fR.fH.fSlot, a0.fR.fH.fGen, a0.fR.fEp, a0.fR.fNo, a0.fN, a0.fM, (a0.fB.length : Int)] : List Int).length : Int))), (42, .c (.int .i64 v4))] ([(101, ⟨0, 10, [[.int .i64 a0.fKind, .int .i64 a0.fH.fSlot, .int .i64 a0.fH.fGen, .int .i64 a0.fR.fH.fSlot, .int .i64 a0.fR.fH.fGen, .int .i64 a0.fR.fEp, .int .i64 a0.fR.fNo, .int .i64 a0.fN, .int .i64 a0.fM, .row false 1 (a0.fB.map en_u8)]]⟩)] ++ [(1003, ⟨0, 1, v3.map en_u8⟩), (1040, ⟨0, 1, ([a0.fKind, a0.fH.fSlot, a0.fH.fGen, a0.fR.fH.fSlot, a0.fR.fH.fGen, a0.fR.fEp, a0.fR.fNo, a0.fN, a0.fM, (a0.fB.length : Int)] : List Int).map en_i64⟩)]) ∧ l_impl_PutOp_5 K a0 n5 v3 v4 = some r) K ⟨_, _, rfl, h⟩ ?_
    rintro n5 S ⟨v3, v4, rfl, h⟩
    cases n5 with
    | zero => simp [l_impl_PutOp_5] at h
    | succ n5 =>
      rw [l_impl_PutOp_5] at h
      refine W_seq ?_
      refine W_regV he rfl ?_
      refine vB (sBi rfl rfl rfl rfl) rfl rfl fun b6 hb6 => ?_
      cases b6 with
      | true =>
        replace h := brT hb6 h
        refine ve ?_
        refine W2 [1, 3, 40, 41, 42, 43] [101] [1003, 1040] (l := [(1, .c (.ptr _ _ _ _)), (3, .c (.own _ _ _ _)), (40, .c (.own _ _ _ _)), (41, .c (.int _ _)), (42, .c (.int _ _)), (43, .c (.bool true))]) (h := [(101, ⟨0, 10, [[.int _ _, .int _ _, .int _ _, .int _ _, .int _ _, .int _ _, .int _ _, .int _ _, .int _ _, .row _ _ _]]⟩)]) (h' := [(1003, ⟨0, 1, v3.map en_u8⟩), (1040, ⟨0, 1, ([a0.fKind, a0.fH.fSlot, a0.fH.fGen, a0.fR.fH.fSlot, a0.fR.fH.fGen, a0.fR.fEp, a0.fR.fNo, a0.fN, a0.fM, (a0.fB.length : Int)] : List Int).map en_i64⟩)]) ⟨⟨_, rfl, enOk_u8.allClosed _ _ v3⟩, ⟨⟨_, rfl, enOk_i64.allClosed _ _ ([a0.fKind, a0.fH.fSlot, a0.fH.fGen, a0.fR.fH.fSlot, a0.fR.fH.fGen, a0.fR.fEp, a0.fR.fNo, a0.fN, a0.fM, (a0.fB.length : Int)] : List Int)⟩, trivial⟩⟩ rfl rfl rfl ?_
        refine W_seq ?_
        refine W_true rfl ?_
        refine W_skip ?_
        refine W_seq ?_
        refine W_block ?_
        refine W_seq ?_
        refine W_regV he rfl ?_
        obtain ⟨c7, h⟩ := chk h
        refine v0 (sIOm rfl rfl rfl c7) rfl ?_
        refine v0 (sLkm rfl ([a0.fKind, a0.fH.fSlot, a0.fH.fGen, a0.fR.fH.fSlot, a0.fR.fH.fGen, a0.fR.fEp, a0.fR.fNo, a0.fN, a0.fM, (a0.fB.length : Int)] : List Int) c7 rfl rfl rfl rfl rfl rfl) rfl ?_
        refine v0 (sA rfl [] rfl) rfl ?_
        refine ve ?_
        refine W2 [1, 3, 5, 40, 41, 42] [101] [1003, 1040] (l := [(1, .c (.ptr _ _ _ _)), (3, .c (.own _ _ _ _)), (5, .c (.int _ _)), (40, .c (.own _ _ _ _)), (41, .c (.int _ _)), (42, .c (.int _ _))]) (h := [(101, ⟨0, 10, [[.int _ _, .int _ _, .int _ _, .int _ _, .int _ _, .int _ _, .int _ _, .int _ _, .int _ _, .row _ _ _]]⟩)]) (h' := [(1003, ⟨0, 1, v3.map en_u8⟩), (1040, ⟨0, 1, ([a0.fKind, a0.fH.fSlot, a0.fH.fGen, a0.fR.fH.fSlot, a0.fR.fH.fGen, a0.fR.fEp, a0.fR.fNo, a0.fN, a0.fM, (a0.fB.length : Int)] : List Int).map en_i64⟩)]) ⟨⟨_, rfl, enOk_u8.allClosed _ _ v3⟩, ⟨⟨_, rfl, enOk_i64.allClosed _ _ ([a0.fKind, a0.fH.fSlot, a0.fH.fGen, a0.fR.fH.fSlot, a0.fR.fH.fGen, a0.fR.fEp, a0.fR.fNo, a0.fN, a0.fM, (a0.fB.length : Int)] : List Int)⟩, trivial⟩⟩ rfl rfl rfl ?_
        refine W_regV he rfl ?_
        refine v0 (sM rfl [] rfl) rfl ?_
        refine v0 (sM rfl [] rfl) rfl ?_
        obtain ⟨r8, hr8, h⟩ := bnd2 h
        refine v0 (sCo (wo_impl_PutVar K v3 (gt ([a0.fKind, a0.fH.fSlot, a0.fH.fGen, a0.fR.fH.fSlot, a0.fR.fH.fGen, a0.fR.fEp, a0.fR.fNo, a0.fN, a0.fM, (a0.fB.length : Int)] : List Int) v4) _ hr8) ok_impl_PutVar (fun _ => rfl) [1003] 1003 rfl rfl rfl (low_cons (low_lent (l := v3) enOk_u8 rfl rfl rfl) (low_cons (rfl) (low_nil))) rfl) rfl ?_
        refine v0 (sA rfl [] rfl) rfl ?_
        refine ve ?_
        refine W2 [1, 3, 40, 41, 42] [101] [1003, 1040] (l := [(1, .c (.ptr _ _ _ _)), (3, .c (.own _ _ _ _)), (40, .c (.own _ _ _ _)), (41, .c (.int _ _)), (42, .c (.int _ _))]) (h := [(101, ⟨0, 10, [[.int _ _, .int _ _, .int _ _, .int _ _, .int _ _, .int _ _, .int _ _, .int _ _, .int _ _, .row _ _ _]]⟩)]) (h' := [(1003, ⟨0, 1, r8.map en_u8⟩), (1040, ⟨0, 1, ([a0.fKind, a0.fH.fSlot, a0.fH.fGen, a0.fR.fH.fSlot, a0.fR.fH.fGen, a0.fR.fEp, a0.fR.fNo, a0.fN, a0.fM, (a0.fB.length : Int)] : List Int).map en_i64⟩)]) ⟨⟨_, rfl, enOk_u8.allClosed _ _ r8⟩, ⟨⟨_, rfl, enOk_i64.allClosed _ _ ([a0.fKind, a0.fH.fSlot, a0.fH.fGen, a0.fR.fH.fSlot, a0.fR.fH.fGen, a0.fR.fEp, a0.fR.fNo, a0.fN, a0.fM, (a0.fB.length : Int)] : List Int)⟩, trivial⟩⟩ rfl rfl rfl ?_
        refine W_regV he rfl ?_
        refine v0 (sBi rfl rfl rfl rfl) rfl ?_
        refine v0 (sM rfl [] rfl) rfl ?_
        refine ve ?_
        exact ⟨n5, _, Nat.lt_succ_self n5, wk2 [1, 3, 40, 41, 42] [101] [1003, 1040] (l := [(1, .c (.ptr _ _ _ _)), (3, .c (.own _ _ _ _)), (40, .c (.own _ _ _ _)), (41, .c (.int _ _)), (42, .c (.int _ _))]) (h := [(101, ⟨0, 10, [[.int _ _, .int _ _, .int _ _, .int _ _, .int _ _, .int _ _, .int _ _, .int _ _, .int _ _, .row _ _ _]]⟩)]) (h' := [(1003, ⟨0, 1, r8.map en_u8⟩), (1040, ⟨0, 1, ([a0.fKind, a0.fH.fSlot, a0.fH.fGen, a0.fR.fH.fSlot, a0.fR.fH.fGen, a0.fR.fEp, a0.fR.fNo, a0.fN, a0.fM, (a0.fB.length : Int)] : List Int).map en_i64⟩)]) ⟨⟨_, rfl, enOk_u8.allClosed _ _ r8⟩, ⟨⟨_, rfl, enOk_i64.allClosed _ _ ([a0.fKind, a0.fH.fSlot, a0.fH.fGen, a0.fR.fH.fSlot, a0.fR.fH.fGen, a0.fR.fEp, a0.fR.fNo, a0.fN, a0.fM, (a0.fB.length : Int)] : List Int)⟩, trivial⟩⟩ rfl rfl rfl, _, _, rfl, h⟩
      | false =>
        replace h := brF hb6 h
        refine ve ?_
        refine W2 [1, 3, 40, 41, 42, 43] [101] [1003, 1040] (l := [(1, .c (.ptr _ _ _ _)), (3, .c (.own _ _ _ _)), (40, .c (.own _ _ _ _)), (41, .c (.int _ _)), (42, .c (.int _ _)), (43, .c (.bool false))]) (h := [(101, ⟨0, 10, [[.int _ _, .int _ _, .int _ _, .int _ _, .int _ _, .int _ _, .int _ _, .int _ _, .int _ _, .row _ _ _]]⟩)]) (h' := [(1003, ⟨0, 1, v3.map en_u8⟩), (1040, ⟨0, 1, ([a0.fKind, a0.fH.fSlot, a0.fH.fGen, a0.fR.fH.fSlot, a0.fR.fH.fGen, a0.fR.fEp, a0.fR.fNo, a0.fN, a0.fM, (a0.fB.length : Int)] : List Int).map en_i64⟩)]) ⟨⟨_, rfl, enOk_u8.allClosed _ _ v3⟩, ⟨⟨_, rfl, enOk_i64.allClosed _ _ ([a0.fKind, a0.fH.fSlot, a0.fH.fGen, a0.fR.fH.fSlot, a0.fR.fH.fGen, a0.fR.fEp, a0.fR.fNo, a0.fN, a0.fM, (a0.fB.length : Int)] : List Int)⟩, trivial⟩⟩ rfl rfl rfl ?_
        refine W_seq ?_
        refine W_false rfl ?_
        refine W_exit (ex_then (ex_then (ex_hit ?_)))
        refine W_seq ?_
        refine W_regV he rfl ?_
        refine v0 (sM rfl [] rfl) rfl ?_
        refine v0 (sFP rfl rfl rfl) rfl ?_
        refine v0 (sLd rfl rfl) rfl ?_
        obtain ⟨c9, h⟩ := chk h
        refine v0 (sAo rfl 1002 v3 a0.fB enOk_u8 rfl rfl rfl rfl rfl rfl rfl rfl rfl rfl rfl c9) rfl ?_
        refine v0 (sA rfl [] rfl) rfl ?_
        refine ve ?_
        refine W2 [2] [] [1002] (l := [(2, .c (.own _ _ _ _))]) (h := []) (h' := [(1002, ⟨0, 1, (v3 ++ a0.fB).map en_u8⟩)]) ⟨⟨_, rfl, enOk_u8.allClosed _ _ (v3 ++ a0.fB)⟩, trivial⟩ rfl rfl rfl ?_
        obtain rfl := Option.some.inj h
        refine W.weak (wk_row (l := (v3 ++ a0.fB)) 2 enOk_u8 rfl rfl) ?_
        exact W_ret (r0 rfl rfl)
  | false =>
    replace h := brF hb2 h
    refine v0 (sNt rfl rfl) rfl ?_
    refine ve ?_
    refine W2 [1, 3, 9] [101] [1003] (l := [(1, .c (.ptr _ _ _ _)), (3, .c (.own _ _ _ _)), (9, .c (.bool true))]) (h := [(101, ⟨0, 10, [[.int _ _, .int _ _, .int _ _, .int _ _, .int _ _, .int _ _, .int _ _, .int _ _, .int _ _, .row _ _ _]]⟩)]) (h' := [(1003, ⟨0, 1, ([] : List Int).map en_u8⟩)]) ⟨⟨_, rfl, enOk_u8.allClosed _ _ ([] : List Int)⟩, trivial⟩ rfl rfl rfl ?_
    refine W_true rfl ?_
    refine W_seq ?_
    refine W_regV he rfl ?_
    refine v0 (sM rfl [] rfl) rfl ?_
    refine v0 (sA rfl [] rfl) rfl ?_
    refine ve ?_
    refine W2 [2] [] [1003] (l := [(2, .c (.own _ _ _ _))]) (h := []) (h' := [(1003, ⟨0, 1, ([] : List Int).map en_u8⟩)]) ⟨⟨_, rfl, enOk_u8.allClosed _ _ ([] : List Int)⟩, trivial⟩ rfl rfl rfl ?_
    obtain rfl := Option.some.inj h
    refine W.weak (wk_row (l := ([] : List Int)) 2 enOk_u8 rfl rfl) ?_
    exact W_ret (r0 rfl rfl)
theorem ok_impl_PutOp : FnOk Try.prog 47 := ⟨_, Try.func47, rfl, rfl⟩


/-! ### bytes.Equal -/
def m_bytes_Equal (K : Nat) (a0 : List Int) (a1 : List Int) : Option (Bool) := some ((strOfNums a0).toList == (strOfNums a1).toList)
set_option maxRecDepth 20000 in
set_option maxHeartbeats 8000000 in
theorem w_bytes_Equal (K : Nat) (a0 : List Int) (a1 : List Int) (r : Bool) (h : m_bytes_Equal K a0 a1 = some r) : Sp Try.prog 73 [.c (.row false 1 (a0.map en_u8)), .c (.row false 1 (a1.map en_u8))] [] (.c (.bool r)) [] := by
  refine Sp.of_W tabOk Try.func73 rfl rfl (Nat.le_of_ble_eq_true rfl) (Nat.le_of_ble_eq_true rfl) fun F hP hN hm => ?_
  obtain ⟨P, N, w0, σ0, β0, m⟩ := F
  obtain rfl : P = Try.prog := hP
  obtain rfl : N = 10 := hN
  obtain rfl : m = 1 := hm
  have he : Env ⟨Try.prog, 10, w0, σ0, β0, 1⟩ tab := ⟨Nat.le_of_ble_eq_true rfl, tabOk⟩
  unfold m_bytes_Equal at h
  refine W_seq ?_
  refine W_regV he rfl ?_
  refine v0 (sA rfl [] rfl) rfl ?_
  refine ve ?_
  refine W2 [0, 1] [] [] (l := [(0, .c (.row _ _ _)), (1, .c (.row _ _ _))]) (h := []) (h' := []) trivial rfl rfl rfl ?_
  refine W_seq ?_
  refine W_regV he rfl ?_
  refine v0 (sM rfl [] rfl) rfl ?_
  refine v0 (sCvS rfl (f := en_u8) (ls := a0) (fun _ => rfl) rfl rfl rfl rfl rfl rfl rfl) rfl ?_
  refine v0 (sM rfl [] rfl) rfl ?_
  refine v0 (sCvS rfl (f := en_u8) (ls := a1) (fun _ => rfl) rfl rfl rfl rfl rfl rfl rfl) rfl ?_
  refine v0 (sStrE rfl (.inl rfl) rfl rfl) rfl ?_
  refine v0 (sA rfl [] rfl) rfl ?_
  refine ve ?_
  refine W2 [4] [] [] (l := [(4, .c (.bool _))]) (h := []) (h' := []) trivial rfl rfl rfl ?_
  obtain rfl := Option.some.inj h
  exact W_ret (r0 rfl rfl)
theorem ok_bytes_Equal : FnOk Try.prog 73 := ⟨_, Try.func73, rfl, rfl⟩


/-! ### loop.example/g00499/impl.GetOp -/
def l_impl_GetOp_4 (K : Nat) (a0 : List Int) : Nat → Int → Int → (List Int) → Option (T_impl_Op × Bool)
  | 0, _, _, _ => none
  | n4 + 1, v1, v2, v3 => (bif (decide (v2 < 10)) then ((m_impl_GetVar K a0 v1).bind fun r6 => (bif r6.2.2 then (if (0 : Int) ≤ v2 ∧ v2 < (10 : Int) then (if (0 : Int) ≤ v2 ∧ v2 < (v3.length : Int) then (l_impl_GetOp_4 K a0 n4 r6.2.1 (iAdd .i64 v2 1) (v3.set v2.toNat r6.1)) else none) else none) else some ((T_impl_Op.mk 0 (T_impl_Handle.mk 0 0) (T_impl_Ref.mk (T_impl_Handle.mk 0 0) 0 0) 0 0 []), false))) else (if (0 : Int) ≤ 0 ∧ 0 < (10 : Int) then (if (0 : Int) ≤ 0 ∧ 0 < (v3.length : Int) then (if (0 : Int) ≤ 1 ∧ 1 < (10 : Int) then (if (0 : Int) ≤ 1 ∧ 1 < (v3.length : Int) then (if (0 : Int) ≤ 2 ∧ 2 < (10 : Int) then (if (0 : Int) ≤ 2 ∧ 2 < (v3.length : Int) then (if (0 : Int) ≤ 3 ∧ 3 < (10 : Int) then (if (0 : Int) ≤ 3 ∧ 3 < (v3.length : Int) then (if (0 : Int) ≤ 4 ∧ 4 < (10 : Int) then (if (0 : Int) ≤ 4 ∧ 4 < (v3.length : Int) then (if (0 : Int) ≤ 5 ∧ 5 < (10 : Int) then (if (0 : Int) ≤ 5 ∧ 5 < (v3.length : Int) then (if (0 : Int) ≤ 6 ∧ 6 < (10 : Int) then (if (0 : Int) ≤ 6 ∧ 6 < (v3.length : Int) then (if (0 : Int) ≤ 7 ∧ 7 < (10 : Int) then (if (0 : Int) ≤ 7 ∧ 7 < (v3.length : Int) then (if (0 : Int) ≤ 8 ∧ 8 < (10 : Int) then (if (0 : Int) ≤ 8 ∧ 8 < (v3.length : Int) then (if (0 : Int) ≤ v1 ∧ v1 ≤ (a0.length : Int) ∧ (a0.length : Int) ≤ (a0.length : Int) then ((m_slices_Clone_byte_byte K ((a0.drop v1.toNat).take ((a0.length : Int) - v1).toNat)).bind fun r29 => ((m_impl_OpOk K (T_impl_Op.mk (gt v3 0) (T_impl_Handle.mk (gt v3 1) (gt v3 2)) (T_impl_Ref.mk (T_impl_Handle.mk (gt v3 3) (gt v3 4)) (gt v3 5) (gt v3 6)) (gt v3 7) (gt v3 8) r29)).bind fun r30 => (bif r30 then ((m_impl_PutOp K (T_impl_Op.mk (gt v3 0) (T_impl_Handle.mk (gt v3 1) (gt v3 2)) (T_impl_Ref.mk (T_impl_Handle.mk (gt v3 3) (gt v3 4)) (gt v3 5) (gt v3 6)) (gt v3 7) (gt v3 8) r29)).bind fun r32 => ((m_bytes_Equal K r32 a0).bind fun r33 => (bif r33 then some ((T_impl_Op.mk (gt v3 0) (T_impl_Handle.mk (gt v3 1) (gt v3 2)) (T_impl_Ref.mk (T_impl_Handle.mk (gt v3 3) (gt v3 4)) (gt v3 5) (gt v3 6)) (gt v3 7) (gt v3 8) r29), true) else some ((T_impl_Op.mk 0 (T_impl_Handle.mk 0 0) (T_impl_Ref.mk (T_impl_Handle.mk 0 0) 0 0) 0 0 []), false)))) else some ((T_impl_Op.mk 0 (T_impl_Handle.mk 0 0) (T_impl_Ref.mk (T_impl_Handle.mk 0 0) 0 0) 0 0 []), false)))) else none) else none) else none) else none) else none) else none) else none) else none) else none) else none) else none) else none) else none) else none) else none) else none) else none) else none) else none))
def m_impl_GetOp (K : Nat) (a0 : List Int) : Option (T_impl_Op × Bool) := (l_impl_GetOp_4 K a0 K 0 0 ([0, 0, 0, 0, 0, 0, 0, 0, 0, 0] : List Int))
set_option maxRecDepth 20000 in
set_option maxHeartbeats 8000000 in
theorem w_impl_GetOp (K : Nat) (a0 : List Int) (r : T_impl_Op × Bool) (h : m_impl_GetOp K a0 = some r) : Sp Try.prog 50 [.c (.row false 1 (a0.map en_u8))] [] (.t [.g [.int .i64 r.1.fKind, .int .i64 r.1.fH.fSlot, .int .i64 r.1.fH.fGen, .int .i64 r.1.fR.fH.fSlot, .int .i64 r.1.fR.fH.fGen, .int .i64 r.1.fR.fEp, .int .i64 r.1.fR.fNo, .int .i64 r.1.fN, .int .i64 r.1.fM, .row false 1 (r.1.fB.map en_u8)], .c (.bool r.2)]) [] := by
  refine Sp.of_W tabOk Try.func50 rfl rfl (Nat.le_of_ble_eq_true rfl) (Nat.le_of_ble_eq_true rfl) fun F hP hN hm => ?_
  obtain ⟨P, N, w0, σ0, β0, m⟩ := F
  obtain rfl : P = Try.prog := hP
  obtain rfl : N = 68 := hN
  obtain rfl : m = 1 := hm
  have he : Env ⟨Try.prog, 68, w0, σ0, β0, 1⟩ tab := ⟨Nat.le_of_ble_eq_true rfl, tabOk⟩
  unfold m_impl_GetOp at h
  refine W_seq ?_
  refine W_regV he rfl ?_
  refine v0 (sAl rfl rfl 101 rfl) rfl ?_
  refine v0 (sA rfl [] rfl) rfl ?_
  refine ve ?_
  refine W2 [0, 2] [101] [] (l := [(0, .c (.row _ _ _)), (2, .c (.ptr _ _ _ _))]) (h := [(101, ⟨0, 10, [[.int _ _, .int _ _, .int _ _, .int _ _, .int _ _, .int _ _, .int _ _, .int _ _, .int _ _, .row _ _ _]]⟩)]) (h' := []) trivial rfl rfl rfl ?_
  refine W_seq ?_
  refine W_regV he rfl ?_
  refine v0 (sBdA rfl [] (out := [.int .i64 0, .int .i64 0, .int .i64 0, .int .i64 0, .int .i64 0, .int .i64 0, .int .i64 0, .int .i64 0, .int .i64 0, .int .i64 0]) rfl rfl rfl (by kernel_rfl)) rfl ?_
  refine v0 (sAl rfl rfl 102 rfl) rfl ?_
  refine v0 (sSt rfl rfl [] rfl rfl) rfl ?_
  refine v0 (sA rfl [] rfl) rfl ?_
  refine ve ?_
  refine W2 [0, 2, 4, 5] [101] [102] (l := [(0, .c (.row _ _ _)), (2, .c (.ptr _ _ _ _)), (4, .c (.ptr _ _ _ _)), (5, .c (.int _ _))]) (h := [(101, ⟨0, 10, [[.int _ _, .int _ _, .int _ _, .int _ _, .int _ _, .int _ _, .int _ _, .int _ _, .int _ _, .row _ _ _]]⟩)]) (h' := [(102, ⟨0, 10, [([0, 0, 0, 0, 0, 0, 0, 0, 0, 0] : List Int).map (V.int .i64)]⟩)]) ⟨⟨_, rfl, closed_arr (fun _ => rfl) _ _ ([0, 0, 0, 0, 0, 0, 0, 0, 0, 0] : List Int)⟩, trivial⟩ rfl rfl rfl ?_
  refine W_seq ?_
  refine W_seq ?_
  refine W_regV he rfl ?_
  refine v0 (sM rfl [] rfl) rfl ?_
  refine ve ?_
  refine W2 [0, 2, 4, 5, 12] [101] [102] (l := [(0, .c (.row _ _ _)), (2, .c (.ptr _ _ _ _)), (4, .c (.ptr _ _ _ _)), (5, .c (.int _ _)), (12, .c (.int _ _))]) (h := [(101, ⟨0, 10, [[.int _ _, .int _ _, .int _ _, .int _ _, .int _ _, .int _ _, .int _ _, .int _ _, .int _ _, .row _ _ _]]⟩)]) (h' := [(102, ⟨0, 10, [([0, 0, 0, 0, 0, 0, 0, 0, 0, 0] : List Int).map (V.int .i64)]⟩)]) ⟨⟨_, rfl, closed_arr (fun _ => rfl) _ _ ([0, 0, 0, 0, 0, 0, 0, 0, 0, 0] : List Int)⟩, trivial⟩ rfl rfl rfl ?_
  refine W_block ?_
  refine W2 [0, 2, 4, 5, 12] [101] [102] (l := [(0, .c (.row _ _ _)), (2, .c (.ptr _ _ _ _)), (4, .c (.ptr _ _ _ _)), (5, .c (.int _ _)), (12, .c (.int _ _))]) (h := [(101, ⟨0, 10, [[.int _ _, .int _ _, .int _ _, .int _ _, .int _ _, .int _ _, .int _ _, .int _ _, .int _ _, .row _ _ _]]⟩)]) (h' := [(102, ⟨0, 10, [([0, 0, 0, 0, 0, 0, 0, 0, 0, 0] : List Int).map (V.int .i64)]⟩)]) ⟨⟨_, rfl, closed_arr (fun _ => rfl) _ _ ([0, 0, 0, 0, 0, 0, 0, 0, 0, 0] : List Int)⟩, trivial⟩ rfl rfl rfl ?_
  refine W_loopW (fun n4 S => ∃ (v1 : Int), ∃ (v2 : Int), ∃ (v3 : List Int), S = StL [(0, .c (.row false 1 (a0.map en_u8))), (2, .c (.ptr 101 0 0 0)), (4, .c (.ptr 102 0 0 0)), (5, .c (.int .i64 v1)), (12, .c (.int .i64 v2))] ([(101, ⟨0, 10, [[.int .i64 0, .int .i64 0, .int .i64 0, .int .i64 0, .int .i64 0, .int .i64 0, .int .i64 0, .int .i64 0, .int .i64 0, .row true 1 []]]⟩)] ++ [(102, ⟨0, 10, [v3.map (V.int .i64)]⟩)]) ∧ l_impl_GetOp_4 K a0 n4 v1 v2 v3 = some r) K ⟨_, _, _, rfl, h⟩ ?_
  rintro n4 S ⟨v1, v2, v3, rfl, h⟩
  cases n4 with
  | zero => simp [l_impl_GetOp_4] at h
  | succ n4 =>
    rw [l_impl_GetOp_4] at h
    refine W_seq ?_
    refine W_regV he rfl ?_
    refine vB (sBi rfl rfl rfl rfl) rfl rfl fun b5 hb5 => ?_
    cases b5 with
    | true =>
      replace h := brT hb5 h
      refine ve ?_
      refine W2 [0, 2, 4, 5, 12, 13] [101] [102] (l := [(0, .c (.row _ _ _)), (2, .c (.ptr _ _ _ _)), (4, .c (.ptr _ _ _ _)), (5, .c (.int _ _)), (12, .c (.int _ _)), (13, .c (.bool true))]) (h := [(101, ⟨0, 10, [[.int _ _, .int _ _, .int _ _, .int _ _, .int _ _, .int _ _, .int _ _, .int _ _, .int _ _, .row _ _ _]]⟩)]) (h' := [(102, ⟨0, 10, [v3.map (V.int .i64)]⟩)]) ⟨⟨_, rfl, closed_arr (fun _ => rfl) _ _ v3⟩, trivial⟩ rfl rfl rfl ?_
      refine W_seq ?_
      refine W_true rfl ?_
      refine W_skip ?_
      refine W_seq ?_
      refine W_block ?_
      refine W_seq ?_
      refine W_regV he rfl ?_
      refine v0 (sM rfl [] rfl) rfl ?_
      refine v0 (sA rfl [] rfl) rfl ?_
      refine ve ?_
      refine W2 [0, 2, 4, 5, 6, 12] [101] [102] (l := [(0, .c (.row _ _ _)), (2, .c (.ptr _ _ _ _)), (4, .c (.ptr _ _ _ _)), (5, .c (.int _ _)), (6, .c (.int _ _)), (12, .c (.int _ _))]) (h := [(101, ⟨0, 10, [[.int _ _, .int _ _, .int _ _, .int _ _, .int _ _, .int _ _, .int _ _, .int _ _, .int _ _, .row _ _ _]]⟩)]) (h' := [(102, ⟨0, 10, [v3.map (V.int .i64)]⟩)]) ⟨⟨_, rfl, closed_arr (fun _ => rfl) _ _ v3⟩, trivial⟩ rfl rfl rfl ?_
      refine W_seq ?_
      refine W_regV he rfl ?_
      refine v0 (sM rfl [] rfl) rfl ?_
      refine v0 (sM rfl [] rfl) rfl ?_
      obtain ⟨r6, hr6, h⟩ := bnd2 h
      refine v0 (sCm (w_impl_GetVar K a0 v1 _ hr6) ok_impl_GetVar rfl rfl rfl rfl) rfl ?_
      refine v0 (sM rfl [] rfl) rfl ?_
      refine v0 (sEx rfl rfl rfl) rfl ?_
      refine v0 (sEx rfl rfl rfl) rfl ?_
      refine v0 (sEx rfl rfl rfl) rfl ?_
      refine v0 (sA rfl [] rfl) rfl ?_
      refine v0 (sA rfl [] rfl) rfl ?_
      refine v0 (sA rfl [] rfl) rfl ?_
      refine ve ?_
      refine W2 [0, 2, 4, 6, 7, 8, 9, 12] [101] [102] (l := [(0, .c (.row _ _ _)), (2, .c (.ptr _ _ _ _)), (4, .c (.ptr _ _ _ _)), (6, .c (.int _ _)), (7, .c (.int _ _)), (8, .c (.int _ _)), (9, .c (.bool _)), (12, .c (.int _ _))]) (h := [(101, ⟨0, 10, [[.int _ _, .int _ _, .int _ _, .int _ _, .int _ _, .int _ _, .int _ _, .int _ _, .int _ _, .row _ _ _]]⟩)]) (h' := [(102, ⟨0, 10, [v3.map (V.int .i64)]⟩)]) ⟨⟨_, rfl, closed_arr (fun _ => rfl) _ _ v3⟩, trivial⟩ rfl rfl rfl ?_
      refine W_seq ?_
      refine W_seq ?_
      refine W_regV he rfl ?_
      refine vB (sM rfl [] rfl) rfl rfl fun b7 hb7 => ?_
      cases b7 with
      | true =>
        replace h := brT hb7 h
        refine v0 (sNt rfl rfl) rfl ?_
        refine ve ?_
        refine W2 [0, 2, 4, 6, 7, 8, 12, 23] [101] [102] (l := [(0, .c (.row _ _ _)), (2, .c (.ptr _ _ _ _)), (4, .c (.ptr _ _ _ _)), (6, .c (.int _ _)), (7, .c (.int _ _)), (8, .c (.int _ _)), (12, .c (.int _ _)), (23, .c (.bool false))]) (h := [(101, ⟨0, 10, [[.int _ _, .int _ _, .int _ _, .int _ _, .int _ _, .int _ _, .int _ _, .int _ _, .int _ _, .row _ _ _]]⟩)]) (h' := [(102, ⟨0, 10, [v3.map (V.int .i64)]⟩)]) ⟨⟨_, rfl, closed_arr (fun _ => rfl) _ _ v3⟩, trivial⟩ rfl rfl rfl ?_
        refine W_false rfl ?_
        refine W_skip ?_
        refine W_regV he rfl ?_
        refine v0 (sM rfl [] rfl) rfl ?_
        refine v0 (sM rfl [] rfl) rfl ?_
        refine v0 (sM rfl [] rfl) rfl ?_
        obtain ⟨c8, h⟩ := chk h
        refine v0 (sIA rfl rfl rfl rfl rfl rfl rfl c8) rfl ?_
        obtain ⟨c9, h⟩ := chk h
        refine v0 (sStA rfl rfl (L := v3) (f := (V.int .i64)) [] rfl rfl rfl rfl rfl rfl rfl c9) rfl ?_
        refine v0 (sA rfl [] rfl) rfl ?_
        refine ve ?_
        refine W2 [0, 2, 4, 5, 12] [101] [102] (l := [(0, .c (.row _ _ _)), (2, .c (.ptr _ _ _ _)), (4, .c (.ptr _ _ _ _)), (5, .c (.int _ _)), (12, .c (.int _ _))]) (h := [(101, ⟨0, 10, [[.int _ _, .int _ _, .int _ _, .int _ _, .int _ _, .int _ _, .int _ _, .int _ _, .int _ _, .row _ _ _]]⟩)]) (h' := [(102, ⟨0, 10, [(v3.set v2.toNat r6.1).map (V.int .i64)]⟩)]) ⟨⟨_, rfl, closed_arr (fun _ => rfl) _ _ (v3.set v2.toNat r6.1)⟩, trivial⟩ rfl rfl rfl ?_
        refine W_regV he rfl ?_
        refine v0 (sBi rfl rfl rfl rfl) rfl ?_
        refine v0 (sM rfl [] rfl) rfl ?_
        refine ve ?_
        exact ⟨n4, _, Nat.lt_succ_self n4, wk2 [0, 2, 4, 5, 12] [101] [102] (l := [(0, .c (.row _ _ _)), (2, .c (.ptr _ _ _ _)), (4, .c (.ptr _ _ _ _)), (5, .c (.int _ _)), (12, .c (.int _ _))]) (h := [(101, ⟨0, 10, [[.int _ _, .int _ _, .int _ _, .int _ _, .int _ _, .int _ _, .int _ _, .int _ _, .int _ _, .row _ _ _]]⟩)]) (h' := [(102, ⟨0, 10, [(v3.set v2.toNat r6.1).map (V.int .i64)]⟩)]) ⟨⟨_, rfl, closed_arr (fun _ => rfl) _ _ (v3.set v2.toNat r6.1)⟩, trivial⟩ rfl rfl rfl, _, _, _, rfl, h⟩
      | false =>
        replace h := brF hb7 h
        refine v0 (sNt rfl rfl) rfl ?_
        refine ve ?_
        refine W2 [0, 2, 4, 6, 7, 8, 12, 23] [101] [102] (l := [(0, .c (.row _ _ _)), (2, .c (.ptr _ _ _ _)), (4, .c (.ptr _ _ _ _)), (6, .c (.int _ _)), (7, .c (.int _ _)), (8, .c (.int _ _)), (12, .c (.int _ _)), (23, .c (.bool true))]) (h := [(101, ⟨0, 10, [[.int _ _, .int _ _, .int _ _, .int _ _, .int _ _, .int _ _, .int _ _, .int _ _, .int _ _, .row _ _ _]]⟩)]) (h' := [(102, ⟨0, 10, [v3.map (V.int .i64)]⟩)]) ⟨⟨_, rfl, closed_arr (fun _ => rfl) _ _ v3⟩, trivial⟩ rfl rfl rfl ?_
        refine W_true rfl ?_
        refine W_seq ?_
        refine W_regV he rfl ?_
        refine v0 (sBd rfl [] (out := [.int .i64 0, .int .i64 0, .int .i64 0, .int .i64 0, .int .i64 0, .int .i64 0, .int .i64 0, .int .i64 0, .int .i64 0, .row true 1 []]) rfl (by kernel_rfl)) rfl ?_
        refine v0 (sSt rfl rfl [] rfl rfl) rfl ?_
        refine v0 (sA rfl [] rfl) rfl ?_
        refine ve ?_
        refine W2 [2, 3] [101] [] (l := [(2, .c (.ptr _ _ _ _)), (3, .c (.bool false))]) (h := [(101, ⟨0, 10, [[.int _ _, .int _ _, .int _ _, .int _ _, .int _ _, .int _ _, .int _ _, .int _ _, .int _ _, .row _ _ _]]⟩)]) (h' := []) trivial rfl rfl rfl ?_
        obtain rfl := Option.some.inj h
        refine W.weak (wk_cold 101 rfl) ?_
        exact W_ret (r0 rfl rfl)
    | false =>
      replace h := brF hb5 h
      refine ve ?_
      refine W2 [0, 2, 4, 5, 12, 13] [101] [102] (l := [(0, .c (.row _ _ _)), (2, .c (.ptr _ _ _ _)), (4, .c (.ptr _ _ _ _)), (5, .c (.int _ _)), (12, .c (.int _ _)), (13, .c (.bool false))]) (h := [(101, ⟨0, 10, [[.int _ _, .int _ _, .int _ _, .int _ _, .int _ _, .int _ _, .int _ _, .int _ _, .int _ _, .row _ _ _]]⟩)]) (h' := [(102, ⟨0, 10, [v3.map (V.int .i64)]⟩)]) ⟨⟨_, rfl, closed_arr (fun _ => rfl) _ _ v3⟩, trivial⟩ rfl rfl rfl ?_
      refine W_seq ?_
      refine W_false rfl ?_
      refine W_exit (ex_then (ex_then (ex_hit ?_)))
      refine W_seq ?_
      refine W_regD he rfl rfl rfl ?_
      obtain ⟨c10, h⟩ := chk h
      refine g0 (sIA rfl rfl rfl rfl rfl rfl rfl c10) rfl ?_
      obtain ⟨c11, h⟩ := chk h
      refine g0 (sLdA rfl (L := v3) (f := (V.int .i64)) rfl rfl rfl rfl rfl (fun _ => rfl) c11) rfl ?_
      obtain ⟨c12, h⟩ := chk h
      refine g0 (sIA rfl rfl rfl rfl rfl rfl rfl c12) rfl ?_
      obtain ⟨c13, h⟩ := chk h
      refine g0 (sLdA rfl (L := v3) (f := (V.int .i64)) rfl rfl rfl rfl rfl (fun _ => rfl) c13) rfl ?_
      obtain ⟨c14, h⟩ := chk h
      refine g0 (sIA rfl rfl rfl rfl rfl rfl rfl c14) rfl ?_
      obtain ⟨c15, h⟩ := chk h
      refine g0 (sLdA rfl (L := v3) (f := (V.int .i64)) rfl rfl rfl rfl rfl (fun _ => rfl) c15) rfl ?_
      refine g0 (sBd rfl [[], []] (out := [.int .i64 (gt v3 1), .int .i64 (gt v3 2)]) rfl (by kernel_rfl)) rfl ?_
      obtain ⟨c16, h⟩ := chk h
      refine g0 (sIA rfl rfl rfl rfl rfl rfl rfl c16) rfl ?_
      obtain ⟨c17, h⟩ := chk h
      refine g0 (sLdA rfl (L := v3) (f := (V.int .i64)) rfl rfl rfl rfl rfl (fun _ => rfl) c17) rfl ?_
      obtain ⟨c18, h⟩ := chk h
      refine g0 (sIA rfl rfl rfl rfl rfl rfl rfl c18) rfl ?_
      obtain ⟨c19, h⟩ := chk h
      refine g0 (sLdA rfl (L := v3) (f := (V.int .i64)) rfl rfl rfl rfl rfl (fun _ => rfl) c19) rfl ?_
      refine g0 (sBd rfl [[], []] (out := [.int .i64 (gt v3 3), .int .i64 (gt v3 4)]) rfl (by kernel_rfl)) rfl ?_
      obtain ⟨c20, h⟩ := chk h
      refine g0 (sIA rfl rfl rfl rfl rfl rfl rfl c20) rfl ?_
      obtain ⟨c21, h⟩ := chk h
      refine g0 (sLdA rfl (L := v3) (f := (V.int .i64)) rfl rfl rfl rfl rfl (fun _ => rfl) c21) rfl ?_
      obtain ⟨c22, h⟩ := chk h
      refine g0 (sIA rfl rfl rfl rfl rfl rfl rfl c22) rfl ?_
      obtain ⟨c23, h⟩ := chk h
      refine g0 (sLdA rfl (L := v3) (f := (V.int .i64)) rfl rfl rfl rfl rfl (fun _ => rfl) c23) rfl ?_
      refine g0 (sBd rfl [[], [], []] (out := [.int .i64 (gt v3 3), .int .i64 (gt v3 4), .int .i64 (gt v3 5), .int .i64 (gt v3 6)]) rfl (by kernel_rfl)) rfl ?_
      obtain ⟨c24, h⟩ := chk h
      refine g0 (sIA rfl rfl rfl rfl rfl rfl rfl c24) rfl ?_
      obtain ⟨c25, h⟩ := chk h
      refine g0 (sLdA rfl (L := v3) (f := (V.int .i64)) rfl rfl rfl rfl rfl (fun _ => rfl) c25) rfl ?_
      obtain ⟨c26, h⟩ := chk h
      refine g0 (sIA rfl rfl rfl rfl rfl rfl rfl c26) rfl ?_
      obtain ⟨c27, h⟩ := chk h
      refine g0 (sLdA rfl (L := v3) (f := (V.int .i64)) rfl rfl rfl rfl rfl (fun _ => rfl) c27) rfl ?_
      refine g0 (sM rfl [] rfl) rfl ?_
      refine g0 (sM rfl [] rfl) rfl ?_
      obtain ⟨c28, h⟩ := chk h
      refine g0 (sSlM rfl rfl rfl rfl rfl c28) rfl ?_
      obtain ⟨r29, hr29, h⟩ := bnd2 h
      refine g0 (sCm (w_slices_Clone_byte_byte K ((a0.drop v1.toNat).take ((a0.length : Int) - v1).toNat) _ hr29) ok_slices_Clone_byte_byte rfl rfl rfl rfl) rfl ?_
      refine g0 (sBd rfl [[], [], [], [], [], []] (out := [.int .i64 (gt v3 0), .int .i64 (gt v3 1), .int .i64 (gt v3 2), .int .i64 (gt v3 3), .int .i64 (gt v3 4), .int .i64 (gt v3 5), .int .i64 (gt v3 6), .int .i64 (gt v3 7), .int .i64 (gt v3 8), .row false 1 (r29.map en_u8)]) rfl (by kernel_rfl)) rfl ?_
      refine g0 (sAl rfl rfl 103 rfl) rfl ?_
      refine g0 (sSt rfl rfl [] rfl rfl) rfl ?_
      refine ge ⟨rfl, ?_⟩
      refine W2 [0, 2, 10] [101, 103] [] (l := [(0, .c (.row _ _ _)), (2, .c (.ptr _ _ _ _)), (10, .c (.ptr _ _ _ _))]) (h := [(101, ⟨0, 10, [[.int _ _, .int _ _, .int _ _, .int _ _, .int _ _, .int _ _, .int _ _, .int _ _, .int _ _, .row _ _ _]]⟩), (103, ⟨0, 10, [[.int _ _, .int _ _, .int _ _, .int _ _, .int _ _, .int _ _, .int _ _, .int _ _, .int _ _, .row _ _ _]]⟩)]) (h' := []) trivial rfl rfl rfl ?_
      refine W_seq ?_
      refine W_seq ?_
      refine W_regV he rfl ?_
      refine v0 (sLd rfl rfl) rfl ?_
      obtain ⟨r30, hr30, h⟩ := bnd2 h
      refine vB (sCm (w_impl_OpOk K (T_impl_Op.mk (gt v3 0) (T_impl_Handle.mk (gt v3 1) (gt v3 2)) (T_impl_Ref.mk (T_impl_Handle.mk (gt v3 3) (gt v3 4)) (gt v3 5) (gt v3 6)) (gt v3 7) (gt v3 8) r29) _ hr30) ok_impl_OpOk rfl rfl rfl rfl) rfl rfl fun b31 hb31 => ?_
      cases b31 with
      | true =>
        replace h := brT hb31 h
        refine v0 (sNt rfl rfl) rfl ?_
        refine v0 (sM rfl [] rfl) rfl ?_
        refine u0 (sLd rfl rfl) rfl rfl rfl ?_
        obtain ⟨r32, hr32, h⟩ := bnd2 h
        refine u0 (sCm (w_impl_PutOp K (T_impl_Op.mk (gt v3 0) (T_impl_Handle.mk (gt v3 1) (gt v3 2)) (T_impl_Ref.mk (T_impl_Handle.mk (gt v3 3) (gt v3 4)) (gt v3 5) (gt v3 6)) (gt v3 7) (gt v3 8) r29) _ hr32) ok_impl_PutOp rfl rfl rfl rfl) rfl rfl rfl ?_
        refine u0 (sM rfl [] rfl) rfl rfl rfl ?_
        obtain ⟨r33, hr33, h⟩ := bnd2 h
        refine uB (sCm (w_bytes_Equal K r32 a0 _ hr33) ok_bytes_Equal rfl rfl rfl rfl) rfl rfl rfl rfl fun b34 hb34 => ?_
        cases b34 with
        | true =>
          replace h := brT hb34 h
          refine u0 (sNt rfl rfl) rfl rfl rfl ?_
          refine v0 (sPk rfl [] rfl rfl) rfl ?_
          refine ve ?_
          refine W2 [2, 10, 65] [101, 103] [] (l := [(2, .c (.ptr _ _ _ _)), (10, .c (.ptr _ _ _ _)), (65, .c (.bool false))]) (h := [(101, ⟨0, 10, [[.int _ _, .int _ _, .int _ _, .int _ _, .int _ _, .int _ _, .int _ _, .int _ _, .int _ _, .row _ _ _]]⟩), (103, ⟨0, 10, [[.int _ _, .int _ _, .int _ _, .int _ _, .int _ _, .int _ _, .int _ _, .int _ _, .int _ _, .row _ _ _]]⟩)]) (h' := []) trivial rfl rfl rfl ?_
          refine W_false rfl ?_
          refine W_skip ?_
          refine W_seq ?_
          refine W_regV he rfl ?_
          refine v0 (sLd rfl rfl) rfl ?_
          refine v0 (sSt rfl rfl [] rfl rfl) rfl ?_
          refine v0 (sA rfl [] rfl) rfl ?_
          refine ve ?_
          refine W2 [2, 3] [101] [] (l := [(2, .c (.ptr _ _ _ _)), (3, .c (.bool true))]) (h := [(101, ⟨0, 10, [[.int _ _, .int _ _, .int _ _, .int _ _, .int _ _, .int _ _, .int _ _, .int _ _, .int _ _, .row _ _ _]]⟩)]) (h' := []) trivial rfl rfl rfl ?_
          obtain rfl := Option.some.inj h
          exact W_ret (r0 rfl rfl)
        | false =>
          replace h := brF hb34 h
          refine u0 (sNt rfl rfl) rfl rfl rfl ?_
          refine v0 (sPk rfl [] rfl rfl) rfl ?_
          refine ve ?_
          refine W2 [2, 10, 65] [101, 103] [] (l := [(2, .c (.ptr _ _ _ _)), (10, .c (.ptr _ _ _ _)), (65, .c (.bool true))]) (h := [(101, ⟨0, 10, [[.int _ _, .int _ _, .int _ _, .int _ _, .int _ _, .int _ _, .int _ _, .int _ _, .int _ _, .row _ _ _]]⟩), (103, ⟨0, 10, [[.int _ _, .int _ _, .int _ _, .int _ _, .int _ _, .int _ _, .int _ _, .int _ _, .int _ _, .row _ _ _]]⟩)]) (h' := []) trivial rfl rfl rfl ?_
          refine W_true rfl ?_
          refine W_seq ?_
          refine W_regV he rfl ?_
          refine v0 (sBd rfl [] (out := [.int .i64 0, .int .i64 0, .int .i64 0, .int .i64 0, .int .i64 0, .int .i64 0, .int .i64 0, .int .i64 0, .int .i64 0, .row true 1 []]) rfl (by kernel_rfl)) rfl ?_
          refine v0 (sSt rfl rfl [] rfl rfl) rfl ?_
          refine v0 (sA rfl [] rfl) rfl ?_
          refine ve ?_
          refine W2 [2, 3] [101] [] (l := [(2, .c (.ptr _ _ _ _)), (3, .c (.bool false))]) (h := [(101, ⟨0, 10, [[.int _ _, .int _ _, .int _ _, .int _ _, .int _ _, .int _ _, .int _ _, .int _ _, .int _ _, .row _ _ _]]⟩)]) (h' := []) trivial rfl rfl rfl ?_
          obtain rfl := Option.some.inj h
          refine W.weak (wk_cold 101 rfl) ?_
          exact W_ret (r0 rfl rfl)
      | false =>
        replace h := brF hb31 h
        refine v0 (sNt rfl rfl) rfl ?_
        refine v0 (sM rfl [] rfl) rfl ?_
        refine uP rfl rfl rfl rfl ?_
        refine uP rfl rfl rfl rfl ?_
        refine uP rfl rfl rfl rfl ?_
        refine uP rfl rfl rfl rfl ?_
        refine uP rfl rfl rfl rfl ?_
        refine v0 (sPk rfl [] rfl rfl) rfl ?_
        refine ve ?_
        refine W2 [2, 10, 65] [101, 103] [] (l := [(2, .c (.ptr _ _ _ _)), (10, .c (.ptr _ _ _ _)), (65, .c (.bool true))]) (h := [(101, ⟨0, 10, [[.int _ _, .int _ _, .int _ _, .int _ _, .int _ _, .int _ _, .int _ _, .int _ _, .int _ _, .row _ _ _]]⟩), (103, ⟨0, 10, [[.int _ _, .int _ _, .int _ _, .int _ _, .int _ _, .int _ _, .int _ _, .int _ _, .int _ _, .row _ _ _]]⟩)]) (h' := []) trivial rfl rfl rfl ?_
        refine W_true rfl ?_
        refine W_seq ?_
        refine W_regV he rfl ?_
        refine v0 (sBd rfl [] (out := [.int .i64 0, .int .i64 0, .int .i64 0, .int .i64 0, .int .i64 0, .int .i64 0, .int .i64 0, .int .i64 0, .int .i64 0, .row true 1 []]) rfl (by kernel_rfl)) rfl ?_
        refine v0 (sSt rfl rfl [] rfl rfl) rfl ?_
        refine v0 (sA rfl [] rfl) rfl ?_
        refine ve ?_
        refine W2 [2, 3] [101] [] (l := [(2, .c (.ptr _ _ _ _)), (3, .c (.bool false))]) (h := [(101, ⟨0, 10, [[.int _ _, .int _ _, .int _ _, .int _ _, .int _ _, .int _ _, .int _ _, .int _ _, .int _ _, .row _ _ _]]⟩)]) (h' := []) trivial rfl rfl rfl ?_
        obtain rfl := Option.some.inj h
        refine W.weak (wk_cold 101 rfl) ?_
        exact W_ret (r0 rfl rfl)
theorem ok_impl_GetOp : FnOk Try.prog 50 := ⟨_, Try.func50, rfl, rfl⟩


/-! ### loop.example/g00499/impl.PutOp -/
set_option maxRecDepth 20000 in
set_option maxHeartbeats 8000000 in
theorem wo_impl_PutOp (K : Nat) (a0 : T_impl_Op) (r : (List Int)) (h : m_impl_PutOp K a0 = some r) : Sp Try.prog 47 [.g [.int .i64 a0.fKind, .int .i64 a0.fH.fSlot, .int .i64 a0.fH.fGen, .int .i64 a0.fR.fH.fSlot, .int .i64 a0.fR.fH.fGen, .int .i64 a0.fR.fEp, .int .i64 a0.fR.fNo, .int .i64 a0.fN, .int .i64 a0.fM, .row false 1 (a0.fB.map en_u8)]] [] (.c (.own 1 0 0 r.length)) [⟨0, 1, r.map en_u8⟩] := by
  refine Sp.of_W tabOk Try.func47 rfl rfl (Nat.le_of_ble_eq_true rfl) (Nat.le_of_ble_eq_true rfl) fun F hP hN hm => ?_
  obtain ⟨P, N, w0, σ0, β0, m⟩ := F
  obtain rfl : P = Try.prog := hP
  obtain rfl : N = 54 := hN
  obtain rfl : m = 1 := hm
  have he : Env ⟨Try.prog, 54, w0, σ0, β0, 1⟩ tab := ⟨Nat.le_of_ble_eq_true rfl, tabOk⟩
  unfold m_impl_PutOp at h
  refine W_seq ?_
  refine W_regV he rfl ?_
  refine v0 (sBx rfl [] rfl rfl 101 rfl) rfl ?_
  refine v0 (sA rfl [1] rfl) rfl ?_
  refine ve ?_
  refine W2 [1] [101] [] (l := [(1, .c (.ptr _ _ _ _))]) (h := [(101, ⟨0, 10, [[.int _ _, .int _ _, .int _ _, .int _ _, .int _ _, .int _ _, .int _ _, .int _ _, .int _ _, .row _ _ _]]⟩)]) (h' := []) trivial rfl rfl rfl ?_
  refine W_seq ?_
  refine W_regV he rfl ?_
  refine v0 (sBS rfl 1003 (rows := ([] : List Int).map en_u8) rfl rfl rfl (by kernel_rfl) rfl rfl rfl rfl) rfl ?_
  refine v0 (sA rfl [] rfl) rfl ?_
  refine ve ?_
  refine W2 [1, 3] [101] [1003] (l := [(1, .c (.ptr _ _ _ _)), (3, .c (.own _ _ _ _))]) (h := [(101, ⟨0, 10, [[.int _ _, .int _ _, .int _ _, .int _ _, .int _ _, .int _ _, .int _ _, .int _ _, .int _ _, .row _ _ _]]⟩)]) (h' := [(1003, ⟨0, 1, ([] : List Int).map en_u8⟩)]) ⟨⟨_, rfl, enOk_u8.allClosed _ _ ([] : List Int)⟩, trivial⟩ rfl rfl rfl ?_
  refine W_seq ?_
  refine W_seq ?_
  refine W_regV he rfl ?_
  refine v0 (sLd rfl rfl) rfl ?_
  obtain ⟨r1, hr1, h⟩ := bnd2 h
  refine vB (sCm (w_impl_OpOk K a0 _ hr1) ok_impl_OpOk rfl rfl rfl rfl) rfl rfl fun b2 hb2 => ?_
  cases b2 with
  | true =>
    replace h := brT hb2 h
    refine v0 (sNt rfl rfl) rfl ?_
    refine ve ?_
    refine W2 [1, 3, 9] [101] [1003] (l := [(1, .c (.ptr _ _ _ _)), (3, .c (.own _ _ _ _)), (9, .c (.bool false))]) (h := [(101, ⟨0, 10, [[.int _ _, .int _ _, .int _ _, .int _ _, .int _ _, .int _ _, .int _ _, .int _ _, .int _ _, .row _ _ _]]⟩)]) (h' := [(1003, ⟨0, 1, ([] : List Int).map en_u8⟩)]) ⟨⟨_, rfl, enOk_u8.allClosed _ _ ([] : List Int)⟩, trivial⟩ rfl rfl rfl ?_
    refine W_false rfl ?_
    refine W_skip ?_
    refine W_seq ?_
    refine W_seq ?_
    refine W_regV he rfl ?_
    refine v0 (sFP rfl rfl rfl) rfl ?_
    refine v0 (sLd rfl rfl) rfl ?_
    refine v0 (sFP rfl rfl rfl) rfl ?_
    refine v0 (sFP rfl rfl rfl) rfl ?_
    refine v0 (sLd rfl rfl) rfl ?_
    refine v0 (sFP rfl rfl rfl) rfl ?_
    refine v0 (sFP rfl rfl rfl) rfl ?_
    refine v0 (sLd rfl rfl) rfl ?_
    refine v0 (sFP rfl rfl rfl) rfl ?_
    refine v0 (sFP rfl rfl rfl) rfl ?_
    refine v0 (sFP rfl rfl rfl) rfl ?_
    refine v0 (sLd rfl rfl) rfl ?_
    refine v0 (sFP rfl rfl rfl) rfl ?_
    refine v0 (sFP rfl rfl rfl) rfl ?_
    refine v0 (sFP rfl rfl rfl) rfl ?_
    refine v0 (sLd rfl rfl) rfl ?_
    refine v0 (sFP rfl rfl rfl) rfl ?_
    refine v0 (sFP rfl rfl rfl) rfl ?_
    refine v0 (sLd rfl rfl) rfl ?_
    refine v0 (sFP rfl rfl rfl) rfl ?_
    refine v0 (sFP rfl rfl rfl) rfl ?_
    refine v0 (sLd rfl rfl) rfl ?_
    refine v0 (sFP rfl rfl rfl) rfl ?_
    refine v0 (sLd rfl rfl) rfl ?_
    refine v0 (sFP rfl rfl rfl) rfl ?_
    refine v0 (sLd rfl rfl) rfl ?_
    refine v0 (sFP rfl rfl rfl) rfl ?_
    refine v0 (sLd rfl rfl) rfl ?_
    refine v0 (sLm rfl rfl rfl rfl) rfl ?_
    refine v0 (sBS rfl 1040 (rows := ([a0.fKind, a0.fH.fSlot, a0.fH.fGen, a0.fR.fH.fSlot, a0.fR.fH.fGen, a0.fR.fEp, a0.fR.fNo, a0.fN, a0.fM, (a0.fB.length : Int)] : List Int).map en_i64) rfl rfl rfl (by kernel_rfl) rfl rfl rfl rfl) rfl ?_
    refine v0 (sLo rfl rfl rfl rfl) rfl ?_
    refine v0 (sM rfl [] rfl) rfl ?_
    refine ve ?_
    refine W2 [1, 3, 40, 41, 42] [101] [1003, 1040] (l := [(1, .c (.ptr _ _ _ _)), (3, .c (.own _ _ _ _)), (40, .c (.own _ _ _ _)), (41, .c (.int _ _)), (42, .c (.int _ _))]) (h := [(101, ⟨0, 10, [[.int _ _, .int _ _, .int _ _, .int _ _, .int _ _, .int _ _, .int _ _, .int _ _, .int _ _, .row _ _ _]]⟩)]) (h' := [(1003, ⟨0, 1, ([] : List Int).map en_u8⟩), (1040, ⟨0, 1, ([a0.fKind, a0.fH.fSlot, a0.fH.fGen, a0.fR.fH.fSlot, a0.fR.fH.fGen, a0.fR.fEp, a0.fR.fNo, a0.fN, a0.fM, (a0.fB.length : Int)] : List Int).map en_i64⟩)]) ⟨⟨_, rfl, enOk_u8.allClosed _ _ ([] : List Int)⟩, ⟨⟨_, rfl, enOk_i64.allClosed _ _ ([a0.fKind, a0.fH.fSlot, a0.fH.fGen, a0.fR.fH.fSlot, a0.fR.fH.fGen, a0.fR.fEp, a0.fR.fNo, a0.fN, a0.fM, (a0.fB.length : Int)] : List Int)⟩, trivial⟩⟩ rfl rfl rfl ?_
    refine W_block ?_
    refine W2 [1, 3, 40, 41, 42] [101] [1003, 1040] (l := [(1, .c (.ptr _ _ _ _)), (3, .c (.own _ _ _ _)), (40, .c (.own _ _ _ _)), (41, .c (.int _ _)), (42, .c (.int _ _))]) (h := [(101, ⟨0, 10, [[.int _ _, .int _ _, .int _ _, .int _ _, .int _ _, .int _ _, .int _ _, .int _ _, .int _ _, .row _ _ _]]⟩)]) (h' := [(1003, ⟨0, 1, ([] : List Int).map en_u8⟩), (1040, ⟨0, 1, ([a0.fKind, a0.fH.fSlot, a0.fH.fGen, a0.fR.fH.fSlot, a0.fR.fH.fGen, a0.fR.fEp, a0.fR.fNo, a0.fN, a0.fM, (a0.fB.length : Int)] : List Int).map en_i64⟩)]) ⟨⟨_, rfl, enOk_u8.allClosed _ _ ([] : List Int)⟩, ⟨⟨_, rfl, enOk_i64.allClosed _ _ ([a0.fKind, a0.fH.fSlot, a0.fH.fGen, a0.fR.fH.fSlot, a0.fR.fH.fGen, a0.fR.fEp, a0.fR.fNo, a0.fN, a0.fM, (a0.fB.length : Int)] : List Int)⟩, trivial⟩⟩ rfl rfl rfl ?_
    refine W_loopW (fun n5 S => ∃ (v3 : List Int), ∃ (v4 : Int), S = StL [(1, .c (.ptr 101 0 0 0)), (3, .c (.own 1003 0 0 v3.length)), (40, .c (.own 1040 0 0 ([a0.fKind, a0.fH.fSlot, a0.fH.fGen, a0.fR.fH.fSlot, a0.fR.fH.fGen, a0.fR.fEp, a0.fR.fNo, a0.fN, a0.fM, (a0.fB.length : Int)] : List Int).length)), (41, .c (.int .i64 (([a0.fKind, a0.fH.fSlot, a0.fH.fGen, a0.fR.fH.fSlot, a0.fR.fH.fGen, a0.fR.fEp, a0.fR.fNo, a0.fN, a0.fM, (a0.fB.length : Int)] : List Int).length : Int))), (42, .c (.int .i64 v4))] ([(101, ⟨0, 10, [[.int .i64 a0.fKind, .int .i64 a0.fH.fSlot, .int .i64 a0.fH.fGen, .int .i64 a0.fR.fH.fSlot, .int .i64 a0.fR.fH.fGen, .int .i64 a0.fR.fEp, .int .i64 a0.fR.fNo, .int .i64 a0.fN, .int .i64 a0.fM, .row false 1 (a0.fB.map en_u8)]]⟩)] ++ [(1003, ⟨0, 1, v3.map en_u8⟩), (1040, ⟨0, 1, ([a0.fKind, a0.fH.fSlot, a0.fH.fGen, a0.fR.fH.fSlot, a0.fR.fH.fGen, a0.fR.fEp, a0.fR.fNo, a0.fN, a0.fM, (a0.fB.length : Int)] : List Int).map en_i64⟩)]) ∧ l_impl_PutOp_5 K a0 n5 v3 v4 = some r) K ⟨_, _, rfl, h⟩ ?_
    rintro n5 S ⟨v3, v4, rfl, h⟩
    cases n5 with
    | zero => simp [l_impl_PutOp_5] at h
    | succ n5 =>
      rw [l_impl_PutOp_5] at h
      refine W_seq ?_
      refine W_regV he rfl ?_
      refine vB (sBi rfl rfl rfl rfl) rfl rfl fun b6 hb6 => ?_
      cases b6 with
      | true =>
        replace h := brT hb6 h
        refine ve ?_
        refine W2 [1, 3, 40, 41, 42, 43] [101] [1003, 1040] (l := [(1, .c (.ptr _ _ _ _)), (3, .c (.own _ _ _ _)), (40, .c (.own _ _ _ _)), (41, .c (.int _ _)), (42, .c (.int _ _)), (43, .c (.bool true))]) (h := [(101, ⟨0, 10, [[.int _ _, .int _ _, .int _ _, .int _ _, .int _ _, .int _ _, .int _ _, .int _ _, .int _ _, .row _ _ _]]⟩)]) (h' := [(1003, ⟨0, 1, v3.map en_u8⟩), (1040, ⟨0, 1, ([a0.fKind, a0.fH.fSlot, a0.fH.fGen, a0.fR.fH.fSlot, a0.fR.fH.fGen, a0.fR.fEp, a0.fR.fNo, a0.fN, a0.fM, (a0.fB.length : Int)] : List Int).map en_i64⟩)]) ⟨⟨_, rfl, enOk_u8.allClosed _ _ v3⟩, ⟨⟨_, rfl, enOk_i64.allClosed _ _ ([a0.fKind, a0.fH.fSlot, a0.fH.fGen, a0.fR.fH.fSlot, a0.fR.fH.fGen, a0.fR.fEp, a0.fR.fNo, a0.fN, a0.fM, (a0.fB.length : Int)] : List Int)⟩, trivial⟩⟩ rfl rfl rfl ?_
        refine W_seq ?_
        refine W_true rfl ?_
        refine W_skip ?_
        refine W_seq ?_
        refine W_block ?_
        refine W_seq ?_
        refine W_regV he rfl ?_
        obtain ⟨c7, h⟩ := chk h
        refine v0 (sIOm rfl rfl rfl c7) rfl ?_
        refine v0 (sLkm rfl ([a0.fKind, a0.fH.fSlot, a0.fH.fGen, a0.fR.fH.fSlot, a0.fR.fH.fGen, a0.fR.fEp, a0.fR.fNo, a0.fN, a0.fM, (a0.fB.length : Int)] : List Int) c7 rfl rfl rfl rfl rfl rfl) rfl ?_
        refine v0 (sA rfl [] rfl) rfl ?_
        refine ve ?_
        refine W2 [1, 3, 5, 40, 41, 42] [101] [1003, 1040] (l := [(1, .c (.ptr _ _ _ _)), (3, .c (.own _ _ _ _)), (5, .c (.int _ _)), (40, .c (.own _ _ _ _)), (41, .c (.int _ _)), (42, .c (.int _ _))]) (h := [(101, ⟨0, 10, [[.int _ _, .int _ _, .int _ _, .int _ _, .int _ _, .int _ _, .int _ _, .int _ _, .int _ _, .row _ _ _]]⟩)]) (h' := [(1003, ⟨0, 1, v3.map en_u8⟩), (1040, ⟨0, 1, ([a0.fKind, a0.fH.fSlot, a0.fH.fGen, a0.fR.fH.fSlot, a0.fR.fH.fGen, a0.fR.fEp, a0.fR.fNo, a0.fN, a0.fM, (a0.fB.length : Int)] : List Int).map en_i64⟩)]) ⟨⟨_, rfl, enOk_u8.allClosed _ _ v3⟩, ⟨⟨_, rfl, enOk_i64.allClosed _ _ ([a0.fKind, a0.fH.fSlot, a0.fH.fGen, a0.fR.fH.fSlot, a0.fR.fH.fGen, a0.fR.fEp, a0.fR.fNo, a0.fN, a0.fM, (a0.fB.length : Int)] : List Int)⟩, trivial⟩⟩ rfl rfl rfl ?_
        refine W_regV he rfl ?_
        refine v0 (sM rfl [] rfl) rfl ?_
        refine v0 (sM rfl [] rfl) rfl ?_
        obtain ⟨r8, hr8, h⟩ := bnd2 h
        refine v0 (sCo (wo_impl_PutVar K v3 (gt ([a0.fKind, a0.fH.fSlot, a0.fH.fGen, a0.fR.fH.fSlot, a0.fR.fH.fGen, a0.fR.fEp, a0.fR.fNo, a0.fN, a0.fM, (a0.fB.length : Int)] : List Int) v4) _ hr8) ok_impl_PutVar (fun _ => rfl) [1003] 1003 rfl rfl rfl (low_cons (low_lent (l := v3) enOk_u8 rfl rfl rfl) (low_cons (rfl) (low_nil))) rfl) rfl ?_
        refine v0 (sA rfl [] rfl) rfl ?_
        refine ve ?_
        refine W2 [1, 3, 40, 41, 42] [101] [1003, 1040] (l := [(1, .c (.ptr _ _ _ _)), (3, .c (.own _ _ _ _)), (40, .c (.own _ _ _ _)), (41, .c (.int _ _)), (42, .c (.int _ _))]) (h := [(101, ⟨0, 10, [[.int _ _, .int _ _, .int _ _, .int _ _, .int _ _, .int _ _, .int _ _, .int _ _, .int _ _, .row _ _ _]]⟩)]) (h' := [(1003, ⟨0, 1, r8.map en_u8⟩), (1040, ⟨0, 1, ([a0.fKind, a0.fH.fSlot, a0.fH.fGen, a0.fR.fH.fSlot, a0.fR.fH.fGen, a0.fR.fEp, a0.fR.fNo, a0.fN, a0.fM, (a0.fB.length : Int)] : List Int).map en_i64⟩)]) ⟨⟨_, rfl, enOk_u8.allClosed _ _ r8⟩, ⟨⟨_, rfl, enOk_i64.allClosed _ _ ([a0.fKind, a0.fH.fSlot, a0.fH.fGen, a0.fR.fH.fSlot, a0.fR.fH.fGen, a0.fR.fEp, a0.fR.fNo, a0.fN, a0.fM, (a0.fB.length : Int)] : List Int)⟩, trivial⟩⟩ rfl rfl rfl ?_
        refine W_regV he rfl ?_
        refine v0 (sBi rfl rfl rfl rfl) rfl ?_
        refine v0 (sM rfl [] rfl) rfl ?_
        refine ve ?_
        exact ⟨n5, _, Nat.lt_succ_self n5, wk2 [1, 3, 40, 41, 42] [101] [1003, 1040] (l := [(1, .c (.ptr _ _ _ _)), (3, .c (.own _ _ _ _)), (40, .c (.own _ _ _ _)), (41, .c (.int _ _)), (42, .c (.int _ _))]) (h := [(101, ⟨0, 10, [[.int _ _, .int _ _, .int _ _, .int _ _, .int _ _, .int _ _, .int _ _, .int _ _, .int _ _, .row _ _ _]]⟩)]) (h' := [(1003, ⟨0, 1, r8.map en_u8⟩), (1040, ⟨0, 1, ([a0.fKind, a0.fH.fSlot, a0.fH.fGen, a0.fR.fH.fSlot, a0.fR.fH.fGen, a0.fR.fEp, a0.fR.fNo, a0.fN, a0.fM, (a0.fB.length : Int)] : List Int).map en_i64⟩)]) ⟨⟨_, rfl, enOk_u8.allClosed _ _ r8⟩, ⟨⟨_, rfl, enOk_i64.allClosed _ _ ([a0.fKind, a0.fH.fSlot, a0.fH.fGen, a0.fR.fH.fSlot, a0.fR.fH.fGen, a0.fR.fEp, a0.fR.fNo, a0.fN, a0.fM, (a0.fB.length : Int)] : List Int)⟩, trivial⟩⟩ rfl rfl rfl, _, _, rfl, h⟩
      | false =>
        replace h := brF hb6 h
        refine ve ?_
        refine W2 [1, 3, 40, 41, 42, 43] [101] [1003, 1040] (l := [(1, .c (.ptr _ _ _ _)), (3, .c (.own _ _ _ _)), (40, .c (.own _ _ _ _)), (41, .c (.int _ _)), (42, .c (.int _ _)), (43, .c (.bool false))]) (h := [(101, ⟨0, 10, [[.int _ _, .int _ _, .int _ _, .int _ _, .int _ _, .int _ _, .int _ _, .int _ _, .int _ _, .row _ _ _]]⟩)]) (h' := [(1003, ⟨0, 1, v3.map en_u8⟩), (1040, ⟨0, 1, ([a0.fKind, a0.fH.fSlot, a0.fH.fGen, a0.fR.fH.fSlot, a0.fR.fH.fGen, a0.fR.fEp, a0.fR.fNo, a0.fN, a0.fM, (a0.fB.length : Int)] : List Int).map en_i64⟩)]) ⟨⟨_, rfl, enOk_u8.allClosed _ _ v3⟩, ⟨⟨_, rfl, enOk_i64.allClosed _ _ ([a0.fKind, a0.fH.fSlot, a0.fH.fGen, a0.fR.fH.fSlot, a0.fR.fH.fGen, a0.fR.fEp, a0.fR.fNo, a0.fN, a0.fM, (a0.fB.length : Int)] : List Int)⟩, trivial⟩⟩ rfl rfl rfl ?_
        refine W_seq ?_
        refine W_false rfl ?_
        refine W_exit (ex_then (ex_then (ex_hit ?_)))
        refine W_seq ?_
        refine W_regV he rfl ?_
        refine v0 (sM rfl [] rfl) rfl ?_
        refine v0 (sFP rfl rfl rfl) rfl ?_
        refine v0 (sLd rfl rfl) rfl ?_
        obtain ⟨c9, h⟩ := chk h
        refine v0 (sAo rfl 1002 v3 a0.fB enOk_u8 rfl rfl rfl rfl rfl rfl rfl rfl rfl rfl rfl c9) rfl ?_
        refine v0 (sA rfl [] rfl) rfl ?_
        refine ve ?_
        refine W2 [2] [] [1002] (l := [(2, .c (.own _ _ _ _))]) (h := []) (h' := [(1002, ⟨0, 1, (v3 ++ a0.fB).map en_u8⟩)]) ⟨⟨_, rfl, enOk_u8.allClosed _ _ (v3 ++ a0.fB)⟩, trivial⟩ rfl rfl rfl ?_
        obtain rfl := Option.some.inj h
        exact W_ret (retOne 0 1002 (.inl rfl) enOk_u8 rfl rfl rfl)
  | false =>
    replace h := brF hb2 h
    refine v0 (sNt rfl rfl) rfl ?_
    refine ve ?_
    refine W2 [1, 3, 9] [101] [1003] (l := [(1, .c (.ptr _ _ _ _)), (3, .c (.own _ _ _ _)), (9, .c (.bool true))]) (h := [(101, ⟨0, 10, [[.int _ _, .int _ _, .int _ _, .int _ _, .int _ _, .int _ _, .int _ _, .int _ _, .int _ _, .row _ _ _]]⟩)]) (h' := [(1003, ⟨0, 1, ([] : List Int).map en_u8⟩)]) ⟨⟨_, rfl, enOk_u8.allClosed _ _ ([] : List Int)⟩, trivial⟩ rfl rfl rfl ?_
    refine W_true rfl ?_
    refine W_seq ?_
    refine W_regV he rfl ?_
    refine v0 (sM rfl [] rfl) rfl ?_
    refine v0 (sA rfl [] rfl) rfl ?_
    refine ve ?_
    refine W2 [2] [] [1003] (l := [(2, .c (.own _ _ _ _))]) (h := []) (h' := [(1003, ⟨0, 1, ([] : List Int).map en_u8⟩)]) ⟨⟨_, rfl, enOk_u8.allClosed _ _ ([] : List Int)⟩, trivial⟩ rfl rfl rfl ?_
    obtain rfl := Option.some.inj h
    exact W_ret (retOne 0 1003 (.inl rfl) enOk_u8 rfl rfl rfl)



end Go.Proofs.Ytlenlhlggknelaa
