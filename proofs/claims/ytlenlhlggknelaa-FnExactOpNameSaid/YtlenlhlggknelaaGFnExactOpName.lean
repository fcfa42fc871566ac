/- Models of the program's functions, and the walks that show them. Printed by gen.py. -/
import Derived.Test.YtlenlhlggknelaaEng23
import Derived.Test.YtlenlhlggknelaaEng26
import Derived.Test.YtlenlhlggknelaaTab
set_option linter.unusedVariables false
set_option linter.unusedSimpArgs false
namespace Go.Proofs.Ytlenlhlggknelaa
open Go.Eng Go.ChangeShapes Go.WideShapes Go.ChangeAt Go.RowKit
def en_string (x : ByteArray) : List V := [.str x]
theorem enOk_string : En en_string 1 := ⟨fun _ => rfl, fun _ => rfl, fun _ => rfl, fun x => rfl⟩
def en_i64 (x : Int) : List V := [.int .i64 x]
theorem enOk_i64 : En en_i64 1 := ⟨fun _ => rfl, fun _ => rfl, fun _ => rfl, fun x => rfl⟩

/-! ### loop.example/g00499/spec.l1In -/
def m_spec_l1In (K : Nat) (a0 : Int) (a1 : Int) (a2 : Int) : Option (Bool) := (bif (decide (a0 ≥ a1)) then some (decide (a0 ≤ a2)) else some false)
set_option maxRecDepth 20000 in
set_option maxHeartbeats 8000000 in
theorem w_spec_l1In (K : Nat) (a0 : Int) (a1 : Int) (a2 : Int) (r : Bool) (h : m_spec_l1In K a0 a1 a2 = some r) : Sp Try.prog 56 [.c (.int .i64 a0), .c (.int .i64 a1), .c (.int .i64 a2)] [] (.c (.bool r)) [] := by
  refine Sp.of_W tabOk Try.func56 rfl rfl (Nat.le_of_ble_eq_true rfl) (Nat.le_of_ble_eq_true rfl) fun F hP hN hm => ?_
  obtain ⟨P, N, w0, σ0, β0, m⟩ := F
  obtain rfl : P = Try.prog := hP
  obtain rfl : N = 15 := hN
  obtain rfl : m = 1 := hm
  have he : Env ⟨Try.prog, 15, w0, σ0, β0, 1⟩ tab := ⟨Nat.le_of_ble_eq_true rfl, tabOk⟩
  unfold m_spec_l1In at h
  refine W_seq ?_
  refine W_regV he rfl ?_
  refine v0 (sA rfl [] rfl) rfl ?_
  refine ve ?_
  refine W2 [0, 1, 2] [] [] (l := [(0, .c (.int _ _)), (1, .c (.int _ _)), (2, .c (.int _ _))]) (h := []) (h' := []) trivial rfl rfl rfl ?_
  refine W_seq ?_
  refine W_regV he rfl ?_
  refine v0 (sM rfl [] rfl) rfl ?_
  refine v0 (sM rfl [] rfl) rfl ?_
  refine vB (sBi rfl rfl rfl rfl) rfl rfl fun b1 hb1 => ?_
  cases b1 with
  | true =>
    replace h := brT hb1 h
    refine v0 (sM rfl [] rfl) rfl ?_
    refine u0 (sM rfl [] rfl) rfl rfl rfl ?_
    refine u0 (sM rfl [] rfl) rfl rfl rfl ?_
    refine u0 (sBi rfl rfl rfl rfl) rfl rfl rfl ?_
    refine v0 (sPk rfl [] rfl rfl) rfl ?_
    refine v0 (sA rfl [] rfl) rfl ?_
    refine ve ?_
    refine W2 [6] [] [] (l := [(6, .c (.bool _))]) (h := []) (h' := []) trivial rfl rfl rfl ?_
    obtain rfl := Option.some.inj h
    exact W_ret (r0 rfl rfl)
  | false =>
    replace h := brF hb1 h
    refine v0 (sM rfl [] rfl) rfl ?_
    refine uP rfl rfl rfl rfl ?_
    refine uP rfl rfl rfl rfl ?_
    refine uP rfl rfl rfl rfl ?_
    refine v0 (sPk rfl [] rfl rfl) rfl ?_
    refine v0 (sA rfl [] rfl) rfl ?_
    refine ve ?_
    refine W2 [6] [] [] (l := [(6, .c (.bool false))]) (h := []) (h' := []) trivial rfl rfl rfl ?_
    obtain rfl := Option.some.inj h
    exact W_ret (r0 rfl rfl)
theorem ok_spec_l1In : FnOk Try.prog 56 := ⟨_, Try.func56, rfl, rfl⟩


/-! ### loop.example/g00499/spec.OpName -/
def m_spec_OpName (K : Nat) (a0 : Int) : Option (ByteArray) := ((m_spec_l1In K a0 0 (iSub .i64 (([(⟨#[]⟩ : ByteArray), (⟨#[109, 97, 107, 101]⟩ : ByteArray), (⟨#[97, 108, 108, 111, 99]⟩ : ByteArray), (⟨#[114, 101, 97, 100]⟩ : ByteArray), (⟨#[119, 114, 105, 116, 101]⟩ : ByteArray), (⟨#[116, 97, 103]⟩ : ByteArray), (⟨#[114, 101, 115, 101, 116]⟩ : ByteArray), (⟨#[100, 101, 115, 116, 114, 111, 121]⟩ : ByteArray), (⟨#[115, 116, 97, 116, 115]⟩ : ByteArray), (⟨#[100, 114, 97, 105, 110]⟩ : ByteArray)] : List ByteArray).length : Int) 1)).bind fun r1 => (bif r1 then (if (0 : Int) ≤ a0 ∧ a0 < (([(⟨#[]⟩ : ByteArray), (⟨#[109, 97, 107, 101]⟩ : ByteArray), (⟨#[97, 108, 108, 111, 99]⟩ : ByteArray), (⟨#[114, 101, 97, 100]⟩ : ByteArray), (⟨#[119, 114, 105, 116, 101]⟩ : ByteArray), (⟨#[116, 97, 103]⟩ : ByteArray), (⟨#[114, 101, 115, 101, 116]⟩ : ByteArray), (⟨#[100, 101, 115, 116, 114, 111, 121]⟩ : ByteArray), (⟨#[115, 116, 97, 116, 115]⟩ : ByteArray), (⟨#[100, 114, 97, 105, 110]⟩ : ByteArray)] : List ByteArray).length : Int) then some (gt ([(⟨#[]⟩ : ByteArray), (⟨#[109, 97, 107, 101]⟩ : ByteArray), (⟨#[97, 108, 108, 111, 99]⟩ : ByteArray), (⟨#[114, 101, 97, 100]⟩ : ByteArray), (⟨#[119, 114, 105, 116, 101]⟩ : ByteArray), (⟨#[116, 97, 103]⟩ : ByteArray), (⟨#[114, 101, 115, 101, 116]⟩ : ByteArray), (⟨#[100, 101, 115, 116, 114, 111, 121]⟩ : ByteArray), (⟨#[115, 116, 97, 116, 115]⟩ : ByteArray), (⟨#[100, 114, 97, 105, 110]⟩ : ByteArray)] : List ByteArray) a0) else none) else some (⟨#[]⟩ : ByteArray)))
set_option maxRecDepth 20000 in
set_option maxHeartbeats 8000000 in
theorem w_spec_OpName (K : Nat) (a0 : Int) (r : ByteArray) (h : m_spec_OpName K a0 = some r) : Sp Try.prog 18 [.c (.int .i64 a0)] [] (.c (.str r)) [] := by
  refine Sp.of_W tabOk Try.func18 rfl rfl (Nat.le_of_ble_eq_true rfl) (Nat.le_of_ble_eq_true rfl) fun F hP hN hm => ?_
  obtain ⟨P, N, w0, σ0, β0, m⟩ := F
  obtain rfl : P = Try.prog := hP
  obtain rfl : N = 15 := hN
  obtain rfl : m = 1 := hm
  have he : Env ⟨Try.prog, 15, w0, σ0, β0, 1⟩ tab := ⟨Nat.le_of_ble_eq_true rfl, tabOk⟩
  unfold m_spec_OpName at h
  refine W_seq ?_
  refine W_regV he rfl ?_
  refine v0 (sA rfl [] rfl) rfl ?_
  refine ve ?_
  refine W2 [0] [] [] (l := [(0, .c (.int _ _))]) (h := []) (h' := []) trivial rfl rfl rfl ?_
  refine W_seq ?_
  refine W_regV he rfl ?_
  refine v0 (sBS rfl 1003 (rows := ([(⟨#[]⟩ : ByteArray), (⟨#[109, 97, 107, 101]⟩ : ByteArray), (⟨#[97, 108, 108, 111, 99]⟩ : ByteArray), (⟨#[114, 101, 97, 100]⟩ : ByteArray), (⟨#[119, 114, 105, 116, 101]⟩ : ByteArray), (⟨#[116, 97, 103]⟩ : ByteArray), (⟨#[114, 101, 115, 101, 116]⟩ : ByteArray), (⟨#[100, 101, 115, 116, 114, 111, 121]⟩ : ByteArray), (⟨#[115, 116, 97, 116, 115]⟩ : ByteArray), (⟨#[100, 114, 97, 105, 110]⟩ : ByteArray)] : List ByteArray).map en_string) rfl rfl rfl (by kernel_rfl) rfl rfl rfl rfl) rfl ?_
  refine v0 (sA rfl [] rfl) rfl ?_
  refine ve ?_
  refine W2 [0, 3] [] [1003] (l := [(0, .c (.int _ _)), (3, .c (.own _ _ _ _))]) (h := []) (h' := [(1003, ⟨0, 1, ([(⟨#[]⟩ : ByteArray), (⟨#[109, 97, 107, 101]⟩ : ByteArray), (⟨#[97, 108, 108, 111, 99]⟩ : ByteArray), (⟨#[114, 101, 97, 100]⟩ : ByteArray), (⟨#[119, 114, 105, 116, 101]⟩ : ByteArray), (⟨#[116, 97, 103]⟩ : ByteArray), (⟨#[114, 101, 115, 101, 116]⟩ : ByteArray), (⟨#[100, 101, 115, 116, 114, 111, 121]⟩ : ByteArray), (⟨#[115, 116, 97, 116, 115]⟩ : ByteArray), (⟨#[100, 114, 97, 105, 110]⟩ : ByteArray)] : List ByteArray).map en_string⟩)]) ⟨⟨_, rfl, enOk_string.allClosed _ _ ([(⟨#[]⟩ : ByteArray), (⟨#[109, 97, 107, 101]⟩ : ByteArray), (⟨#[97, 108, 108, 111, 99]⟩ : ByteArray), (⟨#[114, 101, 97, 100]⟩ : ByteArray), (⟨#[119, 114, 105, 116, 101]⟩ : ByteArray), (⟨#[116, 97, 103]⟩ : ByteArray), (⟨#[114, 101, 115, 101, 116]⟩ : ByteArray), (⟨#[100, 101, 115, 116, 114, 111, 121]⟩ : ByteArray), (⟨#[115, 116, 97, 116, 115]⟩ : ByteArray), (⟨#[100, 114, 97, 105, 110]⟩ : ByteArray)] : List ByteArray)⟩, trivial⟩ rfl rfl rfl ?_
  refine W_seq ?_
  refine W_seq ?_
  refine W_regV he rfl ?_
  refine v0 (sM rfl [] rfl) rfl ?_
  refine v0 (sM rfl [] rfl) rfl ?_
  refine v0 (sLo rfl rfl rfl rfl) rfl ?_
  refine v0 (sBi rfl rfl rfl rfl) rfl ?_
  obtain ⟨r1, hr1, h⟩ := bnd2 h
  refine vB (sCm (w_spec_l1In K a0 0 (iSub .i64 (([(⟨#[]⟩ : ByteArray), (⟨#[109, 97, 107, 101]⟩ : ByteArray), (⟨#[97, 108, 108, 111, 99]⟩ : ByteArray), (⟨#[114, 101, 97, 100]⟩ : ByteArray), (⟨#[119, 114, 105, 116, 101]⟩ : ByteArray), (⟨#[116, 97, 103]⟩ : ByteArray), (⟨#[114, 101, 115, 101, 116]⟩ : ByteArray), (⟨#[100, 101, 115, 116, 114, 111, 121]⟩ : ByteArray), (⟨#[115, 116, 97, 116, 115]⟩ : ByteArray), (⟨#[100, 114, 97, 105, 110]⟩ : ByteArray)] : List ByteArray).length : Int) 1) _ hr1) ok_spec_l1In rfl rfl rfl rfl) rfl rfl fun b2 hb2 => ?_
  cases b2 with
  | true =>
    replace h := brT hb2 h
    refine v0 (sNt rfl rfl) rfl ?_
    refine ve ?_
    refine W2 [0, 3, 10] [] [1003] (l := [(0, .c (.int _ _)), (3, .c (.own _ _ _ _)), (10, .c (.bool false))]) (h := []) (h' := [(1003, ⟨0, 1, ([(⟨#[]⟩ : ByteArray), (⟨#[109, 97, 107, 101]⟩ : ByteArray), (⟨#[97, 108, 108, 111, 99]⟩ : ByteArray), (⟨#[114, 101, 97, 100]⟩ : ByteArray), (⟨#[119, 114, 105, 116, 101]⟩ : ByteArray), (⟨#[116, 97, 103]⟩ : ByteArray), (⟨#[114, 101, 115, 101, 116]⟩ : ByteArray), (⟨#[100, 101, 115, 116, 114, 111, 121]⟩ : ByteArray), (⟨#[115, 116, 97, 116, 115]⟩ : ByteArray), (⟨#[100, 114, 97, 105, 110]⟩ : ByteArray)] : List ByteArray).map en_string⟩)]) ⟨⟨_, rfl, enOk_string.allClosed _ _ ([(⟨#[]⟩ : ByteArray), (⟨#[109, 97, 107, 101]⟩ : ByteArray), (⟨#[97, 108, 108, 111, 99]⟩ : ByteArray), (⟨#[114, 101, 97, 100]⟩ : ByteArray), (⟨#[119, 114, 105, 116, 101]⟩ : ByteArray), (⟨#[116, 97, 103]⟩ : ByteArray), (⟨#[114, 101, 115, 101, 116]⟩ : ByteArray), (⟨#[100, 101, 115, 116, 114, 111, 121]⟩ : ByteArray), (⟨#[115, 116, 97, 116, 115]⟩ : ByteArray), (⟨#[100, 114, 97, 105, 110]⟩ : ByteArray)] : List ByteArray)⟩, trivial⟩ rfl rfl rfl ?_
    refine W_false rfl ?_
    refine W_skip ?_
    refine W_seq ?_
    refine W_regV he rfl ?_
    refine v0 (sM rfl [] rfl) rfl ?_
    refine v0 (sM rfl [] rfl) rfl ?_
    obtain ⟨c3, h⟩ := chk h
    refine v0 (sIOm rfl rfl rfl c3) rfl ?_
    refine v0 (sLkm rfl ([(⟨#[]⟩ : ByteArray), (⟨#[109, 97, 107, 101]⟩ : ByteArray), (⟨#[97, 108, 108, 111, 99]⟩ : ByteArray), (⟨#[114, 101, 97, 100]⟩ : ByteArray), (⟨#[119, 114, 105, 116, 101]⟩ : ByteArray), (⟨#[116, 97, 103]⟩ : ByteArray), (⟨#[114, 101, 115, 101, 116]⟩ : ByteArray), (⟨#[100, 101, 115, 116, 114, 111, 121]⟩ : ByteArray), (⟨#[115, 116, 97, 116, 115]⟩ : ByteArray), (⟨#[100, 114, 97, 105, 110]⟩ : ByteArray)] : List ByteArray) c3 rfl rfl rfl rfl rfl rfl) rfl ?_
    refine v0 (sA rfl [] rfl) rfl ?_
    refine ve ?_
    refine W2 [2] [] [] (l := [(2, .c (.str _))]) (h := []) (h' := []) trivial rfl rfl rfl ?_
    obtain rfl := Option.some.inj h
    exact W_ret (r0 rfl rfl)
  | false =>
    replace h := brF hb2 h
    refine v0 (sNt rfl rfl) rfl ?_
    refine ve ?_
    refine W2 [0, 3, 10] [] [1003] (l := [(0, .c (.int _ _)), (3, .c (.own _ _ _ _)), (10, .c (.bool true))]) (h := []) (h' := [(1003, ⟨0, 1, ([(⟨#[]⟩ : ByteArray), (⟨#[109, 97, 107, 101]⟩ : ByteArray), (⟨#[97, 108, 108, 111, 99]⟩ : ByteArray), (⟨#[114, 101, 97, 100]⟩ : ByteArray), (⟨#[119, 114, 105, 116, 101]⟩ : ByteArray), (⟨#[116, 97, 103]⟩ : ByteArray), (⟨#[114, 101, 115, 101, 116]⟩ : ByteArray), (⟨#[100, 101, 115, 116, 114, 111, 121]⟩ : ByteArray), (⟨#[115, 116, 97, 116, 115]⟩ : ByteArray), (⟨#[100, 114, 97, 105, 110]⟩ : ByteArray)] : List ByteArray).map en_string⟩)]) ⟨⟨_, rfl, enOk_string.allClosed _ _ ([(⟨#[]⟩ : ByteArray), (⟨#[109, 97, 107, 101]⟩ : ByteArray), (⟨#[97, 108, 108, 111, 99]⟩ : ByteArray), (⟨#[114, 101, 97, 100]⟩ : ByteArray), (⟨#[119, 114, 105, 116, 101]⟩ : ByteArray), (⟨#[116, 97, 103]⟩ : ByteArray), (⟨#[114, 101, 115, 101, 116]⟩ : ByteArray), (⟨#[100, 101, 115, 116, 114, 111, 121]⟩ : ByteArray), (⟨#[115, 116, 97, 116, 115]⟩ : ByteArray), (⟨#[100, 114, 97, 105, 110]⟩ : ByteArray)] : List ByteArray)⟩, trivial⟩ rfl rfl rfl ?_
    refine W_true rfl ?_
    refine W_seq ?_
    refine W_regV he rfl ?_
    refine v0 (sA rfl [] rfl) rfl ?_
    refine ve ?_
    refine W2 [2] [] [] (l := [(2, .c (.str _))]) (h := []) (h' := []) trivial rfl rfl rfl ?_
    obtain rfl := Option.some.inj h
    exact W_ret (r0 rfl rfl)
theorem ok_spec_OpName : FnOk Try.prog 18 := ⟨_, Try.func18, rfl, rfl⟩


/-! ### loop.example/g00499/impl.within -/
def m_impl_within (K : Nat) (a0 : Int) (a1 : Int) (a2 : Int) : Option (Bool) := (bif (decide (a0 ≥ a1)) then some (decide (a0 ≤ a2)) else some false)
set_option maxRecDepth 20000 in
set_option maxHeartbeats 8000000 in
theorem w_impl_within (K : Nat) (a0 : Int) (a1 : Int) (a2 : Int) (r : Bool) (h : m_impl_within K a0 a1 a2 = some r) : Sp Try.prog 57 [.c (.int .i64 a0), .c (.int .i64 a1), .c (.int .i64 a2)] [] (.c (.bool r)) [] := by
  refine Sp.of_W tabOk Try.func57 rfl rfl (Nat.le_of_ble_eq_true rfl) (Nat.le_of_ble_eq_true rfl) fun F hP hN hm => ?_
  obtain ⟨P, N, w0, σ0, β0, m⟩ := F
  obtain rfl : P = Try.prog := hP
  obtain rfl : N = 15 := hN
  obtain rfl : m = 1 := hm
  have he : Env ⟨Try.prog, 15, w0, σ0, β0, 1⟩ tab := ⟨Nat.le_of_ble_eq_true rfl, tabOk⟩
  unfold m_impl_within at h
  refine W_seq ?_
  refine W_regV he rfl ?_
  refine v0 (sA rfl [] rfl) rfl ?_
  refine ve ?_
  refine W2 [0, 1, 2] [] [] (l := [(0, .c (.int _ _)), (1, .c (.int _ _)), (2, .c (.int _ _))]) (h := []) (h' := []) trivial rfl rfl rfl ?_
  refine W_seq ?_
  refine W_regV he rfl ?_
  refine v0 (sM rfl [] rfl) rfl ?_
  refine v0 (sM rfl [] rfl) rfl ?_
  refine vB (sBi rfl rfl rfl rfl) rfl rfl fun b1 hb1 => ?_
  cases b1 with
  | true =>
    replace h := brT hb1 h
    refine v0 (sM rfl [] rfl) rfl ?_
    refine u0 (sM rfl [] rfl) rfl rfl rfl ?_
    refine u0 (sM rfl [] rfl) rfl rfl rfl ?_
    refine u0 (sBi rfl rfl rfl rfl) rfl rfl rfl ?_
    refine v0 (sPk rfl [] rfl rfl) rfl ?_
    refine v0 (sA rfl [] rfl) rfl ?_
    refine ve ?_
    refine W2 [6] [] [] (l := [(6, .c (.bool _))]) (h := []) (h' := []) trivial rfl rfl rfl ?_
    obtain rfl := Option.some.inj h
    exact W_ret (r0 rfl rfl)
  | false =>
    replace h := brF hb1 h
    refine v0 (sM rfl [] rfl) rfl ?_
    refine uP rfl rfl rfl rfl ?_
    refine uP rfl rfl rfl rfl ?_
    refine uP rfl rfl rfl rfl ?_
    refine v0 (sPk rfl [] rfl rfl) rfl ?_
    refine v0 (sA rfl [] rfl) rfl ?_
    refine ve ?_
    refine W2 [6] [] [] (l := [(6, .c (.bool false))]) (h := []) (h' := []) trivial rfl rfl rfl ?_
    obtain rfl := Option.some.inj h
    exact W_ret (r0 rfl rfl)
theorem ok_impl_within : FnOk Try.prog 57 := ⟨_, Try.func57, rfl, rfl⟩


/-! ### loop.example/g00499/impl.OpName -/
def m_impl_OpName (K : Nat) (a0 : Int) : Option (ByteArray) := ((m_impl_within K a0 1 9).bind fun r1 => (bif r1 then (if (0 : Int) ≤ (iSub .i64 a0 1) ∧ (iSub .i64 a0 1) < (9 : Int) then some (gt ([(⟨#[109, 97, 107, 101]⟩ : ByteArray), (⟨#[97, 108, 108, 111, 99]⟩ : ByteArray), (⟨#[114, 101, 97, 100]⟩ : ByteArray), (⟨#[119, 114, 105, 116, 101]⟩ : ByteArray), (⟨#[116, 97, 103]⟩ : ByteArray), (⟨#[114, 101, 115, 101, 116]⟩ : ByteArray), (⟨#[100, 101, 115, 116, 114, 111, 121]⟩ : ByteArray), (⟨#[115, 116, 97, 116, 115]⟩ : ByteArray), (⟨#[100, 114, 97, 105, 110]⟩ : ByteArray)] : List ByteArray) (iSub .i64 a0 1)) else none) else some (⟨#[]⟩ : ByteArray)))
set_option maxRecDepth 20000 in
set_option maxHeartbeats 8000000 in
theorem w_impl_OpName (K : Nat) (a0 : Int) (r : ByteArray) (h : m_impl_OpName K a0 = some r) : Sp Try.prog 19 [.c (.int .i64 a0)] [] (.c (.str r)) [] := by
  refine Sp.of_W tabOk Try.func19 rfl rfl (Nat.le_of_ble_eq_true rfl) (Nat.le_of_ble_eq_true rfl) fun F hP hN hm => ?_
  obtain ⟨P, N, w0, σ0, β0, m⟩ := F
  obtain rfl : P = Try.prog := hP
  obtain rfl : N = 10 := hN
  obtain rfl : m = 1 := hm
  have he : Env ⟨Try.prog, 10, w0, σ0, β0, 1⟩ tab := ⟨Nat.le_of_ble_eq_true rfl, tabOk⟩
  unfold m_impl_OpName at h
  refine W_seq ?_
  refine W_regV he rfl ?_
  refine v0 (sA rfl [] rfl) rfl ?_
  refine ve ?_
  refine W2 [0] [] [] (l := [(0, .c (.int _ _))]) (h := []) (h' := []) trivial rfl rfl rfl ?_
  refine W_seq ?_
  refine W_seq ?_
  refine W_regV he rfl ?_
  refine v0 (sM rfl [] rfl) rfl ?_
  obtain ⟨r1, hr1, h⟩ := bnd2 h
  refine vB (sCm (w_impl_within K a0 1 9 _ hr1) ok_impl_within rfl rfl rfl rfl) rfl rfl fun b2 hb2 => ?_
  cases b2 with
  | true =>
    replace h := brT hb2 h
    refine v0 (sNt rfl rfl) rfl ?_
    refine ve ?_
    refine W2 [0, 5] [] [] (l := [(0, .c (.int _ _)), (5, .c (.bool false))]) (h := []) (h' := []) trivial rfl rfl rfl ?_
    refine W_false rfl ?_
    refine W_skip ?_
    refine W_seq ?_
    refine W_regV he rfl ?_
    refine v0 (sBdA rfl [[], [], [], [], [], [], [], [], []] (out := [.str (⟨#[109, 97, 107, 101]⟩ : ByteArray), .str (⟨#[97, 108, 108, 111, 99]⟩ : ByteArray), .str (⟨#[114, 101, 97, 100]⟩ : ByteArray), .str (⟨#[119, 114, 105, 116, 101]⟩ : ByteArray), .str (⟨#[116, 97, 103]⟩ : ByteArray), .str (⟨#[114, 101, 115, 101, 116]⟩ : ByteArray), .str (⟨#[100, 101, 115, 116, 114, 111, 121]⟩ : ByteArray), .str (⟨#[115, 116, 97, 116, 115]⟩ : ByteArray), .str (⟨#[100, 114, 97, 105, 110]⟩ : ByteArray)]) rfl rfl rfl (by kernel_rfl)) rfl ?_
    refine v0 (sM rfl [] rfl) rfl ?_
    refine v0 (sBi rfl rfl rfl rfl) rfl ?_
    obtain ⟨c3, h⟩ := chk h
    refine v0 (sIdx rfl (f := V.str) (ls := ([(⟨#[109, 97, 107, 101]⟩ : ByteArray), (⟨#[97, 108, 108, 111, 99]⟩ : ByteArray), (⟨#[114, 101, 97, 100]⟩ : ByteArray), (⟨#[119, 114, 105, 116, 101]⟩ : ByteArray), (⟨#[116, 97, 103]⟩ : ByteArray), (⟨#[114, 101, 115, 101, 116]⟩ : ByteArray), (⟨#[100, 101, 115, 116, 114, 111, 121]⟩ : ByteArray), (⟨#[115, 116, 97, 116, 115]⟩ : ByteArray), (⟨#[100, 114, 97, 105, 110]⟩ : ByteArray)] : List ByteArray)) rfl rfl rfl rfl rfl rfl rfl rfl c3) rfl ?_
    refine v0 (sA rfl [] rfl) rfl ?_
    refine ve ?_
    refine W2 [2] [] [] (l := [(2, .c (.str _))]) (h := []) (h' := []) trivial rfl rfl rfl ?_
    obtain rfl := Option.some.inj h
    exact W_ret (r0 rfl rfl)
  | false =>
    replace h := brF hb2 h
    refine v0 (sNt rfl rfl) rfl ?_
    refine ve ?_
    refine W2 [0, 5] [] [] (l := [(0, .c (.int _ _)), (5, .c (.bool true))]) (h := []) (h' := []) trivial rfl rfl rfl ?_
    refine W_true rfl ?_
    refine W_seq ?_
    refine W_regV he rfl ?_
    refine v0 (sA rfl [] rfl) rfl ?_
    refine ve ?_
    refine W2 [2] [] [] (l := [(2, .c (.str _))]) (h := []) (h' := []) trivial rfl rfl rfl ?_
    obtain rfl := Option.some.inj h
    exact W_ret (r0 rfl rfl)
theorem ok_impl_OpName : FnOk Try.prog 19 := ⟨_, Try.func19, rfl, rfl⟩


/-! ### loop.example/g00499/laws.FnExactOpName -/
def m_laws_FnExactOpName (K : Nat) (a0 : Int) : Option (Bool) := ((m_spec_OpName K a0).bind fun r1 => ((m_impl_OpName K a0).bind fun r2 => (bif (!(r2.toList == r1.toList)) then some false else some true)))
set_option maxRecDepth 20000 in
set_option maxHeartbeats 8000000 in
theorem w_laws_FnExactOpName (K : Nat) (a0 : Int) (r : Bool) (h : m_laws_FnExactOpName K a0 = some r) : Sp Try.prog 4 [.c (.int .i64 a0)] [] (.c (.bool r)) [] := by
  refine Sp.of_W tabOk Try.func4 rfl rfl (Nat.le_of_ble_eq_true rfl) (Nat.le_of_ble_eq_true rfl) fun F hP hN hm => ?_
  obtain ⟨P, N, w0, σ0, β0, m⟩ := F
  obtain rfl : P = Try.prog := hP
  obtain rfl : N = 12 := hN
  obtain rfl : m = 1 := hm
  have he : Env ⟨Try.prog, 12, w0, σ0, β0, 1⟩ tab := ⟨Nat.le_of_ble_eq_true rfl, tabOk⟩
  unfold m_laws_FnExactOpName at h
  refine W_seq ?_
  refine W_regV he rfl ?_
  refine v0 (sA rfl [] rfl) rfl ?_
  refine ve ?_
  refine W2 [0] [] [] (l := [(0, .c (.int _ _))]) (h := []) (h' := []) trivial rfl rfl rfl ?_
  refine W_seq ?_
  refine W_regV he rfl ?_
  refine v0 (sM rfl [] rfl) rfl ?_
  obtain ⟨r1, hr1, h⟩ := bnd2 h
  refine v0 (sCm (w_spec_OpName K a0 _ hr1) ok_spec_OpName rfl rfl rfl rfl) rfl ?_
  refine v0 (sA rfl [] rfl) rfl ?_
  refine ve ?_
  refine W2 [0, 3] [] [] (l := [(0, .c (.int _ _)), (3, .c (.str _))]) (h := []) (h' := []) trivial rfl rfl rfl ?_
  refine W_seq ?_
  refine W_regV he rfl ?_
  refine v0 (sM rfl [] rfl) rfl ?_
  obtain ⟨r2, hr2, h⟩ := bnd2 h
  refine v0 (sCm (w_impl_OpName K a0 _ hr2) ok_impl_OpName rfl rfl rfl rfl) rfl ?_
  refine v0 (sA rfl [] rfl) rfl ?_
  refine ve ?_
  refine W2 [3, 4] [] [] (l := [(3, .c (.str _)), (4, .c (.str _))]) (h := []) (h' := []) trivial rfl rfl rfl ?_
  refine W_seq ?_
  refine W_seq ?_
  refine W_regV he rfl ?_
  refine v0 (sM rfl [] rfl) rfl ?_
  refine v0 (sM rfl [] rfl) rfl ?_
  refine vB (sStrE rfl (.inr rfl) rfl rfl) rfl rfl fun b3 hb3 => ?_
  cases b3 with
  | true =>
    replace h := brT hb3 h
    refine ve ?_
    refine W2 [11] [] [] (l := [(11, .c (.bool true))]) (h := []) (h' := []) trivial rfl rfl rfl ?_
    refine W_true rfl ?_
    refine W_seq ?_
    refine W_regV he rfl ?_
    refine v0 (sA rfl [] rfl) rfl ?_
    refine ve ?_
    refine W2 [2] [] [] (l := [(2, .c (.bool false))]) (h := []) (h' := []) trivial rfl rfl rfl ?_
    obtain rfl := Option.some.inj h
    exact W_ret (r0 rfl rfl)
  | false =>
    replace h := brF hb3 h
    refine ve ?_
    refine W2 [11] [] [] (l := [(11, .c (.bool false))]) (h := []) (h' := []) trivial rfl rfl rfl ?_
    refine W_false rfl ?_
    refine W_skip ?_
    refine W_seq ?_
    refine W_regV he rfl ?_
    refine v0 (sA rfl [] rfl) rfl ?_
    refine ve ?_
    refine W2 [2] [] [] (l := [(2, .c (.bool true))]) (h := []) (h' := []) trivial rfl rfl rfl ?_
    obtain rfl := Option.some.inj h
    exact W_ret (r0 rfl rfl)
theorem ok_laws_FnExactOpName : FnOk Try.prog 4 := ⟨_, Try.func4, rfl, rfl⟩


def Wf_string (x : ByteArray) : Prop := x.size ≤ reachBytes
def Wf_i64 (x : Int) : Prop := (Lit.int .i64 x).wf = true
theorem lf_string {v : V} (h : Lf tab 9 v) : ∃ a, v = .str a ∧ Wf_string a := lf_str h rfl rfl
theorem ro_string (x : List V) (hl : x.length = 1) (h : ∀ (i : Nat) l v, ([9] : List Nat)[i]? = some l → x[i]? = some v → Lf tab l v) : ∃ a, x = en_string a ∧ Wf_string a := by
  match x, hl with
  | [v0], _ =>
    obtain ⟨x0, rfl, w0⟩ := lf_string (h 0 _ _ rfl rfl)
    exact ⟨x0, rfl, w0⟩
theorem ta_string {x : A} (h : TA tab 9 x) : ∃ a, x = .c (.str a) ∧ Wf_string a := let ⟨v, e, h1⟩ := ta_one h rfl rfl; let ⟨a, e2, w⟩ := lf_string h1; ⟨a, by rw [e, e2], w⟩
theorem lf_i64 {v : V} (h : Lf tab 3 v) : ∃ a, v = .int .i64 a ∧ Wf_i64 a := lf_int h rfl rfl
theorem ro_i64 (x : List V) (hl : x.length = 1) (h : ∀ (i : Nat) l v, ([3] : List Nat)[i]? = some l → x[i]? = some v → Lf tab l v) : ∃ a, x = en_i64 a ∧ Wf_i64 a := by
  match x, hl with
  | [v0], _ =>
    obtain ⟨x0, rfl, w0⟩ := lf_i64 (h 0 _ _ rfl rfl)
    exact ⟨x0, rfl, w0⟩
theorem ta_i64 {x : A} (h : TA tab 3 x) : ∃ a, x = .c (.int .i64 a) ∧ Wf_i64 a := let ⟨v, e, h1⟩ := ta_one h rfl rfl; let ⟨a, e2, w⟩ := lf_i64 h1; ⟨a, by rw [e, e2], w⟩

theorem ownKnob0 : ownKnob Try.prog.godebug = none := by kernel_rfl
theorem laidOut0 : laidOutB Try.prog = true := by kernel_rfl
end Go.Proofs.Ytlenlhlggknelaa
