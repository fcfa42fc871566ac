/- Models of the program's functions, and the walks that show them. Printed by gen.py. -/
import Derived.Test.YtlenlhlggknelaaEng23
import Derived.Test.YtlenlhlggknelaaEng27
import Derived.Test.YtlenlhlggknelaaTab
set_option linter.unusedVariables false
set_option linter.unusedSimpArgs false
namespace Go.Proofs.Ytlenlhlggknelaa
open Go.Eng Go.ChangeShapes Go.WideShapes Go.ChangeAt Go.RowKit
structure T_spec_l1Cur where
  fb : List Int
  fi : Int
  fh : Int
  deriving Inhabited
def en_u8 (x : Int) : List V := [.int .u8 x]
theorem enOk_u8 : En en_u8 1 := ⟨fun _ => rfl, fun _ => rfl, fun _ => rfl, fun x => rfl⟩
def en_Lu8 (x : List Int) : List V := [.row false 1 (x.map en_u8)]
theorem enOk_Lu8 : En en_Lu8 1 := ⟨fun _ => rfl, fun _ => rfl, fun _ => rfl, fun l => by show [V.share _] = _; rw [V.share, enOk_u8.shareLL]; rfl⟩
def en_i64 (x : Int) : List V := [.int .i64 x]
theorem enOk_i64 : En en_i64 1 := ⟨fun _ => rfl, fun _ => rfl, fun _ => rfl, fun x => rfl⟩
def en_spec_l1Cur (x : T_spec_l1Cur) : List V := [.row false 1 (x.fb.map en_u8), .int .i64 x.fi, .int .i64 x.fh]
theorem enOk_spec_l1Cur : En en_spec_l1Cur 3 := ⟨fun _ => rfl, fun _ => rfl, fun _ => rfl, fun x => by simp only [en_spec_l1Cur, shareL, V.share, enOk_u8.shareLL]⟩

/-! ### loop.example/g00499/laws.big -/
def m_laws_big (K : Nat) (a0 : List Int) : Option (Bool) := some (decide ((a0.length : Int) > 1048576))
set_option maxRecDepth 20000 in
set_option maxHeartbeats 8000000 in
theorem w_laws_big (K : Nat) (a0 : List Int) (r : Bool) (h : m_laws_big K a0 = some r) : Sp Try.prog 42 [.c (.row false 1 (a0.map en_u8))] [] (.c (.bool r)) [] := by
  refine Sp.of_W tabOk Try.func42 rfl rfl (Nat.le_of_ble_eq_true rfl) (Nat.le_of_ble_eq_true rfl) fun F hP hN hm => ?_
  obtain ⟨P, N, w0, σ0, β0, m⟩ := F
  obtain rfl : P = Try.prog := hP
  obtain rfl : N = 6 := hN
  obtain rfl : m = 1 := hm
  have he : Env ⟨Try.prog, 6, w0, σ0, β0, 1⟩ tab := ⟨Nat.le_of_ble_eq_true rfl, tabOk⟩
  unfold m_laws_big at h
  refine W_seq ?_
  refine W_regV he rfl ?_
  refine v0 (sA rfl [] rfl) rfl ?_
  refine ve ?_
  refine W2 [0] [] [] (l := [(0, .c (.row _ _ _))]) (h := []) (h' := []) trivial rfl rfl rfl ?_
  refine W_seq ?_
  refine W_regV he rfl ?_
  refine v0 (sM rfl [] rfl) rfl ?_
  refine v0 (sLm rfl rfl rfl rfl) rfl ?_
  refine v0 (sBi rfl rfl rfl rfl) rfl ?_
  refine v0 (sA rfl [] rfl) rfl ?_
  refine ve ?_
  refine W2 [2] [] [] (l := [(2, .c (.bool _))]) (h := []) (h' := []) trivial rfl rfl rfl ?_
  obtain rfl := Option.some.inj h
  exact W_ret (r0 rfl rfl)
theorem ok_laws_big : FnOk Try.prog 42 := ⟨_, Try.func42, rfl, rfl⟩


/-! ### loop.example/g00499/spec.l1New -/
def l_spec_l1New_3 (K : Nat) (a0 : List Int) : Nat → Int → Int → Option (T_spec_l1Cur)
  | 0, _, _ => none
  | n3 + 1, v1, v2 => (bif (decide (v2 < (a0.length : Int))) then (bif (decide (v2 < 4000)) then (if (0 : Int) ≤ v2 ∧ v2 < (a0.length : Int) then (l_spec_l1New_3 K a0 n3 (iAnd .i64 (iAdd .i64 (iAdd .i64 (iMul .i64 v1 137) (IntKind.i64.wrap (gt a0 v2))) 11) 1073741823) (iAdd .i64 v2 1)) else none) else some (T_spec_l1Cur.mk a0 0 v1)) else some (T_spec_l1Cur.mk a0 0 v1))
def m_spec_l1New (K : Nat) (a0 : List Int) : Option (T_spec_l1Cur) := (l_spec_l1New_3 K a0 K (iAdd .i64 161416 (a0.length : Int)) 0)
set_option maxRecDepth 20000 in
set_option maxHeartbeats 8000000 in
theorem wo_spec_l1New (K : Nat) (a0 : List Int) (r : T_spec_l1Cur) (h : m_spec_l1New K a0 = some r) : Sp Try.prog 66 [.c (.row false 1 (a0.map en_u8))] [] (.c (.ptr 1 0 0 0)) [⟨0, 3, [r].map en_spec_l1Cur⟩] := by
  refine Sp.of_W tabOk Try.func66 rfl rfl (Nat.le_of_ble_eq_true rfl) (Nat.le_of_ble_eq_true rfl) fun F hP hN hm => ?_
  obtain ⟨P, N, w0, σ0, β0, m⟩ := F
  obtain rfl : P = Try.prog := hP
  obtain rfl : N = 32 := hN
  obtain rfl : m = 1 := hm
  have he : Env ⟨Try.prog, 32, w0, σ0, β0, 1⟩ tab := ⟨Nat.le_of_ble_eq_true rfl, tabOk⟩
  unfold m_spec_l1New at h
  refine W_seq ?_
  refine W_regV he rfl ?_
  refine v0 (sA rfl [] rfl) rfl ?_
  refine ve ?_
  refine W2 [0] [] [] (l := [(0, .c (.row _ _ _))]) (h := []) (h' := []) trivial rfl rfl rfl ?_
  refine W_seq ?_
  refine W_regV he rfl ?_
  refine v0 (sM rfl [] rfl) rfl ?_
  refine v0 (sLm rfl rfl rfl rfl) rfl ?_
  refine v0 (sBi rfl rfl rfl rfl) rfl ?_
  refine v0 (sA rfl [] rfl) rfl ?_
  refine ve ?_
  refine W2 [0, 3] [] [] (l := [(0, .c (.row _ _ _)), (3, .c (.int _ _))]) (h := []) (h' := []) trivial rfl rfl rfl ?_
  refine W_seq ?_
  refine W_seq ?_
  refine W_regV he rfl ?_
  refine v0 (sA rfl [] rfl) rfl ?_
  refine ve ?_
  refine W2 [0, 3, 4] [] [] (l := [(0, .c (.row _ _ _)), (3, .c (.int _ _)), (4, .c (.int _ _))]) (h := []) (h' := []) trivial rfl rfl rfl ?_
  refine W_block ?_
  refine W2 [0, 3, 4] [] [] (l := [(0, .c (.row _ _ _)), (3, .c (.int _ _)), (4, .c (.int _ _))]) (h := []) (h' := []) trivial rfl rfl rfl ?_
  refine W_loopW (fun n3 S => ∃ (v1 : Int), ∃ (v2 : Int), S = StL [(0, .c (.row false 1 (a0.map en_u8))), (3, .c (.int .i64 v1)), (4, .c (.int .i64 v2))] ([] ++ []) ∧ l_spec_l1New_3 K a0 n3 v1 v2 = some r) K ⟨_, _, rfl, h⟩ ?_
  rintro n3 S ⟨v1, v2, rfl, h⟩
  cases n3 with
  | zero => simp [l_spec_l1New_3] at h
  | succ n3 =>
    rw [l_spec_l1New_3] at h
    refine W_seq ?_
    refine W_seq ?_
    refine W_regV he rfl ?_
    refine v0 (sM rfl [] rfl) rfl ?_
    refine v0 (sM rfl [] rfl) rfl ?_
    refine v0 (sLm rfl rfl rfl rfl) rfl ?_
    refine vB (sBi rfl rfl rfl rfl) rfl rfl fun b4 hb4 => ?_
    cases b4 with
    | true =>
      replace h := brT hb4 h
      refine v0 (sM rfl [] rfl) rfl ?_
      refine u0 (sM rfl [] rfl) rfl rfl rfl ?_
      refine uB (sBi rfl rfl rfl rfl) rfl rfl rfl rfl fun b5 hb5 => ?_
      cases b5 with
      | true =>
        replace h := brT hb5 h
        refine v0 (sPk rfl [] rfl rfl) rfl ?_
        refine ve ?_
        refine W2 [0, 3, 4, 15] [] [] (l := [(0, .c (.row _ _ _)), (3, .c (.int _ _)), (4, .c (.int _ _)), (15, .c (.bool true))]) (h := []) (h' := []) trivial rfl rfl rfl ?_
        refine W_true rfl ?_
        refine W_skip ?_
        refine W_seq ?_
        refine W_block ?_
        refine W_regV he rfl ?_
        refine v0 (sM rfl [] rfl) rfl ?_
        refine v0 (sBi rfl rfl rfl rfl) rfl ?_
        refine v0 (sM rfl [] rfl) rfl ?_
        refine v0 (sM rfl [] rfl) rfl ?_
        refine chkc h ?_; clear h; intro c6 h
        refine v0 (sIRm rfl rfl rfl rfl c6) rfl ?_
        refine v0 (sLI rfl rfl (en_u8 (gt a0 v2)) (gt_at _ c6) rfl rfl rfl) rfl ?_
        refine v0 (sCv rfl rfl rfl rfl rfl rfl) rfl ?_
        refine v0 (sBi rfl rfl rfl rfl) rfl ?_
        refine v0 (sBi rfl rfl rfl rfl) rfl ?_
        refine v0 (sBi rfl rfl rfl rfl) rfl ?_
        refine v0 (sA rfl [] rfl) rfl ?_
        refine ve ?_
        refine W2 [0, 3, 4] [] [] (l := [(0, .c (.row _ _ _)), (3, .c (.int _ _)), (4, .c (.int _ _))]) (h := []) (h' := []) trivial rfl rfl rfl ?_
        refine W_regV he rfl ?_
        refine v0 (sM rfl [] rfl) rfl ?_
        refine v0 (sBi rfl rfl rfl rfl) rfl ?_
        refine v0 (sA rfl [] rfl) rfl ?_
        refine ve ?_
        exact ⟨n3, _, Nat.lt_succ_self n3, wk2 [0, 3, 4] [] [] (l := [(0, .c (.row _ _ _)), (3, .c (.int _ _)), (4, .c (.int _ _))]) (h := []) (h' := []) trivial rfl rfl rfl, _, _, rfl, h⟩
      | false =>
        replace h := brF hb5 h
        refine v0 (sPk rfl [] rfl rfl) rfl ?_
        refine ve ?_
        refine W2 [0, 3, 4, 15] [] [] (l := [(0, .c (.row _ _ _)), (3, .c (.int _ _)), (4, .c (.int _ _)), (15, .c (.bool false))]) (h := []) (h' := []) trivial rfl rfl rfl ?_
        refine W_false rfl ?_
        refine W_exit (ex_then (ex_then (ex_hit ?_)))
        refine W_seq ?_
        refine W_regV he rfl ?_
        refine v0 (sM rfl [] rfl) rfl ?_
        refine v0 (sM rfl [] rfl) rfl ?_
        refine v0 (sBd rfl [[], []] (out := [.row false 1 (a0.map en_u8), .int .i64 0, .int .i64 v1]) rfl (by kernel_rfl)) rfl ?_
        refine v0 (sBx rfl [] rfl rfl 101 rfl) rfl ?_
        refine v0 (sA rfl [] rfl) rfl ?_
        refine ve ?_
        refine W2 [2] [101] [] (l := [(2, .c (.ptr _ _ _ _))]) (h := [(101, ⟨0, 3, [[.row _ _ _, .int _ _, .int _ _]]⟩)]) (h' := []) trivial rfl rfl rfl ?_
        obtain rfl := Option.some.inj h
        exact W_ret (retOne (l := [(T_spec_l1Cur.mk a0 0 v1)]) 0 101 (.inl rfl) enOk_spec_l1Cur rfl rfl rfl)
    | false =>
      replace h := brF hb4 h
      refine v0 (sM rfl [] rfl) rfl ?_
      refine uP rfl rfl rfl rfl ?_
      refine uP rfl rfl rfl rfl ?_
      refine v0 (sPk rfl [] rfl rfl) rfl ?_
      refine ve ?_
      refine W2 [0, 3, 4, 15] [] [] (l := [(0, .c (.row _ _ _)), (3, .c (.int _ _)), (4, .c (.int _ _)), (15, .c (.bool false))]) (h := []) (h' := []) trivial rfl rfl rfl ?_
      refine W_false rfl ?_
      refine W_exit (ex_then (ex_then (ex_hit ?_)))
      refine W_seq ?_
      refine W_regV he rfl ?_
      refine v0 (sM rfl [] rfl) rfl ?_
      refine v0 (sM rfl [] rfl) rfl ?_
      refine v0 (sBd rfl [[], []] (out := [.row false 1 (a0.map en_u8), .int .i64 0, .int .i64 v1]) rfl (by kernel_rfl)) rfl ?_
      refine v0 (sBx rfl [] rfl rfl 102 rfl) rfl ?_
      refine v0 (sA rfl [] rfl) rfl ?_
      refine ve ?_
      refine W2 [2] [102] [] (l := [(2, .c (.ptr _ _ _ _))]) (h := [(102, ⟨0, 3, [[.row _ _ _, .int _ _, .int _ _]]⟩)]) (h' := []) trivial rfl rfl rfl ?_
      obtain rfl := Option.some.inj h
      exact W_ret (retOne (l := [(T_spec_l1Cur.mk a0 0 v1)]) 0 102 (.inl rfl) enOk_spec_l1Cur rfl rfl rfl)
theorem ok_spec_l1New : FnOk Try.prog 66 := ⟨_, Try.func66, rfl, rfl⟩


/-! ### loop.example/g00499/spec.l1Byte -/
def j_spec_l1ByteW_3 (K : Nat) (v104 : Int) (v105 : List Int) (v106 : Int) (v107 : Int) : Option (Int × T_spec_l1Cur) := some (v104, (T_spec_l1Cur.mk v105 v106 v107))
def m_spec_l1ByteW (K : Nat) (a0 : T_spec_l1Cur) : Option (Int × T_spec_l1Cur) := (if (0 : Int) ≤ 33 then (if (0 : Int) ≤ 47 then (bif (decide (a0.fi < (a0.fb.length : Int))) then (if (0 : Int) ≤ a0.fi ∧ a0.fi < (a0.fb.length : Int) then j_spec_l1ByteW_3 K (iAnd .i64 (iAdd .i64 (iAnd .i64 (iXor .i64 (iShr .i64 (iAdd .i64 (iMul .i64 a0.fh 6364136223846793005) 1442695040888963407) 33) (iShr .i64 (iAdd .i64 (iMul .i64 a0.fh 6364136223846793005) 1442695040888963407) 47)) 255) (IntKind.i64.wrap (gt a0.fb a0.fi))) 255) a0.fb (iAdd .i64 a0.fi 1) (iAdd .i64 (iMul .i64 a0.fh 6364136223846793005) 1442695040888963407) else none) else j_spec_l1ByteW_3 K (iAnd .i64 (iXor .i64 (iShr .i64 (iAdd .i64 (iMul .i64 a0.fh 6364136223846793005) 1442695040888963407) 33) (iShr .i64 (iAdd .i64 (iMul .i64 a0.fh 6364136223846793005) 1442695040888963407) 47)) 255) a0.fb a0.fi (iAdd .i64 (iMul .i64 a0.fh 6364136223846793005) 1442695040888963407)) else none) else none)
set_option maxRecDepth 20000 in
set_option maxHeartbeats 8000000 in
theorem w_spec_l1ByteW (K : Nat) (a0 : T_spec_l1Cur) (r : Int × T_spec_l1Cur) (h : m_spec_l1ByteW K a0 = some r) : Sp Try.prog 76 [.c (.ptr 1 0 0 0)] [⟨0, 3, [a0].map en_spec_l1Cur⟩] (.c (.int .i64 r.1)) [⟨0, 3, [r.2].map en_spec_l1Cur⟩] := by
  refine Sp.of_W tabOk Try.func76 rfl rfl (Nat.le_of_ble_eq_true rfl) (Nat.le_of_ble_eq_true rfl) fun F hP hN hm => ?_
  obtain ⟨P, N, w0, σ0, β0, m⟩ := F
  obtain rfl : P = Try.prog := hP
  obtain rfl : N = 58 := hN
  obtain rfl : m = 2 := hm
  have he : Env ⟨Try.prog, 58, w0, σ0, β0, 2⟩ tab := ⟨Nat.le_of_ble_eq_true rfl, tabOk⟩
  unfold m_spec_l1ByteW at h
  refine W_seq ?_
  refine W_regV he rfl ?_
  refine v0 (sA rfl [] rfl) rfl ?_
  refine ve ?_
  refine W2 [0] [1] [] (l := [(0, .c (.ptr _ _ _ _))]) (h := [(1, ⟨0, 3, [[.row _ _ _, .int _ _, .int _ _]]⟩)]) (h' := []) trivial rfl rfl rfl ?_
  refine W_seq ?_
  refine W_regV he rfl ?_
  refine v0 (sM rfl [] rfl) rfl ?_
  refine v0 (sM rfl [] rfl) rfl ?_
  refine v0 (sNc rfl rfl) rfl ?_
  refine v0 (sFP rfl rfl rfl) rfl ?_
  refine v0 (sLd rfl rfl) rfl ?_
  refine v0 (sBi rfl rfl rfl rfl) rfl ?_
  refine v0 (sBi rfl rfl rfl rfl) rfl ?_
  refine v0 (sNc rfl rfl) rfl ?_
  refine v0 (sFP rfl rfl rfl) rfl ?_
  refine v0 (sSt rfl rfl [] rfl rfl) rfl ?_
  refine ve ?_
  refine W2 [0] [1] [] (l := [(0, .c (.ptr _ _ _ _))]) (h := [(1, ⟨0, 3, [[.row _ _ _, .int _ _, .int _ _]]⟩)]) (h' := []) trivial rfl rfl rfl ?_
  refine W_seq ?_
  refine W_regD he rfl rfl rfl ?_
  refine g0 (sM rfl [] rfl) rfl ?_
  refine g0 (sNc rfl rfl) rfl ?_
  refine g0 (sFP rfl rfl rfl) rfl ?_
  refine g0 (sLd rfl rfl) rfl ?_
  refine chkc h ?_; clear h; intro c1 h
  refine g0 (sSr rfl rfl rfl c1) rfl ?_
  refine g0 (sM rfl [] rfl) rfl ?_
  refine g0 (sNc rfl rfl) rfl ?_
  refine g0 (sFP rfl rfl rfl) rfl ?_
  refine g0 (sLd rfl rfl) rfl ?_
  refine chkc h ?_; clear h; intro c2 h
  refine g0 (sSr rfl rfl rfl c2) rfl ?_
  refine g0 (sBi rfl rfl rfl rfl) rfl ?_
  refine g0 (sBi rfl rfl rfl rfl) rfl ?_
  refine g0 (sA rfl [] rfl) rfl ?_
  refine ge ⟨rfl, ?_⟩
  refine W2 [0, 3] [1] [] (l := [(0, .c (.ptr _ _ _ _)), (3, .c (.int _ _))]) (h := [(1, ⟨0, 3, [[.row _ _ _, .int _ _, .int _ _]]⟩)]) (h' := []) trivial rfl rfl rfl ?_
  refine W_join (fun S => ∃ (v104 : Int), ∃ (v105 : List Int), ∃ (v106 : Int), ∃ (v107 : Int), S = StL [(3, .c (.int .i64 v104))] ([(1, ⟨0, 3, [[.row false 1 (v105.map en_u8), .int .i64 v106, .int .i64 v107]]⟩)] ++ []) ∧ j_spec_l1ByteW_3 K v104 v105 v106 v107 = some r) ?_ ?_
  · rintro S ⟨v104, v105, v106, v107, rfl, h⟩
    unfold j_spec_l1ByteW_3 at h
    refine W_seq ?_
    refine W_regV he rfl ?_
    refine v0 (sM rfl [] rfl) rfl ?_
    refine v0 (sA rfl [] rfl) rfl ?_
    refine ve ?_
    refine W2 [2] [1] [] (l := [(2, .c (.int _ _))]) (h := [(1, ⟨0, 3, [[.row _ _ _, .int _ _, .int _ _]]⟩)]) (h' := []) trivial rfl rfl rfl ?_
    obtain rfl := Option.some.inj h
    exact W_ret (retOne (l := [(T_spec_l1Cur.mk v105 v106 v107)]) 1 1 (.inr ⟨rfl, rfl⟩) enOk_spec_l1Cur rfl rfl rfl)
  ·
    refine W_seq ?_
    refine W_regD he rfl rfl rfl ?_
    refine g0 (sM rfl [] rfl) rfl ?_
    refine g0 (sNc rfl rfl) rfl ?_
    refine g0 (sFP rfl rfl rfl) rfl ?_
    refine g0 (sLd rfl rfl) rfl ?_
    refine g0 (sM rfl [] rfl) rfl ?_
    refine g0 (sNc rfl rfl) rfl ?_
    refine g0 (sFP rfl rfl rfl) rfl ?_
    refine g0 (sLd rfl rfl) rfl ?_
    refine g0 (sLm rfl rfl rfl rfl) rfl ?_
    refine gB (sBi rfl rfl rfl rfl) rfl rfl fun b108 hb108 => ?_
    cases b108 with
    | true =>
      replace h := brT hb108 h
      refine ge ⟨rfl, ?_⟩
      refine W2 [0, 3, 34] [1] [] (l := [(0, .c (.ptr _ _ _ _)), (3, .c (.int _ _)), (34, .c (.bool true))]) (h := [(1, ⟨0, 3, [[.row _ _ _, .int _ _, .int _ _]]⟩)]) (h' := []) trivial rfl rfl rfl ?_
      refine W_true rfl ?_
      refine W_seq ?_
      refine W_regD he rfl rfl rfl ?_
      refine g0 (sM rfl [] rfl) rfl ?_
      refine g0 (sM rfl [] rfl) rfl ?_
      refine g0 (sNc rfl rfl) rfl ?_
      refine g0 (sFP rfl rfl rfl) rfl ?_
      refine g0 (sLd rfl rfl) rfl ?_
      refine g0 (sM rfl [] rfl) rfl ?_
      refine g0 (sNc rfl rfl) rfl ?_
      refine g0 (sFP rfl rfl rfl) rfl ?_
      refine g0 (sLd rfl rfl) rfl ?_
      refine chkc h ?_; clear h; intro c109 h
      refine g0 (sIRm rfl rfl rfl rfl c109) rfl ?_
      refine g0 (sLI rfl rfl (en_u8 (gt a0.fb a0.fi)) (gt_at _ c109) rfl rfl rfl) rfl ?_
      refine g0 (sCv rfl rfl rfl rfl rfl rfl) rfl ?_
      refine g0 (sBi rfl rfl rfl rfl) rfl ?_
      refine g0 (sBi rfl rfl rfl rfl) rfl ?_
      refine g0 (sA rfl [] rfl) rfl ?_
      refine ge ⟨rfl, ?_⟩
      refine W2 [0, 3] [1] [] (l := [(0, .c (.ptr _ _ _ _)), (3, .c (.int _ _))]) (h := [(1, ⟨0, 3, [[.row _ _ _, .int _ _, .int _ _]]⟩)]) (h' := []) trivial rfl rfl rfl ?_
      refine W_regV he rfl ?_
      refine v0 (sM rfl [] rfl) rfl ?_
      refine v0 (sM rfl [] rfl) rfl ?_
      refine v0 (sNc rfl rfl) rfl ?_
      refine v0 (sFP rfl rfl rfl) rfl ?_
      refine v0 (sLd rfl rfl) rfl ?_
      refine v0 (sBi rfl rfl rfl rfl) rfl ?_
      refine v0 (sNc rfl rfl) rfl ?_
      refine v0 (sFP rfl rfl rfl) rfl ?_
      refine v0 (sSt rfl rfl [] rfl rfl) rfl ?_
      refine ve ?_
      exact ⟨_, wk2 [3] [1] [] (l := [(3, .c (.int _ _))]) (h := [(1, ⟨0, 3, [[.row _ _ _, .int _ _, .int _ _]]⟩)]) (h' := []) trivial rfl rfl rfl, _, _, _, _, rfl, h⟩
    | false =>
      replace h := brF hb108 h
      refine ge ⟨rfl, ?_⟩
      refine W2 [0, 3, 34] [1] [] (l := [(0, .c (.ptr _ _ _ _)), (3, .c (.int _ _)), (34, .c (.bool false))]) (h := [(1, ⟨0, 3, [[.row _ _ _, .int _ _, .int _ _]]⟩)]) (h' := []) trivial rfl rfl rfl ?_
      refine W_false rfl ?_
      refine W_skip ?_
      exact ⟨_, wk2 [3] [1] [] (l := [(3, .c (.int _ _))]) (h := [(1, ⟨0, 3, [[.row _ _ _, .int _ _, .int _ _]]⟩)]) (h' := []) trivial rfl rfl rfl, _, _, _, _, rfl, h⟩
theorem ok_spec_l1Byte : FnOk Try.prog 76 := ⟨_, Try.func76, rfl, rfl⟩


/-! ### loop.example/g00499/spec.l1Below -/
def m_spec_l1BelowW (K : Nat) (a0 : T_spec_l1Cur) (a1 : Int) : Option (Int × T_spec_l1Cur) := (bif (decide (a1 ≤ 0)) then some (0, a0) else (bif (decide (a1 ≤ 256)) then ((m_spec_l1ByteW K a0).bind fun r3 => (if a1 ≠ (0 : Int) then some ((Int.tmod r3.1 a1), r3.2) else none)) else ((m_spec_l1ByteW K a0).bind fun r5 => ((m_spec_l1ByteW K r5.2).bind fun r6 => ((m_spec_l1ByteW K r6.2).bind fun r7 => (if a1 ≠ (0 : Int) then some ((Int.tmod (iAdd .i64 (iAdd .i64 (iMul .i64 r5.1 65536) (iMul .i64 r6.1 256)) r7.1) a1), r7.2) else none))))))
set_option maxRecDepth 20000 in
set_option maxHeartbeats 8000000 in
theorem w_spec_l1BelowW (K : Nat) (a0 : T_spec_l1Cur) (a1 : Int) (r : Int × T_spec_l1Cur) (h : m_spec_l1BelowW K a0 a1 = some r) : Sp Try.prog 68 [.c (.ptr 1 0 0 0), .c (.int .i64 a1)] [⟨0, 3, [a0].map en_spec_l1Cur⟩] (.c (.int .i64 r.1)) [⟨0, 3, [r.2].map en_spec_l1Cur⟩] := by
  refine Sp.of_W tabOk Try.func68 rfl rfl (Nat.le_of_ble_eq_true rfl) (Nat.le_of_ble_eq_true rfl) fun F hP hN hm => ?_
  obtain ⟨P, N, w0, σ0, β0, m⟩ := F
  obtain rfl : P = Try.prog := hP
  obtain rfl : N = 31 := hN
  obtain rfl : m = 2 := hm
  have he : Env ⟨Try.prog, 31, w0, σ0, β0, 2⟩ tab := ⟨Nat.le_of_ble_eq_true rfl, tabOk⟩
  unfold m_spec_l1BelowW at h
  refine W_seq ?_
  refine W_regV he rfl ?_
  refine v0 (sA rfl [] rfl) rfl ?_
  refine ve ?_
  refine W2 [0, 1] [1] [] (l := [(0, .c (.ptr _ _ _ _)), (1, .c (.int _ _))]) (h := [(1, ⟨0, 3, [[.row _ _ _, .int _ _, .int _ _]]⟩)]) (h' := []) trivial rfl rfl rfl ?_
  refine W_seq ?_
  refine W_seq ?_
  refine W_regV he rfl ?_
  refine v0 (sM rfl [] rfl) rfl ?_
  refine vB (sBi rfl rfl rfl rfl) rfl rfl fun b1 hb1 => ?_
  cases b1 with
  | true =>
    replace h := brT hb1 h
    refine ve ?_
    refine W2 [0, 1, 9] [1] [] (l := [(0, .c (.ptr _ _ _ _)), (1, .c (.int _ _)), (9, .c (.bool true))]) (h := [(1, ⟨0, 3, [[.row _ _ _, .int _ _, .int _ _]]⟩)]) (h' := []) trivial rfl rfl rfl ?_
    refine W_true rfl ?_
    refine W_seq ?_
    refine W_regV he rfl ?_
    refine v0 (sA rfl [] rfl) rfl ?_
    refine ve ?_
    refine W2 [4] [1] [] (l := [(4, .c (.int _ _))]) (h := [(1, ⟨0, 3, [[.row _ _ _, .int _ _, .int _ _]]⟩)]) (h' := []) trivial rfl rfl rfl ?_
    obtain rfl := Option.some.inj h
    exact W_ret (retOne (l := [a0]) 1 1 (.inr ⟨rfl, rfl⟩) enOk_spec_l1Cur rfl rfl rfl)
  | false =>
    replace h := brF hb1 h
    refine ve ?_
    refine W2 [0, 1, 9] [1] [] (l := [(0, .c (.ptr _ _ _ _)), (1, .c (.int _ _)), (9, .c (.bool false))]) (h := [(1, ⟨0, 3, [[.row _ _ _, .int _ _, .int _ _]]⟩)]) (h' := []) trivial rfl rfl rfl ?_
    refine W_false rfl ?_
    refine W_skip ?_
    refine W_seq ?_
    refine W_seq ?_
    refine W_regV he rfl ?_
    refine v0 (sM rfl [] rfl) rfl ?_
    refine vB (sBi rfl rfl rfl rfl) rfl rfl fun b2 hb2 => ?_
    cases b2 with
    | true =>
      replace h := brT hb2 h
      refine ve ?_
      refine W2 [0, 1, 11] [1] [] (l := [(0, .c (.ptr _ _ _ _)), (1, .c (.int _ _)), (11, .c (.bool true))]) (h := [(1, ⟨0, 3, [[.row _ _ _, .int _ _, .int _ _]]⟩)]) (h' := []) trivial rfl rfl rfl ?_
      refine W_true rfl ?_
      refine W_seq ?_
      refine W_regV he rfl ?_
      refine v0 (sM rfl [] rfl) rfl ?_
      refine bndc h ?_; clear h; intro r3 hr3 h
      refine v0 (sCw (l := [a0]) (l' := [r3.2]) (w_spec_l1ByteW K a0 _ hr3) ok_spec_l1Byte enOk_spec_l1Cur rfl 1 rfl rfl rfl rfl rfl rfl) rfl ?_
      refine v0 (sM rfl [] rfl) rfl ?_
      refine chkc h ?_; clear h; intro c4 h
      refine v0 (sRe rfl rfl rfl c4) rfl ?_
      refine v0 (sA rfl [] rfl) rfl ?_
      refine ve ?_
      refine W2 [4] [1] [] (l := [(4, .c (.int _ _))]) (h := [(1, ⟨0, 3, [[.row _ _ _, .int _ _, .int _ _]]⟩)]) (h' := []) trivial rfl rfl rfl ?_
      obtain rfl := Option.some.inj h
      exact W_ret (retOne (l := [r3.2]) 1 1 (.inr ⟨rfl, rfl⟩) enOk_spec_l1Cur rfl rfl rfl)
    | false =>
      replace h := brF hb2 h
      refine ve ?_
      refine W2 [0, 1, 11] [1] [] (l := [(0, .c (.ptr _ _ _ _)), (1, .c (.int _ _)), (11, .c (.bool false))]) (h := [(1, ⟨0, 3, [[.row _ _ _, .int _ _, .int _ _]]⟩)]) (h' := []) trivial rfl rfl rfl ?_
      refine W_false rfl ?_
      refine W_skip ?_
      refine W_seq ?_
      refine W_regV he rfl ?_
      refine v0 (sM rfl [] rfl) rfl ?_
      refine bndc h ?_; clear h; intro r5 hr5 h
      refine v0 (sCw (l := [a0]) (l' := [r5.2]) (w_spec_l1ByteW K a0 _ hr5) ok_spec_l1Byte enOk_spec_l1Cur rfl 1 rfl rfl rfl rfl rfl rfl) rfl ?_
      refine v0 (sA rfl [] rfl) rfl ?_
      refine ve ?_
      refine W2 [0, 1, 5] [1] [] (l := [(0, .c (.ptr _ _ _ _)), (1, .c (.int _ _)), (5, .c (.int _ _))]) (h := [(1, ⟨0, 3, [[.row _ _ _, .int _ _, .int _ _]]⟩)]) (h' := []) trivial rfl rfl rfl ?_
      refine W_seq ?_
      refine W_regV he rfl ?_
      refine v0 (sM rfl [] rfl) rfl ?_
      refine bndc h ?_; clear h; intro r6 hr6 h
      refine v0 (sCw (l := [r5.2]) (l' := [r6.2]) (w_spec_l1ByteW K r5.2 _ hr6) ok_spec_l1Byte enOk_spec_l1Cur rfl 1 rfl rfl rfl rfl rfl rfl) rfl ?_
      refine v0 (sA rfl [] rfl) rfl ?_
      refine ve ?_
      refine W2 [0, 1, 5, 6] [1] [] (l := [(0, .c (.ptr _ _ _ _)), (1, .c (.int _ _)), (5, .c (.int _ _)), (6, .c (.int _ _))]) (h := [(1, ⟨0, 3, [[.row _ _ _, .int _ _, .int _ _]]⟩)]) (h' := []) trivial rfl rfl rfl ?_
      refine W_seq ?_
      refine W_regV he rfl ?_
      refine v0 (sM rfl [] rfl) rfl ?_
      refine bndc h ?_; clear h; intro r7 hr7 h
      refine v0 (sCw (l := [r6.2]) (l' := [r7.2]) (w_spec_l1ByteW K r6.2 _ hr7) ok_spec_l1Byte enOk_spec_l1Cur rfl 1 rfl rfl rfl rfl rfl rfl) rfl ?_
      refine v0 (sA rfl [] rfl) rfl ?_
      refine ve ?_
      refine W2 [1, 5, 6, 7] [1] [] (l := [(1, .c (.int _ _)), (5, .c (.int _ _)), (6, .c (.int _ _)), (7, .c (.int _ _))]) (h := [(1, ⟨0, 3, [[.row _ _ _, .int _ _, .int _ _]]⟩)]) (h' := []) trivial rfl rfl rfl ?_
      refine W_seq ?_
      refine W_regV he rfl ?_
      refine v0 (sM rfl [] rfl) rfl ?_
      refine v0 (sBi rfl rfl rfl rfl) rfl ?_
      refine v0 (sM rfl [] rfl) rfl ?_
      refine v0 (sBi rfl rfl rfl rfl) rfl ?_
      refine v0 (sBi rfl rfl rfl rfl) rfl ?_
      refine v0 (sM rfl [] rfl) rfl ?_
      refine v0 (sBi rfl rfl rfl rfl) rfl ?_
      refine v0 (sM rfl [] rfl) rfl ?_
      refine chkc h ?_; clear h; intro c8 h
      refine v0 (sRe rfl rfl rfl c8) rfl ?_
      refine v0 (sA rfl [] rfl) rfl ?_
      refine ve ?_
      refine W2 [4] [1] [] (l := [(4, .c (.int _ _))]) (h := [(1, ⟨0, 3, [[.row _ _ _, .int _ _, .int _ _]]⟩)]) (h' := []) trivial rfl rfl rfl ?_
      obtain rfl := Option.some.inj h
      exact W_ret (retOne (l := [r7.2]) 1 1 (.inr ⟨rfl, rfl⟩) enOk_spec_l1Cur rfl rfl rfl)
theorem ok_spec_l1Below : FnOk Try.prog 68 := ⟨_, Try.func68, rfl, rfl⟩


/-! ### loop.example/g00499/spec.l1Bytes -/
def l_spec_l1BytesW_6 (K : Nat) (a1 : Int) : Nat → (List Int) → Int → (List Int) → Int → Int → Option ((List Int) × T_spec_l1Cur)
  | 0, _, _, _, _, _ => none
  | n6 + 1, v1, v2, v3, v4, v5 => (bif (decide (v2 < a1)) then ((m_spec_l1ByteW K (T_spec_l1Cur.mk v3 v4 v5)).bind fun r8 => (if (v1 ++ ([(IntKind.u8.wrap r8.1)] : List Int)).length * 1 ≤ 140737488355328 ∧ (v1 ++ ([(IntKind.u8.wrap r8.1)] : List Int)).length ≤ maxLen then (l_spec_l1BytesW_6 K a1 n6 (v1 ++ ([(IntKind.u8.wrap r8.1)] : List Int)) (iAdd .i64 v2 1) r8.2.fb r8.2.fi r8.2.fh) else none)) else some (v1, (T_spec_l1Cur.mk v3 v4 v5)))
def m_spec_l1BytesW (K : Nat) (a0 : T_spec_l1Cur) (a1 : Int) : Option ((List Int) × T_spec_l1Cur) := (l_spec_l1BytesW_6 K a1 K ([] : List Int) 0 a0.fb a0.fi a0.fh)
set_option maxRecDepth 20000 in
set_option maxHeartbeats 8000000 in
theorem w_spec_l1BytesW (K : Nat) (a0 : T_spec_l1Cur) (a1 : Int) (r : (List Int) × T_spec_l1Cur) (h : m_spec_l1BytesW K a0 a1 = some r) : Sp Try.prog 67 [.c (.ptr 1 0 0 0), .c (.int .i64 a1)] [⟨0, 3, [a0].map en_spec_l1Cur⟩] (.c (.row false 1 (r.1.map en_u8))) [⟨0, 3, [r.2].map en_spec_l1Cur⟩] := by
  refine Sp.of_W tabOk Try.func67 rfl rfl (Nat.le_of_ble_eq_true rfl) (Nat.le_of_ble_eq_true rfl) fun F hP hN hm => ?_
  obtain ⟨P, N, w0, σ0, β0, m⟩ := F
  obtain rfl : P = Try.prog := hP
  obtain rfl : N = 20 := hN
  obtain rfl : m = 2 := hm
  have he : Env ⟨Try.prog, 20, w0, σ0, β0, 2⟩ tab := ⟨Nat.le_of_ble_eq_true rfl, tabOk⟩
  unfold m_spec_l1BytesW at h
  refine W_seq ?_
  refine W_regV he rfl ?_
  refine v0 (sA rfl [1] rfl) rfl ?_
  refine ve ?_
  refine W2 [0, 1] [1] [] (l := [(0, .c (.ptr _ _ _ _)), (1, .c (.int _ _))]) (h := [(1, ⟨0, 3, [[.row _ _ _, .int _ _, .int _ _]]⟩)]) (h' := []) trivial rfl rfl rfl ?_
  refine W_seq ?_
  refine W_regV he rfl ?_
  refine v0 (sBS rfl 1005 (rows := ([] : List Int).map en_u8) rfl rfl rfl (by kernel_rfl) rfl rfl rfl rfl) rfl ?_
  refine v0 (sA rfl [] rfl) rfl ?_
  refine ve ?_
  refine W2 [0, 1, 5] [1] [1005] (l := [(0, .c (.ptr _ _ _ _)), (1, .c (.int _ _)), (5, .c (.own _ _ _ _))]) (h := [(1, ⟨0, 3, [[.row _ _ _, .int _ _, .int _ _]]⟩)]) (h' := [(1005, ⟨0, 1, ([] : List Int).map en_u8⟩)]) ⟨⟨_, rfl, enOk_u8.allClosed _ _ ([] : List Int)⟩, trivial⟩ rfl rfl rfl ?_
  refine W_seq ?_
  refine W_seq ?_
  refine W_regV he rfl ?_
  refine v0 (sA rfl [] rfl) rfl ?_
  refine ve ?_
  refine W2 [0, 1, 5, 6] [1] [1005] (l := [(0, .c (.ptr _ _ _ _)), (1, .c (.int _ _)), (5, .c (.own _ _ _ _)), (6, .c (.int _ _))]) (h := [(1, ⟨0, 3, [[.row _ _ _, .int _ _, .int _ _]]⟩)]) (h' := [(1005, ⟨0, 1, ([] : List Int).map en_u8⟩)]) ⟨⟨_, rfl, enOk_u8.allClosed _ _ ([] : List Int)⟩, trivial⟩ rfl rfl rfl ?_
  refine W_block ?_
  refine W2 [0, 1, 5, 6] [1] [1005] (l := [(0, .c (.ptr _ _ _ _)), (1, .c (.int _ _)), (5, .c (.own _ _ _ _)), (6, .c (.int _ _))]) (h := [(1, ⟨0, 3, [[.row _ _ _, .int _ _, .int _ _]]⟩)]) (h' := [(1005, ⟨0, 1, ([] : List Int).map en_u8⟩)]) ⟨⟨_, rfl, enOk_u8.allClosed _ _ ([] : List Int)⟩, trivial⟩ rfl rfl rfl ?_
  refine W_loopW (fun n6 S => ∃ (v1 : List Int), ∃ (v2 : Int), ∃ (v3 : List Int), ∃ (v4 : Int), ∃ (v5 : Int), S = StL [(0, .c (.ptr 1 0 0 0)), (1, .c (.int .i64 a1)), (5, .c (.own 1005 0 0 v1.length)), (6, .c (.int .i64 v2))] ([(1, ⟨0, 3, [[.row false 1 (v3.map en_u8), .int .i64 v4, .int .i64 v5]]⟩)] ++ [(1005, ⟨0, 1, v1.map en_u8⟩)]) ∧ l_spec_l1BytesW_6 K a1 n6 v1 v2 v3 v4 v5 = some r) K ⟨_, _, _, _, _, rfl, h⟩ ?_
  rintro n6 S ⟨v1, v2, v3, v4, v5, rfl, h⟩
  cases n6 with
  | zero => simp [l_spec_l1BytesW_6] at h
  | succ n6 =>
    rw [l_spec_l1BytesW_6] at h
    refine W_seq ?_
    refine W_seq ?_
    refine W_regV he rfl ?_
    refine v0 (sM rfl [] rfl) rfl ?_
    refine v0 (sM rfl [] rfl) rfl ?_
    refine vB (sBi rfl rfl rfl rfl) rfl rfl fun b7 hb7 => ?_
    cases b7 with
    | true =>
      replace h := brT hb7 h
      refine ve ?_
      refine W2 [0, 1, 5, 6, 10] [1] [1005] (l := [(0, .c (.ptr _ _ _ _)), (1, .c (.int _ _)), (5, .c (.own _ _ _ _)), (6, .c (.int _ _)), (10, .c (.bool true))]) (h := [(1, ⟨0, 3, [[.row _ _ _, .int _ _, .int _ _]]⟩)]) (h' := [(1005, ⟨0, 1, v1.map en_u8⟩)]) ⟨⟨_, rfl, enOk_u8.allClosed _ _ v1⟩, trivial⟩ rfl rfl rfl ?_
      refine W_true rfl ?_
      refine W_skip ?_
      refine W_seq ?_
      refine W_block ?_
      refine W_regV he rfl ?_
      refine v0 (sM rfl [] rfl) rfl ?_
      refine v0 (sM rfl [] rfl) rfl ?_
      refine bndc h ?_; clear h; intro r8 hr8 h
      refine v0 (sCw (l := [(T_spec_l1Cur.mk v3 v4 v5)]) (l' := [r8.2]) (w_spec_l1ByteW K (T_spec_l1Cur.mk v3 v4 v5) _ hr8) ok_spec_l1Byte enOk_spec_l1Cur rfl 1 rfl rfl rfl rfl rfl rfl) rfl ?_
      refine v0 (sCv rfl rfl rfl rfl rfl rfl) rfl ?_
      refine v0 (sBS rfl 1017 (rows := ([(IntKind.u8.wrap r8.1)] : List Int).map en_u8) rfl rfl rfl (by kernel_rfl) rfl rfl rfl rfl) rfl ?_
      refine chkc h ?_; clear h; intro c9 h
      refine v0 (sAo rfl 1005 v1 ([(IntKind.u8.wrap r8.1)] : List Int) enOk_u8 rfl rfl rfl rfl rfl rfl rfl rfl rfl rfl rfl c9) rfl ?_
      refine v0 (sA rfl [] rfl) rfl ?_
      refine ve ?_
      refine W2 [0, 1, 5, 6] [1] [1005] (l := [(0, .c (.ptr _ _ _ _)), (1, .c (.int _ _)), (5, .c (.own _ _ _ _)), (6, .c (.int _ _))]) (h := [(1, ⟨0, 3, [[.row _ _ _, .int _ _, .int _ _]]⟩)]) (h' := [(1005, ⟨0, 1, (v1 ++ ([(IntKind.u8.wrap r8.1)] : List Int)).map en_u8⟩)]) ⟨⟨_, rfl, enOk_u8.allClosed _ _ (v1 ++ ([(IntKind.u8.wrap r8.1)] : List Int))⟩, trivial⟩ rfl rfl rfl ?_
      refine W_regV he rfl ?_
      refine v0 (sM rfl [] rfl) rfl ?_
      refine v0 (sBi rfl rfl rfl rfl) rfl ?_
      refine v0 (sA rfl [] rfl) rfl ?_
      refine ve ?_
      exact ⟨n6, _, Nat.lt_succ_self n6, wk2 [0, 1, 5, 6] [1] [1005] (l := [(0, .c (.ptr _ _ _ _)), (1, .c (.int _ _)), (5, .c (.own _ _ _ _)), (6, .c (.int _ _))]) (h := [(1, ⟨0, 3, [[.row _ _ _, .int _ _, .int _ _]]⟩)]) (h' := [(1005, ⟨0, 1, (v1 ++ ([(IntKind.u8.wrap r8.1)] : List Int)).map en_u8⟩)]) ⟨⟨_, rfl, enOk_u8.allClosed _ _ (v1 ++ ([(IntKind.u8.wrap r8.1)] : List Int))⟩, trivial⟩ rfl rfl rfl, _, _, _, _, _, rfl, h⟩
    | false =>
      replace h := brF hb7 h
      refine ve ?_
      refine W2 [0, 1, 5, 6, 10] [1] [1005] (l := [(0, .c (.ptr _ _ _ _)), (1, .c (.int _ _)), (5, .c (.own _ _ _ _)), (6, .c (.int _ _)), (10, .c (.bool false))]) (h := [(1, ⟨0, 3, [[.row _ _ _, .int _ _, .int _ _]]⟩)]) (h' := [(1005, ⟨0, 1, v1.map en_u8⟩)]) ⟨⟨_, rfl, enOk_u8.allClosed _ _ v1⟩, trivial⟩ rfl rfl rfl ?_
      refine W_false rfl ?_
      refine W_exit (ex_then (ex_then (ex_hit ?_)))
      refine W_seq ?_
      refine W_regV he rfl ?_
      refine v0 (sM rfl [] rfl) rfl ?_
      refine v0 (sA rfl [] rfl) rfl ?_
      refine ve ?_
      refine W2 [4] [1] [1005] (l := [(4, .c (.own _ _ _ _))]) (h := [(1, ⟨0, 3, [[.row _ _ _, .int _ _, .int _ _]]⟩)]) (h' := [(1005, ⟨0, 1, v1.map en_u8⟩)]) ⟨⟨_, rfl, enOk_u8.allClosed _ _ v1⟩, trivial⟩ rfl rfl rfl ?_
      obtain rfl := Option.some.inj h
      refine W.weak (wk_row (l := v1) 4 enOk_u8 rfl rfl) ?_
      exact W_ret (retOne (l := [(T_spec_l1Cur.mk v3 v4 v5)]) 1 1 (.inr ⟨rfl, rfl⟩) enOk_spec_l1Cur rfl rfl rfl)
theorem ok_spec_l1Bytes : FnOk Try.prog 67 := ⟨_, Try.func67, rfl, rfl⟩


/-! ### loop.example/g00499/spec.l1Once -/
def m_spec_l1OnceW (K : Nat) (a0 : T_spec_l1Cur) (a1 : Int) : Option (Bool × T_spec_l1Cur) := ((m_spec_l1BelowW K a0 a1).bind fun r1 => some ((r1.1 == 0), r1.2))
set_option maxRecDepth 20000 in
set_option maxHeartbeats 8000000 in
theorem w_spec_l1OnceW (K : Nat) (a0 : T_spec_l1Cur) (a1 : Int) (r : Bool × T_spec_l1Cur) (h : m_spec_l1OnceW K a0 a1 = some r) : Sp Try.prog 70 [.c (.ptr 1 0 0 0), .c (.int .i64 a1)] [⟨0, 3, [a0].map en_spec_l1Cur⟩] (.c (.bool r.1)) [⟨0, 3, [r.2].map en_spec_l1Cur⟩] := by
  refine Sp.of_W tabOk Try.func70 rfl rfl (Nat.le_of_ble_eq_true rfl) (Nat.le_of_ble_eq_true rfl) fun F hP hN hm => ?_
  obtain ⟨P, N, w0, σ0, β0, m⟩ := F
  obtain rfl : P = Try.prog := hP
  obtain rfl : N = 9 := hN
  obtain rfl : m = 2 := hm
  have he : Env ⟨Try.prog, 9, w0, σ0, β0, 2⟩ tab := ⟨Nat.le_of_ble_eq_true rfl, tabOk⟩
  unfold m_spec_l1OnceW at h
  refine W_seq ?_
  refine W_regV he rfl ?_
  refine v0 (sA rfl [] rfl) rfl ?_
  refine ve ?_
  refine W2 [0, 1] [1] [] (l := [(0, .c (.ptr _ _ _ _)), (1, .c (.int _ _))]) (h := [(1, ⟨0, 3, [[.row _ _ _, .int _ _, .int _ _]]⟩)]) (h' := []) trivial rfl rfl rfl ?_
  refine W_seq ?_
  refine W_regV he rfl ?_
  refine v0 (sM rfl [] rfl) rfl ?_
  refine v0 (sM rfl [] rfl) rfl ?_
  refine bndc h ?_; clear h; intro r1 hr1 h
  refine v0 (sCw (l := [a0]) (l' := [r1.2]) (w_spec_l1BelowW K a0 a1 _ hr1) ok_spec_l1Below enOk_spec_l1Cur rfl 1 rfl rfl rfl rfl rfl rfl) rfl ?_
  refine v0 (sBi rfl rfl rfl rfl) rfl ?_
  refine v0 (sA rfl [] rfl) rfl ?_
  refine ve ?_
  refine W2 [4] [1] [] (l := [(4, .c (.bool _))]) (h := [(1, ⟨0, 3, [[.row _ _ _, .int _ _, .int _ _]]⟩)]) (h' := []) trivial rfl rfl rfl ?_
  obtain rfl := Option.some.inj h
  exact W_ret (retOne (l := [r1.2]) 1 1 (.inr ⟨rfl, rfl⟩) enOk_spec_l1Cur rfl rfl rfl)
theorem ok_spec_l1Once : FnOk Try.prog 70 := ⟨_, Try.func70, rfl, rfl⟩


/-! ### loop.example/g00499/spec.l1Int -/
def m_spec_l1IntW (K : Nat) (a0 : T_spec_l1Cur) (a1 : List Int) : Option (Int × T_spec_l1Cur) := ((m_spec_l1BelowW K a0 (a1.length : Int)).bind fun r1 => (if (0 : Int) ≤ r1.1 ∧ r1.1 < (a1.length : Int) then some ((gt a1 r1.1), r1.2) else none))
set_option maxRecDepth 20000 in
set_option maxHeartbeats 8000000 in
theorem w_spec_l1IntW (K : Nat) (a0 : T_spec_l1Cur) (a1 : List Int) (r : Int × T_spec_l1Cur) (h : m_spec_l1IntW K a0 a1 = some r) : Sp Try.prog 72 [.c (.ptr 1 0 0 0), .c (.row false 1 (a1.map en_i64))] [⟨0, 3, [a0].map en_spec_l1Cur⟩] (.c (.int .i64 r.1)) [⟨0, 3, [r.2].map en_spec_l1Cur⟩] := by
  refine Sp.of_W tabOk Try.func72 rfl rfl (Nat.le_of_ble_eq_true rfl) (Nat.le_of_ble_eq_true rfl) fun F hP hN hm => ?_
  obtain ⟨P, N, w0, σ0, β0, m⟩ := F
  obtain rfl : P = Try.prog := hP
  obtain rfl : N = 12 := hN
  obtain rfl : m = 2 := hm
  have he : Env ⟨Try.prog, 12, w0, σ0, β0, 2⟩ tab := ⟨Nat.le_of_ble_eq_true rfl, tabOk⟩
  unfold m_spec_l1IntW at h
  refine W_seq ?_
  refine W_regV he rfl ?_
  refine v0 (sA rfl [] rfl) rfl ?_
  refine ve ?_
  refine W2 [0, 1] [1] [] (l := [(0, .c (.ptr _ _ _ _)), (1, .c (.row _ _ _))]) (h := [(1, ⟨0, 3, [[.row _ _ _, .int _ _, .int _ _]]⟩)]) (h' := []) trivial rfl rfl rfl ?_
  refine W_seq ?_
  refine W_regV he rfl ?_
  refine v0 (sM rfl [] rfl) rfl ?_
  refine v0 (sM rfl [] rfl) rfl ?_
  refine v0 (sM rfl [] rfl) rfl ?_
  refine v0 (sLm rfl rfl rfl rfl) rfl ?_
  refine bndc h ?_; clear h; intro r1 hr1 h
  refine v0 (sCw (l := [a0]) (l' := [r1.2]) (w_spec_l1BelowW K a0 (a1.length : Int) _ hr1) ok_spec_l1Below enOk_spec_l1Cur rfl 1 rfl rfl rfl rfl rfl rfl) rfl ?_
  refine chkc h ?_; clear h; intro c2 h
  refine v0 (sIRm rfl rfl rfl rfl c2) rfl ?_
  refine v0 (sLI rfl rfl (en_i64 (gt a1 r1.1)) (gt_at _ c2) rfl rfl rfl) rfl ?_
  refine v0 (sA rfl [] rfl) rfl ?_
  refine ve ?_
  refine W2 [4] [1] [] (l := [(4, .c (.int _ _))]) (h := [(1, ⟨0, 3, [[.row _ _ _, .int _ _, .int _ _]]⟩)]) (h' := []) trivial rfl rfl rfl ?_
  obtain rfl := Option.some.inj h
  exact W_ret (retOne (l := [r1.2]) 1 1 (.inr ⟨rfl, rfl⟩) enOk_spec_l1Cur rfl rfl rfl)
theorem ok_spec_l1Int : FnOk Try.prog 72 := ⟨_, Try.func72, rfl, rfl⟩


/-! ### loop.example/g00499/spec.l1Odd -/
def m_spec_l1OddW (K : Nat) (a0 : T_spec_l1Cur) : Option (Int × T_spec_l1Cur) := ((m_spec_l1IntW K a0 ([(-1), 0, 1, 2, 255, 256, 65535, 2147483647, 2147483648, 4294967295, 4294967296, (-2147483648), 9223372036854775807, (-9223372036854775808)] : List Int)).bind fun r1 => some (r1.1, r1.2))
set_option maxRecDepth 20000 in
set_option maxHeartbeats 8000000 in
theorem w_spec_l1OddW (K : Nat) (a0 : T_spec_l1Cur) (r : Int × T_spec_l1Cur) (h : m_spec_l1OddW K a0 = some r) : Sp Try.prog 81 [.c (.ptr 1 0 0 0)] [⟨0, 3, [a0].map en_spec_l1Cur⟩] (.c (.int .i64 r.1)) [⟨0, 3, [r.2].map en_spec_l1Cur⟩] := by
  refine Sp.of_W tabOk Try.func81 rfl rfl (Nat.le_of_ble_eq_true rfl) (Nat.le_of_ble_eq_true rfl) fun F hP hN hm => ?_
  obtain ⟨P, N, w0, σ0, β0, m⟩ := F
  obtain rfl : P = Try.prog := hP
  obtain rfl : N = 6 := hN
  obtain rfl : m = 2 := hm
  have he : Env ⟨Try.prog, 6, w0, σ0, β0, 2⟩ tab := ⟨Nat.le_of_ble_eq_true rfl, tabOk⟩
  unfold m_spec_l1OddW at h
  refine W_seq ?_
  refine W_regV he rfl ?_
  refine v0 (sA rfl [] rfl) rfl ?_
  refine ve ?_
  refine W2 [0] [1] [] (l := [(0, .c (.ptr _ _ _ _))]) (h := [(1, ⟨0, 3, [[.row _ _ _, .int _ _, .int _ _]]⟩)]) (h' := []) trivial rfl rfl rfl ?_
  refine W_seq ?_
  refine W_regV he rfl ?_
  refine v0 (sM rfl [] rfl) rfl ?_
  refine v0 (sBS rfl 1004 (rows := ([(-1), 0, 1, 2, 255, 256, 65535, 2147483647, 2147483648, 4294967295, 4294967296, (-2147483648), 9223372036854775807, (-9223372036854775808)] : List Int).map en_i64) rfl rfl rfl (by kernel_rfl) rfl rfl rfl rfl) rfl ?_
  refine vWk (wk_row (l := ([(-1), 0, 1, 2, 255, 256, 65535, 2147483647, 2147483648, 4294967295, 4294967296, (-2147483648), 9223372036854775807, (-9223372036854775808)] : List Int)) 4 enOk_i64 rfl rfl) ?_
  refine bndc h ?_; clear h; intro r1 hr1 h
  refine v0 (sCw (l := [a0]) (l' := [r1.2]) (w_spec_l1IntW K a0 ([(-1), 0, 1, 2, 255, 256, 65535, 2147483647, 2147483648, 4294967295, 4294967296, (-2147483648), 9223372036854775807, (-9223372036854775808)] : List Int) _ hr1) ok_spec_l1Int enOk_spec_l1Cur rfl 1 rfl rfl rfl rfl rfl rfl) rfl ?_
  refine v0 (sA rfl [] rfl) rfl ?_
  refine ve ?_
  refine W2 [2] [1] [] (l := [(2, .c (.int _ _))]) (h := [(1, ⟨0, 3, [[.row _ _ _, .int _ _, .int _ _]]⟩)]) (h' := []) trivial rfl rfl rfl ?_
  obtain rfl := Option.some.inj h
  exact W_ret (retOne (l := [r1.2]) 1 1 (.inr ⟨rfl, rfl⟩) enOk_spec_l1Cur rfl rfl rfl)
theorem ok_spec_l1Odd : FnOk Try.prog 81 := ⟨_, Try.func81, rfl, rfl⟩


/-! ### loop.example/g00499/spec.l1Raw -/
def m_spec_l1RawW (K : Nat) (a0 : T_spec_l1Cur) : Option (Int × T_spec_l1Cur) := ((m_spec_l1OnceW K a0 2).bind fun r1 => (bif r1.1 then ((m_spec_l1OddW K r1.2).bind fun r3 => some (r3.1, r3.2)) else ((m_spec_l1IntW K r1.2 ([(-1), 1000000000, 1000000001] : List Int)).bind fun r4 => some (r4.1, r4.2))))
set_option maxRecDepth 20000 in
set_option maxHeartbeats 8000000 in
theorem w_spec_l1RawW (K : Nat) (a0 : T_spec_l1Cur) (r : Int × T_spec_l1Cur) (h : m_spec_l1RawW K a0 = some r) : Sp Try.prog 77 [.c (.ptr 1 0 0 0)] [⟨0, 3, [a0].map en_spec_l1Cur⟩] (.c (.int .i64 r.1)) [⟨0, 3, [r.2].map en_spec_l1Cur⟩] := by
  refine Sp.of_W tabOk Try.func77 rfl rfl (Nat.le_of_ble_eq_true rfl) (Nat.le_of_ble_eq_true rfl) fun F hP hN hm => ?_
  obtain ⟨P, N, w0, σ0, β0, m⟩ := F
  obtain rfl : P = Try.prog := hP
  obtain rfl : N = 10 := hN
  obtain rfl : m = 2 := hm
  have he : Env ⟨Try.prog, 10, w0, σ0, β0, 2⟩ tab := ⟨Nat.le_of_ble_eq_true rfl, tabOk⟩
  unfold m_spec_l1RawW at h
  refine W_seq ?_
  refine W_regV he rfl ?_
  refine v0 (sA rfl [] rfl) rfl ?_
  refine ve ?_
  refine W2 [0] [1] [] (l := [(0, .c (.ptr _ _ _ _))]) (h := [(1, ⟨0, 3, [[.row _ _ _, .int _ _, .int _ _]]⟩)]) (h' := []) trivial rfl rfl rfl ?_
  refine W_seq ?_
  refine W_seq ?_
  refine W_regV he rfl ?_
  refine v0 (sM rfl [] rfl) rfl ?_
  refine bndc h ?_; clear h; intro r1 hr1 h
  refine vB (sCw (l := [a0]) (l' := [r1.2]) (w_spec_l1OnceW K a0 2 _ hr1) ok_spec_l1Once enOk_spec_l1Cur rfl 1 rfl rfl rfl rfl rfl rfl) rfl rfl fun b2 hb2 => ?_
  cases b2 with
  | true =>
    replace h := brT hb2 h
    refine ve ?_
    refine W2 [0, 4] [1] [] (l := [(0, .c (.ptr _ _ _ _)), (4, .c (.bool true))]) (h := [(1, ⟨0, 3, [[.row _ _ _, .int _ _, .int _ _]]⟩)]) (h' := []) trivial rfl rfl rfl ?_
    refine W_true rfl ?_
    refine W_seq ?_
    refine W_regV he rfl ?_
    refine v0 (sM rfl [] rfl) rfl ?_
    refine bndc h ?_; clear h; intro r3 hr3 h
    refine v0 (sCw (l := [r1.2]) (l' := [r3.2]) (w_spec_l1OddW K r1.2 _ hr3) ok_spec_l1Odd enOk_spec_l1Cur rfl 1 rfl rfl rfl rfl rfl rfl) rfl ?_
    refine v0 (sA rfl [] rfl) rfl ?_
    refine ve ?_
    refine W2 [2] [1] [] (l := [(2, .c (.int _ _))]) (h := [(1, ⟨0, 3, [[.row _ _ _, .int _ _, .int _ _]]⟩)]) (h' := []) trivial rfl rfl rfl ?_
    obtain rfl := Option.some.inj h
    exact W_ret (retOne (l := [r3.2]) 1 1 (.inr ⟨rfl, rfl⟩) enOk_spec_l1Cur rfl rfl rfl)
  | false =>
    replace h := brF hb2 h
    refine ve ?_
    refine W2 [0, 4] [1] [] (l := [(0, .c (.ptr _ _ _ _)), (4, .c (.bool false))]) (h := [(1, ⟨0, 3, [[.row _ _ _, .int _ _, .int _ _]]⟩)]) (h' := []) trivial rfl rfl rfl ?_
    refine W_false rfl ?_
    refine W_skip ?_
    refine W_seq ?_
    refine W_regV he rfl ?_
    refine v0 (sM rfl [] rfl) rfl ?_
    refine v0 (sBS rfl 1008 (rows := ([(-1), 1000000000, 1000000001] : List Int).map en_i64) rfl rfl rfl (by kernel_rfl) rfl rfl rfl rfl) rfl ?_
    refine vWk (wk_row (l := ([(-1), 1000000000, 1000000001] : List Int)) 8 enOk_i64 rfl rfl) ?_
    refine bndc h ?_; clear h; intro r4 hr4 h
    refine v0 (sCw (l := [r1.2]) (l' := [r4.2]) (w_spec_l1IntW K r1.2 ([(-1), 1000000000, 1000000001] : List Int) _ hr4) ok_spec_l1Int enOk_spec_l1Cur rfl 1 rfl rfl rfl rfl rfl rfl) rfl ?_
    refine v0 (sA rfl [] rfl) rfl ?_
    refine ve ?_
    refine W2 [2] [1] [] (l := [(2, .c (.int _ _))]) (h := [(1, ⟨0, 3, [[.row _ _ _, .int _ _, .int _ _]]⟩)]) (h' := []) trivial rfl rfl rfl ?_
    obtain rfl := Option.some.inj h
    exact W_ret (retOne (l := [r4.2]) 1 1 (.inr ⟨rfl, rfl⟩) enOk_spec_l1Cur rfl rfl rfl)
theorem ok_spec_l1Raw : FnOk Try.prog 77 := ⟨_, Try.func77, rfl, rfl⟩


/-! ### loop.example/g00499/spec.l1Num -/
def m_spec_l1NumW (K : Nat) (a0 : T_spec_l1Cur) : Option (Int × T_spec_l1Cur) := ((m_spec_l1BelowW K a0 4).bind fun r1 => (bif (r1.1 == 0) then ((m_spec_l1BelowW K r1.2 2000).bind fun r3 => some (r3.1, r3.2)) else (bif (r1.1 == 1) then ((m_spec_l1IntW K r1.2 ([0, 1, 7, 8, 9, 1000000000] : List Int)).bind fun r5 => some (r5.1, r5.2)) else (bif (r1.1 == 2) then ((m_spec_l1BelowW K r1.2 40000).bind fun r7 => ((m_spec_l1BelowW K r7.2 25000).bind fun r8 => some ((iMul .i64 r7.1 r8.1), r8.2))) else ((m_spec_l1BelowW K r1.2 20).bind fun r9 => some (r9.1, r9.2))))))
set_option maxRecDepth 20000 in
set_option maxHeartbeats 8000000 in
theorem w_spec_l1NumW (K : Nat) (a0 : T_spec_l1Cur) (r : Int × T_spec_l1Cur) (h : m_spec_l1NumW K a0 = some r) : Sp Try.prog 71 [.c (.ptr 1 0 0 0)] [⟨0, 3, [a0].map en_spec_l1Cur⟩] (.c (.int .i64 r.1)) [⟨0, 3, [r.2].map en_spec_l1Cur⟩] := by
  refine Sp.of_W tabOk Try.func71 rfl rfl (Nat.le_of_ble_eq_true rfl) (Nat.le_of_ble_eq_true rfl) fun F hP hN hm => ?_
  obtain ⟨P, N, w0, σ0, β0, m⟩ := F
  obtain rfl : P = Try.prog := hP
  obtain rfl : N = 23 := hN
  obtain rfl : m = 2 := hm
  have he : Env ⟨Try.prog, 23, w0, σ0, β0, 2⟩ tab := ⟨Nat.le_of_ble_eq_true rfl, tabOk⟩
  unfold m_spec_l1NumW at h
  refine W_seq ?_
  refine W_regV he rfl ?_
  refine v0 (sA rfl [] rfl) rfl ?_
  refine ve ?_
  refine W2 [0] [1] [] (l := [(0, .c (.ptr _ _ _ _))]) (h := [(1, ⟨0, 3, [[.row _ _ _, .int _ _, .int _ _]]⟩)]) (h' := []) trivial rfl rfl rfl ?_
  refine W_seq ?_
  refine W_seq ?_
  refine W_regV he rfl ?_
  refine v0 (sM rfl [] rfl) rfl ?_
  refine bndc h ?_; clear h; intro r1 hr1 h
  refine v0 (sCw (l := [a0]) (l' := [r1.2]) (w_spec_l1BelowW K a0 4 _ hr1) ok_spec_l1Below enOk_spec_l1Cur rfl 1 rfl rfl rfl rfl rfl rfl) rfl ?_
  refine ve ?_
  refine W2 [0, 4] [1] [] (l := [(0, .c (.ptr _ _ _ _)), (4, .c (.int _ _))]) (h := [(1, ⟨0, 3, [[.row _ _ _, .int _ _, .int _ _]]⟩)]) (h' := []) trivial rfl rfl rfl ?_
  refine W_block ?_
  refine W_seq ?_
  refine W_regV he rfl ?_
  refine v0 (sBi rfl rfl rfl rfl) rfl ?_
  refine v0 (sA rfl [] rfl) rfl ?_
  refine ve ?_
  refine W2 [0, 4, 5] [1] [] (l := [(0, .c (.ptr _ _ _ _)), (4, .c (.int _ _)), (5, .c (.bool _))]) (h := [(1, ⟨0, 3, [[.row _ _ _, .int _ _, .int _ _]]⟩)]) (h' := []) trivial rfl rfl rfl ?_
  refine W_condB rfl (fun hb2 => ?_) (fun hb2 => ?_)
  ·
    replace h := brT hb2 h
    refine W_seq ?_
    refine W_regV he rfl ?_
    refine v0 (sM rfl [] rfl) rfl ?_
    refine bndc h ?_; clear h; intro r3 hr3 h
    refine v0 (sCw (l := [r1.2]) (l' := [r3.2]) (w_spec_l1BelowW K r1.2 2000 _ hr3) ok_spec_l1Below enOk_spec_l1Cur rfl 1 rfl rfl rfl rfl rfl rfl) rfl ?_
    refine v0 (sA rfl [] rfl) rfl ?_
    refine ve ?_
    refine W2 [2] [1] [] (l := [(2, .c (.int _ _))]) (h := [(1, ⟨0, 3, [[.row _ _ _, .int _ _, .int _ _]]⟩)]) (h' := []) trivial rfl rfl rfl ?_
    obtain rfl := Option.some.inj h
    exact W_ret (retOne (l := [r3.2]) 1 1 (.inr ⟨rfl, rfl⟩) enOk_spec_l1Cur rfl rfl rfl)
  ·
    replace h := brF hb2 h
    refine W_seq ?_
    refine W_regV he rfl ?_
    refine v0 (sBi rfl rfl rfl rfl) rfl ?_
    refine v0 (sA rfl [] rfl) rfl ?_
    refine ve ?_
    refine W2 [0, 4, 9] [1] [] (l := [(0, .c (.ptr _ _ _ _)), (4, .c (.int _ _)), (9, .c (.bool _))]) (h := [(1, ⟨0, 3, [[.row _ _ _, .int _ _, .int _ _]]⟩)]) (h' := []) trivial rfl rfl rfl ?_
    refine W_condB rfl (fun hb4 => ?_) (fun hb4 => ?_)
    ·
      replace h := brT hb4 h
      refine W_seq ?_
      refine W_regV he rfl ?_
      refine v0 (sM rfl [] rfl) rfl ?_
      refine v0 (sBS rfl 1012 (rows := ([0, 1, 7, 8, 9, 1000000000] : List Int).map en_i64) rfl rfl rfl (by kernel_rfl) rfl rfl rfl rfl) rfl ?_
      refine vWk (wk_row (l := ([0, 1, 7, 8, 9, 1000000000] : List Int)) 12 enOk_i64 rfl rfl) ?_
      refine bndc h ?_; clear h; intro r5 hr5 h
      refine v0 (sCw (l := [r1.2]) (l' := [r5.2]) (w_spec_l1IntW K r1.2 ([0, 1, 7, 8, 9, 1000000000] : List Int) _ hr5) ok_spec_l1Int enOk_spec_l1Cur rfl 1 rfl rfl rfl rfl rfl rfl) rfl ?_
      refine v0 (sA rfl [] rfl) rfl ?_
      refine ve ?_
      refine W2 [2] [1] [] (l := [(2, .c (.int _ _))]) (h := [(1, ⟨0, 3, [[.row _ _ _, .int _ _, .int _ _]]⟩)]) (h' := []) trivial rfl rfl rfl ?_
      obtain rfl := Option.some.inj h
      exact W_ret (retOne (l := [r5.2]) 1 1 (.inr ⟨rfl, rfl⟩) enOk_spec_l1Cur rfl rfl rfl)
    ·
      replace h := brF hb4 h
      refine W_seq ?_
      refine W_regV he rfl ?_
      refine v0 (sBi rfl rfl rfl rfl) rfl ?_
      refine v0 (sA rfl [] rfl) rfl ?_
      refine ve ?_
      refine W2 [0, 14] [1] [] (l := [(0, .c (.ptr _ _ _ _)), (14, .c (.bool _))]) (h := [(1, ⟨0, 3, [[.row _ _ _, .int _ _, .int _ _]]⟩)]) (h' := []) trivial rfl rfl rfl ?_
      refine W_condB rfl (fun hb6 => ?_) (fun hb6 => ?_)
      ·
        replace h := brT hb6 h
        refine W_seq ?_
        refine W_regV he rfl ?_
        refine v0 (sM rfl [] rfl) rfl ?_
        refine bndc h ?_; clear h; intro r7 hr7 h
        refine v0 (sCw (l := [r1.2]) (l' := [r7.2]) (w_spec_l1BelowW K r1.2 40000 _ hr7) ok_spec_l1Below enOk_spec_l1Cur rfl 1 rfl rfl rfl rfl rfl rfl) rfl ?_
        refine v0 (sM rfl [] rfl) rfl ?_
        refine bndc h ?_; clear h; intro r8 hr8 h
        refine v0 (sCw (l := [r7.2]) (l' := [r8.2]) (w_spec_l1BelowW K r7.2 25000 _ hr8) ok_spec_l1Below enOk_spec_l1Cur rfl 1 rfl rfl rfl rfl rfl rfl) rfl ?_
        refine v0 (sBi rfl rfl rfl rfl) rfl ?_
        refine v0 (sA rfl [] rfl) rfl ?_
        refine ve ?_
        refine W2 [2] [1] [] (l := [(2, .c (.int _ _))]) (h := [(1, ⟨0, 3, [[.row _ _ _, .int _ _, .int _ _]]⟩)]) (h' := []) trivial rfl rfl rfl ?_
        obtain rfl := Option.some.inj h
        exact W_ret (retOne (l := [r8.2]) 1 1 (.inr ⟨rfl, rfl⟩) enOk_spec_l1Cur rfl rfl rfl)
      ·
        replace h := brF hb6 h
        refine W_skip ?_
        refine W_seq ?_
        refine W_regV he rfl ?_
        refine v0 (sM rfl [] rfl) rfl ?_
        refine bndc h ?_; clear h; intro r9 hr9 h
        refine v0 (sCw (l := [r1.2]) (l' := [r9.2]) (w_spec_l1BelowW K r1.2 20 _ hr9) ok_spec_l1Below enOk_spec_l1Cur rfl 1 rfl rfl rfl rfl rfl rfl) rfl ?_
        refine v0 (sA rfl [] rfl) rfl ?_
        refine ve ?_
        refine W2 [2] [1] [] (l := [(2, .c (.int _ _))]) (h := [(1, ⟨0, 3, [[.row _ _ _, .int _ _, .int _ _]]⟩)]) (h' := []) trivial rfl rfl rfl ?_
        obtain rfl := Option.some.inj h
        exact W_ret (retOne (l := [r9.2]) 1 1 (.inr ⟨rfl, rfl⟩) enOk_spec_l1Cur rfl rfl rfl)
theorem ok_spec_l1Num : FnOk Try.prog 71 := ⟨_, Try.func71, rfl, rfl⟩


/-! ### loop.example/g00499/spec.l1One -/
def m_spec_l1OneW (K : Nat) (a0 : T_spec_l1Cur) : Option (Int × T_spec_l1Cur) := ((m_spec_l1OnceW K a0 6).bind fun r1 => (bif r1.1 then ((m_spec_l1RawW K r1.2).bind fun r3 => some (r3.1, r3.2)) else ((m_spec_l1NumW K r1.2).bind fun r4 => some (r4.1, r4.2))))
set_option maxRecDepth 20000 in
set_option maxHeartbeats 8000000 in
theorem w_spec_l1OneW (K : Nat) (a0 : T_spec_l1Cur) (r : Int × T_spec_l1Cur) (h : m_spec_l1OneW K a0 = some r) : Sp Try.prog 69 [.c (.ptr 1 0 0 0)] [⟨0, 3, [a0].map en_spec_l1Cur⟩] (.c (.int .i64 r.1)) [⟨0, 3, [r.2].map en_spec_l1Cur⟩] := by
  refine Sp.of_W tabOk Try.func69 rfl rfl (Nat.le_of_ble_eq_true rfl) (Nat.le_of_ble_eq_true rfl) fun F hP hN hm => ?_
  obtain ⟨P, N, w0, σ0, β0, m⟩ := F
  obtain rfl : P = Try.prog := hP
  obtain rfl : N = 9 := hN
  obtain rfl : m = 2 := hm
  have he : Env ⟨Try.prog, 9, w0, σ0, β0, 2⟩ tab := ⟨Nat.le_of_ble_eq_true rfl, tabOk⟩
  unfold m_spec_l1OneW at h
  refine W_seq ?_
  refine W_regV he rfl ?_
  refine v0 (sA rfl [] rfl) rfl ?_
  refine ve ?_
  refine W2 [0] [1] [] (l := [(0, .c (.ptr _ _ _ _))]) (h := [(1, ⟨0, 3, [[.row _ _ _, .int _ _, .int _ _]]⟩)]) (h' := []) trivial rfl rfl rfl ?_
  refine W_seq ?_
  refine W_seq ?_
  refine W_regV he rfl ?_
  refine v0 (sM rfl [] rfl) rfl ?_
  refine bndc h ?_; clear h; intro r1 hr1 h
  refine vB (sCw (l := [a0]) (l' := [r1.2]) (w_spec_l1OnceW K a0 6 _ hr1) ok_spec_l1Once enOk_spec_l1Cur rfl 1 rfl rfl rfl rfl rfl rfl) rfl rfl fun b2 hb2 => ?_
  cases b2 with
  | true =>
    replace h := brT hb2 h
    refine ve ?_
    refine W2 [0, 4] [1] [] (l := [(0, .c (.ptr _ _ _ _)), (4, .c (.bool true))]) (h := [(1, ⟨0, 3, [[.row _ _ _, .int _ _, .int _ _]]⟩)]) (h' := []) trivial rfl rfl rfl ?_
    refine W_true rfl ?_
    refine W_seq ?_
    refine W_regV he rfl ?_
    refine v0 (sM rfl [] rfl) rfl ?_
    refine bndc h ?_; clear h; intro r3 hr3 h
    refine v0 (sCw (l := [r1.2]) (l' := [r3.2]) (w_spec_l1RawW K r1.2 _ hr3) ok_spec_l1Raw enOk_spec_l1Cur rfl 1 rfl rfl rfl rfl rfl rfl) rfl ?_
    refine v0 (sA rfl [] rfl) rfl ?_
    refine ve ?_
    refine W2 [2] [1] [] (l := [(2, .c (.int _ _))]) (h := [(1, ⟨0, 3, [[.row _ _ _, .int _ _, .int _ _]]⟩)]) (h' := []) trivial rfl rfl rfl ?_
    obtain rfl := Option.some.inj h
    exact W_ret (retOne (l := [r3.2]) 1 1 (.inr ⟨rfl, rfl⟩) enOk_spec_l1Cur rfl rfl rfl)
  | false =>
    replace h := brF hb2 h
    refine ve ?_
    refine W2 [0, 4] [1] [] (l := [(0, .c (.ptr _ _ _ _)), (4, .c (.bool false))]) (h := [(1, ⟨0, 3, [[.row _ _ _, .int _ _, .int _ _]]⟩)]) (h' := []) trivial rfl rfl rfl ?_
    refine W_false rfl ?_
    refine W_skip ?_
    refine W_seq ?_
    refine W_regV he rfl ?_
    refine v0 (sM rfl [] rfl) rfl ?_
    refine bndc h ?_; clear h; intro r4 hr4 h
    refine v0 (sCw (l := [r1.2]) (l' := [r4.2]) (w_spec_l1NumW K r1.2 _ hr4) ok_spec_l1Num enOk_spec_l1Cur rfl 1 rfl rfl rfl rfl rfl rfl) rfl ?_
    refine v0 (sA rfl [] rfl) rfl ?_
    refine ve ?_
    refine W2 [2] [1] [] (l := [(2, .c (.int _ _))]) (h := [(1, ⟨0, 3, [[.row _ _ _, .int _ _, .int _ _]]⟩)]) (h' := []) trivial rfl rfl rfl ?_
    obtain rfl := Option.some.inj h
    exact W_ret (retOne (l := [r4.2]) 1 1 (.inr ⟨rfl, rfl⟩) enOk_spec_l1Cur rfl rfl rfl)
theorem ok_spec_l1One : FnOk Try.prog 69 := ⟨_, Try.func69, rfl, rfl⟩


/-! ### loop.example/g00499/spec.DrawPutVar -/
def m_spec_DrawPutVar (K : Nat) (a0 : List Int) : Option ((List Int) × Int) := ((m_spec_l1New K a0).bind fun r1 => ((m_spec_l1BelowW K r1 3).bind fun r2 => ((m_spec_l1BytesW K r2.2 r2.1).bind fun r3 => ((m_spec_l1OneW K r3.2).bind fun r4 => some (r3.1, r4.1)))))
set_option maxRecDepth 20000 in
set_option maxHeartbeats 8000000 in
theorem w_spec_DrawPutVar (K : Nat) (a0 : List Int) (r : (List Int) × Int) (h : m_spec_DrawPutVar K a0 = some r) : Sp Try.prog 43 [.c (.row false 1 (a0.map en_u8))] [] (.t [.c (.row false 1 (r.1.map en_u8)), .c (.int .i64 r.2)]) [] := by
  refine Sp.of_W tabOk Try.func43 rfl rfl (Nat.le_of_ble_eq_true rfl) (Nat.le_of_ble_eq_true rfl) fun F hP hN hm => ?_
  obtain ⟨P, N, w0, σ0, β0, m⟩ := F
  obtain rfl : P = Try.prog := hP
  obtain rfl : N = 13 := hN
  obtain rfl : m = 1 := hm
  have he : Env ⟨Try.prog, 13, w0, σ0, β0, 1⟩ tab := ⟨Nat.le_of_ble_eq_true rfl, tabOk⟩
  unfold m_spec_DrawPutVar at h
  refine W_seq ?_
  refine W_regV he rfl ?_
  refine v0 (sA rfl [1] rfl) rfl ?_
  refine v0 (sA rfl [] rfl) rfl ?_
  refine ve ?_
  refine W2 [0] [] [] (l := [(0, .c (.row _ _ _))]) (h := []) (h' := []) trivial rfl rfl rfl ?_
  refine W_seq ?_
  refine W_regV he rfl ?_
  refine v0 (sM rfl [] rfl) rfl ?_
  refine bndc h ?_; clear h; intro r1 hr1 h
  refine v0 (sCoC (l := [r1]) (wo_spec_l1New K a0 _ hr1) ok_spec_l1New enOk_spec_l1Cur 1004 rfl rfl rfl rfl rfl) rfl ?_
  refine v0 (sA rfl [] rfl) rfl ?_
  refine ve ?_
  refine W2 [4] [1004] [] (l := [(4, .c (.ptr _ _ _ _))]) (h := [(1004, ⟨0, 3, [[.row _ _ _, .int _ _, .int _ _]]⟩)]) (h' := []) trivial rfl rfl rfl ?_
  refine W_seq ?_
  refine W_regV he rfl ?_
  refine v0 (sM rfl [] rfl) rfl ?_
  refine v0 (sM rfl [] rfl) rfl ?_
  refine bndc h ?_; clear h; intro r2 hr2 h
  refine v0 (sCw (l := [r1]) (l' := [r2.2]) (w_spec_l1BelowW K r1 3 _ hr2) ok_spec_l1Below enOk_spec_l1Cur rfl 1004 rfl rfl rfl rfl rfl rfl) rfl ?_
  refine bndc h ?_; clear h; intro r3 hr3 h
  refine v0 (sCw (l := [r2.2]) (l' := [r3.2]) (w_spec_l1BytesW K r2.2 r2.1 _ hr3) ok_spec_l1Bytes enOk_spec_l1Cur rfl 1004 rfl rfl rfl rfl rfl rfl) rfl ?_
  refine v0 (sM rfl [] rfl) rfl ?_
  refine bndc h ?_; clear h; intro r4 hr4 h
  refine v0 (sCw (l := [r3.2]) (l' := [r4.2]) (w_spec_l1OneW K r3.2 _ hr4) ok_spec_l1One enOk_spec_l1Cur rfl 1004 rfl rfl rfl rfl rfl rfl) rfl ?_
  refine v0 (sA rfl [] rfl) rfl ?_
  refine v0 (sA rfl [] rfl) rfl ?_
  refine ve ?_
  refine W2 [2, 3] [] [] (l := [(2, .c (.row _ _ _)), (3, .c (.int _ _))]) (h := []) (h' := []) trivial rfl rfl rfl ?_
  obtain rfl := Option.some.inj h
  exact W_ret (r0 rfl rfl)
theorem ok_spec_DrawPutVar : FnOk Try.prog 43 := ⟨_, Try.func43, rfl, rfl⟩


/-! ### slices.Clone[[]byte,byte] -/
def m_slices_Clone_byte_byte (K : Nat) (a0 : List Int) : Option ((List Int)) := (if (([] : List Int) ++ a0).length * 1 ≤ 140737488355328 ∧ (([] : List Int) ++ a0).length ≤ maxLen then some (([] : List Int) ++ a0) else none)
set_option maxRecDepth 20000 in
set_option maxHeartbeats 8000000 in
theorem w_slices_Clone_byte_byte (K : Nat) (a0 : List Int) (r : (List Int)) (h : m_slices_Clone_byte_byte K a0 = some r) : Sp Try.prog 58 [.c (.row false 1 (a0.map en_u8))] [] (.c (.row false 1 (r.map en_u8))) [] := by
  refine Sp.of_W tabOk Try.func58 rfl rfl (Nat.le_of_ble_eq_true rfl) (Nat.le_of_ble_eq_true rfl) fun F hP hN hm => ?_
  obtain ⟨P, N, w0, σ0, β0, m⟩ := F
  obtain rfl : P = Try.prog := hP
  obtain rfl : N = 8 := hN
  obtain rfl : m = 1 := hm
  have he : Env ⟨Try.prog, 8, w0, σ0, β0, 1⟩ tab := ⟨Nat.le_of_ble_eq_true rfl, tabOk⟩
  unfold m_slices_Clone_byte_byte at h
  refine W_seq ?_
  refine W_regV he rfl ?_
  refine v0 (sA rfl [1] rfl) rfl ?_
  refine ve ?_
  refine W2 [0] [] [] (l := [(0, .c (.row _ _ _))]) (h := []) (h' := []) trivial rfl rfl rfl ?_
  refine W_seq ?_
  refine W_seq ?_
  refine W_regV he rfl ?_
  refine v0 (sM rfl [] rfl) rfl ?_
  refine vN rfl rfl rfl rfl rfl fun b1 hb1 => ?_
  cases b1 with
  | false =>
    refine ve ?_
    refine W2 [0, 4] [] [] (l := [(0, .c (.row _ _ _)), (4, .c (.bool false))]) (h := []) (h' := []) trivial rfl rfl rfl ?_
    refine W_false rfl ?_
    refine W_skip ?_
    refine W_seq ?_
    refine W_regV he rfl ?_
    refine v0 (sBS rfl 1005 (rows := ([] : List Int).map en_u8) rfl rfl rfl (by kernel_rfl) rfl rfl rfl rfl) rfl ?_
    refine v0 (sM rfl [] rfl) rfl ?_
    refine chkc h ?_; clear h; intro c2 h
    refine v0 (sAo rfl 1002 ([] : List Int) a0 enOk_u8 rfl rfl rfl rfl rfl rfl rfl rfl rfl rfl rfl c2) rfl ?_
    refine v0 (sA rfl [] rfl) rfl ?_
    refine ve ?_
    refine W2 [2] [] [1002] (l := [(2, .c (.own _ _ _ _))]) (h := []) (h' := [(1002, ⟨0, 1, (([] : List Int) ++ a0).map en_u8⟩)]) ⟨⟨_, rfl, enOk_u8.allClosed _ _ (([] : List Int) ++ a0)⟩, trivial⟩ rfl rfl rfl ?_
    obtain rfl := Option.some.inj h
    refine W.weak (wk_row (l := (([] : List Int) ++ a0)) 2 enOk_u8 rfl rfl) ?_
    exact W_ret (r0 rfl rfl)
  | true =>
    have hzb1 : a0 = [] := List.map_eq_nil_iff.1 (hb1 rfl)
    replace h : some [] = some r := by simpa [hzb1] using h
    refine ve ?_
    refine W2 [0, 4] [] [] (l := [(0, .c (.row _ _ _)), (4, .c (.bool true))]) (h := []) (h' := []) trivial rfl rfl rfl ?_
    refine W_true rfl ?_
    refine W_seq ?_
    refine W_regV he rfl ?_
    refine v0 (sA rfl [1] rfl) rfl ?_
    refine ve ?_
    refine W2 [2] [] [] (l := [(2, .c (.row _ _ _))]) (h := []) (h' := []) trivial rfl rfl rfl ?_
    obtain rfl := Option.some.inj h
    exact W_ret (r0 rfl rfl)
theorem ok_slices_Clone_byte_byte : FnOk Try.prog 58 := ⟨_, Try.func58, rfl, rfl⟩


/-! ### slices.Clone[[]byte,byte] -/
set_option maxRecDepth 20000 in
set_option maxHeartbeats 8000000 in
theorem wo_slices_Clone_byte_byte (K : Nat) (a0 : List Int) (r : (List Int)) (h : m_slices_Clone_byte_byte K a0 = some r) : Sp Try.prog 58 [.c (.row false 1 (a0.map en_u8))] [] (.c (.own 1 0 0 r.length)) [⟨0, 1, r.map en_u8⟩] := by
  refine Sp.of_W tabOk Try.func58 rfl rfl (Nat.le_of_ble_eq_true rfl) (Nat.le_of_ble_eq_true rfl) fun F hP hN hm => ?_
  obtain ⟨P, N, w0, σ0, β0, m⟩ := F
  obtain rfl : P = Try.prog := hP
  obtain rfl : N = 8 := hN
  obtain rfl : m = 1 := hm
  have he : Env ⟨Try.prog, 8, w0, σ0, β0, 1⟩ tab := ⟨Nat.le_of_ble_eq_true rfl, tabOk⟩
  unfold m_slices_Clone_byte_byte at h
  refine W_seq ?_
  refine W_regV he rfl ?_
  refine v0 (sA rfl [1] rfl) rfl ?_
  refine ve ?_
  refine W2 [0] [] [] (l := [(0, .c (.row _ _ _))]) (h := []) (h' := []) trivial rfl rfl rfl ?_
  refine W_seq ?_
  refine W_seq ?_
  refine W_regV he rfl ?_
  refine v0 (sM rfl [] rfl) rfl ?_
  refine vN rfl rfl rfl rfl rfl fun b1 hb1 => ?_
  cases b1 with
  | false =>
    refine ve ?_
    refine W2 [0, 4] [] [] (l := [(0, .c (.row _ _ _)), (4, .c (.bool false))]) (h := []) (h' := []) trivial rfl rfl rfl ?_
    refine W_false rfl ?_
    refine W_skip ?_
    refine W_seq ?_
    refine W_regV he rfl ?_
    refine v0 (sBS rfl 1005 (rows := ([] : List Int).map en_u8) rfl rfl rfl (by kernel_rfl) rfl rfl rfl rfl) rfl ?_
    refine v0 (sM rfl [] rfl) rfl ?_
    refine chkc h ?_; clear h; intro c2 h
    refine v0 (sAo rfl 1002 ([] : List Int) a0 enOk_u8 rfl rfl rfl rfl rfl rfl rfl rfl rfl rfl rfl c2) rfl ?_
    refine v0 (sA rfl [] rfl) rfl ?_
    refine ve ?_
    refine W2 [2] [] [1002] (l := [(2, .c (.own _ _ _ _))]) (h := []) (h' := [(1002, ⟨0, 1, (([] : List Int) ++ a0).map en_u8⟩)]) ⟨⟨_, rfl, enOk_u8.allClosed _ _ (([] : List Int) ++ a0)⟩, trivial⟩ rfl rfl rfl ?_
    obtain rfl := Option.some.inj h
    exact W_ret (retOne 0 1002 (.inl rfl) enOk_u8 rfl rfl rfl)
  | true =>
    have hzb1 : a0 = [] := List.map_eq_nil_iff.1 (hb1 rfl)
    replace h : some [] = some r := by simpa [hzb1] using h
    refine ve ?_
    refine W2 [0, 4] [] [] (l := [(0, .c (.row _ _ _)), (4, .c (.bool true))]) (h := []) (h' := []) trivial rfl rfl rfl ?_
    refine W_true rfl ?_
    refine W_seq ?_
    refine W_regV he rfl ?_
    refine v0 (sA rfl [1] rfl) rfl ?_
    refine ve ?_
    refine W2 [2] [] [] (l := [(2, .c (.row _ _ _))]) (h := []) (h' := []) trivial rfl rfl rfl ?_
    obtain rfl := Option.some.inj h
    refine W_ownNil he 2 1900 rfl rfl ?_
    exact W_ret (retOne (l := ([] : List Int)) 0 1900 (.inl rfl) enOk_u8 rfl rfl rfl)


/-! ### loop.example/g00499/impl.within -/
def m_impl_within (K : Nat) (a0 : Int) (a1 : Int) (a2 : Int) : Option (Bool) := (bif (decide (a0 ≥ a1)) then some (decide (a0 ≤ a2)) else some false)
set_option maxRecDepth 20000 in
set_option maxHeartbeats 8000000 in
theorem w_impl_within (K : Nat) (a0 : Int) (a1 : Int) (a2 : Int) (r : Bool) (h : m_impl_within K a0 a1 a2 = some r) : Sp Try.prog 57 [.c (.int .i64 a0), .c (.int .i64 a1), .c (.int .i64 a2)] [] (.c (.bool r)) [] := by
  refine Sp.of_W tabOk Try.func57 rfl rfl (Nat.le_of_ble_eq_true rfl) (Nat.le_of_ble_eq_true rfl) fun F hP hN hm => ?_
  obtain ⟨P, N, w0, σ0, β0, m⟩ := F
  obtain rfl : P = Try.prog := hP
  obtain rfl : N = 15 := hN
  obtain rfl : m = 1 := hm
  have he : Env ⟨Try.prog, 15, w0, σ0, β0, 1⟩ tab := ⟨Nat.le_of_ble_eq_true rfl, tabOk⟩
  unfold m_impl_within at h
  refine W_seq ?_
  refine W_regV he rfl ?_
  refine v0 (sA rfl [] rfl) rfl ?_
  refine ve ?_
  refine W2 [0, 1, 2] [] [] (l := [(0, .c (.int _ _)), (1, .c (.int _ _)), (2, .c (.int _ _))]) (h := []) (h' := []) trivial rfl rfl rfl ?_
  refine W_seq ?_
  refine W_regV he rfl ?_
  refine v0 (sM rfl [] rfl) rfl ?_
  refine v0 (sM rfl [] rfl) rfl ?_
  refine vB (sBi rfl rfl rfl rfl) rfl rfl fun b1 hb1 => ?_
  cases b1 with
  | true =>
    replace h := brT hb1 h
    refine v0 (sM rfl [] rfl) rfl ?_
    refine u0 (sM rfl [] rfl) rfl rfl rfl ?_
    refine u0 (sM rfl [] rfl) rfl rfl rfl ?_
    refine u0 (sBi rfl rfl rfl rfl) rfl rfl rfl ?_
    refine v0 (sPk rfl [] rfl rfl) rfl ?_
    refine v0 (sA rfl [] rfl) rfl ?_
    refine ve ?_
    refine W2 [6] [] [] (l := [(6, .c (.bool _))]) (h := []) (h' := []) trivial rfl rfl rfl ?_
    obtain rfl := Option.some.inj h
    exact W_ret (r0 rfl rfl)
  | false =>
    replace h := brF hb1 h
    refine v0 (sM rfl [] rfl) rfl ?_
    refine uP rfl rfl rfl rfl ?_
    refine uP rfl rfl rfl rfl ?_
    refine uP rfl rfl rfl rfl ?_
    refine v0 (sPk rfl [] rfl rfl) rfl ?_
    refine v0 (sA rfl [] rfl) rfl ?_
    refine ve ?_
    refine W2 [6] [] [] (l := [(6, .c (.bool false))]) (h := []) (h' := []) trivial rfl rfl rfl ?_
    obtain rfl := Option.some.inj h
    exact W_ret (r0 rfl rfl)
theorem ok_impl_within : FnOk Try.prog 57 := ⟨_, Try.func57, rfl, rfl⟩


/-! ### loop.example/g00499/impl.PutVar -/
def l_impl_PutVar_6 (K : Nat) : Nat → Int → (List Int) → Option ((List Int))
  | 0, _, _ => none
  | n6 + 1, v4, v5 => (bif (decide (v4 > 127)) then (if (v5 ++ ([(IntKind.u8.wrap (iOr .i64 (iAnd .i64 v4 127) 128))] : List Int)).length * 1 ≤ 140737488355328 ∧ (v5 ++ ([(IntKind.u8.wrap (iOr .i64 (iAnd .i64 v4 127) 128))] : List Int)).length ≤ maxLen then (if (0 : Int) ≤ 7 then (l_impl_PutVar_6 K n6 (iShr .i64 v4 7) (v5 ++ ([(IntKind.u8.wrap (iOr .i64 (iAnd .i64 v4 127) 128))] : List Int))) else none) else none) else (if (v5 ++ ([(IntKind.u8.wrap v4)] : List Int)).length * 1 ≤ 140737488355328 ∧ (v5 ++ ([(IntKind.u8.wrap v4)] : List Int)).length ≤ maxLen then some (v5 ++ ([(IntKind.u8.wrap v4)] : List Int)) else none))
def m_impl_PutVar (K : Nat) (a0 : List Int) (a1 : Int) : Option ((List Int)) := ((m_slices_Clone_byte_byte K a0).bind fun r1 => ((m_impl_within K a1 0 1000000000).bind fun r2 => (bif r2 then (l_impl_PutVar_6 K K a1 r1) else some r1)))
set_option maxRecDepth 20000 in
set_option maxHeartbeats 8000000 in
theorem w_impl_PutVar (K : Nat) (a0 : List Int) (a1 : Int) (r : (List Int)) (h : m_impl_PutVar K a0 a1 = some r) : Sp Try.prog 25 [.c (.row false 1 (a0.map en_u8)), .c (.int .i64 a1)] [] (.c (.row false 1 (r.map en_u8))) [] := by
  refine Sp.of_W tabOk Try.func25 rfl rfl (Nat.le_of_ble_eq_true rfl) (Nat.le_of_ble_eq_true rfl) fun F hP hN hm => ?_
  obtain ⟨P, N, w0, σ0, β0, m⟩ := F
  obtain rfl : P = Try.prog := hP
  obtain rfl : N = 28 := hN
  obtain rfl : m = 1 := hm
  have he : Env ⟨Try.prog, 28, w0, σ0, β0, 1⟩ tab := ⟨Nat.le_of_ble_eq_true rfl, tabOk⟩
  unfold m_impl_PutVar at h
  refine W_seq ?_
  refine W_regV he rfl ?_
  refine v0 (sA rfl [1] rfl) rfl ?_
  refine ve ?_
  refine W2 [0, 1] [] [] (l := [(0, .c (.row _ _ _)), (1, .c (.int _ _))]) (h := []) (h' := []) trivial rfl rfl rfl ?_
  refine W_seq ?_
  refine W_regV he rfl ?_
  refine v0 (sM rfl [] rfl) rfl ?_
  refine bndc h ?_; clear h; intro r1 hr1 h
  refine v0 (sCo (wo_slices_Clone_byte_byte K a0 _ hr1) ok_slices_Clone_byte_byte (fun _ => rfl) [] 1005 rfl rfl rfl rfl rfl) rfl ?_
  refine v0 (sA rfl [] rfl) rfl ?_
  refine ve ?_
  refine W2 [1, 5] [] [1005] (l := [(1, .c (.int _ _)), (5, .c (.own _ _ _ _))]) (h := []) (h' := [(1005, ⟨0, 1, r1.map en_u8⟩)]) ⟨⟨_, rfl, enOk_u8.allClosed _ _ r1⟩, trivial⟩ rfl rfl rfl ?_
  refine W_seq ?_
  refine W_seq ?_
  refine W_regV he rfl ?_
  refine v0 (sM rfl [] rfl) rfl ?_
  refine bndc h ?_; clear h; intro r2 hr2 h
  refine vB (sCm (w_impl_within K a1 0 1000000000 _ hr2) ok_impl_within rfl rfl rfl rfl) rfl rfl fun b3 hb3 => ?_
  cases b3 with
  | true =>
    replace h := brT hb3 h
    refine v0 (sNt rfl rfl) rfl ?_
    refine ve ?_
    refine W2 [1, 5, 10] [] [1005] (l := [(1, .c (.int _ _)), (5, .c (.own _ _ _ _)), (10, .c (.bool false))]) (h := []) (h' := [(1005, ⟨0, 1, r1.map en_u8⟩)]) ⟨⟨_, rfl, enOk_u8.allClosed _ _ r1⟩, trivial⟩ rfl rfl rfl ?_
    refine W_false rfl ?_
    refine W_skip ?_
    refine W_seq ?_
    refine W_block ?_
    refine W2 [1, 5] [] [1005] (l := [(1, .c (.int _ _)), (5, .c (.own _ _ _ _))]) (h := []) (h' := [(1005, ⟨0, 1, r1.map en_u8⟩)]) ⟨⟨_, rfl, enOk_u8.allClosed _ _ r1⟩, trivial⟩ rfl rfl rfl ?_
    refine W_loopW (fun n6 S => ∃ (v4 : Int), ∃ (v5 : List Int), S = StL [(1, .c (.int .i64 v4)), (5, .c (.own 1005 0 0 v5.length))] ([] ++ [(1005, ⟨0, 1, v5.map en_u8⟩)]) ∧ l_impl_PutVar_6 K n6 v4 v5 = some r) K ⟨_, _, rfl, h⟩ ?_
    rintro n6 S ⟨v4, v5, rfl, h⟩
    cases n6 with
    | zero => simp [l_impl_PutVar_6] at h
    | succ n6 =>
      rw [l_impl_PutVar_6] at h
      refine W_seq ?_
      refine W_seq ?_
      refine W_regV he rfl ?_
      refine v0 (sM rfl [] rfl) rfl ?_
      refine vB (sBi rfl rfl rfl rfl) rfl rfl fun b7 hb7 => ?_
      cases b7 with
      | true =>
        replace h := brT hb7 h
        refine ve ?_
        refine W2 [1, 5, 13] [] [1005] (l := [(1, .c (.int _ _)), (5, .c (.own _ _ _ _)), (13, .c (.bool true))]) (h := []) (h' := [(1005, ⟨0, 1, v5.map en_u8⟩)]) ⟨⟨_, rfl, enOk_u8.allClosed _ _ v5⟩, trivial⟩ rfl rfl rfl ?_
        refine W_true rfl ?_
        refine W_skip ?_
        refine W_block ?_
        refine W_seq ?_
        refine W_regV he rfl ?_
        refine v0 (sM rfl [] rfl) rfl ?_
        refine v0 (sM rfl [] rfl) rfl ?_
        refine v0 (sBi rfl rfl rfl rfl) rfl ?_
        refine v0 (sBi rfl rfl rfl rfl) rfl ?_
        refine v0 (sCv rfl rfl rfl rfl rfl rfl) rfl ?_
        refine v0 (sBS rfl 1019 (rows := ([(IntKind.u8.wrap (iOr .i64 (iAnd .i64 v4 127) 128))] : List Int).map en_u8) rfl rfl rfl (by kernel_rfl) rfl rfl rfl rfl) rfl ?_
        refine chkc h ?_; clear h; intro c8 h
        refine v0 (sAo rfl 1005 v5 ([(IntKind.u8.wrap (iOr .i64 (iAnd .i64 v4 127) 128))] : List Int) enOk_u8 rfl rfl rfl rfl rfl rfl rfl rfl rfl rfl rfl c8) rfl ?_
        refine v0 (sA rfl [] rfl) rfl ?_
        refine ve ?_
        refine W2 [1, 5] [] [1005] (l := [(1, .c (.int _ _)), (5, .c (.own _ _ _ _))]) (h := []) (h' := [(1005, ⟨0, 1, (v5 ++ ([(IntKind.u8.wrap (iOr .i64 (iAnd .i64 v4 127) 128))] : List Int)).map en_u8⟩)]) ⟨⟨_, rfl, enOk_u8.allClosed _ _ (v5 ++ ([(IntKind.u8.wrap (iOr .i64 (iAnd .i64 v4 127) 128))] : List Int))⟩, trivial⟩ rfl rfl rfl ?_
        refine W_regV he rfl ?_
        refine v0 (sM rfl [] rfl) rfl ?_
        refine chkc h ?_; clear h; intro c9 h
        refine v0 (sSr rfl rfl rfl c9) rfl ?_
        refine v0 (sA rfl [] rfl) rfl ?_
        refine ve ?_
        exact ⟨n6, _, Nat.lt_succ_self n6, wk2 [1, 5] [] [1005] (l := [(1, .c (.int _ _)), (5, .c (.own _ _ _ _))]) (h := []) (h' := [(1005, ⟨0, 1, (v5 ++ ([(IntKind.u8.wrap (iOr .i64 (iAnd .i64 v4 127) 128))] : List Int)).map en_u8⟩)]) ⟨⟨_, rfl, enOk_u8.allClosed _ _ (v5 ++ ([(IntKind.u8.wrap (iOr .i64 (iAnd .i64 v4 127) 128))] : List Int))⟩, trivial⟩ rfl rfl rfl, _, _, rfl, h⟩
      | false =>
        replace h := brF hb7 h
        refine ve ?_
        refine W2 [1, 5, 13] [] [1005] (l := [(1, .c (.int _ _)), (5, .c (.own _ _ _ _)), (13, .c (.bool false))]) (h := []) (h' := [(1005, ⟨0, 1, v5.map en_u8⟩)]) ⟨⟨_, rfl, enOk_u8.allClosed _ _ v5⟩, trivial⟩ rfl rfl rfl ?_
        refine W_false rfl ?_
        refine W_exit (ex_then (ex_then (ex_hit ?_)))
        refine W_seq ?_
        refine W_regV he rfl ?_
        refine v0 (sM rfl [] rfl) rfl ?_
        refine v0 (sM rfl [] rfl) rfl ?_
        refine v0 (sCv rfl rfl rfl rfl rfl rfl) rfl ?_
        refine v0 (sBS rfl 1026 (rows := ([(IntKind.u8.wrap v4)] : List Int).map en_u8) rfl rfl rfl (by kernel_rfl) rfl rfl rfl rfl) rfl ?_
        refine chkc h ?_; clear h; intro c10 h
        refine v0 (sAo rfl 1004 v5 ([(IntKind.u8.wrap v4)] : List Int) enOk_u8 rfl rfl rfl rfl rfl rfl rfl rfl rfl rfl rfl c10) rfl ?_
        refine v0 (sA rfl [] rfl) rfl ?_
        refine ve ?_
        refine W2 [4] [] [1004] (l := [(4, .c (.own _ _ _ _))]) (h := []) (h' := [(1004, ⟨0, 1, (v5 ++ ([(IntKind.u8.wrap v4)] : List Int)).map en_u8⟩)]) ⟨⟨_, rfl, enOk_u8.allClosed _ _ (v5 ++ ([(IntKind.u8.wrap v4)] : List Int))⟩, trivial⟩ rfl rfl rfl ?_
        obtain rfl := Option.some.inj h
        refine W.weak (wk_row (l := (v5 ++ ([(IntKind.u8.wrap v4)] : List Int))) 4 enOk_u8 rfl rfl) ?_
        exact W_ret (r0 rfl rfl)
  | false =>
    replace h := brF hb3 h
    refine v0 (sNt rfl rfl) rfl ?_
    refine ve ?_
    refine W2 [1, 5, 10] [] [1005] (l := [(1, .c (.int _ _)), (5, .c (.own _ _ _ _)), (10, .c (.bool true))]) (h := []) (h' := [(1005, ⟨0, 1, r1.map en_u8⟩)]) ⟨⟨_, rfl, enOk_u8.allClosed _ _ r1⟩, trivial⟩ rfl rfl rfl ?_
    refine W_true rfl ?_
    refine W_seq ?_
    refine W_regV he rfl ?_
    refine v0 (sM rfl [] rfl) rfl ?_
    refine v0 (sA rfl [] rfl) rfl ?_
    refine ve ?_
    refine W2 [4] [] [1005] (l := [(4, .c (.own _ _ _ _))]) (h := []) (h' := [(1005, ⟨0, 1, r1.map en_u8⟩)]) ⟨⟨_, rfl, enOk_u8.allClosed _ _ r1⟩, trivial⟩ rfl rfl rfl ?_
    obtain rfl := Option.some.inj h
    refine W.weak (wk_row (l := r1) 4 enOk_u8 rfl rfl) ?_
    exact W_ret (r0 rfl rfl)
theorem ok_impl_PutVar : FnOk Try.prog 25 := ⟨_, Try.func25, rfl, rfl⟩


/-! ### loop.example/g00499/spec.l1In -/
def m_spec_l1In (K : Nat) (a0 : Int) (a1 : Int) (a2 : Int) : Option (Bool) := (bif (decide (a0 ≥ a1)) then some (decide (a0 ≤ a2)) else some false)
set_option maxRecDepth 20000 in
set_option maxHeartbeats 8000000 in
theorem w_spec_l1In (K : Nat) (a0 : Int) (a1 : Int) (a2 : Int) (r : Bool) (h : m_spec_l1In K a0 a1 a2 = some r) : Sp Try.prog 56 [.c (.int .i64 a0), .c (.int .i64 a1), .c (.int .i64 a2)] [] (.c (.bool r)) [] := by
  refine Sp.of_W tabOk Try.func56 rfl rfl (Nat.le_of_ble_eq_true rfl) (Nat.le_of_ble_eq_true rfl) fun F hP hN hm => ?_
  obtain ⟨P, N, w0, σ0, β0, m⟩ := F
  obtain rfl : P = Try.prog := hP
  obtain rfl : N = 15 := hN
  obtain rfl : m = 1 := hm
  have he : Env ⟨Try.prog, 15, w0, σ0, β0, 1⟩ tab := ⟨Nat.le_of_ble_eq_true rfl, tabOk⟩
  unfold m_spec_l1In at h
  refine W_seq ?_
  refine W_regV he rfl ?_
  refine v0 (sA rfl [] rfl) rfl ?_
  refine ve ?_
  refine W2 [0, 1, 2] [] [] (l := [(0, .c (.int _ _)), (1, .c (.int _ _)), (2, .c (.int _ _))]) (h := []) (h' := []) trivial rfl rfl rfl ?_
  refine W_seq ?_
  refine W_regV he rfl ?_
  refine v0 (sM rfl [] rfl) rfl ?_
  refine v0 (sM rfl [] rfl) rfl ?_
  refine vB (sBi rfl rfl rfl rfl) rfl rfl fun b1 hb1 => ?_
  cases b1 with
  | true =>
    replace h := brT hb1 h
    refine v0 (sM rfl [] rfl) rfl ?_
    refine u0 (sM rfl [] rfl) rfl rfl rfl ?_
    refine u0 (sM rfl [] rfl) rfl rfl rfl ?_
    refine u0 (sBi rfl rfl rfl rfl) rfl rfl rfl ?_
    refine v0 (sPk rfl [] rfl rfl) rfl ?_
    refine v0 (sA rfl [] rfl) rfl ?_
    refine ve ?_
    refine W2 [6] [] [] (l := [(6, .c (.bool _))]) (h := []) (h' := []) trivial rfl rfl rfl ?_
    obtain rfl := Option.some.inj h
    exact W_ret (r0 rfl rfl)
  | false =>
    replace h := brF hb1 h
    refine v0 (sM rfl [] rfl) rfl ?_
    refine uP rfl rfl rfl rfl ?_
    refine uP rfl rfl rfl rfl ?_
    refine uP rfl rfl rfl rfl ?_
    refine v0 (sPk rfl [] rfl rfl) rfl ?_
    refine v0 (sA rfl [] rfl) rfl ?_
    refine ve ?_
    refine W2 [6] [] [] (l := [(6, .c (.bool false))]) (h := []) (h' := []) trivial rfl rfl rfl ?_
    obtain rfl := Option.some.inj h
    exact W_ret (r0 rfl rfl)
theorem ok_spec_l1In : FnOk Try.prog 56 := ⟨_, Try.func56, rfl, rfl⟩


/-! ### loop.example/g00499/spec.PutVar -/
def l_spec_PutVar_6 (K : Nat) : Nat → Int → (List Int) → Option ((List Int))
  | 0, _, _ => none
  | n6 + 1, v4, v5 => (bif (decide (v4 > 127)) then (if (v5 ++ ([(IntKind.u8.wrap (iOr .i64 (iAnd .i64 v4 127) 128))] : List Int)).length * 1 ≤ 140737488355328 ∧ (v5 ++ ([(IntKind.u8.wrap (iOr .i64 (iAnd .i64 v4 127) 128))] : List Int)).length ≤ maxLen then (if (0 : Int) ≤ 7 then (l_spec_PutVar_6 K n6 (iShr .i64 v4 7) (v5 ++ ([(IntKind.u8.wrap (iOr .i64 (iAnd .i64 v4 127) 128))] : List Int))) else none) else none) else (if (v5 ++ ([(IntKind.u8.wrap v4)] : List Int)).length * 1 ≤ 140737488355328 ∧ (v5 ++ ([(IntKind.u8.wrap v4)] : List Int)).length ≤ maxLen then some (v5 ++ ([(IntKind.u8.wrap v4)] : List Int)) else none))
def m_spec_PutVar (K : Nat) (a0 : List Int) (a1 : Int) : Option ((List Int)) := (if (([] : List Int) ++ a0).length * 1 ≤ 140737488355328 ∧ (([] : List Int) ++ a0).length ≤ maxLen then ((m_spec_l1In K a1 0 1000000000).bind fun r2 => (bif r2 then (l_spec_PutVar_6 K K a1 (([] : List Int) ++ a0)) else some (([] : List Int) ++ a0))) else none)
set_option maxRecDepth 20000 in
set_option maxHeartbeats 8000000 in
theorem w_spec_PutVar (K : Nat) (a0 : List Int) (a1 : Int) (r : (List Int)) (h : m_spec_PutVar K a0 a1 = some r) : Sp Try.prog 24 [.c (.row false 1 (a0.map en_u8)), .c (.int .i64 a1)] [] (.c (.row false 1 (r.map en_u8))) [] := by
  refine Sp.of_W tabOk Try.func24 rfl rfl (Nat.le_of_ble_eq_true rfl) (Nat.le_of_ble_eq_true rfl) fun F hP hN hm => ?_
  obtain ⟨P, N, w0, σ0, β0, m⟩ := F
  obtain rfl : P = Try.prog := hP
  obtain rfl : N = 29 := hN
  obtain rfl : m = 1 := hm
  have he : Env ⟨Try.prog, 29, w0, σ0, β0, 1⟩ tab := ⟨Nat.le_of_ble_eq_true rfl, tabOk⟩
  unfold m_spec_PutVar at h
  refine W_seq ?_
  refine W_regV he rfl ?_
  refine v0 (sA rfl [1] rfl) rfl ?_
  refine ve ?_
  refine W2 [0, 1] [] [] (l := [(0, .c (.row _ _ _)), (1, .c (.int _ _))]) (h := []) (h' := []) trivial rfl rfl rfl ?_
  refine W_seq ?_
  refine W_regV he rfl ?_
  refine v0 (sBS rfl 1006 (rows := ([] : List Int).map en_u8) rfl rfl rfl (by kernel_rfl) rfl rfl rfl rfl) rfl ?_
  refine v0 (sM rfl [] rfl) rfl ?_
  refine chkc h ?_; clear h; intro c1 h
  refine v0 (sAo rfl 1005 ([] : List Int) a0 enOk_u8 rfl rfl rfl rfl rfl rfl rfl rfl rfl rfl rfl c1) rfl ?_
  refine v0 (sA rfl [] rfl) rfl ?_
  refine ve ?_
  refine W2 [1, 5] [] [1005] (l := [(1, .c (.int _ _)), (5, .c (.own _ _ _ _))]) (h := []) (h' := [(1005, ⟨0, 1, (([] : List Int) ++ a0).map en_u8⟩)]) ⟨⟨_, rfl, enOk_u8.allClosed _ _ (([] : List Int) ++ a0)⟩, trivial⟩ rfl rfl rfl ?_
  refine W_seq ?_
  refine W_seq ?_
  refine W_regV he rfl ?_
  refine v0 (sM rfl [] rfl) rfl ?_
  refine bndc h ?_; clear h; intro r2 hr2 h
  refine vB (sCm (w_spec_l1In K a1 0 1000000000 _ hr2) ok_spec_l1In rfl rfl rfl rfl) rfl rfl fun b3 hb3 => ?_
  cases b3 with
  | true =>
    replace h := brT hb3 h
    refine v0 (sNt rfl rfl) rfl ?_
    refine ve ?_
    refine W2 [1, 5, 11] [] [1005] (l := [(1, .c (.int _ _)), (5, .c (.own _ _ _ _)), (11, .c (.bool false))]) (h := []) (h' := [(1005, ⟨0, 1, (([] : List Int) ++ a0).map en_u8⟩)]) ⟨⟨_, rfl, enOk_u8.allClosed _ _ (([] : List Int) ++ a0)⟩, trivial⟩ rfl rfl rfl ?_
    refine W_false rfl ?_
    refine W_skip ?_
    refine W_seq ?_
    refine W_block ?_
    refine W2 [1, 5] [] [1005] (l := [(1, .c (.int _ _)), (5, .c (.own _ _ _ _))]) (h := []) (h' := [(1005, ⟨0, 1, (([] : List Int) ++ a0).map en_u8⟩)]) ⟨⟨_, rfl, enOk_u8.allClosed _ _ (([] : List Int) ++ a0)⟩, trivial⟩ rfl rfl rfl ?_
    refine W_loopW (fun n6 S => ∃ (v4 : Int), ∃ (v5 : List Int), S = StL [(1, .c (.int .i64 v4)), (5, .c (.own 1005 0 0 v5.length))] ([] ++ [(1005, ⟨0, 1, v5.map en_u8⟩)]) ∧ l_spec_PutVar_6 K n6 v4 v5 = some r) K ⟨_, _, rfl, h⟩ ?_
    rintro n6 S ⟨v4, v5, rfl, h⟩
    cases n6 with
    | zero => simp [l_spec_PutVar_6] at h
    | succ n6 =>
      rw [l_spec_PutVar_6] at h
      refine W_seq ?_
      refine W_seq ?_
      refine W_regV he rfl ?_
      refine v0 (sM rfl [] rfl) rfl ?_
      refine vB (sBi rfl rfl rfl rfl) rfl rfl fun b7 hb7 => ?_
      cases b7 with
      | true =>
        replace h := brT hb7 h
        refine ve ?_
        refine W2 [1, 5, 14] [] [1005] (l := [(1, .c (.int _ _)), (5, .c (.own _ _ _ _)), (14, .c (.bool true))]) (h := []) (h' := [(1005, ⟨0, 1, v5.map en_u8⟩)]) ⟨⟨_, rfl, enOk_u8.allClosed _ _ v5⟩, trivial⟩ rfl rfl rfl ?_
        refine W_true rfl ?_
        refine W_skip ?_
        refine W_block ?_
        refine W_seq ?_
        refine W_regV he rfl ?_
        refine v0 (sM rfl [] rfl) rfl ?_
        refine v0 (sM rfl [] rfl) rfl ?_
        refine v0 (sBi rfl rfl rfl rfl) rfl ?_
        refine v0 (sBi rfl rfl rfl rfl) rfl ?_
        refine v0 (sCv rfl rfl rfl rfl rfl rfl) rfl ?_
        refine v0 (sBS rfl 1020 (rows := ([(IntKind.u8.wrap (iOr .i64 (iAnd .i64 v4 127) 128))] : List Int).map en_u8) rfl rfl rfl (by kernel_rfl) rfl rfl rfl rfl) rfl ?_
        refine chkc h ?_; clear h; intro c8 h
        refine v0 (sAo rfl 1005 v5 ([(IntKind.u8.wrap (iOr .i64 (iAnd .i64 v4 127) 128))] : List Int) enOk_u8 rfl rfl rfl rfl rfl rfl rfl rfl rfl rfl rfl c8) rfl ?_
        refine v0 (sA rfl [] rfl) rfl ?_
        refine ve ?_
        refine W2 [1, 5] [] [1005] (l := [(1, .c (.int _ _)), (5, .c (.own _ _ _ _))]) (h := []) (h' := [(1005, ⟨0, 1, (v5 ++ ([(IntKind.u8.wrap (iOr .i64 (iAnd .i64 v4 127) 128))] : List Int)).map en_u8⟩)]) ⟨⟨_, rfl, enOk_u8.allClosed _ _ (v5 ++ ([(IntKind.u8.wrap (iOr .i64 (iAnd .i64 v4 127) 128))] : List Int))⟩, trivial⟩ rfl rfl rfl ?_
        refine W_regV he rfl ?_
        refine v0 (sM rfl [] rfl) rfl ?_
        refine chkc h ?_; clear h; intro c9 h
        refine v0 (sSr rfl rfl rfl c9) rfl ?_
        refine v0 (sA rfl [] rfl) rfl ?_
        refine ve ?_
        exact ⟨n6, _, Nat.lt_succ_self n6, wk2 [1, 5] [] [1005] (l := [(1, .c (.int _ _)), (5, .c (.own _ _ _ _))]) (h := []) (h' := [(1005, ⟨0, 1, (v5 ++ ([(IntKind.u8.wrap (iOr .i64 (iAnd .i64 v4 127) 128))] : List Int)).map en_u8⟩)]) ⟨⟨_, rfl, enOk_u8.allClosed _ _ (v5 ++ ([(IntKind.u8.wrap (iOr .i64 (iAnd .i64 v4 127) 128))] : List Int))⟩, trivial⟩ rfl rfl rfl, _, _, rfl, h⟩
      | false =>
        replace h := brF hb7 h
        refine ve ?_
        refine W2 [1, 5, 14] [] [1005] (l := [(1, .c (.int _ _)), (5, .c (.own _ _ _ _)), (14, .c (.bool false))]) (h := []) (h' := [(1005, ⟨0, 1, v5.map en_u8⟩)]) ⟨⟨_, rfl, enOk_u8.allClosed _ _ v5⟩, trivial⟩ rfl rfl rfl ?_
        refine W_false rfl ?_
        refine W_exit (ex_then (ex_then (ex_hit ?_)))
        refine W_seq ?_
        refine W_regV he rfl ?_
        refine v0 (sM rfl [] rfl) rfl ?_
        refine v0 (sM rfl [] rfl) rfl ?_
        refine v0 (sCv rfl rfl rfl rfl rfl rfl) rfl ?_
        refine v0 (sBS rfl 1027 (rows := ([(IntKind.u8.wrap v4)] : List Int).map en_u8) rfl rfl rfl (by kernel_rfl) rfl rfl rfl rfl) rfl ?_
        refine chkc h ?_; clear h; intro c10 h
        refine v0 (sAo rfl 1004 v5 ([(IntKind.u8.wrap v4)] : List Int) enOk_u8 rfl rfl rfl rfl rfl rfl rfl rfl rfl rfl rfl c10) rfl ?_
        refine v0 (sA rfl [] rfl) rfl ?_
        refine ve ?_
        refine W2 [4] [] [1004] (l := [(4, .c (.own _ _ _ _))]) (h := []) (h' := [(1004, ⟨0, 1, (v5 ++ ([(IntKind.u8.wrap v4)] : List Int)).map en_u8⟩)]) ⟨⟨_, rfl, enOk_u8.allClosed _ _ (v5 ++ ([(IntKind.u8.wrap v4)] : List Int))⟩, trivial⟩ rfl rfl rfl ?_
        obtain rfl := Option.some.inj h
        refine W.weak (wk_row (l := (v5 ++ ([(IntKind.u8.wrap v4)] : List Int))) 4 enOk_u8 rfl rfl) ?_
        exact W_ret (r0 rfl rfl)
  | false =>
    replace h := brF hb3 h
    refine v0 (sNt rfl rfl) rfl ?_
    refine ve ?_
    refine W2 [1, 5, 11] [] [1005] (l := [(1, .c (.int _ _)), (5, .c (.own _ _ _ _)), (11, .c (.bool true))]) (h := []) (h' := [(1005, ⟨0, 1, (([] : List Int) ++ a0).map en_u8⟩)]) ⟨⟨_, rfl, enOk_u8.allClosed _ _ (([] : List Int) ++ a0)⟩, trivial⟩ rfl rfl rfl ?_
    refine W_true rfl ?_
    refine W_seq ?_
    refine W_regV he rfl ?_
    refine v0 (sM rfl [] rfl) rfl ?_
    refine v0 (sA rfl [] rfl) rfl ?_
    refine ve ?_
    refine W2 [4] [] [1005] (l := [(4, .c (.own _ _ _ _))]) (h := []) (h' := [(1005, ⟨0, 1, (([] : List Int) ++ a0).map en_u8⟩)]) ⟨⟨_, rfl, enOk_u8.allClosed _ _ (([] : List Int) ++ a0)⟩, trivial⟩ rfl rfl rfl ?_
    obtain rfl := Option.some.inj h
    refine W.weak (wk_row (l := (([] : List Int) ++ a0)) 4 enOk_u8 rfl rfl) ?_
    exact W_ret (r0 rfl rfl)
theorem ok_spec_PutVar : FnOk Try.prog 24 := ⟨_, Try.func24, rfl, rfl⟩


/-! ### loop.example/g00499/spec.DrawGetVar -/
def l_spec_DrawGetVar_13 (K : Nat) : Nat → (List Int) → Int → (List Int) → Int → Int → Option ((List Int) × Int)
  | 0, _, _, _, _, _ => none
  | n13 + 1, v8, v9, v10, v11, v12 => (bif (decide (v9 > 0)) then ((m_spec_l1IntW K (T_spec_l1Cur.mk v10 v11 v12) ([128, 255, 0, 1, 127] : List Int)).bind fun r15 => (if (v8 ++ ([(IntKind.u8.wrap r15.1)] : List Int)).length * 1 ≤ 140737488355328 ∧ (v8 ++ ([(IntKind.u8.wrap r15.1)] : List Int)).length ≤ maxLen then (l_spec_DrawGetVar_13 K n13 (v8 ++ ([(IntKind.u8.wrap r15.1)] : List Int)) (iSub .i64 v9 1) r15.2.fb r15.2.fi r15.2.fh) else none)) else ((m_spec_l1BelowW K (T_spec_l1Cur.mk v10 v11 v12) 4).bind fun r17 => some (v8, (iSub .i64 r17.1 1))))
def m_spec_DrawGetVar (K : Nat) (a0 : List Int) : Option ((List Int) × Int) := ((m_spec_l1New K a0).bind fun r1 => ((m_spec_l1OnceW K r1 2).bind fun r2 => (bif r2.1 then ((m_spec_l1BytesW K r2.2 1).bind fun r4 => ((m_spec_l1NumW K r4.2).bind fun r5 => ((m_spec_PutVar K r4.1 r5.1).bind fun r6 => some (r6, 1)))) else ((m_spec_l1BelowW K r2.2 6).bind fun r7 => (l_spec_DrawGetVar_13 K K ([] : List Int) r7.1 r7.2.fb r7.2.fi r7.2.fh)))))
set_option maxRecDepth 20000 in
set_option maxHeartbeats 8000000 in
theorem w_spec_DrawGetVar (K : Nat) (a0 : List Int) (r : (List Int) × Int) (h : m_spec_DrawGetVar K a0 = some r) : Sp Try.prog 44 [.c (.row false 1 (a0.map en_u8))] [] (.t [.c (.row false 1 (r.1.map en_u8)), .c (.int .i64 r.2)]) [] := by
  refine Sp.of_W tabOk Try.func44 rfl rfl (Nat.le_of_ble_eq_true rfl) (Nat.le_of_ble_eq_true rfl) fun F hP hN hm => ?_
  obtain ⟨P, N, w0, σ0, β0, m⟩ := F
  obtain rfl : P = Try.prog := hP
  obtain rfl : N = 34 := hN
  obtain rfl : m = 1 := hm
  have he : Env ⟨Try.prog, 34, w0, σ0, β0, 1⟩ tab := ⟨Nat.le_of_ble_eq_true rfl, tabOk⟩
  unfold m_spec_DrawGetVar at h
  refine W_seq ?_
  refine W_regV he rfl ?_
  refine v0 (sA rfl [1] rfl) rfl ?_
  refine v0 (sA rfl [] rfl) rfl ?_
  refine ve ?_
  refine W2 [0] [] [] (l := [(0, .c (.row _ _ _))]) (h := []) (h' := []) trivial rfl rfl rfl ?_
  refine W_seq ?_
  refine W_regV he rfl ?_
  refine v0 (sM rfl [] rfl) rfl ?_
  refine bndc h ?_; clear h; intro r1 hr1 h
  refine v0 (sCoC (l := [r1]) (wo_spec_l1New K a0 _ hr1) ok_spec_l1New enOk_spec_l1Cur 1004 rfl rfl rfl rfl rfl) rfl ?_
  refine v0 (sA rfl [] rfl) rfl ?_
  refine ve ?_
  refine W2 [4] [1004] [] (l := [(4, .c (.ptr _ _ _ _))]) (h := [(1004, ⟨0, 3, [[.row _ _ _, .int _ _, .int _ _]]⟩)]) (h' := []) trivial rfl rfl rfl ?_
  refine W_seq ?_
  refine W_seq ?_
  refine W_regV he rfl ?_
  refine v0 (sM rfl [] rfl) rfl ?_
  refine bndc h ?_; clear h; intro r2 hr2 h
  refine vB (sCw (l := [r1]) (l' := [r2.2]) (w_spec_l1OnceW K r1 2 _ hr2) ok_spec_l1Once enOk_spec_l1Cur rfl 1004 rfl rfl rfl rfl rfl rfl) rfl rfl fun b3 hb3 => ?_
  cases b3 with
  | true =>
    replace h := brT hb3 h
    refine ve ?_
    refine W2 [4, 10] [1004] [] (l := [(4, .c (.ptr _ _ _ _)), (10, .c (.bool true))]) (h := [(1004, ⟨0, 3, [[.row _ _ _, .int _ _, .int _ _]]⟩)]) (h' := []) trivial rfl rfl rfl ?_
    refine W_true rfl ?_
    refine W_seq ?_
    refine W_regV he rfl ?_
    refine v0 (sM rfl [] rfl) rfl ?_
    refine bndc h ?_; clear h; intro r4 hr4 h
    refine v0 (sCw (l := [r2.2]) (l' := [r4.2]) (w_spec_l1BytesW K r2.2 1 _ hr4) ok_spec_l1Bytes enOk_spec_l1Cur rfl 1004 rfl rfl rfl rfl rfl rfl) rfl ?_
    refine v0 (sM rfl [] rfl) rfl ?_
    refine bndc h ?_; clear h; intro r5 hr5 h
    refine v0 (sCw (l := [r4.2]) (l' := [r5.2]) (w_spec_l1NumW K r4.2 _ hr5) ok_spec_l1Num enOk_spec_l1Cur rfl 1004 rfl rfl rfl rfl rfl rfl) rfl ?_
    refine bndc h ?_; clear h; intro r6 hr6 h
    refine v0 (sCm (w_spec_PutVar K r4.1 r5.1 _ hr6) ok_spec_PutVar rfl rfl rfl rfl) rfl ?_
    refine v0 (sA rfl [] rfl) rfl ?_
    refine v0 (sA rfl [] rfl) rfl ?_
    refine ve ?_
    refine W2 [2, 3] [] [] (l := [(2, .c (.row _ _ _)), (3, .c (.int _ _))]) (h := []) (h' := []) trivial rfl rfl rfl ?_
    obtain rfl := Option.some.inj h
    exact W_ret (r0 rfl rfl)
  | false =>
    replace h := brF hb3 h
    refine ve ?_
    refine W2 [4, 10] [1004] [] (l := [(4, .c (.ptr _ _ _ _)), (10, .c (.bool false))]) (h := [(1004, ⟨0, 3, [[.row _ _ _, .int _ _, .int _ _]]⟩)]) (h' := []) trivial rfl rfl rfl ?_
    refine W_false rfl ?_
    refine W_skip ?_
    refine W_seq ?_
    refine W_regV he rfl ?_
    refine v0 (sBS rfl 1005 (rows := ([] : List Int).map en_u8) rfl rfl rfl (by kernel_rfl) rfl rfl rfl rfl) rfl ?_
    refine v0 (sA rfl [] rfl) rfl ?_
    refine ve ?_
    refine W2 [4, 5] [1004] [1005] (l := [(4, .c (.ptr _ _ _ _)), (5, .c (.own _ _ _ _))]) (h := [(1004, ⟨0, 3, [[.row _ _ _, .int _ _, .int _ _]]⟩)]) (h' := [(1005, ⟨0, 1, ([] : List Int).map en_u8⟩)]) ⟨⟨_, rfl, enOk_u8.allClosed _ _ ([] : List Int)⟩, trivial⟩ rfl rfl rfl ?_
    refine W_seq ?_
    refine W_seq ?_
    refine W_regV he rfl ?_
    refine v0 (sM rfl [] rfl) rfl ?_
    refine bndc h ?_; clear h; intro r7 hr7 h
    refine v0 (sCw (l := [r2.2]) (l' := [r7.2]) (w_spec_l1BelowW K r2.2 6 _ hr7) ok_spec_l1Below enOk_spec_l1Cur rfl 1004 rfl rfl rfl rfl rfl rfl) rfl ?_
    refine v0 (sA rfl [] rfl) rfl ?_
    refine ve ?_
    refine W2 [4, 5, 6] [1004] [1005] (l := [(4, .c (.ptr _ _ _ _)), (5, .c (.own _ _ _ _)), (6, .c (.int _ _))]) (h := [(1004, ⟨0, 3, [[.row _ _ _, .int _ _, .int _ _]]⟩)]) (h' := [(1005, ⟨0, 1, ([] : List Int).map en_u8⟩)]) ⟨⟨_, rfl, enOk_u8.allClosed _ _ ([] : List Int)⟩, trivial⟩ rfl rfl rfl ?_
    refine W_block ?_
    refine W2 [4, 5, 6] [1004] [1005] (l := [(4, .c (.ptr _ _ _ _)), (5, .c (.own _ _ _ _)), (6, .c (.int _ _))]) (h := [(1004, ⟨0, 3, [[.row _ _ _, .int _ _, .int _ _]]⟩)]) (h' := [(1005, ⟨0, 1, ([] : List Int).map en_u8⟩)]) ⟨⟨_, rfl, enOk_u8.allClosed _ _ ([] : List Int)⟩, trivial⟩ rfl rfl rfl ?_
    refine W_loopW (fun n13 S => ∃ (v8 : List Int), ∃ (v9 : Int), ∃ (v10 : List Int), ∃ (v11 : Int), ∃ (v12 : Int), S = StL [(4, .c (.ptr 1004 0 0 0)), (5, .c (.own 1005 0 0 v8.length)), (6, .c (.int .i64 v9))] ([(1004, ⟨0, 3, [[.row false 1 (v10.map en_u8), .int .i64 v11, .int .i64 v12]]⟩)] ++ [(1005, ⟨0, 1, v8.map en_u8⟩)]) ∧ l_spec_DrawGetVar_13 K n13 v8 v9 v10 v11 v12 = some r) K ⟨_, _, _, _, _, rfl, h⟩ ?_
    rintro n13 S ⟨v8, v9, v10, v11, v12, rfl, h⟩
    cases n13 with
    | zero => simp [l_spec_DrawGetVar_13] at h
    | succ n13 =>
      rw [l_spec_DrawGetVar_13] at h
      refine W_seq ?_
      refine W_seq ?_
      refine W_regV he rfl ?_
      refine v0 (sM rfl [] rfl) rfl ?_
      refine vB (sBi rfl rfl rfl rfl) rfl rfl fun b14 hb14 => ?_
      cases b14 with
      | true =>
        replace h := brT hb14 h
        refine ve ?_
        refine W2 [4, 5, 6, 20] [1004] [1005] (l := [(4, .c (.ptr _ _ _ _)), (5, .c (.own _ _ _ _)), (6, .c (.int _ _)), (20, .c (.bool true))]) (h := [(1004, ⟨0, 3, [[.row _ _ _, .int _ _, .int _ _]]⟩)]) (h' := [(1005, ⟨0, 1, v8.map en_u8⟩)]) ⟨⟨_, rfl, enOk_u8.allClosed _ _ v8⟩, trivial⟩ rfl rfl rfl ?_
        refine W_true rfl ?_
        refine W_skip ?_
        refine W_seq ?_
        refine W_block ?_
        refine W_regV he rfl ?_
        refine v0 (sM rfl [] rfl) rfl ?_
        refine v0 (sM rfl [] rfl) rfl ?_
        refine v0 (sBS rfl 1025 (rows := ([128, 255, 0, 1, 127] : List Int).map en_i64) rfl rfl rfl (by kernel_rfl) rfl rfl rfl rfl) rfl ?_
        refine vWk (wk_row (l := ([128, 255, 0, 1, 127] : List Int)) 25 enOk_i64 rfl rfl) ?_
        refine bndc h ?_; clear h; intro r15 hr15 h
        refine v0 (sCw (l := [(T_spec_l1Cur.mk v10 v11 v12)]) (l' := [r15.2]) (w_spec_l1IntW K (T_spec_l1Cur.mk v10 v11 v12) ([128, 255, 0, 1, 127] : List Int) _ hr15) ok_spec_l1Int enOk_spec_l1Cur rfl 1004 rfl rfl rfl rfl rfl rfl) rfl ?_
        refine v0 (sCv rfl rfl rfl rfl rfl rfl) rfl ?_
        refine v0 (sBS rfl 1028 (rows := ([(IntKind.u8.wrap r15.1)] : List Int).map en_u8) rfl rfl rfl (by kernel_rfl) rfl rfl rfl rfl) rfl ?_
        refine chkc h ?_; clear h; intro c16 h
        refine v0 (sAo rfl 1005 v8 ([(IntKind.u8.wrap r15.1)] : List Int) enOk_u8 rfl rfl rfl rfl rfl rfl rfl rfl rfl rfl rfl c16) rfl ?_
        refine v0 (sA rfl [] rfl) rfl ?_
        refine ve ?_
        refine W2 [4, 5, 6] [1004] [1005] (l := [(4, .c (.ptr _ _ _ _)), (5, .c (.own _ _ _ _)), (6, .c (.int _ _))]) (h := [(1004, ⟨0, 3, [[.row _ _ _, .int _ _, .int _ _]]⟩)]) (h' := [(1005, ⟨0, 1, (v8 ++ ([(IntKind.u8.wrap r15.1)] : List Int)).map en_u8⟩)]) ⟨⟨_, rfl, enOk_u8.allClosed _ _ (v8 ++ ([(IntKind.u8.wrap r15.1)] : List Int))⟩, trivial⟩ rfl rfl rfl ?_
        refine W_regV he rfl ?_
        refine v0 (sM rfl [] rfl) rfl ?_
        refine v0 (sBi rfl rfl rfl rfl) rfl ?_
        refine v0 (sA rfl [] rfl) rfl ?_
        refine ve ?_
        exact ⟨n13, _, Nat.lt_succ_self n13, wk2 [4, 5, 6] [1004] [1005] (l := [(4, .c (.ptr _ _ _ _)), (5, .c (.own _ _ _ _)), (6, .c (.int _ _))]) (h := [(1004, ⟨0, 3, [[.row _ _ _, .int _ _, .int _ _]]⟩)]) (h' := [(1005, ⟨0, 1, (v8 ++ ([(IntKind.u8.wrap r15.1)] : List Int)).map en_u8⟩)]) ⟨⟨_, rfl, enOk_u8.allClosed _ _ (v8 ++ ([(IntKind.u8.wrap r15.1)] : List Int))⟩, trivial⟩ rfl rfl rfl, _, _, _, _, _, rfl, h⟩
      | false =>
        replace h := brF hb14 h
        refine ve ?_
        refine W2 [4, 5, 6, 20] [1004] [1005] (l := [(4, .c (.ptr _ _ _ _)), (5, .c (.own _ _ _ _)), (6, .c (.int _ _)), (20, .c (.bool false))]) (h := [(1004, ⟨0, 3, [[.row _ _ _, .int _ _, .int _ _]]⟩)]) (h' := [(1005, ⟨0, 1, v8.map en_u8⟩)]) ⟨⟨_, rfl, enOk_u8.allClosed _ _ v8⟩, trivial⟩ rfl rfl rfl ?_
        refine W_false rfl ?_
        refine W_exit (ex_then (ex_then (ex_hit ?_)))
        refine W_seq ?_
        refine W_regV he rfl ?_
        refine v0 (sM rfl [] rfl) rfl ?_
        refine v0 (sM rfl [] rfl) rfl ?_
        refine bndc h ?_; clear h; intro r17 hr17 h
        refine v0 (sCw (l := [(T_spec_l1Cur.mk v10 v11 v12)]) (l' := [r17.2]) (w_spec_l1BelowW K (T_spec_l1Cur.mk v10 v11 v12) 4 _ hr17) ok_spec_l1Below enOk_spec_l1Cur rfl 1004 rfl rfl rfl rfl rfl rfl) rfl ?_
        refine v0 (sBi rfl rfl rfl rfl) rfl ?_
        refine v0 (sA rfl [] rfl) rfl ?_
        refine v0 (sA rfl [] rfl) rfl ?_
        refine ve ?_
        refine W2 [2, 3] [] [1005] (l := [(2, .c (.own _ _ _ _)), (3, .c (.int _ _))]) (h := []) (h' := [(1005, ⟨0, 1, v8.map en_u8⟩)]) ⟨⟨_, rfl, enOk_u8.allClosed _ _ v8⟩, trivial⟩ rfl rfl rfl ?_
        obtain rfl := Option.some.inj h
        refine W.weak (wk_row (l := v8) 2 enOk_u8 rfl rfl) ?_
        exact W_ret (r0 rfl rfl)
theorem ok_spec_DrawGetVar : FnOk Try.prog 44 := ⟨_, Try.func44, rfl, rfl⟩


/-! ### loop.example/g00499/impl.GetVar -/
def j_impl_GetVar_10 (K : Nat) (a0 : List Int) (a1 : Int) (v3 : Int) (v4 : Int) : Option (Int × Int × Bool) := some ((iOr .i64 v3 (iShl .i64 (IntKind.i64.wrap (iAnd .u8 (gt a0 (iAdd .i64 a1 v4)) 127)) (IntKind.u64.wrap (iMul .i64 7 v4)))), (iAdd .i64 (iAdd .i64 a1 v4) 1), true)
def l_impl_GetVar_5 (K : Nat) (a0 : List Int) (a1 : Int) : Nat → Int → Int → Option (Int × Int × Bool)
  | 0, _, _ => none
  | n5 + 1, v3, v4 => (bif (decide (v4 < (iMin 5 (iSub .i64 (a0.length : Int) a1)))) then (if (0 : Int) ≤ (iAdd .i64 a1 v4) ∧ (iAdd .i64 a1 v4) < (a0.length : Int) then (if (0 : Int) ≤ (IntKind.u64.wrap (iMul .i64 7 v4)) then (bif (decide ((gt a0 (iAdd .i64 a1 v4)) < 128)) then (bif (decide (v4 > 0)) then (bif ((gt a0 (iAdd .i64 a1 v4)) == 0) then some (0, 0, false) else (bif (decide ((iOr .i64 v3 (iShl .i64 (IntKind.i64.wrap (iAnd .u8 (gt a0 (iAdd .i64 a1 v4)) 127)) (IntKind.u64.wrap (iMul .i64 7 v4)))) > 1000000000)) then some (0, 0, false) else j_impl_GetVar_10 K a0 a1 v3 v4 )) else (bif (decide ((iOr .i64 v3 (iShl .i64 (IntKind.i64.wrap (iAnd .u8 (gt a0 (iAdd .i64 a1 v4)) 127)) (IntKind.u64.wrap (iMul .i64 7 v4)))) > 1000000000)) then some (0, 0, false) else j_impl_GetVar_10 K a0 a1 v3 v4 )) else (l_impl_GetVar_5 K a0 a1 n5 (iOr .i64 v3 (iShl .i64 (IntKind.i64.wrap (iAnd .u8 (gt a0 (iAdd .i64 a1 v4)) 127)) (IntKind.u64.wrap (iMul .i64 7 v4)))) (iAdd .i64 v4 1))) else none) else none) else some (0, 0, false))
def m_impl_GetVar (K : Nat) (a0 : List Int) (a1 : Int) : Option (Int × Int × Bool) := ((m_impl_within K a1 0 (iSub .i64 (a0.length : Int) 1)).bind fun r1 => (bif r1 then (l_impl_GetVar_5 K a0 a1 K 0 0) else some (0, 0, false)))
set_option maxRecDepth 20000 in
set_option maxHeartbeats 8000000 in
theorem w_impl_GetVar (K : Nat) (a0 : List Int) (a1 : Int) (r : Int × Int × Bool) (h : m_impl_GetVar K a0 a1 = some r) : Sp Try.prog 22 [.c (.row false 1 (a0.map en_u8)), .c (.int .i64 a1)] [] (.t [.c (.int .i64 r.1), .c (.int .i64 r.2.1), .c (.bool r.2.2)]) [] := by
  refine Sp.of_W tabOk Try.func22 rfl rfl (Nat.le_of_ble_eq_true rfl) (Nat.le_of_ble_eq_true rfl) fun F hP hN hm => ?_
  obtain ⟨P, N, w0, σ0, β0, m⟩ := F
  obtain rfl : P = Try.prog := hP
  obtain rfl : N = 57 := hN
  obtain rfl : m = 1 := hm
  have he : Env ⟨Try.prog, 57, w0, σ0, β0, 1⟩ tab := ⟨Nat.le_of_ble_eq_true rfl, tabOk⟩
  unfold m_impl_GetVar at h
  refine W_seq ?_
  refine W_regV he rfl ?_
  refine v0 (sA rfl [] rfl) rfl ?_
  refine v0 (sA rfl [] rfl) rfl ?_
  refine v0 (sA rfl [] rfl) rfl ?_
  refine ve ?_
  refine W2 [0, 1] [] [] (l := [(0, .c (.row _ _ _)), (1, .c (.int _ _))]) (h := []) (h' := []) trivial rfl rfl rfl ?_
  refine W_seq ?_
  refine W_seq ?_
  refine W_regV he rfl ?_
  refine v0 (sM rfl [] rfl) rfl ?_
  refine v0 (sM rfl [] rfl) rfl ?_
  refine v0 (sLm rfl rfl rfl rfl) rfl ?_
  refine v0 (sBi rfl rfl rfl rfl) rfl ?_
  refine bndc h ?_; clear h; intro r1 hr1 h
  refine vB (sCm (w_impl_within K a1 0 (iSub .i64 (a0.length : Int) 1) _ hr1) ok_impl_within rfl rfl rfl rfl) rfl rfl fun b2 hb2 => ?_
  cases b2 with
  | true =>
    replace h := brT hb2 h
    refine v0 (sNt rfl rfl) rfl ?_
    refine ve ?_
    refine W2 [0, 1, 15] [] [] (l := [(0, .c (.row _ _ _)), (1, .c (.int _ _)), (15, .c (.bool false))]) (h := []) (h' := []) trivial rfl rfl rfl ?_
    refine W_false rfl ?_
    refine W_skip ?_
    refine W_seq ?_
    refine W_regV he rfl ?_
    refine v0 (sA rfl [] rfl) rfl ?_
    refine ve ?_
    refine W2 [0, 1, 7] [] [] (l := [(0, .c (.row _ _ _)), (1, .c (.int _ _)), (7, .c (.int _ _))]) (h := []) (h' := []) trivial rfl rfl rfl ?_
    refine W_seq ?_
    refine W_seq ?_
    refine W_regV he rfl ?_
    refine v0 (sM rfl [] rfl) rfl ?_
    refine v0 (sLm rfl rfl rfl rfl) rfl ?_
    refine v0 (sM rfl [] rfl) rfl ?_
    refine v0 (sBi rfl rfl rfl rfl) rfl ?_
    refine v0 (sMn rfl rfl rfl) rfl ?_
    refine v0 (sM rfl [] rfl) rfl ?_
    refine ve ?_
    refine W2 [0, 1, 7, 20, 21] [] [] (l := [(0, .c (.row _ _ _)), (1, .c (.int _ _)), (7, .c (.int _ _)), (20, .c (.int _ _)), (21, .c (.int _ _))]) (h := []) (h' := []) trivial rfl rfl rfl ?_
    refine W_block ?_
    refine W2 [0, 1, 7, 20, 21] [] [] (l := [(0, .c (.row _ _ _)), (1, .c (.int _ _)), (7, .c (.int _ _)), (20, .c (.int _ _)), (21, .c (.int _ _))]) (h := []) (h' := []) trivial rfl rfl rfl ?_
    refine W_loopW (fun n5 S => ∃ (v3 : Int), ∃ (v4 : Int), S = StL [(0, .c (.row false 1 (a0.map en_u8))), (1, .c (.int .i64 a1)), (7, .c (.int .i64 v3)), (20, .c (.int .i64 (iMin 5 (iSub .i64 (a0.length : Int) a1)))), (21, .c (.int .i64 v4))] ([] ++ []) ∧ l_impl_GetVar_5 K a0 a1 n5 v3 v4 = some r) K ⟨_, _, rfl, h⟩ ?_
    rintro n5 S ⟨v3, v4, rfl, h⟩
    cases n5 with
    | zero => simp [l_impl_GetVar_5] at h
    | succ n5 =>
      rw [l_impl_GetVar_5] at h
      refine W_seq ?_
      refine W_regV he rfl ?_
      refine vB (sBi rfl rfl rfl rfl) rfl rfl fun b6 hb6 => ?_
      cases b6 with
      | true =>
        replace h := brT hb6 h
        refine ve ?_
        refine W2 [0, 1, 7, 20, 21, 22] [] [] (l := [(0, .c (.row _ _ _)), (1, .c (.int _ _)), (7, .c (.int _ _)), (20, .c (.int _ _)), (21, .c (.int _ _)), (22, .c (.bool true))]) (h := []) (h' := []) trivial rfl rfl rfl ?_
        refine W_seq ?_
        refine W_true rfl ?_
        refine W_skip ?_
        refine W_seq ?_
        refine W_block ?_
        refine W_seq ?_
        refine W_regV he rfl ?_
        refine v0 (sM rfl [] rfl) rfl ?_
        refine v0 (sA rfl [] rfl) rfl ?_
        refine ve ?_
        refine W2 [0, 1, 7, 8, 20, 21] [] [] (l := [(0, .c (.row _ _ _)), (1, .c (.int _ _)), (7, .c (.int _ _)), (8, .c (.int _ _)), (20, .c (.int _ _)), (21, .c (.int _ _))]) (h := []) (h' := []) trivial rfl rfl rfl ?_
        refine W_seq ?_
        refine W_regV he rfl ?_
        refine v0 (sM rfl [] rfl) rfl ?_
        refine v0 (sM rfl [] rfl) rfl ?_
        refine v0 (sM rfl [] rfl) rfl ?_
        refine v0 (sBi rfl rfl rfl rfl) rfl ?_
        refine chkc h ?_; clear h; intro c7 h
        refine v0 (sIRm rfl rfl rfl rfl c7) rfl ?_
        refine v0 (sLI rfl rfl (en_u8 (gt a0 (iAdd .i64 a1 v4))) (gt_at _ c7) rfl rfl rfl) rfl ?_
        refine v0 (sA rfl [] rfl) rfl ?_
        refine ve ?_
        refine W2 [0, 1, 7, 8, 9, 20, 21] [] [] (l := [(0, .c (.row _ _ _)), (1, .c (.int _ _)), (7, .c (.int _ _)), (8, .c (.int _ _)), (9, .c (.int _ _)), (20, .c (.int _ _)), (21, .c (.int _ _))]) (h := []) (h' := []) trivial rfl rfl rfl ?_
        refine W_seq ?_
        refine W_regV he rfl ?_
        refine v0 (sM rfl [] rfl) rfl ?_
        refine v0 (sM rfl [] rfl) rfl ?_
        refine v0 (sBi rfl rfl rfl rfl) rfl ?_
        refine v0 (sCv rfl rfl rfl rfl rfl rfl) rfl ?_
        refine v0 (sM rfl [] rfl) rfl ?_
        refine v0 (sBi rfl rfl rfl rfl) rfl ?_
        refine v0 (sCv rfl rfl rfl rfl rfl rfl) rfl ?_
        refine chkc h ?_; clear h; intro c8 h
        refine v0 (sSh rfl rfl rfl c8) rfl ?_
        refine v0 (sBi rfl rfl rfl rfl) rfl ?_
        refine v0 (sA rfl [] rfl) rfl ?_
        refine ve ?_
        refine W2 [0, 1, 7, 8, 9, 20, 21] [] [] (l := [(0, .c (.row _ _ _)), (1, .c (.int _ _)), (7, .c (.int _ _)), (8, .c (.int _ _)), (9, .c (.int _ _)), (20, .c (.int _ _)), (21, .c (.int _ _))]) (h := []) (h' := []) trivial rfl rfl rfl ?_
        refine W_seq ?_
        refine W_regV he rfl ?_
        refine v0 (sM rfl [] rfl) rfl ?_
        refine vB (sBi rfl rfl rfl rfl) rfl rfl fun b9 hb9 => ?_
        cases b9 with
        | true =>
          replace h := brT hb9 h
          refine ve ?_
          refine W2 [0, 1, 7, 8, 9, 20, 21, 40] [] [] (l := [(0, .c (.row _ _ _)), (1, .c (.int _ _)), (7, .c (.int _ _)), (8, .c (.int _ _)), (9, .c (.int _ _)), (20, .c (.int _ _)), (21, .c (.int _ _)), (40, .c (.bool true))]) (h := []) (h' := []) trivial rfl rfl rfl ?_
          refine W_true rfl ?_
          refine W_join (fun S => S = StL [(1, .c (.int .i64 a1)), (7, .c (.int .i64 (iOr .i64 v3 (iShl .i64 (IntKind.i64.wrap (iAnd .u8 (gt a0 (iAdd .i64 a1 v4)) 127)) (IntKind.u64.wrap (iMul .i64 7 v4)))))), (8, .c (.int .i64 v4))] ([] ++ []) ∧ j_impl_GetVar_10 K a0 a1 v3 v4  = some r) ?_ ?_
          · rintro S ⟨rfl, h⟩
            unfold j_impl_GetVar_10 at h
            refine W_seq ?_
            refine W_regV he rfl ?_
            refine v0 (sM rfl [] rfl) rfl ?_
            refine v0 (sM rfl [] rfl) rfl ?_
            refine v0 (sM rfl [] rfl) rfl ?_
            refine v0 (sBi rfl rfl rfl rfl) rfl ?_
            refine v0 (sBi rfl rfl rfl rfl) rfl ?_
            refine v0 (sA rfl [] rfl) rfl ?_
            refine v0 (sA rfl [] rfl) rfl ?_
            refine v0 (sA rfl [] rfl) rfl ?_
            refine ve ?_
            refine W2 [4, 5, 6] [] [] (l := [(4, .c (.int _ _)), (5, .c (.int _ _)), (6, .c (.bool true))]) (h := []) (h' := []) trivial rfl rfl rfl ?_
            obtain rfl := Option.some.inj h
            exact W_ret (r0 rfl rfl)
          ·
            refine W_seq ?_
            refine W_regV he rfl ?_
            refine v0 (sM rfl [] rfl) rfl ?_
            refine vB (sBi rfl rfl rfl rfl) rfl rfl fun b111 hb111 => ?_
            cases b111 with
            | true =>
              replace h := brT hb111 h
              refine v0 (sM rfl [] rfl) rfl ?_
              refine u0 (sM rfl [] rfl) rfl rfl rfl ?_
              refine uB (sBi rfl rfl rfl rfl) rfl rfl rfl rfl fun b112 hb112 => ?_
              cases b112 with
              | true =>
                replace h := brT hb112 h
                refine v0 (sPk rfl [] rfl rfl) rfl ?_
                refine v0 (sM rfl [] rfl) rfl ?_
                refine uP rfl rfl rfl rfl ?_
                refine uP rfl rfl rfl rfl ?_
                refine v0 (sPk rfl [] rfl rfl) rfl ?_
                refine ve ?_
                refine W2 [1, 7, 8, 50] [] [] (l := [(1, .c (.int _ _)), (7, .c (.int _ _)), (8, .c (.int _ _)), (50, .c (.bool true))]) (h := []) (h' := []) trivial rfl rfl rfl ?_
                refine W_true rfl ?_
                refine W_exit (ex_then (ex_miss rfl (ex_then (ex_then (ex_hit ?_)))))
                refine W_seq ?_
                refine W_regV he rfl ?_
                refine v0 (sA rfl [] rfl) rfl ?_
                refine v0 (sA rfl [] rfl) rfl ?_
                refine v0 (sA rfl [] rfl) rfl ?_
                refine ve ?_
                refine W2 [4, 5, 6] [] [] (l := [(4, .c (.int _ _)), (5, .c (.int _ _)), (6, .c (.bool false))]) (h := []) (h' := []) trivial rfl rfl rfl ?_
                obtain rfl := Option.some.inj h
                exact W_ret (r0 rfl rfl)
              | false =>
                replace h := brF hb112 h
                refine v0 (sPk rfl [] rfl rfl) rfl ?_
                refine v0 (sM rfl [] rfl) rfl ?_
                refine u0 (sM rfl [] rfl) rfl rfl rfl ?_
                refine uB (sBi rfl rfl rfl rfl) rfl rfl rfl rfl fun b113 hb113 => ?_
                cases b113 with
                | true =>
                  replace h := brT hb113 h
                  refine v0 (sPk rfl [] rfl rfl) rfl ?_
                  refine ve ?_
                  refine W2 [1, 7, 8, 50] [] [] (l := [(1, .c (.int _ _)), (7, .c (.int _ _)), (8, .c (.int _ _)), (50, .c (.bool true))]) (h := []) (h' := []) trivial rfl rfl rfl ?_
                  refine W_true rfl ?_
                  refine W_exit (ex_then (ex_miss rfl (ex_then (ex_then (ex_hit ?_)))))
                  refine W_seq ?_
                  refine W_regV he rfl ?_
                  refine v0 (sA rfl [] rfl) rfl ?_
                  refine v0 (sA rfl [] rfl) rfl ?_
                  refine v0 (sA rfl [] rfl) rfl ?_
                  refine ve ?_
                  refine W2 [4, 5, 6] [] [] (l := [(4, .c (.int _ _)), (5, .c (.int _ _)), (6, .c (.bool false))]) (h := []) (h' := []) trivial rfl rfl rfl ?_
                  obtain rfl := Option.some.inj h
                  exact W_ret (r0 rfl rfl)
                | false =>
                  replace h := brF hb113 h
                  refine v0 (sPk rfl [] rfl rfl) rfl ?_
                  refine ve ?_
                  refine W2 [1, 7, 8, 50] [] [] (l := [(1, .c (.int _ _)), (7, .c (.int _ _)), (8, .c (.int _ _)), (50, .c (.bool false))]) (h := []) (h' := []) trivial rfl rfl rfl ?_
                  refine W_false rfl ?_
                  refine W_skip ?_
                  exact ⟨_, wk2 [1, 7, 8] [] [] (l := [(1, .c (.int _ _)), (7, .c (.int _ _)), (8, .c (.int _ _))]) (h := []) (h' := []) trivial rfl rfl rfl, rfl, h⟩
            | false =>
              replace h := brF hb111 h
              refine v0 (sM rfl [] rfl) rfl ?_
              refine uP rfl rfl rfl rfl ?_
              refine uP rfl rfl rfl rfl ?_
              refine v0 (sPk rfl [] rfl rfl) rfl ?_
              refine v0 (sM rfl [] rfl) rfl ?_
              refine u0 (sM rfl [] rfl) rfl rfl rfl ?_
              refine uB (sBi rfl rfl rfl rfl) rfl rfl rfl rfl fun b114 hb114 => ?_
              cases b114 with
              | true =>
                replace h := brT hb114 h
                refine v0 (sPk rfl [] rfl rfl) rfl ?_
                refine ve ?_
                refine W2 [1, 7, 8, 50] [] [] (l := [(1, .c (.int _ _)), (7, .c (.int _ _)), (8, .c (.int _ _)), (50, .c (.bool true))]) (h := []) (h' := []) trivial rfl rfl rfl ?_
                refine W_true rfl ?_
                refine W_exit (ex_then (ex_miss rfl (ex_then (ex_then (ex_hit ?_)))))
                refine W_seq ?_
                refine W_regV he rfl ?_
                refine v0 (sA rfl [] rfl) rfl ?_
                refine v0 (sA rfl [] rfl) rfl ?_
                refine v0 (sA rfl [] rfl) rfl ?_
                refine ve ?_
                refine W2 [4, 5, 6] [] [] (l := [(4, .c (.int _ _)), (5, .c (.int _ _)), (6, .c (.bool false))]) (h := []) (h' := []) trivial rfl rfl rfl ?_
                obtain rfl := Option.some.inj h
                exact W_ret (r0 rfl rfl)
              | false =>
                replace h := brF hb114 h
                refine v0 (sPk rfl [] rfl rfl) rfl ?_
                refine ve ?_
                refine W2 [1, 7, 8, 50] [] [] (l := [(1, .c (.int _ _)), (7, .c (.int _ _)), (8, .c (.int _ _)), (50, .c (.bool false))]) (h := []) (h' := []) trivial rfl rfl rfl ?_
                refine W_false rfl ?_
                refine W_skip ?_
                exact ⟨_, wk2 [1, 7, 8] [] [] (l := [(1, .c (.int _ _)), (7, .c (.int _ _)), (8, .c (.int _ _))]) (h := []) (h' := []) trivial rfl rfl rfl, rfl, h⟩
        | false =>
          replace h := brF hb9 h
          refine ve ?_
          refine W2 [0, 1, 7, 8, 9, 20, 21, 40] [] [] (l := [(0, .c (.row _ _ _)), (1, .c (.int _ _)), (7, .c (.int _ _)), (8, .c (.int _ _)), (9, .c (.int _ _)), (20, .c (.int _ _)), (21, .c (.int _ _)), (40, .c (.bool false))]) (h := []) (h' := []) trivial rfl rfl rfl ?_
          refine W_false rfl ?_
          refine W_skip ?_
          refine W_regV he rfl ?_
          refine v0 (sBi rfl rfl rfl rfl) rfl ?_
          refine v0 (sM rfl [] rfl) rfl ?_
          refine ve ?_
          exact ⟨n5, _, Nat.lt_succ_self n5, wk2 [0, 1, 7, 20, 21] [] [] (l := [(0, .c (.row _ _ _)), (1, .c (.int _ _)), (7, .c (.int _ _)), (20, .c (.int _ _)), (21, .c (.int _ _))]) (h := []) (h' := []) trivial rfl rfl rfl, _, _, rfl, h⟩
      | false =>
        replace h := brF hb6 h
        refine ve ?_
        refine W2 [0, 1, 7, 20, 21, 22] [] [] (l := [(0, .c (.row _ _ _)), (1, .c (.int _ _)), (7, .c (.int _ _)), (20, .c (.int _ _)), (21, .c (.int _ _)), (22, .c (.bool false))]) (h := []) (h' := []) trivial rfl rfl rfl ?_
        refine W_seq ?_
        refine W_false rfl ?_
        refine W_exit (ex_then (ex_then (ex_hit ?_)))
        refine W_seq ?_
        refine W_regV he rfl ?_
        refine v0 (sA rfl [] rfl) rfl ?_
        refine v0 (sA rfl [] rfl) rfl ?_
        refine v0 (sA rfl [] rfl) rfl ?_
        refine ve ?_
        refine W2 [4, 5, 6] [] [] (l := [(4, .c (.int _ _)), (5, .c (.int _ _)), (6, .c (.bool false))]) (h := []) (h' := []) trivial rfl rfl rfl ?_
        obtain rfl := Option.some.inj h
        exact W_ret (r0 rfl rfl)
  | false =>
    replace h := brF hb2 h
    refine v0 (sNt rfl rfl) rfl ?_
    refine ve ?_
    refine W2 [0, 1, 15] [] [] (l := [(0, .c (.row _ _ _)), (1, .c (.int _ _)), (15, .c (.bool true))]) (h := []) (h' := []) trivial rfl rfl rfl ?_
    refine W_true rfl ?_
    refine W_seq ?_
    refine W_regV he rfl ?_
    refine v0 (sA rfl [] rfl) rfl ?_
    refine v0 (sA rfl [] rfl) rfl ?_
    refine v0 (sA rfl [] rfl) rfl ?_
    refine ve ?_
    refine W2 [4, 5, 6] [] [] (l := [(4, .c (.int _ _)), (5, .c (.int _ _)), (6, .c (.bool false))]) (h := []) (h' := []) trivial rfl rfl rfl ?_
    obtain rfl := Option.some.inj h
    exact W_ret (r0 rfl rfl)
theorem ok_impl_GetVar : FnOk Try.prog 22 := ⟨_, Try.func22, rfl, rfl⟩


/-! ### loop.example/g00499/spec.GetVar -/
def j_spec_GetVar_10 (K : Nat) (a0 : List Int) (a1 : Int) (v1 : Int) (v2 : Int) : Option (Int × Int × Bool) := some ((iOr .i64 v1 (iShl .i64 (iAnd .i64 (IntKind.i64.wrap (gt a0 (iAdd .i64 a1 v2))) 127) (iMul .i64 7 v2))), (iAdd .i64 (iAdd .i64 a1 v2) 1), true)
def l_spec_GetVar_3 (K : Nat) (a0 : List Int) (a1 : Int) : Nat → Int → Int → Option (Int × Int × Bool)
  | 0, _, _ => none
  | n3 + 1, v1, v2 => (bif (decide (v2 < 5)) then (bif (decide (a1 < 0)) then some (0, 0, false) else (bif (decide (a1 ≥ (iSub .i64 (a0.length : Int) v2))) then some (0, 0, false) else (if (0 : Int) ≤ (iAdd .i64 a1 v2) ∧ (iAdd .i64 a1 v2) < (a0.length : Int) then (if (0 : Int) ≤ (iMul .i64 7 v2) then (bif (decide ((IntKind.i64.wrap (gt a0 (iAdd .i64 a1 v2))) < 128)) then (bif ((IntKind.i64.wrap (gt a0 (iAdd .i64 a1 v2))) == 0) then (bif (decide (v2 > 0)) then some (0, 0, false) else (bif (decide ((iOr .i64 v1 (iShl .i64 (iAnd .i64 (IntKind.i64.wrap (gt a0 (iAdd .i64 a1 v2))) 127) (iMul .i64 7 v2))) > 1000000000)) then some (0, 0, false) else j_spec_GetVar_10 K a0 a1 v1 v2 )) else (bif (decide ((iOr .i64 v1 (iShl .i64 (iAnd .i64 (IntKind.i64.wrap (gt a0 (iAdd .i64 a1 v2))) 127) (iMul .i64 7 v2))) > 1000000000)) then some (0, 0, false) else j_spec_GetVar_10 K a0 a1 v1 v2 )) else (l_spec_GetVar_3 K a0 a1 n3 (iOr .i64 v1 (iShl .i64 (iAnd .i64 (IntKind.i64.wrap (gt a0 (iAdd .i64 a1 v2))) 127) (iMul .i64 7 v2))) (iAdd .i64 v2 1))) else none) else none))) else some (0, 0, false))
def m_spec_GetVar (K : Nat) (a0 : List Int) (a1 : Int) : Option (Int × Int × Bool) := (l_spec_GetVar_3 K a0 a1 K 0 0)
set_option maxRecDepth 20000 in
set_option maxHeartbeats 8000000 in
theorem w_spec_GetVar (K : Nat) (a0 : List Int) (a1 : Int) (r : Int × Int × Bool) (h : m_spec_GetVar K a0 a1 = some r) : Sp Try.prog 20 [.c (.row false 1 (a0.map en_u8)), .c (.int .i64 a1)] [] (.t [.c (.int .i64 r.1), .c (.int .i64 r.2.1), .c (.bool r.2.2)]) [] := by
  refine Sp.of_W tabOk Try.func20 rfl rfl (Nat.le_of_ble_eq_true rfl) (Nat.le_of_ble_eq_true rfl) fun F hP hN hm => ?_
  obtain ⟨P, N, w0, σ0, β0, m⟩ := F
  obtain rfl : P = Try.prog := hP
  obtain rfl : N = 55 := hN
  obtain rfl : m = 1 := hm
  have he : Env ⟨Try.prog, 55, w0, σ0, β0, 1⟩ tab := ⟨Nat.le_of_ble_eq_true rfl, tabOk⟩
  unfold m_spec_GetVar at h
  refine W_seq ?_
  refine W_regV he rfl ?_
  refine v0 (sA rfl [] rfl) rfl ?_
  refine v0 (sA rfl [] rfl) rfl ?_
  refine v0 (sA rfl [] rfl) rfl ?_
  refine ve ?_
  refine W2 [0, 1] [] [] (l := [(0, .c (.row _ _ _)), (1, .c (.int _ _))]) (h := []) (h' := []) trivial rfl rfl rfl ?_
  refine W_seq ?_
  refine W_regV he rfl ?_
  refine v0 (sA rfl [] rfl) rfl ?_
  refine ve ?_
  refine W2 [0, 1, 7] [] [] (l := [(0, .c (.row _ _ _)), (1, .c (.int _ _)), (7, .c (.int _ _))]) (h := []) (h' := []) trivial rfl rfl rfl ?_
  refine W_seq ?_
  refine W_seq ?_
  refine W_regV he rfl ?_
  refine v0 (sA rfl [] rfl) rfl ?_
  refine ve ?_
  refine W2 [0, 1, 7, 8] [] [] (l := [(0, .c (.row _ _ _)), (1, .c (.int _ _)), (7, .c (.int _ _)), (8, .c (.int _ _))]) (h := []) (h' := []) trivial rfl rfl rfl ?_
  refine W_block ?_
  refine W2 [0, 1, 7, 8] [] [] (l := [(0, .c (.row _ _ _)), (1, .c (.int _ _)), (7, .c (.int _ _)), (8, .c (.int _ _))]) (h := []) (h' := []) trivial rfl rfl rfl ?_
  refine W_loopW (fun n3 S => ∃ (v1 : Int), ∃ (v2 : Int), S = StL [(0, .c (.row false 1 (a0.map en_u8))), (1, .c (.int .i64 a1)), (7, .c (.int .i64 v1)), (8, .c (.int .i64 v2))] ([] ++ []) ∧ l_spec_GetVar_3 K a0 a1 n3 v1 v2 = some r) K ⟨_, _, rfl, h⟩ ?_
  rintro n3 S ⟨v1, v2, rfl, h⟩
  cases n3 with
  | zero => simp [l_spec_GetVar_3] at h
  | succ n3 =>
    rw [l_spec_GetVar_3] at h
    refine W_seq ?_
    refine W_seq ?_
    refine W_regV he rfl ?_
    refine v0 (sM rfl [] rfl) rfl ?_
    refine vB (sBi rfl rfl rfl rfl) rfl rfl fun b4 hb4 => ?_
    cases b4 with
    | true =>
      replace h := brT hb4 h
      refine ve ?_
      refine W2 [0, 1, 7, 8, 11] [] [] (l := [(0, .c (.row _ _ _)), (1, .c (.int _ _)), (7, .c (.int _ _)), (8, .c (.int _ _)), (11, .c (.bool true))]) (h := []) (h' := []) trivial rfl rfl rfl ?_
      refine W_true rfl ?_
      refine W_skip ?_
      refine W_seq ?_
      refine W_block ?_
      refine W_seq ?_
      refine W_seq ?_
      refine W_regV he rfl ?_
      refine v0 (sM rfl [] rfl) rfl ?_
      refine vB (sBi rfl rfl rfl rfl) rfl rfl fun b5 hb5 => ?_
      cases b5 with
      | true =>
        replace h := brT hb5 h
        refine v0 (sM rfl [] rfl) rfl ?_
        refine uP rfl rfl rfl rfl ?_
        refine uP rfl rfl rfl rfl ?_
        refine uP rfl rfl rfl rfl ?_
        refine uP rfl rfl rfl rfl ?_
        refine uP rfl rfl rfl rfl ?_
        refine uP rfl rfl rfl rfl ?_
        refine v0 (sPk rfl [] rfl rfl) rfl ?_
        refine ve ?_
        refine W2 [0, 1, 7, 8, 23] [] [] (l := [(0, .c (.row _ _ _)), (1, .c (.int _ _)), (7, .c (.int _ _)), (8, .c (.int _ _)), (23, .c (.bool true))]) (h := []) (h' := []) trivial rfl rfl rfl ?_
        refine W_true rfl ?_
        refine W_seq ?_
        refine W_regV he rfl ?_
        refine v0 (sA rfl [] rfl) rfl ?_
        refine v0 (sA rfl [] rfl) rfl ?_
        refine v0 (sA rfl [] rfl) rfl ?_
        refine ve ?_
        refine W2 [4, 5, 6] [] [] (l := [(4, .c (.int _ _)), (5, .c (.int _ _)), (6, .c (.bool false))]) (h := []) (h' := []) trivial rfl rfl rfl ?_
        obtain rfl := Option.some.inj h
        exact W_ret (r0 rfl rfl)
      | false =>
        replace h := brF hb5 h
        refine v0 (sM rfl [] rfl) rfl ?_
        refine u0 (sM rfl [] rfl) rfl rfl rfl ?_
        refine u0 (sM rfl [] rfl) rfl rfl rfl ?_
        refine u0 (sLm rfl rfl rfl rfl) rfl rfl rfl ?_
        refine u0 (sM rfl [] rfl) rfl rfl rfl ?_
        refine u0 (sBi rfl rfl rfl rfl) rfl rfl rfl ?_
        refine uB (sBi rfl rfl rfl rfl) rfl rfl rfl rfl fun b6 hb6 => ?_
        cases b6 with
        | true =>
          replace h := brT hb6 h
          refine v0 (sPk rfl [] rfl rfl) rfl ?_
          refine ve ?_
          refine W2 [0, 1, 7, 8, 23] [] [] (l := [(0, .c (.row _ _ _)), (1, .c (.int _ _)), (7, .c (.int _ _)), (8, .c (.int _ _)), (23, .c (.bool true))]) (h := []) (h' := []) trivial rfl rfl rfl ?_
          refine W_true rfl ?_
          refine W_seq ?_
          refine W_regV he rfl ?_
          refine v0 (sA rfl [] rfl) rfl ?_
          refine v0 (sA rfl [] rfl) rfl ?_
          refine v0 (sA rfl [] rfl) rfl ?_
          refine ve ?_
          refine W2 [4, 5, 6] [] [] (l := [(4, .c (.int _ _)), (5, .c (.int _ _)), (6, .c (.bool false))]) (h := []) (h' := []) trivial rfl rfl rfl ?_
          obtain rfl := Option.some.inj h
          exact W_ret (r0 rfl rfl)
        | false =>
          replace h := brF hb6 h
          refine v0 (sPk rfl [] rfl rfl) rfl ?_
          refine ve ?_
          refine W2 [0, 1, 7, 8, 23] [] [] (l := [(0, .c (.row _ _ _)), (1, .c (.int _ _)), (7, .c (.int _ _)), (8, .c (.int _ _)), (23, .c (.bool false))]) (h := []) (h' := []) trivial rfl rfl rfl ?_
          refine W_false rfl ?_
          refine W_skip ?_
          refine W_seq ?_
          refine W_regV he rfl ?_
          refine v0 (sM rfl [] rfl) rfl ?_
          refine v0 (sM rfl [] rfl) rfl ?_
          refine v0 (sM rfl [] rfl) rfl ?_
          refine v0 (sBi rfl rfl rfl rfl) rfl ?_
          refine chkc h ?_; clear h; intro c7 h
          refine v0 (sIRm rfl rfl rfl rfl c7) rfl ?_
          refine v0 (sLI rfl rfl (en_u8 (gt a0 (iAdd .i64 a1 v2))) (gt_at _ c7) rfl rfl rfl) rfl ?_
          refine v0 (sCv rfl rfl rfl rfl rfl rfl) rfl ?_
          refine v0 (sA rfl [] rfl) rfl ?_
          refine ve ?_
          refine W2 [0, 1, 7, 8, 9] [] [] (l := [(0, .c (.row _ _ _)), (1, .c (.int _ _)), (7, .c (.int _ _)), (8, .c (.int _ _)), (9, .c (.int _ _))]) (h := []) (h' := []) trivial rfl rfl rfl ?_
          refine W_seq ?_
          refine W_regV he rfl ?_
          refine v0 (sM rfl [] rfl) rfl ?_
          refine v0 (sM rfl [] rfl) rfl ?_
          refine v0 (sBi rfl rfl rfl rfl) rfl ?_
          refine v0 (sM rfl [] rfl) rfl ?_
          refine v0 (sBi rfl rfl rfl rfl) rfl ?_
          refine chkc h ?_; clear h; intro c8 h
          refine v0 (sSh rfl rfl rfl c8) rfl ?_
          refine v0 (sBi rfl rfl rfl rfl) rfl ?_
          refine v0 (sA rfl [] rfl) rfl ?_
          refine ve ?_
          refine W2 [0, 1, 7, 8, 9] [] [] (l := [(0, .c (.row _ _ _)), (1, .c (.int _ _)), (7, .c (.int _ _)), (8, .c (.int _ _)), (9, .c (.int _ _))]) (h := []) (h' := []) trivial rfl rfl rfl ?_
          refine W_seq ?_
          refine W_regV he rfl ?_
          refine v0 (sM rfl [] rfl) rfl ?_
          refine vB (sBi rfl rfl rfl rfl) rfl rfl fun b9 hb9 => ?_
          cases b9 with
          | true =>
            replace h := brT hb9 h
            refine ve ?_
            refine W2 [0, 1, 7, 8, 9, 39] [] [] (l := [(0, .c (.row _ _ _)), (1, .c (.int _ _)), (7, .c (.int _ _)), (8, .c (.int _ _)), (9, .c (.int _ _)), (39, .c (.bool true))]) (h := []) (h' := []) trivial rfl rfl rfl ?_
            refine W_true rfl ?_
            refine W_join (fun S => S = StL [(1, .c (.int .i64 a1)), (7, .c (.int .i64 (iOr .i64 v1 (iShl .i64 (iAnd .i64 (IntKind.i64.wrap (gt a0 (iAdd .i64 a1 v2))) 127) (iMul .i64 7 v2))))), (8, .c (.int .i64 v2))] ([] ++ []) ∧ j_spec_GetVar_10 K a0 a1 v1 v2  = some r) ?_ ?_
            · rintro S ⟨rfl, h⟩
              unfold j_spec_GetVar_10 at h
              refine W_seq ?_
              refine W_regV he rfl ?_
              refine v0 (sM rfl [] rfl) rfl ?_
              refine v0 (sM rfl [] rfl) rfl ?_
              refine v0 (sM rfl [] rfl) rfl ?_
              refine v0 (sBi rfl rfl rfl rfl) rfl ?_
              refine v0 (sBi rfl rfl rfl rfl) rfl ?_
              refine v0 (sA rfl [] rfl) rfl ?_
              refine v0 (sA rfl [] rfl) rfl ?_
              refine v0 (sA rfl [] rfl) rfl ?_
              refine ve ?_
              refine W2 [4, 5, 6] [] [] (l := [(4, .c (.int _ _)), (5, .c (.int _ _)), (6, .c (.bool true))]) (h := []) (h' := []) trivial rfl rfl rfl ?_
              obtain rfl := Option.some.inj h
              exact W_ret (r0 rfl rfl)
            ·
              refine W_seq ?_
              refine W_regV he rfl ?_
              refine v0 (sM rfl [] rfl) rfl ?_
              refine vB (sBi rfl rfl rfl rfl) rfl rfl fun b111 hb111 => ?_
              cases b111 with
              | true =>
                replace h := brT hb111 h
                refine v0 (sM rfl [] rfl) rfl ?_
                refine u0 (sM rfl [] rfl) rfl rfl rfl ?_
                refine uB (sBi rfl rfl rfl rfl) rfl rfl rfl rfl fun b112 hb112 => ?_
                cases b112 with
                | true =>
                  replace h := brT hb112 h
                  refine v0 (sPk rfl [] rfl rfl) rfl ?_
                  refine v0 (sM rfl [] rfl) rfl ?_
                  refine uP rfl rfl rfl rfl ?_
                  refine uP rfl rfl rfl rfl ?_
                  refine v0 (sPk rfl [] rfl rfl) rfl ?_
                  refine ve ?_
                  refine W2 [1, 7, 8, 49] [] [] (l := [(1, .c (.int _ _)), (7, .c (.int _ _)), (8, .c (.int _ _)), (49, .c (.bool true))]) (h := []) (h' := []) trivial rfl rfl rfl ?_
                  refine W_true rfl ?_
                  refine W_seq ?_
                  refine W_regV he rfl ?_
                  refine v0 (sA rfl [] rfl) rfl ?_
                  refine v0 (sA rfl [] rfl) rfl ?_
                  refine v0 (sA rfl [] rfl) rfl ?_
                  refine ve ?_
                  refine W2 [4, 5, 6] [] [] (l := [(4, .c (.int _ _)), (5, .c (.int _ _)), (6, .c (.bool false))]) (h := []) (h' := []) trivial rfl rfl rfl ?_
                  obtain rfl := Option.some.inj h
                  exact W_ret (r0 rfl rfl)
                | false =>
                  replace h := brF hb112 h
                  refine v0 (sPk rfl [] rfl rfl) rfl ?_
                  refine v0 (sM rfl [] rfl) rfl ?_
                  refine u0 (sM rfl [] rfl) rfl rfl rfl ?_
                  refine uB (sBi rfl rfl rfl rfl) rfl rfl rfl rfl fun b113 hb113 => ?_
                  cases b113 with
                  | true =>
                    replace h := brT hb113 h
                    refine v0 (sPk rfl [] rfl rfl) rfl ?_
                    refine ve ?_
                    refine W2 [1, 7, 8, 49] [] [] (l := [(1, .c (.int _ _)), (7, .c (.int _ _)), (8, .c (.int _ _)), (49, .c (.bool true))]) (h := []) (h' := []) trivial rfl rfl rfl ?_
                    refine W_true rfl ?_
                    refine W_seq ?_
                    refine W_regV he rfl ?_
                    refine v0 (sA rfl [] rfl) rfl ?_
                    refine v0 (sA rfl [] rfl) rfl ?_
                    refine v0 (sA rfl [] rfl) rfl ?_
                    refine ve ?_
                    refine W2 [4, 5, 6] [] [] (l := [(4, .c (.int _ _)), (5, .c (.int _ _)), (6, .c (.bool false))]) (h := []) (h' := []) trivial rfl rfl rfl ?_
                    obtain rfl := Option.some.inj h
                    exact W_ret (r0 rfl rfl)
                  | false =>
                    replace h := brF hb113 h
                    refine v0 (sPk rfl [] rfl rfl) rfl ?_
                    refine ve ?_
                    refine W2 [1, 7, 8, 49] [] [] (l := [(1, .c (.int _ _)), (7, .c (.int _ _)), (8, .c (.int _ _)), (49, .c (.bool false))]) (h := []) (h' := []) trivial rfl rfl rfl ?_
                    refine W_false rfl ?_
                    refine W_skip ?_
                    exact ⟨_, wk2 [1, 7, 8] [] [] (l := [(1, .c (.int _ _)), (7, .c (.int _ _)), (8, .c (.int _ _))]) (h := []) (h' := []) trivial rfl rfl rfl, rfl, h⟩
              | false =>
                replace h := brF hb111 h
                refine v0 (sM rfl [] rfl) rfl ?_
                refine uP rfl rfl rfl rfl ?_
                refine uP rfl rfl rfl rfl ?_
                refine v0 (sPk rfl [] rfl rfl) rfl ?_
                refine v0 (sM rfl [] rfl) rfl ?_
                refine u0 (sM rfl [] rfl) rfl rfl rfl ?_
                refine uB (sBi rfl rfl rfl rfl) rfl rfl rfl rfl fun b114 hb114 => ?_
                cases b114 with
                | true =>
                  replace h := brT hb114 h
                  refine v0 (sPk rfl [] rfl rfl) rfl ?_
                  refine ve ?_
                  refine W2 [1, 7, 8, 49] [] [] (l := [(1, .c (.int _ _)), (7, .c (.int _ _)), (8, .c (.int _ _)), (49, .c (.bool true))]) (h := []) (h' := []) trivial rfl rfl rfl ?_
                  refine W_true rfl ?_
                  refine W_seq ?_
                  refine W_regV he rfl ?_
                  refine v0 (sA rfl [] rfl) rfl ?_
                  refine v0 (sA rfl [] rfl) rfl ?_
                  refine v0 (sA rfl [] rfl) rfl ?_
                  refine ve ?_
                  refine W2 [4, 5, 6] [] [] (l := [(4, .c (.int _ _)), (5, .c (.int _ _)), (6, .c (.bool false))]) (h := []) (h' := []) trivial rfl rfl rfl ?_
                  obtain rfl := Option.some.inj h
                  exact W_ret (r0 rfl rfl)
                | false =>
                  replace h := brF hb114 h
                  refine v0 (sPk rfl [] rfl rfl) rfl ?_
                  refine ve ?_
                  refine W2 [1, 7, 8, 49] [] [] (l := [(1, .c (.int _ _)), (7, .c (.int _ _)), (8, .c (.int _ _)), (49, .c (.bool false))]) (h := []) (h' := []) trivial rfl rfl rfl ?_
                  refine W_false rfl ?_
                  refine W_skip ?_
                  exact ⟨_, wk2 [1, 7, 8] [] [] (l := [(1, .c (.int _ _)), (7, .c (.int _ _)), (8, .c (.int _ _))]) (h := []) (h' := []) trivial rfl rfl rfl, rfl, h⟩
          | false =>
            replace h := brF hb9 h
            refine ve ?_
            refine W2 [0, 1, 7, 8, 9, 39] [] [] (l := [(0, .c (.row _ _ _)), (1, .c (.int _ _)), (7, .c (.int _ _)), (8, .c (.int _ _)), (9, .c (.int _ _)), (39, .c (.bool false))]) (h := []) (h' := []) trivial rfl rfl rfl ?_
            refine W_false rfl ?_
            refine W_skip ?_
            refine W_regV he rfl ?_
            refine v0 (sM rfl [] rfl) rfl ?_
            refine v0 (sBi rfl rfl rfl rfl) rfl ?_
            refine v0 (sA rfl [] rfl) rfl ?_
            refine ve ?_
            exact ⟨n3, _, Nat.lt_succ_self n3, wk2 [0, 1, 7, 8] [] [] (l := [(0, .c (.row _ _ _)), (1, .c (.int _ _)), (7, .c (.int _ _)), (8, .c (.int _ _))]) (h := []) (h' := []) trivial rfl rfl rfl, _, _, rfl, h⟩
    | false =>
      replace h := brF hb4 h
      refine ve ?_
      refine W2 [0, 1, 7, 8, 11] [] [] (l := [(0, .c (.row _ _ _)), (1, .c (.int _ _)), (7, .c (.int _ _)), (8, .c (.int _ _)), (11, .c (.bool false))]) (h := []) (h' := []) trivial rfl rfl rfl ?_
      refine W_false rfl ?_
      refine W_exit (ex_then (ex_then (ex_hit ?_)))
      refine W_seq ?_
      refine W_regV he rfl ?_
      refine v0 (sA rfl [] rfl) rfl ?_
      refine v0 (sA rfl [] rfl) rfl ?_
      refine v0 (sA rfl [] rfl) rfl ?_
      refine ve ?_
      refine W2 [4, 5, 6] [] [] (l := [(4, .c (.int _ _)), (5, .c (.int _ _)), (6, .c (.bool false))]) (h := []) (h' := []) trivial rfl rfl rfl ?_
      obtain rfl := Option.some.inj h
      exact W_ret (r0 rfl rfl)
theorem ok_spec_GetVar : FnOk Try.prog 20 := ⟨_, Try.func20, rfl, rfl⟩


/-! ### loop.example/g00499/laws.same -/
def l_laws_same_3 (K : Nat) (a0 : List Int) (a1 : List Int) : Nat → Int → Option (Bool)
  | 0, _ => none
  | n3 + 1, v2 => (bif (decide (v2 < (a0.length : Int))) then (if (0 : Int) ≤ v2 ∧ v2 < (a0.length : Int) then (if (0 : Int) ≤ v2 ∧ v2 < (a1.length : Int) then (bif ((gt a0 v2) != (gt a1 v2)) then some false else (l_laws_same_3 K a0 a1 n3 (iAdd .i64 v2 1))) else none) else none) else some true)
def m_laws_same (K : Nat) (a0 : List Int) (a1 : List Int) : Option (Bool) := (bif ((a0.length : Int) != (a1.length : Int)) then some false else (l_laws_same_3 K a0 a1 K 0))
set_option maxRecDepth 20000 in
set_option maxHeartbeats 8000000 in
theorem w_laws_same (K : Nat) (a0 : List Int) (a1 : List Int) (r : Bool) (h : m_laws_same K a0 a1 = some r) : Sp Try.prog 45 [.c (.row false 1 (a0.map en_u8)), .c (.row false 1 (a1.map en_u8))] [] (.c (.bool r)) [] := by
  refine Sp.of_W tabOk Try.func45 rfl rfl (Nat.le_of_ble_eq_true rfl) (Nat.le_of_ble_eq_true rfl) fun F hP hN hm => ?_
  obtain ⟨P, N, w0, σ0, β0, m⟩ := F
  obtain rfl : P = Try.prog := hP
  obtain rfl : N = 26 := hN
  obtain rfl : m = 1 := hm
  have he : Env ⟨Try.prog, 26, w0, σ0, β0, 1⟩ tab := ⟨Nat.le_of_ble_eq_true rfl, tabOk⟩
  unfold m_laws_same at h
  refine W_seq ?_
  refine W_regV he rfl ?_
  refine v0 (sA rfl [] rfl) rfl ?_
  refine ve ?_
  refine W2 [0, 1] [] [] (l := [(0, .c (.row _ _ _)), (1, .c (.row _ _ _))]) (h := []) (h' := []) trivial rfl rfl rfl ?_
  refine W_seq ?_
  refine W_seq ?_
  refine W_regV he rfl ?_
  refine v0 (sM rfl [] rfl) rfl ?_
  refine v0 (sLm rfl rfl rfl rfl) rfl ?_
  refine v0 (sM rfl [] rfl) rfl ?_
  refine v0 (sLm rfl rfl rfl rfl) rfl ?_
  refine vB (sBi rfl rfl rfl rfl) rfl rfl fun b1 hb1 => ?_
  cases b1 with
  | true =>
    replace h := brT hb1 h
    refine ve ?_
    refine W2 [0, 1, 10] [] [] (l := [(0, .c (.row _ _ _)), (1, .c (.row _ _ _)), (10, .c (.bool true))]) (h := []) (h' := []) trivial rfl rfl rfl ?_
    refine W_true rfl ?_
    refine W_seq ?_
    refine W_regV he rfl ?_
    refine v0 (sA rfl [] rfl) rfl ?_
    refine ve ?_
    refine W2 [4] [] [] (l := [(4, .c (.bool false))]) (h := []) (h' := []) trivial rfl rfl rfl ?_
    obtain rfl := Option.some.inj h
    exact W_ret (r0 rfl rfl)
  | false =>
    replace h := brF hb1 h
    refine ve ?_
    refine W2 [0, 1, 10] [] [] (l := [(0, .c (.row _ _ _)), (1, .c (.row _ _ _)), (10, .c (.bool false))]) (h := []) (h' := []) trivial rfl rfl rfl ?_
    refine W_false rfl ?_
    refine W_skip ?_
    refine W_seq ?_
    refine W_seq ?_
    refine W_regV he rfl ?_
    refine v0 (sA rfl [] rfl) rfl ?_
    refine ve ?_
    refine W2 [0, 1, 5] [] [] (l := [(0, .c (.row _ _ _)), (1, .c (.row _ _ _)), (5, .c (.int _ _))]) (h := []) (h' := []) trivial rfl rfl rfl ?_
    refine W_block ?_
    refine W2 [0, 1, 5] [] [] (l := [(0, .c (.row _ _ _)), (1, .c (.row _ _ _)), (5, .c (.int _ _))]) (h := []) (h' := []) trivial rfl rfl rfl ?_
    refine W_loopW (fun n3 S => ∃ (v2 : Int), S = StL [(0, .c (.row false 1 (a0.map en_u8))), (1, .c (.row false 1 (a1.map en_u8))), (5, .c (.int .i64 v2))] ([] ++ []) ∧ l_laws_same_3 K a0 a1 n3 v2 = some r) K ⟨_, rfl, h⟩ ?_
    rintro n3 S ⟨v2, rfl, h⟩
    cases n3 with
    | zero => simp [l_laws_same_3] at h
    | succ n3 =>
      rw [l_laws_same_3] at h
      refine W_seq ?_
      refine W_seq ?_
      refine W_regV he rfl ?_
      refine v0 (sM rfl [] rfl) rfl ?_
      refine v0 (sM rfl [] rfl) rfl ?_
      refine v0 (sLm rfl rfl rfl rfl) rfl ?_
      refine vB (sBi rfl rfl rfl rfl) rfl rfl fun b4 hb4 => ?_
      cases b4 with
      | true =>
        replace h := brT hb4 h
        refine ve ?_
        refine W2 [0, 1, 5, 14] [] [] (l := [(0, .c (.row _ _ _)), (1, .c (.row _ _ _)), (5, .c (.int _ _)), (14, .c (.bool true))]) (h := []) (h' := []) trivial rfl rfl rfl ?_
        refine W_true rfl ?_
        refine W_skip ?_
        refine W_seq ?_
        refine W_block ?_
        refine W_seq ?_
        refine W_regD he rfl rfl rfl ?_
        refine g0 (sM rfl [] rfl) rfl ?_
        refine g0 (sM rfl [] rfl) rfl ?_
        refine chkc h ?_; clear h; intro c5 h
        refine g0 (sIRm rfl rfl rfl rfl c5) rfl ?_
        refine g0 (sLI rfl rfl (en_u8 (gt a0 v2)) (gt_at _ c5) rfl rfl rfl) rfl ?_
        refine g0 (sM rfl [] rfl) rfl ?_
        refine g0 (sM rfl [] rfl) rfl ?_
        refine chkc h ?_; clear h; intro c6 h
        refine g0 (sIRm rfl rfl rfl rfl c6) rfl ?_
        refine g0 (sLI rfl rfl (en_u8 (gt a1 v2)) (gt_at _ c6) rfl rfl rfl) rfl ?_
        refine gB (sBi rfl rfl rfl rfl) rfl rfl fun b7 hb7 => ?_
        cases b7 with
        | true =>
          replace h := brT hb7 h
          refine ge ⟨rfl, ?_⟩
          refine W2 [0, 1, 5, 25] [] [] (l := [(0, .c (.row _ _ _)), (1, .c (.row _ _ _)), (5, .c (.int _ _)), (25, .c (.bool true))]) (h := []) (h' := []) trivial rfl rfl rfl ?_
          refine W_true rfl ?_
          refine W_seq ?_
          refine W_regV he rfl ?_
          refine v0 (sA rfl [] rfl) rfl ?_
          refine ve ?_
          refine W2 [4] [] [] (l := [(4, .c (.bool false))]) (h := []) (h' := []) trivial rfl rfl rfl ?_
          obtain rfl := Option.some.inj h
          exact W_ret (r0 rfl rfl)
        | false =>
          replace h := brF hb7 h
          refine ge ⟨rfl, ?_⟩
          refine W2 [0, 1, 5, 25] [] [] (l := [(0, .c (.row _ _ _)), (1, .c (.row _ _ _)), (5, .c (.int _ _)), (25, .c (.bool false))]) (h := []) (h' := []) trivial rfl rfl rfl ?_
          refine W_false rfl ?_
          refine W_skip ?_
          refine W_regV he rfl ?_
          refine v0 (sM rfl [] rfl) rfl ?_
          refine v0 (sBi rfl rfl rfl rfl) rfl ?_
          refine v0 (sA rfl [] rfl) rfl ?_
          refine ve ?_
          exact ⟨n3, _, Nat.lt_succ_self n3, wk2 [0, 1, 5] [] [] (l := [(0, .c (.row _ _ _)), (1, .c (.row _ _ _)), (5, .c (.int _ _))]) (h := []) (h' := []) trivial rfl rfl rfl, _, rfl, h⟩
      | false =>
        replace h := brF hb4 h
        refine ve ?_
        refine W2 [0, 1, 5, 14] [] [] (l := [(0, .c (.row _ _ _)), (1, .c (.row _ _ _)), (5, .c (.int _ _)), (14, .c (.bool false))]) (h := []) (h' := []) trivial rfl rfl rfl ?_
        refine W_false rfl ?_
        refine W_exit (ex_then (ex_then (ex_hit ?_)))
        refine W_seq ?_
        refine W_regV he rfl ?_
        refine v0 (sA rfl [] rfl) rfl ?_
        refine ve ?_
        refine W2 [4] [] [] (l := [(4, .c (.bool true))]) (h := []) (h' := []) trivial rfl rfl rfl ?_
        obtain rfl := Option.some.inj h
        exact W_ret (r0 rfl rfl)
theorem ok_laws_same : FnOk Try.prog 45 := ⟨_, Try.func45, rfl, rfl⟩


/-! ### loop.example/g00499/laws.FnVars -/
def m_laws_FnVars (K : Nat) (a0 : List Int) : Option (Bool) := ((m_laws_big K a0).bind fun r1 => (bif r1 then some true else ((m_spec_DrawPutVar K a0).bind fun r3 => ((m_impl_PutVar K r3.1 r3.2).bind fun r4 => ((m_spec_DrawGetVar K a0).bind fun r5 => ((m_impl_GetVar K r5.1 r5.2).bind fun r6 => ((m_spec_GetVar K r5.1 r5.2).bind fun r7 => ((m_spec_PutVar K r3.1 r3.2).bind fun r8 => ((m_laws_same K r4 r8).bind fun r9 => (bif r9 then (bif (r6.1 != r7.1) then some false else (bif (r6.2.1 != r7.2.1) then some false else (bif (!(r6.2.2 == r7.2.2)) then some false else (bif (decide (r3.2 < 0)) then ((m_laws_same K r4 r3.1).bind fun r15 => some r15) else (bif (decide (r3.2 > 1000000000)) then ((m_laws_same K r4 r3.1).bind fun r17 => some r17) else (if (([] : List Int) ++ r4).length * 1 ≤ 140737488355328 ∧ (([] : List Int) ++ r4).length ≤ maxLen then (if ((([] : List Int) ++ r4) ++ ([200] : List Int)).length * 1 ≤ 140737488355328 ∧ ((([] : List Int) ++ r4) ++ ([200] : List Int)).length ≤ maxLen then ((m_impl_GetVar K ((([] : List Int) ++ r4) ++ ([200] : List Int)) (r3.1.length : Int)).bind fun r20 => (bif r20.2.2 then (bif (r20.1 == r3.2) then (bif (r20.2.1 == (r4.length : Int)) then (bif r6.2.2 then (if (0 : Int) ≤ 0 ∧ 0 ≤ r5.2 ∧ r5.2 ≤ (r5.1.length : Int) then ((m_impl_PutVar K ((r5.1.drop (0 : Int).toNat).take (r5.2 - 0).toNat) r6.1).bind fun r26 => (if (0 : Int) ≤ 0 ∧ 0 ≤ r6.2.1 ∧ r6.2.1 ≤ (r5.1.length : Int) then ((m_laws_same K r26 ((r5.1.drop (0 : Int).toNat).take (r6.2.1 - 0).toNat)).bind fun r28 => some r28) else none)) else none) else some true) else some false) else some false) else some false)) else none) else none)))))) else some false))))))))))
set_option maxRecDepth 20000 in
set_option maxHeartbeats 8000000 in
theorem w_laws_FnVars (K : Nat) (a0 : List Int) (r : Bool) (h : m_laws_FnVars K a0 = some r) : Sp Try.prog 11 [.c (.row false 1 (a0.map en_u8))] [] (.c (.bool r)) [] := by
  refine Sp.of_W tabOk Try.func11 rfl rfl (Nat.le_of_ble_eq_true rfl) (Nat.le_of_ble_eq_true rfl) fun F hP hN hm => ?_
  obtain ⟨P, N, w0, σ0, β0, m⟩ := F
  obtain rfl : P = Try.prog := hP
  obtain rfl : N = 115 := hN
  obtain rfl : m = 1 := hm
  have he : Env ⟨Try.prog, 115, w0, σ0, β0, 1⟩ tab := ⟨Nat.le_of_ble_eq_true rfl, tabOk⟩
  unfold m_laws_FnVars at h
  refine W_seq ?_
  refine W_regV he rfl ?_
  refine v0 (sA rfl [] rfl) rfl ?_
  refine ve ?_
  refine W2 [0] [] [] (l := [(0, .c (.row _ _ _))]) (h := []) (h' := []) trivial rfl rfl rfl ?_
  refine W_seq ?_
  refine W_seq ?_
  refine W_regV he rfl ?_
  refine v0 (sM rfl [] rfl) rfl ?_
  refine bndc h ?_; clear h; intro r1 hr1 h
  refine vB (sCm (w_laws_big K a0 _ hr1) ok_laws_big rfl rfl rfl rfl) rfl rfl fun b2 hb2 => ?_
  cases b2 with
  | true =>
    replace h := brT hb2 h
    refine ve ?_
    refine W2 [0, 18] [] [] (l := [(0, .c (.row _ _ _)), (18, .c (.bool true))]) (h := []) (h' := []) trivial rfl rfl rfl ?_
    refine W_true rfl ?_
    refine W_seq ?_
    refine W_regV he rfl ?_
    refine v0 (sA rfl [] rfl) rfl ?_
    refine ve ?_
    refine W2 [2] [] [] (l := [(2, .c (.bool true))]) (h := []) (h' := []) trivial rfl rfl rfl ?_
    obtain rfl := Option.some.inj h
    exact W_ret (r0 rfl rfl)
  | false =>
    replace h := brF hb2 h
    refine ve ?_
    refine W2 [0, 18] [] [] (l := [(0, .c (.row _ _ _)), (18, .c (.bool false))]) (h := []) (h' := []) trivial rfl rfl rfl ?_
    refine W_false rfl ?_
    refine W_skip ?_
    refine W_seq ?_
    refine W_regV he rfl ?_
    refine v0 (sM rfl [] rfl) rfl ?_
    refine bndc h ?_; clear h; intro r3 hr3 h
    refine v0 (sCm (w_spec_DrawPutVar K a0 _ hr3) ok_spec_DrawPutVar rfl rfl rfl rfl) rfl ?_
    refine v0 (sM rfl [] rfl) rfl ?_
    refine v0 (sEx rfl rfl rfl) rfl ?_
    refine v0 (sEx rfl rfl rfl) rfl ?_
    refine v0 (sA rfl [] rfl) rfl ?_
    refine v0 (sA rfl [] rfl) rfl ?_
    refine ve ?_
    refine W2 [0, 3, 4] [] [] (l := [(0, .c (.row _ _ _)), (3, .c (.row _ _ _)), (4, .c (.int _ _))]) (h := []) (h' := []) trivial rfl rfl rfl ?_
    refine W_seq ?_
    refine W_regV he rfl ?_
    refine v0 (sM rfl [] rfl) rfl ?_
    refine v0 (sM rfl [] rfl) rfl ?_
    refine bndc h ?_; clear h; intro r4 hr4 h
    refine v0 (sCm (w_impl_PutVar K r3.1 r3.2 _ hr4) ok_impl_PutVar rfl rfl rfl rfl) rfl ?_
    refine v0 (sA rfl [] rfl) rfl ?_
    refine ve ?_
    refine W2 [0, 3, 4, 5] [] [] (l := [(0, .c (.row _ _ _)), (3, .c (.row _ _ _)), (4, .c (.int _ _)), (5, .c (.row _ _ _))]) (h := []) (h' := []) trivial rfl rfl rfl ?_
    refine W_seq ?_
    refine W_regV he rfl ?_
    refine v0 (sM rfl [] rfl) rfl ?_
    refine bndc h ?_; clear h; intro r5 hr5 h
    refine v0 (sCm (w_spec_DrawGetVar K a0 _ hr5) ok_spec_DrawGetVar rfl rfl rfl rfl) rfl ?_
    refine v0 (sM rfl [] rfl) rfl ?_
    refine v0 (sEx rfl rfl rfl) rfl ?_
    refine v0 (sEx rfl rfl rfl) rfl ?_
    refine v0 (sA rfl [] rfl) rfl ?_
    refine v0 (sA rfl [] rfl) rfl ?_
    refine ve ?_
    refine W2 [3, 4, 5, 6, 7] [] [] (l := [(3, .c (.row _ _ _)), (4, .c (.int _ _)), (5, .c (.row _ _ _)), (6, .c (.row _ _ _)), (7, .c (.int _ _))]) (h := []) (h' := []) trivial rfl rfl rfl ?_
    refine W_seq ?_
    refine W_regV he rfl ?_
    refine v0 (sM rfl [] rfl) rfl ?_
    refine v0 (sM rfl [] rfl) rfl ?_
    refine bndc h ?_; clear h; intro r6 hr6 h
    refine v0 (sCm (w_impl_GetVar K r5.1 r5.2 _ hr6) ok_impl_GetVar rfl rfl rfl rfl) rfl ?_
    refine v0 (sM rfl [] rfl) rfl ?_
    refine v0 (sEx rfl rfl rfl) rfl ?_
    refine v0 (sEx rfl rfl rfl) rfl ?_
    refine v0 (sEx rfl rfl rfl) rfl ?_
    refine v0 (sA rfl [] rfl) rfl ?_
    refine v0 (sA rfl [] rfl) rfl ?_
    refine v0 (sA rfl [] rfl) rfl ?_
    refine ve ?_
    refine W2 [3, 4, 5, 6, 7, 8, 9, 10] [] [] (l := [(3, .c (.row _ _ _)), (4, .c (.int _ _)), (5, .c (.row _ _ _)), (6, .c (.row _ _ _)), (7, .c (.int _ _)), (8, .c (.int _ _)), (9, .c (.int _ _)), (10, .c (.bool _))]) (h := []) (h' := []) trivial rfl rfl rfl ?_
    refine W_seq ?_
    refine W_regV he rfl ?_
    refine v0 (sM rfl [] rfl) rfl ?_
    refine v0 (sM rfl [] rfl) rfl ?_
    refine bndc h ?_; clear h; intro r7 hr7 h
    refine v0 (sCm (w_spec_GetVar K r5.1 r5.2 _ hr7) ok_spec_GetVar rfl rfl rfl rfl) rfl ?_
    refine v0 (sM rfl [] rfl) rfl ?_
    refine v0 (sEx rfl rfl rfl) rfl ?_
    refine v0 (sEx rfl rfl rfl) rfl ?_
    refine v0 (sEx rfl rfl rfl) rfl ?_
    refine v0 (sA rfl [] rfl) rfl ?_
    refine v0 (sA rfl [] rfl) rfl ?_
    refine v0 (sA rfl [] rfl) rfl ?_
    refine ve ?_
    refine W2 [3, 4, 5, 6, 7, 8, 9, 10, 11, 12, 13] [] [] (l := [(3, .c (.row _ _ _)), (4, .c (.int _ _)), (5, .c (.row _ _ _)), (6, .c (.row _ _ _)), (7, .c (.int _ _)), (8, .c (.int _ _)), (9, .c (.int _ _)), (10, .c (.bool _)), (11, .c (.int _ _)), (12, .c (.int _ _)), (13, .c (.bool _))]) (h := []) (h' := []) trivial rfl rfl rfl ?_
    refine W_seq ?_
    refine W_seq ?_
    refine W_regV he rfl ?_
    refine v0 (sM rfl [] rfl) rfl ?_
    refine v0 (sM rfl [] rfl) rfl ?_
    refine v0 (sM rfl [] rfl) rfl ?_
    refine bndc h ?_; clear h; intro r8 hr8 h
    refine v0 (sCm (w_spec_PutVar K r3.1 r3.2 _ hr8) ok_spec_PutVar rfl rfl rfl rfl) rfl ?_
    refine bndc h ?_; clear h; intro r9 hr9 h
    refine vB (sCm (w_laws_same K r4 r8 _ hr9) ok_laws_same rfl rfl rfl rfl) rfl rfl fun b10 hb10 => ?_
    cases b10 with
    | true =>
      replace h := brT hb10 h
      refine v0 (sNt rfl rfl) rfl ?_
      refine v0 (sM rfl [] rfl) rfl ?_
      refine u0 (sM rfl [] rfl) rfl rfl rfl ?_
      refine u0 (sM rfl [] rfl) rfl rfl rfl ?_
      refine uB (sBi rfl rfl rfl rfl) rfl rfl rfl rfl fun b11 hb11 => ?_
      cases b11 with
      | true =>
        replace h := brT hb11 h
        refine v0 (sPk rfl [] rfl rfl) rfl ?_
        refine v0 (sM rfl [] rfl) rfl ?_
        refine uP rfl rfl rfl rfl ?_
        refine uP rfl rfl rfl rfl ?_
        refine uP rfl rfl rfl rfl ?_
        refine v0 (sPk rfl [] rfl rfl) rfl ?_
        refine v0 (sM rfl [] rfl) rfl ?_
        refine uP rfl rfl rfl rfl ?_
        refine uP rfl rfl rfl rfl ?_
        refine uP rfl rfl rfl rfl ?_
        refine v0 (sPk rfl [] rfl rfl) rfl ?_
        refine ve ?_
        refine W2 [3, 4, 5, 6, 7, 8, 9, 10, 66] [] [] (l := [(3, .c (.row _ _ _)), (4, .c (.int _ _)), (5, .c (.row _ _ _)), (6, .c (.row _ _ _)), (7, .c (.int _ _)), (8, .c (.int _ _)), (9, .c (.int _ _)), (10, .c (.bool _)), (66, .c (.bool true))]) (h := []) (h' := []) trivial rfl rfl rfl ?_
        refine W_true rfl ?_
        refine W_seq ?_
        refine W_regV he rfl ?_
        refine v0 (sA rfl [] rfl) rfl ?_
        refine ve ?_
        refine W2 [2] [] [] (l := [(2, .c (.bool false))]) (h := []) (h' := []) trivial rfl rfl rfl ?_
        obtain rfl := Option.some.inj h
        exact W_ret (r0 rfl rfl)
      | false =>
        replace h := brF hb11 h
        refine v0 (sPk rfl [] rfl rfl) rfl ?_
        refine v0 (sM rfl [] rfl) rfl ?_
        refine u0 (sM rfl [] rfl) rfl rfl rfl ?_
        refine u0 (sM rfl [] rfl) rfl rfl rfl ?_
        refine uB (sBi rfl rfl rfl rfl) rfl rfl rfl rfl fun b12 hb12 => ?_
        cases b12 with
        | true =>
          replace h := brT hb12 h
          refine v0 (sPk rfl [] rfl rfl) rfl ?_
          refine v0 (sM rfl [] rfl) rfl ?_
          refine uP rfl rfl rfl rfl ?_
          refine uP rfl rfl rfl rfl ?_
          refine uP rfl rfl rfl rfl ?_
          refine v0 (sPk rfl [] rfl rfl) rfl ?_
          refine ve ?_
          refine W2 [3, 4, 5, 6, 7, 8, 9, 10, 66] [] [] (l := [(3, .c (.row _ _ _)), (4, .c (.int _ _)), (5, .c (.row _ _ _)), (6, .c (.row _ _ _)), (7, .c (.int _ _)), (8, .c (.int _ _)), (9, .c (.int _ _)), (10, .c (.bool _)), (66, .c (.bool true))]) (h := []) (h' := []) trivial rfl rfl rfl ?_
          refine W_true rfl ?_
          refine W_seq ?_
          refine W_regV he rfl ?_
          refine v0 (sA rfl [] rfl) rfl ?_
          refine ve ?_
          refine W2 [2] [] [] (l := [(2, .c (.bool false))]) (h := []) (h' := []) trivial rfl rfl rfl ?_
          obtain rfl := Option.some.inj h
          exact W_ret (r0 rfl rfl)
        | false =>
          replace h := brF hb12 h
          refine v0 (sPk rfl [] rfl rfl) rfl ?_
          refine v0 (sM rfl [] rfl) rfl ?_
          refine u0 (sM rfl [] rfl) rfl rfl rfl ?_
          refine u0 (sM rfl [] rfl) rfl rfl rfl ?_
          refine uB (sBe rfl (.inr rfl) rfl rfl rfl rfl) rfl rfl rfl rfl fun b13 hb13 => ?_
          cases b13 with
          | true =>
            replace h := brT hb13 h
            refine v0 (sPk rfl [] rfl rfl) rfl ?_
            refine ve ?_
            refine W2 [3, 4, 5, 6, 7, 8, 9, 10, 66] [] [] (l := [(3, .c (.row _ _ _)), (4, .c (.int _ _)), (5, .c (.row _ _ _)), (6, .c (.row _ _ _)), (7, .c (.int _ _)), (8, .c (.int _ _)), (9, .c (.int _ _)), (10, .c (.bool _)), (66, .c (.bool true))]) (h := []) (h' := []) trivial rfl rfl rfl ?_
            refine W_true rfl ?_
            refine W_seq ?_
            refine W_regV he rfl ?_
            refine v0 (sA rfl [] rfl) rfl ?_
            refine ve ?_
            refine W2 [2] [] [] (l := [(2, .c (.bool false))]) (h := []) (h' := []) trivial rfl rfl rfl ?_
            obtain rfl := Option.some.inj h
            exact W_ret (r0 rfl rfl)
          | false =>
            replace h := brF hb13 h
            refine v0 (sPk rfl [] rfl rfl) rfl ?_
            refine ve ?_
            refine W2 [3, 4, 5, 6, 7, 8, 9, 10, 66] [] [] (l := [(3, .c (.row _ _ _)), (4, .c (.int _ _)), (5, .c (.row _ _ _)), (6, .c (.row _ _ _)), (7, .c (.int _ _)), (8, .c (.int _ _)), (9, .c (.int _ _)), (10, .c (.bool _)), (66, .c (.bool false))]) (h := []) (h' := []) trivial rfl rfl rfl ?_
            refine W_false rfl ?_
            refine W_skip ?_
            refine W_seq ?_
            refine W_seq ?_
            refine W_regV he rfl ?_
            refine v0 (sM rfl [] rfl) rfl ?_
            refine vB (sBi rfl rfl rfl rfl) rfl rfl fun b14 hb14 => ?_
            cases b14 with
            | true =>
              replace h := brT hb14 h
              refine v0 (sM rfl [] rfl) rfl ?_
              refine uP rfl rfl rfl rfl ?_
              refine uP rfl rfl rfl rfl ?_
              refine v0 (sPk rfl [] rfl rfl) rfl ?_
              refine ve ?_
              refine W2 [3, 4, 5, 6, 7, 8, 9, 10, 72] [] [] (l := [(3, .c (.row _ _ _)), (4, .c (.int _ _)), (5, .c (.row _ _ _)), (6, .c (.row _ _ _)), (7, .c (.int _ _)), (8, .c (.int _ _)), (9, .c (.int _ _)), (10, .c (.bool _)), (72, .c (.bool true))]) (h := []) (h' := []) trivial rfl rfl rfl ?_
              refine W_true rfl ?_
              refine W_seq ?_
              refine W_regV he rfl ?_
              refine v0 (sM rfl [] rfl) rfl ?_
              refine v0 (sM rfl [] rfl) rfl ?_
              refine bndc h ?_; clear h; intro r15 hr15 h
              refine v0 (sCm (w_laws_same K r4 r3.1 _ hr15) ok_laws_same rfl rfl rfl rfl) rfl ?_
              refine v0 (sA rfl [] rfl) rfl ?_
              refine ve ?_
              refine W2 [2] [] [] (l := [(2, .c (.bool _))]) (h := []) (h' := []) trivial rfl rfl rfl ?_
              obtain rfl := Option.some.inj h
              exact W_ret (r0 rfl rfl)
            | false =>
              replace h := brF hb14 h
              refine v0 (sM rfl [] rfl) rfl ?_
              refine u0 (sM rfl [] rfl) rfl rfl rfl ?_
              refine uB (sBi rfl rfl rfl rfl) rfl rfl rfl rfl fun b16 hb16 => ?_
              cases b16 with
              | true =>
                replace h := brT hb16 h
                refine v0 (sPk rfl [] rfl rfl) rfl ?_
                refine ve ?_
                refine W2 [3, 4, 5, 6, 7, 8, 9, 10, 72] [] [] (l := [(3, .c (.row _ _ _)), (4, .c (.int _ _)), (5, .c (.row _ _ _)), (6, .c (.row _ _ _)), (7, .c (.int _ _)), (8, .c (.int _ _)), (9, .c (.int _ _)), (10, .c (.bool _)), (72, .c (.bool true))]) (h := []) (h' := []) trivial rfl rfl rfl ?_
                refine W_true rfl ?_
                refine W_seq ?_
                refine W_regV he rfl ?_
                refine v0 (sM rfl [] rfl) rfl ?_
                refine v0 (sM rfl [] rfl) rfl ?_
                refine bndc h ?_; clear h; intro r17 hr17 h
                refine v0 (sCm (w_laws_same K r4 r3.1 _ hr17) ok_laws_same rfl rfl rfl rfl) rfl ?_
                refine v0 (sA rfl [] rfl) rfl ?_
                refine ve ?_
                refine W2 [2] [] [] (l := [(2, .c (.bool _))]) (h := []) (h' := []) trivial rfl rfl rfl ?_
                obtain rfl := Option.some.inj h
                exact W_ret (r0 rfl rfl)
              | false =>
                replace h := brF hb16 h
                refine v0 (sPk rfl [] rfl rfl) rfl ?_
                refine ve ?_
                refine W2 [3, 4, 5, 6, 7, 8, 9, 10, 72] [] [] (l := [(3, .c (.row _ _ _)), (4, .c (.int _ _)), (5, .c (.row _ _ _)), (6, .c (.row _ _ _)), (7, .c (.int _ _)), (8, .c (.int _ _)), (9, .c (.int _ _)), (10, .c (.bool _)), (72, .c (.bool false))]) (h := []) (h' := []) trivial rfl rfl rfl ?_
                refine W_false rfl ?_
                refine W_skip ?_
                refine W_seq ?_
                refine W_regV he rfl ?_
                refine v0 (sBS rfl 1077 (rows := ([] : List Int).map en_u8) rfl rfl rfl (by kernel_rfl) rfl rfl rfl rfl) rfl ?_
                refine v0 (sM rfl [] rfl) rfl ?_
                refine chkc h ?_; clear h; intro c18 h
                refine v0 (sAo rfl 1079 ([] : List Int) r4 enOk_u8 rfl rfl rfl rfl rfl rfl rfl rfl rfl rfl rfl c18) rfl ?_
                refine v0 (sBS rfl 1080 (rows := ([200] : List Int).map en_u8) rfl rfl rfl (by kernel_rfl) rfl rfl rfl rfl) rfl ?_
                refine chkc h ?_; clear h; intro c19 h
                refine v0 (sAo rfl 1081 (([] : List Int) ++ r4) ([200] : List Int) enOk_u8 rfl rfl rfl rfl rfl rfl rfl rfl rfl rfl rfl c19) rfl ?_
                refine v0 (sM rfl [] rfl) rfl ?_
                refine v0 (sLm rfl rfl rfl rfl) rfl ?_
                refine bndc h ?_; clear h; intro r20 hr20 h
                refine v0 (sCle (w_impl_GetVar K ((([] : List Int) ++ r4) ++ ([200] : List Int)) (r3.1.length : Int) _ hr20) ok_impl_GetVar [1081] rfl rfl (low_cons (low_lent (l := ((([] : List Int) ++ r4) ++ ([200] : List Int))) enOk_u8 rfl rfl rfl) (low_cons (rfl) (low_nil))) rfl) rfl ?_
                refine v0 (sM rfl [] rfl) rfl ?_
                refine v0 (sEx rfl rfl rfl) rfl ?_
                refine v0 (sEx rfl rfl rfl) rfl ?_
                refine v0 (sEx rfl rfl rfl) rfl ?_
                refine v0 (sA rfl [] rfl) rfl ?_
                refine v0 (sA rfl [] rfl) rfl ?_
                refine v0 (sA rfl [] rfl) rfl ?_
                refine ve ?_
                refine W2 [4, 5, 6, 7, 8, 9, 10, 14, 15, 16] [] [] (l := [(4, .c (.int _ _)), (5, .c (.row _ _ _)), (6, .c (.row _ _ _)), (7, .c (.int _ _)), (8, .c (.int _ _)), (9, .c (.int _ _)), (10, .c (.bool _)), (14, .c (.int _ _)), (15, .c (.int _ _)), (16, .c (.bool _))]) (h := []) (h' := []) trivial rfl rfl rfl ?_
                refine W_seq ?_
                refine W_regD he rfl rfl rfl ?_
                refine gB (sM rfl [] rfl) rfl rfl fun b21 hb21 => ?_
                cases b21 with
                | true =>
                  replace h := brT hb21 h
                  refine g0 (sM rfl [] rfl) rfl ?_
                  refine q0 (sM rfl [] rfl) rfl rfl rfl ?_
                  refine q0 (sM rfl [] rfl) rfl rfl rfl ?_
                  refine qB (sBi rfl rfl rfl rfl) rfl rfl rfl rfl fun b22 hb22 => ?_
                  cases b22 with
                  | true =>
                    replace h := brT hb22 h
                    refine g0 (sPk rfl [] rfl rfl) rfl ?_
                    refine g0 (sM rfl [] rfl) rfl ?_
                    refine q0 (sM rfl [] rfl) rfl rfl rfl ?_
                    refine q0 (sM rfl [] rfl) rfl rfl rfl ?_
                    refine q0 (sLm rfl rfl rfl rfl) rfl rfl rfl ?_
                    refine qB (sBi rfl rfl rfl rfl) rfl rfl rfl rfl fun b23 hb23 => ?_
                    cases b23 with
                    | true =>
                      replace h := brT hb23 h
                      refine g0 (sPk rfl [] rfl rfl) rfl ?_
                      refine g0 (sM rfl [] rfl) rfl ?_
                      refine qB (sM rfl [] rfl) rfl rfl rfl rfl fun b24 hb24 => ?_
                      cases b24 with
                      | true =>
                        replace h := brT hb24 h
                        refine q0 (sNt rfl rfl) rfl rfl rfl ?_
                        refine q0 (sM rfl [] rfl) rfl rfl rfl ?_
                        refine q0 (sM rfl [] rfl) rfl rfl rfl ?_
                        refine q0 (sM rfl [] rfl) rfl rfl rfl ?_
                        refine chkc h ?_; clear h; intro c25 h
                        refine q0 (sSlM rfl rfl rfl rfl rfl c25) rfl rfl rfl ?_
                        refine q0 (sM rfl [] rfl) rfl rfl rfl ?_
                        refine bndc h ?_; clear h; intro r26 hr26 h
                        refine q0 (sCm (w_impl_PutVar K ((r5.1.drop (0 : Int).toNat).take (r5.2 - 0).toNat) r6.1 _ hr26) ok_impl_PutVar rfl rfl rfl rfl) rfl rfl rfl ?_
                        refine q0 (sM rfl [] rfl) rfl rfl rfl ?_
                        refine q0 (sM rfl [] rfl) rfl rfl rfl ?_
                        refine chkc h ?_; clear h; intro c27 h
                        refine q0 (sSlM rfl rfl rfl rfl rfl c27) rfl rfl rfl ?_
                        refine bndc h ?_; clear h; intro r28 hr28 h
                        refine q0 (sCm (w_laws_same K r26 ((r5.1.drop (0 : Int).toNat).take (r6.2.1 - 0).toNat) _ hr28) ok_laws_same rfl rfl rfl rfl) rfl rfl rfl ?_
                        refine q0 (sPk rfl [] rfl rfl) rfl rfl rfl ?_
                        refine g0 (sPk rfl [] rfl rfl) rfl ?_
                        refine g0 (sA rfl [] rfl) rfl ?_
                        refine ge ⟨rfl, ?_⟩
                        refine W2 [2] [] [] (l := [(2, .c (.bool _))]) (h := []) (h' := []) trivial rfl rfl rfl ?_
                        obtain rfl := Option.some.inj h
                        exact W_ret (r0 rfl rfl)
                      | false =>
                        replace h := brF hb24 h
                        refine q0 (sNt rfl rfl) rfl rfl rfl ?_
                        refine q0 (sM rfl [] rfl) rfl rfl rfl ?_
                        refine qP rfl rfl rfl rfl ?_
                        refine qP rfl rfl rfl rfl ?_
                        refine qP rfl rfl rfl rfl ?_
                        refine qP rfl rfl rfl rfl ?_
                        refine qP rfl rfl rfl rfl ?_
                        refine qP rfl rfl rfl rfl ?_
                        refine qP rfl rfl rfl rfl ?_
                        refine qP rfl rfl rfl rfl ?_
                        refine qP rfl rfl rfl rfl ?_
                        refine q0 (sPk rfl [] rfl rfl) rfl rfl rfl ?_
                        refine g0 (sPk rfl [] rfl rfl) rfl ?_
                        refine g0 (sA rfl [] rfl) rfl ?_
                        refine ge ⟨rfl, ?_⟩
                        refine W2 [2] [] [] (l := [(2, .c (.bool true))]) (h := []) (h' := []) trivial rfl rfl rfl ?_
                        obtain rfl := Option.some.inj h
                        exact W_ret (r0 rfl rfl)
                    | false =>
                      replace h := brF hb23 h
                      refine g0 (sPk rfl [] rfl rfl) rfl ?_
                      refine g0 (sM rfl [] rfl) rfl ?_
                      refine qP rfl rfl rfl rfl ?_
                      refine qP rfl rfl rfl rfl ?_
                      refine qP rfl rfl rfl rfl ?_
                      refine qS rfl rfl rfl ?_
                      refine qS rfl rfl rfl ?_
                      refine qS rfl rfl rfl ?_
                      refine qS rfl rfl rfl ?_
                      refine qS rfl rfl rfl ?_
                      refine qS rfl rfl rfl ?_
                      refine qS rfl rfl rfl ?_
                      refine qS rfl rfl rfl ?_
                      refine qS rfl rfl rfl ?_
                      refine qP rfl rfl rfl rfl ?_
                      refine g0 (sPk rfl [] rfl rfl) rfl ?_
                      refine g0 (sA rfl [] rfl) rfl ?_
                      refine ge ⟨rfl, ?_⟩
                      refine W2 [2] [] [] (l := [(2, .c (.bool false))]) (h := []) (h' := []) trivial rfl rfl rfl ?_
                      obtain rfl := Option.some.inj h
                      exact W_ret (r0 rfl rfl)
                  | false =>
                    replace h := brF hb22 h
                    refine g0 (sPk rfl [] rfl rfl) rfl ?_
                    refine g0 (sM rfl [] rfl) rfl ?_
                    refine qP rfl rfl rfl rfl ?_
                    refine qP rfl rfl rfl rfl ?_
                    refine qP rfl rfl rfl rfl ?_
                    refine qP rfl rfl rfl rfl ?_
                    refine g0 (sPk rfl [] rfl rfl) rfl ?_
                    refine g0 (sM rfl [] rfl) rfl ?_
                    refine qP rfl rfl rfl rfl ?_
                    refine qP rfl rfl rfl rfl ?_
                    refine qP rfl rfl rfl rfl ?_
                    refine qS rfl rfl rfl ?_
                    refine qS rfl rfl rfl ?_
                    refine qS rfl rfl rfl ?_
                    refine qS rfl rfl rfl ?_
                    refine qS rfl rfl rfl ?_
                    refine qS rfl rfl rfl ?_
                    refine qS rfl rfl rfl ?_
                    refine qS rfl rfl rfl ?_
                    refine qS rfl rfl rfl ?_
                    refine qP rfl rfl rfl rfl ?_
                    refine g0 (sPk rfl [] rfl rfl) rfl ?_
                    refine g0 (sA rfl [] rfl) rfl ?_
                    refine ge ⟨rfl, ?_⟩
                    refine W2 [2] [] [] (l := [(2, .c (.bool false))]) (h := []) (h' := []) trivial rfl rfl rfl ?_
                    obtain rfl := Option.some.inj h
                    exact W_ret (r0 rfl rfl)
                | false =>
                  replace h := brF hb21 h
                  refine g0 (sM rfl [] rfl) rfl ?_
                  refine qP rfl rfl rfl rfl ?_
                  refine qP rfl rfl rfl rfl ?_
                  refine qP rfl rfl rfl rfl ?_
                  refine g0 (sPk rfl [] rfl rfl) rfl ?_
                  refine g0 (sM rfl [] rfl) rfl ?_
                  refine qP rfl rfl rfl rfl ?_
                  refine qP rfl rfl rfl rfl ?_
                  refine qP rfl rfl rfl rfl ?_
                  refine qP rfl rfl rfl rfl ?_
                  refine g0 (sPk rfl [] rfl rfl) rfl ?_
                  refine g0 (sM rfl [] rfl) rfl ?_
                  refine qP rfl rfl rfl rfl ?_
                  refine qP rfl rfl rfl rfl ?_
                  refine qP rfl rfl rfl rfl ?_
                  refine qS rfl rfl rfl ?_
                  refine qS rfl rfl rfl ?_
                  refine qS rfl rfl rfl ?_
                  refine qS rfl rfl rfl ?_
                  refine qS rfl rfl rfl ?_
                  refine qS rfl rfl rfl ?_
                  refine qS rfl rfl rfl ?_
                  refine qS rfl rfl rfl ?_
                  refine qS rfl rfl rfl ?_
                  refine qP rfl rfl rfl rfl ?_
                  refine g0 (sPk rfl [] rfl rfl) rfl ?_
                  refine g0 (sA rfl [] rfl) rfl ?_
                  refine ge ⟨rfl, ?_⟩
                  refine W2 [2] [] [] (l := [(2, .c (.bool false))]) (h := []) (h' := []) trivial rfl rfl rfl ?_
                  obtain rfl := Option.some.inj h
                  exact W_ret (r0 rfl rfl)
    | false =>
      replace h := brF hb10 h
      refine v0 (sNt rfl rfl) rfl ?_
      refine v0 (sM rfl [] rfl) rfl ?_
      refine uP rfl rfl rfl rfl ?_
      refine uP rfl rfl rfl rfl ?_
      refine uP rfl rfl rfl rfl ?_
      refine v0 (sPk rfl [] rfl rfl) rfl ?_
      refine v0 (sM rfl [] rfl) rfl ?_
      refine uP rfl rfl rfl rfl ?_
      refine uP rfl rfl rfl rfl ?_
      refine uP rfl rfl rfl rfl ?_
      refine v0 (sPk rfl [] rfl rfl) rfl ?_
      refine v0 (sM rfl [] rfl) rfl ?_
      refine uP rfl rfl rfl rfl ?_
      refine uP rfl rfl rfl rfl ?_
      refine uP rfl rfl rfl rfl ?_
      refine v0 (sPk rfl [] rfl rfl) rfl ?_
      refine ve ?_
      refine W2 [3, 4, 5, 6, 7, 8, 9, 10, 66] [] [] (l := [(3, .c (.row _ _ _)), (4, .c (.int _ _)), (5, .c (.row _ _ _)), (6, .c (.row _ _ _)), (7, .c (.int _ _)), (8, .c (.int _ _)), (9, .c (.int _ _)), (10, .c (.bool _)), (66, .c (.bool true))]) (h := []) (h' := []) trivial rfl rfl rfl ?_
      refine W_true rfl ?_
      refine W_seq ?_
      refine W_regV he rfl ?_
      refine v0 (sA rfl [] rfl) rfl ?_
      refine ve ?_
      refine W2 [2] [] [] (l := [(2, .c (.bool false))]) (h := []) (h' := []) trivial rfl rfl rfl ?_
      obtain rfl := Option.some.inj h
      exact W_ret (r0 rfl rfl)
theorem ok_laws_FnVars : FnOk Try.prog 11 := ⟨_, Try.func11, rfl, rfl⟩


def Wf_u8 (x : Int) : Prop := (Lit.int .u8 x).wf = true
def Wf_Lu8 (x : List Int) : Prop := (∀ a ∈ x, Wf_u8 a) ∧ x.length * 1 ≤ reachBytes ∧ x.length ≤ maxLen
def Wf_i64 (x : Int) : Prop := (Lit.int .i64 x).wf = true
def Wf_spec_l1Cur (x : T_spec_l1Cur) : Prop := Wf_Lu8 x.fb ∧ Wf_i64 x.fi ∧ Wf_i64 x.fh
theorem lf_u8 {v : V} (h : Lf tab 5 v) : ∃ a, v = .int .u8 a ∧ Wf_u8 a := lf_int h rfl rfl
theorem ro_u8 (x : List V) (hl : x.length = 1) (h : ∀ (i : Nat) l v, ([5] : List Nat)[i]? = some l → x[i]? = some v → Lf tab l v) : ∃ a, x = en_u8 a ∧ Wf_u8 a := by
  match x, hl with
  | [v0], _ =>
    obtain ⟨x0, rfl, w0⟩ := lf_u8 (h 0 _ _ rfl rfl)
    exact ⟨x0, rfl, w0⟩
theorem ta_u8 {x : A} (h : TA tab 5 x) : ∃ a, x = .c (.int .u8 a) ∧ Wf_u8 a := let ⟨v, e, h1⟩ := ta_one h rfl rfl; let ⟨a, e2, w⟩ := lf_u8 h1; ⟨a, by rw [e, e2], w⟩
theorem lf_Lu8 {v : V} (h : Lf tab 30 v) : ∃ a, v = .row false 1 (a.map en_u8) ∧ Wf_Lu8 a := let ⟨l, e, h1, h2, h3⟩ := lf_row h rfl rfl rfl rfl ro_u8; ⟨l, e, h1, h2, h3⟩
theorem ro_Lu8 (x : List V) (hl : x.length = 1) (h : ∀ (i : Nat) l v, ([30] : List Nat)[i]? = some l → x[i]? = some v → Lf tab l v) : ∃ a, x = en_Lu8 a ∧ Wf_Lu8 a := by
  match x, hl with
  | [v0], _ =>
    obtain ⟨x0, rfl, w0⟩ := lf_Lu8 (h 0 _ _ rfl rfl)
    exact ⟨x0, rfl, w0⟩
theorem ta_Lu8 {x : A} (h : TA tab 30 x) : ∃ a, x = .c (.row false 1 (a.map en_u8)) ∧ Wf_Lu8 a := let ⟨v, e, h1⟩ := ta_one h rfl rfl; let ⟨a, e2, w⟩ := lf_Lu8 h1; ⟨a, by rw [e, e2], w⟩
theorem lf_i64 {v : V} (h : Lf tab 3 v) : ∃ a, v = .int .i64 a ∧ Wf_i64 a := lf_int h rfl rfl
theorem ro_i64 (x : List V) (hl : x.length = 1) (h : ∀ (i : Nat) l v, ([3] : List Nat)[i]? = some l → x[i]? = some v → Lf tab l v) : ∃ a, x = en_i64 a ∧ Wf_i64 a := by
  match x, hl with
  | [v0], _ =>
    obtain ⟨x0, rfl, w0⟩ := lf_i64 (h 0 _ _ rfl rfl)
    exact ⟨x0, rfl, w0⟩
theorem ta_i64 {x : A} (h : TA tab 3 x) : ∃ a, x = .c (.int .i64 a) ∧ Wf_i64 a := let ⟨v, e, h1⟩ := ta_one h rfl rfl; let ⟨a, e2, w⟩ := lf_i64 h1; ⟨a, by rw [e, e2], w⟩
theorem ro_spec_l1Cur (x : List V) (hl : x.length = 3) (h : ∀ (i : Nat) l v, ([30, 3, 3] : List Nat)[i]? = some l → x[i]? = some v → Lf tab l v) : ∃ a, x = en_spec_l1Cur a ∧ Wf_spec_l1Cur a := by
  match x, hl with
  | [v0, v1, v2], _ =>
    obtain ⟨x0, rfl, w0⟩ := lf_Lu8 (h 0 _ _ rfl rfl)
    obtain ⟨x1, rfl, w1⟩ := lf_i64 (h 1 _ _ rfl rfl)
    obtain ⟨x2, rfl, w2⟩ := lf_i64 (h 2 _ _ rfl rfl)
    exact ⟨(T_spec_l1Cur.mk x0 x1 x2), rfl, ⟨w0, w1, w2⟩⟩
theorem ta_spec_l1Cur {x : A} (h : TA tab 91 x) : ∃ a, x = .g [.row false 1 (a.fb.map en_u8), .int .i64 a.fi, .int .i64 a.fh] ∧ Wf_spec_l1Cur a := let ⟨vs, e, h1, h2⟩ := ta_agg h rfl rfl rfl; let ⟨a, e2, w⟩ := ro_spec_l1Cur vs h1 h2; ⟨a, by rw [e, e2]; rfl, w⟩

theorem ownKnob0 : ownKnob Try.prog.godebug = none := by kernel_rfl
theorem laidOut0 : laidOutB Try.prog = true := by kernel_rfl
end Go.Proofs.Ytlenlhlggknelaa
