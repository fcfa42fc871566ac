/- Models of the program's functions, and the walks that show them. Printed by gen.py. -/
import Derived.Test.YtlenlhlggknelaaEng23
import Derived.Test.YtlenlhlggknelaaEng28
import Derived.Test.YtlenlhlggknelaaTab
set_option linter.unusedVariables false
set_option linter.unusedSimpArgs false
namespace Go.Proofs.Ytlenlhlggknelaa
open Go.Eng Go.ChangeShapes Go.WideShapes Go.ChangeAt Go.RowKit
structure T_spec_l1Cur where
  fb : List Int
  fi : Int
  fh : Int
  deriving Inhabited
structure T_impl_Handle where
  fSlot : Int
  fGen : Int
  deriving Inhabited
structure T_impl_Ref where
  fH : T_impl_Handle
  fEp : Int
  fNo : Int
  deriving Inhabited
structure T_impl_Op where
  fKind : Int
  fH : T_impl_Handle
  fR : T_impl_Ref
  fN : Int
  fM : Int
  fB : List Int
  deriving Inhabited
def en_u8 (x : Int) : List V := [.int .u8 x]
theorem enOk_u8 : En en_u8 1 := ⟨fun _ => rfl, fun _ => rfl, fun _ => rfl, fun x => rfl⟩
def en_Lu8 (x : List Int) : List V := [.row false 1 (x.map en_u8)]
theorem enOk_Lu8 : En en_Lu8 1 := ⟨fun _ => rfl, fun _ => rfl, fun _ => rfl, fun l => by show [V.share _] = _; rw [V.share, enOk_u8.shareLL]; rfl⟩
def en_i64 (x : Int) : List V := [.int .i64 x]
theorem enOk_i64 : En en_i64 1 := ⟨fun _ => rfl, fun _ => rfl, fun _ => rfl, fun x => rfl⟩
def en_spec_l1Cur (x : T_spec_l1Cur) : List V := [.row false 1 (x.fb.map en_u8), .int .i64 x.fi, .int .i64 x.fh]
theorem enOk_spec_l1Cur : En en_spec_l1Cur 3 := ⟨fun _ => rfl, fun _ => rfl, fun _ => rfl, fun x => by simp only [en_spec_l1Cur, shareL, V.share, enOk_u8.shareLL]⟩
def en_impl_Handle (x : T_impl_Handle) : List V := [.int .i64 x.fSlot, .int .i64 x.fGen]
theorem enOk_impl_Handle : En en_impl_Handle 2 := ⟨fun _ => rfl, fun _ => rfl, fun _ => rfl, fun x => rfl⟩
def en_impl_Ref (x : T_impl_Ref) : List V := [.int .i64 x.fH.fSlot, .int .i64 x.fH.fGen, .int .i64 x.fEp, .int .i64 x.fNo]
theorem enOk_impl_Ref : En en_impl_Ref 4 := ⟨fun _ => rfl, fun _ => rfl, fun _ => rfl, fun x => rfl⟩
def en_impl_Op (x : T_impl_Op) : List V := [.int .i64 x.fKind, .int .i64 x.fH.fSlot, .int .i64 x.fH.fGen, .int .i64 x.fR.fH.fSlot, .int .i64 x.fR.fH.fGen, .int .i64 x.fR.fEp, .int .i64 x.fR.fNo, .int .i64 x.fN, .int .i64 x.fM, .row false 1 (x.fB.map en_u8)]
theorem enOk_impl_Op : En en_impl_Op 10 := ⟨fun _ => rfl, fun _ => rfl, fun _ => rfl, fun x => by simp only [en_impl_Op, shareL, V.share, enOk_u8.shareLL]⟩
def en_string (x : ByteArray) : List V := [.str x]
theorem enOk_string : En en_string 1 := ⟨fun _ => rfl, fun _ => rfl, fun _ => rfl, fun x => rfl⟩

/-! ### loop.example/g00499/laws.big -/
def m_laws_big (K : Nat) (a0 : List Int) : Option (Bool) := some (decide ((a0.length : Int) > 1048576))
set_option maxRecDepth 20000 in
set_option maxHeartbeats 8000000 in
theorem w_laws_big (K : Nat) (a0 : List Int) (r : Bool) (h : m_laws_big K a0 = some r) : Sp Try.prog 42 [.c (.row false 1 (a0.map en_u8))] [] (.c (.bool r)) [] := by
  refine Sp.of_W tabOk Try.func42 rfl rfl (Nat.le_of_ble_eq_true rfl) (Nat.le_of_ble_eq_true rfl) fun F hP hN hm => ?_
  obtain ⟨P, N, w0, σ0, β0, m⟩ := F
  obtain rfl : P = Try.prog := hP
  obtain rfl : N = 6 := hN
  obtain rfl : m = 1 := hm
  have he : Env ⟨Try.prog, 6, w0, σ0, β0, 1⟩ tab := ⟨Nat.le_of_ble_eq_true rfl, tabOk⟩
  unfold m_laws_big at h
  refine W_seq ?_
  refine W_regV he rfl ?_
  refine v0 (sA rfl [] rfl) rfl ?_
  refine ve ?_
  refine W2 [0] [] [] (l := [(0, .c (.row _ _ _))]) (h := []) (h' := []) trivial rfl rfl rfl ?_
  refine W_seq ?_
  refine W_regV he rfl ?_
  refine v0 (sM rfl [] rfl) rfl ?_
  refine v0 (sLm rfl rfl rfl rfl) rfl ?_
  refine v0 (sBi rfl rfl rfl rfl) rfl ?_
  refine v0 (sA rfl [] rfl) rfl ?_
  refine ve ?_
  refine W2 [2] [] [] (l := [(2, .c (.bool _))]) (h := []) (h' := []) trivial rfl rfl rfl ?_
  obtain rfl := Option.some.inj h
  exact W_ret (r0 rfl rfl)
theorem ok_laws_big : FnOk Try.prog 42 := ⟨_, Try.func42, rfl, rfl⟩


/-! ### loop.example/g00499/spec.l1New -/
def l_spec_l1New_3 (K : Nat) (a0 : List Int) : Nat → Int → Int → Option (T_spec_l1Cur)
  | 0, _, _ => none
  | n3 + 1, v1, v2 => (bif (decide (v2 < (a0.length : Int))) then (bif (decide (v2 < 4000)) then (if (0 : Int) ≤ v2 ∧ v2 < (a0.length : Int) then (l_spec_l1New_3 K a0 n3 (iAnd .i64 (iAdd .i64 (iAdd .i64 (iMul .i64 v1 137) (IntKind.i64.wrap (gt a0 v2))) 11) 1073741823) (iAdd .i64 v2 1)) else none) else some (T_spec_l1Cur.mk a0 0 v1)) else some (T_spec_l1Cur.mk a0 0 v1))
def m_spec_l1New (K : Nat) (a0 : List Int) : Option (T_spec_l1Cur) := (l_spec_l1New_3 K a0 K (iAdd .i64 161416 (a0.length : Int)) 0)
set_option maxRecDepth 20000 in
set_option maxHeartbeats 8000000 in
theorem wo_spec_l1New (K : Nat) (a0 : List Int) (r : T_spec_l1Cur) (h : m_spec_l1New K a0 = some r) : Sp Try.prog 66 [.c (.row false 1 (a0.map en_u8))] [] (.c (.ptr 1 0 0 0)) [⟨0, 3, [r].map en_spec_l1Cur⟩] := by
  refine Sp.of_W tabOk Try.func66 rfl rfl (Nat.le_of_ble_eq_true rfl) (Nat.le_of_ble_eq_true rfl) fun F hP hN hm => ?_
  obtain ⟨P, N, w0, σ0, β0, m⟩ := F
  obtain rfl : P = Try.prog := hP
  obtain rfl : N = 32 := hN
  obtain rfl : m = 1 := hm
  have he : Env ⟨Try.prog, 32, w0, σ0, β0, 1⟩ tab := ⟨Nat.le_of_ble_eq_true rfl, tabOk⟩
  unfold m_spec_l1New at h
  refine W_seq ?_
  refine W_regV he rfl ?_
  refine v0 (sA rfl [] rfl) rfl ?_
  refine ve ?_
  refine W2 [0] [] [] (l := [(0, .c (.row _ _ _))]) (h := []) (h' := []) trivial rfl rfl rfl ?_
  refine W_seq ?_
  refine W_regV he rfl ?_
  refine v0 (sM rfl [] rfl) rfl ?_
  refine v0 (sLm rfl rfl rfl rfl) rfl ?_
  refine v0 (sBi rfl rfl rfl rfl) rfl ?_
  refine v0 (sA rfl [] rfl) rfl ?_
  refine ve ?_
  refine W2 [0, 3] [] [] (l := [(0, .c (.row _ _ _)), (3, .c (.int _ _))]) (h := []) (h' := []) trivial rfl rfl rfl ?_
  refine W_seq ?_
  refine W_seq ?_
  refine W_regV he rfl ?_
  refine v0 (sA rfl [] rfl) rfl ?_
  refine ve ?_
  refine W2 [0, 3, 4] [] [] (l := [(0, .c (.row _ _ _)), (3, .c (.int _ _)), (4, .c (.int _ _))]) (h := []) (h' := []) trivial rfl rfl rfl ?_
  refine W_block ?_
  refine W2 [0, 3, 4] [] [] (l := [(0, .c (.row _ _ _)), (3, .c (.int _ _)), (4, .c (.int _ _))]) (h := []) (h' := []) trivial rfl rfl rfl ?_
  refine W_loopW (fun n3 S => ∃ (v1 : Int), ∃ (v2 : Int), S = StL [(0, .c (.row false 1 (a0.map en_u8))), (3, .c (.int .i64 v1)), (4, .c (.int .i64 v2))] ([] ++ []) ∧ l_spec_l1New_3 K a0 n3 v1 v2 = some r) K ⟨_, _, rfl, h⟩ ?_
  rintro n3 S ⟨v1, v2, rfl, h⟩
  cases n3 with
  | zero => simp [l_spec_l1New_3] at h
  | succ n3 =>
    rw [l_spec_l1New_3] at h
    refine W_seq ?_
    refine W_seq ?_
    refine W_regV he rfl ?_
    refine v0 (sM rfl [] rfl) rfl ?_
    refine v0 (sM rfl [] rfl) rfl ?_
    refine v0 (sLm rfl rfl rfl rfl) rfl ?_
    refine vB (sBi rfl rfl rfl rfl) rfl rfl fun b4 hb4 => ?_
    cases b4 with
    | true =>
      replace h := brT hb4 h
      refine v0 (sM rfl [] rfl) rfl ?_
      refine u0 (sM rfl [] rfl) rfl rfl rfl ?_
      refine uB (sBi rfl rfl rfl rfl) rfl rfl rfl rfl fun b5 hb5 => ?_
      cases b5 with
      | true =>
        replace h := brT hb5 h
        refine v0 (sPk rfl [] rfl rfl) rfl ?_
        refine ve ?_
        refine W2 [0, 3, 4, 15] [] [] (l := [(0, .c (.row _ _ _)), (3, .c (.int _ _)), (4, .c (.int _ _)), (15, .c (.bool true))]) (h := []) (h' := []) trivial rfl rfl rfl ?_
        refine W_true rfl ?_
        refine W_skip ?_
        refine W_seq ?_
        refine W_block ?_
        refine W_regV he rfl ?_
        refine v0 (sM rfl [] rfl) rfl ?_
        refine v0 (sBi rfl rfl rfl rfl) rfl ?_
        refine v0 (sM rfl [] rfl) rfl ?_
        refine v0 (sM rfl [] rfl) rfl ?_
        refine chkc h ?_; clear h; intro c6 h
        refine v0 (sIRm rfl rfl rfl rfl c6) rfl ?_
        refine v0 (sLI rfl rfl (en_u8 (gt a0 v2)) (gt_at _ c6) rfl rfl rfl) rfl ?_
        refine v0 (sCv rfl rfl rfl rfl rfl rfl) rfl ?_
        refine v0 (sBi rfl rfl rfl rfl) rfl ?_
        refine v0 (sBi rfl rfl rfl rfl) rfl ?_
        refine v0 (sBi rfl rfl rfl rfl) rfl ?_
        refine v0 (sA rfl [] rfl) rfl ?_
        refine ve ?_
        refine W2 [0, 3, 4] [] [] (l := [(0, .c (.row _ _ _)), (3, .c (.int _ _)), (4, .c (.int _ _))]) (h := []) (h' := []) trivial rfl rfl rfl ?_
        refine W_regV he rfl ?_
        refine v0 (sM rfl [] rfl) rfl ?_
        refine v0 (sBi rfl rfl rfl rfl) rfl ?_
        refine v0 (sA rfl [] rfl) rfl ?_
        refine ve ?_
        exact ⟨n3, _, Nat.lt_succ_self n3, wk2 [0, 3, 4] [] [] (l := [(0, .c (.row _ _ _)), (3, .c (.int _ _)), (4, .c (.int _ _))]) (h := []) (h' := []) trivial rfl rfl rfl, _, _, rfl, h⟩
      | false =>
        replace h := brF hb5 h
        refine v0 (sPk rfl [] rfl rfl) rfl ?_
        refine ve ?_
        refine W2 [0, 3, 4, 15] [] [] (l := [(0, .c (.row _ _ _)), (3, .c (.int _ _)), (4, .c (.int _ _)), (15, .c (.bool false))]) (h := []) (h' := []) trivial rfl rfl rfl ?_
        refine W_false rfl ?_
        refine W_exit (ex_then (ex_then (ex_hit ?_)))
        refine W_seq ?_
        refine W_regV he rfl ?_
        refine v0 (sM rfl [] rfl) rfl ?_
        refine v0 (sM rfl [] rfl) rfl ?_
        refine v0 (sBd rfl [[], []] (out := [.row false 1 (a0.map en_u8), .int .i64 0, .int .i64 v1]) rfl (by kernel_rfl)) rfl ?_
        refine v0 (sBx rfl [] rfl rfl 101 rfl) rfl ?_
        refine v0 (sA rfl [] rfl) rfl ?_
        refine ve ?_
        refine W2 [2] [101] [] (l := [(2, .c (.ptr _ _ _ _))]) (h := [(101, ⟨0, 3, [[.row _ _ _, .int _ _, .int _ _]]⟩)]) (h' := []) trivial rfl rfl rfl ?_
        obtain rfl := Option.some.inj h
        exact W_ret (retOne (l := [(T_spec_l1Cur.mk a0 0 v1)]) 0 101 (.inl rfl) enOk_spec_l1Cur rfl rfl rfl)
    | false =>
      replace h := brF hb4 h
      refine v0 (sM rfl [] rfl) rfl ?_
      refine uP rfl rfl rfl rfl ?_
      refine uP rfl rfl rfl rfl ?_
      refine v0 (sPk rfl [] rfl rfl) rfl ?_
      refine ve ?_
      refine W2 [0, 3, 4, 15] [] [] (l := [(0, .c (.row _ _ _)), (3, .c (.int _ _)), (4, .c (.int _ _)), (15, .c (.bool false))]) (h := []) (h' := []) trivial rfl rfl rfl ?_
      refine W_false rfl ?_
      refine W_exit (ex_then (ex_then (ex_hit ?_)))
      refine W_seq ?_
      refine W_regV he rfl ?_
      refine v0 (sM rfl [] rfl) rfl ?_
      refine v0 (sM rfl [] rfl) rfl ?_
      refine v0 (sBd rfl [[], []] (out := [.row false 1 (a0.map en_u8), .int .i64 0, .int .i64 v1]) rfl (by kernel_rfl)) rfl ?_
      refine v0 (sBx rfl [] rfl rfl 102 rfl) rfl ?_
      refine v0 (sA rfl [] rfl) rfl ?_
      refine ve ?_
      refine W2 [2] [102] [] (l := [(2, .c (.ptr _ _ _ _))]) (h := [(102, ⟨0, 3, [[.row _ _ _, .int _ _, .int _ _]]⟩)]) (h' := []) trivial rfl rfl rfl ?_
      obtain rfl := Option.some.inj h
      exact W_ret (retOne (l := [(T_spec_l1Cur.mk a0 0 v1)]) 0 102 (.inl rfl) enOk_spec_l1Cur rfl rfl rfl)
theorem ok_spec_l1New : FnOk Try.prog 66 := ⟨_, Try.func66, rfl, rfl⟩


/-! ### loop.example/g00499/spec.l1Byte -/
def j_spec_l1ByteW_3 (K : Nat) (v104 : Int) (v105 : List Int) (v106 : Int) (v107 : Int) : Option (Int × T_spec_l1Cur) := some (v104, (T_spec_l1Cur.mk v105 v106 v107))
def m_spec_l1ByteW (K : Nat) (a0 : T_spec_l1Cur) : Option (Int × T_spec_l1Cur) := (if (0 : Int) ≤ 33 then (if (0 : Int) ≤ 47 then (bif (decide (a0.fi < (a0.fb.length : Int))) then (if (0 : Int) ≤ a0.fi ∧ a0.fi < (a0.fb.length : Int) then j_spec_l1ByteW_3 K (iAnd .i64 (iAdd .i64 (iAnd .i64 (iXor .i64 (iShr .i64 (iAdd .i64 (iMul .i64 a0.fh 6364136223846793005) 1442695040888963407) 33) (iShr .i64 (iAdd .i64 (iMul .i64 a0.fh 6364136223846793005) 1442695040888963407) 47)) 255) (IntKind.i64.wrap (gt a0.fb a0.fi))) 255) a0.fb (iAdd .i64 a0.fi 1) (iAdd .i64 (iMul .i64 a0.fh 6364136223846793005) 1442695040888963407) else none) else j_spec_l1ByteW_3 K (iAnd .i64 (iXor .i64 (iShr .i64 (iAdd .i64 (iMul .i64 a0.fh 6364136223846793005) 1442695040888963407) 33) (iShr .i64 (iAdd .i64 (iMul .i64 a0.fh 6364136223846793005) 1442695040888963407) 47)) 255) a0.fb a0.fi (iAdd .i64 (iMul .i64 a0.fh 6364136223846793005) 1442695040888963407)) else none) else none)
set_option maxRecDepth 20000 in
set_option maxHeartbeats 8000000 in
theorem w_spec_l1ByteW (K : Nat) (a0 : T_spec_l1Cur) (r : Int × T_spec_l1Cur) (h : m_spec_l1ByteW K a0 = some r) : Sp Try.prog 76 [.c (.ptr 1 0 0 0)] [⟨0, 3, [a0].map en_spec_l1Cur⟩] (.c (.int .i64 r.1)) [⟨0, 3, [r.2].map en_spec_l1Cur⟩] := by
  refine Sp.of_W tabOk Try.func76 rfl rfl (Nat.le_of_ble_eq_true rfl) (Nat.le_of_ble_eq_true rfl) fun F hP hN hm => ?_
  obtain ⟨P, N, w0, σ0, β0, m⟩ := F
  obtain rfl : P = Try.prog := hP
  obtain rfl : N = 58 := hN
  obtain rfl : m = 2 := hm
  have he : Env ⟨Try.prog, 58, w0, σ0, β0, 2⟩ tab := ⟨Nat.le_of_ble_eq_true rfl, tabOk⟩
  unfold m_spec_l1ByteW at h
  refine W_seq ?_
  refine W_regV he rfl ?_
  refine v0 (sA rfl [] rfl) rfl ?_
  refine ve ?_
  refine W2 [0] [1] [] (l := [(0, .c (.ptr _ _ _ _))]) (h := [(1, ⟨0, 3, [[.row _ _ _, .int _ _, .int _ _]]⟩)]) (h' := []) trivial rfl rfl rfl ?_
  refine W_seq ?_
  refine W_regV he rfl ?_
  refine v0 (sM rfl [] rfl) rfl ?_
  refine v0 (sM rfl [] rfl) rfl ?_
  refine v0 (sNc rfl rfl) rfl ?_
  refine v0 (sFP rfl rfl rfl) rfl ?_
  refine v0 (sLd rfl rfl) rfl ?_
  refine v0 (sBi rfl rfl rfl rfl) rfl ?_
  refine v0 (sBi rfl rfl rfl rfl) rfl ?_
  refine v0 (sNc rfl rfl) rfl ?_
  refine v0 (sFP rfl rfl rfl) rfl ?_
  refine v0 (sSt rfl rfl [] rfl rfl) rfl ?_
  refine ve ?_
  refine W2 [0] [1] [] (l := [(0, .c (.ptr _ _ _ _))]) (h := [(1, ⟨0, 3, [[.row _ _ _, .int _ _, .int _ _]]⟩)]) (h' := []) trivial rfl rfl rfl ?_
  refine W_seq ?_
  refine W_regD he rfl rfl rfl ?_
  refine g0 (sM rfl [] rfl) rfl ?_
  refine g0 (sNc rfl rfl) rfl ?_
  refine g0 (sFP rfl rfl rfl) rfl ?_
  refine g0 (sLd rfl rfl) rfl ?_
  refine chkc h ?_; clear h; intro c1 h
  refine g0 (sSr rfl rfl rfl c1) rfl ?_
  refine g0 (sM rfl [] rfl) rfl ?_
  refine g0 (sNc rfl rfl) rfl ?_
  refine g0 (sFP rfl rfl rfl) rfl ?_
  refine g0 (sLd rfl rfl) rfl ?_
  refine chkc h ?_; clear h; intro c2 h
  refine g0 (sSr rfl rfl rfl c2) rfl ?_
  refine g0 (sBi rfl rfl rfl rfl) rfl ?_
  refine g0 (sBi rfl rfl rfl rfl) rfl ?_
  refine g0 (sA rfl [] rfl) rfl ?_
  refine ge ⟨rfl, ?_⟩
  refine W2 [0, 3] [1] [] (l := [(0, .c (.ptr _ _ _ _)), (3, .c (.int _ _))]) (h := [(1, ⟨0, 3, [[.row _ _ _, .int _ _, .int _ _]]⟩)]) (h' := []) trivial rfl rfl rfl ?_
  refine W_join (fun S => ∃ (v104 : Int), ∃ (v105 : List Int), ∃ (v106 : Int), ∃ (v107 : Int), S = StL [(3, .c (.int .i64 v104))] ([(1, ⟨0, 3, [[.row false 1 (v105.map en_u8), .int .i64 v106, .int .i64 v107]]⟩)] ++ []) ∧ j_spec_l1ByteW_3 K v104 v105 v106 v107 = some r) ?_ ?_
  · rintro S ⟨v104, v105, v106, v107, rfl, h⟩
    unfold j_spec_l1ByteW_3 at h
    refine W_seq ?_
    refine W_regV he rfl ?_
    refine v0 (sM rfl [] rfl) rfl ?_
    refine v0 (sA rfl [] rfl) rfl ?_
    refine ve ?_
    refine W2 [2] [1] [] (l := [(2, .c (.int _ _))]) (h := [(1, ⟨0, 3, [[.row _ _ _, .int _ _, .int _ _]]⟩)]) (h' := []) trivial rfl rfl rfl ?_
    obtain rfl := Option.some.inj h
    exact W_ret (retOne (l := [(T_spec_l1Cur.mk v105 v106 v107)]) 1 1 (.inr ⟨rfl, rfl⟩) enOk_spec_l1Cur rfl rfl rfl)
  ·
    refine W_seq ?_
    refine W_regD he rfl rfl rfl ?_
    refine g0 (sM rfl [] rfl) rfl ?_
    refine g0 (sNc rfl rfl) rfl ?_
    refine g0 (sFP rfl rfl rfl) rfl ?_
    refine g0 (sLd rfl rfl) rfl ?_
    refine g0 (sM rfl [] rfl) rfl ?_
    refine g0 (sNc rfl rfl) rfl ?_
    refine g0 (sFP rfl rfl rfl) rfl ?_
    refine g0 (sLd rfl rfl) rfl ?_
    refine g0 (sLm rfl rfl rfl rfl) rfl ?_
    refine gB (sBi rfl rfl rfl rfl) rfl rfl fun b108 hb108 => ?_
    cases b108 with
    | true =>
      replace h := brT hb108 h
      refine ge ⟨rfl, ?_⟩
      refine W2 [0, 3, 34] [1] [] (l := [(0, .c (.ptr _ _ _ _)), (3, .c (.int _ _)), (34, .c (.bool true))]) (h := [(1, ⟨0, 3, [[.row _ _ _, .int _ _, .int _ _]]⟩)]) (h' := []) trivial rfl rfl rfl ?_
      refine W_true rfl ?_
      refine W_seq ?_
      refine W_regD he rfl rfl rfl ?_
      refine g0 (sM rfl [] rfl) rfl ?_
      refine g0 (sM rfl [] rfl) rfl ?_
      refine g0 (sNc rfl rfl) rfl ?_
      refine g0 (sFP rfl rfl rfl) rfl ?_
      refine g0 (sLd rfl rfl) rfl ?_
      refine g0 (sM rfl [] rfl) rfl ?_
      refine g0 (sNc rfl rfl) rfl ?_
      refine g0 (sFP rfl rfl rfl) rfl ?_
      refine g0 (sLd rfl rfl) rfl ?_
      refine chkc h ?_; clear h; intro c109 h
      refine g0 (sIRm rfl rfl rfl rfl c109) rfl ?_
      refine g0 (sLI rfl rfl (en_u8 (gt a0.fb a0.fi)) (gt_at _ c109) rfl rfl rfl) rfl ?_
      refine g0 (sCv rfl rfl rfl rfl rfl rfl) rfl ?_
      refine g0 (sBi rfl rfl rfl rfl) rfl ?_
      refine g0 (sBi rfl rfl rfl rfl) rfl ?_
      refine g0 (sA rfl [] rfl) rfl ?_
      refine ge ⟨rfl, ?_⟩
      refine W2 [0, 3] [1] [] (l := [(0, .c (.ptr _ _ _ _)), (3, .c (.int _ _))]) (h := [(1, ⟨0, 3, [[.row _ _ _, .int _ _, .int _ _]]⟩)]) (h' := []) trivial rfl rfl rfl ?_
      refine W_regV he rfl ?_
      refine v0 (sM rfl [] rfl) rfl ?_
      refine v0 (sM rfl [] rfl) rfl ?_
      refine v0 (sNc rfl rfl) rfl ?_
      refine v0 (sFP rfl rfl rfl) rfl ?_
      refine v0 (sLd rfl rfl) rfl ?_
      refine v0 (sBi rfl rfl rfl rfl) rfl ?_
      refine v0 (sNc rfl rfl) rfl ?_
      refine v0 (sFP rfl rfl rfl) rfl ?_
      refine v0 (sSt rfl rfl [] rfl rfl) rfl ?_
      refine ve ?_
      exact ⟨_, wk2 [3] [1] [] (l := [(3, .c (.int _ _))]) (h := [(1, ⟨0, 3, [[.row _ _ _, .int _ _, .int _ _]]⟩)]) (h' := []) trivial rfl rfl rfl, _, _, _, _, rfl, h⟩
    | false =>
      replace h := brF hb108 h
      refine ge ⟨rfl, ?_⟩
      refine W2 [0, 3, 34] [1] [] (l := [(0, .c (.ptr _ _ _ _)), (3, .c (.int _ _)), (34, .c (.bool false))]) (h := [(1, ⟨0, 3, [[.row _ _ _, .int _ _, .int _ _]]⟩)]) (h' := []) trivial rfl rfl rfl ?_
      refine W_false rfl ?_
      refine W_skip ?_
      exact ⟨_, wk2 [3] [1] [] (l := [(3, .c (.int _ _))]) (h := [(1, ⟨0, 3, [[.row _ _ _, .int _ _, .int _ _]]⟩)]) (h' := []) trivial rfl rfl rfl, _, _, _, _, rfl, h⟩
theorem ok_spec_l1Byte : FnOk Try.prog 76 := ⟨_, Try.func76, rfl, rfl⟩


/-! ### loop.example/g00499/spec.l1Below -/
def m_spec_l1BelowW (K : Nat) (a0 : T_spec_l1Cur) (a1 : Int) : Option (Int × T_spec_l1Cur) := (bif (decide (a1 ≤ 0)) then some (0, a0) else (bif (decide (a1 ≤ 256)) then ((m_spec_l1ByteW K a0).bind fun r3 => (if a1 ≠ (0 : Int) then some ((Int.tmod r3.1 a1), r3.2) else none)) else ((m_spec_l1ByteW K a0).bind fun r5 => ((m_spec_l1ByteW K r5.2).bind fun r6 => ((m_spec_l1ByteW K r6.2).bind fun r7 => (if a1 ≠ (0 : Int) then some ((Int.tmod (iAdd .i64 (iAdd .i64 (iMul .i64 r5.1 65536) (iMul .i64 r6.1 256)) r7.1) a1), r7.2) else none))))))
set_option maxRecDepth 20000 in
set_option maxHeartbeats 8000000 in
theorem w_spec_l1BelowW (K : Nat) (a0 : T_spec_l1Cur) (a1 : Int) (r : Int × T_spec_l1Cur) (h : m_spec_l1BelowW K a0 a1 = some r) : Sp Try.prog 68 [.c (.ptr 1 0 0 0), .c (.int .i64 a1)] [⟨0, 3, [a0].map en_spec_l1Cur⟩] (.c (.int .i64 r.1)) [⟨0, 3, [r.2].map en_spec_l1Cur⟩] := by
  refine Sp.of_W tabOk Try.func68 rfl rfl (Nat.le_of_ble_eq_true rfl) (Nat.le_of_ble_eq_true rfl) fun F hP hN hm => ?_
  obtain ⟨P, N, w0, σ0, β0, m⟩ := F
  obtain rfl : P = Try.prog := hP
  obtain rfl : N = 31 := hN
  obtain rfl : m = 2 := hm
  have he : Env ⟨Try.prog, 31, w0, σ0, β0, 2⟩ tab := ⟨Nat.le_of_ble_eq_true rfl, tabOk⟩
  unfold m_spec_l1BelowW at h
  refine W_seq ?_
  refine W_regV he rfl ?_
  refine v0 (sA rfl [] rfl) rfl ?_
  refine ve ?_
  refine W2 [0, 1] [1] [] (l := [(0, .c (.ptr _ _ _ _)), (1, .c (.int _ _))]) (h := [(1, ⟨0, 3, [[.row _ _ _, .int _ _, .int _ _]]⟩)]) (h' := []) trivial rfl rfl rfl ?_
  refine W_seq ?_
  refine W_seq ?_
  refine W_regV he rfl ?_
  refine v0 (sM rfl [] rfl) rfl ?_
  refine vB (sBi rfl rfl rfl rfl) rfl rfl fun b1 hb1 => ?_
  cases b1 with
  | true =>
    replace h := brT hb1 h
    refine ve ?_
    refine W2 [0, 1, 9] [1] [] (l := [(0, .c (.ptr _ _ _ _)), (1, .c (.int _ _)), (9, .c (.bool true))]) (h := [(1, ⟨0, 3, [[.row _ _ _, .int _ _, .int _ _]]⟩)]) (h' := []) trivial rfl rfl rfl ?_
    refine W_true rfl ?_
    refine W_seq ?_
    refine W_regV he rfl ?_
    refine v0 (sA rfl [] rfl) rfl ?_
    refine ve ?_
    refine W2 [4] [1] [] (l := [(4, .c (.int _ _))]) (h := [(1, ⟨0, 3, [[.row _ _ _, .int _ _, .int _ _]]⟩)]) (h' := []) trivial rfl rfl rfl ?_
    obtain rfl := Option.some.inj h
    exact W_ret (retOne (l := [a0]) 1 1 (.inr ⟨rfl, rfl⟩) enOk_spec_l1Cur rfl rfl rfl)
  | false =>
    replace h := brF hb1 h
    refine ve ?_
    refine W2 [0, 1, 9] [1] [] (l := [(0, .c (.ptr _ _ _ _)), (1, .c (.int _ _)), (9, .c (.bool false))]) (h := [(1, ⟨0, 3, [[.row _ _ _, .int _ _, .int _ _]]⟩)]) (h' := []) trivial rfl rfl rfl ?_
    refine W_false rfl ?_
    refine W_skip ?_
    refine W_seq ?_
    refine W_seq ?_
    refine W_regV he rfl ?_
    refine v0 (sM rfl [] rfl) rfl ?_
    refine vB (sBi rfl rfl rfl rfl) rfl rfl fun b2 hb2 => ?_
    cases b2 with
    | true =>
      replace h := brT hb2 h
      refine ve ?_
      refine W2 [0, 1, 11] [1] [] (l := [(0, .c (.ptr _ _ _ _)), (1, .c (.int _ _)), (11, .c (.bool true))]) (h := [(1, ⟨0, 3, [[.row _ _ _, .int _ _, .int _ _]]⟩)]) (h' := []) trivial rfl rfl rfl ?_
      refine W_true rfl ?_
      refine W_seq ?_
      refine W_regV he rfl ?_
      refine v0 (sM rfl [] rfl) rfl ?_
      refine bndc h ?_; clear h; intro r3 hr3 h
      refine v0 (sCw (l := [a0]) (l' := [r3.2]) (w_spec_l1ByteW K a0 _ hr3) ok_spec_l1Byte enOk_spec_l1Cur rfl 1 rfl rfl rfl rfl rfl rfl) rfl ?_
      refine v0 (sM rfl [] rfl) rfl ?_
      refine chkc h ?_; clear h; intro c4 h
      refine v0 (sRe rfl rfl rfl c4) rfl ?_
      refine v0 (sA rfl [] rfl) rfl ?_
      refine ve ?_
      refine W2 [4] [1] [] (l := [(4, .c (.int _ _))]) (h := [(1, ⟨0, 3, [[.row _ _ _, .int _ _, .int _ _]]⟩)]) (h' := []) trivial rfl rfl rfl ?_
      obtain rfl := Option.some.inj h
      exact W_ret (retOne (l := [r3.2]) 1 1 (.inr ⟨rfl, rfl⟩) enOk_spec_l1Cur rfl rfl rfl)
    | false =>
      replace h := brF hb2 h
      refine ve ?_
      refine W2 [0, 1, 11] [1] [] (l := [(0, .c (.ptr _ _ _ _)), (1, .c (.int _ _)), (11, .c (.bool false))]) (h := [(1, ⟨0, 3, [[.row _ _ _, .int _ _, .int _ _]]⟩)]) (h' := []) trivial rfl rfl rfl ?_
      refine W_false rfl ?_
      refine W_skip ?_
      refine W_seq ?_
      refine W_regV he rfl ?_
      refine v0 (sM rfl [] rfl) rfl ?_
      refine bndc h ?_; clear h; intro r5 hr5 h
      refine v0 (sCw (l := [a0]) (l' := [r5.2]) (w_spec_l1ByteW K a0 _ hr5) ok_spec_l1Byte enOk_spec_l1Cur rfl 1 rfl rfl rfl rfl rfl rfl) rfl ?_
      refine v0 (sA rfl [] rfl) rfl ?_
      refine ve ?_
      refine W2 [0, 1, 5] [1] [] (l := [(0, .c (.ptr _ _ _ _)), (1, .c (.int _ _)), (5, .c (.int _ _))]) (h := [(1, ⟨0, 3, [[.row _ _ _, .int _ _, .int _ _]]⟩)]) (h' := []) trivial rfl rfl rfl ?_
      refine W_seq ?_
      refine W_regV he rfl ?_
      refine v0 (sM rfl [] rfl) rfl ?_
      refine bndc h ?_; clear h; intro r6 hr6 h
      refine v0 (sCw (l := [r5.2]) (l' := [r6.2]) (w_spec_l1ByteW K r5.2 _ hr6) ok_spec_l1Byte enOk_spec_l1Cur rfl 1 rfl rfl rfl rfl rfl rfl) rfl ?_
      refine v0 (sA rfl [] rfl) rfl ?_
      refine ve ?_
      refine W2 [0, 1, 5, 6] [1] [] (l := [(0, .c (.ptr _ _ _ _)), (1, .c (.int _ _)), (5, .c (.int _ _)), (6, .c (.int _ _))]) (h := [(1, ⟨0, 3, [[.row _ _ _, .int _ _, .int _ _]]⟩)]) (h' := []) trivial rfl rfl rfl ?_
      refine W_seq ?_
      refine W_regV he rfl ?_
      refine v0 (sM rfl [] rfl) rfl ?_
      refine bndc h ?_; clear h; intro r7 hr7 h
      refine v0 (sCw (l := [r6.2]) (l' := [r7.2]) (w_spec_l1ByteW K r6.2 _ hr7) ok_spec_l1Byte enOk_spec_l1Cur rfl 1 rfl rfl rfl rfl rfl rfl) rfl ?_
      refine v0 (sA rfl [] rfl) rfl ?_
      refine ve ?_
      refine W2 [1, 5, 6, 7] [1] [] (l := [(1, .c (.int _ _)), (5, .c (.int _ _)), (6, .c (.int _ _)), (7, .c (.int _ _))]) (h := [(1, ⟨0, 3, [[.row _ _ _, .int _ _, .int _ _]]⟩)]) (h' := []) trivial rfl rfl rfl ?_
      refine W_seq ?_
      refine W_regV he rfl ?_
      refine v0 (sM rfl [] rfl) rfl ?_
      refine v0 (sBi rfl rfl rfl rfl) rfl ?_
      refine v0 (sM rfl [] rfl) rfl ?_
      refine v0 (sBi rfl rfl rfl rfl) rfl ?_
      refine v0 (sBi rfl rfl rfl rfl) rfl ?_
      refine v0 (sM rfl [] rfl) rfl ?_
      refine v0 (sBi rfl rfl rfl rfl) rfl ?_
      refine v0 (sM rfl [] rfl) rfl ?_
      refine chkc h ?_; clear h; intro c8 h
      refine v0 (sRe rfl rfl rfl c8) rfl ?_
      refine v0 (sA rfl [] rfl) rfl ?_
      refine ve ?_
      refine W2 [4] [1] [] (l := [(4, .c (.int _ _))]) (h := [(1, ⟨0, 3, [[.row _ _ _, .int _ _, .int _ _]]⟩)]) (h' := []) trivial rfl rfl rfl ?_
      obtain rfl := Option.some.inj h
      exact W_ret (retOne (l := [r7.2]) 1 1 (.inr ⟨rfl, rfl⟩) enOk_spec_l1Cur rfl rfl rfl)
theorem ok_spec_l1Below : FnOk Try.prog 68 := ⟨_, Try.func68, rfl, rfl⟩


/-! ### loop.example/g00499/spec.l6Handle -/
def m_spec_l6HandleW (K : Nat) (a0 : T_spec_l1Cur) : Option (T_impl_Handle × T_spec_l1Cur) := ((m_spec_l1BelowW K a0 5).bind fun r1 => ((m_spec_l1BelowW K r1.2 3).bind fun r2 => some ((T_impl_Handle.mk r1.1 (iAdd .i64 1 r2.1)), r2.2)))
set_option maxRecDepth 20000 in
set_option maxHeartbeats 8000000 in
theorem w_spec_l6HandleW (K : Nat) (a0 : T_spec_l1Cur) (r : T_impl_Handle × T_spec_l1Cur) (h : m_spec_l6HandleW K a0 = some r) : Sp Try.prog 80 [.c (.ptr 1 0 0 0)] [⟨0, 3, [a0].map en_spec_l1Cur⟩] (.g [.int .i64 r.1.fSlot, .int .i64 r.1.fGen]) [⟨0, 3, [r.2].map en_spec_l1Cur⟩] := by
  refine Sp.of_W tabOk Try.func80 rfl rfl (Nat.le_of_ble_eq_true rfl) (Nat.le_of_ble_eq_true rfl) fun F hP hN hm => ?_
  obtain ⟨P, N, w0, σ0, β0, m⟩ := F
  obtain rfl : P = Try.prog := hP
  obtain rfl : N = 9 := hN
  obtain rfl : m = 2 := hm
  have he : Env ⟨Try.prog, 9, w0, σ0, β0, 2⟩ tab := ⟨Nat.le_of_ble_eq_true rfl, tabOk⟩
  unfold m_spec_l6HandleW at h
  refine W_seq ?_
  refine W_regV he rfl ?_
  refine v0 (sAl rfl rfl 101 rfl) rfl ?_
  refine ve ?_
  refine W2 [0, 2] [1, 101] [] (l := [(0, .c (.ptr _ _ _ _)), (2, .c (.ptr _ _ _ _))]) (h := [(1, ⟨0, 3, [[.row _ _ _, .int _ _, .int _ _]]⟩), (101, ⟨0, 2, [[.int _ _, .int _ _]]⟩)]) (h' := []) trivial rfl rfl rfl ?_
  refine W_seq ?_
  refine W_regV he rfl ?_
  refine v0 (sM rfl [] rfl) rfl ?_
  refine bndc h ?_; clear h; intro r1 hr1 h
  refine v0 (sCw (l := [a0]) (l' := [r1.2]) (w_spec_l1BelowW K a0 5 _ hr1) ok_spec_l1Below enOk_spec_l1Cur rfl 1 rfl rfl rfl rfl rfl rfl) rfl ?_
  refine v0 (sM rfl [] rfl) rfl ?_
  refine bndc h ?_; clear h; intro r2 hr2 h
  refine v0 (sCw (l := [r1.2]) (l' := [r2.2]) (w_spec_l1BelowW K r1.2 3 _ hr2) ok_spec_l1Below enOk_spec_l1Cur rfl 1 rfl rfl rfl rfl rfl rfl) rfl ?_
  refine v0 (sBi rfl rfl rfl rfl) rfl ?_
  refine v0 (sBd rfl [[], []] (out := [.int .i64 r1.1, .int .i64 (iAdd .i64 1 r2.1)]) rfl (by kernel_rfl)) rfl ?_
  refine v0 (sSt rfl rfl [] rfl rfl) rfl ?_
  refine ve ?_
  refine W2 [2] [1, 101] [] (l := [(2, .c (.ptr _ _ _ _))]) (h := [(1, ⟨0, 3, [[.row _ _ _, .int _ _, .int _ _]]⟩), (101, ⟨0, 2, [[.int _ _, .int _ _]]⟩)]) (h' := []) trivial rfl rfl rfl ?_
  obtain rfl := Option.some.inj h
  exact W_ret (retOne (l := [r2.2]) 1 1 (.inr ⟨rfl, rfl⟩) enOk_spec_l1Cur rfl rfl rfl)
theorem ok_spec_l6Handle : FnOk Try.prog 80 := ⟨_, Try.func80, rfl, rfl⟩


/-! ### loop.example/g00499/spec.l1Once -/
def m_spec_l1OnceW (K : Nat) (a0 : T_spec_l1Cur) (a1 : Int) : Option (Bool × T_spec_l1Cur) := ((m_spec_l1BelowW K a0 a1).bind fun r1 => some ((r1.1 == 0), r1.2))
set_option maxRecDepth 20000 in
set_option maxHeartbeats 8000000 in
theorem w_spec_l1OnceW (K : Nat) (a0 : T_spec_l1Cur) (a1 : Int) (r : Bool × T_spec_l1Cur) (h : m_spec_l1OnceW K a0 a1 = some r) : Sp Try.prog 70 [.c (.ptr 1 0 0 0), .c (.int .i64 a1)] [⟨0, 3, [a0].map en_spec_l1Cur⟩] (.c (.bool r.1)) [⟨0, 3, [r.2].map en_spec_l1Cur⟩] := by
  refine Sp.of_W tabOk Try.func70 rfl rfl (Nat.le_of_ble_eq_true rfl) (Nat.le_of_ble_eq_true rfl) fun F hP hN hm => ?_
  obtain ⟨P, N, w0, σ0, β0, m⟩ := F
  obtain rfl : P = Try.prog := hP
  obtain rfl : N = 9 := hN
  obtain rfl : m = 2 := hm
  have he : Env ⟨Try.prog, 9, w0, σ0, β0, 2⟩ tab := ⟨Nat.le_of_ble_eq_true rfl, tabOk⟩
  unfold m_spec_l1OnceW at h
  refine W_seq ?_
  refine W_regV he rfl ?_
  refine v0 (sA rfl [] rfl) rfl ?_
  refine ve ?_
  refine W2 [0, 1] [1] [] (l := [(0, .c (.ptr _ _ _ _)), (1, .c (.int _ _))]) (h := [(1, ⟨0, 3, [[.row _ _ _, .int _ _, .int _ _]]⟩)]) (h' := []) trivial rfl rfl rfl ?_
  refine W_seq ?_
  refine W_regV he rfl ?_
  refine v0 (sM rfl [] rfl) rfl ?_
  refine v0 (sM rfl [] rfl) rfl ?_
  refine bndc h ?_; clear h; intro r1 hr1 h
  refine v0 (sCw (l := [a0]) (l' := [r1.2]) (w_spec_l1BelowW K a0 a1 _ hr1) ok_spec_l1Below enOk_spec_l1Cur rfl 1 rfl rfl rfl rfl rfl rfl) rfl ?_
  refine v0 (sBi rfl rfl rfl rfl) rfl ?_
  refine v0 (sA rfl [] rfl) rfl ?_
  refine ve ?_
  refine W2 [4] [1] [] (l := [(4, .c (.bool _))]) (h := [(1, ⟨0, 3, [[.row _ _ _, .int _ _, .int _ _]]⟩)]) (h' := []) trivial rfl rfl rfl ?_
  obtain rfl := Option.some.inj h
  exact W_ret (retOne (l := [r1.2]) 1 1 (.inr ⟨rfl, rfl⟩) enOk_spec_l1Cur rfl rfl rfl)
theorem ok_spec_l1Once : FnOk Try.prog 70 := ⟨_, Try.func70, rfl, rfl⟩


/-! ### loop.example/g00499/spec.l1Int -/
def m_spec_l1IntW (K : Nat) (a0 : T_spec_l1Cur) (a1 : List Int) : Option (Int × T_spec_l1Cur) := ((m_spec_l1BelowW K a0 (a1.length : Int)).bind fun r1 => (if (0 : Int) ≤ r1.1 ∧ r1.1 < (a1.length : Int) then some ((gt a1 r1.1), r1.2) else none))
set_option maxRecDepth 20000 in
set_option maxHeartbeats 8000000 in
theorem w_spec_l1IntW (K : Nat) (a0 : T_spec_l1Cur) (a1 : List Int) (r : Int × T_spec_l1Cur) (h : m_spec_l1IntW K a0 a1 = some r) : Sp Try.prog 72 [.c (.ptr 1 0 0 0), .c (.row false 1 (a1.map en_i64))] [⟨0, 3, [a0].map en_spec_l1Cur⟩] (.c (.int .i64 r.1)) [⟨0, 3, [r.2].map en_spec_l1Cur⟩] := by
  refine Sp.of_W tabOk Try.func72 rfl rfl (Nat.le_of_ble_eq_true rfl) (Nat.le_of_ble_eq_true rfl) fun F hP hN hm => ?_
  obtain ⟨P, N, w0, σ0, β0, m⟩ := F
  obtain rfl : P = Try.prog := hP
  obtain rfl : N = 12 := hN
  obtain rfl : m = 2 := hm
  have he : Env ⟨Try.prog, 12, w0, σ0, β0, 2⟩ tab := ⟨Nat.le_of_ble_eq_true rfl, tabOk⟩
  unfold m_spec_l1IntW at h
  refine W_seq ?_
  refine W_regV he rfl ?_
  refine v0 (sA rfl [] rfl) rfl ?_
  refine ve ?_
  refine W2 [0, 1] [1] [] (l := [(0, .c (.ptr _ _ _ _)), (1, .c (.row _ _ _))]) (h := [(1, ⟨0, 3, [[.row _ _ _, .int _ _, .int _ _]]⟩)]) (h' := []) trivial rfl rfl rfl ?_
  refine W_seq ?_
  refine W_regV he rfl ?_
  refine v0 (sM rfl [] rfl) rfl ?_
  refine v0 (sM rfl [] rfl) rfl ?_
  refine v0 (sM rfl [] rfl) rfl ?_
  refine v0 (sLm rfl rfl rfl rfl) rfl ?_
  refine bndc h ?_; clear h; intro r1 hr1 h
  refine v0 (sCw (l := [a0]) (l' := [r1.2]) (w_spec_l1BelowW K a0 (a1.length : Int) _ hr1) ok_spec_l1Below enOk_spec_l1Cur rfl 1 rfl rfl rfl rfl rfl rfl) rfl ?_
  refine chkc h ?_; clear h; intro c2 h
  refine v0 (sIRm rfl rfl rfl rfl c2) rfl ?_
  refine v0 (sLI rfl rfl (en_i64 (gt a1 r1.1)) (gt_at _ c2) rfl rfl rfl) rfl ?_
  refine v0 (sA rfl [] rfl) rfl ?_
  refine ve ?_
  refine W2 [4] [1] [] (l := [(4, .c (.int _ _))]) (h := [(1, ⟨0, 3, [[.row _ _ _, .int _ _, .int _ _]]⟩)]) (h' := []) trivial rfl rfl rfl ?_
  obtain rfl := Option.some.inj h
  exact W_ret (retOne (l := [r1.2]) 1 1 (.inr ⟨rfl, rfl⟩) enOk_spec_l1Cur rfl rfl rfl)
theorem ok_spec_l1Int : FnOk Try.prog 72 := ⟨_, Try.func72, rfl, rfl⟩


/-! ### loop.example/g00499/spec.l1Bytes -/
def l_spec_l1BytesW_6 (K : Nat) (a1 : Int) : Nat → (List Int) → Int → (List Int) → Int → Int → Option ((List Int) × T_spec_l1Cur)
  | 0, _, _, _, _, _ => none
  | n6 + 1, v1, v2, v3, v4, v5 => (bif (decide (v2 < a1)) then ((m_spec_l1ByteW K (T_spec_l1Cur.mk v3 v4 v5)).bind fun r8 => (if (v1 ++ ([(IntKind.u8.wrap r8.1)] : List Int)).length * 1 ≤ 140737488355328 ∧ (v1 ++ ([(IntKind.u8.wrap r8.1)] : List Int)).length ≤ maxLen then (l_spec_l1BytesW_6 K a1 n6 (v1 ++ ([(IntKind.u8.wrap r8.1)] : List Int)) (iAdd .i64 v2 1) r8.2.fb r8.2.fi r8.2.fh) else none)) else some (v1, (T_spec_l1Cur.mk v3 v4 v5)))
def m_spec_l1BytesW (K : Nat) (a0 : T_spec_l1Cur) (a1 : Int) : Option ((List Int) × T_spec_l1Cur) := (l_spec_l1BytesW_6 K a1 K ([] : List Int) 0 a0.fb a0.fi a0.fh)
set_option maxRecDepth 20000 in
set_option maxHeartbeats 8000000 in
theorem w_spec_l1BytesW (K : Nat) (a0 : T_spec_l1Cur) (a1 : Int) (r : (List Int) × T_spec_l1Cur) (h : m_spec_l1BytesW K a0 a1 = some r) : Sp Try.prog 67 [.c (.ptr 1 0 0 0), .c (.int .i64 a1)] [⟨0, 3, [a0].map en_spec_l1Cur⟩] (.c (.row false 1 (r.1.map en_u8))) [⟨0, 3, [r.2].map en_spec_l1Cur⟩] := by
  refine Sp.of_W tabOk Try.func67 rfl rfl (Nat.le_of_ble_eq_true rfl) (Nat.le_of_ble_eq_true rfl) fun F hP hN hm => ?_
  obtain ⟨P, N, w0, σ0, β0, m⟩ := F
  obtain rfl : P = Try.prog := hP
  obtain rfl : N = 20 := hN
  obtain rfl : m = 2 := hm
  have he : Env ⟨Try.prog, 20, w0, σ0, β0, 2⟩ tab := ⟨Nat.le_of_ble_eq_true rfl, tabOk⟩
  unfold m_spec_l1BytesW at h
  refine W_seq ?_
  refine W_regV he rfl ?_
  refine v0 (sA rfl [1] rfl) rfl ?_
  refine ve ?_
  refine W2 [0, 1] [1] [] (l := [(0, .c (.ptr _ _ _ _)), (1, .c (.int _ _))]) (h := [(1, ⟨0, 3, [[.row _ _ _, .int _ _, .int _ _]]⟩)]) (h' := []) trivial rfl rfl rfl ?_
  refine W_seq ?_
  refine W_regV he rfl ?_
  refine v0 (sBS rfl 1005 (rows := ([] : List Int).map en_u8) rfl rfl rfl (by kernel_rfl) rfl rfl rfl rfl) rfl ?_
  refine v0 (sA rfl [] rfl) rfl ?_
  refine ve ?_
  refine W2 [0, 1, 5] [1] [1005] (l := [(0, .c (.ptr _ _ _ _)), (1, .c (.int _ _)), (5, .c (.own _ _ _ _))]) (h := [(1, ⟨0, 3, [[.row _ _ _, .int _ _, .int _ _]]⟩)]) (h' := [(1005, ⟨0, 1, ([] : List Int).map en_u8⟩)]) ⟨⟨_, rfl, enOk_u8.allClosed _ _ ([] : List Int)⟩, trivial⟩ rfl rfl rfl ?_
  refine W_seq ?_
  refine W_seq ?_
  refine W_regV he rfl ?_
  refine v0 (sA rfl [] rfl) rfl ?_
  refine ve ?_
  refine W2 [0, 1, 5, 6] [1] [1005] (l := [(0, .c (.ptr _ _ _ _)), (1, .c (.int _ _)), (5, .c (.own _ _ _ _)), (6, .c (.int _ _))]) (h := [(1, ⟨0, 3, [[.row _ _ _, .int _ _, .int _ _]]⟩)]) (h' := [(1005, ⟨0, 1, ([] : List Int).map en_u8⟩)]) ⟨⟨_, rfl, enOk_u8.allClosed _ _ ([] : List Int)⟩, trivial⟩ rfl rfl rfl ?_
  refine W_block ?_
  refine W2 [0, 1, 5, 6] [1] [1005] (l := [(0, .c (.ptr _ _ _ _)), (1, .c (.int _ _)), (5, .c (.own _ _ _ _)), (6, .c (.int _ _))]) (h := [(1, ⟨0, 3, [[.row _ _ _, .int _ _, .int _ _]]⟩)]) (h' := [(1005, ⟨0, 1, ([] : List Int).map en_u8⟩)]) ⟨⟨_, rfl, enOk_u8.allClosed _ _ ([] : List Int)⟩, trivial⟩ rfl rfl rfl ?_
  refine W_loopW (fun n6 S => ∃ (v1 : List Int), ∃ (v2 : Int), ∃ (v3 : List Int), ∃ (v4 : Int), ∃ (v5 : Int), S = StL [(0, .c (.ptr 1 0 0 0)), (1, .c (.int .i64 a1)), (5, .c (.own 1005 0 0 v1.length)), (6, .c (.int .i64 v2))] ([(1, ⟨0, 3, [[.row false 1 (v3.map en_u8), .int .i64 v4, .int .i64 v5]]⟩)] ++ [(1005, ⟨0, 1, v1.map en_u8⟩)]) ∧ l_spec_l1BytesW_6 K a1 n6 v1 v2 v3 v4 v5 = some r) K ⟨_, _, _, _, _, rfl, h⟩ ?_
  rintro n6 S ⟨v1, v2, v3, v4, v5, rfl, h⟩
  cases n6 with
  | zero => simp [l_spec_l1BytesW_6] at h
  | succ n6 =>
    rw [l_spec_l1BytesW_6] at h
    refine W_seq ?_
    refine W_seq ?_
    refine W_regV he rfl ?_
    refine v0 (sM rfl [] rfl) rfl ?_
    refine v0 (sM rfl [] rfl) rfl ?_
    refine vB (sBi rfl rfl rfl rfl) rfl rfl fun b7 hb7 => ?_
    cases b7 with
    | true =>
      replace h := brT hb7 h
      refine ve ?_
      refine W2 [0, 1, 5, 6, 10] [1] [1005] (l := [(0, .c (.ptr _ _ _ _)), (1, .c (.int _ _)), (5, .c (.own _ _ _ _)), (6, .c (.int _ _)), (10, .c (.bool true))]) (h := [(1, ⟨0, 3, [[.row _ _ _, .int _ _, .int _ _]]⟩)]) (h' := [(1005, ⟨0, 1, v1.map en_u8⟩)]) ⟨⟨_, rfl, enOk_u8.allClosed _ _ v1⟩, trivial⟩ rfl rfl rfl ?_
      refine W_true rfl ?_
      refine W_skip ?_
      refine W_seq ?_
      refine W_block ?_
      refine W_regV he rfl ?_
      refine v0 (sM rfl [] rfl) rfl ?_
      refine v0 (sM rfl [] rfl) rfl ?_
      refine bndc h ?_; clear h; intro r8 hr8 h
      refine v0 (sCw (l := [(T_spec_l1Cur.mk v3 v4 v5)]) (l' := [r8.2]) (w_spec_l1ByteW K (T_spec_l1Cur.mk v3 v4 v5) _ hr8) ok_spec_l1Byte enOk_spec_l1Cur rfl 1 rfl rfl rfl rfl rfl rfl) rfl ?_
      refine v0 (sCv rfl rfl rfl rfl rfl rfl) rfl ?_
      refine v0 (sBS rfl 1017 (rows := ([(IntKind.u8.wrap r8.1)] : List Int).map en_u8) rfl rfl rfl (by kernel_rfl) rfl rfl rfl rfl) rfl ?_
      refine chkc h ?_; clear h; intro c9 h
      refine v0 (sAo rfl 1005 v1 ([(IntKind.u8.wrap r8.1)] : List Int) enOk_u8 rfl rfl rfl rfl rfl rfl rfl rfl rfl rfl rfl c9) rfl ?_
      refine v0 (sA rfl [] rfl) rfl ?_
      refine ve ?_
      refine W2 [0, 1, 5, 6] [1] [1005] (l := [(0, .c (.ptr _ _ _ _)), (1, .c (.int _ _)), (5, .c (.own _ _ _ _)), (6, .c (.int _ _))]) (h := [(1, ⟨0, 3, [[.row _ _ _, .int _ _, .int _ _]]⟩)]) (h' := [(1005, ⟨0, 1, (v1 ++ ([(IntKind.u8.wrap r8.1)] : List Int)).map en_u8⟩)]) ⟨⟨_, rfl, enOk_u8.allClosed _ _ (v1 ++ ([(IntKind.u8.wrap r8.1)] : List Int))⟩, trivial⟩ rfl rfl rfl ?_
      refine W_regV he rfl ?_
      refine v0 (sM rfl [] rfl) rfl ?_
      refine v0 (sBi rfl rfl rfl rfl) rfl ?_
      refine v0 (sA rfl [] rfl) rfl ?_
      refine ve ?_
      exact ⟨n6, _, Nat.lt_succ_self n6, wk2 [0, 1, 5, 6] [1] [1005] (l := [(0, .c (.ptr _ _ _ _)), (1, .c (.int _ _)), (5, .c (.own _ _ _ _)), (6, .c (.int _ _))]) (h := [(1, ⟨0, 3, [[.row _ _ _, .int _ _, .int _ _]]⟩)]) (h' := [(1005, ⟨0, 1, (v1 ++ ([(IntKind.u8.wrap r8.1)] : List Int)).map en_u8⟩)]) ⟨⟨_, rfl, enOk_u8.allClosed _ _ (v1 ++ ([(IntKind.u8.wrap r8.1)] : List Int))⟩, trivial⟩ rfl rfl rfl, _, _, _, _, _, rfl, h⟩
    | false =>
      replace h := brF hb7 h
      refine ve ?_
      refine W2 [0, 1, 5, 6, 10] [1] [1005] (l := [(0, .c (.ptr _ _ _ _)), (1, .c (.int _ _)), (5, .c (.own _ _ _ _)), (6, .c (.int _ _)), (10, .c (.bool false))]) (h := [(1, ⟨0, 3, [[.row _ _ _, .int _ _, .int _ _]]⟩)]) (h' := [(1005, ⟨0, 1, v1.map en_u8⟩)]) ⟨⟨_, rfl, enOk_u8.allClosed _ _ v1⟩, trivial⟩ rfl rfl rfl ?_
      refine W_false rfl ?_
      refine W_exit (ex_then (ex_then (ex_hit ?_)))
      refine W_seq ?_
      refine W_regV he rfl ?_
      refine v0 (sM rfl [] rfl) rfl ?_
      refine v0 (sA rfl [] rfl) rfl ?_
      refine ve ?_
      refine W2 [4] [1] [1005] (l := [(4, .c (.own _ _ _ _))]) (h := [(1, ⟨0, 3, [[.row _ _ _, .int _ _, .int _ _]]⟩)]) (h' := [(1005, ⟨0, 1, v1.map en_u8⟩)]) ⟨⟨_, rfl, enOk_u8.allClosed _ _ v1⟩, trivial⟩ rfl rfl rfl ?_
      obtain rfl := Option.some.inj h
      refine W.weak (wk_row (l := v1) 4 enOk_u8 rfl rfl) ?_
      exact W_ret (retOne (l := [(T_spec_l1Cur.mk v3 v4 v5)]) 1 1 (.inr ⟨rfl, rfl⟩) enOk_spec_l1Cur rfl rfl rfl)
theorem ok_spec_l1Bytes : FnOk Try.prog 67 := ⟨_, Try.func67, rfl, rfl⟩


/-! ### loop.example/g00499/spec.l21Draw -/
def j_spec_l21DrawW_5 (K : Nat) (v106 : List Int) (v107 : Int) (v108 : Int) (v109 : Int) (v110 : Int) (v111 : Int) (v112 : Int) (v113 : Int) (v114 : Int) (v115 : Int) (v116 : Int) (v117 : Int) (v118 : List Int) : Option (T_impl_Op × T_spec_l1Cur) := some ((T_impl_Op.mk v109 (T_impl_Handle.mk v110 v111) (T_impl_Ref.mk (T_impl_Handle.mk v112 v113) v114 v115) v116 v117 v118), (T_spec_l1Cur.mk v106 v107 v108))
def j_spec_l21DrawW_122 (K : Nat) (r1 : Int × T_spec_l1Cur) (r2 : T_impl_Handle × T_spec_l1Cur) (r3 : Int × T_spec_l1Cur) (r4 : Int × T_spec_l1Cur) (v223 : Bool) : Option (T_impl_Op × T_spec_l1Cur) := (bif v223 then j_spec_l21DrawW_5 K r4.2.fb r4.2.fi r4.2.fh (iAdd .i64 1 r1.1) r2.1.fSlot r2.1.fGen 0 0 0 0 0 0 [] else (bif ((iAdd .i64 1 r1.1) == 2) then ((m_spec_l1IntW K r4.2 ([1, 2, 3, 5, 8, 9, 17, 20, 0, 201] : List Int)).bind fun r226 => ((m_spec_l1IntW K r226.2 ([1, 1, 2, 4, 3] : List Int)).bind fun r227 => j_spec_l21DrawW_5 K r227.2.fb r227.2.fi r227.2.fh (iAdd .i64 1 r1.1) r2.1.fSlot r2.1.fGen 0 0 0 0 r226.1 r227.1 [])) else (bif ((iAdd .i64 1 r1.1) == 3) then ((m_spec_l1BelowW K r4.2 4).bind fun r229 => ((m_spec_l1BelowW K r229.2 5).bind fun r230 => j_spec_l21DrawW_5 K r230.2.fb r230.2.fi r230.2.fh (iAdd .i64 1 r1.1) 0 0 r2.1.fSlot r2.1.fGen r3.1 r4.1 r229.1 r230.1 [])) else (bif ((iAdd .i64 1 r1.1) == 4) then ((m_spec_l1BelowW K r4.2 4).bind fun r232 => ((m_spec_l1BelowW K r232.2 4).bind fun r233 => ((m_spec_l1BytesW K r233.2 r233.1).bind fun r234 => j_spec_l21DrawW_5 K r234.2.fb r234.2.fi r234.2.fh (iAdd .i64 1 r1.1) 0 0 r2.1.fSlot r2.1.fGen r3.1 r4.1 r232.1 0 r234.1))) else (bif ((iAdd .i64 1 r1.1) == 5) then ((m_spec_l1IntW K r4.2 ([1, 7, 255, 256] : List Int)).bind fun r236 => j_spec_l21DrawW_5 K r236.2.fb r236.2.fi r236.2.fh (iAdd .i64 1 r1.1) r2.1.fSlot r2.1.fGen 0 0 0 0 r236.1 0 []) else j_spec_l21DrawW_5 K r4.2.fb r4.2.fi r4.2.fh (iAdd .i64 1 r1.1) 0 0 0 0 0 0 0 0 [])))))
def m_spec_l21DrawW (K : Nat) (a0 : T_spec_l1Cur) : Option (T_impl_Op × T_spec_l1Cur) := ((m_spec_l1BelowW K a0 9).bind fun r1 => ((m_spec_l6HandleW K r1.2).bind fun r2 => ((m_spec_l1BelowW K r2.2 2).bind fun r3 => ((m_spec_l1BelowW K r3.2 3).bind fun r4 => (bif ((iAdd .i64 1 r1.1) == 1) then ((m_spec_l1OnceW K r4.2 2).bind fun r120 => (bif r120.1 then j_spec_l21DrawW_5 K r120.2.fb r120.2.fi r120.2.fh (iAdd .i64 1 r1.1) r2.1.fSlot r2.1.fGen 0 0 0 0 0 0 [] else j_spec_l21DrawW_5 K r120.2.fb r120.2.fi r120.2.fh (iAdd .i64 1 r1.1) 0 0 0 0 0 0 0 0 [])) else (bif ((iAdd .i64 1 r1.1) == 6) then j_spec_l21DrawW_122 K r1 r2 r3 r4 ((iAdd .i64 1 r1.1) == 6) else (bif ((iAdd .i64 1 r1.1) == 7) then j_spec_l21DrawW_122 K r1 r2 r3 r4 ((iAdd .i64 1 r1.1) == 7) else j_spec_l21DrawW_122 K r1 r2 r3 r4 ((iAdd .i64 1 r1.1) == 8))))))))
set_option maxRecDepth 20000 in
set_option maxHeartbeats 8000000 in
theorem w_spec_l21DrawW (K : Nat) (a0 : T_spec_l1Cur) (r : T_impl_Op × T_spec_l1Cur) (h : m_spec_l21DrawW K a0 = some r) : Sp Try.prog 75 [.c (.ptr 1 0 0 0)] [⟨0, 3, [a0].map en_spec_l1Cur⟩] (.g [.int .i64 r.1.fKind, .int .i64 r.1.fH.fSlot, .int .i64 r.1.fH.fGen, .int .i64 r.1.fR.fH.fSlot, .int .i64 r.1.fR.fH.fGen, .int .i64 r.1.fR.fEp, .int .i64 r.1.fR.fNo, .int .i64 r.1.fN, .int .i64 r.1.fM, .row false 1 (r.1.fB.map en_u8)]) [⟨0, 3, [r.2].map en_spec_l1Cur⟩] := by
  refine Sp.of_W tabOk Try.func75 rfl rfl (Nat.le_of_ble_eq_true rfl) (Nat.le_of_ble_eq_true rfl) fun F hP hN hm => ?_
  obtain ⟨P, N, w0, σ0, β0, m⟩ := F
  obtain rfl : P = Try.prog := hP
  obtain rfl : N = 75 := hN
  obtain rfl : m = 2 := hm
  have he : Env ⟨Try.prog, 75, w0, σ0, β0, 2⟩ tab := ⟨Nat.le_of_ble_eq_true rfl, tabOk⟩
  unfold m_spec_l21DrawW at h
  refine W_seq ?_
  refine W_regV he rfl ?_
  refine v0 (sAl rfl rfl 101 rfl) rfl ?_
  refine ve ?_
  refine W2 [0, 2] [1, 101] [] (l := [(0, .c (.ptr _ _ _ _)), (2, .c (.ptr _ _ _ _))]) (h := [(1, ⟨0, 3, [[.row _ _ _, .int _ _, .int _ _]]⟩), (101, ⟨0, 10, [[.int _ _, .int _ _, .int _ _, .int _ _, .int _ _, .int _ _, .int _ _, .int _ _, .int _ _, .row _ _ _]]⟩)]) (h' := []) trivial rfl rfl rfl ?_
  refine W_seq ?_
  refine W_regV he rfl ?_
  refine v0 (sM rfl [] rfl) rfl ?_
  refine bndc h ?_; clear h; intro r1 hr1 h
  refine v0 (sCw (l := [a0]) (l' := [r1.2]) (w_spec_l1BelowW K a0 9 _ hr1) ok_spec_l1Below enOk_spec_l1Cur rfl 1 rfl rfl rfl rfl rfl rfl) rfl ?_
  refine v0 (sBi rfl rfl rfl rfl) rfl ?_
  refine v0 (sBd rfl [[]] (out := [.int .i64 (iAdd .i64 1 r1.1), .int .i64 0, .int .i64 0, .int .i64 0, .int .i64 0, .int .i64 0, .int .i64 0, .int .i64 0, .int .i64 0, .row true 1 []]) rfl (by kernel_rfl)) rfl ?_
  refine v0 (sAl rfl rfl 102 rfl) rfl ?_
  refine v0 (sSt rfl rfl [] rfl rfl) rfl ?_
  refine ve ?_
  refine W2 [0, 2, 3] [1, 101, 102] [] (l := [(0, .c (.ptr _ _ _ _)), (2, .c (.ptr _ _ _ _)), (3, .c (.ptr _ _ _ _))]) (h := [(1, ⟨0, 3, [[.row _ _ _, .int _ _, .int _ _]]⟩), (101, ⟨0, 10, [[.int _ _, .int _ _, .int _ _, .int _ _, .int _ _, .int _ _, .int _ _, .int _ _, .int _ _, .row _ _ _]]⟩), (102, ⟨0, 10, [[.int _ _, .int _ _, .int _ _, .int _ _, .int _ _, .int _ _, .int _ _, .int _ _, .int _ _, .row _ _ _]]⟩)]) (h' := []) trivial rfl rfl rfl ?_
  refine W_seq ?_
  refine W_regV he rfl ?_
  refine v0 (sM rfl [] rfl) rfl ?_
  refine bndc h ?_; clear h; intro r2 hr2 h
  refine v0 (sCw (l := [r1.2]) (l' := [r2.2]) (w_spec_l6HandleW K r1.2 _ hr2) ok_spec_l6Handle enOk_spec_l1Cur rfl 1 rfl rfl rfl rfl rfl rfl) rfl ?_
  refine v0 (sAl rfl rfl 103 rfl) rfl ?_
  refine v0 (sSt rfl rfl [] rfl rfl) rfl ?_
  refine ve ?_
  refine W2 [0, 2, 3, 4] [1, 101, 102, 103] [] (l := [(0, .c (.ptr _ _ _ _)), (2, .c (.ptr _ _ _ _)), (3, .c (.ptr _ _ _ _)), (4, .c (.ptr _ _ _ _))]) (h := [(1, ⟨0, 3, [[.row _ _ _, .int _ _, .int _ _]]⟩), (101, ⟨0, 10, [[.int _ _, .int _ _, .int _ _, .int _ _, .int _ _, .int _ _, .int _ _, .int _ _, .int _ _, .row _ _ _]]⟩), (102, ⟨0, 10, [[.int _ _, .int _ _, .int _ _, .int _ _, .int _ _, .int _ _, .int _ _, .int _ _, .int _ _, .row _ _ _]]⟩), (103, ⟨0, 2, [[.int _ _, .int _ _]]⟩)]) (h' := []) trivial rfl rfl rfl ?_
  refine W_seq ?_
  refine W_regD he rfl rfl rfl ?_
  refine g0 (sLd rfl rfl) rfl ?_
  refine g0 (sM rfl [] rfl) rfl ?_
  refine bndc h ?_; clear h; intro r3 hr3 h
  refine g0 (sCw (l := [r2.2]) (l' := [r3.2]) (w_spec_l1BelowW K r2.2 2 _ hr3) ok_spec_l1Below enOk_spec_l1Cur rfl 1 rfl rfl rfl rfl rfl rfl) rfl ?_
  refine g0 (sM rfl [] rfl) rfl ?_
  refine bndc h ?_; clear h; intro r4 hr4 h
  refine g0 (sCw (l := [r3.2]) (l' := [r4.2]) (w_spec_l1BelowW K r3.2 3 _ hr4) ok_spec_l1Below enOk_spec_l1Cur rfl 1 rfl rfl rfl rfl rfl rfl) rfl ?_
  refine g0 (sBd rfl [[], [], []] (out := [.int .i64 r2.1.fSlot, .int .i64 r2.1.fGen, .int .i64 r3.1, .int .i64 r4.1]) rfl (by kernel_rfl)) rfl ?_
  refine g0 (sAl rfl rfl 104 rfl) rfl ?_
  refine g0 (sSt rfl rfl [] rfl rfl) rfl ?_
  refine ge ⟨rfl, ?_⟩
  refine W2 [0, 2, 3, 4, 5] [1, 101, 102, 103, 104] [] (l := [(0, .c (.ptr _ _ _ _)), (2, .c (.ptr _ _ _ _)), (3, .c (.ptr _ _ _ _)), (4, .c (.ptr _ _ _ _)), (5, .c (.ptr _ _ _ _))]) (h := [(1, ⟨0, 3, [[.row _ _ _, .int _ _, .int _ _]]⟩), (101, ⟨0, 10, [[.int _ _, .int _ _, .int _ _, .int _ _, .int _ _, .int _ _, .int _ _, .int _ _, .int _ _, .row _ _ _]]⟩), (102, ⟨0, 10, [[.int _ _, .int _ _, .int _ _, .int _ _, .int _ _, .int _ _, .int _ _, .int _ _, .int _ _, .row _ _ _]]⟩), (103, ⟨0, 2, [[.int _ _, .int _ _]]⟩), (104, ⟨0, 4, [[.int _ _, .int _ _, .int _ _, .int _ _]]⟩)]) (h' := []) trivial rfl rfl rfl ?_
  refine W_join (fun S => ∃ (v106 : List Int), ∃ (v107 : Int), ∃ (v108 : Int), ∃ (v109 : Int), ∃ (v110 : Int), ∃ (v111 : Int), ∃ (v112 : Int), ∃ (v113 : Int), ∃ (v114 : Int), ∃ (v115 : Int), ∃ (v116 : Int), ∃ (v117 : Int), ∃ (v118 : List Int), S = StL [(2, .c (.ptr 101 0 0 0)), (3, .c (.ptr 102 0 0 0))] ([(1, ⟨0, 3, [[.row false 1 (v106.map en_u8), .int .i64 v107, .int .i64 v108]]⟩), (101, ⟨0, 10, [[.int .i64 0, .int .i64 0, .int .i64 0, .int .i64 0, .int .i64 0, .int .i64 0, .int .i64 0, .int .i64 0, .int .i64 0, .row true 1 []]]⟩), (102, ⟨0, 10, [[.int .i64 v109, .int .i64 v110, .int .i64 v111, .int .i64 v112, .int .i64 v113, .int .i64 v114, .int .i64 v115, .int .i64 v116, .int .i64 v117, .row false 1 (v118.map en_u8)]]⟩)] ++ []) ∧ j_spec_l21DrawW_5 K v106 v107 v108 v109 v110 v111 v112 v113 v114 v115 v116 v117 v118 = some r) ?_ ?_
  · rintro S ⟨v106, v107, v108, v109, v110, v111, v112, v113, v114, v115, v116, v117, v118, rfl, h⟩
    unfold j_spec_l21DrawW_5 at h
    refine W_seq ?_
    refine W_regV he rfl ?_
    refine v0 (sLd rfl rfl) rfl ?_
    refine v0 (sSt rfl rfl [] rfl rfl) rfl ?_
    refine ve ?_
    refine W2 [2] [1, 101] [] (l := [(2, .c (.ptr _ _ _ _))]) (h := [(1, ⟨0, 3, [[.row _ _ _, .int _ _, .int _ _]]⟩), (101, ⟨0, 10, [[.int _ _, .int _ _, .int _ _, .int _ _, .int _ _, .int _ _, .int _ _, .int _ _, .int _ _, .row _ _ _]]⟩)]) (h' := []) trivial rfl rfl rfl ?_
    obtain rfl := Option.some.inj h
    exact W_ret (retOne (l := [(T_spec_l1Cur.mk v106 v107 v108)]) 1 1 (.inr ⟨rfl, rfl⟩) enOk_spec_l1Cur rfl rfl rfl)
  ·
    refine W_seq ?_
    refine W_regV he rfl ?_
    refine v0 (sFP rfl rfl rfl) rfl ?_
    refine v0 (sLd rfl rfl) rfl ?_
    refine ve ?_
    refine W2 [0, 2, 3, 4, 5, 19] [1, 101, 102, 103, 104] [] (l := [(0, .c (.ptr _ _ _ _)), (2, .c (.ptr _ _ _ _)), (3, .c (.ptr _ _ _ _)), (4, .c (.ptr _ _ _ _)), (5, .c (.ptr _ _ _ _)), (19, .c (.int _ _))]) (h := [(1, ⟨0, 3, [[.row _ _ _, .int _ _, .int _ _]]⟩), (101, ⟨0, 10, [[.int _ _, .int _ _, .int _ _, .int _ _, .int _ _, .int _ _, .int _ _, .int _ _, .int _ _, .row _ _ _]]⟩), (102, ⟨0, 10, [[.int _ _, .int _ _, .int _ _, .int _ _, .int _ _, .int _ _, .int _ _, .int _ _, .int _ _, .row _ _ _]]⟩), (103, ⟨0, 2, [[.int _ _, .int _ _]]⟩), (104, ⟨0, 4, [[.int _ _, .int _ _, .int _ _, .int _ _]]⟩)]) (h' := []) trivial rfl rfl rfl ?_
    refine W_block ?_
    refine W_seq ?_
    refine W_regV he rfl ?_
    refine v0 (sBi rfl rfl rfl rfl) rfl ?_
    refine v0 (sA rfl [] rfl) rfl ?_
    refine ve ?_
    refine W2 [0, 2, 3, 4, 5, 19, 20] [1, 101, 102, 103, 104] [] (l := [(0, .c (.ptr _ _ _ _)), (2, .c (.ptr _ _ _ _)), (3, .c (.ptr _ _ _ _)), (4, .c (.ptr _ _ _ _)), (5, .c (.ptr _ _ _ _)), (19, .c (.int _ _)), (20, .c (.bool _))]) (h := [(1, ⟨0, 3, [[.row _ _ _, .int _ _, .int _ _]]⟩), (101, ⟨0, 10, [[.int _ _, .int _ _, .int _ _, .int _ _, .int _ _, .int _ _, .int _ _, .int _ _, .int _ _, .row _ _ _]]⟩), (102, ⟨0, 10, [[.int _ _, .int _ _, .int _ _, .int _ _, .int _ _, .int _ _, .int _ _, .int _ _, .int _ _, .row _ _ _]]⟩), (103, ⟨0, 2, [[.int _ _, .int _ _]]⟩), (104, ⟨0, 4, [[.int _ _, .int _ _, .int _ _, .int _ _]]⟩)]) (h' := []) trivial rfl rfl rfl ?_
    refine W_condB rfl (fun hb119 => ?_) (fun hb119 => ?_)
    ·
      replace h := brT hb119 h
      refine W_seq ?_
      refine W_regV he rfl ?_
      refine v0 (sM rfl [] rfl) rfl ?_
      refine bndc h ?_; clear h; intro r120 hr120 h
      refine vB (sCw (l := [r4.2]) (l' := [r120.2]) (w_spec_l1OnceW K r4.2 2 _ hr120) ok_spec_l1Once enOk_spec_l1Cur rfl 1 rfl rfl rfl rfl rfl rfl) rfl rfl fun b121 hb121 => ?_
      cases b121 with
      | true =>
        replace h := brT hb121 h
        refine ve ?_
        refine W2 [2, 3, 4, 23] [1, 101, 102, 103] [] (l := [(2, .c (.ptr _ _ _ _)), (3, .c (.ptr _ _ _ _)), (4, .c (.ptr _ _ _ _)), (23, .c (.bool true))]) (h := [(1, ⟨0, 3, [[.row _ _ _, .int _ _, .int _ _]]⟩), (101, ⟨0, 10, [[.int _ _, .int _ _, .int _ _, .int _ _, .int _ _, .int _ _, .int _ _, .int _ _, .int _ _, .row _ _ _]]⟩), (102, ⟨0, 10, [[.int _ _, .int _ _, .int _ _, .int _ _, .int _ _, .int _ _, .int _ _, .int _ _, .int _ _, .row _ _ _]]⟩), (103, ⟨0, 2, [[.int _ _, .int _ _]]⟩)]) (h' := []) trivial rfl rfl rfl ?_
        refine W_true rfl ?_
        refine W_regV he rfl ?_
        refine v0 (sLd rfl rfl) rfl ?_
        refine v0 (sFP rfl rfl rfl) rfl ?_
        refine v0 (sSt rfl rfl [] rfl rfl) rfl ?_
        refine ve ?_
        exact ⟨_, (wk_cold 102 rfl).trans (wk2 [2, 3] [1, 101, 102] [] (l := [(2, .c (.ptr _ _ _ _)), (3, .c (.ptr _ _ _ _))]) (h := [(1, ⟨0, 3, [[.row _ _ _, .int _ _, .int _ _]]⟩), (101, ⟨0, 10, [[.int _ _, .int _ _, .int _ _, .int _ _, .int _ _, .int _ _, .int _ _, .int _ _, .int _ _, .row _ _ _]]⟩), (102, ⟨0, 10, [[.int _ _, .int _ _, .int _ _, .int _ _, .int _ _, .int _ _, .int _ _, .int _ _, .int _ _, .row _ _ _]]⟩)]) (h' := []) trivial rfl rfl rfl), _, _, _, _, _, _, _, _, _, _, _, _, _, rfl, h⟩
      | false =>
        replace h := brF hb121 h
        refine ve ?_
        refine W2 [2, 3, 4, 23] [1, 101, 102, 103] [] (l := [(2, .c (.ptr _ _ _ _)), (3, .c (.ptr _ _ _ _)), (4, .c (.ptr _ _ _ _)), (23, .c (.bool false))]) (h := [(1, ⟨0, 3, [[.row _ _ _, .int _ _, .int _ _]]⟩), (101, ⟨0, 10, [[.int _ _, .int _ _, .int _ _, .int _ _, .int _ _, .int _ _, .int _ _, .int _ _, .int _ _, .row _ _ _]]⟩), (102, ⟨0, 10, [[.int _ _, .int _ _, .int _ _, .int _ _, .int _ _, .int _ _, .int _ _, .int _ _, .int _ _, .row _ _ _]]⟩), (103, ⟨0, 2, [[.int _ _, .int _ _]]⟩)]) (h' := []) trivial rfl rfl rfl ?_
        refine W_false rfl ?_
        refine W_skip ?_
        exact ⟨_, (wk_cold 102 rfl).trans (wk2 [2, 3] [1, 101, 102] [] (l := [(2, .c (.ptr _ _ _ _)), (3, .c (.ptr _ _ _ _))]) (h := [(1, ⟨0, 3, [[.row _ _ _, .int _ _, .int _ _]]⟩), (101, ⟨0, 10, [[.int _ _, .int _ _, .int _ _, .int _ _, .int _ _, .int _ _, .int _ _, .int _ _, .int _ _, .row _ _ _]]⟩), (102, ⟨0, 10, [[.int _ _, .int _ _, .int _ _, .int _ _, .int _ _, .int _ _, .int _ _, .int _ _, .int _ _, .row _ _ _]]⟩)]) (h' := []) trivial rfl rfl rfl), _, _, _, _, _, _, _, _, _, _, _, _, _, rfl, h⟩
    ·
      replace h := brF hb119 h
      refine W_join (fun S => ∃ (v223 : Bool), S = StL [(0, .c (.ptr 1 0 0 0)), (2, .c (.ptr 101 0 0 0)), (3, .c (.ptr 102 0 0 0)), (4, .c (.ptr 103 0 0 0)), (5, .c (.ptr 104 0 0 0)), (19, .c (.int .i64 (iAdd .i64 1 r1.1))), (26, .c (.bool v223))] ([(1, ⟨0, 3, [[.row false 1 (r4.2.fb.map en_u8), .int .i64 r4.2.fi, .int .i64 r4.2.fh]]⟩), (101, ⟨0, 10, [[.int .i64 0, .int .i64 0, .int .i64 0, .int .i64 0, .int .i64 0, .int .i64 0, .int .i64 0, .int .i64 0, .int .i64 0, .row true 1 []]]⟩), (102, ⟨0, 10, [[.int .i64 (iAdd .i64 1 r1.1), .int .i64 0, .int .i64 0, .int .i64 0, .int .i64 0, .int .i64 0, .int .i64 0, .int .i64 0, .int .i64 0, .row true 1 []]]⟩), (103, ⟨0, 2, [[.int .i64 r2.1.fSlot, .int .i64 r2.1.fGen]]⟩), (104, ⟨0, 4, [[.int .i64 r2.1.fSlot, .int .i64 r2.1.fGen, .int .i64 r3.1, .int .i64 r4.1]]⟩)] ++ []) ∧ j_spec_l21DrawW_122 K r1 r2 r3 r4 v223 = some r) ?_ ?_
      · rintro S ⟨v223, rfl, h⟩
        unfold j_spec_l21DrawW_122 at h
        refine W_condB rfl (fun hb224 => ?_) (fun hb224 => ?_)
        ·
          replace h := brT hb224 h
          refine W_regV he rfl ?_
          refine v0 (sLd rfl rfl) rfl ?_
          refine v0 (sFP rfl rfl rfl) rfl ?_
          refine v0 (sSt rfl rfl [] rfl rfl) rfl ?_
          refine ve ?_
          exact ⟨_, (wk_cold 102 rfl).trans (wk2 [2, 3] [1, 101, 102] [] (l := [(2, .c (.ptr _ _ _ _)), (3, .c (.ptr _ _ _ _))]) (h := [(1, ⟨0, 3, [[.row _ _ _, .int _ _, .int _ _]]⟩), (101, ⟨0, 10, [[.int _ _, .int _ _, .int _ _, .int _ _, .int _ _, .int _ _, .int _ _, .int _ _, .int _ _, .row _ _ _]]⟩), (102, ⟨0, 10, [[.int _ _, .int _ _, .int _ _, .int _ _, .int _ _, .int _ _, .int _ _, .int _ _, .int _ _, .row _ _ _]]⟩)]) (h' := []) trivial rfl rfl rfl), _, _, _, _, _, _, _, _, _, _, _, _, _, rfl, h⟩
        ·
          replace h := brF hb224 h
          refine W_seq ?_
          refine W_regV he rfl ?_
          refine v0 (sBi rfl rfl rfl rfl) rfl ?_
          refine v0 (sA rfl [] rfl) rfl ?_
          refine ve ?_
          refine W2 [0, 2, 3, 4, 5, 19, 32] [1, 101, 102, 103, 104] [] (l := [(0, .c (.ptr _ _ _ _)), (2, .c (.ptr _ _ _ _)), (3, .c (.ptr _ _ _ _)), (4, .c (.ptr _ _ _ _)), (5, .c (.ptr _ _ _ _)), (19, .c (.int _ _)), (32, .c (.bool _))]) (h := [(1, ⟨0, 3, [[.row _ _ _, .int _ _, .int _ _]]⟩), (101, ⟨0, 10, [[.int _ _, .int _ _, .int _ _, .int _ _, .int _ _, .int _ _, .int _ _, .int _ _, .int _ _, .row _ _ _]]⟩), (102, ⟨0, 10, [[.int _ _, .int _ _, .int _ _, .int _ _, .int _ _, .int _ _, .int _ _, .int _ _, .int _ _, .row _ _ _]]⟩), (103, ⟨0, 2, [[.int _ _, .int _ _]]⟩), (104, ⟨0, 4, [[.int _ _, .int _ _, .int _ _, .int _ _]]⟩)]) (h' := []) trivial rfl rfl rfl ?_
          refine W_condB rfl (fun hb225 => ?_) (fun hb225 => ?_)
          ·
            replace h := brT hb225 h
            refine W_seq ?_
            refine W_regV he rfl ?_
            refine v0 (sLd rfl rfl) rfl ?_
            refine v0 (sFP rfl rfl rfl) rfl ?_
            refine v0 (sSt rfl rfl [] rfl rfl) rfl ?_
            refine ve ?_
            refine W2 [0, 2, 3] [1, 101, 102] [] (l := [(0, .c (.ptr _ _ _ _)), (2, .c (.ptr _ _ _ _)), (3, .c (.ptr _ _ _ _))]) (h := [(1, ⟨0, 3, [[.row _ _ _, .int _ _, .int _ _]]⟩), (101, ⟨0, 10, [[.int _ _, .int _ _, .int _ _, .int _ _, .int _ _, .int _ _, .int _ _, .int _ _, .int _ _, .row _ _ _]]⟩), (102, ⟨0, 10, [[.int _ _, .int _ _, .int _ _, .int _ _, .int _ _, .int _ _, .int _ _, .int _ _, .int _ _, .row _ _ _]]⟩)]) (h' := []) trivial rfl rfl rfl ?_
            refine W_seq ?_
            refine W_regV he rfl ?_
            refine v0 (sM rfl [] rfl) rfl ?_
            refine v0 (sBS rfl 1037 (rows := ([1, 2, 3, 5, 8, 9, 17, 20, 0, 201] : List Int).map en_i64) rfl rfl rfl (by kernel_rfl) rfl rfl rfl rfl) rfl ?_
            refine vWk (wk_row (l := ([1, 2, 3, 5, 8, 9, 17, 20, 0, 201] : List Int)) 37 enOk_i64 rfl rfl) ?_
            refine bndc h ?_; clear h; intro r226 hr226 h
            refine v0 (sCw (l := [r4.2]) (l' := [r226.2]) (w_spec_l1IntW K r4.2 ([1, 2, 3, 5, 8, 9, 17, 20, 0, 201] : List Int) _ hr226) ok_spec_l1Int enOk_spec_l1Cur rfl 1 rfl rfl rfl rfl rfl rfl) rfl ?_
            refine v0 (sFP rfl rfl rfl) rfl ?_
            refine v0 (sSt rfl rfl [] rfl rfl) rfl ?_
            refine ve ?_
            refine W2 [0, 2, 3] [1, 101, 102] [] (l := [(0, .c (.ptr _ _ _ _)), (2, .c (.ptr _ _ _ _)), (3, .c (.ptr _ _ _ _))]) (h := [(1, ⟨0, 3, [[.row _ _ _, .int _ _, .int _ _]]⟩), (101, ⟨0, 10, [[.int _ _, .int _ _, .int _ _, .int _ _, .int _ _, .int _ _, .int _ _, .int _ _, .int _ _, .row _ _ _]]⟩), (102, ⟨0, 10, [[.int _ _, .int _ _, .int _ _, .int _ _, .int _ _, .int _ _, .int _ _, .int _ _, .int _ _, .row _ _ _]]⟩)]) (h' := []) trivial rfl rfl rfl ?_
            refine W_regV he rfl ?_
            refine v0 (sM rfl [] rfl) rfl ?_
            refine v0 (sBS rfl 1041 (rows := ([1, 1, 2, 4, 3] : List Int).map en_i64) rfl rfl rfl (by kernel_rfl) rfl rfl rfl rfl) rfl ?_
            refine vWk (wk_row (l := ([1, 1, 2, 4, 3] : List Int)) 41 enOk_i64 rfl rfl) ?_
            refine bndc h ?_; clear h; intro r227 hr227 h
            refine v0 (sCw (l := [r226.2]) (l' := [r227.2]) (w_spec_l1IntW K r226.2 ([1, 1, 2, 4, 3] : List Int) _ hr227) ok_spec_l1Int enOk_spec_l1Cur rfl 1 rfl rfl rfl rfl rfl rfl) rfl ?_
            refine v0 (sFP rfl rfl rfl) rfl ?_
            refine v0 (sSt rfl rfl [] rfl rfl) rfl ?_
            refine ve ?_
            exact ⟨_, (wk_cold 102 rfl).trans (wk2 [2, 3] [1, 101, 102] [] (l := [(2, .c (.ptr _ _ _ _)), (3, .c (.ptr _ _ _ _))]) (h := [(1, ⟨0, 3, [[.row _ _ _, .int _ _, .int _ _]]⟩), (101, ⟨0, 10, [[.int _ _, .int _ _, .int _ _, .int _ _, .int _ _, .int _ _, .int _ _, .int _ _, .int _ _, .row _ _ _]]⟩), (102, ⟨0, 10, [[.int _ _, .int _ _, .int _ _, .int _ _, .int _ _, .int _ _, .int _ _, .int _ _, .int _ _, .row _ _ _]]⟩)]) (h' := []) trivial rfl rfl rfl), _, _, _, _, _, _, _, _, _, _, _, _, _, rfl, h⟩
          ·
            replace h := brF hb225 h
            refine W_seq ?_
            refine W_regV he rfl ?_
            refine v0 (sBi rfl rfl rfl rfl) rfl ?_
            refine v0 (sA rfl [] rfl) rfl ?_
            refine ve ?_
            refine W2 [0, 2, 3, 4, 5, 19, 44] [1, 101, 102, 103, 104] [] (l := [(0, .c (.ptr _ _ _ _)), (2, .c (.ptr _ _ _ _)), (3, .c (.ptr _ _ _ _)), (4, .c (.ptr _ _ _ _)), (5, .c (.ptr _ _ _ _)), (19, .c (.int _ _)), (44, .c (.bool _))]) (h := [(1, ⟨0, 3, [[.row _ _ _, .int _ _, .int _ _]]⟩), (101, ⟨0, 10, [[.int _ _, .int _ _, .int _ _, .int _ _, .int _ _, .int _ _, .int _ _, .int _ _, .int _ _, .row _ _ _]]⟩), (102, ⟨0, 10, [[.int _ _, .int _ _, .int _ _, .int _ _, .int _ _, .int _ _, .int _ _, .int _ _, .int _ _, .row _ _ _]]⟩), (103, ⟨0, 2, [[.int _ _, .int _ _]]⟩), (104, ⟨0, 4, [[.int _ _, .int _ _, .int _ _, .int _ _]]⟩)]) (h' := []) trivial rfl rfl rfl ?_
            refine W_condB rfl (fun hb228 => ?_) (fun hb228 => ?_)
            ·
              replace h := brT hb228 h
              refine W_seq ?_
              refine W_regV he rfl ?_
              refine v0 (sLd rfl rfl) rfl ?_
              refine v0 (sFP rfl rfl rfl) rfl ?_
              refine v0 (sSt rfl rfl [] rfl rfl) rfl ?_
              refine ve ?_
              refine W2 [0, 2, 3] [1, 101, 102] [] (l := [(0, .c (.ptr _ _ _ _)), (2, .c (.ptr _ _ _ _)), (3, .c (.ptr _ _ _ _))]) (h := [(1, ⟨0, 3, [[.row _ _ _, .int _ _, .int _ _]]⟩), (101, ⟨0, 10, [[.int _ _, .int _ _, .int _ _, .int _ _, .int _ _, .int _ _, .int _ _, .int _ _, .int _ _, .row _ _ _]]⟩), (102, ⟨0, 10, [[.int _ _, .int _ _, .int _ _, .int _ _, .int _ _, .int _ _, .int _ _, .int _ _, .int _ _, .row _ _ _]]⟩)]) (h' := []) trivial rfl rfl rfl ?_
              refine W_seq ?_
              refine W_regV he rfl ?_
              refine v0 (sM rfl [] rfl) rfl ?_
              refine bndc h ?_; clear h; intro r229 hr229 h
              refine v0 (sCw (l := [r4.2]) (l' := [r229.2]) (w_spec_l1BelowW K r4.2 4 _ hr229) ok_spec_l1Below enOk_spec_l1Cur rfl 1 rfl rfl rfl rfl rfl rfl) rfl ?_
              refine v0 (sFP rfl rfl rfl) rfl ?_
              refine v0 (sSt rfl rfl [] rfl rfl) rfl ?_
              refine ve ?_
              refine W2 [0, 2, 3] [1, 101, 102] [] (l := [(0, .c (.ptr _ _ _ _)), (2, .c (.ptr _ _ _ _)), (3, .c (.ptr _ _ _ _))]) (h := [(1, ⟨0, 3, [[.row _ _ _, .int _ _, .int _ _]]⟩), (101, ⟨0, 10, [[.int _ _, .int _ _, .int _ _, .int _ _, .int _ _, .int _ _, .int _ _, .int _ _, .int _ _, .row _ _ _]]⟩), (102, ⟨0, 10, [[.int _ _, .int _ _, .int _ _, .int _ _, .int _ _, .int _ _, .int _ _, .int _ _, .int _ _, .row _ _ _]]⟩)]) (h' := []) trivial rfl rfl rfl ?_
              refine W_regV he rfl ?_
              refine v0 (sM rfl [] rfl) rfl ?_
              refine bndc h ?_; clear h; intro r230 hr230 h
              refine v0 (sCw (l := [r229.2]) (l' := [r230.2]) (w_spec_l1BelowW K r229.2 5 _ hr230) ok_spec_l1Below enOk_spec_l1Cur rfl 1 rfl rfl rfl rfl rfl rfl) rfl ?_
              refine v0 (sFP rfl rfl rfl) rfl ?_
              refine v0 (sSt rfl rfl [] rfl rfl) rfl ?_
              refine ve ?_
              exact ⟨_, (wk_cold 102 rfl).trans (wk2 [2, 3] [1, 101, 102] [] (l := [(2, .c (.ptr _ _ _ _)), (3, .c (.ptr _ _ _ _))]) (h := [(1, ⟨0, 3, [[.row _ _ _, .int _ _, .int _ _]]⟩), (101, ⟨0, 10, [[.int _ _, .int _ _, .int _ _, .int _ _, .int _ _, .int _ _, .int _ _, .int _ _, .int _ _, .row _ _ _]]⟩), (102, ⟨0, 10, [[.int _ _, .int _ _, .int _ _, .int _ _, .int _ _, .int _ _, .int _ _, .int _ _, .int _ _, .row _ _ _]]⟩)]) (h' := []) trivial rfl rfl rfl), _, _, _, _, _, _, _, _, _, _, _, _, _, rfl, h⟩
            ·
              replace h := brF hb228 h
              refine W_seq ?_
              refine W_regV he rfl ?_
              refine v0 (sBi rfl rfl rfl rfl) rfl ?_
              refine v0 (sA rfl [] rfl) rfl ?_
              refine ve ?_
              refine W2 [0, 2, 3, 4, 5, 19, 54] [1, 101, 102, 103, 104] [] (l := [(0, .c (.ptr _ _ _ _)), (2, .c (.ptr _ _ _ _)), (3, .c (.ptr _ _ _ _)), (4, .c (.ptr _ _ _ _)), (5, .c (.ptr _ _ _ _)), (19, .c (.int _ _)), (54, .c (.bool _))]) (h := [(1, ⟨0, 3, [[.row _ _ _, .int _ _, .int _ _]]⟩), (101, ⟨0, 10, [[.int _ _, .int _ _, .int _ _, .int _ _, .int _ _, .int _ _, .int _ _, .int _ _, .int _ _, .row _ _ _]]⟩), (102, ⟨0, 10, [[.int _ _, .int _ _, .int _ _, .int _ _, .int _ _, .int _ _, .int _ _, .int _ _, .int _ _, .row _ _ _]]⟩), (103, ⟨0, 2, [[.int _ _, .int _ _]]⟩), (104, ⟨0, 4, [[.int _ _, .int _ _, .int _ _, .int _ _]]⟩)]) (h' := []) trivial rfl rfl rfl ?_
              refine W_condB rfl (fun hb231 => ?_) (fun hb231 => ?_)
              ·
                replace h := brT hb231 h
                refine W_seq ?_
                refine W_regV he rfl ?_
                refine v0 (sLd rfl rfl) rfl ?_
                refine v0 (sFP rfl rfl rfl) rfl ?_
                refine v0 (sSt rfl rfl [] rfl rfl) rfl ?_
                refine ve ?_
                refine W2 [0, 2, 3] [1, 101, 102] [] (l := [(0, .c (.ptr _ _ _ _)), (2, .c (.ptr _ _ _ _)), (3, .c (.ptr _ _ _ _))]) (h := [(1, ⟨0, 3, [[.row _ _ _, .int _ _, .int _ _]]⟩), (101, ⟨0, 10, [[.int _ _, .int _ _, .int _ _, .int _ _, .int _ _, .int _ _, .int _ _, .int _ _, .int _ _, .row _ _ _]]⟩), (102, ⟨0, 10, [[.int _ _, .int _ _, .int _ _, .int _ _, .int _ _, .int _ _, .int _ _, .int _ _, .int _ _, .row _ _ _]]⟩)]) (h' := []) trivial rfl rfl rfl ?_
                refine W_seq ?_
                refine W_regV he rfl ?_
                refine v0 (sM rfl [] rfl) rfl ?_
                refine bndc h ?_; clear h; intro r232 hr232 h
                refine v0 (sCw (l := [r4.2]) (l' := [r232.2]) (w_spec_l1BelowW K r4.2 4 _ hr232) ok_spec_l1Below enOk_spec_l1Cur rfl 1 rfl rfl rfl rfl rfl rfl) rfl ?_
                refine v0 (sFP rfl rfl rfl) rfl ?_
                refine v0 (sSt rfl rfl [] rfl rfl) rfl ?_
                refine ve ?_
                refine W2 [0, 2, 3] [1, 101, 102] [] (l := [(0, .c (.ptr _ _ _ _)), (2, .c (.ptr _ _ _ _)), (3, .c (.ptr _ _ _ _))]) (h := [(1, ⟨0, 3, [[.row _ _ _, .int _ _, .int _ _]]⟩), (101, ⟨0, 10, [[.int _ _, .int _ _, .int _ _, .int _ _, .int _ _, .int _ _, .int _ _, .int _ _, .int _ _, .row _ _ _]]⟩), (102, ⟨0, 10, [[.int _ _, .int _ _, .int _ _, .int _ _, .int _ _, .int _ _, .int _ _, .int _ _, .int _ _, .row _ _ _]]⟩)]) (h' := []) trivial rfl rfl rfl ?_
                refine W_regV he rfl ?_
                refine v0 (sM rfl [] rfl) rfl ?_
                refine v0 (sM rfl [] rfl) rfl ?_
                refine bndc h ?_; clear h; intro r233 hr233 h
                refine v0 (sCw (l := [r232.2]) (l' := [r233.2]) (w_spec_l1BelowW K r232.2 4 _ hr233) ok_spec_l1Below enOk_spec_l1Cur rfl 1 rfl rfl rfl rfl rfl rfl) rfl ?_
                refine bndc h ?_; clear h; intro r234 hr234 h
                refine v0 (sCw (l := [r233.2]) (l' := [r234.2]) (w_spec_l1BytesW K r233.2 r233.1 _ hr234) ok_spec_l1Bytes enOk_spec_l1Cur rfl 1 rfl rfl rfl rfl rfl rfl) rfl ?_
                refine v0 (sFP rfl rfl rfl) rfl ?_
                refine v0 (sSt rfl rfl [] rfl rfl) rfl ?_
                refine ve ?_
                exact ⟨_, wk2 [2, 3] [1, 101, 102] [] (l := [(2, .c (.ptr _ _ _ _)), (3, .c (.ptr _ _ _ _))]) (h := [(1, ⟨0, 3, [[.row _ _ _, .int _ _, .int _ _]]⟩), (101, ⟨0, 10, [[.int _ _, .int _ _, .int _ _, .int _ _, .int _ _, .int _ _, .int _ _, .int _ _, .int _ _, .row _ _ _]]⟩), (102, ⟨0, 10, [[.int _ _, .int _ _, .int _ _, .int _ _, .int _ _, .int _ _, .int _ _, .int _ _, .int _ _, .row _ _ _]]⟩)]) (h' := []) trivial rfl rfl rfl, _, _, _, _, _, _, _, _, _, _, _, _, _, rfl, h⟩
              ·
                replace h := brF hb231 h
                refine W_seq ?_
                refine W_regV he rfl ?_
                refine v0 (sBi rfl rfl rfl rfl) rfl ?_
                refine v0 (sA rfl [] rfl) rfl ?_
                refine ve ?_
                refine W2 [0, 2, 3, 4, 66] [1, 101, 102, 103] [] (l := [(0, .c (.ptr _ _ _ _)), (2, .c (.ptr _ _ _ _)), (3, .c (.ptr _ _ _ _)), (4, .c (.ptr _ _ _ _)), (66, .c (.bool _))]) (h := [(1, ⟨0, 3, [[.row _ _ _, .int _ _, .int _ _]]⟩), (101, ⟨0, 10, [[.int _ _, .int _ _, .int _ _, .int _ _, .int _ _, .int _ _, .int _ _, .int _ _, .int _ _, .row _ _ _]]⟩), (102, ⟨0, 10, [[.int _ _, .int _ _, .int _ _, .int _ _, .int _ _, .int _ _, .int _ _, .int _ _, .int _ _, .row _ _ _]]⟩), (103, ⟨0, 2, [[.int _ _, .int _ _]]⟩)]) (h' := []) trivial rfl rfl rfl ?_
                refine W_condB rfl (fun hb235 => ?_) (fun hb235 => ?_)
                ·
                  replace h := brT hb235 h
                  refine W_seq ?_
                  refine W_regV he rfl ?_
                  refine v0 (sLd rfl rfl) rfl ?_
                  refine v0 (sFP rfl rfl rfl) rfl ?_
                  refine v0 (sSt rfl rfl [] rfl rfl) rfl ?_
                  refine ve ?_
                  refine W2 [0, 2, 3] [1, 101, 102] [] (l := [(0, .c (.ptr _ _ _ _)), (2, .c (.ptr _ _ _ _)), (3, .c (.ptr _ _ _ _))]) (h := [(1, ⟨0, 3, [[.row _ _ _, .int _ _, .int _ _]]⟩), (101, ⟨0, 10, [[.int _ _, .int _ _, .int _ _, .int _ _, .int _ _, .int _ _, .int _ _, .int _ _, .int _ _, .row _ _ _]]⟩), (102, ⟨0, 10, [[.int _ _, .int _ _, .int _ _, .int _ _, .int _ _, .int _ _, .int _ _, .int _ _, .int _ _, .row _ _ _]]⟩)]) (h' := []) trivial rfl rfl rfl ?_
                  refine W_regV he rfl ?_
                  refine v0 (sM rfl [] rfl) rfl ?_
                  refine v0 (sBS rfl 1071 (rows := ([1, 7, 255, 256] : List Int).map en_i64) rfl rfl rfl (by kernel_rfl) rfl rfl rfl rfl) rfl ?_
                  refine vWk (wk_row (l := ([1, 7, 255, 256] : List Int)) 71 enOk_i64 rfl rfl) ?_
                  refine bndc h ?_; clear h; intro r236 hr236 h
                  refine v0 (sCw (l := [r4.2]) (l' := [r236.2]) (w_spec_l1IntW K r4.2 ([1, 7, 255, 256] : List Int) _ hr236) ok_spec_l1Int enOk_spec_l1Cur rfl 1 rfl rfl rfl rfl rfl rfl) rfl ?_
                  refine v0 (sFP rfl rfl rfl) rfl ?_
                  refine v0 (sSt rfl rfl [] rfl rfl) rfl ?_
                  refine ve ?_
                  exact ⟨_, (wk_cold 102 rfl).trans (wk2 [2, 3] [1, 101, 102] [] (l := [(2, .c (.ptr _ _ _ _)), (3, .c (.ptr _ _ _ _))]) (h := [(1, ⟨0, 3, [[.row _ _ _, .int _ _, .int _ _]]⟩), (101, ⟨0, 10, [[.int _ _, .int _ _, .int _ _, .int _ _, .int _ _, .int _ _, .int _ _, .int _ _, .int _ _, .row _ _ _]]⟩), (102, ⟨0, 10, [[.int _ _, .int _ _, .int _ _, .int _ _, .int _ _, .int _ _, .int _ _, .int _ _, .int _ _, .row _ _ _]]⟩)]) (h' := []) trivial rfl rfl rfl), _, _, _, _, _, _, _, _, _, _, _, _, _, rfl, h⟩
                ·
                  replace h := brF hb235 h
                  refine W_skip ?_
                  exact ⟨_, (wk_cold 102 rfl).trans (wk2 [2, 3] [1, 101, 102] [] (l := [(2, .c (.ptr _ _ _ _)), (3, .c (.ptr _ _ _ _))]) (h := [(1, ⟨0, 3, [[.row _ _ _, .int _ _, .int _ _]]⟩), (101, ⟨0, 10, [[.int _ _, .int _ _, .int _ _, .int _ _, .int _ _, .int _ _, .int _ _, .int _ _, .int _ _, .row _ _ _]]⟩), (102, ⟨0, 10, [[.int _ _, .int _ _, .int _ _, .int _ _, .int _ _, .int _ _, .int _ _, .int _ _, .int _ _, .row _ _ _]]⟩)]) (h' := []) trivial rfl rfl rfl), _, _, _, _, _, _, _, _, _, _, _, _, _, rfl, h⟩
      ·
        refine W_seq ?_
        refine W_regV he rfl ?_
        refine v0 (sBi rfl rfl rfl rfl) rfl ?_
        refine v0 (sA rfl [] rfl) rfl ?_
        refine ve ?_
        refine W2 [0, 2, 3, 4, 5, 19, 26] [1, 101, 102, 103, 104] [] (l := [(0, .c (.ptr _ _ _ _)), (2, .c (.ptr _ _ _ _)), (3, .c (.ptr _ _ _ _)), (4, .c (.ptr _ _ _ _)), (5, .c (.ptr _ _ _ _)), (19, .c (.int _ _)), (26, .c (.bool _))]) (h := [(1, ⟨0, 3, [[.row _ _ _, .int _ _, .int _ _]]⟩), (101, ⟨0, 10, [[.int _ _, .int _ _, .int _ _, .int _ _, .int _ _, .int _ _, .int _ _, .int _ _, .int _ _, .row _ _ _]]⟩), (102, ⟨0, 10, [[.int _ _, .int _ _, .int _ _, .int _ _, .int _ _, .int _ _, .int _ _, .int _ _, .int _ _, .row _ _ _]]⟩), (103, ⟨0, 2, [[.int _ _, .int _ _]]⟩), (104, ⟨0, 4, [[.int _ _, .int _ _, .int _ _, .int _ _]]⟩)]) (h' := []) trivial rfl rfl rfl ?_
        refine W_condB rfl (fun hb237 => ?_) (fun hb237 => ?_)
        ·
          replace h := brT hb237 h
          refine W_skip ?_
          exact ⟨_, wk2 [0, 2, 3, 4, 5, 19, 26] [1, 101, 102, 103, 104] [] (l := [(0, .c (.ptr _ _ _ _)), (2, .c (.ptr _ _ _ _)), (3, .c (.ptr _ _ _ _)), (4, .c (.ptr _ _ _ _)), (5, .c (.ptr _ _ _ _)), (19, .c (.int _ _)), (26, .c (.bool _))]) (h := [(1, ⟨0, 3, [[.row _ _ _, .int _ _, .int _ _]]⟩), (101, ⟨0, 10, [[.int _ _, .int _ _, .int _ _, .int _ _, .int _ _, .int _ _, .int _ _, .int _ _, .int _ _, .row _ _ _]]⟩), (102, ⟨0, 10, [[.int _ _, .int _ _, .int _ _, .int _ _, .int _ _, .int _ _, .int _ _, .int _ _, .int _ _, .row _ _ _]]⟩), (103, ⟨0, 2, [[.int _ _, .int _ _]]⟩), (104, ⟨0, 4, [[.int _ _, .int _ _, .int _ _, .int _ _]]⟩)]) (h' := []) trivial rfl rfl rfl, _, rfl, h⟩
        ·
          replace h := brF hb237 h
          refine W_seq ?_
          refine W_regV he rfl ?_
          refine v0 (sBi rfl rfl rfl rfl) rfl ?_
          refine v0 (sA rfl [] rfl) rfl ?_
          refine ve ?_
          refine W2 [0, 2, 3, 4, 5, 19, 26] [1, 101, 102, 103, 104] [] (l := [(0, .c (.ptr _ _ _ _)), (2, .c (.ptr _ _ _ _)), (3, .c (.ptr _ _ _ _)), (4, .c (.ptr _ _ _ _)), (5, .c (.ptr _ _ _ _)), (19, .c (.int _ _)), (26, .c (.bool _))]) (h := [(1, ⟨0, 3, [[.row _ _ _, .int _ _, .int _ _]]⟩), (101, ⟨0, 10, [[.int _ _, .int _ _, .int _ _, .int _ _, .int _ _, .int _ _, .int _ _, .int _ _, .int _ _, .row _ _ _]]⟩), (102, ⟨0, 10, [[.int _ _, .int _ _, .int _ _, .int _ _, .int _ _, .int _ _, .int _ _, .int _ _, .int _ _, .row _ _ _]]⟩), (103, ⟨0, 2, [[.int _ _, .int _ _]]⟩), (104, ⟨0, 4, [[.int _ _, .int _ _, .int _ _, .int _ _]]⟩)]) (h' := []) trivial rfl rfl rfl ?_
          refine W_condB rfl (fun hb238 => ?_) (fun hb238 => ?_)
          ·
            replace h := brT hb238 h
            refine W_skip ?_
            exact ⟨_, wk2 [0, 2, 3, 4, 5, 19, 26] [1, 101, 102, 103, 104] [] (l := [(0, .c (.ptr _ _ _ _)), (2, .c (.ptr _ _ _ _)), (3, .c (.ptr _ _ _ _)), (4, .c (.ptr _ _ _ _)), (5, .c (.ptr _ _ _ _)), (19, .c (.int _ _)), (26, .c (.bool _))]) (h := [(1, ⟨0, 3, [[.row _ _ _, .int _ _, .int _ _]]⟩), (101, ⟨0, 10, [[.int _ _, .int _ _, .int _ _, .int _ _, .int _ _, .int _ _, .int _ _, .int _ _, .int _ _, .row _ _ _]]⟩), (102, ⟨0, 10, [[.int _ _, .int _ _, .int _ _, .int _ _, .int _ _, .int _ _, .int _ _, .int _ _, .int _ _, .row _ _ _]]⟩), (103, ⟨0, 2, [[.int _ _, .int _ _]]⟩), (104, ⟨0, 4, [[.int _ _, .int _ _, .int _ _, .int _ _]]⟩)]) (h' := []) trivial rfl rfl rfl, _, rfl, h⟩
          ·
            replace h := brF hb238 h
            refine W_regV he rfl ?_
            refine v0 (sBi rfl rfl rfl rfl) rfl ?_
            refine v0 (sA rfl [] rfl) rfl ?_
            refine ve ?_
            exact ⟨_, wk2 [0, 2, 3, 4, 5, 19, 26] [1, 101, 102, 103, 104] [] (l := [(0, .c (.ptr _ _ _ _)), (2, .c (.ptr _ _ _ _)), (3, .c (.ptr _ _ _ _)), (4, .c (.ptr _ _ _ _)), (5, .c (.ptr _ _ _ _)), (19, .c (.int _ _)), (26, .c (.bool _))]) (h := [(1, ⟨0, 3, [[.row _ _ _, .int _ _, .int _ _]]⟩), (101, ⟨0, 10, [[.int _ _, .int _ _, .int _ _, .int _ _, .int _ _, .int _ _, .int _ _, .int _ _, .int _ _, .row _ _ _]]⟩), (102, ⟨0, 10, [[.int _ _, .int _ _, .int _ _, .int _ _, .int _ _, .int _ _, .int _ _, .int _ _, .int _ _, .row _ _ _]]⟩), (103, ⟨0, 2, [[.int _ _, .int _ _]]⟩), (104, ⟨0, 4, [[.int _ _, .int _ _, .int _ _, .int _ _]]⟩)]) (h' := []) trivial rfl rfl rfl, _, rfl, h⟩
theorem ok_spec_l21Draw : FnOk Try.prog 75 := ⟨_, Try.func75, rfl, rfl⟩


/-! ### loop.example/g00499/spec.l1Bytes -/
set_option maxRecDepth 20000 in
set_option maxHeartbeats 8000000 in
theorem wx_spec_l1BytesW (K : Nat) (a0 : T_spec_l1Cur) (a1 : Int) (r : (List Int) × T_spec_l1Cur) (h : m_spec_l1BytesW K a0 a1 = some r) : Sp Try.prog 67 [.c (.ptr 1 0 0 0), .c (.int .i64 a1)] [⟨0, 3, [a0].map en_spec_l1Cur⟩] (.c (.own 2 0 0 r.1.length)) [⟨0, 3, [r.2].map en_spec_l1Cur⟩, ⟨0, 1, r.1.map en_u8⟩] := by
  refine Sp.of_W tabOk Try.func67 rfl rfl (Nat.le_of_ble_eq_true rfl) (Nat.le_of_ble_eq_true rfl) fun F hP hN hm => ?_
  obtain ⟨P, N, w0, σ0, β0, m⟩ := F
  obtain rfl : P = Try.prog := hP
  obtain rfl : N = 20 := hN
  obtain rfl : m = 2 := hm
  have he : Env ⟨Try.prog, 20, w0, σ0, β0, 2⟩ tab := ⟨Nat.le_of_ble_eq_true rfl, tabOk⟩
  unfold m_spec_l1BytesW at h
  refine W_seq ?_
  refine W_regV he rfl ?_
  refine v0 (sA rfl [1] rfl) rfl ?_
  refine ve ?_
  refine W2 [0, 1] [1] [] (l := [(0, .c (.ptr _ _ _ _)), (1, .c (.int _ _))]) (h := [(1, ⟨0, 3, [[.row _ _ _, .int _ _, .int _ _]]⟩)]) (h' := []) trivial rfl rfl rfl ?_
  refine W_seq ?_
  refine W_regV he rfl ?_
  refine v0 (sBS rfl 1005 (rows := ([] : List Int).map en_u8) rfl rfl rfl (by kernel_rfl) rfl rfl rfl rfl) rfl ?_
  refine v0 (sA rfl [] rfl) rfl ?_
  refine ve ?_
  refine W2 [0, 1, 5] [1] [1005] (l := [(0, .c (.ptr _ _ _ _)), (1, .c (.int _ _)), (5, .c (.own _ _ _ _))]) (h := [(1, ⟨0, 3, [[.row _ _ _, .int _ _, .int _ _]]⟩)]) (h' := [(1005, ⟨0, 1, ([] : List Int).map en_u8⟩)]) ⟨⟨_, rfl, enOk_u8.allClosed _ _ ([] : List Int)⟩, trivial⟩ rfl rfl rfl ?_
  refine W_seq ?_
  refine W_seq ?_
  refine W_regV he rfl ?_
  refine v0 (sA rfl [] rfl) rfl ?_
  refine ve ?_
  refine W2 [0, 1, 5, 6] [1] [1005] (l := [(0, .c (.ptr _ _ _ _)), (1, .c (.int _ _)), (5, .c (.own _ _ _ _)), (6, .c (.int _ _))]) (h := [(1, ⟨0, 3, [[.row _ _ _, .int _ _, .int _ _]]⟩)]) (h' := [(1005, ⟨0, 1, ([] : List Int).map en_u8⟩)]) ⟨⟨_, rfl, enOk_u8.allClosed _ _ ([] : List Int)⟩, trivial⟩ rfl rfl rfl ?_
  refine W_block ?_
  refine W2 [0, 1, 5, 6] [1] [1005] (l := [(0, .c (.ptr _ _ _ _)), (1, .c (.int _ _)), (5, .c (.own _ _ _ _)), (6, .c (.int _ _))]) (h := [(1, ⟨0, 3, [[.row _ _ _, .int _ _, .int _ _]]⟩)]) (h' := [(1005, ⟨0, 1, ([] : List Int).map en_u8⟩)]) ⟨⟨_, rfl, enOk_u8.allClosed _ _ ([] : List Int)⟩, trivial⟩ rfl rfl rfl ?_
  refine W_loopW (fun n6 S => ∃ (v1 : List Int), ∃ (v2 : Int), ∃ (v3 : List Int), ∃ (v4 : Int), ∃ (v5 : Int), S = StL [(0, .c (.ptr 1 0 0 0)), (1, .c (.int .i64 a1)), (5, .c (.own 1005 0 0 v1.length)), (6, .c (.int .i64 v2))] ([(1, ⟨0, 3, [[.row false 1 (v3.map en_u8), .int .i64 v4, .int .i64 v5]]⟩)] ++ [(1005, ⟨0, 1, v1.map en_u8⟩)]) ∧ l_spec_l1BytesW_6 K a1 n6 v1 v2 v3 v4 v5 = some r) K ⟨_, _, _, _, _, rfl, h⟩ ?_
  rintro n6 S ⟨v1, v2, v3, v4, v5, rfl, h⟩
  cases n6 with
  | zero => simp [l_spec_l1BytesW_6] at h
  | succ n6 =>
    rw [l_spec_l1BytesW_6] at h
    refine W_seq ?_
    refine W_seq ?_
    refine W_regV he rfl ?_
    refine v0 (sM rfl [] rfl) rfl ?_
    refine v0 (sM rfl [] rfl) rfl ?_
    refine vB (sBi rfl rfl rfl rfl) rfl rfl fun b7 hb7 => ?_
    cases b7 with
    | true =>
      replace h := brT hb7 h
      refine ve ?_
      refine W2 [0, 1, 5, 6, 10] [1] [1005] (l := [(0, .c (.ptr _ _ _ _)), (1, .c (.int _ _)), (5, .c (.own _ _ _ _)), (6, .c (.int _ _)), (10, .c (.bool true))]) (h := [(1, ⟨0, 3, [[.row _ _ _, .int _ _, .int _ _]]⟩)]) (h' := [(1005, ⟨0, 1, v1.map en_u8⟩)]) ⟨⟨_, rfl, enOk_u8.allClosed _ _ v1⟩, trivial⟩ rfl rfl rfl ?_
      refine W_true rfl ?_
      refine W_skip ?_
      refine W_seq ?_
      refine W_block ?_
      refine W_regV he rfl ?_
      refine v0 (sM rfl [] rfl) rfl ?_
      refine v0 (sM rfl [] rfl) rfl ?_
      refine bndc h ?_; clear h; intro r8 hr8 h
      refine v0 (sCw (l := [(T_spec_l1Cur.mk v3 v4 v5)]) (l' := [r8.2]) (w_spec_l1ByteW K (T_spec_l1Cur.mk v3 v4 v5) _ hr8) ok_spec_l1Byte enOk_spec_l1Cur rfl 1 rfl rfl rfl rfl rfl rfl) rfl ?_
      refine v0 (sCv rfl rfl rfl rfl rfl rfl) rfl ?_
      refine v0 (sBS rfl 1017 (rows := ([(IntKind.u8.wrap r8.1)] : List Int).map en_u8) rfl rfl rfl (by kernel_rfl) rfl rfl rfl rfl) rfl ?_
      refine chkc h ?_; clear h; intro c9 h
      refine v0 (sAo rfl 1005 v1 ([(IntKind.u8.wrap r8.1)] : List Int) enOk_u8 rfl rfl rfl rfl rfl rfl rfl rfl rfl rfl rfl c9) rfl ?_
      refine v0 (sA rfl [] rfl) rfl ?_
      refine ve ?_
      refine W2 [0, 1, 5, 6] [1] [1005] (l := [(0, .c (.ptr _ _ _ _)), (1, .c (.int _ _)), (5, .c (.own _ _ _ _)), (6, .c (.int _ _))]) (h := [(1, ⟨0, 3, [[.row _ _ _, .int _ _, .int _ _]]⟩)]) (h' := [(1005, ⟨0, 1, (v1 ++ ([(IntKind.u8.wrap r8.1)] : List Int)).map en_u8⟩)]) ⟨⟨_, rfl, enOk_u8.allClosed _ _ (v1 ++ ([(IntKind.u8.wrap r8.1)] : List Int))⟩, trivial⟩ rfl rfl rfl ?_
      refine W_regV he rfl ?_
      refine v0 (sM rfl [] rfl) rfl ?_
      refine v0 (sBi rfl rfl rfl rfl) rfl ?_
      refine v0 (sA rfl [] rfl) rfl ?_
      refine ve ?_
      exact ⟨n6, _, Nat.lt_succ_self n6, wk2 [0, 1, 5, 6] [1] [1005] (l := [(0, .c (.ptr _ _ _ _)), (1, .c (.int _ _)), (5, .c (.own _ _ _ _)), (6, .c (.int _ _))]) (h := [(1, ⟨0, 3, [[.row _ _ _, .int _ _, .int _ _]]⟩)]) (h' := [(1005, ⟨0, 1, (v1 ++ ([(IntKind.u8.wrap r8.1)] : List Int)).map en_u8⟩)]) ⟨⟨_, rfl, enOk_u8.allClosed _ _ (v1 ++ ([(IntKind.u8.wrap r8.1)] : List Int))⟩, trivial⟩ rfl rfl rfl, _, _, _, _, _, rfl, h⟩
    | false =>
      replace h := brF hb7 h
      refine ve ?_
      refine W2 [0, 1, 5, 6, 10] [1] [1005] (l := [(0, .c (.ptr _ _ _ _)), (1, .c (.int _ _)), (5, .c (.own _ _ _ _)), (6, .c (.int _ _)), (10, .c (.bool false))]) (h := [(1, ⟨0, 3, [[.row _ _ _, .int _ _, .int _ _]]⟩)]) (h' := [(1005, ⟨0, 1, v1.map en_u8⟩)]) ⟨⟨_, rfl, enOk_u8.allClosed _ _ v1⟩, trivial⟩ rfl rfl rfl ?_
      refine W_false rfl ?_
      refine W_exit (ex_then (ex_then (ex_hit ?_)))
      refine W_seq ?_
      refine W_regV he rfl ?_
      refine v0 (sM rfl [] rfl) rfl ?_
      refine v0 (sA rfl [] rfl) rfl ?_
      refine ve ?_
      refine W2 [4] [1] [1005] (l := [(4, .c (.own _ _ _ _))]) (h := [(1, ⟨0, 3, [[.row _ _ _, .int _ _, .int _ _]]⟩)]) (h' := [(1005, ⟨0, 1, v1.map en_u8⟩)]) ⟨⟨_, rfl, enOk_u8.allClosed _ _ v1⟩, trivial⟩ rfl rfl rfl ?_
      obtain rfl := Option.some.inj h
      exact W_ret (retTwo (l := [(T_spec_l1Cur.mk v3 v4 v5)]) 1005 rfl enOk_spec_l1Cur enOk_u8 rfl rfl rfl rfl)


/-! ### loop.example/g00499/spec.l21Draw -/
set_option maxRecDepth 20000 in
set_option maxHeartbeats 8000000 in
theorem wx_spec_l21DrawW (K : Nat) (a0 : T_spec_l1Cur) (r : T_impl_Op × T_spec_l1Cur) (h : m_spec_l21DrawW K a0 = some r) : Sp Try.prog 75 [.c (.ptr 1 0 0 0)] [⟨0, 3, [a0].map en_spec_l1Cur⟩] (.g [.int .i64 r.1.fKind, .int .i64 r.1.fH.fSlot, .int .i64 r.1.fH.fGen, .int .i64 r.1.fR.fH.fSlot, .int .i64 r.1.fR.fH.fGen, .int .i64 r.1.fR.fEp, .int .i64 r.1.fR.fNo, .int .i64 r.1.fN, .int .i64 r.1.fM, .own 2 0 0 r.1.fB.length]) [⟨0, 3, [r.2].map en_spec_l1Cur⟩, ⟨0, 1, r.1.fB.map en_u8⟩] := by
  refine Sp.of_W tabOk Try.func75 rfl rfl (Nat.le_of_ble_eq_true rfl) (Nat.le_of_ble_eq_true rfl) fun F hP hN hm => ?_
  obtain ⟨P, N, w0, σ0, β0, m⟩ := F
  obtain rfl : P = Try.prog := hP
  obtain rfl : N = 75 := hN
  obtain rfl : m = 2 := hm
  have he : Env ⟨Try.prog, 75, w0, σ0, β0, 2⟩ tab := ⟨Nat.le_of_ble_eq_true rfl, tabOk⟩
  unfold m_spec_l21DrawW at h
  refine W_seq ?_
  refine W_regV he rfl ?_
  refine v0 (sAl rfl rfl 101 rfl) rfl ?_
  refine ve ?_
  refine W2 [0, 2] [1, 101] [] (l := [(0, .c (.ptr _ _ _ _)), (2, .c (.ptr _ _ _ _))]) (h := [(1, ⟨0, 3, [[.row _ _ _, .int _ _, .int _ _]]⟩), (101, ⟨0, 10, [[.int _ _, .int _ _, .int _ _, .int _ _, .int _ _, .int _ _, .int _ _, .int _ _, .int _ _, .row _ _ _]]⟩)]) (h' := []) trivial rfl rfl rfl ?_
  refine W_seq ?_
  refine W_regV he rfl ?_
  refine v0 (sM rfl [] rfl) rfl ?_
  refine bndc h ?_; clear h; intro r1 hr1 h
  refine v0 (sCw (l := [a0]) (l' := [r1.2]) (w_spec_l1BelowW K a0 9 _ hr1) ok_spec_l1Below enOk_spec_l1Cur rfl 1 rfl rfl rfl rfl rfl rfl) rfl ?_
  refine v0 (sBi rfl rfl rfl rfl) rfl ?_
  refine v0 (sBd rfl [[]] (out := [.int .i64 (iAdd .i64 1 r1.1), .int .i64 0, .int .i64 0, .int .i64 0, .int .i64 0, .int .i64 0, .int .i64 0, .int .i64 0, .int .i64 0, .row true 1 []]) rfl (by kernel_rfl)) rfl ?_
  refine v0 (sAl rfl rfl 102 rfl) rfl ?_
  refine vOwnNilG he 9 9 1803 rfl rfl rfl ?_
  refine v0 (sSt rfl rfl [] rfl rfl) rfl ?_
  refine ve ?_
  refine W2 [0, 2, 3] [1, 101, 102] [1803] (l := [(0, .c (.ptr _ _ _ _)), (2, .c (.ptr _ _ _ _)), (3, .c (.ptr _ _ _ _))]) (h := [(1, ⟨0, 3, [[.row _ _ _, .int _ _, .int _ _]]⟩), (101, ⟨0, 10, [[.int _ _, .int _ _, .int _ _, .int _ _, .int _ _, .int _ _, .int _ _, .int _ _, .int _ _, .row _ _ _]]⟩), (102, ⟨0, 10, [[.int _ _, .int _ _, .int _ _, .int _ _, .int _ _, .int _ _, .int _ _, .int _ _, .int _ _, .own _ _ _ _]]⟩)]) (h' := [(1803, ⟨0, 1, [].map en_u8⟩)]) ⟨⟨_, rfl, enOk_u8.allClosed _ _ []⟩, trivial⟩ rfl rfl rfl ?_
  refine W_seq ?_
  refine W_regV he rfl ?_
  refine v0 (sM rfl [] rfl) rfl ?_
  refine bndc h ?_; clear h; intro r2 hr2 h
  refine v0 (sCw (l := [r1.2]) (l' := [r2.2]) (w_spec_l6HandleW K r1.2 _ hr2) ok_spec_l6Handle enOk_spec_l1Cur rfl 1 rfl rfl rfl rfl rfl rfl) rfl ?_
  refine v0 (sAl rfl rfl 104 rfl) rfl ?_
  refine v0 (sSt rfl rfl [] rfl rfl) rfl ?_
  refine ve ?_
  refine W2 [0, 2, 3, 4] [1, 101, 102, 104] [1803] (l := [(0, .c (.ptr _ _ _ _)), (2, .c (.ptr _ _ _ _)), (3, .c (.ptr _ _ _ _)), (4, .c (.ptr _ _ _ _))]) (h := [(1, ⟨0, 3, [[.row _ _ _, .int _ _, .int _ _]]⟩), (101, ⟨0, 10, [[.int _ _, .int _ _, .int _ _, .int _ _, .int _ _, .int _ _, .int _ _, .int _ _, .int _ _, .row _ _ _]]⟩), (102, ⟨0, 10, [[.int _ _, .int _ _, .int _ _, .int _ _, .int _ _, .int _ _, .int _ _, .int _ _, .int _ _, .own _ _ _ _]]⟩), (104, ⟨0, 2, [[.int _ _, .int _ _]]⟩)]) (h' := [(1803, ⟨0, 1, [].map en_u8⟩)]) ⟨⟨_, rfl, enOk_u8.allClosed _ _ []⟩, trivial⟩ rfl rfl rfl ?_
  refine W_seq ?_
  refine W_regD he rfl rfl rfl ?_
  refine g0 (sLd rfl rfl) rfl ?_
  refine g0 (sM rfl [] rfl) rfl ?_
  refine bndc h ?_; clear h; intro r3 hr3 h
  refine g0 (sCw (l := [r2.2]) (l' := [r3.2]) (w_spec_l1BelowW K r2.2 2 _ hr3) ok_spec_l1Below enOk_spec_l1Cur rfl 1 rfl rfl rfl rfl rfl rfl) rfl ?_
  refine g0 (sM rfl [] rfl) rfl ?_
  refine bndc h ?_; clear h; intro r4 hr4 h
  refine g0 (sCw (l := [r3.2]) (l' := [r4.2]) (w_spec_l1BelowW K r3.2 3 _ hr4) ok_spec_l1Below enOk_spec_l1Cur rfl 1 rfl rfl rfl rfl rfl rfl) rfl ?_
  refine g0 (sBd rfl [[], [], []] (out := [.int .i64 r2.1.fSlot, .int .i64 r2.1.fGen, .int .i64 r3.1, .int .i64 r4.1]) rfl (by kernel_rfl)) rfl ?_
  refine g0 (sAl rfl rfl 105 rfl) rfl ?_
  refine g0 (sSt rfl rfl [] rfl rfl) rfl ?_
  refine ge ⟨rfl, ?_⟩
  refine W2 [0, 2, 3, 4, 5] [1, 101, 102, 104, 105] [1803] (l := [(0, .c (.ptr _ _ _ _)), (2, .c (.ptr _ _ _ _)), (3, .c (.ptr _ _ _ _)), (4, .c (.ptr _ _ _ _)), (5, .c (.ptr _ _ _ _))]) (h := [(1, ⟨0, 3, [[.row _ _ _, .int _ _, .int _ _]]⟩), (101, ⟨0, 10, [[.int _ _, .int _ _, .int _ _, .int _ _, .int _ _, .int _ _, .int _ _, .int _ _, .int _ _, .row _ _ _]]⟩), (102, ⟨0, 10, [[.int _ _, .int _ _, .int _ _, .int _ _, .int _ _, .int _ _, .int _ _, .int _ _, .int _ _, .own _ _ _ _]]⟩), (104, ⟨0, 2, [[.int _ _, .int _ _]]⟩), (105, ⟨0, 4, [[.int _ _, .int _ _, .int _ _, .int _ _]]⟩)]) (h' := [(1803, ⟨0, 1, [].map en_u8⟩)]) ⟨⟨_, rfl, enOk_u8.allClosed _ _ []⟩, trivial⟩ rfl rfl rfl ?_
  refine W_join (fun S => ∃ (v106 : List Int), ∃ (v107 : Int), ∃ (v108 : Int), ∃ (v109 : Int), ∃ (v110 : Int), ∃ (v111 : Int), ∃ (v112 : Int), ∃ (v113 : Int), ∃ (v114 : Int), ∃ (v115 : Int), ∃ (v116 : Int), ∃ (v117 : Int), ∃ (v118 : List Int), S = StL [(2, .c (.ptr 101 0 0 0)), (3, .c (.ptr 102 0 0 0))] ([(1, ⟨0, 3, [[.row false 1 (v106.map en_u8), .int .i64 v107, .int .i64 v108]]⟩), (101, ⟨0, 10, [[.int .i64 0, .int .i64 0, .int .i64 0, .int .i64 0, .int .i64 0, .int .i64 0, .int .i64 0, .int .i64 0, .int .i64 0, .row true 1 []]]⟩), (102, ⟨0, 10, [[.int .i64 v109, .int .i64 v110, .int .i64 v111, .int .i64 v112, .int .i64 v113, .int .i64 v114, .int .i64 v115, .int .i64 v116, .int .i64 v117, .own 1803 0 0 v118.length]]⟩)] ++ [(1803, ⟨0, 1, v118.map en_u8⟩)]) ∧ j_spec_l21DrawW_5 K v106 v107 v108 v109 v110 v111 v112 v113 v114 v115 v116 v117 v118 = some r) ?_ ?_
  · rintro S ⟨v106, v107, v108, v109, v110, v111, v112, v113, v114, v115, v116, v117, v118, rfl, h⟩
    unfold j_spec_l21DrawW_5 at h
    refine W_seq ?_
    refine W_regV he rfl ?_
    refine v0 (sLd rfl rfl) rfl ?_
    refine v0 (sSt rfl rfl [] rfl rfl) rfl ?_
    refine ve ?_
    refine W2 [2] [1, 101] [1803] (l := [(2, .c (.ptr _ _ _ _))]) (h := [(1, ⟨0, 3, [[.row _ _ _, .int _ _, .int _ _]]⟩), (101, ⟨0, 10, [[.int _ _, .int _ _, .int _ _, .int _ _, .int _ _, .int _ _, .int _ _, .int _ _, .int _ _, .own _ _ _ _]]⟩)]) (h' := [(1803, ⟨0, 1, v118.map en_u8⟩)]) ⟨⟨_, rfl, enOk_u8.allClosed _ _ v118⟩, trivial⟩ rfl rfl rfl ?_
    obtain rfl := Option.some.inj h
    exact W_ret (retTwo (l := [(T_spec_l1Cur.mk v106 v107 v108)]) 1803 rfl enOk_spec_l1Cur enOk_u8 rfl rfl rfl rfl)
  ·
    refine W_seq ?_
    refine W_regV he rfl ?_
    refine v0 (sFP rfl rfl rfl) rfl ?_
    refine v0 (sLd rfl rfl) rfl ?_
    refine ve ?_
    refine W2 [0, 2, 3, 4, 5, 19] [1, 101, 102, 104, 105] [1803] (l := [(0, .c (.ptr _ _ _ _)), (2, .c (.ptr _ _ _ _)), (3, .c (.ptr _ _ _ _)), (4, .c (.ptr _ _ _ _)), (5, .c (.ptr _ _ _ _)), (19, .c (.int _ _))]) (h := [(1, ⟨0, 3, [[.row _ _ _, .int _ _, .int _ _]]⟩), (101, ⟨0, 10, [[.int _ _, .int _ _, .int _ _, .int _ _, .int _ _, .int _ _, .int _ _, .int _ _, .int _ _, .row _ _ _]]⟩), (102, ⟨0, 10, [[.int _ _, .int _ _, .int _ _, .int _ _, .int _ _, .int _ _, .int _ _, .int _ _, .int _ _, .own _ _ _ _]]⟩), (104, ⟨0, 2, [[.int _ _, .int _ _]]⟩), (105, ⟨0, 4, [[.int _ _, .int _ _, .int _ _, .int _ _]]⟩)]) (h' := [(1803, ⟨0, 1, [].map en_u8⟩)]) ⟨⟨_, rfl, enOk_u8.allClosed _ _ []⟩, trivial⟩ rfl rfl rfl ?_
    refine W_block ?_
    refine W_seq ?_
    refine W_regV he rfl ?_
    refine v0 (sBi rfl rfl rfl rfl) rfl ?_
    refine v0 (sA rfl [] rfl) rfl ?_
    refine ve ?_
    refine W2 [0, 2, 3, 4, 5, 19, 20] [1, 101, 102, 104, 105] [1803] (l := [(0, .c (.ptr _ _ _ _)), (2, .c (.ptr _ _ _ _)), (3, .c (.ptr _ _ _ _)), (4, .c (.ptr _ _ _ _)), (5, .c (.ptr _ _ _ _)), (19, .c (.int _ _)), (20, .c (.bool _))]) (h := [(1, ⟨0, 3, [[.row _ _ _, .int _ _, .int _ _]]⟩), (101, ⟨0, 10, [[.int _ _, .int _ _, .int _ _, .int _ _, .int _ _, .int _ _, .int _ _, .int _ _, .int _ _, .row _ _ _]]⟩), (102, ⟨0, 10, [[.int _ _, .int _ _, .int _ _, .int _ _, .int _ _, .int _ _, .int _ _, .int _ _, .int _ _, .own _ _ _ _]]⟩), (104, ⟨0, 2, [[.int _ _, .int _ _]]⟩), (105, ⟨0, 4, [[.int _ _, .int _ _, .int _ _, .int _ _]]⟩)]) (h' := [(1803, ⟨0, 1, [].map en_u8⟩)]) ⟨⟨_, rfl, enOk_u8.allClosed _ _ []⟩, trivial⟩ rfl rfl rfl ?_
    refine W_condB rfl (fun hb119 => ?_) (fun hb119 => ?_)
    ·
      replace h := brT hb119 h
      refine W_seq ?_
      refine W_regV he rfl ?_
      refine v0 (sM rfl [] rfl) rfl ?_
      refine bndc h ?_; clear h; intro r120 hr120 h
      refine vB (sCw (l := [r4.2]) (l' := [r120.2]) (w_spec_l1OnceW K r4.2 2 _ hr120) ok_spec_l1Once enOk_spec_l1Cur rfl 1 rfl rfl rfl rfl rfl rfl) rfl rfl fun b121 hb121 => ?_
      cases b121 with
      | true =>
        replace h := brT hb121 h
        refine ve ?_
        refine W2 [2, 3, 4, 23] [1, 101, 102, 104] [1803] (l := [(2, .c (.ptr _ _ _ _)), (3, .c (.ptr _ _ _ _)), (4, .c (.ptr _ _ _ _)), (23, .c (.bool true))]) (h := [(1, ⟨0, 3, [[.row _ _ _, .int _ _, .int _ _]]⟩), (101, ⟨0, 10, [[.int _ _, .int _ _, .int _ _, .int _ _, .int _ _, .int _ _, .int _ _, .int _ _, .int _ _, .row _ _ _]]⟩), (102, ⟨0, 10, [[.int _ _, .int _ _, .int _ _, .int _ _, .int _ _, .int _ _, .int _ _, .int _ _, .int _ _, .own _ _ _ _]]⟩), (104, ⟨0, 2, [[.int _ _, .int _ _]]⟩)]) (h' := [(1803, ⟨0, 1, [].map en_u8⟩)]) ⟨⟨_, rfl, enOk_u8.allClosed _ _ []⟩, trivial⟩ rfl rfl rfl ?_
        refine W_true rfl ?_
        refine W_regV he rfl ?_
        refine v0 (sLd rfl rfl) rfl ?_
        refine v0 (sFP rfl rfl rfl) rfl ?_
        refine v0 (sSt rfl rfl [] rfl rfl) rfl ?_
        refine ve ?_
        exact ⟨_, wk2 [2, 3] [1, 101, 102] [1803] (l := [(2, .c (.ptr _ _ _ _)), (3, .c (.ptr _ _ _ _))]) (h := [(1, ⟨0, 3, [[.row _ _ _, .int _ _, .int _ _]]⟩), (101, ⟨0, 10, [[.int _ _, .int _ _, .int _ _, .int _ _, .int _ _, .int _ _, .int _ _, .int _ _, .int _ _, .row _ _ _]]⟩), (102, ⟨0, 10, [[.int _ _, .int _ _, .int _ _, .int _ _, .int _ _, .int _ _, .int _ _, .int _ _, .int _ _, .own _ _ _ _]]⟩)]) (h' := [(1803, ⟨0, 1, [].map en_u8⟩)]) ⟨⟨_, rfl, enOk_u8.allClosed _ _ []⟩, trivial⟩ rfl rfl rfl, _, _, _, _, _, _, _, _, _, _, _, _, _, rfl, h⟩
      | false =>
        replace h := brF hb121 h
        refine ve ?_
        refine W2 [2, 3, 4, 23] [1, 101, 102, 104] [1803] (l := [(2, .c (.ptr _ _ _ _)), (3, .c (.ptr _ _ _ _)), (4, .c (.ptr _ _ _ _)), (23, .c (.bool false))]) (h := [(1, ⟨0, 3, [[.row _ _ _, .int _ _, .int _ _]]⟩), (101, ⟨0, 10, [[.int _ _, .int _ _, .int _ _, .int _ _, .int _ _, .int _ _, .int _ _, .int _ _, .int _ _, .row _ _ _]]⟩), (102, ⟨0, 10, [[.int _ _, .int _ _, .int _ _, .int _ _, .int _ _, .int _ _, .int _ _, .int _ _, .int _ _, .own _ _ _ _]]⟩), (104, ⟨0, 2, [[.int _ _, .int _ _]]⟩)]) (h' := [(1803, ⟨0, 1, [].map en_u8⟩)]) ⟨⟨_, rfl, enOk_u8.allClosed _ _ []⟩, trivial⟩ rfl rfl rfl ?_
        refine W_false rfl ?_
        refine W_skip ?_
        exact ⟨_, wk2 [2, 3] [1, 101, 102] [1803] (l := [(2, .c (.ptr _ _ _ _)), (3, .c (.ptr _ _ _ _))]) (h := [(1, ⟨0, 3, [[.row _ _ _, .int _ _, .int _ _]]⟩), (101, ⟨0, 10, [[.int _ _, .int _ _, .int _ _, .int _ _, .int _ _, .int _ _, .int _ _, .int _ _, .int _ _, .row _ _ _]]⟩), (102, ⟨0, 10, [[.int _ _, .int _ _, .int _ _, .int _ _, .int _ _, .int _ _, .int _ _, .int _ _, .int _ _, .own _ _ _ _]]⟩)]) (h' := [(1803, ⟨0, 1, [].map en_u8⟩)]) ⟨⟨_, rfl, enOk_u8.allClosed _ _ []⟩, trivial⟩ rfl rfl rfl, _, _, _, _, _, _, _, _, _, _, _, _, _, rfl, h⟩
    ·
      replace h := brF hb119 h
      refine W_join (fun S => ∃ (v223 : Bool), S = StL [(0, .c (.ptr 1 0 0 0)), (2, .c (.ptr 101 0 0 0)), (3, .c (.ptr 102 0 0 0)), (4, .c (.ptr 104 0 0 0)), (5, .c (.ptr 105 0 0 0)), (19, .c (.int .i64 (iAdd .i64 1 r1.1))), (26, .c (.bool v223))] ([(1, ⟨0, 3, [[.row false 1 (r4.2.fb.map en_u8), .int .i64 r4.2.fi, .int .i64 r4.2.fh]]⟩), (101, ⟨0, 10, [[.int .i64 0, .int .i64 0, .int .i64 0, .int .i64 0, .int .i64 0, .int .i64 0, .int .i64 0, .int .i64 0, .int .i64 0, .row true 1 []]]⟩), (102, ⟨0, 10, [[.int .i64 (iAdd .i64 1 r1.1), .int .i64 0, .int .i64 0, .int .i64 0, .int .i64 0, .int .i64 0, .int .i64 0, .int .i64 0, .int .i64 0, .own 1803 0 0 0]]⟩), (104, ⟨0, 2, [[.int .i64 r2.1.fSlot, .int .i64 r2.1.fGen]]⟩), (105, ⟨0, 4, [[.int .i64 r2.1.fSlot, .int .i64 r2.1.fGen, .int .i64 r3.1, .int .i64 r4.1]]⟩)] ++ [(1803, ⟨0, 1, [].map en_u8⟩)]) ∧ j_spec_l21DrawW_122 K r1 r2 r3 r4 v223 = some r) ?_ ?_
      · rintro S ⟨v223, rfl, h⟩
        unfold j_spec_l21DrawW_122 at h
        refine W_condB rfl (fun hb224 => ?_) (fun hb224 => ?_)
        ·
          replace h := brT hb224 h
          refine W_regV he rfl ?_
          refine v0 (sLd rfl rfl) rfl ?_
          refine v0 (sFP rfl rfl rfl) rfl ?_
          refine v0 (sSt rfl rfl [] rfl rfl) rfl ?_
          refine ve ?_
          exact ⟨_, wk2 [2, 3] [1, 101, 102] [1803] (l := [(2, .c (.ptr _ _ _ _)), (3, .c (.ptr _ _ _ _))]) (h := [(1, ⟨0, 3, [[.row _ _ _, .int _ _, .int _ _]]⟩), (101, ⟨0, 10, [[.int _ _, .int _ _, .int _ _, .int _ _, .int _ _, .int _ _, .int _ _, .int _ _, .int _ _, .row _ _ _]]⟩), (102, ⟨0, 10, [[.int _ _, .int _ _, .int _ _, .int _ _, .int _ _, .int _ _, .int _ _, .int _ _, .int _ _, .own _ _ _ _]]⟩)]) (h' := [(1803, ⟨0, 1, [].map en_u8⟩)]) ⟨⟨_, rfl, enOk_u8.allClosed _ _ []⟩, trivial⟩ rfl rfl rfl, _, _, _, _, _, _, _, _, _, _, _, _, _, rfl, h⟩
        ·
          replace h := brF hb224 h
          refine W_seq ?_
          refine W_regV he rfl ?_
          refine v0 (sBi rfl rfl rfl rfl) rfl ?_
          refine v0 (sA rfl [] rfl) rfl ?_
          refine ve ?_
          refine W2 [0, 2, 3, 4, 5, 19, 32] [1, 101, 102, 104, 105] [1803] (l := [(0, .c (.ptr _ _ _ _)), (2, .c (.ptr _ _ _ _)), (3, .c (.ptr _ _ _ _)), (4, .c (.ptr _ _ _ _)), (5, .c (.ptr _ _ _ _)), (19, .c (.int _ _)), (32, .c (.bool _))]) (h := [(1, ⟨0, 3, [[.row _ _ _, .int _ _, .int _ _]]⟩), (101, ⟨0, 10, [[.int _ _, .int _ _, .int _ _, .int _ _, .int _ _, .int _ _, .int _ _, .int _ _, .int _ _, .row _ _ _]]⟩), (102, ⟨0, 10, [[.int _ _, .int _ _, .int _ _, .int _ _, .int _ _, .int _ _, .int _ _, .int _ _, .int _ _, .own _ _ _ _]]⟩), (104, ⟨0, 2, [[.int _ _, .int _ _]]⟩), (105, ⟨0, 4, [[.int _ _, .int _ _, .int _ _, .int _ _]]⟩)]) (h' := [(1803, ⟨0, 1, [].map en_u8⟩)]) ⟨⟨_, rfl, enOk_u8.allClosed _ _ []⟩, trivial⟩ rfl rfl rfl ?_
          refine W_condB rfl (fun hb225 => ?_) (fun hb225 => ?_)
          ·
            replace h := brT hb225 h
            refine W_seq ?_
            refine W_regV he rfl ?_
            refine v0 (sLd rfl rfl) rfl ?_
            refine v0 (sFP rfl rfl rfl) rfl ?_
            refine v0 (sSt rfl rfl [] rfl rfl) rfl ?_
            refine ve ?_
            refine W2 [0, 2, 3] [1, 101, 102] [1803] (l := [(0, .c (.ptr _ _ _ _)), (2, .c (.ptr _ _ _ _)), (3, .c (.ptr _ _ _ _))]) (h := [(1, ⟨0, 3, [[.row _ _ _, .int _ _, .int _ _]]⟩), (101, ⟨0, 10, [[.int _ _, .int _ _, .int _ _, .int _ _, .int _ _, .int _ _, .int _ _, .int _ _, .int _ _, .row _ _ _]]⟩), (102, ⟨0, 10, [[.int _ _, .int _ _, .int _ _, .int _ _, .int _ _, .int _ _, .int _ _, .int _ _, .int _ _, .own _ _ _ _]]⟩)]) (h' := [(1803, ⟨0, 1, [].map en_u8⟩)]) ⟨⟨_, rfl, enOk_u8.allClosed _ _ []⟩, trivial⟩ rfl rfl rfl ?_
            refine W_seq ?_
            refine W_regV he rfl ?_
            refine v0 (sM rfl [] rfl) rfl ?_
            refine v0 (sBS rfl 1037 (rows := ([1, 2, 3, 5, 8, 9, 17, 20, 0, 201] : List Int).map en_i64) rfl rfl rfl (by kernel_rfl) rfl rfl rfl rfl) rfl ?_
            refine vWk (wk_row (l := ([1, 2, 3, 5, 8, 9, 17, 20, 0, 201] : List Int)) 37 enOk_i64 rfl rfl) ?_
            refine bndc h ?_; clear h; intro r226 hr226 h
            refine v0 (sCw (l := [r4.2]) (l' := [r226.2]) (w_spec_l1IntW K r4.2 ([1, 2, 3, 5, 8, 9, 17, 20, 0, 201] : List Int) _ hr226) ok_spec_l1Int enOk_spec_l1Cur rfl 1 rfl rfl rfl rfl rfl rfl) rfl ?_
            refine v0 (sFP rfl rfl rfl) rfl ?_
            refine v0 (sSt rfl rfl [] rfl rfl) rfl ?_
            refine ve ?_
            refine W2 [0, 2, 3] [1, 101, 102] [1803] (l := [(0, .c (.ptr _ _ _ _)), (2, .c (.ptr _ _ _ _)), (3, .c (.ptr _ _ _ _))]) (h := [(1, ⟨0, 3, [[.row _ _ _, .int _ _, .int _ _]]⟩), (101, ⟨0, 10, [[.int _ _, .int _ _, .int _ _, .int _ _, .int _ _, .int _ _, .int _ _, .int _ _, .int _ _, .row _ _ _]]⟩), (102, ⟨0, 10, [[.int _ _, .int _ _, .int _ _, .int _ _, .int _ _, .int _ _, .int _ _, .int _ _, .int _ _, .own _ _ _ _]]⟩)]) (h' := [(1803, ⟨0, 1, [].map en_u8⟩)]) ⟨⟨_, rfl, enOk_u8.allClosed _ _ []⟩, trivial⟩ rfl rfl rfl ?_
            refine W_regV he rfl ?_
            refine v0 (sM rfl [] rfl) rfl ?_
            refine v0 (sBS rfl 1041 (rows := ([1, 1, 2, 4, 3] : List Int).map en_i64) rfl rfl rfl (by kernel_rfl) rfl rfl rfl rfl) rfl ?_
            refine vWk (wk_row (l := ([1, 1, 2, 4, 3] : List Int)) 41 enOk_i64 rfl rfl) ?_
            refine bndc h ?_; clear h; intro r227 hr227 h
            refine v0 (sCw (l := [r226.2]) (l' := [r227.2]) (w_spec_l1IntW K r226.2 ([1, 1, 2, 4, 3] : List Int) _ hr227) ok_spec_l1Int enOk_spec_l1Cur rfl 1 rfl rfl rfl rfl rfl rfl) rfl ?_
            refine v0 (sFP rfl rfl rfl) rfl ?_
            refine v0 (sSt rfl rfl [] rfl rfl) rfl ?_
            refine ve ?_
            exact ⟨_, wk2 [2, 3] [1, 101, 102] [1803] (l := [(2, .c (.ptr _ _ _ _)), (3, .c (.ptr _ _ _ _))]) (h := [(1, ⟨0, 3, [[.row _ _ _, .int _ _, .int _ _]]⟩), (101, ⟨0, 10, [[.int _ _, .int _ _, .int _ _, .int _ _, .int _ _, .int _ _, .int _ _, .int _ _, .int _ _, .row _ _ _]]⟩), (102, ⟨0, 10, [[.int _ _, .int _ _, .int _ _, .int _ _, .int _ _, .int _ _, .int _ _, .int _ _, .int _ _, .own _ _ _ _]]⟩)]) (h' := [(1803, ⟨0, 1, [].map en_u8⟩)]) ⟨⟨_, rfl, enOk_u8.allClosed _ _ []⟩, trivial⟩ rfl rfl rfl, _, _, _, _, _, _, _, _, _, _, _, _, _, rfl, h⟩
          ·
            replace h := brF hb225 h
            refine W_seq ?_
            refine W_regV he rfl ?_
            refine v0 (sBi rfl rfl rfl rfl) rfl ?_
            refine v0 (sA rfl [] rfl) rfl ?_
            refine ve ?_
            refine W2 [0, 2, 3, 4, 5, 19, 44] [1, 101, 102, 104, 105] [1803] (l := [(0, .c (.ptr _ _ _ _)), (2, .c (.ptr _ _ _ _)), (3, .c (.ptr _ _ _ _)), (4, .c (.ptr _ _ _ _)), (5, .c (.ptr _ _ _ _)), (19, .c (.int _ _)), (44, .c (.bool _))]) (h := [(1, ⟨0, 3, [[.row _ _ _, .int _ _, .int _ _]]⟩), (101, ⟨0, 10, [[.int _ _, .int _ _, .int _ _, .int _ _, .int _ _, .int _ _, .int _ _, .int _ _, .int _ _, .row _ _ _]]⟩), (102, ⟨0, 10, [[.int _ _, .int _ _, .int _ _, .int _ _, .int _ _, .int _ _, .int _ _, .int _ _, .int _ _, .own _ _ _ _]]⟩), (104, ⟨0, 2, [[.int _ _, .int _ _]]⟩), (105, ⟨0, 4, [[.int _ _, .int _ _, .int _ _, .int _ _]]⟩)]) (h' := [(1803, ⟨0, 1, [].map en_u8⟩)]) ⟨⟨_, rfl, enOk_u8.allClosed _ _ []⟩, trivial⟩ rfl rfl rfl ?_
            refine W_condB rfl (fun hb228 => ?_) (fun hb228 => ?_)
            ·
              replace h := brT hb228 h
              refine W_seq ?_
              refine W_regV he rfl ?_
              refine v0 (sLd rfl rfl) rfl ?_
              refine v0 (sFP rfl rfl rfl) rfl ?_
              refine v0 (sSt rfl rfl [] rfl rfl) rfl ?_
              refine ve ?_
              refine W2 [0, 2, 3] [1, 101, 102] [1803] (l := [(0, .c (.ptr _ _ _ _)), (2, .c (.ptr _ _ _ _)), (3, .c (.ptr _ _ _ _))]) (h := [(1, ⟨0, 3, [[.row _ _ _, .int _ _, .int _ _]]⟩), (101, ⟨0, 10, [[.int _ _, .int _ _, .int _ _, .int _ _, .int _ _, .int _ _, .int _ _, .int _ _, .int _ _, .row _ _ _]]⟩), (102, ⟨0, 10, [[.int _ _, .int _ _, .int _ _, .int _ _, .int _ _, .int _ _, .int _ _, .int _ _, .int _ _, .own _ _ _ _]]⟩)]) (h' := [(1803, ⟨0, 1, [].map en_u8⟩)]) ⟨⟨_, rfl, enOk_u8.allClosed _ _ []⟩, trivial⟩ rfl rfl rfl ?_
              refine W_seq ?_
              refine W_regV he rfl ?_
              refine v0 (sM rfl [] rfl) rfl ?_
              refine bndc h ?_; clear h; intro r229 hr229 h
              refine v0 (sCw (l := [r4.2]) (l' := [r229.2]) (w_spec_l1BelowW K r4.2 4 _ hr229) ok_spec_l1Below enOk_spec_l1Cur rfl 1 rfl rfl rfl rfl rfl rfl) rfl ?_
              refine v0 (sFP rfl rfl rfl) rfl ?_
              refine v0 (sSt rfl rfl [] rfl rfl) rfl ?_
              refine ve ?_
              refine W2 [0, 2, 3] [1, 101, 102] [1803] (l := [(0, .c (.ptr _ _ _ _)), (2, .c (.ptr _ _ _ _)), (3, .c (.ptr _ _ _ _))]) (h := [(1, ⟨0, 3, [[.row _ _ _, .int _ _, .int _ _]]⟩), (101, ⟨0, 10, [[.int _ _, .int _ _, .int _ _, .int _ _, .int _ _, .int _ _, .int _ _, .int _ _, .int _ _, .row _ _ _]]⟩), (102, ⟨0, 10, [[.int _ _, .int _ _, .int _ _, .int _ _, .int _ _, .int _ _, .int _ _, .int _ _, .int _ _, .own _ _ _ _]]⟩)]) (h' := [(1803, ⟨0, 1, [].map en_u8⟩)]) ⟨⟨_, rfl, enOk_u8.allClosed _ _ []⟩, trivial⟩ rfl rfl rfl ?_
              refine W_regV he rfl ?_
              refine v0 (sM rfl [] rfl) rfl ?_
              refine bndc h ?_; clear h; intro r230 hr230 h
              refine v0 (sCw (l := [r229.2]) (l' := [r230.2]) (w_spec_l1BelowW K r229.2 5 _ hr230) ok_spec_l1Below enOk_spec_l1Cur rfl 1 rfl rfl rfl rfl rfl rfl) rfl ?_
              refine v0 (sFP rfl rfl rfl) rfl ?_
              refine v0 (sSt rfl rfl [] rfl rfl) rfl ?_
              refine ve ?_
              exact ⟨_, wk2 [2, 3] [1, 101, 102] [1803] (l := [(2, .c (.ptr _ _ _ _)), (3, .c (.ptr _ _ _ _))]) (h := [(1, ⟨0, 3, [[.row _ _ _, .int _ _, .int _ _]]⟩), (101, ⟨0, 10, [[.int _ _, .int _ _, .int _ _, .int _ _, .int _ _, .int _ _, .int _ _, .int _ _, .int _ _, .row _ _ _]]⟩), (102, ⟨0, 10, [[.int _ _, .int _ _, .int _ _, .int _ _, .int _ _, .int _ _, .int _ _, .int _ _, .int _ _, .own _ _ _ _]]⟩)]) (h' := [(1803, ⟨0, 1, [].map en_u8⟩)]) ⟨⟨_, rfl, enOk_u8.allClosed _ _ []⟩, trivial⟩ rfl rfl rfl, _, _, _, _, _, _, _, _, _, _, _, _, _, rfl, h⟩
            ·
              replace h := brF hb228 h
              refine W_seq ?_
              refine W_regV he rfl ?_
              refine v0 (sBi rfl rfl rfl rfl) rfl ?_
              refine v0 (sA rfl [] rfl) rfl ?_
              refine ve ?_
              refine W2 [0, 2, 3, 4, 5, 19, 54] [1, 101, 102, 104, 105] [1803] (l := [(0, .c (.ptr _ _ _ _)), (2, .c (.ptr _ _ _ _)), (3, .c (.ptr _ _ _ _)), (4, .c (.ptr _ _ _ _)), (5, .c (.ptr _ _ _ _)), (19, .c (.int _ _)), (54, .c (.bool _))]) (h := [(1, ⟨0, 3, [[.row _ _ _, .int _ _, .int _ _]]⟩), (101, ⟨0, 10, [[.int _ _, .int _ _, .int _ _, .int _ _, .int _ _, .int _ _, .int _ _, .int _ _, .int _ _, .row _ _ _]]⟩), (102, ⟨0, 10, [[.int _ _, .int _ _, .int _ _, .int _ _, .int _ _, .int _ _, .int _ _, .int _ _, .int _ _, .own _ _ _ _]]⟩), (104, ⟨0, 2, [[.int _ _, .int _ _]]⟩), (105, ⟨0, 4, [[.int _ _, .int _ _, .int _ _, .int _ _]]⟩)]) (h' := [(1803, ⟨0, 1, [].map en_u8⟩)]) ⟨⟨_, rfl, enOk_u8.allClosed _ _ []⟩, trivial⟩ rfl rfl rfl ?_
              refine W_condB rfl (fun hb231 => ?_) (fun hb231 => ?_)
              ·
                replace h := brT hb231 h
                refine W_seq ?_
                refine W_regV he rfl ?_
                refine v0 (sLd rfl rfl) rfl ?_
                refine v0 (sFP rfl rfl rfl) rfl ?_
                refine v0 (sSt rfl rfl [] rfl rfl) rfl ?_
                refine ve ?_
                refine W2 [0, 2, 3] [1, 101, 102] [1803] (l := [(0, .c (.ptr _ _ _ _)), (2, .c (.ptr _ _ _ _)), (3, .c (.ptr _ _ _ _))]) (h := [(1, ⟨0, 3, [[.row _ _ _, .int _ _, .int _ _]]⟩), (101, ⟨0, 10, [[.int _ _, .int _ _, .int _ _, .int _ _, .int _ _, .int _ _, .int _ _, .int _ _, .int _ _, .row _ _ _]]⟩), (102, ⟨0, 10, [[.int _ _, .int _ _, .int _ _, .int _ _, .int _ _, .int _ _, .int _ _, .int _ _, .int _ _, .own _ _ _ _]]⟩)]) (h' := [(1803, ⟨0, 1, [].map en_u8⟩)]) ⟨⟨_, rfl, enOk_u8.allClosed _ _ []⟩, trivial⟩ rfl rfl rfl ?_
                refine W_seq ?_
                refine W_regV he rfl ?_
                refine v0 (sM rfl [] rfl) rfl ?_
                refine bndc h ?_; clear h; intro r232 hr232 h
                refine v0 (sCw (l := [r4.2]) (l' := [r232.2]) (w_spec_l1BelowW K r4.2 4 _ hr232) ok_spec_l1Below enOk_spec_l1Cur rfl 1 rfl rfl rfl rfl rfl rfl) rfl ?_
                refine v0 (sFP rfl rfl rfl) rfl ?_
                refine v0 (sSt rfl rfl [] rfl rfl) rfl ?_
                refine ve ?_
                refine W2 [0, 2, 3] [1, 101, 102] [1803] (l := [(0, .c (.ptr _ _ _ _)), (2, .c (.ptr _ _ _ _)), (3, .c (.ptr _ _ _ _))]) (h := [(1, ⟨0, 3, [[.row _ _ _, .int _ _, .int _ _]]⟩), (101, ⟨0, 10, [[.int _ _, .int _ _, .int _ _, .int _ _, .int _ _, .int _ _, .int _ _, .int _ _, .int _ _, .row _ _ _]]⟩), (102, ⟨0, 10, [[.int _ _, .int _ _, .int _ _, .int _ _, .int _ _, .int _ _, .int _ _, .int _ _, .int _ _, .own _ _ _ _]]⟩)]) (h' := [(1803, ⟨0, 1, [].map en_u8⟩)]) ⟨⟨_, rfl, enOk_u8.allClosed _ _ []⟩, trivial⟩ rfl rfl rfl ?_
                refine W_regV he rfl ?_
                refine v0 (sM rfl [] rfl) rfl ?_
                refine v0 (sM rfl [] rfl) rfl ?_
                refine bndc h ?_; clear h; intro r233 hr233 h
                refine v0 (sCw (l := [r232.2]) (l' := [r233.2]) (w_spec_l1BelowW K r232.2 4 _ hr233) ok_spec_l1Below enOk_spec_l1Cur rfl 1 rfl rfl rfl rfl rfl rfl) rfl ?_
                refine bndc h ?_; clear h; intro r234 hr234 h
                refine v0 (sCx (l := [r233.2]) (l' := [r234.2]) (wx_spec_l1BytesW K r233.2 r233.1 _ hr234) ok_spec_l1Bytes enOk_spec_l1Cur enOk_u8 rfl 1 1803 rfl rfl rfl rfl rfl rfl rfl) rfl ?_
                refine v0 (sFP rfl rfl rfl) rfl ?_
                refine v0 (sSt rfl rfl [] rfl rfl) rfl ?_
                refine ve ?_
                exact ⟨_, wk2 [2, 3] [1, 101, 102] [1803] (l := [(2, .c (.ptr _ _ _ _)), (3, .c (.ptr _ _ _ _))]) (h := [(1, ⟨0, 3, [[.row _ _ _, .int _ _, .int _ _]]⟩), (101, ⟨0, 10, [[.int _ _, .int _ _, .int _ _, .int _ _, .int _ _, .int _ _, .int _ _, .int _ _, .int _ _, .row _ _ _]]⟩), (102, ⟨0, 10, [[.int _ _, .int _ _, .int _ _, .int _ _, .int _ _, .int _ _, .int _ _, .int _ _, .int _ _, .own _ _ _ _]]⟩)]) (h' := [(1803, ⟨0, 1, r234.1.map en_u8⟩)]) ⟨⟨_, rfl, enOk_u8.allClosed _ _ r234.1⟩, trivial⟩ rfl rfl rfl, _, _, _, _, _, _, _, _, _, _, _, _, _, rfl, h⟩
              ·
                replace h := brF hb231 h
                refine W_seq ?_
                refine W_regV he rfl ?_
                refine v0 (sBi rfl rfl rfl rfl) rfl ?_
                refine v0 (sA rfl [] rfl) rfl ?_
                refine ve ?_
                refine W2 [0, 2, 3, 4, 66] [1, 101, 102, 104] [1803] (l := [(0, .c (.ptr _ _ _ _)), (2, .c (.ptr _ _ _ _)), (3, .c (.ptr _ _ _ _)), (4, .c (.ptr _ _ _ _)), (66, .c (.bool _))]) (h := [(1, ⟨0, 3, [[.row _ _ _, .int _ _, .int _ _]]⟩), (101, ⟨0, 10, [[.int _ _, .int _ _, .int _ _, .int _ _, .int _ _, .int _ _, .int _ _, .int _ _, .int _ _, .row _ _ _]]⟩), (102, ⟨0, 10, [[.int _ _, .int _ _, .int _ _, .int _ _, .int _ _, .int _ _, .int _ _, .int _ _, .int _ _, .own _ _ _ _]]⟩), (104, ⟨0, 2, [[.int _ _, .int _ _]]⟩)]) (h' := [(1803, ⟨0, 1, [].map en_u8⟩)]) ⟨⟨_, rfl, enOk_u8.allClosed _ _ []⟩, trivial⟩ rfl rfl rfl ?_
                refine W_condB rfl (fun hb235 => ?_) (fun hb235 => ?_)
                ·
                  replace h := brT hb235 h
                  refine W_seq ?_
                  refine W_regV he rfl ?_
                  refine v0 (sLd rfl rfl) rfl ?_
                  refine v0 (sFP rfl rfl rfl) rfl ?_
                  refine v0 (sSt rfl rfl [] rfl rfl) rfl ?_
                  refine ve ?_
                  refine W2 [0, 2, 3] [1, 101, 102] [1803] (l := [(0, .c (.ptr _ _ _ _)), (2, .c (.ptr _ _ _ _)), (3, .c (.ptr _ _ _ _))]) (h := [(1, ⟨0, 3, [[.row _ _ _, .int _ _, .int _ _]]⟩), (101, ⟨0, 10, [[.int _ _, .int _ _, .int _ _, .int _ _, .int _ _, .int _ _, .int _ _, .int _ _, .int _ _, .row _ _ _]]⟩), (102, ⟨0, 10, [[.int _ _, .int _ _, .int _ _, .int _ _, .int _ _, .int _ _, .int _ _, .int _ _, .int _ _, .own _ _ _ _]]⟩)]) (h' := [(1803, ⟨0, 1, [].map en_u8⟩)]) ⟨⟨_, rfl, enOk_u8.allClosed _ _ []⟩, trivial⟩ rfl rfl rfl ?_
                  refine W_regV he rfl ?_
                  refine v0 (sM rfl [] rfl) rfl ?_
                  refine v0 (sBS rfl 1071 (rows := ([1, 7, 255, 256] : List Int).map en_i64) rfl rfl rfl (by kernel_rfl) rfl rfl rfl rfl) rfl ?_
                  refine vWk (wk_row (l := ([1, 7, 255, 256] : List Int)) 71 enOk_i64 rfl rfl) ?_
                  refine bndc h ?_; clear h; intro r236 hr236 h
                  refine v0 (sCw (l := [r4.2]) (l' := [r236.2]) (w_spec_l1IntW K r4.2 ([1, 7, 255, 256] : List Int) _ hr236) ok_spec_l1Int enOk_spec_l1Cur rfl 1 rfl rfl rfl rfl rfl rfl) rfl ?_
                  refine v0 (sFP rfl rfl rfl) rfl ?_
                  refine v0 (sSt rfl rfl [] rfl rfl) rfl ?_
                  refine ve ?_
                  exact ⟨_, wk2 [2, 3] [1, 101, 102] [1803] (l := [(2, .c (.ptr _ _ _ _)), (3, .c (.ptr _ _ _ _))]) (h := [(1, ⟨0, 3, [[.row _ _ _, .int _ _, .int _ _]]⟩), (101, ⟨0, 10, [[.int _ _, .int _ _, .int _ _, .int _ _, .int _ _, .int _ _, .int _ _, .int _ _, .int _ _, .row _ _ _]]⟩), (102, ⟨0, 10, [[.int _ _, .int _ _, .int _ _, .int _ _, .int _ _, .int _ _, .int _ _, .int _ _, .int _ _, .own _ _ _ _]]⟩)]) (h' := [(1803, ⟨0, 1, [].map en_u8⟩)]) ⟨⟨_, rfl, enOk_u8.allClosed _ _ []⟩, trivial⟩ rfl rfl rfl, _, _, _, _, _, _, _, _, _, _, _, _, _, rfl, h⟩
                ·
                  replace h := brF hb235 h
                  refine W_skip ?_
                  exact ⟨_, wk2 [2, 3] [1, 101, 102] [1803] (l := [(2, .c (.ptr _ _ _ _)), (3, .c (.ptr _ _ _ _))]) (h := [(1, ⟨0, 3, [[.row _ _ _, .int _ _, .int _ _]]⟩), (101, ⟨0, 10, [[.int _ _, .int _ _, .int _ _, .int _ _, .int _ _, .int _ _, .int _ _, .int _ _, .int _ _, .row _ _ _]]⟩), (102, ⟨0, 10, [[.int _ _, .int _ _, .int _ _, .int _ _, .int _ _, .int _ _, .int _ _, .int _ _, .int _ _, .own _ _ _ _]]⟩)]) (h' := [(1803, ⟨0, 1, [].map en_u8⟩)]) ⟨⟨_, rfl, enOk_u8.allClosed _ _ []⟩, trivial⟩ rfl rfl rfl, _, _, _, _, _, _, _, _, _, _, _, _, _, rfl, h⟩
      ·
        refine W_seq ?_
        refine W_regV he rfl ?_
        refine v0 (sBi rfl rfl rfl rfl) rfl ?_
        refine v0 (sA rfl [] rfl) rfl ?_
        refine ve ?_
        refine W2 [0, 2, 3, 4, 5, 19, 26] [1, 101, 102, 104, 105] [1803] (l := [(0, .c (.ptr _ _ _ _)), (2, .c (.ptr _ _ _ _)), (3, .c (.ptr _ _ _ _)), (4, .c (.ptr _ _ _ _)), (5, .c (.ptr _ _ _ _)), (19, .c (.int _ _)), (26, .c (.bool _))]) (h := [(1, ⟨0, 3, [[.row _ _ _, .int _ _, .int _ _]]⟩), (101, ⟨0, 10, [[.int _ _, .int _ _, .int _ _, .int _ _, .int _ _, .int _ _, .int _ _, .int _ _, .int _ _, .row _ _ _]]⟩), (102, ⟨0, 10, [[.int _ _, .int _ _, .int _ _, .int _ _, .int _ _, .int _ _, .int _ _, .int _ _, .int _ _, .own _ _ _ _]]⟩), (104, ⟨0, 2, [[.int _ _, .int _ _]]⟩), (105, ⟨0, 4, [[.int _ _, .int _ _, .int _ _, .int _ _]]⟩)]) (h' := [(1803, ⟨0, 1, [].map en_u8⟩)]) ⟨⟨_, rfl, enOk_u8.allClosed _ _ []⟩, trivial⟩ rfl rfl rfl ?_
        refine W_condB rfl (fun hb237 => ?_) (fun hb237 => ?_)
        ·
          replace h := brT hb237 h
          refine W_skip ?_
          exact ⟨_, wk2 [0, 2, 3, 4, 5, 19, 26] [1, 101, 102, 104, 105] [1803] (l := [(0, .c (.ptr _ _ _ _)), (2, .c (.ptr _ _ _ _)), (3, .c (.ptr _ _ _ _)), (4, .c (.ptr _ _ _ _)), (5, .c (.ptr _ _ _ _)), (19, .c (.int _ _)), (26, .c (.bool _))]) (h := [(1, ⟨0, 3, [[.row _ _ _, .int _ _, .int _ _]]⟩), (101, ⟨0, 10, [[.int _ _, .int _ _, .int _ _, .int _ _, .int _ _, .int _ _, .int _ _, .int _ _, .int _ _, .row _ _ _]]⟩), (102, ⟨0, 10, [[.int _ _, .int _ _, .int _ _, .int _ _, .int _ _, .int _ _, .int _ _, .int _ _, .int _ _, .own _ _ _ _]]⟩), (104, ⟨0, 2, [[.int _ _, .int _ _]]⟩), (105, ⟨0, 4, [[.int _ _, .int _ _, .int _ _, .int _ _]]⟩)]) (h' := [(1803, ⟨0, 1, [].map en_u8⟩)]) ⟨⟨_, rfl, enOk_u8.allClosed _ _ []⟩, trivial⟩ rfl rfl rfl, _, rfl, h⟩
        ·
          replace h := brF hb237 h
          refine W_seq ?_
          refine W_regV he rfl ?_
          refine v0 (sBi rfl rfl rfl rfl) rfl ?_
          refine v0 (sA rfl [] rfl) rfl ?_
          refine ve ?_
          refine W2 [0, 2, 3, 4, 5, 19, 26] [1, 101, 102, 104, 105] [1803] (l := [(0, .c (.ptr _ _ _ _)), (2, .c (.ptr _ _ _ _)), (3, .c (.ptr _ _ _ _)), (4, .c (.ptr _ _ _ _)), (5, .c (.ptr _ _ _ _)), (19, .c (.int _ _)), (26, .c (.bool _))]) (h := [(1, ⟨0, 3, [[.row _ _ _, .int _ _, .int _ _]]⟩), (101, ⟨0, 10, [[.int _ _, .int _ _, .int _ _, .int _ _, .int _ _, .int _ _, .int _ _, .int _ _, .int _ _, .row _ _ _]]⟩), (102, ⟨0, 10, [[.int _ _, .int _ _, .int _ _, .int _ _, .int _ _, .int _ _, .int _ _, .int _ _, .int _ _, .own _ _ _ _]]⟩), (104, ⟨0, 2, [[.int _ _, .int _ _]]⟩), (105, ⟨0, 4, [[.int _ _, .int _ _, .int _ _, .int _ _]]⟩)]) (h' := [(1803, ⟨0, 1, [].map en_u8⟩)]) ⟨⟨_, rfl, enOk_u8.allClosed _ _ []⟩, trivial⟩ rfl rfl rfl ?_
          refine W_condB rfl (fun hb238 => ?_) (fun hb238 => ?_)
          ·
            replace h := brT hb238 h
            refine W_skip ?_
            exact ⟨_, wk2 [0, 2, 3, 4, 5, 19, 26] [1, 101, 102, 104, 105] [1803] (l := [(0, .c (.ptr _ _ _ _)), (2, .c (.ptr _ _ _ _)), (3, .c (.ptr _ _ _ _)), (4, .c (.ptr _ _ _ _)), (5, .c (.ptr _ _ _ _)), (19, .c (.int _ _)), (26, .c (.bool _))]) (h := [(1, ⟨0, 3, [[.row _ _ _, .int _ _, .int _ _]]⟩), (101, ⟨0, 10, [[.int _ _, .int _ _, .int _ _, .int _ _, .int _ _, .int _ _, .int _ _, .int _ _, .int _ _, .row _ _ _]]⟩), (102, ⟨0, 10, [[.int _ _, .int _ _, .int _ _, .int _ _, .int _ _, .int _ _, .int _ _, .int _ _, .int _ _, .own _ _ _ _]]⟩), (104, ⟨0, 2, [[.int _ _, .int _ _]]⟩), (105, ⟨0, 4, [[.int _ _, .int _ _, .int _ _, .int _ _]]⟩)]) (h' := [(1803, ⟨0, 1, [].map en_u8⟩)]) ⟨⟨_, rfl, enOk_u8.allClosed _ _ []⟩, trivial⟩ rfl rfl rfl, _, rfl, h⟩
          ·
            replace h := brF hb238 h
            refine W_regV he rfl ?_
            refine v0 (sBi rfl rfl rfl rfl) rfl ?_
            refine v0 (sA rfl [] rfl) rfl ?_
            refine ve ?_
            exact ⟨_, wk2 [0, 2, 3, 4, 5, 19, 26] [1, 101, 102, 104, 105] [1803] (l := [(0, .c (.ptr _ _ _ _)), (2, .c (.ptr _ _ _ _)), (3, .c (.ptr _ _ _ _)), (4, .c (.ptr _ _ _ _)), (5, .c (.ptr _ _ _ _)), (19, .c (.int _ _)), (26, .c (.bool _))]) (h := [(1, ⟨0, 3, [[.row _ _ _, .int _ _, .int _ _]]⟩), (101, ⟨0, 10, [[.int _ _, .int _ _, .int _ _, .int _ _, .int _ _, .int _ _, .int _ _, .int _ _, .int _ _, .row _ _ _]]⟩), (102, ⟨0, 10, [[.int _ _, .int _ _, .int _ _, .int _ _, .int _ _, .int _ _, .int _ _, .int _ _, .int _ _, .own _ _ _ _]]⟩), (104, ⟨0, 2, [[.int _ _, .int _ _]]⟩), (105, ⟨0, 4, [[.int _ _, .int _ _, .int _ _, .int _ _]]⟩)]) (h' := [(1803, ⟨0, 1, [].map en_u8⟩)]) ⟨⟨_, rfl, enOk_u8.allClosed _ _ []⟩, trivial⟩ rfl rfl rfl, _, rfl, h⟩


/-! ### loop.example/g00499/spec.l6Any -/
def j_spec_l6AnyW_2 (K : Nat) (v103 : List Int) (v104 : Int) (v105 : Int) (v106 : Int) (v107 : Int) : Option (T_impl_Handle × T_spec_l1Cur) := some ((T_impl_Handle.mk v106 v107), (T_spec_l1Cur.mk v103 v104 v105))
def m_spec_l6AnyW (K : Nat) (a0 : T_spec_l1Cur) : Option (T_impl_Handle × T_spec_l1Cur) := ((m_spec_l6HandleW K a0).bind fun r1 => ((m_spec_l1BelowW K r1.2 8).bind fun r108 => (bif (r108.1 == 0) then ((m_spec_l1IntW K r108.2 ([(-1), 1000000000, 9] : List Int)).bind fun r110 => j_spec_l6AnyW_2 K r110.2.fb r110.2.fi r110.2.fh r110.1 r1.1.fGen) else (bif (r108.1 == 1) then ((m_spec_l1IntW K r108.2 ([0, (-1), 5] : List Int)).bind fun r112 => j_spec_l6AnyW_2 K r112.2.fb r112.2.fi r112.2.fh r1.1.fSlot r112.1) else j_spec_l6AnyW_2 K r108.2.fb r108.2.fi r108.2.fh r1.1.fSlot r1.1.fGen))))
set_option maxRecDepth 20000 in
set_option maxHeartbeats 8000000 in
theorem w_spec_l6AnyW (K : Nat) (a0 : T_spec_l1Cur) (r : T_impl_Handle × T_spec_l1Cur) (h : m_spec_l6AnyW K a0 = some r) : Sp Try.prog 78 [.c (.ptr 1 0 0 0)] [⟨0, 3, [a0].map en_spec_l1Cur⟩] (.g [.int .i64 r.1.fSlot, .int .i64 r.1.fGen]) [⟨0, 3, [r.2].map en_spec_l1Cur⟩] := by
  refine Sp.of_W tabOk Try.func78 rfl rfl (Nat.le_of_ble_eq_true rfl) (Nat.le_of_ble_eq_true rfl) fun F hP hN hm => ?_
  obtain ⟨P, N, w0, σ0, β0, m⟩ := F
  obtain rfl : P = Try.prog := hP
  obtain rfl : N = 21 := hN
  obtain rfl : m = 2 := hm
  have he : Env ⟨Try.prog, 21, w0, σ0, β0, 2⟩ tab := ⟨Nat.le_of_ble_eq_true rfl, tabOk⟩
  unfold m_spec_l6AnyW at h
  refine W_seq ?_
  refine W_regV he rfl ?_
  refine v0 (sAl rfl rfl 101 rfl) rfl ?_
  refine ve ?_
  refine W2 [0, 2] [1, 101] [] (l := [(0, .c (.ptr _ _ _ _)), (2, .c (.ptr _ _ _ _))]) (h := [(1, ⟨0, 3, [[.row _ _ _, .int _ _, .int _ _]]⟩), (101, ⟨0, 2, [[.int _ _, .int _ _]]⟩)]) (h' := []) trivial rfl rfl rfl ?_
  refine W_seq ?_
  refine W_regV he rfl ?_
  refine v0 (sM rfl [] rfl) rfl ?_
  refine bndc h ?_; clear h; intro r1 hr1 h
  refine v0 (sCw (l := [a0]) (l' := [r1.2]) (w_spec_l6HandleW K a0 _ hr1) ok_spec_l6Handle enOk_spec_l1Cur rfl 1 rfl rfl rfl rfl rfl rfl) rfl ?_
  refine v0 (sAl rfl rfl 102 rfl) rfl ?_
  refine v0 (sSt rfl rfl [] rfl rfl) rfl ?_
  refine ve ?_
  refine W2 [0, 2, 3] [1, 101, 102] [] (l := [(0, .c (.ptr _ _ _ _)), (2, .c (.ptr _ _ _ _)), (3, .c (.ptr _ _ _ _))]) (h := [(1, ⟨0, 3, [[.row _ _ _, .int _ _, .int _ _]]⟩), (101, ⟨0, 2, [[.int _ _, .int _ _]]⟩), (102, ⟨0, 2, [[.int _ _, .int _ _]]⟩)]) (h' := []) trivial rfl rfl rfl ?_
  refine W_join (fun S => ∃ (v103 : List Int), ∃ (v104 : Int), ∃ (v105 : Int), ∃ (v106 : Int), ∃ (v107 : Int), S = StL [(2, .c (.ptr 101 0 0 0)), (3, .c (.ptr 102 0 0 0))] ([(1, ⟨0, 3, [[.row false 1 (v103.map en_u8), .int .i64 v104, .int .i64 v105]]⟩), (101, ⟨0, 2, [[.int .i64 0, .int .i64 0]]⟩), (102, ⟨0, 2, [[.int .i64 v106, .int .i64 v107]]⟩)] ++ []) ∧ j_spec_l6AnyW_2 K v103 v104 v105 v106 v107 = some r) ?_ ?_
  · rintro S ⟨v103, v104, v105, v106, v107, rfl, h⟩
    unfold j_spec_l6AnyW_2 at h
    refine W_seq ?_
    refine W_regV he rfl ?_
    refine v0 (sLd rfl rfl) rfl ?_
    refine v0 (sSt rfl rfl [] rfl rfl) rfl ?_
    refine ve ?_
    refine W2 [2] [1, 101] [] (l := [(2, .c (.ptr _ _ _ _))]) (h := [(1, ⟨0, 3, [[.row _ _ _, .int _ _, .int _ _]]⟩), (101, ⟨0, 2, [[.int _ _, .int _ _]]⟩)]) (h' := []) trivial rfl rfl rfl ?_
    obtain rfl := Option.some.inj h
    exact W_ret (retOne (l := [(T_spec_l1Cur.mk v103 v104 v105)]) 1 1 (.inr ⟨rfl, rfl⟩) enOk_spec_l1Cur rfl rfl rfl)
  ·
    refine W_seq ?_
    refine W_regV he rfl ?_
    refine v0 (sM rfl [] rfl) rfl ?_
    refine bndc h ?_; clear h; intro r108 hr108 h
    refine v0 (sCw (l := [r1.2]) (l' := [r108.2]) (w_spec_l1BelowW K r1.2 8 _ hr108) ok_spec_l1Below enOk_spec_l1Cur rfl 1 rfl rfl rfl rfl rfl rfl) rfl ?_
    refine ve ?_
    refine W2 [0, 2, 3, 7] [1, 101, 102] [] (l := [(0, .c (.ptr _ _ _ _)), (2, .c (.ptr _ _ _ _)), (3, .c (.ptr _ _ _ _)), (7, .c (.int _ _))]) (h := [(1, ⟨0, 3, [[.row _ _ _, .int _ _, .int _ _]]⟩), (101, ⟨0, 2, [[.int _ _, .int _ _]]⟩), (102, ⟨0, 2, [[.int _ _, .int _ _]]⟩)]) (h' := []) trivial rfl rfl rfl ?_
    refine W_block ?_
    refine W_seq ?_
    refine W_regV he rfl ?_
    refine v0 (sBi rfl rfl rfl rfl) rfl ?_
    refine v0 (sA rfl [] rfl) rfl ?_
    refine ve ?_
    refine W2 [0, 2, 3, 7, 8] [1, 101, 102] [] (l := [(0, .c (.ptr _ _ _ _)), (2, .c (.ptr _ _ _ _)), (3, .c (.ptr _ _ _ _)), (7, .c (.int _ _)), (8, .c (.bool _))]) (h := [(1, ⟨0, 3, [[.row _ _ _, .int _ _, .int _ _]]⟩), (101, ⟨0, 2, [[.int _ _, .int _ _]]⟩), (102, ⟨0, 2, [[.int _ _, .int _ _]]⟩)]) (h' := []) trivial rfl rfl rfl ?_
    refine W_condB rfl (fun hb109 => ?_) (fun hb109 => ?_)
    ·
      replace h := brT hb109 h
      refine W_regV he rfl ?_
      refine v0 (sM rfl [] rfl) rfl ?_
      refine v0 (sBS rfl 1011 (rows := ([(-1), 1000000000, 9] : List Int).map en_i64) rfl rfl rfl (by kernel_rfl) rfl rfl rfl rfl) rfl ?_
      refine vWk (wk_row (l := ([(-1), 1000000000, 9] : List Int)) 11 enOk_i64 rfl rfl) ?_
      refine bndc h ?_; clear h; intro r110 hr110 h
      refine v0 (sCw (l := [r108.2]) (l' := [r110.2]) (w_spec_l1IntW K r108.2 ([(-1), 1000000000, 9] : List Int) _ hr110) ok_spec_l1Int enOk_spec_l1Cur rfl 1 rfl rfl rfl rfl rfl rfl) rfl ?_
      refine v0 (sFP rfl rfl rfl) rfl ?_
      refine v0 (sSt rfl rfl [] rfl rfl) rfl ?_
      refine ve ?_
      exact ⟨_, wk2 [2, 3] [1, 101, 102] [] (l := [(2, .c (.ptr _ _ _ _)), (3, .c (.ptr _ _ _ _))]) (h := [(1, ⟨0, 3, [[.row _ _ _, .int _ _, .int _ _]]⟩), (101, ⟨0, 2, [[.int _ _, .int _ _]]⟩), (102, ⟨0, 2, [[.int _ _, .int _ _]]⟩)]) (h' := []) trivial rfl rfl rfl, _, _, _, _, _, rfl, h⟩
    ·
      replace h := brF hb109 h
      refine W_seq ?_
      refine W_regV he rfl ?_
      refine v0 (sBi rfl rfl rfl rfl) rfl ?_
      refine v0 (sA rfl [] rfl) rfl ?_
      refine ve ?_
      refine W2 [0, 2, 3, 14] [1, 101, 102] [] (l := [(0, .c (.ptr _ _ _ _)), (2, .c (.ptr _ _ _ _)), (3, .c (.ptr _ _ _ _)), (14, .c (.bool _))]) (h := [(1, ⟨0, 3, [[.row _ _ _, .int _ _, .int _ _]]⟩), (101, ⟨0, 2, [[.int _ _, .int _ _]]⟩), (102, ⟨0, 2, [[.int _ _, .int _ _]]⟩)]) (h' := []) trivial rfl rfl rfl ?_
      refine W_condB rfl (fun hb111 => ?_) (fun hb111 => ?_)
      ·
        replace h := brT hb111 h
        refine W_regV he rfl ?_
        refine v0 (sM rfl [] rfl) rfl ?_
        refine v0 (sBS rfl 1017 (rows := ([0, (-1), 5] : List Int).map en_i64) rfl rfl rfl (by kernel_rfl) rfl rfl rfl rfl) rfl ?_
        refine vWk (wk_row (l := ([0, (-1), 5] : List Int)) 17 enOk_i64 rfl rfl) ?_
        refine bndc h ?_; clear h; intro r112 hr112 h
        refine v0 (sCw (l := [r108.2]) (l' := [r112.2]) (w_spec_l1IntW K r108.2 ([0, (-1), 5] : List Int) _ hr112) ok_spec_l1Int enOk_spec_l1Cur rfl 1 rfl rfl rfl rfl rfl rfl) rfl ?_
        refine v0 (sFP rfl rfl rfl) rfl ?_
        refine v0 (sSt rfl rfl [] rfl rfl) rfl ?_
        refine ve ?_
        exact ⟨_, wk2 [2, 3] [1, 101, 102] [] (l := [(2, .c (.ptr _ _ _ _)), (3, .c (.ptr _ _ _ _))]) (h := [(1, ⟨0, 3, [[.row _ _ _, .int _ _, .int _ _]]⟩), (101, ⟨0, 2, [[.int _ _, .int _ _]]⟩), (102, ⟨0, 2, [[.int _ _, .int _ _]]⟩)]) (h' := []) trivial rfl rfl rfl, _, _, _, _, _, rfl, h⟩
      ·
        replace h := brF hb111 h
        refine W_skip ?_
        exact ⟨_, wk2 [2, 3] [1, 101, 102] [] (l := [(2, .c (.ptr _ _ _ _)), (3, .c (.ptr _ _ _ _))]) (h := [(1, ⟨0, 3, [[.row _ _ _, .int _ _, .int _ _]]⟩), (101, ⟨0, 2, [[.int _ _, .int _ _]]⟩), (102, ⟨0, 2, [[.int _ _, .int _ _]]⟩)]) (h' := []) trivial rfl rfl rfl, _, _, _, _, _, rfl, h⟩
theorem ok_spec_l6Any : FnOk Try.prog 78 := ⟨_, Try.func78, rfl, rfl⟩


/-! ### loop.example/g00499/spec.l6Ref -/
def m_spec_l6RefW (K : Nat) (a0 : T_spec_l1Cur) : Option (T_impl_Ref × T_spec_l1Cur) := ((m_spec_l6AnyW K a0).bind fun r1 => ((m_spec_l1IntW K r1.2 ([0, 0, 0, 1, 2, (-1)] : List Int)).bind fun r2 => ((m_spec_l1IntW K r2.2 ([0, 0, 1, 2, 5, (-1)] : List Int)).bind fun r3 => some ((T_impl_Ref.mk r1.1 r2.1 r3.1), r3.2))))
set_option maxRecDepth 20000 in
set_option maxHeartbeats 8000000 in
theorem w_spec_l6RefW (K : Nat) (a0 : T_spec_l1Cur) (r : T_impl_Ref × T_spec_l1Cur) (h : m_spec_l6RefW K a0 = some r) : Sp Try.prog 79 [.c (.ptr 1 0 0 0)] [⟨0, 3, [a0].map en_spec_l1Cur⟩] (.g [.int .i64 r.1.fH.fSlot, .int .i64 r.1.fH.fGen, .int .i64 r.1.fEp, .int .i64 r.1.fNo]) [⟨0, 3, [r.2].map en_spec_l1Cur⟩] := by
  refine Sp.of_W tabOk Try.func79 rfl rfl (Nat.le_of_ble_eq_true rfl) (Nat.le_of_ble_eq_true rfl) fun F hP hN hm => ?_
  obtain ⟨P, N, w0, σ0, β0, m⟩ := F
  obtain rfl : P = Try.prog := hP
  obtain rfl : N = 12 := hN
  obtain rfl : m = 2 := hm
  have he : Env ⟨Try.prog, 12, w0, σ0, β0, 2⟩ tab := ⟨Nat.le_of_ble_eq_true rfl, tabOk⟩
  unfold m_spec_l6RefW at h
  refine W_seq ?_
  refine W_regV he rfl ?_
  refine v0 (sAl rfl rfl 101 rfl) rfl ?_
  refine ve ?_
  refine W2 [0, 2] [1, 101] [] (l := [(0, .c (.ptr _ _ _ _)), (2, .c (.ptr _ _ _ _))]) (h := [(1, ⟨0, 3, [[.row _ _ _, .int _ _, .int _ _]]⟩), (101, ⟨0, 4, [[.int _ _, .int _ _, .int _ _, .int _ _]]⟩)]) (h' := []) trivial rfl rfl rfl ?_
  refine W_seq ?_
  refine W_regV he rfl ?_
  refine v0 (sM rfl [] rfl) rfl ?_
  refine bndc h ?_; clear h; intro r1 hr1 h
  refine v0 (sCw (l := [a0]) (l' := [r1.2]) (w_spec_l6AnyW K a0 _ hr1) ok_spec_l6Any enOk_spec_l1Cur rfl 1 rfl rfl rfl rfl rfl rfl) rfl ?_
  refine v0 (sM rfl [] rfl) rfl ?_
  refine v0 (sBS rfl 1006 (rows := ([0, 0, 0, 1, 2, (-1)] : List Int).map en_i64) rfl rfl rfl (by kernel_rfl) rfl rfl rfl rfl) rfl ?_
  refine vWk (wk_row (l := ([0, 0, 0, 1, 2, (-1)] : List Int)) 6 enOk_i64 rfl rfl) ?_
  refine bndc h ?_; clear h; intro r2 hr2 h
  refine v0 (sCw (l := [r1.2]) (l' := [r2.2]) (w_spec_l1IntW K r1.2 ([0, 0, 0, 1, 2, (-1)] : List Int) _ hr2) ok_spec_l1Int enOk_spec_l1Cur rfl 1 rfl rfl rfl rfl rfl rfl) rfl ?_
  refine v0 (sM rfl [] rfl) rfl ?_
  refine v0 (sBS rfl 1009 (rows := ([0, 0, 1, 2, 5, (-1)] : List Int).map en_i64) rfl rfl rfl (by kernel_rfl) rfl rfl rfl rfl) rfl ?_
  refine vWk (wk_row (l := ([0, 0, 1, 2, 5, (-1)] : List Int)) 9 enOk_i64 rfl rfl) ?_
  refine bndc h ?_; clear h; intro r3 hr3 h
  refine v0 (sCw (l := [r2.2]) (l' := [r3.2]) (w_spec_l1IntW K r2.2 ([0, 0, 1, 2, 5, (-1)] : List Int) _ hr3) ok_spec_l1Int enOk_spec_l1Cur rfl 1 rfl rfl rfl rfl rfl rfl) rfl ?_
  refine v0 (sBd rfl [[], [], []] (out := [.int .i64 r1.1.fSlot, .int .i64 r1.1.fGen, .int .i64 r2.1, .int .i64 r3.1]) rfl (by kernel_rfl)) rfl ?_
  refine v0 (sSt rfl rfl [] rfl rfl) rfl ?_
  refine ve ?_
  refine W2 [2] [1, 101] [] (l := [(2, .c (.ptr _ _ _ _))]) (h := [(1, ⟨0, 3, [[.row _ _ _, .int _ _, .int _ _]]⟩), (101, ⟨0, 4, [[.int _ _, .int _ _, .int _ _, .int _ _]]⟩)]) (h' := []) trivial rfl rfl rfl ?_
  obtain rfl := Option.some.inj h
  exact W_ret (retOne (l := [r3.2]) 1 1 (.inr ⟨rfl, rfl⟩) enOk_spec_l1Cur rfl rfl rfl)
theorem ok_spec_l6Ref : FnOk Try.prog 79 := ⟨_, Try.func79, rfl, rfl⟩


/-! ### loop.example/g00499/spec.l1Odd -/
def m_spec_l1OddW (K : Nat) (a0 : T_spec_l1Cur) : Option (Int × T_spec_l1Cur) := ((m_spec_l1IntW K a0 ([(-1), 0, 1, 2, 255, 256, 65535, 2147483647, 2147483648, 4294967295, 4294967296, (-2147483648), 9223372036854775807, (-9223372036854775808)] : List Int)).bind fun r1 => some (r1.1, r1.2))
set_option maxRecDepth 20000 in
set_option maxHeartbeats 8000000 in
theorem w_spec_l1OddW (K : Nat) (a0 : T_spec_l1Cur) (r : Int × T_spec_l1Cur) (h : m_spec_l1OddW K a0 = some r) : Sp Try.prog 81 [.c (.ptr 1 0 0 0)] [⟨0, 3, [a0].map en_spec_l1Cur⟩] (.c (.int .i64 r.1)) [⟨0, 3, [r.2].map en_spec_l1Cur⟩] := by
  refine Sp.of_W tabOk Try.func81 rfl rfl (Nat.le_of_ble_eq_true rfl) (Nat.le_of_ble_eq_true rfl) fun F hP hN hm => ?_
  obtain ⟨P, N, w0, σ0, β0, m⟩ := F
  obtain rfl : P = Try.prog := hP
  obtain rfl : N = 6 := hN
  obtain rfl : m = 2 := hm
  have he : Env ⟨Try.prog, 6, w0, σ0, β0, 2⟩ tab := ⟨Nat.le_of_ble_eq_true rfl, tabOk⟩
  unfold m_spec_l1OddW at h
  refine W_seq ?_
  refine W_regV he rfl ?_
  refine v0 (sA rfl [] rfl) rfl ?_
  refine ve ?_
  refine W2 [0] [1] [] (l := [(0, .c (.ptr _ _ _ _))]) (h := [(1, ⟨0, 3, [[.row _ _ _, .int _ _, .int _ _]]⟩)]) (h' := []) trivial rfl rfl rfl ?_
  refine W_seq ?_
  refine W_regV he rfl ?_
  refine v0 (sM rfl [] rfl) rfl ?_
  refine v0 (sBS rfl 1004 (rows := ([(-1), 0, 1, 2, 255, 256, 65535, 2147483647, 2147483648, 4294967295, 4294967296, (-2147483648), 9223372036854775807, (-9223372036854775808)] : List Int).map en_i64) rfl rfl rfl (by kernel_rfl) rfl rfl rfl rfl) rfl ?_
  refine vWk (wk_row (l := ([(-1), 0, 1, 2, 255, 256, 65535, 2147483647, 2147483648, 4294967295, 4294967296, (-2147483648), 9223372036854775807, (-9223372036854775808)] : List Int)) 4 enOk_i64 rfl rfl) ?_
  refine bndc h ?_; clear h; intro r1 hr1 h
  refine v0 (sCw (l := [a0]) (l' := [r1.2]) (w_spec_l1IntW K a0 ([(-1), 0, 1, 2, 255, 256, 65535, 2147483647, 2147483648, 4294967295, 4294967296, (-2147483648), 9223372036854775807, (-9223372036854775808)] : List Int) _ hr1) ok_spec_l1Int enOk_spec_l1Cur rfl 1 rfl rfl rfl rfl rfl rfl) rfl ?_
  refine v0 (sA rfl [] rfl) rfl ?_
  refine ve ?_
  refine W2 [2] [1] [] (l := [(2, .c (.int _ _))]) (h := [(1, ⟨0, 3, [[.row _ _ _, .int _ _, .int _ _]]⟩)]) (h' := []) trivial rfl rfl rfl ?_
  obtain rfl := Option.some.inj h
  exact W_ret (retOne (l := [r1.2]) 1 1 (.inr ⟨rfl, rfl⟩) enOk_spec_l1Cur rfl rfl rfl)
theorem ok_spec_l1Odd : FnOk Try.prog 81 := ⟨_, Try.func81, rfl, rfl⟩


/-! ### loop.example/g00499/spec.l1Raw -/
def m_spec_l1RawW (K : Nat) (a0 : T_spec_l1Cur) : Option (Int × T_spec_l1Cur) := ((m_spec_l1OnceW K a0 2).bind fun r1 => (bif r1.1 then ((m_spec_l1OddW K r1.2).bind fun r3 => some (r3.1, r3.2)) else ((m_spec_l1IntW K r1.2 ([(-1), 1000000000, 1000000001] : List Int)).bind fun r4 => some (r4.1, r4.2))))
set_option maxRecDepth 20000 in
set_option maxHeartbeats 8000000 in
theorem w_spec_l1RawW (K : Nat) (a0 : T_spec_l1Cur) (r : Int × T_spec_l1Cur) (h : m_spec_l1RawW K a0 = some r) : Sp Try.prog 77 [.c (.ptr 1 0 0 0)] [⟨0, 3, [a0].map en_spec_l1Cur⟩] (.c (.int .i64 r.1)) [⟨0, 3, [r.2].map en_spec_l1Cur⟩] := by
  refine Sp.of_W tabOk Try.func77 rfl rfl (Nat.le_of_ble_eq_true rfl) (Nat.le_of_ble_eq_true rfl) fun F hP hN hm => ?_
  obtain ⟨P, N, w0, σ0, β0, m⟩ := F
  obtain rfl : P = Try.prog := hP
  obtain rfl : N = 10 := hN
  obtain rfl : m = 2 := hm
  have he : Env ⟨Try.prog, 10, w0, σ0, β0, 2⟩ tab := ⟨Nat.le_of_ble_eq_true rfl, tabOk⟩
  unfold m_spec_l1RawW at h
  refine W_seq ?_
  refine W_regV he rfl ?_
  refine v0 (sA rfl [] rfl) rfl ?_
  refine ve ?_
  refine W2 [0] [1] [] (l := [(0, .c (.ptr _ _ _ _))]) (h := [(1, ⟨0, 3, [[.row _ _ _, .int _ _, .int _ _]]⟩)]) (h' := []) trivial rfl rfl rfl ?_
  refine W_seq ?_
  refine W_seq ?_
  refine W_regV he rfl ?_
  refine v0 (sM rfl [] rfl) rfl ?_
  refine bndc h ?_; clear h; intro r1 hr1 h
  refine vB (sCw (l := [a0]) (l' := [r1.2]) (w_spec_l1OnceW K a0 2 _ hr1) ok_spec_l1Once enOk_spec_l1Cur rfl 1 rfl rfl rfl rfl rfl rfl) rfl rfl fun b2 hb2 => ?_
  cases b2 with
  | true =>
    replace h := brT hb2 h
    refine ve ?_
    refine W2 [0, 4] [1] [] (l := [(0, .c (.ptr _ _ _ _)), (4, .c (.bool true))]) (h := [(1, ⟨0, 3, [[.row _ _ _, .int _ _, .int _ _]]⟩)]) (h' := []) trivial rfl rfl rfl ?_
    refine W_true rfl ?_
    refine W_seq ?_
    refine W_regV he rfl ?_
    refine v0 (sM rfl [] rfl) rfl ?_
    refine bndc h ?_; clear h; intro r3 hr3 h
    refine v0 (sCw (l := [r1.2]) (l' := [r3.2]) (w_spec_l1OddW K r1.2 _ hr3) ok_spec_l1Odd enOk_spec_l1Cur rfl 1 rfl rfl rfl rfl rfl rfl) rfl ?_
    refine v0 (sA rfl [] rfl) rfl ?_
    refine ve ?_
    refine W2 [2] [1] [] (l := [(2, .c (.int _ _))]) (h := [(1, ⟨0, 3, [[.row _ _ _, .int _ _, .int _ _]]⟩)]) (h' := []) trivial rfl rfl rfl ?_
    obtain rfl := Option.some.inj h
    exact W_ret (retOne (l := [r3.2]) 1 1 (.inr ⟨rfl, rfl⟩) enOk_spec_l1Cur rfl rfl rfl)
  | false =>
    replace h := brF hb2 h
    refine ve ?_
    refine W2 [0, 4] [1] [] (l := [(0, .c (.ptr _ _ _ _)), (4, .c (.bool false))]) (h := [(1, ⟨0, 3, [[.row _ _ _, .int _ _, .int _ _]]⟩)]) (h' := []) trivial rfl rfl rfl ?_
    refine W_false rfl ?_
    refine W_skip ?_
    refine W_seq ?_
    refine W_regV he rfl ?_
    refine v0 (sM rfl [] rfl) rfl ?_
    refine v0 (sBS rfl 1008 (rows := ([(-1), 1000000000, 1000000001] : List Int).map en_i64) rfl rfl rfl (by kernel_rfl) rfl rfl rfl rfl) rfl ?_
    refine vWk (wk_row (l := ([(-1), 1000000000, 1000000001] : List Int)) 8 enOk_i64 rfl rfl) ?_
    refine bndc h ?_; clear h; intro r4 hr4 h
    refine v0 (sCw (l := [r1.2]) (l' := [r4.2]) (w_spec_l1IntW K r1.2 ([(-1), 1000000000, 1000000001] : List Int) _ hr4) ok_spec_l1Int enOk_spec_l1Cur rfl 1 rfl rfl rfl rfl rfl rfl) rfl ?_
    refine v0 (sA rfl [] rfl) rfl ?_
    refine ve ?_
    refine W2 [2] [1] [] (l := [(2, .c (.int _ _))]) (h := [(1, ⟨0, 3, [[.row _ _ _, .int _ _, .int _ _]]⟩)]) (h' := []) trivial rfl rfl rfl ?_
    obtain rfl := Option.some.inj h
    exact W_ret (retOne (l := [r4.2]) 1 1 (.inr ⟨rfl, rfl⟩) enOk_spec_l1Cur rfl rfl rfl)
theorem ok_spec_l1Raw : FnOk Try.prog 77 := ⟨_, Try.func77, rfl, rfl⟩


/-! ### loop.example/g00499/spec.l21Any -/
def j_spec_l21AnyW_2 (K : Nat) (v103 : List Int) (v104 : Int) (v105 : Int) (v106 : Int) (v107 : Int) (v108 : Int) (v109 : Int) (v110 : Int) (v111 : Int) (v112 : Int) (v113 : Int) (v114 : Int) (v115 : List Int) : Option (T_impl_Op × T_spec_l1Cur) := some ((T_impl_Op.mk v106 (T_impl_Handle.mk v107 v108) (T_impl_Ref.mk (T_impl_Handle.mk v109 v110) v111 v112) v113 v114 v115), (T_spec_l1Cur.mk v103 v104 v105))
def m_spec_l21AnyW (K : Nat) (a0 : T_spec_l1Cur) : Option (T_impl_Op × T_spec_l1Cur) := ((m_spec_l21DrawW K a0).bind fun r1 => ((m_spec_l1BelowW K r1.2 12).bind fun r116 => (bif (r116.1 == 0) then ((m_spec_l1IntW K r116.2 ([0, 9, 10, (-1)] : List Int)).bind fun r118 => j_spec_l21AnyW_2 K r118.2.fb r118.2.fi r118.2.fh r118.1 r1.1.fH.fSlot r1.1.fH.fGen r1.1.fR.fH.fSlot r1.1.fR.fH.fGen r1.1.fR.fEp r1.1.fR.fNo r1.1.fN r1.1.fM r1.1.fB) else (bif (r116.1 == 1) then ((m_spec_l6AnyW K r116.2).bind fun r120 => j_spec_l21AnyW_2 K r120.2.fb r120.2.fi r120.2.fh r1.1.fKind r120.1.fSlot r120.1.fGen r1.1.fR.fH.fSlot r1.1.fR.fH.fGen r1.1.fR.fEp r1.1.fR.fNo r1.1.fN r1.1.fM r1.1.fB) else (bif (r116.1 == 2) then ((m_spec_l6RefW K r116.2).bind fun r122 => j_spec_l21AnyW_2 K r122.2.fb r122.2.fi r122.2.fh r1.1.fKind r1.1.fH.fSlot r1.1.fH.fGen r122.1.fH.fSlot r122.1.fH.fGen r122.1.fEp r122.1.fNo r1.1.fN r1.1.fM r1.1.fB) else (bif (r116.1 == 3) then ((m_spec_l1RawW K r116.2).bind fun r124 => j_spec_l21AnyW_2 K r124.2.fb r124.2.fi r124.2.fh r1.1.fKind r1.1.fH.fSlot r1.1.fH.fGen r1.1.fR.fH.fSlot r1.1.fR.fH.fGen r1.1.fR.fEp r1.1.fR.fNo r124.1 r1.1.fM r1.1.fB) else (bif (r116.1 == 4) then (if (r1.1.fB ++ ([1] : List Int)).length * 1 ≤ 140737488355328 ∧ (r1.1.fB ++ ([1] : List Int)).length ≤ maxLen then j_spec_l21AnyW_2 K r116.2.fb r116.2.fi r116.2.fh r1.1.fKind r1.1.fH.fSlot r1.1.fH.fGen r1.1.fR.fH.fSlot r1.1.fR.fH.fGen r1.1.fR.fEp r1.1.fR.fNo r1.1.fN r1.1.fM (r1.1.fB ++ ([1] : List Int)) else none) else j_spec_l21AnyW_2 K r116.2.fb r116.2.fi r116.2.fh r1.1.fKind r1.1.fH.fSlot r1.1.fH.fGen r1.1.fR.fH.fSlot r1.1.fR.fH.fGen r1.1.fR.fEp r1.1.fR.fNo r1.1.fN r1.1.fM r1.1.fB)))))))
set_option maxRecDepth 20000 in
set_option maxHeartbeats 8000000 in
theorem wx_spec_l21AnyW (K : Nat) (a0 : T_spec_l1Cur) (r : T_impl_Op × T_spec_l1Cur) (h : m_spec_l21AnyW K a0 = some r) : Sp Try.prog 74 [.c (.ptr 1 0 0 0)] [⟨0, 3, [a0].map en_spec_l1Cur⟩] (.g [.int .i64 r.1.fKind, .int .i64 r.1.fH.fSlot, .int .i64 r.1.fH.fGen, .int .i64 r.1.fR.fH.fSlot, .int .i64 r.1.fR.fH.fGen, .int .i64 r.1.fR.fEp, .int .i64 r.1.fR.fNo, .int .i64 r.1.fN, .int .i64 r.1.fM, .own 2 0 0 r.1.fB.length]) [⟨0, 3, [r.2].map en_spec_l1Cur⟩, ⟨0, 1, r.1.fB.map en_u8⟩] := by
  refine Sp.of_W tabOk Try.func74 rfl rfl (Nat.le_of_ble_eq_true rfl) (Nat.le_of_ble_eq_true rfl) fun F hP hN hm => ?_
  obtain ⟨P, N, w0, σ0, β0, m⟩ := F
  obtain rfl : P = Try.prog := hP
  obtain rfl : N = 37 := hN
  obtain rfl : m = 2 := hm
  have he : Env ⟨Try.prog, 37, w0, σ0, β0, 2⟩ tab := ⟨Nat.le_of_ble_eq_true rfl, tabOk⟩
  unfold m_spec_l21AnyW at h
  refine W_seq ?_
  refine W_regV he rfl ?_
  refine v0 (sAl rfl rfl 101 rfl) rfl ?_
  refine ve ?_
  refine W2 [0, 2] [1, 101] [] (l := [(0, .c (.ptr _ _ _ _)), (2, .c (.ptr _ _ _ _))]) (h := [(1, ⟨0, 3, [[.row _ _ _, .int _ _, .int _ _]]⟩), (101, ⟨0, 10, [[.int _ _, .int _ _, .int _ _, .int _ _, .int _ _, .int _ _, .int _ _, .int _ _, .int _ _, .row _ _ _]]⟩)]) (h' := []) trivial rfl rfl rfl ?_
  refine W_seq ?_
  refine W_regV he rfl ?_
  refine v0 (sM rfl [] rfl) rfl ?_
  refine bndc h ?_; clear h; intro r1 hr1 h
  refine v0 (sCx (l := [a0]) (l' := [r1.2]) (wx_spec_l21DrawW K a0 _ hr1) ok_spec_l21Draw enOk_spec_l1Cur enOk_u8 rfl 1 1005 rfl rfl rfl rfl rfl rfl rfl) rfl ?_
  refine v0 (sAl rfl rfl 102 rfl) rfl ?_
  refine v0 (sSt rfl rfl [] rfl rfl) rfl ?_
  refine ve ?_
  refine W2 [0, 2, 3] [1, 101, 102] [1005] (l := [(0, .c (.ptr _ _ _ _)), (2, .c (.ptr _ _ _ _)), (3, .c (.ptr _ _ _ _))]) (h := [(1, ⟨0, 3, [[.row _ _ _, .int _ _, .int _ _]]⟩), (101, ⟨0, 10, [[.int _ _, .int _ _, .int _ _, .int _ _, .int _ _, .int _ _, .int _ _, .int _ _, .int _ _, .row _ _ _]]⟩), (102, ⟨0, 10, [[.int _ _, .int _ _, .int _ _, .int _ _, .int _ _, .int _ _, .int _ _, .int _ _, .int _ _, .own _ _ _ _]]⟩)]) (h' := [(1005, ⟨0, 1, r1.1.fB.map en_u8⟩)]) ⟨⟨_, rfl, enOk_u8.allClosed _ _ r1.1.fB⟩, trivial⟩ rfl rfl rfl ?_
  refine W_join (fun S => ∃ (v103 : List Int), ∃ (v104 : Int), ∃ (v105 : Int), ∃ (v106 : Int), ∃ (v107 : Int), ∃ (v108 : Int), ∃ (v109 : Int), ∃ (v110 : Int), ∃ (v111 : Int), ∃ (v112 : Int), ∃ (v113 : Int), ∃ (v114 : Int), ∃ (v115 : List Int), S = StL [(2, .c (.ptr 101 0 0 0)), (3, .c (.ptr 102 0 0 0))] ([(1, ⟨0, 3, [[.row false 1 (v103.map en_u8), .int .i64 v104, .int .i64 v105]]⟩), (101, ⟨0, 10, [[.int .i64 0, .int .i64 0, .int .i64 0, .int .i64 0, .int .i64 0, .int .i64 0, .int .i64 0, .int .i64 0, .int .i64 0, .row true 1 []]]⟩), (102, ⟨0, 10, [[.int .i64 v106, .int .i64 v107, .int .i64 v108, .int .i64 v109, .int .i64 v110, .int .i64 v111, .int .i64 v112, .int .i64 v113, .int .i64 v114, .own 1005 0 0 v115.length]]⟩)] ++ [(1005, ⟨0, 1, v115.map en_u8⟩)]) ∧ j_spec_l21AnyW_2 K v103 v104 v105 v106 v107 v108 v109 v110 v111 v112 v113 v114 v115 = some r) ?_ ?_
  · rintro S ⟨v103, v104, v105, v106, v107, v108, v109, v110, v111, v112, v113, v114, v115, rfl, h⟩
    unfold j_spec_l21AnyW_2 at h
    refine W_seq ?_
    refine W_regV he rfl ?_
    refine v0 (sLd rfl rfl) rfl ?_
    refine v0 (sSt rfl rfl [] rfl rfl) rfl ?_
    refine ve ?_
    refine W2 [2] [1, 101] [1005] (l := [(2, .c (.ptr _ _ _ _))]) (h := [(1, ⟨0, 3, [[.row _ _ _, .int _ _, .int _ _]]⟩), (101, ⟨0, 10, [[.int _ _, .int _ _, .int _ _, .int _ _, .int _ _, .int _ _, .int _ _, .int _ _, .int _ _, .own _ _ _ _]]⟩)]) (h' := [(1005, ⟨0, 1, v115.map en_u8⟩)]) ⟨⟨_, rfl, enOk_u8.allClosed _ _ v115⟩, trivial⟩ rfl rfl rfl ?_
    obtain rfl := Option.some.inj h
    exact W_ret (retTwo (l := [(T_spec_l1Cur.mk v103 v104 v105)]) 1005 rfl enOk_spec_l1Cur enOk_u8 rfl rfl rfl rfl)
  ·
    refine W_seq ?_
    refine W_regV he rfl ?_
    refine v0 (sM rfl [] rfl) rfl ?_
    refine bndc h ?_; clear h; intro r116 hr116 h
    refine v0 (sCw (l := [r1.2]) (l' := [r116.2]) (w_spec_l1BelowW K r1.2 12 _ hr116) ok_spec_l1Below enOk_spec_l1Cur rfl 1 rfl rfl rfl rfl rfl rfl) rfl ?_
    refine ve ?_
    refine W2 [0, 2, 3, 7] [1, 101, 102] [1005] (l := [(0, .c (.ptr _ _ _ _)), (2, .c (.ptr _ _ _ _)), (3, .c (.ptr _ _ _ _)), (7, .c (.int _ _))]) (h := [(1, ⟨0, 3, [[.row _ _ _, .int _ _, .int _ _]]⟩), (101, ⟨0, 10, [[.int _ _, .int _ _, .int _ _, .int _ _, .int _ _, .int _ _, .int _ _, .int _ _, .int _ _, .row _ _ _]]⟩), (102, ⟨0, 10, [[.int _ _, .int _ _, .int _ _, .int _ _, .int _ _, .int _ _, .int _ _, .int _ _, .int _ _, .own _ _ _ _]]⟩)]) (h' := [(1005, ⟨0, 1, r1.1.fB.map en_u8⟩)]) ⟨⟨_, rfl, enOk_u8.allClosed _ _ r1.1.fB⟩, trivial⟩ rfl rfl rfl ?_
    refine W_block ?_
    refine W_seq ?_
    refine W_regV he rfl ?_
    refine v0 (sBi rfl rfl rfl rfl) rfl ?_
    refine v0 (sA rfl [] rfl) rfl ?_
    refine ve ?_
    refine W2 [0, 2, 3, 7, 8] [1, 101, 102] [1005] (l := [(0, .c (.ptr _ _ _ _)), (2, .c (.ptr _ _ _ _)), (3, .c (.ptr _ _ _ _)), (7, .c (.int _ _)), (8, .c (.bool _))]) (h := [(1, ⟨0, 3, [[.row _ _ _, .int _ _, .int _ _]]⟩), (101, ⟨0, 10, [[.int _ _, .int _ _, .int _ _, .int _ _, .int _ _, .int _ _, .int _ _, .int _ _, .int _ _, .row _ _ _]]⟩), (102, ⟨0, 10, [[.int _ _, .int _ _, .int _ _, .int _ _, .int _ _, .int _ _, .int _ _, .int _ _, .int _ _, .own _ _ _ _]]⟩)]) (h' := [(1005, ⟨0, 1, r1.1.fB.map en_u8⟩)]) ⟨⟨_, rfl, enOk_u8.allClosed _ _ r1.1.fB⟩, trivial⟩ rfl rfl rfl ?_
    refine W_condB rfl (fun hb117 => ?_) (fun hb117 => ?_)
    ·
      replace h := brT hb117 h
      refine W_regV he rfl ?_
      refine v0 (sM rfl [] rfl) rfl ?_
      refine v0 (sBS rfl 1011 (rows := ([0, 9, 10, (-1)] : List Int).map en_i64) rfl rfl rfl (by kernel_rfl) rfl rfl rfl rfl) rfl ?_
      refine vWk (wk_row (l := ([0, 9, 10, (-1)] : List Int)) 11 enOk_i64 rfl rfl) ?_
      refine bndc h ?_; clear h; intro r118 hr118 h
      refine v0 (sCw (l := [r116.2]) (l' := [r118.2]) (w_spec_l1IntW K r116.2 ([0, 9, 10, (-1)] : List Int) _ hr118) ok_spec_l1Int enOk_spec_l1Cur rfl 1 rfl rfl rfl rfl rfl rfl) rfl ?_
      refine v0 (sFP rfl rfl rfl) rfl ?_
      refine v0 (sSt rfl rfl [] rfl rfl) rfl ?_
      refine ve ?_
      exact ⟨_, wk2 [2, 3] [1, 101, 102] [1005] (l := [(2, .c (.ptr _ _ _ _)), (3, .c (.ptr _ _ _ _))]) (h := [(1, ⟨0, 3, [[.row _ _ _, .int _ _, .int _ _]]⟩), (101, ⟨0, 10, [[.int _ _, .int _ _, .int _ _, .int _ _, .int _ _, .int _ _, .int _ _, .int _ _, .int _ _, .row _ _ _]]⟩), (102, ⟨0, 10, [[.int _ _, .int _ _, .int _ _, .int _ _, .int _ _, .int _ _, .int _ _, .int _ _, .int _ _, .own _ _ _ _]]⟩)]) (h' := [(1005, ⟨0, 1, r1.1.fB.map en_u8⟩)]) ⟨⟨_, rfl, enOk_u8.allClosed _ _ r1.1.fB⟩, trivial⟩ rfl rfl rfl, _, _, _, _, _, _, _, _, _, _, _, _, _, rfl, h⟩
    ·
      replace h := brF hb117 h
      refine W_seq ?_
      refine W_regV he rfl ?_
      refine v0 (sBi rfl rfl rfl rfl) rfl ?_
      refine v0 (sA rfl [] rfl) rfl ?_
      refine ve ?_
      refine W2 [0, 2, 3, 7, 14] [1, 101, 102] [1005] (l := [(0, .c (.ptr _ _ _ _)), (2, .c (.ptr _ _ _ _)), (3, .c (.ptr _ _ _ _)), (7, .c (.int _ _)), (14, .c (.bool _))]) (h := [(1, ⟨0, 3, [[.row _ _ _, .int _ _, .int _ _]]⟩), (101, ⟨0, 10, [[.int _ _, .int _ _, .int _ _, .int _ _, .int _ _, .int _ _, .int _ _, .int _ _, .int _ _, .row _ _ _]]⟩), (102, ⟨0, 10, [[.int _ _, .int _ _, .int _ _, .int _ _, .int _ _, .int _ _, .int _ _, .int _ _, .int _ _, .own _ _ _ _]]⟩)]) (h' := [(1005, ⟨0, 1, r1.1.fB.map en_u8⟩)]) ⟨⟨_, rfl, enOk_u8.allClosed _ _ r1.1.fB⟩, trivial⟩ rfl rfl rfl ?_
      refine W_condB rfl (fun hb119 => ?_) (fun hb119 => ?_)
      ·
        replace h := brT hb119 h
        refine W_regV he rfl ?_
        refine v0 (sM rfl [] rfl) rfl ?_
        refine bndc h ?_; clear h; intro r120 hr120 h
        refine v0 (sCw (l := [r116.2]) (l' := [r120.2]) (w_spec_l6AnyW K r116.2 _ hr120) ok_spec_l6Any enOk_spec_l1Cur rfl 1 rfl rfl rfl rfl rfl rfl) rfl ?_
        refine v0 (sFP rfl rfl rfl) rfl ?_
        refine v0 (sSt rfl rfl [] rfl rfl) rfl ?_
        refine ve ?_
        exact ⟨_, wk2 [2, 3] [1, 101, 102] [1005] (l := [(2, .c (.ptr _ _ _ _)), (3, .c (.ptr _ _ _ _))]) (h := [(1, ⟨0, 3, [[.row _ _ _, .int _ _, .int _ _]]⟩), (101, ⟨0, 10, [[.int _ _, .int _ _, .int _ _, .int _ _, .int _ _, .int _ _, .int _ _, .int _ _, .int _ _, .row _ _ _]]⟩), (102, ⟨0, 10, [[.int _ _, .int _ _, .int _ _, .int _ _, .int _ _, .int _ _, .int _ _, .int _ _, .int _ _, .own _ _ _ _]]⟩)]) (h' := [(1005, ⟨0, 1, r1.1.fB.map en_u8⟩)]) ⟨⟨_, rfl, enOk_u8.allClosed _ _ r1.1.fB⟩, trivial⟩ rfl rfl rfl, _, _, _, _, _, _, _, _, _, _, _, _, _, rfl, h⟩
      ·
        replace h := brF hb119 h
        refine W_seq ?_
        refine W_regV he rfl ?_
        refine v0 (sBi rfl rfl rfl rfl) rfl ?_
        refine v0 (sA rfl [] rfl) rfl ?_
        refine ve ?_
        refine W2 [0, 2, 3, 7, 19] [1, 101, 102] [1005] (l := [(0, .c (.ptr _ _ _ _)), (2, .c (.ptr _ _ _ _)), (3, .c (.ptr _ _ _ _)), (7, .c (.int _ _)), (19, .c (.bool _))]) (h := [(1, ⟨0, 3, [[.row _ _ _, .int _ _, .int _ _]]⟩), (101, ⟨0, 10, [[.int _ _, .int _ _, .int _ _, .int _ _, .int _ _, .int _ _, .int _ _, .int _ _, .int _ _, .row _ _ _]]⟩), (102, ⟨0, 10, [[.int _ _, .int _ _, .int _ _, .int _ _, .int _ _, .int _ _, .int _ _, .int _ _, .int _ _, .own _ _ _ _]]⟩)]) (h' := [(1005, ⟨0, 1, r1.1.fB.map en_u8⟩)]) ⟨⟨_, rfl, enOk_u8.allClosed _ _ r1.1.fB⟩, trivial⟩ rfl rfl rfl ?_
        refine W_condB rfl (fun hb121 => ?_) (fun hb121 => ?_)
        ·
          replace h := brT hb121 h
          refine W_regV he rfl ?_
          refine v0 (sM rfl [] rfl) rfl ?_
          refine bndc h ?_; clear h; intro r122 hr122 h
          refine v0 (sCw (l := [r116.2]) (l' := [r122.2]) (w_spec_l6RefW K r116.2 _ hr122) ok_spec_l6Ref enOk_spec_l1Cur rfl 1 rfl rfl rfl rfl rfl rfl) rfl ?_
          refine v0 (sFP rfl rfl rfl) rfl ?_
          refine v0 (sSt rfl rfl [] rfl rfl) rfl ?_
          refine ve ?_
          exact ⟨_, wk2 [2, 3] [1, 101, 102] [1005] (l := [(2, .c (.ptr _ _ _ _)), (3, .c (.ptr _ _ _ _))]) (h := [(1, ⟨0, 3, [[.row _ _ _, .int _ _, .int _ _]]⟩), (101, ⟨0, 10, [[.int _ _, .int _ _, .int _ _, .int _ _, .int _ _, .int _ _, .int _ _, .int _ _, .int _ _, .row _ _ _]]⟩), (102, ⟨0, 10, [[.int _ _, .int _ _, .int _ _, .int _ _, .int _ _, .int _ _, .int _ _, .int _ _, .int _ _, .own _ _ _ _]]⟩)]) (h' := [(1005, ⟨0, 1, r1.1.fB.map en_u8⟩)]) ⟨⟨_, rfl, enOk_u8.allClosed _ _ r1.1.fB⟩, trivial⟩ rfl rfl rfl, _, _, _, _, _, _, _, _, _, _, _, _, _, rfl, h⟩
        ·
          replace h := brF hb121 h
          refine W_seq ?_
          refine W_regV he rfl ?_
          refine v0 (sBi rfl rfl rfl rfl) rfl ?_
          refine v0 (sA rfl [] rfl) rfl ?_
          refine ve ?_
          refine W2 [0, 2, 3, 7, 24] [1, 101, 102] [1005] (l := [(0, .c (.ptr _ _ _ _)), (2, .c (.ptr _ _ _ _)), (3, .c (.ptr _ _ _ _)), (7, .c (.int _ _)), (24, .c (.bool _))]) (h := [(1, ⟨0, 3, [[.row _ _ _, .int _ _, .int _ _]]⟩), (101, ⟨0, 10, [[.int _ _, .int _ _, .int _ _, .int _ _, .int _ _, .int _ _, .int _ _, .int _ _, .int _ _, .row _ _ _]]⟩), (102, ⟨0, 10, [[.int _ _, .int _ _, .int _ _, .int _ _, .int _ _, .int _ _, .int _ _, .int _ _, .int _ _, .own _ _ _ _]]⟩)]) (h' := [(1005, ⟨0, 1, r1.1.fB.map en_u8⟩)]) ⟨⟨_, rfl, enOk_u8.allClosed _ _ r1.1.fB⟩, trivial⟩ rfl rfl rfl ?_
          refine W_condB rfl (fun hb123 => ?_) (fun hb123 => ?_)
          ·
            replace h := brT hb123 h
            refine W_regV he rfl ?_
            refine v0 (sM rfl [] rfl) rfl ?_
            refine bndc h ?_; clear h; intro r124 hr124 h
            refine v0 (sCw (l := [r116.2]) (l' := [r124.2]) (w_spec_l1RawW K r116.2 _ hr124) ok_spec_l1Raw enOk_spec_l1Cur rfl 1 rfl rfl rfl rfl rfl rfl) rfl ?_
            refine v0 (sFP rfl rfl rfl) rfl ?_
            refine v0 (sSt rfl rfl [] rfl rfl) rfl ?_
            refine ve ?_
            exact ⟨_, wk2 [2, 3] [1, 101, 102] [1005] (l := [(2, .c (.ptr _ _ _ _)), (3, .c (.ptr _ _ _ _))]) (h := [(1, ⟨0, 3, [[.row _ _ _, .int _ _, .int _ _]]⟩), (101, ⟨0, 10, [[.int _ _, .int _ _, .int _ _, .int _ _, .int _ _, .int _ _, .int _ _, .int _ _, .int _ _, .row _ _ _]]⟩), (102, ⟨0, 10, [[.int _ _, .int _ _, .int _ _, .int _ _, .int _ _, .int _ _, .int _ _, .int _ _, .int _ _, .own _ _ _ _]]⟩)]) (h' := [(1005, ⟨0, 1, r1.1.fB.map en_u8⟩)]) ⟨⟨_, rfl, enOk_u8.allClosed _ _ r1.1.fB⟩, trivial⟩ rfl rfl rfl, _, _, _, _, _, _, _, _, _, _, _, _, _, rfl, h⟩
          ·
            replace h := brF hb123 h
            refine W_seq ?_
            refine W_regV he rfl ?_
            refine v0 (sBi rfl rfl rfl rfl) rfl ?_
            refine v0 (sA rfl [] rfl) rfl ?_
            refine ve ?_
            refine W2 [2, 3, 29] [1, 101, 102] [1005] (l := [(2, .c (.ptr _ _ _ _)), (3, .c (.ptr _ _ _ _)), (29, .c (.bool _))]) (h := [(1, ⟨0, 3, [[.row _ _ _, .int _ _, .int _ _]]⟩), (101, ⟨0, 10, [[.int _ _, .int _ _, .int _ _, .int _ _, .int _ _, .int _ _, .int _ _, .int _ _, .int _ _, .row _ _ _]]⟩), (102, ⟨0, 10, [[.int _ _, .int _ _, .int _ _, .int _ _, .int _ _, .int _ _, .int _ _, .int _ _, .int _ _, .own _ _ _ _]]⟩)]) (h' := [(1005, ⟨0, 1, r1.1.fB.map en_u8⟩)]) ⟨⟨_, rfl, enOk_u8.allClosed _ _ r1.1.fB⟩, trivial⟩ rfl rfl rfl ?_
            refine W_condB rfl (fun hb125 => ?_) (fun hb125 => ?_)
            ·
              replace h := brT hb125 h
              refine W_regV he rfl ?_
              refine v0 (sFP rfl rfl rfl) rfl ?_
              refine v0 (sLd rfl rfl) rfl ?_
              refine v0 (sBS rfl 1033 (rows := ([1] : List Int).map en_u8) rfl rfl rfl (by kernel_rfl) rfl rfl rfl rfl) rfl ?_
              refine chkc h ?_; clear h; intro c126 h
              refine v0 (sAo rfl 1005 r1.1.fB ([1] : List Int) enOk_u8 rfl rfl rfl rfl rfl rfl rfl rfl rfl rfl rfl c126) rfl ?_
              refine v0 (sFP rfl rfl rfl) rfl ?_
              refine v0 (sSt rfl rfl [] rfl rfl) rfl ?_
              refine ve ?_
              exact ⟨_, wk2 [2, 3] [1, 101, 102] [1005] (l := [(2, .c (.ptr _ _ _ _)), (3, .c (.ptr _ _ _ _))]) (h := [(1, ⟨0, 3, [[.row _ _ _, .int _ _, .int _ _]]⟩), (101, ⟨0, 10, [[.int _ _, .int _ _, .int _ _, .int _ _, .int _ _, .int _ _, .int _ _, .int _ _, .int _ _, .row _ _ _]]⟩), (102, ⟨0, 10, [[.int _ _, .int _ _, .int _ _, .int _ _, .int _ _, .int _ _, .int _ _, .int _ _, .int _ _, .own _ _ _ _]]⟩)]) (h' := [(1005, ⟨0, 1, (r1.1.fB ++ ([1] : List Int)).map en_u8⟩)]) ⟨⟨_, rfl, enOk_u8.allClosed _ _ (r1.1.fB ++ ([1] : List Int))⟩, trivial⟩ rfl rfl rfl, _, _, _, _, _, _, _, _, _, _, _, _, _, rfl, h⟩
            ·
              replace h := brF hb125 h
              refine W_skip ?_
              exact ⟨_, wk2 [2, 3] [1, 101, 102] [1005] (l := [(2, .c (.ptr _ _ _ _)), (3, .c (.ptr _ _ _ _))]) (h := [(1, ⟨0, 3, [[.row _ _ _, .int _ _, .int _ _]]⟩), (101, ⟨0, 10, [[.int _ _, .int _ _, .int _ _, .int _ _, .int _ _, .int _ _, .int _ _, .int _ _, .int _ _, .row _ _ _]]⟩), (102, ⟨0, 10, [[.int _ _, .int _ _, .int _ _, .int _ _, .int _ _, .int _ _, .int _ _, .int _ _, .int _ _, .own _ _ _ _]]⟩)]) (h' := [(1005, ⟨0, 1, r1.1.fB.map en_u8⟩)]) ⟨⟨_, rfl, enOk_u8.allClosed _ _ r1.1.fB⟩, trivial⟩ rfl rfl rfl, _, _, _, _, _, _, _, _, _, _, _, _, _, rfl, h⟩
theorem ok_spec_l21Any : FnOk Try.prog 74 := ⟨_, Try.func74, rfl, rfl⟩


/-! ### loop.example/g00499/spec.DrawPutOp -/
def m_spec_DrawPutOp (K : Nat) (a0 : List Int) : Option (T_impl_Op) := ((m_spec_l1New K a0).bind fun r1 => ((m_spec_l21AnyW K r1).bind fun r2 => some r2.1))
set_option maxRecDepth 20000 in
set_option maxHeartbeats 8000000 in
theorem wo_spec_DrawPutOp (K : Nat) (a0 : List Int) (r : T_impl_Op) (h : m_spec_DrawPutOp K a0 = some r) : Sp Try.prog 52 [.c (.row false 1 (a0.map en_u8))] [] (.g [.int .i64 r.fKind, .int .i64 r.fH.fSlot, .int .i64 r.fH.fGen, .int .i64 r.fR.fH.fSlot, .int .i64 r.fR.fH.fGen, .int .i64 r.fR.fEp, .int .i64 r.fR.fNo, .int .i64 r.fN, .int .i64 r.fM, .own 1 0 0 r.fB.length]) [⟨0, 1, r.fB.map en_u8⟩] := by
  refine Sp.of_W tabOk Try.func52 rfl rfl (Nat.le_of_ble_eq_true rfl) (Nat.le_of_ble_eq_true rfl) fun F hP hN hm => ?_
  obtain ⟨P, N, w0, σ0, β0, m⟩ := F
  obtain rfl : P = Try.prog := hP
  obtain rfl : N = 8 := hN
  obtain rfl : m = 1 := hm
  have he : Env ⟨Try.prog, 8, w0, σ0, β0, 1⟩ tab := ⟨Nat.le_of_ble_eq_true rfl, tabOk⟩
  unfold m_spec_DrawPutOp at h
  refine W_seq ?_
  refine W_regV he rfl ?_
  refine v0 (sAl rfl rfl 101 rfl) rfl ?_
  refine ve ?_
  refine W2 [0, 2] [101] [] (l := [(0, .c (.row _ _ _)), (2, .c (.ptr _ _ _ _))]) (h := [(101, ⟨0, 10, [[.int _ _, .int _ _, .int _ _, .int _ _, .int _ _, .int _ _, .int _ _, .int _ _, .int _ _, .row _ _ _]]⟩)]) (h' := []) trivial rfl rfl rfl ?_
  refine W_seq ?_
  refine W_regV he rfl ?_
  refine v0 (sM rfl [] rfl) rfl ?_
  refine bndc h ?_; clear h; intro r1 hr1 h
  refine v0 (sCoC (l := [r1]) (wo_spec_l1New K a0 _ hr1) ok_spec_l1New enOk_spec_l1Cur 1003 rfl rfl rfl rfl rfl) rfl ?_
  refine v0 (sA rfl [] rfl) rfl ?_
  refine ve ?_
  refine W2 [2, 3] [101, 1003] [] (l := [(2, .c (.ptr _ _ _ _)), (3, .c (.ptr _ _ _ _))]) (h := [(101, ⟨0, 10, [[.int _ _, .int _ _, .int _ _, .int _ _, .int _ _, .int _ _, .int _ _, .int _ _, .int _ _, .row _ _ _]]⟩), (1003, ⟨0, 3, [[.row _ _ _, .int _ _, .int _ _]]⟩)]) (h' := []) trivial rfl rfl rfl ?_
  refine W_seq ?_
  refine W_regV he rfl ?_
  refine v0 (sM rfl [] rfl) rfl ?_
  refine bndc h ?_; clear h; intro r2 hr2 h
  refine v0 (sCx (l := [r1]) (l' := [r2.2]) (wx_spec_l21AnyW K r1 _ hr2) ok_spec_l21Any enOk_spec_l1Cur enOk_u8 rfl 1003 1007 rfl rfl rfl rfl rfl rfl rfl) rfl ?_
  refine v0 (sSt rfl rfl [] rfl rfl) rfl ?_
  refine ve ?_
  refine W2 [2] [101] [1007] (l := [(2, .c (.ptr _ _ _ _))]) (h := [(101, ⟨0, 10, [[.int _ _, .int _ _, .int _ _, .int _ _, .int _ _, .int _ _, .int _ _, .int _ _, .int _ _, .own _ _ _ _]]⟩)]) (h' := [(1007, ⟨0, 1, r2.1.fB.map en_u8⟩)]) ⟨⟨_, rfl, enOk_u8.allClosed _ _ r2.1.fB⟩, trivial⟩ rfl rfl rfl ?_
  obtain rfl := Option.some.inj h
  exact W_ret (retOne 0 1007 (.inl rfl) enOk_u8 rfl rfl rfl)
theorem ok_spec_DrawPutOp : FnOk Try.prog 52 := ⟨_, Try.func52, rfl, rfl⟩


/-! ### loop.example/g00499/impl.within -/
def m_impl_within (K : Nat) (a0 : Int) (a1 : Int) (a2 : Int) : Option (Bool) := (bif (decide (a0 ≥ a1)) then some (decide (a0 ≤ a2)) else some false)
set_option maxRecDepth 20000 in
set_option maxHeartbeats 8000000 in
theorem w_impl_within (K : Nat) (a0 : Int) (a1 : Int) (a2 : Int) (r : Bool) (h : m_impl_within K a0 a1 a2 = some r) : Sp Try.prog 57 [.c (.int .i64 a0), .c (.int .i64 a1), .c (.int .i64 a2)] [] (.c (.bool r)) [] := by
  refine Sp.of_W tabOk Try.func57 rfl rfl (Nat.le_of_ble_eq_true rfl) (Nat.le_of_ble_eq_true rfl) fun F hP hN hm => ?_
  obtain ⟨P, N, w0, σ0, β0, m⟩ := F
  obtain rfl : P = Try.prog := hP
  obtain rfl : N = 15 := hN
  obtain rfl : m = 1 := hm
  have he : Env ⟨Try.prog, 15, w0, σ0, β0, 1⟩ tab := ⟨Nat.le_of_ble_eq_true rfl, tabOk⟩
  unfold m_impl_within at h
  refine W_seq ?_
  refine W_regV he rfl ?_
  refine v0 (sA rfl [] rfl) rfl ?_
  refine ve ?_
  refine W2 [0, 1, 2] [] [] (l := [(0, .c (.int _ _)), (1, .c (.int _ _)), (2, .c (.int _ _))]) (h := []) (h' := []) trivial rfl rfl rfl ?_
  refine W_seq ?_
  refine W_regV he rfl ?_
  refine v0 (sM rfl [] rfl) rfl ?_
  refine v0 (sM rfl [] rfl) rfl ?_
  refine vB (sBi rfl rfl rfl rfl) rfl rfl fun b1 hb1 => ?_
  cases b1 with
  | true =>
    replace h := brT hb1 h
    refine v0 (sM rfl [] rfl) rfl ?_
    refine u0 (sM rfl [] rfl) rfl rfl rfl ?_
    refine u0 (sM rfl [] rfl) rfl rfl rfl ?_
    refine u0 (sBi rfl rfl rfl rfl) rfl rfl rfl ?_
    refine v0 (sPk rfl [] rfl rfl) rfl ?_
    refine v0 (sA rfl [] rfl) rfl ?_
    refine ve ?_
    refine W2 [6] [] [] (l := [(6, .c (.bool _))]) (h := []) (h' := []) trivial rfl rfl rfl ?_
    obtain rfl := Option.some.inj h
    exact W_ret (r0 rfl rfl)
  | false =>
    replace h := brF hb1 h
    refine v0 (sM rfl [] rfl) rfl ?_
    refine uP rfl rfl rfl rfl ?_
    refine uP rfl rfl rfl rfl ?_
    refine uP rfl rfl rfl rfl ?_
    refine v0 (sPk rfl [] rfl rfl) rfl ?_
    refine v0 (sA rfl [] rfl) rfl ?_
    refine ve ?_
    refine W2 [6] [] [] (l := [(6, .c (.bool false))]) (h := []) (h' := []) trivial rfl rfl rfl ?_
    obtain rfl := Option.some.inj h
    exact W_ret (r0 rfl rfl)
theorem ok_impl_within : FnOk Try.prog 57 := ⟨_, Try.func57, rfl, rfl⟩


/-! ### loop.example/g00499/impl.isNum -/
def m_impl_isNum (K : Nat) (a0 : Int) : Option (Bool) := ((m_impl_within K a0 0 1000000000).bind fun r1 => some r1)
set_option maxRecDepth 20000 in
set_option maxHeartbeats 8000000 in
theorem w_impl_isNum (K : Nat) (a0 : Int) (r : Bool) (h : m_impl_isNum K a0 = some r) : Sp Try.prog 65 [.c (.int .i64 a0)] [] (.c (.bool r)) [] := by
  refine Sp.of_W tabOk Try.func65 rfl rfl (Nat.le_of_ble_eq_true rfl) (Nat.le_of_ble_eq_true rfl) fun F hP hN hm => ?_
  obtain ⟨P, N, w0, σ0, β0, m⟩ := F
  obtain rfl : P = Try.prog := hP
  obtain rfl : N = 5 := hN
  obtain rfl : m = 1 := hm
  have he : Env ⟨Try.prog, 5, w0, σ0, β0, 1⟩ tab := ⟨Nat.le_of_ble_eq_true rfl, tabOk⟩
  unfold m_impl_isNum at h
  refine W_seq ?_
  refine W_regV he rfl ?_
  refine v0 (sA rfl [] rfl) rfl ?_
  refine ve ?_
  refine W2 [0] [] [] (l := [(0, .c (.int _ _))]) (h := []) (h' := []) trivial rfl rfl rfl ?_
  refine W_seq ?_
  refine W_regV he rfl ?_
  refine v0 (sM rfl [] rfl) rfl ?_
  refine bndc h ?_; clear h; intro r1 hr1 h
  refine v0 (sCm (w_impl_within K a0 0 1000000000 _ hr1) ok_impl_within rfl rfl rfl rfl) rfl ?_
  refine v0 (sA rfl [] rfl) rfl ?_
  refine ve ?_
  refine W2 [2] [] [] (l := [(2, .c (.bool _))]) (h := []) (h' := []) trivial rfl rfl rfl ?_
  obtain rfl := Option.some.inj h
  exact W_ret (r0 rfl rfl)
theorem ok_impl_isNum : FnOk Try.prog 65 := ⟨_, Try.func65, rfl, rfl⟩


/-! ### loop.example/g00499/impl.OpOk -/
def j_impl_OpOk_419 (K : Nat) (a0 : T_impl_Op) (v213 : Bool) (v315 : Bool) (v520 : Bool) : Option (Bool) := (bif v520 then some false else (bif v213 then (bif v315 then (bif (a0.fKind == 4) then some true else some ((a0.fB.length : Int) == 0)) else (bif (a0.fM == 0) then (bif (a0.fKind == 4) then some true else some ((a0.fB.length : Int) == 0)) else some false)) else (bif (a0.fN == 0) then (bif v315 then (bif (a0.fKind == 4) then some true else some ((a0.fB.length : Int) == 0)) else (bif (a0.fM == 0) then (bif (a0.fKind == 4) then some true else some ((a0.fB.length : Int) == 0)) else some false)) else some false)))
def j_impl_OpOk_316 (K : Nat) (a0 : T_impl_Op) (v111 : Bool) (v213 : Bool) (v315 : Bool) (v417 : Bool) : Option (Bool) := (bif v417 then some false else (bif v111 then j_impl_OpOk_419 K a0 v213 v315 false else j_impl_OpOk_419 K a0 v213 v315 (!(((a0.fR.fH.fSlot == 0) && ((a0.fR.fH.fGen == 0) && true)) && ((a0.fR.fEp == 0) && ((a0.fR.fNo == 0) && true))))))
def j_impl_OpOk_214 (K : Nat) (a0 : T_impl_Op) (v111 : Bool) (v213 : Bool) (v315 : Bool) : Option (Bool) := (bif v111 then j_impl_OpOk_316 K a0 v111 v213 v315 (!((a0.fH.fSlot == 0) && ((a0.fH.fGen == 0) && true))) else (bif (a0.fKind == 9) then j_impl_OpOk_316 K a0 v111 v213 v315 (!((a0.fH.fSlot == 0) && ((a0.fH.fGen == 0) && true))) else j_impl_OpOk_316 K a0 v111 v213 v315 false))
def j_impl_OpOk_112 (K : Nat) (a0 : T_impl_Op) (v111 : Bool) (v213 : Bool) : Option (Bool) := (bif (a0.fKind == 2) then j_impl_OpOk_214 K a0 v111 v213 true else j_impl_OpOk_214 K a0 v111 v213 (a0.fKind == 3))
def j_impl_OpOk_10 (K : Nat) (a0 : T_impl_Op) (v111 : Bool) : Option (Bool) := (bif v111 then j_impl_OpOk_112 K a0 v111 true else (bif (a0.fKind == 2) then j_impl_OpOk_112 K a0 v111 true else j_impl_OpOk_112 K a0 v111 (a0.fKind == 5)))
def l_impl_OpOk_5 (K : Nat) (a0 : T_impl_Op) : Nat → Int → Option (Bool)
  | 0, _ => none
  | n5 + 1, v4 => (bif (decide (v4 < (([a0.fH.fSlot, a0.fH.fGen, a0.fR.fH.fSlot, a0.fR.fH.fGen, a0.fR.fEp, a0.fR.fNo, a0.fN, a0.fM] : List Int).length : Int))) then (if (0 : Int) ≤ v4 ∧ v4 < (([a0.fH.fSlot, a0.fH.fGen, a0.fR.fH.fSlot, a0.fR.fH.fGen, a0.fR.fEp, a0.fR.fNo, a0.fN, a0.fM] : List Int).length : Int) then ((m_impl_isNum K (gt ([a0.fH.fSlot, a0.fH.fGen, a0.fR.fH.fSlot, a0.fR.fH.fGen, a0.fR.fEp, a0.fR.fNo, a0.fN, a0.fM] : List Int) v4)).bind fun r8 => (bif r8 then (l_impl_OpOk_5 K a0 n5 (iAdd .i64 v4 1)) else some false)) else none) else (bif (a0.fKind == 3) then j_impl_OpOk_10 K a0 true else j_impl_OpOk_10 K a0 (a0.fKind == 4)))
def m_impl_OpOk (K : Nat) (a0 : T_impl_Op) : Option (Bool) := ((m_impl_within K a0.fKind 1 9).bind fun r1 => (bif r1 then (bif (decide ((a0.fB.length : Int) > 200)) then some false else (l_impl_OpOk_5 K a0 K 0)) else some false))
set_option maxRecDepth 20000 in
set_option maxHeartbeats 8000000 in
theorem w_impl_OpOk (K : Nat) (a0 : T_impl_Op) (r : Bool) (h : m_impl_OpOk K a0 = some r) : Sp Try.prog 41 [.g [.int .i64 a0.fKind, .int .i64 a0.fH.fSlot, .int .i64 a0.fH.fGen, .int .i64 a0.fR.fH.fSlot, .int .i64 a0.fR.fH.fGen, .int .i64 a0.fR.fEp, .int .i64 a0.fR.fNo, .int .i64 a0.fN, .int .i64 a0.fM, .row false 1 (a0.fB.map en_u8)]] [] (.c (.bool r)) [] := by
  refine Sp.of_W tabOk Try.func41 rfl rfl (Nat.le_of_ble_eq_true rfl) (Nat.le_of_ble_eq_true rfl) fun F hP hN hm => ?_
  obtain ⟨P, N, w0, σ0, β0, m⟩ := F
  obtain rfl : P = Try.prog := hP
  obtain rfl : N = 126 := hN
  obtain rfl : m = 1 := hm
  have he : Env ⟨Try.prog, 126, w0, σ0, β0, 1⟩ tab := ⟨Nat.le_of_ble_eq_true rfl, tabOk⟩
  unfold m_impl_OpOk at h
  refine W_seq ?_
  refine W_regV he rfl ?_
  refine v0 (sBx rfl [] rfl rfl 101 rfl) rfl ?_
  refine v0 (sA rfl [] rfl) rfl ?_
  refine ve ?_
  refine W2 [1] [101] [] (l := [(1, .c (.ptr _ _ _ _))]) (h := [(101, ⟨0, 10, [[.int _ _, .int _ _, .int _ _, .int _ _, .int _ _, .int _ _, .int _ _, .int _ _, .int _ _, .row _ _ _]]⟩)]) (h' := []) trivial rfl rfl rfl ?_
  refine W_seq ?_
  refine W_seq ?_
  refine W_regV he rfl ?_
  refine v0 (sFP rfl rfl rfl) rfl ?_
  refine v0 (sLd rfl rfl) rfl ?_
  refine bndc h ?_; clear h; intro r1 hr1 h
  refine vB (sCm (w_impl_within K a0.fKind 1 9 _ hr1) ok_impl_within rfl rfl rfl rfl) rfl rfl fun b2 hb2 => ?_
  cases b2 with
  | true =>
    replace h := brT hb2 h
    refine v0 (sNt rfl rfl) rfl ?_
    refine v0 (sM rfl [] rfl) rfl ?_
    refine u0 (sFP rfl rfl rfl) rfl rfl rfl ?_
    refine u0 (sLd rfl rfl) rfl rfl rfl ?_
    refine u0 (sLm rfl rfl rfl rfl) rfl rfl rfl ?_
    refine uB (sBi rfl rfl rfl rfl) rfl rfl rfl rfl fun b3 hb3 => ?_
    cases b3 with
    | true =>
      replace h := brT hb3 h
      refine v0 (sPk rfl [] rfl rfl) rfl ?_
      refine ve ?_
      refine W2 [1, 17] [101] [] (l := [(1, .c (.ptr _ _ _ _)), (17, .c (.bool true))]) (h := [(101, ⟨0, 10, [[.int _ _, .int _ _, .int _ _, .int _ _, .int _ _, .int _ _, .int _ _, .int _ _, .int _ _, .row _ _ _]]⟩)]) (h' := []) trivial rfl rfl rfl ?_
      refine W_true rfl ?_
      refine W_seq ?_
      refine W_regV he rfl ?_
      refine v0 (sA rfl [] rfl) rfl ?_
      refine ve ?_
      refine W2 [2] [] [] (l := [(2, .c (.bool false))]) (h := []) (h' := []) trivial rfl rfl rfl ?_
      obtain rfl := Option.some.inj h
      exact W_ret (r0 rfl rfl)
    | false =>
      replace h := brF hb3 h
      refine v0 (sPk rfl [] rfl rfl) rfl ?_
      refine ve ?_
      refine W2 [1, 17] [101] [] (l := [(1, .c (.ptr _ _ _ _)), (17, .c (.bool false))]) (h := [(101, ⟨0, 10, [[.int _ _, .int _ _, .int _ _, .int _ _, .int _ _, .int _ _, .int _ _, .int _ _, .int _ _, .row _ _ _]]⟩)]) (h' := []) trivial rfl rfl rfl ?_
      refine W_false rfl ?_
      refine W_skip ?_
      refine W_seq ?_
      refine W_seq ?_
      refine W_regV he rfl ?_
      refine v0 (sFP rfl rfl rfl) rfl ?_
      refine v0 (sFP rfl rfl rfl) rfl ?_
      refine v0 (sLd rfl rfl) rfl ?_
      refine v0 (sFP rfl rfl rfl) rfl ?_
      refine v0 (sFP rfl rfl rfl) rfl ?_
      refine v0 (sLd rfl rfl) rfl ?_
      refine v0 (sFP rfl rfl rfl) rfl ?_
      refine v0 (sFP rfl rfl rfl) rfl ?_
      refine v0 (sFP rfl rfl rfl) rfl ?_
      refine v0 (sLd rfl rfl) rfl ?_
      refine v0 (sFP rfl rfl rfl) rfl ?_
      refine v0 (sFP rfl rfl rfl) rfl ?_
      refine v0 (sFP rfl rfl rfl) rfl ?_
      refine v0 (sLd rfl rfl) rfl ?_
      refine v0 (sFP rfl rfl rfl) rfl ?_
      refine v0 (sFP rfl rfl rfl) rfl ?_
      refine v0 (sLd rfl rfl) rfl ?_
      refine v0 (sFP rfl rfl rfl) rfl ?_
      refine v0 (sFP rfl rfl rfl) rfl ?_
      refine v0 (sLd rfl rfl) rfl ?_
      refine v0 (sFP rfl rfl rfl) rfl ?_
      refine v0 (sLd rfl rfl) rfl ?_
      refine v0 (sFP rfl rfl rfl) rfl ?_
      refine v0 (sLd rfl rfl) rfl ?_
      refine v0 (sBS rfl 1042 (rows := ([a0.fH.fSlot, a0.fH.fGen, a0.fR.fH.fSlot, a0.fR.fH.fGen, a0.fR.fEp, a0.fR.fNo, a0.fN, a0.fM] : List Int).map en_i64) rfl rfl rfl (by kernel_rfl) rfl rfl rfl rfl) rfl ?_
      refine v0 (sLo rfl rfl rfl rfl) rfl ?_
      refine v0 (sM rfl [] rfl) rfl ?_
      refine ve ?_
      refine W2 [1, 42, 43, 44] [101] [1042] (l := [(1, .c (.ptr _ _ _ _)), (42, .c (.own _ _ _ _)), (43, .c (.int _ _)), (44, .c (.int _ _))]) (h := [(101, ⟨0, 10, [[.int _ _, .int _ _, .int _ _, .int _ _, .int _ _, .int _ _, .int _ _, .int _ _, .int _ _, .row _ _ _]]⟩)]) (h' := [(1042, ⟨0, 1, ([a0.fH.fSlot, a0.fH.fGen, a0.fR.fH.fSlot, a0.fR.fH.fGen, a0.fR.fEp, a0.fR.fNo, a0.fN, a0.fM] : List Int).map en_i64⟩)]) ⟨⟨_, rfl, enOk_i64.allClosed _ _ ([a0.fH.fSlot, a0.fH.fGen, a0.fR.fH.fSlot, a0.fR.fH.fGen, a0.fR.fEp, a0.fR.fNo, a0.fN, a0.fM] : List Int)⟩, trivial⟩ rfl rfl rfl ?_
      refine W_block ?_
      refine W2 [1, 42, 43, 44] [101] [1042] (l := [(1, .c (.ptr _ _ _ _)), (42, .c (.own _ _ _ _)), (43, .c (.int _ _)), (44, .c (.int _ _))]) (h := [(101, ⟨0, 10, [[.int _ _, .int _ _, .int _ _, .int _ _, .int _ _, .int _ _, .int _ _, .int _ _, .int _ _, .row _ _ _]]⟩)]) (h' := [(1042, ⟨0, 1, ([a0.fH.fSlot, a0.fH.fGen, a0.fR.fH.fSlot, a0.fR.fH.fGen, a0.fR.fEp, a0.fR.fNo, a0.fN, a0.fM] : List Int).map en_i64⟩)]) ⟨⟨_, rfl, enOk_i64.allClosed _ _ ([a0.fH.fSlot, a0.fH.fGen, a0.fR.fH.fSlot, a0.fR.fH.fGen, a0.fR.fEp, a0.fR.fNo, a0.fN, a0.fM] : List Int)⟩, trivial⟩ rfl rfl rfl ?_
      refine W_loopW (fun n5 S => ∃ (v4 : Int), S = StL [(1, .c (.ptr 101 0 0 0)), (42, .c (.own 1042 0 0 ([a0.fH.fSlot, a0.fH.fGen, a0.fR.fH.fSlot, a0.fR.fH.fGen, a0.fR.fEp, a0.fR.fNo, a0.fN, a0.fM] : List Int).length)), (43, .c (.int .i64 (([a0.fH.fSlot, a0.fH.fGen, a0.fR.fH.fSlot, a0.fR.fH.fGen, a0.fR.fEp, a0.fR.fNo, a0.fN, a0.fM] : List Int).length : Int))), (44, .c (.int .i64 v4))] ([(101, ⟨0, 10, [[.int .i64 a0.fKind, .int .i64 a0.fH.fSlot, .int .i64 a0.fH.fGen, .int .i64 a0.fR.fH.fSlot, .int .i64 a0.fR.fH.fGen, .int .i64 a0.fR.fEp, .int .i64 a0.fR.fNo, .int .i64 a0.fN, .int .i64 a0.fM, .row false 1 (a0.fB.map en_u8)]]⟩)] ++ [(1042, ⟨0, 1, ([a0.fH.fSlot, a0.fH.fGen, a0.fR.fH.fSlot, a0.fR.fH.fGen, a0.fR.fEp, a0.fR.fNo, a0.fN, a0.fM] : List Int).map en_i64⟩)]) ∧ l_impl_OpOk_5 K a0 n5 v4 = some r) K ⟨_, rfl, h⟩ ?_
      rintro n5 S ⟨v4, rfl, h⟩
      cases n5 with
      | zero => simp [l_impl_OpOk_5] at h
      | succ n5 =>
        rw [l_impl_OpOk_5] at h
        refine W_seq ?_
        refine W_regV he rfl ?_
        refine vB (sBi rfl rfl rfl rfl) rfl rfl fun b6 hb6 => ?_
        cases b6 with
        | true =>
          replace h := brT hb6 h
          refine ve ?_
          refine W2 [1, 42, 43, 44, 45] [101] [1042] (l := [(1, .c (.ptr _ _ _ _)), (42, .c (.own _ _ _ _)), (43, .c (.int _ _)), (44, .c (.int _ _)), (45, .c (.bool true))]) (h := [(101, ⟨0, 10, [[.int _ _, .int _ _, .int _ _, .int _ _, .int _ _, .int _ _, .int _ _, .int _ _, .int _ _, .row _ _ _]]⟩)]) (h' := [(1042, ⟨0, 1, ([a0.fH.fSlot, a0.fH.fGen, a0.fR.fH.fSlot, a0.fR.fH.fGen, a0.fR.fEp, a0.fR.fNo, a0.fN, a0.fM] : List Int).map en_i64⟩)]) ⟨⟨_, rfl, enOk_i64.allClosed _ _ ([a0.fH.fSlot, a0.fH.fGen, a0.fR.fH.fSlot, a0.fR.fH.fGen, a0.fR.fEp, a0.fR.fNo, a0.fN, a0.fM] : List Int)⟩, trivial⟩ rfl rfl rfl ?_
          refine W_seq ?_
          refine W_true rfl ?_
          refine W_skip ?_
          refine W_seq ?_
          refine W_block ?_
          refine W_seq ?_
          refine W_regV he rfl ?_
          refine chkc h ?_; clear h; intro c7 h
          refine v0 (sIOm rfl rfl rfl c7) rfl ?_
          refine v0 (sLkm rfl ([a0.fH.fSlot, a0.fH.fGen, a0.fR.fH.fSlot, a0.fR.fH.fGen, a0.fR.fEp, a0.fR.fNo, a0.fN, a0.fM] : List Int) c7 rfl rfl rfl rfl rfl rfl) rfl ?_
          refine v0 (sA rfl [] rfl) rfl ?_
          refine ve ?_
          refine W2 [1, 4, 42, 43, 44] [101] [1042] (l := [(1, .c (.ptr _ _ _ _)), (4, .c (.int _ _)), (42, .c (.own _ _ _ _)), (43, .c (.int _ _)), (44, .c (.int _ _))]) (h := [(101, ⟨0, 10, [[.int _ _, .int _ _, .int _ _, .int _ _, .int _ _, .int _ _, .int _ _, .int _ _, .int _ _, .row _ _ _]]⟩)]) (h' := [(1042, ⟨0, 1, ([a0.fH.fSlot, a0.fH.fGen, a0.fR.fH.fSlot, a0.fR.fH.fGen, a0.fR.fEp, a0.fR.fNo, a0.fN, a0.fM] : List Int).map en_i64⟩)]) ⟨⟨_, rfl, enOk_i64.allClosed _ _ ([a0.fH.fSlot, a0.fH.fGen, a0.fR.fH.fSlot, a0.fR.fH.fGen, a0.fR.fEp, a0.fR.fNo, a0.fN, a0.fM] : List Int)⟩, trivial⟩ rfl rfl rfl ?_
          refine W_seq ?_
          refine W_regV he rfl ?_
          refine v0 (sM rfl [] rfl) rfl ?_
          refine bndc h ?_; clear h; intro r8 hr8 h
          refine vB (sCm (w_impl_isNum K (gt ([a0.fH.fSlot, a0.fH.fGen, a0.fR.fH.fSlot, a0.fR.fH.fGen, a0.fR.fEp, a0.fR.fNo, a0.fN, a0.fM] : List Int) v4) _ hr8) ok_impl_isNum rfl rfl rfl rfl) rfl rfl fun b9 hb9 => ?_
          cases b9 with
          | true =>
            replace h := brT hb9 h
            refine v0 (sNt rfl rfl) rfl ?_
            refine ve ?_
            refine W2 [1, 42, 43, 44, 50] [101] [1042] (l := [(1, .c (.ptr _ _ _ _)), (42, .c (.own _ _ _ _)), (43, .c (.int _ _)), (44, .c (.int _ _)), (50, .c (.bool false))]) (h := [(101, ⟨0, 10, [[.int _ _, .int _ _, .int _ _, .int _ _, .int _ _, .int _ _, .int _ _, .int _ _, .int _ _, .row _ _ _]]⟩)]) (h' := [(1042, ⟨0, 1, ([a0.fH.fSlot, a0.fH.fGen, a0.fR.fH.fSlot, a0.fR.fH.fGen, a0.fR.fEp, a0.fR.fNo, a0.fN, a0.fM] : List Int).map en_i64⟩)]) ⟨⟨_, rfl, enOk_i64.allClosed _ _ ([a0.fH.fSlot, a0.fH.fGen, a0.fR.fH.fSlot, a0.fR.fH.fGen, a0.fR.fEp, a0.fR.fNo, a0.fN, a0.fM] : List Int)⟩, trivial⟩ rfl rfl rfl ?_
            refine W_false rfl ?_
            refine W_skip ?_
            refine W_regV he rfl ?_
            refine v0 (sBi rfl rfl rfl rfl) rfl ?_
            refine v0 (sM rfl [] rfl) rfl ?_
            refine ve ?_
            exact ⟨n5, _, Nat.lt_succ_self n5, wk2 [1, 42, 43, 44] [101] [1042] (l := [(1, .c (.ptr _ _ _ _)), (42, .c (.own _ _ _ _)), (43, .c (.int _ _)), (44, .c (.int _ _))]) (h := [(101, ⟨0, 10, [[.int _ _, .int _ _, .int _ _, .int _ _, .int _ _, .int _ _, .int _ _, .int _ _, .int _ _, .row _ _ _]]⟩)]) (h' := [(1042, ⟨0, 1, ([a0.fH.fSlot, a0.fH.fGen, a0.fR.fH.fSlot, a0.fR.fH.fGen, a0.fR.fEp, a0.fR.fNo, a0.fN, a0.fM] : List Int).map en_i64⟩)]) ⟨⟨_, rfl, enOk_i64.allClosed _ _ ([a0.fH.fSlot, a0.fH.fGen, a0.fR.fH.fSlot, a0.fR.fH.fGen, a0.fR.fEp, a0.fR.fNo, a0.fN, a0.fM] : List Int)⟩, trivial⟩ rfl rfl rfl, _, rfl, h⟩
          | false =>
            replace h := brF hb9 h
            refine v0 (sNt rfl rfl) rfl ?_
            refine ve ?_
            refine W2 [1, 42, 43, 44, 50] [101] [1042] (l := [(1, .c (.ptr _ _ _ _)), (42, .c (.own _ _ _ _)), (43, .c (.int _ _)), (44, .c (.int _ _)), (50, .c (.bool true))]) (h := [(101, ⟨0, 10, [[.int _ _, .int _ _, .int _ _, .int _ _, .int _ _, .int _ _, .int _ _, .int _ _, .int _ _, .row _ _ _]]⟩)]) (h' := [(1042, ⟨0, 1, ([a0.fH.fSlot, a0.fH.fGen, a0.fR.fH.fSlot, a0.fR.fH.fGen, a0.fR.fEp, a0.fR.fNo, a0.fN, a0.fM] : List Int).map en_i64⟩)]) ⟨⟨_, rfl, enOk_i64.allClosed _ _ ([a0.fH.fSlot, a0.fH.fGen, a0.fR.fH.fSlot, a0.fR.fH.fGen, a0.fR.fEp, a0.fR.fNo, a0.fN, a0.fM] : List Int)⟩, trivial⟩ rfl rfl rfl ?_
            refine W_true rfl ?_
            refine W_seq ?_
            refine W_regV he rfl ?_
            refine v0 (sA rfl [] rfl) rfl ?_
            refine ve ?_
            refine W2 [2] [] [] (l := [(2, .c (.bool false))]) (h := []) (h' := []) trivial rfl rfl rfl ?_
            obtain rfl := Option.some.inj h
            exact W_ret (r0 rfl rfl)
        | false =>
          replace h := brF hb6 h
          refine ve ?_
          refine W2 [1, 42, 43, 44, 45] [101] [1042] (l := [(1, .c (.ptr _ _ _ _)), (42, .c (.own _ _ _ _)), (43, .c (.int _ _)), (44, .c (.int _ _)), (45, .c (.bool false))]) (h := [(101, ⟨0, 10, [[.int _ _, .int _ _, .int _ _, .int _ _, .int _ _, .int _ _, .int _ _, .int _ _, .int _ _, .row _ _ _]]⟩)]) (h' := [(1042, ⟨0, 1, ([a0.fH.fSlot, a0.fH.fGen, a0.fR.fH.fSlot, a0.fR.fH.fGen, a0.fR.fEp, a0.fR.fNo, a0.fN, a0.fM] : List Int).map en_i64⟩)]) ⟨⟨_, rfl, enOk_i64.allClosed _ _ ([a0.fH.fSlot, a0.fH.fGen, a0.fR.fH.fSlot, a0.fR.fH.fGen, a0.fR.fEp, a0.fR.fNo, a0.fN, a0.fM] : List Int)⟩, trivial⟩ rfl rfl rfl ?_
          refine W_seq ?_
          refine W_false rfl ?_
          refine W_exit (ex_then (ex_then (ex_hit ?_)))
          refine W_join (fun S => ∃ (v111 : Bool), S = StL [(1, .c (.ptr 101 0 0 0)), (5, .c (.bool v111))] ([(101, ⟨0, 10, [[.int .i64 a0.fKind, .int .i64 a0.fH.fSlot, .int .i64 a0.fH.fGen, .int .i64 a0.fR.fH.fSlot, .int .i64 a0.fR.fH.fGen, .int .i64 a0.fR.fEp, .int .i64 a0.fR.fNo, .int .i64 a0.fN, .int .i64 a0.fM, .row false 1 (a0.fB.map en_u8)]]⟩)] ++ []) ∧ j_impl_OpOk_10 K a0 v111 = some r) ?_ ?_
          · rintro S ⟨v111, rfl, h⟩
            unfold j_impl_OpOk_10 at h
            refine W_join (fun S => ∃ (v213 : Bool), S = StL [(1, .c (.ptr 101 0 0 0)), (5, .c (.bool v111)), (6, .c (.bool v213))] ([(101, ⟨0, 10, [[.int .i64 a0.fKind, .int .i64 a0.fH.fSlot, .int .i64 a0.fH.fGen, .int .i64 a0.fR.fH.fSlot, .int .i64 a0.fR.fH.fGen, .int .i64 a0.fR.fEp, .int .i64 a0.fR.fNo, .int .i64 a0.fN, .int .i64 a0.fM, .row false 1 (a0.fB.map en_u8)]]⟩)] ++ []) ∧ j_impl_OpOk_112 K a0 v111 v213 = some r) ?_ ?_
            · rintro S ⟨v213, rfl, h⟩
              unfold j_impl_OpOk_112 at h
              refine W_join (fun S => ∃ (v315 : Bool), S = StL [(1, .c (.ptr 101 0 0 0)), (5, .c (.bool v111)), (6, .c (.bool v213)), (7, .c (.bool v315))] ([(101, ⟨0, 10, [[.int .i64 a0.fKind, .int .i64 a0.fH.fSlot, .int .i64 a0.fH.fGen, .int .i64 a0.fR.fH.fSlot, .int .i64 a0.fR.fH.fGen, .int .i64 a0.fR.fEp, .int .i64 a0.fR.fNo, .int .i64 a0.fN, .int .i64 a0.fM, .row false 1 (a0.fB.map en_u8)]]⟩)] ++ []) ∧ j_impl_OpOk_214 K a0 v111 v213 v315 = some r) ?_ ?_
              · rintro S ⟨v315, rfl, h⟩
                unfold j_impl_OpOk_214 at h
                refine W_seq ?_
                refine W_block ?_
                refine W_join (fun S => ∃ (v417 : Bool), S = StL [(1, .c (.ptr 101 0 0 0)), (5, .c (.bool v111)), (6, .c (.bool v213)), (7, .c (.bool v315)), (79, .c (.bool v417))] ([(101, ⟨0, 10, [[.int .i64 a0.fKind, .int .i64 a0.fH.fSlot, .int .i64 a0.fH.fGen, .int .i64 a0.fR.fH.fSlot, .int .i64 a0.fR.fH.fGen, .int .i64 a0.fR.fEp, .int .i64 a0.fR.fNo, .int .i64 a0.fN, .int .i64 a0.fM, .row false 1 (a0.fB.map en_u8)]]⟩)] ++ []) ∧ j_impl_OpOk_316 K a0 v111 v213 v315 v417 = some r) ?_ ?_
                · rintro S ⟨v417, rfl, h⟩
                  unfold j_impl_OpOk_316 at h
                  refine W_condB rfl (fun hb418 => ?_) (fun hb418 => ?_)
                  ·
                    replace h := brT hb418 h
                    refine W_seq ?_
                    refine W_regV he rfl ?_
                    refine v0 (sA rfl [] rfl) rfl ?_
                    refine ve ?_
                    refine W2 [2] [] [] (l := [(2, .c (.bool false))]) (h := []) (h' := []) trivial rfl rfl rfl ?_
                    obtain rfl := Option.some.inj h
                    exact W_ret (r0 rfl rfl)
                  ·
                    replace h := brF hb418 h
                    refine W_join (fun S => ∃ (v520 : Bool), S = StL [(1, .c (.ptr 101 0 0 0)), (6, .c (.bool v213)), (7, .c (.bool v315)), (92, .c (.bool v520))] ([(101, ⟨0, 10, [[.int .i64 a0.fKind, .int .i64 a0.fH.fSlot, .int .i64 a0.fH.fGen, .int .i64 a0.fR.fH.fSlot, .int .i64 a0.fR.fH.fGen, .int .i64 a0.fR.fEp, .int .i64 a0.fR.fNo, .int .i64 a0.fN, .int .i64 a0.fM, .row false 1 (a0.fB.map en_u8)]]⟩)] ++ []) ∧ j_impl_OpOk_419 K a0 v213 v315 v520 = some r) ?_ ?_
                    · rintro S ⟨v520, rfl, h⟩
                      unfold j_impl_OpOk_419 at h
                      refine W_condB rfl (fun hb521 => ?_) (fun hb521 => ?_)
                      ·
                        replace h := brT hb521 h
                        refine W_seq ?_
                        refine W_regV he rfl ?_
                        refine v0 (sA rfl [] rfl) rfl ?_
                        refine ve ?_
                        refine W2 [2] [] [] (l := [(2, .c (.bool false))]) (h := []) (h' := []) trivial rfl rfl rfl ?_
                        obtain rfl := Option.some.inj h
                        exact W_ret (r0 rfl rfl)
                      ·
                        replace h := brF hb521 h
                        refine W_skip ?_
                        refine W_seq ?_
                        refine W_regV he rfl ?_
                        refine vB (sM rfl [] rfl) rfl rfl fun b522 hb522 => ?_
                        cases b522 with
                        | true =>
                          replace h := brT hb522 h
                          refine v0 (sM rfl [] rfl) rfl ?_
                          refine uP rfl rfl rfl rfl ?_
                          refine uP rfl rfl rfl rfl ?_
                          refine uP rfl rfl rfl rfl ?_
                          refine v0 (sPk rfl [] rfl rfl) rfl ?_
                          refine v0 (sM rfl [] rfl) rfl ?_
                          refine uB (sM rfl [] rfl) rfl rfl rfl rfl fun b523 hb523 => ?_
                          cases b523 with
                          | true =>
                            replace h := brT hb523 h
                            refine u0 (sM rfl [] rfl) rfl rfl rfl ?_
                            refine uP rfl rfl rfl rfl ?_
                            refine uP rfl rfl rfl rfl ?_
                            refine uP rfl rfl rfl rfl ?_
                            refine u0 (sPk rfl [] rfl rfl) rfl rfl rfl ?_
                            refine v0 (sPk rfl [] rfl rfl) rfl ?_
                            refine v0 (sM rfl [] rfl) rfl ?_
                            refine u0 (sFP rfl rfl rfl) rfl rfl rfl ?_
                            refine u0 (sLd rfl rfl) rfl rfl rfl ?_
                            refine uB (sBi rfl rfl rfl rfl) rfl rfl rfl rfl fun b524 hb524 => ?_
                            cases b524 with
                            | true =>
                              replace h := brT hb524 h
                              refine u0 (sM rfl [] rfl) rfl rfl rfl ?_
                              refine uP rfl rfl rfl rfl ?_
                              refine uP rfl rfl rfl rfl ?_
                              refine uP rfl rfl rfl rfl ?_
                              refine uP rfl rfl rfl rfl ?_
                              refine u0 (sPk rfl [] rfl rfl) rfl rfl rfl ?_
                              refine v0 (sPk rfl [] rfl rfl) rfl ?_
                              refine v0 (sA rfl [] rfl) rfl ?_
                              refine ve ?_
                              refine W2 [2] [] [] (l := [(2, .c (.bool true))]) (h := []) (h' := []) trivial rfl rfl rfl ?_
                              obtain rfl := Option.some.inj h
                              exact W_ret (r0 rfl rfl)
                            | false =>
                              replace h := brF hb524 h
                              refine u0 (sM rfl [] rfl) rfl rfl rfl ?_
                              refine u0 (sFP rfl rfl rfl) rfl rfl rfl ?_
                              refine u0 (sLd rfl rfl) rfl rfl rfl ?_
                              refine u0 (sLm rfl rfl rfl rfl) rfl rfl rfl ?_
                              refine u0 (sBi rfl rfl rfl rfl) rfl rfl rfl ?_
                              refine u0 (sPk rfl [] rfl rfl) rfl rfl rfl ?_
                              refine v0 (sPk rfl [] rfl rfl) rfl ?_
                              refine v0 (sA rfl [] rfl) rfl ?_
                              refine ve ?_
                              refine W2 [2] [] [] (l := [(2, .c (.bool _))]) (h := []) (h' := []) trivial rfl rfl rfl ?_
                              obtain rfl := Option.some.inj h
                              exact W_ret (r0 rfl rfl)
                          | false =>
                            replace h := brF hb523 h
                            refine u0 (sM rfl [] rfl) rfl rfl rfl ?_
                            refine u0 (sFP rfl rfl rfl) rfl rfl rfl ?_
                            refine u0 (sLd rfl rfl) rfl rfl rfl ?_
                            refine uB (sBi rfl rfl rfl rfl) rfl rfl rfl rfl fun b525 hb525 => ?_
                            cases b525 with
                            | true =>
                              replace h := brT hb525 h
                              refine u0 (sPk rfl [] rfl rfl) rfl rfl rfl ?_
                              refine v0 (sPk rfl [] rfl rfl) rfl ?_
                              refine v0 (sM rfl [] rfl) rfl ?_
                              refine u0 (sFP rfl rfl rfl) rfl rfl rfl ?_
                              refine u0 (sLd rfl rfl) rfl rfl rfl ?_
                              refine uB (sBi rfl rfl rfl rfl) rfl rfl rfl rfl fun b526 hb526 => ?_
                              cases b526 with
                              | true =>
                                replace h := brT hb526 h
                                refine u0 (sM rfl [] rfl) rfl rfl rfl ?_
                                refine uP rfl rfl rfl rfl ?_
                                refine uP rfl rfl rfl rfl ?_
                                refine uP rfl rfl rfl rfl ?_
                                refine uP rfl rfl rfl rfl ?_
                                refine u0 (sPk rfl [] rfl rfl) rfl rfl rfl ?_
                                refine v0 (sPk rfl [] rfl rfl) rfl ?_
                                refine v0 (sA rfl [] rfl) rfl ?_
                                refine ve ?_
                                refine W2 [2] [] [] (l := [(2, .c (.bool true))]) (h := []) (h' := []) trivial rfl rfl rfl ?_
                                obtain rfl := Option.some.inj h
                                exact W_ret (r0 rfl rfl)
                              | false =>
                                replace h := brF hb526 h
                                refine u0 (sM rfl [] rfl) rfl rfl rfl ?_
                                refine u0 (sFP rfl rfl rfl) rfl rfl rfl ?_
                                refine u0 (sLd rfl rfl) rfl rfl rfl ?_
                                refine u0 (sLm rfl rfl rfl rfl) rfl rfl rfl ?_
                                refine u0 (sBi rfl rfl rfl rfl) rfl rfl rfl ?_
                                refine u0 (sPk rfl [] rfl rfl) rfl rfl rfl ?_
                                refine v0 (sPk rfl [] rfl rfl) rfl ?_
                                refine v0 (sA rfl [] rfl) rfl ?_
                                refine ve ?_
                                refine W2 [2] [] [] (l := [(2, .c (.bool _))]) (h := []) (h' := []) trivial rfl rfl rfl ?_
                                obtain rfl := Option.some.inj h
                                exact W_ret (r0 rfl rfl)
                            | false =>
                              replace h := brF hb525 h
                              refine u0 (sPk rfl [] rfl rfl) rfl rfl rfl ?_
                              refine v0 (sPk rfl [] rfl rfl) rfl ?_
                              refine v0 (sM rfl [] rfl) rfl ?_
                              refine uP rfl rfl rfl rfl ?_
                              refine uP rfl rfl rfl rfl ?_
                              refine uP rfl rfl rfl rfl ?_
                              refine uP rfl rfl rfl rfl ?_
                              refine uS rfl rfl rfl ?_
                              refine uS rfl rfl rfl ?_
                              refine uS rfl rfl rfl ?_
                              refine uS rfl rfl rfl ?_
                              refine uP rfl rfl rfl rfl ?_
                              refine v0 (sPk rfl [] rfl rfl) rfl ?_
                              refine v0 (sA rfl [] rfl) rfl ?_
                              refine ve ?_
                              refine W2 [2] [] [] (l := [(2, .c (.bool false))]) (h := []) (h' := []) trivial rfl rfl rfl ?_
                              obtain rfl := Option.some.inj h
                              exact W_ret (r0 rfl rfl)
                        | false =>
                          replace h := brF hb522 h
                          refine v0 (sM rfl [] rfl) rfl ?_
                          refine u0 (sFP rfl rfl rfl) rfl rfl rfl ?_
                          refine u0 (sLd rfl rfl) rfl rfl rfl ?_
                          refine uB (sBi rfl rfl rfl rfl) rfl rfl rfl rfl fun b527 hb527 => ?_
                          cases b527 with
                          | true =>
                            replace h := brT hb527 h
                            refine v0 (sPk rfl [] rfl rfl) rfl ?_
                            refine v0 (sM rfl [] rfl) rfl ?_
                            refine uB (sM rfl [] rfl) rfl rfl rfl rfl fun b528 hb528 => ?_
                            cases b528 with
                            | true =>
                              replace h := brT hb528 h
                              refine u0 (sM rfl [] rfl) rfl rfl rfl ?_
                              refine uP rfl rfl rfl rfl ?_
                              refine uP rfl rfl rfl rfl ?_
                              refine uP rfl rfl rfl rfl ?_
                              refine u0 (sPk rfl [] rfl rfl) rfl rfl rfl ?_
                              refine v0 (sPk rfl [] rfl rfl) rfl ?_
                              refine v0 (sM rfl [] rfl) rfl ?_
                              refine u0 (sFP rfl rfl rfl) rfl rfl rfl ?_
                              refine u0 (sLd rfl rfl) rfl rfl rfl ?_
                              refine uB (sBi rfl rfl rfl rfl) rfl rfl rfl rfl fun b529 hb529 => ?_
                              cases b529 with
                              | true =>
                                replace h := brT hb529 h
                                refine u0 (sM rfl [] rfl) rfl rfl rfl ?_
                                refine uP rfl rfl rfl rfl ?_
                                refine uP rfl rfl rfl rfl ?_
                                refine uP rfl rfl rfl rfl ?_
                                refine uP rfl rfl rfl rfl ?_
                                refine u0 (sPk rfl [] rfl rfl) rfl rfl rfl ?_
                                refine v0 (sPk rfl [] rfl rfl) rfl ?_
                                refine v0 (sA rfl [] rfl) rfl ?_
                                refine ve ?_
                                refine W2 [2] [] [] (l := [(2, .c (.bool true))]) (h := []) (h' := []) trivial rfl rfl rfl ?_
                                obtain rfl := Option.some.inj h
                                exact W_ret (r0 rfl rfl)
                              | false =>
                                replace h := brF hb529 h
                                refine u0 (sM rfl [] rfl) rfl rfl rfl ?_
                                refine u0 (sFP rfl rfl rfl) rfl rfl rfl ?_
                                refine u0 (sLd rfl rfl) rfl rfl rfl ?_
                                refine u0 (sLm rfl rfl rfl rfl) rfl rfl rfl ?_
                                refine u0 (sBi rfl rfl rfl rfl) rfl rfl rfl ?_
                                refine u0 (sPk rfl [] rfl rfl) rfl rfl rfl ?_
                                refine v0 (sPk rfl [] rfl rfl) rfl ?_
                                refine v0 (sA rfl [] rfl) rfl ?_
                                refine ve ?_
                                refine W2 [2] [] [] (l := [(2, .c (.bool _))]) (h := []) (h' := []) trivial rfl rfl rfl ?_
                                obtain rfl := Option.some.inj h
                                exact W_ret (r0 rfl rfl)
                            | false =>
                              replace h := brF hb528 h
                              refine u0 (sM rfl [] rfl) rfl rfl rfl ?_
                              refine u0 (sFP rfl rfl rfl) rfl rfl rfl ?_
                              refine u0 (sLd rfl rfl) rfl rfl rfl ?_
                              refine uB (sBi rfl rfl rfl rfl) rfl rfl rfl rfl fun b530 hb530 => ?_
                              cases b530 with
                              | true =>
                                replace h := brT hb530 h
                                refine u0 (sPk rfl [] rfl rfl) rfl rfl rfl ?_
                                refine v0 (sPk rfl [] rfl rfl) rfl ?_
                                refine v0 (sM rfl [] rfl) rfl ?_
                                refine u0 (sFP rfl rfl rfl) rfl rfl rfl ?_
                                refine u0 (sLd rfl rfl) rfl rfl rfl ?_
                                refine uB (sBi rfl rfl rfl rfl) rfl rfl rfl rfl fun b531 hb531 => ?_
                                cases b531 with
                                | true =>
                                  replace h := brT hb531 h
                                  refine u0 (sM rfl [] rfl) rfl rfl rfl ?_
                                  refine uP rfl rfl rfl rfl ?_
                                  refine uP rfl rfl rfl rfl ?_
                                  refine uP rfl rfl rfl rfl ?_
                                  refine uP rfl rfl rfl rfl ?_
                                  refine u0 (sPk rfl [] rfl rfl) rfl rfl rfl ?_
                                  refine v0 (sPk rfl [] rfl rfl) rfl ?_
                                  refine v0 (sA rfl [] rfl) rfl ?_
                                  refine ve ?_
                                  refine W2 [2] [] [] (l := [(2, .c (.bool true))]) (h := []) (h' := []) trivial rfl rfl rfl ?_
                                  obtain rfl := Option.some.inj h
                                  exact W_ret (r0 rfl rfl)
                                | false =>
                                  replace h := brF hb531 h
                                  refine u0 (sM rfl [] rfl) rfl rfl rfl ?_
                                  refine u0 (sFP rfl rfl rfl) rfl rfl rfl ?_
                                  refine u0 (sLd rfl rfl) rfl rfl rfl ?_
                                  refine u0 (sLm rfl rfl rfl rfl) rfl rfl rfl ?_
                                  refine u0 (sBi rfl rfl rfl rfl) rfl rfl rfl ?_
                                  refine u0 (sPk rfl [] rfl rfl) rfl rfl rfl ?_
                                  refine v0 (sPk rfl [] rfl rfl) rfl ?_
                                  refine v0 (sA rfl [] rfl) rfl ?_
                                  refine ve ?_
                                  refine W2 [2] [] [] (l := [(2, .c (.bool _))]) (h := []) (h' := []) trivial rfl rfl rfl ?_
                                  obtain rfl := Option.some.inj h
                                  exact W_ret (r0 rfl rfl)
                              | false =>
                                replace h := brF hb530 h
                                refine u0 (sPk rfl [] rfl rfl) rfl rfl rfl ?_
                                refine v0 (sPk rfl [] rfl rfl) rfl ?_
                                refine v0 (sM rfl [] rfl) rfl ?_
                                refine uP rfl rfl rfl rfl ?_
                                refine uP rfl rfl rfl rfl ?_
                                refine uP rfl rfl rfl rfl ?_
                                refine uP rfl rfl rfl rfl ?_
                                refine uS rfl rfl rfl ?_
                                refine uS rfl rfl rfl ?_
                                refine uS rfl rfl rfl ?_
                                refine uS rfl rfl rfl ?_
                                refine uP rfl rfl rfl rfl ?_
                                refine v0 (sPk rfl [] rfl rfl) rfl ?_
                                refine v0 (sA rfl [] rfl) rfl ?_
                                refine ve ?_
                                refine W2 [2] [] [] (l := [(2, .c (.bool false))]) (h := []) (h' := []) trivial rfl rfl rfl ?_
                                obtain rfl := Option.some.inj h
                                exact W_ret (r0 rfl rfl)
                          | false =>
                            replace h := brF hb527 h
                            refine v0 (sPk rfl [] rfl rfl) rfl ?_
                            refine v0 (sM rfl [] rfl) rfl ?_
                            refine uP rfl rfl rfl rfl ?_
                            refine uP rfl rfl rfl rfl ?_
                            refine uS rfl rfl rfl ?_
                            refine uS rfl rfl rfl ?_
                            refine uS rfl rfl rfl ?_
                            refine uP rfl rfl rfl rfl ?_
                            refine v0 (sPk rfl [] rfl rfl) rfl ?_
                            refine v0 (sM rfl [] rfl) rfl ?_
                            refine uP rfl rfl rfl rfl ?_
                            refine uP rfl rfl rfl rfl ?_
                            refine uP rfl rfl rfl rfl ?_
                            refine uP rfl rfl rfl rfl ?_
                            refine uS rfl rfl rfl ?_
                            refine uS rfl rfl rfl ?_
                            refine uS rfl rfl rfl ?_
                            refine uS rfl rfl rfl ?_
                            refine uP rfl rfl rfl rfl ?_
                            refine v0 (sPk rfl [] rfl rfl) rfl ?_
                            refine v0 (sA rfl [] rfl) rfl ?_
                            refine ve ?_
                            refine W2 [2] [] [] (l := [(2, .c (.bool false))]) (h := []) (h' := []) trivial rfl rfl rfl ?_
                            obtain rfl := Option.some.inj h
                            exact W_ret (r0 rfl rfl)
                    ·
                      refine W_regV he rfl ?_
                      refine vB (sM rfl [] rfl) rfl rfl fun b532 hb532 => ?_
                      cases b532 with
                      | true =>
                        replace h := brT hb532 h
                        refine v0 (sNt rfl rfl) rfl ?_
                        refine v0 (sM rfl [] rfl) rfl ?_
                        refine uP rfl rfl rfl rfl ?_
                        refine uP rfl rfl rfl rfl ?_
                        refine uP rfl rfl rfl rfl ?_
                        refine uP rfl rfl rfl rfl ?_
                        refine v0 (sPk rfl [] rfl rfl) rfl ?_
                        refine v0 (sA rfl [] rfl) rfl ?_
                        refine ve ?_
                        exact ⟨_, wk2 [1, 6, 7, 92] [101] [] (l := [(1, .c (.ptr _ _ _ _)), (6, .c (.bool _)), (7, .c (.bool _)), (92, .c (.bool false))]) (h := [(101, ⟨0, 10, [[.int _ _, .int _ _, .int _ _, .int _ _, .int _ _, .int _ _, .int _ _, .int _ _, .int _ _, .row _ _ _]]⟩)]) (h' := []) trivial rfl rfl rfl, _, rfl, h⟩
                      | false =>
                        replace h := brF hb532 h
                        refine v0 (sNt rfl rfl) rfl ?_
                        refine v0 (sM rfl [] rfl) rfl ?_
                        refine u0 (sFP rfl rfl rfl) rfl rfl rfl ?_
                        refine u0 (sLd rfl rfl) rfl rfl rfl ?_
                        refine u0 (sBd rfl [] (out := [.int .i64 0, .int .i64 0, .int .i64 0, .int .i64 0]) rfl (by kernel_rfl)) rfl rfl rfl ?_
                        refine u0 (sEs rfl (.inr rfl) rfl rfl rfl rfl (by kernel_rfl) (by kernel_rfl) rfl rfl rfl) rfl rfl rfl ?_
                        refine v0 (sPk rfl [] rfl rfl) rfl ?_
                        refine v0 (sA rfl [] rfl) rfl ?_
                        refine ve ?_
                        exact ⟨_, wk2 [1, 6, 7, 92] [101] [] (l := [(1, .c (.ptr _ _ _ _)), (6, .c (.bool _)), (7, .c (.bool _)), (92, .c (.bool _))]) (h := [(101, ⟨0, 10, [[.int _ _, .int _ _, .int _ _, .int _ _, .int _ _, .int _ _, .int _ _, .int _ _, .int _ _, .row _ _ _]]⟩)]) (h' := []) trivial rfl rfl rfl, _, rfl, h⟩
                ·
                  refine W_regV he rfl ?_
                  refine vB (sM rfl [] rfl) rfl rfl fun b533 hb533 => ?_
                  cases b533 with
                  | true =>
                    replace h := brT hb533 h
                    refine v0 (sM rfl [] rfl) rfl ?_
                    refine uP rfl rfl rfl rfl ?_
                    refine uP rfl rfl rfl rfl ?_
                    refine uP rfl rfl rfl rfl ?_
                    refine v0 (sPk rfl [] rfl rfl) rfl ?_
                    refine v0 (sM rfl [] rfl) rfl ?_
                    refine u0 (sFP rfl rfl rfl) rfl rfl rfl ?_
                    refine u0 (sLd rfl rfl) rfl rfl rfl ?_
                    refine u0 (sBd rfl [] (out := [.int .i64 0, .int .i64 0]) rfl (by kernel_rfl)) rfl rfl rfl ?_
                    refine u0 (sEs rfl (.inr rfl) rfl rfl rfl rfl (by kernel_rfl) (by kernel_rfl) rfl rfl rfl) rfl rfl rfl ?_
                    refine v0 (sPk rfl [] rfl rfl) rfl ?_
                    refine v0 (sA rfl [] rfl) rfl ?_
                    refine ve ?_
                    exact ⟨_, wk2 [1, 5, 6, 7, 79] [101] [] (l := [(1, .c (.ptr _ _ _ _)), (5, .c (.bool _)), (6, .c (.bool _)), (7, .c (.bool _)), (79, .c (.bool _))]) (h := [(101, ⟨0, 10, [[.int _ _, .int _ _, .int _ _, .int _ _, .int _ _, .int _ _, .int _ _, .int _ _, .int _ _, .row _ _ _]]⟩)]) (h' := []) trivial rfl rfl rfl, _, rfl, h⟩
                  | false =>
                    replace h := brF hb533 h
                    refine v0 (sM rfl [] rfl) rfl ?_
                    refine u0 (sFP rfl rfl rfl) rfl rfl rfl ?_
                    refine u0 (sLd rfl rfl) rfl rfl rfl ?_
                    refine uB (sBi rfl rfl rfl rfl) rfl rfl rfl rfl fun b534 hb534 => ?_
                    cases b534 with
                    | true =>
                      replace h := brT hb534 h
                      refine v0 (sPk rfl [] rfl rfl) rfl ?_
                      refine v0 (sM rfl [] rfl) rfl ?_
                      refine u0 (sFP rfl rfl rfl) rfl rfl rfl ?_
                      refine u0 (sLd rfl rfl) rfl rfl rfl ?_
                      refine u0 (sBd rfl [] (out := [.int .i64 0, .int .i64 0]) rfl (by kernel_rfl)) rfl rfl rfl ?_
                      refine u0 (sEs rfl (.inr rfl) rfl rfl rfl rfl (by kernel_rfl) (by kernel_rfl) rfl rfl rfl) rfl rfl rfl ?_
                      refine v0 (sPk rfl [] rfl rfl) rfl ?_
                      refine v0 (sA rfl [] rfl) rfl ?_
                      refine ve ?_
                      exact ⟨_, wk2 [1, 5, 6, 7, 79] [101] [] (l := [(1, .c (.ptr _ _ _ _)), (5, .c (.bool _)), (6, .c (.bool _)), (7, .c (.bool _)), (79, .c (.bool _))]) (h := [(101, ⟨0, 10, [[.int _ _, .int _ _, .int _ _, .int _ _, .int _ _, .int _ _, .int _ _, .int _ _, .int _ _, .row _ _ _]]⟩)]) (h' := []) trivial rfl rfl rfl, _, rfl, h⟩
                    | false =>
                      replace h := brF hb534 h
                      refine v0 (sPk rfl [] rfl rfl) rfl ?_
                      refine v0 (sM rfl [] rfl) rfl ?_
                      refine uP rfl rfl rfl rfl ?_
                      refine uP rfl rfl rfl rfl ?_
                      refine uP rfl rfl rfl rfl ?_
                      refine uP rfl rfl rfl rfl ?_
                      refine v0 (sPk rfl [] rfl rfl) rfl ?_
                      refine v0 (sA rfl [] rfl) rfl ?_
                      refine ve ?_
                      exact ⟨_, wk2 [1, 5, 6, 7, 79] [101] [] (l := [(1, .c (.ptr _ _ _ _)), (5, .c (.bool _)), (6, .c (.bool _)), (7, .c (.bool _)), (79, .c (.bool false))]) (h := [(101, ⟨0, 10, [[.int _ _, .int _ _, .int _ _, .int _ _, .int _ _, .int _ _, .int _ _, .int _ _, .int _ _, .row _ _ _]]⟩)]) (h' := []) trivial rfl rfl rfl, _, rfl, h⟩
              ·
                refine W_regV he rfl ?_
                refine v0 (sFP rfl rfl rfl) rfl ?_
                refine v0 (sLd rfl rfl) rfl ?_
                refine vB (sBi rfl rfl rfl rfl) rfl rfl fun b535 hb535 => ?_
                cases b535 with
                | true =>
                  replace h := brT hb535 h
                  refine v0 (sM rfl [] rfl) rfl ?_
                  refine uP rfl rfl rfl rfl ?_
                  refine uP rfl rfl rfl rfl ?_
                  refine uP rfl rfl rfl rfl ?_
                  refine v0 (sPk rfl [] rfl rfl) rfl ?_
                  refine v0 (sA rfl [] rfl) rfl ?_
                  refine ve ?_
                  exact ⟨_, wk2 [1, 5, 6, 7] [101] [] (l := [(1, .c (.ptr _ _ _ _)), (5, .c (.bool _)), (6, .c (.bool _)), (7, .c (.bool true))]) (h := [(101, ⟨0, 10, [[.int _ _, .int _ _, .int _ _, .int _ _, .int _ _, .int _ _, .int _ _, .int _ _, .int _ _, .row _ _ _]]⟩)]) (h' := []) trivial rfl rfl rfl, _, rfl, h⟩
                | false =>
                  replace h := brF hb535 h
                  refine v0 (sM rfl [] rfl) rfl ?_
                  refine u0 (sFP rfl rfl rfl) rfl rfl rfl ?_
                  refine u0 (sLd rfl rfl) rfl rfl rfl ?_
                  refine u0 (sBi rfl rfl rfl rfl) rfl rfl rfl ?_
                  refine v0 (sPk rfl [] rfl rfl) rfl ?_
                  refine v0 (sA rfl [] rfl) rfl ?_
                  refine ve ?_
                  exact ⟨_, wk2 [1, 5, 6, 7] [101] [] (l := [(1, .c (.ptr _ _ _ _)), (5, .c (.bool _)), (6, .c (.bool _)), (7, .c (.bool _))]) (h := [(101, ⟨0, 10, [[.int _ _, .int _ _, .int _ _, .int _ _, .int _ _, .int _ _, .int _ _, .int _ _, .int _ _, .row _ _ _]]⟩)]) (h' := []) trivial rfl rfl rfl, _, rfl, h⟩
            ·
              refine W_regV he rfl ?_
              refine vB (sM rfl [] rfl) rfl rfl fun b536 hb536 => ?_
              cases b536 with
              | true =>
                replace h := brT hb536 h
                refine v0 (sM rfl [] rfl) rfl ?_
                refine uP rfl rfl rfl rfl ?_
                refine uP rfl rfl rfl rfl ?_
                refine uP rfl rfl rfl rfl ?_
                refine v0 (sPk rfl [] rfl rfl) rfl ?_
                refine v0 (sM rfl [] rfl) rfl ?_
                refine uP rfl rfl rfl rfl ?_
                refine uP rfl rfl rfl rfl ?_
                refine uP rfl rfl rfl rfl ?_
                refine v0 (sPk rfl [] rfl rfl) rfl ?_
                refine v0 (sA rfl [] rfl) rfl ?_
                refine ve ?_
                exact ⟨_, wk2 [1, 5, 6] [101] [] (l := [(1, .c (.ptr _ _ _ _)), (5, .c (.bool _)), (6, .c (.bool true))]) (h := [(101, ⟨0, 10, [[.int _ _, .int _ _, .int _ _, .int _ _, .int _ _, .int _ _, .int _ _, .int _ _, .int _ _, .row _ _ _]]⟩)]) (h' := []) trivial rfl rfl rfl, _, rfl, h⟩
              | false =>
                replace h := brF hb536 h
                refine v0 (sM rfl [] rfl) rfl ?_
                refine u0 (sFP rfl rfl rfl) rfl rfl rfl ?_
                refine u0 (sLd rfl rfl) rfl rfl rfl ?_
                refine uB (sBi rfl rfl rfl rfl) rfl rfl rfl rfl fun b537 hb537 => ?_
                cases b537 with
                | true =>
                  replace h := brT hb537 h
                  refine v0 (sPk rfl [] rfl rfl) rfl ?_
                  refine v0 (sM rfl [] rfl) rfl ?_
                  refine uP rfl rfl rfl rfl ?_
                  refine uP rfl rfl rfl rfl ?_
                  refine uP rfl rfl rfl rfl ?_
                  refine v0 (sPk rfl [] rfl rfl) rfl ?_
                  refine v0 (sA rfl [] rfl) rfl ?_
                  refine ve ?_
                  exact ⟨_, wk2 [1, 5, 6] [101] [] (l := [(1, .c (.ptr _ _ _ _)), (5, .c (.bool _)), (6, .c (.bool true))]) (h := [(101, ⟨0, 10, [[.int _ _, .int _ _, .int _ _, .int _ _, .int _ _, .int _ _, .int _ _, .int _ _, .int _ _, .row _ _ _]]⟩)]) (h' := []) trivial rfl rfl rfl, _, rfl, h⟩
                | false =>
                  replace h := brF hb537 h
                  refine v0 (sPk rfl [] rfl rfl) rfl ?_
                  refine v0 (sM rfl [] rfl) rfl ?_
                  refine u0 (sFP rfl rfl rfl) rfl rfl rfl ?_
                  refine u0 (sLd rfl rfl) rfl rfl rfl ?_
                  refine u0 (sBi rfl rfl rfl rfl) rfl rfl rfl ?_
                  refine v0 (sPk rfl [] rfl rfl) rfl ?_
                  refine v0 (sA rfl [] rfl) rfl ?_
                  refine ve ?_
                  exact ⟨_, wk2 [1, 5, 6] [101] [] (l := [(1, .c (.ptr _ _ _ _)), (5, .c (.bool _)), (6, .c (.bool _))]) (h := [(101, ⟨0, 10, [[.int _ _, .int _ _, .int _ _, .int _ _, .int _ _, .int _ _, .int _ _, .int _ _, .int _ _, .row _ _ _]]⟩)]) (h' := []) trivial rfl rfl rfl, _, rfl, h⟩
          ·
            refine W_regV he rfl ?_
            refine v0 (sFP rfl rfl rfl) rfl ?_
            refine v0 (sLd rfl rfl) rfl ?_
            refine vB (sBi rfl rfl rfl rfl) rfl rfl fun b538 hb538 => ?_
            cases b538 with
            | true =>
              replace h := brT hb538 h
              refine v0 (sM rfl [] rfl) rfl ?_
              refine uP rfl rfl rfl rfl ?_
              refine uP rfl rfl rfl rfl ?_
              refine uP rfl rfl rfl rfl ?_
              refine v0 (sPk rfl [] rfl rfl) rfl ?_
              refine v0 (sA rfl [] rfl) rfl ?_
              refine ve ?_
              exact ⟨_, wk2 [1, 5] [101] [] (l := [(1, .c (.ptr _ _ _ _)), (5, .c (.bool true))]) (h := [(101, ⟨0, 10, [[.int _ _, .int _ _, .int _ _, .int _ _, .int _ _, .int _ _, .int _ _, .int _ _, .int _ _, .row _ _ _]]⟩)]) (h' := []) trivial rfl rfl rfl, _, rfl, h⟩
            | false =>
              replace h := brF hb538 h
              refine v0 (sM rfl [] rfl) rfl ?_
              refine u0 (sFP rfl rfl rfl) rfl rfl rfl ?_
              refine u0 (sLd rfl rfl) rfl rfl rfl ?_
              refine u0 (sBi rfl rfl rfl rfl) rfl rfl rfl ?_
              refine v0 (sPk rfl [] rfl rfl) rfl ?_
              refine v0 (sA rfl [] rfl) rfl ?_
              refine ve ?_
              exact ⟨_, wk2 [1, 5] [101] [] (l := [(1, .c (.ptr _ _ _ _)), (5, .c (.bool _))]) (h := [(101, ⟨0, 10, [[.int _ _, .int _ _, .int _ _, .int _ _, .int _ _, .int _ _, .int _ _, .int _ _, .int _ _, .row _ _ _]]⟩)]) (h' := []) trivial rfl rfl rfl, _, rfl, h⟩
  | false =>
    replace h := brF hb2 h
    refine v0 (sNt rfl rfl) rfl ?_
    refine v0 (sM rfl [] rfl) rfl ?_
    refine uP rfl rfl rfl rfl ?_
    refine uP rfl rfl rfl rfl ?_
    refine uP rfl rfl rfl rfl ?_
    refine uP rfl rfl rfl rfl ?_
    refine v0 (sPk rfl [] rfl rfl) rfl ?_
    refine ve ?_
    refine W2 [1, 17] [101] [] (l := [(1, .c (.ptr _ _ _ _)), (17, .c (.bool true))]) (h := [(101, ⟨0, 10, [[.int _ _, .int _ _, .int _ _, .int _ _, .int _ _, .int _ _, .int _ _, .int _ _, .int _ _, .row _ _ _]]⟩)]) (h' := []) trivial rfl rfl rfl ?_
    refine W_true rfl ?_
    refine W_seq ?_
    refine W_regV he rfl ?_
    refine v0 (sA rfl [] rfl) rfl ?_
    refine ve ?_
    refine W2 [2] [] [] (l := [(2, .c (.bool false))]) (h := []) (h' := []) trivial rfl rfl rfl ?_
    obtain rfl := Option.some.inj h
    exact W_ret (r0 rfl rfl)
theorem ok_impl_OpOk : FnOk Try.prog 41 := ⟨_, Try.func41, rfl, rfl⟩


/-! ### slices.Clone[[]byte,byte] -/
def m_slices_Clone_byte_byte (K : Nat) (a0 : List Int) : Option ((List Int)) := (if (([] : List Int) ++ a0).length * 1 ≤ 140737488355328 ∧ (([] : List Int) ++ a0).length ≤ maxLen then some (([] : List Int) ++ a0) else none)
set_option maxRecDepth 20000 in
set_option maxHeartbeats 8000000 in
theorem w_slices_Clone_byte_byte (K : Nat) (a0 : List Int) (r : (List Int)) (h : m_slices_Clone_byte_byte K a0 = some r) : Sp Try.prog 58 [.c (.row false 1 (a0.map en_u8))] [] (.c (.row false 1 (r.map en_u8))) [] := by
  refine Sp.of_W tabOk Try.func58 rfl rfl (Nat.le_of_ble_eq_true rfl) (Nat.le_of_ble_eq_true rfl) fun F hP hN hm => ?_
  obtain ⟨P, N, w0, σ0, β0, m⟩ := F
  obtain rfl : P = Try.prog := hP
  obtain rfl : N = 8 := hN
  obtain rfl : m = 1 := hm
  have he : Env ⟨Try.prog, 8, w0, σ0, β0, 1⟩ tab := ⟨Nat.le_of_ble_eq_true rfl, tabOk⟩
  unfold m_slices_Clone_byte_byte at h
  refine W_seq ?_
  refine W_regV he rfl ?_
  refine v0 (sA rfl [1] rfl) rfl ?_
  refine ve ?_
  refine W2 [0] [] [] (l := [(0, .c (.row _ _ _))]) (h := []) (h' := []) trivial rfl rfl rfl ?_
  refine W_seq ?_
  refine W_seq ?_
  refine W_regV he rfl ?_
  refine v0 (sM rfl [] rfl) rfl ?_
  refine vN rfl rfl rfl rfl rfl fun b1 hb1 => ?_
  cases b1 with
  | false =>
    refine ve ?_
    refine W2 [0, 4] [] [] (l := [(0, .c (.row _ _ _)), (4, .c (.bool false))]) (h := []) (h' := []) trivial rfl rfl rfl ?_
    refine W_false rfl ?_
    refine W_skip ?_
    refine W_seq ?_
    refine W_regV he rfl ?_
    refine v0 (sBS rfl 1005 (rows := ([] : List Int).map en_u8) rfl rfl rfl (by kernel_rfl) rfl rfl rfl rfl) rfl ?_
    refine v0 (sM rfl [] rfl) rfl ?_
    refine chkc h ?_; clear h; intro c2 h
    refine v0 (sAo rfl 1002 ([] : List Int) a0 enOk_u8 rfl rfl rfl rfl rfl rfl rfl rfl rfl rfl rfl c2) rfl ?_
    refine v0 (sA rfl [] rfl) rfl ?_
    refine ve ?_
    refine W2 [2] [] [1002] (l := [(2, .c (.own _ _ _ _))]) (h := []) (h' := [(1002, ⟨0, 1, (([] : List Int) ++ a0).map en_u8⟩)]) ⟨⟨_, rfl, enOk_u8.allClosed _ _ (([] : List Int) ++ a0)⟩, trivial⟩ rfl rfl rfl ?_
    obtain rfl := Option.some.inj h
    refine W.weak (wk_row (l := (([] : List Int) ++ a0)) 2 enOk_u8 rfl rfl) ?_
    exact W_ret (r0 rfl rfl)
  | true =>
    have hzb1 : a0 = [] := List.map_eq_nil_iff.1 (hb1 rfl)
    replace h : some [] = some r := by simpa [hzb1] using h
    refine ve ?_
    refine W2 [0, 4] [] [] (l := [(0, .c (.row _ _ _)), (4, .c (.bool true))]) (h := []) (h' := []) trivial rfl rfl rfl ?_
    refine W_true rfl ?_
    refine W_seq ?_
    refine W_regV he rfl ?_
    refine v0 (sA rfl [1] rfl) rfl ?_
    refine ve ?_
    refine W2 [2] [] [] (l := [(2, .c (.row _ _ _))]) (h := []) (h' := []) trivial rfl rfl rfl ?_
    obtain rfl := Option.some.inj h
    exact W_ret (r0 rfl rfl)
theorem ok_slices_Clone_byte_byte : FnOk Try.prog 58 := ⟨_, Try.func58, rfl, rfl⟩


/-! ### slices.Clone[[]byte,byte] -/
set_option maxRecDepth 20000 in
set_option maxHeartbeats 8000000 in
theorem wo_slices_Clone_byte_byte (K : Nat) (a0 : List Int) (r : (List Int)) (h : m_slices_Clone_byte_byte K a0 = some r) : Sp Try.prog 58 [.c (.row false 1 (a0.map en_u8))] [] (.c (.own 1 0 0 r.length)) [⟨0, 1, r.map en_u8⟩] := by
  refine Sp.of_W tabOk Try.func58 rfl rfl (Nat.le_of_ble_eq_true rfl) (Nat.le_of_ble_eq_true rfl) fun F hP hN hm => ?_
  obtain ⟨P, N, w0, σ0, β0, m⟩ := F
  obtain rfl : P = Try.prog := hP
  obtain rfl : N = 8 := hN
  obtain rfl : m = 1 := hm
  have he : Env ⟨Try.prog, 8, w0, σ0, β0, 1⟩ tab := ⟨Nat.le_of_ble_eq_true rfl, tabOk⟩
  unfold m_slices_Clone_byte_byte at h
  refine W_seq ?_
  refine W_regV he rfl ?_
  refine v0 (sA rfl [1] rfl) rfl ?_
  refine ve ?_
  refine W2 [0] [] [] (l := [(0, .c (.row _ _ _))]) (h := []) (h' := []) trivial rfl rfl rfl ?_
  refine W_seq ?_
  refine W_seq ?_
  refine W_regV he rfl ?_
  refine v0 (sM rfl [] rfl) rfl ?_
  refine vN rfl rfl rfl rfl rfl fun b1 hb1 => ?_
  cases b1 with
  | false =>
    refine ve ?_
    refine W2 [0, 4] [] [] (l := [(0, .c (.row _ _ _)), (4, .c (.bool false))]) (h := []) (h' := []) trivial rfl rfl rfl ?_
    refine W_false rfl ?_
    refine W_skip ?_
    refine W_seq ?_
    refine W_regV he rfl ?_
    refine v0 (sBS rfl 1005 (rows := ([] : List Int).map en_u8) rfl rfl rfl (by kernel_rfl) rfl rfl rfl rfl) rfl ?_
    refine v0 (sM rfl [] rfl) rfl ?_
    refine chkc h ?_; clear h; intro c2 h
    refine v0 (sAo rfl 1002 ([] : List Int) a0 enOk_u8 rfl rfl rfl rfl rfl rfl rfl rfl rfl rfl rfl c2) rfl ?_
    refine v0 (sA rfl [] rfl) rfl ?_
    refine ve ?_
    refine W2 [2] [] [1002] (l := [(2, .c (.own _ _ _ _))]) (h := []) (h' := [(1002, ⟨0, 1, (([] : List Int) ++ a0).map en_u8⟩)]) ⟨⟨_, rfl, enOk_u8.allClosed _ _ (([] : List Int) ++ a0)⟩, trivial⟩ rfl rfl rfl ?_
    obtain rfl := Option.some.inj h
    exact W_ret (retOne 0 1002 (.inl rfl) enOk_u8 rfl rfl rfl)
  | true =>
    have hzb1 : a0 = [] := List.map_eq_nil_iff.1 (hb1 rfl)
    replace h : some [] = some r := by simpa [hzb1] using h
    refine ve ?_
    refine W2 [0, 4] [] [] (l := [(0, .c (.row _ _ _)), (4, .c (.bool true))]) (h := []) (h' := []) trivial rfl rfl rfl ?_
    refine W_true rfl ?_
    refine W_seq ?_
    refine W_regV he rfl ?_
    refine v0 (sA rfl [1] rfl) rfl ?_
    refine ve ?_
    refine W2 [2] [] [] (l := [(2, .c (.row _ _ _))]) (h := []) (h' := []) trivial rfl rfl rfl ?_
    obtain rfl := Option.some.inj h
    refine W_ownNil he 2 1900 rfl rfl ?_
    exact W_ret (retOne (l := ([] : List Int)) 0 1900 (.inl rfl) enOk_u8 rfl rfl rfl)


/-! ### loop.example/g00499/impl.PutVar -/
def l_impl_PutVar_6 (K : Nat) : Nat → Int → (List Int) → Option ((List Int))
  | 0, _, _ => none
  | n6 + 1, v4, v5 => (bif (decide (v4 > 127)) then (if (v5 ++ ([(IntKind.u8.wrap (iOr .i64 (iAnd .i64 v4 127) 128))] : List Int)).length * 1 ≤ 140737488355328 ∧ (v5 ++ ([(IntKind.u8.wrap (iOr .i64 (iAnd .i64 v4 127) 128))] : List Int)).length ≤ maxLen then (if (0 : Int) ≤ 7 then (l_impl_PutVar_6 K n6 (iShr .i64 v4 7) (v5 ++ ([(IntKind.u8.wrap (iOr .i64 (iAnd .i64 v4 127) 128))] : List Int))) else none) else none) else (if (v5 ++ ([(IntKind.u8.wrap v4)] : List Int)).length * 1 ≤ 140737488355328 ∧ (v5 ++ ([(IntKind.u8.wrap v4)] : List Int)).length ≤ maxLen then some (v5 ++ ([(IntKind.u8.wrap v4)] : List Int)) else none))
def m_impl_PutVar (K : Nat) (a0 : List Int) (a1 : Int) : Option ((List Int)) := ((m_slices_Clone_byte_byte K a0).bind fun r1 => ((m_impl_within K a1 0 1000000000).bind fun r2 => (bif r2 then (l_impl_PutVar_6 K K a1 r1) else some r1)))
set_option maxRecDepth 20000 in
set_option maxHeartbeats 8000000 in
theorem w_impl_PutVar (K : Nat) (a0 : List Int) (a1 : Int) (r : (List Int)) (h : m_impl_PutVar K a0 a1 = some r) : Sp Try.prog 25 [.c (.row false 1 (a0.map en_u8)), .c (.int .i64 a1)] [] (.c (.row false 1 (r.map en_u8))) [] := by
  refine Sp.of_W tabOk Try.func25 rfl rfl (Nat.le_of_ble_eq_true rfl) (Nat.le_of_ble_eq_true rfl) fun F hP hN hm => ?_
  obtain ⟨P, N, w0, σ0, β0, m⟩ := F
  obtain rfl : P = Try.prog := hP
  obtain rfl : N = 28 := hN
  obtain rfl : m = 1 := hm
  have he : Env ⟨Try.prog, 28, w0, σ0, β0, 1⟩ tab := ⟨Nat.le_of_ble_eq_true rfl, tabOk⟩
  unfold m_impl_PutVar at h
  refine W_seq ?_
  refine W_regV he rfl ?_
  refine v0 (sA rfl [1] rfl) rfl ?_
  refine ve ?_
  refine W2 [0, 1] [] [] (l := [(0, .c (.row _ _ _)), (1, .c (.int _ _))]) (h := []) (h' := []) trivial rfl rfl rfl ?_
  refine W_seq ?_
  refine W_regV he rfl ?_
  refine v0 (sM rfl [] rfl) rfl ?_
  refine bndc h ?_; clear h; intro r1 hr1 h
  refine v0 (sCo (wo_slices_Clone_byte_byte K a0 _ hr1) ok_slices_Clone_byte_byte (fun _ => rfl) [] 1005 rfl rfl rfl rfl rfl) rfl ?_
  refine v0 (sA rfl [] rfl) rfl ?_
  refine ve ?_
  refine W2 [1, 5] [] [1005] (l := [(1, .c (.int _ _)), (5, .c (.own _ _ _ _))]) (h := []) (h' := [(1005, ⟨0, 1, r1.map en_u8⟩)]) ⟨⟨_, rfl, enOk_u8.allClosed _ _ r1⟩, trivial⟩ rfl rfl rfl ?_
  refine W_seq ?_
  refine W_seq ?_
  refine W_regV he rfl ?_
  refine v0 (sM rfl [] rfl) rfl ?_
  refine bndc h ?_; clear h; intro r2 hr2 h
  refine vB (sCm (w_impl_within K a1 0 1000000000 _ hr2) ok_impl_within rfl rfl rfl rfl) rfl rfl fun b3 hb3 => ?_
  cases b3 with
  | true =>
    replace h := brT hb3 h
    refine v0 (sNt rfl rfl) rfl ?_
    refine ve ?_
    refine W2 [1, 5, 10] [] [1005] (l := [(1, .c (.int _ _)), (5, .c (.own _ _ _ _)), (10, .c (.bool false))]) (h := []) (h' := [(1005, ⟨0, 1, r1.map en_u8⟩)]) ⟨⟨_, rfl, enOk_u8.allClosed _ _ r1⟩, trivial⟩ rfl rfl rfl ?_
    refine W_false rfl ?_
    refine W_skip ?_
    refine W_seq ?_
    refine W_block ?_
    refine W2 [1, 5] [] [1005] (l := [(1, .c (.int _ _)), (5, .c (.own _ _ _ _))]) (h := []) (h' := [(1005, ⟨0, 1, r1.map en_u8⟩)]) ⟨⟨_, rfl, enOk_u8.allClosed _ _ r1⟩, trivial⟩ rfl rfl rfl ?_
    refine W_loopW (fun n6 S => ∃ (v4 : Int), ∃ (v5 : List Int), S = StL [(1, .c (.int .i64 v4)), (5, .c (.own 1005 0 0 v5.length))] ([] ++ [(1005, ⟨0, 1, v5.map en_u8⟩)]) ∧ l_impl_PutVar_6 K n6 v4 v5 = some r) K ⟨_, _, rfl, h⟩ ?_
    rintro n6 S ⟨v4, v5, rfl, h⟩
    cases n6 with
    | zero => simp [l_impl_PutVar_6] at h
    | succ n6 =>
      rw [l_impl_PutVar_6] at h
      refine W_seq ?_
      refine W_seq ?_
      refine W_regV he rfl ?_
      refine v0 (sM rfl [] rfl) rfl ?_
      refine vB (sBi rfl rfl rfl rfl) rfl rfl fun b7 hb7 => ?_
      cases b7 with
      | true =>
        replace h := brT hb7 h
        refine ve ?_
        refine W2 [1, 5, 13] [] [1005] (l := [(1, .c (.int _ _)), (5, .c (.own _ _ _ _)), (13, .c (.bool true))]) (h := []) (h' := [(1005, ⟨0, 1, v5.map en_u8⟩)]) ⟨⟨_, rfl, enOk_u8.allClosed _ _ v5⟩, trivial⟩ rfl rfl rfl ?_
        refine W_true rfl ?_
        refine W_skip ?_
        refine W_block ?_
        refine W_seq ?_
        refine W_regV he rfl ?_
        refine v0 (sM rfl [] rfl) rfl ?_
        refine v0 (sM rfl [] rfl) rfl ?_
        refine v0 (sBi rfl rfl rfl rfl) rfl ?_
        refine v0 (sBi rfl rfl rfl rfl) rfl ?_
        refine v0 (sCv rfl rfl rfl rfl rfl rfl) rfl ?_
        refine v0 (sBS rfl 1019 (rows := ([(IntKind.u8.wrap (iOr .i64 (iAnd .i64 v4 127) 128))] : List Int).map en_u8) rfl rfl rfl (by kernel_rfl) rfl rfl rfl rfl) rfl ?_
        refine chkc h ?_; clear h; intro c8 h
        refine v0 (sAo rfl 1005 v5 ([(IntKind.u8.wrap (iOr .i64 (iAnd .i64 v4 127) 128))] : List Int) enOk_u8 rfl rfl rfl rfl rfl rfl rfl rfl rfl rfl rfl c8) rfl ?_
        refine v0 (sA rfl [] rfl) rfl ?_
        refine ve ?_
        refine W2 [1, 5] [] [1005] (l := [(1, .c (.int _ _)), (5, .c (.own _ _ _ _))]) (h := []) (h' := [(1005, ⟨0, 1, (v5 ++ ([(IntKind.u8.wrap (iOr .i64 (iAnd .i64 v4 127) 128))] : List Int)).map en_u8⟩)]) ⟨⟨_, rfl, enOk_u8.allClosed _ _ (v5 ++ ([(IntKind.u8.wrap (iOr .i64 (iAnd .i64 v4 127) 128))] : List Int))⟩, trivial⟩ rfl rfl rfl ?_
        refine W_regV he rfl ?_
        refine v0 (sM rfl [] rfl) rfl ?_
        refine chkc h ?_; clear h; intro c9 h
        refine v0 (sSr rfl rfl rfl c9) rfl ?_
        refine v0 (sA rfl [] rfl) rfl ?_
        refine ve ?_
        exact ⟨n6, _, Nat.lt_succ_self n6, wk2 [1, 5] [] [1005] (l := [(1, .c (.int _ _)), (5, .c (.own _ _ _ _))]) (h := []) (h' := [(1005, ⟨0, 1, (v5 ++ ([(IntKind.u8.wrap (iOr .i64 (iAnd .i64 v4 127) 128))] : List Int)).map en_u8⟩)]) ⟨⟨_, rfl, enOk_u8.allClosed _ _ (v5 ++ ([(IntKind.u8.wrap (iOr .i64 (iAnd .i64 v4 127) 128))] : List Int))⟩, trivial⟩ rfl rfl rfl, _, _, rfl, h⟩
      | false =>
        replace h := brF hb7 h
        refine ve ?_
        refine W2 [1, 5, 13] [] [1005] (l := [(1, .c (.int _ _)), (5, .c (.own _ _ _ _)), (13, .c (.bool false))]) (h := []) (h' := [(1005, ⟨0, 1, v5.map en_u8⟩)]) ⟨⟨_, rfl, enOk_u8.allClosed _ _ v5⟩, trivial⟩ rfl rfl rfl ?_
        refine W_false rfl ?_
        refine W_exit (ex_then (ex_then (ex_hit ?_)))
        refine W_seq ?_
        refine W_regV he rfl ?_
        refine v0 (sM rfl [] rfl) rfl ?_
        refine v0 (sM rfl [] rfl) rfl ?_
        refine v0 (sCv rfl rfl rfl rfl rfl rfl) rfl ?_
        refine v0 (sBS rfl 1026 (rows := ([(IntKind.u8.wrap v4)] : List Int).map en_u8) rfl rfl rfl (by kernel_rfl) rfl rfl rfl rfl) rfl ?_
        refine chkc h ?_; clear h; intro c10 h
        refine v0 (sAo rfl 1004 v5 ([(IntKind.u8.wrap v4)] : List Int) enOk_u8 rfl rfl rfl rfl rfl rfl rfl rfl rfl rfl rfl c10) rfl ?_
        refine v0 (sA rfl [] rfl) rfl ?_
        refine ve ?_
        refine W2 [4] [] [1004] (l := [(4, .c (.own _ _ _ _))]) (h := []) (h' := [(1004, ⟨0, 1, (v5 ++ ([(IntKind.u8.wrap v4)] : List Int)).map en_u8⟩)]) ⟨⟨_, rfl, enOk_u8.allClosed _ _ (v5 ++ ([(IntKind.u8.wrap v4)] : List Int))⟩, trivial⟩ rfl rfl rfl ?_
        obtain rfl := Option.some.inj h
        refine W.weak (wk_row (l := (v5 ++ ([(IntKind.u8.wrap v4)] : List Int))) 4 enOk_u8 rfl rfl) ?_
        exact W_ret (r0 rfl rfl)
  | false =>
    replace h := brF hb3 h
    refine v0 (sNt rfl rfl) rfl ?_
    refine ve ?_
    refine W2 [1, 5, 10] [] [1005] (l := [(1, .c (.int _ _)), (5, .c (.own _ _ _ _)), (10, .c (.bool true))]) (h := []) (h' := [(1005, ⟨0, 1, r1.map en_u8⟩)]) ⟨⟨_, rfl, enOk_u8.allClosed _ _ r1⟩, trivial⟩ rfl rfl rfl ?_
    refine W_true rfl ?_
    refine W_seq ?_
    refine W_regV he rfl ?_
    refine v0 (sM rfl [] rfl) rfl ?_
    refine v0 (sA rfl [] rfl) rfl ?_
    refine ve ?_
    refine W2 [4] [] [1005] (l := [(4, .c (.own _ _ _ _))]) (h := []) (h' := [(1005, ⟨0, 1, r1.map en_u8⟩)]) ⟨⟨_, rfl, enOk_u8.allClosed _ _ r1⟩, trivial⟩ rfl rfl rfl ?_
    obtain rfl := Option.some.inj h
    refine W.weak (wk_row (l := r1) 4 enOk_u8 rfl rfl) ?_
    exact W_ret (r0 rfl rfl)
theorem ok_impl_PutVar : FnOk Try.prog 25 := ⟨_, Try.func25, rfl, rfl⟩


/-! ### loop.example/g00499/impl.PutVar -/
set_option maxRecDepth 20000 in
set_option maxHeartbeats 8000000 in
theorem wo_impl_PutVar (K : Nat) (a0 : List Int) (a1 : Int) (r : (List Int)) (h : m_impl_PutVar K a0 a1 = some r) : Sp Try.prog 25 [.c (.row false 1 (a0.map en_u8)), .c (.int .i64 a1)] [] (.c (.own 1 0 0 r.length)) [⟨0, 1, r.map en_u8⟩] := by
  refine Sp.of_W tabOk Try.func25 rfl rfl (Nat.le_of_ble_eq_true rfl) (Nat.le_of_ble_eq_true rfl) fun F hP hN hm => ?_
  obtain ⟨P, N, w0, σ0, β0, m⟩ := F
  obtain rfl : P = Try.prog := hP
  obtain rfl : N = 28 := hN
  obtain rfl : m = 1 := hm
  have he : Env ⟨Try.prog, 28, w0, σ0, β0, 1⟩ tab := ⟨Nat.le_of_ble_eq_true rfl, tabOk⟩
  unfold m_impl_PutVar at h
  refine W_seq ?_
  refine W_regV he rfl ?_
  refine v0 (sA rfl [1] rfl) rfl ?_
  refine ve ?_
  refine W2 [0, 1] [] [] (l := [(0, .c (.row _ _ _)), (1, .c (.int _ _))]) (h := []) (h' := []) trivial rfl rfl rfl ?_
  refine W_seq ?_
  refine W_regV he rfl ?_
  refine v0 (sM rfl [] rfl) rfl ?_
  refine bndc h ?_; clear h; intro r1 hr1 h
  refine v0 (sCo (wo_slices_Clone_byte_byte K a0 _ hr1) ok_slices_Clone_byte_byte (fun _ => rfl) [] 1005 rfl rfl rfl rfl rfl) rfl ?_
  refine v0 (sA rfl [] rfl) rfl ?_
  refine ve ?_
  refine W2 [1, 5] [] [1005] (l := [(1, .c (.int _ _)), (5, .c (.own _ _ _ _))]) (h := []) (h' := [(1005, ⟨0, 1, r1.map en_u8⟩)]) ⟨⟨_, rfl, enOk_u8.allClosed _ _ r1⟩, trivial⟩ rfl rfl rfl ?_
  refine W_seq ?_
  refine W_seq ?_
  refine W_regV he rfl ?_
  refine v0 (sM rfl [] rfl) rfl ?_
  refine bndc h ?_; clear h; intro r2 hr2 h
  refine vB (sCm (w_impl_within K a1 0 1000000000 _ hr2) ok_impl_within rfl rfl rfl rfl) rfl rfl fun b3 hb3 => ?_
  cases b3 with
  | true =>
    replace h := brT hb3 h
    refine v0 (sNt rfl rfl) rfl ?_
    refine ve ?_
    refine W2 [1, 5, 10] [] [1005] (l := [(1, .c (.int _ _)), (5, .c (.own _ _ _ _)), (10, .c (.bool false))]) (h := []) (h' := [(1005, ⟨0, 1, r1.map en_u8⟩)]) ⟨⟨_, rfl, enOk_u8.allClosed _ _ r1⟩, trivial⟩ rfl rfl rfl ?_
    refine W_false rfl ?_
    refine W_skip ?_
    refine W_seq ?_
    refine W_block ?_
    refine W2 [1, 5] [] [1005] (l := [(1, .c (.int _ _)), (5, .c (.own _ _ _ _))]) (h := []) (h' := [(1005, ⟨0, 1, r1.map en_u8⟩)]) ⟨⟨_, rfl, enOk_u8.allClosed _ _ r1⟩, trivial⟩ rfl rfl rfl ?_
    refine W_loopW (fun n6 S => ∃ (v4 : Int), ∃ (v5 : List Int), S = StL [(1, .c (.int .i64 v4)), (5, .c (.own 1005 0 0 v5.length))] ([] ++ [(1005, ⟨0, 1, v5.map en_u8⟩)]) ∧ l_impl_PutVar_6 K n6 v4 v5 = some r) K ⟨_, _, rfl, h⟩ ?_
    rintro n6 S ⟨v4, v5, rfl, h⟩
    cases n6 with
    | zero => simp [l_impl_PutVar_6] at h
    | succ n6 =>
      rw [l_impl_PutVar_6] at h
      refine W_seq ?_
      refine W_seq ?_
      refine W_regV he rfl ?_
      refine v0 (sM rfl [] rfl) rfl ?_
      refine vB (sBi rfl rfl rfl rfl) rfl rfl fun b7 hb7 => ?_
      cases b7 with
      | true =>
        replace h := brT hb7 h
        refine ve ?_
        refine W2 [1, 5, 13] [] [1005] (l := [(1, .c (.int _ _)), (5, .c (.own _ _ _ _)), (13, .c (.bool true))]) (h := []) (h' := [(1005, ⟨0, 1, v5.map en_u8⟩)]) ⟨⟨_, rfl, enOk_u8.allClosed _ _ v5⟩, trivial⟩ rfl rfl rfl ?_
        refine W_true rfl ?_
        refine W_skip ?_
        refine W_block ?_
        refine W_seq ?_
        refine W_regV he rfl ?_
        refine v0 (sM rfl [] rfl) rfl ?_
        refine v0 (sM rfl [] rfl) rfl ?_
        refine v0 (sBi rfl rfl rfl rfl) rfl ?_
        refine v0 (sBi rfl rfl rfl rfl) rfl ?_
        refine v0 (sCv rfl rfl rfl rfl rfl rfl) rfl ?_
        refine v0 (sBS rfl 1019 (rows := ([(IntKind.u8.wrap (iOr .i64 (iAnd .i64 v4 127) 128))] : List Int).map en_u8) rfl rfl rfl (by kernel_rfl) rfl rfl rfl rfl) rfl ?_
        refine chkc h ?_; clear h; intro c8 h
        refine v0 (sAo rfl 1005 v5 ([(IntKind.u8.wrap (iOr .i64 (iAnd .i64 v4 127) 128))] : List Int) enOk_u8 rfl rfl rfl rfl rfl rfl rfl rfl rfl rfl rfl c8) rfl ?_
        refine v0 (sA rfl [] rfl) rfl ?_
        refine ve ?_
        refine W2 [1, 5] [] [1005] (l := [(1, .c (.int _ _)), (5, .c (.own _ _ _ _))]) (h := []) (h' := [(1005, ⟨0, 1, (v5 ++ ([(IntKind.u8.wrap (iOr .i64 (iAnd .i64 v4 127) 128))] : List Int)).map en_u8⟩)]) ⟨⟨_, rfl, enOk_u8.allClosed _ _ (v5 ++ ([(IntKind.u8.wrap (iOr .i64 (iAnd .i64 v4 127) 128))] : List Int))⟩, trivial⟩ rfl rfl rfl ?_
        refine W_regV he rfl ?_
        refine v0 (sM rfl [] rfl) rfl ?_
        refine chkc h ?_; clear h; intro c9 h
        refine v0 (sSr rfl rfl rfl c9) rfl ?_
        refine v0 (sA rfl [] rfl) rfl ?_
        refine ve ?_
        exact ⟨n6, _, Nat.lt_succ_self n6, wk2 [1, 5] [] [1005] (l := [(1, .c (.int _ _)), (5, .c (.own _ _ _ _))]) (h := []) (h' := [(1005, ⟨0, 1, (v5 ++ ([(IntKind.u8.wrap (iOr .i64 (iAnd .i64 v4 127) 128))] : List Int)).map en_u8⟩)]) ⟨⟨_, rfl, enOk_u8.allClosed _ _ (v5 ++ ([(IntKind.u8.wrap (iOr .i64 (iAnd .i64 v4 127) 128))] : List Int))⟩, trivial⟩ rfl rfl rfl, _, _, rfl, h⟩
      | false =>
        replace h := brF hb7 h
        refine ve ?_
        refine W2 [1, 5, 13] [] [1005] (l := [(1, .c (.int _ _)), (5, .c (.own _ _ _ _)), (13, .c (.bool false))]) (h := []) (h' := [(1005, ⟨0, 1, v5.map en_u8⟩)]) ⟨⟨_, rfl, enOk_u8.allClosed _ _ v5⟩, trivial⟩ rfl rfl rfl ?_
        refine W_false rfl ?_
        refine W_exit (ex_then (ex_then (ex_hit ?_)))
        refine W_seq ?_
        refine W_regV he rfl ?_
        refine v0 (sM rfl [] rfl) rfl ?_
        refine v0 (sM rfl [] rfl) rfl ?_
        refine v0 (sCv rfl rfl rfl rfl rfl rfl) rfl ?_
        refine v0 (sBS rfl 1026 (rows := ([(IntKind.u8.wrap v4)] : List Int).map en_u8) rfl rfl rfl (by kernel_rfl) rfl rfl rfl rfl) rfl ?_
        refine chkc h ?_; clear h; intro c10 h
        refine v0 (sAo rfl 1004 v5 ([(IntKind.u8.wrap v4)] : List Int) enOk_u8 rfl rfl rfl rfl rfl rfl rfl rfl rfl rfl rfl c10) rfl ?_
        refine v0 (sA rfl [] rfl) rfl ?_
        refine ve ?_
        refine W2 [4] [] [1004] (l := [(4, .c (.own _ _ _ _))]) (h := []) (h' := [(1004, ⟨0, 1, (v5 ++ ([(IntKind.u8.wrap v4)] : List Int)).map en_u8⟩)]) ⟨⟨_, rfl, enOk_u8.allClosed _ _ (v5 ++ ([(IntKind.u8.wrap v4)] : List Int))⟩, trivial⟩ rfl rfl rfl ?_
        obtain rfl := Option.some.inj h
        exact W_ret (retOne 0 1004 (.inl rfl) enOk_u8 rfl rfl rfl)
  | false =>
    replace h := brF hb3 h
    refine v0 (sNt rfl rfl) rfl ?_
    refine ve ?_
    refine W2 [1, 5, 10] [] [1005] (l := [(1, .c (.int _ _)), (5, .c (.own _ _ _ _)), (10, .c (.bool true))]) (h := []) (h' := [(1005, ⟨0, 1, r1.map en_u8⟩)]) ⟨⟨_, rfl, enOk_u8.allClosed _ _ r1⟩, trivial⟩ rfl rfl rfl ?_
    refine W_true rfl ?_
    refine W_seq ?_
    refine W_regV he rfl ?_
    refine v0 (sM rfl [] rfl) rfl ?_
    refine v0 (sA rfl [] rfl) rfl ?_
    refine ve ?_
    refine W2 [4] [] [1005] (l := [(4, .c (.own _ _ _ _))]) (h := []) (h' := [(1005, ⟨0, 1, r1.map en_u8⟩)]) ⟨⟨_, rfl, enOk_u8.allClosed _ _ r1⟩, trivial⟩ rfl rfl rfl ?_
    obtain rfl := Option.some.inj h
    exact W_ret (retOne 0 1005 (.inl rfl) enOk_u8 rfl rfl rfl)


/-! ### loop.example/g00499/impl.PutOp -/
def l_impl_PutOp_5 (K : Nat) (a0 : T_impl_Op) : Nat → (List Int) → Int → Option ((List Int))
  | 0, _, _ => none
  | n5 + 1, v3, v4 => (bif (decide (v4 < (([a0.fKind, a0.fH.fSlot, a0.fH.fGen, a0.fR.fH.fSlot, a0.fR.fH.fGen, a0.fR.fEp, a0.fR.fNo, a0.fN, a0.fM, (a0.fB.length : Int)] : List Int).length : Int))) then (if (0 : Int) ≤ v4 ∧ v4 < (([a0.fKind, a0.fH.fSlot, a0.fH.fGen, a0.fR.fH.fSlot, a0.fR.fH.fGen, a0.fR.fEp, a0.fR.fNo, a0.fN, a0.fM, (a0.fB.length : Int)] : List Int).length : Int) then ((m_impl_PutVar K v3 (gt ([a0.fKind, a0.fH.fSlot, a0.fH.fGen, a0.fR.fH.fSlot, a0.fR.fH.fGen, a0.fR.fEp, a0.fR.fNo, a0.fN, a0.fM, (a0.fB.length : Int)] : List Int) v4)).bind fun r8 => (l_impl_PutOp_5 K a0 n5 r8 (iAdd .i64 v4 1))) else none) else (if (v3 ++ a0.fB).length * 1 ≤ 140737488355328 ∧ (v3 ++ a0.fB).length ≤ maxLen then some (v3 ++ a0.fB) else none))
def m_impl_PutOp (K : Nat) (a0 : T_impl_Op) : Option ((List Int)) := ((m_impl_OpOk K a0).bind fun r1 => (bif r1 then (l_impl_PutOp_5 K a0 K ([] : List Int) 0) else some ([] : List Int)))
set_option maxRecDepth 20000 in
set_option maxHeartbeats 8000000 in
theorem w_impl_PutOp (K : Nat) (a0 : T_impl_Op) (r : (List Int)) (h : m_impl_PutOp K a0 = some r) : Sp Try.prog 47 [.g [.int .i64 a0.fKind, .int .i64 a0.fH.fSlot, .int .i64 a0.fH.fGen, .int .i64 a0.fR.fH.fSlot, .int .i64 a0.fR.fH.fGen, .int .i64 a0.fR.fEp, .int .i64 a0.fR.fNo, .int .i64 a0.fN, .int .i64 a0.fM, .row false 1 (a0.fB.map en_u8)]] [] (.c (.row false 1 (r.map en_u8))) [] := by
  refine Sp.of_W tabOk Try.func47 rfl rfl (Nat.le_of_ble_eq_true rfl) (Nat.le_of_ble_eq_true rfl) fun F hP hN hm => ?_
  obtain ⟨P, N, w0, σ0, β0, m⟩ := F
  obtain rfl : P = Try.prog := hP
  obtain rfl : N = 54 := hN
  obtain rfl : m = 1 := hm
  have he : Env ⟨Try.prog, 54, w0, σ0, β0, 1⟩ tab := ⟨Nat.le_of_ble_eq_true rfl, tabOk⟩
  unfold m_impl_PutOp at h
  refine W_seq ?_
  refine W_regV he rfl ?_
  refine v0 (sBx rfl [] rfl rfl 101 rfl) rfl ?_
  refine v0 (sA rfl [1] rfl) rfl ?_
  refine ve ?_
  refine W2 [1] [101] [] (l := [(1, .c (.ptr _ _ _ _))]) (h := [(101, ⟨0, 10, [[.int _ _, .int _ _, .int _ _, .int _ _, .int _ _, .int _ _, .int _ _, .int _ _, .int _ _, .row _ _ _]]⟩)]) (h' := []) trivial rfl rfl rfl ?_
  refine W_seq ?_
  refine W_regV he rfl ?_
  refine v0 (sBS rfl 1003 (rows := ([] : List Int).map en_u8) rfl rfl rfl (by kernel_rfl) rfl rfl rfl rfl) rfl ?_
  refine v0 (sA rfl [] rfl) rfl ?_
  refine ve ?_
  refine W2 [1, 3] [101] [1003] (l := [(1, .c (.ptr _ _ _ _)), (3, .c (.own _ _ _ _))]) (h := [(101, ⟨0, 10, [[.int _ _, .int _ _, .int _ _, .int _ _, .int _ _, .int _ _, .int _ _, .int _ _, .int _ _, .row _ _ _]]⟩)]) (h' := [(1003, ⟨0, 1, ([] : List Int).map en_u8⟩)]) ⟨⟨_, rfl, enOk_u8.allClosed _ _ ([] : List Int)⟩, trivial⟩ rfl rfl rfl ?_
  refine W_seq ?_
  refine W_seq ?_
  refine W_regV he rfl ?_
  refine v0 (sLd rfl rfl) rfl ?_
  refine bndc h ?_; clear h; intro r1 hr1 h
  refine vB (sCm (w_impl_OpOk K a0 _ hr1) ok_impl_OpOk rfl rfl rfl rfl) rfl rfl fun b2 hb2 => ?_
  cases b2 with
  | true =>
    replace h := brT hb2 h
    refine v0 (sNt rfl rfl) rfl ?_
    refine ve ?_
    refine W2 [1, 3, 9] [101] [1003] (l := [(1, .c (.ptr _ _ _ _)), (3, .c (.own _ _ _ _)), (9, .c (.bool false))]) (h := [(101, ⟨0, 10, [[.int _ _, .int _ _, .int _ _, .int _ _, .int _ _, .int _ _, .int _ _, .int _ _, .int _ _, .row _ _ _]]⟩)]) (h' := [(1003, ⟨0, 1, ([] : List Int).map en_u8⟩)]) ⟨⟨_, rfl, enOk_u8.allClosed _ _ ([] : List Int)⟩, trivial⟩ rfl rfl rfl ?_
    refine W_false rfl ?_
    refine W_skip ?_
    refine W_seq ?_
    refine W_seq ?_
    refine W_regV he rfl ?_
    refine v0 (sFP rfl rfl rfl) rfl ?_
    refine v0 (sLd rfl rfl) rfl ?_
    refine v0 (sFP rfl rfl rfl) rfl ?_
    refine v0 (sFP rfl rfl rfl) rfl ?_
    refine v0 (sLd rfl rfl) rfl ?_
    refine v0 (sFP rfl rfl rfl) rfl ?_
    refine v0 (sFP rfl rfl rfl) rfl ?_
    refine v0 (sLd rfl rfl) rfl ?_
    refine v0 (sFP rfl rfl rfl) rfl ?_
    refine v0 (sFP rfl rfl rfl) rfl ?_
    refine v0 (sFP rfl rfl rfl) rfl ?_
    refine v0 (sLd rfl rfl) rfl ?_
    refine v0 (sFP rfl rfl rfl) rfl ?_
    refine v0 (sFP rfl rfl rfl) rfl ?_
    refine v0 (sFP rfl rfl rfl) rfl ?_
    refine v0 (sLd rfl rfl) rfl ?_
    refine v0 (sFP rfl rfl rfl) rfl ?_
    refine v0 (sFP rfl rfl rfl) rfl ?_
    refine v0 (sLd rfl rfl) rfl ?_
    refine v0 (sFP rfl rfl rfl) rfl ?_
    refine v0 (sFP rfl rfl rfl) rfl ?_
    refine v0 (sLd rfl rfl) rfl ?_
    refine v0 (sFP rfl rfl rfl) rfl ?_
    refine v0 (sLd rfl rfl) rfl ?_
    refine v0 (sFP rfl rfl rfl) rfl ?_
    refine v0 (sLd rfl rfl) rfl ?_
    refine v0 (sFP rfl rfl rfl) rfl ?_
    refine v0 (sLd rfl rfl) rfl ?_
    refine v0 (sLm rfl rfl rfl rfl) rfl ?_
    refine v0 (sBS rfl 1040 (rows := ([a0.fKind, a0.fH.fSlot, a0.fH.fGen, a0.fR.fH.fSlot, a0.fR.fH.fGen, a0.fR.fEp, a0.fR.fNo, a0.fN, a0.fM, (a0.fB.length : Int)] : List Int).map en_i64) rfl rfl rfl (by kernel_rfl) rfl rfl rfl rfl) rfl ?_
    refine v0 (sLo rfl rfl rfl rfl) rfl ?_
    refine v0 (sM rfl [] rfl) rfl ?_
    refine ve ?_
    refine W2 [1, 3, 40, 41, 42] [101] [1003, 1040] (l := [(1, .c (.ptr _ _ _ _)), (3, .c (.own _ _ _ _)), (40, .c (.own _ _ _ _)), (41, .c (.int _ _)), (42, .c (.int _ _))]) (h := [(101, ⟨0, 10, [[.int _ _, .int _ _, .int _ _, .int _ _, .int _ _, .int _ _, .int _ _, .int _ _, .int _ _, .row _ _ _]]⟩)]) (h' := [(1003, ⟨0, 1, ([] : List Int).map en_u8⟩), (1040, ⟨0, 1, ([a0.fKind, a0.fH.fSlot, a0.fH.fGen, a0.fR.fH.fSlot, a0.fR.fH.fGen, a0.fR.fEp, a0.fR.fNo, a0.fN, a0.fM, (a0.fB.length : Int)] : List Int).map en_i64⟩)]) ⟨⟨_, rfl, enOk_u8.allClosed _ _ ([] : List Int)⟩, ⟨⟨_, rfl, enOk_i64.allClosed _ _ ([a0.fKind, a0.fH.fSlot, a0.fH.fGen, a0.fR.fH.fSlot, a0.fR.fH.fGen, a0.fR.fEp, a0.fR.fNo, a0.fN, a0.fM, (a0.fB.length : Int)] : List Int)⟩, trivial⟩⟩ rfl rfl rfl ?_
    refine W_block ?_
    refine W2 [1, 3, 40, 41, 42] [101] [1003, 1040] (l := [(1, .c (.ptr _ _ _ _)), (3, .c (.own _ _ _ _)), (40, .c (.own _ _ _ _)), (41, .c (.int _ _)), (42, .c (.int _ _))]) (h := [(101, ⟨0, 10, [[.int _ _, .int _ _, .int _ _, .int _ _, .int _ _, .int _ _, .int _ _, .int _ _, .int _ _, .row _ _ _]]⟩)]) (h' := [(1003, ⟨0, 1, ([] : List Int).map en_u8⟩), (1040, ⟨0, 1, ([a0.fKind, a0.fH.fSlot, a0.fH.fGen, a0.fR.fH.fSlot, a0.fR.fH.fGen, a0.fR.fEp, a0.fR.fNo, a0.fN, a0.fM, (a0.fB.length : Int)] : List Int).map en_i64⟩)]) ⟨⟨_, rfl, enOk_u8.allClosed _ _ ([] : List Int)⟩, ⟨⟨_, rfl, enOk_i64.allClosed _ _ ([a0.fKind, a0.fH.fSlot, a0.fH.fGen, a0.fR.fH.fSlot, a0.fR.fH.fGen, a0.fR.fEp, a0.fR.fNo, a0.fN, a0.fM, (a0.fB.length : Int)] : List Int)⟩, trivial⟩⟩ rfl rfl rfl ?_
    refine W_loopW (fun n5 S => ∃ (v3 : List Int), ∃ (v4 : Int), S = StL [(1, .c (.ptr 101 0 0 0)), (3, .c (.own 1003 0 0 v3.length)), (40, .c (.own 1040 0 0 ([a0.fKind, a0.fH.fSlot, a0.fH.fGen, a0.fR.fH.fSlot, a0.fR.fH.fGen, a0.fR.fEp, a0.fR.fNo, a0.fN, a0.fM, (a0.fB.length : Int)] : List Int).length)), (41, .c (.int .i64 (([a0.fKind, a0.fH.fSlot, a0.fH.fGen, a0.fR.fH.fSlot, a0.fR.fH.fGen, a0.fR.fEp, a0.fR.fNo, a0.fN, a0.fM, (a0.fB.length : Int)] : List Int).length : Int))), (42, .c (.int .i64 v4))] ([(101, ⟨0, 10, [[.int .i64 a0.fKind, .int .i64 a0.fH.fSlot, .int .i64 a0.fH.fGen, .int .i64 a0.fR.fH.fSlot, .int .i64 a0.fR.fH.fGen, .int .i64 a0.fR.fEp, .int .i64 a0.fR.fNo, .int .i64 a0.fN, .int .i64 a0.fM, .row false 1 (a0.fB.map en_u8)]]⟩)] ++ [(1003, ⟨0, 1, v3.map en_u8⟩), (1040, ⟨0, 1, ([a0.fKind, a0.fH.fSlot, a0.fH.fGen, a0.fR.fH.fSlot, a0.fR.fH.fGen, a0.fR.fEp, a0.fR.fNo, a0.fN, a0.fM, (a0.fB.length : Int)] : List Int).map en_i64⟩)]) ∧ l_impl_PutOp_5 K a0 n5 v3 v4 = some r) K ⟨_, _, rfl, h⟩ ?_
    rintro n5 S ⟨v3, v4, rfl, h⟩
    cases n5 with
    | zero => simp [l_impl_PutOp_5] at h
    | succ n5 =>
      rw [l_impl_PutOp_5] at h
      refine W_seq ?_
      refine W_regV he rfl ?_
      refine vB (sBi rfl rfl rfl rfl) rfl rfl fun b6 hb6 => ?_
      cases b6 with
      | true =>
        replace h := brT hb6 h
        refine ve ?_
        refine W2 [1, 3, 40, 41, 42, 43] [101] [1003, 1040] (l := [(1, .c (.ptr _ _ _ _)), (3, .c (.own _ _ _ _)), (40, .c (.own _ _ _ _)), (41, .c (.int _ _)), (42, .c (.int _ _)), (43, .c (.bool true))]) (h := [(101, ⟨0, 10, [[.int _ _, .int _ _, .int _ _, .int _ _, .int _ _, .int _ _, .int _ _, .int _ _, .int _ _, .row _ _ _]]⟩)]) (h' := [(1003, ⟨0, 1, v3.map en_u8⟩), (1040, ⟨0, 1, ([a0.fKind, a0.fH.fSlot, a0.fH.fGen, a0.fR.fH.fSlot, a0.fR.fH.fGen, a0.fR.fEp, a0.fR.fNo, a0.fN, a0.fM, (a0.fB.length : Int)] : List Int).map en_i64⟩)]) ⟨⟨_, rfl, enOk_u8.allClosed _ _ v3⟩, ⟨⟨_, rfl, enOk_i64.allClosed _ _ ([a0.fKind, a0.fH.fSlot, a0.fH.fGen, a0.fR.fH.fSlot, a0.fR.fH.fGen, a0.fR.fEp, a0.fR.fNo, a0.fN, a0.fM, (a0.fB.length : Int)] : List Int)⟩, trivial⟩⟩ rfl rfl rfl ?_
        refine W_seq ?_
        refine W_true rfl ?_
        refine W_skip ?_
        refine W_seq ?_
        refine W_block ?_
        refine W_seq ?_
        refine W_regV he rfl ?_
        refine chkc h ?_; clear h; intro c7 h
        refine v0 (sIOm rfl rfl rfl c7) rfl ?_
        refine v0 (sLkm rfl ([a0.fKind, a0.fH.fSlot, a0.fH.fGen, a0.fR.fH.fSlot, a0.fR.fH.fGen, a0.fR.fEp, a0.fR.fNo, a0.fN, a0.fM, (a0.fB.length : Int)] : List Int) c7 rfl rfl rfl rfl rfl rfl) rfl ?_
        refine v0 (sA rfl [] rfl) rfl ?_
        refine ve ?_
        refine W2 [1, 3, 5, 40, 41, 42] [101] [1003, 1040] (l := [(1, .c (.ptr _ _ _ _)), (3, .c (.own _ _ _ _)), (5, .c (.int _ _)), (40, .c (.own _ _ _ _)), (41, .c (.int _ _)), (42, .c (.int _ _))]) (h := [(101, ⟨0, 10, [[.int _ _, .int _ _, .int _ _, .int _ _, .int _ _, .int _ _, .int _ _, .int _ _, .int _ _, .row _ _ _]]⟩)]) (h' := [(1003, ⟨0, 1, v3.map en_u8⟩), (1040, ⟨0, 1, ([a0.fKind, a0.fH.fSlot, a0.fH.fGen, a0.fR.fH.fSlot, a0.fR.fH.fGen, a0.fR.fEp, a0.fR.fNo, a0.fN, a0.fM, (a0.fB.length : Int)] : List Int).map en_i64⟩)]) ⟨⟨_, rfl, enOk_u8.allClosed _ _ v3⟩, ⟨⟨_, rfl, enOk_i64.allClosed _ _ ([a0.fKind, a0.fH.fSlot, a0.fH.fGen, a0.fR.fH.fSlot, a0.fR.fH.fGen, a0.fR.fEp, a0.fR.fNo, a0.fN, a0.fM, (a0.fB.length : Int)] : List Int)⟩, trivial⟩⟩ rfl rfl rfl ?_
        refine W_regV he rfl ?_
        refine v0 (sM rfl [] rfl) rfl ?_
        refine v0 (sM rfl [] rfl) rfl ?_
        refine bndc h ?_; clear h; intro r8 hr8 h
        refine v0 (sCo (wo_impl_PutVar K v3 (gt ([a0.fKind, a0.fH.fSlot, a0.fH.fGen, a0.fR.fH.fSlot, a0.fR.fH.fGen, a0.fR.fEp, a0.fR.fNo, a0.fN, a0.fM, (a0.fB.length : Int)] : List Int) v4) _ hr8) ok_impl_PutVar (fun _ => rfl) [1003] 1003 rfl rfl rfl (low_cons (low_lent (l := v3) enOk_u8 rfl rfl rfl) (low_cons (rfl) (low_nil))) rfl) rfl ?_
        refine v0 (sA rfl [] rfl) rfl ?_
        refine ve ?_
        refine W2 [1, 3, 40, 41, 42] [101] [1003, 1040] (l := [(1, .c (.ptr _ _ _ _)), (3, .c (.own _ _ _ _)), (40, .c (.own _ _ _ _)), (41, .c (.int _ _)), (42, .c (.int _ _))]) (h := [(101, ⟨0, 10, [[.int _ _, .int _ _, .int _ _, .int _ _, .int _ _, .int _ _, .int _ _, .int _ _, .int _ _, .row _ _ _]]⟩)]) (h' := [(1003, ⟨0, 1, r8.map en_u8⟩), (1040, ⟨0, 1, ([a0.fKind, a0.fH.fSlot, a0.fH.fGen, a0.fR.fH.fSlot, a0.fR.fH.fGen, a0.fR.fEp, a0.fR.fNo, a0.fN, a0.fM, (a0.fB.length : Int)] : List Int).map en_i64⟩)]) ⟨⟨_, rfl, enOk_u8.allClosed _ _ r8⟩, ⟨⟨_, rfl, enOk_i64.allClosed _ _ ([a0.fKind, a0.fH.fSlot, a0.fH.fGen, a0.fR.fH.fSlot, a0.fR.fH.fGen, a0.fR.fEp, a0.fR.fNo, a0.fN, a0.fM, (a0.fB.length : Int)] : List Int)⟩, trivial⟩⟩ rfl rfl rfl ?_
        refine W_regV he rfl ?_
        refine v0 (sBi rfl rfl rfl rfl) rfl ?_
        refine v0 (sM rfl [] rfl) rfl ?_
        refine ve ?_
        exact ⟨n5, _, Nat.lt_succ_self n5, wk2 [1, 3, 40, 41, 42] [101] [1003, 1040] (l := [(1, .c (.ptr _ _ _ _)), (3, .c (.own _ _ _ _)), (40, .c (.own _ _ _ _)), (41, .c (.int _ _)), (42, .c (.int _ _))]) (h := [(101, ⟨0, 10, [[.int _ _, .int _ _, .int _ _, .int _ _, .int _ _, .int _ _, .int _ _, .int _ _, .int _ _, .row _ _ _]]⟩)]) (h' := [(1003, ⟨0, 1, r8.map en_u8⟩), (1040, ⟨0, 1, ([a0.fKind, a0.fH.fSlot, a0.fH.fGen, a0.fR.fH.fSlot, a0.fR.fH.fGen, a0.fR.fEp, a0.fR.fNo, a0.fN, a0.fM, (a0.fB.length : Int)] : List Int).map en_i64⟩)]) ⟨⟨_, rfl, enOk_u8.allClosed _ _ r8⟩, ⟨⟨_, rfl, enOk_i64.allClosed _ _ ([a0.fKind, a0.fH.fSlot, a0.fH.fGen, a0.fR.fH.fSlot, a0.fR.fH.fGen, a0.fR.fEp, a0.fR.fNo, a0.fN, a0.fM, (a0.fB.length : Int)] : List Int)⟩, trivial⟩⟩ rfl rfl rfl, _, _, rfl, h⟩
      | false =>
        replace h := brF hb6 h
        refine ve ?_
        refine W2 [1, 3, 40, 41, 42, 43] [101] [1003, 1040] (l := [(1, .c (.ptr _ _ _ _)), (3, .c (.own _ _ _ _)), (40, .c (.own _ _ _ _)), (41, .c (.int _ _)), (42, .c (.int _ _)), (43, .c (.bool false))]) (h := [(101, ⟨0, 10, [[.int _ _, .int _ _, .int _ _, .int _ _, .int _ _, .int _ _, .int _ _, .int _ _, .int _ _, .row _ _ _]]⟩)]) (h' := [(1003, ⟨0, 1, v3.map en_u8⟩), (1040, ⟨0, 1, ([a0.fKind, a0.fH.fSlot, a0.fH.fGen, a0.fR.fH.fSlot, a0.fR.fH.fGen, a0.fR.fEp, a0.fR.fNo, a0.fN, a0.fM, (a0.fB.length : Int)] : List Int).map en_i64⟩)]) ⟨⟨_, rfl, enOk_u8.allClosed _ _ v3⟩, ⟨⟨_, rfl, enOk_i64.allClosed _ _ ([a0.fKind, a0.fH.fSlot, a0.fH.fGen, a0.fR.fH.fSlot, a0.fR.fH.fGen, a0.fR.fEp, a0.fR.fNo, a0.fN, a0.fM, (a0.fB.length : Int)] : List Int)⟩, trivial⟩⟩ rfl rfl rfl ?_
        refine W_seq ?_
        refine W_false rfl ?_
        refine W_exit (ex_then (ex_then (ex_hit ?_)))
        refine W_seq ?_
        refine W_regV he rfl ?_
        refine v0 (sM rfl [] rfl) rfl ?_
        refine v0 (sFP rfl rfl rfl) rfl ?_
        refine v0 (sLd rfl rfl) rfl ?_
        refine chkc h ?_; clear h; intro c9 h
        refine v0 (sAo rfl 1002 v3 a0.fB enOk_u8 rfl rfl rfl rfl rfl rfl rfl rfl rfl rfl rfl c9) rfl ?_
        refine v0 (sA rfl [] rfl) rfl ?_
        refine ve ?_
        refine W2 [2] [] [1002] (l := [(2, .c (.own _ _ _ _))]) (h := []) (h' := [(1002, ⟨0, 1, (v3 ++ a0.fB).map en_u8⟩)]) ⟨⟨_, rfl, enOk_u8.allClosed _ _ (v3 ++ a0.fB)⟩, trivial⟩ rfl rfl rfl ?_
        obtain rfl := Option.some.inj h
        refine W.weak (wk_row (l := (v3 ++ a0.fB)) 2 enOk_u8 rfl rfl) ?_
        exact W_ret (r0 rfl rfl)
  | false =>
    replace h := brF hb2 h
    refine v0 (sNt rfl rfl) rfl ?_
    refine ve ?_
    refine W2 [1, 3, 9] [101] [1003] (l := [(1, .c (.ptr _ _ _ _)), (3, .c (.own _ _ _ _)), (9, .c (.bool true))]) (h := [(101, ⟨0, 10, [[.int _ _, .int _ _, .int _ _, .int _ _, .int _ _, .int _ _, .int _ _, .int _ _, .int _ _, .row _ _ _]]⟩)]) (h' := [(1003, ⟨0, 1, ([] : List Int).map en_u8⟩)]) ⟨⟨_, rfl, enOk_u8.allClosed _ _ ([] : List Int)⟩, trivial⟩ rfl rfl rfl ?_
    refine W_true rfl ?_
    refine W_seq ?_
    refine W_regV he rfl ?_
    refine v0 (sM rfl [] rfl) rfl ?_
    refine v0 (sA rfl [] rfl) rfl ?_
    refine ve ?_
    refine W2 [2] [] [1003] (l := [(2, .c (.own _ _ _ _))]) (h := []) (h' := [(1003, ⟨0, 1, ([] : List Int).map en_u8⟩)]) ⟨⟨_, rfl, enOk_u8.allClosed _ _ ([] : List Int)⟩, trivial⟩ rfl rfl rfl ?_
    obtain rfl := Option.some.inj h
    refine W.weak (wk_row (l := ([] : List Int)) 2 enOk_u8 rfl rfl) ?_
    exact W_ret (r0 rfl rfl)
theorem ok_impl_PutOp : FnOk Try.prog 47 := ⟨_, Try.func47, rfl, rfl⟩


/-! ### loop.example/g00499/impl.PutOp -/
set_option maxRecDepth 20000 in
set_option maxHeartbeats 8000000 in
theorem wo_impl_PutOp (K : Nat) (a0 : T_impl_Op) (r : (List Int)) (h : m_impl_PutOp K a0 = some r) : Sp Try.prog 47 [.g [.int .i64 a0.fKind, .int .i64 a0.fH.fSlot, .int .i64 a0.fH.fGen, .int .i64 a0.fR.fH.fSlot, .int .i64 a0.fR.fH.fGen, .int .i64 a0.fR.fEp, .int .i64 a0.fR.fNo, .int .i64 a0.fN, .int .i64 a0.fM, .row false 1 (a0.fB.map en_u8)]] [] (.c (.own 1 0 0 r.length)) [⟨0, 1, r.map en_u8⟩] := by
  refine Sp.of_W tabOk Try.func47 rfl rfl (Nat.le_of_ble_eq_true rfl) (Nat.le_of_ble_eq_true rfl) fun F hP hN hm => ?_
  obtain ⟨P, N, w0, σ0, β0, m⟩ := F
  obtain rfl : P = Try.prog := hP
  obtain rfl : N = 54 := hN
  obtain rfl : m = 1 := hm
  have he : Env ⟨Try.prog, 54, w0, σ0, β0, 1⟩ tab := ⟨Nat.le_of_ble_eq_true rfl, tabOk⟩
  unfold m_impl_PutOp at h
  refine W_seq ?_
  refine W_regV he rfl ?_
  refine v0 (sBx rfl [] rfl rfl 101 rfl) rfl ?_
  refine v0 (sA rfl [1] rfl) rfl ?_
  refine ve ?_
  refine W2 [1] [101] [] (l := [(1, .c (.ptr _ _ _ _))]) (h := [(101, ⟨0, 10, [[.int _ _, .int _ _, .int _ _, .int _ _, .int _ _, .int _ _, .int _ _, .int _ _, .int _ _, .row _ _ _]]⟩)]) (h' := []) trivial rfl rfl rfl ?_
  refine W_seq ?_
  refine W_regV he rfl ?_
  refine v0 (sBS rfl 1003 (rows := ([] : List Int).map en_u8) rfl rfl rfl (by kernel_rfl) rfl rfl rfl rfl) rfl ?_
  refine v0 (sA rfl [] rfl) rfl ?_
  refine ve ?_
  refine W2 [1, 3] [101] [1003] (l := [(1, .c (.ptr _ _ _ _)), (3, .c (.own _ _ _ _))]) (h := [(101, ⟨0, 10, [[.int _ _, .int _ _, .int _ _, .int _ _, .int _ _, .int _ _, .int _ _, .int _ _, .int _ _, .row _ _ _]]⟩)]) (h' := [(1003, ⟨0, 1, ([] : List Int).map en_u8⟩)]) ⟨⟨_, rfl, enOk_u8.allClosed _ _ ([] : List Int)⟩, trivial⟩ rfl rfl rfl ?_
  refine W_seq ?_
  refine W_seq ?_
  refine W_regV he rfl ?_
  refine v0 (sLd rfl rfl) rfl ?_
  refine bndc h ?_; clear h; intro r1 hr1 h
  refine vB (sCm (w_impl_OpOk K a0 _ hr1) ok_impl_OpOk rfl rfl rfl rfl) rfl rfl fun b2 hb2 => ?_
  cases b2 with
  | true =>
    replace h := brT hb2 h
    refine v0 (sNt rfl rfl) rfl ?_
    refine ve ?_
    refine W2 [1, 3, 9] [101] [1003] (l := [(1, .c (.ptr _ _ _ _)), (3, .c (.own _ _ _ _)), (9, .c (.bool false))]) (h := [(101, ⟨0, 10, [[.int _ _, .int _ _, .int _ _, .int _ _, .int _ _, .int _ _, .int _ _, .int _ _, .int _ _, .row _ _ _]]⟩)]) (h' := [(1003, ⟨0, 1, ([] : List Int).map en_u8⟩)]) ⟨⟨_, rfl, enOk_u8.allClosed _ _ ([] : List Int)⟩, trivial⟩ rfl rfl rfl ?_
    refine W_false rfl ?_
    refine W_skip ?_
    refine W_seq ?_
    refine W_seq ?_
    refine W_regV he rfl ?_
    refine v0 (sFP rfl rfl rfl) rfl ?_
    refine v0 (sLd rfl rfl) rfl ?_
    refine v0 (sFP rfl rfl rfl) rfl ?_
    refine v0 (sFP rfl rfl rfl) rfl ?_
    refine v0 (sLd rfl rfl) rfl ?_
    refine v0 (sFP rfl rfl rfl) rfl ?_
    refine v0 (sFP rfl rfl rfl) rfl ?_
    refine v0 (sLd rfl rfl) rfl ?_
    refine v0 (sFP rfl rfl rfl) rfl ?_
    refine v0 (sFP rfl rfl rfl) rfl ?_
    refine v0 (sFP rfl rfl rfl) rfl ?_
    refine v0 (sLd rfl rfl) rfl ?_
    refine v0 (sFP rfl rfl rfl) rfl ?_
    refine v0 (sFP rfl rfl rfl) rfl ?_
    refine v0 (sFP rfl rfl rfl) rfl ?_
    refine v0 (sLd rfl rfl) rfl ?_
    refine v0 (sFP rfl rfl rfl) rfl ?_
    refine v0 (sFP rfl rfl rfl) rfl ?_
    refine v0 (sLd rfl rfl) rfl ?_
    refine v0 (sFP rfl rfl rfl) rfl ?_
    refine v0 (sFP rfl rfl rfl) rfl ?_
    refine v0 (sLd rfl rfl) rfl ?_
    refine v0 (sFP rfl rfl rfl) rfl ?_
    refine v0 (sLd rfl rfl) rfl ?_
    refine v0 (sFP rfl rfl rfl) rfl ?_
    refine v0 (sLd rfl rfl) rfl ?_
    refine v0 (sFP rfl rfl rfl) rfl ?_
    refine v0 (sLd rfl rfl) rfl ?_
    refine v0 (sLm rfl rfl rfl rfl) rfl ?_
    refine v0 (sBS rfl 1040 (rows := ([a0.fKind, a0.fH.fSlot, a0.fH.fGen, a0.fR.fH.fSlot, a0.fR.fH.fGen, a0.fR.fEp, a0.fR.fNo, a0.fN, a0.fM, (a0.fB.length : Int)] : List Int).map en_i64) rfl rfl rfl (by kernel_rfl) rfl rfl rfl rfl) rfl ?_
    refine v0 (sLo rfl rfl rfl rfl) rfl ?_
    refine v0 (sM rfl [] rfl) rfl ?_
    refine ve ?_
    refine W2 [1, 3, 40, 41, 42] [101] [1003, 1040] (l := [(1, .c (.ptr _ _ _ _)), (3, .c (.own _ _ _ _)), (40, .c (.own _ _ _ _)), (41, .c (.int _ _)), (42, .c (.int _ _))]) (h := [(101, ⟨0, 10, [[.int _ _, .int _ _, .int _ _, .int _ _, .int _ _, .int _ _, .int _ _, .int _ _, .int _ _, .row _ _ _]]⟩)]) (h' := [(1003, ⟨0, 1, ([] : List Int).map en_u8⟩), (1040, ⟨0, 1, ([a0.fKind, a0.fH.fSlot, a0.fH.fGen, a0.fR.fH.fSlot, a0.fR.fH.fGen, a0.fR.fEp, a0.fR.fNo, a0.fN, a0.fM, (a0.fB.length : Int)] : List Int).map en_i64⟩)]) ⟨⟨_, rfl, enOk_u8.allClosed _ _ ([] : List Int)⟩, ⟨⟨_, rfl, enOk_i64.allClosed _ _ ([a0.fKind, a0.fH.fSlot, a0.fH.fGen, a0.fR.fH.fSlot, a0.fR.fH.fGen, a0.fR.fEp, a0.fR.fNo, a0.fN, a0.fM, (a0.fB.length : Int)] : List Int)⟩, trivial⟩⟩ rfl rfl rfl ?_
    refine W_block ?_
    refine W2 [1, 3, 40, 41, 42] [101] [1003, 1040] (l := [(1, .c (.ptr _ _ _ _)), (3, .c (.own _ _ _ _)), (40, .c (.own _ _ _ _)), (41, .c (.int _ _)), (42, .c (.int _ _))]) (h := [(101, ⟨0, 10, [[.int _ _, .int _ _, .int _ _, .int _ _, .int _ _, .int _ _, .int _ _, .int _ _, .int _ _, .row _ _ _]]⟩)]) (h' := [(1003, ⟨0, 1, ([] : List Int).map en_u8⟩), (1040, ⟨0, 1, ([a0.fKind, a0.fH.fSlot, a0.fH.fGen, a0.fR.fH.fSlot, a0.fR.fH.fGen, a0.fR.fEp, a0.fR.fNo, a0.fN, a0.fM, (a0.fB.length : Int)] : List Int).map en_i64⟩)]) ⟨⟨_, rfl, enOk_u8.allClosed _ _ ([] : List Int)⟩, ⟨⟨_, rfl, enOk_i64.allClosed _ _ ([a0.fKind, a0.fH.fSlot, a0.fH.fGen, a0.fR.fH.fSlot, a0.fR.fH.fGen, a0.fR.fEp, a0.fR.fNo, a0.fN, a0.fM, (a0.fB.length : Int)] : List Int)⟩, trivial⟩⟩ rfl rfl rfl ?_
    refine W_loopW (fun n5 S => ∃ (v3 : List Int), ∃ (v4 : Int), S = StL [(1, .c (.ptr 101 0 0 0)), (3, .c (.own 1003 0 0 v3.length)), (40, .c (.own 1040 0 0 ([a0.fKind, a0.fH.fSlot, a0.fH.fGen, a0.fR.fH.fSlot, a0.fR.fH.fGen, a0.fR.fEp, a0.fR.fNo, a0.fN, a0.fM, (a0.fB.length : Int)] : List Int).length)), (41, .c (.int .i64 (([a0.fKind, a0.fH.fSlot, a0.fH.fGen, a0.fR.fH.fSlot, a0.fR.fH.fGen, a0.fR.fEp, a0.fR.fNo, a0.fN, a0.fM, (a0.fB.length : Int)] : List Int).length : Int))), (42, .c (.int .i64 v4))] ([(101, ⟨0, 10, [[.int .i64 a0.fKind, .int .i64 a0.fH.fSlot, .int .i64 a0.fH.fGen, .int .i64 a0.fR.fH.fSlot, .int .i64 a0.fR.fH.fGen, .int .i64 a0.fR.fEp, .int .i64 a0.fR.fNo, .int .i64 a0.fN, .int .i64 a0.fM, .row false 1 (a0.fB.map en_u8)]]⟩)] ++ [(1003, ⟨0, 1, v3.map en_u8⟩), (1040, ⟨0, 1, ([a0.fKind, a0.fH.fSlot, a0.fH.fGen, a0.fR.fH.fSlot, a0.fR.fH.fGen, a0.fR.fEp, a0.fR.fNo, a0.fN, a0.fM, (a0.fB.length : Int)] : List Int).map en_i64⟩)]) ∧ l_impl_PutOp_5 K a0 n5 v3 v4 = some r) K ⟨_, _, rfl, h⟩ ?_
    rintro n5 S ⟨v3, v4, rfl, h⟩
    cases n5 with
    | zero => simp [l_impl_PutOp_5] at h
    | succ n5 =>
      rw [l_impl_PutOp_5] at h
      refine W_seq ?_
      refine W_regV he rfl ?_
      refine vB (sBi rfl rfl rfl rfl) rfl rfl fun b6 hb6 => ?_
      cases b6 with
      | true =>
        replace h := brT hb6 h
        refine ve ?_
        refine W2 [1, 3, 40, 41, 42, 43] [101] [1003, 1040] (l := [(1, .c (.ptr _ _ _ _)), (3, .c (.own _ _ _ _)), (40, .c (.own _ _ _ _)), (41, .c (.int _ _)), (42, .c (.int _ _)), (43, .c (.bool true))]) (h := [(101, ⟨0, 10, [[.int _ _, .int _ _, .int _ _, .int _ _, .int _ _, .int _ _, .int _ _, .int _ _, .int _ _, .row _ _ _]]⟩)]) (h' := [(1003, ⟨0, 1, v3.map en_u8⟩), (1040, ⟨0, 1, ([a0.fKind, a0.fH.fSlot, a0.fH.fGen, a0.fR.fH.fSlot, a0.fR.fH.fGen, a0.fR.fEp, a0.fR.fNo, a0.fN, a0.fM, (a0.fB.length : Int)] : List Int).map en_i64⟩)]) ⟨⟨_, rfl, enOk_u8.allClosed _ _ v3⟩, ⟨⟨_, rfl, enOk_i64.allClosed _ _ ([a0.fKind, a0.fH.fSlot, a0.fH.fGen, a0.fR.fH.fSlot, a0.fR.fH.fGen, a0.fR.fEp, a0.fR.fNo, a0.fN, a0.fM, (a0.fB.length : Int)] : List Int)⟩, trivial⟩⟩ rfl rfl rfl ?_
        refine W_seq ?_
        refine W_true rfl ?_
        refine W_skip ?_
        refine W_seq ?_
        refine W_block ?_
        refine W_seq ?_
        refine W_regV he rfl ?_
        refine chkc h ?_; clear h; intro c7 h
        refine v0 (sIOm rfl rfl rfl c7) rfl ?_
        refine v0 (sLkm rfl ([a0.fKind, a0.fH.fSlot, a0.fH.fGen, a0.fR.fH.fSlot, a0.fR.fH.fGen, a0.fR.fEp, a0.fR.fNo, a0.fN, a0.fM, (a0.fB.length : Int)] : List Int) c7 rfl rfl rfl rfl rfl rfl) rfl ?_
        refine v0 (sA rfl [] rfl) rfl ?_
        refine ve ?_
        refine W2 [1, 3, 5, 40, 41, 42] [101] [1003, 1040] (l := [(1, .c (.ptr _ _ _ _)), (3, .c (.own _ _ _ _)), (5, .c (.int _ _)), (40, .c (.own _ _ _ _)), (41, .c (.int _ _)), (42, .c (.int _ _))]) (h := [(101, ⟨0, 10, [[.int _ _, .int _ _, .int _ _, .int _ _, .int _ _, .int _ _, .int _ _, .int _ _, .int _ _, .row _ _ _]]⟩)]) (h' := [(1003, ⟨0, 1, v3.map en_u8⟩), (1040, ⟨0, 1, ([a0.fKind, a0.fH.fSlot, a0.fH.fGen, a0.fR.fH.fSlot, a0.fR.fH.fGen, a0.fR.fEp, a0.fR.fNo, a0.fN, a0.fM, (a0.fB.length : Int)] : List Int).map en_i64⟩)]) ⟨⟨_, rfl, enOk_u8.allClosed _ _ v3⟩, ⟨⟨_, rfl, enOk_i64.allClosed _ _ ([a0.fKind, a0.fH.fSlot, a0.fH.fGen, a0.fR.fH.fSlot, a0.fR.fH.fGen, a0.fR.fEp, a0.fR.fNo, a0.fN, a0.fM, (a0.fB.length : Int)] : List Int)⟩, trivial⟩⟩ rfl rfl rfl ?_
        refine W_regV he rfl ?_
        refine v0 (sM rfl [] rfl) rfl ?_
        refine v0 (sM rfl [] rfl) rfl ?_
        refine bndc h ?_; clear h; intro r8 hr8 h
        refine v0 (sCo (wo_impl_PutVar K v3 (gt ([a0.fKind, a0.fH.fSlot, a0.fH.fGen, a0.fR.fH.fSlot, a0.fR.fH.fGen, a0.fR.fEp, a0.fR.fNo, a0.fN, a0.fM, (a0.fB.length : Int)] : List Int) v4) _ hr8) ok_impl_PutVar (fun _ => rfl) [1003] 1003 rfl rfl rfl (low_cons (low_lent (l := v3) enOk_u8 rfl rfl rfl) (low_cons (rfl) (low_nil))) rfl) rfl ?_
        refine v0 (sA rfl [] rfl) rfl ?_
        refine ve ?_
        refine W2 [1, 3, 40, 41, 42] [101] [1003, 1040] (l := [(1, .c (.ptr _ _ _ _)), (3, .c (.own _ _ _ _)), (40, .c (.own _ _ _ _)), (41, .c (.int _ _)), (42, .c (.int _ _))]) (h := [(101, ⟨0, 10, [[.int _ _, .int _ _, .int _ _, .int _ _, .int _ _, .int _ _, .int _ _, .int _ _, .int _ _, .row _ _ _]]⟩)]) (h' := [(1003, ⟨0, 1, r8.map en_u8⟩), (1040, ⟨0, 1, ([a0.fKind, a0.fH.fSlot, a0.fH.fGen, a0.fR.fH.fSlot, a0.fR.fH.fGen, a0.fR.fEp, a0.fR.fNo, a0.fN, a0.fM, (a0.fB.length : Int)] : List Int).map en_i64⟩)]) ⟨⟨_, rfl, enOk_u8.allClosed _ _ r8⟩, ⟨⟨_, rfl, enOk_i64.allClosed _ _ ([a0.fKind, a0.fH.fSlot, a0.fH.fGen, a0.fR.fH.fSlot, a0.fR.fH.fGen, a0.fR.fEp, a0.fR.fNo, a0.fN, a0.fM, (a0.fB.length : Int)] : List Int)⟩, trivial⟩⟩ rfl rfl rfl ?_
        refine W_regV he rfl ?_
        refine v0 (sBi rfl rfl rfl rfl) rfl ?_
        refine v0 (sM rfl [] rfl) rfl ?_
        refine ve ?_
        exact ⟨n5, _, Nat.lt_succ_self n5, wk2 [1, 3, 40, 41, 42] [101] [1003, 1040] (l := [(1, .c (.ptr _ _ _ _)), (3, .c (.own _ _ _ _)), (40, .c (.own _ _ _ _)), (41, .c (.int _ _)), (42, .c (.int _ _))]) (h := [(101, ⟨0, 10, [[.int _ _, .int _ _, .int _ _, .int _ _, .int _ _, .int _ _, .int _ _, .int _ _, .int _ _, .row _ _ _]]⟩)]) (h' := [(1003, ⟨0, 1, r8.map en_u8⟩), (1040, ⟨0, 1, ([a0.fKind, a0.fH.fSlot, a0.fH.fGen, a0.fR.fH.fSlot, a0.fR.fH.fGen, a0.fR.fEp, a0.fR.fNo, a0.fN, a0.fM, (a0.fB.length : Int)] : List Int).map en_i64⟩)]) ⟨⟨_, rfl, enOk_u8.allClosed _ _ r8⟩, ⟨⟨_, rfl, enOk_i64.allClosed _ _ ([a0.fKind, a0.fH.fSlot, a0.fH.fGen, a0.fR.fH.fSlot, a0.fR.fH.fGen, a0.fR.fEp, a0.fR.fNo, a0.fN, a0.fM, (a0.fB.length : Int)] : List Int)⟩, trivial⟩⟩ rfl rfl rfl, _, _, rfl, h⟩
      | false =>
        replace h := brF hb6 h
        refine ve ?_
        refine W2 [1, 3, 40, 41, 42, 43] [101] [1003, 1040] (l := [(1, .c (.ptr _ _ _ _)), (3, .c (.own _ _ _ _)), (40, .c (.own _ _ _ _)), (41, .c (.int _ _)), (42, .c (.int _ _)), (43, .c (.bool false))]) (h := [(101, ⟨0, 10, [[.int _ _, .int _ _, .int _ _, .int _ _, .int _ _, .int _ _, .int _ _, .int _ _, .int _ _, .row _ _ _]]⟩)]) (h' := [(1003, ⟨0, 1, v3.map en_u8⟩), (1040, ⟨0, 1, ([a0.fKind, a0.fH.fSlot, a0.fH.fGen, a0.fR.fH.fSlot, a0.fR.fH.fGen, a0.fR.fEp, a0.fR.fNo, a0.fN, a0.fM, (a0.fB.length : Int)] : List Int).map en_i64⟩)]) ⟨⟨_, rfl, enOk_u8.allClosed _ _ v3⟩, ⟨⟨_, rfl, enOk_i64.allClosed _ _ ([a0.fKind, a0.fH.fSlot, a0.fH.fGen, a0.fR.fH.fSlot, a0.fR.fH.fGen, a0.fR.fEp, a0.fR.fNo, a0.fN, a0.fM, (a0.fB.length : Int)] : List Int)⟩, trivial⟩⟩ rfl rfl rfl ?_
        refine W_seq ?_
        refine W_false rfl ?_
        refine W_exit (ex_then (ex_then (ex_hit ?_)))
        refine W_seq ?_
        refine W_regV he rfl ?_
        refine v0 (sM rfl [] rfl) rfl ?_
        refine v0 (sFP rfl rfl rfl) rfl ?_
        refine v0 (sLd rfl rfl) rfl ?_
        refine chkc h ?_; clear h; intro c9 h
        refine v0 (sAo rfl 1002 v3 a0.fB enOk_u8 rfl rfl rfl rfl rfl rfl rfl rfl rfl rfl rfl c9) rfl ?_
        refine v0 (sA rfl [] rfl) rfl ?_
        refine ve ?_
        refine W2 [2] [] [1002] (l := [(2, .c (.own _ _ _ _))]) (h := []) (h' := [(1002, ⟨0, 1, (v3 ++ a0.fB).map en_u8⟩)]) ⟨⟨_, rfl, enOk_u8.allClosed _ _ (v3 ++ a0.fB)⟩, trivial⟩ rfl rfl rfl ?_
        obtain rfl := Option.some.inj h
        exact W_ret (retOne 0 1002 (.inl rfl) enOk_u8 rfl rfl rfl)
  | false =>
    replace h := brF hb2 h
    refine v0 (sNt rfl rfl) rfl ?_
    refine ve ?_
    refine W2 [1, 3, 9] [101] [1003] (l := [(1, .c (.ptr _ _ _ _)), (3, .c (.own _ _ _ _)), (9, .c (.bool true))]) (h := [(101, ⟨0, 10, [[.int _ _, .int _ _, .int _ _, .int _ _, .int _ _, .int _ _, .int _ _, .int _ _, .int _ _, .row _ _ _]]⟩)]) (h' := [(1003, ⟨0, 1, ([] : List Int).map en_u8⟩)]) ⟨⟨_, rfl, enOk_u8.allClosed _ _ ([] : List Int)⟩, trivial⟩ rfl rfl rfl ?_
    refine W_true rfl ?_
    refine W_seq ?_
    refine W_regV he rfl ?_
    refine v0 (sM rfl [] rfl) rfl ?_
    refine v0 (sA rfl [] rfl) rfl ?_
    refine ve ?_
    refine W2 [2] [] [1003] (l := [(2, .c (.own _ _ _ _))]) (h := []) (h' := [(1003, ⟨0, 1, ([] : List Int).map en_u8⟩)]) ⟨⟨_, rfl, enOk_u8.allClosed _ _ ([] : List Int)⟩, trivial⟩ rfl rfl rfl ?_
    obtain rfl := Option.some.inj h
    exact W_ret (retOne 0 1003 (.inl rfl) enOk_u8 rfl rfl rfl)


/-! ### loop.example/g00499/spec.l1In -/
def m_spec_l1In (K : Nat) (a0 : Int) (a1 : Int) (a2 : Int) : Option (Bool) := (bif (decide (a0 ≥ a1)) then some (decide (a0 ≤ a2)) else some false)
set_option maxRecDepth 20000 in
set_option maxHeartbeats 8000000 in
theorem w_spec_l1In (K : Nat) (a0 : Int) (a1 : Int) (a2 : Int) (r : Bool) (h : m_spec_l1In K a0 a1 a2 = some r) : Sp Try.prog 56 [.c (.int .i64 a0), .c (.int .i64 a1), .c (.int .i64 a2)] [] (.c (.bool r)) [] := by
  refine Sp.of_W tabOk Try.func56 rfl rfl (Nat.le_of_ble_eq_true rfl) (Nat.le_of_ble_eq_true rfl) fun F hP hN hm => ?_
  obtain ⟨P, N, w0, σ0, β0, m⟩ := F
  obtain rfl : P = Try.prog := hP
  obtain rfl : N = 15 := hN
  obtain rfl : m = 1 := hm
  have he : Env ⟨Try.prog, 15, w0, σ0, β0, 1⟩ tab := ⟨Nat.le_of_ble_eq_true rfl, tabOk⟩
  unfold m_spec_l1In at h
  refine W_seq ?_
  refine W_regV he rfl ?_
  refine v0 (sA rfl [] rfl) rfl ?_
  refine ve ?_
  refine W2 [0, 1, 2] [] [] (l := [(0, .c (.int _ _)), (1, .c (.int _ _)), (2, .c (.int _ _))]) (h := []) (h' := []) trivial rfl rfl rfl ?_
  refine W_seq ?_
  refine W_regV he rfl ?_
  refine v0 (sM rfl [] rfl) rfl ?_
  refine v0 (sM rfl [] rfl) rfl ?_
  refine vB (sBi rfl rfl rfl rfl) rfl rfl fun b1 hb1 => ?_
  cases b1 with
  | true =>
    replace h := brT hb1 h
    refine v0 (sM rfl [] rfl) rfl ?_
    refine u0 (sM rfl [] rfl) rfl rfl rfl ?_
    refine u0 (sM rfl [] rfl) rfl rfl rfl ?_
    refine u0 (sBi rfl rfl rfl rfl) rfl rfl rfl ?_
    refine v0 (sPk rfl [] rfl rfl) rfl ?_
    refine v0 (sA rfl [] rfl) rfl ?_
    refine ve ?_
    refine W2 [6] [] [] (l := [(6, .c (.bool _))]) (h := []) (h' := []) trivial rfl rfl rfl ?_
    obtain rfl := Option.some.inj h
    exact W_ret (r0 rfl rfl)
  | false =>
    replace h := brF hb1 h
    refine v0 (sM rfl [] rfl) rfl ?_
    refine uP rfl rfl rfl rfl ?_
    refine uP rfl rfl rfl rfl ?_
    refine uP rfl rfl rfl rfl ?_
    refine v0 (sPk rfl [] rfl rfl) rfl ?_
    refine v0 (sA rfl [] rfl) rfl ?_
    refine ve ?_
    refine W2 [6] [] [] (l := [(6, .c (.bool false))]) (h := []) (h' := []) trivial rfl rfl rfl ?_
    obtain rfl := Option.some.inj h
    exact W_ret (r0 rfl rfl)
theorem ok_spec_l1In : FnOk Try.prog 56 := ⟨_, Try.func56, rfl, rfl⟩


/-! ### loop.example/g00499/spec.l21Num -/
def m_spec_l21Num (K : Nat) (a0 : Int) : Option (Bool) := ((m_spec_l1In K a0 0 1000000000).bind fun r1 => some r1)
set_option maxRecDepth 20000 in
set_option maxHeartbeats 8000000 in
theorem w_spec_l21Num (K : Nat) (a0 : Int) (r : Bool) (h : m_spec_l21Num K a0 = some r) : Sp Try.prog 64 [.c (.int .i64 a0)] [] (.c (.bool r)) [] := by
  refine Sp.of_W tabOk Try.func64 rfl rfl (Nat.le_of_ble_eq_true rfl) (Nat.le_of_ble_eq_true rfl) fun F hP hN hm => ?_
  obtain ⟨P, N, w0, σ0, β0, m⟩ := F
  obtain rfl : P = Try.prog := hP
  obtain rfl : N = 5 := hN
  obtain rfl : m = 1 := hm
  have he : Env ⟨Try.prog, 5, w0, σ0, β0, 1⟩ tab := ⟨Nat.le_of_ble_eq_true rfl, tabOk⟩
  unfold m_spec_l21Num at h
  refine W_seq ?_
  refine W_regV he rfl ?_
  refine v0 (sA rfl [] rfl) rfl ?_
  refine ve ?_
  refine W2 [0] [] [] (l := [(0, .c (.int _ _))]) (h := []) (h' := []) trivial rfl rfl rfl ?_
  refine W_seq ?_
  refine W_regV he rfl ?_
  refine v0 (sM rfl [] rfl) rfl ?_
  refine bndc h ?_; clear h; intro r1 hr1 h
  refine v0 (sCm (w_spec_l1In K a0 0 1000000000 _ hr1) ok_spec_l1In rfl rfl rfl rfl) rfl ?_
  refine v0 (sA rfl [] rfl) rfl ?_
  refine ve ?_
  refine W2 [2] [] [] (l := [(2, .c (.bool _))]) (h := []) (h' := []) trivial rfl rfl rfl ?_
  obtain rfl := Option.some.inj h
  exact W_ret (r0 rfl rfl)
theorem ok_spec_l21Num : FnOk Try.prog 64 := ⟨_, Try.func64, rfl, rfl⟩



end Go.Proofs.Ytlenlhlggknelaa
