/- Models of the program's functions, and the walks that show them. Printed by gen.py. -/
import Derived.Test.YtemgbggfhohfeaaGFnExactFreshOfa
set_option linter.unusedVariables false
set_option linter.unusedSimpArgs false
namespace Go.Proofs.Ytemgbggfhohfeaa
open Go.Eng Go.ChangeShapes Go.WideShapes Go.ChangeAt Go.RowKit
/-! ### loop.example/g00499/impl.Alive -/
def j_impl_Alive_5 (K : Nat) (v2 : Int) (C3 : Int → Option (Bool)) : Option (Bool) := (C3 (iAdd .i64 v2 1))
def l_impl_Alive_3 (K : Nat) (a0 : List T_impl_Node) (r1 : (List Int)) : Nat → Int → Option (Bool)
  | 0, _ => none
  | n3 + 1, v2 => (bif (decide (v2 < (r1.length : Int))) then (if (0 : Int) ≤ v2 ∧ v2 < (r1.length : Int) then (if (0 : Int) ≤ (gt r1 v2) ∧ (gt r1 v2) < (a0.length : Int) then (bif (((gt a0 (gt r1 v2)).fSt) != 1) then some false else (bif (decide ((iAdd .i64 v2 1) < (r1.length : Int))) then (if (0 : Int) ≤ (gt r1 v2) ∧ (gt r1 v2) < (a0.length : Int) then (if (0 : Int) ≤ (iAdd .i64 v2 1) ∧ (iAdd .i64 v2 1) < (r1.length : Int) then (if (0 : Int) ≤ (gt r1 (iAdd .i64 v2 1)) ∧ (gt r1 (iAdd .i64 v2 1)) < (a0.length : Int) then (bif (((gt a0 (gt r1 v2)).fUpEp) != ((gt a0 (gt r1 (iAdd .i64 v2 1))).fEp)) then some false else j_impl_Alive_5 K v2 (l_impl_Alive_3 K a0 r1 n3) ) else none) else none) else none) else j_impl_Alive_5 K v2 (l_impl_Alive_3 K a0 r1 n3) )) else none) else none) else (bif (decide ((r1.length : Int) > 0)) then (if (0 : Int) ≤ (iSub .i64 (r1.length : Int) 1) ∧ (iSub .i64 (r1.length : Int) 1) < (r1.length : Int) then (if (0 : Int) ≤ (gt r1 (iSub .i64 (r1.length : Int) 1)) ∧ (gt r1 (iSub .i64 (r1.length : Int) 1)) < (a0.length : Int) then some (((gt a0 (gt r1 (iSub .i64 (r1.length : Int) 1))).fUp) == 0) else none) else none) else some false))
def m_impl_Alive (K : Nat) (a0 : List T_impl_Node) (a1 : Int) : Option (Bool) := ((m_impl_Rise K a0 a1).bind fun r1 => (l_impl_Alive_3 K a0 r1 K 0))
set_option maxRecDepth 20000 in
set_option maxHeartbeats 8000000 in
theorem w_impl_Alive (K : Nat) (a0 : List T_impl_Node) (a1 : Int) (r : Bool) (h : m_impl_Alive K a0 a1 = some r) : Sp Try.prog 96 [.c (.row false 13 (a0.map en_impl_Node)), .c (.int .i64 a1)] [] (.c (.bool r)) [] := by
  refine Sp.of_W tabOk Try.func96 rfl rfl (Nat.le_of_ble_eq_true rfl) (Nat.le_of_ble_eq_true rfl) fun F hP hN hm => ?_
  obtain ⟨P, N, w0, σ0, β0, m⟩ := F
  obtain rfl : P = Try.prog := hP
  obtain rfl : N = 63 := hN
  obtain rfl : m = 1 := hm
  have he : Env ⟨Try.prog, 63, w0, σ0, β0, 1⟩ tab := ⟨Nat.le_of_ble_eq_true rfl, tabOk⟩
  unfold m_impl_Alive at h
  refine W_seq ?_
  refine W_regV he rfl ?_
  refine v0 (sA rfl [] rfl) rfl ?_
  refine ve ?_
  refine W2 [0, 1] [] [] (l := [(0, .c (.row _ _ _)), (1, .c (.int _ _))]) (h := []) (h' := []) trivial rfl rfl rfl ?_
  refine W_seq ?_
  refine W_regV he rfl ?_
  refine v0 (sM rfl [] rfl) rfl ?_
  refine v0 (sM rfl [] rfl) rfl ?_
  obtain ⟨r1, hr1, h⟩ := bnd2 h
  refine v0 (sCm (w_impl_Rise K a0 a1 _ hr1) ok_impl_Rise rfl rfl rfl rfl) rfl ?_
  refine v0 (sA rfl [] rfl) rfl ?_
  refine ve ?_
  refine W2 [0, 5] [] [] (l := [(0, .c (.row _ _ _)), (5, .c (.row _ _ _))]) (h := []) (h' := []) trivial rfl rfl rfl ?_
  refine W_seq ?_
  refine W_seq ?_
  refine W_regV he rfl ?_
  refine v0 (sM rfl [] rfl) rfl ?_
  refine v0 (sLm rfl rfl rfl rfl) rfl ?_
  refine v0 (sM rfl [] rfl) rfl ?_
  refine ve ?_
  refine W2 [0, 5, 11, 12, 13] [] [] (l := [(0, .c (.row _ _ _)), (5, .c (.row _ _ _)), (11, .c (.row _ _ _)), (12, .c (.int _ _)), (13, .c (.int _ _))]) (h := []) (h' := []) trivial rfl rfl rfl ?_
  refine W_block ?_
  refine W2 [0, 5, 11, 12, 13] [] [] (l := [(0, .c (.row _ _ _)), (5, .c (.row _ _ _)), (11, .c (.row _ _ _)), (12, .c (.int _ _)), (13, .c (.int _ _))]) (h := []) (h' := []) trivial rfl rfl rfl ?_
  refine W_loopW (fun n3 S => ∃ (v2 : Int), S = StL [(0, .c (.row false 13 (a0.map en_impl_Node))), (5, .c (.row false 1 (r1.map en_i64))), (11, .c (.row false 1 (r1.map en_i64))), (12, .c (.int .i64 (r1.length : Int))), (13, .c (.int .i64 v2))] ([] ++ []) ∧ l_impl_Alive_3 K a0 r1 n3 v2 = some r) K ⟨_, rfl, h⟩ ?_
  rintro n3 S ⟨v2, rfl, h⟩
  cases n3 with
  | zero => simp [l_impl_Alive_3] at h
  | succ n3 =>
    rw [l_impl_Alive_3] at h
    refine W_seq ?_
    refine W_regV he rfl ?_
    refine vB (sBi rfl rfl rfl rfl) rfl rfl fun b4 hb4 => ?_
    cases b4 with
    | true =>
      replace h := brT hb4 h
      refine ve ?_
      refine W2 [0, 5, 11, 12, 13, 14] [] [] (l := [(0, .c (.row _ _ _)), (5, .c (.row _ _ _)), (11, .c (.row _ _ _)), (12, .c (.int _ _)), (13, .c (.int _ _)), (14, .c (.bool true))]) (h := []) (h' := []) trivial rfl rfl rfl ?_
      refine W_seq ?_
      refine W_true rfl ?_
      refine W_skip ?_
      refine W_join (fun S => S = StL [(0, .c (.row false 13 (a0.map en_impl_Node))), (5, .c (.row false 1 (r1.map en_i64))), (11, .c (.row false 1 (r1.map en_i64))), (12, .c (.int .i64 (r1.length : Int))), (13, .c (.int .i64 v2))] ([] ++ []) ∧ j_impl_Alive_5 K v2 (l_impl_Alive_3 K a0 r1 n3)  = some r) ?_ ?_
      · rintro S ⟨rfl, h⟩
        unfold j_impl_Alive_5 at h
        refine W_regV he rfl ?_
        refine v0 (sBi rfl rfl rfl rfl) rfl ?_
        refine v0 (sM rfl [] rfl) rfl ?_
        refine ve ?_
        exact ⟨n3, _, Nat.lt_succ_self n3, wk2 [0, 5, 11, 12, 13] [] [] (l := [(0, .c (.row _ _ _)), (5, .c (.row _ _ _)), (11, .c (.row _ _ _)), (12, .c (.int _ _)), (13, .c (.int _ _))]) (h := []) (h' := []) trivial rfl rfl rfl, _, rfl, h⟩
      ·
        refine W_block ?_
        refine W_seq ?_
        refine W_regV he rfl ?_
        refine v0 (sM rfl [] rfl) rfl ?_
        obtain ⟨c106, h⟩ := chk h
        refine v0 (sIRm rfl rfl rfl rfl c106) rfl ?_
        refine v0 (sLI rfl rfl (en_i64 (gt r1 v2)) (gt_at _ c106) rfl rfl rfl) rfl ?_
        refine v0 (sA rfl [] rfl) rfl ?_
        refine v0 (sA rfl [] rfl) rfl ?_
        refine ve ?_
        refine W2 [0, 5, 6, 7, 11, 12, 13] [] [] (l := [(0, .c (.row _ _ _)), (5, .c (.row _ _ _)), (6, .c (.int _ _)), (7, .c (.int _ _)), (11, .c (.row _ _ _)), (12, .c (.int _ _)), (13, .c (.int _ _))]) (h := []) (h' := []) trivial rfl rfl rfl ?_
        refine W_seq ?_
        refine W_seq ?_
        refine W_regV he rfl ?_
        refine v0 (sM rfl [] rfl) rfl ?_
        refine v0 (sM rfl [] rfl) rfl ?_
        obtain ⟨c107, h⟩ := chk h
        refine v0 (sIRm rfl rfl rfl rfl c107) rfl ?_
        refine v0 (sFI rfl rfl rfl) rfl ?_
        refine v0 (sLI rfl rfl (en_impl_Node (gt a0 (gt r1 v2))) (gt_at _ c107) rfl rfl rfl) rfl ?_
        refine vB (sBi rfl rfl rfl rfl) rfl rfl fun b108 hb108 => ?_
        cases b108 with
        | true =>
          replace h := brT hb108 h
          refine ve ?_
          refine W2 [0, 5, 6, 7, 11, 12, 13, 23] [] [] (l := [(0, .c (.row _ _ _)), (5, .c (.row _ _ _)), (6, .c (.int _ _)), (7, .c (.int _ _)), (11, .c (.row _ _ _)), (12, .c (.int _ _)), (13, .c (.int _ _)), (23, .c (.bool true))]) (h := []) (h' := []) trivial rfl rfl rfl ?_
          refine W_true rfl ?_
          refine W_seq ?_
          refine W_regV he rfl ?_
          refine v0 (sA rfl [] rfl) rfl ?_
          refine ve ?_
          refine W2 [4] [] [] (l := [(4, .c (.bool false))]) (h := []) (h' := []) trivial rfl rfl rfl ?_
          obtain rfl := Option.some.inj h
          exact W_ret (r0 rfl rfl)
        | false =>
          replace h := brF hb108 h
          refine ve ?_
          refine W2 [0, 5, 6, 7, 11, 12, 13, 23] [] [] (l := [(0, .c (.row _ _ _)), (5, .c (.row _ _ _)), (6, .c (.int _ _)), (7, .c (.int _ _)), (11, .c (.row _ _ _)), (12, .c (.int _ _)), (13, .c (.int _ _)), (23, .c (.bool false))]) (h := []) (h' := []) trivial rfl rfl rfl ?_
          refine W_false rfl ?_
          refine W_skip ?_
          refine W_seq ?_
          refine W_regD he rfl rfl rfl ?_
          refine g0 (sM rfl [] rfl) rfl ?_
          refine g0 (sBi rfl rfl rfl rfl) rfl ?_
          refine g0 (sM rfl [] rfl) rfl ?_
          refine g0 (sLm rfl rfl rfl rfl) rfl ?_
          refine gB (sBi rfl rfl rfl rfl) rfl rfl fun b109 hb109 => ?_
          cases b109 with
          | true =>
            replace h := brT hb109 h
            refine g0 (sM rfl [] rfl) rfl ?_
            refine q0 (sM rfl [] rfl) rfl rfl rfl ?_
            refine q0 (sM rfl [] rfl) rfl rfl rfl ?_
            obtain ⟨c110, h⟩ := chk h
            refine q0 (sIRm rfl rfl rfl rfl c110) rfl rfl rfl ?_
            refine q0 (sFI rfl rfl rfl) rfl rfl rfl ?_
            refine q0 (sLI rfl rfl (en_impl_Node (gt a0 (gt r1 v2))) (gt_at _ c110) rfl rfl rfl) rfl rfl rfl ?_
            refine q0 (sM rfl [] rfl) rfl rfl rfl ?_
            refine q0 (sM rfl [] rfl) rfl rfl rfl ?_
            refine q0 (sM rfl [] rfl) rfl rfl rfl ?_
            refine q0 (sBi rfl rfl rfl rfl) rfl rfl rfl ?_
            obtain ⟨c111, h⟩ := chk h
            refine q0 (sIRm rfl rfl rfl rfl c111) rfl rfl rfl ?_
            refine q0 (sLI rfl rfl (en_i64 (gt r1 (iAdd .i64 v2 1))) (gt_at _ c111) rfl rfl rfl) rfl rfl rfl ?_
            obtain ⟨c112, h⟩ := chk h
            refine q0 (sIRm rfl rfl rfl rfl c112) rfl rfl rfl ?_
            refine q0 (sFI rfl rfl rfl) rfl rfl rfl ?_
            refine q0 (sLI rfl rfl (en_impl_Node (gt a0 (gt r1 (iAdd .i64 v2 1)))) (gt_at _ c112) rfl rfl rfl) rfl rfl rfl ?_
            refine qB (sBi rfl rfl rfl rfl) rfl rfl rfl rfl fun b113 hb113 => ?_
            cases b113 with
            | true =>
              replace h := brT hb113 h
              refine g0 (sPk rfl [] rfl rfl) rfl ?_
              refine ge ⟨rfl, ?_⟩
              refine W2 [0, 5, 11, 12, 13, 45] [] [] (l := [(0, .c (.row _ _ _)), (5, .c (.row _ _ _)), (11, .c (.row _ _ _)), (12, .c (.int _ _)), (13, .c (.int _ _)), (45, .c (.bool true))]) (h := []) (h' := []) trivial rfl rfl rfl ?_
              refine W_true rfl ?_
              refine W_seq ?_
              refine W_regV he rfl ?_
              refine v0 (sA rfl [] rfl) rfl ?_
              refine ve ?_
              refine W2 [4] [] [] (l := [(4, .c (.bool false))]) (h := []) (h' := []) trivial rfl rfl rfl ?_
              obtain rfl := Option.some.inj h
              exact W_ret (r0 rfl rfl)
            | false =>
              replace h := brF hb113 h
              refine g0 (sPk rfl [] rfl rfl) rfl ?_
              refine ge ⟨rfl, ?_⟩
              refine W2 [0, 5, 11, 12, 13, 45] [] [] (l := [(0, .c (.row _ _ _)), (5, .c (.row _ _ _)), (11, .c (.row _ _ _)), (12, .c (.int _ _)), (13, .c (.int _ _)), (45, .c (.bool false))]) (h := []) (h' := []) trivial rfl rfl rfl ?_
              refine W_false rfl ?_
              refine W_skip ?_
              exact ⟨_, wk2 [0, 5, 11, 12, 13] [] [] (l := [(0, .c (.row _ _ _)), (5, .c (.row _ _ _)), (11, .c (.row _ _ _)), (12, .c (.int _ _)), (13, .c (.int _ _))]) (h := []) (h' := []) trivial rfl rfl rfl, rfl, h⟩
          | false =>
            replace h := brF hb109 h
            refine g0 (sM rfl [] rfl) rfl ?_
            refine qP rfl rfl rfl rfl ?_
            refine qP rfl rfl rfl rfl ?_
            refine qP rfl rfl rfl rfl ?_
            refine qP rfl rfl rfl rfl ?_
            refine qP rfl rfl rfl rfl ?_
            refine qP rfl rfl rfl rfl ?_
            refine qP rfl rfl rfl rfl ?_
            refine qP rfl rfl rfl rfl ?_
            refine qP rfl rfl rfl rfl ?_
            refine qP rfl rfl rfl rfl ?_
            refine qP rfl rfl rfl rfl ?_
            refine qP rfl rfl rfl rfl ?_
            refine qP rfl rfl rfl rfl ?_
            refine qP rfl rfl rfl rfl ?_
            refine qP rfl rfl rfl rfl ?_
            refine g0 (sPk rfl [] rfl rfl) rfl ?_
            refine ge ⟨rfl, ?_⟩
            refine W2 [0, 5, 11, 12, 13, 45] [] [] (l := [(0, .c (.row _ _ _)), (5, .c (.row _ _ _)), (11, .c (.row _ _ _)), (12, .c (.int _ _)), (13, .c (.int _ _)), (45, .c (.bool false))]) (h := []) (h' := []) trivial rfl rfl rfl ?_
            refine W_false rfl ?_
            refine W_skip ?_
            exact ⟨_, wk2 [0, 5, 11, 12, 13] [] [] (l := [(0, .c (.row _ _ _)), (5, .c (.row _ _ _)), (11, .c (.row _ _ _)), (12, .c (.int _ _)), (13, .c (.int _ _))]) (h := []) (h' := []) trivial rfl rfl rfl, rfl, h⟩
    | false =>
      replace h := brF hb4 h
      refine ve ?_
      refine W2 [0, 5, 11, 12, 13, 14] [] [] (l := [(0, .c (.row _ _ _)), (5, .c (.row _ _ _)), (11, .c (.row _ _ _)), (12, .c (.int _ _)), (13, .c (.int _ _)), (14, .c (.bool false))]) (h := []) (h' := []) trivial rfl rfl rfl ?_
      refine W_seq ?_
      refine W_false rfl ?_
      refine W_exit (ex_then (ex_then (ex_hit ?_)))
      refine W_seq ?_
      refine W_regV he rfl ?_
      refine v0 (sM rfl [] rfl) rfl ?_
      refine v0 (sLm rfl rfl rfl rfl) rfl ?_
      refine vB (sBi rfl rfl rfl rfl) rfl rfl fun b114 hb114 => ?_
      cases b114 with
      | true =>
        replace h := brT hb114 h
        refine v0 (sM rfl [] rfl) rfl ?_
        refine u0 (sM rfl [] rfl) rfl rfl rfl ?_
        refine u0 (sM rfl [] rfl) rfl rfl rfl ?_
        refine u0 (sM rfl [] rfl) rfl rfl rfl ?_
        refine u0 (sLm rfl rfl rfl rfl) rfl rfl rfl ?_
        refine u0 (sBi rfl rfl rfl rfl) rfl rfl rfl ?_
        obtain ⟨c115, h⟩ := chk h
        refine u0 (sIRm rfl rfl rfl rfl c115) rfl rfl rfl ?_
        refine u0 (sLI rfl rfl (en_i64 (gt r1 (iSub .i64 (r1.length : Int) 1))) (gt_at _ c115) rfl rfl rfl) rfl rfl rfl ?_
        obtain ⟨c116, h⟩ := chk h
        refine u0 (sIRm rfl rfl rfl rfl c116) rfl rfl rfl ?_
        refine u0 (sFI rfl rfl rfl) rfl rfl rfl ?_
        refine u0 (sLI rfl rfl (en_impl_Node (gt a0 (gt r1 (iSub .i64 (r1.length : Int) 1)))) (gt_at _ c116) rfl rfl rfl) rfl rfl rfl ?_
        refine u0 (sBi rfl rfl rfl rfl) rfl rfl rfl ?_
        refine v0 (sPk rfl [] rfl rfl) rfl ?_
        refine v0 (sA rfl [] rfl) rfl ?_
        refine ve ?_
        refine W2 [4] [] [] (l := [(4, .c (.bool _))]) (h := []) (h' := []) trivial rfl rfl rfl ?_
        obtain rfl := Option.some.inj h
        exact W_ret (r0 rfl rfl)
      | false =>
        replace h := brF hb114 h
        refine v0 (sM rfl [] rfl) rfl ?_
        refine uP rfl rfl rfl rfl ?_
        refine uP rfl rfl rfl rfl ?_
        refine uP rfl rfl rfl rfl ?_
        refine uP rfl rfl rfl rfl ?_
        refine uP rfl rfl rfl rfl ?_
        refine uP rfl rfl rfl rfl ?_
        refine uP rfl rfl rfl rfl ?_
        refine uP rfl rfl rfl rfl ?_
        refine uP rfl rfl rfl rfl ?_
        refine uP rfl rfl rfl rfl ?_
        refine uP rfl rfl rfl rfl ?_
        refine v0 (sPk rfl [] rfl rfl) rfl ?_
        refine v0 (sA rfl [] rfl) rfl ?_
        refine ve ?_
        refine W2 [4] [] [] (l := [(4, .c (.bool false))]) (h := []) (h' := []) trivial rfl rfl rfl ?_
        obtain rfl := Option.some.inj h
        exact W_ret (r0 rfl rfl)
theorem ok_impl_Alive : FnOk Try.prog 96 := ⟨_, Try.func96, rfl, rfl⟩


/-! ### loop.example/g00499/impl.FindRoom -/
def m_impl_FindRoom (K : Nat) (a0 : T_impl_World) (a1 : T_impl_Handle) : Option (Int × Int) := ((m_impl_HandleOk K a1).bind fun r1 => (bif r1 then ((m_impl_PlaceOf K a0.fL a1).bind fun r3 => (bif (decide (r3 < 0)) then some ((-1), 2) else ((m_impl_Alive K a0.fL r3).bind fun r5 => (bif r5 then some (r3, 0) else some ((-1), 2))))) else some ((-1), 1)))
set_option maxRecDepth 20000 in
set_option maxHeartbeats 8000000 in
theorem w_impl_FindRoom (K : Nat) (a0 : T_impl_World) (a1 : T_impl_Handle) (r : Int × Int) (h : m_impl_FindRoom K a0 a1 = some r) : Sp Try.prog 60 [.g [.int .i64 a0.fC.fChunks, .int .i64 a0.fC.fSize, .int .i64 a0.fC.fSlots, .int .i64 a0.fC.fTax, .int .i64 a0.fC.fSlice, .int .i64 a0.fC.fGens, .row false 1 (a0.fP.fMem.map en_u8), .row false 1 (a0.fP.fSt.map en_i64), .row false 1 (a0.fP.fOwn.map en_i64), .row false 13 (a0.fL.map en_impl_Node), .row false 5 (a0.fQ.map en_impl_Waste), .row false 1 (a0.fLog.map en_i64)], .g [.int .i64 a1.fSlot, .int .i64 a1.fGen]] [] (.t [.c (.int .i64 r.1), .c (.int .i64 r.2)]) [] := by
  refine Sp.of_W tabOk Try.func60 rfl rfl (Nat.le_of_ble_eq_true rfl) (Nat.le_of_ble_eq_true rfl) fun F hP hN hm => ?_
  obtain ⟨P, N, w0, σ0, β0, m⟩ := F
  obtain rfl : P = Try.prog := hP
  obtain rfl : N = 24 := hN
  obtain rfl : m = 1 := hm
  have he : Env ⟨Try.prog, 24, w0, σ0, β0, 1⟩ tab := ⟨Nat.le_of_ble_eq_true rfl, tabOk⟩
  unfold m_impl_FindRoom at h
  refine W_seq ?_
  refine W_regV he rfl ?_
  refine v0 (sBx rfl [] rfl rfl 101 rfl) rfl ?_
  refine v0 (sBx rfl [] rfl rfl 102 rfl) rfl ?_
  refine v0 (sA rfl [] rfl) rfl ?_
  refine v0 (sA rfl [] rfl) rfl ?_
  refine ve ?_
  refine W2 [2, 3] [101, 102] [] (l := [(2, .c (.ptr _ _ _ _)), (3, .c (.ptr _ _ _ _))]) (h := [(101, ⟨0, 12, [[.int _ _, .int _ _, .int _ _, .int _ _, .int _ _, .int _ _, .row _ _ _, .row _ _ _, .row _ _ _, .row _ _ _, .row _ _ _, .row _ _ _]]⟩), (102, ⟨0, 2, [[.int _ _, .int _ _]]⟩)]) (h' := []) trivial rfl rfl rfl ?_
  refine W_seq ?_
  refine W_seq ?_
  refine W_regV he rfl ?_
  refine v0 (sLd rfl rfl) rfl ?_
  obtain ⟨r1, hr1, h⟩ := bnd2 h
  refine vB (sCm (w_impl_HandleOk K a1 _ hr1) ok_impl_HandleOk rfl rfl rfl rfl) rfl rfl fun b2 hb2 => ?_
  cases b2 with
  | true =>
    replace h := brT hb2 h
    refine v0 (sNt rfl rfl) rfl ?_
    refine ve ?_
    refine W2 [2, 3, 9] [101, 102] [] (l := [(2, .c (.ptr _ _ _ _)), (3, .c (.ptr _ _ _ _)), (9, .c (.bool false))]) (h := [(101, ⟨0, 12, [[.int _ _, .int _ _, .int _ _, .int _ _, .int _ _, .int _ _, .row _ _ _, .row _ _ _, .row _ _ _, .row _ _ _, .row _ _ _, .row _ _ _]]⟩), (102, ⟨0, 2, [[.int _ _, .int _ _]]⟩)]) (h' := []) trivial rfl rfl rfl ?_
    refine W_false rfl ?_
    refine W_skip ?_
    refine W_seq ?_
    refine W_regV he rfl ?_
    refine v0 (sFP rfl rfl rfl) rfl ?_
    refine v0 (sLd rfl rfl) rfl ?_
    refine v0 (sLd rfl rfl) rfl ?_
    obtain ⟨r3, hr3, h⟩ := bnd2 h
    refine v0 (sCm (w_impl_PlaceOf K a0.fL a1 _ hr3) ok_impl_PlaceOf rfl rfl rfl rfl) rfl ?_
    refine v0 (sA rfl [] rfl) rfl ?_
    refine ve ?_
    refine W2 [2, 6] [101] [] (l := [(2, .c (.ptr _ _ _ _)), (6, .c (.int _ _))]) (h := [(101, ⟨0, 12, [[.int _ _, .int _ _, .int _ _, .int _ _, .int _ _, .int _ _, .row _ _ _, .row _ _ _, .row _ _ _, .row _ _ _, .row _ _ _, .row _ _ _]]⟩)]) (h' := []) trivial rfl rfl rfl ?_
    refine W_seq ?_
    refine W_seq ?_
    refine W_regV he rfl ?_
    refine v0 (sM rfl [] rfl) rfl ?_
    refine vB (sBi rfl rfl rfl rfl) rfl rfl fun b4 hb4 => ?_
    cases b4 with
    | true =>
      replace h := brT hb4 h
      refine v0 (sM rfl [] rfl) rfl ?_
      refine uP rfl rfl rfl rfl ?_
      refine uP rfl rfl rfl rfl ?_
      refine uP rfl rfl rfl rfl ?_
      refine uP rfl rfl rfl rfl ?_
      refine uP rfl rfl rfl rfl ?_
      refine v0 (sPk rfl [] rfl rfl) rfl ?_
      refine ve ?_
      refine W2 [6, 22] [] [] (l := [(6, .c (.int _ _)), (22, .c (.bool true))]) (h := []) (h' := []) trivial rfl rfl rfl ?_
      refine W_true rfl ?_
      refine W_seq ?_
      refine W_regV he rfl ?_
      refine v0 (sA rfl [] rfl) rfl ?_
      refine v0 (sA rfl [] rfl) rfl ?_
      refine ve ?_
      refine W2 [4, 5] [] [] (l := [(4, .c (.int _ _)), (5, .c (.int _ _))]) (h := []) (h' := []) trivial rfl rfl rfl ?_
      obtain rfl := Option.some.inj h
      exact W_ret (r0 rfl rfl)
    | false =>
      replace h := brF hb4 h
      refine v0 (sM rfl [] rfl) rfl ?_
      refine u0 (sFP rfl rfl rfl) rfl rfl rfl ?_
      refine u0 (sLd rfl rfl) rfl rfl rfl ?_
      refine u0 (sM rfl [] rfl) rfl rfl rfl ?_
      obtain ⟨r5, hr5, h⟩ := bnd2 h
      refine uB (sCm (w_impl_Alive K a0.fL r3 _ hr5) ok_impl_Alive rfl rfl rfl rfl) rfl rfl rfl rfl fun b6 hb6 => ?_
      cases b6 with
      | true =>
        replace h := brT hb6 h
        refine u0 (sNt rfl rfl) rfl rfl rfl ?_
        refine v0 (sPk rfl [] rfl rfl) rfl ?_
        refine ve ?_
        refine W2 [6, 22] [] [] (l := [(6, .c (.int _ _)), (22, .c (.bool false))]) (h := []) (h' := []) trivial rfl rfl rfl ?_
        refine W_false rfl ?_
        refine W_skip ?_
        refine W_seq ?_
        refine W_regV he rfl ?_
        refine v0 (sM rfl [] rfl) rfl ?_
        refine v0 (sA rfl [] rfl) rfl ?_
        refine v0 (sA rfl [] rfl) rfl ?_
        refine ve ?_
        refine W2 [4, 5] [] [] (l := [(4, .c (.int _ _)), (5, .c (.int _ _))]) (h := []) (h' := []) trivial rfl rfl rfl ?_
        obtain rfl := Option.some.inj h
        exact W_ret (r0 rfl rfl)
      | false =>
        replace h := brF hb6 h
        refine u0 (sNt rfl rfl) rfl rfl rfl ?_
        refine v0 (sPk rfl [] rfl rfl) rfl ?_
        refine ve ?_
        refine W2 [6, 22] [] [] (l := [(6, .c (.int _ _)), (22, .c (.bool true))]) (h := []) (h' := []) trivial rfl rfl rfl ?_
        refine W_true rfl ?_
        refine W_seq ?_
        refine W_regV he rfl ?_
        refine v0 (sA rfl [] rfl) rfl ?_
        refine v0 (sA rfl [] rfl) rfl ?_
        refine ve ?_
        refine W2 [4, 5] [] [] (l := [(4, .c (.int _ _)), (5, .c (.int _ _))]) (h := []) (h' := []) trivial rfl rfl rfl ?_
        obtain rfl := Option.some.inj h
        exact W_ret (r0 rfl rfl)
  | false =>
    replace h := brF hb2 h
    refine v0 (sNt rfl rfl) rfl ?_
    refine ve ?_
    refine W2 [2, 3, 9] [101, 102] [] (l := [(2, .c (.ptr _ _ _ _)), (3, .c (.ptr _ _ _ _)), (9, .c (.bool true))]) (h := [(101, ⟨0, 12, [[.int _ _, .int _ _, .int _ _, .int _ _, .int _ _, .int _ _, .row _ _ _, .row _ _ _, .row _ _ _, .row _ _ _, .row _ _ _, .row _ _ _]]⟩), (102, ⟨0, 2, [[.int _ _, .int _ _]]⟩)]) (h' := []) trivial rfl rfl rfl ?_
    refine W_true rfl ?_
    refine W_seq ?_
    refine W_regV he rfl ?_
    refine v0 (sA rfl [] rfl) rfl ?_
    refine v0 (sA rfl [] rfl) rfl ?_
    refine ve ?_
    refine W2 [4, 5] [] [] (l := [(4, .c (.int _ _)), (5, .c (.int _ _))]) (h := []) (h' := []) trivial rfl rfl rfl ?_
    obtain rfl := Option.some.inj h
    exact W_ret (r0 rfl rfl)
theorem ok_impl_FindRoom : FnOk Try.prog 60 := ⟨_, Try.func60, rfl, rfl⟩


/-! ### loop.example/g00499/impl.ThingOf -/
def m_impl_ThingOf (K : Nat) (a0 : T_impl_Node) (a1 : T_impl_Ref) : Option (T_impl_Thing × Bool) := (bif (a0.fSt != 1) then some ((T_impl_Thing.mk 0 0 0), false) else (bif (a0.fEp != a1.fEp) then some ((T_impl_Thing.mk 0 0 0), false) else ((m_impl_within K a1.fNo 0 (iSub .i64 (a0.fThings.length : Int) 1)).bind fun r3 => (bif r3 then (if (0 : Int) ≤ a1.fNo ∧ a1.fNo < (a0.fThings.length : Int) then some ((gt a0.fThings a1.fNo), true) else none) else some ((T_impl_Thing.mk 0 0 0), false)))))
set_option maxRecDepth 20000 in
set_option maxHeartbeats 8000000 in
theorem w_impl_ThingOf (K : Nat) (a0 : T_impl_Node) (a1 : T_impl_Ref) (r : T_impl_Thing × Bool) (h : m_impl_ThingOf K a0 a1 = some r) : Sp Try.prog 103 [.g [.int .i64 a0.fSt, .int .i64 a0.fGen, .int .i64 a0.fEp, .int .i64 a0.fUp, .int .i64 a0.fUpEp, .int .i64 a0.fFirst, .int .i64 a0.fNext, .int .i64 a0.fPrev, .row false 1 (a0.fChunks.map en_i64), .int .i64 a0.fCur, .int .i64 a0.fBump, .row false 3 (a0.fThings.map en_impl_Thing), .row false 1 (a0.fTags.map en_i64)], .g [.int .i64 a1.fH.fSlot, .int .i64 a1.fH.fGen, .int .i64 a1.fEp, .int .i64 a1.fNo]] [] (.t [.g [.int .i64 r.1.fAt, .int .i64 r.1.fLen, .int .i64 r.1.fRun], .c (.bool r.2)]) [] := by
  refine Sp.of_W tabOk Try.func103 rfl rfl (Nat.le_of_ble_eq_true rfl) (Nat.le_of_ble_eq_true rfl) fun F hP hN hm => ?_
  obtain ⟨P, N, w0, σ0, β0, m⟩ := F
  obtain rfl : P = Try.prog := hP
  obtain rfl : N = 33 := hN
  obtain rfl : m = 1 := hm
  have he : Env ⟨Try.prog, 33, w0, σ0, β0, 1⟩ tab := ⟨Nat.le_of_ble_eq_true rfl, tabOk⟩
  unfold m_impl_ThingOf at h
  refine W_seq ?_
  refine W_regV he rfl ?_
  refine v0 (sBx rfl [] rfl rfl 101 rfl) rfl ?_
  refine v0 (sBx rfl [] rfl rfl 102 rfl) rfl ?_
  refine v0 (sAl rfl rfl 103 rfl) rfl ?_
  refine v0 (sA rfl [] rfl) rfl ?_
  refine ve ?_
  refine W2 [2, 3, 4] [101, 102, 103] [] (l := [(2, .c (.ptr _ _ _ _)), (3, .c (.ptr _ _ _ _)), (4, .c (.ptr _ _ _ _))]) (h := [(101, ⟨0, 13, [[.int _ _, .int _ _, .int _ _, .int _ _, .int _ _, .int _ _, .int _ _, .int _ _, .row _ _ _, .int _ _, .int _ _, .row _ _ _, .row _ _ _]]⟩), (102, ⟨0, 4, [[.int _ _, .int _ _, .int _ _, .int _ _]]⟩), (103, ⟨0, 3, [[.int _ _, .int _ _, .int _ _]]⟩)]) (h' := []) trivial rfl rfl rfl ?_
  refine W_seq ?_
  refine W_seq ?_
  refine W_regV he rfl ?_
  refine v0 (sFP rfl rfl rfl) rfl ?_
  refine v0 (sLd rfl rfl) rfl ?_
  refine vB (sBi rfl rfl rfl rfl) rfl rfl fun b1 hb1 => ?_
  cases b1 with
  | true =>
    replace h := brT hb1 h
    refine v0 (sM rfl [] rfl) rfl ?_
    refine uP rfl rfl rfl rfl ?_
    refine uP rfl rfl rfl rfl ?_
    refine uP rfl rfl rfl rfl ?_
    refine uP rfl rfl rfl rfl ?_
    refine uP rfl rfl rfl rfl ?_
    refine v0 (sPk rfl [] rfl rfl) rfl ?_
    refine v0 (sM rfl [] rfl) rfl ?_
    refine uP rfl rfl rfl rfl ?_
    refine uP rfl rfl rfl rfl ?_
    refine uP rfl rfl rfl rfl ?_
    refine uP rfl rfl rfl rfl ?_
    refine uP rfl rfl rfl rfl ?_
    refine uP rfl rfl rfl rfl ?_
    refine uP rfl rfl rfl rfl ?_
    refine uP rfl rfl rfl rfl ?_
    refine v0 (sPk rfl [] rfl rfl) rfl ?_
    refine ve ?_
    refine W2 [2, 3, 4, 25] [101, 102, 103] [] (l := [(2, .c (.ptr _ _ _ _)), (3, .c (.ptr _ _ _ _)), (4, .c (.ptr _ _ _ _)), (25, .c (.bool true))]) (h := [(101, ⟨0, 13, [[.int _ _, .int _ _, .int _ _, .int _ _, .int _ _, .int _ _, .int _ _, .int _ _, .row _ _ _, .int _ _, .int _ _, .row _ _ _, .row _ _ _]]⟩), (102, ⟨0, 4, [[.int _ _, .int _ _, .int _ _, .int _ _]]⟩), (103, ⟨0, 3, [[.int _ _, .int _ _, .int _ _]]⟩)]) (h' := []) trivial rfl rfl rfl ?_
    refine W_true rfl ?_
    refine W_seq ?_
    refine W_regV he rfl ?_
    refine v0 (sBd rfl [] rfl rfl) rfl ?_
    refine v0 (sSt rfl rfl [] rfl rfl) rfl ?_
    refine v0 (sA rfl [] rfl) rfl ?_
    refine ve ?_
    refine W2 [4, 5] [103] [] (l := [(4, .c (.ptr _ _ _ _)), (5, .c (.bool false))]) (h := [(103, ⟨0, 3, [[.int _ _, .int _ _, .int _ _]]⟩)]) (h' := []) trivial rfl rfl rfl ?_
    obtain rfl := Option.some.inj h
    exact W_ret (r0 rfl rfl)
  | false =>
    replace h := brF hb1 h
    refine v0 (sM rfl [] rfl) rfl ?_
    refine u0 (sFP rfl rfl rfl) rfl rfl rfl ?_
    refine u0 (sLd rfl rfl) rfl rfl rfl ?_
    refine u0 (sFP rfl rfl rfl) rfl rfl rfl ?_
    refine u0 (sLd rfl rfl) rfl rfl rfl ?_
    refine uB (sBi rfl rfl rfl rfl) rfl rfl rfl rfl fun b2 hb2 => ?_
    cases b2 with
    | true =>
      replace h := brT hb2 h
      refine v0 (sPk rfl [] rfl rfl) rfl ?_
      refine v0 (sM rfl [] rfl) rfl ?_
      refine uP rfl rfl rfl rfl ?_
      refine uP rfl rfl rfl rfl ?_
      refine uP rfl rfl rfl rfl ?_
      refine uP rfl rfl rfl rfl ?_
      refine uP rfl rfl rfl rfl ?_
      refine uP rfl rfl rfl rfl ?_
      refine uP rfl rfl rfl rfl ?_
      refine uP rfl rfl rfl rfl ?_
      refine v0 (sPk rfl [] rfl rfl) rfl ?_
      refine ve ?_
      refine W2 [2, 3, 4, 25] [101, 102, 103] [] (l := [(2, .c (.ptr _ _ _ _)), (3, .c (.ptr _ _ _ _)), (4, .c (.ptr _ _ _ _)), (25, .c (.bool true))]) (h := [(101, ⟨0, 13, [[.int _ _, .int _ _, .int _ _, .int _ _, .int _ _, .int _ _, .int _ _, .int _ _, .row _ _ _, .int _ _, .int _ _, .row _ _ _, .row _ _ _]]⟩), (102, ⟨0, 4, [[.int _ _, .int _ _, .int _ _, .int _ _]]⟩), (103, ⟨0, 3, [[.int _ _, .int _ _, .int _ _]]⟩)]) (h' := []) trivial rfl rfl rfl ?_
      refine W_true rfl ?_
      refine W_seq ?_
      refine W_regV he rfl ?_
      refine v0 (sBd rfl [] rfl rfl) rfl ?_
      refine v0 (sSt rfl rfl [] rfl rfl) rfl ?_
      refine v0 (sA rfl [] rfl) rfl ?_
      refine ve ?_
      refine W2 [4, 5] [103] [] (l := [(4, .c (.ptr _ _ _ _)), (5, .c (.bool false))]) (h := [(103, ⟨0, 3, [[.int _ _, .int _ _, .int _ _]]⟩)]) (h' := []) trivial rfl rfl rfl ?_
      obtain rfl := Option.some.inj h
      exact W_ret (r0 rfl rfl)
    | false =>
      replace h := brF hb2 h
      refine v0 (sPk rfl [] rfl rfl) rfl ?_
      refine v0 (sM rfl [] rfl) rfl ?_
      refine u0 (sFP rfl rfl rfl) rfl rfl rfl ?_
      refine u0 (sLd rfl rfl) rfl rfl rfl ?_
      refine u0 (sFP rfl rfl rfl) rfl rfl rfl ?_
      refine u0 (sLd rfl rfl) rfl rfl rfl ?_
      refine u0 (sLm rfl rfl rfl rfl) rfl rfl rfl ?_
      refine u0 (sBi rfl rfl rfl rfl) rfl rfl rfl ?_
      obtain ⟨r3, hr3, h⟩ := bnd2 h
      refine uB (sCm (w_impl_within K a1.fNo 0 (iSub .i64 (a0.fThings.length : Int) 1) _ hr3) ok_impl_within rfl rfl rfl rfl) rfl rfl rfl rfl fun b4 hb4 => ?_
      cases b4 with
      | true =>
        replace h := brT hb4 h
        refine u0 (sNt rfl rfl) rfl rfl rfl ?_
        refine v0 (sPk rfl [] rfl rfl) rfl ?_
        refine ve ?_
        refine W2 [2, 3, 4, 25] [101, 102, 103] [] (l := [(2, .c (.ptr _ _ _ _)), (3, .c (.ptr _ _ _ _)), (4, .c (.ptr _ _ _ _)), (25, .c (.bool false))]) (h := [(101, ⟨0, 13, [[.int _ _, .int _ _, .int _ _, .int _ _, .int _ _, .int _ _, .int _ _, .int _ _, .row _ _ _, .int _ _, .int _ _, .row _ _ _, .row _ _ _]]⟩), (102, ⟨0, 4, [[.int _ _, .int _ _, .int _ _, .int _ _]]⟩), (103, ⟨0, 3, [[.int _ _, .int _ _, .int _ _]]⟩)]) (h' := []) trivial rfl rfl rfl ?_
        refine W_false rfl ?_
        refine W_skip ?_
        refine W_seq ?_
        refine W_regV he rfl ?_
        refine v0 (sFP rfl rfl rfl) rfl ?_
        refine v0 (sLd rfl rfl) rfl ?_
        refine v0 (sFP rfl rfl rfl) rfl ?_
        refine v0 (sLd rfl rfl) rfl ?_
        obtain ⟨c5, h⟩ := chk h
        refine v0 (sIRm rfl rfl rfl rfl c5) rfl ?_
        refine v0 (sLI rfl rfl (en_impl_Thing (gt a0.fThings a1.fNo)) (gt_at _ c5) rfl rfl rfl) rfl ?_
        refine v0 (sSt rfl rfl [] rfl rfl) rfl ?_
        refine v0 (sA rfl [] rfl) rfl ?_
        refine ve ?_
        refine W2 [4, 5] [103] [] (l := [(4, .c (.ptr _ _ _ _)), (5, .c (.bool true))]) (h := [(103, ⟨0, 3, [[.int _ _, .int _ _, .int _ _]]⟩)]) (h' := []) trivial rfl rfl rfl ?_
        obtain rfl := Option.some.inj h
        exact W_ret (r0 rfl rfl)
      | false =>
        replace h := brF hb4 h
        refine u0 (sNt rfl rfl) rfl rfl rfl ?_
        refine v0 (sPk rfl [] rfl rfl) rfl ?_
        refine ve ?_
        refine W2 [2, 3, 4, 25] [101, 102, 103] [] (l := [(2, .c (.ptr _ _ _ _)), (3, .c (.ptr _ _ _ _)), (4, .c (.ptr _ _ _ _)), (25, .c (.bool true))]) (h := [(101, ⟨0, 13, [[.int _ _, .int _ _, .int _ _, .int _ _, .int _ _, .int _ _, .int _ _, .int _ _, .row _ _ _, .int _ _, .int _ _, .row _ _ _, .row _ _ _]]⟩), (102, ⟨0, 4, [[.int _ _, .int _ _, .int _ _, .int _ _]]⟩), (103, ⟨0, 3, [[.int _ _, .int _ _, .int _ _]]⟩)]) (h' := []) trivial rfl rfl rfl ?_
        refine W_true rfl ?_
        refine W_seq ?_
        refine W_regV he rfl ?_
        refine v0 (sBd rfl [] rfl rfl) rfl ?_
        refine v0 (sSt rfl rfl [] rfl rfl) rfl ?_
        refine v0 (sA rfl [] rfl) rfl ?_
        refine ve ?_
        refine W2 [4, 5] [103] [] (l := [(4, .c (.ptr _ _ _ _)), (5, .c (.bool false))]) (h := [(103, ⟨0, 3, [[.int _ _, .int _ _, .int _ _]]⟩)]) (h' := []) trivial rfl rfl rfl ?_
        obtain rfl := Option.some.inj h
        exact W_ret (r0 rfl rfl)
theorem ok_impl_ThingOf : FnOk Try.prog 103 := ⟨_, Try.func103, rfl, rfl⟩


/-! ### loop.example/g00499/impl.FindThing -/
def m_impl_FindThing (K : Nat) (a0 : T_impl_World) (a1 : T_impl_Ref) : Option (Int × T_impl_Thing × Int) := ((m_impl_RefOk K a1).bind fun r1 => (bif r1 then ((m_impl_FindRoom K a0 a1.fH).bind fun r3 => (bif (r3.2 != 0) then some ((-1), (T_impl_Thing.mk 0 0 0), r3.2) else (if (0 : Int) ≤ r3.1 ∧ r3.1 < (a0.fL.length : Int) then ((m_impl_ThingOf K (gt a0.fL r3.1) a1).bind fun r6 => (bif r6.2 then some (r3.1, r6.1, 0) else some ((-1), (T_impl_Thing.mk 0 0 0), 2))) else none))) else some ((-1), (T_impl_Thing.mk 0 0 0), 1)))
set_option maxRecDepth 20000 in
set_option maxHeartbeats 8000000 in
theorem w_impl_FindThing (K : Nat) (a0 : T_impl_World) (a1 : T_impl_Ref) (r : Int × T_impl_Thing × Int) (h : m_impl_FindThing K a0 a1 = some r) : Sp Try.prog 67 [.g [.int .i64 a0.fC.fChunks, .int .i64 a0.fC.fSize, .int .i64 a0.fC.fSlots, .int .i64 a0.fC.fTax, .int .i64 a0.fC.fSlice, .int .i64 a0.fC.fGens, .row false 1 (a0.fP.fMem.map en_u8), .row false 1 (a0.fP.fSt.map en_i64), .row false 1 (a0.fP.fOwn.map en_i64), .row false 13 (a0.fL.map en_impl_Node), .row false 5 (a0.fQ.map en_impl_Waste), .row false 1 (a0.fLog.map en_i64)], .g [.int .i64 a1.fH.fSlot, .int .i64 a1.fH.fGen, .int .i64 a1.fEp, .int .i64 a1.fNo]] [] (.t [.c (.int .i64 r.1), .g [.int .i64 r.2.1.fAt, .int .i64 r.2.1.fLen, .int .i64 r.2.1.fRun], .c (.int .i64 r.2.2)]) [] := by
  refine Sp.of_W tabOk Try.func67 rfl rfl (Nat.le_of_ble_eq_true rfl) (Nat.le_of_ble_eq_true rfl) fun F hP hN hm => ?_
  obtain ⟨P, N, w0, σ0, β0, m⟩ := F
  obtain rfl : P = Try.prog := hP
  obtain rfl : N = 41 := hN
  obtain rfl : m = 1 := hm
  have he : Env ⟨Try.prog, 41, w0, σ0, β0, 1⟩ tab := ⟨Nat.le_of_ble_eq_true rfl, tabOk⟩
  unfold m_impl_FindThing at h
  refine W_seq ?_
  refine W_regV he rfl ?_
  refine v0 (sBx rfl [] rfl rfl 101 rfl) rfl ?_
  refine v0 (sBx rfl [] rfl rfl 102 rfl) rfl ?_
  refine v0 (sA rfl [] rfl) rfl ?_
  refine v0 (sAl rfl rfl 103 rfl) rfl ?_
  refine v0 (sA rfl [] rfl) rfl ?_
  refine ve ?_
  refine W2 [2, 3, 5] [101, 102, 103] [] (l := [(2, .c (.ptr _ _ _ _)), (3, .c (.ptr _ _ _ _)), (5, .c (.ptr _ _ _ _))]) (h := [(101, ⟨0, 12, [[.int _ _, .int _ _, .int _ _, .int _ _, .int _ _, .int _ _, .row _ _ _, .row _ _ _, .row _ _ _, .row _ _ _, .row _ _ _, .row _ _ _]]⟩), (102, ⟨0, 4, [[.int _ _, .int _ _, .int _ _, .int _ _]]⟩), (103, ⟨0, 3, [[.int _ _, .int _ _, .int _ _]]⟩)]) (h' := []) trivial rfl rfl rfl ?_
  refine W_seq ?_
  refine W_seq ?_
  refine W_regV he rfl ?_
  refine v0 (sLd rfl rfl) rfl ?_
  obtain ⟨r1, hr1, h⟩ := bnd2 h
  refine vB (sCm (w_impl_RefOk K a1 _ hr1) ok_impl_RefOk rfl rfl rfl rfl) rfl rfl fun b2 hb2 => ?_
  cases b2 with
  | true =>
    replace h := brT hb2 h
    refine v0 (sNt rfl rfl) rfl ?_
    refine ve ?_
    refine W2 [2, 3, 5, 13] [101, 102, 103] [] (l := [(2, .c (.ptr _ _ _ _)), (3, .c (.ptr _ _ _ _)), (5, .c (.ptr _ _ _ _)), (13, .c (.bool false))]) (h := [(101, ⟨0, 12, [[.int _ _, .int _ _, .int _ _, .int _ _, .int _ _, .int _ _, .row _ _ _, .row _ _ _, .row _ _ _, .row _ _ _, .row _ _ _, .row _ _ _]]⟩), (102, ⟨0, 4, [[.int _ _, .int _ _, .int _ _, .int _ _]]⟩), (103, ⟨0, 3, [[.int _ _, .int _ _, .int _ _]]⟩)]) (h' := []) trivial rfl rfl rfl ?_
    refine W_false rfl ?_
    refine W_skip ?_
    refine W_seq ?_
    refine W_regV he rfl ?_
    refine v0 (sLd rfl rfl) rfl ?_
    refine v0 (sFP rfl rfl rfl) rfl ?_
    refine v0 (sLd rfl rfl) rfl ?_
    obtain ⟨r3, hr3, h⟩ := bnd2 h
    refine v0 (sCm (w_impl_FindRoom K a0 a1.fH _ hr3) ok_impl_FindRoom rfl rfl rfl rfl) rfl ?_
    refine v0 (sM rfl [] rfl) rfl ?_
    refine v0 (sEx rfl rfl rfl) rfl ?_
    refine v0 (sEx rfl rfl rfl) rfl ?_
    refine v0 (sA rfl [] rfl) rfl ?_
    refine v0 (sA rfl [] rfl) rfl ?_
    refine ve ?_
    refine W2 [2, 3, 5, 7, 8] [101, 102, 103] [] (l := [(2, .c (.ptr _ _ _ _)), (3, .c (.ptr _ _ _ _)), (5, .c (.ptr _ _ _ _)), (7, .c (.int _ _)), (8, .c (.int _ _))]) (h := [(101, ⟨0, 12, [[.int _ _, .int _ _, .int _ _, .int _ _, .int _ _, .int _ _, .row _ _ _, .row _ _ _, .row _ _ _, .row _ _ _, .row _ _ _, .row _ _ _]]⟩), (102, ⟨0, 4, [[.int _ _, .int _ _, .int _ _, .int _ _]]⟩), (103, ⟨0, 3, [[.int _ _, .int _ _, .int _ _]]⟩)]) (h' := []) trivial rfl rfl rfl ?_
    refine W_seq ?_
    refine W_seq ?_
    refine W_regV he rfl ?_
    refine v0 (sM rfl [] rfl) rfl ?_
    refine vB (sBi rfl rfl rfl rfl) rfl rfl fun b4 hb4 => ?_
    cases b4 with
    | true =>
      replace h := brT hb4 h
      refine ve ?_
      refine W2 [2, 3, 5, 7, 8, 23] [101, 102, 103] [] (l := [(2, .c (.ptr _ _ _ _)), (3, .c (.ptr _ _ _ _)), (5, .c (.ptr _ _ _ _)), (7, .c (.int _ _)), (8, .c (.int _ _)), (23, .c (.bool true))]) (h := [(101, ⟨0, 12, [[.int _ _, .int _ _, .int _ _, .int _ _, .int _ _, .int _ _, .row _ _ _, .row _ _ _, .row _ _ _, .row _ _ _, .row _ _ _, .row _ _ _]]⟩), (102, ⟨0, 4, [[.int _ _, .int _ _, .int _ _, .int _ _]]⟩), (103, ⟨0, 3, [[.int _ _, .int _ _, .int _ _]]⟩)]) (h' := []) trivial rfl rfl rfl ?_
      refine W_true rfl ?_
      refine W_seq ?_
      refine W_regV he rfl ?_
      refine v0 (sBd rfl [] rfl rfl) rfl ?_
      refine v0 (sM rfl [] rfl) rfl ?_
      refine v0 (sA rfl [] rfl) rfl ?_
      refine v0 (sSt rfl rfl [] rfl rfl) rfl ?_
      refine v0 (sA rfl [] rfl) rfl ?_
      refine ve ?_
      refine W2 [4, 5, 6] [103] [] (l := [(4, .c (.int _ _)), (5, .c (.ptr _ _ _ _)), (6, .c (.int _ _))]) (h := [(103, ⟨0, 3, [[.int _ _, .int _ _, .int _ _]]⟩)]) (h' := []) trivial rfl rfl rfl ?_
      obtain rfl := Option.some.inj h
      exact W_ret (r0 rfl rfl)
    | false =>
      replace h := brF hb4 h
      refine ve ?_
      refine W2 [2, 3, 5, 7, 8, 23] [101, 102, 103] [] (l := [(2, .c (.ptr _ _ _ _)), (3, .c (.ptr _ _ _ _)), (5, .c (.ptr _ _ _ _)), (7, .c (.int _ _)), (8, .c (.int _ _)), (23, .c (.bool false))]) (h := [(101, ⟨0, 12, [[.int _ _, .int _ _, .int _ _, .int _ _, .int _ _, .int _ _, .row _ _ _, .row _ _ _, .row _ _ _, .row _ _ _, .row _ _ _, .row _ _ _]]⟩), (102, ⟨0, 4, [[.int _ _, .int _ _, .int _ _, .int _ _]]⟩), (103, ⟨0, 3, [[.int _ _, .int _ _, .int _ _]]⟩)]) (h' := []) trivial rfl rfl rfl ?_
      refine W_false rfl ?_
      refine W_skip ?_
      refine W_seq ?_
      refine W_regD he rfl rfl rfl ?_
      refine g0 (sFP rfl rfl rfl) rfl ?_
      refine g0 (sLd rfl rfl) rfl ?_
      refine g0 (sM rfl [] rfl) rfl ?_
      obtain ⟨c5, h⟩ := chk h
      refine g0 (sIRm rfl rfl rfl rfl c5) rfl ?_
      refine g0 (sLI rfl rfl (en_impl_Node (gt a0.fL r3.1)) (gt_at _ c5) rfl rfl rfl) rfl ?_
      refine g0 (sLd rfl rfl) rfl ?_
      obtain ⟨r6, hr6, h⟩ := bnd2 h
      refine g0 (sCm (w_impl_ThingOf K (gt a0.fL r3.1) a1 _ hr6) ok_impl_ThingOf rfl rfl rfl rfl) rfl ?_
      refine g0 (sM rfl [] rfl) rfl ?_
      refine g0 (sEx rfl rfl rfl) rfl ?_
      refine g0 (sEx rfl rfl rfl) rfl ?_
      refine g0 (sAl rfl rfl 104 rfl) rfl ?_
      refine g0 (sSt rfl rfl [] rfl rfl) rfl ?_
      refine g0 (sA rfl [] rfl) rfl ?_
      refine ge ⟨rfl, ?_⟩
      refine W2 [5, 7, 9, 10] [103, 104] [] (l := [(5, .c (.ptr _ _ _ _)), (7, .c (.int _ _)), (9, .c (.ptr _ _ _ _)), (10, .c (.bool _))]) (h := [(103, ⟨0, 3, [[.int _ _, .int _ _, .int _ _]]⟩), (104, ⟨0, 3, [[.int _ _, .int _ _, .int _ _]]⟩)]) (h' := []) trivial rfl rfl rfl ?_
      refine W_seq ?_
      refine W_seq ?_
      refine W_regV he rfl ?_
      refine vB (sM rfl [] rfl) rfl rfl fun b7 hb7 => ?_
      cases b7 with
      | true =>
        replace h := brT hb7 h
        refine v0 (sNt rfl rfl) rfl ?_
        refine ve ?_
        refine W2 [5, 7, 9, 37] [103, 104] [] (l := [(5, .c (.ptr _ _ _ _)), (7, .c (.int _ _)), (9, .c (.ptr _ _ _ _)), (37, .c (.bool false))]) (h := [(103, ⟨0, 3, [[.int _ _, .int _ _, .int _ _]]⟩), (104, ⟨0, 3, [[.int _ _, .int _ _, .int _ _]]⟩)]) (h' := []) trivial rfl rfl rfl ?_
        refine W_false rfl ?_
        refine W_skip ?_
        refine W_seq ?_
        refine W_regD he rfl rfl rfl ?_
        refine g0 (sM rfl [] rfl) rfl ?_
        refine g0 (sLd rfl rfl) rfl ?_
        refine g0 (sA rfl [] rfl) rfl ?_
        refine g0 (sSt rfl rfl [] rfl rfl) rfl ?_
        refine g0 (sA rfl [] rfl) rfl ?_
        refine ge ⟨rfl, ?_⟩
        refine W2 [4, 5, 6] [103] [] (l := [(4, .c (.int _ _)), (5, .c (.ptr _ _ _ _)), (6, .c (.int _ _))]) (h := [(103, ⟨0, 3, [[.int _ _, .int _ _, .int _ _]]⟩)]) (h' := []) trivial rfl rfl rfl ?_
        obtain rfl := Option.some.inj h
        exact W_ret (r0 rfl rfl)
      | false =>
        replace h := brF hb7 h
        refine v0 (sNt rfl rfl) rfl ?_
        refine ve ?_
        refine W2 [5, 7, 9, 37] [103, 104] [] (l := [(5, .c (.ptr _ _ _ _)), (7, .c (.int _ _)), (9, .c (.ptr _ _ _ _)), (37, .c (.bool true))]) (h := [(103, ⟨0, 3, [[.int _ _, .int _ _, .int _ _]]⟩), (104, ⟨0, 3, [[.int _ _, .int _ _, .int _ _]]⟩)]) (h' := []) trivial rfl rfl rfl ?_
        refine W_true rfl ?_
        refine W_seq ?_
        refine W_regV he rfl ?_
        refine v0 (sBd rfl [] rfl rfl) rfl ?_
        refine v0 (sA rfl [] rfl) rfl ?_
        refine v0 (sSt rfl rfl [] rfl rfl) rfl ?_
        refine v0 (sA rfl [] rfl) rfl ?_
        refine ve ?_
        refine W2 [4, 5, 6] [103] [] (l := [(4, .c (.int _ _)), (5, .c (.ptr _ _ _ _)), (6, .c (.int _ _))]) (h := [(103, ⟨0, 3, [[.int _ _, .int _ _, .int _ _]]⟩)]) (h' := []) trivial rfl rfl rfl ?_
        obtain rfl := Option.some.inj h
        exact W_ret (r0 rfl rfl)
  | false =>
    replace h := brF hb2 h
    refine v0 (sNt rfl rfl) rfl ?_
    refine ve ?_
    refine W2 [2, 3, 5, 13] [101, 102, 103] [] (l := [(2, .c (.ptr _ _ _ _)), (3, .c (.ptr _ _ _ _)), (5, .c (.ptr _ _ _ _)), (13, .c (.bool true))]) (h := [(101, ⟨0, 12, [[.int _ _, .int _ _, .int _ _, .int _ _, .int _ _, .int _ _, .row _ _ _, .row _ _ _, .row _ _ _, .row _ _ _, .row _ _ _, .row _ _ _]]⟩), (102, ⟨0, 4, [[.int _ _, .int _ _, .int _ _, .int _ _]]⟩), (103, ⟨0, 3, [[.int _ _, .int _ _, .int _ _]]⟩)]) (h' := []) trivial rfl rfl rfl ?_
    refine W_true rfl ?_
    refine W_seq ?_
    refine W_regV he rfl ?_
    refine v0 (sBd rfl [] rfl rfl) rfl ?_
    refine v0 (sA rfl [] rfl) rfl ?_
    refine v0 (sSt rfl rfl [] rfl rfl) rfl ?_
    refine v0 (sA rfl [] rfl) rfl ?_
    refine ve ?_
    refine W2 [4, 5, 6] [103] [] (l := [(4, .c (.int _ _)), (5, .c (.ptr _ _ _ _)), (6, .c (.int _ _))]) (h := [(103, ⟨0, 3, [[.int _ _, .int _ _, .int _ _]]⟩)]) (h' := []) trivial rfl rfl rfl ?_
    obtain rfl := Option.some.inj h
    exact W_ret (r0 rfl rfl)
theorem ok_impl_FindThing : FnOk Try.prog 67 := ⟨_, Try.func67, rfl, rfl⟩


/-! ### loop.example/g00499/impl.has -/
def m_impl_has (K : Nat) (a0 : Int) (a1 : Int) (a2 : Int) : Option (Bool) := (bif (decide (a2 ≥ 0)) then (bif (decide (a2 ≤ a0)) then ((m_impl_within K a1 0 (iSub .i64 a0 a2)).bind fun r3 => some r3) else some false) else some false)
set_option maxRecDepth 20000 in
set_option maxHeartbeats 8000000 in
theorem w_impl_has (K : Nat) (a0 : Int) (a1 : Int) (a2 : Int) (r : Bool) (h : m_impl_has K a0 a1 a2 = some r) : Sp Try.prog 117 [.c (.int .i64 a0), .c (.int .i64 a1), .c (.int .i64 a2)] [] (.c (.bool r)) [] := by
  refine Sp.of_W tabOk Try.func117 rfl rfl (Nat.le_of_ble_eq_true rfl) (Nat.le_of_ble_eq_true rfl) fun F hP hN hm => ?_
  obtain ⟨P, N, w0, σ0, β0, m⟩ := F
  obtain rfl : P = Try.prog := hP
  obtain rfl : N = 21 := hN
  obtain rfl : m = 1 := hm
  have he : Env ⟨Try.prog, 21, w0, σ0, β0, 1⟩ tab := ⟨Nat.le_of_ble_eq_true rfl, tabOk⟩
  unfold m_impl_has at h
  refine W_seq ?_
  refine W_regV he rfl ?_
  refine v0 (sA rfl [] rfl) rfl ?_
  refine ve ?_
  refine W2 [0, 1, 2] [] [] (l := [(0, .c (.int _ _)), (1, .c (.int _ _)), (2, .c (.int _ _))]) (h := []) (h' := []) trivial rfl rfl rfl ?_
  refine W_seq ?_
  refine W_regV he rfl ?_
  refine v0 (sM rfl [] rfl) rfl ?_
  refine vB (sBi rfl rfl rfl rfl) rfl rfl fun b1 hb1 => ?_
  cases b1 with
  | true =>
    replace h := brT hb1 h
    refine v0 (sM rfl [] rfl) rfl ?_
    refine u0 (sM rfl [] rfl) rfl rfl rfl ?_
    refine u0 (sM rfl [] rfl) rfl rfl rfl ?_
    refine uB (sBi rfl rfl rfl rfl) rfl rfl rfl rfl fun b2 hb2 => ?_
    cases b2 with
    | true =>
      replace h := brT hb2 h
      refine v0 (sPk rfl [] rfl rfl) rfl ?_
      refine v0 (sM rfl [] rfl) rfl ?_
      refine u0 (sM rfl [] rfl) rfl rfl rfl ?_
      refine u0 (sM rfl [] rfl) rfl rfl rfl ?_
      refine u0 (sM rfl [] rfl) rfl rfl rfl ?_
      refine u0 (sBi rfl rfl rfl rfl) rfl rfl rfl ?_
      obtain ⟨r3, hr3, h⟩ := bnd2 h
      refine u0 (sCm (w_impl_within K a1 0 (iSub .i64 a0 a2) _ hr3) ok_impl_within rfl rfl rfl rfl) rfl rfl rfl ?_
      refine v0 (sPk rfl [] rfl rfl) rfl ?_
      refine v0 (sA rfl [] rfl) rfl ?_
      refine ve ?_
      refine W2 [6] [] [] (l := [(6, .c (.bool _))]) (h := []) (h' := []) trivial rfl rfl rfl ?_
      obtain rfl := Option.some.inj h
      exact W_ret (r0 rfl rfl)
    | false =>
      replace h := brF hb2 h
      refine v0 (sPk rfl [] rfl rfl) rfl ?_
      refine v0 (sM rfl [] rfl) rfl ?_
      refine uP rfl rfl rfl rfl ?_
      refine uP rfl rfl rfl rfl ?_
      refine uP rfl rfl rfl rfl ?_
      refine uP rfl rfl rfl rfl ?_
      refine uP rfl rfl rfl rfl ?_
      refine v0 (sPk rfl [] rfl rfl) rfl ?_
      refine v0 (sA rfl [] rfl) rfl ?_
      refine ve ?_
      refine W2 [6] [] [] (l := [(6, .c (.bool false))]) (h := []) (h' := []) trivial rfl rfl rfl ?_
      obtain rfl := Option.some.inj h
      exact W_ret (r0 rfl rfl)
  | false =>
    replace h := brF hb1 h
    refine v0 (sM rfl [] rfl) rfl ?_
    refine uP rfl rfl rfl rfl ?_
    refine uP rfl rfl rfl rfl ?_
    refine uP rfl rfl rfl rfl ?_
    refine v0 (sPk rfl [] rfl rfl) rfl ?_
    refine v0 (sM rfl [] rfl) rfl ?_
    refine uP rfl rfl rfl rfl ?_
    refine uP rfl rfl rfl rfl ?_
    refine uP rfl rfl rfl rfl ?_
    refine uP rfl rfl rfl rfl ?_
    refine uP rfl rfl rfl rfl ?_
    refine v0 (sPk rfl [] rfl rfl) rfl ?_
    refine v0 (sA rfl [] rfl) rfl ?_
    refine ve ?_
    refine W2 [6] [] [] (l := [(6, .c (.bool false))]) (h := []) (h' := []) trivial rfl rfl rfl ?_
    obtain rfl := Option.some.inj h
    exact W_ret (r0 rfl rfl)
theorem ok_impl_has : FnOk Try.prog 117 := ⟨_, Try.func117, rfl, rfl⟩


/-! ### loop.example/g00499/impl.startOf -/
def m_impl_startOf (K : Nat) (a0 : List Int) (a1 : T_impl_Thing) (a2 : Int) (a3 : Int) : Option (Int × Bool) := (bif (decide (a2 < 0)) then some (0, false) else (bif (decide (a3 < 0)) then some (0, false) else (bif (decide (a3 > a1.fLen)) then some (0, false) else (bif (decide (a2 > (iSub .i64 a1.fLen a3))) then some (0, false) else (bif (decide ((iAdd .i64 a1.fAt a2) < 0)) then some (0, false) else ((m_impl_has K (a0.length : Int) (iAdd .i64 a1.fAt a2) a3).bind fun r6 => some ((iAdd .i64 a1.fAt a2), r6)))))))
set_option maxRecDepth 20000 in
set_option maxHeartbeats 8000000 in
theorem w_impl_startOf (K : Nat) (a0 : List Int) (a1 : T_impl_Thing) (a2 : Int) (a3 : Int) (r : Int × Bool) (h : m_impl_startOf K a0 a1 a2 a3 = some r) : Sp Try.prog 108 [.c (.row false 1 (a0.map en_u8)), .g [.int .i64 a1.fAt, .int .i64 a1.fLen, .int .i64 a1.fRun], .c (.int .i64 a2), .c (.int .i64 a3)] [] (.t [.c (.int .i64 r.1), .c (.bool r.2)]) [] := by
  refine Sp.of_W tabOk Try.func108 rfl rfl (Nat.le_of_ble_eq_true rfl) (Nat.le_of_ble_eq_true rfl) fun F hP hN hm => ?_
  obtain ⟨P, N, w0, σ0, β0, m⟩ := F
  obtain rfl : P = Try.prog := hP
  obtain rfl : N = 43 := hN
  obtain rfl : m = 1 := hm
  have he : Env ⟨Try.prog, 43, w0, σ0, β0, 1⟩ tab := ⟨Nat.le_of_ble_eq_true rfl, tabOk⟩
  unfold m_impl_startOf at h
  refine W_seq ?_
  refine W_regV he rfl ?_
  refine v0 (sBx rfl [] rfl rfl 101 rfl) rfl ?_
  refine v0 (sA rfl [] rfl) rfl ?_
  refine v0 (sA rfl [] rfl) rfl ?_
  refine ve ?_
  refine W2 [0, 2, 3, 5] [101] [] (l := [(0, .c (.row _ _ _)), (2, .c (.int _ _)), (3, .c (.int _ _)), (5, .c (.ptr _ _ _ _))]) (h := [(101, ⟨0, 3, [[.int _ _, .int _ _, .int _ _]]⟩)]) (h' := []) trivial rfl rfl rfl ?_
  refine W_seq ?_
  refine W_seq ?_
  refine W_regV he rfl ?_
  refine v0 (sM rfl [] rfl) rfl ?_
  refine vB (sBi rfl rfl rfl rfl) rfl rfl fun b1 hb1 => ?_
  cases b1 with
  | true =>
    replace h := brT hb1 h
    refine v0 (sM rfl [] rfl) rfl ?_
    refine uP rfl rfl rfl rfl ?_
    refine uP rfl rfl rfl rfl ?_
    refine v0 (sPk rfl [] rfl rfl) rfl ?_
    refine v0 (sM rfl [] rfl) rfl ?_
    refine uP rfl rfl rfl rfl ?_
    refine uP rfl rfl rfl rfl ?_
    refine uP rfl rfl rfl rfl ?_
    refine uP rfl rfl rfl rfl ?_
    refine v0 (sPk rfl [] rfl rfl) rfl ?_
    refine v0 (sM rfl [] rfl) rfl ?_
    refine uP rfl rfl rfl rfl ?_
    refine uP rfl rfl rfl rfl ?_
    refine uP rfl rfl rfl rfl ?_
    refine uP rfl rfl rfl rfl ?_
    refine uP rfl rfl rfl rfl ?_
    refine uP rfl rfl rfl rfl ?_
    refine v0 (sPk rfl [] rfl rfl) rfl ?_
    refine ve ?_
    refine W2 [0, 2, 3, 5, 30] [101] [] (l := [(0, .c (.row _ _ _)), (2, .c (.int _ _)), (3, .c (.int _ _)), (5, .c (.ptr _ _ _ _)), (30, .c (.bool true))]) (h := [(101, ⟨0, 3, [[.int _ _, .int _ _, .int _ _]]⟩)]) (h' := []) trivial rfl rfl rfl ?_
    refine W_true rfl ?_
    refine W_seq ?_
    refine W_regV he rfl ?_
    refine v0 (sA rfl [] rfl) rfl ?_
    refine v0 (sA rfl [] rfl) rfl ?_
    refine ve ?_
    refine W2 [8, 9] [] [] (l := [(8, .c (.int _ _)), (9, .c (.bool false))]) (h := []) (h' := []) trivial rfl rfl rfl ?_
    obtain rfl := Option.some.inj h
    exact W_ret (r0 rfl rfl)
  | false =>
    replace h := brF hb1 h
    refine v0 (sM rfl [] rfl) rfl ?_
    refine u0 (sM rfl [] rfl) rfl rfl rfl ?_
    refine uB (sBi rfl rfl rfl rfl) rfl rfl rfl rfl fun b2 hb2 => ?_
    cases b2 with
    | true =>
      replace h := brT hb2 h
      refine v0 (sPk rfl [] rfl rfl) rfl ?_
      refine v0 (sM rfl [] rfl) rfl ?_
      refine uP rfl rfl rfl rfl ?_
      refine uP rfl rfl rfl rfl ?_
      refine uP rfl rfl rfl rfl ?_
      refine uP rfl rfl rfl rfl ?_
      refine v0 (sPk rfl [] rfl rfl) rfl ?_
      refine v0 (sM rfl [] rfl) rfl ?_
      refine uP rfl rfl rfl rfl ?_
      refine uP rfl rfl rfl rfl ?_
      refine uP rfl rfl rfl rfl ?_
      refine uP rfl rfl rfl rfl ?_
      refine uP rfl rfl rfl rfl ?_
      refine uP rfl rfl rfl rfl ?_
      refine v0 (sPk rfl [] rfl rfl) rfl ?_
      refine ve ?_
      refine W2 [0, 2, 3, 5, 30] [101] [] (l := [(0, .c (.row _ _ _)), (2, .c (.int _ _)), (3, .c (.int _ _)), (5, .c (.ptr _ _ _ _)), (30, .c (.bool true))]) (h := [(101, ⟨0, 3, [[.int _ _, .int _ _, .int _ _]]⟩)]) (h' := []) trivial rfl rfl rfl ?_
      refine W_true rfl ?_
      refine W_seq ?_
      refine W_regV he rfl ?_
      refine v0 (sA rfl [] rfl) rfl ?_
      refine v0 (sA rfl [] rfl) rfl ?_
      refine ve ?_
      refine W2 [8, 9] [] [] (l := [(8, .c (.int _ _)), (9, .c (.bool false))]) (h := []) (h' := []) trivial rfl rfl rfl ?_
      obtain rfl := Option.some.inj h
      exact W_ret (r0 rfl rfl)
    | false =>
      replace h := brF hb2 h
      refine v0 (sPk rfl [] rfl rfl) rfl ?_
      refine v0 (sM rfl [] rfl) rfl ?_
      refine u0 (sM rfl [] rfl) rfl rfl rfl ?_
      refine u0 (sFP rfl rfl rfl) rfl rfl rfl ?_
      refine u0 (sLd rfl rfl) rfl rfl rfl ?_
      refine uB (sBi rfl rfl rfl rfl) rfl rfl rfl rfl fun b3 hb3 => ?_
      cases b3 with
      | true =>
        replace h := brT hb3 h
        refine v0 (sPk rfl [] rfl rfl) rfl ?_
        refine v0 (sM rfl [] rfl) rfl ?_
        refine uP rfl rfl rfl rfl ?_
        refine uP rfl rfl rfl rfl ?_
        refine uP rfl rfl rfl rfl ?_
        refine uP rfl rfl rfl rfl ?_
        refine uP rfl rfl rfl rfl ?_
        refine uP rfl rfl rfl rfl ?_
        refine v0 (sPk rfl [] rfl rfl) rfl ?_
        refine ve ?_
        refine W2 [0, 2, 3, 5, 30] [101] [] (l := [(0, .c (.row _ _ _)), (2, .c (.int _ _)), (3, .c (.int _ _)), (5, .c (.ptr _ _ _ _)), (30, .c (.bool true))]) (h := [(101, ⟨0, 3, [[.int _ _, .int _ _, .int _ _]]⟩)]) (h' := []) trivial rfl rfl rfl ?_
        refine W_true rfl ?_
        refine W_seq ?_
        refine W_regV he rfl ?_
        refine v0 (sA rfl [] rfl) rfl ?_
        refine v0 (sA rfl [] rfl) rfl ?_
        refine ve ?_
        refine W2 [8, 9] [] [] (l := [(8, .c (.int _ _)), (9, .c (.bool false))]) (h := []) (h' := []) trivial rfl rfl rfl ?_
        obtain rfl := Option.some.inj h
        exact W_ret (r0 rfl rfl)
      | false =>
        replace h := brF hb3 h
        refine v0 (sPk rfl [] rfl rfl) rfl ?_
        refine v0 (sM rfl [] rfl) rfl ?_
        refine u0 (sM rfl [] rfl) rfl rfl rfl ?_
        refine u0 (sFP rfl rfl rfl) rfl rfl rfl ?_
        refine u0 (sLd rfl rfl) rfl rfl rfl ?_
        refine u0 (sM rfl [] rfl) rfl rfl rfl ?_
        refine u0 (sBi rfl rfl rfl rfl) rfl rfl rfl ?_
        refine uB (sBi rfl rfl rfl rfl) rfl rfl rfl rfl fun b4 hb4 => ?_
        cases b4 with
        | true =>
          replace h := brT hb4 h
          refine v0 (sPk rfl [] rfl rfl) rfl ?_
          refine ve ?_
          refine W2 [0, 2, 3, 5, 30] [101] [] (l := [(0, .c (.row _ _ _)), (2, .c (.int _ _)), (3, .c (.int _ _)), (5, .c (.ptr _ _ _ _)), (30, .c (.bool true))]) (h := [(101, ⟨0, 3, [[.int _ _, .int _ _, .int _ _]]⟩)]) (h' := []) trivial rfl rfl rfl ?_
          refine W_true rfl ?_
          refine W_seq ?_
          refine W_regV he rfl ?_
          refine v0 (sA rfl [] rfl) rfl ?_
          refine v0 (sA rfl [] rfl) rfl ?_
          refine ve ?_
          refine W2 [8, 9] [] [] (l := [(8, .c (.int _ _)), (9, .c (.bool false))]) (h := []) (h' := []) trivial rfl rfl rfl ?_
          obtain rfl := Option.some.inj h
          exact W_ret (r0 rfl rfl)
        | false =>
          replace h := brF hb4 h
          refine v0 (sPk rfl [] rfl rfl) rfl ?_
          refine ve ?_
          refine W2 [0, 2, 3, 5, 30] [101] [] (l := [(0, .c (.row _ _ _)), (2, .c (.int _ _)), (3, .c (.int _ _)), (5, .c (.ptr _ _ _ _)), (30, .c (.bool false))]) (h := [(101, ⟨0, 3, [[.int _ _, .int _ _, .int _ _]]⟩)]) (h' := []) trivial rfl rfl rfl ?_
          refine W_false rfl ?_
          refine W_skip ?_
          refine W_seq ?_
          refine W_regV he rfl ?_
          refine v0 (sFP rfl rfl rfl) rfl ?_
          refine v0 (sLd rfl rfl) rfl ?_
          refine v0 (sM rfl [] rfl) rfl ?_
          refine v0 (sBi rfl rfl rfl rfl) rfl ?_
          refine v0 (sA rfl [] rfl) rfl ?_
          refine ve ?_
          refine W2 [0, 3, 10] [] [] (l := [(0, .c (.row _ _ _)), (3, .c (.int _ _)), (10, .c (.int _ _))]) (h := []) (h' := []) trivial rfl rfl rfl ?_
          refine W_seq ?_
          refine W_seq ?_
          refine W_regV he rfl ?_
          refine v0 (sM rfl [] rfl) rfl ?_
          refine vB (sBi rfl rfl rfl rfl) rfl rfl fun b5 hb5 => ?_
          cases b5 with
          | true =>
            replace h := brT hb5 h
            refine ve ?_
            refine W2 [0, 3, 10, 36] [] [] (l := [(0, .c (.row _ _ _)), (3, .c (.int _ _)), (10, .c (.int _ _)), (36, .c (.bool true))]) (h := []) (h' := []) trivial rfl rfl rfl ?_
            refine W_true rfl ?_
            refine W_seq ?_
            refine W_regV he rfl ?_
            refine v0 (sA rfl [] rfl) rfl ?_
            refine v0 (sA rfl [] rfl) rfl ?_
            refine ve ?_
            refine W2 [8, 9] [] [] (l := [(8, .c (.int _ _)), (9, .c (.bool false))]) (h := []) (h' := []) trivial rfl rfl rfl ?_
            obtain rfl := Option.some.inj h
            exact W_ret (r0 rfl rfl)
          | false =>
            replace h := brF hb5 h
            refine ve ?_
            refine W2 [0, 3, 10, 36] [] [] (l := [(0, .c (.row _ _ _)), (3, .c (.int _ _)), (10, .c (.int _ _)), (36, .c (.bool false))]) (h := []) (h' := []) trivial rfl rfl rfl ?_
            refine W_false rfl ?_
            refine W_skip ?_
            refine W_seq ?_
            refine W_regV he rfl ?_
            refine v0 (sM rfl [] rfl) rfl ?_
            refine v0 (sM rfl [] rfl) rfl ?_
            refine v0 (sLm rfl rfl rfl rfl) rfl ?_
            refine v0 (sM rfl [] rfl) rfl ?_
            refine v0 (sM rfl [] rfl) rfl ?_
            obtain ⟨r6, hr6, h⟩ := bnd2 h
            refine v0 (sCm (w_impl_has K (a0.length : Int) (iAdd .i64 a1.fAt a2) a3 _ hr6) ok_impl_has rfl rfl rfl rfl) rfl ?_
            refine v0 (sA rfl [] rfl) rfl ?_
            refine v0 (sA rfl [] rfl) rfl ?_
            refine ve ?_
            refine W2 [8, 9] [] [] (l := [(8, .c (.int _ _)), (9, .c (.bool _))]) (h := []) (h' := []) trivial rfl rfl rfl ?_
            obtain rfl := Option.some.inj h
            exact W_ret (r0 rfl rfl)
theorem ok_impl_startOf : FnOk Try.prog 108 := ⟨_, Try.func108, rfl, rfl⟩


/-! ### slices.Clone[[]byte,byte] -/
def m_slices_Clone_byte_byte (K : Nat) (a0 : List Int) : Option ((List Int)) := (if (([] : List Int) ++ a0).length * 1 ≤ 140737488355328 ∧ (([] : List Int) ++ a0).length ≤ maxLen then some (([] : List Int) ++ a0) else none)
set_option maxRecDepth 20000 in
set_option maxHeartbeats 8000000 in
theorem w_slices_Clone_byte_byte (K : Nat) (a0 : List Int) (r : (List Int)) (h : m_slices_Clone_byte_byte K a0 = some r) : Sp Try.prog 118 [.c (.row false 1 (a0.map en_u8))] [] (.c (.row false 1 (r.map en_u8))) [] := by
  refine Sp.of_W tabOk Try.func118 rfl rfl (Nat.le_of_ble_eq_true rfl) (Nat.le_of_ble_eq_true rfl) fun F hP hN hm => ?_
  obtain ⟨P, N, w0, σ0, β0, m⟩ := F
  obtain rfl : P = Try.prog := hP
  obtain rfl : N = 8 := hN
  obtain rfl : m = 1 := hm
  have he : Env ⟨Try.prog, 8, w0, σ0, β0, 1⟩ tab := ⟨Nat.le_of_ble_eq_true rfl, tabOk⟩
  unfold m_slices_Clone_byte_byte at h
  refine W_seq ?_
  refine W_regV he rfl ?_
  refine v0 (sA rfl [1] rfl) rfl ?_
  refine ve ?_
  refine W2 [0] [] [] (l := [(0, .c (.row _ _ _))]) (h := []) (h' := []) trivial rfl rfl rfl ?_
  refine W_seq ?_
  refine W_seq ?_
  refine W_regV he rfl ?_
  refine v0 (sM rfl [] rfl) rfl ?_
  refine vN rfl rfl rfl rfl rfl fun b1 hb1 => ?_
  cases b1 with
  | false =>
    refine ve ?_
    refine W2 [0, 4] [] [] (l := [(0, .c (.row _ _ _)), (4, .c (.bool false))]) (h := []) (h' := []) trivial rfl rfl rfl ?_
    refine W_false rfl ?_
    refine W_skip ?_
    refine W_seq ?_
    refine W_regV he rfl ?_
    refine v0 (sBS rfl 1005 (rows := ([] : List Int).map en_u8) rfl rfl rfl (by kernel_rfl) rfl rfl rfl rfl) rfl ?_
    refine v0 (sM rfl [] rfl) rfl ?_
    obtain ⟨c2, h⟩ := chk h
    refine v0 (sAo rfl 1002 ([] : List Int) a0 enOk_u8 rfl rfl rfl rfl rfl rfl rfl rfl rfl rfl rfl c2) rfl ?_
    refine v0 (sA rfl [] rfl) rfl ?_
    refine ve ?_
    refine W2 [2] [] [1002] (l := [(2, .c (.own _ _ _ _))]) (h := []) (h' := [(1002, ⟨0, 1, (([] : List Int) ++ a0).map en_u8⟩)]) ⟨⟨_, rfl, enOk_u8.allClosed _ _ (([] : List Int) ++ a0)⟩, trivial⟩ rfl rfl rfl ?_
    obtain rfl := Option.some.inj h
    refine W.weak (wk_row (l := (([] : List Int) ++ a0)) 2 enOk_u8 rfl rfl) ?_
    exact W_ret (r0 rfl rfl)
  | true =>
    have hzb1 : a0 = [] := List.map_eq_nil_iff.1 (hb1 rfl)
    replace h : some [] = some r := by simpa [hzb1] using h
    refine ve ?_
    refine W2 [0, 4] [] [] (l := [(0, .c (.row _ _ _)), (4, .c (.bool true))]) (h := []) (h' := []) trivial rfl rfl rfl ?_
    refine W_true rfl ?_
    refine W_seq ?_
    refine W_regV he rfl ?_
    refine v0 (sA rfl [1] rfl) rfl ?_
    refine ve ?_
    refine W2 [2] [] [] (l := [(2, .c (.row _ _ _))]) (h := []) (h' := []) trivial rfl rfl rfl ?_
    obtain rfl := Option.some.inj h
    exact W_ret (r0 rfl rfl)
theorem ok_slices_Clone_byte_byte : FnOk Try.prog 118 := ⟨_, Try.func118, rfl, rfl⟩


/-! ### loop.example/g00499/impl.GetAt -/
def m_impl_GetAt (K : Nat) (a0 : List Int) (a1 : Int) (a2 : Int) : Option ((List Int) × Bool) := ((m_impl_has K (a0.length : Int) a1 a2).bind fun r1 => (bif r1 then (if (0 : Int) ≤ a1 ∧ a1 ≤ (iAdd .i64 a1 a2) ∧ (iAdd .i64 a1 a2) ≤ (a0.length : Int) then ((m_slices_Clone_byte_byte K ((a0.drop a1.toNat).take ((iAdd .i64 a1 a2) - a1).toNat)).bind fun r4 => some (r4, true)) else none) else some ([], false)))
set_option maxRecDepth 20000 in
set_option maxHeartbeats 8000000 in
theorem w_impl_GetAt (K : Nat) (a0 : List Int) (a1 : Int) (a2 : Int) (r : (List Int) × Bool) (h : m_impl_GetAt K a0 a1 a2 = some r) : Sp Try.prog 109 [.c (.row false 1 (a0.map en_u8)), .c (.int .i64 a1), .c (.int .i64 a2)] [] (.t [.c (.row false 1 (r.1.map en_u8)), .c (.bool r.2)]) [] := by
  refine Sp.of_W tabOk Try.func109 rfl rfl (Nat.le_of_ble_eq_true rfl) (Nat.le_of_ble_eq_true rfl) fun F hP hN hm => ?_
  obtain ⟨P, N, w0, σ0, β0, m⟩ := F
  obtain rfl : P = Try.prog := hP
  obtain rfl : N = 21 := hN
  obtain rfl : m = 1 := hm
  have he : Env ⟨Try.prog, 21, w0, σ0, β0, 1⟩ tab := ⟨Nat.le_of_ble_eq_true rfl, tabOk⟩
  unfold m_impl_GetAt at h
  refine W_seq ?_
  refine W_regV he rfl ?_
  refine v0 (sA rfl [1] rfl) rfl ?_
  refine v0 (sA rfl [] rfl) rfl ?_
  refine ve ?_
  refine W2 [0, 1, 2] [] [] (l := [(0, .c (.row _ _ _)), (1, .c (.int _ _)), (2, .c (.int _ _))]) (h := []) (h' := []) trivial rfl rfl rfl ?_
  refine W_seq ?_
  refine W_seq ?_
  refine W_regV he rfl ?_
  refine v0 (sM rfl [] rfl) rfl ?_
  refine v0 (sLm rfl rfl rfl rfl) rfl ?_
  refine v0 (sM rfl [] rfl) rfl ?_
  refine v0 (sM rfl [] rfl) rfl ?_
  obtain ⟨r1, hr1, h⟩ := bnd2 h
  refine vB (sCm (w_impl_has K (a0.length : Int) a1 a2 _ hr1) ok_impl_has rfl rfl rfl rfl) rfl rfl fun b2 hb2 => ?_
  cases b2 with
  | true =>
    replace h := brT hb2 h
    refine v0 (sNt rfl rfl) rfl ?_
    refine ve ?_
    refine W2 [0, 1, 2, 13] [] [] (l := [(0, .c (.row _ _ _)), (1, .c (.int _ _)), (2, .c (.int _ _)), (13, .c (.bool false))]) (h := []) (h' := []) trivial rfl rfl rfl ?_
    refine W_false rfl ?_
    refine W_skip ?_
    refine W_seq ?_
    refine W_regV he rfl ?_
    refine v0 (sM rfl [] rfl) rfl ?_
    refine v0 (sM rfl [] rfl) rfl ?_
    refine v0 (sM rfl [] rfl) rfl ?_
    refine v0 (sM rfl [] rfl) rfl ?_
    refine v0 (sBi rfl rfl rfl rfl) rfl ?_
    obtain ⟨c3, h⟩ := chk h
    refine v0 (sSlM rfl rfl rfl rfl rfl c3) rfl ?_
    obtain ⟨r4, hr4, h⟩ := bnd2 h
    refine v0 (sCm (w_slices_Clone_byte_byte K ((a0.drop a1.toNat).take ((iAdd .i64 a1 a2) - a1).toNat) _ hr4) ok_slices_Clone_byte_byte rfl rfl rfl rfl) rfl ?_
    refine v0 (sA rfl [] rfl) rfl ?_
    refine v0 (sA rfl [] rfl) rfl ?_
    refine ve ?_
    refine W2 [6, 7] [] [] (l := [(6, .c (.row _ _ _)), (7, .c (.bool true))]) (h := []) (h' := []) trivial rfl rfl rfl ?_
    obtain rfl := Option.some.inj h
    exact W_ret (r0 rfl rfl)
  | false =>
    replace h := brF hb2 h
    refine v0 (sNt rfl rfl) rfl ?_
    refine ve ?_
    refine W2 [0, 1, 2, 13] [] [] (l := [(0, .c (.row _ _ _)), (1, .c (.int _ _)), (2, .c (.int _ _)), (13, .c (.bool true))]) (h := []) (h' := []) trivial rfl rfl rfl ?_
    refine W_true rfl ?_
    refine W_seq ?_
    refine W_regV he rfl ?_
    refine v0 (sA rfl [1] rfl) rfl ?_
    refine v0 (sA rfl [] rfl) rfl ?_
    refine ve ?_
    refine W2 [6, 7] [] [] (l := [(6, .c (.row _ _ _)), (7, .c (.bool false))]) (h := []) (h' := []) trivial rfl rfl rfl ?_
    obtain rfl := Option.some.inj h
    exact W_ret (r0 rfl rfl)
theorem ok_impl_GetAt : FnOk Try.prog 109 := ⟨_, Try.func109, rfl, rfl⟩


/-! ### loop.example/g00499/impl.ReadThing -/
def m_impl_ReadThing (K : Nat) (a0 : List Int) (a1 : T_impl_Thing) (a2 : Int) (a3 : Int) : Option ((List Int) × Bool) := ((m_impl_startOf K a0 a1 a2 a3).bind fun r1 => (bif r1.2 then ((m_impl_GetAt K a0 r1.1 a3).bind fun r3 => some (r3.1, r3.2)) else some ([], false)))
set_option maxRecDepth 20000 in
set_option maxHeartbeats 8000000 in
theorem w_impl_ReadThing (K : Nat) (a0 : List Int) (a1 : T_impl_Thing) (a2 : Int) (a3 : Int) (r : (List Int) × Bool) (h : m_impl_ReadThing K a0 a1 a2 a3 = some r) : Sp Try.prog 74 [.c (.row false 1 (a0.map en_u8)), .g [.int .i64 a1.fAt, .int .i64 a1.fLen, .int .i64 a1.fRun], .c (.int .i64 a2), .c (.int .i64 a3)] [] (.t [.c (.row false 1 (r.1.map en_u8)), .c (.bool r.2)]) [] := by
  refine Sp.of_W tabOk Try.func74 rfl rfl (Nat.le_of_ble_eq_true rfl) (Nat.le_of_ble_eq_true rfl) fun F hP hN hm => ?_
  obtain ⟨P, N, w0, σ0, β0, m⟩ := F
  obtain rfl : P = Try.prog := hP
  obtain rfl : N = 28 := hN
  obtain rfl : m = 1 := hm
  have he : Env ⟨Try.prog, 28, w0, σ0, β0, 1⟩ tab := ⟨Nat.le_of_ble_eq_true rfl, tabOk⟩
  unfold m_impl_ReadThing at h
  refine W_seq ?_
  refine W_regV he rfl ?_
  refine v0 (sBx rfl [] rfl rfl 101 rfl) rfl ?_
  refine v0 (sA rfl [1] rfl) rfl ?_
  refine v0 (sA rfl [] rfl) rfl ?_
  refine ve ?_
  refine W2 [0, 2, 3, 5] [101] [] (l := [(0, .c (.row _ _ _)), (2, .c (.int _ _)), (3, .c (.int _ _)), (5, .c (.ptr _ _ _ _))]) (h := [(101, ⟨0, 3, [[.int _ _, .int _ _, .int _ _]]⟩)]) (h' := []) trivial rfl rfl rfl ?_
  refine W_seq ?_
  refine W_regV he rfl ?_
  refine v0 (sM rfl [] rfl) rfl ?_
  refine v0 (sLd rfl rfl) rfl ?_
  refine v0 (sM rfl [] rfl) rfl ?_
  refine v0 (sM rfl [] rfl) rfl ?_
  obtain ⟨r1, hr1, h⟩ := bnd2 h
  refine v0 (sCm (w_impl_startOf K a0 a1 a2 a3 _ hr1) ok_impl_startOf rfl rfl rfl rfl) rfl ?_
  refine v0 (sM rfl [] rfl) rfl ?_
  refine v0 (sEx rfl rfl rfl) rfl ?_
  refine v0 (sEx rfl rfl rfl) rfl ?_
  refine v0 (sA rfl [] rfl) rfl ?_
  refine v0 (sA rfl [] rfl) rfl ?_
  refine ve ?_
  refine W2 [0, 3, 10, 11] [] [] (l := [(0, .c (.row _ _ _)), (3, .c (.int _ _)), (10, .c (.int _ _)), (11, .c (.bool _))]) (h := []) (h' := []) trivial rfl rfl rfl ?_
  refine W_seq ?_
  refine W_seq ?_
  refine W_regV he rfl ?_
  refine vB (sM rfl [] rfl) rfl rfl fun b2 hb2 => ?_
  cases b2 with
  | true =>
    replace h := brT hb2 h
    refine v0 (sNt rfl rfl) rfl ?_
    refine ve ?_
    refine W2 [0, 3, 10, 21] [] [] (l := [(0, .c (.row _ _ _)), (3, .c (.int _ _)), (10, .c (.int _ _)), (21, .c (.bool false))]) (h := []) (h' := []) trivial rfl rfl rfl ?_
    refine W_false rfl ?_
    refine W_skip ?_
    refine W_seq ?_
    refine W_regV he rfl ?_
    refine v0 (sM rfl [] rfl) rfl ?_
    refine v0 (sM rfl [] rfl) rfl ?_
    refine v0 (sM rfl [] rfl) rfl ?_
    obtain ⟨r3, hr3, h⟩ := bnd2 h
    refine v0 (sCm (w_impl_GetAt K a0 r1.1 a3 _ hr3) ok_impl_GetAt rfl rfl rfl rfl) rfl ?_
    refine v0 (sEx rfl rfl rfl) rfl ?_
    refine v0 (sEx rfl rfl rfl) rfl ?_
    refine v0 (sA rfl [] rfl) rfl ?_
    refine v0 (sA rfl [] rfl) rfl ?_
    refine ve ?_
    refine W2 [8, 9] [] [] (l := [(8, .c (.row _ _ _)), (9, .c (.bool _))]) (h := []) (h' := []) trivial rfl rfl rfl ?_
    obtain rfl := Option.some.inj h
    exact W_ret (r0 rfl rfl)
  | false =>
    replace h := brF hb2 h
    refine v0 (sNt rfl rfl) rfl ?_
    refine ve ?_
    refine W2 [0, 3, 10, 21] [] [] (l := [(0, .c (.row _ _ _)), (3, .c (.int _ _)), (10, .c (.int _ _)), (21, .c (.bool true))]) (h := []) (h' := []) trivial rfl rfl rfl ?_
    refine W_true rfl ?_
    refine W_seq ?_
    refine W_regV he rfl ?_
    refine v0 (sA rfl [1] rfl) rfl ?_
    refine v0 (sA rfl [] rfl) rfl ?_
    refine ve ?_
    refine W2 [8, 9] [] [] (l := [(8, .c (.row _ _ _)), (9, .c (.bool false))]) (h := []) (h' := []) trivial rfl rfl rfl ?_
    obtain rfl := Option.some.inj h
    exact W_ret (r0 rfl rfl)
theorem ok_impl_ReadThing : FnOk Try.prog 74 := ⟨_, Try.func74, rfl, rfl⟩


/-! ### loop.example/g00499/impl.IsZero$1 -/
def m_impl_IsZero_1 (K : Nat) (a0 : Int) : Option (Bool) := some (a0 != 0)
set_option maxRecDepth 20000 in
set_option maxHeartbeats 8000000 in
theorem w_impl_IsZero_1 (K : Nat) (a0 : Int) (r : Bool) (h : m_impl_IsZero_1 K a0 = some r) : Sp Try.prog 111 [.c (.int .u8 a0)] [] (.c (.bool r)) [] := by
  refine Sp.of_W tabOk Try.func111 rfl rfl (Nat.le_of_ble_eq_true rfl) (Nat.le_of_ble_eq_true rfl) fun F hP hN hm => ?_
  obtain ⟨P, N, w0, σ0, β0, m⟩ := F
  obtain rfl : P = Try.prog := hP
  obtain rfl : N = 5 := hN
  obtain rfl : m = 1 := hm
  have he : Env ⟨Try.prog, 5, w0, σ0, β0, 1⟩ tab := ⟨Nat.le_of_ble_eq_true rfl, tabOk⟩
  unfold m_impl_IsZero_1 at h
  refine W_seq ?_
  refine W_regV he rfl ?_
  refine v0 (sA rfl [] rfl) rfl ?_
  refine ve ?_
  refine W2 [0] [] [] (l := [(0, .c (.int _ _))]) (h := []) (h' := []) trivial rfl rfl rfl ?_
  refine W_seq ?_
  refine W_regV he rfl ?_
  refine v0 (sM rfl [] rfl) rfl ?_
  refine v0 (sBi rfl rfl rfl rfl) rfl ?_
  refine v0 (sA rfl [] rfl) rfl ?_
  refine ve ?_
  refine W2 [2] [] [] (l := [(2, .c (.bool _))]) (h := []) (h' := []) trivial rfl rfl rfl ?_
  obtain rfl := Option.some.inj h
  exact W_ret (r0 rfl rfl)
theorem ok_impl_IsZero_1 : FnOk Try.prog 111 := ⟨_, Try.func111, rfl, rfl⟩


/-! ### slices.IndexFunc[[]byte,byte] -/
def l_slices_IndexFunc_byte_byte_impl_IsZero_1_2 (K : Nat) (a0 : List Int) : Nat → Int → Option (Int)
  | 0, _ => none
  | n2 + 1, v1 => (bif (decide (v1 < (a0.length : Int))) then (if (0 : Int) ≤ v1 ∧ v1 < (a0.length : Int) then ((m_impl_IsZero_1 K (gt a0 v1)).bind fun r5 => (bif r5 then some v1 else (l_slices_IndexFunc_byte_byte_impl_IsZero_1_2 K a0 n2 (iAdd .i64 v1 1)))) else none) else some (-1))
def m_slices_IndexFunc_byte_byte_impl_IsZero_1 (K : Nat) (a0 : List Int) : Option (Int) := (l_slices_IndexFunc_byte_byte_impl_IsZero_1_2 K a0 K 0)
set_option maxRecDepth 20000 in
set_option maxHeartbeats 8000000 in
theorem w_slices_IndexFunc_byte_byte_impl_IsZero_1 (K : Nat) (a0 : List Int) (r : Int) (h : m_slices_IndexFunc_byte_byte_impl_IsZero_1 K a0 = some r) : Sp Try.prog 119 [.c (.row false 1 (a0.map en_u8)), .c (.fn 111 [])] [] (.c (.int .i64 r)) [] := by
  refine Sp.of_W tabOk Try.func119 rfl rfl (Nat.le_of_ble_eq_true rfl) (Nat.le_of_ble_eq_true rfl) fun F hP hN hm => ?_
  obtain ⟨P, N, w0, σ0, β0, m⟩ := F
  obtain rfl : P = Try.prog := hP
  obtain rfl : N = 19 := hN
  obtain rfl : m = 1 := hm
  have he : Env ⟨Try.prog, 19, w0, σ0, β0, 1⟩ tab := ⟨Nat.le_of_ble_eq_true rfl, tabOk⟩
  unfold m_slices_IndexFunc_byte_byte_impl_IsZero_1 at h
  refine W_seq ?_
  refine W_regV he rfl ?_
  refine v0 (sA rfl [] rfl) rfl ?_
  refine ve ?_
  refine W2 [0, 1] [] [] (l := [(0, .c (.row _ _ _)), (1, .c (.fn _ _))]) (h := []) (h' := []) trivial rfl rfl rfl ?_
  refine W_seq ?_
  refine W_seq ?_
  refine W_regV he rfl ?_
  refine v0 (sM rfl [] rfl) rfl ?_
  refine v0 (sLm rfl rfl rfl rfl) rfl ?_
  refine v0 (sM rfl [] rfl) rfl ?_
  refine ve ?_
  refine W2 [0, 1, 7, 8] [] [] (l := [(0, .c (.row _ _ _)), (1, .c (.fn _ _)), (7, .c (.int _ _)), (8, .c (.int _ _))]) (h := []) (h' := []) trivial rfl rfl rfl ?_
  refine W_block ?_
  refine W2 [0, 1, 7, 8] [] [] (l := [(0, .c (.row _ _ _)), (1, .c (.fn _ _)), (7, .c (.int _ _)), (8, .c (.int _ _))]) (h := []) (h' := []) trivial rfl rfl rfl ?_
  refine W_loopW (fun n2 S => ∃ (v1 : Int), S = StL [(0, .c (.row false 1 (a0.map en_u8))), (1, .c (.fn 111 [])), (7, .c (.int .i64 (a0.length : Int))), (8, .c (.int .i64 v1))] ([] ++ []) ∧ l_slices_IndexFunc_byte_byte_impl_IsZero_1_2 K a0 n2 v1 = some r) K ⟨_, rfl, h⟩ ?_
  rintro n2 S ⟨v1, rfl, h⟩
  cases n2 with
  | zero => simp [l_slices_IndexFunc_byte_byte_impl_IsZero_1_2] at h
  | succ n2 =>
    rw [l_slices_IndexFunc_byte_byte_impl_IsZero_1_2] at h
    refine W_seq ?_
    refine W_regV he rfl ?_
    refine vB (sBi rfl rfl rfl rfl) rfl rfl fun b3 hb3 => ?_
    cases b3 with
    | true =>
      replace h := brT hb3 h
      refine ve ?_
      refine W2 [0, 1, 7, 8, 9] [] [] (l := [(0, .c (.row _ _ _)), (1, .c (.fn _ _)), (7, .c (.int _ _)), (8, .c (.int _ _)), (9, .c (.bool true))]) (h := []) (h' := []) trivial rfl rfl rfl ?_
      refine W_seq ?_
      refine W_true rfl ?_
      refine W_skip ?_
      refine W_seq ?_
      refine W_block ?_
      refine W_seq ?_
      refine W_regV he rfl ?_
      refine v0 (sM rfl [] rfl) rfl ?_
      refine v0 (sA rfl [] rfl) rfl ?_
      refine ve ?_
      refine W2 [0, 1, 5, 7, 8] [] [] (l := [(0, .c (.row _ _ _)), (1, .c (.fn _ _)), (5, .c (.int _ _)), (7, .c (.int _ _)), (8, .c (.int _ _))]) (h := []) (h' := []) trivial rfl rfl rfl ?_
      refine W_seq ?_
      refine W_regV he rfl ?_
      refine v0 (sM rfl [] rfl) rfl ?_
      refine v0 (sM rfl [] rfl) rfl ?_
      refine v0 (sM rfl [] rfl) rfl ?_
      obtain ⟨c4, h⟩ := chk h
      refine v0 (sIRm rfl rfl rfl rfl c4) rfl ?_
      refine v0 (sLI rfl rfl (en_u8 (gt a0 v1)) (gt_at _ c4) rfl rfl rfl) rfl ?_
      obtain ⟨r5, hr5, h⟩ := bnd2 h
      refine vB (sCm (w_impl_IsZero_1 K (gt a0 v1) _ hr5) ok_impl_IsZero_1 rfl rfl rfl rfl) rfl rfl fun b6 hb6 => ?_
      cases b6 with
      | true =>
        replace h := brT hb6 h
        refine ve ?_
        refine W2 [0, 1, 5, 7, 8, 16] [] [] (l := [(0, .c (.row _ _ _)), (1, .c (.fn _ _)), (5, .c (.int _ _)), (7, .c (.int _ _)), (8, .c (.int _ _)), (16, .c (.bool true))]) (h := []) (h' := []) trivial rfl rfl rfl ?_
        refine W_true rfl ?_
        refine W_seq ?_
        refine W_regV he rfl ?_
        refine v0 (sM rfl [] rfl) rfl ?_
        refine v0 (sA rfl [] rfl) rfl ?_
        refine ve ?_
        refine W2 [4] [] [] (l := [(4, .c (.int _ _))]) (h := []) (h' := []) trivial rfl rfl rfl ?_
        obtain rfl := Option.some.inj h
        exact W_ret (r0 rfl rfl)
      | false =>
        replace h := brF hb6 h
        refine ve ?_
        refine W2 [0, 1, 5, 7, 8, 16] [] [] (l := [(0, .c (.row _ _ _)), (1, .c (.fn _ _)), (5, .c (.int _ _)), (7, .c (.int _ _)), (8, .c (.int _ _)), (16, .c (.bool false))]) (h := []) (h' := []) trivial rfl rfl rfl ?_
        refine W_false rfl ?_
        refine W_skip ?_
        refine W_regV he rfl ?_
        refine v0 (sBi rfl rfl rfl rfl) rfl ?_
        refine v0 (sM rfl [] rfl) rfl ?_
        refine ve ?_
        exact ⟨n2, _, Nat.lt_succ_self n2, wk2 [0, 1, 7, 8] [] [] (l := [(0, .c (.row _ _ _)), (1, .c (.fn _ _)), (7, .c (.int _ _)), (8, .c (.int _ _))]) (h := []) (h' := []) trivial rfl rfl rfl, _, rfl, h⟩
    | false =>
      replace h := brF hb3 h
      refine ve ?_
      refine W2 [0, 1, 7, 8, 9] [] [] (l := [(0, .c (.row _ _ _)), (1, .c (.fn _ _)), (7, .c (.int _ _)), (8, .c (.int _ _)), (9, .c (.bool false))]) (h := []) (h' := []) trivial rfl rfl rfl ?_
      refine W_seq ?_
      refine W_false rfl ?_
      refine W_exit (ex_then (ex_then (ex_hit ?_)))
      refine W_seq ?_
      refine W_regV he rfl ?_
      refine v0 (sA rfl [] rfl) rfl ?_
      refine ve ?_
      refine W2 [4] [] [] (l := [(4, .c (.int _ _))]) (h := []) (h' := []) trivial rfl rfl rfl ?_
      obtain rfl := Option.some.inj h
      exact W_ret (r0 rfl rfl)
theorem ok_slices_IndexFunc_byte_byte : FnOk Try.prog 119 := ⟨_, Try.func119, rfl, rfl⟩


/-! ### slices.ContainsFunc[[]byte,byte] -/
def m_slices_ContainsFunc_byte_byte_impl_IsZero_1 (K : Nat) (a0 : List Int) : Option (Bool) := ((m_slices_IndexFunc_byte_byte_impl_IsZero_1 K a0).bind fun r1 => some (decide (r1 ≥ 0)))
set_option maxRecDepth 20000 in
set_option maxHeartbeats 8000000 in
theorem w_slices_ContainsFunc_byte_byte_impl_IsZero_1 (K : Nat) (a0 : List Int) (r : Bool) (h : m_slices_ContainsFunc_byte_byte_impl_IsZero_1 K a0 = some r) : Sp Try.prog 110 [.c (.row false 1 (a0.map en_u8)), .c (.fn 111 [])] [] (.c (.bool r)) [] := by
  refine Sp.of_W tabOk Try.func110 rfl rfl (Nat.le_of_ble_eq_true rfl) (Nat.le_of_ble_eq_true rfl) fun F hP hN hm => ?_
  obtain ⟨P, N, w0, σ0, β0, m⟩ := F
  obtain rfl : P = Try.prog := hP
  obtain rfl : N = 9 := hN
  obtain rfl : m = 1 := hm
  have he : Env ⟨Try.prog, 9, w0, σ0, β0, 1⟩ tab := ⟨Nat.le_of_ble_eq_true rfl, tabOk⟩
  unfold m_slices_ContainsFunc_byte_byte_impl_IsZero_1 at h
  refine W_seq ?_
  refine W_regV he rfl ?_
  refine v0 (sA rfl [] rfl) rfl ?_
  refine ve ?_
  refine W2 [0, 1] [] [] (l := [(0, .c (.row _ _ _)), (1, .c (.fn _ _))]) (h := []) (h' := []) trivial rfl rfl rfl ?_
  refine W_seq ?_
  refine W_regV he rfl ?_
  refine v0 (sM rfl [] rfl) rfl ?_
  refine v0 (sM rfl [] rfl) rfl ?_
  obtain ⟨r1, hr1, h⟩ := bnd2 h
  refine v0 (sCm (w_slices_IndexFunc_byte_byte_impl_IsZero_1 K a0 _ hr1) ok_slices_IndexFunc_byte_byte rfl rfl rfl rfl) rfl ?_
  refine v0 (sBi rfl rfl rfl rfl) rfl ?_
  refine v0 (sA rfl [] rfl) rfl ?_
  refine ve ?_
  refine W2 [4] [] [] (l := [(4, .c (.bool _))]) (h := []) (h' := []) trivial rfl rfl rfl ?_
  obtain rfl := Option.some.inj h
  exact W_ret (r0 rfl rfl)
theorem ok_slices_ContainsFunc_byte_byte : FnOk Try.prog 110 := ⟨_, Try.func110, rfl, rfl⟩


/-! ### loop.example/g00499/impl.IsZero -/
def m_impl_IsZero (K : Nat) (a0 : List Int) : Option (Bool) := ((m_slices_ContainsFunc_byte_byte_impl_IsZero_1 K a0).bind fun r1 => some (!r1))
set_option maxRecDepth 20000 in
set_option maxHeartbeats 8000000 in
theorem w_impl_IsZero (K : Nat) (a0 : List Int) (r : Bool) (h : m_impl_IsZero K a0 = some r) : Sp Try.prog 75 [.c (.row false 1 (a0.map en_u8))] [] (.c (.bool r)) [] := by
  refine Sp.of_W tabOk Try.func75 rfl rfl (Nat.le_of_ble_eq_true rfl) (Nat.le_of_ble_eq_true rfl) fun F hP hN hm => ?_
  obtain ⟨P, N, w0, σ0, β0, m⟩ := F
  obtain rfl : P = Try.prog := hP
  obtain rfl : N = 6 := hN
  obtain rfl : m = 1 := hm
  have he : Env ⟨Try.prog, 6, w0, σ0, β0, 1⟩ tab := ⟨Nat.le_of_ble_eq_true rfl, tabOk⟩
  unfold m_impl_IsZero at h
  refine W_seq ?_
  refine W_regV he rfl ?_
  refine v0 (sA rfl [] rfl) rfl ?_
  refine ve ?_
  refine W2 [0] [] [] (l := [(0, .c (.row _ _ _))]) (h := []) (h' := []) trivial rfl rfl rfl ?_
  refine W_seq ?_
  refine W_regV he rfl ?_
  refine v0 (sM rfl [] rfl) rfl ?_
  obtain ⟨r1, hr1, h⟩ := bnd2 h
  refine v0 (sCm (w_slices_ContainsFunc_byte_byte_impl_IsZero_1 K a0 _ hr1) ok_slices_ContainsFunc_byte_byte rfl rfl rfl rfl) rfl ?_
  refine v0 (sNt rfl rfl) rfl ?_
  refine v0 (sA rfl [] rfl) rfl ?_
  refine ve ?_
  refine W2 [2] [] [] (l := [(2, .c (.bool _))]) (h := []) (h' := []) trivial rfl rfl rfl ?_
  obtain rfl := Option.some.inj h
  exact W_ret (r0 rfl rfl)
theorem ok_impl_IsZero : FnOk Try.prog 75 := ⟨_, Try.func75, rfl, rfl⟩


/-! ### loop.example/g00499/impl.FreshOf -/
def m_impl_FreshOf (K : Nat) (a0 : T_impl_World) (a1 : T_impl_Ref) : Option (Bool) := ((m_impl_FindThing K a0 a1).bind fun r1 => ((m_impl_ReadThing K a0.fP.fMem r1.2.1 0 r1.2.1.fLen).bind fun r2 => (bif (r1.2.2 == 0) then (bif r2.2 then ((m_impl_IsZero K r2.1).bind fun r5 => some r5) else some false) else some false)))
set_option maxRecDepth 20000 in
set_option maxHeartbeats 8000000 in
theorem w_impl_FreshOf (K : Nat) (a0 : T_impl_World) (a1 : T_impl_Ref) (r : Bool) (h : m_impl_FreshOf K a0 a1 = some r) : Sp Try.prog 34 [.g [.int .i64 a0.fC.fChunks, .int .i64 a0.fC.fSize, .int .i64 a0.fC.fSlots, .int .i64 a0.fC.fTax, .int .i64 a0.fC.fSlice, .int .i64 a0.fC.fGens, .row false 1 (a0.fP.fMem.map en_u8), .row false 1 (a0.fP.fSt.map en_i64), .row false 1 (a0.fP.fOwn.map en_i64), .row false 13 (a0.fL.map en_impl_Node), .row false 5 (a0.fQ.map en_impl_Waste), .row false 1 (a0.fLog.map en_i64)], .g [.int .i64 a1.fH.fSlot, .int .i64 a1.fH.fGen, .int .i64 a1.fEp, .int .i64 a1.fNo]] [] (.c (.bool r)) [] := by
  refine Sp.of_W tabOk Try.func34 rfl rfl (Nat.le_of_ble_eq_true rfl) (Nat.le_of_ble_eq_true rfl) fun F hP hN hm => ?_
  obtain ⟨P, N, w0, σ0, β0, m⟩ := F
  obtain rfl : P = Try.prog := hP
  obtain rfl : N = 36 := hN
  obtain rfl : m = 1 := hm
  have he : Env ⟨Try.prog, 36, w0, σ0, β0, 1⟩ tab := ⟨Nat.le_of_ble_eq_true rfl, tabOk⟩
  unfold m_impl_FreshOf at h
  refine W_seq ?_
  refine W_regV he rfl ?_
  refine v0 (sBx rfl [] rfl rfl 101 rfl) rfl ?_
  refine v0 (sBx rfl [] rfl rfl 102 rfl) rfl ?_
  refine v0 (sA rfl [] rfl) rfl ?_
  refine ve ?_
  refine W2 [2, 3] [101, 102] [] (l := [(2, .c (.ptr _ _ _ _)), (3, .c (.ptr _ _ _ _))]) (h := [(101, ⟨0, 12, [[.int _ _, .int _ _, .int _ _, .int _ _, .int _ _, .int _ _, .row _ _ _, .row _ _ _, .row _ _ _, .row _ _ _, .row _ _ _, .row _ _ _]]⟩), (102, ⟨0, 4, [[.int _ _, .int _ _, .int _ _, .int _ _]]⟩)]) (h' := []) trivial rfl rfl rfl ?_
  refine W_seq ?_
  refine W_regV he rfl ?_
  refine v0 (sLd rfl rfl) rfl ?_
  refine v0 (sLd rfl rfl) rfl ?_
  obtain ⟨r1, hr1, h⟩ := bnd2 h
  refine v0 (sCm (w_impl_FindThing K a0 a1 _ hr1) ok_impl_FindThing rfl rfl rfl rfl) rfl ?_
  refine v0 (sM rfl [] rfl) rfl ?_
  refine v0 (sEx rfl rfl rfl) rfl ?_
  refine v0 (sEx rfl rfl rfl) rfl ?_
  refine v0 (sEx rfl rfl rfl) rfl ?_
  refine v0 (sAl rfl rfl 103 rfl) rfl ?_
  refine v0 (sA rfl [] rfl) rfl ?_
  refine v0 (sSt rfl rfl [] rfl rfl) rfl ?_
  refine v0 (sA rfl [] rfl) rfl ?_
  refine ve ?_
  refine W2 [2, 6, 7] [101, 103] [] (l := [(2, .c (.ptr _ _ _ _)), (6, .c (.ptr _ _ _ _)), (7, .c (.int _ _))]) (h := [(101, ⟨0, 12, [[.int _ _, .int _ _, .int _ _, .int _ _, .int _ _, .int _ _, .row _ _ _, .row _ _ _, .row _ _ _, .row _ _ _, .row _ _ _, .row _ _ _]]⟩), (103, ⟨0, 3, [[.int _ _, .int _ _, .int _ _]]⟩)]) (h' := []) trivial rfl rfl rfl ?_
  refine W_seq ?_
  refine W_regV he rfl ?_
  refine v0 (sFP rfl rfl rfl) rfl ?_
  refine v0 (sFP rfl rfl rfl) rfl ?_
  refine v0 (sLd rfl rfl) rfl ?_
  refine v0 (sLd rfl rfl) rfl ?_
  refine v0 (sFP rfl rfl rfl) rfl ?_
  refine v0 (sLd rfl rfl) rfl ?_
  obtain ⟨r2, hr2, h⟩ := bnd2 h
  refine v0 (sCm (w_impl_ReadThing K a0.fP.fMem r1.2.1 0 r1.2.1.fLen _ hr2) ok_impl_ReadThing rfl rfl rfl rfl) rfl ?_
  refine v0 (sM rfl [] rfl) rfl ?_
  refine v0 (sEx rfl rfl rfl) rfl ?_
  refine v0 (sEx rfl rfl rfl) rfl ?_
  refine v0 (sA rfl [] rfl) rfl ?_
  refine v0 (sA rfl [] rfl) rfl ?_
  refine ve ?_
  refine W2 [7, 8, 9] [] [] (l := [(7, .c (.int _ _)), (8, .c (.row _ _ _)), (9, .c (.bool _))]) (h := []) (h' := []) trivial rfl rfl rfl ?_
  refine W_seq ?_
  refine W_regV he rfl ?_
  refine v0 (sM rfl [] rfl) rfl ?_
  refine vB (sBi rfl rfl rfl rfl) rfl rfl fun b3 hb3 => ?_
  cases b3 with
  | true =>
    replace h := brT hb3 h
    refine v0 (sM rfl [] rfl) rfl ?_
    refine uB (sM rfl [] rfl) rfl rfl rfl rfl fun b4 hb4 => ?_
    cases b4 with
    | true =>
      replace h := brT hb4 h
      refine v0 (sPk rfl [] rfl rfl) rfl ?_
      refine v0 (sM rfl [] rfl) rfl ?_
      refine u0 (sM rfl [] rfl) rfl rfl rfl ?_
      obtain ⟨r5, hr5, h⟩ := bnd2 h
      refine u0 (sCm (w_impl_IsZero K r2.1 _ hr5) ok_impl_IsZero rfl rfl rfl rfl) rfl rfl rfl ?_
      refine v0 (sPk rfl [] rfl rfl) rfl ?_
      refine v0 (sA rfl [] rfl) rfl ?_
      refine ve ?_
      refine W2 [4] [] [] (l := [(4, .c (.bool _))]) (h := []) (h' := []) trivial rfl rfl rfl ?_
      obtain rfl := Option.some.inj h
      exact W_ret (r0 rfl rfl)
    | false =>
      replace h := brF hb4 h
      refine v0 (sPk rfl [] rfl rfl) rfl ?_
      refine v0 (sM rfl [] rfl) rfl ?_
      refine uP rfl rfl rfl rfl ?_
      refine uP rfl rfl rfl rfl ?_
      refine v0 (sPk rfl [] rfl rfl) rfl ?_
      refine v0 (sA rfl [] rfl) rfl ?_
      refine ve ?_
      refine W2 [4] [] [] (l := [(4, .c (.bool false))]) (h := []) (h' := []) trivial rfl rfl rfl ?_
      obtain rfl := Option.some.inj h
      exact W_ret (r0 rfl rfl)
  | false =>
    replace h := brF hb3 h
    refine v0 (sM rfl [] rfl) rfl ?_
    refine uP rfl rfl rfl rfl ?_
    refine v0 (sPk rfl [] rfl rfl) rfl ?_
    refine v0 (sM rfl [] rfl) rfl ?_
    refine uP rfl rfl rfl rfl ?_
    refine uP rfl rfl rfl rfl ?_
    refine v0 (sPk rfl [] rfl rfl) rfl ?_
    refine v0 (sA rfl [] rfl) rfl ?_
    refine ve ?_
    refine W2 [4] [] [] (l := [(4, .c (.bool false))]) (h := []) (h' := []) trivial rfl rfl rfl ?_
    obtain rfl := Option.some.inj h
    exact W_ret (r0 rfl rfl)
theorem ok_impl_FreshOf : FnOk Try.prog 34 := ⟨_, Try.func34, rfl, rfl⟩


/-! ### loop.example/g00499/laws.eqConf -/
def m_laws_eqConf (K : Nat) (a0 : T_impl_Conf) (a1 : T_impl_Conf) : Option (Bool) := (bif (a0.fChunks != a1.fChunks) then some false else (bif (a0.fSize != a1.fSize) then some false else (bif (a0.fSlots != a1.fSlots) then some false else (bif (a0.fTax != a1.fTax) then some false else (bif (a0.fSlice != a1.fSlice) then some false else (bif (a0.fGens != a1.fGens) then some false else some true))))))
set_option maxRecDepth 20000 in
set_option maxHeartbeats 8000000 in
theorem w_laws_eqConf (K : Nat) (a0 : T_impl_Conf) (a1 : T_impl_Conf) (r : Bool) (h : m_laws_eqConf K a0 a1 = some r) : Sp Try.prog 55 [.g [.int .i64 a0.fChunks, .int .i64 a0.fSize, .int .i64 a0.fSlots, .int .i64 a0.fTax, .int .i64 a0.fSlice, .int .i64 a0.fGens], .g [.int .i64 a1.fChunks, .int .i64 a1.fSize, .int .i64 a1.fSlots, .int .i64 a1.fTax, .int .i64 a1.fSlice, .int .i64 a1.fGens]] [] (.c (.bool r)) [] := by
  refine Sp.of_W tabOk Try.func55 rfl rfl (Nat.le_of_ble_eq_true rfl) (Nat.le_of_ble_eq_true rfl) fun F hP hN hm => ?_
  obtain ⟨P, N, w0, σ0, β0, m⟩ := F
  obtain rfl : P = Try.prog := hP
  obtain rfl : N = 35 := hN
  obtain rfl : m = 1 := hm
  have he : Env ⟨Try.prog, 35, w0, σ0, β0, 1⟩ tab := ⟨Nat.le_of_ble_eq_true rfl, tabOk⟩
  unfold m_laws_eqConf at h
  refine W_seq ?_
  refine W_regV he rfl ?_
  refine v0 (sBx rfl [] rfl rfl 101 rfl) rfl ?_
  refine v0 (sBx rfl [] rfl rfl 102 rfl) rfl ?_
  refine v0 (sA rfl [] rfl) rfl ?_
  refine ve ?_
  refine W2 [2, 3] [101, 102] [] (l := [(2, .c (.ptr _ _ _ _)), (3, .c (.ptr _ _ _ _))]) (h := [(101, ⟨0, 6, [[.int _ _, .int _ _, .int _ _, .int _ _, .int _ _, .int _ _]]⟩), (102, ⟨0, 6, [[.int _ _, .int _ _, .int _ _, .int _ _, .int _ _, .int _ _]]⟩)]) (h' := []) trivial rfl rfl rfl ?_
  refine W_seq ?_
  refine W_seq ?_
  refine W_regV he rfl ?_
  refine v0 (sFP rfl rfl rfl) rfl ?_
  refine v0 (sLd rfl rfl) rfl ?_
  refine v0 (sFP rfl rfl rfl) rfl ?_
  refine v0 (sLd rfl rfl) rfl ?_
  refine vB (sBi rfl rfl rfl rfl) rfl rfl fun b1 hb1 => ?_
  cases b1 with
  | true =>
    replace h := brT hb1 h
    refine ve ?_
    refine W2 [2, 3, 9] [101, 102] [] (l := [(2, .c (.ptr _ _ _ _)), (3, .c (.ptr _ _ _ _)), (9, .c (.bool true))]) (h := [(101, ⟨0, 6, [[.int _ _, .int _ _, .int _ _, .int _ _, .int _ _, .int _ _]]⟩), (102, ⟨0, 6, [[.int _ _, .int _ _, .int _ _, .int _ _, .int _ _, .int _ _]]⟩)]) (h' := []) trivial rfl rfl rfl ?_
    refine W_true rfl ?_
    refine W_seq ?_
    refine W_regV he rfl ?_
    refine v0 (sA rfl [] rfl) rfl ?_
    refine ve ?_
    refine W2 [4] [] [] (l := [(4, .c (.bool false))]) (h := []) (h' := []) trivial rfl rfl rfl ?_
    obtain rfl := Option.some.inj h
    exact W_ret (r0 rfl rfl)
  | false =>
    replace h := brF hb1 h
    refine ve ?_
    refine W2 [2, 3, 9] [101, 102] [] (l := [(2, .c (.ptr _ _ _ _)), (3, .c (.ptr _ _ _ _)), (9, .c (.bool false))]) (h := [(101, ⟨0, 6, [[.int _ _, .int _ _, .int _ _, .int _ _, .int _ _, .int _ _]]⟩), (102, ⟨0, 6, [[.int _ _, .int _ _, .int _ _, .int _ _, .int _ _, .int _ _]]⟩)]) (h' := []) trivial rfl rfl rfl ?_
    refine W_false rfl ?_
    refine W_skip ?_
    refine W_seq ?_
    refine W_seq ?_
    refine W_regV he rfl ?_
    refine v0 (sFP rfl rfl rfl) rfl ?_
    refine v0 (sLd rfl rfl) rfl ?_
    refine v0 (sFP rfl rfl rfl) rfl ?_
    refine v0 (sLd rfl rfl) rfl ?_
    refine vB (sBi rfl rfl rfl rfl) rfl rfl fun b2 hb2 => ?_
    cases b2 with
    | true =>
      replace h := brT hb2 h
      refine ve ?_
      refine W2 [2, 3, 14] [101, 102] [] (l := [(2, .c (.ptr _ _ _ _)), (3, .c (.ptr _ _ _ _)), (14, .c (.bool true))]) (h := [(101, ⟨0, 6, [[.int _ _, .int _ _, .int _ _, .int _ _, .int _ _, .int _ _]]⟩), (102, ⟨0, 6, [[.int _ _, .int _ _, .int _ _, .int _ _, .int _ _, .int _ _]]⟩)]) (h' := []) trivial rfl rfl rfl ?_
      refine W_true rfl ?_
      refine W_seq ?_
      refine W_regV he rfl ?_
      refine v0 (sA rfl [] rfl) rfl ?_
      refine ve ?_
      refine W2 [4] [] [] (l := [(4, .c (.bool false))]) (h := []) (h' := []) trivial rfl rfl rfl ?_
      obtain rfl := Option.some.inj h
      exact W_ret (r0 rfl rfl)
    | false =>
      replace h := brF hb2 h
      refine ve ?_
      refine W2 [2, 3, 14] [101, 102] [] (l := [(2, .c (.ptr _ _ _ _)), (3, .c (.ptr _ _ _ _)), (14, .c (.bool false))]) (h := [(101, ⟨0, 6, [[.int _ _, .int _ _, .int _ _, .int _ _, .int _ _, .int _ _]]⟩), (102, ⟨0, 6, [[.int _ _, .int _ _, .int _ _, .int _ _, .int _ _, .int _ _]]⟩)]) (h' := []) trivial rfl rfl rfl ?_
      refine W_false rfl ?_
      refine W_skip ?_
      refine W_seq ?_
      refine W_seq ?_
      refine W_regV he rfl ?_
      refine v0 (sFP rfl rfl rfl) rfl ?_
      refine v0 (sLd rfl rfl) rfl ?_
      refine v0 (sFP rfl rfl rfl) rfl ?_
      refine v0 (sLd rfl rfl) rfl ?_
      refine vB (sBi rfl rfl rfl rfl) rfl rfl fun b3 hb3 => ?_
      cases b3 with
      | true =>
        replace h := brT hb3 h
        refine ve ?_
        refine W2 [2, 3, 19] [101, 102] [] (l := [(2, .c (.ptr _ _ _ _)), (3, .c (.ptr _ _ _ _)), (19, .c (.bool true))]) (h := [(101, ⟨0, 6, [[.int _ _, .int _ _, .int _ _, .int _ _, .int _ _, .int _ _]]⟩), (102, ⟨0, 6, [[.int _ _, .int _ _, .int _ _, .int _ _, .int _ _, .int _ _]]⟩)]) (h' := []) trivial rfl rfl rfl ?_
        refine W_true rfl ?_
        refine W_seq ?_
        refine W_regV he rfl ?_
        refine v0 (sA rfl [] rfl) rfl ?_
        refine ve ?_
        refine W2 [4] [] [] (l := [(4, .c (.bool false))]) (h := []) (h' := []) trivial rfl rfl rfl ?_
        obtain rfl := Option.some.inj h
        exact W_ret (r0 rfl rfl)
      | false =>
        replace h := brF hb3 h
        refine ve ?_
        refine W2 [2, 3, 19] [101, 102] [] (l := [(2, .c (.ptr _ _ _ _)), (3, .c (.ptr _ _ _ _)), (19, .c (.bool false))]) (h := [(101, ⟨0, 6, [[.int _ _, .int _ _, .int _ _, .int _ _, .int _ _, .int _ _]]⟩), (102, ⟨0, 6, [[.int _ _, .int _ _, .int _ _, .int _ _, .int _ _, .int _ _]]⟩)]) (h' := []) trivial rfl rfl rfl ?_
        refine W_false rfl ?_
        refine W_skip ?_
        refine W_seq ?_
        refine W_seq ?_
        refine W_regV he rfl ?_
        refine v0 (sFP rfl rfl rfl) rfl ?_
        refine v0 (sLd rfl rfl) rfl ?_
        refine v0 (sFP rfl rfl rfl) rfl ?_
        refine v0 (sLd rfl rfl) rfl ?_
        refine vB (sBi rfl rfl rfl rfl) rfl rfl fun b4 hb4 => ?_
        cases b4 with
        | true =>
          replace h := brT hb4 h
          refine ve ?_
          refine W2 [2, 3, 24] [101, 102] [] (l := [(2, .c (.ptr _ _ _ _)), (3, .c (.ptr _ _ _ _)), (24, .c (.bool true))]) (h := [(101, ⟨0, 6, [[.int _ _, .int _ _, .int _ _, .int _ _, .int _ _, .int _ _]]⟩), (102, ⟨0, 6, [[.int _ _, .int _ _, .int _ _, .int _ _, .int _ _, .int _ _]]⟩)]) (h' := []) trivial rfl rfl rfl ?_
          refine W_true rfl ?_
          refine W_seq ?_
          refine W_regV he rfl ?_
          refine v0 (sA rfl [] rfl) rfl ?_
          refine ve ?_
          refine W2 [4] [] [] (l := [(4, .c (.bool false))]) (h := []) (h' := []) trivial rfl rfl rfl ?_
          obtain rfl := Option.some.inj h
          exact W_ret (r0 rfl rfl)
        | false =>
          replace h := brF hb4 h
          refine ve ?_
          refine W2 [2, 3, 24] [101, 102] [] (l := [(2, .c (.ptr _ _ _ _)), (3, .c (.ptr _ _ _ _)), (24, .c (.bool false))]) (h := [(101, ⟨0, 6, [[.int _ _, .int _ _, .int _ _, .int _ _, .int _ _, .int _ _]]⟩), (102, ⟨0, 6, [[.int _ _, .int _ _, .int _ _, .int _ _, .int _ _, .int _ _]]⟩)]) (h' := []) trivial rfl rfl rfl ?_
          refine W_false rfl ?_
          refine W_skip ?_
          refine W_seq ?_
          refine W_seq ?_
          refine W_regV he rfl ?_
          refine v0 (sFP rfl rfl rfl) rfl ?_
          refine v0 (sLd rfl rfl) rfl ?_
          refine v0 (sFP rfl rfl rfl) rfl ?_
          refine v0 (sLd rfl rfl) rfl ?_
          refine vB (sBi rfl rfl rfl rfl) rfl rfl fun b5 hb5 => ?_
          cases b5 with
          | true =>
            replace h := brT hb5 h
            refine ve ?_
            refine W2 [2, 3, 29] [101, 102] [] (l := [(2, .c (.ptr _ _ _ _)), (3, .c (.ptr _ _ _ _)), (29, .c (.bool true))]) (h := [(101, ⟨0, 6, [[.int _ _, .int _ _, .int _ _, .int _ _, .int _ _, .int _ _]]⟩), (102, ⟨0, 6, [[.int _ _, .int _ _, .int _ _, .int _ _, .int _ _, .int _ _]]⟩)]) (h' := []) trivial rfl rfl rfl ?_
            refine W_true rfl ?_
            refine W_seq ?_
            refine W_regV he rfl ?_
            refine v0 (sA rfl [] rfl) rfl ?_
            refine ve ?_
            refine W2 [4] [] [] (l := [(4, .c (.bool false))]) (h := []) (h' := []) trivial rfl rfl rfl ?_
            obtain rfl := Option.some.inj h
            exact W_ret (r0 rfl rfl)
          | false =>
            replace h := brF hb5 h
            refine ve ?_
            refine W2 [2, 3, 29] [101, 102] [] (l := [(2, .c (.ptr _ _ _ _)), (3, .c (.ptr _ _ _ _)), (29, .c (.bool false))]) (h := [(101, ⟨0, 6, [[.int _ _, .int _ _, .int _ _, .int _ _, .int _ _, .int _ _]]⟩), (102, ⟨0, 6, [[.int _ _, .int _ _, .int _ _, .int _ _, .int _ _, .int _ _]]⟩)]) (h' := []) trivial rfl rfl rfl ?_
            refine W_false rfl ?_
            refine W_skip ?_
            refine W_seq ?_
            refine W_seq ?_
            refine W_regV he rfl ?_
            refine v0 (sFP rfl rfl rfl) rfl ?_
            refine v0 (sLd rfl rfl) rfl ?_
            refine v0 (sFP rfl rfl rfl) rfl ?_
            refine v0 (sLd rfl rfl) rfl ?_
            refine vB (sBi rfl rfl rfl rfl) rfl rfl fun b6 hb6 => ?_
            cases b6 with
            | true =>
              replace h := brT hb6 h
              refine ve ?_
              refine W2 [34] [] [] (l := [(34, .c (.bool true))]) (h := []) (h' := []) trivial rfl rfl rfl ?_
              refine W_true rfl ?_
              refine W_seq ?_
              refine W_regV he rfl ?_
              refine v0 (sA rfl [] rfl) rfl ?_
              refine ve ?_
              refine W2 [4] [] [] (l := [(4, .c (.bool false))]) (h := []) (h' := []) trivial rfl rfl rfl ?_
              obtain rfl := Option.some.inj h
              exact W_ret (r0 rfl rfl)
            | false =>
              replace h := brF hb6 h
              refine ve ?_
              refine W2 [34] [] [] (l := [(34, .c (.bool false))]) (h := []) (h' := []) trivial rfl rfl rfl ?_
              refine W_false rfl ?_
              refine W_skip ?_
              refine W_seq ?_
              refine W_regV he rfl ?_
              refine v0 (sA rfl [] rfl) rfl ?_
              refine ve ?_
              refine W2 [4] [] [] (l := [(4, .c (.bool true))]) (h := []) (h' := []) trivial rfl rfl rfl ?_
              obtain rfl := Option.some.inj h
              exact W_ret (r0 rfl rfl)
theorem ok_laws_eqConf : FnOk Try.prog 55 := ⟨_, Try.func55, rfl, rfl⟩


/-! ### loop.example/g00499/laws.eqByteS -/
def l_laws_eqByteS_3 (K : Nat) (a0 : List Int) (a1 : List Int) : Nat → Int → Option (Bool)
  | 0, _ => none
  | n3 + 1, v2 => (bif (decide (v2 < (a0.length : Int))) then (if (0 : Int) ≤ v2 ∧ v2 < (a0.length : Int) then (if (0 : Int) ≤ v2 ∧ v2 < (a1.length : Int) then (bif ((gt a0 v2) != (gt a1 v2)) then some false else (l_laws_eqByteS_3 K a0 a1 n3 (iAdd .i64 v2 1))) else none) else none) else some true)
def m_laws_eqByteS (K : Nat) (a0 : List Int) (a1 : List Int) : Option (Bool) := (bif ((a0.length : Int) != (a1.length : Int)) then some false else (l_laws_eqByteS_3 K a0 a1 K 0))
set_option maxRecDepth 20000 in
set_option maxHeartbeats 8000000 in
theorem w_laws_eqByteS (K : Nat) (a0 : List Int) (a1 : List Int) (r : Bool) (h : m_laws_eqByteS K a0 a1 = some r) : Sp Try.prog 88 [.c (.row false 1 (a0.map en_u8)), .c (.row false 1 (a1.map en_u8))] [] (.c (.bool r)) [] := by
  refine Sp.of_W tabOk Try.func88 rfl rfl (Nat.le_of_ble_eq_true rfl) (Nat.le_of_ble_eq_true rfl) fun F hP hN hm => ?_
  obtain ⟨P, N, w0, σ0, β0, m⟩ := F
  obtain rfl : P = Try.prog := hP
  obtain rfl : N = 26 := hN
  obtain rfl : m = 1 := hm
  have he : Env ⟨Try.prog, 26, w0, σ0, β0, 1⟩ tab := ⟨Nat.le_of_ble_eq_true rfl, tabOk⟩
  unfold m_laws_eqByteS at h
  refine W_seq ?_
  refine W_regV he rfl ?_
  refine v0 (sA rfl [] rfl) rfl ?_
  refine ve ?_
  refine W2 [0, 1] [] [] (l := [(0, .c (.row _ _ _)), (1, .c (.row _ _ _))]) (h := []) (h' := []) trivial rfl rfl rfl ?_
  refine W_seq ?_
  refine W_seq ?_
  refine W_regV he rfl ?_
  refine v0 (sM rfl [] rfl) rfl ?_
  refine v0 (sLm rfl rfl rfl rfl) rfl ?_
  refine v0 (sM rfl [] rfl) rfl ?_
  refine v0 (sLm rfl rfl rfl rfl) rfl ?_
  refine vB (sBi rfl rfl rfl rfl) rfl rfl fun b1 hb1 => ?_
  cases b1 with
  | true =>
    replace h := brT hb1 h
    refine ve ?_
    refine W2 [0, 1, 10] [] [] (l := [(0, .c (.row _ _ _)), (1, .c (.row _ _ _)), (10, .c (.bool true))]) (h := []) (h' := []) trivial rfl rfl rfl ?_
    refine W_true rfl ?_
    refine W_seq ?_
    refine W_regV he rfl ?_
    refine v0 (sA rfl [] rfl) rfl ?_
    refine ve ?_
    refine W2 [4] [] [] (l := [(4, .c (.bool false))]) (h := []) (h' := []) trivial rfl rfl rfl ?_
    obtain rfl := Option.some.inj h
    exact W_ret (r0 rfl rfl)
  | false =>
    replace h := brF hb1 h
    refine ve ?_
    refine W2 [0, 1, 10] [] [] (l := [(0, .c (.row _ _ _)), (1, .c (.row _ _ _)), (10, .c (.bool false))]) (h := []) (h' := []) trivial rfl rfl rfl ?_
    refine W_false rfl ?_
    refine W_skip ?_
    refine W_seq ?_
    refine W_seq ?_
    refine W_regV he rfl ?_
    refine v0 (sA rfl [] rfl) rfl ?_
    refine ve ?_
    refine W2 [0, 1, 5] [] [] (l := [(0, .c (.row _ _ _)), (1, .c (.row _ _ _)), (5, .c (.int _ _))]) (h := []) (h' := []) trivial rfl rfl rfl ?_
    refine W_block ?_
    refine W2 [0, 1, 5] [] [] (l := [(0, .c (.row _ _ _)), (1, .c (.row _ _ _)), (5, .c (.int _ _))]) (h := []) (h' := []) trivial rfl rfl rfl ?_
    refine W_loopW (fun n3 S => ∃ (v2 : Int), S = StL [(0, .c (.row false 1 (a0.map en_u8))), (1, .c (.row false 1 (a1.map en_u8))), (5, .c (.int .i64 v2))] ([] ++ []) ∧ l_laws_eqByteS_3 K a0 a1 n3 v2 = some r) K ⟨_, rfl, h⟩ ?_
    rintro n3 S ⟨v2, rfl, h⟩
    cases n3 with
    | zero => simp [l_laws_eqByteS_3] at h
    | succ n3 =>
      rw [l_laws_eqByteS_3] at h
      refine W_seq ?_
      refine W_seq ?_
      refine W_regV he rfl ?_
      refine v0 (sM rfl [] rfl) rfl ?_
      refine v0 (sM rfl [] rfl) rfl ?_
      refine v0 (sLm rfl rfl rfl rfl) rfl ?_
      refine vB (sBi rfl rfl rfl rfl) rfl rfl fun b4 hb4 => ?_
      cases b4 with
      | true =>
        replace h := brT hb4 h
        refine ve ?_
        refine W2 [0, 1, 5, 14] [] [] (l := [(0, .c (.row _ _ _)), (1, .c (.row _ _ _)), (5, .c (.int _ _)), (14, .c (.bool true))]) (h := []) (h' := []) trivial rfl rfl rfl ?_
        refine W_true rfl ?_
        refine W_skip ?_
        refine W_seq ?_
        refine W_block ?_
        refine W_seq ?_
        refine W_regD he rfl rfl rfl ?_
        refine g0 (sM rfl [] rfl) rfl ?_
        refine g0 (sM rfl [] rfl) rfl ?_
        obtain ⟨c5, h⟩ := chk h
        refine g0 (sIRm rfl rfl rfl rfl c5) rfl ?_
        refine g0 (sLI rfl rfl (en_u8 (gt a0 v2)) (gt_at _ c5) rfl rfl rfl) rfl ?_
        refine g0 (sM rfl [] rfl) rfl ?_
        refine g0 (sM rfl [] rfl) rfl ?_
        obtain ⟨c6, h⟩ := chk h
        refine g0 (sIRm rfl rfl rfl rfl c6) rfl ?_
        refine g0 (sLI rfl rfl (en_u8 (gt a1 v2)) (gt_at _ c6) rfl rfl rfl) rfl ?_
        refine gB (sBi rfl rfl rfl rfl) rfl rfl fun b7 hb7 => ?_
        cases b7 with
        | true =>
          replace h := brT hb7 h
          refine ge ⟨rfl, ?_⟩
          refine W2 [0, 1, 5, 25] [] [] (l := [(0, .c (.row _ _ _)), (1, .c (.row _ _ _)), (5, .c (.int _ _)), (25, .c (.bool true))]) (h := []) (h' := []) trivial rfl rfl rfl ?_
          refine W_true rfl ?_
          refine W_seq ?_
          refine W_regV he rfl ?_
          refine v0 (sA rfl [] rfl) rfl ?_
          refine ve ?_
          refine W2 [4] [] [] (l := [(4, .c (.bool false))]) (h := []) (h' := []) trivial rfl rfl rfl ?_
          obtain rfl := Option.some.inj h
          exact W_ret (r0 rfl rfl)
        | false =>
          replace h := brF hb7 h
          refine ge ⟨rfl, ?_⟩
          refine W2 [0, 1, 5, 25] [] [] (l := [(0, .c (.row _ _ _)), (1, .c (.row _ _ _)), (5, .c (.int _ _)), (25, .c (.bool false))]) (h := []) (h' := []) trivial rfl rfl rfl ?_
          refine W_false rfl ?_
          refine W_skip ?_
          refine W_regV he rfl ?_
          refine v0 (sM rfl [] rfl) rfl ?_
          refine v0 (sBi rfl rfl rfl rfl) rfl ?_
          refine v0 (sA rfl [] rfl) rfl ?_
          refine ve ?_
          exact ⟨n3, _, Nat.lt_succ_self n3, wk2 [0, 1, 5] [] [] (l := [(0, .c (.row _ _ _)), (1, .c (.row _ _ _)), (5, .c (.int _ _))]) (h := []) (h' := []) trivial rfl rfl rfl, _, rfl, h⟩
      | false =>
        replace h := brF hb4 h
        refine ve ?_
        refine W2 [0, 1, 5, 14] [] [] (l := [(0, .c (.row _ _ _)), (1, .c (.row _ _ _)), (5, .c (.int _ _)), (14, .c (.bool false))]) (h := []) (h' := []) trivial rfl rfl rfl ?_
        refine W_false rfl ?_
        refine W_exit (ex_then (ex_then (ex_hit ?_)))
        refine W_seq ?_
        refine W_regV he rfl ?_
        refine v0 (sA rfl [] rfl) rfl ?_
        refine ve ?_
        refine W2 [4] [] [] (l := [(4, .c (.bool true))]) (h := []) (h' := []) trivial rfl rfl rfl ?_
        obtain rfl := Option.some.inj h
        exact W_ret (r0 rfl rfl)
theorem ok_laws_eqByteS : FnOk Try.prog 88 := ⟨_, Try.func88, rfl, rfl⟩


/-! ### loop.example/g00499/laws.eqIntS -/
def l_laws_eqIntS_3 (K : Nat) (a0 : List Int) (a1 : List Int) : Nat → Int → Option (Bool)
  | 0, _ => none
  | n3 + 1, v2 => (bif (decide (v2 < (a0.length : Int))) then (if (0 : Int) ≤ v2 ∧ v2 < (a0.length : Int) then (if (0 : Int) ≤ v2 ∧ v2 < (a1.length : Int) then (bif ((gt a0 v2) != (gt a1 v2)) then some false else (l_laws_eqIntS_3 K a0 a1 n3 (iAdd .i64 v2 1))) else none) else none) else some true)
def m_laws_eqIntS (K : Nat) (a0 : List Int) (a1 : List Int) : Option (Bool) := (bif ((a0.length : Int) != (a1.length : Int)) then some false else (l_laws_eqIntS_3 K a0 a1 K 0))
set_option maxRecDepth 20000 in
set_option maxHeartbeats 8000000 in
theorem w_laws_eqIntS (K : Nat) (a0 : List Int) (a1 : List Int) (r : Bool) (h : m_laws_eqIntS K a0 a1 = some r) : Sp Try.prog 29 [.c (.row false 1 (a0.map en_i64)), .c (.row false 1 (a1.map en_i64))] [] (.c (.bool r)) [] := by
  refine Sp.of_W tabOk Try.func29 rfl rfl (Nat.le_of_ble_eq_true rfl) (Nat.le_of_ble_eq_true rfl) fun F hP hN hm => ?_
  obtain ⟨P, N, w0, σ0, β0, m⟩ := F
  obtain rfl : P = Try.prog := hP
  obtain rfl : N = 26 := hN
  obtain rfl : m = 1 := hm
  have he : Env ⟨Try.prog, 26, w0, σ0, β0, 1⟩ tab := ⟨Nat.le_of_ble_eq_true rfl, tabOk⟩
  unfold m_laws_eqIntS at h
  refine W_seq ?_
  refine W_regV he rfl ?_
  refine v0 (sA rfl [] rfl) rfl ?_
  refine ve ?_
  refine W2 [0, 1] [] [] (l := [(0, .c (.row _ _ _)), (1, .c (.row _ _ _))]) (h := []) (h' := []) trivial rfl rfl rfl ?_
  refine W_seq ?_
  refine W_seq ?_
  refine W_regV he rfl ?_
  refine v0 (sM rfl [] rfl) rfl ?_
  refine v0 (sLm rfl rfl rfl rfl) rfl ?_
  refine v0 (sM rfl [] rfl) rfl ?_
  refine v0 (sLm rfl rfl rfl rfl) rfl ?_
  refine vB (sBi rfl rfl rfl rfl) rfl rfl fun b1 hb1 => ?_
  cases b1 with
  | true =>
    replace h := brT hb1 h
    refine ve ?_
    refine W2 [0, 1, 10] [] [] (l := [(0, .c (.row _ _ _)), (1, .c (.row _ _ _)), (10, .c (.bool true))]) (h := []) (h' := []) trivial rfl rfl rfl ?_
    refine W_true rfl ?_
    refine W_seq ?_
    refine W_regV he rfl ?_
    refine v0 (sA rfl [] rfl) rfl ?_
    refine ve ?_
    refine W2 [4] [] [] (l := [(4, .c (.bool false))]) (h := []) (h' := []) trivial rfl rfl rfl ?_
    obtain rfl := Option.some.inj h
    exact W_ret (r0 rfl rfl)
  | false =>
    replace h := brF hb1 h
    refine ve ?_
    refine W2 [0, 1, 10] [] [] (l := [(0, .c (.row _ _ _)), (1, .c (.row _ _ _)), (10, .c (.bool false))]) (h := []) (h' := []) trivial rfl rfl rfl ?_
    refine W_false rfl ?_
    refine W_skip ?_
    refine W_seq ?_
    refine W_seq ?_
    refine W_regV he rfl ?_
    refine v0 (sA rfl [] rfl) rfl ?_
    refine ve ?_
    refine W2 [0, 1, 5] [] [] (l := [(0, .c (.row _ _ _)), (1, .c (.row _ _ _)), (5, .c (.int _ _))]) (h := []) (h' := []) trivial rfl rfl rfl ?_
    refine W_block ?_
    refine W2 [0, 1, 5] [] [] (l := [(0, .c (.row _ _ _)), (1, .c (.row _ _ _)), (5, .c (.int _ _))]) (h := []) (h' := []) trivial rfl rfl rfl ?_
    refine W_loopW (fun n3 S => ∃ (v2 : Int), S = StL [(0, .c (.row false 1 (a0.map en_i64))), (1, .c (.row false 1 (a1.map en_i64))), (5, .c (.int .i64 v2))] ([] ++ []) ∧ l_laws_eqIntS_3 K a0 a1 n3 v2 = some r) K ⟨_, rfl, h⟩ ?_
    rintro n3 S ⟨v2, rfl, h⟩
    cases n3 with
    | zero => simp [l_laws_eqIntS_3] at h
    | succ n3 =>
      rw [l_laws_eqIntS_3] at h
      refine W_seq ?_
      refine W_seq ?_
      refine W_regV he rfl ?_
      refine v0 (sM rfl [] rfl) rfl ?_
      refine v0 (sM rfl [] rfl) rfl ?_
      refine v0 (sLm rfl rfl rfl rfl) rfl ?_
      refine vB (sBi rfl rfl rfl rfl) rfl rfl fun b4 hb4 => ?_
      cases b4 with
      | true =>
        replace h := brT hb4 h
        refine ve ?_
        refine W2 [0, 1, 5, 14] [] [] (l := [(0, .c (.row _ _ _)), (1, .c (.row _ _ _)), (5, .c (.int _ _)), (14, .c (.bool true))]) (h := []) (h' := []) trivial rfl rfl rfl ?_
        refine W_true rfl ?_
        refine W_skip ?_
        refine W_seq ?_
        refine W_block ?_
        refine W_seq ?_
        refine W_regD he rfl rfl rfl ?_
        refine g0 (sM rfl [] rfl) rfl ?_
        refine g0 (sM rfl [] rfl) rfl ?_
        obtain ⟨c5, h⟩ := chk h
        refine g0 (sIRm rfl rfl rfl rfl c5) rfl ?_
        refine g0 (sLI rfl rfl (en_i64 (gt a0 v2)) (gt_at _ c5) rfl rfl rfl) rfl ?_
        refine g0 (sM rfl [] rfl) rfl ?_
        refine g0 (sM rfl [] rfl) rfl ?_
        obtain ⟨c6, h⟩ := chk h
        refine g0 (sIRm rfl rfl rfl rfl c6) rfl ?_
        refine g0 (sLI rfl rfl (en_i64 (gt a1 v2)) (gt_at _ c6) rfl rfl rfl) rfl ?_
        refine gB (sBi rfl rfl rfl rfl) rfl rfl fun b7 hb7 => ?_
        cases b7 with
        | true =>
          replace h := brT hb7 h
          refine ge ⟨rfl, ?_⟩
          refine W2 [0, 1, 5, 25] [] [] (l := [(0, .c (.row _ _ _)), (1, .c (.row _ _ _)), (5, .c (.int _ _)), (25, .c (.bool true))]) (h := []) (h' := []) trivial rfl rfl rfl ?_
          refine W_true rfl ?_
          refine W_seq ?_
          refine W_regV he rfl ?_
          refine v0 (sA rfl [] rfl) rfl ?_
          refine ve ?_
          refine W2 [4] [] [] (l := [(4, .c (.bool false))]) (h := []) (h' := []) trivial rfl rfl rfl ?_
          obtain rfl := Option.some.inj h
          exact W_ret (r0 rfl rfl)
        | false =>
          replace h := brF hb7 h
          refine ge ⟨rfl, ?_⟩
          refine W2 [0, 1, 5, 25] [] [] (l := [(0, .c (.row _ _ _)), (1, .c (.row _ _ _)), (5, .c (.int _ _)), (25, .c (.bool false))]) (h := []) (h' := []) trivial rfl rfl rfl ?_
          refine W_false rfl ?_
          refine W_skip ?_
          refine W_regV he rfl ?_
          refine v0 (sM rfl [] rfl) rfl ?_
          refine v0 (sBi rfl rfl rfl rfl) rfl ?_
          refine v0 (sA rfl [] rfl) rfl ?_
          refine ve ?_
          exact ⟨n3, _, Nat.lt_succ_self n3, wk2 [0, 1, 5] [] [] (l := [(0, .c (.row _ _ _)), (1, .c (.row _ _ _)), (5, .c (.int _ _))]) (h := []) (h' := []) trivial rfl rfl rfl, _, rfl, h⟩
      | false =>
        replace h := brF hb4 h
        refine ve ?_
        refine W2 [0, 1, 5, 14] [] [] (l := [(0, .c (.row _ _ _)), (1, .c (.row _ _ _)), (5, .c (.int _ _)), (14, .c (.bool false))]) (h := []) (h' := []) trivial rfl rfl rfl ?_
        refine W_false rfl ?_
        refine W_exit (ex_then (ex_then (ex_hit ?_)))
        refine W_seq ?_
        refine W_regV he rfl ?_
        refine v0 (sA rfl [] rfl) rfl ?_
        refine ve ?_
        refine W2 [4] [] [] (l := [(4, .c (.bool true))]) (h := []) (h' := []) trivial rfl rfl rfl ?_
        obtain rfl := Option.some.inj h
        exact W_ret (r0 rfl rfl)
theorem ok_laws_eqIntS : FnOk Try.prog 29 := ⟨_, Try.func29, rfl, rfl⟩


/-! ### loop.example/g00499/laws.eqPool -/
def m_laws_eqPool (K : Nat) (a0 : T_impl_Pool) (a1 : T_impl_Pool) : Option (Bool) := ((m_laws_eqByteS K a0.fMem a1.fMem).bind fun r1 => (bif r1 then ((m_laws_eqIntS K a0.fSt a1.fSt).bind fun r3 => (bif r3 then ((m_laws_eqIntS K a0.fOwn a1.fOwn).bind fun r5 => (bif r5 then some true else some false)) else some false)) else some false))
set_option maxRecDepth 20000 in
set_option maxHeartbeats 8000000 in
theorem w_laws_eqPool (K : Nat) (a0 : T_impl_Pool) (a1 : T_impl_Pool) (r : Bool) (h : m_laws_eqPool K a0 a1 = some r) : Sp Try.prog 56 [.g [.row false 1 (a0.fMem.map en_u8), .row false 1 (a0.fSt.map en_i64), .row false 1 (a0.fOwn.map en_i64)], .g [.row false 1 (a1.fMem.map en_u8), .row false 1 (a1.fSt.map en_i64), .row false 1 (a1.fOwn.map en_i64)]] [] (.c (.bool r)) [] := by
  refine Sp.of_W tabOk Try.func56 rfl rfl (Nat.le_of_ble_eq_true rfl) (Nat.le_of_ble_eq_true rfl) fun F hP hN hm => ?_
  obtain ⟨P, N, w0, σ0, β0, m⟩ := F
  obtain rfl : P = Try.prog := hP
  obtain rfl : N = 23 := hN
  obtain rfl : m = 1 := hm
  have he : Env ⟨Try.prog, 23, w0, σ0, β0, 1⟩ tab := ⟨Nat.le_of_ble_eq_true rfl, tabOk⟩
  unfold m_laws_eqPool at h
  refine W_seq ?_
  refine W_regV he rfl ?_
  refine v0 (sBx rfl [] rfl rfl 101 rfl) rfl ?_
  refine v0 (sBx rfl [] rfl rfl 102 rfl) rfl ?_
  refine v0 (sA rfl [] rfl) rfl ?_
  refine ve ?_
  refine W2 [2, 3] [101, 102] [] (l := [(2, .c (.ptr _ _ _ _)), (3, .c (.ptr _ _ _ _))]) (h := [(101, ⟨0, 3, [[.row _ _ _, .row _ _ _, .row _ _ _]]⟩), (102, ⟨0, 3, [[.row _ _ _, .row _ _ _, .row _ _ _]]⟩)]) (h' := []) trivial rfl rfl rfl ?_
  refine W_seq ?_
  refine W_seq ?_
  refine W_regV he rfl ?_
  refine v0 (sFP rfl rfl rfl) rfl ?_
  refine v0 (sLd rfl rfl) rfl ?_
  refine v0 (sFP rfl rfl rfl) rfl ?_
  refine v0 (sLd rfl rfl) rfl ?_
  obtain ⟨r1, hr1, h⟩ := bnd2 h
  refine vB (sCm (w_laws_eqByteS K a0.fMem a1.fMem _ hr1) ok_laws_eqByteS rfl rfl rfl rfl) rfl rfl fun b2 hb2 => ?_
  cases b2 with
  | true =>
    replace h := brT hb2 h
    refine v0 (sNt rfl rfl) rfl ?_
    refine ve ?_
    refine W2 [2, 3, 10] [101, 102] [] (l := [(2, .c (.ptr _ _ _ _)), (3, .c (.ptr _ _ _ _)), (10, .c (.bool false))]) (h := [(101, ⟨0, 3, [[.row _ _ _, .row _ _ _, .row _ _ _]]⟩), (102, ⟨0, 3, [[.row _ _ _, .row _ _ _, .row _ _ _]]⟩)]) (h' := []) trivial rfl rfl rfl ?_
    refine W_false rfl ?_
    refine W_skip ?_
    refine W_seq ?_
    refine W_seq ?_
    refine W_regV he rfl ?_
    refine v0 (sFP rfl rfl rfl) rfl ?_
    refine v0 (sLd rfl rfl) rfl ?_
    refine v0 (sFP rfl rfl rfl) rfl ?_
    refine v0 (sLd rfl rfl) rfl ?_
    obtain ⟨r3, hr3, h⟩ := bnd2 h
    refine vB (sCm (w_laws_eqIntS K a0.fSt a1.fSt _ hr3) ok_laws_eqIntS rfl rfl rfl rfl) rfl rfl fun b4 hb4 => ?_
    cases b4 with
    | true =>
      replace h := brT hb4 h
      refine v0 (sNt rfl rfl) rfl ?_
      refine ve ?_
      refine W2 [2, 3, 16] [101, 102] [] (l := [(2, .c (.ptr _ _ _ _)), (3, .c (.ptr _ _ _ _)), (16, .c (.bool false))]) (h := [(101, ⟨0, 3, [[.row _ _ _, .row _ _ _, .row _ _ _]]⟩), (102, ⟨0, 3, [[.row _ _ _, .row _ _ _, .row _ _ _]]⟩)]) (h' := []) trivial rfl rfl rfl ?_
      refine W_false rfl ?_
      refine W_skip ?_
      refine W_seq ?_
      refine W_seq ?_
      refine W_regV he rfl ?_
      refine v0 (sFP rfl rfl rfl) rfl ?_
      refine v0 (sLd rfl rfl) rfl ?_
      refine v0 (sFP rfl rfl rfl) rfl ?_
      refine v0 (sLd rfl rfl) rfl ?_
      obtain ⟨r5, hr5, h⟩ := bnd2 h
      refine vB (sCm (w_laws_eqIntS K a0.fOwn a1.fOwn _ hr5) ok_laws_eqIntS rfl rfl rfl rfl) rfl rfl fun b6 hb6 => ?_
      cases b6 with
      | true =>
        replace h := brT hb6 h
        refine v0 (sNt rfl rfl) rfl ?_
        refine ve ?_
        refine W2 [22] [] [] (l := [(22, .c (.bool false))]) (h := []) (h' := []) trivial rfl rfl rfl ?_
        refine W_false rfl ?_
        refine W_skip ?_
        refine W_seq ?_
        refine W_regV he rfl ?_
        refine v0 (sA rfl [] rfl) rfl ?_
        refine ve ?_
        refine W2 [4] [] [] (l := [(4, .c (.bool true))]) (h := []) (h' := []) trivial rfl rfl rfl ?_
        obtain rfl := Option.some.inj h
        exact W_ret (r0 rfl rfl)
      | false =>
        replace h := brF hb6 h
        refine v0 (sNt rfl rfl) rfl ?_
        refine ve ?_
        refine W2 [22] [] [] (l := [(22, .c (.bool true))]) (h := []) (h' := []) trivial rfl rfl rfl ?_
        refine W_true rfl ?_
        refine W_seq ?_
        refine W_regV he rfl ?_
        refine v0 (sA rfl [] rfl) rfl ?_
        refine ve ?_
        refine W2 [4] [] [] (l := [(4, .c (.bool false))]) (h := []) (h' := []) trivial rfl rfl rfl ?_
        obtain rfl := Option.some.inj h
        exact W_ret (r0 rfl rfl)
    | false =>
      replace h := brF hb4 h
      refine v0 (sNt rfl rfl) rfl ?_
      refine ve ?_
      refine W2 [2, 3, 16] [101, 102] [] (l := [(2, .c (.ptr _ _ _ _)), (3, .c (.ptr _ _ _ _)), (16, .c (.bool true))]) (h := [(101, ⟨0, 3, [[.row _ _ _, .row _ _ _, .row _ _ _]]⟩), (102, ⟨0, 3, [[.row _ _ _, .row _ _ _, .row _ _ _]]⟩)]) (h' := []) trivial rfl rfl rfl ?_
      refine W_true rfl ?_
      refine W_seq ?_
      refine W_regV he rfl ?_
      refine v0 (sA rfl [] rfl) rfl ?_
      refine ve ?_
      refine W2 [4] [] [] (l := [(4, .c (.bool false))]) (h := []) (h' := []) trivial rfl rfl rfl ?_
      obtain rfl := Option.some.inj h
      exact W_ret (r0 rfl rfl)
  | false =>
    replace h := brF hb2 h
    refine v0 (sNt rfl rfl) rfl ?_
    refine ve ?_
    refine W2 [2, 3, 10] [101, 102] [] (l := [(2, .c (.ptr _ _ _ _)), (3, .c (.ptr _ _ _ _)), (10, .c (.bool true))]) (h := [(101, ⟨0, 3, [[.row _ _ _, .row _ _ _, .row _ _ _]]⟩), (102, ⟨0, 3, [[.row _ _ _, .row _ _ _, .row _ _ _]]⟩)]) (h' := []) trivial rfl rfl rfl ?_
    refine W_true rfl ?_
    refine W_seq ?_
    refine W_regV he rfl ?_
    refine v0 (sA rfl [] rfl) rfl ?_
    refine ve ?_
    refine W2 [4] [] [] (l := [(4, .c (.bool false))]) (h := []) (h' := []) trivial rfl rfl rfl ?_
    obtain rfl := Option.some.inj h
    exact W_ret (r0 rfl rfl)
theorem ok_laws_eqPool : FnOk Try.prog 56 := ⟨_, Try.func56, rfl, rfl⟩


/-! ### loop.example/g00499/laws.eqThing -/
def m_laws_eqThing (K : Nat) (a0 : T_impl_Thing) (a1 : T_impl_Thing) : Option (Bool) := (bif (a0.fAt != a1.fAt) then some false else (bif (a0.fLen != a1.fLen) then some false else (bif (a0.fRun != a1.fRun) then some false else some true)))
set_option maxRecDepth 20000 in
set_option maxHeartbeats 8000000 in
theorem w_laws_eqThing (K : Nat) (a0 : T_impl_Thing) (a1 : T_impl_Thing) (r : Bool) (h : m_laws_eqThing K a0 a1 = some r) : Sp Try.prog 121 [.g [.int .i64 a0.fAt, .int .i64 a0.fLen, .int .i64 a0.fRun], .g [.int .i64 a1.fAt, .int .i64 a1.fLen, .int .i64 a1.fRun]] [] (.c (.bool r)) [] := by
  refine Sp.of_W tabOk Try.func121 rfl rfl (Nat.le_of_ble_eq_true rfl) (Nat.le_of_ble_eq_true rfl) fun F hP hN hm => ?_
  obtain ⟨P, N, w0, σ0, β0, m⟩ := F
  obtain rfl : P = Try.prog := hP
  obtain rfl : N = 20 := hN
  obtain rfl : m = 1 := hm
  have he : Env ⟨Try.prog, 20, w0, σ0, β0, 1⟩ tab := ⟨Nat.le_of_ble_eq_true rfl, tabOk⟩
  unfold m_laws_eqThing at h
  refine W_seq ?_
  refine W_regV he rfl ?_
  refine v0 (sBx rfl [] rfl rfl 101 rfl) rfl ?_
  refine v0 (sBx rfl [] rfl rfl 102 rfl) rfl ?_
  refine v0 (sA rfl [] rfl) rfl ?_
  refine ve ?_
  refine W2 [2, 3] [101, 102] [] (l := [(2, .c (.ptr _ _ _ _)), (3, .c (.ptr _ _ _ _))]) (h := [(101, ⟨0, 3, [[.int _ _, .int _ _, .int _ _]]⟩), (102, ⟨0, 3, [[.int _ _, .int _ _, .int _ _]]⟩)]) (h' := []) trivial rfl rfl rfl ?_
  refine W_seq ?_
  refine W_seq ?_
  refine W_regV he rfl ?_
  refine v0 (sFP rfl rfl rfl) rfl ?_
  refine v0 (sLd rfl rfl) rfl ?_
  refine v0 (sFP rfl rfl rfl) rfl ?_
  refine v0 (sLd rfl rfl) rfl ?_
  refine vB (sBi rfl rfl rfl rfl) rfl rfl fun b1 hb1 => ?_
  cases b1 with
  | true =>
    replace h := brT hb1 h
    refine ve ?_
    refine W2 [2, 3, 9] [101, 102] [] (l := [(2, .c (.ptr _ _ _ _)), (3, .c (.ptr _ _ _ _)), (9, .c (.bool true))]) (h := [(101, ⟨0, 3, [[.int _ _, .int _ _, .int _ _]]⟩), (102, ⟨0, 3, [[.int _ _, .int _ _, .int _ _]]⟩)]) (h' := []) trivial rfl rfl rfl ?_
    refine W_true rfl ?_
    refine W_seq ?_
    refine W_regV he rfl ?_
    refine v0 (sA rfl [] rfl) rfl ?_
    refine ve ?_
    refine W2 [4] [] [] (l := [(4, .c (.bool false))]) (h := []) (h' := []) trivial rfl rfl rfl ?_
    obtain rfl := Option.some.inj h
    exact W_ret (r0 rfl rfl)
  | false =>
    replace h := brF hb1 h
    refine ve ?_
    refine W2 [2, 3, 9] [101, 102] [] (l := [(2, .c (.ptr _ _ _ _)), (3, .c (.ptr _ _ _ _)), (9, .c (.bool false))]) (h := [(101, ⟨0, 3, [[.int _ _, .int _ _, .int _ _]]⟩), (102, ⟨0, 3, [[.int _ _, .int _ _, .int _ _]]⟩)]) (h' := []) trivial rfl rfl rfl ?_
    refine W_false rfl ?_
    refine W_skip ?_
    refine W_seq ?_
    refine W_seq ?_
    refine W_regV he rfl ?_
    refine v0 (sFP rfl rfl rfl) rfl ?_
    refine v0 (sLd rfl rfl) rfl ?_
    refine v0 (sFP rfl rfl rfl) rfl ?_
    refine v0 (sLd rfl rfl) rfl ?_
    refine vB (sBi rfl rfl rfl rfl) rfl rfl fun b2 hb2 => ?_
    cases b2 with
    | true =>
      replace h := brT hb2 h
      refine ve ?_
      refine W2 [2, 3, 14] [101, 102] [] (l := [(2, .c (.ptr _ _ _ _)), (3, .c (.ptr _ _ _ _)), (14, .c (.bool true))]) (h := [(101, ⟨0, 3, [[.int _ _, .int _ _, .int _ _]]⟩), (102, ⟨0, 3, [[.int _ _, .int _ _, .int _ _]]⟩)]) (h' := []) trivial rfl rfl rfl ?_
      refine W_true rfl ?_
      refine W_seq ?_
      refine W_regV he rfl ?_
      refine v0 (sA rfl [] rfl) rfl ?_
      refine ve ?_
      refine W2 [4] [] [] (l := [(4, .c (.bool false))]) (h := []) (h' := []) trivial rfl rfl rfl ?_
      obtain rfl := Option.some.inj h
      exact W_ret (r0 rfl rfl)
    | false =>
      replace h := brF hb2 h
      refine ve ?_
      refine W2 [2, 3, 14] [101, 102] [] (l := [(2, .c (.ptr _ _ _ _)), (3, .c (.ptr _ _ _ _)), (14, .c (.bool false))]) (h := [(101, ⟨0, 3, [[.int _ _, .int _ _, .int _ _]]⟩), (102, ⟨0, 3, [[.int _ _, .int _ _, .int _ _]]⟩)]) (h' := []) trivial rfl rfl rfl ?_
      refine W_false rfl ?_
      refine W_skip ?_
      refine W_seq ?_
      refine W_seq ?_
      refine W_regV he rfl ?_
      refine v0 (sFP rfl rfl rfl) rfl ?_
      refine v0 (sLd rfl rfl) rfl ?_
      refine v0 (sFP rfl rfl rfl) rfl ?_
      refine v0 (sLd rfl rfl) rfl ?_
      refine vB (sBi rfl rfl rfl rfl) rfl rfl fun b3 hb3 => ?_
      cases b3 with
      | true =>
        replace h := brT hb3 h
        refine ve ?_
        refine W2 [19] [] [] (l := [(19, .c (.bool true))]) (h := []) (h' := []) trivial rfl rfl rfl ?_
        refine W_true rfl ?_
        refine W_seq ?_
        refine W_regV he rfl ?_
        refine v0 (sA rfl [] rfl) rfl ?_
        refine ve ?_
        refine W2 [4] [] [] (l := [(4, .c (.bool false))]) (h := []) (h' := []) trivial rfl rfl rfl ?_
        obtain rfl := Option.some.inj h
        exact W_ret (r0 rfl rfl)
      | false =>
        replace h := brF hb3 h
        refine ve ?_
        refine W2 [19] [] [] (l := [(19, .c (.bool false))]) (h := []) (h' := []) trivial rfl rfl rfl ?_
        refine W_false rfl ?_
        refine W_skip ?_
        refine W_seq ?_
        refine W_regV he rfl ?_
        refine v0 (sA rfl [] rfl) rfl ?_
        refine ve ?_
        refine W2 [4] [] [] (l := [(4, .c (.bool true))]) (h := []) (h' := []) trivial rfl rfl rfl ?_
        obtain rfl := Option.some.inj h
        exact W_ret (r0 rfl rfl)
theorem ok_laws_eqThing : FnOk Try.prog 121 := ⟨_, Try.func121, rfl, rfl⟩


/-! ### loop.example/g00499/laws.eqThingS -/
def l_laws_eqThingS_3 (K : Nat) (a0 : List T_impl_Thing) (a1 : List T_impl_Thing) : Nat → Int → Option (Bool)
  | 0, _ => none
  | n3 + 1, v2 => (bif (decide (v2 < (a0.length : Int))) then (if (0 : Int) ≤ v2 ∧ v2 < (a0.length : Int) then (if (0 : Int) ≤ v2 ∧ v2 < (a1.length : Int) then ((m_laws_eqThing K (gt a0 v2) (gt a1 v2)).bind fun r7 => (bif r7 then (l_laws_eqThingS_3 K a0 a1 n3 (iAdd .i64 v2 1)) else some false)) else none) else none) else some true)
def m_laws_eqThingS (K : Nat) (a0 : List T_impl_Thing) (a1 : List T_impl_Thing) : Option (Bool) := (bif ((a0.length : Int) != (a1.length : Int)) then some false else (l_laws_eqThingS_3 K a0 a1 K 0))
set_option maxRecDepth 20000 in
set_option maxHeartbeats 8000000 in
theorem w_laws_eqThingS (K : Nat) (a0 : List T_impl_Thing) (a1 : List T_impl_Thing) (r : Bool) (h : m_laws_eqThingS K a0 a1 = some r) : Sp Try.prog 114 [.c (.row false 3 (a0.map en_impl_Thing)), .c (.row false 3 (a1.map en_impl_Thing))] [] (.c (.bool r)) [] := by
  refine Sp.of_W tabOk Try.func114 rfl rfl (Nat.le_of_ble_eq_true rfl) (Nat.le_of_ble_eq_true rfl) fun F hP hN hm => ?_
  obtain ⟨P, N, w0, σ0, β0, m⟩ := F
  obtain rfl : P = Try.prog := hP
  obtain rfl : N = 27 := hN
  obtain rfl : m = 1 := hm
  have he : Env ⟨Try.prog, 27, w0, σ0, β0, 1⟩ tab := ⟨Nat.le_of_ble_eq_true rfl, tabOk⟩
  unfold m_laws_eqThingS at h
  refine W_seq ?_
  refine W_regV he rfl ?_
  refine v0 (sA rfl [] rfl) rfl ?_
  refine ve ?_
  refine W2 [0, 1] [] [] (l := [(0, .c (.row _ _ _)), (1, .c (.row _ _ _))]) (h := []) (h' := []) trivial rfl rfl rfl ?_
  refine W_seq ?_
  refine W_seq ?_
  refine W_regV he rfl ?_
  refine v0 (sM rfl [] rfl) rfl ?_
  refine v0 (sLm rfl rfl rfl rfl) rfl ?_
  refine v0 (sM rfl [] rfl) rfl ?_
  refine v0 (sLm rfl rfl rfl rfl) rfl ?_
  refine vB (sBi rfl rfl rfl rfl) rfl rfl fun b1 hb1 => ?_
  cases b1 with
  | true =>
    replace h := brT hb1 h
    refine ve ?_
    refine W2 [0, 1, 10] [] [] (l := [(0, .c (.row _ _ _)), (1, .c (.row _ _ _)), (10, .c (.bool true))]) (h := []) (h' := []) trivial rfl rfl rfl ?_
    refine W_true rfl ?_
    refine W_seq ?_
    refine W_regV he rfl ?_
    refine v0 (sA rfl [] rfl) rfl ?_
    refine ve ?_
    refine W2 [4] [] [] (l := [(4, .c (.bool false))]) (h := []) (h' := []) trivial rfl rfl rfl ?_
    obtain rfl := Option.some.inj h
    exact W_ret (r0 rfl rfl)
  | false =>
    replace h := brF hb1 h
    refine ve ?_
    refine W2 [0, 1, 10] [] [] (l := [(0, .c (.row _ _ _)), (1, .c (.row _ _ _)), (10, .c (.bool false))]) (h := []) (h' := []) trivial rfl rfl rfl ?_
    refine W_false rfl ?_
    refine W_skip ?_
    refine W_seq ?_
    refine W_seq ?_
    refine W_regV he rfl ?_
    refine v0 (sA rfl [] rfl) rfl ?_
    refine ve ?_
    refine W2 [0, 1, 5] [] [] (l := [(0, .c (.row _ _ _)), (1, .c (.row _ _ _)), (5, .c (.int _ _))]) (h := []) (h' := []) trivial rfl rfl rfl ?_
    refine W_block ?_
    refine W2 [0, 1, 5] [] [] (l := [(0, .c (.row _ _ _)), (1, .c (.row _ _ _)), (5, .c (.int _ _))]) (h := []) (h' := []) trivial rfl rfl rfl ?_
    refine W_loopW (fun n3 S => ∃ (v2 : Int), S = StL [(0, .c (.row false 3 (a0.map en_impl_Thing))), (1, .c (.row false 3 (a1.map en_impl_Thing))), (5, .c (.int .i64 v2))] ([] ++ []) ∧ l_laws_eqThingS_3 K a0 a1 n3 v2 = some r) K ⟨_, rfl, h⟩ ?_
    rintro n3 S ⟨v2, rfl, h⟩
    cases n3 with
    | zero => simp [l_laws_eqThingS_3] at h
    | succ n3 =>
      rw [l_laws_eqThingS_3] at h
      refine W_seq ?_
      refine W_seq ?_
      refine W_regV he rfl ?_
      refine v0 (sM rfl [] rfl) rfl ?_
      refine v0 (sM rfl [] rfl) rfl ?_
      refine v0 (sLm rfl rfl rfl rfl) rfl ?_
      refine vB (sBi rfl rfl rfl rfl) rfl rfl fun b4 hb4 => ?_
      cases b4 with
      | true =>
        replace h := brT hb4 h
        refine ve ?_
        refine W2 [0, 1, 5, 14] [] [] (l := [(0, .c (.row _ _ _)), (1, .c (.row _ _ _)), (5, .c (.int _ _)), (14, .c (.bool true))]) (h := []) (h' := []) trivial rfl rfl rfl ?_
        refine W_true rfl ?_
        refine W_skip ?_
        refine W_seq ?_
        refine W_block ?_
        refine W_seq ?_
        refine W_regD he rfl rfl rfl ?_
        refine g0 (sM rfl [] rfl) rfl ?_
        refine g0 (sM rfl [] rfl) rfl ?_
        obtain ⟨c5, h⟩ := chk h
        refine g0 (sIRm rfl rfl rfl rfl c5) rfl ?_
        refine g0 (sLI rfl rfl (en_impl_Thing (gt a0 v2)) (gt_at _ c5) rfl rfl rfl) rfl ?_
        refine g0 (sM rfl [] rfl) rfl ?_
        refine g0 (sM rfl [] rfl) rfl ?_
        obtain ⟨c6, h⟩ := chk h
        refine g0 (sIRm rfl rfl rfl rfl c6) rfl ?_
        refine g0 (sLI rfl rfl (en_impl_Thing (gt a1 v2)) (gt_at _ c6) rfl rfl rfl) rfl ?_
        obtain ⟨r7, hr7, h⟩ := bnd2 h
        refine gB (sCm (w_laws_eqThing K (gt a0 v2) (gt a1 v2) _ hr7) ok_laws_eqThing rfl rfl rfl rfl) rfl rfl fun b8 hb8 => ?_
        cases b8 with
        | true =>
          replace h := brT hb8 h
          refine g0 (sNt rfl rfl) rfl ?_
          refine ge ⟨rfl, ?_⟩
          refine W2 [0, 1, 5, 26] [] [] (l := [(0, .c (.row _ _ _)), (1, .c (.row _ _ _)), (5, .c (.int _ _)), (26, .c (.bool false))]) (h := []) (h' := []) trivial rfl rfl rfl ?_
          refine W_false rfl ?_
          refine W_skip ?_
          refine W_regV he rfl ?_
          refine v0 (sM rfl [] rfl) rfl ?_
          refine v0 (sBi rfl rfl rfl rfl) rfl ?_
          refine v0 (sA rfl [] rfl) rfl ?_
          refine ve ?_
          exact ⟨n3, _, Nat.lt_succ_self n3, wk2 [0, 1, 5] [] [] (l := [(0, .c (.row _ _ _)), (1, .c (.row _ _ _)), (5, .c (.int _ _))]) (h := []) (h' := []) trivial rfl rfl rfl, _, rfl, h⟩
        | false =>
          replace h := brF hb8 h
          refine g0 (sNt rfl rfl) rfl ?_
          refine ge ⟨rfl, ?_⟩
          refine W2 [0, 1, 5, 26] [] [] (l := [(0, .c (.row _ _ _)), (1, .c (.row _ _ _)), (5, .c (.int _ _)), (26, .c (.bool true))]) (h := []) (h' := []) trivial rfl rfl rfl ?_
          refine W_true rfl ?_
          refine W_seq ?_
          refine W_regV he rfl ?_
          refine v0 (sA rfl [] rfl) rfl ?_
          refine ve ?_
          refine W2 [4] [] [] (l := [(4, .c (.bool false))]) (h := []) (h' := []) trivial rfl rfl rfl ?_
          obtain rfl := Option.some.inj h
          exact W_ret (r0 rfl rfl)
      | false =>
        replace h := brF hb4 h
        refine ve ?_
        refine W2 [0, 1, 5, 14] [] [] (l := [(0, .c (.row _ _ _)), (1, .c (.row _ _ _)), (5, .c (.int _ _)), (14, .c (.bool false))]) (h := []) (h' := []) trivial rfl rfl rfl ?_
        refine W_false rfl ?_
        refine W_exit (ex_then (ex_then (ex_hit ?_)))
        refine W_seq ?_
        refine W_regV he rfl ?_
        refine v0 (sA rfl [] rfl) rfl ?_
        refine ve ?_
        refine W2 [4] [] [] (l := [(4, .c (.bool true))]) (h := []) (h' := []) trivial rfl rfl rfl ?_
        obtain rfl := Option.some.inj h
        exact W_ret (r0 rfl rfl)
theorem ok_laws_eqThingS : FnOk Try.prog 114 := ⟨_, Try.func114, rfl, rfl⟩


/-! ### loop.example/g00499/laws.eqNode -/
def m_laws_eqNode (K : Nat) (a0 : T_impl_Node) (a1 : T_impl_Node) : Option (Bool) := (bif (a0.fSt != a1.fSt) then some false else (bif (a0.fGen != a1.fGen) then some false else (bif (a0.fEp != a1.fEp) then some false else (bif (a0.fUp != a1.fUp) then some false else (bif (a0.fUpEp != a1.fUpEp) then some false else (bif (a0.fFirst != a1.fFirst) then some false else (bif (a0.fNext != a1.fNext) then some false else (bif (a0.fPrev != a1.fPrev) then some false else ((m_laws_eqIntS K a0.fChunks a1.fChunks).bind fun r9 => (bif r9 then (bif (a0.fCur != a1.fCur) then some false else (bif (a0.fBump != a1.fBump) then some false else ((m_laws_eqThingS K a0.fThings a1.fThings).bind fun r13 => (bif r13 then ((m_laws_eqIntS K a0.fTags a1.fTags).bind fun r15 => (bif r15 then some true else some false)) else some false)))) else some false))))))))))
set_option maxRecDepth 20000 in
set_option maxHeartbeats 8000000 in
theorem w_laws_eqNode (K : Nat) (a0 : T_impl_Node) (a1 : T_impl_Node) (r : Bool) (h : m_laws_eqNode K a0 a1 = some r) : Sp Try.prog 89 [.g [.int .i64 a0.fSt, .int .i64 a0.fGen, .int .i64 a0.fEp, .int .i64 a0.fUp, .int .i64 a0.fUpEp, .int .i64 a0.fFirst, .int .i64 a0.fNext, .int .i64 a0.fPrev, .row false 1 (a0.fChunks.map en_i64), .int .i64 a0.fCur, .int .i64 a0.fBump, .row false 3 (a0.fThings.map en_impl_Thing), .row false 1 (a0.fTags.map en_i64)], .g [.int .i64 a1.fSt, .int .i64 a1.fGen, .int .i64 a1.fEp, .int .i64 a1.fUp, .int .i64 a1.fUpEp, .int .i64 a1.fFirst, .int .i64 a1.fNext, .int .i64 a1.fPrev, .row false 1 (a1.fChunks.map en_i64), .int .i64 a1.fCur, .int .i64 a1.fBump, .row false 3 (a1.fThings.map en_impl_Thing), .row false 1 (a1.fTags.map en_i64)]] [] (.c (.bool r)) [] := by
  refine Sp.of_W tabOk Try.func89 rfl rfl (Nat.le_of_ble_eq_true rfl) (Nat.le_of_ble_eq_true rfl) fun F hP hN hm => ?_
  obtain ⟨P, N, w0, σ0, β0, m⟩ := F
  obtain rfl : P = Try.prog := hP
  obtain rfl : N = 73 := hN
  obtain rfl : m = 1 := hm
  have he : Env ⟨Try.prog, 73, w0, σ0, β0, 1⟩ tab := ⟨Nat.le_of_ble_eq_true rfl, tabOk⟩
  unfold m_laws_eqNode at h
  refine W_seq ?_
  refine W_regV he rfl ?_
  refine v0 (sBx rfl [] rfl rfl 101 rfl) rfl ?_
  refine v0 (sBx rfl [] rfl rfl 102 rfl) rfl ?_
  refine v0 (sA rfl [] rfl) rfl ?_
  refine ve ?_
  refine W2 [2, 3] [101, 102] [] (l := [(2, .c (.ptr _ _ _ _)), (3, .c (.ptr _ _ _ _))]) (h := [(101, ⟨0, 13, [[.int _ _, .int _ _, .int _ _, .int _ _, .int _ _, .int _ _, .int _ _, .int _ _, .row _ _ _, .int _ _, .int _ _, .row _ _ _, .row _ _ _]]⟩), (102, ⟨0, 13, [[.int _ _, .int _ _, .int _ _, .int _ _, .int _ _, .int _ _, .int _ _, .int _ _, .row _ _ _, .int _ _, .int _ _, .row _ _ _, .row _ _ _]]⟩)]) (h' := []) trivial rfl rfl rfl ?_
  refine W_seq ?_
  refine W_seq ?_
  refine W_regV he rfl ?_
  refine v0 (sFP rfl rfl rfl) rfl ?_
  refine v0 (sLd rfl rfl) rfl ?_
  refine v0 (sFP rfl rfl rfl) rfl ?_
  refine v0 (sLd rfl rfl) rfl ?_
  refine vB (sBi rfl rfl rfl rfl) rfl rfl fun b1 hb1 => ?_
  cases b1 with
  | true =>
    replace h := brT hb1 h
    refine ve ?_
    refine W2 [2, 3, 9] [101, 102] [] (l := [(2, .c (.ptr _ _ _ _)), (3, .c (.ptr _ _ _ _)), (9, .c (.bool true))]) (h := [(101, ⟨0, 13, [[.int _ _, .int _ _, .int _ _, .int _ _, .int _ _, .int _ _, .int _ _, .int _ _, .row _ _ _, .int _ _, .int _ _, .row _ _ _, .row _ _ _]]⟩), (102, ⟨0, 13, [[.int _ _, .int _ _, .int _ _, .int _ _, .int _ _, .int _ _, .int _ _, .int _ _, .row _ _ _, .int _ _, .int _ _, .row _ _ _, .row _ _ _]]⟩)]) (h' := []) trivial rfl rfl rfl ?_
    refine W_true rfl ?_
    refine W_seq ?_
    refine W_regV he rfl ?_
    refine v0 (sA rfl [] rfl) rfl ?_
    refine ve ?_
    refine W2 [4] [] [] (l := [(4, .c (.bool false))]) (h := []) (h' := []) trivial rfl rfl rfl ?_
    obtain rfl := Option.some.inj h
    exact W_ret (r0 rfl rfl)
  | false =>
    replace h := brF hb1 h
    refine ve ?_
    refine W2 [2, 3, 9] [101, 102] [] (l := [(2, .c (.ptr _ _ _ _)), (3, .c (.ptr _ _ _ _)), (9, .c (.bool false))]) (h := [(101, ⟨0, 13, [[.int _ _, .int _ _, .int _ _, .int _ _, .int _ _, .int _ _, .int _ _, .int _ _, .row _ _ _, .int _ _, .int _ _, .row _ _ _, .row _ _ _]]⟩), (102, ⟨0, 13, [[.int _ _, .int _ _, .int _ _, .int _ _, .int _ _, .int _ _, .int _ _, .int _ _, .row _ _ _, .int _ _, .int _ _, .row _ _ _, .row _ _ _]]⟩)]) (h' := []) trivial rfl rfl rfl ?_
    refine W_false rfl ?_
    refine W_skip ?_
    refine W_seq ?_
    refine W_seq ?_
    refine W_regV he rfl ?_
    refine v0 (sFP rfl rfl rfl) rfl ?_
    refine v0 (sLd rfl rfl) rfl ?_
    refine v0 (sFP rfl rfl rfl) rfl ?_
    refine v0 (sLd rfl rfl) rfl ?_
    refine vB (sBi rfl rfl rfl rfl) rfl rfl fun b2 hb2 => ?_
    cases b2 with
    | true =>
      replace h := brT hb2 h
      refine ve ?_
      refine W2 [2, 3, 14] [101, 102] [] (l := [(2, .c (.ptr _ _ _ _)), (3, .c (.ptr _ _ _ _)), (14, .c (.bool true))]) (h := [(101, ⟨0, 13, [[.int _ _, .int _ _, .int _ _, .int _ _, .int _ _, .int _ _, .int _ _, .int _ _, .row _ _ _, .int _ _, .int _ _, .row _ _ _, .row _ _ _]]⟩), (102, ⟨0, 13, [[.int _ _, .int _ _, .int _ _, .int _ _, .int _ _, .int _ _, .int _ _, .int _ _, .row _ _ _, .int _ _, .int _ _, .row _ _ _, .row _ _ _]]⟩)]) (h' := []) trivial rfl rfl rfl ?_
      refine W_true rfl ?_
      refine W_seq ?_
      refine W_regV he rfl ?_
      refine v0 (sA rfl [] rfl) rfl ?_
      refine ve ?_
      refine W2 [4] [] [] (l := [(4, .c (.bool false))]) (h := []) (h' := []) trivial rfl rfl rfl ?_
      obtain rfl := Option.some.inj h
      exact W_ret (r0 rfl rfl)
    | false =>
      replace h := brF hb2 h
      refine ve ?_
      refine W2 [2, 3, 14] [101, 102] [] (l := [(2, .c (.ptr _ _ _ _)), (3, .c (.ptr _ _ _ _)), (14, .c (.bool false))]) (h := [(101, ⟨0, 13, [[.int _ _, .int _ _, .int _ _, .int _ _, .int _ _, .int _ _, .int _ _, .int _ _, .row _ _ _, .int _ _, .int _ _, .row _ _ _, .row _ _ _]]⟩), (102, ⟨0, 13, [[.int _ _, .int _ _, .int _ _, .int _ _, .int _ _, .int _ _, .int _ _, .int _ _, .row _ _ _, .int _ _, .int _ _, .row _ _ _, .row _ _ _]]⟩)]) (h' := []) trivial rfl rfl rfl ?_
      refine W_false rfl ?_
      refine W_skip ?_
      refine W_seq ?_
      refine W_seq ?_
      refine W_regV he rfl ?_
      refine v0 (sFP rfl rfl rfl) rfl ?_
      refine v0 (sLd rfl rfl) rfl ?_
      refine v0 (sFP rfl rfl rfl) rfl ?_
      refine v0 (sLd rfl rfl) rfl ?_
      refine vB (sBi rfl rfl rfl rfl) rfl rfl fun b3 hb3 => ?_
      cases b3 with
      | true =>
        replace h := brT hb3 h
        refine ve ?_
        refine W2 [2, 3, 19] [101, 102] [] (l := [(2, .c (.ptr _ _ _ _)), (3, .c (.ptr _ _ _ _)), (19, .c (.bool true))]) (h := [(101, ⟨0, 13, [[.int _ _, .int _ _, .int _ _, .int _ _, .int _ _, .int _ _, .int _ _, .int _ _, .row _ _ _, .int _ _, .int _ _, .row _ _ _, .row _ _ _]]⟩), (102, ⟨0, 13, [[.int _ _, .int _ _, .int _ _, .int _ _, .int _ _, .int _ _, .int _ _, .int _ _, .row _ _ _, .int _ _, .int _ _, .row _ _ _, .row _ _ _]]⟩)]) (h' := []) trivial rfl rfl rfl ?_
        refine W_true rfl ?_
        refine W_seq ?_
        refine W_regV he rfl ?_
        refine v0 (sA rfl [] rfl) rfl ?_
        refine ve ?_
        refine W2 [4] [] [] (l := [(4, .c (.bool false))]) (h := []) (h' := []) trivial rfl rfl rfl ?_
        obtain rfl := Option.some.inj h
        exact W_ret (r0 rfl rfl)
      | false =>
        replace h := brF hb3 h
        refine ve ?_
        refine W2 [2, 3, 19] [101, 102] [] (l := [(2, .c (.ptr _ _ _ _)), (3, .c (.ptr _ _ _ _)), (19, .c (.bool false))]) (h := [(101, ⟨0, 13, [[.int _ _, .int _ _, .int _ _, .int _ _, .int _ _, .int _ _, .int _ _, .int _ _, .row _ _ _, .int _ _, .int _ _, .row _ _ _, .row _ _ _]]⟩), (102, ⟨0, 13, [[.int _ _, .int _ _, .int _ _, .int _ _, .int _ _, .int _ _, .int _ _, .int _ _, .row _ _ _, .int _ _, .int _ _, .row _ _ _, .row _ _ _]]⟩)]) (h' := []) trivial rfl rfl rfl ?_
        refine W_false rfl ?_
        refine W_skip ?_
        refine W_seq ?_
        refine W_seq ?_
        refine W_regV he rfl ?_
        refine v0 (sFP rfl rfl rfl) rfl ?_
        refine v0 (sLd rfl rfl) rfl ?_
        refine v0 (sFP rfl rfl rfl) rfl ?_
        refine v0 (sLd rfl rfl) rfl ?_
        refine vB (sBi rfl rfl rfl rfl) rfl rfl fun b4 hb4 => ?_
        cases b4 with
        | true =>
          replace h := brT hb4 h
          refine ve ?_
          refine W2 [2, 3, 24] [101, 102] [] (l := [(2, .c (.ptr _ _ _ _)), (3, .c (.ptr _ _ _ _)), (24, .c (.bool true))]) (h := [(101, ⟨0, 13, [[.int _ _, .int _ _, .int _ _, .int _ _, .int _ _, .int _ _, .int _ _, .int _ _, .row _ _ _, .int _ _, .int _ _, .row _ _ _, .row _ _ _]]⟩), (102, ⟨0, 13, [[.int _ _, .int _ _, .int _ _, .int _ _, .int _ _, .int _ _, .int _ _, .int _ _, .row _ _ _, .int _ _, .int _ _, .row _ _ _, .row _ _ _]]⟩)]) (h' := []) trivial rfl rfl rfl ?_
          refine W_true rfl ?_
          refine W_seq ?_
          refine W_regV he rfl ?_
          refine v0 (sA rfl [] rfl) rfl ?_
          refine ve ?_
          refine W2 [4] [] [] (l := [(4, .c (.bool false))]) (h := []) (h' := []) trivial rfl rfl rfl ?_
          obtain rfl := Option.some.inj h
          exact W_ret (r0 rfl rfl)
        | false =>
          replace h := brF hb4 h
          refine ve ?_
          refine W2 [2, 3, 24] [101, 102] [] (l := [(2, .c (.ptr _ _ _ _)), (3, .c (.ptr _ _ _ _)), (24, .c (.bool false))]) (h := [(101, ⟨0, 13, [[.int _ _, .int _ _, .int _ _, .int _ _, .int _ _, .int _ _, .int _ _, .int _ _, .row _ _ _, .int _ _, .int _ _, .row _ _ _, .row _ _ _]]⟩), (102, ⟨0, 13, [[.int _ _, .int _ _, .int _ _, .int _ _, .int _ _, .int _ _, .int _ _, .int _ _, .row _ _ _, .int _ _, .int _ _, .row _ _ _, .row _ _ _]]⟩)]) (h' := []) trivial rfl rfl rfl ?_
          refine W_false rfl ?_
          refine W_skip ?_
          refine W_seq ?_
          refine W_seq ?_
          refine W_regV he rfl ?_
          refine v0 (sFP rfl rfl rfl) rfl ?_
          refine v0 (sLd rfl rfl) rfl ?_
          refine v0 (sFP rfl rfl rfl) rfl ?_
          refine v0 (sLd rfl rfl) rfl ?_
          refine vB (sBi rfl rfl rfl rfl) rfl rfl fun b5 hb5 => ?_
          cases b5 with
          | true =>
            replace h := brT hb5 h
            refine ve ?_
            refine W2 [2, 3, 29] [101, 102] [] (l := [(2, .c (.ptr _ _ _ _)), (3, .c (.ptr _ _ _ _)), (29, .c (.bool true))]) (h := [(101, ⟨0, 13, [[.int _ _, .int _ _, .int _ _, .int _ _, .int _ _, .int _ _, .int _ _, .int _ _, .row _ _ _, .int _ _, .int _ _, .row _ _ _, .row _ _ _]]⟩), (102, ⟨0, 13, [[.int _ _, .int _ _, .int _ _, .int _ _, .int _ _, .int _ _, .int _ _, .int _ _, .row _ _ _, .int _ _, .int _ _, .row _ _ _, .row _ _ _]]⟩)]) (h' := []) trivial rfl rfl rfl ?_
            refine W_true rfl ?_
            refine W_seq ?_
            refine W_regV he rfl ?_
            refine v0 (sA rfl [] rfl) rfl ?_
            refine ve ?_
            refine W2 [4] [] [] (l := [(4, .c (.bool false))]) (h := []) (h' := []) trivial rfl rfl rfl ?_
            obtain rfl := Option.some.inj h
            exact W_ret (r0 rfl rfl)
          | false =>
            replace h := brF hb5 h
            refine ve ?_
            refine W2 [2, 3, 29] [101, 102] [] (l := [(2, .c (.ptr _ _ _ _)), (3, .c (.ptr _ _ _ _)), (29, .c (.bool false))]) (h := [(101, ⟨0, 13, [[.int _ _, .int _ _, .int _ _, .int _ _, .int _ _, .int _ _, .int _ _, .int _ _, .row _ _ _, .int _ _, .int _ _, .row _ _ _, .row _ _ _]]⟩), (102, ⟨0, 13, [[.int _ _, .int _ _, .int _ _, .int _ _, .int _ _, .int _ _, .int _ _, .int _ _, .row _ _ _, .int _ _, .int _ _, .row _ _ _, .row _ _ _]]⟩)]) (h' := []) trivial rfl rfl rfl ?_
            refine W_false rfl ?_
            refine W_skip ?_
            refine W_seq ?_
            refine W_seq ?_
            refine W_regV he rfl ?_
            refine v0 (sFP rfl rfl rfl) rfl ?_
            refine v0 (sLd rfl rfl) rfl ?_
            refine v0 (sFP rfl rfl rfl) rfl ?_
            refine v0 (sLd rfl rfl) rfl ?_
            refine vB (sBi rfl rfl rfl rfl) rfl rfl fun b6 hb6 => ?_
            cases b6 with
            | true =>
              replace h := brT hb6 h
              refine ve ?_
              refine W2 [2, 3, 34] [101, 102] [] (l := [(2, .c (.ptr _ _ _ _)), (3, .c (.ptr _ _ _ _)), (34, .c (.bool true))]) (h := [(101, ⟨0, 13, [[.int _ _, .int _ _, .int _ _, .int _ _, .int _ _, .int _ _, .int _ _, .int _ _, .row _ _ _, .int _ _, .int _ _, .row _ _ _, .row _ _ _]]⟩), (102, ⟨0, 13, [[.int _ _, .int _ _, .int _ _, .int _ _, .int _ _, .int _ _, .int _ _, .int _ _, .row _ _ _, .int _ _, .int _ _, .row _ _ _, .row _ _ _]]⟩)]) (h' := []) trivial rfl rfl rfl ?_
              refine W_true rfl ?_
              refine W_seq ?_
              refine W_regV he rfl ?_
              refine v0 (sA rfl [] rfl) rfl ?_
              refine ve ?_
              refine W2 [4] [] [] (l := [(4, .c (.bool false))]) (h := []) (h' := []) trivial rfl rfl rfl ?_
              obtain rfl := Option.some.inj h
              exact W_ret (r0 rfl rfl)
            | false =>
              replace h := brF hb6 h
              refine ve ?_
              refine W2 [2, 3, 34] [101, 102] [] (l := [(2, .c (.ptr _ _ _ _)), (3, .c (.ptr _ _ _ _)), (34, .c (.bool false))]) (h := [(101, ⟨0, 13, [[.int _ _, .int _ _, .int _ _, .int _ _, .int _ _, .int _ _, .int _ _, .int _ _, .row _ _ _, .int _ _, .int _ _, .row _ _ _, .row _ _ _]]⟩), (102, ⟨0, 13, [[.int _ _, .int _ _, .int _ _, .int _ _, .int _ _, .int _ _, .int _ _, .int _ _, .row _ _ _, .int _ _, .int _ _, .row _ _ _, .row _ _ _]]⟩)]) (h' := []) trivial rfl rfl rfl ?_
              refine W_false rfl ?_
              refine W_skip ?_
              refine W_seq ?_
              refine W_seq ?_
              refine W_regV he rfl ?_
              refine v0 (sFP rfl rfl rfl) rfl ?_
              refine v0 (sLd rfl rfl) rfl ?_
              refine v0 (sFP rfl rfl rfl) rfl ?_
              refine v0 (sLd rfl rfl) rfl ?_
              refine vB (sBi rfl rfl rfl rfl) rfl rfl fun b7 hb7 => ?_
              cases b7 with
              | true =>
                replace h := brT hb7 h
                refine ve ?_
                refine W2 [2, 3, 39] [101, 102] [] (l := [(2, .c (.ptr _ _ _ _)), (3, .c (.ptr _ _ _ _)), (39, .c (.bool true))]) (h := [(101, ⟨0, 13, [[.int _ _, .int _ _, .int _ _, .int _ _, .int _ _, .int _ _, .int _ _, .int _ _, .row _ _ _, .int _ _, .int _ _, .row _ _ _, .row _ _ _]]⟩), (102, ⟨0, 13, [[.int _ _, .int _ _, .int _ _, .int _ _, .int _ _, .int _ _, .int _ _, .int _ _, .row _ _ _, .int _ _, .int _ _, .row _ _ _, .row _ _ _]]⟩)]) (h' := []) trivial rfl rfl rfl ?_
                refine W_true rfl ?_
                refine W_seq ?_
                refine W_regV he rfl ?_
                refine v0 (sA rfl [] rfl) rfl ?_
                refine ve ?_
                refine W2 [4] [] [] (l := [(4, .c (.bool false))]) (h := []) (h' := []) trivial rfl rfl rfl ?_
                obtain rfl := Option.some.inj h
                exact W_ret (r0 rfl rfl)
              | false =>
                replace h := brF hb7 h
                refine ve ?_
                refine W2 [2, 3, 39] [101, 102] [] (l := [(2, .c (.ptr _ _ _ _)), (3, .c (.ptr _ _ _ _)), (39, .c (.bool false))]) (h := [(101, ⟨0, 13, [[.int _ _, .int _ _, .int _ _, .int _ _, .int _ _, .int _ _, .int _ _, .int _ _, .row _ _ _, .int _ _, .int _ _, .row _ _ _, .row _ _ _]]⟩), (102, ⟨0, 13, [[.int _ _, .int _ _, .int _ _, .int _ _, .int _ _, .int _ _, .int _ _, .int _ _, .row _ _ _, .int _ _, .int _ _, .row _ _ _, .row _ _ _]]⟩)]) (h' := []) trivial rfl rfl rfl ?_
                refine W_false rfl ?_
                refine W_skip ?_
                refine W_seq ?_
                refine W_seq ?_
                refine W_regV he rfl ?_
                refine v0 (sFP rfl rfl rfl) rfl ?_
                refine v0 (sLd rfl rfl) rfl ?_
                refine v0 (sFP rfl rfl rfl) rfl ?_
                refine v0 (sLd rfl rfl) rfl ?_
                refine vB (sBi rfl rfl rfl rfl) rfl rfl fun b8 hb8 => ?_
                cases b8 with
                | true =>
                  replace h := brT hb8 h
                  refine ve ?_
                  refine W2 [2, 3, 44] [101, 102] [] (l := [(2, .c (.ptr _ _ _ _)), (3, .c (.ptr _ _ _ _)), (44, .c (.bool true))]) (h := [(101, ⟨0, 13, [[.int _ _, .int _ _, .int _ _, .int _ _, .int _ _, .int _ _, .int _ _, .int _ _, .row _ _ _, .int _ _, .int _ _, .row _ _ _, .row _ _ _]]⟩), (102, ⟨0, 13, [[.int _ _, .int _ _, .int _ _, .int _ _, .int _ _, .int _ _, .int _ _, .int _ _, .row _ _ _, .int _ _, .int _ _, .row _ _ _, .row _ _ _]]⟩)]) (h' := []) trivial rfl rfl rfl ?_
                  refine W_true rfl ?_
                  refine W_seq ?_
                  refine W_regV he rfl ?_
                  refine v0 (sA rfl [] rfl) rfl ?_
                  refine ve ?_
                  refine W2 [4] [] [] (l := [(4, .c (.bool false))]) (h := []) (h' := []) trivial rfl rfl rfl ?_
                  obtain rfl := Option.some.inj h
                  exact W_ret (r0 rfl rfl)
                | false =>
                  replace h := brF hb8 h
                  refine ve ?_
                  refine W2 [2, 3, 44] [101, 102] [] (l := [(2, .c (.ptr _ _ _ _)), (3, .c (.ptr _ _ _ _)), (44, .c (.bool false))]) (h := [(101, ⟨0, 13, [[.int _ _, .int _ _, .int _ _, .int _ _, .int _ _, .int _ _, .int _ _, .int _ _, .row _ _ _, .int _ _, .int _ _, .row _ _ _, .row _ _ _]]⟩), (102, ⟨0, 13, [[.int _ _, .int _ _, .int _ _, .int _ _, .int _ _, .int _ _, .int _ _, .int _ _, .row _ _ _, .int _ _, .int _ _, .row _ _ _, .row _ _ _]]⟩)]) (h' := []) trivial rfl rfl rfl ?_
                  refine W_false rfl ?_
                  refine W_skip ?_
                  refine W_seq ?_
                  refine W_seq ?_
                  refine W_regV he rfl ?_
                  refine v0 (sFP rfl rfl rfl) rfl ?_
                  refine v0 (sLd rfl rfl) rfl ?_
                  refine v0 (sFP rfl rfl rfl) rfl ?_
                  refine v0 (sLd rfl rfl) rfl ?_
                  obtain ⟨r9, hr9, h⟩ := bnd2 h
                  refine vB (sCm (w_laws_eqIntS K a0.fChunks a1.fChunks _ hr9) ok_laws_eqIntS rfl rfl rfl rfl) rfl rfl fun b10 hb10 => ?_
                  cases b10 with
                  | true =>
                    replace h := brT hb10 h
                    refine v0 (sNt rfl rfl) rfl ?_
                    refine ve ?_
                    refine W2 [2, 3, 50] [101, 102] [] (l := [(2, .c (.ptr _ _ _ _)), (3, .c (.ptr _ _ _ _)), (50, .c (.bool false))]) (h := [(101, ⟨0, 13, [[.int _ _, .int _ _, .int _ _, .int _ _, .int _ _, .int _ _, .int _ _, .int _ _, .row _ _ _, .int _ _, .int _ _, .row _ _ _, .row _ _ _]]⟩), (102, ⟨0, 13, [[.int _ _, .int _ _, .int _ _, .int _ _, .int _ _, .int _ _, .int _ _, .int _ _, .row _ _ _, .int _ _, .int _ _, .row _ _ _, .row _ _ _]]⟩)]) (h' := []) trivial rfl rfl rfl ?_
                    refine W_false rfl ?_
                    refine W_skip ?_
                    refine W_seq ?_
                    refine W_seq ?_
                    refine W_regV he rfl ?_
                    refine v0 (sFP rfl rfl rfl) rfl ?_
                    refine v0 (sLd rfl rfl) rfl ?_
                    refine v0 (sFP rfl rfl rfl) rfl ?_
                    refine v0 (sLd rfl rfl) rfl ?_
                    refine vB (sBi rfl rfl rfl rfl) rfl rfl fun b11 hb11 => ?_
                    cases b11 with
                    | true =>
                      replace h := brT hb11 h
                      refine ve ?_
                      refine W2 [2, 3, 55] [101, 102] [] (l := [(2, .c (.ptr _ _ _ _)), (3, .c (.ptr _ _ _ _)), (55, .c (.bool true))]) (h := [(101, ⟨0, 13, [[.int _ _, .int _ _, .int _ _, .int _ _, .int _ _, .int _ _, .int _ _, .int _ _, .row _ _ _, .int _ _, .int _ _, .row _ _ _, .row _ _ _]]⟩), (102, ⟨0, 13, [[.int _ _, .int _ _, .int _ _, .int _ _, .int _ _, .int _ _, .int _ _, .int _ _, .row _ _ _, .int _ _, .int _ _, .row _ _ _, .row _ _ _]]⟩)]) (h' := []) trivial rfl rfl rfl ?_
                      refine W_true rfl ?_
                      refine W_seq ?_
                      refine W_regV he rfl ?_
                      refine v0 (sA rfl [] rfl) rfl ?_
                      refine ve ?_
                      refine W2 [4] [] [] (l := [(4, .c (.bool false))]) (h := []) (h' := []) trivial rfl rfl rfl ?_
                      obtain rfl := Option.some.inj h
                      exact W_ret (r0 rfl rfl)
                    | false =>
                      replace h := brF hb11 h
                      refine ve ?_
                      refine W2 [2, 3, 55] [101, 102] [] (l := [(2, .c (.ptr _ _ _ _)), (3, .c (.ptr _ _ _ _)), (55, .c (.bool false))]) (h := [(101, ⟨0, 13, [[.int _ _, .int _ _, .int _ _, .int _ _, .int _ _, .int _ _, .int _ _, .int _ _, .row _ _ _, .int _ _, .int _ _, .row _ _ _, .row _ _ _]]⟩), (102, ⟨0, 13, [[.int _ _, .int _ _, .int _ _, .int _ _, .int _ _, .int _ _, .int _ _, .int _ _, .row _ _ _, .int _ _, .int _ _, .row _ _ _, .row _ _ _]]⟩)]) (h' := []) trivial rfl rfl rfl ?_
                      refine W_false rfl ?_
                      refine W_skip ?_
                      refine W_seq ?_
                      refine W_seq ?_
                      refine W_regV he rfl ?_
                      refine v0 (sFP rfl rfl rfl) rfl ?_
                      refine v0 (sLd rfl rfl) rfl ?_
                      refine v0 (sFP rfl rfl rfl) rfl ?_
                      refine v0 (sLd rfl rfl) rfl ?_
                      refine vB (sBi rfl rfl rfl rfl) rfl rfl fun b12 hb12 => ?_
                      cases b12 with
                      | true =>
                        replace h := brT hb12 h
                        refine ve ?_
                        refine W2 [2, 3, 60] [101, 102] [] (l := [(2, .c (.ptr _ _ _ _)), (3, .c (.ptr _ _ _ _)), (60, .c (.bool true))]) (h := [(101, ⟨0, 13, [[.int _ _, .int _ _, .int _ _, .int _ _, .int _ _, .int _ _, .int _ _, .int _ _, .row _ _ _, .int _ _, .int _ _, .row _ _ _, .row _ _ _]]⟩), (102, ⟨0, 13, [[.int _ _, .int _ _, .int _ _, .int _ _, .int _ _, .int _ _, .int _ _, .int _ _, .row _ _ _, .int _ _, .int _ _, .row _ _ _, .row _ _ _]]⟩)]) (h' := []) trivial rfl rfl rfl ?_
                        refine W_true rfl ?_
                        refine W_seq ?_
                        refine W_regV he rfl ?_
                        refine v0 (sA rfl [] rfl) rfl ?_
                        refine ve ?_
                        refine W2 [4] [] [] (l := [(4, .c (.bool false))]) (h := []) (h' := []) trivial rfl rfl rfl ?_
                        obtain rfl := Option.some.inj h
                        exact W_ret (r0 rfl rfl)
                      | false =>
                        replace h := brF hb12 h
                        refine ve ?_
                        refine W2 [2, 3, 60] [101, 102] [] (l := [(2, .c (.ptr _ _ _ _)), (3, .c (.ptr _ _ _ _)), (60, .c (.bool false))]) (h := [(101, ⟨0, 13, [[.int _ _, .int _ _, .int _ _, .int _ _, .int _ _, .int _ _, .int _ _, .int _ _, .row _ _ _, .int _ _, .int _ _, .row _ _ _, .row _ _ _]]⟩), (102, ⟨0, 13, [[.int _ _, .int _ _, .int _ _, .int _ _, .int _ _, .int _ _, .int _ _, .int _ _, .row _ _ _, .int _ _, .int _ _, .row _ _ _, .row _ _ _]]⟩)]) (h' := []) trivial rfl rfl rfl ?_
                        refine W_false rfl ?_
                        refine W_skip ?_
                        refine W_seq ?_
                        refine W_seq ?_
                        refine W_regV he rfl ?_
                        refine v0 (sFP rfl rfl rfl) rfl ?_
                        refine v0 (sLd rfl rfl) rfl ?_
                        refine v0 (sFP rfl rfl rfl) rfl ?_
                        refine v0 (sLd rfl rfl) rfl ?_
                        obtain ⟨r13, hr13, h⟩ := bnd2 h
                        refine vB (sCm (w_laws_eqThingS K a0.fThings a1.fThings _ hr13) ok_laws_eqThingS rfl rfl rfl rfl) rfl rfl fun b14 hb14 => ?_
                        cases b14 with
                        | true =>
                          replace h := brT hb14 h
                          refine v0 (sNt rfl rfl) rfl ?_
                          refine ve ?_
                          refine W2 [2, 3, 66] [101, 102] [] (l := [(2, .c (.ptr _ _ _ _)), (3, .c (.ptr _ _ _ _)), (66, .c (.bool false))]) (h := [(101, ⟨0, 13, [[.int _ _, .int _ _, .int _ _, .int _ _, .int _ _, .int _ _, .int _ _, .int _ _, .row _ _ _, .int _ _, .int _ _, .row _ _ _, .row _ _ _]]⟩), (102, ⟨0, 13, [[.int _ _, .int _ _, .int _ _, .int _ _, .int _ _, .int _ _, .int _ _, .int _ _, .row _ _ _, .int _ _, .int _ _, .row _ _ _, .row _ _ _]]⟩)]) (h' := []) trivial rfl rfl rfl ?_
                          refine W_false rfl ?_
                          refine W_skip ?_
                          refine W_seq ?_
                          refine W_seq ?_
                          refine W_regV he rfl ?_
                          refine v0 (sFP rfl rfl rfl) rfl ?_
                          refine v0 (sLd rfl rfl) rfl ?_
                          refine v0 (sFP rfl rfl rfl) rfl ?_
                          refine v0 (sLd rfl rfl) rfl ?_
                          obtain ⟨r15, hr15, h⟩ := bnd2 h
                          refine vB (sCm (w_laws_eqIntS K a0.fTags a1.fTags _ hr15) ok_laws_eqIntS rfl rfl rfl rfl) rfl rfl fun b16 hb16 => ?_
                          cases b16 with
                          | true =>
                            replace h := brT hb16 h
                            refine v0 (sNt rfl rfl) rfl ?_
                            refine ve ?_
                            refine W2 [72] [] [] (l := [(72, .c (.bool false))]) (h := []) (h' := []) trivial rfl rfl rfl ?_
                            refine W_false rfl ?_
                            refine W_skip ?_
                            refine W_seq ?_
                            refine W_regV he rfl ?_
                            refine v0 (sA rfl [] rfl) rfl ?_
                            refine ve ?_
                            refine W2 [4] [] [] (l := [(4, .c (.bool true))]) (h := []) (h' := []) trivial rfl rfl rfl ?_
                            obtain rfl := Option.some.inj h
                            exact W_ret (r0 rfl rfl)
                          | false =>
                            replace h := brF hb16 h
                            refine v0 (sNt rfl rfl) rfl ?_
                            refine ve ?_
                            refine W2 [72] [] [] (l := [(72, .c (.bool true))]) (h := []) (h' := []) trivial rfl rfl rfl ?_
                            refine W_true rfl ?_
                            refine W_seq ?_
                            refine W_regV he rfl ?_
                            refine v0 (sA rfl [] rfl) rfl ?_
                            refine ve ?_
                            refine W2 [4] [] [] (l := [(4, .c (.bool false))]) (h := []) (h' := []) trivial rfl rfl rfl ?_
                            obtain rfl := Option.some.inj h
                            exact W_ret (r0 rfl rfl)
                        | false =>
                          replace h := brF hb14 h
                          refine v0 (sNt rfl rfl) rfl ?_
                          refine ve ?_
                          refine W2 [2, 3, 66] [101, 102] [] (l := [(2, .c (.ptr _ _ _ _)), (3, .c (.ptr _ _ _ _)), (66, .c (.bool true))]) (h := [(101, ⟨0, 13, [[.int _ _, .int _ _, .int _ _, .int _ _, .int _ _, .int _ _, .int _ _, .int _ _, .row _ _ _, .int _ _, .int _ _, .row _ _ _, .row _ _ _]]⟩), (102, ⟨0, 13, [[.int _ _, .int _ _, .int _ _, .int _ _, .int _ _, .int _ _, .int _ _, .int _ _, .row _ _ _, .int _ _, .int _ _, .row _ _ _, .row _ _ _]]⟩)]) (h' := []) trivial rfl rfl rfl ?_
                          refine W_true rfl ?_
                          refine W_seq ?_
                          refine W_regV he rfl ?_
                          refine v0 (sA rfl [] rfl) rfl ?_
                          refine ve ?_
                          refine W2 [4] [] [] (l := [(4, .c (.bool false))]) (h := []) (h' := []) trivial rfl rfl rfl ?_
                          obtain rfl := Option.some.inj h
                          exact W_ret (r0 rfl rfl)
                  | false =>
                    replace h := brF hb10 h
                    refine v0 (sNt rfl rfl) rfl ?_
                    refine ve ?_
                    refine W2 [2, 3, 50] [101, 102] [] (l := [(2, .c (.ptr _ _ _ _)), (3, .c (.ptr _ _ _ _)), (50, .c (.bool true))]) (h := [(101, ⟨0, 13, [[.int _ _, .int _ _, .int _ _, .int _ _, .int _ _, .int _ _, .int _ _, .int _ _, .row _ _ _, .int _ _, .int _ _, .row _ _ _, .row _ _ _]]⟩), (102, ⟨0, 13, [[.int _ _, .int _ _, .int _ _, .int _ _, .int _ _, .int _ _, .int _ _, .int _ _, .row _ _ _, .int _ _, .int _ _, .row _ _ _, .row _ _ _]]⟩)]) (h' := []) trivial rfl rfl rfl ?_
                    refine W_true rfl ?_
                    refine W_seq ?_
                    refine W_regV he rfl ?_
                    refine v0 (sA rfl [] rfl) rfl ?_
                    refine ve ?_
                    refine W2 [4] [] [] (l := [(4, .c (.bool false))]) (h := []) (h' := []) trivial rfl rfl rfl ?_
                    obtain rfl := Option.some.inj h
                    exact W_ret (r0 rfl rfl)
theorem ok_laws_eqNode : FnOk Try.prog 89 := ⟨_, Try.func89, rfl, rfl⟩


/-! ### loop.example/g00499/laws.eqNodeS -/
def l_laws_eqNodeS_3 (K : Nat) (a0 : List T_impl_Node) (a1 : List T_impl_Node) : Nat → Int → Option (Bool)
  | 0, _ => none
  | n3 + 1, v2 => (bif (decide (v2 < (a0.length : Int))) then (if (0 : Int) ≤ v2 ∧ v2 < (a0.length : Int) then (if (0 : Int) ≤ v2 ∧ v2 < (a1.length : Int) then ((m_laws_eqNode K (gt a0 v2) (gt a1 v2)).bind fun r7 => (bif r7 then (l_laws_eqNodeS_3 K a0 a1 n3 (iAdd .i64 v2 1)) else some false)) else none) else none) else some true)
def m_laws_eqNodeS (K : Nat) (a0 : List T_impl_Node) (a1 : List T_impl_Node) : Option (Bool) := (bif ((a0.length : Int) != (a1.length : Int)) then some false else (l_laws_eqNodeS_3 K a0 a1 K 0))
set_option maxRecDepth 20000 in
set_option maxHeartbeats 8000000 in
theorem w_laws_eqNodeS (K : Nat) (a0 : List T_impl_Node) (a1 : List T_impl_Node) (r : Bool) (h : m_laws_eqNodeS K a0 a1 = some r) : Sp Try.prog 57 [.c (.row false 13 (a0.map en_impl_Node)), .c (.row false 13 (a1.map en_impl_Node))] [] (.c (.bool r)) [] := by
  refine Sp.of_W tabOk Try.func57 rfl rfl (Nat.le_of_ble_eq_true rfl) (Nat.le_of_ble_eq_true rfl) fun F hP hN hm => ?_
  obtain ⟨P, N, w0, σ0, β0, m⟩ := F
  obtain rfl : P = Try.prog := hP
  obtain rfl : N = 27 := hN
  obtain rfl : m = 1 := hm
  have he : Env ⟨Try.prog, 27, w0, σ0, β0, 1⟩ tab := ⟨Nat.le_of_ble_eq_true rfl, tabOk⟩
  unfold m_laws_eqNodeS at h
  refine W_seq ?_
  refine W_regV he rfl ?_
  refine v0 (sA rfl [] rfl) rfl ?_
  refine ve ?_
  refine W2 [0, 1] [] [] (l := [(0, .c (.row _ _ _)), (1, .c (.row _ _ _))]) (h := []) (h' := []) trivial rfl rfl rfl ?_
  refine W_seq ?_
  refine W_seq ?_
  refine W_regV he rfl ?_
  refine v0 (sM rfl [] rfl) rfl ?_
  refine v0 (sLm rfl rfl rfl rfl) rfl ?_
  refine v0 (sM rfl [] rfl) rfl ?_
  refine v0 (sLm rfl rfl rfl rfl) rfl ?_
  refine vB (sBi rfl rfl rfl rfl) rfl rfl fun b1 hb1 => ?_
  cases b1 with
  | true =>
    replace h := brT hb1 h
    refine ve ?_
    refine W2 [0, 1, 10] [] [] (l := [(0, .c (.row _ _ _)), (1, .c (.row _ _ _)), (10, .c (.bool true))]) (h := []) (h' := []) trivial rfl rfl rfl ?_
    refine W_true rfl ?_
    refine W_seq ?_
    refine W_regV he rfl ?_
    refine v0 (sA rfl [] rfl) rfl ?_
    refine ve ?_
    refine W2 [4] [] [] (l := [(4, .c (.bool false))]) (h := []) (h' := []) trivial rfl rfl rfl ?_
    obtain rfl := Option.some.inj h
    exact W_ret (r0 rfl rfl)
  | false =>
    replace h := brF hb1 h
    refine ve ?_
    refine W2 [0, 1, 10] [] [] (l := [(0, .c (.row _ _ _)), (1, .c (.row _ _ _)), (10, .c (.bool false))]) (h := []) (h' := []) trivial rfl rfl rfl ?_
    refine W_false rfl ?_
    refine W_skip ?_
    refine W_seq ?_
    refine W_seq ?_
    refine W_regV he rfl ?_
    refine v0 (sA rfl [] rfl) rfl ?_
    refine ve ?_
    refine W2 [0, 1, 5] [] [] (l := [(0, .c (.row _ _ _)), (1, .c (.row _ _ _)), (5, .c (.int _ _))]) (h := []) (h' := []) trivial rfl rfl rfl ?_
    refine W_block ?_
    refine W2 [0, 1, 5] [] [] (l := [(0, .c (.row _ _ _)), (1, .c (.row _ _ _)), (5, .c (.int _ _))]) (h := []) (h' := []) trivial rfl rfl rfl ?_
    refine W_loopW (fun n3 S => ∃ (v2 : Int), S = StL [(0, .c (.row false 13 (a0.map en_impl_Node))), (1, .c (.row false 13 (a1.map en_impl_Node))), (5, .c (.int .i64 v2))] ([] ++ []) ∧ l_laws_eqNodeS_3 K a0 a1 n3 v2 = some r) K ⟨_, rfl, h⟩ ?_
    rintro n3 S ⟨v2, rfl, h⟩
    cases n3 with
    | zero => simp [l_laws_eqNodeS_3] at h
    | succ n3 =>
      rw [l_laws_eqNodeS_3] at h
      refine W_seq ?_
      refine W_seq ?_
      refine W_regV he rfl ?_
      refine v0 (sM rfl [] rfl) rfl ?_
      refine v0 (sM rfl [] rfl) rfl ?_
      refine v0 (sLm rfl rfl rfl rfl) rfl ?_
      refine vB (sBi rfl rfl rfl rfl) rfl rfl fun b4 hb4 => ?_
      cases b4 with
      | true =>
        replace h := brT hb4 h
        refine ve ?_
        refine W2 [0, 1, 5, 14] [] [] (l := [(0, .c (.row _ _ _)), (1, .c (.row _ _ _)), (5, .c (.int _ _)), (14, .c (.bool true))]) (h := []) (h' := []) trivial rfl rfl rfl ?_
        refine W_true rfl ?_
        refine W_skip ?_
        refine W_seq ?_
        refine W_block ?_
        refine W_seq ?_
        refine W_regD he rfl rfl rfl ?_
        refine g0 (sM rfl [] rfl) rfl ?_
        refine g0 (sM rfl [] rfl) rfl ?_
        obtain ⟨c5, h⟩ := chk h
        refine g0 (sIRm rfl rfl rfl rfl c5) rfl ?_
        refine g0 (sLI rfl rfl (en_impl_Node (gt a0 v2)) (gt_at _ c5) rfl rfl rfl) rfl ?_
        refine g0 (sM rfl [] rfl) rfl ?_
        refine g0 (sM rfl [] rfl) rfl ?_
        obtain ⟨c6, h⟩ := chk h
        refine g0 (sIRm rfl rfl rfl rfl c6) rfl ?_
        refine g0 (sLI rfl rfl (en_impl_Node (gt a1 v2)) (gt_at _ c6) rfl rfl rfl) rfl ?_
        obtain ⟨r7, hr7, h⟩ := bnd2 h
        refine gB (sCm (w_laws_eqNode K (gt a0 v2) (gt a1 v2) _ hr7) ok_laws_eqNode rfl rfl rfl rfl) rfl rfl fun b8 hb8 => ?_
        cases b8 with
        | true =>
          replace h := brT hb8 h
          refine g0 (sNt rfl rfl) rfl ?_
          refine ge ⟨rfl, ?_⟩
          refine W2 [0, 1, 5, 26] [] [] (l := [(0, .c (.row _ _ _)), (1, .c (.row _ _ _)), (5, .c (.int _ _)), (26, .c (.bool false))]) (h := []) (h' := []) trivial rfl rfl rfl ?_
          refine W_false rfl ?_
          refine W_skip ?_
          refine W_regV he rfl ?_
          refine v0 (sM rfl [] rfl) rfl ?_
          refine v0 (sBi rfl rfl rfl rfl) rfl ?_
          refine v0 (sA rfl [] rfl) rfl ?_
          refine ve ?_
          exact ⟨n3, _, Nat.lt_succ_self n3, wk2 [0, 1, 5] [] [] (l := [(0, .c (.row _ _ _)), (1, .c (.row _ _ _)), (5, .c (.int _ _))]) (h := []) (h' := []) trivial rfl rfl rfl, _, rfl, h⟩
        | false =>
          replace h := brF hb8 h
          refine g0 (sNt rfl rfl) rfl ?_
          refine ge ⟨rfl, ?_⟩
          refine W2 [0, 1, 5, 26] [] [] (l := [(0, .c (.row _ _ _)), (1, .c (.row _ _ _)), (5, .c (.int _ _)), (26, .c (.bool true))]) (h := []) (h' := []) trivial rfl rfl rfl ?_
          refine W_true rfl ?_
          refine W_seq ?_
          refine W_regV he rfl ?_
          refine v0 (sA rfl [] rfl) rfl ?_
          refine ve ?_
          refine W2 [4] [] [] (l := [(4, .c (.bool false))]) (h := []) (h' := []) trivial rfl rfl rfl ?_
          obtain rfl := Option.some.inj h
          exact W_ret (r0 rfl rfl)
      | false =>
        replace h := brF hb4 h
        refine ve ?_
        refine W2 [0, 1, 5, 14] [] [] (l := [(0, .c (.row _ _ _)), (1, .c (.row _ _ _)), (5, .c (.int _ _)), (14, .c (.bool false))]) (h := []) (h' := []) trivial rfl rfl rfl ?_
        refine W_false rfl ?_
        refine W_exit (ex_then (ex_then (ex_hit ?_)))
        refine W_seq ?_
        refine W_regV he rfl ?_
        refine v0 (sA rfl [] rfl) rfl ?_
        refine ve ?_
        refine W2 [4] [] [] (l := [(4, .c (.bool true))]) (h := []) (h' := []) trivial rfl rfl rfl ?_
        obtain rfl := Option.some.inj h
        exact W_ret (r0 rfl rfl)
theorem ok_laws_eqNodeS : FnOk Try.prog 57 := ⟨_, Try.func57, rfl, rfl⟩


/-! ### loop.example/g00499/laws.eqWaste -/
def m_laws_eqWaste (K : Nat) (a0 : T_impl_Waste) (a1 : T_impl_Waste) : Option (Bool) := (bif (a0.fSlot != a1.fSlot) then some false else (bif (a0.fFirst != a1.fFirst) then some false else ((m_laws_eqIntS K a0.fTags a1.fTags).bind fun r3 => (bif r3 then ((m_laws_eqIntS K a0.fChunks a1.fChunks).bind fun r5 => (bif r5 then (bif (a0.fDone != a1.fDone) then some false else some true) else some false)) else some false))))
set_option maxRecDepth 20000 in
set_option maxHeartbeats 8000000 in
theorem w_laws_eqWaste (K : Nat) (a0 : T_impl_Waste) (a1 : T_impl_Waste) (r : Bool) (h : m_laws_eqWaste K a0 a1 = some r) : Sp Try.prog 90 [.g [.int .i64 a0.fSlot, .int .i64 a0.fFirst, .row false 1 (a0.fTags.map en_i64), .row false 1 (a0.fChunks.map en_i64), .int .i64 a0.fDone], .g [.int .i64 a1.fSlot, .int .i64 a1.fFirst, .row false 1 (a1.fTags.map en_i64), .row false 1 (a1.fChunks.map en_i64), .int .i64 a1.fDone]] [] (.c (.bool r)) [] := by
  refine Sp.of_W tabOk Try.func90 rfl rfl (Nat.le_of_ble_eq_true rfl) (Nat.le_of_ble_eq_true rfl) fun F hP hN hm => ?_
  obtain ⟨P, N, w0, σ0, β0, m⟩ := F
  obtain rfl : P = Try.prog := hP
  obtain rfl : N = 32 := hN
  obtain rfl : m = 1 := hm
  have he : Env ⟨Try.prog, 32, w0, σ0, β0, 1⟩ tab := ⟨Nat.le_of_ble_eq_true rfl, tabOk⟩
  unfold m_laws_eqWaste at h
  refine W_seq ?_
  refine W_regV he rfl ?_
  refine v0 (sBx rfl [] rfl rfl 101 rfl) rfl ?_
  refine v0 (sBx rfl [] rfl rfl 102 rfl) rfl ?_
  refine v0 (sA rfl [] rfl) rfl ?_
  refine ve ?_
  refine W2 [2, 3] [101, 102] [] (l := [(2, .c (.ptr _ _ _ _)), (3, .c (.ptr _ _ _ _))]) (h := [(101, ⟨0, 5, [[.int _ _, .int _ _, .row _ _ _, .row _ _ _, .int _ _]]⟩), (102, ⟨0, 5, [[.int _ _, .int _ _, .row _ _ _, .row _ _ _, .int _ _]]⟩)]) (h' := []) trivial rfl rfl rfl ?_
  refine W_seq ?_
  refine W_seq ?_
  refine W_regV he rfl ?_
  refine v0 (sFP rfl rfl rfl) rfl ?_
  refine v0 (sLd rfl rfl) rfl ?_
  refine v0 (sFP rfl rfl rfl) rfl ?_
  refine v0 (sLd rfl rfl) rfl ?_
  refine vB (sBi rfl rfl rfl rfl) rfl rfl fun b1 hb1 => ?_
  cases b1 with
  | true =>
    replace h := brT hb1 h
    refine ve ?_
    refine W2 [2, 3, 9] [101, 102] [] (l := [(2, .c (.ptr _ _ _ _)), (3, .c (.ptr _ _ _ _)), (9, .c (.bool true))]) (h := [(101, ⟨0, 5, [[.int _ _, .int _ _, .row _ _ _, .row _ _ _, .int _ _]]⟩), (102, ⟨0, 5, [[.int _ _, .int _ _, .row _ _ _, .row _ _ _, .int _ _]]⟩)]) (h' := []) trivial rfl rfl rfl ?_
    refine W_true rfl ?_
    refine W_seq ?_
    refine W_regV he rfl ?_
    refine v0 (sA rfl [] rfl) rfl ?_
    refine ve ?_
    refine W2 [4] [] [] (l := [(4, .c (.bool false))]) (h := []) (h' := []) trivial rfl rfl rfl ?_
    obtain rfl := Option.some.inj h
    exact W_ret (r0 rfl rfl)
  | false =>
    replace h := brF hb1 h
    refine ve ?_
    refine W2 [2, 3, 9] [101, 102] [] (l := [(2, .c (.ptr _ _ _ _)), (3, .c (.ptr _ _ _ _)), (9, .c (.bool false))]) (h := [(101, ⟨0, 5, [[.int _ _, .int _ _, .row _ _ _, .row _ _ _, .int _ _]]⟩), (102, ⟨0, 5, [[.int _ _, .int _ _, .row _ _ _, .row _ _ _, .int _ _]]⟩)]) (h' := []) trivial rfl rfl rfl ?_
    refine W_false rfl ?_
    refine W_skip ?_
    refine W_seq ?_
    refine W_seq ?_
    refine W_regV he rfl ?_
    refine v0 (sFP rfl rfl rfl) rfl ?_
    refine v0 (sLd rfl rfl) rfl ?_
    refine v0 (sFP rfl rfl rfl) rfl ?_
    refine v0 (sLd rfl rfl) rfl ?_
    refine vB (sBi rfl rfl rfl rfl) rfl rfl fun b2 hb2 => ?_
    cases b2 with
    | true =>
      replace h := brT hb2 h
      refine ve ?_
      refine W2 [2, 3, 14] [101, 102] [] (l := [(2, .c (.ptr _ _ _ _)), (3, .c (.ptr _ _ _ _)), (14, .c (.bool true))]) (h := [(101, ⟨0, 5, [[.int _ _, .int _ _, .row _ _ _, .row _ _ _, .int _ _]]⟩), (102, ⟨0, 5, [[.int _ _, .int _ _, .row _ _ _, .row _ _ _, .int _ _]]⟩)]) (h' := []) trivial rfl rfl rfl ?_
      refine W_true rfl ?_
      refine W_seq ?_
      refine W_regV he rfl ?_
      refine v0 (sA rfl [] rfl) rfl ?_
      refine ve ?_
      refine W2 [4] [] [] (l := [(4, .c (.bool false))]) (h := []) (h' := []) trivial rfl rfl rfl ?_
      obtain rfl := Option.some.inj h
      exact W_ret (r0 rfl rfl)
    | false =>
      replace h := brF hb2 h
      refine ve ?_
      refine W2 [2, 3, 14] [101, 102] [] (l := [(2, .c (.ptr _ _ _ _)), (3, .c (.ptr _ _ _ _)), (14, .c (.bool false))]) (h := [(101, ⟨0, 5, [[.int _ _, .int _ _, .row _ _ _, .row _ _ _, .int _ _]]⟩), (102, ⟨0, 5, [[.int _ _, .int _ _, .row _ _ _, .row _ _ _, .int _ _]]⟩)]) (h' := []) trivial rfl rfl rfl ?_
      refine W_false rfl ?_
      refine W_skip ?_
      refine W_seq ?_
      refine W_seq ?_
      refine W_regV he rfl ?_
      refine v0 (sFP rfl rfl rfl) rfl ?_
      refine v0 (sLd rfl rfl) rfl ?_
      refine v0 (sFP rfl rfl rfl) rfl ?_
      refine v0 (sLd rfl rfl) rfl ?_
      obtain ⟨r3, hr3, h⟩ := bnd2 h
      refine vB (sCm (w_laws_eqIntS K a0.fTags a1.fTags _ hr3) ok_laws_eqIntS rfl rfl rfl rfl) rfl rfl fun b4 hb4 => ?_
      cases b4 with
      | true =>
        replace h := brT hb4 h
        refine v0 (sNt rfl rfl) rfl ?_
        refine ve ?_
        refine W2 [2, 3, 20] [101, 102] [] (l := [(2, .c (.ptr _ _ _ _)), (3, .c (.ptr _ _ _ _)), (20, .c (.bool false))]) (h := [(101, ⟨0, 5, [[.int _ _, .int _ _, .row _ _ _, .row _ _ _, .int _ _]]⟩), (102, ⟨0, 5, [[.int _ _, .int _ _, .row _ _ _, .row _ _ _, .int _ _]]⟩)]) (h' := []) trivial rfl rfl rfl ?_
        refine W_false rfl ?_
        refine W_skip ?_
        refine W_seq ?_
        refine W_seq ?_
        refine W_regV he rfl ?_
        refine v0 (sFP rfl rfl rfl) rfl ?_
        refine v0 (sLd rfl rfl) rfl ?_
        refine v0 (sFP rfl rfl rfl) rfl ?_
        refine v0 (sLd rfl rfl) rfl ?_
        obtain ⟨r5, hr5, h⟩ := bnd2 h
        refine vB (sCm (w_laws_eqIntS K a0.fChunks a1.fChunks _ hr5) ok_laws_eqIntS rfl rfl rfl rfl) rfl rfl fun b6 hb6 => ?_
        cases b6 with
        | true =>
          replace h := brT hb6 h
          refine v0 (sNt rfl rfl) rfl ?_
          refine ve ?_
          refine W2 [2, 3, 26] [101, 102] [] (l := [(2, .c (.ptr _ _ _ _)), (3, .c (.ptr _ _ _ _)), (26, .c (.bool false))]) (h := [(101, ⟨0, 5, [[.int _ _, .int _ _, .row _ _ _, .row _ _ _, .int _ _]]⟩), (102, ⟨0, 5, [[.int _ _, .int _ _, .row _ _ _, .row _ _ _, .int _ _]]⟩)]) (h' := []) trivial rfl rfl rfl ?_
          refine W_false rfl ?_
          refine W_skip ?_
          refine W_seq ?_
          refine W_seq ?_
          refine W_regV he rfl ?_
          refine v0 (sFP rfl rfl rfl) rfl ?_
          refine v0 (sLd rfl rfl) rfl ?_
          refine v0 (sFP rfl rfl rfl) rfl ?_
          refine v0 (sLd rfl rfl) rfl ?_
          refine vB (sBi rfl rfl rfl rfl) rfl rfl fun b7 hb7 => ?_
          cases b7 with
          | true =>
            replace h := brT hb7 h
            refine ve ?_
            refine W2 [31] [] [] (l := [(31, .c (.bool true))]) (h := []) (h' := []) trivial rfl rfl rfl ?_
            refine W_true rfl ?_
            refine W_seq ?_
            refine W_regV he rfl ?_
            refine v0 (sA rfl [] rfl) rfl ?_
            refine ve ?_
            refine W2 [4] [] [] (l := [(4, .c (.bool false))]) (h := []) (h' := []) trivial rfl rfl rfl ?_
            obtain rfl := Option.some.inj h
            exact W_ret (r0 rfl rfl)
          | false =>
            replace h := brF hb7 h
            refine ve ?_
            refine W2 [31] [] [] (l := [(31, .c (.bool false))]) (h := []) (h' := []) trivial rfl rfl rfl ?_
            refine W_false rfl ?_
            refine W_skip ?_
            refine W_seq ?_
            refine W_regV he rfl ?_
            refine v0 (sA rfl [] rfl) rfl ?_
            refine ve ?_
            refine W2 [4] [] [] (l := [(4, .c (.bool true))]) (h := []) (h' := []) trivial rfl rfl rfl ?_
            obtain rfl := Option.some.inj h
            exact W_ret (r0 rfl rfl)
        | false =>
          replace h := brF hb6 h
          refine v0 (sNt rfl rfl) rfl ?_
          refine ve ?_
          refine W2 [2, 3, 26] [101, 102] [] (l := [(2, .c (.ptr _ _ _ _)), (3, .c (.ptr _ _ _ _)), (26, .c (.bool true))]) (h := [(101, ⟨0, 5, [[.int _ _, .int _ _, .row _ _ _, .row _ _ _, .int _ _]]⟩), (102, ⟨0, 5, [[.int _ _, .int _ _, .row _ _ _, .row _ _ _, .int _ _]]⟩)]) (h' := []) trivial rfl rfl rfl ?_
          refine W_true rfl ?_
          refine W_seq ?_
          refine W_regV he rfl ?_
          refine v0 (sA rfl [] rfl) rfl ?_
          refine ve ?_
          refine W2 [4] [] [] (l := [(4, .c (.bool false))]) (h := []) (h' := []) trivial rfl rfl rfl ?_
          obtain rfl := Option.some.inj h
          exact W_ret (r0 rfl rfl)
      | false =>
        replace h := brF hb4 h
        refine v0 (sNt rfl rfl) rfl ?_
        refine ve ?_
        refine W2 [2, 3, 20] [101, 102] [] (l := [(2, .c (.ptr _ _ _ _)), (3, .c (.ptr _ _ _ _)), (20, .c (.bool true))]) (h := [(101, ⟨0, 5, [[.int _ _, .int _ _, .row _ _ _, .row _ _ _, .int _ _]]⟩), (102, ⟨0, 5, [[.int _ _, .int _ _, .row _ _ _, .row _ _ _, .int _ _]]⟩)]) (h' := []) trivial rfl rfl rfl ?_
        refine W_true rfl ?_
        refine W_seq ?_
        refine W_regV he rfl ?_
        refine v0 (sA rfl [] rfl) rfl ?_
        refine ve ?_
        refine W2 [4] [] [] (l := [(4, .c (.bool false))]) (h := []) (h' := []) trivial rfl rfl rfl ?_
        obtain rfl := Option.some.inj h
        exact W_ret (r0 rfl rfl)
theorem ok_laws_eqWaste : FnOk Try.prog 90 := ⟨_, Try.func90, rfl, rfl⟩


/-! ### loop.example/g00499/laws.eqWasteS -/
def l_laws_eqWasteS_3 (K : Nat) (a0 : List T_impl_Waste) (a1 : List T_impl_Waste) : Nat → Int → Option (Bool)
  | 0, _ => none
  | n3 + 1, v2 => (bif (decide (v2 < (a0.length : Int))) then (if (0 : Int) ≤ v2 ∧ v2 < (a0.length : Int) then (if (0 : Int) ≤ v2 ∧ v2 < (a1.length : Int) then ((m_laws_eqWaste K (gt a0 v2) (gt a1 v2)).bind fun r7 => (bif r7 then (l_laws_eqWasteS_3 K a0 a1 n3 (iAdd .i64 v2 1)) else some false)) else none) else none) else some true)
def m_laws_eqWasteS (K : Nat) (a0 : List T_impl_Waste) (a1 : List T_impl_Waste) : Option (Bool) := (bif ((a0.length : Int) != (a1.length : Int)) then some false else (l_laws_eqWasteS_3 K a0 a1 K 0))
set_option maxRecDepth 20000 in
set_option maxHeartbeats 8000000 in
theorem w_laws_eqWasteS (K : Nat) (a0 : List T_impl_Waste) (a1 : List T_impl_Waste) (r : Bool) (h : m_laws_eqWasteS K a0 a1 = some r) : Sp Try.prog 58 [.c (.row false 5 (a0.map en_impl_Waste)), .c (.row false 5 (a1.map en_impl_Waste))] [] (.c (.bool r)) [] := by
  refine Sp.of_W tabOk Try.func58 rfl rfl (Nat.le_of_ble_eq_true rfl) (Nat.le_of_ble_eq_true rfl) fun F hP hN hm => ?_
  obtain ⟨P, N, w0, σ0, β0, m⟩ := F
  obtain rfl : P = Try.prog := hP
  obtain rfl : N = 27 := hN
  obtain rfl : m = 1 := hm
  have he : Env ⟨Try.prog, 27, w0, σ0, β0, 1⟩ tab := ⟨Nat.le_of_ble_eq_true rfl, tabOk⟩
  unfold m_laws_eqWasteS at h
  refine W_seq ?_
  refine W_regV he rfl ?_
  refine v0 (sA rfl [] rfl) rfl ?_
  refine ve ?_
  refine W2 [0, 1] [] [] (l := [(0, .c (.row _ _ _)), (1, .c (.row _ _ _))]) (h := []) (h' := []) trivial rfl rfl rfl ?_
  refine W_seq ?_
  refine W_seq ?_
  refine W_regV he rfl ?_
  refine v0 (sM rfl [] rfl) rfl ?_
  refine v0 (sLm rfl rfl rfl rfl) rfl ?_
  refine v0 (sM rfl [] rfl) rfl ?_
  refine v0 (sLm rfl rfl rfl rfl) rfl ?_
  refine vB (sBi rfl rfl rfl rfl) rfl rfl fun b1 hb1 => ?_
  cases b1 with
  | true =>
    replace h := brT hb1 h
    refine ve ?_
    refine W2 [0, 1, 10] [] [] (l := [(0, .c (.row _ _ _)), (1, .c (.row _ _ _)), (10, .c (.bool true))]) (h := []) (h' := []) trivial rfl rfl rfl ?_
    refine W_true rfl ?_
    refine W_seq ?_
    refine W_regV he rfl ?_
    refine v0 (sA rfl [] rfl) rfl ?_
    refine ve ?_
    refine W2 [4] [] [] (l := [(4, .c (.bool false))]) (h := []) (h' := []) trivial rfl rfl rfl ?_
    obtain rfl := Option.some.inj h
    exact W_ret (r0 rfl rfl)
  | false =>
    replace h := brF hb1 h
    refine ve ?_
    refine W2 [0, 1, 10] [] [] (l := [(0, .c (.row _ _ _)), (1, .c (.row _ _ _)), (10, .c (.bool false))]) (h := []) (h' := []) trivial rfl rfl rfl ?_
    refine W_false rfl ?_
    refine W_skip ?_
    refine W_seq ?_
    refine W_seq ?_
    refine W_regV he rfl ?_
    refine v0 (sA rfl [] rfl) rfl ?_
    refine ve ?_
    refine W2 [0, 1, 5] [] [] (l := [(0, .c (.row _ _ _)), (1, .c (.row _ _ _)), (5, .c (.int _ _))]) (h := []) (h' := []) trivial rfl rfl rfl ?_
    refine W_block ?_
    refine W2 [0, 1, 5] [] [] (l := [(0, .c (.row _ _ _)), (1, .c (.row _ _ _)), (5, .c (.int _ _))]) (h := []) (h' := []) trivial rfl rfl rfl ?_
    refine W_loopW (fun n3 S => ∃ (v2 : Int), S = StL [(0, .c (.row false 5 (a0.map en_impl_Waste))), (1, .c (.row false 5 (a1.map en_impl_Waste))), (5, .c (.int .i64 v2))] ([] ++ []) ∧ l_laws_eqWasteS_3 K a0 a1 n3 v2 = some r) K ⟨_, rfl, h⟩ ?_
    rintro n3 S ⟨v2, rfl, h⟩
    cases n3 with
    | zero => simp [l_laws_eqWasteS_3] at h
    | succ n3 =>
      rw [l_laws_eqWasteS_3] at h
      refine W_seq ?_
      refine W_seq ?_
      refine W_regV he rfl ?_
      refine v0 (sM rfl [] rfl) rfl ?_
      refine v0 (sM rfl [] rfl) rfl ?_
      refine v0 (sLm rfl rfl rfl rfl) rfl ?_
      refine vB (sBi rfl rfl rfl rfl) rfl rfl fun b4 hb4 => ?_
      cases b4 with
      | true =>
        replace h := brT hb4 h
        refine ve ?_
        refine W2 [0, 1, 5, 14] [] [] (l := [(0, .c (.row _ _ _)), (1, .c (.row _ _ _)), (5, .c (.int _ _)), (14, .c (.bool true))]) (h := []) (h' := []) trivial rfl rfl rfl ?_
        refine W_true rfl ?_
        refine W_skip ?_
        refine W_seq ?_
        refine W_block ?_
        refine W_seq ?_
        refine W_regD he rfl rfl rfl ?_
        refine g0 (sM rfl [] rfl) rfl ?_
        refine g0 (sM rfl [] rfl) rfl ?_
        obtain ⟨c5, h⟩ := chk h
        refine g0 (sIRm rfl rfl rfl rfl c5) rfl ?_
        refine g0 (sLI rfl rfl (en_impl_Waste (gt a0 v2)) (gt_at _ c5) rfl rfl rfl) rfl ?_
        refine g0 (sM rfl [] rfl) rfl ?_
        refine g0 (sM rfl [] rfl) rfl ?_
        obtain ⟨c6, h⟩ := chk h
        refine g0 (sIRm rfl rfl rfl rfl c6) rfl ?_
        refine g0 (sLI rfl rfl (en_impl_Waste (gt a1 v2)) (gt_at _ c6) rfl rfl rfl) rfl ?_
        obtain ⟨r7, hr7, h⟩ := bnd2 h
        refine gB (sCm (w_laws_eqWaste K (gt a0 v2) (gt a1 v2) _ hr7) ok_laws_eqWaste rfl rfl rfl rfl) rfl rfl fun b8 hb8 => ?_
        cases b8 with
        | true =>
          replace h := brT hb8 h
          refine g0 (sNt rfl rfl) rfl ?_
          refine ge ⟨rfl, ?_⟩
          refine W2 [0, 1, 5, 26] [] [] (l := [(0, .c (.row _ _ _)), (1, .c (.row _ _ _)), (5, .c (.int _ _)), (26, .c (.bool false))]) (h := []) (h' := []) trivial rfl rfl rfl ?_
          refine W_false rfl ?_
          refine W_skip ?_
          refine W_regV he rfl ?_
          refine v0 (sM rfl [] rfl) rfl ?_
          refine v0 (sBi rfl rfl rfl rfl) rfl ?_
          refine v0 (sA rfl [] rfl) rfl ?_
          refine ve ?_
          exact ⟨n3, _, Nat.lt_succ_self n3, wk2 [0, 1, 5] [] [] (l := [(0, .c (.row _ _ _)), (1, .c (.row _ _ _)), (5, .c (.int _ _))]) (h := []) (h' := []) trivial rfl rfl rfl, _, rfl, h⟩
        | false =>
          replace h := brF hb8 h
          refine g0 (sNt rfl rfl) rfl ?_
          refine ge ⟨rfl, ?_⟩
          refine W2 [0, 1, 5, 26] [] [] (l := [(0, .c (.row _ _ _)), (1, .c (.row _ _ _)), (5, .c (.int _ _)), (26, .c (.bool true))]) (h := []) (h' := []) trivial rfl rfl rfl ?_
          refine W_true rfl ?_
          refine W_seq ?_
          refine W_regV he rfl ?_
          refine v0 (sA rfl [] rfl) rfl ?_
          refine ve ?_
          refine W2 [4] [] [] (l := [(4, .c (.bool false))]) (h := []) (h' := []) trivial rfl rfl rfl ?_
          obtain rfl := Option.some.inj h
          exact W_ret (r0 rfl rfl)
      | false =>
        replace h := brF hb4 h
        refine ve ?_
        refine W2 [0, 1, 5, 14] [] [] (l := [(0, .c (.row _ _ _)), (1, .c (.row _ _ _)), (5, .c (.int _ _)), (14, .c (.bool false))]) (h := []) (h' := []) trivial rfl rfl rfl ?_
        refine W_false rfl ?_
        refine W_exit (ex_then (ex_then (ex_hit ?_)))
        refine W_seq ?_
        refine W_regV he rfl ?_
        refine v0 (sA rfl [] rfl) rfl ?_
        refine ve ?_
        refine W2 [4] [] [] (l := [(4, .c (.bool true))]) (h := []) (h' := []) trivial rfl rfl rfl ?_
        obtain rfl := Option.some.inj h
        exact W_ret (r0 rfl rfl)
theorem ok_laws_eqWasteS : FnOk Try.prog 58 := ⟨_, Try.func58, rfl, rfl⟩


/-! ### loop.example/g00499/laws.eqWorld -/
def m_laws_eqWorld (K : Nat) (a0 : T_impl_World) (a1 : T_impl_World) : Option (Bool) := ((m_laws_eqConf K a0.fC a1.fC).bind fun r1 => (bif r1 then ((m_laws_eqPool K a0.fP a1.fP).bind fun r3 => (bif r3 then ((m_laws_eqNodeS K a0.fL a1.fL).bind fun r5 => (bif r5 then ((m_laws_eqWasteS K a0.fQ a1.fQ).bind fun r7 => (bif r7 then ((m_laws_eqIntS K a0.fLog a1.fLog).bind fun r9 => (bif r9 then some true else some false)) else some false)) else some false)) else some false)) else some false))
set_option maxRecDepth 20000 in
set_option maxHeartbeats 8000000 in
theorem w_laws_eqWorld (K : Nat) (a0 : T_impl_World) (a1 : T_impl_World) (r : Bool) (h : m_laws_eqWorld K a0 a1 = some r) : Sp Try.prog 15 [.g [.int .i64 a0.fC.fChunks, .int .i64 a0.fC.fSize, .int .i64 a0.fC.fSlots, .int .i64 a0.fC.fTax, .int .i64 a0.fC.fSlice, .int .i64 a0.fC.fGens, .row false 1 (a0.fP.fMem.map en_u8), .row false 1 (a0.fP.fSt.map en_i64), .row false 1 (a0.fP.fOwn.map en_i64), .row false 13 (a0.fL.map en_impl_Node), .row false 5 (a0.fQ.map en_impl_Waste), .row false 1 (a0.fLog.map en_i64)], .g [.int .i64 a1.fC.fChunks, .int .i64 a1.fC.fSize, .int .i64 a1.fC.fSlots, .int .i64 a1.fC.fTax, .int .i64 a1.fC.fSlice, .int .i64 a1.fC.fGens, .row false 1 (a1.fP.fMem.map en_u8), .row false 1 (a1.fP.fSt.map en_i64), .row false 1 (a1.fP.fOwn.map en_i64), .row false 13 (a1.fL.map en_impl_Node), .row false 5 (a1.fQ.map en_impl_Waste), .row false 1 (a1.fLog.map en_i64)]] [] (.c (.bool r)) [] := by
  refine Sp.of_W tabOk Try.func15 rfl rfl (Nat.le_of_ble_eq_true rfl) (Nat.le_of_ble_eq_true rfl) fun F hP hN hm => ?_
  obtain ⟨P, N, w0, σ0, β0, m⟩ := F
  obtain rfl : P = Try.prog := hP
  obtain rfl : N = 35 := hN
  obtain rfl : m = 1 := hm
  have he : Env ⟨Try.prog, 35, w0, σ0, β0, 1⟩ tab := ⟨Nat.le_of_ble_eq_true rfl, tabOk⟩
  unfold m_laws_eqWorld at h
  refine W_seq ?_
  refine W_regV he rfl ?_
  refine v0 (sBx rfl [] rfl rfl 101 rfl) rfl ?_
  refine v0 (sBx rfl [] rfl rfl 102 rfl) rfl ?_
  refine v0 (sA rfl [] rfl) rfl ?_
  refine ve ?_
  refine W2 [2, 3] [101, 102] [] (l := [(2, .c (.ptr _ _ _ _)), (3, .c (.ptr _ _ _ _))]) (h := [(101, ⟨0, 12, [[.int _ _, .int _ _, .int _ _, .int _ _, .int _ _, .int _ _, .row _ _ _, .row _ _ _, .row _ _ _, .row _ _ _, .row _ _ _, .row _ _ _]]⟩), (102, ⟨0, 12, [[.int _ _, .int _ _, .int _ _, .int _ _, .int _ _, .int _ _, .row _ _ _, .row _ _ _, .row _ _ _, .row _ _ _, .row _ _ _, .row _ _ _]]⟩)]) (h' := []) trivial rfl rfl rfl ?_
  refine W_seq ?_
  refine W_seq ?_
  refine W_regV he rfl ?_
  refine v0 (sFP rfl rfl rfl) rfl ?_
  refine v0 (sLd rfl rfl) rfl ?_
  refine v0 (sFP rfl rfl rfl) rfl ?_
  refine v0 (sLd rfl rfl) rfl ?_
  obtain ⟨r1, hr1, h⟩ := bnd2 h
  refine vB (sCm (w_laws_eqConf K a0.fC a1.fC _ hr1) ok_laws_eqConf rfl rfl rfl rfl) rfl rfl fun b2 hb2 => ?_
  cases b2 with
  | true =>
    replace h := brT hb2 h
    refine v0 (sNt rfl rfl) rfl ?_
    refine ve ?_
    refine W2 [2, 3, 10] [101, 102] [] (l := [(2, .c (.ptr _ _ _ _)), (3, .c (.ptr _ _ _ _)), (10, .c (.bool false))]) (h := [(101, ⟨0, 12, [[.int _ _, .int _ _, .int _ _, .int _ _, .int _ _, .int _ _, .row _ _ _, .row _ _ _, .row _ _ _, .row _ _ _, .row _ _ _, .row _ _ _]]⟩), (102, ⟨0, 12, [[.int _ _, .int _ _, .int _ _, .int _ _, .int _ _, .int _ _, .row _ _ _, .row _ _ _, .row _ _ _, .row _ _ _, .row _ _ _, .row _ _ _]]⟩)]) (h' := []) trivial rfl rfl rfl ?_
    refine W_false rfl ?_
    refine W_skip ?_
    refine W_seq ?_
    refine W_seq ?_
    refine W_regV he rfl ?_
    refine v0 (sFP rfl rfl rfl) rfl ?_
    refine v0 (sLd rfl rfl) rfl ?_
    refine v0 (sFP rfl rfl rfl) rfl ?_
    refine v0 (sLd rfl rfl) rfl ?_
    obtain ⟨r3, hr3, h⟩ := bnd2 h
    refine vB (sCm (w_laws_eqPool K a0.fP a1.fP _ hr3) ok_laws_eqPool rfl rfl rfl rfl) rfl rfl fun b4 hb4 => ?_
    cases b4 with
    | true =>
      replace h := brT hb4 h
      refine v0 (sNt rfl rfl) rfl ?_
      refine ve ?_
      refine W2 [2, 3, 16] [101, 102] [] (l := [(2, .c (.ptr _ _ _ _)), (3, .c (.ptr _ _ _ _)), (16, .c (.bool false))]) (h := [(101, ⟨0, 12, [[.int _ _, .int _ _, .int _ _, .int _ _, .int _ _, .int _ _, .row _ _ _, .row _ _ _, .row _ _ _, .row _ _ _, .row _ _ _, .row _ _ _]]⟩), (102, ⟨0, 12, [[.int _ _, .int _ _, .int _ _, .int _ _, .int _ _, .int _ _, .row _ _ _, .row _ _ _, .row _ _ _, .row _ _ _, .row _ _ _, .row _ _ _]]⟩)]) (h' := []) trivial rfl rfl rfl ?_
      refine W_false rfl ?_
      refine W_skip ?_
      refine W_seq ?_
      refine W_seq ?_
      refine W_regV he rfl ?_
      refine v0 (sFP rfl rfl rfl) rfl ?_
      refine v0 (sLd rfl rfl) rfl ?_
      refine v0 (sFP rfl rfl rfl) rfl ?_
      refine v0 (sLd rfl rfl) rfl ?_
      obtain ⟨r5, hr5, h⟩ := bnd2 h
      refine vB (sCm (w_laws_eqNodeS K a0.fL a1.fL _ hr5) ok_laws_eqNodeS rfl rfl rfl rfl) rfl rfl fun b6 hb6 => ?_
      cases b6 with
      | true =>
        replace h := brT hb6 h
        refine v0 (sNt rfl rfl) rfl ?_
        refine ve ?_
        refine W2 [2, 3, 22] [101, 102] [] (l := [(2, .c (.ptr _ _ _ _)), (3, .c (.ptr _ _ _ _)), (22, .c (.bool false))]) (h := [(101, ⟨0, 12, [[.int _ _, .int _ _, .int _ _, .int _ _, .int _ _, .int _ _, .row _ _ _, .row _ _ _, .row _ _ _, .row _ _ _, .row _ _ _, .row _ _ _]]⟩), (102, ⟨0, 12, [[.int _ _, .int _ _, .int _ _, .int _ _, .int _ _, .int _ _, .row _ _ _, .row _ _ _, .row _ _ _, .row _ _ _, .row _ _ _, .row _ _ _]]⟩)]) (h' := []) trivial rfl rfl rfl ?_
        refine W_false rfl ?_
        refine W_skip ?_
        refine W_seq ?_
        refine W_seq ?_
        refine W_regV he rfl ?_
        refine v0 (sFP rfl rfl rfl) rfl ?_
        refine v0 (sLd rfl rfl) rfl ?_
        refine v0 (sFP rfl rfl rfl) rfl ?_
        refine v0 (sLd rfl rfl) rfl ?_
        obtain ⟨r7, hr7, h⟩ := bnd2 h
        refine vB (sCm (w_laws_eqWasteS K a0.fQ a1.fQ _ hr7) ok_laws_eqWasteS rfl rfl rfl rfl) rfl rfl fun b8 hb8 => ?_
        cases b8 with
        | true =>
          replace h := brT hb8 h
          refine v0 (sNt rfl rfl) rfl ?_
          refine ve ?_
          refine W2 [2, 3, 28] [101, 102] [] (l := [(2, .c (.ptr _ _ _ _)), (3, .c (.ptr _ _ _ _)), (28, .c (.bool false))]) (h := [(101, ⟨0, 12, [[.int _ _, .int _ _, .int _ _, .int _ _, .int _ _, .int _ _, .row _ _ _, .row _ _ _, .row _ _ _, .row _ _ _, .row _ _ _, .row _ _ _]]⟩), (102, ⟨0, 12, [[.int _ _, .int _ _, .int _ _, .int _ _, .int _ _, .int _ _, .row _ _ _, .row _ _ _, .row _ _ _, .row _ _ _, .row _ _ _, .row _ _ _]]⟩)]) (h' := []) trivial rfl rfl rfl ?_
          refine W_false rfl ?_
          refine W_skip ?_
          refine W_seq ?_
          refine W_seq ?_
          refine W_regV he rfl ?_
          refine v0 (sFP rfl rfl rfl) rfl ?_
          refine v0 (sLd rfl rfl) rfl ?_
          refine v0 (sFP rfl rfl rfl) rfl ?_
          refine v0 (sLd rfl rfl) rfl ?_
          obtain ⟨r9, hr9, h⟩ := bnd2 h
          refine vB (sCm (w_laws_eqIntS K a0.fLog a1.fLog _ hr9) ok_laws_eqIntS rfl rfl rfl rfl) rfl rfl fun b10 hb10 => ?_
          cases b10 with
          | true =>
            replace h := brT hb10 h
            refine v0 (sNt rfl rfl) rfl ?_
            refine ve ?_
            refine W2 [34] [] [] (l := [(34, .c (.bool false))]) (h := []) (h' := []) trivial rfl rfl rfl ?_
            refine W_false rfl ?_
            refine W_skip ?_
            refine W_seq ?_
            refine W_regV he rfl ?_
            refine v0 (sA rfl [] rfl) rfl ?_
            refine ve ?_
            refine W2 [4] [] [] (l := [(4, .c (.bool true))]) (h := []) (h' := []) trivial rfl rfl rfl ?_
            obtain rfl := Option.some.inj h
            exact W_ret (r0 rfl rfl)
          | false =>
            replace h := brF hb10 h
            refine v0 (sNt rfl rfl) rfl ?_
            refine ve ?_
            refine W2 [34] [] [] (l := [(34, .c (.bool true))]) (h := []) (h' := []) trivial rfl rfl rfl ?_
            refine W_true rfl ?_
            refine W_seq ?_
            refine W_regV he rfl ?_
            refine v0 (sA rfl [] rfl) rfl ?_
            refine ve ?_
            refine W2 [4] [] [] (l := [(4, .c (.bool false))]) (h := []) (h' := []) trivial rfl rfl rfl ?_
            obtain rfl := Option.some.inj h
            exact W_ret (r0 rfl rfl)
        | false =>
          replace h := brF hb8 h
          refine v0 (sNt rfl rfl) rfl ?_
          refine ve ?_
          refine W2 [2, 3, 28] [101, 102] [] (l := [(2, .c (.ptr _ _ _ _)), (3, .c (.ptr _ _ _ _)), (28, .c (.bool true))]) (h := [(101, ⟨0, 12, [[.int _ _, .int _ _, .int _ _, .int _ _, .int _ _, .int _ _, .row _ _ _, .row _ _ _, .row _ _ _, .row _ _ _, .row _ _ _, .row _ _ _]]⟩), (102, ⟨0, 12, [[.int _ _, .int _ _, .int _ _, .int _ _, .int _ _, .int _ _, .row _ _ _, .row _ _ _, .row _ _ _, .row _ _ _, .row _ _ _, .row _ _ _]]⟩)]) (h' := []) trivial rfl rfl rfl ?_
          refine W_true rfl ?_
          refine W_seq ?_
          refine W_regV he rfl ?_
          refine v0 (sA rfl [] rfl) rfl ?_
          refine ve ?_
          refine W2 [4] [] [] (l := [(4, .c (.bool false))]) (h := []) (h' := []) trivial rfl rfl rfl ?_
          obtain rfl := Option.some.inj h
          exact W_ret (r0 rfl rfl)
      | false =>
        replace h := brF hb6 h
        refine v0 (sNt rfl rfl) rfl ?_
        refine ve ?_
        refine W2 [2, 3, 22] [101, 102] [] (l := [(2, .c (.ptr _ _ _ _)), (3, .c (.ptr _ _ _ _)), (22, .c (.bool true))]) (h := [(101, ⟨0, 12, [[.int _ _, .int _ _, .int _ _, .int _ _, .int _ _, .int _ _, .row _ _ _, .row _ _ _, .row _ _ _, .row _ _ _, .row _ _ _, .row _ _ _]]⟩), (102, ⟨0, 12, [[.int _ _, .int _ _, .int _ _, .int _ _, .int _ _, .int _ _, .row _ _ _, .row _ _ _, .row _ _ _, .row _ _ _, .row _ _ _, .row _ _ _]]⟩)]) (h' := []) trivial rfl rfl rfl ?_
        refine W_true rfl ?_
        refine W_seq ?_
        refine W_regV he rfl ?_
        refine v0 (sA rfl [] rfl) rfl ?_
        refine ve ?_
        refine W2 [4] [] [] (l := [(4, .c (.bool false))]) (h := []) (h' := []) trivial rfl rfl rfl ?_
        obtain rfl := Option.some.inj h
        exact W_ret (r0 rfl rfl)
    | false =>
      replace h := brF hb4 h
      refine v0 (sNt rfl rfl) rfl ?_
      refine ve ?_
      refine W2 [2, 3, 16] [101, 102] [] (l := [(2, .c (.ptr _ _ _ _)), (3, .c (.ptr _ _ _ _)), (16, .c (.bool true))]) (h := [(101, ⟨0, 12, [[.int _ _, .int _ _, .int _ _, .int _ _, .int _ _, .int _ _, .row _ _ _, .row _ _ _, .row _ _ _, .row _ _ _, .row _ _ _, .row _ _ _]]⟩), (102, ⟨0, 12, [[.int _ _, .int _ _, .int _ _, .int _ _, .int _ _, .int _ _, .row _ _ _, .row _ _ _, .row _ _ _, .row _ _ _, .row _ _ _, .row _ _ _]]⟩)]) (h' := []) trivial rfl rfl rfl ?_
      refine W_true rfl ?_
      refine W_seq ?_
      refine W_regV he rfl ?_
      refine v0 (sA rfl [] rfl) rfl ?_
      refine ve ?_
      refine W2 [4] [] [] (l := [(4, .c (.bool false))]) (h := []) (h' := []) trivial rfl rfl rfl ?_
      obtain rfl := Option.some.inj h
      exact W_ret (r0 rfl rfl)
  | false =>
    replace h := brF hb2 h
    refine v0 (sNt rfl rfl) rfl ?_
    refine ve ?_
    refine W2 [2, 3, 10] [101, 102] [] (l := [(2, .c (.ptr _ _ _ _)), (3, .c (.ptr _ _ _ _)), (10, .c (.bool true))]) (h := [(101, ⟨0, 12, [[.int _ _, .int _ _, .int _ _, .int _ _, .int _ _, .int _ _, .row _ _ _, .row _ _ _, .row _ _ _, .row _ _ _, .row _ _ _, .row _ _ _]]⟩), (102, ⟨0, 12, [[.int _ _, .int _ _, .int _ _, .int _ _, .int _ _, .int _ _, .row _ _ _, .row _ _ _, .row _ _ _, .row _ _ _, .row _ _ _, .row _ _ _]]⟩)]) (h' := []) trivial rfl rfl rfl ?_
    refine W_true rfl ?_
    refine W_seq ?_
    refine W_regV he rfl ?_
    refine v0 (sA rfl [] rfl) rfl ?_
    refine ve ?_
    refine W2 [4] [] [] (l := [(4, .c (.bool false))]) (h := []) (h' := []) trivial rfl rfl rfl ?_
    obtain rfl := Option.some.inj h
    exact W_ret (r0 rfl rfl)
theorem ok_laws_eqWorld : FnOk Try.prog 15 := ⟨_, Try.func15, rfl, rfl⟩


/-! ### loop.example/g00499/laws.FnExactFreshOf -/
def m_laws_FnExactFreshOf (K : Nat) (a0 : T_laws_World) (a1 : T_laws_Ref) : Option (Bool) := ((m_laws_szWorld K a0 1048576).bind fun r1 => (bif (decide (r1 < 0)) then some true else ((m_laws_toWorld K a0).bind fun r3 => ((m_laws_toRef K a1).bind fun r4 => ((m_spec_FreshOf K r3 r4).bind fun r5 => ((m_laws_toWorld K a0).bind fun r6 => ((m_laws_toRef K a1).bind fun r7 => ((m_impl_FreshOf K r6 r7).bind fun r8 => (bif (!(r8 == r5)) then some false else ((m_laws_toWorld K a0).bind fun r10 => ((m_laws_eqWorld K r6 r10).bind fun r11 => (bif r11 then some true else some false))))))))))))
set_option maxRecDepth 20000 in
set_option maxHeartbeats 8000000 in
theorem w_laws_FnExactFreshOf (K : Nat) (a0 : T_laws_World) (a1 : T_laws_Ref) (r : Bool) (h : m_laws_FnExactFreshOf K a0 a1 = some r) : Sp Try.prog 9 [.g [.int .i64 a0.fC.fChunks, .int .i64 a0.fC.fSize, .int .i64 a0.fC.fSlots, .int .i64 a0.fC.fTax, .int .i64 a0.fC.fSlice, .int .i64 a0.fC.fGens, .row false 1 (a0.fP.fMem.map en_u8), .row false 1 (a0.fP.fSt.map en_i64), .row false 1 (a0.fP.fOwn.map en_i64), .row false 13 (a0.fL.map en_laws_Node), .row false 5 (a0.fQ.map en_laws_Waste), .row false 1 (a0.fLog.map en_i64)], .g [.int .i64 a1.fH.fSlot, .int .i64 a1.fH.fGen, .int .i64 a1.fEp, .int .i64 a1.fNo]] [] (.c (.bool r)) [] := by
  refine Sp.of_W tabOk Try.func9 rfl rfl (Nat.le_of_ble_eq_true rfl) (Nat.le_of_ble_eq_true rfl) fun F hP hN hm => ?_
  obtain ⟨P, N, w0, σ0, β0, m⟩ := F
  obtain rfl : P = Try.prog := hP
  obtain rfl : N = 33 := hN
  obtain rfl : m = 1 := hm
  have he : Env ⟨Try.prog, 33, w0, σ0, β0, 1⟩ tab := ⟨Nat.le_of_ble_eq_true rfl, tabOk⟩
  unfold m_laws_FnExactFreshOf at h
  refine W_seq ?_
  refine W_regV he rfl ?_
  refine v0 (sBx rfl [] rfl rfl 101 rfl) rfl ?_
  refine v0 (sBx rfl [] rfl rfl 102 rfl) rfl ?_
  refine v0 (sA rfl [] rfl) rfl ?_
  refine ve ?_
  refine W2 [2, 3] [101, 102] [] (l := [(2, .c (.ptr _ _ _ _)), (3, .c (.ptr _ _ _ _))]) (h := [(101, ⟨0, 12, [[.int _ _, .int _ _, .int _ _, .int _ _, .int _ _, .int _ _, .row _ _ _, .row _ _ _, .row _ _ _, .row _ _ _, .row _ _ _, .row _ _ _]]⟩), (102, ⟨0, 4, [[.int _ _, .int _ _, .int _ _, .int _ _]]⟩)]) (h' := []) trivial rfl rfl rfl ?_
  refine W_seq ?_
  refine W_regV he rfl ?_
  refine v0 (sA rfl [] rfl) rfl ?_
  refine ve ?_
  refine W2 [2, 3, 5] [101, 102] [] (l := [(2, .c (.ptr _ _ _ _)), (3, .c (.ptr _ _ _ _)), (5, .c (.int _ _))]) (h := [(101, ⟨0, 12, [[.int _ _, .int _ _, .int _ _, .int _ _, .int _ _, .int _ _, .row _ _ _, .row _ _ _, .row _ _ _, .row _ _ _, .row _ _ _, .row _ _ _]]⟩), (102, ⟨0, 4, [[.int _ _, .int _ _, .int _ _, .int _ _]]⟩)]) (h' := []) trivial rfl rfl rfl ?_
  refine W_seq ?_
  refine W_regV he rfl ?_
  refine v0 (sLd rfl rfl) rfl ?_
  refine v0 (sM rfl [] rfl) rfl ?_
  obtain ⟨r1, hr1, h⟩ := bnd2 h
  refine v0 (sCm (w_laws_szWorld K a0 1048576 _ hr1) ok_laws_szWorld rfl rfl rfl rfl) rfl ?_
  refine v0 (sA rfl [] rfl) rfl ?_
  refine ve ?_
  refine W2 [2, 3, 5] [101, 102] [] (l := [(2, .c (.ptr _ _ _ _)), (3, .c (.ptr _ _ _ _)), (5, .c (.int _ _))]) (h := [(101, ⟨0, 12, [[.int _ _, .int _ _, .int _ _, .int _ _, .int _ _, .int _ _, .row _ _ _, .row _ _ _, .row _ _ _, .row _ _ _, .row _ _ _, .row _ _ _]]⟩), (102, ⟨0, 4, [[.int _ _, .int _ _, .int _ _, .int _ _]]⟩)]) (h' := []) trivial rfl rfl rfl ?_
  refine W_seq ?_
  refine W_seq ?_
  refine W_regV he rfl ?_
  refine v0 (sM rfl [] rfl) rfl ?_
  refine vB (sBi rfl rfl rfl rfl) rfl rfl fun b2 hb2 => ?_
  cases b2 with
  | true =>
    replace h := brT hb2 h
    refine ve ?_
    refine W2 [2, 3, 13] [101, 102] [] (l := [(2, .c (.ptr _ _ _ _)), (3, .c (.ptr _ _ _ _)), (13, .c (.bool true))]) (h := [(101, ⟨0, 12, [[.int _ _, .int _ _, .int _ _, .int _ _, .int _ _, .int _ _, .row _ _ _, .row _ _ _, .row _ _ _, .row _ _ _, .row _ _ _, .row _ _ _]]⟩), (102, ⟨0, 4, [[.int _ _, .int _ _, .int _ _, .int _ _]]⟩)]) (h' := []) trivial rfl rfl rfl ?_
    refine W_true rfl ?_
    refine W_seq ?_
    refine W_regV he rfl ?_
    refine v0 (sA rfl [] rfl) rfl ?_
    refine ve ?_
    refine W2 [4] [] [] (l := [(4, .c (.bool true))]) (h := []) (h' := []) trivial rfl rfl rfl ?_
    obtain rfl := Option.some.inj h
    exact W_ret (r0 rfl rfl)
  | false =>
    replace h := brF hb2 h
    refine ve ?_
    refine W2 [2, 3, 13] [101, 102] [] (l := [(2, .c (.ptr _ _ _ _)), (3, .c (.ptr _ _ _ _)), (13, .c (.bool false))]) (h := [(101, ⟨0, 12, [[.int _ _, .int _ _, .int _ _, .int _ _, .int _ _, .int _ _, .row _ _ _, .row _ _ _, .row _ _ _, .row _ _ _, .row _ _ _, .row _ _ _]]⟩), (102, ⟨0, 4, [[.int _ _, .int _ _, .int _ _, .int _ _]]⟩)]) (h' := []) trivial rfl rfl rfl ?_
    refine W_false rfl ?_
    refine W_skip ?_
    refine W_seq ?_
    refine W_regD he rfl rfl rfl ?_
    refine g0 (sLd rfl rfl) rfl ?_
    obtain ⟨r3, hr3, h⟩ := bnd2 h
    refine g0 (sCm (w_laws_toWorld K a0 _ hr3) ok_laws_toWorld rfl rfl rfl rfl) rfl ?_
    refine g0 (sLd rfl rfl) rfl ?_
    obtain ⟨r4, hr4, h⟩ := bnd2 h
    refine g0 (sCm (w_laws_toRef K a1 _ hr4) ok_laws_toRef rfl rfl rfl rfl) rfl ?_
    obtain ⟨r5, hr5, h⟩ := bnd2 h
    refine g0 (sCm (w_spec_FreshOf K r3 r4 _ hr5) ok_spec_FreshOf rfl rfl rfl rfl) rfl ?_
    refine g0 (sA rfl [] rfl) rfl ?_
    refine ge ⟨rfl, ?_⟩
    refine W2 [2, 3, 6] [101, 102] [] (l := [(2, .c (.ptr _ _ _ _)), (3, .c (.ptr _ _ _ _)), (6, .c (.bool _))]) (h := [(101, ⟨0, 12, [[.int _ _, .int _ _, .int _ _, .int _ _, .int _ _, .int _ _, .row _ _ _, .row _ _ _, .row _ _ _, .row _ _ _, .row _ _ _, .row _ _ _]]⟩), (102, ⟨0, 4, [[.int _ _, .int _ _, .int _ _, .int _ _]]⟩)]) (h' := []) trivial rfl rfl rfl ?_
    refine W_seq ?_
    refine W_regV he rfl ?_
    refine v0 (sLd rfl rfl) rfl ?_
    obtain ⟨r6, hr6, h⟩ := bnd2 h
    refine v0 (sCm (w_laws_toWorld K a0 _ hr6) ok_laws_toWorld rfl rfl rfl rfl) rfl ?_
    refine v0 (sAl rfl rfl 103 rfl) rfl ?_
    refine v0 (sSt rfl rfl [] rfl rfl) rfl ?_
    refine ve ?_
    refine W2 [2, 3, 6, 7] [101, 102, 103] [] (l := [(2, .c (.ptr _ _ _ _)), (3, .c (.ptr _ _ _ _)), (6, .c (.bool _)), (7, .c (.ptr _ _ _ _))]) (h := [(101, ⟨0, 12, [[.int _ _, .int _ _, .int _ _, .int _ _, .int _ _, .int _ _, .row _ _ _, .row _ _ _, .row _ _ _, .row _ _ _, .row _ _ _, .row _ _ _]]⟩), (102, ⟨0, 4, [[.int _ _, .int _ _, .int _ _, .int _ _]]⟩), (103, ⟨0, 12, [[.int _ _, .int _ _, .int _ _, .int _ _, .int _ _, .int _ _, .row _ _ _, .row _ _ _, .row _ _ _, .row _ _ _, .row _ _ _, .row _ _ _]]⟩)]) (h' := []) trivial rfl rfl rfl ?_
    refine W_seq ?_
    refine W_regD he rfl rfl rfl ?_
    refine g0 (sLd rfl rfl) rfl ?_
    refine g0 (sLd rfl rfl) rfl ?_
    obtain ⟨r7, hr7, h⟩ := bnd2 h
    refine g0 (sCm (w_laws_toRef K a1 _ hr7) ok_laws_toRef rfl rfl rfl rfl) rfl ?_
    obtain ⟨r8, hr8, h⟩ := bnd2 h
    refine g0 (sCm (w_impl_FreshOf K r6 r7 _ hr8) ok_impl_FreshOf rfl rfl rfl rfl) rfl ?_
    refine g0 (sA rfl [] rfl) rfl ?_
    refine ge ⟨rfl, ?_⟩
    refine W2 [2, 6, 7, 8] [101, 103] [] (l := [(2, .c (.ptr _ _ _ _)), (6, .c (.bool _)), (7, .c (.ptr _ _ _ _)), (8, .c (.bool _))]) (h := [(101, ⟨0, 12, [[.int _ _, .int _ _, .int _ _, .int _ _, .int _ _, .int _ _, .row _ _ _, .row _ _ _, .row _ _ _, .row _ _ _, .row _ _ _, .row _ _ _]]⟩), (103, ⟨0, 12, [[.int _ _, .int _ _, .int _ _, .int _ _, .int _ _, .int _ _, .row _ _ _, .row _ _ _, .row _ _ _, .row _ _ _, .row _ _ _, .row _ _ _]]⟩)]) (h' := []) trivial rfl rfl rfl ?_
    refine W_seq ?_
    refine W_seq ?_
    refine W_regV he rfl ?_
    refine v0 (sM rfl [] rfl) rfl ?_
    refine v0 (sM rfl [] rfl) rfl ?_
    refine vB (sBe rfl (.inr rfl) rfl rfl rfl rfl) rfl rfl fun b9 hb9 => ?_
    cases b9 with
    | true =>
      replace h := brT hb9 h
      refine ve ?_
      refine W2 [2, 7, 27] [101, 103] [] (l := [(2, .c (.ptr _ _ _ _)), (7, .c (.ptr _ _ _ _)), (27, .c (.bool true))]) (h := [(101, ⟨0, 12, [[.int _ _, .int _ _, .int _ _, .int _ _, .int _ _, .int _ _, .row _ _ _, .row _ _ _, .row _ _ _, .row _ _ _, .row _ _ _, .row _ _ _]]⟩), (103, ⟨0, 12, [[.int _ _, .int _ _, .int _ _, .int _ _, .int _ _, .int _ _, .row _ _ _, .row _ _ _, .row _ _ _, .row _ _ _, .row _ _ _, .row _ _ _]]⟩)]) (h' := []) trivial rfl rfl rfl ?_
      refine W_true rfl ?_
      refine W_seq ?_
      refine W_regV he rfl ?_
      refine v0 (sA rfl [] rfl) rfl ?_
      refine ve ?_
      refine W2 [4] [] [] (l := [(4, .c (.bool false))]) (h := []) (h' := []) trivial rfl rfl rfl ?_
      obtain rfl := Option.some.inj h
      exact W_ret (r0 rfl rfl)
    | false =>
      replace h := brF hb9 h
      refine ve ?_
      refine W2 [2, 7, 27] [101, 103] [] (l := [(2, .c (.ptr _ _ _ _)), (7, .c (.ptr _ _ _ _)), (27, .c (.bool false))]) (h := [(101, ⟨0, 12, [[.int _ _, .int _ _, .int _ _, .int _ _, .int _ _, .int _ _, .row _ _ _, .row _ _ _, .row _ _ _, .row _ _ _, .row _ _ _, .row _ _ _]]⟩), (103, ⟨0, 12, [[.int _ _, .int _ _, .int _ _, .int _ _, .int _ _, .int _ _, .row _ _ _, .row _ _ _, .row _ _ _, .row _ _ _, .row _ _ _, .row _ _ _]]⟩)]) (h' := []) trivial rfl rfl rfl ?_
      refine W_false rfl ?_
      refine W_skip ?_
      refine W_seq ?_
      refine W_seq ?_
      refine W_regD he rfl rfl rfl ?_
      refine g0 (sLd rfl rfl) rfl ?_
      refine g0 (sLd rfl rfl) rfl ?_
      obtain ⟨r10, hr10, h⟩ := bnd2 h
      refine g0 (sCm (w_laws_toWorld K a0 _ hr10) ok_laws_toWorld rfl rfl rfl rfl) rfl ?_
      obtain ⟨r11, hr11, h⟩ := bnd2 h
      refine gB (sCm (w_laws_eqWorld K r6 r10 _ hr11) ok_laws_eqWorld rfl rfl rfl rfl) rfl rfl fun b12 hb12 => ?_
      cases b12 with
      | true =>
        replace h := brT hb12 h
        refine g0 (sNt rfl rfl) rfl ?_
        refine ge ⟨rfl, ?_⟩
        refine W2 [32] [] [] (l := [(32, .c (.bool false))]) (h := []) (h' := []) trivial rfl rfl rfl ?_
        refine W_false rfl ?_
        refine W_skip ?_
        refine W_seq ?_
        refine W_regV he rfl ?_
        refine v0 (sA rfl [] rfl) rfl ?_
        refine ve ?_
        refine W2 [4] [] [] (l := [(4, .c (.bool true))]) (h := []) (h' := []) trivial rfl rfl rfl ?_
        obtain rfl := Option.some.inj h
        exact W_ret (r0 rfl rfl)
      | false =>
        replace h := brF hb12 h
        refine g0 (sNt rfl rfl) rfl ?_
        refine ge ⟨rfl, ?_⟩
        refine W2 [32] [] [] (l := [(32, .c (.bool true))]) (h := []) (h' := []) trivial rfl rfl rfl ?_
        refine W_true rfl ?_
        refine W_seq ?_
        refine W_regV he rfl ?_
        refine v0 (sA rfl [] rfl) rfl ?_
        refine ve ?_
        refine W2 [4] [] [] (l := [(4, .c (.bool false))]) (h := []) (h' := []) trivial rfl rfl rfl ?_
        obtain rfl := Option.some.inj h
        exact W_ret (r0 rfl rfl)
theorem ok_laws_FnExactFreshOf : FnOk Try.prog 9 := ⟨_, Try.func9, rfl, rfl⟩


def Wf_i64 (x : Int) : Prop := (Lit.int .i64 x).wf = true
def Wf_laws_Conf (x : T_laws_Conf) : Prop := Wf_i64 x.fChunks ∧ Wf_i64 x.fSize ∧ Wf_i64 x.fSlots ∧ Wf_i64 x.fTax ∧ Wf_i64 x.fSlice ∧ Wf_i64 x.fGens
def Wf_u8 (x : Int) : Prop := (Lit.int .u8 x).wf = true
def Wf_Lu8 (x : List Int) : Prop := (∀ a ∈ x, Wf_u8 a) ∧ x.length * 1 ≤ reachBytes ∧ x.length ≤ maxLen
def Wf_Li64 (x : List Int) : Prop := (∀ a ∈ x, Wf_i64 a) ∧ x.length * 8 ≤ reachBytes ∧ x.length ≤ maxLen
def Wf_laws_Pool (x : T_laws_Pool) : Prop := Wf_Lu8 x.fMem ∧ Wf_Li64 x.fSt ∧ Wf_Li64 x.fOwn
def Wf_laws_Thing (x : T_laws_Thing) : Prop := Wf_i64 x.fAt ∧ Wf_i64 x.fLen ∧ Wf_i64 x.fRun
def Wf_Llaws_Thing (x : List T_laws_Thing) : Prop := (∀ a ∈ x, Wf_laws_Thing a) ∧ x.length * 24 ≤ reachBytes ∧ x.length ≤ maxLen
def Wf_laws_Node (x : T_laws_Node) : Prop := Wf_i64 x.fSt ∧ Wf_i64 x.fGen ∧ Wf_i64 x.fEp ∧ Wf_i64 x.fUp ∧ Wf_i64 x.fUpEp ∧ Wf_i64 x.fFirst ∧ Wf_i64 x.fNext ∧ Wf_i64 x.fPrev ∧ Wf_Li64 x.fChunks ∧ Wf_i64 x.fCur ∧ Wf_i64 x.fBump ∧ Wf_Llaws_Thing x.fThings ∧ Wf_Li64 x.fTags
def Wf_Llaws_Node (x : List T_laws_Node) : Prop := (∀ a ∈ x, Wf_laws_Node a) ∧ x.length * 152 ≤ reachBytes ∧ x.length ≤ maxLen
def Wf_laws_Waste (x : T_laws_Waste) : Prop := Wf_i64 x.fSlot ∧ Wf_i64 x.fFirst ∧ Wf_Li64 x.fTags ∧ Wf_Li64 x.fChunks ∧ Wf_i64 x.fDone
def Wf_Llaws_Waste (x : List T_laws_Waste) : Prop := (∀ a ∈ x, Wf_laws_Waste a) ∧ x.length * 72 ≤ reachBytes ∧ x.length ≤ maxLen
def Wf_laws_World (x : T_laws_World) : Prop := Wf_laws_Conf x.fC ∧ Wf_laws_Pool x.fP ∧ Wf_Llaws_Node x.fL ∧ Wf_Llaws_Waste x.fQ ∧ Wf_Li64 x.fLog
def Wf_laws_Handle (x : T_laws_Handle) : Prop := Wf_i64 x.fSlot ∧ Wf_i64 x.fGen
def Wf_laws_Ref (x : T_laws_Ref) : Prop := Wf_laws_Handle x.fH ∧ Wf_i64 x.fEp ∧ Wf_i64 x.fNo
def Wf_impl_Conf (x : T_impl_Conf) : Prop := Wf_i64 x.fChunks ∧ Wf_i64 x.fSize ∧ Wf_i64 x.fSlots ∧ Wf_i64 x.fTax ∧ Wf_i64 x.fSlice ∧ Wf_i64 x.fGens
def Wf_impl_Pool (x : T_impl_Pool) : Prop := Wf_Lu8 x.fMem ∧ Wf_Li64 x.fSt ∧ Wf_Li64 x.fOwn
def Wf_impl_Thing (x : T_impl_Thing) : Prop := Wf_i64 x.fAt ∧ Wf_i64 x.fLen ∧ Wf_i64 x.fRun
def Wf_Limpl_Thing (x : List T_impl_Thing) : Prop := (∀ a ∈ x, Wf_impl_Thing a) ∧ x.length * 24 ≤ reachBytes ∧ x.length ≤ maxLen
def Wf_impl_Node (x : T_impl_Node) : Prop := Wf_i64 x.fSt ∧ Wf_i64 x.fGen ∧ Wf_i64 x.fEp ∧ Wf_i64 x.fUp ∧ Wf_i64 x.fUpEp ∧ Wf_i64 x.fFirst ∧ Wf_i64 x.fNext ∧ Wf_i64 x.fPrev ∧ Wf_Li64 x.fChunks ∧ Wf_i64 x.fCur ∧ Wf_i64 x.fBump ∧ Wf_Limpl_Thing x.fThings ∧ Wf_Li64 x.fTags
def Wf_impl_Waste (x : T_impl_Waste) : Prop := Wf_i64 x.fSlot ∧ Wf_i64 x.fFirst ∧ Wf_Li64 x.fTags ∧ Wf_Li64 x.fChunks ∧ Wf_i64 x.fDone
def Wf_Limpl_Node (x : List T_impl_Node) : Prop := (∀ a ∈ x, Wf_impl_Node a) ∧ x.length * 152 ≤ reachBytes ∧ x.length ≤ maxLen
def Wf_Limpl_Waste (x : List T_impl_Waste) : Prop := (∀ a ∈ x, Wf_impl_Waste a) ∧ x.length * 72 ≤ reachBytes ∧ x.length ≤ maxLen
def Wf_impl_World (x : T_impl_World) : Prop := Wf_impl_Conf x.fC ∧ Wf_impl_Pool x.fP ∧ Wf_Limpl_Node x.fL ∧ Wf_Limpl_Waste x.fQ ∧ Wf_Li64 x.fLog
def Wf_impl_Handle (x : T_impl_Handle) : Prop := Wf_i64 x.fSlot ∧ Wf_i64 x.fGen
def Wf_impl_Ref (x : T_impl_Ref) : Prop := Wf_impl_Handle x.fH ∧ Wf_i64 x.fEp ∧ Wf_i64 x.fNo
theorem lf_i64 {v : V} (h : Lf tab 3 v) : ∃ a, v = .int .i64 a ∧ Wf_i64 a := lf_int h rfl rfl
theorem ro_i64 (x : List V) (hl : x.length = 1) (h : ∀ (i : Nat) l v, ([3] : List Nat)[i]? = some l → x[i]? = some v → Lf tab l v) : ∃ a, x = en_i64 a ∧ Wf_i64 a := by
  match x, hl with
  | [v0], _ =>
    obtain ⟨x0, rfl, w0⟩ := lf_i64 (h 0 _ _ rfl rfl)
    exact ⟨x0, rfl, w0⟩
theorem ta_i64 {x : A} (h : TA tab 3 x) : ∃ a, x = .c (.int .i64 a) ∧ Wf_i64 a := let ⟨v, e, h1⟩ := ta_one h rfl rfl; let ⟨a, e2, w⟩ := lf_i64 h1; ⟨a, by rw [e, e2], w⟩
theorem ro_laws_Conf (x : List V) (hl : x.length = 6) (h : ∀ (i : Nat) l v, ([3, 3, 3, 3, 3, 3] : List Nat)[i]? = some l → x[i]? = some v → Lf tab l v) : ∃ a, x = en_laws_Conf a ∧ Wf_laws_Conf a := by
  match x, hl with
  | [v0, v1, v2, v3, v4, v5], _ =>
    obtain ⟨x0, rfl, w0⟩ := lf_i64 (h 0 _ _ rfl rfl)
    obtain ⟨x1, rfl, w1⟩ := lf_i64 (h 1 _ _ rfl rfl)
    obtain ⟨x2, rfl, w2⟩ := lf_i64 (h 2 _ _ rfl rfl)
    obtain ⟨x3, rfl, w3⟩ := lf_i64 (h 3 _ _ rfl rfl)
    obtain ⟨x4, rfl, w4⟩ := lf_i64 (h 4 _ _ rfl rfl)
    obtain ⟨x5, rfl, w5⟩ := lf_i64 (h 5 _ _ rfl rfl)
    exact ⟨(T_laws_Conf.mk x0 x1 x2 x3 x4 x5), rfl, ⟨w0, w1, w2, w3, w4, w5⟩⟩
theorem ta_laws_Conf {x : A} (h : TA tab 23 x) : ∃ a, x = .g [.int .i64 a.fChunks, .int .i64 a.fSize, .int .i64 a.fSlots, .int .i64 a.fTax, .int .i64 a.fSlice, .int .i64 a.fGens] ∧ Wf_laws_Conf a := let ⟨vs, e, h1, h2⟩ := ta_agg h rfl rfl rfl; let ⟨a, e2, w⟩ := ro_laws_Conf vs h1 h2; ⟨a, by rw [e, e2]; rfl, w⟩
theorem lf_u8 {v : V} (h : Lf tab 5 v) : ∃ a, v = .int .u8 a ∧ Wf_u8 a := lf_int h rfl rfl
theorem ro_u8 (x : List V) (hl : x.length = 1) (h : ∀ (i : Nat) l v, ([5] : List Nat)[i]? = some l → x[i]? = some v → Lf tab l v) : ∃ a, x = en_u8 a ∧ Wf_u8 a := by
  match x, hl with
  | [v0], _ =>
    obtain ⟨x0, rfl, w0⟩ := lf_u8 (h 0 _ _ rfl rfl)
    exact ⟨x0, rfl, w0⟩
theorem ta_u8 {x : A} (h : TA tab 5 x) : ∃ a, x = .c (.int .u8 a) ∧ Wf_u8 a := let ⟨v, e, h1⟩ := ta_one h rfl rfl; let ⟨a, e2, w⟩ := lf_u8 h1; ⟨a, by rw [e, e2], w⟩
theorem lf_Lu8 {v : V} (h : Lf tab 24 v) : ∃ a, v = .row false 1 (a.map en_u8) ∧ Wf_Lu8 a := let ⟨l, e, h1, h2, h3⟩ := lf_row h rfl rfl rfl rfl ro_u8; ⟨l, e, h1, h2, h3⟩
theorem ro_Lu8 (x : List V) (hl : x.length = 1) (h : ∀ (i : Nat) l v, ([24] : List Nat)[i]? = some l → x[i]? = some v → Lf tab l v) : ∃ a, x = en_Lu8 a ∧ Wf_Lu8 a := by
  match x, hl with
  | [v0], _ =>
    obtain ⟨x0, rfl, w0⟩ := lf_Lu8 (h 0 _ _ rfl rfl)
    exact ⟨x0, rfl, w0⟩
theorem ta_Lu8 {x : A} (h : TA tab 24 x) : ∃ a, x = .c (.row false 1 (a.map en_u8)) ∧ Wf_Lu8 a := let ⟨v, e, h1⟩ := ta_one h rfl rfl; let ⟨a, e2, w⟩ := lf_Lu8 h1; ⟨a, by rw [e, e2], w⟩
theorem lf_Li64 {v : V} (h : Lf tab 25 v) : ∃ a, v = .row false 1 (a.map en_i64) ∧ Wf_Li64 a := let ⟨l, e, h1, h2, h3⟩ := lf_row h rfl rfl rfl rfl ro_i64; ⟨l, e, h1, h2, h3⟩
theorem ro_Li64 (x : List V) (hl : x.length = 1) (h : ∀ (i : Nat) l v, ([25] : List Nat)[i]? = some l → x[i]? = some v → Lf tab l v) : ∃ a, x = en_Li64 a ∧ Wf_Li64 a := by
  match x, hl with
  | [v0], _ =>
    obtain ⟨x0, rfl, w0⟩ := lf_Li64 (h 0 _ _ rfl rfl)
    exact ⟨x0, rfl, w0⟩
theorem ta_Li64 {x : A} (h : TA tab 25 x) : ∃ a, x = .c (.row false 1 (a.map en_i64)) ∧ Wf_Li64 a := let ⟨v, e, h1⟩ := ta_one h rfl rfl; let ⟨a, e2, w⟩ := lf_Li64 h1; ⟨a, by rw [e, e2], w⟩
theorem ro_laws_Pool (x : List V) (hl : x.length = 3) (h : ∀ (i : Nat) l v, ([24, 25, 25] : List Nat)[i]? = some l → x[i]? = some v → Lf tab l v) : ∃ a, x = en_laws_Pool a ∧ Wf_laws_Pool a := by
  match x, hl with
  | [v0, v1, v2], _ =>
    obtain ⟨x0, rfl, w0⟩ := lf_Lu8 (h 0 _ _ rfl rfl)
    obtain ⟨x1, rfl, w1⟩ := lf_Li64 (h 1 _ _ rfl rfl)
    obtain ⟨x2, rfl, w2⟩ := lf_Li64 (h 2 _ _ rfl rfl)
    exact ⟨(T_laws_Pool.mk x0 x1 x2), rfl, ⟨w0, w1, w2⟩⟩
theorem ta_laws_Pool {x : A} (h : TA tab 27 x) : ∃ a, x = .g [.row false 1 (a.fMem.map en_u8), .row false 1 (a.fSt.map en_i64), .row false 1 (a.fOwn.map en_i64)] ∧ Wf_laws_Pool a := let ⟨vs, e, h1, h2⟩ := ta_agg h rfl rfl rfl; let ⟨a, e2, w⟩ := ro_laws_Pool vs h1 h2; ⟨a, by rw [e, e2]; rfl, w⟩
theorem ro_laws_Thing (x : List V) (hl : x.length = 3) (h : ∀ (i : Nat) l v, ([3, 3, 3] : List Nat)[i]? = some l → x[i]? = some v → Lf tab l v) : ∃ a, x = en_laws_Thing a ∧ Wf_laws_Thing a := by
  match x, hl with
  | [v0, v1, v2], _ =>
    obtain ⟨x0, rfl, w0⟩ := lf_i64 (h 0 _ _ rfl rfl)
    obtain ⟨x1, rfl, w1⟩ := lf_i64 (h 1 _ _ rfl rfl)
    obtain ⟨x2, rfl, w2⟩ := lf_i64 (h 2 _ _ rfl rfl)
    exact ⟨(T_laws_Thing.mk x0 x1 x2), rfl, ⟨w0, w1, w2⟩⟩
theorem ta_laws_Thing {x : A} (h : TA tab 137 x) : ∃ a, x = .g [.int .i64 a.fAt, .int .i64 a.fLen, .int .i64 a.fRun] ∧ Wf_laws_Thing a := let ⟨vs, e, h1, h2⟩ := ta_agg h rfl rfl rfl; let ⟨a, e2, w⟩ := ro_laws_Thing vs h1 h2; ⟨a, by rw [e, e2]; rfl, w⟩
theorem lf_Llaws_Thing {v : V} (h : Lf tab 104 v) : ∃ a, v = .row false 3 (a.map en_laws_Thing) ∧ Wf_Llaws_Thing a := let ⟨l, e, h1, h2, h3⟩ := lf_row h rfl rfl rfl rfl ro_laws_Thing; ⟨l, e, h1, h2, h3⟩
theorem ro_Llaws_Thing (x : List V) (hl : x.length = 1) (h : ∀ (i : Nat) l v, ([104] : List Nat)[i]? = some l → x[i]? = some v → Lf tab l v) : ∃ a, x = en_Llaws_Thing a ∧ Wf_Llaws_Thing a := by
  match x, hl with
  | [v0], _ =>
    obtain ⟨x0, rfl, w0⟩ := lf_Llaws_Thing (h 0 _ _ rfl rfl)
    exact ⟨x0, rfl, w0⟩
theorem ta_Llaws_Thing {x : A} (h : TA tab 104 x) : ∃ a, x = .c (.row false 3 (a.map en_laws_Thing)) ∧ Wf_Llaws_Thing a := let ⟨v, e, h1⟩ := ta_one h rfl rfl; let ⟨a, e2, w⟩ := lf_Llaws_Thing h1; ⟨a, by rw [e, e2], w⟩
theorem ro_laws_Node (x : List V) (hl : x.length = 13) (h : ∀ (i : Nat) l v, ([3, 3, 3, 3, 3, 3, 3, 3, 25, 3, 3, 104, 25] : List Nat)[i]? = some l → x[i]? = some v → Lf tab l v) : ∃ a, x = en_laws_Node a ∧ Wf_laws_Node a := by
  match x, hl with
  | [v0, v1, v2, v3, v4, v5, v6, v7, v8, v9, v10, v11, v12], _ =>
    obtain ⟨x0, rfl, w0⟩ := lf_i64 (h 0 _ _ rfl rfl)
    obtain ⟨x1, rfl, w1⟩ := lf_i64 (h 1 _ _ rfl rfl)
    obtain ⟨x2, rfl, w2⟩ := lf_i64 (h 2 _ _ rfl rfl)
    obtain ⟨x3, rfl, w3⟩ := lf_i64 (h 3 _ _ rfl rfl)
    obtain ⟨x4, rfl, w4⟩ := lf_i64 (h 4 _ _ rfl rfl)
    obtain ⟨x5, rfl, w5⟩ := lf_i64 (h 5 _ _ rfl rfl)
    obtain ⟨x6, rfl, w6⟩ := lf_i64 (h 6 _ _ rfl rfl)
    obtain ⟨x7, rfl, w7⟩ := lf_i64 (h 7 _ _ rfl rfl)
    obtain ⟨x8, rfl, w8⟩ := lf_Li64 (h 8 _ _ rfl rfl)
    obtain ⟨x9, rfl, w9⟩ := lf_i64 (h 9 _ _ rfl rfl)
    obtain ⟨x10, rfl, w10⟩ := lf_i64 (h 10 _ _ rfl rfl)
    obtain ⟨x11, rfl, w11⟩ := lf_Llaws_Thing (h 11 _ _ rfl rfl)
    obtain ⟨x12, rfl, w12⟩ := lf_Li64 (h 12 _ _ rfl rfl)
    exact ⟨(T_laws_Node.mk x0 x1 x2 x3 x4 x5 x6 x7 x8 x9 x10 x11 x12), rfl, ⟨w0, w1, w2, w3, w4, w5, w6, w7, w8, w9, w10, w11, w12⟩⟩
theorem ta_laws_Node {x : A} (h : TA tab 106 x) : ∃ a, x = .g [.int .i64 a.fSt, .int .i64 a.fGen, .int .i64 a.fEp, .int .i64 a.fUp, .int .i64 a.fUpEp, .int .i64 a.fFirst, .int .i64 a.fNext, .int .i64 a.fPrev, .row false 1 (a.fChunks.map en_i64), .int .i64 a.fCur, .int .i64 a.fBump, .row false 3 (a.fThings.map en_laws_Thing), .row false 1 (a.fTags.map en_i64)] ∧ Wf_laws_Node a := let ⟨vs, e, h1, h2⟩ := ta_agg h rfl rfl rfl; let ⟨a, e2, w⟩ := ro_laws_Node vs h1 h2; ⟨a, by rw [e, e2]; rfl, w⟩
theorem lf_Llaws_Node {v : V} (h : Lf tab 28 v) : ∃ a, v = .row false 13 (a.map en_laws_Node) ∧ Wf_Llaws_Node a := let ⟨l, e, h1, h2, h3⟩ := lf_row h rfl rfl rfl rfl ro_laws_Node; ⟨l, e, h1, h2, h3⟩
theorem ro_Llaws_Node (x : List V) (hl : x.length = 1) (h : ∀ (i : Nat) l v, ([28] : List Nat)[i]? = some l → x[i]? = some v → Lf tab l v) : ∃ a, x = en_Llaws_Node a ∧ Wf_Llaws_Node a := by
  match x, hl with
  | [v0], _ =>
    obtain ⟨x0, rfl, w0⟩ := lf_Llaws_Node (h 0 _ _ rfl rfl)
    exact ⟨x0, rfl, w0⟩
theorem ta_Llaws_Node {x : A} (h : TA tab 28 x) : ∃ a, x = .c (.row false 13 (a.map en_laws_Node)) ∧ Wf_Llaws_Node a := let ⟨v, e, h1⟩ := ta_one h rfl rfl; let ⟨a, e2, w⟩ := lf_Llaws_Node h1; ⟨a, by rw [e, e2], w⟩
theorem ro_laws_Waste (x : List V) (hl : x.length = 5) (h : ∀ (i : Nat) l v, ([3, 3, 25, 25, 3] : List Nat)[i]? = some l → x[i]? = some v → Lf tab l v) : ∃ a, x = en_laws_Waste a ∧ Wf_laws_Waste a := by
  match x, hl with
  | [v0, v1, v2, v3, v4], _ =>
    obtain ⟨x0, rfl, w0⟩ := lf_i64 (h 0 _ _ rfl rfl)
    obtain ⟨x1, rfl, w1⟩ := lf_i64 (h 1 _ _ rfl rfl)
    obtain ⟨x2, rfl, w2⟩ := lf_Li64 (h 2 _ _ rfl rfl)
    obtain ⟨x3, rfl, w3⟩ := lf_Li64 (h 3 _ _ rfl rfl)
    obtain ⟨x4, rfl, w4⟩ := lf_i64 (h 4 _ _ rfl rfl)
    exact ⟨(T_laws_Waste.mk x0 x1 x2 x3 x4), rfl, ⟨w0, w1, w2, w3, w4⟩⟩
theorem ta_laws_Waste {x : A} (h : TA tab 109 x) : ∃ a, x = .g [.int .i64 a.fSlot, .int .i64 a.fFirst, .row false 1 (a.fTags.map en_i64), .row false 1 (a.fChunks.map en_i64), .int .i64 a.fDone] ∧ Wf_laws_Waste a := let ⟨vs, e, h1, h2⟩ := ta_agg h rfl rfl rfl; let ⟨a, e2, w⟩ := ro_laws_Waste vs h1 h2; ⟨a, by rw [e, e2]; rfl, w⟩
theorem lf_Llaws_Waste {v : V} (h : Lf tab 29 v) : ∃ a, v = .row false 5 (a.map en_laws_Waste) ∧ Wf_Llaws_Waste a := let ⟨l, e, h1, h2, h3⟩ := lf_row h rfl rfl rfl rfl ro_laws_Waste; ⟨l, e, h1, h2, h3⟩
theorem ro_Llaws_Waste (x : List V) (hl : x.length = 1) (h : ∀ (i : Nat) l v, ([29] : List Nat)[i]? = some l → x[i]? = some v → Lf tab l v) : ∃ a, x = en_Llaws_Waste a ∧ Wf_Llaws_Waste a := by
  match x, hl with
  | [v0], _ =>
    obtain ⟨x0, rfl, w0⟩ := lf_Llaws_Waste (h 0 _ _ rfl rfl)
    exact ⟨x0, rfl, w0⟩
theorem ta_Llaws_Waste {x : A} (h : TA tab 29 x) : ∃ a, x = .c (.row false 5 (a.map en_laws_Waste)) ∧ Wf_Llaws_Waste a := let ⟨v, e, h1⟩ := ta_one h rfl rfl; let ⟨a, e2, w⟩ := lf_Llaws_Waste h1; ⟨a, by rw [e, e2], w⟩
theorem ro_laws_World (x : List V) (hl : x.length = 12) (h : ∀ (i : Nat) l v, ([3, 3, 3, 3, 3, 3, 24, 25, 25, 28, 29, 25] : List Nat)[i]? = some l → x[i]? = some v → Lf tab l v) : ∃ a, x = en_laws_World a ∧ Wf_laws_World a := by
  match x, hl with
  | [v0, v1, v2, v3, v4, v5, v6, v7, v8, v9, v10, v11], _ =>
    obtain ⟨x0, rfl, w0⟩ := lf_i64 (h 0 _ _ rfl rfl)
    obtain ⟨x1, rfl, w1⟩ := lf_i64 (h 1 _ _ rfl rfl)
    obtain ⟨x2, rfl, w2⟩ := lf_i64 (h 2 _ _ rfl rfl)
    obtain ⟨x3, rfl, w3⟩ := lf_i64 (h 3 _ _ rfl rfl)
    obtain ⟨x4, rfl, w4⟩ := lf_i64 (h 4 _ _ rfl rfl)
    obtain ⟨x5, rfl, w5⟩ := lf_i64 (h 5 _ _ rfl rfl)
    obtain ⟨x6, rfl, w6⟩ := lf_Lu8 (h 6 _ _ rfl rfl)
    obtain ⟨x7, rfl, w7⟩ := lf_Li64 (h 7 _ _ rfl rfl)
    obtain ⟨x8, rfl, w8⟩ := lf_Li64 (h 8 _ _ rfl rfl)
    obtain ⟨x9, rfl, w9⟩ := lf_Llaws_Node (h 9 _ _ rfl rfl)
    obtain ⟨x10, rfl, w10⟩ := lf_Llaws_Waste (h 10 _ _ rfl rfl)
    obtain ⟨x11, rfl, w11⟩ := lf_Li64 (h 11 _ _ rfl rfl)
    exact ⟨(T_laws_World.mk (T_laws_Conf.mk x0 x1 x2 x3 x4 x5) (T_laws_Pool.mk x6 x7 x8) x9 x10 x11), rfl, ⟨⟨w0, w1, w2, w3, w4, w5⟩, ⟨w6, w7, w8⟩, w9, w10, w11⟩⟩
theorem ta_laws_World {x : A} (h : TA tab 31 x) : ∃ a, x = .g [.int .i64 a.fC.fChunks, .int .i64 a.fC.fSize, .int .i64 a.fC.fSlots, .int .i64 a.fC.fTax, .int .i64 a.fC.fSlice, .int .i64 a.fC.fGens, .row false 1 (a.fP.fMem.map en_u8), .row false 1 (a.fP.fSt.map en_i64), .row false 1 (a.fP.fOwn.map en_i64), .row false 13 (a.fL.map en_laws_Node), .row false 5 (a.fQ.map en_laws_Waste), .row false 1 (a.fLog.map en_i64)] ∧ Wf_laws_World a := let ⟨vs, e, h1, h2⟩ := ta_agg h rfl rfl rfl; let ⟨a, e2, w⟩ := ro_laws_World vs h1 h2; ⟨a, by rw [e, e2]; rfl, w⟩
theorem ro_laws_Handle (x : List V) (hl : x.length = 2) (h : ∀ (i : Nat) l v, ([3, 3] : List Nat)[i]? = some l → x[i]? = some v → Lf tab l v) : ∃ a, x = en_laws_Handle a ∧ Wf_laws_Handle a := by
  match x, hl with
  | [v0, v1], _ =>
    obtain ⟨x0, rfl, w0⟩ := lf_i64 (h 0 _ _ rfl rfl)
    obtain ⟨x1, rfl, w1⟩ := lf_i64 (h 1 _ _ rfl rfl)
    exact ⟨(T_laws_Handle.mk x0 x1), rfl, ⟨w0, w1⟩⟩
theorem ta_laws_Handle {x : A} (h : TA tab 44 x) : ∃ a, x = .g [.int .i64 a.fSlot, .int .i64 a.fGen] ∧ Wf_laws_Handle a := let ⟨vs, e, h1, h2⟩ := ta_agg h rfl rfl rfl; let ⟨a, e2, w⟩ := ro_laws_Handle vs h1 h2; ⟨a, by rw [e, e2]; rfl, w⟩
theorem ro_laws_Ref (x : List V) (hl : x.length = 4) (h : ∀ (i : Nat) l v, ([3, 3, 3, 3] : List Nat)[i]? = some l → x[i]? = some v → Lf tab l v) : ∃ a, x = en_laws_Ref a ∧ Wf_laws_Ref a := by
  match x, hl with
  | [v0, v1, v2, v3], _ =>
    obtain ⟨x0, rfl, w0⟩ := lf_i64 (h 0 _ _ rfl rfl)
    obtain ⟨x1, rfl, w1⟩ := lf_i64 (h 1 _ _ rfl rfl)
    obtain ⟨x2, rfl, w2⟩ := lf_i64 (h 2 _ _ rfl rfl)
    obtain ⟨x3, rfl, w3⟩ := lf_i64 (h 3 _ _ rfl rfl)
    exact ⟨(T_laws_Ref.mk (T_laws_Handle.mk x0 x1) x2 x3), rfl, ⟨⟨w0, w1⟩, w2, w3⟩⟩
theorem ta_laws_Ref {x : A} (h : TA tab 56 x) : ∃ a, x = .g [.int .i64 a.fH.fSlot, .int .i64 a.fH.fGen, .int .i64 a.fEp, .int .i64 a.fNo] ∧ Wf_laws_Ref a := let ⟨vs, e, h1, h2⟩ := ta_agg h rfl rfl rfl; let ⟨a, e2, w⟩ := ro_laws_Ref vs h1 h2; ⟨a, by rw [e, e2]; rfl, w⟩
theorem ro_impl_Conf (x : List V) (hl : x.length = 6) (h : ∀ (i : Nat) l v, ([3, 3, 3, 3, 3, 3] : List Nat)[i]? = some l → x[i]? = some v → Lf tab l v) : ∃ a, x = en_impl_Conf a ∧ Wf_impl_Conf a := by
  match x, hl with
  | [v0, v1, v2, v3, v4, v5], _ =>
    obtain ⟨x0, rfl, w0⟩ := lf_i64 (h 0 _ _ rfl rfl)
    obtain ⟨x1, rfl, w1⟩ := lf_i64 (h 1 _ _ rfl rfl)
    obtain ⟨x2, rfl, w2⟩ := lf_i64 (h 2 _ _ rfl rfl)
    obtain ⟨x3, rfl, w3⟩ := lf_i64 (h 3 _ _ rfl rfl)
    obtain ⟨x4, rfl, w4⟩ := lf_i64 (h 4 _ _ rfl rfl)
    obtain ⟨x5, rfl, w5⟩ := lf_i64 (h 5 _ _ rfl rfl)
    exact ⟨(T_impl_Conf.mk x0 x1 x2 x3 x4 x5), rfl, ⟨w0, w1, w2, w3, w4, w5⟩⟩
theorem ta_impl_Conf {x : A} (h : TA tab 34 x) : ∃ a, x = .g [.int .i64 a.fChunks, .int .i64 a.fSize, .int .i64 a.fSlots, .int .i64 a.fTax, .int .i64 a.fSlice, .int .i64 a.fGens] ∧ Wf_impl_Conf a := let ⟨vs, e, h1, h2⟩ := ta_agg h rfl rfl rfl; let ⟨a, e2, w⟩ := ro_impl_Conf vs h1 h2; ⟨a, by rw [e, e2]; rfl, w⟩
theorem ro_impl_Pool (x : List V) (hl : x.length = 3) (h : ∀ (i : Nat) l v, ([24, 25, 25] : List Nat)[i]? = some l → x[i]? = some v → Lf tab l v) : ∃ a, x = en_impl_Pool a ∧ Wf_impl_Pool a := by
  match x, hl with
  | [v0, v1, v2], _ =>
    obtain ⟨x0, rfl, w0⟩ := lf_Lu8 (h 0 _ _ rfl rfl)
    obtain ⟨x1, rfl, w1⟩ := lf_Li64 (h 1 _ _ rfl rfl)
    obtain ⟨x2, rfl, w2⟩ := lf_Li64 (h 2 _ _ rfl rfl)
    exact ⟨(T_impl_Pool.mk x0 x1 x2), rfl, ⟨w0, w1, w2⟩⟩
theorem ta_impl_Pool {x : A} (h : TA tab 35 x) : ∃ a, x = .g [.row false 1 (a.fMem.map en_u8), .row false 1 (a.fSt.map en_i64), .row false 1 (a.fOwn.map en_i64)] ∧ Wf_impl_Pool a := let ⟨vs, e, h1, h2⟩ := ta_agg h rfl rfl rfl; let ⟨a, e2, w⟩ := ro_impl_Pool vs h1 h2; ⟨a, by rw [e, e2]; rfl, w⟩
theorem ro_impl_Thing (x : List V) (hl : x.length = 3) (h : ∀ (i : Nat) l v, ([3, 3, 3] : List Nat)[i]? = some l → x[i]? = some v → Lf tab l v) : ∃ a, x = en_impl_Thing a ∧ Wf_impl_Thing a := by
  match x, hl with
  | [v0, v1, v2], _ =>
    obtain ⟨x0, rfl, w0⟩ := lf_i64 (h 0 _ _ rfl rfl)
    obtain ⟨x1, rfl, w1⟩ := lf_i64 (h 1 _ _ rfl rfl)
    obtain ⟨x2, rfl, w2⟩ := lf_i64 (h 2 _ _ rfl rfl)
    exact ⟨(T_impl_Thing.mk x0 x1 x2), rfl, ⟨w0, w1, w2⟩⟩
theorem ta_impl_Thing {x : A} (h : TA tab 92 x) : ∃ a, x = .g [.int .i64 a.fAt, .int .i64 a.fLen, .int .i64 a.fRun] ∧ Wf_impl_Thing a := let ⟨vs, e, h1, h2⟩ := ta_agg h rfl rfl rfl; let ⟨a, e2, w⟩ := ro_impl_Thing vs h1 h2; ⟨a, by rw [e, e2]; rfl, w⟩
theorem lf_Limpl_Thing {v : V} (h : Lf tab 87 v) : ∃ a, v = .row false 3 (a.map en_impl_Thing) ∧ Wf_Limpl_Thing a := let ⟨l, e, h1, h2, h3⟩ := lf_row h rfl rfl rfl rfl ro_impl_Thing; ⟨l, e, h1, h2, h3⟩
theorem ro_Limpl_Thing (x : List V) (hl : x.length = 1) (h : ∀ (i : Nat) l v, ([87] : List Nat)[i]? = some l → x[i]? = some v → Lf tab l v) : ∃ a, x = en_Limpl_Thing a ∧ Wf_Limpl_Thing a := by
  match x, hl with
  | [v0], _ =>
    obtain ⟨x0, rfl, w0⟩ := lf_Limpl_Thing (h 0 _ _ rfl rfl)
    exact ⟨x0, rfl, w0⟩
theorem ta_Limpl_Thing {x : A} (h : TA tab 87 x) : ∃ a, x = .c (.row false 3 (a.map en_impl_Thing)) ∧ Wf_Limpl_Thing a := let ⟨v, e, h1⟩ := ta_one h rfl rfl; let ⟨a, e2, w⟩ := lf_Limpl_Thing h1; ⟨a, by rw [e, e2], w⟩
theorem ro_impl_Node (x : List V) (hl : x.length = 13) (h : ∀ (i : Nat) l v, ([3, 3, 3, 3, 3, 3, 3, 3, 25, 3, 3, 87, 25] : List Nat)[i]? = some l → x[i]? = some v → Lf tab l v) : ∃ a, x = en_impl_Node a ∧ Wf_impl_Node a := by
  match x, hl with
  | [v0, v1, v2, v3, v4, v5, v6, v7, v8, v9, v10, v11, v12], _ =>
    obtain ⟨x0, rfl, w0⟩ := lf_i64 (h 0 _ _ rfl rfl)
    obtain ⟨x1, rfl, w1⟩ := lf_i64 (h 1 _ _ rfl rfl)
    obtain ⟨x2, rfl, w2⟩ := lf_i64 (h 2 _ _ rfl rfl)
    obtain ⟨x3, rfl, w3⟩ := lf_i64 (h 3 _ _ rfl rfl)
    obtain ⟨x4, rfl, w4⟩ := lf_i64 (h 4 _ _ rfl rfl)
    obtain ⟨x5, rfl, w5⟩ := lf_i64 (h 5 _ _ rfl rfl)
    obtain ⟨x6, rfl, w6⟩ := lf_i64 (h 6 _ _ rfl rfl)
    obtain ⟨x7, rfl, w7⟩ := lf_i64 (h 7 _ _ rfl rfl)
    obtain ⟨x8, rfl, w8⟩ := lf_Li64 (h 8 _ _ rfl rfl)
    obtain ⟨x9, rfl, w9⟩ := lf_i64 (h 9 _ _ rfl rfl)
    obtain ⟨x10, rfl, w10⟩ := lf_i64 (h 10 _ _ rfl rfl)
    obtain ⟨x11, rfl, w11⟩ := lf_Limpl_Thing (h 11 _ _ rfl rfl)
    obtain ⟨x12, rfl, w12⟩ := lf_Li64 (h 12 _ _ rfl rfl)
    exact ⟨(T_impl_Node.mk x0 x1 x2 x3 x4 x5 x6 x7 x8 x9 x10 x11 x12), rfl, ⟨w0, w1, w2, w3, w4, w5, w6, w7, w8, w9, w10, w11, w12⟩⟩
theorem ta_impl_Node {x : A} (h : TA tab 89 x) : ∃ a, x = .g [.int .i64 a.fSt, .int .i64 a.fGen, .int .i64 a.fEp, .int .i64 a.fUp, .int .i64 a.fUpEp, .int .i64 a.fFirst, .int .i64 a.fNext, .int .i64 a.fPrev, .row false 1 (a.fChunks.map en_i64), .int .i64 a.fCur, .int .i64 a.fBump, .row false 3 (a.fThings.map en_impl_Thing), .row false 1 (a.fTags.map en_i64)] ∧ Wf_impl_Node a := let ⟨vs, e, h1, h2⟩ := ta_agg h rfl rfl rfl; let ⟨a, e2, w⟩ := ro_impl_Node vs h1 h2; ⟨a, by rw [e, e2]; rfl, w⟩
theorem ro_impl_Waste (x : List V) (hl : x.length = 5) (h : ∀ (i : Nat) l v, ([3, 3, 25, 25, 3] : List Nat)[i]? = some l → x[i]? = some v → Lf tab l v) : ∃ a, x = en_impl_Waste a ∧ Wf_impl_Waste a := by
  match x, hl with
  | [v0, v1, v2, v3, v4], _ =>
    obtain ⟨x0, rfl, w0⟩ := lf_i64 (h 0 _ _ rfl rfl)
    obtain ⟨x1, rfl, w1⟩ := lf_i64 (h 1 _ _ rfl rfl)
    obtain ⟨x2, rfl, w2⟩ := lf_Li64 (h 2 _ _ rfl rfl)
    obtain ⟨x3, rfl, w3⟩ := lf_Li64 (h 3 _ _ rfl rfl)
    obtain ⟨x4, rfl, w4⟩ := lf_i64 (h 4 _ _ rfl rfl)
    exact ⟨(T_impl_Waste.mk x0 x1 x2 x3 x4), rfl, ⟨w0, w1, w2, w3, w4⟩⟩
theorem ta_impl_Waste {x : A} (h : TA tab 113 x) : ∃ a, x = .g [.int .i64 a.fSlot, .int .i64 a.fFirst, .row false 1 (a.fTags.map en_i64), .row false 1 (a.fChunks.map en_i64), .int .i64 a.fDone] ∧ Wf_impl_Waste a := let ⟨vs, e, h1, h2⟩ := ta_agg h rfl rfl rfl; let ⟨a, e2, w⟩ := ro_impl_Waste vs h1 h2; ⟨a, by rw [e, e2]; rfl, w⟩
theorem lf_Limpl_Node {v : V} (h : Lf tab 36 v) : ∃ a, v = .row false 13 (a.map en_impl_Node) ∧ Wf_Limpl_Node a := let ⟨l, e, h1, h2, h3⟩ := lf_row h rfl rfl rfl rfl ro_impl_Node; ⟨l, e, h1, h2, h3⟩
theorem ro_Limpl_Node (x : List V) (hl : x.length = 1) (h : ∀ (i : Nat) l v, ([36] : List Nat)[i]? = some l → x[i]? = some v → Lf tab l v) : ∃ a, x = en_Limpl_Node a ∧ Wf_Limpl_Node a := by
  match x, hl with
  | [v0], _ =>
    obtain ⟨x0, rfl, w0⟩ := lf_Limpl_Node (h 0 _ _ rfl rfl)
    exact ⟨x0, rfl, w0⟩
theorem ta_Limpl_Node {x : A} (h : TA tab 36 x) : ∃ a, x = .c (.row false 13 (a.map en_impl_Node)) ∧ Wf_Limpl_Node a := let ⟨v, e, h1⟩ := ta_one h rfl rfl; let ⟨a, e2, w⟩ := lf_Limpl_Node h1; ⟨a, by rw [e, e2], w⟩
theorem lf_Limpl_Waste {v : V} (h : Lf tab 37 v) : ∃ a, v = .row false 5 (a.map en_impl_Waste) ∧ Wf_Limpl_Waste a := let ⟨l, e, h1, h2, h3⟩ := lf_row h rfl rfl rfl rfl ro_impl_Waste; ⟨l, e, h1, h2, h3⟩
theorem ro_Limpl_Waste (x : List V) (hl : x.length = 1) (h : ∀ (i : Nat) l v, ([37] : List Nat)[i]? = some l → x[i]? = some v → Lf tab l v) : ∃ a, x = en_Limpl_Waste a ∧ Wf_Limpl_Waste a := by
  match x, hl with
  | [v0], _ =>
    obtain ⟨x0, rfl, w0⟩ := lf_Limpl_Waste (h 0 _ _ rfl rfl)
    exact ⟨x0, rfl, w0⟩
theorem ta_Limpl_Waste {x : A} (h : TA tab 37 x) : ∃ a, x = .c (.row false 5 (a.map en_impl_Waste)) ∧ Wf_Limpl_Waste a := let ⟨v, e, h1⟩ := ta_one h rfl rfl; let ⟨a, e2, w⟩ := lf_Limpl_Waste h1; ⟨a, by rw [e, e2], w⟩
theorem ro_impl_World (x : List V) (hl : x.length = 12) (h : ∀ (i : Nat) l v, ([3, 3, 3, 3, 3, 3, 24, 25, 25, 36, 37, 25] : List Nat)[i]? = some l → x[i]? = some v → Lf tab l v) : ∃ a, x = en_impl_World a ∧ Wf_impl_World a := by
  match x, hl with
  | [v0, v1, v2, v3, v4, v5, v6, v7, v8, v9, v10, v11], _ =>
    obtain ⟨x0, rfl, w0⟩ := lf_i64 (h 0 _ _ rfl rfl)
    obtain ⟨x1, rfl, w1⟩ := lf_i64 (h 1 _ _ rfl rfl)
    obtain ⟨x2, rfl, w2⟩ := lf_i64 (h 2 _ _ rfl rfl)
    obtain ⟨x3, rfl, w3⟩ := lf_i64 (h 3 _ _ rfl rfl)
    obtain ⟨x4, rfl, w4⟩ := lf_i64 (h 4 _ _ rfl rfl)
    obtain ⟨x5, rfl, w5⟩ := lf_i64 (h 5 _ _ rfl rfl)
    obtain ⟨x6, rfl, w6⟩ := lf_Lu8 (h 6 _ _ rfl rfl)
    obtain ⟨x7, rfl, w7⟩ := lf_Li64 (h 7 _ _ rfl rfl)
    obtain ⟨x8, rfl, w8⟩ := lf_Li64 (h 8 _ _ rfl rfl)
    obtain ⟨x9, rfl, w9⟩ := lf_Limpl_Node (h 9 _ _ rfl rfl)
    obtain ⟨x10, rfl, w10⟩ := lf_Limpl_Waste (h 10 _ _ rfl rfl)
    obtain ⟨x11, rfl, w11⟩ := lf_Li64 (h 11 _ _ rfl rfl)
    exact ⟨(T_impl_World.mk (T_impl_Conf.mk x0 x1 x2 x3 x4 x5) (T_impl_Pool.mk x6 x7 x8) x9 x10 x11), rfl, ⟨⟨w0, w1, w2, w3, w4, w5⟩, ⟨w6, w7, w8⟩, w9, w10, w11⟩⟩
theorem ta_impl_World {x : A} (h : TA tab 39 x) : ∃ a, x = .g [.int .i64 a.fC.fChunks, .int .i64 a.fC.fSize, .int .i64 a.fC.fSlots, .int .i64 a.fC.fTax, .int .i64 a.fC.fSlice, .int .i64 a.fC.fGens, .row false 1 (a.fP.fMem.map en_u8), .row false 1 (a.fP.fSt.map en_i64), .row false 1 (a.fP.fOwn.map en_i64), .row false 13 (a.fL.map en_impl_Node), .row false 5 (a.fQ.map en_impl_Waste), .row false 1 (a.fLog.map en_i64)] ∧ Wf_impl_World a := let ⟨vs, e, h1, h2⟩ := ta_agg h rfl rfl rfl; let ⟨a, e2, w⟩ := ro_impl_World vs h1 h2; ⟨a, by rw [e, e2]; rfl, w⟩
theorem ro_impl_Handle (x : List V) (hl : x.length = 2) (h : ∀ (i : Nat) l v, ([3, 3] : List Nat)[i]? = some l → x[i]? = some v → Lf tab l v) : ∃ a, x = en_impl_Handle a ∧ Wf_impl_Handle a := by
  match x, hl with
  | [v0, v1], _ =>
    obtain ⟨x0, rfl, w0⟩ := lf_i64 (h 0 _ _ rfl rfl)
    obtain ⟨x1, rfl, w1⟩ := lf_i64 (h 1 _ _ rfl rfl)
    exact ⟨(T_impl_Handle.mk x0 x1), rfl, ⟨w0, w1⟩⟩
theorem ta_impl_Handle {x : A} (h : TA tab 46 x) : ∃ a, x = .g [.int .i64 a.fSlot, .int .i64 a.fGen] ∧ Wf_impl_Handle a := let ⟨vs, e, h1, h2⟩ := ta_agg h rfl rfl rfl; let ⟨a, e2, w⟩ := ro_impl_Handle vs h1 h2; ⟨a, by rw [e, e2]; rfl, w⟩
theorem ro_impl_Ref (x : List V) (hl : x.length = 4) (h : ∀ (i : Nat) l v, ([3, 3, 3, 3] : List Nat)[i]? = some l → x[i]? = some v → Lf tab l v) : ∃ a, x = en_impl_Ref a ∧ Wf_impl_Ref a := by
  match x, hl with
  | [v0, v1, v2, v3], _ =>
    obtain ⟨x0, rfl, w0⟩ := lf_i64 (h 0 _ _ rfl rfl)
    obtain ⟨x1, rfl, w1⟩ := lf_i64 (h 1 _ _ rfl rfl)
    obtain ⟨x2, rfl, w2⟩ := lf_i64 (h 2 _ _ rfl rfl)
    obtain ⟨x3, rfl, w3⟩ := lf_i64 (h 3 _ _ rfl rfl)
    exact ⟨(T_impl_Ref.mk (T_impl_Handle.mk x0 x1) x2 x3), rfl, ⟨⟨w0, w1⟩, w2, w3⟩⟩
theorem ta_impl_Ref {x : A} (h : TA tab 52 x) : ∃ a, x = .g [.int .i64 a.fH.fSlot, .int .i64 a.fH.fGen, .int .i64 a.fEp, .int .i64 a.fNo] ∧ Wf_impl_Ref a := let ⟨vs, e, h1, h2⟩ := ta_agg h rfl rfl rfl; let ⟨a, e2, w⟩ := ro_impl_Ref vs h1 h2; ⟨a, by rw [e, e2]; rfl, w⟩

theorem ownKnob0 : ownKnob Try.prog.godebug = none := by kernel_rfl
theorem laidOut0 : laidOutB Try.prog = true := by kernel_rfl
end Go.Proofs.Ytemgbggfhohfeaa
