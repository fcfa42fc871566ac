/- Models of the program's functions, and the walks that show them. Printed by gen.py. -/
import Derived.Test.YtlenlhlggknelaaGFnExactGetOpa
set_option linter.unusedVariables false
set_option linter.unusedSimpArgs false
namespace Go.Proofs.Ytlenlhlggknelaa
open Go.Eng Go.ChangeShapes Go.WideShapes Go.ChangeAt Go.RowKit
/-! ### loop.example/g00499/impl.GetOp -/
set_option maxRecDepth 20000 in
set_option maxHeartbeats 8000000 in
theorem wo_impl_GetOp (K : Nat) (a0 : List Int) (r : T_impl_Op × Bool) (h : m_impl_GetOp K a0 = some r) : Sp Try.prog 50 [.c (.row false 1 (a0.map en_u8))] [] (.t [.g [.int .i64 r.1.fKind, .int .i64 r.1.fH.fSlot, .int .i64 r.1.fH.fGen, .int .i64 r.1.fR.fH.fSlot, .int .i64 r.1.fR.fH.fGen, .int .i64 r.1.fR.fEp, .int .i64 r.1.fR.fNo, .int .i64 r.1.fN, .int .i64 r.1.fM, .own 1 0 0 r.1.fB.length], .c (.bool r.2)]) [⟨0, 1, r.1.fB.map en_u8⟩] := by
  refine Sp.of_W tabOk Try.func50 rfl rfl (Nat.le_of_ble_eq_true rfl) (Nat.le_of_ble_eq_true rfl) fun F hP hN hm => ?_
  obtain ⟨P, N, w0, σ0, β0, m⟩ := F
  obtain rfl : P = Try.prog := hP
  obtain rfl : N = 68 := hN
  obtain rfl : m = 1 := hm
  have he : Env ⟨Try.prog, 68, w0, σ0, β0, 1⟩ tab := ⟨Nat.le_of_ble_eq_true rfl, tabOk⟩
  unfold m_impl_GetOp at h
  refine W_seq ?_
  refine W_regV he rfl ?_
  refine v0 (sAl rfl rfl 101 rfl) rfl ?_
  refine v0 (sA rfl [] rfl) rfl ?_
  refine ve ?_
  refine W2 [0, 2] [101] [] (l := [(0, .c (.row _ _ _)), (2, .c (.ptr _ _ _ _))]) (h := [(101, ⟨0, 10, [[.int _ _, .int _ _, .int _ _, .int _ _, .int _ _, .int _ _, .int _ _, .int _ _, .int _ _, .row _ _ _]]⟩)]) (h' := []) trivial rfl rfl rfl ?_
  refine W_seq ?_
  refine W_regV he rfl ?_
  refine v0 (sBdA rfl [] (out := [.int .i64 0, .int .i64 0, .int .i64 0, .int .i64 0, .int .i64 0, .int .i64 0, .int .i64 0, .int .i64 0, .int .i64 0, .int .i64 0]) rfl rfl rfl (by kernel_rfl)) rfl ?_
  refine v0 (sAl rfl rfl 102 rfl) rfl ?_
  refine v0 (sSt rfl rfl [] rfl rfl) rfl ?_
  refine v0 (sA rfl [] rfl) rfl ?_
  refine ve ?_
  refine W2 [0, 2, 4, 5] [101] [102] (l := [(0, .c (.row _ _ _)), (2, .c (.ptr _ _ _ _)), (4, .c (.ptr _ _ _ _)), (5, .c (.int _ _))]) (h := [(101, ⟨0, 10, [[.int _ _, .int _ _, .int _ _, .int _ _, .int _ _, .int _ _, .int _ _, .int _ _, .int _ _, .row _ _ _]]⟩)]) (h' := [(102, ⟨0, 10, [([0, 0, 0, 0, 0, 0, 0, 0, 0, 0] : List Int).map (V.int .i64)]⟩)]) ⟨⟨_, rfl, closed_arr (fun _ => rfl) _ _ ([0, 0, 0, 0, 0, 0, 0, 0, 0, 0] : List Int)⟩, trivial⟩ rfl rfl rfl ?_
  refine W_seq ?_
  refine W_seq ?_
  refine W_regV he rfl ?_
  refine v0 (sM rfl [] rfl) rfl ?_
  refine ve ?_
  refine W2 [0, 2, 4, 5, 12] [101] [102] (l := [(0, .c (.row _ _ _)), (2, .c (.ptr _ _ _ _)), (4, .c (.ptr _ _ _ _)), (5, .c (.int _ _)), (12, .c (.int _ _))]) (h := [(101, ⟨0, 10, [[.int _ _, .int _ _, .int _ _, .int _ _, .int _ _, .int _ _, .int _ _, .int _ _, .int _ _, .row _ _ _]]⟩)]) (h' := [(102, ⟨0, 10, [([0, 0, 0, 0, 0, 0, 0, 0, 0, 0] : List Int).map (V.int .i64)]⟩)]) ⟨⟨_, rfl, closed_arr (fun _ => rfl) _ _ ([0, 0, 0, 0, 0, 0, 0, 0, 0, 0] : List Int)⟩, trivial⟩ rfl rfl rfl ?_
  refine W_block ?_
  refine W2 [0, 2, 4, 5, 12] [101] [102] (l := [(0, .c (.row _ _ _)), (2, .c (.ptr _ _ _ _)), (4, .c (.ptr _ _ _ _)), (5, .c (.int _ _)), (12, .c (.int _ _))]) (h := [(101, ⟨0, 10, [[.int _ _, .int _ _, .int _ _, .int _ _, .int _ _, .int _ _, .int _ _, .int _ _, .int _ _, .row _ _ _]]⟩)]) (h' := [(102, ⟨0, 10, [([0, 0, 0, 0, 0, 0, 0, 0, 0, 0] : List Int).map (V.int .i64)]⟩)]) ⟨⟨_, rfl, closed_arr (fun _ => rfl) _ _ ([0, 0, 0, 0, 0, 0, 0, 0, 0, 0] : List Int)⟩, trivial⟩ rfl rfl rfl ?_
  refine W_loopW (fun n4 S => ∃ (v1 : Int), ∃ (v2 : Int), ∃ (v3 : List Int), S = StL [(0, .c (.row false 1 (a0.map en_u8))), (2, .c (.ptr 101 0 0 0)), (4, .c (.ptr 102 0 0 0)), (5, .c (.int .i64 v1)), (12, .c (.int .i64 v2))] ([(101, ⟨0, 10, [[.int .i64 0, .int .i64 0, .int .i64 0, .int .i64 0, .int .i64 0, .int .i64 0, .int .i64 0, .int .i64 0, .int .i64 0, .row true 1 []]]⟩)] ++ [(102, ⟨0, 10, [v3.map (V.int .i64)]⟩)]) ∧ l_impl_GetOp_4 K a0 n4 v1 v2 v3 = some r) K ⟨_, _, _, rfl, h⟩ ?_
  rintro n4 S ⟨v1, v2, v3, rfl, h⟩
  cases n4 with
  | zero => simp [l_impl_GetOp_4] at h
  | succ n4 =>
    rw [l_impl_GetOp_4] at h
    refine W_seq ?_
    refine W_regV he rfl ?_
    refine vB (sBi rfl rfl rfl rfl) rfl rfl fun b5 hb5 => ?_
    cases b5 with
    | true =>
      replace h := brT hb5 h
      refine ve ?_
      refine W2 [0, 2, 4, 5, 12, 13] [101] [102] (l := [(0, .c (.row _ _ _)), (2, .c (.ptr _ _ _ _)), (4, .c (.ptr _ _ _ _)), (5, .c (.int _ _)), (12, .c (.int _ _)), (13, .c (.bool true))]) (h := [(101, ⟨0, 10, [[.int _ _, .int _ _, .int _ _, .int _ _, .int _ _, .int _ _, .int _ _, .int _ _, .int _ _, .row _ _ _]]⟩)]) (h' := [(102, ⟨0, 10, [v3.map (V.int .i64)]⟩)]) ⟨⟨_, rfl, closed_arr (fun _ => rfl) _ _ v3⟩, trivial⟩ rfl rfl rfl ?_
      refine W_seq ?_
      refine W_true rfl ?_
      refine W_skip ?_
      refine W_seq ?_
      refine W_block ?_
      refine W_seq ?_
      refine W_regV he rfl ?_
      refine v0 (sM rfl [] rfl) rfl ?_
      refine v0 (sA rfl [] rfl) rfl ?_
      refine ve ?_
      refine W2 [0, 2, 4, 5, 6, 12] [101] [102] (l := [(0, .c (.row _ _ _)), (2, .c (.ptr _ _ _ _)), (4, .c (.ptr _ _ _ _)), (5, .c (.int _ _)), (6, .c (.int _ _)), (12, .c (.int _ _))]) (h := [(101, ⟨0, 10, [[.int _ _, .int _ _, .int _ _, .int _ _, .int _ _, .int _ _, .int _ _, .int _ _, .int _ _, .row _ _ _]]⟩)]) (h' := [(102, ⟨0, 10, [v3.map (V.int .i64)]⟩)]) ⟨⟨_, rfl, closed_arr (fun _ => rfl) _ _ v3⟩, trivial⟩ rfl rfl rfl ?_
      refine W_seq ?_
      refine W_regV he rfl ?_
      refine v0 (sM rfl [] rfl) rfl ?_
      refine v0 (sM rfl [] rfl) rfl ?_
      obtain ⟨r6, hr6, h⟩ := bnd2 h
      refine v0 (sCm (w_impl_GetVar K a0 v1 _ hr6) ok_impl_GetVar rfl rfl rfl rfl) rfl ?_
      refine v0 (sM rfl [] rfl) rfl ?_
      refine v0 (sEx rfl rfl rfl) rfl ?_
      refine v0 (sEx rfl rfl rfl) rfl ?_
      refine v0 (sEx rfl rfl rfl) rfl ?_
      refine v0 (sA rfl [] rfl) rfl ?_
      refine v0 (sA rfl [] rfl) rfl ?_
      refine v0 (sA rfl [] rfl) rfl ?_
      refine ve ?_
      refine W2 [0, 2, 4, 6, 7, 8, 9, 12] [101] [102] (l := [(0, .c (.row _ _ _)), (2, .c (.ptr _ _ _ _)), (4, .c (.ptr _ _ _ _)), (6, .c (.int _ _)), (7, .c (.int _ _)), (8, .c (.int _ _)), (9, .c (.bool _)), (12, .c (.int _ _))]) (h := [(101, ⟨0, 10, [[.int _ _, .int _ _, .int _ _, .int _ _, .int _ _, .int _ _, .int _ _, .int _ _, .int _ _, .row _ _ _]]⟩)]) (h' := [(102, ⟨0, 10, [v3.map (V.int .i64)]⟩)]) ⟨⟨_, rfl, closed_arr (fun _ => rfl) _ _ v3⟩, trivial⟩ rfl rfl rfl ?_
      refine W_seq ?_
      refine W_seq ?_
      refine W_regV he rfl ?_
      refine vB (sM rfl [] rfl) rfl rfl fun b7 hb7 => ?_
      cases b7 with
      | true =>
        replace h := brT hb7 h
        refine v0 (sNt rfl rfl) rfl ?_
        refine ve ?_
        refine W2 [0, 2, 4, 6, 7, 8, 12, 23] [101] [102] (l := [(0, .c (.row _ _ _)), (2, .c (.ptr _ _ _ _)), (4, .c (.ptr _ _ _ _)), (6, .c (.int _ _)), (7, .c (.int _ _)), (8, .c (.int _ _)), (12, .c (.int _ _)), (23, .c (.bool false))]) (h := [(101, ⟨0, 10, [[.int _ _, .int _ _, .int _ _, .int _ _, .int _ _, .int _ _, .int _ _, .int _ _, .int _ _, .row _ _ _]]⟩)]) (h' := [(102, ⟨0, 10, [v3.map (V.int .i64)]⟩)]) ⟨⟨_, rfl, closed_arr (fun _ => rfl) _ _ v3⟩, trivial⟩ rfl rfl rfl ?_
        refine W_false rfl ?_
        refine W_skip ?_
        refine W_regV he rfl ?_
        refine v0 (sM rfl [] rfl) rfl ?_
        refine v0 (sM rfl [] rfl) rfl ?_
        refine v0 (sM rfl [] rfl) rfl ?_
        obtain ⟨c8, h⟩ := chk h
        refine v0 (sIA rfl rfl rfl rfl rfl rfl rfl c8) rfl ?_
        obtain ⟨c9, h⟩ := chk h
        refine v0 (sStA rfl rfl (L := v3) (f := (V.int .i64)) [] rfl rfl rfl rfl rfl rfl rfl c9) rfl ?_
        refine v0 (sA rfl [] rfl) rfl ?_
        refine ve ?_
        refine W2 [0, 2, 4, 5, 12] [101] [102] (l := [(0, .c (.row _ _ _)), (2, .c (.ptr _ _ _ _)), (4, .c (.ptr _ _ _ _)), (5, .c (.int _ _)), (12, .c (.int _ _))]) (h := [(101, ⟨0, 10, [[.int _ _, .int _ _, .int _ _, .int _ _, .int _ _, .int _ _, .int _ _, .int _ _, .int _ _, .row _ _ _]]⟩)]) (h' := [(102, ⟨0, 10, [(v3.set v2.toNat r6.1).map (V.int .i64)]⟩)]) ⟨⟨_, rfl, closed_arr (fun _ => rfl) _ _ (v3.set v2.toNat r6.1)⟩, trivial⟩ rfl rfl rfl ?_
        refine W_regV he rfl ?_
        refine v0 (sBi rfl rfl rfl rfl) rfl ?_
        refine v0 (sM rfl [] rfl) rfl ?_
        refine ve ?_
        exact ⟨n4, _, Nat.lt_succ_self n4, wk2 [0, 2, 4, 5, 12] [101] [102] (l := [(0, .c (.row _ _ _)), (2, .c (.ptr _ _ _ _)), (4, .c (.ptr _ _ _ _)), (5, .c (.int _ _)), (12, .c (.int _ _))]) (h := [(101, ⟨0, 10, [[.int _ _, .int _ _, .int _ _, .int _ _, .int _ _, .int _ _, .int _ _, .int _ _, .int _ _, .row _ _ _]]⟩)]) (h' := [(102, ⟨0, 10, [(v3.set v2.toNat r6.1).map (V.int .i64)]⟩)]) ⟨⟨_, rfl, closed_arr (fun _ => rfl) _ _ (v3.set v2.toNat r6.1)⟩, trivial⟩ rfl rfl rfl, _, _, _, rfl, h⟩
      | false =>
        replace h := brF hb7 h
        refine v0 (sNt rfl rfl) rfl ?_
        refine ve ?_
        refine W2 [0, 2, 4, 6, 7, 8, 12, 23] [101] [102] (l := [(0, .c (.row _ _ _)), (2, .c (.ptr _ _ _ _)), (4, .c (.ptr _ _ _ _)), (6, .c (.int _ _)), (7, .c (.int _ _)), (8, .c (.int _ _)), (12, .c (.int _ _)), (23, .c (.bool true))]) (h := [(101, ⟨0, 10, [[.int _ _, .int _ _, .int _ _, .int _ _, .int _ _, .int _ _, .int _ _, .int _ _, .int _ _, .row _ _ _]]⟩)]) (h' := [(102, ⟨0, 10, [v3.map (V.int .i64)]⟩)]) ⟨⟨_, rfl, closed_arr (fun _ => rfl) _ _ v3⟩, trivial⟩ rfl rfl rfl ?_
        refine W_true rfl ?_
        refine W_seq ?_
        refine W_regV he rfl ?_
        refine v0 (sBd rfl [] (out := [.int .i64 0, .int .i64 0, .int .i64 0, .int .i64 0, .int .i64 0, .int .i64 0, .int .i64 0, .int .i64 0, .int .i64 0, .row true 1 []]) rfl (by kernel_rfl)) rfl ?_
        refine vOwnNilG he 24 9 1803 rfl rfl rfl ?_
        refine v0 (sSt rfl rfl [] rfl rfl) rfl ?_
        refine v0 (sA rfl [] rfl) rfl ?_
        refine ve ?_
        refine W2 [2, 3] [101] [1803] (l := [(2, .c (.ptr _ _ _ _)), (3, .c (.bool false))]) (h := [(101, ⟨0, 10, [[.int _ _, .int _ _, .int _ _, .int _ _, .int _ _, .int _ _, .int _ _, .int _ _, .int _ _, .own _ _ _ _]]⟩)]) (h' := [(1803, ⟨0, 1, [].map en_u8⟩)]) ⟨⟨_, rfl, enOk_u8.allClosed _ _ []⟩, trivial⟩ rfl rfl rfl ?_
        obtain rfl := Option.some.inj h
        exact W_ret (retOne 0 1803 (.inl rfl) enOk_u8 rfl rfl rfl)
    | false =>
      replace h := brF hb5 h
      refine ve ?_
      refine W2 [0, 2, 4, 5, 12, 13] [101] [102] (l := [(0, .c (.row _ _ _)), (2, .c (.ptr _ _ _ _)), (4, .c (.ptr _ _ _ _)), (5, .c (.int _ _)), (12, .c (.int _ _)), (13, .c (.bool false))]) (h := [(101, ⟨0, 10, [[.int _ _, .int _ _, .int _ _, .int _ _, .int _ _, .int _ _, .int _ _, .int _ _, .int _ _, .row _ _ _]]⟩)]) (h' := [(102, ⟨0, 10, [v3.map (V.int .i64)]⟩)]) ⟨⟨_, rfl, closed_arr (fun _ => rfl) _ _ v3⟩, trivial⟩ rfl rfl rfl ?_
      refine W_seq ?_
      refine W_false rfl ?_
      refine W_exit (ex_then (ex_then (ex_hit ?_)))
      refine W_seq ?_
      refine W_regD he rfl rfl rfl ?_
      obtain ⟨c10, h⟩ := chk h
      refine g0 (sIA rfl rfl rfl rfl rfl rfl rfl c10) rfl ?_
      obtain ⟨c11, h⟩ := chk h
      refine g0 (sLdA rfl (L := v3) (f := (V.int .i64)) rfl rfl rfl rfl rfl (fun _ => rfl) c11) rfl ?_
      obtain ⟨c12, h⟩ := chk h
      refine g0 (sIA rfl rfl rfl rfl rfl rfl rfl c12) rfl ?_
      obtain ⟨c13, h⟩ := chk h
      refine g0 (sLdA rfl (L := v3) (f := (V.int .i64)) rfl rfl rfl rfl rfl (fun _ => rfl) c13) rfl ?_
      obtain ⟨c14, h⟩ := chk h
      refine g0 (sIA rfl rfl rfl rfl rfl rfl rfl c14) rfl ?_
      obtain ⟨c15, h⟩ := chk h
      refine g0 (sLdA rfl (L := v3) (f := (V.int .i64)) rfl rfl rfl rfl rfl (fun _ => rfl) c15) rfl ?_
      refine g0 (sBd rfl [[], []] (out := [.int .i64 (gt v3 1), .int .i64 (gt v3 2)]) rfl (by kernel_rfl)) rfl ?_
      obtain ⟨c16, h⟩ := chk h
      refine g0 (sIA rfl rfl rfl rfl rfl rfl rfl c16) rfl ?_
      obtain ⟨c17, h⟩ := chk h
      refine g0 (sLdA rfl (L := v3) (f := (V.int .i64)) rfl rfl rfl rfl rfl (fun _ => rfl) c17) rfl ?_
      obtain ⟨c18, h⟩ := chk h
      refine g0 (sIA rfl rfl rfl rfl rfl rfl rfl c18) rfl ?_
      obtain ⟨c19, h⟩ := chk h
      refine g0 (sLdA rfl (L := v3) (f := (V.int .i64)) rfl rfl rfl rfl rfl (fun _ => rfl) c19) rfl ?_
      refine g0 (sBd rfl [[], []] (out := [.int .i64 (gt v3 3), .int .i64 (gt v3 4)]) rfl (by kernel_rfl)) rfl ?_
      obtain ⟨c20, h⟩ := chk h
      refine g0 (sIA rfl rfl rfl rfl rfl rfl rfl c20) rfl ?_
      obtain ⟨c21, h⟩ := chk h
      refine g0 (sLdA rfl (L := v3) (f := (V.int .i64)) rfl rfl rfl rfl rfl (fun _ => rfl) c21) rfl ?_
      obtain ⟨c22, h⟩ := chk h
      refine g0 (sIA rfl rfl rfl rfl rfl rfl rfl c22) rfl ?_
      obtain ⟨c23, h⟩ := chk h
      refine g0 (sLdA rfl (L := v3) (f := (V.int .i64)) rfl rfl rfl rfl rfl (fun _ => rfl) c23) rfl ?_
      refine g0 (sBd rfl [[], [], []] (out := [.int .i64 (gt v3 3), .int .i64 (gt v3 4), .int .i64 (gt v3 5), .int .i64 (gt v3 6)]) rfl (by kernel_rfl)) rfl ?_
      obtain ⟨c24, h⟩ := chk h
      refine g0 (sIA rfl rfl rfl rfl rfl rfl rfl c24) rfl ?_
      obtain ⟨c25, h⟩ := chk h
      refine g0 (sLdA rfl (L := v3) (f := (V.int .i64)) rfl rfl rfl rfl rfl (fun _ => rfl) c25) rfl ?_
      obtain ⟨c26, h⟩ := chk h
      refine g0 (sIA rfl rfl rfl rfl rfl rfl rfl c26) rfl ?_
      obtain ⟨c27, h⟩ := chk h
      refine g0 (sLdA rfl (L := v3) (f := (V.int .i64)) rfl rfl rfl rfl rfl (fun _ => rfl) c27) rfl ?_
      refine g0 (sM rfl [] rfl) rfl ?_
      refine g0 (sM rfl [] rfl) rfl ?_
      obtain ⟨c28, h⟩ := chk h
      refine g0 (sSlM rfl rfl rfl rfl rfl c28) rfl ?_
      obtain ⟨r29, hr29, h⟩ := bnd2 h
      refine g0 (sCo (wo_slices_Clone_byte_byte K ((a0.drop v1.toNat).take ((a0.length : Int) - v1).toNat) _ hr29) ok_slices_Clone_byte_byte (fun _ => rfl) [] 1054 rfl rfl rfl rfl rfl) rfl ?_
      refine g0 (sBd rfl [[], [], [], [], [], []] (out := [.int .i64 (gt v3 0), .int .i64 (gt v3 1), .int .i64 (gt v3 2), .int .i64 (gt v3 3), .int .i64 (gt v3 4), .int .i64 (gt v3 5), .int .i64 (gt v3 6), .int .i64 (gt v3 7), .int .i64 (gt v3 8), .own 1054 1 0 r29.length]) rfl (by kernel_rfl)) rfl ?_
      refine g0 (sAl rfl rfl 104 rfl) rfl ?_
      refine g0 (sSt rfl rfl [] rfl rfl) rfl ?_
      refine ge ⟨rfl, ?_⟩
      refine W2 [0, 2, 10] [101, 104] [1054] (l := [(0, .c (.row _ _ _)), (2, .c (.ptr _ _ _ _)), (10, .c (.ptr _ _ _ _))]) (h := [(101, ⟨0, 10, [[.int _ _, .int _ _, .int _ _, .int _ _, .int _ _, .int _ _, .int _ _, .int _ _, .int _ _, .row _ _ _]]⟩), (104, ⟨0, 10, [[.int _ _, .int _ _, .int _ _, .int _ _, .int _ _, .int _ _, .int _ _, .int _ _, .int _ _, .own _ _ _ _]]⟩)]) (h' := [(1054, ⟨0, 1, r29.map en_u8⟩)]) ⟨⟨_, rfl, enOk_u8.allClosed _ _ r29⟩, trivial⟩ rfl rfl rfl ?_
      refine W_seq ?_
      refine W_seq ?_
      refine W_regV he rfl ?_
      refine v0 (sLd rfl rfl) rfl ?_
      obtain ⟨r30, hr30, h⟩ := bnd2 h
      refine vB (sCle (w_impl_OpOk K (T_impl_Op.mk (gt v3 0) (T_impl_Handle.mk (gt v3 1) (gt v3 2)) (T_impl_Ref.mk (T_impl_Handle.mk (gt v3 3) (gt v3 4)) (gt v3 5) (gt v3 6)) (gt v3 7) (gt v3 8) r29) _ hr30) ok_impl_OpOk [1054] rfl rfl (low_cons (low_g (lowc_cons rfl (lowc_cons rfl (lowc_cons rfl (lowc_cons rfl (lowc_cons rfl (lowc_cons rfl (lowc_cons rfl (lowc_cons rfl (lowc_cons rfl (lowc_cons (low_lentV (l := r29) enOk_u8 rfl rfl rfl) (lowc_nil)))))))))))) (low_nil)) rfl) rfl rfl fun b31 hb31 => ?_
      cases b31 with
      | true =>
        replace h := brT hb31 h
        refine v0 (sNt rfl rfl) rfl ?_
        refine v0 (sM rfl [] rfl) rfl ?_
        refine u0 (sLd rfl rfl) rfl rfl rfl ?_
        obtain ⟨r32, hr32, h⟩ := bnd2 h
        refine u0 (sCo (wo_impl_PutOp K (T_impl_Op.mk (gt v3 0) (T_impl_Handle.mk (gt v3 1) (gt v3 2)) (T_impl_Ref.mk (T_impl_Handle.mk (gt v3 3) (gt v3 4)) (gt v3 5) (gt v3 6)) (gt v3 7) (gt v3 8) r29) _ hr32) ok_impl_PutOp (fun _ => rfl) [1054] 1061 rfl rfl rfl (low_cons (low_g (lowc_cons rfl (lowc_cons rfl (lowc_cons rfl (lowc_cons rfl (lowc_cons rfl (lowc_cons rfl (lowc_cons rfl (lowc_cons rfl (lowc_cons rfl (lowc_cons (low_lentV (l := r29) enOk_u8 rfl rfl rfl) (lowc_nil)))))))))))) (low_nil)) rfl) rfl rfl rfl ?_
        refine u0 (sM rfl [] rfl) rfl rfl rfl ?_
        obtain ⟨r33, hr33, h⟩ := bnd2 h
        refine uB (sCle (w_bytes_Equal K r32 a0 _ hr33) ok_bytes_Equal [1061] rfl rfl (low_cons (low_lent (l := r32) enOk_u8 rfl rfl rfl) (low_cons (rfl) (low_nil))) rfl) rfl rfl rfl rfl fun b34 hb34 => ?_
        cases b34 with
        | true =>
          replace h := brT hb34 h
          refine u0 (sNt rfl rfl) rfl rfl rfl ?_
          refine v0 (sPk rfl [] rfl rfl) rfl ?_
          refine ve ?_
          refine W2 [2, 10, 65] [101, 104] [1054] (l := [(2, .c (.ptr _ _ _ _)), (10, .c (.ptr _ _ _ _)), (65, .c (.bool false))]) (h := [(101, ⟨0, 10, [[.int _ _, .int _ _, .int _ _, .int _ _, .int _ _, .int _ _, .int _ _, .int _ _, .int _ _, .row _ _ _]]⟩), (104, ⟨0, 10, [[.int _ _, .int _ _, .int _ _, .int _ _, .int _ _, .int _ _, .int _ _, .int _ _, .int _ _, .own _ _ _ _]]⟩)]) (h' := [(1054, ⟨0, 1, r29.map en_u8⟩)]) ⟨⟨_, rfl, enOk_u8.allClosed _ _ r29⟩, trivial⟩ rfl rfl rfl ?_
          refine W_false rfl ?_
          refine W_skip ?_
          refine W_seq ?_
          refine W_regV he rfl ?_
          refine v0 (sLd rfl rfl) rfl ?_
          refine v0 (sSt rfl rfl [] rfl rfl) rfl ?_
          refine v0 (sA rfl [] rfl) rfl ?_
          refine ve ?_
          refine W2 [2, 3] [101] [1054] (l := [(2, .c (.ptr _ _ _ _)), (3, .c (.bool true))]) (h := [(101, ⟨0, 10, [[.int _ _, .int _ _, .int _ _, .int _ _, .int _ _, .int _ _, .int _ _, .int _ _, .int _ _, .own _ _ _ _]]⟩)]) (h' := [(1054, ⟨0, 1, r29.map en_u8⟩)]) ⟨⟨_, rfl, enOk_u8.allClosed _ _ r29⟩, trivial⟩ rfl rfl rfl ?_
          obtain rfl := Option.some.inj h
          exact W_ret (retOne 0 1054 (.inl rfl) enOk_u8 rfl rfl rfl)
        | false =>
          replace h := brF hb34 h
          refine u0 (sNt rfl rfl) rfl rfl rfl ?_
          refine v0 (sPk rfl [] rfl rfl) rfl ?_
          refine ve ?_
          refine W2 [2, 10, 65] [101, 104] [1054] (l := [(2, .c (.ptr _ _ _ _)), (10, .c (.ptr _ _ _ _)), (65, .c (.bool true))]) (h := [(101, ⟨0, 10, [[.int _ _, .int _ _, .int _ _, .int _ _, .int _ _, .int _ _, .int _ _, .int _ _, .int _ _, .row _ _ _]]⟩), (104, ⟨0, 10, [[.int _ _, .int _ _, .int _ _, .int _ _, .int _ _, .int _ _, .int _ _, .int _ _, .int _ _, .own _ _ _ _]]⟩)]) (h' := [(1054, ⟨0, 1, r29.map en_u8⟩)]) ⟨⟨_, rfl, enOk_u8.allClosed _ _ r29⟩, trivial⟩ rfl rfl rfl ?_
          refine W_true rfl ?_
          refine W_seq ?_
          refine W_regV he rfl ?_
          refine v0 (sBd rfl [] (out := [.int .i64 0, .int .i64 0, .int .i64 0, .int .i64 0, .int .i64 0, .int .i64 0, .int .i64 0, .int .i64 0, .int .i64 0, .row true 1 []]) rfl (by kernel_rfl)) rfl ?_
          refine vOwnNilG he 66 9 1805 rfl rfl rfl ?_
          refine v0 (sSt rfl rfl [] rfl rfl) rfl ?_
          refine v0 (sA rfl [] rfl) rfl ?_
          refine ve ?_
          refine W2 [2, 3] [101] [1805] (l := [(2, .c (.ptr _ _ _ _)), (3, .c (.bool false))]) (h := [(101, ⟨0, 10, [[.int _ _, .int _ _, .int _ _, .int _ _, .int _ _, .int _ _, .int _ _, .int _ _, .int _ _, .own _ _ _ _]]⟩)]) (h' := [(1805, ⟨0, 1, [].map en_u8⟩)]) ⟨⟨_, rfl, enOk_u8.allClosed _ _ []⟩, trivial⟩ rfl rfl rfl ?_
          obtain rfl := Option.some.inj h
          exact W_ret (retOne 0 1805 (.inl rfl) enOk_u8 rfl rfl rfl)
      | false =>
        replace h := brF hb31 h
        refine v0 (sNt rfl rfl) rfl ?_
        refine v0 (sM rfl [] rfl) rfl ?_
        refine uP rfl rfl rfl rfl ?_
        refine uP rfl rfl rfl rfl ?_
        refine uP rfl rfl rfl rfl ?_
        refine uP rfl rfl rfl rfl ?_
        refine uP rfl rfl rfl rfl ?_
        refine v0 (sPk rfl [] rfl rfl) rfl ?_
        refine ve ?_
        refine W2 [2, 10, 65] [101, 104] [1054] (l := [(2, .c (.ptr _ _ _ _)), (10, .c (.ptr _ _ _ _)), (65, .c (.bool true))]) (h := [(101, ⟨0, 10, [[.int _ _, .int _ _, .int _ _, .int _ _, .int _ _, .int _ _, .int _ _, .int _ _, .int _ _, .row _ _ _]]⟩), (104, ⟨0, 10, [[.int _ _, .int _ _, .int _ _, .int _ _, .int _ _, .int _ _, .int _ _, .int _ _, .int _ _, .own _ _ _ _]]⟩)]) (h' := [(1054, ⟨0, 1, r29.map en_u8⟩)]) ⟨⟨_, rfl, enOk_u8.allClosed _ _ r29⟩, trivial⟩ rfl rfl rfl ?_
        refine W_true rfl ?_
        refine W_seq ?_
        refine W_regV he rfl ?_
        refine v0 (sBd rfl [] (out := [.int .i64 0, .int .i64 0, .int .i64 0, .int .i64 0, .int .i64 0, .int .i64 0, .int .i64 0, .int .i64 0, .int .i64 0, .row true 1 []]) rfl (by kernel_rfl)) rfl ?_
        refine vOwnNilG he 66 9 1806 rfl rfl rfl ?_
        refine v0 (sSt rfl rfl [] rfl rfl) rfl ?_
        refine v0 (sA rfl [] rfl) rfl ?_
        refine ve ?_
        refine W2 [2, 3] [101] [1806] (l := [(2, .c (.ptr _ _ _ _)), (3, .c (.bool false))]) (h := [(101, ⟨0, 10, [[.int _ _, .int _ _, .int _ _, .int _ _, .int _ _, .int _ _, .int _ _, .int _ _, .int _ _, .own _ _ _ _]]⟩)]) (h' := [(1806, ⟨0, 1, [].map en_u8⟩)]) ⟨⟨_, rfl, enOk_u8.allClosed _ _ []⟩, trivial⟩ rfl rfl rfl ?_
        obtain rfl := Option.some.inj h
        exact W_ret (retOne 0 1806 (.inl rfl) enOk_u8 rfl rfl rfl)


/-! ### loop.example/g00499/laws.eqHandle -/
def m_laws_eqHandle (K : Nat) (a0 : T_impl_Handle) (a1 : T_impl_Handle) : Option (Bool) := (bif (a0.fSlot != a1.fSlot) then some false else (bif (a0.fGen != a1.fGen) then some false else some true))
set_option maxRecDepth 20000 in
set_option maxHeartbeats 8000000 in
theorem w_laws_eqHandle (K : Nat) (a0 : T_impl_Handle) (a1 : T_impl_Handle) (r : Bool) (h : m_laws_eqHandle K a0 a1 = some r) : Sp Try.prog 62 [.g [.int .i64 a0.fSlot, .int .i64 a0.fGen], .g [.int .i64 a1.fSlot, .int .i64 a1.fGen]] [] (.c (.bool r)) [] := by
  refine Sp.of_W tabOk Try.func62 rfl rfl (Nat.le_of_ble_eq_true rfl) (Nat.le_of_ble_eq_true rfl) fun F hP hN hm => ?_
  obtain ⟨P, N, w0, σ0, β0, m⟩ := F
  obtain rfl : P = Try.prog := hP
  obtain rfl : N = 15 := hN
  obtain rfl : m = 1 := hm
  have he : Env ⟨Try.prog, 15, w0, σ0, β0, 1⟩ tab := ⟨Nat.le_of_ble_eq_true rfl, tabOk⟩
  unfold m_laws_eqHandle at h
  refine W_seq ?_
  refine W_regV he rfl ?_
  refine v0 (sBx rfl [] rfl rfl 101 rfl) rfl ?_
  refine v0 (sBx rfl [] rfl rfl 102 rfl) rfl ?_
  refine v0 (sA rfl [] rfl) rfl ?_
  refine ve ?_
  refine W2 [2, 3] [101, 102] [] (l := [(2, .c (.ptr _ _ _ _)), (3, .c (.ptr _ _ _ _))]) (h := [(101, ⟨0, 2, [[.int _ _, .int _ _]]⟩), (102, ⟨0, 2, [[.int _ _, .int _ _]]⟩)]) (h' := []) trivial rfl rfl rfl ?_
  refine W_seq ?_
  refine W_seq ?_
  refine W_regV he rfl ?_
  refine v0 (sFP rfl rfl rfl) rfl ?_
  refine v0 (sLd rfl rfl) rfl ?_
  refine v0 (sFP rfl rfl rfl) rfl ?_
  refine v0 (sLd rfl rfl) rfl ?_
  refine vB (sBi rfl rfl rfl rfl) rfl rfl fun b1 hb1 => ?_
  cases b1 with
  | true =>
    replace h := brT hb1 h
    refine ve ?_
    refine W2 [2, 3, 9] [101, 102] [] (l := [(2, .c (.ptr _ _ _ _)), (3, .c (.ptr _ _ _ _)), (9, .c (.bool true))]) (h := [(101, ⟨0, 2, [[.int _ _, .int _ _]]⟩), (102, ⟨0, 2, [[.int _ _, .int _ _]]⟩)]) (h' := []) trivial rfl rfl rfl ?_
    refine W_true rfl ?_
    refine W_seq ?_
    refine W_regV he rfl ?_
    refine v0 (sA rfl [] rfl) rfl ?_
    refine ve ?_
    refine W2 [4] [] [] (l := [(4, .c (.bool false))]) (h := []) (h' := []) trivial rfl rfl rfl ?_
    obtain rfl := Option.some.inj h
    exact W_ret (r0 rfl rfl)
  | false =>
    replace h := brF hb1 h
    refine ve ?_
    refine W2 [2, 3, 9] [101, 102] [] (l := [(2, .c (.ptr _ _ _ _)), (3, .c (.ptr _ _ _ _)), (9, .c (.bool false))]) (h := [(101, ⟨0, 2, [[.int _ _, .int _ _]]⟩), (102, ⟨0, 2, [[.int _ _, .int _ _]]⟩)]) (h' := []) trivial rfl rfl rfl ?_
    refine W_false rfl ?_
    refine W_skip ?_
    refine W_seq ?_
    refine W_seq ?_
    refine W_regV he rfl ?_
    refine v0 (sFP rfl rfl rfl) rfl ?_
    refine v0 (sLd rfl rfl) rfl ?_
    refine v0 (sFP rfl rfl rfl) rfl ?_
    refine v0 (sLd rfl rfl) rfl ?_
    refine vB (sBi rfl rfl rfl rfl) rfl rfl fun b2 hb2 => ?_
    cases b2 with
    | true =>
      replace h := brT hb2 h
      refine ve ?_
      refine W2 [14] [] [] (l := [(14, .c (.bool true))]) (h := []) (h' := []) trivial rfl rfl rfl ?_
      refine W_true rfl ?_
      refine W_seq ?_
      refine W_regV he rfl ?_
      refine v0 (sA rfl [] rfl) rfl ?_
      refine ve ?_
      refine W2 [4] [] [] (l := [(4, .c (.bool false))]) (h := []) (h' := []) trivial rfl rfl rfl ?_
      obtain rfl := Option.some.inj h
      exact W_ret (r0 rfl rfl)
    | false =>
      replace h := brF hb2 h
      refine ve ?_
      refine W2 [14] [] [] (l := [(14, .c (.bool false))]) (h := []) (h' := []) trivial rfl rfl rfl ?_
      refine W_false rfl ?_
      refine W_skip ?_
      refine W_seq ?_
      refine W_regV he rfl ?_
      refine v0 (sA rfl [] rfl) rfl ?_
      refine ve ?_
      refine W2 [4] [] [] (l := [(4, .c (.bool true))]) (h := []) (h' := []) trivial rfl rfl rfl ?_
      obtain rfl := Option.some.inj h
      exact W_ret (r0 rfl rfl)
theorem ok_laws_eqHandle : FnOk Try.prog 62 := ⟨_, Try.func62, rfl, rfl⟩


/-! ### loop.example/g00499/laws.eqRef -/
def m_laws_eqRef (K : Nat) (a0 : T_impl_Ref) (a1 : T_impl_Ref) : Option (Bool) := ((m_laws_eqHandle K a0.fH a1.fH).bind fun r1 => (bif r1 then (bif (a0.fEp != a1.fEp) then some false else (bif (a0.fNo != a1.fNo) then some false else some true)) else some false))
set_option maxRecDepth 20000 in
set_option maxHeartbeats 8000000 in
theorem w_laws_eqRef (K : Nat) (a0 : T_impl_Ref) (a1 : T_impl_Ref) (r : Bool) (h : m_laws_eqRef K a0 a1 = some r) : Sp Try.prog 63 [.g [.int .i64 a0.fH.fSlot, .int .i64 a0.fH.fGen, .int .i64 a0.fEp, .int .i64 a0.fNo], .g [.int .i64 a1.fH.fSlot, .int .i64 a1.fH.fGen, .int .i64 a1.fEp, .int .i64 a1.fNo]] [] (.c (.bool r)) [] := by
  refine Sp.of_W tabOk Try.func63 rfl rfl (Nat.le_of_ble_eq_true rfl) (Nat.le_of_ble_eq_true rfl) fun F hP hN hm => ?_
  obtain ⟨P, N, w0, σ0, β0, m⟩ := F
  obtain rfl : P = Try.prog := hP
  obtain rfl : N = 21 := hN
  obtain rfl : m = 1 := hm
  have he : Env ⟨Try.prog, 21, w0, σ0, β0, 1⟩ tab := ⟨Nat.le_of_ble_eq_true rfl, tabOk⟩
  unfold m_laws_eqRef at h
  refine W_seq ?_
  refine W_regV he rfl ?_
  refine v0 (sBx rfl [] rfl rfl 101 rfl) rfl ?_
  refine v0 (sBx rfl [] rfl rfl 102 rfl) rfl ?_
  refine v0 (sA rfl [] rfl) rfl ?_
  refine ve ?_
  refine W2 [2, 3] [101, 102] [] (l := [(2, .c (.ptr _ _ _ _)), (3, .c (.ptr _ _ _ _))]) (h := [(101, ⟨0, 4, [[.int _ _, .int _ _, .int _ _, .int _ _]]⟩), (102, ⟨0, 4, [[.int _ _, .int _ _, .int _ _, .int _ _]]⟩)]) (h' := []) trivial rfl rfl rfl ?_
  refine W_seq ?_
  refine W_seq ?_
  refine W_regV he rfl ?_
  refine v0 (sFP rfl rfl rfl) rfl ?_
  refine v0 (sLd rfl rfl) rfl ?_
  refine v0 (sFP rfl rfl rfl) rfl ?_
  refine v0 (sLd rfl rfl) rfl ?_
  obtain ⟨r1, hr1, h⟩ := bnd2 h
  refine vB (sCm (w_laws_eqHandle K a0.fH a1.fH _ hr1) ok_laws_eqHandle rfl rfl rfl rfl) rfl rfl fun b2 hb2 => ?_
  cases b2 with
  | true =>
    replace h := brT hb2 h
    refine v0 (sNt rfl rfl) rfl ?_
    refine ve ?_
    refine W2 [2, 3, 10] [101, 102] [] (l := [(2, .c (.ptr _ _ _ _)), (3, .c (.ptr _ _ _ _)), (10, .c (.bool false))]) (h := [(101, ⟨0, 4, [[.int _ _, .int _ _, .int _ _, .int _ _]]⟩), (102, ⟨0, 4, [[.int _ _, .int _ _, .int _ _, .int _ _]]⟩)]) (h' := []) trivial rfl rfl rfl ?_
    refine W_false rfl ?_
    refine W_skip ?_
    refine W_seq ?_
    refine W_seq ?_
    refine W_regV he rfl ?_
    refine v0 (sFP rfl rfl rfl) rfl ?_
    refine v0 (sLd rfl rfl) rfl ?_
    refine v0 (sFP rfl rfl rfl) rfl ?_
    refine v0 (sLd rfl rfl) rfl ?_
    refine vB (sBi rfl rfl rfl rfl) rfl rfl fun b3 hb3 => ?_
    cases b3 with
    | true =>
      replace h := brT hb3 h
      refine ve ?_
      refine W2 [2, 3, 15] [101, 102] [] (l := [(2, .c (.ptr _ _ _ _)), (3, .c (.ptr _ _ _ _)), (15, .c (.bool true))]) (h := [(101, ⟨0, 4, [[.int _ _, .int _ _, .int _ _, .int _ _]]⟩), (102, ⟨0, 4, [[.int _ _, .int _ _, .int _ _, .int _ _]]⟩)]) (h' := []) trivial rfl rfl rfl ?_
      refine W_true rfl ?_
      refine W_seq ?_
      refine W_regV he rfl ?_
      refine v0 (sA rfl [] rfl) rfl ?_
      refine ve ?_
      refine W2 [4] [] [] (l := [(4, .c (.bool false))]) (h := []) (h' := []) trivial rfl rfl rfl ?_
      obtain rfl := Option.some.inj h
      exact W_ret (r0 rfl rfl)
    | false =>
      replace h := brF hb3 h
      refine ve ?_
      refine W2 [2, 3, 15] [101, 102] [] (l := [(2, .c (.ptr _ _ _ _)), (3, .c (.ptr _ _ _ _)), (15, .c (.bool false))]) (h := [(101, ⟨0, 4, [[.int _ _, .int _ _, .int _ _, .int _ _]]⟩), (102, ⟨0, 4, [[.int _ _, .int _ _, .int _ _, .int _ _]]⟩)]) (h' := []) trivial rfl rfl rfl ?_
      refine W_false rfl ?_
      refine W_skip ?_
      refine W_seq ?_
      refine W_seq ?_
      refine W_regV he rfl ?_
      refine v0 (sFP rfl rfl rfl) rfl ?_
      refine v0 (sLd rfl rfl) rfl ?_
      refine v0 (sFP rfl rfl rfl) rfl ?_
      refine v0 (sLd rfl rfl) rfl ?_
      refine vB (sBi rfl rfl rfl rfl) rfl rfl fun b4 hb4 => ?_
      cases b4 with
      | true =>
        replace h := brT hb4 h
        refine ve ?_
        refine W2 [20] [] [] (l := [(20, .c (.bool true))]) (h := []) (h' := []) trivial rfl rfl rfl ?_
        refine W_true rfl ?_
        refine W_seq ?_
        refine W_regV he rfl ?_
        refine v0 (sA rfl [] rfl) rfl ?_
        refine ve ?_
        refine W2 [4] [] [] (l := [(4, .c (.bool false))]) (h := []) (h' := []) trivial rfl rfl rfl ?_
        obtain rfl := Option.some.inj h
        exact W_ret (r0 rfl rfl)
      | false =>
        replace h := brF hb4 h
        refine ve ?_
        refine W2 [20] [] [] (l := [(20, .c (.bool false))]) (h := []) (h' := []) trivial rfl rfl rfl ?_
        refine W_false rfl ?_
        refine W_skip ?_
        refine W_seq ?_
        refine W_regV he rfl ?_
        refine v0 (sA rfl [] rfl) rfl ?_
        refine ve ?_
        refine W2 [4] [] [] (l := [(4, .c (.bool true))]) (h := []) (h' := []) trivial rfl rfl rfl ?_
        obtain rfl := Option.some.inj h
        exact W_ret (r0 rfl rfl)
  | false =>
    replace h := brF hb2 h
    refine v0 (sNt rfl rfl) rfl ?_
    refine ve ?_
    refine W2 [2, 3, 10] [101, 102] [] (l := [(2, .c (.ptr _ _ _ _)), (3, .c (.ptr _ _ _ _)), (10, .c (.bool true))]) (h := [(101, ⟨0, 4, [[.int _ _, .int _ _, .int _ _, .int _ _]]⟩), (102, ⟨0, 4, [[.int _ _, .int _ _, .int _ _, .int _ _]]⟩)]) (h' := []) trivial rfl rfl rfl ?_
    refine W_true rfl ?_
    refine W_seq ?_
    refine W_regV he rfl ?_
    refine v0 (sA rfl [] rfl) rfl ?_
    refine ve ?_
    refine W2 [4] [] [] (l := [(4, .c (.bool false))]) (h := []) (h' := []) trivial rfl rfl rfl ?_
    obtain rfl := Option.some.inj h
    exact W_ret (r0 rfl rfl)
theorem ok_laws_eqRef : FnOk Try.prog 63 := ⟨_, Try.func63, rfl, rfl⟩


/-! ### loop.example/g00499/laws.eqByteS -/
def l_laws_eqByteS_3 (K : Nat) (a0 : List Int) (a1 : List Int) : Nat → Int → Option (Bool)
  | 0, _ => none
  | n3 + 1, v2 => (bif (decide (v2 < (a0.length : Int))) then (if (0 : Int) ≤ v2 ∧ v2 < (a0.length : Int) then (if (0 : Int) ≤ v2 ∧ v2 < (a1.length : Int) then (bif ((gt a0 v2) != (gt a1 v2)) then some false else (l_laws_eqByteS_3 K a0 a1 n3 (iAdd .i64 v2 1))) else none) else none) else some true)
def m_laws_eqByteS (K : Nat) (a0 : List Int) (a1 : List Int) : Option (Bool) := (bif ((a0.length : Int) != (a1.length : Int)) then some false else (l_laws_eqByteS_3 K a0 a1 K 0))
set_option maxRecDepth 20000 in
set_option maxHeartbeats 8000000 in
theorem w_laws_eqByteS (K : Nat) (a0 : List Int) (a1 : List Int) (r : Bool) (h : m_laws_eqByteS K a0 a1 = some r) : Sp Try.prog 23 [.c (.row false 1 (a0.map en_u8)), .c (.row false 1 (a1.map en_u8))] [] (.c (.bool r)) [] := by
  refine Sp.of_W tabOk Try.func23 rfl rfl (Nat.le_of_ble_eq_true rfl) (Nat.le_of_ble_eq_true rfl) fun F hP hN hm => ?_
  obtain ⟨P, N, w0, σ0, β0, m⟩ := F
  obtain rfl : P = Try.prog := hP
  obtain rfl : N = 26 := hN
  obtain rfl : m = 1 := hm
  have he : Env ⟨Try.prog, 26, w0, σ0, β0, 1⟩ tab := ⟨Nat.le_of_ble_eq_true rfl, tabOk⟩
  unfold m_laws_eqByteS at h
  refine W_seq ?_
  refine W_regV he rfl ?_
  refine v0 (sA rfl [] rfl) rfl ?_
  refine ve ?_
  refine W2 [0, 1] [] [] (l := [(0, .c (.row _ _ _)), (1, .c (.row _ _ _))]) (h := []) (h' := []) trivial rfl rfl rfl ?_
  refine W_seq ?_
  refine W_seq ?_
  refine W_regV he rfl ?_
  refine v0 (sM rfl [] rfl) rfl ?_
  refine v0 (sLm rfl rfl rfl rfl) rfl ?_
  refine v0 (sM rfl [] rfl) rfl ?_
  refine v0 (sLm rfl rfl rfl rfl) rfl ?_
  refine vB (sBi rfl rfl rfl rfl) rfl rfl fun b1 hb1 => ?_
  cases b1 with
  | true =>
    replace h := brT hb1 h
    refine ve ?_
    refine W2 [0, 1, 10] [] [] (l := [(0, .c (.row _ _ _)), (1, .c (.row _ _ _)), (10, .c (.bool true))]) (h := []) (h' := []) trivial rfl rfl rfl ?_
    refine W_true rfl ?_
    refine W_seq ?_
    refine W_regV he rfl ?_
    refine v0 (sA rfl [] rfl) rfl ?_
    refine ve ?_
    refine W2 [4] [] [] (l := [(4, .c (.bool false))]) (h := []) (h' := []) trivial rfl rfl rfl ?_
    obtain rfl := Option.some.inj h
    exact W_ret (r0 rfl rfl)
  | false =>
    replace h := brF hb1 h
    refine ve ?_
    refine W2 [0, 1, 10] [] [] (l := [(0, .c (.row _ _ _)), (1, .c (.row _ _ _)), (10, .c (.bool false))]) (h := []) (h' := []) trivial rfl rfl rfl ?_
    refine W_false rfl ?_
    refine W_skip ?_
    refine W_seq ?_
    refine W_seq ?_
    refine W_regV he rfl ?_
    refine v0 (sA rfl [] rfl) rfl ?_
    refine ve ?_
    refine W2 [0, 1, 5] [] [] (l := [(0, .c (.row _ _ _)), (1, .c (.row _ _ _)), (5, .c (.int _ _))]) (h := []) (h' := []) trivial rfl rfl rfl ?_
    refine W_block ?_
    refine W2 [0, 1, 5] [] [] (l := [(0, .c (.row _ _ _)), (1, .c (.row _ _ _)), (5, .c (.int _ _))]) (h := []) (h' := []) trivial rfl rfl rfl ?_
    refine W_loopW (fun n3 S => ∃ (v2 : Int), S = StL [(0, .c (.row false 1 (a0.map en_u8))), (1, .c (.row false 1 (a1.map en_u8))), (5, .c (.int .i64 v2))] ([] ++ []) ∧ l_laws_eqByteS_3 K a0 a1 n3 v2 = some r) K ⟨_, rfl, h⟩ ?_
    rintro n3 S ⟨v2, rfl, h⟩
    cases n3 with
    | zero => simp [l_laws_eqByteS_3] at h
    | succ n3 =>
      rw [l_laws_eqByteS_3] at h
      refine W_seq ?_
      refine W_seq ?_
      refine W_regV he rfl ?_
      refine v0 (sM rfl [] rfl) rfl ?_
      refine v0 (sM rfl [] rfl) rfl ?_
      refine v0 (sLm rfl rfl rfl rfl) rfl ?_
      refine vB (sBi rfl rfl rfl rfl) rfl rfl fun b4 hb4 => ?_
      cases b4 with
      | true =>
        replace h := brT hb4 h
        refine ve ?_
        refine W2 [0, 1, 5, 14] [] [] (l := [(0, .c (.row _ _ _)), (1, .c (.row _ _ _)), (5, .c (.int _ _)), (14, .c (.bool true))]) (h := []) (h' := []) trivial rfl rfl rfl ?_
        refine W_true rfl ?_
        refine W_skip ?_
        refine W_seq ?_
        refine W_block ?_
        refine W_seq ?_
        refine W_regD he rfl rfl rfl ?_
        refine g0 (sM rfl [] rfl) rfl ?_
        refine g0 (sM rfl [] rfl) rfl ?_
        obtain ⟨c5, h⟩ := chk h
        refine g0 (sIRm rfl rfl rfl rfl c5) rfl ?_
        refine g0 (sLI rfl rfl (en_u8 (gt a0 v2)) (gt_at _ c5) rfl rfl rfl) rfl ?_
        refine g0 (sM rfl [] rfl) rfl ?_
        refine g0 (sM rfl [] rfl) rfl ?_
        obtain ⟨c6, h⟩ := chk h
        refine g0 (sIRm rfl rfl rfl rfl c6) rfl ?_
        refine g0 (sLI rfl rfl (en_u8 (gt a1 v2)) (gt_at _ c6) rfl rfl rfl) rfl ?_
        refine gB (sBi rfl rfl rfl rfl) rfl rfl fun b7 hb7 => ?_
        cases b7 with
        | true =>
          replace h := brT hb7 h
          refine ge ⟨rfl, ?_⟩
          refine W2 [0, 1, 5, 25] [] [] (l := [(0, .c (.row _ _ _)), (1, .c (.row _ _ _)), (5, .c (.int _ _)), (25, .c (.bool true))]) (h := []) (h' := []) trivial rfl rfl rfl ?_
          refine W_true rfl ?_
          refine W_seq ?_
          refine W_regV he rfl ?_
          refine v0 (sA rfl [] rfl) rfl ?_
          refine ve ?_
          refine W2 [4] [] [] (l := [(4, .c (.bool false))]) (h := []) (h' := []) trivial rfl rfl rfl ?_
          obtain rfl := Option.some.inj h
          exact W_ret (r0 rfl rfl)
        | false =>
          replace h := brF hb7 h
          refine ge ⟨rfl, ?_⟩
          refine W2 [0, 1, 5, 25] [] [] (l := [(0, .c (.row _ _ _)), (1, .c (.row _ _ _)), (5, .c (.int _ _)), (25, .c (.bool false))]) (h := []) (h' := []) trivial rfl rfl rfl ?_
          refine W_false rfl ?_
          refine W_skip ?_
          refine W_regV he rfl ?_
          refine v0 (sM rfl [] rfl) rfl ?_
          refine v0 (sBi rfl rfl rfl rfl) rfl ?_
          refine v0 (sA rfl [] rfl) rfl ?_
          refine ve ?_
          exact ⟨n3, _, Nat.lt_succ_self n3, wk2 [0, 1, 5] [] [] (l := [(0, .c (.row _ _ _)), (1, .c (.row _ _ _)), (5, .c (.int _ _))]) (h := []) (h' := []) trivial rfl rfl rfl, _, rfl, h⟩
      | false =>
        replace h := brF hb4 h
        refine ve ?_
        refine W2 [0, 1, 5, 14] [] [] (l := [(0, .c (.row _ _ _)), (1, .c (.row _ _ _)), (5, .c (.int _ _)), (14, .c (.bool false))]) (h := []) (h' := []) trivial rfl rfl rfl ?_
        refine W_false rfl ?_
        refine W_exit (ex_then (ex_then (ex_hit ?_)))
        refine W_seq ?_
        refine W_regV he rfl ?_
        refine v0 (sA rfl [] rfl) rfl ?_
        refine ve ?_
        refine W2 [4] [] [] (l := [(4, .c (.bool true))]) (h := []) (h' := []) trivial rfl rfl rfl ?_
        obtain rfl := Option.some.inj h
        exact W_ret (r0 rfl rfl)
theorem ok_laws_eqByteS : FnOk Try.prog 23 := ⟨_, Try.func23, rfl, rfl⟩


/-! ### loop.example/g00499/laws.eqOp -/
def m_laws_eqOp (K : Nat) (a0 : T_impl_Op) (a1 : T_impl_Op) : Option (Bool) := (bif (a0.fKind != a1.fKind) then some false else ((m_laws_eqHandle K a0.fH a1.fH).bind fun r2 => (bif r2 then ((m_laws_eqRef K a0.fR a1.fR).bind fun r4 => (bif r4 then (bif (a0.fN != a1.fN) then some false else (bif (a0.fM != a1.fM) then some false else ((m_laws_eqByteS K a0.fB a1.fB).bind fun r8 => (bif r8 then some true else some false)))) else some false)) else some false)))
set_option maxRecDepth 20000 in
set_option maxHeartbeats 8000000 in
theorem w_laws_eqOp (K : Nat) (a0 : T_impl_Op) (a1 : T_impl_Op) (r : Bool) (h : m_laws_eqOp K a0 a1 = some r) : Sp Try.prog 32 [.g [.int .i64 a0.fKind, .int .i64 a0.fH.fSlot, .int .i64 a0.fH.fGen, .int .i64 a0.fR.fH.fSlot, .int .i64 a0.fR.fH.fGen, .int .i64 a0.fR.fEp, .int .i64 a0.fR.fNo, .int .i64 a0.fN, .int .i64 a0.fM, .row false 1 (a0.fB.map en_u8)], .g [.int .i64 a1.fKind, .int .i64 a1.fH.fSlot, .int .i64 a1.fH.fGen, .int .i64 a1.fR.fH.fSlot, .int .i64 a1.fR.fH.fGen, .int .i64 a1.fR.fEp, .int .i64 a1.fR.fNo, .int .i64 a1.fN, .int .i64 a1.fM, .row false 1 (a1.fB.map en_u8)]] [] (.c (.bool r)) [] := by
  refine Sp.of_W tabOk Try.func32 rfl rfl (Nat.le_of_ble_eq_true rfl) (Nat.le_of_ble_eq_true rfl) fun F hP hN hm => ?_
  obtain ⟨P, N, w0, σ0, β0, m⟩ := F
  obtain rfl : P = Try.prog := hP
  obtain rfl : N = 38 := hN
  obtain rfl : m = 1 := hm
  have he : Env ⟨Try.prog, 38, w0, σ0, β0, 1⟩ tab := ⟨Nat.le_of_ble_eq_true rfl, tabOk⟩
  unfold m_laws_eqOp at h
  refine W_seq ?_
  refine W_regV he rfl ?_
  refine v0 (sBx rfl [] rfl rfl 101 rfl) rfl ?_
  refine v0 (sBx rfl [] rfl rfl 102 rfl) rfl ?_
  refine v0 (sA rfl [] rfl) rfl ?_
  refine ve ?_
  refine W2 [2, 3] [101, 102] [] (l := [(2, .c (.ptr _ _ _ _)), (3, .c (.ptr _ _ _ _))]) (h := [(101, ⟨0, 10, [[.int _ _, .int _ _, .int _ _, .int _ _, .int _ _, .int _ _, .int _ _, .int _ _, .int _ _, .row _ _ _]]⟩), (102, ⟨0, 10, [[.int _ _, .int _ _, .int _ _, .int _ _, .int _ _, .int _ _, .int _ _, .int _ _, .int _ _, .row _ _ _]]⟩)]) (h' := []) trivial rfl rfl rfl ?_
  refine W_seq ?_
  refine W_seq ?_
  refine W_regV he rfl ?_
  refine v0 (sFP rfl rfl rfl) rfl ?_
  refine v0 (sLd rfl rfl) rfl ?_
  refine v0 (sFP rfl rfl rfl) rfl ?_
  refine v0 (sLd rfl rfl) rfl ?_
  refine vB (sBi rfl rfl rfl rfl) rfl rfl fun b1 hb1 => ?_
  cases b1 with
  | true =>
    replace h := brT hb1 h
    refine ve ?_
    refine W2 [2, 3, 9] [101, 102] [] (l := [(2, .c (.ptr _ _ _ _)), (3, .c (.ptr _ _ _ _)), (9, .c (.bool true))]) (h := [(101, ⟨0, 10, [[.int _ _, .int _ _, .int _ _, .int _ _, .int _ _, .int _ _, .int _ _, .int _ _, .int _ _, .row _ _ _]]⟩), (102, ⟨0, 10, [[.int _ _, .int _ _, .int _ _, .int _ _, .int _ _, .int _ _, .int _ _, .int _ _, .int _ _, .row _ _ _]]⟩)]) (h' := []) trivial rfl rfl rfl ?_
    refine W_true rfl ?_
    refine W_seq ?_
    refine W_regV he rfl ?_
    refine v0 (sA rfl [] rfl) rfl ?_
    refine ve ?_
    refine W2 [4] [] [] (l := [(4, .c (.bool false))]) (h := []) (h' := []) trivial rfl rfl rfl ?_
    obtain rfl := Option.some.inj h
    exact W_ret (r0 rfl rfl)
  | false =>
    replace h := brF hb1 h
    refine ve ?_
    refine W2 [2, 3, 9] [101, 102] [] (l := [(2, .c (.ptr _ _ _ _)), (3, .c (.ptr _ _ _ _)), (9, .c (.bool false))]) (h := [(101, ⟨0, 10, [[.int _ _, .int _ _, .int _ _, .int _ _, .int _ _, .int _ _, .int _ _, .int _ _, .int _ _, .row _ _ _]]⟩), (102, ⟨0, 10, [[.int _ _, .int _ _, .int _ _, .int _ _, .int _ _, .int _ _, .int _ _, .int _ _, .int _ _, .row _ _ _]]⟩)]) (h' := []) trivial rfl rfl rfl ?_
    refine W_false rfl ?_
    refine W_skip ?_
    refine W_seq ?_
    refine W_seq ?_
    refine W_regV he rfl ?_
    refine v0 (sFP rfl rfl rfl) rfl ?_
    refine v0 (sLd rfl rfl) rfl ?_
    refine v0 (sFP rfl rfl rfl) rfl ?_
    refine v0 (sLd rfl rfl) rfl ?_
    obtain ⟨r2, hr2, h⟩ := bnd2 h
    refine vB (sCm (w_laws_eqHandle K a0.fH a1.fH _ hr2) ok_laws_eqHandle rfl rfl rfl rfl) rfl rfl fun b3 hb3 => ?_
    cases b3 with
    | true =>
      replace h := brT hb3 h
      refine v0 (sNt rfl rfl) rfl ?_
      refine ve ?_
      refine W2 [2, 3, 15] [101, 102] [] (l := [(2, .c (.ptr _ _ _ _)), (3, .c (.ptr _ _ _ _)), (15, .c (.bool false))]) (h := [(101, ⟨0, 10, [[.int _ _, .int _ _, .int _ _, .int _ _, .int _ _, .int _ _, .int _ _, .int _ _, .int _ _, .row _ _ _]]⟩), (102, ⟨0, 10, [[.int _ _, .int _ _, .int _ _, .int _ _, .int _ _, .int _ _, .int _ _, .int _ _, .int _ _, .row _ _ _]]⟩)]) (h' := []) trivial rfl rfl rfl ?_
      refine W_false rfl ?_
      refine W_skip ?_
      refine W_seq ?_
      refine W_seq ?_
      refine W_regV he rfl ?_
      refine v0 (sFP rfl rfl rfl) rfl ?_
      refine v0 (sLd rfl rfl) rfl ?_
      refine v0 (sFP rfl rfl rfl) rfl ?_
      refine v0 (sLd rfl rfl) rfl ?_
      obtain ⟨r4, hr4, h⟩ := bnd2 h
      refine vB (sCm (w_laws_eqRef K a0.fR a1.fR _ hr4) ok_laws_eqRef rfl rfl rfl rfl) rfl rfl fun b5 hb5 => ?_
      cases b5 with
      | true =>
        replace h := brT hb5 h
        refine v0 (sNt rfl rfl) rfl ?_
        refine ve ?_
        refine W2 [2, 3, 21] [101, 102] [] (l := [(2, .c (.ptr _ _ _ _)), (3, .c (.ptr _ _ _ _)), (21, .c (.bool false))]) (h := [(101, ⟨0, 10, [[.int _ _, .int _ _, .int _ _, .int _ _, .int _ _, .int _ _, .int _ _, .int _ _, .int _ _, .row _ _ _]]⟩), (102, ⟨0, 10, [[.int _ _, .int _ _, .int _ _, .int _ _, .int _ _, .int _ _, .int _ _, .int _ _, .int _ _, .row _ _ _]]⟩)]) (h' := []) trivial rfl rfl rfl ?_
        refine W_false rfl ?_
        refine W_skip ?_
        refine W_seq ?_
        refine W_seq ?_
        refine W_regV he rfl ?_
        refine v0 (sFP rfl rfl rfl) rfl ?_
        refine v0 (sLd rfl rfl) rfl ?_
        refine v0 (sFP rfl rfl rfl) rfl ?_
        refine v0 (sLd rfl rfl) rfl ?_
        refine vB (sBi rfl rfl rfl rfl) rfl rfl fun b6 hb6 => ?_
        cases b6 with
        | true =>
          replace h := brT hb6 h
          refine ve ?_
          refine W2 [2, 3, 26] [101, 102] [] (l := [(2, .c (.ptr _ _ _ _)), (3, .c (.ptr _ _ _ _)), (26, .c (.bool true))]) (h := [(101, ⟨0, 10, [[.int _ _, .int _ _, .int _ _, .int _ _, .int _ _, .int _ _, .int _ _, .int _ _, .int _ _, .row _ _ _]]⟩), (102, ⟨0, 10, [[.int _ _, .int _ _, .int _ _, .int _ _, .int _ _, .int _ _, .int _ _, .int _ _, .int _ _, .row _ _ _]]⟩)]) (h' := []) trivial rfl rfl rfl ?_
          refine W_true rfl ?_
          refine W_seq ?_
          refine W_regV he rfl ?_
          refine v0 (sA rfl [] rfl) rfl ?_
          refine ve ?_
          refine W2 [4] [] [] (l := [(4, .c (.bool false))]) (h := []) (h' := []) trivial rfl rfl rfl ?_
          obtain rfl := Option.some.inj h
          exact W_ret (r0 rfl rfl)
        | false =>
          replace h := brF hb6 h
          refine ve ?_
          refine W2 [2, 3, 26] [101, 102] [] (l := [(2, .c (.ptr _ _ _ _)), (3, .c (.ptr _ _ _ _)), (26, .c (.bool false))]) (h := [(101, ⟨0, 10, [[.int _ _, .int _ _, .int _ _, .int _ _, .int _ _, .int _ _, .int _ _, .int _ _, .int _ _, .row _ _ _]]⟩), (102, ⟨0, 10, [[.int _ _, .int _ _, .int _ _, .int _ _, .int _ _, .int _ _, .int _ _, .int _ _, .int _ _, .row _ _ _]]⟩)]) (h' := []) trivial rfl rfl rfl ?_
          refine W_false rfl ?_
          refine W_skip ?_
          refine W_seq ?_
          refine W_seq ?_
          refine W_regV he rfl ?_
          refine v0 (sFP rfl rfl rfl) rfl ?_
          refine v0 (sLd rfl rfl) rfl ?_
          refine v0 (sFP rfl rfl rfl) rfl ?_
          refine v0 (sLd rfl rfl) rfl ?_
          refine vB (sBi rfl rfl rfl rfl) rfl rfl fun b7 hb7 => ?_
          cases b7 with
          | true =>
            replace h := brT hb7 h
            refine ve ?_
            refine W2 [2, 3, 31] [101, 102] [] (l := [(2, .c (.ptr _ _ _ _)), (3, .c (.ptr _ _ _ _)), (31, .c (.bool true))]) (h := [(101, ⟨0, 10, [[.int _ _, .int _ _, .int _ _, .int _ _, .int _ _, .int _ _, .int _ _, .int _ _, .int _ _, .row _ _ _]]⟩), (102, ⟨0, 10, [[.int _ _, .int _ _, .int _ _, .int _ _, .int _ _, .int _ _, .int _ _, .int _ _, .int _ _, .row _ _ _]]⟩)]) (h' := []) trivial rfl rfl rfl ?_
            refine W_true rfl ?_
            refine W_seq ?_
            refine W_regV he rfl ?_
            refine v0 (sA rfl [] rfl) rfl ?_
            refine ve ?_
            refine W2 [4] [] [] (l := [(4, .c (.bool false))]) (h := []) (h' := []) trivial rfl rfl rfl ?_
            obtain rfl := Option.some.inj h
            exact W_ret (r0 rfl rfl)
          | false =>
            replace h := brF hb7 h
            refine ve ?_
            refine W2 [2, 3, 31] [101, 102] [] (l := [(2, .c (.ptr _ _ _ _)), (3, .c (.ptr _ _ _ _)), (31, .c (.bool false))]) (h := [(101, ⟨0, 10, [[.int _ _, .int _ _, .int _ _, .int _ _, .int _ _, .int _ _, .int _ _, .int _ _, .int _ _, .row _ _ _]]⟩), (102, ⟨0, 10, [[.int _ _, .int _ _, .int _ _, .int _ _, .int _ _, .int _ _, .int _ _, .int _ _, .int _ _, .row _ _ _]]⟩)]) (h' := []) trivial rfl rfl rfl ?_
            refine W_false rfl ?_
            refine W_skip ?_
            refine W_seq ?_
            refine W_seq ?_
            refine W_regV he rfl ?_
            refine v0 (sFP rfl rfl rfl) rfl ?_
            refine v0 (sLd rfl rfl) rfl ?_
            refine v0 (sFP rfl rfl rfl) rfl ?_
            refine v0 (sLd rfl rfl) rfl ?_
            obtain ⟨r8, hr8, h⟩ := bnd2 h
            refine vB (sCm (w_laws_eqByteS K a0.fB a1.fB _ hr8) ok_laws_eqByteS rfl rfl rfl rfl) rfl rfl fun b9 hb9 => ?_
            cases b9 with
            | true =>
              replace h := brT hb9 h
              refine v0 (sNt rfl rfl) rfl ?_
              refine ve ?_
              refine W2 [37] [] [] (l := [(37, .c (.bool false))]) (h := []) (h' := []) trivial rfl rfl rfl ?_
              refine W_false rfl ?_
              refine W_skip ?_
              refine W_seq ?_
              refine W_regV he rfl ?_
              refine v0 (sA rfl [] rfl) rfl ?_
              refine ve ?_
              refine W2 [4] [] [] (l := [(4, .c (.bool true))]) (h := []) (h' := []) trivial rfl rfl rfl ?_
              obtain rfl := Option.some.inj h
              exact W_ret (r0 rfl rfl)
            | false =>
              replace h := brF hb9 h
              refine v0 (sNt rfl rfl) rfl ?_
              refine ve ?_
              refine W2 [37] [] [] (l := [(37, .c (.bool true))]) (h := []) (h' := []) trivial rfl rfl rfl ?_
              refine W_true rfl ?_
              refine W_seq ?_
              refine W_regV he rfl ?_
              refine v0 (sA rfl [] rfl) rfl ?_
              refine ve ?_
              refine W2 [4] [] [] (l := [(4, .c (.bool false))]) (h := []) (h' := []) trivial rfl rfl rfl ?_
              obtain rfl := Option.some.inj h
              exact W_ret (r0 rfl rfl)
      | false =>
        replace h := brF hb5 h
        refine v0 (sNt rfl rfl) rfl ?_
        refine ve ?_
        refine W2 [2, 3, 21] [101, 102] [] (l := [(2, .c (.ptr _ _ _ _)), (3, .c (.ptr _ _ _ _)), (21, .c (.bool true))]) (h := [(101, ⟨0, 10, [[.int _ _, .int _ _, .int _ _, .int _ _, .int _ _, .int _ _, .int _ _, .int _ _, .int _ _, .row _ _ _]]⟩), (102, ⟨0, 10, [[.int _ _, .int _ _, .int _ _, .int _ _, .int _ _, .int _ _, .int _ _, .int _ _, .int _ _, .row _ _ _]]⟩)]) (h' := []) trivial rfl rfl rfl ?_
        refine W_true rfl ?_
        refine W_seq ?_
        refine W_regV he rfl ?_
        refine v0 (sA rfl [] rfl) rfl ?_
        refine ve ?_
        refine W2 [4] [] [] (l := [(4, .c (.bool false))]) (h := []) (h' := []) trivial rfl rfl rfl ?_
        obtain rfl := Option.some.inj h
        exact W_ret (r0 rfl rfl)
    | false =>
      replace h := brF hb3 h
      refine v0 (sNt rfl rfl) rfl ?_
      refine ve ?_
      refine W2 [2, 3, 15] [101, 102] [] (l := [(2, .c (.ptr _ _ _ _)), (3, .c (.ptr _ _ _ _)), (15, .c (.bool true))]) (h := [(101, ⟨0, 10, [[.int _ _, .int _ _, .int _ _, .int _ _, .int _ _, .int _ _, .int _ _, .int _ _, .int _ _, .row _ _ _]]⟩), (102, ⟨0, 10, [[.int _ _, .int _ _, .int _ _, .int _ _, .int _ _, .int _ _, .int _ _, .int _ _, .int _ _, .row _ _ _]]⟩)]) (h' := []) trivial rfl rfl rfl ?_
      refine W_true rfl ?_
      refine W_seq ?_
      refine W_regV he rfl ?_
      refine v0 (sA rfl [] rfl) rfl ?_
      refine ve ?_
      refine W2 [4] [] [] (l := [(4, .c (.bool false))]) (h := []) (h' := []) trivial rfl rfl rfl ?_
      obtain rfl := Option.some.inj h
      exact W_ret (r0 rfl rfl)
theorem ok_laws_eqOp : FnOk Try.prog 32 := ⟨_, Try.func32, rfl, rfl⟩


/-! ### loop.example/g00499/laws.markByteS -/
def l_laws_markByteSW_4 (K : Nat) : Nat → Int → Int → (List Int) → Option (Int × (List Int))
  | 0, _, _, _ => none
  | n4 + 1, v1, v2, v3 => (bif (decide (v2 < (v3.length : Int))) then (if (0 : Int) ≤ v2 ∧ v2 < (v3.length : Int) then (l_laws_markByteSW_4 K n4 (iAdd .i64 v1 1) (iAdd .i64 v2 1) (v3.set v2.toNat (IntKind.u8.wrap v1))) else none) else some (v1, v3))
def m_laws_markByteSW (K : Nat) (a0 : List Int) (a1 : Int) : Option (Int × (List Int)) := (l_laws_markByteSW_4 K K a1 0 a0)
set_option maxRecDepth 20000 in
set_option maxHeartbeats 8000000 in
theorem w_laws_markByteSW (K : Nat) (a0 : List Int) (a1 : Int) (r : Int × (List Int)) (h : m_laws_markByteSW K a0 a1 = some r) : Sp Try.prog 26 [.c (.own 1 0 0 a0.length), .c (.int .i64 a1)] [⟨0, 1, a0.map en_u8⟩] (.c (.int .i64 r.1)) [⟨0, 1, r.2.map en_u8⟩] := by
  refine Sp.of_W tabOk Try.func26 rfl rfl (Nat.le_of_ble_eq_true rfl) (Nat.le_of_ble_eq_true rfl) fun F hP hN hm => ?_
  obtain ⟨P, N, w0, σ0, β0, m⟩ := F
  obtain rfl : P = Try.prog := hP
  obtain rfl : N = 20 := hN
  obtain rfl : m = 2 := hm
  have he : Env ⟨Try.prog, 20, w0, σ0, β0, 2⟩ tab := ⟨Nat.le_of_ble_eq_true rfl, tabOk⟩
  unfold m_laws_markByteSW at h
  refine W_seq ?_
  refine W_regV he rfl ?_
  refine v0 (sA rfl [] rfl) rfl ?_
  refine ve ?_
  refine W2 [0, 1] [] [1] (l := [(0, .c (.own _ _ _ _)), (1, .c (.int _ _))]) (h := []) (h' := [(1, ⟨0, 1, a0.map en_u8⟩)]) ⟨⟨_, rfl, enOk_u8.allClosed _ _ a0⟩, trivial⟩ rfl rfl rfl ?_
  refine W_seq ?_
  refine W_seq ?_
  refine W_regV he rfl ?_
  refine v0 (sA rfl [] rfl) rfl ?_
  refine ve ?_
  refine W2 [0, 1, 5] [] [1] (l := [(0, .c (.own _ _ _ _)), (1, .c (.int _ _)), (5, .c (.int _ _))]) (h := []) (h' := [(1, ⟨0, 1, a0.map en_u8⟩)]) ⟨⟨_, rfl, enOk_u8.allClosed _ _ a0⟩, trivial⟩ rfl rfl rfl ?_
  refine W_block ?_
  refine W2 [0, 1, 5] [] [1] (l := [(0, .c (.own _ _ _ _)), (1, .c (.int _ _)), (5, .c (.int _ _))]) (h := []) (h' := [(1, ⟨0, 1, a0.map en_u8⟩)]) ⟨⟨_, rfl, enOk_u8.allClosed _ _ a0⟩, trivial⟩ rfl rfl rfl ?_
  refine W_loopW (fun n4 S => ∃ (v1 : Int), ∃ (v2 : Int), ∃ (v3 : List Int), S = StL [(0, .c (.own 1 0 0 v3.length)), (1, .c (.int .i64 v1)), (5, .c (.int .i64 v2))] ([] ++ [(1, ⟨0, 1, v3.map en_u8⟩)]) ∧ l_laws_markByteSW_4 K n4 v1 v2 v3 = some r) K ⟨_, _, _, rfl, h⟩ ?_
  rintro n4 S ⟨v1, v2, v3, rfl, h⟩
  cases n4 with
  | zero => simp [l_laws_markByteSW_4] at h
  | succ n4 =>
    rw [l_laws_markByteSW_4] at h
    refine W_seq ?_
    refine W_seq ?_
    refine W_regV he rfl ?_
    refine v0 (sM rfl [] rfl) rfl ?_
    refine v0 (sM rfl [] rfl) rfl ?_
    refine v0 (sLo rfl rfl rfl rfl) rfl ?_
    refine vB (sBi rfl rfl rfl rfl) rfl rfl fun b5 hb5 => ?_
    cases b5 with
    | true =>
      replace h := brT hb5 h
      refine ve ?_
      refine W2 [0, 1, 5, 9] [] [1] (l := [(0, .c (.own _ _ _ _)), (1, .c (.int _ _)), (5, .c (.int _ _)), (9, .c (.bool true))]) (h := []) (h' := [(1, ⟨0, 1, v3.map en_u8⟩)]) ⟨⟨_, rfl, enOk_u8.allClosed _ _ v3⟩, trivial⟩ rfl rfl rfl ?_
      refine W_true rfl ?_
      refine W_skip ?_
      refine W_seq ?_
      refine W_block ?_
      refine W_seq ?_
      refine W_regV he rfl ?_
      refine v0 (sM rfl [] rfl) rfl ?_
      refine v0 (sM rfl [] rfl) rfl ?_
      refine v0 (sM rfl [] rfl) rfl ?_
      refine v0 (sCv rfl rfl rfl rfl rfl rfl) rfl ?_
      obtain ⟨c6, h⟩ := chk h
      refine v0 (sIOm rfl rfl rfl c6) rfl ?_
      refine v0 (sSkm rfl rfl [] v3 (IntKind.u8.wrap v1) c6 rfl rfl rfl rfl rfl rfl rfl rfl rfl) rfl ?_
      refine ve ?_
      refine W.weak (wk_len 0 (n' := (v3.set v2.toNat (IntKind.u8.wrap v1)).length) (by simp only [List.length_set]) rfl) ?_
      refine W2 [0, 1, 5] [] [1] (l := [(0, .c (.own _ _ _ _)), (1, .c (.int _ _)), (5, .c (.int _ _))]) (h := []) (h' := [(1, ⟨0, 1, (v3.set v2.toNat (IntKind.u8.wrap v1)).map en_u8⟩)]) ⟨⟨_, rfl, enOk_u8.allClosed _ _ (v3.set v2.toNat (IntKind.u8.wrap v1))⟩, trivial⟩ rfl rfl rfl ?_
      refine W_regV he rfl ?_
      refine v0 (sM rfl [] rfl) rfl ?_
      refine v0 (sBi rfl rfl rfl rfl) rfl ?_
      refine v0 (sA rfl [] rfl) rfl ?_
      refine ve ?_
      refine W2 [0, 1, 5] [] [1] (l := [(0, .c (.own _ _ _ _)), (1, .c (.int _ _)), (5, .c (.int _ _))]) (h := []) (h' := [(1, ⟨0, 1, (v3.set v2.toNat (IntKind.u8.wrap v1)).map en_u8⟩)]) ⟨⟨_, rfl, enOk_u8.allClosed _ _ (v3.set v2.toNat (IntKind.u8.wrap v1))⟩, trivial⟩ rfl rfl rfl ?_
      refine W_regV he rfl ?_
      refine v0 (sM rfl [] rfl) rfl ?_
      refine v0 (sBi rfl rfl rfl rfl) rfl ?_
      refine v0 (sA rfl [] rfl) rfl ?_
      refine ve ?_
      exact ⟨n4, _, Nat.lt_succ_self n4, wk2 [0, 1, 5] [] [1] (l := [(0, .c (.own _ _ _ _)), (1, .c (.int _ _)), (5, .c (.int _ _))]) (h := []) (h' := [(1, ⟨0, 1, (v3.set v2.toNat (IntKind.u8.wrap v1)).map en_u8⟩)]) ⟨⟨_, rfl, enOk_u8.allClosed _ _ (v3.set v2.toNat (IntKind.u8.wrap v1))⟩, trivial⟩ rfl rfl rfl, _, _, _, rfl, h⟩
    | false =>
      replace h := brF hb5 h
      refine ve ?_
      refine W2 [0, 1, 5, 9] [] [1] (l := [(0, .c (.own _ _ _ _)), (1, .c (.int _ _)), (5, .c (.int _ _)), (9, .c (.bool false))]) (h := []) (h' := [(1, ⟨0, 1, v3.map en_u8⟩)]) ⟨⟨_, rfl, enOk_u8.allClosed _ _ v3⟩, trivial⟩ rfl rfl rfl ?_
      refine W_false rfl ?_
      refine W_exit (ex_then (ex_then (ex_hit ?_)))
      refine W_seq ?_
      refine W_regV he rfl ?_
      refine v0 (sM rfl [] rfl) rfl ?_
      refine v0 (sA rfl [] rfl) rfl ?_
      refine ve ?_
      refine W2 [4] [] [1] (l := [(4, .c (.int _ _))]) (h := []) (h' := [(1, ⟨0, 1, v3.map en_u8⟩)]) ⟨⟨_, rfl, enOk_u8.allClosed _ _ v3⟩, trivial⟩ rfl rfl rfl ?_
      obtain rfl := Option.some.inj h
      exact W_ret (retOne 1 1 (.inr ⟨rfl, rfl⟩) enOk_u8 rfl rfl rfl)
theorem ok_laws_markByteS : FnOk Try.prog 26 := ⟨_, Try.func26, rfl, rfl⟩


/-! ### loop.example/g00499/laws.markOp -/
def m_laws_markOpW (K : Nat) (a0 : T_impl_Op) (a1 : Int) : Option (Int × (List Int)) := ((m_laws_markByteSW K a0.fB a1).bind fun r1 => (if r1.2.length = a0.fB.length then some (r1.1, r1.2) else none))
set_option maxRecDepth 20000 in
set_option maxHeartbeats 8000000 in
theorem w_laws_markOpW (K : Nat) (a0 : T_impl_Op) (a1 : Int) (r : Int × (List Int)) (h : m_laws_markOpW K a0 a1 = some r) : Sp Try.prog 48 [.g [.int .i64 a0.fKind, .int .i64 a0.fH.fSlot, .int .i64 a0.fH.fGen, .int .i64 a0.fR.fH.fSlot, .int .i64 a0.fR.fH.fGen, .int .i64 a0.fR.fEp, .int .i64 a0.fR.fNo, .int .i64 a0.fN, .int .i64 a0.fM, .own 1 0 0 a0.fB.length], .c (.int .i64 a1)] [⟨0, 1, a0.fB.map en_u8⟩] (.c (.int .i64 r.1)) [⟨0, 1, r.2.map en_u8⟩] := by
  refine Sp.of_W tabOk Try.func48 rfl rfl (Nat.le_of_ble_eq_true rfl) (Nat.le_of_ble_eq_true rfl) fun F hP hN hm => ?_
  obtain ⟨P, N, w0, σ0, β0, m⟩ := F
  obtain rfl : P = Try.prog := hP
  obtain rfl : N = 10 := hN
  obtain rfl : m = 2 := hm
  have he : Env ⟨Try.prog, 10, w0, σ0, β0, 2⟩ tab := ⟨Nat.le_of_ble_eq_true rfl, tabOk⟩
  unfold m_laws_markOpW at h
  refine W_seq ?_
  refine W_regV he rfl ?_
  refine v0 (sBx rfl [] rfl rfl 101 rfl) rfl ?_
  refine v0 (sA rfl [] rfl) rfl ?_
  refine ve ?_
  refine W2 [1, 2] [101] [1] (l := [(1, .c (.int _ _)), (2, .c (.ptr _ _ _ _))]) (h := [(101, ⟨0, 10, [[.int _ _, .int _ _, .int _ _, .int _ _, .int _ _, .int _ _, .int _ _, .int _ _, .int _ _, .own _ _ _ _]]⟩)]) (h' := [(1, ⟨0, 1, a0.fB.map en_u8⟩)]) ⟨⟨_, rfl, enOk_u8.allClosed _ _ a0.fB⟩, trivial⟩ rfl rfl rfl ?_
  refine W_seq ?_
  refine W_regV he rfl ?_
  refine v0 (sFP rfl rfl rfl) rfl ?_
  refine v0 (sLd rfl rfl) rfl ?_
  refine v0 (sM rfl [] rfl) rfl ?_
  obtain ⟨r1, hr1, h⟩ := bnd2 h
  obtain ⟨c2, h⟩ := chk h
  refine v0 (sCw (w_laws_markByteSW K a0.fB a1 _ hr1) ok_laws_markByteS enOk_u8 c2 1 rfl rfl rfl rfl rfl rfl) rfl ?_
  refine v0 (sA rfl [] rfl) rfl ?_
  refine ve ?_
  refine W2 [1] [] [1] (l := [(1, .c (.int _ _))]) (h := []) (h' := [(1, ⟨0, 1, r1.2.map en_u8⟩)]) ⟨⟨_, rfl, enOk_u8.allClosed _ _ r1.2⟩, trivial⟩ rfl rfl rfl ?_
  refine W_seq ?_
  refine W_regV he rfl ?_
  refine v0 (sM rfl [] rfl) rfl ?_
  refine v0 (sA rfl [] rfl) rfl ?_
  refine ve ?_
  refine W2 [4] [] [1] (l := [(4, .c (.int _ _))]) (h := []) (h' := [(1, ⟨0, 1, r1.2.map en_u8⟩)]) ⟨⟨_, rfl, enOk_u8.allClosed _ _ r1.2⟩, trivial⟩ rfl rfl rfl ?_
  obtain rfl := Option.some.inj h
  exact W_ret (retOne 1 1 (.inr ⟨rfl, rfl⟩) enOk_u8 rfl rfl rfl)
theorem ok_laws_markOp : FnOk Try.prog 48 := ⟨_, Try.func48, rfl, rfl⟩


/-! ### loop.example/g00499/laws.heldByteS -/
def l_laws_heldByteS_3 (K : Nat) (a0 : List Int) : Nat → Int → Int → Option (Int)
  | 0, _, _ => none
  | n3 + 1, v1, v2 => (bif (decide (v2 < (a0.length : Int))) then (if (0 : Int) ≤ v2 ∧ v2 < (a0.length : Int) then (bif ((gt a0 v2) != (IntKind.u8.wrap v1)) then some (-1) else (l_laws_heldByteS_3 K a0 n3 (iAdd .i64 v1 1) (iAdd .i64 v2 1))) else none) else some v1)
def m_laws_heldByteS (K : Nat) (a0 : List Int) (a1 : Int) : Option (Int) := (l_laws_heldByteS_3 K a0 K a1 0)
set_option maxRecDepth 20000 in
set_option maxHeartbeats 8000000 in
theorem w_laws_heldByteS (K : Nat) (a0 : List Int) (a1 : Int) (r : Int) (h : m_laws_heldByteS K a0 a1 = some r) : Sp Try.prog 27 [.c (.row false 1 (a0.map en_u8)), .c (.int .i64 a1)] [] (.c (.int .i64 r)) [] := by
  refine Sp.of_W tabOk Try.func27 rfl rfl (Nat.le_of_ble_eq_true rfl) (Nat.le_of_ble_eq_true rfl) fun F hP hN hm => ?_
  obtain ⟨P, N, w0, σ0, β0, m⟩ := F
  obtain rfl : P = Try.prog := hP
  obtain rfl : N = 22 := hN
  obtain rfl : m = 1 := hm
  have he : Env ⟨Try.prog, 22, w0, σ0, β0, 1⟩ tab := ⟨Nat.le_of_ble_eq_true rfl, tabOk⟩
  unfold m_laws_heldByteS at h
  refine W_seq ?_
  refine W_regV he rfl ?_
  refine v0 (sA rfl [] rfl) rfl ?_
  refine ve ?_
  refine W2 [0, 1] [] [] (l := [(0, .c (.row _ _ _)), (1, .c (.int _ _))]) (h := []) (h' := []) trivial rfl rfl rfl ?_
  refine W_seq ?_
  refine W_seq ?_
  refine W_regV he rfl ?_
  refine v0 (sA rfl [] rfl) rfl ?_
  refine ve ?_
  refine W2 [0, 1, 5] [] [] (l := [(0, .c (.row _ _ _)), (1, .c (.int _ _)), (5, .c (.int _ _))]) (h := []) (h' := []) trivial rfl rfl rfl ?_
  refine W_block ?_
  refine W2 [0, 1, 5] [] [] (l := [(0, .c (.row _ _ _)), (1, .c (.int _ _)), (5, .c (.int _ _))]) (h := []) (h' := []) trivial rfl rfl rfl ?_
  refine W_loopW (fun n3 S => ∃ (v1 : Int), ∃ (v2 : Int), S = StL [(0, .c (.row false 1 (a0.map en_u8))), (1, .c (.int .i64 v1)), (5, .c (.int .i64 v2))] ([] ++ []) ∧ l_laws_heldByteS_3 K a0 n3 v1 v2 = some r) K ⟨_, _, rfl, h⟩ ?_
  rintro n3 S ⟨v1, v2, rfl, h⟩
  cases n3 with
  | zero => simp [l_laws_heldByteS_3] at h
  | succ n3 =>
    rw [l_laws_heldByteS_3] at h
    refine W_seq ?_
    refine W_seq ?_
    refine W_regV he rfl ?_
    refine v0 (sM rfl [] rfl) rfl ?_
    refine v0 (sM rfl [] rfl) rfl ?_
    refine v0 (sLm rfl rfl rfl rfl) rfl ?_
    refine vB (sBi rfl rfl rfl rfl) rfl rfl fun b4 hb4 => ?_
    cases b4 with
    | true =>
      replace h := brT hb4 h
      refine ve ?_
      refine W2 [0, 1, 5, 9] [] [] (l := [(0, .c (.row _ _ _)), (1, .c (.int _ _)), (5, .c (.int _ _)), (9, .c (.bool true))]) (h := []) (h' := []) trivial rfl rfl rfl ?_
      refine W_true rfl ?_
      refine W_skip ?_
      refine W_seq ?_
      refine W_block ?_
      refine W_seq ?_
      refine W_seq ?_
      refine W_regV he rfl ?_
      refine v0 (sM rfl [] rfl) rfl ?_
      refine v0 (sM rfl [] rfl) rfl ?_
      obtain ⟨c5, h⟩ := chk h
      refine v0 (sIRm rfl rfl rfl rfl c5) rfl ?_
      refine v0 (sLI rfl rfl (en_u8 (gt a0 v2)) (gt_at _ c5) rfl rfl rfl) rfl ?_
      refine v0 (sM rfl [] rfl) rfl ?_
      refine v0 (sCv rfl rfl rfl rfl rfl rfl) rfl ?_
      refine vB (sBi rfl rfl rfl rfl) rfl rfl fun b6 hb6 => ?_
      cases b6 with
      | true =>
        replace h := brT hb6 h
        refine ve ?_
        refine W2 [0, 1, 5, 18] [] [] (l := [(0, .c (.row _ _ _)), (1, .c (.int _ _)), (5, .c (.int _ _)), (18, .c (.bool true))]) (h := []) (h' := []) trivial rfl rfl rfl ?_
        refine W_true rfl ?_
        refine W_seq ?_
        refine W_regV he rfl ?_
        refine v0 (sA rfl [] rfl) rfl ?_
        refine ve ?_
        refine W2 [4] [] [] (l := [(4, .c (.int _ _))]) (h := []) (h' := []) trivial rfl rfl rfl ?_
        obtain rfl := Option.some.inj h
        exact W_ret (r0 rfl rfl)
      | false =>
        replace h := brF hb6 h
        refine ve ?_
        refine W2 [0, 1, 5, 18] [] [] (l := [(0, .c (.row _ _ _)), (1, .c (.int _ _)), (5, .c (.int _ _)), (18, .c (.bool false))]) (h := []) (h' := []) trivial rfl rfl rfl ?_
        refine W_false rfl ?_
        refine W_skip ?_
        refine W_regV he rfl ?_
        refine v0 (sM rfl [] rfl) rfl ?_
        refine v0 (sBi rfl rfl rfl rfl) rfl ?_
        refine v0 (sA rfl [] rfl) rfl ?_
        refine ve ?_
        refine W2 [0, 1, 5] [] [] (l := [(0, .c (.row _ _ _)), (1, .c (.int _ _)), (5, .c (.int _ _))]) (h := []) (h' := []) trivial rfl rfl rfl ?_
        refine W_regV he rfl ?_
        refine v0 (sM rfl [] rfl) rfl ?_
        refine v0 (sBi rfl rfl rfl rfl) rfl ?_
        refine v0 (sA rfl [] rfl) rfl ?_
        refine ve ?_
        exact ⟨n3, _, Nat.lt_succ_self n3, wk2 [0, 1, 5] [] [] (l := [(0, .c (.row _ _ _)), (1, .c (.int _ _)), (5, .c (.int _ _))]) (h := []) (h' := []) trivial rfl rfl rfl, _, _, rfl, h⟩
    | false =>
      replace h := brF hb4 h
      refine ve ?_
      refine W2 [0, 1, 5, 9] [] [] (l := [(0, .c (.row _ _ _)), (1, .c (.int _ _)), (5, .c (.int _ _)), (9, .c (.bool false))]) (h := []) (h' := []) trivial rfl rfl rfl ?_
      refine W_false rfl ?_
      refine W_exit (ex_then (ex_then (ex_hit ?_)))
      refine W_seq ?_
      refine W_regV he rfl ?_
      refine v0 (sM rfl [] rfl) rfl ?_
      refine v0 (sA rfl [] rfl) rfl ?_
      refine ve ?_
      refine W2 [4] [] [] (l := [(4, .c (.int _ _))]) (h := []) (h' := []) trivial rfl rfl rfl ?_
      obtain rfl := Option.some.inj h
      exact W_ret (r0 rfl rfl)
theorem ok_laws_heldByteS : FnOk Try.prog 27 := ⟨_, Try.func27, rfl, rfl⟩


/-! ### loop.example/g00499/laws.heldOp -/
def m_laws_heldOp (K : Nat) (a0 : T_impl_Op) (a1 : Int) : Option (Int) := ((m_laws_heldByteS K a0.fB a1).bind fun r1 => (bif (decide (r1 < 0)) then some (-1) else some r1))
set_option maxRecDepth 20000 in
set_option maxHeartbeats 8000000 in
theorem w_laws_heldOp (K : Nat) (a0 : T_impl_Op) (a1 : Int) (r : Int) (h : m_laws_heldOp K a0 a1 = some r) : Sp Try.prog 51 [.g [.int .i64 a0.fKind, .int .i64 a0.fH.fSlot, .int .i64 a0.fH.fGen, .int .i64 a0.fR.fH.fSlot, .int .i64 a0.fR.fH.fGen, .int .i64 a0.fR.fEp, .int .i64 a0.fR.fNo, .int .i64 a0.fN, .int .i64 a0.fM, .row false 1 (a0.fB.map en_u8)], .c (.int .i64 a1)] [] (.c (.int .i64 r)) [] := by
  refine Sp.of_W tabOk Try.func51 rfl rfl (Nat.le_of_ble_eq_true rfl) (Nat.le_of_ble_eq_true rfl) fun F hP hN hm => ?_
  obtain ⟨P, N, w0, σ0, β0, m⟩ := F
  obtain rfl : P = Try.prog := hP
  obtain rfl : N = 12 := hN
  obtain rfl : m = 1 := hm
  have he : Env ⟨Try.prog, 12, w0, σ0, β0, 1⟩ tab := ⟨Nat.le_of_ble_eq_true rfl, tabOk⟩
  unfold m_laws_heldOp at h
  refine W_seq ?_
  refine W_regV he rfl ?_
  refine v0 (sBx rfl [] rfl rfl 101 rfl) rfl ?_
  refine v0 (sA rfl [] rfl) rfl ?_
  refine ve ?_
  refine W2 [1, 2] [101] [] (l := [(1, .c (.int _ _)), (2, .c (.ptr _ _ _ _))]) (h := [(101, ⟨0, 10, [[.int _ _, .int _ _, .int _ _, .int _ _, .int _ _, .int _ _, .int _ _, .int _ _, .int _ _, .row _ _ _]]⟩)]) (h' := []) trivial rfl rfl rfl ?_
  refine W_seq ?_
  refine W_regV he rfl ?_
  refine v0 (sFP rfl rfl rfl) rfl ?_
  refine v0 (sLd rfl rfl) rfl ?_
  refine v0 (sM rfl [] rfl) rfl ?_
  obtain ⟨r1, hr1, h⟩ := bnd2 h
  refine v0 (sCm (w_laws_heldByteS K a0.fB a1 _ hr1) ok_laws_heldByteS rfl rfl rfl rfl) rfl ?_
  refine v0 (sA rfl [] rfl) rfl ?_
  refine ve ?_
  refine W2 [1] [] [] (l := [(1, .c (.int _ _))]) (h := []) (h' := []) trivial rfl rfl rfl ?_
  refine W_seq ?_
  refine W_seq ?_
  refine W_regV he rfl ?_
  refine v0 (sM rfl [] rfl) rfl ?_
  refine vB (sBi rfl rfl rfl rfl) rfl rfl fun b2 hb2 => ?_
  cases b2 with
  | true =>
    replace h := brT hb2 h
    refine ve ?_
    refine W2 [1, 10] [] [] (l := [(1, .c (.int _ _)), (10, .c (.bool true))]) (h := []) (h' := []) trivial rfl rfl rfl ?_
    refine W_true rfl ?_
    refine W_seq ?_
    refine W_regV he rfl ?_
    refine v0 (sA rfl [] rfl) rfl ?_
    refine ve ?_
    refine W2 [4] [] [] (l := [(4, .c (.int _ _))]) (h := []) (h' := []) trivial rfl rfl rfl ?_
    obtain rfl := Option.some.inj h
    exact W_ret (r0 rfl rfl)
  | false =>
    replace h := brF hb2 h
    refine ve ?_
    refine W2 [1, 10] [] [] (l := [(1, .c (.int _ _)), (10, .c (.bool false))]) (h := []) (h' := []) trivial rfl rfl rfl ?_
    refine W_false rfl ?_
    refine W_skip ?_
    refine W_seq ?_
    refine W_regV he rfl ?_
    refine v0 (sM rfl [] rfl) rfl ?_
    refine v0 (sA rfl [] rfl) rfl ?_
    refine ve ?_
    refine W2 [4] [] [] (l := [(4, .c (.int _ _))]) (h := []) (h' := []) trivial rfl rfl rfl ?_
    obtain rfl := Option.some.inj h
    exact W_ret (r0 rfl rfl)
theorem ok_laws_heldOp : FnOk Try.prog 51 := ⟨_, Try.func51, rfl, rfl⟩


/-! ### loop.example/g00499/laws.FnExactGetOp -/
def m_laws_FnExactGetOp (K : Nat) (a0 : List Int) : Option (Bool) := (bif (decide ((a0.length : Int) > 1048576)) then some true else ((m_laws_toByteS K a0).bind fun r2 => ((m_spec_GetOp K r2).bind fun r3 => ((m_laws_toByteS K a0).bind fun r4 => ((m_impl_GetOp K r4).bind fun r5 => ((m_laws_eqOp K r5.1 r3.1).bind fun r6 => (bif r6 then (bif (!(r5.2 == r3.2)) then some false else ((m_laws_toByteS K a0).bind fun r9 => ((m_laws_eqByteS K r4 r9).bind fun r10 => (bif r10 then ((m_laws_markByteSW K r4 1).bind fun r12 => (if r12.2.length = r4.length then (bif (decide (r12.1 < 0)) then some false else ((m_laws_eqOp K r5.1 r3.1).bind fun r15 => (bif r15 then (bif (!(r5.2 == r3.2)) then some false else ((m_laws_markOpW K r5.1 1).bind fun r18 => (if r18.2.length = r5.1.fB.length then ((m_laws_heldOp K (T_impl_Op.mk r5.1.fKind r5.1.fH r5.1.fR r5.1.fN r5.1.fM r18.2) 1).bind fun r20 => (bif (decide (r20 < 0)) then some false else (bif (r20 != r18.1) then some false else ((m_laws_toByteS K a0).bind fun r23 => ((m_impl_GetOp K r23).bind fun r24 => ((m_laws_eqOp K r24.1 r3.1).bind fun r25 => (bif r25 then (bif (!(r24.2 == r3.2)) then some false else ((m_laws_heldOp K (T_impl_Op.mk r5.1.fKind r5.1.fH r5.1.fR r5.1.fN r5.1.fM r18.2) 1).bind fun r28 => (bif (decide (r28 < 0)) then some false else (bif (r28 != r18.1) then some false else some true)))) else some false))))))) else none))) else some false))) else none)) else some false)))) else some false)))))))
set_option maxRecDepth 20000 in
set_option maxHeartbeats 8000000 in
theorem w_laws_FnExactGetOp (K : Nat) (a0 : List Int) (r : Bool) (h : m_laws_FnExactGetOp K a0 = some r) : Sp Try.prog 13 [.c (.row false 1 (a0.map en_u8))] [] (.c (.bool r)) [] := by
  refine Sp.of_W tabOk Try.func13 rfl rfl (Nat.le_of_ble_eq_true rfl) (Nat.le_of_ble_eq_true rfl) fun F hP hN hm => ?_
  obtain ⟨P, N, w0, σ0, β0, m⟩ := F
  obtain rfl : P = Try.prog := hP
  obtain rfl : N = 93 := hN
  obtain rfl : m = 1 := hm
  have he : Env ⟨Try.prog, 93, w0, σ0, β0, 1⟩ tab := ⟨Nat.le_of_ble_eq_true rfl, tabOk⟩
  unfold m_laws_FnExactGetOp at h
  refine W_seq ?_
  refine W_regV he rfl ?_
  refine v0 (sA rfl [] rfl) rfl ?_
  refine ve ?_
  refine W2 [0] [] [] (l := [(0, .c (.row _ _ _))]) (h := []) (h' := []) trivial rfl rfl rfl ?_
  refine W_seq ?_
  refine W_seq ?_
  refine W_regV he rfl ?_
  refine v0 (sM rfl [] rfl) rfl ?_
  refine v0 (sLm rfl rfl rfl rfl) rfl ?_
  refine vB (sBi rfl rfl rfl rfl) rfl rfl fun b1 hb1 => ?_
  cases b1 with
  | true =>
    replace h := brT hb1 h
    refine ve ?_
    refine W2 [0, 15] [] [] (l := [(0, .c (.row _ _ _)), (15, .c (.bool true))]) (h := []) (h' := []) trivial rfl rfl rfl ?_
    refine W_true rfl ?_
    refine W_seq ?_
    refine W_regV he rfl ?_
    refine v0 (sA rfl [] rfl) rfl ?_
    refine ve ?_
    refine W2 [2] [] [] (l := [(2, .c (.bool true))]) (h := []) (h' := []) trivial rfl rfl rfl ?_
    obtain rfl := Option.some.inj h
    exact W_ret (r0 rfl rfl)
  | false =>
    replace h := brF hb1 h
    refine ve ?_
    refine W2 [0, 15] [] [] (l := [(0, .c (.row _ _ _)), (15, .c (.bool false))]) (h := []) (h' := []) trivial rfl rfl rfl ?_
    refine W_false rfl ?_
    refine W_skip ?_
    refine W_seq ?_
    refine W_regV he rfl ?_
    refine v0 (sM rfl [] rfl) rfl ?_
    obtain ⟨r2, hr2, h⟩ := bnd2 h
    refine v0 (sCm (w_laws_toByteS K a0 _ hr2) ok_laws_toByteS rfl rfl rfl rfl) rfl ?_
    obtain ⟨r3, hr3, h⟩ := bnd2 h
    refine v0 (sCm (w_spec_GetOp K r2 _ hr3) ok_spec_GetOp rfl rfl rfl rfl) rfl ?_
    refine v0 (sM rfl [] rfl) rfl ?_
    refine v0 (sEx rfl rfl rfl) rfl ?_
    refine v0 (sEx rfl rfl rfl) rfl ?_
    refine v0 (sAl rfl rfl 101 rfl) rfl ?_
    refine v0 (sSt rfl rfl [] rfl rfl) rfl ?_
    refine v0 (sA rfl [] rfl) rfl ?_
    refine ve ?_
    refine W2 [0, 3, 4] [101] [] (l := [(0, .c (.row _ _ _)), (3, .c (.ptr _ _ _ _)), (4, .c (.bool _))]) (h := [(101, ⟨0, 10, [[.int _ _, .int _ _, .int _ _, .int _ _, .int _ _, .int _ _, .int _ _, .int _ _, .int _ _, .row _ _ _]]⟩)]) (h' := []) trivial rfl rfl rfl ?_
    refine W_seq ?_
    refine W_regV he rfl ?_
    refine v0 (sM rfl [] rfl) rfl ?_
    obtain ⟨r4, hr4, h⟩ := bnd2 h
    refine v0 (sCo (wo_laws_toByteS K a0 _ hr4) ok_laws_toByteS (fun _ => rfl) [] 1005 rfl rfl rfl rfl rfl) rfl ?_
    refine v0 (sA rfl [] rfl) rfl ?_
    refine ve ?_
    refine W2 [0, 3, 4, 5] [101] [1005] (l := [(0, .c (.row _ _ _)), (3, .c (.ptr _ _ _ _)), (4, .c (.bool _)), (5, .c (.own _ _ _ _))]) (h := [(101, ⟨0, 10, [[.int _ _, .int _ _, .int _ _, .int _ _, .int _ _, .int _ _, .int _ _, .int _ _, .int _ _, .row _ _ _]]⟩)]) (h' := [(1005, ⟨0, 1, r4.map en_u8⟩)]) ⟨⟨_, rfl, enOk_u8.allClosed _ _ r4⟩, trivial⟩ rfl rfl rfl ?_
    refine W_seq ?_
    refine W_regV he rfl ?_
    refine v0 (sM rfl [] rfl) rfl ?_
    obtain ⟨r5, hr5, h⟩ := bnd2 h
    refine v0 (sCo (wo_impl_GetOp K r4 _ hr5) ok_impl_GetOp (fun _ => rfl) [1005] 1026 rfl rfl rfl (low_cons (low_lent (l := r4) enOk_u8 rfl rfl rfl) (low_nil)) rfl) rfl ?_
    refine v0 (sM rfl [] rfl) rfl ?_
    refine v0 (sEx rfl rfl rfl) rfl ?_
    refine v0 (sEx rfl rfl rfl) rfl ?_
    refine v0 (sAl rfl rfl 102 rfl) rfl ?_
    refine v0 (sSt rfl rfl [] rfl rfl) rfl ?_
    refine v0 (sA rfl [] rfl) rfl ?_
    refine ve ?_
    refine W2 [0, 3, 4, 5, 6, 7] [101, 102] [1005, 1026] (l := [(0, .c (.row _ _ _)), (3, .c (.ptr _ _ _ _)), (4, .c (.bool _)), (5, .c (.own _ _ _ _)), (6, .c (.ptr _ _ _ _)), (7, .c (.bool _))]) (h := [(101, ⟨0, 10, [[.int _ _, .int _ _, .int _ _, .int _ _, .int _ _, .int _ _, .int _ _, .int _ _, .int _ _, .row _ _ _]]⟩), (102, ⟨0, 10, [[.int _ _, .int _ _, .int _ _, .int _ _, .int _ _, .int _ _, .int _ _, .int _ _, .int _ _, .own _ _ _ _]]⟩)]) (h' := [(1005, ⟨0, 1, r4.map en_u8⟩), (1026, ⟨0, 1, r5.1.fB.map en_u8⟩)]) ⟨⟨_, rfl, enOk_u8.allClosed _ _ r4⟩, ⟨⟨_, rfl, enOk_u8.allClosed _ _ r5.1.fB⟩, trivial⟩⟩ rfl rfl rfl ?_
    refine W_seq ?_
    refine W_seq ?_
    refine W_regV he rfl ?_
    refine v0 (sLd rfl rfl) rfl ?_
    refine v0 (sLd rfl rfl) rfl ?_
    obtain ⟨r6, hr6, h⟩ := bnd2 h
    refine vB (sCle (w_laws_eqOp K r5.1 r3.1 _ hr6) ok_laws_eqOp [1026] rfl rfl (low_cons (low_g (lowc_cons rfl (lowc_cons rfl (lowc_cons rfl (lowc_cons rfl (lowc_cons rfl (lowc_cons rfl (lowc_cons rfl (lowc_cons rfl (lowc_cons rfl (lowc_cons (low_lentV (l := r5.1.fB) enOk_u8 rfl rfl rfl) (lowc_nil)))))))))))) (low_cons (rfl) (low_nil))) rfl) rfl rfl fun b7 hb7 => ?_
    cases b7 with
    | true =>
      replace h := brT hb7 h
      refine v0 (sNt rfl rfl) rfl ?_
      refine v0 (sM rfl [] rfl) rfl ?_
      refine u0 (sM rfl [] rfl) rfl rfl rfl ?_
      refine u0 (sM rfl [] rfl) rfl rfl rfl ?_
      refine uB (sBe rfl (.inr rfl) rfl rfl rfl rfl) rfl rfl rfl rfl fun b8 hb8 => ?_
      cases b8 with
      | true =>
        replace h := brT hb8 h
        refine v0 (sPk rfl [] rfl rfl) rfl ?_
        refine ve ?_
        refine W2 [0, 3, 4, 5, 6, 7, 37] [101, 102] [1005, 1026] (l := [(0, .c (.row _ _ _)), (3, .c (.ptr _ _ _ _)), (4, .c (.bool _)), (5, .c (.own _ _ _ _)), (6, .c (.ptr _ _ _ _)), (7, .c (.bool _)), (37, .c (.bool true))]) (h := [(101, ⟨0, 10, [[.int _ _, .int _ _, .int _ _, .int _ _, .int _ _, .int _ _, .int _ _, .int _ _, .int _ _, .row _ _ _]]⟩), (102, ⟨0, 10, [[.int _ _, .int _ _, .int _ _, .int _ _, .int _ _, .int _ _, .int _ _, .int _ _, .int _ _, .own _ _ _ _]]⟩)]) (h' := [(1005, ⟨0, 1, r4.map en_u8⟩), (1026, ⟨0, 1, r5.1.fB.map en_u8⟩)]) ⟨⟨_, rfl, enOk_u8.allClosed _ _ r4⟩, ⟨⟨_, rfl, enOk_u8.allClosed _ _ r5.1.fB⟩, trivial⟩⟩ rfl rfl rfl ?_
        refine W_true rfl ?_
        refine W_seq ?_
        refine W_regV he rfl ?_
        refine v0 (sA rfl [] rfl) rfl ?_
        refine ve ?_
        refine W2 [2] [] [] (l := [(2, .c (.bool false))]) (h := []) (h' := []) trivial rfl rfl rfl ?_
        obtain rfl := Option.some.inj h
        exact W_ret (r0 rfl rfl)
      | false =>
        replace h := brF hb8 h
        refine v0 (sPk rfl [] rfl rfl) rfl ?_
        refine ve ?_
        refine W2 [0, 3, 4, 5, 6, 7, 37] [101, 102] [1005, 1026] (l := [(0, .c (.row _ _ _)), (3, .c (.ptr _ _ _ _)), (4, .c (.bool _)), (5, .c (.own _ _ _ _)), (6, .c (.ptr _ _ _ _)), (7, .c (.bool _)), (37, .c (.bool false))]) (h := [(101, ⟨0, 10, [[.int _ _, .int _ _, .int _ _, .int _ _, .int _ _, .int _ _, .int _ _, .int _ _, .int _ _, .row _ _ _]]⟩), (102, ⟨0, 10, [[.int _ _, .int _ _, .int _ _, .int _ _, .int _ _, .int _ _, .int _ _, .int _ _, .int _ _, .own _ _ _ _]]⟩)]) (h' := [(1005, ⟨0, 1, r4.map en_u8⟩), (1026, ⟨0, 1, r5.1.fB.map en_u8⟩)]) ⟨⟨_, rfl, enOk_u8.allClosed _ _ r4⟩, ⟨⟨_, rfl, enOk_u8.allClosed _ _ r5.1.fB⟩, trivial⟩⟩ rfl rfl rfl ?_
        refine W_false rfl ?_
        refine W_skip ?_
        refine W_seq ?_
        refine W_seq ?_
        refine W_regV he rfl ?_
        refine v0 (sM rfl [] rfl) rfl ?_
        refine v0 (sM rfl [] rfl) rfl ?_
        obtain ⟨r9, hr9, h⟩ := bnd2 h
        refine v0 (sCm (w_laws_toByteS K a0 _ hr9) ok_laws_toByteS rfl rfl rfl rfl) rfl ?_
        obtain ⟨r10, hr10, h⟩ := bnd2 h
        refine vB (sCle (w_laws_eqByteS K r4 r9 _ hr10) ok_laws_eqByteS [1005] rfl rfl (low_cons (low_lent (l := r4) enOk_u8 rfl rfl rfl) (low_cons (rfl) (low_nil))) rfl) rfl rfl fun b11 hb11 => ?_
        cases b11 with
        | true =>
          replace h := brT hb11 h
          refine v0 (sNt rfl rfl) rfl ?_
          refine ve ?_
          refine W2 [0, 3, 4, 5, 6, 7, 42] [101, 102] [1005, 1026] (l := [(0, .c (.row _ _ _)), (3, .c (.ptr _ _ _ _)), (4, .c (.bool _)), (5, .c (.own _ _ _ _)), (6, .c (.ptr _ _ _ _)), (7, .c (.bool _)), (42, .c (.bool false))]) (h := [(101, ⟨0, 10, [[.int _ _, .int _ _, .int _ _, .int _ _, .int _ _, .int _ _, .int _ _, .int _ _, .int _ _, .row _ _ _]]⟩), (102, ⟨0, 10, [[.int _ _, .int _ _, .int _ _, .int _ _, .int _ _, .int _ _, .int _ _, .int _ _, .int _ _, .own _ _ _ _]]⟩)]) (h' := [(1005, ⟨0, 1, r4.map en_u8⟩), (1026, ⟨0, 1, r5.1.fB.map en_u8⟩)]) ⟨⟨_, rfl, enOk_u8.allClosed _ _ r4⟩, ⟨⟨_, rfl, enOk_u8.allClosed _ _ r5.1.fB⟩, trivial⟩⟩ rfl rfl rfl ?_
          refine W_false rfl ?_
          refine W_skip ?_
          refine W_seq ?_
          refine W_regV he rfl ?_
          refine v0 (sA rfl [] rfl) rfl ?_
          refine ve ?_
          refine W2 [0, 3, 4, 5, 6, 7, 8] [101, 102] [1005, 1026] (l := [(0, .c (.row _ _ _)), (3, .c (.ptr _ _ _ _)), (4, .c (.bool _)), (5, .c (.own _ _ _ _)), (6, .c (.ptr _ _ _ _)), (7, .c (.bool _)), (8, .c (.int _ _))]) (h := [(101, ⟨0, 10, [[.int _ _, .int _ _, .int _ _, .int _ _, .int _ _, .int _ _, .int _ _, .int _ _, .int _ _, .row _ _ _]]⟩), (102, ⟨0, 10, [[.int _ _, .int _ _, .int _ _, .int _ _, .int _ _, .int _ _, .int _ _, .int _ _, .int _ _, .own _ _ _ _]]⟩)]) (h' := [(1005, ⟨0, 1, r4.map en_u8⟩), (1026, ⟨0, 1, r5.1.fB.map en_u8⟩)]) ⟨⟨_, rfl, enOk_u8.allClosed _ _ r4⟩, ⟨⟨_, rfl, enOk_u8.allClosed _ _ r5.1.fB⟩, trivial⟩⟩ rfl rfl rfl ?_
          refine W_seq ?_
          refine W_regV he rfl ?_
          refine v0 (sM rfl [] rfl) rfl ?_
          refine v0 (sM rfl [] rfl) rfl ?_
          obtain ⟨r12, hr12, h⟩ := bnd2 h
          obtain ⟨c13, h⟩ := chk h
          refine v0 (sCw (w_laws_markByteSW K r4 1 _ hr12) ok_laws_markByteS enOk_u8 c13 1005 rfl rfl rfl rfl rfl rfl) rfl ?_
          refine v0 (sA rfl [] rfl) rfl ?_
          refine ve ?_
          refine W2 [0, 3, 4, 6, 7, 8] [101, 102] [1026] (l := [(0, .c (.row _ _ _)), (3, .c (.ptr _ _ _ _)), (4, .c (.bool _)), (6, .c (.ptr _ _ _ _)), (7, .c (.bool _)), (8, .c (.int _ _))]) (h := [(101, ⟨0, 10, [[.int _ _, .int _ _, .int _ _, .int _ _, .int _ _, .int _ _, .int _ _, .int _ _, .int _ _, .row _ _ _]]⟩), (102, ⟨0, 10, [[.int _ _, .int _ _, .int _ _, .int _ _, .int _ _, .int _ _, .int _ _, .int _ _, .int _ _, .own _ _ _ _]]⟩)]) (h' := [(1026, ⟨0, 1, r5.1.fB.map en_u8⟩)]) ⟨⟨_, rfl, enOk_u8.allClosed _ _ r5.1.fB⟩, trivial⟩ rfl rfl rfl ?_
          refine W_seq ?_
          refine W_seq ?_
          refine W_regV he rfl ?_
          refine v0 (sM rfl [] rfl) rfl ?_
          refine vB (sBi rfl rfl rfl rfl) rfl rfl fun b14 hb14 => ?_
          cases b14 with
          | true =>
            replace h := brT hb14 h
            refine v0 (sM rfl [] rfl) rfl ?_
            refine uP rfl rfl rfl rfl ?_
            refine uP rfl rfl rfl rfl ?_
            refine uP rfl rfl rfl rfl ?_
            refine uP rfl rfl rfl rfl ?_
            refine v0 (sPk rfl [] rfl rfl) rfl ?_
            refine v0 (sM rfl [] rfl) rfl ?_
            refine uP rfl rfl rfl rfl ?_
            refine uP rfl rfl rfl rfl ?_
            refine uP rfl rfl rfl rfl ?_
            refine v0 (sPk rfl [] rfl rfl) rfl ?_
            refine ve ?_
            refine W2 [0, 3, 4, 6, 58] [101, 102] [1026] (l := [(0, .c (.row _ _ _)), (3, .c (.ptr _ _ _ _)), (4, .c (.bool _)), (6, .c (.ptr _ _ _ _)), (58, .c (.bool true))]) (h := [(101, ⟨0, 10, [[.int _ _, .int _ _, .int _ _, .int _ _, .int _ _, .int _ _, .int _ _, .int _ _, .int _ _, .row _ _ _]]⟩), (102, ⟨0, 10, [[.int _ _, .int _ _, .int _ _, .int _ _, .int _ _, .int _ _, .int _ _, .int _ _, .int _ _, .own _ _ _ _]]⟩)]) (h' := [(1026, ⟨0, 1, r5.1.fB.map en_u8⟩)]) ⟨⟨_, rfl, enOk_u8.allClosed _ _ r5.1.fB⟩, trivial⟩ rfl rfl rfl ?_
            refine W_true rfl ?_
            refine W_seq ?_
            refine W_regV he rfl ?_
            refine v0 (sA rfl [] rfl) rfl ?_
            refine ve ?_
            refine W2 [2] [] [] (l := [(2, .c (.bool false))]) (h := []) (h' := []) trivial rfl rfl rfl ?_
            obtain rfl := Option.some.inj h
            exact W_ret (r0 rfl rfl)
          | false =>
            replace h := brF hb14 h
            refine v0 (sM rfl [] rfl) rfl ?_
            refine u0 (sLd rfl rfl) rfl rfl rfl ?_
            refine u0 (sLd rfl rfl) rfl rfl rfl ?_
            obtain ⟨r15, hr15, h⟩ := bnd2 h
            refine uB (sCle (w_laws_eqOp K r5.1 r3.1 _ hr15) ok_laws_eqOp [1026] rfl rfl (low_cons (low_g (lowc_cons rfl (lowc_cons rfl (lowc_cons rfl (lowc_cons rfl (lowc_cons rfl (lowc_cons rfl (lowc_cons rfl (lowc_cons rfl (lowc_cons rfl (lowc_cons (low_lentV (l := r5.1.fB) enOk_u8 rfl rfl rfl) (lowc_nil)))))))))))) (low_cons (rfl) (low_nil))) rfl) rfl rfl rfl rfl fun b16 hb16 => ?_
            cases b16 with
            | true =>
              replace h := brT hb16 h
              refine u0 (sNt rfl rfl) rfl rfl rfl ?_
              refine v0 (sPk rfl [] rfl rfl) rfl ?_
              refine v0 (sM rfl [] rfl) rfl ?_
              refine u0 (sM rfl [] rfl) rfl rfl rfl ?_
              refine u0 (sM rfl [] rfl) rfl rfl rfl ?_
              refine uB (sBe rfl (.inr rfl) rfl rfl rfl rfl) rfl rfl rfl rfl fun b17 hb17 => ?_
              cases b17 with
              | true =>
                replace h := brT hb17 h
                refine v0 (sPk rfl [] rfl rfl) rfl ?_
                refine ve ?_
                refine W2 [0, 3, 4, 6, 58] [101, 102] [1026] (l := [(0, .c (.row _ _ _)), (3, .c (.ptr _ _ _ _)), (4, .c (.bool _)), (6, .c (.ptr _ _ _ _)), (58, .c (.bool true))]) (h := [(101, ⟨0, 10, [[.int _ _, .int _ _, .int _ _, .int _ _, .int _ _, .int _ _, .int _ _, .int _ _, .int _ _, .row _ _ _]]⟩), (102, ⟨0, 10, [[.int _ _, .int _ _, .int _ _, .int _ _, .int _ _, .int _ _, .int _ _, .int _ _, .int _ _, .own _ _ _ _]]⟩)]) (h' := [(1026, ⟨0, 1, r5.1.fB.map en_u8⟩)]) ⟨⟨_, rfl, enOk_u8.allClosed _ _ r5.1.fB⟩, trivial⟩ rfl rfl rfl ?_
                refine W_true rfl ?_
                refine W_seq ?_
                refine W_regV he rfl ?_
                refine v0 (sA rfl [] rfl) rfl ?_
                refine ve ?_
                refine W2 [2] [] [] (l := [(2, .c (.bool false))]) (h := []) (h' := []) trivial rfl rfl rfl ?_
                obtain rfl := Option.some.inj h
                exact W_ret (r0 rfl rfl)
              | false =>
                replace h := brF hb17 h
                refine v0 (sPk rfl [] rfl rfl) rfl ?_
                refine ve ?_
                refine W2 [0, 3, 4, 6, 58] [101, 102] [1026] (l := [(0, .c (.row _ _ _)), (3, .c (.ptr _ _ _ _)), (4, .c (.bool _)), (6, .c (.ptr _ _ _ _)), (58, .c (.bool false))]) (h := [(101, ⟨0, 10, [[.int _ _, .int _ _, .int _ _, .int _ _, .int _ _, .int _ _, .int _ _, .int _ _, .int _ _, .row _ _ _]]⟩), (102, ⟨0, 10, [[.int _ _, .int _ _, .int _ _, .int _ _, .int _ _, .int _ _, .int _ _, .int _ _, .int _ _, .own _ _ _ _]]⟩)]) (h' := [(1026, ⟨0, 1, r5.1.fB.map en_u8⟩)]) ⟨⟨_, rfl, enOk_u8.allClosed _ _ r5.1.fB⟩, trivial⟩ rfl rfl rfl ?_
                refine W_false rfl ?_
                refine W_skip ?_
                refine W_seq ?_
                refine W_regV he rfl ?_
                refine v0 (sA rfl [] rfl) rfl ?_
                refine ve ?_
                refine W2 [0, 3, 4, 6, 9] [101, 102] [1026] (l := [(0, .c (.row _ _ _)), (3, .c (.ptr _ _ _ _)), (4, .c (.bool _)), (6, .c (.ptr _ _ _ _)), (9, .c (.int _ _))]) (h := [(101, ⟨0, 10, [[.int _ _, .int _ _, .int _ _, .int _ _, .int _ _, .int _ _, .int _ _, .int _ _, .int _ _, .row _ _ _]]⟩), (102, ⟨0, 10, [[.int _ _, .int _ _, .int _ _, .int _ _, .int _ _, .int _ _, .int _ _, .int _ _, .int _ _, .own _ _ _ _]]⟩)]) (h' := [(1026, ⟨0, 1, r5.1.fB.map en_u8⟩)]) ⟨⟨_, rfl, enOk_u8.allClosed _ _ r5.1.fB⟩, trivial⟩ rfl rfl rfl ?_
                refine W_seq ?_
                refine W_regV he rfl ?_
                refine v0 (sLd rfl rfl) rfl ?_
                refine v0 (sM rfl [] rfl) rfl ?_
                obtain ⟨r18, hr18, h⟩ := bnd2 h
                obtain ⟨c19, h⟩ := chk h
                refine v0 (sCw (w_laws_markOpW K r5.1 1 _ hr18) ok_laws_markOp enOk_u8 c19 1026 rfl rfl rfl rfl rfl rfl) rfl ?_
                refine v0 (sA rfl [] rfl) rfl ?_
                refine ve ?_
                refine W2 [0, 3, 4, 6, 9] [101, 102] [1026] (l := [(0, .c (.row _ _ _)), (3, .c (.ptr _ _ _ _)), (4, .c (.bool _)), (6, .c (.ptr _ _ _ _)), (9, .c (.int _ _))]) (h := [(101, ⟨0, 10, [[.int _ _, .int _ _, .int _ _, .int _ _, .int _ _, .int _ _, .int _ _, .int _ _, .int _ _, .row _ _ _]]⟩), (102, ⟨0, 10, [[.int _ _, .int _ _, .int _ _, .int _ _, .int _ _, .int _ _, .int _ _, .int _ _, .int _ _, .own _ _ _ _]]⟩)]) (h' := [(1026, ⟨0, 1, r18.2.map en_u8⟩)]) ⟨⟨_, rfl, enOk_u8.allClosed _ _ r18.2⟩, trivial⟩ rfl rfl rfl ?_
                refine W_seq ?_
                refine W_regV he rfl ?_
                refine v0 (sA rfl [] rfl) rfl ?_
                refine ve ?_
                refine W2 [0, 3, 4, 6, 9, 10] [101, 102] [1026] (l := [(0, .c (.row _ _ _)), (3, .c (.ptr _ _ _ _)), (4, .c (.bool _)), (6, .c (.ptr _ _ _ _)), (9, .c (.int _ _)), (10, .c (.int _ _))]) (h := [(101, ⟨0, 10, [[.int _ _, .int _ _, .int _ _, .int _ _, .int _ _, .int _ _, .int _ _, .int _ _, .int _ _, .row _ _ _]]⟩), (102, ⟨0, 10, [[.int _ _, .int _ _, .int _ _, .int _ _, .int _ _, .int _ _, .int _ _, .int _ _, .int _ _, .own _ _ _ _]]⟩)]) (h' := [(1026, ⟨0, 1, r18.2.map en_u8⟩)]) ⟨⟨_, rfl, enOk_u8.allClosed _ _ r18.2⟩, trivial⟩ rfl rfl rfl ?_
                refine W_seq ?_
                refine W_regV he rfl ?_
                refine v0 (sLd rfl rfl) rfl ?_
                refine v0 (sM rfl [] rfl) rfl ?_
                obtain ⟨r20, hr20, h⟩ := bnd2 h
                refine v0 (sCle (w_laws_heldOp K (T_impl_Op.mk r5.1.fKind r5.1.fH r5.1.fR r5.1.fN r5.1.fM r18.2) 1 _ hr20) ok_laws_heldOp [1026] rfl rfl (low_cons (low_g (lowc_cons rfl (lowc_cons rfl (lowc_cons rfl (lowc_cons rfl (lowc_cons rfl (lowc_cons rfl (lowc_cons rfl (lowc_cons rfl (lowc_cons rfl (lowc_cons (low_lentV (l := r18.2) enOk_u8 (by simp only [List.length_set, c13, c19]) rfl rfl) (lowc_nil)))))))))))) (low_cons (rfl) (low_nil))) rfl) rfl ?_
                refine v0 (sA rfl [] rfl) rfl ?_
                refine ve ?_
                refine W2 [0, 3, 4, 6, 9, 10] [101, 102] [1026] (l := [(0, .c (.row _ _ _)), (3, .c (.ptr _ _ _ _)), (4, .c (.bool _)), (6, .c (.ptr _ _ _ _)), (9, .c (.int _ _)), (10, .c (.int _ _))]) (h := [(101, ⟨0, 10, [[.int _ _, .int _ _, .int _ _, .int _ _, .int _ _, .int _ _, .int _ _, .int _ _, .int _ _, .row _ _ _]]⟩), (102, ⟨0, 10, [[.int _ _, .int _ _, .int _ _, .int _ _, .int _ _, .int _ _, .int _ _, .int _ _, .int _ _, .own _ _ _ _]]⟩)]) (h' := [(1026, ⟨0, 1, r18.2.map en_u8⟩)]) ⟨⟨_, rfl, enOk_u8.allClosed _ _ r18.2⟩, trivial⟩ rfl rfl rfl ?_
                refine W_seq ?_
                refine W_seq ?_
                refine W_regV he rfl ?_
                refine v0 (sM rfl [] rfl) rfl ?_
                refine vB (sBi rfl rfl rfl rfl) rfl rfl fun b21 hb21 => ?_
                cases b21 with
                | true =>
                  replace h := brT hb21 h
                  refine ve ?_
                  refine W2 [0, 3, 4, 6, 9, 10, 66] [101, 102] [1026] (l := [(0, .c (.row _ _ _)), (3, .c (.ptr _ _ _ _)), (4, .c (.bool _)), (6, .c (.ptr _ _ _ _)), (9, .c (.int _ _)), (10, .c (.int _ _)), (66, .c (.bool true))]) (h := [(101, ⟨0, 10, [[.int _ _, .int _ _, .int _ _, .int _ _, .int _ _, .int _ _, .int _ _, .int _ _, .int _ _, .row _ _ _]]⟩), (102, ⟨0, 10, [[.int _ _, .int _ _, .int _ _, .int _ _, .int _ _, .int _ _, .int _ _, .int _ _, .int _ _, .own _ _ _ _]]⟩)]) (h' := [(1026, ⟨0, 1, r18.2.map en_u8⟩)]) ⟨⟨_, rfl, enOk_u8.allClosed _ _ r18.2⟩, trivial⟩ rfl rfl rfl ?_
                  refine W_true rfl ?_
                  refine W_seq ?_
                  refine W_regV he rfl ?_
                  refine v0 (sA rfl [] rfl) rfl ?_
                  refine ve ?_
                  refine W2 [2] [] [] (l := [(2, .c (.bool false))]) (h := []) (h' := []) trivial rfl rfl rfl ?_
                  obtain rfl := Option.some.inj h
                  exact W_ret (r0 rfl rfl)
                | false =>
                  replace h := brF hb21 h
                  refine ve ?_
                  refine W2 [0, 3, 4, 6, 9, 10, 66] [101, 102] [1026] (l := [(0, .c (.row _ _ _)), (3, .c (.ptr _ _ _ _)), (4, .c (.bool _)), (6, .c (.ptr _ _ _ _)), (9, .c (.int _ _)), (10, .c (.int _ _)), (66, .c (.bool false))]) (h := [(101, ⟨0, 10, [[.int _ _, .int _ _, .int _ _, .int _ _, .int _ _, .int _ _, .int _ _, .int _ _, .int _ _, .row _ _ _]]⟩), (102, ⟨0, 10, [[.int _ _, .int _ _, .int _ _, .int _ _, .int _ _, .int _ _, .int _ _, .int _ _, .int _ _, .own _ _ _ _]]⟩)]) (h' := [(1026, ⟨0, 1, r18.2.map en_u8⟩)]) ⟨⟨_, rfl, enOk_u8.allClosed _ _ r18.2⟩, trivial⟩ rfl rfl rfl ?_
                  refine W_false rfl ?_
                  refine W_skip ?_
                  refine W_seq ?_
                  refine W_seq ?_
                  refine W_regV he rfl ?_
                  refine v0 (sM rfl [] rfl) rfl ?_
                  refine v0 (sM rfl [] rfl) rfl ?_
                  refine vB (sBi rfl rfl rfl rfl) rfl rfl fun b22 hb22 => ?_
                  cases b22 with
                  | true =>
                    replace h := brT hb22 h
                    refine ve ?_
                    refine W2 [0, 3, 4, 6, 9, 69] [101, 102] [1026] (l := [(0, .c (.row _ _ _)), (3, .c (.ptr _ _ _ _)), (4, .c (.bool _)), (6, .c (.ptr _ _ _ _)), (9, .c (.int _ _)), (69, .c (.bool true))]) (h := [(101, ⟨0, 10, [[.int _ _, .int _ _, .int _ _, .int _ _, .int _ _, .int _ _, .int _ _, .int _ _, .int _ _, .row _ _ _]]⟩), (102, ⟨0, 10, [[.int _ _, .int _ _, .int _ _, .int _ _, .int _ _, .int _ _, .int _ _, .int _ _, .int _ _, .own _ _ _ _]]⟩)]) (h' := [(1026, ⟨0, 1, r18.2.map en_u8⟩)]) ⟨⟨_, rfl, enOk_u8.allClosed _ _ r18.2⟩, trivial⟩ rfl rfl rfl ?_
                    refine W_true rfl ?_
                    refine W_seq ?_
                    refine W_regV he rfl ?_
                    refine v0 (sA rfl [] rfl) rfl ?_
                    refine ve ?_
                    refine W2 [2] [] [] (l := [(2, .c (.bool false))]) (h := []) (h' := []) trivial rfl rfl rfl ?_
                    obtain rfl := Option.some.inj h
                    exact W_ret (r0 rfl rfl)
                  | false =>
                    replace h := brF hb22 h
                    refine ve ?_
                    refine W2 [0, 3, 4, 6, 9, 69] [101, 102] [1026] (l := [(0, .c (.row _ _ _)), (3, .c (.ptr _ _ _ _)), (4, .c (.bool _)), (6, .c (.ptr _ _ _ _)), (9, .c (.int _ _)), (69, .c (.bool false))]) (h := [(101, ⟨0, 10, [[.int _ _, .int _ _, .int _ _, .int _ _, .int _ _, .int _ _, .int _ _, .int _ _, .int _ _, .row _ _ _]]⟩), (102, ⟨0, 10, [[.int _ _, .int _ _, .int _ _, .int _ _, .int _ _, .int _ _, .int _ _, .int _ _, .int _ _, .own _ _ _ _]]⟩)]) (h' := [(1026, ⟨0, 1, r18.2.map en_u8⟩)]) ⟨⟨_, rfl, enOk_u8.allClosed _ _ r18.2⟩, trivial⟩ rfl rfl rfl ?_
                    refine W_false rfl ?_
                    refine W_skip ?_
                    refine W_seq ?_
                    refine W_regV he rfl ?_
                    refine v0 (sM rfl [] rfl) rfl ?_
                    obtain ⟨r23, hr23, h⟩ := bnd2 h
                    refine v0 (sCm (w_laws_toByteS K a0 _ hr23) ok_laws_toByteS rfl rfl rfl rfl) rfl ?_
                    obtain ⟨r24, hr24, h⟩ := bnd2 h
                    refine v0 (sCm (w_impl_GetOp K r23 _ hr24) ok_impl_GetOp rfl rfl rfl rfl) rfl ?_
                    refine v0 (sM rfl [] rfl) rfl ?_
                    refine v0 (sEx rfl rfl rfl) rfl ?_
                    refine v0 (sEx rfl rfl rfl) rfl ?_
                    refine v0 (sAl rfl rfl 103 rfl) rfl ?_
                    refine v0 (sSt rfl rfl [] rfl rfl) rfl ?_
                    refine v0 (sA rfl [] rfl) rfl ?_
                    refine ve ?_
                    refine W2 [3, 4, 6, 9, 11, 12] [101, 102, 103] [1026] (l := [(3, .c (.ptr _ _ _ _)), (4, .c (.bool _)), (6, .c (.ptr _ _ _ _)), (9, .c (.int _ _)), (11, .c (.ptr _ _ _ _)), (12, .c (.bool _))]) (h := [(101, ⟨0, 10, [[.int _ _, .int _ _, .int _ _, .int _ _, .int _ _, .int _ _, .int _ _, .int _ _, .int _ _, .row _ _ _]]⟩), (102, ⟨0, 10, [[.int _ _, .int _ _, .int _ _, .int _ _, .int _ _, .int _ _, .int _ _, .int _ _, .int _ _, .own _ _ _ _]]⟩), (103, ⟨0, 10, [[.int _ _, .int _ _, .int _ _, .int _ _, .int _ _, .int _ _, .int _ _, .int _ _, .int _ _, .row _ _ _]]⟩)]) (h' := [(1026, ⟨0, 1, r18.2.map en_u8⟩)]) ⟨⟨_, rfl, enOk_u8.allClosed _ _ r18.2⟩, trivial⟩ rfl rfl rfl ?_
                    refine W_seq ?_
                    refine W_seq ?_
                    refine W_regV he rfl ?_
                    refine v0 (sLd rfl rfl) rfl ?_
                    refine v0 (sLd rfl rfl) rfl ?_
                    obtain ⟨r25, hr25, h⟩ := bnd2 h
                    refine vB (sCm (w_laws_eqOp K r24.1 r3.1 _ hr25) ok_laws_eqOp rfl rfl rfl rfl) rfl rfl fun b26 hb26 => ?_
                    cases b26 with
                    | true =>
                      replace h := brT hb26 h
                      refine v0 (sNt rfl rfl) rfl ?_
                      refine v0 (sM rfl [] rfl) rfl ?_
                      refine u0 (sM rfl [] rfl) rfl rfl rfl ?_
                      refine u0 (sM rfl [] rfl) rfl rfl rfl ?_
                      refine uB (sBe rfl (.inr rfl) rfl rfl rfl rfl) rfl rfl rfl rfl fun b27 hb27 => ?_
                      cases b27 with
                      | true =>
                        replace h := brT hb27 h
                        refine v0 (sPk rfl [] rfl rfl) rfl ?_
                        refine ve ?_
                        refine W2 [6, 9, 84] [102] [1026] (l := [(6, .c (.ptr _ _ _ _)), (9, .c (.int _ _)), (84, .c (.bool true))]) (h := [(102, ⟨0, 10, [[.int _ _, .int _ _, .int _ _, .int _ _, .int _ _, .int _ _, .int _ _, .int _ _, .int _ _, .own _ _ _ _]]⟩)]) (h' := [(1026, ⟨0, 1, r18.2.map en_u8⟩)]) ⟨⟨_, rfl, enOk_u8.allClosed _ _ r18.2⟩, trivial⟩ rfl rfl rfl ?_
                        refine W_true rfl ?_
                        refine W_seq ?_
                        refine W_regV he rfl ?_
                        refine v0 (sA rfl [] rfl) rfl ?_
                        refine ve ?_
                        refine W2 [2] [] [] (l := [(2, .c (.bool false))]) (h := []) (h' := []) trivial rfl rfl rfl ?_
                        obtain rfl := Option.some.inj h
                        exact W_ret (r0 rfl rfl)
                      | false =>
                        replace h := brF hb27 h
                        refine v0 (sPk rfl [] rfl rfl) rfl ?_
                        refine ve ?_
                        refine W2 [6, 9, 84] [102] [1026] (l := [(6, .c (.ptr _ _ _ _)), (9, .c (.int _ _)), (84, .c (.bool false))]) (h := [(102, ⟨0, 10, [[.int _ _, .int _ _, .int _ _, .int _ _, .int _ _, .int _ _, .int _ _, .int _ _, .int _ _, .own _ _ _ _]]⟩)]) (h' := [(1026, ⟨0, 1, r18.2.map en_u8⟩)]) ⟨⟨_, rfl, enOk_u8.allClosed _ _ r18.2⟩, trivial⟩ rfl rfl rfl ?_
                        refine W_false rfl ?_
                        refine W_skip ?_
                        refine W_seq ?_
                        refine W_regV he rfl ?_
                        refine v0 (sA rfl [] rfl) rfl ?_
                        refine ve ?_
                        refine W2 [6, 9, 10] [102] [1026] (l := [(6, .c (.ptr _ _ _ _)), (9, .c (.int _ _)), (10, .c (.int _ _))]) (h := [(102, ⟨0, 10, [[.int _ _, .int _ _, .int _ _, .int _ _, .int _ _, .int _ _, .int _ _, .int _ _, .int _ _, .own _ _ _ _]]⟩)]) (h' := [(1026, ⟨0, 1, r18.2.map en_u8⟩)]) ⟨⟨_, rfl, enOk_u8.allClosed _ _ r18.2⟩, trivial⟩ rfl rfl rfl ?_
                        refine W_seq ?_
                        refine W_regV he rfl ?_
                        refine v0 (sLd rfl rfl) rfl ?_
                        refine v0 (sM rfl [] rfl) rfl ?_
                        obtain ⟨r28, hr28, h⟩ := bnd2 h
                        refine v0 (sCle (w_laws_heldOp K (T_impl_Op.mk r5.1.fKind r5.1.fH r5.1.fR r5.1.fN r5.1.fM r18.2) 1 _ hr28) ok_laws_heldOp [1026] rfl rfl (low_cons (low_g (lowc_cons rfl (lowc_cons rfl (lowc_cons rfl (lowc_cons rfl (lowc_cons rfl (lowc_cons rfl (lowc_cons rfl (lowc_cons rfl (lowc_cons rfl (lowc_cons (low_lentV (l := r18.2) enOk_u8 (by simp only [List.length_set, c13, c19]) rfl rfl) (lowc_nil)))))))))))) (low_cons (rfl) (low_nil))) rfl) rfl ?_
                        refine v0 (sA rfl [] rfl) rfl ?_
                        refine ve ?_
                        refine W2 [9, 10] [] [] (l := [(9, .c (.int _ _)), (10, .c (.int _ _))]) (h := []) (h' := []) trivial rfl rfl rfl ?_
                        refine W_seq ?_
                        refine W_seq ?_
                        refine W_regV he rfl ?_
                        refine v0 (sM rfl [] rfl) rfl ?_
                        refine vB (sBi rfl rfl rfl rfl) rfl rfl fun b29 hb29 => ?_
                        cases b29 with
                        | true =>
                          replace h := brT hb29 h
                          refine ve ?_
                          refine W2 [9, 10, 89] [] [] (l := [(9, .c (.int _ _)), (10, .c (.int _ _)), (89, .c (.bool true))]) (h := []) (h' := []) trivial rfl rfl rfl ?_
                          refine W_true rfl ?_
                          refine W_seq ?_
                          refine W_regV he rfl ?_
                          refine v0 (sA rfl [] rfl) rfl ?_
                          refine ve ?_
                          refine W2 [2] [] [] (l := [(2, .c (.bool false))]) (h := []) (h' := []) trivial rfl rfl rfl ?_
                          obtain rfl := Option.some.inj h
                          exact W_ret (r0 rfl rfl)
                        | false =>
                          replace h := brF hb29 h
                          refine ve ?_
                          refine W2 [9, 10, 89] [] [] (l := [(9, .c (.int _ _)), (10, .c (.int _ _)), (89, .c (.bool false))]) (h := []) (h' := []) trivial rfl rfl rfl ?_
                          refine W_false rfl ?_
                          refine W_skip ?_
                          refine W_seq ?_
                          refine W_seq ?_
                          refine W_regV he rfl ?_
                          refine v0 (sM rfl [] rfl) rfl ?_
                          refine v0 (sM rfl [] rfl) rfl ?_
                          refine vB (sBi rfl rfl rfl rfl) rfl rfl fun b30 hb30 => ?_
                          cases b30 with
                          | true =>
                            replace h := brT hb30 h
                            refine ve ?_
                            refine W2 [92] [] [] (l := [(92, .c (.bool true))]) (h := []) (h' := []) trivial rfl rfl rfl ?_
                            refine W_true rfl ?_
                            refine W_seq ?_
                            refine W_regV he rfl ?_
                            refine v0 (sA rfl [] rfl) rfl ?_
                            refine ve ?_
                            refine W2 [2] [] [] (l := [(2, .c (.bool false))]) (h := []) (h' := []) trivial rfl rfl rfl ?_
                            obtain rfl := Option.some.inj h
                            exact W_ret (r0 rfl rfl)
                          | false =>
                            replace h := brF hb30 h
                            refine ve ?_
                            refine W2 [92] [] [] (l := [(92, .c (.bool false))]) (h := []) (h' := []) trivial rfl rfl rfl ?_
                            refine W_false rfl ?_
                            refine W_skip ?_
                            refine W_seq ?_
                            refine W_regV he rfl ?_
                            refine v0 (sA rfl [] rfl) rfl ?_
                            refine ve ?_
                            refine W2 [2] [] [] (l := [(2, .c (.bool true))]) (h := []) (h' := []) trivial rfl rfl rfl ?_
                            obtain rfl := Option.some.inj h
                            exact W_ret (r0 rfl rfl)
                    | false =>
                      replace h := brF hb26 h
                      refine v0 (sNt rfl rfl) rfl ?_
                      refine v0 (sM rfl [] rfl) rfl ?_
                      refine uP rfl rfl rfl rfl ?_
                      refine uP rfl rfl rfl rfl ?_
                      refine uP rfl rfl rfl rfl ?_
                      refine v0 (sPk rfl [] rfl rfl) rfl ?_
                      refine ve ?_
                      refine W2 [6, 9, 84] [102] [1026] (l := [(6, .c (.ptr _ _ _ _)), (9, .c (.int _ _)), (84, .c (.bool true))]) (h := [(102, ⟨0, 10, [[.int _ _, .int _ _, .int _ _, .int _ _, .int _ _, .int _ _, .int _ _, .int _ _, .int _ _, .own _ _ _ _]]⟩)]) (h' := [(1026, ⟨0, 1, r18.2.map en_u8⟩)]) ⟨⟨_, rfl, enOk_u8.allClosed _ _ r18.2⟩, trivial⟩ rfl rfl rfl ?_
                      refine W_true rfl ?_
                      refine W_seq ?_
                      refine W_regV he rfl ?_
                      refine v0 (sA rfl [] rfl) rfl ?_
                      refine ve ?_
                      refine W2 [2] [] [] (l := [(2, .c (.bool false))]) (h := []) (h' := []) trivial rfl rfl rfl ?_
                      obtain rfl := Option.some.inj h
                      exact W_ret (r0 rfl rfl)
            | false =>
              replace h := brF hb16 h
              refine u0 (sNt rfl rfl) rfl rfl rfl ?_
              refine v0 (sPk rfl [] rfl rfl) rfl ?_
              refine v0 (sM rfl [] rfl) rfl ?_
              refine uP rfl rfl rfl rfl ?_
              refine uP rfl rfl rfl rfl ?_
              refine uP rfl rfl rfl rfl ?_
              refine v0 (sPk rfl [] rfl rfl) rfl ?_
              refine ve ?_
              refine W2 [0, 3, 4, 6, 58] [101, 102] [1026] (l := [(0, .c (.row _ _ _)), (3, .c (.ptr _ _ _ _)), (4, .c (.bool _)), (6, .c (.ptr _ _ _ _)), (58, .c (.bool true))]) (h := [(101, ⟨0, 10, [[.int _ _, .int _ _, .int _ _, .int _ _, .int _ _, .int _ _, .int _ _, .int _ _, .int _ _, .row _ _ _]]⟩), (102, ⟨0, 10, [[.int _ _, .int _ _, .int _ _, .int _ _, .int _ _, .int _ _, .int _ _, .int _ _, .int _ _, .own _ _ _ _]]⟩)]) (h' := [(1026, ⟨0, 1, r5.1.fB.map en_u8⟩)]) ⟨⟨_, rfl, enOk_u8.allClosed _ _ r5.1.fB⟩, trivial⟩ rfl rfl rfl ?_
              refine W_true rfl ?_
              refine W_seq ?_
              refine W_regV he rfl ?_
              refine v0 (sA rfl [] rfl) rfl ?_
              refine ve ?_
              refine W2 [2] [] [] (l := [(2, .c (.bool false))]) (h := []) (h' := []) trivial rfl rfl rfl ?_
              obtain rfl := Option.some.inj h
              exact W_ret (r0 rfl rfl)
        | false =>
          replace h := brF hb11 h
          refine v0 (sNt rfl rfl) rfl ?_
          refine ve ?_
          refine W2 [0, 3, 4, 5, 6, 7, 42] [101, 102] [1005, 1026] (l := [(0, .c (.row _ _ _)), (3, .c (.ptr _ _ _ _)), (4, .c (.bool _)), (5, .c (.own _ _ _ _)), (6, .c (.ptr _ _ _ _)), (7, .c (.bool _)), (42, .c (.bool true))]) (h := [(101, ⟨0, 10, [[.int _ _, .int _ _, .int _ _, .int _ _, .int _ _, .int _ _, .int _ _, .int _ _, .int _ _, .row _ _ _]]⟩), (102, ⟨0, 10, [[.int _ _, .int _ _, .int _ _, .int _ _, .int _ _, .int _ _, .int _ _, .int _ _, .int _ _, .own _ _ _ _]]⟩)]) (h' := [(1005, ⟨0, 1, r4.map en_u8⟩), (1026, ⟨0, 1, r5.1.fB.map en_u8⟩)]) ⟨⟨_, rfl, enOk_u8.allClosed _ _ r4⟩, ⟨⟨_, rfl, enOk_u8.allClosed _ _ r5.1.fB⟩, trivial⟩⟩ rfl rfl rfl ?_
          refine W_true rfl ?_
          refine W_seq ?_
          refine W_regV he rfl ?_
          refine v0 (sA rfl [] rfl) rfl ?_
          refine ve ?_
          refine W2 [2] [] [] (l := [(2, .c (.bool false))]) (h := []) (h' := []) trivial rfl rfl rfl ?_
          obtain rfl := Option.some.inj h
          exact W_ret (r0 rfl rfl)
    | false =>
      replace h := brF hb7 h
      refine v0 (sNt rfl rfl) rfl ?_
      refine v0 (sM rfl [] rfl) rfl ?_
      refine uP rfl rfl rfl rfl ?_
      refine uP rfl rfl rfl rfl ?_
      refine uP rfl rfl rfl rfl ?_
      refine v0 (sPk rfl [] rfl rfl) rfl ?_
      refine ve ?_
      refine W2 [0, 3, 4, 5, 6, 7, 37] [101, 102] [1005, 1026] (l := [(0, .c (.row _ _ _)), (3, .c (.ptr _ _ _ _)), (4, .c (.bool _)), (5, .c (.own _ _ _ _)), (6, .c (.ptr _ _ _ _)), (7, .c (.bool _)), (37, .c (.bool true))]) (h := [(101, ⟨0, 10, [[.int _ _, .int _ _, .int _ _, .int _ _, .int _ _, .int _ _, .int _ _, .int _ _, .int _ _, .row _ _ _]]⟩), (102, ⟨0, 10, [[.int _ _, .int _ _, .int _ _, .int _ _, .int _ _, .int _ _, .int _ _, .int _ _, .int _ _, .own _ _ _ _]]⟩)]) (h' := [(1005, ⟨0, 1, r4.map en_u8⟩), (1026, ⟨0, 1, r5.1.fB.map en_u8⟩)]) ⟨⟨_, rfl, enOk_u8.allClosed _ _ r4⟩, ⟨⟨_, rfl, enOk_u8.allClosed _ _ r5.1.fB⟩, trivial⟩⟩ rfl rfl rfl ?_
      refine W_true rfl ?_
      refine W_seq ?_
      refine W_regV he rfl ?_
      refine v0 (sA rfl [] rfl) rfl ?_
      refine ve ?_
      refine W2 [2] [] [] (l := [(2, .c (.bool false))]) (h := []) (h' := []) trivial rfl rfl rfl ?_
      obtain rfl := Option.some.inj h
      exact W_ret (r0 rfl rfl)
theorem ok_laws_FnExactGetOp : FnOk Try.prog 13 := ⟨_, Try.func13, rfl, rfl⟩


def Wf_u8 (x : Int) : Prop := (Lit.int .u8 x).wf = true
def Wf_i64 (x : Int) : Prop := (Lit.int .i64 x).wf = true
def Wf_impl_Handle (x : T_impl_Handle) : Prop := Wf_i64 x.fSlot ∧ Wf_i64 x.fGen
def Wf_impl_Ref (x : T_impl_Ref) : Prop := Wf_impl_Handle x.fH ∧ Wf_i64 x.fEp ∧ Wf_i64 x.fNo
def Wf_Lu8 (x : List Int) : Prop := (∀ a ∈ x, Wf_u8 a) ∧ x.length * 1 ≤ reachBytes ∧ x.length ≤ maxLen
def Wf_impl_Op (x : T_impl_Op) : Prop := Wf_i64 x.fKind ∧ Wf_impl_Handle x.fH ∧ Wf_impl_Ref x.fR ∧ Wf_i64 x.fN ∧ Wf_i64 x.fM ∧ Wf_Lu8 x.fB
theorem lf_u8 {v : V} (h : Lf tab 5 v) : ∃ a, v = .int .u8 a ∧ Wf_u8 a := lf_int h rfl rfl
theorem ro_u8 (x : List V) (hl : x.length = 1) (h : ∀ (i : Nat) l v, ([5] : List Nat)[i]? = some l → x[i]? = some v → Lf tab l v) : ∃ a, x = en_u8 a ∧ Wf_u8 a := by
  match x, hl with
  | [v0], _ =>
    obtain ⟨x0, rfl, w0⟩ := lf_u8 (h 0 _ _ rfl rfl)
    exact ⟨x0, rfl, w0⟩
theorem ta_u8 {x : A} (h : TA tab 5 x) : ∃ a, x = .c (.int .u8 a) ∧ Wf_u8 a := let ⟨v, e, h1⟩ := ta_one h rfl rfl; let ⟨a, e2, w⟩ := lf_u8 h1; ⟨a, by rw [e, e2], w⟩
theorem lf_i64 {v : V} (h : Lf tab 3 v) : ∃ a, v = .int .i64 a ∧ Wf_i64 a := lf_int h rfl rfl
theorem ro_i64 (x : List V) (hl : x.length = 1) (h : ∀ (i : Nat) l v, ([3] : List Nat)[i]? = some l → x[i]? = some v → Lf tab l v) : ∃ a, x = en_i64 a ∧ Wf_i64 a := by
  match x, hl with
  | [v0], _ =>
    obtain ⟨x0, rfl, w0⟩ := lf_i64 (h 0 _ _ rfl rfl)
    exact ⟨x0, rfl, w0⟩
theorem ta_i64 {x : A} (h : TA tab 3 x) : ∃ a, x = .c (.int .i64 a) ∧ Wf_i64 a := let ⟨v, e, h1⟩ := ta_one h rfl rfl; let ⟨a, e2, w⟩ := lf_i64 h1; ⟨a, by rw [e, e2], w⟩
theorem ro_impl_Handle (x : List V) (hl : x.length = 2) (h : ∀ (i : Nat) l v, ([3, 3] : List Nat)[i]? = some l → x[i]? = some v → Lf tab l v) : ∃ a, x = en_impl_Handle a ∧ Wf_impl_Handle a := by
  match x, hl with
  | [v0, v1], _ =>
    obtain ⟨x0, rfl, w0⟩ := lf_i64 (h 0 _ _ rfl rfl)
    obtain ⟨x1, rfl, w1⟩ := lf_i64 (h 1 _ _ rfl rfl)
    exact ⟨(T_impl_Handle.mk x0 x1), rfl, ⟨w0, w1⟩⟩
theorem ta_impl_Handle {x : A} (h : TA tab 46 x) : ∃ a, x = .g [.int .i64 a.fSlot, .int .i64 a.fGen] ∧ Wf_impl_Handle a := let ⟨vs, e, h1, h2⟩ := ta_agg h rfl rfl rfl; let ⟨a, e2, w⟩ := ro_impl_Handle vs h1 h2; ⟨a, by rw [e, e2]; rfl, w⟩
theorem ro_impl_Ref (x : List V) (hl : x.length = 4) (h : ∀ (i : Nat) l v, ([3, 3, 3, 3] : List Nat)[i]? = some l → x[i]? = some v → Lf tab l v) : ∃ a, x = en_impl_Ref a ∧ Wf_impl_Ref a := by
  match x, hl with
  | [v0, v1, v2, v3], _ =>
    obtain ⟨x0, rfl, w0⟩ := lf_i64 (h 0 _ _ rfl rfl)
    obtain ⟨x1, rfl, w1⟩ := lf_i64 (h 1 _ _ rfl rfl)
    obtain ⟨x2, rfl, w2⟩ := lf_i64 (h 2 _ _ rfl rfl)
    obtain ⟨x3, rfl, w3⟩ := lf_i64 (h 3 _ _ rfl rfl)
    exact ⟨(T_impl_Ref.mk (T_impl_Handle.mk x0 x1) x2 x3), rfl, ⟨⟨w0, w1⟩, w2, w3⟩⟩
theorem ta_impl_Ref {x : A} (h : TA tab 48 x) : ∃ a, x = .g [.int .i64 a.fH.fSlot, .int .i64 a.fH.fGen, .int .i64 a.fEp, .int .i64 a.fNo] ∧ Wf_impl_Ref a := let ⟨vs, e, h1, h2⟩ := ta_agg h rfl rfl rfl; let ⟨a, e2, w⟩ := ro_impl_Ref vs h1 h2; ⟨a, by rw [e, e2]; rfl, w⟩
theorem lf_Lu8 {v : V} (h : Lf tab 30 v) : ∃ a, v = .row false 1 (a.map en_u8) ∧ Wf_Lu8 a := let ⟨l, e, h1, h2, h3⟩ := lf_row h rfl rfl rfl rfl ro_u8; ⟨l, e, h1, h2, h3⟩
theorem ro_Lu8 (x : List V) (hl : x.length = 1) (h : ∀ (i : Nat) l v, ([30] : List Nat)[i]? = some l → x[i]? = some v → Lf tab l v) : ∃ a, x = en_Lu8 a ∧ Wf_Lu8 a := by
  match x, hl with
  | [v0], _ =>
    obtain ⟨x0, rfl, w0⟩ := lf_Lu8 (h 0 _ _ rfl rfl)
    exact ⟨x0, rfl, w0⟩
theorem ta_Lu8 {x : A} (h : TA tab 30 x) : ∃ a, x = .c (.row false 1 (a.map en_u8)) ∧ Wf_Lu8 a := let ⟨v, e, h1⟩ := ta_one h rfl rfl; let ⟨a, e2, w⟩ := lf_Lu8 h1; ⟨a, by rw [e, e2], w⟩
theorem ro_impl_Op (x : List V) (hl : x.length = 10) (h : ∀ (i : Nat) l v, ([3, 3, 3, 3, 3, 3, 3, 3, 3, 30] : List Nat)[i]? = some l → x[i]? = some v → Lf tab l v) : ∃ a, x = en_impl_Op a ∧ Wf_impl_Op a := by
  match x, hl with
  | [v0, v1, v2, v3, v4, v5, v6, v7, v8, v9], _ =>
    obtain ⟨x0, rfl, w0⟩ := lf_i64 (h 0 _ _ rfl rfl)
    obtain ⟨x1, rfl, w1⟩ := lf_i64 (h 1 _ _ rfl rfl)
    obtain ⟨x2, rfl, w2⟩ := lf_i64 (h 2 _ _ rfl rfl)
    obtain ⟨x3, rfl, w3⟩ := lf_i64 (h 3 _ _ rfl rfl)
    obtain ⟨x4, rfl, w4⟩ := lf_i64 (h 4 _ _ rfl rfl)
    obtain ⟨x5, rfl, w5⟩ := lf_i64 (h 5 _ _ rfl rfl)
    obtain ⟨x6, rfl, w6⟩ := lf_i64 (h 6 _ _ rfl rfl)
    obtain ⟨x7, rfl, w7⟩ := lf_i64 (h 7 _ _ rfl rfl)
    obtain ⟨x8, rfl, w8⟩ := lf_i64 (h 8 _ _ rfl rfl)
    obtain ⟨x9, rfl, w9⟩ := lf_Lu8 (h 9 _ _ rfl rfl)
    exact ⟨(T_impl_Op.mk x0 (T_impl_Handle.mk x1 x2) (T_impl_Ref.mk (T_impl_Handle.mk x3 x4) x5 x6) x7 x8 x9), rfl, ⟨w0, ⟨w1, w2⟩, ⟨⟨w3, w4⟩, w5, w6⟩, w7, w8, w9⟩⟩
theorem ta_impl_Op {x : A} (h : TA tab 50 x) : ∃ a, x = .g [.int .i64 a.fKind, .int .i64 a.fH.fSlot, .int .i64 a.fH.fGen, .int .i64 a.fR.fH.fSlot, .int .i64 a.fR.fH.fGen, .int .i64 a.fR.fEp, .int .i64 a.fR.fNo, .int .i64 a.fN, .int .i64 a.fM, .row false 1 (a.fB.map en_u8)] ∧ Wf_impl_Op a := let ⟨vs, e, h1, h2⟩ := ta_agg h rfl rfl rfl; let ⟨a, e2, w⟩ := ro_impl_Op vs h1 h2; ⟨a, by rw [e, e2]; rfl, w⟩

theorem ownKnob0 : ownKnob Try.prog.godebug = none := by kernel_rfl
theorem laidOut0 : laidOutB Try.prog = true := by kernel_rfl
end Go.Proofs.Ytlenlhlggknelaa
