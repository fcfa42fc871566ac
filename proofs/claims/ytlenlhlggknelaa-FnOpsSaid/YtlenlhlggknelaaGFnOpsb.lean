/- Models of the program's functions, and the walks that show them. Printed by gen.py. -/
import Derived.Test.YtlenlhlggknelaaGFnOpsa
set_option linter.unusedVariables false
set_option linter.unusedSimpArgs false
namespace Go.Proofs.Ytlenlhlggknelaa
open Go.Eng Go.ChangeShapes Go.WideShapes Go.ChangeAt Go.RowKit
/-! ### loop.example/g00499/spec.OpOk -/
def j_spec_OpOk_18 (K : Nat) (a0 : T_impl_Op) (v119 : Bool) : Option (Bool) := (bif v119 then (bif (((a0.fR.fH.fSlot == 0) && ((a0.fR.fH.fGen == 0) && true)) && ((a0.fR.fEp == 0) && ((a0.fR.fNo == 0) && true))) then (bif (a0.fN == 0) then (bif (a0.fM == 0) then some ((a0.fB.length : Int) == 0) else some false) else some false) else some false) else (bif (a0.fKind == 2) then (bif (((a0.fR.fH.fSlot == 0) && ((a0.fR.fH.fGen == 0) && true)) && ((a0.fR.fEp == 0) && ((a0.fR.fNo == 0) && true))) then some ((a0.fB.length : Int) == 0) else some false) else (bif (a0.fKind == 3) then (bif ((a0.fH.fSlot == 0) && ((a0.fH.fGen == 0) && true)) then some ((a0.fB.length : Int) == 0) else some false) else (bif (a0.fKind == 4) then (bif ((a0.fH.fSlot == 0) && ((a0.fH.fGen == 0) && true)) then some (a0.fM == 0) else some false) else (bif (a0.fKind == 5) then (bif (((a0.fR.fH.fSlot == 0) && ((a0.fR.fH.fGen == 0) && true)) && ((a0.fR.fEp == 0) && ((a0.fR.fNo == 0) && true))) then (bif (a0.fM == 0) then some ((a0.fB.length : Int) == 0) else some false) else some false) else (bif (a0.fKind == 9) then (bif ((a0.fH.fSlot == 0) && ((a0.fH.fGen == 0) && true)) then (bif (((a0.fR.fH.fSlot == 0) && ((a0.fR.fH.fGen == 0) && true)) && ((a0.fR.fEp == 0) && ((a0.fR.fNo == 0) && true))) then (bif (a0.fN == 0) then (bif (a0.fM == 0) then some ((a0.fB.length : Int) == 0) else some false) else some false) else some false) else some false) else some false))))))
def m_spec_OpOk (K : Nat) (a0 : T_impl_Op) : Option (Bool) := ((m_spec_l21Num K a0.fH.fSlot).bind fun r1 => (bif r1 then ((m_spec_l21Num K a0.fH.fGen).bind fun r3 => (bif r3 then ((m_spec_l21Num K a0.fR.fH.fSlot).bind fun r5 => (bif r5 then ((m_spec_l21Num K a0.fR.fH.fGen).bind fun r7 => (bif r7 then ((m_spec_l21Num K a0.fR.fEp).bind fun r9 => (bif r9 then ((m_spec_l21Num K a0.fR.fNo).bind fun r11 => (bif r11 then ((m_spec_l21Num K a0.fN).bind fun r13 => (bif r13 then ((m_spec_l21Num K a0.fM).bind fun r15 => (bif r15 then (bif (decide ((a0.fB.length : Int) > 200)) then some false else (bif (a0.fKind == 1) then j_spec_OpOk_18 K a0 (a0.fKind == 1) else (bif (a0.fKind == 6) then j_spec_OpOk_18 K a0 (a0.fKind == 6) else (bif (a0.fKind == 7) then j_spec_OpOk_18 K a0 (a0.fKind == 7) else j_spec_OpOk_18 K a0 (a0.fKind == 8))))) else some false)) else some false)) else some false)) else some false)) else some false)) else some false)) else some false)) else some false))
set_option maxRecDepth 20000 in
set_option maxHeartbeats 8000000 in
theorem w_spec_OpOk (K : Nat) (a0 : T_impl_Op) (r : Bool) (h : m_spec_OpOk K a0 = some r) : Sp Try.prog 40 [.g [.int .i64 a0.fKind, .int .i64 a0.fH.fSlot, .int .i64 a0.fH.fGen, .int .i64 a0.fR.fH.fSlot, .int .i64 a0.fR.fH.fGen, .int .i64 a0.fR.fEp, .int .i64 a0.fR.fNo, .int .i64 a0.fN, .int .i64 a0.fM, .row false 1 (a0.fB.map en_u8)]] [] (.c (.bool r)) [] := by
  refine Sp.of_W tabOk Try.func40 rfl rfl (Nat.le_of_ble_eq_true rfl) (Nat.le_of_ble_eq_true rfl) fun F hP hN hm => ?_
  obtain ⟨P, N, w0, σ0, β0, m⟩ := F
  obtain rfl : P = Try.prog := hP
  obtain rfl : N = 162 := hN
  obtain rfl : m = 1 := hm
  have he : Env ⟨Try.prog, 162, w0, σ0, β0, 1⟩ tab := ⟨Nat.le_of_ble_eq_true rfl, tabOk⟩
  unfold m_spec_OpOk at h
  refine W_seq ?_
  refine W_regV he rfl ?_
  refine v0 (sBx rfl [] rfl rfl 101 rfl) rfl ?_
  refine v0 (sA rfl [] rfl) rfl ?_
  refine ve ?_
  refine W2 [1] [101] [] (l := [(1, .c (.ptr _ _ _ _))]) (h := [(101, ⟨0, 10, [[.int _ _, .int _ _, .int _ _, .int _ _, .int _ _, .int _ _, .int _ _, .int _ _, .int _ _, .row _ _ _]]⟩)]) (h' := []) trivial rfl rfl rfl ?_
  refine W_seq ?_
  refine W_seq ?_
  refine W_regV he rfl ?_
  refine v0 (sFP rfl rfl rfl) rfl ?_
  refine v0 (sFP rfl rfl rfl) rfl ?_
  refine v0 (sLd rfl rfl) rfl ?_
  refine bndc h ?_; clear h; intro r1 hr1 h
  refine vB (sCm (w_spec_l21Num K a0.fH.fSlot _ hr1) ok_spec_l21Num rfl rfl rfl rfl) rfl rfl fun b2 hb2 => ?_
  cases b2 with
  | true =>
    replace h := brT hb2 h
    refine v0 (sNt rfl rfl) rfl ?_
    refine v0 (sM rfl [] rfl) rfl ?_
    refine u0 (sFP rfl rfl rfl) rfl rfl rfl ?_
    refine u0 (sFP rfl rfl rfl) rfl rfl rfl ?_
    refine u0 (sLd rfl rfl) rfl rfl rfl ?_
    refine bndc h ?_; clear h; intro r3 hr3 h
    refine uB (sCm (w_spec_l21Num K a0.fH.fGen _ hr3) ok_spec_l21Num rfl rfl rfl rfl) rfl rfl rfl rfl fun b4 hb4 => ?_
    cases b4 with
    | true =>
      replace h := brT hb4 h
      refine u0 (sNt rfl rfl) rfl rfl rfl ?_
      refine v0 (sPk rfl [] rfl rfl) rfl ?_
      refine v0 (sM rfl [] rfl) rfl ?_
      refine u0 (sFP rfl rfl rfl) rfl rfl rfl ?_
      refine u0 (sFP rfl rfl rfl) rfl rfl rfl ?_
      refine u0 (sFP rfl rfl rfl) rfl rfl rfl ?_
      refine u0 (sLd rfl rfl) rfl rfl rfl ?_
      refine bndc h ?_; clear h; intro r5 hr5 h
      refine uB (sCm (w_spec_l21Num K a0.fR.fH.fSlot _ hr5) ok_spec_l21Num rfl rfl rfl rfl) rfl rfl rfl rfl fun b6 hb6 => ?_
      cases b6 with
      | true =>
        replace h := brT hb6 h
        refine u0 (sNt rfl rfl) rfl rfl rfl ?_
        refine v0 (sPk rfl [] rfl rfl) rfl ?_
        refine v0 (sM rfl [] rfl) rfl ?_
        refine u0 (sFP rfl rfl rfl) rfl rfl rfl ?_
        refine u0 (sFP rfl rfl rfl) rfl rfl rfl ?_
        refine u0 (sFP rfl rfl rfl) rfl rfl rfl ?_
        refine u0 (sLd rfl rfl) rfl rfl rfl ?_
        refine bndc h ?_; clear h; intro r7 hr7 h
        refine uB (sCm (w_spec_l21Num K a0.fR.fH.fGen _ hr7) ok_spec_l21Num rfl rfl rfl rfl) rfl rfl rfl rfl fun b8 hb8 => ?_
        cases b8 with
        | true =>
          replace h := brT hb8 h
          refine u0 (sNt rfl rfl) rfl rfl rfl ?_
          refine v0 (sPk rfl [] rfl rfl) rfl ?_
          refine v0 (sM rfl [] rfl) rfl ?_
          refine u0 (sFP rfl rfl rfl) rfl rfl rfl ?_
          refine u0 (sFP rfl rfl rfl) rfl rfl rfl ?_
          refine u0 (sLd rfl rfl) rfl rfl rfl ?_
          refine bndc h ?_; clear h; intro r9 hr9 h
          refine uB (sCm (w_spec_l21Num K a0.fR.fEp _ hr9) ok_spec_l21Num rfl rfl rfl rfl) rfl rfl rfl rfl fun b10 hb10 => ?_
          cases b10 with
          | true =>
            replace h := brT hb10 h
            refine u0 (sNt rfl rfl) rfl rfl rfl ?_
            refine v0 (sPk rfl [] rfl rfl) rfl ?_
            refine v0 (sM rfl [] rfl) rfl ?_
            refine u0 (sFP rfl rfl rfl) rfl rfl rfl ?_
            refine u0 (sFP rfl rfl rfl) rfl rfl rfl ?_
            refine u0 (sLd rfl rfl) rfl rfl rfl ?_
            refine bndc h ?_; clear h; intro r11 hr11 h
            refine uB (sCm (w_spec_l21Num K a0.fR.fNo _ hr11) ok_spec_l21Num rfl rfl rfl rfl) rfl rfl rfl rfl fun b12 hb12 => ?_
            cases b12 with
            | true =>
              replace h := brT hb12 h
              refine u0 (sNt rfl rfl) rfl rfl rfl ?_
              refine v0 (sPk rfl [] rfl rfl) rfl ?_
              refine v0 (sM rfl [] rfl) rfl ?_
              refine u0 (sFP rfl rfl rfl) rfl rfl rfl ?_
              refine u0 (sLd rfl rfl) rfl rfl rfl ?_
              refine bndc h ?_; clear h; intro r13 hr13 h
              refine uB (sCm (w_spec_l21Num K a0.fN _ hr13) ok_spec_l21Num rfl rfl rfl rfl) rfl rfl rfl rfl fun b14 hb14 => ?_
              cases b14 with
              | true =>
                replace h := brT hb14 h
                refine u0 (sNt rfl rfl) rfl rfl rfl ?_
                refine v0 (sPk rfl [] rfl rfl) rfl ?_
                refine v0 (sM rfl [] rfl) rfl ?_
                refine u0 (sFP rfl rfl rfl) rfl rfl rfl ?_
                refine u0 (sLd rfl rfl) rfl rfl rfl ?_
                refine bndc h ?_; clear h; intro r15 hr15 h
                refine uB (sCm (w_spec_l21Num K a0.fM _ hr15) ok_spec_l21Num rfl rfl rfl rfl) rfl rfl rfl rfl fun b16 hb16 => ?_
                cases b16 with
                | true =>
                  replace h := brT hb16 h
                  refine u0 (sNt rfl rfl) rfl rfl rfl ?_
                  refine v0 (sPk rfl [] rfl rfl) rfl ?_
                  refine v0 (sM rfl [] rfl) rfl ?_
                  refine u0 (sFP rfl rfl rfl) rfl rfl rfl ?_
                  refine u0 (sLd rfl rfl) rfl rfl rfl ?_
                  refine u0 (sLm rfl rfl rfl rfl) rfl rfl rfl ?_
                  refine uB (sBi rfl rfl rfl rfl) rfl rfl rfl rfl fun b17 hb17 => ?_
                  cases b17 with
                  | true =>
                    replace h := brT hb17 h
                    refine v0 (sPk rfl [] rfl rfl) rfl ?_
                    refine ve ?_
                    refine W2 [1, 64] [101] [] (l := [(1, .c (.ptr _ _ _ _)), (64, .c (.bool true))]) (h := [(101, ⟨0, 10, [[.int _ _, .int _ _, .int _ _, .int _ _, .int _ _, .int _ _, .int _ _, .int _ _, .int _ _, .row _ _ _]]⟩)]) (h' := []) trivial rfl rfl rfl ?_
                    refine W_true rfl ?_
                    refine W_seq ?_
                    refine W_regV he rfl ?_
                    refine v0 (sA rfl [] rfl) rfl ?_
                    refine ve ?_
                    refine W2 [2] [] [] (l := [(2, .c (.bool false))]) (h := []) (h' := []) trivial rfl rfl rfl ?_
                    obtain rfl := Option.some.inj h
                    exact W_ret (r0 rfl rfl)
                  | false =>
                    replace h := brF hb17 h
                    refine v0 (sPk rfl [] rfl rfl) rfl ?_
                    refine ve ?_
                    refine W2 [1, 64] [101] [] (l := [(1, .c (.ptr _ _ _ _)), (64, .c (.bool false))]) (h := [(101, ⟨0, 10, [[.int _ _, .int _ _, .int _ _, .int _ _, .int _ _, .int _ _, .int _ _, .int _ _, .int _ _, .row _ _ _]]⟩)]) (h' := []) trivial rfl rfl rfl ?_
                    refine W_false rfl ?_
                    refine W_skip ?_
                    refine W_seq ?_
                    refine W_regV he rfl ?_
                    refine v0 (sFP rfl rfl rfl) rfl ?_
                    refine v0 (sLd rfl rfl) rfl ?_
                    refine v0 (sBd rfl [] (out := [.int .i64 0, .int .i64 0]) rfl (by kernel_rfl)) rfl ?_
                    refine v0 (sEs rfl (.inl rfl) rfl rfl rfl rfl (by kernel_rfl) (by kernel_rfl) rfl rfl rfl) rfl ?_
                    refine v0 (sA rfl [] rfl) rfl ?_
                    refine ve ?_
                    refine W2 [1, 3] [101] [] (l := [(1, .c (.ptr _ _ _ _)), (3, .c (.bool _))]) (h := [(101, ⟨0, 10, [[.int _ _, .int _ _, .int _ _, .int _ _, .int _ _, .int _ _, .int _ _, .int _ _, .int _ _, .row _ _ _]]⟩)]) (h' := []) trivial rfl rfl rfl ?_
                    refine W_seq ?_
                    refine W_regV he rfl ?_
                    refine v0 (sFP rfl rfl rfl) rfl ?_
                    refine v0 (sLd rfl rfl) rfl ?_
                    refine v0 (sBd rfl [] (out := [.int .i64 0, .int .i64 0, .int .i64 0, .int .i64 0]) rfl (by kernel_rfl)) rfl ?_
                    refine v0 (sEs rfl (.inl rfl) rfl rfl rfl rfl (by kernel_rfl) (by kernel_rfl) rfl rfl rfl) rfl ?_
                    refine v0 (sA rfl [] rfl) rfl ?_
                    refine ve ?_
                    refine W2 [1, 3, 4] [101] [] (l := [(1, .c (.ptr _ _ _ _)), (3, .c (.bool _)), (4, .c (.bool _))]) (h := [(101, ⟨0, 10, [[.int _ _, .int _ _, .int _ _, .int _ _, .int _ _, .int _ _, .int _ _, .int _ _, .int _ _, .row _ _ _]]⟩)]) (h' := []) trivial rfl rfl rfl ?_
                    refine W_seq ?_
                    refine W_seq ?_
                    refine W_regV he rfl ?_
                    refine v0 (sFP rfl rfl rfl) rfl ?_
                    refine v0 (sLd rfl rfl) rfl ?_
                    refine ve ?_
                    refine W2 [1, 3, 4, 74] [101] [] (l := [(1, .c (.ptr _ _ _ _)), (3, .c (.bool _)), (4, .c (.bool _)), (74, .c (.int _ _))]) (h := [(101, ⟨0, 10, [[.int _ _, .int _ _, .int _ _, .int _ _, .int _ _, .int _ _, .int _ _, .int _ _, .int _ _, .row _ _ _]]⟩)]) (h' := []) trivial rfl rfl rfl ?_
                    refine W_block ?_
                    refine W_join (fun S => ∃ (v119 : Bool), S = StL [(1, .c (.ptr 101 0 0 0)), (3, .c (.bool ((a0.fH.fSlot == 0) && ((a0.fH.fGen == 0) && true)))), (4, .c (.bool (((a0.fR.fH.fSlot == 0) && ((a0.fR.fH.fGen == 0) && true)) && ((a0.fR.fEp == 0) && ((a0.fR.fNo == 0) && true))))), (74, .c (.int .i64 a0.fKind)), (75, .c (.bool v119))] ([(101, ⟨0, 10, [[.int .i64 a0.fKind, .int .i64 a0.fH.fSlot, .int .i64 a0.fH.fGen, .int .i64 a0.fR.fH.fSlot, .int .i64 a0.fR.fH.fGen, .int .i64 a0.fR.fEp, .int .i64 a0.fR.fNo, .int .i64 a0.fN, .int .i64 a0.fM, .row false 1 (a0.fB.map en_u8)]]⟩)] ++ []) ∧ j_spec_OpOk_18 K a0 v119 = some r) ?_ ?_
                    · rintro S ⟨v119, rfl, h⟩
                      unfold j_spec_OpOk_18 at h
                      refine W_condB rfl (fun hb120 => ?_) (fun hb120 => ?_)
                      ·
                        replace h := brT hb120 h
                        refine W_seq ?_
                        refine W_regV he rfl ?_
                        refine vB (sM rfl [] rfl) rfl rfl fun b121 hb121 => ?_
                        cases b121 with
                        | true =>
                          replace h := brT hb121 h
                          refine v0 (sM rfl [] rfl) rfl ?_
                          refine u0 (sFP rfl rfl rfl) rfl rfl rfl ?_
                          refine u0 (sLd rfl rfl) rfl rfl rfl ?_
                          refine uB (sBi rfl rfl rfl rfl) rfl rfl rfl rfl fun b122 hb122 => ?_
                          cases b122 with
                          | true =>
                            replace h := brT hb122 h
                            refine v0 (sPk rfl [] rfl rfl) rfl ?_
                            refine v0 (sM rfl [] rfl) rfl ?_
                            refine u0 (sFP rfl rfl rfl) rfl rfl rfl ?_
                            refine u0 (sLd rfl rfl) rfl rfl rfl ?_
                            refine uB (sBi rfl rfl rfl rfl) rfl rfl rfl rfl fun b123 hb123 => ?_
                            cases b123 with
                            | true =>
                              replace h := brT hb123 h
                              refine v0 (sPk rfl [] rfl rfl) rfl ?_
                              refine v0 (sM rfl [] rfl) rfl ?_
                              refine u0 (sFP rfl rfl rfl) rfl rfl rfl ?_
                              refine u0 (sLd rfl rfl) rfl rfl rfl ?_
                              refine u0 (sLm rfl rfl rfl rfl) rfl rfl rfl ?_
                              refine u0 (sBi rfl rfl rfl rfl) rfl rfl rfl ?_
                              refine v0 (sPk rfl [] rfl rfl) rfl ?_
                              refine v0 (sA rfl [] rfl) rfl ?_
                              refine ve ?_
                              refine W2 [2] [] [] (l := [(2, .c (.bool _))]) (h := []) (h' := []) trivial rfl rfl rfl ?_
                              obtain rfl := Option.some.inj h
                              exact W_ret (r0 rfl rfl)
                            | false =>
                              replace h := brF hb123 h
                              refine v0 (sPk rfl [] rfl rfl) rfl ?_
                              refine v0 (sM rfl [] rfl) rfl ?_
                              refine uP rfl rfl rfl rfl ?_
                              refine uP rfl rfl rfl rfl ?_
                              refine uP rfl rfl rfl rfl ?_
                              refine uP rfl rfl rfl rfl ?_
                              refine v0 (sPk rfl [] rfl rfl) rfl ?_
                              refine v0 (sA rfl [] rfl) rfl ?_
                              refine ve ?_
                              refine W2 [2] [] [] (l := [(2, .c (.bool false))]) (h := []) (h' := []) trivial rfl rfl rfl ?_
                              obtain rfl := Option.some.inj h
                              exact W_ret (r0 rfl rfl)
                          | false =>
                            replace h := brF hb122 h
                            refine v0 (sPk rfl [] rfl rfl) rfl ?_
                            refine v0 (sM rfl [] rfl) rfl ?_
                            refine uP rfl rfl rfl rfl ?_
                            refine uP rfl rfl rfl rfl ?_
                            refine uP rfl rfl rfl rfl ?_
                            refine v0 (sPk rfl [] rfl rfl) rfl ?_
                            refine v0 (sM rfl [] rfl) rfl ?_
                            refine uP rfl rfl rfl rfl ?_
                            refine uP rfl rfl rfl rfl ?_
                            refine uP rfl rfl rfl rfl ?_
                            refine uP rfl rfl rfl rfl ?_
                            refine v0 (sPk rfl [] rfl rfl) rfl ?_
                            refine v0 (sA rfl [] rfl) rfl ?_
                            refine ve ?_
                            refine W2 [2] [] [] (l := [(2, .c (.bool false))]) (h := []) (h' := []) trivial rfl rfl rfl ?_
                            obtain rfl := Option.some.inj h
                            exact W_ret (r0 rfl rfl)
                        | false =>
                          replace h := brF hb121 h
                          refine v0 (sM rfl [] rfl) rfl ?_
                          refine uP rfl rfl rfl rfl ?_
                          refine uP rfl rfl rfl rfl ?_
                          refine uP rfl rfl rfl rfl ?_
                          refine v0 (sPk rfl [] rfl rfl) rfl ?_
                          refine v0 (sM rfl [] rfl) rfl ?_
                          refine uP rfl rfl rfl rfl ?_
                          refine uP rfl rfl rfl rfl ?_
                          refine uP rfl rfl rfl rfl ?_
                          refine v0 (sPk rfl [] rfl rfl) rfl ?_
                          refine v0 (sM rfl [] rfl) rfl ?_
                          refine uP rfl rfl rfl rfl ?_
                          refine uP rfl rfl rfl rfl ?_
                          refine uP rfl rfl rfl rfl ?_
                          refine uP rfl rfl rfl rfl ?_
                          refine v0 (sPk rfl [] rfl rfl) rfl ?_
                          refine v0 (sA rfl [] rfl) rfl ?_
                          refine ve ?_
                          refine W2 [2] [] [] (l := [(2, .c (.bool false))]) (h := []) (h' := []) trivial rfl rfl rfl ?_
                          obtain rfl := Option.some.inj h
                          exact W_ret (r0 rfl rfl)
                      ·
                        replace h := brF hb120 h
                        refine W_seq ?_
                        refine W_regV he rfl ?_
                        refine v0 (sBi rfl rfl rfl rfl) rfl ?_
                        refine v0 (sA rfl [] rfl) rfl ?_
                        refine ve ?_
                        refine W2 [1, 3, 4, 74, 97] [101] [] (l := [(1, .c (.ptr _ _ _ _)), (3, .c (.bool _)), (4, .c (.bool _)), (74, .c (.int _ _)), (97, .c (.bool _))]) (h := [(101, ⟨0, 10, [[.int _ _, .int _ _, .int _ _, .int _ _, .int _ _, .int _ _, .int _ _, .int _ _, .int _ _, .row _ _ _]]⟩)]) (h' := []) trivial rfl rfl rfl ?_
                        refine W_condB rfl (fun hb124 => ?_) (fun hb124 => ?_)
                        ·
                          replace h := brT hb124 h
                          refine W_seq ?_
                          refine W_regV he rfl ?_
                          refine vB (sM rfl [] rfl) rfl rfl fun b125 hb125 => ?_
                          cases b125 with
                          | true =>
                            replace h := brT hb125 h
                            refine v0 (sM rfl [] rfl) rfl ?_
                            refine u0 (sFP rfl rfl rfl) rfl rfl rfl ?_
                            refine u0 (sLd rfl rfl) rfl rfl rfl ?_
                            refine u0 (sLm rfl rfl rfl rfl) rfl rfl rfl ?_
                            refine u0 (sBi rfl rfl rfl rfl) rfl rfl rfl ?_
                            refine v0 (sPk rfl [] rfl rfl) rfl ?_
                            refine v0 (sA rfl [] rfl) rfl ?_
                            refine ve ?_
                            refine W2 [2] [] [] (l := [(2, .c (.bool _))]) (h := []) (h' := []) trivial rfl rfl rfl ?_
                            obtain rfl := Option.some.inj h
                            exact W_ret (r0 rfl rfl)
                          | false =>
                            replace h := brF hb125 h
                            refine v0 (sM rfl [] rfl) rfl ?_
                            refine uP rfl rfl rfl rfl ?_
                            refine uP rfl rfl rfl rfl ?_
                            refine uP rfl rfl rfl rfl ?_
                            refine uP rfl rfl rfl rfl ?_
                            refine v0 (sPk rfl [] rfl rfl) rfl ?_
                            refine v0 (sA rfl [] rfl) rfl ?_
                            refine ve ?_
                            refine W2 [2] [] [] (l := [(2, .c (.bool false))]) (h := []) (h' := []) trivial rfl rfl rfl ?_
                            obtain rfl := Option.some.inj h
                            exact W_ret (r0 rfl rfl)
                        ·
                          replace h := brF hb124 h
                          refine W_seq ?_
                          refine W_regV he rfl ?_
                          refine v0 (sBi rfl rfl rfl rfl) rfl ?_
                          refine v0 (sA rfl [] rfl) rfl ?_
                          refine ve ?_
                          refine W2 [1, 3, 4, 74, 106] [101] [] (l := [(1, .c (.ptr _ _ _ _)), (3, .c (.bool _)), (4, .c (.bool _)), (74, .c (.int _ _)), (106, .c (.bool _))]) (h := [(101, ⟨0, 10, [[.int _ _, .int _ _, .int _ _, .int _ _, .int _ _, .int _ _, .int _ _, .int _ _, .int _ _, .row _ _ _]]⟩)]) (h' := []) trivial rfl rfl rfl ?_
                          refine W_condB rfl (fun hb126 => ?_) (fun hb126 => ?_)
                          ·
                            replace h := brT hb126 h
                            refine W_seq ?_
                            refine W_regV he rfl ?_
                            refine vB (sM rfl [] rfl) rfl rfl fun b127 hb127 => ?_
                            cases b127 with
                            | true =>
                              replace h := brT hb127 h
                              refine v0 (sM rfl [] rfl) rfl ?_
                              refine u0 (sFP rfl rfl rfl) rfl rfl rfl ?_
                              refine u0 (sLd rfl rfl) rfl rfl rfl ?_
                              refine u0 (sLm rfl rfl rfl rfl) rfl rfl rfl ?_
                              refine u0 (sBi rfl rfl rfl rfl) rfl rfl rfl ?_
                              refine v0 (sPk rfl [] rfl rfl) rfl ?_
                              refine v0 (sA rfl [] rfl) rfl ?_
                              refine ve ?_
                              refine W2 [2] [] [] (l := [(2, .c (.bool _))]) (h := []) (h' := []) trivial rfl rfl rfl ?_
                              obtain rfl := Option.some.inj h
                              exact W_ret (r0 rfl rfl)
                            | false =>
                              replace h := brF hb127 h
                              refine v0 (sM rfl [] rfl) rfl ?_
                              refine uP rfl rfl rfl rfl ?_
                              refine uP rfl rfl rfl rfl ?_
                              refine uP rfl rfl rfl rfl ?_
                              refine uP rfl rfl rfl rfl ?_
                              refine v0 (sPk rfl [] rfl rfl) rfl ?_
                              refine v0 (sA rfl [] rfl) rfl ?_
                              refine ve ?_
                              refine W2 [2] [] [] (l := [(2, .c (.bool false))]) (h := []) (h' := []) trivial rfl rfl rfl ?_
                              obtain rfl := Option.some.inj h
                              exact W_ret (r0 rfl rfl)
                          ·
                            replace h := brF hb126 h
                            refine W_seq ?_
                            refine W_regV he rfl ?_
                            refine v0 (sBi rfl rfl rfl rfl) rfl ?_
                            refine v0 (sA rfl [] rfl) rfl ?_
                            refine ve ?_
                            refine W2 [1, 3, 4, 74, 115] [101] [] (l := [(1, .c (.ptr _ _ _ _)), (3, .c (.bool _)), (4, .c (.bool _)), (74, .c (.int _ _)), (115, .c (.bool _))]) (h := [(101, ⟨0, 10, [[.int _ _, .int _ _, .int _ _, .int _ _, .int _ _, .int _ _, .int _ _, .int _ _, .int _ _, .row _ _ _]]⟩)]) (h' := []) trivial rfl rfl rfl ?_
                            refine W_condB rfl (fun hb128 => ?_) (fun hb128 => ?_)
                            ·
                              replace h := brT hb128 h
                              refine W_seq ?_
                              refine W_regV he rfl ?_
                              refine vB (sM rfl [] rfl) rfl rfl fun b129 hb129 => ?_
                              cases b129 with
                              | true =>
                                replace h := brT hb129 h
                                refine v0 (sM rfl [] rfl) rfl ?_
                                refine u0 (sFP rfl rfl rfl) rfl rfl rfl ?_
                                refine u0 (sLd rfl rfl) rfl rfl rfl ?_
                                refine u0 (sBi rfl rfl rfl rfl) rfl rfl rfl ?_
                                refine v0 (sPk rfl [] rfl rfl) rfl ?_
                                refine v0 (sA rfl [] rfl) rfl ?_
                                refine ve ?_
                                refine W2 [2] [] [] (l := [(2, .c (.bool _))]) (h := []) (h' := []) trivial rfl rfl rfl ?_
                                obtain rfl := Option.some.inj h
                                exact W_ret (r0 rfl rfl)
                              | false =>
                                replace h := brF hb129 h
                                refine v0 (sM rfl [] rfl) rfl ?_
                                refine uP rfl rfl rfl rfl ?_
                                refine uP rfl rfl rfl rfl ?_
                                refine uP rfl rfl rfl rfl ?_
                                refine v0 (sPk rfl [] rfl rfl) rfl ?_
                                refine v0 (sA rfl [] rfl) rfl ?_
                                refine ve ?_
                                refine W2 [2] [] [] (l := [(2, .c (.bool false))]) (h := []) (h' := []) trivial rfl rfl rfl ?_
                                obtain rfl := Option.some.inj h
                                exact W_ret (r0 rfl rfl)
                            ·
                              replace h := brF hb128 h
                              refine W_seq ?_
                              refine W_regV he rfl ?_
                              refine v0 (sBi rfl rfl rfl rfl) rfl ?_
                              refine v0 (sA rfl [] rfl) rfl ?_
                              refine ve ?_
                              refine W2 [1, 3, 4, 123] [101] [] (l := [(1, .c (.ptr _ _ _ _)), (3, .c (.bool _)), (4, .c (.bool _)), (123, .c (.bool _))]) (h := [(101, ⟨0, 10, [[.int _ _, .int _ _, .int _ _, .int _ _, .int _ _, .int _ _, .int _ _, .int _ _, .int _ _, .row _ _ _]]⟩)]) (h' := []) trivial rfl rfl rfl ?_
                              refine W_condB rfl (fun hb130 => ?_) (fun hb130 => ?_)
                              ·
                                replace h := brT hb130 h
                                refine W_seq ?_
                                refine W_regV he rfl ?_
                                refine vB (sM rfl [] rfl) rfl rfl fun b131 hb131 => ?_
                                cases b131 with
                                | true =>
                                  replace h := brT hb131 h
                                  refine v0 (sM rfl [] rfl) rfl ?_
                                  refine u0 (sFP rfl rfl rfl) rfl rfl rfl ?_
                                  refine u0 (sLd rfl rfl) rfl rfl rfl ?_
                                  refine uB (sBi rfl rfl rfl rfl) rfl rfl rfl rfl fun b132 hb132 => ?_
                                  cases b132 with
                                  | true =>
                                    replace h := brT hb132 h
                                    refine v0 (sPk rfl [] rfl rfl) rfl ?_
                                    refine v0 (sM rfl [] rfl) rfl ?_
                                    refine u0 (sFP rfl rfl rfl) rfl rfl rfl ?_
                                    refine u0 (sLd rfl rfl) rfl rfl rfl ?_
                                    refine u0 (sLm rfl rfl rfl rfl) rfl rfl rfl ?_
                                    refine u0 (sBi rfl rfl rfl rfl) rfl rfl rfl ?_
                                    refine v0 (sPk rfl [] rfl rfl) rfl ?_
                                    refine v0 (sA rfl [] rfl) rfl ?_
                                    refine ve ?_
                                    refine W2 [2] [] [] (l := [(2, .c (.bool _))]) (h := []) (h' := []) trivial rfl rfl rfl ?_
                                    obtain rfl := Option.some.inj h
                                    exact W_ret (r0 rfl rfl)
                                  | false =>
                                    replace h := brF hb132 h
                                    refine v0 (sPk rfl [] rfl rfl) rfl ?_
                                    refine v0 (sM rfl [] rfl) rfl ?_
                                    refine uP rfl rfl rfl rfl ?_
                                    refine uP rfl rfl rfl rfl ?_
                                    refine uP rfl rfl rfl rfl ?_
                                    refine uP rfl rfl rfl rfl ?_
                                    refine v0 (sPk rfl [] rfl rfl) rfl ?_
                                    refine v0 (sA rfl [] rfl) rfl ?_
                                    refine ve ?_
                                    refine W2 [2] [] [] (l := [(2, .c (.bool false))]) (h := []) (h' := []) trivial rfl rfl rfl ?_
                                    obtain rfl := Option.some.inj h
                                    exact W_ret (r0 rfl rfl)
                                | false =>
                                  replace h := brF hb131 h
                                  refine v0 (sM rfl [] rfl) rfl ?_
                                  refine uP rfl rfl rfl rfl ?_
                                  refine uP rfl rfl rfl rfl ?_
                                  refine uP rfl rfl rfl rfl ?_
                                  refine v0 (sPk rfl [] rfl rfl) rfl ?_
                                  refine v0 (sM rfl [] rfl) rfl ?_
                                  refine uP rfl rfl rfl rfl ?_
                                  refine uP rfl rfl rfl rfl ?_
                                  refine uP rfl rfl rfl rfl ?_
                                  refine uP rfl rfl rfl rfl ?_
                                  refine v0 (sPk rfl [] rfl rfl) rfl ?_
                                  refine v0 (sA rfl [] rfl) rfl ?_
                                  refine ve ?_
                                  refine W2 [2] [] [] (l := [(2, .c (.bool false))]) (h := []) (h' := []) trivial rfl rfl rfl ?_
                                  obtain rfl := Option.some.inj h
                                  exact W_ret (r0 rfl rfl)
                              ·
                                replace h := brF hb130 h
                                refine W_skip ?_
                                refine W_seq ?_
                                refine W_regV he rfl ?_
                                refine v0 (sFP rfl rfl rfl) rfl ?_
                                refine v0 (sLd rfl rfl) rfl ?_
                                refine vB (sBi rfl rfl rfl rfl) rfl rfl fun b133 hb133 => ?_
                                cases b133 with
                                | true =>
                                  replace h := brT hb133 h
                                  refine v0 (sM rfl [] rfl) rfl ?_
                                  refine uB (sM rfl [] rfl) rfl rfl rfl rfl fun b134 hb134 => ?_
                                  cases b134 with
                                  | true =>
                                    replace h := brT hb134 h
                                    refine v0 (sPk rfl [] rfl rfl) rfl ?_
                                    refine v0 (sM rfl [] rfl) rfl ?_
                                    refine uB (sM rfl [] rfl) rfl rfl rfl rfl fun b135 hb135 => ?_
                                    cases b135 with
                                    | true =>
                                      replace h := brT hb135 h
                                      refine v0 (sPk rfl [] rfl rfl) rfl ?_
                                      refine v0 (sM rfl [] rfl) rfl ?_
                                      refine u0 (sFP rfl rfl rfl) rfl rfl rfl ?_
                                      refine u0 (sLd rfl rfl) rfl rfl rfl ?_
                                      refine uB (sBi rfl rfl rfl rfl) rfl rfl rfl rfl fun b136 hb136 => ?_
                                      cases b136 with
                                      | true =>
                                        replace h := brT hb136 h
                                        refine v0 (sPk rfl [] rfl rfl) rfl ?_
                                        refine v0 (sM rfl [] rfl) rfl ?_
                                        refine u0 (sFP rfl rfl rfl) rfl rfl rfl ?_
                                        refine u0 (sLd rfl rfl) rfl rfl rfl ?_
                                        refine uB (sBi rfl rfl rfl rfl) rfl rfl rfl rfl fun b137 hb137 => ?_
                                        cases b137 with
                                        | true =>
                                          replace h := brT hb137 h
                                          refine v0 (sPk rfl [] rfl rfl) rfl ?_
                                          refine v0 (sM rfl [] rfl) rfl ?_
                                          refine u0 (sFP rfl rfl rfl) rfl rfl rfl ?_
                                          refine u0 (sLd rfl rfl) rfl rfl rfl ?_
                                          refine u0 (sLm rfl rfl rfl rfl) rfl rfl rfl ?_
                                          refine u0 (sBi rfl rfl rfl rfl) rfl rfl rfl ?_
                                          refine v0 (sPk rfl [] rfl rfl) rfl ?_
                                          refine v0 (sA rfl [] rfl) rfl ?_
                                          refine ve ?_
                                          refine W2 [2] [] [] (l := [(2, .c (.bool _))]) (h := []) (h' := []) trivial rfl rfl rfl ?_
                                          obtain rfl := Option.some.inj h
                                          exact W_ret (r0 rfl rfl)
                                        | false =>
                                          replace h := brF hb137 h
                                          refine v0 (sPk rfl [] rfl rfl) rfl ?_
                                          refine v0 (sM rfl [] rfl) rfl ?_
                                          refine uP rfl rfl rfl rfl ?_
                                          refine uP rfl rfl rfl rfl ?_
                                          refine uP rfl rfl rfl rfl ?_
                                          refine uP rfl rfl rfl rfl ?_
                                          refine v0 (sPk rfl [] rfl rfl) rfl ?_
                                          refine v0 (sA rfl [] rfl) rfl ?_
                                          refine ve ?_
                                          refine W2 [2] [] [] (l := [(2, .c (.bool false))]) (h := []) (h' := []) trivial rfl rfl rfl ?_
                                          obtain rfl := Option.some.inj h
                                          exact W_ret (r0 rfl rfl)
                                      | false =>
                                        replace h := brF hb136 h
                                        refine v0 (sPk rfl [] rfl rfl) rfl ?_
                                        refine v0 (sM rfl [] rfl) rfl ?_
                                        refine uP rfl rfl rfl rfl ?_
                                        refine uP rfl rfl rfl rfl ?_
                                        refine uP rfl rfl rfl rfl ?_
                                        refine v0 (sPk rfl [] rfl rfl) rfl ?_
                                        refine v0 (sM rfl [] rfl) rfl ?_
                                        refine uP rfl rfl rfl rfl ?_
                                        refine uP rfl rfl rfl rfl ?_
                                        refine uP rfl rfl rfl rfl ?_
                                        refine uP rfl rfl rfl rfl ?_
                                        refine v0 (sPk rfl [] rfl rfl) rfl ?_
                                        refine v0 (sA rfl [] rfl) rfl ?_
                                        refine ve ?_
                                        refine W2 [2] [] [] (l := [(2, .c (.bool false))]) (h := []) (h' := []) trivial rfl rfl rfl ?_
                                        obtain rfl := Option.some.inj h
                                        exact W_ret (r0 rfl rfl)
                                    | false =>
                                      replace h := brF hb135 h
                                      refine v0 (sPk rfl [] rfl rfl) rfl ?_
                                      refine v0 (sM rfl [] rfl) rfl ?_
                                      refine uP rfl rfl rfl rfl ?_
                                      refine uP rfl rfl rfl rfl ?_
                                      refine uP rfl rfl rfl rfl ?_
                                      refine v0 (sPk rfl [] rfl rfl) rfl ?_
                                      refine v0 (sM rfl [] rfl) rfl ?_
                                      refine uP rfl rfl rfl rfl ?_
                                      refine uP rfl rfl rfl rfl ?_
                                      refine uP rfl rfl rfl rfl ?_
                                      refine v0 (sPk rfl [] rfl rfl) rfl ?_
                                      refine v0 (sM rfl [] rfl) rfl ?_
                                      refine uP rfl rfl rfl rfl ?_
                                      refine uP rfl rfl rfl rfl ?_
                                      refine uP rfl rfl rfl rfl ?_
                                      refine uP rfl rfl rfl rfl ?_
                                      refine v0 (sPk rfl [] rfl rfl) rfl ?_
                                      refine v0 (sA rfl [] rfl) rfl ?_
                                      refine ve ?_
                                      refine W2 [2] [] [] (l := [(2, .c (.bool false))]) (h := []) (h' := []) trivial rfl rfl rfl ?_
                                      obtain rfl := Option.some.inj h
                                      exact W_ret (r0 rfl rfl)
                                  | false =>
                                    replace h := brF hb134 h
                                    refine v0 (sPk rfl [] rfl rfl) rfl ?_
                                    refine v0 (sM rfl [] rfl) rfl ?_
                                    refine uP rfl rfl rfl rfl ?_
                                    refine v0 (sPk rfl [] rfl rfl) rfl ?_
                                    refine v0 (sM rfl [] rfl) rfl ?_
                                    refine uP rfl rfl rfl rfl ?_
                                    refine uP rfl rfl rfl rfl ?_
                                    refine uP rfl rfl rfl rfl ?_
                                    refine v0 (sPk rfl [] rfl rfl) rfl ?_
                                    refine v0 (sM rfl [] rfl) rfl ?_
                                    refine uP rfl rfl rfl rfl ?_
                                    refine uP rfl rfl rfl rfl ?_
                                    refine uP rfl rfl rfl rfl ?_
                                    refine v0 (sPk rfl [] rfl rfl) rfl ?_
                                    refine v0 (sM rfl [] rfl) rfl ?_
                                    refine uP rfl rfl rfl rfl ?_
                                    refine uP rfl rfl rfl rfl ?_
                                    refine uP rfl rfl rfl rfl ?_
                                    refine uP rfl rfl rfl rfl ?_
                                    refine v0 (sPk rfl [] rfl rfl) rfl ?_
                                    refine v0 (sA rfl [] rfl) rfl ?_
                                    refine ve ?_
                                    refine W2 [2] [] [] (l := [(2, .c (.bool false))]) (h := []) (h' := []) trivial rfl rfl rfl ?_
                                    obtain rfl := Option.some.inj h
                                    exact W_ret (r0 rfl rfl)
                                | false =>
                                  replace h := brF hb133 h
                                  refine v0 (sM rfl [] rfl) rfl ?_
                                  refine uP rfl rfl rfl rfl ?_
                                  refine v0 (sPk rfl [] rfl rfl) rfl ?_
                                  refine v0 (sM rfl [] rfl) rfl ?_
                                  refine uP rfl rfl rfl rfl ?_
                                  refine v0 (sPk rfl [] rfl rfl) rfl ?_
                                  refine v0 (sM rfl [] rfl) rfl ?_
                                  refine uP rfl rfl rfl rfl ?_
                                  refine uP rfl rfl rfl rfl ?_
                                  refine uP rfl rfl rfl rfl ?_
                                  refine v0 (sPk rfl [] rfl rfl) rfl ?_
                                  refine v0 (sM rfl [] rfl) rfl ?_
                                  refine uP rfl rfl rfl rfl ?_
                                  refine uP rfl rfl rfl rfl ?_
                                  refine uP rfl rfl rfl rfl ?_
                                  refine v0 (sPk rfl [] rfl rfl) rfl ?_
                                  refine v0 (sM rfl [] rfl) rfl ?_
                                  refine uP rfl rfl rfl rfl ?_
                                  refine uP rfl rfl rfl rfl ?_
                                  refine uP rfl rfl rfl rfl ?_
                                  refine uP rfl rfl rfl rfl ?_
                                  refine v0 (sPk rfl [] rfl rfl) rfl ?_
                                  refine v0 (sA rfl [] rfl) rfl ?_
                                  refine ve ?_
                                  refine W2 [2] [] [] (l := [(2, .c (.bool false))]) (h := []) (h' := []) trivial rfl rfl rfl ?_
                                  obtain rfl := Option.some.inj h
                                  exact W_ret (r0 rfl rfl)
                    ·
                      refine W_seq ?_
                      refine W_regV he rfl ?_
                      refine v0 (sBi rfl rfl rfl rfl) rfl ?_
                      refine v0 (sA rfl [] rfl) rfl ?_
                      refine ve ?_
                      refine W2 [1, 3, 4, 74, 75] [101] [] (l := [(1, .c (.ptr _ _ _ _)), (3, .c (.bool _)), (4, .c (.bool _)), (74, .c (.int _ _)), (75, .c (.bool _))]) (h := [(101, ⟨0, 10, [[.int _ _, .int _ _, .int _ _, .int _ _, .int _ _, .int _ _, .int _ _, .int _ _, .int _ _, .row _ _ _]]⟩)]) (h' := []) trivial rfl rfl rfl ?_
                      refine W_condB rfl (fun hb138 => ?_) (fun hb138 => ?_)
                      ·
                        replace h := brT hb138 h
                        refine W_skip ?_
                        exact ⟨_, wk2 [1, 3, 4, 74, 75] [101] [] (l := [(1, .c (.ptr _ _ _ _)), (3, .c (.bool _)), (4, .c (.bool _)), (74, .c (.int _ _)), (75, .c (.bool _))]) (h := [(101, ⟨0, 10, [[.int _ _, .int _ _, .int _ _, .int _ _, .int _ _, .int _ _, .int _ _, .int _ _, .int _ _, .row _ _ _]]⟩)]) (h' := []) trivial rfl rfl rfl, _, rfl, h⟩
                      ·
                        replace h := brF hb138 h
                        refine W_seq ?_
                        refine W_regV he rfl ?_
                        refine v0 (sBi rfl rfl rfl rfl) rfl ?_
                        refine v0 (sA rfl [] rfl) rfl ?_
                        refine ve ?_
                        refine W2 [1, 3, 4, 74, 75] [101] [] (l := [(1, .c (.ptr _ _ _ _)), (3, .c (.bool _)), (4, .c (.bool _)), (74, .c (.int _ _)), (75, .c (.bool _))]) (h := [(101, ⟨0, 10, [[.int _ _, .int _ _, .int _ _, .int _ _, .int _ _, .int _ _, .int _ _, .int _ _, .int _ _, .row _ _ _]]⟩)]) (h' := []) trivial rfl rfl rfl ?_
                        refine W_condB rfl (fun hb139 => ?_) (fun hb139 => ?_)
                        ·
                          replace h := brT hb139 h
                          refine W_skip ?_
                          exact ⟨_, wk2 [1, 3, 4, 74, 75] [101] [] (l := [(1, .c (.ptr _ _ _ _)), (3, .c (.bool _)), (4, .c (.bool _)), (74, .c (.int _ _)), (75, .c (.bool _))]) (h := [(101, ⟨0, 10, [[.int _ _, .int _ _, .int _ _, .int _ _, .int _ _, .int _ _, .int _ _, .int _ _, .int _ _, .row _ _ _]]⟩)]) (h' := []) trivial rfl rfl rfl, _, rfl, h⟩
                        ·
                          replace h := brF hb139 h
                          refine W_seq ?_
                          refine W_regV he rfl ?_
                          refine v0 (sBi rfl rfl rfl rfl) rfl ?_
                          refine v0 (sA rfl [] rfl) rfl ?_
                          refine ve ?_
                          refine W2 [1, 3, 4, 74, 75] [101] [] (l := [(1, .c (.ptr _ _ _ _)), (3, .c (.bool _)), (4, .c (.bool _)), (74, .c (.int _ _)), (75, .c (.bool _))]) (h := [(101, ⟨0, 10, [[.int _ _, .int _ _, .int _ _, .int _ _, .int _ _, .int _ _, .int _ _, .int _ _, .int _ _, .row _ _ _]]⟩)]) (h' := []) trivial rfl rfl rfl ?_
                          refine W_condB rfl (fun hb140 => ?_) (fun hb140 => ?_)
                          ·
                            replace h := brT hb140 h
                            refine W_skip ?_
                            exact ⟨_, wk2 [1, 3, 4, 74, 75] [101] [] (l := [(1, .c (.ptr _ _ _ _)), (3, .c (.bool _)), (4, .c (.bool _)), (74, .c (.int _ _)), (75, .c (.bool _))]) (h := [(101, ⟨0, 10, [[.int _ _, .int _ _, .int _ _, .int _ _, .int _ _, .int _ _, .int _ _, .int _ _, .int _ _, .row _ _ _]]⟩)]) (h' := []) trivial rfl rfl rfl, _, rfl, h⟩
                          ·
                            replace h := brF hb140 h
                            refine W_regV he rfl ?_
                            refine v0 (sBi rfl rfl rfl rfl) rfl ?_
                            refine v0 (sA rfl [] rfl) rfl ?_
                            refine ve ?_
                            exact ⟨_, wk2 [1, 3, 4, 74, 75] [101] [] (l := [(1, .c (.ptr _ _ _ _)), (3, .c (.bool _)), (4, .c (.bool _)), (74, .c (.int _ _)), (75, .c (.bool _))]) (h := [(101, ⟨0, 10, [[.int _ _, .int _ _, .int _ _, .int _ _, .int _ _, .int _ _, .int _ _, .int _ _, .int _ _, .row _ _ _]]⟩)]) (h' := []) trivial rfl rfl rfl, _, rfl, h⟩
                | false =>
                  replace h := brF hb16 h
                  refine u0 (sNt rfl rfl) rfl rfl rfl ?_
                  refine v0 (sPk rfl [] rfl rfl) rfl ?_
                  refine v0 (sM rfl [] rfl) rfl ?_
                  refine uP rfl rfl rfl rfl ?_
                  refine uP rfl rfl rfl rfl ?_
                  refine uP rfl rfl rfl rfl ?_
                  refine uP rfl rfl rfl rfl ?_
                  refine v0 (sPk rfl [] rfl rfl) rfl ?_
                  refine ve ?_
                  refine W2 [1, 64] [101] [] (l := [(1, .c (.ptr _ _ _ _)), (64, .c (.bool true))]) (h := [(101, ⟨0, 10, [[.int _ _, .int _ _, .int _ _, .int _ _, .int _ _, .int _ _, .int _ _, .int _ _, .int _ _, .row _ _ _]]⟩)]) (h' := []) trivial rfl rfl rfl ?_
                  refine W_true rfl ?_
                  refine W_seq ?_
                  refine W_regV he rfl ?_
                  refine v0 (sA rfl [] rfl) rfl ?_
                  refine ve ?_
                  refine W2 [2] [] [] (l := [(2, .c (.bool false))]) (h := []) (h' := []) trivial rfl rfl rfl ?_
                  obtain rfl := Option.some.inj h
                  exact W_ret (r0 rfl rfl)
              | false =>
                replace h := brF hb14 h
                refine u0 (sNt rfl rfl) rfl rfl rfl ?_
                refine v0 (sPk rfl [] rfl rfl) rfl ?_
                refine v0 (sM rfl [] rfl) rfl ?_
                refine uP rfl rfl rfl rfl ?_
                refine uP rfl rfl rfl rfl ?_
                refine uP rfl rfl rfl rfl ?_
                refine uP rfl rfl rfl rfl ?_
                refine v0 (sPk rfl [] rfl rfl) rfl ?_
                refine v0 (sM rfl [] rfl) rfl ?_
                refine uP rfl rfl rfl rfl ?_
                refine uP rfl rfl rfl rfl ?_
                refine uP rfl rfl rfl rfl ?_
                refine uP rfl rfl rfl rfl ?_
                refine v0 (sPk rfl [] rfl rfl) rfl ?_
                refine ve ?_
                refine W2 [1, 64] [101] [] (l := [(1, .c (.ptr _ _ _ _)), (64, .c (.bool true))]) (h := [(101, ⟨0, 10, [[.int _ _, .int _ _, .int _ _, .int _ _, .int _ _, .int _ _, .int _ _, .int _ _, .int _ _, .row _ _ _]]⟩)]) (h' := []) trivial rfl rfl rfl ?_
                refine W_true rfl ?_
                refine W_seq ?_
                refine W_regV he rfl ?_
                refine v0 (sA rfl [] rfl) rfl ?_
                refine ve ?_
                refine W2 [2] [] [] (l := [(2, .c (.bool false))]) (h := []) (h' := []) trivial rfl rfl rfl ?_
                obtain rfl := Option.some.inj h
                exact W_ret (r0 rfl rfl)
            | false =>
              replace h := brF hb12 h
              refine u0 (sNt rfl rfl) rfl rfl rfl ?_
              refine v0 (sPk rfl [] rfl rfl) rfl ?_
              refine v0 (sM rfl [] rfl) rfl ?_
              refine uP rfl rfl rfl rfl ?_
              refine uP rfl rfl rfl rfl ?_
              refine uP rfl rfl rfl rfl ?_
              refine uP rfl rfl rfl rfl ?_
              refine v0 (sPk rfl [] rfl rfl) rfl ?_
              refine v0 (sM rfl [] rfl) rfl ?_
              refine uP rfl rfl rfl rfl ?_
              refine uP rfl rfl rfl rfl ?_
              refine uP rfl rfl rfl rfl ?_
              refine uP rfl rfl rfl rfl ?_
              refine v0 (sPk rfl [] rfl rfl) rfl ?_
              refine v0 (sM rfl [] rfl) rfl ?_
              refine uP rfl rfl rfl rfl ?_
              refine uP rfl rfl rfl rfl ?_
              refine uP rfl rfl rfl rfl ?_
              refine uP rfl rfl rfl rfl ?_
              refine v0 (sPk rfl [] rfl rfl) rfl ?_
              refine ve ?_
              refine W2 [1, 64] [101] [] (l := [(1, .c (.ptr _ _ _ _)), (64, .c (.bool true))]) (h := [(101, ⟨0, 10, [[.int _ _, .int _ _, .int _ _, .int _ _, .int _ _, .int _ _, .int _ _, .int _ _, .int _ _, .row _ _ _]]⟩)]) (h' := []) trivial rfl rfl rfl ?_
              refine W_true rfl ?_
              refine W_seq ?_
              refine W_regV he rfl ?_
              refine v0 (sA rfl [] rfl) rfl ?_
              refine ve ?_
              refine W2 [2] [] [] (l := [(2, .c (.bool false))]) (h := []) (h' := []) trivial rfl rfl rfl ?_
              obtain rfl := Option.some.inj h
              exact W_ret (r0 rfl rfl)
          | false =>
            replace h := brF hb10 h
            refine u0 (sNt rfl rfl) rfl rfl rfl ?_
            refine v0 (sPk rfl [] rfl rfl) rfl ?_
            refine v0 (sM rfl [] rfl) rfl ?_
            refine uP rfl rfl rfl rfl ?_
            refine uP rfl rfl rfl rfl ?_
            refine uP rfl rfl rfl rfl ?_
            refine uP rfl rfl rfl rfl ?_
            refine uP rfl rfl rfl rfl ?_
            refine v0 (sPk rfl [] rfl rfl) rfl ?_
            refine v0 (sM rfl [] rfl) rfl ?_
            refine uP rfl rfl rfl rfl ?_
            refine uP rfl rfl rfl rfl ?_
            refine uP rfl rfl rfl rfl ?_
            refine uP rfl rfl rfl rfl ?_
            refine v0 (sPk rfl [] rfl rfl) rfl ?_
            refine v0 (sM rfl [] rfl) rfl ?_
            refine uP rfl rfl rfl rfl ?_
            refine uP rfl rfl rfl rfl ?_
            refine uP rfl rfl rfl rfl ?_
            refine uP rfl rfl rfl rfl ?_
            refine v0 (sPk rfl [] rfl rfl) rfl ?_
            refine v0 (sM rfl [] rfl) rfl ?_
            refine uP rfl rfl rfl rfl ?_
            refine uP rfl rfl rfl rfl ?_
            refine uP rfl rfl rfl rfl ?_
            refine uP rfl rfl rfl rfl ?_
            refine v0 (sPk rfl [] rfl rfl) rfl ?_
            refine ve ?_
            refine W2 [1, 64] [101] [] (l := [(1, .c (.ptr _ _ _ _)), (64, .c (.bool true))]) (h := [(101, ⟨0, 10, [[.int _ _, .int _ _, .int _ _, .int _ _, .int _ _, .int _ _, .int _ _, .int _ _, .int _ _, .row _ _ _]]⟩)]) (h' := []) trivial rfl rfl rfl ?_
            refine W_true rfl ?_
            refine W_seq ?_
            refine W_regV he rfl ?_
            refine v0 (sA rfl [] rfl) rfl ?_
            refine ve ?_
            refine W2 [2] [] [] (l := [(2, .c (.bool false))]) (h := []) (h' := []) trivial rfl rfl rfl ?_
            obtain rfl := Option.some.inj h
            exact W_ret (r0 rfl rfl)
        | false =>
          replace h := brF hb8 h
          refine u0 (sNt rfl rfl) rfl rfl rfl ?_
          refine v0 (sPk rfl [] rfl rfl) rfl ?_
          refine v0 (sM rfl [] rfl) rfl ?_
          refine uP rfl rfl rfl rfl ?_
          refine uP rfl rfl rfl rfl ?_
          refine uP rfl rfl rfl rfl ?_
          refine uP rfl rfl rfl rfl ?_
          refine uP rfl rfl rfl rfl ?_
          refine v0 (sPk rfl [] rfl rfl) rfl ?_
          refine v0 (sM rfl [] rfl) rfl ?_
          refine uP rfl rfl rfl rfl ?_
          refine uP rfl rfl rfl rfl ?_
          refine uP rfl rfl rfl rfl ?_
          refine uP rfl rfl rfl rfl ?_
          refine uP rfl rfl rfl rfl ?_
          refine v0 (sPk rfl [] rfl rfl) rfl ?_
          refine v0 (sM rfl [] rfl) rfl ?_
          refine uP rfl rfl rfl rfl ?_
          refine uP rfl rfl rfl rfl ?_
          refine uP rfl rfl rfl rfl ?_
          refine uP rfl rfl rfl rfl ?_
          refine v0 (sPk rfl [] rfl rfl) rfl ?_
          refine v0 (sM rfl [] rfl) rfl ?_
          refine uP rfl rfl rfl rfl ?_
          refine uP rfl rfl rfl rfl ?_
          refine uP rfl rfl rfl rfl ?_
          refine uP rfl rfl rfl rfl ?_
          refine v0 (sPk rfl [] rfl rfl) rfl ?_
          refine v0 (sM rfl [] rfl) rfl ?_
          refine uP rfl rfl rfl rfl ?_
          refine uP rfl rfl rfl rfl ?_
          refine uP rfl rfl rfl rfl ?_
          refine uP rfl rfl rfl rfl ?_
          refine v0 (sPk rfl [] rfl rfl) rfl ?_
          refine ve ?_
          refine W2 [1, 64] [101] [] (l := [(1, .c (.ptr _ _ _ _)), (64, .c (.bool true))]) (h := [(101, ⟨0, 10, [[.int _ _, .int _ _, .int _ _, .int _ _, .int _ _, .int _ _, .int _ _, .int _ _, .int _ _, .row _ _ _]]⟩)]) (h' := []) trivial rfl rfl rfl ?_
          refine W_true rfl ?_
          refine W_seq ?_
          refine W_regV he rfl ?_
          refine v0 (sA rfl [] rfl) rfl ?_
          refine ve ?_
          refine W2 [2] [] [] (l := [(2, .c (.bool false))]) (h := []) (h' := []) trivial rfl rfl rfl ?_
          obtain rfl := Option.some.inj h
          exact W_ret (r0 rfl rfl)
      | false =>
        replace h := brF hb6 h
        refine u0 (sNt rfl rfl) rfl rfl rfl ?_
        refine v0 (sPk rfl [] rfl rfl) rfl ?_
        refine v0 (sM rfl [] rfl) rfl ?_
        refine uP rfl rfl rfl rfl ?_
        refine uP rfl rfl rfl rfl ?_
        refine uP rfl rfl rfl rfl ?_
        refine uP rfl rfl rfl rfl ?_
        refine uP rfl rfl rfl rfl ?_
        refine uP rfl rfl rfl rfl ?_
        refine v0 (sPk rfl [] rfl rfl) rfl ?_
        refine v0 (sM rfl [] rfl) rfl ?_
        refine uP rfl rfl rfl rfl ?_
        refine uP rfl rfl rfl rfl ?_
        refine uP rfl rfl rfl rfl ?_
        refine uP rfl rfl rfl rfl ?_
        refine uP rfl rfl rfl rfl ?_
        refine v0 (sPk rfl [] rfl rfl) rfl ?_
        refine v0 (sM rfl [] rfl) rfl ?_
        refine uP rfl rfl rfl rfl ?_
        refine uP rfl rfl rfl rfl ?_
        refine uP rfl rfl rfl rfl ?_
        refine uP rfl rfl rfl rfl ?_
        refine uP rfl rfl rfl rfl ?_
        refine v0 (sPk rfl [] rfl rfl) rfl ?_
        refine v0 (sM rfl [] rfl) rfl ?_
        refine uP rfl rfl rfl rfl ?_
        refine uP rfl rfl rfl rfl ?_
        refine uP rfl rfl rfl rfl ?_
        refine uP rfl rfl rfl rfl ?_
        refine v0 (sPk rfl [] rfl rfl) rfl ?_
        refine v0 (sM rfl [] rfl) rfl ?_
        refine uP rfl rfl rfl rfl ?_
        refine uP rfl rfl rfl rfl ?_
        refine uP rfl rfl rfl rfl ?_
        refine uP rfl rfl rfl rfl ?_
        refine v0 (sPk rfl [] rfl rfl) rfl ?_
        refine v0 (sM rfl [] rfl) rfl ?_
        refine uP rfl rfl rfl rfl ?_
        refine uP rfl rfl rfl rfl ?_
        refine uP rfl rfl rfl rfl ?_
        refine uP rfl rfl rfl rfl ?_
        refine v0 (sPk rfl [] rfl rfl) rfl ?_
        refine ve ?_
        refine W2 [1, 64] [101] [] (l := [(1, .c (.ptr _ _ _ _)), (64, .c (.bool true))]) (h := [(101, ⟨0, 10, [[.int _ _, .int _ _, .int _ _, .int _ _, .int _ _, .int _ _, .int _ _, .int _ _, .int _ _, .row _ _ _]]⟩)]) (h' := []) trivial rfl rfl rfl ?_
        refine W_true rfl ?_
        refine W_seq ?_
        refine W_regV he rfl ?_
        refine v0 (sA rfl [] rfl) rfl ?_
        refine ve ?_
        refine W2 [2] [] [] (l := [(2, .c (.bool false))]) (h := []) (h' := []) trivial rfl rfl rfl ?_
        obtain rfl := Option.some.inj h
        exact W_ret (r0 rfl rfl)
    | false =>
      replace h := brF hb4 h
      refine u0 (sNt rfl rfl) rfl rfl rfl ?_
      refine v0 (sPk rfl [] rfl rfl) rfl ?_
      refine v0 (sM rfl [] rfl) rfl ?_
      refine uP rfl rfl rfl rfl ?_
      refine uP rfl rfl rfl rfl ?_
      refine uP rfl rfl rfl rfl ?_
      refine uP rfl rfl rfl rfl ?_
      refine uP rfl rfl rfl rfl ?_
      refine uP rfl rfl rfl rfl ?_
      refine v0 (sPk rfl [] rfl rfl) rfl ?_
      refine v0 (sM rfl [] rfl) rfl ?_
      refine uP rfl rfl rfl rfl ?_
      refine uP rfl rfl rfl rfl ?_
      refine uP rfl rfl rfl rfl ?_
      refine uP rfl rfl rfl rfl ?_
      refine uP rfl rfl rfl rfl ?_
      refine uP rfl rfl rfl rfl ?_
      refine v0 (sPk rfl [] rfl rfl) rfl ?_
      refine v0 (sM rfl [] rfl) rfl ?_
      refine uP rfl rfl rfl rfl ?_
      refine uP rfl rfl rfl rfl ?_
      refine uP rfl rfl rfl rfl ?_
      refine uP rfl rfl rfl rfl ?_
      refine uP rfl rfl rfl rfl ?_
      refine v0 (sPk rfl [] rfl rfl) rfl ?_
      refine v0 (sM rfl [] rfl) rfl ?_
      refine uP rfl rfl rfl rfl ?_
      refine uP rfl rfl rfl rfl ?_
      refine uP rfl rfl rfl rfl ?_
      refine uP rfl rfl rfl rfl ?_
      refine uP rfl rfl rfl rfl ?_
      refine v0 (sPk rfl [] rfl rfl) rfl ?_
      refine v0 (sM rfl [] rfl) rfl ?_
      refine uP rfl rfl rfl rfl ?_
      refine uP rfl rfl rfl rfl ?_
      refine uP rfl rfl rfl rfl ?_
      refine uP rfl rfl rfl rfl ?_
      refine v0 (sPk rfl [] rfl rfl) rfl ?_
      refine v0 (sM rfl [] rfl) rfl ?_
      refine uP rfl rfl rfl rfl ?_
      refine uP rfl rfl rfl rfl ?_
      refine uP rfl rfl rfl rfl ?_
      refine uP rfl rfl rfl rfl ?_
      refine v0 (sPk rfl [] rfl rfl) rfl ?_
      refine v0 (sM rfl [] rfl) rfl ?_
      refine uP rfl rfl rfl rfl ?_
      refine uP rfl rfl rfl rfl ?_
      refine uP rfl rfl rfl rfl ?_
      refine uP rfl rfl rfl rfl ?_
      refine v0 (sPk rfl [] rfl rfl) rfl ?_
      refine ve ?_
      refine W2 [1, 64] [101] [] (l := [(1, .c (.ptr _ _ _ _)), (64, .c (.bool true))]) (h := [(101, ⟨0, 10, [[.int _ _, .int _ _, .int _ _, .int _ _, .int _ _, .int _ _, .int _ _, .int _ _, .int _ _, .row _ _ _]]⟩)]) (h' := []) trivial rfl rfl rfl ?_
      refine W_true rfl ?_
      refine W_seq ?_
      refine W_regV he rfl ?_
      refine v0 (sA rfl [] rfl) rfl ?_
      refine ve ?_
      refine W2 [2] [] [] (l := [(2, .c (.bool false))]) (h := []) (h' := []) trivial rfl rfl rfl ?_
      obtain rfl := Option.some.inj h
      exact W_ret (r0 rfl rfl)
  | false =>
    replace h := brF hb2 h
    refine v0 (sNt rfl rfl) rfl ?_
    refine v0 (sM rfl [] rfl) rfl ?_
    refine uP rfl rfl rfl rfl ?_
    refine uP rfl rfl rfl rfl ?_
    refine uP rfl rfl rfl rfl ?_
    refine uP rfl rfl rfl rfl ?_
    refine uP rfl rfl rfl rfl ?_
    refine v0 (sPk rfl [] rfl rfl) rfl ?_
    refine v0 (sM rfl [] rfl) rfl ?_
    refine uP rfl rfl rfl rfl ?_
    refine uP rfl rfl rfl rfl ?_
    refine uP rfl rfl rfl rfl ?_
    refine uP rfl rfl rfl rfl ?_
    refine uP rfl rfl rfl rfl ?_
    refine uP rfl rfl rfl rfl ?_
    refine v0 (sPk rfl [] rfl rfl) rfl ?_
    refine v0 (sM rfl [] rfl) rfl ?_
    refine uP rfl rfl rfl rfl ?_
    refine uP rfl rfl rfl rfl ?_
    refine uP rfl rfl rfl rfl ?_
    refine uP rfl rfl rfl rfl ?_
    refine uP rfl rfl rfl rfl ?_
    refine uP rfl rfl rfl rfl ?_
    refine v0 (sPk rfl [] rfl rfl) rfl ?_
    refine v0 (sM rfl [] rfl) rfl ?_
    refine uP rfl rfl rfl rfl ?_
    refine uP rfl rfl rfl rfl ?_
    refine uP rfl rfl rfl rfl ?_
    refine uP rfl rfl rfl rfl ?_
    refine uP rfl rfl rfl rfl ?_
    refine v0 (sPk rfl [] rfl rfl) rfl ?_
    refine v0 (sM rfl [] rfl) rfl ?_
    refine uP rfl rfl rfl rfl ?_
    refine uP rfl rfl rfl rfl ?_
    refine uP rfl rfl rfl rfl ?_
    refine uP rfl rfl rfl rfl ?_
    refine uP rfl rfl rfl rfl ?_
    refine v0 (sPk rfl [] rfl rfl) rfl ?_
    refine v0 (sM rfl [] rfl) rfl ?_
    refine uP rfl rfl rfl rfl ?_
    refine uP rfl rfl rfl rfl ?_
    refine uP rfl rfl rfl rfl ?_
    refine uP rfl rfl rfl rfl ?_
    refine v0 (sPk rfl [] rfl rfl) rfl ?_
    refine v0 (sM rfl [] rfl) rfl ?_
    refine uP rfl rfl rfl rfl ?_
    refine uP rfl rfl rfl rfl ?_
    refine uP rfl rfl rfl rfl ?_
    refine uP rfl rfl rfl rfl ?_
    refine v0 (sPk rfl [] rfl rfl) rfl ?_
    refine v0 (sM rfl [] rfl) rfl ?_
    refine uP rfl rfl rfl rfl ?_
    refine uP rfl rfl rfl rfl ?_
    refine uP rfl rfl rfl rfl ?_
    refine uP rfl rfl rfl rfl ?_
    refine v0 (sPk rfl [] rfl rfl) rfl ?_
    refine ve ?_
    refine W2 [1, 64] [101] [] (l := [(1, .c (.ptr _ _ _ _)), (64, .c (.bool true))]) (h := [(101, ⟨0, 10, [[.int _ _, .int _ _, .int _ _, .int _ _, .int _ _, .int _ _, .int _ _, .int _ _, .int _ _, .row _ _ _]]⟩)]) (h' := []) trivial rfl rfl rfl ?_
    refine W_true rfl ?_
    refine W_seq ?_
    refine W_regV he rfl ?_
    refine v0 (sA rfl [] rfl) rfl ?_
    refine ve ?_
    refine W2 [2] [] [] (l := [(2, .c (.bool false))]) (h := []) (h' := []) trivial rfl rfl rfl ?_
    obtain rfl := Option.some.inj h
    exact W_ret (r0 rfl rfl)
theorem ok_spec_OpOk : FnOk Try.prog 40 := ⟨_, Try.func40, rfl, rfl⟩


/-! ### loop.example/g00499/spec.PutVar -/
def l_spec_PutVar_6 (K : Nat) : Nat → Int → (List Int) → Option ((List Int))
  | 0, _, _ => none
  | n6 + 1, v4, v5 => (bif (decide (v4 > 127)) then (if (v5 ++ ([(IntKind.u8.wrap (iOr .i64 (iAnd .i64 v4 127) 128))] : List Int)).length * 1 ≤ 140737488355328 ∧ (v5 ++ ([(IntKind.u8.wrap (iOr .i64 (iAnd .i64 v4 127) 128))] : List Int)).length ≤ maxLen then (if (0 : Int) ≤ 7 then (l_spec_PutVar_6 K n6 (iShr .i64 v4 7) (v5 ++ ([(IntKind.u8.wrap (iOr .i64 (iAnd .i64 v4 127) 128))] : List Int))) else none) else none) else (if (v5 ++ ([(IntKind.u8.wrap v4)] : List Int)).length * 1 ≤ 140737488355328 ∧ (v5 ++ ([(IntKind.u8.wrap v4)] : List Int)).length ≤ maxLen then some (v5 ++ ([(IntKind.u8.wrap v4)] : List Int)) else none))
def m_spec_PutVar (K : Nat) (a0 : List Int) (a1 : Int) : Option ((List Int)) := (if (([] : List Int) ++ a0).length * 1 ≤ 140737488355328 ∧ (([] : List Int) ++ a0).length ≤ maxLen then ((m_spec_l1In K a1 0 1000000000).bind fun r2 => (bif r2 then (l_spec_PutVar_6 K K a1 (([] : List Int) ++ a0)) else some (([] : List Int) ++ a0))) else none)
set_option maxRecDepth 20000 in
set_option maxHeartbeats 8000000 in
theorem w_spec_PutVar (K : Nat) (a0 : List Int) (a1 : Int) (r : (List Int)) (h : m_spec_PutVar K a0 a1 = some r) : Sp Try.prog 24 [.c (.row false 1 (a0.map en_u8)), .c (.int .i64 a1)] [] (.c (.row false 1 (r.map en_u8))) [] := by
  refine Sp.of_W tabOk Try.func24 rfl rfl (Nat.le_of_ble_eq_true rfl) (Nat.le_of_ble_eq_true rfl) fun F hP hN hm => ?_
  obtain ⟨P, N, w0, σ0, β0, m⟩ := F
  obtain rfl : P = Try.prog := hP
  obtain rfl : N = 29 := hN
  obtain rfl : m = 1 := hm
  have he : Env ⟨Try.prog, 29, w0, σ0, β0, 1⟩ tab := ⟨Nat.le_of_ble_eq_true rfl, tabOk⟩
  unfold m_spec_PutVar at h
  refine W_seq ?_
  refine W_regV he rfl ?_
  refine v0 (sA rfl [1] rfl) rfl ?_
  refine ve ?_
  refine W2 [0, 1] [] [] (l := [(0, .c (.row _ _ _)), (1, .c (.int _ _))]) (h := []) (h' := []) trivial rfl rfl rfl ?_
  refine W_seq ?_
  refine W_regV he rfl ?_
  refine v0 (sBS rfl 1006 (rows := ([] : List Int).map en_u8) rfl rfl rfl (by kernel_rfl) rfl rfl rfl rfl) rfl ?_
  refine v0 (sM rfl [] rfl) rfl ?_
  refine chkc h ?_; clear h; intro c1 h
  refine v0 (sAo rfl 1005 ([] : List Int) a0 enOk_u8 rfl rfl rfl rfl rfl rfl rfl rfl rfl rfl rfl c1) rfl ?_
  refine v0 (sA rfl [] rfl) rfl ?_
  refine ve ?_
  refine W2 [1, 5] [] [1005] (l := [(1, .c (.int _ _)), (5, .c (.own _ _ _ _))]) (h := []) (h' := [(1005, ⟨0, 1, (([] : List Int) ++ a0).map en_u8⟩)]) ⟨⟨_, rfl, enOk_u8.allClosed _ _ (([] : List Int) ++ a0)⟩, trivial⟩ rfl rfl rfl ?_
  refine W_seq ?_
  refine W_seq ?_
  refine W_regV he rfl ?_
  refine v0 (sM rfl [] rfl) rfl ?_
  refine bndc h ?_; clear h; intro r2 hr2 h
  refine vB (sCm (w_spec_l1In K a1 0 1000000000 _ hr2) ok_spec_l1In rfl rfl rfl rfl) rfl rfl fun b3 hb3 => ?_
  cases b3 with
  | true =>
    replace h := brT hb3 h
    refine v0 (sNt rfl rfl) rfl ?_
    refine ve ?_
    refine W2 [1, 5, 11] [] [1005] (l := [(1, .c (.int _ _)), (5, .c (.own _ _ _ _)), (11, .c (.bool false))]) (h := []) (h' := [(1005, ⟨0, 1, (([] : List Int) ++ a0).map en_u8⟩)]) ⟨⟨_, rfl, enOk_u8.allClosed _ _ (([] : List Int) ++ a0)⟩, trivial⟩ rfl rfl rfl ?_
    refine W_false rfl ?_
    refine W_skip ?_
    refine W_seq ?_
    refine W_block ?_
    refine W2 [1, 5] [] [1005] (l := [(1, .c (.int _ _)), (5, .c (.own _ _ _ _))]) (h := []) (h' := [(1005, ⟨0, 1, (([] : List Int) ++ a0).map en_u8⟩)]) ⟨⟨_, rfl, enOk_u8.allClosed _ _ (([] : List Int) ++ a0)⟩, trivial⟩ rfl rfl rfl ?_
    refine W_loopW (fun n6 S => ∃ (v4 : Int), ∃ (v5 : List Int), S = StL [(1, .c (.int .i64 v4)), (5, .c (.own 1005 0 0 v5.length))] ([] ++ [(1005, ⟨0, 1, v5.map en_u8⟩)]) ∧ l_spec_PutVar_6 K n6 v4 v5 = some r) K ⟨_, _, rfl, h⟩ ?_
    rintro n6 S ⟨v4, v5, rfl, h⟩
    cases n6 with
    | zero => simp [l_spec_PutVar_6] at h
    | succ n6 =>
      rw [l_spec_PutVar_6] at h
      refine W_seq ?_
      refine W_seq ?_
      refine W_regV he rfl ?_
      refine v0 (sM rfl [] rfl) rfl ?_
      refine vB (sBi rfl rfl rfl rfl) rfl rfl fun b7 hb7 => ?_
      cases b7 with
      | true =>
        replace h := brT hb7 h
        refine ve ?_
        refine W2 [1, 5, 14] [] [1005] (l := [(1, .c (.int _ _)), (5, .c (.own _ _ _ _)), (14, .c (.bool true))]) (h := []) (h' := [(1005, ⟨0, 1, v5.map en_u8⟩)]) ⟨⟨_, rfl, enOk_u8.allClosed _ _ v5⟩, trivial⟩ rfl rfl rfl ?_
        refine W_true rfl ?_
        refine W_skip ?_
        refine W_block ?_
        refine W_seq ?_
        refine W_regV he rfl ?_
        refine v0 (sM rfl [] rfl) rfl ?_
        refine v0 (sM rfl [] rfl) rfl ?_
        refine v0 (sBi rfl rfl rfl rfl) rfl ?_
        refine v0 (sBi rfl rfl rfl rfl) rfl ?_
        refine v0 (sCv rfl rfl rfl rfl rfl rfl) rfl ?_
        refine v0 (sBS rfl 1020 (rows := ([(IntKind.u8.wrap (iOr .i64 (iAnd .i64 v4 127) 128))] : List Int).map en_u8) rfl rfl rfl (by kernel_rfl) rfl rfl rfl rfl) rfl ?_
        refine chkc h ?_; clear h; intro c8 h
        refine v0 (sAo rfl 1005 v5 ([(IntKind.u8.wrap (iOr .i64 (iAnd .i64 v4 127) 128))] : List Int) enOk_u8 rfl rfl rfl rfl rfl rfl rfl rfl rfl rfl rfl c8) rfl ?_
        refine v0 (sA rfl [] rfl) rfl ?_
        refine ve ?_
        refine W2 [1, 5] [] [1005] (l := [(1, .c (.int _ _)), (5, .c (.own _ _ _ _))]) (h := []) (h' := [(1005, ⟨0, 1, (v5 ++ ([(IntKind.u8.wrap (iOr .i64 (iAnd .i64 v4 127) 128))] : List Int)).map en_u8⟩)]) ⟨⟨_, rfl, enOk_u8.allClosed _ _ (v5 ++ ([(IntKind.u8.wrap (iOr .i64 (iAnd .i64 v4 127) 128))] : List Int))⟩, trivial⟩ rfl rfl rfl ?_
        refine W_regV he rfl ?_
        refine v0 (sM rfl [] rfl) rfl ?_
        refine chkc h ?_; clear h; intro c9 h
        refine v0 (sSr rfl rfl rfl c9) rfl ?_
        refine v0 (sA rfl [] rfl) rfl ?_
        refine ve ?_
        exact ⟨n6, _, Nat.lt_succ_self n6, wk2 [1, 5] [] [1005] (l := [(1, .c (.int _ _)), (5, .c (.own _ _ _ _))]) (h := []) (h' := [(1005, ⟨0, 1, (v5 ++ ([(IntKind.u8.wrap (iOr .i64 (iAnd .i64 v4 127) 128))] : List Int)).map en_u8⟩)]) ⟨⟨_, rfl, enOk_u8.allClosed _ _ (v5 ++ ([(IntKind.u8.wrap (iOr .i64 (iAnd .i64 v4 127) 128))] : List Int))⟩, trivial⟩ rfl rfl rfl, _, _, rfl, h⟩
      | false =>
        replace h := brF hb7 h
        refine ve ?_
        refine W2 [1, 5, 14] [] [1005] (l := [(1, .c (.int _ _)), (5, .c (.own _ _ _ _)), (14, .c (.bool false))]) (h := []) (h' := [(1005, ⟨0, 1, v5.map en_u8⟩)]) ⟨⟨_, rfl, enOk_u8.allClosed _ _ v5⟩, trivial⟩ rfl rfl rfl ?_
        refine W_false rfl ?_
        refine W_exit (ex_then (ex_then (ex_hit ?_)))
        refine W_seq ?_
        refine W_regV he rfl ?_
        refine v0 (sM rfl [] rfl) rfl ?_
        refine v0 (sM rfl [] rfl) rfl ?_
        refine v0 (sCv rfl rfl rfl rfl rfl rfl) rfl ?_
        refine v0 (sBS rfl 1027 (rows := ([(IntKind.u8.wrap v4)] : List Int).map en_u8) rfl rfl rfl (by kernel_rfl) rfl rfl rfl rfl) rfl ?_
        refine chkc h ?_; clear h; intro c10 h
        refine v0 (sAo rfl 1004 v5 ([(IntKind.u8.wrap v4)] : List Int) enOk_u8 rfl rfl rfl rfl rfl rfl rfl rfl rfl rfl rfl c10) rfl ?_
        refine v0 (sA rfl [] rfl) rfl ?_
        refine ve ?_
        refine W2 [4] [] [1004] (l := [(4, .c (.own _ _ _ _))]) (h := []) (h' := [(1004, ⟨0, 1, (v5 ++ ([(IntKind.u8.wrap v4)] : List Int)).map en_u8⟩)]) ⟨⟨_, rfl, enOk_u8.allClosed _ _ (v5 ++ ([(IntKind.u8.wrap v4)] : List Int))⟩, trivial⟩ rfl rfl rfl ?_
        obtain rfl := Option.some.inj h
        refine W.weak (wk_row (l := (v5 ++ ([(IntKind.u8.wrap v4)] : List Int))) 4 enOk_u8 rfl rfl) ?_
        exact W_ret (r0 rfl rfl)
  | false =>
    replace h := brF hb3 h
    refine v0 (sNt rfl rfl) rfl ?_
    refine ve ?_
    refine W2 [1, 5, 11] [] [1005] (l := [(1, .c (.int _ _)), (5, .c (.own _ _ _ _)), (11, .c (.bool true))]) (h := []) (h' := [(1005, ⟨0, 1, (([] : List Int) ++ a0).map en_u8⟩)]) ⟨⟨_, rfl, enOk_u8.allClosed _ _ (([] : List Int) ++ a0)⟩, trivial⟩ rfl rfl rfl ?_
    refine W_true rfl ?_
    refine W_seq ?_
    refine W_regV he rfl ?_
    refine v0 (sM rfl [] rfl) rfl ?_
    refine v0 (sA rfl [] rfl) rfl ?_
    refine ve ?_
    refine W2 [4] [] [1005] (l := [(4, .c (.own _ _ _ _))]) (h := []) (h' := [(1005, ⟨0, 1, (([] : List Int) ++ a0).map en_u8⟩)]) ⟨⟨_, rfl, enOk_u8.allClosed _ _ (([] : List Int) ++ a0)⟩, trivial⟩ rfl rfl rfl ?_
    obtain rfl := Option.some.inj h
    refine W.weak (wk_row (l := (([] : List Int) ++ a0)) 4 enOk_u8 rfl rfl) ?_
    exact W_ret (r0 rfl rfl)
theorem ok_spec_PutVar : FnOk Try.prog 24 := ⟨_, Try.func24, rfl, rfl⟩


/-! ### loop.example/g00499/spec.PutVar -/
set_option maxRecDepth 20000 in
set_option maxHeartbeats 8000000 in
theorem wo_spec_PutVar (K : Nat) (a0 : List Int) (a1 : Int) (r : (List Int)) (h : m_spec_PutVar K a0 a1 = some r) : Sp Try.prog 24 [.c (.row false 1 (a0.map en_u8)), .c (.int .i64 a1)] [] (.c (.own 1 0 0 r.length)) [⟨0, 1, r.map en_u8⟩] := by
  refine Sp.of_W tabOk Try.func24 rfl rfl (Nat.le_of_ble_eq_true rfl) (Nat.le_of_ble_eq_true rfl) fun F hP hN hm => ?_
  obtain ⟨P, N, w0, σ0, β0, m⟩ := F
  obtain rfl : P = Try.prog := hP
  obtain rfl : N = 29 := hN
  obtain rfl : m = 1 := hm
  have he : Env ⟨Try.prog, 29, w0, σ0, β0, 1⟩ tab := ⟨Nat.le_of_ble_eq_true rfl, tabOk⟩
  unfold m_spec_PutVar at h
  refine W_seq ?_
  refine W_regV he rfl ?_
  refine v0 (sA rfl [1] rfl) rfl ?_
  refine ve ?_
  refine W2 [0, 1] [] [] (l := [(0, .c (.row _ _ _)), (1, .c (.int _ _))]) (h := []) (h' := []) trivial rfl rfl rfl ?_
  refine W_seq ?_
  refine W_regV he rfl ?_
  refine v0 (sBS rfl 1006 (rows := ([] : List Int).map en_u8) rfl rfl rfl (by kernel_rfl) rfl rfl rfl rfl) rfl ?_
  refine v0 (sM rfl [] rfl) rfl ?_
  refine chkc h ?_; clear h; intro c1 h
  refine v0 (sAo rfl 1005 ([] : List Int) a0 enOk_u8 rfl rfl rfl rfl rfl rfl rfl rfl rfl rfl rfl c1) rfl ?_
  refine v0 (sA rfl [] rfl) rfl ?_
  refine ve ?_
  refine W2 [1, 5] [] [1005] (l := [(1, .c (.int _ _)), (5, .c (.own _ _ _ _))]) (h := []) (h' := [(1005, ⟨0, 1, (([] : List Int) ++ a0).map en_u8⟩)]) ⟨⟨_, rfl, enOk_u8.allClosed _ _ (([] : List Int) ++ a0)⟩, trivial⟩ rfl rfl rfl ?_
  refine W_seq ?_
  refine W_seq ?_
  refine W_regV he rfl ?_
  refine v0 (sM rfl [] rfl) rfl ?_
  refine bndc h ?_; clear h; intro r2 hr2 h
  refine vB (sCm (w_spec_l1In K a1 0 1000000000 _ hr2) ok_spec_l1In rfl rfl rfl rfl) rfl rfl fun b3 hb3 => ?_
  cases b3 with
  | true =>
    replace h := brT hb3 h
    refine v0 (sNt rfl rfl) rfl ?_
    refine ve ?_
    refine W2 [1, 5, 11] [] [1005] (l := [(1, .c (.int _ _)), (5, .c (.own _ _ _ _)), (11, .c (.bool false))]) (h := []) (h' := [(1005, ⟨0, 1, (([] : List Int) ++ a0).map en_u8⟩)]) ⟨⟨_, rfl, enOk_u8.allClosed _ _ (([] : List Int) ++ a0)⟩, trivial⟩ rfl rfl rfl ?_
    refine W_false rfl ?_
    refine W_skip ?_
    refine W_seq ?_
    refine W_block ?_
    refine W2 [1, 5] [] [1005] (l := [(1, .c (.int _ _)), (5, .c (.own _ _ _ _))]) (h := []) (h' := [(1005, ⟨0, 1, (([] : List Int) ++ a0).map en_u8⟩)]) ⟨⟨_, rfl, enOk_u8.allClosed _ _ (([] : List Int) ++ a0)⟩, trivial⟩ rfl rfl rfl ?_
    refine W_loopW (fun n6 S => ∃ (v4 : Int), ∃ (v5 : List Int), S = StL [(1, .c (.int .i64 v4)), (5, .c (.own 1005 0 0 v5.length))] ([] ++ [(1005, ⟨0, 1, v5.map en_u8⟩)]) ∧ l_spec_PutVar_6 K n6 v4 v5 = some r) K ⟨_, _, rfl, h⟩ ?_
    rintro n6 S ⟨v4, v5, rfl, h⟩
    cases n6 with
    | zero => simp [l_spec_PutVar_6] at h
    | succ n6 =>
      rw [l_spec_PutVar_6] at h
      refine W_seq ?_
      refine W_seq ?_
      refine W_regV he rfl ?_
      refine v0 (sM rfl [] rfl) rfl ?_
      refine vB (sBi rfl rfl rfl rfl) rfl rfl fun b7 hb7 => ?_
      cases b7 with
      | true =>
        replace h := brT hb7 h
        refine ve ?_
        refine W2 [1, 5, 14] [] [1005] (l := [(1, .c (.int _ _)), (5, .c (.own _ _ _ _)), (14, .c (.bool true))]) (h := []) (h' := [(1005, ⟨0, 1, v5.map en_u8⟩)]) ⟨⟨_, rfl, enOk_u8.allClosed _ _ v5⟩, trivial⟩ rfl rfl rfl ?_
        refine W_true rfl ?_
        refine W_skip ?_
        refine W_block ?_
        refine W_seq ?_
        refine W_regV he rfl ?_
        refine v0 (sM rfl [] rfl) rfl ?_
        refine v0 (sM rfl [] rfl) rfl ?_
        refine v0 (sBi rfl rfl rfl rfl) rfl ?_
        refine v0 (sBi rfl rfl rfl rfl) rfl ?_
        refine v0 (sCv rfl rfl rfl rfl rfl rfl) rfl ?_
        refine v0 (sBS rfl 1020 (rows := ([(IntKind.u8.wrap (iOr .i64 (iAnd .i64 v4 127) 128))] : List Int).map en_u8) rfl rfl rfl (by kernel_rfl) rfl rfl rfl rfl) rfl ?_
        refine chkc h ?_; clear h; intro c8 h
        refine v0 (sAo rfl 1005 v5 ([(IntKind.u8.wrap (iOr .i64 (iAnd .i64 v4 127) 128))] : List Int) enOk_u8 rfl rfl rfl rfl rfl rfl rfl rfl rfl rfl rfl c8) rfl ?_
        refine v0 (sA rfl [] rfl) rfl ?_
        refine ve ?_
        refine W2 [1, 5] [] [1005] (l := [(1, .c (.int _ _)), (5, .c (.own _ _ _ _))]) (h := []) (h' := [(1005, ⟨0, 1, (v5 ++ ([(IntKind.u8.wrap (iOr .i64 (iAnd .i64 v4 127) 128))] : List Int)).map en_u8⟩)]) ⟨⟨_, rfl, enOk_u8.allClosed _ _ (v5 ++ ([(IntKind.u8.wrap (iOr .i64 (iAnd .i64 v4 127) 128))] : List Int))⟩, trivial⟩ rfl rfl rfl ?_
        refine W_regV he rfl ?_
        refine v0 (sM rfl [] rfl) rfl ?_
        refine chkc h ?_; clear h; intro c9 h
        refine v0 (sSr rfl rfl rfl c9) rfl ?_
        refine v0 (sA rfl [] rfl) rfl ?_
        refine ve ?_
        exact ⟨n6, _, Nat.lt_succ_self n6, wk2 [1, 5] [] [1005] (l := [(1, .c (.int _ _)), (5, .c (.own _ _ _ _))]) (h := []) (h' := [(1005, ⟨0, 1, (v5 ++ ([(IntKind.u8.wrap (iOr .i64 (iAnd .i64 v4 127) 128))] : List Int)).map en_u8⟩)]) ⟨⟨_, rfl, enOk_u8.allClosed _ _ (v5 ++ ([(IntKind.u8.wrap (iOr .i64 (iAnd .i64 v4 127) 128))] : List Int))⟩, trivial⟩ rfl rfl rfl, _, _, rfl, h⟩
      | false =>
        replace h := brF hb7 h
        refine ve ?_
        refine W2 [1, 5, 14] [] [1005] (l := [(1, .c (.int _ _)), (5, .c (.own _ _ _ _)), (14, .c (.bool false))]) (h := []) (h' := [(1005, ⟨0, 1, v5.map en_u8⟩)]) ⟨⟨_, rfl, enOk_u8.allClosed _ _ v5⟩, trivial⟩ rfl rfl rfl ?_
        refine W_false rfl ?_
        refine W_exit (ex_then (ex_then (ex_hit ?_)))
        refine W_seq ?_
        refine W_regV he rfl ?_
        refine v0 (sM rfl [] rfl) rfl ?_
        refine v0 (sM rfl [] rfl) rfl ?_
        refine v0 (sCv rfl rfl rfl rfl rfl rfl) rfl ?_
        refine v0 (sBS rfl 1027 (rows := ([(IntKind.u8.wrap v4)] : List Int).map en_u8) rfl rfl rfl (by kernel_rfl) rfl rfl rfl rfl) rfl ?_
        refine chkc h ?_; clear h; intro c10 h
        refine v0 (sAo rfl 1004 v5 ([(IntKind.u8.wrap v4)] : List Int) enOk_u8 rfl rfl rfl rfl rfl rfl rfl rfl rfl rfl rfl c10) rfl ?_
        refine v0 (sA rfl [] rfl) rfl ?_
        refine ve ?_
        refine W2 [4] [] [1004] (l := [(4, .c (.own _ _ _ _))]) (h := []) (h' := [(1004, ⟨0, 1, (v5 ++ ([(IntKind.u8.wrap v4)] : List Int)).map en_u8⟩)]) ⟨⟨_, rfl, enOk_u8.allClosed _ _ (v5 ++ ([(IntKind.u8.wrap v4)] : List Int))⟩, trivial⟩ rfl rfl rfl ?_
        obtain rfl := Option.some.inj h
        exact W_ret (retOne 0 1004 (.inl rfl) enOk_u8 rfl rfl rfl)
  | false =>
    replace h := brF hb3 h
    refine v0 (sNt rfl rfl) rfl ?_
    refine ve ?_
    refine W2 [1, 5, 11] [] [1005] (l := [(1, .c (.int _ _)), (5, .c (.own _ _ _ _)), (11, .c (.bool true))]) (h := []) (h' := [(1005, ⟨0, 1, (([] : List Int) ++ a0).map en_u8⟩)]) ⟨⟨_, rfl, enOk_u8.allClosed _ _ (([] : List Int) ++ a0)⟩, trivial⟩ rfl rfl rfl ?_
    refine W_true rfl ?_
    refine W_seq ?_
    refine W_regV he rfl ?_
    refine v0 (sM rfl [] rfl) rfl ?_
    refine v0 (sA rfl [] rfl) rfl ?_
    refine ve ?_
    refine W2 [4] [] [1005] (l := [(4, .c (.own _ _ _ _))]) (h := []) (h' := [(1005, ⟨0, 1, (([] : List Int) ++ a0).map en_u8⟩)]) ⟨⟨_, rfl, enOk_u8.allClosed _ _ (([] : List Int) ++ a0)⟩, trivial⟩ rfl rfl rfl ?_
    obtain rfl := Option.some.inj h
    exact W_ret (retOne 0 1005 (.inl rfl) enOk_u8 rfl rfl rfl)


/-! ### loop.example/g00499/spec.PutOp -/
def l_spec_PutOp_5 (K : Nat) (a0 : T_impl_Op) : Nat → (List Int) → Int → Option ((List Int))
  | 0, _, _ => none
  | n5 + 1, v3, v4 => (bif (decide (v4 < (([a0.fKind, a0.fH.fSlot, a0.fH.fGen, a0.fR.fH.fSlot, a0.fR.fH.fGen, a0.fR.fEp, a0.fR.fNo, a0.fN, a0.fM, (a0.fB.length : Int)] : List Int).length : Int))) then (if (0 : Int) ≤ v4 ∧ v4 < (([a0.fKind, a0.fH.fSlot, a0.fH.fGen, a0.fR.fH.fSlot, a0.fR.fH.fGen, a0.fR.fEp, a0.fR.fNo, a0.fN, a0.fM, (a0.fB.length : Int)] : List Int).length : Int) then ((m_spec_PutVar K v3 (gt ([a0.fKind, a0.fH.fSlot, a0.fH.fGen, a0.fR.fH.fSlot, a0.fR.fH.fGen, a0.fR.fEp, a0.fR.fNo, a0.fN, a0.fM, (a0.fB.length : Int)] : List Int) v4)).bind fun r8 => (l_spec_PutOp_5 K a0 n5 r8 (iAdd .i64 v4 1))) else none) else (if (v3 ++ a0.fB).length * 1 ≤ 140737488355328 ∧ (v3 ++ a0.fB).length ≤ maxLen then some (v3 ++ a0.fB) else none))
def m_spec_PutOp (K : Nat) (a0 : T_impl_Op) : Option ((List Int)) := ((m_spec_OpOk K a0).bind fun r1 => (bif r1 then (l_spec_PutOp_5 K a0 K ([] : List Int) 0) else some ([] : List Int)))
set_option maxRecDepth 20000 in
set_option maxHeartbeats 8000000 in
theorem w_spec_PutOp (K : Nat) (a0 : T_impl_Op) (r : (List Int)) (h : m_spec_PutOp K a0 = some r) : Sp Try.prog 46 [.g [.int .i64 a0.fKind, .int .i64 a0.fH.fSlot, .int .i64 a0.fH.fGen, .int .i64 a0.fR.fH.fSlot, .int .i64 a0.fR.fH.fGen, .int .i64 a0.fR.fEp, .int .i64 a0.fR.fNo, .int .i64 a0.fN, .int .i64 a0.fM, .row false 1 (a0.fB.map en_u8)]] [] (.c (.row false 1 (r.map en_u8))) [] := by
  refine Sp.of_W tabOk Try.func46 rfl rfl (Nat.le_of_ble_eq_true rfl) (Nat.le_of_ble_eq_true rfl) fun F hP hN hm => ?_
  obtain ⟨P, N, w0, σ0, β0, m⟩ := F
  obtain rfl : P = Try.prog := hP
  obtain rfl : N = 54 := hN
  obtain rfl : m = 1 := hm
  have he : Env ⟨Try.prog, 54, w0, σ0, β0, 1⟩ tab := ⟨Nat.le_of_ble_eq_true rfl, tabOk⟩
  unfold m_spec_PutOp at h
  refine W_seq ?_
  refine W_regV he rfl ?_
  refine v0 (sBx rfl [] rfl rfl 101 rfl) rfl ?_
  refine v0 (sA rfl [1] rfl) rfl ?_
  refine ve ?_
  refine W2 [1] [101] [] (l := [(1, .c (.ptr _ _ _ _))]) (h := [(101, ⟨0, 10, [[.int _ _, .int _ _, .int _ _, .int _ _, .int _ _, .int _ _, .int _ _, .int _ _, .int _ _, .row _ _ _]]⟩)]) (h' := []) trivial rfl rfl rfl ?_
  refine W_seq ?_
  refine W_seq ?_
  refine W_regV he rfl ?_
  refine v0 (sLd rfl rfl) rfl ?_
  refine bndc h ?_; clear h; intro r1 hr1 h
  refine vB (sCm (w_spec_OpOk K a0 _ hr1) ok_spec_OpOk rfl rfl rfl rfl) rfl rfl fun b2 hb2 => ?_
  cases b2 with
  | true =>
    replace h := brT hb2 h
    refine v0 (sNt rfl rfl) rfl ?_
    refine ve ?_
    refine W2 [1, 8] [101] [] (l := [(1, .c (.ptr _ _ _ _)), (8, .c (.bool false))]) (h := [(101, ⟨0, 10, [[.int _ _, .int _ _, .int _ _, .int _ _, .int _ _, .int _ _, .int _ _, .int _ _, .int _ _, .row _ _ _]]⟩)]) (h' := []) trivial rfl rfl rfl ?_
    refine W_false rfl ?_
    refine W_skip ?_
    refine W_seq ?_
    refine W_regV he rfl ?_
    refine v0 (sBS rfl 1003 (rows := ([] : List Int).map en_u8) rfl rfl rfl (by kernel_rfl) rfl rfl rfl rfl) rfl ?_
    refine v0 (sA rfl [] rfl) rfl ?_
    refine ve ?_
    refine W2 [1, 3] [101] [1003] (l := [(1, .c (.ptr _ _ _ _)), (3, .c (.own _ _ _ _))]) (h := [(101, ⟨0, 10, [[.int _ _, .int _ _, .int _ _, .int _ _, .int _ _, .int _ _, .int _ _, .int _ _, .int _ _, .row _ _ _]]⟩)]) (h' := [(1003, ⟨0, 1, ([] : List Int).map en_u8⟩)]) ⟨⟨_, rfl, enOk_u8.allClosed _ _ ([] : List Int)⟩, trivial⟩ rfl rfl rfl ?_
    refine W_seq ?_
    refine W_seq ?_
    refine W_regV he rfl ?_
    refine v0 (sFP rfl rfl rfl) rfl ?_
    refine v0 (sLd rfl rfl) rfl ?_
    refine v0 (sFP rfl rfl rfl) rfl ?_
    refine v0 (sFP rfl rfl rfl) rfl ?_
    refine v0 (sLd rfl rfl) rfl ?_
    refine v0 (sFP rfl rfl rfl) rfl ?_
    refine v0 (sFP rfl rfl rfl) rfl ?_
    refine v0 (sLd rfl rfl) rfl ?_
    refine v0 (sFP rfl rfl rfl) rfl ?_
    refine v0 (sFP rfl rfl rfl) rfl ?_
    refine v0 (sFP rfl rfl rfl) rfl ?_
    refine v0 (sLd rfl rfl) rfl ?_
    refine v0 (sFP rfl rfl rfl) rfl ?_
    refine v0 (sFP rfl rfl rfl) rfl ?_
    refine v0 (sFP rfl rfl rfl) rfl ?_
    refine v0 (sLd rfl rfl) rfl ?_
    refine v0 (sFP rfl rfl rfl) rfl ?_
    refine v0 (sFP rfl rfl rfl) rfl ?_
    refine v0 (sLd rfl rfl) rfl ?_
    refine v0 (sFP rfl rfl rfl) rfl ?_
    refine v0 (sFP rfl rfl rfl) rfl ?_
    refine v0 (sLd rfl rfl) rfl ?_
    refine v0 (sFP rfl rfl rfl) rfl ?_
    refine v0 (sLd rfl rfl) rfl ?_
    refine v0 (sFP rfl rfl rfl) rfl ?_
    refine v0 (sLd rfl rfl) rfl ?_
    refine v0 (sFP rfl rfl rfl) rfl ?_
    refine v0 (sLd rfl rfl) rfl ?_
    refine v0 (sLm rfl rfl rfl rfl) rfl ?_
    refine v0 (sBS rfl 1040 (rows := ([a0.fKind, a0.fH.fSlot, a0.fH.fGen, a0.fR.fH.fSlot, a0.fR.fH.fGen, a0.fR.fEp, a0.fR.fNo, a0.fN, a0.fM, (a0.fB.length : Int)] : List Int).map en_i64) rfl rfl rfl (by kernel_rfl) rfl rfl rfl rfl) rfl ?_
    refine v0 (sLo rfl rfl rfl rfl) rfl ?_
    refine v0 (sM rfl [] rfl) rfl ?_
    refine ve ?_
    refine W2 [1, 3, 40, 41, 42] [101] [1003, 1040] (l := [(1, .c (.ptr _ _ _ _)), (3, .c (.own _ _ _ _)), (40, .c (.own _ _ _ _)), (41, .c (.int _ _)), (42, .c (.int _ _))]) (h := [(101, ⟨0, 10, [[.int _ _, .int _ _, .int _ _, .int _ _, .int _ _, .int _ _, .int _ _, .int _ _, .int _ _, .row _ _ _]]⟩)]) (h' := [(1003, ⟨0, 1, ([] : List Int).map en_u8⟩), (1040, ⟨0, 1, ([a0.fKind, a0.fH.fSlot, a0.fH.fGen, a0.fR.fH.fSlot, a0.fR.fH.fGen, a0.fR.fEp, a0.fR.fNo, a0.fN, a0.fM, (a0.fB.length : Int)] : List Int).map en_i64⟩)]) ⟨⟨_, rfl, enOk_u8.allClosed _ _ ([] : List Int)⟩, ⟨⟨_, rfl, enOk_i64.allClosed _ _ ([a0.fKind, a0.fH.fSlot, a0.fH.fGen, a0.fR.fH.fSlot, a0.fR.fH.fGen, a0.fR.fEp, a0.fR.fNo, a0.fN, a0.fM, (a0.fB.length : Int)] : List Int)⟩, trivial⟩⟩ rfl rfl rfl ?_
    refine W_block ?_
    refine W2 [1, 3, 40, 41, 42] [101] [1003, 1040] (l := [(1, .c (.ptr _ _ _ _)), (3, .c (.own _ _ _ _)), (40, .c (.own _ _ _ _)), (41, .c (.int _ _)), (42, .c (.int _ _))]) (h := [(101, ⟨0, 10, [[.int _ _, .int _ _, .int _ _, .int _ _, .int _ _, .int _ _, .int _ _, .int _ _, .int _ _, .row _ _ _]]⟩)]) (h' := [(1003, ⟨0, 1, ([] : List Int).map en_u8⟩), (1040, ⟨0, 1, ([a0.fKind, a0.fH.fSlot, a0.fH.fGen, a0.fR.fH.fSlot, a0.fR.fH.fGen, a0.fR.fEp, a0.fR.fNo, a0.fN, a0.fM, (a0.fB.length : Int)] : List Int).map en_i64⟩)]) ⟨⟨_, rfl, enOk_u8.allClosed _ _ ([] : List Int)⟩, ⟨⟨_, rfl, enOk_i64.allClosed _ _ ([a0.fKind, a0.fH.fSlot, a0.fH.fGen, a0.fR.fH.fSlot, a0.fR.fH.fGen, a0.fR.fEp, a0.fR.fNo, a0.fN, a0.fM, (a0.fB.length : Int)] : List Int)⟩, trivial⟩⟩ rfl rfl rfl ?_
    refine W_loopW (fun n5 S => ∃ (v3 : List Int), ∃ (v4 : Int), S = StL [(1, .c (.ptr 101 0 0 0)), (3, .c (.own 1003 0 0 v3.length)), (40, .c (.own 1040 0 0 ([a0.fKind, a0.fH.fSlot, a0.fH.fGen, a0.fR.fH.fSlot, a0.fR.fH.fGen, a0.fR.fEp, a0.fR.fNo, a0.fN, a0.fM, (a0.fB.length : Int)] : List Int).length)), (41, .c (.int .i64 (([a0.fKind, a0.fH.fSlot, a0.fH.fGen, a0.fR.fH.fSlot, a0.fR.fH.fGen, a0.fR.fEp, a0.fR.fNo, a0.fN, a0.fM, (a0.fB.length : Int)] : List Int).length : Int))), (42, .c (.int .i64 v4))] ([(101, ⟨0, 10, [[.int .i64 a0.fKind, .int .i64 a0.fH.fSlot, .int .i64 a0.fH.fGen, .int .i64 a0.fR.fH.fSlot, .int .i64 a0.fR.fH.fGen, .int .i64 a0.fR.fEp, .int .i64 a0.fR.fNo, .int .i64 a0.fN, .int .i64 a0.fM, .row false 1 (a0.fB.map en_u8)]]⟩)] ++ [(1003, ⟨0, 1, v3.map en_u8⟩), (1040, ⟨0, 1, ([a0.fKind, a0.fH.fSlot, a0.fH.fGen, a0.fR.fH.fSlot, a0.fR.fH.fGen, a0.fR.fEp, a0.fR.fNo, a0.fN, a0.fM, (a0.fB.length : Int)] : List Int).map en_i64⟩)]) ∧ l_spec_PutOp_5 K a0 n5 v3 v4 = some r) K ⟨_, _, rfl, h⟩ ?_
    rintro n5 S ⟨v3, v4, rfl, h⟩
    cases n5 with
    | zero => simp [l_spec_PutOp_5] at h
    | succ n5 =>
      rw [l_spec_PutOp_5] at h
      refine W_seq ?_
      refine W_regV he rfl ?_
      refine vB (sBi rfl rfl rfl rfl) rfl rfl fun b6 hb6 => ?_
      cases b6 with
      | true =>
        replace h := brT hb6 h
        refine ve ?_
        refine W2 [1, 3, 40, 41, 42, 43] [101] [1003, 1040] (l := [(1, .c (.ptr _ _ _ _)), (3, .c (.own _ _ _ _)), (40, .c (.own _ _ _ _)), (41, .c (.int _ _)), (42, .c (.int _ _)), (43, .c (.bool true))]) (h := [(101, ⟨0, 10, [[.int _ _, .int _ _, .int _ _, .int _ _, .int _ _, .int _ _, .int _ _, .int _ _, .int _ _, .row _ _ _]]⟩)]) (h' := [(1003, ⟨0, 1, v3.map en_u8⟩), (1040, ⟨0, 1, ([a0.fKind, a0.fH.fSlot, a0.fH.fGen, a0.fR.fH.fSlot, a0.fR.fH.fGen, a0.fR.fEp, a0.fR.fNo, a0.fN, a0.fM, (a0.fB.length : Int)] : List Int).map en_i64⟩)]) ⟨⟨_, rfl, enOk_u8.allClosed _ _ v3⟩, ⟨⟨_, rfl, enOk_i64.allClosed _ _ ([a0.fKind, a0.fH.fSlot, a0.fH.fGen, a0.fR.fH.fSlot, a0.fR.fH.fGen, a0.fR.fEp, a0.fR.fNo, a0.fN, a0.fM, (a0.fB.length : Int)] : List Int)⟩, trivial⟩⟩ rfl rfl rfl ?_
        refine W_seq ?_
        refine W_true rfl ?_
        refine W_skip ?_
        refine W_seq ?_
        refine W_block ?_
        refine W_seq ?_
        refine W_regV he rfl ?_
        refine chkc h ?_; clear h; intro c7 h
        refine v0 (sIOm rfl rfl rfl c7) rfl ?_
        refine v0 (sLkm rfl ([a0.fKind, a0.fH.fSlot, a0.fH.fGen, a0.fR.fH.fSlot, a0.fR.fH.fGen, a0.fR.fEp, a0.fR.fNo, a0.fN, a0.fM, (a0.fB.length : Int)] : List Int) c7 rfl rfl rfl rfl rfl rfl) rfl ?_
        refine v0 (sA rfl [] rfl) rfl ?_
        refine ve ?_
        refine W2 [1, 3, 5, 40, 41, 42] [101] [1003, 1040] (l := [(1, .c (.ptr _ _ _ _)), (3, .c (.own _ _ _ _)), (5, .c (.int _ _)), (40, .c (.own _ _ _ _)), (41, .c (.int _ _)), (42, .c (.int _ _))]) (h := [(101, ⟨0, 10, [[.int _ _, .int _ _, .int _ _, .int _ _, .int _ _, .int _ _, .int _ _, .int _ _, .int _ _, .row _ _ _]]⟩)]) (h' := [(1003, ⟨0, 1, v3.map en_u8⟩), (1040, ⟨0, 1, ([a0.fKind, a0.fH.fSlot, a0.fH.fGen, a0.fR.fH.fSlot, a0.fR.fH.fGen, a0.fR.fEp, a0.fR.fNo, a0.fN, a0.fM, (a0.fB.length : Int)] : List Int).map en_i64⟩)]) ⟨⟨_, rfl, enOk_u8.allClosed _ _ v3⟩, ⟨⟨_, rfl, enOk_i64.allClosed _ _ ([a0.fKind, a0.fH.fSlot, a0.fH.fGen, a0.fR.fH.fSlot, a0.fR.fH.fGen, a0.fR.fEp, a0.fR.fNo, a0.fN, a0.fM, (a0.fB.length : Int)] : List Int)⟩, trivial⟩⟩ rfl rfl rfl ?_
        refine W_regV he rfl ?_
        refine v0 (sM rfl [] rfl) rfl ?_
        refine v0 (sM rfl [] rfl) rfl ?_
        refine bndc h ?_; clear h; intro r8 hr8 h
        refine v0 (sCo (wo_spec_PutVar K v3 (gt ([a0.fKind, a0.fH.fSlot, a0.fH.fGen, a0.fR.fH.fSlot, a0.fR.fH.fGen, a0.fR.fEp, a0.fR.fNo, a0.fN, a0.fM, (a0.fB.length : Int)] : List Int) v4) _ hr8) ok_spec_PutVar (fun _ => rfl) [1003] 1003 rfl rfl rfl (low_cons (low_lent (l := v3) enOk_u8 rfl rfl rfl) (low_cons (rfl) (low_nil))) rfl) rfl ?_
        refine v0 (sA rfl [] rfl) rfl ?_
        refine ve ?_
        refine W2 [1, 3, 40, 41, 42] [101] [1003, 1040] (l := [(1, .c (.ptr _ _ _ _)), (3, .c (.own _ _ _ _)), (40, .c (.own _ _ _ _)), (41, .c (.int _ _)), (42, .c (.int _ _))]) (h := [(101, ⟨0, 10, [[.int _ _, .int _ _, .int _ _, .int _ _, .int _ _, .int _ _, .int _ _, .int _ _, .int _ _, .row _ _ _]]⟩)]) (h' := [(1003, ⟨0, 1, r8.map en_u8⟩), (1040, ⟨0, 1, ([a0.fKind, a0.fH.fSlot, a0.fH.fGen, a0.fR.fH.fSlot, a0.fR.fH.fGen, a0.fR.fEp, a0.fR.fNo, a0.fN, a0.fM, (a0.fB.length : Int)] : List Int).map en_i64⟩)]) ⟨⟨_, rfl, enOk_u8.allClosed _ _ r8⟩, ⟨⟨_, rfl, enOk_i64.allClosed _ _ ([a0.fKind, a0.fH.fSlot, a0.fH.fGen, a0.fR.fH.fSlot, a0.fR.fH.fGen, a0.fR.fEp, a0.fR.fNo, a0.fN, a0.fM, (a0.fB.length : Int)] : List Int)⟩, trivial⟩⟩ rfl rfl rfl ?_
        refine W_regV he rfl ?_
        refine v0 (sBi rfl rfl rfl rfl) rfl ?_
        refine v0 (sM rfl [] rfl) rfl ?_
        refine ve ?_
        exact ⟨n5, _, Nat.lt_succ_self n5, wk2 [1, 3, 40, 41, 42] [101] [1003, 1040] (l := [(1, .c (.ptr _ _ _ _)), (3, .c (.own _ _ _ _)), (40, .c (.own _ _ _ _)), (41, .c (.int _ _)), (42, .c (.int _ _))]) (h := [(101, ⟨0, 10, [[.int _ _, .int _ _, .int _ _, .int _ _, .int _ _, .int _ _, .int _ _, .int _ _, .int _ _, .row _ _ _]]⟩)]) (h' := [(1003, ⟨0, 1, r8.map en_u8⟩), (1040, ⟨0, 1, ([a0.fKind, a0.fH.fSlot, a0.fH.fGen, a0.fR.fH.fSlot, a0.fR.fH.fGen, a0.fR.fEp, a0.fR.fNo, a0.fN, a0.fM, (a0.fB.length : Int)] : List Int).map en_i64⟩)]) ⟨⟨_, rfl, enOk_u8.allClosed _ _ r8⟩, ⟨⟨_, rfl, enOk_i64.allClosed _ _ ([a0.fKind, a0.fH.fSlot, a0.fH.fGen, a0.fR.fH.fSlot, a0.fR.fH.fGen, a0.fR.fEp, a0.fR.fNo, a0.fN, a0.fM, (a0.fB.length : Int)] : List Int)⟩, trivial⟩⟩ rfl rfl rfl, _, _, rfl, h⟩
      | false =>
        replace h := brF hb6 h
        refine ve ?_
        refine W2 [1, 3, 40, 41, 42, 43] [101] [1003, 1040] (l := [(1, .c (.ptr _ _ _ _)), (3, .c (.own _ _ _ _)), (40, .c (.own _ _ _ _)), (41, .c (.int _ _)), (42, .c (.int _ _)), (43, .c (.bool false))]) (h := [(101, ⟨0, 10, [[.int _ _, .int _ _, .int _ _, .int _ _, .int _ _, .int _ _, .int _ _, .int _ _, .int _ _, .row _ _ _]]⟩)]) (h' := [(1003, ⟨0, 1, v3.map en_u8⟩), (1040, ⟨0, 1, ([a0.fKind, a0.fH.fSlot, a0.fH.fGen, a0.fR.fH.fSlot, a0.fR.fH.fGen, a0.fR.fEp, a0.fR.fNo, a0.fN, a0.fM, (a0.fB.length : Int)] : List Int).map en_i64⟩)]) ⟨⟨_, rfl, enOk_u8.allClosed _ _ v3⟩, ⟨⟨_, rfl, enOk_i64.allClosed _ _ ([a0.fKind, a0.fH.fSlot, a0.fH.fGen, a0.fR.fH.fSlot, a0.fR.fH.fGen, a0.fR.fEp, a0.fR.fNo, a0.fN, a0.fM, (a0.fB.length : Int)] : List Int)⟩, trivial⟩⟩ rfl rfl rfl ?_
        refine W_seq ?_
        refine W_false rfl ?_
        refine W_exit (ex_then (ex_then (ex_hit ?_)))
        refine W_seq ?_
        refine W_regV he rfl ?_
        refine v0 (sM rfl [] rfl) rfl ?_
        refine v0 (sFP rfl rfl rfl) rfl ?_
        refine v0 (sLd rfl rfl) rfl ?_
        refine chkc h ?_; clear h; intro c9 h
        refine v0 (sAo rfl 1002 v3 a0.fB enOk_u8 rfl rfl rfl rfl rfl rfl rfl rfl rfl rfl rfl c9) rfl ?_
        refine v0 (sA rfl [] rfl) rfl ?_
        refine ve ?_
        refine W2 [2] [] [1002] (l := [(2, .c (.own _ _ _ _))]) (h := []) (h' := [(1002, ⟨0, 1, (v3 ++ a0.fB).map en_u8⟩)]) ⟨⟨_, rfl, enOk_u8.allClosed _ _ (v3 ++ a0.fB)⟩, trivial⟩ rfl rfl rfl ?_
        obtain rfl := Option.some.inj h
        refine W.weak (wk_row (l := (v3 ++ a0.fB)) 2 enOk_u8 rfl rfl) ?_
        exact W_ret (r0 rfl rfl)
  | false =>
    replace h := brF hb2 h
    refine v0 (sNt rfl rfl) rfl ?_
    refine ve ?_
    refine W2 [1, 8] [101] [] (l := [(1, .c (.ptr _ _ _ _)), (8, .c (.bool true))]) (h := [(101, ⟨0, 10, [[.int _ _, .int _ _, .int _ _, .int _ _, .int _ _, .int _ _, .int _ _, .int _ _, .int _ _, .row _ _ _]]⟩)]) (h' := []) trivial rfl rfl rfl ?_
    refine W_true rfl ?_
    refine W_seq ?_
    refine W_regV he rfl ?_
    refine v0 (sBS rfl 1002 (rows := ([] : List Int).map en_u8) rfl rfl rfl (by kernel_rfl) rfl rfl rfl rfl) rfl ?_
    refine v0 (sA rfl [] rfl) rfl ?_
    refine ve ?_
    refine W2 [2] [] [1002] (l := [(2, .c (.own _ _ _ _))]) (h := []) (h' := [(1002, ⟨0, 1, ([] : List Int).map en_u8⟩)]) ⟨⟨_, rfl, enOk_u8.allClosed _ _ ([] : List Int)⟩, trivial⟩ rfl rfl rfl ?_
    obtain rfl := Option.some.inj h
    refine W.weak (wk_row (l := ([] : List Int)) 2 enOk_u8 rfl rfl) ?_
    exact W_ret (r0 rfl rfl)
theorem ok_spec_PutOp : FnOk Try.prog 46 := ⟨_, Try.func46, rfl, rfl⟩


/-! ### loop.example/g00499/spec.PutOp -/
set_option maxRecDepth 20000 in
set_option maxHeartbeats 8000000 in
theorem wo_spec_PutOp (K : Nat) (a0 : T_impl_Op) (r : (List Int)) (h : m_spec_PutOp K a0 = some r) : Sp Try.prog 46 [.g [.int .i64 a0.fKind, .int .i64 a0.fH.fSlot, .int .i64 a0.fH.fGen, .int .i64 a0.fR.fH.fSlot, .int .i64 a0.fR.fH.fGen, .int .i64 a0.fR.fEp, .int .i64 a0.fR.fNo, .int .i64 a0.fN, .int .i64 a0.fM, .row false 1 (a0.fB.map en_u8)]] [] (.c (.own 1 0 0 r.length)) [⟨0, 1, r.map en_u8⟩] := by
  refine Sp.of_W tabOk Try.func46 rfl rfl (Nat.le_of_ble_eq_true rfl) (Nat.le_of_ble_eq_true rfl) fun F hP hN hm => ?_
  obtain ⟨P, N, w0, σ0, β0, m⟩ := F
  obtain rfl : P = Try.prog := hP
  obtain rfl : N = 54 := hN
  obtain rfl : m = 1 := hm
  have he : Env ⟨Try.prog, 54, w0, σ0, β0, 1⟩ tab := ⟨Nat.le_of_ble_eq_true rfl, tabOk⟩
  unfold m_spec_PutOp at h
  refine W_seq ?_
  refine W_regV he rfl ?_
  refine v0 (sBx rfl [] rfl rfl 101 rfl) rfl ?_
  refine v0 (sA rfl [1] rfl) rfl ?_
  refine ve ?_
  refine W2 [1] [101] [] (l := [(1, .c (.ptr _ _ _ _))]) (h := [(101, ⟨0, 10, [[.int _ _, .int _ _, .int _ _, .int _ _, .int _ _, .int _ _, .int _ _, .int _ _, .int _ _, .row _ _ _]]⟩)]) (h' := []) trivial rfl rfl rfl ?_
  refine W_seq ?_
  refine W_seq ?_
  refine W_regV he rfl ?_
  refine v0 (sLd rfl rfl) rfl ?_
  refine bndc h ?_; clear h; intro r1 hr1 h
  refine vB (sCm (w_spec_OpOk K a0 _ hr1) ok_spec_OpOk rfl rfl rfl rfl) rfl rfl fun b2 hb2 => ?_
  cases b2 with
  | true =>
    replace h := brT hb2 h
    refine v0 (sNt rfl rfl) rfl ?_
    refine ve ?_
    refine W2 [1, 8] [101] [] (l := [(1, .c (.ptr _ _ _ _)), (8, .c (.bool false))]) (h := [(101, ⟨0, 10, [[.int _ _, .int _ _, .int _ _, .int _ _, .int _ _, .int _ _, .int _ _, .int _ _, .int _ _, .row _ _ _]]⟩)]) (h' := []) trivial rfl rfl rfl ?_
    refine W_false rfl ?_
    refine W_skip ?_
    refine W_seq ?_
    refine W_regV he rfl ?_
    refine v0 (sBS rfl 1003 (rows := ([] : List Int).map en_u8) rfl rfl rfl (by kernel_rfl) rfl rfl rfl rfl) rfl ?_
    refine v0 (sA rfl [] rfl) rfl ?_
    refine ve ?_
    refine W2 [1, 3] [101] [1003] (l := [(1, .c (.ptr _ _ _ _)), (3, .c (.own _ _ _ _))]) (h := [(101, ⟨0, 10, [[.int _ _, .int _ _, .int _ _, .int _ _, .int _ _, .int _ _, .int _ _, .int _ _, .int _ _, .row _ _ _]]⟩)]) (h' := [(1003, ⟨0, 1, ([] : List Int).map en_u8⟩)]) ⟨⟨_, rfl, enOk_u8.allClosed _ _ ([] : List Int)⟩, trivial⟩ rfl rfl rfl ?_
    refine W_seq ?_
    refine W_seq ?_
    refine W_regV he rfl ?_
    refine v0 (sFP rfl rfl rfl) rfl ?_
    refine v0 (sLd rfl rfl) rfl ?_
    refine v0 (sFP rfl rfl rfl) rfl ?_
    refine v0 (sFP rfl rfl rfl) rfl ?_
    refine v0 (sLd rfl rfl) rfl ?_
    refine v0 (sFP rfl rfl rfl) rfl ?_
    refine v0 (sFP rfl rfl rfl) rfl ?_
    refine v0 (sLd rfl rfl) rfl ?_
    refine v0 (sFP rfl rfl rfl) rfl ?_
    refine v0 (sFP rfl rfl rfl) rfl ?_
    refine v0 (sFP rfl rfl rfl) rfl ?_
    refine v0 (sLd rfl rfl) rfl ?_
    refine v0 (sFP rfl rfl rfl) rfl ?_
    refine v0 (sFP rfl rfl rfl) rfl ?_
    refine v0 (sFP rfl rfl rfl) rfl ?_
    refine v0 (sLd rfl rfl) rfl ?_
    refine v0 (sFP rfl rfl rfl) rfl ?_
    refine v0 (sFP rfl rfl rfl) rfl ?_
    refine v0 (sLd rfl rfl) rfl ?_
    refine v0 (sFP rfl rfl rfl) rfl ?_
    refine v0 (sFP rfl rfl rfl) rfl ?_
    refine v0 (sLd rfl rfl) rfl ?_
    refine v0 (sFP rfl rfl rfl) rfl ?_
    refine v0 (sLd rfl rfl) rfl ?_
    refine v0 (sFP rfl rfl rfl) rfl ?_
    refine v0 (sLd rfl rfl) rfl ?_
    refine v0 (sFP rfl rfl rfl) rfl ?_
    refine v0 (sLd rfl rfl) rfl ?_
    refine v0 (sLm rfl rfl rfl rfl) rfl ?_
    refine v0 (sBS rfl 1040 (rows := ([a0.fKind, a0.fH.fSlot, a0.fH.fGen, a0.fR.fH.fSlot, a0.fR.fH.fGen, a0.fR.fEp, a0.fR.fNo, a0.fN, a0.fM, (a0.fB.length : Int)] : List Int).map en_i64) rfl rfl rfl (by kernel_rfl) rfl rfl rfl rfl) rfl ?_
    refine v0 (sLo rfl rfl rfl rfl) rfl ?_
    refine v0 (sM rfl [] rfl) rfl ?_
    refine ve ?_
    refine W2 [1, 3, 40, 41, 42] [101] [1003, 1040] (l := [(1, .c (.ptr _ _ _ _)), (3, .c (.own _ _ _ _)), (40, .c (.own _ _ _ _)), (41, .c (.int _ _)), (42, .c (.int _ _))]) (h := [(101, ⟨0, 10, [[.int _ _, .int _ _, .int _ _, .int _ _, .int _ _, .int _ _, .int _ _, .int _ _, .int _ _, .row _ _ _]]⟩)]) (h' := [(1003, ⟨0, 1, ([] : List Int).map en_u8⟩), (1040, ⟨0, 1, ([a0.fKind, a0.fH.fSlot, a0.fH.fGen, a0.fR.fH.fSlot, a0.fR.fH.fGen, a0.fR.fEp, a0.fR.fNo, a0.fN, a0.fM, (a0.fB.length : Int)] : List Int).map en_i64⟩)]) ⟨⟨_, rfl, enOk_u8.allClosed _ _ ([] : List Int)⟩, ⟨⟨_, rfl, enOk_i64.allClosed _ _ ([a0.fKind, a0.fH.fSlot, a0.fH.fGen, a0.fR.fH.fSlot, a0.fR.fH.fGen, a0.fR.fEp, a0.fR.fNo, a0.fN, a0.fM, (a0.fB.length : Int)] : List Int)⟩, trivial⟩⟩ rfl rfl rfl ?_
    refine W_block ?_
    refine W2 [1, 3, 40, 41, 42] [101] [1003, 1040] (l := [(1, .c (.ptr _ _ _ _)), (3, .c (.own _ _ _ _)), (40, .c (.own _ _ _ _)), (41, .c (.int _ _)), (42, .c (.int _ _))]) (h := [(101, ⟨0, 10, [[.int _ _, .int _ _, .int _ _, .int _ _, .int _ _, .int _ _, .int _ _, .int _ _, .int _ _, .row _ _ _]]⟩)]) (h' := [(1003, ⟨0, 1, ([] : List Int).map en_u8⟩), (1040, ⟨0, 1, ([a0.fKind, a0.fH.fSlot, a0.fH.fGen, a0.fR.fH.fSlot, a0.fR.fH.fGen, a0.fR.fEp, a0.fR.fNo, a0.fN, a0.fM, (a0.fB.length : Int)] : List Int).map en_i64⟩)]) ⟨⟨_, rfl, enOk_u8.allClosed _ _ ([] : List Int)⟩, ⟨⟨_, rfl, enOk_i64.allClosed _ _ ([a0.fKind, a0.fH.fSlot, a0.fH.fGen, a0.fR.fH.fSlot, a0.fR.fH.fGen, a0.fR.fEp, a0.fR.fNo, a0.fN, a0.fM, (a0.fB.length : Int)] : List Int)⟩, trivial⟩⟩ rfl rfl rfl ?_
    refine W_loopW (fun n5 S => ∃ (v3 : List Int), ∃ (v4 : Int), S = StL [(1, .c (.ptr 101 0 0 0)), (3, .c (.own 1003 0 0 v3.length)), (40, .c (.own 1040 0 0 ([a0.fKind, a0.fH.fSlot, a0.fH.fGen, a0.fR.fH.fSlot, a0.fR.fH.fGen, a0.fR.fEp, a0.fR.fNo, a0.fN, a0.fM, (a0.fB.length : Int)] : List Int).length)), (41, .c (.int .i64 (([a0.fKind, a0.fH.fSlot, a0.fH.fGen, a0.fR.fH.fSlot, a0.fR.fH.fGen, a0.fR.fEp, a0.fR.fNo, a0.fN, a0.fM, (a0.fB.length : Int)] : List Int).length : Int))), (42, .c (.int .i64 v4))] ([(101, ⟨0, 10, [[.int .i64 a0.fKind, .int .i64 a0.fH.fSlot, .int .i64 a0.fH.fGen, .int .i64 a0.fR.fH.fSlot, .int .i64 a0.fR.fH.fGen, .int .i64 a0.fR.fEp, .int .i64 a0.fR.fNo, .int .i64 a0.fN, .int .i64 a0.fM, .row false 1 (a0.fB.map en_u8)]]⟩)] ++ [(1003, ⟨0, 1, v3.map en_u8⟩), (1040, ⟨0, 1, ([a0.fKind, a0.fH.fSlot, a0.fH.fGen, a0.fR.fH.fSlot, a0.fR.fH.fGen, a0.fR.fEp, a0.fR.fNo, a0.fN, a0.fM, (a0.fB.length : Int)] : List Int).map en_i64⟩)]) ∧ l_spec_PutOp_5 K a0 n5 v3 v4 = some r) K ⟨_, _, rfl, h⟩ ?_
    rintro n5 S ⟨v3, v4, rfl, h⟩
    cases n5 with
    | zero => simp [l_spec_PutOp_5] at h
    | succ n5 =>
      rw [l_spec_PutOp_5] at h
      refine W_seq ?_
      refine W_regV he rfl ?_
      refine vB (sBi rfl rfl rfl rfl) rfl rfl fun b6 hb6 => ?_
      cases b6 with
      | true =>
        replace h := brT hb6 h
        refine ve ?_
        refine W2 [1, 3, 40, 41, 42, 43] [101] [1003, 1040] (l := [(1, .c (.ptr _ _ _ _)), (3, .c (.own _ _ _ _)), (40, .c (.own _ _ _ _)), (41, .c (.int _ _)), (42, .c (.int _ _)), (43, .c (.bool true))]) (h := [(101, ⟨0, 10, [[.int _ _, .int _ _, .int _ _, .int _ _, .int _ _, .int _ _, .int _ _, .int _ _, .int _ _, .row _ _ _]]⟩)]) (h' := [(1003, ⟨0, 1, v3.map en_u8⟩), (1040, ⟨0, 1, ([a0.fKind, a0.fH.fSlot, a0.fH.fGen, a0.fR.fH.fSlot, a0.fR.fH.fGen, a0.fR.fEp, a0.fR.fNo, a0.fN, a0.fM, (a0.fB.length : Int)] : List Int).map en_i64⟩)]) ⟨⟨_, rfl, enOk_u8.allClosed _ _ v3⟩, ⟨⟨_, rfl, enOk_i64.allClosed _ _ ([a0.fKind, a0.fH.fSlot, a0.fH.fGen, a0.fR.fH.fSlot, a0.fR.fH.fGen, a0.fR.fEp, a0.fR.fNo, a0.fN, a0.fM, (a0.fB.length : Int)] : List Int)⟩, trivial⟩⟩ rfl rfl rfl ?_
        refine W_seq ?_
        refine W_true rfl ?_
        refine W_skip ?_
        refine W_seq ?_
        refine W_block ?_
        refine W_seq ?_
        refine W_regV he rfl ?_
        refine chkc h ?_; clear h; intro c7 h
        refine v0 (sIOm rfl rfl rfl c7) rfl ?_
        refine v0 (sLkm rfl ([a0.fKind, a0.fH.fSlot, a0.fH.fGen, a0.fR.fH.fSlot, a0.fR.fH.fGen, a0.fR.fEp, a0.fR.fNo, a0.fN, a0.fM, (a0.fB.length : Int)] : List Int) c7 rfl rfl rfl rfl rfl rfl) rfl ?_
        refine v0 (sA rfl [] rfl) rfl ?_
        refine ve ?_
        refine W2 [1, 3, 5, 40, 41, 42] [101] [1003, 1040] (l := [(1, .c (.ptr _ _ _ _)), (3, .c (.own _ _ _ _)), (5, .c (.int _ _)), (40, .c (.own _ _ _ _)), (41, .c (.int _ _)), (42, .c (.int _ _))]) (h := [(101, ⟨0, 10, [[.int _ _, .int _ _, .int _ _, .int _ _, .int _ _, .int _ _, .int _ _, .int _ _, .int _ _, .row _ _ _]]⟩)]) (h' := [(1003, ⟨0, 1, v3.map en_u8⟩), (1040, ⟨0, 1, ([a0.fKind, a0.fH.fSlot, a0.fH.fGen, a0.fR.fH.fSlot, a0.fR.fH.fGen, a0.fR.fEp, a0.fR.fNo, a0.fN, a0.fM, (a0.fB.length : Int)] : List Int).map en_i64⟩)]) ⟨⟨_, rfl, enOk_u8.allClosed _ _ v3⟩, ⟨⟨_, rfl, enOk_i64.allClosed _ _ ([a0.fKind, a0.fH.fSlot, a0.fH.fGen, a0.fR.fH.fSlot, a0.fR.fH.fGen, a0.fR.fEp, a0.fR.fNo, a0.fN, a0.fM, (a0.fB.length : Int)] : List Int)⟩, trivial⟩⟩ rfl rfl rfl ?_
        refine W_regV he rfl ?_
        refine v0 (sM rfl [] rfl) rfl ?_
        refine v0 (sM rfl [] rfl) rfl ?_
        refine bndc h ?_; clear h; intro r8 hr8 h
        refine v0 (sCo (wo_spec_PutVar K v3 (gt ([a0.fKind, a0.fH.fSlot, a0.fH.fGen, a0.fR.fH.fSlot, a0.fR.fH.fGen, a0.fR.fEp, a0.fR.fNo, a0.fN, a0.fM, (a0.fB.length : Int)] : List Int) v4) _ hr8) ok_spec_PutVar (fun _ => rfl) [1003] 1003 rfl rfl rfl (low_cons (low_lent (l := v3) enOk_u8 rfl rfl rfl) (low_cons (rfl) (low_nil))) rfl) rfl ?_
        refine v0 (sA rfl [] rfl) rfl ?_
        refine ve ?_
        refine W2 [1, 3, 40, 41, 42] [101] [1003, 1040] (l := [(1, .c (.ptr _ _ _ _)), (3, .c (.own _ _ _ _)), (40, .c (.own _ _ _ _)), (41, .c (.int _ _)), (42, .c (.int _ _))]) (h := [(101, ⟨0, 10, [[.int _ _, .int _ _, .int _ _, .int _ _, .int _ _, .int _ _, .int _ _, .int _ _, .int _ _, .row _ _ _]]⟩)]) (h' := [(1003, ⟨0, 1, r8.map en_u8⟩), (1040, ⟨0, 1, ([a0.fKind, a0.fH.fSlot, a0.fH.fGen, a0.fR.fH.fSlot, a0.fR.fH.fGen, a0.fR.fEp, a0.fR.fNo, a0.fN, a0.fM, (a0.fB.length : Int)] : List Int).map en_i64⟩)]) ⟨⟨_, rfl, enOk_u8.allClosed _ _ r8⟩, ⟨⟨_, rfl, enOk_i64.allClosed _ _ ([a0.fKind, a0.fH.fSlot, a0.fH.fGen, a0.fR.fH.fSlot, a0.fR.fH.fGen, a0.fR.fEp, a0.fR.fNo, a0.fN, a0.fM, (a0.fB.length : Int)] : List Int)⟩, trivial⟩⟩ rfl rfl rfl ?_
        refine W_regV he rfl ?_
        refine v0 (sBi rfl rfl rfl rfl) rfl ?_
        refine v0 (sM rfl [] rfl) rfl ?_
        refine ve ?_
        exact ⟨n5, _, Nat.lt_succ_self n5, wk2 [1, 3, 40, 41, 42] [101] [1003, 1040] (l := [(1, .c (.ptr _ _ _ _)), (3, .c (.own _ _ _ _)), (40, .c (.own _ _ _ _)), (41, .c (.int _ _)), (42, .c (.int _ _))]) (h := [(101, ⟨0, 10, [[.int _ _, .int _ _, .int _ _, .int _ _, .int _ _, .int _ _, .int _ _, .int _ _, .int _ _, .row _ _ _]]⟩)]) (h' := [(1003, ⟨0, 1, r8.map en_u8⟩), (1040, ⟨0, 1, ([a0.fKind, a0.fH.fSlot, a0.fH.fGen, a0.fR.fH.fSlot, a0.fR.fH.fGen, a0.fR.fEp, a0.fR.fNo, a0.fN, a0.fM, (a0.fB.length : Int)] : List Int).map en_i64⟩)]) ⟨⟨_, rfl, enOk_u8.allClosed _ _ r8⟩, ⟨⟨_, rfl, enOk_i64.allClosed _ _ ([a0.fKind, a0.fH.fSlot, a0.fH.fGen, a0.fR.fH.fSlot, a0.fR.fH.fGen, a0.fR.fEp, a0.fR.fNo, a0.fN, a0.fM, (a0.fB.length : Int)] : List Int)⟩, trivial⟩⟩ rfl rfl rfl, _, _, rfl, h⟩
      | false =>
        replace h := brF hb6 h
        refine ve ?_
        refine W2 [1, 3, 40, 41, 42, 43] [101] [1003, 1040] (l := [(1, .c (.ptr _ _ _ _)), (3, .c (.own _ _ _ _)), (40, .c (.own _ _ _ _)), (41, .c (.int _ _)), (42, .c (.int _ _)), (43, .c (.bool false))]) (h := [(101, ⟨0, 10, [[.int _ _, .int _ _, .int _ _, .int _ _, .int _ _, .int _ _, .int _ _, .int _ _, .int _ _, .row _ _ _]]⟩)]) (h' := [(1003, ⟨0, 1, v3.map en_u8⟩), (1040, ⟨0, 1, ([a0.fKind, a0.fH.fSlot, a0.fH.fGen, a0.fR.fH.fSlot, a0.fR.fH.fGen, a0.fR.fEp, a0.fR.fNo, a0.fN, a0.fM, (a0.fB.length : Int)] : List Int).map en_i64⟩)]) ⟨⟨_, rfl, enOk_u8.allClosed _ _ v3⟩, ⟨⟨_, rfl, enOk_i64.allClosed _ _ ([a0.fKind, a0.fH.fSlot, a0.fH.fGen, a0.fR.fH.fSlot, a0.fR.fH.fGen, a0.fR.fEp, a0.fR.fNo, a0.fN, a0.fM, (a0.fB.length : Int)] : List Int)⟩, trivial⟩⟩ rfl rfl rfl ?_
        refine W_seq ?_
        refine W_false rfl ?_
        refine W_exit (ex_then (ex_then (ex_hit ?_)))
        refine W_seq ?_
        refine W_regV he rfl ?_
        refine v0 (sM rfl [] rfl) rfl ?_
        refine v0 (sFP rfl rfl rfl) rfl ?_
        refine v0 (sLd rfl rfl) rfl ?_
        refine chkc h ?_; clear h; intro c9 h
        refine v0 (sAo rfl 1002 v3 a0.fB enOk_u8 rfl rfl rfl rfl rfl rfl rfl rfl rfl rfl rfl c9) rfl ?_
        refine v0 (sA rfl [] rfl) rfl ?_
        refine ve ?_
        refine W2 [2] [] [1002] (l := [(2, .c (.own _ _ _ _))]) (h := []) (h' := [(1002, ⟨0, 1, (v3 ++ a0.fB).map en_u8⟩)]) ⟨⟨_, rfl, enOk_u8.allClosed _ _ (v3 ++ a0.fB)⟩, trivial⟩ rfl rfl rfl ?_
        obtain rfl := Option.some.inj h
        exact W_ret (retOne 0 1002 (.inl rfl) enOk_u8 rfl rfl rfl)
  | false =>
    replace h := brF hb2 h
    refine v0 (sNt rfl rfl) rfl ?_
    refine ve ?_
    refine W2 [1, 8] [101] [] (l := [(1, .c (.ptr _ _ _ _)), (8, .c (.bool true))]) (h := [(101, ⟨0, 10, [[.int _ _, .int _ _, .int _ _, .int _ _, .int _ _, .int _ _, .int _ _, .int _ _, .int _ _, .row _ _ _]]⟩)]) (h' := []) trivial rfl rfl rfl ?_
    refine W_true rfl ?_
    refine W_seq ?_
    refine W_regV he rfl ?_
    refine v0 (sBS rfl 1002 (rows := ([] : List Int).map en_u8) rfl rfl rfl (by kernel_rfl) rfl rfl rfl rfl) rfl ?_
    refine v0 (sA rfl [] rfl) rfl ?_
    refine ve ?_
    refine W2 [2] [] [1002] (l := [(2, .c (.own _ _ _ _))]) (h := []) (h' := [(1002, ⟨0, 1, ([] : List Int).map en_u8⟩)]) ⟨⟨_, rfl, enOk_u8.allClosed _ _ ([] : List Int)⟩, trivial⟩ rfl rfl rfl ?_
    obtain rfl := Option.some.inj h
    exact W_ret (retOne 0 1002 (.inl rfl) enOk_u8 rfl rfl rfl)


/-! ### loop.example/g00499/spec.DrawGetOp -/
def j_spec_DrawGetOp_4 (K : Nat) (v105 : List Int) : Option ((List Int)) := some v105
def m_spec_DrawGetOp (K : Nat) (a0 : List Int) : Option ((List Int)) := ((m_spec_l1New K a0).bind fun r1 => ((m_spec_l21DrawW K r1).bind fun r2 => ((m_spec_PutOp K r2.1).bind fun r3 => ((m_spec_l1BelowW K r2.2 5).bind fun r106 => (bif (r106.1 == 0) then (bif (decide ((r3.length : Int) > 0)) then ((m_spec_l1BelowW K r106.2 (r3.length : Int)).bind fun r109 => ((m_spec_l1BelowW K r109.2 256).bind fun r110 => (if (0 : Int) ≤ r109.1 ∧ r109.1 < (r3.length : Int) then j_spec_DrawGetOp_4 K (r3.set r109.1.toNat (IntKind.u8.wrap r110.1)) else none))) else j_spec_DrawGetOp_4 K r3) else (bif (r106.1 == 1) then ((m_spec_l1BelowW K r106.2 (iAdd .i64 (r3.length : Int) 1)).bind fun r113 => (if (0 : Int) ≤ r113.1 ∧ r113.1 ≤ (r3.length : Int) then j_spec_DrawGetOp_4 K (r3.take r113.1.toNat) else none)) else (bif (r106.1 == 2) then (if (r3 ++ ([0] : List Int)).length * 1 ≤ 140737488355328 ∧ (r3 ++ ([0] : List Int)).length ≤ maxLen then j_spec_DrawGetOp_4 K (r3 ++ ([0] : List Int)) else none) else j_spec_DrawGetOp_4 K r3)))))))
set_option maxRecDepth 20000 in
set_option maxHeartbeats 8000000 in
theorem w_spec_DrawGetOp (K : Nat) (a0 : List Int) (r : (List Int)) (h : m_spec_DrawGetOp K a0 = some r) : Sp Try.prog 53 [.c (.row false 1 (a0.map en_u8))] [] (.c (.row false 1 (r.map en_u8))) [] := by
  refine Sp.of_W tabOk Try.func53 rfl rfl (Nat.le_of_ble_eq_true rfl) (Nat.le_of_ble_eq_true rfl) fun F hP hN hm => ?_
  obtain ⟨P, N, w0, σ0, β0, m⟩ := F
  obtain rfl : P = Try.prog := hP
  obtain rfl : N = 41 := hN
  obtain rfl : m = 1 := hm
  have he : Env ⟨Try.prog, 41, w0, σ0, β0, 1⟩ tab := ⟨Nat.le_of_ble_eq_true rfl, tabOk⟩
  unfold m_spec_DrawGetOp at h
  refine W_seq ?_
  refine W_regV he rfl ?_
  refine v0 (sA rfl [1] rfl) rfl ?_
  refine ve ?_
  refine W2 [0] [] [] (l := [(0, .c (.row _ _ _))]) (h := []) (h' := []) trivial rfl rfl rfl ?_
  refine W_seq ?_
  refine W_regV he rfl ?_
  refine v0 (sM rfl [] rfl) rfl ?_
  refine bndc h ?_; clear h; intro r1 hr1 h
  refine v0 (sCoC (l := [r1]) (wo_spec_l1New K a0 _ hr1) ok_spec_l1New enOk_spec_l1Cur 1003 rfl rfl rfl rfl rfl) rfl ?_
  refine v0 (sA rfl [] rfl) rfl ?_
  refine ve ?_
  refine W2 [3] [1003] [] (l := [(3, .c (.ptr _ _ _ _))]) (h := [(1003, ⟨0, 3, [[.row _ _ _, .int _ _, .int _ _]]⟩)]) (h' := []) trivial rfl rfl rfl ?_
  refine W_seq ?_
  refine W_regV he rfl ?_
  refine v0 (sM rfl [] rfl) rfl ?_
  refine bndc h ?_; clear h; intro r2 hr2 h
  refine v0 (sCw (l := [r1]) (l' := [r2.2]) (w_spec_l21DrawW K r1 _ hr2) ok_spec_l21Draw enOk_spec_l1Cur rfl 1003 rfl rfl rfl rfl rfl rfl) rfl ?_
  refine bndc h ?_; clear h; intro r3 hr3 h
  refine v0 (sCo (wo_spec_PutOp K r2.1 _ hr3) ok_spec_PutOp (fun _ => rfl) [] 1004 rfl rfl rfl rfl rfl) rfl ?_
  refine v0 (sA rfl [] rfl) rfl ?_
  refine ve ?_
  refine W2 [3, 4] [1003] [1004] (l := [(3, .c (.ptr _ _ _ _)), (4, .c (.own _ _ _ _))]) (h := [(1003, ⟨0, 3, [[.row _ _ _, .int _ _, .int _ _]]⟩)]) (h' := [(1004, ⟨0, 1, r3.map en_u8⟩)]) ⟨⟨_, rfl, enOk_u8.allClosed _ _ r3⟩, trivial⟩ rfl rfl rfl ?_
  refine W_join (fun S => ∃ (v105 : List Int), S = StL [(4, .c (.own 1004 0 0 v105.length))] ([] ++ [(1004, ⟨0, 1, v105.map en_u8⟩)]) ∧ j_spec_DrawGetOp_4 K v105 = some r) ?_ ?_
  · rintro S ⟨v105, rfl, h⟩
    unfold j_spec_DrawGetOp_4 at h
    refine W_seq ?_
    refine W_regV he rfl ?_
    refine v0 (sM rfl [] rfl) rfl ?_
    refine v0 (sA rfl [] rfl) rfl ?_
    refine ve ?_
    refine W2 [2] [] [1004] (l := [(2, .c (.own _ _ _ _))]) (h := []) (h' := [(1004, ⟨0, 1, v105.map en_u8⟩)]) ⟨⟨_, rfl, enOk_u8.allClosed _ _ v105⟩, trivial⟩ rfl rfl rfl ?_
    obtain rfl := Option.some.inj h
    refine W.weak (wk_row (l := v105) 2 enOk_u8 rfl rfl) ?_
    exact W_ret (r0 rfl rfl)
  ·
    refine W_seq ?_
    refine W_regV he rfl ?_
    refine v0 (sM rfl [] rfl) rfl ?_
    refine bndc h ?_; clear h; intro r106 hr106 h
    refine v0 (sCw (l := [r2.2]) (l' := [r106.2]) (w_spec_l1BelowW K r2.2 5 _ hr106) ok_spec_l1Below enOk_spec_l1Cur rfl 1003 rfl rfl rfl rfl rfl rfl) rfl ?_
    refine ve ?_
    refine W2 [3, 4, 11] [1003] [1004] (l := [(3, .c (.ptr _ _ _ _)), (4, .c (.own _ _ _ _)), (11, .c (.int _ _))]) (h := [(1003, ⟨0, 3, [[.row _ _ _, .int _ _, .int _ _]]⟩)]) (h' := [(1004, ⟨0, 1, r3.map en_u8⟩)]) ⟨⟨_, rfl, enOk_u8.allClosed _ _ r3⟩, trivial⟩ rfl rfl rfl ?_
    refine W_block ?_
    refine W_seq ?_
    refine W_regV he rfl ?_
    refine v0 (sBi rfl rfl rfl rfl) rfl ?_
    refine v0 (sA rfl [] rfl) rfl ?_
    refine ve ?_
    refine W2 [3, 4, 11, 12] [1003] [1004] (l := [(3, .c (.ptr _ _ _ _)), (4, .c (.own _ _ _ _)), (11, .c (.int _ _)), (12, .c (.bool _))]) (h := [(1003, ⟨0, 3, [[.row _ _ _, .int _ _, .int _ _]]⟩)]) (h' := [(1004, ⟨0, 1, r3.map en_u8⟩)]) ⟨⟨_, rfl, enOk_u8.allClosed _ _ r3⟩, trivial⟩ rfl rfl rfl ?_
    refine W_condB rfl (fun hb107 => ?_) (fun hb107 => ?_)
    ·
      replace h := brT hb107 h
      refine W_seq ?_
      refine W_regV he rfl ?_
      refine v0 (sM rfl [] rfl) rfl ?_
      refine v0 (sLo rfl rfl rfl rfl) rfl ?_
      refine vB (sBi rfl rfl rfl rfl) rfl rfl fun b108 hb108 => ?_
      cases b108 with
      | true =>
        replace h := brT hb108 h
        refine ve ?_
        refine W2 [3, 4, 16] [1003] [1004] (l := [(3, .c (.ptr _ _ _ _)), (4, .c (.own _ _ _ _)), (16, .c (.bool true))]) (h := [(1003, ⟨0, 3, [[.row _ _ _, .int _ _, .int _ _]]⟩)]) (h' := [(1004, ⟨0, 1, r3.map en_u8⟩)]) ⟨⟨_, rfl, enOk_u8.allClosed _ _ r3⟩, trivial⟩ rfl rfl rfl ?_
        refine W_true rfl ?_
        refine W_regV he rfl ?_
        refine v0 (sM rfl [] rfl) rfl ?_
        refine v0 (sM rfl [] rfl) rfl ?_
        refine v0 (sM rfl [] rfl) rfl ?_
        refine v0 (sLo rfl rfl rfl rfl) rfl ?_
        refine bndc h ?_; clear h; intro r109 hr109 h
        refine v0 (sCw (l := [r106.2]) (l' := [r109.2]) (w_spec_l1BelowW K r106.2 (r3.length : Int) _ hr109) ok_spec_l1Below enOk_spec_l1Cur rfl 1003 rfl rfl rfl rfl rfl rfl) rfl ?_
        refine v0 (sM rfl [] rfl) rfl ?_
        refine bndc h ?_; clear h; intro r110 hr110 h
        refine v0 (sCw (l := [r109.2]) (l' := [r110.2]) (w_spec_l1BelowW K r109.2 256 _ hr110) ok_spec_l1Below enOk_spec_l1Cur rfl 1003 rfl rfl rfl rfl rfl rfl) rfl ?_
        refine v0 (sCv rfl rfl rfl rfl rfl rfl) rfl ?_
        refine chkc h ?_; clear h; intro c111 h
        refine v0 (sIOm rfl rfl rfl c111) rfl ?_
        refine v0 (sSkm rfl rfl [] r3 (IntKind.u8.wrap r110.1) c111 rfl rfl rfl rfl rfl rfl rfl rfl rfl) rfl ?_
        refine ve ?_
        exact ⟨_, (wk_len 4 (n' := (r3.set r109.1.toNat (IntKind.u8.wrap r110.1)).length) (by simp only [List.length_set]) rfl).trans (wk2 [4] [] [1004] (l := [(4, .c (.own _ _ _ _))]) (h := []) (h' := [(1004, ⟨0, 1, (r3.set r109.1.toNat (IntKind.u8.wrap r110.1)).map en_u8⟩)]) ⟨⟨_, rfl, enOk_u8.allClosed _ _ (r3.set r109.1.toNat (IntKind.u8.wrap r110.1))⟩, trivial⟩ rfl rfl rfl), _, rfl, h⟩
      | false =>
        replace h := brF hb108 h
        refine ve ?_
        refine W2 [3, 4, 16] [1003] [1004] (l := [(3, .c (.ptr _ _ _ _)), (4, .c (.own _ _ _ _)), (16, .c (.bool false))]) (h := [(1003, ⟨0, 3, [[.row _ _ _, .int _ _, .int _ _]]⟩)]) (h' := [(1004, ⟨0, 1, r3.map en_u8⟩)]) ⟨⟨_, rfl, enOk_u8.allClosed _ _ r3⟩, trivial⟩ rfl rfl rfl ?_
        refine W_false rfl ?_
        refine W_skip ?_
        exact ⟨_, wk2 [4] [] [1004] (l := [(4, .c (.own _ _ _ _))]) (h := []) (h' := [(1004, ⟨0, 1, r3.map en_u8⟩)]) ⟨⟨_, rfl, enOk_u8.allClosed _ _ r3⟩, trivial⟩ rfl rfl rfl, _, rfl, h⟩
    ·
      replace h := brF hb107 h
      refine W_seq ?_
      refine W_regV he rfl ?_
      refine v0 (sBi rfl rfl rfl rfl) rfl ?_
      refine v0 (sA rfl [] rfl) rfl ?_
      refine ve ?_
      refine W2 [3, 4, 11, 26] [1003] [1004] (l := [(3, .c (.ptr _ _ _ _)), (4, .c (.own _ _ _ _)), (11, .c (.int _ _)), (26, .c (.bool _))]) (h := [(1003, ⟨0, 3, [[.row _ _ _, .int _ _, .int _ _]]⟩)]) (h' := [(1004, ⟨0, 1, r3.map en_u8⟩)]) ⟨⟨_, rfl, enOk_u8.allClosed _ _ r3⟩, trivial⟩ rfl rfl rfl ?_
      refine W_condB rfl (fun hb112 => ?_) (fun hb112 => ?_)
      ·
        replace h := brT hb112 h
        refine W_regV he rfl ?_
        refine v0 (sM rfl [] rfl) rfl ?_
        refine v0 (sM rfl [] rfl) rfl ?_
        refine v0 (sM rfl [] rfl) rfl ?_
        refine v0 (sLo rfl rfl rfl rfl) rfl ?_
        refine v0 (sBi rfl rfl rfl rfl) rfl ?_
        refine bndc h ?_; clear h; intro r113 hr113 h
        refine v0 (sCw (l := [r106.2]) (l' := [r113.2]) (w_spec_l1BelowW K r106.2 (iAdd .i64 (r3.length : Int) 1) _ hr113) ok_spec_l1Below enOk_spec_l1Cur rfl 1003 rfl rfl rfl rfl rfl rfl) rfl ?_
        refine chkc h ?_; clear h; intro c114 h
        refine v0 (sSlO rfl rfl rfl rfl rfl c114) rfl ?_
        refine vWk (wk_cut (l := r3) 34 c114 rfl rfl) ?_
        refine v0 (sA rfl [] rfl) rfl ?_
        refine ve ?_
        exact ⟨_, wk2 [4] [] [1004] (l := [(4, .c (.own _ _ _ _))]) (h := []) (h' := [(1004, ⟨0, 1, (r3.take r113.1.toNat).map en_u8⟩)]) ⟨⟨_, rfl, enOk_u8.allClosed _ _ (r3.take r113.1.toNat)⟩, trivial⟩ rfl rfl rfl, _, rfl, h⟩
      ·
        replace h := brF hb112 h
        refine W_seq ?_
        refine W_regV he rfl ?_
        refine v0 (sBi rfl rfl rfl rfl) rfl ?_
        refine v0 (sA rfl [] rfl) rfl ?_
        refine ve ?_
        refine W2 [4, 35] [] [1004] (l := [(4, .c (.own _ _ _ _)), (35, .c (.bool _))]) (h := []) (h' := [(1004, ⟨0, 1, r3.map en_u8⟩)]) ⟨⟨_, rfl, enOk_u8.allClosed _ _ r3⟩, trivial⟩ rfl rfl rfl ?_
        refine W_condB rfl (fun hb115 => ?_) (fun hb115 => ?_)
        ·
          replace h := brT hb115 h
          refine W_regV he rfl ?_
          refine v0 (sM rfl [] rfl) rfl ?_
          refine v0 (sBS rfl 1038 (rows := ([0] : List Int).map en_u8) rfl rfl rfl (by kernel_rfl) rfl rfl rfl rfl) rfl ?_
          refine chkc h ?_; clear h; intro c116 h
          refine v0 (sAo rfl 1004 r3 ([0] : List Int) enOk_u8 rfl rfl rfl rfl rfl rfl rfl rfl rfl rfl rfl c116) rfl ?_
          refine v0 (sA rfl [] rfl) rfl ?_
          refine ve ?_
          exact ⟨_, wk2 [4] [] [1004] (l := [(4, .c (.own _ _ _ _))]) (h := []) (h' := [(1004, ⟨0, 1, (r3 ++ ([0] : List Int)).map en_u8⟩)]) ⟨⟨_, rfl, enOk_u8.allClosed _ _ (r3 ++ ([0] : List Int))⟩, trivial⟩ rfl rfl rfl, _, rfl, h⟩
        ·
          replace h := brF hb115 h
          refine W_skip ?_
          exact ⟨_, wk2 [4] [] [1004] (l := [(4, .c (.own _ _ _ _))]) (h := []) (h' := [(1004, ⟨0, 1, r3.map en_u8⟩)]) ⟨⟨_, rfl, enOk_u8.allClosed _ _ r3⟩, trivial⟩ rfl rfl rfl, _, rfl, h⟩
theorem ok_spec_DrawGetOp : FnOk Try.prog 53 := ⟨_, Try.func53, rfl, rfl⟩


/-! ### loop.example/g00499/impl.GetVar -/
def j_impl_GetVar_10 (K : Nat) (a0 : List Int) (a1 : Int) (v3 : Int) (v4 : Int) : Option (Int × Int × Bool) := some ((iOr .i64 v3 (iShl .i64 (IntKind.i64.wrap (iAnd .u8 (gt a0 (iAdd .i64 a1 v4)) 127)) (IntKind.u64.wrap (iMul .i64 7 v4)))), (iAdd .i64 (iAdd .i64 a1 v4) 1), true)
def l_impl_GetVar_5 (K : Nat) (a0 : List Int) (a1 : Int) : Nat → Int → Int → Option (Int × Int × Bool)
  | 0, _, _ => none
  | n5 + 1, v3, v4 => (bif (decide (v4 < (iMin 5 (iSub .i64 (a0.length : Int) a1)))) then (if (0 : Int) ≤ (iAdd .i64 a1 v4) ∧ (iAdd .i64 a1 v4) < (a0.length : Int) then (if (0 : Int) ≤ (IntKind.u64.wrap (iMul .i64 7 v4)) then (bif (decide ((gt a0 (iAdd .i64 a1 v4)) < 128)) then (bif (decide (v4 > 0)) then (bif ((gt a0 (iAdd .i64 a1 v4)) == 0) then some (0, 0, false) else (bif (decide ((iOr .i64 v3 (iShl .i64 (IntKind.i64.wrap (iAnd .u8 (gt a0 (iAdd .i64 a1 v4)) 127)) (IntKind.u64.wrap (iMul .i64 7 v4)))) > 1000000000)) then some (0, 0, false) else j_impl_GetVar_10 K a0 a1 v3 v4 )) else (bif (decide ((iOr .i64 v3 (iShl .i64 (IntKind.i64.wrap (iAnd .u8 (gt a0 (iAdd .i64 a1 v4)) 127)) (IntKind.u64.wrap (iMul .i64 7 v4)))) > 1000000000)) then some (0, 0, false) else j_impl_GetVar_10 K a0 a1 v3 v4 )) else (l_impl_GetVar_5 K a0 a1 n5 (iOr .i64 v3 (iShl .i64 (IntKind.i64.wrap (iAnd .u8 (gt a0 (iAdd .i64 a1 v4)) 127)) (IntKind.u64.wrap (iMul .i64 7 v4)))) (iAdd .i64 v4 1))) else none) else none) else some (0, 0, false))
def m_impl_GetVar (K : Nat) (a0 : List Int) (a1 : Int) : Option (Int × Int × Bool) := ((m_impl_within K a1 0 (iSub .i64 (a0.length : Int) 1)).bind fun r1 => (bif r1 then (l_impl_GetVar_5 K a0 a1 K 0 0) else some (0, 0, false)))
set_option maxRecDepth 20000 in
set_option maxHeartbeats 8000000 in
theorem w_impl_GetVar (K : Nat) (a0 : List Int) (a1 : Int) (r : Int × Int × Bool) (h : m_impl_GetVar K a0 a1 = some r) : Sp Try.prog 22 [.c (.row false 1 (a0.map en_u8)), .c (.int .i64 a1)] [] (.t [.c (.int .i64 r.1), .c (.int .i64 r.2.1), .c (.bool r.2.2)]) [] := by
  refine Sp.of_W tabOk Try.func22 rfl rfl (Nat.le_of_ble_eq_true rfl) (Nat.le_of_ble_eq_true rfl) fun F hP hN hm => ?_
  obtain ⟨P, N, w0, σ0, β0, m⟩ := F
  obtain rfl : P = Try.prog := hP
  obtain rfl : N = 57 := hN
  obtain rfl : m = 1 := hm
  have he : Env ⟨Try.prog, 57, w0, σ0, β0, 1⟩ tab := ⟨Nat.le_of_ble_eq_true rfl, tabOk⟩
  unfold m_impl_GetVar at h
  refine W_seq ?_
  refine W_regV he rfl ?_
  refine v0 (sA rfl [] rfl) rfl ?_
  refine v0 (sA rfl [] rfl) rfl ?_
  refine v0 (sA rfl [] rfl) rfl ?_
  refine ve ?_
  refine W2 [0, 1] [] [] (l := [(0, .c (.row _ _ _)), (1, .c (.int _ _))]) (h := []) (h' := []) trivial rfl rfl rfl ?_
  refine W_seq ?_
  refine W_seq ?_
  refine W_regV he rfl ?_
  refine v0 (sM rfl [] rfl) rfl ?_
  refine v0 (sM rfl [] rfl) rfl ?_
  refine v0 (sLm rfl rfl rfl rfl) rfl ?_
  refine v0 (sBi rfl rfl rfl rfl) rfl ?_
  refine bndc h ?_; clear h; intro r1 hr1 h
  refine vB (sCm (w_impl_within K a1 0 (iSub .i64 (a0.length : Int) 1) _ hr1) ok_impl_within rfl rfl rfl rfl) rfl rfl fun b2 hb2 => ?_
  cases b2 with
  | true =>
    replace h := brT hb2 h
    refine v0 (sNt rfl rfl) rfl ?_
    refine ve ?_
    refine W2 [0, 1, 15] [] [] (l := [(0, .c (.row _ _ _)), (1, .c (.int _ _)), (15, .c (.bool false))]) (h := []) (h' := []) trivial rfl rfl rfl ?_
    refine W_false rfl ?_
    refine W_skip ?_
    refine W_seq ?_
    refine W_regV he rfl ?_
    refine v0 (sA rfl [] rfl) rfl ?_
    refine ve ?_
    refine W2 [0, 1, 7] [] [] (l := [(0, .c (.row _ _ _)), (1, .c (.int _ _)), (7, .c (.int _ _))]) (h := []) (h' := []) trivial rfl rfl rfl ?_
    refine W_seq ?_
    refine W_seq ?_
    refine W_regV he rfl ?_
    refine v0 (sM rfl [] rfl) rfl ?_
    refine v0 (sLm rfl rfl rfl rfl) rfl ?_
    refine v0 (sM rfl [] rfl) rfl ?_
    refine v0 (sBi rfl rfl rfl rfl) rfl ?_
    refine v0 (sMn rfl rfl rfl) rfl ?_
    refine v0 (sM rfl [] rfl) rfl ?_
    refine ve ?_
    refine W2 [0, 1, 7, 20, 21] [] [] (l := [(0, .c (.row _ _ _)), (1, .c (.int _ _)), (7, .c (.int _ _)), (20, .c (.int _ _)), (21, .c (.int _ _))]) (h := []) (h' := []) trivial rfl rfl rfl ?_
    refine W_block ?_
    refine W2 [0, 1, 7, 20, 21] [] [] (l := [(0, .c (.row _ _ _)), (1, .c (.int _ _)), (7, .c (.int _ _)), (20, .c (.int _ _)), (21, .c (.int _ _))]) (h := []) (h' := []) trivial rfl rfl rfl ?_
    refine W_loopW (fun n5 S => ∃ (v3 : Int), ∃ (v4 : Int), S = StL [(0, .c (.row false 1 (a0.map en_u8))), (1, .c (.int .i64 a1)), (7, .c (.int .i64 v3)), (20, .c (.int .i64 (iMin 5 (iSub .i64 (a0.length : Int) a1)))), (21, .c (.int .i64 v4))] ([] ++ []) ∧ l_impl_GetVar_5 K a0 a1 n5 v3 v4 = some r) K ⟨_, _, rfl, h⟩ ?_
    rintro n5 S ⟨v3, v4, rfl, h⟩
    cases n5 with
    | zero => simp [l_impl_GetVar_5] at h
    | succ n5 =>
      rw [l_impl_GetVar_5] at h
      refine W_seq ?_
      refine W_regV he rfl ?_
      refine vB (sBi rfl rfl rfl rfl) rfl rfl fun b6 hb6 => ?_
      cases b6 with
      | true =>
        replace h := brT hb6 h
        refine ve ?_
        refine W2 [0, 1, 7, 20, 21, 22] [] [] (l := [(0, .c (.row _ _ _)), (1, .c (.int _ _)), (7, .c (.int _ _)), (20, .c (.int _ _)), (21, .c (.int _ _)), (22, .c (.bool true))]) (h := []) (h' := []) trivial rfl rfl rfl ?_
        refine W_seq ?_
        refine W_true rfl ?_
        refine W_skip ?_
        refine W_seq ?_
        refine W_block ?_
        refine W_seq ?_
        refine W_regV he rfl ?_
        refine v0 (sM rfl [] rfl) rfl ?_
        refine v0 (sA rfl [] rfl) rfl ?_
        refine ve ?_
        refine W2 [0, 1, 7, 8, 20, 21] [] [] (l := [(0, .c (.row _ _ _)), (1, .c (.int _ _)), (7, .c (.int _ _)), (8, .c (.int _ _)), (20, .c (.int _ _)), (21, .c (.int _ _))]) (h := []) (h' := []) trivial rfl rfl rfl ?_
        refine W_seq ?_
        refine W_regV he rfl ?_
        refine v0 (sM rfl [] rfl) rfl ?_
        refine v0 (sM rfl [] rfl) rfl ?_
        refine v0 (sM rfl [] rfl) rfl ?_
        refine v0 (sBi rfl rfl rfl rfl) rfl ?_
        refine chkc h ?_; clear h; intro c7 h
        refine v0 (sIRm rfl rfl rfl rfl c7) rfl ?_
        refine v0 (sLI rfl rfl (en_u8 (gt a0 (iAdd .i64 a1 v4))) (gt_at _ c7) rfl rfl rfl) rfl ?_
        refine v0 (sA rfl [] rfl) rfl ?_
        refine ve ?_
        refine W2 [0, 1, 7, 8, 9, 20, 21] [] [] (l := [(0, .c (.row _ _ _)), (1, .c (.int _ _)), (7, .c (.int _ _)), (8, .c (.int _ _)), (9, .c (.int _ _)), (20, .c (.int _ _)), (21, .c (.int _ _))]) (h := []) (h' := []) trivial rfl rfl rfl ?_
        refine W_seq ?_
        refine W_regV he rfl ?_
        refine v0 (sM rfl [] rfl) rfl ?_
        refine v0 (sM rfl [] rfl) rfl ?_
        refine v0 (sBi rfl rfl rfl rfl) rfl ?_
        refine v0 (sCv rfl rfl rfl rfl rfl rfl) rfl ?_
        refine v0 (sM rfl [] rfl) rfl ?_
        refine v0 (sBi rfl rfl rfl rfl) rfl ?_
        refine v0 (sCv rfl rfl rfl rfl rfl rfl) rfl ?_
        refine chkc h ?_; clear h; intro c8 h
        refine v0 (sSh rfl rfl rfl c8) rfl ?_
        refine v0 (sBi rfl rfl rfl rfl) rfl ?_
        refine v0 (sA rfl [] rfl) rfl ?_
        refine ve ?_
        refine W2 [0, 1, 7, 8, 9, 20, 21] [] [] (l := [(0, .c (.row _ _ _)), (1, .c (.int _ _)), (7, .c (.int _ _)), (8, .c (.int _ _)), (9, .c (.int _ _)), (20, .c (.int _ _)), (21, .c (.int _ _))]) (h := []) (h' := []) trivial rfl rfl rfl ?_
        refine W_seq ?_
        refine W_regV he rfl ?_
        refine v0 (sM rfl [] rfl) rfl ?_
        refine vB (sBi rfl rfl rfl rfl) rfl rfl fun b9 hb9 => ?_
        cases b9 with
        | true =>
          replace h := brT hb9 h
          refine ve ?_
          refine W2 [0, 1, 7, 8, 9, 20, 21, 40] [] [] (l := [(0, .c (.row _ _ _)), (1, .c (.int _ _)), (7, .c (.int _ _)), (8, .c (.int _ _)), (9, .c (.int _ _)), (20, .c (.int _ _)), (21, .c (.int _ _)), (40, .c (.bool true))]) (h := []) (h' := []) trivial rfl rfl rfl ?_
          refine W_true rfl ?_
          refine W_join (fun S => S = StL [(1, .c (.int .i64 a1)), (7, .c (.int .i64 (iOr .i64 v3 (iShl .i64 (IntKind.i64.wrap (iAnd .u8 (gt a0 (iAdd .i64 a1 v4)) 127)) (IntKind.u64.wrap (iMul .i64 7 v4)))))), (8, .c (.int .i64 v4))] ([] ++ []) ∧ j_impl_GetVar_10 K a0 a1 v3 v4  = some r) ?_ ?_
          · rintro S ⟨rfl, h⟩
            unfold j_impl_GetVar_10 at h
            refine W_seq ?_
            refine W_regV he rfl ?_
            refine v0 (sM rfl [] rfl) rfl ?_
            refine v0 (sM rfl [] rfl) rfl ?_
            refine v0 (sM rfl [] rfl) rfl ?_
            refine v0 (sBi rfl rfl rfl rfl) rfl ?_
            refine v0 (sBi rfl rfl rfl rfl) rfl ?_
            refine v0 (sA rfl [] rfl) rfl ?_
            refine v0 (sA rfl [] rfl) rfl ?_
            refine v0 (sA rfl [] rfl) rfl ?_
            refine ve ?_
            refine W2 [4, 5, 6] [] [] (l := [(4, .c (.int _ _)), (5, .c (.int _ _)), (6, .c (.bool true))]) (h := []) (h' := []) trivial rfl rfl rfl ?_
            obtain rfl := Option.some.inj h
            exact W_ret (r0 rfl rfl)
          ·
            refine W_seq ?_
            refine W_regV he rfl ?_
            refine v0 (sM rfl [] rfl) rfl ?_
            refine vB (sBi rfl rfl rfl rfl) rfl rfl fun b111 hb111 => ?_
            cases b111 with
            | true =>
              replace h := brT hb111 h
              refine v0 (sM rfl [] rfl) rfl ?_
              refine u0 (sM rfl [] rfl) rfl rfl rfl ?_
              refine uB (sBi rfl rfl rfl rfl) rfl rfl rfl rfl fun b112 hb112 => ?_
              cases b112 with
              | true =>
                replace h := brT hb112 h
                refine v0 (sPk rfl [] rfl rfl) rfl ?_
                refine v0 (sM rfl [] rfl) rfl ?_
                refine uP rfl rfl rfl rfl ?_
                refine uP rfl rfl rfl rfl ?_
                refine v0 (sPk rfl [] rfl rfl) rfl ?_
                refine ve ?_
                refine W2 [1, 7, 8, 50] [] [] (l := [(1, .c (.int _ _)), (7, .c (.int _ _)), (8, .c (.int _ _)), (50, .c (.bool true))]) (h := []) (h' := []) trivial rfl rfl rfl ?_
                refine W_true rfl ?_
                refine W_exit (ex_then (ex_miss rfl (ex_then (ex_then (ex_hit ?_)))))
                refine W_seq ?_
                refine W_regV he rfl ?_
                refine v0 (sA rfl [] rfl) rfl ?_
                refine v0 (sA rfl [] rfl) rfl ?_
                refine v0 (sA rfl [] rfl) rfl ?_
                refine ve ?_
                refine W2 [4, 5, 6] [] [] (l := [(4, .c (.int _ _)), (5, .c (.int _ _)), (6, .c (.bool false))]) (h := []) (h' := []) trivial rfl rfl rfl ?_
                obtain rfl := Option.some.inj h
                exact W_ret (r0 rfl rfl)
              | false =>
                replace h := brF hb112 h
                refine v0 (sPk rfl [] rfl rfl) rfl ?_
                refine v0 (sM rfl [] rfl) rfl ?_
                refine u0 (sM rfl [] rfl) rfl rfl rfl ?_
                refine uB (sBi rfl rfl rfl rfl) rfl rfl rfl rfl fun b113 hb113 => ?_
                cases b113 with
                | true =>
                  replace h := brT hb113 h
                  refine v0 (sPk rfl [] rfl rfl) rfl ?_
                  refine ve ?_
                  refine W2 [1, 7, 8, 50] [] [] (l := [(1, .c (.int _ _)), (7, .c (.int _ _)), (8, .c (.int _ _)), (50, .c (.bool true))]) (h := []) (h' := []) trivial rfl rfl rfl ?_
                  refine W_true rfl ?_
                  refine W_exit (ex_then (ex_miss rfl (ex_then (ex_then (ex_hit ?_)))))
                  refine W_seq ?_
                  refine W_regV he rfl ?_
                  refine v0 (sA rfl [] rfl) rfl ?_
                  refine v0 (sA rfl [] rfl) rfl ?_
                  refine v0 (sA rfl [] rfl) rfl ?_
                  refine ve ?_
                  refine W2 [4, 5, 6] [] [] (l := [(4, .c (.int _ _)), (5, .c (.int _ _)), (6, .c (.bool false))]) (h := []) (h' := []) trivial rfl rfl rfl ?_
                  obtain rfl := Option.some.inj h
                  exact W_ret (r0 rfl rfl)
                | false =>
                  replace h := brF hb113 h
                  refine v0 (sPk rfl [] rfl rfl) rfl ?_
                  refine ve ?_
                  refine W2 [1, 7, 8, 50] [] [] (l := [(1, .c (.int _ _)), (7, .c (.int _ _)), (8, .c (.int _ _)), (50, .c (.bool false))]) (h := []) (h' := []) trivial rfl rfl rfl ?_
                  refine W_false rfl ?_
                  refine W_skip ?_
                  exact ⟨_, wk2 [1, 7, 8] [] [] (l := [(1, .c (.int _ _)), (7, .c (.int _ _)), (8, .c (.int _ _))]) (h := []) (h' := []) trivial rfl rfl rfl, rfl, h⟩
            | false =>
              replace h := brF hb111 h
              refine v0 (sM rfl [] rfl) rfl ?_
              refine uP rfl rfl rfl rfl ?_
              refine uP rfl rfl rfl rfl ?_
              refine v0 (sPk rfl [] rfl rfl) rfl ?_
              refine v0 (sM rfl [] rfl) rfl ?_
              refine u0 (sM rfl [] rfl) rfl rfl rfl ?_
              refine uB (sBi rfl rfl rfl rfl) rfl rfl rfl rfl fun b114 hb114 => ?_
              cases b114 with
              | true =>
                replace h := brT hb114 h
                refine v0 (sPk rfl [] rfl rfl) rfl ?_
                refine ve ?_
                refine W2 [1, 7, 8, 50] [] [] (l := [(1, .c (.int _ _)), (7, .c (.int _ _)), (8, .c (.int _ _)), (50, .c (.bool true))]) (h := []) (h' := []) trivial rfl rfl rfl ?_
                refine W_true rfl ?_
                refine W_exit (ex_then (ex_miss rfl (ex_then (ex_then (ex_hit ?_)))))
                refine W_seq ?_
                refine W_regV he rfl ?_
                refine v0 (sA rfl [] rfl) rfl ?_
                refine v0 (sA rfl [] rfl) rfl ?_
                refine v0 (sA rfl [] rfl) rfl ?_
                refine ve ?_
                refine W2 [4, 5, 6] [] [] (l := [(4, .c (.int _ _)), (5, .c (.int _ _)), (6, .c (.bool false))]) (h := []) (h' := []) trivial rfl rfl rfl ?_
                obtain rfl := Option.some.inj h
                exact W_ret (r0 rfl rfl)
              | false =>
                replace h := brF hb114 h
                refine v0 (sPk rfl [] rfl rfl) rfl ?_
                refine ve ?_
                refine W2 [1, 7, 8, 50] [] [] (l := [(1, .c (.int _ _)), (7, .c (.int _ _)), (8, .c (.int _ _)), (50, .c (.bool false))]) (h := []) (h' := []) trivial rfl rfl rfl ?_
                refine W_false rfl ?_
                refine W_skip ?_
                exact ⟨_, wk2 [1, 7, 8] [] [] (l := [(1, .c (.int _ _)), (7, .c (.int _ _)), (8, .c (.int _ _))]) (h := []) (h' := []) trivial rfl rfl rfl, rfl, h⟩
        | false =>
          replace h := brF hb9 h
          refine ve ?_
          refine W2 [0, 1, 7, 8, 9, 20, 21, 40] [] [] (l := [(0, .c (.row _ _ _)), (1, .c (.int _ _)), (7, .c (.int _ _)), (8, .c (.int _ _)), (9, .c (.int _ _)), (20, .c (.int _ _)), (21, .c (.int _ _)), (40, .c (.bool false))]) (h := []) (h' := []) trivial rfl rfl rfl ?_
          refine W_false rfl ?_
          refine W_skip ?_
          refine W_regV he rfl ?_
          refine v0 (sBi rfl rfl rfl rfl) rfl ?_
          refine v0 (sM rfl [] rfl) rfl ?_
          refine ve ?_
          exact ⟨n5, _, Nat.lt_succ_self n5, wk2 [0, 1, 7, 20, 21] [] [] (l := [(0, .c (.row _ _ _)), (1, .c (.int _ _)), (7, .c (.int _ _)), (20, .c (.int _ _)), (21, .c (.int _ _))]) (h := []) (h' := []) trivial rfl rfl rfl, _, _, rfl, h⟩
      | false =>
        replace h := brF hb6 h
        refine ve ?_
        refine W2 [0, 1, 7, 20, 21, 22] [] [] (l := [(0, .c (.row _ _ _)), (1, .c (.int _ _)), (7, .c (.int _ _)), (20, .c (.int _ _)), (21, .c (.int _ _)), (22, .c (.bool false))]) (h := []) (h' := []) trivial rfl rfl rfl ?_
        refine W_seq ?_
        refine W_false rfl ?_
        refine W_exit (ex_then (ex_then (ex_hit ?_)))
        refine W_seq ?_
        refine W_regV he rfl ?_
        refine v0 (sA rfl [] rfl) rfl ?_
        refine v0 (sA rfl [] rfl) rfl ?_
        refine v0 (sA rfl [] rfl) rfl ?_
        refine ve ?_
        refine W2 [4, 5, 6] [] [] (l := [(4, .c (.int _ _)), (5, .c (.int _ _)), (6, .c (.bool false))]) (h := []) (h' := []) trivial rfl rfl rfl ?_
        obtain rfl := Option.some.inj h
        exact W_ret (r0 rfl rfl)
  | false =>
    replace h := brF hb2 h
    refine v0 (sNt rfl rfl) rfl ?_
    refine ve ?_
    refine W2 [0, 1, 15] [] [] (l := [(0, .c (.row _ _ _)), (1, .c (.int _ _)), (15, .c (.bool true))]) (h := []) (h' := []) trivial rfl rfl rfl ?_
    refine W_true rfl ?_
    refine W_seq ?_
    refine W_regV he rfl ?_
    refine v0 (sA rfl [] rfl) rfl ?_
    refine v0 (sA rfl [] rfl) rfl ?_
    refine v0 (sA rfl [] rfl) rfl ?_
    refine ve ?_
    refine W2 [4, 5, 6] [] [] (l := [(4, .c (.int _ _)), (5, .c (.int _ _)), (6, .c (.bool false))]) (h := []) (h' := []) trivial rfl rfl rfl ?_
    obtain rfl := Option.some.inj h
    exact W_ret (r0 rfl rfl)
theorem ok_impl_GetVar : FnOk Try.prog 22 := ⟨_, Try.func22, rfl, rfl⟩


/-! ### bytes.Equal -/
def m_bytes_Equal (K : Nat) (a0 : List Int) (a1 : List Int) : Option (Bool) := some ((strOfNums a0).toList == (strOfNums a1).toList)
set_option maxRecDepth 20000 in
set_option maxHeartbeats 8000000 in
theorem w_bytes_Equal (K : Nat) (a0 : List Int) (a1 : List Int) (r : Bool) (h : m_bytes_Equal K a0 a1 = some r) : Sp Try.prog 73 [.c (.row false 1 (a0.map en_u8)), .c (.row false 1 (a1.map en_u8))] [] (.c (.bool r)) [] := by
  refine Sp.of_W tabOk Try.func73 rfl rfl (Nat.le_of_ble_eq_true rfl) (Nat.le_of_ble_eq_true rfl) fun F hP hN hm => ?_
  obtain ⟨P, N, w0, σ0, β0, m⟩ := F
  obtain rfl : P = Try.prog := hP
  obtain rfl : N = 10 := hN
  obtain rfl : m = 1 := hm
  have he : Env ⟨Try.prog, 10, w0, σ0, β0, 1⟩ tab := ⟨Nat.le_of_ble_eq_true rfl, tabOk⟩
  unfold m_bytes_Equal at h
  refine W_seq ?_
  refine W_regV he rfl ?_
  refine v0 (sA rfl [] rfl) rfl ?_
  refine ve ?_
  refine W2 [0, 1] [] [] (l := [(0, .c (.row _ _ _)), (1, .c (.row _ _ _))]) (h := []) (h' := []) trivial rfl rfl rfl ?_
  refine W_seq ?_
  refine W_regV he rfl ?_
  refine v0 (sM rfl [] rfl) rfl ?_
  refine v0 (sCvS rfl (f := en_u8) (ls := a0) (fun _ => rfl) rfl rfl rfl rfl rfl rfl rfl) rfl ?_
  refine v0 (sM rfl [] rfl) rfl ?_
  refine v0 (sCvS rfl (f := en_u8) (ls := a1) (fun _ => rfl) rfl rfl rfl rfl rfl rfl rfl) rfl ?_
  refine v0 (sStrE rfl (.inl rfl) rfl rfl) rfl ?_
  refine v0 (sA rfl [] rfl) rfl ?_
  refine ve ?_
  refine W2 [4] [] [] (l := [(4, .c (.bool _))]) (h := []) (h' := []) trivial rfl rfl rfl ?_
  obtain rfl := Option.some.inj h
  exact W_ret (r0 rfl rfl)
theorem ok_bytes_Equal : FnOk Try.prog 73 := ⟨_, Try.func73, rfl, rfl⟩


/-! ### loop.example/g00499/impl.GetOp -/
def l_impl_GetOp_4 (K : Nat) (a0 : List Int) : Nat → Int → Int → (List Int) → Option (T_impl_Op × Bool)
  | 0, _, _, _ => none
  | n4 + 1, v1, v2, v3 => (bif (decide (v2 < 10)) then ((m_impl_GetVar K a0 v1).bind fun r6 => (bif r6.2.2 then (if (0 : Int) ≤ v2 ∧ v2 < (10 : Int) then (if (0 : Int) ≤ v2 ∧ v2 < (v3.length : Int) then (l_impl_GetOp_4 K a0 n4 r6.2.1 (iAdd .i64 v2 1) (v3.set v2.toNat r6.1)) else none) else none) else some ((T_impl_Op.mk 0 (T_impl_Handle.mk 0 0) (T_impl_Ref.mk (T_impl_Handle.mk 0 0) 0 0) 0 0 []), false))) else (if (0 : Int) ≤ 0 ∧ 0 < (10 : Int) then (if (0 : Int) ≤ 0 ∧ 0 < (v3.length : Int) then (if (0 : Int) ≤ 1 ∧ 1 < (10 : Int) then (if (0 : Int) ≤ 1 ∧ 1 < (v3.length : Int) then (if (0 : Int) ≤ 2 ∧ 2 < (10 : Int) then (if (0 : Int) ≤ 2 ∧ 2 < (v3.length : Int) then (if (0 : Int) ≤ 3 ∧ 3 < (10 : Int) then (if (0 : Int) ≤ 3 ∧ 3 < (v3.length : Int) then (if (0 : Int) ≤ 4 ∧ 4 < (10 : Int) then (if (0 : Int) ≤ 4 ∧ 4 < (v3.length : Int) then (if (0 : Int) ≤ 5 ∧ 5 < (10 : Int) then (if (0 : Int) ≤ 5 ∧ 5 < (v3.length : Int) then (if (0 : Int) ≤ 6 ∧ 6 < (10 : Int) then (if (0 : Int) ≤ 6 ∧ 6 < (v3.length : Int) then (if (0 : Int) ≤ 7 ∧ 7 < (10 : Int) then (if (0 : Int) ≤ 7 ∧ 7 < (v3.length : Int) then (if (0 : Int) ≤ 8 ∧ 8 < (10 : Int) then (if (0 : Int) ≤ 8 ∧ 8 < (v3.length : Int) then (if (0 : Int) ≤ v1 ∧ v1 ≤ (a0.length : Int) ∧ (a0.length : Int) ≤ (a0.length : Int) then ((m_slices_Clone_byte_byte K ((a0.drop v1.toNat).take ((a0.length : Int) - v1).toNat)).bind fun r29 => ((m_impl_OpOk K (T_impl_Op.mk (gt v3 0) (T_impl_Handle.mk (gt v3 1) (gt v3 2)) (T_impl_Ref.mk (T_impl_Handle.mk (gt v3 3) (gt v3 4)) (gt v3 5) (gt v3 6)) (gt v3 7) (gt v3 8) r29)).bind fun r30 => (bif r30 then ((m_impl_PutOp K (T_impl_Op.mk (gt v3 0) (T_impl_Handle.mk (gt v3 1) (gt v3 2)) (T_impl_Ref.mk (T_impl_Handle.mk (gt v3 3) (gt v3 4)) (gt v3 5) (gt v3 6)) (gt v3 7) (gt v3 8) r29)).bind fun r32 => ((m_bytes_Equal K r32 a0).bind fun r33 => (bif r33 then some ((T_impl_Op.mk (gt v3 0) (T_impl_Handle.mk (gt v3 1) (gt v3 2)) (T_impl_Ref.mk (T_impl_Handle.mk (gt v3 3) (gt v3 4)) (gt v3 5) (gt v3 6)) (gt v3 7) (gt v3 8) r29), true) else some ((T_impl_Op.mk 0 (T_impl_Handle.mk 0 0) (T_impl_Ref.mk (T_impl_Handle.mk 0 0) 0 0) 0 0 []), false)))) else some ((T_impl_Op.mk 0 (T_impl_Handle.mk 0 0) (T_impl_Ref.mk (T_impl_Handle.mk 0 0) 0 0) 0 0 []), false)))) else none) else none) else none) else none) else none) else none) else none) else none) else none) else none) else none) else none) else none) else none) else none) else none) else none) else none) else none))
def m_impl_GetOp (K : Nat) (a0 : List Int) : Option (T_impl_Op × Bool) := (l_impl_GetOp_4 K a0 K 0 0 ([0, 0, 0, 0, 0, 0, 0, 0, 0, 0] : List Int))
set_option maxRecDepth 20000 in
set_option maxHeartbeats 8000000 in
theorem w_impl_GetOp (K : Nat) (a0 : List Int) (r : T_impl_Op × Bool) (h : m_impl_GetOp K a0 = some r) : Sp Try.prog 50 [.c (.row false 1 (a0.map en_u8))] [] (.t [.g [.int .i64 r.1.fKind, .int .i64 r.1.fH.fSlot, .int .i64 r.1.fH.fGen, .int .i64 r.1.fR.fH.fSlot, .int .i64 r.1.fR.fH.fGen, .int .i64 r.1.fR.fEp, .int .i64 r.1.fR.fNo, .int .i64 r.1.fN, .int .i64 r.1.fM, .row false 1 (r.1.fB.map en_u8)], .c (.bool r.2)]) [] := by
  refine Sp.of_W tabOk Try.func50 rfl rfl (Nat.le_of_ble_eq_true rfl) (Nat.le_of_ble_eq_true rfl) fun F hP hN hm => ?_
  obtain ⟨P, N, w0, σ0, β0, m⟩ := F
  obtain rfl : P = Try.prog := hP
  obtain rfl : N = 68 := hN
  obtain rfl : m = 1 := hm
  have he : Env ⟨Try.prog, 68, w0, σ0, β0, 1⟩ tab := ⟨Nat.le_of_ble_eq_true rfl, tabOk⟩
  unfold m_impl_GetOp at h
  refine W_seq ?_
  refine W_regV he rfl ?_
  refine v0 (sAl rfl rfl 101 rfl) rfl ?_
  refine v0 (sA rfl [] rfl) rfl ?_
  refine ve ?_
  refine W2 [0, 2] [101] [] (l := [(0, .c (.row _ _ _)), (2, .c (.ptr _ _ _ _))]) (h := [(101, ⟨0, 10, [[.int _ _, .int _ _, .int _ _, .int _ _, .int _ _, .int _ _, .int _ _, .int _ _, .int _ _, .row _ _ _]]⟩)]) (h' := []) trivial rfl rfl rfl ?_
  refine W_seq ?_
  refine W_regV he rfl ?_
  refine v0 (sBdA rfl [] (out := [.int .i64 0, .int .i64 0, .int .i64 0, .int .i64 0, .int .i64 0, .int .i64 0, .int .i64 0, .int .i64 0, .int .i64 0, .int .i64 0]) rfl rfl rfl (by kernel_rfl)) rfl ?_
  refine v0 (sAl rfl rfl 102 rfl) rfl ?_
  refine v0 (sSt rfl rfl [] rfl rfl) rfl ?_
  refine v0 (sA rfl [] rfl) rfl ?_
  refine ve ?_
  refine W2 [0, 2, 4, 5] [101] [102] (l := [(0, .c (.row _ _ _)), (2, .c (.ptr _ _ _ _)), (4, .c (.ptr _ _ _ _)), (5, .c (.int _ _))]) (h := [(101, ⟨0, 10, [[.int _ _, .int _ _, .int _ _, .int _ _, .int _ _, .int _ _, .int _ _, .int _ _, .int _ _, .row _ _ _]]⟩)]) (h' := [(102, ⟨0, 10, [([0, 0, 0, 0, 0, 0, 0, 0, 0, 0] : List Int).map (V.int .i64)]⟩)]) ⟨⟨_, rfl, closed_arr (fun _ => rfl) _ _ ([0, 0, 0, 0, 0, 0, 0, 0, 0, 0] : List Int)⟩, trivial⟩ rfl rfl rfl ?_
  refine W_seq ?_
  refine W_seq ?_
  refine W_regV he rfl ?_
  refine v0 (sM rfl [] rfl) rfl ?_
  refine ve ?_
  refine W2 [0, 2, 4, 5, 12] [101] [102] (l := [(0, .c (.row _ _ _)), (2, .c (.ptr _ _ _ _)), (4, .c (.ptr _ _ _ _)), (5, .c (.int _ _)), (12, .c (.int _ _))]) (h := [(101, ⟨0, 10, [[.int _ _, .int _ _, .int _ _, .int _ _, .int _ _, .int _ _, .int _ _, .int _ _, .int _ _, .row _ _ _]]⟩)]) (h' := [(102, ⟨0, 10, [([0, 0, 0, 0, 0, 0, 0, 0, 0, 0] : List Int).map (V.int .i64)]⟩)]) ⟨⟨_, rfl, closed_arr (fun _ => rfl) _ _ ([0, 0, 0, 0, 0, 0, 0, 0, 0, 0] : List Int)⟩, trivial⟩ rfl rfl rfl ?_
  refine W_block ?_
  refine W2 [0, 2, 4, 5, 12] [101] [102] (l := [(0, .c (.row _ _ _)), (2, .c (.ptr _ _ _ _)), (4, .c (.ptr _ _ _ _)), (5, .c (.int _ _)), (12, .c (.int _ _))]) (h := [(101, ⟨0, 10, [[.int _ _, .int _ _, .int _ _, .int _ _, .int _ _, .int _ _, .int _ _, .int _ _, .int _ _, .row _ _ _]]⟩)]) (h' := [(102, ⟨0, 10, [([0, 0, 0, 0, 0, 0, 0, 0, 0, 0] : List Int).map (V.int .i64)]⟩)]) ⟨⟨_, rfl, closed_arr (fun _ => rfl) _ _ ([0, 0, 0, 0, 0, 0, 0, 0, 0, 0] : List Int)⟩, trivial⟩ rfl rfl rfl ?_
  refine W_loopW (fun n4 S => ∃ (v1 : Int), ∃ (v2 : Int), ∃ (v3 : List Int), S = StL [(0, .c (.row false 1 (a0.map en_u8))), (2, .c (.ptr 101 0 0 0)), (4, .c (.ptr 102 0 0 0)), (5, .c (.int .i64 v1)), (12, .c (.int .i64 v2))] ([(101, ⟨0, 10, [[.int .i64 0, .int .i64 0, .int .i64 0, .int .i64 0, .int .i64 0, .int .i64 0, .int .i64 0, .int .i64 0, .int .i64 0, .row true 1 []]]⟩)] ++ [(102, ⟨0, 10, [v3.map (V.int .i64)]⟩)]) ∧ l_impl_GetOp_4 K a0 n4 v1 v2 v3 = some r) K ⟨_, _, _, rfl, h⟩ ?_
  rintro n4 S ⟨v1, v2, v3, rfl, h⟩
  cases n4 with
  | zero => simp [l_impl_GetOp_4] at h
  | succ n4 =>
    rw [l_impl_GetOp_4] at h
    refine W_seq ?_
    refine W_regV he rfl ?_
    refine vB (sBi rfl rfl rfl rfl) rfl rfl fun b5 hb5 => ?_
    cases b5 with
    | true =>
      replace h := brT hb5 h
      refine ve ?_
      refine W2 [0, 2, 4, 5, 12, 13] [101] [102] (l := [(0, .c (.row _ _ _)), (2, .c (.ptr _ _ _ _)), (4, .c (.ptr _ _ _ _)), (5, .c (.int _ _)), (12, .c (.int _ _)), (13, .c (.bool true))]) (h := [(101, ⟨0, 10, [[.int _ _, .int _ _, .int _ _, .int _ _, .int _ _, .int _ _, .int _ _, .int _ _, .int _ _, .row _ _ _]]⟩)]) (h' := [(102, ⟨0, 10, [v3.map (V.int .i64)]⟩)]) ⟨⟨_, rfl, closed_arr (fun _ => rfl) _ _ v3⟩, trivial⟩ rfl rfl rfl ?_
      refine W_seq ?_
      refine W_true rfl ?_
      refine W_skip ?_
      refine W_seq ?_
      refine W_block ?_
      refine W_seq ?_
      refine W_regV he rfl ?_
      refine v0 (sM rfl [] rfl) rfl ?_
      refine v0 (sA rfl [] rfl) rfl ?_
      refine ve ?_
      refine W2 [0, 2, 4, 5, 6, 12] [101] [102] (l := [(0, .c (.row _ _ _)), (2, .c (.ptr _ _ _ _)), (4, .c (.ptr _ _ _ _)), (5, .c (.int _ _)), (6, .c (.int _ _)), (12, .c (.int _ _))]) (h := [(101, ⟨0, 10, [[.int _ _, .int _ _, .int _ _, .int _ _, .int _ _, .int _ _, .int _ _, .int _ _, .int _ _, .row _ _ _]]⟩)]) (h' := [(102, ⟨0, 10, [v3.map (V.int .i64)]⟩)]) ⟨⟨_, rfl, closed_arr (fun _ => rfl) _ _ v3⟩, trivial⟩ rfl rfl rfl ?_
      refine W_seq ?_
      refine W_regV he rfl ?_
      refine v0 (sM rfl [] rfl) rfl ?_
      refine v0 (sM rfl [] rfl) rfl ?_
      refine bndc h ?_; clear h; intro r6 hr6 h
      refine v0 (sCm (w_impl_GetVar K a0 v1 _ hr6) ok_impl_GetVar rfl rfl rfl rfl) rfl ?_
      refine v0 (sM rfl [] rfl) rfl ?_
      refine v0 (sEx rfl rfl rfl) rfl ?_
      refine v0 (sEx rfl rfl rfl) rfl ?_
      refine v0 (sEx rfl rfl rfl) rfl ?_
      refine v0 (sA rfl [] rfl) rfl ?_
      refine v0 (sA rfl [] rfl) rfl ?_
      refine v0 (sA rfl [] rfl) rfl ?_
      refine ve ?_
      refine W2 [0, 2, 4, 6, 7, 8, 9, 12] [101] [102] (l := [(0, .c (.row _ _ _)), (2, .c (.ptr _ _ _ _)), (4, .c (.ptr _ _ _ _)), (6, .c (.int _ _)), (7, .c (.int _ _)), (8, .c (.int _ _)), (9, .c (.bool _)), (12, .c (.int _ _))]) (h := [(101, ⟨0, 10, [[.int _ _, .int _ _, .int _ _, .int _ _, .int _ _, .int _ _, .int _ _, .int _ _, .int _ _, .row _ _ _]]⟩)]) (h' := [(102, ⟨0, 10, [v3.map (V.int .i64)]⟩)]) ⟨⟨_, rfl, closed_arr (fun _ => rfl) _ _ v3⟩, trivial⟩ rfl rfl rfl ?_
      refine W_seq ?_
      refine W_seq ?_
      refine W_regV he rfl ?_
      refine vB (sM rfl [] rfl) rfl rfl fun b7 hb7 => ?_
      cases b7 with
      | true =>
        replace h := brT hb7 h
        refine v0 (sNt rfl rfl) rfl ?_
        refine ve ?_
        refine W2 [0, 2, 4, 6, 7, 8, 12, 23] [101] [102] (l := [(0, .c (.row _ _ _)), (2, .c (.ptr _ _ _ _)), (4, .c (.ptr _ _ _ _)), (6, .c (.int _ _)), (7, .c (.int _ _)), (8, .c (.int _ _)), (12, .c (.int _ _)), (23, .c (.bool false))]) (h := [(101, ⟨0, 10, [[.int _ _, .int _ _, .int _ _, .int _ _, .int _ _, .int _ _, .int _ _, .int _ _, .int _ _, .row _ _ _]]⟩)]) (h' := [(102, ⟨0, 10, [v3.map (V.int .i64)]⟩)]) ⟨⟨_, rfl, closed_arr (fun _ => rfl) _ _ v3⟩, trivial⟩ rfl rfl rfl ?_
        refine W_false rfl ?_
        refine W_skip ?_
        refine W_regV he rfl ?_
        refine v0 (sM rfl [] rfl) rfl ?_
        refine v0 (sM rfl [] rfl) rfl ?_
        refine v0 (sM rfl [] rfl) rfl ?_
        refine chkc h ?_; clear h; intro c8 h
        refine v0 (sIA rfl rfl rfl rfl rfl rfl rfl c8) rfl ?_
        refine chkc h ?_; clear h; intro c9 h
        refine v0 (sStA rfl rfl (L := v3) (f := (V.int .i64)) [] rfl rfl rfl rfl rfl rfl rfl c9) rfl ?_
        refine v0 (sA rfl [] rfl) rfl ?_
        refine ve ?_
        refine W2 [0, 2, 4, 5, 12] [101] [102] (l := [(0, .c (.row _ _ _)), (2, .c (.ptr _ _ _ _)), (4, .c (.ptr _ _ _ _)), (5, .c (.int _ _)), (12, .c (.int _ _))]) (h := [(101, ⟨0, 10, [[.int _ _, .int _ _, .int _ _, .int _ _, .int _ _, .int _ _, .int _ _, .int _ _, .int _ _, .row _ _ _]]⟩)]) (h' := [(102, ⟨0, 10, [(v3.set v2.toNat r6.1).map (V.int .i64)]⟩)]) ⟨⟨_, rfl, closed_arr (fun _ => rfl) _ _ (v3.set v2.toNat r6.1)⟩, trivial⟩ rfl rfl rfl ?_
        refine W_regV he rfl ?_
        refine v0 (sBi rfl rfl rfl rfl) rfl ?_
        refine v0 (sM rfl [] rfl) rfl ?_
        refine ve ?_
        exact ⟨n4, _, Nat.lt_succ_self n4, wk2 [0, 2, 4, 5, 12] [101] [102] (l := [(0, .c (.row _ _ _)), (2, .c (.ptr _ _ _ _)), (4, .c (.ptr _ _ _ _)), (5, .c (.int _ _)), (12, .c (.int _ _))]) (h := [(101, ⟨0, 10, [[.int _ _, .int _ _, .int _ _, .int _ _, .int _ _, .int _ _, .int _ _, .int _ _, .int _ _, .row _ _ _]]⟩)]) (h' := [(102, ⟨0, 10, [(v3.set v2.toNat r6.1).map (V.int .i64)]⟩)]) ⟨⟨_, rfl, closed_arr (fun _ => rfl) _ _ (v3.set v2.toNat r6.1)⟩, trivial⟩ rfl rfl rfl, _, _, _, rfl, h⟩
      | false =>
        replace h := brF hb7 h
        refine v0 (sNt rfl rfl) rfl ?_
        refine ve ?_
        refine W2 [0, 2, 4, 6, 7, 8, 12, 23] [101] [102] (l := [(0, .c (.row _ _ _)), (2, .c (.ptr _ _ _ _)), (4, .c (.ptr _ _ _ _)), (6, .c (.int _ _)), (7, .c (.int _ _)), (8, .c (.int _ _)), (12, .c (.int _ _)), (23, .c (.bool true))]) (h := [(101, ⟨0, 10, [[.int _ _, .int _ _, .int _ _, .int _ _, .int _ _, .int _ _, .int _ _, .int _ _, .int _ _, .row _ _ _]]⟩)]) (h' := [(102, ⟨0, 10, [v3.map (V.int .i64)]⟩)]) ⟨⟨_, rfl, closed_arr (fun _ => rfl) _ _ v3⟩, trivial⟩ rfl rfl rfl ?_
        refine W_true rfl ?_
        refine W_seq ?_
        refine W_regV he rfl ?_
        refine v0 (sBd rfl [] (out := [.int .i64 0, .int .i64 0, .int .i64 0, .int .i64 0, .int .i64 0, .int .i64 0, .int .i64 0, .int .i64 0, .int .i64 0, .row true 1 []]) rfl (by kernel_rfl)) rfl ?_
        refine v0 (sSt rfl rfl [] rfl rfl) rfl ?_
        refine v0 (sA rfl [] rfl) rfl ?_
        refine ve ?_
        refine W2 [2, 3] [101] [] (l := [(2, .c (.ptr _ _ _ _)), (3, .c (.bool false))]) (h := [(101, ⟨0, 10, [[.int _ _, .int _ _, .int _ _, .int _ _, .int _ _, .int _ _, .int _ _, .int _ _, .int _ _, .row _ _ _]]⟩)]) (h' := []) trivial rfl rfl rfl ?_
        obtain rfl := Option.some.inj h
        refine W.weak (wk_cold 101 rfl) ?_
        exact W_ret (r0 rfl rfl)
    | false =>
      replace h := brF hb5 h
      refine ve ?_
      refine W2 [0, 2, 4, 5, 12, 13] [101] [102] (l := [(0, .c (.row _ _ _)), (2, .c (.ptr _ _ _ _)), (4, .c (.ptr _ _ _ _)), (5, .c (.int _ _)), (12, .c (.int _ _)), (13, .c (.bool false))]) (h := [(101, ⟨0, 10, [[.int _ _, .int _ _, .int _ _, .int _ _, .int _ _, .int _ _, .int _ _, .int _ _, .int _ _, .row _ _ _]]⟩)]) (h' := [(102, ⟨0, 10, [v3.map (V.int .i64)]⟩)]) ⟨⟨_, rfl, closed_arr (fun _ => rfl) _ _ v3⟩, trivial⟩ rfl rfl rfl ?_
      refine W_seq ?_
      refine W_false rfl ?_
      refine W_exit (ex_then (ex_then (ex_hit ?_)))
      refine W_seq ?_
      refine W_regD he rfl rfl rfl ?_
      refine chkc h ?_; clear h; intro c10 h
      refine g0 (sIA rfl rfl rfl rfl rfl rfl rfl c10) rfl ?_
      refine chkc h ?_; clear h; intro c11 h
      refine g0 (sLdA rfl (L := v3) (f := (V.int .i64)) rfl rfl rfl rfl rfl (fun _ => rfl) c11) rfl ?_
      refine chkc h ?_; clear h; intro c12 h
      refine g0 (sIA rfl rfl rfl rfl rfl rfl rfl c12) rfl ?_
      refine chkc h ?_; clear h; intro c13 h
      refine g0 (sLdA rfl (L := v3) (f := (V.int .i64)) rfl rfl rfl rfl rfl (fun _ => rfl) c13) rfl ?_
      refine chkc h ?_; clear h; intro c14 h
      refine g0 (sIA rfl rfl rfl rfl rfl rfl rfl c14) rfl ?_
      refine chkc h ?_; clear h; intro c15 h
      refine g0 (sLdA rfl (L := v3) (f := (V.int .i64)) rfl rfl rfl rfl rfl (fun _ => rfl) c15) rfl ?_
      refine g0 (sBd rfl [[], []] (out := [.int .i64 (gt v3 1), .int .i64 (gt v3 2)]) rfl (by kernel_rfl)) rfl ?_
      refine chkc h ?_; clear h; intro c16 h
      refine g0 (sIA rfl rfl rfl rfl rfl rfl rfl c16) rfl ?_
      refine chkc h ?_; clear h; intro c17 h
      refine g0 (sLdA rfl (L := v3) (f := (V.int .i64)) rfl rfl rfl rfl rfl (fun _ => rfl) c17) rfl ?_
      refine chkc h ?_; clear h; intro c18 h
      refine g0 (sIA rfl rfl rfl rfl rfl rfl rfl c18) rfl ?_
      refine chkc h ?_; clear h; intro c19 h
      refine g0 (sLdA rfl (L := v3) (f := (V.int .i64)) rfl rfl rfl rfl rfl (fun _ => rfl) c19) rfl ?_
      refine g0 (sBd rfl [[], []] (out := [.int .i64 (gt v3 3), .int .i64 (gt v3 4)]) rfl (by kernel_rfl)) rfl ?_
      refine chkc h ?_; clear h; intro c20 h
      refine g0 (sIA rfl rfl rfl rfl rfl rfl rfl c20) rfl ?_
      refine chkc h ?_; clear h; intro c21 h
      refine g0 (sLdA rfl (L := v3) (f := (V.int .i64)) rfl rfl rfl rfl rfl (fun _ => rfl) c21) rfl ?_
      refine chkc h ?_; clear h; intro c22 h
      refine g0 (sIA rfl rfl rfl rfl rfl rfl rfl c22) rfl ?_
      refine chkc h ?_; clear h; intro c23 h
      refine g0 (sLdA rfl (L := v3) (f := (V.int .i64)) rfl rfl rfl rfl rfl (fun _ => rfl) c23) rfl ?_
      refine g0 (sBd rfl [[], [], []] (out := [.int .i64 (gt v3 3), .int .i64 (gt v3 4), .int .i64 (gt v3 5), .int .i64 (gt v3 6)]) rfl (by kernel_rfl)) rfl ?_
      refine chkc h ?_; clear h; intro c24 h
      refine g0 (sIA rfl rfl rfl rfl rfl rfl rfl c24) rfl ?_
      refine chkc h ?_; clear h; intro c25 h
      refine g0 (sLdA rfl (L := v3) (f := (V.int .i64)) rfl rfl rfl rfl rfl (fun _ => rfl) c25) rfl ?_
      refine chkc h ?_; clear h; intro c26 h
      refine g0 (sIA rfl rfl rfl rfl rfl rfl rfl c26) rfl ?_
      refine chkc h ?_; clear h; intro c27 h
      refine g0 (sLdA rfl (L := v3) (f := (V.int .i64)) rfl rfl rfl rfl rfl (fun _ => rfl) c27) rfl ?_
      refine g0 (sM rfl [] rfl) rfl ?_
      refine g0 (sM rfl [] rfl) rfl ?_
      refine chkc h ?_; clear h; intro c28 h
      refine g0 (sSlM rfl rfl rfl rfl rfl c28) rfl ?_
      refine bndc h ?_; clear h; intro r29 hr29 h
      refine g0 (sCm (w_slices_Clone_byte_byte K ((a0.drop v1.toNat).take ((a0.length : Int) - v1).toNat) _ hr29) ok_slices_Clone_byte_byte rfl rfl rfl rfl) rfl ?_
      refine g0 (sBd rfl [[], [], [], [], [], []] (out := [.int .i64 (gt v3 0), .int .i64 (gt v3 1), .int .i64 (gt v3 2), .int .i64 (gt v3 3), .int .i64 (gt v3 4), .int .i64 (gt v3 5), .int .i64 (gt v3 6), .int .i64 (gt v3 7), .int .i64 (gt v3 8), .row false 1 (r29.map en_u8)]) rfl (by kernel_rfl)) rfl ?_
      refine g0 (sAl rfl rfl 103 rfl) rfl ?_
      refine g0 (sSt rfl rfl [] rfl rfl) rfl ?_
      refine ge ⟨rfl, ?_⟩
      refine W2 [0, 2, 10] [101, 103] [] (l := [(0, .c (.row _ _ _)), (2, .c (.ptr _ _ _ _)), (10, .c (.ptr _ _ _ _))]) (h := [(101, ⟨0, 10, [[.int _ _, .int _ _, .int _ _, .int _ _, .int _ _, .int _ _, .int _ _, .int _ _, .int _ _, .row _ _ _]]⟩), (103, ⟨0, 10, [[.int _ _, .int _ _, .int _ _, .int _ _, .int _ _, .int _ _, .int _ _, .int _ _, .int _ _, .row _ _ _]]⟩)]) (h' := []) trivial rfl rfl rfl ?_
      refine W_seq ?_
      refine W_seq ?_
      refine W_regV he rfl ?_
      refine v0 (sLd rfl rfl) rfl ?_
      refine bndc h ?_; clear h; intro r30 hr30 h
      refine vB (sCm (w_impl_OpOk K (T_impl_Op.mk (gt v3 0) (T_impl_Handle.mk (gt v3 1) (gt v3 2)) (T_impl_Ref.mk (T_impl_Handle.mk (gt v3 3) (gt v3 4)) (gt v3 5) (gt v3 6)) (gt v3 7) (gt v3 8) r29) _ hr30) ok_impl_OpOk rfl rfl rfl rfl) rfl rfl fun b31 hb31 => ?_
      cases b31 with
      | true =>
        replace h := brT hb31 h
        refine v0 (sNt rfl rfl) rfl ?_
        refine v0 (sM rfl [] rfl) rfl ?_
        refine u0 (sLd rfl rfl) rfl rfl rfl ?_
        refine bndc h ?_; clear h; intro r32 hr32 h
        refine u0 (sCm (w_impl_PutOp K (T_impl_Op.mk (gt v3 0) (T_impl_Handle.mk (gt v3 1) (gt v3 2)) (T_impl_Ref.mk (T_impl_Handle.mk (gt v3 3) (gt v3 4)) (gt v3 5) (gt v3 6)) (gt v3 7) (gt v3 8) r29) _ hr32) ok_impl_PutOp rfl rfl rfl rfl) rfl rfl rfl ?_
        refine u0 (sM rfl [] rfl) rfl rfl rfl ?_
        refine bndc h ?_; clear h; intro r33 hr33 h
        refine uB (sCm (w_bytes_Equal K r32 a0 _ hr33) ok_bytes_Equal rfl rfl rfl rfl) rfl rfl rfl rfl fun b34 hb34 => ?_
        cases b34 with
        | true =>
          replace h := brT hb34 h
          refine u0 (sNt rfl rfl) rfl rfl rfl ?_
          refine v0 (sPk rfl [] rfl rfl) rfl ?_
          refine ve ?_
          refine W2 [2, 10, 65] [101, 103] [] (l := [(2, .c (.ptr _ _ _ _)), (10, .c (.ptr _ _ _ _)), (65, .c (.bool false))]) (h := [(101, ⟨0, 10, [[.int _ _, .int _ _, .int _ _, .int _ _, .int _ _, .int _ _, .int _ _, .int _ _, .int _ _, .row _ _ _]]⟩), (103, ⟨0, 10, [[.int _ _, .int _ _, .int _ _, .int _ _, .int _ _, .int _ _, .int _ _, .int _ _, .int _ _, .row _ _ _]]⟩)]) (h' := []) trivial rfl rfl rfl ?_
          refine W_false rfl ?_
          refine W_skip ?_
          refine W_seq ?_
          refine W_regV he rfl ?_
          refine v0 (sLd rfl rfl) rfl ?_
          refine v0 (sSt rfl rfl [] rfl rfl) rfl ?_
          refine v0 (sA rfl [] rfl) rfl ?_
          refine ve ?_
          refine W2 [2, 3] [101] [] (l := [(2, .c (.ptr _ _ _ _)), (3, .c (.bool true))]) (h := [(101, ⟨0, 10, [[.int _ _, .int _ _, .int _ _, .int _ _, .int _ _, .int _ _, .int _ _, .int _ _, .int _ _, .row _ _ _]]⟩)]) (h' := []) trivial rfl rfl rfl ?_
          obtain rfl := Option.some.inj h
          exact W_ret (r0 rfl rfl)
        | false =>
          replace h := brF hb34 h
          refine u0 (sNt rfl rfl) rfl rfl rfl ?_
          refine v0 (sPk rfl [] rfl rfl) rfl ?_
          refine ve ?_
          refine W2 [2, 10, 65] [101, 103] [] (l := [(2, .c (.ptr _ _ _ _)), (10, .c (.ptr _ _ _ _)), (65, .c (.bool true))]) (h := [(101, ⟨0, 10, [[.int _ _, .int _ _, .int _ _, .int _ _, .int _ _, .int _ _, .int _ _, .int _ _, .int _ _, .row _ _ _]]⟩), (103, ⟨0, 10, [[.int _ _, .int _ _, .int _ _, .int _ _, .int _ _, .int _ _, .int _ _, .int _ _, .int _ _, .row _ _ _]]⟩)]) (h' := []) trivial rfl rfl rfl ?_
          refine W_true rfl ?_
          refine W_seq ?_
          refine W_regV he rfl ?_
          refine v0 (sBd rfl [] (out := [.int .i64 0, .int .i64 0, .int .i64 0, .int .i64 0, .int .i64 0, .int .i64 0, .int .i64 0, .int .i64 0, .int .i64 0, .row true 1 []]) rfl (by kernel_rfl)) rfl ?_
          refine v0 (sSt rfl rfl [] rfl rfl) rfl ?_
          refine v0 (sA rfl [] rfl) rfl ?_
          refine ve ?_
          refine W2 [2, 3] [101] [] (l := [(2, .c (.ptr _ _ _ _)), (3, .c (.bool false))]) (h := [(101, ⟨0, 10, [[.int _ _, .int _ _, .int _ _, .int _ _, .int _ _, .int _ _, .int _ _, .int _ _, .int _ _, .row _ _ _]]⟩)]) (h' := []) trivial rfl rfl rfl ?_
          obtain rfl := Option.some.inj h
          refine W.weak (wk_cold 101 rfl) ?_
          exact W_ret (r0 rfl rfl)
      | false =>
        replace h := brF hb31 h
        refine v0 (sNt rfl rfl) rfl ?_
        refine v0 (sM rfl [] rfl) rfl ?_
        refine uP rfl rfl rfl rfl ?_
        refine uP rfl rfl rfl rfl ?_
        refine uP rfl rfl rfl rfl ?_
        refine uP rfl rfl rfl rfl ?_
        refine uP rfl rfl rfl rfl ?_
        refine v0 (sPk rfl [] rfl rfl) rfl ?_
        refine ve ?_
        refine W2 [2, 10, 65] [101, 103] [] (l := [(2, .c (.ptr _ _ _ _)), (10, .c (.ptr _ _ _ _)), (65, .c (.bool true))]) (h := [(101, ⟨0, 10, [[.int _ _, .int _ _, .int _ _, .int _ _, .int _ _, .int _ _, .int _ _, .int _ _, .int _ _, .row _ _ _]]⟩), (103, ⟨0, 10, [[.int _ _, .int _ _, .int _ _, .int _ _, .int _ _, .int _ _, .int _ _, .int _ _, .int _ _, .row _ _ _]]⟩)]) (h' := []) trivial rfl rfl rfl ?_
        refine W_true rfl ?_
        refine W_seq ?_
        refine W_regV he rfl ?_
        refine v0 (sBd rfl [] (out := [.int .i64 0, .int .i64 0, .int .i64 0, .int .i64 0, .int .i64 0, .int .i64 0, .int .i64 0, .int .i64 0, .int .i64 0, .row true 1 []]) rfl (by kernel_rfl)) rfl ?_
        refine v0 (sSt rfl rfl [] rfl rfl) rfl ?_
        refine v0 (sA rfl [] rfl) rfl ?_
        refine ve ?_
        refine W2 [2, 3] [101] [] (l := [(2, .c (.ptr _ _ _ _)), (3, .c (.bool false))]) (h := [(101, ⟨0, 10, [[.int _ _, .int _ _, .int _ _, .int _ _, .int _ _, .int _ _, .int _ _, .int _ _, .int _ _, .row _ _ _]]⟩)]) (h' := []) trivial rfl rfl rfl ?_
        obtain rfl := Option.some.inj h
        refine W.weak (wk_cold 101 rfl) ?_
        exact W_ret (r0 rfl rfl)
theorem ok_impl_GetOp : FnOk Try.prog 50 := ⟨_, Try.func50, rfl, rfl⟩


/-! ### loop.example/g00499/spec.GetVar -/
def j_spec_GetVar_10 (K : Nat) (a0 : List Int) (a1 : Int) (v1 : Int) (v2 : Int) : Option (Int × Int × Bool) := some ((iOr .i64 v1 (iShl .i64 (iAnd .i64 (IntKind.i64.wrap (gt a0 (iAdd .i64 a1 v2))) 127) (iMul .i64 7 v2))), (iAdd .i64 (iAdd .i64 a1 v2) 1), true)
def l_spec_GetVar_3 (K : Nat) (a0 : List Int) (a1 : Int) : Nat → Int → Int → Option (Int × Int × Bool)
  | 0, _, _ => none
  | n3 + 1, v1, v2 => (bif (decide (v2 < 5)) then (bif (decide (a1 < 0)) then some (0, 0, false) else (bif (decide (a1 ≥ (iSub .i64 (a0.length : Int) v2))) then some (0, 0, false) else (if (0 : Int) ≤ (iAdd .i64 a1 v2) ∧ (iAdd .i64 a1 v2) < (a0.length : Int) then (if (0 : Int) ≤ (iMul .i64 7 v2) then (bif (decide ((IntKind.i64.wrap (gt a0 (iAdd .i64 a1 v2))) < 128)) then (bif ((IntKind.i64.wrap (gt a0 (iAdd .i64 a1 v2))) == 0) then (bif (decide (v2 > 0)) then some (0, 0, false) else (bif (decide ((iOr .i64 v1 (iShl .i64 (iAnd .i64 (IntKind.i64.wrap (gt a0 (iAdd .i64 a1 v2))) 127) (iMul .i64 7 v2))) > 1000000000)) then some (0, 0, false) else j_spec_GetVar_10 K a0 a1 v1 v2 )) else (bif (decide ((iOr .i64 v1 (iShl .i64 (iAnd .i64 (IntKind.i64.wrap (gt a0 (iAdd .i64 a1 v2))) 127) (iMul .i64 7 v2))) > 1000000000)) then some (0, 0, false) else j_spec_GetVar_10 K a0 a1 v1 v2 )) else (l_spec_GetVar_3 K a0 a1 n3 (iOr .i64 v1 (iShl .i64 (iAnd .i64 (IntKind.i64.wrap (gt a0 (iAdd .i64 a1 v2))) 127) (iMul .i64 7 v2))) (iAdd .i64 v2 1))) else none) else none))) else some (0, 0, false))
def m_spec_GetVar (K : Nat) (a0 : List Int) (a1 : Int) : Option (Int × Int × Bool) := (l_spec_GetVar_3 K a0 a1 K 0 0)
set_option maxRecDepth 20000 in
set_option maxHeartbeats 8000000 in
theorem w_spec_GetVar (K : Nat) (a0 : List Int) (a1 : Int) (r : Int × Int × Bool) (h : m_spec_GetVar K a0 a1 = some r) : Sp Try.prog 20 [.c (.row false 1 (a0.map en_u8)), .c (.int .i64 a1)] [] (.t [.c (.int .i64 r.1), .c (.int .i64 r.2.1), .c (.bool r.2.2)]) [] := by
  refine Sp.of_W tabOk Try.func20 rfl rfl (Nat.le_of_ble_eq_true rfl) (Nat.le_of_ble_eq_true rfl) fun F hP hN hm => ?_
  obtain ⟨P, N, w0, σ0, β0, m⟩ := F
  obtain rfl : P = Try.prog := hP
  obtain rfl : N = 55 := hN
  obtain rfl : m = 1 := hm
  have he : Env ⟨Try.prog, 55, w0, σ0, β0, 1⟩ tab := ⟨Nat.le_of_ble_eq_true rfl, tabOk⟩
  unfold m_spec_GetVar at h
  refine W_seq ?_
  refine W_regV he rfl ?_
  refine v0 (sA rfl [] rfl) rfl ?_
  refine v0 (sA rfl [] rfl) rfl ?_
  refine v0 (sA rfl [] rfl) rfl ?_
  refine ve ?_
  refine W2 [0, 1] [] [] (l := [(0, .c (.row _ _ _)), (1, .c (.int _ _))]) (h := []) (h' := []) trivial rfl rfl rfl ?_
  refine W_seq ?_
  refine W_regV he rfl ?_
  refine v0 (sA rfl [] rfl) rfl ?_
  refine ve ?_
  refine W2 [0, 1, 7] [] [] (l := [(0, .c (.row _ _ _)), (1, .c (.int _ _)), (7, .c (.int _ _))]) (h := []) (h' := []) trivial rfl rfl rfl ?_
  refine W_seq ?_
  refine W_seq ?_
  refine W_regV he rfl ?_
  refine v0 (sA rfl [] rfl) rfl ?_
  refine ve ?_
  refine W2 [0, 1, 7, 8] [] [] (l := [(0, .c (.row _ _ _)), (1, .c (.int _ _)), (7, .c (.int _ _)), (8, .c (.int _ _))]) (h := []) (h' := []) trivial rfl rfl rfl ?_
  refine W_block ?_
  refine W2 [0, 1, 7, 8] [] [] (l := [(0, .c (.row _ _ _)), (1, .c (.int _ _)), (7, .c (.int _ _)), (8, .c (.int _ _))]) (h := []) (h' := []) trivial rfl rfl rfl ?_
  refine W_loopW (fun n3 S => ∃ (v1 : Int), ∃ (v2 : Int), S = StL [(0, .c (.row false 1 (a0.map en_u8))), (1, .c (.int .i64 a1)), (7, .c (.int .i64 v1)), (8, .c (.int .i64 v2))] ([] ++ []) ∧ l_spec_GetVar_3 K a0 a1 n3 v1 v2 = some r) K ⟨_, _, rfl, h⟩ ?_
  rintro n3 S ⟨v1, v2, rfl, h⟩
  cases n3 with
  | zero => simp [l_spec_GetVar_3] at h
  | succ n3 =>
    rw [l_spec_GetVar_3] at h
    refine W_seq ?_
    refine W_seq ?_
    refine W_regV he rfl ?_
    refine v0 (sM rfl [] rfl) rfl ?_
    refine vB (sBi rfl rfl rfl rfl) rfl rfl fun b4 hb4 => ?_
    cases b4 with
    | true =>
      replace h := brT hb4 h
      refine ve ?_
      refine W2 [0, 1, 7, 8, 11] [] [] (l := [(0, .c (.row _ _ _)), (1, .c (.int _ _)), (7, .c (.int _ _)), (8, .c (.int _ _)), (11, .c (.bool true))]) (h := []) (h' := []) trivial rfl rfl rfl ?_
      refine W_true rfl ?_
      refine W_skip ?_
      refine W_seq ?_
      refine W_block ?_
      refine W_seq ?_
      refine W_seq ?_
      refine W_regV he rfl ?_
      refine v0 (sM rfl [] rfl) rfl ?_
      refine vB (sBi rfl rfl rfl rfl) rfl rfl fun b5 hb5 => ?_
      cases b5 with
      | true =>
        replace h := brT hb5 h
        refine v0 (sM rfl [] rfl) rfl ?_
        refine uP rfl rfl rfl rfl ?_
        refine uP rfl rfl rfl rfl ?_
        refine uP rfl rfl rfl rfl ?_
        refine uP rfl rfl rfl rfl ?_
        refine uP rfl rfl rfl rfl ?_
        refine uP rfl rfl rfl rfl ?_
        refine v0 (sPk rfl [] rfl rfl) rfl ?_
        refine ve ?_
        refine W2 [0, 1, 7, 8, 23] [] [] (l := [(0, .c (.row _ _ _)), (1, .c (.int _ _)), (7, .c (.int _ _)), (8, .c (.int _ _)), (23, .c (.bool true))]) (h := []) (h' := []) trivial rfl rfl rfl ?_
        refine W_true rfl ?_
        refine W_seq ?_
        refine W_regV he rfl ?_
        refine v0 (sA rfl [] rfl) rfl ?_
        refine v0 (sA rfl [] rfl) rfl ?_
        refine v0 (sA rfl [] rfl) rfl ?_
        refine ve ?_
        refine W2 [4, 5, 6] [] [] (l := [(4, .c (.int _ _)), (5, .c (.int _ _)), (6, .c (.bool false))]) (h := []) (h' := []) trivial rfl rfl rfl ?_
        obtain rfl := Option.some.inj h
        exact W_ret (r0 rfl rfl)
      | false =>
        replace h := brF hb5 h
        refine v0 (sM rfl [] rfl) rfl ?_
        refine u0 (sM rfl [] rfl) rfl rfl rfl ?_
        refine u0 (sM rfl [] rfl) rfl rfl rfl ?_
        refine u0 (sLm rfl rfl rfl rfl) rfl rfl rfl ?_
        refine u0 (sM rfl [] rfl) rfl rfl rfl ?_
        refine u0 (sBi rfl rfl rfl rfl) rfl rfl rfl ?_
        refine uB (sBi rfl rfl rfl rfl) rfl rfl rfl rfl fun b6 hb6 => ?_
        cases b6 with
        | true =>
          replace h := brT hb6 h
          refine v0 (sPk rfl [] rfl rfl) rfl ?_
          refine ve ?_
          refine W2 [0, 1, 7, 8, 23] [] [] (l := [(0, .c (.row _ _ _)), (1, .c (.int _ _)), (7, .c (.int _ _)), (8, .c (.int _ _)), (23, .c (.bool true))]) (h := []) (h' := []) trivial rfl rfl rfl ?_
          refine W_true rfl ?_
          refine W_seq ?_
          refine W_regV he rfl ?_
          refine v0 (sA rfl [] rfl) rfl ?_
          refine v0 (sA rfl [] rfl) rfl ?_
          refine v0 (sA rfl [] rfl) rfl ?_
          refine ve ?_
          refine W2 [4, 5, 6] [] [] (l := [(4, .c (.int _ _)), (5, .c (.int _ _)), (6, .c (.bool false))]) (h := []) (h' := []) trivial rfl rfl rfl ?_
          obtain rfl := Option.some.inj h
          exact W_ret (r0 rfl rfl)
        | false =>
          replace h := brF hb6 h
          refine v0 (sPk rfl [] rfl rfl) rfl ?_
          refine ve ?_
          refine W2 [0, 1, 7, 8, 23] [] [] (l := [(0, .c (.row _ _ _)), (1, .c (.int _ _)), (7, .c (.int _ _)), (8, .c (.int _ _)), (23, .c (.bool false))]) (h := []) (h' := []) trivial rfl rfl rfl ?_
          refine W_false rfl ?_
          refine W_skip ?_
          refine W_seq ?_
          refine W_regV he rfl ?_
          refine v0 (sM rfl [] rfl) rfl ?_
          refine v0 (sM rfl [] rfl) rfl ?_
          refine v0 (sM rfl [] rfl) rfl ?_
          refine v0 (sBi rfl rfl rfl rfl) rfl ?_
          refine chkc h ?_; clear h; intro c7 h
          refine v0 (sIRm rfl rfl rfl rfl c7) rfl ?_
          refine v0 (sLI rfl rfl (en_u8 (gt a0 (iAdd .i64 a1 v2))) (gt_at _ c7) rfl rfl rfl) rfl ?_
          refine v0 (sCv rfl rfl rfl rfl rfl rfl) rfl ?_
          refine v0 (sA rfl [] rfl) rfl ?_
          refine ve ?_
          refine W2 [0, 1, 7, 8, 9] [] [] (l := [(0, .c (.row _ _ _)), (1, .c (.int _ _)), (7, .c (.int _ _)), (8, .c (.int _ _)), (9, .c (.int _ _))]) (h := []) (h' := []) trivial rfl rfl rfl ?_
          refine W_seq ?_
          refine W_regV he rfl ?_
          refine v0 (sM rfl [] rfl) rfl ?_
          refine v0 (sM rfl [] rfl) rfl ?_
          refine v0 (sBi rfl rfl rfl rfl) rfl ?_
          refine v0 (sM rfl [] rfl) rfl ?_
          refine v0 (sBi rfl rfl rfl rfl) rfl ?_
          refine chkc h ?_; clear h; intro c8 h
          refine v0 (sSh rfl rfl rfl c8) rfl ?_
          refine v0 (sBi rfl rfl rfl rfl) rfl ?_
          refine v0 (sA rfl [] rfl) rfl ?_
          refine ve ?_
          refine W2 [0, 1, 7, 8, 9] [] [] (l := [(0, .c (.row _ _ _)), (1, .c (.int _ _)), (7, .c (.int _ _)), (8, .c (.int _ _)), (9, .c (.int _ _))]) (h := []) (h' := []) trivial rfl rfl rfl ?_
          refine W_seq ?_
          refine W_regV he rfl ?_
          refine v0 (sM rfl [] rfl) rfl ?_
          refine vB (sBi rfl rfl rfl rfl) rfl rfl fun b9 hb9 => ?_
          cases b9 with
          | true =>
            replace h := brT hb9 h
            refine ve ?_
            refine W2 [0, 1, 7, 8, 9, 39] [] [] (l := [(0, .c (.row _ _ _)), (1, .c (.int _ _)), (7, .c (.int _ _)), (8, .c (.int _ _)), (9, .c (.int _ _)), (39, .c (.bool true))]) (h := []) (h' := []) trivial rfl rfl rfl ?_
            refine W_true rfl ?_
            refine W_join (fun S => S = StL [(1, .c (.int .i64 a1)), (7, .c (.int .i64 (iOr .i64 v1 (iShl .i64 (iAnd .i64 (IntKind.i64.wrap (gt a0 (iAdd .i64 a1 v2))) 127) (iMul .i64 7 v2))))), (8, .c (.int .i64 v2))] ([] ++ []) ∧ j_spec_GetVar_10 K a0 a1 v1 v2  = some r) ?_ ?_
            · rintro S ⟨rfl, h⟩
              unfold j_spec_GetVar_10 at h
              refine W_seq ?_
              refine W_regV he rfl ?_
              refine v0 (sM rfl [] rfl) rfl ?_
              refine v0 (sM rfl [] rfl) rfl ?_
              refine v0 (sM rfl [] rfl) rfl ?_
              refine v0 (sBi rfl rfl rfl rfl) rfl ?_
              refine v0 (sBi rfl rfl rfl rfl) rfl ?_
              refine v0 (sA rfl [] rfl) rfl ?_
              refine v0 (sA rfl [] rfl) rfl ?_
              refine v0 (sA rfl [] rfl) rfl ?_
              refine ve ?_
              refine W2 [4, 5, 6] [] [] (l := [(4, .c (.int _ _)), (5, .c (.int _ _)), (6, .c (.bool true))]) (h := []) (h' := []) trivial rfl rfl rfl ?_
              obtain rfl := Option.some.inj h
              exact W_ret (r0 rfl rfl)
            ·
              refine W_seq ?_
              refine W_regV he rfl ?_
              refine v0 (sM rfl [] rfl) rfl ?_
              refine vB (sBi rfl rfl rfl rfl) rfl rfl fun b111 hb111 => ?_
              cases b111 with
              | true =>
                replace h := brT hb111 h
                refine v0 (sM rfl [] rfl) rfl ?_
                refine u0 (sM rfl [] rfl) rfl rfl rfl ?_
                refine uB (sBi rfl rfl rfl rfl) rfl rfl rfl rfl fun b112 hb112 => ?_
                cases b112 with
                | true =>
                  replace h := brT hb112 h
                  refine v0 (sPk rfl [] rfl rfl) rfl ?_
                  refine v0 (sM rfl [] rfl) rfl ?_
                  refine uP rfl rfl rfl rfl ?_
                  refine uP rfl rfl rfl rfl ?_
                  refine v0 (sPk rfl [] rfl rfl) rfl ?_
                  refine ve ?_
                  refine W2 [1, 7, 8, 49] [] [] (l := [(1, .c (.int _ _)), (7, .c (.int _ _)), (8, .c (.int _ _)), (49, .c (.bool true))]) (h := []) (h' := []) trivial rfl rfl rfl ?_
                  refine W_true rfl ?_
                  refine W_seq ?_
                  refine W_regV he rfl ?_
                  refine v0 (sA rfl [] rfl) rfl ?_
                  refine v0 (sA rfl [] rfl) rfl ?_
                  refine v0 (sA rfl [] rfl) rfl ?_
                  refine ve ?_
                  refine W2 [4, 5, 6] [] [] (l := [(4, .c (.int _ _)), (5, .c (.int _ _)), (6, .c (.bool false))]) (h := []) (h' := []) trivial rfl rfl rfl ?_
                  obtain rfl := Option.some.inj h
                  exact W_ret (r0 rfl rfl)
                | false =>
                  replace h := brF hb112 h
                  refine v0 (sPk rfl [] rfl rfl) rfl ?_
                  refine v0 (sM rfl [] rfl) rfl ?_
                  refine u0 (sM rfl [] rfl) rfl rfl rfl ?_
                  refine uB (sBi rfl rfl rfl rfl) rfl rfl rfl rfl fun b113 hb113 => ?_
                  cases b113 with
                  | true =>
                    replace h := brT hb113 h
                    refine v0 (sPk rfl [] rfl rfl) rfl ?_
                    refine ve ?_
                    refine W2 [1, 7, 8, 49] [] [] (l := [(1, .c (.int _ _)), (7, .c (.int _ _)), (8, .c (.int _ _)), (49, .c (.bool true))]) (h := []) (h' := []) trivial rfl rfl rfl ?_
                    refine W_true rfl ?_
                    refine W_seq ?_
                    refine W_regV he rfl ?_
                    refine v0 (sA rfl [] rfl) rfl ?_
                    refine v0 (sA rfl [] rfl) rfl ?_
                    refine v0 (sA rfl [] rfl) rfl ?_
                    refine ve ?_
                    refine W2 [4, 5, 6] [] [] (l := [(4, .c (.int _ _)), (5, .c (.int _ _)), (6, .c (.bool false))]) (h := []) (h' := []) trivial rfl rfl rfl ?_
                    obtain rfl := Option.some.inj h
                    exact W_ret (r0 rfl rfl)
                  | false =>
                    replace h := brF hb113 h
                    refine v0 (sPk rfl [] rfl rfl) rfl ?_
                    refine ve ?_
                    refine W2 [1, 7, 8, 49] [] [] (l := [(1, .c (.int _ _)), (7, .c (.int _ _)), (8, .c (.int _ _)), (49, .c (.bool false))]) (h := []) (h' := []) trivial rfl rfl rfl ?_
                    refine W_false rfl ?_
                    refine W_skip ?_
                    exact ⟨_, wk2 [1, 7, 8] [] [] (l := [(1, .c (.int _ _)), (7, .c (.int _ _)), (8, .c (.int _ _))]) (h := []) (h' := []) trivial rfl rfl rfl, rfl, h⟩
              | false =>
                replace h := brF hb111 h
                refine v0 (sM rfl [] rfl) rfl ?_
                refine uP rfl rfl rfl rfl ?_
                refine uP rfl rfl rfl rfl ?_
                refine v0 (sPk rfl [] rfl rfl) rfl ?_
                refine v0 (sM rfl [] rfl) rfl ?_
                refine u0 (sM rfl [] rfl) rfl rfl rfl ?_
                refine uB (sBi rfl rfl rfl rfl) rfl rfl rfl rfl fun b114 hb114 => ?_
                cases b114 with
                | true =>
                  replace h := brT hb114 h
                  refine v0 (sPk rfl [] rfl rfl) rfl ?_
                  refine ve ?_
                  refine W2 [1, 7, 8, 49] [] [] (l := [(1, .c (.int _ _)), (7, .c (.int _ _)), (8, .c (.int _ _)), (49, .c (.bool true))]) (h := []) (h' := []) trivial rfl rfl rfl ?_
                  refine W_true rfl ?_
                  refine W_seq ?_
                  refine W_regV he rfl ?_
                  refine v0 (sA rfl [] rfl) rfl ?_
                  refine v0 (sA rfl [] rfl) rfl ?_
                  refine v0 (sA rfl [] rfl) rfl ?_
                  refine ve ?_
                  refine W2 [4, 5, 6] [] [] (l := [(4, .c (.int _ _)), (5, .c (.int _ _)), (6, .c (.bool false))]) (h := []) (h' := []) trivial rfl rfl rfl ?_
                  obtain rfl := Option.some.inj h
                  exact W_ret (r0 rfl rfl)
                | false =>
                  replace h := brF hb114 h
                  refine v0 (sPk rfl [] rfl rfl) rfl ?_
                  refine ve ?_
                  refine W2 [1, 7, 8, 49] [] [] (l := [(1, .c (.int _ _)), (7, .c (.int _ _)), (8, .c (.int _ _)), (49, .c (.bool false))]) (h := []) (h' := []) trivial rfl rfl rfl ?_
                  refine W_false rfl ?_
                  refine W_skip ?_
                  exact ⟨_, wk2 [1, 7, 8] [] [] (l := [(1, .c (.int _ _)), (7, .c (.int _ _)), (8, .c (.int _ _))]) (h := []) (h' := []) trivial rfl rfl rfl, rfl, h⟩
          | false =>
            replace h := brF hb9 h
            refine ve ?_
            refine W2 [0, 1, 7, 8, 9, 39] [] [] (l := [(0, .c (.row _ _ _)), (1, .c (.int _ _)), (7, .c (.int _ _)), (8, .c (.int _ _)), (9, .c (.int _ _)), (39, .c (.bool false))]) (h := []) (h' := []) trivial rfl rfl rfl ?_
            refine W_false rfl ?_
            refine W_skip ?_
            refine W_regV he rfl ?_
            refine v0 (sM rfl [] rfl) rfl ?_
            refine v0 (sBi rfl rfl rfl rfl) rfl ?_
            refine v0 (sA rfl [] rfl) rfl ?_
            refine ve ?_
            exact ⟨n3, _, Nat.lt_succ_self n3, wk2 [0, 1, 7, 8] [] [] (l := [(0, .c (.row _ _ _)), (1, .c (.int _ _)), (7, .c (.int _ _)), (8, .c (.int _ _))]) (h := []) (h' := []) trivial rfl rfl rfl, _, _, rfl, h⟩
    | false =>
      replace h := brF hb4 h
      refine ve ?_
      refine W2 [0, 1, 7, 8, 11] [] [] (l := [(0, .c (.row _ _ _)), (1, .c (.int _ _)), (7, .c (.int _ _)), (8, .c (.int _ _)), (11, .c (.bool false))]) (h := []) (h' := []) trivial rfl rfl rfl ?_
      refine W_false rfl ?_
      refine W_exit (ex_then (ex_then (ex_hit ?_)))
      refine W_seq ?_
      refine W_regV he rfl ?_
      refine v0 (sA rfl [] rfl) rfl ?_
      refine v0 (sA rfl [] rfl) rfl ?_
      refine v0 (sA rfl [] rfl) rfl ?_
      refine ve ?_
      refine W2 [4, 5, 6] [] [] (l := [(4, .c (.int _ _)), (5, .c (.int _ _)), (6, .c (.bool false))]) (h := []) (h' := []) trivial rfl rfl rfl ?_
      obtain rfl := Option.some.inj h
      exact W_ret (r0 rfl rfl)
theorem ok_spec_GetVar : FnOk Try.prog 20 := ⟨_, Try.func20, rfl, rfl⟩


/-! ### loop.example/g00499/spec.GetOp -/
def l_spec_GetOp_4 (K : Nat) (a0 : List Int) : Nat → (List Int) → Int → Int → Option (T_impl_Op × Bool)
  | 0, _, _, _ => none
  | n4 + 1, v1, v2, v3 => (bif (decide (v3 < 10)) then ((m_spec_GetVar K a0 v2).bind fun r6 => (bif r6.2.2 then (if (v1 ++ ([r6.1] : List Int)).length * 8 ≤ 140737488355328 ∧ (v1 ++ ([r6.1] : List Int)).length ≤ maxLen then (l_spec_GetOp_4 K a0 n4 (v1 ++ ([r6.1] : List Int)) r6.2.1 (iAdd .i64 v3 1)) else none) else some ((T_impl_Op.mk 0 (T_impl_Handle.mk 0 0) (T_impl_Ref.mk (T_impl_Handle.mk 0 0) 0 0) 0 0 []), false))) else (if (0 : Int) ≤ 0 ∧ 0 < (v1.length : Int) then (if (0 : Int) ≤ 1 ∧ 1 < (v1.length : Int) then (if (0 : Int) ≤ 2 ∧ 2 < (v1.length : Int) then (if (0 : Int) ≤ 3 ∧ 3 < (v1.length : Int) then (if (0 : Int) ≤ 4 ∧ 4 < (v1.length : Int) then (if (0 : Int) ≤ 5 ∧ 5 < (v1.length : Int) then (if (0 : Int) ≤ 6 ∧ 6 < (v1.length : Int) then (if (0 : Int) ≤ 7 ∧ 7 < (v1.length : Int) then (if (0 : Int) ≤ 8 ∧ 8 < (v1.length : Int) then (if (0 : Int) ≤ v2 ∧ v2 ≤ (a0.length : Int) ∧ (a0.length : Int) ≤ (a0.length : Int) then (if (([] : List Int) ++ ((a0.drop v2.toNat).take ((a0.length : Int) - v2).toNat)).length * 1 ≤ 140737488355328 ∧ (([] : List Int) ++ ((a0.drop v2.toNat).take ((a0.length : Int) - v2).toNat)).length ≤ maxLen then (if (0 : Int) ≤ 9 ∧ 9 < (v1.length : Int) then (bif (((([] : List Int) ++ ((a0.drop v2.toNat).take ((a0.length : Int) - v2).toNat)).length : Int) != (gt v1 9)) then some ((T_impl_Op.mk 0 (T_impl_Handle.mk 0 0) (T_impl_Ref.mk (T_impl_Handle.mk 0 0) 0 0) 0 0 []), false) else ((m_spec_OpOk K (T_impl_Op.mk (gt v1 0) (T_impl_Handle.mk (gt v1 1) (gt v1 2)) (T_impl_Ref.mk (T_impl_Handle.mk (gt v1 3) (gt v1 4)) (gt v1 5) (gt v1 6)) (gt v1 7) (gt v1 8) (([] : List Int) ++ ((a0.drop v2.toNat).take ((a0.length : Int) - v2).toNat)))).bind fun r22 => (bif r22 then some ((T_impl_Op.mk (gt v1 0) (T_impl_Handle.mk (gt v1 1) (gt v1 2)) (T_impl_Ref.mk (T_impl_Handle.mk (gt v1 3) (gt v1 4)) (gt v1 5) (gt v1 6)) (gt v1 7) (gt v1 8) (([] : List Int) ++ ((a0.drop v2.toNat).take ((a0.length : Int) - v2).toNat))), true) else some ((T_impl_Op.mk 0 (T_impl_Handle.mk 0 0) (T_impl_Ref.mk (T_impl_Handle.mk 0 0) 0 0) 0 0 []), false)))) else none) else none) else none) else none) else none) else none) else none) else none) else none) else none) else none) else none))
def m_spec_GetOp (K : Nat) (a0 : List Int) : Option (T_impl_Op × Bool) := (l_spec_GetOp_4 K a0 K ([] : List Int) 0 0)
set_option maxRecDepth 20000 in
set_option maxHeartbeats 8000000 in
theorem w_spec_GetOp (K : Nat) (a0 : List Int) (r : T_impl_Op × Bool) (h : m_spec_GetOp K a0 = some r) : Sp Try.prog 49 [.c (.row false 1 (a0.map en_u8))] [] (.t [.g [.int .i64 r.1.fKind, .int .i64 r.1.fH.fSlot, .int .i64 r.1.fH.fGen, .int .i64 r.1.fR.fH.fSlot, .int .i64 r.1.fR.fH.fGen, .int .i64 r.1.fR.fEp, .int .i64 r.1.fR.fNo, .int .i64 r.1.fN, .int .i64 r.1.fM, .row false 1 (r.1.fB.map en_u8)], .c (.bool r.2)]) [] := by
  refine Sp.of_W tabOk Try.func49 rfl rfl (Nat.le_of_ble_eq_true rfl) (Nat.le_of_ble_eq_true rfl) fun F hP hN hm => ?_
  obtain ⟨P, N, w0, σ0, β0, m⟩ := F
  obtain rfl : P = Try.prog := hP
  obtain rfl : N = 82 := hN
  obtain rfl : m = 1 := hm
  have he : Env ⟨Try.prog, 82, w0, σ0, β0, 1⟩ tab := ⟨Nat.le_of_ble_eq_true rfl, tabOk⟩
  unfold m_spec_GetOp at h
  refine W_seq ?_
  refine W_regV he rfl ?_
  refine v0 (sAl rfl rfl 101 rfl) rfl ?_
  refine v0 (sA rfl [] rfl) rfl ?_
  refine ve ?_
  refine W2 [0, 2] [101] [] (l := [(0, .c (.row _ _ _)), (2, .c (.ptr _ _ _ _))]) (h := [(101, ⟨0, 10, [[.int _ _, .int _ _, .int _ _, .int _ _, .int _ _, .int _ _, .int _ _, .int _ _, .int _ _, .row _ _ _]]⟩)]) (h' := []) trivial rfl rfl rfl ?_
  refine W_seq ?_
  refine W_regV he rfl ?_
  refine v0 (sBS rfl 1004 (rows := ([] : List Int).map en_i64) rfl rfl rfl (by kernel_rfl) rfl rfl rfl rfl) rfl ?_
  refine v0 (sA rfl [] rfl) rfl ?_
  refine ve ?_
  refine W2 [0, 2, 4] [101] [1004] (l := [(0, .c (.row _ _ _)), (2, .c (.ptr _ _ _ _)), (4, .c (.own _ _ _ _))]) (h := [(101, ⟨0, 10, [[.int _ _, .int _ _, .int _ _, .int _ _, .int _ _, .int _ _, .int _ _, .int _ _, .int _ _, .row _ _ _]]⟩)]) (h' := [(1004, ⟨0, 1, ([] : List Int).map en_i64⟩)]) ⟨⟨_, rfl, enOk_i64.allClosed _ _ ([] : List Int)⟩, trivial⟩ rfl rfl rfl ?_
  refine W_seq ?_
  refine W_regV he rfl ?_
  refine v0 (sA rfl [] rfl) rfl ?_
  refine ve ?_
  refine W2 [0, 2, 4, 5] [101] [1004] (l := [(0, .c (.row _ _ _)), (2, .c (.ptr _ _ _ _)), (4, .c (.own _ _ _ _)), (5, .c (.int _ _))]) (h := [(101, ⟨0, 10, [[.int _ _, .int _ _, .int _ _, .int _ _, .int _ _, .int _ _, .int _ _, .int _ _, .int _ _, .row _ _ _]]⟩)]) (h' := [(1004, ⟨0, 1, ([] : List Int).map en_i64⟩)]) ⟨⟨_, rfl, enOk_i64.allClosed _ _ ([] : List Int)⟩, trivial⟩ rfl rfl rfl ?_
  refine W_seq ?_
  refine W_seq ?_
  refine W_regV he rfl ?_
  refine v0 (sA rfl [] rfl) rfl ?_
  refine ve ?_
  refine W2 [0, 2, 4, 5, 6] [101] [1004] (l := [(0, .c (.row _ _ _)), (2, .c (.ptr _ _ _ _)), (4, .c (.own _ _ _ _)), (5, .c (.int _ _)), (6, .c (.int _ _))]) (h := [(101, ⟨0, 10, [[.int _ _, .int _ _, .int _ _, .int _ _, .int _ _, .int _ _, .int _ _, .int _ _, .int _ _, .row _ _ _]]⟩)]) (h' := [(1004, ⟨0, 1, ([] : List Int).map en_i64⟩)]) ⟨⟨_, rfl, enOk_i64.allClosed _ _ ([] : List Int)⟩, trivial⟩ rfl rfl rfl ?_
  refine W_block ?_
  refine W2 [0, 2, 4, 5, 6] [101] [1004] (l := [(0, .c (.row _ _ _)), (2, .c (.ptr _ _ _ _)), (4, .c (.own _ _ _ _)), (5, .c (.int _ _)), (6, .c (.int _ _))]) (h := [(101, ⟨0, 10, [[.int _ _, .int _ _, .int _ _, .int _ _, .int _ _, .int _ _, .int _ _, .int _ _, .int _ _, .row _ _ _]]⟩)]) (h' := [(1004, ⟨0, 1, ([] : List Int).map en_i64⟩)]) ⟨⟨_, rfl, enOk_i64.allClosed _ _ ([] : List Int)⟩, trivial⟩ rfl rfl rfl ?_
  refine W_loopW (fun n4 S => ∃ (v1 : List Int), ∃ (v2 : Int), ∃ (v3 : Int), S = StL [(0, .c (.row false 1 (a0.map en_u8))), (2, .c (.ptr 101 0 0 0)), (4, .c (.own 1004 0 0 v1.length)), (5, .c (.int .i64 v2)), (6, .c (.int .i64 v3))] ([(101, ⟨0, 10, [[.int .i64 0, .int .i64 0, .int .i64 0, .int .i64 0, .int .i64 0, .int .i64 0, .int .i64 0, .int .i64 0, .int .i64 0, .row true 1 []]]⟩)] ++ [(1004, ⟨0, 1, v1.map en_i64⟩)]) ∧ l_spec_GetOp_4 K a0 n4 v1 v2 v3 = some r) K ⟨_, _, _, rfl, h⟩ ?_
  rintro n4 S ⟨v1, v2, v3, rfl, h⟩
  cases n4 with
  | zero => simp [l_spec_GetOp_4] at h
  | succ n4 =>
    rw [l_spec_GetOp_4] at h
    refine W_seq ?_
    refine W_seq ?_
    refine W_regV he rfl ?_
    refine v0 (sM rfl [] rfl) rfl ?_
    refine vB (sBi rfl rfl rfl rfl) rfl rfl fun b5 hb5 => ?_
    cases b5 with
    | true =>
      replace h := brT hb5 h
      refine ve ?_
      refine W2 [0, 2, 4, 5, 6, 13] [101] [1004] (l := [(0, .c (.row _ _ _)), (2, .c (.ptr _ _ _ _)), (4, .c (.own _ _ _ _)), (5, .c (.int _ _)), (6, .c (.int _ _)), (13, .c (.bool true))]) (h := [(101, ⟨0, 10, [[.int _ _, .int _ _, .int _ _, .int _ _, .int _ _, .int _ _, .int _ _, .int _ _, .int _ _, .row _ _ _]]⟩)]) (h' := [(1004, ⟨0, 1, v1.map en_i64⟩)]) ⟨⟨_, rfl, enOk_i64.allClosed _ _ v1⟩, trivial⟩ rfl rfl rfl ?_
      refine W_true rfl ?_
      refine W_skip ?_
      refine W_seq ?_
      refine W_block ?_
      refine W_seq ?_
      refine W_regV he rfl ?_
      refine v0 (sM rfl [] rfl) rfl ?_
      refine v0 (sM rfl [] rfl) rfl ?_
      refine bndc h ?_; clear h; intro r6 hr6 h
      refine v0 (sCm (w_spec_GetVar K a0 v2 _ hr6) ok_spec_GetVar rfl rfl rfl rfl) rfl ?_
      refine v0 (sM rfl [] rfl) rfl ?_
      refine v0 (sEx rfl rfl rfl) rfl ?_
      refine v0 (sEx rfl rfl rfl) rfl ?_
      refine v0 (sEx rfl rfl rfl) rfl ?_
      refine v0 (sA rfl [] rfl) rfl ?_
      refine v0 (sA rfl [] rfl) rfl ?_
      refine v0 (sA rfl [] rfl) rfl ?_
      refine ve ?_
      refine W2 [0, 2, 4, 6, 7, 8, 9] [101] [1004] (l := [(0, .c (.row _ _ _)), (2, .c (.ptr _ _ _ _)), (4, .c (.own _ _ _ _)), (6, .c (.int _ _)), (7, .c (.int _ _)), (8, .c (.int _ _)), (9, .c (.bool _))]) (h := [(101, ⟨0, 10, [[.int _ _, .int _ _, .int _ _, .int _ _, .int _ _, .int _ _, .int _ _, .int _ _, .int _ _, .row _ _ _]]⟩)]) (h' := [(1004, ⟨0, 1, v1.map en_i64⟩)]) ⟨⟨_, rfl, enOk_i64.allClosed _ _ v1⟩, trivial⟩ rfl rfl rfl ?_
      refine W_seq ?_
      refine W_seq ?_
      refine W_regV he rfl ?_
      refine vB (sM rfl [] rfl) rfl rfl fun b7 hb7 => ?_
      cases b7 with
      | true =>
        replace h := brT hb7 h
        refine v0 (sNt rfl rfl) rfl ?_
        refine ve ?_
        refine W2 [0, 2, 4, 6, 7, 8, 24] [101] [1004] (l := [(0, .c (.row _ _ _)), (2, .c (.ptr _ _ _ _)), (4, .c (.own _ _ _ _)), (6, .c (.int _ _)), (7, .c (.int _ _)), (8, .c (.int _ _)), (24, .c (.bool false))]) (h := [(101, ⟨0, 10, [[.int _ _, .int _ _, .int _ _, .int _ _, .int _ _, .int _ _, .int _ _, .int _ _, .int _ _, .row _ _ _]]⟩)]) (h' := [(1004, ⟨0, 1, v1.map en_i64⟩)]) ⟨⟨_, rfl, enOk_i64.allClosed _ _ v1⟩, trivial⟩ rfl rfl rfl ?_
        refine W_false rfl ?_
        refine W_skip ?_
        refine W_seq ?_
        refine W_regV he rfl ?_
        refine v0 (sM rfl [] rfl) rfl ?_
        refine v0 (sM rfl [] rfl) rfl ?_
        refine v0 (sBS rfl 1028 (rows := ([r6.1] : List Int).map en_i64) rfl rfl rfl (by kernel_rfl) rfl rfl rfl rfl) rfl ?_
        refine chkc h ?_; clear h; intro c8 h
        refine v0 (sAo rfl 1004 v1 ([r6.1] : List Int) enOk_i64 rfl rfl rfl rfl rfl rfl rfl rfl rfl rfl rfl c8) rfl ?_
        refine v0 (sA rfl [] rfl) rfl ?_
        refine ve ?_
        refine W2 [0, 2, 4, 6, 8] [101] [1004] (l := [(0, .c (.row _ _ _)), (2, .c (.ptr _ _ _ _)), (4, .c (.own _ _ _ _)), (6, .c (.int _ _)), (8, .c (.int _ _))]) (h := [(101, ⟨0, 10, [[.int _ _, .int _ _, .int _ _, .int _ _, .int _ _, .int _ _, .int _ _, .int _ _, .int _ _, .row _ _ _]]⟩)]) (h' := [(1004, ⟨0, 1, (v1 ++ ([r6.1] : List Int)).map en_i64⟩)]) ⟨⟨_, rfl, enOk_i64.allClosed _ _ (v1 ++ ([r6.1] : List Int))⟩, trivial⟩ rfl rfl rfl ?_
        refine W_regV he rfl ?_
        refine v0 (sM rfl [] rfl) rfl ?_
        refine v0 (sA rfl [] rfl) rfl ?_
        refine ve ?_
        refine W2 [0, 2, 4, 5, 6] [101] [1004] (l := [(0, .c (.row _ _ _)), (2, .c (.ptr _ _ _ _)), (4, .c (.own _ _ _ _)), (5, .c (.int _ _)), (6, .c (.int _ _))]) (h := [(101, ⟨0, 10, [[.int _ _, .int _ _, .int _ _, .int _ _, .int _ _, .int _ _, .int _ _, .int _ _, .int _ _, .row _ _ _]]⟩)]) (h' := [(1004, ⟨0, 1, (v1 ++ ([r6.1] : List Int)).map en_i64⟩)]) ⟨⟨_, rfl, enOk_i64.allClosed _ _ (v1 ++ ([r6.1] : List Int))⟩, trivial⟩ rfl rfl rfl ?_
        refine W_regV he rfl ?_
        refine v0 (sM rfl [] rfl) rfl ?_
        refine v0 (sBi rfl rfl rfl rfl) rfl ?_
        refine v0 (sA rfl [] rfl) rfl ?_
        refine ve ?_
        exact ⟨n4, _, Nat.lt_succ_self n4, wk2 [0, 2, 4, 5, 6] [101] [1004] (l := [(0, .c (.row _ _ _)), (2, .c (.ptr _ _ _ _)), (4, .c (.own _ _ _ _)), (5, .c (.int _ _)), (6, .c (.int _ _))]) (h := [(101, ⟨0, 10, [[.int _ _, .int _ _, .int _ _, .int _ _, .int _ _, .int _ _, .int _ _, .int _ _, .int _ _, .row _ _ _]]⟩)]) (h' := [(1004, ⟨0, 1, (v1 ++ ([r6.1] : List Int)).map en_i64⟩)]) ⟨⟨_, rfl, enOk_i64.allClosed _ _ (v1 ++ ([r6.1] : List Int))⟩, trivial⟩ rfl rfl rfl, _, _, _, rfl, h⟩
      | false =>
        replace h := brF hb7 h
        refine v0 (sNt rfl rfl) rfl ?_
        refine ve ?_
        refine W2 [0, 2, 4, 6, 7, 8, 24] [101] [1004] (l := [(0, .c (.row _ _ _)), (2, .c (.ptr _ _ _ _)), (4, .c (.own _ _ _ _)), (6, .c (.int _ _)), (7, .c (.int _ _)), (8, .c (.int _ _)), (24, .c (.bool true))]) (h := [(101, ⟨0, 10, [[.int _ _, .int _ _, .int _ _, .int _ _, .int _ _, .int _ _, .int _ _, .int _ _, .int _ _, .row _ _ _]]⟩)]) (h' := [(1004, ⟨0, 1, v1.map en_i64⟩)]) ⟨⟨_, rfl, enOk_i64.allClosed _ _ v1⟩, trivial⟩ rfl rfl rfl ?_
        refine W_true rfl ?_
        refine W_seq ?_
        refine W_regV he rfl ?_
        refine v0 (sBd rfl [] (out := [.int .i64 0, .int .i64 0, .int .i64 0, .int .i64 0, .int .i64 0, .int .i64 0, .int .i64 0, .int .i64 0, .int .i64 0, .row true 1 []]) rfl (by kernel_rfl)) rfl ?_
        refine v0 (sSt rfl rfl [] rfl rfl) rfl ?_
        refine v0 (sA rfl [] rfl) rfl ?_
        refine ve ?_
        refine W2 [2, 3] [101] [] (l := [(2, .c (.ptr _ _ _ _)), (3, .c (.bool false))]) (h := [(101, ⟨0, 10, [[.int _ _, .int _ _, .int _ _, .int _ _, .int _ _, .int _ _, .int _ _, .int _ _, .int _ _, .row _ _ _]]⟩)]) (h' := []) trivial rfl rfl rfl ?_
        obtain rfl := Option.some.inj h
        refine W.weak (wk_cold 101 rfl) ?_
        exact W_ret (r0 rfl rfl)
    | false =>
      replace h := brF hb5 h
      refine ve ?_
      refine W2 [0, 2, 4, 5, 6, 13] [101] [1004] (l := [(0, .c (.row _ _ _)), (2, .c (.ptr _ _ _ _)), (4, .c (.own _ _ _ _)), (5, .c (.int _ _)), (6, .c (.int _ _)), (13, .c (.bool false))]) (h := [(101, ⟨0, 10, [[.int _ _, .int _ _, .int _ _, .int _ _, .int _ _, .int _ _, .int _ _, .int _ _, .int _ _, .row _ _ _]]⟩)]) (h' := [(1004, ⟨0, 1, v1.map en_i64⟩)]) ⟨⟨_, rfl, enOk_i64.allClosed _ _ v1⟩, trivial⟩ rfl rfl rfl ?_
      refine W_false rfl ?_
      refine W_exit (ex_then (ex_then (ex_hit ?_)))
      refine W_seq ?_
      refine W_regD he rfl rfl rfl ?_
      refine g0 (sM rfl [] rfl) rfl ?_
      refine chkc h ?_; clear h; intro c9 h
      refine g0 (sIOm rfl rfl rfl c9) rfl ?_
      refine g0 (sLkm rfl v1 c9 rfl rfl rfl rfl rfl rfl) rfl ?_
      refine g0 (sM rfl [] rfl) rfl ?_
      refine chkc h ?_; clear h; intro c10 h
      refine g0 (sIOm rfl rfl rfl c10) rfl ?_
      refine g0 (sLkm rfl v1 c10 rfl rfl rfl rfl rfl rfl) rfl ?_
      refine g0 (sM rfl [] rfl) rfl ?_
      refine chkc h ?_; clear h; intro c11 h
      refine g0 (sIOm rfl rfl rfl c11) rfl ?_
      refine g0 (sLkm rfl v1 c11 rfl rfl rfl rfl rfl rfl) rfl ?_
      refine g0 (sBd rfl [[], []] (out := [.int .i64 (gt v1 1), .int .i64 (gt v1 2)]) rfl (by kernel_rfl)) rfl ?_
      refine g0 (sM rfl [] rfl) rfl ?_
      refine chkc h ?_; clear h; intro c12 h
      refine g0 (sIOm rfl rfl rfl c12) rfl ?_
      refine g0 (sLkm rfl v1 c12 rfl rfl rfl rfl rfl rfl) rfl ?_
      refine g0 (sM rfl [] rfl) rfl ?_
      refine chkc h ?_; clear h; intro c13 h
      refine g0 (sIOm rfl rfl rfl c13) rfl ?_
      refine g0 (sLkm rfl v1 c13 rfl rfl rfl rfl rfl rfl) rfl ?_
      refine g0 (sBd rfl [[], []] (out := [.int .i64 (gt v1 3), .int .i64 (gt v1 4)]) rfl (by kernel_rfl)) rfl ?_
      refine g0 (sM rfl [] rfl) rfl ?_
      refine chkc h ?_; clear h; intro c14 h
      refine g0 (sIOm rfl rfl rfl c14) rfl ?_
      refine g0 (sLkm rfl v1 c14 rfl rfl rfl rfl rfl rfl) rfl ?_
      refine g0 (sM rfl [] rfl) rfl ?_
      refine chkc h ?_; clear h; intro c15 h
      refine g0 (sIOm rfl rfl rfl c15) rfl ?_
      refine g0 (sLkm rfl v1 c15 rfl rfl rfl rfl rfl rfl) rfl ?_
      refine g0 (sBd rfl [[], [], []] (out := [.int .i64 (gt v1 3), .int .i64 (gt v1 4), .int .i64 (gt v1 5), .int .i64 (gt v1 6)]) rfl (by kernel_rfl)) rfl ?_
      refine g0 (sM rfl [] rfl) rfl ?_
      refine chkc h ?_; clear h; intro c16 h
      refine g0 (sIOm rfl rfl rfl c16) rfl ?_
      refine g0 (sLkm rfl v1 c16 rfl rfl rfl rfl rfl rfl) rfl ?_
      refine g0 (sM rfl [] rfl) rfl ?_
      refine chkc h ?_; clear h; intro c17 h
      refine g0 (sIOm rfl rfl rfl c17) rfl ?_
      refine g0 (sLkm rfl v1 c17 rfl rfl rfl rfl rfl rfl) rfl ?_
      refine g0 (sBd rfl [[], [], [], [], []] (out := [.int .i64 (gt v1 0), .int .i64 (gt v1 1), .int .i64 (gt v1 2), .int .i64 (gt v1 3), .int .i64 (gt v1 4), .int .i64 (gt v1 5), .int .i64 (gt v1 6), .int .i64 (gt v1 7), .int .i64 (gt v1 8), .row true 1 []]) rfl (by kernel_rfl)) rfl ?_
      refine g0 (sAl rfl rfl 102 rfl) rfl ?_
      refine g0 (sSt rfl rfl [] rfl rfl) rfl ?_
      refine ge ⟨rfl, ?_⟩
      refine W2 [0, 2, 4, 5, 10] [101, 102] [1004] (l := [(0, .c (.row _ _ _)), (2, .c (.ptr _ _ _ _)), (4, .c (.own _ _ _ _)), (5, .c (.int _ _)), (10, .c (.ptr _ _ _ _))]) (h := [(101, ⟨0, 10, [[.int _ _, .int _ _, .int _ _, .int _ _, .int _ _, .int _ _, .int _ _, .int _ _, .int _ _, .row _ _ _]]⟩), (102, ⟨0, 10, [[.int _ _, .int _ _, .int _ _, .int _ _, .int _ _, .int _ _, .int _ _, .int _ _, .int _ _, .row _ _ _]]⟩)]) (h' := [(1004, ⟨0, 1, v1.map en_i64⟩)]) ⟨⟨_, rfl, enOk_i64.allClosed _ _ v1⟩, trivial⟩ rfl rfl rfl ?_
      refine W_seq ?_
      refine W_regV he rfl ?_
      refine v0 (sBS rfl 1062 (rows := ([] : List Int).map en_u8) rfl rfl rfl (by kernel_rfl) rfl rfl rfl rfl) rfl ?_
      refine v0 (sM rfl [] rfl) rfl ?_
      refine v0 (sM rfl [] rfl) rfl ?_
      refine chkc h ?_; clear h; intro c18 h
      refine v0 (sSlM rfl rfl rfl rfl rfl c18) rfl ?_
      refine chkc h ?_; clear h; intro c19 h
      refine v0 (sAo rfl 1066 ([] : List Int) ((a0.drop v2.toNat).take ((a0.length : Int) - v2).toNat) enOk_u8 rfl rfl rfl rfl rfl rfl rfl rfl rfl rfl rfl c19) rfl ?_
      refine v0 (sFP rfl rfl rfl) rfl ?_
      refine vWk (wk_row (l := (([] : List Int) ++ ((a0.drop v2.toNat).take ((a0.length : Int) - v2).toNat))) 66 enOk_u8 rfl rfl) ?_
      refine v0 (sSt rfl rfl [] rfl rfl) rfl ?_
      refine ve ?_
      refine W2 [2, 4, 10] [101, 102] [1004] (l := [(2, .c (.ptr _ _ _ _)), (4, .c (.own _ _ _ _)), (10, .c (.ptr _ _ _ _))]) (h := [(101, ⟨0, 10, [[.int _ _, .int _ _, .int _ _, .int _ _, .int _ _, .int _ _, .int _ _, .int _ _, .int _ _, .row _ _ _]]⟩), (102, ⟨0, 10, [[.int _ _, .int _ _, .int _ _, .int _ _, .int _ _, .int _ _, .int _ _, .int _ _, .int _ _, .row _ _ _]]⟩)]) (h' := [(1004, ⟨0, 1, v1.map en_i64⟩)]) ⟨⟨_, rfl, enOk_i64.allClosed _ _ v1⟩, trivial⟩ rfl rfl rfl ?_
      refine W_seq ?_
      refine W_seq ?_
      refine W_regD he rfl rfl rfl ?_
      refine g0 (sFP rfl rfl rfl) rfl ?_
      refine g0 (sLd rfl rfl) rfl ?_
      refine g0 (sLm rfl rfl rfl rfl) rfl ?_
      refine g0 (sM rfl [] rfl) rfl ?_
      refine chkc h ?_; clear h; intro c20 h
      refine g0 (sIOm rfl rfl rfl c20) rfl ?_
      refine g0 (sLkm rfl v1 c20 rfl rfl rfl rfl rfl rfl) rfl ?_
      refine gB (sBi rfl rfl rfl rfl) rfl rfl fun b21 hb21 => ?_
      cases b21 with
      | true =>
        replace h := brT hb21 h
        refine g0 (sM rfl [] rfl) rfl ?_
        refine qP rfl rfl rfl rfl ?_
        refine qP rfl rfl rfl rfl ?_
        refine qP rfl rfl rfl rfl ?_
        refine g0 (sPk rfl [] rfl rfl) rfl ?_
        refine ge ⟨rfl, ?_⟩
        refine W2 [2, 10, 79] [101, 102] [] (l := [(2, .c (.ptr _ _ _ _)), (10, .c (.ptr _ _ _ _)), (79, .c (.bool true))]) (h := [(101, ⟨0, 10, [[.int _ _, .int _ _, .int _ _, .int _ _, .int _ _, .int _ _, .int _ _, .int _ _, .int _ _, .row _ _ _]]⟩), (102, ⟨0, 10, [[.int _ _, .int _ _, .int _ _, .int _ _, .int _ _, .int _ _, .int _ _, .int _ _, .int _ _, .row _ _ _]]⟩)]) (h' := []) trivial rfl rfl rfl ?_
        refine W_true rfl ?_
        refine W_seq ?_
        refine W_regV he rfl ?_
        refine v0 (sBd rfl [] (out := [.int .i64 0, .int .i64 0, .int .i64 0, .int .i64 0, .int .i64 0, .int .i64 0, .int .i64 0, .int .i64 0, .int .i64 0, .row true 1 []]) rfl (by kernel_rfl)) rfl ?_
        refine v0 (sSt rfl rfl [] rfl rfl) rfl ?_
        refine v0 (sA rfl [] rfl) rfl ?_
        refine ve ?_
        refine W2 [2, 3] [101] [] (l := [(2, .c (.ptr _ _ _ _)), (3, .c (.bool false))]) (h := [(101, ⟨0, 10, [[.int _ _, .int _ _, .int _ _, .int _ _, .int _ _, .int _ _, .int _ _, .int _ _, .int _ _, .row _ _ _]]⟩)]) (h' := []) trivial rfl rfl rfl ?_
        obtain rfl := Option.some.inj h
        refine W.weak (wk_cold 101 rfl) ?_
        exact W_ret (r0 rfl rfl)
      | false =>
        replace h := brF hb21 h
        refine g0 (sM rfl [] rfl) rfl ?_
        refine q0 (sLd rfl rfl) rfl rfl rfl ?_
        refine bndc h ?_; clear h; intro r22 hr22 h
        refine qB (sCm (w_spec_OpOk K (T_impl_Op.mk (gt v1 0) (T_impl_Handle.mk (gt v1 1) (gt v1 2)) (T_impl_Ref.mk (T_impl_Handle.mk (gt v1 3) (gt v1 4)) (gt v1 5) (gt v1 6)) (gt v1 7) (gt v1 8) (([] : List Int) ++ ((a0.drop v2.toNat).take ((a0.length : Int) - v2).toNat))) _ hr22) ok_spec_OpOk rfl rfl rfl rfl) rfl rfl rfl rfl fun b23 hb23 => ?_
        cases b23 with
        | true =>
          replace h := brT hb23 h
          refine q0 (sNt rfl rfl) rfl rfl rfl ?_
          refine g0 (sPk rfl [] rfl rfl) rfl ?_
          refine ge ⟨rfl, ?_⟩
          refine W2 [2, 10, 79] [101, 102] [] (l := [(2, .c (.ptr _ _ _ _)), (10, .c (.ptr _ _ _ _)), (79, .c (.bool false))]) (h := [(101, ⟨0, 10, [[.int _ _, .int _ _, .int _ _, .int _ _, .int _ _, .int _ _, .int _ _, .int _ _, .int _ _, .row _ _ _]]⟩), (102, ⟨0, 10, [[.int _ _, .int _ _, .int _ _, .int _ _, .int _ _, .int _ _, .int _ _, .int _ _, .int _ _, .row _ _ _]]⟩)]) (h' := []) trivial rfl rfl rfl ?_
          refine W_false rfl ?_
          refine W_skip ?_
          refine W_seq ?_
          refine W_regV he rfl ?_
          refine v0 (sLd rfl rfl) rfl ?_
          refine v0 (sSt rfl rfl [] rfl rfl) rfl ?_
          refine v0 (sA rfl [] rfl) rfl ?_
          refine ve ?_
          refine W2 [2, 3] [101] [] (l := [(2, .c (.ptr _ _ _ _)), (3, .c (.bool true))]) (h := [(101, ⟨0, 10, [[.int _ _, .int _ _, .int _ _, .int _ _, .int _ _, .int _ _, .int _ _, .int _ _, .int _ _, .row _ _ _]]⟩)]) (h' := []) trivial rfl rfl rfl ?_
          obtain rfl := Option.some.inj h
          exact W_ret (r0 rfl rfl)
        | false =>
          replace h := brF hb23 h
          refine q0 (sNt rfl rfl) rfl rfl rfl ?_
          refine g0 (sPk rfl [] rfl rfl) rfl ?_
          refine ge ⟨rfl, ?_⟩
          refine W2 [2, 10, 79] [101, 102] [] (l := [(2, .c (.ptr _ _ _ _)), (10, .c (.ptr _ _ _ _)), (79, .c (.bool true))]) (h := [(101, ⟨0, 10, [[.int _ _, .int _ _, .int _ _, .int _ _, .int _ _, .int _ _, .int _ _, .int _ _, .int _ _, .row _ _ _]]⟩), (102, ⟨0, 10, [[.int _ _, .int _ _, .int _ _, .int _ _, .int _ _, .int _ _, .int _ _, .int _ _, .int _ _, .row _ _ _]]⟩)]) (h' := []) trivial rfl rfl rfl ?_
          refine W_true rfl ?_
          refine W_seq ?_
          refine W_regV he rfl ?_
          refine v0 (sBd rfl [] (out := [.int .i64 0, .int .i64 0, .int .i64 0, .int .i64 0, .int .i64 0, .int .i64 0, .int .i64 0, .int .i64 0, .int .i64 0, .row true 1 []]) rfl (by kernel_rfl)) rfl ?_
          refine v0 (sSt rfl rfl [] rfl rfl) rfl ?_
          refine v0 (sA rfl [] rfl) rfl ?_
          refine ve ?_
          refine W2 [2, 3] [101] [] (l := [(2, .c (.ptr _ _ _ _)), (3, .c (.bool false))]) (h := [(101, ⟨0, 10, [[.int _ _, .int _ _, .int _ _, .int _ _, .int _ _, .int _ _, .int _ _, .int _ _, .int _ _, .row _ _ _]]⟩)]) (h' := []) trivial rfl rfl rfl ?_
          obtain rfl := Option.some.inj h
          refine W.weak (wk_cold 101 rfl) ?_
          exact W_ret (r0 rfl rfl)
theorem ok_spec_GetOp : FnOk Try.prog 49 := ⟨_, Try.func49, rfl, rfl⟩


/-! ### loop.example/g00499/spec.DrawOpName -/
def m_spec_DrawOpName (K : Nat) (a0 : List Int) : Option (Int) := ((m_spec_l1New K a0).bind fun r1 => ((m_spec_l1BelowW K r1 12).bind fun r2 => some (iSub .i64 r2.1 1)))
set_option maxRecDepth 20000 in
set_option maxHeartbeats 8000000 in
theorem w_spec_DrawOpName (K : Nat) (a0 : List Int) (r : Int) (h : m_spec_DrawOpName K a0 = some r) : Sp Try.prog 54 [.c (.row false 1 (a0.map en_u8))] [] (.c (.int .i64 r)) [] := by
  refine Sp.of_W tabOk Try.func54 rfl rfl (Nat.le_of_ble_eq_true rfl) (Nat.le_of_ble_eq_true rfl) fun F hP hN hm => ?_
  obtain ⟨P, N, w0, σ0, β0, m⟩ := F
  obtain rfl : P = Try.prog := hP
  obtain rfl : N = 9 := hN
  obtain rfl : m = 1 := hm
  have he : Env ⟨Try.prog, 9, w0, σ0, β0, 1⟩ tab := ⟨Nat.le_of_ble_eq_true rfl, tabOk⟩
  unfold m_spec_DrawOpName at h
  refine W_seq ?_
  refine W_regV he rfl ?_
  refine v0 (sA rfl [] rfl) rfl ?_
  refine ve ?_
  refine W2 [0] [] [] (l := [(0, .c (.row _ _ _))]) (h := []) (h' := []) trivial rfl rfl rfl ?_
  refine W_seq ?_
  refine W_regV he rfl ?_
  refine v0 (sM rfl [] rfl) rfl ?_
  refine bndc h ?_; clear h; intro r1 hr1 h
  refine v0 (sCoC (l := [r1]) (wo_spec_l1New K a0 _ hr1) ok_spec_l1New enOk_spec_l1Cur 1003 rfl rfl rfl rfl rfl) rfl ?_
  refine v0 (sA rfl [] rfl) rfl ?_
  refine ve ?_
  refine W2 [3] [1003] [] (l := [(3, .c (.ptr _ _ _ _))]) (h := [(1003, ⟨0, 3, [[.row _ _ _, .int _ _, .int _ _]]⟩)]) (h' := []) trivial rfl rfl rfl ?_
  refine W_seq ?_
  refine W_regV he rfl ?_
  refine v0 (sM rfl [] rfl) rfl ?_
  refine bndc h ?_; clear h; intro r2 hr2 h
  refine v0 (sCw (l := [r1]) (l' := [r2.2]) (w_spec_l1BelowW K r1 12 _ hr2) ok_spec_l1Below enOk_spec_l1Cur rfl 1003 rfl rfl rfl rfl rfl rfl) rfl ?_
  refine v0 (sBi rfl rfl rfl rfl) rfl ?_
  refine v0 (sA rfl [] rfl) rfl ?_
  refine ve ?_
  refine W2 [2] [] [] (l := [(2, .c (.int _ _))]) (h := []) (h' := []) trivial rfl rfl rfl ?_
  obtain rfl := Option.some.inj h
  exact W_ret (r0 rfl rfl)
theorem ok_spec_DrawOpName : FnOk Try.prog 54 := ⟨_, Try.func54, rfl, rfl⟩


/-! ### loop.example/g00499/laws.same -/
def l_laws_same_3 (K : Nat) (a0 : List Int) (a1 : List Int) : Nat → Int → Option (Bool)
  | 0, _ => none
  | n3 + 1, v2 => (bif (decide (v2 < (a0.length : Int))) then (if (0 : Int) ≤ v2 ∧ v2 < (a0.length : Int) then (if (0 : Int) ≤ v2 ∧ v2 < (a1.length : Int) then (bif ((gt a0 v2) != (gt a1 v2)) then some false else (l_laws_same_3 K a0 a1 n3 (iAdd .i64 v2 1))) else none) else none) else some true)
def m_laws_same (K : Nat) (a0 : List Int) (a1 : List Int) : Option (Bool) := (bif ((a0.length : Int) != (a1.length : Int)) then some false else (l_laws_same_3 K a0 a1 K 0))
set_option maxRecDepth 20000 in
set_option maxHeartbeats 8000000 in
theorem w_laws_same (K : Nat) (a0 : List Int) (a1 : List Int) (r : Bool) (h : m_laws_same K a0 a1 = some r) : Sp Try.prog 45 [.c (.row false 1 (a0.map en_u8)), .c (.row false 1 (a1.map en_u8))] [] (.c (.bool r)) [] := by
  refine Sp.of_W tabOk Try.func45 rfl rfl (Nat.le_of_ble_eq_true rfl) (Nat.le_of_ble_eq_true rfl) fun F hP hN hm => ?_
  obtain ⟨P, N, w0, σ0, β0, m⟩ := F
  obtain rfl : P = Try.prog := hP
  obtain rfl : N = 26 := hN
  obtain rfl : m = 1 := hm
  have he : Env ⟨Try.prog, 26, w0, σ0, β0, 1⟩ tab := ⟨Nat.le_of_ble_eq_true rfl, tabOk⟩
  unfold m_laws_same at h
  refine W_seq ?_
  refine W_regV he rfl ?_
  refine v0 (sA rfl [] rfl) rfl ?_
  refine ve ?_
  refine W2 [0, 1] [] [] (l := [(0, .c (.row _ _ _)), (1, .c (.row _ _ _))]) (h := []) (h' := []) trivial rfl rfl rfl ?_
  refine W_seq ?_
  refine W_seq ?_
  refine W_regV he rfl ?_
  refine v0 (sM rfl [] rfl) rfl ?_
  refine v0 (sLm rfl rfl rfl rfl) rfl ?_
  refine v0 (sM rfl [] rfl) rfl ?_
  refine v0 (sLm rfl rfl rfl rfl) rfl ?_
  refine vB (sBi rfl rfl rfl rfl) rfl rfl fun b1 hb1 => ?_
  cases b1 with
  | true =>
    replace h := brT hb1 h
    refine ve ?_
    refine W2 [0, 1, 10] [] [] (l := [(0, .c (.row _ _ _)), (1, .c (.row _ _ _)), (10, .c (.bool true))]) (h := []) (h' := []) trivial rfl rfl rfl ?_
    refine W_true rfl ?_
    refine W_seq ?_
    refine W_regV he rfl ?_
    refine v0 (sA rfl [] rfl) rfl ?_
    refine ve ?_
    refine W2 [4] [] [] (l := [(4, .c (.bool false))]) (h := []) (h' := []) trivial rfl rfl rfl ?_
    obtain rfl := Option.some.inj h
    exact W_ret (r0 rfl rfl)
  | false =>
    replace h := brF hb1 h
    refine ve ?_
    refine W2 [0, 1, 10] [] [] (l := [(0, .c (.row _ _ _)), (1, .c (.row _ _ _)), (10, .c (.bool false))]) (h := []) (h' := []) trivial rfl rfl rfl ?_
    refine W_false rfl ?_
    refine W_skip ?_
    refine W_seq ?_
    refine W_seq ?_
    refine W_regV he rfl ?_
    refine v0 (sA rfl [] rfl) rfl ?_
    refine ve ?_
    refine W2 [0, 1, 5] [] [] (l := [(0, .c (.row _ _ _)), (1, .c (.row _ _ _)), (5, .c (.int _ _))]) (h := []) (h' := []) trivial rfl rfl rfl ?_
    refine W_block ?_
    refine W2 [0, 1, 5] [] [] (l := [(0, .c (.row _ _ _)), (1, .c (.row _ _ _)), (5, .c (.int _ _))]) (h := []) (h' := []) trivial rfl rfl rfl ?_
    refine W_loopW (fun n3 S => ∃ (v2 : Int), S = StL [(0, .c (.row false 1 (a0.map en_u8))), (1, .c (.row false 1 (a1.map en_u8))), (5, .c (.int .i64 v2))] ([] ++ []) ∧ l_laws_same_3 K a0 a1 n3 v2 = some r) K ⟨_, rfl, h⟩ ?_
    rintro n3 S ⟨v2, rfl, h⟩
    cases n3 with
    | zero => simp [l_laws_same_3] at h
    | succ n3 =>
      rw [l_laws_same_3] at h
      refine W_seq ?_
      refine W_seq ?_
      refine W_regV he rfl ?_
      refine v0 (sM rfl [] rfl) rfl ?_
      refine v0 (sM rfl [] rfl) rfl ?_
      refine v0 (sLm rfl rfl rfl rfl) rfl ?_
      refine vB (sBi rfl rfl rfl rfl) rfl rfl fun b4 hb4 => ?_
      cases b4 with
      | true =>
        replace h := brT hb4 h
        refine ve ?_
        refine W2 [0, 1, 5, 14] [] [] (l := [(0, .c (.row _ _ _)), (1, .c (.row _ _ _)), (5, .c (.int _ _)), (14, .c (.bool true))]) (h := []) (h' := []) trivial rfl rfl rfl ?_
        refine W_true rfl ?_
        refine W_skip ?_
        refine W_seq ?_
        refine W_block ?_
        refine W_seq ?_
        refine W_regD he rfl rfl rfl ?_
        refine g0 (sM rfl [] rfl) rfl ?_
        refine g0 (sM rfl [] rfl) rfl ?_
        refine chkc h ?_; clear h; intro c5 h
        refine g0 (sIRm rfl rfl rfl rfl c5) rfl ?_
        refine g0 (sLI rfl rfl (en_u8 (gt a0 v2)) (gt_at _ c5) rfl rfl rfl) rfl ?_
        refine g0 (sM rfl [] rfl) rfl ?_
        refine g0 (sM rfl [] rfl) rfl ?_
        refine chkc h ?_; clear h; intro c6 h
        refine g0 (sIRm rfl rfl rfl rfl c6) rfl ?_
        refine g0 (sLI rfl rfl (en_u8 (gt a1 v2)) (gt_at _ c6) rfl rfl rfl) rfl ?_
        refine gB (sBi rfl rfl rfl rfl) rfl rfl fun b7 hb7 => ?_
        cases b7 with
        | true =>
          replace h := brT hb7 h
          refine ge ⟨rfl, ?_⟩
          refine W2 [0, 1, 5, 25] [] [] (l := [(0, .c (.row _ _ _)), (1, .c (.row _ _ _)), (5, .c (.int _ _)), (25, .c (.bool true))]) (h := []) (h' := []) trivial rfl rfl rfl ?_
          refine W_true rfl ?_
          refine W_seq ?_
          refine W_regV he rfl ?_
          refine v0 (sA rfl [] rfl) rfl ?_
          refine ve ?_
          refine W2 [4] [] [] (l := [(4, .c (.bool false))]) (h := []) (h' := []) trivial rfl rfl rfl ?_
          obtain rfl := Option.some.inj h
          exact W_ret (r0 rfl rfl)
        | false =>
          replace h := brF hb7 h
          refine ge ⟨rfl, ?_⟩
          refine W2 [0, 1, 5, 25] [] [] (l := [(0, .c (.row _ _ _)), (1, .c (.row _ _ _)), (5, .c (.int _ _)), (25, .c (.bool false))]) (h := []) (h' := []) trivial rfl rfl rfl ?_
          refine W_false rfl ?_
          refine W_skip ?_
          refine W_regV he rfl ?_
          refine v0 (sM rfl [] rfl) rfl ?_
          refine v0 (sBi rfl rfl rfl rfl) rfl ?_
          refine v0 (sA rfl [] rfl) rfl ?_
          refine ve ?_
          exact ⟨n3, _, Nat.lt_succ_self n3, wk2 [0, 1, 5] [] [] (l := [(0, .c (.row _ _ _)), (1, .c (.row _ _ _)), (5, .c (.int _ _))]) (h := []) (h' := []) trivial rfl rfl rfl, _, rfl, h⟩
      | false =>
        replace h := brF hb4 h
        refine ve ?_
        refine W2 [0, 1, 5, 14] [] [] (l := [(0, .c (.row _ _ _)), (1, .c (.row _ _ _)), (5, .c (.int _ _)), (14, .c (.bool false))]) (h := []) (h' := []) trivial rfl rfl rfl ?_
        refine W_false rfl ?_
        refine W_exit (ex_then (ex_then (ex_hit ?_)))
        refine W_seq ?_
        refine W_regV he rfl ?_
        refine v0 (sA rfl [] rfl) rfl ?_
        refine ve ?_
        refine W2 [4] [] [] (l := [(4, .c (.bool true))]) (h := []) (h' := []) trivial rfl rfl rfl ?_
        obtain rfl := Option.some.inj h
        exact W_ret (r0 rfl rfl)
theorem ok_laws_same : FnOk Try.prog 45 := ⟨_, Try.func45, rfl, rfl⟩


/-! ### loop.example/g00499/laws.sameOp -/
def m_laws_sameOp (K : Nat) (a0 : T_impl_Op) (a1 : T_impl_Op) : Option (Bool) := (bif (a0.fKind == a1.fKind) then (bif ((a0.fH.fSlot == a1.fH.fSlot) && ((a0.fH.fGen == a1.fH.fGen) && true)) then (bif (((a0.fR.fH.fSlot == a1.fR.fH.fSlot) && ((a0.fR.fH.fGen == a1.fR.fH.fGen) && true)) && ((a0.fR.fEp == a1.fR.fEp) && ((a0.fR.fNo == a1.fR.fNo) && true))) then (bif (a0.fN == a1.fN) then (bif (a0.fM == a1.fM) then ((m_laws_same K a0.fB a1.fB).bind fun r6 => some r6) else some false) else some false) else some false) else some false) else some false)
set_option maxRecDepth 20000 in
set_option maxHeartbeats 8000000 in
theorem w_laws_sameOp (K : Nat) (a0 : T_impl_Op) (a1 : T_impl_Op) (r : Bool) (h : m_laws_sameOp K a0 a1 = some r) : Sp Try.prog 55 [.g [.int .i64 a0.fKind, .int .i64 a0.fH.fSlot, .int .i64 a0.fH.fGen, .int .i64 a0.fR.fH.fSlot, .int .i64 a0.fR.fH.fGen, .int .i64 a0.fR.fEp, .int .i64 a0.fR.fNo, .int .i64 a0.fN, .int .i64 a0.fM, .row false 1 (a0.fB.map en_u8)], .g [.int .i64 a1.fKind, .int .i64 a1.fH.fSlot, .int .i64 a1.fH.fGen, .int .i64 a1.fR.fH.fSlot, .int .i64 a1.fR.fH.fGen, .int .i64 a1.fR.fEp, .int .i64 a1.fR.fNo, .int .i64 a1.fN, .int .i64 a1.fM, .row false 1 (a1.fB.map en_u8)]] [] (.c (.bool r)) [] := by
  refine Sp.of_W tabOk Try.func55 rfl rfl (Nat.le_of_ble_eq_true rfl) (Nat.le_of_ble_eq_true rfl) fun F hP hN hm => ?_
  obtain ⟨P, N, w0, σ0, β0, m⟩ := F
  obtain rfl : P = Try.prog := hP
  obtain rfl : N = 45 := hN
  obtain rfl : m = 1 := hm
  have he : Env ⟨Try.prog, 45, w0, σ0, β0, 1⟩ tab := ⟨Nat.le_of_ble_eq_true rfl, tabOk⟩
  unfold m_laws_sameOp at h
  refine W_seq ?_
  refine W_regV he rfl ?_
  refine v0 (sBx rfl [] rfl rfl 101 rfl) rfl ?_
  refine v0 (sBx rfl [] rfl rfl 102 rfl) rfl ?_
  refine v0 (sA rfl [] rfl) rfl ?_
  refine ve ?_
  refine W2 [2, 3] [101, 102] [] (l := [(2, .c (.ptr _ _ _ _)), (3, .c (.ptr _ _ _ _))]) (h := [(101, ⟨0, 10, [[.int _ _, .int _ _, .int _ _, .int _ _, .int _ _, .int _ _, .int _ _, .int _ _, .int _ _, .row _ _ _]]⟩), (102, ⟨0, 10, [[.int _ _, .int _ _, .int _ _, .int _ _, .int _ _, .int _ _, .int _ _, .int _ _, .int _ _, .row _ _ _]]⟩)]) (h' := []) trivial rfl rfl rfl ?_
  refine W_seq ?_
  refine W_regV he rfl ?_
  refine v0 (sFP rfl rfl rfl) rfl ?_
  refine v0 (sLd rfl rfl) rfl ?_
  refine v0 (sFP rfl rfl rfl) rfl ?_
  refine v0 (sLd rfl rfl) rfl ?_
  refine vB (sBi rfl rfl rfl rfl) rfl rfl fun b1 hb1 => ?_
  cases b1 with
  | true =>
    replace h := brT hb1 h
    refine v0 (sM rfl [] rfl) rfl ?_
    refine u0 (sFP rfl rfl rfl) rfl rfl rfl ?_
    refine u0 (sLd rfl rfl) rfl rfl rfl ?_
    refine u0 (sFP rfl rfl rfl) rfl rfl rfl ?_
    refine u0 (sLd rfl rfl) rfl rfl rfl ?_
    refine uB (sEs rfl (.inl rfl) rfl rfl rfl rfl (by kernel_rfl) (by kernel_rfl) rfl rfl rfl) rfl rfl rfl rfl fun b2 hb2 => ?_
    cases b2 with
    | true =>
      replace h := brT hb2 h
      refine v0 (sPk rfl [] rfl rfl) rfl ?_
      refine v0 (sM rfl [] rfl) rfl ?_
      refine u0 (sFP rfl rfl rfl) rfl rfl rfl ?_
      refine u0 (sLd rfl rfl) rfl rfl rfl ?_
      refine u0 (sFP rfl rfl rfl) rfl rfl rfl ?_
      refine u0 (sLd rfl rfl) rfl rfl rfl ?_
      refine uB (sEs rfl (.inl rfl) rfl rfl rfl rfl (by kernel_rfl) (by kernel_rfl) rfl rfl rfl) rfl rfl rfl rfl fun b3 hb3 => ?_
      cases b3 with
      | true =>
        replace h := brT hb3 h
        refine v0 (sPk rfl [] rfl rfl) rfl ?_
        refine v0 (sM rfl [] rfl) rfl ?_
        refine u0 (sFP rfl rfl rfl) rfl rfl rfl ?_
        refine u0 (sLd rfl rfl) rfl rfl rfl ?_
        refine u0 (sFP rfl rfl rfl) rfl rfl rfl ?_
        refine u0 (sLd rfl rfl) rfl rfl rfl ?_
        refine uB (sBi rfl rfl rfl rfl) rfl rfl rfl rfl fun b4 hb4 => ?_
        cases b4 with
        | true =>
          replace h := brT hb4 h
          refine v0 (sPk rfl [] rfl rfl) rfl ?_
          refine v0 (sM rfl [] rfl) rfl ?_
          refine u0 (sFP rfl rfl rfl) rfl rfl rfl ?_
          refine u0 (sLd rfl rfl) rfl rfl rfl ?_
          refine u0 (sFP rfl rfl rfl) rfl rfl rfl ?_
          refine u0 (sLd rfl rfl) rfl rfl rfl ?_
          refine uB (sBi rfl rfl rfl rfl) rfl rfl rfl rfl fun b5 hb5 => ?_
          cases b5 with
          | true =>
            replace h := brT hb5 h
            refine v0 (sPk rfl [] rfl rfl) rfl ?_
            refine v0 (sM rfl [] rfl) rfl ?_
            refine u0 (sFP rfl rfl rfl) rfl rfl rfl ?_
            refine u0 (sLd rfl rfl) rfl rfl rfl ?_
            refine u0 (sFP rfl rfl rfl) rfl rfl rfl ?_
            refine u0 (sLd rfl rfl) rfl rfl rfl ?_
            refine bndc h ?_; clear h; intro r6 hr6 h
            refine u0 (sCm (w_laws_same K a0.fB a1.fB _ hr6) ok_laws_same rfl rfl rfl rfl) rfl rfl rfl ?_
            refine v0 (sPk rfl [] rfl rfl) rfl ?_
            refine v0 (sA rfl [] rfl) rfl ?_
            refine ve ?_
            refine W2 [4] [] [] (l := [(4, .c (.bool _))]) (h := []) (h' := []) trivial rfl rfl rfl ?_
            obtain rfl := Option.some.inj h
            exact W_ret (r0 rfl rfl)
          | false =>
            replace h := brF hb5 h
            refine v0 (sPk rfl [] rfl rfl) rfl ?_
            refine v0 (sM rfl [] rfl) rfl ?_
            refine uP rfl rfl rfl rfl ?_
            refine uP rfl rfl rfl rfl ?_
            refine uP rfl rfl rfl rfl ?_
            refine uP rfl rfl rfl rfl ?_
            refine uP rfl rfl rfl rfl ?_
            refine v0 (sPk rfl [] rfl rfl) rfl ?_
            refine v0 (sA rfl [] rfl) rfl ?_
            refine ve ?_
            refine W2 [4] [] [] (l := [(4, .c (.bool false))]) (h := []) (h' := []) trivial rfl rfl rfl ?_
            obtain rfl := Option.some.inj h
            exact W_ret (r0 rfl rfl)
        | false =>
          replace h := brF hb4 h
          refine v0 (sPk rfl [] rfl rfl) rfl ?_
          refine v0 (sM rfl [] rfl) rfl ?_
          refine uP rfl rfl rfl rfl ?_
          refine uP rfl rfl rfl rfl ?_
          refine uP rfl rfl rfl rfl ?_
          refine uP rfl rfl rfl rfl ?_
          refine uP rfl rfl rfl rfl ?_
          refine v0 (sPk rfl [] rfl rfl) rfl ?_
          refine v0 (sM rfl [] rfl) rfl ?_
          refine uP rfl rfl rfl rfl ?_
          refine uP rfl rfl rfl rfl ?_
          refine uP rfl rfl rfl rfl ?_
          refine uP rfl rfl rfl rfl ?_
          refine uP rfl rfl rfl rfl ?_
          refine v0 (sPk rfl [] rfl rfl) rfl ?_
          refine v0 (sA rfl [] rfl) rfl ?_
          refine ve ?_
          refine W2 [4] [] [] (l := [(4, .c (.bool false))]) (h := []) (h' := []) trivial rfl rfl rfl ?_
          obtain rfl := Option.some.inj h
          exact W_ret (r0 rfl rfl)
      | false =>
        replace h := brF hb3 h
        refine v0 (sPk rfl [] rfl rfl) rfl ?_
        refine v0 (sM rfl [] rfl) rfl ?_
        refine uP rfl rfl rfl rfl ?_
        refine uP rfl rfl rfl rfl ?_
        refine uP rfl rfl rfl rfl ?_
        refine uP rfl rfl rfl rfl ?_
        refine uP rfl rfl rfl rfl ?_
        refine v0 (sPk rfl [] rfl rfl) rfl ?_
        refine v0 (sM rfl [] rfl) rfl ?_
        refine uP rfl rfl rfl rfl ?_
        refine uP rfl rfl rfl rfl ?_
        refine uP rfl rfl rfl rfl ?_
        refine uP rfl rfl rfl rfl ?_
        refine uP rfl rfl rfl rfl ?_
        refine v0 (sPk rfl [] rfl rfl) rfl ?_
        refine v0 (sM rfl [] rfl) rfl ?_
        refine uP rfl rfl rfl rfl ?_
        refine uP rfl rfl rfl rfl ?_
        refine uP rfl rfl rfl rfl ?_
        refine uP rfl rfl rfl rfl ?_
        refine uP rfl rfl rfl rfl ?_
        refine v0 (sPk rfl [] rfl rfl) rfl ?_
        refine v0 (sA rfl [] rfl) rfl ?_
        refine ve ?_
        refine W2 [4] [] [] (l := [(4, .c (.bool false))]) (h := []) (h' := []) trivial rfl rfl rfl ?_
        obtain rfl := Option.some.inj h
        exact W_ret (r0 rfl rfl)
    | false =>
      replace h := brF hb2 h
      refine v0 (sPk rfl [] rfl rfl) rfl ?_
      refine v0 (sM rfl [] rfl) rfl ?_
      refine uP rfl rfl rfl rfl ?_
      refine uP rfl rfl rfl rfl ?_
      refine uP rfl rfl rfl rfl ?_
      refine uP rfl rfl rfl rfl ?_
      refine uP rfl rfl rfl rfl ?_
      refine v0 (sPk rfl [] rfl rfl) rfl ?_
      refine v0 (sM rfl [] rfl) rfl ?_
      refine uP rfl rfl rfl rfl ?_
      refine uP rfl rfl rfl rfl ?_
      refine uP rfl rfl rfl rfl ?_
      refine uP rfl rfl rfl rfl ?_
      refine uP rfl rfl rfl rfl ?_
      refine v0 (sPk rfl [] rfl rfl) rfl ?_
      refine v0 (sM rfl [] rfl) rfl ?_
      refine uP rfl rfl rfl rfl ?_
      refine uP rfl rfl rfl rfl ?_
      refine uP rfl rfl rfl rfl ?_
      refine uP rfl rfl rfl rfl ?_
      refine uP rfl rfl rfl rfl ?_
      refine v0 (sPk rfl [] rfl rfl) rfl ?_
      refine v0 (sM rfl [] rfl) rfl ?_
      refine uP rfl rfl rfl rfl ?_
      refine uP rfl rfl rfl rfl ?_
      refine uP rfl rfl rfl rfl ?_
      refine uP rfl rfl rfl rfl ?_
      refine uP rfl rfl rfl rfl ?_
      refine v0 (sPk rfl [] rfl rfl) rfl ?_
      refine v0 (sA rfl [] rfl) rfl ?_
      refine ve ?_
      refine W2 [4] [] [] (l := [(4, .c (.bool false))]) (h := []) (h' := []) trivial rfl rfl rfl ?_
      obtain rfl := Option.some.inj h
      exact W_ret (r0 rfl rfl)
  | false =>
    replace h := brF hb1 h
    refine v0 (sM rfl [] rfl) rfl ?_
    refine uP rfl rfl rfl rfl ?_
    refine uP rfl rfl rfl rfl ?_
    refine uP rfl rfl rfl rfl ?_
    refine uP rfl rfl rfl rfl ?_
    refine uP rfl rfl rfl rfl ?_
    refine v0 (sPk rfl [] rfl rfl) rfl ?_
    refine v0 (sM rfl [] rfl) rfl ?_
    refine uP rfl rfl rfl rfl ?_
    refine uP rfl rfl rfl rfl ?_
    refine uP rfl rfl rfl rfl ?_
    refine uP rfl rfl rfl rfl ?_
    refine uP rfl rfl rfl rfl ?_
    refine v0 (sPk rfl [] rfl rfl) rfl ?_
    refine v0 (sM rfl [] rfl) rfl ?_
    refine uP rfl rfl rfl rfl ?_
    refine uP rfl rfl rfl rfl ?_
    refine uP rfl rfl rfl rfl ?_
    refine uP rfl rfl rfl rfl ?_
    refine uP rfl rfl rfl rfl ?_
    refine v0 (sPk rfl [] rfl rfl) rfl ?_
    refine v0 (sM rfl [] rfl) rfl ?_
    refine uP rfl rfl rfl rfl ?_
    refine uP rfl rfl rfl rfl ?_
    refine uP rfl rfl rfl rfl ?_
    refine uP rfl rfl rfl rfl ?_
    refine uP rfl rfl rfl rfl ?_
    refine v0 (sPk rfl [] rfl rfl) rfl ?_
    refine v0 (sM rfl [] rfl) rfl ?_
    refine uP rfl rfl rfl rfl ?_
    refine uP rfl rfl rfl rfl ?_
    refine uP rfl rfl rfl rfl ?_
    refine uP rfl rfl rfl rfl ?_
    refine uP rfl rfl rfl rfl ?_
    refine v0 (sPk rfl [] rfl rfl) rfl ?_
    refine v0 (sA rfl [] rfl) rfl ?_
    refine ve ?_
    refine W2 [4] [] [] (l := [(4, .c (.bool false))]) (h := []) (h' := []) trivial rfl rfl rfl ?_
    obtain rfl := Option.some.inj h
    exact W_ret (r0 rfl rfl)
theorem ok_laws_sameOp : FnOk Try.prog 55 := ⟨_, Try.func55, rfl, rfl⟩


/-! ### loop.example/g00499/impl.OpName -/
def m_impl_OpName (K : Nat) (a0 : Int) : Option (ByteArray) := ((m_impl_within K a0 1 9).bind fun r1 => (bif r1 then (if (0 : Int) ≤ (iSub .i64 a0 1) ∧ (iSub .i64 a0 1) < (9 : Int) then some (gt ([(⟨#[109, 97, 107, 101]⟩ : ByteArray), (⟨#[97, 108, 108, 111, 99]⟩ : ByteArray), (⟨#[114, 101, 97, 100]⟩ : ByteArray), (⟨#[119, 114, 105, 116, 101]⟩ : ByteArray), (⟨#[116, 97, 103]⟩ : ByteArray), (⟨#[114, 101, 115, 101, 116]⟩ : ByteArray), (⟨#[100, 101, 115, 116, 114, 111, 121]⟩ : ByteArray), (⟨#[115, 116, 97, 116, 115]⟩ : ByteArray), (⟨#[100, 114, 97, 105, 110]⟩ : ByteArray)] : List ByteArray) (iSub .i64 a0 1)) else none) else some (⟨#[]⟩ : ByteArray)))
set_option maxRecDepth 20000 in
set_option maxHeartbeats 8000000 in
theorem w_impl_OpName (K : Nat) (a0 : Int) (r : ByteArray) (h : m_impl_OpName K a0 = some r) : Sp Try.prog 19 [.c (.int .i64 a0)] [] (.c (.str r)) [] := by
  refine Sp.of_W tabOk Try.func19 rfl rfl (Nat.le_of_ble_eq_true rfl) (Nat.le_of_ble_eq_true rfl) fun F hP hN hm => ?_
  obtain ⟨P, N, w0, σ0, β0, m⟩ := F
  obtain rfl : P = Try.prog := hP
  obtain rfl : N = 10 := hN
  obtain rfl : m = 1 := hm
  have he : Env ⟨Try.prog, 10, w0, σ0, β0, 1⟩ tab := ⟨Nat.le_of_ble_eq_true rfl, tabOk⟩
  unfold m_impl_OpName at h
  refine W_seq ?_
  refine W_regV he rfl ?_
  refine v0 (sA rfl [] rfl) rfl ?_
  refine ve ?_
  refine W2 [0] [] [] (l := [(0, .c (.int _ _))]) (h := []) (h' := []) trivial rfl rfl rfl ?_
  refine W_seq ?_
  refine W_seq ?_
  refine W_regV he rfl ?_
  refine v0 (sM rfl [] rfl) rfl ?_
  refine bndc h ?_; clear h; intro r1 hr1 h
  refine vB (sCm (w_impl_within K a0 1 9 _ hr1) ok_impl_within rfl rfl rfl rfl) rfl rfl fun b2 hb2 => ?_
  cases b2 with
  | true =>
    replace h := brT hb2 h
    refine v0 (sNt rfl rfl) rfl ?_
    refine ve ?_
    refine W2 [0, 5] [] [] (l := [(0, .c (.int _ _)), (5, .c (.bool false))]) (h := []) (h' := []) trivial rfl rfl rfl ?_
    refine W_false rfl ?_
    refine W_skip ?_
    refine W_seq ?_
    refine W_regV he rfl ?_
    refine v0 (sBdA rfl [[], [], [], [], [], [], [], [], []] (out := [.str (⟨#[109, 97, 107, 101]⟩ : ByteArray), .str (⟨#[97, 108, 108, 111, 99]⟩ : ByteArray), .str (⟨#[114, 101, 97, 100]⟩ : ByteArray), .str (⟨#[119, 114, 105, 116, 101]⟩ : ByteArray), .str (⟨#[116, 97, 103]⟩ : ByteArray), .str (⟨#[114, 101, 115, 101, 116]⟩ : ByteArray), .str (⟨#[100, 101, 115, 116, 114, 111, 121]⟩ : ByteArray), .str (⟨#[115, 116, 97, 116, 115]⟩ : ByteArray), .str (⟨#[100, 114, 97, 105, 110]⟩ : ByteArray)]) rfl rfl rfl (by kernel_rfl)) rfl ?_
    refine v0 (sM rfl [] rfl) rfl ?_
    refine v0 (sBi rfl rfl rfl rfl) rfl ?_
    refine chkc h ?_; clear h; intro c3 h
    refine v0 (sIdx rfl (f := V.str) (ls := ([(⟨#[109, 97, 107, 101]⟩ : ByteArray), (⟨#[97, 108, 108, 111, 99]⟩ : ByteArray), (⟨#[114, 101, 97, 100]⟩ : ByteArray), (⟨#[119, 114, 105, 116, 101]⟩ : ByteArray), (⟨#[116, 97, 103]⟩ : ByteArray), (⟨#[114, 101, 115, 101, 116]⟩ : ByteArray), (⟨#[100, 101, 115, 116, 114, 111, 121]⟩ : ByteArray), (⟨#[115, 116, 97, 116, 115]⟩ : ByteArray), (⟨#[100, 114, 97, 105, 110]⟩ : ByteArray)] : List ByteArray)) rfl rfl rfl rfl rfl rfl rfl rfl c3) rfl ?_
    refine v0 (sA rfl [] rfl) rfl ?_
    refine ve ?_
    refine W2 [2] [] [] (l := [(2, .c (.str _))]) (h := []) (h' := []) trivial rfl rfl rfl ?_
    obtain rfl := Option.some.inj h
    exact W_ret (r0 rfl rfl)
  | false =>
    replace h := brF hb2 h
    refine v0 (sNt rfl rfl) rfl ?_
    refine ve ?_
    refine W2 [0, 5] [] [] (l := [(0, .c (.int _ _)), (5, .c (.bool true))]) (h := []) (h' := []) trivial rfl rfl rfl ?_
    refine W_true rfl ?_
    refine W_seq ?_
    refine W_regV he rfl ?_
    refine v0 (sA rfl [] rfl) rfl ?_
    refine ve ?_
    refine W2 [2] [] [] (l := [(2, .c (.str _))]) (h := []) (h' := []) trivial rfl rfl rfl ?_
    obtain rfl := Option.some.inj h
    exact W_ret (r0 rfl rfl)
theorem ok_impl_OpName : FnOk Try.prog 19 := ⟨_, Try.func19, rfl, rfl⟩


/-! ### loop.example/g00499/spec.OpName -/
def m_spec_OpName (K : Nat) (a0 : Int) : Option (ByteArray) := ((m_spec_l1In K a0 0 (iSub .i64 (([(⟨#[]⟩ : ByteArray), (⟨#[109, 97, 107, 101]⟩ : ByteArray), (⟨#[97, 108, 108, 111, 99]⟩ : ByteArray), (⟨#[114, 101, 97, 100]⟩ : ByteArray), (⟨#[119, 114, 105, 116, 101]⟩ : ByteArray), (⟨#[116, 97, 103]⟩ : ByteArray), (⟨#[114, 101, 115, 101, 116]⟩ : ByteArray), (⟨#[100, 101, 115, 116, 114, 111, 121]⟩ : ByteArray), (⟨#[115, 116, 97, 116, 115]⟩ : ByteArray), (⟨#[100, 114, 97, 105, 110]⟩ : ByteArray)] : List ByteArray).length : Int) 1)).bind fun r1 => (bif r1 then (if (0 : Int) ≤ a0 ∧ a0 < (([(⟨#[]⟩ : ByteArray), (⟨#[109, 97, 107, 101]⟩ : ByteArray), (⟨#[97, 108, 108, 111, 99]⟩ : ByteArray), (⟨#[114, 101, 97, 100]⟩ : ByteArray), (⟨#[119, 114, 105, 116, 101]⟩ : ByteArray), (⟨#[116, 97, 103]⟩ : ByteArray), (⟨#[114, 101, 115, 101, 116]⟩ : ByteArray), (⟨#[100, 101, 115, 116, 114, 111, 121]⟩ : ByteArray), (⟨#[115, 116, 97, 116, 115]⟩ : ByteArray), (⟨#[100, 114, 97, 105, 110]⟩ : ByteArray)] : List ByteArray).length : Int) then some (gt ([(⟨#[]⟩ : ByteArray), (⟨#[109, 97, 107, 101]⟩ : ByteArray), (⟨#[97, 108, 108, 111, 99]⟩ : ByteArray), (⟨#[114, 101, 97, 100]⟩ : ByteArray), (⟨#[119, 114, 105, 116, 101]⟩ : ByteArray), (⟨#[116, 97, 103]⟩ : ByteArray), (⟨#[114, 101, 115, 101, 116]⟩ : ByteArray), (⟨#[100, 101, 115, 116, 114, 111, 121]⟩ : ByteArray), (⟨#[115, 116, 97, 116, 115]⟩ : ByteArray), (⟨#[100, 114, 97, 105, 110]⟩ : ByteArray)] : List ByteArray) a0) else none) else some (⟨#[]⟩ : ByteArray)))
set_option maxRecDepth 20000 in
set_option maxHeartbeats 8000000 in
theorem w_spec_OpName (K : Nat) (a0 : Int) (r : ByteArray) (h : m_spec_OpName K a0 = some r) : Sp Try.prog 18 [.c (.int .i64 a0)] [] (.c (.str r)) [] := by
  refine Sp.of_W tabOk Try.func18 rfl rfl (Nat.le_of_ble_eq_true rfl) (Nat.le_of_ble_eq_true rfl) fun F hP hN hm => ?_
  obtain ⟨P, N, w0, σ0, β0, m⟩ := F
  obtain rfl : P = Try.prog := hP
  obtain rfl : N = 15 := hN
  obtain rfl : m = 1 := hm
  have he : Env ⟨Try.prog, 15, w0, σ0, β0, 1⟩ tab := ⟨Nat.le_of_ble_eq_true rfl, tabOk⟩
  unfold m_spec_OpName at h
  refine W_seq ?_
  refine W_regV he rfl ?_
  refine v0 (sA rfl [] rfl) rfl ?_
  refine ve ?_
  refine W2 [0] [] [] (l := [(0, .c (.int _ _))]) (h := []) (h' := []) trivial rfl rfl rfl ?_
  refine W_seq ?_
  refine W_regV he rfl ?_
  refine v0 (sBS rfl 1003 (rows := ([(⟨#[]⟩ : ByteArray), (⟨#[109, 97, 107, 101]⟩ : ByteArray), (⟨#[97, 108, 108, 111, 99]⟩ : ByteArray), (⟨#[114, 101, 97, 100]⟩ : ByteArray), (⟨#[119, 114, 105, 116, 101]⟩ : ByteArray), (⟨#[116, 97, 103]⟩ : ByteArray), (⟨#[114, 101, 115, 101, 116]⟩ : ByteArray), (⟨#[100, 101, 115, 116, 114, 111, 121]⟩ : ByteArray), (⟨#[115, 116, 97, 116, 115]⟩ : ByteArray), (⟨#[100, 114, 97, 105, 110]⟩ : ByteArray)] : List ByteArray).map en_string) rfl rfl rfl (by kernel_rfl) rfl rfl rfl rfl) rfl ?_
  refine v0 (sA rfl [] rfl) rfl ?_
  refine ve ?_
  refine W2 [0, 3] [] [1003] (l := [(0, .c (.int _ _)), (3, .c (.own _ _ _ _))]) (h := []) (h' := [(1003, ⟨0, 1, ([(⟨#[]⟩ : ByteArray), (⟨#[109, 97, 107, 101]⟩ : ByteArray), (⟨#[97, 108, 108, 111, 99]⟩ : ByteArray), (⟨#[114, 101, 97, 100]⟩ : ByteArray), (⟨#[119, 114, 105, 116, 101]⟩ : ByteArray), (⟨#[116, 97, 103]⟩ : ByteArray), (⟨#[114, 101, 115, 101, 116]⟩ : ByteArray), (⟨#[100, 101, 115, 116, 114, 111, 121]⟩ : ByteArray), (⟨#[115, 116, 97, 116, 115]⟩ : ByteArray), (⟨#[100, 114, 97, 105, 110]⟩ : ByteArray)] : List ByteArray).map en_string⟩)]) ⟨⟨_, rfl, enOk_string.allClosed _ _ ([(⟨#[]⟩ : ByteArray), (⟨#[109, 97, 107, 101]⟩ : ByteArray), (⟨#[97, 108, 108, 111, 99]⟩ : ByteArray), (⟨#[114, 101, 97, 100]⟩ : ByteArray), (⟨#[119, 114, 105, 116, 101]⟩ : ByteArray), (⟨#[116, 97, 103]⟩ : ByteArray), (⟨#[114, 101, 115, 101, 116]⟩ : ByteArray), (⟨#[100, 101, 115, 116, 114, 111, 121]⟩ : ByteArray), (⟨#[115, 116, 97, 116, 115]⟩ : ByteArray), (⟨#[100, 114, 97, 105, 110]⟩ : ByteArray)] : List ByteArray)⟩, trivial⟩ rfl rfl rfl ?_
  refine W_seq ?_
  refine W_seq ?_
  refine W_regV he rfl ?_
  refine v0 (sM rfl [] rfl) rfl ?_
  refine v0 (sM rfl [] rfl) rfl ?_
  refine v0 (sLo rfl rfl rfl rfl) rfl ?_
  refine v0 (sBi rfl rfl rfl rfl) rfl ?_
  refine bndc h ?_; clear h; intro r1 hr1 h
  refine vB (sCm (w_spec_l1In K a0 0 (iSub .i64 (([(⟨#[]⟩ : ByteArray), (⟨#[109, 97, 107, 101]⟩ : ByteArray), (⟨#[97, 108, 108, 111, 99]⟩ : ByteArray), (⟨#[114, 101, 97, 100]⟩ : ByteArray), (⟨#[119, 114, 105, 116, 101]⟩ : ByteArray), (⟨#[116, 97, 103]⟩ : ByteArray), (⟨#[114, 101, 115, 101, 116]⟩ : ByteArray), (⟨#[100, 101, 115, 116, 114, 111, 121]⟩ : ByteArray), (⟨#[115, 116, 97, 116, 115]⟩ : ByteArray), (⟨#[100, 114, 97, 105, 110]⟩ : ByteArray)] : List ByteArray).length : Int) 1) _ hr1) ok_spec_l1In rfl rfl rfl rfl) rfl rfl fun b2 hb2 => ?_
  cases b2 with
  | true =>
    replace h := brT hb2 h
    refine v0 (sNt rfl rfl) rfl ?_
    refine ve ?_
    refine W2 [0, 3, 10] [] [1003] (l := [(0, .c (.int _ _)), (3, .c (.own _ _ _ _)), (10, .c (.bool false))]) (h := []) (h' := [(1003, ⟨0, 1, ([(⟨#[]⟩ : ByteArray), (⟨#[109, 97, 107, 101]⟩ : ByteArray), (⟨#[97, 108, 108, 111, 99]⟩ : ByteArray), (⟨#[114, 101, 97, 100]⟩ : ByteArray), (⟨#[119, 114, 105, 116, 101]⟩ : ByteArray), (⟨#[116, 97, 103]⟩ : ByteArray), (⟨#[114, 101, 115, 101, 116]⟩ : ByteArray), (⟨#[100, 101, 115, 116, 114, 111, 121]⟩ : ByteArray), (⟨#[115, 116, 97, 116, 115]⟩ : ByteArray), (⟨#[100, 114, 97, 105, 110]⟩ : ByteArray)] : List ByteArray).map en_string⟩)]) ⟨⟨_, rfl, enOk_string.allClosed _ _ ([(⟨#[]⟩ : ByteArray), (⟨#[109, 97, 107, 101]⟩ : ByteArray), (⟨#[97, 108, 108, 111, 99]⟩ : ByteArray), (⟨#[114, 101, 97, 100]⟩ : ByteArray), (⟨#[119, 114, 105, 116, 101]⟩ : ByteArray), (⟨#[116, 97, 103]⟩ : ByteArray), (⟨#[114, 101, 115, 101, 116]⟩ : ByteArray), (⟨#[100, 101, 115, 116, 114, 111, 121]⟩ : ByteArray), (⟨#[115, 116, 97, 116, 115]⟩ : ByteArray), (⟨#[100, 114, 97, 105, 110]⟩ : ByteArray)] : List ByteArray)⟩, trivial⟩ rfl rfl rfl ?_
    refine W_false rfl ?_
    refine W_skip ?_
    refine W_seq ?_
    refine W_regV he rfl ?_
    refine v0 (sM rfl [] rfl) rfl ?_
    refine v0 (sM rfl [] rfl) rfl ?_
    refine chkc h ?_; clear h; intro c3 h
    refine v0 (sIOm rfl rfl rfl c3) rfl ?_
    refine v0 (sLkm rfl ([(⟨#[]⟩ : ByteArray), (⟨#[109, 97, 107, 101]⟩ : ByteArray), (⟨#[97, 108, 108, 111, 99]⟩ : ByteArray), (⟨#[114, 101, 97, 100]⟩ : ByteArray), (⟨#[119, 114, 105, 116, 101]⟩ : ByteArray), (⟨#[116, 97, 103]⟩ : ByteArray), (⟨#[114, 101, 115, 101, 116]⟩ : ByteArray), (⟨#[100, 101, 115, 116, 114, 111, 121]⟩ : ByteArray), (⟨#[115, 116, 97, 116, 115]⟩ : ByteArray), (⟨#[100, 114, 97, 105, 110]⟩ : ByteArray)] : List ByteArray) c3 rfl rfl rfl rfl rfl rfl) rfl ?_
    refine v0 (sA rfl [] rfl) rfl ?_
    refine ve ?_
    refine W2 [2] [] [] (l := [(2, .c (.str _))]) (h := []) (h' := []) trivial rfl rfl rfl ?_
    obtain rfl := Option.some.inj h
    exact W_ret (r0 rfl rfl)
  | false =>
    replace h := brF hb2 h
    refine v0 (sNt rfl rfl) rfl ?_
    refine ve ?_
    refine W2 [0, 3, 10] [] [1003] (l := [(0, .c (.int _ _)), (3, .c (.own _ _ _ _)), (10, .c (.bool true))]) (h := []) (h' := [(1003, ⟨0, 1, ([(⟨#[]⟩ : ByteArray), (⟨#[109, 97, 107, 101]⟩ : ByteArray), (⟨#[97, 108, 108, 111, 99]⟩ : ByteArray), (⟨#[114, 101, 97, 100]⟩ : ByteArray), (⟨#[119, 114, 105, 116, 101]⟩ : ByteArray), (⟨#[116, 97, 103]⟩ : ByteArray), (⟨#[114, 101, 115, 101, 116]⟩ : ByteArray), (⟨#[100, 101, 115, 116, 114, 111, 121]⟩ : ByteArray), (⟨#[115, 116, 97, 116, 115]⟩ : ByteArray), (⟨#[100, 114, 97, 105, 110]⟩ : ByteArray)] : List ByteArray).map en_string⟩)]) ⟨⟨_, rfl, enOk_string.allClosed _ _ ([(⟨#[]⟩ : ByteArray), (⟨#[109, 97, 107, 101]⟩ : ByteArray), (⟨#[97, 108, 108, 111, 99]⟩ : ByteArray), (⟨#[114, 101, 97, 100]⟩ : ByteArray), (⟨#[119, 114, 105, 116, 101]⟩ : ByteArray), (⟨#[116, 97, 103]⟩ : ByteArray), (⟨#[114, 101, 115, 101, 116]⟩ : ByteArray), (⟨#[100, 101, 115, 116, 114, 111, 121]⟩ : ByteArray), (⟨#[115, 116, 97, 116, 115]⟩ : ByteArray), (⟨#[100, 114, 97, 105, 110]⟩ : ByteArray)] : List ByteArray)⟩, trivial⟩ rfl rfl rfl ?_
    refine W_true rfl ?_
    refine W_seq ?_
    refine W_regV he rfl ?_
    refine v0 (sA rfl [] rfl) rfl ?_
    refine ve ?_
    refine W2 [2] [] [] (l := [(2, .c (.str _))]) (h := []) (h' := []) trivial rfl rfl rfl ?_
    obtain rfl := Option.some.inj h
    exact W_ret (r0 rfl rfl)
theorem ok_spec_OpName : FnOk Try.prog 18 := ⟨_, Try.func18, rfl, rfl⟩


/-! ### loop.example/g00499/laws.FnOps -/
def j_laws_FnOps_21 (K : Nat) (r3 : T_impl_Op) (r4 : (List Int)) : Option (Bool) := ((m_impl_GetOp K r4).bind fun r122 => ((m_impl_OpOk K r3).bind fun r123 => (bif (r122.2 == r123) then (bif r122.2 then ((m_laws_sameOp K r122.1 r3).bind fun r126 => some r126) else some true) else some false)))
def m_laws_FnOps (K : Nat) (a0 : List Int) : Option (Bool) := ((m_laws_big K a0).bind fun r1 => (bif r1 then some true else ((m_spec_DrawPutOp K a0).bind fun r3 => ((m_impl_PutOp K r3).bind fun r4 => ((m_spec_DrawGetOp K a0).bind fun r5 => ((m_impl_GetOp K r5).bind fun r6 => ((m_spec_GetOp K r5).bind fun r7 => ((m_spec_DrawOpName K a0).bind fun r8 => ((m_spec_PutOp K r3).bind fun r9 => ((m_laws_same K r4 r9).bind fun r10 => (bif r10 then ((m_laws_sameOp K r6.1 r7.1).bind fun r12 => (bif r12 then (bif (!(r6.2 == r7.2)) then some false else ((m_impl_OpOk K r3).bind fun r15 => ((m_spec_OpOk K r3).bind fun r16 => (bif (!(r15 == r16)) then some false else ((m_impl_OpName K r8).bind fun r18 => ((m_spec_OpName K r8).bind fun r19 => (bif (!(r18.toList == r19.toList)) then some false else (bif r6.2 then ((m_impl_OpOk K r6.1).bind fun r128 => (bif r128 then ((m_impl_PutOp K r6.1).bind fun r130 => ((m_laws_same K r130 r5).bind fun r131 => (bif r131 then j_laws_FnOps_21 K r3 r4  else some false))) else some false)) else j_laws_FnOps_21 K r3 r4 )))))))) else some false)) else some false)))))))))))
set_option maxRecDepth 20000 in
set_option maxHeartbeats 8000000 in
theorem w_laws_FnOps (K : Nat) (a0 : List Int) (r : Bool) (h : m_laws_FnOps K a0 = some r) : Sp Try.prog 14 [.c (.row false 1 (a0.map en_u8))] [] (.c (.bool r)) [] := by
  refine Sp.of_W tabOk Try.func14 rfl rfl (Nat.le_of_ble_eq_true rfl) (Nat.le_of_ble_eq_true rfl) fun F hP hN hm => ?_
  obtain ⟨P, N, w0, σ0, β0, m⟩ := F
  obtain rfl : P = Try.prog := hP
  obtain rfl : N = 94 := hN
  obtain rfl : m = 1 := hm
  have he : Env ⟨Try.prog, 94, w0, σ0, β0, 1⟩ tab := ⟨Nat.le_of_ble_eq_true rfl, tabOk⟩
  unfold m_laws_FnOps at h
  refine W_seq ?_
  refine W_regV he rfl ?_
  refine v0 (sA rfl [] rfl) rfl ?_
  refine ve ?_
  refine W2 [0] [] [] (l := [(0, .c (.row _ _ _))]) (h := []) (h' := []) trivial rfl rfl rfl ?_
  refine W_seq ?_
  refine W_seq ?_
  refine W_regV he rfl ?_
  refine v0 (sM rfl [] rfl) rfl ?_
  refine bndc h ?_; clear h; intro r1 hr1 h
  refine vB (sCm (w_laws_big K a0 _ hr1) ok_laws_big rfl rfl rfl rfl) rfl rfl fun b2 hb2 => ?_
  cases b2 with
  | true =>
    replace h := brT hb2 h
    refine ve ?_
    refine W2 [0, 14] [] [] (l := [(0, .c (.row _ _ _)), (14, .c (.bool true))]) (h := []) (h' := []) trivial rfl rfl rfl ?_
    refine W_true rfl ?_
    refine W_seq ?_
    refine W_regV he rfl ?_
    refine v0 (sA rfl [] rfl) rfl ?_
    refine ve ?_
    refine W2 [2] [] [] (l := [(2, .c (.bool true))]) (h := []) (h' := []) trivial rfl rfl rfl ?_
    obtain rfl := Option.some.inj h
    exact W_ret (r0 rfl rfl)
  | false =>
    replace h := brF hb2 h
    refine ve ?_
    refine W2 [0, 14] [] [] (l := [(0, .c (.row _ _ _)), (14, .c (.bool false))]) (h := []) (h' := []) trivial rfl rfl rfl ?_
    refine W_false rfl ?_
    refine W_skip ?_
    refine W_seq ?_
    refine W_regV he rfl ?_
    refine v0 (sM rfl [] rfl) rfl ?_
    refine bndc h ?_; clear h; intro r3 hr3 h
    refine v0 (sCo (wo_spec_DrawPutOp K a0 _ hr3) ok_spec_DrawPutOp (fun _ => rfl) [] 1016 rfl rfl rfl rfl rfl) rfl ?_
    refine v0 (sAl rfl rfl 101 rfl) rfl ?_
    refine v0 (sSt rfl rfl [] rfl rfl) rfl ?_
    refine ve ?_
    refine W2 [0, 3] [101] [1016] (l := [(0, .c (.row _ _ _)), (3, .c (.ptr _ _ _ _))]) (h := [(101, ⟨0, 10, [[.int _ _, .int _ _, .int _ _, .int _ _, .int _ _, .int _ _, .int _ _, .int _ _, .int _ _, .own _ _ _ _]]⟩)]) (h' := [(1016, ⟨0, 1, r3.fB.map en_u8⟩)]) ⟨⟨_, rfl, enOk_u8.allClosed _ _ r3.fB⟩, trivial⟩ rfl rfl rfl ?_
    refine W_seq ?_
    refine W_regV he rfl ?_
    refine v0 (sLd rfl rfl) rfl ?_
    refine bndc h ?_; clear h; intro r4 hr4 h
    refine v0 (sCo (wo_impl_PutOp K r3 _ hr4) ok_impl_PutOp (fun _ => rfl) [1016] 1004 rfl rfl rfl (low_cons (low_g (lowc_cons rfl (lowc_cons rfl (lowc_cons rfl (lowc_cons rfl (lowc_cons rfl (lowc_cons rfl (lowc_cons rfl (lowc_cons rfl (lowc_cons rfl (lowc_cons (low_lentV (l := r3.fB) enOk_u8 rfl rfl rfl) (lowc_nil)))))))))))) (low_nil)) rfl) rfl ?_
    refine v0 (sA rfl [] rfl) rfl ?_
    refine ve ?_
    refine W2 [0, 3, 4] [101] [1004, 1016] (l := [(0, .c (.row _ _ _)), (3, .c (.ptr _ _ _ _)), (4, .c (.own _ _ _ _))]) (h := [(101, ⟨0, 10, [[.int _ _, .int _ _, .int _ _, .int _ _, .int _ _, .int _ _, .int _ _, .int _ _, .int _ _, .own _ _ _ _]]⟩)]) (h' := [(1004, ⟨0, 1, r4.map en_u8⟩), (1016, ⟨0, 1, r3.fB.map en_u8⟩)]) ⟨⟨_, rfl, enOk_u8.allClosed _ _ r4⟩, ⟨⟨_, rfl, enOk_u8.allClosed _ _ r3.fB⟩, trivial⟩⟩ rfl rfl rfl ?_
    refine W_seq ?_
    refine W_regV he rfl ?_
    refine v0 (sM rfl [] rfl) rfl ?_
    refine bndc h ?_; clear h; intro r5 hr5 h
    refine v0 (sCm (w_spec_DrawGetOp K a0 _ hr5) ok_spec_DrawGetOp rfl rfl rfl rfl) rfl ?_
    refine v0 (sA rfl [] rfl) rfl ?_
    refine ve ?_
    refine W2 [0, 3, 4, 5] [101] [1004, 1016] (l := [(0, .c (.row _ _ _)), (3, .c (.ptr _ _ _ _)), (4, .c (.own _ _ _ _)), (5, .c (.row _ _ _))]) (h := [(101, ⟨0, 10, [[.int _ _, .int _ _, .int _ _, .int _ _, .int _ _, .int _ _, .int _ _, .int _ _, .int _ _, .own _ _ _ _]]⟩)]) (h' := [(1004, ⟨0, 1, r4.map en_u8⟩), (1016, ⟨0, 1, r3.fB.map en_u8⟩)]) ⟨⟨_, rfl, enOk_u8.allClosed _ _ r4⟩, ⟨⟨_, rfl, enOk_u8.allClosed _ _ r3.fB⟩, trivial⟩⟩ rfl rfl rfl ?_
    refine W_seq ?_
    refine W_regV he rfl ?_
    refine v0 (sM rfl [] rfl) rfl ?_
    refine bndc h ?_; clear h; intro r6 hr6 h
    refine v0 (sCm (w_impl_GetOp K r5 _ hr6) ok_impl_GetOp rfl rfl rfl rfl) rfl ?_
    refine v0 (sM rfl [] rfl) rfl ?_
    refine v0 (sEx rfl rfl rfl) rfl ?_
    refine v0 (sEx rfl rfl rfl) rfl ?_
    refine v0 (sAl rfl rfl 102 rfl) rfl ?_
    refine v0 (sSt rfl rfl [] rfl rfl) rfl ?_
    refine v0 (sA rfl [] rfl) rfl ?_
    refine ve ?_
    refine W2 [0, 3, 4, 5, 6, 7] [101, 102] [1004, 1016] (l := [(0, .c (.row _ _ _)), (3, .c (.ptr _ _ _ _)), (4, .c (.own _ _ _ _)), (5, .c (.row _ _ _)), (6, .c (.ptr _ _ _ _)), (7, .c (.bool _))]) (h := [(101, ⟨0, 10, [[.int _ _, .int _ _, .int _ _, .int _ _, .int _ _, .int _ _, .int _ _, .int _ _, .int _ _, .own _ _ _ _]]⟩), (102, ⟨0, 10, [[.int _ _, .int _ _, .int _ _, .int _ _, .int _ _, .int _ _, .int _ _, .int _ _, .int _ _, .row _ _ _]]⟩)]) (h' := [(1004, ⟨0, 1, r4.map en_u8⟩), (1016, ⟨0, 1, r3.fB.map en_u8⟩)]) ⟨⟨_, rfl, enOk_u8.allClosed _ _ r4⟩, ⟨⟨_, rfl, enOk_u8.allClosed _ _ r3.fB⟩, trivial⟩⟩ rfl rfl rfl ?_
    refine W_seq ?_
    refine W_regV he rfl ?_
    refine v0 (sM rfl [] rfl) rfl ?_
    refine bndc h ?_; clear h; intro r7 hr7 h
    refine v0 (sCm (w_spec_GetOp K r5 _ hr7) ok_spec_GetOp rfl rfl rfl rfl) rfl ?_
    refine v0 (sM rfl [] rfl) rfl ?_
    refine v0 (sEx rfl rfl rfl) rfl ?_
    refine v0 (sEx rfl rfl rfl) rfl ?_
    refine v0 (sAl rfl rfl 103 rfl) rfl ?_
    refine v0 (sSt rfl rfl [] rfl rfl) rfl ?_
    refine v0 (sA rfl [] rfl) rfl ?_
    refine ve ?_
    refine W2 [0, 3, 4, 5, 6, 7, 8, 9] [101, 102, 103] [1004, 1016] (l := [(0, .c (.row _ _ _)), (3, .c (.ptr _ _ _ _)), (4, .c (.own _ _ _ _)), (5, .c (.row _ _ _)), (6, .c (.ptr _ _ _ _)), (7, .c (.bool _)), (8, .c (.ptr _ _ _ _)), (9, .c (.bool _))]) (h := [(101, ⟨0, 10, [[.int _ _, .int _ _, .int _ _, .int _ _, .int _ _, .int _ _, .int _ _, .int _ _, .int _ _, .own _ _ _ _]]⟩), (102, ⟨0, 10, [[.int _ _, .int _ _, .int _ _, .int _ _, .int _ _, .int _ _, .int _ _, .int _ _, .int _ _, .row _ _ _]]⟩), (103, ⟨0, 10, [[.int _ _, .int _ _, .int _ _, .int _ _, .int _ _, .int _ _, .int _ _, .int _ _, .int _ _, .row _ _ _]]⟩)]) (h' := [(1004, ⟨0, 1, r4.map en_u8⟩), (1016, ⟨0, 1, r3.fB.map en_u8⟩)]) ⟨⟨_, rfl, enOk_u8.allClosed _ _ r4⟩, ⟨⟨_, rfl, enOk_u8.allClosed _ _ r3.fB⟩, trivial⟩⟩ rfl rfl rfl ?_
    refine W_seq ?_
    refine W_regV he rfl ?_
    refine v0 (sM rfl [] rfl) rfl ?_
    refine bndc h ?_; clear h; intro r8 hr8 h
    refine v0 (sCm (w_spec_DrawOpName K a0 _ hr8) ok_spec_DrawOpName rfl rfl rfl rfl) rfl ?_
    refine v0 (sA rfl [] rfl) rfl ?_
    refine ve ?_
    refine W2 [3, 4, 5, 6, 7, 8, 9, 10] [101, 102, 103] [1004, 1016] (l := [(3, .c (.ptr _ _ _ _)), (4, .c (.own _ _ _ _)), (5, .c (.row _ _ _)), (6, .c (.ptr _ _ _ _)), (7, .c (.bool _)), (8, .c (.ptr _ _ _ _)), (9, .c (.bool _)), (10, .c (.int _ _))]) (h := [(101, ⟨0, 10, [[.int _ _, .int _ _, .int _ _, .int _ _, .int _ _, .int _ _, .int _ _, .int _ _, .int _ _, .own _ _ _ _]]⟩), (102, ⟨0, 10, [[.int _ _, .int _ _, .int _ _, .int _ _, .int _ _, .int _ _, .int _ _, .int _ _, .int _ _, .row _ _ _]]⟩), (103, ⟨0, 10, [[.int _ _, .int _ _, .int _ _, .int _ _, .int _ _, .int _ _, .int _ _, .int _ _, .int _ _, .row _ _ _]]⟩)]) (h' := [(1004, ⟨0, 1, r4.map en_u8⟩), (1016, ⟨0, 1, r3.fB.map en_u8⟩)]) ⟨⟨_, rfl, enOk_u8.allClosed _ _ r4⟩, ⟨⟨_, rfl, enOk_u8.allClosed _ _ r3.fB⟩, trivial⟩⟩ rfl rfl rfl ?_
    refine W_seq ?_
    refine W_seq ?_
    refine W_regD he rfl rfl rfl ?_
    refine g0 (sM rfl [] rfl) rfl ?_
    refine g0 (sLd rfl rfl) rfl ?_
    refine bndc h ?_; clear h; intro r9 hr9 h
    refine g0 (sCo (wo_spec_PutOp K r3 _ hr9) ok_spec_PutOp (fun _ => rfl) [1016] 1035 rfl rfl rfl (low_cons (low_g (lowc_cons rfl (lowc_cons rfl (lowc_cons rfl (lowc_cons rfl (lowc_cons rfl (lowc_cons rfl (lowc_cons rfl (lowc_cons rfl (lowc_cons rfl (lowc_cons (low_lentV (l := r3.fB) enOk_u8 rfl rfl rfl) (lowc_nil)))))))))))) (low_nil)) rfl) rfl ?_
    refine bndc h ?_; clear h; intro r10 hr10 h
    refine gB (sCle (w_laws_same K r4 r9 _ hr10) ok_laws_same [1004, 1035] rfl rfl (low_cons (low_lent (l := r4) enOk_u8 rfl rfl rfl) (low_cons (low_lent (l := r9) enOk_u8 rfl rfl rfl) (low_nil))) rfl) rfl rfl fun b11 hb11 => ?_
    cases b11 with
    | true =>
      replace h := brT hb11 h
      refine g0 (sNt rfl rfl) rfl ?_
      refine g0 (sM rfl [] rfl) rfl ?_
      refine q0 (sLd rfl rfl) rfl rfl rfl ?_
      refine q0 (sLd rfl rfl) rfl rfl rfl ?_
      refine bndc h ?_; clear h; intro r12 hr12 h
      refine qB (sCm (w_laws_sameOp K r6.1 r7.1 _ hr12) ok_laws_sameOp rfl rfl rfl rfl) rfl rfl rfl rfl fun b13 hb13 => ?_
      cases b13 with
      | true =>
        replace h := brT hb13 h
        refine q0 (sNt rfl rfl) rfl rfl rfl ?_
        refine g0 (sPk rfl [] rfl rfl) rfl ?_
        refine g0 (sM rfl [] rfl) rfl ?_
        refine q0 (sM rfl [] rfl) rfl rfl rfl ?_
        refine q0 (sM rfl [] rfl) rfl rfl rfl ?_
        refine qB (sBe rfl (.inr rfl) rfl rfl rfl rfl) rfl rfl rfl rfl fun b14 hb14 => ?_
        cases b14 with
        | true =>
          replace h := brT hb14 h
          refine g0 (sPk rfl [] rfl rfl) rfl ?_
          refine g0 (sM rfl [] rfl) rfl ?_
          refine qP rfl rfl rfl rfl ?_
          refine qP rfl rfl rfl rfl ?_
          refine qP rfl rfl rfl rfl ?_
          refine qP rfl rfl rfl rfl ?_
          refine qP rfl rfl rfl rfl ?_
          refine g0 (sPk rfl [] rfl rfl) rfl ?_
          refine g0 (sM rfl [] rfl) rfl ?_
          refine qP rfl rfl rfl rfl ?_
          refine qP rfl rfl rfl rfl ?_
          refine qP rfl rfl rfl rfl ?_
          refine qP rfl rfl rfl rfl ?_
          refine qP rfl rfl rfl rfl ?_
          refine g0 (sPk rfl [] rfl rfl) rfl ?_
          refine ge ⟨rfl, ?_⟩
          refine W2 [3, 4, 5, 6, 7, 62] [101, 102] [1004, 1016] (l := [(3, .c (.ptr _ _ _ _)), (4, .c (.own _ _ _ _)), (5, .c (.row _ _ _)), (6, .c (.ptr _ _ _ _)), (7, .c (.bool _)), (62, .c (.bool true))]) (h := [(101, ⟨0, 10, [[.int _ _, .int _ _, .int _ _, .int _ _, .int _ _, .int _ _, .int _ _, .int _ _, .int _ _, .own _ _ _ _]]⟩), (102, ⟨0, 10, [[.int _ _, .int _ _, .int _ _, .int _ _, .int _ _, .int _ _, .int _ _, .int _ _, .int _ _, .row _ _ _]]⟩)]) (h' := [(1004, ⟨0, 1, r4.map en_u8⟩), (1016, ⟨0, 1, r3.fB.map en_u8⟩)]) ⟨⟨_, rfl, enOk_u8.allClosed _ _ r4⟩, ⟨⟨_, rfl, enOk_u8.allClosed _ _ r3.fB⟩, trivial⟩⟩ rfl rfl rfl ?_
          refine W_true rfl ?_
          refine W_seq ?_
          refine W_regV he rfl ?_
          refine v0 (sA rfl [] rfl) rfl ?_
          refine ve ?_
          refine W2 [2] [] [] (l := [(2, .c (.bool false))]) (h := []) (h' := []) trivial rfl rfl rfl ?_
          obtain rfl := Option.some.inj h
          exact W_ret (r0 rfl rfl)
        | false =>
          replace h := brF hb14 h
          refine g0 (sPk rfl [] rfl rfl) rfl ?_
          refine g0 (sM rfl [] rfl) rfl ?_
          refine q0 (sLd rfl rfl) rfl rfl rfl ?_
          refine bndc h ?_; clear h; intro r15 hr15 h
          refine q0 (sCle (w_impl_OpOk K r3 _ hr15) ok_impl_OpOk [1016] rfl rfl (low_cons (low_g (lowc_cons rfl (lowc_cons rfl (lowc_cons rfl (lowc_cons rfl (lowc_cons rfl (lowc_cons rfl (lowc_cons rfl (lowc_cons rfl (lowc_cons rfl (lowc_cons (low_lentV (l := r3.fB) enOk_u8 rfl rfl rfl) (lowc_nil)))))))))))) (low_nil)) rfl) rfl rfl rfl ?_
          refine q0 (sLd rfl rfl) rfl rfl rfl ?_
          refine bndc h ?_; clear h; intro r16 hr16 h
          refine q0 (sCle (w_spec_OpOk K r3 _ hr16) ok_spec_OpOk [1016] rfl rfl (low_cons (low_g (lowc_cons rfl (lowc_cons rfl (lowc_cons rfl (lowc_cons rfl (lowc_cons rfl (lowc_cons rfl (lowc_cons rfl (lowc_cons rfl (lowc_cons rfl (lowc_cons (low_lentV (l := r3.fB) enOk_u8 rfl rfl rfl) (lowc_nil)))))))))))) (low_nil)) rfl) rfl rfl rfl ?_
          refine qB (sBe rfl (.inr rfl) rfl rfl rfl rfl) rfl rfl rfl rfl fun b17 hb17 => ?_
          cases b17 with
          | true =>
            replace h := brT hb17 h
            refine g0 (sPk rfl [] rfl rfl) rfl ?_
            refine g0 (sM rfl [] rfl) rfl ?_
            refine qP rfl rfl rfl rfl ?_
            refine qP rfl rfl rfl rfl ?_
            refine qP rfl rfl rfl rfl ?_
            refine qP rfl rfl rfl rfl ?_
            refine qP rfl rfl rfl rfl ?_
            refine g0 (sPk rfl [] rfl rfl) rfl ?_
            refine ge ⟨rfl, ?_⟩
            refine W2 [3, 4, 5, 6, 7, 62] [101, 102] [1004, 1016] (l := [(3, .c (.ptr _ _ _ _)), (4, .c (.own _ _ _ _)), (5, .c (.row _ _ _)), (6, .c (.ptr _ _ _ _)), (7, .c (.bool _)), (62, .c (.bool true))]) (h := [(101, ⟨0, 10, [[.int _ _, .int _ _, .int _ _, .int _ _, .int _ _, .int _ _, .int _ _, .int _ _, .int _ _, .own _ _ _ _]]⟩), (102, ⟨0, 10, [[.int _ _, .int _ _, .int _ _, .int _ _, .int _ _, .int _ _, .int _ _, .int _ _, .int _ _, .row _ _ _]]⟩)]) (h' := [(1004, ⟨0, 1, r4.map en_u8⟩), (1016, ⟨0, 1, r3.fB.map en_u8⟩)]) ⟨⟨_, rfl, enOk_u8.allClosed _ _ r4⟩, ⟨⟨_, rfl, enOk_u8.allClosed _ _ r3.fB⟩, trivial⟩⟩ rfl rfl rfl ?_
            refine W_true rfl ?_
            refine W_seq ?_
            refine W_regV he rfl ?_
            refine v0 (sA rfl [] rfl) rfl ?_
            refine ve ?_
            refine W2 [2] [] [] (l := [(2, .c (.bool false))]) (h := []) (h' := []) trivial rfl rfl rfl ?_
            obtain rfl := Option.some.inj h
            exact W_ret (r0 rfl rfl)
          | false =>
            replace h := brF hb17 h
            refine g0 (sPk rfl [] rfl rfl) rfl ?_
            refine g0 (sM rfl [] rfl) rfl ?_
            refine q0 (sM rfl [] rfl) rfl rfl rfl ?_
            refine bndc h ?_; clear h; intro r18 hr18 h
            refine q0 (sCm (w_impl_OpName K r8 _ hr18) ok_impl_OpName rfl rfl rfl rfl) rfl rfl rfl ?_
            refine q0 (sM rfl [] rfl) rfl rfl rfl ?_
            refine bndc h ?_; clear h; intro r19 hr19 h
            refine q0 (sCm (w_spec_OpName K r8 _ hr19) ok_spec_OpName rfl rfl rfl rfl) rfl rfl rfl ?_
            refine qB (sStrE rfl (.inr rfl) rfl rfl) rfl rfl rfl rfl fun b20 hb20 => ?_
            cases b20 with
            | true =>
              replace h := brT hb20 h
              refine g0 (sPk rfl [] rfl rfl) rfl ?_
              refine ge ⟨rfl, ?_⟩
              refine W2 [3, 4, 5, 6, 7, 62] [101, 102] [1004, 1016] (l := [(3, .c (.ptr _ _ _ _)), (4, .c (.own _ _ _ _)), (5, .c (.row _ _ _)), (6, .c (.ptr _ _ _ _)), (7, .c (.bool _)), (62, .c (.bool true))]) (h := [(101, ⟨0, 10, [[.int _ _, .int _ _, .int _ _, .int _ _, .int _ _, .int _ _, .int _ _, .int _ _, .int _ _, .own _ _ _ _]]⟩), (102, ⟨0, 10, [[.int _ _, .int _ _, .int _ _, .int _ _, .int _ _, .int _ _, .int _ _, .int _ _, .int _ _, .row _ _ _]]⟩)]) (h' := [(1004, ⟨0, 1, r4.map en_u8⟩), (1016, ⟨0, 1, r3.fB.map en_u8⟩)]) ⟨⟨_, rfl, enOk_u8.allClosed _ _ r4⟩, ⟨⟨_, rfl, enOk_u8.allClosed _ _ r3.fB⟩, trivial⟩⟩ rfl rfl rfl ?_
              refine W_true rfl ?_
              refine W_seq ?_
              refine W_regV he rfl ?_
              refine v0 (sA rfl [] rfl) rfl ?_
              refine ve ?_
              refine W2 [2] [] [] (l := [(2, .c (.bool false))]) (h := []) (h' := []) trivial rfl rfl rfl ?_
              obtain rfl := Option.some.inj h
              exact W_ret (r0 rfl rfl)
            | false =>
              replace h := brF hb20 h
              refine g0 (sPk rfl [] rfl rfl) rfl ?_
              refine ge ⟨rfl, ?_⟩
              refine W2 [3, 4, 5, 6, 7, 62] [101, 102] [1004, 1016] (l := [(3, .c (.ptr _ _ _ _)), (4, .c (.own _ _ _ _)), (5, .c (.row _ _ _)), (6, .c (.ptr _ _ _ _)), (7, .c (.bool _)), (62, .c (.bool false))]) (h := [(101, ⟨0, 10, [[.int _ _, .int _ _, .int _ _, .int _ _, .int _ _, .int _ _, .int _ _, .int _ _, .int _ _, .own _ _ _ _]]⟩), (102, ⟨0, 10, [[.int _ _, .int _ _, .int _ _, .int _ _, .int _ _, .int _ _, .int _ _, .int _ _, .int _ _, .row _ _ _]]⟩)]) (h' := [(1004, ⟨0, 1, r4.map en_u8⟩), (1016, ⟨0, 1, r3.fB.map en_u8⟩)]) ⟨⟨_, rfl, enOk_u8.allClosed _ _ r4⟩, ⟨⟨_, rfl, enOk_u8.allClosed _ _ r3.fB⟩, trivial⟩⟩ rfl rfl rfl ?_
              refine W_false rfl ?_
              refine W_skip ?_
              refine W_join (fun S => S = StL [(3, .c (.ptr 101 0 0 0)), (4, .c (.own 1004 0 0 r4.length))] ([(101, ⟨0, 10, [[.int .i64 r3.fKind, .int .i64 r3.fH.fSlot, .int .i64 r3.fH.fGen, .int .i64 r3.fR.fH.fSlot, .int .i64 r3.fR.fH.fGen, .int .i64 r3.fR.fEp, .int .i64 r3.fR.fNo, .int .i64 r3.fN, .int .i64 r3.fM, .own 1016 0 0 r3.fB.length]]⟩)] ++ [(1004, ⟨0, 1, r4.map en_u8⟩), (1016, ⟨0, 1, r3.fB.map en_u8⟩)]) ∧ j_laws_FnOps_21 K r3 r4  = some r) ?_ ?_
              · rintro S ⟨rfl, h⟩
                unfold j_laws_FnOps_21 at h
                refine W_seq ?_
                refine W_regV he rfl ?_
                refine v0 (sM rfl [] rfl) rfl ?_
                refine vWk (wk_row (l := r4) 77 enOk_u8 rfl rfl) ?_
                refine bndc h ?_; clear h; intro r122 hr122 h
                refine v0 (sCm (w_impl_GetOp K r4 _ hr122) ok_impl_GetOp rfl rfl rfl rfl) rfl ?_
                refine v0 (sM rfl [] rfl) rfl ?_
                refine v0 (sEx rfl rfl rfl) rfl ?_
                refine v0 (sEx rfl rfl rfl) rfl ?_
                refine v0 (sAl rfl rfl 104 rfl) rfl ?_
                refine v0 (sSt rfl rfl [] rfl rfl) rfl ?_
                refine v0 (sA rfl [] rfl) rfl ?_
                refine ve ?_
                refine W2 [3, 11, 12] [101, 104] [1016] (l := [(3, .c (.ptr _ _ _ _)), (11, .c (.ptr _ _ _ _)), (12, .c (.bool _))]) (h := [(101, ⟨0, 10, [[.int _ _, .int _ _, .int _ _, .int _ _, .int _ _, .int _ _, .int _ _, .int _ _, .int _ _, .own _ _ _ _]]⟩), (104, ⟨0, 10, [[.int _ _, .int _ _, .int _ _, .int _ _, .int _ _, .int _ _, .int _ _, .int _ _, .int _ _, .row _ _ _]]⟩)]) (h' := [(1016, ⟨0, 1, r3.fB.map en_u8⟩)]) ⟨⟨_, rfl, enOk_u8.allClosed _ _ r3.fB⟩, trivial⟩ rfl rfl rfl ?_
                refine W_seq ?_
                refine W_regV he rfl ?_
                refine v0 (sM rfl [] rfl) rfl ?_
                refine v0 (sLd rfl rfl) rfl ?_
                refine bndc h ?_; clear h; intro r123 hr123 h
                refine v0 (sCle (w_impl_OpOk K r3 _ hr123) ok_impl_OpOk [1016] rfl rfl (low_cons (low_g (lowc_cons rfl (lowc_cons rfl (lowc_cons rfl (lowc_cons rfl (lowc_cons rfl (lowc_cons rfl (lowc_cons rfl (lowc_cons rfl (lowc_cons rfl (lowc_cons (low_lentV (l := r3.fB) enOk_u8 rfl rfl rfl) (lowc_nil)))))))))))) (low_nil)) rfl) rfl ?_
                refine vB (sBe rfl (.inl rfl) rfl rfl rfl rfl) rfl rfl fun b124 hb124 => ?_
                cases b124 with
                | true =>
                  replace h := brT hb124 h
                  refine v0 (sM rfl [] rfl) rfl ?_
                  refine uB (sM rfl [] rfl) rfl rfl rfl rfl fun b125 hb125 => ?_
                  cases b125 with
                  | true =>
                    replace h := brT hb125 h
                    refine u0 (sNt rfl rfl) rfl rfl rfl ?_
                    refine u0 (sM rfl [] rfl) rfl rfl rfl ?_
                    refine u0 (sLd rfl rfl) rfl rfl rfl ?_
                    refine u0 (sLd rfl rfl) rfl rfl rfl ?_
                    refine bndc h ?_; clear h; intro r126 hr126 h
                    refine u0 (sCle (w_laws_sameOp K r122.1 r3 _ hr126) ok_laws_sameOp [1016] rfl rfl (low_cons (rfl) (low_cons (low_g (lowc_cons rfl (lowc_cons rfl (lowc_cons rfl (lowc_cons rfl (lowc_cons rfl (lowc_cons rfl (lowc_cons rfl (lowc_cons rfl (lowc_cons rfl (lowc_cons (low_lentV (l := r3.fB) enOk_u8 rfl rfl rfl) (lowc_nil)))))))))))) (low_nil))) rfl) rfl rfl rfl ?_
                    refine u0 (sPk rfl [] rfl rfl) rfl rfl rfl ?_
                    refine v0 (sPk rfl [] rfl rfl) rfl ?_
                    refine v0 (sA rfl [] rfl) rfl ?_
                    refine ve ?_
                    refine W2 [2] [] [] (l := [(2, .c (.bool _))]) (h := []) (h' := []) trivial rfl rfl rfl ?_
                    obtain rfl := Option.some.inj h
                    exact W_ret (r0 rfl rfl)
                  | false =>
                    replace h := brF hb125 h
                    refine u0 (sNt rfl rfl) rfl rfl rfl ?_
                    refine u0 (sM rfl [] rfl) rfl rfl rfl ?_
                    refine uP rfl rfl rfl rfl ?_
                    refine uP rfl rfl rfl rfl ?_
                    refine uP rfl rfl rfl rfl ?_
                    refine u0 (sPk rfl [] rfl rfl) rfl rfl rfl ?_
                    refine v0 (sPk rfl [] rfl rfl) rfl ?_
                    refine v0 (sA rfl [] rfl) rfl ?_
                    refine ve ?_
                    refine W2 [2] [] [] (l := [(2, .c (.bool true))]) (h := []) (h' := []) trivial rfl rfl rfl ?_
                    obtain rfl := Option.some.inj h
                    exact W_ret (r0 rfl rfl)
                | false =>
                  replace h := brF hb124 h
                  refine v0 (sM rfl [] rfl) rfl ?_
                  refine uP rfl rfl rfl rfl ?_
                  refine uP rfl rfl rfl rfl ?_
                  refine uP rfl rfl rfl rfl ?_
                  refine uS rfl rfl rfl ?_
                  refine uS rfl rfl rfl ?_
                  refine uS rfl rfl rfl ?_
                  refine uP rfl rfl rfl rfl ?_
                  refine v0 (sPk rfl [] rfl rfl) rfl ?_
                  refine v0 (sA rfl [] rfl) rfl ?_
                  refine ve ?_
                  refine W2 [2] [] [] (l := [(2, .c (.bool false))]) (h := []) (h' := []) trivial rfl rfl rfl ?_
                  obtain rfl := Option.some.inj h
                  exact W_ret (r0 rfl rfl)
              ·
                refine W_seq ?_
                refine W_regV he rfl ?_
                refine vB (sM rfl [] rfl) rfl rfl fun b127 hb127 => ?_
                cases b127 with
                | true =>
                  replace h := brT hb127 h
                  refine v0 (sM rfl [] rfl) rfl ?_
                  refine u0 (sLd rfl rfl) rfl rfl rfl ?_
                  refine bndc h ?_; clear h; intro r128 hr128 h
                  refine uB (sCm (w_impl_OpOk K r6.1 _ hr128) ok_impl_OpOk rfl rfl rfl rfl) rfl rfl rfl rfl fun b129 hb129 => ?_
                  cases b129 with
                  | true =>
                    replace h := brT hb129 h
                    refine u0 (sNt rfl rfl) rfl rfl rfl ?_
                    refine u0 (sM rfl [] rfl) rfl rfl rfl ?_
                    refine u0 (sLd rfl rfl) rfl rfl rfl ?_
                    refine bndc h ?_; clear h; intro r130 hr130 h
                    refine u0 (sCm (w_impl_PutOp K r6.1 _ hr130) ok_impl_PutOp rfl rfl rfl rfl) rfl rfl rfl ?_
                    refine u0 (sM rfl [] rfl) rfl rfl rfl ?_
                    refine bndc h ?_; clear h; intro r131 hr131 h
                    refine uB (sCm (w_laws_same K r130 r5 _ hr131) ok_laws_same rfl rfl rfl rfl) rfl rfl rfl rfl fun b132 hb132 => ?_
                    cases b132 with
                    | true =>
                      replace h := brT hb132 h
                      refine u0 (sNt rfl rfl) rfl rfl rfl ?_
                      refine u0 (sPk rfl [] rfl rfl) rfl rfl rfl ?_
                      refine v0 (sPk rfl [] rfl rfl) rfl ?_
                      refine ve ?_
                      refine W2 [3, 4, 75] [101] [1004, 1016] (l := [(3, .c (.ptr _ _ _ _)), (4, .c (.own _ _ _ _)), (75, .c (.bool false))]) (h := [(101, ⟨0, 10, [[.int _ _, .int _ _, .int _ _, .int _ _, .int _ _, .int _ _, .int _ _, .int _ _, .int _ _, .own _ _ _ _]]⟩)]) (h' := [(1004, ⟨0, 1, r4.map en_u8⟩), (1016, ⟨0, 1, r3.fB.map en_u8⟩)]) ⟨⟨_, rfl, enOk_u8.allClosed _ _ r4⟩, ⟨⟨_, rfl, enOk_u8.allClosed _ _ r3.fB⟩, trivial⟩⟩ rfl rfl rfl ?_
                      refine W_false rfl ?_
                      refine W_skip ?_
                      exact ⟨_, wk2 [3, 4] [101] [1004, 1016] (l := [(3, .c (.ptr _ _ _ _)), (4, .c (.own _ _ _ _))]) (h := [(101, ⟨0, 10, [[.int _ _, .int _ _, .int _ _, .int _ _, .int _ _, .int _ _, .int _ _, .int _ _, .int _ _, .own _ _ _ _]]⟩)]) (h' := [(1004, ⟨0, 1, r4.map en_u8⟩), (1016, ⟨0, 1, r3.fB.map en_u8⟩)]) ⟨⟨_, rfl, enOk_u8.allClosed _ _ r4⟩, ⟨⟨_, rfl, enOk_u8.allClosed _ _ r3.fB⟩, trivial⟩⟩ rfl rfl rfl, rfl, h⟩
                    | false =>
                      replace h := brF hb132 h
                      refine u0 (sNt rfl rfl) rfl rfl rfl ?_
                      refine u0 (sPk rfl [] rfl rfl) rfl rfl rfl ?_
                      refine v0 (sPk rfl [] rfl rfl) rfl ?_
                      refine ve ?_
                      refine W2 [3, 4, 75] [101] [1004, 1016] (l := [(3, .c (.ptr _ _ _ _)), (4, .c (.own _ _ _ _)), (75, .c (.bool true))]) (h := [(101, ⟨0, 10, [[.int _ _, .int _ _, .int _ _, .int _ _, .int _ _, .int _ _, .int _ _, .int _ _, .int _ _, .own _ _ _ _]]⟩)]) (h' := [(1004, ⟨0, 1, r4.map en_u8⟩), (1016, ⟨0, 1, r3.fB.map en_u8⟩)]) ⟨⟨_, rfl, enOk_u8.allClosed _ _ r4⟩, ⟨⟨_, rfl, enOk_u8.allClosed _ _ r3.fB⟩, trivial⟩⟩ rfl rfl rfl ?_
                      refine W_true rfl ?_
                      refine W_seq ?_
                      refine W_regV he rfl ?_
                      refine v0 (sA rfl [] rfl) rfl ?_
                      refine ve ?_
                      refine W2 [2] [] [] (l := [(2, .c (.bool false))]) (h := []) (h' := []) trivial rfl rfl rfl ?_
                      obtain rfl := Option.some.inj h
                      exact W_ret (r0 rfl rfl)
                  | false =>
                    replace h := brF hb129 h
                    refine u0 (sNt rfl rfl) rfl rfl rfl ?_
                    refine u0 (sM rfl [] rfl) rfl rfl rfl ?_
                    refine uP rfl rfl rfl rfl ?_
                    refine uP rfl rfl rfl rfl ?_
                    refine uP rfl rfl rfl rfl ?_
                    refine uP rfl rfl rfl rfl ?_
                    refine uP rfl rfl rfl rfl ?_
                    refine u0 (sPk rfl [] rfl rfl) rfl rfl rfl ?_
                    refine v0 (sPk rfl [] rfl rfl) rfl ?_
                    refine ve ?_
                    refine W2 [3, 4, 75] [101] [1004, 1016] (l := [(3, .c (.ptr _ _ _ _)), (4, .c (.own _ _ _ _)), (75, .c (.bool true))]) (h := [(101, ⟨0, 10, [[.int _ _, .int _ _, .int _ _, .int _ _, .int _ _, .int _ _, .int _ _, .int _ _, .int _ _, .own _ _ _ _]]⟩)]) (h' := [(1004, ⟨0, 1, r4.map en_u8⟩), (1016, ⟨0, 1, r3.fB.map en_u8⟩)]) ⟨⟨_, rfl, enOk_u8.allClosed _ _ r4⟩, ⟨⟨_, rfl, enOk_u8.allClosed _ _ r3.fB⟩, trivial⟩⟩ rfl rfl rfl ?_
                    refine W_true rfl ?_
                    refine W_seq ?_
                    refine W_regV he rfl ?_
                    refine v0 (sA rfl [] rfl) rfl ?_
                    refine ve ?_
                    refine W2 [2] [] [] (l := [(2, .c (.bool false))]) (h := []) (h' := []) trivial rfl rfl rfl ?_
                    obtain rfl := Option.some.inj h
                    exact W_ret (r0 rfl rfl)
                | false =>
                  replace h := brF hb127 h
                  refine v0 (sM rfl [] rfl) rfl ?_
                  refine uP rfl rfl rfl rfl ?_
                  refine uP rfl rfl rfl rfl ?_
                  refine uP rfl rfl rfl rfl ?_
                  refine uP rfl rfl rfl rfl ?_
                  refine uS rfl rfl rfl ?_
                  refine uS rfl rfl rfl ?_
                  refine uS rfl rfl rfl ?_
                  refine uS rfl rfl rfl ?_
                  refine uS rfl rfl rfl ?_
                  refine uP rfl rfl rfl rfl ?_
                  refine v0 (sPk rfl [] rfl rfl) rfl ?_
                  refine ve ?_
                  refine W2 [3, 4, 75] [101] [1004, 1016] (l := [(3, .c (.ptr _ _ _ _)), (4, .c (.own _ _ _ _)), (75, .c (.bool false))]) (h := [(101, ⟨0, 10, [[.int _ _, .int _ _, .int _ _, .int _ _, .int _ _, .int _ _, .int _ _, .int _ _, .int _ _, .own _ _ _ _]]⟩)]) (h' := [(1004, ⟨0, 1, r4.map en_u8⟩), (1016, ⟨0, 1, r3.fB.map en_u8⟩)]) ⟨⟨_, rfl, enOk_u8.allClosed _ _ r4⟩, ⟨⟨_, rfl, enOk_u8.allClosed _ _ r3.fB⟩, trivial⟩⟩ rfl rfl rfl ?_
                  refine W_false rfl ?_
                  refine W_skip ?_
                  exact ⟨_, wk2 [3, 4] [101] [1004, 1016] (l := [(3, .c (.ptr _ _ _ _)), (4, .c (.own _ _ _ _))]) (h := [(101, ⟨0, 10, [[.int _ _, .int _ _, .int _ _, .int _ _, .int _ _, .int _ _, .int _ _, .int _ _, .int _ _, .own _ _ _ _]]⟩)]) (h' := [(1004, ⟨0, 1, r4.map en_u8⟩), (1016, ⟨0, 1, r3.fB.map en_u8⟩)]) ⟨⟨_, rfl, enOk_u8.allClosed _ _ r4⟩, ⟨⟨_, rfl, enOk_u8.allClosed _ _ r3.fB⟩, trivial⟩⟩ rfl rfl rfl, rfl, h⟩
      | false =>
        replace h := brF hb13 h
        refine q0 (sNt rfl rfl) rfl rfl rfl ?_
        refine g0 (sPk rfl [] rfl rfl) rfl ?_
        refine g0 (sM rfl [] rfl) rfl ?_
        refine qP rfl rfl rfl rfl ?_
        refine qP rfl rfl rfl rfl ?_
        refine qP rfl rfl rfl rfl ?_
        refine g0 (sPk rfl [] rfl rfl) rfl ?_
        refine g0 (sM rfl [] rfl) rfl ?_
        refine qP rfl rfl rfl rfl ?_
        refine qP rfl rfl rfl rfl ?_
        refine qP rfl rfl rfl rfl ?_
        refine qP rfl rfl rfl rfl ?_
        refine qP rfl rfl rfl rfl ?_
        refine g0 (sPk rfl [] rfl rfl) rfl ?_
        refine g0 (sM rfl [] rfl) rfl ?_
        refine qP rfl rfl rfl rfl ?_
        refine qP rfl rfl rfl rfl ?_
        refine qP rfl rfl rfl rfl ?_
        refine qP rfl rfl rfl rfl ?_
        refine qP rfl rfl rfl rfl ?_
        refine g0 (sPk rfl [] rfl rfl) rfl ?_
        refine ge ⟨rfl, ?_⟩
        refine W2 [3, 4, 5, 6, 7, 62] [101, 102] [1004, 1016] (l := [(3, .c (.ptr _ _ _ _)), (4, .c (.own _ _ _ _)), (5, .c (.row _ _ _)), (6, .c (.ptr _ _ _ _)), (7, .c (.bool _)), (62, .c (.bool true))]) (h := [(101, ⟨0, 10, [[.int _ _, .int _ _, .int _ _, .int _ _, .int _ _, .int _ _, .int _ _, .int _ _, .int _ _, .own _ _ _ _]]⟩), (102, ⟨0, 10, [[.int _ _, .int _ _, .int _ _, .int _ _, .int _ _, .int _ _, .int _ _, .int _ _, .int _ _, .row _ _ _]]⟩)]) (h' := [(1004, ⟨0, 1, r4.map en_u8⟩), (1016, ⟨0, 1, r3.fB.map en_u8⟩)]) ⟨⟨_, rfl, enOk_u8.allClosed _ _ r4⟩, ⟨⟨_, rfl, enOk_u8.allClosed _ _ r3.fB⟩, trivial⟩⟩ rfl rfl rfl ?_
        refine W_true rfl ?_
        refine W_seq ?_
        refine W_regV he rfl ?_
        refine v0 (sA rfl [] rfl) rfl ?_
        refine ve ?_
        refine W2 [2] [] [] (l := [(2, .c (.bool false))]) (h := []) (h' := []) trivial rfl rfl rfl ?_
        obtain rfl := Option.some.inj h
        exact W_ret (r0 rfl rfl)
    | false =>
      replace h := brF hb11 h
      refine g0 (sNt rfl rfl) rfl ?_
      refine g0 (sM rfl [] rfl) rfl ?_
      refine qP rfl rfl rfl rfl ?_
      refine qP rfl rfl rfl rfl ?_
      refine qP rfl rfl rfl rfl ?_
      refine qP rfl rfl rfl rfl ?_
      refine g0 (sPk rfl [] rfl rfl) rfl ?_
      refine g0 (sM rfl [] rfl) rfl ?_
      refine qP rfl rfl rfl rfl ?_
      refine qP rfl rfl rfl rfl ?_
      refine qP rfl rfl rfl rfl ?_
      refine g0 (sPk rfl [] rfl rfl) rfl ?_
      refine g0 (sM rfl [] rfl) rfl ?_
      refine qP rfl rfl rfl rfl ?_
      refine qP rfl rfl rfl rfl ?_
      refine qP rfl rfl rfl rfl ?_
      refine qP rfl rfl rfl rfl ?_
      refine qP rfl rfl rfl rfl ?_
      refine g0 (sPk rfl [] rfl rfl) rfl ?_
      refine g0 (sM rfl [] rfl) rfl ?_
      refine qP rfl rfl rfl rfl ?_
      refine qP rfl rfl rfl rfl ?_
      refine qP rfl rfl rfl rfl ?_
      refine qP rfl rfl rfl rfl ?_
      refine qP rfl rfl rfl rfl ?_
      refine g0 (sPk rfl [] rfl rfl) rfl ?_
      refine ge ⟨rfl, ?_⟩
      refine W2 [3, 4, 5, 6, 7, 62] [101, 102] [1004, 1016] (l := [(3, .c (.ptr _ _ _ _)), (4, .c (.own _ _ _ _)), (5, .c (.row _ _ _)), (6, .c (.ptr _ _ _ _)), (7, .c (.bool _)), (62, .c (.bool true))]) (h := [(101, ⟨0, 10, [[.int _ _, .int _ _, .int _ _, .int _ _, .int _ _, .int _ _, .int _ _, .int _ _, .int _ _, .own _ _ _ _]]⟩), (102, ⟨0, 10, [[.int _ _, .int _ _, .int _ _, .int _ _, .int _ _, .int _ _, .int _ _, .int _ _, .int _ _, .row _ _ _]]⟩)]) (h' := [(1004, ⟨0, 1, r4.map en_u8⟩), (1016, ⟨0, 1, r3.fB.map en_u8⟩)]) ⟨⟨_, rfl, enOk_u8.allClosed _ _ r4⟩, ⟨⟨_, rfl, enOk_u8.allClosed _ _ r3.fB⟩, trivial⟩⟩ rfl rfl rfl ?_
      refine W_true rfl ?_
      refine W_seq ?_
      refine W_regV he rfl ?_
      refine v0 (sA rfl [] rfl) rfl ?_
      refine ve ?_
      refine W2 [2] [] [] (l := [(2, .c (.bool false))]) (h := []) (h' := []) trivial rfl rfl rfl ?_
      obtain rfl := Option.some.inj h
      exact W_ret (r0 rfl rfl)
theorem ok_laws_FnOps : FnOk Try.prog 14 := ⟨_, Try.func14, rfl, rfl⟩


def Wf_u8 (x : Int) : Prop := (Lit.int .u8 x).wf = true
def Wf_Lu8 (x : List Int) : Prop := (∀ a ∈ x, Wf_u8 a) ∧ x.length * 1 ≤ reachBytes ∧ x.length ≤ maxLen
def Wf_i64 (x : Int) : Prop := (Lit.int .i64 x).wf = true
def Wf_spec_l1Cur (x : T_spec_l1Cur) : Prop := Wf_Lu8 x.fb ∧ Wf_i64 x.fi ∧ Wf_i64 x.fh
def Wf_impl_Handle (x : T_impl_Handle) : Prop := Wf_i64 x.fSlot ∧ Wf_i64 x.fGen
def Wf_impl_Ref (x : T_impl_Ref) : Prop := Wf_impl_Handle x.fH ∧ Wf_i64 x.fEp ∧ Wf_i64 x.fNo
def Wf_impl_Op (x : T_impl_Op) : Prop := Wf_i64 x.fKind ∧ Wf_impl_Handle x.fH ∧ Wf_impl_Ref x.fR ∧ Wf_i64 x.fN ∧ Wf_i64 x.fM ∧ Wf_Lu8 x.fB
def Wf_string (x : ByteArray) : Prop := x.size ≤ reachBytes
theorem lf_u8 {v : V} (h : Lf tab 5 v) : ∃ a, v = .int .u8 a ∧ Wf_u8 a := lf_int h rfl rfl
theorem ro_u8 (x : List V) (hl : x.length = 1) (h : ∀ (i : Nat) l v, ([5] : List Nat)[i]? = some l → x[i]? = some v → Lf tab l v) : ∃ a, x = en_u8 a ∧ Wf_u8 a := by
  match x, hl with
  | [v0], _ =>
    obtain ⟨x0, rfl, w0⟩ := lf_u8 (h 0 _ _ rfl rfl)
    exact ⟨x0, rfl, w0⟩
theorem ta_u8 {x : A} (h : TA tab 5 x) : ∃ a, x = .c (.int .u8 a) ∧ Wf_u8 a := let ⟨v, e, h1⟩ := ta_one h rfl rfl; let ⟨a, e2, w⟩ := lf_u8 h1; ⟨a, by rw [e, e2], w⟩
theorem lf_Lu8 {v : V} (h : Lf tab 30 v) : ∃ a, v = .row false 1 (a.map en_u8) ∧ Wf_Lu8 a := let ⟨l, e, h1, h2, h3⟩ := lf_row h rfl rfl rfl rfl ro_u8; ⟨l, e, h1, h2, h3⟩
theorem ro_Lu8 (x : List V) (hl : x.length = 1) (h : ∀ (i : Nat) l v, ([30] : List Nat)[i]? = some l → x[i]? = some v → Lf tab l v) : ∃ a, x = en_Lu8 a ∧ Wf_Lu8 a := by
  match x, hl with
  | [v0], _ =>
    obtain ⟨x0, rfl, w0⟩ := lf_Lu8 (h 0 _ _ rfl rfl)
    exact ⟨x0, rfl, w0⟩
theorem ta_Lu8 {x : A} (h : TA tab 30 x) : ∃ a, x = .c (.row false 1 (a.map en_u8)) ∧ Wf_Lu8 a := let ⟨v, e, h1⟩ := ta_one h rfl rfl; let ⟨a, e2, w⟩ := lf_Lu8 h1; ⟨a, by rw [e, e2], w⟩
theorem lf_i64 {v : V} (h : Lf tab 3 v) : ∃ a, v = .int .i64 a ∧ Wf_i64 a := lf_int h rfl rfl
theorem ro_i64 (x : List V) (hl : x.length = 1) (h : ∀ (i : Nat) l v, ([3] : List Nat)[i]? = some l → x[i]? = some v → Lf tab l v) : ∃ a, x = en_i64 a ∧ Wf_i64 a := by
  match x, hl with
  | [v0], _ =>
    obtain ⟨x0, rfl, w0⟩ := lf_i64 (h 0 _ _ rfl rfl)
    exact ⟨x0, rfl, w0⟩
theorem ta_i64 {x : A} (h : TA tab 3 x) : ∃ a, x = .c (.int .i64 a) ∧ Wf_i64 a := let ⟨v, e, h1⟩ := ta_one h rfl rfl; let ⟨a, e2, w⟩ := lf_i64 h1; ⟨a, by rw [e, e2], w⟩
theorem ro_spec_l1Cur (x : List V) (hl : x.length = 3) (h : ∀ (i : Nat) l v, ([30, 3, 3] : List Nat)[i]? = some l → x[i]? = some v → Lf tab l v) : ∃ a, x = en_spec_l1Cur a ∧ Wf_spec_l1Cur a := by
  match x, hl with
  | [v0, v1, v2], _ =>
    obtain ⟨x0, rfl, w0⟩ := lf_Lu8 (h 0 _ _ rfl rfl)
    obtain ⟨x1, rfl, w1⟩ := lf_i64 (h 1 _ _ rfl rfl)
    obtain ⟨x2, rfl, w2⟩ := lf_i64 (h 2 _ _ rfl rfl)
    exact ⟨(T_spec_l1Cur.mk x0 x1 x2), rfl, ⟨w0, w1, w2⟩⟩
theorem ta_spec_l1Cur {x : A} (h : TA tab 91 x) : ∃ a, x = .g [.row false 1 (a.fb.map en_u8), .int .i64 a.fi, .int .i64 a.fh] ∧ Wf_spec_l1Cur a := let ⟨vs, e, h1, h2⟩ := ta_agg h rfl rfl rfl; let ⟨a, e2, w⟩ := ro_spec_l1Cur vs h1 h2; ⟨a, by rw [e, e2]; rfl, w⟩
theorem ro_impl_Handle (x : List V) (hl : x.length = 2) (h : ∀ (i : Nat) l v, ([3, 3] : List Nat)[i]? = some l → x[i]? = some v → Lf tab l v) : ∃ a, x = en_impl_Handle a ∧ Wf_impl_Handle a := by
  match x, hl with
  | [v0, v1], _ =>
    obtain ⟨x0, rfl, w0⟩ := lf_i64 (h 0 _ _ rfl rfl)
    obtain ⟨x1, rfl, w1⟩ := lf_i64 (h 1 _ _ rfl rfl)
    exact ⟨(T_impl_Handle.mk x0 x1), rfl, ⟨w0, w1⟩⟩
theorem ta_impl_Handle {x : A} (h : TA tab 46 x) : ∃ a, x = .g [.int .i64 a.fSlot, .int .i64 a.fGen] ∧ Wf_impl_Handle a := let ⟨vs, e, h1, h2⟩ := ta_agg h rfl rfl rfl; let ⟨a, e2, w⟩ := ro_impl_Handle vs h1 h2; ⟨a, by rw [e, e2]; rfl, w⟩
theorem ro_impl_Ref (x : List V) (hl : x.length = 4) (h : ∀ (i : Nat) l v, ([3, 3, 3, 3] : List Nat)[i]? = some l → x[i]? = some v → Lf tab l v) : ∃ a, x = en_impl_Ref a ∧ Wf_impl_Ref a := by
  match x, hl with
  | [v0, v1, v2, v3], _ =>
    obtain ⟨x0, rfl, w0⟩ := lf_i64 (h 0 _ _ rfl rfl)
    obtain ⟨x1, rfl, w1⟩ := lf_i64 (h 1 _ _ rfl rfl)
    obtain ⟨x2, rfl, w2⟩ := lf_i64 (h 2 _ _ rfl rfl)
    obtain ⟨x3, rfl, w3⟩ := lf_i64 (h 3 _ _ rfl rfl)
    exact ⟨(T_impl_Ref.mk (T_impl_Handle.mk x0 x1) x2 x3), rfl, ⟨⟨w0, w1⟩, w2, w3⟩⟩
theorem ta_impl_Ref {x : A} (h : TA tab 48 x) : ∃ a, x = .g [.int .i64 a.fH.fSlot, .int .i64 a.fH.fGen, .int .i64 a.fEp, .int .i64 a.fNo] ∧ Wf_impl_Ref a := let ⟨vs, e, h1, h2⟩ := ta_agg h rfl rfl rfl; let ⟨a, e2, w⟩ := ro_impl_Ref vs h1 h2; ⟨a, by rw [e, e2]; rfl, w⟩
theorem ro_impl_Op (x : List V) (hl : x.length = 10) (h : ∀ (i : Nat) l v, ([3, 3, 3, 3, 3, 3, 3, 3, 3, 30] : List Nat)[i]? = some l → x[i]? = some v → Lf tab l v) : ∃ a, x = en_impl_Op a ∧ Wf_impl_Op a := by
  match x, hl with
  | [v0, v1, v2, v3, v4, v5, v6, v7, v8, v9], _ =>
    obtain ⟨x0, rfl, w0⟩ := lf_i64 (h 0 _ _ rfl rfl)
    obtain ⟨x1, rfl, w1⟩ := lf_i64 (h 1 _ _ rfl rfl)
    obtain ⟨x2, rfl, w2⟩ := lf_i64 (h 2 _ _ rfl rfl)
    obtain ⟨x3, rfl, w3⟩ := lf_i64 (h 3 _ _ rfl rfl)
    obtain ⟨x4, rfl, w4⟩ := lf_i64 (h 4 _ _ rfl rfl)
    obtain ⟨x5, rfl, w5⟩ := lf_i64 (h 5 _ _ rfl rfl)
    obtain ⟨x6, rfl, w6⟩ := lf_i64 (h 6 _ _ rfl rfl)
    obtain ⟨x7, rfl, w7⟩ := lf_i64 (h 7 _ _ rfl rfl)
    obtain ⟨x8, rfl, w8⟩ := lf_i64 (h 8 _ _ rfl rfl)
    obtain ⟨x9, rfl, w9⟩ := lf_Lu8 (h 9 _ _ rfl rfl)
    exact ⟨(T_impl_Op.mk x0 (T_impl_Handle.mk x1 x2) (T_impl_Ref.mk (T_impl_Handle.mk x3 x4) x5 x6) x7 x8 x9), rfl, ⟨w0, ⟨w1, w2⟩, ⟨⟨w3, w4⟩, w5, w6⟩, w7, w8, w9⟩⟩
theorem ta_impl_Op {x : A} (h : TA tab 50 x) : ∃ a, x = .g [.int .i64 a.fKind, .int .i64 a.fH.fSlot, .int .i64 a.fH.fGen, .int .i64 a.fR.fH.fSlot, .int .i64 a.fR.fH.fGen, .int .i64 a.fR.fEp, .int .i64 a.fR.fNo, .int .i64 a.fN, .int .i64 a.fM, .row false 1 (a.fB.map en_u8)] ∧ Wf_impl_Op a := let ⟨vs, e, h1, h2⟩ := ta_agg h rfl rfl rfl; let ⟨a, e2, w⟩ := ro_impl_Op vs h1 h2; ⟨a, by rw [e, e2]; rfl, w⟩
theorem lf_string {v : V} (h : Lf tab 9 v) : ∃ a, v = .str a ∧ Wf_string a := lf_str h rfl rfl
theorem ro_string (x : List V) (hl : x.length = 1) (h : ∀ (i : Nat) l v, ([9] : List Nat)[i]? = some l → x[i]? = some v → Lf tab l v) : ∃ a, x = en_string a ∧ Wf_string a := by
  match x, hl with
  | [v0], _ =>
    obtain ⟨x0, rfl, w0⟩ := lf_string (h 0 _ _ rfl rfl)
    exact ⟨x0, rfl, w0⟩
theorem ta_string {x : A} (h : TA tab 9 x) : ∃ a, x = .c (.str a) ∧ Wf_string a := let ⟨v, e, h1⟩ := ta_one h rfl rfl; let ⟨a, e2, w⟩ := lf_string h1; ⟨a, by rw [e, e2], w⟩

theorem ownKnob0 : ownKnob Try.prog.godebug = none := by kernel_rfl
theorem laidOut0 : laidOutB Try.prog = true := by kernel_rfl
end Go.Proofs.Ytlenlhlggknelaa
