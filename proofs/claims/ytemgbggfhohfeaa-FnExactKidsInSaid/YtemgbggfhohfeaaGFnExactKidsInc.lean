/- Models of the program's functions, and the walks that show them. Printed by gen.py. -/
import Derived.Test.YtemgbggfhohfeaaGFnExactKidsInb
set_option linter.unusedVariables false
set_option linter.unusedSimpArgs false
namespace Go.Proofs.Ytemgbggfhohfeaa
open Go.Eng Go.ChangeShapes Go.WideShapes Go.ChangeAt Go.RowKit
/-! ### loop.example/g00499/laws.markWasteS -/
def l_laws_markWasteSW_4 (K : Nat) : Nat → Int → Int → (List T_impl_Waste) → Option (Int × (List T_impl_Waste))
  | 0, _, _, _ => none
  | n4 + 1, v1, v2, v3 => (bif (decide (v2 < (v3.length : Int))) then (if (0 : Int) ≤ v2 ∧ v2 < (v3.length : Int) then (letM (v3.set v2.toNat (T_impl_Waste.mk v1 ((gt v3 v2).fFirst) ((gt v3 v2).fTags) ((gt v3 v2).fChunks) ((gt v3 v2).fDone))) fun v7 => (if (0 : Int) ≤ v2 ∧ v2 < (v7.length : Int) then (letM (v7.set v2.toNat (T_impl_Waste.mk ((gt v7 v2).fSlot) (iAdd .i64 v1 1) ((gt v7 v2).fTags) ((gt v7 v2).fChunks) ((gt v7 v2).fDone))) fun v9 => (if (0 : Int) ≤ v2 ∧ v2 < (v9.length : Int) then ((m_laws_markIntSW K ((gt v9 v2).fTags) (iAdd .i64 (iAdd .i64 v1 1) 1)).bind fun r11 => (if r11.2.length = ((gt v9 v2).fTags).length then (letM (v9.set v2.toNat (T_impl_Waste.mk ((gt v9 v2).fSlot) ((gt v9 v2).fFirst) r11.2 ((gt v9 v2).fChunks) ((gt v9 v2).fDone))) fun v13 => (if (0 : Int) ≤ v2 ∧ v2 < (v13.length : Int) then ((m_laws_markIntSW K ((gt v13 v2).fChunks) r11.1).bind fun r15 => (if r15.2.length = ((gt v13 v2).fChunks).length then (letM (v13.set v2.toNat (T_impl_Waste.mk ((gt v13 v2).fSlot) ((gt v13 v2).fFirst) ((gt v13 v2).fTags) r15.2 ((gt v13 v2).fDone))) fun v17 => (if (0 : Int) ≤ v2 ∧ v2 < (v17.length : Int) then (letM (v17.set v2.toNat (T_impl_Waste.mk ((gt v17 v2).fSlot) ((gt v17 v2).fFirst) ((gt v17 v2).fTags) ((gt v17 v2).fChunks) r15.1)) fun v19 => (l_laws_markWasteSW_4 K n4 (iAdd .i64 r15.1 1) (iAdd .i64 v2 1) v19)) else none)) else none)) else none)) else none)) else none)) else none)) else none) else some (v1, v3))
def m_laws_markWasteSW (K : Nat) (a0 : List T_impl_Waste) (a1 : Int) : Option (Int × (List T_impl_Waste)) := (l_laws_markWasteSW_4 K K a1 0 a0)
set_option maxRecDepth 20000 in
set_option maxHeartbeats 8000000 in
theorem w_laws_markWasteSW (K : Nat) (a0 : List T_impl_Waste) (a1 : Int) (r : Int × (List T_impl_Waste)) (h : m_laws_markWasteSW K a0 a1 = some r) : Sp Try.prog 71 [.c (.own 1 0 0 a0.length), .c (.int .i64 a1)] [⟨0, 5, a0.map enD_impl_Waste⟩] (.c (.int .i64 r.1)) [⟨0, 5, r.2.map enD_impl_Waste⟩] := by
  refine Sp.of_W tabOk Try.func71 rfl rfl (Nat.le_of_ble_eq_true rfl) (Nat.le_of_ble_eq_true rfl) fun F hP hN hm => ?_
  obtain ⟨P, N, w0, σ0, β0, m⟩ := F
  obtain rfl : P = Try.prog := hP
  obtain rfl : N = 48 := hN
  obtain rfl : m = 2 := hm
  have he : Env ⟨Try.prog, 48, w0, σ0, β0, 2⟩ tab := ⟨Nat.le_of_ble_eq_true rfl, tabOk⟩
  unfold m_laws_markWasteSW at h
  refine W_seq ?_
  refine W_regV he rfl ?_
  refine v0 (sA rfl [] rfl) rfl ?_
  refine ve ?_
  refine W2 [0, 1] [] [1] (l := [(0, .c (.own _ _ _ _)), (1, .c (.int _ _))]) (h := []) (h' := [(1, ⟨0, 5, a0.map enD_impl_Waste⟩)]) ⟨⟨_, rfl, enDOk_impl_Waste.allClosed _ _ a0⟩, trivial⟩ rfl rfl rfl ?_
  refine W_seq ?_
  refine W_seq ?_
  refine W_regV he rfl ?_
  refine v0 (sA rfl [] rfl) rfl ?_
  refine ve ?_
  refine W2 [0, 1, 5] [] [1] (l := [(0, .c (.own _ _ _ _)), (1, .c (.int _ _)), (5, .c (.int _ _))]) (h := []) (h' := [(1, ⟨0, 5, a0.map enD_impl_Waste⟩)]) ⟨⟨_, rfl, enDOk_impl_Waste.allClosed _ _ a0⟩, trivial⟩ rfl rfl rfl ?_
  refine W_block ?_
  refine W2 [0, 1, 5] [] [1] (l := [(0, .c (.own _ _ _ _)), (1, .c (.int _ _)), (5, .c (.int _ _))]) (h := []) (h' := [(1, ⟨0, 5, a0.map enD_impl_Waste⟩)]) ⟨⟨_, rfl, enDOk_impl_Waste.allClosed _ _ a0⟩, trivial⟩ rfl rfl rfl ?_
  refine W_loopW (fun n4 S => ∃ (v1 : Int), ∃ (v2 : Int), ∃ (v3 : List T_impl_Waste), S = StL [(0, .c (.own 1 0 0 v3.length)), (1, .c (.int .i64 v1)), (5, .c (.int .i64 v2))] ([] ++ [(1, ⟨0, 5, v3.map enD_impl_Waste⟩)]) ∧ l_laws_markWasteSW_4 K n4 v1 v2 v3 = some r) K ⟨_, _, _, rfl, h⟩ ?_
  rintro n4 S ⟨v1, v2, v3, rfl, h⟩
  cases n4 with
  | zero => simp [l_laws_markWasteSW_4] at h
  | succ n4 =>
    rw [l_laws_markWasteSW_4] at h
    refine W_seq ?_
    refine W_seq ?_
    refine W_regV he rfl ?_
    refine v0 (sM rfl [] rfl) rfl ?_
    refine v0 (sM rfl [] rfl) rfl ?_
    refine v0 (sLo rfl rfl rfl rfl) rfl ?_
    refine vB (sBi rfl rfl rfl rfl) rfl rfl fun b5 hb5 => ?_
    cases b5 with
    | true =>
      replace h := brT hb5 h
      refine ve ?_
      refine W2 [0, 1, 5, 9] [] [1] (l := [(0, .c (.own _ _ _ _)), (1, .c (.int _ _)), (5, .c (.int _ _)), (9, .c (.bool true))]) (h := []) (h' := [(1, ⟨0, 5, v3.map enD_impl_Waste⟩)]) ⟨⟨_, rfl, enDOk_impl_Waste.allClosed _ _ v3⟩, trivial⟩ rfl rfl rfl ?_
      refine W_true rfl ?_
      refine W_skip ?_
      refine W_seq ?_
      refine W_block ?_
      refine W_seq ?_
      refine W_regV he rfl ?_
      refine v0 (sM rfl [] rfl) rfl ?_
      refine v0 (sM rfl [] rfl) rfl ?_
      refine v0 (sM rfl [] rfl) rfl ?_
      refine chkc h ?_; clear h; intro c6 h
      refine v0 (sIOm rfl rfl rfl c6) rfl ?_
      refine v0 (sFP rfl rfl rfl) rfl ?_
      refine v0 (sSkf rfl rfl [] v3 (T_impl_Waste.mk v1 ((gt v3 v2).fFirst) ((gt v3 v2).fTags) ((gt v3 v2).fChunks) ((gt v3 v2).fDone)) c6 rfl rfl rfl rfl rfl rfl rfl rfl rfl) rfl ?_
      refine letc h ?_; clear h; intro v7 hv7 h; rw [← hv7]
      refine ve ?_
      refine W.weak (wk_len 0 (n' := v7.length) (by simp only [List.length_set, hv7]) rfl) ?_
      refine W2 [0, 1, 5] [] [1] (l := [(0, .c (.own _ _ _ _)), (1, .c (.int _ _)), (5, .c (.int _ _))]) (h := []) (h' := [(1, ⟨0, 5, v7.map enD_impl_Waste⟩)]) ⟨⟨_, rfl, enDOk_impl_Waste.allClosed _ _ v7⟩, trivial⟩ rfl rfl rfl ?_
      refine W_seq ?_
      refine W_regV he rfl ?_
      refine v0 (sM rfl [] rfl) rfl ?_
      refine v0 (sBi rfl rfl rfl rfl) rfl ?_
      refine v0 (sA rfl [] rfl) rfl ?_
      refine ve ?_
      refine W2 [0, 1, 5] [] [1] (l := [(0, .c (.own _ _ _ _)), (1, .c (.int _ _)), (5, .c (.int _ _))]) (h := []) (h' := [(1, ⟨0, 5, v7.map enD_impl_Waste⟩)]) ⟨⟨_, rfl, enDOk_impl_Waste.allClosed _ _ v7⟩, trivial⟩ rfl rfl rfl ?_
      refine W_seq ?_
      refine W_regV he rfl ?_
      refine v0 (sM rfl [] rfl) rfl ?_
      refine v0 (sM rfl [] rfl) rfl ?_
      refine v0 (sM rfl [] rfl) rfl ?_
      refine chkc h ?_; clear h; intro c8 h
      refine v0 (sIOm rfl rfl rfl c8) rfl ?_
      refine v0 (sFP rfl rfl rfl) rfl ?_
      refine v0 (sSkf rfl rfl [] v7 (T_impl_Waste.mk ((gt v7 v2).fSlot) (iAdd .i64 v1 1) ((gt v7 v2).fTags) ((gt v7 v2).fChunks) ((gt v7 v2).fDone)) c8 rfl rfl rfl rfl rfl rfl rfl rfl rfl) rfl ?_
      refine letc h ?_; clear h; intro v9 hv9 h; rw [← hv9]
      refine ve ?_
      refine W.weak (wk_len 0 (n' := v9.length) (by simp only [List.length_set, hv7, hv9]) rfl) ?_
      refine W2 [0, 1, 5] [] [1] (l := [(0, .c (.own _ _ _ _)), (1, .c (.int _ _)), (5, .c (.int _ _))]) (h := []) (h' := [(1, ⟨0, 5, v9.map enD_impl_Waste⟩)]) ⟨⟨_, rfl, enDOk_impl_Waste.allClosed _ _ v9⟩, trivial⟩ rfl rfl rfl ?_
      refine W_seq ?_
      refine W_regV he rfl ?_
      refine v0 (sM rfl [] rfl) rfl ?_
      refine v0 (sBi rfl rfl rfl rfl) rfl ?_
      refine v0 (sA rfl [] rfl) rfl ?_
      refine ve ?_
      refine W2 [0, 1, 5] [] [1] (l := [(0, .c (.own _ _ _ _)), (1, .c (.int _ _)), (5, .c (.int _ _))]) (h := []) (h' := [(1, ⟨0, 5, v9.map enD_impl_Waste⟩)]) ⟨⟨_, rfl, enDOk_impl_Waste.allClosed _ _ v9⟩, trivial⟩ rfl rfl rfl ?_
      refine W_seq ?_
      refine W_regV he rfl ?_
      refine v0 (sM rfl [] rfl) rfl ?_
      refine v0 (sM rfl [] rfl) rfl ?_
      refine chkc h ?_; clear h; intro c10 h
      refine v0 (sIOm rfl rfl rfl c10) rfl ?_
      refine v0 (sFP rfl rfl rfl) rfl ?_
      refine vTake he v9 ((gt v9 v2).fTags) 1 3001 2 c10 rfl rfl rfl rfl ?_
      refine v0 (sLnE rfl v9 c10 rfl rfl rfl rfl rfl rfl) rfl ?_
      refine v0 (sM rfl [] rfl) rfl ?_
      refine bndc h ?_; clear h; intro r11 hr11 h
      refine chkc h ?_; clear h; intro c12 h
      refine v0 (sCw (w_laws_markIntSW K ((gt v9 v2).fTags) (iAdd .i64 (iAdd .i64 v1 1) 1) _ hr11) ok_laws_markIntS enOk_i64 c12 3001 rfl rfl rfl rfl rfl rfl) rfl ?_
      refine vPut he v9 r11.2 1 3001 2 c10 rfl rfl rfl rfl rfl c12.symm (enOk_i64.allClosed _ _ _) rfl ?_
      refine vFold v9 (T_impl_Waste.mk ((gt v9 v2).fSlot) ((gt v9 v2).fFirst) r11.2 ((gt v9 v2).fChunks) ((gt v9 v2).fDone)) 1 rfl rfl ?_
      refine letc h ?_; clear h; intro v13 hv13 h; rw [← hv13]
      refine v0 (sA rfl [] rfl) rfl ?_
      refine ve ?_
      refine W.weak (wk_len 0 (n' := v13.length) (by simp only [List.length_set, hv7, hv9, c12, hv13]) rfl) ?_
      refine W2 [0, 1, 5] [] [1] (l := [(0, .c (.own _ _ _ _)), (1, .c (.int _ _)), (5, .c (.int _ _))]) (h := []) (h' := [(1, ⟨0, 5, v13.map enD_impl_Waste⟩)]) ⟨⟨_, rfl, enDOk_impl_Waste.allClosed _ _ v13⟩, trivial⟩ rfl rfl rfl ?_
      refine W_seq ?_
      refine W_regV he rfl ?_
      refine v0 (sM rfl [] rfl) rfl ?_
      refine v0 (sM rfl [] rfl) rfl ?_
      refine chkc h ?_; clear h; intro c14 h
      refine v0 (sIOm rfl rfl rfl c14) rfl ?_
      refine v0 (sFP rfl rfl rfl) rfl ?_
      refine vTake he v13 ((gt v13 v2).fChunks) 1 3002 3 c14 rfl rfl rfl rfl ?_
      refine v0 (sLnE rfl v13 c14 rfl rfl rfl rfl rfl rfl) rfl ?_
      refine v0 (sM rfl [] rfl) rfl ?_
      refine bndc h ?_; clear h; intro r15 hr15 h
      refine chkc h ?_; clear h; intro c16 h
      refine v0 (sCw (w_laws_markIntSW K ((gt v13 v2).fChunks) r11.1 _ hr15) ok_laws_markIntS enOk_i64 c16 3002 rfl rfl rfl rfl rfl rfl) rfl ?_
      refine vPut he v13 r15.2 1 3002 3 c14 rfl rfl rfl rfl rfl c16.symm (enOk_i64.allClosed _ _ _) rfl ?_
      refine vFold v13 (T_impl_Waste.mk ((gt v13 v2).fSlot) ((gt v13 v2).fFirst) ((gt v13 v2).fTags) r15.2 ((gt v13 v2).fDone)) 1 rfl rfl ?_
      refine letc h ?_; clear h; intro v17 hv17 h; rw [← hv17]
      refine v0 (sA rfl [] rfl) rfl ?_
      refine ve ?_
      refine W.weak (wk_len 0 (n' := v17.length) (by simp only [List.length_set, hv7, hv9, c12, hv13, c16, hv17]) rfl) ?_
      refine W2 [0, 1, 5] [] [1] (l := [(0, .c (.own _ _ _ _)), (1, .c (.int _ _)), (5, .c (.int _ _))]) (h := []) (h' := [(1, ⟨0, 5, v17.map enD_impl_Waste⟩)]) ⟨⟨_, rfl, enDOk_impl_Waste.allClosed _ _ v17⟩, trivial⟩ rfl rfl rfl ?_
      refine W_seq ?_
      refine W_regV he rfl ?_
      refine v0 (sM rfl [] rfl) rfl ?_
      refine v0 (sM rfl [] rfl) rfl ?_
      refine v0 (sM rfl [] rfl) rfl ?_
      refine chkc h ?_; clear h; intro c18 h
      refine v0 (sIOm rfl rfl rfl c18) rfl ?_
      refine v0 (sFP rfl rfl rfl) rfl ?_
      refine v0 (sSkf rfl rfl [] v17 (T_impl_Waste.mk ((gt v17 v2).fSlot) ((gt v17 v2).fFirst) ((gt v17 v2).fTags) ((gt v17 v2).fChunks) r15.1) c18 rfl rfl rfl rfl rfl rfl rfl rfl rfl) rfl ?_
      refine letc h ?_; clear h; intro v19 hv19 h; rw [← hv19]
      refine ve ?_
      refine W.weak (wk_len 0 (n' := v19.length) (by simp only [List.length_set, hv7, hv9, c12, hv13, c16, hv17, hv19]) rfl) ?_
      refine W2 [0, 1, 5] [] [1] (l := [(0, .c (.own _ _ _ _)), (1, .c (.int _ _)), (5, .c (.int _ _))]) (h := []) (h' := [(1, ⟨0, 5, v19.map enD_impl_Waste⟩)]) ⟨⟨_, rfl, enDOk_impl_Waste.allClosed _ _ v19⟩, trivial⟩ rfl rfl rfl ?_
      refine W_regV he rfl ?_
      refine v0 (sM rfl [] rfl) rfl ?_
      refine v0 (sBi rfl rfl rfl rfl) rfl ?_
      refine v0 (sA rfl [] rfl) rfl ?_
      refine ve ?_
      refine W2 [0, 1, 5] [] [1] (l := [(0, .c (.own _ _ _ _)), (1, .c (.int _ _)), (5, .c (.int _ _))]) (h := []) (h' := [(1, ⟨0, 5, v19.map enD_impl_Waste⟩)]) ⟨⟨_, rfl, enDOk_impl_Waste.allClosed _ _ v19⟩, trivial⟩ rfl rfl rfl ?_
      refine W_regV he rfl ?_
      refine v0 (sM rfl [] rfl) rfl ?_
      refine v0 (sBi rfl rfl rfl rfl) rfl ?_
      refine v0 (sA rfl [] rfl) rfl ?_
      refine ve ?_
      exact ⟨n4, _, Nat.lt_succ_self n4, wk2 [0, 1, 5] [] [1] (l := [(0, .c (.own _ _ _ _)), (1, .c (.int _ _)), (5, .c (.int _ _))]) (h := []) (h' := [(1, ⟨0, 5, v19.map enD_impl_Waste⟩)]) ⟨⟨_, rfl, enDOk_impl_Waste.allClosed _ _ v19⟩, trivial⟩ rfl rfl rfl, _, _, _, rfl, h⟩
    | false =>
      replace h := brF hb5 h
      refine ve ?_
      refine W2 [0, 1, 5, 9] [] [1] (l := [(0, .c (.own _ _ _ _)), (1, .c (.int _ _)), (5, .c (.int _ _)), (9, .c (.bool false))]) (h := []) (h' := [(1, ⟨0, 5, v3.map enD_impl_Waste⟩)]) ⟨⟨_, rfl, enDOk_impl_Waste.allClosed _ _ v3⟩, trivial⟩ rfl rfl rfl ?_
      refine W_false rfl ?_
      refine W_exit (ex_then (ex_then (ex_hit ?_)))
      refine W_seq ?_
      refine W_regV he rfl ?_
      refine v0 (sM rfl [] rfl) rfl ?_
      refine v0 (sA rfl [] rfl) rfl ?_
      refine ve ?_
      refine W2 [4] [] [1] (l := [(4, .c (.int _ _))]) (h := []) (h' := [(1, ⟨0, 5, v3.map enD_impl_Waste⟩)]) ⟨⟨_, rfl, enDOk_impl_Waste.allClosed _ _ v3⟩, trivial⟩ rfl rfl rfl ?_
      obtain rfl := Option.some.inj h
      exact W_ret (retG 1 [1] (by decide) rfl rfl rfl rfl (bl_cons (see_EnD enDOk_impl_Waste rfl) (bl_nil)))
theorem ok_laws_markWasteS : FnOk Try.prog 71 := ⟨_, Try.func71, rfl, rfl⟩


/-! ### loop.example/g00499/laws.markWorld -/
def m_laws_markWorldW (K : Nat) (a0 : T_impl_World) (a1 : Int) : Option (Int × (List Int) × (List Int) × (List Int) × (List T_impl_Node) × (List T_impl_Waste) × (List Int)) := ((m_laws_markPoolW K a0.fP a1).bind fun r1 => (if r1.2.1.length = a0.fP.fMem.length ∧ r1.2.2.1.length = a0.fP.fSt.length ∧ r1.2.2.2.length = a0.fP.fOwn.length then ((m_laws_markNodeSW K a0.fL r1.1).bind fun r3 => (if r3.2.length = a0.fL.length then ((m_laws_markWasteSW K a0.fQ r3.1).bind fun r5 => (if r5.2.length = a0.fQ.length then ((m_laws_markIntSW K a0.fLog r5.1).bind fun r7 => (if r7.2.length = a0.fLog.length then some (r7.1, r1.2.1, r1.2.2.1, r1.2.2.2, r3.2, r5.2, r7.2) else none)) else none)) else none)) else none))
set_option maxRecDepth 20000 in
set_option maxHeartbeats 8000000 in
theorem w_laws_markWorldW (K : Nat) (a0 : T_impl_World) (a1 : Int) (r : Int × (List Int) × (List Int) × (List Int) × (List T_impl_Node) × (List T_impl_Waste) × (List Int)) (h : m_laws_markWorldW K a0 a1 = some r) : Sp Try.prog 30 [.g [.int .i64 a0.fC.fChunks, .int .i64 a0.fC.fSize, .int .i64 a0.fC.fSlots, .int .i64 a0.fC.fTax, .int .i64 a0.fC.fSlice, .int .i64 a0.fC.fGens, .own 1 0 0 a0.fP.fMem.length, .own 2 0 0 a0.fP.fSt.length, .own 3 0 0 a0.fP.fOwn.length, .own 4 0 0 a0.fL.length, .own 5 0 0 a0.fQ.length, .own 6 0 0 a0.fLog.length], .c (.int .i64 a1)] [⟨0, 1, a0.fP.fMem.map en_u8⟩, ⟨0, 1, a0.fP.fSt.map en_i64⟩, ⟨0, 1, a0.fP.fOwn.map en_i64⟩, ⟨0, 13, a0.fL.map enD_impl_Node⟩, ⟨0, 5, a0.fQ.map enD_impl_Waste⟩, ⟨0, 1, a0.fLog.map en_i64⟩] (.c (.int .i64 r.1)) [⟨0, 1, r.2.1.map en_u8⟩, ⟨0, 1, r.2.2.1.map en_i64⟩, ⟨0, 1, r.2.2.2.1.map en_i64⟩, ⟨0, 13, r.2.2.2.2.1.map enD_impl_Node⟩, ⟨0, 5, r.2.2.2.2.2.1.map enD_impl_Waste⟩, ⟨0, 1, r.2.2.2.2.2.2.map en_i64⟩] := by
  refine Sp.of_W tabOk Try.func30 rfl rfl (Nat.le_of_ble_eq_true rfl) (Nat.le_of_ble_eq_true rfl) fun F hP hN hm => ?_
  obtain ⟨P, N, w0, σ0, β0, m⟩ := F
  obtain rfl : P = Try.prog := hP
  obtain rfl : N = 22 := hN
  obtain rfl : m = 7 := hm
  have he : Env ⟨Try.prog, 22, w0, σ0, β0, 7⟩ tab := ⟨Nat.le_of_ble_eq_true rfl, tabOk⟩
  unfold m_laws_markWorldW at h
  refine W_seq ?_
  refine W_regV he rfl ?_
  refine v0 (sBx rfl [] rfl rfl 101 rfl) rfl ?_
  refine v0 (sA rfl [] rfl) rfl ?_
  refine ve ?_
  refine W2 [1, 2] [101] [1, 2, 3, 4, 5, 6] (l := [(1, .c (.int _ _)), (2, .c (.ptr _ _ _ _))]) (h := [(101, ⟨0, 12, [[.int _ _, .int _ _, .int _ _, .int _ _, .int _ _, .int _ _, .own _ _ _ _, .own _ _ _ _, .own _ _ _ _, .own _ _ _ _, .own _ _ _ _, .own _ _ _ _]]⟩)]) (h' := [(1, ⟨0, 1, a0.fP.fMem.map en_u8⟩), (2, ⟨0, 1, a0.fP.fSt.map en_i64⟩), (3, ⟨0, 1, a0.fP.fOwn.map en_i64⟩), (4, ⟨0, 13, a0.fL.map enD_impl_Node⟩), (5, ⟨0, 5, a0.fQ.map enD_impl_Waste⟩), (6, ⟨0, 1, a0.fLog.map en_i64⟩)]) ⟨⟨_, rfl, enOk_u8.allClosed _ _ a0.fP.fMem⟩, ⟨⟨_, rfl, enOk_i64.allClosed _ _ a0.fP.fSt⟩, ⟨⟨_, rfl, enOk_i64.allClosed _ _ a0.fP.fOwn⟩, ⟨⟨_, rfl, enDOk_impl_Node.allClosed _ _ a0.fL⟩, ⟨⟨_, rfl, enDOk_impl_Waste.allClosed _ _ a0.fQ⟩, ⟨⟨_, rfl, enOk_i64.allClosed _ _ a0.fLog⟩, trivial⟩⟩⟩⟩⟩⟩ rfl rfl rfl ?_
  refine W_seq ?_
  refine W_regV he rfl ?_
  refine v0 (sFP rfl rfl rfl) rfl ?_
  refine v0 (sLd rfl rfl) rfl ?_
  refine v0 (sM rfl [] rfl) rfl ?_
  refine bndc h ?_; clear h; intro r1 hr1 h
  refine chkc h ?_; clear h; intro c2 h
  refine v0 (sCg (w_laws_markPoolW K a0.fP a1 _ hr1) ok_laws_markPool false [1, 2, 3] [] [1, 2, 3] (U := [(1, some ⟨0, 1, r1.2.1.map en_u8⟩), (2, some ⟨0, 1, r1.2.2.1.map en_i64⟩), (3, some ⟨0, 1, r1.2.2.2.map en_i64⟩)]) (bm := []) rfl rfl rfl (bl_cons (see_En enOk_u8 rfl) (bl_cons (see_En enOk_i64 rfl) (bl_cons (see_En enOk_i64 rfl) (bl_nil)))) (by decide) rfl rfl rfl rfl (sl_cons rfl (by simp only [List.length_map]; exact c2.1.symm) (sl_cons rfl (by simp only [List.length_map]; exact c2.2.1.symm) (sl_cons rfl (by simp only [List.length_map]; exact c2.2.2.symm) (sl_nil)))) (ul_cons rfl (enOk_u8.back _ _ _) (ul_cons rfl (enOk_i64.back _ _ _) (ul_cons rfl (enOk_i64.back _ _ _) (ul_nil)))) rfl rfl) rfl ?_
  refine v0 (sA rfl [] rfl) rfl ?_
  refine ve ?_
  refine W2 [1, 2] [101] [1, 2, 3, 4, 5, 6] (l := [(1, .c (.int _ _)), (2, .c (.ptr _ _ _ _))]) (h := [(101, ⟨0, 12, [[.int _ _, .int _ _, .int _ _, .int _ _, .int _ _, .int _ _, .own _ _ _ _, .own _ _ _ _, .own _ _ _ _, .own _ _ _ _, .own _ _ _ _, .own _ _ _ _]]⟩)]) (h' := [(1, ⟨0, 1, r1.2.1.map en_u8⟩), (2, ⟨0, 1, r1.2.2.1.map en_i64⟩), (3, ⟨0, 1, r1.2.2.2.map en_i64⟩), (4, ⟨0, 13, a0.fL.map enD_impl_Node⟩), (5, ⟨0, 5, a0.fQ.map enD_impl_Waste⟩), (6, ⟨0, 1, a0.fLog.map en_i64⟩)]) ⟨⟨_, rfl, enOk_u8.allClosed _ _ r1.2.1⟩, ⟨⟨_, rfl, enOk_i64.allClosed _ _ r1.2.2.1⟩, ⟨⟨_, rfl, enOk_i64.allClosed _ _ r1.2.2.2⟩, ⟨⟨_, rfl, enDOk_impl_Node.allClosed _ _ a0.fL⟩, ⟨⟨_, rfl, enDOk_impl_Waste.allClosed _ _ a0.fQ⟩, ⟨⟨_, rfl, enOk_i64.allClosed _ _ a0.fLog⟩, trivial⟩⟩⟩⟩⟩⟩ rfl rfl rfl ?_
  refine W_seq ?_
  refine W_regV he rfl ?_
  refine v0 (sFP rfl rfl rfl) rfl ?_
  refine v0 (sLd rfl rfl) rfl ?_
  refine v0 (sM rfl [] rfl) rfl ?_
  refine bndc h ?_; clear h; intro r3 hr3 h
  refine chkc h ?_; clear h; intro c4 h
  refine v0 (sCg (w_laws_markNodeSW K a0.fL r1.1 _ hr3) ok_laws_markNodeS false [4] [] [4] (U := [(4, some ⟨0, 13, r3.2.map enD_impl_Node⟩)]) (bm := []) rfl rfl rfl (bl_cons (see_EnD enDOk_impl_Node rfl) (bl_nil)) (by decide) rfl rfl rfl rfl (sl_cons rfl (by simp only [List.length_map]; exact c4.symm) (sl_nil)) (ul_cons rfl (enDOk_impl_Node.back _ _ _) (ul_nil)) rfl rfl) rfl ?_
  refine v0 (sA rfl [] rfl) rfl ?_
  refine ve ?_
  refine W2 [1, 2] [101] [1, 2, 3, 4, 5, 6] (l := [(1, .c (.int _ _)), (2, .c (.ptr _ _ _ _))]) (h := [(101, ⟨0, 12, [[.int _ _, .int _ _, .int _ _, .int _ _, .int _ _, .int _ _, .own _ _ _ _, .own _ _ _ _, .own _ _ _ _, .own _ _ _ _, .own _ _ _ _, .own _ _ _ _]]⟩)]) (h' := [(1, ⟨0, 1, r1.2.1.map en_u8⟩), (2, ⟨0, 1, r1.2.2.1.map en_i64⟩), (3, ⟨0, 1, r1.2.2.2.map en_i64⟩), (4, ⟨0, 13, r3.2.map enD_impl_Node⟩), (5, ⟨0, 5, a0.fQ.map enD_impl_Waste⟩), (6, ⟨0, 1, a0.fLog.map en_i64⟩)]) ⟨⟨_, rfl, enOk_u8.allClosed _ _ r1.2.1⟩, ⟨⟨_, rfl, enOk_i64.allClosed _ _ r1.2.2.1⟩, ⟨⟨_, rfl, enOk_i64.allClosed _ _ r1.2.2.2⟩, ⟨⟨_, rfl, enDOk_impl_Node.allClosed _ _ r3.2⟩, ⟨⟨_, rfl, enDOk_impl_Waste.allClosed _ _ a0.fQ⟩, ⟨⟨_, rfl, enOk_i64.allClosed _ _ a0.fLog⟩, trivial⟩⟩⟩⟩⟩⟩ rfl rfl rfl ?_
  refine W_seq ?_
  refine W_regV he rfl ?_
  refine v0 (sFP rfl rfl rfl) rfl ?_
  refine v0 (sLd rfl rfl) rfl ?_
  refine v0 (sM rfl [] rfl) rfl ?_
  refine bndc h ?_; clear h; intro r5 hr5 h
  refine chkc h ?_; clear h; intro c6 h
  refine v0 (sCg (w_laws_markWasteSW K a0.fQ r3.1 _ hr5) ok_laws_markWasteS false [5] [] [5] (U := [(5, some ⟨0, 5, r5.2.map enD_impl_Waste⟩)]) (bm := []) rfl rfl rfl (bl_cons (see_EnD enDOk_impl_Waste rfl) (bl_nil)) (by decide) rfl rfl rfl rfl (sl_cons rfl (by simp only [List.length_map]; exact c6.symm) (sl_nil)) (ul_cons rfl (enDOk_impl_Waste.back _ _ _) (ul_nil)) rfl rfl) rfl ?_
  refine v0 (sA rfl [] rfl) rfl ?_
  refine ve ?_
  refine W2 [1, 2] [101] [1, 2, 3, 4, 5, 6] (l := [(1, .c (.int _ _)), (2, .c (.ptr _ _ _ _))]) (h := [(101, ⟨0, 12, [[.int _ _, .int _ _, .int _ _, .int _ _, .int _ _, .int _ _, .own _ _ _ _, .own _ _ _ _, .own _ _ _ _, .own _ _ _ _, .own _ _ _ _, .own _ _ _ _]]⟩)]) (h' := [(1, ⟨0, 1, r1.2.1.map en_u8⟩), (2, ⟨0, 1, r1.2.2.1.map en_i64⟩), (3, ⟨0, 1, r1.2.2.2.map en_i64⟩), (4, ⟨0, 13, r3.2.map enD_impl_Node⟩), (5, ⟨0, 5, r5.2.map enD_impl_Waste⟩), (6, ⟨0, 1, a0.fLog.map en_i64⟩)]) ⟨⟨_, rfl, enOk_u8.allClosed _ _ r1.2.1⟩, ⟨⟨_, rfl, enOk_i64.allClosed _ _ r1.2.2.1⟩, ⟨⟨_, rfl, enOk_i64.allClosed _ _ r1.2.2.2⟩, ⟨⟨_, rfl, enDOk_impl_Node.allClosed _ _ r3.2⟩, ⟨⟨_, rfl, enDOk_impl_Waste.allClosed _ _ r5.2⟩, ⟨⟨_, rfl, enOk_i64.allClosed _ _ a0.fLog⟩, trivial⟩⟩⟩⟩⟩⟩ rfl rfl rfl ?_
  refine W_seq ?_
  refine W_regV he rfl ?_
  refine v0 (sFP rfl rfl rfl) rfl ?_
  refine v0 (sLd rfl rfl) rfl ?_
  refine v0 (sM rfl [] rfl) rfl ?_
  refine bndc h ?_; clear h; intro r7 hr7 h
  refine chkc h ?_; clear h; intro c8 h
  refine v0 (sCw (w_laws_markIntSW K a0.fLog r5.1 _ hr7) ok_laws_markIntS enOk_i64 c8 6 rfl rfl rfl rfl rfl rfl) rfl ?_
  refine v0 (sA rfl [] rfl) rfl ?_
  refine ve ?_
  refine W2 [1] [] [1, 2, 3, 4, 5, 6] (l := [(1, .c (.int _ _))]) (h := []) (h' := [(1, ⟨0, 1, r1.2.1.map en_u8⟩), (2, ⟨0, 1, r1.2.2.1.map en_i64⟩), (3, ⟨0, 1, r1.2.2.2.map en_i64⟩), (4, ⟨0, 13, r3.2.map enD_impl_Node⟩), (5, ⟨0, 5, r5.2.map enD_impl_Waste⟩), (6, ⟨0, 1, r7.2.map en_i64⟩)]) ⟨⟨_, rfl, enOk_u8.allClosed _ _ r1.2.1⟩, ⟨⟨_, rfl, enOk_i64.allClosed _ _ r1.2.2.1⟩, ⟨⟨_, rfl, enOk_i64.allClosed _ _ r1.2.2.2⟩, ⟨⟨_, rfl, enDOk_impl_Node.allClosed _ _ r3.2⟩, ⟨⟨_, rfl, enDOk_impl_Waste.allClosed _ _ r5.2⟩, ⟨⟨_, rfl, enOk_i64.allClosed _ _ r7.2⟩, trivial⟩⟩⟩⟩⟩⟩ rfl rfl rfl ?_
  refine W_seq ?_
  refine W_regV he rfl ?_
  refine v0 (sM rfl [] rfl) rfl ?_
  refine v0 (sA rfl [] rfl) rfl ?_
  refine ve ?_
  refine W2 [4] [] [1, 2, 3, 4, 5, 6] (l := [(4, .c (.int _ _))]) (h := []) (h' := [(1, ⟨0, 1, r1.2.1.map en_u8⟩), (2, ⟨0, 1, r1.2.2.1.map en_i64⟩), (3, ⟨0, 1, r1.2.2.2.map en_i64⟩), (4, ⟨0, 13, r3.2.map enD_impl_Node⟩), (5, ⟨0, 5, r5.2.map enD_impl_Waste⟩), (6, ⟨0, 1, r7.2.map en_i64⟩)]) ⟨⟨_, rfl, enOk_u8.allClosed _ _ r1.2.1⟩, ⟨⟨_, rfl, enOk_i64.allClosed _ _ r1.2.2.1⟩, ⟨⟨_, rfl, enOk_i64.allClosed _ _ r1.2.2.2⟩, ⟨⟨_, rfl, enDOk_impl_Node.allClosed _ _ r3.2⟩, ⟨⟨_, rfl, enDOk_impl_Waste.allClosed _ _ r5.2⟩, ⟨⟨_, rfl, enOk_i64.allClosed _ _ r7.2⟩, trivial⟩⟩⟩⟩⟩⟩ rfl rfl rfl ?_
  obtain rfl := Option.some.inj h
  exact W_ret (retG 6 [1, 2, 3, 4, 5, 6] (by decide) rfl rfl rfl rfl (bl_cons (see_En enOk_u8 rfl) (bl_cons (see_En enOk_i64 rfl) (bl_cons (see_En enOk_i64 rfl) (bl_cons (see_EnD enDOk_impl_Node rfl) (bl_cons (see_EnD enDOk_impl_Waste rfl) (bl_cons (see_En enOk_i64 rfl) (bl_nil))))))))
theorem ok_laws_markWorld : FnOk Try.prog 30 := ⟨_, Try.func30, rfl, rfl⟩


/-! ### loop.example/g00499/laws.markHandleS -/
def l_laws_markHandleSW_4 (K : Nat) : Nat → Int → Int → (List T_impl_Handle) → Option (Int × (List T_impl_Handle))
  | 0, _, _, _ => none
  | n4 + 1, v1, v2, v3 => (bif (decide (v2 < (v3.length : Int))) then (if (0 : Int) ≤ v2 ∧ v2 < (v3.length : Int) then (letM (v3.set v2.toNat (T_impl_Handle.mk v1 ((gt v3 v2).fGen))) fun v7 => (if (0 : Int) ≤ v2 ∧ v2 < (v7.length : Int) then (letM (v7.set v2.toNat (T_impl_Handle.mk ((gt v7 v2).fSlot) (iAdd .i64 v1 1))) fun v9 => (l_laws_markHandleSW_4 K n4 (iAdd .i64 (iAdd .i64 v1 1) 1) (iAdd .i64 v2 1) v9)) else none)) else none) else some (v1, v3))
def m_laws_markHandleSW (K : Nat) (a0 : List T_impl_Handle) (a1 : Int) : Option (Int × (List T_impl_Handle)) := (l_laws_markHandleSW_4 K K a1 0 a0)
set_option maxRecDepth 20000 in
set_option maxHeartbeats 8000000 in
theorem w_laws_markHandleSW (K : Nat) (a0 : List T_impl_Handle) (a1 : Int) (r : Int × (List T_impl_Handle)) (h : m_laws_markHandleSW K a0 a1 = some r) : Sp Try.prog 38 [.c (.own 1 0 0 a0.length), .c (.int .i64 a1)] [⟨0, 2, a0.map en_impl_Handle⟩] (.c (.int .i64 r.1)) [⟨0, 2, r.2.map en_impl_Handle⟩] := by
  refine Sp.of_W tabOk Try.func38 rfl rfl (Nat.le_of_ble_eq_true rfl) (Nat.le_of_ble_eq_true rfl) fun F hP hN hm => ?_
  obtain ⟨P, N, w0, σ0, β0, m⟩ := F
  obtain rfl : P = Try.prog := hP
  obtain rfl : N = 27 := hN
  obtain rfl : m = 2 := hm
  have he : Env ⟨Try.prog, 27, w0, σ0, β0, 2⟩ tab := ⟨Nat.le_of_ble_eq_true rfl, tabOk⟩
  unfold m_laws_markHandleSW at h
  refine W_seq ?_
  refine W_regV he rfl ?_
  refine v0 (sA rfl [] rfl) rfl ?_
  refine ve ?_
  refine W2 [0, 1] [] [1] (l := [(0, .c (.own _ _ _ _)), (1, .c (.int _ _))]) (h := []) (h' := [(1, ⟨0, 2, a0.map en_impl_Handle⟩)]) ⟨⟨_, rfl, enOk_impl_Handle.allClosed _ _ a0⟩, trivial⟩ rfl rfl rfl ?_
  refine W_seq ?_
  refine W_seq ?_
  refine W_regV he rfl ?_
  refine v0 (sA rfl [] rfl) rfl ?_
  refine ve ?_
  refine W2 [0, 1, 5] [] [1] (l := [(0, .c (.own _ _ _ _)), (1, .c (.int _ _)), (5, .c (.int _ _))]) (h := []) (h' := [(1, ⟨0, 2, a0.map en_impl_Handle⟩)]) ⟨⟨_, rfl, enOk_impl_Handle.allClosed _ _ a0⟩, trivial⟩ rfl rfl rfl ?_
  refine W_block ?_
  refine W2 [0, 1, 5] [] [1] (l := [(0, .c (.own _ _ _ _)), (1, .c (.int _ _)), (5, .c (.int _ _))]) (h := []) (h' := [(1, ⟨0, 2, a0.map en_impl_Handle⟩)]) ⟨⟨_, rfl, enOk_impl_Handle.allClosed _ _ a0⟩, trivial⟩ rfl rfl rfl ?_
  refine W_loopW (fun n4 S => ∃ (v1 : Int), ∃ (v2 : Int), ∃ (v3 : List T_impl_Handle), S = StL [(0, .c (.own 1 0 0 v3.length)), (1, .c (.int .i64 v1)), (5, .c (.int .i64 v2))] ([] ++ [(1, ⟨0, 2, v3.map en_impl_Handle⟩)]) ∧ l_laws_markHandleSW_4 K n4 v1 v2 v3 = some r) K ⟨_, _, _, rfl, h⟩ ?_
  rintro n4 S ⟨v1, v2, v3, rfl, h⟩
  cases n4 with
  | zero => simp [l_laws_markHandleSW_4] at h
  | succ n4 =>
    rw [l_laws_markHandleSW_4] at h
    refine W_seq ?_
    refine W_seq ?_
    refine W_regV he rfl ?_
    refine v0 (sM rfl [] rfl) rfl ?_
    refine v0 (sM rfl [] rfl) rfl ?_
    refine v0 (sLo rfl rfl rfl rfl) rfl ?_
    refine vB (sBi rfl rfl rfl rfl) rfl rfl fun b5 hb5 => ?_
    cases b5 with
    | true =>
      replace h := brT hb5 h
      refine ve ?_
      refine W2 [0, 1, 5, 9] [] [1] (l := [(0, .c (.own _ _ _ _)), (1, .c (.int _ _)), (5, .c (.int _ _)), (9, .c (.bool true))]) (h := []) (h' := [(1, ⟨0, 2, v3.map en_impl_Handle⟩)]) ⟨⟨_, rfl, enOk_impl_Handle.allClosed _ _ v3⟩, trivial⟩ rfl rfl rfl ?_
      refine W_true rfl ?_
      refine W_skip ?_
      refine W_seq ?_
      refine W_block ?_
      refine W_seq ?_
      refine W_regV he rfl ?_
      refine v0 (sM rfl [] rfl) rfl ?_
      refine v0 (sM rfl [] rfl) rfl ?_
      refine v0 (sM rfl [] rfl) rfl ?_
      refine chkc h ?_; clear h; intro c6 h
      refine v0 (sIOm rfl rfl rfl c6) rfl ?_
      refine v0 (sFP rfl rfl rfl) rfl ?_
      refine v0 (sSkf rfl rfl [] v3 (T_impl_Handle.mk v1 ((gt v3 v2).fGen)) c6 rfl rfl rfl rfl rfl rfl rfl rfl rfl) rfl ?_
      refine letc h ?_; clear h; intro v7 hv7 h; rw [← hv7]
      refine ve ?_
      refine W.weak (wk_len 0 (n' := v7.length) (by simp only [List.length_set, hv7]) rfl) ?_
      refine W2 [0, 1, 5] [] [1] (l := [(0, .c (.own _ _ _ _)), (1, .c (.int _ _)), (5, .c (.int _ _))]) (h := []) (h' := [(1, ⟨0, 2, v7.map en_impl_Handle⟩)]) ⟨⟨_, rfl, enOk_impl_Handle.allClosed _ _ v7⟩, trivial⟩ rfl rfl rfl ?_
      refine W_seq ?_
      refine W_regV he rfl ?_
      refine v0 (sM rfl [] rfl) rfl ?_
      refine v0 (sBi rfl rfl rfl rfl) rfl ?_
      refine v0 (sA rfl [] rfl) rfl ?_
      refine ve ?_
      refine W2 [0, 1, 5] [] [1] (l := [(0, .c (.own _ _ _ _)), (1, .c (.int _ _)), (5, .c (.int _ _))]) (h := []) (h' := [(1, ⟨0, 2, v7.map en_impl_Handle⟩)]) ⟨⟨_, rfl, enOk_impl_Handle.allClosed _ _ v7⟩, trivial⟩ rfl rfl rfl ?_
      refine W_seq ?_
      refine W_regV he rfl ?_
      refine v0 (sM rfl [] rfl) rfl ?_
      refine v0 (sM rfl [] rfl) rfl ?_
      refine v0 (sM rfl [] rfl) rfl ?_
      refine chkc h ?_; clear h; intro c8 h
      refine v0 (sIOm rfl rfl rfl c8) rfl ?_
      refine v0 (sFP rfl rfl rfl) rfl ?_
      refine v0 (sSkf rfl rfl [] v7 (T_impl_Handle.mk ((gt v7 v2).fSlot) (iAdd .i64 v1 1)) c8 rfl rfl rfl rfl rfl rfl rfl rfl rfl) rfl ?_
      refine letc h ?_; clear h; intro v9 hv9 h; rw [← hv9]
      refine ve ?_
      refine W.weak (wk_len 0 (n' := v9.length) (by simp only [List.length_set, hv7, hv9]) rfl) ?_
      refine W2 [0, 1, 5] [] [1] (l := [(0, .c (.own _ _ _ _)), (1, .c (.int _ _)), (5, .c (.int _ _))]) (h := []) (h' := [(1, ⟨0, 2, v9.map en_impl_Handle⟩)]) ⟨⟨_, rfl, enOk_impl_Handle.allClosed _ _ v9⟩, trivial⟩ rfl rfl rfl ?_
      refine W_regV he rfl ?_
      refine v0 (sM rfl [] rfl) rfl ?_
      refine v0 (sBi rfl rfl rfl rfl) rfl ?_
      refine v0 (sA rfl [] rfl) rfl ?_
      refine ve ?_
      refine W2 [0, 1, 5] [] [1] (l := [(0, .c (.own _ _ _ _)), (1, .c (.int _ _)), (5, .c (.int _ _))]) (h := []) (h' := [(1, ⟨0, 2, v9.map en_impl_Handle⟩)]) ⟨⟨_, rfl, enOk_impl_Handle.allClosed _ _ v9⟩, trivial⟩ rfl rfl rfl ?_
      refine W_regV he rfl ?_
      refine v0 (sM rfl [] rfl) rfl ?_
      refine v0 (sBi rfl rfl rfl rfl) rfl ?_
      refine v0 (sA rfl [] rfl) rfl ?_
      refine ve ?_
      exact ⟨n4, _, Nat.lt_succ_self n4, wk2 [0, 1, 5] [] [1] (l := [(0, .c (.own _ _ _ _)), (1, .c (.int _ _)), (5, .c (.int _ _))]) (h := []) (h' := [(1, ⟨0, 2, v9.map en_impl_Handle⟩)]) ⟨⟨_, rfl, enOk_impl_Handle.allClosed _ _ v9⟩, trivial⟩ rfl rfl rfl, _, _, _, rfl, h⟩
    | false =>
      replace h := brF hb5 h
      refine ve ?_
      refine W2 [0, 1, 5, 9] [] [1] (l := [(0, .c (.own _ _ _ _)), (1, .c (.int _ _)), (5, .c (.int _ _)), (9, .c (.bool false))]) (h := []) (h' := [(1, ⟨0, 2, v3.map en_impl_Handle⟩)]) ⟨⟨_, rfl, enOk_impl_Handle.allClosed _ _ v3⟩, trivial⟩ rfl rfl rfl ?_
      refine W_false rfl ?_
      refine W_exit (ex_then (ex_then (ex_hit ?_)))
      refine W_seq ?_
      refine W_regV he rfl ?_
      refine v0 (sM rfl [] rfl) rfl ?_
      refine v0 (sA rfl [] rfl) rfl ?_
      refine ve ?_
      refine W2 [4] [] [1] (l := [(4, .c (.int _ _))]) (h := []) (h' := [(1, ⟨0, 2, v3.map en_impl_Handle⟩)]) ⟨⟨_, rfl, enOk_impl_Handle.allClosed _ _ v3⟩, trivial⟩ rfl rfl rfl ?_
      obtain rfl := Option.some.inj h
      exact W_ret (retOne 1 1 (.inr ⟨rfl, rfl⟩) enOk_impl_Handle rfl rfl rfl)
theorem ok_laws_markHandleS : FnOk Try.prog 38 := ⟨_, Try.func38, rfl, rfl⟩


/-! ### loop.example/g00499/laws.heldHandleS -/
def l_laws_heldHandleS_3 (K : Nat) (a0 : List T_impl_Handle) : Nat → Int → Int → Option (Int)
  | 0, _, _ => none
  | n3 + 1, v1, v2 => (bif (decide (v2 < (a0.length : Int))) then (if (0 : Int) ≤ v2 ∧ v2 < (a0.length : Int) then (bif (((gt a0 v2).fSlot) != v1) then some (-1) else (if (0 : Int) ≤ v2 ∧ v2 < (a0.length : Int) then (bif (((gt a0 v2).fGen) != (iAdd .i64 v1 1)) then some (-1) else (l_laws_heldHandleS_3 K a0 n3 (iAdd .i64 (iAdd .i64 v1 1) 1) (iAdd .i64 v2 1))) else none)) else none) else some v1)
def m_laws_heldHandleS (K : Nat) (a0 : List T_impl_Handle) (a1 : Int) : Option (Int) := (l_laws_heldHandleS_3 K a0 K a1 0)
set_option maxRecDepth 20000 in
set_option maxHeartbeats 8000000 in
theorem w_laws_heldHandleS (K : Nat) (a0 : List T_impl_Handle) (a1 : Int) (r : Int) (h : m_laws_heldHandleS K a0 a1 = some r) : Sp Try.prog 39 [.c (.row false 2 (a0.map en_impl_Handle)), .c (.int .i64 a1)] [] (.c (.int .i64 r)) [] := by
  refine Sp.of_W tabOk Try.func39 rfl rfl (Nat.le_of_ble_eq_true rfl) (Nat.le_of_ble_eq_true rfl) fun F hP hN hm => ?_
  obtain ⟨P, N, w0, σ0, β0, m⟩ := F
  obtain rfl : P = Try.prog := hP
  obtain rfl : N = 31 := hN
  obtain rfl : m = 1 := hm
  have he : Env ⟨Try.prog, 31, w0, σ0, β0, 1⟩ tab := ⟨Nat.le_of_ble_eq_true rfl, tabOk⟩
  unfold m_laws_heldHandleS at h
  refine W_seq ?_
  refine W_regV he rfl ?_
  refine v0 (sA rfl [] rfl) rfl ?_
  refine ve ?_
  refine W2 [0, 1] [] [] (l := [(0, .c (.row _ _ _)), (1, .c (.int _ _))]) (h := []) (h' := []) trivial rfl rfl rfl ?_
  refine W_seq ?_
  refine W_seq ?_
  refine W_regV he rfl ?_
  refine v0 (sA rfl [] rfl) rfl ?_
  refine ve ?_
  refine W2 [0, 1, 5] [] [] (l := [(0, .c (.row _ _ _)), (1, .c (.int _ _)), (5, .c (.int _ _))]) (h := []) (h' := []) trivial rfl rfl rfl ?_
  refine W_block ?_
  refine W2 [0, 1, 5] [] [] (l := [(0, .c (.row _ _ _)), (1, .c (.int _ _)), (5, .c (.int _ _))]) (h := []) (h' := []) trivial rfl rfl rfl ?_
  refine W_loopW (fun n3 S => ∃ (v1 : Int), ∃ (v2 : Int), S = StL [(0, .c (.row false 2 (a0.map en_impl_Handle))), (1, .c (.int .i64 v1)), (5, .c (.int .i64 v2))] ([] ++ []) ∧ l_laws_heldHandleS_3 K a0 n3 v1 v2 = some r) K ⟨_, _, rfl, h⟩ ?_
  rintro n3 S ⟨v1, v2, rfl, h⟩
  cases n3 with
  | zero => simp [l_laws_heldHandleS_3] at h
  | succ n3 =>
    rw [l_laws_heldHandleS_3] at h
    refine W_seq ?_
    refine W_seq ?_
    refine W_regV he rfl ?_
    refine v0 (sM rfl [] rfl) rfl ?_
    refine v0 (sM rfl [] rfl) rfl ?_
    refine v0 (sLm rfl rfl rfl rfl) rfl ?_
    refine vB (sBi rfl rfl rfl rfl) rfl rfl fun b4 hb4 => ?_
    cases b4 with
    | true =>
      replace h := brT hb4 h
      refine ve ?_
      refine W2 [0, 1, 5, 9] [] [] (l := [(0, .c (.row _ _ _)), (1, .c (.int _ _)), (5, .c (.int _ _)), (9, .c (.bool true))]) (h := []) (h' := []) trivial rfl rfl rfl ?_
      refine W_true rfl ?_
      refine W_skip ?_
      refine W_seq ?_
      refine W_block ?_
      refine W_seq ?_
      refine W_seq ?_
      refine W_regV he rfl ?_
      refine v0 (sM rfl [] rfl) rfl ?_
      refine v0 (sM rfl [] rfl) rfl ?_
      refine chkc h ?_; clear h; intro c5 h
      refine v0 (sIRm rfl rfl rfl rfl c5) rfl ?_
      refine v0 (sFI rfl rfl rfl) rfl ?_
      refine v0 (sLI rfl rfl (en_impl_Handle (gt a0 v2)) (gt_at _ c5) rfl rfl rfl) rfl ?_
      refine v0 (sM rfl [] rfl) rfl ?_
      refine vB (sBi rfl rfl rfl rfl) rfl rfl fun b6 hb6 => ?_
      cases b6 with
      | true =>
        replace h := brT hb6 h
        refine ve ?_
        refine W2 [0, 1, 5, 18] [] [] (l := [(0, .c (.row _ _ _)), (1, .c (.int _ _)), (5, .c (.int _ _)), (18, .c (.bool true))]) (h := []) (h' := []) trivial rfl rfl rfl ?_
        refine W_true rfl ?_
        refine W_seq ?_
        refine W_regV he rfl ?_
        refine v0 (sA rfl [] rfl) rfl ?_
        refine ve ?_
        refine W2 [4] [] [] (l := [(4, .c (.int _ _))]) (h := []) (h' := []) trivial rfl rfl rfl ?_
        obtain rfl := Option.some.inj h
        exact W_ret (r0 rfl rfl)
      | false =>
        replace h := brF hb6 h
        refine ve ?_
        refine W2 [0, 1, 5, 18] [] [] (l := [(0, .c (.row _ _ _)), (1, .c (.int _ _)), (5, .c (.int _ _)), (18, .c (.bool false))]) (h := []) (h' := []) trivial rfl rfl rfl ?_
        refine W_false rfl ?_
        refine W_skip ?_
        refine W_seq ?_
        refine W_regV he rfl ?_
        refine v0 (sM rfl [] rfl) rfl ?_
        refine v0 (sBi rfl rfl rfl rfl) rfl ?_
        refine v0 (sA rfl [] rfl) rfl ?_
        refine ve ?_
        refine W2 [0, 1, 5] [] [] (l := [(0, .c (.row _ _ _)), (1, .c (.int _ _)), (5, .c (.int _ _))]) (h := []) (h' := []) trivial rfl rfl rfl ?_
        refine W_seq ?_
        refine W_seq ?_
        refine W_regV he rfl ?_
        refine v0 (sM rfl [] rfl) rfl ?_
        refine v0 (sM rfl [] rfl) rfl ?_
        refine chkc h ?_; clear h; intro c7 h
        refine v0 (sIRm rfl rfl rfl rfl c7) rfl ?_
        refine v0 (sFI rfl rfl rfl) rfl ?_
        refine v0 (sLI rfl rfl (en_impl_Handle (gt a0 v2)) (gt_at _ c7) rfl rfl rfl) rfl ?_
        refine v0 (sM rfl [] rfl) rfl ?_
        refine vB (sBi rfl rfl rfl rfl) rfl rfl fun b8 hb8 => ?_
        cases b8 with
        | true =>
          replace h := brT hb8 h
          refine ve ?_
          refine W2 [0, 1, 5, 27] [] [] (l := [(0, .c (.row _ _ _)), (1, .c (.int _ _)), (5, .c (.int _ _)), (27, .c (.bool true))]) (h := []) (h' := []) trivial rfl rfl rfl ?_
          refine W_true rfl ?_
          refine W_seq ?_
          refine W_regV he rfl ?_
          refine v0 (sA rfl [] rfl) rfl ?_
          refine ve ?_
          refine W2 [4] [] [] (l := [(4, .c (.int _ _))]) (h := []) (h' := []) trivial rfl rfl rfl ?_
          obtain rfl := Option.some.inj h
          exact W_ret (r0 rfl rfl)
        | false =>
          replace h := brF hb8 h
          refine ve ?_
          refine W2 [0, 1, 5, 27] [] [] (l := [(0, .c (.row _ _ _)), (1, .c (.int _ _)), (5, .c (.int _ _)), (27, .c (.bool false))]) (h := []) (h' := []) trivial rfl rfl rfl ?_
          refine W_false rfl ?_
          refine W_skip ?_
          refine W_regV he rfl ?_
          refine v0 (sM rfl [] rfl) rfl ?_
          refine v0 (sBi rfl rfl rfl rfl) rfl ?_
          refine v0 (sA rfl [] rfl) rfl ?_
          refine ve ?_
          refine W2 [0, 1, 5] [] [] (l := [(0, .c (.row _ _ _)), (1, .c (.int _ _)), (5, .c (.int _ _))]) (h := []) (h' := []) trivial rfl rfl rfl ?_
          refine W_regV he rfl ?_
          refine v0 (sM rfl [] rfl) rfl ?_
          refine v0 (sBi rfl rfl rfl rfl) rfl ?_
          refine v0 (sA rfl [] rfl) rfl ?_
          refine ve ?_
          exact ⟨n3, _, Nat.lt_succ_self n3, wk2 [0, 1, 5] [] [] (l := [(0, .c (.row _ _ _)), (1, .c (.int _ _)), (5, .c (.int _ _))]) (h := []) (h' := []) trivial rfl rfl rfl, _, _, rfl, h⟩
    | false =>
      replace h := brF hb4 h
      refine ve ?_
      refine W2 [0, 1, 5, 9] [] [] (l := [(0, .c (.row _ _ _)), (1, .c (.int _ _)), (5, .c (.int _ _)), (9, .c (.bool false))]) (h := []) (h' := []) trivial rfl rfl rfl ?_
      refine W_false rfl ?_
      refine W_exit (ex_then (ex_then (ex_hit ?_)))
      refine W_seq ?_
      refine W_regV he rfl ?_
      refine v0 (sM rfl [] rfl) rfl ?_
      refine v0 (sA rfl [] rfl) rfl ?_
      refine ve ?_
      refine W2 [4] [] [] (l := [(4, .c (.int _ _))]) (h := []) (h' := []) trivial rfl rfl rfl ?_
      obtain rfl := Option.some.inj h
      exact W_ret (r0 rfl rfl)
theorem ok_laws_heldHandleS : FnOk Try.prog 39 := ⟨_, Try.func39, rfl, rfl⟩


/-! ### loop.example/g00499/laws.FnExactKidsIn -/
def m_laws_FnExactKidsIn (K : Nat) (a0 : T_laws_World) (a1 : T_laws_Handle) : Option (Bool) := ((m_laws_szWorld K a0 1048576).bind fun r1 => (bif (decide (r1 < 0)) then some true else ((m_laws_toWorld K a0).bind fun r3 => ((m_laws_toHandle K a1).bind fun r4 => ((m_spec_KidsIn K r3 r4).bind fun r5 => ((m_laws_toWorld K a0).bind fun r6 => ((m_laws_toHandle K a1).bind fun r7 => ((m_impl_KidsIn K r6 r7).bind fun r8 => ((m_laws_eqHandleS K r8 r5).bind fun r9 => (bif r9 then ((m_laws_toWorld K a0).bind fun r11 => ((m_laws_eqWorld K r6 r11).bind fun r12 => (bif r12 then ((m_laws_markWorldW K r6 1).bind fun r14 => (if r14.2.1.length = r6.fP.fMem.length ∧ r14.2.2.1.length = r6.fP.fSt.length ∧ r14.2.2.2.1.length = r6.fP.fOwn.length ∧ r14.2.2.2.2.1.length = r6.fL.length ∧ r14.2.2.2.2.2.1.length = r6.fQ.length ∧ r14.2.2.2.2.2.2.length = r6.fLog.length then (bif (decide (r14.1 < 0)) then some false else ((m_laws_eqHandleS K r8 r5).bind fun r17 => (bif r17 then ((m_laws_markHandleSW K r8 1).bind fun r19 => (if r19.2.length = r8.length then ((m_laws_heldHandleS K r19.2 1).bind fun r21 => (bif (decide (r21 < 0)) then some false else (bif (r21 != r19.1) then some false else ((m_laws_toWorld K a0).bind fun r24 => ((m_laws_toHandle K a1).bind fun r25 => ((m_impl_KidsIn K r24 r25).bind fun r26 => ((m_laws_eqHandleS K r26 r5).bind fun r27 => (bif r27 then ((m_laws_heldHandleS K r19.2 1).bind fun r29 => (bif (decide (r29 < 0)) then some false else (bif (r29 != r19.1) then some false else some true))) else some false)))))))) else none)) else some false))) else none)) else some false))) else some false))))))))))
set_option maxRecDepth 20000 in
set_option maxHeartbeats 8000000 in
theorem w_laws_FnExactKidsIn (K : Nat) (a0 : T_laws_World) (a1 : T_laws_Handle) (r : Bool) (h : m_laws_FnExactKidsIn K a0 a1 = some r) : Sp Try.prog 10 [.g [.int .i64 a0.fC.fChunks, .int .i64 a0.fC.fSize, .int .i64 a0.fC.fSlots, .int .i64 a0.fC.fTax, .int .i64 a0.fC.fSlice, .int .i64 a0.fC.fGens, .row false 1 (a0.fP.fMem.map en_u8), .row false 1 (a0.fP.fSt.map en_i64), .row false 1 (a0.fP.fOwn.map en_i64), .row false 13 (a0.fL.map en_laws_Node), .row false 5 (a0.fQ.map en_laws_Waste), .row false 1 (a0.fLog.map en_i64)], .g [.int .i64 a1.fSlot, .int .i64 a1.fGen]] [] (.c (.bool r)) [] := by
  refine Sp.of_W tabOk Try.func10 rfl rfl (Nat.le_of_ble_eq_true rfl) (Nat.le_of_ble_eq_true rfl) fun F hP hN hm => ?_
  obtain ⟨P, N, w0, σ0, β0, m⟩ := F
  obtain rfl : P = Try.prog := hP
  obtain rfl : N = 77 := hN
  obtain rfl : m = 1 := hm
  have he : Env ⟨Try.prog, 77, w0, σ0, β0, 1⟩ tab := ⟨Nat.le_of_ble_eq_true rfl, tabOk⟩
  unfold m_laws_FnExactKidsIn at h
  refine W_seq ?_
  refine W_regV he rfl ?_
  refine v0 (sBx rfl [] rfl rfl 101 rfl) rfl ?_
  refine v0 (sBx rfl [] rfl rfl 102 rfl) rfl ?_
  refine v0 (sA rfl [] rfl) rfl ?_
  refine ve ?_
  refine W2 [2, 3] [101, 102] [] (l := [(2, .c (.ptr _ _ _ _)), (3, .c (.ptr _ _ _ _))]) (h := [(101, ⟨0, 12, [[.int _ _, .int _ _, .int _ _, .int _ _, .int _ _, .int _ _, .row _ _ _, .row _ _ _, .row _ _ _, .row _ _ _, .row _ _ _, .row _ _ _]]⟩), (102, ⟨0, 2, [[.int _ _, .int _ _]]⟩)]) (h' := []) trivial rfl rfl rfl ?_
  refine W_seq ?_
  refine W_regV he rfl ?_
  refine v0 (sA rfl [] rfl) rfl ?_
  refine ve ?_
  refine W2 [2, 3, 5] [101, 102] [] (l := [(2, .c (.ptr _ _ _ _)), (3, .c (.ptr _ _ _ _)), (5, .c (.int _ _))]) (h := [(101, ⟨0, 12, [[.int _ _, .int _ _, .int _ _, .int _ _, .int _ _, .int _ _, .row _ _ _, .row _ _ _, .row _ _ _, .row _ _ _, .row _ _ _, .row _ _ _]]⟩), (102, ⟨0, 2, [[.int _ _, .int _ _]]⟩)]) (h' := []) trivial rfl rfl rfl ?_
  refine W_seq ?_
  refine W_regV he rfl ?_
  refine v0 (sLd rfl rfl) rfl ?_
  refine v0 (sM rfl [] rfl) rfl ?_
  refine bndc h ?_; clear h; intro r1 hr1 h
  refine v0 (sCm (w_laws_szWorld K a0 1048576 _ hr1) ok_laws_szWorld rfl rfl rfl rfl) rfl ?_
  refine v0 (sA rfl [] rfl) rfl ?_
  refine ve ?_
  refine W2 [2, 3, 5] [101, 102] [] (l := [(2, .c (.ptr _ _ _ _)), (3, .c (.ptr _ _ _ _)), (5, .c (.int _ _))]) (h := [(101, ⟨0, 12, [[.int _ _, .int _ _, .int _ _, .int _ _, .int _ _, .int _ _, .row _ _ _, .row _ _ _, .row _ _ _, .row _ _ _, .row _ _ _, .row _ _ _]]⟩), (102, ⟨0, 2, [[.int _ _, .int _ _]]⟩)]) (h' := []) trivial rfl rfl rfl ?_
  refine W_seq ?_
  refine W_seq ?_
  refine W_regV he rfl ?_
  refine v0 (sM rfl [] rfl) rfl ?_
  refine vB (sBi rfl rfl rfl rfl) rfl rfl fun b2 hb2 => ?_
  cases b2 with
  | true =>
    replace h := brT hb2 h
    refine ve ?_
    refine W2 [2, 3, 17] [101, 102] [] (l := [(2, .c (.ptr _ _ _ _)), (3, .c (.ptr _ _ _ _)), (17, .c (.bool true))]) (h := [(101, ⟨0, 12, [[.int _ _, .int _ _, .int _ _, .int _ _, .int _ _, .int _ _, .row _ _ _, .row _ _ _, .row _ _ _, .row _ _ _, .row _ _ _, .row _ _ _]]⟩), (102, ⟨0, 2, [[.int _ _, .int _ _]]⟩)]) (h' := []) trivial rfl rfl rfl ?_
    refine W_true rfl ?_
    refine W_seq ?_
    refine W_regV he rfl ?_
    refine v0 (sA rfl [] rfl) rfl ?_
    refine ve ?_
    refine W2 [4] [] [] (l := [(4, .c (.bool true))]) (h := []) (h' := []) trivial rfl rfl rfl ?_
    obtain rfl := Option.some.inj h
    exact W_ret (r0 rfl rfl)
  | false =>
    replace h := brF hb2 h
    refine ve ?_
    refine W2 [2, 3, 17] [101, 102] [] (l := [(2, .c (.ptr _ _ _ _)), (3, .c (.ptr _ _ _ _)), (17, .c (.bool false))]) (h := [(101, ⟨0, 12, [[.int _ _, .int _ _, .int _ _, .int _ _, .int _ _, .int _ _, .row _ _ _, .row _ _ _, .row _ _ _, .row _ _ _, .row _ _ _, .row _ _ _]]⟩), (102, ⟨0, 2, [[.int _ _, .int _ _]]⟩)]) (h' := []) trivial rfl rfl rfl ?_
    refine W_false rfl ?_
    refine W_skip ?_
    refine W_seq ?_
    refine W_regD he rfl rfl rfl ?_
    refine g0 (sLd rfl rfl) rfl ?_
    refine bndc h ?_; clear h; intro r3 hr3 h
    refine g0 (sCm (w_laws_toWorld K a0 _ hr3) ok_laws_toWorld rfl rfl rfl rfl) rfl ?_
    refine g0 (sLd rfl rfl) rfl ?_
    refine bndc h ?_; clear h; intro r4 hr4 h
    refine g0 (sCm (w_laws_toHandle K a1 _ hr4) ok_laws_toHandle rfl rfl rfl rfl) rfl ?_
    refine bndc h ?_; clear h; intro r5 hr5 h
    refine g0 (sCm (w_spec_KidsIn K r3 r4 _ hr5) ok_spec_KidsIn rfl rfl rfl rfl) rfl ?_
    refine g0 (sA rfl [] rfl) rfl ?_
    refine ge ⟨rfl, ?_⟩
    refine W2 [2, 3, 6] [101, 102] [] (l := [(2, .c (.ptr _ _ _ _)), (3, .c (.ptr _ _ _ _)), (6, .c (.row _ _ _))]) (h := [(101, ⟨0, 12, [[.int _ _, .int _ _, .int _ _, .int _ _, .int _ _, .int _ _, .row _ _ _, .row _ _ _, .row _ _ _, .row _ _ _, .row _ _ _, .row _ _ _]]⟩), (102, ⟨0, 2, [[.int _ _, .int _ _]]⟩)]) (h' := []) trivial rfl rfl rfl ?_
    refine W_seq ?_
    refine W_regV he rfl ?_
    refine v0 (sLd rfl rfl) rfl ?_
    refine bndc h ?_; clear h; intro r6 hr6 h
    refine v0 (sCg (wo_laws_toWorld K a0 _ hr6) ok_laws_toWorld false [] [2003, 2004, 2005, 2006, 2007, 2008] [2003, 2004, 2005, 2006, 2007, 2008] (U := [(2003, some ⟨1, 1, r6.fP.fMem.map en_u8⟩), (2004, some ⟨1, 1, r6.fP.fSt.map en_i64⟩), (2005, some ⟨1, 1, r6.fP.fOwn.map en_i64⟩), (2006, some ⟨1, 13, r6.fL.map enD_impl_Node⟩), (2007, some ⟨1, 5, r6.fQ.map enD_impl_Waste⟩), (2008, some ⟨1, 1, r6.fLog.map en_i64⟩)]) (bm := [2003, 2004, 2005, 2006, 2007, 2008]) rfl rfl rfl rfl (by decide) rfl rfl rfl rfl (sl_nil) (ul_cons rfl (enOk_u8.back _ _ _) (ul_cons rfl (enOk_i64.back _ _ _) (ul_cons rfl (enOk_i64.back _ _ _) (ul_cons rfl (enDOk_impl_Node.back _ _ _) (ul_cons rfl (enDOk_impl_Waste.back _ _ _) (ul_cons rfl (enOk_i64.back _ _ _) (ul_nil))))))) rfl rfl) rfl ?_
    refine v0 (sAl rfl rfl 109 rfl) rfl ?_
    refine v0 (sSt rfl rfl [] rfl rfl) rfl ?_
    refine ve ?_
    refine W2 [2, 3, 6, 7] [101, 102, 109] [2003, 2004, 2005, 2006, 2007, 2008] (l := [(2, .c (.ptr _ _ _ _)), (3, .c (.ptr _ _ _ _)), (6, .c (.row _ _ _)), (7, .c (.ptr _ _ _ _))]) (h := [(101, ⟨0, 12, [[.int _ _, .int _ _, .int _ _, .int _ _, .int _ _, .int _ _, .row _ _ _, .row _ _ _, .row _ _ _, .row _ _ _, .row _ _ _, .row _ _ _]]⟩), (102, ⟨0, 2, [[.int _ _, .int _ _]]⟩), (109, ⟨0, 12, [[.int _ _, .int _ _, .int _ _, .int _ _, .int _ _, .int _ _, .own _ _ _ _, .own _ _ _ _, .own _ _ _ _, .own _ _ _ _, .own _ _ _ _, .own _ _ _ _]]⟩)]) (h' := [(2003, ⟨0, 1, r6.fP.fMem.map en_u8⟩), (2004, ⟨0, 1, r6.fP.fSt.map en_i64⟩), (2005, ⟨0, 1, r6.fP.fOwn.map en_i64⟩), (2006, ⟨0, 13, r6.fL.map enD_impl_Node⟩), (2007, ⟨0, 5, r6.fQ.map enD_impl_Waste⟩), (2008, ⟨0, 1, r6.fLog.map en_i64⟩)]) ⟨⟨_, rfl, enOk_u8.allClosed _ _ r6.fP.fMem⟩, ⟨⟨_, rfl, enOk_i64.allClosed _ _ r6.fP.fSt⟩, ⟨⟨_, rfl, enOk_i64.allClosed _ _ r6.fP.fOwn⟩, ⟨⟨_, rfl, enDOk_impl_Node.allClosed _ _ r6.fL⟩, ⟨⟨_, rfl, enDOk_impl_Waste.allClosed _ _ r6.fQ⟩, ⟨⟨_, rfl, enOk_i64.allClosed _ _ r6.fLog⟩, trivial⟩⟩⟩⟩⟩⟩ rfl rfl rfl ?_
    refine W_seq ?_
    refine W_regD he rfl rfl rfl ?_
    refine g0 (sLd rfl rfl) rfl ?_
    refine g0 (sLd rfl rfl) rfl ?_
    refine bndc h ?_; clear h; intro r7 hr7 h
    refine g0 (sCm (w_laws_toHandle K a1 _ hr7) ok_laws_toHandle rfl rfl rfl rfl) rfl ?_
    refine bndc h ?_; clear h; intro r8 hr8 h
    refine g0 (sCo (wo_impl_KidsIn K r6 r7 _ hr8) ok_impl_KidsIn (fun _ => rfl) [2003, 2004, 2005, 2006, 2007, 2008] 1008 rfl rfl rfl (low_cons (low_g (lowc_cons rfl (lowc_cons rfl (lowc_cons rfl (lowc_cons rfl (lowc_cons rfl (lowc_cons rfl (lowc_cons (low_lentC (l := r6.fP.fMem) enOk_u8 rfl rfl rfl) (lowc_cons (low_lentC (l := r6.fP.fSt) enOk_i64 rfl rfl rfl) (lowc_cons (low_lentC (l := r6.fP.fOwn) enOk_i64 rfl rfl rfl) (lowc_cons (low_lentCD (l := r6.fL) enDOk_impl_Node rfl rfl rfl) (lowc_cons (low_lentCD (l := r6.fQ) enDOk_impl_Waste rfl rfl rfl) (lowc_cons (low_lentC (l := r6.fLog) enOk_i64 rfl rfl rfl) (lowc_nil)))))))))))))) (low_cons (rfl) (low_nil))) rfl) rfl ?_
    refine g0 (sA rfl [] rfl) rfl ?_
    refine ge ⟨rfl, ?_⟩
    refine W2 [2, 3, 6, 7, 8] [101, 102, 109] [1008, 2003, 2004, 2005, 2006, 2007, 2008] (l := [(2, .c (.ptr _ _ _ _)), (3, .c (.ptr _ _ _ _)), (6, .c (.row _ _ _)), (7, .c (.ptr _ _ _ _)), (8, .c (.own _ _ _ _))]) (h := [(101, ⟨0, 12, [[.int _ _, .int _ _, .int _ _, .int _ _, .int _ _, .int _ _, .row _ _ _, .row _ _ _, .row _ _ _, .row _ _ _, .row _ _ _, .row _ _ _]]⟩), (102, ⟨0, 2, [[.int _ _, .int _ _]]⟩), (109, ⟨0, 12, [[.int _ _, .int _ _, .int _ _, .int _ _, .int _ _, .int _ _, .own _ _ _ _, .own _ _ _ _, .own _ _ _ _, .own _ _ _ _, .own _ _ _ _, .own _ _ _ _]]⟩)]) (h' := [(1008, ⟨0, 2, r8.map en_impl_Handle⟩), (2003, ⟨0, 1, r6.fP.fMem.map en_u8⟩), (2004, ⟨0, 1, r6.fP.fSt.map en_i64⟩), (2005, ⟨0, 1, r6.fP.fOwn.map en_i64⟩), (2006, ⟨0, 13, r6.fL.map enD_impl_Node⟩), (2007, ⟨0, 5, r6.fQ.map enD_impl_Waste⟩), (2008, ⟨0, 1, r6.fLog.map en_i64⟩)]) ⟨⟨_, rfl, enOk_impl_Handle.allClosed _ _ r8⟩, ⟨⟨_, rfl, enOk_u8.allClosed _ _ r6.fP.fMem⟩, ⟨⟨_, rfl, enOk_i64.allClosed _ _ r6.fP.fSt⟩, ⟨⟨_, rfl, enOk_i64.allClosed _ _ r6.fP.fOwn⟩, ⟨⟨_, rfl, enDOk_impl_Node.allClosed _ _ r6.fL⟩, ⟨⟨_, rfl, enDOk_impl_Waste.allClosed _ _ r6.fQ⟩, ⟨⟨_, rfl, enOk_i64.allClosed _ _ r6.fLog⟩, trivial⟩⟩⟩⟩⟩⟩⟩ rfl rfl rfl ?_
    refine W_seq ?_
    refine W_seq ?_
    refine W_regV he rfl ?_
    refine v0 (sM rfl [] rfl) rfl ?_
    refine v0 (sM rfl [] rfl) rfl ?_
    refine bndc h ?_; clear h; intro r9 hr9 h
    refine vB (sCle (w_laws_eqHandleS K r8 r5 _ hr9) ok_laws_eqHandleS [1008] rfl rfl (low_cons (low_lent (l := r8) enOk_impl_Handle rfl rfl rfl) (low_cons (rfl) (low_nil))) rfl) rfl rfl fun b10 hb10 => ?_
    cases b10 with
    | true =>
      replace h := brT hb10 h
      refine v0 (sNt rfl rfl) rfl ?_
      refine ve ?_
      refine W2 [2, 3, 6, 7, 8, 32] [101, 102, 109] [1008, 2003, 2004, 2005, 2006, 2007, 2008] (l := [(2, .c (.ptr _ _ _ _)), (3, .c (.ptr _ _ _ _)), (6, .c (.row _ _ _)), (7, .c (.ptr _ _ _ _)), (8, .c (.own _ _ _ _)), (32, .c (.bool false))]) (h := [(101, ⟨0, 12, [[.int _ _, .int _ _, .int _ _, .int _ _, .int _ _, .int _ _, .row _ _ _, .row _ _ _, .row _ _ _, .row _ _ _, .row _ _ _, .row _ _ _]]⟩), (102, ⟨0, 2, [[.int _ _, .int _ _]]⟩), (109, ⟨0, 12, [[.int _ _, .int _ _, .int _ _, .int _ _, .int _ _, .int _ _, .own _ _ _ _, .own _ _ _ _, .own _ _ _ _, .own _ _ _ _, .own _ _ _ _, .own _ _ _ _]]⟩)]) (h' := [(1008, ⟨0, 2, r8.map en_impl_Handle⟩), (2003, ⟨0, 1, r6.fP.fMem.map en_u8⟩), (2004, ⟨0, 1, r6.fP.fSt.map en_i64⟩), (2005, ⟨0, 1, r6.fP.fOwn.map en_i64⟩), (2006, ⟨0, 13, r6.fL.map enD_impl_Node⟩), (2007, ⟨0, 5, r6.fQ.map enD_impl_Waste⟩), (2008, ⟨0, 1, r6.fLog.map en_i64⟩)]) ⟨⟨_, rfl, enOk_impl_Handle.allClosed _ _ r8⟩, ⟨⟨_, rfl, enOk_u8.allClosed _ _ r6.fP.fMem⟩, ⟨⟨_, rfl, enOk_i64.allClosed _ _ r6.fP.fSt⟩, ⟨⟨_, rfl, enOk_i64.allClosed _ _ r6.fP.fOwn⟩, ⟨⟨_, rfl, enDOk_impl_Node.allClosed _ _ r6.fL⟩, ⟨⟨_, rfl, enDOk_impl_Waste.allClosed _ _ r6.fQ⟩, ⟨⟨_, rfl, enOk_i64.allClosed _ _ r6.fLog⟩, trivial⟩⟩⟩⟩⟩⟩⟩ rfl rfl rfl ?_
      refine W_false rfl ?_
      refine W_skip ?_
      refine W_seq ?_
      refine W_seq ?_
      refine W_regD he rfl rfl rfl ?_
      refine g0 (sLd rfl rfl) rfl ?_
      refine g0 (sLd rfl rfl) rfl ?_
      refine bndc h ?_; clear h; intro r11 hr11 h
      refine g0 (sCm (w_laws_toWorld K a0 _ hr11) ok_laws_toWorld rfl rfl rfl rfl) rfl ?_
      refine bndc h ?_; clear h; intro r12 hr12 h
      refine gB (sCle (w_laws_eqWorld K r6 r11 _ hr12) ok_laws_eqWorld [2003, 2004, 2005, 2006, 2007, 2008] rfl rfl (low_cons (low_g (lowc_cons rfl (lowc_cons rfl (lowc_cons rfl (lowc_cons rfl (lowc_cons rfl (lowc_cons rfl (lowc_cons (low_lentC (l := r6.fP.fMem) enOk_u8 rfl rfl rfl) (lowc_cons (low_lentC (l := r6.fP.fSt) enOk_i64 rfl rfl rfl) (lowc_cons (low_lentC (l := r6.fP.fOwn) enOk_i64 rfl rfl rfl) (lowc_cons (low_lentCD (l := r6.fL) enDOk_impl_Node rfl rfl rfl) (lowc_cons (low_lentCD (l := r6.fQ) enDOk_impl_Waste rfl rfl rfl) (lowc_cons (low_lentC (l := r6.fLog) enOk_i64 rfl rfl rfl) (lowc_nil)))))))))))))) (low_cons (rfl) (low_nil))) rfl) rfl rfl fun b13 hb13 => ?_
      cases b13 with
      | true =>
        replace h := brT hb13 h
        refine g0 (sNt rfl rfl) rfl ?_
        refine ge ⟨rfl, ?_⟩
        refine W2 [2, 3, 6, 7, 8, 37] [101, 102, 109] [1008, 2003, 2004, 2005, 2006, 2007, 2008] (l := [(2, .c (.ptr _ _ _ _)), (3, .c (.ptr _ _ _ _)), (6, .c (.row _ _ _)), (7, .c (.ptr _ _ _ _)), (8, .c (.own _ _ _ _)), (37, .c (.bool false))]) (h := [(101, ⟨0, 12, [[.int _ _, .int _ _, .int _ _, .int _ _, .int _ _, .int _ _, .row _ _ _, .row _ _ _, .row _ _ _, .row _ _ _, .row _ _ _, .row _ _ _]]⟩), (102, ⟨0, 2, [[.int _ _, .int _ _]]⟩), (109, ⟨0, 12, [[.int _ _, .int _ _, .int _ _, .int _ _, .int _ _, .int _ _, .own _ _ _ _, .own _ _ _ _, .own _ _ _ _, .own _ _ _ _, .own _ _ _ _, .own _ _ _ _]]⟩)]) (h' := [(1008, ⟨0, 2, r8.map en_impl_Handle⟩), (2003, ⟨0, 1, r6.fP.fMem.map en_u8⟩), (2004, ⟨0, 1, r6.fP.fSt.map en_i64⟩), (2005, ⟨0, 1, r6.fP.fOwn.map en_i64⟩), (2006, ⟨0, 13, r6.fL.map enD_impl_Node⟩), (2007, ⟨0, 5, r6.fQ.map enD_impl_Waste⟩), (2008, ⟨0, 1, r6.fLog.map en_i64⟩)]) ⟨⟨_, rfl, enOk_impl_Handle.allClosed _ _ r8⟩, ⟨⟨_, rfl, enOk_u8.allClosed _ _ r6.fP.fMem⟩, ⟨⟨_, rfl, enOk_i64.allClosed _ _ r6.fP.fSt⟩, ⟨⟨_, rfl, enOk_i64.allClosed _ _ r6.fP.fOwn⟩, ⟨⟨_, rfl, enDOk_impl_Node.allClosed _ _ r6.fL⟩, ⟨⟨_, rfl, enDOk_impl_Waste.allClosed _ _ r6.fQ⟩, ⟨⟨_, rfl, enOk_i64.allClosed _ _ r6.fLog⟩, trivial⟩⟩⟩⟩⟩⟩⟩ rfl rfl rfl ?_
        refine W_false rfl ?_
        refine W_skip ?_
        refine W_seq ?_
        refine W_regV he rfl ?_
        refine v0 (sA rfl [] rfl) rfl ?_
        refine ve ?_
        refine W2 [2, 3, 6, 7, 8, 9] [101, 102, 109] [1008, 2003, 2004, 2005, 2006, 2007, 2008] (l := [(2, .c (.ptr _ _ _ _)), (3, .c (.ptr _ _ _ _)), (6, .c (.row _ _ _)), (7, .c (.ptr _ _ _ _)), (8, .c (.own _ _ _ _)), (9, .c (.int _ _))]) (h := [(101, ⟨0, 12, [[.int _ _, .int _ _, .int _ _, .int _ _, .int _ _, .int _ _, .row _ _ _, .row _ _ _, .row _ _ _, .row _ _ _, .row _ _ _, .row _ _ _]]⟩), (102, ⟨0, 2, [[.int _ _, .int _ _]]⟩), (109, ⟨0, 12, [[.int _ _, .int _ _, .int _ _, .int _ _, .int _ _, .int _ _, .own _ _ _ _, .own _ _ _ _, .own _ _ _ _, .own _ _ _ _, .own _ _ _ _, .own _ _ _ _]]⟩)]) (h' := [(1008, ⟨0, 2, r8.map en_impl_Handle⟩), (2003, ⟨0, 1, r6.fP.fMem.map en_u8⟩), (2004, ⟨0, 1, r6.fP.fSt.map en_i64⟩), (2005, ⟨0, 1, r6.fP.fOwn.map en_i64⟩), (2006, ⟨0, 13, r6.fL.map enD_impl_Node⟩), (2007, ⟨0, 5, r6.fQ.map enD_impl_Waste⟩), (2008, ⟨0, 1, r6.fLog.map en_i64⟩)]) ⟨⟨_, rfl, enOk_impl_Handle.allClosed _ _ r8⟩, ⟨⟨_, rfl, enOk_u8.allClosed _ _ r6.fP.fMem⟩, ⟨⟨_, rfl, enOk_i64.allClosed _ _ r6.fP.fSt⟩, ⟨⟨_, rfl, enOk_i64.allClosed _ _ r6.fP.fOwn⟩, ⟨⟨_, rfl, enDOk_impl_Node.allClosed _ _ r6.fL⟩, ⟨⟨_, rfl, enDOk_impl_Waste.allClosed _ _ r6.fQ⟩, ⟨⟨_, rfl, enOk_i64.allClosed _ _ r6.fLog⟩, trivial⟩⟩⟩⟩⟩⟩⟩ rfl rfl rfl ?_
        refine W_seq ?_
        refine W_regV he rfl ?_
        refine v0 (sLd rfl rfl) rfl ?_
        refine v0 (sM rfl [] rfl) rfl ?_
        refine bndc h ?_; clear h; intro r14 hr14 h
        refine chkc h ?_; clear h; intro c15 h
        refine v0 (sCg (w_laws_markWorldW K r6 1 _ hr14) ok_laws_markWorld false [2003, 2004, 2005, 2006, 2007, 2008] [] [2003, 2004, 2005, 2006, 2007, 2008] (U := [(2003, some ⟨0, 1, r14.2.1.map en_u8⟩), (2004, some ⟨0, 1, r14.2.2.1.map en_i64⟩), (2005, some ⟨0, 1, r14.2.2.2.1.map en_i64⟩), (2006, some ⟨0, 13, r14.2.2.2.2.1.map enD_impl_Node⟩), (2007, some ⟨0, 5, r14.2.2.2.2.2.1.map enD_impl_Waste⟩), (2008, some ⟨0, 1, r14.2.2.2.2.2.2.map en_i64⟩)]) (bm := []) rfl rfl rfl (bl_cons (see_En enOk_u8 rfl) (bl_cons (see_En enOk_i64 rfl) (bl_cons (see_En enOk_i64 rfl) (bl_cons (see_EnD enDOk_impl_Node rfl) (bl_cons (see_EnD enDOk_impl_Waste rfl) (bl_cons (see_En enOk_i64 rfl) (bl_nil))))))) (by decide) rfl rfl rfl rfl (sl_cons rfl (by simp only [List.length_map]; exact c15.1.symm) (sl_cons rfl (by simp only [List.length_map]; exact c15.2.1.symm) (sl_cons rfl (by simp only [List.length_map]; exact c15.2.2.1.symm) (sl_cons rfl (by simp only [List.length_map]; exact c15.2.2.2.1.symm) (sl_cons rfl (by simp only [List.length_map]; exact c15.2.2.2.2.1.symm) (sl_cons rfl (by simp only [List.length_map]; exact c15.2.2.2.2.2.symm) (sl_nil))))))) (ul_cons rfl (enOk_u8.back _ _ _) (ul_cons rfl (enOk_i64.back _ _ _) (ul_cons rfl (enOk_i64.back _ _ _) (ul_cons rfl (enDOk_impl_Node.back _ _ _) (ul_cons rfl (enDOk_impl_Waste.back _ _ _) (ul_cons rfl (enOk_i64.back _ _ _) (ul_nil))))))) rfl rfl) rfl ?_
        refine v0 (sA rfl [] rfl) rfl ?_
        refine ve ?_
        refine W2 [2, 3, 6, 8, 9] [101, 102] [1008] (l := [(2, .c (.ptr _ _ _ _)), (3, .c (.ptr _ _ _ _)), (6, .c (.row _ _ _)), (8, .c (.own _ _ _ _)), (9, .c (.int _ _))]) (h := [(101, ⟨0, 12, [[.int _ _, .int _ _, .int _ _, .int _ _, .int _ _, .int _ _, .row _ _ _, .row _ _ _, .row _ _ _, .row _ _ _, .row _ _ _, .row _ _ _]]⟩), (102, ⟨0, 2, [[.int _ _, .int _ _]]⟩)]) (h' := [(1008, ⟨0, 2, r8.map en_impl_Handle⟩)]) ⟨⟨_, rfl, enOk_impl_Handle.allClosed _ _ r8⟩, trivial⟩ rfl rfl rfl ?_
        refine W_seq ?_
        refine W_seq ?_
        refine W_regV he rfl ?_
        refine v0 (sM rfl [] rfl) rfl ?_
        refine vB (sBi rfl rfl rfl rfl) rfl rfl fun b16 hb16 => ?_
        cases b16 with
        | true =>
          replace h := brT hb16 h
          refine v0 (sM rfl [] rfl) rfl ?_
          refine uP rfl rfl rfl rfl ?_
          refine uP rfl rfl rfl rfl ?_
          refine uP rfl rfl rfl rfl ?_
          refine uP rfl rfl rfl rfl ?_
          refine v0 (sPk rfl [] rfl rfl) rfl ?_
          refine ve ?_
          refine W2 [2, 3, 6, 8, 48] [101, 102] [1008] (l := [(2, .c (.ptr _ _ _ _)), (3, .c (.ptr _ _ _ _)), (6, .c (.row _ _ _)), (8, .c (.own _ _ _ _)), (48, .c (.bool true))]) (h := [(101, ⟨0, 12, [[.int _ _, .int _ _, .int _ _, .int _ _, .int _ _, .int _ _, .row _ _ _, .row _ _ _, .row _ _ _, .row _ _ _, .row _ _ _, .row _ _ _]]⟩), (102, ⟨0, 2, [[.int _ _, .int _ _]]⟩)]) (h' := [(1008, ⟨0, 2, r8.map en_impl_Handle⟩)]) ⟨⟨_, rfl, enOk_impl_Handle.allClosed _ _ r8⟩, trivial⟩ rfl rfl rfl ?_
          refine W_true rfl ?_
          refine W_seq ?_
          refine W_regV he rfl ?_
          refine v0 (sA rfl [] rfl) rfl ?_
          refine ve ?_
          refine W2 [4] [] [] (l := [(4, .c (.bool false))]) (h := []) (h' := []) trivial rfl rfl rfl ?_
          obtain rfl := Option.some.inj h
          exact W_ret (r0 rfl rfl)
        | false =>
          replace h := brF hb16 h
          refine v0 (sM rfl [] rfl) rfl ?_
          refine u0 (sM rfl [] rfl) rfl rfl rfl ?_
          refine u0 (sM rfl [] rfl) rfl rfl rfl ?_
          refine bndc h ?_; clear h; intro r17 hr17 h
          refine uB (sCle (w_laws_eqHandleS K r8 r5 _ hr17) ok_laws_eqHandleS [1008] rfl rfl (low_cons (low_lent (l := r8) enOk_impl_Handle rfl rfl rfl) (low_cons (rfl) (low_nil))) rfl) rfl rfl rfl rfl fun b18 hb18 => ?_
          cases b18 with
          | true =>
            replace h := brT hb18 h
            refine u0 (sNt rfl rfl) rfl rfl rfl ?_
            refine v0 (sPk rfl [] rfl rfl) rfl ?_
            refine ve ?_
            refine W2 [2, 3, 6, 8, 48] [101, 102] [1008] (l := [(2, .c (.ptr _ _ _ _)), (3, .c (.ptr _ _ _ _)), (6, .c (.row _ _ _)), (8, .c (.own _ _ _ _)), (48, .c (.bool false))]) (h := [(101, ⟨0, 12, [[.int _ _, .int _ _, .int _ _, .int _ _, .int _ _, .int _ _, .row _ _ _, .row _ _ _, .row _ _ _, .row _ _ _, .row _ _ _, .row _ _ _]]⟩), (102, ⟨0, 2, [[.int _ _, .int _ _]]⟩)]) (h' := [(1008, ⟨0, 2, r8.map en_impl_Handle⟩)]) ⟨⟨_, rfl, enOk_impl_Handle.allClosed _ _ r8⟩, trivial⟩ rfl rfl rfl ?_
            refine W_false rfl ?_
            refine W_skip ?_
            refine W_seq ?_
            refine W_regV he rfl ?_
            refine v0 (sA rfl [] rfl) rfl ?_
            refine ve ?_
            refine W2 [2, 3, 6, 8, 10] [101, 102] [1008] (l := [(2, .c (.ptr _ _ _ _)), (3, .c (.ptr _ _ _ _)), (6, .c (.row _ _ _)), (8, .c (.own _ _ _ _)), (10, .c (.int _ _))]) (h := [(101, ⟨0, 12, [[.int _ _, .int _ _, .int _ _, .int _ _, .int _ _, .int _ _, .row _ _ _, .row _ _ _, .row _ _ _, .row _ _ _, .row _ _ _, .row _ _ _]]⟩), (102, ⟨0, 2, [[.int _ _, .int _ _]]⟩)]) (h' := [(1008, ⟨0, 2, r8.map en_impl_Handle⟩)]) ⟨⟨_, rfl, enOk_impl_Handle.allClosed _ _ r8⟩, trivial⟩ rfl rfl rfl ?_
            refine W_seq ?_
            refine W_regV he rfl ?_
            refine v0 (sM rfl [] rfl) rfl ?_
            refine v0 (sM rfl [] rfl) rfl ?_
            refine bndc h ?_; clear h; intro r19 hr19 h
            refine chkc h ?_; clear h; intro c20 h
            refine v0 (sCw (w_laws_markHandleSW K r8 1 _ hr19) ok_laws_markHandleS enOk_impl_Handle c20 1008 rfl rfl rfl rfl rfl rfl) rfl ?_
            refine v0 (sA rfl [] rfl) rfl ?_
            refine ve ?_
            refine W.weak (wk_len 8 (n' := r19.2.length) (by simp only [List.length_set, c15.1, c15.2.1, c15.2.2.1, c15.2.2.2.1, c15.2.2.2.2.1, c15.2.2.2.2.2, c20]) rfl) ?_
            refine W2 [2, 3, 6, 8, 10] [101, 102] [1008] (l := [(2, .c (.ptr _ _ _ _)), (3, .c (.ptr _ _ _ _)), (6, .c (.row _ _ _)), (8, .c (.own _ _ _ _)), (10, .c (.int _ _))]) (h := [(101, ⟨0, 12, [[.int _ _, .int _ _, .int _ _, .int _ _, .int _ _, .int _ _, .row _ _ _, .row _ _ _, .row _ _ _, .row _ _ _, .row _ _ _, .row _ _ _]]⟩), (102, ⟨0, 2, [[.int _ _, .int _ _]]⟩)]) (h' := [(1008, ⟨0, 2, r19.2.map en_impl_Handle⟩)]) ⟨⟨_, rfl, enOk_impl_Handle.allClosed _ _ r19.2⟩, trivial⟩ rfl rfl rfl ?_
            refine W_seq ?_
            refine W_regV he rfl ?_
            refine v0 (sA rfl [] rfl) rfl ?_
            refine ve ?_
            refine W2 [2, 3, 6, 8, 10, 11] [101, 102] [1008] (l := [(2, .c (.ptr _ _ _ _)), (3, .c (.ptr _ _ _ _)), (6, .c (.row _ _ _)), (8, .c (.own _ _ _ _)), (10, .c (.int _ _)), (11, .c (.int _ _))]) (h := [(101, ⟨0, 12, [[.int _ _, .int _ _, .int _ _, .int _ _, .int _ _, .int _ _, .row _ _ _, .row _ _ _, .row _ _ _, .row _ _ _, .row _ _ _, .row _ _ _]]⟩), (102, ⟨0, 2, [[.int _ _, .int _ _]]⟩)]) (h' := [(1008, ⟨0, 2, r19.2.map en_impl_Handle⟩)]) ⟨⟨_, rfl, enOk_impl_Handle.allClosed _ _ r19.2⟩, trivial⟩ rfl rfl rfl ?_
            refine W_seq ?_
            refine W_regV he rfl ?_
            refine v0 (sM rfl [] rfl) rfl ?_
            refine v0 (sM rfl [] rfl) rfl ?_
            refine bndc h ?_; clear h; intro r21 hr21 h
            refine v0 (sCle (w_laws_heldHandleS K r19.2 1 _ hr21) ok_laws_heldHandleS [1008] rfl rfl (low_cons (low_lent (l := r19.2) enOk_impl_Handle rfl rfl rfl) (low_cons (rfl) (low_nil))) rfl) rfl ?_
            refine v0 (sA rfl [] rfl) rfl ?_
            refine ve ?_
            refine W2 [2, 3, 6, 8, 10, 11] [101, 102] [1008] (l := [(2, .c (.ptr _ _ _ _)), (3, .c (.ptr _ _ _ _)), (6, .c (.row _ _ _)), (8, .c (.own _ _ _ _)), (10, .c (.int _ _)), (11, .c (.int _ _))]) (h := [(101, ⟨0, 12, [[.int _ _, .int _ _, .int _ _, .int _ _, .int _ _, .int _ _, .row _ _ _, .row _ _ _, .row _ _ _, .row _ _ _, .row _ _ _, .row _ _ _]]⟩), (102, ⟨0, 2, [[.int _ _, .int _ _]]⟩)]) (h' := [(1008, ⟨0, 2, r19.2.map en_impl_Handle⟩)]) ⟨⟨_, rfl, enOk_impl_Handle.allClosed _ _ r19.2⟩, trivial⟩ rfl rfl rfl ?_
            refine W_seq ?_
            refine W_seq ?_
            refine W_regV he rfl ?_
            refine v0 (sM rfl [] rfl) rfl ?_
            refine vB (sBi rfl rfl rfl rfl) rfl rfl fun b22 hb22 => ?_
            cases b22 with
            | true =>
              replace h := brT hb22 h
              refine ve ?_
              refine W2 [2, 3, 6, 8, 10, 11, 56] [101, 102] [1008] (l := [(2, .c (.ptr _ _ _ _)), (3, .c (.ptr _ _ _ _)), (6, .c (.row _ _ _)), (8, .c (.own _ _ _ _)), (10, .c (.int _ _)), (11, .c (.int _ _)), (56, .c (.bool true))]) (h := [(101, ⟨0, 12, [[.int _ _, .int _ _, .int _ _, .int _ _, .int _ _, .int _ _, .row _ _ _, .row _ _ _, .row _ _ _, .row _ _ _, .row _ _ _, .row _ _ _]]⟩), (102, ⟨0, 2, [[.int _ _, .int _ _]]⟩)]) (h' := [(1008, ⟨0, 2, r19.2.map en_impl_Handle⟩)]) ⟨⟨_, rfl, enOk_impl_Handle.allClosed _ _ r19.2⟩, trivial⟩ rfl rfl rfl ?_
              refine W_true rfl ?_
              refine W_seq ?_
              refine W_regV he rfl ?_
              refine v0 (sA rfl [] rfl) rfl ?_
              refine ve ?_
              refine W2 [4] [] [] (l := [(4, .c (.bool false))]) (h := []) (h' := []) trivial rfl rfl rfl ?_
              obtain rfl := Option.some.inj h
              exact W_ret (r0 rfl rfl)
            | false =>
              replace h := brF hb22 h
              refine ve ?_
              refine W2 [2, 3, 6, 8, 10, 11, 56] [101, 102] [1008] (l := [(2, .c (.ptr _ _ _ _)), (3, .c (.ptr _ _ _ _)), (6, .c (.row _ _ _)), (8, .c (.own _ _ _ _)), (10, .c (.int _ _)), (11, .c (.int _ _)), (56, .c (.bool false))]) (h := [(101, ⟨0, 12, [[.int _ _, .int _ _, .int _ _, .int _ _, .int _ _, .int _ _, .row _ _ _, .row _ _ _, .row _ _ _, .row _ _ _, .row _ _ _, .row _ _ _]]⟩), (102, ⟨0, 2, [[.int _ _, .int _ _]]⟩)]) (h' := [(1008, ⟨0, 2, r19.2.map en_impl_Handle⟩)]) ⟨⟨_, rfl, enOk_impl_Handle.allClosed _ _ r19.2⟩, trivial⟩ rfl rfl rfl ?_
              refine W_false rfl ?_
              refine W_skip ?_
              refine W_seq ?_
              refine W_seq ?_
              refine W_regV he rfl ?_
              refine v0 (sM rfl [] rfl) rfl ?_
              refine v0 (sM rfl [] rfl) rfl ?_
              refine vB (sBi rfl rfl rfl rfl) rfl rfl fun b23 hb23 => ?_
              cases b23 with
              | true =>
                replace h := brT hb23 h
                refine ve ?_
                refine W2 [2, 3, 6, 8, 10, 59] [101, 102] [1008] (l := [(2, .c (.ptr _ _ _ _)), (3, .c (.ptr _ _ _ _)), (6, .c (.row _ _ _)), (8, .c (.own _ _ _ _)), (10, .c (.int _ _)), (59, .c (.bool true))]) (h := [(101, ⟨0, 12, [[.int _ _, .int _ _, .int _ _, .int _ _, .int _ _, .int _ _, .row _ _ _, .row _ _ _, .row _ _ _, .row _ _ _, .row _ _ _, .row _ _ _]]⟩), (102, ⟨0, 2, [[.int _ _, .int _ _]]⟩)]) (h' := [(1008, ⟨0, 2, r19.2.map en_impl_Handle⟩)]) ⟨⟨_, rfl, enOk_impl_Handle.allClosed _ _ r19.2⟩, trivial⟩ rfl rfl rfl ?_
                refine W_true rfl ?_
                refine W_seq ?_
                refine W_regV he rfl ?_
                refine v0 (sA rfl [] rfl) rfl ?_
                refine ve ?_
                refine W2 [4] [] [] (l := [(4, .c (.bool false))]) (h := []) (h' := []) trivial rfl rfl rfl ?_
                obtain rfl := Option.some.inj h
                exact W_ret (r0 rfl rfl)
              | false =>
                replace h := brF hb23 h
                refine ve ?_
                refine W2 [2, 3, 6, 8, 10, 59] [101, 102] [1008] (l := [(2, .c (.ptr _ _ _ _)), (3, .c (.ptr _ _ _ _)), (6, .c (.row _ _ _)), (8, .c (.own _ _ _ _)), (10, .c (.int _ _)), (59, .c (.bool false))]) (h := [(101, ⟨0, 12, [[.int _ _, .int _ _, .int _ _, .int _ _, .int _ _, .int _ _, .row _ _ _, .row _ _ _, .row _ _ _, .row _ _ _, .row _ _ _, .row _ _ _]]⟩), (102, ⟨0, 2, [[.int _ _, .int _ _]]⟩)]) (h' := [(1008, ⟨0, 2, r19.2.map en_impl_Handle⟩)]) ⟨⟨_, rfl, enOk_impl_Handle.allClosed _ _ r19.2⟩, trivial⟩ rfl rfl rfl ?_
                refine W_false rfl ?_
                refine W_skip ?_
                refine W_seq ?_
                refine W_regD he rfl rfl rfl ?_
                refine g0 (sLd rfl rfl) rfl ?_
                refine bndc h ?_; clear h; intro r24 hr24 h
                refine g0 (sCm (w_laws_toWorld K a0 _ hr24) ok_laws_toWorld rfl rfl rfl rfl) rfl ?_
                refine g0 (sLd rfl rfl) rfl ?_
                refine bndc h ?_; clear h; intro r25 hr25 h
                refine g0 (sCm (w_laws_toHandle K a1 _ hr25) ok_laws_toHandle rfl rfl rfl rfl) rfl ?_
                refine bndc h ?_; clear h; intro r26 hr26 h
                refine g0 (sCm (w_impl_KidsIn K r24 r25 _ hr26) ok_impl_KidsIn rfl rfl rfl rfl) rfl ?_
                refine g0 (sA rfl [] rfl) rfl ?_
                refine ge ⟨rfl, ?_⟩
                refine W2 [6, 8, 10, 12] [] [1008] (l := [(6, .c (.row _ _ _)), (8, .c (.own _ _ _ _)), (10, .c (.int _ _)), (12, .c (.row _ _ _))]) (h := []) (h' := [(1008, ⟨0, 2, r19.2.map en_impl_Handle⟩)]) ⟨⟨_, rfl, enOk_impl_Handle.allClosed _ _ r19.2⟩, trivial⟩ rfl rfl rfl ?_
                refine W_seq ?_
                refine W_seq ?_
                refine W_regV he rfl ?_
                refine v0 (sM rfl [] rfl) rfl ?_
                refine v0 (sM rfl [] rfl) rfl ?_
                refine bndc h ?_; clear h; intro r27 hr27 h
                refine vB (sCm (w_laws_eqHandleS K r26 r5 _ hr27) ok_laws_eqHandleS rfl rfl rfl rfl) rfl rfl fun b28 hb28 => ?_
                cases b28 with
                | true =>
                  replace h := brT hb28 h
                  refine v0 (sNt rfl rfl) rfl ?_
                  refine ve ?_
                  refine W2 [8, 10, 68] [] [1008] (l := [(8, .c (.own _ _ _ _)), (10, .c (.int _ _)), (68, .c (.bool false))]) (h := []) (h' := [(1008, ⟨0, 2, r19.2.map en_impl_Handle⟩)]) ⟨⟨_, rfl, enOk_impl_Handle.allClosed _ _ r19.2⟩, trivial⟩ rfl rfl rfl ?_
                  refine W_false rfl ?_
                  refine W_skip ?_
                  refine W_seq ?_
                  refine W_regV he rfl ?_
                  refine v0 (sA rfl [] rfl) rfl ?_
                  refine ve ?_
                  refine W2 [8, 10, 11] [] [1008] (l := [(8, .c (.own _ _ _ _)), (10, .c (.int _ _)), (11, .c (.int _ _))]) (h := []) (h' := [(1008, ⟨0, 2, r19.2.map en_impl_Handle⟩)]) ⟨⟨_, rfl, enOk_impl_Handle.allClosed _ _ r19.2⟩, trivial⟩ rfl rfl rfl ?_
                  refine W_seq ?_
                  refine W_regV he rfl ?_
                  refine v0 (sM rfl [] rfl) rfl ?_
                  refine v0 (sM rfl [] rfl) rfl ?_
                  refine bndc h ?_; clear h; intro r29 hr29 h
                  refine v0 (sCle (w_laws_heldHandleS K r19.2 1 _ hr29) ok_laws_heldHandleS [1008] rfl rfl (low_cons (low_lent (l := r19.2) enOk_impl_Handle rfl rfl rfl) (low_cons (rfl) (low_nil))) rfl) rfl ?_
                  refine v0 (sA rfl [] rfl) rfl ?_
                  refine ve ?_
                  refine W2 [10, 11] [] [] (l := [(10, .c (.int _ _)), (11, .c (.int _ _))]) (h := []) (h' := []) trivial rfl rfl rfl ?_
                  refine W_seq ?_
                  refine W_seq ?_
                  refine W_regV he rfl ?_
                  refine v0 (sM rfl [] rfl) rfl ?_
                  refine vB (sBi rfl rfl rfl rfl) rfl rfl fun b30 hb30 => ?_
                  cases b30 with
                  | true =>
                    replace h := brT hb30 h
                    refine ve ?_
                    refine W2 [10, 11, 73] [] [] (l := [(10, .c (.int _ _)), (11, .c (.int _ _)), (73, .c (.bool true))]) (h := []) (h' := []) trivial rfl rfl rfl ?_
                    refine W_true rfl ?_
                    refine W_seq ?_
                    refine W_regV he rfl ?_
                    refine v0 (sA rfl [] rfl) rfl ?_
                    refine ve ?_
                    refine W2 [4] [] [] (l := [(4, .c (.bool false))]) (h := []) (h' := []) trivial rfl rfl rfl ?_
                    obtain rfl := Option.some.inj h
                    exact W_ret (r0 rfl rfl)
                  | false =>
                    replace h := brF hb30 h
                    refine ve ?_
                    refine W2 [10, 11, 73] [] [] (l := [(10, .c (.int _ _)), (11, .c (.int _ _)), (73, .c (.bool false))]) (h := []) (h' := []) trivial rfl rfl rfl ?_
                    refine W_false rfl ?_
                    refine W_skip ?_
                    refine W_seq ?_
                    refine W_seq ?_
                    refine W_regV he rfl ?_
                    refine v0 (sM rfl [] rfl) rfl ?_
                    refine v0 (sM rfl [] rfl) rfl ?_
                    refine vB (sBi rfl rfl rfl rfl) rfl rfl fun b31 hb31 => ?_
                    cases b31 with
                    | true =>
                      replace h := brT hb31 h
                      refine ve ?_
                      refine W2 [76] [] [] (l := [(76, .c (.bool true))]) (h := []) (h' := []) trivial rfl rfl rfl ?_
                      refine W_true rfl ?_
                      refine W_seq ?_
                      refine W_regV he rfl ?_
                      refine v0 (sA rfl [] rfl) rfl ?_
                      refine ve ?_
                      refine W2 [4] [] [] (l := [(4, .c (.bool false))]) (h := []) (h' := []) trivial rfl rfl rfl ?_
                      obtain rfl := Option.some.inj h
                      exact W_ret (r0 rfl rfl)
                    | false =>
                      replace h := brF hb31 h
                      refine ve ?_
                      refine W2 [76] [] [] (l := [(76, .c (.bool false))]) (h := []) (h' := []) trivial rfl rfl rfl ?_
                      refine W_false rfl ?_
                      refine W_skip ?_
                      refine W_seq ?_
                      refine W_regV he rfl ?_
                      refine v0 (sA rfl [] rfl) rfl ?_
                      refine ve ?_
                      refine W2 [4] [] [] (l := [(4, .c (.bool true))]) (h := []) (h' := []) trivial rfl rfl rfl ?_
                      obtain rfl := Option.some.inj h
                      exact W_ret (r0 rfl rfl)
                | false =>
                  replace h := brF hb28 h
                  refine v0 (sNt rfl rfl) rfl ?_
                  refine ve ?_
                  refine W2 [8, 10, 68] [] [1008] (l := [(8, .c (.own _ _ _ _)), (10, .c (.int _ _)), (68, .c (.bool true))]) (h := []) (h' := [(1008, ⟨0, 2, r19.2.map en_impl_Handle⟩)]) ⟨⟨_, rfl, enOk_impl_Handle.allClosed _ _ r19.2⟩, trivial⟩ rfl rfl rfl ?_
                  refine W_true rfl ?_
                  refine W_seq ?_
                  refine W_regV he rfl ?_
                  refine v0 (sA rfl [] rfl) rfl ?_
                  refine ve ?_
                  refine W2 [4] [] [] (l := [(4, .c (.bool false))]) (h := []) (h' := []) trivial rfl rfl rfl ?_
                  obtain rfl := Option.some.inj h
                  exact W_ret (r0 rfl rfl)
          | false =>
            replace h := brF hb18 h
            refine u0 (sNt rfl rfl) rfl rfl rfl ?_
            refine v0 (sPk rfl [] rfl rfl) rfl ?_
            refine ve ?_
            refine W2 [2, 3, 6, 8, 48] [101, 102] [1008] (l := [(2, .c (.ptr _ _ _ _)), (3, .c (.ptr _ _ _ _)), (6, .c (.row _ _ _)), (8, .c (.own _ _ _ _)), (48, .c (.bool true))]) (h := [(101, ⟨0, 12, [[.int _ _, .int _ _, .int _ _, .int _ _, .int _ _, .int _ _, .row _ _ _, .row _ _ _, .row _ _ _, .row _ _ _, .row _ _ _, .row _ _ _]]⟩), (102, ⟨0, 2, [[.int _ _, .int _ _]]⟩)]) (h' := [(1008, ⟨0, 2, r8.map en_impl_Handle⟩)]) ⟨⟨_, rfl, enOk_impl_Handle.allClosed _ _ r8⟩, trivial⟩ rfl rfl rfl ?_
            refine W_true rfl ?_
            refine W_seq ?_
            refine W_regV he rfl ?_
            refine v0 (sA rfl [] rfl) rfl ?_
            refine ve ?_
            refine W2 [4] [] [] (l := [(4, .c (.bool false))]) (h := []) (h' := []) trivial rfl rfl rfl ?_
            obtain rfl := Option.some.inj h
            exact W_ret (r0 rfl rfl)
      | false =>
        replace h := brF hb13 h
        refine g0 (sNt rfl rfl) rfl ?_
        refine ge ⟨rfl, ?_⟩
        refine W2 [2, 3, 6, 7, 8, 37] [101, 102, 109] [1008, 2003, 2004, 2005, 2006, 2007, 2008] (l := [(2, .c (.ptr _ _ _ _)), (3, .c (.ptr _ _ _ _)), (6, .c (.row _ _ _)), (7, .c (.ptr _ _ _ _)), (8, .c (.own _ _ _ _)), (37, .c (.bool true))]) (h := [(101, ⟨0, 12, [[.int _ _, .int _ _, .int _ _, .int _ _, .int _ _, .int _ _, .row _ _ _, .row _ _ _, .row _ _ _, .row _ _ _, .row _ _ _, .row _ _ _]]⟩), (102, ⟨0, 2, [[.int _ _, .int _ _]]⟩), (109, ⟨0, 12, [[.int _ _, .int _ _, .int _ _, .int _ _, .int _ _, .int _ _, .own _ _ _ _, .own _ _ _ _, .own _ _ _ _, .own _ _ _ _, .own _ _ _ _, .own _ _ _ _]]⟩)]) (h' := [(1008, ⟨0, 2, r8.map en_impl_Handle⟩), (2003, ⟨0, 1, r6.fP.fMem.map en_u8⟩), (2004, ⟨0, 1, r6.fP.fSt.map en_i64⟩), (2005, ⟨0, 1, r6.fP.fOwn.map en_i64⟩), (2006, ⟨0, 13, r6.fL.map enD_impl_Node⟩), (2007, ⟨0, 5, r6.fQ.map enD_impl_Waste⟩), (2008, ⟨0, 1, r6.fLog.map en_i64⟩)]) ⟨⟨_, rfl, enOk_impl_Handle.allClosed _ _ r8⟩, ⟨⟨_, rfl, enOk_u8.allClosed _ _ r6.fP.fMem⟩, ⟨⟨_, rfl, enOk_i64.allClosed _ _ r6.fP.fSt⟩, ⟨⟨_, rfl, enOk_i64.allClosed _ _ r6.fP.fOwn⟩, ⟨⟨_, rfl, enDOk_impl_Node.allClosed _ _ r6.fL⟩, ⟨⟨_, rfl, enDOk_impl_Waste.allClosed _ _ r6.fQ⟩, ⟨⟨_, rfl, enOk_i64.allClosed _ _ r6.fLog⟩, trivial⟩⟩⟩⟩⟩⟩⟩ rfl rfl rfl ?_
        refine W_true rfl ?_
        refine W_seq ?_
        refine W_regV he rfl ?_
        refine v0 (sA rfl [] rfl) rfl ?_
        refine ve ?_
        refine W2 [4] [] [] (l := [(4, .c (.bool false))]) (h := []) (h' := []) trivial rfl rfl rfl ?_
        obtain rfl := Option.some.inj h
        exact W_ret (r0 rfl rfl)
    | false =>
      replace h := brF hb10 h
      refine v0 (sNt rfl rfl) rfl ?_
      refine ve ?_
      refine W2 [2, 3, 6, 7, 8, 32] [101, 102, 109] [1008, 2003, 2004, 2005, 2006, 2007, 2008] (l := [(2, .c (.ptr _ _ _ _)), (3, .c (.ptr _ _ _ _)), (6, .c (.row _ _ _)), (7, .c (.ptr _ _ _ _)), (8, .c (.own _ _ _ _)), (32, .c (.bool true))]) (h := [(101, ⟨0, 12, [[.int _ _, .int _ _, .int _ _, .int _ _, .int _ _, .int _ _, .row _ _ _, .row _ _ _, .row _ _ _, .row _ _ _, .row _ _ _, .row _ _ _]]⟩), (102, ⟨0, 2, [[.int _ _, .int _ _]]⟩), (109, ⟨0, 12, [[.int _ _, .int _ _, .int _ _, .int _ _, .int _ _, .int _ _, .own _ _ _ _, .own _ _ _ _, .own _ _ _ _, .own _ _ _ _, .own _ _ _ _, .own _ _ _ _]]⟩)]) (h' := [(1008, ⟨0, 2, r8.map en_impl_Handle⟩), (2003, ⟨0, 1, r6.fP.fMem.map en_u8⟩), (2004, ⟨0, 1, r6.fP.fSt.map en_i64⟩), (2005, ⟨0, 1, r6.fP.fOwn.map en_i64⟩), (2006, ⟨0, 13, r6.fL.map enD_impl_Node⟩), (2007, ⟨0, 5, r6.fQ.map enD_impl_Waste⟩), (2008, ⟨0, 1, r6.fLog.map en_i64⟩)]) ⟨⟨_, rfl, enOk_impl_Handle.allClosed _ _ r8⟩, ⟨⟨_, rfl, enOk_u8.allClosed _ _ r6.fP.fMem⟩, ⟨⟨_, rfl, enOk_i64.allClosed _ _ r6.fP.fSt⟩, ⟨⟨_, rfl, enOk_i64.allClosed _ _ r6.fP.fOwn⟩, ⟨⟨_, rfl, enDOk_impl_Node.allClosed _ _ r6.fL⟩, ⟨⟨_, rfl, enDOk_impl_Waste.allClosed _ _ r6.fQ⟩, ⟨⟨_, rfl, enOk_i64.allClosed _ _ r6.fLog⟩, trivial⟩⟩⟩⟩⟩⟩⟩ rfl rfl rfl ?_
      refine W_true rfl ?_
      refine W_seq ?_
      refine W_regV he rfl ?_
      refine v0 (sA rfl [] rfl) rfl ?_
      refine ve ?_
      refine W2 [4] [] [] (l := [(4, .c (.bool false))]) (h := []) (h' := []) trivial rfl rfl rfl ?_
      obtain rfl := Option.some.inj h
      exact W_ret (r0 rfl rfl)
theorem ok_laws_FnExactKidsIn : FnOk Try.prog 10 := ⟨_, Try.func10, rfl, rfl⟩


def Wf_i64 (x : Int) : Prop := (Lit.int .i64 x).wf = true
def Wf_laws_Conf (x : T_laws_Conf) : Prop := Wf_i64 x.fChunks ∧ Wf_i64 x.fSize ∧ Wf_i64 x.fSlots ∧ Wf_i64 x.fTax ∧ Wf_i64 x.fSlice ∧ Wf_i64 x.fGens
def Wf_u8 (x : Int) : Prop := (Lit.int .u8 x).wf = true
def Wf_Lu8 (x : List Int) : Prop := (∀ a ∈ x, Wf_u8 a) ∧ x.length * 1 ≤ reachBytes ∧ x.length ≤ maxLen
def Wf_Li64 (x : List Int) : Prop := (∀ a ∈ x, Wf_i64 a) ∧ x.length * 8 ≤ reachBytes ∧ x.length ≤ maxLen
def Wf_laws_Pool (x : T_laws_Pool) : Prop := Wf_Lu8 x.fMem ∧ Wf_Li64 x.fSt ∧ Wf_Li64 x.fOwn
def Wf_laws_Thing (x : T_laws_Thing) : Prop := Wf_i64 x.fAt ∧ Wf_i64 x.fLen ∧ Wf_i64 x.fRun
def Wf_Llaws_Thing (x : List T_laws_Thing) : Prop := (∀ a ∈ x, Wf_laws_Thing a) ∧ x.length * 24 ≤ reachBytes ∧ x.length ≤ maxLen
def Wf_laws_Node (x : T_laws_Node) : Prop := Wf_i64 x.fSt ∧ Wf_i64 x.fGen ∧ Wf_i64 x.fEp ∧ Wf_i64 x.fUp ∧ Wf_i64 x.fUpEp ∧ Wf_i64 x.fFirst ∧ Wf_i64 x.fNext ∧ Wf_i64 x.fPrev ∧ Wf_Li64 x.fChunks ∧ Wf_i64 x.fCur ∧ Wf_i64 x.fBump ∧ Wf_Llaws_Thing x.fThings ∧ Wf_Li64 x.fTags
def Wf_Llaws_Node (x : List T_laws_Node) : Prop := (∀ a ∈ x, Wf_laws_Node a) ∧ x.length * 152 ≤ reachBytes ∧ x.length ≤ maxLen
def Wf_laws_Waste (x : T_laws_Waste) : Prop := Wf_i64 x.fSlot ∧ Wf_i64 x.fFirst ∧ Wf_Li64 x.fTags ∧ Wf_Li64 x.fChunks ∧ Wf_i64 x.fDone
def Wf_Llaws_Waste (x : List T_laws_Waste) : Prop := (∀ a ∈ x, Wf_laws_Waste a) ∧ x.length * 72 ≤ reachBytes ∧ x.length ≤ maxLen
def Wf_laws_World (x : T_laws_World) : Prop := Wf_laws_Conf x.fC ∧ Wf_laws_Pool x.fP ∧ Wf_Llaws_Node x.fL ∧ Wf_Llaws_Waste x.fQ ∧ Wf_Li64 x.fLog
def Wf_laws_Handle (x : T_laws_Handle) : Prop := Wf_i64 x.fSlot ∧ Wf_i64 x.fGen
def Wf_impl_Conf (x : T_impl_Conf) : Prop := Wf_i64 x.fChunks ∧ Wf_i64 x.fSize ∧ Wf_i64 x.fSlots ∧ Wf_i64 x.fTax ∧ Wf_i64 x.fSlice ∧ Wf_i64 x.fGens
def Wf_impl_Pool (x : T_impl_Pool) : Prop := Wf_Lu8 x.fMem ∧ Wf_Li64 x.fSt ∧ Wf_Li64 x.fOwn
def Wf_impl_Thing (x : T_impl_Thing) : Prop := Wf_i64 x.fAt ∧ Wf_i64 x.fLen ∧ Wf_i64 x.fRun
def Wf_Limpl_Thing (x : List T_impl_Thing) : Prop := (∀ a ∈ x, Wf_impl_Thing a) ∧ x.length * 24 ≤ reachBytes ∧ x.length ≤ maxLen
def Wf_impl_Node (x : T_impl_Node) : Prop := Wf_i64 x.fSt ∧ Wf_i64 x.fGen ∧ Wf_i64 x.fEp ∧ Wf_i64 x.fUp ∧ Wf_i64 x.fUpEp ∧ Wf_i64 x.fFirst ∧ Wf_i64 x.fNext ∧ Wf_i64 x.fPrev ∧ Wf_Li64 x.fChunks ∧ Wf_i64 x.fCur ∧ Wf_i64 x.fBump ∧ Wf_Limpl_Thing x.fThings ∧ Wf_Li64 x.fTags
def Wf_impl_Waste (x : T_impl_Waste) : Prop := Wf_i64 x.fSlot ∧ Wf_i64 x.fFirst ∧ Wf_Li64 x.fTags ∧ Wf_Li64 x.fChunks ∧ Wf_i64 x.fDone
def Wf_Limpl_Node (x : List T_impl_Node) : Prop := (∀ a ∈ x, Wf_impl_Node a) ∧ x.length * 152 ≤ reachBytes ∧ x.length ≤ maxLen
def Wf_Limpl_Waste (x : List T_impl_Waste) : Prop := (∀ a ∈ x, Wf_impl_Waste a) ∧ x.length * 72 ≤ reachBytes ∧ x.length ≤ maxLen
def Wf_impl_World (x : T_impl_World) : Prop := Wf_impl_Conf x.fC ∧ Wf_impl_Pool x.fP ∧ Wf_Limpl_Node x.fL ∧ Wf_Limpl_Waste x.fQ ∧ Wf_Li64 x.fLog
def Wf_impl_Handle (x : T_impl_Handle) : Prop := Wf_i64 x.fSlot ∧ Wf_i64 x.fGen
theorem lf_i64 {v : V} (h : Lf tab 3 v) : ∃ a, v = .int .i64 a ∧ Wf_i64 a := lf_int h rfl rfl
theorem ro_i64 (x : List V) (hl : x.length = 1) (h : ∀ (i : Nat) l v, ([3] : List Nat)[i]? = some l → x[i]? = some v → Lf tab l v) : ∃ a, x = en_i64 a ∧ Wf_i64 a := by
  match x, hl with
  | [v0], _ =>
    obtain ⟨x0, rfl, w0⟩ := lf_i64 (h 0 _ _ rfl rfl)
    exact ⟨x0, rfl, w0⟩
theorem ta_i64 {x : A} (h : TA tab 3 x) : ∃ a, x = .c (.int .i64 a) ∧ Wf_i64 a := let ⟨v, e, h1⟩ := ta_one h rfl rfl; let ⟨a, e2, w⟩ := lf_i64 h1; ⟨a, by rw [e, e2], w⟩
theorem ro_laws_Conf (x : List V) (hl : x.length = 6) (h : ∀ (i : Nat) l v, ([3, 3, 3, 3, 3, 3] : List Nat)[i]? = some l → x[i]? = some v → Lf tab l v) : ∃ a, x = en_laws_Conf a ∧ Wf_laws_Conf a := by
  match x, hl with
  | [v0, v1, v2, v3, v4, v5], _ =>
    obtain ⟨x0, rfl, w0⟩ := lf_i64 (h 0 _ _ rfl rfl)
    obtain ⟨x1, rfl, w1⟩ := lf_i64 (h 1 _ _ rfl rfl)
    obtain ⟨x2, rfl, w2⟩ := lf_i64 (h 2 _ _ rfl rfl)
    obtain ⟨x3, rfl, w3⟩ := lf_i64 (h 3 _ _ rfl rfl)
    obtain ⟨x4, rfl, w4⟩ := lf_i64 (h 4 _ _ rfl rfl)
    obtain ⟨x5, rfl, w5⟩ := lf_i64 (h 5 _ _ rfl rfl)
    exact ⟨(T_laws_Conf.mk x0 x1 x2 x3 x4 x5), rfl, ⟨w0, w1, w2, w3, w4, w5⟩⟩
theorem ta_laws_Conf {x : A} (h : TA tab 23 x) : ∃ a, x = .g [.int .i64 a.fChunks, .int .i64 a.fSize, .int .i64 a.fSlots, .int .i64 a.fTax, .int .i64 a.fSlice, .int .i64 a.fGens] ∧ Wf_laws_Conf a := let ⟨vs, e, h1, h2⟩ := ta_agg h rfl rfl rfl; let ⟨a, e2, w⟩ := ro_laws_Conf vs h1 h2; ⟨a, by rw [e, e2]; rfl, w⟩
theorem lf_u8 {v : V} (h : Lf tab 5 v) : ∃ a, v = .int .u8 a ∧ Wf_u8 a := lf_int h rfl rfl
theorem ro_u8 (x : List V) (hl : x.length = 1) (h : ∀ (i : Nat) l v, ([5] : List Nat)[i]? = some l → x[i]? = some v → Lf tab l v) : ∃ a, x = en_u8 a ∧ Wf_u8 a := by
  match x, hl with
  | [v0], _ =>
    obtain ⟨x0, rfl, w0⟩ := lf_u8 (h 0 _ _ rfl rfl)
    exact ⟨x0, rfl, w0⟩
theorem ta_u8 {x : A} (h : TA tab 5 x) : ∃ a, x = .c (.int .u8 a) ∧ Wf_u8 a := let ⟨v, e, h1⟩ := ta_one h rfl rfl; let ⟨a, e2, w⟩ := lf_u8 h1; ⟨a, by rw [e, e2], w⟩
theorem lf_Lu8 {v : V} (h : Lf tab 24 v) : ∃ a, v = .row false 1 (a.map en_u8) ∧ Wf_Lu8 a := let ⟨l, e, h1, h2, h3⟩ := lf_row h rfl rfl rfl rfl ro_u8; ⟨l, e, h1, h2, h3⟩
theorem ro_Lu8 (x : List V) (hl : x.length = 1) (h : ∀ (i : Nat) l v, ([24] : List Nat)[i]? = some l → x[i]? = some v → Lf tab l v) : ∃ a, x = en_Lu8 a ∧ Wf_Lu8 a := by
  match x, hl with
  | [v0], _ =>
    obtain ⟨x0, rfl, w0⟩ := lf_Lu8 (h 0 _ _ rfl rfl)
    exact ⟨x0, rfl, w0⟩
theorem ta_Lu8 {x : A} (h : TA tab 24 x) : ∃ a, x = .c (.row false 1 (a.map en_u8)) ∧ Wf_Lu8 a := let ⟨v, e, h1⟩ := ta_one h rfl rfl; let ⟨a, e2, w⟩ := lf_Lu8 h1; ⟨a, by rw [e, e2], w⟩
theorem lf_Li64 {v : V} (h : Lf tab 25 v) : ∃ a, v = .row false 1 (a.map en_i64) ∧ Wf_Li64 a := let ⟨l, e, h1, h2, h3⟩ := lf_row h rfl rfl rfl rfl ro_i64; ⟨l, e, h1, h2, h3⟩
theorem ro_Li64 (x : List V) (hl : x.length = 1) (h : ∀ (i : Nat) l v, ([25] : List Nat)[i]? = some l → x[i]? = some v → Lf tab l v) : ∃ a, x = en_Li64 a ∧ Wf_Li64 a := by
  match x, hl with
  | [v0], _ =>
    obtain ⟨x0, rfl, w0⟩ := lf_Li64 (h 0 _ _ rfl rfl)
    exact ⟨x0, rfl, w0⟩
theorem ta_Li64 {x : A} (h : TA tab 25 x) : ∃ a, x = .c (.row false 1 (a.map en_i64)) ∧ Wf_Li64 a := let ⟨v, e, h1⟩ := ta_one h rfl rfl; let ⟨a, e2, w⟩ := lf_Li64 h1; ⟨a, by rw [e, e2], w⟩
theorem ro_laws_Pool (x : List V) (hl : x.length = 3) (h : ∀ (i : Nat) l v, ([24, 25, 25] : List Nat)[i]? = some l → x[i]? = some v → Lf tab l v) : ∃ a, x = en_laws_Pool a ∧ Wf_laws_Pool a := by
  match x, hl with
  | [v0, v1, v2], _ =>
    obtain ⟨x0, rfl, w0⟩ := lf_Lu8 (h 0 _ _ rfl rfl)
    obtain ⟨x1, rfl, w1⟩ := lf_Li64 (h 1 _ _ rfl rfl)
    obtain ⟨x2, rfl, w2⟩ := lf_Li64 (h 2 _ _ rfl rfl)
    exact ⟨(T_laws_Pool.mk x0 x1 x2), rfl, ⟨w0, w1, w2⟩⟩
theorem ta_laws_Pool {x : A} (h : TA tab 27 x) : ∃ a, x = .g [.row false 1 (a.fMem.map en_u8), .row false 1 (a.fSt.map en_i64), .row false 1 (a.fOwn.map en_i64)] ∧ Wf_laws_Pool a := let ⟨vs, e, h1, h2⟩ := ta_agg h rfl rfl rfl; let ⟨a, e2, w⟩ := ro_laws_Pool vs h1 h2; ⟨a, by rw [e, e2]; rfl, w⟩
theorem ro_laws_Thing (x : List V) (hl : x.length = 3) (h : ∀ (i : Nat) l v, ([3, 3, 3] : List Nat)[i]? = some l → x[i]? = some v → Lf tab l v) : ∃ a, x = en_laws_Thing a ∧ Wf_laws_Thing a := by
  match x, hl with
  | [v0, v1, v2], _ =>
    obtain ⟨x0, rfl, w0⟩ := lf_i64 (h 0 _ _ rfl rfl)
    obtain ⟨x1, rfl, w1⟩ := lf_i64 (h 1 _ _ rfl rfl)
    obtain ⟨x2, rfl, w2⟩ := lf_i64 (h 2 _ _ rfl rfl)
    exact ⟨(T_laws_Thing.mk x0 x1 x2), rfl, ⟨w0, w1, w2⟩⟩
theorem ta_laws_Thing {x : A} (h : TA tab 137 x) : ∃ a, x = .g [.int .i64 a.fAt, .int .i64 a.fLen, .int .i64 a.fRun] ∧ Wf_laws_Thing a := let ⟨vs, e, h1, h2⟩ := ta_agg h rfl rfl rfl; let ⟨a, e2, w⟩ := ro_laws_Thing vs h1 h2; ⟨a, by rw [e, e2]; rfl, w⟩
theorem lf_Llaws_Thing {v : V} (h : Lf tab 104 v) : ∃ a, v = .row false 3 (a.map en_laws_Thing) ∧ Wf_Llaws_Thing a := let ⟨l, e, h1, h2, h3⟩ := lf_row h rfl rfl rfl rfl ro_laws_Thing; ⟨l, e, h1, h2, h3⟩
theorem ro_Llaws_Thing (x : List V) (hl : x.length = 1) (h : ∀ (i : Nat) l v, ([104] : List Nat)[i]? = some l → x[i]? = some v → Lf tab l v) : ∃ a, x = en_Llaws_Thing a ∧ Wf_Llaws_Thing a := by
  match x, hl with
  | [v0], _ =>
    obtain ⟨x0, rfl, w0⟩ := lf_Llaws_Thing (h 0 _ _ rfl rfl)
    exact ⟨x0, rfl, w0⟩
theorem ta_Llaws_Thing {x : A} (h : TA tab 104 x) : ∃ a, x = .c (.row false 3 (a.map en_laws_Thing)) ∧ Wf_Llaws_Thing a := let ⟨v, e, h1⟩ := ta_one h rfl rfl; let ⟨a, e2, w⟩ := lf_Llaws_Thing h1; ⟨a, by rw [e, e2], w⟩
theorem ro_laws_Node (x : List V) (hl : x.length = 13) (h : ∀ (i : Nat) l v, ([3, 3, 3, 3, 3, 3, 3, 3, 25, 3, 3, 104, 25] : List Nat)[i]? = some l → x[i]? = some v → Lf tab l v) : ∃ a, x = en_laws_Node a ∧ Wf_laws_Node a := by
  match x, hl with
  | [v0, v1, v2, v3, v4, v5, v6, v7, v8, v9, v10, v11, v12], _ =>
    obtain ⟨x0, rfl, w0⟩ := lf_i64 (h 0 _ _ rfl rfl)
    obtain ⟨x1, rfl, w1⟩ := lf_i64 (h 1 _ _ rfl rfl)
    obtain ⟨x2, rfl, w2⟩ := lf_i64 (h 2 _ _ rfl rfl)
    obtain ⟨x3, rfl, w3⟩ := lf_i64 (h 3 _ _ rfl rfl)
    obtain ⟨x4, rfl, w4⟩ := lf_i64 (h 4 _ _ rfl rfl)
    obtain ⟨x5, rfl, w5⟩ := lf_i64 (h 5 _ _ rfl rfl)
    obtain ⟨x6, rfl, w6⟩ := lf_i64 (h 6 _ _ rfl rfl)
    obtain ⟨x7, rfl, w7⟩ := lf_i64 (h 7 _ _ rfl rfl)
    obtain ⟨x8, rfl, w8⟩ := lf_Li64 (h 8 _ _ rfl rfl)
    obtain ⟨x9, rfl, w9⟩ := lf_i64 (h 9 _ _ rfl rfl)
    obtain ⟨x10, rfl, w10⟩ := lf_i64 (h 10 _ _ rfl rfl)
    obtain ⟨x11, rfl, w11⟩ := lf_Llaws_Thing (h 11 _ _ rfl rfl)
    obtain ⟨x12, rfl, w12⟩ := lf_Li64 (h 12 _ _ rfl rfl)
    exact ⟨(T_laws_Node.mk x0 x1 x2 x3 x4 x5 x6 x7 x8 x9 x10 x11 x12), rfl, ⟨w0, w1, w2, w3, w4, w5, w6, w7, w8, w9, w10, w11, w12⟩⟩
theorem ta_laws_Node {x : A} (h : TA tab 106 x) : ∃ a, x = .g [.int .i64 a.fSt, .int .i64 a.fGen, .int .i64 a.fEp, .int .i64 a.fUp, .int .i64 a.fUpEp, .int .i64 a.fFirst, .int .i64 a.fNext, .int .i64 a.fPrev, .row false 1 (a.fChunks.map en_i64), .int .i64 a.fCur, .int .i64 a.fBump, .row false 3 (a.fThings.map en_laws_Thing), .row false 1 (a.fTags.map en_i64)] ∧ Wf_laws_Node a := let ⟨vs, e, h1, h2⟩ := ta_agg h rfl rfl rfl; let ⟨a, e2, w⟩ := ro_laws_Node vs h1 h2; ⟨a, by rw [e, e2]; rfl, w⟩
theorem lf_Llaws_Node {v : V} (h : Lf tab 28 v) : ∃ a, v = .row false 13 (a.map en_laws_Node) ∧ Wf_Llaws_Node a := let ⟨l, e, h1, h2, h3⟩ := lf_row h rfl rfl rfl rfl ro_laws_Node; ⟨l, e, h1, h2, h3⟩
theorem ro_Llaws_Node (x : List V) (hl : x.length = 1) (h : ∀ (i : Nat) l v, ([28] : List Nat)[i]? = some l → x[i]? = some v → Lf tab l v) : ∃ a, x = en_Llaws_Node a ∧ Wf_Llaws_Node a := by
  match x, hl with
  | [v0], _ =>
    obtain ⟨x0, rfl, w0⟩ := lf_Llaws_Node (h 0 _ _ rfl rfl)
    exact ⟨x0, rfl, w0⟩
theorem ta_Llaws_Node {x : A} (h : TA tab 28 x) : ∃ a, x = .c (.row false 13 (a.map en_laws_Node)) ∧ Wf_Llaws_Node a := let ⟨v, e, h1⟩ := ta_one h rfl rfl; let ⟨a, e2, w⟩ := lf_Llaws_Node h1; ⟨a, by rw [e, e2], w⟩
theorem ro_laws_Waste (x : List V) (hl : x.length = 5) (h : ∀ (i : Nat) l v, ([3, 3, 25, 25, 3] : List Nat)[i]? = some l → x[i]? = some v → Lf tab l v) : ∃ a, x = en_laws_Waste a ∧ Wf_laws_Waste a := by
  match x, hl with
  | [v0, v1, v2, v3, v4], _ =>
    obtain ⟨x0, rfl, w0⟩ := lf_i64 (h 0 _ _ rfl rfl)
    obtain ⟨x1, rfl, w1⟩ := lf_i64 (h 1 _ _ rfl rfl)
    obtain ⟨x2, rfl, w2⟩ := lf_Li64 (h 2 _ _ rfl rfl)
    obtain ⟨x3, rfl, w3⟩ := lf_Li64 (h 3 _ _ rfl rfl)
    obtain ⟨x4, rfl, w4⟩ := lf_i64 (h 4 _ _ rfl rfl)
    exact ⟨(T_laws_Waste.mk x0 x1 x2 x3 x4), rfl, ⟨w0, w1, w2, w3, w4⟩⟩
theorem ta_laws_Waste {x : A} (h : TA tab 109 x) : ∃ a, x = .g [.int .i64 a.fSlot, .int .i64 a.fFirst, .row false 1 (a.fTags.map en_i64), .row false 1 (a.fChunks.map en_i64), .int .i64 a.fDone] ∧ Wf_laws_Waste a := let ⟨vs, e, h1, h2⟩ := ta_agg h rfl rfl rfl; let ⟨a, e2, w⟩ := ro_laws_Waste vs h1 h2; ⟨a, by rw [e, e2]; rfl, w⟩
theorem lf_Llaws_Waste {v : V} (h : Lf tab 29 v) : ∃ a, v = .row false 5 (a.map en_laws_Waste) ∧ Wf_Llaws_Waste a := let ⟨l, e, h1, h2, h3⟩ := lf_row h rfl rfl rfl rfl ro_laws_Waste; ⟨l, e, h1, h2, h3⟩
theorem ro_Llaws_Waste (x : List V) (hl : x.length = 1) (h : ∀ (i : Nat) l v, ([29] : List Nat)[i]? = some l → x[i]? = some v → Lf tab l v) : ∃ a, x = en_Llaws_Waste a ∧ Wf_Llaws_Waste a := by
  match x, hl with
  | [v0], _ =>
    obtain ⟨x0, rfl, w0⟩ := lf_Llaws_Waste (h 0 _ _ rfl rfl)
    exact ⟨x0, rfl, w0⟩
theorem ta_Llaws_Waste {x : A} (h : TA tab 29 x) : ∃ a, x = .c (.row false 5 (a.map en_laws_Waste)) ∧ Wf_Llaws_Waste a := let ⟨v, e, h1⟩ := ta_one h rfl rfl; let ⟨a, e2, w⟩ := lf_Llaws_Waste h1; ⟨a, by rw [e, e2], w⟩
theorem ro_laws_World (x : List V) (hl : x.length = 12) (h : ∀ (i : Nat) l v, ([3, 3, 3, 3, 3, 3, 24, 25, 25, 28, 29, 25] : List Nat)[i]? = some l → x[i]? = some v → Lf tab l v) : ∃ a, x = en_laws_World a ∧ Wf_laws_World a := by
  match x, hl with
  | [v0, v1, v2, v3, v4, v5, v6, v7, v8, v9, v10, v11], _ =>
    obtain ⟨x0, rfl, w0⟩ := lf_i64 (h 0 _ _ rfl rfl)
    obtain ⟨x1, rfl, w1⟩ := lf_i64 (h 1 _ _ rfl rfl)
    obtain ⟨x2, rfl, w2⟩ := lf_i64 (h 2 _ _ rfl rfl)
    obtain ⟨x3, rfl, w3⟩ := lf_i64 (h 3 _ _ rfl rfl)
    obtain ⟨x4, rfl, w4⟩ := lf_i64 (h 4 _ _ rfl rfl)
    obtain ⟨x5, rfl, w5⟩ := lf_i64 (h 5 _ _ rfl rfl)
    obtain ⟨x6, rfl, w6⟩ := lf_Lu8 (h 6 _ _ rfl rfl)
    obtain ⟨x7, rfl, w7⟩ := lf_Li64 (h 7 _ _ rfl rfl)
    obtain ⟨x8, rfl, w8⟩ := lf_Li64 (h 8 _ _ rfl rfl)
    obtain ⟨x9, rfl, w9⟩ := lf_Llaws_Node (h 9 _ _ rfl rfl)
    obtain ⟨x10, rfl, w10⟩ := lf_Llaws_Waste (h 10 _ _ rfl rfl)
    obtain ⟨x11, rfl, w11⟩ := lf_Li64 (h 11 _ _ rfl rfl)
    exact ⟨(T_laws_World.mk (T_laws_Conf.mk x0 x1 x2 x3 x4 x5) (T_laws_Pool.mk x6 x7 x8) x9 x10 x11), rfl, ⟨⟨w0, w1, w2, w3, w4, w5⟩, ⟨w6, w7, w8⟩, w9, w10, w11⟩⟩
theorem ta_laws_World {x : A} (h : TA tab 31 x) : ∃ a, x = .g [.int .i64 a.fC.fChunks, .int .i64 a.fC.fSize, .int .i64 a.fC.fSlots, .int .i64 a.fC.fTax, .int .i64 a.fC.fSlice, .int .i64 a.fC.fGens, .row false 1 (a.fP.fMem.map en_u8), .row false 1 (a.fP.fSt.map en_i64), .row false 1 (a.fP.fOwn.map en_i64), .row false 13 (a.fL.map en_laws_Node), .row false 5 (a.fQ.map en_laws_Waste), .row false 1 (a.fLog.map en_i64)] ∧ Wf_laws_World a := let ⟨vs, e, h1, h2⟩ := ta_agg h rfl rfl rfl; let ⟨a, e2, w⟩ := ro_laws_World vs h1 h2; ⟨a, by rw [e, e2]; rfl, w⟩
theorem ro_laws_Handle (x : List V) (hl : x.length = 2) (h : ∀ (i : Nat) l v, ([3, 3] : List Nat)[i]? = some l → x[i]? = some v → Lf tab l v) : ∃ a, x = en_laws_Handle a ∧ Wf_laws_Handle a := by
  match x, hl with
  | [v0, v1], _ =>
    obtain ⟨x0, rfl, w0⟩ := lf_i64 (h 0 _ _ rfl rfl)
    obtain ⟨x1, rfl, w1⟩ := lf_i64 (h 1 _ _ rfl rfl)
    exact ⟨(T_laws_Handle.mk x0 x1), rfl, ⟨w0, w1⟩⟩
theorem ta_laws_Handle {x : A} (h : TA tab 44 x) : ∃ a, x = .g [.int .i64 a.fSlot, .int .i64 a.fGen] ∧ Wf_laws_Handle a := let ⟨vs, e, h1, h2⟩ := ta_agg h rfl rfl rfl; let ⟨a, e2, w⟩ := ro_laws_Handle vs h1 h2; ⟨a, by rw [e, e2]; rfl, w⟩
theorem ro_impl_Conf (x : List V) (hl : x.length = 6) (h : ∀ (i : Nat) l v, ([3, 3, 3, 3, 3, 3] : List Nat)[i]? = some l → x[i]? = some v → Lf tab l v) : ∃ a, x = en_impl_Conf a ∧ Wf_impl_Conf a := by
  match x, hl with
  | [v0, v1, v2, v3, v4, v5], _ =>
    obtain ⟨x0, rfl, w0⟩ := lf_i64 (h 0 _ _ rfl rfl)
    obtain ⟨x1, rfl, w1⟩ := lf_i64 (h 1 _ _ rfl rfl)
    obtain ⟨x2, rfl, w2⟩ := lf_i64 (h 2 _ _ rfl rfl)
    obtain ⟨x3, rfl, w3⟩ := lf_i64 (h 3 _ _ rfl rfl)
    obtain ⟨x4, rfl, w4⟩ := lf_i64 (h 4 _ _ rfl rfl)
    obtain ⟨x5, rfl, w5⟩ := lf_i64 (h 5 _ _ rfl rfl)
    exact ⟨(T_impl_Conf.mk x0 x1 x2 x3 x4 x5), rfl, ⟨w0, w1, w2, w3, w4, w5⟩⟩
theorem ta_impl_Conf {x : A} (h : TA tab 34 x) : ∃ a, x = .g [.int .i64 a.fChunks, .int .i64 a.fSize, .int .i64 a.fSlots, .int .i64 a.fTax, .int .i64 a.fSlice, .int .i64 a.fGens] ∧ Wf_impl_Conf a := let ⟨vs, e, h1, h2⟩ := ta_agg h rfl rfl rfl; let ⟨a, e2, w⟩ := ro_impl_Conf vs h1 h2; ⟨a, by rw [e, e2]; rfl, w⟩
theorem ro_impl_Pool (x : List V) (hl : x.length = 3) (h : ∀ (i : Nat) l v, ([24, 25, 25] : List Nat)[i]? = some l → x[i]? = some v → Lf tab l v) : ∃ a, x = en_impl_Pool a ∧ Wf_impl_Pool a := by
  match x, hl with
  | [v0, v1, v2], _ =>
    obtain ⟨x0, rfl, w0⟩ := lf_Lu8 (h 0 _ _ rfl rfl)
    obtain ⟨x1, rfl, w1⟩ := lf_Li64 (h 1 _ _ rfl rfl)
    obtain ⟨x2, rfl, w2⟩ := lf_Li64 (h 2 _ _ rfl rfl)
    exact ⟨(T_impl_Pool.mk x0 x1 x2), rfl, ⟨w0, w1, w2⟩⟩
theorem ta_impl_Pool {x : A} (h : TA tab 35 x) : ∃ a, x = .g [.row false 1 (a.fMem.map en_u8), .row false 1 (a.fSt.map en_i64), .row false 1 (a.fOwn.map en_i64)] ∧ Wf_impl_Pool a := let ⟨vs, e, h1, h2⟩ := ta_agg h rfl rfl rfl; let ⟨a, e2, w⟩ := ro_impl_Pool vs h1 h2; ⟨a, by rw [e, e2]; rfl, w⟩
theorem ro_impl_Thing (x : List V) (hl : x.length = 3) (h : ∀ (i : Nat) l v, ([3, 3, 3] : List Nat)[i]? = some l → x[i]? = some v → Lf tab l v) : ∃ a, x = en_impl_Thing a ∧ Wf_impl_Thing a := by
  match x, hl with
  | [v0, v1, v2], _ =>
    obtain ⟨x0, rfl, w0⟩ := lf_i64 (h 0 _ _ rfl rfl)
    obtain ⟨x1, rfl, w1⟩ := lf_i64 (h 1 _ _ rfl rfl)
    obtain ⟨x2, rfl, w2⟩ := lf_i64 (h 2 _ _ rfl rfl)
    exact ⟨(T_impl_Thing.mk x0 x1 x2), rfl, ⟨w0, w1, w2⟩⟩
theorem ta_impl_Thing {x : A} (h : TA tab 92 x) : ∃ a, x = .g [.int .i64 a.fAt, .int .i64 a.fLen, .int .i64 a.fRun] ∧ Wf_impl_Thing a := let ⟨vs, e, h1, h2⟩ := ta_agg h rfl rfl rfl; let ⟨a, e2, w⟩ := ro_impl_Thing vs h1 h2; ⟨a, by rw [e, e2]; rfl, w⟩
theorem lf_Limpl_Thing {v : V} (h : Lf tab 87 v) : ∃ a, v = .row false 3 (a.map en_impl_Thing) ∧ Wf_Limpl_Thing a := let ⟨l, e, h1, h2, h3⟩ := lf_row h rfl rfl rfl rfl ro_impl_Thing; ⟨l, e, h1, h2, h3⟩
theorem ro_Limpl_Thing (x : List V) (hl : x.length = 1) (h : ∀ (i : Nat) l v, ([87] : List Nat)[i]? = some l → x[i]? = some v → Lf tab l v) : ∃ a, x = en_Limpl_Thing a ∧ Wf_Limpl_Thing a := by
  match x, hl with
  | [v0], _ =>
    obtain ⟨x0, rfl, w0⟩ := lf_Limpl_Thing (h 0 _ _ rfl rfl)
    exact ⟨x0, rfl, w0⟩
theorem ta_Limpl_Thing {x : A} (h : TA tab 87 x) : ∃ a, x = .c (.row false 3 (a.map en_impl_Thing)) ∧ Wf_Limpl_Thing a := let ⟨v, e, h1⟩ := ta_one h rfl rfl; let ⟨a, e2, w⟩ := lf_Limpl_Thing h1; ⟨a, by rw [e, e2], w⟩
theorem ro_impl_Node (x : List V) (hl : x.length = 13) (h : ∀ (i : Nat) l v, ([3, 3, 3, 3, 3, 3, 3, 3, 25, 3, 3, 87, 25] : List Nat)[i]? = some l → x[i]? = some v → Lf tab l v) : ∃ a, x = en_impl_Node a ∧ Wf_impl_Node a := by
  match x, hl with
  | [v0, v1, v2, v3, v4, v5, v6, v7, v8, v9, v10, v11, v12], _ =>
    obtain ⟨x0, rfl, w0⟩ := lf_i64 (h 0 _ _ rfl rfl)
    obtain ⟨x1, rfl, w1⟩ := lf_i64 (h 1 _ _ rfl rfl)
    obtain ⟨x2, rfl, w2⟩ := lf_i64 (h 2 _ _ rfl rfl)
    obtain ⟨x3, rfl, w3⟩ := lf_i64 (h 3 _ _ rfl rfl)
    obtain ⟨x4, rfl, w4⟩ := lf_i64 (h 4 _ _ rfl rfl)
    obtain ⟨x5, rfl, w5⟩ := lf_i64 (h 5 _ _ rfl rfl)
    obtain ⟨x6, rfl, w6⟩ := lf_i64 (h 6 _ _ rfl rfl)
    obtain ⟨x7, rfl, w7⟩ := lf_i64 (h 7 _ _ rfl rfl)
    obtain ⟨x8, rfl, w8⟩ := lf_Li64 (h 8 _ _ rfl rfl)
    obtain ⟨x9, rfl, w9⟩ := lf_i64 (h 9 _ _ rfl rfl)
    obtain ⟨x10, rfl, w10⟩ := lf_i64 (h 10 _ _ rfl rfl)
    obtain ⟨x11, rfl, w11⟩ := lf_Limpl_Thing (h 11 _ _ rfl rfl)
    obtain ⟨x12, rfl, w12⟩ := lf_Li64 (h 12 _ _ rfl rfl)
    exact ⟨(T_impl_Node.mk x0 x1 x2 x3 x4 x5 x6 x7 x8 x9 x10 x11 x12), rfl, ⟨w0, w1, w2, w3, w4, w5, w6, w7, w8, w9, w10, w11, w12⟩⟩
theorem ta_impl_Node {x : A} (h : TA tab 89 x) : ∃ a, x = .g [.int .i64 a.fSt, .int .i64 a.fGen, .int .i64 a.fEp, .int .i64 a.fUp, .int .i64 a.fUpEp, .int .i64 a.fFirst, .int .i64 a.fNext, .int .i64 a.fPrev, .row false 1 (a.fChunks.map en_i64), .int .i64 a.fCur, .int .i64 a.fBump, .row false 3 (a.fThings.map en_impl_Thing), .row false 1 (a.fTags.map en_i64)] ∧ Wf_impl_Node a := let ⟨vs, e, h1, h2⟩ := ta_agg h rfl rfl rfl; let ⟨a, e2, w⟩ := ro_impl_Node vs h1 h2; ⟨a, by rw [e, e2]; rfl, w⟩
theorem ro_impl_Waste (x : List V) (hl : x.length = 5) (h : ∀ (i : Nat) l v, ([3, 3, 25, 25, 3] : List Nat)[i]? = some l → x[i]? = some v → Lf tab l v) : ∃ a, x = en_impl_Waste a ∧ Wf_impl_Waste a := by
  match x, hl with
  | [v0, v1, v2, v3, v4], _ =>
    obtain ⟨x0, rfl, w0⟩ := lf_i64 (h 0 _ _ rfl rfl)
    obtain ⟨x1, rfl, w1⟩ := lf_i64 (h 1 _ _ rfl rfl)
    obtain ⟨x2, rfl, w2⟩ := lf_Li64 (h 2 _ _ rfl rfl)
    obtain ⟨x3, rfl, w3⟩ := lf_Li64 (h 3 _ _ rfl rfl)
    obtain ⟨x4, rfl, w4⟩ := lf_i64 (h 4 _ _ rfl rfl)
    exact ⟨(T_impl_Waste.mk x0 x1 x2 x3 x4), rfl, ⟨w0, w1, w2, w3, w4⟩⟩
theorem ta_impl_Waste {x : A} (h : TA tab 113 x) : ∃ a, x = .g [.int .i64 a.fSlot, .int .i64 a.fFirst, .row false 1 (a.fTags.map en_i64), .row false 1 (a.fChunks.map en_i64), .int .i64 a.fDone] ∧ Wf_impl_Waste a := let ⟨vs, e, h1, h2⟩ := ta_agg h rfl rfl rfl; let ⟨a, e2, w⟩ := ro_impl_Waste vs h1 h2; ⟨a, by rw [e, e2]; rfl, w⟩
theorem lf_Limpl_Node {v : V} (h : Lf tab 36 v) : ∃ a, v = .row false 13 (a.map en_impl_Node) ∧ Wf_Limpl_Node a := let ⟨l, e, h1, h2, h3⟩ := lf_row h rfl rfl rfl rfl ro_impl_Node; ⟨l, e, h1, h2, h3⟩
theorem ro_Limpl_Node (x : List V) (hl : x.length = 1) (h : ∀ (i : Nat) l v, ([36] : List Nat)[i]? = some l → x[i]? = some v → Lf tab l v) : ∃ a, x = en_Limpl_Node a ∧ Wf_Limpl_Node a := by
  match x, hl with
  | [v0], _ =>
    obtain ⟨x0, rfl, w0⟩ := lf_Limpl_Node (h 0 _ _ rfl rfl)
    exact ⟨x0, rfl, w0⟩
theorem ta_Limpl_Node {x : A} (h : TA tab 36 x) : ∃ a, x = .c (.row false 13 (a.map en_impl_Node)) ∧ Wf_Limpl_Node a := let ⟨v, e, h1⟩ := ta_one h rfl rfl; let ⟨a, e2, w⟩ := lf_Limpl_Node h1; ⟨a, by rw [e, e2], w⟩
theorem lf_Limpl_Waste {v : V} (h : Lf tab 37 v) : ∃ a, v = .row false 5 (a.map en_impl_Waste) ∧ Wf_Limpl_Waste a := let ⟨l, e, h1, h2, h3⟩ := lf_row h rfl rfl rfl rfl ro_impl_Waste; ⟨l, e, h1, h2, h3⟩
theorem ro_Limpl_Waste (x : List V) (hl : x.length = 1) (h : ∀ (i : Nat) l v, ([37] : List Nat)[i]? = some l → x[i]? = some v → Lf tab l v) : ∃ a, x = en_Limpl_Waste a ∧ Wf_Limpl_Waste a := by
  match x, hl with
  | [v0], _ =>
    obtain ⟨x0, rfl, w0⟩ := lf_Limpl_Waste (h 0 _ _ rfl rfl)
    exact ⟨x0, rfl, w0⟩
theorem ta_Limpl_Waste {x : A} (h : TA tab 37 x) : ∃ a, x = .c (.row false 5 (a.map en_impl_Waste)) ∧ Wf_Limpl_Waste a := let ⟨v, e, h1⟩ := ta_one h rfl rfl; let ⟨a, e2, w⟩ := lf_Limpl_Waste h1; ⟨a, by rw [e, e2], w⟩
theorem ro_impl_World (x : List V) (hl : x.length = 12) (h : ∀ (i : Nat) l v, ([3, 3, 3, 3, 3, 3, 24, 25, 25, 36, 37, 25] : List Nat)[i]? = some l → x[i]? = some v → Lf tab l v) : ∃ a, x = en_impl_World a ∧ Wf_impl_World a := by
  match x, hl with
  | [v0, v1, v2, v3, v4, v5, v6, v7, v8, v9, v10, v11], _ =>
    obtain ⟨x0, rfl, w0⟩ := lf_i64 (h 0 _ _ rfl rfl)
    obtain ⟨x1, rfl, w1⟩ := lf_i64 (h 1 _ _ rfl rfl)
    obtain ⟨x2, rfl, w2⟩ := lf_i64 (h 2 _ _ rfl rfl)
    obtain ⟨x3, rfl, w3⟩ := lf_i64 (h 3 _ _ rfl rfl)
    obtain ⟨x4, rfl, w4⟩ := lf_i64 (h 4 _ _ rfl rfl)
    obtain ⟨x5, rfl, w5⟩ := lf_i64 (h 5 _ _ rfl rfl)
    obtain ⟨x6, rfl, w6⟩ := lf_Lu8 (h 6 _ _ rfl rfl)
    obtain ⟨x7, rfl, w7⟩ := lf_Li64 (h 7 _ _ rfl rfl)
    obtain ⟨x8, rfl, w8⟩ := lf_Li64 (h 8 _ _ rfl rfl)
    obtain ⟨x9, rfl, w9⟩ := lf_Limpl_Node (h 9 _ _ rfl rfl)
    obtain ⟨x10, rfl, w10⟩ := lf_Limpl_Waste (h 10 _ _ rfl rfl)
    obtain ⟨x11, rfl, w11⟩ := lf_Li64 (h 11 _ _ rfl rfl)
    exact ⟨(T_impl_World.mk (T_impl_Conf.mk x0 x1 x2 x3 x4 x5) (T_impl_Pool.mk x6 x7 x8) x9 x10 x11), rfl, ⟨⟨w0, w1, w2, w3, w4, w5⟩, ⟨w6, w7, w8⟩, w9, w10, w11⟩⟩
theorem ta_impl_World {x : A} (h : TA tab 39 x) : ∃ a, x = .g [.int .i64 a.fC.fChunks, .int .i64 a.fC.fSize, .int .i64 a.fC.fSlots, .int .i64 a.fC.fTax, .int .i64 a.fC.fSlice, .int .i64 a.fC.fGens, .row false 1 (a.fP.fMem.map en_u8), .row false 1 (a.fP.fSt.map en_i64), .row false 1 (a.fP.fOwn.map en_i64), .row false 13 (a.fL.map en_impl_Node), .row false 5 (a.fQ.map en_impl_Waste), .row false 1 (a.fLog.map en_i64)] ∧ Wf_impl_World a := let ⟨vs, e, h1, h2⟩ := ta_agg h rfl rfl rfl; let ⟨a, e2, w⟩ := ro_impl_World vs h1 h2; ⟨a, by rw [e, e2]; rfl, w⟩
theorem ro_impl_Handle (x : List V) (hl : x.length = 2) (h : ∀ (i : Nat) l v, ([3, 3] : List Nat)[i]? = some l → x[i]? = some v → Lf tab l v) : ∃ a, x = en_impl_Handle a ∧ Wf_impl_Handle a := by
  match x, hl with
  | [v0, v1], _ =>
    obtain ⟨x0, rfl, w0⟩ := lf_i64 (h 0 _ _ rfl rfl)
    obtain ⟨x1, rfl, w1⟩ := lf_i64 (h 1 _ _ rfl rfl)
    exact ⟨(T_impl_Handle.mk x0 x1), rfl, ⟨w0, w1⟩⟩
theorem ta_impl_Handle {x : A} (h : TA tab 46 x) : ∃ a, x = .g [.int .i64 a.fSlot, .int .i64 a.fGen] ∧ Wf_impl_Handle a := let ⟨vs, e, h1, h2⟩ := ta_agg h rfl rfl rfl; let ⟨a, e2, w⟩ := ro_impl_Handle vs h1 h2; ⟨a, by rw [e, e2]; rfl, w⟩

theorem ownKnob0 : ownKnob Try.prog.godebug = none := by kernel_rfl
theorem laidOut0 : laidOutB Try.prog = true := by kernel_rfl
end Go.Proofs.Ytemgbggfhohfeaa
