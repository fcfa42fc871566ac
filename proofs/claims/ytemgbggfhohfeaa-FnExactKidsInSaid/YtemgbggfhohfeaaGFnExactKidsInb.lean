/- Models of the program's functions, and the walks that show them. Printed by gen.py. -/
import Derived.Test.YtemgbggfhohfeaaGFnExactKidsIna
set_option linter.unusedVariables false
set_option linter.unusedSimpArgs false
namespace Go.Proofs.Ytemgbggfhohfeaa
open Go.Eng Go.ChangeShapes Go.WideShapes Go.ChangeAt Go.RowKit
/-! ### loop.example/g00499/laws.toWorld -/
set_option maxRecDepth 20000 in
set_option maxHeartbeats 8000000 in
theorem wo_laws_toWorld (K : Nat) (a0 : T_laws_World) (r : T_impl_World) (h : m_laws_toWorld K a0 = some r) : Sp Try.prog 13 [.g [.int .i64 a0.fC.fChunks, .int .i64 a0.fC.fSize, .int .i64 a0.fC.fSlots, .int .i64 a0.fC.fTax, .int .i64 a0.fC.fSlice, .int .i64 a0.fC.fGens, .row false 1 (a0.fP.fMem.map en_u8), .row false 1 (a0.fP.fSt.map en_i64), .row false 1 (a0.fP.fOwn.map en_i64), .row false 13 (a0.fL.map en_laws_Node), .row false 5 (a0.fQ.map en_laws_Waste), .row false 1 (a0.fLog.map en_i64)]] [] (.g [.int .i64 r.fC.fChunks, .int .i64 r.fC.fSize, .int .i64 r.fC.fSlots, .int .i64 r.fC.fTax, .int .i64 r.fC.fSlice, .int .i64 r.fC.fGens, .own 1 0 0 r.fP.fMem.length, .own 2 0 0 r.fP.fSt.length, .own 3 0 0 r.fP.fOwn.length, .own 4 0 0 r.fL.length, .own 5 0 0 r.fQ.length, .own 6 0 0 r.fLog.length]) [⟨0, 1, r.fP.fMem.map en_u8⟩, ⟨0, 1, r.fP.fSt.map en_i64⟩, ⟨0, 1, r.fP.fOwn.map en_i64⟩, ⟨0, 13, r.fL.map enD_impl_Node⟩, ⟨0, 5, r.fQ.map enD_impl_Waste⟩, ⟨0, 1, r.fLog.map en_i64⟩] := by
  refine Sp.of_W tabOk Try.func13 rfl rfl (Nat.le_of_ble_eq_true rfl) (Nat.le_of_ble_eq_true rfl) fun F hP hN hm => ?_
  obtain ⟨P, N, w0, σ0, β0, m⟩ := F
  obtain rfl : P = Try.prog := hP
  obtain rfl : N = 25 := hN
  obtain rfl : m = 1 := hm
  have he : Env ⟨Try.prog, 25, w0, σ0, β0, 1⟩ tab := ⟨Nat.le_of_ble_eq_true rfl, tabOk⟩
  unfold m_laws_toWorld at h
  refine W_seq ?_
  refine W_regV he rfl ?_
  refine v0 (sBx rfl [] rfl rfl 101 rfl) rfl ?_
  refine v0 (sAl rfl rfl 102 rfl) rfl ?_
  refine ve ?_
  refine W2 [1, 2] [101, 102] [] (l := [(1, .c (.ptr _ _ _ _)), (2, .c (.ptr _ _ _ _))]) (h := [(101, ⟨0, 12, [[.int _ _, .int _ _, .int _ _, .int _ _, .int _ _, .int _ _, .row _ _ _, .row _ _ _, .row _ _ _, .row _ _ _, .row _ _ _, .row _ _ _]]⟩), (102, ⟨0, 12, [[.int _ _, .int _ _, .int _ _, .int _ _, .int _ _, .int _ _, .row _ _ _, .row _ _ _, .row _ _ _, .row _ _ _, .row _ _ _, .row _ _ _]]⟩)]) (h' := []) trivial rfl rfl rfl ?_
  refine W_seq ?_
  refine W_regV he rfl ?_
  refine v0 (sAl rfl rfl 103 rfl) rfl ?_
  refine ve ?_
  refine W2 [1, 2, 3] [101, 102, 103] [] (l := [(1, .c (.ptr _ _ _ _)), (2, .c (.ptr _ _ _ _)), (3, .c (.ptr _ _ _ _))]) (h := [(101, ⟨0, 12, [[.int _ _, .int _ _, .int _ _, .int _ _, .int _ _, .int _ _, .row _ _ _, .row _ _ _, .row _ _ _, .row _ _ _, .row _ _ _, .row _ _ _]]⟩), (102, ⟨0, 12, [[.int _ _, .int _ _, .int _ _, .int _ _, .int _ _, .int _ _, .row _ _ _, .row _ _ _, .row _ _ _, .row _ _ _, .row _ _ _, .row _ _ _]]⟩), (103, ⟨0, 12, [[.int _ _, .int _ _, .int _ _, .int _ _, .int _ _, .int _ _, .row _ _ _, .row _ _ _, .row _ _ _, .row _ _ _, .row _ _ _, .row _ _ _]]⟩)]) (h' := []) trivial rfl rfl rfl ?_
  refine W_seq ?_
  refine W_regV he rfl ?_
  refine v0 (sFP rfl rfl rfl) rfl ?_
  refine v0 (sLd rfl rfl) rfl ?_
  refine bndc h ?_; clear h; intro r1 hr1 h
  refine v0 (sCm (w_laws_toConf K a0.fC _ hr1) ok_laws_toConf rfl rfl rfl rfl) rfl ?_
  refine v0 (sFP rfl rfl rfl) rfl ?_
  refine v0 (sSt rfl rfl [] rfl rfl) rfl ?_
  refine ve ?_
  refine W2 [1, 2, 3] [101, 102, 103] [] (l := [(1, .c (.ptr _ _ _ _)), (2, .c (.ptr _ _ _ _)), (3, .c (.ptr _ _ _ _))]) (h := [(101, ⟨0, 12, [[.int _ _, .int _ _, .int _ _, .int _ _, .int _ _, .int _ _, .row _ _ _, .row _ _ _, .row _ _ _, .row _ _ _, .row _ _ _, .row _ _ _]]⟩), (102, ⟨0, 12, [[.int _ _, .int _ _, .int _ _, .int _ _, .int _ _, .int _ _, .row _ _ _, .row _ _ _, .row _ _ _, .row _ _ _, .row _ _ _, .row _ _ _]]⟩), (103, ⟨0, 12, [[.int _ _, .int _ _, .int _ _, .int _ _, .int _ _, .int _ _, .row _ _ _, .row _ _ _, .row _ _ _, .row _ _ _, .row _ _ _, .row _ _ _]]⟩)]) (h' := []) trivial rfl rfl rfl ?_
  refine W_seq ?_
  refine W_regV he rfl ?_
  refine v0 (sFP rfl rfl rfl) rfl ?_
  refine v0 (sLd rfl rfl) rfl ?_
  refine bndc h ?_; clear h; intro r2 hr2 h
  refine v0 (sCg (wo_laws_toPool K a0.fP _ hr2) ok_laws_toPool false [] [2004, 2005, 2006] [2004, 2005, 2006] (U := [(2004, some ⟨1, 1, r2.fMem.map en_u8⟩), (2005, some ⟨1, 1, r2.fSt.map en_i64⟩), (2006, some ⟨1, 1, r2.fOwn.map en_i64⟩)]) (bm := [2004, 2005, 2006]) rfl rfl rfl rfl (by decide) rfl rfl rfl rfl (sl_nil) (ul_cons rfl (enOk_u8.back _ _ _) (ul_cons rfl (enOk_i64.back _ _ _) (ul_cons rfl (enOk_i64.back _ _ _) (ul_nil)))) rfl rfl) rfl ?_
  refine v0 (sFP rfl rfl rfl) rfl ?_
  refine v0 (sSt rfl rfl [] rfl rfl) rfl ?_
  refine ve ?_
  refine W2 [1, 2, 3] [101, 102, 103] [2004, 2005, 2006] (l := [(1, .c (.ptr _ _ _ _)), (2, .c (.ptr _ _ _ _)), (3, .c (.ptr _ _ _ _))]) (h := [(101, ⟨0, 12, [[.int _ _, .int _ _, .int _ _, .int _ _, .int _ _, .int _ _, .row _ _ _, .row _ _ _, .row _ _ _, .row _ _ _, .row _ _ _, .row _ _ _]]⟩), (102, ⟨0, 12, [[.int _ _, .int _ _, .int _ _, .int _ _, .int _ _, .int _ _, .row _ _ _, .row _ _ _, .row _ _ _, .row _ _ _, .row _ _ _, .row _ _ _]]⟩), (103, ⟨0, 12, [[.int _ _, .int _ _, .int _ _, .int _ _, .int _ _, .int _ _, .own _ _ _ _, .own _ _ _ _, .own _ _ _ _, .row _ _ _, .row _ _ _, .row _ _ _]]⟩)]) (h' := [(2004, ⟨0, 1, r2.fMem.map en_u8⟩), (2005, ⟨0, 1, r2.fSt.map en_i64⟩), (2006, ⟨0, 1, r2.fOwn.map en_i64⟩)]) ⟨⟨_, rfl, enOk_u8.allClosed _ _ r2.fMem⟩, ⟨⟨_, rfl, enOk_i64.allClosed _ _ r2.fSt⟩, ⟨⟨_, rfl, enOk_i64.allClosed _ _ r2.fOwn⟩, trivial⟩⟩⟩ rfl rfl rfl ?_
  refine W_seq ?_
  refine W_regV he rfl ?_
  refine v0 (sFP rfl rfl rfl) rfl ?_
  refine v0 (sLd rfl rfl) rfl ?_
  refine bndc h ?_; clear h; intro r3 hr3 h
  refine v0 (sCg (wo_laws_toNodeS K a0.fL _ hr3) ok_laws_toNodeS false [] [1014] [1014] (U := [(1014, some ⟨1, 13, r3.map enD_impl_Node⟩)]) (bm := [1014]) rfl rfl rfl rfl (by decide) rfl rfl rfl rfl (sl_nil) (ul_cons rfl (enDOk_impl_Node.back _ _ _) (ul_nil)) rfl rfl) rfl ?_
  refine v0 (sFP rfl rfl rfl) rfl ?_
  refine v0 (sSt rfl rfl [] rfl rfl) rfl ?_
  refine ve ?_
  refine W2 [1, 2, 3] [101, 102, 103] [1014, 2004, 2005, 2006] (l := [(1, .c (.ptr _ _ _ _)), (2, .c (.ptr _ _ _ _)), (3, .c (.ptr _ _ _ _))]) (h := [(101, ⟨0, 12, [[.int _ _, .int _ _, .int _ _, .int _ _, .int _ _, .int _ _, .row _ _ _, .row _ _ _, .row _ _ _, .row _ _ _, .row _ _ _, .row _ _ _]]⟩), (102, ⟨0, 12, [[.int _ _, .int _ _, .int _ _, .int _ _, .int _ _, .int _ _, .row _ _ _, .row _ _ _, .row _ _ _, .row _ _ _, .row _ _ _, .row _ _ _]]⟩), (103, ⟨0, 12, [[.int _ _, .int _ _, .int _ _, .int _ _, .int _ _, .int _ _, .own _ _ _ _, .own _ _ _ _, .own _ _ _ _, .own _ _ _ _, .row _ _ _, .row _ _ _]]⟩)]) (h' := [(1014, ⟨0, 13, r3.map enD_impl_Node⟩), (2004, ⟨0, 1, r2.fMem.map en_u8⟩), (2005, ⟨0, 1, r2.fSt.map en_i64⟩), (2006, ⟨0, 1, r2.fOwn.map en_i64⟩)]) ⟨⟨_, rfl, enDOk_impl_Node.allClosed _ _ r3⟩, ⟨⟨_, rfl, enOk_u8.allClosed _ _ r2.fMem⟩, ⟨⟨_, rfl, enOk_i64.allClosed _ _ r2.fSt⟩, ⟨⟨_, rfl, enOk_i64.allClosed _ _ r2.fOwn⟩, trivial⟩⟩⟩⟩ rfl rfl rfl ?_
  refine W_seq ?_
  refine W_regV he rfl ?_
  refine v0 (sFP rfl rfl rfl) rfl ?_
  refine v0 (sLd rfl rfl) rfl ?_
  refine bndc h ?_; clear h; intro r4 hr4 h
  refine v0 (sCg (wo_laws_toWasteS K a0.fQ _ hr4) ok_laws_toWasteS false [] [1018] [1018] (U := [(1018, some ⟨1, 5, r4.map enD_impl_Waste⟩)]) (bm := [1018]) rfl rfl rfl rfl (by decide) rfl rfl rfl rfl (sl_nil) (ul_cons rfl (enDOk_impl_Waste.back _ _ _) (ul_nil)) rfl rfl) rfl ?_
  refine v0 (sFP rfl rfl rfl) rfl ?_
  refine v0 (sSt rfl rfl [] rfl rfl) rfl ?_
  refine ve ?_
  refine W2 [1, 2, 3] [101, 102, 103] [1014, 1018, 2004, 2005, 2006] (l := [(1, .c (.ptr _ _ _ _)), (2, .c (.ptr _ _ _ _)), (3, .c (.ptr _ _ _ _))]) (h := [(101, ⟨0, 12, [[.int _ _, .int _ _, .int _ _, .int _ _, .int _ _, .int _ _, .row _ _ _, .row _ _ _, .row _ _ _, .row _ _ _, .row _ _ _, .row _ _ _]]⟩), (102, ⟨0, 12, [[.int _ _, .int _ _, .int _ _, .int _ _, .int _ _, .int _ _, .row _ _ _, .row _ _ _, .row _ _ _, .row _ _ _, .row _ _ _, .row _ _ _]]⟩), (103, ⟨0, 12, [[.int _ _, .int _ _, .int _ _, .int _ _, .int _ _, .int _ _, .own _ _ _ _, .own _ _ _ _, .own _ _ _ _, .own _ _ _ _, .own _ _ _ _, .row _ _ _]]⟩)]) (h' := [(1014, ⟨0, 13, r3.map enD_impl_Node⟩), (1018, ⟨0, 5, r4.map enD_impl_Waste⟩), (2004, ⟨0, 1, r2.fMem.map en_u8⟩), (2005, ⟨0, 1, r2.fSt.map en_i64⟩), (2006, ⟨0, 1, r2.fOwn.map en_i64⟩)]) ⟨⟨_, rfl, enDOk_impl_Node.allClosed _ _ r3⟩, ⟨⟨_, rfl, enDOk_impl_Waste.allClosed _ _ r4⟩, ⟨⟨_, rfl, enOk_u8.allClosed _ _ r2.fMem⟩, ⟨⟨_, rfl, enOk_i64.allClosed _ _ r2.fSt⟩, ⟨⟨_, rfl, enOk_i64.allClosed _ _ r2.fOwn⟩, trivial⟩⟩⟩⟩⟩ rfl rfl rfl ?_
  refine W_seq ?_
  refine W_regV he rfl ?_
  refine v0 (sFP rfl rfl rfl) rfl ?_
  refine v0 (sLd rfl rfl) rfl ?_
  refine bndc h ?_; clear h; intro r5 hr5 h
  refine v0 (sCo (wo_laws_toIntS K a0.fLog _ hr5) ok_laws_toIntS (fun _ => rfl) [] 1022 rfl rfl rfl rfl rfl) rfl ?_
  refine v0 (sFP rfl rfl rfl) rfl ?_
  refine v0 (sSt rfl rfl [] rfl rfl) rfl ?_
  refine ve ?_
  refine W2 [2, 3] [102, 103] [1014, 1018, 1022, 2004, 2005, 2006] (l := [(2, .c (.ptr _ _ _ _)), (3, .c (.ptr _ _ _ _))]) (h := [(102, ⟨0, 12, [[.int _ _, .int _ _, .int _ _, .int _ _, .int _ _, .int _ _, .row _ _ _, .row _ _ _, .row _ _ _, .row _ _ _, .row _ _ _, .row _ _ _]]⟩), (103, ⟨0, 12, [[.int _ _, .int _ _, .int _ _, .int _ _, .int _ _, .int _ _, .own _ _ _ _, .own _ _ _ _, .own _ _ _ _, .own _ _ _ _, .own _ _ _ _, .own _ _ _ _]]⟩)]) (h' := [(1014, ⟨0, 13, r3.map enD_impl_Node⟩), (1018, ⟨0, 5, r4.map enD_impl_Waste⟩), (1022, ⟨0, 1, r5.map en_i64⟩), (2004, ⟨0, 1, r2.fMem.map en_u8⟩), (2005, ⟨0, 1, r2.fSt.map en_i64⟩), (2006, ⟨0, 1, r2.fOwn.map en_i64⟩)]) ⟨⟨_, rfl, enDOk_impl_Node.allClosed _ _ r3⟩, ⟨⟨_, rfl, enDOk_impl_Waste.allClosed _ _ r4⟩, ⟨⟨_, rfl, enOk_i64.allClosed _ _ r5⟩, ⟨⟨_, rfl, enOk_u8.allClosed _ _ r2.fMem⟩, ⟨⟨_, rfl, enOk_i64.allClosed _ _ r2.fSt⟩, ⟨⟨_, rfl, enOk_i64.allClosed _ _ r2.fOwn⟩, trivial⟩⟩⟩⟩⟩⟩ rfl rfl rfl ?_
  refine W_seq ?_
  refine W_regV he rfl ?_
  refine v0 (sLd rfl rfl) rfl ?_
  refine v0 (sSt rfl rfl [] rfl rfl) rfl ?_
  refine ve ?_
  refine W2 [2] [102] [1014, 1018, 1022, 2004, 2005, 2006] (l := [(2, .c (.ptr _ _ _ _))]) (h := [(102, ⟨0, 12, [[.int _ _, .int _ _, .int _ _, .int _ _, .int _ _, .int _ _, .own _ _ _ _, .own _ _ _ _, .own _ _ _ _, .own _ _ _ _, .own _ _ _ _, .own _ _ _ _]]⟩)]) (h' := [(1014, ⟨0, 13, r3.map enD_impl_Node⟩), (1018, ⟨0, 5, r4.map enD_impl_Waste⟩), (1022, ⟨0, 1, r5.map en_i64⟩), (2004, ⟨0, 1, r2.fMem.map en_u8⟩), (2005, ⟨0, 1, r2.fSt.map en_i64⟩), (2006, ⟨0, 1, r2.fOwn.map en_i64⟩)]) ⟨⟨_, rfl, enDOk_impl_Node.allClosed _ _ r3⟩, ⟨⟨_, rfl, enDOk_impl_Waste.allClosed _ _ r4⟩, ⟨⟨_, rfl, enOk_i64.allClosed _ _ r5⟩, ⟨⟨_, rfl, enOk_u8.allClosed _ _ r2.fMem⟩, ⟨⟨_, rfl, enOk_i64.allClosed _ _ r2.fSt⟩, ⟨⟨_, rfl, enOk_i64.allClosed _ _ r2.fOwn⟩, trivial⟩⟩⟩⟩⟩⟩ rfl rfl rfl ?_
  obtain rfl := Option.some.inj h
  exact W_ret (retG 0 [2004, 2005, 2006, 1014, 1018, 1022] (by decide) rfl rfl rfl rfl (bl_cons (see_En enOk_u8 rfl) (bl_cons (see_En enOk_i64 rfl) (bl_cons (see_En enOk_i64 rfl) (bl_cons (see_EnD enDOk_impl_Node rfl) (bl_cons (see_EnD enDOk_impl_Waste rfl) (bl_cons (see_En enOk_i64 rfl) (bl_nil))))))))


/-! ### loop.example/g00499/impl.HandleOk -/
def m_impl_HandleOk (K : Nat) (a0 : T_impl_Handle) : Option (Bool) := (bif (decide (a0.fSlot ≥ 0)) then some (decide (a0.fGen ≥ 1)) else some false)
set_option maxRecDepth 20000 in
set_option maxHeartbeats 8000000 in
theorem w_impl_HandleOk (K : Nat) (a0 : T_impl_Handle) (r : Bool) (h : m_impl_HandleOk K a0 = some r) : Sp Try.prog 94 [.g [.int .i64 a0.fSlot, .int .i64 a0.fGen]] [] (.c (.bool r)) [] := by
  refine Sp.of_W tabOk Try.func94 rfl rfl (Nat.le_of_ble_eq_true rfl) (Nat.le_of_ble_eq_true rfl) fun F hP hN hm => ?_
  obtain ⟨P, N, w0, σ0, β0, m⟩ := F
  obtain rfl : P = Try.prog := hP
  obtain rfl : N = 11 := hN
  obtain rfl : m = 1 := hm
  have he : Env ⟨Try.prog, 11, w0, σ0, β0, 1⟩ tab := ⟨Nat.le_of_ble_eq_true rfl, tabOk⟩
  unfold m_impl_HandleOk at h
  refine W_seq ?_
  refine W_regV he rfl ?_
  refine v0 (sBx rfl [] rfl rfl 101 rfl) rfl ?_
  refine v0 (sA rfl [] rfl) rfl ?_
  refine ve ?_
  refine W2 [1] [101] [] (l := [(1, .c (.ptr _ _ _ _))]) (h := [(101, ⟨0, 2, [[.int _ _, .int _ _]]⟩)]) (h' := []) trivial rfl rfl rfl ?_
  refine W_seq ?_
  refine W_regV he rfl ?_
  refine v0 (sFP rfl rfl rfl) rfl ?_
  refine v0 (sLd rfl rfl) rfl ?_
  refine vB (sBi rfl rfl rfl rfl) rfl rfl fun b1 hb1 => ?_
  cases b1 with
  | true =>
    replace h := brT hb1 h
    refine v0 (sM rfl [] rfl) rfl ?_
    refine u0 (sFP rfl rfl rfl) rfl rfl rfl ?_
    refine u0 (sLd rfl rfl) rfl rfl rfl ?_
    refine u0 (sBi rfl rfl rfl rfl) rfl rfl rfl ?_
    refine v0 (sPk rfl [] rfl rfl) rfl ?_
    refine v0 (sA rfl [] rfl) rfl ?_
    refine ve ?_
    refine W2 [2] [] [] (l := [(2, .c (.bool _))]) (h := []) (h' := []) trivial rfl rfl rfl ?_
    obtain rfl := Option.some.inj h
    exact W_ret (r0 rfl rfl)
  | false =>
    replace h := brF hb1 h
    refine v0 (sM rfl [] rfl) rfl ?_
    refine uP rfl rfl rfl rfl ?_
    refine uP rfl rfl rfl rfl ?_
    refine uP rfl rfl rfl rfl ?_
    refine v0 (sPk rfl [] rfl rfl) rfl ?_
    refine v0 (sA rfl [] rfl) rfl ?_
    refine ve ?_
    refine W2 [2] [] [] (l := [(2, .c (.bool false))]) (h := []) (h' := []) trivial rfl rfl rfl ?_
    obtain rfl := Option.some.inj h
    exact W_ret (r0 rfl rfl)
theorem ok_impl_HandleOk : FnOk Try.prog 94 := ⟨_, Try.func94, rfl, rfl⟩


/-! ### loop.example/g00499/impl.within -/
def m_impl_within (K : Nat) (a0 : Int) (a1 : Int) (a2 : Int) : Option (Bool) := (bif (decide (a0 ≥ a1)) then some (decide (a0 ≤ a2)) else some false)
set_option maxRecDepth 20000 in
set_option maxHeartbeats 8000000 in
theorem w_impl_within (K : Nat) (a0 : Int) (a1 : Int) (a2 : Int) (r : Bool) (h : m_impl_within K a0 a1 a2 = some r) : Sp Try.prog 52 [.c (.int .i64 a0), .c (.int .i64 a1), .c (.int .i64 a2)] [] (.c (.bool r)) [] := by
  refine Sp.of_W tabOk Try.func52 rfl rfl (Nat.le_of_ble_eq_true rfl) (Nat.le_of_ble_eq_true rfl) fun F hP hN hm => ?_
  obtain ⟨P, N, w0, σ0, β0, m⟩ := F
  obtain rfl : P = Try.prog := hP
  obtain rfl : N = 15 := hN
  obtain rfl : m = 1 := hm
  have he : Env ⟨Try.prog, 15, w0, σ0, β0, 1⟩ tab := ⟨Nat.le_of_ble_eq_true rfl, tabOk⟩
  unfold m_impl_within at h
  refine W_seq ?_
  refine W_regV he rfl ?_
  refine v0 (sA rfl [] rfl) rfl ?_
  refine ve ?_
  refine W2 [0, 1, 2] [] [] (l := [(0, .c (.int _ _)), (1, .c (.int _ _)), (2, .c (.int _ _))]) (h := []) (h' := []) trivial rfl rfl rfl ?_
  refine W_seq ?_
  refine W_regV he rfl ?_
  refine v0 (sM rfl [] rfl) rfl ?_
  refine v0 (sM rfl [] rfl) rfl ?_
  refine vB (sBi rfl rfl rfl rfl) rfl rfl fun b1 hb1 => ?_
  cases b1 with
  | true =>
    replace h := brT hb1 h
    refine v0 (sM rfl [] rfl) rfl ?_
    refine u0 (sM rfl [] rfl) rfl rfl rfl ?_
    refine u0 (sM rfl [] rfl) rfl rfl rfl ?_
    refine u0 (sBi rfl rfl rfl rfl) rfl rfl rfl ?_
    refine v0 (sPk rfl [] rfl rfl) rfl ?_
    refine v0 (sA rfl [] rfl) rfl ?_
    refine ve ?_
    refine W2 [6] [] [] (l := [(6, .c (.bool _))]) (h := []) (h' := []) trivial rfl rfl rfl ?_
    obtain rfl := Option.some.inj h
    exact W_ret (r0 rfl rfl)
  | false =>
    replace h := brF hb1 h
    refine v0 (sM rfl [] rfl) rfl ?_
    refine uP rfl rfl rfl rfl ?_
    refine uP rfl rfl rfl rfl ?_
    refine uP rfl rfl rfl rfl ?_
    refine v0 (sPk rfl [] rfl rfl) rfl ?_
    refine v0 (sA rfl [] rfl) rfl ?_
    refine ve ?_
    refine W2 [6] [] [] (l := [(6, .c (.bool false))]) (h := []) (h' := []) trivial rfl rfl rfl ?_
    obtain rfl := Option.some.inj h
    exact W_ret (r0 rfl rfl)
theorem ok_impl_within : FnOk Try.prog 52 := ⟨_, Try.func52, rfl, rfl⟩


/-! ### loop.example/g00499/impl.isSlot -/
def m_impl_isSlot (K : Nat) (a0 : List T_impl_Node) (a1 : Int) : Option (Bool) := ((m_impl_within K a1 0 (iSub .i64 (a0.length : Int) 1)).bind fun r1 => some r1)
set_option maxRecDepth 20000 in
set_option maxHeartbeats 8000000 in
theorem w_impl_isSlot (K : Nat) (a0 : List T_impl_Node) (a1 : Int) (r : Bool) (h : m_impl_isSlot K a0 a1 = some r) : Sp Try.prog 99 [.c (.row false 13 (a0.map en_impl_Node)), .c (.int .i64 a1)] [] (.c (.bool r)) [] := by
  refine Sp.of_W tabOk Try.func99 rfl rfl (Nat.le_of_ble_eq_true rfl) (Nat.le_of_ble_eq_true rfl) fun F hP hN hm => ?_
  obtain ⟨P, N, w0, σ0, β0, m⟩ := F
  obtain rfl : P = Try.prog := hP
  obtain rfl : N = 10 := hN
  obtain rfl : m = 1 := hm
  have he : Env ⟨Try.prog, 10, w0, σ0, β0, 1⟩ tab := ⟨Nat.le_of_ble_eq_true rfl, tabOk⟩
  unfold m_impl_isSlot at h
  refine W_seq ?_
  refine W_regV he rfl ?_
  refine v0 (sA rfl [] rfl) rfl ?_
  refine ve ?_
  refine W2 [0, 1] [] [] (l := [(0, .c (.row _ _ _)), (1, .c (.int _ _))]) (h := []) (h' := []) trivial rfl rfl rfl ?_
  refine W_seq ?_
  refine W_regV he rfl ?_
  refine v0 (sM rfl [] rfl) rfl ?_
  refine v0 (sM rfl [] rfl) rfl ?_
  refine v0 (sLm rfl rfl rfl rfl) rfl ?_
  refine v0 (sBi rfl rfl rfl rfl) rfl ?_
  refine bndc h ?_; clear h; intro r1 hr1 h
  refine v0 (sCm (w_impl_within K a1 0 (iSub .i64 (a0.length : Int) 1) _ hr1) ok_impl_within rfl rfl rfl rfl) rfl ?_
  refine v0 (sA rfl [] rfl) rfl ?_
  refine ve ?_
  refine W2 [4] [] [] (l := [(4, .c (.bool _))]) (h := []) (h' := []) trivial rfl rfl rfl ?_
  obtain rfl := Option.some.inj h
  exact W_ret (r0 rfl rfl)
theorem ok_impl_isSlot : FnOk Try.prog 99 := ⟨_, Try.func99, rfl, rfl⟩


/-! ### loop.example/g00499/impl.PlaceOf -/
def m_impl_PlaceOf (K : Nat) (a0 : List T_impl_Node) (a1 : T_impl_Handle) : Option (Int) := ((m_impl_isSlot K a0 a1.fSlot).bind fun r1 => (bif r1 then (if (0 : Int) ≤ a1.fSlot ∧ a1.fSlot < (a0.length : Int) then (bif (((gt a0 a1.fSlot).fSt) != 1) then some (-1) else (if (0 : Int) ≤ a1.fSlot ∧ a1.fSlot < (a0.length : Int) then (bif (((gt a0 a1.fSlot).fGen) != a1.fGen) then some (-1) else some a1.fSlot) else none)) else none) else some (-1)))
set_option maxRecDepth 20000 in
set_option maxHeartbeats 8000000 in
theorem w_impl_PlaceOf (K : Nat) (a0 : List T_impl_Node) (a1 : T_impl_Handle) (r : Int) (h : m_impl_PlaceOf K a0 a1 = some r) : Sp Try.prog 95 [.c (.row false 13 (a0.map en_impl_Node)), .g [.int .i64 a1.fSlot, .int .i64 a1.fGen]] [] (.c (.int .i64 r)) [] := by
  refine Sp.of_W tabOk Try.func95 rfl rfl (Nat.le_of_ble_eq_true rfl) (Nat.le_of_ble_eq_true rfl) fun F hP hN hm => ?_
  obtain ⟨P, N, w0, σ0, β0, m⟩ := F
  obtain rfl : P = Try.prog := hP
  obtain rfl : N = 32 := hN
  obtain rfl : m = 1 := hm
  have he : Env ⟨Try.prog, 32, w0, σ0, β0, 1⟩ tab := ⟨Nat.le_of_ble_eq_true rfl, tabOk⟩
  unfold m_impl_PlaceOf at h
  refine W_seq ?_
  refine W_regV he rfl ?_
  refine v0 (sBx rfl [] rfl rfl 101 rfl) rfl ?_
  refine v0 (sA rfl [] rfl) rfl ?_
  refine ve ?_
  refine W2 [0, 3] [101] [] (l := [(0, .c (.row _ _ _)), (3, .c (.ptr _ _ _ _))]) (h := [(101, ⟨0, 2, [[.int _ _, .int _ _]]⟩)]) (h' := []) trivial rfl rfl rfl ?_
  refine W_seq ?_
  refine W_seq ?_
  refine W_regD he rfl rfl rfl ?_
  refine g0 (sM rfl [] rfl) rfl ?_
  refine g0 (sFP rfl rfl rfl) rfl ?_
  refine g0 (sLd rfl rfl) rfl ?_
  refine bndc h ?_; clear h; intro r1 hr1 h
  refine gB (sCm (w_impl_isSlot K a0 a1.fSlot _ hr1) ok_impl_isSlot rfl rfl rfl rfl) rfl rfl fun b2 hb2 => ?_
  cases b2 with
  | true =>
    replace h := brT hb2 h
    refine g0 (sNt rfl rfl) rfl ?_
    refine g0 (sM rfl [] rfl) rfl ?_
    refine q0 (sM rfl [] rfl) rfl rfl rfl ?_
    refine q0 (sFP rfl rfl rfl) rfl rfl rfl ?_
    refine q0 (sLd rfl rfl) rfl rfl rfl ?_
    refine chkc h ?_; clear h; intro c3 h
    refine q0 (sIRm rfl rfl rfl rfl c3) rfl rfl rfl ?_
    refine q0 (sFI rfl rfl rfl) rfl rfl rfl ?_
    refine q0 (sLI rfl rfl (en_impl_Node (gt a0 a1.fSlot)) (gt_at _ c3) rfl rfl rfl) rfl rfl rfl ?_
    refine qB (sBi rfl rfl rfl rfl) rfl rfl rfl rfl fun b4 hb4 => ?_
    cases b4 with
    | true =>
      replace h := brT hb4 h
      refine g0 (sPk rfl [] rfl rfl) rfl ?_
      refine g0 (sM rfl [] rfl) rfl ?_
      refine qP rfl rfl rfl rfl ?_
      refine qP rfl rfl rfl rfl ?_
      refine qP rfl rfl rfl rfl ?_
      refine qP rfl rfl rfl rfl ?_
      refine qP rfl rfl rfl rfl ?_
      refine qP rfl rfl rfl rfl ?_
      refine qP rfl rfl rfl rfl ?_
      refine qP rfl rfl rfl rfl ?_
      refine qP rfl rfl rfl rfl ?_
      refine g0 (sPk rfl [] rfl rfl) rfl ?_
      refine ge ⟨rfl, ?_⟩
      refine W2 [3, 29] [101] [] (l := [(3, .c (.ptr _ _ _ _)), (29, .c (.bool true))]) (h := [(101, ⟨0, 2, [[.int _ _, .int _ _]]⟩)]) (h' := []) trivial rfl rfl rfl ?_
      refine W_true rfl ?_
      refine W_seq ?_
      refine W_regV he rfl ?_
      refine v0 (sA rfl [] rfl) rfl ?_
      refine ve ?_
      refine W2 [4] [] [] (l := [(4, .c (.int _ _))]) (h := []) (h' := []) trivial rfl rfl rfl ?_
      obtain rfl := Option.some.inj h
      exact W_ret (r0 rfl rfl)
    | false =>
      replace h := brF hb4 h
      refine g0 (sPk rfl [] rfl rfl) rfl ?_
      refine g0 (sM rfl [] rfl) rfl ?_
      refine q0 (sM rfl [] rfl) rfl rfl rfl ?_
      refine q0 (sFP rfl rfl rfl) rfl rfl rfl ?_
      refine q0 (sLd rfl rfl) rfl rfl rfl ?_
      refine chkc h ?_; clear h; intro c5 h
      refine q0 (sIRm rfl rfl rfl rfl c5) rfl rfl rfl ?_
      refine q0 (sFI rfl rfl rfl) rfl rfl rfl ?_
      refine q0 (sLI rfl rfl (en_impl_Node (gt a0 a1.fSlot)) (gt_at _ c5) rfl rfl rfl) rfl rfl rfl ?_
      refine q0 (sFP rfl rfl rfl) rfl rfl rfl ?_
      refine q0 (sLd rfl rfl) rfl rfl rfl ?_
      refine qB (sBi rfl rfl rfl rfl) rfl rfl rfl rfl fun b6 hb6 => ?_
      cases b6 with
      | true =>
        replace h := brT hb6 h
        refine g0 (sPk rfl [] rfl rfl) rfl ?_
        refine ge ⟨rfl, ?_⟩
        refine W2 [3, 29] [101] [] (l := [(3, .c (.ptr _ _ _ _)), (29, .c (.bool true))]) (h := [(101, ⟨0, 2, [[.int _ _, .int _ _]]⟩)]) (h' := []) trivial rfl rfl rfl ?_
        refine W_true rfl ?_
        refine W_seq ?_
        refine W_regV he rfl ?_
        refine v0 (sA rfl [] rfl) rfl ?_
        refine ve ?_
        refine W2 [4] [] [] (l := [(4, .c (.int _ _))]) (h := []) (h' := []) trivial rfl rfl rfl ?_
        obtain rfl := Option.some.inj h
        exact W_ret (r0 rfl rfl)
      | false =>
        replace h := brF hb6 h
        refine g0 (sPk rfl [] rfl rfl) rfl ?_
        refine ge ⟨rfl, ?_⟩
        refine W2 [3, 29] [101] [] (l := [(3, .c (.ptr _ _ _ _)), (29, .c (.bool false))]) (h := [(101, ⟨0, 2, [[.int _ _, .int _ _]]⟩)]) (h' := []) trivial rfl rfl rfl ?_
        refine W_false rfl ?_
        refine W_skip ?_
        refine W_seq ?_
        refine W_regV he rfl ?_
        refine v0 (sFP rfl rfl rfl) rfl ?_
        refine v0 (sLd rfl rfl) rfl ?_
        refine v0 (sA rfl [] rfl) rfl ?_
        refine ve ?_
        refine W2 [4] [] [] (l := [(4, .c (.int _ _))]) (h := []) (h' := []) trivial rfl rfl rfl ?_
        obtain rfl := Option.some.inj h
        exact W_ret (r0 rfl rfl)
  | false =>
    replace h := brF hb2 h
    refine g0 (sNt rfl rfl) rfl ?_
    refine g0 (sM rfl [] rfl) rfl ?_
    refine qP rfl rfl rfl rfl ?_
    refine qP rfl rfl rfl rfl ?_
    refine qP rfl rfl rfl rfl ?_
    refine qP rfl rfl rfl rfl ?_
    refine qP rfl rfl rfl rfl ?_
    refine qP rfl rfl rfl rfl ?_
    refine qP rfl rfl rfl rfl ?_
    refine g0 (sPk rfl [] rfl rfl) rfl ?_
    refine g0 (sM rfl [] rfl) rfl ?_
    refine qP rfl rfl rfl rfl ?_
    refine qP rfl rfl rfl rfl ?_
    refine qP rfl rfl rfl rfl ?_
    refine qP rfl rfl rfl rfl ?_
    refine qP rfl rfl rfl rfl ?_
    refine qP rfl rfl rfl rfl ?_
    refine qP rfl rfl rfl rfl ?_
    refine qP rfl rfl rfl rfl ?_
    refine qP rfl rfl rfl rfl ?_
    refine g0 (sPk rfl [] rfl rfl) rfl ?_
    refine ge ⟨rfl, ?_⟩
    refine W2 [3, 29] [101] [] (l := [(3, .c (.ptr _ _ _ _)), (29, .c (.bool true))]) (h := [(101, ⟨0, 2, [[.int _ _, .int _ _]]⟩)]) (h' := []) trivial rfl rfl rfl ?_
    refine W_true rfl ?_
    refine W_seq ?_
    refine W_regV he rfl ?_
    refine v0 (sA rfl [] rfl) rfl ?_
    refine ve ?_
    refine W2 [4] [] [] (l := [(4, .c (.int _ _))]) (h := []) (h' := []) trivial rfl rfl rfl ?_
    obtain rfl := Option.some.inj h
    exact W_ret (r0 rfl rfl)
theorem ok_impl_PlaceOf : FnOk Try.prog 95 := ⟨_, Try.func95, rfl, rfl⟩


/-! ### loop.example/g00499/impl.Rise -/
def l_impl_Rise_3 (K : Nat) (a0 : List T_impl_Node) : Nat → Int → (List Int) → Option ((List Int))
  | 0, _, _ => none
  | n3 + 1, v1, v2 => ((m_impl_isSlot K a0 v1).bind fun r4 => (bif r4 then (bif (decide ((v2.length : Int) < (a0.length : Int))) then (if (v2 ++ ([v1] : List Int)).length * 8 ≤ 140737488355328 ∧ (v2 ++ ([v1] : List Int)).length ≤ maxLen then (if (0 : Int) ≤ v1 ∧ v1 < (a0.length : Int) then (l_impl_Rise_3 K a0 n3 (iSub .i64 ((gt a0 v1).fUp) 1) (v2 ++ ([v1] : List Int))) else none) else none) else some v2) else some v2))
def m_impl_Rise (K : Nat) (a0 : List T_impl_Node) (a1 : Int) : Option ((List Int)) := (l_impl_Rise_3 K a0 K a1 ([] : List Int))
set_option maxRecDepth 20000 in
set_option maxHeartbeats 8000000 in
theorem w_impl_Rise (K : Nat) (a0 : List T_impl_Node) (a1 : Int) (r : (List Int)) (h : m_impl_Rise K a0 a1 = some r) : Sp Try.prog 64 [.c (.row false 13 (a0.map en_impl_Node)), .c (.int .i64 a1)] [] (.c (.row false 1 (r.map en_i64))) [] := by
  refine Sp.of_W tabOk Try.func64 rfl rfl (Nat.le_of_ble_eq_true rfl) (Nat.le_of_ble_eq_true rfl) fun F hP hN hm => ?_
  obtain ⟨P, N, w0, σ0, β0, m⟩ := F
  obtain rfl : P = Try.prog := hP
  obtain rfl : N = 28 := hN
  obtain rfl : m = 1 := hm
  have he : Env ⟨Try.prog, 28, w0, σ0, β0, 1⟩ tab := ⟨Nat.le_of_ble_eq_true rfl, tabOk⟩
  unfold m_impl_Rise at h
  refine W_seq ?_
  refine W_regV he rfl ?_
  refine v0 (sA rfl [1] rfl) rfl ?_
  refine ve ?_
  refine W2 [0, 1] [] [] (l := [(0, .c (.row _ _ _)), (1, .c (.int _ _))]) (h := []) (h' := []) trivial rfl rfl rfl ?_
  refine W_seq ?_
  refine W_regV he rfl ?_
  refine v0 (sBS rfl 1005 (rows := ([] : List Int).map en_i64) rfl rfl rfl (by kernel_rfl) rfl rfl rfl rfl) rfl ?_
  refine v0 (sA rfl [] rfl) rfl ?_
  refine ve ?_
  refine W2 [0, 1, 5] [] [1005] (l := [(0, .c (.row _ _ _)), (1, .c (.int _ _)), (5, .c (.own _ _ _ _))]) (h := []) (h' := [(1005, ⟨0, 1, ([] : List Int).map en_i64⟩)]) ⟨⟨_, rfl, enOk_i64.allClosed _ _ ([] : List Int)⟩, trivial⟩ rfl rfl rfl ?_
  refine W_seq ?_
  refine W_block ?_
  refine W2 [0, 1, 5] [] [1005] (l := [(0, .c (.row _ _ _)), (1, .c (.int _ _)), (5, .c (.own _ _ _ _))]) (h := []) (h' := [(1005, ⟨0, 1, ([] : List Int).map en_i64⟩)]) ⟨⟨_, rfl, enOk_i64.allClosed _ _ ([] : List Int)⟩, trivial⟩ rfl rfl rfl ?_
  refine W_loopW (fun n3 S => ∃ (v1 : Int), ∃ (v2 : List Int), S = StL [(0, .c (.row false 13 (a0.map en_impl_Node))), (1, .c (.int .i64 v1)), (5, .c (.own 1005 0 0 v2.length))] ([] ++ [(1005, ⟨0, 1, v2.map en_i64⟩)]) ∧ l_impl_Rise_3 K a0 n3 v1 v2 = some r) K ⟨_, _, rfl, h⟩ ?_
  rintro n3 S ⟨v1, v2, rfl, h⟩
  cases n3 with
  | zero => simp [l_impl_Rise_3] at h
  | succ n3 =>
    rw [l_impl_Rise_3] at h
    refine W_seq ?_
    refine W_seq ?_
    refine W_regV he rfl ?_
    refine v0 (sM rfl [] rfl) rfl ?_
    refine v0 (sM rfl [] rfl) rfl ?_
    refine bndc h ?_; clear h; intro r4 hr4 h
    refine vB (sCm (w_impl_isSlot K a0 v1 _ hr4) ok_impl_isSlot rfl rfl rfl rfl) rfl rfl fun b5 hb5 => ?_
    cases b5 with
    | true =>
      replace h := brT hb5 h
      refine v0 (sM rfl [] rfl) rfl ?_
      refine u0 (sM rfl [] rfl) rfl rfl rfl ?_
      refine u0 (sLo rfl rfl rfl rfl) rfl rfl rfl ?_
      refine u0 (sM rfl [] rfl) rfl rfl rfl ?_
      refine u0 (sLm rfl rfl rfl rfl) rfl rfl rfl ?_
      refine uB (sBi rfl rfl rfl rfl) rfl rfl rfl rfl fun b6 hb6 => ?_
      cases b6 with
      | true =>
        replace h := brT hb6 h
        refine v0 (sPk rfl [] rfl rfl) rfl ?_
        refine ve ?_
        refine W2 [0, 1, 5, 16] [] [1005] (l := [(0, .c (.row _ _ _)), (1, .c (.int _ _)), (5, .c (.own _ _ _ _)), (16, .c (.bool true))]) (h := []) (h' := [(1005, ⟨0, 1, v2.map en_i64⟩)]) ⟨⟨_, rfl, enOk_i64.allClosed _ _ v2⟩, trivial⟩ rfl rfl rfl ?_
        refine W_true rfl ?_
        refine W_skip ?_
        refine W_block ?_
        refine W_seq ?_
        refine W_regV he rfl ?_
        refine v0 (sM rfl [] rfl) rfl ?_
        refine v0 (sM rfl [] rfl) rfl ?_
        refine v0 (sBS rfl 1019 (rows := ([v1] : List Int).map en_i64) rfl rfl rfl (by kernel_rfl) rfl rfl rfl rfl) rfl ?_
        refine chkc h ?_; clear h; intro c7 h
        refine v0 (sAo rfl 1005 v2 ([v1] : List Int) enOk_i64 rfl rfl rfl rfl rfl rfl rfl rfl rfl rfl rfl c7) rfl ?_
        refine v0 (sA rfl [] rfl) rfl ?_
        refine ve ?_
        refine W2 [0, 1, 5] [] [1005] (l := [(0, .c (.row _ _ _)), (1, .c (.int _ _)), (5, .c (.own _ _ _ _))]) (h := []) (h' := [(1005, ⟨0, 1, (v2 ++ ([v1] : List Int)).map en_i64⟩)]) ⟨⟨_, rfl, enOk_i64.allClosed _ _ (v2 ++ ([v1] : List Int))⟩, trivial⟩ rfl rfl rfl ?_
        refine W_regV he rfl ?_
        refine v0 (sM rfl [] rfl) rfl ?_
        refine v0 (sM rfl [] rfl) rfl ?_
        refine chkc h ?_; clear h; intro c8 h
        refine v0 (sIRm rfl rfl rfl rfl c8) rfl ?_
        refine v0 (sFI rfl rfl rfl) rfl ?_
        refine v0 (sLI rfl rfl (en_impl_Node (gt a0 v1)) (gt_at _ c8) rfl rfl rfl) rfl ?_
        refine v0 (sBi rfl rfl rfl rfl) rfl ?_
        refine v0 (sA rfl [] rfl) rfl ?_
        refine ve ?_
        exact ⟨n3, _, Nat.lt_succ_self n3, wk2 [0, 1, 5] [] [1005] (l := [(0, .c (.row _ _ _)), (1, .c (.int _ _)), (5, .c (.own _ _ _ _))]) (h := []) (h' := [(1005, ⟨0, 1, (v2 ++ ([v1] : List Int)).map en_i64⟩)]) ⟨⟨_, rfl, enOk_i64.allClosed _ _ (v2 ++ ([v1] : List Int))⟩, trivial⟩ rfl rfl rfl, _, _, rfl, h⟩
      | false =>
        replace h := brF hb6 h
        refine v0 (sPk rfl [] rfl rfl) rfl ?_
        refine ve ?_
        refine W2 [0, 1, 5, 16] [] [1005] (l := [(0, .c (.row _ _ _)), (1, .c (.int _ _)), (5, .c (.own _ _ _ _)), (16, .c (.bool false))]) (h := []) (h' := [(1005, ⟨0, 1, v2.map en_i64⟩)]) ⟨⟨_, rfl, enOk_i64.allClosed _ _ v2⟩, trivial⟩ rfl rfl rfl ?_
        refine W_false rfl ?_
        refine W_exit (ex_then (ex_then (ex_hit ?_)))
        refine W_seq ?_
        refine W_regV he rfl ?_
        refine v0 (sM rfl [] rfl) rfl ?_
        refine v0 (sA rfl [] rfl) rfl ?_
        refine ve ?_
        refine W2 [4] [] [1005] (l := [(4, .c (.own _ _ _ _))]) (h := []) (h' := [(1005, ⟨0, 1, v2.map en_i64⟩)]) ⟨⟨_, rfl, enOk_i64.allClosed _ _ v2⟩, trivial⟩ rfl rfl rfl ?_
        obtain rfl := Option.some.inj h
        refine W.weak (wk_row (l := v2) 4 enOk_i64 rfl rfl) ?_
        exact W_ret (r0 rfl rfl)
    | false =>
      replace h := brF hb5 h
      refine v0 (sM rfl [] rfl) rfl ?_
      refine uP rfl rfl rfl rfl ?_
      refine uP rfl rfl rfl rfl ?_
      refine uP rfl rfl rfl rfl ?_
      refine uP rfl rfl rfl rfl ?_
      refine uP rfl rfl rfl rfl ?_
      refine v0 (sPk rfl [] rfl rfl) rfl ?_
      refine ve ?_
      refine W2 [0, 1, 5, 16] [] [1005] (l := [(0, .c (.row _ _ _)), (1, .c (.int _ _)), (5, .c (.own _ _ _ _)), (16, .c (.bool false))]) (h := []) (h' := [(1005, ⟨0, 1, v2.map en_i64⟩)]) ⟨⟨_, rfl, enOk_i64.allClosed _ _ v2⟩, trivial⟩ rfl rfl rfl ?_
      refine W_false rfl ?_
      refine W_exit (ex_then (ex_then (ex_hit ?_)))
      refine W_seq ?_
      refine W_regV he rfl ?_
      refine v0 (sM rfl [] rfl) rfl ?_
      refine v0 (sA rfl [] rfl) rfl ?_
      refine ve ?_
      refine W2 [4] [] [1005] (l := [(4, .c (.own _ _ _ _))]) (h := []) (h' := [(1005, ⟨0, 1, v2.map en_i64⟩)]) ⟨⟨_, rfl, enOk_i64.allClosed _ _ v2⟩, trivial⟩ rfl rfl rfl ?_
      obtain rfl := Option.some.inj h
      refine W.weak (wk_row (l := v2) 4 enOk_i64 rfl rfl) ?_
      exact W_ret (r0 rfl rfl)
theorem ok_impl_Rise : FnOk Try.prog 64 := ⟨_, Try.func64, rfl, rfl⟩


/-! ### loop.example/g00499/impl.Alive -/
def j_impl_Alive_5 (K : Nat) (v2 : Int) (C3 : Int → Option (Bool)) : Option (Bool) := (C3 (iAdd .i64 v2 1))
def l_impl_Alive_3 (K : Nat) (a0 : List T_impl_Node) (r1 : (List Int)) : Nat → Int → Option (Bool)
  | 0, _ => none
  | n3 + 1, v2 => (bif (decide (v2 < (r1.length : Int))) then (if (0 : Int) ≤ v2 ∧ v2 < (r1.length : Int) then (if (0 : Int) ≤ (gt r1 v2) ∧ (gt r1 v2) < (a0.length : Int) then (bif (((gt a0 (gt r1 v2)).fSt) != 1) then some false else (bif (decide ((iAdd .i64 v2 1) < (r1.length : Int))) then (if (0 : Int) ≤ (gt r1 v2) ∧ (gt r1 v2) < (a0.length : Int) then (if (0 : Int) ≤ (iAdd .i64 v2 1) ∧ (iAdd .i64 v2 1) < (r1.length : Int) then (if (0 : Int) ≤ (gt r1 (iAdd .i64 v2 1)) ∧ (gt r1 (iAdd .i64 v2 1)) < (a0.length : Int) then (bif (((gt a0 (gt r1 v2)).fUpEp) != ((gt a0 (gt r1 (iAdd .i64 v2 1))).fEp)) then some false else j_impl_Alive_5 K v2 (l_impl_Alive_3 K a0 r1 n3) ) else none) else none) else none) else j_impl_Alive_5 K v2 (l_impl_Alive_3 K a0 r1 n3) )) else none) else none) else (bif (decide ((r1.length : Int) > 0)) then (if (0 : Int) ≤ (iSub .i64 (r1.length : Int) 1) ∧ (iSub .i64 (r1.length : Int) 1) < (r1.length : Int) then (if (0 : Int) ≤ (gt r1 (iSub .i64 (r1.length : Int) 1)) ∧ (gt r1 (iSub .i64 (r1.length : Int) 1)) < (a0.length : Int) then some (((gt a0 (gt r1 (iSub .i64 (r1.length : Int) 1))).fUp) == 0) else none) else none) else some false))
def m_impl_Alive (K : Nat) (a0 : List T_impl_Node) (a1 : Int) : Option (Bool) := ((m_impl_Rise K a0 a1).bind fun r1 => (l_impl_Alive_3 K a0 r1 K 0))
set_option maxRecDepth 20000 in
set_option maxHeartbeats 8000000 in
theorem w_impl_Alive (K : Nat) (a0 : List T_impl_Node) (a1 : Int) (r : Bool) (h : m_impl_Alive K a0 a1 = some r) : Sp Try.prog 96 [.c (.row false 13 (a0.map en_impl_Node)), .c (.int .i64 a1)] [] (.c (.bool r)) [] := by
  refine Sp.of_W tabOk Try.func96 rfl rfl (Nat.le_of_ble_eq_true rfl) (Nat.le_of_ble_eq_true rfl) fun F hP hN hm => ?_
  obtain ⟨P, N, w0, σ0, β0, m⟩ := F
  obtain rfl : P = Try.prog := hP
  obtain rfl : N = 63 := hN
  obtain rfl : m = 1 := hm
  have he : Env ⟨Try.prog, 63, w0, σ0, β0, 1⟩ tab := ⟨Nat.le_of_ble_eq_true rfl, tabOk⟩
  unfold m_impl_Alive at h
  refine W_seq ?_
  refine W_regV he rfl ?_
  refine v0 (sA rfl [] rfl) rfl ?_
  refine ve ?_
  refine W2 [0, 1] [] [] (l := [(0, .c (.row _ _ _)), (1, .c (.int _ _))]) (h := []) (h' := []) trivial rfl rfl rfl ?_
  refine W_seq ?_
  refine W_regV he rfl ?_
  refine v0 (sM rfl [] rfl) rfl ?_
  refine v0 (sM rfl [] rfl) rfl ?_
  refine bndc h ?_; clear h; intro r1 hr1 h
  refine v0 (sCm (w_impl_Rise K a0 a1 _ hr1) ok_impl_Rise rfl rfl rfl rfl) rfl ?_
  refine v0 (sA rfl [] rfl) rfl ?_
  refine ve ?_
  refine W2 [0, 5] [] [] (l := [(0, .c (.row _ _ _)), (5, .c (.row _ _ _))]) (h := []) (h' := []) trivial rfl rfl rfl ?_
  refine W_seq ?_
  refine W_seq ?_
  refine W_regV he rfl ?_
  refine v0 (sM rfl [] rfl) rfl ?_
  refine v0 (sLm rfl rfl rfl rfl) rfl ?_
  refine v0 (sM rfl [] rfl) rfl ?_
  refine ve ?_
  refine W2 [0, 5, 11, 12, 13] [] [] (l := [(0, .c (.row _ _ _)), (5, .c (.row _ _ _)), (11, .c (.row _ _ _)), (12, .c (.int _ _)), (13, .c (.int _ _))]) (h := []) (h' := []) trivial rfl rfl rfl ?_
  refine W_block ?_
  refine W2 [0, 5, 11, 12, 13] [] [] (l := [(0, .c (.row _ _ _)), (5, .c (.row _ _ _)), (11, .c (.row _ _ _)), (12, .c (.int _ _)), (13, .c (.int _ _))]) (h := []) (h' := []) trivial rfl rfl rfl ?_
  refine W_loopW (fun n3 S => ∃ (v2 : Int), S = StL [(0, .c (.row false 13 (a0.map en_impl_Node))), (5, .c (.row false 1 (r1.map en_i64))), (11, .c (.row false 1 (r1.map en_i64))), (12, .c (.int .i64 (r1.length : Int))), (13, .c (.int .i64 v2))] ([] ++ []) ∧ l_impl_Alive_3 K a0 r1 n3 v2 = some r) K ⟨_, rfl, h⟩ ?_
  rintro n3 S ⟨v2, rfl, h⟩
  cases n3 with
  | zero => simp [l_impl_Alive_3] at h
  | succ n3 =>
    rw [l_impl_Alive_3] at h
    refine W_seq ?_
    refine W_regV he rfl ?_
    refine vB (sBi rfl rfl rfl rfl) rfl rfl fun b4 hb4 => ?_
    cases b4 with
    | true =>
      replace h := brT hb4 h
      refine ve ?_
      refine W2 [0, 5, 11, 12, 13, 14] [] [] (l := [(0, .c (.row _ _ _)), (5, .c (.row _ _ _)), (11, .c (.row _ _ _)), (12, .c (.int _ _)), (13, .c (.int _ _)), (14, .c (.bool true))]) (h := []) (h' := []) trivial rfl rfl rfl ?_
      refine W_seq ?_
      refine W_true rfl ?_
      refine W_skip ?_
      refine W_join (fun S => S = StL [(0, .c (.row false 13 (a0.map en_impl_Node))), (5, .c (.row false 1 (r1.map en_i64))), (11, .c (.row false 1 (r1.map en_i64))), (12, .c (.int .i64 (r1.length : Int))), (13, .c (.int .i64 v2))] ([] ++ []) ∧ j_impl_Alive_5 K v2 (l_impl_Alive_3 K a0 r1 n3)  = some r) ?_ ?_
      · rintro S ⟨rfl, h⟩
        unfold j_impl_Alive_5 at h
        refine W_regV he rfl ?_
        refine v0 (sBi rfl rfl rfl rfl) rfl ?_
        refine v0 (sM rfl [] rfl) rfl ?_
        refine ve ?_
        exact ⟨n3, _, Nat.lt_succ_self n3, wk2 [0, 5, 11, 12, 13] [] [] (l := [(0, .c (.row _ _ _)), (5, .c (.row _ _ _)), (11, .c (.row _ _ _)), (12, .c (.int _ _)), (13, .c (.int _ _))]) (h := []) (h' := []) trivial rfl rfl rfl, _, rfl, h⟩
      ·
        refine W_block ?_
        refine W_seq ?_
        refine W_regV he rfl ?_
        refine v0 (sM rfl [] rfl) rfl ?_
        refine chkc h ?_; clear h; intro c106 h
        refine v0 (sIRm rfl rfl rfl rfl c106) rfl ?_
        refine v0 (sLI rfl rfl (en_i64 (gt r1 v2)) (gt_at _ c106) rfl rfl rfl) rfl ?_
        refine v0 (sA rfl [] rfl) rfl ?_
        refine v0 (sA rfl [] rfl) rfl ?_
        refine ve ?_
        refine W2 [0, 5, 6, 7, 11, 12, 13] [] [] (l := [(0, .c (.row _ _ _)), (5, .c (.row _ _ _)), (6, .c (.int _ _)), (7, .c (.int _ _)), (11, .c (.row _ _ _)), (12, .c (.int _ _)), (13, .c (.int _ _))]) (h := []) (h' := []) trivial rfl rfl rfl ?_
        refine W_seq ?_
        refine W_seq ?_
        refine W_regV he rfl ?_
        refine v0 (sM rfl [] rfl) rfl ?_
        refine v0 (sM rfl [] rfl) rfl ?_
        refine chkc h ?_; clear h; intro c107 h
        refine v0 (sIRm rfl rfl rfl rfl c107) rfl ?_
        refine v0 (sFI rfl rfl rfl) rfl ?_
        refine v0 (sLI rfl rfl (en_impl_Node (gt a0 (gt r1 v2))) (gt_at _ c107) rfl rfl rfl) rfl ?_
        refine vB (sBi rfl rfl rfl rfl) rfl rfl fun b108 hb108 => ?_
        cases b108 with
        | true =>
          replace h := brT hb108 h
          refine ve ?_
          refine W2 [0, 5, 6, 7, 11, 12, 13, 23] [] [] (l := [(0, .c (.row _ _ _)), (5, .c (.row _ _ _)), (6, .c (.int _ _)), (7, .c (.int _ _)), (11, .c (.row _ _ _)), (12, .c (.int _ _)), (13, .c (.int _ _)), (23, .c (.bool true))]) (h := []) (h' := []) trivial rfl rfl rfl ?_
          refine W_true rfl ?_
          refine W_seq ?_
          refine W_regV he rfl ?_
          refine v0 (sA rfl [] rfl) rfl ?_
          refine ve ?_
          refine W2 [4] [] [] (l := [(4, .c (.bool false))]) (h := []) (h' := []) trivial rfl rfl rfl ?_
          obtain rfl := Option.some.inj h
          exact W_ret (r0 rfl rfl)
        | false =>
          replace h := brF hb108 h
          refine ve ?_
          refine W2 [0, 5, 6, 7, 11, 12, 13, 23] [] [] (l := [(0, .c (.row _ _ _)), (5, .c (.row _ _ _)), (6, .c (.int _ _)), (7, .c (.int _ _)), (11, .c (.row _ _ _)), (12, .c (.int _ _)), (13, .c (.int _ _)), (23, .c (.bool false))]) (h := []) (h' := []) trivial rfl rfl rfl ?_
          refine W_false rfl ?_
          refine W_skip ?_
          refine W_seq ?_
          refine W_regD he rfl rfl rfl ?_
          refine g0 (sM rfl [] rfl) rfl ?_
          refine g0 (sBi rfl rfl rfl rfl) rfl ?_
          refine g0 (sM rfl [] rfl) rfl ?_
          refine g0 (sLm rfl rfl rfl rfl) rfl ?_
          refine gB (sBi rfl rfl rfl rfl) rfl rfl fun b109 hb109 => ?_
          cases b109 with
          | true =>
            replace h := brT hb109 h
            refine g0 (sM rfl [] rfl) rfl ?_
            refine q0 (sM rfl [] rfl) rfl rfl rfl ?_
            refine q0 (sM rfl [] rfl) rfl rfl rfl ?_
            refine chkc h ?_; clear h; intro c110 h
            refine q0 (sIRm rfl rfl rfl rfl c110) rfl rfl rfl ?_
            refine q0 (sFI rfl rfl rfl) rfl rfl rfl ?_
            refine q0 (sLI rfl rfl (en_impl_Node (gt a0 (gt r1 v2))) (gt_at _ c110) rfl rfl rfl) rfl rfl rfl ?_
            refine q0 (sM rfl [] rfl) rfl rfl rfl ?_
            refine q0 (sM rfl [] rfl) rfl rfl rfl ?_
            refine q0 (sM rfl [] rfl) rfl rfl rfl ?_
            refine q0 (sBi rfl rfl rfl rfl) rfl rfl rfl ?_
            refine chkc h ?_; clear h; intro c111 h
            refine q0 (sIRm rfl rfl rfl rfl c111) rfl rfl rfl ?_
            refine q0 (sLI rfl rfl (en_i64 (gt r1 (iAdd .i64 v2 1))) (gt_at _ c111) rfl rfl rfl) rfl rfl rfl ?_
            refine chkc h ?_; clear h; intro c112 h
            refine q0 (sIRm rfl rfl rfl rfl c112) rfl rfl rfl ?_
            refine q0 (sFI rfl rfl rfl) rfl rfl rfl ?_
            refine q0 (sLI rfl rfl (en_impl_Node (gt a0 (gt r1 (iAdd .i64 v2 1)))) (gt_at _ c112) rfl rfl rfl) rfl rfl rfl ?_
            refine qB (sBi rfl rfl rfl rfl) rfl rfl rfl rfl fun b113 hb113 => ?_
            cases b113 with
            | true =>
              replace h := brT hb113 h
              refine g0 (sPk rfl [] rfl rfl) rfl ?_
              refine ge ⟨rfl, ?_⟩
              refine W2 [0, 5, 11, 12, 13, 45] [] [] (l := [(0, .c (.row _ _ _)), (5, .c (.row _ _ _)), (11, .c (.row _ _ _)), (12, .c (.int _ _)), (13, .c (.int _ _)), (45, .c (.bool true))]) (h := []) (h' := []) trivial rfl rfl rfl ?_
              refine W_true rfl ?_
              refine W_seq ?_
              refine W_regV he rfl ?_
              refine v0 (sA rfl [] rfl) rfl ?_
              refine ve ?_
              refine W2 [4] [] [] (l := [(4, .c (.bool false))]) (h := []) (h' := []) trivial rfl rfl rfl ?_
              obtain rfl := Option.some.inj h
              exact W_ret (r0 rfl rfl)
            | false =>
              replace h := brF hb113 h
              refine g0 (sPk rfl [] rfl rfl) rfl ?_
              refine ge ⟨rfl, ?_⟩
              refine W2 [0, 5, 11, 12, 13, 45] [] [] (l := [(0, .c (.row _ _ _)), (5, .c (.row _ _ _)), (11, .c (.row _ _ _)), (12, .c (.int _ _)), (13, .c (.int _ _)), (45, .c (.bool false))]) (h := []) (h' := []) trivial rfl rfl rfl ?_
              refine W_false rfl ?_
              refine W_skip ?_
              exact ⟨_, wk2 [0, 5, 11, 12, 13] [] [] (l := [(0, .c (.row _ _ _)), (5, .c (.row _ _ _)), (11, .c (.row _ _ _)), (12, .c (.int _ _)), (13, .c (.int _ _))]) (h := []) (h' := []) trivial rfl rfl rfl, rfl, h⟩
          | false =>
            replace h := brF hb109 h
            refine g0 (sM rfl [] rfl) rfl ?_
            refine qP rfl rfl rfl rfl ?_
            refine qP rfl rfl rfl rfl ?_
            refine qP rfl rfl rfl rfl ?_
            refine qP rfl rfl rfl rfl ?_
            refine qP rfl rfl rfl rfl ?_
            refine qP rfl rfl rfl rfl ?_
            refine qP rfl rfl rfl rfl ?_
            refine qP rfl rfl rfl rfl ?_
            refine qP rfl rfl rfl rfl ?_
            refine qP rfl rfl rfl rfl ?_
            refine qP rfl rfl rfl rfl ?_
            refine qP rfl rfl rfl rfl ?_
            refine qP rfl rfl rfl rfl ?_
            refine qP rfl rfl rfl rfl ?_
            refine qP rfl rfl rfl rfl ?_
            refine g0 (sPk rfl [] rfl rfl) rfl ?_
            refine ge ⟨rfl, ?_⟩
            refine W2 [0, 5, 11, 12, 13, 45] [] [] (l := [(0, .c (.row _ _ _)), (5, .c (.row _ _ _)), (11, .c (.row _ _ _)), (12, .c (.int _ _)), (13, .c (.int _ _)), (45, .c (.bool false))]) (h := []) (h' := []) trivial rfl rfl rfl ?_
            refine W_false rfl ?_
            refine W_skip ?_
            exact ⟨_, wk2 [0, 5, 11, 12, 13] [] [] (l := [(0, .c (.row _ _ _)), (5, .c (.row _ _ _)), (11, .c (.row _ _ _)), (12, .c (.int _ _)), (13, .c (.int _ _))]) (h := []) (h' := []) trivial rfl rfl rfl, rfl, h⟩
    | false =>
      replace h := brF hb4 h
      refine ve ?_
      refine W2 [0, 5, 11, 12, 13, 14] [] [] (l := [(0, .c (.row _ _ _)), (5, .c (.row _ _ _)), (11, .c (.row _ _ _)), (12, .c (.int _ _)), (13, .c (.int _ _)), (14, .c (.bool false))]) (h := []) (h' := []) trivial rfl rfl rfl ?_
      refine W_seq ?_
      refine W_false rfl ?_
      refine W_exit (ex_then (ex_then (ex_hit ?_)))
      refine W_seq ?_
      refine W_regV he rfl ?_
      refine v0 (sM rfl [] rfl) rfl ?_
      refine v0 (sLm rfl rfl rfl rfl) rfl ?_
      refine vB (sBi rfl rfl rfl rfl) rfl rfl fun b114 hb114 => ?_
      cases b114 with
      | true =>
        replace h := brT hb114 h
        refine v0 (sM rfl [] rfl) rfl ?_
        refine u0 (sM rfl [] rfl) rfl rfl rfl ?_
        refine u0 (sM rfl [] rfl) rfl rfl rfl ?_
        refine u0 (sM rfl [] rfl) rfl rfl rfl ?_
        refine u0 (sLm rfl rfl rfl rfl) rfl rfl rfl ?_
        refine u0 (sBi rfl rfl rfl rfl) rfl rfl rfl ?_
        refine chkc h ?_; clear h; intro c115 h
        refine u0 (sIRm rfl rfl rfl rfl c115) rfl rfl rfl ?_
        refine u0 (sLI rfl rfl (en_i64 (gt r1 (iSub .i64 (r1.length : Int) 1))) (gt_at _ c115) rfl rfl rfl) rfl rfl rfl ?_
        refine chkc h ?_; clear h; intro c116 h
        refine u0 (sIRm rfl rfl rfl rfl c116) rfl rfl rfl ?_
        refine u0 (sFI rfl rfl rfl) rfl rfl rfl ?_
        refine u0 (sLI rfl rfl (en_impl_Node (gt a0 (gt r1 (iSub .i64 (r1.length : Int) 1)))) (gt_at _ c116) rfl rfl rfl) rfl rfl rfl ?_
        refine u0 (sBi rfl rfl rfl rfl) rfl rfl rfl ?_
        refine v0 (sPk rfl [] rfl rfl) rfl ?_
        refine v0 (sA rfl [] rfl) rfl ?_
        refine ve ?_
        refine W2 [4] [] [] (l := [(4, .c (.bool _))]) (h := []) (h' := []) trivial rfl rfl rfl ?_
        obtain rfl := Option.some.inj h
        exact W_ret (r0 rfl rfl)
      | false =>
        replace h := brF hb114 h
        refine v0 (sM rfl [] rfl) rfl ?_
        refine uP rfl rfl rfl rfl ?_
        refine uP rfl rfl rfl rfl ?_
        refine uP rfl rfl rfl rfl ?_
        refine uP rfl rfl rfl rfl ?_
        refine uP rfl rfl rfl rfl ?_
        refine uP rfl rfl rfl rfl ?_
        refine uP rfl rfl rfl rfl ?_
        refine uP rfl rfl rfl rfl ?_
        refine uP rfl rfl rfl rfl ?_
        refine uP rfl rfl rfl rfl ?_
        refine uP rfl rfl rfl rfl ?_
        refine v0 (sPk rfl [] rfl rfl) rfl ?_
        refine v0 (sA rfl [] rfl) rfl ?_
        refine ve ?_
        refine W2 [4] [] [] (l := [(4, .c (.bool false))]) (h := []) (h' := []) trivial rfl rfl rfl ?_
        obtain rfl := Option.some.inj h
        exact W_ret (r0 rfl rfl)
theorem ok_impl_Alive : FnOk Try.prog 96 := ⟨_, Try.func96, rfl, rfl⟩


/-! ### loop.example/g00499/impl.FindRoom -/
def m_impl_FindRoom (K : Nat) (a0 : T_impl_World) (a1 : T_impl_Handle) : Option (Int × Int) := ((m_impl_HandleOk K a1).bind fun r1 => (bif r1 then ((m_impl_PlaceOf K a0.fL a1).bind fun r3 => (bif (decide (r3 < 0)) then some ((-1), 2) else ((m_impl_Alive K a0.fL r3).bind fun r5 => (bif r5 then some (r3, 0) else some ((-1), 2))))) else some ((-1), 1)))
set_option maxRecDepth 20000 in
set_option maxHeartbeats 8000000 in
theorem w_impl_FindRoom (K : Nat) (a0 : T_impl_World) (a1 : T_impl_Handle) (r : Int × Int) (h : m_impl_FindRoom K a0 a1 = some r) : Sp Try.prog 60 [.g [.int .i64 a0.fC.fChunks, .int .i64 a0.fC.fSize, .int .i64 a0.fC.fSlots, .int .i64 a0.fC.fTax, .int .i64 a0.fC.fSlice, .int .i64 a0.fC.fGens, .row false 1 (a0.fP.fMem.map en_u8), .row false 1 (a0.fP.fSt.map en_i64), .row false 1 (a0.fP.fOwn.map en_i64), .row false 13 (a0.fL.map en_impl_Node), .row false 5 (a0.fQ.map en_impl_Waste), .row false 1 (a0.fLog.map en_i64)], .g [.int .i64 a1.fSlot, .int .i64 a1.fGen]] [] (.t [.c (.int .i64 r.1), .c (.int .i64 r.2)]) [] := by
  refine Sp.of_W tabOk Try.func60 rfl rfl (Nat.le_of_ble_eq_true rfl) (Nat.le_of_ble_eq_true rfl) fun F hP hN hm => ?_
  obtain ⟨P, N, w0, σ0, β0, m⟩ := F
  obtain rfl : P = Try.prog := hP
  obtain rfl : N = 24 := hN
  obtain rfl : m = 1 := hm
  have he : Env ⟨Try.prog, 24, w0, σ0, β0, 1⟩ tab := ⟨Nat.le_of_ble_eq_true rfl, tabOk⟩
  unfold m_impl_FindRoom at h
  refine W_seq ?_
  refine W_regV he rfl ?_
  refine v0 (sBx rfl [] rfl rfl 101 rfl) rfl ?_
  refine v0 (sBx rfl [] rfl rfl 102 rfl) rfl ?_
  refine v0 (sA rfl [] rfl) rfl ?_
  refine v0 (sA rfl [] rfl) rfl ?_
  refine ve ?_
  refine W2 [2, 3] [101, 102] [] (l := [(2, .c (.ptr _ _ _ _)), (3, .c (.ptr _ _ _ _))]) (h := [(101, ⟨0, 12, [[.int _ _, .int _ _, .int _ _, .int _ _, .int _ _, .int _ _, .row _ _ _, .row _ _ _, .row _ _ _, .row _ _ _, .row _ _ _, .row _ _ _]]⟩), (102, ⟨0, 2, [[.int _ _, .int _ _]]⟩)]) (h' := []) trivial rfl rfl rfl ?_
  refine W_seq ?_
  refine W_seq ?_
  refine W_regV he rfl ?_
  refine v0 (sLd rfl rfl) rfl ?_
  refine bndc h ?_; clear h; intro r1 hr1 h
  refine vB (sCm (w_impl_HandleOk K a1 _ hr1) ok_impl_HandleOk rfl rfl rfl rfl) rfl rfl fun b2 hb2 => ?_
  cases b2 with
  | true =>
    replace h := brT hb2 h
    refine v0 (sNt rfl rfl) rfl ?_
    refine ve ?_
    refine W2 [2, 3, 9] [101, 102] [] (l := [(2, .c (.ptr _ _ _ _)), (3, .c (.ptr _ _ _ _)), (9, .c (.bool false))]) (h := [(101, ⟨0, 12, [[.int _ _, .int _ _, .int _ _, .int _ _, .int _ _, .int _ _, .row _ _ _, .row _ _ _, .row _ _ _, .row _ _ _, .row _ _ _, .row _ _ _]]⟩), (102, ⟨0, 2, [[.int _ _, .int _ _]]⟩)]) (h' := []) trivial rfl rfl rfl ?_
    refine W_false rfl ?_
    refine W_skip ?_
    refine W_seq ?_
    refine W_regV he rfl ?_
    refine v0 (sFP rfl rfl rfl) rfl ?_
    refine v0 (sLd rfl rfl) rfl ?_
    refine v0 (sLd rfl rfl) rfl ?_
    refine bndc h ?_; clear h; intro r3 hr3 h
    refine v0 (sCm (w_impl_PlaceOf K a0.fL a1 _ hr3) ok_impl_PlaceOf rfl rfl rfl rfl) rfl ?_
    refine v0 (sA rfl [] rfl) rfl ?_
    refine ve ?_
    refine W2 [2, 6] [101] [] (l := [(2, .c (.ptr _ _ _ _)), (6, .c (.int _ _))]) (h := [(101, ⟨0, 12, [[.int _ _, .int _ _, .int _ _, .int _ _, .int _ _, .int _ _, .row _ _ _, .row _ _ _, .row _ _ _, .row _ _ _, .row _ _ _, .row _ _ _]]⟩)]) (h' := []) trivial rfl rfl rfl ?_
    refine W_seq ?_
    refine W_seq ?_
    refine W_regV he rfl ?_
    refine v0 (sM rfl [] rfl) rfl ?_
    refine vB (sBi rfl rfl rfl rfl) rfl rfl fun b4 hb4 => ?_
    cases b4 with
    | true =>
      replace h := brT hb4 h
      refine v0 (sM rfl [] rfl) rfl ?_
      refine uP rfl rfl rfl rfl ?_
      refine uP rfl rfl rfl rfl ?_
      refine uP rfl rfl rfl rfl ?_
      refine uP rfl rfl rfl rfl ?_
      refine uP rfl rfl rfl rfl ?_
      refine v0 (sPk rfl [] rfl rfl) rfl ?_
      refine ve ?_
      refine W2 [6, 22] [] [] (l := [(6, .c (.int _ _)), (22, .c (.bool true))]) (h := []) (h' := []) trivial rfl rfl rfl ?_
      refine W_true rfl ?_
      refine W_seq ?_
      refine W_regV he rfl ?_
      refine v0 (sA rfl [] rfl) rfl ?_
      refine v0 (sA rfl [] rfl) rfl ?_
      refine ve ?_
      refine W2 [4, 5] [] [] (l := [(4, .c (.int _ _)), (5, .c (.int _ _))]) (h := []) (h' := []) trivial rfl rfl rfl ?_
      obtain rfl := Option.some.inj h
      exact W_ret (r0 rfl rfl)
    | false =>
      replace h := brF hb4 h
      refine v0 (sM rfl [] rfl) rfl ?_
      refine u0 (sFP rfl rfl rfl) rfl rfl rfl ?_
      refine u0 (sLd rfl rfl) rfl rfl rfl ?_
      refine u0 (sM rfl [] rfl) rfl rfl rfl ?_
      refine bndc h ?_; clear h; intro r5 hr5 h
      refine uB (sCm (w_impl_Alive K a0.fL r3 _ hr5) ok_impl_Alive rfl rfl rfl rfl) rfl rfl rfl rfl fun b6 hb6 => ?_
      cases b6 with
      | true =>
        replace h := brT hb6 h
        refine u0 (sNt rfl rfl) rfl rfl rfl ?_
        refine v0 (sPk rfl [] rfl rfl) rfl ?_
        refine ve ?_
        refine W2 [6, 22] [] [] (l := [(6, .c (.int _ _)), (22, .c (.bool false))]) (h := []) (h' := []) trivial rfl rfl rfl ?_
        refine W_false rfl ?_
        refine W_skip ?_
        refine W_seq ?_
        refine W_regV he rfl ?_
        refine v0 (sM rfl [] rfl) rfl ?_
        refine v0 (sA rfl [] rfl) rfl ?_
        refine v0 (sA rfl [] rfl) rfl ?_
        refine ve ?_
        refine W2 [4, 5] [] [] (l := [(4, .c (.int _ _)), (5, .c (.int _ _))]) (h := []) (h' := []) trivial rfl rfl rfl ?_
        obtain rfl := Option.some.inj h
        exact W_ret (r0 rfl rfl)
      | false =>
        replace h := brF hb6 h
        refine u0 (sNt rfl rfl) rfl rfl rfl ?_
        refine v0 (sPk rfl [] rfl rfl) rfl ?_
        refine ve ?_
        refine W2 [6, 22] [] [] (l := [(6, .c (.int _ _)), (22, .c (.bool true))]) (h := []) (h' := []) trivial rfl rfl rfl ?_
        refine W_true rfl ?_
        refine W_seq ?_
        refine W_regV he rfl ?_
        refine v0 (sA rfl [] rfl) rfl ?_
        refine v0 (sA rfl [] rfl) rfl ?_
        refine ve ?_
        refine W2 [4, 5] [] [] (l := [(4, .c (.int _ _)), (5, .c (.int _ _))]) (h := []) (h' := []) trivial rfl rfl rfl ?_
        obtain rfl := Option.some.inj h
        exact W_ret (r0 rfl rfl)
  | false =>
    replace h := brF hb2 h
    refine v0 (sNt rfl rfl) rfl ?_
    refine ve ?_
    refine W2 [2, 3, 9] [101, 102] [] (l := [(2, .c (.ptr _ _ _ _)), (3, .c (.ptr _ _ _ _)), (9, .c (.bool true))]) (h := [(101, ⟨0, 12, [[.int _ _, .int _ _, .int _ _, .int _ _, .int _ _, .int _ _, .row _ _ _, .row _ _ _, .row _ _ _, .row _ _ _, .row _ _ _, .row _ _ _]]⟩), (102, ⟨0, 2, [[.int _ _, .int _ _]]⟩)]) (h' := []) trivial rfl rfl rfl ?_
    refine W_true rfl ?_
    refine W_seq ?_
    refine W_regV he rfl ?_
    refine v0 (sA rfl [] rfl) rfl ?_
    refine v0 (sA rfl [] rfl) rfl ?_
    refine ve ?_
    refine W2 [4, 5] [] [] (l := [(4, .c (.int _ _)), (5, .c (.int _ _))]) (h := []) (h' := []) trivial rfl rfl rfl ?_
    obtain rfl := Option.some.inj h
    exact W_ret (r0 rfl rfl)
theorem ok_impl_FindRoom : FnOk Try.prog 60 := ⟨_, Try.func60, rfl, rfl⟩


/-! ### loop.example/g00499/impl.KidsOf -/
def l_impl_KidsOf_3 (K : Nat) (a0 : List T_impl_Node) : Nat → (List Int) → Int → Option ((List Int))
  | 0, _, _ => none
  | n3 + 1, v1, v2 => ((m_impl_isSlot K a0 v2).bind fun r4 => (bif r4 then (bif (decide ((v1.length : Int) < (a0.length : Int))) then (if (v1 ++ ([v2] : List Int)).length * 8 ≤ 140737488355328 ∧ (v1 ++ ([v2] : List Int)).length ≤ maxLen then (if (0 : Int) ≤ v2 ∧ v2 < (a0.length : Int) then (l_impl_KidsOf_3 K a0 n3 (v1 ++ ([v2] : List Int)) (iSub .i64 ((gt a0 v2).fNext) 1)) else none) else none) else some v1) else some v1))
def m_impl_KidsOf (K : Nat) (a0 : List T_impl_Node) (a1 : Int) : Option ((List Int)) := (l_impl_KidsOf_3 K a0 K ([] : List Int) (iSub .i64 a1 1))
set_option maxRecDepth 20000 in
set_option maxHeartbeats 8000000 in
theorem w_impl_KidsOf (K : Nat) (a0 : List T_impl_Node) (a1 : Int) (r : (List Int)) (h : m_impl_KidsOf K a0 a1 = some r) : Sp Try.prog 78 [.c (.row false 13 (a0.map en_impl_Node)), .c (.int .i64 a1)] [] (.c (.row false 1 (r.map en_i64))) [] := by
  refine Sp.of_W tabOk Try.func78 rfl rfl (Nat.le_of_ble_eq_true rfl) (Nat.le_of_ble_eq_true rfl) fun F hP hN hm => ?_
  obtain ⟨P, N, w0, σ0, β0, m⟩ := F
  obtain rfl : P = Try.prog := hP
  obtain rfl : N = 31 := hN
  obtain rfl : m = 1 := hm
  have he : Env ⟨Try.prog, 31, w0, σ0, β0, 1⟩ tab := ⟨Nat.le_of_ble_eq_true rfl, tabOk⟩
  unfold m_impl_KidsOf at h
  refine W_seq ?_
  refine W_regV he rfl ?_
  refine v0 (sA rfl [1] rfl) rfl ?_
  refine ve ?_
  refine W2 [0, 1] [] [] (l := [(0, .c (.row _ _ _)), (1, .c (.int _ _))]) (h := []) (h' := []) trivial rfl rfl rfl ?_
  refine W_seq ?_
  refine W_regV he rfl ?_
  refine v0 (sBS rfl 1005 (rows := ([] : List Int).map en_i64) rfl rfl rfl (by kernel_rfl) rfl rfl rfl rfl) rfl ?_
  refine v0 (sA rfl [] rfl) rfl ?_
  refine ve ?_
  refine W2 [0, 1, 5] [] [1005] (l := [(0, .c (.row _ _ _)), (1, .c (.int _ _)), (5, .c (.own _ _ _ _))]) (h := []) (h' := [(1005, ⟨0, 1, ([] : List Int).map en_i64⟩)]) ⟨⟨_, rfl, enOk_i64.allClosed _ _ ([] : List Int)⟩, trivial⟩ rfl rfl rfl ?_
  refine W_seq ?_
  refine W_seq ?_
  refine W_regV he rfl ?_
  refine v0 (sM rfl [] rfl) rfl ?_
  refine v0 (sBi rfl rfl rfl rfl) rfl ?_
  refine v0 (sA rfl [] rfl) rfl ?_
  refine ve ?_
  refine W2 [0, 5, 6] [] [1005] (l := [(0, .c (.row _ _ _)), (5, .c (.own _ _ _ _)), (6, .c (.int _ _))]) (h := []) (h' := [(1005, ⟨0, 1, ([] : List Int).map en_i64⟩)]) ⟨⟨_, rfl, enOk_i64.allClosed _ _ ([] : List Int)⟩, trivial⟩ rfl rfl rfl ?_
  refine W_block ?_
  refine W2 [0, 5, 6] [] [1005] (l := [(0, .c (.row _ _ _)), (5, .c (.own _ _ _ _)), (6, .c (.int _ _))]) (h := []) (h' := [(1005, ⟨0, 1, ([] : List Int).map en_i64⟩)]) ⟨⟨_, rfl, enOk_i64.allClosed _ _ ([] : List Int)⟩, trivial⟩ rfl rfl rfl ?_
  refine W_loopW (fun n3 S => ∃ (v1 : List Int), ∃ (v2 : Int), S = StL [(0, .c (.row false 13 (a0.map en_impl_Node))), (5, .c (.own 1005 0 0 v1.length)), (6, .c (.int .i64 v2))] ([] ++ [(1005, ⟨0, 1, v1.map en_i64⟩)]) ∧ l_impl_KidsOf_3 K a0 n3 v1 v2 = some r) K ⟨_, _, rfl, h⟩ ?_
  rintro n3 S ⟨v1, v2, rfl, h⟩
  cases n3 with
  | zero => simp [l_impl_KidsOf_3] at h
  | succ n3 =>
    rw [l_impl_KidsOf_3] at h
    refine W_seq ?_
    refine W_seq ?_
    refine W_regV he rfl ?_
    refine v0 (sM rfl [] rfl) rfl ?_
    refine v0 (sM rfl [] rfl) rfl ?_
    refine bndc h ?_; clear h; intro r4 hr4 h
    refine vB (sCm (w_impl_isSlot K a0 v2 _ hr4) ok_impl_isSlot rfl rfl rfl rfl) rfl rfl fun b5 hb5 => ?_
    cases b5 with
    | true =>
      replace h := brT hb5 h
      refine v0 (sM rfl [] rfl) rfl ?_
      refine u0 (sM rfl [] rfl) rfl rfl rfl ?_
      refine u0 (sLo rfl rfl rfl rfl) rfl rfl rfl ?_
      refine u0 (sM rfl [] rfl) rfl rfl rfl ?_
      refine u0 (sLm rfl rfl rfl rfl) rfl rfl rfl ?_
      refine uB (sBi rfl rfl rfl rfl) rfl rfl rfl rfl fun b6 hb6 => ?_
      cases b6 with
      | true =>
        replace h := brT hb6 h
        refine v0 (sPk rfl [] rfl rfl) rfl ?_
        refine ve ?_
        refine W2 [0, 5, 6, 19] [] [1005] (l := [(0, .c (.row _ _ _)), (5, .c (.own _ _ _ _)), (6, .c (.int _ _)), (19, .c (.bool true))]) (h := []) (h' := [(1005, ⟨0, 1, v1.map en_i64⟩)]) ⟨⟨_, rfl, enOk_i64.allClosed _ _ v1⟩, trivial⟩ rfl rfl rfl ?_
        refine W_true rfl ?_
        refine W_skip ?_
        refine W_seq ?_
        refine W_block ?_
        refine W_regV he rfl ?_
        refine v0 (sM rfl [] rfl) rfl ?_
        refine v0 (sM rfl [] rfl) rfl ?_
        refine v0 (sBS rfl 1028 (rows := ([v2] : List Int).map en_i64) rfl rfl rfl (by kernel_rfl) rfl rfl rfl rfl) rfl ?_
        refine chkc h ?_; clear h; intro c7 h
        refine v0 (sAo rfl 1005 v1 ([v2] : List Int) enOk_i64 rfl rfl rfl rfl rfl rfl rfl rfl rfl rfl rfl c7) rfl ?_
        refine v0 (sA rfl [] rfl) rfl ?_
        refine ve ?_
        refine W2 [0, 5, 6] [] [1005] (l := [(0, .c (.row _ _ _)), (5, .c (.own _ _ _ _)), (6, .c (.int _ _))]) (h := []) (h' := [(1005, ⟨0, 1, (v1 ++ ([v2] : List Int)).map en_i64⟩)]) ⟨⟨_, rfl, enOk_i64.allClosed _ _ (v1 ++ ([v2] : List Int))⟩, trivial⟩ rfl rfl rfl ?_
        refine W_regV he rfl ?_
        refine v0 (sM rfl [] rfl) rfl ?_
        refine v0 (sM rfl [] rfl) rfl ?_
        refine chkc h ?_; clear h; intro c8 h
        refine v0 (sIRm rfl rfl rfl rfl c8) rfl ?_
        refine v0 (sFI rfl rfl rfl) rfl ?_
        refine v0 (sLI rfl rfl (en_impl_Node (gt a0 v2)) (gt_at _ c8) rfl rfl rfl) rfl ?_
        refine v0 (sBi rfl rfl rfl rfl) rfl ?_
        refine v0 (sA rfl [] rfl) rfl ?_
        refine ve ?_
        exact ⟨n3, _, Nat.lt_succ_self n3, wk2 [0, 5, 6] [] [1005] (l := [(0, .c (.row _ _ _)), (5, .c (.own _ _ _ _)), (6, .c (.int _ _))]) (h := []) (h' := [(1005, ⟨0, 1, (v1 ++ ([v2] : List Int)).map en_i64⟩)]) ⟨⟨_, rfl, enOk_i64.allClosed _ _ (v1 ++ ([v2] : List Int))⟩, trivial⟩ rfl rfl rfl, _, _, rfl, h⟩
      | false =>
        replace h := brF hb6 h
        refine v0 (sPk rfl [] rfl rfl) rfl ?_
        refine ve ?_
        refine W2 [0, 5, 6, 19] [] [1005] (l := [(0, .c (.row _ _ _)), (5, .c (.own _ _ _ _)), (6, .c (.int _ _)), (19, .c (.bool false))]) (h := []) (h' := [(1005, ⟨0, 1, v1.map en_i64⟩)]) ⟨⟨_, rfl, enOk_i64.allClosed _ _ v1⟩, trivial⟩ rfl rfl rfl ?_
        refine W_false rfl ?_
        refine W_exit (ex_then (ex_then (ex_hit ?_)))
        refine W_seq ?_
        refine W_regV he rfl ?_
        refine v0 (sM rfl [] rfl) rfl ?_
        refine v0 (sA rfl [] rfl) rfl ?_
        refine ve ?_
        refine W2 [4] [] [1005] (l := [(4, .c (.own _ _ _ _))]) (h := []) (h' := [(1005, ⟨0, 1, v1.map en_i64⟩)]) ⟨⟨_, rfl, enOk_i64.allClosed _ _ v1⟩, trivial⟩ rfl rfl rfl ?_
        obtain rfl := Option.some.inj h
        refine W.weak (wk_row (l := v1) 4 enOk_i64 rfl rfl) ?_
        exact W_ret (r0 rfl rfl)
    | false =>
      replace h := brF hb5 h
      refine v0 (sM rfl [] rfl) rfl ?_
      refine uP rfl rfl rfl rfl ?_
      refine uP rfl rfl rfl rfl ?_
      refine uP rfl rfl rfl rfl ?_
      refine uP rfl rfl rfl rfl ?_
      refine uP rfl rfl rfl rfl ?_
      refine v0 (sPk rfl [] rfl rfl) rfl ?_
      refine ve ?_
      refine W2 [0, 5, 6, 19] [] [1005] (l := [(0, .c (.row _ _ _)), (5, .c (.own _ _ _ _)), (6, .c (.int _ _)), (19, .c (.bool false))]) (h := []) (h' := [(1005, ⟨0, 1, v1.map en_i64⟩)]) ⟨⟨_, rfl, enOk_i64.allClosed _ _ v1⟩, trivial⟩ rfl rfl rfl ?_
      refine W_false rfl ?_
      refine W_exit (ex_then (ex_then (ex_hit ?_)))
      refine W_seq ?_
      refine W_regV he rfl ?_
      refine v0 (sM rfl [] rfl) rfl ?_
      refine v0 (sA rfl [] rfl) rfl ?_
      refine ve ?_
      refine W2 [4] [] [1005] (l := [(4, .c (.own _ _ _ _))]) (h := []) (h' := [(1005, ⟨0, 1, v1.map en_i64⟩)]) ⟨⟨_, rfl, enOk_i64.allClosed _ _ v1⟩, trivial⟩ rfl rfl rfl ?_
      obtain rfl := Option.some.inj h
      refine W.weak (wk_row (l := v1) 4 enOk_i64 rfl rfl) ?_
      exact W_ret (r0 rfl rfl)
theorem ok_impl_KidsOf : FnOk Try.prog 78 := ⟨_, Try.func78, rfl, rfl⟩


/-! ### loop.example/g00499/impl.HandleAt -/
def m_impl_HandleAt (K : Nat) (a0 : List T_impl_Node) (a1 : Int) : Option (T_impl_Handle) := ((m_impl_isSlot K a0 a1).bind fun r1 => (bif r1 then (if (0 : Int) ≤ a1 ∧ a1 < (a0.length : Int) then some (T_impl_Handle.mk a1 ((gt a0 a1).fGen)) else none) else some (T_impl_Handle.mk 0 0)))
set_option maxRecDepth 20000 in
set_option maxHeartbeats 8000000 in
theorem w_impl_HandleAt (K : Nat) (a0 : List T_impl_Node) (a1 : Int) (r : T_impl_Handle) (h : m_impl_HandleAt K a0 a1 = some r) : Sp Try.prog 79 [.c (.row false 13 (a0.map en_impl_Node)), .c (.int .i64 a1)] [] (.g [.int .i64 r.fSlot, .int .i64 r.fGen]) [] := by
  refine Sp.of_W tabOk Try.func79 rfl rfl (Nat.le_of_ble_eq_true rfl) (Nat.le_of_ble_eq_true rfl) fun F hP hN hm => ?_
  obtain ⟨P, N, w0, σ0, β0, m⟩ := F
  obtain rfl : P = Try.prog := hP
  obtain rfl : N = 17 := hN
  obtain rfl : m = 1 := hm
  have he : Env ⟨Try.prog, 17, w0, σ0, β0, 1⟩ tab := ⟨Nat.le_of_ble_eq_true rfl, tabOk⟩
  unfold m_impl_HandleAt at h
  refine W_seq ?_
  refine W_regV he rfl ?_
  refine v0 (sAl rfl rfl 101 rfl) rfl ?_
  refine ve ?_
  refine W2 [0, 1, 4] [101] [] (l := [(0, .c (.row _ _ _)), (1, .c (.int _ _)), (4, .c (.ptr _ _ _ _))]) (h := [(101, ⟨0, 2, [[.int _ _, .int _ _]]⟩)]) (h' := []) trivial rfl rfl rfl ?_
  refine W_seq ?_
  refine W_seq ?_
  refine W_regV he rfl ?_
  refine v0 (sM rfl [] rfl) rfl ?_
  refine v0 (sM rfl [] rfl) rfl ?_
  refine bndc h ?_; clear h; intro r1 hr1 h
  refine vB (sCm (w_impl_isSlot K a0 a1 _ hr1) ok_impl_isSlot rfl rfl rfl rfl) rfl rfl fun b2 hb2 => ?_
  cases b2 with
  | true =>
    replace h := brT hb2 h
    refine v0 (sNt rfl rfl) rfl ?_
    refine ve ?_
    refine W2 [0, 1, 4, 8] [101] [] (l := [(0, .c (.row _ _ _)), (1, .c (.int _ _)), (4, .c (.ptr _ _ _ _)), (8, .c (.bool false))]) (h := [(101, ⟨0, 2, [[.int _ _, .int _ _]]⟩)]) (h' := []) trivial rfl rfl rfl ?_
    refine W_false rfl ?_
    refine W_skip ?_
    refine W_seq ?_
    refine W_regV he rfl ?_
    refine v0 (sM rfl [] rfl) rfl ?_
    refine v0 (sM rfl [] rfl) rfl ?_
    refine v0 (sM rfl [] rfl) rfl ?_
    refine chkc h ?_; clear h; intro c3 h
    refine v0 (sIRm rfl rfl rfl rfl c3) rfl ?_
    refine v0 (sFI rfl rfl rfl) rfl ?_
    refine v0 (sLI rfl rfl (en_impl_Node (gt a0 a1)) (gt_at _ c3) rfl rfl rfl) rfl ?_
    refine v0 (sBd rfl [[], []] (out := [.int .i64 a1, .int .i64 ((gt a0 a1).fGen)]) rfl (by kernel_rfl)) rfl ?_
    refine v0 (sSt rfl rfl [] rfl rfl) rfl ?_
    refine ve ?_
    refine W2 [4] [101] [] (l := [(4, .c (.ptr _ _ _ _))]) (h := [(101, ⟨0, 2, [[.int _ _, .int _ _]]⟩)]) (h' := []) trivial rfl rfl rfl ?_
    obtain rfl := Option.some.inj h
    exact W_ret (r0 rfl rfl)
  | false =>
    replace h := brF hb2 h
    refine v0 (sNt rfl rfl) rfl ?_
    refine ve ?_
    refine W2 [0, 1, 4, 8] [101] [] (l := [(0, .c (.row _ _ _)), (1, .c (.int _ _)), (4, .c (.ptr _ _ _ _)), (8, .c (.bool true))]) (h := [(101, ⟨0, 2, [[.int _ _, .int _ _]]⟩)]) (h' := []) trivial rfl rfl rfl ?_
    refine W_true rfl ?_
    refine W_seq ?_
    refine W_regV he rfl ?_
    refine v0 (sBd rfl [] (out := [.int .i64 0, .int .i64 0]) rfl (by kernel_rfl)) rfl ?_
    refine v0 (sSt rfl rfl [] rfl rfl) rfl ?_
    refine ve ?_
    refine W2 [4] [101] [] (l := [(4, .c (.ptr _ _ _ _))]) (h := [(101, ⟨0, 2, [[.int _ _, .int _ _]]⟩)]) (h' := []) trivial rfl rfl rfl ?_
    obtain rfl := Option.some.inj h
    exact W_ret (r0 rfl rfl)
theorem ok_impl_HandleAt : FnOk Try.prog 79 := ⟨_, Try.func79, rfl, rfl⟩


/-! ### loop.example/g00499/impl.KidsIn -/
def l_impl_KidsIn_7 (K : Nat) (a0 : T_impl_World) (r4 : (List Int)) : Nat → (List T_impl_Handle) → Int → Option ((List T_impl_Handle))
  | 0, _, _ => none
  | n7 + 1, v5, v6 => (bif (decide (v6 < (r4.length : Int))) then (if (0 : Int) ≤ v6 ∧ v6 < (r4.length : Int) then ((m_impl_HandleAt K a0.fL (gt r4 v6)).bind fun r10 => (if (v5 ++ ([r10] : List T_impl_Handle)).length * 16 ≤ 140737488355328 ∧ (v5 ++ ([r10] : List T_impl_Handle)).length ≤ maxLen then (l_impl_KidsIn_7 K a0 r4 n7 (v5 ++ ([r10] : List T_impl_Handle)) (iAdd .i64 v6 1)) else none)) else none) else some v5)
def m_impl_KidsIn (K : Nat) (a0 : T_impl_World) (a1 : T_impl_Handle) : Option ((List T_impl_Handle)) := ((m_impl_FindRoom K a0 a1).bind fun r1 => (bif (r1.2 != 0) then some ([] : List T_impl_Handle) else (if (0 : Int) ≤ r1.1 ∧ r1.1 < (a0.fL.length : Int) then ((m_impl_KidsOf K a0.fL ((gt a0.fL r1.1).fFirst)).bind fun r4 => (l_impl_KidsIn_7 K a0 r4 K ([] : List T_impl_Handle) 0)) else none)))
set_option maxRecDepth 20000 in
set_option maxHeartbeats 8000000 in
theorem w_impl_KidsIn (K : Nat) (a0 : T_impl_World) (a1 : T_impl_Handle) (r : (List T_impl_Handle)) (h : m_impl_KidsIn K a0 a1 = some r) : Sp Try.prog 36 [.g [.int .i64 a0.fC.fChunks, .int .i64 a0.fC.fSize, .int .i64 a0.fC.fSlots, .int .i64 a0.fC.fTax, .int .i64 a0.fC.fSlice, .int .i64 a0.fC.fGens, .row false 1 (a0.fP.fMem.map en_u8), .row false 1 (a0.fP.fSt.map en_i64), .row false 1 (a0.fP.fOwn.map en_i64), .row false 13 (a0.fL.map en_impl_Node), .row false 5 (a0.fQ.map en_impl_Waste), .row false 1 (a0.fLog.map en_i64)], .g [.int .i64 a1.fSlot, .int .i64 a1.fGen]] [] (.c (.row false 2 (r.map en_impl_Handle))) [] := by
  refine Sp.of_W tabOk Try.func36 rfl rfl (Nat.le_of_ble_eq_true rfl) (Nat.le_of_ble_eq_true rfl) fun F hP hN hm => ?_
  obtain ⟨P, N, w0, σ0, β0, m⟩ := F
  obtain rfl : P = Try.prog := hP
  obtain rfl : N = 43 := hN
  obtain rfl : m = 1 := hm
  have he : Env ⟨Try.prog, 43, w0, σ0, β0, 1⟩ tab := ⟨Nat.le_of_ble_eq_true rfl, tabOk⟩
  unfold m_impl_KidsIn at h
  refine W_seq ?_
  refine W_regV he rfl ?_
  refine v0 (sBx rfl [] rfl rfl 101 rfl) rfl ?_
  refine v0 (sBx rfl [] rfl rfl 102 rfl) rfl ?_
  refine v0 (sA rfl [2] rfl) rfl ?_
  refine ve ?_
  refine W2 [2, 3] [101, 102] [] (l := [(2, .c (.ptr _ _ _ _)), (3, .c (.ptr _ _ _ _))]) (h := [(101, ⟨0, 12, [[.int _ _, .int _ _, .int _ _, .int _ _, .int _ _, .int _ _, .row _ _ _, .row _ _ _, .row _ _ _, .row _ _ _, .row _ _ _, .row _ _ _]]⟩), (102, ⟨0, 2, [[.int _ _, .int _ _]]⟩)]) (h' := []) trivial rfl rfl rfl ?_
  refine W_seq ?_
  refine W_regV he rfl ?_
  refine v0 (sBS rfl 1005 (rows := ([] : List T_impl_Handle).map en_impl_Handle) rfl rfl rfl (by kernel_rfl) rfl rfl rfl rfl) rfl ?_
  refine v0 (sA rfl [] rfl) rfl ?_
  refine ve ?_
  refine W2 [2, 3, 5] [101, 102] [1005] (l := [(2, .c (.ptr _ _ _ _)), (3, .c (.ptr _ _ _ _)), (5, .c (.own _ _ _ _))]) (h := [(101, ⟨0, 12, [[.int _ _, .int _ _, .int _ _, .int _ _, .int _ _, .int _ _, .row _ _ _, .row _ _ _, .row _ _ _, .row _ _ _, .row _ _ _, .row _ _ _]]⟩), (102, ⟨0, 2, [[.int _ _, .int _ _]]⟩)]) (h' := [(1005, ⟨0, 2, ([] : List T_impl_Handle).map en_impl_Handle⟩)]) ⟨⟨_, rfl, enOk_impl_Handle.allClosed _ _ ([] : List T_impl_Handle)⟩, trivial⟩ rfl rfl rfl ?_
  refine W_seq ?_
  refine W_regV he rfl ?_
  refine v0 (sLd rfl rfl) rfl ?_
  refine v0 (sLd rfl rfl) rfl ?_
  refine bndc h ?_; clear h; intro r1 hr1 h
  refine v0 (sCm (w_impl_FindRoom K a0 a1 _ hr1) ok_impl_FindRoom rfl rfl rfl rfl) rfl ?_
  refine v0 (sM rfl [] rfl) rfl ?_
  refine v0 (sEx rfl rfl rfl) rfl ?_
  refine v0 (sEx rfl rfl rfl) rfl ?_
  refine v0 (sA rfl [] rfl) rfl ?_
  refine v0 (sA rfl [] rfl) rfl ?_
  refine ve ?_
  refine W2 [2, 5, 6, 7] [101] [1005] (l := [(2, .c (.ptr _ _ _ _)), (5, .c (.own _ _ _ _)), (6, .c (.int _ _)), (7, .c (.int _ _))]) (h := [(101, ⟨0, 12, [[.int _ _, .int _ _, .int _ _, .int _ _, .int _ _, .int _ _, .row _ _ _, .row _ _ _, .row _ _ _, .row _ _ _, .row _ _ _, .row _ _ _]]⟩)]) (h' := [(1005, ⟨0, 2, ([] : List T_impl_Handle).map en_impl_Handle⟩)]) ⟨⟨_, rfl, enOk_impl_Handle.allClosed _ _ ([] : List T_impl_Handle)⟩, trivial⟩ rfl rfl rfl ?_
  refine W_seq ?_
  refine W_seq ?_
  refine W_regV he rfl ?_
  refine v0 (sM rfl [] rfl) rfl ?_
  refine vB (sBi rfl rfl rfl rfl) rfl rfl fun b2 hb2 => ?_
  cases b2 with
  | true =>
    replace h := brT hb2 h
    refine ve ?_
    refine W2 [2, 5, 6, 18] [101] [1005] (l := [(2, .c (.ptr _ _ _ _)), (5, .c (.own _ _ _ _)), (6, .c (.int _ _)), (18, .c (.bool true))]) (h := [(101, ⟨0, 12, [[.int _ _, .int _ _, .int _ _, .int _ _, .int _ _, .int _ _, .row _ _ _, .row _ _ _, .row _ _ _, .row _ _ _, .row _ _ _, .row _ _ _]]⟩)]) (h' := [(1005, ⟨0, 2, ([] : List T_impl_Handle).map en_impl_Handle⟩)]) ⟨⟨_, rfl, enOk_impl_Handle.allClosed _ _ ([] : List T_impl_Handle)⟩, trivial⟩ rfl rfl rfl ?_
    refine W_true rfl ?_
    refine W_seq ?_
    refine W_regV he rfl ?_
    refine v0 (sM rfl [] rfl) rfl ?_
    refine v0 (sA rfl [] rfl) rfl ?_
    refine ve ?_
    refine W2 [4] [] [1005] (l := [(4, .c (.own _ _ _ _))]) (h := []) (h' := [(1005, ⟨0, 2, ([] : List T_impl_Handle).map en_impl_Handle⟩)]) ⟨⟨_, rfl, enOk_impl_Handle.allClosed _ _ ([] : List T_impl_Handle)⟩, trivial⟩ rfl rfl rfl ?_
    obtain rfl := Option.some.inj h
    refine W.weak (wk_row (l := ([] : List T_impl_Handle)) 4 enOk_impl_Handle rfl rfl) ?_
    exact W_ret (r0 rfl rfl)
  | false =>
    replace h := brF hb2 h
    refine ve ?_
    refine W2 [2, 5, 6, 18] [101] [1005] (l := [(2, .c (.ptr _ _ _ _)), (5, .c (.own _ _ _ _)), (6, .c (.int _ _)), (18, .c (.bool false))]) (h := [(101, ⟨0, 12, [[.int _ _, .int _ _, .int _ _, .int _ _, .int _ _, .int _ _, .row _ _ _, .row _ _ _, .row _ _ _, .row _ _ _, .row _ _ _, .row _ _ _]]⟩)]) (h' := [(1005, ⟨0, 2, ([] : List T_impl_Handle).map en_impl_Handle⟩)]) ⟨⟨_, rfl, enOk_impl_Handle.allClosed _ _ ([] : List T_impl_Handle)⟩, trivial⟩ rfl rfl rfl ?_
    refine W_false rfl ?_
    refine W_skip ?_
    refine W_seq ?_
    refine W_seq ?_
    refine W_regD he rfl rfl rfl ?_
    refine g0 (sFP rfl rfl rfl) rfl ?_
    refine g0 (sLd rfl rfl) rfl ?_
    refine g0 (sFP rfl rfl rfl) rfl ?_
    refine g0 (sLd rfl rfl) rfl ?_
    refine g0 (sM rfl [] rfl) rfl ?_
    refine chkc h ?_; clear h; intro c3 h
    refine g0 (sIRm rfl rfl rfl rfl c3) rfl ?_
    refine g0 (sFI rfl rfl rfl) rfl ?_
    refine g0 (sLI rfl rfl (en_impl_Node (gt a0.fL r1.1)) (gt_at _ c3) rfl rfl rfl) rfl ?_
    refine bndc h ?_; clear h; intro r4 hr4 h
    refine g0 (sCm (w_impl_KidsOf K a0.fL ((gt a0.fL r1.1).fFirst) _ hr4) ok_impl_KidsOf rfl rfl rfl rfl) rfl ?_
    refine g0 (sLm rfl rfl rfl rfl) rfl ?_
    refine g0 (sM rfl [] rfl) rfl ?_
    refine ge ⟨rfl, ?_⟩
    refine W2 [2, 5, 28, 29, 30] [101] [1005] (l := [(2, .c (.ptr _ _ _ _)), (5, .c (.own _ _ _ _)), (28, .c (.row _ _ _)), (29, .c (.int _ _)), (30, .c (.int _ _))]) (h := [(101, ⟨0, 12, [[.int _ _, .int _ _, .int _ _, .int _ _, .int _ _, .int _ _, .row _ _ _, .row _ _ _, .row _ _ _, .row _ _ _, .row _ _ _, .row _ _ _]]⟩)]) (h' := [(1005, ⟨0, 2, ([] : List T_impl_Handle).map en_impl_Handle⟩)]) ⟨⟨_, rfl, enOk_impl_Handle.allClosed _ _ ([] : List T_impl_Handle)⟩, trivial⟩ rfl rfl rfl ?_
    refine W_block ?_
    refine W2 [2, 5, 28, 29, 30] [101] [1005] (l := [(2, .c (.ptr _ _ _ _)), (5, .c (.own _ _ _ _)), (28, .c (.row _ _ _)), (29, .c (.int _ _)), (30, .c (.int _ _))]) (h := [(101, ⟨0, 12, [[.int _ _, .int _ _, .int _ _, .int _ _, .int _ _, .int _ _, .row _ _ _, .row _ _ _, .row _ _ _, .row _ _ _, .row _ _ _, .row _ _ _]]⟩)]) (h' := [(1005, ⟨0, 2, ([] : List T_impl_Handle).map en_impl_Handle⟩)]) ⟨⟨_, rfl, enOk_impl_Handle.allClosed _ _ ([] : List T_impl_Handle)⟩, trivial⟩ rfl rfl rfl ?_
    refine W_loopW (fun n7 S => ∃ (v5 : List T_impl_Handle), ∃ (v6 : Int), S = StL [(2, .c (.ptr 101 0 0 0)), (5, .c (.own 1005 0 0 v5.length)), (28, .c (.row false 1 (r4.map en_i64))), (29, .c (.int .i64 (r4.length : Int))), (30, .c (.int .i64 v6))] ([(101, ⟨0, 12, [[.int .i64 a0.fC.fChunks, .int .i64 a0.fC.fSize, .int .i64 a0.fC.fSlots, .int .i64 a0.fC.fTax, .int .i64 a0.fC.fSlice, .int .i64 a0.fC.fGens, .row false 1 (a0.fP.fMem.map en_u8), .row false 1 (a0.fP.fSt.map en_i64), .row false 1 (a0.fP.fOwn.map en_i64), .row false 13 (a0.fL.map en_impl_Node), .row false 5 (a0.fQ.map en_impl_Waste), .row false 1 (a0.fLog.map en_i64)]]⟩)] ++ [(1005, ⟨0, 2, v5.map en_impl_Handle⟩)]) ∧ l_impl_KidsIn_7 K a0 r4 n7 v5 v6 = some r) K ⟨_, _, rfl, h⟩ ?_
    rintro n7 S ⟨v5, v6, rfl, h⟩
    cases n7 with
    | zero => simp [l_impl_KidsIn_7] at h
    | succ n7 =>
      rw [l_impl_KidsIn_7] at h
      refine W_seq ?_
      refine W_regV he rfl ?_
      refine vB (sBi rfl rfl rfl rfl) rfl rfl fun b8 hb8 => ?_
      cases b8 with
      | true =>
        replace h := brT hb8 h
        refine ve ?_
        refine W2 [2, 5, 28, 29, 30, 31] [101] [1005] (l := [(2, .c (.ptr _ _ _ _)), (5, .c (.own _ _ _ _)), (28, .c (.row _ _ _)), (29, .c (.int _ _)), (30, .c (.int _ _)), (31, .c (.bool true))]) (h := [(101, ⟨0, 12, [[.int _ _, .int _ _, .int _ _, .int _ _, .int _ _, .int _ _, .row _ _ _, .row _ _ _, .row _ _ _, .row _ _ _, .row _ _ _, .row _ _ _]]⟩)]) (h' := [(1005, ⟨0, 2, v5.map en_impl_Handle⟩)]) ⟨⟨_, rfl, enOk_impl_Handle.allClosed _ _ v5⟩, trivial⟩ rfl rfl rfl ?_
        refine W_seq ?_
        refine W_true rfl ?_
        refine W_skip ?_
        refine W_seq ?_
        refine W_block ?_
        refine W_seq ?_
        refine W_regV he rfl ?_
        refine chkc h ?_; clear h; intro c9 h
        refine v0 (sIRm rfl rfl rfl rfl c9) rfl ?_
        refine v0 (sLI rfl rfl (en_i64 (gt r4 v6)) (gt_at _ c9) rfl rfl rfl) rfl ?_
        refine v0 (sA rfl [] rfl) rfl ?_
        refine ve ?_
        refine W2 [2, 5, 9, 28, 29, 30] [101] [1005] (l := [(2, .c (.ptr _ _ _ _)), (5, .c (.own _ _ _ _)), (9, .c (.int _ _)), (28, .c (.row _ _ _)), (29, .c (.int _ _)), (30, .c (.int _ _))]) (h := [(101, ⟨0, 12, [[.int _ _, .int _ _, .int _ _, .int _ _, .int _ _, .int _ _, .row _ _ _, .row _ _ _, .row _ _ _, .row _ _ _, .row _ _ _, .row _ _ _]]⟩)]) (h' := [(1005, ⟨0, 2, v5.map en_impl_Handle⟩)]) ⟨⟨_, rfl, enOk_impl_Handle.allClosed _ _ v5⟩, trivial⟩ rfl rfl rfl ?_
        refine W_regV he rfl ?_
        refine v0 (sM rfl [] rfl) rfl ?_
        refine v0 (sFP rfl rfl rfl) rfl ?_
        refine v0 (sLd rfl rfl) rfl ?_
        refine v0 (sM rfl [] rfl) rfl ?_
        refine bndc h ?_; clear h; intro r10 hr10 h
        refine v0 (sCm (w_impl_HandleAt K a0.fL (gt r4 v6) _ hr10) ok_impl_HandleAt rfl rfl rfl rfl) rfl ?_
        refine v0 (sBS rfl 1039 (rows := ([r10] : List T_impl_Handle).map en_impl_Handle) rfl rfl rfl (by kernel_rfl) rfl rfl rfl rfl) rfl ?_
        refine chkc h ?_; clear h; intro c11 h
        refine v0 (sAo rfl 1005 v5 ([r10] : List T_impl_Handle) enOk_impl_Handle rfl rfl rfl rfl rfl rfl rfl rfl rfl rfl rfl c11) rfl ?_
        refine v0 (sA rfl [] rfl) rfl ?_
        refine ve ?_
        refine W2 [2, 5, 28, 29, 30] [101] [1005] (l := [(2, .c (.ptr _ _ _ _)), (5, .c (.own _ _ _ _)), (28, .c (.row _ _ _)), (29, .c (.int _ _)), (30, .c (.int _ _))]) (h := [(101, ⟨0, 12, [[.int _ _, .int _ _, .int _ _, .int _ _, .int _ _, .int _ _, .row _ _ _, .row _ _ _, .row _ _ _, .row _ _ _, .row _ _ _, .row _ _ _]]⟩)]) (h' := [(1005, ⟨0, 2, (v5 ++ ([r10] : List T_impl_Handle)).map en_impl_Handle⟩)]) ⟨⟨_, rfl, enOk_impl_Handle.allClosed _ _ (v5 ++ ([r10] : List T_impl_Handle))⟩, trivial⟩ rfl rfl rfl ?_
        refine W_regV he rfl ?_
        refine v0 (sBi rfl rfl rfl rfl) rfl ?_
        refine v0 (sM rfl [] rfl) rfl ?_
        refine ve ?_
        exact ⟨n7, _, Nat.lt_succ_self n7, wk2 [2, 5, 28, 29, 30] [101] [1005] (l := [(2, .c (.ptr _ _ _ _)), (5, .c (.own _ _ _ _)), (28, .c (.row _ _ _)), (29, .c (.int _ _)), (30, .c (.int _ _))]) (h := [(101, ⟨0, 12, [[.int _ _, .int _ _, .int _ _, .int _ _, .int _ _, .int _ _, .row _ _ _, .row _ _ _, .row _ _ _, .row _ _ _, .row _ _ _, .row _ _ _]]⟩)]) (h' := [(1005, ⟨0, 2, (v5 ++ ([r10] : List T_impl_Handle)).map en_impl_Handle⟩)]) ⟨⟨_, rfl, enOk_impl_Handle.allClosed _ _ (v5 ++ ([r10] : List T_impl_Handle))⟩, trivial⟩ rfl rfl rfl, _, _, rfl, h⟩
      | false =>
        replace h := brF hb8 h
        refine ve ?_
        refine W2 [2, 5, 28, 29, 30, 31] [101] [1005] (l := [(2, .c (.ptr _ _ _ _)), (5, .c (.own _ _ _ _)), (28, .c (.row _ _ _)), (29, .c (.int _ _)), (30, .c (.int _ _)), (31, .c (.bool false))]) (h := [(101, ⟨0, 12, [[.int _ _, .int _ _, .int _ _, .int _ _, .int _ _, .int _ _, .row _ _ _, .row _ _ _, .row _ _ _, .row _ _ _, .row _ _ _, .row _ _ _]]⟩)]) (h' := [(1005, ⟨0, 2, v5.map en_impl_Handle⟩)]) ⟨⟨_, rfl, enOk_impl_Handle.allClosed _ _ v5⟩, trivial⟩ rfl rfl rfl ?_
        refine W_seq ?_
        refine W_false rfl ?_
        refine W_exit (ex_then (ex_then (ex_hit ?_)))
        refine W_seq ?_
        refine W_regV he rfl ?_
        refine v0 (sM rfl [] rfl) rfl ?_
        refine v0 (sA rfl [] rfl) rfl ?_
        refine ve ?_
        refine W2 [4] [] [1005] (l := [(4, .c (.own _ _ _ _))]) (h := []) (h' := [(1005, ⟨0, 2, v5.map en_impl_Handle⟩)]) ⟨⟨_, rfl, enOk_impl_Handle.allClosed _ _ v5⟩, trivial⟩ rfl rfl rfl ?_
        obtain rfl := Option.some.inj h
        refine W.weak (wk_row (l := v5) 4 enOk_impl_Handle rfl rfl) ?_
        exact W_ret (r0 rfl rfl)
theorem ok_impl_KidsIn : FnOk Try.prog 36 := ⟨_, Try.func36, rfl, rfl⟩


/-! ### loop.example/g00499/impl.KidsIn -/
set_option maxRecDepth 20000 in
set_option maxHeartbeats 8000000 in
theorem wo_impl_KidsIn (K : Nat) (a0 : T_impl_World) (a1 : T_impl_Handle) (r : (List T_impl_Handle)) (h : m_impl_KidsIn K a0 a1 = some r) : Sp Try.prog 36 [.g [.int .i64 a0.fC.fChunks, .int .i64 a0.fC.fSize, .int .i64 a0.fC.fSlots, .int .i64 a0.fC.fTax, .int .i64 a0.fC.fSlice, .int .i64 a0.fC.fGens, .row false 1 (a0.fP.fMem.map en_u8), .row false 1 (a0.fP.fSt.map en_i64), .row false 1 (a0.fP.fOwn.map en_i64), .row false 13 (a0.fL.map en_impl_Node), .row false 5 (a0.fQ.map en_impl_Waste), .row false 1 (a0.fLog.map en_i64)], .g [.int .i64 a1.fSlot, .int .i64 a1.fGen]] [] (.c (.own 1 0 0 r.length)) [⟨0, 2, r.map en_impl_Handle⟩] := by
  refine Sp.of_W tabOk Try.func36 rfl rfl (Nat.le_of_ble_eq_true rfl) (Nat.le_of_ble_eq_true rfl) fun F hP hN hm => ?_
  obtain ⟨P, N, w0, σ0, β0, m⟩ := F
  obtain rfl : P = Try.prog := hP
  obtain rfl : N = 43 := hN
  obtain rfl : m = 1 := hm
  have he : Env ⟨Try.prog, 43, w0, σ0, β0, 1⟩ tab := ⟨Nat.le_of_ble_eq_true rfl, tabOk⟩
  unfold m_impl_KidsIn at h
  refine W_seq ?_
  refine W_regV he rfl ?_
  refine v0 (sBx rfl [] rfl rfl 101 rfl) rfl ?_
  refine v0 (sBx rfl [] rfl rfl 102 rfl) rfl ?_
  refine v0 (sA rfl [2] rfl) rfl ?_
  refine ve ?_
  refine W2 [2, 3] [101, 102] [] (l := [(2, .c (.ptr _ _ _ _)), (3, .c (.ptr _ _ _ _))]) (h := [(101, ⟨0, 12, [[.int _ _, .int _ _, .int _ _, .int _ _, .int _ _, .int _ _, .row _ _ _, .row _ _ _, .row _ _ _, .row _ _ _, .row _ _ _, .row _ _ _]]⟩), (102, ⟨0, 2, [[.int _ _, .int _ _]]⟩)]) (h' := []) trivial rfl rfl rfl ?_
  refine W_seq ?_
  refine W_regV he rfl ?_
  refine v0 (sBS rfl 1005 (rows := ([] : List T_impl_Handle).map en_impl_Handle) rfl rfl rfl (by kernel_rfl) rfl rfl rfl rfl) rfl ?_
  refine v0 (sA rfl [] rfl) rfl ?_
  refine ve ?_
  refine W2 [2, 3, 5] [101, 102] [1005] (l := [(2, .c (.ptr _ _ _ _)), (3, .c (.ptr _ _ _ _)), (5, .c (.own _ _ _ _))]) (h := [(101, ⟨0, 12, [[.int _ _, .int _ _, .int _ _, .int _ _, .int _ _, .int _ _, .row _ _ _, .row _ _ _, .row _ _ _, .row _ _ _, .row _ _ _, .row _ _ _]]⟩), (102, ⟨0, 2, [[.int _ _, .int _ _]]⟩)]) (h' := [(1005, ⟨0, 2, ([] : List T_impl_Handle).map en_impl_Handle⟩)]) ⟨⟨_, rfl, enOk_impl_Handle.allClosed _ _ ([] : List T_impl_Handle)⟩, trivial⟩ rfl rfl rfl ?_
  refine W_seq ?_
  refine W_regV he rfl ?_
  refine v0 (sLd rfl rfl) rfl ?_
  refine v0 (sLd rfl rfl) rfl ?_
  refine bndc h ?_; clear h; intro r1 hr1 h
  refine v0 (sCm (w_impl_FindRoom K a0 a1 _ hr1) ok_impl_FindRoom rfl rfl rfl rfl) rfl ?_
  refine v0 (sM rfl [] rfl) rfl ?_
  refine v0 (sEx rfl rfl rfl) rfl ?_
  refine v0 (sEx rfl rfl rfl) rfl ?_
  refine v0 (sA rfl [] rfl) rfl ?_
  refine v0 (sA rfl [] rfl) rfl ?_
  refine ve ?_
  refine W2 [2, 5, 6, 7] [101] [1005] (l := [(2, .c (.ptr _ _ _ _)), (5, .c (.own _ _ _ _)), (6, .c (.int _ _)), (7, .c (.int _ _))]) (h := [(101, ⟨0, 12, [[.int _ _, .int _ _, .int _ _, .int _ _, .int _ _, .int _ _, .row _ _ _, .row _ _ _, .row _ _ _, .row _ _ _, .row _ _ _, .row _ _ _]]⟩)]) (h' := [(1005, ⟨0, 2, ([] : List T_impl_Handle).map en_impl_Handle⟩)]) ⟨⟨_, rfl, enOk_impl_Handle.allClosed _ _ ([] : List T_impl_Handle)⟩, trivial⟩ rfl rfl rfl ?_
  refine W_seq ?_
  refine W_seq ?_
  refine W_regV he rfl ?_
  refine v0 (sM rfl [] rfl) rfl ?_
  refine vB (sBi rfl rfl rfl rfl) rfl rfl fun b2 hb2 => ?_
  cases b2 with
  | true =>
    replace h := brT hb2 h
    refine ve ?_
    refine W2 [2, 5, 6, 18] [101] [1005] (l := [(2, .c (.ptr _ _ _ _)), (5, .c (.own _ _ _ _)), (6, .c (.int _ _)), (18, .c (.bool true))]) (h := [(101, ⟨0, 12, [[.int _ _, .int _ _, .int _ _, .int _ _, .int _ _, .int _ _, .row _ _ _, .row _ _ _, .row _ _ _, .row _ _ _, .row _ _ _, .row _ _ _]]⟩)]) (h' := [(1005, ⟨0, 2, ([] : List T_impl_Handle).map en_impl_Handle⟩)]) ⟨⟨_, rfl, enOk_impl_Handle.allClosed _ _ ([] : List T_impl_Handle)⟩, trivial⟩ rfl rfl rfl ?_
    refine W_true rfl ?_
    refine W_seq ?_
    refine W_regV he rfl ?_
    refine v0 (sM rfl [] rfl) rfl ?_
    refine v0 (sA rfl [] rfl) rfl ?_
    refine ve ?_
    refine W2 [4] [] [1005] (l := [(4, .c (.own _ _ _ _))]) (h := []) (h' := [(1005, ⟨0, 2, ([] : List T_impl_Handle).map en_impl_Handle⟩)]) ⟨⟨_, rfl, enOk_impl_Handle.allClosed _ _ ([] : List T_impl_Handle)⟩, trivial⟩ rfl rfl rfl ?_
    obtain rfl := Option.some.inj h
    exact W_ret (retOne 0 1005 (.inl rfl) enOk_impl_Handle rfl rfl rfl)
  | false =>
    replace h := brF hb2 h
    refine ve ?_
    refine W2 [2, 5, 6, 18] [101] [1005] (l := [(2, .c (.ptr _ _ _ _)), (5, .c (.own _ _ _ _)), (6, .c (.int _ _)), (18, .c (.bool false))]) (h := [(101, ⟨0, 12, [[.int _ _, .int _ _, .int _ _, .int _ _, .int _ _, .int _ _, .row _ _ _, .row _ _ _, .row _ _ _, .row _ _ _, .row _ _ _, .row _ _ _]]⟩)]) (h' := [(1005, ⟨0, 2, ([] : List T_impl_Handle).map en_impl_Handle⟩)]) ⟨⟨_, rfl, enOk_impl_Handle.allClosed _ _ ([] : List T_impl_Handle)⟩, trivial⟩ rfl rfl rfl ?_
    refine W_false rfl ?_
    refine W_skip ?_
    refine W_seq ?_
    refine W_seq ?_
    refine W_regD he rfl rfl rfl ?_
    refine g0 (sFP rfl rfl rfl) rfl ?_
    refine g0 (sLd rfl rfl) rfl ?_
    refine g0 (sFP rfl rfl rfl) rfl ?_
    refine g0 (sLd rfl rfl) rfl ?_
    refine g0 (sM rfl [] rfl) rfl ?_
    refine chkc h ?_; clear h; intro c3 h
    refine g0 (sIRm rfl rfl rfl rfl c3) rfl ?_
    refine g0 (sFI rfl rfl rfl) rfl ?_
    refine g0 (sLI rfl rfl (en_impl_Node (gt a0.fL r1.1)) (gt_at _ c3) rfl rfl rfl) rfl ?_
    refine bndc h ?_; clear h; intro r4 hr4 h
    refine g0 (sCm (w_impl_KidsOf K a0.fL ((gt a0.fL r1.1).fFirst) _ hr4) ok_impl_KidsOf rfl rfl rfl rfl) rfl ?_
    refine g0 (sLm rfl rfl rfl rfl) rfl ?_
    refine g0 (sM rfl [] rfl) rfl ?_
    refine ge ⟨rfl, ?_⟩
    refine W2 [2, 5, 28, 29, 30] [101] [1005] (l := [(2, .c (.ptr _ _ _ _)), (5, .c (.own _ _ _ _)), (28, .c (.row _ _ _)), (29, .c (.int _ _)), (30, .c (.int _ _))]) (h := [(101, ⟨0, 12, [[.int _ _, .int _ _, .int _ _, .int _ _, .int _ _, .int _ _, .row _ _ _, .row _ _ _, .row _ _ _, .row _ _ _, .row _ _ _, .row _ _ _]]⟩)]) (h' := [(1005, ⟨0, 2, ([] : List T_impl_Handle).map en_impl_Handle⟩)]) ⟨⟨_, rfl, enOk_impl_Handle.allClosed _ _ ([] : List T_impl_Handle)⟩, trivial⟩ rfl rfl rfl ?_
    refine W_block ?_
    refine W2 [2, 5, 28, 29, 30] [101] [1005] (l := [(2, .c (.ptr _ _ _ _)), (5, .c (.own _ _ _ _)), (28, .c (.row _ _ _)), (29, .c (.int _ _)), (30, .c (.int _ _))]) (h := [(101, ⟨0, 12, [[.int _ _, .int _ _, .int _ _, .int _ _, .int _ _, .int _ _, .row _ _ _, .row _ _ _, .row _ _ _, .row _ _ _, .row _ _ _, .row _ _ _]]⟩)]) (h' := [(1005, ⟨0, 2, ([] : List T_impl_Handle).map en_impl_Handle⟩)]) ⟨⟨_, rfl, enOk_impl_Handle.allClosed _ _ ([] : List T_impl_Handle)⟩, trivial⟩ rfl rfl rfl ?_
    refine W_loopW (fun n7 S => ∃ (v5 : List T_impl_Handle), ∃ (v6 : Int), S = StL [(2, .c (.ptr 101 0 0 0)), (5, .c (.own 1005 0 0 v5.length)), (28, .c (.row false 1 (r4.map en_i64))), (29, .c (.int .i64 (r4.length : Int))), (30, .c (.int .i64 v6))] ([(101, ⟨0, 12, [[.int .i64 a0.fC.fChunks, .int .i64 a0.fC.fSize, .int .i64 a0.fC.fSlots, .int .i64 a0.fC.fTax, .int .i64 a0.fC.fSlice, .int .i64 a0.fC.fGens, .row false 1 (a0.fP.fMem.map en_u8), .row false 1 (a0.fP.fSt.map en_i64), .row false 1 (a0.fP.fOwn.map en_i64), .row false 13 (a0.fL.map en_impl_Node), .row false 5 (a0.fQ.map en_impl_Waste), .row false 1 (a0.fLog.map en_i64)]]⟩)] ++ [(1005, ⟨0, 2, v5.map en_impl_Handle⟩)]) ∧ l_impl_KidsIn_7 K a0 r4 n7 v5 v6 = some r) K ⟨_, _, rfl, h⟩ ?_
    rintro n7 S ⟨v5, v6, rfl, h⟩
    cases n7 with
    | zero => simp [l_impl_KidsIn_7] at h
    | succ n7 =>
      rw [l_impl_KidsIn_7] at h
      refine W_seq ?_
      refine W_regV he rfl ?_
      refine vB (sBi rfl rfl rfl rfl) rfl rfl fun b8 hb8 => ?_
      cases b8 with
      | true =>
        replace h := brT hb8 h
        refine ve ?_
        refine W2 [2, 5, 28, 29, 30, 31] [101] [1005] (l := [(2, .c (.ptr _ _ _ _)), (5, .c (.own _ _ _ _)), (28, .c (.row _ _ _)), (29, .c (.int _ _)), (30, .c (.int _ _)), (31, .c (.bool true))]) (h := [(101, ⟨0, 12, [[.int _ _, .int _ _, .int _ _, .int _ _, .int _ _, .int _ _, .row _ _ _, .row _ _ _, .row _ _ _, .row _ _ _, .row _ _ _, .row _ _ _]]⟩)]) (h' := [(1005, ⟨0, 2, v5.map en_impl_Handle⟩)]) ⟨⟨_, rfl, enOk_impl_Handle.allClosed _ _ v5⟩, trivial⟩ rfl rfl rfl ?_
        refine W_seq ?_
        refine W_true rfl ?_
        refine W_skip ?_
        refine W_seq ?_
        refine W_block ?_
        refine W_seq ?_
        refine W_regV he rfl ?_
        refine chkc h ?_; clear h; intro c9 h
        refine v0 (sIRm rfl rfl rfl rfl c9) rfl ?_
        refine v0 (sLI rfl rfl (en_i64 (gt r4 v6)) (gt_at _ c9) rfl rfl rfl) rfl ?_
        refine v0 (sA rfl [] rfl) rfl ?_
        refine ve ?_
        refine W2 [2, 5, 9, 28, 29, 30] [101] [1005] (l := [(2, .c (.ptr _ _ _ _)), (5, .c (.own _ _ _ _)), (9, .c (.int _ _)), (28, .c (.row _ _ _)), (29, .c (.int _ _)), (30, .c (.int _ _))]) (h := [(101, ⟨0, 12, [[.int _ _, .int _ _, .int _ _, .int _ _, .int _ _, .int _ _, .row _ _ _, .row _ _ _, .row _ _ _, .row _ _ _, .row _ _ _, .row _ _ _]]⟩)]) (h' := [(1005, ⟨0, 2, v5.map en_impl_Handle⟩)]) ⟨⟨_, rfl, enOk_impl_Handle.allClosed _ _ v5⟩, trivial⟩ rfl rfl rfl ?_
        refine W_regV he rfl ?_
        refine v0 (sM rfl [] rfl) rfl ?_
        refine v0 (sFP rfl rfl rfl) rfl ?_
        refine v0 (sLd rfl rfl) rfl ?_
        refine v0 (sM rfl [] rfl) rfl ?_
        refine bndc h ?_; clear h; intro r10 hr10 h
        refine v0 (sCm (w_impl_HandleAt K a0.fL (gt r4 v6) _ hr10) ok_impl_HandleAt rfl rfl rfl rfl) rfl ?_
        refine v0 (sBS rfl 1039 (rows := ([r10] : List T_impl_Handle).map en_impl_Handle) rfl rfl rfl (by kernel_rfl) rfl rfl rfl rfl) rfl ?_
        refine chkc h ?_; clear h; intro c11 h
        refine v0 (sAo rfl 1005 v5 ([r10] : List T_impl_Handle) enOk_impl_Handle rfl rfl rfl rfl rfl rfl rfl rfl rfl rfl rfl c11) rfl ?_
        refine v0 (sA rfl [] rfl) rfl ?_
        refine ve ?_
        refine W2 [2, 5, 28, 29, 30] [101] [1005] (l := [(2, .c (.ptr _ _ _ _)), (5, .c (.own _ _ _ _)), (28, .c (.row _ _ _)), (29, .c (.int _ _)), (30, .c (.int _ _))]) (h := [(101, ⟨0, 12, [[.int _ _, .int _ _, .int _ _, .int _ _, .int _ _, .int _ _, .row _ _ _, .row _ _ _, .row _ _ _, .row _ _ _, .row _ _ _, .row _ _ _]]⟩)]) (h' := [(1005, ⟨0, 2, (v5 ++ ([r10] : List T_impl_Handle)).map en_impl_Handle⟩)]) ⟨⟨_, rfl, enOk_impl_Handle.allClosed _ _ (v5 ++ ([r10] : List T_impl_Handle))⟩, trivial⟩ rfl rfl rfl ?_
        refine W_regV he rfl ?_
        refine v0 (sBi rfl rfl rfl rfl) rfl ?_
        refine v0 (sM rfl [] rfl) rfl ?_
        refine ve ?_
        exact ⟨n7, _, Nat.lt_succ_self n7, wk2 [2, 5, 28, 29, 30] [101] [1005] (l := [(2, .c (.ptr _ _ _ _)), (5, .c (.own _ _ _ _)), (28, .c (.row _ _ _)), (29, .c (.int _ _)), (30, .c (.int _ _))]) (h := [(101, ⟨0, 12, [[.int _ _, .int _ _, .int _ _, .int _ _, .int _ _, .int _ _, .row _ _ _, .row _ _ _, .row _ _ _, .row _ _ _, .row _ _ _, .row _ _ _]]⟩)]) (h' := [(1005, ⟨0, 2, (v5 ++ ([r10] : List T_impl_Handle)).map en_impl_Handle⟩)]) ⟨⟨_, rfl, enOk_impl_Handle.allClosed _ _ (v5 ++ ([r10] : List T_impl_Handle))⟩, trivial⟩ rfl rfl rfl, _, _, rfl, h⟩
      | false =>
        replace h := brF hb8 h
        refine ve ?_
        refine W2 [2, 5, 28, 29, 30, 31] [101] [1005] (l := [(2, .c (.ptr _ _ _ _)), (5, .c (.own _ _ _ _)), (28, .c (.row _ _ _)), (29, .c (.int _ _)), (30, .c (.int _ _)), (31, .c (.bool false))]) (h := [(101, ⟨0, 12, [[.int _ _, .int _ _, .int _ _, .int _ _, .int _ _, .int _ _, .row _ _ _, .row _ _ _, .row _ _ _, .row _ _ _, .row _ _ _, .row _ _ _]]⟩)]) (h' := [(1005, ⟨0, 2, v5.map en_impl_Handle⟩)]) ⟨⟨_, rfl, enOk_impl_Handle.allClosed _ _ v5⟩, trivial⟩ rfl rfl rfl ?_
        refine W_seq ?_
        refine W_false rfl ?_
        refine W_exit (ex_then (ex_then (ex_hit ?_)))
        refine W_seq ?_
        refine W_regV he rfl ?_
        refine v0 (sM rfl [] rfl) rfl ?_
        refine v0 (sA rfl [] rfl) rfl ?_
        refine ve ?_
        refine W2 [4] [] [1005] (l := [(4, .c (.own _ _ _ _))]) (h := []) (h' := [(1005, ⟨0, 2, v5.map en_impl_Handle⟩)]) ⟨⟨_, rfl, enOk_impl_Handle.allClosed _ _ v5⟩, trivial⟩ rfl rfl rfl ?_
        obtain rfl := Option.some.inj h
        exact W_ret (retOne 0 1005 (.inl rfl) enOk_impl_Handle rfl rfl rfl)


/-! ### loop.example/g00499/laws.eqHandle -/
def m_laws_eqHandle (K : Nat) (a0 : T_impl_Handle) (a1 : T_impl_Handle) : Option (Bool) := (bif (a0.fSlot != a1.fSlot) then some false else (bif (a0.fGen != a1.fGen) then some false else some true))
set_option maxRecDepth 20000 in
set_option maxHeartbeats 8000000 in
theorem w_laws_eqHandle (K : Nat) (a0 : T_impl_Handle) (a1 : T_impl_Handle) (r : Bool) (h : m_laws_eqHandle K a0 a1 = some r) : Sp Try.prog 65 [.g [.int .i64 a0.fSlot, .int .i64 a0.fGen], .g [.int .i64 a1.fSlot, .int .i64 a1.fGen]] [] (.c (.bool r)) [] := by
  refine Sp.of_W tabOk Try.func65 rfl rfl (Nat.le_of_ble_eq_true rfl) (Nat.le_of_ble_eq_true rfl) fun F hP hN hm => ?_
  obtain ⟨P, N, w0, σ0, β0, m⟩ := F
  obtain rfl : P = Try.prog := hP
  obtain rfl : N = 15 := hN
  obtain rfl : m = 1 := hm
  have he : Env ⟨Try.prog, 15, w0, σ0, β0, 1⟩ tab := ⟨Nat.le_of_ble_eq_true rfl, tabOk⟩
  unfold m_laws_eqHandle at h
  refine W_seq ?_
  refine W_regV he rfl ?_
  refine v0 (sBx rfl [] rfl rfl 101 rfl) rfl ?_
  refine v0 (sBx rfl [] rfl rfl 102 rfl) rfl ?_
  refine v0 (sA rfl [] rfl) rfl ?_
  refine ve ?_
  refine W2 [2, 3] [101, 102] [] (l := [(2, .c (.ptr _ _ _ _)), (3, .c (.ptr _ _ _ _))]) (h := [(101, ⟨0, 2, [[.int _ _, .int _ _]]⟩), (102, ⟨0, 2, [[.int _ _, .int _ _]]⟩)]) (h' := []) trivial rfl rfl rfl ?_
  refine W_seq ?_
  refine W_seq ?_
  refine W_regV he rfl ?_
  refine v0 (sFP rfl rfl rfl) rfl ?_
  refine v0 (sLd rfl rfl) rfl ?_
  refine v0 (sFP rfl rfl rfl) rfl ?_
  refine v0 (sLd rfl rfl) rfl ?_
  refine vB (sBi rfl rfl rfl rfl) rfl rfl fun b1 hb1 => ?_
  cases b1 with
  | true =>
    replace h := brT hb1 h
    refine ve ?_
    refine W2 [2, 3, 9] [101, 102] [] (l := [(2, .c (.ptr _ _ _ _)), (3, .c (.ptr _ _ _ _)), (9, .c (.bool true))]) (h := [(101, ⟨0, 2, [[.int _ _, .int _ _]]⟩), (102, ⟨0, 2, [[.int _ _, .int _ _]]⟩)]) (h' := []) trivial rfl rfl rfl ?_
    refine W_true rfl ?_
    refine W_seq ?_
    refine W_regV he rfl ?_
    refine v0 (sA rfl [] rfl) rfl ?_
    refine ve ?_
    refine W2 [4] [] [] (l := [(4, .c (.bool false))]) (h := []) (h' := []) trivial rfl rfl rfl ?_
    obtain rfl := Option.some.inj h
    exact W_ret (r0 rfl rfl)
  | false =>
    replace h := brF hb1 h
    refine ve ?_
    refine W2 [2, 3, 9] [101, 102] [] (l := [(2, .c (.ptr _ _ _ _)), (3, .c (.ptr _ _ _ _)), (9, .c (.bool false))]) (h := [(101, ⟨0, 2, [[.int _ _, .int _ _]]⟩), (102, ⟨0, 2, [[.int _ _, .int _ _]]⟩)]) (h' := []) trivial rfl rfl rfl ?_
    refine W_false rfl ?_
    refine W_skip ?_
    refine W_seq ?_
    refine W_seq ?_
    refine W_regV he rfl ?_
    refine v0 (sFP rfl rfl rfl) rfl ?_
    refine v0 (sLd rfl rfl) rfl ?_
    refine v0 (sFP rfl rfl rfl) rfl ?_
    refine v0 (sLd rfl rfl) rfl ?_
    refine vB (sBi rfl rfl rfl rfl) rfl rfl fun b2 hb2 => ?_
    cases b2 with
    | true =>
      replace h := brT hb2 h
      refine ve ?_
      refine W2 [14] [] [] (l := [(14, .c (.bool true))]) (h := []) (h' := []) trivial rfl rfl rfl ?_
      refine W_true rfl ?_
      refine W_seq ?_
      refine W_regV he rfl ?_
      refine v0 (sA rfl [] rfl) rfl ?_
      refine ve ?_
      refine W2 [4] [] [] (l := [(4, .c (.bool false))]) (h := []) (h' := []) trivial rfl rfl rfl ?_
      obtain rfl := Option.some.inj h
      exact W_ret (r0 rfl rfl)
    | false =>
      replace h := brF hb2 h
      refine ve ?_
      refine W2 [14] [] [] (l := [(14, .c (.bool false))]) (h := []) (h' := []) trivial rfl rfl rfl ?_
      refine W_false rfl ?_
      refine W_skip ?_
      refine W_seq ?_
      refine W_regV he rfl ?_
      refine v0 (sA rfl [] rfl) rfl ?_
      refine ve ?_
      refine W2 [4] [] [] (l := [(4, .c (.bool true))]) (h := []) (h' := []) trivial rfl rfl rfl ?_
      obtain rfl := Option.some.inj h
      exact W_ret (r0 rfl rfl)
theorem ok_laws_eqHandle : FnOk Try.prog 65 := ⟨_, Try.func65, rfl, rfl⟩


/-! ### loop.example/g00499/laws.eqHandleS -/
def l_laws_eqHandleS_3 (K : Nat) (a0 : List T_impl_Handle) (a1 : List T_impl_Handle) : Nat → Int → Option (Bool)
  | 0, _ => none
  | n3 + 1, v2 => (bif (decide (v2 < (a0.length : Int))) then (if (0 : Int) ≤ v2 ∧ v2 < (a0.length : Int) then (if (0 : Int) ≤ v2 ∧ v2 < (a1.length : Int) then ((m_laws_eqHandle K (gt a0 v2) (gt a1 v2)).bind fun r7 => (bif r7 then (l_laws_eqHandleS_3 K a0 a1 n3 (iAdd .i64 v2 1)) else some false)) else none) else none) else some true)
def m_laws_eqHandleS (K : Nat) (a0 : List T_impl_Handle) (a1 : List T_impl_Handle) : Option (Bool) := (bif ((a0.length : Int) != (a1.length : Int)) then some false else (l_laws_eqHandleS_3 K a0 a1 K 0))
set_option maxRecDepth 20000 in
set_option maxHeartbeats 8000000 in
theorem w_laws_eqHandleS (K : Nat) (a0 : List T_impl_Handle) (a1 : List T_impl_Handle) (r : Bool) (h : m_laws_eqHandleS K a0 a1 = some r) : Sp Try.prog 37 [.c (.row false 2 (a0.map en_impl_Handle)), .c (.row false 2 (a1.map en_impl_Handle))] [] (.c (.bool r)) [] := by
  refine Sp.of_W tabOk Try.func37 rfl rfl (Nat.le_of_ble_eq_true rfl) (Nat.le_of_ble_eq_true rfl) fun F hP hN hm => ?_
  obtain ⟨P, N, w0, σ0, β0, m⟩ := F
  obtain rfl : P = Try.prog := hP
  obtain rfl : N = 27 := hN
  obtain rfl : m = 1 := hm
  have he : Env ⟨Try.prog, 27, w0, σ0, β0, 1⟩ tab := ⟨Nat.le_of_ble_eq_true rfl, tabOk⟩
  unfold m_laws_eqHandleS at h
  refine W_seq ?_
  refine W_regV he rfl ?_
  refine v0 (sA rfl [] rfl) rfl ?_
  refine ve ?_
  refine W2 [0, 1] [] [] (l := [(0, .c (.row _ _ _)), (1, .c (.row _ _ _))]) (h := []) (h' := []) trivial rfl rfl rfl ?_
  refine W_seq ?_
  refine W_seq ?_
  refine W_regV he rfl ?_
  refine v0 (sM rfl [] rfl) rfl ?_
  refine v0 (sLm rfl rfl rfl rfl) rfl ?_
  refine v0 (sM rfl [] rfl) rfl ?_
  refine v0 (sLm rfl rfl rfl rfl) rfl ?_
  refine vB (sBi rfl rfl rfl rfl) rfl rfl fun b1 hb1 => ?_
  cases b1 with
  | true =>
    replace h := brT hb1 h
    refine ve ?_
    refine W2 [0, 1, 10] [] [] (l := [(0, .c (.row _ _ _)), (1, .c (.row _ _ _)), (10, .c (.bool true))]) (h := []) (h' := []) trivial rfl rfl rfl ?_
    refine W_true rfl ?_
    refine W_seq ?_
    refine W_regV he rfl ?_
    refine v0 (sA rfl [] rfl) rfl ?_
    refine ve ?_
    refine W2 [4] [] [] (l := [(4, .c (.bool false))]) (h := []) (h' := []) trivial rfl rfl rfl ?_
    obtain rfl := Option.some.inj h
    exact W_ret (r0 rfl rfl)
  | false =>
    replace h := brF hb1 h
    refine ve ?_
    refine W2 [0, 1, 10] [] [] (l := [(0, .c (.row _ _ _)), (1, .c (.row _ _ _)), (10, .c (.bool false))]) (h := []) (h' := []) trivial rfl rfl rfl ?_
    refine W_false rfl ?_
    refine W_skip ?_
    refine W_seq ?_
    refine W_seq ?_
    refine W_regV he rfl ?_
    refine v0 (sA rfl [] rfl) rfl ?_
    refine ve ?_
    refine W2 [0, 1, 5] [] [] (l := [(0, .c (.row _ _ _)), (1, .c (.row _ _ _)), (5, .c (.int _ _))]) (h := []) (h' := []) trivial rfl rfl rfl ?_
    refine W_block ?_
    refine W2 [0, 1, 5] [] [] (l := [(0, .c (.row _ _ _)), (1, .c (.row _ _ _)), (5, .c (.int _ _))]) (h := []) (h' := []) trivial rfl rfl rfl ?_
    refine W_loopW (fun n3 S => ∃ (v2 : Int), S = StL [(0, .c (.row false 2 (a0.map en_impl_Handle))), (1, .c (.row false 2 (a1.map en_impl_Handle))), (5, .c (.int .i64 v2))] ([] ++ []) ∧ l_laws_eqHandleS_3 K a0 a1 n3 v2 = some r) K ⟨_, rfl, h⟩ ?_
    rintro n3 S ⟨v2, rfl, h⟩
    cases n3 with
    | zero => simp [l_laws_eqHandleS_3] at h
    | succ n3 =>
      rw [l_laws_eqHandleS_3] at h
      refine W_seq ?_
      refine W_seq ?_
      refine W_regV he rfl ?_
      refine v0 (sM rfl [] rfl) rfl ?_
      refine v0 (sM rfl [] rfl) rfl ?_
      refine v0 (sLm rfl rfl rfl rfl) rfl ?_
      refine vB (sBi rfl rfl rfl rfl) rfl rfl fun b4 hb4 => ?_
      cases b4 with
      | true =>
        replace h := brT hb4 h
        refine ve ?_
        refine W2 [0, 1, 5, 14] [] [] (l := [(0, .c (.row _ _ _)), (1, .c (.row _ _ _)), (5, .c (.int _ _)), (14, .c (.bool true))]) (h := []) (h' := []) trivial rfl rfl rfl ?_
        refine W_true rfl ?_
        refine W_skip ?_
        refine W_seq ?_
        refine W_block ?_
        refine W_seq ?_
        refine W_regD he rfl rfl rfl ?_
        refine g0 (sM rfl [] rfl) rfl ?_
        refine g0 (sM rfl [] rfl) rfl ?_
        refine chkc h ?_; clear h; intro c5 h
        refine g0 (sIRm rfl rfl rfl rfl c5) rfl ?_
        refine g0 (sLI rfl rfl (en_impl_Handle (gt a0 v2)) (gt_at _ c5) rfl rfl rfl) rfl ?_
        refine g0 (sM rfl [] rfl) rfl ?_
        refine g0 (sM rfl [] rfl) rfl ?_
        refine chkc h ?_; clear h; intro c6 h
        refine g0 (sIRm rfl rfl rfl rfl c6) rfl ?_
        refine g0 (sLI rfl rfl (en_impl_Handle (gt a1 v2)) (gt_at _ c6) rfl rfl rfl) rfl ?_
        refine bndc h ?_; clear h; intro r7 hr7 h
        refine gB (sCm (w_laws_eqHandle K (gt a0 v2) (gt a1 v2) _ hr7) ok_laws_eqHandle rfl rfl rfl rfl) rfl rfl fun b8 hb8 => ?_
        cases b8 with
        | true =>
          replace h := brT hb8 h
          refine g0 (sNt rfl rfl) rfl ?_
          refine ge ⟨rfl, ?_⟩
          refine W2 [0, 1, 5, 26] [] [] (l := [(0, .c (.row _ _ _)), (1, .c (.row _ _ _)), (5, .c (.int _ _)), (26, .c (.bool false))]) (h := []) (h' := []) trivial rfl rfl rfl ?_
          refine W_false rfl ?_
          refine W_skip ?_
          refine W_regV he rfl ?_
          refine v0 (sM rfl [] rfl) rfl ?_
          refine v0 (sBi rfl rfl rfl rfl) rfl ?_
          refine v0 (sA rfl [] rfl) rfl ?_
          refine ve ?_
          exact ⟨n3, _, Nat.lt_succ_self n3, wk2 [0, 1, 5] [] [] (l := [(0, .c (.row _ _ _)), (1, .c (.row _ _ _)), (5, .c (.int _ _))]) (h := []) (h' := []) trivial rfl rfl rfl, _, rfl, h⟩
        | false =>
          replace h := brF hb8 h
          refine g0 (sNt rfl rfl) rfl ?_
          refine ge ⟨rfl, ?_⟩
          refine W2 [0, 1, 5, 26] [] [] (l := [(0, .c (.row _ _ _)), (1, .c (.row _ _ _)), (5, .c (.int _ _)), (26, .c (.bool true))]) (h := []) (h' := []) trivial rfl rfl rfl ?_
          refine W_true rfl ?_
          refine W_seq ?_
          refine W_regV he rfl ?_
          refine v0 (sA rfl [] rfl) rfl ?_
          refine ve ?_
          refine W2 [4] [] [] (l := [(4, .c (.bool false))]) (h := []) (h' := []) trivial rfl rfl rfl ?_
          obtain rfl := Option.some.inj h
          exact W_ret (r0 rfl rfl)
      | false =>
        replace h := brF hb4 h
        refine ve ?_
        refine W2 [0, 1, 5, 14] [] [] (l := [(0, .c (.row _ _ _)), (1, .c (.row _ _ _)), (5, .c (.int _ _)), (14, .c (.bool false))]) (h := []) (h' := []) trivial rfl rfl rfl ?_
        refine W_false rfl ?_
        refine W_exit (ex_then (ex_then (ex_hit ?_)))
        refine W_seq ?_
        refine W_regV he rfl ?_
        refine v0 (sA rfl [] rfl) rfl ?_
        refine ve ?_
        refine W2 [4] [] [] (l := [(4, .c (.bool true))]) (h := []) (h' := []) trivial rfl rfl rfl ?_
        obtain rfl := Option.some.inj h
        exact W_ret (r0 rfl rfl)
theorem ok_laws_eqHandleS : FnOk Try.prog 37 := ⟨_, Try.func37, rfl, rfl⟩


/-! ### loop.example/g00499/laws.eqConf -/
def m_laws_eqConf (K : Nat) (a0 : T_impl_Conf) (a1 : T_impl_Conf) : Option (Bool) := (bif (a0.fChunks != a1.fChunks) then some false else (bif (a0.fSize != a1.fSize) then some false else (bif (a0.fSlots != a1.fSlots) then some false else (bif (a0.fTax != a1.fTax) then some false else (bif (a0.fSlice != a1.fSlice) then some false else (bif (a0.fGens != a1.fGens) then some false else some true))))))
set_option maxRecDepth 20000 in
set_option maxHeartbeats 8000000 in
theorem w_laws_eqConf (K : Nat) (a0 : T_impl_Conf) (a1 : T_impl_Conf) (r : Bool) (h : m_laws_eqConf K a0 a1 = some r) : Sp Try.prog 55 [.g [.int .i64 a0.fChunks, .int .i64 a0.fSize, .int .i64 a0.fSlots, .int .i64 a0.fTax, .int .i64 a0.fSlice, .int .i64 a0.fGens], .g [.int .i64 a1.fChunks, .int .i64 a1.fSize, .int .i64 a1.fSlots, .int .i64 a1.fTax, .int .i64 a1.fSlice, .int .i64 a1.fGens]] [] (.c (.bool r)) [] := by
  refine Sp.of_W tabOk Try.func55 rfl rfl (Nat.le_of_ble_eq_true rfl) (Nat.le_of_ble_eq_true rfl) fun F hP hN hm => ?_
  obtain ⟨P, N, w0, σ0, β0, m⟩ := F
  obtain rfl : P = Try.prog := hP
  obtain rfl : N = 35 := hN
  obtain rfl : m = 1 := hm
  have he : Env ⟨Try.prog, 35, w0, σ0, β0, 1⟩ tab := ⟨Nat.le_of_ble_eq_true rfl, tabOk⟩
  unfold m_laws_eqConf at h
  refine W_seq ?_
  refine W_regV he rfl ?_
  refine v0 (sBx rfl [] rfl rfl 101 rfl) rfl ?_
  refine v0 (sBx rfl [] rfl rfl 102 rfl) rfl ?_
  refine v0 (sA rfl [] rfl) rfl ?_
  refine ve ?_
  refine W2 [2, 3] [101, 102] [] (l := [(2, .c (.ptr _ _ _ _)), (3, .c (.ptr _ _ _ _))]) (h := [(101, ⟨0, 6, [[.int _ _, .int _ _, .int _ _, .int _ _, .int _ _, .int _ _]]⟩), (102, ⟨0, 6, [[.int _ _, .int _ _, .int _ _, .int _ _, .int _ _, .int _ _]]⟩)]) (h' := []) trivial rfl rfl rfl ?_
  refine W_seq ?_
  refine W_seq ?_
  refine W_regV he rfl ?_
  refine v0 (sFP rfl rfl rfl) rfl ?_
  refine v0 (sLd rfl rfl) rfl ?_
  refine v0 (sFP rfl rfl rfl) rfl ?_
  refine v0 (sLd rfl rfl) rfl ?_
  refine vB (sBi rfl rfl rfl rfl) rfl rfl fun b1 hb1 => ?_
  cases b1 with
  | true =>
    replace h := brT hb1 h
    refine ve ?_
    refine W2 [2, 3, 9] [101, 102] [] (l := [(2, .c (.ptr _ _ _ _)), (3, .c (.ptr _ _ _ _)), (9, .c (.bool true))]) (h := [(101, ⟨0, 6, [[.int _ _, .int _ _, .int _ _, .int _ _, .int _ _, .int _ _]]⟩), (102, ⟨0, 6, [[.int _ _, .int _ _, .int _ _, .int _ _, .int _ _, .int _ _]]⟩)]) (h' := []) trivial rfl rfl rfl ?_
    refine W_true rfl ?_
    refine W_seq ?_
    refine W_regV he rfl ?_
    refine v0 (sA rfl [] rfl) rfl ?_
    refine ve ?_
    refine W2 [4] [] [] (l := [(4, .c (.bool false))]) (h := []) (h' := []) trivial rfl rfl rfl ?_
    obtain rfl := Option.some.inj h
    exact W_ret (r0 rfl rfl)
  | false =>
    replace h := brF hb1 h
    refine ve ?_
    refine W2 [2, 3, 9] [101, 102] [] (l := [(2, .c (.ptr _ _ _ _)), (3, .c (.ptr _ _ _ _)), (9, .c (.bool false))]) (h := [(101, ⟨0, 6, [[.int _ _, .int _ _, .int _ _, .int _ _, .int _ _, .int _ _]]⟩), (102, ⟨0, 6, [[.int _ _, .int _ _, .int _ _, .int _ _, .int _ _, .int _ _]]⟩)]) (h' := []) trivial rfl rfl rfl ?_
    refine W_false rfl ?_
    refine W_skip ?_
    refine W_seq ?_
    refine W_seq ?_
    refine W_regV he rfl ?_
    refine v0 (sFP rfl rfl rfl) rfl ?_
    refine v0 (sLd rfl rfl) rfl ?_
    refine v0 (sFP rfl rfl rfl) rfl ?_
    refine v0 (sLd rfl rfl) rfl ?_
    refine vB (sBi rfl rfl rfl rfl) rfl rfl fun b2 hb2 => ?_
    cases b2 with
    | true =>
      replace h := brT hb2 h
      refine ve ?_
      refine W2 [2, 3, 14] [101, 102] [] (l := [(2, .c (.ptr _ _ _ _)), (3, .c (.ptr _ _ _ _)), (14, .c (.bool true))]) (h := [(101, ⟨0, 6, [[.int _ _, .int _ _, .int _ _, .int _ _, .int _ _, .int _ _]]⟩), (102, ⟨0, 6, [[.int _ _, .int _ _, .int _ _, .int _ _, .int _ _, .int _ _]]⟩)]) (h' := []) trivial rfl rfl rfl ?_
      refine W_true rfl ?_
      refine W_seq ?_
      refine W_regV he rfl ?_
      refine v0 (sA rfl [] rfl) rfl ?_
      refine ve ?_
      refine W2 [4] [] [] (l := [(4, .c (.bool false))]) (h := []) (h' := []) trivial rfl rfl rfl ?_
      obtain rfl := Option.some.inj h
      exact W_ret (r0 rfl rfl)
    | false =>
      replace h := brF hb2 h
      refine ve ?_
      refine W2 [2, 3, 14] [101, 102] [] (l := [(2, .c (.ptr _ _ _ _)), (3, .c (.ptr _ _ _ _)), (14, .c (.bool false))]) (h := [(101, ⟨0, 6, [[.int _ _, .int _ _, .int _ _, .int _ _, .int _ _, .int _ _]]⟩), (102, ⟨0, 6, [[.int _ _, .int _ _, .int _ _, .int _ _, .int _ _, .int _ _]]⟩)]) (h' := []) trivial rfl rfl rfl ?_
      refine W_false rfl ?_
      refine W_skip ?_
      refine W_seq ?_
      refine W_seq ?_
      refine W_regV he rfl ?_
      refine v0 (sFP rfl rfl rfl) rfl ?_
      refine v0 (sLd rfl rfl) rfl ?_
      refine v0 (sFP rfl rfl rfl) rfl ?_
      refine v0 (sLd rfl rfl) rfl ?_
      refine vB (sBi rfl rfl rfl rfl) rfl rfl fun b3 hb3 => ?_
      cases b3 with
      | true =>
        replace h := brT hb3 h
        refine ve ?_
        refine W2 [2, 3, 19] [101, 102] [] (l := [(2, .c (.ptr _ _ _ _)), (3, .c (.ptr _ _ _ _)), (19, .c (.bool true))]) (h := [(101, ⟨0, 6, [[.int _ _, .int _ _, .int _ _, .int _ _, .int _ _, .int _ _]]⟩), (102, ⟨0, 6, [[.int _ _, .int _ _, .int _ _, .int _ _, .int _ _, .int _ _]]⟩)]) (h' := []) trivial rfl rfl rfl ?_
        refine W_true rfl ?_
        refine W_seq ?_
        refine W_regV he rfl ?_
        refine v0 (sA rfl [] rfl) rfl ?_
        refine ve ?_
        refine W2 [4] [] [] (l := [(4, .c (.bool false))]) (h := []) (h' := []) trivial rfl rfl rfl ?_
        obtain rfl := Option.some.inj h
        exact W_ret (r0 rfl rfl)
      | false =>
        replace h := brF hb3 h
        refine ve ?_
        refine W2 [2, 3, 19] [101, 102] [] (l := [(2, .c (.ptr _ _ _ _)), (3, .c (.ptr _ _ _ _)), (19, .c (.bool false))]) (h := [(101, ⟨0, 6, [[.int _ _, .int _ _, .int _ _, .int _ _, .int _ _, .int _ _]]⟩), (102, ⟨0, 6, [[.int _ _, .int _ _, .int _ _, .int _ _, .int _ _, .int _ _]]⟩)]) (h' := []) trivial rfl rfl rfl ?_
        refine W_false rfl ?_
        refine W_skip ?_
        refine W_seq ?_
        refine W_seq ?_
        refine W_regV he rfl ?_
        refine v0 (sFP rfl rfl rfl) rfl ?_
        refine v0 (sLd rfl rfl) rfl ?_
        refine v0 (sFP rfl rfl rfl) rfl ?_
        refine v0 (sLd rfl rfl) rfl ?_
        refine vB (sBi rfl rfl rfl rfl) rfl rfl fun b4 hb4 => ?_
        cases b4 with
        | true =>
          replace h := brT hb4 h
          refine ve ?_
          refine W2 [2, 3, 24] [101, 102] [] (l := [(2, .c (.ptr _ _ _ _)), (3, .c (.ptr _ _ _ _)), (24, .c (.bool true))]) (h := [(101, ⟨0, 6, [[.int _ _, .int _ _, .int _ _, .int _ _, .int _ _, .int _ _]]⟩), (102, ⟨0, 6, [[.int _ _, .int _ _, .int _ _, .int _ _, .int _ _, .int _ _]]⟩)]) (h' := []) trivial rfl rfl rfl ?_
          refine W_true rfl ?_
          refine W_seq ?_
          refine W_regV he rfl ?_
          refine v0 (sA rfl [] rfl) rfl ?_
          refine ve ?_
          refine W2 [4] [] [] (l := [(4, .c (.bool false))]) (h := []) (h' := []) trivial rfl rfl rfl ?_
          obtain rfl := Option.some.inj h
          exact W_ret (r0 rfl rfl)
        | false =>
          replace h := brF hb4 h
          refine ve ?_
          refine W2 [2, 3, 24] [101, 102] [] (l := [(2, .c (.ptr _ _ _ _)), (3, .c (.ptr _ _ _ _)), (24, .c (.bool false))]) (h := [(101, ⟨0, 6, [[.int _ _, .int _ _, .int _ _, .int _ _, .int _ _, .int _ _]]⟩), (102, ⟨0, 6, [[.int _ _, .int _ _, .int _ _, .int _ _, .int _ _, .int _ _]]⟩)]) (h' := []) trivial rfl rfl rfl ?_
          refine W_false rfl ?_
          refine W_skip ?_
          refine W_seq ?_
          refine W_seq ?_
          refine W_regV he rfl ?_
          refine v0 (sFP rfl rfl rfl) rfl ?_
          refine v0 (sLd rfl rfl) rfl ?_
          refine v0 (sFP rfl rfl rfl) rfl ?_
          refine v0 (sLd rfl rfl) rfl ?_
          refine vB (sBi rfl rfl rfl rfl) rfl rfl fun b5 hb5 => ?_
          cases b5 with
          | true =>
            replace h := brT hb5 h
            refine ve ?_
            refine W2 [2, 3, 29] [101, 102] [] (l := [(2, .c (.ptr _ _ _ _)), (3, .c (.ptr _ _ _ _)), (29, .c (.bool true))]) (h := [(101, ⟨0, 6, [[.int _ _, .int _ _, .int _ _, .int _ _, .int _ _, .int _ _]]⟩), (102, ⟨0, 6, [[.int _ _, .int _ _, .int _ _, .int _ _, .int _ _, .int _ _]]⟩)]) (h' := []) trivial rfl rfl rfl ?_
            refine W_true rfl ?_
            refine W_seq ?_
            refine W_regV he rfl ?_
            refine v0 (sA rfl [] rfl) rfl ?_
            refine ve ?_
            refine W2 [4] [] [] (l := [(4, .c (.bool false))]) (h := []) (h' := []) trivial rfl rfl rfl ?_
            obtain rfl := Option.some.inj h
            exact W_ret (r0 rfl rfl)
          | false =>
            replace h := brF hb5 h
            refine ve ?_
            refine W2 [2, 3, 29] [101, 102] [] (l := [(2, .c (.ptr _ _ _ _)), (3, .c (.ptr _ _ _ _)), (29, .c (.bool false))]) (h := [(101, ⟨0, 6, [[.int _ _, .int _ _, .int _ _, .int _ _, .int _ _, .int _ _]]⟩), (102, ⟨0, 6, [[.int _ _, .int _ _, .int _ _, .int _ _, .int _ _, .int _ _]]⟩)]) (h' := []) trivial rfl rfl rfl ?_
            refine W_false rfl ?_
            refine W_skip ?_
            refine W_seq ?_
            refine W_seq ?_
            refine W_regV he rfl ?_
            refine v0 (sFP rfl rfl rfl) rfl ?_
            refine v0 (sLd rfl rfl) rfl ?_
            refine v0 (sFP rfl rfl rfl) rfl ?_
            refine v0 (sLd rfl rfl) rfl ?_
            refine vB (sBi rfl rfl rfl rfl) rfl rfl fun b6 hb6 => ?_
            cases b6 with
            | true =>
              replace h := brT hb6 h
              refine ve ?_
              refine W2 [34] [] [] (l := [(34, .c (.bool true))]) (h := []) (h' := []) trivial rfl rfl rfl ?_
              refine W_true rfl ?_
              refine W_seq ?_
              refine W_regV he rfl ?_
              refine v0 (sA rfl [] rfl) rfl ?_
              refine ve ?_
              refine W2 [4] [] [] (l := [(4, .c (.bool false))]) (h := []) (h' := []) trivial rfl rfl rfl ?_
              obtain rfl := Option.some.inj h
              exact W_ret (r0 rfl rfl)
            | false =>
              replace h := brF hb6 h
              refine ve ?_
              refine W2 [34] [] [] (l := [(34, .c (.bool false))]) (h := []) (h' := []) trivial rfl rfl rfl ?_
              refine W_false rfl ?_
              refine W_skip ?_
              refine W_seq ?_
              refine W_regV he rfl ?_
              refine v0 (sA rfl [] rfl) rfl ?_
              refine ve ?_
              refine W2 [4] [] [] (l := [(4, .c (.bool true))]) (h := []) (h' := []) trivial rfl rfl rfl ?_
              obtain rfl := Option.some.inj h
              exact W_ret (r0 rfl rfl)
theorem ok_laws_eqConf : FnOk Try.prog 55 := ⟨_, Try.func55, rfl, rfl⟩


/-! ### loop.example/g00499/laws.eqByteS -/
def l_laws_eqByteS_3 (K : Nat) (a0 : List Int) (a1 : List Int) : Nat → Int → Option (Bool)
  | 0, _ => none
  | n3 + 1, v2 => (bif (decide (v2 < (a0.length : Int))) then (if (0 : Int) ≤ v2 ∧ v2 < (a0.length : Int) then (if (0 : Int) ≤ v2 ∧ v2 < (a1.length : Int) then (bif ((gt a0 v2) != (gt a1 v2)) then some false else (l_laws_eqByteS_3 K a0 a1 n3 (iAdd .i64 v2 1))) else none) else none) else some true)
def m_laws_eqByteS (K : Nat) (a0 : List Int) (a1 : List Int) : Option (Bool) := (bif ((a0.length : Int) != (a1.length : Int)) then some false else (l_laws_eqByteS_3 K a0 a1 K 0))
set_option maxRecDepth 20000 in
set_option maxHeartbeats 8000000 in
theorem w_laws_eqByteS (K : Nat) (a0 : List Int) (a1 : List Int) (r : Bool) (h : m_laws_eqByteS K a0 a1 = some r) : Sp Try.prog 88 [.c (.row false 1 (a0.map en_u8)), .c (.row false 1 (a1.map en_u8))] [] (.c (.bool r)) [] := by
  refine Sp.of_W tabOk Try.func88 rfl rfl (Nat.le_of_ble_eq_true rfl) (Nat.le_of_ble_eq_true rfl) fun F hP hN hm => ?_
  obtain ⟨P, N, w0, σ0, β0, m⟩ := F
  obtain rfl : P = Try.prog := hP
  obtain rfl : N = 26 := hN
  obtain rfl : m = 1 := hm
  have he : Env ⟨Try.prog, 26, w0, σ0, β0, 1⟩ tab := ⟨Nat.le_of_ble_eq_true rfl, tabOk⟩
  unfold m_laws_eqByteS at h
  refine W_seq ?_
  refine W_regV he rfl ?_
  refine v0 (sA rfl [] rfl) rfl ?_
  refine ve ?_
  refine W2 [0, 1] [] [] (l := [(0, .c (.row _ _ _)), (1, .c (.row _ _ _))]) (h := []) (h' := []) trivial rfl rfl rfl ?_
  refine W_seq ?_
  refine W_seq ?_
  refine W_regV he rfl ?_
  refine v0 (sM rfl [] rfl) rfl ?_
  refine v0 (sLm rfl rfl rfl rfl) rfl ?_
  refine v0 (sM rfl [] rfl) rfl ?_
  refine v0 (sLm rfl rfl rfl rfl) rfl ?_
  refine vB (sBi rfl rfl rfl rfl) rfl rfl fun b1 hb1 => ?_
  cases b1 with
  | true =>
    replace h := brT hb1 h
    refine ve ?_
    refine W2 [0, 1, 10] [] [] (l := [(0, .c (.row _ _ _)), (1, .c (.row _ _ _)), (10, .c (.bool true))]) (h := []) (h' := []) trivial rfl rfl rfl ?_
    refine W_true rfl ?_
    refine W_seq ?_
    refine W_regV he rfl ?_
    refine v0 (sA rfl [] rfl) rfl ?_
    refine ve ?_
    refine W2 [4] [] [] (l := [(4, .c (.bool false))]) (h := []) (h' := []) trivial rfl rfl rfl ?_
    obtain rfl := Option.some.inj h
    exact W_ret (r0 rfl rfl)
  | false =>
    replace h := brF hb1 h
    refine ve ?_
    refine W2 [0, 1, 10] [] [] (l := [(0, .c (.row _ _ _)), (1, .c (.row _ _ _)), (10, .c (.bool false))]) (h := []) (h' := []) trivial rfl rfl rfl ?_
    refine W_false rfl ?_
    refine W_skip ?_
    refine W_seq ?_
    refine W_seq ?_
    refine W_regV he rfl ?_
    refine v0 (sA rfl [] rfl) rfl ?_
    refine ve ?_
    refine W2 [0, 1, 5] [] [] (l := [(0, .c (.row _ _ _)), (1, .c (.row _ _ _)), (5, .c (.int _ _))]) (h := []) (h' := []) trivial rfl rfl rfl ?_
    refine W_block ?_
    refine W2 [0, 1, 5] [] [] (l := [(0, .c (.row _ _ _)), (1, .c (.row _ _ _)), (5, .c (.int _ _))]) (h := []) (h' := []) trivial rfl rfl rfl ?_
    refine W_loopW (fun n3 S => ∃ (v2 : Int), S = StL [(0, .c (.row false 1 (a0.map en_u8))), (1, .c (.row false 1 (a1.map en_u8))), (5, .c (.int .i64 v2))] ([] ++ []) ∧ l_laws_eqByteS_3 K a0 a1 n3 v2 = some r) K ⟨_, rfl, h⟩ ?_
    rintro n3 S ⟨v2, rfl, h⟩
    cases n3 with
    | zero => simp [l_laws_eqByteS_3] at h
    | succ n3 =>
      rw [l_laws_eqByteS_3] at h
      refine W_seq ?_
      refine W_seq ?_
      refine W_regV he rfl ?_
      refine v0 (sM rfl [] rfl) rfl ?_
      refine v0 (sM rfl [] rfl) rfl ?_
      refine v0 (sLm rfl rfl rfl rfl) rfl ?_
      refine vB (sBi rfl rfl rfl rfl) rfl rfl fun b4 hb4 => ?_
      cases b4 with
      | true =>
        replace h := brT hb4 h
        refine ve ?_
        refine W2 [0, 1, 5, 14] [] [] (l := [(0, .c (.row _ _ _)), (1, .c (.row _ _ _)), (5, .c (.int _ _)), (14, .c (.bool true))]) (h := []) (h' := []) trivial rfl rfl rfl ?_
        refine W_true rfl ?_
        refine W_skip ?_
        refine W_seq ?_
        refine W_block ?_
        refine W_seq ?_
        refine W_regD he rfl rfl rfl ?_
        refine g0 (sM rfl [] rfl) rfl ?_
        refine g0 (sM rfl [] rfl) rfl ?_
        refine chkc h ?_; clear h; intro c5 h
        refine g0 (sIRm rfl rfl rfl rfl c5) rfl ?_
        refine g0 (sLI rfl rfl (en_u8 (gt a0 v2)) (gt_at _ c5) rfl rfl rfl) rfl ?_
        refine g0 (sM rfl [] rfl) rfl ?_
        refine g0 (sM rfl [] rfl) rfl ?_
        refine chkc h ?_; clear h; intro c6 h
        refine g0 (sIRm rfl rfl rfl rfl c6) rfl ?_
        refine g0 (sLI rfl rfl (en_u8 (gt a1 v2)) (gt_at _ c6) rfl rfl rfl) rfl ?_
        refine gB (sBi rfl rfl rfl rfl) rfl rfl fun b7 hb7 => ?_
        cases b7 with
        | true =>
          replace h := brT hb7 h
          refine ge ⟨rfl, ?_⟩
          refine W2 [0, 1, 5, 25] [] [] (l := [(0, .c (.row _ _ _)), (1, .c (.row _ _ _)), (5, .c (.int _ _)), (25, .c (.bool true))]) (h := []) (h' := []) trivial rfl rfl rfl ?_
          refine W_true rfl ?_
          refine W_seq ?_
          refine W_regV he rfl ?_
          refine v0 (sA rfl [] rfl) rfl ?_
          refine ve ?_
          refine W2 [4] [] [] (l := [(4, .c (.bool false))]) (h := []) (h' := []) trivial rfl rfl rfl ?_
          obtain rfl := Option.some.inj h
          exact W_ret (r0 rfl rfl)
        | false =>
          replace h := brF hb7 h
          refine ge ⟨rfl, ?_⟩
          refine W2 [0, 1, 5, 25] [] [] (l := [(0, .c (.row _ _ _)), (1, .c (.row _ _ _)), (5, .c (.int _ _)), (25, .c (.bool false))]) (h := []) (h' := []) trivial rfl rfl rfl ?_
          refine W_false rfl ?_
          refine W_skip ?_
          refine W_regV he rfl ?_
          refine v0 (sM rfl [] rfl) rfl ?_
          refine v0 (sBi rfl rfl rfl rfl) rfl ?_
          refine v0 (sA rfl [] rfl) rfl ?_
          refine ve ?_
          exact ⟨n3, _, Nat.lt_succ_self n3, wk2 [0, 1, 5] [] [] (l := [(0, .c (.row _ _ _)), (1, .c (.row _ _ _)), (5, .c (.int _ _))]) (h := []) (h' := []) trivial rfl rfl rfl, _, rfl, h⟩
      | false =>
        replace h := brF hb4 h
        refine ve ?_
        refine W2 [0, 1, 5, 14] [] [] (l := [(0, .c (.row _ _ _)), (1, .c (.row _ _ _)), (5, .c (.int _ _)), (14, .c (.bool false))]) (h := []) (h' := []) trivial rfl rfl rfl ?_
        refine W_false rfl ?_
        refine W_exit (ex_then (ex_then (ex_hit ?_)))
        refine W_seq ?_
        refine W_regV he rfl ?_
        refine v0 (sA rfl [] rfl) rfl ?_
        refine ve ?_
        refine W2 [4] [] [] (l := [(4, .c (.bool true))]) (h := []) (h' := []) trivial rfl rfl rfl ?_
        obtain rfl := Option.some.inj h
        exact W_ret (r0 rfl rfl)
theorem ok_laws_eqByteS : FnOk Try.prog 88 := ⟨_, Try.func88, rfl, rfl⟩


/-! ### loop.example/g00499/laws.eqIntS -/
def l_laws_eqIntS_3 (K : Nat) (a0 : List Int) (a1 : List Int) : Nat → Int → Option (Bool)
  | 0, _ => none
  | n3 + 1, v2 => (bif (decide (v2 < (a0.length : Int))) then (if (0 : Int) ≤ v2 ∧ v2 < (a0.length : Int) then (if (0 : Int) ≤ v2 ∧ v2 < (a1.length : Int) then (bif ((gt a0 v2) != (gt a1 v2)) then some false else (l_laws_eqIntS_3 K a0 a1 n3 (iAdd .i64 v2 1))) else none) else none) else some true)
def m_laws_eqIntS (K : Nat) (a0 : List Int) (a1 : List Int) : Option (Bool) := (bif ((a0.length : Int) != (a1.length : Int)) then some false else (l_laws_eqIntS_3 K a0 a1 K 0))
set_option maxRecDepth 20000 in
set_option maxHeartbeats 8000000 in
theorem w_laws_eqIntS (K : Nat) (a0 : List Int) (a1 : List Int) (r : Bool) (h : m_laws_eqIntS K a0 a1 = some r) : Sp Try.prog 29 [.c (.row false 1 (a0.map en_i64)), .c (.row false 1 (a1.map en_i64))] [] (.c (.bool r)) [] := by
  refine Sp.of_W tabOk Try.func29 rfl rfl (Nat.le_of_ble_eq_true rfl) (Nat.le_of_ble_eq_true rfl) fun F hP hN hm => ?_
  obtain ⟨P, N, w0, σ0, β0, m⟩ := F
  obtain rfl : P = Try.prog := hP
  obtain rfl : N = 26 := hN
  obtain rfl : m = 1 := hm
  have he : Env ⟨Try.prog, 26, w0, σ0, β0, 1⟩ tab := ⟨Nat.le_of_ble_eq_true rfl, tabOk⟩
  unfold m_laws_eqIntS at h
  refine W_seq ?_
  refine W_regV he rfl ?_
  refine v0 (sA rfl [] rfl) rfl ?_
  refine ve ?_
  refine W2 [0, 1] [] [] (l := [(0, .c (.row _ _ _)), (1, .c (.row _ _ _))]) (h := []) (h' := []) trivial rfl rfl rfl ?_
  refine W_seq ?_
  refine W_seq ?_
  refine W_regV he rfl ?_
  refine v0 (sM rfl [] rfl) rfl ?_
  refine v0 (sLm rfl rfl rfl rfl) rfl ?_
  refine v0 (sM rfl [] rfl) rfl ?_
  refine v0 (sLm rfl rfl rfl rfl) rfl ?_
  refine vB (sBi rfl rfl rfl rfl) rfl rfl fun b1 hb1 => ?_
  cases b1 with
  | true =>
    replace h := brT hb1 h
    refine ve ?_
    refine W2 [0, 1, 10] [] [] (l := [(0, .c (.row _ _ _)), (1, .c (.row _ _ _)), (10, .c (.bool true))]) (h := []) (h' := []) trivial rfl rfl rfl ?_
    refine W_true rfl ?_
    refine W_seq ?_
    refine W_regV he rfl ?_
    refine v0 (sA rfl [] rfl) rfl ?_
    refine ve ?_
    refine W2 [4] [] [] (l := [(4, .c (.bool false))]) (h := []) (h' := []) trivial rfl rfl rfl ?_
    obtain rfl := Option.some.inj h
    exact W_ret (r0 rfl rfl)
  | false =>
    replace h := brF hb1 h
    refine ve ?_
    refine W2 [0, 1, 10] [] [] (l := [(0, .c (.row _ _ _)), (1, .c (.row _ _ _)), (10, .c (.bool false))]) (h := []) (h' := []) trivial rfl rfl rfl ?_
    refine W_false rfl ?_
    refine W_skip ?_
    refine W_seq ?_
    refine W_seq ?_
    refine W_regV he rfl ?_
    refine v0 (sA rfl [] rfl) rfl ?_
    refine ve ?_
    refine W2 [0, 1, 5] [] [] (l := [(0, .c (.row _ _ _)), (1, .c (.row _ _ _)), (5, .c (.int _ _))]) (h := []) (h' := []) trivial rfl rfl rfl ?_
    refine W_block ?_
    refine W2 [0, 1, 5] [] [] (l := [(0, .c (.row _ _ _)), (1, .c (.row _ _ _)), (5, .c (.int _ _))]) (h := []) (h' := []) trivial rfl rfl rfl ?_
    refine W_loopW (fun n3 S => ∃ (v2 : Int), S = StL [(0, .c (.row false 1 (a0.map en_i64))), (1, .c (.row false 1 (a1.map en_i64))), (5, .c (.int .i64 v2))] ([] ++ []) ∧ l_laws_eqIntS_3 K a0 a1 n3 v2 = some r) K ⟨_, rfl, h⟩ ?_
    rintro n3 S ⟨v2, rfl, h⟩
    cases n3 with
    | zero => simp [l_laws_eqIntS_3] at h
    | succ n3 =>
      rw [l_laws_eqIntS_3] at h
      refine W_seq ?_
      refine W_seq ?_
      refine W_regV he rfl ?_
      refine v0 (sM rfl [] rfl) rfl ?_
      refine v0 (sM rfl [] rfl) rfl ?_
      refine v0 (sLm rfl rfl rfl rfl) rfl ?_
      refine vB (sBi rfl rfl rfl rfl) rfl rfl fun b4 hb4 => ?_
      cases b4 with
      | true =>
        replace h := brT hb4 h
        refine ve ?_
        refine W2 [0, 1, 5, 14] [] [] (l := [(0, .c (.row _ _ _)), (1, .c (.row _ _ _)), (5, .c (.int _ _)), (14, .c (.bool true))]) (h := []) (h' := []) trivial rfl rfl rfl ?_
        refine W_true rfl ?_
        refine W_skip ?_
        refine W_seq ?_
        refine W_block ?_
        refine W_seq ?_
        refine W_regD he rfl rfl rfl ?_
        refine g0 (sM rfl [] rfl) rfl ?_
        refine g0 (sM rfl [] rfl) rfl ?_
        refine chkc h ?_; clear h; intro c5 h
        refine g0 (sIRm rfl rfl rfl rfl c5) rfl ?_
        refine g0 (sLI rfl rfl (en_i64 (gt a0 v2)) (gt_at _ c5) rfl rfl rfl) rfl ?_
        refine g0 (sM rfl [] rfl) rfl ?_
        refine g0 (sM rfl [] rfl) rfl ?_
        refine chkc h ?_; clear h; intro c6 h
        refine g0 (sIRm rfl rfl rfl rfl c6) rfl ?_
        refine g0 (sLI rfl rfl (en_i64 (gt a1 v2)) (gt_at _ c6) rfl rfl rfl) rfl ?_
        refine gB (sBi rfl rfl rfl rfl) rfl rfl fun b7 hb7 => ?_
        cases b7 with
        | true =>
          replace h := brT hb7 h
          refine ge ⟨rfl, ?_⟩
          refine W2 [0, 1, 5, 25] [] [] (l := [(0, .c (.row _ _ _)), (1, .c (.row _ _ _)), (5, .c (.int _ _)), (25, .c (.bool true))]) (h := []) (h' := []) trivial rfl rfl rfl ?_
          refine W_true rfl ?_
          refine W_seq ?_
          refine W_regV he rfl ?_
          refine v0 (sA rfl [] rfl) rfl ?_
          refine ve ?_
          refine W2 [4] [] [] (l := [(4, .c (.bool false))]) (h := []) (h' := []) trivial rfl rfl rfl ?_
          obtain rfl := Option.some.inj h
          exact W_ret (r0 rfl rfl)
        | false =>
          replace h := brF hb7 h
          refine ge ⟨rfl, ?_⟩
          refine W2 [0, 1, 5, 25] [] [] (l := [(0, .c (.row _ _ _)), (1, .c (.row _ _ _)), (5, .c (.int _ _)), (25, .c (.bool false))]) (h := []) (h' := []) trivial rfl rfl rfl ?_
          refine W_false rfl ?_
          refine W_skip ?_
          refine W_regV he rfl ?_
          refine v0 (sM rfl [] rfl) rfl ?_
          refine v0 (sBi rfl rfl rfl rfl) rfl ?_
          refine v0 (sA rfl [] rfl) rfl ?_
          refine ve ?_
          exact ⟨n3, _, Nat.lt_succ_self n3, wk2 [0, 1, 5] [] [] (l := [(0, .c (.row _ _ _)), (1, .c (.row _ _ _)), (5, .c (.int _ _))]) (h := []) (h' := []) trivial rfl rfl rfl, _, rfl, h⟩
      | false =>
        replace h := brF hb4 h
        refine ve ?_
        refine W2 [0, 1, 5, 14] [] [] (l := [(0, .c (.row _ _ _)), (1, .c (.row _ _ _)), (5, .c (.int _ _)), (14, .c (.bool false))]) (h := []) (h' := []) trivial rfl rfl rfl ?_
        refine W_false rfl ?_
        refine W_exit (ex_then (ex_then (ex_hit ?_)))
        refine W_seq ?_
        refine W_regV he rfl ?_
        refine v0 (sA rfl [] rfl) rfl ?_
        refine ve ?_
        refine W2 [4] [] [] (l := [(4, .c (.bool true))]) (h := []) (h' := []) trivial rfl rfl rfl ?_
        obtain rfl := Option.some.inj h
        exact W_ret (r0 rfl rfl)
theorem ok_laws_eqIntS : FnOk Try.prog 29 := ⟨_, Try.func29, rfl, rfl⟩


/-! ### loop.example/g00499/laws.eqPool -/
def m_laws_eqPool (K : Nat) (a0 : T_impl_Pool) (a1 : T_impl_Pool) : Option (Bool) := ((m_laws_eqByteS K a0.fMem a1.fMem).bind fun r1 => (bif r1 then ((m_laws_eqIntS K a0.fSt a1.fSt).bind fun r3 => (bif r3 then ((m_laws_eqIntS K a0.fOwn a1.fOwn).bind fun r5 => (bif r5 then some true else some false)) else some false)) else some false))
set_option maxRecDepth 20000 in
set_option maxHeartbeats 8000000 in
theorem w_laws_eqPool (K : Nat) (a0 : T_impl_Pool) (a1 : T_impl_Pool) (r : Bool) (h : m_laws_eqPool K a0 a1 = some r) : Sp Try.prog 56 [.g [.row false 1 (a0.fMem.map en_u8), .row false 1 (a0.fSt.map en_i64), .row false 1 (a0.fOwn.map en_i64)], .g [.row false 1 (a1.fMem.map en_u8), .row false 1 (a1.fSt.map en_i64), .row false 1 (a1.fOwn.map en_i64)]] [] (.c (.bool r)) [] := by
  refine Sp.of_W tabOk Try.func56 rfl rfl (Nat.le_of_ble_eq_true rfl) (Nat.le_of_ble_eq_true rfl) fun F hP hN hm => ?_
  obtain ⟨P, N, w0, σ0, β0, m⟩ := F
  obtain rfl : P = Try.prog := hP
  obtain rfl : N = 23 := hN
  obtain rfl : m = 1 := hm
  have he : Env ⟨Try.prog, 23, w0, σ0, β0, 1⟩ tab := ⟨Nat.le_of_ble_eq_true rfl, tabOk⟩
  unfold m_laws_eqPool at h
  refine W_seq ?_
  refine W_regV he rfl ?_
  refine v0 (sBx rfl [] rfl rfl 101 rfl) rfl ?_
  refine v0 (sBx rfl [] rfl rfl 102 rfl) rfl ?_
  refine v0 (sA rfl [] rfl) rfl ?_
  refine ve ?_
  refine W2 [2, 3] [101, 102] [] (l := [(2, .c (.ptr _ _ _ _)), (3, .c (.ptr _ _ _ _))]) (h := [(101, ⟨0, 3, [[.row _ _ _, .row _ _ _, .row _ _ _]]⟩), (102, ⟨0, 3, [[.row _ _ _, .row _ _ _, .row _ _ _]]⟩)]) (h' := []) trivial rfl rfl rfl ?_
  refine W_seq ?_
  refine W_seq ?_
  refine W_regV he rfl ?_
  refine v0 (sFP rfl rfl rfl) rfl ?_
  refine v0 (sLd rfl rfl) rfl ?_
  refine v0 (sFP rfl rfl rfl) rfl ?_
  refine v0 (sLd rfl rfl) rfl ?_
  refine bndc h ?_; clear h; intro r1 hr1 h
  refine vB (sCm (w_laws_eqByteS K a0.fMem a1.fMem _ hr1) ok_laws_eqByteS rfl rfl rfl rfl) rfl rfl fun b2 hb2 => ?_
  cases b2 with
  | true =>
    replace h := brT hb2 h
    refine v0 (sNt rfl rfl) rfl ?_
    refine ve ?_
    refine W2 [2, 3, 10] [101, 102] [] (l := [(2, .c (.ptr _ _ _ _)), (3, .c (.ptr _ _ _ _)), (10, .c (.bool false))]) (h := [(101, ⟨0, 3, [[.row _ _ _, .row _ _ _, .row _ _ _]]⟩), (102, ⟨0, 3, [[.row _ _ _, .row _ _ _, .row _ _ _]]⟩)]) (h' := []) trivial rfl rfl rfl ?_
    refine W_false rfl ?_
    refine W_skip ?_
    refine W_seq ?_
    refine W_seq ?_
    refine W_regV he rfl ?_
    refine v0 (sFP rfl rfl rfl) rfl ?_
    refine v0 (sLd rfl rfl) rfl ?_
    refine v0 (sFP rfl rfl rfl) rfl ?_
    refine v0 (sLd rfl rfl) rfl ?_
    refine bndc h ?_; clear h; intro r3 hr3 h
    refine vB (sCm (w_laws_eqIntS K a0.fSt a1.fSt _ hr3) ok_laws_eqIntS rfl rfl rfl rfl) rfl rfl fun b4 hb4 => ?_
    cases b4 with
    | true =>
      replace h := brT hb4 h
      refine v0 (sNt rfl rfl) rfl ?_
      refine ve ?_
      refine W2 [2, 3, 16] [101, 102] [] (l := [(2, .c (.ptr _ _ _ _)), (3, .c (.ptr _ _ _ _)), (16, .c (.bool false))]) (h := [(101, ⟨0, 3, [[.row _ _ _, .row _ _ _, .row _ _ _]]⟩), (102, ⟨0, 3, [[.row _ _ _, .row _ _ _, .row _ _ _]]⟩)]) (h' := []) trivial rfl rfl rfl ?_
      refine W_false rfl ?_
      refine W_skip ?_
      refine W_seq ?_
      refine W_seq ?_
      refine W_regV he rfl ?_
      refine v0 (sFP rfl rfl rfl) rfl ?_
      refine v0 (sLd rfl rfl) rfl ?_
      refine v0 (sFP rfl rfl rfl) rfl ?_
      refine v0 (sLd rfl rfl) rfl ?_
      refine bndc h ?_; clear h; intro r5 hr5 h
      refine vB (sCm (w_laws_eqIntS K a0.fOwn a1.fOwn _ hr5) ok_laws_eqIntS rfl rfl rfl rfl) rfl rfl fun b6 hb6 => ?_
      cases b6 with
      | true =>
        replace h := brT hb6 h
        refine v0 (sNt rfl rfl) rfl ?_
        refine ve ?_
        refine W2 [22] [] [] (l := [(22, .c (.bool false))]) (h := []) (h' := []) trivial rfl rfl rfl ?_
        refine W_false rfl ?_
        refine W_skip ?_
        refine W_seq ?_
        refine W_regV he rfl ?_
        refine v0 (sA rfl [] rfl) rfl ?_
        refine ve ?_
        refine W2 [4] [] [] (l := [(4, .c (.bool true))]) (h := []) (h' := []) trivial rfl rfl rfl ?_
        obtain rfl := Option.some.inj h
        exact W_ret (r0 rfl rfl)
      | false =>
        replace h := brF hb6 h
        refine v0 (sNt rfl rfl) rfl ?_
        refine ve ?_
        refine W2 [22] [] [] (l := [(22, .c (.bool true))]) (h := []) (h' := []) trivial rfl rfl rfl ?_
        refine W_true rfl ?_
        refine W_seq ?_
        refine W_regV he rfl ?_
        refine v0 (sA rfl [] rfl) rfl ?_
        refine ve ?_
        refine W2 [4] [] [] (l := [(4, .c (.bool false))]) (h := []) (h' := []) trivial rfl rfl rfl ?_
        obtain rfl := Option.some.inj h
        exact W_ret (r0 rfl rfl)
    | false =>
      replace h := brF hb4 h
      refine v0 (sNt rfl rfl) rfl ?_
      refine ve ?_
      refine W2 [2, 3, 16] [101, 102] [] (l := [(2, .c (.ptr _ _ _ _)), (3, .c (.ptr _ _ _ _)), (16, .c (.bool true))]) (h := [(101, ⟨0, 3, [[.row _ _ _, .row _ _ _, .row _ _ _]]⟩), (102, ⟨0, 3, [[.row _ _ _, .row _ _ _, .row _ _ _]]⟩)]) (h' := []) trivial rfl rfl rfl ?_
      refine W_true rfl ?_
      refine W_seq ?_
      refine W_regV he rfl ?_
      refine v0 (sA rfl [] rfl) rfl ?_
      refine ve ?_
      refine W2 [4] [] [] (l := [(4, .c (.bool false))]) (h := []) (h' := []) trivial rfl rfl rfl ?_
      obtain rfl := Option.some.inj h
      exact W_ret (r0 rfl rfl)
  | false =>
    replace h := brF hb2 h
    refine v0 (sNt rfl rfl) rfl ?_
    refine ve ?_
    refine W2 [2, 3, 10] [101, 102] [] (l := [(2, .c (.ptr _ _ _ _)), (3, .c (.ptr _ _ _ _)), (10, .c (.bool true))]) (h := [(101, ⟨0, 3, [[.row _ _ _, .row _ _ _, .row _ _ _]]⟩), (102, ⟨0, 3, [[.row _ _ _, .row _ _ _, .row _ _ _]]⟩)]) (h' := []) trivial rfl rfl rfl ?_
    refine W_true rfl ?_
    refine W_seq ?_
    refine W_regV he rfl ?_
    refine v0 (sA rfl [] rfl) rfl ?_
    refine ve ?_
    refine W2 [4] [] [] (l := [(4, .c (.bool false))]) (h := []) (h' := []) trivial rfl rfl rfl ?_
    obtain rfl := Option.some.inj h
    exact W_ret (r0 rfl rfl)
theorem ok_laws_eqPool : FnOk Try.prog 56 := ⟨_, Try.func56, rfl, rfl⟩


/-! ### loop.example/g00499/laws.eqThing -/
def m_laws_eqThing (K : Nat) (a0 : T_impl_Thing) (a1 : T_impl_Thing) : Option (Bool) := (bif (a0.fAt != a1.fAt) then some false else (bif (a0.fLen != a1.fLen) then some false else (bif (a0.fRun != a1.fRun) then some false else some true)))
set_option maxRecDepth 20000 in
set_option maxHeartbeats 8000000 in
theorem w_laws_eqThing (K : Nat) (a0 : T_impl_Thing) (a1 : T_impl_Thing) (r : Bool) (h : m_laws_eqThing K a0 a1 = some r) : Sp Try.prog 121 [.g [.int .i64 a0.fAt, .int .i64 a0.fLen, .int .i64 a0.fRun], .g [.int .i64 a1.fAt, .int .i64 a1.fLen, .int .i64 a1.fRun]] [] (.c (.bool r)) [] := by
  refine Sp.of_W tabOk Try.func121 rfl rfl (Nat.le_of_ble_eq_true rfl) (Nat.le_of_ble_eq_true rfl) fun F hP hN hm => ?_
  obtain ⟨P, N, w0, σ0, β0, m⟩ := F
  obtain rfl : P = Try.prog := hP
  obtain rfl : N = 20 := hN
  obtain rfl : m = 1 := hm
  have he : Env ⟨Try.prog, 20, w0, σ0, β0, 1⟩ tab := ⟨Nat.le_of_ble_eq_true rfl, tabOk⟩
  unfold m_laws_eqThing at h
  refine W_seq ?_
  refine W_regV he rfl ?_
  refine v0 (sBx rfl [] rfl rfl 101 rfl) rfl ?_
  refine v0 (sBx rfl [] rfl rfl 102 rfl) rfl ?_
  refine v0 (sA rfl [] rfl) rfl ?_
  refine ve ?_
  refine W2 [2, 3] [101, 102] [] (l := [(2, .c (.ptr _ _ _ _)), (3, .c (.ptr _ _ _ _))]) (h := [(101, ⟨0, 3, [[.int _ _, .int _ _, .int _ _]]⟩), (102, ⟨0, 3, [[.int _ _, .int _ _, .int _ _]]⟩)]) (h' := []) trivial rfl rfl rfl ?_
  refine W_seq ?_
  refine W_seq ?_
  refine W_regV he rfl ?_
  refine v0 (sFP rfl rfl rfl) rfl ?_
  refine v0 (sLd rfl rfl) rfl ?_
  refine v0 (sFP rfl rfl rfl) rfl ?_
  refine v0 (sLd rfl rfl) rfl ?_
  refine vB (sBi rfl rfl rfl rfl) rfl rfl fun b1 hb1 => ?_
  cases b1 with
  | true =>
    replace h := brT hb1 h
    refine ve ?_
    refine W2 [2, 3, 9] [101, 102] [] (l := [(2, .c (.ptr _ _ _ _)), (3, .c (.ptr _ _ _ _)), (9, .c (.bool true))]) (h := [(101, ⟨0, 3, [[.int _ _, .int _ _, .int _ _]]⟩), (102, ⟨0, 3, [[.int _ _, .int _ _, .int _ _]]⟩)]) (h' := []) trivial rfl rfl rfl ?_
    refine W_true rfl ?_
    refine W_seq ?_
    refine W_regV he rfl ?_
    refine v0 (sA rfl [] rfl) rfl ?_
    refine ve ?_
    refine W2 [4] [] [] (l := [(4, .c (.bool false))]) (h := []) (h' := []) trivial rfl rfl rfl ?_
    obtain rfl := Option.some.inj h
    exact W_ret (r0 rfl rfl)
  | false =>
    replace h := brF hb1 h
    refine ve ?_
    refine W2 [2, 3, 9] [101, 102] [] (l := [(2, .c (.ptr _ _ _ _)), (3, .c (.ptr _ _ _ _)), (9, .c (.bool false))]) (h := [(101, ⟨0, 3, [[.int _ _, .int _ _, .int _ _]]⟩), (102, ⟨0, 3, [[.int _ _, .int _ _, .int _ _]]⟩)]) (h' := []) trivial rfl rfl rfl ?_
    refine W_false rfl ?_
    refine W_skip ?_
    refine W_seq ?_
    refine W_seq ?_
    refine W_regV he rfl ?_
    refine v0 (sFP rfl rfl rfl) rfl ?_
    refine v0 (sLd rfl rfl) rfl ?_
    refine v0 (sFP rfl rfl rfl) rfl ?_
    refine v0 (sLd rfl rfl) rfl ?_
    refine vB (sBi rfl rfl rfl rfl) rfl rfl fun b2 hb2 => ?_
    cases b2 with
    | true =>
      replace h := brT hb2 h
      refine ve ?_
      refine W2 [2, 3, 14] [101, 102] [] (l := [(2, .c (.ptr _ _ _ _)), (3, .c (.ptr _ _ _ _)), (14, .c (.bool true))]) (h := [(101, ⟨0, 3, [[.int _ _, .int _ _, .int _ _]]⟩), (102, ⟨0, 3, [[.int _ _, .int _ _, .int _ _]]⟩)]) (h' := []) trivial rfl rfl rfl ?_
      refine W_true rfl ?_
      refine W_seq ?_
      refine W_regV he rfl ?_
      refine v0 (sA rfl [] rfl) rfl ?_
      refine ve ?_
      refine W2 [4] [] [] (l := [(4, .c (.bool false))]) (h := []) (h' := []) trivial rfl rfl rfl ?_
      obtain rfl := Option.some.inj h
      exact W_ret (r0 rfl rfl)
    | false =>
      replace h := brF hb2 h
      refine ve ?_
      refine W2 [2, 3, 14] [101, 102] [] (l := [(2, .c (.ptr _ _ _ _)), (3, .c (.ptr _ _ _ _)), (14, .c (.bool false))]) (h := [(101, ⟨0, 3, [[.int _ _, .int _ _, .int _ _]]⟩), (102, ⟨0, 3, [[.int _ _, .int _ _, .int _ _]]⟩)]) (h' := []) trivial rfl rfl rfl ?_
      refine W_false rfl ?_
      refine W_skip ?_
      refine W_seq ?_
      refine W_seq ?_
      refine W_regV he rfl ?_
      refine v0 (sFP rfl rfl rfl) rfl ?_
      refine v0 (sLd rfl rfl) rfl ?_
      refine v0 (sFP rfl rfl rfl) rfl ?_
      refine v0 (sLd rfl rfl) rfl ?_
      refine vB (sBi rfl rfl rfl rfl) rfl rfl fun b3 hb3 => ?_
      cases b3 with
      | true =>
        replace h := brT hb3 h
        refine ve ?_
        refine W2 [19] [] [] (l := [(19, .c (.bool true))]) (h := []) (h' := []) trivial rfl rfl rfl ?_
        refine W_true rfl ?_
        refine W_seq ?_
        refine W_regV he rfl ?_
        refine v0 (sA rfl [] rfl) rfl ?_
        refine ve ?_
        refine W2 [4] [] [] (l := [(4, .c (.bool false))]) (h := []) (h' := []) trivial rfl rfl rfl ?_
        obtain rfl := Option.some.inj h
        exact W_ret (r0 rfl rfl)
      | false =>
        replace h := brF hb3 h
        refine ve ?_
        refine W2 [19] [] [] (l := [(19, .c (.bool false))]) (h := []) (h' := []) trivial rfl rfl rfl ?_
        refine W_false rfl ?_
        refine W_skip ?_
        refine W_seq ?_
        refine W_regV he rfl ?_
        refine v0 (sA rfl [] rfl) rfl ?_
        refine ve ?_
        refine W2 [4] [] [] (l := [(4, .c (.bool true))]) (h := []) (h' := []) trivial rfl rfl rfl ?_
        obtain rfl := Option.some.inj h
        exact W_ret (r0 rfl rfl)
theorem ok_laws_eqThing : FnOk Try.prog 121 := ⟨_, Try.func121, rfl, rfl⟩


/-! ### loop.example/g00499/laws.eqThingS -/
def l_laws_eqThingS_3 (K : Nat) (a0 : List T_impl_Thing) (a1 : List T_impl_Thing) : Nat → Int → Option (Bool)
  | 0, _ => none
  | n3 + 1, v2 => (bif (decide (v2 < (a0.length : Int))) then (if (0 : Int) ≤ v2 ∧ v2 < (a0.length : Int) then (if (0 : Int) ≤ v2 ∧ v2 < (a1.length : Int) then ((m_laws_eqThing K (gt a0 v2) (gt a1 v2)).bind fun r7 => (bif r7 then (l_laws_eqThingS_3 K a0 a1 n3 (iAdd .i64 v2 1)) else some false)) else none) else none) else some true)
def m_laws_eqThingS (K : Nat) (a0 : List T_impl_Thing) (a1 : List T_impl_Thing) : Option (Bool) := (bif ((a0.length : Int) != (a1.length : Int)) then some false else (l_laws_eqThingS_3 K a0 a1 K 0))
set_option maxRecDepth 20000 in
set_option maxHeartbeats 8000000 in
theorem w_laws_eqThingS (K : Nat) (a0 : List T_impl_Thing) (a1 : List T_impl_Thing) (r : Bool) (h : m_laws_eqThingS K a0 a1 = some r) : Sp Try.prog 114 [.c (.row false 3 (a0.map en_impl_Thing)), .c (.row false 3 (a1.map en_impl_Thing))] [] (.c (.bool r)) [] := by
  refine Sp.of_W tabOk Try.func114 rfl rfl (Nat.le_of_ble_eq_true rfl) (Nat.le_of_ble_eq_true rfl) fun F hP hN hm => ?_
  obtain ⟨P, N, w0, σ0, β0, m⟩ := F
  obtain rfl : P = Try.prog := hP
  obtain rfl : N = 27 := hN
  obtain rfl : m = 1 := hm
  have he : Env ⟨Try.prog, 27, w0, σ0, β0, 1⟩ tab := ⟨Nat.le_of_ble_eq_true rfl, tabOk⟩
  unfold m_laws_eqThingS at h
  refine W_seq ?_
  refine W_regV he rfl ?_
  refine v0 (sA rfl [] rfl) rfl ?_
  refine ve ?_
  refine W2 [0, 1] [] [] (l := [(0, .c (.row _ _ _)), (1, .c (.row _ _ _))]) (h := []) (h' := []) trivial rfl rfl rfl ?_
  refine W_seq ?_
  refine W_seq ?_
  refine W_regV he rfl ?_
  refine v0 (sM rfl [] rfl) rfl ?_
  refine v0 (sLm rfl rfl rfl rfl) rfl ?_
  refine v0 (sM rfl [] rfl) rfl ?_
  refine v0 (sLm rfl rfl rfl rfl) rfl ?_
  refine vB (sBi rfl rfl rfl rfl) rfl rfl fun b1 hb1 => ?_
  cases b1 with
  | true =>
    replace h := brT hb1 h
    refine ve ?_
    refine W2 [0, 1, 10] [] [] (l := [(0, .c (.row _ _ _)), (1, .c (.row _ _ _)), (10, .c (.bool true))]) (h := []) (h' := []) trivial rfl rfl rfl ?_
    refine W_true rfl ?_
    refine W_seq ?_
    refine W_regV he rfl ?_
    refine v0 (sA rfl [] rfl) rfl ?_
    refine ve ?_
    refine W2 [4] [] [] (l := [(4, .c (.bool false))]) (h := []) (h' := []) trivial rfl rfl rfl ?_
    obtain rfl := Option.some.inj h
    exact W_ret (r0 rfl rfl)
  | false =>
    replace h := brF hb1 h
    refine ve ?_
    refine W2 [0, 1, 10] [] [] (l := [(0, .c (.row _ _ _)), (1, .c (.row _ _ _)), (10, .c (.bool false))]) (h := []) (h' := []) trivial rfl rfl rfl ?_
    refine W_false rfl ?_
    refine W_skip ?_
    refine W_seq ?_
    refine W_seq ?_
    refine W_regV he rfl ?_
    refine v0 (sA rfl [] rfl) rfl ?_
    refine ve ?_
    refine W2 [0, 1, 5] [] [] (l := [(0, .c (.row _ _ _)), (1, .c (.row _ _ _)), (5, .c (.int _ _))]) (h := []) (h' := []) trivial rfl rfl rfl ?_
    refine W_block ?_
    refine W2 [0, 1, 5] [] [] (l := [(0, .c (.row _ _ _)), (1, .c (.row _ _ _)), (5, .c (.int _ _))]) (h := []) (h' := []) trivial rfl rfl rfl ?_
    refine W_loopW (fun n3 S => ∃ (v2 : Int), S = StL [(0, .c (.row false 3 (a0.map en_impl_Thing))), (1, .c (.row false 3 (a1.map en_impl_Thing))), (5, .c (.int .i64 v2))] ([] ++ []) ∧ l_laws_eqThingS_3 K a0 a1 n3 v2 = some r) K ⟨_, rfl, h⟩ ?_
    rintro n3 S ⟨v2, rfl, h⟩
    cases n3 with
    | zero => simp [l_laws_eqThingS_3] at h
    | succ n3 =>
      rw [l_laws_eqThingS_3] at h
      refine W_seq ?_
      refine W_seq ?_
      refine W_regV he rfl ?_
      refine v0 (sM rfl [] rfl) rfl ?_
      refine v0 (sM rfl [] rfl) rfl ?_
      refine v0 (sLm rfl rfl rfl rfl) rfl ?_
      refine vB (sBi rfl rfl rfl rfl) rfl rfl fun b4 hb4 => ?_
      cases b4 with
      | true =>
        replace h := brT hb4 h
        refine ve ?_
        refine W2 [0, 1, 5, 14] [] [] (l := [(0, .c (.row _ _ _)), (1, .c (.row _ _ _)), (5, .c (.int _ _)), (14, .c (.bool true))]) (h := []) (h' := []) trivial rfl rfl rfl ?_
        refine W_true rfl ?_
        refine W_skip ?_
        refine W_seq ?_
        refine W_block ?_
        refine W_seq ?_
        refine W_regD he rfl rfl rfl ?_
        refine g0 (sM rfl [] rfl) rfl ?_
        refine g0 (sM rfl [] rfl) rfl ?_
        refine chkc h ?_; clear h; intro c5 h
        refine g0 (sIRm rfl rfl rfl rfl c5) rfl ?_
        refine g0 (sLI rfl rfl (en_impl_Thing (gt a0 v2)) (gt_at _ c5) rfl rfl rfl) rfl ?_
        refine g0 (sM rfl [] rfl) rfl ?_
        refine g0 (sM rfl [] rfl) rfl ?_
        refine chkc h ?_; clear h; intro c6 h
        refine g0 (sIRm rfl rfl rfl rfl c6) rfl ?_
        refine g0 (sLI rfl rfl (en_impl_Thing (gt a1 v2)) (gt_at _ c6) rfl rfl rfl) rfl ?_
        refine bndc h ?_; clear h; intro r7 hr7 h
        refine gB (sCm (w_laws_eqThing K (gt a0 v2) (gt a1 v2) _ hr7) ok_laws_eqThing rfl rfl rfl rfl) rfl rfl fun b8 hb8 => ?_
        cases b8 with
        | true =>
          replace h := brT hb8 h
          refine g0 (sNt rfl rfl) rfl ?_
          refine ge ⟨rfl, ?_⟩
          refine W2 [0, 1, 5, 26] [] [] (l := [(0, .c (.row _ _ _)), (1, .c (.row _ _ _)), (5, .c (.int _ _)), (26, .c (.bool false))]) (h := []) (h' := []) trivial rfl rfl rfl ?_
          refine W_false rfl ?_
          refine W_skip ?_
          refine W_regV he rfl ?_
          refine v0 (sM rfl [] rfl) rfl ?_
          refine v0 (sBi rfl rfl rfl rfl) rfl ?_
          refine v0 (sA rfl [] rfl) rfl ?_
          refine ve ?_
          exact ⟨n3, _, Nat.lt_succ_self n3, wk2 [0, 1, 5] [] [] (l := [(0, .c (.row _ _ _)), (1, .c (.row _ _ _)), (5, .c (.int _ _))]) (h := []) (h' := []) trivial rfl rfl rfl, _, rfl, h⟩
        | false =>
          replace h := brF hb8 h
          refine g0 (sNt rfl rfl) rfl ?_
          refine ge ⟨rfl, ?_⟩
          refine W2 [0, 1, 5, 26] [] [] (l := [(0, .c (.row _ _ _)), (1, .c (.row _ _ _)), (5, .c (.int _ _)), (26, .c (.bool true))]) (h := []) (h' := []) trivial rfl rfl rfl ?_
          refine W_true rfl ?_
          refine W_seq ?_
          refine W_regV he rfl ?_
          refine v0 (sA rfl [] rfl) rfl ?_
          refine ve ?_
          refine W2 [4] [] [] (l := [(4, .c (.bool false))]) (h := []) (h' := []) trivial rfl rfl rfl ?_
          obtain rfl := Option.some.inj h
          exact W_ret (r0 rfl rfl)
      | false =>
        replace h := brF hb4 h
        refine ve ?_
        refine W2 [0, 1, 5, 14] [] [] (l := [(0, .c (.row _ _ _)), (1, .c (.row _ _ _)), (5, .c (.int _ _)), (14, .c (.bool false))]) (h := []) (h' := []) trivial rfl rfl rfl ?_
        refine W_false rfl ?_
        refine W_exit (ex_then (ex_then (ex_hit ?_)))
        refine W_seq ?_
        refine W_regV he rfl ?_
        refine v0 (sA rfl [] rfl) rfl ?_
        refine ve ?_
        refine W2 [4] [] [] (l := [(4, .c (.bool true))]) (h := []) (h' := []) trivial rfl rfl rfl ?_
        obtain rfl := Option.some.inj h
        exact W_ret (r0 rfl rfl)
theorem ok_laws_eqThingS : FnOk Try.prog 114 := ⟨_, Try.func114, rfl, rfl⟩


/-! ### loop.example/g00499/laws.eqNode -/
def m_laws_eqNode (K : Nat) (a0 : T_impl_Node) (a1 : T_impl_Node) : Option (Bool) := (bif (a0.fSt != a1.fSt) then some false else (bif (a0.fGen != a1.fGen) then some false else (bif (a0.fEp != a1.fEp) then some false else (bif (a0.fUp != a1.fUp) then some false else (bif (a0.fUpEp != a1.fUpEp) then some false else (bif (a0.fFirst != a1.fFirst) then some false else (bif (a0.fNext != a1.fNext) then some false else (bif (a0.fPrev != a1.fPrev) then some false else ((m_laws_eqIntS K a0.fChunks a1.fChunks).bind fun r9 => (bif r9 then (bif (a0.fCur != a1.fCur) then some false else (bif (a0.fBump != a1.fBump) then some false else ((m_laws_eqThingS K a0.fThings a1.fThings).bind fun r13 => (bif r13 then ((m_laws_eqIntS K a0.fTags a1.fTags).bind fun r15 => (bif r15 then some true else some false)) else some false)))) else some false))))))))))
set_option maxRecDepth 20000 in
set_option maxHeartbeats 8000000 in
theorem w_laws_eqNode (K : Nat) (a0 : T_impl_Node) (a1 : T_impl_Node) (r : Bool) (h : m_laws_eqNode K a0 a1 = some r) : Sp Try.prog 89 [.g [.int .i64 a0.fSt, .int .i64 a0.fGen, .int .i64 a0.fEp, .int .i64 a0.fUp, .int .i64 a0.fUpEp, .int .i64 a0.fFirst, .int .i64 a0.fNext, .int .i64 a0.fPrev, .row false 1 (a0.fChunks.map en_i64), .int .i64 a0.fCur, .int .i64 a0.fBump, .row false 3 (a0.fThings.map en_impl_Thing), .row false 1 (a0.fTags.map en_i64)], .g [.int .i64 a1.fSt, .int .i64 a1.fGen, .int .i64 a1.fEp, .int .i64 a1.fUp, .int .i64 a1.fUpEp, .int .i64 a1.fFirst, .int .i64 a1.fNext, .int .i64 a1.fPrev, .row false 1 (a1.fChunks.map en_i64), .int .i64 a1.fCur, .int .i64 a1.fBump, .row false 3 (a1.fThings.map en_impl_Thing), .row false 1 (a1.fTags.map en_i64)]] [] (.c (.bool r)) [] := by
  refine Sp.of_W tabOk Try.func89 rfl rfl (Nat.le_of_ble_eq_true rfl) (Nat.le_of_ble_eq_true rfl) fun F hP hN hm => ?_
  obtain ⟨P, N, w0, σ0, β0, m⟩ := F
  obtain rfl : P = Try.prog := hP
  obtain rfl : N = 73 := hN
  obtain rfl : m = 1 := hm
  have he : Env ⟨Try.prog, 73, w0, σ0, β0, 1⟩ tab := ⟨Nat.le_of_ble_eq_true rfl, tabOk⟩
  unfold m_laws_eqNode at h
  refine W_seq ?_
  refine W_regV he rfl ?_
  refine v0 (sBx rfl [] rfl rfl 101 rfl) rfl ?_
  refine v0 (sBx rfl [] rfl rfl 102 rfl) rfl ?_
  refine v0 (sA rfl [] rfl) rfl ?_
  refine ve ?_
  refine W2 [2, 3] [101, 102] [] (l := [(2, .c (.ptr _ _ _ _)), (3, .c (.ptr _ _ _ _))]) (h := [(101, ⟨0, 13, [[.int _ _, .int _ _, .int _ _, .int _ _, .int _ _, .int _ _, .int _ _, .int _ _, .row _ _ _, .int _ _, .int _ _, .row _ _ _, .row _ _ _]]⟩), (102, ⟨0, 13, [[.int _ _, .int _ _, .int _ _, .int _ _, .int _ _, .int _ _, .int _ _, .int _ _, .row _ _ _, .int _ _, .int _ _, .row _ _ _, .row _ _ _]]⟩)]) (h' := []) trivial rfl rfl rfl ?_
  refine W_seq ?_
  refine W_seq ?_
  refine W_regV he rfl ?_
  refine v0 (sFP rfl rfl rfl) rfl ?_
  refine v0 (sLd rfl rfl) rfl ?_
  refine v0 (sFP rfl rfl rfl) rfl ?_
  refine v0 (sLd rfl rfl) rfl ?_
  refine vB (sBi rfl rfl rfl rfl) rfl rfl fun b1 hb1 => ?_
  cases b1 with
  | true =>
    replace h := brT hb1 h
    refine ve ?_
    refine W2 [2, 3, 9] [101, 102] [] (l := [(2, .c (.ptr _ _ _ _)), (3, .c (.ptr _ _ _ _)), (9, .c (.bool true))]) (h := [(101, ⟨0, 13, [[.int _ _, .int _ _, .int _ _, .int _ _, .int _ _, .int _ _, .int _ _, .int _ _, .row _ _ _, .int _ _, .int _ _, .row _ _ _, .row _ _ _]]⟩), (102, ⟨0, 13, [[.int _ _, .int _ _, .int _ _, .int _ _, .int _ _, .int _ _, .int _ _, .int _ _, .row _ _ _, .int _ _, .int _ _, .row _ _ _, .row _ _ _]]⟩)]) (h' := []) trivial rfl rfl rfl ?_
    refine W_true rfl ?_
    refine W_seq ?_
    refine W_regV he rfl ?_
    refine v0 (sA rfl [] rfl) rfl ?_
    refine ve ?_
    refine W2 [4] [] [] (l := [(4, .c (.bool false))]) (h := []) (h' := []) trivial rfl rfl rfl ?_
    obtain rfl := Option.some.inj h
    exact W_ret (r0 rfl rfl)
  | false =>
    replace h := brF hb1 h
    refine ve ?_
    refine W2 [2, 3, 9] [101, 102] [] (l := [(2, .c (.ptr _ _ _ _)), (3, .c (.ptr _ _ _ _)), (9, .c (.bool false))]) (h := [(101, ⟨0, 13, [[.int _ _, .int _ _, .int _ _, .int _ _, .int _ _, .int _ _, .int _ _, .int _ _, .row _ _ _, .int _ _, .int _ _, .row _ _ _, .row _ _ _]]⟩), (102, ⟨0, 13, [[.int _ _, .int _ _, .int _ _, .int _ _, .int _ _, .int _ _, .int _ _, .int _ _, .row _ _ _, .int _ _, .int _ _, .row _ _ _, .row _ _ _]]⟩)]) (h' := []) trivial rfl rfl rfl ?_
    refine W_false rfl ?_
    refine W_skip ?_
    refine W_seq ?_
    refine W_seq ?_
    refine W_regV he rfl ?_
    refine v0 (sFP rfl rfl rfl) rfl ?_
    refine v0 (sLd rfl rfl) rfl ?_
    refine v0 (sFP rfl rfl rfl) rfl ?_
    refine v0 (sLd rfl rfl) rfl ?_
    refine vB (sBi rfl rfl rfl rfl) rfl rfl fun b2 hb2 => ?_
    cases b2 with
    | true =>
      replace h := brT hb2 h
      refine ve ?_
      refine W2 [2, 3, 14] [101, 102] [] (l := [(2, .c (.ptr _ _ _ _)), (3, .c (.ptr _ _ _ _)), (14, .c (.bool true))]) (h := [(101, ⟨0, 13, [[.int _ _, .int _ _, .int _ _, .int _ _, .int _ _, .int _ _, .int _ _, .int _ _, .row _ _ _, .int _ _, .int _ _, .row _ _ _, .row _ _ _]]⟩), (102, ⟨0, 13, [[.int _ _, .int _ _, .int _ _, .int _ _, .int _ _, .int _ _, .int _ _, .int _ _, .row _ _ _, .int _ _, .int _ _, .row _ _ _, .row _ _ _]]⟩)]) (h' := []) trivial rfl rfl rfl ?_
      refine W_true rfl ?_
      refine W_seq ?_
      refine W_regV he rfl ?_
      refine v0 (sA rfl [] rfl) rfl ?_
      refine ve ?_
      refine W2 [4] [] [] (l := [(4, .c (.bool false))]) (h := []) (h' := []) trivial rfl rfl rfl ?_
      obtain rfl := Option.some.inj h
      exact W_ret (r0 rfl rfl)
    | false =>
      replace h := brF hb2 h
      refine ve ?_
      refine W2 [2, 3, 14] [101, 102] [] (l := [(2, .c (.ptr _ _ _ _)), (3, .c (.ptr _ _ _ _)), (14, .c (.bool false))]) (h := [(101, ⟨0, 13, [[.int _ _, .int _ _, .int _ _, .int _ _, .int _ _, .int _ _, .int _ _, .int _ _, .row _ _ _, .int _ _, .int _ _, .row _ _ _, .row _ _ _]]⟩), (102, ⟨0, 13, [[.int _ _, .int _ _, .int _ _, .int _ _, .int _ _, .int _ _, .int _ _, .int _ _, .row _ _ _, .int _ _, .int _ _, .row _ _ _, .row _ _ _]]⟩)]) (h' := []) trivial rfl rfl rfl ?_
      refine W_false rfl ?_
      refine W_skip ?_
      refine W_seq ?_
      refine W_seq ?_
      refine W_regV he rfl ?_
      refine v0 (sFP rfl rfl rfl) rfl ?_
      refine v0 (sLd rfl rfl) rfl ?_
      refine v0 (sFP rfl rfl rfl) rfl ?_
      refine v0 (sLd rfl rfl) rfl ?_
      refine vB (sBi rfl rfl rfl rfl) rfl rfl fun b3 hb3 => ?_
      cases b3 with
      | true =>
        replace h := brT hb3 h
        refine ve ?_
        refine W2 [2, 3, 19] [101, 102] [] (l := [(2, .c (.ptr _ _ _ _)), (3, .c (.ptr _ _ _ _)), (19, .c (.bool true))]) (h := [(101, ⟨0, 13, [[.int _ _, .int _ _, .int _ _, .int _ _, .int _ _, .int _ _, .int _ _, .int _ _, .row _ _ _, .int _ _, .int _ _, .row _ _ _, .row _ _ _]]⟩), (102, ⟨0, 13, [[.int _ _, .int _ _, .int _ _, .int _ _, .int _ _, .int _ _, .int _ _, .int _ _, .row _ _ _, .int _ _, .int _ _, .row _ _ _, .row _ _ _]]⟩)]) (h' := []) trivial rfl rfl rfl ?_
        refine W_true rfl ?_
        refine W_seq ?_
        refine W_regV he rfl ?_
        refine v0 (sA rfl [] rfl) rfl ?_
        refine ve ?_
        refine W2 [4] [] [] (l := [(4, .c (.bool false))]) (h := []) (h' := []) trivial rfl rfl rfl ?_
        obtain rfl := Option.some.inj h
        exact W_ret (r0 rfl rfl)
      | false =>
        replace h := brF hb3 h
        refine ve ?_
        refine W2 [2, 3, 19] [101, 102] [] (l := [(2, .c (.ptr _ _ _ _)), (3, .c (.ptr _ _ _ _)), (19, .c (.bool false))]) (h := [(101, ⟨0, 13, [[.int _ _, .int _ _, .int _ _, .int _ _, .int _ _, .int _ _, .int _ _, .int _ _, .row _ _ _, .int _ _, .int _ _, .row _ _ _, .row _ _ _]]⟩), (102, ⟨0, 13, [[.int _ _, .int _ _, .int _ _, .int _ _, .int _ _, .int _ _, .int _ _, .int _ _, .row _ _ _, .int _ _, .int _ _, .row _ _ _, .row _ _ _]]⟩)]) (h' := []) trivial rfl rfl rfl ?_
        refine W_false rfl ?_
        refine W_skip ?_
        refine W_seq ?_
        refine W_seq ?_
        refine W_regV he rfl ?_
        refine v0 (sFP rfl rfl rfl) rfl ?_
        refine v0 (sLd rfl rfl) rfl ?_
        refine v0 (sFP rfl rfl rfl) rfl ?_
        refine v0 (sLd rfl rfl) rfl ?_
        refine vB (sBi rfl rfl rfl rfl) rfl rfl fun b4 hb4 => ?_
        cases b4 with
        | true =>
          replace h := brT hb4 h
          refine ve ?_
          refine W2 [2, 3, 24] [101, 102] [] (l := [(2, .c (.ptr _ _ _ _)), (3, .c (.ptr _ _ _ _)), (24, .c (.bool true))]) (h := [(101, ⟨0, 13, [[.int _ _, .int _ _, .int _ _, .int _ _, .int _ _, .int _ _, .int _ _, .int _ _, .row _ _ _, .int _ _, .int _ _, .row _ _ _, .row _ _ _]]⟩), (102, ⟨0, 13, [[.int _ _, .int _ _, .int _ _, .int _ _, .int _ _, .int _ _, .int _ _, .int _ _, .row _ _ _, .int _ _, .int _ _, .row _ _ _, .row _ _ _]]⟩)]) (h' := []) trivial rfl rfl rfl ?_
          refine W_true rfl ?_
          refine W_seq ?_
          refine W_regV he rfl ?_
          refine v0 (sA rfl [] rfl) rfl ?_
          refine ve ?_
          refine W2 [4] [] [] (l := [(4, .c (.bool false))]) (h := []) (h' := []) trivial rfl rfl rfl ?_
          obtain rfl := Option.some.inj h
          exact W_ret (r0 rfl rfl)
        | false =>
          replace h := brF hb4 h
          refine ve ?_
          refine W2 [2, 3, 24] [101, 102] [] (l := [(2, .c (.ptr _ _ _ _)), (3, .c (.ptr _ _ _ _)), (24, .c (.bool false))]) (h := [(101, ⟨0, 13, [[.int _ _, .int _ _, .int _ _, .int _ _, .int _ _, .int _ _, .int _ _, .int _ _, .row _ _ _, .int _ _, .int _ _, .row _ _ _, .row _ _ _]]⟩), (102, ⟨0, 13, [[.int _ _, .int _ _, .int _ _, .int _ _, .int _ _, .int _ _, .int _ _, .int _ _, .row _ _ _, .int _ _, .int _ _, .row _ _ _, .row _ _ _]]⟩)]) (h' := []) trivial rfl rfl rfl ?_
          refine W_false rfl ?_
          refine W_skip ?_
          refine W_seq ?_
          refine W_seq ?_
          refine W_regV he rfl ?_
          refine v0 (sFP rfl rfl rfl) rfl ?_
          refine v0 (sLd rfl rfl) rfl ?_
          refine v0 (sFP rfl rfl rfl) rfl ?_
          refine v0 (sLd rfl rfl) rfl ?_
          refine vB (sBi rfl rfl rfl rfl) rfl rfl fun b5 hb5 => ?_
          cases b5 with
          | true =>
            replace h := brT hb5 h
            refine ve ?_
            refine W2 [2, 3, 29] [101, 102] [] (l := [(2, .c (.ptr _ _ _ _)), (3, .c (.ptr _ _ _ _)), (29, .c (.bool true))]) (h := [(101, ⟨0, 13, [[.int _ _, .int _ _, .int _ _, .int _ _, .int _ _, .int _ _, .int _ _, .int _ _, .row _ _ _, .int _ _, .int _ _, .row _ _ _, .row _ _ _]]⟩), (102, ⟨0, 13, [[.int _ _, .int _ _, .int _ _, .int _ _, .int _ _, .int _ _, .int _ _, .int _ _, .row _ _ _, .int _ _, .int _ _, .row _ _ _, .row _ _ _]]⟩)]) (h' := []) trivial rfl rfl rfl ?_
            refine W_true rfl ?_
            refine W_seq ?_
            refine W_regV he rfl ?_
            refine v0 (sA rfl [] rfl) rfl ?_
            refine ve ?_
            refine W2 [4] [] [] (l := [(4, .c (.bool false))]) (h := []) (h' := []) trivial rfl rfl rfl ?_
            obtain rfl := Option.some.inj h
            exact W_ret (r0 rfl rfl)
          | false =>
            replace h := brF hb5 h
            refine ve ?_
            refine W2 [2, 3, 29] [101, 102] [] (l := [(2, .c (.ptr _ _ _ _)), (3, .c (.ptr _ _ _ _)), (29, .c (.bool false))]) (h := [(101, ⟨0, 13, [[.int _ _, .int _ _, .int _ _, .int _ _, .int _ _, .int _ _, .int _ _, .int _ _, .row _ _ _, .int _ _, .int _ _, .row _ _ _, .row _ _ _]]⟩), (102, ⟨0, 13, [[.int _ _, .int _ _, .int _ _, .int _ _, .int _ _, .int _ _, .int _ _, .int _ _, .row _ _ _, .int _ _, .int _ _, .row _ _ _, .row _ _ _]]⟩)]) (h' := []) trivial rfl rfl rfl ?_
            refine W_false rfl ?_
            refine W_skip ?_
            refine W_seq ?_
            refine W_seq ?_
            refine W_regV he rfl ?_
            refine v0 (sFP rfl rfl rfl) rfl ?_
            refine v0 (sLd rfl rfl) rfl ?_
            refine v0 (sFP rfl rfl rfl) rfl ?_
            refine v0 (sLd rfl rfl) rfl ?_
            refine vB (sBi rfl rfl rfl rfl) rfl rfl fun b6 hb6 => ?_
            cases b6 with
            | true =>
              replace h := brT hb6 h
              refine ve ?_
              refine W2 [2, 3, 34] [101, 102] [] (l := [(2, .c (.ptr _ _ _ _)), (3, .c (.ptr _ _ _ _)), (34, .c (.bool true))]) (h := [(101, ⟨0, 13, [[.int _ _, .int _ _, .int _ _, .int _ _, .int _ _, .int _ _, .int _ _, .int _ _, .row _ _ _, .int _ _, .int _ _, .row _ _ _, .row _ _ _]]⟩), (102, ⟨0, 13, [[.int _ _, .int _ _, .int _ _, .int _ _, .int _ _, .int _ _, .int _ _, .int _ _, .row _ _ _, .int _ _, .int _ _, .row _ _ _, .row _ _ _]]⟩)]) (h' := []) trivial rfl rfl rfl ?_
              refine W_true rfl ?_
              refine W_seq ?_
              refine W_regV he rfl ?_
              refine v0 (sA rfl [] rfl) rfl ?_
              refine ve ?_
              refine W2 [4] [] [] (l := [(4, .c (.bool false))]) (h := []) (h' := []) trivial rfl rfl rfl ?_
              obtain rfl := Option.some.inj h
              exact W_ret (r0 rfl rfl)
            | false =>
              replace h := brF hb6 h
              refine ve ?_
              refine W2 [2, 3, 34] [101, 102] [] (l := [(2, .c (.ptr _ _ _ _)), (3, .c (.ptr _ _ _ _)), (34, .c (.bool false))]) (h := [(101, ⟨0, 13, [[.int _ _, .int _ _, .int _ _, .int _ _, .int _ _, .int _ _, .int _ _, .int _ _, .row _ _ _, .int _ _, .int _ _, .row _ _ _, .row _ _ _]]⟩), (102, ⟨0, 13, [[.int _ _, .int _ _, .int _ _, .int _ _, .int _ _, .int _ _, .int _ _, .int _ _, .row _ _ _, .int _ _, .int _ _, .row _ _ _, .row _ _ _]]⟩)]) (h' := []) trivial rfl rfl rfl ?_
              refine W_false rfl ?_
              refine W_skip ?_
              refine W_seq ?_
              refine W_seq ?_
              refine W_regV he rfl ?_
              refine v0 (sFP rfl rfl rfl) rfl ?_
              refine v0 (sLd rfl rfl) rfl ?_
              refine v0 (sFP rfl rfl rfl) rfl ?_
              refine v0 (sLd rfl rfl) rfl ?_
              refine vB (sBi rfl rfl rfl rfl) rfl rfl fun b7 hb7 => ?_
              cases b7 with
              | true =>
                replace h := brT hb7 h
                refine ve ?_
                refine W2 [2, 3, 39] [101, 102] [] (l := [(2, .c (.ptr _ _ _ _)), (3, .c (.ptr _ _ _ _)), (39, .c (.bool true))]) (h := [(101, ⟨0, 13, [[.int _ _, .int _ _, .int _ _, .int _ _, .int _ _, .int _ _, .int _ _, .int _ _, .row _ _ _, .int _ _, .int _ _, .row _ _ _, .row _ _ _]]⟩), (102, ⟨0, 13, [[.int _ _, .int _ _, .int _ _, .int _ _, .int _ _, .int _ _, .int _ _, .int _ _, .row _ _ _, .int _ _, .int _ _, .row _ _ _, .row _ _ _]]⟩)]) (h' := []) trivial rfl rfl rfl ?_
                refine W_true rfl ?_
                refine W_seq ?_
                refine W_regV he rfl ?_
                refine v0 (sA rfl [] rfl) rfl ?_
                refine ve ?_
                refine W2 [4] [] [] (l := [(4, .c (.bool false))]) (h := []) (h' := []) trivial rfl rfl rfl ?_
                obtain rfl := Option.some.inj h
                exact W_ret (r0 rfl rfl)
              | false =>
                replace h := brF hb7 h
                refine ve ?_
                refine W2 [2, 3, 39] [101, 102] [] (l := [(2, .c (.ptr _ _ _ _)), (3, .c (.ptr _ _ _ _)), (39, .c (.bool false))]) (h := [(101, ⟨0, 13, [[.int _ _, .int _ _, .int _ _, .int _ _, .int _ _, .int _ _, .int _ _, .int _ _, .row _ _ _, .int _ _, .int _ _, .row _ _ _, .row _ _ _]]⟩), (102, ⟨0, 13, [[.int _ _, .int _ _, .int _ _, .int _ _, .int _ _, .int _ _, .int _ _, .int _ _, .row _ _ _, .int _ _, .int _ _, .row _ _ _, .row _ _ _]]⟩)]) (h' := []) trivial rfl rfl rfl ?_
                refine W_false rfl ?_
                refine W_skip ?_
                refine W_seq ?_
                refine W_seq ?_
                refine W_regV he rfl ?_
                refine v0 (sFP rfl rfl rfl) rfl ?_
                refine v0 (sLd rfl rfl) rfl ?_
                refine v0 (sFP rfl rfl rfl) rfl ?_
                refine v0 (sLd rfl rfl) rfl ?_
                refine vB (sBi rfl rfl rfl rfl) rfl rfl fun b8 hb8 => ?_
                cases b8 with
                | true =>
                  replace h := brT hb8 h
                  refine ve ?_
                  refine W2 [2, 3, 44] [101, 102] [] (l := [(2, .c (.ptr _ _ _ _)), (3, .c (.ptr _ _ _ _)), (44, .c (.bool true))]) (h := [(101, ⟨0, 13, [[.int _ _, .int _ _, .int _ _, .int _ _, .int _ _, .int _ _, .int _ _, .int _ _, .row _ _ _, .int _ _, .int _ _, .row _ _ _, .row _ _ _]]⟩), (102, ⟨0, 13, [[.int _ _, .int _ _, .int _ _, .int _ _, .int _ _, .int _ _, .int _ _, .int _ _, .row _ _ _, .int _ _, .int _ _, .row _ _ _, .row _ _ _]]⟩)]) (h' := []) trivial rfl rfl rfl ?_
                  refine W_true rfl ?_
                  refine W_seq ?_
                  refine W_regV he rfl ?_
                  refine v0 (sA rfl [] rfl) rfl ?_
                  refine ve ?_
                  refine W2 [4] [] [] (l := [(4, .c (.bool false))]) (h := []) (h' := []) trivial rfl rfl rfl ?_
                  obtain rfl := Option.some.inj h
                  exact W_ret (r0 rfl rfl)
                | false =>
                  replace h := brF hb8 h
                  refine ve ?_
                  refine W2 [2, 3, 44] [101, 102] [] (l := [(2, .c (.ptr _ _ _ _)), (3, .c (.ptr _ _ _ _)), (44, .c (.bool false))]) (h := [(101, ⟨0, 13, [[.int _ _, .int _ _, .int _ _, .int _ _, .int _ _, .int _ _, .int _ _, .int _ _, .row _ _ _, .int _ _, .int _ _, .row _ _ _, .row _ _ _]]⟩), (102, ⟨0, 13, [[.int _ _, .int _ _, .int _ _, .int _ _, .int _ _, .int _ _, .int _ _, .int _ _, .row _ _ _, .int _ _, .int _ _, .row _ _ _, .row _ _ _]]⟩)]) (h' := []) trivial rfl rfl rfl ?_
                  refine W_false rfl ?_
                  refine W_skip ?_
                  refine W_seq ?_
                  refine W_seq ?_
                  refine W_regV he rfl ?_
                  refine v0 (sFP rfl rfl rfl) rfl ?_
                  refine v0 (sLd rfl rfl) rfl ?_
                  refine v0 (sFP rfl rfl rfl) rfl ?_
                  refine v0 (sLd rfl rfl) rfl ?_
                  refine bndc h ?_; clear h; intro r9 hr9 h
                  refine vB (sCm (w_laws_eqIntS K a0.fChunks a1.fChunks _ hr9) ok_laws_eqIntS rfl rfl rfl rfl) rfl rfl fun b10 hb10 => ?_
                  cases b10 with
                  | true =>
                    replace h := brT hb10 h
                    refine v0 (sNt rfl rfl) rfl ?_
                    refine ve ?_
                    refine W2 [2, 3, 50] [101, 102] [] (l := [(2, .c (.ptr _ _ _ _)), (3, .c (.ptr _ _ _ _)), (50, .c (.bool false))]) (h := [(101, ⟨0, 13, [[.int _ _, .int _ _, .int _ _, .int _ _, .int _ _, .int _ _, .int _ _, .int _ _, .row _ _ _, .int _ _, .int _ _, .row _ _ _, .row _ _ _]]⟩), (102, ⟨0, 13, [[.int _ _, .int _ _, .int _ _, .int _ _, .int _ _, .int _ _, .int _ _, .int _ _, .row _ _ _, .int _ _, .int _ _, .row _ _ _, .row _ _ _]]⟩)]) (h' := []) trivial rfl rfl rfl ?_
                    refine W_false rfl ?_
                    refine W_skip ?_
                    refine W_seq ?_
                    refine W_seq ?_
                    refine W_regV he rfl ?_
                    refine v0 (sFP rfl rfl rfl) rfl ?_
                    refine v0 (sLd rfl rfl) rfl ?_
                    refine v0 (sFP rfl rfl rfl) rfl ?_
                    refine v0 (sLd rfl rfl) rfl ?_
                    refine vB (sBi rfl rfl rfl rfl) rfl rfl fun b11 hb11 => ?_
                    cases b11 with
                    | true =>
                      replace h := brT hb11 h
                      refine ve ?_
                      refine W2 [2, 3, 55] [101, 102] [] (l := [(2, .c (.ptr _ _ _ _)), (3, .c (.ptr _ _ _ _)), (55, .c (.bool true))]) (h := [(101, ⟨0, 13, [[.int _ _, .int _ _, .int _ _, .int _ _, .int _ _, .int _ _, .int _ _, .int _ _, .row _ _ _, .int _ _, .int _ _, .row _ _ _, .row _ _ _]]⟩), (102, ⟨0, 13, [[.int _ _, .int _ _, .int _ _, .int _ _, .int _ _, .int _ _, .int _ _, .int _ _, .row _ _ _, .int _ _, .int _ _, .row _ _ _, .row _ _ _]]⟩)]) (h' := []) trivial rfl rfl rfl ?_
                      refine W_true rfl ?_
                      refine W_seq ?_
                      refine W_regV he rfl ?_
                      refine v0 (sA rfl [] rfl) rfl ?_
                      refine ve ?_
                      refine W2 [4] [] [] (l := [(4, .c (.bool false))]) (h := []) (h' := []) trivial rfl rfl rfl ?_
                      obtain rfl := Option.some.inj h
                      exact W_ret (r0 rfl rfl)
                    | false =>
                      replace h := brF hb11 h
                      refine ve ?_
                      refine W2 [2, 3, 55] [101, 102] [] (l := [(2, .c (.ptr _ _ _ _)), (3, .c (.ptr _ _ _ _)), (55, .c (.bool false))]) (h := [(101, ⟨0, 13, [[.int _ _, .int _ _, .int _ _, .int _ _, .int _ _, .int _ _, .int _ _, .int _ _, .row _ _ _, .int _ _, .int _ _, .row _ _ _, .row _ _ _]]⟩), (102, ⟨0, 13, [[.int _ _, .int _ _, .int _ _, .int _ _, .int _ _, .int _ _, .int _ _, .int _ _, .row _ _ _, .int _ _, .int _ _, .row _ _ _, .row _ _ _]]⟩)]) (h' := []) trivial rfl rfl rfl ?_
                      refine W_false rfl ?_
                      refine W_skip ?_
                      refine W_seq ?_
                      refine W_seq ?_
                      refine W_regV he rfl ?_
                      refine v0 (sFP rfl rfl rfl) rfl ?_
                      refine v0 (sLd rfl rfl) rfl ?_
                      refine v0 (sFP rfl rfl rfl) rfl ?_
                      refine v0 (sLd rfl rfl) rfl ?_
                      refine vB (sBi rfl rfl rfl rfl) rfl rfl fun b12 hb12 => ?_
                      cases b12 with
                      | true =>
                        replace h := brT hb12 h
                        refine ve ?_
                        refine W2 [2, 3, 60] [101, 102] [] (l := [(2, .c (.ptr _ _ _ _)), (3, .c (.ptr _ _ _ _)), (60, .c (.bool true))]) (h := [(101, ⟨0, 13, [[.int _ _, .int _ _, .int _ _, .int _ _, .int _ _, .int _ _, .int _ _, .int _ _, .row _ _ _, .int _ _, .int _ _, .row _ _ _, .row _ _ _]]⟩), (102, ⟨0, 13, [[.int _ _, .int _ _, .int _ _, .int _ _, .int _ _, .int _ _, .int _ _, .int _ _, .row _ _ _, .int _ _, .int _ _, .row _ _ _, .row _ _ _]]⟩)]) (h' := []) trivial rfl rfl rfl ?_
                        refine W_true rfl ?_
                        refine W_seq ?_
                        refine W_regV he rfl ?_
                        refine v0 (sA rfl [] rfl) rfl ?_
                        refine ve ?_
                        refine W2 [4] [] [] (l := [(4, .c (.bool false))]) (h := []) (h' := []) trivial rfl rfl rfl ?_
                        obtain rfl := Option.some.inj h
                        exact W_ret (r0 rfl rfl)
                      | false =>
                        replace h := brF hb12 h
                        refine ve ?_
                        refine W2 [2, 3, 60] [101, 102] [] (l := [(2, .c (.ptr _ _ _ _)), (3, .c (.ptr _ _ _ _)), (60, .c (.bool false))]) (h := [(101, ⟨0, 13, [[.int _ _, .int _ _, .int _ _, .int _ _, .int _ _, .int _ _, .int _ _, .int _ _, .row _ _ _, .int _ _, .int _ _, .row _ _ _, .row _ _ _]]⟩), (102, ⟨0, 13, [[.int _ _, .int _ _, .int _ _, .int _ _, .int _ _, .int _ _, .int _ _, .int _ _, .row _ _ _, .int _ _, .int _ _, .row _ _ _, .row _ _ _]]⟩)]) (h' := []) trivial rfl rfl rfl ?_
                        refine W_false rfl ?_
                        refine W_skip ?_
                        refine W_seq ?_
                        refine W_seq ?_
                        refine W_regV he rfl ?_
                        refine v0 (sFP rfl rfl rfl) rfl ?_
                        refine v0 (sLd rfl rfl) rfl ?_
                        refine v0 (sFP rfl rfl rfl) rfl ?_
                        refine v0 (sLd rfl rfl) rfl ?_
                        refine bndc h ?_; clear h; intro r13 hr13 h
                        refine vB (sCm (w_laws_eqThingS K a0.fThings a1.fThings _ hr13) ok_laws_eqThingS rfl rfl rfl rfl) rfl rfl fun b14 hb14 => ?_
                        cases b14 with
                        | true =>
                          replace h := brT hb14 h
                          refine v0 (sNt rfl rfl) rfl ?_
                          refine ve ?_
                          refine W2 [2, 3, 66] [101, 102] [] (l := [(2, .c (.ptr _ _ _ _)), (3, .c (.ptr _ _ _ _)), (66, .c (.bool false))]) (h := [(101, ⟨0, 13, [[.int _ _, .int _ _, .int _ _, .int _ _, .int _ _, .int _ _, .int _ _, .int _ _, .row _ _ _, .int _ _, .int _ _, .row _ _ _, .row _ _ _]]⟩), (102, ⟨0, 13, [[.int _ _, .int _ _, .int _ _, .int _ _, .int _ _, .int _ _, .int _ _, .int _ _, .row _ _ _, .int _ _, .int _ _, .row _ _ _, .row _ _ _]]⟩)]) (h' := []) trivial rfl rfl rfl ?_
                          refine W_false rfl ?_
                          refine W_skip ?_
                          refine W_seq ?_
                          refine W_seq ?_
                          refine W_regV he rfl ?_
                          refine v0 (sFP rfl rfl rfl) rfl ?_
                          refine v0 (sLd rfl rfl) rfl ?_
                          refine v0 (sFP rfl rfl rfl) rfl ?_
                          refine v0 (sLd rfl rfl) rfl ?_
                          refine bndc h ?_; clear h; intro r15 hr15 h
                          refine vB (sCm (w_laws_eqIntS K a0.fTags a1.fTags _ hr15) ok_laws_eqIntS rfl rfl rfl rfl) rfl rfl fun b16 hb16 => ?_
                          cases b16 with
                          | true =>
                            replace h := brT hb16 h
                            refine v0 (sNt rfl rfl) rfl ?_
                            refine ve ?_
                            refine W2 [72] [] [] (l := [(72, .c (.bool false))]) (h := []) (h' := []) trivial rfl rfl rfl ?_
                            refine W_false rfl ?_
                            refine W_skip ?_
                            refine W_seq ?_
                            refine W_regV he rfl ?_
                            refine v0 (sA rfl [] rfl) rfl ?_
                            refine ve ?_
                            refine W2 [4] [] [] (l := [(4, .c (.bool true))]) (h := []) (h' := []) trivial rfl rfl rfl ?_
                            obtain rfl := Option.some.inj h
                            exact W_ret (r0 rfl rfl)
                          | false =>
                            replace h := brF hb16 h
                            refine v0 (sNt rfl rfl) rfl ?_
                            refine ve ?_
                            refine W2 [72] [] [] (l := [(72, .c (.bool true))]) (h := []) (h' := []) trivial rfl rfl rfl ?_
                            refine W_true rfl ?_
                            refine W_seq ?_
                            refine W_regV he rfl ?_
                            refine v0 (sA rfl [] rfl) rfl ?_
                            refine ve ?_
                            refine W2 [4] [] [] (l := [(4, .c (.bool false))]) (h := []) (h' := []) trivial rfl rfl rfl ?_
                            obtain rfl := Option.some.inj h
                            exact W_ret (r0 rfl rfl)
                        | false =>
                          replace h := brF hb14 h
                          refine v0 (sNt rfl rfl) rfl ?_
                          refine ve ?_
                          refine W2 [2, 3, 66] [101, 102] [] (l := [(2, .c (.ptr _ _ _ _)), (3, .c (.ptr _ _ _ _)), (66, .c (.bool true))]) (h := [(101, ⟨0, 13, [[.int _ _, .int _ _, .int _ _, .int _ _, .int _ _, .int _ _, .int _ _, .int _ _, .row _ _ _, .int _ _, .int _ _, .row _ _ _, .row _ _ _]]⟩), (102, ⟨0, 13, [[.int _ _, .int _ _, .int _ _, .int _ _, .int _ _, .int _ _, .int _ _, .int _ _, .row _ _ _, .int _ _, .int _ _, .row _ _ _, .row _ _ _]]⟩)]) (h' := []) trivial rfl rfl rfl ?_
                          refine W_true rfl ?_
                          refine W_seq ?_
                          refine W_regV he rfl ?_
                          refine v0 (sA rfl [] rfl) rfl ?_
                          refine ve ?_
                          refine W2 [4] [] [] (l := [(4, .c (.bool false))]) (h := []) (h' := []) trivial rfl rfl rfl ?_
                          obtain rfl := Option.some.inj h
                          exact W_ret (r0 rfl rfl)
                  | false =>
                    replace h := brF hb10 h
                    refine v0 (sNt rfl rfl) rfl ?_
                    refine ve ?_
                    refine W2 [2, 3, 50] [101, 102] [] (l := [(2, .c (.ptr _ _ _ _)), (3, .c (.ptr _ _ _ _)), (50, .c (.bool true))]) (h := [(101, ⟨0, 13, [[.int _ _, .int _ _, .int _ _, .int _ _, .int _ _, .int _ _, .int _ _, .int _ _, .row _ _ _, .int _ _, .int _ _, .row _ _ _, .row _ _ _]]⟩), (102, ⟨0, 13, [[.int _ _, .int _ _, .int _ _, .int _ _, .int _ _, .int _ _, .int _ _, .int _ _, .row _ _ _, .int _ _, .int _ _, .row _ _ _, .row _ _ _]]⟩)]) (h' := []) trivial rfl rfl rfl ?_
                    refine W_true rfl ?_
                    refine W_seq ?_
                    refine W_regV he rfl ?_
                    refine v0 (sA rfl [] rfl) rfl ?_
                    refine ve ?_
                    refine W2 [4] [] [] (l := [(4, .c (.bool false))]) (h := []) (h' := []) trivial rfl rfl rfl ?_
                    obtain rfl := Option.some.inj h
                    exact W_ret (r0 rfl rfl)
theorem ok_laws_eqNode : FnOk Try.prog 89 := ⟨_, Try.func89, rfl, rfl⟩


/-! ### loop.example/g00499/laws.eqNodeS -/
def l_laws_eqNodeS_3 (K : Nat) (a0 : List T_impl_Node) (a1 : List T_impl_Node) : Nat → Int → Option (Bool)
  | 0, _ => none
  | n3 + 1, v2 => (bif (decide (v2 < (a0.length : Int))) then (if (0 : Int) ≤ v2 ∧ v2 < (a0.length : Int) then (if (0 : Int) ≤ v2 ∧ v2 < (a1.length : Int) then ((m_laws_eqNode K (gt a0 v2) (gt a1 v2)).bind fun r7 => (bif r7 then (l_laws_eqNodeS_3 K a0 a1 n3 (iAdd .i64 v2 1)) else some false)) else none) else none) else some true)
def m_laws_eqNodeS (K : Nat) (a0 : List T_impl_Node) (a1 : List T_impl_Node) : Option (Bool) := (bif ((a0.length : Int) != (a1.length : Int)) then some false else (l_laws_eqNodeS_3 K a0 a1 K 0))
set_option maxRecDepth 20000 in
set_option maxHeartbeats 8000000 in
theorem w_laws_eqNodeS (K : Nat) (a0 : List T_impl_Node) (a1 : List T_impl_Node) (r : Bool) (h : m_laws_eqNodeS K a0 a1 = some r) : Sp Try.prog 57 [.c (.row false 13 (a0.map en_impl_Node)), .c (.row false 13 (a1.map en_impl_Node))] [] (.c (.bool r)) [] := by
  refine Sp.of_W tabOk Try.func57 rfl rfl (Nat.le_of_ble_eq_true rfl) (Nat.le_of_ble_eq_true rfl) fun F hP hN hm => ?_
  obtain ⟨P, N, w0, σ0, β0, m⟩ := F
  obtain rfl : P = Try.prog := hP
  obtain rfl : N = 27 := hN
  obtain rfl : m = 1 := hm
  have he : Env ⟨Try.prog, 27, w0, σ0, β0, 1⟩ tab := ⟨Nat.le_of_ble_eq_true rfl, tabOk⟩
  unfold m_laws_eqNodeS at h
  refine W_seq ?_
  refine W_regV he rfl ?_
  refine v0 (sA rfl [] rfl) rfl ?_
  refine ve ?_
  refine W2 [0, 1] [] [] (l := [(0, .c (.row _ _ _)), (1, .c (.row _ _ _))]) (h := []) (h' := []) trivial rfl rfl rfl ?_
  refine W_seq ?_
  refine W_seq ?_
  refine W_regV he rfl ?_
  refine v0 (sM rfl [] rfl) rfl ?_
  refine v0 (sLm rfl rfl rfl rfl) rfl ?_
  refine v0 (sM rfl [] rfl) rfl ?_
  refine v0 (sLm rfl rfl rfl rfl) rfl ?_
  refine vB (sBi rfl rfl rfl rfl) rfl rfl fun b1 hb1 => ?_
  cases b1 with
  | true =>
    replace h := brT hb1 h
    refine ve ?_
    refine W2 [0, 1, 10] [] [] (l := [(0, .c (.row _ _ _)), (1, .c (.row _ _ _)), (10, .c (.bool true))]) (h := []) (h' := []) trivial rfl rfl rfl ?_
    refine W_true rfl ?_
    refine W_seq ?_
    refine W_regV he rfl ?_
    refine v0 (sA rfl [] rfl) rfl ?_
    refine ve ?_
    refine W2 [4] [] [] (l := [(4, .c (.bool false))]) (h := []) (h' := []) trivial rfl rfl rfl ?_
    obtain rfl := Option.some.inj h
    exact W_ret (r0 rfl rfl)
  | false =>
    replace h := brF hb1 h
    refine ve ?_
    refine W2 [0, 1, 10] [] [] (l := [(0, .c (.row _ _ _)), (1, .c (.row _ _ _)), (10, .c (.bool false))]) (h := []) (h' := []) trivial rfl rfl rfl ?_
    refine W_false rfl ?_
    refine W_skip ?_
    refine W_seq ?_
    refine W_seq ?_
    refine W_regV he rfl ?_
    refine v0 (sA rfl [] rfl) rfl ?_
    refine ve ?_
    refine W2 [0, 1, 5] [] [] (l := [(0, .c (.row _ _ _)), (1, .c (.row _ _ _)), (5, .c (.int _ _))]) (h := []) (h' := []) trivial rfl rfl rfl ?_
    refine W_block ?_
    refine W2 [0, 1, 5] [] [] (l := [(0, .c (.row _ _ _)), (1, .c (.row _ _ _)), (5, .c (.int _ _))]) (h := []) (h' := []) trivial rfl rfl rfl ?_
    refine W_loopW (fun n3 S => ∃ (v2 : Int), S = StL [(0, .c (.row false 13 (a0.map en_impl_Node))), (1, .c (.row false 13 (a1.map en_impl_Node))), (5, .c (.int .i64 v2))] ([] ++ []) ∧ l_laws_eqNodeS_3 K a0 a1 n3 v2 = some r) K ⟨_, rfl, h⟩ ?_
    rintro n3 S ⟨v2, rfl, h⟩
    cases n3 with
    | zero => simp [l_laws_eqNodeS_3] at h
    | succ n3 =>
      rw [l_laws_eqNodeS_3] at h
      refine W_seq ?_
      refine W_seq ?_
      refine W_regV he rfl ?_
      refine v0 (sM rfl [] rfl) rfl ?_
      refine v0 (sM rfl [] rfl) rfl ?_
      refine v0 (sLm rfl rfl rfl rfl) rfl ?_
      refine vB (sBi rfl rfl rfl rfl) rfl rfl fun b4 hb4 => ?_
      cases b4 with
      | true =>
        replace h := brT hb4 h
        refine ve ?_
        refine W2 [0, 1, 5, 14] [] [] (l := [(0, .c (.row _ _ _)), (1, .c (.row _ _ _)), (5, .c (.int _ _)), (14, .c (.bool true))]) (h := []) (h' := []) trivial rfl rfl rfl ?_
        refine W_true rfl ?_
        refine W_skip ?_
        refine W_seq ?_
        refine W_block ?_
        refine W_seq ?_
        refine W_regD he rfl rfl rfl ?_
        refine g0 (sM rfl [] rfl) rfl ?_
        refine g0 (sM rfl [] rfl) rfl ?_
        refine chkc h ?_; clear h; intro c5 h
        refine g0 (sIRm rfl rfl rfl rfl c5) rfl ?_
        refine g0 (sLI rfl rfl (en_impl_Node (gt a0 v2)) (gt_at _ c5) rfl rfl rfl) rfl ?_
        refine g0 (sM rfl [] rfl) rfl ?_
        refine g0 (sM rfl [] rfl) rfl ?_
        refine chkc h ?_; clear h; intro c6 h
        refine g0 (sIRm rfl rfl rfl rfl c6) rfl ?_
        refine g0 (sLI rfl rfl (en_impl_Node (gt a1 v2)) (gt_at _ c6) rfl rfl rfl) rfl ?_
        refine bndc h ?_; clear h; intro r7 hr7 h
        refine gB (sCm (w_laws_eqNode K (gt a0 v2) (gt a1 v2) _ hr7) ok_laws_eqNode rfl rfl rfl rfl) rfl rfl fun b8 hb8 => ?_
        cases b8 with
        | true =>
          replace h := brT hb8 h
          refine g0 (sNt rfl rfl) rfl ?_
          refine ge ⟨rfl, ?_⟩
          refine W2 [0, 1, 5, 26] [] [] (l := [(0, .c (.row _ _ _)), (1, .c (.row _ _ _)), (5, .c (.int _ _)), (26, .c (.bool false))]) (h := []) (h' := []) trivial rfl rfl rfl ?_
          refine W_false rfl ?_
          refine W_skip ?_
          refine W_regV he rfl ?_
          refine v0 (sM rfl [] rfl) rfl ?_
          refine v0 (sBi rfl rfl rfl rfl) rfl ?_
          refine v0 (sA rfl [] rfl) rfl ?_
          refine ve ?_
          exact ⟨n3, _, Nat.lt_succ_self n3, wk2 [0, 1, 5] [] [] (l := [(0, .c (.row _ _ _)), (1, .c (.row _ _ _)), (5, .c (.int _ _))]) (h := []) (h' := []) trivial rfl rfl rfl, _, rfl, h⟩
        | false =>
          replace h := brF hb8 h
          refine g0 (sNt rfl rfl) rfl ?_
          refine ge ⟨rfl, ?_⟩
          refine W2 [0, 1, 5, 26] [] [] (l := [(0, .c (.row _ _ _)), (1, .c (.row _ _ _)), (5, .c (.int _ _)), (26, .c (.bool true))]) (h := []) (h' := []) trivial rfl rfl rfl ?_
          refine W_true rfl ?_
          refine W_seq ?_
          refine W_regV he rfl ?_
          refine v0 (sA rfl [] rfl) rfl ?_
          refine ve ?_
          refine W2 [4] [] [] (l := [(4, .c (.bool false))]) (h := []) (h' := []) trivial rfl rfl rfl ?_
          obtain rfl := Option.some.inj h
          exact W_ret (r0 rfl rfl)
      | false =>
        replace h := brF hb4 h
        refine ve ?_
        refine W2 [0, 1, 5, 14] [] [] (l := [(0, .c (.row _ _ _)), (1, .c (.row _ _ _)), (5, .c (.int _ _)), (14, .c (.bool false))]) (h := []) (h' := []) trivial rfl rfl rfl ?_
        refine W_false rfl ?_
        refine W_exit (ex_then (ex_then (ex_hit ?_)))
        refine W_seq ?_
        refine W_regV he rfl ?_
        refine v0 (sA rfl [] rfl) rfl ?_
        refine ve ?_
        refine W2 [4] [] [] (l := [(4, .c (.bool true))]) (h := []) (h' := []) trivial rfl rfl rfl ?_
        obtain rfl := Option.some.inj h
        exact W_ret (r0 rfl rfl)
theorem ok_laws_eqNodeS : FnOk Try.prog 57 := ⟨_, Try.func57, rfl, rfl⟩


/-! ### loop.example/g00499/laws.eqWaste -/
def m_laws_eqWaste (K : Nat) (a0 : T_impl_Waste) (a1 : T_impl_Waste) : Option (Bool) := (bif (a0.fSlot != a1.fSlot) then some false else (bif (a0.fFirst != a1.fFirst) then some false else ((m_laws_eqIntS K a0.fTags a1.fTags).bind fun r3 => (bif r3 then ((m_laws_eqIntS K a0.fChunks a1.fChunks).bind fun r5 => (bif r5 then (bif (a0.fDone != a1.fDone) then some false else some true) else some false)) else some false))))
set_option maxRecDepth 20000 in
set_option maxHeartbeats 8000000 in
theorem w_laws_eqWaste (K : Nat) (a0 : T_impl_Waste) (a1 : T_impl_Waste) (r : Bool) (h : m_laws_eqWaste K a0 a1 = some r) : Sp Try.prog 90 [.g [.int .i64 a0.fSlot, .int .i64 a0.fFirst, .row false 1 (a0.fTags.map en_i64), .row false 1 (a0.fChunks.map en_i64), .int .i64 a0.fDone], .g [.int .i64 a1.fSlot, .int .i64 a1.fFirst, .row false 1 (a1.fTags.map en_i64), .row false 1 (a1.fChunks.map en_i64), .int .i64 a1.fDone]] [] (.c (.bool r)) [] := by
  refine Sp.of_W tabOk Try.func90 rfl rfl (Nat.le_of_ble_eq_true rfl) (Nat.le_of_ble_eq_true rfl) fun F hP hN hm => ?_
  obtain ⟨P, N, w0, σ0, β0, m⟩ := F
  obtain rfl : P = Try.prog := hP
  obtain rfl : N = 32 := hN
  obtain rfl : m = 1 := hm
  have he : Env ⟨Try.prog, 32, w0, σ0, β0, 1⟩ tab := ⟨Nat.le_of_ble_eq_true rfl, tabOk⟩
  unfold m_laws_eqWaste at h
  refine W_seq ?_
  refine W_regV he rfl ?_
  refine v0 (sBx rfl [] rfl rfl 101 rfl) rfl ?_
  refine v0 (sBx rfl [] rfl rfl 102 rfl) rfl ?_
  refine v0 (sA rfl [] rfl) rfl ?_
  refine ve ?_
  refine W2 [2, 3] [101, 102] [] (l := [(2, .c (.ptr _ _ _ _)), (3, .c (.ptr _ _ _ _))]) (h := [(101, ⟨0, 5, [[.int _ _, .int _ _, .row _ _ _, .row _ _ _, .int _ _]]⟩), (102, ⟨0, 5, [[.int _ _, .int _ _, .row _ _ _, .row _ _ _, .int _ _]]⟩)]) (h' := []) trivial rfl rfl rfl ?_
  refine W_seq ?_
  refine W_seq ?_
  refine W_regV he rfl ?_
  refine v0 (sFP rfl rfl rfl) rfl ?_
  refine v0 (sLd rfl rfl) rfl ?_
  refine v0 (sFP rfl rfl rfl) rfl ?_
  refine v0 (sLd rfl rfl) rfl ?_
  refine vB (sBi rfl rfl rfl rfl) rfl rfl fun b1 hb1 => ?_
  cases b1 with
  | true =>
    replace h := brT hb1 h
    refine ve ?_
    refine W2 [2, 3, 9] [101, 102] [] (l := [(2, .c (.ptr _ _ _ _)), (3, .c (.ptr _ _ _ _)), (9, .c (.bool true))]) (h := [(101, ⟨0, 5, [[.int _ _, .int _ _, .row _ _ _, .row _ _ _, .int _ _]]⟩), (102, ⟨0, 5, [[.int _ _, .int _ _, .row _ _ _, .row _ _ _, .int _ _]]⟩)]) (h' := []) trivial rfl rfl rfl ?_
    refine W_true rfl ?_
    refine W_seq ?_
    refine W_regV he rfl ?_
    refine v0 (sA rfl [] rfl) rfl ?_
    refine ve ?_
    refine W2 [4] [] [] (l := [(4, .c (.bool false))]) (h := []) (h' := []) trivial rfl rfl rfl ?_
    obtain rfl := Option.some.inj h
    exact W_ret (r0 rfl rfl)
  | false =>
    replace h := brF hb1 h
    refine ve ?_
    refine W2 [2, 3, 9] [101, 102] [] (l := [(2, .c (.ptr _ _ _ _)), (3, .c (.ptr _ _ _ _)), (9, .c (.bool false))]) (h := [(101, ⟨0, 5, [[.int _ _, .int _ _, .row _ _ _, .row _ _ _, .int _ _]]⟩), (102, ⟨0, 5, [[.int _ _, .int _ _, .row _ _ _, .row _ _ _, .int _ _]]⟩)]) (h' := []) trivial rfl rfl rfl ?_
    refine W_false rfl ?_
    refine W_skip ?_
    refine W_seq ?_
    refine W_seq ?_
    refine W_regV he rfl ?_
    refine v0 (sFP rfl rfl rfl) rfl ?_
    refine v0 (sLd rfl rfl) rfl ?_
    refine v0 (sFP rfl rfl rfl) rfl ?_
    refine v0 (sLd rfl rfl) rfl ?_
    refine vB (sBi rfl rfl rfl rfl) rfl rfl fun b2 hb2 => ?_
    cases b2 with
    | true =>
      replace h := brT hb2 h
      refine ve ?_
      refine W2 [2, 3, 14] [101, 102] [] (l := [(2, .c (.ptr _ _ _ _)), (3, .c (.ptr _ _ _ _)), (14, .c (.bool true))]) (h := [(101, ⟨0, 5, [[.int _ _, .int _ _, .row _ _ _, .row _ _ _, .int _ _]]⟩), (102, ⟨0, 5, [[.int _ _, .int _ _, .row _ _ _, .row _ _ _, .int _ _]]⟩)]) (h' := []) trivial rfl rfl rfl ?_
      refine W_true rfl ?_
      refine W_seq ?_
      refine W_regV he rfl ?_
      refine v0 (sA rfl [] rfl) rfl ?_
      refine ve ?_
      refine W2 [4] [] [] (l := [(4, .c (.bool false))]) (h := []) (h' := []) trivial rfl rfl rfl ?_
      obtain rfl := Option.some.inj h
      exact W_ret (r0 rfl rfl)
    | false =>
      replace h := brF hb2 h
      refine ve ?_
      refine W2 [2, 3, 14] [101, 102] [] (l := [(2, .c (.ptr _ _ _ _)), (3, .c (.ptr _ _ _ _)), (14, .c (.bool false))]) (h := [(101, ⟨0, 5, [[.int _ _, .int _ _, .row _ _ _, .row _ _ _, .int _ _]]⟩), (102, ⟨0, 5, [[.int _ _, .int _ _, .row _ _ _, .row _ _ _, .int _ _]]⟩)]) (h' := []) trivial rfl rfl rfl ?_
      refine W_false rfl ?_
      refine W_skip ?_
      refine W_seq ?_
      refine W_seq ?_
      refine W_regV he rfl ?_
      refine v0 (sFP rfl rfl rfl) rfl ?_
      refine v0 (sLd rfl rfl) rfl ?_
      refine v0 (sFP rfl rfl rfl) rfl ?_
      refine v0 (sLd rfl rfl) rfl ?_
      refine bndc h ?_; clear h; intro r3 hr3 h
      refine vB (sCm (w_laws_eqIntS K a0.fTags a1.fTags _ hr3) ok_laws_eqIntS rfl rfl rfl rfl) rfl rfl fun b4 hb4 => ?_
      cases b4 with
      | true =>
        replace h := brT hb4 h
        refine v0 (sNt rfl rfl) rfl ?_
        refine ve ?_
        refine W2 [2, 3, 20] [101, 102] [] (l := [(2, .c (.ptr _ _ _ _)), (3, .c (.ptr _ _ _ _)), (20, .c (.bool false))]) (h := [(101, ⟨0, 5, [[.int _ _, .int _ _, .row _ _ _, .row _ _ _, .int _ _]]⟩), (102, ⟨0, 5, [[.int _ _, .int _ _, .row _ _ _, .row _ _ _, .int _ _]]⟩)]) (h' := []) trivial rfl rfl rfl ?_
        refine W_false rfl ?_
        refine W_skip ?_
        refine W_seq ?_
        refine W_seq ?_
        refine W_regV he rfl ?_
        refine v0 (sFP rfl rfl rfl) rfl ?_
        refine v0 (sLd rfl rfl) rfl ?_
        refine v0 (sFP rfl rfl rfl) rfl ?_
        refine v0 (sLd rfl rfl) rfl ?_
        refine bndc h ?_; clear h; intro r5 hr5 h
        refine vB (sCm (w_laws_eqIntS K a0.fChunks a1.fChunks _ hr5) ok_laws_eqIntS rfl rfl rfl rfl) rfl rfl fun b6 hb6 => ?_
        cases b6 with
        | true =>
          replace h := brT hb6 h
          refine v0 (sNt rfl rfl) rfl ?_
          refine ve ?_
          refine W2 [2, 3, 26] [101, 102] [] (l := [(2, .c (.ptr _ _ _ _)), (3, .c (.ptr _ _ _ _)), (26, .c (.bool false))]) (h := [(101, ⟨0, 5, [[.int _ _, .int _ _, .row _ _ _, .row _ _ _, .int _ _]]⟩), (102, ⟨0, 5, [[.int _ _, .int _ _, .row _ _ _, .row _ _ _, .int _ _]]⟩)]) (h' := []) trivial rfl rfl rfl ?_
          refine W_false rfl ?_
          refine W_skip ?_
          refine W_seq ?_
          refine W_seq ?_
          refine W_regV he rfl ?_
          refine v0 (sFP rfl rfl rfl) rfl ?_
          refine v0 (sLd rfl rfl) rfl ?_
          refine v0 (sFP rfl rfl rfl) rfl ?_
          refine v0 (sLd rfl rfl) rfl ?_
          refine vB (sBi rfl rfl rfl rfl) rfl rfl fun b7 hb7 => ?_
          cases b7 with
          | true =>
            replace h := brT hb7 h
            refine ve ?_
            refine W2 [31] [] [] (l := [(31, .c (.bool true))]) (h := []) (h' := []) trivial rfl rfl rfl ?_
            refine W_true rfl ?_
            refine W_seq ?_
            refine W_regV he rfl ?_
            refine v0 (sA rfl [] rfl) rfl ?_
            refine ve ?_
            refine W2 [4] [] [] (l := [(4, .c (.bool false))]) (h := []) (h' := []) trivial rfl rfl rfl ?_
            obtain rfl := Option.some.inj h
            exact W_ret (r0 rfl rfl)
          | false =>
            replace h := brF hb7 h
            refine ve ?_
            refine W2 [31] [] [] (l := [(31, .c (.bool false))]) (h := []) (h' := []) trivial rfl rfl rfl ?_
            refine W_false rfl ?_
            refine W_skip ?_
            refine W_seq ?_
            refine W_regV he rfl ?_
            refine v0 (sA rfl [] rfl) rfl ?_
            refine ve ?_
            refine W2 [4] [] [] (l := [(4, .c (.bool true))]) (h := []) (h' := []) trivial rfl rfl rfl ?_
            obtain rfl := Option.some.inj h
            exact W_ret (r0 rfl rfl)
        | false =>
          replace h := brF hb6 h
          refine v0 (sNt rfl rfl) rfl ?_
          refine ve ?_
          refine W2 [2, 3, 26] [101, 102] [] (l := [(2, .c (.ptr _ _ _ _)), (3, .c (.ptr _ _ _ _)), (26, .c (.bool true))]) (h := [(101, ⟨0, 5, [[.int _ _, .int _ _, .row _ _ _, .row _ _ _, .int _ _]]⟩), (102, ⟨0, 5, [[.int _ _, .int _ _, .row _ _ _, .row _ _ _, .int _ _]]⟩)]) (h' := []) trivial rfl rfl rfl ?_
          refine W_true rfl ?_
          refine W_seq ?_
          refine W_regV he rfl ?_
          refine v0 (sA rfl [] rfl) rfl ?_
          refine ve ?_
          refine W2 [4] [] [] (l := [(4, .c (.bool false))]) (h := []) (h' := []) trivial rfl rfl rfl ?_
          obtain rfl := Option.some.inj h
          exact W_ret (r0 rfl rfl)
      | false =>
        replace h := brF hb4 h
        refine v0 (sNt rfl rfl) rfl ?_
        refine ve ?_
        refine W2 [2, 3, 20] [101, 102] [] (l := [(2, .c (.ptr _ _ _ _)), (3, .c (.ptr _ _ _ _)), (20, .c (.bool true))]) (h := [(101, ⟨0, 5, [[.int _ _, .int _ _, .row _ _ _, .row _ _ _, .int _ _]]⟩), (102, ⟨0, 5, [[.int _ _, .int _ _, .row _ _ _, .row _ _ _, .int _ _]]⟩)]) (h' := []) trivial rfl rfl rfl ?_
        refine W_true rfl ?_
        refine W_seq ?_
        refine W_regV he rfl ?_
        refine v0 (sA rfl [] rfl) rfl ?_
        refine ve ?_
        refine W2 [4] [] [] (l := [(4, .c (.bool false))]) (h := []) (h' := []) trivial rfl rfl rfl ?_
        obtain rfl := Option.some.inj h
        exact W_ret (r0 rfl rfl)
theorem ok_laws_eqWaste : FnOk Try.prog 90 := ⟨_, Try.func90, rfl, rfl⟩


/-! ### loop.example/g00499/laws.eqWasteS -/
def l_laws_eqWasteS_3 (K : Nat) (a0 : List T_impl_Waste) (a1 : List T_impl_Waste) : Nat → Int → Option (Bool)
  | 0, _ => none
  | n3 + 1, v2 => (bif (decide (v2 < (a0.length : Int))) then (if (0 : Int) ≤ v2 ∧ v2 < (a0.length : Int) then (if (0 : Int) ≤ v2 ∧ v2 < (a1.length : Int) then ((m_laws_eqWaste K (gt a0 v2) (gt a1 v2)).bind fun r7 => (bif r7 then (l_laws_eqWasteS_3 K a0 a1 n3 (iAdd .i64 v2 1)) else some false)) else none) else none) else some true)
def m_laws_eqWasteS (K : Nat) (a0 : List T_impl_Waste) (a1 : List T_impl_Waste) : Option (Bool) := (bif ((a0.length : Int) != (a1.length : Int)) then some false else (l_laws_eqWasteS_3 K a0 a1 K 0))
set_option maxRecDepth 20000 in
set_option maxHeartbeats 8000000 in
theorem w_laws_eqWasteS (K : Nat) (a0 : List T_impl_Waste) (a1 : List T_impl_Waste) (r : Bool) (h : m_laws_eqWasteS K a0 a1 = some r) : Sp Try.prog 58 [.c (.row false 5 (a0.map en_impl_Waste)), .c (.row false 5 (a1.map en_impl_Waste))] [] (.c (.bool r)) [] := by
  refine Sp.of_W tabOk Try.func58 rfl rfl (Nat.le_of_ble_eq_true rfl) (Nat.le_of_ble_eq_true rfl) fun F hP hN hm => ?_
  obtain ⟨P, N, w0, σ0, β0, m⟩ := F
  obtain rfl : P = Try.prog := hP
  obtain rfl : N = 27 := hN
  obtain rfl : m = 1 := hm
  have he : Env ⟨Try.prog, 27, w0, σ0, β0, 1⟩ tab := ⟨Nat.le_of_ble_eq_true rfl, tabOk⟩
  unfold m_laws_eqWasteS at h
  refine W_seq ?_
  refine W_regV he rfl ?_
  refine v0 (sA rfl [] rfl) rfl ?_
  refine ve ?_
  refine W2 [0, 1] [] [] (l := [(0, .c (.row _ _ _)), (1, .c (.row _ _ _))]) (h := []) (h' := []) trivial rfl rfl rfl ?_
  refine W_seq ?_
  refine W_seq ?_
  refine W_regV he rfl ?_
  refine v0 (sM rfl [] rfl) rfl ?_
  refine v0 (sLm rfl rfl rfl rfl) rfl ?_
  refine v0 (sM rfl [] rfl) rfl ?_
  refine v0 (sLm rfl rfl rfl rfl) rfl ?_
  refine vB (sBi rfl rfl rfl rfl) rfl rfl fun b1 hb1 => ?_
  cases b1 with
  | true =>
    replace h := brT hb1 h
    refine ve ?_
    refine W2 [0, 1, 10] [] [] (l := [(0, .c (.row _ _ _)), (1, .c (.row _ _ _)), (10, .c (.bool true))]) (h := []) (h' := []) trivial rfl rfl rfl ?_
    refine W_true rfl ?_
    refine W_seq ?_
    refine W_regV he rfl ?_
    refine v0 (sA rfl [] rfl) rfl ?_
    refine ve ?_
    refine W2 [4] [] [] (l := [(4, .c (.bool false))]) (h := []) (h' := []) trivial rfl rfl rfl ?_
    obtain rfl := Option.some.inj h
    exact W_ret (r0 rfl rfl)
  | false =>
    replace h := brF hb1 h
    refine ve ?_
    refine W2 [0, 1, 10] [] [] (l := [(0, .c (.row _ _ _)), (1, .c (.row _ _ _)), (10, .c (.bool false))]) (h := []) (h' := []) trivial rfl rfl rfl ?_
    refine W_false rfl ?_
    refine W_skip ?_
    refine W_seq ?_
    refine W_seq ?_
    refine W_regV he rfl ?_
    refine v0 (sA rfl [] rfl) rfl ?_
    refine ve ?_
    refine W2 [0, 1, 5] [] [] (l := [(0, .c (.row _ _ _)), (1, .c (.row _ _ _)), (5, .c (.int _ _))]) (h := []) (h' := []) trivial rfl rfl rfl ?_
    refine W_block ?_
    refine W2 [0, 1, 5] [] [] (l := [(0, .c (.row _ _ _)), (1, .c (.row _ _ _)), (5, .c (.int _ _))]) (h := []) (h' := []) trivial rfl rfl rfl ?_
    refine W_loopW (fun n3 S => ∃ (v2 : Int), S = StL [(0, .c (.row false 5 (a0.map en_impl_Waste))), (1, .c (.row false 5 (a1.map en_impl_Waste))), (5, .c (.int .i64 v2))] ([] ++ []) ∧ l_laws_eqWasteS_3 K a0 a1 n3 v2 = some r) K ⟨_, rfl, h⟩ ?_
    rintro n3 S ⟨v2, rfl, h⟩
    cases n3 with
    | zero => simp [l_laws_eqWasteS_3] at h
    | succ n3 =>
      rw [l_laws_eqWasteS_3] at h
      refine W_seq ?_
      refine W_seq ?_
      refine W_regV he rfl ?_
      refine v0 (sM rfl [] rfl) rfl ?_
      refine v0 (sM rfl [] rfl) rfl ?_
      refine v0 (sLm rfl rfl rfl rfl) rfl ?_
      refine vB (sBi rfl rfl rfl rfl) rfl rfl fun b4 hb4 => ?_
      cases b4 with
      | true =>
        replace h := brT hb4 h
        refine ve ?_
        refine W2 [0, 1, 5, 14] [] [] (l := [(0, .c (.row _ _ _)), (1, .c (.row _ _ _)), (5, .c (.int _ _)), (14, .c (.bool true))]) (h := []) (h' := []) trivial rfl rfl rfl ?_
        refine W_true rfl ?_
        refine W_skip ?_
        refine W_seq ?_
        refine W_block ?_
        refine W_seq ?_
        refine W_regD he rfl rfl rfl ?_
        refine g0 (sM rfl [] rfl) rfl ?_
        refine g0 (sM rfl [] rfl) rfl ?_
        refine chkc h ?_; clear h; intro c5 h
        refine g0 (sIRm rfl rfl rfl rfl c5) rfl ?_
        refine g0 (sLI rfl rfl (en_impl_Waste (gt a0 v2)) (gt_at _ c5) rfl rfl rfl) rfl ?_
        refine g0 (sM rfl [] rfl) rfl ?_
        refine g0 (sM rfl [] rfl) rfl ?_
        refine chkc h ?_; clear h; intro c6 h
        refine g0 (sIRm rfl rfl rfl rfl c6) rfl ?_
        refine g0 (sLI rfl rfl (en_impl_Waste (gt a1 v2)) (gt_at _ c6) rfl rfl rfl) rfl ?_
        refine bndc h ?_; clear h; intro r7 hr7 h
        refine gB (sCm (w_laws_eqWaste K (gt a0 v2) (gt a1 v2) _ hr7) ok_laws_eqWaste rfl rfl rfl rfl) rfl rfl fun b8 hb8 => ?_
        cases b8 with
        | true =>
          replace h := brT hb8 h
          refine g0 (sNt rfl rfl) rfl ?_
          refine ge ⟨rfl, ?_⟩
          refine W2 [0, 1, 5, 26] [] [] (l := [(0, .c (.row _ _ _)), (1, .c (.row _ _ _)), (5, .c (.int _ _)), (26, .c (.bool false))]) (h := []) (h' := []) trivial rfl rfl rfl ?_
          refine W_false rfl ?_
          refine W_skip ?_
          refine W_regV he rfl ?_
          refine v0 (sM rfl [] rfl) rfl ?_
          refine v0 (sBi rfl rfl rfl rfl) rfl ?_
          refine v0 (sA rfl [] rfl) rfl ?_
          refine ve ?_
          exact ⟨n3, _, Nat.lt_succ_self n3, wk2 [0, 1, 5] [] [] (l := [(0, .c (.row _ _ _)), (1, .c (.row _ _ _)), (5, .c (.int _ _))]) (h := []) (h' := []) trivial rfl rfl rfl, _, rfl, h⟩
        | false =>
          replace h := brF hb8 h
          refine g0 (sNt rfl rfl) rfl ?_
          refine ge ⟨rfl, ?_⟩
          refine W2 [0, 1, 5, 26] [] [] (l := [(0, .c (.row _ _ _)), (1, .c (.row _ _ _)), (5, .c (.int _ _)), (26, .c (.bool true))]) (h := []) (h' := []) trivial rfl rfl rfl ?_
          refine W_true rfl ?_
          refine W_seq ?_
          refine W_regV he rfl ?_
          refine v0 (sA rfl [] rfl) rfl ?_
          refine ve ?_
          refine W2 [4] [] [] (l := [(4, .c (.bool false))]) (h := []) (h' := []) trivial rfl rfl rfl ?_
          obtain rfl := Option.some.inj h
          exact W_ret (r0 rfl rfl)
      | false =>
        replace h := brF hb4 h
        refine ve ?_
        refine W2 [0, 1, 5, 14] [] [] (l := [(0, .c (.row _ _ _)), (1, .c (.row _ _ _)), (5, .c (.int _ _)), (14, .c (.bool false))]) (h := []) (h' := []) trivial rfl rfl rfl ?_
        refine W_false rfl ?_
        refine W_exit (ex_then (ex_then (ex_hit ?_)))
        refine W_seq ?_
        refine W_regV he rfl ?_
        refine v0 (sA rfl [] rfl) rfl ?_
        refine ve ?_
        refine W2 [4] [] [] (l := [(4, .c (.bool true))]) (h := []) (h' := []) trivial rfl rfl rfl ?_
        obtain rfl := Option.some.inj h
        exact W_ret (r0 rfl rfl)
theorem ok_laws_eqWasteS : FnOk Try.prog 58 := ⟨_, Try.func58, rfl, rfl⟩


/-! ### loop.example/g00499/laws.eqWorld -/
def m_laws_eqWorld (K : Nat) (a0 : T_impl_World) (a1 : T_impl_World) : Option (Bool) := ((m_laws_eqConf K a0.fC a1.fC).bind fun r1 => (bif r1 then ((m_laws_eqPool K a0.fP a1.fP).bind fun r3 => (bif r3 then ((m_laws_eqNodeS K a0.fL a1.fL).bind fun r5 => (bif r5 then ((m_laws_eqWasteS K a0.fQ a1.fQ).bind fun r7 => (bif r7 then ((m_laws_eqIntS K a0.fLog a1.fLog).bind fun r9 => (bif r9 then some true else some false)) else some false)) else some false)) else some false)) else some false))
set_option maxRecDepth 20000 in
set_option maxHeartbeats 8000000 in
theorem w_laws_eqWorld (K : Nat) (a0 : T_impl_World) (a1 : T_impl_World) (r : Bool) (h : m_laws_eqWorld K a0 a1 = some r) : Sp Try.prog 15 [.g [.int .i64 a0.fC.fChunks, .int .i64 a0.fC.fSize, .int .i64 a0.fC.fSlots, .int .i64 a0.fC.fTax, .int .i64 a0.fC.fSlice, .int .i64 a0.fC.fGens, .row false 1 (a0.fP.fMem.map en_u8), .row false 1 (a0.fP.fSt.map en_i64), .row false 1 (a0.fP.fOwn.map en_i64), .row false 13 (a0.fL.map en_impl_Node), .row false 5 (a0.fQ.map en_impl_Waste), .row false 1 (a0.fLog.map en_i64)], .g [.int .i64 a1.fC.fChunks, .int .i64 a1.fC.fSize, .int .i64 a1.fC.fSlots, .int .i64 a1.fC.fTax, .int .i64 a1.fC.fSlice, .int .i64 a1.fC.fGens, .row false 1 (a1.fP.fMem.map en_u8), .row false 1 (a1.fP.fSt.map en_i64), .row false 1 (a1.fP.fOwn.map en_i64), .row false 13 (a1.fL.map en_impl_Node), .row false 5 (a1.fQ.map en_impl_Waste), .row false 1 (a1.fLog.map en_i64)]] [] (.c (.bool r)) [] := by
  refine Sp.of_W tabOk Try.func15 rfl rfl (Nat.le_of_ble_eq_true rfl) (Nat.le_of_ble_eq_true rfl) fun F hP hN hm => ?_
  obtain ⟨P, N, w0, σ0, β0, m⟩ := F
  obtain rfl : P = Try.prog := hP
  obtain rfl : N = 35 := hN
  obtain rfl : m = 1 := hm
  have he : Env ⟨Try.prog, 35, w0, σ0, β0, 1⟩ tab := ⟨Nat.le_of_ble_eq_true rfl, tabOk⟩
  unfold m_laws_eqWorld at h
  refine W_seq ?_
  refine W_regV he rfl ?_
  refine v0 (sBx rfl [] rfl rfl 101 rfl) rfl ?_
  refine v0 (sBx rfl [] rfl rfl 102 rfl) rfl ?_
  refine v0 (sA rfl [] rfl) rfl ?_
  refine ve ?_
  refine W2 [2, 3] [101, 102] [] (l := [(2, .c (.ptr _ _ _ _)), (3, .c (.ptr _ _ _ _))]) (h := [(101, ⟨0, 12, [[.int _ _, .int _ _, .int _ _, .int _ _, .int _ _, .int _ _, .row _ _ _, .row _ _ _, .row _ _ _, .row _ _ _, .row _ _ _, .row _ _ _]]⟩), (102, ⟨0, 12, [[.int _ _, .int _ _, .int _ _, .int _ _, .int _ _, .int _ _, .row _ _ _, .row _ _ _, .row _ _ _, .row _ _ _, .row _ _ _, .row _ _ _]]⟩)]) (h' := []) trivial rfl rfl rfl ?_
  refine W_seq ?_
  refine W_seq ?_
  refine W_regV he rfl ?_
  refine v0 (sFP rfl rfl rfl) rfl ?_
  refine v0 (sLd rfl rfl) rfl ?_
  refine v0 (sFP rfl rfl rfl) rfl ?_
  refine v0 (sLd rfl rfl) rfl ?_
  refine bndc h ?_; clear h; intro r1 hr1 h
  refine vB (sCm (w_laws_eqConf K a0.fC a1.fC _ hr1) ok_laws_eqConf rfl rfl rfl rfl) rfl rfl fun b2 hb2 => ?_
  cases b2 with
  | true =>
    replace h := brT hb2 h
    refine v0 (sNt rfl rfl) rfl ?_
    refine ve ?_
    refine W2 [2, 3, 10] [101, 102] [] (l := [(2, .c (.ptr _ _ _ _)), (3, .c (.ptr _ _ _ _)), (10, .c (.bool false))]) (h := [(101, ⟨0, 12, [[.int _ _, .int _ _, .int _ _, .int _ _, .int _ _, .int _ _, .row _ _ _, .row _ _ _, .row _ _ _, .row _ _ _, .row _ _ _, .row _ _ _]]⟩), (102, ⟨0, 12, [[.int _ _, .int _ _, .int _ _, .int _ _, .int _ _, .int _ _, .row _ _ _, .row _ _ _, .row _ _ _, .row _ _ _, .row _ _ _, .row _ _ _]]⟩)]) (h' := []) trivial rfl rfl rfl ?_
    refine W_false rfl ?_
    refine W_skip ?_
    refine W_seq ?_
    refine W_seq ?_
    refine W_regV he rfl ?_
    refine v0 (sFP rfl rfl rfl) rfl ?_
    refine v0 (sLd rfl rfl) rfl ?_
    refine v0 (sFP rfl rfl rfl) rfl ?_
    refine v0 (sLd rfl rfl) rfl ?_
    refine bndc h ?_; clear h; intro r3 hr3 h
    refine vB (sCm (w_laws_eqPool K a0.fP a1.fP _ hr3) ok_laws_eqPool rfl rfl rfl rfl) rfl rfl fun b4 hb4 => ?_
    cases b4 with
    | true =>
      replace h := brT hb4 h
      refine v0 (sNt rfl rfl) rfl ?_
      refine ve ?_
      refine W2 [2, 3, 16] [101, 102] [] (l := [(2, .c (.ptr _ _ _ _)), (3, .c (.ptr _ _ _ _)), (16, .c (.bool false))]) (h := [(101, ⟨0, 12, [[.int _ _, .int _ _, .int _ _, .int _ _, .int _ _, .int _ _, .row _ _ _, .row _ _ _, .row _ _ _, .row _ _ _, .row _ _ _, .row _ _ _]]⟩), (102, ⟨0, 12, [[.int _ _, .int _ _, .int _ _, .int _ _, .int _ _, .int _ _, .row _ _ _, .row _ _ _, .row _ _ _, .row _ _ _, .row _ _ _, .row _ _ _]]⟩)]) (h' := []) trivial rfl rfl rfl ?_
      refine W_false rfl ?_
      refine W_skip ?_
      refine W_seq ?_
      refine W_seq ?_
      refine W_regV he rfl ?_
      refine v0 (sFP rfl rfl rfl) rfl ?_
      refine v0 (sLd rfl rfl) rfl ?_
      refine v0 (sFP rfl rfl rfl) rfl ?_
      refine v0 (sLd rfl rfl) rfl ?_
      refine bndc h ?_; clear h; intro r5 hr5 h
      refine vB (sCm (w_laws_eqNodeS K a0.fL a1.fL _ hr5) ok_laws_eqNodeS rfl rfl rfl rfl) rfl rfl fun b6 hb6 => ?_
      cases b6 with
      | true =>
        replace h := brT hb6 h
        refine v0 (sNt rfl rfl) rfl ?_
        refine ve ?_
        refine W2 [2, 3, 22] [101, 102] [] (l := [(2, .c (.ptr _ _ _ _)), (3, .c (.ptr _ _ _ _)), (22, .c (.bool false))]) (h := [(101, ⟨0, 12, [[.int _ _, .int _ _, .int _ _, .int _ _, .int _ _, .int _ _, .row _ _ _, .row _ _ _, .row _ _ _, .row _ _ _, .row _ _ _, .row _ _ _]]⟩), (102, ⟨0, 12, [[.int _ _, .int _ _, .int _ _, .int _ _, .int _ _, .int _ _, .row _ _ _, .row _ _ _, .row _ _ _, .row _ _ _, .row _ _ _, .row _ _ _]]⟩)]) (h' := []) trivial rfl rfl rfl ?_
        refine W_false rfl ?_
        refine W_skip ?_
        refine W_seq ?_
        refine W_seq ?_
        refine W_regV he rfl ?_
        refine v0 (sFP rfl rfl rfl) rfl ?_
        refine v0 (sLd rfl rfl) rfl ?_
        refine v0 (sFP rfl rfl rfl) rfl ?_
        refine v0 (sLd rfl rfl) rfl ?_
        refine bndc h ?_; clear h; intro r7 hr7 h
        refine vB (sCm (w_laws_eqWasteS K a0.fQ a1.fQ _ hr7) ok_laws_eqWasteS rfl rfl rfl rfl) rfl rfl fun b8 hb8 => ?_
        cases b8 with
        | true =>
          replace h := brT hb8 h
          refine v0 (sNt rfl rfl) rfl ?_
          refine ve ?_
          refine W2 [2, 3, 28] [101, 102] [] (l := [(2, .c (.ptr _ _ _ _)), (3, .c (.ptr _ _ _ _)), (28, .c (.bool false))]) (h := [(101, ⟨0, 12, [[.int _ _, .int _ _, .int _ _, .int _ _, .int _ _, .int _ _, .row _ _ _, .row _ _ _, .row _ _ _, .row _ _ _, .row _ _ _, .row _ _ _]]⟩), (102, ⟨0, 12, [[.int _ _, .int _ _, .int _ _, .int _ _, .int _ _, .int _ _, .row _ _ _, .row _ _ _, .row _ _ _, .row _ _ _, .row _ _ _, .row _ _ _]]⟩)]) (h' := []) trivial rfl rfl rfl ?_
          refine W_false rfl ?_
          refine W_skip ?_
          refine W_seq ?_
          refine W_seq ?_
          refine W_regV he rfl ?_
          refine v0 (sFP rfl rfl rfl) rfl ?_
          refine v0 (sLd rfl rfl) rfl ?_
          refine v0 (sFP rfl rfl rfl) rfl ?_
          refine v0 (sLd rfl rfl) rfl ?_
          refine bndc h ?_; clear h; intro r9 hr9 h
          refine vB (sCm (w_laws_eqIntS K a0.fLog a1.fLog _ hr9) ok_laws_eqIntS rfl rfl rfl rfl) rfl rfl fun b10 hb10 => ?_
          cases b10 with
          | true =>
            replace h := brT hb10 h
            refine v0 (sNt rfl rfl) rfl ?_
            refine ve ?_
            refine W2 [34] [] [] (l := [(34, .c (.bool false))]) (h := []) (h' := []) trivial rfl rfl rfl ?_
            refine W_false rfl ?_
            refine W_skip ?_
            refine W_seq ?_
            refine W_regV he rfl ?_
            refine v0 (sA rfl [] rfl) rfl ?_
            refine ve ?_
            refine W2 [4] [] [] (l := [(4, .c (.bool true))]) (h := []) (h' := []) trivial rfl rfl rfl ?_
            obtain rfl := Option.some.inj h
            exact W_ret (r0 rfl rfl)
          | false =>
            replace h := brF hb10 h
            refine v0 (sNt rfl rfl) rfl ?_
            refine ve ?_
            refine W2 [34] [] [] (l := [(34, .c (.bool true))]) (h := []) (h' := []) trivial rfl rfl rfl ?_
            refine W_true rfl ?_
            refine W_seq ?_
            refine W_regV he rfl ?_
            refine v0 (sA rfl [] rfl) rfl ?_
            refine ve ?_
            refine W2 [4] [] [] (l := [(4, .c (.bool false))]) (h := []) (h' := []) trivial rfl rfl rfl ?_
            obtain rfl := Option.some.inj h
            exact W_ret (r0 rfl rfl)
        | false =>
          replace h := brF hb8 h
          refine v0 (sNt rfl rfl) rfl ?_
          refine ve ?_
          refine W2 [2, 3, 28] [101, 102] [] (l := [(2, .c (.ptr _ _ _ _)), (3, .c (.ptr _ _ _ _)), (28, .c (.bool true))]) (h := [(101, ⟨0, 12, [[.int _ _, .int _ _, .int _ _, .int _ _, .int _ _, .int _ _, .row _ _ _, .row _ _ _, .row _ _ _, .row _ _ _, .row _ _ _, .row _ _ _]]⟩), (102, ⟨0, 12, [[.int _ _, .int _ _, .int _ _, .int _ _, .int _ _, .int _ _, .row _ _ _, .row _ _ _, .row _ _ _, .row _ _ _, .row _ _ _, .row _ _ _]]⟩)]) (h' := []) trivial rfl rfl rfl ?_
          refine W_true rfl ?_
          refine W_seq ?_
          refine W_regV he rfl ?_
          refine v0 (sA rfl [] rfl) rfl ?_
          refine ve ?_
          refine W2 [4] [] [] (l := [(4, .c (.bool false))]) (h := []) (h' := []) trivial rfl rfl rfl ?_
          obtain rfl := Option.some.inj h
          exact W_ret (r0 rfl rfl)
      | false =>
        replace h := brF hb6 h
        refine v0 (sNt rfl rfl) rfl ?_
        refine ve ?_
        refine W2 [2, 3, 22] [101, 102] [] (l := [(2, .c (.ptr _ _ _ _)), (3, .c (.ptr _ _ _ _)), (22, .c (.bool true))]) (h := [(101, ⟨0, 12, [[.int _ _, .int _ _, .int _ _, .int _ _, .int _ _, .int _ _, .row _ _ _, .row _ _ _, .row _ _ _, .row _ _ _, .row _ _ _, .row _ _ _]]⟩), (102, ⟨0, 12, [[.int _ _, .int _ _, .int _ _, .int _ _, .int _ _, .int _ _, .row _ _ _, .row _ _ _, .row _ _ _, .row _ _ _, .row _ _ _, .row _ _ _]]⟩)]) (h' := []) trivial rfl rfl rfl ?_
        refine W_true rfl ?_
        refine W_seq ?_
        refine W_regV he rfl ?_
        refine v0 (sA rfl [] rfl) rfl ?_
        refine ve ?_
        refine W2 [4] [] [] (l := [(4, .c (.bool false))]) (h := []) (h' := []) trivial rfl rfl rfl ?_
        obtain rfl := Option.some.inj h
        exact W_ret (r0 rfl rfl)
    | false =>
      replace h := brF hb4 h
      refine v0 (sNt rfl rfl) rfl ?_
      refine ve ?_
      refine W2 [2, 3, 16] [101, 102] [] (l := [(2, .c (.ptr _ _ _ _)), (3, .c (.ptr _ _ _ _)), (16, .c (.bool true))]) (h := [(101, ⟨0, 12, [[.int _ _, .int _ _, .int _ _, .int _ _, .int _ _, .int _ _, .row _ _ _, .row _ _ _, .row _ _ _, .row _ _ _, .row _ _ _, .row _ _ _]]⟩), (102, ⟨0, 12, [[.int _ _, .int _ _, .int _ _, .int _ _, .int _ _, .int _ _, .row _ _ _, .row _ _ _, .row _ _ _, .row _ _ _, .row _ _ _, .row _ _ _]]⟩)]) (h' := []) trivial rfl rfl rfl ?_
      refine W_true rfl ?_
      refine W_seq ?_
      refine W_regV he rfl ?_
      refine v0 (sA rfl [] rfl) rfl ?_
      refine ve ?_
      refine W2 [4] [] [] (l := [(4, .c (.bool false))]) (h := []) (h' := []) trivial rfl rfl rfl ?_
      obtain rfl := Option.some.inj h
      exact W_ret (r0 rfl rfl)
  | false =>
    replace h := brF hb2 h
    refine v0 (sNt rfl rfl) rfl ?_
    refine ve ?_
    refine W2 [2, 3, 10] [101, 102] [] (l := [(2, .c (.ptr _ _ _ _)), (3, .c (.ptr _ _ _ _)), (10, .c (.bool true))]) (h := [(101, ⟨0, 12, [[.int _ _, .int _ _, .int _ _, .int _ _, .int _ _, .int _ _, .row _ _ _, .row _ _ _, .row _ _ _, .row _ _ _, .row _ _ _, .row _ _ _]]⟩), (102, ⟨0, 12, [[.int _ _, .int _ _, .int _ _, .int _ _, .int _ _, .int _ _, .row _ _ _, .row _ _ _, .row _ _ _, .row _ _ _, .row _ _ _, .row _ _ _]]⟩)]) (h' := []) trivial rfl rfl rfl ?_
    refine W_true rfl ?_
    refine W_seq ?_
    refine W_regV he rfl ?_
    refine v0 (sA rfl [] rfl) rfl ?_
    refine ve ?_
    refine W2 [4] [] [] (l := [(4, .c (.bool false))]) (h := []) (h' := []) trivial rfl rfl rfl ?_
    obtain rfl := Option.some.inj h
    exact W_ret (r0 rfl rfl)
theorem ok_laws_eqWorld : FnOk Try.prog 15 := ⟨_, Try.func15, rfl, rfl⟩


/-! ### loop.example/g00499/laws.markByteS -/
def l_laws_markByteSW_4 (K : Nat) : Nat → Int → Int → (List Int) → Option (Int × (List Int))
  | 0, _, _, _ => none
  | n4 + 1, v1, v2, v3 => (bif (decide (v2 < (v3.length : Int))) then (if (0 : Int) ≤ v2 ∧ v2 < (v3.length : Int) then (l_laws_markByteSW_4 K n4 (iAdd .i64 v1 1) (iAdd .i64 v2 1) (v3.set v2.toNat (IntKind.u8.wrap v1))) else none) else some (v1, v3))
def m_laws_markByteSW (K : Nat) (a0 : List Int) (a1 : Int) : Option (Int × (List Int)) := (l_laws_markByteSW_4 K K a1 0 a0)
set_option maxRecDepth 20000 in
set_option maxHeartbeats 8000000 in
theorem w_laws_markByteSW (K : Nat) (a0 : List Int) (a1 : Int) (r : Int × (List Int)) (h : m_laws_markByteSW K a0 a1 = some r) : Sp Try.prog 104 [.c (.own 1 0 0 a0.length), .c (.int .i64 a1)] [⟨0, 1, a0.map en_u8⟩] (.c (.int .i64 r.1)) [⟨0, 1, r.2.map en_u8⟩] := by
  refine Sp.of_W tabOk Try.func104 rfl rfl (Nat.le_of_ble_eq_true rfl) (Nat.le_of_ble_eq_true rfl) fun F hP hN hm => ?_
  obtain ⟨P, N, w0, σ0, β0, m⟩ := F
  obtain rfl : P = Try.prog := hP
  obtain rfl : N = 20 := hN
  obtain rfl : m = 2 := hm
  have he : Env ⟨Try.prog, 20, w0, σ0, β0, 2⟩ tab := ⟨Nat.le_of_ble_eq_true rfl, tabOk⟩
  unfold m_laws_markByteSW at h
  refine W_seq ?_
  refine W_regV he rfl ?_
  refine v0 (sA rfl [] rfl) rfl ?_
  refine ve ?_
  refine W2 [0, 1] [] [1] (l := [(0, .c (.own _ _ _ _)), (1, .c (.int _ _))]) (h := []) (h' := [(1, ⟨0, 1, a0.map en_u8⟩)]) ⟨⟨_, rfl, enOk_u8.allClosed _ _ a0⟩, trivial⟩ rfl rfl rfl ?_
  refine W_seq ?_
  refine W_seq ?_
  refine W_regV he rfl ?_
  refine v0 (sA rfl [] rfl) rfl ?_
  refine ve ?_
  refine W2 [0, 1, 5] [] [1] (l := [(0, .c (.own _ _ _ _)), (1, .c (.int _ _)), (5, .c (.int _ _))]) (h := []) (h' := [(1, ⟨0, 1, a0.map en_u8⟩)]) ⟨⟨_, rfl, enOk_u8.allClosed _ _ a0⟩, trivial⟩ rfl rfl rfl ?_
  refine W_block ?_
  refine W2 [0, 1, 5] [] [1] (l := [(0, .c (.own _ _ _ _)), (1, .c (.int _ _)), (5, .c (.int _ _))]) (h := []) (h' := [(1, ⟨0, 1, a0.map en_u8⟩)]) ⟨⟨_, rfl, enOk_u8.allClosed _ _ a0⟩, trivial⟩ rfl rfl rfl ?_
  refine W_loopW (fun n4 S => ∃ (v1 : Int), ∃ (v2 : Int), ∃ (v3 : List Int), S = StL [(0, .c (.own 1 0 0 v3.length)), (1, .c (.int .i64 v1)), (5, .c (.int .i64 v2))] ([] ++ [(1, ⟨0, 1, v3.map en_u8⟩)]) ∧ l_laws_markByteSW_4 K n4 v1 v2 v3 = some r) K ⟨_, _, _, rfl, h⟩ ?_
  rintro n4 S ⟨v1, v2, v3, rfl, h⟩
  cases n4 with
  | zero => simp [l_laws_markByteSW_4] at h
  | succ n4 =>
    rw [l_laws_markByteSW_4] at h
    refine W_seq ?_
    refine W_seq ?_
    refine W_regV he rfl ?_
    refine v0 (sM rfl [] rfl) rfl ?_
    refine v0 (sM rfl [] rfl) rfl ?_
    refine v0 (sLo rfl rfl rfl rfl) rfl ?_
    refine vB (sBi rfl rfl rfl rfl) rfl rfl fun b5 hb5 => ?_
    cases b5 with
    | true =>
      replace h := brT hb5 h
      refine ve ?_
      refine W2 [0, 1, 5, 9] [] [1] (l := [(0, .c (.own _ _ _ _)), (1, .c (.int _ _)), (5, .c (.int _ _)), (9, .c (.bool true))]) (h := []) (h' := [(1, ⟨0, 1, v3.map en_u8⟩)]) ⟨⟨_, rfl, enOk_u8.allClosed _ _ v3⟩, trivial⟩ rfl rfl rfl ?_
      refine W_true rfl ?_
      refine W_skip ?_
      refine W_seq ?_
      refine W_block ?_
      refine W_seq ?_
      refine W_regV he rfl ?_
      refine v0 (sM rfl [] rfl) rfl ?_
      refine v0 (sM rfl [] rfl) rfl ?_
      refine v0 (sM rfl [] rfl) rfl ?_
      refine v0 (sCv rfl rfl rfl rfl rfl rfl) rfl ?_
      refine chkc h ?_; clear h; intro c6 h
      refine v0 (sIOm rfl rfl rfl c6) rfl ?_
      refine v0 (sSkm rfl rfl [] v3 (IntKind.u8.wrap v1) c6 rfl rfl rfl rfl rfl rfl rfl rfl rfl) rfl ?_
      refine ve ?_
      refine W.weak (wk_len 0 (n' := (v3.set v2.toNat (IntKind.u8.wrap v1)).length) (by simp only [List.length_set]) rfl) ?_
      refine W2 [0, 1, 5] [] [1] (l := [(0, .c (.own _ _ _ _)), (1, .c (.int _ _)), (5, .c (.int _ _))]) (h := []) (h' := [(1, ⟨0, 1, (v3.set v2.toNat (IntKind.u8.wrap v1)).map en_u8⟩)]) ⟨⟨_, rfl, enOk_u8.allClosed _ _ (v3.set v2.toNat (IntKind.u8.wrap v1))⟩, trivial⟩ rfl rfl rfl ?_
      refine W_regV he rfl ?_
      refine v0 (sM rfl [] rfl) rfl ?_
      refine v0 (sBi rfl rfl rfl rfl) rfl ?_
      refine v0 (sA rfl [] rfl) rfl ?_
      refine ve ?_
      refine W2 [0, 1, 5] [] [1] (l := [(0, .c (.own _ _ _ _)), (1, .c (.int _ _)), (5, .c (.int _ _))]) (h := []) (h' := [(1, ⟨0, 1, (v3.set v2.toNat (IntKind.u8.wrap v1)).map en_u8⟩)]) ⟨⟨_, rfl, enOk_u8.allClosed _ _ (v3.set v2.toNat (IntKind.u8.wrap v1))⟩, trivial⟩ rfl rfl rfl ?_
      refine W_regV he rfl ?_
      refine v0 (sM rfl [] rfl) rfl ?_
      refine v0 (sBi rfl rfl rfl rfl) rfl ?_
      refine v0 (sA rfl [] rfl) rfl ?_
      refine ve ?_
      exact ⟨n4, _, Nat.lt_succ_self n4, wk2 [0, 1, 5] [] [1] (l := [(0, .c (.own _ _ _ _)), (1, .c (.int _ _)), (5, .c (.int _ _))]) (h := []) (h' := [(1, ⟨0, 1, (v3.set v2.toNat (IntKind.u8.wrap v1)).map en_u8⟩)]) ⟨⟨_, rfl, enOk_u8.allClosed _ _ (v3.set v2.toNat (IntKind.u8.wrap v1))⟩, trivial⟩ rfl rfl rfl, _, _, _, rfl, h⟩
    | false =>
      replace h := brF hb5 h
      refine ve ?_
      refine W2 [0, 1, 5, 9] [] [1] (l := [(0, .c (.own _ _ _ _)), (1, .c (.int _ _)), (5, .c (.int _ _)), (9, .c (.bool false))]) (h := []) (h' := [(1, ⟨0, 1, v3.map en_u8⟩)]) ⟨⟨_, rfl, enOk_u8.allClosed _ _ v3⟩, trivial⟩ rfl rfl rfl ?_
      refine W_false rfl ?_
      refine W_exit (ex_then (ex_then (ex_hit ?_)))
      refine W_seq ?_
      refine W_regV he rfl ?_
      refine v0 (sM rfl [] rfl) rfl ?_
      refine v0 (sA rfl [] rfl) rfl ?_
      refine ve ?_
      refine W2 [4] [] [1] (l := [(4, .c (.int _ _))]) (h := []) (h' := [(1, ⟨0, 1, v3.map en_u8⟩)]) ⟨⟨_, rfl, enOk_u8.allClosed _ _ v3⟩, trivial⟩ rfl rfl rfl ?_
      obtain rfl := Option.some.inj h
      exact W_ret (retOne 1 1 (.inr ⟨rfl, rfl⟩) enOk_u8 rfl rfl rfl)
theorem ok_laws_markByteS : FnOk Try.prog 104 := ⟨_, Try.func104, rfl, rfl⟩


/-! ### loop.example/g00499/laws.markIntS -/
def l_laws_markIntSW_4 (K : Nat) : Nat → Int → Int → (List Int) → Option (Int × (List Int))
  | 0, _, _, _ => none
  | n4 + 1, v1, v2, v3 => (bif (decide (v2 < (v3.length : Int))) then (if (0 : Int) ≤ v2 ∧ v2 < (v3.length : Int) then (l_laws_markIntSW_4 K n4 (iAdd .i64 v1 1) (iAdd .i64 v2 1) (v3.set v2.toNat v1)) else none) else some (v1, v3))
def m_laws_markIntSW (K : Nat) (a0 : List Int) (a1 : Int) : Option (Int × (List Int)) := (l_laws_markIntSW_4 K K a1 0 a0)
set_option maxRecDepth 20000 in
set_option maxHeartbeats 8000000 in
theorem w_laws_markIntSW (K : Nat) (a0 : List Int) (a1 : Int) (r : Int × (List Int)) (h : m_laws_markIntSW K a0 a1 = some r) : Sp Try.prog 31 [.c (.own 1 0 0 a0.length), .c (.int .i64 a1)] [⟨0, 1, a0.map en_i64⟩] (.c (.int .i64 r.1)) [⟨0, 1, r.2.map en_i64⟩] := by
  refine Sp.of_W tabOk Try.func31 rfl rfl (Nat.le_of_ble_eq_true rfl) (Nat.le_of_ble_eq_true rfl) fun F hP hN hm => ?_
  obtain ⟨P, N, w0, σ0, β0, m⟩ := F
  obtain rfl : P = Try.prog := hP
  obtain rfl : N = 19 := hN
  obtain rfl : m = 2 := hm
  have he : Env ⟨Try.prog, 19, w0, σ0, β0, 2⟩ tab := ⟨Nat.le_of_ble_eq_true rfl, tabOk⟩
  unfold m_laws_markIntSW at h
  refine W_seq ?_
  refine W_regV he rfl ?_
  refine v0 (sA rfl [] rfl) rfl ?_
  refine ve ?_
  refine W2 [0, 1] [] [1] (l := [(0, .c (.own _ _ _ _)), (1, .c (.int _ _))]) (h := []) (h' := [(1, ⟨0, 1, a0.map en_i64⟩)]) ⟨⟨_, rfl, enOk_i64.allClosed _ _ a0⟩, trivial⟩ rfl rfl rfl ?_
  refine W_seq ?_
  refine W_seq ?_
  refine W_regV he rfl ?_
  refine v0 (sA rfl [] rfl) rfl ?_
  refine ve ?_
  refine W2 [0, 1, 5] [] [1] (l := [(0, .c (.own _ _ _ _)), (1, .c (.int _ _)), (5, .c (.int _ _))]) (h := []) (h' := [(1, ⟨0, 1, a0.map en_i64⟩)]) ⟨⟨_, rfl, enOk_i64.allClosed _ _ a0⟩, trivial⟩ rfl rfl rfl ?_
  refine W_block ?_
  refine W2 [0, 1, 5] [] [1] (l := [(0, .c (.own _ _ _ _)), (1, .c (.int _ _)), (5, .c (.int _ _))]) (h := []) (h' := [(1, ⟨0, 1, a0.map en_i64⟩)]) ⟨⟨_, rfl, enOk_i64.allClosed _ _ a0⟩, trivial⟩ rfl rfl rfl ?_
  refine W_loopW (fun n4 S => ∃ (v1 : Int), ∃ (v2 : Int), ∃ (v3 : List Int), S = StL [(0, .c (.own 1 0 0 v3.length)), (1, .c (.int .i64 v1)), (5, .c (.int .i64 v2))] ([] ++ [(1, ⟨0, 1, v3.map en_i64⟩)]) ∧ l_laws_markIntSW_4 K n4 v1 v2 v3 = some r) K ⟨_, _, _, rfl, h⟩ ?_
  rintro n4 S ⟨v1, v2, v3, rfl, h⟩
  cases n4 with
  | zero => simp [l_laws_markIntSW_4] at h
  | succ n4 =>
    rw [l_laws_markIntSW_4] at h
    refine W_seq ?_
    refine W_seq ?_
    refine W_regV he rfl ?_
    refine v0 (sM rfl [] rfl) rfl ?_
    refine v0 (sM rfl [] rfl) rfl ?_
    refine v0 (sLo rfl rfl rfl rfl) rfl ?_
    refine vB (sBi rfl rfl rfl rfl) rfl rfl fun b5 hb5 => ?_
    cases b5 with
    | true =>
      replace h := brT hb5 h
      refine ve ?_
      refine W2 [0, 1, 5, 9] [] [1] (l := [(0, .c (.own _ _ _ _)), (1, .c (.int _ _)), (5, .c (.int _ _)), (9, .c (.bool true))]) (h := []) (h' := [(1, ⟨0, 1, v3.map en_i64⟩)]) ⟨⟨_, rfl, enOk_i64.allClosed _ _ v3⟩, trivial⟩ rfl rfl rfl ?_
      refine W_true rfl ?_
      refine W_skip ?_
      refine W_seq ?_
      refine W_block ?_
      refine W_seq ?_
      refine W_regV he rfl ?_
      refine v0 (sM rfl [] rfl) rfl ?_
      refine v0 (sM rfl [] rfl) rfl ?_
      refine v0 (sM rfl [] rfl) rfl ?_
      refine chkc h ?_; clear h; intro c6 h
      refine v0 (sIOm rfl rfl rfl c6) rfl ?_
      refine v0 (sSkm rfl rfl [] v3 v1 c6 rfl rfl rfl rfl rfl rfl rfl rfl rfl) rfl ?_
      refine ve ?_
      refine W.weak (wk_len 0 (n' := (v3.set v2.toNat v1).length) (by simp only [List.length_set]) rfl) ?_
      refine W2 [0, 1, 5] [] [1] (l := [(0, .c (.own _ _ _ _)), (1, .c (.int _ _)), (5, .c (.int _ _))]) (h := []) (h' := [(1, ⟨0, 1, (v3.set v2.toNat v1).map en_i64⟩)]) ⟨⟨_, rfl, enOk_i64.allClosed _ _ (v3.set v2.toNat v1)⟩, trivial⟩ rfl rfl rfl ?_
      refine W_regV he rfl ?_
      refine v0 (sM rfl [] rfl) rfl ?_
      refine v0 (sBi rfl rfl rfl rfl) rfl ?_
      refine v0 (sA rfl [] rfl) rfl ?_
      refine ve ?_
      refine W2 [0, 1, 5] [] [1] (l := [(0, .c (.own _ _ _ _)), (1, .c (.int _ _)), (5, .c (.int _ _))]) (h := []) (h' := [(1, ⟨0, 1, (v3.set v2.toNat v1).map en_i64⟩)]) ⟨⟨_, rfl, enOk_i64.allClosed _ _ (v3.set v2.toNat v1)⟩, trivial⟩ rfl rfl rfl ?_
      refine W_regV he rfl ?_
      refine v0 (sM rfl [] rfl) rfl ?_
      refine v0 (sBi rfl rfl rfl rfl) rfl ?_
      refine v0 (sA rfl [] rfl) rfl ?_
      refine ve ?_
      exact ⟨n4, _, Nat.lt_succ_self n4, wk2 [0, 1, 5] [] [1] (l := [(0, .c (.own _ _ _ _)), (1, .c (.int _ _)), (5, .c (.int _ _))]) (h := []) (h' := [(1, ⟨0, 1, (v3.set v2.toNat v1).map en_i64⟩)]) ⟨⟨_, rfl, enOk_i64.allClosed _ _ (v3.set v2.toNat v1)⟩, trivial⟩ rfl rfl rfl, _, _, _, rfl, h⟩
    | false =>
      replace h := brF hb5 h
      refine ve ?_
      refine W2 [0, 1, 5, 9] [] [1] (l := [(0, .c (.own _ _ _ _)), (1, .c (.int _ _)), (5, .c (.int _ _)), (9, .c (.bool false))]) (h := []) (h' := [(1, ⟨0, 1, v3.map en_i64⟩)]) ⟨⟨_, rfl, enOk_i64.allClosed _ _ v3⟩, trivial⟩ rfl rfl rfl ?_
      refine W_false rfl ?_
      refine W_exit (ex_then (ex_then (ex_hit ?_)))
      refine W_seq ?_
      refine W_regV he rfl ?_
      refine v0 (sM rfl [] rfl) rfl ?_
      refine v0 (sA rfl [] rfl) rfl ?_
      refine ve ?_
      refine W2 [4] [] [1] (l := [(4, .c (.int _ _))]) (h := []) (h' := [(1, ⟨0, 1, v3.map en_i64⟩)]) ⟨⟨_, rfl, enOk_i64.allClosed _ _ v3⟩, trivial⟩ rfl rfl rfl ?_
      obtain rfl := Option.some.inj h
      exact W_ret (retOne 1 1 (.inr ⟨rfl, rfl⟩) enOk_i64 rfl rfl rfl)
theorem ok_laws_markIntS : FnOk Try.prog 31 := ⟨_, Try.func31, rfl, rfl⟩


/-! ### loop.example/g00499/laws.markPool -/
def m_laws_markPoolW (K : Nat) (a0 : T_impl_Pool) (a1 : Int) : Option (Int × (List Int) × (List Int) × (List Int)) := ((m_laws_markByteSW K a0.fMem a1).bind fun r1 => (if r1.2.length = a0.fMem.length then ((m_laws_markIntSW K a0.fSt r1.1).bind fun r3 => (if r3.2.length = a0.fSt.length then ((m_laws_markIntSW K a0.fOwn r3.1).bind fun r5 => (if r5.2.length = a0.fOwn.length then some (r5.1, r1.2, r3.2, r5.2) else none)) else none)) else none))
set_option maxRecDepth 20000 in
set_option maxHeartbeats 8000000 in
theorem w_laws_markPoolW (K : Nat) (a0 : T_impl_Pool) (a1 : Int) (r : Int × (List Int) × (List Int) × (List Int)) (h : m_laws_markPoolW K a0 a1 = some r) : Sp Try.prog 69 [.g [.own 1 0 0 a0.fMem.length, .own 2 0 0 a0.fSt.length, .own 3 0 0 a0.fOwn.length], .c (.int .i64 a1)] [⟨0, 1, a0.fMem.map en_u8⟩, ⟨0, 1, a0.fSt.map en_i64⟩, ⟨0, 1, a0.fOwn.map en_i64⟩] (.c (.int .i64 r.1)) [⟨0, 1, r.2.1.map en_u8⟩, ⟨0, 1, r.2.2.1.map en_i64⟩, ⟨0, 1, r.2.2.2.map en_i64⟩] := by
  refine Sp.of_W tabOk Try.func69 rfl rfl (Nat.le_of_ble_eq_true rfl) (Nat.le_of_ble_eq_true rfl) fun F hP hN hm => ?_
  obtain ⟨P, N, w0, σ0, β0, m⟩ := F
  obtain rfl : P = Try.prog := hP
  obtain rfl : N = 18 := hN
  obtain rfl : m = 4 := hm
  have he : Env ⟨Try.prog, 18, w0, σ0, β0, 4⟩ tab := ⟨Nat.le_of_ble_eq_true rfl, tabOk⟩
  unfold m_laws_markPoolW at h
  refine W_seq ?_
  refine W_regV he rfl ?_
  refine v0 (sBx rfl [] rfl rfl 101 rfl) rfl ?_
  refine v0 (sA rfl [] rfl) rfl ?_
  refine ve ?_
  refine W2 [1, 2] [101] [1, 2, 3] (l := [(1, .c (.int _ _)), (2, .c (.ptr _ _ _ _))]) (h := [(101, ⟨0, 3, [[.own _ _ _ _, .own _ _ _ _, .own _ _ _ _]]⟩)]) (h' := [(1, ⟨0, 1, a0.fMem.map en_u8⟩), (2, ⟨0, 1, a0.fSt.map en_i64⟩), (3, ⟨0, 1, a0.fOwn.map en_i64⟩)]) ⟨⟨_, rfl, enOk_u8.allClosed _ _ a0.fMem⟩, ⟨⟨_, rfl, enOk_i64.allClosed _ _ a0.fSt⟩, ⟨⟨_, rfl, enOk_i64.allClosed _ _ a0.fOwn⟩, trivial⟩⟩⟩ rfl rfl rfl ?_
  refine W_seq ?_
  refine W_regV he rfl ?_
  refine v0 (sFP rfl rfl rfl) rfl ?_
  refine v0 (sLd rfl rfl) rfl ?_
  refine v0 (sM rfl [] rfl) rfl ?_
  refine bndc h ?_; clear h; intro r1 hr1 h
  refine chkc h ?_; clear h; intro c2 h
  refine v0 (sCw (w_laws_markByteSW K a0.fMem a1 _ hr1) ok_laws_markByteS enOk_u8 c2 1 rfl rfl rfl rfl rfl rfl) rfl ?_
  refine v0 (sA rfl [] rfl) rfl ?_
  refine ve ?_
  refine W2 [1, 2] [101] [1, 2, 3] (l := [(1, .c (.int _ _)), (2, .c (.ptr _ _ _ _))]) (h := [(101, ⟨0, 3, [[.own _ _ _ _, .own _ _ _ _, .own _ _ _ _]]⟩)]) (h' := [(1, ⟨0, 1, r1.2.map en_u8⟩), (2, ⟨0, 1, a0.fSt.map en_i64⟩), (3, ⟨0, 1, a0.fOwn.map en_i64⟩)]) ⟨⟨_, rfl, enOk_u8.allClosed _ _ r1.2⟩, ⟨⟨_, rfl, enOk_i64.allClosed _ _ a0.fSt⟩, ⟨⟨_, rfl, enOk_i64.allClosed _ _ a0.fOwn⟩, trivial⟩⟩⟩ rfl rfl rfl ?_
  refine W_seq ?_
  refine W_regV he rfl ?_
  refine v0 (sFP rfl rfl rfl) rfl ?_
  refine v0 (sLd rfl rfl) rfl ?_
  refine v0 (sM rfl [] rfl) rfl ?_
  refine bndc h ?_; clear h; intro r3 hr3 h
  refine chkc h ?_; clear h; intro c4 h
  refine v0 (sCw (w_laws_markIntSW K a0.fSt r1.1 _ hr3) ok_laws_markIntS enOk_i64 c4 2 rfl rfl rfl rfl rfl rfl) rfl ?_
  refine v0 (sA rfl [] rfl) rfl ?_
  refine ve ?_
  refine W2 [1, 2] [101] [1, 2, 3] (l := [(1, .c (.int _ _)), (2, .c (.ptr _ _ _ _))]) (h := [(101, ⟨0, 3, [[.own _ _ _ _, .own _ _ _ _, .own _ _ _ _]]⟩)]) (h' := [(1, ⟨0, 1, r1.2.map en_u8⟩), (2, ⟨0, 1, r3.2.map en_i64⟩), (3, ⟨0, 1, a0.fOwn.map en_i64⟩)]) ⟨⟨_, rfl, enOk_u8.allClosed _ _ r1.2⟩, ⟨⟨_, rfl, enOk_i64.allClosed _ _ r3.2⟩, ⟨⟨_, rfl, enOk_i64.allClosed _ _ a0.fOwn⟩, trivial⟩⟩⟩ rfl rfl rfl ?_
  refine W_seq ?_
  refine W_regV he rfl ?_
  refine v0 (sFP rfl rfl rfl) rfl ?_
  refine v0 (sLd rfl rfl) rfl ?_
  refine v0 (sM rfl [] rfl) rfl ?_
  refine bndc h ?_; clear h; intro r5 hr5 h
  refine chkc h ?_; clear h; intro c6 h
  refine v0 (sCw (w_laws_markIntSW K a0.fOwn r3.1 _ hr5) ok_laws_markIntS enOk_i64 c6 3 rfl rfl rfl rfl rfl rfl) rfl ?_
  refine v0 (sA rfl [] rfl) rfl ?_
  refine ve ?_
  refine W2 [1] [] [1, 2, 3] (l := [(1, .c (.int _ _))]) (h := []) (h' := [(1, ⟨0, 1, r1.2.map en_u8⟩), (2, ⟨0, 1, r3.2.map en_i64⟩), (3, ⟨0, 1, r5.2.map en_i64⟩)]) ⟨⟨_, rfl, enOk_u8.allClosed _ _ r1.2⟩, ⟨⟨_, rfl, enOk_i64.allClosed _ _ r3.2⟩, ⟨⟨_, rfl, enOk_i64.allClosed _ _ r5.2⟩, trivial⟩⟩⟩ rfl rfl rfl ?_
  refine W_seq ?_
  refine W_regV he rfl ?_
  refine v0 (sM rfl [] rfl) rfl ?_
  refine v0 (sA rfl [] rfl) rfl ?_
  refine ve ?_
  refine W2 [4] [] [1, 2, 3] (l := [(4, .c (.int _ _))]) (h := []) (h' := [(1, ⟨0, 1, r1.2.map en_u8⟩), (2, ⟨0, 1, r3.2.map en_i64⟩), (3, ⟨0, 1, r5.2.map en_i64⟩)]) ⟨⟨_, rfl, enOk_u8.allClosed _ _ r1.2⟩, ⟨⟨_, rfl, enOk_i64.allClosed _ _ r3.2⟩, ⟨⟨_, rfl, enOk_i64.allClosed _ _ r5.2⟩, trivial⟩⟩⟩ rfl rfl rfl ?_
  obtain rfl := Option.some.inj h
  exact W_ret (retG 3 [1, 2, 3] (by decide) rfl rfl rfl rfl (bl_cons (see_En enOk_u8 rfl) (bl_cons (see_En enOk_i64 rfl) (bl_cons (see_En enOk_i64 rfl) (bl_nil)))))
theorem ok_laws_markPool : FnOk Try.prog 69 := ⟨_, Try.func69, rfl, rfl⟩


/-! ### loop.example/g00499/laws.markThingS -/
def l_laws_markThingSW_4 (K : Nat) : Nat → Int → Int → (List T_impl_Thing) → Option (Int × (List T_impl_Thing))
  | 0, _, _, _ => none
  | n4 + 1, v1, v2, v3 => (bif (decide (v2 < (v3.length : Int))) then (if (0 : Int) ≤ v2 ∧ v2 < (v3.length : Int) then (letM (v3.set v2.toNat (T_impl_Thing.mk v1 ((gt v3 v2).fLen) ((gt v3 v2).fRun))) fun v7 => (if (0 : Int) ≤ v2 ∧ v2 < (v7.length : Int) then (letM (v7.set v2.toNat (T_impl_Thing.mk ((gt v7 v2).fAt) (iAdd .i64 v1 1) ((gt v7 v2).fRun))) fun v9 => (if (0 : Int) ≤ v2 ∧ v2 < (v9.length : Int) then (letM (v9.set v2.toNat (T_impl_Thing.mk ((gt v9 v2).fAt) ((gt v9 v2).fLen) (iAdd .i64 (iAdd .i64 v1 1) 1))) fun v11 => (l_laws_markThingSW_4 K n4 (iAdd .i64 (iAdd .i64 (iAdd .i64 v1 1) 1) 1) (iAdd .i64 v2 1) v11)) else none)) else none)) else none) else some (v1, v3))
def m_laws_markThingSW (K : Nat) (a0 : List T_impl_Thing) (a1 : Int) : Option (Int × (List T_impl_Thing)) := (l_laws_markThingSW_4 K K a1 0 a0)
set_option maxRecDepth 20000 in
set_option maxHeartbeats 8000000 in
theorem w_laws_markThingSW (K : Nat) (a0 : List T_impl_Thing) (a1 : Int) (r : Int × (List T_impl_Thing)) (h : m_laws_markThingSW K a0 a1 = some r) : Sp Try.prog 105 [.c (.own 1 0 0 a0.length), .c (.int .i64 a1)] [⟨0, 3, a0.map en_impl_Thing⟩] (.c (.int .i64 r.1)) [⟨0, 3, r.2.map en_impl_Thing⟩] := by
  refine Sp.of_W tabOk Try.func105 rfl rfl (Nat.le_of_ble_eq_true rfl) (Nat.le_of_ble_eq_true rfl) fun F hP hN hm => ?_
  obtain ⟨P, N, w0, σ0, β0, m⟩ := F
  obtain rfl : P = Try.prog := hP
  obtain rfl : N = 34 := hN
  obtain rfl : m = 2 := hm
  have he : Env ⟨Try.prog, 34, w0, σ0, β0, 2⟩ tab := ⟨Nat.le_of_ble_eq_true rfl, tabOk⟩
  unfold m_laws_markThingSW at h
  refine W_seq ?_
  refine W_regV he rfl ?_
  refine v0 (sA rfl [] rfl) rfl ?_
  refine ve ?_
  refine W2 [0, 1] [] [1] (l := [(0, .c (.own _ _ _ _)), (1, .c (.int _ _))]) (h := []) (h' := [(1, ⟨0, 3, a0.map en_impl_Thing⟩)]) ⟨⟨_, rfl, enOk_impl_Thing.allClosed _ _ a0⟩, trivial⟩ rfl rfl rfl ?_
  refine W_seq ?_
  refine W_seq ?_
  refine W_regV he rfl ?_
  refine v0 (sA rfl [] rfl) rfl ?_
  refine ve ?_
  refine W2 [0, 1, 5] [] [1] (l := [(0, .c (.own _ _ _ _)), (1, .c (.int _ _)), (5, .c (.int _ _))]) (h := []) (h' := [(1, ⟨0, 3, a0.map en_impl_Thing⟩)]) ⟨⟨_, rfl, enOk_impl_Thing.allClosed _ _ a0⟩, trivial⟩ rfl rfl rfl ?_
  refine W_block ?_
  refine W2 [0, 1, 5] [] [1] (l := [(0, .c (.own _ _ _ _)), (1, .c (.int _ _)), (5, .c (.int _ _))]) (h := []) (h' := [(1, ⟨0, 3, a0.map en_impl_Thing⟩)]) ⟨⟨_, rfl, enOk_impl_Thing.allClosed _ _ a0⟩, trivial⟩ rfl rfl rfl ?_
  refine W_loopW (fun n4 S => ∃ (v1 : Int), ∃ (v2 : Int), ∃ (v3 : List T_impl_Thing), S = StL [(0, .c (.own 1 0 0 v3.length)), (1, .c (.int .i64 v1)), (5, .c (.int .i64 v2))] ([] ++ [(1, ⟨0, 3, v3.map en_impl_Thing⟩)]) ∧ l_laws_markThingSW_4 K n4 v1 v2 v3 = some r) K ⟨_, _, _, rfl, h⟩ ?_
  rintro n4 S ⟨v1, v2, v3, rfl, h⟩
  cases n4 with
  | zero => simp [l_laws_markThingSW_4] at h
  | succ n4 =>
    rw [l_laws_markThingSW_4] at h
    refine W_seq ?_
    refine W_seq ?_
    refine W_regV he rfl ?_
    refine v0 (sM rfl [] rfl) rfl ?_
    refine v0 (sM rfl [] rfl) rfl ?_
    refine v0 (sLo rfl rfl rfl rfl) rfl ?_
    refine vB (sBi rfl rfl rfl rfl) rfl rfl fun b5 hb5 => ?_
    cases b5 with
    | true =>
      replace h := brT hb5 h
      refine ve ?_
      refine W2 [0, 1, 5, 9] [] [1] (l := [(0, .c (.own _ _ _ _)), (1, .c (.int _ _)), (5, .c (.int _ _)), (9, .c (.bool true))]) (h := []) (h' := [(1, ⟨0, 3, v3.map en_impl_Thing⟩)]) ⟨⟨_, rfl, enOk_impl_Thing.allClosed _ _ v3⟩, trivial⟩ rfl rfl rfl ?_
      refine W_true rfl ?_
      refine W_skip ?_
      refine W_seq ?_
      refine W_block ?_
      refine W_seq ?_
      refine W_regV he rfl ?_
      refine v0 (sM rfl [] rfl) rfl ?_
      refine v0 (sM rfl [] rfl) rfl ?_
      refine v0 (sM rfl [] rfl) rfl ?_
      refine chkc h ?_; clear h; intro c6 h
      refine v0 (sIOm rfl rfl rfl c6) rfl ?_
      refine v0 (sFP rfl rfl rfl) rfl ?_
      refine v0 (sSkf rfl rfl [] v3 (T_impl_Thing.mk v1 ((gt v3 v2).fLen) ((gt v3 v2).fRun)) c6 rfl rfl rfl rfl rfl rfl rfl rfl rfl) rfl ?_
      refine letc h ?_; clear h; intro v7 hv7 h; rw [← hv7]
      refine ve ?_
      refine W.weak (wk_len 0 (n' := v7.length) (by simp only [List.length_set, hv7]) rfl) ?_
      refine W2 [0, 1, 5] [] [1] (l := [(0, .c (.own _ _ _ _)), (1, .c (.int _ _)), (5, .c (.int _ _))]) (h := []) (h' := [(1, ⟨0, 3, v7.map en_impl_Thing⟩)]) ⟨⟨_, rfl, enOk_impl_Thing.allClosed _ _ v7⟩, trivial⟩ rfl rfl rfl ?_
      refine W_seq ?_
      refine W_regV he rfl ?_
      refine v0 (sM rfl [] rfl) rfl ?_
      refine v0 (sBi rfl rfl rfl rfl) rfl ?_
      refine v0 (sA rfl [] rfl) rfl ?_
      refine ve ?_
      refine W2 [0, 1, 5] [] [1] (l := [(0, .c (.own _ _ _ _)), (1, .c (.int _ _)), (5, .c (.int _ _))]) (h := []) (h' := [(1, ⟨0, 3, v7.map en_impl_Thing⟩)]) ⟨⟨_, rfl, enOk_impl_Thing.allClosed _ _ v7⟩, trivial⟩ rfl rfl rfl ?_
      refine W_seq ?_
      refine W_regV he rfl ?_
      refine v0 (sM rfl [] rfl) rfl ?_
      refine v0 (sM rfl [] rfl) rfl ?_
      refine v0 (sM rfl [] rfl) rfl ?_
      refine chkc h ?_; clear h; intro c8 h
      refine v0 (sIOm rfl rfl rfl c8) rfl ?_
      refine v0 (sFP rfl rfl rfl) rfl ?_
      refine v0 (sSkf rfl rfl [] v7 (T_impl_Thing.mk ((gt v7 v2).fAt) (iAdd .i64 v1 1) ((gt v7 v2).fRun)) c8 rfl rfl rfl rfl rfl rfl rfl rfl rfl) rfl ?_
      refine letc h ?_; clear h; intro v9 hv9 h; rw [← hv9]
      refine ve ?_
      refine W.weak (wk_len 0 (n' := v9.length) (by simp only [List.length_set, hv7, hv9]) rfl) ?_
      refine W2 [0, 1, 5] [] [1] (l := [(0, .c (.own _ _ _ _)), (1, .c (.int _ _)), (5, .c (.int _ _))]) (h := []) (h' := [(1, ⟨0, 3, v9.map en_impl_Thing⟩)]) ⟨⟨_, rfl, enOk_impl_Thing.allClosed _ _ v9⟩, trivial⟩ rfl rfl rfl ?_
      refine W_seq ?_
      refine W_regV he rfl ?_
      refine v0 (sM rfl [] rfl) rfl ?_
      refine v0 (sBi rfl rfl rfl rfl) rfl ?_
      refine v0 (sA rfl [] rfl) rfl ?_
      refine ve ?_
      refine W2 [0, 1, 5] [] [1] (l := [(0, .c (.own _ _ _ _)), (1, .c (.int _ _)), (5, .c (.int _ _))]) (h := []) (h' := [(1, ⟨0, 3, v9.map en_impl_Thing⟩)]) ⟨⟨_, rfl, enOk_impl_Thing.allClosed _ _ v9⟩, trivial⟩ rfl rfl rfl ?_
      refine W_seq ?_
      refine W_regV he rfl ?_
      refine v0 (sM rfl [] rfl) rfl ?_
      refine v0 (sM rfl [] rfl) rfl ?_
      refine v0 (sM rfl [] rfl) rfl ?_
      refine chkc h ?_; clear h; intro c10 h
      refine v0 (sIOm rfl rfl rfl c10) rfl ?_
      refine v0 (sFP rfl rfl rfl) rfl ?_
      refine v0 (sSkf rfl rfl [] v9 (T_impl_Thing.mk ((gt v9 v2).fAt) ((gt v9 v2).fLen) (iAdd .i64 (iAdd .i64 v1 1) 1)) c10 rfl rfl rfl rfl rfl rfl rfl rfl rfl) rfl ?_
      refine letc h ?_; clear h; intro v11 hv11 h; rw [← hv11]
      refine ve ?_
      refine W.weak (wk_len 0 (n' := v11.length) (by simp only [List.length_set, hv7, hv9, hv11]) rfl) ?_
      refine W2 [0, 1, 5] [] [1] (l := [(0, .c (.own _ _ _ _)), (1, .c (.int _ _)), (5, .c (.int _ _))]) (h := []) (h' := [(1, ⟨0, 3, v11.map en_impl_Thing⟩)]) ⟨⟨_, rfl, enOk_impl_Thing.allClosed _ _ v11⟩, trivial⟩ rfl rfl rfl ?_
      refine W_regV he rfl ?_
      refine v0 (sM rfl [] rfl) rfl ?_
      refine v0 (sBi rfl rfl rfl rfl) rfl ?_
      refine v0 (sA rfl [] rfl) rfl ?_
      refine ve ?_
      refine W2 [0, 1, 5] [] [1] (l := [(0, .c (.own _ _ _ _)), (1, .c (.int _ _)), (5, .c (.int _ _))]) (h := []) (h' := [(1, ⟨0, 3, v11.map en_impl_Thing⟩)]) ⟨⟨_, rfl, enOk_impl_Thing.allClosed _ _ v11⟩, trivial⟩ rfl rfl rfl ?_
      refine W_regV he rfl ?_
      refine v0 (sM rfl [] rfl) rfl ?_
      refine v0 (sBi rfl rfl rfl rfl) rfl ?_
      refine v0 (sA rfl [] rfl) rfl ?_
      refine ve ?_
      exact ⟨n4, _, Nat.lt_succ_self n4, wk2 [0, 1, 5] [] [1] (l := [(0, .c (.own _ _ _ _)), (1, .c (.int _ _)), (5, .c (.int _ _))]) (h := []) (h' := [(1, ⟨0, 3, v11.map en_impl_Thing⟩)]) ⟨⟨_, rfl, enOk_impl_Thing.allClosed _ _ v11⟩, trivial⟩ rfl rfl rfl, _, _, _, rfl, h⟩
    | false =>
      replace h := brF hb5 h
      refine ve ?_
      refine W2 [0, 1, 5, 9] [] [1] (l := [(0, .c (.own _ _ _ _)), (1, .c (.int _ _)), (5, .c (.int _ _)), (9, .c (.bool false))]) (h := []) (h' := [(1, ⟨0, 3, v3.map en_impl_Thing⟩)]) ⟨⟨_, rfl, enOk_impl_Thing.allClosed _ _ v3⟩, trivial⟩ rfl rfl rfl ?_
      refine W_false rfl ?_
      refine W_exit (ex_then (ex_then (ex_hit ?_)))
      refine W_seq ?_
      refine W_regV he rfl ?_
      refine v0 (sM rfl [] rfl) rfl ?_
      refine v0 (sA rfl [] rfl) rfl ?_
      refine ve ?_
      refine W2 [4] [] [1] (l := [(4, .c (.int _ _))]) (h := []) (h' := [(1, ⟨0, 3, v3.map en_impl_Thing⟩)]) ⟨⟨_, rfl, enOk_impl_Thing.allClosed _ _ v3⟩, trivial⟩ rfl rfl rfl ?_
      obtain rfl := Option.some.inj h
      exact W_ret (retOne 1 1 (.inr ⟨rfl, rfl⟩) enOk_impl_Thing rfl rfl rfl)
theorem ok_laws_markThingS : FnOk Try.prog 105 := ⟨_, Try.func105, rfl, rfl⟩


/-! ### loop.example/g00499/laws.markNodeS -/
def l_laws_markNodeSW_4 (K : Nat) : Nat → Int → Int → (List T_impl_Node) → Option (Int × (List T_impl_Node))
  | 0, _, _, _ => none
  | n4 + 1, v1, v2, v3 => (bif (decide (v2 < (v3.length : Int))) then (if (0 : Int) ≤ v2 ∧ v2 < (v3.length : Int) then (letM (v3.set v2.toNat (T_impl_Node.mk v1 ((gt v3 v2).fGen) ((gt v3 v2).fEp) ((gt v3 v2).fUp) ((gt v3 v2).fUpEp) ((gt v3 v2).fFirst) ((gt v3 v2).fNext) ((gt v3 v2).fPrev) ((gt v3 v2).fChunks) ((gt v3 v2).fCur) ((gt v3 v2).fBump) ((gt v3 v2).fThings) ((gt v3 v2).fTags))) fun v7 => (if (0 : Int) ≤ v2 ∧ v2 < (v7.length : Int) then (letM (v7.set v2.toNat (T_impl_Node.mk ((gt v7 v2).fSt) (iAdd .i64 v1 1) ((gt v7 v2).fEp) ((gt v7 v2).fUp) ((gt v7 v2).fUpEp) ((gt v7 v2).fFirst) ((gt v7 v2).fNext) ((gt v7 v2).fPrev) ((gt v7 v2).fChunks) ((gt v7 v2).fCur) ((gt v7 v2).fBump) ((gt v7 v2).fThings) ((gt v7 v2).fTags))) fun v9 => (if (0 : Int) ≤ v2 ∧ v2 < (v9.length : Int) then (letM (v9.set v2.toNat (T_impl_Node.mk ((gt v9 v2).fSt) ((gt v9 v2).fGen) (iAdd .i64 (iAdd .i64 v1 1) 1) ((gt v9 v2).fUp) ((gt v9 v2).fUpEp) ((gt v9 v2).fFirst) ((gt v9 v2).fNext) ((gt v9 v2).fPrev) ((gt v9 v2).fChunks) ((gt v9 v2).fCur) ((gt v9 v2).fBump) ((gt v9 v2).fThings) ((gt v9 v2).fTags))) fun v11 => (if (0 : Int) ≤ v2 ∧ v2 < (v11.length : Int) then (letM (v11.set v2.toNat (T_impl_Node.mk ((gt v11 v2).fSt) ((gt v11 v2).fGen) ((gt v11 v2).fEp) (iAdd .i64 (iAdd .i64 (iAdd .i64 v1 1) 1) 1) ((gt v11 v2).fUpEp) ((gt v11 v2).fFirst) ((gt v11 v2).fNext) ((gt v11 v2).fPrev) ((gt v11 v2).fChunks) ((gt v11 v2).fCur) ((gt v11 v2).fBump) ((gt v11 v2).fThings) ((gt v11 v2).fTags))) fun v13 => (if (0 : Int) ≤ v2 ∧ v2 < (v13.length : Int) then (letM (v13.set v2.toNat (T_impl_Node.mk ((gt v13 v2).fSt) ((gt v13 v2).fGen) ((gt v13 v2).fEp) ((gt v13 v2).fUp) (iAdd .i64 (iAdd .i64 (iAdd .i64 (iAdd .i64 v1 1) 1) 1) 1) ((gt v13 v2).fFirst) ((gt v13 v2).fNext) ((gt v13 v2).fPrev) ((gt v13 v2).fChunks) ((gt v13 v2).fCur) ((gt v13 v2).fBump) ((gt v13 v2).fThings) ((gt v13 v2).fTags))) fun v15 => (if (0 : Int) ≤ v2 ∧ v2 < (v15.length : Int) then (letM (v15.set v2.toNat (T_impl_Node.mk ((gt v15 v2).fSt) ((gt v15 v2).fGen) ((gt v15 v2).fEp) ((gt v15 v2).fUp) ((gt v15 v2).fUpEp) (iAdd .i64 (iAdd .i64 (iAdd .i64 (iAdd .i64 (iAdd .i64 v1 1) 1) 1) 1) 1) ((gt v15 v2).fNext) ((gt v15 v2).fPrev) ((gt v15 v2).fChunks) ((gt v15 v2).fCur) ((gt v15 v2).fBump) ((gt v15 v2).fThings) ((gt v15 v2).fTags))) fun v17 => (if (0 : Int) ≤ v2 ∧ v2 < (v17.length : Int) then (letM (v17.set v2.toNat (T_impl_Node.mk ((gt v17 v2).fSt) ((gt v17 v2).fGen) ((gt v17 v2).fEp) ((gt v17 v2).fUp) ((gt v17 v2).fUpEp) ((gt v17 v2).fFirst) (iAdd .i64 (iAdd .i64 (iAdd .i64 (iAdd .i64 (iAdd .i64 (iAdd .i64 v1 1) 1) 1) 1) 1) 1) ((gt v17 v2).fPrev) ((gt v17 v2).fChunks) ((gt v17 v2).fCur) ((gt v17 v2).fBump) ((gt v17 v2).fThings) ((gt v17 v2).fTags))) fun v19 => (if (0 : Int) ≤ v2 ∧ v2 < (v19.length : Int) then (letM (v19.set v2.toNat (T_impl_Node.mk ((gt v19 v2).fSt) ((gt v19 v2).fGen) ((gt v19 v2).fEp) ((gt v19 v2).fUp) ((gt v19 v2).fUpEp) ((gt v19 v2).fFirst) ((gt v19 v2).fNext) (iAdd .i64 (iAdd .i64 (iAdd .i64 (iAdd .i64 (iAdd .i64 (iAdd .i64 (iAdd .i64 v1 1) 1) 1) 1) 1) 1) 1) ((gt v19 v2).fChunks) ((gt v19 v2).fCur) ((gt v19 v2).fBump) ((gt v19 v2).fThings) ((gt v19 v2).fTags))) fun v21 => (if (0 : Int) ≤ v2 ∧ v2 < (v21.length : Int) then ((m_laws_markIntSW K ((gt v21 v2).fChunks) (iAdd .i64 (iAdd .i64 (iAdd .i64 (iAdd .i64 (iAdd .i64 (iAdd .i64 (iAdd .i64 (iAdd .i64 v1 1) 1) 1) 1) 1) 1) 1) 1)).bind fun r23 => (if r23.2.length = ((gt v21 v2).fChunks).length then (letM (v21.set v2.toNat (T_impl_Node.mk ((gt v21 v2).fSt) ((gt v21 v2).fGen) ((gt v21 v2).fEp) ((gt v21 v2).fUp) ((gt v21 v2).fUpEp) ((gt v21 v2).fFirst) ((gt v21 v2).fNext) ((gt v21 v2).fPrev) r23.2 ((gt v21 v2).fCur) ((gt v21 v2).fBump) ((gt v21 v2).fThings) ((gt v21 v2).fTags))) fun v25 => (if (0 : Int) ≤ v2 ∧ v2 < (v25.length : Int) then (letM (v25.set v2.toNat (T_impl_Node.mk ((gt v25 v2).fSt) ((gt v25 v2).fGen) ((gt v25 v2).fEp) ((gt v25 v2).fUp) ((gt v25 v2).fUpEp) ((gt v25 v2).fFirst) ((gt v25 v2).fNext) ((gt v25 v2).fPrev) ((gt v25 v2).fChunks) r23.1 ((gt v25 v2).fBump) ((gt v25 v2).fThings) ((gt v25 v2).fTags))) fun v27 => (if (0 : Int) ≤ v2 ∧ v2 < (v27.length : Int) then (letM (v27.set v2.toNat (T_impl_Node.mk ((gt v27 v2).fSt) ((gt v27 v2).fGen) ((gt v27 v2).fEp) ((gt v27 v2).fUp) ((gt v27 v2).fUpEp) ((gt v27 v2).fFirst) ((gt v27 v2).fNext) ((gt v27 v2).fPrev) ((gt v27 v2).fChunks) ((gt v27 v2).fCur) (iAdd .i64 r23.1 1) ((gt v27 v2).fThings) ((gt v27 v2).fTags))) fun v29 => (if (0 : Int) ≤ v2 ∧ v2 < (v29.length : Int) then ((m_laws_markThingSW K ((gt v29 v2).fThings) (iAdd .i64 (iAdd .i64 r23.1 1) 1)).bind fun r31 => (if r31.2.length = ((gt v29 v2).fThings).length then (letM (v29.set v2.toNat (T_impl_Node.mk ((gt v29 v2).fSt) ((gt v29 v2).fGen) ((gt v29 v2).fEp) ((gt v29 v2).fUp) ((gt v29 v2).fUpEp) ((gt v29 v2).fFirst) ((gt v29 v2).fNext) ((gt v29 v2).fPrev) ((gt v29 v2).fChunks) ((gt v29 v2).fCur) ((gt v29 v2).fBump) r31.2 ((gt v29 v2).fTags))) fun v33 => (if (0 : Int) ≤ v2 ∧ v2 < (v33.length : Int) then ((m_laws_markIntSW K ((gt v33 v2).fTags) r31.1).bind fun r35 => (if r35.2.length = ((gt v33 v2).fTags).length then (letM (v33.set v2.toNat (T_impl_Node.mk ((gt v33 v2).fSt) ((gt v33 v2).fGen) ((gt v33 v2).fEp) ((gt v33 v2).fUp) ((gt v33 v2).fUpEp) ((gt v33 v2).fFirst) ((gt v33 v2).fNext) ((gt v33 v2).fPrev) ((gt v33 v2).fChunks) ((gt v33 v2).fCur) ((gt v33 v2).fBump) ((gt v33 v2).fThings) r35.2)) fun v37 => (l_laws_markNodeSW_4 K n4 r35.1 (iAdd .i64 v2 1) v37)) else none)) else none)) else none)) else none)) else none)) else none)) else none)) else none)) else none)) else none)) else none)) else none)) else none)) else none)) else none)) else none) else some (v1, v3))
def m_laws_markNodeSW (K : Nat) (a0 : List T_impl_Node) (a1 : Int) : Option (Int × (List T_impl_Node)) := (l_laws_markNodeSW_4 K K a1 0 a0)
set_option maxRecDepth 20000 in
set_option maxHeartbeats 8000000 in
theorem w_laws_markNodeSW (K : Nat) (a0 : List T_impl_Node) (a1 : Int) (r : Int × (List T_impl_Node)) (h : m_laws_markNodeSW K a0 a1 = some r) : Sp Try.prog 70 [.c (.own 1 0 0 a0.length), .c (.int .i64 a1)] [⟨0, 13, a0.map enD_impl_Node⟩] (.c (.int .i64 r.1)) [⟨0, 13, r.2.map enD_impl_Node⟩] := by
  refine Sp.of_W tabOk Try.func70 rfl rfl (Nat.le_of_ble_eq_true rfl) (Nat.le_of_ble_eq_true rfl) fun F hP hN hm => ?_
  obtain ⟨P, N, w0, σ0, β0, m⟩ := F
  obtain rfl : P = Try.prog := hP
  obtain rfl : N = 104 := hN
  obtain rfl : m = 2 := hm
  have he : Env ⟨Try.prog, 104, w0, σ0, β0, 2⟩ tab := ⟨Nat.le_of_ble_eq_true rfl, tabOk⟩
  unfold m_laws_markNodeSW at h
  refine W_seq ?_
  refine W_regV he rfl ?_
  refine v0 (sA rfl [] rfl) rfl ?_
  refine ve ?_
  refine W2 [0, 1] [] [1] (l := [(0, .c (.own _ _ _ _)), (1, .c (.int _ _))]) (h := []) (h' := [(1, ⟨0, 13, a0.map enD_impl_Node⟩)]) ⟨⟨_, rfl, enDOk_impl_Node.allClosed _ _ a0⟩, trivial⟩ rfl rfl rfl ?_
  refine W_seq ?_
  refine W_seq ?_
  refine W_regV he rfl ?_
  refine v0 (sA rfl [] rfl) rfl ?_
  refine ve ?_
  refine W2 [0, 1, 5] [] [1] (l := [(0, .c (.own _ _ _ _)), (1, .c (.int _ _)), (5, .c (.int _ _))]) (h := []) (h' := [(1, ⟨0, 13, a0.map enD_impl_Node⟩)]) ⟨⟨_, rfl, enDOk_impl_Node.allClosed _ _ a0⟩, trivial⟩ rfl rfl rfl ?_
  refine W_block ?_
  refine W2 [0, 1, 5] [] [1] (l := [(0, .c (.own _ _ _ _)), (1, .c (.int _ _)), (5, .c (.int _ _))]) (h := []) (h' := [(1, ⟨0, 13, a0.map enD_impl_Node⟩)]) ⟨⟨_, rfl, enDOk_impl_Node.allClosed _ _ a0⟩, trivial⟩ rfl rfl rfl ?_
  refine W_loopW (fun n4 S => ∃ (v1 : Int), ∃ (v2 : Int), ∃ (v3 : List T_impl_Node), S = StL [(0, .c (.own 1 0 0 v3.length)), (1, .c (.int .i64 v1)), (5, .c (.int .i64 v2))] ([] ++ [(1, ⟨0, 13, v3.map enD_impl_Node⟩)]) ∧ l_laws_markNodeSW_4 K n4 v1 v2 v3 = some r) K ⟨_, _, _, rfl, h⟩ ?_
  rintro n4 S ⟨v1, v2, v3, rfl, h⟩
  cases n4 with
  | zero => simp [l_laws_markNodeSW_4] at h
  | succ n4 =>
    rw [l_laws_markNodeSW_4] at h
    refine W_seq ?_
    refine W_seq ?_
    refine W_regV he rfl ?_
    refine v0 (sM rfl [] rfl) rfl ?_
    refine v0 (sM rfl [] rfl) rfl ?_
    refine v0 (sLo rfl rfl rfl rfl) rfl ?_
    refine vB (sBi rfl rfl rfl rfl) rfl rfl fun b5 hb5 => ?_
    cases b5 with
    | true =>
      replace h := brT hb5 h
      refine ve ?_
      refine W2 [0, 1, 5, 9] [] [1] (l := [(0, .c (.own _ _ _ _)), (1, .c (.int _ _)), (5, .c (.int _ _)), (9, .c (.bool true))]) (h := []) (h' := [(1, ⟨0, 13, v3.map enD_impl_Node⟩)]) ⟨⟨_, rfl, enDOk_impl_Node.allClosed _ _ v3⟩, trivial⟩ rfl rfl rfl ?_
      refine W_true rfl ?_
      refine W_skip ?_
      refine W_seq ?_
      refine W_block ?_
      refine W_seq ?_
      refine W_regV he rfl ?_
      refine v0 (sM rfl [] rfl) rfl ?_
      refine v0 (sM rfl [] rfl) rfl ?_
      refine v0 (sM rfl [] rfl) rfl ?_
      refine chkc h ?_; clear h; intro c6 h
      refine v0 (sIOm rfl rfl rfl c6) rfl ?_
      refine v0 (sFP rfl rfl rfl) rfl ?_
      refine v0 (sSkf rfl rfl [] v3 (T_impl_Node.mk v1 ((gt v3 v2).fGen) ((gt v3 v2).fEp) ((gt v3 v2).fUp) ((gt v3 v2).fUpEp) ((gt v3 v2).fFirst) ((gt v3 v2).fNext) ((gt v3 v2).fPrev) ((gt v3 v2).fChunks) ((gt v3 v2).fCur) ((gt v3 v2).fBump) ((gt v3 v2).fThings) ((gt v3 v2).fTags)) c6 rfl rfl rfl rfl rfl rfl rfl rfl rfl) rfl ?_
      refine letc h ?_; clear h; intro v7 hv7 h; rw [← hv7]
      refine ve ?_
      refine W.weak (wk_len 0 (n' := v7.length) (by simp only [List.length_set, hv7]) rfl) ?_
      refine W2 [0, 1, 5] [] [1] (l := [(0, .c (.own _ _ _ _)), (1, .c (.int _ _)), (5, .c (.int _ _))]) (h := []) (h' := [(1, ⟨0, 13, v7.map enD_impl_Node⟩)]) ⟨⟨_, rfl, enDOk_impl_Node.allClosed _ _ v7⟩, trivial⟩ rfl rfl rfl ?_
      refine W_seq ?_
      refine W_regV he rfl ?_
      refine v0 (sM rfl [] rfl) rfl ?_
      refine v0 (sBi rfl rfl rfl rfl) rfl ?_
      refine v0 (sA rfl [] rfl) rfl ?_
      refine ve ?_
      refine W2 [0, 1, 5] [] [1] (l := [(0, .c (.own _ _ _ _)), (1, .c (.int _ _)), (5, .c (.int _ _))]) (h := []) (h' := [(1, ⟨0, 13, v7.map enD_impl_Node⟩)]) ⟨⟨_, rfl, enDOk_impl_Node.allClosed _ _ v7⟩, trivial⟩ rfl rfl rfl ?_
      refine W_seq ?_
      refine W_regV he rfl ?_
      refine v0 (sM rfl [] rfl) rfl ?_
      refine v0 (sM rfl [] rfl) rfl ?_
      refine v0 (sM rfl [] rfl) rfl ?_
      refine chkc h ?_; clear h; intro c8 h
      refine v0 (sIOm rfl rfl rfl c8) rfl ?_
      refine v0 (sFP rfl rfl rfl) rfl ?_
      refine v0 (sSkf rfl rfl [] v7 (T_impl_Node.mk ((gt v7 v2).fSt) (iAdd .i64 v1 1) ((gt v7 v2).fEp) ((gt v7 v2).fUp) ((gt v7 v2).fUpEp) ((gt v7 v2).fFirst) ((gt v7 v2).fNext) ((gt v7 v2).fPrev) ((gt v7 v2).fChunks) ((gt v7 v2).fCur) ((gt v7 v2).fBump) ((gt v7 v2).fThings) ((gt v7 v2).fTags)) c8 rfl rfl rfl rfl rfl rfl rfl rfl rfl) rfl ?_
      refine letc h ?_; clear h; intro v9 hv9 h; rw [← hv9]
      refine ve ?_
      refine W.weak (wk_len 0 (n' := v9.length) (by simp only [List.length_set, hv7, hv9]) rfl) ?_
      refine W2 [0, 1, 5] [] [1] (l := [(0, .c (.own _ _ _ _)), (1, .c (.int _ _)), (5, .c (.int _ _))]) (h := []) (h' := [(1, ⟨0, 13, v9.map enD_impl_Node⟩)]) ⟨⟨_, rfl, enDOk_impl_Node.allClosed _ _ v9⟩, trivial⟩ rfl rfl rfl ?_
      refine W_seq ?_
      refine W_regV he rfl ?_
      refine v0 (sM rfl [] rfl) rfl ?_
      refine v0 (sBi rfl rfl rfl rfl) rfl ?_
      refine v0 (sA rfl [] rfl) rfl ?_
      refine ve ?_
      refine W2 [0, 1, 5] [] [1] (l := [(0, .c (.own _ _ _ _)), (1, .c (.int _ _)), (5, .c (.int _ _))]) (h := []) (h' := [(1, ⟨0, 13, v9.map enD_impl_Node⟩)]) ⟨⟨_, rfl, enDOk_impl_Node.allClosed _ _ v9⟩, trivial⟩ rfl rfl rfl ?_
      refine W_seq ?_
      refine W_regV he rfl ?_
      refine v0 (sM rfl [] rfl) rfl ?_
      refine v0 (sM rfl [] rfl) rfl ?_
      refine v0 (sM rfl [] rfl) rfl ?_
      refine chkc h ?_; clear h; intro c10 h
      refine v0 (sIOm rfl rfl rfl c10) rfl ?_
      refine v0 (sFP rfl rfl rfl) rfl ?_
      refine v0 (sSkf rfl rfl [] v9 (T_impl_Node.mk ((gt v9 v2).fSt) ((gt v9 v2).fGen) (iAdd .i64 (iAdd .i64 v1 1) 1) ((gt v9 v2).fUp) ((gt v9 v2).fUpEp) ((gt v9 v2).fFirst) ((gt v9 v2).fNext) ((gt v9 v2).fPrev) ((gt v9 v2).fChunks) ((gt v9 v2).fCur) ((gt v9 v2).fBump) ((gt v9 v2).fThings) ((gt v9 v2).fTags)) c10 rfl rfl rfl rfl rfl rfl rfl rfl rfl) rfl ?_
      refine letc h ?_; clear h; intro v11 hv11 h; rw [← hv11]
      refine ve ?_
      refine W.weak (wk_len 0 (n' := v11.length) (by simp only [List.length_set, hv7, hv9, hv11]) rfl) ?_
      refine W2 [0, 1, 5] [] [1] (l := [(0, .c (.own _ _ _ _)), (1, .c (.int _ _)), (5, .c (.int _ _))]) (h := []) (h' := [(1, ⟨0, 13, v11.map enD_impl_Node⟩)]) ⟨⟨_, rfl, enDOk_impl_Node.allClosed _ _ v11⟩, trivial⟩ rfl rfl rfl ?_
      refine W_seq ?_
      refine W_regV he rfl ?_
      refine v0 (sM rfl [] rfl) rfl ?_
      refine v0 (sBi rfl rfl rfl rfl) rfl ?_
      refine v0 (sA rfl [] rfl) rfl ?_
      refine ve ?_
      refine W2 [0, 1, 5] [] [1] (l := [(0, .c (.own _ _ _ _)), (1, .c (.int _ _)), (5, .c (.int _ _))]) (h := []) (h' := [(1, ⟨0, 13, v11.map enD_impl_Node⟩)]) ⟨⟨_, rfl, enDOk_impl_Node.allClosed _ _ v11⟩, trivial⟩ rfl rfl rfl ?_
      refine W_seq ?_
      refine W_regV he rfl ?_
      refine v0 (sM rfl [] rfl) rfl ?_
      refine v0 (sM rfl [] rfl) rfl ?_
      refine v0 (sM rfl [] rfl) rfl ?_
      refine chkc h ?_; clear h; intro c12 h
      refine v0 (sIOm rfl rfl rfl c12) rfl ?_
      refine v0 (sFP rfl rfl rfl) rfl ?_
      refine v0 (sSkf rfl rfl [] v11 (T_impl_Node.mk ((gt v11 v2).fSt) ((gt v11 v2).fGen) ((gt v11 v2).fEp) (iAdd .i64 (iAdd .i64 (iAdd .i64 v1 1) 1) 1) ((gt v11 v2).fUpEp) ((gt v11 v2).fFirst) ((gt v11 v2).fNext) ((gt v11 v2).fPrev) ((gt v11 v2).fChunks) ((gt v11 v2).fCur) ((gt v11 v2).fBump) ((gt v11 v2).fThings) ((gt v11 v2).fTags)) c12 rfl rfl rfl rfl rfl rfl rfl rfl rfl) rfl ?_
      refine letc h ?_; clear h; intro v13 hv13 h; rw [← hv13]
      refine ve ?_
      refine W.weak (wk_len 0 (n' := v13.length) (by simp only [List.length_set, hv7, hv9, hv11, hv13]) rfl) ?_
      refine W2 [0, 1, 5] [] [1] (l := [(0, .c (.own _ _ _ _)), (1, .c (.int _ _)), (5, .c (.int _ _))]) (h := []) (h' := [(1, ⟨0, 13, v13.map enD_impl_Node⟩)]) ⟨⟨_, rfl, enDOk_impl_Node.allClosed _ _ v13⟩, trivial⟩ rfl rfl rfl ?_
      refine W_seq ?_
      refine W_regV he rfl ?_
      refine v0 (sM rfl [] rfl) rfl ?_
      refine v0 (sBi rfl rfl rfl rfl) rfl ?_
      refine v0 (sA rfl [] rfl) rfl ?_
      refine ve ?_
      refine W2 [0, 1, 5] [] [1] (l := [(0, .c (.own _ _ _ _)), (1, .c (.int _ _)), (5, .c (.int _ _))]) (h := []) (h' := [(1, ⟨0, 13, v13.map enD_impl_Node⟩)]) ⟨⟨_, rfl, enDOk_impl_Node.allClosed _ _ v13⟩, trivial⟩ rfl rfl rfl ?_
      refine W_seq ?_
      refine W_regV he rfl ?_
      refine v0 (sM rfl [] rfl) rfl ?_
      refine v0 (sM rfl [] rfl) rfl ?_
      refine v0 (sM rfl [] rfl) rfl ?_
      refine chkc h ?_; clear h; intro c14 h
      refine v0 (sIOm rfl rfl rfl c14) rfl ?_
      refine v0 (sFP rfl rfl rfl) rfl ?_
      refine v0 (sSkf rfl rfl [] v13 (T_impl_Node.mk ((gt v13 v2).fSt) ((gt v13 v2).fGen) ((gt v13 v2).fEp) ((gt v13 v2).fUp) (iAdd .i64 (iAdd .i64 (iAdd .i64 (iAdd .i64 v1 1) 1) 1) 1) ((gt v13 v2).fFirst) ((gt v13 v2).fNext) ((gt v13 v2).fPrev) ((gt v13 v2).fChunks) ((gt v13 v2).fCur) ((gt v13 v2).fBump) ((gt v13 v2).fThings) ((gt v13 v2).fTags)) c14 rfl rfl rfl rfl rfl rfl rfl rfl rfl) rfl ?_
      refine letc h ?_; clear h; intro v15 hv15 h; rw [← hv15]
      refine ve ?_
      refine W.weak (wk_len 0 (n' := v15.length) (by simp only [List.length_set, hv7, hv9, hv11, hv13, hv15]) rfl) ?_
      refine W2 [0, 1, 5] [] [1] (l := [(0, .c (.own _ _ _ _)), (1, .c (.int _ _)), (5, .c (.int _ _))]) (h := []) (h' := [(1, ⟨0, 13, v15.map enD_impl_Node⟩)]) ⟨⟨_, rfl, enDOk_impl_Node.allClosed _ _ v15⟩, trivial⟩ rfl rfl rfl ?_
      refine W_seq ?_
      refine W_regV he rfl ?_
      refine v0 (sM rfl [] rfl) rfl ?_
      refine v0 (sBi rfl rfl rfl rfl) rfl ?_
      refine v0 (sA rfl [] rfl) rfl ?_
      refine ve ?_
      refine W2 [0, 1, 5] [] [1] (l := [(0, .c (.own _ _ _ _)), (1, .c (.int _ _)), (5, .c (.int _ _))]) (h := []) (h' := [(1, ⟨0, 13, v15.map enD_impl_Node⟩)]) ⟨⟨_, rfl, enDOk_impl_Node.allClosed _ _ v15⟩, trivial⟩ rfl rfl rfl ?_
      refine W_seq ?_
      refine W_regV he rfl ?_
      refine v0 (sM rfl [] rfl) rfl ?_
      refine v0 (sM rfl [] rfl) rfl ?_
      refine v0 (sM rfl [] rfl) rfl ?_
      refine chkc h ?_; clear h; intro c16 h
      refine v0 (sIOm rfl rfl rfl c16) rfl ?_
      refine v0 (sFP rfl rfl rfl) rfl ?_
      refine v0 (sSkf rfl rfl [] v15 (T_impl_Node.mk ((gt v15 v2).fSt) ((gt v15 v2).fGen) ((gt v15 v2).fEp) ((gt v15 v2).fUp) ((gt v15 v2).fUpEp) (iAdd .i64 (iAdd .i64 (iAdd .i64 (iAdd .i64 (iAdd .i64 v1 1) 1) 1) 1) 1) ((gt v15 v2).fNext) ((gt v15 v2).fPrev) ((gt v15 v2).fChunks) ((gt v15 v2).fCur) ((gt v15 v2).fBump) ((gt v15 v2).fThings) ((gt v15 v2).fTags)) c16 rfl rfl rfl rfl rfl rfl rfl rfl rfl) rfl ?_
      refine letc h ?_; clear h; intro v17 hv17 h; rw [← hv17]
      refine ve ?_
      refine W.weak (wk_len 0 (n' := v17.length) (by simp only [List.length_set, hv7, hv9, hv11, hv13, hv15, hv17]) rfl) ?_
      refine W2 [0, 1, 5] [] [1] (l := [(0, .c (.own _ _ _ _)), (1, .c (.int _ _)), (5, .c (.int _ _))]) (h := []) (h' := [(1, ⟨0, 13, v17.map enD_impl_Node⟩)]) ⟨⟨_, rfl, enDOk_impl_Node.allClosed _ _ v17⟩, trivial⟩ rfl rfl rfl ?_
      refine W_seq ?_
      refine W_regV he rfl ?_
      refine v0 (sM rfl [] rfl) rfl ?_
      refine v0 (sBi rfl rfl rfl rfl) rfl ?_
      refine v0 (sA rfl [] rfl) rfl ?_
      refine ve ?_
      refine W2 [0, 1, 5] [] [1] (l := [(0, .c (.own _ _ _ _)), (1, .c (.int _ _)), (5, .c (.int _ _))]) (h := []) (h' := [(1, ⟨0, 13, v17.map enD_impl_Node⟩)]) ⟨⟨_, rfl, enDOk_impl_Node.allClosed _ _ v17⟩, trivial⟩ rfl rfl rfl ?_
      refine W_seq ?_
      refine W_regV he rfl ?_
      refine v0 (sM rfl [] rfl) rfl ?_
      refine v0 (sM rfl [] rfl) rfl ?_
      refine v0 (sM rfl [] rfl) rfl ?_
      refine chkc h ?_; clear h; intro c18 h
      refine v0 (sIOm rfl rfl rfl c18) rfl ?_
      refine v0 (sFP rfl rfl rfl) rfl ?_
      refine v0 (sSkf rfl rfl [] v17 (T_impl_Node.mk ((gt v17 v2).fSt) ((gt v17 v2).fGen) ((gt v17 v2).fEp) ((gt v17 v2).fUp) ((gt v17 v2).fUpEp) ((gt v17 v2).fFirst) (iAdd .i64 (iAdd .i64 (iAdd .i64 (iAdd .i64 (iAdd .i64 (iAdd .i64 v1 1) 1) 1) 1) 1) 1) ((gt v17 v2).fPrev) ((gt v17 v2).fChunks) ((gt v17 v2).fCur) ((gt v17 v2).fBump) ((gt v17 v2).fThings) ((gt v17 v2).fTags)) c18 rfl rfl rfl rfl rfl rfl rfl rfl rfl) rfl ?_
      refine letc h ?_; clear h; intro v19 hv19 h; rw [← hv19]
      refine ve ?_
      refine W.weak (wk_len 0 (n' := v19.length) (by simp only [List.length_set, hv7, hv9, hv11, hv13, hv15, hv17, hv19]) rfl) ?_
      refine W2 [0, 1, 5] [] [1] (l := [(0, .c (.own _ _ _ _)), (1, .c (.int _ _)), (5, .c (.int _ _))]) (h := []) (h' := [(1, ⟨0, 13, v19.map enD_impl_Node⟩)]) ⟨⟨_, rfl, enDOk_impl_Node.allClosed _ _ v19⟩, trivial⟩ rfl rfl rfl ?_
      refine W_seq ?_
      refine W_regV he rfl ?_
      refine v0 (sM rfl [] rfl) rfl ?_
      refine v0 (sBi rfl rfl rfl rfl) rfl ?_
      refine v0 (sA rfl [] rfl) rfl ?_
      refine ve ?_
      refine W2 [0, 1, 5] [] [1] (l := [(0, .c (.own _ _ _ _)), (1, .c (.int _ _)), (5, .c (.int _ _))]) (h := []) (h' := [(1, ⟨0, 13, v19.map enD_impl_Node⟩)]) ⟨⟨_, rfl, enDOk_impl_Node.allClosed _ _ v19⟩, trivial⟩ rfl rfl rfl ?_
      refine W_seq ?_
      refine W_regV he rfl ?_
      refine v0 (sM rfl [] rfl) rfl ?_
      refine v0 (sM rfl [] rfl) rfl ?_
      refine v0 (sM rfl [] rfl) rfl ?_
      refine chkc h ?_; clear h; intro c20 h
      refine v0 (sIOm rfl rfl rfl c20) rfl ?_
      refine v0 (sFP rfl rfl rfl) rfl ?_
      refine v0 (sSkf rfl rfl [] v19 (T_impl_Node.mk ((gt v19 v2).fSt) ((gt v19 v2).fGen) ((gt v19 v2).fEp) ((gt v19 v2).fUp) ((gt v19 v2).fUpEp) ((gt v19 v2).fFirst) ((gt v19 v2).fNext) (iAdd .i64 (iAdd .i64 (iAdd .i64 (iAdd .i64 (iAdd .i64 (iAdd .i64 (iAdd .i64 v1 1) 1) 1) 1) 1) 1) 1) ((gt v19 v2).fChunks) ((gt v19 v2).fCur) ((gt v19 v2).fBump) ((gt v19 v2).fThings) ((gt v19 v2).fTags)) c20 rfl rfl rfl rfl rfl rfl rfl rfl rfl) rfl ?_
      refine letc h ?_; clear h; intro v21 hv21 h; rw [← hv21]
      refine ve ?_
      refine W.weak (wk_len 0 (n' := v21.length) (by simp only [List.length_set, hv7, hv9, hv11, hv13, hv15, hv17, hv19, hv21]) rfl) ?_
      refine W2 [0, 1, 5] [] [1] (l := [(0, .c (.own _ _ _ _)), (1, .c (.int _ _)), (5, .c (.int _ _))]) (h := []) (h' := [(1, ⟨0, 13, v21.map enD_impl_Node⟩)]) ⟨⟨_, rfl, enDOk_impl_Node.allClosed _ _ v21⟩, trivial⟩ rfl rfl rfl ?_
      refine W_seq ?_
      refine W_regV he rfl ?_
      refine v0 (sM rfl [] rfl) rfl ?_
      refine v0 (sBi rfl rfl rfl rfl) rfl ?_
      refine v0 (sA rfl [] rfl) rfl ?_
      refine ve ?_
      refine W2 [0, 1, 5] [] [1] (l := [(0, .c (.own _ _ _ _)), (1, .c (.int _ _)), (5, .c (.int _ _))]) (h := []) (h' := [(1, ⟨0, 13, v21.map enD_impl_Node⟩)]) ⟨⟨_, rfl, enDOk_impl_Node.allClosed _ _ v21⟩, trivial⟩ rfl rfl rfl ?_
      refine W_seq ?_
      refine W_regV he rfl ?_
      refine v0 (sM rfl [] rfl) rfl ?_
      refine v0 (sM rfl [] rfl) rfl ?_
      refine chkc h ?_; clear h; intro c22 h
      refine v0 (sIOm rfl rfl rfl c22) rfl ?_
      refine v0 (sFP rfl rfl rfl) rfl ?_
      refine vTake he v21 ((gt v21 v2).fChunks) 1 3001 8 c22 rfl rfl rfl rfl ?_
      refine v0 (sLnE rfl v21 c22 rfl rfl rfl rfl rfl rfl) rfl ?_
      refine v0 (sM rfl [] rfl) rfl ?_
      refine bndc h ?_; clear h; intro r23 hr23 h
      refine chkc h ?_; clear h; intro c24 h
      refine v0 (sCw (w_laws_markIntSW K ((gt v21 v2).fChunks) (iAdd .i64 (iAdd .i64 (iAdd .i64 (iAdd .i64 (iAdd .i64 (iAdd .i64 (iAdd .i64 (iAdd .i64 v1 1) 1) 1) 1) 1) 1) 1) 1) _ hr23) ok_laws_markIntS enOk_i64 c24 3001 rfl rfl rfl rfl rfl rfl) rfl ?_
      refine vPut he v21 r23.2 1 3001 8 c22 rfl rfl rfl rfl rfl c24.symm (enOk_i64.allClosed _ _ _) rfl ?_
      refine vFold v21 (T_impl_Node.mk ((gt v21 v2).fSt) ((gt v21 v2).fGen) ((gt v21 v2).fEp) ((gt v21 v2).fUp) ((gt v21 v2).fUpEp) ((gt v21 v2).fFirst) ((gt v21 v2).fNext) ((gt v21 v2).fPrev) r23.2 ((gt v21 v2).fCur) ((gt v21 v2).fBump) ((gt v21 v2).fThings) ((gt v21 v2).fTags)) 1 rfl rfl ?_
      refine letc h ?_; clear h; intro v25 hv25 h; rw [← hv25]
      refine v0 (sA rfl [] rfl) rfl ?_
      refine ve ?_
      refine W.weak (wk_len 0 (n' := v25.length) (by simp only [List.length_set, hv7, hv9, hv11, hv13, hv15, hv17, hv19, hv21, c24, hv25]) rfl) ?_
      refine W2 [0, 1, 5] [] [1] (l := [(0, .c (.own _ _ _ _)), (1, .c (.int _ _)), (5, .c (.int _ _))]) (h := []) (h' := [(1, ⟨0, 13, v25.map enD_impl_Node⟩)]) ⟨⟨_, rfl, enDOk_impl_Node.allClosed _ _ v25⟩, trivial⟩ rfl rfl rfl ?_
      refine W_seq ?_
      refine W_regV he rfl ?_
      refine v0 (sM rfl [] rfl) rfl ?_
      refine v0 (sM rfl [] rfl) rfl ?_
      refine v0 (sM rfl [] rfl) rfl ?_
      refine chkc h ?_; clear h; intro c26 h
      refine v0 (sIOm rfl rfl rfl c26) rfl ?_
      refine v0 (sFP rfl rfl rfl) rfl ?_
      refine v0 (sSkf rfl rfl [] v25 (T_impl_Node.mk ((gt v25 v2).fSt) ((gt v25 v2).fGen) ((gt v25 v2).fEp) ((gt v25 v2).fUp) ((gt v25 v2).fUpEp) ((gt v25 v2).fFirst) ((gt v25 v2).fNext) ((gt v25 v2).fPrev) ((gt v25 v2).fChunks) r23.1 ((gt v25 v2).fBump) ((gt v25 v2).fThings) ((gt v25 v2).fTags)) c26 rfl rfl rfl rfl rfl rfl rfl rfl rfl) rfl ?_
      refine letc h ?_; clear h; intro v27 hv27 h; rw [← hv27]
      refine ve ?_
      refine W.weak (wk_len 0 (n' := v27.length) (by simp only [List.length_set, hv7, hv9, hv11, hv13, hv15, hv17, hv19, hv21, c24, hv25, hv27]) rfl) ?_
      refine W2 [0, 1, 5] [] [1] (l := [(0, .c (.own _ _ _ _)), (1, .c (.int _ _)), (5, .c (.int _ _))]) (h := []) (h' := [(1, ⟨0, 13, v27.map enD_impl_Node⟩)]) ⟨⟨_, rfl, enDOk_impl_Node.allClosed _ _ v27⟩, trivial⟩ rfl rfl rfl ?_
      refine W_seq ?_
      refine W_regV he rfl ?_
      refine v0 (sM rfl [] rfl) rfl ?_
      refine v0 (sBi rfl rfl rfl rfl) rfl ?_
      refine v0 (sA rfl [] rfl) rfl ?_
      refine ve ?_
      refine W2 [0, 1, 5] [] [1] (l := [(0, .c (.own _ _ _ _)), (1, .c (.int _ _)), (5, .c (.int _ _))]) (h := []) (h' := [(1, ⟨0, 13, v27.map enD_impl_Node⟩)]) ⟨⟨_, rfl, enDOk_impl_Node.allClosed _ _ v27⟩, trivial⟩ rfl rfl rfl ?_
      refine W_seq ?_
      refine W_regV he rfl ?_
      refine v0 (sM rfl [] rfl) rfl ?_
      refine v0 (sM rfl [] rfl) rfl ?_
      refine v0 (sM rfl [] rfl) rfl ?_
      refine chkc h ?_; clear h; intro c28 h
      refine v0 (sIOm rfl rfl rfl c28) rfl ?_
      refine v0 (sFP rfl rfl rfl) rfl ?_
      refine v0 (sSkf rfl rfl [] v27 (T_impl_Node.mk ((gt v27 v2).fSt) ((gt v27 v2).fGen) ((gt v27 v2).fEp) ((gt v27 v2).fUp) ((gt v27 v2).fUpEp) ((gt v27 v2).fFirst) ((gt v27 v2).fNext) ((gt v27 v2).fPrev) ((gt v27 v2).fChunks) ((gt v27 v2).fCur) (iAdd .i64 r23.1 1) ((gt v27 v2).fThings) ((gt v27 v2).fTags)) c28 rfl rfl rfl rfl rfl rfl rfl rfl rfl) rfl ?_
      refine letc h ?_; clear h; intro v29 hv29 h; rw [← hv29]
      refine ve ?_
      refine W.weak (wk_len 0 (n' := v29.length) (by simp only [List.length_set, hv7, hv9, hv11, hv13, hv15, hv17, hv19, hv21, c24, hv25, hv27, hv29]) rfl) ?_
      refine W2 [0, 1, 5] [] [1] (l := [(0, .c (.own _ _ _ _)), (1, .c (.int _ _)), (5, .c (.int _ _))]) (h := []) (h' := [(1, ⟨0, 13, v29.map enD_impl_Node⟩)]) ⟨⟨_, rfl, enDOk_impl_Node.allClosed _ _ v29⟩, trivial⟩ rfl rfl rfl ?_
      refine W_seq ?_
      refine W_regV he rfl ?_
      refine v0 (sM rfl [] rfl) rfl ?_
      refine v0 (sBi rfl rfl rfl rfl) rfl ?_
      refine v0 (sA rfl [] rfl) rfl ?_
      refine ve ?_
      refine W2 [0, 1, 5] [] [1] (l := [(0, .c (.own _ _ _ _)), (1, .c (.int _ _)), (5, .c (.int _ _))]) (h := []) (h' := [(1, ⟨0, 13, v29.map enD_impl_Node⟩)]) ⟨⟨_, rfl, enDOk_impl_Node.allClosed _ _ v29⟩, trivial⟩ rfl rfl rfl ?_
      refine W_seq ?_
      refine W_regV he rfl ?_
      refine v0 (sM rfl [] rfl) rfl ?_
      refine v0 (sM rfl [] rfl) rfl ?_
      refine chkc h ?_; clear h; intro c30 h
      refine v0 (sIOm rfl rfl rfl c30) rfl ?_
      refine v0 (sFP rfl rfl rfl) rfl ?_
      refine vTake he v29 ((gt v29 v2).fThings) 1 3002 11 c30 rfl rfl rfl rfl ?_
      refine v0 (sLnE rfl v29 c30 rfl rfl rfl rfl rfl rfl) rfl ?_
      refine v0 (sM rfl [] rfl) rfl ?_
      refine bndc h ?_; clear h; intro r31 hr31 h
      refine chkc h ?_; clear h; intro c32 h
      refine v0 (sCw (w_laws_markThingSW K ((gt v29 v2).fThings) (iAdd .i64 (iAdd .i64 r23.1 1) 1) _ hr31) ok_laws_markThingS enOk_impl_Thing c32 3002 rfl rfl rfl rfl rfl rfl) rfl ?_
      refine vPut he v29 r31.2 1 3002 11 c30 rfl rfl rfl rfl rfl c32.symm (enOk_impl_Thing.allClosed _ _ _) rfl ?_
      refine vFold v29 (T_impl_Node.mk ((gt v29 v2).fSt) ((gt v29 v2).fGen) ((gt v29 v2).fEp) ((gt v29 v2).fUp) ((gt v29 v2).fUpEp) ((gt v29 v2).fFirst) ((gt v29 v2).fNext) ((gt v29 v2).fPrev) ((gt v29 v2).fChunks) ((gt v29 v2).fCur) ((gt v29 v2).fBump) r31.2 ((gt v29 v2).fTags)) 1 rfl rfl ?_
      refine letc h ?_; clear h; intro v33 hv33 h; rw [← hv33]
      refine v0 (sA rfl [] rfl) rfl ?_
      refine ve ?_
      refine W.weak (wk_len 0 (n' := v33.length) (by simp only [List.length_set, hv7, hv9, hv11, hv13, hv15, hv17, hv19, hv21, c24, hv25, hv27, hv29, c32, hv33]) rfl) ?_
      refine W2 [0, 1, 5] [] [1] (l := [(0, .c (.own _ _ _ _)), (1, .c (.int _ _)), (5, .c (.int _ _))]) (h := []) (h' := [(1, ⟨0, 13, v33.map enD_impl_Node⟩)]) ⟨⟨_, rfl, enDOk_impl_Node.allClosed _ _ v33⟩, trivial⟩ rfl rfl rfl ?_
      refine W_regV he rfl ?_
      refine v0 (sM rfl [] rfl) rfl ?_
      refine v0 (sM rfl [] rfl) rfl ?_
      refine chkc h ?_; clear h; intro c34 h
      refine v0 (sIOm rfl rfl rfl c34) rfl ?_
      refine v0 (sFP rfl rfl rfl) rfl ?_
      refine vTake he v33 ((gt v33 v2).fTags) 1 3003 12 c34 rfl rfl rfl rfl ?_
      refine v0 (sLnE rfl v33 c34 rfl rfl rfl rfl rfl rfl) rfl ?_
      refine v0 (sM rfl [] rfl) rfl ?_
      refine bndc h ?_; clear h; intro r35 hr35 h
      refine chkc h ?_; clear h; intro c36 h
      refine v0 (sCw (w_laws_markIntSW K ((gt v33 v2).fTags) r31.1 _ hr35) ok_laws_markIntS enOk_i64 c36 3003 rfl rfl rfl rfl rfl rfl) rfl ?_
      refine vPut he v33 r35.2 1 3003 12 c34 rfl rfl rfl rfl rfl c36.symm (enOk_i64.allClosed _ _ _) rfl ?_
      refine vFold v33 (T_impl_Node.mk ((gt v33 v2).fSt) ((gt v33 v2).fGen) ((gt v33 v2).fEp) ((gt v33 v2).fUp) ((gt v33 v2).fUpEp) ((gt v33 v2).fFirst) ((gt v33 v2).fNext) ((gt v33 v2).fPrev) ((gt v33 v2).fChunks) ((gt v33 v2).fCur) ((gt v33 v2).fBump) ((gt v33 v2).fThings) r35.2) 1 rfl rfl ?_
      refine letc h ?_; clear h; intro v37 hv37 h; rw [← hv37]
      refine v0 (sA rfl [] rfl) rfl ?_
      refine ve ?_
      refine W.weak (wk_len 0 (n' := v37.length) (by simp only [List.length_set, hv7, hv9, hv11, hv13, hv15, hv17, hv19, hv21, c24, hv25, hv27, hv29, c32, hv33, c36, hv37]) rfl) ?_
      refine W2 [0, 1, 5] [] [1] (l := [(0, .c (.own _ _ _ _)), (1, .c (.int _ _)), (5, .c (.int _ _))]) (h := []) (h' := [(1, ⟨0, 13, v37.map enD_impl_Node⟩)]) ⟨⟨_, rfl, enDOk_impl_Node.allClosed _ _ v37⟩, trivial⟩ rfl rfl rfl ?_
      refine W_regV he rfl ?_
      refine v0 (sM rfl [] rfl) rfl ?_
      refine v0 (sBi rfl rfl rfl rfl) rfl ?_
      refine v0 (sA rfl [] rfl) rfl ?_
      refine ve ?_
      exact ⟨n4, _, Nat.lt_succ_self n4, wk2 [0, 1, 5] [] [1] (l := [(0, .c (.own _ _ _ _)), (1, .c (.int _ _)), (5, .c (.int _ _))]) (h := []) (h' := [(1, ⟨0, 13, v37.map enD_impl_Node⟩)]) ⟨⟨_, rfl, enDOk_impl_Node.allClosed _ _ v37⟩, trivial⟩ rfl rfl rfl, _, _, _, rfl, h⟩
    | false =>
      replace h := brF hb5 h
      refine ve ?_
      refine W2 [0, 1, 5, 9] [] [1] (l := [(0, .c (.own _ _ _ _)), (1, .c (.int _ _)), (5, .c (.int _ _)), (9, .c (.bool false))]) (h := []) (h' := [(1, ⟨0, 13, v3.map enD_impl_Node⟩)]) ⟨⟨_, rfl, enDOk_impl_Node.allClosed _ _ v3⟩, trivial⟩ rfl rfl rfl ?_
      refine W_false rfl ?_
      refine W_exit (ex_then (ex_then (ex_hit ?_)))
      refine W_seq ?_
      refine W_regV he rfl ?_
      refine v0 (sM rfl [] rfl) rfl ?_
      refine v0 (sA rfl [] rfl) rfl ?_
      refine ve ?_
      refine W2 [4] [] [1] (l := [(4, .c (.int _ _))]) (h := []) (h' := [(1, ⟨0, 13, v3.map enD_impl_Node⟩)]) ⟨⟨_, rfl, enDOk_impl_Node.allClosed _ _ v3⟩, trivial⟩ rfl rfl rfl ?_
      obtain rfl := Option.some.inj h
      exact W_ret (retG 1 [1] (by decide) rfl rfl rfl rfl (bl_cons (see_EnD enDOk_impl_Node rfl) (bl_nil)))
theorem ok_laws_markNodeS : FnOk Try.prog 70 := ⟨_, Try.func70, rfl, rfl⟩



end Go.Proofs.Ytemgbggfhohfeaa
