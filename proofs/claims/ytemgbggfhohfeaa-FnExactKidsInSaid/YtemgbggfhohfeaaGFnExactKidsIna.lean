/- Models of the program's functions, and the walks that show them. Printed by gen.py. -/
import Derived.Test.YtemgbggfhohfeaaEng23
import Derived.Test.YtemgbggfhohfeaaEng31
import Derived.Test.YtemgbggfhohfeaaTab
set_option linter.unusedVariables false
set_option linter.unusedSimpArgs false
namespace Go.Proofs.Ytemgbggfhohfeaa
open Go.Eng Go.ChangeShapes Go.WideShapes Go.ChangeAt Go.RowKit
structure T_laws_Conf where
  fChunks : Int
  fSize : Int
  fSlots : Int
  fTax : Int
  fSlice : Int
  fGens : Int
  deriving Inhabited
structure T_laws_Pool where
  fMem : List Int
  fSt : List Int
  fOwn : List Int
  deriving Inhabited
structure T_laws_Thing where
  fAt : Int
  fLen : Int
  fRun : Int
  deriving Inhabited
structure T_laws_Node where
  fSt : Int
  fGen : Int
  fEp : Int
  fUp : Int
  fUpEp : Int
  fFirst : Int
  fNext : Int
  fPrev : Int
  fChunks : List Int
  fCur : Int
  fBump : Int
  fThings : List T_laws_Thing
  fTags : List Int
  deriving Inhabited
structure T_laws_Waste where
  fSlot : Int
  fFirst : Int
  fTags : List Int
  fChunks : List Int
  fDone : Int
  deriving Inhabited
structure T_laws_World where
  fC : T_laws_Conf
  fP : T_laws_Pool
  fL : List T_laws_Node
  fQ : List T_laws_Waste
  fLog : List Int
  deriving Inhabited
structure T_laws_Handle where
  fSlot : Int
  fGen : Int
  deriving Inhabited
structure T_impl_Conf where
  fChunks : Int
  fSize : Int
  fSlots : Int
  fTax : Int
  fSlice : Int
  fGens : Int
  deriving Inhabited
structure T_impl_Pool where
  fMem : List Int
  fSt : List Int
  fOwn : List Int
  deriving Inhabited
structure T_impl_Thing where
  fAt : Int
  fLen : Int
  fRun : Int
  deriving Inhabited
structure T_impl_Node where
  fSt : Int
  fGen : Int
  fEp : Int
  fUp : Int
  fUpEp : Int
  fFirst : Int
  fNext : Int
  fPrev : Int
  fChunks : List Int
  fCur : Int
  fBump : Int
  fThings : List T_impl_Thing
  fTags : List Int
  deriving Inhabited
structure T_impl_Waste where
  fSlot : Int
  fFirst : Int
  fTags : List Int
  fChunks : List Int
  fDone : Int
  deriving Inhabited
structure T_impl_World where
  fC : T_impl_Conf
  fP : T_impl_Pool
  fL : List T_impl_Node
  fQ : List T_impl_Waste
  fLog : List Int
  deriving Inhabited
structure T_impl_Handle where
  fSlot : Int
  fGen : Int
  deriving Inhabited
def en_i64 (x : Int) : List V := [.int .i64 x]
theorem enOk_i64 : En en_i64 1 := ⟨fun _ => rfl, fun _ => rfl, fun _ => rfl, fun x => rfl⟩
def en_laws_Conf (x : T_laws_Conf) : List V := [.int .i64 x.fChunks, .int .i64 x.fSize, .int .i64 x.fSlots, .int .i64 x.fTax, .int .i64 x.fSlice, .int .i64 x.fGens]
theorem enOk_laws_Conf : En en_laws_Conf 6 := ⟨fun _ => rfl, fun _ => rfl, fun _ => rfl, fun x => rfl⟩
def en_u8 (x : Int) : List V := [.int .u8 x]
theorem enOk_u8 : En en_u8 1 := ⟨fun _ => rfl, fun _ => rfl, fun _ => rfl, fun x => rfl⟩
def en_Lu8 (x : List Int) : List V := [.row false 1 (x.map en_u8)]
theorem enOk_Lu8 : En en_Lu8 1 := ⟨fun _ => rfl, fun _ => rfl, fun _ => rfl, fun l => by show [V.share _] = _; rw [V.share, enOk_u8.shareLL]; rfl⟩
def en_Li64 (x : List Int) : List V := [.row false 1 (x.map en_i64)]
theorem enOk_Li64 : En en_Li64 1 := ⟨fun _ => rfl, fun _ => rfl, fun _ => rfl, fun l => by show [V.share _] = _; rw [V.share, enOk_i64.shareLL]; rfl⟩
def en_laws_Pool (x : T_laws_Pool) : List V := [.row false 1 (x.fMem.map en_u8), .row false 1 (x.fSt.map en_i64), .row false 1 (x.fOwn.map en_i64)]
theorem enOk_laws_Pool : En en_laws_Pool 3 := ⟨fun _ => rfl, fun _ => rfl, fun _ => rfl, fun x => by simp only [en_laws_Pool, shareL, V.share, enOk_u8.shareLL, enOk_i64.shareLL]⟩
def enD_laws_Pool (x : T_laws_Pool) : List V := [.row true 1 (x.fMem.map en_u8), .row true 1 (x.fSt.map en_i64), .row true 1 (x.fOwn.map en_i64)]
theorem enDOk_laws_Pool : EnD enD_laws_Pool en_laws_Pool 3 := ⟨fun _ => rfl, fun _ => rfl, fun x => by simp only [enD_laws_Pool, en_laws_Pool, shareL, V.share, enOk_u8.shareLL, enOk_i64.shareLL]⟩
def en_laws_Thing (x : T_laws_Thing) : List V := [.int .i64 x.fAt, .int .i64 x.fLen, .int .i64 x.fRun]
theorem enOk_laws_Thing : En en_laws_Thing 3 := ⟨fun _ => rfl, fun _ => rfl, fun _ => rfl, fun x => rfl⟩
def en_Llaws_Thing (x : List T_laws_Thing) : List V := [.row false 3 (x.map en_laws_Thing)]
theorem enOk_Llaws_Thing : En en_Llaws_Thing 1 := ⟨fun _ => rfl, fun _ => rfl, fun _ => rfl, fun l => by show [V.share _] = _; rw [V.share, enOk_laws_Thing.shareLL]; rfl⟩
def en_laws_Node (x : T_laws_Node) : List V := [.int .i64 x.fSt, .int .i64 x.fGen, .int .i64 x.fEp, .int .i64 x.fUp, .int .i64 x.fUpEp, .int .i64 x.fFirst, .int .i64 x.fNext, .int .i64 x.fPrev, .row false 1 (x.fChunks.map en_i64), .int .i64 x.fCur, .int .i64 x.fBump, .row false 3 (x.fThings.map en_laws_Thing), .row false 1 (x.fTags.map en_i64)]
theorem enOk_laws_Node : En en_laws_Node 13 := ⟨fun _ => rfl, fun _ => rfl, fun _ => rfl, fun x => by simp only [en_laws_Node, shareL, V.share, enOk_i64.shareLL, enOk_laws_Thing.shareLL]⟩
def enD_laws_Node (x : T_laws_Node) : List V := [.int .i64 x.fSt, .int .i64 x.fGen, .int .i64 x.fEp, .int .i64 x.fUp, .int .i64 x.fUpEp, .int .i64 x.fFirst, .int .i64 x.fNext, .int .i64 x.fPrev, .row true 1 (x.fChunks.map en_i64), .int .i64 x.fCur, .int .i64 x.fBump, .row true 3 (x.fThings.map en_laws_Thing), .row true 1 (x.fTags.map en_i64)]
theorem enDOk_laws_Node : EnD enD_laws_Node en_laws_Node 13 := ⟨fun _ => rfl, fun _ => rfl, fun x => by simp only [enD_laws_Node, en_laws_Node, shareL, V.share, enOk_i64.shareLL, enOk_laws_Thing.shareLL]⟩
def en_Llaws_Node (x : List T_laws_Node) : List V := [.row false 13 (x.map en_laws_Node)]
theorem enOk_Llaws_Node : En en_Llaws_Node 1 := ⟨fun _ => rfl, fun _ => rfl, fun _ => rfl, fun l => by show [V.share _] = _; rw [V.share, enOk_laws_Node.shareLL]; rfl⟩
def en_laws_Waste (x : T_laws_Waste) : List V := [.int .i64 x.fSlot, .int .i64 x.fFirst, .row false 1 (x.fTags.map en_i64), .row false 1 (x.fChunks.map en_i64), .int .i64 x.fDone]
theorem enOk_laws_Waste : En en_laws_Waste 5 := ⟨fun _ => rfl, fun _ => rfl, fun _ => rfl, fun x => by simp only [en_laws_Waste, shareL, V.share, enOk_i64.shareLL]⟩
def enD_laws_Waste (x : T_laws_Waste) : List V := [.int .i64 x.fSlot, .int .i64 x.fFirst, .row true 1 (x.fTags.map en_i64), .row true 1 (x.fChunks.map en_i64), .int .i64 x.fDone]
theorem enDOk_laws_Waste : EnD enD_laws_Waste en_laws_Waste 5 := ⟨fun _ => rfl, fun _ => rfl, fun x => by simp only [enD_laws_Waste, en_laws_Waste, shareL, V.share, enOk_i64.shareLL]⟩
def en_Llaws_Waste (x : List T_laws_Waste) : List V := [.row false 5 (x.map en_laws_Waste)]
theorem enOk_Llaws_Waste : En en_Llaws_Waste 1 := ⟨fun _ => rfl, fun _ => rfl, fun _ => rfl, fun l => by show [V.share _] = _; rw [V.share, enOk_laws_Waste.shareLL]; rfl⟩
def en_laws_World (x : T_laws_World) : List V := [.int .i64 x.fC.fChunks, .int .i64 x.fC.fSize, .int .i64 x.fC.fSlots, .int .i64 x.fC.fTax, .int .i64 x.fC.fSlice, .int .i64 x.fC.fGens, .row false 1 (x.fP.fMem.map en_u8), .row false 1 (x.fP.fSt.map en_i64), .row false 1 (x.fP.fOwn.map en_i64), .row false 13 (x.fL.map en_laws_Node), .row false 5 (x.fQ.map en_laws_Waste), .row false 1 (x.fLog.map en_i64)]
theorem enOk_laws_World : En en_laws_World 12 := ⟨fun _ => rfl, fun _ => rfl, fun _ => rfl, fun x => by simp only [en_laws_World, shareL, V.share, enOk_u8.shareLL, enOk_i64.shareLL, enOk_laws_Node.shareLL, enOk_laws_Waste.shareLL]⟩
def enD_laws_World (x : T_laws_World) : List V := [.int .i64 x.fC.fChunks, .int .i64 x.fC.fSize, .int .i64 x.fC.fSlots, .int .i64 x.fC.fTax, .int .i64 x.fC.fSlice, .int .i64 x.fC.fGens, .row true 1 (x.fP.fMem.map en_u8), .row true 1 (x.fP.fSt.map en_i64), .row true 1 (x.fP.fOwn.map en_i64), .row true 13 (x.fL.map en_laws_Node), .row true 5 (x.fQ.map en_laws_Waste), .row true 1 (x.fLog.map en_i64)]
theorem enDOk_laws_World : EnD enD_laws_World en_laws_World 12 := ⟨fun _ => rfl, fun _ => rfl, fun x => by simp only [enD_laws_World, en_laws_World, shareL, V.share, enOk_u8.shareLL, enOk_i64.shareLL, enOk_laws_Node.shareLL, enOk_laws_Waste.shareLL]⟩
def en_laws_Handle (x : T_laws_Handle) : List V := [.int .i64 x.fSlot, .int .i64 x.fGen]
theorem enOk_laws_Handle : En en_laws_Handle 2 := ⟨fun _ => rfl, fun _ => rfl, fun _ => rfl, fun x => rfl⟩
def en_impl_Conf (x : T_impl_Conf) : List V := [.int .i64 x.fChunks, .int .i64 x.fSize, .int .i64 x.fSlots, .int .i64 x.fTax, .int .i64 x.fSlice, .int .i64 x.fGens]
theorem enOk_impl_Conf : En en_impl_Conf 6 := ⟨fun _ => rfl, fun _ => rfl, fun _ => rfl, fun x => rfl⟩
def en_impl_Pool (x : T_impl_Pool) : List V := [.row false 1 (x.fMem.map en_u8), .row false 1 (x.fSt.map en_i64), .row false 1 (x.fOwn.map en_i64)]
theorem enOk_impl_Pool : En en_impl_Pool 3 := ⟨fun _ => rfl, fun _ => rfl, fun _ => rfl, fun x => by simp only [en_impl_Pool, shareL, V.share, enOk_u8.shareLL, enOk_i64.shareLL]⟩
def enD_impl_Pool (x : T_impl_Pool) : List V := [.row true 1 (x.fMem.map en_u8), .row true 1 (x.fSt.map en_i64), .row true 1 (x.fOwn.map en_i64)]
theorem enDOk_impl_Pool : EnD enD_impl_Pool en_impl_Pool 3 := ⟨fun _ => rfl, fun _ => rfl, fun x => by simp only [enD_impl_Pool, en_impl_Pool, shareL, V.share, enOk_u8.shareLL, enOk_i64.shareLL]⟩
def en_impl_Thing (x : T_impl_Thing) : List V := [.int .i64 x.fAt, .int .i64 x.fLen, .int .i64 x.fRun]
theorem enOk_impl_Thing : En en_impl_Thing 3 := ⟨fun _ => rfl, fun _ => rfl, fun _ => rfl, fun x => rfl⟩
def en_Limpl_Thing (x : List T_impl_Thing) : List V := [.row false 3 (x.map en_impl_Thing)]
theorem enOk_Limpl_Thing : En en_Limpl_Thing 1 := ⟨fun _ => rfl, fun _ => rfl, fun _ => rfl, fun l => by show [V.share _] = _; rw [V.share, enOk_impl_Thing.shareLL]; rfl⟩
def en_impl_Node (x : T_impl_Node) : List V := [.int .i64 x.fSt, .int .i64 x.fGen, .int .i64 x.fEp, .int .i64 x.fUp, .int .i64 x.fUpEp, .int .i64 x.fFirst, .int .i64 x.fNext, .int .i64 x.fPrev, .row false 1 (x.fChunks.map en_i64), .int .i64 x.fCur, .int .i64 x.fBump, .row false 3 (x.fThings.map en_impl_Thing), .row false 1 (x.fTags.map en_i64)]
theorem enOk_impl_Node : En en_impl_Node 13 := ⟨fun _ => rfl, fun _ => rfl, fun _ => rfl, fun x => by simp only [en_impl_Node, shareL, V.share, enOk_i64.shareLL, enOk_impl_Thing.shareLL]⟩
def enD_impl_Node (x : T_impl_Node) : List V := [.int .i64 x.fSt, .int .i64 x.fGen, .int .i64 x.fEp, .int .i64 x.fUp, .int .i64 x.fUpEp, .int .i64 x.fFirst, .int .i64 x.fNext, .int .i64 x.fPrev, .row true 1 (x.fChunks.map en_i64), .int .i64 x.fCur, .int .i64 x.fBump, .row true 3 (x.fThings.map en_impl_Thing), .row true 1 (x.fTags.map en_i64)]
theorem enDOk_impl_Node : EnD enD_impl_Node en_impl_Node 13 := ⟨fun _ => rfl, fun _ => rfl, fun x => by simp only [enD_impl_Node, en_impl_Node, shareL, V.share, enOk_i64.shareLL, enOk_impl_Thing.shareLL]⟩
def en_impl_Waste (x : T_impl_Waste) : List V := [.int .i64 x.fSlot, .int .i64 x.fFirst, .row false 1 (x.fTags.map en_i64), .row false 1 (x.fChunks.map en_i64), .int .i64 x.fDone]
theorem enOk_impl_Waste : En en_impl_Waste 5 := ⟨fun _ => rfl, fun _ => rfl, fun _ => rfl, fun x => by simp only [en_impl_Waste, shareL, V.share, enOk_i64.shareLL]⟩
def enD_impl_Waste (x : T_impl_Waste) : List V := [.int .i64 x.fSlot, .int .i64 x.fFirst, .row true 1 (x.fTags.map en_i64), .row true 1 (x.fChunks.map en_i64), .int .i64 x.fDone]
theorem enDOk_impl_Waste : EnD enD_impl_Waste en_impl_Waste 5 := ⟨fun _ => rfl, fun _ => rfl, fun x => by simp only [enD_impl_Waste, en_impl_Waste, shareL, V.share, enOk_i64.shareLL]⟩
def en_Limpl_Node (x : List T_impl_Node) : List V := [.row false 13 (x.map en_impl_Node)]
theorem enOk_Limpl_Node : En en_Limpl_Node 1 := ⟨fun _ => rfl, fun _ => rfl, fun _ => rfl, fun l => by show [V.share _] = _; rw [V.share, enOk_impl_Node.shareLL]; rfl⟩
def en_Limpl_Waste (x : List T_impl_Waste) : List V := [.row false 5 (x.map en_impl_Waste)]
theorem enOk_Limpl_Waste : En en_Limpl_Waste 1 := ⟨fun _ => rfl, fun _ => rfl, fun _ => rfl, fun l => by show [V.share _] = _; rw [V.share, enOk_impl_Waste.shareLL]; rfl⟩
def en_impl_World (x : T_impl_World) : List V := [.int .i64 x.fC.fChunks, .int .i64 x.fC.fSize, .int .i64 x.fC.fSlots, .int .i64 x.fC.fTax, .int .i64 x.fC.fSlice, .int .i64 x.fC.fGens, .row false 1 (x.fP.fMem.map en_u8), .row false 1 (x.fP.fSt.map en_i64), .row false 1 (x.fP.fOwn.map en_i64), .row false 13 (x.fL.map en_impl_Node), .row false 5 (x.fQ.map en_impl_Waste), .row false 1 (x.fLog.map en_i64)]
theorem enOk_impl_World : En en_impl_World 12 := ⟨fun _ => rfl, fun _ => rfl, fun _ => rfl, fun x => by simp only [en_impl_World, shareL, V.share, enOk_u8.shareLL, enOk_i64.shareLL, enOk_impl_Node.shareLL, enOk_impl_Waste.shareLL]⟩
def enD_impl_World (x : T_impl_World) : List V := [.int .i64 x.fC.fChunks, .int .i64 x.fC.fSize, .int .i64 x.fC.fSlots, .int .i64 x.fC.fTax, .int .i64 x.fC.fSlice, .int .i64 x.fC.fGens, .row true 1 (x.fP.fMem.map en_u8), .row true 1 (x.fP.fSt.map en_i64), .row true 1 (x.fP.fOwn.map en_i64), .row true 13 (x.fL.map en_impl_Node), .row true 5 (x.fQ.map en_impl_Waste), .row true 1 (x.fLog.map en_i64)]
theorem enDOk_impl_World : EnD enD_impl_World en_impl_World 12 := ⟨fun _ => rfl, fun _ => rfl, fun x => by simp only [enD_impl_World, en_impl_World, shareL, V.share, enOk_u8.shareLL, enOk_i64.shareLL, enOk_impl_Node.shareLL, enOk_impl_Waste.shareLL]⟩
def en_impl_Handle (x : T_impl_Handle) : List V := [.int .i64 x.fSlot, .int .i64 x.fGen]
theorem enOk_impl_Handle : En en_impl_Handle 2 := ⟨fun _ => rfl, fun _ => rfl, fun _ => rfl, fun x => rfl⟩

/-! ### loop.example/g00499/laws.szByteS -/
def m_laws_szByteS (K : Nat) (a0 : List Int) (a1 : Int) : Option (Int) := (bif (decide ((iSub .i64 a1 (a0.length : Int)) < 0)) then some (-1) else some (iSub .i64 a1 (a0.length : Int)))
set_option maxRecDepth 20000 in
set_option maxHeartbeats 8000000 in
theorem w_laws_szByteS (K : Nat) (a0 : List Int) (a1 : Int) (r : Int) (h : m_laws_szByteS K a0 a1 = some r) : Sp Try.prog 80 [.c (.row false 1 (a0.map en_u8)), .c (.int .i64 a1)] [] (.c (.int .i64 r)) [] := by
  refine Sp.of_W tabOk Try.func80 rfl rfl (Nat.le_of_ble_eq_true rfl) (Nat.le_of_ble_eq_true rfl) fun F hP hN hm => ?_
  obtain ⟨P, N, w0, σ0, β0, m⟩ := F
  obtain rfl : P = Try.prog := hP
  obtain rfl : N = 12 := hN
  obtain rfl : m = 1 := hm
  have he : Env ⟨Try.prog, 12, w0, σ0, β0, 1⟩ tab := ⟨Nat.le_of_ble_eq_true rfl, tabOk⟩
  unfold m_laws_szByteS at h
  refine W_seq ?_
  refine W_regV he rfl ?_
  refine v0 (sA rfl [] rfl) rfl ?_
  refine ve ?_
  refine W2 [0, 1] [] [] (l := [(0, .c (.row _ _ _)), (1, .c (.int _ _))]) (h := []) (h' := []) trivial rfl rfl rfl ?_
  refine W_seq ?_
  refine W_regV he rfl ?_
  refine v0 (sM rfl [] rfl) rfl ?_
  refine v0 (sM rfl [] rfl) rfl ?_
  refine v0 (sLm rfl rfl rfl rfl) rfl ?_
  refine v0 (sBi rfl rfl rfl rfl) rfl ?_
  refine v0 (sA rfl [] rfl) rfl ?_
  refine ve ?_
  refine W2 [1] [] [] (l := [(1, .c (.int _ _))]) (h := []) (h' := []) trivial rfl rfl rfl ?_
  refine W_seq ?_
  refine W_seq ?_
  refine W_regV he rfl ?_
  refine v0 (sM rfl [] rfl) rfl ?_
  refine vB (sBi rfl rfl rfl rfl) rfl rfl fun b1 hb1 => ?_
  cases b1 with
  | true =>
    replace h := brT hb1 h
    refine ve ?_
    refine W2 [1, 10] [] [] (l := [(1, .c (.int _ _)), (10, .c (.bool true))]) (h := []) (h' := []) trivial rfl rfl rfl ?_
    refine W_true rfl ?_
    refine W_seq ?_
    refine W_regV he rfl ?_
    refine v0 (sA rfl [] rfl) rfl ?_
    refine ve ?_
    refine W2 [4] [] [] (l := [(4, .c (.int _ _))]) (h := []) (h' := []) trivial rfl rfl rfl ?_
    obtain rfl := Option.some.inj h
    exact W_ret (r0 rfl rfl)
  | false =>
    replace h := brF hb1 h
    refine ve ?_
    refine W2 [1, 10] [] [] (l := [(1, .c (.int _ _)), (10, .c (.bool false))]) (h := []) (h' := []) trivial rfl rfl rfl ?_
    refine W_false rfl ?_
    refine W_skip ?_
    refine W_seq ?_
    refine W_regV he rfl ?_
    refine v0 (sM rfl [] rfl) rfl ?_
    refine v0 (sA rfl [] rfl) rfl ?_
    refine ve ?_
    refine W2 [4] [] [] (l := [(4, .c (.int _ _))]) (h := []) (h' := []) trivial rfl rfl rfl ?_
    obtain rfl := Option.some.inj h
    exact W_ret (r0 rfl rfl)
theorem ok_laws_szByteS : FnOk Try.prog 80 := ⟨_, Try.func80, rfl, rfl⟩


/-! ### loop.example/g00499/laws.szIntS -/
def m_laws_szIntS (K : Nat) (a0 : List Int) (a1 : Int) : Option (Int) := (bif (decide ((iSub .i64 a1 (a0.length : Int)) < 0)) then some (-1) else some (iSub .i64 a1 (a0.length : Int)))
set_option maxRecDepth 20000 in
set_option maxHeartbeats 8000000 in
theorem w_laws_szIntS (K : Nat) (a0 : List Int) (a1 : Int) (r : Int) (h : m_laws_szIntS K a0 a1 = some r) : Sp Try.prog 43 [.c (.row false 1 (a0.map en_i64)), .c (.int .i64 a1)] [] (.c (.int .i64 r)) [] := by
  refine Sp.of_W tabOk Try.func43 rfl rfl (Nat.le_of_ble_eq_true rfl) (Nat.le_of_ble_eq_true rfl) fun F hP hN hm => ?_
  obtain ⟨P, N, w0, σ0, β0, m⟩ := F
  obtain rfl : P = Try.prog := hP
  obtain rfl : N = 12 := hN
  obtain rfl : m = 1 := hm
  have he : Env ⟨Try.prog, 12, w0, σ0, β0, 1⟩ tab := ⟨Nat.le_of_ble_eq_true rfl, tabOk⟩
  unfold m_laws_szIntS at h
  refine W_seq ?_
  refine W_regV he rfl ?_
  refine v0 (sA rfl [] rfl) rfl ?_
  refine ve ?_
  refine W2 [0, 1] [] [] (l := [(0, .c (.row _ _ _)), (1, .c (.int _ _))]) (h := []) (h' := []) trivial rfl rfl rfl ?_
  refine W_seq ?_
  refine W_regV he rfl ?_
  refine v0 (sM rfl [] rfl) rfl ?_
  refine v0 (sM rfl [] rfl) rfl ?_
  refine v0 (sLm rfl rfl rfl rfl) rfl ?_
  refine v0 (sBi rfl rfl rfl rfl) rfl ?_
  refine v0 (sA rfl [] rfl) rfl ?_
  refine ve ?_
  refine W2 [1] [] [] (l := [(1, .c (.int _ _))]) (h := []) (h' := []) trivial rfl rfl rfl ?_
  refine W_seq ?_
  refine W_seq ?_
  refine W_regV he rfl ?_
  refine v0 (sM rfl [] rfl) rfl ?_
  refine vB (sBi rfl rfl rfl rfl) rfl rfl fun b1 hb1 => ?_
  cases b1 with
  | true =>
    replace h := brT hb1 h
    refine ve ?_
    refine W2 [1, 10] [] [] (l := [(1, .c (.int _ _)), (10, .c (.bool true))]) (h := []) (h' := []) trivial rfl rfl rfl ?_
    refine W_true rfl ?_
    refine W_seq ?_
    refine W_regV he rfl ?_
    refine v0 (sA rfl [] rfl) rfl ?_
    refine ve ?_
    refine W2 [4] [] [] (l := [(4, .c (.int _ _))]) (h := []) (h' := []) trivial rfl rfl rfl ?_
    obtain rfl := Option.some.inj h
    exact W_ret (r0 rfl rfl)
  | false =>
    replace h := brF hb1 h
    refine ve ?_
    refine W2 [1, 10] [] [] (l := [(1, .c (.int _ _)), (10, .c (.bool false))]) (h := []) (h' := []) trivial rfl rfl rfl ?_
    refine W_false rfl ?_
    refine W_skip ?_
    refine W_seq ?_
    refine W_regV he rfl ?_
    refine v0 (sM rfl [] rfl) rfl ?_
    refine v0 (sA rfl [] rfl) rfl ?_
    refine ve ?_
    refine W2 [4] [] [] (l := [(4, .c (.int _ _))]) (h := []) (h' := []) trivial rfl rfl rfl ?_
    obtain rfl := Option.some.inj h
    exact W_ret (r0 rfl rfl)
theorem ok_laws_szIntS : FnOk Try.prog 43 := ⟨_, Try.func43, rfl, rfl⟩


/-! ### loop.example/g00499/laws.szPool -/
def m_laws_szPool (K : Nat) (a0 : T_laws_Pool) (a1 : Int) : Option (Int) := ((m_laws_szByteS K a0.fMem a1).bind fun r1 => (bif (decide (r1 < 0)) then some (-1) else ((m_laws_szIntS K a0.fSt r1).bind fun r3 => (bif (decide (r3 < 0)) then some (-1) else ((m_laws_szIntS K a0.fOwn r3).bind fun r5 => (bif (decide (r5 < 0)) then some (-1) else some r5))))))
set_option maxRecDepth 20000 in
set_option maxHeartbeats 8000000 in
theorem w_laws_szPool (K : Nat) (a0 : T_laws_Pool) (a1 : Int) (r : Int) (h : m_laws_szPool K a0 a1 = some r) : Sp Try.prog 40 [.g [.row false 1 (a0.fMem.map en_u8), .row false 1 (a0.fSt.map en_i64), .row false 1 (a0.fOwn.map en_i64)], .c (.int .i64 a1)] [] (.c (.int .i64 r)) [] := by
  refine Sp.of_W tabOk Try.func40 rfl rfl (Nat.le_of_ble_eq_true rfl) (Nat.le_of_ble_eq_true rfl) fun F hP hN hm => ?_
  obtain ⟨P, N, w0, σ0, β0, m⟩ := F
  obtain rfl : P = Try.prog := hP
  obtain rfl : N = 24 := hN
  obtain rfl : m = 1 := hm
  have he : Env ⟨Try.prog, 24, w0, σ0, β0, 1⟩ tab := ⟨Nat.le_of_ble_eq_true rfl, tabOk⟩
  unfold m_laws_szPool at h
  refine W_seq ?_
  refine W_regV he rfl ?_
  refine v0 (sBx rfl [] rfl rfl 101 rfl) rfl ?_
  refine v0 (sA rfl [] rfl) rfl ?_
  refine ve ?_
  refine W2 [1, 2] [101] [] (l := [(1, .c (.int _ _)), (2, .c (.ptr _ _ _ _))]) (h := [(101, ⟨0, 3, [[.row _ _ _, .row _ _ _, .row _ _ _]]⟩)]) (h' := []) trivial rfl rfl rfl ?_
  refine W_seq ?_
  refine W_regV he rfl ?_
  refine v0 (sFP rfl rfl rfl) rfl ?_
  refine v0 (sLd rfl rfl) rfl ?_
  refine v0 (sM rfl [] rfl) rfl ?_
  refine bndc h ?_; clear h; intro r1 hr1 h
  refine v0 (sCm (w_laws_szByteS K a0.fMem a1 _ hr1) ok_laws_szByteS rfl rfl rfl rfl) rfl ?_
  refine v0 (sA rfl [] rfl) rfl ?_
  refine ve ?_
  refine W2 [1, 2] [101] [] (l := [(1, .c (.int _ _)), (2, .c (.ptr _ _ _ _))]) (h := [(101, ⟨0, 3, [[.row _ _ _, .row _ _ _, .row _ _ _]]⟩)]) (h' := []) trivial rfl rfl rfl ?_
  refine W_seq ?_
  refine W_seq ?_
  refine W_regV he rfl ?_
  refine v0 (sM rfl [] rfl) rfl ?_
  refine vB (sBi rfl rfl rfl rfl) rfl rfl fun b2 hb2 => ?_
  cases b2 with
  | true =>
    replace h := brT hb2 h
    refine ve ?_
    refine W2 [1, 2, 10] [101] [] (l := [(1, .c (.int _ _)), (2, .c (.ptr _ _ _ _)), (10, .c (.bool true))]) (h := [(101, ⟨0, 3, [[.row _ _ _, .row _ _ _, .row _ _ _]]⟩)]) (h' := []) trivial rfl rfl rfl ?_
    refine W_true rfl ?_
    refine W_seq ?_
    refine W_regV he rfl ?_
    refine v0 (sA rfl [] rfl) rfl ?_
    refine ve ?_
    refine W2 [4] [] [] (l := [(4, .c (.int _ _))]) (h := []) (h' := []) trivial rfl rfl rfl ?_
    obtain rfl := Option.some.inj h
    exact W_ret (r0 rfl rfl)
  | false =>
    replace h := brF hb2 h
    refine ve ?_
    refine W2 [1, 2, 10] [101] [] (l := [(1, .c (.int _ _)), (2, .c (.ptr _ _ _ _)), (10, .c (.bool false))]) (h := [(101, ⟨0, 3, [[.row _ _ _, .row _ _ _, .row _ _ _]]⟩)]) (h' := []) trivial rfl rfl rfl ?_
    refine W_false rfl ?_
    refine W_skip ?_
    refine W_seq ?_
    refine W_regV he rfl ?_
    refine v0 (sFP rfl rfl rfl) rfl ?_
    refine v0 (sLd rfl rfl) rfl ?_
    refine v0 (sM rfl [] rfl) rfl ?_
    refine bndc h ?_; clear h; intro r3 hr3 h
    refine v0 (sCm (w_laws_szIntS K a0.fSt r1 _ hr3) ok_laws_szIntS rfl rfl rfl rfl) rfl ?_
    refine v0 (sA rfl [] rfl) rfl ?_
    refine ve ?_
    refine W2 [1, 2] [101] [] (l := [(1, .c (.int _ _)), (2, .c (.ptr _ _ _ _))]) (h := [(101, ⟨0, 3, [[.row _ _ _, .row _ _ _, .row _ _ _]]⟩)]) (h' := []) trivial rfl rfl rfl ?_
    refine W_seq ?_
    refine W_seq ?_
    refine W_regV he rfl ?_
    refine v0 (sM rfl [] rfl) rfl ?_
    refine vB (sBi rfl rfl rfl rfl) rfl rfl fun b4 hb4 => ?_
    cases b4 with
    | true =>
      replace h := brT hb4 h
      refine ve ?_
      refine W2 [1, 2, 16] [101] [] (l := [(1, .c (.int _ _)), (2, .c (.ptr _ _ _ _)), (16, .c (.bool true))]) (h := [(101, ⟨0, 3, [[.row _ _ _, .row _ _ _, .row _ _ _]]⟩)]) (h' := []) trivial rfl rfl rfl ?_
      refine W_true rfl ?_
      refine W_seq ?_
      refine W_regV he rfl ?_
      refine v0 (sA rfl [] rfl) rfl ?_
      refine ve ?_
      refine W2 [4] [] [] (l := [(4, .c (.int _ _))]) (h := []) (h' := []) trivial rfl rfl rfl ?_
      obtain rfl := Option.some.inj h
      exact W_ret (r0 rfl rfl)
    | false =>
      replace h := brF hb4 h
      refine ve ?_
      refine W2 [1, 2, 16] [101] [] (l := [(1, .c (.int _ _)), (2, .c (.ptr _ _ _ _)), (16, .c (.bool false))]) (h := [(101, ⟨0, 3, [[.row _ _ _, .row _ _ _, .row _ _ _]]⟩)]) (h' := []) trivial rfl rfl rfl ?_
      refine W_false rfl ?_
      refine W_skip ?_
      refine W_seq ?_
      refine W_regV he rfl ?_
      refine v0 (sFP rfl rfl rfl) rfl ?_
      refine v0 (sLd rfl rfl) rfl ?_
      refine v0 (sM rfl [] rfl) rfl ?_
      refine bndc h ?_; clear h; intro r5 hr5 h
      refine v0 (sCm (w_laws_szIntS K a0.fOwn r3 _ hr5) ok_laws_szIntS rfl rfl rfl rfl) rfl ?_
      refine v0 (sA rfl [] rfl) rfl ?_
      refine ve ?_
      refine W2 [1] [] [] (l := [(1, .c (.int _ _))]) (h := []) (h' := []) trivial rfl rfl rfl ?_
      refine W_seq ?_
      refine W_seq ?_
      refine W_regV he rfl ?_
      refine v0 (sM rfl [] rfl) rfl ?_
      refine vB (sBi rfl rfl rfl rfl) rfl rfl fun b6 hb6 => ?_
      cases b6 with
      | true =>
        replace h := brT hb6 h
        refine ve ?_
        refine W2 [1, 22] [] [] (l := [(1, .c (.int _ _)), (22, .c (.bool true))]) (h := []) (h' := []) trivial rfl rfl rfl ?_
        refine W_true rfl ?_
        refine W_seq ?_
        refine W_regV he rfl ?_
        refine v0 (sA rfl [] rfl) rfl ?_
        refine ve ?_
        refine W2 [4] [] [] (l := [(4, .c (.int _ _))]) (h := []) (h' := []) trivial rfl rfl rfl ?_
        obtain rfl := Option.some.inj h
        exact W_ret (r0 rfl rfl)
      | false =>
        replace h := brF hb6 h
        refine ve ?_
        refine W2 [1, 22] [] [] (l := [(1, .c (.int _ _)), (22, .c (.bool false))]) (h := []) (h' := []) trivial rfl rfl rfl ?_
        refine W_false rfl ?_
        refine W_skip ?_
        refine W_seq ?_
        refine W_regV he rfl ?_
        refine v0 (sM rfl [] rfl) rfl ?_
        refine v0 (sA rfl [] rfl) rfl ?_
        refine ve ?_
        refine W2 [4] [] [] (l := [(4, .c (.int _ _))]) (h := []) (h' := []) trivial rfl rfl rfl ?_
        obtain rfl := Option.some.inj h
        exact W_ret (r0 rfl rfl)
theorem ok_laws_szPool : FnOk Try.prog 40 := ⟨_, Try.func40, rfl, rfl⟩


/-! ### loop.example/g00499/laws.szThingS -/
def m_laws_szThingS (K : Nat) (a0 : List T_laws_Thing) (a1 : Int) : Option (Int) := (bif (decide ((iSub .i64 a1 (a0.length : Int)) < 0)) then some (-1) else some (iSub .i64 a1 (a0.length : Int)))
set_option maxRecDepth 20000 in
set_option maxHeartbeats 8000000 in
theorem w_laws_szThingS (K : Nat) (a0 : List T_laws_Thing) (a1 : Int) (r : Int) (h : m_laws_szThingS K a0 a1 = some r) : Sp Try.prog 112 [.c (.row false 3 (a0.map en_laws_Thing)), .c (.int .i64 a1)] [] (.c (.int .i64 r)) [] := by
  refine Sp.of_W tabOk Try.func112 rfl rfl (Nat.le_of_ble_eq_true rfl) (Nat.le_of_ble_eq_true rfl) fun F hP hN hm => ?_
  obtain ⟨P, N, w0, σ0, β0, m⟩ := F
  obtain rfl : P = Try.prog := hP
  obtain rfl : N = 12 := hN
  obtain rfl : m = 1 := hm
  have he : Env ⟨Try.prog, 12, w0, σ0, β0, 1⟩ tab := ⟨Nat.le_of_ble_eq_true rfl, tabOk⟩
  unfold m_laws_szThingS at h
  refine W_seq ?_
  refine W_regV he rfl ?_
  refine v0 (sA rfl [] rfl) rfl ?_
  refine ve ?_
  refine W2 [0, 1] [] [] (l := [(0, .c (.row _ _ _)), (1, .c (.int _ _))]) (h := []) (h' := []) trivial rfl rfl rfl ?_
  refine W_seq ?_
  refine W_regV he rfl ?_
  refine v0 (sM rfl [] rfl) rfl ?_
  refine v0 (sM rfl [] rfl) rfl ?_
  refine v0 (sLm rfl rfl rfl rfl) rfl ?_
  refine v0 (sBi rfl rfl rfl rfl) rfl ?_
  refine v0 (sA rfl [] rfl) rfl ?_
  refine ve ?_
  refine W2 [1] [] [] (l := [(1, .c (.int _ _))]) (h := []) (h' := []) trivial rfl rfl rfl ?_
  refine W_seq ?_
  refine W_seq ?_
  refine W_regV he rfl ?_
  refine v0 (sM rfl [] rfl) rfl ?_
  refine vB (sBi rfl rfl rfl rfl) rfl rfl fun b1 hb1 => ?_
  cases b1 with
  | true =>
    replace h := brT hb1 h
    refine ve ?_
    refine W2 [1, 10] [] [] (l := [(1, .c (.int _ _)), (10, .c (.bool true))]) (h := []) (h' := []) trivial rfl rfl rfl ?_
    refine W_true rfl ?_
    refine W_seq ?_
    refine W_regV he rfl ?_
    refine v0 (sA rfl [] rfl) rfl ?_
    refine ve ?_
    refine W2 [4] [] [] (l := [(4, .c (.int _ _))]) (h := []) (h' := []) trivial rfl rfl rfl ?_
    obtain rfl := Option.some.inj h
    exact W_ret (r0 rfl rfl)
  | false =>
    replace h := brF hb1 h
    refine ve ?_
    refine W2 [1, 10] [] [] (l := [(1, .c (.int _ _)), (10, .c (.bool false))]) (h := []) (h' := []) trivial rfl rfl rfl ?_
    refine W_false rfl ?_
    refine W_skip ?_
    refine W_seq ?_
    refine W_regV he rfl ?_
    refine v0 (sM rfl [] rfl) rfl ?_
    refine v0 (sA rfl [] rfl) rfl ?_
    refine ve ?_
    refine W2 [4] [] [] (l := [(4, .c (.int _ _))]) (h := []) (h' := []) trivial rfl rfl rfl ?_
    obtain rfl := Option.some.inj h
    exact W_ret (r0 rfl rfl)
theorem ok_laws_szThingS : FnOk Try.prog 112 := ⟨_, Try.func112, rfl, rfl⟩


/-! ### loop.example/g00499/laws.szNode -/
def m_laws_szNode (K : Nat) (a0 : T_laws_Node) (a1 : Int) : Option (Int) := ((m_laws_szIntS K a0.fChunks a1).bind fun r1 => (bif (decide (r1 < 0)) then some (-1) else ((m_laws_szThingS K a0.fThings r1).bind fun r3 => (bif (decide (r3 < 0)) then some (-1) else ((m_laws_szIntS K a0.fTags r3).bind fun r5 => (bif (decide (r5 < 0)) then some (-1) else some r5))))))
set_option maxRecDepth 20000 in
set_option maxHeartbeats 8000000 in
theorem w_laws_szNode (K : Nat) (a0 : T_laws_Node) (a1 : Int) (r : Int) (h : m_laws_szNode K a0 a1 = some r) : Sp Try.prog 81 [.g [.int .i64 a0.fSt, .int .i64 a0.fGen, .int .i64 a0.fEp, .int .i64 a0.fUp, .int .i64 a0.fUpEp, .int .i64 a0.fFirst, .int .i64 a0.fNext, .int .i64 a0.fPrev, .row false 1 (a0.fChunks.map en_i64), .int .i64 a0.fCur, .int .i64 a0.fBump, .row false 3 (a0.fThings.map en_laws_Thing), .row false 1 (a0.fTags.map en_i64)], .c (.int .i64 a1)] [] (.c (.int .i64 r)) [] := by
  refine Sp.of_W tabOk Try.func81 rfl rfl (Nat.le_of_ble_eq_true rfl) (Nat.le_of_ble_eq_true rfl) fun F hP hN hm => ?_
  obtain ⟨P, N, w0, σ0, β0, m⟩ := F
  obtain rfl : P = Try.prog := hP
  obtain rfl : N = 24 := hN
  obtain rfl : m = 1 := hm
  have he : Env ⟨Try.prog, 24, w0, σ0, β0, 1⟩ tab := ⟨Nat.le_of_ble_eq_true rfl, tabOk⟩
  unfold m_laws_szNode at h
  refine W_seq ?_
  refine W_regV he rfl ?_
  refine v0 (sBx rfl [] rfl rfl 101 rfl) rfl ?_
  refine v0 (sA rfl [] rfl) rfl ?_
  refine ve ?_
  refine W2 [1, 2] [101] [] (l := [(1, .c (.int _ _)), (2, .c (.ptr _ _ _ _))]) (h := [(101, ⟨0, 13, [[.int _ _, .int _ _, .int _ _, .int _ _, .int _ _, .int _ _, .int _ _, .int _ _, .row _ _ _, .int _ _, .int _ _, .row _ _ _, .row _ _ _]]⟩)]) (h' := []) trivial rfl rfl rfl ?_
  refine W_seq ?_
  refine W_regV he rfl ?_
  refine v0 (sFP rfl rfl rfl) rfl ?_
  refine v0 (sLd rfl rfl) rfl ?_
  refine v0 (sM rfl [] rfl) rfl ?_
  refine bndc h ?_; clear h; intro r1 hr1 h
  refine v0 (sCm (w_laws_szIntS K a0.fChunks a1 _ hr1) ok_laws_szIntS rfl rfl rfl rfl) rfl ?_
  refine v0 (sA rfl [] rfl) rfl ?_
  refine ve ?_
  refine W2 [1, 2] [101] [] (l := [(1, .c (.int _ _)), (2, .c (.ptr _ _ _ _))]) (h := [(101, ⟨0, 13, [[.int _ _, .int _ _, .int _ _, .int _ _, .int _ _, .int _ _, .int _ _, .int _ _, .row _ _ _, .int _ _, .int _ _, .row _ _ _, .row _ _ _]]⟩)]) (h' := []) trivial rfl rfl rfl ?_
  refine W_seq ?_
  refine W_seq ?_
  refine W_regV he rfl ?_
  refine v0 (sM rfl [] rfl) rfl ?_
  refine vB (sBi rfl rfl rfl rfl) rfl rfl fun b2 hb2 => ?_
  cases b2 with
  | true =>
    replace h := brT hb2 h
    refine ve ?_
    refine W2 [1, 2, 10] [101] [] (l := [(1, .c (.int _ _)), (2, .c (.ptr _ _ _ _)), (10, .c (.bool true))]) (h := [(101, ⟨0, 13, [[.int _ _, .int _ _, .int _ _, .int _ _, .int _ _, .int _ _, .int _ _, .int _ _, .row _ _ _, .int _ _, .int _ _, .row _ _ _, .row _ _ _]]⟩)]) (h' := []) trivial rfl rfl rfl ?_
    refine W_true rfl ?_
    refine W_seq ?_
    refine W_regV he rfl ?_
    refine v0 (sA rfl [] rfl) rfl ?_
    refine ve ?_
    refine W2 [4] [] [] (l := [(4, .c (.int _ _))]) (h := []) (h' := []) trivial rfl rfl rfl ?_
    obtain rfl := Option.some.inj h
    exact W_ret (r0 rfl rfl)
  | false =>
    replace h := brF hb2 h
    refine ve ?_
    refine W2 [1, 2, 10] [101] [] (l := [(1, .c (.int _ _)), (2, .c (.ptr _ _ _ _)), (10, .c (.bool false))]) (h := [(101, ⟨0, 13, [[.int _ _, .int _ _, .int _ _, .int _ _, .int _ _, .int _ _, .int _ _, .int _ _, .row _ _ _, .int _ _, .int _ _, .row _ _ _, .row _ _ _]]⟩)]) (h' := []) trivial rfl rfl rfl ?_
    refine W_false rfl ?_
    refine W_skip ?_
    refine W_seq ?_
    refine W_regV he rfl ?_
    refine v0 (sFP rfl rfl rfl) rfl ?_
    refine v0 (sLd rfl rfl) rfl ?_
    refine v0 (sM rfl [] rfl) rfl ?_
    refine bndc h ?_; clear h; intro r3 hr3 h
    refine v0 (sCm (w_laws_szThingS K a0.fThings r1 _ hr3) ok_laws_szThingS rfl rfl rfl rfl) rfl ?_
    refine v0 (sA rfl [] rfl) rfl ?_
    refine ve ?_
    refine W2 [1, 2] [101] [] (l := [(1, .c (.int _ _)), (2, .c (.ptr _ _ _ _))]) (h := [(101, ⟨0, 13, [[.int _ _, .int _ _, .int _ _, .int _ _, .int _ _, .int _ _, .int _ _, .int _ _, .row _ _ _, .int _ _, .int _ _, .row _ _ _, .row _ _ _]]⟩)]) (h' := []) trivial rfl rfl rfl ?_
    refine W_seq ?_
    refine W_seq ?_
    refine W_regV he rfl ?_
    refine v0 (sM rfl [] rfl) rfl ?_
    refine vB (sBi rfl rfl rfl rfl) rfl rfl fun b4 hb4 => ?_
    cases b4 with
    | true =>
      replace h := brT hb4 h
      refine ve ?_
      refine W2 [1, 2, 16] [101] [] (l := [(1, .c (.int _ _)), (2, .c (.ptr _ _ _ _)), (16, .c (.bool true))]) (h := [(101, ⟨0, 13, [[.int _ _, .int _ _, .int _ _, .int _ _, .int _ _, .int _ _, .int _ _, .int _ _, .row _ _ _, .int _ _, .int _ _, .row _ _ _, .row _ _ _]]⟩)]) (h' := []) trivial rfl rfl rfl ?_
      refine W_true rfl ?_
      refine W_seq ?_
      refine W_regV he rfl ?_
      refine v0 (sA rfl [] rfl) rfl ?_
      refine ve ?_
      refine W2 [4] [] [] (l := [(4, .c (.int _ _))]) (h := []) (h' := []) trivial rfl rfl rfl ?_
      obtain rfl := Option.some.inj h
      exact W_ret (r0 rfl rfl)
    | false =>
      replace h := brF hb4 h
      refine ve ?_
      refine W2 [1, 2, 16] [101] [] (l := [(1, .c (.int _ _)), (2, .c (.ptr _ _ _ _)), (16, .c (.bool false))]) (h := [(101, ⟨0, 13, [[.int _ _, .int _ _, .int _ _, .int _ _, .int _ _, .int _ _, .int _ _, .int _ _, .row _ _ _, .int _ _, .int _ _, .row _ _ _, .row _ _ _]]⟩)]) (h' := []) trivial rfl rfl rfl ?_
      refine W_false rfl ?_
      refine W_skip ?_
      refine W_seq ?_
      refine W_regV he rfl ?_
      refine v0 (sFP rfl rfl rfl) rfl ?_
      refine v0 (sLd rfl rfl) rfl ?_
      refine v0 (sM rfl [] rfl) rfl ?_
      refine bndc h ?_; clear h; intro r5 hr5 h
      refine v0 (sCm (w_laws_szIntS K a0.fTags r3 _ hr5) ok_laws_szIntS rfl rfl rfl rfl) rfl ?_
      refine v0 (sA rfl [] rfl) rfl ?_
      refine ve ?_
      refine W2 [1] [] [] (l := [(1, .c (.int _ _))]) (h := []) (h' := []) trivial rfl rfl rfl ?_
      refine W_seq ?_
      refine W_seq ?_
      refine W_regV he rfl ?_
      refine v0 (sM rfl [] rfl) rfl ?_
      refine vB (sBi rfl rfl rfl rfl) rfl rfl fun b6 hb6 => ?_
      cases b6 with
      | true =>
        replace h := brT hb6 h
        refine ve ?_
        refine W2 [1, 22] [] [] (l := [(1, .c (.int _ _)), (22, .c (.bool true))]) (h := []) (h' := []) trivial rfl rfl rfl ?_
        refine W_true rfl ?_
        refine W_seq ?_
        refine W_regV he rfl ?_
        refine v0 (sA rfl [] rfl) rfl ?_
        refine ve ?_
        refine W2 [4] [] [] (l := [(4, .c (.int _ _))]) (h := []) (h' := []) trivial rfl rfl rfl ?_
        obtain rfl := Option.some.inj h
        exact W_ret (r0 rfl rfl)
      | false =>
        replace h := brF hb6 h
        refine ve ?_
        refine W2 [1, 22] [] [] (l := [(1, .c (.int _ _)), (22, .c (.bool false))]) (h := []) (h' := []) trivial rfl rfl rfl ?_
        refine W_false rfl ?_
        refine W_skip ?_
        refine W_seq ?_
        refine W_regV he rfl ?_
        refine v0 (sM rfl [] rfl) rfl ?_
        refine v0 (sA rfl [] rfl) rfl ?_
        refine ve ?_
        refine W2 [4] [] [] (l := [(4, .c (.int _ _))]) (h := []) (h' := []) trivial rfl rfl rfl ?_
        obtain rfl := Option.some.inj h
        exact W_ret (r0 rfl rfl)
theorem ok_laws_szNode : FnOk Try.prog 81 := ⟨_, Try.func81, rfl, rfl⟩


/-! ### loop.example/g00499/laws.szNodeS -/
def l_laws_szNodeS_4 (K : Nat) (a0 : List T_laws_Node) : Nat → Int → Int → Option (Int)
  | 0, _, _ => none
  | n4 + 1, v2, v3 => (bif (decide (v3 < (a0.length : Int))) then (if (0 : Int) ≤ v3 ∧ v3 < (a0.length : Int) then ((m_laws_szNode K (gt a0 v3) v2).bind fun r7 => (bif (decide (r7 < 0)) then some (-1) else (l_laws_szNodeS_4 K a0 n4 r7 (iAdd .i64 v3 1)))) else none) else some v2)
def m_laws_szNodeS (K : Nat) (a0 : List T_laws_Node) (a1 : Int) : Option (Int) := (bif (decide ((iSub .i64 a1 (a0.length : Int)) < 0)) then some (-1) else (l_laws_szNodeS_4 K a0 K (iSub .i64 a1 (a0.length : Int)) 0))
set_option maxRecDepth 20000 in
set_option maxHeartbeats 8000000 in
theorem w_laws_szNodeS (K : Nat) (a0 : List T_laws_Node) (a1 : Int) (r : Int) (h : m_laws_szNodeS K a0 a1 = some r) : Sp Try.prog 41 [.c (.row false 13 (a0.map en_laws_Node)), .c (.int .i64 a1)] [] (.c (.int .i64 r)) [] := by
  refine Sp.of_W tabOk Try.func41 rfl rfl (Nat.le_of_ble_eq_true rfl) (Nat.le_of_ble_eq_true rfl) fun F hP hN hm => ?_
  obtain ⟨P, N, w0, σ0, β0, m⟩ := F
  obtain rfl : P = Try.prog := hP
  obtain rfl : N = 27 := hN
  obtain rfl : m = 1 := hm
  have he : Env ⟨Try.prog, 27, w0, σ0, β0, 1⟩ tab := ⟨Nat.le_of_ble_eq_true rfl, tabOk⟩
  unfold m_laws_szNodeS at h
  refine W_seq ?_
  refine W_regV he rfl ?_
  refine v0 (sA rfl [] rfl) rfl ?_
  refine ve ?_
  refine W2 [0, 1] [] [] (l := [(0, .c (.row _ _ _)), (1, .c (.int _ _))]) (h := []) (h' := []) trivial rfl rfl rfl ?_
  refine W_seq ?_
  refine W_regV he rfl ?_
  refine v0 (sM rfl [] rfl) rfl ?_
  refine v0 (sM rfl [] rfl) rfl ?_
  refine v0 (sLm rfl rfl rfl rfl) rfl ?_
  refine v0 (sBi rfl rfl rfl rfl) rfl ?_
  refine v0 (sA rfl [] rfl) rfl ?_
  refine ve ?_
  refine W2 [0, 1] [] [] (l := [(0, .c (.row _ _ _)), (1, .c (.int _ _))]) (h := []) (h' := []) trivial rfl rfl rfl ?_
  refine W_seq ?_
  refine W_seq ?_
  refine W_regV he rfl ?_
  refine v0 (sM rfl [] rfl) rfl ?_
  refine vB (sBi rfl rfl rfl rfl) rfl rfl fun b1 hb1 => ?_
  cases b1 with
  | true =>
    replace h := brT hb1 h
    refine ve ?_
    refine W2 [0, 1, 11] [] [] (l := [(0, .c (.row _ _ _)), (1, .c (.int _ _)), (11, .c (.bool true))]) (h := []) (h' := []) trivial rfl rfl rfl ?_
    refine W_true rfl ?_
    refine W_seq ?_
    refine W_regV he rfl ?_
    refine v0 (sA rfl [] rfl) rfl ?_
    refine ve ?_
    refine W2 [4] [] [] (l := [(4, .c (.int _ _))]) (h := []) (h' := []) trivial rfl rfl rfl ?_
    obtain rfl := Option.some.inj h
    exact W_ret (r0 rfl rfl)
  | false =>
    replace h := brF hb1 h
    refine ve ?_
    refine W2 [0, 1, 11] [] [] (l := [(0, .c (.row _ _ _)), (1, .c (.int _ _)), (11, .c (.bool false))]) (h := []) (h' := []) trivial rfl rfl rfl ?_
    refine W_false rfl ?_
    refine W_skip ?_
    refine W_seq ?_
    refine W_seq ?_
    refine W_regV he rfl ?_
    refine v0 (sA rfl [] rfl) rfl ?_
    refine ve ?_
    refine W2 [0, 1, 5] [] [] (l := [(0, .c (.row _ _ _)), (1, .c (.int _ _)), (5, .c (.int _ _))]) (h := []) (h' := []) trivial rfl rfl rfl ?_
    refine W_block ?_
    refine W2 [0, 1, 5] [] [] (l := [(0, .c (.row _ _ _)), (1, .c (.int _ _)), (5, .c (.int _ _))]) (h := []) (h' := []) trivial rfl rfl rfl ?_
    refine W_loopW (fun n4 S => ∃ (v2 : Int), ∃ (v3 : Int), S = StL [(0, .c (.row false 13 (a0.map en_laws_Node))), (1, .c (.int .i64 v2)), (5, .c (.int .i64 v3))] ([] ++ []) ∧ l_laws_szNodeS_4 K a0 n4 v2 v3 = some r) K ⟨_, _, rfl, h⟩ ?_
    rintro n4 S ⟨v2, v3, rfl, h⟩
    cases n4 with
    | zero => simp [l_laws_szNodeS_4] at h
    | succ n4 =>
      rw [l_laws_szNodeS_4] at h
      refine W_seq ?_
      refine W_seq ?_
      refine W_regV he rfl ?_
      refine v0 (sM rfl [] rfl) rfl ?_
      refine v0 (sM rfl [] rfl) rfl ?_
      refine v0 (sLm rfl rfl rfl rfl) rfl ?_
      refine vB (sBi rfl rfl rfl rfl) rfl rfl fun b5 hb5 => ?_
      cases b5 with
      | true =>
        replace h := brT hb5 h
        refine ve ?_
        refine W2 [0, 1, 5, 15] [] [] (l := [(0, .c (.row _ _ _)), (1, .c (.int _ _)), (5, .c (.int _ _)), (15, .c (.bool true))]) (h := []) (h' := []) trivial rfl rfl rfl ?_
        refine W_true rfl ?_
        refine W_skip ?_
        refine W_seq ?_
        refine W_block ?_
        refine W_seq ?_
        refine W_regV he rfl ?_
        refine v0 (sM rfl [] rfl) rfl ?_
        refine v0 (sM rfl [] rfl) rfl ?_
        refine chkc h ?_; clear h; intro c6 h
        refine v0 (sIRm rfl rfl rfl rfl c6) rfl ?_
        refine v0 (sLI rfl rfl (en_laws_Node (gt a0 v3)) (gt_at _ c6) rfl rfl rfl) rfl ?_
        refine v0 (sM rfl [] rfl) rfl ?_
        refine bndc h ?_; clear h; intro r7 hr7 h
        refine v0 (sCm (w_laws_szNode K (gt a0 v3) v2 _ hr7) ok_laws_szNode rfl rfl rfl rfl) rfl ?_
        refine v0 (sA rfl [] rfl) rfl ?_
        refine ve ?_
        refine W2 [0, 1, 5] [] [] (l := [(0, .c (.row _ _ _)), (1, .c (.int _ _)), (5, .c (.int _ _))]) (h := []) (h' := []) trivial rfl rfl rfl ?_
        refine W_seq ?_
        refine W_regV he rfl ?_
        refine v0 (sM rfl [] rfl) rfl ?_
        refine vB (sBi rfl rfl rfl rfl) rfl rfl fun b8 hb8 => ?_
        cases b8 with
        | true =>
          replace h := brT hb8 h
          refine ve ?_
          refine W2 [0, 1, 5, 25] [] [] (l := [(0, .c (.row _ _ _)), (1, .c (.int _ _)), (5, .c (.int _ _)), (25, .c (.bool true))]) (h := []) (h' := []) trivial rfl rfl rfl ?_
          refine W_true rfl ?_
          refine W_seq ?_
          refine W_regV he rfl ?_
          refine v0 (sA rfl [] rfl) rfl ?_
          refine ve ?_
          refine W2 [4] [] [] (l := [(4, .c (.int _ _))]) (h := []) (h' := []) trivial rfl rfl rfl ?_
          obtain rfl := Option.some.inj h
          exact W_ret (r0 rfl rfl)
        | false =>
          replace h := brF hb8 h
          refine ve ?_
          refine W2 [0, 1, 5, 25] [] [] (l := [(0, .c (.row _ _ _)), (1, .c (.int _ _)), (5, .c (.int _ _)), (25, .c (.bool false))]) (h := []) (h' := []) trivial rfl rfl rfl ?_
          refine W_false rfl ?_
          refine W_skip ?_
          refine W_regV he rfl ?_
          refine v0 (sM rfl [] rfl) rfl ?_
          refine v0 (sBi rfl rfl rfl rfl) rfl ?_
          refine v0 (sA rfl [] rfl) rfl ?_
          refine ve ?_
          exact ⟨n4, _, Nat.lt_succ_self n4, wk2 [0, 1, 5] [] [] (l := [(0, .c (.row _ _ _)), (1, .c (.int _ _)), (5, .c (.int _ _))]) (h := []) (h' := []) trivial rfl rfl rfl, _, _, rfl, h⟩
      | false =>
        replace h := brF hb5 h
        refine ve ?_
        refine W2 [0, 1, 5, 15] [] [] (l := [(0, .c (.row _ _ _)), (1, .c (.int _ _)), (5, .c (.int _ _)), (15, .c (.bool false))]) (h := []) (h' := []) trivial rfl rfl rfl ?_
        refine W_false rfl ?_
        refine W_exit (ex_then (ex_then (ex_hit ?_)))
        refine W_seq ?_
        refine W_regV he rfl ?_
        refine v0 (sM rfl [] rfl) rfl ?_
        refine v0 (sA rfl [] rfl) rfl ?_
        refine ve ?_
        refine W2 [4] [] [] (l := [(4, .c (.int _ _))]) (h := []) (h' := []) trivial rfl rfl rfl ?_
        obtain rfl := Option.some.inj h
        exact W_ret (r0 rfl rfl)
theorem ok_laws_szNodeS : FnOk Try.prog 41 := ⟨_, Try.func41, rfl, rfl⟩


/-! ### loop.example/g00499/laws.szWaste -/
def m_laws_szWaste (K : Nat) (a0 : T_laws_Waste) (a1 : Int) : Option (Int) := ((m_laws_szIntS K a0.fTags a1).bind fun r1 => (bif (decide (r1 < 0)) then some (-1) else ((m_laws_szIntS K a0.fChunks r1).bind fun r3 => (bif (decide (r3 < 0)) then some (-1) else some r3))))
set_option maxRecDepth 20000 in
set_option maxHeartbeats 8000000 in
theorem w_laws_szWaste (K : Nat) (a0 : T_laws_Waste) (a1 : Int) (r : Int) (h : m_laws_szWaste K a0 a1 = some r) : Sp Try.prog 82 [.g [.int .i64 a0.fSlot, .int .i64 a0.fFirst, .row false 1 (a0.fTags.map en_i64), .row false 1 (a0.fChunks.map en_i64), .int .i64 a0.fDone], .c (.int .i64 a1)] [] (.c (.int .i64 r)) [] := by
  refine Sp.of_W tabOk Try.func82 rfl rfl (Nat.le_of_ble_eq_true rfl) (Nat.le_of_ble_eq_true rfl) fun F hP hN hm => ?_
  obtain ⟨P, N, w0, σ0, β0, m⟩ := F
  obtain rfl : P = Try.prog := hP
  obtain rfl : N = 18 := hN
  obtain rfl : m = 1 := hm
  have he : Env ⟨Try.prog, 18, w0, σ0, β0, 1⟩ tab := ⟨Nat.le_of_ble_eq_true rfl, tabOk⟩
  unfold m_laws_szWaste at h
  refine W_seq ?_
  refine W_regV he rfl ?_
  refine v0 (sBx rfl [] rfl rfl 101 rfl) rfl ?_
  refine v0 (sA rfl [] rfl) rfl ?_
  refine ve ?_
  refine W2 [1, 2] [101] [] (l := [(1, .c (.int _ _)), (2, .c (.ptr _ _ _ _))]) (h := [(101, ⟨0, 5, [[.int _ _, .int _ _, .row _ _ _, .row _ _ _, .int _ _]]⟩)]) (h' := []) trivial rfl rfl rfl ?_
  refine W_seq ?_
  refine W_regV he rfl ?_
  refine v0 (sFP rfl rfl rfl) rfl ?_
  refine v0 (sLd rfl rfl) rfl ?_
  refine v0 (sM rfl [] rfl) rfl ?_
  refine bndc h ?_; clear h; intro r1 hr1 h
  refine v0 (sCm (w_laws_szIntS K a0.fTags a1 _ hr1) ok_laws_szIntS rfl rfl rfl rfl) rfl ?_
  refine v0 (sA rfl [] rfl) rfl ?_
  refine ve ?_
  refine W2 [1, 2] [101] [] (l := [(1, .c (.int _ _)), (2, .c (.ptr _ _ _ _))]) (h := [(101, ⟨0, 5, [[.int _ _, .int _ _, .row _ _ _, .row _ _ _, .int _ _]]⟩)]) (h' := []) trivial rfl rfl rfl ?_
  refine W_seq ?_
  refine W_seq ?_
  refine W_regV he rfl ?_
  refine v0 (sM rfl [] rfl) rfl ?_
  refine vB (sBi rfl rfl rfl rfl) rfl rfl fun b2 hb2 => ?_
  cases b2 with
  | true =>
    replace h := brT hb2 h
    refine ve ?_
    refine W2 [1, 2, 10] [101] [] (l := [(1, .c (.int _ _)), (2, .c (.ptr _ _ _ _)), (10, .c (.bool true))]) (h := [(101, ⟨0, 5, [[.int _ _, .int _ _, .row _ _ _, .row _ _ _, .int _ _]]⟩)]) (h' := []) trivial rfl rfl rfl ?_
    refine W_true rfl ?_
    refine W_seq ?_
    refine W_regV he rfl ?_
    refine v0 (sA rfl [] rfl) rfl ?_
    refine ve ?_
    refine W2 [4] [] [] (l := [(4, .c (.int _ _))]) (h := []) (h' := []) trivial rfl rfl rfl ?_
    obtain rfl := Option.some.inj h
    exact W_ret (r0 rfl rfl)
  | false =>
    replace h := brF hb2 h
    refine ve ?_
    refine W2 [1, 2, 10] [101] [] (l := [(1, .c (.int _ _)), (2, .c (.ptr _ _ _ _)), (10, .c (.bool false))]) (h := [(101, ⟨0, 5, [[.int _ _, .int _ _, .row _ _ _, .row _ _ _, .int _ _]]⟩)]) (h' := []) trivial rfl rfl rfl ?_
    refine W_false rfl ?_
    refine W_skip ?_
    refine W_seq ?_
    refine W_regV he rfl ?_
    refine v0 (sFP rfl rfl rfl) rfl ?_
    refine v0 (sLd rfl rfl) rfl ?_
    refine v0 (sM rfl [] rfl) rfl ?_
    refine bndc h ?_; clear h; intro r3 hr3 h
    refine v0 (sCm (w_laws_szIntS K a0.fChunks r1 _ hr3) ok_laws_szIntS rfl rfl rfl rfl) rfl ?_
    refine v0 (sA rfl [] rfl) rfl ?_
    refine ve ?_
    refine W2 [1] [] [] (l := [(1, .c (.int _ _))]) (h := []) (h' := []) trivial rfl rfl rfl ?_
    refine W_seq ?_
    refine W_seq ?_
    refine W_regV he rfl ?_
    refine v0 (sM rfl [] rfl) rfl ?_
    refine vB (sBi rfl rfl rfl rfl) rfl rfl fun b4 hb4 => ?_
    cases b4 with
    | true =>
      replace h := brT hb4 h
      refine ve ?_
      refine W2 [1, 16] [] [] (l := [(1, .c (.int _ _)), (16, .c (.bool true))]) (h := []) (h' := []) trivial rfl rfl rfl ?_
      refine W_true rfl ?_
      refine W_seq ?_
      refine W_regV he rfl ?_
      refine v0 (sA rfl [] rfl) rfl ?_
      refine ve ?_
      refine W2 [4] [] [] (l := [(4, .c (.int _ _))]) (h := []) (h' := []) trivial rfl rfl rfl ?_
      obtain rfl := Option.some.inj h
      exact W_ret (r0 rfl rfl)
    | false =>
      replace h := brF hb4 h
      refine ve ?_
      refine W2 [1, 16] [] [] (l := [(1, .c (.int _ _)), (16, .c (.bool false))]) (h := []) (h' := []) trivial rfl rfl rfl ?_
      refine W_false rfl ?_
      refine W_skip ?_
      refine W_seq ?_
      refine W_regV he rfl ?_
      refine v0 (sM rfl [] rfl) rfl ?_
      refine v0 (sA rfl [] rfl) rfl ?_
      refine ve ?_
      refine W2 [4] [] [] (l := [(4, .c (.int _ _))]) (h := []) (h' := []) trivial rfl rfl rfl ?_
      obtain rfl := Option.some.inj h
      exact W_ret (r0 rfl rfl)
theorem ok_laws_szWaste : FnOk Try.prog 82 := ⟨_, Try.func82, rfl, rfl⟩


/-! ### loop.example/g00499/laws.szWasteS -/
def l_laws_szWasteS_4 (K : Nat) (a0 : List T_laws_Waste) : Nat → Int → Int → Option (Int)
  | 0, _, _ => none
  | n4 + 1, v2, v3 => (bif (decide (v3 < (a0.length : Int))) then (if (0 : Int) ≤ v3 ∧ v3 < (a0.length : Int) then ((m_laws_szWaste K (gt a0 v3) v2).bind fun r7 => (bif (decide (r7 < 0)) then some (-1) else (l_laws_szWasteS_4 K a0 n4 r7 (iAdd .i64 v3 1)))) else none) else some v2)
def m_laws_szWasteS (K : Nat) (a0 : List T_laws_Waste) (a1 : Int) : Option (Int) := (bif (decide ((iSub .i64 a1 (a0.length : Int)) < 0)) then some (-1) else (l_laws_szWasteS_4 K a0 K (iSub .i64 a1 (a0.length : Int)) 0))
set_option maxRecDepth 20000 in
set_option maxHeartbeats 8000000 in
theorem w_laws_szWasteS (K : Nat) (a0 : List T_laws_Waste) (a1 : Int) (r : Int) (h : m_laws_szWasteS K a0 a1 = some r) : Sp Try.prog 42 [.c (.row false 5 (a0.map en_laws_Waste)), .c (.int .i64 a1)] [] (.c (.int .i64 r)) [] := by
  refine Sp.of_W tabOk Try.func42 rfl rfl (Nat.le_of_ble_eq_true rfl) (Nat.le_of_ble_eq_true rfl) fun F hP hN hm => ?_
  obtain ⟨P, N, w0, σ0, β0, m⟩ := F
  obtain rfl : P = Try.prog := hP
  obtain rfl : N = 27 := hN
  obtain rfl : m = 1 := hm
  have he : Env ⟨Try.prog, 27, w0, σ0, β0, 1⟩ tab := ⟨Nat.le_of_ble_eq_true rfl, tabOk⟩
  unfold m_laws_szWasteS at h
  refine W_seq ?_
  refine W_regV he rfl ?_
  refine v0 (sA rfl [] rfl) rfl ?_
  refine ve ?_
  refine W2 [0, 1] [] [] (l := [(0, .c (.row _ _ _)), (1, .c (.int _ _))]) (h := []) (h' := []) trivial rfl rfl rfl ?_
  refine W_seq ?_
  refine W_regV he rfl ?_
  refine v0 (sM rfl [] rfl) rfl ?_
  refine v0 (sM rfl [] rfl) rfl ?_
  refine v0 (sLm rfl rfl rfl rfl) rfl ?_
  refine v0 (sBi rfl rfl rfl rfl) rfl ?_
  refine v0 (sA rfl [] rfl) rfl ?_
  refine ve ?_
  refine W2 [0, 1] [] [] (l := [(0, .c (.row _ _ _)), (1, .c (.int _ _))]) (h := []) (h' := []) trivial rfl rfl rfl ?_
  refine W_seq ?_
  refine W_seq ?_
  refine W_regV he rfl ?_
  refine v0 (sM rfl [] rfl) rfl ?_
  refine vB (sBi rfl rfl rfl rfl) rfl rfl fun b1 hb1 => ?_
  cases b1 with
  | true =>
    replace h := brT hb1 h
    refine ve ?_
    refine W2 [0, 1, 11] [] [] (l := [(0, .c (.row _ _ _)), (1, .c (.int _ _)), (11, .c (.bool true))]) (h := []) (h' := []) trivial rfl rfl rfl ?_
    refine W_true rfl ?_
    refine W_seq ?_
    refine W_regV he rfl ?_
    refine v0 (sA rfl [] rfl) rfl ?_
    refine ve ?_
    refine W2 [4] [] [] (l := [(4, .c (.int _ _))]) (h := []) (h' := []) trivial rfl rfl rfl ?_
    obtain rfl := Option.some.inj h
    exact W_ret (r0 rfl rfl)
  | false =>
    replace h := brF hb1 h
    refine ve ?_
    refine W2 [0, 1, 11] [] [] (l := [(0, .c (.row _ _ _)), (1, .c (.int _ _)), (11, .c (.bool false))]) (h := []) (h' := []) trivial rfl rfl rfl ?_
    refine W_false rfl ?_
    refine W_skip ?_
    refine W_seq ?_
    refine W_seq ?_
    refine W_regV he rfl ?_
    refine v0 (sA rfl [] rfl) rfl ?_
    refine ve ?_
    refine W2 [0, 1, 5] [] [] (l := [(0, .c (.row _ _ _)), (1, .c (.int _ _)), (5, .c (.int _ _))]) (h := []) (h' := []) trivial rfl rfl rfl ?_
    refine W_block ?_
    refine W2 [0, 1, 5] [] [] (l := [(0, .c (.row _ _ _)), (1, .c (.int _ _)), (5, .c (.int _ _))]) (h := []) (h' := []) trivial rfl rfl rfl ?_
    refine W_loopW (fun n4 S => ∃ (v2 : Int), ∃ (v3 : Int), S = StL [(0, .c (.row false 5 (a0.map en_laws_Waste))), (1, .c (.int .i64 v2)), (5, .c (.int .i64 v3))] ([] ++ []) ∧ l_laws_szWasteS_4 K a0 n4 v2 v3 = some r) K ⟨_, _, rfl, h⟩ ?_
    rintro n4 S ⟨v2, v3, rfl, h⟩
    cases n4 with
    | zero => simp [l_laws_szWasteS_4] at h
    | succ n4 =>
      rw [l_laws_szWasteS_4] at h
      refine W_seq ?_
      refine W_seq ?_
      refine W_regV he rfl ?_
      refine v0 (sM rfl [] rfl) rfl ?_
      refine v0 (sM rfl [] rfl) rfl ?_
      refine v0 (sLm rfl rfl rfl rfl) rfl ?_
      refine vB (sBi rfl rfl rfl rfl) rfl rfl fun b5 hb5 => ?_
      cases b5 with
      | true =>
        replace h := brT hb5 h
        refine ve ?_
        refine W2 [0, 1, 5, 15] [] [] (l := [(0, .c (.row _ _ _)), (1, .c (.int _ _)), (5, .c (.int _ _)), (15, .c (.bool true))]) (h := []) (h' := []) trivial rfl rfl rfl ?_
        refine W_true rfl ?_
        refine W_skip ?_
        refine W_seq ?_
        refine W_block ?_
        refine W_seq ?_
        refine W_regV he rfl ?_
        refine v0 (sM rfl [] rfl) rfl ?_
        refine v0 (sM rfl [] rfl) rfl ?_
        refine chkc h ?_; clear h; intro c6 h
        refine v0 (sIRm rfl rfl rfl rfl c6) rfl ?_
        refine v0 (sLI rfl rfl (en_laws_Waste (gt a0 v3)) (gt_at _ c6) rfl rfl rfl) rfl ?_
        refine v0 (sM rfl [] rfl) rfl ?_
        refine bndc h ?_; clear h; intro r7 hr7 h
        refine v0 (sCm (w_laws_szWaste K (gt a0 v3) v2 _ hr7) ok_laws_szWaste rfl rfl rfl rfl) rfl ?_
        refine v0 (sA rfl [] rfl) rfl ?_
        refine ve ?_
        refine W2 [0, 1, 5] [] [] (l := [(0, .c (.row _ _ _)), (1, .c (.int _ _)), (5, .c (.int _ _))]) (h := []) (h' := []) trivial rfl rfl rfl ?_
        refine W_seq ?_
        refine W_regV he rfl ?_
        refine v0 (sM rfl [] rfl) rfl ?_
        refine vB (sBi rfl rfl rfl rfl) rfl rfl fun b8 hb8 => ?_
        cases b8 with
        | true =>
          replace h := brT hb8 h
          refine ve ?_
          refine W2 [0, 1, 5, 25] [] [] (l := [(0, .c (.row _ _ _)), (1, .c (.int _ _)), (5, .c (.int _ _)), (25, .c (.bool true))]) (h := []) (h' := []) trivial rfl rfl rfl ?_
          refine W_true rfl ?_
          refine W_seq ?_
          refine W_regV he rfl ?_
          refine v0 (sA rfl [] rfl) rfl ?_
          refine ve ?_
          refine W2 [4] [] [] (l := [(4, .c (.int _ _))]) (h := []) (h' := []) trivial rfl rfl rfl ?_
          obtain rfl := Option.some.inj h
          exact W_ret (r0 rfl rfl)
        | false =>
          replace h := brF hb8 h
          refine ve ?_
          refine W2 [0, 1, 5, 25] [] [] (l := [(0, .c (.row _ _ _)), (1, .c (.int _ _)), (5, .c (.int _ _)), (25, .c (.bool false))]) (h := []) (h' := []) trivial rfl rfl rfl ?_
          refine W_false rfl ?_
          refine W_skip ?_
          refine W_regV he rfl ?_
          refine v0 (sM rfl [] rfl) rfl ?_
          refine v0 (sBi rfl rfl rfl rfl) rfl ?_
          refine v0 (sA rfl [] rfl) rfl ?_
          refine ve ?_
          exact ⟨n4, _, Nat.lt_succ_self n4, wk2 [0, 1, 5] [] [] (l := [(0, .c (.row _ _ _)), (1, .c (.int _ _)), (5, .c (.int _ _))]) (h := []) (h' := []) trivial rfl rfl rfl, _, _, rfl, h⟩
      | false =>
        replace h := brF hb5 h
        refine ve ?_
        refine W2 [0, 1, 5, 15] [] [] (l := [(0, .c (.row _ _ _)), (1, .c (.int _ _)), (5, .c (.int _ _)), (15, .c (.bool false))]) (h := []) (h' := []) trivial rfl rfl rfl ?_
        refine W_false rfl ?_
        refine W_exit (ex_then (ex_then (ex_hit ?_)))
        refine W_seq ?_
        refine W_regV he rfl ?_
        refine v0 (sM rfl [] rfl) rfl ?_
        refine v0 (sA rfl [] rfl) rfl ?_
        refine ve ?_
        refine W2 [4] [] [] (l := [(4, .c (.int _ _))]) (h := []) (h' := []) trivial rfl rfl rfl ?_
        obtain rfl := Option.some.inj h
        exact W_ret (r0 rfl rfl)
theorem ok_laws_szWasteS : FnOk Try.prog 42 := ⟨_, Try.func42, rfl, rfl⟩


/-! ### loop.example/g00499/laws.szWorld -/
def m_laws_szWorld (K : Nat) (a0 : T_laws_World) (a1 : Int) : Option (Int) := ((m_laws_szPool K a0.fP a1).bind fun r1 => (bif (decide (r1 < 0)) then some (-1) else ((m_laws_szNodeS K a0.fL r1).bind fun r3 => (bif (decide (r3 < 0)) then some (-1) else ((m_laws_szWasteS K a0.fQ r3).bind fun r5 => (bif (decide (r5 < 0)) then some (-1) else ((m_laws_szIntS K a0.fLog r5).bind fun r7 => (bif (decide (r7 < 0)) then some (-1) else some r7))))))))
set_option maxRecDepth 20000 in
set_option maxHeartbeats 8000000 in
theorem w_laws_szWorld (K : Nat) (a0 : T_laws_World) (a1 : Int) (r : Int) (h : m_laws_szWorld K a0 a1 = some r) : Sp Try.prog 11 [.g [.int .i64 a0.fC.fChunks, .int .i64 a0.fC.fSize, .int .i64 a0.fC.fSlots, .int .i64 a0.fC.fTax, .int .i64 a0.fC.fSlice, .int .i64 a0.fC.fGens, .row false 1 (a0.fP.fMem.map en_u8), .row false 1 (a0.fP.fSt.map en_i64), .row false 1 (a0.fP.fOwn.map en_i64), .row false 13 (a0.fL.map en_laws_Node), .row false 5 (a0.fQ.map en_laws_Waste), .row false 1 (a0.fLog.map en_i64)], .c (.int .i64 a1)] [] (.c (.int .i64 r)) [] := by
  refine Sp.of_W tabOk Try.func11 rfl rfl (Nat.le_of_ble_eq_true rfl) (Nat.le_of_ble_eq_true rfl) fun F hP hN hm => ?_
  obtain ⟨P, N, w0, σ0, β0, m⟩ := F
  obtain rfl : P = Try.prog := hP
  obtain rfl : N = 30 := hN
  obtain rfl : m = 1 := hm
  have he : Env ⟨Try.prog, 30, w0, σ0, β0, 1⟩ tab := ⟨Nat.le_of_ble_eq_true rfl, tabOk⟩
  unfold m_laws_szWorld at h
  refine W_seq ?_
  refine W_regV he rfl ?_
  refine v0 (sBx rfl [] rfl rfl 101 rfl) rfl ?_
  refine v0 (sA rfl [] rfl) rfl ?_
  refine ve ?_
  refine W2 [1, 2] [101] [] (l := [(1, .c (.int _ _)), (2, .c (.ptr _ _ _ _))]) (h := [(101, ⟨0, 12, [[.int _ _, .int _ _, .int _ _, .int _ _, .int _ _, .int _ _, .row _ _ _, .row _ _ _, .row _ _ _, .row _ _ _, .row _ _ _, .row _ _ _]]⟩)]) (h' := []) trivial rfl rfl rfl ?_
  refine W_seq ?_
  refine W_regV he rfl ?_
  refine v0 (sFP rfl rfl rfl) rfl ?_
  refine v0 (sLd rfl rfl) rfl ?_
  refine v0 (sM rfl [] rfl) rfl ?_
  refine bndc h ?_; clear h; intro r1 hr1 h
  refine v0 (sCm (w_laws_szPool K a0.fP a1 _ hr1) ok_laws_szPool rfl rfl rfl rfl) rfl ?_
  refine v0 (sA rfl [] rfl) rfl ?_
  refine ve ?_
  refine W2 [1, 2] [101] [] (l := [(1, .c (.int _ _)), (2, .c (.ptr _ _ _ _))]) (h := [(101, ⟨0, 12, [[.int _ _, .int _ _, .int _ _, .int _ _, .int _ _, .int _ _, .row _ _ _, .row _ _ _, .row _ _ _, .row _ _ _, .row _ _ _, .row _ _ _]]⟩)]) (h' := []) trivial rfl rfl rfl ?_
  refine W_seq ?_
  refine W_seq ?_
  refine W_regV he rfl ?_
  refine v0 (sM rfl [] rfl) rfl ?_
  refine vB (sBi rfl rfl rfl rfl) rfl rfl fun b2 hb2 => ?_
  cases b2 with
  | true =>
    replace h := brT hb2 h
    refine ve ?_
    refine W2 [1, 2, 10] [101] [] (l := [(1, .c (.int _ _)), (2, .c (.ptr _ _ _ _)), (10, .c (.bool true))]) (h := [(101, ⟨0, 12, [[.int _ _, .int _ _, .int _ _, .int _ _, .int _ _, .int _ _, .row _ _ _, .row _ _ _, .row _ _ _, .row _ _ _, .row _ _ _, .row _ _ _]]⟩)]) (h' := []) trivial rfl rfl rfl ?_
    refine W_true rfl ?_
    refine W_seq ?_
    refine W_regV he rfl ?_
    refine v0 (sA rfl [] rfl) rfl ?_
    refine ve ?_
    refine W2 [4] [] [] (l := [(4, .c (.int _ _))]) (h := []) (h' := []) trivial rfl rfl rfl ?_
    obtain rfl := Option.some.inj h
    exact W_ret (r0 rfl rfl)
  | false =>
    replace h := brF hb2 h
    refine ve ?_
    refine W2 [1, 2, 10] [101] [] (l := [(1, .c (.int _ _)), (2, .c (.ptr _ _ _ _)), (10, .c (.bool false))]) (h := [(101, ⟨0, 12, [[.int _ _, .int _ _, .int _ _, .int _ _, .int _ _, .int _ _, .row _ _ _, .row _ _ _, .row _ _ _, .row _ _ _, .row _ _ _, .row _ _ _]]⟩)]) (h' := []) trivial rfl rfl rfl ?_
    refine W_false rfl ?_
    refine W_skip ?_
    refine W_seq ?_
    refine W_regV he rfl ?_
    refine v0 (sFP rfl rfl rfl) rfl ?_
    refine v0 (sLd rfl rfl) rfl ?_
    refine v0 (sM rfl [] rfl) rfl ?_
    refine bndc h ?_; clear h; intro r3 hr3 h
    refine v0 (sCm (w_laws_szNodeS K a0.fL r1 _ hr3) ok_laws_szNodeS rfl rfl rfl rfl) rfl ?_
    refine v0 (sA rfl [] rfl) rfl ?_
    refine ve ?_
    refine W2 [1, 2] [101] [] (l := [(1, .c (.int _ _)), (2, .c (.ptr _ _ _ _))]) (h := [(101, ⟨0, 12, [[.int _ _, .int _ _, .int _ _, .int _ _, .int _ _, .int _ _, .row _ _ _, .row _ _ _, .row _ _ _, .row _ _ _, .row _ _ _, .row _ _ _]]⟩)]) (h' := []) trivial rfl rfl rfl ?_
    refine W_seq ?_
    refine W_seq ?_
    refine W_regV he rfl ?_
    refine v0 (sM rfl [] rfl) rfl ?_
    refine vB (sBi rfl rfl rfl rfl) rfl rfl fun b4 hb4 => ?_
    cases b4 with
    | true =>
      replace h := brT hb4 h
      refine ve ?_
      refine W2 [1, 2, 16] [101] [] (l := [(1, .c (.int _ _)), (2, .c (.ptr _ _ _ _)), (16, .c (.bool true))]) (h := [(101, ⟨0, 12, [[.int _ _, .int _ _, .int _ _, .int _ _, .int _ _, .int _ _, .row _ _ _, .row _ _ _, .row _ _ _, .row _ _ _, .row _ _ _, .row _ _ _]]⟩)]) (h' := []) trivial rfl rfl rfl ?_
      refine W_true rfl ?_
      refine W_seq ?_
      refine W_regV he rfl ?_
      refine v0 (sA rfl [] rfl) rfl ?_
      refine ve ?_
      refine W2 [4] [] [] (l := [(4, .c (.int _ _))]) (h := []) (h' := []) trivial rfl rfl rfl ?_
      obtain rfl := Option.some.inj h
      exact W_ret (r0 rfl rfl)
    | false =>
      replace h := brF hb4 h
      refine ve ?_
      refine W2 [1, 2, 16] [101] [] (l := [(1, .c (.int _ _)), (2, .c (.ptr _ _ _ _)), (16, .c (.bool false))]) (h := [(101, ⟨0, 12, [[.int _ _, .int _ _, .int _ _, .int _ _, .int _ _, .int _ _, .row _ _ _, .row _ _ _, .row _ _ _, .row _ _ _, .row _ _ _, .row _ _ _]]⟩)]) (h' := []) trivial rfl rfl rfl ?_
      refine W_false rfl ?_
      refine W_skip ?_
      refine W_seq ?_
      refine W_regV he rfl ?_
      refine v0 (sFP rfl rfl rfl) rfl ?_
      refine v0 (sLd rfl rfl) rfl ?_
      refine v0 (sM rfl [] rfl) rfl ?_
      refine bndc h ?_; clear h; intro r5 hr5 h
      refine v0 (sCm (w_laws_szWasteS K a0.fQ r3 _ hr5) ok_laws_szWasteS rfl rfl rfl rfl) rfl ?_
      refine v0 (sA rfl [] rfl) rfl ?_
      refine ve ?_
      refine W2 [1, 2] [101] [] (l := [(1, .c (.int _ _)), (2, .c (.ptr _ _ _ _))]) (h := [(101, ⟨0, 12, [[.int _ _, .int _ _, .int _ _, .int _ _, .int _ _, .int _ _, .row _ _ _, .row _ _ _, .row _ _ _, .row _ _ _, .row _ _ _, .row _ _ _]]⟩)]) (h' := []) trivial rfl rfl rfl ?_
      refine W_seq ?_
      refine W_seq ?_
      refine W_regV he rfl ?_
      refine v0 (sM rfl [] rfl) rfl ?_
      refine vB (sBi rfl rfl rfl rfl) rfl rfl fun b6 hb6 => ?_
      cases b6 with
      | true =>
        replace h := brT hb6 h
        refine ve ?_
        refine W2 [1, 2, 22] [101] [] (l := [(1, .c (.int _ _)), (2, .c (.ptr _ _ _ _)), (22, .c (.bool true))]) (h := [(101, ⟨0, 12, [[.int _ _, .int _ _, .int _ _, .int _ _, .int _ _, .int _ _, .row _ _ _, .row _ _ _, .row _ _ _, .row _ _ _, .row _ _ _, .row _ _ _]]⟩)]) (h' := []) trivial rfl rfl rfl ?_
        refine W_true rfl ?_
        refine W_seq ?_
        refine W_regV he rfl ?_
        refine v0 (sA rfl [] rfl) rfl ?_
        refine ve ?_
        refine W2 [4] [] [] (l := [(4, .c (.int _ _))]) (h := []) (h' := []) trivial rfl rfl rfl ?_
        obtain rfl := Option.some.inj h
        exact W_ret (r0 rfl rfl)
      | false =>
        replace h := brF hb6 h
        refine ve ?_
        refine W2 [1, 2, 22] [101] [] (l := [(1, .c (.int _ _)), (2, .c (.ptr _ _ _ _)), (22, .c (.bool false))]) (h := [(101, ⟨0, 12, [[.int _ _, .int _ _, .int _ _, .int _ _, .int _ _, .int _ _, .row _ _ _, .row _ _ _, .row _ _ _, .row _ _ _, .row _ _ _, .row _ _ _]]⟩)]) (h' := []) trivial rfl rfl rfl ?_
        refine W_false rfl ?_
        refine W_skip ?_
        refine W_seq ?_
        refine W_regV he rfl ?_
        refine v0 (sFP rfl rfl rfl) rfl ?_
        refine v0 (sLd rfl rfl) rfl ?_
        refine v0 (sM rfl [] rfl) rfl ?_
        refine bndc h ?_; clear h; intro r7 hr7 h
        refine v0 (sCm (w_laws_szIntS K a0.fLog r5 _ hr7) ok_laws_szIntS rfl rfl rfl rfl) rfl ?_
        refine v0 (sA rfl [] rfl) rfl ?_
        refine ve ?_
        refine W2 [1] [] [] (l := [(1, .c (.int _ _))]) (h := []) (h' := []) trivial rfl rfl rfl ?_
        refine W_seq ?_
        refine W_seq ?_
        refine W_regV he rfl ?_
        refine v0 (sM rfl [] rfl) rfl ?_
        refine vB (sBi rfl rfl rfl rfl) rfl rfl fun b8 hb8 => ?_
        cases b8 with
        | true =>
          replace h := brT hb8 h
          refine ve ?_
          refine W2 [1, 28] [] [] (l := [(1, .c (.int _ _)), (28, .c (.bool true))]) (h := []) (h' := []) trivial rfl rfl rfl ?_
          refine W_true rfl ?_
          refine W_seq ?_
          refine W_regV he rfl ?_
          refine v0 (sA rfl [] rfl) rfl ?_
          refine ve ?_
          refine W2 [4] [] [] (l := [(4, .c (.int _ _))]) (h := []) (h' := []) trivial rfl rfl rfl ?_
          obtain rfl := Option.some.inj h
          exact W_ret (r0 rfl rfl)
        | false =>
          replace h := brF hb8 h
          refine ve ?_
          refine W2 [1, 28] [] [] (l := [(1, .c (.int _ _)), (28, .c (.bool false))]) (h := []) (h' := []) trivial rfl rfl rfl ?_
          refine W_false rfl ?_
          refine W_skip ?_
          refine W_seq ?_
          refine W_regV he rfl ?_
          refine v0 (sM rfl [] rfl) rfl ?_
          refine v0 (sA rfl [] rfl) rfl ?_
          refine ve ?_
          refine W2 [4] [] [] (l := [(4, .c (.int _ _))]) (h := []) (h' := []) trivial rfl rfl rfl ?_
          obtain rfl := Option.some.inj h
          exact W_ret (r0 rfl rfl)
theorem ok_laws_szWorld : FnOk Try.prog 11 := ⟨_, Try.func11, rfl, rfl⟩


/-! ### loop.example/g00499/laws.toConf -/
def m_laws_toConf (K : Nat) (a0 : T_laws_Conf) : Option (T_impl_Conf) := some (T_impl_Conf.mk a0.fChunks a0.fSize a0.fSlots a0.fTax a0.fSlice a0.fGens)
set_option maxRecDepth 20000 in
set_option maxHeartbeats 8000000 in
theorem w_laws_toConf (K : Nat) (a0 : T_laws_Conf) (r : T_impl_Conf) (h : m_laws_toConf K a0 = some r) : Sp Try.prog 47 [.g [.int .i64 a0.fChunks, .int .i64 a0.fSize, .int .i64 a0.fSlots, .int .i64 a0.fTax, .int .i64 a0.fSlice, .int .i64 a0.fGens]] [] (.g [.int .i64 r.fChunks, .int .i64 r.fSize, .int .i64 r.fSlots, .int .i64 r.fTax, .int .i64 r.fSlice, .int .i64 r.fGens]) [] := by
  refine Sp.of_W tabOk Try.func47 rfl rfl (Nat.le_of_ble_eq_true rfl) (Nat.le_of_ble_eq_true rfl) fun F hP hN hm => ?_
  obtain ⟨P, N, w0, σ0, β0, m⟩ := F
  obtain rfl : P = Try.prog := hP
  obtain rfl : N = 23 := hN
  obtain rfl : m = 1 := hm
  have he : Env ⟨Try.prog, 23, w0, σ0, β0, 1⟩ tab := ⟨Nat.le_of_ble_eq_true rfl, tabOk⟩
  unfold m_laws_toConf at h
  refine W_seq ?_
  refine W_regV he rfl ?_
  refine v0 (sBx rfl [] rfl rfl 101 rfl) rfl ?_
  refine v0 (sAl rfl rfl 102 rfl) rfl ?_
  refine ve ?_
  refine W2 [1, 2] [101, 102] [] (l := [(1, .c (.ptr _ _ _ _)), (2, .c (.ptr _ _ _ _))]) (h := [(101, ⟨0, 6, [[.int _ _, .int _ _, .int _ _, .int _ _, .int _ _, .int _ _]]⟩), (102, ⟨0, 6, [[.int _ _, .int _ _, .int _ _, .int _ _, .int _ _, .int _ _]]⟩)]) (h' := []) trivial rfl rfl rfl ?_
  refine W_seq ?_
  refine W_regV he rfl ?_
  refine v0 (sAl rfl rfl 103 rfl) rfl ?_
  refine ve ?_
  refine W2 [1, 2, 3] [101, 102, 103] [] (l := [(1, .c (.ptr _ _ _ _)), (2, .c (.ptr _ _ _ _)), (3, .c (.ptr _ _ _ _))]) (h := [(101, ⟨0, 6, [[.int _ _, .int _ _, .int _ _, .int _ _, .int _ _, .int _ _]]⟩), (102, ⟨0, 6, [[.int _ _, .int _ _, .int _ _, .int _ _, .int _ _, .int _ _]]⟩), (103, ⟨0, 6, [[.int _ _, .int _ _, .int _ _, .int _ _, .int _ _, .int _ _]]⟩)]) (h' := []) trivial rfl rfl rfl ?_
  refine W_seq ?_
  refine W_regV he rfl ?_
  refine v0 (sFP rfl rfl rfl) rfl ?_
  refine v0 (sLd rfl rfl) rfl ?_
  refine v0 (sFP rfl rfl rfl) rfl ?_
  refine v0 (sSt rfl rfl [] rfl rfl) rfl ?_
  refine ve ?_
  refine W2 [1, 2, 3] [101, 102, 103] [] (l := [(1, .c (.ptr _ _ _ _)), (2, .c (.ptr _ _ _ _)), (3, .c (.ptr _ _ _ _))]) (h := [(101, ⟨0, 6, [[.int _ _, .int _ _, .int _ _, .int _ _, .int _ _, .int _ _]]⟩), (102, ⟨0, 6, [[.int _ _, .int _ _, .int _ _, .int _ _, .int _ _, .int _ _]]⟩), (103, ⟨0, 6, [[.int _ _, .int _ _, .int _ _, .int _ _, .int _ _, .int _ _]]⟩)]) (h' := []) trivial rfl rfl rfl ?_
  refine W_seq ?_
  refine W_regV he rfl ?_
  refine v0 (sFP rfl rfl rfl) rfl ?_
  refine v0 (sLd rfl rfl) rfl ?_
  refine v0 (sFP rfl rfl rfl) rfl ?_
  refine v0 (sSt rfl rfl [] rfl rfl) rfl ?_
  refine ve ?_
  refine W2 [1, 2, 3] [101, 102, 103] [] (l := [(1, .c (.ptr _ _ _ _)), (2, .c (.ptr _ _ _ _)), (3, .c (.ptr _ _ _ _))]) (h := [(101, ⟨0, 6, [[.int _ _, .int _ _, .int _ _, .int _ _, .int _ _, .int _ _]]⟩), (102, ⟨0, 6, [[.int _ _, .int _ _, .int _ _, .int _ _, .int _ _, .int _ _]]⟩), (103, ⟨0, 6, [[.int _ _, .int _ _, .int _ _, .int _ _, .int _ _, .int _ _]]⟩)]) (h' := []) trivial rfl rfl rfl ?_
  refine W_seq ?_
  refine W_regV he rfl ?_
  refine v0 (sFP rfl rfl rfl) rfl ?_
  refine v0 (sLd rfl rfl) rfl ?_
  refine v0 (sFP rfl rfl rfl) rfl ?_
  refine v0 (sSt rfl rfl [] rfl rfl) rfl ?_
  refine ve ?_
  refine W2 [1, 2, 3] [101, 102, 103] [] (l := [(1, .c (.ptr _ _ _ _)), (2, .c (.ptr _ _ _ _)), (3, .c (.ptr _ _ _ _))]) (h := [(101, ⟨0, 6, [[.int _ _, .int _ _, .int _ _, .int _ _, .int _ _, .int _ _]]⟩), (102, ⟨0, 6, [[.int _ _, .int _ _, .int _ _, .int _ _, .int _ _, .int _ _]]⟩), (103, ⟨0, 6, [[.int _ _, .int _ _, .int _ _, .int _ _, .int _ _, .int _ _]]⟩)]) (h' := []) trivial rfl rfl rfl ?_
  refine W_seq ?_
  refine W_regV he rfl ?_
  refine v0 (sFP rfl rfl rfl) rfl ?_
  refine v0 (sLd rfl rfl) rfl ?_
  refine v0 (sFP rfl rfl rfl) rfl ?_
  refine v0 (sSt rfl rfl [] rfl rfl) rfl ?_
  refine ve ?_
  refine W2 [1, 2, 3] [101, 102, 103] [] (l := [(1, .c (.ptr _ _ _ _)), (2, .c (.ptr _ _ _ _)), (3, .c (.ptr _ _ _ _))]) (h := [(101, ⟨0, 6, [[.int _ _, .int _ _, .int _ _, .int _ _, .int _ _, .int _ _]]⟩), (102, ⟨0, 6, [[.int _ _, .int _ _, .int _ _, .int _ _, .int _ _, .int _ _]]⟩), (103, ⟨0, 6, [[.int _ _, .int _ _, .int _ _, .int _ _, .int _ _, .int _ _]]⟩)]) (h' := []) trivial rfl rfl rfl ?_
  refine W_seq ?_
  refine W_regV he rfl ?_
  refine v0 (sFP rfl rfl rfl) rfl ?_
  refine v0 (sLd rfl rfl) rfl ?_
  refine v0 (sFP rfl rfl rfl) rfl ?_
  refine v0 (sSt rfl rfl [] rfl rfl) rfl ?_
  refine ve ?_
  refine W2 [1, 2, 3] [101, 102, 103] [] (l := [(1, .c (.ptr _ _ _ _)), (2, .c (.ptr _ _ _ _)), (3, .c (.ptr _ _ _ _))]) (h := [(101, ⟨0, 6, [[.int _ _, .int _ _, .int _ _, .int _ _, .int _ _, .int _ _]]⟩), (102, ⟨0, 6, [[.int _ _, .int _ _, .int _ _, .int _ _, .int _ _, .int _ _]]⟩), (103, ⟨0, 6, [[.int _ _, .int _ _, .int _ _, .int _ _, .int _ _, .int _ _]]⟩)]) (h' := []) trivial rfl rfl rfl ?_
  refine W_seq ?_
  refine W_regV he rfl ?_
  refine v0 (sFP rfl rfl rfl) rfl ?_
  refine v0 (sLd rfl rfl) rfl ?_
  refine v0 (sFP rfl rfl rfl) rfl ?_
  refine v0 (sSt rfl rfl [] rfl rfl) rfl ?_
  refine ve ?_
  refine W2 [2, 3] [102, 103] [] (l := [(2, .c (.ptr _ _ _ _)), (3, .c (.ptr _ _ _ _))]) (h := [(102, ⟨0, 6, [[.int _ _, .int _ _, .int _ _, .int _ _, .int _ _, .int _ _]]⟩), (103, ⟨0, 6, [[.int _ _, .int _ _, .int _ _, .int _ _, .int _ _, .int _ _]]⟩)]) (h' := []) trivial rfl rfl rfl ?_
  refine W_seq ?_
  refine W_regV he rfl ?_
  refine v0 (sLd rfl rfl) rfl ?_
  refine v0 (sSt rfl rfl [] rfl rfl) rfl ?_
  refine ve ?_
  refine W2 [2] [102] [] (l := [(2, .c (.ptr _ _ _ _))]) (h := [(102, ⟨0, 6, [[.int _ _, .int _ _, .int _ _, .int _ _, .int _ _, .int _ _]]⟩)]) (h' := []) trivial rfl rfl rfl ?_
  obtain rfl := Option.some.inj h
  exact W_ret (r0 rfl rfl)
theorem ok_laws_toConf : FnOk Try.prog 47 := ⟨_, Try.func47, rfl, rfl⟩


/-! ### loop.example/g00499/laws.toByteS -/
def l_laws_toByteS_4 (K : Nat) (a0 : List Int) : Nat → Int → (List Int) → Option ((List Int))
  | 0, _, _ => none
  | n4 + 1, v2, v3 => (bif (decide (v2 < (a0.length : Int))) then (if (0 : Int) ≤ v2 ∧ v2 < (a0.length : Int) then (if (0 : Int) ≤ v2 ∧ v2 < (v3.length : Int) then (l_laws_toByteS_4 K a0 n4 (iAdd .i64 v2 1) (v3.set v2.toNat (gt a0 v2))) else none) else none) else some v3)
def m_laws_toByteS (K : Nat) (a0 : List Int) : Option ((List Int)) := (if (0 : Int) ≤ (a0.length : Int) ∧ (a0.length : Int) ≤ (a0.length : Int) ∧ (1 : Int) * (a0.length : Int) ≤ 281474976710656 ∧ (a0.length : Int) ≤ 9223372036854775807 then (l_laws_toByteS_4 K a0 K 0 (List.replicate (a0.length : Int).toNat 0)) else none)
set_option maxRecDepth 20000 in
set_option maxHeartbeats 8000000 in
theorem w_laws_toByteS (K : Nat) (a0 : List Int) (r : (List Int)) (h : m_laws_toByteS K a0 = some r) : Sp Try.prog 84 [.c (.row false 1 (a0.map en_u8))] [] (.c (.row false 1 (r.map en_u8))) [] := by
  refine Sp.of_W tabOk Try.func84 rfl rfl (Nat.le_of_ble_eq_true rfl) (Nat.le_of_ble_eq_true rfl) fun F hP hN hm => ?_
  obtain ⟨P, N, w0, σ0, β0, m⟩ := F
  obtain rfl : P = Try.prog := hP
  obtain rfl : N = 22 := hN
  obtain rfl : m = 1 := hm
  have he : Env ⟨Try.prog, 22, w0, σ0, β0, 1⟩ tab := ⟨Nat.le_of_ble_eq_true rfl, tabOk⟩
  unfold m_laws_toByteS at h
  refine W_seq ?_
  refine W_regV he rfl ?_
  refine v0 (sA rfl [1] rfl) rfl ?_
  refine ve ?_
  refine W2 [0] [] [] (l := [(0, .c (.row _ _ _))]) (h := []) (h' := []) trivial rfl rfl rfl ?_
  refine W_seq ?_
  refine W_regV he rfl ?_
  refine v0 (sM rfl [] rfl) rfl ?_
  refine v0 (sLm rfl rfl rfl rfl) rfl ?_
  refine chkc h ?_; clear h; intro c1 h
  refine v0 (sMkm rfl 1003 (f := en_u8) 0 rfl rfl rfl rfl rfl rfl rfl rfl rfl c1) rfl ?_
  refine v0 (sA rfl [] rfl) rfl ?_
  refine ve ?_
  refine W2 [0, 3] [] [1003] (l := [(0, .c (.row _ _ _)), (3, .c (.own _ _ _ _))]) (h := []) (h' := [(1003, ⟨0, 1, (List.replicate (a0.length : Int).toNat 0).map en_u8⟩)]) ⟨⟨_, rfl, enOk_u8.allClosed _ _ (List.replicate (a0.length : Int).toNat 0)⟩, trivial⟩ rfl rfl rfl ?_
  refine W_seq ?_
  refine W_seq ?_
  refine W_regV he rfl ?_
  refine v0 (sA rfl [] rfl) rfl ?_
  refine ve ?_
  refine W2 [0, 3, 4] [] [1003] (l := [(0, .c (.row _ _ _)), (3, .c (.own _ _ _ _)), (4, .c (.int _ _))]) (h := []) (h' := [(1003, ⟨0, 1, (List.replicate (a0.length : Int).toNat 0).map en_u8⟩)]) ⟨⟨_, rfl, enOk_u8.allClosed _ _ (List.replicate (a0.length : Int).toNat 0)⟩, trivial⟩ rfl rfl rfl ?_
  refine W_block ?_
  refine W2 [0, 3, 4] [] [1003] (l := [(0, .c (.row _ _ _)), (3, .c (.own _ _ _ _)), (4, .c (.int _ _))]) (h := []) (h' := [(1003, ⟨0, 1, (List.replicate (a0.length : Int).toNat 0).map en_u8⟩)]) ⟨⟨_, rfl, enOk_u8.allClosed _ _ (List.replicate (a0.length : Int).toNat 0)⟩, trivial⟩ rfl rfl rfl ?_
  refine W_loopW (fun n4 S => ∃ (v2 : Int), ∃ (v3 : List Int), S = StL [(0, .c (.row false 1 (a0.map en_u8))), (3, .c (.own 1003 0 0 v3.length)), (4, .c (.int .i64 v2))] ([] ++ [(1003, ⟨0, 1, v3.map en_u8⟩)]) ∧ l_laws_toByteS_4 K a0 n4 v2 v3 = some r) K ⟨_, _, rfl, h⟩ ?_
  rintro n4 S ⟨v2, v3, rfl, h⟩
  cases n4 with
  | zero => simp [l_laws_toByteS_4] at h
  | succ n4 =>
    rw [l_laws_toByteS_4] at h
    refine W_seq ?_
    refine W_seq ?_
    refine W_regV he rfl ?_
    refine v0 (sM rfl [] rfl) rfl ?_
    refine v0 (sM rfl [] rfl) rfl ?_
    refine v0 (sLm rfl rfl rfl rfl) rfl ?_
    refine vB (sBi rfl rfl rfl rfl) rfl rfl fun b5 hb5 => ?_
    cases b5 with
    | true =>
      replace h := brT hb5 h
      refine ve ?_
      refine W2 [0, 3, 4, 11] [] [1003] (l := [(0, .c (.row _ _ _)), (3, .c (.own _ _ _ _)), (4, .c (.int _ _)), (11, .c (.bool true))]) (h := []) (h' := [(1003, ⟨0, 1, v3.map en_u8⟩)]) ⟨⟨_, rfl, enOk_u8.allClosed _ _ v3⟩, trivial⟩ rfl rfl rfl ?_
      refine W_true rfl ?_
      refine W_skip ?_
      refine W_seq ?_
      refine W_block ?_
      refine W_regV he rfl ?_
      refine v0 (sM rfl [] rfl) rfl ?_
      refine v0 (sM rfl [] rfl) rfl ?_
      refine v0 (sM rfl [] rfl) rfl ?_
      refine v0 (sM rfl [] rfl) rfl ?_
      refine chkc h ?_; clear h; intro c6 h
      refine v0 (sIRm rfl rfl rfl rfl c6) rfl ?_
      refine v0 (sLI rfl rfl (en_u8 (gt a0 v2)) (gt_at _ c6) rfl rfl rfl) rfl ?_
      refine chkc h ?_; clear h; intro c7 h
      refine v0 (sIOm rfl rfl rfl c7) rfl ?_
      refine v0 (sSkm rfl rfl [] v3 (gt a0 v2) c7 rfl rfl rfl rfl rfl rfl rfl rfl rfl) rfl ?_
      refine ve ?_
      refine W.weak (wk_len 3 (n' := (v3.set v2.toNat (gt a0 v2)).length) (by simp only [List.length_set]) rfl) ?_
      refine W2 [0, 3, 4] [] [1003] (l := [(0, .c (.row _ _ _)), (3, .c (.own _ _ _ _)), (4, .c (.int _ _))]) (h := []) (h' := [(1003, ⟨0, 1, (v3.set v2.toNat (gt a0 v2)).map en_u8⟩)]) ⟨⟨_, rfl, enOk_u8.allClosed _ _ (v3.set v2.toNat (gt a0 v2))⟩, trivial⟩ rfl rfl rfl ?_
      refine W_regV he rfl ?_
      refine v0 (sM rfl [] rfl) rfl ?_
      refine v0 (sBi rfl rfl rfl rfl) rfl ?_
      refine v0 (sA rfl [] rfl) rfl ?_
      refine ve ?_
      exact ⟨n4, _, Nat.lt_succ_self n4, wk2 [0, 3, 4] [] [1003] (l := [(0, .c (.row _ _ _)), (3, .c (.own _ _ _ _)), (4, .c (.int _ _))]) (h := []) (h' := [(1003, ⟨0, 1, (v3.set v2.toNat (gt a0 v2)).map en_u8⟩)]) ⟨⟨_, rfl, enOk_u8.allClosed _ _ (v3.set v2.toNat (gt a0 v2))⟩, trivial⟩ rfl rfl rfl, _, _, rfl, h⟩
    | false =>
      replace h := brF hb5 h
      refine ve ?_
      refine W2 [0, 3, 4, 11] [] [1003] (l := [(0, .c (.row _ _ _)), (3, .c (.own _ _ _ _)), (4, .c (.int _ _)), (11, .c (.bool false))]) (h := []) (h' := [(1003, ⟨0, 1, v3.map en_u8⟩)]) ⟨⟨_, rfl, enOk_u8.allClosed _ _ v3⟩, trivial⟩ rfl rfl rfl ?_
      refine W_false rfl ?_
      refine W_exit (ex_then (ex_then (ex_hit ?_)))
      refine W_seq ?_
      refine W_regV he rfl ?_
      refine v0 (sM rfl [] rfl) rfl ?_
      refine v0 (sA rfl [] rfl) rfl ?_
      refine ve ?_
      refine W2 [2] [] [1003] (l := [(2, .c (.own _ _ _ _))]) (h := []) (h' := [(1003, ⟨0, 1, v3.map en_u8⟩)]) ⟨⟨_, rfl, enOk_u8.allClosed _ _ v3⟩, trivial⟩ rfl rfl rfl ?_
      obtain rfl := Option.some.inj h
      refine W.weak (wk_row (l := v3) 2 enOk_u8 rfl rfl) ?_
      exact W_ret (r0 rfl rfl)
theorem ok_laws_toByteS : FnOk Try.prog 84 := ⟨_, Try.func84, rfl, rfl⟩


/-! ### loop.example/g00499/laws.toIntS -/
def l_laws_toIntS_4 (K : Nat) (a0 : List Int) : Nat → Int → (List Int) → Option ((List Int))
  | 0, _, _ => none
  | n4 + 1, v2, v3 => (bif (decide (v2 < (a0.length : Int))) then (if (0 : Int) ≤ v2 ∧ v2 < (a0.length : Int) then (if (0 : Int) ≤ v2 ∧ v2 < (v3.length : Int) then (l_laws_toIntS_4 K a0 n4 (iAdd .i64 v2 1) (v3.set v2.toNat (gt a0 v2))) else none) else none) else some v3)
def m_laws_toIntS (K : Nat) (a0 : List Int) : Option ((List Int)) := (if (0 : Int) ≤ (a0.length : Int) ∧ (a0.length : Int) ≤ (a0.length : Int) ∧ (8 : Int) * (a0.length : Int) ≤ 281474976710656 ∧ (a0.length : Int) ≤ 9223372036854775807 then (l_laws_toIntS_4 K a0 K 0 (List.replicate (a0.length : Int).toNat 0)) else none)
set_option maxRecDepth 20000 in
set_option maxHeartbeats 8000000 in
theorem w_laws_toIntS (K : Nat) (a0 : List Int) (r : (List Int)) (h : m_laws_toIntS K a0 = some r) : Sp Try.prog 51 [.c (.row false 1 (a0.map en_i64))] [] (.c (.row false 1 (r.map en_i64))) [] := by
  refine Sp.of_W tabOk Try.func51 rfl rfl (Nat.le_of_ble_eq_true rfl) (Nat.le_of_ble_eq_true rfl) fun F hP hN hm => ?_
  obtain ⟨P, N, w0, σ0, β0, m⟩ := F
  obtain rfl : P = Try.prog := hP
  obtain rfl : N = 22 := hN
  obtain rfl : m = 1 := hm
  have he : Env ⟨Try.prog, 22, w0, σ0, β0, 1⟩ tab := ⟨Nat.le_of_ble_eq_true rfl, tabOk⟩
  unfold m_laws_toIntS at h
  refine W_seq ?_
  refine W_regV he rfl ?_
  refine v0 (sA rfl [1] rfl) rfl ?_
  refine ve ?_
  refine W2 [0] [] [] (l := [(0, .c (.row _ _ _))]) (h := []) (h' := []) trivial rfl rfl rfl ?_
  refine W_seq ?_
  refine W_regV he rfl ?_
  refine v0 (sM rfl [] rfl) rfl ?_
  refine v0 (sLm rfl rfl rfl rfl) rfl ?_
  refine chkc h ?_; clear h; intro c1 h
  refine v0 (sMkm rfl 1003 (f := en_i64) 0 rfl rfl rfl rfl rfl rfl rfl rfl rfl c1) rfl ?_
  refine v0 (sA rfl [] rfl) rfl ?_
  refine ve ?_
  refine W2 [0, 3] [] [1003] (l := [(0, .c (.row _ _ _)), (3, .c (.own _ _ _ _))]) (h := []) (h' := [(1003, ⟨0, 1, (List.replicate (a0.length : Int).toNat 0).map en_i64⟩)]) ⟨⟨_, rfl, enOk_i64.allClosed _ _ (List.replicate (a0.length : Int).toNat 0)⟩, trivial⟩ rfl rfl rfl ?_
  refine W_seq ?_
  refine W_seq ?_
  refine W_regV he rfl ?_
  refine v0 (sA rfl [] rfl) rfl ?_
  refine ve ?_
  refine W2 [0, 3, 4] [] [1003] (l := [(0, .c (.row _ _ _)), (3, .c (.own _ _ _ _)), (4, .c (.int _ _))]) (h := []) (h' := [(1003, ⟨0, 1, (List.replicate (a0.length : Int).toNat 0).map en_i64⟩)]) ⟨⟨_, rfl, enOk_i64.allClosed _ _ (List.replicate (a0.length : Int).toNat 0)⟩, trivial⟩ rfl rfl rfl ?_
  refine W_block ?_
  refine W2 [0, 3, 4] [] [1003] (l := [(0, .c (.row _ _ _)), (3, .c (.own _ _ _ _)), (4, .c (.int _ _))]) (h := []) (h' := [(1003, ⟨0, 1, (List.replicate (a0.length : Int).toNat 0).map en_i64⟩)]) ⟨⟨_, rfl, enOk_i64.allClosed _ _ (List.replicate (a0.length : Int).toNat 0)⟩, trivial⟩ rfl rfl rfl ?_
  refine W_loopW (fun n4 S => ∃ (v2 : Int), ∃ (v3 : List Int), S = StL [(0, .c (.row false 1 (a0.map en_i64))), (3, .c (.own 1003 0 0 v3.length)), (4, .c (.int .i64 v2))] ([] ++ [(1003, ⟨0, 1, v3.map en_i64⟩)]) ∧ l_laws_toIntS_4 K a0 n4 v2 v3 = some r) K ⟨_, _, rfl, h⟩ ?_
  rintro n4 S ⟨v2, v3, rfl, h⟩
  cases n4 with
  | zero => simp [l_laws_toIntS_4] at h
  | succ n4 =>
    rw [l_laws_toIntS_4] at h
    refine W_seq ?_
    refine W_seq ?_
    refine W_regV he rfl ?_
    refine v0 (sM rfl [] rfl) rfl ?_
    refine v0 (sM rfl [] rfl) rfl ?_
    refine v0 (sLm rfl rfl rfl rfl) rfl ?_
    refine vB (sBi rfl rfl rfl rfl) rfl rfl fun b5 hb5 => ?_
    cases b5 with
    | true =>
      replace h := brT hb5 h
      refine ve ?_
      refine W2 [0, 3, 4, 11] [] [1003] (l := [(0, .c (.row _ _ _)), (3, .c (.own _ _ _ _)), (4, .c (.int _ _)), (11, .c (.bool true))]) (h := []) (h' := [(1003, ⟨0, 1, v3.map en_i64⟩)]) ⟨⟨_, rfl, enOk_i64.allClosed _ _ v3⟩, trivial⟩ rfl rfl rfl ?_
      refine W_true rfl ?_
      refine W_skip ?_
      refine W_seq ?_
      refine W_block ?_
      refine W_regV he rfl ?_
      refine v0 (sM rfl [] rfl) rfl ?_
      refine v0 (sM rfl [] rfl) rfl ?_
      refine v0 (sM rfl [] rfl) rfl ?_
      refine v0 (sM rfl [] rfl) rfl ?_
      refine chkc h ?_; clear h; intro c6 h
      refine v0 (sIRm rfl rfl rfl rfl c6) rfl ?_
      refine v0 (sLI rfl rfl (en_i64 (gt a0 v2)) (gt_at _ c6) rfl rfl rfl) rfl ?_
      refine chkc h ?_; clear h; intro c7 h
      refine v0 (sIOm rfl rfl rfl c7) rfl ?_
      refine v0 (sSkm rfl rfl [] v3 (gt a0 v2) c7 rfl rfl rfl rfl rfl rfl rfl rfl rfl) rfl ?_
      refine ve ?_
      refine W.weak (wk_len 3 (n' := (v3.set v2.toNat (gt a0 v2)).length) (by simp only [List.length_set]) rfl) ?_
      refine W2 [0, 3, 4] [] [1003] (l := [(0, .c (.row _ _ _)), (3, .c (.own _ _ _ _)), (4, .c (.int _ _))]) (h := []) (h' := [(1003, ⟨0, 1, (v3.set v2.toNat (gt a0 v2)).map en_i64⟩)]) ⟨⟨_, rfl, enOk_i64.allClosed _ _ (v3.set v2.toNat (gt a0 v2))⟩, trivial⟩ rfl rfl rfl ?_
      refine W_regV he rfl ?_
      refine v0 (sM rfl [] rfl) rfl ?_
      refine v0 (sBi rfl rfl rfl rfl) rfl ?_
      refine v0 (sA rfl [] rfl) rfl ?_
      refine ve ?_
      exact ⟨n4, _, Nat.lt_succ_self n4, wk2 [0, 3, 4] [] [1003] (l := [(0, .c (.row _ _ _)), (3, .c (.own _ _ _ _)), (4, .c (.int _ _))]) (h := []) (h' := [(1003, ⟨0, 1, (v3.set v2.toNat (gt a0 v2)).map en_i64⟩)]) ⟨⟨_, rfl, enOk_i64.allClosed _ _ (v3.set v2.toNat (gt a0 v2))⟩, trivial⟩ rfl rfl rfl, _, _, rfl, h⟩
    | false =>
      replace h := brF hb5 h
      refine ve ?_
      refine W2 [0, 3, 4, 11] [] [1003] (l := [(0, .c (.row _ _ _)), (3, .c (.own _ _ _ _)), (4, .c (.int _ _)), (11, .c (.bool false))]) (h := []) (h' := [(1003, ⟨0, 1, v3.map en_i64⟩)]) ⟨⟨_, rfl, enOk_i64.allClosed _ _ v3⟩, trivial⟩ rfl rfl rfl ?_
      refine W_false rfl ?_
      refine W_exit (ex_then (ex_then (ex_hit ?_)))
      refine W_seq ?_
      refine W_regV he rfl ?_
      refine v0 (sM rfl [] rfl) rfl ?_
      refine v0 (sA rfl [] rfl) rfl ?_
      refine ve ?_
      refine W2 [2] [] [1003] (l := [(2, .c (.own _ _ _ _))]) (h := []) (h' := [(1003, ⟨0, 1, v3.map en_i64⟩)]) ⟨⟨_, rfl, enOk_i64.allClosed _ _ v3⟩, trivial⟩ rfl rfl rfl ?_
      obtain rfl := Option.some.inj h
      refine W.weak (wk_row (l := v3) 2 enOk_i64 rfl rfl) ?_
      exact W_ret (r0 rfl rfl)
theorem ok_laws_toIntS : FnOk Try.prog 51 := ⟨_, Try.func51, rfl, rfl⟩


/-! ### loop.example/g00499/laws.toPool -/
def m_laws_toPool (K : Nat) (a0 : T_laws_Pool) : Option (T_impl_Pool) := ((m_laws_toByteS K a0.fMem).bind fun r1 => ((m_laws_toIntS K a0.fSt).bind fun r2 => ((m_laws_toIntS K a0.fOwn).bind fun r3 => some (T_impl_Pool.mk r1 r2 r3))))
set_option maxRecDepth 20000 in
set_option maxHeartbeats 8000000 in
theorem w_laws_toPool (K : Nat) (a0 : T_laws_Pool) (r : T_impl_Pool) (h : m_laws_toPool K a0 = some r) : Sp Try.prog 48 [.g [.row false 1 (a0.fMem.map en_u8), .row false 1 (a0.fSt.map en_i64), .row false 1 (a0.fOwn.map en_i64)]] [] (.g [.row false 1 (r.fMem.map en_u8), .row false 1 (r.fSt.map en_i64), .row false 1 (r.fOwn.map en_i64)]) [] := by
  refine Sp.of_W tabOk Try.func48 rfl rfl (Nat.le_of_ble_eq_true rfl) (Nat.le_of_ble_eq_true rfl) fun F hP hN hm => ?_
  obtain ⟨P, N, w0, σ0, β0, m⟩ := F
  obtain rfl : P = Try.prog := hP
  obtain rfl : N = 17 := hN
  obtain rfl : m = 1 := hm
  have he : Env ⟨Try.prog, 17, w0, σ0, β0, 1⟩ tab := ⟨Nat.le_of_ble_eq_true rfl, tabOk⟩
  unfold m_laws_toPool at h
  refine W_seq ?_
  refine W_regV he rfl ?_
  refine v0 (sBx rfl [] rfl rfl 101 rfl) rfl ?_
  refine v0 (sAl rfl rfl 102 rfl) rfl ?_
  refine ve ?_
  refine W2 [1, 2] [101, 102] [] (l := [(1, .c (.ptr _ _ _ _)), (2, .c (.ptr _ _ _ _))]) (h := [(101, ⟨0, 3, [[.row _ _ _, .row _ _ _, .row _ _ _]]⟩), (102, ⟨0, 3, [[.row _ _ _, .row _ _ _, .row _ _ _]]⟩)]) (h' := []) trivial rfl rfl rfl ?_
  refine W_seq ?_
  refine W_regV he rfl ?_
  refine v0 (sAl rfl rfl 103 rfl) rfl ?_
  refine ve ?_
  refine W2 [1, 2, 3] [101, 102, 103] [] (l := [(1, .c (.ptr _ _ _ _)), (2, .c (.ptr _ _ _ _)), (3, .c (.ptr _ _ _ _))]) (h := [(101, ⟨0, 3, [[.row _ _ _, .row _ _ _, .row _ _ _]]⟩), (102, ⟨0, 3, [[.row _ _ _, .row _ _ _, .row _ _ _]]⟩), (103, ⟨0, 3, [[.row _ _ _, .row _ _ _, .row _ _ _]]⟩)]) (h' := []) trivial rfl rfl rfl ?_
  refine W_seq ?_
  refine W_regV he rfl ?_
  refine v0 (sFP rfl rfl rfl) rfl ?_
  refine v0 (sLd rfl rfl) rfl ?_
  refine bndc h ?_; clear h; intro r1 hr1 h
  refine v0 (sCm (w_laws_toByteS K a0.fMem _ hr1) ok_laws_toByteS rfl rfl rfl rfl) rfl ?_
  refine v0 (sFP rfl rfl rfl) rfl ?_
  refine v0 (sSt rfl rfl [] rfl rfl) rfl ?_
  refine ve ?_
  refine W2 [1, 2, 3] [101, 102, 103] [] (l := [(1, .c (.ptr _ _ _ _)), (2, .c (.ptr _ _ _ _)), (3, .c (.ptr _ _ _ _))]) (h := [(101, ⟨0, 3, [[.row _ _ _, .row _ _ _, .row _ _ _]]⟩), (102, ⟨0, 3, [[.row _ _ _, .row _ _ _, .row _ _ _]]⟩), (103, ⟨0, 3, [[.row _ _ _, .row _ _ _, .row _ _ _]]⟩)]) (h' := []) trivial rfl rfl rfl ?_
  refine W_seq ?_
  refine W_regV he rfl ?_
  refine v0 (sFP rfl rfl rfl) rfl ?_
  refine v0 (sLd rfl rfl) rfl ?_
  refine bndc h ?_; clear h; intro r2 hr2 h
  refine v0 (sCm (w_laws_toIntS K a0.fSt _ hr2) ok_laws_toIntS rfl rfl rfl rfl) rfl ?_
  refine v0 (sFP rfl rfl rfl) rfl ?_
  refine v0 (sSt rfl rfl [] rfl rfl) rfl ?_
  refine ve ?_
  refine W2 [1, 2, 3] [101, 102, 103] [] (l := [(1, .c (.ptr _ _ _ _)), (2, .c (.ptr _ _ _ _)), (3, .c (.ptr _ _ _ _))]) (h := [(101, ⟨0, 3, [[.row _ _ _, .row _ _ _, .row _ _ _]]⟩), (102, ⟨0, 3, [[.row _ _ _, .row _ _ _, .row _ _ _]]⟩), (103, ⟨0, 3, [[.row _ _ _, .row _ _ _, .row _ _ _]]⟩)]) (h' := []) trivial rfl rfl rfl ?_
  refine W_seq ?_
  refine W_regV he rfl ?_
  refine v0 (sFP rfl rfl rfl) rfl ?_
  refine v0 (sLd rfl rfl) rfl ?_
  refine bndc h ?_; clear h; intro r3 hr3 h
  refine v0 (sCm (w_laws_toIntS K a0.fOwn _ hr3) ok_laws_toIntS rfl rfl rfl rfl) rfl ?_
  refine v0 (sFP rfl rfl rfl) rfl ?_
  refine v0 (sSt rfl rfl [] rfl rfl) rfl ?_
  refine ve ?_
  refine W2 [2, 3] [102, 103] [] (l := [(2, .c (.ptr _ _ _ _)), (3, .c (.ptr _ _ _ _))]) (h := [(102, ⟨0, 3, [[.row _ _ _, .row _ _ _, .row _ _ _]]⟩), (103, ⟨0, 3, [[.row _ _ _, .row _ _ _, .row _ _ _]]⟩)]) (h' := []) trivial rfl rfl rfl ?_
  refine W_seq ?_
  refine W_regV he rfl ?_
  refine v0 (sLd rfl rfl) rfl ?_
  refine v0 (sSt rfl rfl [] rfl rfl) rfl ?_
  refine ve ?_
  refine W2 [2] [102] [] (l := [(2, .c (.ptr _ _ _ _))]) (h := [(102, ⟨0, 3, [[.row _ _ _, .row _ _ _, .row _ _ _]]⟩)]) (h' := []) trivial rfl rfl rfl ?_
  obtain rfl := Option.some.inj h
  exact W_ret (r0 rfl rfl)
theorem ok_laws_toPool : FnOk Try.prog 48 := ⟨_, Try.func48, rfl, rfl⟩


/-! ### loop.example/g00499/laws.toThing -/
def m_laws_toThing (K : Nat) (a0 : T_laws_Thing) : Option (T_impl_Thing) := some (T_impl_Thing.mk a0.fAt a0.fLen a0.fRun)
set_option maxRecDepth 20000 in
set_option maxHeartbeats 8000000 in
theorem w_laws_toThing (K : Nat) (a0 : T_laws_Thing) (r : T_impl_Thing) (h : m_laws_toThing K a0 = some r) : Sp Try.prog 120 [.g [.int .i64 a0.fAt, .int .i64 a0.fLen, .int .i64 a0.fRun]] [] (.g [.int .i64 r.fAt, .int .i64 r.fLen, .int .i64 r.fRun]) [] := by
  refine Sp.of_W tabOk Try.func120 rfl rfl (Nat.le_of_ble_eq_true rfl) (Nat.le_of_ble_eq_true rfl) fun F hP hN hm => ?_
  obtain ⟨P, N, w0, σ0, β0, m⟩ := F
  obtain rfl : P = Try.prog := hP
  obtain rfl : N = 14 := hN
  obtain rfl : m = 1 := hm
  have he : Env ⟨Try.prog, 14, w0, σ0, β0, 1⟩ tab := ⟨Nat.le_of_ble_eq_true rfl, tabOk⟩
  unfold m_laws_toThing at h
  refine W_seq ?_
  refine W_regV he rfl ?_
  refine v0 (sBx rfl [] rfl rfl 101 rfl) rfl ?_
  refine v0 (sAl rfl rfl 102 rfl) rfl ?_
  refine ve ?_
  refine W2 [1, 2] [101, 102] [] (l := [(1, .c (.ptr _ _ _ _)), (2, .c (.ptr _ _ _ _))]) (h := [(101, ⟨0, 3, [[.int _ _, .int _ _, .int _ _]]⟩), (102, ⟨0, 3, [[.int _ _, .int _ _, .int _ _]]⟩)]) (h' := []) trivial rfl rfl rfl ?_
  refine W_seq ?_
  refine W_regV he rfl ?_
  refine v0 (sAl rfl rfl 103 rfl) rfl ?_
  refine ve ?_
  refine W2 [1, 2, 3] [101, 102, 103] [] (l := [(1, .c (.ptr _ _ _ _)), (2, .c (.ptr _ _ _ _)), (3, .c (.ptr _ _ _ _))]) (h := [(101, ⟨0, 3, [[.int _ _, .int _ _, .int _ _]]⟩), (102, ⟨0, 3, [[.int _ _, .int _ _, .int _ _]]⟩), (103, ⟨0, 3, [[.int _ _, .int _ _, .int _ _]]⟩)]) (h' := []) trivial rfl rfl rfl ?_
  refine W_seq ?_
  refine W_regV he rfl ?_
  refine v0 (sFP rfl rfl rfl) rfl ?_
  refine v0 (sLd rfl rfl) rfl ?_
  refine v0 (sFP rfl rfl rfl) rfl ?_
  refine v0 (sSt rfl rfl [] rfl rfl) rfl ?_
  refine ve ?_
  refine W2 [1, 2, 3] [101, 102, 103] [] (l := [(1, .c (.ptr _ _ _ _)), (2, .c (.ptr _ _ _ _)), (3, .c (.ptr _ _ _ _))]) (h := [(101, ⟨0, 3, [[.int _ _, .int _ _, .int _ _]]⟩), (102, ⟨0, 3, [[.int _ _, .int _ _, .int _ _]]⟩), (103, ⟨0, 3, [[.int _ _, .int _ _, .int _ _]]⟩)]) (h' := []) trivial rfl rfl rfl ?_
  refine W_seq ?_
  refine W_regV he rfl ?_
  refine v0 (sFP rfl rfl rfl) rfl ?_
  refine v0 (sLd rfl rfl) rfl ?_
  refine v0 (sFP rfl rfl rfl) rfl ?_
  refine v0 (sSt rfl rfl [] rfl rfl) rfl ?_
  refine ve ?_
  refine W2 [1, 2, 3] [101, 102, 103] [] (l := [(1, .c (.ptr _ _ _ _)), (2, .c (.ptr _ _ _ _)), (3, .c (.ptr _ _ _ _))]) (h := [(101, ⟨0, 3, [[.int _ _, .int _ _, .int _ _]]⟩), (102, ⟨0, 3, [[.int _ _, .int _ _, .int _ _]]⟩), (103, ⟨0, 3, [[.int _ _, .int _ _, .int _ _]]⟩)]) (h' := []) trivial rfl rfl rfl ?_
  refine W_seq ?_
  refine W_regV he rfl ?_
  refine v0 (sFP rfl rfl rfl) rfl ?_
  refine v0 (sLd rfl rfl) rfl ?_
  refine v0 (sFP rfl rfl rfl) rfl ?_
  refine v0 (sSt rfl rfl [] rfl rfl) rfl ?_
  refine ve ?_
  refine W2 [2, 3] [102, 103] [] (l := [(2, .c (.ptr _ _ _ _)), (3, .c (.ptr _ _ _ _))]) (h := [(102, ⟨0, 3, [[.int _ _, .int _ _, .int _ _]]⟩), (103, ⟨0, 3, [[.int _ _, .int _ _, .int _ _]]⟩)]) (h' := []) trivial rfl rfl rfl ?_
  refine W_seq ?_
  refine W_regV he rfl ?_
  refine v0 (sLd rfl rfl) rfl ?_
  refine v0 (sSt rfl rfl [] rfl rfl) rfl ?_
  refine ve ?_
  refine W2 [2] [102] [] (l := [(2, .c (.ptr _ _ _ _))]) (h := [(102, ⟨0, 3, [[.int _ _, .int _ _, .int _ _]]⟩)]) (h' := []) trivial rfl rfl rfl ?_
  obtain rfl := Option.some.inj h
  exact W_ret (r0 rfl rfl)
theorem ok_laws_toThing : FnOk Try.prog 120 := ⟨_, Try.func120, rfl, rfl⟩


/-! ### loop.example/g00499/laws.toThingS -/
def l_laws_toThingS_4 (K : Nat) (a0 : List T_laws_Thing) : Nat → Int → (List T_impl_Thing) → Option ((List T_impl_Thing))
  | 0, _, _ => none
  | n4 + 1, v2, v3 => (bif (decide (v2 < (a0.length : Int))) then (if (0 : Int) ≤ v2 ∧ v2 < (a0.length : Int) then ((m_laws_toThing K (gt a0 v2)).bind fun r7 => (if (0 : Int) ≤ v2 ∧ v2 < (v3.length : Int) then (l_laws_toThingS_4 K a0 n4 (iAdd .i64 v2 1) (v3.set v2.toNat r7)) else none)) else none) else some v3)
def m_laws_toThingS (K : Nat) (a0 : List T_laws_Thing) : Option ((List T_impl_Thing)) := (if (0 : Int) ≤ (a0.length : Int) ∧ (a0.length : Int) ≤ (a0.length : Int) ∧ (24 : Int) * (a0.length : Int) ≤ 281474976710656 ∧ (a0.length : Int) ≤ 9223372036854775807 then (l_laws_toThingS_4 K a0 K 0 (List.replicate (a0.length : Int).toNat (T_impl_Thing.mk 0 0 0))) else none)
set_option maxRecDepth 20000 in
set_option maxHeartbeats 8000000 in
theorem w_laws_toThingS (K : Nat) (a0 : List T_laws_Thing) (r : (List T_impl_Thing)) (h : m_laws_toThingS K a0 = some r) : Sp Try.prog 113 [.c (.row false 3 (a0.map en_laws_Thing))] [] (.c (.row false 3 (r.map en_impl_Thing))) [] := by
  refine Sp.of_W tabOk Try.func113 rfl rfl (Nat.le_of_ble_eq_true rfl) (Nat.le_of_ble_eq_true rfl) fun F hP hN hm => ?_
  obtain ⟨P, N, w0, σ0, β0, m⟩ := F
  obtain rfl : P = Try.prog := hP
  obtain rfl : N = 23 := hN
  obtain rfl : m = 1 := hm
  have he : Env ⟨Try.prog, 23, w0, σ0, β0, 1⟩ tab := ⟨Nat.le_of_ble_eq_true rfl, tabOk⟩
  unfold m_laws_toThingS at h
  refine W_seq ?_
  refine W_regV he rfl ?_
  refine v0 (sA rfl [3] rfl) rfl ?_
  refine ve ?_
  refine W2 [0] [] [] (l := [(0, .c (.row _ _ _))]) (h := []) (h' := []) trivial rfl rfl rfl ?_
  refine W_seq ?_
  refine W_regV he rfl ?_
  refine v0 (sM rfl [] rfl) rfl ?_
  refine v0 (sLm rfl rfl rfl rfl) rfl ?_
  refine chkc h ?_; clear h; intro c1 h
  refine v0 (sMkm rfl 1003 (f := en_impl_Thing) (T_impl_Thing.mk 0 0 0) rfl rfl rfl rfl rfl rfl rfl rfl rfl c1) rfl ?_
  refine v0 (sA rfl [] rfl) rfl ?_
  refine ve ?_
  refine W2 [0, 3] [] [1003] (l := [(0, .c (.row _ _ _)), (3, .c (.own _ _ _ _))]) (h := []) (h' := [(1003, ⟨0, 3, (List.replicate (a0.length : Int).toNat (T_impl_Thing.mk 0 0 0)).map en_impl_Thing⟩)]) ⟨⟨_, rfl, enOk_impl_Thing.allClosed _ _ (List.replicate (a0.length : Int).toNat (T_impl_Thing.mk 0 0 0))⟩, trivial⟩ rfl rfl rfl ?_
  refine W_seq ?_
  refine W_seq ?_
  refine W_regV he rfl ?_
  refine v0 (sA rfl [] rfl) rfl ?_
  refine ve ?_
  refine W2 [0, 3, 4] [] [1003] (l := [(0, .c (.row _ _ _)), (3, .c (.own _ _ _ _)), (4, .c (.int _ _))]) (h := []) (h' := [(1003, ⟨0, 3, (List.replicate (a0.length : Int).toNat (T_impl_Thing.mk 0 0 0)).map en_impl_Thing⟩)]) ⟨⟨_, rfl, enOk_impl_Thing.allClosed _ _ (List.replicate (a0.length : Int).toNat (T_impl_Thing.mk 0 0 0))⟩, trivial⟩ rfl rfl rfl ?_
  refine W_block ?_
  refine W2 [0, 3, 4] [] [1003] (l := [(0, .c (.row _ _ _)), (3, .c (.own _ _ _ _)), (4, .c (.int _ _))]) (h := []) (h' := [(1003, ⟨0, 3, (List.replicate (a0.length : Int).toNat (T_impl_Thing.mk 0 0 0)).map en_impl_Thing⟩)]) ⟨⟨_, rfl, enOk_impl_Thing.allClosed _ _ (List.replicate (a0.length : Int).toNat (T_impl_Thing.mk 0 0 0))⟩, trivial⟩ rfl rfl rfl ?_
  refine W_loopW (fun n4 S => ∃ (v2 : Int), ∃ (v3 : List T_impl_Thing), S = StL [(0, .c (.row false 3 (a0.map en_laws_Thing))), (3, .c (.own 1003 0 0 v3.length)), (4, .c (.int .i64 v2))] ([] ++ [(1003, ⟨0, 3, v3.map en_impl_Thing⟩)]) ∧ l_laws_toThingS_4 K a0 n4 v2 v3 = some r) K ⟨_, _, rfl, h⟩ ?_
  rintro n4 S ⟨v2, v3, rfl, h⟩
  cases n4 with
  | zero => simp [l_laws_toThingS_4] at h
  | succ n4 =>
    rw [l_laws_toThingS_4] at h
    refine W_seq ?_
    refine W_seq ?_
    refine W_regV he rfl ?_
    refine v0 (sM rfl [] rfl) rfl ?_
    refine v0 (sM rfl [] rfl) rfl ?_
    refine v0 (sLm rfl rfl rfl rfl) rfl ?_
    refine vB (sBi rfl rfl rfl rfl) rfl rfl fun b5 hb5 => ?_
    cases b5 with
    | true =>
      replace h := brT hb5 h
      refine ve ?_
      refine W2 [0, 3, 4, 11] [] [1003] (l := [(0, .c (.row _ _ _)), (3, .c (.own _ _ _ _)), (4, .c (.int _ _)), (11, .c (.bool true))]) (h := []) (h' := [(1003, ⟨0, 3, v3.map en_impl_Thing⟩)]) ⟨⟨_, rfl, enOk_impl_Thing.allClosed _ _ v3⟩, trivial⟩ rfl rfl rfl ?_
      refine W_true rfl ?_
      refine W_skip ?_
      refine W_seq ?_
      refine W_block ?_
      refine W_regV he rfl ?_
      refine v0 (sM rfl [] rfl) rfl ?_
      refine v0 (sM rfl [] rfl) rfl ?_
      refine v0 (sM rfl [] rfl) rfl ?_
      refine v0 (sM rfl [] rfl) rfl ?_
      refine chkc h ?_; clear h; intro c6 h
      refine v0 (sIRm rfl rfl rfl rfl c6) rfl ?_
      refine v0 (sLI rfl rfl (en_laws_Thing (gt a0 v2)) (gt_at _ c6) rfl rfl rfl) rfl ?_
      refine bndc h ?_; clear h; intro r7 hr7 h
      refine v0 (sCm (w_laws_toThing K (gt a0 v2) _ hr7) ok_laws_toThing rfl rfl rfl rfl) rfl ?_
      refine chkc h ?_; clear h; intro c8 h
      refine v0 (sIOm rfl rfl rfl c8) rfl ?_
      refine v0 (sSkm rfl rfl [] v3 r7 c8 rfl rfl rfl rfl rfl rfl rfl rfl rfl) rfl ?_
      refine ve ?_
      refine W.weak (wk_len 3 (n' := (v3.set v2.toNat r7).length) (by simp only [List.length_set]) rfl) ?_
      refine W2 [0, 3, 4] [] [1003] (l := [(0, .c (.row _ _ _)), (3, .c (.own _ _ _ _)), (4, .c (.int _ _))]) (h := []) (h' := [(1003, ⟨0, 3, (v3.set v2.toNat r7).map en_impl_Thing⟩)]) ⟨⟨_, rfl, enOk_impl_Thing.allClosed _ _ (v3.set v2.toNat r7)⟩, trivial⟩ rfl rfl rfl ?_
      refine W_regV he rfl ?_
      refine v0 (sM rfl [] rfl) rfl ?_
      refine v0 (sBi rfl rfl rfl rfl) rfl ?_
      refine v0 (sA rfl [] rfl) rfl ?_
      refine ve ?_
      exact ⟨n4, _, Nat.lt_succ_self n4, wk2 [0, 3, 4] [] [1003] (l := [(0, .c (.row _ _ _)), (3, .c (.own _ _ _ _)), (4, .c (.int _ _))]) (h := []) (h' := [(1003, ⟨0, 3, (v3.set v2.toNat r7).map en_impl_Thing⟩)]) ⟨⟨_, rfl, enOk_impl_Thing.allClosed _ _ (v3.set v2.toNat r7)⟩, trivial⟩ rfl rfl rfl, _, _, rfl, h⟩
    | false =>
      replace h := brF hb5 h
      refine ve ?_
      refine W2 [0, 3, 4, 11] [] [1003] (l := [(0, .c (.row _ _ _)), (3, .c (.own _ _ _ _)), (4, .c (.int _ _)), (11, .c (.bool false))]) (h := []) (h' := [(1003, ⟨0, 3, v3.map en_impl_Thing⟩)]) ⟨⟨_, rfl, enOk_impl_Thing.allClosed _ _ v3⟩, trivial⟩ rfl rfl rfl ?_
      refine W_false rfl ?_
      refine W_exit (ex_then (ex_then (ex_hit ?_)))
      refine W_seq ?_
      refine W_regV he rfl ?_
      refine v0 (sM rfl [] rfl) rfl ?_
      refine v0 (sA rfl [] rfl) rfl ?_
      refine ve ?_
      refine W2 [2] [] [1003] (l := [(2, .c (.own _ _ _ _))]) (h := []) (h' := [(1003, ⟨0, 3, v3.map en_impl_Thing⟩)]) ⟨⟨_, rfl, enOk_impl_Thing.allClosed _ _ v3⟩, trivial⟩ rfl rfl rfl ?_
      obtain rfl := Option.some.inj h
      refine W.weak (wk_row (l := v3) 2 enOk_impl_Thing rfl rfl) ?_
      exact W_ret (r0 rfl rfl)
theorem ok_laws_toThingS : FnOk Try.prog 113 := ⟨_, Try.func113, rfl, rfl⟩


/-! ### loop.example/g00499/laws.toNode -/
def m_laws_toNode (K : Nat) (a0 : T_laws_Node) : Option (T_impl_Node) := ((m_laws_toIntS K a0.fChunks).bind fun r1 => ((m_laws_toThingS K a0.fThings).bind fun r2 => ((m_laws_toIntS K a0.fTags).bind fun r3 => some (T_impl_Node.mk a0.fSt a0.fGen a0.fEp a0.fUp a0.fUpEp a0.fFirst a0.fNext a0.fPrev r1 a0.fCur a0.fBump r2 r3))))
set_option maxRecDepth 20000 in
set_option maxHeartbeats 8000000 in
theorem w_laws_toNode (K : Nat) (a0 : T_laws_Node) (r : T_impl_Node) (h : m_laws_toNode K a0 = some r) : Sp Try.prog 85 [.g [.int .i64 a0.fSt, .int .i64 a0.fGen, .int .i64 a0.fEp, .int .i64 a0.fUp, .int .i64 a0.fUpEp, .int .i64 a0.fFirst, .int .i64 a0.fNext, .int .i64 a0.fPrev, .row false 1 (a0.fChunks.map en_i64), .int .i64 a0.fCur, .int .i64 a0.fBump, .row false 3 (a0.fThings.map en_laws_Thing), .row false 1 (a0.fTags.map en_i64)]] [] (.g [.int .i64 r.fSt, .int .i64 r.fGen, .int .i64 r.fEp, .int .i64 r.fUp, .int .i64 r.fUpEp, .int .i64 r.fFirst, .int .i64 r.fNext, .int .i64 r.fPrev, .row false 1 (r.fChunks.map en_i64), .int .i64 r.fCur, .int .i64 r.fBump, .row false 3 (r.fThings.map en_impl_Thing), .row false 1 (r.fTags.map en_i64)]) [] := by
  refine Sp.of_W tabOk Try.func85 rfl rfl (Nat.le_of_ble_eq_true rfl) (Nat.le_of_ble_eq_true rfl) fun F hP hN hm => ?_
  obtain ⟨P, N, w0, σ0, β0, m⟩ := F
  obtain rfl : P = Try.prog := hP
  obtain rfl : N = 47 := hN
  obtain rfl : m = 1 := hm
  have he : Env ⟨Try.prog, 47, w0, σ0, β0, 1⟩ tab := ⟨Nat.le_of_ble_eq_true rfl, tabOk⟩
  unfold m_laws_toNode at h
  refine W_seq ?_
  refine W_regV he rfl ?_
  refine v0 (sBx rfl [] rfl rfl 101 rfl) rfl ?_
  refine v0 (sAl rfl rfl 102 rfl) rfl ?_
  refine ve ?_
  refine W2 [1, 2] [101, 102] [] (l := [(1, .c (.ptr _ _ _ _)), (2, .c (.ptr _ _ _ _))]) (h := [(101, ⟨0, 13, [[.int _ _, .int _ _, .int _ _, .int _ _, .int _ _, .int _ _, .int _ _, .int _ _, .row _ _ _, .int _ _, .int _ _, .row _ _ _, .row _ _ _]]⟩), (102, ⟨0, 13, [[.int _ _, .int _ _, .int _ _, .int _ _, .int _ _, .int _ _, .int _ _, .int _ _, .row _ _ _, .int _ _, .int _ _, .row _ _ _, .row _ _ _]]⟩)]) (h' := []) trivial rfl rfl rfl ?_
  refine W_seq ?_
  refine W_regV he rfl ?_
  refine v0 (sAl rfl rfl 103 rfl) rfl ?_
  refine ve ?_
  refine W2 [1, 2, 3] [101, 102, 103] [] (l := [(1, .c (.ptr _ _ _ _)), (2, .c (.ptr _ _ _ _)), (3, .c (.ptr _ _ _ _))]) (h := [(101, ⟨0, 13, [[.int _ _, .int _ _, .int _ _, .int _ _, .int _ _, .int _ _, .int _ _, .int _ _, .row _ _ _, .int _ _, .int _ _, .row _ _ _, .row _ _ _]]⟩), (102, ⟨0, 13, [[.int _ _, .int _ _, .int _ _, .int _ _, .int _ _, .int _ _, .int _ _, .int _ _, .row _ _ _, .int _ _, .int _ _, .row _ _ _, .row _ _ _]]⟩), (103, ⟨0, 13, [[.int _ _, .int _ _, .int _ _, .int _ _, .int _ _, .int _ _, .int _ _, .int _ _, .row _ _ _, .int _ _, .int _ _, .row _ _ _, .row _ _ _]]⟩)]) (h' := []) trivial rfl rfl rfl ?_
  refine W_seq ?_
  refine W_regV he rfl ?_
  refine v0 (sFP rfl rfl rfl) rfl ?_
  refine v0 (sLd rfl rfl) rfl ?_
  refine v0 (sFP rfl rfl rfl) rfl ?_
  refine v0 (sSt rfl rfl [] rfl rfl) rfl ?_
  refine ve ?_
  refine W2 [1, 2, 3] [101, 102, 103] [] (l := [(1, .c (.ptr _ _ _ _)), (2, .c (.ptr _ _ _ _)), (3, .c (.ptr _ _ _ _))]) (h := [(101, ⟨0, 13, [[.int _ _, .int _ _, .int _ _, .int _ _, .int _ _, .int _ _, .int _ _, .int _ _, .row _ _ _, .int _ _, .int _ _, .row _ _ _, .row _ _ _]]⟩), (102, ⟨0, 13, [[.int _ _, .int _ _, .int _ _, .int _ _, .int _ _, .int _ _, .int _ _, .int _ _, .row _ _ _, .int _ _, .int _ _, .row _ _ _, .row _ _ _]]⟩), (103, ⟨0, 13, [[.int _ _, .int _ _, .int _ _, .int _ _, .int _ _, .int _ _, .int _ _, .int _ _, .row _ _ _, .int _ _, .int _ _, .row _ _ _, .row _ _ _]]⟩)]) (h' := []) trivial rfl rfl rfl ?_
  refine W_seq ?_
  refine W_regV he rfl ?_
  refine v0 (sFP rfl rfl rfl) rfl ?_
  refine v0 (sLd rfl rfl) rfl ?_
  refine v0 (sFP rfl rfl rfl) rfl ?_
  refine v0 (sSt rfl rfl [] rfl rfl) rfl ?_
  refine ve ?_
  refine W2 [1, 2, 3] [101, 102, 103] [] (l := [(1, .c (.ptr _ _ _ _)), (2, .c (.ptr _ _ _ _)), (3, .c (.ptr _ _ _ _))]) (h := [(101, ⟨0, 13, [[.int _ _, .int _ _, .int _ _, .int _ _, .int _ _, .int _ _, .int _ _, .int _ _, .row _ _ _, .int _ _, .int _ _, .row _ _ _, .row _ _ _]]⟩), (102, ⟨0, 13, [[.int _ _, .int _ _, .int _ _, .int _ _, .int _ _, .int _ _, .int _ _, .int _ _, .row _ _ _, .int _ _, .int _ _, .row _ _ _, .row _ _ _]]⟩), (103, ⟨0, 13, [[.int _ _, .int _ _, .int _ _, .int _ _, .int _ _, .int _ _, .int _ _, .int _ _, .row _ _ _, .int _ _, .int _ _, .row _ _ _, .row _ _ _]]⟩)]) (h' := []) trivial rfl rfl rfl ?_
  refine W_seq ?_
  refine W_regV he rfl ?_
  refine v0 (sFP rfl rfl rfl) rfl ?_
  refine v0 (sLd rfl rfl) rfl ?_
  refine v0 (sFP rfl rfl rfl) rfl ?_
  refine v0 (sSt rfl rfl [] rfl rfl) rfl ?_
  refine ve ?_
  refine W2 [1, 2, 3] [101, 102, 103] [] (l := [(1, .c (.ptr _ _ _ _)), (2, .c (.ptr _ _ _ _)), (3, .c (.ptr _ _ _ _))]) (h := [(101, ⟨0, 13, [[.int _ _, .int _ _, .int _ _, .int _ _, .int _ _, .int _ _, .int _ _, .int _ _, .row _ _ _, .int _ _, .int _ _, .row _ _ _, .row _ _ _]]⟩), (102, ⟨0, 13, [[.int _ _, .int _ _, .int _ _, .int _ _, .int _ _, .int _ _, .int _ _, .int _ _, .row _ _ _, .int _ _, .int _ _, .row _ _ _, .row _ _ _]]⟩), (103, ⟨0, 13, [[.int _ _, .int _ _, .int _ _, .int _ _, .int _ _, .int _ _, .int _ _, .int _ _, .row _ _ _, .int _ _, .int _ _, .row _ _ _, .row _ _ _]]⟩)]) (h' := []) trivial rfl rfl rfl ?_
  refine W_seq ?_
  refine W_regV he rfl ?_
  refine v0 (sFP rfl rfl rfl) rfl ?_
  refine v0 (sLd rfl rfl) rfl ?_
  refine v0 (sFP rfl rfl rfl) rfl ?_
  refine v0 (sSt rfl rfl [] rfl rfl) rfl ?_
  refine ve ?_
  refine W2 [1, 2, 3] [101, 102, 103] [] (l := [(1, .c (.ptr _ _ _ _)), (2, .c (.ptr _ _ _ _)), (3, .c (.ptr _ _ _ _))]) (h := [(101, ⟨0, 13, [[.int _ _, .int _ _, .int _ _, .int _ _, .int _ _, .int _ _, .int _ _, .int _ _, .row _ _ _, .int _ _, .int _ _, .row _ _ _, .row _ _ _]]⟩), (102, ⟨0, 13, [[.int _ _, .int _ _, .int _ _, .int _ _, .int _ _, .int _ _, .int _ _, .int _ _, .row _ _ _, .int _ _, .int _ _, .row _ _ _, .row _ _ _]]⟩), (103, ⟨0, 13, [[.int _ _, .int _ _, .int _ _, .int _ _, .int _ _, .int _ _, .int _ _, .int _ _, .row _ _ _, .int _ _, .int _ _, .row _ _ _, .row _ _ _]]⟩)]) (h' := []) trivial rfl rfl rfl ?_
  refine W_seq ?_
  refine W_regV he rfl ?_
  refine v0 (sFP rfl rfl rfl) rfl ?_
  refine v0 (sLd rfl rfl) rfl ?_
  refine v0 (sFP rfl rfl rfl) rfl ?_
  refine v0 (sSt rfl rfl [] rfl rfl) rfl ?_
  refine ve ?_
  refine W2 [1, 2, 3] [101, 102, 103] [] (l := [(1, .c (.ptr _ _ _ _)), (2, .c (.ptr _ _ _ _)), (3, .c (.ptr _ _ _ _))]) (h := [(101, ⟨0, 13, [[.int _ _, .int _ _, .int _ _, .int _ _, .int _ _, .int _ _, .int _ _, .int _ _, .row _ _ _, .int _ _, .int _ _, .row _ _ _, .row _ _ _]]⟩), (102, ⟨0, 13, [[.int _ _, .int _ _, .int _ _, .int _ _, .int _ _, .int _ _, .int _ _, .int _ _, .row _ _ _, .int _ _, .int _ _, .row _ _ _, .row _ _ _]]⟩), (103, ⟨0, 13, [[.int _ _, .int _ _, .int _ _, .int _ _, .int _ _, .int _ _, .int _ _, .int _ _, .row _ _ _, .int _ _, .int _ _, .row _ _ _, .row _ _ _]]⟩)]) (h' := []) trivial rfl rfl rfl ?_
  refine W_seq ?_
  refine W_regV he rfl ?_
  refine v0 (sFP rfl rfl rfl) rfl ?_
  refine v0 (sLd rfl rfl) rfl ?_
  refine v0 (sFP rfl rfl rfl) rfl ?_
  refine v0 (sSt rfl rfl [] rfl rfl) rfl ?_
  refine ve ?_
  refine W2 [1, 2, 3] [101, 102, 103] [] (l := [(1, .c (.ptr _ _ _ _)), (2, .c (.ptr _ _ _ _)), (3, .c (.ptr _ _ _ _))]) (h := [(101, ⟨0, 13, [[.int _ _, .int _ _, .int _ _, .int _ _, .int _ _, .int _ _, .int _ _, .int _ _, .row _ _ _, .int _ _, .int _ _, .row _ _ _, .row _ _ _]]⟩), (102, ⟨0, 13, [[.int _ _, .int _ _, .int _ _, .int _ _, .int _ _, .int _ _, .int _ _, .int _ _, .row _ _ _, .int _ _, .int _ _, .row _ _ _, .row _ _ _]]⟩), (103, ⟨0, 13, [[.int _ _, .int _ _, .int _ _, .int _ _, .int _ _, .int _ _, .int _ _, .int _ _, .row _ _ _, .int _ _, .int _ _, .row _ _ _, .row _ _ _]]⟩)]) (h' := []) trivial rfl rfl rfl ?_
  refine W_seq ?_
  refine W_regV he rfl ?_
  refine v0 (sFP rfl rfl rfl) rfl ?_
  refine v0 (sLd rfl rfl) rfl ?_
  refine v0 (sFP rfl rfl rfl) rfl ?_
  refine v0 (sSt rfl rfl [] rfl rfl) rfl ?_
  refine ve ?_
  refine W2 [1, 2, 3] [101, 102, 103] [] (l := [(1, .c (.ptr _ _ _ _)), (2, .c (.ptr _ _ _ _)), (3, .c (.ptr _ _ _ _))]) (h := [(101, ⟨0, 13, [[.int _ _, .int _ _, .int _ _, .int _ _, .int _ _, .int _ _, .int _ _, .int _ _, .row _ _ _, .int _ _, .int _ _, .row _ _ _, .row _ _ _]]⟩), (102, ⟨0, 13, [[.int _ _, .int _ _, .int _ _, .int _ _, .int _ _, .int _ _, .int _ _, .int _ _, .row _ _ _, .int _ _, .int _ _, .row _ _ _, .row _ _ _]]⟩), (103, ⟨0, 13, [[.int _ _, .int _ _, .int _ _, .int _ _, .int _ _, .int _ _, .int _ _, .int _ _, .row _ _ _, .int _ _, .int _ _, .row _ _ _, .row _ _ _]]⟩)]) (h' := []) trivial rfl rfl rfl ?_
  refine W_seq ?_
  refine W_regV he rfl ?_
  refine v0 (sFP rfl rfl rfl) rfl ?_
  refine v0 (sLd rfl rfl) rfl ?_
  refine v0 (sFP rfl rfl rfl) rfl ?_
  refine v0 (sSt rfl rfl [] rfl rfl) rfl ?_
  refine ve ?_
  refine W2 [1, 2, 3] [101, 102, 103] [] (l := [(1, .c (.ptr _ _ _ _)), (2, .c (.ptr _ _ _ _)), (3, .c (.ptr _ _ _ _))]) (h := [(101, ⟨0, 13, [[.int _ _, .int _ _, .int _ _, .int _ _, .int _ _, .int _ _, .int _ _, .int _ _, .row _ _ _, .int _ _, .int _ _, .row _ _ _, .row _ _ _]]⟩), (102, ⟨0, 13, [[.int _ _, .int _ _, .int _ _, .int _ _, .int _ _, .int _ _, .int _ _, .int _ _, .row _ _ _, .int _ _, .int _ _, .row _ _ _, .row _ _ _]]⟩), (103, ⟨0, 13, [[.int _ _, .int _ _, .int _ _, .int _ _, .int _ _, .int _ _, .int _ _, .int _ _, .row _ _ _, .int _ _, .int _ _, .row _ _ _, .row _ _ _]]⟩)]) (h' := []) trivial rfl rfl rfl ?_
  refine W_seq ?_
  refine W_regV he rfl ?_
  refine v0 (sFP rfl rfl rfl) rfl ?_
  refine v0 (sLd rfl rfl) rfl ?_
  refine bndc h ?_; clear h; intro r1 hr1 h
  refine v0 (sCm (w_laws_toIntS K a0.fChunks _ hr1) ok_laws_toIntS rfl rfl rfl rfl) rfl ?_
  refine v0 (sFP rfl rfl rfl) rfl ?_
  refine v0 (sSt rfl rfl [] rfl rfl) rfl ?_
  refine ve ?_
  refine W2 [1, 2, 3] [101, 102, 103] [] (l := [(1, .c (.ptr _ _ _ _)), (2, .c (.ptr _ _ _ _)), (3, .c (.ptr _ _ _ _))]) (h := [(101, ⟨0, 13, [[.int _ _, .int _ _, .int _ _, .int _ _, .int _ _, .int _ _, .int _ _, .int _ _, .row _ _ _, .int _ _, .int _ _, .row _ _ _, .row _ _ _]]⟩), (102, ⟨0, 13, [[.int _ _, .int _ _, .int _ _, .int _ _, .int _ _, .int _ _, .int _ _, .int _ _, .row _ _ _, .int _ _, .int _ _, .row _ _ _, .row _ _ _]]⟩), (103, ⟨0, 13, [[.int _ _, .int _ _, .int _ _, .int _ _, .int _ _, .int _ _, .int _ _, .int _ _, .row _ _ _, .int _ _, .int _ _, .row _ _ _, .row _ _ _]]⟩)]) (h' := []) trivial rfl rfl rfl ?_
  refine W_seq ?_
  refine W_regV he rfl ?_
  refine v0 (sFP rfl rfl rfl) rfl ?_
  refine v0 (sLd rfl rfl) rfl ?_
  refine v0 (sFP rfl rfl rfl) rfl ?_
  refine v0 (sSt rfl rfl [] rfl rfl) rfl ?_
  refine ve ?_
  refine W2 [1, 2, 3] [101, 102, 103] [] (l := [(1, .c (.ptr _ _ _ _)), (2, .c (.ptr _ _ _ _)), (3, .c (.ptr _ _ _ _))]) (h := [(101, ⟨0, 13, [[.int _ _, .int _ _, .int _ _, .int _ _, .int _ _, .int _ _, .int _ _, .int _ _, .row _ _ _, .int _ _, .int _ _, .row _ _ _, .row _ _ _]]⟩), (102, ⟨0, 13, [[.int _ _, .int _ _, .int _ _, .int _ _, .int _ _, .int _ _, .int _ _, .int _ _, .row _ _ _, .int _ _, .int _ _, .row _ _ _, .row _ _ _]]⟩), (103, ⟨0, 13, [[.int _ _, .int _ _, .int _ _, .int _ _, .int _ _, .int _ _, .int _ _, .int _ _, .row _ _ _, .int _ _, .int _ _, .row _ _ _, .row _ _ _]]⟩)]) (h' := []) trivial rfl rfl rfl ?_
  refine W_seq ?_
  refine W_regV he rfl ?_
  refine v0 (sFP rfl rfl rfl) rfl ?_
  refine v0 (sLd rfl rfl) rfl ?_
  refine v0 (sFP rfl rfl rfl) rfl ?_
  refine v0 (sSt rfl rfl [] rfl rfl) rfl ?_
  refine ve ?_
  refine W2 [1, 2, 3] [101, 102, 103] [] (l := [(1, .c (.ptr _ _ _ _)), (2, .c (.ptr _ _ _ _)), (3, .c (.ptr _ _ _ _))]) (h := [(101, ⟨0, 13, [[.int _ _, .int _ _, .int _ _, .int _ _, .int _ _, .int _ _, .int _ _, .int _ _, .row _ _ _, .int _ _, .int _ _, .row _ _ _, .row _ _ _]]⟩), (102, ⟨0, 13, [[.int _ _, .int _ _, .int _ _, .int _ _, .int _ _, .int _ _, .int _ _, .int _ _, .row _ _ _, .int _ _, .int _ _, .row _ _ _, .row _ _ _]]⟩), (103, ⟨0, 13, [[.int _ _, .int _ _, .int _ _, .int _ _, .int _ _, .int _ _, .int _ _, .int _ _, .row _ _ _, .int _ _, .int _ _, .row _ _ _, .row _ _ _]]⟩)]) (h' := []) trivial rfl rfl rfl ?_
  refine W_seq ?_
  refine W_regV he rfl ?_
  refine v0 (sFP rfl rfl rfl) rfl ?_
  refine v0 (sLd rfl rfl) rfl ?_
  refine bndc h ?_; clear h; intro r2 hr2 h
  refine v0 (sCm (w_laws_toThingS K a0.fThings _ hr2) ok_laws_toThingS rfl rfl rfl rfl) rfl ?_
  refine v0 (sFP rfl rfl rfl) rfl ?_
  refine v0 (sSt rfl rfl [] rfl rfl) rfl ?_
  refine ve ?_
  refine W2 [1, 2, 3] [101, 102, 103] [] (l := [(1, .c (.ptr _ _ _ _)), (2, .c (.ptr _ _ _ _)), (3, .c (.ptr _ _ _ _))]) (h := [(101, ⟨0, 13, [[.int _ _, .int _ _, .int _ _, .int _ _, .int _ _, .int _ _, .int _ _, .int _ _, .row _ _ _, .int _ _, .int _ _, .row _ _ _, .row _ _ _]]⟩), (102, ⟨0, 13, [[.int _ _, .int _ _, .int _ _, .int _ _, .int _ _, .int _ _, .int _ _, .int _ _, .row _ _ _, .int _ _, .int _ _, .row _ _ _, .row _ _ _]]⟩), (103, ⟨0, 13, [[.int _ _, .int _ _, .int _ _, .int _ _, .int _ _, .int _ _, .int _ _, .int _ _, .row _ _ _, .int _ _, .int _ _, .row _ _ _, .row _ _ _]]⟩)]) (h' := []) trivial rfl rfl rfl ?_
  refine W_seq ?_
  refine W_regV he rfl ?_
  refine v0 (sFP rfl rfl rfl) rfl ?_
  refine v0 (sLd rfl rfl) rfl ?_
  refine bndc h ?_; clear h; intro r3 hr3 h
  refine v0 (sCm (w_laws_toIntS K a0.fTags _ hr3) ok_laws_toIntS rfl rfl rfl rfl) rfl ?_
  refine v0 (sFP rfl rfl rfl) rfl ?_
  refine v0 (sSt rfl rfl [] rfl rfl) rfl ?_
  refine ve ?_
  refine W2 [2, 3] [102, 103] [] (l := [(2, .c (.ptr _ _ _ _)), (3, .c (.ptr _ _ _ _))]) (h := [(102, ⟨0, 13, [[.int _ _, .int _ _, .int _ _, .int _ _, .int _ _, .int _ _, .int _ _, .int _ _, .row _ _ _, .int _ _, .int _ _, .row _ _ _, .row _ _ _]]⟩), (103, ⟨0, 13, [[.int _ _, .int _ _, .int _ _, .int _ _, .int _ _, .int _ _, .int _ _, .int _ _, .row _ _ _, .int _ _, .int _ _, .row _ _ _, .row _ _ _]]⟩)]) (h' := []) trivial rfl rfl rfl ?_
  refine W_seq ?_
  refine W_regV he rfl ?_
  refine v0 (sLd rfl rfl) rfl ?_
  refine v0 (sSt rfl rfl [] rfl rfl) rfl ?_
  refine ve ?_
  refine W2 [2] [102] [] (l := [(2, .c (.ptr _ _ _ _))]) (h := [(102, ⟨0, 13, [[.int _ _, .int _ _, .int _ _, .int _ _, .int _ _, .int _ _, .int _ _, .int _ _, .row _ _ _, .int _ _, .int _ _, .row _ _ _, .row _ _ _]]⟩)]) (h' := []) trivial rfl rfl rfl ?_
  obtain rfl := Option.some.inj h
  exact W_ret (r0 rfl rfl)
theorem ok_laws_toNode : FnOk Try.prog 85 := ⟨_, Try.func85, rfl, rfl⟩


/-! ### loop.example/g00499/laws.toNodeS -/
def l_laws_toNodeS_4 (K : Nat) (a0 : List T_laws_Node) : Nat → Int → (List T_impl_Node) → Option ((List T_impl_Node))
  | 0, _, _ => none
  | n4 + 1, v2, v3 => (bif (decide (v2 < (a0.length : Int))) then (if (0 : Int) ≤ v2 ∧ v2 < (a0.length : Int) then ((m_laws_toNode K (gt a0 v2)).bind fun r7 => (if (0 : Int) ≤ v2 ∧ v2 < (v3.length : Int) then (l_laws_toNodeS_4 K a0 n4 (iAdd .i64 v2 1) (v3.set v2.toNat r7)) else none)) else none) else some v3)
def m_laws_toNodeS (K : Nat) (a0 : List T_laws_Node) : Option ((List T_impl_Node)) := (if (0 : Int) ≤ (a0.length : Int) ∧ (a0.length : Int) ≤ (a0.length : Int) ∧ (152 : Int) * (a0.length : Int) ≤ 281474976710656 ∧ (a0.length : Int) ≤ 9223372036854775807 then (l_laws_toNodeS_4 K a0 K 0 (List.replicate (a0.length : Int).toNat (T_impl_Node.mk 0 0 0 0 0 0 0 0 [] 0 0 [] []))) else none)
set_option maxRecDepth 20000 in
set_option maxHeartbeats 8000000 in
theorem w_laws_toNodeS (K : Nat) (a0 : List T_laws_Node) (r : (List T_impl_Node)) (h : m_laws_toNodeS K a0 = some r) : Sp Try.prog 49 [.c (.row false 13 (a0.map en_laws_Node))] [] (.c (.row false 13 (r.map en_impl_Node))) [] := by
  refine Sp.of_W tabOk Try.func49 rfl rfl (Nat.le_of_ble_eq_true rfl) (Nat.le_of_ble_eq_true rfl) fun F hP hN hm => ?_
  obtain ⟨P, N, w0, σ0, β0, m⟩ := F
  obtain rfl : P = Try.prog := hP
  obtain rfl : N = 23 := hN
  obtain rfl : m = 1 := hm
  have he : Env ⟨Try.prog, 23, w0, σ0, β0, 1⟩ tab := ⟨Nat.le_of_ble_eq_true rfl, tabOk⟩
  unfold m_laws_toNodeS at h
  refine W_seq ?_
  refine W_regV he rfl ?_
  refine v0 (sA rfl [13] rfl) rfl ?_
  refine ve ?_
  refine W2 [0] [] [] (l := [(0, .c (.row _ _ _))]) (h := []) (h' := []) trivial rfl rfl rfl ?_
  refine W_seq ?_
  refine W_regV he rfl ?_
  refine v0 (sM rfl [] rfl) rfl ?_
  refine v0 (sLm rfl rfl rfl rfl) rfl ?_
  refine chkc h ?_; clear h; intro c1 h
  refine v0 (sMkm rfl 1003 (f := en_impl_Node) (T_impl_Node.mk 0 0 0 0 0 0 0 0 [] 0 0 [] []) rfl rfl rfl rfl rfl rfl rfl rfl rfl c1) rfl ?_
  refine v0 (sA rfl [] rfl) rfl ?_
  refine ve ?_
  refine W2 [0, 3] [] [1003] (l := [(0, .c (.row _ _ _)), (3, .c (.own _ _ _ _))]) (h := []) (h' := [(1003, ⟨0, 13, (List.replicate (a0.length : Int).toNat (T_impl_Node.mk 0 0 0 0 0 0 0 0 [] 0 0 [] [])).map en_impl_Node⟩)]) ⟨⟨_, rfl, enOk_impl_Node.allClosed _ _ (List.replicate (a0.length : Int).toNat (T_impl_Node.mk 0 0 0 0 0 0 0 0 [] 0 0 [] []))⟩, trivial⟩ rfl rfl rfl ?_
  refine W_seq ?_
  refine W_seq ?_
  refine W_regV he rfl ?_
  refine v0 (sA rfl [] rfl) rfl ?_
  refine ve ?_
  refine W2 [0, 3, 4] [] [1003] (l := [(0, .c (.row _ _ _)), (3, .c (.own _ _ _ _)), (4, .c (.int _ _))]) (h := []) (h' := [(1003, ⟨0, 13, (List.replicate (a0.length : Int).toNat (T_impl_Node.mk 0 0 0 0 0 0 0 0 [] 0 0 [] [])).map en_impl_Node⟩)]) ⟨⟨_, rfl, enOk_impl_Node.allClosed _ _ (List.replicate (a0.length : Int).toNat (T_impl_Node.mk 0 0 0 0 0 0 0 0 [] 0 0 [] []))⟩, trivial⟩ rfl rfl rfl ?_
  refine W_block ?_
  refine W2 [0, 3, 4] [] [1003] (l := [(0, .c (.row _ _ _)), (3, .c (.own _ _ _ _)), (4, .c (.int _ _))]) (h := []) (h' := [(1003, ⟨0, 13, (List.replicate (a0.length : Int).toNat (T_impl_Node.mk 0 0 0 0 0 0 0 0 [] 0 0 [] [])).map en_impl_Node⟩)]) ⟨⟨_, rfl, enOk_impl_Node.allClosed _ _ (List.replicate (a0.length : Int).toNat (T_impl_Node.mk 0 0 0 0 0 0 0 0 [] 0 0 [] []))⟩, trivial⟩ rfl rfl rfl ?_
  refine W_loopW (fun n4 S => ∃ (v2 : Int), ∃ (v3 : List T_impl_Node), S = StL [(0, .c (.row false 13 (a0.map en_laws_Node))), (3, .c (.own 1003 0 0 v3.length)), (4, .c (.int .i64 v2))] ([] ++ [(1003, ⟨0, 13, v3.map en_impl_Node⟩)]) ∧ l_laws_toNodeS_4 K a0 n4 v2 v3 = some r) K ⟨_, _, rfl, h⟩ ?_
  rintro n4 S ⟨v2, v3, rfl, h⟩
  cases n4 with
  | zero => simp [l_laws_toNodeS_4] at h
  | succ n4 =>
    rw [l_laws_toNodeS_4] at h
    refine W_seq ?_
    refine W_seq ?_
    refine W_regV he rfl ?_
    refine v0 (sM rfl [] rfl) rfl ?_
    refine v0 (sM rfl [] rfl) rfl ?_
    refine v0 (sLm rfl rfl rfl rfl) rfl ?_
    refine vB (sBi rfl rfl rfl rfl) rfl rfl fun b5 hb5 => ?_
    cases b5 with
    | true =>
      replace h := brT hb5 h
      refine ve ?_
      refine W2 [0, 3, 4, 11] [] [1003] (l := [(0, .c (.row _ _ _)), (3, .c (.own _ _ _ _)), (4, .c (.int _ _)), (11, .c (.bool true))]) (h := []) (h' := [(1003, ⟨0, 13, v3.map en_impl_Node⟩)]) ⟨⟨_, rfl, enOk_impl_Node.allClosed _ _ v3⟩, trivial⟩ rfl rfl rfl ?_
      refine W_true rfl ?_
      refine W_skip ?_
      refine W_seq ?_
      refine W_block ?_
      refine W_regV he rfl ?_
      refine v0 (sM rfl [] rfl) rfl ?_
      refine v0 (sM rfl [] rfl) rfl ?_
      refine v0 (sM rfl [] rfl) rfl ?_
      refine v0 (sM rfl [] rfl) rfl ?_
      refine chkc h ?_; clear h; intro c6 h
      refine v0 (sIRm rfl rfl rfl rfl c6) rfl ?_
      refine v0 (sLI rfl rfl (en_laws_Node (gt a0 v2)) (gt_at _ c6) rfl rfl rfl) rfl ?_
      refine bndc h ?_; clear h; intro r7 hr7 h
      refine v0 (sCm (w_laws_toNode K (gt a0 v2) _ hr7) ok_laws_toNode rfl rfl rfl rfl) rfl ?_
      refine chkc h ?_; clear h; intro c8 h
      refine v0 (sIOm rfl rfl rfl c8) rfl ?_
      refine v0 (sSkm rfl rfl [] v3 r7 c8 rfl rfl rfl rfl rfl rfl rfl rfl rfl) rfl ?_
      refine ve ?_
      refine W.weak (wk_len 3 (n' := (v3.set v2.toNat r7).length) (by simp only [List.length_set]) rfl) ?_
      refine W2 [0, 3, 4] [] [1003] (l := [(0, .c (.row _ _ _)), (3, .c (.own _ _ _ _)), (4, .c (.int _ _))]) (h := []) (h' := [(1003, ⟨0, 13, (v3.set v2.toNat r7).map en_impl_Node⟩)]) ⟨⟨_, rfl, enOk_impl_Node.allClosed _ _ (v3.set v2.toNat r7)⟩, trivial⟩ rfl rfl rfl ?_
      refine W_regV he rfl ?_
      refine v0 (sM rfl [] rfl) rfl ?_
      refine v0 (sBi rfl rfl rfl rfl) rfl ?_
      refine v0 (sA rfl [] rfl) rfl ?_
      refine ve ?_
      exact ⟨n4, _, Nat.lt_succ_self n4, wk2 [0, 3, 4] [] [1003] (l := [(0, .c (.row _ _ _)), (3, .c (.own _ _ _ _)), (4, .c (.int _ _))]) (h := []) (h' := [(1003, ⟨0, 13, (v3.set v2.toNat r7).map en_impl_Node⟩)]) ⟨⟨_, rfl, enOk_impl_Node.allClosed _ _ (v3.set v2.toNat r7)⟩, trivial⟩ rfl rfl rfl, _, _, rfl, h⟩
    | false =>
      replace h := brF hb5 h
      refine ve ?_
      refine W2 [0, 3, 4, 11] [] [1003] (l := [(0, .c (.row _ _ _)), (3, .c (.own _ _ _ _)), (4, .c (.int _ _)), (11, .c (.bool false))]) (h := []) (h' := [(1003, ⟨0, 13, v3.map en_impl_Node⟩)]) ⟨⟨_, rfl, enOk_impl_Node.allClosed _ _ v3⟩, trivial⟩ rfl rfl rfl ?_
      refine W_false rfl ?_
      refine W_exit (ex_then (ex_then (ex_hit ?_)))
      refine W_seq ?_
      refine W_regV he rfl ?_
      refine v0 (sM rfl [] rfl) rfl ?_
      refine v0 (sA rfl [] rfl) rfl ?_
      refine ve ?_
      refine W2 [2] [] [1003] (l := [(2, .c (.own _ _ _ _))]) (h := []) (h' := [(1003, ⟨0, 13, v3.map en_impl_Node⟩)]) ⟨⟨_, rfl, enOk_impl_Node.allClosed _ _ v3⟩, trivial⟩ rfl rfl rfl ?_
      obtain rfl := Option.some.inj h
      refine W.weak (wk_row (l := v3) 2 enOk_impl_Node rfl rfl) ?_
      exact W_ret (r0 rfl rfl)
theorem ok_laws_toNodeS : FnOk Try.prog 49 := ⟨_, Try.func49, rfl, rfl⟩


/-! ### loop.example/g00499/laws.toWaste -/
def m_laws_toWaste (K : Nat) (a0 : T_laws_Waste) : Option (T_impl_Waste) := ((m_laws_toIntS K a0.fTags).bind fun r1 => ((m_laws_toIntS K a0.fChunks).bind fun r2 => some (T_impl_Waste.mk a0.fSlot a0.fFirst r1 r2 a0.fDone)))
set_option maxRecDepth 20000 in
set_option maxHeartbeats 8000000 in
theorem w_laws_toWaste (K : Nat) (a0 : T_laws_Waste) (r : T_impl_Waste) (h : m_laws_toWaste K a0 = some r) : Sp Try.prog 86 [.g [.int .i64 a0.fSlot, .int .i64 a0.fFirst, .row false 1 (a0.fTags.map en_i64), .row false 1 (a0.fChunks.map en_i64), .int .i64 a0.fDone]] [] (.g [.int .i64 r.fSlot, .int .i64 r.fFirst, .row false 1 (r.fTags.map en_i64), .row false 1 (r.fChunks.map en_i64), .int .i64 r.fDone]) [] := by
  refine Sp.of_W tabOk Try.func86 rfl rfl (Nat.le_of_ble_eq_true rfl) (Nat.le_of_ble_eq_true rfl) fun F hP hN hm => ?_
  obtain ⟨P, N, w0, σ0, β0, m⟩ := F
  obtain rfl : P = Try.prog := hP
  obtain rfl : N = 22 := hN
  obtain rfl : m = 1 := hm
  have he : Env ⟨Try.prog, 22, w0, σ0, β0, 1⟩ tab := ⟨Nat.le_of_ble_eq_true rfl, tabOk⟩
  unfold m_laws_toWaste at h
  refine W_seq ?_
  refine W_regV he rfl ?_
  refine v0 (sBx rfl [] rfl rfl 101 rfl) rfl ?_
  refine v0 (sAl rfl rfl 102 rfl) rfl ?_
  refine ve ?_
  refine W2 [1, 2] [101, 102] [] (l := [(1, .c (.ptr _ _ _ _)), (2, .c (.ptr _ _ _ _))]) (h := [(101, ⟨0, 5, [[.int _ _, .int _ _, .row _ _ _, .row _ _ _, .int _ _]]⟩), (102, ⟨0, 5, [[.int _ _, .int _ _, .row _ _ _, .row _ _ _, .int _ _]]⟩)]) (h' := []) trivial rfl rfl rfl ?_
  refine W_seq ?_
  refine W_regV he rfl ?_
  refine v0 (sAl rfl rfl 103 rfl) rfl ?_
  refine ve ?_
  refine W2 [1, 2, 3] [101, 102, 103] [] (l := [(1, .c (.ptr _ _ _ _)), (2, .c (.ptr _ _ _ _)), (3, .c (.ptr _ _ _ _))]) (h := [(101, ⟨0, 5, [[.int _ _, .int _ _, .row _ _ _, .row _ _ _, .int _ _]]⟩), (102, ⟨0, 5, [[.int _ _, .int _ _, .row _ _ _, .row _ _ _, .int _ _]]⟩), (103, ⟨0, 5, [[.int _ _, .int _ _, .row _ _ _, .row _ _ _, .int _ _]]⟩)]) (h' := []) trivial rfl rfl rfl ?_
  refine W_seq ?_
  refine W_regV he rfl ?_
  refine v0 (sFP rfl rfl rfl) rfl ?_
  refine v0 (sLd rfl rfl) rfl ?_
  refine v0 (sFP rfl rfl rfl) rfl ?_
  refine v0 (sSt rfl rfl [] rfl rfl) rfl ?_
  refine ve ?_
  refine W2 [1, 2, 3] [101, 102, 103] [] (l := [(1, .c (.ptr _ _ _ _)), (2, .c (.ptr _ _ _ _)), (3, .c (.ptr _ _ _ _))]) (h := [(101, ⟨0, 5, [[.int _ _, .int _ _, .row _ _ _, .row _ _ _, .int _ _]]⟩), (102, ⟨0, 5, [[.int _ _, .int _ _, .row _ _ _, .row _ _ _, .int _ _]]⟩), (103, ⟨0, 5, [[.int _ _, .int _ _, .row _ _ _, .row _ _ _, .int _ _]]⟩)]) (h' := []) trivial rfl rfl rfl ?_
  refine W_seq ?_
  refine W_regV he rfl ?_
  refine v0 (sFP rfl rfl rfl) rfl ?_
  refine v0 (sLd rfl rfl) rfl ?_
  refine v0 (sFP rfl rfl rfl) rfl ?_
  refine v0 (sSt rfl rfl [] rfl rfl) rfl ?_
  refine ve ?_
  refine W2 [1, 2, 3] [101, 102, 103] [] (l := [(1, .c (.ptr _ _ _ _)), (2, .c (.ptr _ _ _ _)), (3, .c (.ptr _ _ _ _))]) (h := [(101, ⟨0, 5, [[.int _ _, .int _ _, .row _ _ _, .row _ _ _, .int _ _]]⟩), (102, ⟨0, 5, [[.int _ _, .int _ _, .row _ _ _, .row _ _ _, .int _ _]]⟩), (103, ⟨0, 5, [[.int _ _, .int _ _, .row _ _ _, .row _ _ _, .int _ _]]⟩)]) (h' := []) trivial rfl rfl rfl ?_
  refine W_seq ?_
  refine W_regV he rfl ?_
  refine v0 (sFP rfl rfl rfl) rfl ?_
  refine v0 (sLd rfl rfl) rfl ?_
  refine bndc h ?_; clear h; intro r1 hr1 h
  refine v0 (sCm (w_laws_toIntS K a0.fTags _ hr1) ok_laws_toIntS rfl rfl rfl rfl) rfl ?_
  refine v0 (sFP rfl rfl rfl) rfl ?_
  refine v0 (sSt rfl rfl [] rfl rfl) rfl ?_
  refine ve ?_
  refine W2 [1, 2, 3] [101, 102, 103] [] (l := [(1, .c (.ptr _ _ _ _)), (2, .c (.ptr _ _ _ _)), (3, .c (.ptr _ _ _ _))]) (h := [(101, ⟨0, 5, [[.int _ _, .int _ _, .row _ _ _, .row _ _ _, .int _ _]]⟩), (102, ⟨0, 5, [[.int _ _, .int _ _, .row _ _ _, .row _ _ _, .int _ _]]⟩), (103, ⟨0, 5, [[.int _ _, .int _ _, .row _ _ _, .row _ _ _, .int _ _]]⟩)]) (h' := []) trivial rfl rfl rfl ?_
  refine W_seq ?_
  refine W_regV he rfl ?_
  refine v0 (sFP rfl rfl rfl) rfl ?_
  refine v0 (sLd rfl rfl) rfl ?_
  refine bndc h ?_; clear h; intro r2 hr2 h
  refine v0 (sCm (w_laws_toIntS K a0.fChunks _ hr2) ok_laws_toIntS rfl rfl rfl rfl) rfl ?_
  refine v0 (sFP rfl rfl rfl) rfl ?_
  refine v0 (sSt rfl rfl [] rfl rfl) rfl ?_
  refine ve ?_
  refine W2 [1, 2, 3] [101, 102, 103] [] (l := [(1, .c (.ptr _ _ _ _)), (2, .c (.ptr _ _ _ _)), (3, .c (.ptr _ _ _ _))]) (h := [(101, ⟨0, 5, [[.int _ _, .int _ _, .row _ _ _, .row _ _ _, .int _ _]]⟩), (102, ⟨0, 5, [[.int _ _, .int _ _, .row _ _ _, .row _ _ _, .int _ _]]⟩), (103, ⟨0, 5, [[.int _ _, .int _ _, .row _ _ _, .row _ _ _, .int _ _]]⟩)]) (h' := []) trivial rfl rfl rfl ?_
  refine W_seq ?_
  refine W_regV he rfl ?_
  refine v0 (sFP rfl rfl rfl) rfl ?_
  refine v0 (sLd rfl rfl) rfl ?_
  refine v0 (sFP rfl rfl rfl) rfl ?_
  refine v0 (sSt rfl rfl [] rfl rfl) rfl ?_
  refine ve ?_
  refine W2 [2, 3] [102, 103] [] (l := [(2, .c (.ptr _ _ _ _)), (3, .c (.ptr _ _ _ _))]) (h := [(102, ⟨0, 5, [[.int _ _, .int _ _, .row _ _ _, .row _ _ _, .int _ _]]⟩), (103, ⟨0, 5, [[.int _ _, .int _ _, .row _ _ _, .row _ _ _, .int _ _]]⟩)]) (h' := []) trivial rfl rfl rfl ?_
  refine W_seq ?_
  refine W_regV he rfl ?_
  refine v0 (sLd rfl rfl) rfl ?_
  refine v0 (sSt rfl rfl [] rfl rfl) rfl ?_
  refine ve ?_
  refine W2 [2] [102] [] (l := [(2, .c (.ptr _ _ _ _))]) (h := [(102, ⟨0, 5, [[.int _ _, .int _ _, .row _ _ _, .row _ _ _, .int _ _]]⟩)]) (h' := []) trivial rfl rfl rfl ?_
  obtain rfl := Option.some.inj h
  exact W_ret (r0 rfl rfl)
theorem ok_laws_toWaste : FnOk Try.prog 86 := ⟨_, Try.func86, rfl, rfl⟩


/-! ### loop.example/g00499/laws.toWasteS -/
def l_laws_toWasteS_4 (K : Nat) (a0 : List T_laws_Waste) : Nat → Int → (List T_impl_Waste) → Option ((List T_impl_Waste))
  | 0, _, _ => none
  | n4 + 1, v2, v3 => (bif (decide (v2 < (a0.length : Int))) then (if (0 : Int) ≤ v2 ∧ v2 < (a0.length : Int) then ((m_laws_toWaste K (gt a0 v2)).bind fun r7 => (if (0 : Int) ≤ v2 ∧ v2 < (v3.length : Int) then (l_laws_toWasteS_4 K a0 n4 (iAdd .i64 v2 1) (v3.set v2.toNat r7)) else none)) else none) else some v3)
def m_laws_toWasteS (K : Nat) (a0 : List T_laws_Waste) : Option ((List T_impl_Waste)) := (if (0 : Int) ≤ (a0.length : Int) ∧ (a0.length : Int) ≤ (a0.length : Int) ∧ (72 : Int) * (a0.length : Int) ≤ 281474976710656 ∧ (a0.length : Int) ≤ 9223372036854775807 then (l_laws_toWasteS_4 K a0 K 0 (List.replicate (a0.length : Int).toNat (T_impl_Waste.mk 0 0 [] [] 0))) else none)
set_option maxRecDepth 20000 in
set_option maxHeartbeats 8000000 in
theorem w_laws_toWasteS (K : Nat) (a0 : List T_laws_Waste) (r : (List T_impl_Waste)) (h : m_laws_toWasteS K a0 = some r) : Sp Try.prog 50 [.c (.row false 5 (a0.map en_laws_Waste))] [] (.c (.row false 5 (r.map en_impl_Waste))) [] := by
  refine Sp.of_W tabOk Try.func50 rfl rfl (Nat.le_of_ble_eq_true rfl) (Nat.le_of_ble_eq_true rfl) fun F hP hN hm => ?_
  obtain ⟨P, N, w0, σ0, β0, m⟩ := F
  obtain rfl : P = Try.prog := hP
  obtain rfl : N = 23 := hN
  obtain rfl : m = 1 := hm
  have he : Env ⟨Try.prog, 23, w0, σ0, β0, 1⟩ tab := ⟨Nat.le_of_ble_eq_true rfl, tabOk⟩
  unfold m_laws_toWasteS at h
  refine W_seq ?_
  refine W_regV he rfl ?_
  refine v0 (sA rfl [5] rfl) rfl ?_
  refine ve ?_
  refine W2 [0] [] [] (l := [(0, .c (.row _ _ _))]) (h := []) (h' := []) trivial rfl rfl rfl ?_
  refine W_seq ?_
  refine W_regV he rfl ?_
  refine v0 (sM rfl [] rfl) rfl ?_
  refine v0 (sLm rfl rfl rfl rfl) rfl ?_
  refine chkc h ?_; clear h; intro c1 h
  refine v0 (sMkm rfl 1003 (f := en_impl_Waste) (T_impl_Waste.mk 0 0 [] [] 0) rfl rfl rfl rfl rfl rfl rfl rfl rfl c1) rfl ?_
  refine v0 (sA rfl [] rfl) rfl ?_
  refine ve ?_
  refine W2 [0, 3] [] [1003] (l := [(0, .c (.row _ _ _)), (3, .c (.own _ _ _ _))]) (h := []) (h' := [(1003, ⟨0, 5, (List.replicate (a0.length : Int).toNat (T_impl_Waste.mk 0 0 [] [] 0)).map en_impl_Waste⟩)]) ⟨⟨_, rfl, enOk_impl_Waste.allClosed _ _ (List.replicate (a0.length : Int).toNat (T_impl_Waste.mk 0 0 [] [] 0))⟩, trivial⟩ rfl rfl rfl ?_
  refine W_seq ?_
  refine W_seq ?_
  refine W_regV he rfl ?_
  refine v0 (sA rfl [] rfl) rfl ?_
  refine ve ?_
  refine W2 [0, 3, 4] [] [1003] (l := [(0, .c (.row _ _ _)), (3, .c (.own _ _ _ _)), (4, .c (.int _ _))]) (h := []) (h' := [(1003, ⟨0, 5, (List.replicate (a0.length : Int).toNat (T_impl_Waste.mk 0 0 [] [] 0)).map en_impl_Waste⟩)]) ⟨⟨_, rfl, enOk_impl_Waste.allClosed _ _ (List.replicate (a0.length : Int).toNat (T_impl_Waste.mk 0 0 [] [] 0))⟩, trivial⟩ rfl rfl rfl ?_
  refine W_block ?_
  refine W2 [0, 3, 4] [] [1003] (l := [(0, .c (.row _ _ _)), (3, .c (.own _ _ _ _)), (4, .c (.int _ _))]) (h := []) (h' := [(1003, ⟨0, 5, (List.replicate (a0.length : Int).toNat (T_impl_Waste.mk 0 0 [] [] 0)).map en_impl_Waste⟩)]) ⟨⟨_, rfl, enOk_impl_Waste.allClosed _ _ (List.replicate (a0.length : Int).toNat (T_impl_Waste.mk 0 0 [] [] 0))⟩, trivial⟩ rfl rfl rfl ?_
  refine W_loopW (fun n4 S => ∃ (v2 : Int), ∃ (v3 : List T_impl_Waste), S = StL [(0, .c (.row false 5 (a0.map en_laws_Waste))), (3, .c (.own 1003 0 0 v3.length)), (4, .c (.int .i64 v2))] ([] ++ [(1003, ⟨0, 5, v3.map en_impl_Waste⟩)]) ∧ l_laws_toWasteS_4 K a0 n4 v2 v3 = some r) K ⟨_, _, rfl, h⟩ ?_
  rintro n4 S ⟨v2, v3, rfl, h⟩
  cases n4 with
  | zero => simp [l_laws_toWasteS_4] at h
  | succ n4 =>
    rw [l_laws_toWasteS_4] at h
    refine W_seq ?_
    refine W_seq ?_
    refine W_regV he rfl ?_
    refine v0 (sM rfl [] rfl) rfl ?_
    refine v0 (sM rfl [] rfl) rfl ?_
    refine v0 (sLm rfl rfl rfl rfl) rfl ?_
    refine vB (sBi rfl rfl rfl rfl) rfl rfl fun b5 hb5 => ?_
    cases b5 with
    | true =>
      replace h := brT hb5 h
      refine ve ?_
      refine W2 [0, 3, 4, 11] [] [1003] (l := [(0, .c (.row _ _ _)), (3, .c (.own _ _ _ _)), (4, .c (.int _ _)), (11, .c (.bool true))]) (h := []) (h' := [(1003, ⟨0, 5, v3.map en_impl_Waste⟩)]) ⟨⟨_, rfl, enOk_impl_Waste.allClosed _ _ v3⟩, trivial⟩ rfl rfl rfl ?_
      refine W_true rfl ?_
      refine W_skip ?_
      refine W_seq ?_
      refine W_block ?_
      refine W_regV he rfl ?_
      refine v0 (sM rfl [] rfl) rfl ?_
      refine v0 (sM rfl [] rfl) rfl ?_
      refine v0 (sM rfl [] rfl) rfl ?_
      refine v0 (sM rfl [] rfl) rfl ?_
      refine chkc h ?_; clear h; intro c6 h
      refine v0 (sIRm rfl rfl rfl rfl c6) rfl ?_
      refine v0 (sLI rfl rfl (en_laws_Waste (gt a0 v2)) (gt_at _ c6) rfl rfl rfl) rfl ?_
      refine bndc h ?_; clear h; intro r7 hr7 h
      refine v0 (sCm (w_laws_toWaste K (gt a0 v2) _ hr7) ok_laws_toWaste rfl rfl rfl rfl) rfl ?_
      refine chkc h ?_; clear h; intro c8 h
      refine v0 (sIOm rfl rfl rfl c8) rfl ?_
      refine v0 (sSkm rfl rfl [] v3 r7 c8 rfl rfl rfl rfl rfl rfl rfl rfl rfl) rfl ?_
      refine ve ?_
      refine W.weak (wk_len 3 (n' := (v3.set v2.toNat r7).length) (by simp only [List.length_set]) rfl) ?_
      refine W2 [0, 3, 4] [] [1003] (l := [(0, .c (.row _ _ _)), (3, .c (.own _ _ _ _)), (4, .c (.int _ _))]) (h := []) (h' := [(1003, ⟨0, 5, (v3.set v2.toNat r7).map en_impl_Waste⟩)]) ⟨⟨_, rfl, enOk_impl_Waste.allClosed _ _ (v3.set v2.toNat r7)⟩, trivial⟩ rfl rfl rfl ?_
      refine W_regV he rfl ?_
      refine v0 (sM rfl [] rfl) rfl ?_
      refine v0 (sBi rfl rfl rfl rfl) rfl ?_
      refine v0 (sA rfl [] rfl) rfl ?_
      refine ve ?_
      exact ⟨n4, _, Nat.lt_succ_self n4, wk2 [0, 3, 4] [] [1003] (l := [(0, .c (.row _ _ _)), (3, .c (.own _ _ _ _)), (4, .c (.int _ _))]) (h := []) (h' := [(1003, ⟨0, 5, (v3.set v2.toNat r7).map en_impl_Waste⟩)]) ⟨⟨_, rfl, enOk_impl_Waste.allClosed _ _ (v3.set v2.toNat r7)⟩, trivial⟩ rfl rfl rfl, _, _, rfl, h⟩
    | false =>
      replace h := brF hb5 h
      refine ve ?_
      refine W2 [0, 3, 4, 11] [] [1003] (l := [(0, .c (.row _ _ _)), (3, .c (.own _ _ _ _)), (4, .c (.int _ _)), (11, .c (.bool false))]) (h := []) (h' := [(1003, ⟨0, 5, v3.map en_impl_Waste⟩)]) ⟨⟨_, rfl, enOk_impl_Waste.allClosed _ _ v3⟩, trivial⟩ rfl rfl rfl ?_
      refine W_false rfl ?_
      refine W_exit (ex_then (ex_then (ex_hit ?_)))
      refine W_seq ?_
      refine W_regV he rfl ?_
      refine v0 (sM rfl [] rfl) rfl ?_
      refine v0 (sA rfl [] rfl) rfl ?_
      refine ve ?_
      refine W2 [2] [] [1003] (l := [(2, .c (.own _ _ _ _))]) (h := []) (h' := [(1003, ⟨0, 5, v3.map en_impl_Waste⟩)]) ⟨⟨_, rfl, enOk_impl_Waste.allClosed _ _ v3⟩, trivial⟩ rfl rfl rfl ?_
      obtain rfl := Option.some.inj h
      refine W.weak (wk_row (l := v3) 2 enOk_impl_Waste rfl rfl) ?_
      exact W_ret (r0 rfl rfl)
theorem ok_laws_toWasteS : FnOk Try.prog 50 := ⟨_, Try.func50, rfl, rfl⟩


/-! ### loop.example/g00499/laws.toWorld -/
def m_laws_toWorld (K : Nat) (a0 : T_laws_World) : Option (T_impl_World) := ((m_laws_toConf K a0.fC).bind fun r1 => ((m_laws_toPool K a0.fP).bind fun r2 => ((m_laws_toNodeS K a0.fL).bind fun r3 => ((m_laws_toWasteS K a0.fQ).bind fun r4 => ((m_laws_toIntS K a0.fLog).bind fun r5 => some (T_impl_World.mk r1 r2 r3 r4 r5))))))
set_option maxRecDepth 20000 in
set_option maxHeartbeats 8000000 in
theorem w_laws_toWorld (K : Nat) (a0 : T_laws_World) (r : T_impl_World) (h : m_laws_toWorld K a0 = some r) : Sp Try.prog 13 [.g [.int .i64 a0.fC.fChunks, .int .i64 a0.fC.fSize, .int .i64 a0.fC.fSlots, .int .i64 a0.fC.fTax, .int .i64 a0.fC.fSlice, .int .i64 a0.fC.fGens, .row false 1 (a0.fP.fMem.map en_u8), .row false 1 (a0.fP.fSt.map en_i64), .row false 1 (a0.fP.fOwn.map en_i64), .row false 13 (a0.fL.map en_laws_Node), .row false 5 (a0.fQ.map en_laws_Waste), .row false 1 (a0.fLog.map en_i64)]] [] (.g [.int .i64 r.fC.fChunks, .int .i64 r.fC.fSize, .int .i64 r.fC.fSlots, .int .i64 r.fC.fTax, .int .i64 r.fC.fSlice, .int .i64 r.fC.fGens, .row false 1 (r.fP.fMem.map en_u8), .row false 1 (r.fP.fSt.map en_i64), .row false 1 (r.fP.fOwn.map en_i64), .row false 13 (r.fL.map en_impl_Node), .row false 5 (r.fQ.map en_impl_Waste), .row false 1 (r.fLog.map en_i64)]) [] := by
  refine Sp.of_W tabOk Try.func13 rfl rfl (Nat.le_of_ble_eq_true rfl) (Nat.le_of_ble_eq_true rfl) fun F hP hN hm => ?_
  obtain ⟨P, N, w0, σ0, β0, m⟩ := F
  obtain rfl : P = Try.prog := hP
  obtain rfl : N = 25 := hN
  obtain rfl : m = 1 := hm
  have he : Env ⟨Try.prog, 25, w0, σ0, β0, 1⟩ tab := ⟨Nat.le_of_ble_eq_true rfl, tabOk⟩
  unfold m_laws_toWorld at h
  refine W_seq ?_
  refine W_regV he rfl ?_
  refine v0 (sBx rfl [] rfl rfl 101 rfl) rfl ?_
  refine v0 (sAl rfl rfl 102 rfl) rfl ?_
  refine ve ?_
  refine W2 [1, 2] [101, 102] [] (l := [(1, .c (.ptr _ _ _ _)), (2, .c (.ptr _ _ _ _))]) (h := [(101, ⟨0, 12, [[.int _ _, .int _ _, .int _ _, .int _ _, .int _ _, .int _ _, .row _ _ _, .row _ _ _, .row _ _ _, .row _ _ _, .row _ _ _, .row _ _ _]]⟩), (102, ⟨0, 12, [[.int _ _, .int _ _, .int _ _, .int _ _, .int _ _, .int _ _, .row _ _ _, .row _ _ _, .row _ _ _, .row _ _ _, .row _ _ _, .row _ _ _]]⟩)]) (h' := []) trivial rfl rfl rfl ?_
  refine W_seq ?_
  refine W_regV he rfl ?_
  refine v0 (sAl rfl rfl 103 rfl) rfl ?_
  refine ve ?_
  refine W2 [1, 2, 3] [101, 102, 103] [] (l := [(1, .c (.ptr _ _ _ _)), (2, .c (.ptr _ _ _ _)), (3, .c (.ptr _ _ _ _))]) (h := [(101, ⟨0, 12, [[.int _ _, .int _ _, .int _ _, .int _ _, .int _ _, .int _ _, .row _ _ _, .row _ _ _, .row _ _ _, .row _ _ _, .row _ _ _, .row _ _ _]]⟩), (102, ⟨0, 12, [[.int _ _, .int _ _, .int _ _, .int _ _, .int _ _, .int _ _, .row _ _ _, .row _ _ _, .row _ _ _, .row _ _ _, .row _ _ _, .row _ _ _]]⟩), (103, ⟨0, 12, [[.int _ _, .int _ _, .int _ _, .int _ _, .int _ _, .int _ _, .row _ _ _, .row _ _ _, .row _ _ _, .row _ _ _, .row _ _ _, .row _ _ _]]⟩)]) (h' := []) trivial rfl rfl rfl ?_
  refine W_seq ?_
  refine W_regV he rfl ?_
  refine v0 (sFP rfl rfl rfl) rfl ?_
  refine v0 (sLd rfl rfl) rfl ?_
  refine bndc h ?_; clear h; intro r1 hr1 h
  refine v0 (sCm (w_laws_toConf K a0.fC _ hr1) ok_laws_toConf rfl rfl rfl rfl) rfl ?_
  refine v0 (sFP rfl rfl rfl) rfl ?_
  refine v0 (sSt rfl rfl [] rfl rfl) rfl ?_
  refine ve ?_
  refine W2 [1, 2, 3] [101, 102, 103] [] (l := [(1, .c (.ptr _ _ _ _)), (2, .c (.ptr _ _ _ _)), (3, .c (.ptr _ _ _ _))]) (h := [(101, ⟨0, 12, [[.int _ _, .int _ _, .int _ _, .int _ _, .int _ _, .int _ _, .row _ _ _, .row _ _ _, .row _ _ _, .row _ _ _, .row _ _ _, .row _ _ _]]⟩), (102, ⟨0, 12, [[.int _ _, .int _ _, .int _ _, .int _ _, .int _ _, .int _ _, .row _ _ _, .row _ _ _, .row _ _ _, .row _ _ _, .row _ _ _, .row _ _ _]]⟩), (103, ⟨0, 12, [[.int _ _, .int _ _, .int _ _, .int _ _, .int _ _, .int _ _, .row _ _ _, .row _ _ _, .row _ _ _, .row _ _ _, .row _ _ _, .row _ _ _]]⟩)]) (h' := []) trivial rfl rfl rfl ?_
  refine W_seq ?_
  refine W_regV he rfl ?_
  refine v0 (sFP rfl rfl rfl) rfl ?_
  refine v0 (sLd rfl rfl) rfl ?_
  refine bndc h ?_; clear h; intro r2 hr2 h
  refine v0 (sCm (w_laws_toPool K a0.fP _ hr2) ok_laws_toPool rfl rfl rfl rfl) rfl ?_
  refine v0 (sFP rfl rfl rfl) rfl ?_
  refine v0 (sSt rfl rfl [] rfl rfl) rfl ?_
  refine ve ?_
  refine W2 [1, 2, 3] [101, 102, 103] [] (l := [(1, .c (.ptr _ _ _ _)), (2, .c (.ptr _ _ _ _)), (3, .c (.ptr _ _ _ _))]) (h := [(101, ⟨0, 12, [[.int _ _, .int _ _, .int _ _, .int _ _, .int _ _, .int _ _, .row _ _ _, .row _ _ _, .row _ _ _, .row _ _ _, .row _ _ _, .row _ _ _]]⟩), (102, ⟨0, 12, [[.int _ _, .int _ _, .int _ _, .int _ _, .int _ _, .int _ _, .row _ _ _, .row _ _ _, .row _ _ _, .row _ _ _, .row _ _ _, .row _ _ _]]⟩), (103, ⟨0, 12, [[.int _ _, .int _ _, .int _ _, .int _ _, .int _ _, .int _ _, .row _ _ _, .row _ _ _, .row _ _ _, .row _ _ _, .row _ _ _, .row _ _ _]]⟩)]) (h' := []) trivial rfl rfl rfl ?_
  refine W_seq ?_
  refine W_regV he rfl ?_
  refine v0 (sFP rfl rfl rfl) rfl ?_
  refine v0 (sLd rfl rfl) rfl ?_
  refine bndc h ?_; clear h; intro r3 hr3 h
  refine v0 (sCm (w_laws_toNodeS K a0.fL _ hr3) ok_laws_toNodeS rfl rfl rfl rfl) rfl ?_
  refine v0 (sFP rfl rfl rfl) rfl ?_
  refine v0 (sSt rfl rfl [] rfl rfl) rfl ?_
  refine ve ?_
  refine W2 [1, 2, 3] [101, 102, 103] [] (l := [(1, .c (.ptr _ _ _ _)), (2, .c (.ptr _ _ _ _)), (3, .c (.ptr _ _ _ _))]) (h := [(101, ⟨0, 12, [[.int _ _, .int _ _, .int _ _, .int _ _, .int _ _, .int _ _, .row _ _ _, .row _ _ _, .row _ _ _, .row _ _ _, .row _ _ _, .row _ _ _]]⟩), (102, ⟨0, 12, [[.int _ _, .int _ _, .int _ _, .int _ _, .int _ _, .int _ _, .row _ _ _, .row _ _ _, .row _ _ _, .row _ _ _, .row _ _ _, .row _ _ _]]⟩), (103, ⟨0, 12, [[.int _ _, .int _ _, .int _ _, .int _ _, .int _ _, .int _ _, .row _ _ _, .row _ _ _, .row _ _ _, .row _ _ _, .row _ _ _, .row _ _ _]]⟩)]) (h' := []) trivial rfl rfl rfl ?_
  refine W_seq ?_
  refine W_regV he rfl ?_
  refine v0 (sFP rfl rfl rfl) rfl ?_
  refine v0 (sLd rfl rfl) rfl ?_
  refine bndc h ?_; clear h; intro r4 hr4 h
  refine v0 (sCm (w_laws_toWasteS K a0.fQ _ hr4) ok_laws_toWasteS rfl rfl rfl rfl) rfl ?_
  refine v0 (sFP rfl rfl rfl) rfl ?_
  refine v0 (sSt rfl rfl [] rfl rfl) rfl ?_
  refine ve ?_
  refine W2 [1, 2, 3] [101, 102, 103] [] (l := [(1, .c (.ptr _ _ _ _)), (2, .c (.ptr _ _ _ _)), (3, .c (.ptr _ _ _ _))]) (h := [(101, ⟨0, 12, [[.int _ _, .int _ _, .int _ _, .int _ _, .int _ _, .int _ _, .row _ _ _, .row _ _ _, .row _ _ _, .row _ _ _, .row _ _ _, .row _ _ _]]⟩), (102, ⟨0, 12, [[.int _ _, .int _ _, .int _ _, .int _ _, .int _ _, .int _ _, .row _ _ _, .row _ _ _, .row _ _ _, .row _ _ _, .row _ _ _, .row _ _ _]]⟩), (103, ⟨0, 12, [[.int _ _, .int _ _, .int _ _, .int _ _, .int _ _, .int _ _, .row _ _ _, .row _ _ _, .row _ _ _, .row _ _ _, .row _ _ _, .row _ _ _]]⟩)]) (h' := []) trivial rfl rfl rfl ?_
  refine W_seq ?_
  refine W_regV he rfl ?_
  refine v0 (sFP rfl rfl rfl) rfl ?_
  refine v0 (sLd rfl rfl) rfl ?_
  refine bndc h ?_; clear h; intro r5 hr5 h
  refine v0 (sCm (w_laws_toIntS K a0.fLog _ hr5) ok_laws_toIntS rfl rfl rfl rfl) rfl ?_
  refine v0 (sFP rfl rfl rfl) rfl ?_
  refine v0 (sSt rfl rfl [] rfl rfl) rfl ?_
  refine ve ?_
  refine W2 [2, 3] [102, 103] [] (l := [(2, .c (.ptr _ _ _ _)), (3, .c (.ptr _ _ _ _))]) (h := [(102, ⟨0, 12, [[.int _ _, .int _ _, .int _ _, .int _ _, .int _ _, .int _ _, .row _ _ _, .row _ _ _, .row _ _ _, .row _ _ _, .row _ _ _, .row _ _ _]]⟩), (103, ⟨0, 12, [[.int _ _, .int _ _, .int _ _, .int _ _, .int _ _, .int _ _, .row _ _ _, .row _ _ _, .row _ _ _, .row _ _ _, .row _ _ _, .row _ _ _]]⟩)]) (h' := []) trivial rfl rfl rfl ?_
  refine W_seq ?_
  refine W_regV he rfl ?_
  refine v0 (sLd rfl rfl) rfl ?_
  refine v0 (sSt rfl rfl [] rfl rfl) rfl ?_
  refine ve ?_
  refine W2 [2] [102] [] (l := [(2, .c (.ptr _ _ _ _))]) (h := [(102, ⟨0, 12, [[.int _ _, .int _ _, .int _ _, .int _ _, .int _ _, .int _ _, .row _ _ _, .row _ _ _, .row _ _ _, .row _ _ _, .row _ _ _, .row _ _ _]]⟩)]) (h' := []) trivial rfl rfl rfl ?_
  obtain rfl := Option.some.inj h
  exact W_ret (r0 rfl rfl)
theorem ok_laws_toWorld : FnOk Try.prog 13 := ⟨_, Try.func13, rfl, rfl⟩


/-! ### loop.example/g00499/laws.toHandle -/
def m_laws_toHandle (K : Nat) (a0 : T_laws_Handle) : Option (T_impl_Handle) := some (T_impl_Handle.mk a0.fSlot a0.fGen)
set_option maxRecDepth 20000 in
set_option maxHeartbeats 8000000 in
theorem w_laws_toHandle (K : Nat) (a0 : T_laws_Handle) (r : T_impl_Handle) (h : m_laws_toHandle K a0 = some r) : Sp Try.prog 17 [.g [.int .i64 a0.fSlot, .int .i64 a0.fGen]] [] (.g [.int .i64 r.fSlot, .int .i64 r.fGen]) [] := by
  refine Sp.of_W tabOk Try.func17 rfl rfl (Nat.le_of_ble_eq_true rfl) (Nat.le_of_ble_eq_true rfl) fun F hP hN hm => ?_
  obtain ⟨P, N, w0, σ0, β0, m⟩ := F
  obtain rfl : P = Try.prog := hP
  obtain rfl : N = 11 := hN
  obtain rfl : m = 1 := hm
  have he : Env ⟨Try.prog, 11, w0, σ0, β0, 1⟩ tab := ⟨Nat.le_of_ble_eq_true rfl, tabOk⟩
  unfold m_laws_toHandle at h
  refine W_seq ?_
  refine W_regV he rfl ?_
  refine v0 (sBx rfl [] rfl rfl 101 rfl) rfl ?_
  refine v0 (sAl rfl rfl 102 rfl) rfl ?_
  refine ve ?_
  refine W2 [1, 2] [101, 102] [] (l := [(1, .c (.ptr _ _ _ _)), (2, .c (.ptr _ _ _ _))]) (h := [(101, ⟨0, 2, [[.int _ _, .int _ _]]⟩), (102, ⟨0, 2, [[.int _ _, .int _ _]]⟩)]) (h' := []) trivial rfl rfl rfl ?_
  refine W_seq ?_
  refine W_regV he rfl ?_
  refine v0 (sAl rfl rfl 103 rfl) rfl ?_
  refine ve ?_
  refine W2 [1, 2, 3] [101, 102, 103] [] (l := [(1, .c (.ptr _ _ _ _)), (2, .c (.ptr _ _ _ _)), (3, .c (.ptr _ _ _ _))]) (h := [(101, ⟨0, 2, [[.int _ _, .int _ _]]⟩), (102, ⟨0, 2, [[.int _ _, .int _ _]]⟩), (103, ⟨0, 2, [[.int _ _, .int _ _]]⟩)]) (h' := []) trivial rfl rfl rfl ?_
  refine W_seq ?_
  refine W_regV he rfl ?_
  refine v0 (sFP rfl rfl rfl) rfl ?_
  refine v0 (sLd rfl rfl) rfl ?_
  refine v0 (sFP rfl rfl rfl) rfl ?_
  refine v0 (sSt rfl rfl [] rfl rfl) rfl ?_
  refine ve ?_
  refine W2 [1, 2, 3] [101, 102, 103] [] (l := [(1, .c (.ptr _ _ _ _)), (2, .c (.ptr _ _ _ _)), (3, .c (.ptr _ _ _ _))]) (h := [(101, ⟨0, 2, [[.int _ _, .int _ _]]⟩), (102, ⟨0, 2, [[.int _ _, .int _ _]]⟩), (103, ⟨0, 2, [[.int _ _, .int _ _]]⟩)]) (h' := []) trivial rfl rfl rfl ?_
  refine W_seq ?_
  refine W_regV he rfl ?_
  refine v0 (sFP rfl rfl rfl) rfl ?_
  refine v0 (sLd rfl rfl) rfl ?_
  refine v0 (sFP rfl rfl rfl) rfl ?_
  refine v0 (sSt rfl rfl [] rfl rfl) rfl ?_
  refine ve ?_
  refine W2 [2, 3] [102, 103] [] (l := [(2, .c (.ptr _ _ _ _)), (3, .c (.ptr _ _ _ _))]) (h := [(102, ⟨0, 2, [[.int _ _, .int _ _]]⟩), (103, ⟨0, 2, [[.int _ _, .int _ _]]⟩)]) (h' := []) trivial rfl rfl rfl ?_
  refine W_seq ?_
  refine W_regV he rfl ?_
  refine v0 (sLd rfl rfl) rfl ?_
  refine v0 (sSt rfl rfl [] rfl rfl) rfl ?_
  refine ve ?_
  refine W2 [2] [102] [] (l := [(2, .c (.ptr _ _ _ _))]) (h := [(102, ⟨0, 2, [[.int _ _, .int _ _]]⟩)]) (h' := []) trivial rfl rfl rfl ?_
  obtain rfl := Option.some.inj h
  exact W_ret (r0 rfl rfl)
theorem ok_laws_toHandle : FnOk Try.prog 17 := ⟨_, Try.func17, rfl, rfl⟩


/-! ### loop.example/g00499/spec.HandleOk -/
def m_spec_HandleOk (K : Nat) (a0 : T_impl_Handle) : Option (Bool) := (bif (decide (a0.fSlot ≥ 0)) then some (decide (a0.fGen ≥ 1)) else some false)
set_option maxRecDepth 20000 in
set_option maxHeartbeats 8000000 in
theorem w_spec_HandleOk (K : Nat) (a0 : T_impl_Handle) (r : Bool) (h : m_spec_HandleOk K a0 = some r) : Sp Try.prog 91 [.g [.int .i64 a0.fSlot, .int .i64 a0.fGen]] [] (.c (.bool r)) [] := by
  refine Sp.of_W tabOk Try.func91 rfl rfl (Nat.le_of_ble_eq_true rfl) (Nat.le_of_ble_eq_true rfl) fun F hP hN hm => ?_
  obtain ⟨P, N, w0, σ0, β0, m⟩ := F
  obtain rfl : P = Try.prog := hP
  obtain rfl : N = 11 := hN
  obtain rfl : m = 1 := hm
  have he : Env ⟨Try.prog, 11, w0, σ0, β0, 1⟩ tab := ⟨Nat.le_of_ble_eq_true rfl, tabOk⟩
  unfold m_spec_HandleOk at h
  refine W_seq ?_
  refine W_regV he rfl ?_
  refine v0 (sBx rfl [] rfl rfl 101 rfl) rfl ?_
  refine v0 (sA rfl [] rfl) rfl ?_
  refine ve ?_
  refine W2 [1] [101] [] (l := [(1, .c (.ptr _ _ _ _))]) (h := [(101, ⟨0, 2, [[.int _ _, .int _ _]]⟩)]) (h' := []) trivial rfl rfl rfl ?_
  refine W_seq ?_
  refine W_regV he rfl ?_
  refine v0 (sFP rfl rfl rfl) rfl ?_
  refine v0 (sLd rfl rfl) rfl ?_
  refine vB (sBi rfl rfl rfl rfl) rfl rfl fun b1 hb1 => ?_
  cases b1 with
  | true =>
    replace h := brT hb1 h
    refine v0 (sM rfl [] rfl) rfl ?_
    refine u0 (sFP rfl rfl rfl) rfl rfl rfl ?_
    refine u0 (sLd rfl rfl) rfl rfl rfl ?_
    refine u0 (sBi rfl rfl rfl rfl) rfl rfl rfl ?_
    refine v0 (sPk rfl [] rfl rfl) rfl ?_
    refine v0 (sA rfl [] rfl) rfl ?_
    refine ve ?_
    refine W2 [2] [] [] (l := [(2, .c (.bool _))]) (h := []) (h' := []) trivial rfl rfl rfl ?_
    obtain rfl := Option.some.inj h
    exact W_ret (r0 rfl rfl)
  | false =>
    replace h := brF hb1 h
    refine v0 (sM rfl [] rfl) rfl ?_
    refine uP rfl rfl rfl rfl ?_
    refine uP rfl rfl rfl rfl ?_
    refine uP rfl rfl rfl rfl ?_
    refine v0 (sPk rfl [] rfl rfl) rfl ?_
    refine v0 (sA rfl [] rfl) rfl ?_
    refine ve ?_
    refine W2 [2] [] [] (l := [(2, .c (.bool false))]) (h := []) (h' := []) trivial rfl rfl rfl ?_
    obtain rfl := Option.some.inj h
    exact W_ret (r0 rfl rfl)
theorem ok_spec_HandleOk : FnOk Try.prog 91 := ⟨_, Try.func91, rfl, rfl⟩


/-! ### loop.example/g00499/spec.l1In -/
def m_spec_l1In (K : Nat) (a0 : Int) (a1 : Int) (a2 : Int) : Option (Bool) := (bif (decide (a0 ≥ a1)) then some (decide (a0 ≤ a2)) else some false)
set_option maxRecDepth 20000 in
set_option maxHeartbeats 8000000 in
theorem w_spec_l1In (K : Nat) (a0 : Int) (a1 : Int) (a2 : Int) (r : Bool) (h : m_spec_l1In K a0 a1 a2 = some r) : Sp Try.prog 44 [.c (.int .i64 a0), .c (.int .i64 a1), .c (.int .i64 a2)] [] (.c (.bool r)) [] := by
  refine Sp.of_W tabOk Try.func44 rfl rfl (Nat.le_of_ble_eq_true rfl) (Nat.le_of_ble_eq_true rfl) fun F hP hN hm => ?_
  obtain ⟨P, N, w0, σ0, β0, m⟩ := F
  obtain rfl : P = Try.prog := hP
  obtain rfl : N = 15 := hN
  obtain rfl : m = 1 := hm
  have he : Env ⟨Try.prog, 15, w0, σ0, β0, 1⟩ tab := ⟨Nat.le_of_ble_eq_true rfl, tabOk⟩
  unfold m_spec_l1In at h
  refine W_seq ?_
  refine W_regV he rfl ?_
  refine v0 (sA rfl [] rfl) rfl ?_
  refine ve ?_
  refine W2 [0, 1, 2] [] [] (l := [(0, .c (.int _ _)), (1, .c (.int _ _)), (2, .c (.int _ _))]) (h := []) (h' := []) trivial rfl rfl rfl ?_
  refine W_seq ?_
  refine W_regV he rfl ?_
  refine v0 (sM rfl [] rfl) rfl ?_
  refine v0 (sM rfl [] rfl) rfl ?_
  refine vB (sBi rfl rfl rfl rfl) rfl rfl fun b1 hb1 => ?_
  cases b1 with
  | true =>
    replace h := brT hb1 h
    refine v0 (sM rfl [] rfl) rfl ?_
    refine u0 (sM rfl [] rfl) rfl rfl rfl ?_
    refine u0 (sM rfl [] rfl) rfl rfl rfl ?_
    refine u0 (sBi rfl rfl rfl rfl) rfl rfl rfl ?_
    refine v0 (sPk rfl [] rfl rfl) rfl ?_
    refine v0 (sA rfl [] rfl) rfl ?_
    refine ve ?_
    refine W2 [6] [] [] (l := [(6, .c (.bool _))]) (h := []) (h' := []) trivial rfl rfl rfl ?_
    obtain rfl := Option.some.inj h
    exact W_ret (r0 rfl rfl)
  | false =>
    replace h := brF hb1 h
    refine v0 (sM rfl [] rfl) rfl ?_
    refine uP rfl rfl rfl rfl ?_
    refine uP rfl rfl rfl rfl ?_
    refine uP rfl rfl rfl rfl ?_
    refine v0 (sPk rfl [] rfl rfl) rfl ?_
    refine v0 (sA rfl [] rfl) rfl ?_
    refine ve ?_
    refine W2 [6] [] [] (l := [(6, .c (.bool false))]) (h := []) (h' := []) trivial rfl rfl rfl ?_
    obtain rfl := Option.some.inj h
    exact W_ret (r0 rfl rfl)
theorem ok_spec_l1In : FnOk Try.prog 44 := ⟨_, Try.func44, rfl, rfl⟩


/-! ### loop.example/g00499/spec.PlaceOf -/
def m_spec_PlaceOf (K : Nat) (a0 : List T_impl_Node) (a1 : T_impl_Handle) : Option (Int) := ((m_spec_l1In K a1.fSlot 0 (iSub .i64 (a0.length : Int) 1)).bind fun r1 => (bif r1 then (if (0 : Int) ≤ a1.fSlot ∧ a1.fSlot < (a0.length : Int) then (bif (((gt a0 a1.fSlot).fSt) != 1) then some (-1) else (if (0 : Int) ≤ a1.fSlot ∧ a1.fSlot < (a0.length : Int) then (bif (((gt a0 a1.fSlot).fGen) != a1.fGen) then some (-1) else some a1.fSlot) else none)) else none) else some (-1)))
set_option maxRecDepth 20000 in
set_option maxHeartbeats 8000000 in
theorem w_spec_PlaceOf (K : Nat) (a0 : List T_impl_Node) (a1 : T_impl_Handle) (r : Int) (h : m_spec_PlaceOf K a0 a1 = some r) : Sp Try.prog 92 [.c (.row false 13 (a0.map en_impl_Node)), .g [.int .i64 a1.fSlot, .int .i64 a1.fGen]] [] (.c (.int .i64 r)) [] := by
  refine Sp.of_W tabOk Try.func92 rfl rfl (Nat.le_of_ble_eq_true rfl) (Nat.le_of_ble_eq_true rfl) fun F hP hN hm => ?_
  obtain ⟨P, N, w0, σ0, β0, m⟩ := F
  obtain rfl : P = Try.prog := hP
  obtain rfl : N = 34 := hN
  obtain rfl : m = 1 := hm
  have he : Env ⟨Try.prog, 34, w0, σ0, β0, 1⟩ tab := ⟨Nat.le_of_ble_eq_true rfl, tabOk⟩
  unfold m_spec_PlaceOf at h
  refine W_seq ?_
  refine W_regV he rfl ?_
  refine v0 (sBx rfl [] rfl rfl 101 rfl) rfl ?_
  refine v0 (sA rfl [] rfl) rfl ?_
  refine ve ?_
  refine W2 [0, 3] [101] [] (l := [(0, .c (.row _ _ _)), (3, .c (.ptr _ _ _ _))]) (h := [(101, ⟨0, 2, [[.int _ _, .int _ _]]⟩)]) (h' := []) trivial rfl rfl rfl ?_
  refine W_seq ?_
  refine W_seq ?_
  refine W_regD he rfl rfl rfl ?_
  refine g0 (sFP rfl rfl rfl) rfl ?_
  refine g0 (sLd rfl rfl) rfl ?_
  refine g0 (sM rfl [] rfl) rfl ?_
  refine g0 (sLm rfl rfl rfl rfl) rfl ?_
  refine g0 (sBi rfl rfl rfl rfl) rfl ?_
  refine bndc h ?_; clear h; intro r1 hr1 h
  refine gB (sCm (w_spec_l1In K a1.fSlot 0 (iSub .i64 (a0.length : Int) 1) _ hr1) ok_spec_l1In rfl rfl rfl rfl) rfl rfl fun b2 hb2 => ?_
  cases b2 with
  | true =>
    replace h := brT hb2 h
    refine g0 (sNt rfl rfl) rfl ?_
    refine g0 (sM rfl [] rfl) rfl ?_
    refine q0 (sM rfl [] rfl) rfl rfl rfl ?_
    refine q0 (sFP rfl rfl rfl) rfl rfl rfl ?_
    refine q0 (sLd rfl rfl) rfl rfl rfl ?_
    refine chkc h ?_; clear h; intro c3 h
    refine q0 (sIRm rfl rfl rfl rfl c3) rfl rfl rfl ?_
    refine q0 (sFI rfl rfl rfl) rfl rfl rfl ?_
    refine q0 (sLI rfl rfl (en_impl_Node (gt a0 a1.fSlot)) (gt_at _ c3) rfl rfl rfl) rfl rfl rfl ?_
    refine qB (sBi rfl rfl rfl rfl) rfl rfl rfl rfl fun b4 hb4 => ?_
    cases b4 with
    | true =>
      replace h := brT hb4 h
      refine g0 (sPk rfl [] rfl rfl) rfl ?_
      refine g0 (sM rfl [] rfl) rfl ?_
      refine qP rfl rfl rfl rfl ?_
      refine qP rfl rfl rfl rfl ?_
      refine qP rfl rfl rfl rfl ?_
      refine qP rfl rfl rfl rfl ?_
      refine qP rfl rfl rfl rfl ?_
      refine qP rfl rfl rfl rfl ?_
      refine qP rfl rfl rfl rfl ?_
      refine qP rfl rfl rfl rfl ?_
      refine qP rfl rfl rfl rfl ?_
      refine g0 (sPk rfl [] rfl rfl) rfl ?_
      refine ge ⟨rfl, ?_⟩
      refine W2 [3, 31] [101] [] (l := [(3, .c (.ptr _ _ _ _)), (31, .c (.bool true))]) (h := [(101, ⟨0, 2, [[.int _ _, .int _ _]]⟩)]) (h' := []) trivial rfl rfl rfl ?_
      refine W_true rfl ?_
      refine W_seq ?_
      refine W_regV he rfl ?_
      refine v0 (sA rfl [] rfl) rfl ?_
      refine ve ?_
      refine W2 [4] [] [] (l := [(4, .c (.int _ _))]) (h := []) (h' := []) trivial rfl rfl rfl ?_
      obtain rfl := Option.some.inj h
      exact W_ret (r0 rfl rfl)
    | false =>
      replace h := brF hb4 h
      refine g0 (sPk rfl [] rfl rfl) rfl ?_
      refine g0 (sM rfl [] rfl) rfl ?_
      refine q0 (sM rfl [] rfl) rfl rfl rfl ?_
      refine q0 (sFP rfl rfl rfl) rfl rfl rfl ?_
      refine q0 (sLd rfl rfl) rfl rfl rfl ?_
      refine chkc h ?_; clear h; intro c5 h
      refine q0 (sIRm rfl rfl rfl rfl c5) rfl rfl rfl ?_
      refine q0 (sFI rfl rfl rfl) rfl rfl rfl ?_
      refine q0 (sLI rfl rfl (en_impl_Node (gt a0 a1.fSlot)) (gt_at _ c5) rfl rfl rfl) rfl rfl rfl ?_
      refine q0 (sFP rfl rfl rfl) rfl rfl rfl ?_
      refine q0 (sLd rfl rfl) rfl rfl rfl ?_
      refine qB (sBi rfl rfl rfl rfl) rfl rfl rfl rfl fun b6 hb6 => ?_
      cases b6 with
      | true =>
        replace h := brT hb6 h
        refine g0 (sPk rfl [] rfl rfl) rfl ?_
        refine ge ⟨rfl, ?_⟩
        refine W2 [3, 31] [101] [] (l := [(3, .c (.ptr _ _ _ _)), (31, .c (.bool true))]) (h := [(101, ⟨0, 2, [[.int _ _, .int _ _]]⟩)]) (h' := []) trivial rfl rfl rfl ?_
        refine W_true rfl ?_
        refine W_seq ?_
        refine W_regV he rfl ?_
        refine v0 (sA rfl [] rfl) rfl ?_
        refine ve ?_
        refine W2 [4] [] [] (l := [(4, .c (.int _ _))]) (h := []) (h' := []) trivial rfl rfl rfl ?_
        obtain rfl := Option.some.inj h
        exact W_ret (r0 rfl rfl)
      | false =>
        replace h := brF hb6 h
        refine g0 (sPk rfl [] rfl rfl) rfl ?_
        refine ge ⟨rfl, ?_⟩
        refine W2 [3, 31] [101] [] (l := [(3, .c (.ptr _ _ _ _)), (31, .c (.bool false))]) (h := [(101, ⟨0, 2, [[.int _ _, .int _ _]]⟩)]) (h' := []) trivial rfl rfl rfl ?_
        refine W_false rfl ?_
        refine W_skip ?_
        refine W_seq ?_
        refine W_regV he rfl ?_
        refine v0 (sFP rfl rfl rfl) rfl ?_
        refine v0 (sLd rfl rfl) rfl ?_
        refine v0 (sA rfl [] rfl) rfl ?_
        refine ve ?_
        refine W2 [4] [] [] (l := [(4, .c (.int _ _))]) (h := []) (h' := []) trivial rfl rfl rfl ?_
        obtain rfl := Option.some.inj h
        exact W_ret (r0 rfl rfl)
  | false =>
    replace h := brF hb2 h
    refine g0 (sNt rfl rfl) rfl ?_
    refine g0 (sM rfl [] rfl) rfl ?_
    refine qP rfl rfl rfl rfl ?_
    refine qP rfl rfl rfl rfl ?_
    refine qP rfl rfl rfl rfl ?_
    refine qP rfl rfl rfl rfl ?_
    refine qP rfl rfl rfl rfl ?_
    refine qP rfl rfl rfl rfl ?_
    refine qP rfl rfl rfl rfl ?_
    refine g0 (sPk rfl [] rfl rfl) rfl ?_
    refine g0 (sM rfl [] rfl) rfl ?_
    refine qP rfl rfl rfl rfl ?_
    refine qP rfl rfl rfl rfl ?_
    refine qP rfl rfl rfl rfl ?_
    refine qP rfl rfl rfl rfl ?_
    refine qP rfl rfl rfl rfl ?_
    refine qP rfl rfl rfl rfl ?_
    refine qP rfl rfl rfl rfl ?_
    refine qP rfl rfl rfl rfl ?_
    refine qP rfl rfl rfl rfl ?_
    refine g0 (sPk rfl [] rfl rfl) rfl ?_
    refine ge ⟨rfl, ?_⟩
    refine W2 [3, 31] [101] [] (l := [(3, .c (.ptr _ _ _ _)), (31, .c (.bool true))]) (h := [(101, ⟨0, 2, [[.int _ _, .int _ _]]⟩)]) (h' := []) trivial rfl rfl rfl ?_
    refine W_true rfl ?_
    refine W_seq ?_
    refine W_regV he rfl ?_
    refine v0 (sA rfl [] rfl) rfl ?_
    refine ve ?_
    refine W2 [4] [] [] (l := [(4, .c (.int _ _))]) (h := []) (h' := []) trivial rfl rfl rfl ?_
    obtain rfl := Option.some.inj h
    exact W_ret (r0 rfl rfl)
theorem ok_spec_PlaceOf : FnOk Try.prog 92 := ⟨_, Try.func92, rfl, rfl⟩


/-! ### loop.example/g00499/spec.l9Place -/
def m_spec_l9Place (K : Nat) (a0 : List T_impl_Node) (a1 : Int) : Option (Bool) := (bif (decide (a1 ≥ 1)) then some (decide (a1 ≤ (a0.length : Int))) else some false)
set_option maxRecDepth 20000 in
set_option maxHeartbeats 8000000 in
theorem w_spec_l9Place (K : Nat) (a0 : List T_impl_Node) (a1 : Int) (r : Bool) (h : m_spec_l9Place K a0 a1 = some r) : Sp Try.prog 97 [.c (.row false 13 (a0.map en_impl_Node)), .c (.int .i64 a1)] [] (.c (.bool r)) [] := by
  refine Sp.of_W tabOk Try.func97 rfl rfl (Nat.le_of_ble_eq_true rfl) (Nat.le_of_ble_eq_true rfl) fun F hP hN hm => ?_
  obtain ⟨P, N, w0, σ0, β0, m⟩ := F
  obtain rfl : P = Try.prog := hP
  obtain rfl : N = 13 := hN
  obtain rfl : m = 1 := hm
  have he : Env ⟨Try.prog, 13, w0, σ0, β0, 1⟩ tab := ⟨Nat.le_of_ble_eq_true rfl, tabOk⟩
  unfold m_spec_l9Place at h
  refine W_seq ?_
  refine W_regV he rfl ?_
  refine v0 (sA rfl [] rfl) rfl ?_
  refine ve ?_
  refine W2 [0, 1] [] [] (l := [(0, .c (.row _ _ _)), (1, .c (.int _ _))]) (h := []) (h' := []) trivial rfl rfl rfl ?_
  refine W_seq ?_
  refine W_regV he rfl ?_
  refine v0 (sM rfl [] rfl) rfl ?_
  refine vB (sBi rfl rfl rfl rfl) rfl rfl fun b1 hb1 => ?_
  cases b1 with
  | true =>
    replace h := brT hb1 h
    refine v0 (sM rfl [] rfl) rfl ?_
    refine u0 (sM rfl [] rfl) rfl rfl rfl ?_
    refine u0 (sM rfl [] rfl) rfl rfl rfl ?_
    refine u0 (sLm rfl rfl rfl rfl) rfl rfl rfl ?_
    refine u0 (sBi rfl rfl rfl rfl) rfl rfl rfl ?_
    refine v0 (sPk rfl [] rfl rfl) rfl ?_
    refine v0 (sA rfl [] rfl) rfl ?_
    refine ve ?_
    refine W2 [4] [] [] (l := [(4, .c (.bool _))]) (h := []) (h' := []) trivial rfl rfl rfl ?_
    obtain rfl := Option.some.inj h
    exact W_ret (r0 rfl rfl)
  | false =>
    replace h := brF hb1 h
    refine v0 (sM rfl [] rfl) rfl ?_
    refine uP rfl rfl rfl rfl ?_
    refine uP rfl rfl rfl rfl ?_
    refine uP rfl rfl rfl rfl ?_
    refine uP rfl rfl rfl rfl ?_
    refine v0 (sPk rfl [] rfl rfl) rfl ?_
    refine v0 (sA rfl [] rfl) rfl ?_
    refine ve ?_
    refine W2 [4] [] [] (l := [(4, .c (.bool false))]) (h := []) (h' := []) trivial rfl rfl rfl ?_
    obtain rfl := Option.some.inj h
    exact W_ret (r0 rfl rfl)
theorem ok_spec_l9Place : FnOk Try.prog 97 := ⟨_, Try.func97, rfl, rfl⟩


/-! ### loop.example/g00499/spec.Rise -/
def l_spec_Rise_3 (K : Nat) (a0 : List T_impl_Node) : Nat → Int → (List Int) → Option ((List Int))
  | 0, _, _ => none
  | n3 + 1, v1, v2 => ((m_spec_l9Place K a0 (iAdd .i64 v1 1)).bind fun r4 => (bif r4 then (bif (decide ((v2.length : Int) < (a0.length : Int))) then (if (v2 ++ ([v1] : List Int)).length * 8 ≤ 140737488355328 ∧ (v2 ++ ([v1] : List Int)).length ≤ maxLen then (if (0 : Int) ≤ v1 ∧ v1 < (a0.length : Int) then (l_spec_Rise_3 K a0 n3 (iSub .i64 ((gt a0 v1).fUp) 1) (v2 ++ ([v1] : List Int))) else none) else none) else some v2) else some v2))
def m_spec_Rise (K : Nat) (a0 : List T_impl_Node) (a1 : Int) : Option ((List Int)) := (l_spec_Rise_3 K a0 K a1 ([] : List Int))
set_option maxRecDepth 20000 in
set_option maxHeartbeats 8000000 in
theorem w_spec_Rise (K : Nat) (a0 : List T_impl_Node) (a1 : Int) (r : (List Int)) (h : m_spec_Rise K a0 a1 = some r) : Sp Try.prog 62 [.c (.row false 13 (a0.map en_impl_Node)), .c (.int .i64 a1)] [] (.c (.row false 1 (r.map en_i64))) [] := by
  refine Sp.of_W tabOk Try.func62 rfl rfl (Nat.le_of_ble_eq_true rfl) (Nat.le_of_ble_eq_true rfl) fun F hP hN hm => ?_
  obtain ⟨P, N, w0, σ0, β0, m⟩ := F
  obtain rfl : P = Try.prog := hP
  obtain rfl : N = 29 := hN
  obtain rfl : m = 1 := hm
  have he : Env ⟨Try.prog, 29, w0, σ0, β0, 1⟩ tab := ⟨Nat.le_of_ble_eq_true rfl, tabOk⟩
  unfold m_spec_Rise at h
  refine W_seq ?_
  refine W_regV he rfl ?_
  refine v0 (sA rfl [1] rfl) rfl ?_
  refine ve ?_
  refine W2 [0, 1] [] [] (l := [(0, .c (.row _ _ _)), (1, .c (.int _ _))]) (h := []) (h' := []) trivial rfl rfl rfl ?_
  refine W_seq ?_
  refine W_regV he rfl ?_
  refine v0 (sBS rfl 1005 (rows := ([] : List Int).map en_i64) rfl rfl rfl (by kernel_rfl) rfl rfl rfl rfl) rfl ?_
  refine v0 (sA rfl [] rfl) rfl ?_
  refine ve ?_
  refine W2 [0, 1, 5] [] [1005] (l := [(0, .c (.row _ _ _)), (1, .c (.int _ _)), (5, .c (.own _ _ _ _))]) (h := []) (h' := [(1005, ⟨0, 1, ([] : List Int).map en_i64⟩)]) ⟨⟨_, rfl, enOk_i64.allClosed _ _ ([] : List Int)⟩, trivial⟩ rfl rfl rfl ?_
  refine W_seq ?_
  refine W_block ?_
  refine W2 [0, 1, 5] [] [1005] (l := [(0, .c (.row _ _ _)), (1, .c (.int _ _)), (5, .c (.own _ _ _ _))]) (h := []) (h' := [(1005, ⟨0, 1, ([] : List Int).map en_i64⟩)]) ⟨⟨_, rfl, enOk_i64.allClosed _ _ ([] : List Int)⟩, trivial⟩ rfl rfl rfl ?_
  refine W_loopW (fun n3 S => ∃ (v1 : Int), ∃ (v2 : List Int), S = StL [(0, .c (.row false 13 (a0.map en_impl_Node))), (1, .c (.int .i64 v1)), (5, .c (.own 1005 0 0 v2.length))] ([] ++ [(1005, ⟨0, 1, v2.map en_i64⟩)]) ∧ l_spec_Rise_3 K a0 n3 v1 v2 = some r) K ⟨_, _, rfl, h⟩ ?_
  rintro n3 S ⟨v1, v2, rfl, h⟩
  cases n3 with
  | zero => simp [l_spec_Rise_3] at h
  | succ n3 =>
    rw [l_spec_Rise_3] at h
    refine W_seq ?_
    refine W_seq ?_
    refine W_regV he rfl ?_
    refine v0 (sM rfl [] rfl) rfl ?_
    refine v0 (sM rfl [] rfl) rfl ?_
    refine v0 (sBi rfl rfl rfl rfl) rfl ?_
    refine bndc h ?_; clear h; intro r4 hr4 h
    refine vB (sCm (w_spec_l9Place K a0 (iAdd .i64 v1 1) _ hr4) ok_spec_l9Place rfl rfl rfl rfl) rfl rfl fun b5 hb5 => ?_
    cases b5 with
    | true =>
      replace h := brT hb5 h
      refine v0 (sM rfl [] rfl) rfl ?_
      refine u0 (sM rfl [] rfl) rfl rfl rfl ?_
      refine u0 (sLo rfl rfl rfl rfl) rfl rfl rfl ?_
      refine u0 (sM rfl [] rfl) rfl rfl rfl ?_
      refine u0 (sLm rfl rfl rfl rfl) rfl rfl rfl ?_
      refine uB (sBi rfl rfl rfl rfl) rfl rfl rfl rfl fun b6 hb6 => ?_
      cases b6 with
      | true =>
        replace h := brT hb6 h
        refine v0 (sPk rfl [] rfl rfl) rfl ?_
        refine ve ?_
        refine W2 [0, 1, 5, 17] [] [1005] (l := [(0, .c (.row _ _ _)), (1, .c (.int _ _)), (5, .c (.own _ _ _ _)), (17, .c (.bool true))]) (h := []) (h' := [(1005, ⟨0, 1, v2.map en_i64⟩)]) ⟨⟨_, rfl, enOk_i64.allClosed _ _ v2⟩, trivial⟩ rfl rfl rfl ?_
        refine W_true rfl ?_
        refine W_skip ?_
        refine W_block ?_
        refine W_seq ?_
        refine W_regV he rfl ?_
        refine v0 (sM rfl [] rfl) rfl ?_
        refine v0 (sM rfl [] rfl) rfl ?_
        refine v0 (sBS rfl 1020 (rows := ([v1] : List Int).map en_i64) rfl rfl rfl (by kernel_rfl) rfl rfl rfl rfl) rfl ?_
        refine chkc h ?_; clear h; intro c7 h
        refine v0 (sAo rfl 1005 v2 ([v1] : List Int) enOk_i64 rfl rfl rfl rfl rfl rfl rfl rfl rfl rfl rfl c7) rfl ?_
        refine v0 (sA rfl [] rfl) rfl ?_
        refine ve ?_
        refine W2 [0, 1, 5] [] [1005] (l := [(0, .c (.row _ _ _)), (1, .c (.int _ _)), (5, .c (.own _ _ _ _))]) (h := []) (h' := [(1005, ⟨0, 1, (v2 ++ ([v1] : List Int)).map en_i64⟩)]) ⟨⟨_, rfl, enOk_i64.allClosed _ _ (v2 ++ ([v1] : List Int))⟩, trivial⟩ rfl rfl rfl ?_
        refine W_regV he rfl ?_
        refine v0 (sM rfl [] rfl) rfl ?_
        refine v0 (sM rfl [] rfl) rfl ?_
        refine chkc h ?_; clear h; intro c8 h
        refine v0 (sIRm rfl rfl rfl rfl c8) rfl ?_
        refine v0 (sFI rfl rfl rfl) rfl ?_
        refine v0 (sLI rfl rfl (en_impl_Node (gt a0 v1)) (gt_at _ c8) rfl rfl rfl) rfl ?_
        refine v0 (sBi rfl rfl rfl rfl) rfl ?_
        refine v0 (sA rfl [] rfl) rfl ?_
        refine ve ?_
        exact ⟨n3, _, Nat.lt_succ_self n3, wk2 [0, 1, 5] [] [1005] (l := [(0, .c (.row _ _ _)), (1, .c (.int _ _)), (5, .c (.own _ _ _ _))]) (h := []) (h' := [(1005, ⟨0, 1, (v2 ++ ([v1] : List Int)).map en_i64⟩)]) ⟨⟨_, rfl, enOk_i64.allClosed _ _ (v2 ++ ([v1] : List Int))⟩, trivial⟩ rfl rfl rfl, _, _, rfl, h⟩
      | false =>
        replace h := brF hb6 h
        refine v0 (sPk rfl [] rfl rfl) rfl ?_
        refine ve ?_
        refine W2 [0, 1, 5, 17] [] [1005] (l := [(0, .c (.row _ _ _)), (1, .c (.int _ _)), (5, .c (.own _ _ _ _)), (17, .c (.bool false))]) (h := []) (h' := [(1005, ⟨0, 1, v2.map en_i64⟩)]) ⟨⟨_, rfl, enOk_i64.allClosed _ _ v2⟩, trivial⟩ rfl rfl rfl ?_
        refine W_false rfl ?_
        refine W_exit (ex_then (ex_then (ex_hit ?_)))
        refine W_seq ?_
        refine W_regV he rfl ?_
        refine v0 (sM rfl [] rfl) rfl ?_
        refine v0 (sA rfl [] rfl) rfl ?_
        refine ve ?_
        refine W2 [4] [] [1005] (l := [(4, .c (.own _ _ _ _))]) (h := []) (h' := [(1005, ⟨0, 1, v2.map en_i64⟩)]) ⟨⟨_, rfl, enOk_i64.allClosed _ _ v2⟩, trivial⟩ rfl rfl rfl ?_
        obtain rfl := Option.some.inj h
        refine W.weak (wk_row (l := v2) 4 enOk_i64 rfl rfl) ?_
        exact W_ret (r0 rfl rfl)
    | false =>
      replace h := brF hb5 h
      refine v0 (sM rfl [] rfl) rfl ?_
      refine uP rfl rfl rfl rfl ?_
      refine uP rfl rfl rfl rfl ?_
      refine uP rfl rfl rfl rfl ?_
      refine uP rfl rfl rfl rfl ?_
      refine uP rfl rfl rfl rfl ?_
      refine v0 (sPk rfl [] rfl rfl) rfl ?_
      refine ve ?_
      refine W2 [0, 1, 5, 17] [] [1005] (l := [(0, .c (.row _ _ _)), (1, .c (.int _ _)), (5, .c (.own _ _ _ _)), (17, .c (.bool false))]) (h := []) (h' := [(1005, ⟨0, 1, v2.map en_i64⟩)]) ⟨⟨_, rfl, enOk_i64.allClosed _ _ v2⟩, trivial⟩ rfl rfl rfl ?_
      refine W_false rfl ?_
      refine W_exit (ex_then (ex_then (ex_hit ?_)))
      refine W_seq ?_
      refine W_regV he rfl ?_
      refine v0 (sM rfl [] rfl) rfl ?_
      refine v0 (sA rfl [] rfl) rfl ?_
      refine ve ?_
      refine W2 [4] [] [1005] (l := [(4, .c (.own _ _ _ _))]) (h := []) (h' := [(1005, ⟨0, 1, v2.map en_i64⟩)]) ⟨⟨_, rfl, enOk_i64.allClosed _ _ v2⟩, trivial⟩ rfl rfl rfl ?_
      obtain rfl := Option.some.inj h
      refine W.weak (wk_row (l := v2) 4 enOk_i64 rfl rfl) ?_
      exact W_ret (r0 rfl rfl)
theorem ok_spec_Rise : FnOk Try.prog 62 := ⟨_, Try.func62, rfl, rfl⟩


/-! ### loop.example/g00499/spec.l9In -/
def m_spec_l9In (K : Nat) (a0 : List T_impl_Node) (a1 : Int) : Option (Bool) := (if (0 : Int) ≤ a1 ∧ a1 < (a0.length : Int) then ((m_spec_l9Place K a0 ((gt a0 a1).fUp)).bind fun r2 => (bif r2 then (if (0 : Int) ≤ (iSub .i64 ((gt a0 a1).fUp) 1) ∧ (iSub .i64 ((gt a0 a1).fUp) 1) < (a0.length : Int) then (bif (((gt a0 (iSub .i64 ((gt a0 a1).fUp) 1)).fSt) == 1) then (if (0 : Int) ≤ (iSub .i64 ((gt a0 a1).fUp) 1) ∧ (iSub .i64 ((gt a0 a1).fUp) 1) < (a0.length : Int) then (if (0 : Int) ≤ a1 ∧ a1 < (a0.length : Int) then some (((gt a0 (iSub .i64 ((gt a0 a1).fUp) 1)).fEp) == ((gt a0 a1).fUpEp)) else none) else none) else some false) else none) else some false)) else none)
set_option maxRecDepth 20000 in
set_option maxHeartbeats 8000000 in
theorem w_spec_l9In (K : Nat) (a0 : List T_impl_Node) (a1 : Int) (r : Bool) (h : m_spec_l9In K a0 a1 = some r) : Sp Try.prog 115 [.c (.row false 13 (a0.map en_impl_Node)), .c (.int .i64 a1)] [] (.c (.bool r)) [] := by
  refine Sp.of_W tabOk Try.func115 rfl rfl (Nat.le_of_ble_eq_true rfl) (Nat.le_of_ble_eq_true rfl) fun F hP hN hm => ?_
  obtain ⟨P, N, w0, σ0, β0, m⟩ := F
  obtain rfl : P = Try.prog := hP
  obtain rfl : N = 37 := hN
  obtain rfl : m = 1 := hm
  have he : Env ⟨Try.prog, 37, w0, σ0, β0, 1⟩ tab := ⟨Nat.le_of_ble_eq_true rfl, tabOk⟩
  unfold m_spec_l9In at h
  refine W_seq ?_
  refine W_regV he rfl ?_
  refine v0 (sA rfl [] rfl) rfl ?_
  refine ve ?_
  refine W2 [0, 1] [] [] (l := [(0, .c (.row _ _ _)), (1, .c (.int _ _))]) (h := []) (h' := []) trivial rfl rfl rfl ?_
  refine W_seq ?_
  refine W_regV he rfl ?_
  refine v0 (sM rfl [] rfl) rfl ?_
  refine v0 (sM rfl [] rfl) rfl ?_
  refine chkc h ?_; clear h; intro c1 h
  refine v0 (sIRm rfl rfl rfl rfl c1) rfl ?_
  refine v0 (sFI rfl rfl rfl) rfl ?_
  refine v0 (sLI rfl rfl (en_impl_Node (gt a0 a1)) (gt_at _ c1) rfl rfl rfl) rfl ?_
  refine v0 (sA rfl [] rfl) rfl ?_
  refine ve ?_
  refine W2 [0, 1, 5] [] [] (l := [(0, .c (.row _ _ _)), (1, .c (.int _ _)), (5, .c (.int _ _))]) (h := []) (h' := []) trivial rfl rfl rfl ?_
  refine W_seq ?_
  refine W_regD he rfl rfl rfl ?_
  refine g0 (sM rfl [] rfl) rfl ?_
  refine g0 (sM rfl [] rfl) rfl ?_
  refine bndc h ?_; clear h; intro r2 hr2 h
  refine gB (sCm (w_spec_l9Place K a0 ((gt a0 a1).fUp) _ hr2) ok_spec_l9Place rfl rfl rfl rfl) rfl rfl fun b3 hb3 => ?_
  cases b3 with
  | true =>
    replace h := brT hb3 h
    refine g0 (sM rfl [] rfl) rfl ?_
    refine q0 (sM rfl [] rfl) rfl rfl rfl ?_
    refine q0 (sM rfl [] rfl) rfl rfl rfl ?_
    refine q0 (sBi rfl rfl rfl rfl) rfl rfl rfl ?_
    refine chkc h ?_; clear h; intro c4 h
    refine q0 (sIRm rfl rfl rfl rfl c4) rfl rfl rfl ?_
    refine q0 (sFI rfl rfl rfl) rfl rfl rfl ?_
    refine q0 (sLI rfl rfl (en_impl_Node (gt a0 (iSub .i64 ((gt a0 a1).fUp) 1))) (gt_at _ c4) rfl rfl rfl) rfl rfl rfl ?_
    refine qB (sBi rfl rfl rfl rfl) rfl rfl rfl rfl fun b5 hb5 => ?_
    cases b5 with
    | true =>
      replace h := brT hb5 h
      refine g0 (sPk rfl [] rfl rfl) rfl ?_
      refine g0 (sM rfl [] rfl) rfl ?_
      refine q0 (sM rfl [] rfl) rfl rfl rfl ?_
      refine q0 (sM rfl [] rfl) rfl rfl rfl ?_
      refine q0 (sBi rfl rfl rfl rfl) rfl rfl rfl ?_
      refine chkc h ?_; clear h; intro c6 h
      refine q0 (sIRm rfl rfl rfl rfl c6) rfl rfl rfl ?_
      refine q0 (sFI rfl rfl rfl) rfl rfl rfl ?_
      refine q0 (sLI rfl rfl (en_impl_Node (gt a0 (iSub .i64 ((gt a0 a1).fUp) 1))) (gt_at _ c6) rfl rfl rfl) rfl rfl rfl ?_
      refine q0 (sM rfl [] rfl) rfl rfl rfl ?_
      refine q0 (sM rfl [] rfl) rfl rfl rfl ?_
      refine chkc h ?_; clear h; intro c7 h
      refine q0 (sIRm rfl rfl rfl rfl c7) rfl rfl rfl ?_
      refine q0 (sFI rfl rfl rfl) rfl rfl rfl ?_
      refine q0 (sLI rfl rfl (en_impl_Node (gt a0 a1)) (gt_at _ c7) rfl rfl rfl) rfl rfl rfl ?_
      refine q0 (sBi rfl rfl rfl rfl) rfl rfl rfl ?_
      refine g0 (sPk rfl [] rfl rfl) rfl ?_
      refine g0 (sA rfl [] rfl) rfl ?_
      refine ge ⟨rfl, ?_⟩
      refine W2 [4] [] [] (l := [(4, .c (.bool _))]) (h := []) (h' := []) trivial rfl rfl rfl ?_
      obtain rfl := Option.some.inj h
      exact W_ret (r0 rfl rfl)
    | false =>
      replace h := brF hb5 h
      refine g0 (sPk rfl [] rfl rfl) rfl ?_
      refine g0 (sM rfl [] rfl) rfl ?_
      refine qP rfl rfl rfl rfl ?_
      refine qP rfl rfl rfl rfl ?_
      refine qP rfl rfl rfl rfl ?_
      refine qP rfl rfl rfl rfl ?_
      refine qP rfl rfl rfl rfl ?_
      refine qP rfl rfl rfl rfl ?_
      refine qP rfl rfl rfl rfl ?_
      refine qP rfl rfl rfl rfl ?_
      refine qP rfl rfl rfl rfl ?_
      refine qP rfl rfl rfl rfl ?_
      refine qP rfl rfl rfl rfl ?_
      refine qP rfl rfl rfl rfl ?_
      refine g0 (sPk rfl [] rfl rfl) rfl ?_
      refine g0 (sA rfl [] rfl) rfl ?_
      refine ge ⟨rfl, ?_⟩
      refine W2 [4] [] [] (l := [(4, .c (.bool false))]) (h := []) (h' := []) trivial rfl rfl rfl ?_
      obtain rfl := Option.some.inj h
      exact W_ret (r0 rfl rfl)
  | false =>
    replace h := brF hb3 h
    refine g0 (sM rfl [] rfl) rfl ?_
    refine qP rfl rfl rfl rfl ?_
    refine qP rfl rfl rfl rfl ?_
    refine qP rfl rfl rfl rfl ?_
    refine qP rfl rfl rfl rfl ?_
    refine qP rfl rfl rfl rfl ?_
    refine qP rfl rfl rfl rfl ?_
    refine qP rfl rfl rfl rfl ?_
    refine g0 (sPk rfl [] rfl rfl) rfl ?_
    refine g0 (sM rfl [] rfl) rfl ?_
    refine qP rfl rfl rfl rfl ?_
    refine qP rfl rfl rfl rfl ?_
    refine qP rfl rfl rfl rfl ?_
    refine qP rfl rfl rfl rfl ?_
    refine qP rfl rfl rfl rfl ?_
    refine qP rfl rfl rfl rfl ?_
    refine qP rfl rfl rfl rfl ?_
    refine qP rfl rfl rfl rfl ?_
    refine qP rfl rfl rfl rfl ?_
    refine qP rfl rfl rfl rfl ?_
    refine qP rfl rfl rfl rfl ?_
    refine qP rfl rfl rfl rfl ?_
    refine g0 (sPk rfl [] rfl rfl) rfl ?_
    refine g0 (sA rfl [] rfl) rfl ?_
    refine ge ⟨rfl, ?_⟩
    refine W2 [4] [] [] (l := [(4, .c (.bool false))]) (h := []) (h' := []) trivial rfl rfl rfl ?_
    obtain rfl := Option.some.inj h
    exact W_ret (r0 rfl rfl)
theorem ok_spec_l9In : FnOk Try.prog 115 := ⟨_, Try.func115, rfl, rfl⟩


/-! ### loop.example/g00499/spec.Alive -/
def j_spec_Alive_5 (K : Nat) (v2 : Int) (C3 : Int → Option (Bool)) : Option (Bool) := (C3 (iAdd .i64 v2 1))
def l_spec_Alive_3 (K : Nat) (a0 : List T_impl_Node) (r1 : (List Int)) : Nat → Int → Option (Bool)
  | 0, _ => none
  | n3 + 1, v2 => (bif (decide (v2 < (r1.length : Int))) then (if (0 : Int) ≤ v2 ∧ v2 < (r1.length : Int) then (if (0 : Int) ≤ (gt r1 v2) ∧ (gt r1 v2) < (a0.length : Int) then (bif (((gt a0 (gt r1 v2)).fSt) != 1) then some false else (bif (decide ((iAdd .i64 v2 1) < (r1.length : Int))) then (if (0 : Int) ≤ v2 ∧ v2 < (r1.length : Int) then ((m_spec_l9In K a0 (gt r1 v2)).bind fun r111 => (bif r111 then j_spec_Alive_5 K v2 (l_spec_Alive_3 K a0 r1 n3)  else some false)) else none) else j_spec_Alive_5 K v2 (l_spec_Alive_3 K a0 r1 n3) )) else none) else none) else (bif (decide ((r1.length : Int) > 0)) then (if (0 : Int) ≤ (iSub .i64 (r1.length : Int) 1) ∧ (iSub .i64 (r1.length : Int) 1) < (r1.length : Int) then (if (0 : Int) ≤ (gt r1 (iSub .i64 (r1.length : Int) 1)) ∧ (gt r1 (iSub .i64 (r1.length : Int) 1)) < (a0.length : Int) then some (((gt a0 (gt r1 (iSub .i64 (r1.length : Int) 1))).fUp) == 0) else none) else none) else some false))
def m_spec_Alive (K : Nat) (a0 : List T_impl_Node) (a1 : Int) : Option (Bool) := ((m_spec_Rise K a0 a1).bind fun r1 => (l_spec_Alive_3 K a0 r1 K 0))
set_option maxRecDepth 20000 in
set_option maxHeartbeats 8000000 in
theorem w_spec_Alive (K : Nat) (a0 : List T_impl_Node) (a1 : Int) (r : Bool) (h : m_spec_Alive K a0 a1 = some r) : Sp Try.prog 93 [.c (.row false 13 (a0.map en_impl_Node)), .c (.int .i64 a1)] [] (.c (.bool r)) [] := by
  refine Sp.of_W tabOk Try.func93 rfl rfl (Nat.le_of_ble_eq_true rfl) (Nat.le_of_ble_eq_true rfl) fun F hP hN hm => ?_
  obtain ⟨P, N, w0, σ0, β0, m⟩ := F
  obtain rfl : P = Try.prog := hP
  obtain rfl : N = 57 := hN
  obtain rfl : m = 1 := hm
  have he : Env ⟨Try.prog, 57, w0, σ0, β0, 1⟩ tab := ⟨Nat.le_of_ble_eq_true rfl, tabOk⟩
  unfold m_spec_Alive at h
  refine W_seq ?_
  refine W_regV he rfl ?_
  refine v0 (sA rfl [] rfl) rfl ?_
  refine ve ?_
  refine W2 [0, 1] [] [] (l := [(0, .c (.row _ _ _)), (1, .c (.int _ _))]) (h := []) (h' := []) trivial rfl rfl rfl ?_
  refine W_seq ?_
  refine W_regV he rfl ?_
  refine v0 (sM rfl [] rfl) rfl ?_
  refine v0 (sM rfl [] rfl) rfl ?_
  refine bndc h ?_; clear h; intro r1 hr1 h
  refine v0 (sCm (w_spec_Rise K a0 a1 _ hr1) ok_spec_Rise rfl rfl rfl rfl) rfl ?_
  refine v0 (sA rfl [] rfl) rfl ?_
  refine ve ?_
  refine W2 [0, 5] [] [] (l := [(0, .c (.row _ _ _)), (5, .c (.row _ _ _))]) (h := []) (h' := []) trivial rfl rfl rfl ?_
  refine W_seq ?_
  refine W_seq ?_
  refine W_regV he rfl ?_
  refine v0 (sA rfl [] rfl) rfl ?_
  refine ve ?_
  refine W2 [0, 5, 6] [] [] (l := [(0, .c (.row _ _ _)), (5, .c (.row _ _ _)), (6, .c (.int _ _))]) (h := []) (h' := []) trivial rfl rfl rfl ?_
  refine W_block ?_
  refine W2 [0, 5, 6] [] [] (l := [(0, .c (.row _ _ _)), (5, .c (.row _ _ _)), (6, .c (.int _ _))]) (h := []) (h' := []) trivial rfl rfl rfl ?_
  refine W_loopW (fun n3 S => ∃ (v2 : Int), S = StL [(0, .c (.row false 13 (a0.map en_impl_Node))), (5, .c (.row false 1 (r1.map en_i64))), (6, .c (.int .i64 v2))] ([] ++ []) ∧ l_spec_Alive_3 K a0 r1 n3 v2 = some r) K ⟨_, rfl, h⟩ ?_
  rintro n3 S ⟨v2, rfl, h⟩
  cases n3 with
  | zero => simp [l_spec_Alive_3] at h
  | succ n3 =>
    rw [l_spec_Alive_3] at h
    refine W_seq ?_
    refine W_seq ?_
    refine W_regV he rfl ?_
    refine v0 (sM rfl [] rfl) rfl ?_
    refine v0 (sM rfl [] rfl) rfl ?_
    refine v0 (sLm rfl rfl rfl rfl) rfl ?_
    refine vB (sBi rfl rfl rfl rfl) rfl rfl fun b4 hb4 => ?_
    cases b4 with
    | true =>
      replace h := brT hb4 h
      refine ve ?_
      refine W2 [0, 5, 6, 13] [] [] (l := [(0, .c (.row _ _ _)), (5, .c (.row _ _ _)), (6, .c (.int _ _)), (13, .c (.bool true))]) (h := []) (h' := []) trivial rfl rfl rfl ?_
      refine W_true rfl ?_
      refine W_skip ?_
      refine W_join (fun S => S = StL [(0, .c (.row false 13 (a0.map en_impl_Node))), (5, .c (.row false 1 (r1.map en_i64))), (6, .c (.int .i64 v2))] ([] ++ []) ∧ j_spec_Alive_5 K v2 (l_spec_Alive_3 K a0 r1 n3)  = some r) ?_ ?_
      · rintro S ⟨rfl, h⟩
        unfold j_spec_Alive_5 at h
        refine W_regV he rfl ?_
        refine v0 (sM rfl [] rfl) rfl ?_
        refine v0 (sBi rfl rfl rfl rfl) rfl ?_
        refine v0 (sA rfl [] rfl) rfl ?_
        refine ve ?_
        exact ⟨n3, _, Nat.lt_succ_self n3, wk2 [0, 5, 6] [] [] (l := [(0, .c (.row _ _ _)), (5, .c (.row _ _ _)), (6, .c (.int _ _))]) (h := []) (h' := []) trivial rfl rfl rfl, _, rfl, h⟩
      ·
        refine W_block ?_
        refine W_seq ?_
        refine W_regV he rfl ?_
        refine v0 (sM rfl [] rfl) rfl ?_
        refine v0 (sM rfl [] rfl) rfl ?_
        refine v0 (sM rfl [] rfl) rfl ?_
        refine chkc h ?_; clear h; intro c106 h
        refine v0 (sIRm rfl rfl rfl rfl c106) rfl ?_
        refine v0 (sLI rfl rfl (en_i64 (gt r1 v2)) (gt_at _ c106) rfl rfl rfl) rfl ?_
        refine chkc h ?_; clear h; intro c107 h
        refine v0 (sIRm rfl rfl rfl rfl c107) rfl ?_
        refine v0 (sFI rfl rfl rfl) rfl ?_
        refine v0 (sLI rfl rfl (en_impl_Node (gt a0 (gt r1 v2))) (gt_at _ c107) rfl rfl rfl) rfl ?_
        refine vB (sBi rfl rfl rfl rfl) rfl rfl fun b108 hb108 => ?_
        cases b108 with
        | true =>
          replace h := brT hb108 h
          refine v0 (sM rfl [] rfl) rfl ?_
          refine uP rfl rfl rfl rfl ?_
          refine uP rfl rfl rfl rfl ?_
          refine uP rfl rfl rfl rfl ?_
          refine uP rfl rfl rfl rfl ?_
          refine uP rfl rfl rfl rfl ?_
          refine uP rfl rfl rfl rfl ?_
          refine uS rfl rfl rfl ?_
          refine uS rfl rfl rfl ?_
          refine uS rfl rfl rfl ?_
          refine uS rfl rfl rfl ?_
          refine uS rfl rfl rfl ?_
          refine uS rfl rfl rfl ?_
          refine uS rfl rfl rfl ?_
          refine uP rfl rfl rfl rfl ?_
          refine v0 (sPk rfl [] rfl rfl) rfl ?_
          refine ve ?_
          refine W2 [0, 5, 6, 40] [] [] (l := [(0, .c (.row _ _ _)), (5, .c (.row _ _ _)), (6, .c (.int _ _)), (40, .c (.bool true))]) (h := []) (h' := []) trivial rfl rfl rfl ?_
          refine W_true rfl ?_
          refine W_seq ?_
          refine W_regV he rfl ?_
          refine v0 (sA rfl [] rfl) rfl ?_
          refine ve ?_
          refine W2 [4] [] [] (l := [(4, .c (.bool false))]) (h := []) (h' := []) trivial rfl rfl rfl ?_
          obtain rfl := Option.some.inj h
          exact W_ret (r0 rfl rfl)
        | false =>
          replace h := brF hb108 h
          refine v0 (sM rfl [] rfl) rfl ?_
          refine u0 (sM rfl [] rfl) rfl rfl rfl ?_
          refine u0 (sBi rfl rfl rfl rfl) rfl rfl rfl ?_
          refine u0 (sM rfl [] rfl) rfl rfl rfl ?_
          refine u0 (sLm rfl rfl rfl rfl) rfl rfl rfl ?_
          refine uB (sBi rfl rfl rfl rfl) rfl rfl rfl rfl fun b109 hb109 => ?_
          cases b109 with
          | true =>
            replace h := brT hb109 h
            refine u0 (sM rfl [] rfl) rfl rfl rfl ?_
            refine u0 (sM rfl [] rfl) rfl rfl rfl ?_
            refine u0 (sM rfl [] rfl) rfl rfl rfl ?_
            refine u0 (sM rfl [] rfl) rfl rfl rfl ?_
            refine chkc h ?_; clear h; intro c110 h
            refine u0 (sIRm rfl rfl rfl rfl c110) rfl rfl rfl ?_
            refine u0 (sLI rfl rfl (en_i64 (gt r1 v2)) (gt_at _ c110) rfl rfl rfl) rfl rfl rfl ?_
            refine bndc h ?_; clear h; intro r111 hr111 h
            refine uB (sCm (w_spec_l9In K a0 (gt r1 v2) _ hr111) ok_spec_l9In rfl rfl rfl rfl) rfl rfl rfl rfl fun b112 hb112 => ?_
            cases b112 with
            | true =>
              replace h := brT hb112 h
              refine u0 (sNt rfl rfl) rfl rfl rfl ?_
              refine u0 (sPk rfl [] rfl rfl) rfl rfl rfl ?_
              refine v0 (sPk rfl [] rfl rfl) rfl ?_
              refine ve ?_
              refine W2 [0, 5, 6, 40] [] [] (l := [(0, .c (.row _ _ _)), (5, .c (.row _ _ _)), (6, .c (.int _ _)), (40, .c (.bool false))]) (h := []) (h' := []) trivial rfl rfl rfl ?_
              refine W_false rfl ?_
              refine W_skip ?_
              exact ⟨_, wk2 [0, 5, 6] [] [] (l := [(0, .c (.row _ _ _)), (5, .c (.row _ _ _)), (6, .c (.int _ _))]) (h := []) (h' := []) trivial rfl rfl rfl, rfl, h⟩
            | false =>
              replace h := brF hb112 h
              refine u0 (sNt rfl rfl) rfl rfl rfl ?_
              refine u0 (sPk rfl [] rfl rfl) rfl rfl rfl ?_
              refine v0 (sPk rfl [] rfl rfl) rfl ?_
              refine ve ?_
              refine W2 [0, 5, 6, 40] [] [] (l := [(0, .c (.row _ _ _)), (5, .c (.row _ _ _)), (6, .c (.int _ _)), (40, .c (.bool true))]) (h := []) (h' := []) trivial rfl rfl rfl ?_
              refine W_true rfl ?_
              refine W_seq ?_
              refine W_regV he rfl ?_
              refine v0 (sA rfl [] rfl) rfl ?_
              refine ve ?_
              refine W2 [4] [] [] (l := [(4, .c (.bool false))]) (h := []) (h' := []) trivial rfl rfl rfl ?_
              obtain rfl := Option.some.inj h
              exact W_ret (r0 rfl rfl)
          | false =>
            replace h := brF hb109 h
            refine u0 (sM rfl [] rfl) rfl rfl rfl ?_
            refine uP rfl rfl rfl rfl ?_
            refine uP rfl rfl rfl rfl ?_
            refine uP rfl rfl rfl rfl ?_
            refine uP rfl rfl rfl rfl ?_
            refine uP rfl rfl rfl rfl ?_
            refine uP rfl rfl rfl rfl ?_
            refine uP rfl rfl rfl rfl ?_
            refine u0 (sPk rfl [] rfl rfl) rfl rfl rfl ?_
            refine v0 (sPk rfl [] rfl rfl) rfl ?_
            refine ve ?_
            refine W2 [0, 5, 6, 40] [] [] (l := [(0, .c (.row _ _ _)), (5, .c (.row _ _ _)), (6, .c (.int _ _)), (40, .c (.bool false))]) (h := []) (h' := []) trivial rfl rfl rfl ?_
            refine W_false rfl ?_
            refine W_skip ?_
            exact ⟨_, wk2 [0, 5, 6] [] [] (l := [(0, .c (.row _ _ _)), (5, .c (.row _ _ _)), (6, .c (.int _ _))]) (h := []) (h' := []) trivial rfl rfl rfl, rfl, h⟩
    | false =>
      replace h := brF hb4 h
      refine ve ?_
      refine W2 [0, 5, 6, 13] [] [] (l := [(0, .c (.row _ _ _)), (5, .c (.row _ _ _)), (6, .c (.int _ _)), (13, .c (.bool false))]) (h := []) (h' := []) trivial rfl rfl rfl ?_
      refine W_false rfl ?_
      refine W_exit (ex_then (ex_then (ex_hit ?_)))
      refine W_seq ?_
      refine W_regV he rfl ?_
      refine v0 (sM rfl [] rfl) rfl ?_
      refine v0 (sLm rfl rfl rfl rfl) rfl ?_
      refine vB (sBi rfl rfl rfl rfl) rfl rfl fun b113 hb113 => ?_
      cases b113 with
      | true =>
        replace h := brT hb113 h
        refine v0 (sM rfl [] rfl) rfl ?_
        refine u0 (sM rfl [] rfl) rfl rfl rfl ?_
        refine u0 (sM rfl [] rfl) rfl rfl rfl ?_
        refine u0 (sM rfl [] rfl) rfl rfl rfl ?_
        refine u0 (sLm rfl rfl rfl rfl) rfl rfl rfl ?_
        refine u0 (sBi rfl rfl rfl rfl) rfl rfl rfl ?_
        refine chkc h ?_; clear h; intro c114 h
        refine u0 (sIRm rfl rfl rfl rfl c114) rfl rfl rfl ?_
        refine u0 (sLI rfl rfl (en_i64 (gt r1 (iSub .i64 (r1.length : Int) 1))) (gt_at _ c114) rfl rfl rfl) rfl rfl rfl ?_
        refine chkc h ?_; clear h; intro c115 h
        refine u0 (sIRm rfl rfl rfl rfl c115) rfl rfl rfl ?_
        refine u0 (sFI rfl rfl rfl) rfl rfl rfl ?_
        refine u0 (sLI rfl rfl (en_impl_Node (gt a0 (gt r1 (iSub .i64 (r1.length : Int) 1)))) (gt_at _ c115) rfl rfl rfl) rfl rfl rfl ?_
        refine u0 (sBi rfl rfl rfl rfl) rfl rfl rfl ?_
        refine v0 (sPk rfl [] rfl rfl) rfl ?_
        refine v0 (sA rfl [] rfl) rfl ?_
        refine ve ?_
        refine W2 [4] [] [] (l := [(4, .c (.bool _))]) (h := []) (h' := []) trivial rfl rfl rfl ?_
        obtain rfl := Option.some.inj h
        exact W_ret (r0 rfl rfl)
      | false =>
        replace h := brF hb113 h
        refine v0 (sM rfl [] rfl) rfl ?_
        refine uP rfl rfl rfl rfl ?_
        refine uP rfl rfl rfl rfl ?_
        refine uP rfl rfl rfl rfl ?_
        refine uP rfl rfl rfl rfl ?_
        refine uP rfl rfl rfl rfl ?_
        refine uP rfl rfl rfl rfl ?_
        refine uP rfl rfl rfl rfl ?_
        refine uP rfl rfl rfl rfl ?_
        refine uP rfl rfl rfl rfl ?_
        refine uP rfl rfl rfl rfl ?_
        refine uP rfl rfl rfl rfl ?_
        refine v0 (sPk rfl [] rfl rfl) rfl ?_
        refine v0 (sA rfl [] rfl) rfl ?_
        refine ve ?_
        refine W2 [4] [] [] (l := [(4, .c (.bool false))]) (h := []) (h' := []) trivial rfl rfl rfl ?_
        obtain rfl := Option.some.inj h
        exact W_ret (r0 rfl rfl)
theorem ok_spec_Alive : FnOk Try.prog 93 := ⟨_, Try.func93, rfl, rfl⟩


/-! ### loop.example/g00499/spec.FindRoom -/
def m_spec_FindRoom (K : Nat) (a0 : T_impl_World) (a1 : T_impl_Handle) : Option (Int × Int) := ((m_spec_HandleOk K a1).bind fun r1 => (bif r1 then ((m_spec_PlaceOf K a0.fL a1).bind fun r3 => (bif (decide (r3 < 0)) then some ((-1), 2) else ((m_spec_Alive K a0.fL r3).bind fun r5 => (bif r5 then some (r3, 0) else some ((-1), 2))))) else some ((-1), 1)))
set_option maxRecDepth 20000 in
set_option maxHeartbeats 8000000 in
theorem w_spec_FindRoom (K : Nat) (a0 : T_impl_World) (a1 : T_impl_Handle) (r : Int × Int) (h : m_spec_FindRoom K a0 a1 = some r) : Sp Try.prog 59 [.g [.int .i64 a0.fC.fChunks, .int .i64 a0.fC.fSize, .int .i64 a0.fC.fSlots, .int .i64 a0.fC.fTax, .int .i64 a0.fC.fSlice, .int .i64 a0.fC.fGens, .row false 1 (a0.fP.fMem.map en_u8), .row false 1 (a0.fP.fSt.map en_i64), .row false 1 (a0.fP.fOwn.map en_i64), .row false 13 (a0.fL.map en_impl_Node), .row false 5 (a0.fQ.map en_impl_Waste), .row false 1 (a0.fLog.map en_i64)], .g [.int .i64 a1.fSlot, .int .i64 a1.fGen]] [] (.t [.c (.int .i64 r.1), .c (.int .i64 r.2)]) [] := by
  refine Sp.of_W tabOk Try.func59 rfl rfl (Nat.le_of_ble_eq_true rfl) (Nat.le_of_ble_eq_true rfl) fun F hP hN hm => ?_
  obtain ⟨P, N, w0, σ0, β0, m⟩ := F
  obtain rfl : P = Try.prog := hP
  obtain rfl : N = 24 := hN
  obtain rfl : m = 1 := hm
  have he : Env ⟨Try.prog, 24, w0, σ0, β0, 1⟩ tab := ⟨Nat.le_of_ble_eq_true rfl, tabOk⟩
  unfold m_spec_FindRoom at h
  refine W_seq ?_
  refine W_regV he rfl ?_
  refine v0 (sBx rfl [] rfl rfl 101 rfl) rfl ?_
  refine v0 (sBx rfl [] rfl rfl 102 rfl) rfl ?_
  refine v0 (sA rfl [] rfl) rfl ?_
  refine v0 (sA rfl [] rfl) rfl ?_
  refine ve ?_
  refine W2 [2, 3] [101, 102] [] (l := [(2, .c (.ptr _ _ _ _)), (3, .c (.ptr _ _ _ _))]) (h := [(101, ⟨0, 12, [[.int _ _, .int _ _, .int _ _, .int _ _, .int _ _, .int _ _, .row _ _ _, .row _ _ _, .row _ _ _, .row _ _ _, .row _ _ _, .row _ _ _]]⟩), (102, ⟨0, 2, [[.int _ _, .int _ _]]⟩)]) (h' := []) trivial rfl rfl rfl ?_
  refine W_seq ?_
  refine W_seq ?_
  refine W_regV he rfl ?_
  refine v0 (sLd rfl rfl) rfl ?_
  refine bndc h ?_; clear h; intro r1 hr1 h
  refine vB (sCm (w_spec_HandleOk K a1 _ hr1) ok_spec_HandleOk rfl rfl rfl rfl) rfl rfl fun b2 hb2 => ?_
  cases b2 with
  | true =>
    replace h := brT hb2 h
    refine v0 (sNt rfl rfl) rfl ?_
    refine ve ?_
    refine W2 [2, 3, 9] [101, 102] [] (l := [(2, .c (.ptr _ _ _ _)), (3, .c (.ptr _ _ _ _)), (9, .c (.bool false))]) (h := [(101, ⟨0, 12, [[.int _ _, .int _ _, .int _ _, .int _ _, .int _ _, .int _ _, .row _ _ _, .row _ _ _, .row _ _ _, .row _ _ _, .row _ _ _, .row _ _ _]]⟩), (102, ⟨0, 2, [[.int _ _, .int _ _]]⟩)]) (h' := []) trivial rfl rfl rfl ?_
    refine W_false rfl ?_
    refine W_skip ?_
    refine W_seq ?_
    refine W_regV he rfl ?_
    refine v0 (sFP rfl rfl rfl) rfl ?_
    refine v0 (sLd rfl rfl) rfl ?_
    refine v0 (sLd rfl rfl) rfl ?_
    refine bndc h ?_; clear h; intro r3 hr3 h
    refine v0 (sCm (w_spec_PlaceOf K a0.fL a1 _ hr3) ok_spec_PlaceOf rfl rfl rfl rfl) rfl ?_
    refine v0 (sA rfl [] rfl) rfl ?_
    refine ve ?_
    refine W2 [2, 6] [101] [] (l := [(2, .c (.ptr _ _ _ _)), (6, .c (.int _ _))]) (h := [(101, ⟨0, 12, [[.int _ _, .int _ _, .int _ _, .int _ _, .int _ _, .int _ _, .row _ _ _, .row _ _ _, .row _ _ _, .row _ _ _, .row _ _ _, .row _ _ _]]⟩)]) (h' := []) trivial rfl rfl rfl ?_
    refine W_seq ?_
    refine W_seq ?_
    refine W_regV he rfl ?_
    refine v0 (sM rfl [] rfl) rfl ?_
    refine vB (sBi rfl rfl rfl rfl) rfl rfl fun b4 hb4 => ?_
    cases b4 with
    | true =>
      replace h := brT hb4 h
      refine v0 (sM rfl [] rfl) rfl ?_
      refine uP rfl rfl rfl rfl ?_
      refine uP rfl rfl rfl rfl ?_
      refine uP rfl rfl rfl rfl ?_
      refine uP rfl rfl rfl rfl ?_
      refine uP rfl rfl rfl rfl ?_
      refine v0 (sPk rfl [] rfl rfl) rfl ?_
      refine ve ?_
      refine W2 [6, 22] [] [] (l := [(6, .c (.int _ _)), (22, .c (.bool true))]) (h := []) (h' := []) trivial rfl rfl rfl ?_
      refine W_true rfl ?_
      refine W_seq ?_
      refine W_regV he rfl ?_
      refine v0 (sA rfl [] rfl) rfl ?_
      refine v0 (sA rfl [] rfl) rfl ?_
      refine ve ?_
      refine W2 [4, 5] [] [] (l := [(4, .c (.int _ _)), (5, .c (.int _ _))]) (h := []) (h' := []) trivial rfl rfl rfl ?_
      obtain rfl := Option.some.inj h
      exact W_ret (r0 rfl rfl)
    | false =>
      replace h := brF hb4 h
      refine v0 (sM rfl [] rfl) rfl ?_
      refine u0 (sFP rfl rfl rfl) rfl rfl rfl ?_
      refine u0 (sLd rfl rfl) rfl rfl rfl ?_
      refine u0 (sM rfl [] rfl) rfl rfl rfl ?_
      refine bndc h ?_; clear h; intro r5 hr5 h
      refine uB (sCm (w_spec_Alive K a0.fL r3 _ hr5) ok_spec_Alive rfl rfl rfl rfl) rfl rfl rfl rfl fun b6 hb6 => ?_
      cases b6 with
      | true =>
        replace h := brT hb6 h
        refine u0 (sNt rfl rfl) rfl rfl rfl ?_
        refine v0 (sPk rfl [] rfl rfl) rfl ?_
        refine ve ?_
        refine W2 [6, 22] [] [] (l := [(6, .c (.int _ _)), (22, .c (.bool false))]) (h := []) (h' := []) trivial rfl rfl rfl ?_
        refine W_false rfl ?_
        refine W_skip ?_
        refine W_seq ?_
        refine W_regV he rfl ?_
        refine v0 (sM rfl [] rfl) rfl ?_
        refine v0 (sA rfl [] rfl) rfl ?_
        refine v0 (sA rfl [] rfl) rfl ?_
        refine ve ?_
        refine W2 [4, 5] [] [] (l := [(4, .c (.int _ _)), (5, .c (.int _ _))]) (h := []) (h' := []) trivial rfl rfl rfl ?_
        obtain rfl := Option.some.inj h
        exact W_ret (r0 rfl rfl)
      | false =>
        replace h := brF hb6 h
        refine u0 (sNt rfl rfl) rfl rfl rfl ?_
        refine v0 (sPk rfl [] rfl rfl) rfl ?_
        refine ve ?_
        refine W2 [6, 22] [] [] (l := [(6, .c (.int _ _)), (22, .c (.bool true))]) (h := []) (h' := []) trivial rfl rfl rfl ?_
        refine W_true rfl ?_
        refine W_seq ?_
        refine W_regV he rfl ?_
        refine v0 (sA rfl [] rfl) rfl ?_
        refine v0 (sA rfl [] rfl) rfl ?_
        refine ve ?_
        refine W2 [4, 5] [] [] (l := [(4, .c (.int _ _)), (5, .c (.int _ _))]) (h := []) (h' := []) trivial rfl rfl rfl ?_
        obtain rfl := Option.some.inj h
        exact W_ret (r0 rfl rfl)
  | false =>
    replace h := brF hb2 h
    refine v0 (sNt rfl rfl) rfl ?_
    refine ve ?_
    refine W2 [2, 3, 9] [101, 102] [] (l := [(2, .c (.ptr _ _ _ _)), (3, .c (.ptr _ _ _ _)), (9, .c (.bool true))]) (h := [(101, ⟨0, 12, [[.int _ _, .int _ _, .int _ _, .int _ _, .int _ _, .int _ _, .row _ _ _, .row _ _ _, .row _ _ _, .row _ _ _, .row _ _ _, .row _ _ _]]⟩), (102, ⟨0, 2, [[.int _ _, .int _ _]]⟩)]) (h' := []) trivial rfl rfl rfl ?_
    refine W_true rfl ?_
    refine W_seq ?_
    refine W_regV he rfl ?_
    refine v0 (sA rfl [] rfl) rfl ?_
    refine v0 (sA rfl [] rfl) rfl ?_
    refine ve ?_
    refine W2 [4, 5] [] [] (l := [(4, .c (.int _ _)), (5, .c (.int _ _))]) (h := []) (h' := []) trivial rfl rfl rfl ?_
    obtain rfl := Option.some.inj h
    exact W_ret (r0 rfl rfl)
theorem ok_spec_FindRoom : FnOk Try.prog 59 := ⟨_, Try.func59, rfl, rfl⟩


/-! ### loop.example/g00499/spec.KidsOf -/
def l_spec_KidsOf_3 (K : Nat) (a0 : List T_impl_Node) : Nat → Int → (List Int) → Option ((List Int))
  | 0, _, _ => none
  | n3 + 1, v1, v2 => ((m_spec_l9Place K a0 v1).bind fun r4 => (bif r4 then (bif (decide ((v2.length : Int) < (a0.length : Int))) then (if (v2 ++ ([(iSub .i64 v1 1)] : List Int)).length * 8 ≤ 140737488355328 ∧ (v2 ++ ([(iSub .i64 v1 1)] : List Int)).length ≤ maxLen then (if (0 : Int) ≤ (iSub .i64 v1 1) ∧ (iSub .i64 v1 1) < (a0.length : Int) then (l_spec_KidsOf_3 K a0 n3 ((gt a0 (iSub .i64 v1 1)).fNext) (v2 ++ ([(iSub .i64 v1 1)] : List Int))) else none) else none) else some v2) else some v2))
def m_spec_KidsOf (K : Nat) (a0 : List T_impl_Node) (a1 : Int) : Option ((List Int)) := (l_spec_KidsOf_3 K a0 K a1 ([] : List Int))
set_option maxRecDepth 20000 in
set_option maxHeartbeats 8000000 in
theorem w_spec_KidsOf (K : Nat) (a0 : List T_impl_Node) (a1 : Int) (r : (List Int)) (h : m_spec_KidsOf K a0 a1 = some r) : Sp Try.prog 76 [.c (.row false 13 (a0.map en_impl_Node)), .c (.int .i64 a1)] [] (.c (.row false 1 (r.map en_i64))) [] := by
  refine Sp.of_W tabOk Try.func76 rfl rfl (Nat.le_of_ble_eq_true rfl) (Nat.le_of_ble_eq_true rfl) fun F hP hN hm => ?_
  obtain ⟨P, N, w0, σ0, β0, m⟩ := F
  obtain rfl : P = Try.prog := hP
  obtain rfl : N = 29 := hN
  obtain rfl : m = 1 := hm
  have he : Env ⟨Try.prog, 29, w0, σ0, β0, 1⟩ tab := ⟨Nat.le_of_ble_eq_true rfl, tabOk⟩
  unfold m_spec_KidsOf at h
  refine W_seq ?_
  refine W_regV he rfl ?_
  refine v0 (sA rfl [1] rfl) rfl ?_
  refine ve ?_
  refine W2 [0, 1] [] [] (l := [(0, .c (.row _ _ _)), (1, .c (.int _ _))]) (h := []) (h' := []) trivial rfl rfl rfl ?_
  refine W_seq ?_
  refine W_regV he rfl ?_
  refine v0 (sBS rfl 1005 (rows := ([] : List Int).map en_i64) rfl rfl rfl (by kernel_rfl) rfl rfl rfl rfl) rfl ?_
  refine v0 (sA rfl [] rfl) rfl ?_
  refine ve ?_
  refine W2 [0, 1, 5] [] [1005] (l := [(0, .c (.row _ _ _)), (1, .c (.int _ _)), (5, .c (.own _ _ _ _))]) (h := []) (h' := [(1005, ⟨0, 1, ([] : List Int).map en_i64⟩)]) ⟨⟨_, rfl, enOk_i64.allClosed _ _ ([] : List Int)⟩, trivial⟩ rfl rfl rfl ?_
  refine W_seq ?_
  refine W_block ?_
  refine W2 [0, 1, 5] [] [1005] (l := [(0, .c (.row _ _ _)), (1, .c (.int _ _)), (5, .c (.own _ _ _ _))]) (h := []) (h' := [(1005, ⟨0, 1, ([] : List Int).map en_i64⟩)]) ⟨⟨_, rfl, enOk_i64.allClosed _ _ ([] : List Int)⟩, trivial⟩ rfl rfl rfl ?_
  refine W_loopW (fun n3 S => ∃ (v1 : Int), ∃ (v2 : List Int), S = StL [(0, .c (.row false 13 (a0.map en_impl_Node))), (1, .c (.int .i64 v1)), (5, .c (.own 1005 0 0 v2.length))] ([] ++ [(1005, ⟨0, 1, v2.map en_i64⟩)]) ∧ l_spec_KidsOf_3 K a0 n3 v1 v2 = some r) K ⟨_, _, rfl, h⟩ ?_
  rintro n3 S ⟨v1, v2, rfl, h⟩
  cases n3 with
  | zero => simp [l_spec_KidsOf_3] at h
  | succ n3 =>
    rw [l_spec_KidsOf_3] at h
    refine W_seq ?_
    refine W_seq ?_
    refine W_regV he rfl ?_
    refine v0 (sM rfl [] rfl) rfl ?_
    refine v0 (sM rfl [] rfl) rfl ?_
    refine bndc h ?_; clear h; intro r4 hr4 h
    refine vB (sCm (w_spec_l9Place K a0 v1 _ hr4) ok_spec_l9Place rfl rfl rfl rfl) rfl rfl fun b5 hb5 => ?_
    cases b5 with
    | true =>
      replace h := brT hb5 h
      refine v0 (sM rfl [] rfl) rfl ?_
      refine u0 (sM rfl [] rfl) rfl rfl rfl ?_
      refine u0 (sLo rfl rfl rfl rfl) rfl rfl rfl ?_
      refine u0 (sM rfl [] rfl) rfl rfl rfl ?_
      refine u0 (sLm rfl rfl rfl rfl) rfl rfl rfl ?_
      refine uB (sBi rfl rfl rfl rfl) rfl rfl rfl rfl fun b6 hb6 => ?_
      cases b6 with
      | true =>
        replace h := brT hb6 h
        refine v0 (sPk rfl [] rfl rfl) rfl ?_
        refine ve ?_
        refine W2 [0, 1, 5, 16] [] [1005] (l := [(0, .c (.row _ _ _)), (1, .c (.int _ _)), (5, .c (.own _ _ _ _)), (16, .c (.bool true))]) (h := []) (h' := [(1005, ⟨0, 1, v2.map en_i64⟩)]) ⟨⟨_, rfl, enOk_i64.allClosed _ _ v2⟩, trivial⟩ rfl rfl rfl ?_
        refine W_true rfl ?_
        refine W_skip ?_
        refine W_block ?_
        refine W_seq ?_
        refine W_regV he rfl ?_
        refine v0 (sM rfl [] rfl) rfl ?_
        refine v0 (sM rfl [] rfl) rfl ?_
        refine v0 (sBi rfl rfl rfl rfl) rfl ?_
        refine v0 (sBS rfl 1020 (rows := ([(iSub .i64 v1 1)] : List Int).map en_i64) rfl rfl rfl (by kernel_rfl) rfl rfl rfl rfl) rfl ?_
        refine chkc h ?_; clear h; intro c7 h
        refine v0 (sAo rfl 1005 v2 ([(iSub .i64 v1 1)] : List Int) enOk_i64 rfl rfl rfl rfl rfl rfl rfl rfl rfl rfl rfl c7) rfl ?_
        refine v0 (sA rfl [] rfl) rfl ?_
        refine ve ?_
        refine W2 [0, 1, 5] [] [1005] (l := [(0, .c (.row _ _ _)), (1, .c (.int _ _)), (5, .c (.own _ _ _ _))]) (h := []) (h' := [(1005, ⟨0, 1, (v2 ++ ([(iSub .i64 v1 1)] : List Int)).map en_i64⟩)]) ⟨⟨_, rfl, enOk_i64.allClosed _ _ (v2 ++ ([(iSub .i64 v1 1)] : List Int))⟩, trivial⟩ rfl rfl rfl ?_
        refine W_regV he rfl ?_
        refine v0 (sM rfl [] rfl) rfl ?_
        refine v0 (sM rfl [] rfl) rfl ?_
        refine v0 (sBi rfl rfl rfl rfl) rfl ?_
        refine chkc h ?_; clear h; intro c8 h
        refine v0 (sIRm rfl rfl rfl rfl c8) rfl ?_
        refine v0 (sFI rfl rfl rfl) rfl ?_
        refine v0 (sLI rfl rfl (en_impl_Node (gt a0 (iSub .i64 v1 1))) (gt_at _ c8) rfl rfl rfl) rfl ?_
        refine v0 (sA rfl [] rfl) rfl ?_
        refine ve ?_
        exact ⟨n3, _, Nat.lt_succ_self n3, wk2 [0, 1, 5] [] [1005] (l := [(0, .c (.row _ _ _)), (1, .c (.int _ _)), (5, .c (.own _ _ _ _))]) (h := []) (h' := [(1005, ⟨0, 1, (v2 ++ ([(iSub .i64 v1 1)] : List Int)).map en_i64⟩)]) ⟨⟨_, rfl, enOk_i64.allClosed _ _ (v2 ++ ([(iSub .i64 v1 1)] : List Int))⟩, trivial⟩ rfl rfl rfl, _, _, rfl, h⟩
      | false =>
        replace h := brF hb6 h
        refine v0 (sPk rfl [] rfl rfl) rfl ?_
        refine ve ?_
        refine W2 [0, 1, 5, 16] [] [1005] (l := [(0, .c (.row _ _ _)), (1, .c (.int _ _)), (5, .c (.own _ _ _ _)), (16, .c (.bool false))]) (h := []) (h' := [(1005, ⟨0, 1, v2.map en_i64⟩)]) ⟨⟨_, rfl, enOk_i64.allClosed _ _ v2⟩, trivial⟩ rfl rfl rfl ?_
        refine W_false rfl ?_
        refine W_exit (ex_then (ex_then (ex_hit ?_)))
        refine W_seq ?_
        refine W_regV he rfl ?_
        refine v0 (sM rfl [] rfl) rfl ?_
        refine v0 (sA rfl [] rfl) rfl ?_
        refine ve ?_
        refine W2 [4] [] [1005] (l := [(4, .c (.own _ _ _ _))]) (h := []) (h' := [(1005, ⟨0, 1, v2.map en_i64⟩)]) ⟨⟨_, rfl, enOk_i64.allClosed _ _ v2⟩, trivial⟩ rfl rfl rfl ?_
        obtain rfl := Option.some.inj h
        refine W.weak (wk_row (l := v2) 4 enOk_i64 rfl rfl) ?_
        exact W_ret (r0 rfl rfl)
    | false =>
      replace h := brF hb5 h
      refine v0 (sM rfl [] rfl) rfl ?_
      refine uP rfl rfl rfl rfl ?_
      refine uP rfl rfl rfl rfl ?_
      refine uP rfl rfl rfl rfl ?_
      refine uP rfl rfl rfl rfl ?_
      refine uP rfl rfl rfl rfl ?_
      refine v0 (sPk rfl [] rfl rfl) rfl ?_
      refine ve ?_
      refine W2 [0, 1, 5, 16] [] [1005] (l := [(0, .c (.row _ _ _)), (1, .c (.int _ _)), (5, .c (.own _ _ _ _)), (16, .c (.bool false))]) (h := []) (h' := [(1005, ⟨0, 1, v2.map en_i64⟩)]) ⟨⟨_, rfl, enOk_i64.allClosed _ _ v2⟩, trivial⟩ rfl rfl rfl ?_
      refine W_false rfl ?_
      refine W_exit (ex_then (ex_then (ex_hit ?_)))
      refine W_seq ?_
      refine W_regV he rfl ?_
      refine v0 (sM rfl [] rfl) rfl ?_
      refine v0 (sA rfl [] rfl) rfl ?_
      refine ve ?_
      refine W2 [4] [] [1005] (l := [(4, .c (.own _ _ _ _))]) (h := []) (h' := [(1005, ⟨0, 1, v2.map en_i64⟩)]) ⟨⟨_, rfl, enOk_i64.allClosed _ _ v2⟩, trivial⟩ rfl rfl rfl ?_
      obtain rfl := Option.some.inj h
      refine W.weak (wk_row (l := v2) 4 enOk_i64 rfl rfl) ?_
      exact W_ret (r0 rfl rfl)
theorem ok_spec_KidsOf : FnOk Try.prog 76 := ⟨_, Try.func76, rfl, rfl⟩


/-! ### loop.example/g00499/spec.HandleAt -/
def m_spec_HandleAt (K : Nat) (a0 : List T_impl_Node) (a1 : Int) : Option (T_impl_Handle) := ((m_spec_l1In K a1 0 (iSub .i64 (a0.length : Int) 1)).bind fun r1 => (bif r1 then (if (0 : Int) ≤ a1 ∧ a1 < (a0.length : Int) then some (T_impl_Handle.mk a1 ((gt a0 a1).fGen)) else none) else some (T_impl_Handle.mk 0 0)))
set_option maxRecDepth 20000 in
set_option maxHeartbeats 8000000 in
theorem w_spec_HandleAt (K : Nat) (a0 : List T_impl_Node) (a1 : Int) (r : T_impl_Handle) (h : m_spec_HandleAt K a0 a1 = some r) : Sp Try.prog 77 [.c (.row false 13 (a0.map en_impl_Node)), .c (.int .i64 a1)] [] (.g [.int .i64 r.fSlot, .int .i64 r.fGen]) [] := by
  refine Sp.of_W tabOk Try.func77 rfl rfl (Nat.le_of_ble_eq_true rfl) (Nat.le_of_ble_eq_true rfl) fun F hP hN hm => ?_
  obtain ⟨P, N, w0, σ0, β0, m⟩ := F
  obtain rfl : P = Try.prog := hP
  obtain rfl : N = 19 := hN
  obtain rfl : m = 1 := hm
  have he : Env ⟨Try.prog, 19, w0, σ0, β0, 1⟩ tab := ⟨Nat.le_of_ble_eq_true rfl, tabOk⟩
  unfold m_spec_HandleAt at h
  refine W_seq ?_
  refine W_regV he rfl ?_
  refine v0 (sAl rfl rfl 101 rfl) rfl ?_
  refine ve ?_
  refine W2 [0, 1, 4] [101] [] (l := [(0, .c (.row _ _ _)), (1, .c (.int _ _)), (4, .c (.ptr _ _ _ _))]) (h := [(101, ⟨0, 2, [[.int _ _, .int _ _]]⟩)]) (h' := []) trivial rfl rfl rfl ?_
  refine W_seq ?_
  refine W_seq ?_
  refine W_regV he rfl ?_
  refine v0 (sM rfl [] rfl) rfl ?_
  refine v0 (sM rfl [] rfl) rfl ?_
  refine v0 (sLm rfl rfl rfl rfl) rfl ?_
  refine v0 (sBi rfl rfl rfl rfl) rfl ?_
  refine bndc h ?_; clear h; intro r1 hr1 h
  refine vB (sCm (w_spec_l1In K a1 0 (iSub .i64 (a0.length : Int) 1) _ hr1) ok_spec_l1In rfl rfl rfl rfl) rfl rfl fun b2 hb2 => ?_
  cases b2 with
  | true =>
    replace h := brT hb2 h
    refine v0 (sNt rfl rfl) rfl ?_
    refine ve ?_
    refine W2 [0, 1, 4, 10] [101] [] (l := [(0, .c (.row _ _ _)), (1, .c (.int _ _)), (4, .c (.ptr _ _ _ _)), (10, .c (.bool false))]) (h := [(101, ⟨0, 2, [[.int _ _, .int _ _]]⟩)]) (h' := []) trivial rfl rfl rfl ?_
    refine W_false rfl ?_
    refine W_skip ?_
    refine W_seq ?_
    refine W_regV he rfl ?_
    refine v0 (sM rfl [] rfl) rfl ?_
    refine v0 (sM rfl [] rfl) rfl ?_
    refine v0 (sM rfl [] rfl) rfl ?_
    refine chkc h ?_; clear h; intro c3 h
    refine v0 (sIRm rfl rfl rfl rfl c3) rfl ?_
    refine v0 (sFI rfl rfl rfl) rfl ?_
    refine v0 (sLI rfl rfl (en_impl_Node (gt a0 a1)) (gt_at _ c3) rfl rfl rfl) rfl ?_
    refine v0 (sBd rfl [[], []] (out := [.int .i64 a1, .int .i64 ((gt a0 a1).fGen)]) rfl (by kernel_rfl)) rfl ?_
    refine v0 (sSt rfl rfl [] rfl rfl) rfl ?_
    refine ve ?_
    refine W2 [4] [101] [] (l := [(4, .c (.ptr _ _ _ _))]) (h := [(101, ⟨0, 2, [[.int _ _, .int _ _]]⟩)]) (h' := []) trivial rfl rfl rfl ?_
    obtain rfl := Option.some.inj h
    exact W_ret (r0 rfl rfl)
  | false =>
    replace h := brF hb2 h
    refine v0 (sNt rfl rfl) rfl ?_
    refine ve ?_
    refine W2 [0, 1, 4, 10] [101] [] (l := [(0, .c (.row _ _ _)), (1, .c (.int _ _)), (4, .c (.ptr _ _ _ _)), (10, .c (.bool true))]) (h := [(101, ⟨0, 2, [[.int _ _, .int _ _]]⟩)]) (h' := []) trivial rfl rfl rfl ?_
    refine W_true rfl ?_
    refine W_seq ?_
    refine W_regV he rfl ?_
    refine v0 (sBd rfl [] (out := [.int .i64 0, .int .i64 0]) rfl (by kernel_rfl)) rfl ?_
    refine v0 (sSt rfl rfl [] rfl rfl) rfl ?_
    refine ve ?_
    refine W2 [4] [101] [] (l := [(4, .c (.ptr _ _ _ _))]) (h := [(101, ⟨0, 2, [[.int _ _, .int _ _]]⟩)]) (h' := []) trivial rfl rfl rfl ?_
    obtain rfl := Option.some.inj h
    exact W_ret (r0 rfl rfl)
theorem ok_spec_HandleAt : FnOk Try.prog 77 := ⟨_, Try.func77, rfl, rfl⟩


/-! ### loop.example/g00499/spec.KidsIn -/
def l_spec_KidsIn_7 (K : Nat) (a0 : T_impl_World) (r4 : (List Int)) : Nat → (List T_impl_Handle) → Int → Option ((List T_impl_Handle))
  | 0, _, _ => none
  | n7 + 1, v5, v6 => (bif (decide (v6 < (r4.length : Int))) then (if (0 : Int) ≤ v6 ∧ v6 < (r4.length : Int) then ((m_spec_HandleAt K a0.fL (gt r4 v6)).bind fun r10 => (if (v5 ++ ([r10] : List T_impl_Handle)).length * 16 ≤ 140737488355328 ∧ (v5 ++ ([r10] : List T_impl_Handle)).length ≤ maxLen then (l_spec_KidsIn_7 K a0 r4 n7 (v5 ++ ([r10] : List T_impl_Handle)) (iAdd .i64 v6 1)) else none)) else none) else some v5)
def m_spec_KidsIn (K : Nat) (a0 : T_impl_World) (a1 : T_impl_Handle) : Option ((List T_impl_Handle)) := ((m_spec_FindRoom K a0 a1).bind fun r1 => (bif (r1.2 != 0) then some ([] : List T_impl_Handle) else (if (0 : Int) ≤ r1.1 ∧ r1.1 < (a0.fL.length : Int) then ((m_spec_KidsOf K a0.fL ((gt a0.fL r1.1).fFirst)).bind fun r4 => (l_spec_KidsIn_7 K a0 r4 K ([] : List T_impl_Handle) 0)) else none)))
set_option maxRecDepth 20000 in
set_option maxHeartbeats 8000000 in
theorem w_spec_KidsIn (K : Nat) (a0 : T_impl_World) (a1 : T_impl_Handle) (r : (List T_impl_Handle)) (h : m_spec_KidsIn K a0 a1 = some r) : Sp Try.prog 35 [.g [.int .i64 a0.fC.fChunks, .int .i64 a0.fC.fSize, .int .i64 a0.fC.fSlots, .int .i64 a0.fC.fTax, .int .i64 a0.fC.fSlice, .int .i64 a0.fC.fGens, .row false 1 (a0.fP.fMem.map en_u8), .row false 1 (a0.fP.fSt.map en_i64), .row false 1 (a0.fP.fOwn.map en_i64), .row false 13 (a0.fL.map en_impl_Node), .row false 5 (a0.fQ.map en_impl_Waste), .row false 1 (a0.fLog.map en_i64)], .g [.int .i64 a1.fSlot, .int .i64 a1.fGen]] [] (.c (.row false 2 (r.map en_impl_Handle))) [] := by
  refine Sp.of_W tabOk Try.func35 rfl rfl (Nat.le_of_ble_eq_true rfl) (Nat.le_of_ble_eq_true rfl) fun F hP hN hm => ?_
  obtain ⟨P, N, w0, σ0, β0, m⟩ := F
  obtain rfl : P = Try.prog := hP
  obtain rfl : N = 46 := hN
  obtain rfl : m = 1 := hm
  have he : Env ⟨Try.prog, 46, w0, σ0, β0, 1⟩ tab := ⟨Nat.le_of_ble_eq_true rfl, tabOk⟩
  unfold m_spec_KidsIn at h
  refine W_seq ?_
  refine W_regV he rfl ?_
  refine v0 (sBx rfl [] rfl rfl 101 rfl) rfl ?_
  refine v0 (sBx rfl [] rfl rfl 102 rfl) rfl ?_
  refine v0 (sA rfl [2] rfl) rfl ?_
  refine ve ?_
  refine W2 [2, 3] [101, 102] [] (l := [(2, .c (.ptr _ _ _ _)), (3, .c (.ptr _ _ _ _))]) (h := [(101, ⟨0, 12, [[.int _ _, .int _ _, .int _ _, .int _ _, .int _ _, .int _ _, .row _ _ _, .row _ _ _, .row _ _ _, .row _ _ _, .row _ _ _, .row _ _ _]]⟩), (102, ⟨0, 2, [[.int _ _, .int _ _]]⟩)]) (h' := []) trivial rfl rfl rfl ?_
  refine W_seq ?_
  refine W_regV he rfl ?_
  refine v0 (sBS rfl 1005 (rows := ([] : List T_impl_Handle).map en_impl_Handle) rfl rfl rfl (by kernel_rfl) rfl rfl rfl rfl) rfl ?_
  refine v0 (sA rfl [] rfl) rfl ?_
  refine ve ?_
  refine W2 [2, 3, 5] [101, 102] [1005] (l := [(2, .c (.ptr _ _ _ _)), (3, .c (.ptr _ _ _ _)), (5, .c (.own _ _ _ _))]) (h := [(101, ⟨0, 12, [[.int _ _, .int _ _, .int _ _, .int _ _, .int _ _, .int _ _, .row _ _ _, .row _ _ _, .row _ _ _, .row _ _ _, .row _ _ _, .row _ _ _]]⟩), (102, ⟨0, 2, [[.int _ _, .int _ _]]⟩)]) (h' := [(1005, ⟨0, 2, ([] : List T_impl_Handle).map en_impl_Handle⟩)]) ⟨⟨_, rfl, enOk_impl_Handle.allClosed _ _ ([] : List T_impl_Handle)⟩, trivial⟩ rfl rfl rfl ?_
  refine W_seq ?_
  refine W_regV he rfl ?_
  refine v0 (sLd rfl rfl) rfl ?_
  refine v0 (sLd rfl rfl) rfl ?_
  refine bndc h ?_; clear h; intro r1 hr1 h
  refine v0 (sCm (w_spec_FindRoom K a0 a1 _ hr1) ok_spec_FindRoom rfl rfl rfl rfl) rfl ?_
  refine v0 (sM rfl [] rfl) rfl ?_
  refine v0 (sEx rfl rfl rfl) rfl ?_
  refine v0 (sEx rfl rfl rfl) rfl ?_
  refine v0 (sA rfl [] rfl) rfl ?_
  refine v0 (sA rfl [] rfl) rfl ?_
  refine ve ?_
  refine W2 [2, 5, 6, 7] [101] [1005] (l := [(2, .c (.ptr _ _ _ _)), (5, .c (.own _ _ _ _)), (6, .c (.int _ _)), (7, .c (.int _ _))]) (h := [(101, ⟨0, 12, [[.int _ _, .int _ _, .int _ _, .int _ _, .int _ _, .int _ _, .row _ _ _, .row _ _ _, .row _ _ _, .row _ _ _, .row _ _ _, .row _ _ _]]⟩)]) (h' := [(1005, ⟨0, 2, ([] : List T_impl_Handle).map en_impl_Handle⟩)]) ⟨⟨_, rfl, enOk_impl_Handle.allClosed _ _ ([] : List T_impl_Handle)⟩, trivial⟩ rfl rfl rfl ?_
  refine W_seq ?_
  refine W_seq ?_
  refine W_regV he rfl ?_
  refine v0 (sM rfl [] rfl) rfl ?_
  refine vB (sBi rfl rfl rfl rfl) rfl rfl fun b2 hb2 => ?_
  cases b2 with
  | true =>
    replace h := brT hb2 h
    refine ve ?_
    refine W2 [2, 5, 6, 18] [101] [1005] (l := [(2, .c (.ptr _ _ _ _)), (5, .c (.own _ _ _ _)), (6, .c (.int _ _)), (18, .c (.bool true))]) (h := [(101, ⟨0, 12, [[.int _ _, .int _ _, .int _ _, .int _ _, .int _ _, .int _ _, .row _ _ _, .row _ _ _, .row _ _ _, .row _ _ _, .row _ _ _, .row _ _ _]]⟩)]) (h' := [(1005, ⟨0, 2, ([] : List T_impl_Handle).map en_impl_Handle⟩)]) ⟨⟨_, rfl, enOk_impl_Handle.allClosed _ _ ([] : List T_impl_Handle)⟩, trivial⟩ rfl rfl rfl ?_
    refine W_true rfl ?_
    refine W_seq ?_
    refine W_regV he rfl ?_
    refine v0 (sM rfl [] rfl) rfl ?_
    refine v0 (sA rfl [] rfl) rfl ?_
    refine ve ?_
    refine W2 [4] [] [1005] (l := [(4, .c (.own _ _ _ _))]) (h := []) (h' := [(1005, ⟨0, 2, ([] : List T_impl_Handle).map en_impl_Handle⟩)]) ⟨⟨_, rfl, enOk_impl_Handle.allClosed _ _ ([] : List T_impl_Handle)⟩, trivial⟩ rfl rfl rfl ?_
    obtain rfl := Option.some.inj h
    refine W.weak (wk_row (l := ([] : List T_impl_Handle)) 4 enOk_impl_Handle rfl rfl) ?_
    exact W_ret (r0 rfl rfl)
  | false =>
    replace h := brF hb2 h
    refine ve ?_
    refine W2 [2, 5, 6, 18] [101] [1005] (l := [(2, .c (.ptr _ _ _ _)), (5, .c (.own _ _ _ _)), (6, .c (.int _ _)), (18, .c (.bool false))]) (h := [(101, ⟨0, 12, [[.int _ _, .int _ _, .int _ _, .int _ _, .int _ _, .int _ _, .row _ _ _, .row _ _ _, .row _ _ _, .row _ _ _, .row _ _ _, .row _ _ _]]⟩)]) (h' := [(1005, ⟨0, 2, ([] : List T_impl_Handle).map en_impl_Handle⟩)]) ⟨⟨_, rfl, enOk_impl_Handle.allClosed _ _ ([] : List T_impl_Handle)⟩, trivial⟩ rfl rfl rfl ?_
    refine W_false rfl ?_
    refine W_skip ?_
    refine W_seq ?_
    refine W_regD he rfl rfl rfl ?_
    refine g0 (sFP rfl rfl rfl) rfl ?_
    refine g0 (sLd rfl rfl) rfl ?_
    refine g0 (sFP rfl rfl rfl) rfl ?_
    refine g0 (sLd rfl rfl) rfl ?_
    refine g0 (sM rfl [] rfl) rfl ?_
    refine chkc h ?_; clear h; intro c3 h
    refine g0 (sIRm rfl rfl rfl rfl c3) rfl ?_
    refine g0 (sFI rfl rfl rfl) rfl ?_
    refine g0 (sLI rfl rfl (en_impl_Node (gt a0.fL r1.1)) (gt_at _ c3) rfl rfl rfl) rfl ?_
    refine bndc h ?_; clear h; intro r4 hr4 h
    refine g0 (sCm (w_spec_KidsOf K a0.fL ((gt a0.fL r1.1).fFirst) _ hr4) ok_spec_KidsOf rfl rfl rfl rfl) rfl ?_
    refine g0 (sA rfl [] rfl) rfl ?_
    refine ge ⟨rfl, ?_⟩
    refine W2 [2, 5, 8] [101] [1005] (l := [(2, .c (.ptr _ _ _ _)), (5, .c (.own _ _ _ _)), (8, .c (.row _ _ _))]) (h := [(101, ⟨0, 12, [[.int _ _, .int _ _, .int _ _, .int _ _, .int _ _, .int _ _, .row _ _ _, .row _ _ _, .row _ _ _, .row _ _ _, .row _ _ _, .row _ _ _]]⟩)]) (h' := [(1005, ⟨0, 2, ([] : List T_impl_Handle).map en_impl_Handle⟩)]) ⟨⟨_, rfl, enOk_impl_Handle.allClosed _ _ ([] : List T_impl_Handle)⟩, trivial⟩ rfl rfl rfl ?_
    refine W_seq ?_
    refine W_seq ?_
    refine W_regV he rfl ?_
    refine v0 (sA rfl [] rfl) rfl ?_
    refine ve ?_
    refine W2 [2, 5, 8, 9] [101] [1005] (l := [(2, .c (.ptr _ _ _ _)), (5, .c (.own _ _ _ _)), (8, .c (.row _ _ _)), (9, .c (.int _ _))]) (h := [(101, ⟨0, 12, [[.int _ _, .int _ _, .int _ _, .int _ _, .int _ _, .int _ _, .row _ _ _, .row _ _ _, .row _ _ _, .row _ _ _, .row _ _ _, .row _ _ _]]⟩)]) (h' := [(1005, ⟨0, 2, ([] : List T_impl_Handle).map en_impl_Handle⟩)]) ⟨⟨_, rfl, enOk_impl_Handle.allClosed _ _ ([] : List T_impl_Handle)⟩, trivial⟩ rfl rfl rfl ?_
    refine W_block ?_
    refine W2 [2, 5, 8, 9] [101] [1005] (l := [(2, .c (.ptr _ _ _ _)), (5, .c (.own _ _ _ _)), (8, .c (.row _ _ _)), (9, .c (.int _ _))]) (h := [(101, ⟨0, 12, [[.int _ _, .int _ _, .int _ _, .int _ _, .int _ _, .int _ _, .row _ _ _, .row _ _ _, .row _ _ _, .row _ _ _, .row _ _ _, .row _ _ _]]⟩)]) (h' := [(1005, ⟨0, 2, ([] : List T_impl_Handle).map en_impl_Handle⟩)]) ⟨⟨_, rfl, enOk_impl_Handle.allClosed _ _ ([] : List T_impl_Handle)⟩, trivial⟩ rfl rfl rfl ?_
    refine W_loopW (fun n7 S => ∃ (v5 : List T_impl_Handle), ∃ (v6 : Int), S = StL [(2, .c (.ptr 101 0 0 0)), (5, .c (.own 1005 0 0 v5.length)), (8, .c (.row false 1 (r4.map en_i64))), (9, .c (.int .i64 v6))] ([(101, ⟨0, 12, [[.int .i64 a0.fC.fChunks, .int .i64 a0.fC.fSize, .int .i64 a0.fC.fSlots, .int .i64 a0.fC.fTax, .int .i64 a0.fC.fSlice, .int .i64 a0.fC.fGens, .row false 1 (a0.fP.fMem.map en_u8), .row false 1 (a0.fP.fSt.map en_i64), .row false 1 (a0.fP.fOwn.map en_i64), .row false 13 (a0.fL.map en_impl_Node), .row false 5 (a0.fQ.map en_impl_Waste), .row false 1 (a0.fLog.map en_i64)]]⟩)] ++ [(1005, ⟨0, 2, v5.map en_impl_Handle⟩)]) ∧ l_spec_KidsIn_7 K a0 r4 n7 v5 v6 = some r) K ⟨_, _, rfl, h⟩ ?_
    rintro n7 S ⟨v5, v6, rfl, h⟩
    cases n7 with
    | zero => simp [l_spec_KidsIn_7] at h
    | succ n7 =>
      rw [l_spec_KidsIn_7] at h
      refine W_seq ?_
      refine W_seq ?_
      refine W_regV he rfl ?_
      refine v0 (sM rfl [] rfl) rfl ?_
      refine v0 (sM rfl [] rfl) rfl ?_
      refine v0 (sLm rfl rfl rfl rfl) rfl ?_
      refine vB (sBi rfl rfl rfl rfl) rfl rfl fun b8 hb8 => ?_
      cases b8 with
      | true =>
        replace h := brT hb8 h
        refine ve ?_
        refine W2 [2, 5, 8, 9, 32] [101] [1005] (l := [(2, .c (.ptr _ _ _ _)), (5, .c (.own _ _ _ _)), (8, .c (.row _ _ _)), (9, .c (.int _ _)), (32, .c (.bool true))]) (h := [(101, ⟨0, 12, [[.int _ _, .int _ _, .int _ _, .int _ _, .int _ _, .int _ _, .row _ _ _, .row _ _ _, .row _ _ _, .row _ _ _, .row _ _ _, .row _ _ _]]⟩)]) (h' := [(1005, ⟨0, 2, v5.map en_impl_Handle⟩)]) ⟨⟨_, rfl, enOk_impl_Handle.allClosed _ _ v5⟩, trivial⟩ rfl rfl rfl ?_
        refine W_true rfl ?_
        refine W_skip ?_
        refine W_seq ?_
        refine W_block ?_
        refine W_regD he rfl rfl rfl ?_
        refine g0 (sM rfl [] rfl) rfl ?_
        refine g0 (sFP rfl rfl rfl) rfl ?_
        refine g0 (sLd rfl rfl) rfl ?_
        refine g0 (sM rfl [] rfl) rfl ?_
        refine g0 (sM rfl [] rfl) rfl ?_
        refine chkc h ?_; clear h; intro c9 h
        refine g0 (sIRm rfl rfl rfl rfl c9) rfl ?_
        refine g0 (sLI rfl rfl (en_i64 (gt r4 v6)) (gt_at _ c9) rfl rfl rfl) rfl ?_
        refine bndc h ?_; clear h; intro r10 hr10 h
        refine g0 (sCm (w_spec_HandleAt K a0.fL (gt r4 v6) _ hr10) ok_spec_HandleAt rfl rfl rfl rfl) rfl ?_
        refine g0 (sBS rfl 1043 (rows := ([r10] : List T_impl_Handle).map en_impl_Handle) rfl rfl rfl (by kernel_rfl) rfl rfl rfl rfl) rfl ?_
        refine chkc h ?_; clear h; intro c11 h
        refine g0 (sAo rfl 1005 v5 ([r10] : List T_impl_Handle) enOk_impl_Handle rfl rfl rfl rfl rfl rfl rfl rfl rfl rfl rfl c11) rfl ?_
        refine g0 (sA rfl [] rfl) rfl ?_
        refine ge ⟨rfl, ?_⟩
        refine W2 [2, 5, 8, 9] [101] [1005] (l := [(2, .c (.ptr _ _ _ _)), (5, .c (.own _ _ _ _)), (8, .c (.row _ _ _)), (9, .c (.int _ _))]) (h := [(101, ⟨0, 12, [[.int _ _, .int _ _, .int _ _, .int _ _, .int _ _, .int _ _, .row _ _ _, .row _ _ _, .row _ _ _, .row _ _ _, .row _ _ _, .row _ _ _]]⟩)]) (h' := [(1005, ⟨0, 2, (v5 ++ ([r10] : List T_impl_Handle)).map en_impl_Handle⟩)]) ⟨⟨_, rfl, enOk_impl_Handle.allClosed _ _ (v5 ++ ([r10] : List T_impl_Handle))⟩, trivial⟩ rfl rfl rfl ?_
        refine W_regV he rfl ?_
        refine v0 (sM rfl [] rfl) rfl ?_
        refine v0 (sBi rfl rfl rfl rfl) rfl ?_
        refine v0 (sA rfl [] rfl) rfl ?_
        refine ve ?_
        exact ⟨n7, _, Nat.lt_succ_self n7, wk2 [2, 5, 8, 9] [101] [1005] (l := [(2, .c (.ptr _ _ _ _)), (5, .c (.own _ _ _ _)), (8, .c (.row _ _ _)), (9, .c (.int _ _))]) (h := [(101, ⟨0, 12, [[.int _ _, .int _ _, .int _ _, .int _ _, .int _ _, .int _ _, .row _ _ _, .row _ _ _, .row _ _ _, .row _ _ _, .row _ _ _, .row _ _ _]]⟩)]) (h' := [(1005, ⟨0, 2, (v5 ++ ([r10] : List T_impl_Handle)).map en_impl_Handle⟩)]) ⟨⟨_, rfl, enOk_impl_Handle.allClosed _ _ (v5 ++ ([r10] : List T_impl_Handle))⟩, trivial⟩ rfl rfl rfl, _, _, rfl, h⟩
      | false =>
        replace h := brF hb8 h
        refine ve ?_
        refine W2 [2, 5, 8, 9, 32] [101] [1005] (l := [(2, .c (.ptr _ _ _ _)), (5, .c (.own _ _ _ _)), (8, .c (.row _ _ _)), (9, .c (.int _ _)), (32, .c (.bool false))]) (h := [(101, ⟨0, 12, [[.int _ _, .int _ _, .int _ _, .int _ _, .int _ _, .int _ _, .row _ _ _, .row _ _ _, .row _ _ _, .row _ _ _, .row _ _ _, .row _ _ _]]⟩)]) (h' := [(1005, ⟨0, 2, v5.map en_impl_Handle⟩)]) ⟨⟨_, rfl, enOk_impl_Handle.allClosed _ _ v5⟩, trivial⟩ rfl rfl rfl ?_
        refine W_false rfl ?_
        refine W_exit (ex_then (ex_then (ex_hit ?_)))
        refine W_seq ?_
        refine W_regV he rfl ?_
        refine v0 (sM rfl [] rfl) rfl ?_
        refine v0 (sA rfl [] rfl) rfl ?_
        refine ve ?_
        refine W2 [4] [] [1005] (l := [(4, .c (.own _ _ _ _))]) (h := []) (h' := [(1005, ⟨0, 2, v5.map en_impl_Handle⟩)]) ⟨⟨_, rfl, enOk_impl_Handle.allClosed _ _ v5⟩, trivial⟩ rfl rfl rfl ?_
        obtain rfl := Option.some.inj h
        refine W.weak (wk_row (l := v5) 4 enOk_impl_Handle rfl rfl) ?_
        exact W_ret (r0 rfl rfl)
theorem ok_spec_KidsIn : FnOk Try.prog 35 := ⟨_, Try.func35, rfl, rfl⟩


/-! ### loop.example/g00499/laws.toByteS -/
set_option maxRecDepth 20000 in
set_option maxHeartbeats 8000000 in
theorem wo_laws_toByteS (K : Nat) (a0 : List Int) (r : (List Int)) (h : m_laws_toByteS K a0 = some r) : Sp Try.prog 84 [.c (.row false 1 (a0.map en_u8))] [] (.c (.own 1 0 0 r.length)) [⟨0, 1, r.map en_u8⟩] := by
  refine Sp.of_W tabOk Try.func84 rfl rfl (Nat.le_of_ble_eq_true rfl) (Nat.le_of_ble_eq_true rfl) fun F hP hN hm => ?_
  obtain ⟨P, N, w0, σ0, β0, m⟩ := F
  obtain rfl : P = Try.prog := hP
  obtain rfl : N = 22 := hN
  obtain rfl : m = 1 := hm
  have he : Env ⟨Try.prog, 22, w0, σ0, β0, 1⟩ tab := ⟨Nat.le_of_ble_eq_true rfl, tabOk⟩
  unfold m_laws_toByteS at h
  refine W_seq ?_
  refine W_regV he rfl ?_
  refine v0 (sA rfl [1] rfl) rfl ?_
  refine ve ?_
  refine W2 [0] [] [] (l := [(0, .c (.row _ _ _))]) (h := []) (h' := []) trivial rfl rfl rfl ?_
  refine W_seq ?_
  refine W_regV he rfl ?_
  refine v0 (sM rfl [] rfl) rfl ?_
  refine v0 (sLm rfl rfl rfl rfl) rfl ?_
  refine chkc h ?_; clear h; intro c1 h
  refine v0 (sMkm rfl 1003 (f := en_u8) 0 rfl rfl rfl rfl rfl rfl rfl rfl rfl c1) rfl ?_
  refine v0 (sA rfl [] rfl) rfl ?_
  refine ve ?_
  refine W2 [0, 3] [] [1003] (l := [(0, .c (.row _ _ _)), (3, .c (.own _ _ _ _))]) (h := []) (h' := [(1003, ⟨0, 1, (List.replicate (a0.length : Int).toNat 0).map en_u8⟩)]) ⟨⟨_, rfl, enOk_u8.allClosed _ _ (List.replicate (a0.length : Int).toNat 0)⟩, trivial⟩ rfl rfl rfl ?_
  refine W_seq ?_
  refine W_seq ?_
  refine W_regV he rfl ?_
  refine v0 (sA rfl [] rfl) rfl ?_
  refine ve ?_
  refine W2 [0, 3, 4] [] [1003] (l := [(0, .c (.row _ _ _)), (3, .c (.own _ _ _ _)), (4, .c (.int _ _))]) (h := []) (h' := [(1003, ⟨0, 1, (List.replicate (a0.length : Int).toNat 0).map en_u8⟩)]) ⟨⟨_, rfl, enOk_u8.allClosed _ _ (List.replicate (a0.length : Int).toNat 0)⟩, trivial⟩ rfl rfl rfl ?_
  refine W_block ?_
  refine W2 [0, 3, 4] [] [1003] (l := [(0, .c (.row _ _ _)), (3, .c (.own _ _ _ _)), (4, .c (.int _ _))]) (h := []) (h' := [(1003, ⟨0, 1, (List.replicate (a0.length : Int).toNat 0).map en_u8⟩)]) ⟨⟨_, rfl, enOk_u8.allClosed _ _ (List.replicate (a0.length : Int).toNat 0)⟩, trivial⟩ rfl rfl rfl ?_
  refine W_loopW (fun n4 S => ∃ (v2 : Int), ∃ (v3 : List Int), S = StL [(0, .c (.row false 1 (a0.map en_u8))), (3, .c (.own 1003 0 0 v3.length)), (4, .c (.int .i64 v2))] ([] ++ [(1003, ⟨0, 1, v3.map en_u8⟩)]) ∧ l_laws_toByteS_4 K a0 n4 v2 v3 = some r) K ⟨_, _, rfl, h⟩ ?_
  rintro n4 S ⟨v2, v3, rfl, h⟩
  cases n4 with
  | zero => simp [l_laws_toByteS_4] at h
  | succ n4 =>
    rw [l_laws_toByteS_4] at h
    refine W_seq ?_
    refine W_seq ?_
    refine W_regV he rfl ?_
    refine v0 (sM rfl [] rfl) rfl ?_
    refine v0 (sM rfl [] rfl) rfl ?_
    refine v0 (sLm rfl rfl rfl rfl) rfl ?_
    refine vB (sBi rfl rfl rfl rfl) rfl rfl fun b5 hb5 => ?_
    cases b5 with
    | true =>
      replace h := brT hb5 h
      refine ve ?_
      refine W2 [0, 3, 4, 11] [] [1003] (l := [(0, .c (.row _ _ _)), (3, .c (.own _ _ _ _)), (4, .c (.int _ _)), (11, .c (.bool true))]) (h := []) (h' := [(1003, ⟨0, 1, v3.map en_u8⟩)]) ⟨⟨_, rfl, enOk_u8.allClosed _ _ v3⟩, trivial⟩ rfl rfl rfl ?_
      refine W_true rfl ?_
      refine W_skip ?_
      refine W_seq ?_
      refine W_block ?_
      refine W_regV he rfl ?_
      refine v0 (sM rfl [] rfl) rfl ?_
      refine v0 (sM rfl [] rfl) rfl ?_
      refine v0 (sM rfl [] rfl) rfl ?_
      refine v0 (sM rfl [] rfl) rfl ?_
      refine chkc h ?_; clear h; intro c6 h
      refine v0 (sIRm rfl rfl rfl rfl c6) rfl ?_
      refine v0 (sLI rfl rfl (en_u8 (gt a0 v2)) (gt_at _ c6) rfl rfl rfl) rfl ?_
      refine chkc h ?_; clear h; intro c7 h
      refine v0 (sIOm rfl rfl rfl c7) rfl ?_
      refine v0 (sSkm rfl rfl [] v3 (gt a0 v2) c7 rfl rfl rfl rfl rfl rfl rfl rfl rfl) rfl ?_
      refine ve ?_
      refine W.weak (wk_len 3 (n' := (v3.set v2.toNat (gt a0 v2)).length) (by simp only [List.length_set]) rfl) ?_
      refine W2 [0, 3, 4] [] [1003] (l := [(0, .c (.row _ _ _)), (3, .c (.own _ _ _ _)), (4, .c (.int _ _))]) (h := []) (h' := [(1003, ⟨0, 1, (v3.set v2.toNat (gt a0 v2)).map en_u8⟩)]) ⟨⟨_, rfl, enOk_u8.allClosed _ _ (v3.set v2.toNat (gt a0 v2))⟩, trivial⟩ rfl rfl rfl ?_
      refine W_regV he rfl ?_
      refine v0 (sM rfl [] rfl) rfl ?_
      refine v0 (sBi rfl rfl rfl rfl) rfl ?_
      refine v0 (sA rfl [] rfl) rfl ?_
      refine ve ?_
      exact ⟨n4, _, Nat.lt_succ_self n4, wk2 [0, 3, 4] [] [1003] (l := [(0, .c (.row _ _ _)), (3, .c (.own _ _ _ _)), (4, .c (.int _ _))]) (h := []) (h' := [(1003, ⟨0, 1, (v3.set v2.toNat (gt a0 v2)).map en_u8⟩)]) ⟨⟨_, rfl, enOk_u8.allClosed _ _ (v3.set v2.toNat (gt a0 v2))⟩, trivial⟩ rfl rfl rfl, _, _, rfl, h⟩
    | false =>
      replace h := brF hb5 h
      refine ve ?_
      refine W2 [0, 3, 4, 11] [] [1003] (l := [(0, .c (.row _ _ _)), (3, .c (.own _ _ _ _)), (4, .c (.int _ _)), (11, .c (.bool false))]) (h := []) (h' := [(1003, ⟨0, 1, v3.map en_u8⟩)]) ⟨⟨_, rfl, enOk_u8.allClosed _ _ v3⟩, trivial⟩ rfl rfl rfl ?_
      refine W_false rfl ?_
      refine W_exit (ex_then (ex_then (ex_hit ?_)))
      refine W_seq ?_
      refine W_regV he rfl ?_
      refine v0 (sM rfl [] rfl) rfl ?_
      refine v0 (sA rfl [] rfl) rfl ?_
      refine ve ?_
      refine W2 [2] [] [1003] (l := [(2, .c (.own _ _ _ _))]) (h := []) (h' := [(1003, ⟨0, 1, v3.map en_u8⟩)]) ⟨⟨_, rfl, enOk_u8.allClosed _ _ v3⟩, trivial⟩ rfl rfl rfl ?_
      obtain rfl := Option.some.inj h
      exact W_ret (retOne 0 1003 (.inl rfl) enOk_u8 rfl rfl rfl)


/-! ### loop.example/g00499/laws.toIntS -/
set_option maxRecDepth 20000 in
set_option maxHeartbeats 8000000 in
theorem wo_laws_toIntS (K : Nat) (a0 : List Int) (r : (List Int)) (h : m_laws_toIntS K a0 = some r) : Sp Try.prog 51 [.c (.row false 1 (a0.map en_i64))] [] (.c (.own 1 0 0 r.length)) [⟨0, 1, r.map en_i64⟩] := by
  refine Sp.of_W tabOk Try.func51 rfl rfl (Nat.le_of_ble_eq_true rfl) (Nat.le_of_ble_eq_true rfl) fun F hP hN hm => ?_
  obtain ⟨P, N, w0, σ0, β0, m⟩ := F
  obtain rfl : P = Try.prog := hP
  obtain rfl : N = 22 := hN
  obtain rfl : m = 1 := hm
  have he : Env ⟨Try.prog, 22, w0, σ0, β0, 1⟩ tab := ⟨Nat.le_of_ble_eq_true rfl, tabOk⟩
  unfold m_laws_toIntS at h
  refine W_seq ?_
  refine W_regV he rfl ?_
  refine v0 (sA rfl [1] rfl) rfl ?_
  refine ve ?_
  refine W2 [0] [] [] (l := [(0, .c (.row _ _ _))]) (h := []) (h' := []) trivial rfl rfl rfl ?_
  refine W_seq ?_
  refine W_regV he rfl ?_
  refine v0 (sM rfl [] rfl) rfl ?_
  refine v0 (sLm rfl rfl rfl rfl) rfl ?_
  refine chkc h ?_; clear h; intro c1 h
  refine v0 (sMkm rfl 1003 (f := en_i64) 0 rfl rfl rfl rfl rfl rfl rfl rfl rfl c1) rfl ?_
  refine v0 (sA rfl [] rfl) rfl ?_
  refine ve ?_
  refine W2 [0, 3] [] [1003] (l := [(0, .c (.row _ _ _)), (3, .c (.own _ _ _ _))]) (h := []) (h' := [(1003, ⟨0, 1, (List.replicate (a0.length : Int).toNat 0).map en_i64⟩)]) ⟨⟨_, rfl, enOk_i64.allClosed _ _ (List.replicate (a0.length : Int).toNat 0)⟩, trivial⟩ rfl rfl rfl ?_
  refine W_seq ?_
  refine W_seq ?_
  refine W_regV he rfl ?_
  refine v0 (sA rfl [] rfl) rfl ?_
  refine ve ?_
  refine W2 [0, 3, 4] [] [1003] (l := [(0, .c (.row _ _ _)), (3, .c (.own _ _ _ _)), (4, .c (.int _ _))]) (h := []) (h' := [(1003, ⟨0, 1, (List.replicate (a0.length : Int).toNat 0).map en_i64⟩)]) ⟨⟨_, rfl, enOk_i64.allClosed _ _ (List.replicate (a0.length : Int).toNat 0)⟩, trivial⟩ rfl rfl rfl ?_
  refine W_block ?_
  refine W2 [0, 3, 4] [] [1003] (l := [(0, .c (.row _ _ _)), (3, .c (.own _ _ _ _)), (4, .c (.int _ _))]) (h := []) (h' := [(1003, ⟨0, 1, (List.replicate (a0.length : Int).toNat 0).map en_i64⟩)]) ⟨⟨_, rfl, enOk_i64.allClosed _ _ (List.replicate (a0.length : Int).toNat 0)⟩, trivial⟩ rfl rfl rfl ?_
  refine W_loopW (fun n4 S => ∃ (v2 : Int), ∃ (v3 : List Int), S = StL [(0, .c (.row false 1 (a0.map en_i64))), (3, .c (.own 1003 0 0 v3.length)), (4, .c (.int .i64 v2))] ([] ++ [(1003, ⟨0, 1, v3.map en_i64⟩)]) ∧ l_laws_toIntS_4 K a0 n4 v2 v3 = some r) K ⟨_, _, rfl, h⟩ ?_
  rintro n4 S ⟨v2, v3, rfl, h⟩
  cases n4 with
  | zero => simp [l_laws_toIntS_4] at h
  | succ n4 =>
    rw [l_laws_toIntS_4] at h
    refine W_seq ?_
    refine W_seq ?_
    refine W_regV he rfl ?_
    refine v0 (sM rfl [] rfl) rfl ?_
    refine v0 (sM rfl [] rfl) rfl ?_
    refine v0 (sLm rfl rfl rfl rfl) rfl ?_
    refine vB (sBi rfl rfl rfl rfl) rfl rfl fun b5 hb5 => ?_
    cases b5 with
    | true =>
      replace h := brT hb5 h
      refine ve ?_
      refine W2 [0, 3, 4, 11] [] [1003] (l := [(0, .c (.row _ _ _)), (3, .c (.own _ _ _ _)), (4, .c (.int _ _)), (11, .c (.bool true))]) (h := []) (h' := [(1003, ⟨0, 1, v3.map en_i64⟩)]) ⟨⟨_, rfl, enOk_i64.allClosed _ _ v3⟩, trivial⟩ rfl rfl rfl ?_
      refine W_true rfl ?_
      refine W_skip ?_
      refine W_seq ?_
      refine W_block ?_
      refine W_regV he rfl ?_
      refine v0 (sM rfl [] rfl) rfl ?_
      refine v0 (sM rfl [] rfl) rfl ?_
      refine v0 (sM rfl [] rfl) rfl ?_
      refine v0 (sM rfl [] rfl) rfl ?_
      refine chkc h ?_; clear h; intro c6 h
      refine v0 (sIRm rfl rfl rfl rfl c6) rfl ?_
      refine v0 (sLI rfl rfl (en_i64 (gt a0 v2)) (gt_at _ c6) rfl rfl rfl) rfl ?_
      refine chkc h ?_; clear h; intro c7 h
      refine v0 (sIOm rfl rfl rfl c7) rfl ?_
      refine v0 (sSkm rfl rfl [] v3 (gt a0 v2) c7 rfl rfl rfl rfl rfl rfl rfl rfl rfl) rfl ?_
      refine ve ?_
      refine W.weak (wk_len 3 (n' := (v3.set v2.toNat (gt a0 v2)).length) (by simp only [List.length_set]) rfl) ?_
      refine W2 [0, 3, 4] [] [1003] (l := [(0, .c (.row _ _ _)), (3, .c (.own _ _ _ _)), (4, .c (.int _ _))]) (h := []) (h' := [(1003, ⟨0, 1, (v3.set v2.toNat (gt a0 v2)).map en_i64⟩)]) ⟨⟨_, rfl, enOk_i64.allClosed _ _ (v3.set v2.toNat (gt a0 v2))⟩, trivial⟩ rfl rfl rfl ?_
      refine W_regV he rfl ?_
      refine v0 (sM rfl [] rfl) rfl ?_
      refine v0 (sBi rfl rfl rfl rfl) rfl ?_
      refine v0 (sA rfl [] rfl) rfl ?_
      refine ve ?_
      exact ⟨n4, _, Nat.lt_succ_self n4, wk2 [0, 3, 4] [] [1003] (l := [(0, .c (.row _ _ _)), (3, .c (.own _ _ _ _)), (4, .c (.int _ _))]) (h := []) (h' := [(1003, ⟨0, 1, (v3.set v2.toNat (gt a0 v2)).map en_i64⟩)]) ⟨⟨_, rfl, enOk_i64.allClosed _ _ (v3.set v2.toNat (gt a0 v2))⟩, trivial⟩ rfl rfl rfl, _, _, rfl, h⟩
    | false =>
      replace h := brF hb5 h
      refine ve ?_
      refine W2 [0, 3, 4, 11] [] [1003] (l := [(0, .c (.row _ _ _)), (3, .c (.own _ _ _ _)), (4, .c (.int _ _)), (11, .c (.bool false))]) (h := []) (h' := [(1003, ⟨0, 1, v3.map en_i64⟩)]) ⟨⟨_, rfl, enOk_i64.allClosed _ _ v3⟩, trivial⟩ rfl rfl rfl ?_
      refine W_false rfl ?_
      refine W_exit (ex_then (ex_then (ex_hit ?_)))
      refine W_seq ?_
      refine W_regV he rfl ?_
      refine v0 (sM rfl [] rfl) rfl ?_
      refine v0 (sA rfl [] rfl) rfl ?_
      refine ve ?_
      refine W2 [2] [] [1003] (l := [(2, .c (.own _ _ _ _))]) (h := []) (h' := [(1003, ⟨0, 1, v3.map en_i64⟩)]) ⟨⟨_, rfl, enOk_i64.allClosed _ _ v3⟩, trivial⟩ rfl rfl rfl ?_
      obtain rfl := Option.some.inj h
      exact W_ret (retOne 0 1003 (.inl rfl) enOk_i64 rfl rfl rfl)


/-! ### loop.example/g00499/laws.toPool -/
set_option maxRecDepth 20000 in
set_option maxHeartbeats 8000000 in
theorem wo_laws_toPool (K : Nat) (a0 : T_laws_Pool) (r : T_impl_Pool) (h : m_laws_toPool K a0 = some r) : Sp Try.prog 48 [.g [.row false 1 (a0.fMem.map en_u8), .row false 1 (a0.fSt.map en_i64), .row false 1 (a0.fOwn.map en_i64)]] [] (.g [.own 1 0 0 r.fMem.length, .own 2 0 0 r.fSt.length, .own 3 0 0 r.fOwn.length]) [⟨0, 1, r.fMem.map en_u8⟩, ⟨0, 1, r.fSt.map en_i64⟩, ⟨0, 1, r.fOwn.map en_i64⟩] := by
  refine Sp.of_W tabOk Try.func48 rfl rfl (Nat.le_of_ble_eq_true rfl) (Nat.le_of_ble_eq_true rfl) fun F hP hN hm => ?_
  obtain ⟨P, N, w0, σ0, β0, m⟩ := F
  obtain rfl : P = Try.prog := hP
  obtain rfl : N = 17 := hN
  obtain rfl : m = 1 := hm
  have he : Env ⟨Try.prog, 17, w0, σ0, β0, 1⟩ tab := ⟨Nat.le_of_ble_eq_true rfl, tabOk⟩
  unfold m_laws_toPool at h
  refine W_seq ?_
  refine W_regV he rfl ?_
  refine v0 (sBx rfl [] rfl rfl 101 rfl) rfl ?_
  refine v0 (sAl rfl rfl 102 rfl) rfl ?_
  refine ve ?_
  refine W2 [1, 2] [101, 102] [] (l := [(1, .c (.ptr _ _ _ _)), (2, .c (.ptr _ _ _ _))]) (h := [(101, ⟨0, 3, [[.row _ _ _, .row _ _ _, .row _ _ _]]⟩), (102, ⟨0, 3, [[.row _ _ _, .row _ _ _, .row _ _ _]]⟩)]) (h' := []) trivial rfl rfl rfl ?_
  refine W_seq ?_
  refine W_regV he rfl ?_
  refine v0 (sAl rfl rfl 103 rfl) rfl ?_
  refine ve ?_
  refine W2 [1, 2, 3] [101, 102, 103] [] (l := [(1, .c (.ptr _ _ _ _)), (2, .c (.ptr _ _ _ _)), (3, .c (.ptr _ _ _ _))]) (h := [(101, ⟨0, 3, [[.row _ _ _, .row _ _ _, .row _ _ _]]⟩), (102, ⟨0, 3, [[.row _ _ _, .row _ _ _, .row _ _ _]]⟩), (103, ⟨0, 3, [[.row _ _ _, .row _ _ _, .row _ _ _]]⟩)]) (h' := []) trivial rfl rfl rfl ?_
  refine W_seq ?_
  refine W_regV he rfl ?_
  refine v0 (sFP rfl rfl rfl) rfl ?_
  refine v0 (sLd rfl rfl) rfl ?_
  refine bndc h ?_; clear h; intro r1 hr1 h
  refine v0 (sCo (wo_laws_toByteS K a0.fMem _ hr1) ok_laws_toByteS (fun _ => rfl) [] 1006 rfl rfl rfl rfl rfl) rfl ?_
  refine v0 (sFP rfl rfl rfl) rfl ?_
  refine v0 (sSt rfl rfl [] rfl rfl) rfl ?_
  refine ve ?_
  refine W2 [1, 2, 3] [101, 102, 103] [1006] (l := [(1, .c (.ptr _ _ _ _)), (2, .c (.ptr _ _ _ _)), (3, .c (.ptr _ _ _ _))]) (h := [(101, ⟨0, 3, [[.row _ _ _, .row _ _ _, .row _ _ _]]⟩), (102, ⟨0, 3, [[.row _ _ _, .row _ _ _, .row _ _ _]]⟩), (103, ⟨0, 3, [[.own _ _ _ _, .row _ _ _, .row _ _ _]]⟩)]) (h' := [(1006, ⟨0, 1, r1.map en_u8⟩)]) ⟨⟨_, rfl, enOk_u8.allClosed _ _ r1⟩, trivial⟩ rfl rfl rfl ?_
  refine W_seq ?_
  refine W_regV he rfl ?_
  refine v0 (sFP rfl rfl rfl) rfl ?_
  refine v0 (sLd rfl rfl) rfl ?_
  refine bndc h ?_; clear h; intro r2 hr2 h
  refine v0 (sCo (wo_laws_toIntS K a0.fSt _ hr2) ok_laws_toIntS (fun _ => rfl) [] 1010 rfl rfl rfl rfl rfl) rfl ?_
  refine v0 (sFP rfl rfl rfl) rfl ?_
  refine v0 (sSt rfl rfl [] rfl rfl) rfl ?_
  refine ve ?_
  refine W2 [1, 2, 3] [101, 102, 103] [1006, 1010] (l := [(1, .c (.ptr _ _ _ _)), (2, .c (.ptr _ _ _ _)), (3, .c (.ptr _ _ _ _))]) (h := [(101, ⟨0, 3, [[.row _ _ _, .row _ _ _, .row _ _ _]]⟩), (102, ⟨0, 3, [[.row _ _ _, .row _ _ _, .row _ _ _]]⟩), (103, ⟨0, 3, [[.own _ _ _ _, .own _ _ _ _, .row _ _ _]]⟩)]) (h' := [(1006, ⟨0, 1, r1.map en_u8⟩), (1010, ⟨0, 1, r2.map en_i64⟩)]) ⟨⟨_, rfl, enOk_u8.allClosed _ _ r1⟩, ⟨⟨_, rfl, enOk_i64.allClosed _ _ r2⟩, trivial⟩⟩ rfl rfl rfl ?_
  refine W_seq ?_
  refine W_regV he rfl ?_
  refine v0 (sFP rfl rfl rfl) rfl ?_
  refine v0 (sLd rfl rfl) rfl ?_
  refine bndc h ?_; clear h; intro r3 hr3 h
  refine v0 (sCo (wo_laws_toIntS K a0.fOwn _ hr3) ok_laws_toIntS (fun _ => rfl) [] 1014 rfl rfl rfl rfl rfl) rfl ?_
  refine v0 (sFP rfl rfl rfl) rfl ?_
  refine v0 (sSt rfl rfl [] rfl rfl) rfl ?_
  refine ve ?_
  refine W2 [2, 3] [102, 103] [1006, 1010, 1014] (l := [(2, .c (.ptr _ _ _ _)), (3, .c (.ptr _ _ _ _))]) (h := [(102, ⟨0, 3, [[.row _ _ _, .row _ _ _, .row _ _ _]]⟩), (103, ⟨0, 3, [[.own _ _ _ _, .own _ _ _ _, .own _ _ _ _]]⟩)]) (h' := [(1006, ⟨0, 1, r1.map en_u8⟩), (1010, ⟨0, 1, r2.map en_i64⟩), (1014, ⟨0, 1, r3.map en_i64⟩)]) ⟨⟨_, rfl, enOk_u8.allClosed _ _ r1⟩, ⟨⟨_, rfl, enOk_i64.allClosed _ _ r2⟩, ⟨⟨_, rfl, enOk_i64.allClosed _ _ r3⟩, trivial⟩⟩⟩ rfl rfl rfl ?_
  refine W_seq ?_
  refine W_regV he rfl ?_
  refine v0 (sLd rfl rfl) rfl ?_
  refine v0 (sSt rfl rfl [] rfl rfl) rfl ?_
  refine ve ?_
  refine W2 [2] [102] [1006, 1010, 1014] (l := [(2, .c (.ptr _ _ _ _))]) (h := [(102, ⟨0, 3, [[.own _ _ _ _, .own _ _ _ _, .own _ _ _ _]]⟩)]) (h' := [(1006, ⟨0, 1, r1.map en_u8⟩), (1010, ⟨0, 1, r2.map en_i64⟩), (1014, ⟨0, 1, r3.map en_i64⟩)]) ⟨⟨_, rfl, enOk_u8.allClosed _ _ r1⟩, ⟨⟨_, rfl, enOk_i64.allClosed _ _ r2⟩, ⟨⟨_, rfl, enOk_i64.allClosed _ _ r3⟩, trivial⟩⟩⟩ rfl rfl rfl ?_
  obtain rfl := Option.some.inj h
  exact W_ret (retG 0 [1006, 1010, 1014] (by decide) rfl rfl rfl rfl (bl_cons (see_En enOk_u8 rfl) (bl_cons (see_En enOk_i64 rfl) (bl_cons (see_En enOk_i64 rfl) (bl_nil)))))


/-! ### loop.example/g00499/laws.toThingS -/
set_option maxRecDepth 20000 in
set_option maxHeartbeats 8000000 in
theorem wo_laws_toThingS (K : Nat) (a0 : List T_laws_Thing) (r : (List T_impl_Thing)) (h : m_laws_toThingS K a0 = some r) : Sp Try.prog 113 [.c (.row false 3 (a0.map en_laws_Thing))] [] (.c (.own 1 0 0 r.length)) [⟨0, 3, r.map en_impl_Thing⟩] := by
  refine Sp.of_W tabOk Try.func113 rfl rfl (Nat.le_of_ble_eq_true rfl) (Nat.le_of_ble_eq_true rfl) fun F hP hN hm => ?_
  obtain ⟨P, N, w0, σ0, β0, m⟩ := F
  obtain rfl : P = Try.prog := hP
  obtain rfl : N = 23 := hN
  obtain rfl : m = 1 := hm
  have he : Env ⟨Try.prog, 23, w0, σ0, β0, 1⟩ tab := ⟨Nat.le_of_ble_eq_true rfl, tabOk⟩
  unfold m_laws_toThingS at h
  refine W_seq ?_
  refine W_regV he rfl ?_
  refine v0 (sA rfl [3] rfl) rfl ?_
  refine ve ?_
  refine W2 [0] [] [] (l := [(0, .c (.row _ _ _))]) (h := []) (h' := []) trivial rfl rfl rfl ?_
  refine W_seq ?_
  refine W_regV he rfl ?_
  refine v0 (sM rfl [] rfl) rfl ?_
  refine v0 (sLm rfl rfl rfl rfl) rfl ?_
  refine chkc h ?_; clear h; intro c1 h
  refine v0 (sMkm rfl 1003 (f := en_impl_Thing) (T_impl_Thing.mk 0 0 0) rfl rfl rfl rfl rfl rfl rfl rfl rfl c1) rfl ?_
  refine v0 (sA rfl [] rfl) rfl ?_
  refine ve ?_
  refine W2 [0, 3] [] [1003] (l := [(0, .c (.row _ _ _)), (3, .c (.own _ _ _ _))]) (h := []) (h' := [(1003, ⟨0, 3, (List.replicate (a0.length : Int).toNat (T_impl_Thing.mk 0 0 0)).map en_impl_Thing⟩)]) ⟨⟨_, rfl, enOk_impl_Thing.allClosed _ _ (List.replicate (a0.length : Int).toNat (T_impl_Thing.mk 0 0 0))⟩, trivial⟩ rfl rfl rfl ?_
  refine W_seq ?_
  refine W_seq ?_
  refine W_regV he rfl ?_
  refine v0 (sA rfl [] rfl) rfl ?_
  refine ve ?_
  refine W2 [0, 3, 4] [] [1003] (l := [(0, .c (.row _ _ _)), (3, .c (.own _ _ _ _)), (4, .c (.int _ _))]) (h := []) (h' := [(1003, ⟨0, 3, (List.replicate (a0.length : Int).toNat (T_impl_Thing.mk 0 0 0)).map en_impl_Thing⟩)]) ⟨⟨_, rfl, enOk_impl_Thing.allClosed _ _ (List.replicate (a0.length : Int).toNat (T_impl_Thing.mk 0 0 0))⟩, trivial⟩ rfl rfl rfl ?_
  refine W_block ?_
  refine W2 [0, 3, 4] [] [1003] (l := [(0, .c (.row _ _ _)), (3, .c (.own _ _ _ _)), (4, .c (.int _ _))]) (h := []) (h' := [(1003, ⟨0, 3, (List.replicate (a0.length : Int).toNat (T_impl_Thing.mk 0 0 0)).map en_impl_Thing⟩)]) ⟨⟨_, rfl, enOk_impl_Thing.allClosed _ _ (List.replicate (a0.length : Int).toNat (T_impl_Thing.mk 0 0 0))⟩, trivial⟩ rfl rfl rfl ?_
  refine W_loopW (fun n4 S => ∃ (v2 : Int), ∃ (v3 : List T_impl_Thing), S = StL [(0, .c (.row false 3 (a0.map en_laws_Thing))), (3, .c (.own 1003 0 0 v3.length)), (4, .c (.int .i64 v2))] ([] ++ [(1003, ⟨0, 3, v3.map en_impl_Thing⟩)]) ∧ l_laws_toThingS_4 K a0 n4 v2 v3 = some r) K ⟨_, _, rfl, h⟩ ?_
  rintro n4 S ⟨v2, v3, rfl, h⟩
  cases n4 with
  | zero => simp [l_laws_toThingS_4] at h
  | succ n4 =>
    rw [l_laws_toThingS_4] at h
    refine W_seq ?_
    refine W_seq ?_
    refine W_regV he rfl ?_
    refine v0 (sM rfl [] rfl) rfl ?_
    refine v0 (sM rfl [] rfl) rfl ?_
    refine v0 (sLm rfl rfl rfl rfl) rfl ?_
    refine vB (sBi rfl rfl rfl rfl) rfl rfl fun b5 hb5 => ?_
    cases b5 with
    | true =>
      replace h := brT hb5 h
      refine ve ?_
      refine W2 [0, 3, 4, 11] [] [1003] (l := [(0, .c (.row _ _ _)), (3, .c (.own _ _ _ _)), (4, .c (.int _ _)), (11, .c (.bool true))]) (h := []) (h' := [(1003, ⟨0, 3, v3.map en_impl_Thing⟩)]) ⟨⟨_, rfl, enOk_impl_Thing.allClosed _ _ v3⟩, trivial⟩ rfl rfl rfl ?_
      refine W_true rfl ?_
      refine W_skip ?_
      refine W_seq ?_
      refine W_block ?_
      refine W_regV he rfl ?_
      refine v0 (sM rfl [] rfl) rfl ?_
      refine v0 (sM rfl [] rfl) rfl ?_
      refine v0 (sM rfl [] rfl) rfl ?_
      refine v0 (sM rfl [] rfl) rfl ?_
      refine chkc h ?_; clear h; intro c6 h
      refine v0 (sIRm rfl rfl rfl rfl c6) rfl ?_
      refine v0 (sLI rfl rfl (en_laws_Thing (gt a0 v2)) (gt_at _ c6) rfl rfl rfl) rfl ?_
      refine bndc h ?_; clear h; intro r7 hr7 h
      refine v0 (sCm (w_laws_toThing K (gt a0 v2) _ hr7) ok_laws_toThing rfl rfl rfl rfl) rfl ?_
      refine chkc h ?_; clear h; intro c8 h
      refine v0 (sIOm rfl rfl rfl c8) rfl ?_
      refine v0 (sSkm rfl rfl [] v3 r7 c8 rfl rfl rfl rfl rfl rfl rfl rfl rfl) rfl ?_
      refine ve ?_
      refine W.weak (wk_len 3 (n' := (v3.set v2.toNat r7).length) (by simp only [List.length_set]) rfl) ?_
      refine W2 [0, 3, 4] [] [1003] (l := [(0, .c (.row _ _ _)), (3, .c (.own _ _ _ _)), (4, .c (.int _ _))]) (h := []) (h' := [(1003, ⟨0, 3, (v3.set v2.toNat r7).map en_impl_Thing⟩)]) ⟨⟨_, rfl, enOk_impl_Thing.allClosed _ _ (v3.set v2.toNat r7)⟩, trivial⟩ rfl rfl rfl ?_
      refine W_regV he rfl ?_
      refine v0 (sM rfl [] rfl) rfl ?_
      refine v0 (sBi rfl rfl rfl rfl) rfl ?_
      refine v0 (sA rfl [] rfl) rfl ?_
      refine ve ?_
      exact ⟨n4, _, Nat.lt_succ_self n4, wk2 [0, 3, 4] [] [1003] (l := [(0, .c (.row _ _ _)), (3, .c (.own _ _ _ _)), (4, .c (.int _ _))]) (h := []) (h' := [(1003, ⟨0, 3, (v3.set v2.toNat r7).map en_impl_Thing⟩)]) ⟨⟨_, rfl, enOk_impl_Thing.allClosed _ _ (v3.set v2.toNat r7)⟩, trivial⟩ rfl rfl rfl, _, _, rfl, h⟩
    | false =>
      replace h := brF hb5 h
      refine ve ?_
      refine W2 [0, 3, 4, 11] [] [1003] (l := [(0, .c (.row _ _ _)), (3, .c (.own _ _ _ _)), (4, .c (.int _ _)), (11, .c (.bool false))]) (h := []) (h' := [(1003, ⟨0, 3, v3.map en_impl_Thing⟩)]) ⟨⟨_, rfl, enOk_impl_Thing.allClosed _ _ v3⟩, trivial⟩ rfl rfl rfl ?_
      refine W_false rfl ?_
      refine W_exit (ex_then (ex_then (ex_hit ?_)))
      refine W_seq ?_
      refine W_regV he rfl ?_
      refine v0 (sM rfl [] rfl) rfl ?_
      refine v0 (sA rfl [] rfl) rfl ?_
      refine ve ?_
      refine W2 [2] [] [1003] (l := [(2, .c (.own _ _ _ _))]) (h := []) (h' := [(1003, ⟨0, 3, v3.map en_impl_Thing⟩)]) ⟨⟨_, rfl, enOk_impl_Thing.allClosed _ _ v3⟩, trivial⟩ rfl rfl rfl ?_
      obtain rfl := Option.some.inj h
      exact W_ret (retOne 0 1003 (.inl rfl) enOk_impl_Thing rfl rfl rfl)


/-! ### loop.example/g00499/laws.toNode -/
set_option maxRecDepth 20000 in
set_option maxHeartbeats 8000000 in
theorem wo_laws_toNode (K : Nat) (a0 : T_laws_Node) (r : T_impl_Node) (h : m_laws_toNode K a0 = some r) : Sp Try.prog 85 [.g [.int .i64 a0.fSt, .int .i64 a0.fGen, .int .i64 a0.fEp, .int .i64 a0.fUp, .int .i64 a0.fUpEp, .int .i64 a0.fFirst, .int .i64 a0.fNext, .int .i64 a0.fPrev, .row false 1 (a0.fChunks.map en_i64), .int .i64 a0.fCur, .int .i64 a0.fBump, .row false 3 (a0.fThings.map en_laws_Thing), .row false 1 (a0.fTags.map en_i64)]] [] (.g [.int .i64 r.fSt, .int .i64 r.fGen, .int .i64 r.fEp, .int .i64 r.fUp, .int .i64 r.fUpEp, .int .i64 r.fFirst, .int .i64 r.fNext, .int .i64 r.fPrev, .own 1 0 0 r.fChunks.length, .int .i64 r.fCur, .int .i64 r.fBump, .own 2 0 0 r.fThings.length, .own 3 0 0 r.fTags.length]) [⟨0, 1, r.fChunks.map en_i64⟩, ⟨0, 3, r.fThings.map en_impl_Thing⟩, ⟨0, 1, r.fTags.map en_i64⟩] := by
  refine Sp.of_W tabOk Try.func85 rfl rfl (Nat.le_of_ble_eq_true rfl) (Nat.le_of_ble_eq_true rfl) fun F hP hN hm => ?_
  obtain ⟨P, N, w0, σ0, β0, m⟩ := F
  obtain rfl : P = Try.prog := hP
  obtain rfl : N = 47 := hN
  obtain rfl : m = 1 := hm
  have he : Env ⟨Try.prog, 47, w0, σ0, β0, 1⟩ tab := ⟨Nat.le_of_ble_eq_true rfl, tabOk⟩
  unfold m_laws_toNode at h
  refine W_seq ?_
  refine W_regV he rfl ?_
  refine v0 (sBx rfl [] rfl rfl 101 rfl) rfl ?_
  refine v0 (sAl rfl rfl 102 rfl) rfl ?_
  refine ve ?_
  refine W2 [1, 2] [101, 102] [] (l := [(1, .c (.ptr _ _ _ _)), (2, .c (.ptr _ _ _ _))]) (h := [(101, ⟨0, 13, [[.int _ _, .int _ _, .int _ _, .int _ _, .int _ _, .int _ _, .int _ _, .int _ _, .row _ _ _, .int _ _, .int _ _, .row _ _ _, .row _ _ _]]⟩), (102, ⟨0, 13, [[.int _ _, .int _ _, .int _ _, .int _ _, .int _ _, .int _ _, .int _ _, .int _ _, .row _ _ _, .int _ _, .int _ _, .row _ _ _, .row _ _ _]]⟩)]) (h' := []) trivial rfl rfl rfl ?_
  refine W_seq ?_
  refine W_regV he rfl ?_
  refine v0 (sAl rfl rfl 103 rfl) rfl ?_
  refine ve ?_
  refine W2 [1, 2, 3] [101, 102, 103] [] (l := [(1, .c (.ptr _ _ _ _)), (2, .c (.ptr _ _ _ _)), (3, .c (.ptr _ _ _ _))]) (h := [(101, ⟨0, 13, [[.int _ _, .int _ _, .int _ _, .int _ _, .int _ _, .int _ _, .int _ _, .int _ _, .row _ _ _, .int _ _, .int _ _, .row _ _ _, .row _ _ _]]⟩), (102, ⟨0, 13, [[.int _ _, .int _ _, .int _ _, .int _ _, .int _ _, .int _ _, .int _ _, .int _ _, .row _ _ _, .int _ _, .int _ _, .row _ _ _, .row _ _ _]]⟩), (103, ⟨0, 13, [[.int _ _, .int _ _, .int _ _, .int _ _, .int _ _, .int _ _, .int _ _, .int _ _, .row _ _ _, .int _ _, .int _ _, .row _ _ _, .row _ _ _]]⟩)]) (h' := []) trivial rfl rfl rfl ?_
  refine W_seq ?_
  refine W_regV he rfl ?_
  refine v0 (sFP rfl rfl rfl) rfl ?_
  refine v0 (sLd rfl rfl) rfl ?_
  refine v0 (sFP rfl rfl rfl) rfl ?_
  refine v0 (sSt rfl rfl [] rfl rfl) rfl ?_
  refine ve ?_
  refine W2 [1, 2, 3] [101, 102, 103] [] (l := [(1, .c (.ptr _ _ _ _)), (2, .c (.ptr _ _ _ _)), (3, .c (.ptr _ _ _ _))]) (h := [(101, ⟨0, 13, [[.int _ _, .int _ _, .int _ _, .int _ _, .int _ _, .int _ _, .int _ _, .int _ _, .row _ _ _, .int _ _, .int _ _, .row _ _ _, .row _ _ _]]⟩), (102, ⟨0, 13, [[.int _ _, .int _ _, .int _ _, .int _ _, .int _ _, .int _ _, .int _ _, .int _ _, .row _ _ _, .int _ _, .int _ _, .row _ _ _, .row _ _ _]]⟩), (103, ⟨0, 13, [[.int _ _, .int _ _, .int _ _, .int _ _, .int _ _, .int _ _, .int _ _, .int _ _, .row _ _ _, .int _ _, .int _ _, .row _ _ _, .row _ _ _]]⟩)]) (h' := []) trivial rfl rfl rfl ?_
  refine W_seq ?_
  refine W_regV he rfl ?_
  refine v0 (sFP rfl rfl rfl) rfl ?_
  refine v0 (sLd rfl rfl) rfl ?_
  refine v0 (sFP rfl rfl rfl) rfl ?_
  refine v0 (sSt rfl rfl [] rfl rfl) rfl ?_
  refine ve ?_
  refine W2 [1, 2, 3] [101, 102, 103] [] (l := [(1, .c (.ptr _ _ _ _)), (2, .c (.ptr _ _ _ _)), (3, .c (.ptr _ _ _ _))]) (h := [(101, ⟨0, 13, [[.int _ _, .int _ _, .int _ _, .int _ _, .int _ _, .int _ _, .int _ _, .int _ _, .row _ _ _, .int _ _, .int _ _, .row _ _ _, .row _ _ _]]⟩), (102, ⟨0, 13, [[.int _ _, .int _ _, .int _ _, .int _ _, .int _ _, .int _ _, .int _ _, .int _ _, .row _ _ _, .int _ _, .int _ _, .row _ _ _, .row _ _ _]]⟩), (103, ⟨0, 13, [[.int _ _, .int _ _, .int _ _, .int _ _, .int _ _, .int _ _, .int _ _, .int _ _, .row _ _ _, .int _ _, .int _ _, .row _ _ _, .row _ _ _]]⟩)]) (h' := []) trivial rfl rfl rfl ?_
  refine W_seq ?_
  refine W_regV he rfl ?_
  refine v0 (sFP rfl rfl rfl) rfl ?_
  refine v0 (sLd rfl rfl) rfl ?_
  refine v0 (sFP rfl rfl rfl) rfl ?_
  refine v0 (sSt rfl rfl [] rfl rfl) rfl ?_
  refine ve ?_
  refine W2 [1, 2, 3] [101, 102, 103] [] (l := [(1, .c (.ptr _ _ _ _)), (2, .c (.ptr _ _ _ _)), (3, .c (.ptr _ _ _ _))]) (h := [(101, ⟨0, 13, [[.int _ _, .int _ _, .int _ _, .int _ _, .int _ _, .int _ _, .int _ _, .int _ _, .row _ _ _, .int _ _, .int _ _, .row _ _ _, .row _ _ _]]⟩), (102, ⟨0, 13, [[.int _ _, .int _ _, .int _ _, .int _ _, .int _ _, .int _ _, .int _ _, .int _ _, .row _ _ _, .int _ _, .int _ _, .row _ _ _, .row _ _ _]]⟩), (103, ⟨0, 13, [[.int _ _, .int _ _, .int _ _, .int _ _, .int _ _, .int _ _, .int _ _, .int _ _, .row _ _ _, .int _ _, .int _ _, .row _ _ _, .row _ _ _]]⟩)]) (h' := []) trivial rfl rfl rfl ?_
  refine W_seq ?_
  refine W_regV he rfl ?_
  refine v0 (sFP rfl rfl rfl) rfl ?_
  refine v0 (sLd rfl rfl) rfl ?_
  refine v0 (sFP rfl rfl rfl) rfl ?_
  refine v0 (sSt rfl rfl [] rfl rfl) rfl ?_
  refine ve ?_
  refine W2 [1, 2, 3] [101, 102, 103] [] (l := [(1, .c (.ptr _ _ _ _)), (2, .c (.ptr _ _ _ _)), (3, .c (.ptr _ _ _ _))]) (h := [(101, ⟨0, 13, [[.int _ _, .int _ _, .int _ _, .int _ _, .int _ _, .int _ _, .int _ _, .int _ _, .row _ _ _, .int _ _, .int _ _, .row _ _ _, .row _ _ _]]⟩), (102, ⟨0, 13, [[.int _ _, .int _ _, .int _ _, .int _ _, .int _ _, .int _ _, .int _ _, .int _ _, .row _ _ _, .int _ _, .int _ _, .row _ _ _, .row _ _ _]]⟩), (103, ⟨0, 13, [[.int _ _, .int _ _, .int _ _, .int _ _, .int _ _, .int _ _, .int _ _, .int _ _, .row _ _ _, .int _ _, .int _ _, .row _ _ _, .row _ _ _]]⟩)]) (h' := []) trivial rfl rfl rfl ?_
  refine W_seq ?_
  refine W_regV he rfl ?_
  refine v0 (sFP rfl rfl rfl) rfl ?_
  refine v0 (sLd rfl rfl) rfl ?_
  refine v0 (sFP rfl rfl rfl) rfl ?_
  refine v0 (sSt rfl rfl [] rfl rfl) rfl ?_
  refine ve ?_
  refine W2 [1, 2, 3] [101, 102, 103] [] (l := [(1, .c (.ptr _ _ _ _)), (2, .c (.ptr _ _ _ _)), (3, .c (.ptr _ _ _ _))]) (h := [(101, ⟨0, 13, [[.int _ _, .int _ _, .int _ _, .int _ _, .int _ _, .int _ _, .int _ _, .int _ _, .row _ _ _, .int _ _, .int _ _, .row _ _ _, .row _ _ _]]⟩), (102, ⟨0, 13, [[.int _ _, .int _ _, .int _ _, .int _ _, .int _ _, .int _ _, .int _ _, .int _ _, .row _ _ _, .int _ _, .int _ _, .row _ _ _, .row _ _ _]]⟩), (103, ⟨0, 13, [[.int _ _, .int _ _, .int _ _, .int _ _, .int _ _, .int _ _, .int _ _, .int _ _, .row _ _ _, .int _ _, .int _ _, .row _ _ _, .row _ _ _]]⟩)]) (h' := []) trivial rfl rfl rfl ?_
  refine W_seq ?_
  refine W_regV he rfl ?_
  refine v0 (sFP rfl rfl rfl) rfl ?_
  refine v0 (sLd rfl rfl) rfl ?_
  refine v0 (sFP rfl rfl rfl) rfl ?_
  refine v0 (sSt rfl rfl [] rfl rfl) rfl ?_
  refine ve ?_
  refine W2 [1, 2, 3] [101, 102, 103] [] (l := [(1, .c (.ptr _ _ _ _)), (2, .c (.ptr _ _ _ _)), (3, .c (.ptr _ _ _ _))]) (h := [(101, ⟨0, 13, [[.int _ _, .int _ _, .int _ _, .int _ _, .int _ _, .int _ _, .int _ _, .int _ _, .row _ _ _, .int _ _, .int _ _, .row _ _ _, .row _ _ _]]⟩), (102, ⟨0, 13, [[.int _ _, .int _ _, .int _ _, .int _ _, .int _ _, .int _ _, .int _ _, .int _ _, .row _ _ _, .int _ _, .int _ _, .row _ _ _, .row _ _ _]]⟩), (103, ⟨0, 13, [[.int _ _, .int _ _, .int _ _, .int _ _, .int _ _, .int _ _, .int _ _, .int _ _, .row _ _ _, .int _ _, .int _ _, .row _ _ _, .row _ _ _]]⟩)]) (h' := []) trivial rfl rfl rfl ?_
  refine W_seq ?_
  refine W_regV he rfl ?_
  refine v0 (sFP rfl rfl rfl) rfl ?_
  refine v0 (sLd rfl rfl) rfl ?_
  refine v0 (sFP rfl rfl rfl) rfl ?_
  refine v0 (sSt rfl rfl [] rfl rfl) rfl ?_
  refine ve ?_
  refine W2 [1, 2, 3] [101, 102, 103] [] (l := [(1, .c (.ptr _ _ _ _)), (2, .c (.ptr _ _ _ _)), (3, .c (.ptr _ _ _ _))]) (h := [(101, ⟨0, 13, [[.int _ _, .int _ _, .int _ _, .int _ _, .int _ _, .int _ _, .int _ _, .int _ _, .row _ _ _, .int _ _, .int _ _, .row _ _ _, .row _ _ _]]⟩), (102, ⟨0, 13, [[.int _ _, .int _ _, .int _ _, .int _ _, .int _ _, .int _ _, .int _ _, .int _ _, .row _ _ _, .int _ _, .int _ _, .row _ _ _, .row _ _ _]]⟩), (103, ⟨0, 13, [[.int _ _, .int _ _, .int _ _, .int _ _, .int _ _, .int _ _, .int _ _, .int _ _, .row _ _ _, .int _ _, .int _ _, .row _ _ _, .row _ _ _]]⟩)]) (h' := []) trivial rfl rfl rfl ?_
  refine W_seq ?_
  refine W_regV he rfl ?_
  refine v0 (sFP rfl rfl rfl) rfl ?_
  refine v0 (sLd rfl rfl) rfl ?_
  refine v0 (sFP rfl rfl rfl) rfl ?_
  refine v0 (sSt rfl rfl [] rfl rfl) rfl ?_
  refine ve ?_
  refine W2 [1, 2, 3] [101, 102, 103] [] (l := [(1, .c (.ptr _ _ _ _)), (2, .c (.ptr _ _ _ _)), (3, .c (.ptr _ _ _ _))]) (h := [(101, ⟨0, 13, [[.int _ _, .int _ _, .int _ _, .int _ _, .int _ _, .int _ _, .int _ _, .int _ _, .row _ _ _, .int _ _, .int _ _, .row _ _ _, .row _ _ _]]⟩), (102, ⟨0, 13, [[.int _ _, .int _ _, .int _ _, .int _ _, .int _ _, .int _ _, .int _ _, .int _ _, .row _ _ _, .int _ _, .int _ _, .row _ _ _, .row _ _ _]]⟩), (103, ⟨0, 13, [[.int _ _, .int _ _, .int _ _, .int _ _, .int _ _, .int _ _, .int _ _, .int _ _, .row _ _ _, .int _ _, .int _ _, .row _ _ _, .row _ _ _]]⟩)]) (h' := []) trivial rfl rfl rfl ?_
  refine W_seq ?_
  refine W_regV he rfl ?_
  refine v0 (sFP rfl rfl rfl) rfl ?_
  refine v0 (sLd rfl rfl) rfl ?_
  refine bndc h ?_; clear h; intro r1 hr1 h
  refine v0 (sCo (wo_laws_toIntS K a0.fChunks _ hr1) ok_laws_toIntS (fun _ => rfl) [] 1030 rfl rfl rfl rfl rfl) rfl ?_
  refine v0 (sFP rfl rfl rfl) rfl ?_
  refine v0 (sSt rfl rfl [] rfl rfl) rfl ?_
  refine ve ?_
  refine W2 [1, 2, 3] [101, 102, 103] [1030] (l := [(1, .c (.ptr _ _ _ _)), (2, .c (.ptr _ _ _ _)), (3, .c (.ptr _ _ _ _))]) (h := [(101, ⟨0, 13, [[.int _ _, .int _ _, .int _ _, .int _ _, .int _ _, .int _ _, .int _ _, .int _ _, .row _ _ _, .int _ _, .int _ _, .row _ _ _, .row _ _ _]]⟩), (102, ⟨0, 13, [[.int _ _, .int _ _, .int _ _, .int _ _, .int _ _, .int _ _, .int _ _, .int _ _, .row _ _ _, .int _ _, .int _ _, .row _ _ _, .row _ _ _]]⟩), (103, ⟨0, 13, [[.int _ _, .int _ _, .int _ _, .int _ _, .int _ _, .int _ _, .int _ _, .int _ _, .own _ _ _ _, .int _ _, .int _ _, .row _ _ _, .row _ _ _]]⟩)]) (h' := [(1030, ⟨0, 1, r1.map en_i64⟩)]) ⟨⟨_, rfl, enOk_i64.allClosed _ _ r1⟩, trivial⟩ rfl rfl rfl ?_
  refine W_seq ?_
  refine W_regV he rfl ?_
  refine v0 (sFP rfl rfl rfl) rfl ?_
  refine v0 (sLd rfl rfl) rfl ?_
  refine v0 (sFP rfl rfl rfl) rfl ?_
  refine v0 (sSt rfl rfl [] rfl rfl) rfl ?_
  refine ve ?_
  refine W2 [1, 2, 3] [101, 102, 103] [1030] (l := [(1, .c (.ptr _ _ _ _)), (2, .c (.ptr _ _ _ _)), (3, .c (.ptr _ _ _ _))]) (h := [(101, ⟨0, 13, [[.int _ _, .int _ _, .int _ _, .int _ _, .int _ _, .int _ _, .int _ _, .int _ _, .row _ _ _, .int _ _, .int _ _, .row _ _ _, .row _ _ _]]⟩), (102, ⟨0, 13, [[.int _ _, .int _ _, .int _ _, .int _ _, .int _ _, .int _ _, .int _ _, .int _ _, .row _ _ _, .int _ _, .int _ _, .row _ _ _, .row _ _ _]]⟩), (103, ⟨0, 13, [[.int _ _, .int _ _, .int _ _, .int _ _, .int _ _, .int _ _, .int _ _, .int _ _, .own _ _ _ _, .int _ _, .int _ _, .row _ _ _, .row _ _ _]]⟩)]) (h' := [(1030, ⟨0, 1, r1.map en_i64⟩)]) ⟨⟨_, rfl, enOk_i64.allClosed _ _ r1⟩, trivial⟩ rfl rfl rfl ?_
  refine W_seq ?_
  refine W_regV he rfl ?_
  refine v0 (sFP rfl rfl rfl) rfl ?_
  refine v0 (sLd rfl rfl) rfl ?_
  refine v0 (sFP rfl rfl rfl) rfl ?_
  refine v0 (sSt rfl rfl [] rfl rfl) rfl ?_
  refine ve ?_
  refine W2 [1, 2, 3] [101, 102, 103] [1030] (l := [(1, .c (.ptr _ _ _ _)), (2, .c (.ptr _ _ _ _)), (3, .c (.ptr _ _ _ _))]) (h := [(101, ⟨0, 13, [[.int _ _, .int _ _, .int _ _, .int _ _, .int _ _, .int _ _, .int _ _, .int _ _, .row _ _ _, .int _ _, .int _ _, .row _ _ _, .row _ _ _]]⟩), (102, ⟨0, 13, [[.int _ _, .int _ _, .int _ _, .int _ _, .int _ _, .int _ _, .int _ _, .int _ _, .row _ _ _, .int _ _, .int _ _, .row _ _ _, .row _ _ _]]⟩), (103, ⟨0, 13, [[.int _ _, .int _ _, .int _ _, .int _ _, .int _ _, .int _ _, .int _ _, .int _ _, .own _ _ _ _, .int _ _, .int _ _, .row _ _ _, .row _ _ _]]⟩)]) (h' := [(1030, ⟨0, 1, r1.map en_i64⟩)]) ⟨⟨_, rfl, enOk_i64.allClosed _ _ r1⟩, trivial⟩ rfl rfl rfl ?_
  refine W_seq ?_
  refine W_regV he rfl ?_
  refine v0 (sFP rfl rfl rfl) rfl ?_
  refine v0 (sLd rfl rfl) rfl ?_
  refine bndc h ?_; clear h; intro r2 hr2 h
  refine v0 (sCo (wo_laws_toThingS K a0.fThings _ hr2) ok_laws_toThingS (fun _ => rfl) [] 1040 rfl rfl rfl rfl rfl) rfl ?_
  refine v0 (sFP rfl rfl rfl) rfl ?_
  refine v0 (sSt rfl rfl [] rfl rfl) rfl ?_
  refine ve ?_
  refine W2 [1, 2, 3] [101, 102, 103] [1030, 1040] (l := [(1, .c (.ptr _ _ _ _)), (2, .c (.ptr _ _ _ _)), (3, .c (.ptr _ _ _ _))]) (h := [(101, ⟨0, 13, [[.int _ _, .int _ _, .int _ _, .int _ _, .int _ _, .int _ _, .int _ _, .int _ _, .row _ _ _, .int _ _, .int _ _, .row _ _ _, .row _ _ _]]⟩), (102, ⟨0, 13, [[.int _ _, .int _ _, .int _ _, .int _ _, .int _ _, .int _ _, .int _ _, .int _ _, .row _ _ _, .int _ _, .int _ _, .row _ _ _, .row _ _ _]]⟩), (103, ⟨0, 13, [[.int _ _, .int _ _, .int _ _, .int _ _, .int _ _, .int _ _, .int _ _, .int _ _, .own _ _ _ _, .int _ _, .int _ _, .own _ _ _ _, .row _ _ _]]⟩)]) (h' := [(1030, ⟨0, 1, r1.map en_i64⟩), (1040, ⟨0, 3, r2.map en_impl_Thing⟩)]) ⟨⟨_, rfl, enOk_i64.allClosed _ _ r1⟩, ⟨⟨_, rfl, enOk_impl_Thing.allClosed _ _ r2⟩, trivial⟩⟩ rfl rfl rfl ?_
  refine W_seq ?_
  refine W_regV he rfl ?_
  refine v0 (sFP rfl rfl rfl) rfl ?_
  refine v0 (sLd rfl rfl) rfl ?_
  refine bndc h ?_; clear h; intro r3 hr3 h
  refine v0 (sCo (wo_laws_toIntS K a0.fTags _ hr3) ok_laws_toIntS (fun _ => rfl) [] 1044 rfl rfl rfl rfl rfl) rfl ?_
  refine v0 (sFP rfl rfl rfl) rfl ?_
  refine v0 (sSt rfl rfl [] rfl rfl) rfl ?_
  refine ve ?_
  refine W2 [2, 3] [102, 103] [1030, 1040, 1044] (l := [(2, .c (.ptr _ _ _ _)), (3, .c (.ptr _ _ _ _))]) (h := [(102, ⟨0, 13, [[.int _ _, .int _ _, .int _ _, .int _ _, .int _ _, .int _ _, .int _ _, .int _ _, .row _ _ _, .int _ _, .int _ _, .row _ _ _, .row _ _ _]]⟩), (103, ⟨0, 13, [[.int _ _, .int _ _, .int _ _, .int _ _, .int _ _, .int _ _, .int _ _, .int _ _, .own _ _ _ _, .int _ _, .int _ _, .own _ _ _ _, .own _ _ _ _]]⟩)]) (h' := [(1030, ⟨0, 1, r1.map en_i64⟩), (1040, ⟨0, 3, r2.map en_impl_Thing⟩), (1044, ⟨0, 1, r3.map en_i64⟩)]) ⟨⟨_, rfl, enOk_i64.allClosed _ _ r1⟩, ⟨⟨_, rfl, enOk_impl_Thing.allClosed _ _ r2⟩, ⟨⟨_, rfl, enOk_i64.allClosed _ _ r3⟩, trivial⟩⟩⟩ rfl rfl rfl ?_
  refine W_seq ?_
  refine W_regV he rfl ?_
  refine v0 (sLd rfl rfl) rfl ?_
  refine v0 (sSt rfl rfl [] rfl rfl) rfl ?_
  refine ve ?_
  refine W2 [2] [102] [1030, 1040, 1044] (l := [(2, .c (.ptr _ _ _ _))]) (h := [(102, ⟨0, 13, [[.int _ _, .int _ _, .int _ _, .int _ _, .int _ _, .int _ _, .int _ _, .int _ _, .own _ _ _ _, .int _ _, .int _ _, .own _ _ _ _, .own _ _ _ _]]⟩)]) (h' := [(1030, ⟨0, 1, r1.map en_i64⟩), (1040, ⟨0, 3, r2.map en_impl_Thing⟩), (1044, ⟨0, 1, r3.map en_i64⟩)]) ⟨⟨_, rfl, enOk_i64.allClosed _ _ r1⟩, ⟨⟨_, rfl, enOk_impl_Thing.allClosed _ _ r2⟩, ⟨⟨_, rfl, enOk_i64.allClosed _ _ r3⟩, trivial⟩⟩⟩ rfl rfl rfl ?_
  obtain rfl := Option.some.inj h
  exact W_ret (retG 0 [1030, 1040, 1044] (by decide) rfl rfl rfl rfl (bl_cons (see_En enOk_i64 rfl) (bl_cons (see_En enOk_impl_Thing rfl) (bl_cons (see_En enOk_i64 rfl) (bl_nil)))))


/-! ### loop.example/g00499/laws.toNodeS -/
set_option maxRecDepth 20000 in
set_option maxHeartbeats 8000000 in
theorem wo_laws_toNodeS (K : Nat) (a0 : List T_laws_Node) (r : (List T_impl_Node)) (h : m_laws_toNodeS K a0 = some r) : Sp Try.prog 49 [.c (.row false 13 (a0.map en_laws_Node))] [] (.c (.own 1 0 0 r.length)) [⟨0, 13, r.map enD_impl_Node⟩] := by
  refine Sp.of_W tabOk Try.func49 rfl rfl (Nat.le_of_ble_eq_true rfl) (Nat.le_of_ble_eq_true rfl) fun F hP hN hm => ?_
  obtain ⟨P, N, w0, σ0, β0, m⟩ := F
  obtain rfl : P = Try.prog := hP
  obtain rfl : N = 23 := hN
  obtain rfl : m = 1 := hm
  have he : Env ⟨Try.prog, 23, w0, σ0, β0, 1⟩ tab := ⟨Nat.le_of_ble_eq_true rfl, tabOk⟩
  unfold m_laws_toNodeS at h
  refine W_seq ?_
  refine W_regV he rfl ?_
  refine v0 (sA rfl [13] rfl) rfl ?_
  refine ve ?_
  refine W2 [0] [] [] (l := [(0, .c (.row _ _ _))]) (h := []) (h' := []) trivial rfl rfl rfl ?_
  refine W_seq ?_
  refine W_regV he rfl ?_
  refine v0 (sM rfl [] rfl) rfl ?_
  refine v0 (sLm rfl rfl rfl rfl) rfl ?_
  refine chkc h ?_; clear h; intro c1 h
  refine v0 (sMkmD rfl 1003 (f := enD_impl_Node) (T_impl_Node.mk 0 0 0 0 0 0 0 0 [] 0 0 [] []) rfl rfl rfl rfl rfl rfl rfl rfl rfl c1) rfl ?_
  refine v0 (sA rfl [] rfl) rfl ?_
  refine ve ?_
  refine W2 [0, 3] [] [1003] (l := [(0, .c (.row _ _ _)), (3, .c (.own _ _ _ _))]) (h := []) (h' := [(1003, ⟨0, 13, (List.replicate (a0.length : Int).toNat (T_impl_Node.mk 0 0 0 0 0 0 0 0 [] 0 0 [] [])).map enD_impl_Node⟩)]) ⟨⟨_, rfl, enDOk_impl_Node.allClosed _ _ (List.replicate (a0.length : Int).toNat (T_impl_Node.mk 0 0 0 0 0 0 0 0 [] 0 0 [] []))⟩, trivial⟩ rfl rfl rfl ?_
  refine W_seq ?_
  refine W_seq ?_
  refine W_regV he rfl ?_
  refine v0 (sA rfl [] rfl) rfl ?_
  refine ve ?_
  refine W2 [0, 3, 4] [] [1003] (l := [(0, .c (.row _ _ _)), (3, .c (.own _ _ _ _)), (4, .c (.int _ _))]) (h := []) (h' := [(1003, ⟨0, 13, (List.replicate (a0.length : Int).toNat (T_impl_Node.mk 0 0 0 0 0 0 0 0 [] 0 0 [] [])).map enD_impl_Node⟩)]) ⟨⟨_, rfl, enDOk_impl_Node.allClosed _ _ (List.replicate (a0.length : Int).toNat (T_impl_Node.mk 0 0 0 0 0 0 0 0 [] 0 0 [] []))⟩, trivial⟩ rfl rfl rfl ?_
  refine W_block ?_
  refine W2 [0, 3, 4] [] [1003] (l := [(0, .c (.row _ _ _)), (3, .c (.own _ _ _ _)), (4, .c (.int _ _))]) (h := []) (h' := [(1003, ⟨0, 13, (List.replicate (a0.length : Int).toNat (T_impl_Node.mk 0 0 0 0 0 0 0 0 [] 0 0 [] [])).map enD_impl_Node⟩)]) ⟨⟨_, rfl, enDOk_impl_Node.allClosed _ _ (List.replicate (a0.length : Int).toNat (T_impl_Node.mk 0 0 0 0 0 0 0 0 [] 0 0 [] []))⟩, trivial⟩ rfl rfl rfl ?_
  refine W_loopW (fun n4 S => ∃ (v2 : Int), ∃ (v3 : List T_impl_Node), S = StL [(0, .c (.row false 13 (a0.map en_laws_Node))), (3, .c (.own 1003 0 0 v3.length)), (4, .c (.int .i64 v2))] ([] ++ [(1003, ⟨0, 13, v3.map enD_impl_Node⟩)]) ∧ l_laws_toNodeS_4 K a0 n4 v2 v3 = some r) K ⟨_, _, rfl, h⟩ ?_
  rintro n4 S ⟨v2, v3, rfl, h⟩
  cases n4 with
  | zero => simp [l_laws_toNodeS_4] at h
  | succ n4 =>
    rw [l_laws_toNodeS_4] at h
    refine W_seq ?_
    refine W_seq ?_
    refine W_regV he rfl ?_
    refine v0 (sM rfl [] rfl) rfl ?_
    refine v0 (sM rfl [] rfl) rfl ?_
    refine v0 (sLm rfl rfl rfl rfl) rfl ?_
    refine vB (sBi rfl rfl rfl rfl) rfl rfl fun b5 hb5 => ?_
    cases b5 with
    | true =>
      replace h := brT hb5 h
      refine ve ?_
      refine W2 [0, 3, 4, 11] [] [1003] (l := [(0, .c (.row _ _ _)), (3, .c (.own _ _ _ _)), (4, .c (.int _ _)), (11, .c (.bool true))]) (h := []) (h' := [(1003, ⟨0, 13, v3.map enD_impl_Node⟩)]) ⟨⟨_, rfl, enDOk_impl_Node.allClosed _ _ v3⟩, trivial⟩ rfl rfl rfl ?_
      refine W_true rfl ?_
      refine W_skip ?_
      refine W_seq ?_
      refine W_block ?_
      refine W_regV he rfl ?_
      refine v0 (sM rfl [] rfl) rfl ?_
      refine v0 (sM rfl [] rfl) rfl ?_
      refine v0 (sM rfl [] rfl) rfl ?_
      refine v0 (sM rfl [] rfl) rfl ?_
      refine chkc h ?_; clear h; intro c6 h
      refine v0 (sIRm rfl rfl rfl rfl c6) rfl ?_
      refine v0 (sLI rfl rfl (en_laws_Node (gt a0 v2)) (gt_at _ c6) rfl rfl rfl) rfl ?_
      refine bndc h ?_; clear h; intro r7 hr7 h
      refine v0 (sCg (wo_laws_toNode K (gt a0 v2) _ hr7) ok_laws_toNode false [] [2001, 2002, 2003] [2001, 2002, 2003] (U := [(2001, some ⟨1, 1, r7.fChunks.map en_i64⟩), (2002, some ⟨1, 3, r7.fThings.map en_impl_Thing⟩), (2003, some ⟨1, 1, r7.fTags.map en_i64⟩)]) (bm := [2001, 2002, 2003]) rfl rfl rfl rfl (by decide) rfl rfl rfl rfl (sl_nil) (ul_cons rfl (enOk_i64.back _ _ _) (ul_cons rfl (enOk_impl_Thing.back _ _ _) (ul_cons rfl (enOk_i64.back _ _ _) (ul_nil)))) rfl rfl) rfl ?_
      refine chkc h ?_; clear h; intro c8 h
      refine v0 (sIOm rfl rfl rfl c8) rfl ?_
      refine v0 (sSkn rfl rfl [] v3 c8 rfl rfl rfl rfl rfl rfl rfl rfl) rfl ?_
      refine vPut he v3 r7.fChunks 1003 2001 8 c8 rfl rfl rfl rfl rfl rfl (enOk_i64.allClosed _ _ _) rfl ?_
      refine vPut he v3 r7.fThings 1003 2002 11 c8 rfl rfl rfl rfl rfl rfl (enOk_impl_Thing.allClosed _ _ _) rfl ?_
      refine vPut he v3 r7.fTags 1003 2003 12 c8 rfl rfl rfl rfl rfl rfl (enOk_i64.allClosed _ _ _) rfl ?_
      refine vFold v3 r7 1003 rfl rfl ?_
      refine ve ?_
      refine W.weak (wk_len 3 (n' := (v3.set v2.toNat r7).length) (by simp only [List.length_set]) rfl) ?_
      refine W2 [0, 3, 4] [] [1003] (l := [(0, .c (.row _ _ _)), (3, .c (.own _ _ _ _)), (4, .c (.int _ _))]) (h := []) (h' := [(1003, ⟨0, 13, (v3.set v2.toNat r7).map enD_impl_Node⟩)]) ⟨⟨_, rfl, enDOk_impl_Node.allClosed _ _ (v3.set v2.toNat r7)⟩, trivial⟩ rfl rfl rfl ?_
      refine W_regV he rfl ?_
      refine v0 (sM rfl [] rfl) rfl ?_
      refine v0 (sBi rfl rfl rfl rfl) rfl ?_
      refine v0 (sA rfl [] rfl) rfl ?_
      refine ve ?_
      exact ⟨n4, _, Nat.lt_succ_self n4, wk2 [0, 3, 4] [] [1003] (l := [(0, .c (.row _ _ _)), (3, .c (.own _ _ _ _)), (4, .c (.int _ _))]) (h := []) (h' := [(1003, ⟨0, 13, (v3.set v2.toNat r7).map enD_impl_Node⟩)]) ⟨⟨_, rfl, enDOk_impl_Node.allClosed _ _ (v3.set v2.toNat r7)⟩, trivial⟩ rfl rfl rfl, _, _, rfl, h⟩
    | false =>
      replace h := brF hb5 h
      refine ve ?_
      refine W2 [0, 3, 4, 11] [] [1003] (l := [(0, .c (.row _ _ _)), (3, .c (.own _ _ _ _)), (4, .c (.int _ _)), (11, .c (.bool false))]) (h := []) (h' := [(1003, ⟨0, 13, v3.map enD_impl_Node⟩)]) ⟨⟨_, rfl, enDOk_impl_Node.allClosed _ _ v3⟩, trivial⟩ rfl rfl rfl ?_
      refine W_false rfl ?_
      refine W_exit (ex_then (ex_then (ex_hit ?_)))
      refine W_seq ?_
      refine W_regV he rfl ?_
      refine v0 (sM rfl [] rfl) rfl ?_
      refine v0 (sA rfl [] rfl) rfl ?_
      refine ve ?_
      refine W2 [2] [] [1003] (l := [(2, .c (.own _ _ _ _))]) (h := []) (h' := [(1003, ⟨0, 13, v3.map enD_impl_Node⟩)]) ⟨⟨_, rfl, enDOk_impl_Node.allClosed _ _ v3⟩, trivial⟩ rfl rfl rfl ?_
      obtain rfl := Option.some.inj h
      exact W_ret (retG 0 [1003] (by decide) rfl rfl rfl rfl (bl_cons (see_EnD enDOk_impl_Node rfl) (bl_nil)))


/-! ### loop.example/g00499/laws.toWaste -/
set_option maxRecDepth 20000 in
set_option maxHeartbeats 8000000 in
theorem wo_laws_toWaste (K : Nat) (a0 : T_laws_Waste) (r : T_impl_Waste) (h : m_laws_toWaste K a0 = some r) : Sp Try.prog 86 [.g [.int .i64 a0.fSlot, .int .i64 a0.fFirst, .row false 1 (a0.fTags.map en_i64), .row false 1 (a0.fChunks.map en_i64), .int .i64 a0.fDone]] [] (.g [.int .i64 r.fSlot, .int .i64 r.fFirst, .own 1 0 0 r.fTags.length, .own 2 0 0 r.fChunks.length, .int .i64 r.fDone]) [⟨0, 1, r.fTags.map en_i64⟩, ⟨0, 1, r.fChunks.map en_i64⟩] := by
  refine Sp.of_W tabOk Try.func86 rfl rfl (Nat.le_of_ble_eq_true rfl) (Nat.le_of_ble_eq_true rfl) fun F hP hN hm => ?_
  obtain ⟨P, N, w0, σ0, β0, m⟩ := F
  obtain rfl : P = Try.prog := hP
  obtain rfl : N = 22 := hN
  obtain rfl : m = 1 := hm
  have he : Env ⟨Try.prog, 22, w0, σ0, β0, 1⟩ tab := ⟨Nat.le_of_ble_eq_true rfl, tabOk⟩
  unfold m_laws_toWaste at h
  refine W_seq ?_
  refine W_regV he rfl ?_
  refine v0 (sBx rfl [] rfl rfl 101 rfl) rfl ?_
  refine v0 (sAl rfl rfl 102 rfl) rfl ?_
  refine ve ?_
  refine W2 [1, 2] [101, 102] [] (l := [(1, .c (.ptr _ _ _ _)), (2, .c (.ptr _ _ _ _))]) (h := [(101, ⟨0, 5, [[.int _ _, .int _ _, .row _ _ _, .row _ _ _, .int _ _]]⟩), (102, ⟨0, 5, [[.int _ _, .int _ _, .row _ _ _, .row _ _ _, .int _ _]]⟩)]) (h' := []) trivial rfl rfl rfl ?_
  refine W_seq ?_
  refine W_regV he rfl ?_
  refine v0 (sAl rfl rfl 103 rfl) rfl ?_
  refine ve ?_
  refine W2 [1, 2, 3] [101, 102, 103] [] (l := [(1, .c (.ptr _ _ _ _)), (2, .c (.ptr _ _ _ _)), (3, .c (.ptr _ _ _ _))]) (h := [(101, ⟨0, 5, [[.int _ _, .int _ _, .row _ _ _, .row _ _ _, .int _ _]]⟩), (102, ⟨0, 5, [[.int _ _, .int _ _, .row _ _ _, .row _ _ _, .int _ _]]⟩), (103, ⟨0, 5, [[.int _ _, .int _ _, .row _ _ _, .row _ _ _, .int _ _]]⟩)]) (h' := []) trivial rfl rfl rfl ?_
  refine W_seq ?_
  refine W_regV he rfl ?_
  refine v0 (sFP rfl rfl rfl) rfl ?_
  refine v0 (sLd rfl rfl) rfl ?_
  refine v0 (sFP rfl rfl rfl) rfl ?_
  refine v0 (sSt rfl rfl [] rfl rfl) rfl ?_
  refine ve ?_
  refine W2 [1, 2, 3] [101, 102, 103] [] (l := [(1, .c (.ptr _ _ _ _)), (2, .c (.ptr _ _ _ _)), (3, .c (.ptr _ _ _ _))]) (h := [(101, ⟨0, 5, [[.int _ _, .int _ _, .row _ _ _, .row _ _ _, .int _ _]]⟩), (102, ⟨0, 5, [[.int _ _, .int _ _, .row _ _ _, .row _ _ _, .int _ _]]⟩), (103, ⟨0, 5, [[.int _ _, .int _ _, .row _ _ _, .row _ _ _, .int _ _]]⟩)]) (h' := []) trivial rfl rfl rfl ?_
  refine W_seq ?_
  refine W_regV he rfl ?_
  refine v0 (sFP rfl rfl rfl) rfl ?_
  refine v0 (sLd rfl rfl) rfl ?_
  refine v0 (sFP rfl rfl rfl) rfl ?_
  refine v0 (sSt rfl rfl [] rfl rfl) rfl ?_
  refine ve ?_
  refine W2 [1, 2, 3] [101, 102, 103] [] (l := [(1, .c (.ptr _ _ _ _)), (2, .c (.ptr _ _ _ _)), (3, .c (.ptr _ _ _ _))]) (h := [(101, ⟨0, 5, [[.int _ _, .int _ _, .row _ _ _, .row _ _ _, .int _ _]]⟩), (102, ⟨0, 5, [[.int _ _, .int _ _, .row _ _ _, .row _ _ _, .int _ _]]⟩), (103, ⟨0, 5, [[.int _ _, .int _ _, .row _ _ _, .row _ _ _, .int _ _]]⟩)]) (h' := []) trivial rfl rfl rfl ?_
  refine W_seq ?_
  refine W_regV he rfl ?_
  refine v0 (sFP rfl rfl rfl) rfl ?_
  refine v0 (sLd rfl rfl) rfl ?_
  refine bndc h ?_; clear h; intro r1 hr1 h
  refine v0 (sCo (wo_laws_toIntS K a0.fTags _ hr1) ok_laws_toIntS (fun _ => rfl) [] 1012 rfl rfl rfl rfl rfl) rfl ?_
  refine v0 (sFP rfl rfl rfl) rfl ?_
  refine v0 (sSt rfl rfl [] rfl rfl) rfl ?_
  refine ve ?_
  refine W2 [1, 2, 3] [101, 102, 103] [1012] (l := [(1, .c (.ptr _ _ _ _)), (2, .c (.ptr _ _ _ _)), (3, .c (.ptr _ _ _ _))]) (h := [(101, ⟨0, 5, [[.int _ _, .int _ _, .row _ _ _, .row _ _ _, .int _ _]]⟩), (102, ⟨0, 5, [[.int _ _, .int _ _, .row _ _ _, .row _ _ _, .int _ _]]⟩), (103, ⟨0, 5, [[.int _ _, .int _ _, .own _ _ _ _, .row _ _ _, .int _ _]]⟩)]) (h' := [(1012, ⟨0, 1, r1.map en_i64⟩)]) ⟨⟨_, rfl, enOk_i64.allClosed _ _ r1⟩, trivial⟩ rfl rfl rfl ?_
  refine W_seq ?_
  refine W_regV he rfl ?_
  refine v0 (sFP rfl rfl rfl) rfl ?_
  refine v0 (sLd rfl rfl) rfl ?_
  refine bndc h ?_; clear h; intro r2 hr2 h
  refine v0 (sCo (wo_laws_toIntS K a0.fChunks _ hr2) ok_laws_toIntS (fun _ => rfl) [] 1016 rfl rfl rfl rfl rfl) rfl ?_
  refine v0 (sFP rfl rfl rfl) rfl ?_
  refine v0 (sSt rfl rfl [] rfl rfl) rfl ?_
  refine ve ?_
  refine W2 [1, 2, 3] [101, 102, 103] [1012, 1016] (l := [(1, .c (.ptr _ _ _ _)), (2, .c (.ptr _ _ _ _)), (3, .c (.ptr _ _ _ _))]) (h := [(101, ⟨0, 5, [[.int _ _, .int _ _, .row _ _ _, .row _ _ _, .int _ _]]⟩), (102, ⟨0, 5, [[.int _ _, .int _ _, .row _ _ _, .row _ _ _, .int _ _]]⟩), (103, ⟨0, 5, [[.int _ _, .int _ _, .own _ _ _ _, .own _ _ _ _, .int _ _]]⟩)]) (h' := [(1012, ⟨0, 1, r1.map en_i64⟩), (1016, ⟨0, 1, r2.map en_i64⟩)]) ⟨⟨_, rfl, enOk_i64.allClosed _ _ r1⟩, ⟨⟨_, rfl, enOk_i64.allClosed _ _ r2⟩, trivial⟩⟩ rfl rfl rfl ?_
  refine W_seq ?_
  refine W_regV he rfl ?_
  refine v0 (sFP rfl rfl rfl) rfl ?_
  refine v0 (sLd rfl rfl) rfl ?_
  refine v0 (sFP rfl rfl rfl) rfl ?_
  refine v0 (sSt rfl rfl [] rfl rfl) rfl ?_
  refine ve ?_
  refine W2 [2, 3] [102, 103] [1012, 1016] (l := [(2, .c (.ptr _ _ _ _)), (3, .c (.ptr _ _ _ _))]) (h := [(102, ⟨0, 5, [[.int _ _, .int _ _, .row _ _ _, .row _ _ _, .int _ _]]⟩), (103, ⟨0, 5, [[.int _ _, .int _ _, .own _ _ _ _, .own _ _ _ _, .int _ _]]⟩)]) (h' := [(1012, ⟨0, 1, r1.map en_i64⟩), (1016, ⟨0, 1, r2.map en_i64⟩)]) ⟨⟨_, rfl, enOk_i64.allClosed _ _ r1⟩, ⟨⟨_, rfl, enOk_i64.allClosed _ _ r2⟩, trivial⟩⟩ rfl rfl rfl ?_
  refine W_seq ?_
  refine W_regV he rfl ?_
  refine v0 (sLd rfl rfl) rfl ?_
  refine v0 (sSt rfl rfl [] rfl rfl) rfl ?_
  refine ve ?_
  refine W2 [2] [102] [1012, 1016] (l := [(2, .c (.ptr _ _ _ _))]) (h := [(102, ⟨0, 5, [[.int _ _, .int _ _, .own _ _ _ _, .own _ _ _ _, .int _ _]]⟩)]) (h' := [(1012, ⟨0, 1, r1.map en_i64⟩), (1016, ⟨0, 1, r2.map en_i64⟩)]) ⟨⟨_, rfl, enOk_i64.allClosed _ _ r1⟩, ⟨⟨_, rfl, enOk_i64.allClosed _ _ r2⟩, trivial⟩⟩ rfl rfl rfl ?_
  obtain rfl := Option.some.inj h
  exact W_ret (retG 0 [1012, 1016] (by decide) rfl rfl rfl rfl (bl_cons (see_En enOk_i64 rfl) (bl_cons (see_En enOk_i64 rfl) (bl_nil))))


/-! ### loop.example/g00499/laws.toWasteS -/
set_option maxRecDepth 20000 in
set_option maxHeartbeats 8000000 in
theorem wo_laws_toWasteS (K : Nat) (a0 : List T_laws_Waste) (r : (List T_impl_Waste)) (h : m_laws_toWasteS K a0 = some r) : Sp Try.prog 50 [.c (.row false 5 (a0.map en_laws_Waste))] [] (.c (.own 1 0 0 r.length)) [⟨0, 5, r.map enD_impl_Waste⟩] := by
  refine Sp.of_W tabOk Try.func50 rfl rfl (Nat.le_of_ble_eq_true rfl) (Nat.le_of_ble_eq_true rfl) fun F hP hN hm => ?_
  obtain ⟨P, N, w0, σ0, β0, m⟩ := F
  obtain rfl : P = Try.prog := hP
  obtain rfl : N = 23 := hN
  obtain rfl : m = 1 := hm
  have he : Env ⟨Try.prog, 23, w0, σ0, β0, 1⟩ tab := ⟨Nat.le_of_ble_eq_true rfl, tabOk⟩
  unfold m_laws_toWasteS at h
  refine W_seq ?_
  refine W_regV he rfl ?_
  refine v0 (sA rfl [5] rfl) rfl ?_
  refine ve ?_
  refine W2 [0] [] [] (l := [(0, .c (.row _ _ _))]) (h := []) (h' := []) trivial rfl rfl rfl ?_
  refine W_seq ?_
  refine W_regV he rfl ?_
  refine v0 (sM rfl [] rfl) rfl ?_
  refine v0 (sLm rfl rfl rfl rfl) rfl ?_
  refine chkc h ?_; clear h; intro c1 h
  refine v0 (sMkmD rfl 1003 (f := enD_impl_Waste) (T_impl_Waste.mk 0 0 [] [] 0) rfl rfl rfl rfl rfl rfl rfl rfl rfl c1) rfl ?_
  refine v0 (sA rfl [] rfl) rfl ?_
  refine ve ?_
  refine W2 [0, 3] [] [1003] (l := [(0, .c (.row _ _ _)), (3, .c (.own _ _ _ _))]) (h := []) (h' := [(1003, ⟨0, 5, (List.replicate (a0.length : Int).toNat (T_impl_Waste.mk 0 0 [] [] 0)).map enD_impl_Waste⟩)]) ⟨⟨_, rfl, enDOk_impl_Waste.allClosed _ _ (List.replicate (a0.length : Int).toNat (T_impl_Waste.mk 0 0 [] [] 0))⟩, trivial⟩ rfl rfl rfl ?_
  refine W_seq ?_
  refine W_seq ?_
  refine W_regV he rfl ?_
  refine v0 (sA rfl [] rfl) rfl ?_
  refine ve ?_
  refine W2 [0, 3, 4] [] [1003] (l := [(0, .c (.row _ _ _)), (3, .c (.own _ _ _ _)), (4, .c (.int _ _))]) (h := []) (h' := [(1003, ⟨0, 5, (List.replicate (a0.length : Int).toNat (T_impl_Waste.mk 0 0 [] [] 0)).map enD_impl_Waste⟩)]) ⟨⟨_, rfl, enDOk_impl_Waste.allClosed _ _ (List.replicate (a0.length : Int).toNat (T_impl_Waste.mk 0 0 [] [] 0))⟩, trivial⟩ rfl rfl rfl ?_
  refine W_block ?_
  refine W2 [0, 3, 4] [] [1003] (l := [(0, .c (.row _ _ _)), (3, .c (.own _ _ _ _)), (4, .c (.int _ _))]) (h := []) (h' := [(1003, ⟨0, 5, (List.replicate (a0.length : Int).toNat (T_impl_Waste.mk 0 0 [] [] 0)).map enD_impl_Waste⟩)]) ⟨⟨_, rfl, enDOk_impl_Waste.allClosed _ _ (List.replicate (a0.length : Int).toNat (T_impl_Waste.mk 0 0 [] [] 0))⟩, trivial⟩ rfl rfl rfl ?_
  refine W_loopW (fun n4 S => ∃ (v2 : Int), ∃ (v3 : List T_impl_Waste), S = StL [(0, .c (.row false 5 (a0.map en_laws_Waste))), (3, .c (.own 1003 0 0 v3.length)), (4, .c (.int .i64 v2))] ([] ++ [(1003, ⟨0, 5, v3.map enD_impl_Waste⟩)]) ∧ l_laws_toWasteS_4 K a0 n4 v2 v3 = some r) K ⟨_, _, rfl, h⟩ ?_
  rintro n4 S ⟨v2, v3, rfl, h⟩
  cases n4 with
  | zero => simp [l_laws_toWasteS_4] at h
  | succ n4 =>
    rw [l_laws_toWasteS_4] at h
    refine W_seq ?_
    refine W_seq ?_
    refine W_regV he rfl ?_
    refine v0 (sM rfl [] rfl) rfl ?_
    refine v0 (sM rfl [] rfl) rfl ?_
    refine v0 (sLm rfl rfl rfl rfl) rfl ?_
    refine vB (sBi rfl rfl rfl rfl) rfl rfl fun b5 hb5 => ?_
    cases b5 with
    | true =>
      replace h := brT hb5 h
      refine ve ?_
      refine W2 [0, 3, 4, 11] [] [1003] (l := [(0, .c (.row _ _ _)), (3, .c (.own _ _ _ _)), (4, .c (.int _ _)), (11, .c (.bool true))]) (h := []) (h' := [(1003, ⟨0, 5, v3.map enD_impl_Waste⟩)]) ⟨⟨_, rfl, enDOk_impl_Waste.allClosed _ _ v3⟩, trivial⟩ rfl rfl rfl ?_
      refine W_true rfl ?_
      refine W_skip ?_
      refine W_seq ?_
      refine W_block ?_
      refine W_regV he rfl ?_
      refine v0 (sM rfl [] rfl) rfl ?_
      refine v0 (sM rfl [] rfl) rfl ?_
      refine v0 (sM rfl [] rfl) rfl ?_
      refine v0 (sM rfl [] rfl) rfl ?_
      refine chkc h ?_; clear h; intro c6 h
      refine v0 (sIRm rfl rfl rfl rfl c6) rfl ?_
      refine v0 (sLI rfl rfl (en_laws_Waste (gt a0 v2)) (gt_at _ c6) rfl rfl rfl) rfl ?_
      refine bndc h ?_; clear h; intro r7 hr7 h
      refine v0 (sCg (wo_laws_toWaste K (gt a0 v2) _ hr7) ok_laws_toWaste false [] [2001, 2002] [2001, 2002] (U := [(2001, some ⟨1, 1, r7.fTags.map en_i64⟩), (2002, some ⟨1, 1, r7.fChunks.map en_i64⟩)]) (bm := [2001, 2002]) rfl rfl rfl rfl (by decide) rfl rfl rfl rfl (sl_nil) (ul_cons rfl (enOk_i64.back _ _ _) (ul_cons rfl (enOk_i64.back _ _ _) (ul_nil))) rfl rfl) rfl ?_
      refine chkc h ?_; clear h; intro c8 h
      refine v0 (sIOm rfl rfl rfl c8) rfl ?_
      refine v0 (sSkn rfl rfl [] v3 c8 rfl rfl rfl rfl rfl rfl rfl rfl) rfl ?_
      refine vPut he v3 r7.fTags 1003 2001 2 c8 rfl rfl rfl rfl rfl rfl (enOk_i64.allClosed _ _ _) rfl ?_
      refine vPut he v3 r7.fChunks 1003 2002 3 c8 rfl rfl rfl rfl rfl rfl (enOk_i64.allClosed _ _ _) rfl ?_
      refine vFold v3 r7 1003 rfl rfl ?_
      refine ve ?_
      refine W.weak (wk_len 3 (n' := (v3.set v2.toNat r7).length) (by simp only [List.length_set]) rfl) ?_
      refine W2 [0, 3, 4] [] [1003] (l := [(0, .c (.row _ _ _)), (3, .c (.own _ _ _ _)), (4, .c (.int _ _))]) (h := []) (h' := [(1003, ⟨0, 5, (v3.set v2.toNat r7).map enD_impl_Waste⟩)]) ⟨⟨_, rfl, enDOk_impl_Waste.allClosed _ _ (v3.set v2.toNat r7)⟩, trivial⟩ rfl rfl rfl ?_
      refine W_regV he rfl ?_
      refine v0 (sM rfl [] rfl) rfl ?_
      refine v0 (sBi rfl rfl rfl rfl) rfl ?_
      refine v0 (sA rfl [] rfl) rfl ?_
      refine ve ?_
      exact ⟨n4, _, Nat.lt_succ_self n4, wk2 [0, 3, 4] [] [1003] (l := [(0, .c (.row _ _ _)), (3, .c (.own _ _ _ _)), (4, .c (.int _ _))]) (h := []) (h' := [(1003, ⟨0, 5, (v3.set v2.toNat r7).map enD_impl_Waste⟩)]) ⟨⟨_, rfl, enDOk_impl_Waste.allClosed _ _ (v3.set v2.toNat r7)⟩, trivial⟩ rfl rfl rfl, _, _, rfl, h⟩
    | false =>
      replace h := brF hb5 h
      refine ve ?_
      refine W2 [0, 3, 4, 11] [] [1003] (l := [(0, .c (.row _ _ _)), (3, .c (.own _ _ _ _)), (4, .c (.int _ _)), (11, .c (.bool false))]) (h := []) (h' := [(1003, ⟨0, 5, v3.map enD_impl_Waste⟩)]) ⟨⟨_, rfl, enDOk_impl_Waste.allClosed _ _ v3⟩, trivial⟩ rfl rfl rfl ?_
      refine W_false rfl ?_
      refine W_exit (ex_then (ex_then (ex_hit ?_)))
      refine W_seq ?_
      refine W_regV he rfl ?_
      refine v0 (sM rfl [] rfl) rfl ?_
      refine v0 (sA rfl [] rfl) rfl ?_
      refine ve ?_
      refine W2 [2] [] [1003] (l := [(2, .c (.own _ _ _ _))]) (h := []) (h' := [(1003, ⟨0, 5, v3.map enD_impl_Waste⟩)]) ⟨⟨_, rfl, enDOk_impl_Waste.allClosed _ _ v3⟩, trivial⟩ rfl rfl rfl ?_
      obtain rfl := Option.some.inj h
      exact W_ret (retG 0 [1003] (by decide) rfl rfl rfl rfl (bl_cons (see_EnD enDOk_impl_Waste rfl) (bl_nil)))



end Go.Proofs.Ytemgbggfhohfeaa
