/- The types of the seat; no condition. Printed by uni.py. -/
import Derived.Test.YtjdblamhaljjbaaGreatEc
import Derived.Test.YtjdblamhaljjbaaGreatFTab
set_option linter.all false
namespace Go.Proofs.YtjdblamhaljjbaaGreat
open Go.Eng
structure T_impl_Conf where
 fChunks : Int
 fSize : Int
 fSlots : Int
 fTax : Int
 fSlice : Int
 fGens : Int
 deriving Inhabited
structure T_impl_Pool where
 fMem : List Int
 fSt : List Int
 fOwn : List Int
 deriving Inhabited
structure T_impl_Thing where
 fAt : Int
 fLen : Int
 fRun : Int
 deriving Inhabited
structure T_impl_Node where
 fSt : Int
 fGen : Int
 fEp : Int
 fUp : Int
 fUpEp : Int
 fFirst : Int
 fNext : Int
 fPrev : Int
 fChunks : List Int
 fCur : Int
 fBump : Int
 fThings : List T_impl_Thing
 fTags : List Int
 deriving Inhabited
structure T_impl_Waste where
 fSlot : Int
 fFirst : Int
 fTags : List Int
 fChunks : List Int
 fDone : Int
 deriving Inhabited
structure T_impl_World where
 fC : T_impl_Conf
 fP : T_impl_Pool
 fL : List T_impl_Node
 fQ : List T_impl_Waste
 fLog : List Int
 deriving Inhabited
structure T_impl_Handle where
 fSlot : Int
 fGen : Int
 deriving Inhabited
structure T_impl_Ref where
 fH : T_impl_Handle
 fEp : Int
 fNo : Int
 deriving Inhabited
structure T_laws_Conf where
 fChunks : Int
 fSize : Int
 fSlots : Int
 fTax : Int
 fSlice : Int
 fGens : Int
 deriving Inhabited
structure T_laws_Pool where
 fMem : List Int
 fSt : List Int
 fOwn : List Int
 deriving Inhabited
structure T_laws_Thing where
 fAt : Int
 fLen : Int
 fRun : Int
 deriving Inhabited
structure T_laws_Node where
 fSt : Int
 fGen : Int
 fEp : Int
 fUp : Int
 fUpEp : Int
 fFirst : Int
 fNext : Int
 fPrev : Int
 fChunks : List Int
 fCur : Int
 fBump : Int
 fThings : List T_laws_Thing
 fTags : List Int
 deriving Inhabited
structure T_laws_Waste where
 fSlot : Int
 fFirst : Int
 fTags : List Int
 fChunks : List Int
 fDone : Int
 deriving Inhabited
structure T_laws_World where
 fC : T_laws_Conf
 fP : T_laws_Pool
 fL : List T_laws_Node
 fQ : List T_laws_Waste
 fLog : List Int
 deriving Inhabited
structure T_laws_Handle where
 fSlot : Int
 fGen : Int
 deriving Inhabited
structure T_laws_Ref where
 fH : T_laws_Handle
 fEp : Int
 fNo : Int
 deriving Inhabited
structure T_impl_Ans where
 fCode : Int
 fH : T_impl_Handle
 fR : T_impl_Ref
 fB : List Int
 fWalk : Int
 fTax : Int
 fDrain : Int
 deriving Inhabited
def en_i64 (x : Int) : List V := [.int .i64 x]
theorem enOk_i64 : En en_i64 1 := ⟨fun _ => rfl, fun _ => rfl, fun _ => rfl, fun x => rfl⟩
theorem eFOk_i64 : EnD en_i64 en_i64 1 := ⟨enOk_i64.len, enOk_i64.closed, enOk_i64.share⟩
def en_boolean (x : Bool) : List V := [.bool x]
theorem enOk_boolean : En en_boolean 1 := ⟨fun _ => rfl, fun _ => rfl, fun _ => rfl, fun x => rfl⟩
theorem eFOk_boolean : EnD en_boolean en_boolean 1 := ⟨enOk_boolean.len, enOk_boolean.closed, enOk_boolean.share⟩
def en_u8 (x : Int) : List V := [.int .u8 x]
theorem enOk_u8 : En en_u8 1 := ⟨fun _ => rfl, fun _ => rfl, fun _ => rfl, fun x => rfl⟩
theorem eFOk_u8 : EnD en_u8 en_u8 1 := ⟨enOk_u8.len, enOk_u8.closed, enOk_u8.share⟩
def en_string (x : ByteArray) : List V := [.str x]
theorem enOk_string : En en_string 1 := ⟨fun _ => rfl, fun _ => rfl, fun _ => rfl, fun x => rfl⟩
theorem eFOk_string : EnD en_string en_string 1 := ⟨enOk_string.len, enOk_string.closed, enOk_string.share⟩
def en_Lu8 (x : List Int) : List V := [.row false 1 (x.map en_u8)]
theorem enOk_Lu8 : En en_Lu8 1 := ⟨fun _ => rfl, fun _ => rfl, fun _ => rfl, fun x => by simp only [en_Lu8, shareL, V.share, enOk_u8.shareLL]⟩
def eF_Lu8 (x : List Int) : List V := [.row true 1 (x.map en_u8)]
theorem eFOk_Lu8 : EnD eF_Lu8 en_Lu8 1 := ⟨fun _ => rfl, fun _ => rfl, fun x => by simp only [eF_Lu8, en_Lu8, shareL, V.share, enOk_u8.shareLL]⟩
def en_impl_Conf (x : T_impl_Conf) : List V := [.int .i64 x.fChunks, .int .i64 x.fSize, .int .i64 x.fSlots, .int .i64 x.fTax, .int .i64 x.fSlice, .int .i64 x.fGens]
theorem enOk_impl_Conf : En en_impl_Conf 6 := ⟨fun _ => rfl, fun _ => rfl, fun _ => rfl, fun x => rfl⟩
theorem eFOk_impl_Conf : EnD en_impl_Conf en_impl_Conf 6 := ⟨enOk_impl_Conf.len, enOk_impl_Conf.closed, enOk_impl_Conf.share⟩
def en_Li64 (x : List Int) : List V := [.row false 1 (x.map en_i64)]
theorem enOk_Li64 : En en_Li64 1 := ⟨fun _ => rfl, fun _ => rfl, fun _ => rfl, fun x => by simp only [en_Li64, shareL, V.share, enOk_i64.shareLL]⟩
def eF_Li64 (x : List Int) : List V := [.row true 1 (x.map en_i64)]
theorem eFOk_Li64 : EnD eF_Li64 en_Li64 1 := ⟨fun _ => rfl, fun _ => rfl, fun x => by simp only [eF_Li64, en_Li64, shareL, V.share, enOk_i64.shareLL]⟩
def en_impl_Pool (x : T_impl_Pool) : List V := [.row false 1 (x.fMem.map en_u8), .row false 1 (x.fSt.map en_i64), .row false 1 (x.fOwn.map en_i64)]
theorem enOk_impl_Pool : En en_impl_Pool 3 := ⟨fun _ => rfl, fun _ => rfl, fun _ => rfl, fun x => by simp only [en_impl_Pool, shareL, V.share, enOk_u8.shareLL, enOk_i64.shareLL]⟩
def eF_impl_Pool (x : T_impl_Pool) : List V := [.row true 1 (x.fMem.map en_u8), .row true 1 (x.fSt.map en_i64), .row true 1 (x.fOwn.map en_i64)]
theorem eFOk_impl_Pool : EnD eF_impl_Pool en_impl_Pool 3 := ⟨fun _ => rfl, fun _ => rfl, fun x => by simp only [eF_impl_Pool, en_impl_Pool, shareL, V.share, enOk_u8.shareLL, enOk_i64.shareLL]⟩
def en_impl_Thing (x : T_impl_Thing) : List V := [.int .i64 x.fAt, .int .i64 x.fLen, .int .i64 x.fRun]
theorem enOk_impl_Thing : En en_impl_Thing 3 := ⟨fun _ => rfl, fun _ => rfl, fun _ => rfl, fun x => rfl⟩
theorem eFOk_impl_Thing : EnD en_impl_Thing en_impl_Thing 3 := ⟨enOk_impl_Thing.len, enOk_impl_Thing.closed, enOk_impl_Thing.share⟩
def en_Limpl_Thing (x : List T_impl_Thing) : List V := [.row false 3 (x.map en_impl_Thing)]
theorem enOk_Limpl_Thing : En en_Limpl_Thing 1 := ⟨fun _ => rfl, fun _ => rfl, fun _ => rfl, fun x => by simp only [en_Limpl_Thing, shareL, V.share, enOk_impl_Thing.shareLL]⟩
def eF_Limpl_Thing (x : List T_impl_Thing) : List V := [.row true 3 (x.map en_impl_Thing)]
theorem eFOk_Limpl_Thing : EnD eF_Limpl_Thing en_Limpl_Thing 1 := ⟨fun _ => rfl, fun _ => rfl, fun x => by simp only [eF_Limpl_Thing, en_Limpl_Thing, shareL, V.share, enOk_impl_Thing.shareLL]⟩
def en_impl_Node (x : T_impl_Node) : List V := [.int .i64 x.fSt, .int .i64 x.fGen, .int .i64 x.fEp, .int .i64 x.fUp, .int .i64 x.fUpEp, .int .i64 x.fFirst, .int .i64 x.fNext, .int .i64 x.fPrev, .row false 1 (x.fChunks.map en_i64), .int .i64 x.fCur, .int .i64 x.fBump, .row false 3 (x.fThings.map en_impl_Thing), .row false 1 (x.fTags.map en_i64)]
theorem enOk_impl_Node : En en_impl_Node 13 := ⟨fun _ => rfl, fun _ => rfl, fun _ => rfl, fun x => by simp only [en_impl_Node, shareL, V.share, enOk_i64.shareLL, enOk_impl_Thing.shareLL]⟩
def eF_impl_Node (x : T_impl_Node) : List V := [.int .i64 x.fSt, .int .i64 x.fGen, .int .i64 x.fEp, .int .i64 x.fUp, .int .i64 x.fUpEp, .int .i64 x.fFirst, .int .i64 x.fNext, .int .i64 x.fPrev, .row true 1 (x.fChunks.map en_i64), .int .i64 x.fCur, .int .i64 x.fBump, .row true 3 (x.fThings.map en_impl_Thing), .row true 1 (x.fTags.map en_i64)]
theorem eFOk_impl_Node : EnD eF_impl_Node en_impl_Node 13 := ⟨fun _ => rfl, fun _ => rfl, fun x => by simp only [eF_impl_Node, en_impl_Node, shareL, V.share, enOk_i64.shareLL, enOk_impl_Thing.shareLL]⟩
def en_Limpl_Node (x : List T_impl_Node) : List V := [.row false 13 (x.map en_impl_Node)]
theorem enOk_Limpl_Node : En en_Limpl_Node 1 := ⟨fun _ => rfl, fun _ => rfl, fun _ => rfl, fun x => by simp only [en_Limpl_Node, shareL, V.share, enOk_impl_Node.shareLL]⟩
def eF_Limpl_Node (x : List T_impl_Node) : List V := [.row true 13 (x.map eF_impl_Node)]
theorem eFOk_Limpl_Node : EnD eF_Limpl_Node en_Limpl_Node 1 := ⟨fun _ => rfl, fun _ => rfl, fun x => by simp only [eF_Limpl_Node, en_Limpl_Node, shareL, V.share, eFOk_impl_Node.shareLL]⟩
def en_impl_Waste (x : T_impl_Waste) : List V := [.int .i64 x.fSlot, .int .i64 x.fFirst, .row false 1 (x.fTags.map en_i64), .row false 1 (x.fChunks.map en_i64), .int .i64 x.fDone]
theorem enOk_impl_Waste : En en_impl_Waste 5 := ⟨fun _ => rfl, fun _ => rfl, fun _ => rfl, fun x => by simp only [en_impl_Waste, shareL, V.share, enOk_i64.shareLL]⟩
def eF_impl_Waste (x : T_impl_Waste) : List V := [.int .i64 x.fSlot, .int .i64 x.fFirst, .row true 1 (x.fTags.map en_i64), .row true 1 (x.fChunks.map en_i64), .int .i64 x.fDone]
theorem eFOk_impl_Waste : EnD eF_impl_Waste en_impl_Waste 5 := ⟨fun _ => rfl, fun _ => rfl, fun x => by simp only [eF_impl_Waste, en_impl_Waste, shareL, V.share, enOk_i64.shareLL]⟩
def en_Limpl_Waste (x : List T_impl_Waste) : List V := [.row false 5 (x.map en_impl_Waste)]
theorem enOk_Limpl_Waste : En en_Limpl_Waste 1 := ⟨fun _ => rfl, fun _ => rfl, fun _ => rfl, fun x => by simp only [en_Limpl_Waste, shareL, V.share, enOk_impl_Waste.shareLL]⟩
def eF_Limpl_Waste (x : List T_impl_Waste) : List V := [.row true 5 (x.map eF_impl_Waste)]
theorem eFOk_Limpl_Waste : EnD eF_Limpl_Waste en_Limpl_Waste 1 := ⟨fun _ => rfl, fun _ => rfl, fun x => by simp only [eF_Limpl_Waste, en_Limpl_Waste, shareL, V.share, eFOk_impl_Waste.shareLL]⟩
def en_impl_World (x : T_impl_World) : List V := [.int .i64 x.fC.fChunks, .int .i64 x.fC.fSize, .int .i64 x.fC.fSlots, .int .i64 x.fC.fTax, .int .i64 x.fC.fSlice, .int .i64 x.fC.fGens, .row false 1 (x.fP.fMem.map en_u8), .row false 1 (x.fP.fSt.map en_i64), .row false 1 (x.fP.fOwn.map en_i64), .row false 13 (x.fL.map en_impl_Node), .row false 5 (x.fQ.map en_impl_Waste), .row false 1 (x.fLog.map en_i64)]
theorem enOk_impl_World : En en_impl_World 12 := ⟨fun _ => rfl, fun _ => rfl, fun _ => rfl, fun x => by simp only [en_impl_World, shareL, V.share, enOk_u8.shareLL, enOk_i64.shareLL, enOk_impl_Node.shareLL, enOk_impl_Waste.shareLL]⟩
def eF_impl_World (x : T_impl_World) : List V := [.int .i64 x.fC.fChunks, .int .i64 x.fC.fSize, .int .i64 x.fC.fSlots, .int .i64 x.fC.fTax, .int .i64 x.fC.fSlice, .int .i64 x.fC.fGens, .row true 1 (x.fP.fMem.map en_u8), .row true 1 (x.fP.fSt.map en_i64), .row true 1 (x.fP.fOwn.map en_i64), .row true 13 (x.fL.map eF_impl_Node), .row true 5 (x.fQ.map eF_impl_Waste), .row true 1 (x.fLog.map en_i64)]
theorem eFOk_impl_World : EnD eF_impl_World en_impl_World 12 := ⟨fun _ => rfl, fun _ => rfl, fun x => by simp only [eF_impl_World, en_impl_World, shareL, V.share, enOk_u8.shareLL, enOk_i64.shareLL, eFOk_impl_Node.shareLL, eFOk_impl_Waste.shareLL]⟩
def en_impl_Handle (x : T_impl_Handle) : List V := [.int .i64 x.fSlot, .int .i64 x.fGen]
theorem enOk_impl_Handle : En en_impl_Handle 2 := ⟨fun _ => rfl, fun _ => rfl, fun _ => rfl, fun x => rfl⟩
theorem eFOk_impl_Handle : EnD en_impl_Handle en_impl_Handle 2 := ⟨enOk_impl_Handle.len, enOk_impl_Handle.closed, enOk_impl_Handle.share⟩
def en_impl_Ref (x : T_impl_Ref) : List V := [.int .i64 x.fH.fSlot, .int .i64 x.fH.fGen, .int .i64 x.fEp, .int .i64 x.fNo]
theorem enOk_impl_Ref : En en_impl_Ref 4 := ⟨fun _ => rfl, fun _ => rfl, fun _ => rfl, fun x => rfl⟩
theorem eFOk_impl_Ref : EnD en_impl_Ref en_impl_Ref 4 := ⟨enOk_impl_Ref.len, enOk_impl_Ref.closed, enOk_impl_Ref.share⟩
def en_laws_Conf (x : T_laws_Conf) : List V := [.int .i64 x.fChunks, .int .i64 x.fSize, .int .i64 x.fSlots, .int .i64 x.fTax, .int .i64 x.fSlice, .int .i64 x.fGens]
theorem enOk_laws_Conf : En en_laws_Conf 6 := ⟨fun _ => rfl, fun _ => rfl, fun _ => rfl, fun x => rfl⟩
theorem eFOk_laws_Conf : EnD en_laws_Conf en_laws_Conf 6 := ⟨enOk_laws_Conf.len, enOk_laws_Conf.closed, enOk_laws_Conf.share⟩
def en_laws_Pool (x : T_laws_Pool) : List V := [.row false 1 (x.fMem.map en_u8), .row false 1 (x.fSt.map en_i64), .row false 1 (x.fOwn.map en_i64)]
theorem enOk_laws_Pool : En en_laws_Pool 3 := ⟨fun _ => rfl, fun _ => rfl, fun _ => rfl, fun x => by simp only [en_laws_Pool, shareL, V.share, enOk_u8.shareLL, enOk_i64.shareLL]⟩
def eF_laws_Pool (x : T_laws_Pool) : List V := [.row true 1 (x.fMem.map en_u8), .row true 1 (x.fSt.map en_i64), .row true 1 (x.fOwn.map en_i64)]
theorem eFOk_laws_Pool : EnD eF_laws_Pool en_laws_Pool 3 := ⟨fun _ => rfl, fun _ => rfl, fun x => by simp only [eF_laws_Pool, en_laws_Pool, shareL, V.share, enOk_u8.shareLL, enOk_i64.shareLL]⟩
def en_laws_Thing (x : T_laws_Thing) : List V := [.int .i64 x.fAt, .int .i64 x.fLen, .int .i64 x.fRun]
theorem enOk_laws_Thing : En en_laws_Thing 3 := ⟨fun _ => rfl, fun _ => rfl, fun _ => rfl, fun x => rfl⟩
theorem eFOk_laws_Thing : EnD en_laws_Thing en_laws_Thing 3 := ⟨enOk_laws_Thing.len, enOk_laws_Thing.closed, enOk_laws_Thing.share⟩
def en_Llaws_Thing (x : List T_laws_Thing) : List V := [.row false 3 (x.map en_laws_Thing)]
theorem enOk_Llaws_Thing : En en_Llaws_Thing 1 := ⟨fun _ => rfl, fun _ => rfl, fun _ => rfl, fun x => by simp only [en_Llaws_Thing, shareL, V.share, enOk_laws_Thing.shareLL]⟩
def eF_Llaws_Thing (x : List T_laws_Thing) : List V := [.row true 3 (x.map en_laws_Thing)]
theorem eFOk_Llaws_Thing : EnD eF_Llaws_Thing en_Llaws_Thing 1 := ⟨fun _ => rfl, fun _ => rfl, fun x => by simp only [eF_Llaws_Thing, en_Llaws_Thing, shareL, V.share, enOk_laws_Thing.shareLL]⟩
def en_laws_Node (x : T_laws_Node) : List V := [.int .i64 x.fSt, .int .i64 x.fGen, .int .i64 x.fEp, .int .i64 x.fUp, .int .i64 x.fUpEp, .int .i64 x.fFirst, .int .i64 x.fNext, .int .i64 x.fPrev, .row false 1 (x.fChunks.map en_i64), .int .i64 x.fCur, .int .i64 x.fBump, .row false 3 (x.fThings.map en_laws_Thing), .row false 1 (x.fTags.map en_i64)]
theorem enOk_laws_Node : En en_laws_Node 13 := ⟨fun _ => rfl, fun _ => rfl, fun _ => rfl, fun x => by simp only [en_laws_Node, shareL, V.share, enOk_i64.shareLL, enOk_laws_Thing.shareLL]⟩
def eF_laws_Node (x : T_laws_Node) : List V := [.int .i64 x.fSt, .int .i64 x.fGen, .int .i64 x.fEp, .int .i64 x.fUp, .int .i64 x.fUpEp, .int .i64 x.fFirst, .int .i64 x.fNext, .int .i64 x.fPrev, .row true 1 (x.fChunks.map en_i64), .int .i64 x.fCur, .int .i64 x.fBump, .row true 3 (x.fThings.map en_laws_Thing), .row true 1 (x.fTags.map en_i64)]
theorem eFOk_laws_Node : EnD eF_laws_Node en_laws_Node 13 := ⟨fun _ => rfl, fun _ => rfl, fun x => by simp only [eF_laws_Node, en_laws_Node, shareL, V.share, enOk_i64.shareLL, enOk_laws_Thing.shareLL]⟩
def en_Llaws_Node (x : List T_laws_Node) : List V := [.row false 13 (x.map en_laws_Node)]
theorem enOk_Llaws_Node : En en_Llaws_Node 1 := ⟨fun _ => rfl, fun _ => rfl, fun _ => rfl, fun x => by simp only [en_Llaws_Node, shareL, V.share, enOk_laws_Node.shareLL]⟩
def eF_Llaws_Node (x : List T_laws_Node) : List V := [.row true 13 (x.map eF_laws_Node)]
theorem eFOk_Llaws_Node : EnD eF_Llaws_Node en_Llaws_Node 1 := ⟨fun _ => rfl, fun _ => rfl, fun x => by simp only [eF_Llaws_Node, en_Llaws_Node, shareL, V.share, eFOk_laws_Node.shareLL]⟩
def en_laws_Waste (x : T_laws_Waste) : List V := [.int .i64 x.fSlot, .int .i64 x.fFirst, .row false 1 (x.fTags.map en_i64), .row false 1 (x.fChunks.map en_i64), .int .i64 x.fDone]
theorem enOk_laws_Waste : En en_laws_Waste 5 := ⟨fun _ => rfl, fun _ => rfl, fun _ => rfl, fun x => by simp only [en_laws_Waste, shareL, V.share, enOk_i64.shareLL]⟩
def eF_laws_Waste (x : T_laws_Waste) : List V := [.int .i64 x.fSlot, .int .i64 x.fFirst, .row true 1 (x.fTags.map en_i64), .row true 1 (x.fChunks.map en_i64), .int .i64 x.fDone]
theorem eFOk_laws_Waste : EnD eF_laws_Waste en_laws_Waste 5 := ⟨fun _ => rfl, fun _ => rfl, fun x => by simp only [eF_laws_Waste, en_laws_Waste, shareL, V.share, enOk_i64.shareLL]⟩
def en_Llaws_Waste (x : List T_laws_Waste) : List V := [.row false 5 (x.map en_laws_Waste)]
theorem enOk_Llaws_Waste : En en_Llaws_Waste 1 := ⟨fun _ => rfl, fun _ => rfl, fun _ => rfl, fun x => by simp only [en_Llaws_Waste, shareL, V.share, enOk_laws_Waste.shareLL]⟩
def eF_Llaws_Waste (x : List T_laws_Waste) : List V := [.row true 5 (x.map eF_laws_Waste)]
theorem eFOk_Llaws_Waste : EnD eF_Llaws_Waste en_Llaws_Waste 1 := ⟨fun _ => rfl, fun _ => rfl, fun x => by simp only [eF_Llaws_Waste, en_Llaws_Waste, shareL, V.share, eFOk_laws_Waste.shareLL]⟩
def en_laws_World (x : T_laws_World) : List V := [.int .i64 x.fC.fChunks, .int .i64 x.fC.fSize, .int .i64 x.fC.fSlots, .int .i64 x.fC.fTax, .int .i64 x.fC.fSlice, .int .i64 x.fC.fGens, .row false 1 (x.fP.fMem.map en_u8), .row false 1 (x.fP.fSt.map en_i64), .row false 1 (x.fP.fOwn.map en_i64), .row false 13 (x.fL.map en_laws_Node), .row false 5 (x.fQ.map en_laws_Waste), .row false 1 (x.fLog.map en_i64)]
theorem enOk_laws_World : En en_laws_World 12 := ⟨fun _ => rfl, fun _ => rfl, fun _ => rfl, fun x => by simp only [en_laws_World, shareL, V.share, enOk_u8.shareLL, enOk_i64.shareLL, enOk_laws_Node.shareLL, enOk_laws_Waste.shareLL]⟩
def eF_laws_World (x : T_laws_World) : List V := [.int .i64 x.fC.fChunks, .int .i64 x.fC.fSize, .int .i64 x.fC.fSlots, .int .i64 x.fC.fTax, .int .i64 x.fC.fSlice, .int .i64 x.fC.fGens, .row true 1 (x.fP.fMem.map en_u8), .row true 1 (x.fP.fSt.map en_i64), .row true 1 (x.fP.fOwn.map en_i64), .row true 13 (x.fL.map eF_laws_Node), .row true 5 (x.fQ.map eF_laws_Waste), .row true 1 (x.fLog.map en_i64)]
theorem eFOk_laws_World : EnD eF_laws_World en_laws_World 12 := ⟨fun _ => rfl, fun _ => rfl, fun x => by simp only [eF_laws_World, en_laws_World, shareL, V.share, enOk_u8.shareLL, enOk_i64.shareLL, eFOk_laws_Node.shareLL, eFOk_laws_Waste.shareLL]⟩
def en_laws_Handle (x : T_laws_Handle) : List V := [.int .i64 x.fSlot, .int .i64 x.fGen]
theorem enOk_laws_Handle : En en_laws_Handle 2 := ⟨fun _ => rfl, fun _ => rfl, fun _ => rfl, fun x => rfl⟩
theorem eFOk_laws_Handle : EnD en_laws_Handle en_laws_Handle 2 := ⟨enOk_laws_Handle.len, enOk_laws_Handle.closed, enOk_laws_Handle.share⟩
def en_laws_Ref (x : T_laws_Ref) : List V := [.int .i64 x.fH.fSlot, .int .i64 x.fH.fGen, .int .i64 x.fEp, .int .i64 x.fNo]
theorem enOk_laws_Ref : En en_laws_Ref 4 := ⟨fun _ => rfl, fun _ => rfl, fun _ => rfl, fun x => rfl⟩
theorem eFOk_laws_Ref : EnD en_laws_Ref en_laws_Ref 4 := ⟨enOk_laws_Ref.len, enOk_laws_Ref.closed, enOk_laws_Ref.share⟩
def en_impl_Ans (x : T_impl_Ans) : List V := [.int .i64 x.fCode, .int .i64 x.fH.fSlot, .int .i64 x.fH.fGen, .int .i64 x.fR.fH.fSlot, .int .i64 x.fR.fH.fGen, .int .i64 x.fR.fEp, .int .i64 x.fR.fNo, .row false 1 (x.fB.map en_u8), .int .i64 x.fWalk, .int .i64 x.fTax, .int .i64 x.fDrain]
theorem enOk_impl_Ans : En en_impl_Ans 11 := ⟨fun _ => rfl, fun _ => rfl, fun _ => rfl, fun x => by simp only [en_impl_Ans, shareL, V.share, enOk_u8.shareLL]⟩
def eF_impl_Ans (x : T_impl_Ans) : List V := [.int .i64 x.fCode, .int .i64 x.fH.fSlot, .int .i64 x.fH.fGen, .int .i64 x.fR.fH.fSlot, .int .i64 x.fR.fH.fGen, .int .i64 x.fR.fEp, .int .i64 x.fR.fNo, .row true 1 (x.fB.map en_u8), .int .i64 x.fWalk, .int .i64 x.fTax, .int .i64 x.fDrain]
theorem eFOk_impl_Ans : EnD eF_impl_Ans en_impl_Ans 11 := ⟨fun _ => rfl, fun _ => rfl, fun x => by simp only [eF_impl_Ans, en_impl_Ans, shareL, V.share, enOk_u8.shareLL]⟩
def en_Lboolean (x : List Bool) : List V := [.row false 1 (x.map en_boolean)]
theorem enOk_Lboolean : En en_Lboolean 1 := ⟨fun _ => rfl, fun _ => rfl, fun _ => rfl, fun x => by simp only [en_Lboolean, shareL, V.share, enOk_boolean.shareLL]⟩
def eF_Lboolean (x : List Bool) : List V := [.row true 1 (x.map en_boolean)]
theorem eFOk_Lboolean : EnD eF_Lboolean en_Lboolean 1 := ⟨fun _ => rfl, fun _ => rfl, fun x => by simp only [eF_Lboolean, en_Lboolean, shareL, V.share, enOk_boolean.shareLL]⟩
def tyD : Nat -> Type
 | 2 => Int
 | 3 => Int
 | 4 => Bool
 | 5 => Int
 | 9 => ByteArray
 | 22 => List Int
 | 25 => T_impl_Conf
 | 26 => List Int
 | 28 => T_impl_Pool
 | 89 => T_impl_Thing
 | 41 => List T_impl_Thing
 | 44 => T_impl_Node
 | 29 => List T_impl_Node
 | 159 => T_impl_Waste
 | 30 => List T_impl_Waste
 | 32 => T_impl_World
 | 34 => T_impl_Handle
 | 36 => T_impl_Ref
 | 47 => T_laws_Conf
 | 48 => T_laws_Pool
 | 222 => T_laws_Thing
 | 152 => List T_laws_Thing
 | 154 => T_laws_Node
 | 49 => List T_laws_Node
 | 157 => T_laws_Waste
 | 50 => List T_laws_Waste
 | 52 => T_laws_World
 | 53 => T_laws_Handle
 | 61 => T_laws_Ref
 | 69 => T_impl_Ans
 | 224 => List Bool
 | _ => Unit
abbrev tyInh : (t : Nat) -> Inhabited (tyD t)
 | 2 => (inferInstance : Inhabited Int)
 | 3 => (inferInstance : Inhabited Int)
 | 4 => (inferInstance : Inhabited Bool)
 | 5 => (inferInstance : Inhabited Int)
 | 9 => (inferInstance : Inhabited ByteArray)
 | 22 => (inferInstance : Inhabited (List Int))
 | 25 => (inferInstance : Inhabited T_impl_Conf)
 | 26 => (inferInstance : Inhabited (List Int))
 | 28 => (inferInstance : Inhabited T_impl_Pool)
 | 89 => (inferInstance : Inhabited T_impl_Thing)
 | 41 => (inferInstance : Inhabited (List T_impl_Thing))
 | 44 => (inferInstance : Inhabited T_impl_Node)
 | 29 => (inferInstance : Inhabited (List T_impl_Node))
 | 159 => (inferInstance : Inhabited T_impl_Waste)
 | 30 => (inferInstance : Inhabited (List T_impl_Waste))
 | 32 => (inferInstance : Inhabited T_impl_World)
 | 34 => (inferInstance : Inhabited T_impl_Handle)
 | 36 => (inferInstance : Inhabited T_impl_Ref)
 | 47 => (inferInstance : Inhabited T_laws_Conf)
 | 48 => (inferInstance : Inhabited T_laws_Pool)
 | 222 => (inferInstance : Inhabited T_laws_Thing)
 | 152 => (inferInstance : Inhabited (List T_laws_Thing))
 | 154 => (inferInstance : Inhabited T_laws_Node)
 | 49 => (inferInstance : Inhabited (List T_laws_Node))
 | 157 => (inferInstance : Inhabited T_laws_Waste)
 | 50 => (inferInstance : Inhabited (List T_laws_Waste))
 | 52 => (inferInstance : Inhabited T_laws_World)
 | 53 => (inferInstance : Inhabited T_laws_Handle)
 | 61 => (inferInstance : Inhabited T_laws_Ref)
 | 69 => (inferInstance : Inhabited T_impl_Ans)
 | 224 => (inferInstance : Inhabited (List Bool))
 | _ => (by unfold tyD; split <;> infer_instance)
def tySz : Nat -> Nat
 | 2 => 1
 | 3 => 1
 | 4 => 1
 | 5 => 1
 | 9 => 1
 | 22 => 1
 | 25 => 6
 | 26 => 1
 | 28 => 3
 | 89 => 3
 | 41 => 1
 | 44 => 13
 | 29 => 1
 | 159 => 5
 | 30 => 1
 | 32 => 12
 | 34 => 2
 | 36 => 4
 | 47 => 6
 | 48 => 3
 | 222 => 3
 | 152 => 1
 | 154 => 13
 | 49 => 1
 | 157 => 5
 | 50 => 1
 | 52 => 12
 | 53 => 2
 | 61 => 4
 | 69 => 11
 | 224 => 1
 | _ => 0
def tyFlat : Nat -> Bool
 | 2 => true
 | 3 => true
 | 4 => true
 | 5 => true
 | 9 => true
 | 22 => false
 | 25 => true
 | 26 => false
 | 28 => false
 | 89 => true
 | 41 => false
 | 44 => false
 | 29 => false
 | 159 => false
 | 30 => false
 | 32 => false
 | 34 => true
 | 36 => true
 | 47 => true
 | 48 => false
 | 222 => true
 | 152 => false
 | 154 => false
 | 49 => false
 | 157 => false
 | 50 => false
 | 52 => false
 | 53 => true
 | 61 => true
 | 69 => false
 | 224 => false
 | _ => true
def tyAg : Nat -> Bool
 | 2 => false
 | 3 => false
 | 4 => false
 | 5 => false
 | 9 => false
 | 22 => false
 | 25 => true
 | 26 => false
 | 28 => true
 | 89 => true
 | 41 => false
 | 44 => true
 | 29 => false
 | 159 => true
 | 30 => false
 | 32 => true
 | 34 => true
 | 36 => true
 | 47 => true
 | 48 => true
 | 222 => true
 | 152 => false
 | 154 => true
 | 49 => false
 | 157 => true
 | 50 => false
 | 52 => true
 | 53 => true
 | 61 => true
 | 69 => true
 | 224 => false
 | _ => false
def tyEn : (t : Nat) -> tyD t -> List V
 | 2, x => en_i64 x
 | 3, x => en_i64 x
 | 4, x => en_boolean x
 | 5, x => en_u8 x
 | 9, x => en_string x
 | 22, x => en_Lu8 x
 | 25, x => en_impl_Conf x
 | 26, x => en_Li64 x
 | 28, x => en_impl_Pool x
 | 89, x => en_impl_Thing x
 | 41, x => en_Limpl_Thing x
 | 44, x => en_impl_Node x
 | 29, x => en_Limpl_Node x
 | 159, x => en_impl_Waste x
 | 30, x => en_Limpl_Waste x
 | 32, x => en_impl_World x
 | 34, x => en_impl_Handle x
 | 36, x => en_impl_Ref x
 | 47, x => en_laws_Conf x
 | 48, x => en_laws_Pool x
 | 222, x => en_laws_Thing x
 | 152, x => en_Llaws_Thing x
 | 154, x => en_laws_Node x
 | 49, x => en_Llaws_Node x
 | 157, x => en_laws_Waste x
 | 50, x => en_Llaws_Waste x
 | 52, x => en_laws_World x
 | 53, x => en_laws_Handle x
 | 61, x => en_laws_Ref x
 | 69, x => en_impl_Ans x
 | 224, x => en_Lboolean x
 | _, _ => []
def tyEF : (t : Nat) -> tyD t -> List V
 | 2, x => en_i64 x
 | 3, x => en_i64 x
 | 4, x => en_boolean x
 | 5, x => en_u8 x
 | 9, x => en_string x
 | 22, x => eF_Lu8 x
 | 25, x => en_impl_Conf x
 | 26, x => eF_Li64 x
 | 28, x => eF_impl_Pool x
 | 89, x => en_impl_Thing x
 | 41, x => eF_Limpl_Thing x
 | 44, x => eF_impl_Node x
 | 29, x => eF_Limpl_Node x
 | 159, x => eF_impl_Waste x
 | 30, x => eF_Limpl_Waste x
 | 32, x => eF_impl_World x
 | 34, x => en_impl_Handle x
 | 36, x => en_impl_Ref x
 | 47, x => en_laws_Conf x
 | 48, x => eF_laws_Pool x
 | 222, x => en_laws_Thing x
 | 152, x => eF_Llaws_Thing x
 | 154, x => eF_laws_Node x
 | 49, x => eF_Llaws_Node x
 | 157, x => eF_laws_Waste x
 | 50, x => eF_Llaws_Waste x
 | 52, x => eF_laws_World x
 | 53, x => en_laws_Handle x
 | 61, x => en_laws_Ref x
 | 69, x => eF_impl_Ans x
 | 224, x => eF_Lboolean x
 | _, _ => []
def tyCs : (t : Nat) -> tyD t -> List (SV tyD)
 | 2, x => [.int .i64 x 0]
 | 3, x => [.int .i64 x 0]
 | 4, x => [.bool x]
 | 5, x => [.int .u8 x 0]
 | 9, x => [.str x]
 | 22, x => [.row 5 x]
 | 25, x => [.int .i64 x.fChunks 0, .int .i64 x.fSize 0, .int .i64 x.fSlots 0, .int .i64 x.fTax 0, .int .i64 x.fSlice 0, .int .i64 x.fGens 0]
 | 26, x => [.row 3 x]
 | 28, x => [.row 5 x.fMem, .row 3 x.fSt, .row 3 x.fOwn]
 | 89, x => [.int .i64 x.fAt 0, .int .i64 x.fLen 0, .int .i64 x.fRun 0]
 | 41, x => [.row 89 x]
 | 44, x => [.int .i64 x.fSt 0, .int .i64 x.fGen 0, .int .i64 x.fEp 0, .int .i64 x.fUp 0, .int .i64 x.fUpEp 0, .int .i64 x.fFirst 0, .int .i64 x.fNext 0, .int .i64 x.fPrev 0, .row 3 x.fChunks, .int .i64 x.fCur 0, .int .i64 x.fBump 0, .row 89 x.fThings, .row 3 x.fTags]
 | 29, x => [.row 44 x]
 | 159, x => [.int .i64 x.fSlot 0, .int .i64 x.fFirst 0, .row 3 x.fTags, .row 3 x.fChunks, .int .i64 x.fDone 0]
 | 30, x => [.row 159 x]
 | 32, x => [.int .i64 x.fC.fChunks 0, .int .i64 x.fC.fSize 0, .int .i64 x.fC.fSlots 0, .int .i64 x.fC.fTax 0, .int .i64 x.fC.fSlice 0, .int .i64 x.fC.fGens 0, .row 5 x.fP.fMem, .row 3 x.fP.fSt, .row 3 x.fP.fOwn, .row 44 x.fL, .row 159 x.fQ, .row 3 x.fLog]
 | 34, x => [.int .i64 x.fSlot 0, .int .i64 x.fGen 0]
 | 36, x => [.int .i64 x.fH.fSlot 0, .int .i64 x.fH.fGen 0, .int .i64 x.fEp 0, .int .i64 x.fNo 0]
 | 47, x => [.int .i64 x.fChunks 0, .int .i64 x.fSize 0, .int .i64 x.fSlots 0, .int .i64 x.fTax 0, .int .i64 x.fSlice 0, .int .i64 x.fGens 0]
 | 48, x => [.row 5 x.fMem, .row 3 x.fSt, .row 3 x.fOwn]
 | 222, x => [.int .i64 x.fAt 0, .int .i64 x.fLen 0, .int .i64 x.fRun 0]
 | 152, x => [.row 222 x]
 | 154, x => [.int .i64 x.fSt 0, .int .i64 x.fGen 0, .int .i64 x.fEp 0, .int .i64 x.fUp 0, .int .i64 x.fUpEp 0, .int .i64 x.fFirst 0, .int .i64 x.fNext 0, .int .i64 x.fPrev 0, .row 3 x.fChunks, .int .i64 x.fCur 0, .int .i64 x.fBump 0, .row 222 x.fThings, .row 3 x.fTags]
 | 49, x => [.row 154 x]
 | 157, x => [.int .i64 x.fSlot 0, .int .i64 x.fFirst 0, .row 3 x.fTags, .row 3 x.fChunks, .int .i64 x.fDone 0]
 | 50, x => [.row 157 x]
 | 52, x => [.int .i64 x.fC.fChunks 0, .int .i64 x.fC.fSize 0, .int .i64 x.fC.fSlots 0, .int .i64 x.fC.fTax 0, .int .i64 x.fC.fSlice 0, .int .i64 x.fC.fGens 0, .row 5 x.fP.fMem, .row 3 x.fP.fSt, .row 3 x.fP.fOwn, .row 154 x.fL, .row 157 x.fQ, .row 3 x.fLog]
 | 53, x => [.int .i64 x.fSlot 0, .int .i64 x.fGen 0]
 | 61, x => [.int .i64 x.fH.fSlot 0, .int .i64 x.fH.fGen 0, .int .i64 x.fEp 0, .int .i64 x.fNo 0]
 | 69, x => [.int .i64 x.fCode 0, .int .i64 x.fH.fSlot 0, .int .i64 x.fH.fGen 0, .int .i64 x.fR.fH.fSlot 0, .int .i64 x.fR.fH.fGen 0, .int .i64 x.fR.fEp 0, .int .i64 x.fR.fNo 0, .row 5 x.fB, .int .i64 x.fWalk 0, .int .i64 x.fTax 0, .int .i64 x.fDrain 0]
 | 224, x => [.row 4 x]
 | _, _ => []
def tyCO : (t : Nat) -> Bool -> tyD t -> List (SV tyD)
 | 2, m, x => [.int .i64 x 0]
 | 3, m, x => [.int .i64 x 0]
 | 4, m, x => [.bool x]
 | 5, m, x => [.int .u8 x 0]
 | 9, m, x => [.str x]
 | 22, m, x => [.rowT 5 true x]
 | 25, m, x => [.int .i64 x.fChunks 0, .int .i64 x.fSize 0, .int .i64 x.fSlots 0, .int .i64 x.fTax 0, .int .i64 x.fSlice 0, .int .i64 x.fGens 0]
 | 26, m, x => [.rowT 3 true x]
 | 28, m, x => [.rowT 5 true x.fMem, .rowT 3 true x.fSt, .rowT 3 true x.fOwn]
 | 89, m, x => [.int .i64 x.fAt 0, .int .i64 x.fLen 0, .int .i64 x.fRun 0]
 | 41, m, x => [.rowT 89 true x]
 | 44, m, x => [.int .i64 x.fSt 0, .int .i64 x.fGen 0, .int .i64 x.fEp 0, .int .i64 x.fUp 0, .int .i64 x.fUpEp 0, .int .i64 x.fFirst 0, .int .i64 x.fNext 0, .int .i64 x.fPrev 0, .rowT 3 true x.fChunks, .int .i64 x.fCur 0, .int .i64 x.fBump 0, .rowT 89 true x.fThings, .rowT 3 true x.fTags]
 | 29, m, x => [.rowT 44 m x]
 | 159, m, x => [.int .i64 x.fSlot 0, .int .i64 x.fFirst 0, .rowT 3 true x.fTags, .rowT 3 true x.fChunks, .int .i64 x.fDone 0]
 | 30, m, x => [.rowT 159 m x]
 | 32, m, x => [.int .i64 x.fC.fChunks 0, .int .i64 x.fC.fSize 0, .int .i64 x.fC.fSlots 0, .int .i64 x.fC.fTax 0, .int .i64 x.fC.fSlice 0, .int .i64 x.fC.fGens 0, .rowT 5 true x.fP.fMem, .rowT 3 true x.fP.fSt, .rowT 3 true x.fP.fOwn, .rowT 44 m x.fL, .rowT 159 m x.fQ, .rowT 3 true x.fLog]
 | 34, m, x => [.int .i64 x.fSlot 0, .int .i64 x.fGen 0]
 | 36, m, x => [.int .i64 x.fH.fSlot 0, .int .i64 x.fH.fGen 0, .int .i64 x.fEp 0, .int .i64 x.fNo 0]
 | 47, m, x => [.int .i64 x.fChunks 0, .int .i64 x.fSize 0, .int .i64 x.fSlots 0, .int .i64 x.fTax 0, .int .i64 x.fSlice 0, .int .i64 x.fGens 0]
 | 48, m, x => [.rowT 5 true x.fMem, .rowT 3 true x.fSt, .rowT 3 true x.fOwn]
 | 222, m, x => [.int .i64 x.fAt 0, .int .i64 x.fLen 0, .int .i64 x.fRun 0]
 | 152, m, x => [.rowT 222 true x]
 | 154, m, x => [.int .i64 x.fSt 0, .int .i64 x.fGen 0, .int .i64 x.fEp 0, .int .i64 x.fUp 0, .int .i64 x.fUpEp 0, .int .i64 x.fFirst 0, .int .i64 x.fNext 0, .int .i64 x.fPrev 0, .rowT 3 true x.fChunks, .int .i64 x.fCur 0, .int .i64 x.fBump 0, .rowT 222 true x.fThings, .rowT 3 true x.fTags]
 | 49, m, x => [.rowT 154 m x]
 | 157, m, x => [.int .i64 x.fSlot 0, .int .i64 x.fFirst 0, .rowT 3 true x.fTags, .rowT 3 true x.fChunks, .int .i64 x.fDone 0]
 | 50, m, x => [.rowT 157 m x]
 | 52, m, x => [.int .i64 x.fC.fChunks 0, .int .i64 x.fC.fSize 0, .int .i64 x.fC.fSlots 0, .int .i64 x.fC.fTax 0, .int .i64 x.fC.fSlice 0, .int .i64 x.fC.fGens 0, .rowT 5 true x.fP.fMem, .rowT 3 true x.fP.fSt, .rowT 3 true x.fP.fOwn, .rowT 154 m x.fL, .rowT 157 m x.fQ, .rowT 3 true x.fLog]
 | 53, m, x => [.int .i64 x.fSlot 0, .int .i64 x.fGen 0]
 | 61, m, x => [.int .i64 x.fH.fSlot 0, .int .i64 x.fH.fGen 0, .int .i64 x.fEp 0, .int .i64 x.fNo 0]
 | 69, m, x => [.int .i64 x.fCode 0, .int .i64 x.fH.fSlot 0, .int .i64 x.fH.fGen 0, .int .i64 x.fR.fH.fSlot 0, .int .i64 x.fR.fH.fGen 0, .int .i64 x.fR.fEp 0, .int .i64 x.fR.fNo 0, .rowT 5 true x.fB, .int .i64 x.fWalk 0, .int .i64 x.fTax 0, .int .i64 x.fDrain 0]
 | 224, m, x => [.rowT 4 true x]
 | _, _, _ => []
def fs_2 : List (SV tyD) -> Option (tyD 2)
 | [.int .i64 a0 _] => some a0
 | _ => none
def fs_3 : List (SV tyD) -> Option (tyD 3)
 | [.int .i64 a0 _] => some a0
 | _ => none
def fs_4 : List (SV tyD) -> Option (tyD 4)
 | [.bool a0] => some a0
 | _ => none
def fs_5 : List (SV tyD) -> Option (tyD 5)
 | [.int .u8 a0 _] => some a0
 | _ => none
def fs_9 : List (SV tyD) -> Option (tyD 9)
 | [.str a0] => some a0
 | _ => none
def fs_22 : List (SV tyD) -> Option (tyD 22)
 | [.row 5 a0] => some a0
 | _ => none
def fs_25 : List (SV tyD) -> Option (tyD 25)
 | [.int .i64 a0 _, .int .i64 a1 _, .int .i64 a2 _, .int .i64 a3 _, .int .i64 a4 _, .int .i64 a5 _] => some ⟨a0, a1, a2, a3, a4, a5⟩
 | _ => none
def fs_26 : List (SV tyD) -> Option (tyD 26)
 | [.row 3 a0] => some a0
 | _ => none
def fs_28 : List (SV tyD) -> Option (tyD 28)
 | [.row 5 a0, .row 3 a1, .row 3 a2] => some ⟨a0, a1, a2⟩
 | _ => none
def fs_89 : List (SV tyD) -> Option (tyD 89)
 | [.int .i64 a0 _, .int .i64 a1 _, .int .i64 a2 _] => some ⟨a0, a1, a2⟩
 | _ => none
def fs_41 : List (SV tyD) -> Option (tyD 41)
 | [.row 89 a0] => some a0
 | _ => none
def fs_44 : List (SV tyD) -> Option (tyD 44)
 | [.int .i64 a0 _, .int .i64 a1 _, .int .i64 a2 _, .int .i64 a3 _, .int .i64 a4 _, .int .i64 a5 _, .int .i64 a6 _, .int .i64 a7 _, .row 3 a8, .int .i64 a9 _, .int .i64 a10 _, .row 89 a11, .row 3 a12] => some ⟨a0, a1, a2, a3, a4, a5, a6, a7, a8, a9, a10, a11, a12⟩
 | _ => none
def fs_29 : List (SV tyD) -> Option (tyD 29)
 | [.row 44 a0] => some a0
 | _ => none
def fs_159 : List (SV tyD) -> Option (tyD 159)
 | [.int .i64 a0 _, .int .i64 a1 _, .row 3 a2, .row 3 a3, .int .i64 a4 _] => some ⟨a0, a1, a2, a3, a4⟩
 | _ => none
def fs_30 : List (SV tyD) -> Option (tyD 30)
 | [.row 159 a0] => some a0
 | _ => none
def fs_32 : List (SV tyD) -> Option (tyD 32)
 | [.int .i64 a0 _, .int .i64 a1 _, .int .i64 a2 _, .int .i64 a3 _, .int .i64 a4 _, .int .i64 a5 _, .row 5 a6, .row 3 a7, .row 3 a8, .row 44 a9, .row 159 a10, .row 3 a11] => some ⟨⟨a0, a1, a2, a3, a4, a5⟩, ⟨a6, a7, a8⟩, a9, a10, a11⟩
 | _ => none
def fs_34 : List (SV tyD) -> Option (tyD 34)
 | [.int .i64 a0 _, .int .i64 a1 _] => some ⟨a0, a1⟩
 | _ => none
def fs_36 : List (SV tyD) -> Option (tyD 36)
 | [.int .i64 a0 _, .int .i64 a1 _, .int .i64 a2 _, .int .i64 a3 _] => some ⟨⟨a0, a1⟩, a2, a3⟩
 | _ => none
def fs_47 : List (SV tyD) -> Option (tyD 47)
 | [.int .i64 a0 _, .int .i64 a1 _, .int .i64 a2 _, .int .i64 a3 _, .int .i64 a4 _, .int .i64 a5 _] => some ⟨a0, a1, a2, a3, a4, a5⟩
 | _ => none
def fs_48 : List (SV tyD) -> Option (tyD 48)
 | [.row 5 a0, .row 3 a1, .row 3 a2] => some ⟨a0, a1, a2⟩
 | _ => none
def fs_222 : List (SV tyD) -> Option (tyD 222)
 | [.int .i64 a0 _, .int .i64 a1 _, .int .i64 a2 _] => some ⟨a0, a1, a2⟩
 | _ => none
def fs_152 : List (SV tyD) -> Option (tyD 152)
 | [.row 222 a0] => some a0
 | _ => none
def fs_154 : List (SV tyD) -> Option (tyD 154)
 | [.int .i64 a0 _, .int .i64 a1 _, .int .i64 a2 _, .int .i64 a3 _, .int .i64 a4 _, .int .i64 a5 _, .int .i64 a6 _, .int .i64 a7 _, .row 3 a8, .int .i64 a9 _, .int .i64 a10 _, .row 222 a11, .row 3 a12] => some ⟨a0, a1, a2, a3, a4, a5, a6, a7, a8, a9, a10, a11, a12⟩
 | _ => none
def fs_49 : List (SV tyD) -> Option (tyD 49)
 | [.row 154 a0] => some a0
 | _ => none
def fs_157 : List (SV tyD) -> Option (tyD 157)
 | [.int .i64 a0 _, .int .i64 a1 _, .row 3 a2, .row 3 a3, .int .i64 a4 _] => some ⟨a0, a1, a2, a3, a4⟩
 | _ => none
def fs_50 : List (SV tyD) -> Option (tyD 50)
 | [.row 157 a0] => some a0
 | _ => none
def fs_52 : List (SV tyD) -> Option (tyD 52)
 | [.int .i64 a0 _, .int .i64 a1 _, .int .i64 a2 _, .int .i64 a3 _, .int .i64 a4 _, .int .i64 a5 _, .row 5 a6, .row 3 a7, .row 3 a8, .row 154 a9, .row 157 a10, .row 3 a11] => some ⟨⟨a0, a1, a2, a3, a4, a5⟩, ⟨a6, a7, a8⟩, a9, a10, a11⟩
 | _ => none
def fs_53 : List (SV tyD) -> Option (tyD 53)
 | [.int .i64 a0 _, .int .i64 a1 _] => some ⟨a0, a1⟩
 | _ => none
def fs_61 : List (SV tyD) -> Option (tyD 61)
 | [.int .i64 a0 _, .int .i64 a1 _, .int .i64 a2 _, .int .i64 a3 _] => some ⟨⟨a0, a1⟩, a2, a3⟩
 | _ => none
def fs_69 : List (SV tyD) -> Option (tyD 69)
 | [.int .i64 a0 _, .int .i64 a1 _, .int .i64 a2 _, .int .i64 a3 _, .int .i64 a4 _, .int .i64 a5 _, .int .i64 a6 _, .row 5 a7, .int .i64 a8 _, .int .i64 a9 _, .int .i64 a10 _] => some ⟨a0, ⟨a1, a2⟩, ⟨⟨a3, a4⟩, a5, a6⟩, a7, a8, a9, a10⟩
 | _ => none
def fs_224 : List (SV tyD) -> Option (tyD 224)
 | [.row 4 a0] => some a0
 | _ => none
def tyFS : (t : Nat) -> List (SV tyD) -> Option (tyD t)
 | 2, c => fs_2 c
 | 3, c => fs_3 c
 | 4, c => fs_4 c
 | 5, c => fs_5 c
 | 9, c => fs_9 c
 | 22, c => fs_22 c
 | 25, c => fs_25 c
 | 26, c => fs_26 c
 | 28, c => fs_28 c
 | 89, c => fs_89 c
 | 41, c => fs_41 c
 | 44, c => fs_44 c
 | 29, c => fs_29 c
 | 159, c => fs_159 c
 | 30, c => fs_30 c
 | 32, c => fs_32 c
 | 34, c => fs_34 c
 | 36, c => fs_36 c
 | 47, c => fs_47 c
 | 48, c => fs_48 c
 | 222, c => fs_222 c
 | 152, c => fs_152 c
 | 154, c => fs_154 c
 | 49, c => fs_49 c
 | 157, c => fs_157 c
 | 50, c => fs_50 c
 | 52, c => fs_52 c
 | 53, c => fs_53 c
 | 61, c => fs_61 c
 | 69, c => fs_69 c
 | 224, c => fs_224 c
 | _, _ => none
def fo_2_t : List (SV tyD) -> Option (tyD 2)
 | [.int .i64 a0 _] => some a0
 | _ => none
def fo_3_t : List (SV tyD) -> Option (tyD 3)
 | [.int .i64 a0 _] => some a0
 | _ => none
def fo_4_t : List (SV tyD) -> Option (tyD 4)
 | [.bool a0] => some a0
 | _ => none
def fo_5_t : List (SV tyD) -> Option (tyD 5)
 | [.int .u8 a0 _] => some a0
 | _ => none
def fo_9_t : List (SV tyD) -> Option (tyD 9)
 | [.str a0] => some a0
 | _ => none
def fo_22_t : List (SV tyD) -> Option (tyD 22)
 | [.rowT 5 true a0] => some a0
 | _ => none
def fo_25_t : List (SV tyD) -> Option (tyD 25)
 | [.int .i64 a0 _, .int .i64 a1 _, .int .i64 a2 _, .int .i64 a3 _, .int .i64 a4 _, .int .i64 a5 _] => some ⟨a0, a1, a2, a3, a4, a5⟩
 | _ => none
def fo_26_t : List (SV tyD) -> Option (tyD 26)
 | [.rowT 3 true a0] => some a0
 | _ => none
def fo_28_t : List (SV tyD) -> Option (tyD 28)
 | [.rowT 5 true a0, .rowT 3 true a1, .rowT 3 true a2] => some ⟨a0, a1, a2⟩
 | _ => none
def fo_89_t : List (SV tyD) -> Option (tyD 89)
 | [.int .i64 a0 _, .int .i64 a1 _, .int .i64 a2 _] => some ⟨a0, a1, a2⟩
 | _ => none
def fo_41_t : List (SV tyD) -> Option (tyD 41)
 | [.rowT 89 true a0] => some a0
 | _ => none
def fo_44_t : List (SV tyD) -> Option (tyD 44)
 | [.int .i64 a0 _, .int .i64 a1 _, .int .i64 a2 _, .int .i64 a3 _, .int .i64 a4 _, .int .i64 a5 _, .int .i64 a6 _, .int .i64 a7 _, .rowT 3 true a8, .int .i64 a9 _, .int .i64 a10 _, .rowT 89 true a11, .rowT 3 true a12] => some ⟨a0, a1, a2, a3, a4, a5, a6, a7, a8, a9, a10, a11, a12⟩
 | _ => none
def fo_29_t : List (SV tyD) -> Option (tyD 29)
 | [.rowT 44 true a0] => some a0
 | _ => none
def fo_29_f : List (SV tyD) -> Option (tyD 29)
 | [.rowT 44 false a0] => some a0
 | _ => none
def fo_159_t : List (SV tyD) -> Option (tyD 159)
 | [.int .i64 a0 _, .int .i64 a1 _, .rowT 3 true a2, .rowT 3 true a3, .int .i64 a4 _] => some ⟨a0, a1, a2, a3, a4⟩
 | _ => none
def fo_30_t : List (SV tyD) -> Option (tyD 30)
 | [.rowT 159 true a0] => some a0
 | _ => none
def fo_30_f : List (SV tyD) -> Option (tyD 30)
 | [.rowT 159 false a0] => some a0
 | _ => none
def fo_32_t : List (SV tyD) -> Option (tyD 32)
 | [.int .i64 a0 _, .int .i64 a1 _, .int .i64 a2 _, .int .i64 a3 _, .int .i64 a4 _, .int .i64 a5 _, .rowT 5 true a6, .rowT 3 true a7, .rowT 3 true a8, .rowT 44 true a9, .rowT 159 true a10, .rowT 3 true a11] => some ⟨⟨a0, a1, a2, a3, a4, a5⟩, ⟨a6, a7, a8⟩, a9, a10, a11⟩
 | _ => none
def fo_32_f : List (SV tyD) -> Option (tyD 32)
 | [.int .i64 a0 _, .int .i64 a1 _, .int .i64 a2 _, .int .i64 a3 _, .int .i64 a4 _, .int .i64 a5 _, .rowT 5 true a6, .rowT 3 true a7, .rowT 3 true a8, .rowT 44 false a9, .rowT 159 false a10, .rowT 3 true a11] => some ⟨⟨a0, a1, a2, a3, a4, a5⟩, ⟨a6, a7, a8⟩, a9, a10, a11⟩
 | _ => none
def fo_34_t : List (SV tyD) -> Option (tyD 34)
 | [.int .i64 a0 _, .int .i64 a1 _] => some ⟨a0, a1⟩
 | _ => none
def fo_36_t : List (SV tyD) -> Option (tyD 36)
 | [.int .i64 a0 _, .int .i64 a1 _, .int .i64 a2 _, .int .i64 a3 _] => some ⟨⟨a0, a1⟩, a2, a3⟩
 | _ => none
def fo_47_t : List (SV tyD) -> Option (tyD 47)
 | [.int .i64 a0 _, .int .i64 a1 _, .int .i64 a2 _, .int .i64 a3 _, .int .i64 a4 _, .int .i64 a5 _] => some ⟨a0, a1, a2, a3, a4, a5⟩
 | _ => none
def fo_48_t : List (SV tyD) -> Option (tyD 48)
 | [.rowT 5 true a0, .rowT 3 true a1, .rowT 3 true a2] => some ⟨a0, a1, a2⟩
 | _ => none
def fo_222_t : List (SV tyD) -> Option (tyD 222)
 | [.int .i64 a0 _, .int .i64 a1 _, .int .i64 a2 _] => some ⟨a0, a1, a2⟩
 | _ => none
def fo_152_t : List (SV tyD) -> Option (tyD 152)
 | [.rowT 222 true a0] => some a0
 | _ => none
def fo_154_t : List (SV tyD) -> Option (tyD 154)
 | [.int .i64 a0 _, .int .i64 a1 _, .int .i64 a2 _, .int .i64 a3 _, .int .i64 a4 _, .int .i64 a5 _, .int .i64 a6 _, .int .i64 a7 _, .rowT 3 true a8, .int .i64 a9 _, .int .i64 a10 _, .rowT 222 true a11, .rowT 3 true a12] => some ⟨a0, a1, a2, a3, a4, a5, a6, a7, a8, a9, a10, a11, a12⟩
 | _ => none
def fo_49_t : List (SV tyD) -> Option (tyD 49)
 | [.rowT 154 true a0] => some a0
 | _ => none
def fo_49_f : List (SV tyD) -> Option (tyD 49)
 | [.rowT 154 false a0] => some a0
 | _ => none
def fo_157_t : List (SV tyD) -> Option (tyD 157)
 | [.int .i64 a0 _, .int .i64 a1 _, .rowT 3 true a2, .rowT 3 true a3, .int .i64 a4 _] => some ⟨a0, a1, a2, a3, a4⟩
 | _ => none
def fo_50_t : List (SV tyD) -> Option (tyD 50)
 | [.rowT 157 true a0] => some a0
 | _ => none
def fo_50_f : List (SV tyD) -> Option (tyD 50)
 | [.rowT 157 false a0] => some a0
 | _ => none
def fo_52_t : List (SV tyD) -> Option (tyD 52)
 | [.int .i64 a0 _, .int .i64 a1 _, .int .i64 a2 _, .int .i64 a3 _, .int .i64 a4 _, .int .i64 a5 _, .rowT 5 true a6, .rowT 3 true a7, .rowT 3 true a8, .rowT 154 true a9, .rowT 157 true a10, .rowT 3 true a11] => some ⟨⟨a0, a1, a2, a3, a4, a5⟩, ⟨a6, a7, a8⟩, a9, a10, a11⟩
 | _ => none
def fo_52_f : List (SV tyD) -> Option (tyD 52)
 | [.int .i64 a0 _, .int .i64 a1 _, .int .i64 a2 _, .int .i64 a3 _, .int .i64 a4 _, .int .i64 a5 _, .rowT 5 true a6, .rowT 3 true a7, .rowT 3 true a8, .rowT 154 false a9, .rowT 157 false a10, .rowT 3 true a11] => some ⟨⟨a0, a1, a2, a3, a4, a5⟩, ⟨a6, a7, a8⟩, a9, a10, a11⟩
 | _ => none
def fo_53_t : List (SV tyD) -> Option (tyD 53)
 | [.int .i64 a0 _, .int .i64 a1 _] => some ⟨a0, a1⟩
 | _ => none
def fo_61_t : List (SV tyD) -> Option (tyD 61)
 | [.int .i64 a0 _, .int .i64 a1 _, .int .i64 a2 _, .int .i64 a3 _] => some ⟨⟨a0, a1⟩, a2, a3⟩
 | _ => none
def fo_69_t : List (SV tyD) -> Option (tyD 69)
 | [.int .i64 a0 _, .int .i64 a1 _, .int .i64 a2 _, .int .i64 a3 _, .int .i64 a4 _, .int .i64 a5 _, .int .i64 a6 _, .rowT 5 true a7, .int .i64 a8 _, .int .i64 a9 _, .int .i64 a10 _] => some ⟨a0, ⟨a1, a2⟩, ⟨⟨a3, a4⟩, a5, a6⟩, a7, a8, a9, a10⟩
 | _ => none
def fo_224_t : List (SV tyD) -> Option (tyD 224)
 | [.rowT 4 true a0] => some a0
 | _ => none
def tyFO : (t : Nat) -> Bool -> List (SV tyD) -> Option (tyD t)
 | 2, _, c => fo_2_t c
 | 3, _, c => fo_3_t c
 | 4, _, c => fo_4_t c
 | 5, _, c => fo_5_t c
 | 9, _, c => fo_9_t c
 | 22, _, c => fo_22_t c
 | 25, _, c => fo_25_t c
 | 26, _, c => fo_26_t c
 | 28, _, c => fo_28_t c
 | 89, _, c => fo_89_t c
 | 41, _, c => fo_41_t c
 | 44, _, c => fo_44_t c
 | 29, true, c => fo_29_t c
 | 29, false, c => fo_29_f c
 | 159, _, c => fo_159_t c
 | 30, true, c => fo_30_t c
 | 30, false, c => fo_30_f c
 | 32, true, c => fo_32_t c
 | 32, false, c => fo_32_f c
 | 34, _, c => fo_34_t c
 | 36, _, c => fo_36_t c
 | 47, _, c => fo_47_t c
 | 48, _, c => fo_48_t c
 | 222, _, c => fo_222_t c
 | 152, _, c => fo_152_t c
 | 154, _, c => fo_154_t c
 | 49, true, c => fo_49_t c
 | 49, false, c => fo_49_f c
 | 157, _, c => fo_157_t c
 | 50, true, c => fo_50_t c
 | 50, false, c => fo_50_f c
 | 52, true, c => fo_52_t c
 | 52, false, c => fo_52_f c
 | 53, _, c => fo_53_t c
 | 61, _, c => fo_61_t c
 | 69, _, c => fo_69_t c
 | 224, _, c => fo_224_t c
 | _, _, _ => none
def tyU : Un := ⟨tyD, tyInh, tySz, tyFlat, tyAg, tyEn, tyEF, tyCs, tyCO, tyFS, tyFO⟩
theorem fr_Lu8 : ∀ x, (eF_Lu8 x).all V.fresh = true := fun x => by
 simp only [eF_Lu8, Z51, List.all_nil, fresh_row (f := en_u8) (fun _ => rfl), frI, frB, frS, Bool.and_self]
theorem fr_Li64 : ∀ x, (eF_Li64 x).all V.fresh = true := fun x => by
 simp only [eF_Li64, Z51, List.all_nil, fresh_row (f := en_i64) (fun _ => rfl), frI, frB, frS, Bool.and_self]
theorem fr_impl_Pool : ∀ x, (eF_impl_Pool x).all V.fresh = true := fun x => by
 simp only [eF_impl_Pool, Z51, List.all_nil, fresh_row (f := en_u8) (fun _ => rfl), fresh_row (f := en_i64) (fun _ => rfl), frI, frB, frS, Bool.and_self]
theorem fr_Limpl_Thing : ∀ x, (eF_Limpl_Thing x).all V.fresh = true := fun x => by
 simp only [eF_Limpl_Thing, Z51, List.all_nil, fresh_row (f := en_impl_Thing) (fun _ => rfl), frI, frB, frS, Bool.and_self]
theorem fr_impl_Node : ∀ x, (eF_impl_Node x).all V.fresh = true := fun x => by
 simp only [eF_impl_Node, Z51, List.all_nil, fresh_row (f := en_i64) (fun _ => rfl), fresh_row (f := en_impl_Thing) (fun _ => rfl), frI, frB, frS, Bool.and_self]
theorem fr_Limpl_Node : ∀ x, (eF_Limpl_Node x).all V.fresh = true := fun x => by
 simp only [eF_Limpl_Node, Z51, List.all_nil, fresh_row fr_impl_Node, frI, frB, frS, Bool.and_self]
theorem fr_impl_Waste : ∀ x, (eF_impl_Waste x).all V.fresh = true := fun x => by
 simp only [eF_impl_Waste, Z51, List.all_nil, fresh_row (f := en_i64) (fun _ => rfl), frI, frB, frS, Bool.and_self]
theorem fr_Limpl_Waste : ∀ x, (eF_Limpl_Waste x).all V.fresh = true := fun x => by
 simp only [eF_Limpl_Waste, Z51, List.all_nil, fresh_row fr_impl_Waste, frI, frB, frS, Bool.and_self]
theorem fr_impl_World : ∀ x, (eF_impl_World x).all V.fresh = true := fun x => by
 simp only [eF_impl_World, Z51, List.all_nil, fresh_row (f := en_u8) (fun _ => rfl), fresh_row (f := en_i64) (fun _ => rfl), fresh_row fr_impl_Node, fresh_row fr_impl_Waste, frI, frB, frS, Bool.and_self]
theorem fr_laws_Pool : ∀ x, (eF_laws_Pool x).all V.fresh = true := fun x => by
 simp only [eF_laws_Pool, Z51, List.all_nil, fresh_row (f := en_u8) (fun _ => rfl), fresh_row (f := en_i64) (fun _ => rfl), frI, frB, frS, Bool.and_self]
theorem fr_Llaws_Thing : ∀ x, (eF_Llaws_Thing x).all V.fresh = true := fun x => by
 simp only [eF_Llaws_Thing, Z51, List.all_nil, fresh_row (f := en_laws_Thing) (fun _ => rfl), frI, frB, frS, Bool.and_self]
theorem fr_laws_Node : ∀ x, (eF_laws_Node x).all V.fresh = true := fun x => by
 simp only [eF_laws_Node, Z51, List.all_nil, fresh_row (f := en_i64) (fun _ => rfl), fresh_row (f := en_laws_Thing) (fun _ => rfl), frI, frB, frS, Bool.and_self]
theorem fr_Llaws_Node : ∀ x, (eF_Llaws_Node x).all V.fresh = true := fun x => by
 simp only [eF_Llaws_Node, Z51, List.all_nil, fresh_row fr_laws_Node, frI, frB, frS, Bool.and_self]
theorem fr_laws_Waste : ∀ x, (eF_laws_Waste x).all V.fresh = true := fun x => by
 simp only [eF_laws_Waste, Z51, List.all_nil, fresh_row (f := en_i64) (fun _ => rfl), frI, frB, frS, Bool.and_self]
theorem fr_Llaws_Waste : ∀ x, (eF_Llaws_Waste x).all V.fresh = true := fun x => by
 simp only [eF_Llaws_Waste, Z51, List.all_nil, fresh_row fr_laws_Waste, frI, frB, frS, Bool.and_self]
theorem fr_laws_World : ∀ x, (eF_laws_World x).all V.fresh = true := fun x => by
 simp only [eF_laws_World, Z51, List.all_nil, fresh_row (f := en_u8) (fun _ => rfl), fresh_row (f := en_i64) (fun _ => rfl), fresh_row fr_laws_Node, fresh_row fr_laws_Waste, frI, frB, frS, Bool.and_self]
theorem fr_impl_Ans : ∀ x, (eF_impl_Ans x).all V.fresh = true := fun x => by
 simp only [eF_impl_Ans, Z51, List.all_nil, fresh_row (f := en_u8) (fun _ => rfl), frI, frB, frS, Bool.and_self]
theorem fr_Lboolean : ∀ x, (eF_Lboolean x).all V.fresh = true := fun x => by
 simp only [eF_Lboolean, Z51, List.all_nil, fresh_row (f := en_boolean) (fun _ => rfl), frI, frB, frS, Bool.and_self]
theorem fsI_2 (c x) (h : fs_2 c = some x) : c.map (SV.toV tyU) = en_i64 x := by
  unfold fs_2 at h; split at h
  ·cases h; rfl
  ·cases h
theorem fo_2_tI (c x) (h : fo_2_t c = some x) : c.map (SV.toV tyU) = (tyCO 2 true x).map (SV.toV tyU) := by
  unfold fo_2_t at h; split at h
  ·cases h; rfl
  ·cases h
theorem un_2 : Un1 tyU 2 := ⟨enOk_i64, eFOk_i64, fun _ => rfl, fun _ => rfl, fun _ _ => rfl, fsI_2, fun _ => fo_2_tI, fun _ => rfl, fun _ => rfl, fun _ _ => rfl, fun _ => rfl, fun _ => rfl⟩
theorem fsI_3 (c x) (h : fs_3 c = some x) : c.map (SV.toV tyU) = en_i64 x := by
  unfold fs_3 at h; split at h
  ·cases h; rfl
  ·cases h
theorem fo_3_tI (c x) (h : fo_3_t c = some x) : c.map (SV.toV tyU) = (tyCO 3 true x).map (SV.toV tyU) := by
  unfold fo_3_t at h; split at h
  ·cases h; rfl
  ·cases h
theorem un_3 : Un1 tyU 3 := ⟨enOk_i64, eFOk_i64, fun _ => rfl, fun _ => rfl, fun _ _ => rfl, fsI_3, fun _ => fo_3_tI, fun _ => rfl, fun _ => rfl, fun _ _ => rfl, fun _ => rfl, fun _ => rfl⟩
theorem fsI_4 (c x) (h : fs_4 c = some x) : c.map (SV.toV tyU) = en_boolean x := by
  unfold fs_4 at h; split at h
  ·cases h; rfl
  ·cases h
theorem fo_4_tI (c x) (h : fo_4_t c = some x) : c.map (SV.toV tyU) = (tyCO 4 true x).map (SV.toV tyU) := by
  unfold fo_4_t at h; split at h
  ·cases h; rfl
  ·cases h
theorem un_4 : Un1 tyU 4 := ⟨enOk_boolean, eFOk_boolean, fun _ => rfl, fun _ => rfl, fun _ _ => rfl, fsI_4, fun _ => fo_4_tI, fun _ => rfl, fun _ => rfl, fun _ _ => rfl, fun _ => rfl, fun _ => rfl⟩
theorem fsI_5 (c x) (h : fs_5 c = some x) : c.map (SV.toV tyU) = en_u8 x := by
  unfold fs_5 at h; split at h
  ·cases h; rfl
  ·cases h
theorem fo_5_tI (c x) (h : fo_5_t c = some x) : c.map (SV.toV tyU) = (tyCO 5 true x).map (SV.toV tyU) := by
  unfold fo_5_t at h; split at h
  ·cases h; rfl
  ·cases h
theorem un_5 : Un1 tyU 5 := ⟨enOk_u8, eFOk_u8, fun _ => rfl, fun _ => rfl, fun _ _ => rfl, fsI_5, fun _ => fo_5_tI, fun _ => rfl, fun _ => rfl, fun _ _ => rfl, fun _ => rfl, fun _ => rfl⟩
theorem fsI_9 (c x) (h : fs_9 c = some x) : c.map (SV.toV tyU) = en_string x := by
  unfold fs_9 at h; split at h
  ·cases h; rfl
  ·cases h
theorem fo_9_tI (c x) (h : fo_9_t c = some x) : c.map (SV.toV tyU) = (tyCO 9 true x).map (SV.toV tyU) := by
  unfold fo_9_t at h; split at h
  ·cases h; rfl
  ·cases h
theorem un_9 : Un1 tyU 9 := ⟨enOk_string, eFOk_string, fun _ => rfl, fun _ => rfl, fun _ _ => rfl, fsI_9, fun _ => fo_9_tI, fun _ => rfl, fun _ => rfl, fun _ _ => rfl, fun _ => rfl, fun _ => rfl⟩
theorem fsI_22 (c x) (h : fs_22 c = some x) : c.map (SV.toV tyU) = en_Lu8 x := by
  unfold fs_22 at h; split at h
  ·cases h; rfl
  ·cases h
theorem fo_22_tI (c x) (h : fo_22_t c = some x) : c.map (SV.toV tyU) = (tyCO 22 true x).map (SV.toV tyU) := by
  unfold fo_22_t at h; split at h
  ·cases h; rfl
  ·cases h
theorem un_22 : Un1 tyU 22 := ⟨enOk_Lu8, eFOk_Lu8, fun _ => rfl, fun _ => rfl, fun _ _ => rfl, fsI_22, fun _ => fo_22_tI, (fun h => by cases h), fun _ => rfl, fun _ _ => rfl, fr_Lu8, fun _ => rfl⟩
theorem fsI_25 (c x) (h : fs_25 c = some x) : c.map (SV.toV tyU) = en_impl_Conf x := by
  unfold fs_25 at h; split at h
  ·cases h; rfl
  ·cases h
theorem fo_25_tI (c x) (h : fo_25_t c = some x) : c.map (SV.toV tyU) = (tyCO 25 true x).map (SV.toV tyU) := by
  unfold fo_25_t at h; split at h
  ·cases h; rfl
  ·cases h
theorem un_25 : Un1 tyU 25 := ⟨enOk_impl_Conf, eFOk_impl_Conf, fun _ => rfl, fun _ => rfl, fun _ _ => rfl, fsI_25, fun _ => fo_25_tI, fun _ => rfl, fun _ => rfl, fun _ _ => rfl, fun _ => rfl, fun _ => rfl⟩
theorem fsI_26 (c x) (h : fs_26 c = some x) : c.map (SV.toV tyU) = en_Li64 x := by
  unfold fs_26 at h; split at h
  ·cases h; rfl
  ·cases h
theorem fo_26_tI (c x) (h : fo_26_t c = some x) : c.map (SV.toV tyU) = (tyCO 26 true x).map (SV.toV tyU) := by
  unfold fo_26_t at h; split at h
  ·cases h; rfl
  ·cases h
theorem un_26 : Un1 tyU 26 := ⟨enOk_Li64, eFOk_Li64, fun _ => rfl, fun _ => rfl, fun _ _ => rfl, fsI_26, fun _ => fo_26_tI, (fun h => by cases h), fun _ => rfl, fun _ _ => rfl, fr_Li64, fun _ => rfl⟩
theorem fsI_28 (c x) (h : fs_28 c = some x) : c.map (SV.toV tyU) = en_impl_Pool x := by
  unfold fs_28 at h; split at h
  ·cases h; rfl
  ·cases h
theorem fo_28_tI (c x) (h : fo_28_t c = some x) : c.map (SV.toV tyU) = (tyCO 28 true x).map (SV.toV tyU) := by
  unfold fo_28_t at h; split at h
  ·cases h; rfl
  ·cases h
theorem un_28 : Un1 tyU 28 := ⟨enOk_impl_Pool, eFOk_impl_Pool, fun _ => rfl, fun _ => rfl, fun _ _ => rfl, fsI_28, fun _ => fo_28_tI, (fun h => by cases h), fun _ => rfl, fun _ _ => rfl, fr_impl_Pool, fun _ => rfl⟩
theorem fsI_89 (c x) (h : fs_89 c = some x) : c.map (SV.toV tyU) = en_impl_Thing x := by
  unfold fs_89 at h; split at h
  ·cases h; rfl
  ·cases h
theorem fo_89_tI (c x) (h : fo_89_t c = some x) : c.map (SV.toV tyU) = (tyCO 89 true x).map (SV.toV tyU) := by
  unfold fo_89_t at h; split at h
  ·cases h; rfl
  ·cases h
theorem un_89 : Un1 tyU 89 := ⟨enOk_impl_Thing, eFOk_impl_Thing, fun _ => rfl, fun _ => rfl, fun _ _ => rfl, fsI_89, fun _ => fo_89_tI, fun _ => rfl, fun _ => rfl, fun _ _ => rfl, fun _ => rfl, fun _ => rfl⟩
theorem fsI_41 (c x) (h : fs_41 c = some x) : c.map (SV.toV tyU) = en_Limpl_Thing x := by
  unfold fs_41 at h; split at h
  ·cases h; rfl
  ·cases h
theorem fo_41_tI (c x) (h : fo_41_t c = some x) : c.map (SV.toV tyU) = (tyCO 41 true x).map (SV.toV tyU) := by
  unfold fo_41_t at h; split at h
  ·cases h; rfl
  ·cases h
theorem un_41 : Un1 tyU 41 := ⟨enOk_Limpl_Thing, eFOk_Limpl_Thing, fun _ => rfl, fun _ => rfl, fun _ _ => rfl, fsI_41, fun _ => fo_41_tI, (fun h => by cases h), fun _ => rfl, fun _ _ => rfl, fr_Limpl_Thing, fun _ => rfl⟩
theorem fsI_44 (c x) (h : fs_44 c = some x) : c.map (SV.toV tyU) = en_impl_Node x := by
  unfold fs_44 at h; split at h
  ·cases h; rfl
  ·cases h
theorem fo_44_tI (c x) (h : fo_44_t c = some x) : c.map (SV.toV tyU) = (tyCO 44 true x).map (SV.toV tyU) := by
  unfold fo_44_t at h; split at h
  ·cases h; rfl
  ·cases h
theorem un_44 : Un1 tyU 44 := ⟨enOk_impl_Node, eFOk_impl_Node, fun _ => rfl, fun _ => rfl, fun _ _ => rfl, fsI_44, fun _ => fo_44_tI, (fun h => by cases h), fun _ => rfl, fun _ _ => rfl, fr_impl_Node, fun _ => rfl⟩
theorem fsI_29 (c x) (h : fs_29 c = some x) : c.map (SV.toV tyU) = en_Limpl_Node x := by
  unfold fs_29 at h; split at h
  ·cases h; rfl
  ·cases h
theorem fo_29_tI (c x) (h : fo_29_t c = some x) : c.map (SV.toV tyU) = (tyCO 29 true x).map (SV.toV tyU) := by
  unfold fo_29_t at h; split at h
  ·cases h; rfl
  ·cases h
theorem fo_29_fI (c x) (h : fo_29_f c = some x) : c.map (SV.toV tyU) = (tyCO 29 false x).map (SV.toV tyU) := by
  unfold fo_29_f at h; split at h
  ·cases h; rfl
  ·cases h
theorem un_29 : Un1 tyU 29 := ⟨enOk_Limpl_Node, eFOk_Limpl_Node, fun _ => rfl, fun _ => rfl, fun _ _ => rfl, fsI_29, fun m => match m with | true => fo_29_tI | false => fo_29_fI, (fun h => by cases h), fun _ => rfl, fun _ _ => rfl, fr_Limpl_Node, fun _ => rfl⟩
theorem fsI_159 (c x) (h : fs_159 c = some x) : c.map (SV.toV tyU) = en_impl_Waste x := by
  unfold fs_159 at h; split at h
  ·cases h; rfl
  ·cases h
theorem fo_159_tI (c x) (h : fo_159_t c = some x) : c.map (SV.toV tyU) = (tyCO 159 true x).map (SV.toV tyU) := by
  unfold fo_159_t at h; split at h
  ·cases h; rfl
  ·cases h
theorem un_159 : Un1 tyU 159 := ⟨enOk_impl_Waste, eFOk_impl_Waste, fun _ => rfl, fun _ => rfl, fun _ _ => rfl, fsI_159, fun _ => fo_159_tI, (fun h => by cases h), fun _ => rfl, fun _ _ => rfl, fr_impl_Waste, fun _ => rfl⟩
theorem fsI_30 (c x) (h : fs_30 c = some x) : c.map (SV.toV tyU) = en_Limpl_Waste x := by
  unfold fs_30 at h; split at h
  ·cases h; rfl
  ·cases h
theorem fo_30_tI (c x) (h : fo_30_t c = some x) : c.map (SV.toV tyU) = (tyCO 30 true x).map (SV.toV tyU) := by
  unfold fo_30_t at h; split at h
  ·cases h; rfl
  ·cases h
theorem fo_30_fI (c x) (h : fo_30_f c = some x) : c.map (SV.toV tyU) = (tyCO 30 false x).map (SV.toV tyU) := by
  unfold fo_30_f at h; split at h
  ·cases h; rfl
  ·cases h
theorem un_30 : Un1 tyU 30 := ⟨enOk_Limpl_Waste, eFOk_Limpl_Waste, fun _ => rfl, fun _ => rfl, fun _ _ => rfl, fsI_30, fun m => match m with | true => fo_30_tI | false => fo_30_fI, (fun h => by cases h), fun _ => rfl, fun _ _ => rfl, fr_Limpl_Waste, fun _ => rfl⟩
theorem fsI_32 (c x) (h : fs_32 c = some x) : c.map (SV.toV tyU) = en_impl_World x := by
  unfold fs_32 at h; split at h
  ·cases h; rfl
  ·cases h
theorem fo_32_tI (c x) (h : fo_32_t c = some x) : c.map (SV.toV tyU) = (tyCO 32 true x).map (SV.toV tyU) := by
  unfold fo_32_t at h; split at h
  ·cases h; rfl
  ·cases h
theorem fo_32_fI (c x) (h : fo_32_f c = some x) : c.map (SV.toV tyU) = (tyCO 32 false x).map (SV.toV tyU) := by
  unfold fo_32_f at h; split at h
  ·cases h; rfl
  ·cases h
theorem un_32 : Un1 tyU 32 := ⟨enOk_impl_World, eFOk_impl_World, fun _ => rfl, fun _ => rfl, fun _ _ => rfl, fsI_32, fun m => match m with | true => fo_32_tI | false => fo_32_fI, (fun h => by cases h), fun _ => rfl, fun _ _ => rfl, fr_impl_World, fun _ => rfl⟩
theorem fsI_34 (c x) (h : fs_34 c = some x) : c.map (SV.toV tyU) = en_impl_Handle x := by
  unfold fs_34 at h; split at h
  ·cases h; rfl
  ·cases h
theorem fo_34_tI (c x) (h : fo_34_t c = some x) : c.map (SV.toV tyU) = (tyCO 34 true x).map (SV.toV tyU) := by
  unfold fo_34_t at h; split at h
  ·cases h; rfl
  ·cases h
theorem un_34 : Un1 tyU 34 := ⟨enOk_impl_Handle, eFOk_impl_Handle, fun _ => rfl, fun _ => rfl, fun _ _ => rfl, fsI_34, fun _ => fo_34_tI, fun _ => rfl, fun _ => rfl, fun _ _ => rfl, fun _ => rfl, fun _ => rfl⟩
theorem fsI_36 (c x) (h : fs_36 c = some x) : c.map (SV.toV tyU) = en_impl_Ref x := by
  unfold fs_36 at h; split at h
  ·cases h; rfl
  ·cases h
theorem fo_36_tI (c x) (h : fo_36_t c = some x) : c.map (SV.toV tyU) = (tyCO 36 true x).map (SV.toV tyU) := by
  unfold fo_36_t at h; split at h
  ·cases h; rfl
  ·cases h
theorem un_36 : Un1 tyU 36 := ⟨enOk_impl_Ref, eFOk_impl_Ref, fun _ => rfl, fun _ => rfl, fun _ _ => rfl, fsI_36, fun _ => fo_36_tI, fun _ => rfl, fun _ => rfl, fun _ _ => rfl, fun _ => rfl, fun _ => rfl⟩
theorem fsI_47 (c x) (h : fs_47 c = some x) : c.map (SV.toV tyU) = en_laws_Conf x := by
  unfold fs_47 at h; split at h
  ·cases h; rfl
  ·cases h
theorem fo_47_tI (c x) (h : fo_47_t c = some x) : c.map (SV.toV tyU) = (tyCO 47 true x).map (SV.toV tyU) := by
  unfold fo_47_t at h; split at h
  ·cases h; rfl
  ·cases h
theorem un_47 : Un1 tyU 47 := ⟨enOk_laws_Conf, eFOk_laws_Conf, fun _ => rfl, fun _ => rfl, fun _ _ => rfl, fsI_47, fun _ => fo_47_tI, fun _ => rfl, fun _ => rfl, fun _ _ => rfl, fun _ => rfl, fun _ => rfl⟩
theorem fsI_48 (c x) (h : fs_48 c = some x) : c.map (SV.toV tyU) = en_laws_Pool x := by
  unfold fs_48 at h; split at h
  ·cases h; rfl
  ·cases h
theorem fo_48_tI (c x) (h : fo_48_t c = some x) : c.map (SV.toV tyU) = (tyCO 48 true x).map (SV.toV tyU) := by
  unfold fo_48_t at h; split at h
  ·cases h; rfl
  ·cases h
theorem un_48 : Un1 tyU 48 := ⟨enOk_laws_Pool, eFOk_laws_Pool, fun _ => rfl, fun _ => rfl, fun _ _ => rfl, fsI_48, fun _ => fo_48_tI, (fun h => by cases h), fun _ => rfl, fun _ _ => rfl, fr_laws_Pool, fun _ => rfl⟩
theorem fsI_222 (c x) (h : fs_222 c = some x) : c.map (SV.toV tyU) = en_laws_Thing x := by
  unfold fs_222 at h; split at h
  ·cases h; rfl
  ·cases h
theorem fo_222_tI (c x) (h : fo_222_t c = some x) : c.map (SV.toV tyU) = (tyCO 222 true x).map (SV.toV tyU) := by
  unfold fo_222_t at h; split at h
  ·cases h; rfl
  ·cases h
theorem un_222 : Un1 tyU 222 := ⟨enOk_laws_Thing, eFOk_laws_Thing, fun _ => rfl, fun _ => rfl, fun _ _ => rfl, fsI_222, fun _ => fo_222_tI, fun _ => rfl, fun _ => rfl, fun _ _ => rfl, fun _ => rfl, fun _ => rfl⟩
theorem fsI_152 (c x) (h : fs_152 c = some x) : c.map (SV.toV tyU) = en_Llaws_Thing x := by
  unfold fs_152 at h; split at h
  ·cases h; rfl
  ·cases h
theorem fo_152_tI (c x) (h : fo_152_t c = some x) : c.map (SV.toV tyU) = (tyCO 152 true x).map (SV.toV tyU) := by
  unfold fo_152_t at h; split at h
  ·cases h; rfl
  ·cases h
theorem un_152 : Un1 tyU 152 := ⟨enOk_Llaws_Thing, eFOk_Llaws_Thing, fun _ => rfl, fun _ => rfl, fun _ _ => rfl, fsI_152, fun _ => fo_152_tI, (fun h => by cases h), fun _ => rfl, fun _ _ => rfl, fr_Llaws_Thing, fun _ => rfl⟩
theorem fsI_154 (c x) (h : fs_154 c = some x) : c.map (SV.toV tyU) = en_laws_Node x := by
  unfold fs_154 at h; split at h
  ·cases h; rfl
  ·cases h
theorem fo_154_tI (c x) (h : fo_154_t c = some x) : c.map (SV.toV tyU) = (tyCO 154 true x).map (SV.toV tyU) := by
  unfold fo_154_t at h; split at h
  ·cases h; rfl
  ·cases h
theorem un_154 : Un1 tyU 154 := ⟨enOk_laws_Node, eFOk_laws_Node, fun _ => rfl, fun _ => rfl, fun _ _ => rfl, fsI_154, fun _ => fo_154_tI, (fun h => by cases h), fun _ => rfl, fun _ _ => rfl, fr_laws_Node, fun _ => rfl⟩
theorem fsI_49 (c x) (h : fs_49 c = some x) : c.map (SV.toV tyU) = en_Llaws_Node x := by
  unfold fs_49 at h; split at h
  ·cases h; rfl
  ·cases h
theorem fo_49_tI (c x) (h : fo_49_t c = some x) : c.map (SV.toV tyU) = (tyCO 49 true x).map (SV.toV tyU) := by
  unfold fo_49_t at h; split at h
  ·cases h; rfl
  ·cases h
theorem fo_49_fI (c x) (h : fo_49_f c = some x) : c.map (SV.toV tyU) = (tyCO 49 false x).map (SV.toV tyU) := by
  unfold fo_49_f at h; split at h
  ·cases h; rfl
  ·cases h
theorem un_49 : Un1 tyU 49 := ⟨enOk_Llaws_Node, eFOk_Llaws_Node, fun _ => rfl, fun _ => rfl, fun _ _ => rfl, fsI_49, fun m => match m with | true => fo_49_tI | false => fo_49_fI, (fun h => by cases h), fun _ => rfl, fun _ _ => rfl, fr_Llaws_Node, fun _ => rfl⟩
theorem fsI_157 (c x) (h : fs_157 c = some x) : c.map (SV.toV tyU) = en_laws_Waste x := by
  unfold fs_157 at h; split at h
  ·cases h; rfl
  ·cases h
theorem fo_157_tI (c x) (h : fo_157_t c = some x) : c.map (SV.toV tyU) = (tyCO 157 true x).map (SV.toV tyU) := by
  unfold fo_157_t at h; split at h
  ·cases h; rfl
  ·cases h
theorem un_157 : Un1 tyU 157 := ⟨enOk_laws_Waste, eFOk_laws_Waste, fun _ => rfl, fun _ => rfl, fun _ _ => rfl, fsI_157, fun _ => fo_157_tI, (fun h => by cases h), fun _ => rfl, fun _ _ => rfl, fr_laws_Waste, fun _ => rfl⟩
theorem fsI_50 (c x) (h : fs_50 c = some x) : c.map (SV.toV tyU) = en_Llaws_Waste x := by
  unfold fs_50 at h; split at h
  ·cases h; rfl
  ·cases h
theorem fo_50_tI (c x) (h : fo_50_t c = some x) : c.map (SV.toV tyU) = (tyCO 50 true x).map (SV.toV tyU) := by
  unfold fo_50_t at h; split at h
  ·cases h; rfl
  ·cases h
theorem fo_50_fI (c x) (h : fo_50_f c = some x) : c.map (SV.toV tyU) = (tyCO 50 false x).map (SV.toV tyU) := by
  unfold fo_50_f at h; split at h
  ·cases h; rfl
  ·cases h
theorem un_50 : Un1 tyU 50 := ⟨enOk_Llaws_Waste, eFOk_Llaws_Waste, fun _ => rfl, fun _ => rfl, fun _ _ => rfl, fsI_50, fun m => match m with | true => fo_50_tI | false => fo_50_fI, (fun h => by cases h), fun _ => rfl, fun _ _ => rfl, fr_Llaws_Waste, fun _ => rfl⟩
theorem fsI_52 (c x) (h : fs_52 c = some x) : c.map (SV.toV tyU) = en_laws_World x := by
  unfold fs_52 at h; split at h
  ·cases h; rfl
  ·cases h
theorem fo_52_tI (c x) (h : fo_52_t c = some x) : c.map (SV.toV tyU) = (tyCO 52 true x).map (SV.toV tyU) := by
  unfold fo_52_t at h; split at h
  ·cases h; rfl
  ·cases h
theorem fo_52_fI (c x) (h : fo_52_f c = some x) : c.map (SV.toV tyU) = (tyCO 52 false x).map (SV.toV tyU) := by
  unfold fo_52_f at h; split at h
  ·cases h; rfl
  ·cases h
theorem un_52 : Un1 tyU 52 := ⟨enOk_laws_World, eFOk_laws_World, fun _ => rfl, fun _ => rfl, fun _ _ => rfl, fsI_52, fun m => match m with | true => fo_52_tI | false => fo_52_fI, (fun h => by cases h), fun _ => rfl, fun _ _ => rfl, fr_laws_World, fun _ => rfl⟩
theorem fsI_53 (c x) (h : fs_53 c = some x) : c.map (SV.toV tyU) = en_laws_Handle x := by
  unfold fs_53 at h; split at h
  ·cases h; rfl
  ·cases h
theorem fo_53_tI (c x) (h : fo_53_t c = some x) : c.map (SV.toV tyU) = (tyCO 53 true x).map (SV.toV tyU) := by
  unfold fo_53_t at h; split at h
  ·cases h; rfl
  ·cases h
theorem un_53 : Un1 tyU 53 := ⟨enOk_laws_Handle, eFOk_laws_Handle, fun _ => rfl, fun _ => rfl, fun _ _ => rfl, fsI_53, fun _ => fo_53_tI, fun _ => rfl, fun _ => rfl, fun _ _ => rfl, fun _ => rfl, fun _ => rfl⟩
theorem fsI_61 (c x) (h : fs_61 c = some x) : c.map (SV.toV tyU) = en_laws_Ref x := by
  unfold fs_61 at h; split at h
  ·cases h; rfl
  ·cases h
theorem fo_61_tI (c x) (h : fo_61_t c = some x) : c.map (SV.toV tyU) = (tyCO 61 true x).map (SV.toV tyU) := by
  unfold fo_61_t at h; split at h
  ·cases h; rfl
  ·cases h
theorem un_61 : Un1 tyU 61 := ⟨enOk_laws_Ref, eFOk_laws_Ref, fun _ => rfl, fun _ => rfl, fun _ _ => rfl, fsI_61, fun _ => fo_61_tI, fun _ => rfl, fun _ => rfl, fun _ _ => rfl, fun _ => rfl, fun _ => rfl⟩
theorem fsI_69 (c x) (h : fs_69 c = some x) : c.map (SV.toV tyU) = en_impl_Ans x := by
  unfold fs_69 at h; split at h
  ·cases h; rfl
  ·cases h
theorem fo_69_tI (c x) (h : fo_69_t c = some x) : c.map (SV.toV tyU) = (tyCO 69 true x).map (SV.toV tyU) := by
  unfold fo_69_t at h; split at h
  ·cases h; rfl
  ·cases h
theorem un_69 : Un1 tyU 69 := ⟨enOk_impl_Ans, eFOk_impl_Ans, fun _ => rfl, fun _ => rfl, fun _ _ => rfl, fsI_69, fun _ => fo_69_tI, (fun h => by cases h), fun _ => rfl, fun _ _ => rfl, fr_impl_Ans, fun _ => rfl⟩
theorem fsI_224 (c x) (h : fs_224 c = some x) : c.map (SV.toV tyU) = en_Lboolean x := by
  unfold fs_224 at h; split at h
  ·cases h; rfl
  ·cases h
theorem fo_224_tI (c x) (h : fo_224_t c = some x) : c.map (SV.toV tyU) = (tyCO 224 true x).map (SV.toV tyU) := by
  unfold fo_224_t at h; split at h
  ·cases h; rfl
  ·cases h
theorem un_224 : Un1 tyU 224 := ⟨enOk_Lboolean, eFOk_Lboolean, fun _ => rfl, fun _ => rfl, fun _ _ => rfl, fsI_224, fun _ => fo_224_tI, (fun h => by cases h), fun _ => rfl, fun _ _ => rfl, fr_Lboolean, fun _ => rfl⟩
theorem df_tySz {t : Nat} (h2 : t ≠ 2) (h3 : t ≠ 3) (h4 : t ≠ 4) (h5 : t ≠ 5) (h9 : t ≠ 9) (h22 : t ≠ 22) (h25 : t ≠ 25) (h26 : t ≠ 26) (h28 : t ≠ 28) (h89 : t ≠ 89) (h41 : t ≠ 41) (h44 : t ≠ 44) (h29 : t ≠ 29) (h159 : t ≠ 159) (h30 : t ≠ 30) (h32 : t ≠ 32) (h34 : t ≠ 34) (h36 : t ≠ 36) (h47 : t ≠ 47) (h48 : t ≠ 48) (h222 : t ≠ 222) (h152 : t ≠ 152) (h154 : t ≠ 154) (h49 : t ≠ 49) (h157 : t ≠ 157) (h50 : t ≠ 50) (h52 : t ≠ 52) (h53 : t ≠ 53) (h61 : t ≠ 61) (h69 : t ≠ 69) (h224 : t ≠ 224) : tySz t = 0 := by
 unfold tySz; split <;> first | rfl | contradiction
theorem df_tyEn {t : Nat} (h2 : t ≠ 2) (h3 : t ≠ 3) (h4 : t ≠ 4) (h5 : t ≠ 5) (h9 : t ≠ 9) (h22 : t ≠ 22) (h25 : t ≠ 25) (h26 : t ≠ 26) (h28 : t ≠ 28) (h89 : t ≠ 89) (h41 : t ≠ 41) (h44 : t ≠ 44) (h29 : t ≠ 29) (h159 : t ≠ 159) (h30 : t ≠ 30) (h32 : t ≠ 32) (h34 : t ≠ 34) (h36 : t ≠ 36) (h47 : t ≠ 47) (h48 : t ≠ 48) (h222 : t ≠ 222) (h152 : t ≠ 152) (h154 : t ≠ 154) (h49 : t ≠ 49) (h157 : t ≠ 157) (h50 : t ≠ 50) (h52 : t ≠ 52) (h53 : t ≠ 53) (h61 : t ≠ 61) (h69 : t ≠ 69) (h224 : t ≠ 224) (x) : tyEn t x = [] := by
 unfold tyEn; split <;> first | rfl | contradiction
theorem df_tyEF {t : Nat} (h2 : t ≠ 2) (h3 : t ≠ 3) (h4 : t ≠ 4) (h5 : t ≠ 5) (h9 : t ≠ 9) (h22 : t ≠ 22) (h25 : t ≠ 25) (h26 : t ≠ 26) (h28 : t ≠ 28) (h89 : t ≠ 89) (h41 : t ≠ 41) (h44 : t ≠ 44) (h29 : t ≠ 29) (h159 : t ≠ 159) (h30 : t ≠ 30) (h32 : t ≠ 32) (h34 : t ≠ 34) (h36 : t ≠ 36) (h47 : t ≠ 47) (h48 : t ≠ 48) (h222 : t ≠ 222) (h152 : t ≠ 152) (h154 : t ≠ 154) (h49 : t ≠ 49) (h157 : t ≠ 157) (h50 : t ≠ 50) (h52 : t ≠ 52) (h53 : t ≠ 53) (h61 : t ≠ 61) (h69 : t ≠ 69) (h224 : t ≠ 224) (x) : tyEF t x = [] := by
 unfold tyEF; split <;> first | rfl | contradiction
theorem df_tyCs {t : Nat} (h2 : t ≠ 2) (h3 : t ≠ 3) (h4 : t ≠ 4) (h5 : t ≠ 5) (h9 : t ≠ 9) (h22 : t ≠ 22) (h25 : t ≠ 25) (h26 : t ≠ 26) (h28 : t ≠ 28) (h89 : t ≠ 89) (h41 : t ≠ 41) (h44 : t ≠ 44) (h29 : t ≠ 29) (h159 : t ≠ 159) (h30 : t ≠ 30) (h32 : t ≠ 32) (h34 : t ≠ 34) (h36 : t ≠ 36) (h47 : t ≠ 47) (h48 : t ≠ 48) (h222 : t ≠ 222) (h152 : t ≠ 152) (h154 : t ≠ 154) (h49 : t ≠ 49) (h157 : t ≠ 157) (h50 : t ≠ 50) (h52 : t ≠ 52) (h53 : t ≠ 53) (h61 : t ≠ 61) (h69 : t ≠ 69) (h224 : t ≠ 224) (x) : tyCs t x = [] := by
 unfold tyCs; split <;> first | rfl | contradiction
theorem df_tyCO {t : Nat} (h2 : t ≠ 2) (h3 : t ≠ 3) (h4 : t ≠ 4) (h5 : t ≠ 5) (h9 : t ≠ 9) (h22 : t ≠ 22) (h25 : t ≠ 25) (h26 : t ≠ 26) (h28 : t ≠ 28) (h89 : t ≠ 89) (h41 : t ≠ 41) (h44 : t ≠ 44) (h29 : t ≠ 29) (h159 : t ≠ 159) (h30 : t ≠ 30) (h32 : t ≠ 32) (h34 : t ≠ 34) (h36 : t ≠ 36) (h47 : t ≠ 47) (h48 : t ≠ 48) (h222 : t ≠ 222) (h152 : t ≠ 152) (h154 : t ≠ 154) (h49 : t ≠ 49) (h157 : t ≠ 157) (h50 : t ≠ 50) (h52 : t ≠ 52) (h53 : t ≠ 53) (h61 : t ≠ 61) (h69 : t ≠ 69) (h224 : t ≠ 224) (m) (x) : tyCO t m x = [] := by
 unfold tyCO; split <;> first | rfl | contradiction
theorem df_tyFS {t : Nat} (h2 : t ≠ 2) (h3 : t ≠ 3) (h4 : t ≠ 4) (h5 : t ≠ 5) (h9 : t ≠ 9) (h22 : t ≠ 22) (h25 : t ≠ 25) (h26 : t ≠ 26) (h28 : t ≠ 28) (h89 : t ≠ 89) (h41 : t ≠ 41) (h44 : t ≠ 44) (h29 : t ≠ 29) (h159 : t ≠ 159) (h30 : t ≠ 30) (h32 : t ≠ 32) (h34 : t ≠ 34) (h36 : t ≠ 36) (h47 : t ≠ 47) (h48 : t ≠ 48) (h222 : t ≠ 222) (h152 : t ≠ 152) (h154 : t ≠ 154) (h49 : t ≠ 49) (h157 : t ≠ 157) (h50 : t ≠ 50) (h52 : t ≠ 52) (h53 : t ≠ 53) (h61 : t ≠ 61) (h69 : t ≠ 69) (h224 : t ≠ 224) (c) : tyFS t c = none := by
 unfold tyFS; split <;> first | rfl | contradiction
theorem df_tyFO {t : Nat} (h2 : t ≠ 2) (h3 : t ≠ 3) (h4 : t ≠ 4) (h5 : t ≠ 5) (h9 : t ≠ 9) (h22 : t ≠ 22) (h25 : t ≠ 25) (h26 : t ≠ 26) (h28 : t ≠ 28) (h89 : t ≠ 89) (h41 : t ≠ 41) (h44 : t ≠ 44) (h29 : t ≠ 29) (h159 : t ≠ 159) (h30 : t ≠ 30) (h32 : t ≠ 32) (h34 : t ≠ 34) (h36 : t ≠ 36) (h47 : t ≠ 47) (h48 : t ≠ 48) (h222 : t ≠ 222) (h152 : t ≠ 152) (h154 : t ≠ 154) (h49 : t ≠ 49) (h157 : t ≠ 157) (h50 : t ≠ 50) (h52 : t ≠ 52) (h53 : t ≠ 53) (h61 : t ≠ 61) (h69 : t ≠ 69) (h224 : t ≠ 224) (m) (c) : tyFO t m c = none := by
 unfold tyFO; split <;> first | rfl | contradiction
theorem df {t : Nat} (h2 : t ≠ 2) (h3 : t ≠ 3) (h4 : t ≠ 4) (h5 : t ≠ 5) (h9 : t ≠ 9) (h22 : t ≠ 22) (h25 : t ≠ 25) (h26 : t ≠ 26) (h28 : t ≠ 28) (h89 : t ≠ 89) (h41 : t ≠ 41) (h44 : t ≠ 44) (h29 : t ≠ 29) (h159 : t ≠ 159) (h30 : t ≠ 30) (h32 : t ≠ 32) (h34 : t ≠ 34) (h36 : t ≠ 36) (h47 : t ≠ 47) (h48 : t ≠ 48) (h222 : t ≠ 222) (h152 : t ≠ 152) (h154 : t ≠ 154) (h49 : t ≠ 49) (h157 : t ≠ 157) (h50 : t ≠ 50) (h52 : t ≠ 52) (h53 : t ≠ 53) (h61 : t ≠ 61) (h69 : t ≠ 69) (h224 : t ≠ 224) : Dft tyU t := ⟨df_tySz h2 h3 h4 h5 h9 h22 h25 h26 h28 h89 h41 h44 h29 h159 h30 h32 h34 h36 h47 h48 h222 h152 h154 h49 h157 h50 h52 h53 h61 h69 h224, df_tyEn h2 h3 h4 h5 h9 h22 h25 h26 h28 h89 h41 h44 h29 h159 h30 h32 h34 h36 h47 h48 h222 h152 h154 h49 h157 h50 h52 h53 h61 h69 h224, df_tyEF h2 h3 h4 h5 h9 h22 h25 h26 h28 h89 h41 h44 h29 h159 h30 h32 h34 h36 h47 h48 h222 h152 h154 h49 h157 h50 h52 h53 h61 h69 h224, df_tyCs h2 h3 h4 h5 h9 h22 h25 h26 h28 h89 h41 h44 h29 h159 h30 h32 h34 h36 h47 h48 h222 h152 h154 h49 h157 h50 h52 h53 h61 h69 h224, df_tyCO h2 h3 h4 h5 h9 h22 h25 h26 h28 h89 h41 h44 h29 h159 h30 h32 h34 h36 h47 h48 h222 h152 h154 h49 h157 h50 h52 h53 h61 h69 h224, df_tyFS h2 h3 h4 h5 h9 h22 h25 h26 h28 h89 h41 h44 h29 h159 h30 h32 h34 h36 h47 h48 h222 h152 h154 h49 h157 h50 h52 h53 h61 h69 h224, df_tyFO h2 h3 h4 h5 h9 h22 h25 h26 h28 h89 h41 h44 h29 h159 h30 h32 h34 h36 h47 h48 h222 h152 h154 h49 h157 h50 h52 h53 h61 h69 h224⟩
theorem tyOk : UnOk tyU := UnOk.of fun t => if h2 : t = 2 then by subst h2; exact un_2 else if h3 : t = 3 then by subst h3; exact un_3 else if h4 : t = 4 then by subst h4; exact un_4 else if h5 : t = 5 then by subst h5; exact un_5 else if h9 : t = 9 then by subst h9; exact un_9 else if h22 : t = 22 then by subst h22; exact un_22 else if h25 : t = 25 then by subst h25; exact un_25 else if h26 : t = 26 then by subst h26; exact un_26 else if h28 : t = 28 then by subst h28; exact un_28 else if h89 : t = 89 then by subst h89; exact un_89 else if h41 : t = 41 then by subst h41; exact un_41 else if h44 : t = 44 then by subst h44; exact un_44 else if h29 : t = 29 then by subst h29; exact un_29 else if h159 : t = 159 then by subst h159; exact un_159 else if h30 : t = 30 then by subst h30; exact un_30 else if h32 : t = 32 then by subst h32; exact un_32 else if h34 : t = 34 then by subst h34; exact un_34 else if h36 : t = 36 then by subst h36; exact un_36 else if h47 : t = 47 then by subst h47; exact un_47 else if h48 : t = 48 then by subst h48; exact un_48 else if h222 : t = 222 then by subst h222; exact un_222 else if h152 : t = 152 then by subst h152; exact un_152 else if h154 : t = 154 then by subst h154; exact un_154 else if h49 : t = 49 then by subst h49; exact un_49 else if h157 : t = 157 then by subst h157; exact un_157 else if h50 : t = 50 then by subst h50; exact un_50 else if h52 : t = 52 then by subst h52; exact un_52 else if h53 : t = 53 then by subst h53; exact un_53 else if h61 : t = 61 then by subst h61; exact un_61 else if h69 : t = 69 then by subst h69; exact un_69 else if h224 : t = 224 then by subst h224; exact un_224 else (df h2 h3 h4 h5 h9 h22 h25 h26 h28 h89 h41 h44 h29 h159 h30 h32 h34 h36 h47 h48 h222 h152 h154 h49 h157 h50 h52 h53 h61 h69 h224).un1
def eqs : List Nat := [25, 89, 34, 36, 47, 222, 53, 61]
theorem eqsOk : EqTy Tryz.prog tab (eqT eqs) := eq_list (by kernel_rfl)
end Go.Proofs.YtjdblamhaljjbaaGreat
