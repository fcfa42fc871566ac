/- What the arguments are; no condition. -/
import Derived.Test.YtjdblamhaljjbaaGreatFUni
set_option linter.all false
namespace Go.Proofs.YtjdblamhaljjbaaGreat
open Go.Eng Go.ChangeShapes Go.WideShapes Go.ChangeAt Go.RowKit
def Wf_i64 (x : Int) : Prop := (Lit.int .i64 x).wf = true
def Wf_laws_Conf (x : T_laws_Conf) : Prop := Wf_i64 x.fChunks ∧ Wf_i64 x.fSize ∧ Wf_i64 x.fSlots ∧ Wf_i64 x.fTax ∧ Wf_i64 x.fSlice ∧ Wf_i64 x.fGens
def Wf_u8 (x : Int) : Prop := (Lit.int .u8 x).wf = true
def Wf_Lu8 (x : List Int) : Prop := (∀ a ∈ x, Wf_u8 a) ∧ x.length * 1 ≤ reachBytes ∧ x.length ≤ maxLen
def Wf_Li64 (x : List Int) : Prop := (∀ a ∈ x, Wf_i64 a) ∧ x.length * 8 ≤ reachBytes ∧ x.length ≤ maxLen
def Wf_laws_Pool (x : T_laws_Pool) : Prop := Wf_Lu8 x.fMem ∧ Wf_Li64 x.fSt ∧ Wf_Li64 x.fOwn
def Wf_laws_Thing (x : T_laws_Thing) : Prop := Wf_i64 x.fAt ∧ Wf_i64 x.fLen ∧ Wf_i64 x.fRun
def Wf_Llaws_Thing (x : List T_laws_Thing) : Prop := (∀ a ∈ x, Wf_laws_Thing a) ∧ x.length * 24 ≤ reachBytes ∧ x.length ≤ maxLen
def Wf_laws_Node (x : T_laws_Node) : Prop := Wf_i64 x.fSt ∧ Wf_i64 x.fGen ∧ Wf_i64 x.fEp ∧ Wf_i64 x.fUp ∧ Wf_i64 x.fUpEp ∧ Wf_i64 x.fFirst ∧ Wf_i64 x.fNext ∧ Wf_i64 x.fPrev ∧ Wf_Li64 x.fChunks ∧ Wf_i64 x.fCur ∧ Wf_i64 x.fBump ∧ Wf_Llaws_Thing x.fThings ∧ Wf_Li64 x.fTags
def Wf_Llaws_Node (x : List T_laws_Node) : Prop := (∀ a ∈ x, Wf_laws_Node a) ∧ x.length * 152 ≤ reachBytes ∧ x.length ≤ maxLen
def Wf_laws_Waste (x : T_laws_Waste) : Prop := Wf_i64 x.fSlot ∧ Wf_i64 x.fFirst ∧ Wf_Li64 x.fTags ∧ Wf_Li64 x.fChunks ∧ Wf_i64 x.fDone
def Wf_Llaws_Waste (x : List T_laws_Waste) : Prop := (∀ a ∈ x, Wf_laws_Waste a) ∧ x.length * 72 ≤ reachBytes ∧ x.length ≤ maxLen
def Wf_laws_World (x : T_laws_World) : Prop := Wf_laws_Conf x.fC ∧ Wf_laws_Pool x.fP ∧ Wf_Llaws_Node x.fL ∧ Wf_Llaws_Waste x.fQ ∧ Wf_Li64 x.fLog
def Wf_laws_Handle (x : T_laws_Handle) : Prop := Wf_i64 x.fSlot ∧ Wf_i64 x.fGen
theorem lf_i64 {v : V} (h : Lf tab 3 v) : ∃ a, v = .int .i64 a ∧ Wf_i64 a := lf_int h rfl rfl
theorem ro_i64 (x : List V) (hl : x.length = 1) (h : ∀ (i : Nat) l v, ([3] : List Nat)[i]? = some l -> x[i]? = some v -> Lf tab l v) : ∃ a, x = en_i64 a ∧ Wf_i64 a := by
 match x, hl with
 | [v0], _ =>
  obtain ⟨x0, rfl, w0⟩ := lf_i64 (h 0 _ _ rfl rfl)
  exact ⟨x0, rfl, w0⟩
theorem ta_i64 {x : A} (h : TA tab 3 x) : ∃ a, x = .c (.int .i64 a) ∧ Wf_i64 a := let ⟨v, e, h1⟩ := ta_one h rfl rfl; let ⟨a, e2, w⟩ := lf_i64 h1; ⟨a, by rw [e, e2], w⟩
theorem ro_laws_Conf (x : List V) (hl : x.length = 6) (h : ∀ (i : Nat) l v, ([3, 3, 3, 3, 3, 3] : List Nat)[i]? = some l -> x[i]? = some v -> Lf tab l v) : ∃ a, x = en_laws_Conf a ∧ Wf_laws_Conf a := by
 match x, hl with
 | [v0, v1, v2, v3, v4, v5], _ =>
  obtain ⟨x0, rfl, w0⟩ := lf_i64 (h 0 _ _ rfl rfl)
  obtain ⟨x1, rfl, w1⟩ := lf_i64 (h 1 _ _ rfl rfl)
  obtain ⟨x2, rfl, w2⟩ := lf_i64 (h 2 _ _ rfl rfl)
  obtain ⟨x3, rfl, w3⟩ := lf_i64 (h 3 _ _ rfl rfl)
  obtain ⟨x4, rfl, w4⟩ := lf_i64 (h 4 _ _ rfl rfl)
  obtain ⟨x5, rfl, w5⟩ := lf_i64 (h 5 _ _ rfl rfl)
  exact ⟨(T_laws_Conf.mk x0 x1 x2 x3 x4 x5), rfl, ⟨w0, w1, w2, w3, w4, w5⟩⟩
theorem ta_laws_Conf {x : A} (h : TA tab 47 x) : ∃ a, x = .g (en_laws_Conf a) ∧ Wf_laws_Conf a := let ⟨vs, e, h1, h2⟩ := ta_agg h rfl rfl rfl; let ⟨a, e2, w⟩ := ro_laws_Conf vs h1 h2; ⟨a, by rw [e, e2] <;> rfl, w⟩
theorem lf_u8 {v : V} (h : Lf tab 5 v) : ∃ a, v = .int .u8 a ∧ Wf_u8 a := lf_int h rfl rfl
theorem ro_u8 (x : List V) (hl : x.length = 1) (h : ∀ (i : Nat) l v, ([5] : List Nat)[i]? = some l -> x[i]? = some v -> Lf tab l v) : ∃ a, x = en_u8 a ∧ Wf_u8 a := by
 match x, hl with
 | [v0], _ =>
  obtain ⟨x0, rfl, w0⟩ := lf_u8 (h 0 _ _ rfl rfl)
  exact ⟨x0, rfl, w0⟩
theorem ta_u8 {x : A} (h : TA tab 5 x) : ∃ a, x = .c (.int .u8 a) ∧ Wf_u8 a := let ⟨v, e, h1⟩ := ta_one h rfl rfl; let ⟨a, e2, w⟩ := lf_u8 h1; ⟨a, by rw [e, e2], w⟩
theorem lf_Lu8 {v : V} (h : Lf tab 22 v) : ∃ a, v = .row false 1 (a.map en_u8) ∧ Wf_Lu8 a := let ⟨l, e, h1, h2, h3⟩ := lf_row h rfl rfl rfl rfl ro_u8; ⟨l, e, h1, h2, h3⟩
theorem ro_Lu8 (x : List V) (hl : x.length = 1) (h : ∀ (i : Nat) l v, ([22] : List Nat)[i]? = some l -> x[i]? = some v -> Lf tab l v) : ∃ a, x = en_Lu8 a ∧ Wf_Lu8 a := by
 match x, hl with
 | [v0], _ =>
  obtain ⟨x0, rfl, w0⟩ := lf_Lu8 (h 0 _ _ rfl rfl)
  exact ⟨x0, rfl, w0⟩
theorem ta_Lu8 {x : A} (h : TA tab 22 x) : ∃ a, x = .c (.row false 1 (a.map en_u8)) ∧ Wf_Lu8 a := let ⟨v, e, h1⟩ := ta_one h rfl rfl; let ⟨a, e2, w⟩ := lf_Lu8 h1; ⟨a, by rw [e, e2], w⟩
theorem lf_Li64 {v : V} (h : Lf tab 26 v) : ∃ a, v = .row false 1 (a.map en_i64) ∧ Wf_Li64 a := let ⟨l, e, h1, h2, h3⟩ := lf_row h rfl rfl rfl rfl ro_i64; ⟨l, e, h1, h2, h3⟩
theorem ro_Li64 (x : List V) (hl : x.length = 1) (h : ∀ (i : Nat) l v, ([26] : List Nat)[i]? = some l -> x[i]? = some v -> Lf tab l v) : ∃ a, x = en_Li64 a ∧ Wf_Li64 a := by
 match x, hl with
 | [v0], _ =>
  obtain ⟨x0, rfl, w0⟩ := lf_Li64 (h 0 _ _ rfl rfl)
  exact ⟨x0, rfl, w0⟩
theorem ta_Li64 {x : A} (h : TA tab 26 x) : ∃ a, x = .c (.row false 1 (a.map en_i64)) ∧ Wf_Li64 a := let ⟨v, e, h1⟩ := ta_one h rfl rfl; let ⟨a, e2, w⟩ := lf_Li64 h1; ⟨a, by rw [e, e2], w⟩
theorem ro_laws_Pool (x : List V) (hl : x.length = 3) (h : ∀ (i : Nat) l v, ([22, 26, 26] : List Nat)[i]? = some l -> x[i]? = some v -> Lf tab l v) : ∃ a, x = en_laws_Pool a ∧ Wf_laws_Pool a := by
 match x, hl with
 | [v0, v1, v2], _ =>
  obtain ⟨x0, rfl, w0⟩ := lf_Lu8 (h 0 _ _ rfl rfl)
  obtain ⟨x1, rfl, w1⟩ := lf_Li64 (h 1 _ _ rfl rfl)
  obtain ⟨x2, rfl, w2⟩ := lf_Li64 (h 2 _ _ rfl rfl)
  exact ⟨(T_laws_Pool.mk x0 x1 x2), rfl, ⟨w0, w1, w2⟩⟩
theorem ta_laws_Pool {x : A} (h : TA tab 48 x) : ∃ a, x = .g (en_laws_Pool a) ∧ Wf_laws_Pool a := let ⟨vs, e, h1, h2⟩ := ta_agg h rfl rfl rfl; let ⟨a, e2, w⟩ := ro_laws_Pool vs h1 h2; ⟨a, by rw [e, e2] <;> rfl, w⟩
theorem ro_laws_Thing (x : List V) (hl : x.length = 3) (h : ∀ (i : Nat) l v, ([3, 3, 3] : List Nat)[i]? = some l -> x[i]? = some v -> Lf tab l v) : ∃ a, x = en_laws_Thing a ∧ Wf_laws_Thing a := by
 match x, hl with
 | [v0, v1, v2], _ =>
  obtain ⟨x0, rfl, w0⟩ := lf_i64 (h 0 _ _ rfl rfl)
  obtain ⟨x1, rfl, w1⟩ := lf_i64 (h 1 _ _ rfl rfl)
  obtain ⟨x2, rfl, w2⟩ := lf_i64 (h 2 _ _ rfl rfl)
  exact ⟨(T_laws_Thing.mk x0 x1 x2), rfl, ⟨w0, w1, w2⟩⟩
theorem ta_laws_Thing {x : A} (h : TA tab 222 x) : ∃ a, x = .g (en_laws_Thing a) ∧ Wf_laws_Thing a := let ⟨vs, e, h1, h2⟩ := ta_agg h rfl rfl rfl; let ⟨a, e2, w⟩ := ro_laws_Thing vs h1 h2; ⟨a, by rw [e, e2] <;> rfl, w⟩
theorem lf_Llaws_Thing {v : V} (h : Lf tab 152 v) : ∃ a, v = .row false 3 (a.map en_laws_Thing) ∧ Wf_Llaws_Thing a := let ⟨l, e, h1, h2, h3⟩ := lf_row h rfl rfl rfl rfl ro_laws_Thing; ⟨l, e, h1, h2, h3⟩
theorem ro_Llaws_Thing (x : List V) (hl : x.length = 1) (h : ∀ (i : Nat) l v, ([152] : List Nat)[i]? = some l -> x[i]? = some v -> Lf tab l v) : ∃ a, x = en_Llaws_Thing a ∧ Wf_Llaws_Thing a := by
 match x, hl with
 | [v0], _ =>
  obtain ⟨x0, rfl, w0⟩ := lf_Llaws_Thing (h 0 _ _ rfl rfl)
  exact ⟨x0, rfl, w0⟩
theorem ta_Llaws_Thing {x : A} (h : TA tab 152 x) : ∃ a, x = .c (.row false 3 (a.map en_laws_Thing)) ∧ Wf_Llaws_Thing a := let ⟨v, e, h1⟩ := ta_one h rfl rfl; let ⟨a, e2, w⟩ := lf_Llaws_Thing h1; ⟨a, by rw [e, e2], w⟩
theorem ro_laws_Node (x : List V) (hl : x.length = 13) (h : ∀ (i : Nat) l v, ([3, 3, 3, 3, 3, 3, 3, 3, 26, 3, 3, 152, 26] : List Nat)[i]? = some l -> x[i]? = some v -> Lf tab l v) : ∃ a, x = en_laws_Node a ∧ Wf_laws_Node a := by
 match x, hl with
 | [v0, v1, v2, v3, v4, v5, v6, v7, v8, v9, v10, v11, v12], _ =>
  obtain ⟨x0, rfl, w0⟩ := lf_i64 (h 0 _ _ rfl rfl)
  obtain ⟨x1, rfl, w1⟩ := lf_i64 (h 1 _ _ rfl rfl)
  obtain ⟨x2, rfl, w2⟩ := lf_i64 (h 2 _ _ rfl rfl)
  obtain ⟨x3, rfl, w3⟩ := lf_i64 (h 3 _ _ rfl rfl)
  obtain ⟨x4, rfl, w4⟩ := lf_i64 (h 4 _ _ rfl rfl)
  obtain ⟨x5, rfl, w5⟩ := lf_i64 (h 5 _ _ rfl rfl)
  obtain ⟨x6, rfl, w6⟩ := lf_i64 (h 6 _ _ rfl rfl)
  obtain ⟨x7, rfl, w7⟩ := lf_i64 (h 7 _ _ rfl rfl)
  obtain ⟨x8, rfl, w8⟩ := lf_Li64 (h 8 _ _ rfl rfl)
  obtain ⟨x9, rfl, w9⟩ := lf_i64 (h 9 _ _ rfl rfl)
  obtain ⟨x10, rfl, w10⟩ := lf_i64 (h 10 _ _ rfl rfl)
  obtain ⟨x11, rfl, w11⟩ := lf_Llaws_Thing (h 11 _ _ rfl rfl)
  obtain ⟨x12, rfl, w12⟩ := lf_Li64 (h 12 _ _ rfl rfl)
  exact ⟨(T_laws_Node.mk x0 x1 x2 x3 x4 x5 x6 x7 x8 x9 x10 x11 x12), rfl, ⟨w0, w1, w2, w3, w4, w5, w6, w7, w8, w9, w10, w11, w12⟩⟩
theorem ta_laws_Node {x : A} (h : TA tab 154 x) : ∃ a, x = .g (en_laws_Node a) ∧ Wf_laws_Node a := let ⟨vs, e, h1, h2⟩ := ta_agg h rfl rfl rfl; let ⟨a, e2, w⟩ := ro_laws_Node vs h1 h2; ⟨a, by rw [e, e2] <;> rfl, w⟩
theorem lf_Llaws_Node {v : V} (h : Lf tab 49 v) : ∃ a, v = .row false 13 (a.map en_laws_Node) ∧ Wf_Llaws_Node a := let ⟨l, e, h1, h2, h3⟩ := lf_row h rfl rfl rfl rfl ro_laws_Node; ⟨l, e, h1, h2, h3⟩
theorem ro_Llaws_Node (x : List V) (hl : x.length = 1) (h : ∀ (i : Nat) l v, ([49] : List Nat)[i]? = some l -> x[i]? = some v -> Lf tab l v) : ∃ a, x = en_Llaws_Node a ∧ Wf_Llaws_Node a := by
 match x, hl with
 | [v0], _ =>
  obtain ⟨x0, rfl, w0⟩ := lf_Llaws_Node (h 0 _ _ rfl rfl)
  exact ⟨x0, rfl, w0⟩
theorem ta_Llaws_Node {x : A} (h : TA tab 49 x) : ∃ a, x = .c (.row false 13 (a.map en_laws_Node)) ∧ Wf_Llaws_Node a := let ⟨v, e, h1⟩ := ta_one h rfl rfl; let ⟨a, e2, w⟩ := lf_Llaws_Node h1; ⟨a, by rw [e, e2], w⟩
theorem ro_laws_Waste (x : List V) (hl : x.length = 5) (h : ∀ (i : Nat) l v, ([3, 3, 26, 26, 3] : List Nat)[i]? = some l -> x[i]? = some v -> Lf tab l v) : ∃ a, x = en_laws_Waste a ∧ Wf_laws_Waste a := by
 match x, hl with
 | [v0, v1, v2, v3, v4], _ =>
  obtain ⟨x0, rfl, w0⟩ := lf_i64 (h 0 _ _ rfl rfl)
  obtain ⟨x1, rfl, w1⟩ := lf_i64 (h 1 _ _ rfl rfl)
  obtain ⟨x2, rfl, w2⟩ := lf_Li64 (h 2 _ _ rfl rfl)
  obtain ⟨x3, rfl, w3⟩ := lf_Li64 (h 3 _ _ rfl rfl)
  obtain ⟨x4, rfl, w4⟩ := lf_i64 (h 4 _ _ rfl rfl)
  exact ⟨(T_laws_Waste.mk x0 x1 x2 x3 x4), rfl, ⟨w0, w1, w2, w3, w4⟩⟩
theorem ta_laws_Waste {x : A} (h : TA tab 157 x) : ∃ a, x = .g (en_laws_Waste a) ∧ Wf_laws_Waste a := let ⟨vs, e, h1, h2⟩ := ta_agg h rfl rfl rfl; let ⟨a, e2, w⟩ := ro_laws_Waste vs h1 h2; ⟨a, by rw [e, e2] <;> rfl, w⟩
theorem lf_Llaws_Waste {v : V} (h : Lf tab 50 v) : ∃ a, v = .row false 5 (a.map en_laws_Waste) ∧ Wf_Llaws_Waste a := let ⟨l, e, h1, h2, h3⟩ := lf_row h rfl rfl rfl rfl ro_laws_Waste; ⟨l, e, h1, h2, h3⟩
theorem ro_Llaws_Waste (x : List V) (hl : x.length = 1) (h : ∀ (i : Nat) l v, ([50] : List Nat)[i]? = some l -> x[i]? = some v -> Lf tab l v) : ∃ a, x = en_Llaws_Waste a ∧ Wf_Llaws_Waste a := by
 match x, hl with
 | [v0], _ =>
  obtain ⟨x0, rfl, w0⟩ := lf_Llaws_Waste (h 0 _ _ rfl rfl)
  exact ⟨x0, rfl, w0⟩
theorem ta_Llaws_Waste {x : A} (h : TA tab 50 x) : ∃ a, x = .c (.row false 5 (a.map en_laws_Waste)) ∧ Wf_Llaws_Waste a := let ⟨v, e, h1⟩ := ta_one h rfl rfl; let ⟨a, e2, w⟩ := lf_Llaws_Waste h1; ⟨a, by rw [e, e2], w⟩
theorem ro_laws_World (x : List V) (hl : x.length = 12) (h : ∀ (i : Nat) l v, ([3, 3, 3, 3, 3, 3, 22, 26, 26, 49, 50, 26] : List Nat)[i]? = some l -> x[i]? = some v -> Lf tab l v) : ∃ a, x = en_laws_World a ∧ Wf_laws_World a := by
 match x, hl with
 | [v0, v1, v2, v3, v4, v5, v6, v7, v8, v9, v10, v11], _ =>
  obtain ⟨x0, rfl, w0⟩ := lf_i64 (h 0 _ _ rfl rfl)
  obtain ⟨x1, rfl, w1⟩ := lf_i64 (h 1 _ _ rfl rfl)
  obtain ⟨x2, rfl, w2⟩ := lf_i64 (h 2 _ _ rfl rfl)
  obtain ⟨x3, rfl, w3⟩ := lf_i64 (h 3 _ _ rfl rfl)
  obtain ⟨x4, rfl, w4⟩ := lf_i64 (h 4 _ _ rfl rfl)
  obtain ⟨x5, rfl, w5⟩ := lf_i64 (h 5 _ _ rfl rfl)
  obtain ⟨x6, rfl, w6⟩ := lf_Lu8 (h 6 _ _ rfl rfl)
  obtain ⟨x7, rfl, w7⟩ := lf_Li64 (h 7 _ _ rfl rfl)
  obtain ⟨x8, rfl, w8⟩ := lf_Li64 (h 8 _ _ rfl rfl)
  obtain ⟨x9, rfl, w9⟩ := lf_Llaws_Node (h 9 _ _ rfl rfl)
  obtain ⟨x10, rfl, w10⟩ := lf_Llaws_Waste (h 10 _ _ rfl rfl)
  obtain ⟨x11, rfl, w11⟩ := lf_Li64 (h 11 _ _ rfl rfl)
  exact ⟨(T_laws_World.mk (T_laws_Conf.mk x0 x1 x2 x3 x4 x5) (T_laws_Pool.mk x6 x7 x8) x9 x10 x11), rfl, ⟨⟨w0, w1, w2, w3, w4, w5⟩, ⟨w6, w7, w8⟩, w9, w10, w11⟩⟩
theorem ta_laws_World {x : A} (h : TA tab 52 x) : ∃ a, x = .g (en_laws_World a) ∧ Wf_laws_World a := let ⟨vs, e, h1, h2⟩ := ta_agg h rfl rfl rfl; let ⟨a, e2, w⟩ := ro_laws_World vs h1 h2; ⟨a, by rw [e, e2] <;> rfl, w⟩
theorem ro_laws_Handle (x : List V) (hl : x.length = 2) (h : ∀ (i : Nat) l v, ([3, 3] : List Nat)[i]? = some l -> x[i]? = some v -> Lf tab l v) : ∃ a, x = en_laws_Handle a ∧ Wf_laws_Handle a := by
 match x, hl with
 | [v0, v1], _ =>
  obtain ⟨x0, rfl, w0⟩ := lf_i64 (h 0 _ _ rfl rfl)
  obtain ⟨x1, rfl, w1⟩ := lf_i64 (h 1 _ _ rfl rfl)
  exact ⟨(T_laws_Handle.mk x0 x1), rfl, ⟨w0, w1⟩⟩
theorem ta_laws_Handle {x : A} (h : TA tab 53 x) : ∃ a, x = .g (en_laws_Handle a) ∧ Wf_laws_Handle a := let ⟨vs, e, h1, h2⟩ := ta_agg h rfl rfl rfl; let ⟨a, e2, w⟩ := ro_laws_Handle vs h1 h2; ⟨a, by rw [e, e2] <;> rfl, w⟩
theorem ownKnob0 : ownKnob Tryz.prog.godebug = none := by kernel_rfl
theorem laidOut0 : laidOutB Tryz.prog = true := by kernel_rfl
end Go.Proofs.YtjdblamhaljjbaaGreat
