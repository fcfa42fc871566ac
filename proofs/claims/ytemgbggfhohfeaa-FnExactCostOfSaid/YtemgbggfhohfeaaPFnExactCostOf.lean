/- Plain laws for FnExactCostOf. -/
import Derived.Test.YtemgbggfhohfeaaGFnExactCostOfb
set_option linter.unusedVariables false
set_option linter.unusedSimpArgs false
namespace Go.Proofs.Ytemgbggfhohfeaa
open Go.Eng Go.ChangeShapes Go.WideShapes Go.ChangeAt Go.RowKit
/-! ### Loops over lists -/
theorem iAdd1 {i : Nat} (h : i ≤ 140737488355328) : iAdd .i64 (i : Int) 1 = ((i + 1 : Nat) : Int) := by
  unfold iAdd
  rw [IntKind.wrap_i64]
  omega
theorem gt_nat {α : Type} [Inhabited α] {l : List α} {i : Nat} (h : i < l.length) : gt l (i : Int) = l[i] := by
  unfold gt
  simp [h]
theorem gt_mem {α : Type} [Inhabited α] {l : List α} {i : Nat} (h : i < l.length) : gt l (i : Int) ∈ l := by
  rw [gt_nat h]; exact List.getElem_mem h
theorem gt_memI {α : Type} [Inhabited α] {l : List α} {i : Int} (h0 : 0 ≤ i) (h : i < l.length) : gt l i ∈ l := by
  obtain ⟨k, rfl⟩ : ∃ k : Nat, i = k := ⟨i.toNat, by omega⟩
  exact gt_mem (by omega)
theorem dlt_t {i k : Nat} (h : i < k) : decide ((i : Int) < (k : Int)) = true := by simp; omega
theorem dlt_f {i k : Nat} (h : k ≤ i) : decide ((i : Int) < (k : Int)) = false := by simp; omega

theorem conv_ok {α β : Type} [Inhabited α] (a : List α) (f : α → Option β) (g : α → β) (hf : ∀ x ∈ a, f x = some (g x)) (ha : a.length ≤ 140737488355328)
    (L : Nat → Int → List β → Option (List β)) (hL : ∀ n i v, L (n + 1) i v = bif decide (i < (a.length : Int)) then (if (0 : Int) ≤ i ∧ i < (a.length : Int) then (f (gt a i)).bind (fun r => (if (0 : Int) ≤ i ∧ i < (v.length : Int) then L n (iAdd .i64 i 1) (v.set i.toNat r) else none)) else none) else some v) :
    ∀ (n i : Nat) (v : List β), i ≤ a.length → v.length = a.length → (∀ j, j < i → v[j]? = (a.map g)[j]?) → a.length - i < n → L n (i : Int) v = some (a.map g) := by
  intro n
  induction n with
  | zero => intro i v _ _ _ h; omega
  | succ n ih =>
    intro i v hi hv hj hn
    rw [hL]
    rcases Nat.lt_or_ge i a.length with h | h
    · rw [dlt_t h]
      simp only [cond_true]
      rw [if_pos ⟨by omega, by omega⟩, hf _ (gt_mem h)]
      simp only [Option.bind_some]
      rw [if_pos ⟨by omega, by omega⟩, iAdd1 (by omega)]
      refine ih (i + 1) _ h (by simpa using hv) (fun j hj2 => ?_) (by omega)
      rw [Int.toNat_natCast, List.getElem?_set]
      by_cases e : i = j
      · subst e
        rw [if_pos rfl, if_pos (by omega), gt_nat h, List.getElem?_map, List.getElem?_eq_getElem h]; rfl
      · rw [if_neg e]; exact hj j (by omega)
    · rw [dlt_f h]
      simp only [cond_false, Option.some.injEq]
      have hia : i = a.length := by omega
      refine List.ext_getElem? fun j => ?_
      rcases Nat.lt_or_ge j a.length with hja | hja
      · exact hj j (by omega)
      · rw [List.getElem?_eq_none (by omega), List.getElem?_eq_none (by simpa using hja)]
theorem eq_ok {β : Type} [Inhabited β] (a : List β) (e : β → β → Option Bool) (he : ∀ x ∈ a, e x x = some true) (ha : a.length ≤ 140737488355328)
    (L : Nat → Int → Option Bool) (hL : ∀ n i, L (n + 1) i = bif decide (i < (a.length : Int)) then (if (0 : Int) ≤ i ∧ i < (a.length : Int) then (if (0 : Int) ≤ i ∧ i < (a.length : Int) then (e (gt a i) (gt a i)).bind (fun r => bif r then L n (iAdd .i64 i 1) else some false) else none) else none) else some true) :
    ∀ (n i : Nat), i ≤ a.length → a.length - i < n → L n (i : Int) = some true := by
  intro n
  induction n with
  | zero => intro i _ h; omega
  | succ n ih =>
    intro i hi hn
    rw [hL]
    rcases Nat.lt_or_ge i a.length with h | h
    · rw [dlt_t h]
      simp only [cond_true]
      rw [if_pos ⟨by omega, by omega⟩, if_pos ⟨by omega, by omega⟩, he _ (gt_mem h), iAdd1 (by omega)]
      simp only [Option.bind_some, cond_true]
      exact ih (i + 1) h (by omega)
    · rw [dlt_f h]; rfl
theorem eqv_ok (a : List Int) (ha : a.length ≤ 140737488355328)
    (L : Nat → Int → Option Bool) (hL : ∀ n i, L (n + 1) i = bif decide (i < (a.length : Int)) then (if (0 : Int) ≤ i ∧ i < (a.length : Int) then (if (0 : Int) ≤ i ∧ i < (a.length : Int) then (bif (gt a i != gt a i) then some false else L n (iAdd .i64 i 1)) else none) else none) else some true) :
    ∀ (n i : Nat), i ≤ a.length → a.length - i < n → L n (i : Int) = some true := by
  intro n
  induction n with
  | zero => intro i _ h; omega
  | succ n ih =>
    intro i hi hn
    rw [hL]
    rcases Nat.lt_or_ge i a.length with h | h
    · rw [dlt_t h]
      simp only [cond_true]
      rw [if_pos ⟨by omega, by omega⟩, if_pos ⟨by omega, by omega⟩, iAdd1 (by omega)]
      simp only [bne_self_eq_false, cond_false]
      exact ih (i + 1) h (by omega)
    · rw [dlt_f h]; rfl
theorem sz_ok {α : Type} [Inhabited α] (a : List α) (f : α → Int → Option Int) (hf : ∀ x ∈ a, ∀ y, ∃ r, f x y = some r) (ha : a.length ≤ 140737488355328)
    (L : Nat → Int → Int → Option Int) (hL : ∀ n y i, L (n + 1) y i = bif decide (i < (a.length : Int)) then (if (0 : Int) ≤ i ∧ i < (a.length : Int) then (f (gt a i) y).bind (fun r => bif decide (r < 0) then some (-1) else L n r (iAdd .i64 i 1)) else none) else some y) :
    ∀ (n i : Nat) (y : Int), i ≤ a.length → a.length - i < n → ∃ r, L n y (i : Int) = some r := by
  intro n
  induction n with
  | zero => intro i _ _ h; omega
  | succ n ih =>
    intro i y hi hn
    rw [hL]
    rcases Nat.lt_or_ge i a.length with h | h
    · rw [dlt_t h]
      simp only [cond_true]
      obtain ⟨r, hr⟩ := hf _ (gt_mem h) y
      rw [if_pos ⟨by omega, by omega⟩, hr, iAdd1 (by omega)]
      simp only [Option.bind_some]
      cases decide (r < 0) with
      | true => exact ⟨_, rfl⟩
      | false => exact ih (i + 1) r h (by omega)
    · rw [dlt_f h]; exact ⟨_, rfl⟩
theorem i64_id {n : Int} (h0 : -9223372036854775808 ≤ n) (h1 : n ≤ 9223372036854775807) : IntKind.i64.wrap n = n := by rw [IntKind.wrap_i64]; omega
theorem i64_in (n : Int) : -9223372036854775808 ≤ IntKind.i64.wrap n ∧ IntKind.i64.wrap n ≤ 9223372036854775807 := by rw [IntKind.wrap_i64]; omega
theorem cc {α : Type} (b : Bool) (x : α) : (bif b then x else x) = x := by cases b <;> rfl

/-! ### A world is copied, compared with itself, measured -/
theorem wf_i64 {x : Int} : Wf_i64 x ↔ -9223372036854775808 ≤ x ∧ x ≤ 9223372036854775807 := by
  simp [Wf_i64, Lit.wf, IntKind.min, IntKind.max, IntKind.signed, IntKind.bits]
theorem wf_bytes {n : Nat} (h : n ≤ reachBytes) : n ≤ 140737488355327 := by simp only [reachBytes] at h; omega
theorem wf_len {n m : Nat} (h : n * m ≤ reachBytes) (hm : 0 < m) : n ≤ 140737488355327 := by
  have : n * 1 ≤ n * m := Nat.mul_le_mul_left n hm
  simp only [reachBytes] at h
  omega
def cvConf (a : T_laws_Conf) : T_impl_Conf := T_impl_Conf.mk a.fChunks a.fSize a.fSlots a.fTax a.fSlice a.fGens
def cvPool (a : T_laws_Pool) : T_impl_Pool := T_impl_Pool.mk a.fMem a.fSt a.fOwn
def cvThing (a : T_laws_Thing) : T_impl_Thing := T_impl_Thing.mk a.fAt a.fLen a.fRun
def cvNode (a : T_laws_Node) : T_impl_Node := T_impl_Node.mk a.fSt a.fGen a.fEp a.fUp a.fUpEp a.fFirst a.fNext a.fPrev a.fChunks a.fCur a.fBump (a.fThings.map cvThing) a.fTags
def cvWaste (a : T_laws_Waste) : T_impl_Waste := T_impl_Waste.mk a.fSlot a.fFirst a.fTags a.fChunks a.fDone
def cvWorld (a : T_laws_World) : T_impl_World := T_impl_World.mk (cvConf a.fC) (cvPool a.fP) (a.fL.map cvNode) (a.fQ.map cvWaste) a.fLog
section
variable {K : Nat} (hK : 281474976710656 ≤ K)
include hK
theorem toByteS_w {a : List Int} (w : Wf_Lu8 a) : m_laws_toByteS K a = some a := by
  have hl := wf_len w.2.1 (by decide)
  unfold m_laws_toByteS
  rw [if_pos ⟨by omega, by omega, by omega, by omega⟩]
  have := conv_ok a some id (fun _ _ => rfl) (by omega) (l_laws_toByteS_4 K a) (fun n i v => rfl) K 0 (List.replicate (a.length : Int).toNat 0) (Nat.zero_le _) (by simp) (fun j hj => by omega) (by omega)
  simpa using this
theorem toIntS_w {a : List Int} (w : Wf_Li64 a) : m_laws_toIntS K a = some a := by
  have hl := wf_len w.2.1 (by decide)
  have hr : a.length * 8 ≤ 140737488355327 := wf_bytes w.2.1
  unfold m_laws_toIntS
  rw [if_pos ⟨by omega, by omega, by omega, by omega⟩]
  have := conv_ok a some id (fun _ _ => rfl) (by omega) (l_laws_toIntS_4 K a) (fun n i v => rfl) K 0 (List.replicate (a.length : Int).toNat 0) (Nat.zero_le _) (by simp) (fun j hj => by omega) (by omega)
  simpa using this
theorem toThingS_w {a : List T_laws_Thing} (w : Wf_Llaws_Thing a) : m_laws_toThingS K a = some (a.map cvThing) := by
  have hl := wf_len w.2.1 (by decide)
  have hr : a.length * 24 ≤ 140737488355327 := wf_bytes w.2.1
  unfold m_laws_toThingS
  rw [if_pos ⟨by omega, by omega, by omega, by omega⟩]
  exact conv_ok a (m_laws_toThing K) cvThing (fun _ _ => rfl) (by omega) (l_laws_toThingS_4 K a) (fun n i v => rfl) K 0 _ (Nat.zero_le _) (by simp) (fun j hj => by omega) (by omega)
theorem toNode_w {a : T_laws_Node} (w : Wf_laws_Node a) : m_laws_toNode K a = some (cvNode a) := by
  unfold m_laws_toNode
  obtain ⟨_, _, _, _, _, _, _, _, h1, _, _, h2, h3⟩ := w
  rw [toIntS_w hK h1, toThingS_w hK h2, toIntS_w hK h3]
  rfl
theorem toNodeS_w {a : List T_laws_Node} (w : Wf_Llaws_Node a) : m_laws_toNodeS K a = some (a.map cvNode) := by
  have hl := wf_len w.2.1 (by decide)
  have hr : a.length * 152 ≤ 140737488355327 := wf_bytes w.2.1
  unfold m_laws_toNodeS
  rw [if_pos ⟨by omega, by omega, by omega, by omega⟩]
  exact conv_ok a (m_laws_toNode K) cvNode (fun x hx => toNode_w hK (w.1 x hx)) (by omega) (l_laws_toNodeS_4 K a) (fun n i v => rfl) K 0 _ (Nat.zero_le _) (by simp) (fun j hj => by omega) (by omega)
theorem toWaste_w {a : T_laws_Waste} (w : Wf_laws_Waste a) : m_laws_toWaste K a = some (cvWaste a) := by
  unfold m_laws_toWaste
  obtain ⟨_, _, h1, h2, _⟩ := w
  rw [toIntS_w hK h1, toIntS_w hK h2]
  rfl
theorem toWasteS_w {a : List T_laws_Waste} (w : Wf_Llaws_Waste a) : m_laws_toWasteS K a = some (a.map cvWaste) := by
  have hl := wf_len w.2.1 (by decide)
  have hr : a.length * 72 ≤ 140737488355327 := wf_bytes w.2.1
  unfold m_laws_toWasteS
  rw [if_pos ⟨by omega, by omega, by omega, by omega⟩]
  exact conv_ok a (m_laws_toWaste K) cvWaste (fun x hx => toWaste_w hK (w.1 x hx)) (by omega) (l_laws_toWasteS_4 K a) (fun n i v => rfl) K 0 _ (Nat.zero_le _) (by simp) (fun j hj => by omega) (by omega)
theorem toWorld_w {a : T_laws_World} (w : Wf_laws_World a) : m_laws_toWorld K a = some (cvWorld a) := by
  unfold m_laws_toWorld m_laws_toConf m_laws_toPool
  obtain ⟨_, ⟨h1, h2, h3⟩, h4, h5, h6⟩ := w
  rw [toByteS_w hK h1, toIntS_w hK h2, toIntS_w hK h3, toNodeS_w hK h4, toWasteS_w hK h5, toIntS_w hK h6]
  rfl
theorem eqByteS_w {a : List Int} (w : Wf_Lu8 a) : m_laws_eqByteS K a a = some true := by
  have hl := wf_len w.2.1 (by decide)
  unfold m_laws_eqByteS
  simp only [bne_self_eq_false, cond_false]
  exact eqv_ok a (by omega) (l_laws_eqByteS_3 K a a) (fun n i => rfl) K 0 (Nat.zero_le _) (by omega)
theorem eqIntS_w {a : List Int} (w : Wf_Li64 a) : m_laws_eqIntS K a a = some true := by
  have hl := wf_len w.2.1 (by decide)
  unfold m_laws_eqIntS
  simp only [bne_self_eq_false, cond_false]
  exact eqv_ok a (by omega) (l_laws_eqIntS_3 K a a) (fun n i => rfl) K 0 (Nat.zero_le _) (by omega)
omit hK in
theorem eqThing_w (a : T_impl_Thing) : m_laws_eqThing K a a = some true := by simp [m_laws_eqThing]
theorem eqThingS_w {a : List T_impl_Thing} (w : Wf_Limpl_Thing a) : m_laws_eqThingS K a a = some true := by
  have hl := wf_len w.2.1 (by decide)
  unfold m_laws_eqThingS
  simp only [bne_self_eq_false, cond_false]
  exact eq_ok a (m_laws_eqThing K) (fun x _ => eqThing_w x) (by omega) (l_laws_eqThingS_3 K a a) (fun n i => rfl) K 0 (Nat.zero_le _) (by omega)
theorem eqNode_w {a : T_impl_Node} (w : Wf_impl_Node a) : m_laws_eqNode K a a = some true := by
  obtain ⟨_, _, _, _, _, _, _, _, h1, _, _, h2, h3⟩ := w
  simp [m_laws_eqNode, eqIntS_w hK h1, eqThingS_w hK h2, eqIntS_w hK h3]
theorem eqNodeS_w {a : List T_impl_Node} (w : Wf_Limpl_Node a) : m_laws_eqNodeS K a a = some true := by
  have hl := wf_len w.2.1 (by decide)
  unfold m_laws_eqNodeS
  simp only [bne_self_eq_false, cond_false]
  exact eq_ok a (m_laws_eqNode K) (fun x hx => eqNode_w hK (w.1 x hx)) (by omega) (l_laws_eqNodeS_3 K a a) (fun n i => rfl) K 0 (Nat.zero_le _) (by omega)
theorem eqWaste_w {a : T_impl_Waste} (w : Wf_impl_Waste a) : m_laws_eqWaste K a a = some true := by
  obtain ⟨_, _, h1, h2, _⟩ := w
  simp [m_laws_eqWaste, eqIntS_w hK h1, eqIntS_w hK h2]
theorem eqWasteS_w {a : List T_impl_Waste} (w : Wf_Limpl_Waste a) : m_laws_eqWasteS K a a = some true := by
  have hl := wf_len w.2.1 (by decide)
  unfold m_laws_eqWasteS
  simp only [bne_self_eq_false, cond_false]
  exact eq_ok a (m_laws_eqWaste K) (fun x hx => eqWaste_w hK (w.1 x hx)) (by omega) (l_laws_eqWasteS_3 K a a) (fun n i => rfl) K 0 (Nat.zero_le _) (by omega)
theorem eqWorld_w {a : T_impl_World} (w : Wf_impl_World a) : m_laws_eqWorld K a a = some true := by
  obtain ⟨_, ⟨h1, h2, h3⟩, h4, h5, h6⟩ := w
  simp [m_laws_eqWorld, m_laws_eqConf, m_laws_eqPool, eqByteS_w hK h1, eqIntS_w hK h2, eqIntS_w hK h3, eqNodeS_w hK h4, eqWasteS_w hK h5, eqIntS_w hK h6]
omit hK in
theorem szByteS_w (a : List Int) (y : Int) : ∃ r, m_laws_szByteS K a y = some r := by
  unfold m_laws_szByteS; cases decide (iSub .i64 y (a.length : Int) < 0) <;> exact ⟨_, rfl⟩
omit hK in
theorem szIntS_w (a : List Int) (y : Int) : ∃ r, m_laws_szIntS K a y = some r := by
  unfold m_laws_szIntS; cases decide (iSub .i64 y (a.length : Int) < 0) <;> exact ⟨_, rfl⟩
omit hK in
theorem szThingS_w (a : List T_laws_Thing) (y : Int) : ∃ r, m_laws_szThingS K a y = some r := by
  unfold m_laws_szThingS; cases decide (iSub .i64 y (a.length : Int) < 0) <;> exact ⟨_, rfl⟩
omit hK in
theorem szNode_w (a : T_laws_Node) (y : Int) : ∃ r, m_laws_szNode K a y = some r := by
  unfold m_laws_szNode
  obtain ⟨r1, h1⟩ := szIntS_w (K := K) a.fChunks y
  rw [h1]; simp only [Option.bind_some]
  cases decide (r1 < 0)
  · obtain ⟨r2, h2⟩ := szThingS_w (K := K) a.fThings r1
    simp only [h2, Option.bind_some, cond_false]
    cases decide (r2 < 0)
    · obtain ⟨r3, h3⟩ := szIntS_w (K := K) a.fTags r2
      simp only [h3, Option.bind_some, cond_false]
      cases decide (r3 < 0) <;> exact ⟨_, rfl⟩
    · exact ⟨_, rfl⟩
  · exact ⟨_, rfl⟩
theorem szNodeS_w {a : List T_laws_Node} (w : Wf_Llaws_Node a) (y : Int) : ∃ r, m_laws_szNodeS K a y = some r := by
  have hl := wf_len w.2.1 (by decide)
  unfold m_laws_szNodeS
  cases decide (iSub .i64 y (a.length : Int) < 0)
  · exact sz_ok a (m_laws_szNode K) (fun x _ y => szNode_w x y) (by omega) (l_laws_szNodeS_4 K a) (fun n y i => rfl) K 0 _ (Nat.zero_le _) (by omega)
  · exact ⟨_, rfl⟩
omit hK in
theorem szWaste_w (a : T_laws_Waste) (y : Int) : ∃ r, m_laws_szWaste K a y = some r := by
  unfold m_laws_szWaste
  obtain ⟨r1, h1⟩ := szIntS_w (K := K) a.fTags y
  rw [h1]; simp only [Option.bind_some]
  cases decide (r1 < 0)
  · obtain ⟨r2, h2⟩ := szIntS_w (K := K) a.fChunks r1
    simp only [h2, Option.bind_some, cond_false]
    cases decide (r2 < 0) <;> exact ⟨_, rfl⟩
  · exact ⟨_, rfl⟩
theorem szWasteS_w {a : List T_laws_Waste} (w : Wf_Llaws_Waste a) (y : Int) : ∃ r, m_laws_szWasteS K a y = some r := by
  have hl := wf_len w.2.1 (by decide)
  unfold m_laws_szWasteS
  cases decide (iSub .i64 y (a.length : Int) < 0)
  · exact sz_ok a (m_laws_szWaste K) (fun x _ y => szWaste_w x y) (by omega) (l_laws_szWasteS_4 K a) (fun n y i => rfl) K 0 _ (Nat.zero_le _) (by omega)
  · exact ⟨_, rfl⟩
omit hK in
theorem szPool_w (a : T_laws_Pool) (y : Int) : ∃ r, m_laws_szPool K a y = some r := by
  unfold m_laws_szPool
  obtain ⟨r1, h1⟩ := szByteS_w (K := K) a.fMem y
  rw [h1]; simp only [Option.bind_some]
  cases decide (r1 < 0)
  · obtain ⟨r2, h2⟩ := szIntS_w (K := K) a.fSt r1
    simp only [h2, Option.bind_some, cond_false]
    cases decide (r2 < 0)
    · obtain ⟨r3, h3⟩ := szIntS_w (K := K) a.fOwn r2
      simp only [h3, Option.bind_some, cond_false]
      cases decide (r3 < 0) <;> exact ⟨_, rfl⟩
    · exact ⟨_, rfl⟩
  · exact ⟨_, rfl⟩
theorem szWorld_w {a : T_laws_World} (w : Wf_laws_World a) (y : Int) : ∃ r, m_laws_szWorld K a y = some r := by
  obtain ⟨_, _, h4, h5, _⟩ := w
  unfold m_laws_szWorld
  obtain ⟨r1, h1⟩ := szPool_w (K := K) a.fP y
  rw [h1]; simp only [Option.bind_some]
  cases decide (r1 < 0)
  · obtain ⟨r2, h2⟩ := szNodeS_w hK h4 r1
    simp only [h2, Option.bind_some, cond_false]
    cases decide (r2 < 0)
    · obtain ⟨r3, h3⟩ := szWasteS_w hK h5 r2
      simp only [h3, Option.bind_some, cond_false]
      cases decide (r3 < 0)
      · obtain ⟨r4, h4⟩ := szIntS_w (K := K) a.fLog r3
        simp only [h4, Option.bind_some, cond_false]
        cases decide (r4 < 0) <;> exact ⟨_, rfl⟩
      · exact ⟨_, rfl⟩
    · exact ⟨_, rfl⟩
  · exact ⟨_, rfl⟩
end
theorem wf_cvThing {a : T_laws_Thing} (w : Wf_laws_Thing a) : Wf_impl_Thing (cvThing a) := w
theorem wf_cvNode {a : T_laws_Node} (w : Wf_laws_Node a) : Wf_impl_Node (cvNode a) := by
  obtain ⟨h1, h2, h3, h4, h5, h6, h7, h8, h9, h10, h11, ⟨q1, q2, q3⟩, h13⟩ := w
  refine ⟨h1, h2, h3, h4, h5, h6, h7, h8, h9, h10, h11, ⟨?_, by simpa [cvNode] using q2, by simpa [cvNode] using q3⟩, h13⟩
  intro x hx
  obtain ⟨y, hy, rfl⟩ := List.mem_map.1 hx
  exact wf_cvThing (q1 y hy)
theorem wf_cvWaste {a : T_laws_Waste} (w : Wf_laws_Waste a) : Wf_impl_Waste (cvWaste a) := w
theorem wf_cvWorld {a : T_laws_World} (w : Wf_laws_World a) : Wf_impl_World (cvWorld a) := by
  obtain ⟨h1, h2, ⟨q1, q2, q3⟩, ⟨p1, p2, p3⟩, h5⟩ := w
  refine ⟨h1, h2, ⟨?_, by simpa [cvWorld] using q2, by simpa [cvWorld] using q3⟩, ⟨?_, by simpa [cvWorld] using p2, by simpa [cvWorld] using p3⟩, h5⟩
  · intro x hx
    obtain ⟨y, hy, rfl⟩ := List.mem_map.1 hx
    exact wf_cvNode (q1 y hy)
  · intro x hx
    obtain ⟨y, hy, rfl⟩ := List.mem_map.1 hx
    exact wf_cvWaste (p1 y hy)
def K0 : Nat := 281474976710656

theorem costOf_same (K : Nat) (w : T_impl_World) (n : Int) : ∃ r, m_spec_CostOf K w n = some r ∧ m_impl_CostOf K w n = some r := by
  have key : ∀ (K : Nat) (a b : Int), ∃ r, m_spec_CeilDiv K a b = some r ∧ m_impl_CeilDiv K a b = some r := by
    intro K a b
    unfold m_spec_CeilDiv m_impl_CeilDiv m_spec_l1In m_impl_within
    cases decide (a ≥ 0) <;> cases decide (a ≤ 1000000000) <;> cases h1 : decide (b ≥ 1) <;> cases decide (b ≤ 1000000000) <;> simp only [Option.bind_some, cond_true, cond_false] <;> first | exact ⟨_, rfl, rfl⟩ | skip
    have hb : b ≠ 0 := by have := of_decide_eq_true h1; omega
    rw [if_pos hb]
    exact ⟨_, rfl, rfl⟩
  unfold m_spec_CostOf m_impl_CostOf m_spec_IsLarge m_impl_IsLarge m_spec_ChunksFor m_impl_ChunksFor
  obtain ⟨t, h1, h2⟩ : ∃ t, m_spec_l1In K n 1 200 = some t ∧ m_impl_within K n 1 200 = some t := by
    unfold m_spec_l1In m_impl_within
    cases decide (n ≥ 1) <;> exact ⟨_, rfl, rfl⟩
  obtain ⟨r, h3, h4⟩ := key K n w.fC.fSize
  rw [h1, h2, h3, h4]
  cases t <;> cases decide (n > w.fC.fSize) <;> exact ⟨_, rfl, rfl⟩
theorem pure_FnExactCostOf (a : T_laws_World) (n : Int) (w : Wf_laws_World a) (_ : Wf_i64 n) : ∃ K, m_laws_FnExactCostOf K a n = some true := by
  refine ⟨K0, ?_⟩
  obtain ⟨r, hr⟩ := szWorld_w (Nat.le_refl K0) w 1048576
  obtain ⟨t, h1, h2⟩ := costOf_same K0 (cvWorld a) n
  unfold m_laws_FnExactCostOf
  rw [hr, toWorld_w (Nat.le_refl K0) w]
  simp only [Option.bind_some, h1, h2, bne_self_eq_false, cond_false, eqWorld_w (Nat.le_refl K0) (wf_cvWorld w), cond_true]
  exact cc _ _

end Go.Proofs.Ytemgbggfhohfeaa
