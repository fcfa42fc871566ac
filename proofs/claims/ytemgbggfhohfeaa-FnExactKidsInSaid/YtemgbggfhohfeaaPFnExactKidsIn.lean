/- Plain laws for FnExactKidsIn. -/
import Derived.Test.YtemgbggfhohfeaaGFnExactKidsInc
set_option linter.unusedVariables false
set_option linter.unusedSimpArgs false
namespace Go.Proofs.Ytemgbggfhohfeaa
open Go.Eng Go.ChangeShapes Go.WideShapes Go.ChangeAt Go.RowKit
/-! ### Loops over lists -/
theorem iAdd1 {i : Nat} (h : i ≤ 140737488355328) : iAdd .i64 (i : Int) 1 = ((i + 1 : Nat) : Int) := by
  unfold iAdd
  rw [IntKind.wrap_i64]
  omega
theorem gt_nat {α : Type} [Inhabited α] {l : List α} {i : Nat} (h : i < l.length) : gt l (i : Int) = l[i] := by
  unfold gt
  simp [h]
theorem gt_mem {α : Type} [Inhabited α] {l : List α} {i : Nat} (h : i < l.length) : gt l (i : Int) ∈ l := by
  rw [gt_nat h]; exact List.getElem_mem h
theorem gt_memI {α : Type} [Inhabited α] {l : List α} {i : Int} (h0 : 0 ≤ i) (h : i < l.length) : gt l i ∈ l := by
  obtain ⟨k, rfl⟩ : ∃ k : Nat, i = k := ⟨i.toNat, by omega⟩
  exact gt_mem (by omega)
theorem dlt_t {i k : Nat} (h : i < k) : decide ((i : Int) < (k : Int)) = true := by simp; omega
theorem dlt_f {i k : Nat} (h : k ≤ i) : decide ((i : Int) < (k : Int)) = false := by simp; omega

theorem conv_ok {α β : Type} [Inhabited α] (a : List α) (f : α → Option β) (g : α → β) (hf : ∀ x ∈ a, f x = some (g x)) (ha : a.length ≤ 140737488355328)
    (L : Nat → Int → List β → Option (List β)) (hL : ∀ n i v, L (n + 1) i v = bif decide (i < (a.length : Int)) then (if (0 : Int) ≤ i ∧ i < (a.length : Int) then (f (gt a i)).bind (fun r => (if (0 : Int) ≤ i ∧ i < (v.length : Int) then L n (iAdd .i64 i 1) (v.set i.toNat r) else none)) else none) else some v) :
    ∀ (n i : Nat) (v : List β), i ≤ a.length → v.length = a.length → (∀ j, j < i → v[j]? = (a.map g)[j]?) → a.length - i < n → L n (i : Int) v = some (a.map g) := by
  intro n
  induction n with
  | zero => intro i v _ _ _ h; omega
  | succ n ih =>
    intro i v hi hv hj hn
    rw [hL]
    rcases Nat.lt_or_ge i a.length with h | h
    · rw [dlt_t h]
      simp only [cond_true]
      rw [if_pos ⟨by omega, by omega⟩, hf _ (gt_mem h)]
      simp only [Option.bind_some]
      rw [if_pos ⟨by omega, by omega⟩, iAdd1 (by omega)]
      refine ih (i + 1) _ h (by simpa using hv) (fun j hj2 => ?_) (by omega)
      rw [Int.toNat_natCast, List.getElem?_set]
      by_cases e : i = j
      · subst e
        rw [if_pos rfl, if_pos (by omega), gt_nat h, List.getElem?_map, List.getElem?_eq_getElem h]; rfl
      · rw [if_neg e]; exact hj j (by omega)
    · rw [dlt_f h]
      simp only [cond_false, Option.some.injEq]
      have hia : i = a.length := by omega
      refine List.ext_getElem? fun j => ?_
      rcases Nat.lt_or_ge j a.length with hja | hja
      · exact hj j (by omega)
      · rw [List.getElem?_eq_none (by omega), List.getElem?_eq_none (by simpa using hja)]
theorem eq_ok {β : Type} [Inhabited β] (a : List β) (e : β → β → Option Bool) (he : ∀ x ∈ a, e x x = some true) (ha : a.length ≤ 140737488355328)
    (L : Nat → Int → Option Bool) (hL : ∀ n i, L (n + 1) i = bif decide (i < (a.length : Int)) then (if (0 : Int) ≤ i ∧ i < (a.length : Int) then (if (0 : Int) ≤ i ∧ i < (a.length : Int) then (e (gt a i) (gt a i)).bind (fun r => bif r then L n (iAdd .i64 i 1) else some false) else none) else none) else some true) :
    ∀ (n i : Nat), i ≤ a.length → a.length - i < n → L n (i : Int) = some true := by
  intro n
  induction n with
  | zero => intro i _ h; omega
  | succ n ih =>
    intro i hi hn
    rw [hL]
    rcases Nat.lt_or_ge i a.length with h | h
    · rw [dlt_t h]
      simp only [cond_true]
      rw [if_pos ⟨by omega, by omega⟩, if_pos ⟨by omega, by omega⟩, he _ (gt_mem h), iAdd1 (by omega)]
      simp only [Option.bind_some, cond_true]
      exact ih (i + 1) h (by omega)
    · rw [dlt_f h]; rfl
theorem eqv_ok (a : List Int) (ha : a.length ≤ 140737488355328)
    (L : Nat → Int → Option Bool) (hL : ∀ n i, L (n + 1) i = bif decide (i < (a.length : Int)) then (if (0 : Int) ≤ i ∧ i < (a.length : Int) then (if (0 : Int) ≤ i ∧ i < (a.length : Int) then (bif (gt a i != gt a i) then some false else L n (iAdd .i64 i 1)) else none) else none) else some true) :
    ∀ (n i : Nat), i ≤ a.length → a.length - i < n → L n (i : Int) = some true := by
  intro n
  induction n with
  | zero => intro i _ h; omega
  | succ n ih =>
    intro i hi hn
    rw [hL]
    rcases Nat.lt_or_ge i a.length with h | h
    · rw [dlt_t h]
      simp only [cond_true]
      rw [if_pos ⟨by omega, by omega⟩, if_pos ⟨by omega, by omega⟩, iAdd1 (by omega)]
      simp only [bne_self_eq_false, cond_false]
      exact ih (i + 1) h (by omega)
    · rw [dlt_f h]; rfl
theorem sz_ok {α : Type} [Inhabited α] (a : List α) (f : α → Int → Option Int) (hf : ∀ x ∈ a, ∀ y, ∃ r, f x y = some r) (ha : a.length ≤ 140737488355328)
    (L : Nat → Int → Int → Option Int) (hL : ∀ n y i, L (n + 1) y i = bif decide (i < (a.length : Int)) then (if (0 : Int) ≤ i ∧ i < (a.length : Int) then (f (gt a i) y).bind (fun r => bif decide (r < 0) then some (-1) else L n r (iAdd .i64 i 1)) else none) else some y) :
    ∀ (n i : Nat) (y : Int), i ≤ a.length → a.length - i < n → ∃ r, L n y (i : Int) = some r := by
  intro n
  induction n with
  | zero => intro i _ _ h; omega
  | succ n ih =>
    intro i y hi hn
    rw [hL]
    rcases Nat.lt_or_ge i a.length with h | h
    · rw [dlt_t h]
      simp only [cond_true]
      obtain ⟨r, hr⟩ := hf _ (gt_mem h) y
      rw [if_pos ⟨by omega, by omega⟩, hr, iAdd1 (by omega)]
      simp only [Option.bind_some]
      cases decide (r < 0) with
      | true => exact ⟨_, rfl⟩
      | false => exact ih (i + 1) r h (by omega)
    · rw [dlt_f h]; exact ⟨_, rfl⟩
theorem i64_id {n : Int} (h0 : -9223372036854775808 ≤ n) (h1 : n ≤ 9223372036854775807) : IntKind.i64.wrap n = n := by rw [IntKind.wrap_i64]; omega
theorem i64_in (n : Int) : -9223372036854775808 ≤ IntKind.i64.wrap n ∧ IntKind.i64.wrap n ≤ 9223372036854775807 := by rw [IntKind.wrap_i64]; omega
theorem cc {α : Type} (b : Bool) (x : α) : (bif b then x else x) = x := by cases b <;> rfl
theorem bne_t {a b : Int} (h : ¬ a = b) : (a != b) = true := by simpa using h
theorem beq_f {a b : Int} (h : ¬ a = b) : (a == b) = false := by simpa using h

/-! ### A world is copied, compared with itself, measured -/
theorem wf_i64 {x : Int} : Wf_i64 x ↔ -9223372036854775808 ≤ x ∧ x ≤ 9223372036854775807 := by
  simp [Wf_i64, Lit.wf, IntKind.min, IntKind.max, IntKind.signed, IntKind.bits]
theorem wf_bytes {n : Nat} (h : n ≤ reachBytes) : n ≤ 140737488355327 := by simp only [reachBytes] at h; omega
theorem wf_len {n m : Nat} (h : n * m ≤ reachBytes) (hm : 0 < m) : n ≤ 140737488355327 := by
  have : n * 1 ≤ n * m := Nat.mul_le_mul_left n hm
  simp only [reachBytes] at h
  omega
def cvConf (a : T_laws_Conf) : T_impl_Conf := T_impl_Conf.mk a.fChunks a.fSize a.fSlots a.fTax a.fSlice a.fGens
def cvPool (a : T_laws_Pool) : T_impl_Pool := T_impl_Pool.mk a.fMem a.fSt a.fOwn
def cvThing (a : T_laws_Thing) : T_impl_Thing := T_impl_Thing.mk a.fAt a.fLen a.fRun
def cvNode (a : T_laws_Node) : T_impl_Node := T_impl_Node.mk a.fSt a.fGen a.fEp a.fUp a.fUpEp a.fFirst a.fNext a.fPrev a.fChunks a.fCur a.fBump (a.fThings.map cvThing) a.fTags
def cvWaste (a : T_laws_Waste) : T_impl_Waste := T_impl_Waste.mk a.fSlot a.fFirst a.fTags a.fChunks a.fDone
def cvWorld (a : T_laws_World) : T_impl_World := T_impl_World.mk (cvConf a.fC) (cvPool a.fP) (a.fL.map cvNode) (a.fQ.map cvWaste) a.fLog
section
variable {K : Nat} (hK : 281474976710656 ≤ K)
include hK
theorem toByteS_w {a : List Int} (w : Wf_Lu8 a) : m_laws_toByteS K a = some a := by
  have hl := wf_len w.2.1 (by decide)
  unfold m_laws_toByteS
  rw [if_pos ⟨by omega, by omega, by omega, by omega⟩]
  have := conv_ok a some id (fun _ _ => rfl) (by omega) (l_laws_toByteS_4 K a) (fun n i v => rfl) K 0 (List.replicate (a.length : Int).toNat 0) (Nat.zero_le _) (by simp) (fun j hj => by omega) (by omega)
  simpa using this
theorem toIntS_w {a : List Int} (w : Wf_Li64 a) : m_laws_toIntS K a = some a := by
  have hl := wf_len w.2.1 (by decide)
  have hr : a.length * 8 ≤ 140737488355327 := wf_bytes w.2.1
  unfold m_laws_toIntS
  rw [if_pos ⟨by omega, by omega, by omega, by omega⟩]
  have := conv_ok a some id (fun _ _ => rfl) (by omega) (l_laws_toIntS_4 K a) (fun n i v => rfl) K 0 (List.replicate (a.length : Int).toNat 0) (Nat.zero_le _) (by simp) (fun j hj => by omega) (by omega)
  simpa using this
theorem toThingS_w {a : List T_laws_Thing} (w : Wf_Llaws_Thing a) : m_laws_toThingS K a = some (a.map cvThing) := by
  have hl := wf_len w.2.1 (by decide)
  have hr : a.length * 24 ≤ 140737488355327 := wf_bytes w.2.1
  unfold m_laws_toThingS
  rw [if_pos ⟨by omega, by omega, by omega, by omega⟩]
  exact conv_ok a (m_laws_toThing K) cvThing (fun _ _ => rfl) (by omega) (l_laws_toThingS_4 K a) (fun n i v => rfl) K 0 _ (Nat.zero_le _) (by simp) (fun j hj => by omega) (by omega)
theorem toNode_w {a : T_laws_Node} (w : Wf_laws_Node a) : m_laws_toNode K a = some (cvNode a) := by
  unfold m_laws_toNode
  obtain ⟨_, _, _, _, _, _, _, _, h1, _, _, h2, h3⟩ := w
  rw [toIntS_w hK h1, toThingS_w hK h2, toIntS_w hK h3]
  rfl
theorem toNodeS_w {a : List T_laws_Node} (w : Wf_Llaws_Node a) : m_laws_toNodeS K a = some (a.map cvNode) := by
  have hl := wf_len w.2.1 (by decide)
  have hr : a.length * 152 ≤ 140737488355327 := wf_bytes w.2.1
  unfold m_laws_toNodeS
  rw [if_pos ⟨by omega, by omega, by omega, by omega⟩]
  exact conv_ok a (m_laws_toNode K) cvNode (fun x hx => toNode_w hK (w.1 x hx)) (by omega) (l_laws_toNodeS_4 K a) (fun n i v => rfl) K 0 _ (Nat.zero_le _) (by simp) (fun j hj => by omega) (by omega)
theorem toWaste_w {a : T_laws_Waste} (w : Wf_laws_Waste a) : m_laws_toWaste K a = some (cvWaste a) := by
  unfold m_laws_toWaste
  obtain ⟨_, _, h1, h2, _⟩ := w
  rw [toIntS_w hK h1, toIntS_w hK h2]
  rfl
theorem toWasteS_w {a : List T_laws_Waste} (w : Wf_Llaws_Waste a) : m_laws_toWasteS K a = some (a.map cvWaste) := by
  have hl := wf_len w.2.1 (by decide)
  have hr : a.length * 72 ≤ 140737488355327 := wf_bytes w.2.1
  unfold m_laws_toWasteS
  rw [if_pos ⟨by omega, by omega, by omega, by omega⟩]
  exact conv_ok a (m_laws_toWaste K) cvWaste (fun x hx => toWaste_w hK (w.1 x hx)) (by omega) (l_laws_toWasteS_4 K a) (fun n i v => rfl) K 0 _ (Nat.zero_le _) (by simp) (fun j hj => by omega) (by omega)
theorem toWorld_w {a : T_laws_World} (w : Wf_laws_World a) : m_laws_toWorld K a = some (cvWorld a) := by
  unfold m_laws_toWorld m_laws_toConf m_laws_toPool
  obtain ⟨_, ⟨h1, h2, h3⟩, h4, h5, h6⟩ := w
  rw [toByteS_w hK h1, toIntS_w hK h2, toIntS_w hK h3, toNodeS_w hK h4, toWasteS_w hK h5, toIntS_w hK h6]
  rfl
theorem eqByteS_w {a : List Int} (w : Wf_Lu8 a) : m_laws_eqByteS K a a = some true := by
  have hl := wf_len w.2.1 (by decide)
  unfold m_laws_eqByteS
  simp only [bne_self_eq_false, cond_false]
  exact eqv_ok a (by omega) (l_laws_eqByteS_3 K a a) (fun n i => rfl) K 0 (Nat.zero_le _) (by omega)
theorem eqIntS_w {a : List Int} (w : Wf_Li64 a) : m_laws_eqIntS K a a = some true := by
  have hl := wf_len w.2.1 (by decide)
  unfold m_laws_eqIntS
  simp only [bne_self_eq_false, cond_false]
  exact eqv_ok a (by omega) (l_laws_eqIntS_3 K a a) (fun n i => rfl) K 0 (Nat.zero_le _) (by omega)
omit hK in
theorem eqThing_w (a : T_impl_Thing) : m_laws_eqThing K a a = some true := by simp [m_laws_eqThing]
theorem eqThingS_w {a : List T_impl_Thing} (w : Wf_Limpl_Thing a) : m_laws_eqThingS K a a = some true := by
  have hl := wf_len w.2.1 (by decide)
  unfold m_laws_eqThingS
  simp only [bne_self_eq_false, cond_false]
  exact eq_ok a (m_laws_eqThing K) (fun x _ => eqThing_w x) (by omega) (l_laws_eqThingS_3 K a a) (fun n i => rfl) K 0 (Nat.zero_le _) (by omega)
theorem eqNode_w {a : T_impl_Node} (w : Wf_impl_Node a) : m_laws_eqNode K a a = some true := by
  obtain ⟨_, _, _, _, _, _, _, _, h1, _, _, h2, h3⟩ := w
  simp [m_laws_eqNode, eqIntS_w hK h1, eqThingS_w hK h2, eqIntS_w hK h3]
theorem eqNodeS_w {a : List T_impl_Node} (w : Wf_Limpl_Node a) : m_laws_eqNodeS K a a = some true := by
  have hl := wf_len w.2.1 (by decide)
  unfold m_laws_eqNodeS
  simp only [bne_self_eq_false, cond_false]
  exact eq_ok a (m_laws_eqNode K) (fun x hx => eqNode_w hK (w.1 x hx)) (by omega) (l_laws_eqNodeS_3 K a a) (fun n i => rfl) K 0 (Nat.zero_le _) (by omega)
theorem eqWaste_w {a : T_impl_Waste} (w : Wf_impl_Waste a) : m_laws_eqWaste K a a = some true := by
  obtain ⟨_, _, h1, h2, _⟩ := w
  simp [m_laws_eqWaste, eqIntS_w hK h1, eqIntS_w hK h2]
theorem eqWasteS_w {a : List T_impl_Waste} (w : Wf_Limpl_Waste a) : m_laws_eqWasteS K a a = some true := by
  have hl := wf_len w.2.1 (by decide)
  unfold m_laws_eqWasteS
  simp only [bne_self_eq_false, cond_false]
  exact eq_ok a (m_laws_eqWaste K) (fun x hx => eqWaste_w hK (w.1 x hx)) (by omega) (l_laws_eqWasteS_3 K a a) (fun n i => rfl) K 0 (Nat.zero_le _) (by omega)
theorem eqWorld_w {a : T_impl_World} (w : Wf_impl_World a) : m_laws_eqWorld K a a = some true := by
  obtain ⟨_, ⟨h1, h2, h3⟩, h4, h5, h6⟩ := w
  simp [m_laws_eqWorld, m_laws_eqConf, m_laws_eqPool, eqByteS_w hK h1, eqIntS_w hK h2, eqIntS_w hK h3, eqNodeS_w hK h4, eqWasteS_w hK h5, eqIntS_w hK h6]
omit hK in
theorem szByteS_w (a : List Int) (y : Int) : ∃ r, m_laws_szByteS K a y = some r := by
  unfold m_laws_szByteS; cases decide (iSub .i64 y (a.length : Int) < 0) <;> exact ⟨_, rfl⟩
omit hK in
theorem szIntS_w (a : List Int) (y : Int) : ∃ r, m_laws_szIntS K a y = some r := by
  unfold m_laws_szIntS; cases decide (iSub .i64 y (a.length : Int) < 0) <;> exact ⟨_, rfl⟩
omit hK in
theorem szThingS_w (a : List T_laws_Thing) (y : Int) : ∃ r, m_laws_szThingS K a y = some r := by
  unfold m_laws_szThingS; cases decide (iSub .i64 y (a.length : Int) < 0) <;> exact ⟨_, rfl⟩
omit hK in
theorem szNode_w (a : T_laws_Node) (y : Int) : ∃ r, m_laws_szNode K a y = some r := by
  unfold m_laws_szNode
  obtain ⟨r1, h1⟩ := szIntS_w (K := K) a.fChunks y
  rw [h1]; simp only [Option.bind_some]
  cases decide (r1 < 0)
  · obtain ⟨r2, h2⟩ := szThingS_w (K := K) a.fThings r1
    simp only [h2, Option.bind_some, cond_false]
    cases decide (r2 < 0)
    · obtain ⟨r3, h3⟩ := szIntS_w (K := K) a.fTags r2
      simp only [h3, Option.bind_some, cond_false]
      cases decide (r3 < 0) <;> exact ⟨_, rfl⟩
    · exact ⟨_, rfl⟩
  · exact ⟨_, rfl⟩
theorem szNodeS_w {a : List T_laws_Node} (w : Wf_Llaws_Node a) (y : Int) : ∃ r, m_laws_szNodeS K a y = some r := by
  have hl := wf_len w.2.1 (by decide)
  unfold m_laws_szNodeS
  cases decide (iSub .i64 y (a.length : Int) < 0)
  · exact sz_ok a (m_laws_szNode K) (fun x _ y => szNode_w x y) (by omega) (l_laws_szNodeS_4 K a) (fun n y i => rfl) K 0 _ (Nat.zero_le _) (by omega)
  · exact ⟨_, rfl⟩
omit hK in
theorem szWaste_w (a : T_laws_Waste) (y : Int) : ∃ r, m_laws_szWaste K a y = some r := by
  unfold m_laws_szWaste
  obtain ⟨r1, h1⟩ := szIntS_w (K := K) a.fTags y
  rw [h1]; simp only [Option.bind_some]
  cases decide (r1 < 0)
  · obtain ⟨r2, h2⟩ := szIntS_w (K := K) a.fChunks r1
    simp only [h2, Option.bind_some, cond_false]
    cases decide (r2 < 0) <;> exact ⟨_, rfl⟩
  · exact ⟨_, rfl⟩
theorem szWasteS_w {a : List T_laws_Waste} (w : Wf_Llaws_Waste a) (y : Int) : ∃ r, m_laws_szWasteS K a y = some r := by
  have hl := wf_len w.2.1 (by decide)
  unfold m_laws_szWasteS
  cases decide (iSub .i64 y (a.length : Int) < 0)
  · exact sz_ok a (m_laws_szWaste K) (fun x _ y => szWaste_w x y) (by omega) (l_laws_szWasteS_4 K a) (fun n y i => rfl) K 0 _ (Nat.zero_le _) (by omega)
  · exact ⟨_, rfl⟩
omit hK in
theorem szPool_w (a : T_laws_Pool) (y : Int) : ∃ r, m_laws_szPool K a y = some r := by
  unfold m_laws_szPool
  obtain ⟨r1, h1⟩ := szByteS_w (K := K) a.fMem y
  rw [h1]; simp only [Option.bind_some]
  cases decide (r1 < 0)
  · obtain ⟨r2, h2⟩ := szIntS_w (K := K) a.fSt r1
    simp only [h2, Option.bind_some, cond_false]
    cases decide (r2 < 0)
    · obtain ⟨r3, h3⟩ := szIntS_w (K := K) a.fOwn r2
      simp only [h3, Option.bind_some, cond_false]
      cases decide (r3 < 0) <;> exact ⟨_, rfl⟩
    · exact ⟨_, rfl⟩
  · exact ⟨_, rfl⟩
theorem szWorld_w {a : T_laws_World} (w : Wf_laws_World a) (y : Int) : ∃ r, m_laws_szWorld K a y = some r := by
  obtain ⟨_, _, h4, h5, _⟩ := w
  unfold m_laws_szWorld
  obtain ⟨r1, h1⟩ := szPool_w (K := K) a.fP y
  rw [h1]; simp only [Option.bind_some]
  cases decide (r1 < 0)
  · obtain ⟨r2, h2⟩ := szNodeS_w hK h4 r1
    simp only [h2, Option.bind_some, cond_false]
    cases decide (r2 < 0)
    · obtain ⟨r3, h3⟩ := szWasteS_w hK h5 r2
      simp only [h3, Option.bind_some, cond_false]
      cases decide (r3 < 0)
      · obtain ⟨r4, h4⟩ := szIntS_w (K := K) a.fLog r3
        simp only [h4, Option.bind_some, cond_false]
        cases decide (r4 < 0) <;> exact ⟨_, rfl⟩
      · exact ⟨_, rfl⟩
    · exact ⟨_, rfl⟩
  · exact ⟨_, rfl⟩
end
theorem wf_cvThing {a : T_laws_Thing} (w : Wf_laws_Thing a) : Wf_impl_Thing (cvThing a) := w
theorem wf_cvNode {a : T_laws_Node} (w : Wf_laws_Node a) : Wf_impl_Node (cvNode a) := by
  obtain ⟨h1, h2, h3, h4, h5, h6, h7, h8, h9, h10, h11, ⟨q1, q2, q3⟩, h13⟩ := w
  refine ⟨h1, h2, h3, h4, h5, h6, h7, h8, h9, h10, h11, ⟨?_, by simpa [cvNode] using q2, by simpa [cvNode] using q3⟩, h13⟩
  intro x hx
  obtain ⟨y, hy, rfl⟩ := List.mem_map.1 hx
  exact wf_cvThing (q1 y hy)
theorem wf_cvWaste {a : T_laws_Waste} (w : Wf_laws_Waste a) : Wf_impl_Waste (cvWaste a) := w
theorem wf_cvWorld {a : T_laws_World} (w : Wf_laws_World a) : Wf_impl_World (cvWorld a) := by
  obtain ⟨h1, h2, ⟨q1, q2, q3⟩, ⟨p1, p2, p3⟩, h5⟩ := w
  refine ⟨h1, h2, ⟨?_, by simpa [cvWorld] using q2, by simpa [cvWorld] using q3⟩, ⟨?_, by simpa [cvWorld] using p2, by simpa [cvWorld] using p3⟩, h5⟩
  · intro x hx
    obtain ⟨y, hy, rfl⟩ := List.mem_map.1 hx
    exact wf_cvNode (q1 y hy)
  · intro x hx
    obtain ⟨y, hy, rfl⟩ := List.mem_map.1 hx
    exact wf_cvWaste (p1 y hy)
def K0 : Nat := 281474976710656

/-! ### Looking up regions -/
section
variable {K : Nat} (hK : 281474976710656 ≤ K)
theorem place_in (K : Nat) {α : Type} {l : List α} (hl : l.length ≤ 140737488355327) (k : Int) : m_spec_l1In K k 0 (iSub .i64 (l.length : Int) 1) = some (decide (0 ≤ k ∧ k < (l.length : Int))) := by
  unfold m_spec_l1In iSub
  rw [i64_id (by omega) (by omega)]
  by_cases h : (0 : Int) ≤ k
  · rw [decide_eq_true (show k ≥ 0 from h)]
    simp only [cond_true, Option.some.injEq, decide_eq_decide]
    omega
  · rw [decide_eq_false (show ¬ k ≥ 0 from h)]
    simp only [cond_false, Option.some.injEq]
    exact (decide_eq_false (by omega)).symm
theorem within_in (K : Nat) {α : Type} {l : List α} (hl : l.length ≤ 140737488355327) (k : Int) : m_impl_within K k 0 (iSub .i64 (l.length : Int) 1) = some (decide (0 ≤ k ∧ k < (l.length : Int))) := place_in K hl k
theorem isSlot_eq (K : Nat) {l : List T_impl_Node} (hl : l.length ≤ 140737488355327) (k : Int) : m_impl_isSlot K l k = some (decide (0 ≤ k ∧ k < (l.length : Int))) := by
  unfold m_impl_isSlot
  rw [within_in K hl]; rfl
theorem l9Place_eq (K : Nat) (l : List T_impl_Node) (k : Int) : m_spec_l9Place K l k = some (decide (1 ≤ k ∧ k ≤ (l.length : Int))) := by
  unfold m_spec_l9Place
  by_cases h : (1 : Int) ≤ k
  · rw [decide_eq_true (show k ≥ 1 from h)]
    simp only [cond_true, Option.some.injEq, decide_eq_decide]
    omega
  · rw [decide_eq_false (show ¬ k ≥ 1 from h)]
    simp only [cond_false, Option.some.injEq]
    exact (decide_eq_false (by omega)).symm
def placeL (l : List T_impl_Node) (h : T_impl_Handle) : Int := if (0 ≤ h.fSlot ∧ h.fSlot < (l.length : Int)) ∧ (gt l h.fSlot).fSt = 1 ∧ (gt l h.fSlot).fGen = h.fGen then h.fSlot else -1
theorem placeOf_spec (K : Nat) {l : List T_impl_Node} (hl : l.length ≤ 140737488355327) (h : T_impl_Handle) : m_spec_PlaceOf K l h = some (placeL l h) := by
  unfold m_spec_PlaceOf placeL
  rw [place_in K hl]
  simp only [Option.bind_some]
  by_cases hs : 0 ≤ h.fSlot ∧ h.fSlot < (l.length : Int)
  · rw [decide_eq_true hs]
    simp only [cond_true, if_pos hs]
    by_cases h1 : (gt l h.fSlot).fSt = 1
    · by_cases h2 : (gt l h.fSlot).fGen = h.fGen
      · rw [if_pos ⟨hs, h1, h2⟩]; simp [h1, h2]
      · rw [if_neg (fun h => h2 h.2.2), bne_t h2]; simp [h1]
    · rw [if_neg (fun h => h1 h.2.1), bne_t h1]; rfl
  · rw [decide_eq_false hs]
    simp only [cond_false]
    rw [if_neg (fun h => hs h.1)]
theorem placeOf_impl (K : Nat) {l : List T_impl_Node} (hl : l.length ≤ 140737488355327) (h : T_impl_Handle) : m_impl_PlaceOf K l h = some (placeL l h) := by
  rw [← placeOf_spec K hl]
  unfold m_spec_PlaceOf m_impl_PlaceOf
  rw [place_in K hl, isSlot_eq K hl]
theorem placeL_in {l : List T_impl_Node} {h : T_impl_Handle} (h0 : ¬ placeL l h < 0) : 0 ≤ placeL l h ∧ placeL l h < (l.length : Int) := by
  unfold placeL at *
  split at h0
  · rename_i h1; rw [if_pos h1]; exact h1.1
  · omega

def riseL (l : List T_impl_Node) : Nat → Int → List Int
  | 0, _ => []
  | n + 1, k => if 0 ≤ k ∧ k < (l.length : Int) then k :: riseL l n (iSub .i64 (gt l k).fUp 1) else []
theorem rise_in {l : List T_impl_Node} : ∀ (n : Nat) (k : Int), ∀ x ∈ riseL l n k, 0 ≤ x ∧ x < (l.length : Int) := by
  intro n
  induction n with
  | zero => intro k x hx; cases hx
  | succ n ih =>
    intro k x hx
    unfold riseL at hx
    split at hx
    · rename_i h
      rcases List.mem_cons.1 hx with rfl | hx
      · exact h
      · exact ih _ x hx
    · cases hx
theorem rise_len {l : List T_impl_Node} : ∀ (n : Nat) (k : Int), (riseL l n k).length ≤ n := by
  intro n
  induction n with
  | zero => intro k; exact Nat.le_refl _
  | succ n ih =>
    intro k
    unfold riseL
    split
    · simp only [List.length_cons]; have := ih (iSub .i64 (gt l k).fUp 1); omega
    · exact Nat.zero_le _
def chainL (l : List T_impl_Node) : List Int → Prop
  | x :: y :: r => iSub .i64 (gt l x).fUp 1 = y ∧ chainL l (y :: r)
  | _ => True
theorem rise_chain {l : List T_impl_Node} : ∀ (n : Nat) (k : Int), chainL l (riseL l n k) := by
  intro n
  induction n with
  | zero => intro k; trivial
  | succ n ih =>
    intro k
    unfold riseL
    split
    · have h1 := ih (iSub .i64 (gt l k).fUp 1)
      cases n with
      | zero => trivial
      | succ n =>
        rw [riseL] at h1 ⊢
        split at h1
        · rename_i h2; rw [if_pos h2]; exact ⟨rfl, h1⟩
        · rename_i h2; rw [if_neg h2]; trivial
    · trivial
theorem rise_spec {l : List T_impl_Node} (w : Wf_Limpl_Node l) : ∀ (n : Nat) (k : Int) (v : List Int), -9223372036854775808 ≤ k ∧ k ≤ 9223372036854775807 → v.length ≤ l.length → l.length - v.length < n → l_spec_Rise_3 K l n k v = some (v ++ riseL l (l.length - v.length) k) := by
  have hb : l.length * 152 ≤ 140737488355327 := wf_bytes w.2.1
  intro n
  induction n with
  | zero => intro k v _ _ h; omega
  | succ n ih =>
    intro k v hk hv hn
    rw [l_spec_Rise_3, l9Place_eq]
    simp only [Option.bind_some]
    have e : decide (1 ≤ iAdd .i64 k 1 ∧ iAdd .i64 k 1 ≤ (l.length : Int)) = decide (0 ≤ k ∧ k < (l.length : Int)) := by
      rw [decide_eq_decide]
      unfold iAdd
      rw [IntKind.wrap_i64]
      omega
    rw [e]
    by_cases hs : 0 ≤ k ∧ k < (l.length : Int)
    · rw [decide_eq_true hs]
      simp only [cond_true]
      rcases Nat.lt_or_ge v.length l.length with h | h
      · rw [dlt_t h]
        simp only [cond_true]
        have hl2 : (v ++ [k]).length = v.length + 1 := by simp
        rw [if_pos ⟨by rw [hl2]; omega, by rw [hl2]; unfold maxLen; omega⟩, if_pos hs, ih (iSub .i64 (gt l k).fUp 1) _ (i64_in _) (by rw [hl2]; omega) (by rw [hl2]; omega), hl2]
        obtain ⟨m, hm⟩ : ∃ m, l.length - v.length = m + 1 := ⟨l.length - v.length - 1, by omega⟩
        rw [hm, riseL, if_pos hs, show l.length - (v.length + 1) = m from by omega]
        simp
      · rw [dlt_f h]
        rw [show l.length - v.length = 0 from by omega]
        simp [riseL]
    · rw [decide_eq_false hs]
      have : riseL l (l.length - v.length) k = [] := by
        cases l.length - v.length with
        | zero => rfl
        | succ m => rw [riseL, if_neg hs]
      rw [this]
      simp
theorem rise_impl {l : List T_impl_Node} (w : Wf_Limpl_Node l) : ∀ (n : Nat) (k : Int) (v : List Int), v.length ≤ l.length → l.length - v.length < n → l_impl_Rise_3 K l n k v = some (v ++ riseL l (l.length - v.length) k) := by
  have hb : l.length * 152 ≤ 140737488355327 := wf_bytes w.2.1
  intro n
  induction n with
  | zero => intro k v _ h; omega
  | succ n ih =>
    intro k v hv hn
    rw [l_impl_Rise_3, isSlot_eq K (by omega)]
    simp only [Option.bind_some]
    by_cases hs : 0 ≤ k ∧ k < (l.length : Int)
    · rw [decide_eq_true hs]
      simp only [cond_true]
      rcases Nat.lt_or_ge v.length l.length with h | h
      · rw [dlt_t h]
        simp only [cond_true]
        have hl2 : (v ++ [k]).length = v.length + 1 := by simp
        rw [if_pos ⟨by rw [hl2]; omega, by rw [hl2]; unfold maxLen; omega⟩, if_pos hs, ih _ _ (by rw [hl2]; omega) (by rw [hl2]; omega), hl2]
        obtain ⟨m, hm⟩ : ∃ m, l.length - v.length = m + 1 := ⟨l.length - v.length - 1, by omega⟩
        rw [hm, riseL, if_pos hs, show l.length - (v.length + 1) = m from by omega]
        simp
      · rw [dlt_f h]
        rw [show l.length - v.length = 0 from by omega]
        simp [riseL]
    · rw [decide_eq_false hs]
      have : riseL l (l.length - v.length) k = [] := by
        cases l.length - v.length with
        | zero => rfl
        | succ m => rw [riseL, if_neg hs]
      rw [this]
      simp
include hK in
theorem rise_spec0 {l : List T_impl_Node} (w : Wf_Limpl_Node l) (k : Int) (hk : -9223372036854775808 ≤ k ∧ k ≤ 9223372036854775807) : m_spec_Rise K l k = some (riseL l l.length k) := by
  have hb := wf_len w.2.1 (by decide)
  unfold m_spec_Rise
  have := rise_spec (K := K) w K k [] hk (Nat.zero_le _) (by simp; omega)
  simpa using this
include hK in
theorem rise_impl0 {l : List T_impl_Node} (w : Wf_Limpl_Node l) (k : Int) : m_impl_Rise K l k = some (riseL l l.length k) := by
  have hb := wf_len w.2.1 (by decide)
  unfold m_impl_Rise
  have := rise_impl (K := K) w K k [] (Nat.zero_le _) (by simp; omega)
  simpa using this

def aliveW (l : List T_impl_Node) : List Int → Bool
  | [] => true
  | [x] => (gt l x).fSt == 1
  | x :: y :: r => ((gt l x).fSt == 1) && ((gt l x).fUpEp == (gt l y).fEp) && aliveW l (y :: r)
def lastUp (l : List T_impl_Node) (way : List Int) : Bool := if 0 < way.length then (gt l (gt way ((way.length - 1 : Nat) : Int))).fUp == 0 else false
theorem final_ok {l : List T_impl_Node} {way : List Int} (hin : ∀ x ∈ way, 0 ≤ x ∧ x < (l.length : Int)) (hlen : way.length ≤ 140737488355327) :
    (bif (decide ((way.length : Int) > 0)) then (if (0 : Int) ≤ (iSub .i64 (way.length : Int) 1) ∧ (iSub .i64 (way.length : Int) 1) < (way.length : Int) then (if (0 : Int) ≤ (gt way (iSub .i64 (way.length : Int) 1)) ∧ (gt way (iSub .i64 (way.length : Int) 1)) < (l.length : Int) then some (((gt l (gt way (iSub .i64 (way.length : Int) 1))).fUp) == 0) else none) else none) else some false) = some (lastUp l way) := by
  unfold lastUp
  rcases Nat.eq_zero_or_pos way.length with h | h
  · rw [decide_eq_false (show ¬ (way.length : Int) > 0 by omega)]
    simp only [cond_false]
    rw [if_neg (show ¬ 0 < way.length by omega)]
  · rw [if_pos h, decide_eq_true (by omega)]
    simp only [cond_true]
    have e : iSub .i64 (way.length : Int) 1 = ((way.length - 1 : Nat) : Int) := by unfold iSub; rw [i64_id (by omega) (by omega)]; omega
    rw [e, if_pos ⟨by omega, by omega⟩, if_pos (hin _ (gt_mem (by omega)))]
theorem drop_two {way : List Int} {i : Nat} (h : i < way.length) : way.drop i = way[i] :: way.drop (i + 1) := by
  rw [List.drop_eq_getElem_cons h]
theorem alive_impl {l : List T_impl_Node} {way : List Int} (hin : ∀ x ∈ way, 0 ≤ x ∧ x < (l.length : Int)) (hlen : way.length ≤ 140737488355327) : ∀ (n i : Nat), i ≤ way.length → way.length - i < n → l_impl_Alive_3 K l way n (i : Int) = some (aliveW l (way.drop i) && lastUp l way) := by
  intro n
  induction n with
  | zero => intro i _ h; omega
  | succ n ih =>
    intro i hi hn
    rw [l_impl_Alive_3]
    unfold j_impl_Alive_5
    rcases Nat.lt_or_ge i way.length with h | h
    · rw [dlt_t h]
      simp only [cond_true]
      rw [if_pos ⟨by omega, by omega⟩, if_pos (hin _ (gt_mem h)), drop_two h, iAdd1 (by omega), ← gt_nat h]
      rcases Nat.lt_or_ge (i + 1) way.length with h2 | h2
      · rw [dlt_t h2, drop_two h2, ← gt_nat h2]
        simp only [cond_true]
        rw [if_pos (hin _ (gt_mem h)), if_pos ⟨by omega, by omega⟩, if_pos (hin _ (gt_mem h2)), ih (i + 1) h (by omega), drop_two h2, ← gt_nat h2, aliveW]
        generalize gt way ((i + 1 : Nat) : Int) = y
        generalize gt way (i : Int) = x
        by_cases c1 : (gt l x).fSt = 1
        · by_cases c2 : (gt l x).fUpEp = (gt l y).fEp
          · simp [c1, c2]
          · rw [bne_t c2, beq_f c2]; simp [c1]
        · rw [bne_t c1, beq_f c1]; simp
      · rw [dlt_f h2, ih (i + 1) h (by omega), show way.drop (i + 1) = [] from List.drop_eq_nil_of_le h2]
        simp only [cond_false, aliveW]
        by_cases c1 : (gt l (gt way (i : Int))).fSt = 1
        · simp [c1]
        · rw [bne_t c1, beq_f c1]; simp
    · rw [dlt_f h, show way.drop i = [] from List.drop_eq_nil_of_le h]
      simp only [cond_false, aliveW, Bool.true_and]
      exact final_ok hin hlen
theorem l9In_eq {l : List T_impl_Node} (w : Wf_Limpl_Node l) {x y : Int} (hx : 0 ≤ x ∧ x < (l.length : Int)) (hy : 0 ≤ y ∧ y < (l.length : Int)) (h : iSub .i64 (gt l x).fUp 1 = y) : m_spec_l9In K l x = some (((gt l y).fSt == 1) && ((gt l y).fEp == (gt l x).fUpEp)) := by
  have hl := wf_len w.2.1 (by decide)
  unfold m_spec_l9In
  rw [if_pos hx, l9Place_eq]
  simp only [Option.bind_some]
  have hr := wf_i64.1 (w.1 _ (gt_memI hx.1 hx.2)).2.2.2.1
  have hp : 1 ≤ (gt l x).fUp ∧ (gt l x).fUp ≤ (l.length : Int) := by
    unfold iSub at h
    rw [IntKind.wrap_i64] at h
    omega
  rw [decide_eq_true hp, h]
  simp only [cond_true]
  rw [if_pos hy, if_pos hy, if_pos hx]
  cases (gt l y).fSt == 1 <;> rfl
theorem aliveW_head {l : List T_impl_Node} {y : Int} {r : List Int} (h : (gt l y).fSt ≠ 1) : aliveW l (y :: r) = false := by
  cases r with
  | nil => simp [aliveW, h]
  | cons z r => simp [aliveW, h]
theorem alive_spec {l : List T_impl_Node} (w : Wf_Limpl_Node l) {way : List Int} (hin : ∀ x ∈ way, 0 ≤ x ∧ x < (l.length : Int)) (hlen : way.length ≤ 140737488355327) : ∀ (n i : Nat), chainL l (way.drop i) → i ≤ way.length → way.length - i < n → l_spec_Alive_3 K l way n (i : Int) = some (aliveW l (way.drop i) && lastUp l way) := by
  intro n
  induction n with
  | zero => intro i _ _ h; omega
  | succ n ih =>
    intro i hch hi hn
    rw [l_spec_Alive_3]
    unfold j_spec_Alive_5
    rcases Nat.lt_or_ge i way.length with h | h
    · rw [dlt_t h]
      simp only [cond_true]
      rw [drop_two h] at hch
      rw [if_pos ⟨by omega, by omega⟩, if_pos (hin _ (gt_mem h)), drop_two h, iAdd1 (by omega), ← gt_nat h]
      rcases Nat.lt_or_ge (i + 1) way.length with h2 | h2
      · rw [drop_two h2] at hch
        have hc1 := hch.1
        rw [← gt_nat h, ← gt_nat h2] at hc1
        rw [dlt_t h2, drop_two h2, ← gt_nat h2]
        simp only [cond_true]
        rw [if_pos ⟨by omega, by omega⟩, l9In_eq w (hin _ (gt_mem h)) (hin _ (gt_mem h2)) hc1, ih (i + 1) (by rw [drop_two h2]; exact hch.2) h (by omega), drop_two h2, ← gt_nat h2, aliveW]
        generalize gt way ((i + 1 : Nat) : Int) = y
        generalize gt way (i : Int) = x
        by_cases c1 : (gt l x).fSt = 1
        · by_cases c3 : (gt l y).fSt = 1
          · by_cases c2 : (gt l x).fUpEp = (gt l y).fEp
            · simp [c1, c2, c3]
            · have c2' : ¬ (gt l y).fEp = (gt l x).fUpEp := fun e => c2 e.symm
              rw [beq_f c2, beq_f c2']; simp [c1]
          · rw [aliveW_head c3, beq_f c3]
            simp [c1]
        · rw [bne_t c1, beq_f c1]; simp
      · rw [dlt_f h2, ih (i + 1) (by rw [List.drop_eq_nil_of_le h2]; trivial) h (by omega), show way.drop (i + 1) = [] from List.drop_eq_nil_of_le h2]
        simp only [cond_false, aliveW]
        by_cases c1 : (gt l (gt way (i : Int))).fSt = 1
        · simp [c1]
        · rw [bne_t c1, beq_f c1]; simp
    · rw [dlt_f h, show way.drop i = [] from List.drop_eq_nil_of_le h]
      simp only [cond_false, aliveW, Bool.true_and]
      exact final_ok hin hlen
def aliveL (l : List T_impl_Node) (k : Int) : Bool := aliveW l (riseL l l.length k) && lastUp l (riseL l l.length k)
include hK in
theorem alive_spec0 {l : List T_impl_Node} (w : Wf_Limpl_Node l) (k : Int) (hk : -9223372036854775808 ≤ k ∧ k ≤ 9223372036854775807) : m_spec_Alive K l k = some (aliveL l k) := by
  have hb := wf_len w.2.1 (by decide)
  have hr := rise_len (l := l) l.length k
  unfold m_spec_Alive
  rw [rise_spec0 hK w k hk]
  exact alive_spec w (rise_in _ _) (by omega) K 0 (rise_chain _ _) (Nat.zero_le _) (by omega)
include hK in
theorem alive_impl0 {l : List T_impl_Node} (w : Wf_Limpl_Node l) (k : Int) : m_impl_Alive K l k = some (aliveL l k) := by
  have hb := wf_len w.2.1 (by decide)
  have hr := rise_len (l := l) l.length k
  unfold m_impl_Alive
  rw [rise_impl0 hK w k]
  exact alive_impl (rise_in _ _) (by omega) K 0 (Nat.zero_le _) (by omega)

def okHandle (h : T_impl_Handle) : Bool := bif decide (h.fSlot ≥ 0) then decide (h.fGen ≥ 1) else false
theorem handleOk_spec (K : Nat) (h : T_impl_Handle) : m_spec_HandleOk K h = some (okHandle h) := by
  unfold m_spec_HandleOk okHandle; cases decide (h.fSlot ≥ 0) <;> rfl
theorem handleOk_impl (K : Nat) (h : T_impl_Handle) : m_impl_HandleOk K h = some (okHandle h) := by
  unfold m_impl_HandleOk okHandle; cases decide (h.fSlot ≥ 0) <;> rfl
def findL (l : List T_impl_Node) (h : T_impl_Handle) : Int × Int := bif okHandle h then (bif decide (placeL l h < 0) then (-1, 2) else (bif aliveL l (placeL l h) then (placeL l h, 0) else (-1, 2))) else (-1, 1)
include hK in
theorem findRoom_spec {w : T_impl_World} (hw : Wf_Limpl_Node w.fL) (h : T_impl_Handle) : m_spec_FindRoom K w h = some (findL w.fL h) := by
  have hb := wf_len hw.2.1 (by decide)
  unfold m_spec_FindRoom findL
  rw [handleOk_spec, placeOf_spec K hb]
  simp only [Option.bind_some]
  cases okHandle h with
  | false => rfl
  | true =>
    simp only [cond_true]
    cases e : decide (placeL w.fL h < 0) with
    | true => rfl
    | false =>
      have h1 := placeL_in (of_decide_eq_false e)
      simp only [cond_false]
      rw [alive_spec0 hK hw _ ⟨by omega, by omega⟩]
      simp only [Option.bind_some]
      cases aliveL w.fL (placeL w.fL h) <;> rfl
include hK in
theorem findRoom_impl {w : T_impl_World} (hw : Wf_Limpl_Node w.fL) (h : T_impl_Handle) : m_impl_FindRoom K w h = some (findL w.fL h) := by
  have hb := wf_len hw.2.1 (by decide)
  unfold m_impl_FindRoom findL
  rw [handleOk_impl, placeOf_impl K hb]
  simp only [Option.bind_some]
  cases okHandle h with
  | false => rfl
  | true =>
    simp only [cond_true]
    cases e : decide (placeL w.fL h < 0) with
    | true => rfl
    | false =>
      simp only [cond_false]
      rw [alive_impl0 hK hw]
      simp only [Option.bind_some]
      cases aliveL w.fL (placeL w.fL h) <;> rfl
theorem findL_in {l : List T_impl_Node} {h : T_impl_Handle} (h0 : (findL l h).2 = 0) : 0 ≤ (findL l h).1 ∧ (findL l h).1 < (l.length : Int) := by
  unfold findL at *
  cases e1 : okHandle h with
  | false => rw [e1] at h0; simp at h0
  | true =>
    rw [e1] at h0
    simp only [cond_true] at *
    cases e : decide (placeL l h < 0) with
    | true => rw [e] at h0; simp at h0
    | false =>
      rw [e] at h0
      simp only [cond_false] at *
      cases e2 : aliveL l (placeL l h) with
      | false => rw [e2] at h0; simp at h0
      | true => exact placeL_in (of_decide_eq_false e)
end

/-! ### Worlds are marked -/
def Res {β : Type} (o : Option (Int × List β)) (c m : Nat) : Prop := ∃ v', o = some ((c : Int), v') ∧ v'.length = m
theorem stpE {β : Type} [Inhabited β] {v : List β} {i : Nat} {x : β} {F : List β → Option (Int × List β)} {c m : Nat} (h : i < v.length)
    (hF : ∀ v', v'.length = v.length → gt v' (i : Int) = x → v'.drop (i + 1) = v.drop (i + 1) → Res (F v') c m) : Res (letM (v.set (i : Int).toNat x) F) c m :=
  hF _ (by simp) (by rw [gt_nat (by simpa using h)]; simp) (by simp [List.drop_set])
theorem stp {β : Type} [Inhabited β] {v : List β} {i : Nat} {x : β} {F : List β → Option (Int × List β)} {c m : Nat} (h : i < v.length)
    (hF : ∀ v', v'.length = v.length → gt v' (i : Int) = x → v'.drop (i + 1) = v.drop (i + 1) → Res (F v') c m) : Res (letM (v.set (i : Int).toNat x) fun v' => if (0 : Int) ≤ (i : Int) ∧ (i : Int) < (v'.length : Int) then F v' else none) c m :=
  stpE h fun v' l g d => by rw [if_pos ⟨by omega, by omega⟩]; exact hF v' l g d
theorem iAddN {k : Nat} (h : k ≤ 140737488355328) : iAdd .i64 (k : Int) 1 = ((k + 1 : Nat) : Int) := iAdd1 h
theorem drop_gt {α : Type} [Inhabited α] {l : List α} {i : Nat} (h : i < l.length) : l.drop i = gt l (i : Int) :: l.drop (i + 1) := by
  rw [gt_nat h, List.drop_eq_getElem_cons h]
theorem mk_ok {β : Type} [Inhabited β] (c : β → Nat) (L : Nat → Int → Int → List β → Option (Int × List β))
    (h0 : ∀ n k i (v : List β), v.length ≤ i → L (n + 1) k (i : Int) v = some (k, v))
    (hL : ∀ n (k i : Nat) (v : List β) b, i < v.length → v.length ≤ 140737488355327 → k + c (gt v (i : Int)) ≤ 140737488355327 → (∀ v', v'.length = v.length → v'.drop (i + 1) = v.drop (i + 1) → Res (L n ((k + c (gt v (i : Int)) : Nat) : Int) ((i + 1 : Nat) : Int) v') b v.length) → Res (L (n + 1) (k : Int) (i : Int) v) b v.length) :
    ∀ (n k i : Nat) (v : List β), i ≤ v.length → v.length ≤ 140737488355327 → v.length - i < n → k + ((v.drop i).map c).sum ≤ 140737488355327 → Res (L n (k : Int) (i : Int) v) (k + ((v.drop i).map c).sum) v.length := by
  intro n
  induction n with
  | zero => intro k i v _ _ h; omega
  | succ n ih =>
    intro k i v hi hv hn hk
    rcases Nat.lt_or_ge i v.length with h | h
    · rw [drop_gt h, List.map_cons, List.sum_cons] at hk ⊢
      refine hL n k i v _ h hv (by omega) fun v' hl hd => ?_
      have := ih (k + c (gt v (i : Int))) (i + 1) v' (by omega) (by omega) (by omega) (by rw [hd]; omega)
      rw [hd, hl, Nat.add_assoc] at this
      exact this
    · rw [h0 _ _ _ _ h, List.drop_eq_nil_of_le h]
      exact ⟨v, by simp, rfl⟩
section
variable {K : Nat} (hK : 281474976710656 ≤ K)
include hK
def markI (n : Nat) (k : Nat) : List Int := (List.range n).map fun i => ((k + i : Nat) : Int)
omit hK in
theorem markI_len (n k : Nat) : (markI n k).length = n := by simp [markI]
omit hK in
theorem markI_loop (k : Nat) : ∀ (n i : Nat) (v : List Int), k + v.length ≤ 140737488355327 → i ≤ v.length → (∀ j, j < i → v[j]? = (markI v.length k)[j]?) → v.length - i < n →
    l_laws_markIntSW_4 K n ((k + i : Nat) : Int) (i : Int) v = some (((k + v.length : Nat) : Int), markI v.length k) := by
  intro n
  induction n with
  | zero => intro i v _ _ _ h; omega
  | succ n ih =>
    intro i v hl hi hj hn
    rw [l_laws_markIntSW_4]
    rcases Nat.lt_or_ge i v.length with h | h
    · rw [dlt_t h]
      simp only [cond_true]
      have e : iAdd .i64 ((k + i : Nat) : Int) 1 = ((k + (i + 1) : Nat) : Int) := by unfold iAdd; rw [i64_id (by omega) (by omega)]; omega
      rw [if_pos ⟨by omega, by omega⟩, e, iAdd1 (i := i) (by omega)]
      have := ih (i + 1) (v.set (i : Int).toNat ((k + i : Nat) : Int)) (by simpa using hl) (by simp only [List.length_set]; omega) (fun j hj2 => by
        rw [Int.toNat_natCast, List.getElem?_set, List.length_set]
        by_cases e : i = j
        · subst e
          rw [if_pos rfl, if_pos h]
          simp [markI, h]
        · rw [if_neg e]; exact hj j (by omega)) (by simp only [List.length_set]; omega)
      rw [this]
      simp
    · rw [dlt_f h]
      have hia : i = v.length := by omega
      subst hia
      have e : v = markI v.length k := by
        refine List.ext_getElem? fun j => ?_
        rcases Nat.lt_or_ge j v.length with hja | hja
        · exact hj j hja
        · rw [List.getElem?_eq_none (by omega), List.getElem?_eq_none (by rw [markI_len]; omega)]
      simp only [cond_false]
      rw [← e]
theorem markI_ok (a : List Int) (k : Nat) (hk : k + a.length ≤ 140737488355327) : m_laws_markIntSW K a (k : Int) = some (((k + a.length : Nat) : Int), markI a.length k) := by
  unfold m_laws_markIntSW
  exact markI_loop k K 0 a hk (Nat.zero_le _) (fun j hj => by omega) (by omega)
theorem stpI {β : Type} {a : List Int} {k : Nat} {F : Int × List Int → Option (Int × List β)} {c m : Nat} (hk : k + a.length ≤ 140737488355327)
    (hF : ∀ l, l.length = a.length → Res (F (((k + a.length : Nat) : Int), l)) c m) : Res ((m_laws_markIntSW K a (k : Int)).bind fun r => if r.2.length = a.length then F r else none) c m := by
  rw [markI_ok hK a k hk]
  show Res (if (markI a.length k).length = a.length then _ else none) c m
  rw [if_pos (markI_len _ _)]
  exact hF _ (markI_len _ _)
def one {α : Type} (_ : α) : Nat := 1
omit hK in
theorem sum_one {α : Type} (l : List α) : (l.map one).sum = l.length := by
  induction l with
  | nil => rfl
  | cons a l ih => simp only [List.map_cons, List.sum_cons, List.length_cons, ih, one]; omega
theorem markB_ok (a : List Int) (k : Nat) (hk : k + a.length ≤ 140737488355327) : Res (m_laws_markByteSW K a (k : Int)) (k + a.length) a.length := by
  unfold m_laws_markByteSW
  have := mk_ok one (l_laws_markByteSW_4 K) (fun n k i v h => by rw [l_laws_markByteSW_4, dlt_f h]; rfl)
    (fun n k i v b h hv hk hr => by
      have hk2 : k + 1 ≤ 140737488355327 := hk
      rw [l_laws_markByteSW_4, dlt_t h]
      simp only [cond_true]
      rw [if_pos ⟨by omega, by omega⟩, iAddN (by omega), iAddN (by omega)]
      refine hr _ (by simp) (by simp [List.drop_set]))
    K k 0 a (Nat.zero_le _) (by omega) (by omega) (by rw [sum_one]; exact hk)
  rw [sum_one] at this
  exact this
def three {α : Type} (_ : α) : Nat := 3
omit hK in
theorem sum_three {α : Type} (l : List α) : (l.map three).sum = 3 * l.length := by
  induction l with
  | nil => rfl
  | cons a l ih => simp only [List.map_cons, List.sum_cons, List.length_cons, ih, three]; omega
theorem markT_ok (a : List T_impl_Thing) (k : Nat) (hk : k + 3 * a.length ≤ 140737488355327) : Res (m_laws_markThingSW K a (k : Int)) (k + 3 * a.length) a.length := by
  unfold m_laws_markThingSW
  have := mk_ok three (l_laws_markThingSW_4 K) (fun n k i v h => by rw [l_laws_markThingSW_4, dlt_f h]; rfl)
    (fun n k i v b h hv hk hr => by
      have hk2 : k + 3 ≤ 140737488355327 := hk
      rw [l_laws_markThingSW_4, dlt_t h]
      simp only [cond_true]
      rw [if_pos ⟨by omega, by omega⟩]
      refine stp h fun v1 l1 _ d1 => stp (by omega) fun v2 l2 _ d2 => stpE (by omega) fun v3 l3 _ d3 => ?_
      simp (disch := omega) only [iAddN]
      exact hr _ (by omega) (by rw [d3, d2, d1]))
    K k 0 a (Nat.zero_le _) (by omega) (by omega) (by rw [sum_three]; exact hk)
  rw [sum_three] at this
  exact this
theorem stpT {β : Type} {a : List T_impl_Thing} {k : Nat} {F : Int × List T_impl_Thing → Option (Int × List β)} {c m : Nat} (hk : k + 3 * a.length ≤ 140737488355327)
    (hF : ∀ l, l.length = a.length → Res (F (((k + 3 * a.length : Nat) : Int), l)) c m) : Res ((m_laws_markThingSW K a (k : Int)).bind fun r => if r.2.length = a.length then F r else none) c m := by
  obtain ⟨l, h1, h2⟩ := markT_ok hK a k hk
  rw [h1]
  show Res (if l.length = a.length then _ else none) c m
  rw [if_pos h2]
  exact hF _ h2
def cellsN (x : T_impl_Node) : Nat := 10 + x.fChunks.length + 3 * x.fThings.length + x.fTags.length
theorem markN_ok (a : List T_impl_Node) (k : Nat) (ha : a.length ≤ 140737488355327) (hk : k + (a.map cellsN).sum ≤ 140737488355327) : Res (m_laws_markNodeSW K a (k : Int)) (k + (a.map cellsN).sum) a.length := by
  unfold m_laws_markNodeSW
  refine mk_ok cellsN (l_laws_markNodeSW_4 K) (fun n k i v h => by rw [l_laws_markNodeSW_4, dlt_f h]; rfl)
    (fun n k i v b h hv hk hr => by
      have hk2 : k + (10 + (gt v (i : Int)).fChunks.length + 3 * (gt v (i : Int)).fThings.length + (gt v (i : Int)).fTags.length) ≤ 140737488355327 := hk
      rw [l_laws_markNodeSW_4, dlt_t h]
      simp only [cond_true]
      rw [if_pos ⟨by omega, by omega⟩]
      refine stp h fun v1 l1 g1 d1 => stp (by omega) fun v2 l2 g2 d2 => stp (by omega) fun v3 l3 g3 d3 => stp (by omega) fun v4 l4 g4 d4 => ?_
      refine stp (by omega) fun v5 l5 g5 d5 => stp (by omega) fun v6 l6 g6 d6 => stp (by omega) fun v7 l7 g7 d7 => stp (by omega) fun v8 l8 g8 d8 => ?_
      have c8 : (gt v8 (i : Int)).fChunks = (gt v (i : Int)).fChunks := by simp only [g8, g7, g6, g5, g4, g3, g2, g1]
      have t8 : (gt v8 (i : Int)).fThings = (gt v (i : Int)).fThings := by simp only [g8, g7, g6, g5, g4, g3, g2, g1]
      have s8 : (gt v8 (i : Int)).fTags = (gt v (i : Int)).fTags := by simp only [g8, g7, g6, g5, g4, g3, g2, g1]
      have e8 : (iAdd .i64 (iAdd .i64 (iAdd .i64 (iAdd .i64 (iAdd .i64 (iAdd .i64 (iAdd .i64 (iAdd .i64 (k : Int) 1) 1) 1) 1) 1) 1) 1) 1) = ((k + 8 : Nat) : Int) := by
        simp (disch := omega) only [iAddN]
      rw [e8]
      refine stpI hK (by rw [c8]; omega) fun q1 m1 => ?_
      rw [c8] at m1 ⊢
      refine stp (by omega) fun v9 l9 g9 d9 => stp (by omega) fun v10 l10 g10 d10 => stp (by omega) fun v11 l11 g11 d11 => ?_
      have t11 : (gt v11 (i : Int)).fThings = (gt v (i : Int)).fThings := by simp only [g11, g10, g9, t8]
      have s11 : (gt v11 (i : Int)).fTags = (gt v (i : Int)).fTags := by simp only [g11, g10, g9, s8]
      rw [iAddN (by omega), iAddN (by omega)]
      refine stpT hK (by rw [t11]; omega) fun q2 m2 => ?_
      rw [t11] at m2 ⊢
      refine stp (by omega) fun v12 l12 g12 d12 => ?_
      have s12 : (gt v12 (i : Int)).fTags = (gt v (i : Int)).fTags := by simp only [g12, s11]
      refine stpI hK (by rw [s12]; omega) fun q3 m3 => ?_
      rw [s12]
      refine stpE (by omega) fun v13 l13 g13 d13 => ?_
      rw [iAddN (by omega)]
      have e : k + 8 + (gt v (i : Int)).fChunks.length + 1 + 1 + 3 * (gt v (i : Int)).fThings.length + (gt v (i : Int)).fTags.length = k + cellsN (gt v (i : Int)) := by unfold cellsN; omega
      simp only [e]
      exact hr _ (by omega) (by rw [d13, d12, d11, d10, d9, d8, d7, d6, d5, d4, d3, d2, d1]))
    K k 0 a (Nat.zero_le _) (by omega) (by omega) hk
def cellsW (x : T_impl_Waste) : Nat := 3 + x.fTags.length + x.fChunks.length
theorem markW_ok (a : List T_impl_Waste) (k : Nat) (ha : a.length ≤ 140737488355327) (hk : k + (a.map cellsW).sum ≤ 140737488355327) : Res (m_laws_markWasteSW K a (k : Int)) (k + (a.map cellsW).sum) a.length := by
  unfold m_laws_markWasteSW
  refine mk_ok cellsW (l_laws_markWasteSW_4 K) (fun n k i v h => by rw [l_laws_markWasteSW_4, dlt_f h]; rfl)
    (fun n k i v b h hv hk hr => by
      have hk2 : k + (3 + (gt v (i : Int)).fTags.length + (gt v (i : Int)).fChunks.length) ≤ 140737488355327 := hk
      rw [l_laws_markWasteSW_4, dlt_t h]
      simp only [cond_true]
      rw [if_pos ⟨by omega, by omega⟩]
      refine stp h fun v1 l1 g1 d1 => stp (by omega) fun v2 l2 g2 d2 => ?_
      have c8 : (gt v2 (i : Int)).fTags = (gt v (i : Int)).fTags := by simp only [g2, g1]
      have t8 : (gt v2 (i : Int)).fChunks = (gt v (i : Int)).fChunks := by simp only [g2, g1]
      have e8 : iAdd .i64 (iAdd .i64 (k : Int) 1) 1 = ((k + 2 : Nat) : Int) := by simp (disch := omega) only [iAddN]
      rw [e8]
      refine stpI hK (by rw [c8]; omega) fun q1 m1 => ?_
      rw [c8] at m1 ⊢
      refine stp (by omega) fun v3 l3 g3 d3 => ?_
      have t3 : (gt v3 (i : Int)).fChunks = (gt v (i : Int)).fChunks := by simp only [g3, t8]
      refine stpI hK (by rw [t3]; omega) fun q2 m2 => ?_
      rw [t3]
      refine stp (by omega) fun v4 l4 g4 d4 => stpE (by omega) fun v5 l5 g5 d5 => ?_
      rw [iAddN (by omega), iAddN (by omega)]
      have e : k + 2 + (gt v (i : Int)).fTags.length + (gt v (i : Int)).fChunks.length + 1 = k + cellsW (gt v (i : Int)) := by unfold cellsW; omega
      simp only [e]
      exact hr _ (by omega) (by rw [d5, d4, d3, d2, d1]))
    K k 0 a (Nat.zero_le _) (by omega) (by omega) hk
def cellsP (p : T_impl_Pool) : Nat := p.fMem.length + p.fSt.length + p.fOwn.length
def cells (w : T_impl_World) : Nat := cellsP w.fP + (w.fL.map cellsN).sum + (w.fQ.map cellsW).sum + w.fLog.length
theorem markP_ok (p : T_impl_Pool) (k : Nat) (hk : k + cellsP p ≤ 140737488355327) : ∃ a b c, m_laws_markPoolW K p (k : Int) = some (((k + cellsP p : Nat) : Int), a, b, c) ∧ a.length = p.fMem.length ∧ b.length = p.fSt.length ∧ c.length = p.fOwn.length := by
  unfold cellsP at hk ⊢
  unfold m_laws_markPoolW
  obtain ⟨a, h1, h2⟩ := markB_ok hK p.fMem k (by omega)
  rw [h1]
  simp only [Option.bind_some]
  rw [if_pos h2, markI_ok hK _ _ (by omega)]
  simp only [Option.bind_some]
  rw [if_pos (markI_len _ _), markI_ok hK _ _ (by omega)]
  simp only [Option.bind_some]
  rw [if_pos (markI_len _ _)]
  exact ⟨a, markI p.fSt.length (k + p.fMem.length), markI p.fOwn.length (k + p.fMem.length + p.fSt.length), by simp only [Nat.add_assoc], h2, markI_len _ _, markI_len _ _⟩
theorem markWorld_ok (w : T_impl_World) (hL : w.fL.length ≤ 140737488355327) (hQ : w.fQ.length ≤ 140737488355327) (k : Nat) (hk : k + cells w ≤ 140737488355327) : ∃ a b c d e f, m_laws_markWorldW K w (k : Int) = some (((k + cells w : Nat) : Int), a, b, c, d, e, f) ∧ (a.length = w.fP.fMem.length ∧ b.length = w.fP.fSt.length ∧ c.length = w.fP.fOwn.length ∧ d.length = w.fL.length ∧ e.length = w.fQ.length ∧ f.length = w.fLog.length) := by
  unfold cells at hk ⊢
  unfold m_laws_markWorldW
  obtain ⟨a, b, c, h1, h2, h3, h4⟩ := markP_ok hK w.fP k (by omega)
  rw [h1]
  simp only [Option.bind_some]
  rw [if_pos ⟨h2, h3, h4⟩]
  obtain ⟨d, h5, h6⟩ := markN_ok hK w.fL _ hL (show (k + cellsP w.fP) + _ ≤ _ by omega)
  rw [h5]
  simp only [Option.bind_some]
  rw [if_pos h6]
  obtain ⟨e, h7, h8⟩ := markW_ok hK w.fQ _ hQ (show (k + cellsP w.fP + (w.fL.map cellsN).sum) + _ ≤ _ by omega)
  rw [h7]
  simp only [Option.bind_some]
  rw [if_pos h8, markI_ok hK _ _ (by omega)]
  simp only [Option.bind_some]
  rw [if_pos (markI_len _ _)]
  exact ⟨a, b, c, d, e, markI w.fLog.length (k + cellsP w.fP + (w.fL.map cellsN).sum + (w.fQ.map cellsW).sum), by simp only [Nat.add_assoc], h2, h3, h4, h6, h8, markI_len _ _⟩
end
/-! ### The measure bounds the number of cells -/
theorem iSubN {y : Int} {n : Nat} (h0 : 0 ≤ y) (h1 : y ≤ 1048576) (hn : n ≤ 140737488355327) : iSub .i64 y (n : Int) = y - n := by
  unfold iSub; exact i64_id (by omega) (by omega)
theorem sz1_b {n : Nat} {y r : Int} (hn : n ≤ 140737488355327) (h0 : 0 ≤ y) (h1 : y ≤ 1048576) (h : (bif (decide ((iSub .i64 y (n : Int)) < 0)) then some (-1) else some (iSub .i64 y (n : Int))) = some r) (hr : 0 ≤ r) : r + n = y := by
  rw [iSubN h0 h1 hn] at h
  cases e : decide (y - (n : Int) < 0) with
  | true => rw [e] at h; simp at h; omega
  | false => rw [e] at h; simp at h; omega
theorem bnd_c {f : Option Int} {g : Int → Option Int} {r : Int} (h : f.bind (fun q => bif decide (q < 0) then some (-1) else g q) = some r) (hr : 0 ≤ r) : ∃ q, f = some q ∧ 0 ≤ q ∧ g q = some r := by
  cases f with
  | none => cases h
  | some q =>
    simp only [Option.bind_some] at h
    cases e : decide (q < 0) with
    | true => rw [e] at h; simp at h; omega
    | false => rw [e] at h; exact ⟨q, rfl, by simpa using e, h⟩
theorem sz_b {α : Type} [Inhabited α] (a : List α) (f : α → Int → Option Int) (c : α → Nat) (hf : ∀ x ∈ a, ∀ y r, 0 ≤ y → y ≤ 1048576 → f x y = some r → 0 ≤ r → r + c x = y) (ha : a.length ≤ 140737488355327)
    (L : Nat → Int → Int → Option Int) (h00 : ∀ y i, L 0 y i = none) (hL : ∀ n y i, L (n + 1) y i = bif decide (i < (a.length : Int)) then (if (0 : Int) ≤ i ∧ i < (a.length : Int) then (f (gt a i) y).bind (fun r => bif decide (r < 0) then some (-1) else L n r (iAdd .i64 i 1)) else none) else some y) :
    ∀ (n i : Nat) (y r : Int), i ≤ a.length → 0 ≤ y → y ≤ 1048576 → L n y (i : Int) = some r → 0 ≤ r → r + (((a.drop i).map c).sum : Nat) = y := by
  intro n
  induction n with
  | zero => intro i y r _ _ _ h; rw [h00] at h; cases h
  | succ n ih =>
    intro i y r hi h0 h1 h hr
    rw [hL] at h
    rcases Nat.lt_or_ge i a.length with hl | hl
    · rw [dlt_t hl] at h
      simp only [cond_true] at h
      rw [if_pos ⟨by omega, by omega⟩, iAdd1 (by omega)] at h
      obtain ⟨q, q1, q2, q3⟩ := bnd_c h hr
      have e1 := hf _ (gt_mem hl) _ _ h0 h1 q1 q2
      have e2 := ih (i + 1) q r hl q2 (by omega) q3 hr
      rw [drop_gt hl, List.map_cons, List.sum_cons]
      omega
    · rw [dlt_f hl] at h
      simp only [cond_false, Option.some.injEq] at h
      rw [List.drop_eq_nil_of_le hl]
      simp
      omega
def szN (x : T_laws_Node) : Nat := x.fChunks.length + x.fThings.length + x.fTags.length
def szW (x : T_laws_Waste) : Nat := x.fTags.length + x.fChunks.length
theorem szNode_b {K : Nat} {a : T_laws_Node} (w : Wf_laws_Node a) {y r : Int} (h0 : 0 ≤ y) (h1 : y ≤ 1048576) (h : m_laws_szNode K a y = some r) (hr : 0 ≤ r) : r + szN a = y := by
  obtain ⟨_, _, _, _, _, _, _, _, w1, _, _, w2, w3⟩ := w
  unfold m_laws_szNode at h
  obtain ⟨q, q1, q2, h⟩ := bnd_c h hr
  obtain ⟨p, p1, p2, h⟩ := bnd_c h hr
  obtain ⟨s, s1, s2, h⟩ := bnd_c h hr
  have e1 := sz1_b (wf_len w1.2.1 (by decide)) h0 h1 q1 q2
  have e2 := sz1_b (wf_len w2.2.1 (by decide)) q2 (by omega) p1 p2
  have e3 := sz1_b (wf_len w3.2.1 (by decide)) p2 (by omega) s1 s2
  injection h with h
  unfold szN
  omega
theorem szWaste_b {K : Nat} {a : T_laws_Waste} (w : Wf_laws_Waste a) {y r : Int} (h0 : 0 ≤ y) (h1 : y ≤ 1048576) (h : m_laws_szWaste K a y = some r) (hr : 0 ≤ r) : r + szW a = y := by
  obtain ⟨_, _, w1, w2, _⟩ := w
  unfold m_laws_szWaste at h
  obtain ⟨q, q1, q2, h⟩ := bnd_c h hr
  obtain ⟨p, p1, p2, h⟩ := bnd_c h hr
  have e1 := sz1_b (wf_len w1.2.1 (by decide)) h0 h1 q1 q2
  have e2 := sz1_b (wf_len w2.2.1 (by decide)) q2 (by omega) p1 p2
  injection h with h
  unfold szW
  omega
theorem sz2_b {n : Nat} {y r : Int} {o : Int → Option Int} (hn : n ≤ 140737488355327) (h0 : 0 ≤ y) (h1 : y ≤ 1048576) (h : (bif (decide ((iSub .i64 y (n : Int)) < 0)) then some (-1) else o (iSub .i64 y (n : Int))) = some r) (hr : 0 ≤ r) : 0 ≤ y - n ∧ o (y - n) = some r := by
  rw [iSubN h0 h1 hn] at h
  cases e : decide (y - (n : Int) < 0) with
  | true => rw [e] at h; simp at h; omega
  | false => rw [e] at h; exact ⟨by simpa using e, h⟩
theorem szWorld_b {K : Nat} {a : T_laws_World} (w : Wf_laws_World a) {r : Int} (h : m_laws_szWorld K a 1048576 = some r) (hr : 0 ≤ r) : a.fP.fMem.length + a.fP.fSt.length + a.fP.fOwn.length + (a.fL.length + (a.fL.map szN).sum) + (a.fQ.length + (a.fQ.map szW).sum) + a.fLog.length ≤ 1048576 := by
  obtain ⟨_, ⟨w1, w2, w3⟩, w4, w5, w6⟩ := w
  unfold m_laws_szWorld at h
  obtain ⟨q, q1, q2, h⟩ := bnd_c h hr
  unfold m_laws_szPool at q1
  obtain ⟨p1, a1, b1, q1⟩ := bnd_c q1 q2
  obtain ⟨p2, a2, b2, q1⟩ := bnd_c q1 q2
  obtain ⟨p3, a3, b3, q1⟩ := bnd_c q1 q2
  have e1 := sz1_b (wf_len w1.2.1 (by decide)) (by omega) (by omega) a1 b1
  have e2 := sz1_b (wf_len w2.2.1 (by decide)) b1 (by omega) a2 b2
  have e3 := sz1_b (wf_len w3.2.1 (by decide)) b2 (by omega) a3 b3
  injection q1 with q1
  obtain ⟨s, s1, s2, h⟩ := bnd_c h hr
  obtain ⟨t, t1, t2, h⟩ := bnd_c h hr
  obtain ⟨u, u1, u2, h⟩ := bnd_c h hr
  injection h with h
  unfold m_laws_szNodeS at s1
  obtain ⟨z1, s1⟩ := sz2_b (o := fun z => l_laws_szNodeS_4 K a.fL K z 0) (wf_len w4.2.1 (by decide)) q2 (by omega) s1 s2
  have e4 := sz_b a.fL (m_laws_szNode K) szN (fun x hx y r h0 h1 h hr => szNode_b (w4.1 x hx) h0 h1 h hr) (wf_len w4.2.1 (by decide)) (l_laws_szNodeS_4 K a.fL) (fun _ _ => rfl) (fun _ _ _ => rfl) K 0 _ _ (Nat.zero_le _) z1 (by omega) s1 s2
  rw [List.drop_zero] at e4
  unfold m_laws_szWasteS at t1
  obtain ⟨z2, t1⟩ := sz2_b (o := fun z => l_laws_szWasteS_4 K a.fQ K z 0) (wf_len w5.2.1 (by decide)) s2 (by omega) t1 t2
  have e5 := sz_b a.fQ (m_laws_szWaste K) szW (fun x hx y r h0 h1 h hr => szWaste_b (w5.1 x hx) h0 h1 h hr) (wf_len w5.2.1 (by decide)) (l_laws_szWasteS_4 K a.fQ) (fun _ _ => rfl) (fun _ _ _ => rfl) K 0 _ _ (Nat.zero_le _) z2 (by omega) t1 t2
  rw [List.drop_zero] at e5
  have e6 := sz1_b (wf_len w6.2.1 (by decide)) t2 (by omega) u1 u2
  omega
theorem cellsN_cv (l : List T_laws_Node) : ((l.map cvNode).map cellsN).sum ≤ 13 * (l.length + (l.map szN).sum) := by
  induction l with
  | nil => exact Nat.le_refl _
  | cons x l ih =>
    simp only [List.map_cons, List.sum_cons, List.length_cons]
    have : cellsN (cvNode x) ≤ 13 * (1 + szN x) := by simp only [cellsN, cvNode, szN, List.length_map]; omega
    omega
theorem cellsW_cv (l : List T_laws_Waste) : ((l.map cvWaste).map cellsW).sum ≤ 13 * (l.length + (l.map szW).sum) := by
  induction l with
  | nil => exact Nat.le_refl _
  | cons x l ih =>
    simp only [List.map_cons, List.sum_cons, List.length_cons]
    have : cellsW (cvWaste x) ≤ 13 * (1 + szW x) := by simp only [cellsW, cvWaste, szW]; omega
    omega
theorem cells_b {K : Nat} {a : T_laws_World} (w : Wf_laws_World a) {r : Int} (h : m_laws_szWorld K a 1048576 = some r) (hr : 0 ≤ r) : cells (cvWorld a) ≤ 13631488 := by
  have h1 := szWorld_b w h hr
  have h2 := cellsN_cv a.fL
  have h3 := cellsW_cv a.fQ
  show a.fP.fMem.length + a.fP.fSt.length + a.fP.fOwn.length + ((a.fL.map cvNode).map cellsN).sum + ((a.fQ.map cvWaste).map cellsW).sum + a.fLog.length ≤ _
  omega

theorem wf_cvL {a : T_laws_World} (w : Wf_laws_World a) : Wf_Limpl_Node (cvWorld a).fL := (wf_cvWorld w).2.2.1
section
variable {K : Nat} (hK : 281474976710656 ≤ K)
def kidsL (l : List T_impl_Node) : Nat → Int → List Int
  | 0, _ => []
  | n + 1, f => if 1 ≤ f ∧ f ≤ (l.length : Int) then (f - 1) :: kidsL l n (gt l (f - 1)).fNext else []
theorem kids_in {l : List T_impl_Node} : ∀ (n : Nat) (f : Int), ∀ x ∈ kidsL l n f, 0 ≤ x ∧ x < (l.length : Int) := by
  intro n
  induction n with
  | zero => intro f x hx; cases hx
  | succ n ih =>
    intro f x hx
    unfold kidsL at hx
    split at hx
    · rename_i h
      rcases List.mem_cons.1 hx with rfl | hx
      · omega
      · exact ih _ x hx
    · cases hx
theorem kids_len {l : List T_impl_Node} : ∀ (n : Nat) (f : Int), (kidsL l n f).length ≤ n := by
  intro n
  induction n with
  | zero => intro f; exact Nat.le_refl _
  | succ n ih =>
    intro f
    unfold kidsL
    split
    · simp only [List.length_cons]; have := ih (gt l (f - 1)).fNext; omega
    · exact Nat.zero_le _
theorem kids_spec {l : List T_impl_Node} (w : Wf_Limpl_Node l) : ∀ (n : Nat) (f : Int) (v : List Int), v.length ≤ l.length → l.length - v.length < n → l_spec_KidsOf_3 K l n f v = some (v ++ kidsL l (l.length - v.length) f) := by
  have hb : l.length * 152 ≤ 140737488355327 := wf_bytes w.2.1
  intro n
  induction n with
  | zero => intro f v _ h; omega
  | succ n ih =>
    intro f v hv hn
    rw [l_spec_KidsOf_3, l9Place_eq]
    simp only [Option.bind_some]
    by_cases hs : 1 ≤ f ∧ f ≤ (l.length : Int)
    · rw [decide_eq_true hs]
      simp only [cond_true]
      rcases Nat.lt_or_ge v.length l.length with h | h
      · have e : iSub .i64 f 1 = f - 1 := i64_id (by omega) (by omega)
        rw [dlt_t h, e]
        simp only [cond_true]
        have hl2 : (v ++ [f - 1]).length = v.length + 1 := by simp
        rw [if_pos ⟨by rw [hl2]; omega, by rw [hl2]; unfold maxLen; omega⟩, if_pos ⟨by omega, by omega⟩, ih _ _ (by rw [hl2]; omega) (by rw [hl2]; omega), hl2]
        obtain ⟨m, hm⟩ : ∃ m, l.length - v.length = m + 1 := ⟨l.length - v.length - 1, by omega⟩
        rw [hm, kidsL, if_pos hs, show l.length - (v.length + 1) = m from by omega]
        simp
      · rw [dlt_f h]
        rw [show l.length - v.length = 0 from by omega]
        simp [kidsL]
    · rw [decide_eq_false hs]
      have : kidsL l (l.length - v.length) f = [] := by
        cases l.length - v.length with
        | zero => rfl
        | succ m => rw [kidsL, if_neg hs]
      rw [this]
      simp
theorem kids_impl {l : List T_impl_Node} (w : Wf_Limpl_Node l) : ∀ (n : Nat) (f : Int) (v : List Int), -9223372036854775808 ≤ f ∧ f ≤ 9223372036854775807 → v.length ≤ l.length → l.length - v.length < n → l_impl_KidsOf_3 K l n v (iSub .i64 f 1) = some (v ++ kidsL l (l.length - v.length) f) := by
  have hb : l.length * 152 ≤ 140737488355327 := wf_bytes w.2.1
  intro n
  induction n with
  | zero => intro f v _ _ h; omega
  | succ n ih =>
    intro f v hf hv hn
    rw [l_impl_KidsOf_3, isSlot_eq K (by omega)]
    simp only [Option.bind_some]
    have e0 : decide (0 ≤ iSub .i64 f 1 ∧ iSub .i64 f 1 < (l.length : Int)) = decide (1 ≤ f ∧ f ≤ (l.length : Int)) := by
      rw [decide_eq_decide]
      unfold iSub
      rw [IntKind.wrap_i64]
      omega
    rw [e0]
    by_cases hs : 1 ≤ f ∧ f ≤ (l.length : Int)
    · rw [decide_eq_true hs]
      simp only [cond_true]
      rcases Nat.lt_or_ge v.length l.length with h | h
      · have e : iSub .i64 f 1 = f - 1 := i64_id (by omega) (by omega)
        rw [dlt_t h, e]
        simp only [cond_true]
        have hl2 : (v ++ [f - 1]).length = v.length + 1 := by simp
        have hx : -9223372036854775808 ≤ (gt l (f - 1)).fNext ∧ (gt l (f - 1)).fNext ≤ 9223372036854775807 := wf_i64.1 (w.1 _ (gt_memI (by omega) (by omega))).2.2.2.2.2.2.1
        rw [if_pos ⟨by rw [hl2]; omega, by rw [hl2]; unfold maxLen; omega⟩, if_pos ⟨by omega, by omega⟩, ih _ _ hx (by rw [hl2]; omega) (by rw [hl2]; omega), hl2]
        obtain ⟨m, hm⟩ : ∃ m, l.length - v.length = m + 1 := ⟨l.length - v.length - 1, by omega⟩
        rw [hm, kidsL, if_pos hs, show l.length - (v.length + 1) = m from by omega]
        simp
      · rw [dlt_f h]
        rw [show l.length - v.length = 0 from by omega]
        simp [kidsL]
    · rw [decide_eq_false hs]
      have : kidsL l (l.length - v.length) f = [] := by
        cases l.length - v.length with
        | zero => rfl
        | succ m => rw [kidsL, if_neg hs]
      rw [this]
      simp
def handL (l : List T_impl_Node) (k : Int) : T_impl_Handle := T_impl_Handle.mk k (gt l k).fGen
theorem handleAt_spec {l : List T_impl_Node} (hl : l.length ≤ 140737488355327) {k : Int} (h : 0 ≤ k ∧ k < (l.length : Int)) : m_spec_HandleAt K l k = some (handL l k) := by
  unfold m_spec_HandleAt
  rw [place_in K hl, decide_eq_true h]
  simp only [Option.bind_some, cond_true]
  rw [if_pos h]; rfl
theorem handleAt_impl {l : List T_impl_Node} (hl : l.length ≤ 140737488355327) {k : Int} (h : 0 ≤ k ∧ k < (l.length : Int)) : m_impl_HandleAt K l k = some (handL l k) := by
  unfold m_impl_HandleAt
  rw [isSlot_eq K hl, decide_eq_true h]
  simp only [Option.bind_some, cond_true]
  rw [if_pos h]; rfl
theorem hands_ok {l : List T_impl_Node} {ks : List Int} (hl : ks.length ≤ 140737488355328 / 16) (f : Int → Option T_impl_Handle) (hf : ∀ k ∈ ks, f k = some (handL l k))
    (L : Nat → List T_impl_Handle → Int → Option (List T_impl_Handle)) (hL : ∀ n v i, L (n + 1) v i = (bif (decide (i < (ks.length : Int))) then (if (0 : Int) ≤ i ∧ i < (ks.length : Int) then ((f (gt ks i)).bind fun r10 => (if (v ++ ([r10] : List T_impl_Handle)).length * 16 ≤ 140737488355328 ∧ (v ++ ([r10] : List T_impl_Handle)).length ≤ maxLen then (L n (v ++ ([r10] : List T_impl_Handle)) (iAdd .i64 i 1)) else none)) else none) else some v)) :
    ∀ (n i : Nat) (v : List T_impl_Handle), i ≤ ks.length → v.length = i → ks.length - i < n → L n v (i : Int) = some (v ++ (ks.drop i).map (handL l)) := by
  intro n
  induction n with
  | zero => intro i v _ _ h; omega
  | succ n ih =>
    intro i v hi hv hn
    rw [hL]
    rcases Nat.lt_or_ge i ks.length with h | h
    · have hl2 : (v ++ [handL l (gt ks (i : Int))]).length = i + 1 := by simp [hv]
      rw [dlt_t h]
      simp only [cond_true]
      rw [if_pos ⟨by omega, by omega⟩, hf _ (gt_mem h)]
      simp only [Option.bind_some]
      rw [if_pos ⟨by rw [hl2]; omega, by rw [hl2]; unfold maxLen; omega⟩, iAdd1 (by omega), ih (i + 1) _ h hl2 (by omega), drop_gt h]
      simp
    · rw [dlt_f h, List.drop_eq_nil_of_le h]
      simp
include hK in
theorem kidsIn_same {w : T_impl_World} (hw : Wf_Limpl_Node w.fL) (h : T_impl_Handle) : ∃ l : List T_impl_Handle, l.length ≤ 925904528653 ∧ m_spec_KidsIn K w h = some l ∧ m_impl_KidsIn K w h = some l := by
  have hb : w.fL.length * 152 ≤ 140737488355327 := wf_bytes hw.2.1
  unfold m_spec_KidsIn m_impl_KidsIn m_spec_KidsOf m_impl_KidsOf
  rw [findRoom_spec hK hw, findRoom_impl hK hw]
  simp only [Option.bind_some]
  by_cases h0 : (findL w.fL h).2 = 0
  · have hi := findL_in h0
    have e : ((findL w.fL h).2 != 0) = false := by simp [h0]
    rw [e]
    simp only [cond_false]
    rw [if_pos hi, if_pos hi]
    have hx : -9223372036854775808 ≤ (gt w.fL (findL w.fL h).1).fFirst ∧ (gt w.fL (findL w.fL h).1).fFirst ≤ 9223372036854775807 := wf_i64.1 (hw.1 _ (gt_memI hi.1 hi.2)).2.2.2.2.2.1
    have k1 := kids_spec (K := K) hw K (gt w.fL (findL w.fL h).1).fFirst [] (Nat.zero_le _) (by simp; omega)
    have k2 := kids_impl (K := K) hw K (gt w.fL (findL w.fL h).1).fFirst [] hx (Nat.zero_le _) (by simp; omega)
    rw [List.nil_append] at k1 k2
    rw [k1, k2]
    simp only [Option.bind_some]
    generalize hks : kidsL w.fL (w.fL.length - ([] : List Int).length) (gt w.fL (findL w.fL h).1).fFirst = ks
    have hin : ∀ k ∈ ks, 0 ≤ k ∧ k < (w.fL.length : Int) := by rw [← hks]; exact kids_in _ _
    have hlen : ks.length ≤ w.fL.length := by rw [← hks]; exact Nat.le_trans (kids_len _ _) (Nat.sub_le _ _)
    have q1 := hands_ok (l := w.fL) (ks := ks) (by omega) (m_spec_HandleAt K w.fL) (fun k hk => handleAt_spec (by omega) (hin k hk)) (l_spec_KidsIn_7 K w ks) (fun _ _ _ => rfl) K 0 [] (Nat.zero_le _) rfl (by omega)
    have q2 := hands_ok (l := w.fL) (ks := ks) (by omega) (m_impl_HandleAt K w.fL) (fun k hk => handleAt_impl (by omega) (hin k hk)) (l_impl_KidsIn_7 K w ks) (fun _ _ _ => rfl) K 0 [] (Nat.zero_le _) rfl (by omega)
    exact ⟨_, by simp; omega, q1, q2⟩
  · have e : ((findL w.fL h).2 != 0) = true := by simpa using h0
    rw [e]
    exact ⟨[], Nat.zero_le _, rfl, rfl⟩
theorem eqHandle_w (a : T_impl_Handle) : m_laws_eqHandle K a a = some true := by simp [m_laws_eqHandle]
include hK in
theorem eqHandleS_l {a : List T_impl_Handle} (hl : a.length ≤ 140737488355327) : m_laws_eqHandleS K a a = some true := by
  unfold m_laws_eqHandleS
  simp only [bne_self_eq_false, cond_false]
  exact eq_ok a (m_laws_eqHandle K) (fun x _ => eqHandle_w x) (by omega) (l_laws_eqHandleS_3 K a a) (fun n i => rfl) K 0 (Nat.zero_le _) (by omega)
def markH (n : Nat) (k : Nat) : List T_impl_Handle := (List.range n).map fun i => T_impl_Handle.mk ((k + 2 * i : Nat) : Int) ((k + 2 * i + 1 : Nat) : Int)
theorem markH_len (n k : Nat) : (markH n k).length = n := by simp [markH]
theorem markH_loop (k : Nat) : ∀ (n i : Nat) (v : List T_impl_Handle), k + 2 * v.length ≤ 140737488355327 → i ≤ v.length → (∀ j, j < i → v[j]? = (markH v.length k)[j]?) → v.length - i < n →
    l_laws_markHandleSW_4 K n ((k + 2 * i : Nat) : Int) (i : Int) v = some (((k + 2 * v.length : Nat) : Int), markH v.length k) := by
  intro n
  induction n with
  | zero => intro i v _ _ _ h; omega
  | succ n ih =>
    intro i v hl hi hj hn
    rw [l_laws_markHandleSW_4]
    rcases Nat.lt_or_ge i v.length with h | h
    · rw [dlt_t h]
      simp only [cond_true, letM]
      have g1 : gt (v.set (i : Int).toNat (T_impl_Handle.mk ((k + 2 * i : Nat) : Int) (gt v (i : Int)).fGen)) (i : Int) = T_impl_Handle.mk ((k + 2 * i : Nat) : Int) (gt v (i : Int)).fGen := by
        rw [gt_nat (by simpa using h)]; simp
      have e1 : iAdd .i64 ((k + 2 * i : Nat) : Int) 1 = ((k + 2 * i + 1 : Nat) : Int) := iAdd1 (by omega)
      have e2 : iAdd .i64 ((k + 2 * i + 1 : Nat) : Int) 1 = ((k + 2 * (i + 1) : Nat) : Int) := iAdd1 (by omega)
      rw [if_pos ⟨by omega, by omega⟩, if_pos ⟨by omega, by simp only [List.length_set]; omega⟩, g1, e1, e2, iAdd1 (i := i) (by omega), List.set_set]
      have := ih (i + 1) (v.set (i : Int).toNat (T_impl_Handle.mk ((k + 2 * i : Nat) : Int) ((k + 2 * i + 1 : Nat) : Int))) (by simpa using hl) (by simp only [List.length_set]; omega) (fun j hj2 => by
        rw [Int.toNat_natCast, List.getElem?_set, List.length_set]
        by_cases e : i = j
        · subst e
          rw [if_pos rfl, if_pos h]
          simp [markH, h]
        · rw [if_neg e]; exact hj j (by omega)) (by simp only [List.length_set]; omega)
      rw [this]
      simp
    · rw [dlt_f h]
      have hia : i = v.length := by omega
      subst hia
      have e : v = markH v.length k := by
        refine List.ext_getElem? fun j => ?_
        rcases Nat.lt_or_ge j v.length with hja | hja
        · exact hj j hja
        · rw [List.getElem?_eq_none (by omega), List.getElem?_eq_none (by rw [markH_len]; omega)]
      simp only [cond_false]
      rw [← e]
include hK in
theorem markH_ok (a : List T_impl_Handle) (k : Nat) (hk : k + 2 * a.length ≤ 140737488355327) : m_laws_markHandleSW K a (k : Int) = some (((k + 2 * a.length : Nat) : Int), markH a.length k) := by
  unfold m_laws_markHandleSW
  exact markH_loop k K 0 a hk (Nat.zero_le _) (fun j hj => by omega) (by omega)
theorem heldH_loop (m k : Nat) (hl : k + 2 * m ≤ 140737488355327) : ∀ (n i : Nat), i ≤ m → m - i < n → l_laws_heldHandleS_3 K (markH m k) n ((k + 2 * i : Nat) : Int) (i : Int) = some ((k + 2 * m : Nat) : Int) := by
  intro n
  induction n with
  | zero => intro i _ h; omega
  | succ n ih =>
    intro i hi hn
    rw [l_laws_heldHandleS_3]
    rcases Nat.lt_or_ge i m with h | h
    · have hlt : i < (markH m k).length := by rw [markH_len]; exact h
      have e1 : iAdd .i64 ((k + 2 * i : Nat) : Int) 1 = ((k + 2 * i + 1 : Nat) : Int) := iAdd1 (by omega)
      have e2 : iAdd .i64 ((k + 2 * i + 1 : Nat) : Int) 1 = ((k + 2 * (i + 1) : Nat) : Int) := iAdd1 (by omega)
      rw [dlt_t hlt, if_pos ⟨by omega, by omega⟩, if_pos ⟨by omega, by omega⟩, gt_nat hlt, e1, e2, iAdd1 (i := i) (by omega), ih (i + 1) h (by omega)]
      simp [markH]
    · have : i = m := by omega
      subst this
      rw [dlt_f (by rw [markH_len]; exact h)]
      rfl
include hK in
theorem heldH_ok (m k : Nat) (hl : k + 2 * m ≤ 140737488355327) : m_laws_heldHandleS K (markH m k) (k : Int) = some ((k + 2 * m : Nat) : Int) := by
  unfold m_laws_heldHandleS
  exact heldH_loop m k hl K 0 (Nat.zero_le _) (by omega)
end
theorem pure_FnExactKidsIn (a : T_laws_World) (h : T_laws_Handle) (w : Wf_laws_World a) (_ : Wf_laws_Handle h) : ∃ K, m_laws_FnExactKidsIn K a h = some true := by
  refine ⟨K0, ?_⟩
  obtain ⟨r, hr⟩ := szWorld_w (Nat.le_refl K0) w 1048576
  obtain ⟨l, hl, h1, h2⟩ := kidsIn_same (Nat.le_refl K0) (wf_cvL w) (T_impl_Handle.mk h.fSlot h.fGen)
  unfold m_laws_FnExactKidsIn m_laws_toHandle
  rw [hr]
  simp only [Option.bind_some]
  cases e : decide (r < 0) with
  | true => rfl
  | false =>
    have hc := cells_b w hr (by simpa using e)
    have w2 := wf_cvWorld w
    obtain ⟨x1, x2, x3, x4, x5, x6, hm, hlen⟩ := markWorld_ok (Nat.le_refl K0) (cvWorld a) (wf_len w2.2.2.1.2.1 (by decide)) (wf_len w2.2.2.2.1.2.1 (by decide)) 1 (by omega)
    have hmi := markH_ok (Nat.le_refl K0) l 1 (by omega)
    have hhi := heldH_ok (Nat.le_refl K0) l.length 1 (by omega)
    have n1 : decide (((1 + cells (cvWorld a) : Nat) : Int) < 0) = false := by simp; omega
    have n2 : decide (((1 + 2 * l.length : Nat) : Int) < 0) = false := by simp; omega
    simp only [show ((1 : Nat) : Int) = 1 from rfl] at hm hmi hhi
    simp only [cond_false, cond_true, Option.bind_some, toWorld_w (Nat.le_refl K0) w, h1, h2, eqHandleS_l (Nat.le_refl K0) (show l.length ≤ 140737488355327 by omega), eqWorld_w (Nat.le_refl K0) (wf_cvWorld w), hm, if_pos hlen, n1, hmi, markH_len, if_true, hhi, n2, bne_self_eq_false]

end Go.Proofs.Ytemgbggfhohfeaa
