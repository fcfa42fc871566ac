/- Plain laws for FnExactFreshOf. -/
import Derived.Test.YtemgbggfhohfeaaGFnExactFreshOfb
set_option linter.unusedVariables false
set_option linter.unusedSimpArgs false
namespace Go.Proofs.Ytemgbggfhohfeaa
open Go.Eng Go.ChangeShapes Go.WideShapes Go.ChangeAt Go.RowKit
/-! ### Loops over lists -/
theorem iAdd1 {i : Nat} (h : i ≤ 140737488355328) : iAdd .i64 (i : Int) 1 = ((i + 1 : Nat) : Int) := by
  unfold iAdd
  rw [IntKind.wrap_i64]
  omega
theorem gt_nat {α : Type} [Inhabited α] {l : List α} {i : Nat} (h : i < l.length) : gt l (i : Int) = l[i] := by
  unfold gt
  simp [h]
theorem gt_mem {α : Type} [Inhabited α] {l : List α} {i : Nat} (h : i < l.length) : gt l (i : Int) ∈ l := by
  rw [gt_nat h]; exact List.getElem_mem h
theorem gt_memI {α : Type} [Inhabited α] {l : List α} {i : Int} (h0 : 0 ≤ i) (h : i < l.length) : gt l i ∈ l := by
  obtain ⟨k, rfl⟩ : ∃ k : Nat, i = k := ⟨i.toNat, by omega⟩
  exact gt_mem (by omega)
theorem dlt_t {i k : Nat} (h : i < k) : decide ((i : Int) < (k : Int)) = true := by simp; omega
theorem dlt_f {i k : Nat} (h : k ≤ i) : decide ((i : Int) < (k : Int)) = false := by simp; omega

theorem conv_ok {α β : Type} [Inhabited α] (a : List α) (f : α → Option β) (g : α → β) (hf : ∀ x ∈ a, f x = some (g x)) (ha : a.length ≤ 140737488355328)
    (L : Nat → Int → List β → Option (List β)) (hL : ∀ n i v, L (n + 1) i v = bif decide (i < (a.length : Int)) then (if (0 : Int) ≤ i ∧ i < (a.length : Int) then (f (gt a i)).bind (fun r => (if (0 : Int) ≤ i ∧ i < (v.length : Int) then L n (iAdd .i64 i 1) (v.set i.toNat r) else none)) else none) else some v) :
    ∀ (n i : Nat) (v : List β), i ≤ a.length → v.length = a.length → (∀ j, j < i → v[j]? = (a.map g)[j]?) → a.length - i < n → L n (i : Int) v = some (a.map g) := by
  intro n
  induction n with
  | zero => intro i v _ _ _ h; omega
  | succ n ih =>
    intro i v hi hv hj hn
    rw [hL]
    rcases Nat.lt_or_ge i a.length with h | h
    · rw [dlt_t h]
      simp only [cond_true]
      rw [if_pos ⟨by omega, by omega⟩, hf _ (gt_mem h)]
      simp only [Option.bind_some]
      rw [if_pos ⟨by omega, by omega⟩, iAdd1 (by omega)]
      refine ih (i + 1) _ h (by simpa using hv) (fun j hj2 => ?_) (by omega)
      rw [Int.toNat_natCast, List.getElem?_set]
      by_cases e : i = j
      · subst e
        rw [if_pos rfl, if_pos (by omega), gt_nat h, List.getElem?_map, List.getElem?_eq_getElem h]; rfl
      · rw [if_neg e]; exact hj j (by omega)
    · rw [dlt_f h]
      simp only [cond_false, Option.some.injEq]
      have hia : i = a.length := by omega
      refine List.ext_getElem? fun j => ?_
      rcases Nat.lt_or_ge j a.length with hja | hja
      · exact hj j (by omega)
      · rw [List.getElem?_eq_none (by omega), List.getElem?_eq_none (by simpa using hja)]
theorem eq_ok {β : Type} [Inhabited β] (a : List β) (e : β → β → Option Bool) (he : ∀ x ∈ a, e x x = some true) (ha : a.length ≤ 140737488355328)
    (L : Nat → Int → Option Bool) (hL : ∀ n i, L (n + 1) i = bif decide (i < (a.length : Int)) then (if (0 : Int) ≤ i ∧ i < (a.length : Int) then (if (0 : Int) ≤ i ∧ i < (a.length : Int) then (e (gt a i) (gt a i)).bind (fun r => bif r then L n (iAdd .i64 i 1) else some false) else none) else none) else some true) :
    ∀ (n i : Nat), i ≤ a.length → a.length - i < n → L n (i : Int) = some true := by
  intro n
  induction n with
  | zero => intro i _ h; omega
  | succ n ih =>
    intro i hi hn
    rw [hL]
    rcases Nat.lt_or_ge i a.length with h | h
    · rw [dlt_t h]
      simp only [cond_true]
      rw [if_pos ⟨by omega, by omega⟩, if_pos ⟨by omega, by omega⟩, he _ (gt_mem h), iAdd1 (by omega)]
      simp only [Option.bind_some, cond_true]
      exact ih (i + 1) h (by omega)
    · rw [dlt_f h]; rfl
theorem eqv_ok (a : List Int) (ha : a.length ≤ 140737488355328)
    (L : Nat → Int → Option Bool) (hL : ∀ n i, L (n + 1) i = bif decide (i < (a.length : Int)) then (if (0 : Int) ≤ i ∧ i < (a.length : Int) then (if (0 : Int) ≤ i ∧ i < (a.length : Int) then (bif (gt a i != gt a i) then some false else L n (iAdd .i64 i 1)) else none) else none) else some true) :
    ∀ (n i : Nat), i ≤ a.length → a.length - i < n → L n (i : Int) = some true := by
  intro n
  induction n with
  | zero => intro i _ h; omega
  | succ n ih =>
    intro i hi hn
    rw [hL]
    rcases Nat.lt_or_ge i a.length with h | h
    · rw [dlt_t h]
      simp only [cond_true]
      rw [if_pos ⟨by omega, by omega⟩, if_pos ⟨by omega, by omega⟩, iAdd1 (by omega)]
      simp only [bne_self_eq_false, cond_false]
      exact ih (i + 1) h (by omega)
    · rw [dlt_f h]; rfl
theorem sz_ok {α : Type} [Inhabited α] (a : List α) (f : α → Int → Option Int) (hf : ∀ x ∈ a, ∀ y, ∃ r, f x y = some r) (ha : a.length ≤ 140737488355328)
    (L : Nat → Int → Int → Option Int) (hL : ∀ n y i, L (n + 1) y i = bif decide (i < (a.length : Int)) then (if (0 : Int) ≤ i ∧ i < (a.length : Int) then (f (gt a i) y).bind (fun r => bif decide (r < 0) then some (-1) else L n r (iAdd .i64 i 1)) else none) else some y) :
    ∀ (n i : Nat) (y : Int), i ≤ a.length → a.length - i < n → ∃ r, L n y (i : Int) = some r := by
  intro n
  induction n with
  | zero => intro i _ _ h; omega
  | succ n ih =>
    intro i y hi hn
    rw [hL]
    rcases Nat.lt_or_ge i a.length with h | h
    · rw [dlt_t h]
      simp only [cond_true]
      obtain ⟨r, hr⟩ := hf _ (gt_mem h) y
      rw [if_pos ⟨by omega, by omega⟩, hr, iAdd1 (by omega)]
      simp only [Option.bind_some]
      cases decide (r < 0) with
      | true => exact ⟨_, rfl⟩
      | false => exact ih (i + 1) r h (by omega)
    · rw [dlt_f h]; exact ⟨_, rfl⟩
theorem i64_id {n : Int} (h0 : -9223372036854775808 ≤ n) (h1 : n ≤ 9223372036854775807) : IntKind.i64.wrap n = n := by rw [IntKind.wrap_i64]; omega
theorem i64_in (n : Int) : -9223372036854775808 ≤ IntKind.i64.wrap n ∧ IntKind.i64.wrap n ≤ 9223372036854775807 := by rw [IntKind.wrap_i64]; omega
theorem cc {α : Type} (b : Bool) (x : α) : (bif b then x else x) = x := by cases b <;> rfl
theorem bne_t {a b : Int} (h : ¬ a = b) : (a != b) = true := by simpa using h
theorem beq_f {a b : Int} (h : ¬ a = b) : (a == b) = false := by simpa using h

/-! ### A world is copied, compared with itself, measured -/
theorem wf_i64 {x : Int} : Wf_i64 x ↔ -9223372036854775808 ≤ x ∧ x ≤ 9223372036854775807 := by
  simp [Wf_i64, Lit.wf, IntKind.min, IntKind.max, IntKind.signed, IntKind.bits]
theorem wf_bytes {n : Nat} (h : n ≤ reachBytes) : n ≤ 140737488355327 := by simp only [reachBytes] at h; omega
theorem wf_len {n m : Nat} (h : n * m ≤ reachBytes) (hm : 0 < m) : n ≤ 140737488355327 := by
  have : n * 1 ≤ n * m := Nat.mul_le_mul_left n hm
  simp only [reachBytes] at h
  omega
def cvConf (a : T_laws_Conf) : T_impl_Conf := T_impl_Conf.mk a.fChunks a.fSize a.fSlots a.fTax a.fSlice a.fGens
def cvPool (a : T_laws_Pool) : T_impl_Pool := T_impl_Pool.mk a.fMem a.fSt a.fOwn
def cvThing (a : T_laws_Thing) : T_impl_Thing := T_impl_Thing.mk a.fAt a.fLen a.fRun
def cvNode (a : T_laws_Node) : T_impl_Node := T_impl_Node.mk a.fSt a.fGen a.fEp a.fUp a.fUpEp a.fFirst a.fNext a.fPrev a.fChunks a.fCur a.fBump (a.fThings.map cvThing) a.fTags
def cvWaste (a : T_laws_Waste) : T_impl_Waste := T_impl_Waste.mk a.fSlot a.fFirst a.fTags a.fChunks a.fDone
def cvWorld (a : T_laws_World) : T_impl_World := T_impl_World.mk (cvConf a.fC) (cvPool a.fP) (a.fL.map cvNode) (a.fQ.map cvWaste) a.fLog
section
variable {K : Nat} (hK : 281474976710656 ≤ K)
include hK
theorem toByteS_w {a : List Int} (w : Wf_Lu8 a) : m_laws_toByteS K a = some a := by
  have hl := wf_len w.2.1 (by decide)
  unfold m_laws_toByteS
  rw [if_pos ⟨by omega, by omega, by omega, by omega⟩]
  have := conv_ok a some id (fun _ _ => rfl) (by omega) (l_laws_toByteS_4 K a) (fun n i v => rfl) K 0 (List.replicate (a.length : Int).toNat 0) (Nat.zero_le _) (by simp) (fun j hj => by omega) (by omega)
  simpa using this
theorem toIntS_w {a : List Int} (w : Wf_Li64 a) : m_laws_toIntS K a = some a := by
  have hl := wf_len w.2.1 (by decide)
  have hr : a.length * 8 ≤ 140737488355327 := wf_bytes w.2.1
  unfold m_laws_toIntS
  rw [if_pos ⟨by omega, by omega, by omega, by omega⟩]
  have := conv_ok a some id (fun _ _ => rfl) (by omega) (l_laws_toIntS_4 K a) (fun n i v => rfl) K 0 (List.replicate (a.length : Int).toNat 0) (Nat.zero_le _) (by simp) (fun j hj => by omega) (by omega)
  simpa using this
theorem toThingS_w {a : List T_laws_Thing} (w : Wf_Llaws_Thing a) : m_laws_toThingS K a = some (a.map cvThing) := by
  have hl := wf_len w.2.1 (by decide)
  have hr : a.length * 24 ≤ 140737488355327 := wf_bytes w.2.1
  unfold m_laws_toThingS
  rw [if_pos ⟨by omega, by omega, by omega, by omega⟩]
  exact conv_ok a (m_laws_toThing K) cvThing (fun _ _ => rfl) (by omega) (l_laws_toThingS_4 K a) (fun n i v => rfl) K 0 _ (Nat.zero_le _) (by simp) (fun j hj => by omega) (by omega)
theorem toNode_w {a : T_laws_Node} (w : Wf_laws_Node a) : m_laws_toNode K a = some (cvNode a) := by
  unfold m_laws_toNode
  obtain ⟨_, _, _, _, _, _, _, _, h1, _, _, h2, h3⟩ := w
  rw [toIntS_w hK h1, toThingS_w hK h2, toIntS_w hK h3]
  rfl
theorem toNodeS_w {a : List T_laws_Node} (w : Wf_Llaws_Node a) : m_laws_toNodeS K a = some (a.map cvNode) := by
  have hl := wf_len w.2.1 (by decide)
  have hr : a.length * 152 ≤ 140737488355327 := wf_bytes w.2.1
  unfold m_laws_toNodeS
  rw [if_pos ⟨by omega, by omega, by omega, by omega⟩]
  exact conv_ok a (m_laws_toNode K) cvNode (fun x hx => toNode_w hK (w.1 x hx)) (by omega) (l_laws_toNodeS_4 K a) (fun n i v => rfl) K 0 _ (Nat.zero_le _) (by simp) (fun j hj => by omega) (by omega)
theorem toWaste_w {a : T_laws_Waste} (w : Wf_laws_Waste a) : m_laws_toWaste K a = some (cvWaste a) := by
  unfold m_laws_toWaste
  obtain ⟨_, _, h1, h2, _⟩ := w
  rw [toIntS_w hK h1, toIntS_w hK h2]
  rfl
theorem toWasteS_w {a : List T_laws_Waste} (w : Wf_Llaws_Waste a) : m_laws_toWasteS K a = some (a.map cvWaste) := by
  have hl := wf_len w.2.1 (by decide)
  have hr : a.length * 72 ≤ 140737488355327 := wf_bytes w.2.1
  unfold m_laws_toWasteS
  rw [if_pos ⟨by omega, by omega, by omega, by omega⟩]
  exact conv_ok a (m_laws_toWaste K) cvWaste (fun x hx => toWaste_w hK (w.1 x hx)) (by omega) (l_laws_toWasteS_4 K a) (fun n i v => rfl) K 0 _ (Nat.zero_le _) (by simp) (fun j hj => by omega) (by omega)
theorem toWorld_w {a : T_laws_World} (w : Wf_laws_World a) : m_laws_toWorld K a = some (cvWorld a) := by
  unfold m_laws_toWorld m_laws_toConf m_laws_toPool
  obtain ⟨_, ⟨h1, h2, h3⟩, h4, h5, h6⟩ := w
  rw [toByteS_w hK h1, toIntS_w hK h2, toIntS_w hK h3, toNodeS_w hK h4, toWasteS_w hK h5, toIntS_w hK h6]
  rfl
theorem eqByteS_w {a : List Int} (w : Wf_Lu8 a) : m_laws_eqByteS K a a = some true := by
  have hl := wf_len w.2.1 (by decide)
  unfold m_laws_eqByteS
  simp only [bne_self_eq_false, cond_false]
  exact eqv_ok a (by omega) (l_laws_eqByteS_3 K a a) (fun n i => rfl) K 0 (Nat.zero_le _) (by omega)
theorem eqIntS_w {a : List Int} (w : Wf_Li64 a) : m_laws_eqIntS K a a = some true := by
  have hl := wf_len w.2.1 (by decide)
  unfold m_laws_eqIntS
  simp only [bne_self_eq_false, cond_false]
  exact eqv_ok a (by omega) (l_laws_eqIntS_3 K a a) (fun n i => rfl) K 0 (Nat.zero_le _) (by omega)
omit hK in
theorem eqThing_w (a : T_impl_Thing) : m_laws_eqThing K a a = some true := by simp [m_laws_eqThing]
theorem eqThingS_w {a : List T_impl_Thing} (w : Wf_Limpl_Thing a) : m_laws_eqThingS K a a = some true := by
  have hl := wf_len w.2.1 (by decide)
  unfold m_laws_eqThingS
  simp only [bne_self_eq_false, cond_false]
  exact eq_ok a (m_laws_eqThing K) (fun x _ => eqThing_w x) (by omega) (l_laws_eqThingS_3 K a a) (fun n i => rfl) K 0 (Nat.zero_le _) (by omega)
theorem eqNode_w {a : T_impl_Node} (w : Wf_impl_Node a) : m_laws_eqNode K a a = some true := by
  obtain ⟨_, _, _, _, _, _, _, _, h1, _, _, h2, h3⟩ := w
  simp [m_laws_eqNode, eqIntS_w hK h1, eqThingS_w hK h2, eqIntS_w hK h3]
theorem eqNodeS_w {a : List T_impl_Node} (w : Wf_Limpl_Node a) : m_laws_eqNodeS K a a = some true := by
  have hl := wf_len w.2.1 (by decide)
  unfold m_laws_eqNodeS
  simp only [bne_self_eq_false, cond_false]
  exact eq_ok a (m_laws_eqNode K) (fun x hx => eqNode_w hK (w.1 x hx)) (by omega) (l_laws_eqNodeS_3 K a a) (fun n i => rfl) K 0 (Nat.zero_le _) (by omega)
theorem eqWaste_w {a : T_impl_Waste} (w : Wf_impl_Waste a) : m_laws_eqWaste K a a = some true := by
  obtain ⟨_, _, h1, h2, _⟩ := w
  simp [m_laws_eqWaste, eqIntS_w hK h1, eqIntS_w hK h2]
theorem eqWasteS_w {a : List T_impl_Waste} (w : Wf_Limpl_Waste a) : m_laws_eqWasteS K a a = some true := by
  have hl := wf_len w.2.1 (by decide)
  unfold m_laws_eqWasteS
  simp only [bne_self_eq_false, cond_false]
  exact eq_ok a (m_laws_eqWaste K) (fun x hx => eqWaste_w hK (w.1 x hx)) (by omega) (l_laws_eqWasteS_3 K a a) (fun n i => rfl) K 0 (Nat.zero_le _) (by omega)
theorem eqWorld_w {a : T_impl_World} (w : Wf_impl_World a) : m_laws_eqWorld K a a = some true := by
  obtain ⟨_, ⟨h1, h2, h3⟩, h4, h5, h6⟩ := w
  simp [m_laws_eqWorld, m_laws_eqConf, m_laws_eqPool, eqByteS_w hK h1, eqIntS_w hK h2, eqIntS_w hK h3, eqNodeS_w hK h4, eqWasteS_w hK h5, eqIntS_w hK h6]
omit hK in
theorem szByteS_w (a : List Int) (y : Int) : ∃ r, m_laws_szByteS K a y = some r := by
  unfold m_laws_szByteS; cases decide (iSub .i64 y (a.length : Int) < 0) <;> exact ⟨_, rfl⟩
omit hK in
theorem szIntS_w (a : List Int) (y : Int) : ∃ r, m_laws_szIntS K a y = some r := by
  unfold m_laws_szIntS; cases decide (iSub .i64 y (a.length : Int) < 0) <;> exact ⟨_, rfl⟩
omit hK in
theorem szThingS_w (a : List T_laws_Thing) (y : Int) : ∃ r, m_laws_szThingS K a y = some r := by
  unfold m_laws_szThingS; cases decide (iSub .i64 y (a.length : Int) < 0) <;> exact ⟨_, rfl⟩
omit hK in
theorem szNode_w (a : T_laws_Node) (y : Int) : ∃ r, m_laws_szNode K a y = some r := by
  unfold m_laws_szNode
  obtain ⟨r1, h1⟩ := szIntS_w (K := K) a.fChunks y
  rw [h1]; simp only [Option.bind_some]
  cases decide (r1 < 0)
  · obtain ⟨r2, h2⟩ := szThingS_w (K := K) a.fThings r1
    simp only [h2, Option.bind_some, cond_false]
    cases decide (r2 < 0)
    · obtain ⟨r3, h3⟩ := szIntS_w (K := K) a.fTags r2
      simp only [h3, Option.bind_some, cond_false]
      cases decide (r3 < 0) <;> exact ⟨_, rfl⟩
    · exact ⟨_, rfl⟩
  · exact ⟨_, rfl⟩
theorem szNodeS_w {a : List T_laws_Node} (w : Wf_Llaws_Node a) (y : Int) : ∃ r, m_laws_szNodeS K a y = some r := by
  have hl := wf_len w.2.1 (by decide)
  unfold m_laws_szNodeS
  cases decide (iSub .i64 y (a.length : Int) < 0)
  · exact sz_ok a (m_laws_szNode K) (fun x _ y => szNode_w x y) (by omega) (l_laws_szNodeS_4 K a) (fun n y i => rfl) K 0 _ (Nat.zero_le _) (by omega)
  · exact ⟨_, rfl⟩
omit hK in
theorem szWaste_w (a : T_laws_Waste) (y : Int) : ∃ r, m_laws_szWaste K a y = some r := by
  unfold m_laws_szWaste
  obtain ⟨r1, h1⟩ := szIntS_w (K := K) a.fTags y
  rw [h1]; simp only [Option.bind_some]
  cases decide (r1 < 0)
  · obtain ⟨r2, h2⟩ := szIntS_w (K := K) a.fChunks r1
    simp only [h2, Option.bind_some, cond_false]
    cases decide (r2 < 0) <;> exact ⟨_, rfl⟩
  · exact ⟨_, rfl⟩
theorem szWasteS_w {a : List T_laws_Waste} (w : Wf_Llaws_Waste a) (y : Int) : ∃ r, m_laws_szWasteS K a y = some r := by
  have hl := wf_len w.2.1 (by decide)
  unfold m_laws_szWasteS
  cases decide (iSub .i64 y (a.length : Int) < 0)
  · exact sz_ok a (m_laws_szWaste K) (fun x _ y => szWaste_w x y) (by omega) (l_laws_szWasteS_4 K a) (fun n y i => rfl) K 0 _ (Nat.zero_le _) (by omega)
  · exact ⟨_, rfl⟩
omit hK in
theorem szPool_w (a : T_laws_Pool) (y : Int) : ∃ r, m_laws_szPool K a y = some r := by
  unfold m_laws_szPool
  obtain ⟨r1, h1⟩ := szByteS_w (K := K) a.fMem y
  rw [h1]; simp only [Option.bind_some]
  cases decide (r1 < 0)
  · obtain ⟨r2, h2⟩ := szIntS_w (K := K) a.fSt r1
    simp only [h2, Option.bind_some, cond_false]
    cases decide (r2 < 0)
    · obtain ⟨r3, h3⟩ := szIntS_w (K := K) a.fOwn r2
      simp only [h3, Option.bind_some, cond_false]
      cases decide (r3 < 0) <;> exact ⟨_, rfl⟩
    · exact ⟨_, rfl⟩
  · exact ⟨_, rfl⟩
theorem szWorld_w {a : T_laws_World} (w : Wf_laws_World a) (y : Int) : ∃ r, m_laws_szWorld K a y = some r := by
  obtain ⟨_, _, h4, h5, _⟩ := w
  unfold m_laws_szWorld
  obtain ⟨r1, h1⟩ := szPool_w (K := K) a.fP y
  rw [h1]; simp only [Option.bind_some]
  cases decide (r1 < 0)
  · obtain ⟨r2, h2⟩ := szNodeS_w hK h4 r1
    simp only [h2, Option.bind_some, cond_false]
    cases decide (r2 < 0)
    · obtain ⟨r3, h3⟩ := szWasteS_w hK h5 r2
      simp only [h3, Option.bind_some, cond_false]
      cases decide (r3 < 0)
      · obtain ⟨r4, h4⟩ := szIntS_w (K := K) a.fLog r3
        simp only [h4, Option.bind_some, cond_false]
        cases decide (r4 < 0) <;> exact ⟨_, rfl⟩
      · exact ⟨_, rfl⟩
    · exact ⟨_, rfl⟩
  · exact ⟨_, rfl⟩
end
theorem wf_cvThing {a : T_laws_Thing} (w : Wf_laws_Thing a) : Wf_impl_Thing (cvThing a) := w
theorem wf_cvNode {a : T_laws_Node} (w : Wf_laws_Node a) : Wf_impl_Node (cvNode a) := by
  obtain ⟨h1, h2, h3, h4, h5, h6, h7, h8, h9, h10, h11, ⟨q1, q2, q3⟩, h13⟩ := w
  refine ⟨h1, h2, h3, h4, h5, h6, h7, h8, h9, h10, h11, ⟨?_, by simpa [cvNode] using q2, by simpa [cvNode] using q3⟩, h13⟩
  intro x hx
  obtain ⟨y, hy, rfl⟩ := List.mem_map.1 hx
  exact wf_cvThing (q1 y hy)
theorem wf_cvWaste {a : T_laws_Waste} (w : Wf_laws_Waste a) : Wf_impl_Waste (cvWaste a) := w
theorem wf_cvWorld {a : T_laws_World} (w : Wf_laws_World a) : Wf_impl_World (cvWorld a) := by
  obtain ⟨h1, h2, ⟨q1, q2, q3⟩, ⟨p1, p2, p3⟩, h5⟩ := w
  refine ⟨h1, h2, ⟨?_, by simpa [cvWorld] using q2, by simpa [cvWorld] using q3⟩, ⟨?_, by simpa [cvWorld] using p2, by simpa [cvWorld] using p3⟩, h5⟩
  · intro x hx
    obtain ⟨y, hy, rfl⟩ := List.mem_map.1 hx
    exact wf_cvNode (q1 y hy)
  · intro x hx
    obtain ⟨y, hy, rfl⟩ := List.mem_map.1 hx
    exact wf_cvWaste (p1 y hy)
def K0 : Nat := 281474976710656

/-! ### Looking up regions -/
section
variable {K : Nat} (hK : 281474976710656 ≤ K)
theorem place_in (K : Nat) {α : Type} {l : List α} (hl : l.length ≤ 140737488355327) (k : Int) : m_spec_l1In K k 0 (iSub .i64 (l.length : Int) 1) = some (decide (0 ≤ k ∧ k < (l.length : Int))) := by
  unfold m_spec_l1In iSub
  rw [i64_id (by omega) (by omega)]
  by_cases h : (0 : Int) ≤ k
  · rw [decide_eq_true (show k ≥ 0 from h)]
    simp only [cond_true, Option.some.injEq, decide_eq_decide]
    omega
  · rw [decide_eq_false (show ¬ k ≥ 0 from h)]
    simp only [cond_false, Option.some.injEq]
    exact (decide_eq_false (by omega)).symm
theorem within_in (K : Nat) {α : Type} {l : List α} (hl : l.length ≤ 140737488355327) (k : Int) : m_impl_within K k 0 (iSub .i64 (l.length : Int) 1) = some (decide (0 ≤ k ∧ k < (l.length : Int))) := place_in K hl k
theorem isSlot_eq (K : Nat) {l : List T_impl_Node} (hl : l.length ≤ 140737488355327) (k : Int) : m_impl_isSlot K l k = some (decide (0 ≤ k ∧ k < (l.length : Int))) := by
  unfold m_impl_isSlot
  rw [within_in K hl]; rfl
theorem l9Place_eq (K : Nat) (l : List T_impl_Node) (k : Int) : m_spec_l9Place K l k = some (decide (1 ≤ k ∧ k ≤ (l.length : Int))) := by
  unfold m_spec_l9Place
  by_cases h : (1 : Int) ≤ k
  · rw [decide_eq_true (show k ≥ 1 from h)]
    simp only [cond_true, Option.some.injEq, decide_eq_decide]
    omega
  · rw [decide_eq_false (show ¬ k ≥ 1 from h)]
    simp only [cond_false, Option.some.injEq]
    exact (decide_eq_false (by omega)).symm
def placeL (l : List T_impl_Node) (h : T_impl_Handle) : Int := if (0 ≤ h.fSlot ∧ h.fSlot < (l.length : Int)) ∧ (gt l h.fSlot).fSt = 1 ∧ (gt l h.fSlot).fGen = h.fGen then h.fSlot else -1
theorem placeOf_spec (K : Nat) {l : List T_impl_Node} (hl : l.length ≤ 140737488355327) (h : T_impl_Handle) : m_spec_PlaceOf K l h = some (placeL l h) := by
  unfold m_spec_PlaceOf placeL
  rw [place_in K hl]
  simp only [Option.bind_some]
  by_cases hs : 0 ≤ h.fSlot ∧ h.fSlot < (l.length : Int)
  · rw [decide_eq_true hs]
    simp only [cond_true, if_pos hs]
    by_cases h1 : (gt l h.fSlot).fSt = 1
    · by_cases h2 : (gt l h.fSlot).fGen = h.fGen
      · rw [if_pos ⟨hs, h1, h2⟩]; simp [h1, h2]
      · rw [if_neg (fun h => h2 h.2.2), bne_t h2]; simp [h1]
    · rw [if_neg (fun h => h1 h.2.1), bne_t h1]; rfl
  · rw [decide_eq_false hs]
    simp only [cond_false]
    rw [if_neg (fun h => hs h.1)]
theorem placeOf_impl (K : Nat) {l : List T_impl_Node} (hl : l.length ≤ 140737488355327) (h : T_impl_Handle) : m_impl_PlaceOf K l h = some (placeL l h) := by
  rw [← placeOf_spec K hl]
  unfold m_spec_PlaceOf m_impl_PlaceOf
  rw [place_in K hl, isSlot_eq K hl]
theorem placeL_in {l : List T_impl_Node} {h : T_impl_Handle} (h0 : ¬ placeL l h < 0) : 0 ≤ placeL l h ∧ placeL l h < (l.length : Int) := by
  unfold placeL at *
  split at h0
  · rename_i h1; rw [if_pos h1]; exact h1.1
  · omega

def riseL (l : List T_impl_Node) : Nat → Int → List Int
  | 0, _ => []
  | n + 1, k => if 0 ≤ k ∧ k < (l.length : Int) then k :: riseL l n (iSub .i64 (gt l k).fUp 1) else []
theorem rise_in {l : List T_impl_Node} : ∀ (n : Nat) (k : Int), ∀ x ∈ riseL l n k, 0 ≤ x ∧ x < (l.length : Int) := by
  intro n
  induction n with
  | zero => intro k x hx; cases hx
  | succ n ih =>
    intro k x hx
    unfold riseL at hx
    split at hx
    · rename_i h
      rcases List.mem_cons.1 hx with rfl | hx
      · exact h
      · exact ih _ x hx
    · cases hx
theorem rise_len {l : List T_impl_Node} : ∀ (n : Nat) (k : Int), (riseL l n k).length ≤ n := by
  intro n
  induction n with
  | zero => intro k; exact Nat.le_refl _
  | succ n ih =>
    intro k
    unfold riseL
    split
    · simp only [List.length_cons]; have := ih (iSub .i64 (gt l k).fUp 1); omega
    · exact Nat.zero_le _
def chainL (l : List T_impl_Node) : List Int → Prop
  | x :: y :: r => iSub .i64 (gt l x).fUp 1 = y ∧ chainL l (y :: r)
  | _ => True
theorem rise_chain {l : List T_impl_Node} : ∀ (n : Nat) (k : Int), chainL l (riseL l n k) := by
  intro n
  induction n with
  | zero => intro k; trivial
  | succ n ih =>
    intro k
    unfold riseL
    split
    · have h1 := ih (iSub .i64 (gt l k).fUp 1)
      cases n with
      | zero => trivial
      | succ n =>
        rw [riseL] at h1 ⊢
        split at h1
        · rename_i h2; rw [if_pos h2]; exact ⟨rfl, h1⟩
        · rename_i h2; rw [if_neg h2]; trivial
    · trivial
theorem rise_spec {l : List T_impl_Node} (w : Wf_Limpl_Node l) : ∀ (n : Nat) (k : Int) (v : List Int), -9223372036854775808 ≤ k ∧ k ≤ 9223372036854775807 → v.length ≤ l.length → l.length - v.length < n → l_spec_Rise_3 K l n k v = some (v ++ riseL l (l.length - v.length) k) := by
  have hb : l.length * 152 ≤ 140737488355327 := wf_bytes w.2.1
  intro n
  induction n with
  | zero => intro k v _ _ h; omega
  | succ n ih =>
    intro k v hk hv hn
    rw [l_spec_Rise_3, l9Place_eq]
    simp only [Option.bind_some]
    have e : decide (1 ≤ iAdd .i64 k 1 ∧ iAdd .i64 k 1 ≤ (l.length : Int)) = decide (0 ≤ k ∧ k < (l.length : Int)) := by
      rw [decide_eq_decide]
      unfold iAdd
      rw [IntKind.wrap_i64]
      omega
    rw [e]
    by_cases hs : 0 ≤ k ∧ k < (l.length : Int)
    · rw [decide_eq_true hs]
      simp only [cond_true]
      rcases Nat.lt_or_ge v.length l.length with h | h
      · rw [dlt_t h]
        simp only [cond_true]
        have hl2 : (v ++ [k]).length = v.length + 1 := by simp
        rw [if_pos ⟨by rw [hl2]; omega, by rw [hl2]; unfold maxLen; omega⟩, if_pos hs, ih (iSub .i64 (gt l k).fUp 1) _ (i64_in _) (by rw [hl2]; omega) (by rw [hl2]; omega), hl2]
        obtain ⟨m, hm⟩ : ∃ m, l.length - v.length = m + 1 := ⟨l.length - v.length - 1, by omega⟩
        rw [hm, riseL, if_pos hs, show l.length - (v.length + 1) = m from by omega]
        simp
      · rw [dlt_f h]
        rw [show l.length - v.length = 0 from by omega]
        simp [riseL]
    · rw [decide_eq_false hs]
      have : riseL l (l.length - v.length) k = [] := by
        cases l.length - v.length with
        | zero => rfl
        | succ m => rw [riseL, if_neg hs]
      rw [this]
      simp
theorem rise_impl {l : List T_impl_Node} (w : Wf_Limpl_Node l) : ∀ (n : Nat) (k : Int) (v : List Int), v.length ≤ l.length → l.length - v.length < n → l_impl_Rise_3 K l n k v = some (v ++ riseL l (l.length - v.length) k) := by
  have hb : l.length * 152 ≤ 140737488355327 := wf_bytes w.2.1
  intro n
  induction n with
  | zero => intro k v _ h; omega
  | succ n ih =>
    intro k v hv hn
    rw [l_impl_Rise_3, isSlot_eq K (by omega)]
    simp only [Option.bind_some]
    by_cases hs : 0 ≤ k ∧ k < (l.length : Int)
    · rw [decide_eq_true hs]
      simp only [cond_true]
      rcases Nat.lt_or_ge v.length l.length with h | h
      · rw [dlt_t h]
        simp only [cond_true]
        have hl2 : (v ++ [k]).length = v.length + 1 := by simp
        rw [if_pos ⟨by rw [hl2]; omega, by rw [hl2]; unfold maxLen; omega⟩, if_pos hs, ih _ _ (by rw [hl2]; omega) (by rw [hl2]; omega), hl2]
        obtain ⟨m, hm⟩ : ∃ m, l.length - v.length = m + 1 := ⟨l.length - v.length - 1, by omega⟩
        rw [hm, riseL, if_pos hs, show l.length - (v.length + 1) = m from by omega]
        simp
      · rw [dlt_f h]
        rw [show l.length - v.length = 0 from by omega]
        simp [riseL]
    · rw [decide_eq_false hs]
      have : riseL l (l.length - v.length) k = [] := by
        cases l.length - v.length with
        | zero => rfl
        | succ m => rw [riseL, if_neg hs]
      rw [this]
      simp
include hK in
theorem rise_spec0 {l : List T_impl_Node} (w : Wf_Limpl_Node l) (k : Int) (hk : -9223372036854775808 ≤ k ∧ k ≤ 9223372036854775807) : m_spec_Rise K l k = some (riseL l l.length k) := by
  have hb := wf_len w.2.1 (by decide)
  unfold m_spec_Rise
  have := rise_spec (K := K) w K k [] hk (Nat.zero_le _) (by simp; omega)
  simpa using this
include hK in
theorem rise_impl0 {l : List T_impl_Node} (w : Wf_Limpl_Node l) (k : Int) : m_impl_Rise K l k = some (riseL l l.length k) := by
  have hb := wf_len w.2.1 (by decide)
  unfold m_impl_Rise
  have := rise_impl (K := K) w K k [] (Nat.zero_le _) (by simp; omega)
  simpa using this

def aliveW (l : List T_impl_Node) : List Int → Bool
  | [] => true
  | [x] => (gt l x).fSt == 1
  | x :: y :: r => ((gt l x).fSt == 1) && ((gt l x).fUpEp == (gt l y).fEp) && aliveW l (y :: r)
def lastUp (l : List T_impl_Node) (way : List Int) : Bool := if 0 < way.length then (gt l (gt way ((way.length - 1 : Nat) : Int))).fUp == 0 else false
theorem final_ok {l : List T_impl_Node} {way : List Int} (hin : ∀ x ∈ way, 0 ≤ x ∧ x < (l.length : Int)) (hlen : way.length ≤ 140737488355327) :
    (bif (decide ((way.length : Int) > 0)) then (if (0 : Int) ≤ (iSub .i64 (way.length : Int) 1) ∧ (iSub .i64 (way.length : Int) 1) < (way.length : Int) then (if (0 : Int) ≤ (gt way (iSub .i64 (way.length : Int) 1)) ∧ (gt way (iSub .i64 (way.length : Int) 1)) < (l.length : Int) then some (((gt l (gt way (iSub .i64 (way.length : Int) 1))).fUp) == 0) else none) else none) else some false) = some (lastUp l way) := by
  unfold lastUp
  rcases Nat.eq_zero_or_pos way.length with h | h
  · rw [decide_eq_false (show ¬ (way.length : Int) > 0 by omega)]
    simp only [cond_false]
    rw [if_neg (show ¬ 0 < way.length by omega)]
  · rw [if_pos h, decide_eq_true (by omega)]
    simp only [cond_true]
    have e : iSub .i64 (way.length : Int) 1 = ((way.length - 1 : Nat) : Int) := by unfold iSub; rw [i64_id (by omega) (by omega)]; omega
    rw [e, if_pos ⟨by omega, by omega⟩, if_pos (hin _ (gt_mem (by omega)))]
theorem drop_two {way : List Int} {i : Nat} (h : i < way.length) : way.drop i = way[i] :: way.drop (i + 1) := by
  rw [List.drop_eq_getElem_cons h]
theorem alive_impl {l : List T_impl_Node} {way : List Int} (hin : ∀ x ∈ way, 0 ≤ x ∧ x < (l.length : Int)) (hlen : way.length ≤ 140737488355327) : ∀ (n i : Nat), i ≤ way.length → way.length - i < n → l_impl_Alive_3 K l way n (i : Int) = some (aliveW l (way.drop i) && lastUp l way) := by
  intro n
  induction n with
  | zero => intro i _ h; omega
  | succ n ih =>
    intro i hi hn
    rw [l_impl_Alive_3]
    unfold j_impl_Alive_5
    rcases Nat.lt_or_ge i way.length with h | h
    · rw [dlt_t h]
      simp only [cond_true]
      rw [if_pos ⟨by omega, by omega⟩, if_pos (hin _ (gt_mem h)), drop_two h, iAdd1 (by omega), ← gt_nat h]
      rcases Nat.lt_or_ge (i + 1) way.length with h2 | h2
      · rw [dlt_t h2, drop_two h2, ← gt_nat h2]
        simp only [cond_true]
        rw [if_pos (hin _ (gt_mem h)), if_pos ⟨by omega, by omega⟩, if_pos (hin _ (gt_mem h2)), ih (i + 1) h (by omega), drop_two h2, ← gt_nat h2, aliveW]
        generalize gt way ((i + 1 : Nat) : Int) = y
        generalize gt way (i : Int) = x
        by_cases c1 : (gt l x).fSt = 1
        · by_cases c2 : (gt l x).fUpEp = (gt l y).fEp
          · simp [c1, c2]
          · rw [bne_t c2, beq_f c2]; simp [c1]
        · rw [bne_t c1, beq_f c1]; simp
      · rw [dlt_f h2, ih (i + 1) h (by omega), show way.drop (i + 1) = [] from List.drop_eq_nil_of_le h2]
        simp only [cond_false, aliveW]
        by_cases c1 : (gt l (gt way (i : Int))).fSt = 1
        · simp [c1]
        · rw [bne_t c1, beq_f c1]; simp
    · rw [dlt_f h, show way.drop i = [] from List.drop_eq_nil_of_le h]
      simp only [cond_false, aliveW, Bool.true_and]
      exact final_ok hin hlen
theorem l9In_eq {l : List T_impl_Node} (w : Wf_Limpl_Node l) {x y : Int} (hx : 0 ≤ x ∧ x < (l.length : Int)) (hy : 0 ≤ y ∧ y < (l.length : Int)) (h : iSub .i64 (gt l x).fUp 1 = y) : m_spec_l9In K l x = some (((gt l y).fSt == 1) && ((gt l y).fEp == (gt l x).fUpEp)) := by
  have hl := wf_len w.2.1 (by decide)
  unfold m_spec_l9In
  rw [if_pos hx, l9Place_eq]
  simp only [Option.bind_some]
  have hr := wf_i64.1 (w.1 _ (gt_memI hx.1 hx.2)).2.2.2.1
  have hp : 1 ≤ (gt l x).fUp ∧ (gt l x).fUp ≤ (l.length : Int) := by
    unfold iSub at h
    rw [IntKind.wrap_i64] at h
    omega
  rw [decide_eq_true hp, h]
  simp only [cond_true]
  rw [if_pos hy, if_pos hy, if_pos hx]
  cases (gt l y).fSt == 1 <;> rfl
theorem aliveW_head {l : List T_impl_Node} {y : Int} {r : List Int} (h : (gt l y).fSt ≠ 1) : aliveW l (y :: r) = false := by
  cases r with
  | nil => simp [aliveW, h]
  | cons z r => simp [aliveW, h]
theorem alive_spec {l : List T_impl_Node} (w : Wf_Limpl_Node l) {way : List Int} (hin : ∀ x ∈ way, 0 ≤ x ∧ x < (l.length : Int)) (hlen : way.length ≤ 140737488355327) : ∀ (n i : Nat), chainL l (way.drop i) → i ≤ way.length → way.length - i < n → l_spec_Alive_3 K l way n (i : Int) = some (aliveW l (way.drop i) && lastUp l way) := by
  intro n
  induction n with
  | zero => intro i _ _ h; omega
  | succ n ih =>
    intro i hch hi hn
    rw [l_spec_Alive_3]
    unfold j_spec_Alive_5
    rcases Nat.lt_or_ge i way.length with h | h
    · rw [dlt_t h]
      simp only [cond_true]
      rw [drop_two h] at hch
      rw [if_pos ⟨by omega, by omega⟩, if_pos (hin _ (gt_mem h)), drop_two h, iAdd1 (by omega), ← gt_nat h]
      rcases Nat.lt_or_ge (i + 1) way.length with h2 | h2
      · rw [drop_two h2] at hch
        have hc1 := hch.1
        rw [← gt_nat h, ← gt_nat h2] at hc1
        rw [dlt_t h2, drop_two h2, ← gt_nat h2]
        simp only [cond_true]
        rw [if_pos ⟨by omega, by omega⟩, l9In_eq w (hin _ (gt_mem h)) (hin _ (gt_mem h2)) hc1, ih (i + 1) (by rw [drop_two h2]; exact hch.2) h (by omega), drop_two h2, ← gt_nat h2, aliveW]
        generalize gt way ((i + 1 : Nat) : Int) = y
        generalize gt way (i : Int) = x
        by_cases c1 : (gt l x).fSt = 1
        · by_cases c3 : (gt l y).fSt = 1
          · by_cases c2 : (gt l x).fUpEp = (gt l y).fEp
            · simp [c1, c2, c3]
            · have c2' : ¬ (gt l y).fEp = (gt l x).fUpEp := fun e => c2 e.symm
              rw [beq_f c2, beq_f c2']; simp [c1]
          · rw [aliveW_head c3, beq_f c3]
            simp [c1]
        · rw [bne_t c1, beq_f c1]; simp
      · rw [dlt_f h2, ih (i + 1) (by rw [List.drop_eq_nil_of_le h2]; trivial) h (by omega), show way.drop (i + 1) = [] from List.drop_eq_nil_of_le h2]
        simp only [cond_false, aliveW]
        by_cases c1 : (gt l (gt way (i : Int))).fSt = 1
        · simp [c1]
        · rw [bne_t c1, beq_f c1]; simp
    · rw [dlt_f h, show way.drop i = [] from List.drop_eq_nil_of_le h]
      simp only [cond_false, aliveW, Bool.true_and]
      exact final_ok hin hlen
def aliveL (l : List T_impl_Node) (k : Int) : Bool := aliveW l (riseL l l.length k) && lastUp l (riseL l l.length k)
include hK in
theorem alive_spec0 {l : List T_impl_Node} (w : Wf_Limpl_Node l) (k : Int) (hk : -9223372036854775808 ≤ k ∧ k ≤ 9223372036854775807) : m_spec_Alive K l k = some (aliveL l k) := by
  have hb := wf_len w.2.1 (by decide)
  have hr := rise_len (l := l) l.length k
  unfold m_spec_Alive
  rw [rise_spec0 hK w k hk]
  exact alive_spec w (rise_in _ _) (by omega) K 0 (rise_chain _ _) (Nat.zero_le _) (by omega)
include hK in
theorem alive_impl0 {l : List T_impl_Node} (w : Wf_Limpl_Node l) (k : Int) : m_impl_Alive K l k = some (aliveL l k) := by
  have hb := wf_len w.2.1 (by decide)
  have hr := rise_len (l := l) l.length k
  unfold m_impl_Alive
  rw [rise_impl0 hK w k]
  exact alive_impl (rise_in _ _) (by omega) K 0 (Nat.zero_le _) (by omega)

def okHandle (h : T_impl_Handle) : Bool := bif decide (h.fSlot ≥ 0) then decide (h.fGen ≥ 1) else false
theorem handleOk_spec (K : Nat) (h : T_impl_Handle) : m_spec_HandleOk K h = some (okHandle h) := by
  unfold m_spec_HandleOk okHandle; cases decide (h.fSlot ≥ 0) <;> rfl
theorem handleOk_impl (K : Nat) (h : T_impl_Handle) : m_impl_HandleOk K h = some (okHandle h) := by
  unfold m_impl_HandleOk okHandle; cases decide (h.fSlot ≥ 0) <;> rfl
def findL (l : List T_impl_Node) (h : T_impl_Handle) : Int × Int := bif okHandle h then (bif decide (placeL l h < 0) then (-1, 2) else (bif aliveL l (placeL l h) then (placeL l h, 0) else (-1, 2))) else (-1, 1)
include hK in
theorem findRoom_spec {w : T_impl_World} (hw : Wf_Limpl_Node w.fL) (h : T_impl_Handle) : m_spec_FindRoom K w h = some (findL w.fL h) := by
  have hb := wf_len hw.2.1 (by decide)
  unfold m_spec_FindRoom findL
  rw [handleOk_spec, placeOf_spec K hb]
  simp only [Option.bind_some]
  cases okHandle h with
  | false => rfl
  | true =>
    simp only [cond_true]
    cases e : decide (placeL w.fL h < 0) with
    | true => rfl
    | false =>
      have h1 := placeL_in (of_decide_eq_false e)
      simp only [cond_false]
      rw [alive_spec0 hK hw _ ⟨by omega, by omega⟩]
      simp only [Option.bind_some]
      cases aliveL w.fL (placeL w.fL h) <;> rfl
include hK in
theorem findRoom_impl {w : T_impl_World} (hw : Wf_Limpl_Node w.fL) (h : T_impl_Handle) : m_impl_FindRoom K w h = some (findL w.fL h) := by
  have hb := wf_len hw.2.1 (by decide)
  unfold m_impl_FindRoom findL
  rw [handleOk_impl, placeOf_impl K hb]
  simp only [Option.bind_some]
  cases okHandle h with
  | false => rfl
  | true =>
    simp only [cond_true]
    cases e : decide (placeL w.fL h < 0) with
    | true => rfl
    | false =>
      simp only [cond_false]
      rw [alive_impl0 hK hw]
      simp only [Option.bind_some]
      cases aliveL w.fL (placeL w.fL h) <;> rfl
theorem findL_in {l : List T_impl_Node} {h : T_impl_Handle} (h0 : (findL l h).2 = 0) : 0 ≤ (findL l h).1 ∧ (findL l h).1 < (l.length : Int) := by
  unfold findL at *
  cases e1 : okHandle h with
  | false => rw [e1] at h0; simp at h0
  | true =>
    rw [e1] at h0
    simp only [cond_true] at *
    cases e : decide (placeL l h < 0) with
    | true => rw [e] at h0; simp at h0
    | false =>
      rw [e] at h0
      simp only [cond_false] at *
      cases e2 : aliveL l (placeL l h) with
      | false => rw [e2] at h0; simp at h0
      | true => exact placeL_in (of_decide_eq_false e)
end

theorem wf_cvL {a : T_laws_World} (w : Wf_laws_World a) : Wf_Limpl_Node (cvWorld a).fL := (wf_cvWorld w).2.2.1
theorem refOk_same (K : Nat) (r : T_impl_Ref) : ∃ t, m_spec_RefOk K r = some t ∧ m_impl_RefOk K r = some t := by
  unfold m_spec_RefOk m_impl_RefOk
  rw [handleOk_spec, handleOk_impl]
  simp only [Option.bind_some]
  cases okHandle r.fH <;> cases decide (r.fEp ≥ 0) <;> exact ⟨_, rfl, rfl⟩
theorem thingOf_same (K : Nat) {n : T_impl_Node} (hn : Wf_impl_Node n) (r : T_impl_Ref) : ∃ t, m_spec_ThingOf K n r = some t ∧ m_impl_ThingOf K n r = some t ∧ Wf_impl_Thing t.1 := by
  have wz : Wf_impl_Thing (T_impl_Thing.mk 0 0 0) := ⟨wf_i64.2 (by decide), wf_i64.2 (by decide), wf_i64.2 (by decide)⟩
  obtain ⟨_, _, _, _, _, _, _, _, _, _, _, h2, _⟩ := hn
  have hl := wf_len h2.2.1 (by decide)
  unfold m_spec_ThingOf m_impl_ThingOf
  rw [place_in K hl, within_in K hl]
  simp only [Option.bind_some]
  by_cases hs : 0 ≤ r.fNo ∧ r.fNo < (n.fThings.length : Int)
  · rw [decide_eq_true hs, if_pos hs]
    have wt := h2.1 _ (gt_memI hs.1 hs.2)
    cases n.fSt != 1 <;> cases n.fEp != r.fEp <;> first | exact ⟨_, rfl, rfl, wz⟩ | exact ⟨_, rfl, rfl, wt⟩
  · rw [decide_eq_false hs]
    cases n.fSt != 1 <;> cases n.fEp != r.fEp <;> exact ⟨_, rfl, rfl, wz⟩
theorem findThing_same {K : Nat} (hK : 281474976710656 ≤ K) {w : T_impl_World} (hw : Wf_Limpl_Node w.fL) (r : T_impl_Ref) : ∃ t, m_spec_FindThing K w r = some t ∧ m_impl_FindThing K w r = some t ∧ Wf_impl_Thing t.2.1 := by
  have wz : Wf_impl_Thing (T_impl_Thing.mk 0 0 0) := ⟨wf_i64.2 (by decide), wf_i64.2 (by decide), wf_i64.2 (by decide)⟩
  unfold m_spec_FindThing m_impl_FindThing
  obtain ⟨t, h1, h2⟩ := refOk_same K r
  rw [h1, h2, findRoom_spec hK hw, findRoom_impl hK hw]
  simp only [Option.bind_some]
  cases t with
  | false => exact ⟨_, rfl, rfl, wz⟩
  | true =>
    simp only [cond_true]
    by_cases h0 : (findL w.fL r.fH).2 = 0
    · have hi := findL_in h0
      rw [if_pos hi, if_pos hi, h0]
      obtain ⟨q, h3, h4, h5⟩ := thingOf_same K (hw.1 _ (gt_memI hi.1 hi.2)) r
      rw [h3, h4]
      simp only [Option.bind_some]
      cases q.2 <;> first | exact ⟨_, rfl, rfl, wz⟩ | exact ⟨_, rfl, rfl, h5⟩
    · have : ((findL w.fL r.fH).2 != 0) = true := by simpa using h0
      rw [this]
      exact ⟨_, rfl, rfl, wz⟩

/-! ### Bytes are read -/
def getL (mem : List Int) (p n : Int) : List Int × Bool := if 0 ≤ p ∧ 0 ≤ n ∧ p + n ≤ (mem.length : Int) then ((mem.drop p.toNat).take n.toNat, true) else ([], false)
theorem clone_ok (K : Nat) {b : List Int} (hl : b.length ≤ 140737488355328) : m_slices_Clone_byte_byte K b = some b := by
  unfold m_slices_Clone_byte_byte
  rw [if_pos ⟨by simp; omega, by simp [maxLen]; omega⟩]
  rfl
theorem cut_len {mem : List Int} (a b : Nat) : ((mem.drop a).take b).length ≤ mem.length := by simp; omega
theorem there_eq (K : Nat) {mem : List Int} (hl : mem.length ≤ 140737488355327) (p n : Int) : m_spec_l2There K mem p n = some (decide (0 ≤ p ∧ 0 ≤ n ∧ p + n ≤ (mem.length : Int))) := by
  unfold m_spec_l2There
  by_cases h1 : (0 : Int) ≤ p
  · rw [decide_eq_true (show p ≥ 0 from h1)]
    by_cases h2 : (0 : Int) ≤ n
    · rw [decide_eq_true (show n ≥ 0 from h2)]
      by_cases h3 : p ≤ (mem.length : Int)
      · rw [decide_eq_true h3]
        simp only [cond_true, Option.some.injEq, decide_eq_decide]
        unfold iSub
        rw [i64_id (by omega) (by omega)]
        omega
      · rw [decide_eq_false h3]
        simp only [cond_true, cond_false, Option.some.injEq]
        exact (decide_eq_false (by omega)).symm
    · rw [decide_eq_false (show ¬ n ≥ 0 from h2)]
      simp only [cond_true, cond_false, Option.some.injEq]
      exact (decide_eq_false (by omega)).symm
  · rw [decide_eq_false (show ¬ p ≥ 0 from h1)]
    simp only [cond_false, Option.some.injEq]
    exact (decide_eq_false (by omega)).symm
theorem has_eq (K : Nat) {m : Nat} (hl : m ≤ 140737488355327) (p n : Int) : m_impl_has K (m : Int) p n = some (decide (0 ≤ p ∧ 0 ≤ n ∧ p + n ≤ (m : Int))) := by
  unfold m_impl_has m_impl_within
  by_cases h2 : (0 : Int) ≤ n
  · rw [decide_eq_true (show n ≥ 0 from h2)]
    by_cases h3 : n ≤ (m : Int)
    · rw [decide_eq_true h3]
      by_cases h1 : (0 : Int) ≤ p
      · rw [decide_eq_true (show p ≥ 0 from h1)]
        simp only [cond_true, Option.bind_some, Option.some.injEq, decide_eq_decide]
        unfold iSub
        rw [i64_id (by omega) (by omega)]
        omega
      · rw [decide_eq_false (show ¬ p ≥ 0 from h1)]
        simp only [cond_true, cond_false, Option.bind_some, Option.some.injEq]
        exact (decide_eq_false (by omega)).symm
    · rw [decide_eq_false h3]
      simp only [cond_true, cond_false, Option.some.injEq]
      exact (decide_eq_false (by omega)).symm
  · rw [decide_eq_false (show ¬ n ≥ 0 from h2)]
    simp only [cond_false, Option.some.injEq]
    exact (decide_eq_false (by omega)).symm
theorem getAt_spec (K : Nat) {mem : List Int} (hl : mem.length ≤ 140737488355327) (p n : Int) : m_spec_GetAt K mem p n = some (getL mem p n) := by
  unfold m_spec_GetAt getL
  rw [there_eq K hl]
  simp only [Option.bind_some]
  by_cases h : 0 ≤ p ∧ 0 ≤ n ∧ p + n ≤ (mem.length : Int)
  · rw [decide_eq_true h, if_pos h]
    simp only [cond_true]
    have e : iAdd .i64 p n = p + n := by unfold iAdd; rw [i64_id (by omega) (by omega)]
    have hc := cut_len (mem := mem) p.toNat (p + n - p).toNat
    rw [e, if_pos ⟨by omega, by omega, by omega⟩, if_pos ⟨by simp only [List.nil_append, Nat.mul_one]; omega, by simp only [List.nil_append, maxLen]; omega⟩]
    rw [show p + n - p = n from by omega]
    rfl
  · rw [decide_eq_false h, if_neg h]; rfl
theorem getAt_impl (K : Nat) {mem : List Int} (hl : mem.length ≤ 140737488355327) (p n : Int) : m_impl_GetAt K mem p n = some (getL mem p n) := by
  unfold m_impl_GetAt getL
  rw [has_eq K hl]
  simp only [Option.bind_some]
  by_cases h : 0 ≤ p ∧ 0 ≤ n ∧ p + n ≤ (mem.length : Int)
  · rw [decide_eq_true h, if_pos h]
    simp only [cond_true]
    have e : iAdd .i64 p n = p + n := by unfold iAdd; rw [i64_id (by omega) (by omega)]
    have hc := cut_len (mem := mem) p.toNat (p + n - p).toNat
    rw [e, if_pos ⟨by omega, by omega, by omega⟩, clone_ok K (by omega)]
    rw [show p + n - p = n from by omega]
    rfl
  · rw [decide_eq_false h, if_neg h]; rfl
def readL (mem : List Int) (t : T_impl_Thing) (at_ n : Int) : List Int × Bool := if 0 ≤ at_ ∧ 0 ≤ n ∧ at_ + n ≤ t.fLen then getL mem (iAdd .i64 t.fAt at_) n else ([], false)
theorem getL_neg {mem : List Int} {p n : Int} (h : p < 0) : getL mem p n = ([], false) := by unfold getL; rw [if_neg (by omega)]
theorem readThing_spec (K : Nat) {mem : List Int} (hl : mem.length ≤ 140737488355327) {t : T_impl_Thing} (wt : Wf_impl_Thing t) (at_ n : Int) : m_spec_ReadThing K mem t at_ n = some (readL mem t at_ n) := by
  have wl := wf_i64.1 wt.2.1
  unfold m_spec_ReadThing m_spec_l11In readL
  by_cases h1 : (0 : Int) ≤ at_
  · rw [decide_eq_true (show at_ ≥ 0 from h1)]
    by_cases h2 : (0 : Int) ≤ n
    · rw [decide_eq_true (show n ≥ 0 from h2)]
      by_cases h3 : at_ ≤ t.fLen
      · rw [decide_eq_true h3]
        have e : iSub .i64 t.fLen at_ = t.fLen - at_ := by unfold iSub; rw [i64_id (by omega) (by omega)]
        rw [e]
        by_cases h4 : n ≤ t.fLen - at_
        · rw [decide_eq_true h4, if_pos ⟨h1, h2, by omega⟩]
          simp only [cond_true, getAt_spec K hl]
          cases decide (t.fAt < 0) with
          | true => rfl
          | false =>
            by_cases h5 : (0 : Int) ≤ iAdd .i64 t.fAt at_
            · rw [decide_eq_true (show iAdd .i64 t.fAt at_ ≥ 0 from h5)]; rfl
            · rw [decide_eq_false (show ¬ iAdd .i64 t.fAt at_ ≥ 0 from h5), getL_neg (by omega)]; rfl
        · rw [decide_eq_false h4, if_neg (by omega)]; rfl
      · rw [decide_eq_false h3, if_neg (by omega)]; rfl
    · rw [decide_eq_false (show ¬ n ≥ 0 from h2), if_neg (by omega)]; rfl
  · rw [decide_eq_false (show ¬ at_ ≥ 0 from h1), if_neg (by omega)]; rfl
theorem startOf_eq (K : Nat) {mem : List Int} (hl : mem.length ≤ 140737488355327) {t : T_impl_Thing} (wt : Wf_impl_Thing t) (at_ n : Int) :
    ∃ r, m_impl_startOf K mem t at_ n = some r ∧ r.2 = decide ((0 ≤ at_ ∧ 0 ≤ n ∧ at_ + n ≤ t.fLen) ∧ 0 ≤ iAdd .i64 t.fAt at_ ∧ iAdd .i64 t.fAt at_ + n ≤ (mem.length : Int)) ∧ (r.2 = true → r.1 = iAdd .i64 t.fAt at_) := by
  have wl := wf_i64.1 wt.2.1
  unfold m_impl_startOf
  by_cases h1 : at_ < 0
  · rw [decide_eq_true h1]; exact ⟨_, rfl, (decide_eq_false (by omega)).symm, fun h => by cases h⟩
  · rw [decide_eq_false h1]
    by_cases h2 : n < 0
    · rw [decide_eq_true h2]; exact ⟨_, rfl, (decide_eq_false (by omega)).symm, fun h => by cases h⟩
    · rw [decide_eq_false h2]
      by_cases h3 : n > t.fLen
      · rw [decide_eq_true h3]; exact ⟨_, rfl, (decide_eq_false (by omega)).symm, fun h => by cases h⟩
      · rw [decide_eq_false h3]
        have e : iSub .i64 t.fLen n = t.fLen - n := by unfold iSub; rw [i64_id (by omega) (by omega)]
        rw [e]
        by_cases h4 : at_ > t.fLen - n
        · rw [decide_eq_true h4]; exact ⟨_, rfl, (decide_eq_false (by omega)).symm, fun h => by cases h⟩
        · rw [decide_eq_false h4]
          by_cases h5 : iAdd .i64 t.fAt at_ < 0
          · rw [decide_eq_true h5]; exact ⟨_, rfl, (decide_eq_false (by omega)).symm, fun h => by cases h⟩
          · rw [decide_eq_false h5, has_eq K hl]
            refine ⟨_, rfl, ?_, fun _ => rfl⟩
            simp only [decide_eq_decide]
            omega
theorem readThing_impl (K : Nat) {mem : List Int} (hl : mem.length ≤ 140737488355327) {t : T_impl_Thing} (wt : Wf_impl_Thing t) (at_ n : Int) : m_impl_ReadThing K mem t at_ n = some (readL mem t at_ n) := by
  obtain ⟨r, h1, h2, h3⟩ := startOf_eq K hl wt at_ n
  unfold m_impl_ReadThing readL
  rw [h1]
  simp only [Option.bind_some]
  by_cases hc : 0 ≤ at_ ∧ 0 ≤ n ∧ at_ + n ≤ t.fLen
  · rw [if_pos hc]
    by_cases hd : 0 ≤ iAdd .i64 t.fAt at_ ∧ iAdd .i64 t.fAt at_ + n ≤ (mem.length : Int)
    · have e : r.2 = true := by rw [h2]; exact decide_eq_true ⟨hc, hd⟩
      rw [e, h3 e, getAt_impl K hl]; rfl
    · have e : r.2 = false := by rw [h2]; exact decide_eq_false (fun h => hd h.2)
      rw [e]
      unfold getL
      rw [if_neg (by omega)]; rfl
  · have e : r.2 = false := by rw [h2]; exact decide_eq_false (fun h => hc h.1)
    rw [e, if_neg hc]; rfl
theorem readL_len {mem : List Int} {t : T_impl_Thing} {at_ n : Int} : (readL mem t at_ n).1.length ≤ mem.length := by
  unfold readL getL
  split
  · split
    · exact cut_len _ _
    · exact Nat.zero_le _
  · exact Nat.zero_le _
theorem isZero_spec {K : Nat} {a : List Int} (hl : a.length ≤ 140737488355327) : ∀ (n i : Nat), i ≤ a.length → a.length - i < n → l_spec_IsZero_2 K a n (i : Int) = some ((a.drop i).all (fun x => x == 0)) := by
  intro n
  induction n with
  | zero => intro i _ h; omega
  | succ n ih =>
    intro i hi hn
    rw [l_spec_IsZero_2]
    rcases Nat.lt_or_ge i a.length with h | h
    · rw [dlt_t h, if_pos ⟨by omega, by omega⟩, iAdd1 (i := i) (by omega), ih (i + 1) h (by omega), drop_two h, gt_nat h]
      simp only [cond_true, List.all_cons]
      by_cases e : a[i] = 0
      · simp [e]
      · rw [bne_t e, beq_f e]; simp
    · rw [dlt_f h, List.drop_eq_nil_of_le h]; rfl
theorem indexZ {K : Nat} {a : List Int} (hl : a.length ≤ 140737488355327) : ∀ (n i : Nat), i ≤ a.length → a.length - i < n → ∃ t, l_slices_IndexFunc_byte_byte_impl_IsZero_1_2 K a n (i : Int) = some t ∧ decide (t ≥ 0) = !((a.drop i).all (fun x => x == 0)) := by
  intro n
  induction n with
  | zero => intro i _ h; omega
  | succ n ih =>
    intro i hi hn
    rw [l_slices_IndexFunc_byte_byte_impl_IsZero_1_2]
    unfold m_impl_IsZero_1
    rcases Nat.lt_or_ge i a.length with h | h
    · obtain ⟨t, h1, h2⟩ := ih (i + 1) h (by omega)
      rw [dlt_t h, if_pos ⟨by omega, by omega⟩, iAdd1 (i := i) (by omega), h1, drop_two h, gt_nat h]
      simp only [cond_true, List.all_cons, Option.bind_some]
      by_cases e : a[i] = 0
      · have e1 : (a[i] != 0) = false := by simp [e]
        rw [e1]
        exact ⟨t, rfl, by rw [h2]; simp [e]⟩
      · rw [bne_t e, beq_f e]
        exact ⟨_, rfl, by simp⟩
    · rw [dlt_f h, List.drop_eq_nil_of_le h]; exact ⟨_, rfl, by decide⟩
theorem isZero_same {K : Nat} (hK : 281474976710656 ≤ K) {a : List Int} (hl : a.length ≤ 140737488355327) : m_spec_IsZero K a = some (a.all (fun x => x == 0)) ∧ m_impl_IsZero K a = some (a.all (fun x => x == 0)) := by
  constructor
  · exact isZero_spec (K := K) hl K 0 (Nat.zero_le _) (by omega)
  · unfold m_impl_IsZero m_slices_ContainsFunc_byte_byte_impl_IsZero_1 m_slices_IndexFunc_byte_byte_impl_IsZero_1
    obtain ⟨t, h1, h2⟩ := indexZ (K := K) hl K 0 (Nat.zero_le _) (by omega)
    rw [show (0 : Int) = ((0 : Nat) : Int) from rfl, h1]
    simp only [Option.bind_some]
    rw [show ((0 : Nat) : Int) = 0 from rfl, h2]
    simp

theorem freshOf_same {K : Nat} (hK : 281474976710656 ≤ K) {w : T_impl_World} (hw : Wf_impl_World w) (r : T_impl_Ref) : ∃ t, m_spec_FreshOf K w r = some t ∧ m_impl_FreshOf K w r = some t := by
  obtain ⟨t, h1, h2, h3⟩ := findThing_same hK hw.2.2.1 r
  have hl := wf_len hw.2.1.1.2.1 (by decide)
  unfold m_spec_FreshOf m_impl_FreshOf
  rw [h1, h2]
  simp only [Option.bind_some, readThing_spec K hl h3, readThing_impl K hl h3]
  have hr := readL_len (mem := w.fP.fMem) (t := t.2.1) (at_ := 0) (n := t.2.1.fLen)
  obtain ⟨z1, z2⟩ := isZero_same hK (a := (readL w.fP.fMem t.2.1 0 t.2.1.fLen).1) (by omega)
  rw [z1, z2]
  by_cases h0 : t.2.2 = 0
  · rw [h0]
    cases (readL w.fP.fMem t.2.1 0 t.2.1.fLen).2 <;> exact ⟨_, rfl, rfl⟩
  · rw [bne_t h0, beq_f h0]
    exact ⟨_, rfl, rfl⟩
theorem pure_FnExactFreshOf (a : T_laws_World) (h : T_laws_Ref) (w : Wf_laws_World a) (_ : Wf_laws_Ref h) : ∃ K, m_laws_FnExactFreshOf K a h = some true := by
  refine ⟨K0, ?_⟩
  obtain ⟨r, hr⟩ := szWorld_w (Nat.le_refl K0) w 1048576
  unfold m_laws_FnExactFreshOf m_laws_toRef m_laws_toHandle
  rw [hr, toWorld_w (Nat.le_refl K0) w]
  simp only [Option.bind_some]
  obtain ⟨t, h1, h2⟩ := freshOf_same (Nat.le_refl K0) (wf_cvWorld w) (T_impl_Ref.mk (T_impl_Handle.mk h.fH.fSlot h.fH.fGen) h.fEp h.fNo)
  simp only [h1, h2, Option.bind_some, BEq.rfl, Bool.not_true, cond_false, eqWorld_w (Nat.le_refl K0) (wf_cvWorld w), cond_true]
  exact cc _ _

end Go.Proofs.Ytemgbggfhohfeaa
