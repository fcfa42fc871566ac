/- What a row hands over, as lists and structures. -/
import Derived.Test.YtemgbggfhohfeaaEng22
import Derived.Test.YtemgbggfhohfeaaEng16
set_option linter.unusedVariables false
set_option linter.unusedSimpArgs false
namespace Go.Eng

theorem leafFs_mono {T : Tab} {f g : Nat → Option (List Nat)} (h : ∀ t l, f t = some l → g t = some l) : ∀ (gs : List (Nat × Nat)) (pos : Nat) (ls : List Nat), leafFs f T gs pos = some ls → leafFs g T gs pos = some ls := by
  intro gs
  induction gs with
  | nil => intro pos ls hl; exact hl
  | cons q r ih =>
    obtain ⟨off, t⟩ := q
    intro pos ls hl
    simp only [leafFs] at hl ⊢
    cases e1 : f t with
    | none => simp [e1] at hl
    | some l =>
      cases e2 : tg T t with
      | none => simp [e1, e2] at hl
      | some j =>
        simp only [e1, e2] at hl
        simp only [h t l e1]
        split at hl
        · rename_i hc
          rw [if_pos hc]
          obtain ⟨ls', h1, rfl⟩ := Option.map_eq_some_iff.1 hl
          rw [ih _ _ h1]; rfl
        · cases hl
theorem leafs_step {T : Tab} : ∀ (k t : Nat) (ls : List Nat), leafs T k t = some ls → leafs T (k + 1) t = some ls := by
  intro k
  induction k with
  | zero => intro t ls h; cases h
  | succ k ih =>
    intro t ls h
    unfold leafs at h ⊢
    cases et : tg T t with
    | none => simp [et] at h
    | some ti =>
      simp only [et] at h ⊢
      cases ek : ti.k with
      | int _ => simp only [ek] at h ⊢; exact h
      | bool => simp only [ek] at h ⊢; exact h
      | str => simp only [ek] at h ⊢; exact h
      | slice e =>
        simp only [ek] at h ⊢
        cases e1 : leafs T k e with
        | none => simp [e1] at h
        | some le => rw [ih _ _ e1]; rw [e1] at h; exact h
      | struct gs =>
        simp only [ek] at h ⊢
        cases e1 : leafFs (leafs T k) T gs 0 with
        | none => simp [e1] at h
        | some l => rw [leafFs_mono ih gs 0 l e1]; rw [e1] at h; exact h
      | array n e =>
        simp only [ek] at h ⊢
        cases e1 : leafs T k e with
        | none => simp [e1] at h
        | some le => rw [ih _ _ e1]; rw [e1] at h; exact h
      | ptr _ => simp [ek] at h
      | other => simp [ek] at h
theorem leafs_le {T : Tab} {k t : Nat} {ls : List Nat} (h : leafs T k t = some ls) : ∀ n, leafs T (k + n) t = some ls := by
  intro n
  induction n with
  | zero => exact h
  | succ n ih => exact leafs_step _ _ _ ih
theorem leafs_one {T : Tab} {a b t : Nat} {l l' : List Nat} (h : leafs T a t = some l) (h' : leafs T b t = some l') : l = l' := by
  have h1 := leafs_le h b
  have h2 := leafs_le h' a
  rw [Nat.add_comm] at h2
  rw [h1] at h2
  exact Option.some.inj h2

theorem lf_int {T : Tab} {t : Nat} {v : V} {ti : TI} {k : IntKind} (h : Lf T t v) (ht : tg T t = some ti) (hk : ti.k = .int k) : ∃ n, v = .int k n ∧ (Lit.int k n).wf = true := by
  cases h with
  | int ht' hk' hw => rw [ht] at ht'; cases ht'; rw [hk] at hk'; cases hk'; exact ⟨_, rfl, hw⟩
  | bool ht' hk' => rw [ht] at ht'; cases ht'; rw [hk] at hk'; cases hk'
  | str ht' hk' => rw [ht] at ht'; cases ht'; rw [hk] at hk'; cases hk'
  | row ht' hk' => rw [ht] at ht'; cases ht'; rw [hk] at hk'; cases hk'
theorem lf_bool {T : Tab} {t : Nat} {v : V} {ti : TI} (h : Lf T t v) (ht : tg T t = some ti) (hk : ti.k = .bool) : ∃ b, v = .bool b := by
  cases h with
  | int ht' hk' hw => rw [ht] at ht'; cases ht'; rw [hk] at hk'; cases hk'
  | bool ht' hk' => exact ⟨_, rfl⟩
  | str ht' hk' => rw [ht] at ht'; cases ht'; rw [hk] at hk'; cases hk'
  | row ht' hk' => rw [ht] at ht'; cases ht'; rw [hk] at hk'; cases hk'
theorem lf_str {T : Tab} {t : Nat} {v : V} {ti : TI} (h : Lf T t v) (ht : tg T t = some ti) (hk : ti.k = .str) : ∃ s, v = .str s ∧ s.size ≤ reachBytes := by
  cases h with
  | int ht' hk' hw => rw [ht] at ht'; cases ht'; rw [hk] at hk'; cases hk'
  | bool ht' hk' => rw [ht] at ht'; cases ht'; rw [hk] at hk'; cases hk'
  | str ht' hk' hs => exact ⟨_, rfl, hs⟩
  | row ht' hk' => rw [ht] at ht'; cases ht'; rw [hk] at hk'; cases hk'
/-- A slice: R: what is known of an element. -/
theorem lf_row {T : Tab} {t e : Nat} {v : V} {ti te : TI} {ls : List Nat} {α : Type} {f : α → List V} {R : α → Prop} (h : Lf T t v) (ht : tg T t = some ti) (hk : ti.k = .slice e) (he : tg T e = some te) (hl : leafs T 50 e = some ls)
    (hr : ∀ x : List V, x.length = ls.length → (∀ (i : Nat) l v, ls[i]? = some l → x[i]? = some v → Lf T l v) → ∃ a, x = f a ∧ R a) :
    ∃ l : List α, v = .row false te.size (l.map f) ∧ (∀ a ∈ l, R a) ∧ l.length * te.bytes ≤ reachBytes ∧ l.length ≤ maxLen := by
  cases h with
  | int ht' hk' hw => rw [ht] at ht'; cases ht'; rw [hk] at hk'; cases hk'
  | bool ht' hk' => rw [ht] at ht'; cases ht'; rw [hk] at hk'; cases hk'
  | str ht' hk' => rw [ht] at ht'; cases ht'; rw [hk] at hk'; cases hk'
  | @row _ _ e' te' fu ls' xs ht' hk' he' hl' hxl hx hb hm =>
    rw [ht] at ht'; cases ht'; rw [hk] at hk'; cases hk'
    rw [he] at he'; cases he'
    have hls := leafs_one hl' hl
    subst hls
    have : ∀ ys : List (List V), (∀ x ∈ ys, x ∈ xs) → ∃ l : List α, ys = l.map f ∧ ∀ a ∈ l, R a := by
      intro ys
      induction ys with
      | nil => intro _; exact ⟨[], rfl, by simp⟩
      | cons y r ih =>
        intro hy
        obtain ⟨l, h1, h2⟩ := ih (fun x hx => hy x (by simp [hx]))
        obtain ⟨a, h3, h4⟩ := hr y (hxl y (hy y (by simp))) (hx y (hy y (by simp)))
        exact ⟨a :: l, by simp [h1, h3], fun b hb => (List.mem_cons.1 hb).elim (fun h => h ▸ h4) (h2 b)⟩
    obtain ⟨l, h1, h2⟩ := this xs (fun x hx => hx)
    subst h1
    rw [List.length_map] at hb hm
    exact ⟨l, rfl, h2, hb, hm⟩
theorem ta_one {T : Tab} {t : Nat} {x : A} {ti : TI} (h : TA T t x) (ht : tg T t = some ti) (hk : ti.k.agg = false) : ∃ v, x = .c v ∧ Lf T t v := by
  obtain ⟨ti', ls, h1, h2, h3⟩ := h
  rw [ht] at h1; cases h1
  rcases h3 with ⟨h, _⟩ | ⟨_, v, rfl, h⟩
  · rw [hk] at h; cases h
  · exact ⟨v, rfl, h⟩
theorem ta_agg {T : Tab} {t : Nat} {x : A} {ti : TI} {ls : List Nat} (h : TA T t x) (ht : tg T t = some ti) (hk : ti.k.agg = true) (hl : leafs T 50 t = some ls) : ∃ vs, x = .g vs ∧ vs.length = ls.length ∧ ∀ (i : Nat) l v, ls[i]? = some l → vs[i]? = some v → Lf T l v := by
  obtain ⟨ti', ls', h1, h2, h3⟩ := h
  rw [ht] at h1; cases h1
  rw [hl] at h2; cases h2
  rcases h3 with ⟨_, vs, rfl, h4, h5⟩ | ⟨h, _⟩
  · exact ⟨vs, rfl, h4, h5⟩
  · rw [hk] at h; cases h
end Go.Eng
