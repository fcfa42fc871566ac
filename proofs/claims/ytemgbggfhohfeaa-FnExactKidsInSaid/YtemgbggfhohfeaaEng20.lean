/- Loops and joins, by what is left to do; the words that the printed proofs use. -/
import Derived.Test.YtemgbggfhohfeaaEng19
set_option linter.unusedVariables false
set_option linter.unusedSimpArgs false
namespace Go.Eng

/-- Whatever is in state S is in state S'. -/
def Wk (S S' : St) : Prop := ∀ (F : Fr) (a : Act) (w : World), RS F S a w → RS F S' a w
theorem Wk.refl (S : St) : Wk S S := fun _ _ _ h => h
theorem Wk.trans {S S' S'' : St} (h : Wk S S') (h' : Wk S' S'') : Wk S S'' := fun F a w hs => h' F a w (h F a w hs)
theorem wk_can {S : St} (lt lh : List Nat) {l : List (Nat × A)} {h : List (Nat × Blk)} (h1 : keepE S lt = l) (h2 : keepH S lh = h) : Wk S (StL l h) := by
  subst h1; subst h2
  rintro F a w ⟨hd, hsz, σ, β, hs⟩
  exact ⟨hd, hsz, σ, β, hs.can lt lh⟩
theorem wk_frz {S : St} (id : Nat) {B : Blk} (hB : S.H id = some B) (hcl : allClosed B = true) : Wk S (S.frz id B) := by
  rintro F a w ⟨hd, hsz, σ, β, hs⟩
  exact ⟨hd, hsz, _, β, hs.frz hB hcl⟩
theorem W.weak {F : Fr} {c : Code} {S S' : St} {Q : Exit → St → Prop} (h : Wk S S') (k : W F c S' Q) : W F c S Q := fun a w hs => k a w (h F a w hs)

/-- A loop: I: what holds at its head. -/
theorem W_loopW {F : Fr} {S : St} {Q : Exit → St → Prop} {c : Code} (I : Nat → St → Prop) (n : Nat) (h0 : I n S)
    (h : ∀ n S, I n S → W F c S (Exit.andThen (fun S' => ∃ m S0, m < n ∧ Wk S' S0 ∧ I m S0) Q)) : W F (.loop c) S Q := by
  refine W_loop (fun n S => ∃ S0, Wk S S0 ∧ I n S0) n ⟨S, Wk.refl S, h0⟩ ?_
  rintro n S ⟨S0, hw, hI⟩
  refine W.weak hw ((h n S0 hI).mono ?_)
  intro e S' hq
  cases e with
  | normal =>
    obtain ⟨m, S1, h1, h2, h3⟩ := hq
    exact ⟨m, h1, S1, h2, h3⟩
  | exit id => exact hq
  | goto l => exact hq
  | ret => exact hq
  | panic c => exact hq
  | outgrown => exact hq
/-- Two roads that come together. -/
theorem W_join {F : Fr} {S : St} {Q : Exit → St → Prop} {c d : Code} (I : St → Prop) (h1 : ∀ S, I S → W F d S Q) (h : W F c S (Exit.andThen (fun S' => ∃ S0, Wk S' S0 ∧ I S0) Q)) : W F (.seq c d) S Q := by
  refine W_seq (h.mono ?_)
  intro e S' hq
  cases e with
  | normal =>
    obtain ⟨S0, g1, g2⟩ := hq
    exact W.weak g1 (h1 S0 g2)
  | exit id => exact hq
  | goto l => exact hq
  | ret => exact hq
  | panic c => exact hq
  | outgrown => exact hq
theorem W_true {F : Fr} {S : St} {Q : Exit → St → Prop} {x : Operand} {c d : Code} (hx : S.val [] x = .c (.bool true)) (h : W F c S Q) : W F (.cond x c d) S Q := W_cond hx h
theorem W_false {F : Fr} {S : St} {Q : Exit → St → Prop} {x : Operand} {c d : Code} (hx : S.val [] x = .c (.bool false)) (h : W F d S Q) : W F (.cond x c d) S Q := W_cond hx h

section
variable {next : St → Prop} {Q : Exit → St → Prop} {S : St} {i j : Nat}
theorem ex_then (h : Q (.exit i) S) : Exit.andThen next Q (.exit i) S := h
theorem ex_hit (h : Q .normal S) : Exit.shutBlock i Q (.exit i) S := by
  show (if i = i then Q .normal S else Q (.exit i) S)
  rw [if_pos rfl]; exact h
theorem ex_miss (hne : Nat.beq i j = false) (h : Q (.exit i) S) : Exit.shutBlock j Q (.exit i) S := by
  show (if i = j then Q .normal S else Q (.exit i) S)
  rw [if_neg (fun e => by subst e; simp at hne)]; exact h
theorem no_then (h : next S) : Exit.andThen next Q .normal S := h
theorem no_block (h : Q .normal S) : Exit.shutBlock j Q .normal S := h
theorem re_then (h : Q .ret S) : Exit.andThen next Q .ret S := h
theorem re_block (h : Q .ret S) : Exit.shutBlock j Q .ret S := h
end

/-! ### Checks and calls of a model -/
theorem chk {α : Type} {c : Prop} [Decidable c] {x : Option α} {r : α} (h : (if c then x else none) = some r) : c ∧ x = some r := by
  by_cases hc : c
  · rw [if_pos hc] at h; exact ⟨hc, h⟩
  · rw [if_neg hc] at h; cases h
theorem bnd2 {α β : Type} {x : Option α} {f : α → Option β} {r : β} (h : x.bind f = some r) : ∃ y, x = some y ∧ f y = some r := Option.bind_eq_some_iff.1 h
/-- A branch of a model. -/
theorem brT {α : Type} {b : Bool} {x y z : α} (hb : b = true) (h : (bif b then x else y) = z) : x = z := by subst hb; exact h
theorem brF {α : Type} {b : Bool} {x y z : α} (hb : b = false) (h : (bif b then x else y) = z) : y = z := by subst hb; exact h

/-- The end of a function, where its result stands. -/
theorem r0 {S : St} {T : Tab} {l : List ResultVar} {u res : A} (h : resAll T S l = some u) (hu : u.lowT false [] S.H = res) : Ret T l 0 res [] .ret S :=
  ⟨.inr rfl, [], u, .nil, fun i hi => absurd hi (Nat.not_lt_zero _), fun id hi => absurd hi (by simp), h, hu, rfl⟩
theorem r0w {Q : Exit → St → Prop} {F : Fr} {S S' : St} (h : Wk S S') (k : W F .ret S' Q) : W F .ret S Q := W.weak h k

/-! ### An empty slice becomes a block of the call's own -/
theorem RSx.ownNil {F : Fr} {S : St} {a : Act} {w : World} {σ : Nat → List Nat} {β : Nat → Option (Nat × Nat × Nat)} (hs : RSx F S a w σ β) {t es id : Nat} (ht : S.env t = .c (.row true es [])) (hid : F.m ≤ id) :
    RSx F ⟨updE S.env t (.c (.own id (S.nv id) 0 0)), updE S.H id (some ⟨S.nv id, es, []⟩), updE S.nv id (S.nv id + 1)⟩ a w σ (updE β id none) := by
  have h1 := hs.void hid es
  refine ⟨h1.hr, h1.mpos, h1.kp, h1.inn, fun t' => ?_⟩
  show RA _ (updE S.env t (.c (.own id (S.nv id) 0 0)) t') _
  by_cases e : t' = t
  · subst e
    rw [updE_same]
    have := hs.env t'
    rw [ht] at this
    generalize a.tmps.getD t' undef = c at this
    cases inv_c this with
    | c h =>
      cases h with
      | row p o es' xs A n cap b off cs hn hcap hmax hA hT hx hc hr =>
        have h0 : cap = 0 := by
          rcases Nat.eq_zero_or_pos cap with h | h
          · exact h
          · obtain ⟨_, hp, _⟩ := hT rfl h
            exact absurd rfl hp
        refine .c (.own _ _ _ _ _ _ _ _ hn (by show S.nv id < updE S.nv id (S.nv id + 1) id; rw [updE_same]; omega) (Nat.zero_le _) hmax fun B hB _ => ?_)
        have h' : updE S.H id (some ⟨S.nv id, es, []⟩) id = some B := hB
        rw [updE_same] at h'
        cases h'
        exact ⟨by simp, .inl h0⟩
  · rw [updE_other _ _ e]
    exact h1.env t'
end Go.Eng
