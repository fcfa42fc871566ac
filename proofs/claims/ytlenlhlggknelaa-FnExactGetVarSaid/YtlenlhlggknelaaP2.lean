/- Plain law: both readings of a varint agree. -/
import Derived.Test.YtlenlhlggknelaaP1
set_option linter.unusedVariables false
set_option linter.unusedSimpArgs false
namespace Go.Proofs.Ytlenlhlggknelaa
open Go.Eng

theorem and127 {b : Int} (h0 : 0 ≤ b) (h1 : b ≤ 255) : IntKind.i64.wrap (iAnd .u8 b 127) = iAnd .i64 b 127 := by
  have key : ∀ n : Fin 256, IntKind.i64.wrap (iAnd .u8 (n.val : Int) 127) = iAnd .i64 (n.val : Int) 127 := by decide +kernel
  have := key ⟨b.toNat, by omega⟩
  have e : ((b.toNat : Nat) : Int) = b := by omega
  simpa [e] using this
theorem gt_byte {a : List Int} (h : ∀ x ∈ a, Wf5 x) {i : Nat} (hi : i < a.length) : 0 ≤ gt a (i : Int) ∧ gt a (i : Int) ≤ 255 := by
  rw [gt_nat hi]
  have := h _ (List.getElem_mem hi)
  simp [Wf5, Lit.wf, IntKind.min, IntKind.max, IntKind.signed, IntKind.bits] at this
  exact this
theorem i64_id {n : Int} (h0 : -9223372036854775808 ≤ n) (h1 : n ≤ 9223372036854775807) : IntKind.i64.wrap n = n := by rw [IntKind.wrap_i64]; omega

theorem getVar_loop (K : Nat) (a : List Int) (hb : ∀ x ∈ a, Wf5 x) (ha : a.length ≤ 1048576) (p : Nat) (hp : p < a.length) : ∀ (n i : Nat) (v : Int), i ≤ 5 → 5 - i < n →
    ∃ r, l_spec_GetVar_3 K a (p : Int) n v (i : Int) = some r ∧ l_impl_GetVar_5 K a (p : Int) n v (i : Int) = some r := by
  intro n
  induction n with
  | zero => intro i v _ h; omega
  | succ n ih =>
    intro i v hi hn
    rw [l_spec_GetVar_3, l_impl_GetVar_5]
    have e1 : iAdd .i64 (p : Int) (i : Int) = ((p + i : Nat) : Int) := by unfold iAdd; rw [i64_id (by omega) (by omega)]; omega
    have e2 : iSub .i64 (a.length : Int) (i : Int) = (a.length : Int) - i := by unfold iSub; rw [i64_id (by omega) (by omega)]
    have e3 : iSub .i64 (a.length : Int) (p : Int) = (a.length : Int) - p := by unfold iSub; rw [i64_id (by omega) (by omega)]
    have e4 : iMul .i64 7 (i : Int) = 7 * i := by unfold iMul; rw [i64_id (by omega) (by omega)]
    have e5 : IntKind.u64.wrap (7 * (i : Int)) = 7 * i := by rw [IntKind.wrap_u64]; omega
    have e6 : iAdd .i64 (i : Int) 1 = ((i + 1 : Nat) : Int) := iAdd1 (by omega)
    rw [e1, e2, e3, e4, e5, e6]
    have d1 : decide ((p : Int) < 0) = false := by simp
    rw [d1]
    simp only [cond_false]
    rcases Nat.lt_or_ge i 5 with h5 | h5
    · have d2 : decide ((i : Int) < 5) = true := by simp; omega
      rw [d2]
      simp only [cond_true]
      rcases Nat.lt_or_ge (p + i) a.length with hl | hl
      · have d3 : decide ((p : Int) ≥ (a.length : Int) - i) = false := by simp; omega
        have d4 : decide ((i : Int) < iMin 5 ((a.length : Int) - p)) = true := by unfold iMin; split <;> simp <;> omega
        rw [d3, d4]
        simp only [cond_true, cond_false]
        obtain ⟨g0, g1⟩ := gt_byte hb hl
        rw [if_pos ⟨by omega, by omega⟩, if_pos (by omega), if_pos ⟨by omega, by omega⟩, if_pos (by omega)]
        generalize gt a ((p + i : Nat) : Int) = b at g0 g1
        rw [i64_id (by omega) (by omega), and127 g0 g1]
        cases c1 : decide (b < 128) with
        | false =>
          simp only [cond_false]
          exact ih (i + 1) _ (by omega) (by omega)
        | true =>
          simp only [cond_true]
          cases c2 : decide ((i : Int) > 0) <;> cases c3 : (b == 0) <;> simp only [cond_true, cond_false] <;>
            first
            | exact ⟨_, rfl, rfl⟩
            | (cases decide (iOr IntKind.i64 v (iShl IntKind.i64 (iAnd IntKind.i64 b 127) (7 * (i : Int))) > 1000000000) <;> exact ⟨_, rfl, rfl⟩)
      · have d3 : decide ((p : Int) ≥ (a.length : Int) - i) = true := by simp; omega
        have d4 : decide ((i : Int) < iMin 5 ((a.length : Int) - p)) = false := by unfold iMin; split <;> simp <;> omega
        rw [d3, d4]
        exact ⟨_, rfl, rfl⟩
    · have d2 : decide ((i : Int) < 5) = false := by simp; omega
      have d4 : decide ((i : Int) < iMin 5 ((a.length : Int) - p)) = false := by unfold iMin; split <;> simp <;> omega
      rw [d2, d4]
      exact ⟨_, rfl, rfl⟩

theorem getVar_same (K : Nat) (hK : 6 ≤ K) (a : List Int) (hb : ∀ x ∈ a, Wf5 x) (ha : a.length ≤ 1048576) (p : Int) : ∃ r, m_spec_GetVar K a p = some r ∧ m_impl_GetVar K a p = some r := by
  unfold m_spec_GetVar m_impl_GetVar m_impl_within
  have e3 : iSub .i64 (a.length : Int) 1 = (a.length : Int) - 1 := by unfold iSub; rw [i64_id (by omega) (by omega)]
  have e2 : iSub .i64 (a.length : Int) 0 = (a.length : Int) := by unfold iSub; rw [i64_id (by omega) (by omega)]; omega
  rw [e3]
  by_cases h : 0 ≤ p ∧ p < a.length
  · obtain ⟨q, rfl⟩ : ∃ q : Nat, p = q := ⟨p.toNat, by omega⟩
    have d1 : decide ((q : Int) ≥ 0) = true := by simp
    have d2 : decide ((q : Int) ≤ (a.length : Int) - 1) = true := by simp; omega
    rw [d1, d2]
    simp only [cond_true, Option.bind_some]
    exact getVar_loop K a hb ha q (by omega) K 0 0 (by omega) (by omega)
  · obtain ⟨K, rfl⟩ : ∃ k, K = k + 1 := ⟨K - 1, by omega⟩
    rw [l_spec_GetVar_3]
    have d0 : decide ((0 : Int) < 5) = true := by decide
    rw [d0, e2]
    simp only [cond_true]
    rcases Int.lt_or_le p 0 with h0 | h0
    · have d1 : decide (p ≥ 0) = false := by simp; omega
      have d2 : decide (p < 0) = true := by simp; omega
      rw [d1, d2]
      exact ⟨_, rfl, rfl⟩
    · have d1 : decide (p ≥ 0) = true := by simp; omega
      have d2 : decide (p < 0) = false := by simp; omega
      have d3 : decide (p ≥ (a.length : Int)) = true := by simp; omega
      have d4 : decide (p ≤ (a.length : Int) - 1) = false := by simp; omega
      rw [d1, d2, d3, d4]
      exact ⟨_, rfl, rfl⟩

theorem pure_FnExactGetVar (a : List Int) (p : Int) (h : Wf30 a) (_ : Wf3 p) : ∃ K, m_laws_FnExactGetVar K a p = some true := by
  refine ⟨a.length + 7, ?_⟩
  unfold m_laws_FnExactGetVar
  by_cases hl : (a.length : Int) > 1048576
  · have : decide ((a.length : Int) > 1048576) = true := by simp; omega
    rw [this]; rfl
  · have : decide ((a.length : Int) > 1048576) = false := by simp; omega
    rw [this]
    obtain ⟨r, h1, h2⟩ := getVar_same (a.length + 7) (by omega) a h.1 (by omega) p
    simp only [cond_false, toByteS_ok (K := a.length + 7) (a := a) (by omega) (by omega), Option.bind_some, h1, h2, bne_self_eq_false, beq_self_eq_true, Bool.not_true, eqByteS_self (K := a.length + 7) (a := a) (by omega) (by omega), cond_true]
end Go.Proofs.Ytlenlhlggknelaa
