/- Plain laws: copies and comparisons of byte slices. -/
import Derived.Test.YtlenlhlggknelaaG1
set_option linter.unusedVariables false
set_option linter.unusedSimpArgs false
namespace Go.Proofs.Ytlenlhlggknelaa
open Go.Eng

theorem iAdd1 {i : Nat} (h : i ≤ 140737488355328) : iAdd .i64 (i : Int) 1 = ((i + 1 : Nat) : Int) := by
  unfold iAdd
  rw [IntKind.wrap_i64]
  omega
theorem gt_nat {l : List Int} {i : Nat} (h : i < l.length) : gt l (i : Int) = l[i] := by
  unfold gt
  simp [h]

theorem toByteS_loop (K : Nat) (a : List Int) (ha : a.length ≤ 140737488355327) : ∀ (n i : Nat) (v : List Int), i ≤ a.length → v.length = a.length → (∀ j, j < i → v[j]? = a[j]?) → a.length - i < n →
    l_laws_toByteS_4 K a n (i : Int) v = some a := by
  intro n
  induction n with
  | zero => intro i v _ _ _ h; omega
  | succ n ih =>
    intro i v hi hv hj hn
    rw [l_laws_toByteS_4]
    rcases Nat.lt_or_ge i a.length with h | h
    · have h1 : decide ((i : Int) < (a.length : Int)) = true := by simp; omega
      rw [h1]
      simp only [cond_true]
      rw [if_pos ⟨by omega, by omega⟩, if_pos ⟨by omega, by omega⟩, iAdd1 (by omega)]
      refine ih (i + 1) _ h (by simpa using hv) (fun j hj2 => ?_) (by omega)
      rw [Int.toNat_natCast, List.getElem?_set]
      by_cases e : i = j
      · subst e
        rw [if_pos rfl, if_pos (by omega), gt_nat h, List.getElem?_eq_getElem h]
      · rw [if_neg e]; exact hj j (by omega)
    · have h1 : decide ((i : Int) < (a.length : Int)) = false := by simp; omega
      rw [h1]
      simp only [cond_false, Option.some.injEq]
      have hia : i = a.length := by omega
      refine List.ext_getElem? fun j => ?_
      rcases Nat.lt_or_ge j a.length with hja | hja
      · exact hj j (by omega)
      · rw [List.getElem?_eq_none (by omega), List.getElem?_eq_none hja]
theorem toByteS_ok {K : Nat} {a : List Int} (ha : a.length ≤ 140737488355327) (hK : a.length < K) : m_laws_toByteS K a = some a := by
  unfold m_laws_toByteS
  rw [if_pos ⟨by omega, by omega, by omega, by omega⟩]
  exact toByteS_loop K a ha K 0 _ (Nat.zero_le _) (by simp) (fun j hj => by omega) (by omega)

theorem eqByteS_loop (K : Nat) (a : List Int) (ha : a.length ≤ 140737488355327) : ∀ (n i : Nat), i ≤ a.length → a.length - i < n → l_laws_eqByteS_3 K a a n (i : Int) = some true := by
  intro n
  induction n with
  | zero => intro i _ h; omega
  | succ n ih =>
    intro i hi hn
    rw [l_laws_eqByteS_3]
    rcases Nat.lt_or_ge i a.length with h | h
    · have h1 : decide ((i : Int) < (a.length : Int)) = true := by simp; omega
      rw [h1]
      simp only [cond_true]
      rw [if_pos ⟨by omega, by omega⟩, if_pos ⟨by omega, by omega⟩, iAdd1 (by omega)]
      simp only [bne_self_eq_false, cond_false]
      exact ih (i + 1) h (by omega)
    · have h1 : decide ((i : Int) < (a.length : Int)) = false := by simp; omega
      rw [h1]
      rfl
theorem eqByteS_self {K : Nat} {a : List Int} (ha : a.length ≤ 140737488355327) (hK : a.length < K) : m_laws_eqByteS K a a = some true := by
  unfold m_laws_eqByteS
  simp only [bne_self_eq_false, cond_false]
  exact eqByteS_loop K a ha K 0 (Nat.zero_le _) (by omega)

theorem eqHandle_self (K : Nat) (a : T_impl_Handle) : m_laws_eqHandle K a a = some true := by simp [m_laws_eqHandle]
theorem eqRef_self (K : Nat) (a : T_impl_Ref) : m_laws_eqRef K a a = some true := by simp [m_laws_eqRef, eqHandle_self]
theorem eqOp_self {K : Nat} {a : T_impl_Op} (ha : a.fB.length ≤ 140737488355327) (hK : a.fB.length < K) : m_laws_eqOp K a a = some true := by simp [m_laws_eqOp, eqHandle_self, eqRef_self, eqByteS_self ha hK]
theorem eqAns_self {K : Nat} {a : T_impl_Ans} (ha : a.fB.length ≤ 140737488355327) (hK : a.fB.length < K) : m_laws_eqAns K a a = some true := by simp [m_laws_eqAns, eqHandle_self, eqRef_self, eqByteS_self ha hK]
theorem toOp_ok {K : Nat} {a : T_laws_Op} (ha : a.fB.length ≤ 140737488355327) (hK : a.fB.length < K) : ∃ b, m_laws_toOp K a = some b ∧ b.fB = a.fB := by
  simp [m_laws_toOp, m_laws_toHandle, m_laws_toRef, toByteS_ok ha hK]
theorem toAns_ok {K : Nat} {a : T_laws_Ans} (ha : a.fB.length ≤ 140737488355327) (hK : a.fB.length < K) : ∃ b, m_laws_toAns K a = some b ∧ b.fB = a.fB := by
  simp [m_laws_toAns, m_laws_toHandle, m_laws_toRef, toByteS_ok ha hK]

theorem taxed_true (a : T_laws_Op) (ha : a.fB.length ≤ 140737488355327) : ∃ K, m_laws_FnExactTaxed K a = some true := by
  refine ⟨a.fB.length + 1, ?_⟩
  obtain ⟨b, hb, he⟩ := toOp_ok ha (Nat.lt_succ_self _)
  have hq := eqOp_self (a := b) (by rw [he]; exact ha) (K := a.fB.length + 1) (by rw [he]; exact Nat.lt_succ_self _)
  unfold m_laws_FnExactTaxed m_laws_szOp m_laws_szByteS
  rw [hb]
  have h1 : m_spec_Taxed (a.fB.length + 1) b = m_impl_Taxed (a.fB.length + 1) b := rfl
  have h2 : ∃ t, m_impl_Taxed (a.fB.length + 1) b = some t := by
    unfold m_impl_Taxed
    cases (b.fKind == 1) <;> exact ⟨_, rfl⟩
  obtain ⟨t, ht⟩ := h2
  simp only [h1, ht, Option.bind_some, hq]
  cases decide (iSub IntKind.i64 1048576 (a.fB.length : Int) < 0) <;> simp
  cases decide (iSub IntKind.i64 1048576 (a.fB.length : Int) < 0) <;> simp
theorem turns_true (a : T_laws_Op) (ha : a.fB.length ≤ 140737488355327) : ∃ K, m_laws_FnExactTurns K a = some true := by
  refine ⟨a.fB.length + 1, ?_⟩
  obtain ⟨b, hb, he⟩ := toOp_ok ha (Nat.lt_succ_self _)
  have hq := eqOp_self (a := b) (by rw [he]; exact ha) (K := a.fB.length + 1) (by rw [he]; exact Nat.lt_succ_self _)
  unfold m_laws_FnExactTurns m_laws_szOp m_laws_szByteS
  rw [hb]
  have h1 : m_spec_Turns (a.fB.length + 1) b = m_impl_Turns (a.fB.length + 1) b := rfl
  have h2 : ∃ t, m_impl_Turns (a.fB.length + 1) b = some t := by
    unfold m_impl_Turns
    cases (b.fKind != 3) <;> exact ⟨_, rfl⟩
  obtain ⟨t, ht⟩ := h2
  simp only [h1, ht, Option.bind_some, hq]
  cases decide (iSub IntKind.i64 1048576 (a.fB.length : Int) < 0) <;> simp
  cases decide (iSub IntKind.i64 1048576 (a.fB.length : Int) < 0) <;> simp
theorem spent_true (a : T_laws_Ans) (ha : a.fB.length ≤ 140737488355327) : ∃ K, m_laws_FnExactSpent K a = some true := by
  refine ⟨a.fB.length + 1, ?_⟩
  obtain ⟨b, hb, he⟩ := toAns_ok ha (Nat.lt_succ_self _)
  have hq := eqAns_self (a := b) (by rw [he]; exact ha) (K := a.fB.length + 1) (by rw [he]; exact Nat.lt_succ_self _)
  unfold m_laws_FnExactSpent m_laws_szAns m_laws_szByteS
  rw [hb]
  have h1 : m_spec_Spent (a.fB.length + 1) b = m_impl_Spent (a.fB.length + 1) b := rfl
  have h2 : ∃ t, m_impl_Spent (a.fB.length + 1) b = some t := ⟨_, rfl⟩
  obtain ⟨t, ht⟩ := h2
  simp only [h1, ht, Option.bind_some, hq]
  cases decide (iSub IntKind.i64 1048576 (a.fB.length : Int) < 0) <;> simp
  cases decide (iSub IntKind.i64 1048576 (a.fB.length : Int) < 0) <;> simp
end Go.Proofs.Ytlenlhlggknelaa
