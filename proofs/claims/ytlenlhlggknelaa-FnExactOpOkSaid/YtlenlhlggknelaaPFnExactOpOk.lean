/- Plain laws for FnExactOpOk. -/
import Derived.Test.YtlenlhlggknelaaGFnExactOpOk
set_option linter.unusedVariables false
set_option linter.unusedSimpArgs false
namespace Go.Proofs.Ytlenlhlggknelaa
open Go.Eng Go.ChangeShapes Go.WideShapes Go.ChangeAt Go.RowKit
theorem iAdd1 {i : Nat} (h : i ≤ 140737488355328) : iAdd .i64 (i : Int) 1 = ((i + 1 : Nat) : Int) := by
  unfold iAdd
  rw [IntKind.wrap_i64]
  omega
theorem gt_nat {l : List Int} {i : Nat} (h : i < l.length) : gt l (i : Int) = l[i] := by
  unfold gt
  simp [h]

theorem toByteS_loop (K : Nat) (a : List Int) (ha : a.length ≤ 140737488355327) : ∀ (n i : Nat) (v : List Int), i ≤ a.length → v.length = a.length → (∀ j, j < i → v[j]? = a[j]?) → a.length - i < n →
    l_laws_toByteS_4 K a n (i : Int) v = some a := by
  intro n
  induction n with
  | zero => intro i v _ _ _ h; omega
  | succ n ih =>
    intro i v hi hv hj hn
    rw [l_laws_toByteS_4]
    rcases Nat.lt_or_ge i a.length with h | h
    · have h1 : decide ((i : Int) < (a.length : Int)) = true := by simp; omega
      rw [h1]
      simp only [cond_true]
      rw [if_pos ⟨by omega, by omega⟩, if_pos ⟨by omega, by omega⟩, iAdd1 (by omega)]
      refine ih (i + 1) _ h (by simpa using hv) (fun j hj2 => ?_) (by omega)
      rw [Int.toNat_natCast, List.getElem?_set]
      by_cases e : i = j
      · subst e
        rw [if_pos rfl, if_pos (by omega), gt_nat h, List.getElem?_eq_getElem h]
      · rw [if_neg e]; exact hj j (by omega)
    · have h1 : decide ((i : Int) < (a.length : Int)) = false := by simp; omega
      rw [h1]
      simp only [cond_false, Option.some.injEq]
      have hia : i = a.length := by omega
      refine List.ext_getElem? fun j => ?_
      rcases Nat.lt_or_ge j a.length with hja | hja
      · exact hj j (by omega)
      · rw [List.getElem?_eq_none (by omega), List.getElem?_eq_none hja]
theorem toByteS_ok {K : Nat} {a : List Int} (ha : a.length ≤ 140737488355327) (hK : a.length < K) : m_laws_toByteS K a = some a := by
  unfold m_laws_toByteS
  rw [if_pos ⟨by omega, by omega, by omega, by omega⟩]
  exact toByteS_loop K a ha K 0 _ (Nat.zero_le _) (by simp) (fun j hj => by omega) (by omega)

theorem eqByteS_loop (K : Nat) (a : List Int) (ha : a.length ≤ 140737488355327) : ∀ (n i : Nat), i ≤ a.length → a.length - i < n → l_laws_eqByteS_3 K a a n (i : Int) = some true := by
  intro n
  induction n with
  | zero => intro i _ h; omega
  | succ n ih =>
    intro i hi hn
    rw [l_laws_eqByteS_3]
    rcases Nat.lt_or_ge i a.length with h | h
    · have h1 : decide ((i : Int) < (a.length : Int)) = true := by simp; omega
      rw [h1]
      simp only [cond_true]
      rw [if_pos ⟨by omega, by omega⟩, if_pos ⟨by omega, by omega⟩, iAdd1 (by omega)]
      simp only [bne_self_eq_false, cond_false]
      exact ih (i + 1) h (by omega)
    · have h1 : decide ((i : Int) < (a.length : Int)) = false := by simp; omega
      rw [h1]
      rfl
theorem eqByteS_self {K : Nat} {a : List Int} (ha : a.length ≤ 140737488355327) (hK : a.length < K) : m_laws_eqByteS K a a = some true := by
  unfold m_laws_eqByteS
  simp only [bne_self_eq_false, cond_false]
  exact eqByteS_loop K a ha K 0 (Nat.zero_le _) (by omega)


theorem eqHandle_self (K : Nat) (a : T_impl_Handle) : m_laws_eqHandle K a a = some true := by simp [m_laws_eqHandle]
theorem eqRef_self (K : Nat) (a : T_impl_Ref) : m_laws_eqRef K a a = some true := by simp [m_laws_eqRef, eqHandle_self]
theorem eqOp_self {K : Nat} {a : T_impl_Op} (ha : a.fB.length ≤ 140737488355327) (hK : a.fB.length < K) : m_laws_eqOp K a a = some true := by simp [m_laws_eqOp, eqHandle_self, eqRef_self, eqByteS_self ha hK]
theorem toOp_ok {K : Nat} {a : T_laws_Op} (ha : a.fB.length ≤ 140737488355327) (hK : a.fB.length < K) : ∃ b, m_laws_toOp K a = some b ∧ b.fB = a.fB := by
  simp [m_laws_toOp, m_laws_toHandle, m_laws_toRef, toByteS_ok ha hK]

def num (x : Int) : Bool := decide (x ≥ 0) && decide (x ≤ 1000000000)
theorem spec_num (K : Nat) (x : Int) : m_spec_l21Num K x = some (num x) := by
  unfold m_spec_l21Num m_spec_l1In num
  cases decide (x ≥ 0) <;> rfl
theorem impl_num (K : Nat) (x : Int) : m_impl_isNum K x = some (num x) := by
  unfold m_impl_isNum m_impl_within num
  cases decide (x ≥ 0) <;> rfl
theorem impl_within (K : Nat) (x a b : Int) : m_impl_within K x a b = some (decide (x ≥ a) && decide (x ≤ b)) := by
  unfold m_impl_within
  cases decide (x ≥ a) <;> rfl
theorem spec_in (K : Nat) (x a b : Int) : m_spec_l1In K x a b = some (decide (x ≥ a) && decide (x ≤ b)) := by
  unfold m_spec_l1In
  cases decide (x ≥ a) <;> rfl
theorem add0 : iAdd .i64 0 1 = 1 := by decide +kernel
theorem add1 : iAdd .i64 1 1 = 2 := by decide +kernel
theorem add2 : iAdd .i64 2 1 = 3 := by decide +kernel
theorem add3 : iAdd .i64 3 1 = 4 := by decide +kernel
theorem add4 : iAdd .i64 4 1 = 5 := by decide +kernel
theorem add5 : iAdd .i64 5 1 = 6 := by decide +kernel
theorem add6 : iAdd .i64 6 1 = 7 := by decide +kernel
theorem add7 : iAdd .i64 7 1 = 8 := by decide +kernel

def opTail (K : Nat) (a : T_impl_Op) : Option Bool := (bif (a.fKind == 3) then j_impl_OpOk_10 K a true else j_impl_OpOk_10 K a (a.fKind == 4))
theorem impl_loop (K : Nat) (a : T_impl_Op) (n : Nat) : l_impl_OpOk_5 K a (n + 9) 0 =
    bif num a.fH.fSlot then bif num a.fH.fGen then bif num a.fR.fH.fSlot then bif num a.fR.fH.fGen then bif num a.fR.fEp then bif num a.fR.fNo then bif num a.fN then bif num a.fM then opTail K a else some false else some false else some false else some false else some false else some false else some false else some false := by
  simp [l_impl_OpOk_5, impl_num, add0, add1, add2, add3, add4, add5, add6, add7, gt, opTail]

theorem opOk_same (K : Nat) (hK : 10 ≤ K) (a : T_impl_Op) : ∃ t, m_spec_OpOk K a = some t ∧ m_impl_OpOk K a = some t := by
  obtain ⟨n, rfl⟩ : ∃ n, K = n + 9 := ⟨K - 9, by omega⟩
  unfold m_spec_OpOk m_impl_OpOk
  rw [impl_loop]
  simp only [spec_num, impl_within, Option.bind_some]
  generalize num a.fH.fSlot = p1
  generalize num a.fH.fGen = p2
  generalize num a.fR.fH.fSlot = p3
  generalize num a.fR.fH.fGen = p4
  generalize num a.fR.fEp = p5
  generalize num a.fR.fNo = p6
  generalize num a.fN = p7
  generalize num a.fM = p8
  have cf : ∀ (b : Bool), (bif b then some false else some false) = some false := by intro b; cases b <;> rfl
  have cf2 : ∀ (b c : Bool), (bif b then bif c then some false else some false else some false) = some false := by intro b c; cases b <;> cases c <;> rfl
  cases p1
  · exact ⟨false, rfl, cf2 _ _⟩
  cases p2
  · exact ⟨false, rfl, cf2 _ _⟩
  cases p3
  · exact ⟨false, rfl, cf2 _ _⟩
  cases p4
  · exact ⟨false, rfl, cf2 _ _⟩
  cases p5
  · exact ⟨false, rfl, cf2 _ _⟩
  cases p6
  · exact ⟨false, rfl, cf2 _ _⟩
  cases p7
  · exact ⟨false, rfl, cf2 _ _⟩
  cases p8
  · exact ⟨false, rfl, cf2 _ _⟩
  simp only [cond_true]
  cases decide ((a.fB.length : Int) > 200)
  · simp only [cond_false]
    unfold opTail j_spec_OpOk_18 j_impl_OpOk_10 j_impl_OpOk_112 j_impl_OpOk_214 j_impl_OpOk_316 j_impl_OpOk_419
    generalize ((a.fH.fSlot == 0) && ((a.fH.fGen == 0) && true)) = nH
    generalize (((a.fR.fH.fSlot == 0) && ((a.fR.fH.fGen == 0) && true)) && ((a.fR.fEp == 0) && ((a.fR.fNo == 0) && true))) = nR
    generalize (a.fN == 0) = n0
    generalize (a.fM == 0) = m0
    generalize ((a.fB.length : Int) == 0) = b0
    generalize a.fKind = k
    have hk : k = 1 ∨ k = 2 ∨ k = 3 ∨ k = 4 ∨ k = 5 ∨ k = 6 ∨ k = 7 ∨ k = 8 ∨ k = 9 ∨ (k < 1 ∨ 9 < k) := by omega
    rcases hk with rfl | rfl | rfl | rfl | rfl | rfl | rfl | rfl | rfl | hk
    all_goals first | (cases nH <;> cases nR <;> cases n0 <;> cases m0 <;> cases b0 <;> exact ⟨_, rfl, rfl⟩) | skip
    have e : (decide (k ≥ 1) && decide (k ≤ 9)) = false := by
      rcases hk with hk | hk
      · simp; omega
      · simp; omega
    have h1 : (k == 1) = false := by simp; omega
    have h2 : (k == 2) = false := by simp; omega
    have h3 : (k == 3) = false := by simp; omega
    have h4 : (k == 4) = false := by simp; omega
    have h5 : (k == 5) = false := by simp; omega
    have h6 : (k == 6) = false := by simp; omega
    have h7 : (k == 7) = false := by simp; omega
    have h8 : (k == 8) = false := by simp; omega
    have h9 : (k == 9) = false := by simp; omega
    simp only [e, h1, h2, h3, h4, h5, h6, h7, h8, h9]
    cases nH <;> cases nR <;> exact ⟨_, rfl, rfl⟩
  · exact ⟨false, rfl, cf _⟩

theorem opOk_true (a : T_laws_Op) (ha : a.fB.length ≤ 140737488355327) : ∃ K, m_laws_FnExactOpOk K a = some true := by
  refine ⟨a.fB.length + 10, ?_⟩
  obtain ⟨b, hb, he⟩ := toOp_ok (K := a.fB.length + 10) ha (by omega)
  have hq := eqOp_self (a := b) (by rw [he]; exact ha) (K := a.fB.length + 10) (by rw [he]; omega)
  obtain ⟨t, h1, h2⟩ := opOk_same (a.fB.length + 10) (by omega) b
  unfold m_laws_FnExactOpOk m_laws_szOp m_laws_szByteS
  rw [hb]
  simp only [h1, h2, Option.bind_some, hq]
  cases decide (iSub IntKind.i64 1048576 (a.fB.length : Int) < 0) <;> simp
  cases decide (iSub IntKind.i64 1048576 (a.fB.length : Int) < 0) <;> simp
theorem pure_FnExactOpOk (a : T_laws_Op) (w : Wf_laws_Op a) : ∃ K, m_laws_FnExactOpOk K a = some true := opOk_true a (by simp only [Wf_laws_Op, Wf_Lu8, reachBytes] at w; omega)

end Go.Proofs.Ytlenlhlggknelaa
