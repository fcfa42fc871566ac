/- Plain laws for FnExactPutOp. -/
import Derived.Test.YtlenlhlggknelaaGFnExactPutOpb
set_option linter.unusedVariables false
set_option linter.unusedSimpArgs false
namespace Go.Proofs.Ytlenlhlggknelaa
open Go.Eng Go.ChangeShapes Go.WideShapes Go.ChangeAt Go.RowKit
/-! ### Loops over lists -/
theorem iAdd1 {i : Nat} (h : i ≤ 140737488355328) : iAdd .i64 (i : Int) 1 = ((i + 1 : Nat) : Int) := by
  unfold iAdd
  rw [IntKind.wrap_i64]
  omega
theorem gt_nat {α : Type} [Inhabited α] {l : List α} {i : Nat} (h : i < l.length) : gt l (i : Int) = l[i] := by
  unfold gt
  simp [h]
theorem gt_mem {α : Type} [Inhabited α] {l : List α} {i : Nat} (h : i < l.length) : gt l (i : Int) ∈ l := by
  rw [gt_nat h]; exact List.getElem_mem h
theorem gt_memI {α : Type} [Inhabited α] {l : List α} {i : Int} (h0 : 0 ≤ i) (h : i < l.length) : gt l i ∈ l := by
  obtain ⟨k, rfl⟩ : ∃ k : Nat, i = k := ⟨i.toNat, by omega⟩
  exact gt_mem (by omega)
theorem dlt_t {i k : Nat} (h : i < k) : decide ((i : Int) < (k : Int)) = true := by simp; omega
theorem dlt_f {i k : Nat} (h : k ≤ i) : decide ((i : Int) < (k : Int)) = false := by simp; omega

theorem conv_ok {α β : Type} [Inhabited α] (a : List α) (f : α → Option β) (g : α → β) (hf : ∀ x ∈ a, f x = some (g x)) (ha : a.length ≤ 140737488355328)
    (L : Nat → Int → List β → Option (List β)) (hL : ∀ n i v, L (n + 1) i v = bif decide (i < (a.length : Int)) then (if (0 : Int) ≤ i ∧ i < (a.length : Int) then (f (gt a i)).bind (fun r => (if (0 : Int) ≤ i ∧ i < (v.length : Int) then L n (iAdd .i64 i 1) (v.set i.toNat r) else none)) else none) else some v) :
    ∀ (n i : Nat) (v : List β), i ≤ a.length → v.length = a.length → (∀ j, j < i → v[j]? = (a.map g)[j]?) → a.length - i < n → L n (i : Int) v = some (a.map g) := by
  intro n
  induction n with
  | zero => intro i v _ _ _ h; omega
  | succ n ih =>
    intro i v hi hv hj hn
    rw [hL]
    rcases Nat.lt_or_ge i a.length with h | h
    · rw [dlt_t h]
      simp only [cond_true]
      rw [if_pos ⟨by omega, by omega⟩, hf _ (gt_mem h)]
      simp only [Option.bind_some]
      rw [if_pos ⟨by omega, by omega⟩, iAdd1 (by omega)]
      refine ih (i + 1) _ h (by simpa using hv) (fun j hj2 => ?_) (by omega)
      rw [Int.toNat_natCast, List.getElem?_set]
      by_cases e : i = j
      · subst e
        rw [if_pos rfl, if_pos (by omega), gt_nat h, List.getElem?_map, List.getElem?_eq_getElem h]; rfl
      · rw [if_neg e]; exact hj j (by omega)
    · rw [dlt_f h]
      simp only [cond_false, Option.some.injEq]
      have hia : i = a.length := by omega
      refine List.ext_getElem? fun j => ?_
      rcases Nat.lt_or_ge j a.length with hja | hja
      · exact hj j (by omega)
      · rw [List.getElem?_eq_none (by omega), List.getElem?_eq_none (by simpa using hja)]
theorem eq_ok {β : Type} [Inhabited β] (a : List β) (e : β → β → Option Bool) (he : ∀ x ∈ a, e x x = some true) (ha : a.length ≤ 140737488355328)
    (L : Nat → Int → Option Bool) (hL : ∀ n i, L (n + 1) i = bif decide (i < (a.length : Int)) then (if (0 : Int) ≤ i ∧ i < (a.length : Int) then (if (0 : Int) ≤ i ∧ i < (a.length : Int) then (e (gt a i) (gt a i)).bind (fun r => bif r then L n (iAdd .i64 i 1) else some false) else none) else none) else some true) :
    ∀ (n i : Nat), i ≤ a.length → a.length - i < n → L n (i : Int) = some true := by
  intro n
  induction n with
  | zero => intro i _ h; omega
  | succ n ih =>
    intro i hi hn
    rw [hL]
    rcases Nat.lt_or_ge i a.length with h | h
    · rw [dlt_t h]
      simp only [cond_true]
      rw [if_pos ⟨by omega, by omega⟩, if_pos ⟨by omega, by omega⟩, he _ (gt_mem h), iAdd1 (by omega)]
      simp only [Option.bind_some, cond_true]
      exact ih (i + 1) h (by omega)
    · rw [dlt_f h]; rfl
theorem eqv_ok (a : List Int) (ha : a.length ≤ 140737488355328)
    (L : Nat → Int → Option Bool) (hL : ∀ n i, L (n + 1) i = bif decide (i < (a.length : Int)) then (if (0 : Int) ≤ i ∧ i < (a.length : Int) then (if (0 : Int) ≤ i ∧ i < (a.length : Int) then (bif (gt a i != gt a i) then some false else L n (iAdd .i64 i 1)) else none) else none) else some true) :
    ∀ (n i : Nat), i ≤ a.length → a.length - i < n → L n (i : Int) = some true := by
  intro n
  induction n with
  | zero => intro i _ h; omega
  | succ n ih =>
    intro i hi hn
    rw [hL]
    rcases Nat.lt_or_ge i a.length with h | h
    · rw [dlt_t h]
      simp only [cond_true]
      rw [if_pos ⟨by omega, by omega⟩, if_pos ⟨by omega, by omega⟩, iAdd1 (by omega)]
      simp only [bne_self_eq_false, cond_false]
      exact ih (i + 1) h (by omega)
    · rw [dlt_f h]; rfl
theorem sz_ok {α : Type} [Inhabited α] (a : List α) (f : α → Int → Option Int) (hf : ∀ x ∈ a, ∀ y, ∃ r, f x y = some r) (ha : a.length ≤ 140737488355328)
    (L : Nat → Int → Int → Option Int) (hL : ∀ n y i, L (n + 1) y i = bif decide (i < (a.length : Int)) then (if (0 : Int) ≤ i ∧ i < (a.length : Int) then (f (gt a i) y).bind (fun r => bif decide (r < 0) then some (-1) else L n r (iAdd .i64 i 1)) else none) else some y) :
    ∀ (n i : Nat) (y : Int), i ≤ a.length → a.length - i < n → ∃ r, L n y (i : Int) = some r := by
  intro n
  induction n with
  | zero => intro i _ _ h; omega
  | succ n ih =>
    intro i y hi hn
    rw [hL]
    rcases Nat.lt_or_ge i a.length with h | h
    · rw [dlt_t h]
      simp only [cond_true]
      obtain ⟨r, hr⟩ := hf _ (gt_mem h) y
      rw [if_pos ⟨by omega, by omega⟩, hr, iAdd1 (by omega)]
      simp only [Option.bind_some]
      cases decide (r < 0) with
      | true => exact ⟨_, rfl⟩
      | false => exact ih (i + 1) r h (by omega)
    · rw [dlt_f h]; exact ⟨_, rfl⟩
theorem i64_id {n : Int} (h0 : -9223372036854775808 ≤ n) (h1 : n ≤ 9223372036854775807) : IntKind.i64.wrap n = n := by rw [IntKind.wrap_i64]; omega
theorem i64_in (n : Int) : -9223372036854775808 ≤ IntKind.i64.wrap n ∧ IntKind.i64.wrap n ≤ 9223372036854775807 := by rw [IntKind.wrap_i64]; omega
theorem cc {α : Type} (b : Bool) (x : α) : (bif b then x else x) = x := by cases b <;> rfl
theorem bne_t {a b : Int} (h : ¬ a = b) : (a != b) = true := by simpa using h
theorem beq_f {a b : Int} (h : ¬ a = b) : (a == b) = false := by simpa using h

/-! ### Byte slices: copied, compared, marked -/
section
variable {K : Nat} (hK : 281474976710656 ≤ K)
include hK
theorem toByteS_l {a : List Int} (hl : a.length ≤ 140737488355327) : m_laws_toByteS K a = some a := by
  unfold m_laws_toByteS
  rw [if_pos ⟨by omega, by omega, by omega, by omega⟩]
  have := conv_ok a some id (fun _ _ => rfl) (by omega) (l_laws_toByteS_4 K a) (fun n i v => rfl) K 0 (List.replicate (a.length : Int).toNat 0) (Nat.zero_le _) (by simp) (fun j hj => by omega) (by omega)
  simpa using this
theorem eqByteS_l {a : List Int} (hl : a.length ≤ 140737488355327) : m_laws_eqByteS K a a = some true := by
  unfold m_laws_eqByteS
  simp only [bne_self_eq_false, cond_false]
  exact eqv_ok a (by omega) (l_laws_eqByteS_3 K a a) (fun n i => rfl) K 0 (Nat.zero_le _) (by omega)
def markB (n : Nat) (k : Nat) : List Int := (List.range n).map fun i => IntKind.u8.wrap ((k + i : Nat) : Int)
omit hK in
theorem markB_len (n k : Nat) : (markB n k).length = n := by simp [markB]
omit hK in
theorem mark_loop (k : Nat) (hk : k ≤ 1152921504606846976) : ∀ (n i : Nat) (v : List Int), v.length ≤ 140737488355327 → i ≤ v.length → (∀ j, j < i → v[j]? = (markB v.length k)[j]?) → v.length - i < n →
    l_laws_markByteSW_4 K n ((k + i : Nat) : Int) (i : Int) v = some (((k + v.length : Nat) : Int), markB v.length k) := by
  intro n
  induction n with
  | zero => intro i v _ _ _ h; omega
  | succ n ih =>
    intro i v hl hi hj hn
    rw [l_laws_markByteSW_4]
    rcases Nat.lt_or_ge i v.length with h | h
    · rw [dlt_t h]
      simp only [cond_true]
      have e : iAdd .i64 ((k + i : Nat) : Int) 1 = ((k + (i + 1) : Nat) : Int) := by unfold iAdd; rw [i64_id (by omega) (by omega)]; omega
      rw [if_pos ⟨by omega, by omega⟩, e, iAdd1 (i := i) (by omega)]
      have := ih (i + 1) (v.set (i : Int).toNat (IntKind.u8.wrap ((k + i : Nat) : Int))) (by simpa using hl) (by simp only [List.length_set]; omega) (fun j hj2 => by
        rw [Int.toNat_natCast, List.getElem?_set, List.length_set]
        by_cases e : i = j
        · subst e
          rw [if_pos rfl, if_pos h]
          simp [markB, h]
        · rw [if_neg e]; exact hj j (by omega)) (by simp only [List.length_set]; omega)
      rw [this]
      simp
    · rw [dlt_f h]
      have hia : i = v.length := by omega
      subst hia
      have e : v = markB v.length k := by
        refine List.ext_getElem? fun j => ?_
        rcases Nat.lt_or_ge j v.length with hja | hja
        · exact hj j hja
        · rw [List.getElem?_eq_none (by omega), List.getElem?_eq_none (by rw [markB_len]; omega)]
      simp only [cond_false]
      rw [← e]
theorem mark_ok {a : List Int} (hl : a.length ≤ 140737488355327) (k : Nat) (hk : k ≤ 1152921504606846976) : m_laws_markByteSW K a (k : Int) = some (((k + a.length : Nat) : Int), markB a.length k) := by
  unfold m_laws_markByteSW
  exact mark_loop k hk K 0 a hl (Nat.zero_le _) (fun j hj => by omega) (by omega)
omit hK in
theorem held_loop (m k : Nat) (hk : k ≤ 1152921504606846976) (hl : m ≤ 140737488355327) : ∀ (n i : Nat), i ≤ m → m - i < n → l_laws_heldByteS_3 K (markB m k) n ((k + i : Nat) : Int) (i : Int) = some ((k + m : Nat) : Int) := by
  intro n
  induction n with
  | zero => intro i _ h; omega
  | succ n ih =>
    intro i hi hn
    rw [l_laws_heldByteS_3]
    rcases Nat.lt_or_ge i m with h | h
    · have hlt : i < (markB m k).length := by rw [markB_len]; exact h
      have e : iAdd .i64 ((k + i : Nat) : Int) 1 = ((k + (i + 1) : Nat) : Int) := by unfold iAdd; rw [i64_id (by omega) (by omega)]; omega
      rw [dlt_t hlt, if_pos ⟨by omega, by omega⟩, gt_nat hlt, e, iAdd1 (i := i) (by omega), ih (i + 1) h (by omega)]
      simp [markB]
    · have : i = m := by omega
      subst this
      rw [dlt_f (by rw [markB_len]; exact h)]
      rfl
theorem held_ok (m k : Nat) (hk : k ≤ 1152921504606846976) (hl : m ≤ 140737488355327) : m_laws_heldByteS K (markB m k) (k : Int) = some ((k + m : Nat) : Int) := by
  unfold m_laws_heldByteS
  exact held_loop m k hk hl K 0 (Nat.zero_le _) (by omega)
end
def K0 : Nat := 281474976710656

theorem eqHandle_self (K : Nat) (a : T_impl_Handle) : m_laws_eqHandle K a a = some true := by simp [m_laws_eqHandle]
theorem eqRef_self (K : Nat) (a : T_impl_Ref) : m_laws_eqRef K a a = some true := by simp [m_laws_eqRef, eqHandle_self]
def cvOp (a : T_laws_Op) : T_impl_Op := T_impl_Op.mk a.fKind (T_impl_Handle.mk a.fH.fSlot a.fH.fGen) (T_impl_Ref.mk (T_impl_Handle.mk a.fR.fH.fSlot a.fR.fH.fGen) a.fR.fEp a.fR.fNo) a.fN a.fM a.fB
section
variable {K : Nat} (hK : 281474976710656 ≤ K)
include hK
theorem eqOp_l {a : T_impl_Op} (ha : a.fB.length ≤ 140737488355327) : m_laws_eqOp K a a = some true := by simp [m_laws_eqOp, eqHandle_self, eqRef_self, eqByteS_l hK ha]
theorem toOp_l {a : T_laws_Op} (ha : a.fB.length ≤ 140737488355327) : m_laws_toOp K a = some (cvOp a) := by
  simp [m_laws_toOp, m_laws_toHandle, m_laws_toRef, toByteS_l hK ha, cvOp]
end
theorem szOp_l (K : Nat) (a : T_laws_Op) (y : Int) : ∃ z, m_laws_szOp K a y = some z := by
  unfold m_laws_szOp m_laws_szByteS
  generalize iSub .i64 y (a.fB.length : Int) = v
  cases h : decide (v < 0) with
  | true => exact ⟨_, rfl⟩
  | false =>
    simp only [cond_false, Option.bind_some, h]
    exact ⟨_, rfl⟩

def num (x : Int) : Bool := decide (x ≥ 0) && decide (x ≤ 1000000000)
theorem spec_num (K : Nat) (x : Int) : m_spec_l21Num K x = some (num x) := by
  unfold m_spec_l21Num m_spec_l1In num
  cases decide (x ≥ 0) <;> rfl
theorem impl_num (K : Nat) (x : Int) : m_impl_isNum K x = some (num x) := by
  unfold m_impl_isNum m_impl_within num
  cases decide (x ≥ 0) <;> rfl
theorem impl_within (K : Nat) (x a b : Int) : m_impl_within K x a b = some (decide (x ≥ a) && decide (x ≤ b)) := by
  unfold m_impl_within
  cases decide (x ≥ a) <;> rfl
theorem spec_in (K : Nat) (x a b : Int) : m_spec_l1In K x a b = some (decide (x ≥ a) && decide (x ≤ b)) := by
  unfold m_spec_l1In
  cases decide (x ≥ a) <;> rfl
theorem add0 : iAdd .i64 0 1 = 1 := by decide +kernel
theorem add1 : iAdd .i64 1 1 = 2 := by decide +kernel
theorem add2 : iAdd .i64 2 1 = 3 := by decide +kernel
theorem add3 : iAdd .i64 3 1 = 4 := by decide +kernel
theorem add4 : iAdd .i64 4 1 = 5 := by decide +kernel
theorem add5 : iAdd .i64 5 1 = 6 := by decide +kernel
theorem add6 : iAdd .i64 6 1 = 7 := by decide +kernel
theorem add7 : iAdd .i64 7 1 = 8 := by decide +kernel

def opTail (K : Nat) (a : T_impl_Op) : Option Bool := (bif (a.fKind == 3) then j_impl_OpOk_10 K a true else j_impl_OpOk_10 K a (a.fKind == 4))
theorem impl_loop (K : Nat) (a : T_impl_Op) (n : Nat) : l_impl_OpOk_5 K a (n + 9) 0 =
    bif num a.fH.fSlot then bif num a.fH.fGen then bif num a.fR.fH.fSlot then bif num a.fR.fH.fGen then bif num a.fR.fEp then bif num a.fR.fNo then bif num a.fN then bif num a.fM then opTail K a else some false else some false else some false else some false else some false else some false else some false else some false := by
  simp [l_impl_OpOk_5, impl_num, add0, add1, add2, add3, add4, add5, add6, add7, gt, opTail]

theorem opOk_same (K : Nat) (hK : 10 ≤ K) (a : T_impl_Op) : ∃ t, m_spec_OpOk K a = some t ∧ m_impl_OpOk K a = some t := by
  obtain ⟨n, rfl⟩ : ∃ n, K = n + 9 := ⟨K - 9, by omega⟩
  unfold m_spec_OpOk m_impl_OpOk
  rw [impl_loop]
  simp only [spec_num, impl_within, Option.bind_some]
  generalize num a.fH.fSlot = p1
  generalize num a.fH.fGen = p2
  generalize num a.fR.fH.fSlot = p3
  generalize num a.fR.fH.fGen = p4
  generalize num a.fR.fEp = p5
  generalize num a.fR.fNo = p6
  generalize num a.fN = p7
  generalize num a.fM = p8
  have cf : ∀ (b : Bool), (bif b then some false else some false) = some false := by intro b; cases b <;> rfl
  have cf2 : ∀ (b c : Bool), (bif b then bif c then some false else some false else some false) = some false := by intro b c; cases b <;> cases c <;> rfl
  cases p1
  · exact ⟨false, rfl, cf2 _ _⟩
  cases p2
  · exact ⟨false, rfl, cf2 _ _⟩
  cases p3
  · exact ⟨false, rfl, cf2 _ _⟩
  cases p4
  · exact ⟨false, rfl, cf2 _ _⟩
  cases p5
  · exact ⟨false, rfl, cf2 _ _⟩
  cases p6
  · exact ⟨false, rfl, cf2 _ _⟩
  cases p7
  · exact ⟨false, rfl, cf2 _ _⟩
  cases p8
  · exact ⟨false, rfl, cf2 _ _⟩
  simp only [cond_true]
  cases decide ((a.fB.length : Int) > 200)
  · simp only [cond_false]
    unfold opTail j_spec_OpOk_18 j_impl_OpOk_10 j_impl_OpOk_112 j_impl_OpOk_214 j_impl_OpOk_316 j_impl_OpOk_419
    generalize ((a.fH.fSlot == 0) && ((a.fH.fGen == 0) && true)) = nH
    generalize (((a.fR.fH.fSlot == 0) && ((a.fR.fH.fGen == 0) && true)) && ((a.fR.fEp == 0) && ((a.fR.fNo == 0) && true))) = nR
    generalize (a.fN == 0) = n0
    generalize (a.fM == 0) = m0
    generalize ((a.fB.length : Int) == 0) = b0
    generalize a.fKind = k
    have hk : k = 1 ∨ k = 2 ∨ k = 3 ∨ k = 4 ∨ k = 5 ∨ k = 6 ∨ k = 7 ∨ k = 8 ∨ k = 9 ∨ (k < 1 ∨ 9 < k) := by omega
    rcases hk with rfl | rfl | rfl | rfl | rfl | rfl | rfl | rfl | rfl | hk
    all_goals first | (cases nH <;> cases nR <;> cases n0 <;> cases m0 <;> cases b0 <;> exact ⟨_, rfl, rfl⟩) | skip
    have e : (decide (k ≥ 1) && decide (k ≤ 9)) = false := by
      rcases hk with hk | hk
      · simp; omega
      · simp; omega
    have h1 : (k == 1) = false := by simp; omega
    have h2 : (k == 2) = false := by simp; omega
    have h3 : (k == 3) = false := by simp; omega
    have h4 : (k == 4) = false := by simp; omega
    have h5 : (k == 5) = false := by simp; omega
    have h6 : (k == 6) = false := by simp; omega
    have h7 : (k == 7) = false := by simp; omega
    have h8 : (k == 8) = false := by simp; omega
    have h9 : (k == 9) = false := by simp; omega
    simp only [e, h1, h2, h3, h4, h5, h6, h7, h8, h9]
    cases nH <;> cases nR <;> exact ⟨_, rfl, rfl⟩
  · exact ⟨false, rfl, cf _⟩


/-! ### An integer's bytes are appended -/
theorem putLoop_same (K : Nat) : ∀ (n : Nat) (v : Int) (l : List Int), l_spec_PutVar_6 K n v l = l_impl_PutVar_6 K n v l := by
  intro n
  induction n with
  | zero => intro v l; rfl
  | succ n ih => intro v l; rw [l_spec_PutVar_6, l_impl_PutVar_6, ih]
theorem shr7 {v : Int} (h0 : 0 ≤ v) (h1 : v ≤ 9223372036854775807) : iShr .i64 v 7 = v / 128 := by
  unfold iShr
  have e : ((2 : Int) ^ min (7 : Int).toNat IntKind.i64.bits) = 128 := by decide
  rw [e, Int.fdiv_eq_ediv_of_nonneg _ (by decide)]
theorem putLoop_ok (K : Nat) : ∀ (m n : Nat) (v : Int) (l : List Int), 0 ≤ v → v < 128 ^ m → v ≤ 9223372036854775807 → m ≤ n → l.length + m ≤ 140737488355320 → ∃ r, l_impl_PutVar_6 K (n + 1) v l = some r ∧ r.length ≤ l.length + m + 1 := by
  intro m
  induction m with
  | zero =>
    intro n v l h0 h1 _ _ hl
    have : v = 0 := by simp at h1; omega
    subst this
    refine ⟨l ++ [IntKind.u8.wrap 0], ?_, by simp⟩
    rw [l_impl_PutVar_6]
    have e : decide ((0 : Int) > 127) = false := by decide
    rw [e]
    simp only [cond_false]
    rw [if_pos ⟨by simp; omega, by simp [maxLen]; omega⟩]
  | succ m ih =>
    intro n v l h0 h1 h2 hn hl
    obtain ⟨n, rfl⟩ : ∃ q, n = q + 1 := ⟨n - 1, by omega⟩
    rw [l_impl_PutVar_6]
    by_cases h : v > 127
    · rw [decide_eq_true h]
      simp only [cond_true]
      have hp : (128 : Int) ^ (m + 1) = 128 ^ m * 128 := Int.pow_succ 128 m
      obtain ⟨r, q1, q2⟩ := ih n (v / 128) (l ++ [IntKind.u8.wrap (iOr .i64 (iAnd .i64 v 127) 128)]) (by omega) (by rw [hp] at h1; omega) (by omega) (by omega) (by simp; omega)
      rw [if_pos ⟨by simp; omega, by simp [maxLen]; omega⟩, if_pos (by decide), shr7 h0 h2]
      exact ⟨r, q1, by simp at q2; omega⟩
    · rw [decide_eq_false h]
      simp only [cond_false]
      rw [if_pos ⟨by simp; omega, by simp [maxLen]; omega⟩]
      exact ⟨_, rfl, by simp⟩
theorem clone_ok (K : Nat) {b : List Int} (hl : b.length ≤ 140737488355328) : m_slices_Clone_byte_byte K b = some b := by
  unfold m_slices_Clone_byte_byte
  rw [if_pos ⟨by simp; omega, by simp [maxLen]; omega⟩]
  rfl
theorem putVar_same {K : Nat} (hK : 7 ≤ K) {b : List Int} (hl : b.length ≤ 140737488355000) (n : Int) : ∃ r, m_spec_PutVar K b n = some r ∧ m_impl_PutVar K b n = some r ∧ r.length ≤ b.length + 6 := by
  unfold m_spec_PutVar m_impl_PutVar
  rw [if_pos ⟨by simp; omega, by simp [maxLen]; omega⟩, clone_ok K (by omega)]
  have hw : m_spec_l1In K n 0 1000000000 = m_impl_within K n 0 1000000000 := rfl
  have hr : m_impl_within K n 0 1000000000 = some (decide (0 ≤ n ∧ n ≤ 1000000000)) := by
    unfold m_impl_within
    by_cases h : n ≥ 0
    · rw [decide_eq_true h]
      simp only [cond_true, Option.some.injEq, decide_eq_decide]
      omega
    · rw [decide_eq_false h]
      simp only [cond_false, Option.some.injEq]
      exact (decide_eq_false (by omega)).symm
  rw [hw, hr]
  simp only [Option.bind_some, putLoop_same, List.nil_append]
  by_cases h : 0 ≤ n ∧ n ≤ 1000000000
  · rw [decide_eq_true h]
    obtain ⟨q, rfl⟩ : ∃ q, K = q + 1 := ⟨K - 1, by omega⟩
    have hp : (128 : Int) ^ 5 = 34359738368 := by decide
    obtain ⟨r, h1, h2⟩ := putLoop_ok (q + 1) 5 q n b h.1 (by rw [hp]; omega) (by omega) (by omega) (by omega)
    exact ⟨r, h1, h1, h2⟩
  · rw [decide_eq_false h]
    simp only [cond_false]
    exact ⟨b, rfl, rfl, by omega⟩

/-! ### A call's bytes -/
def numsOf (a0 : T_impl_Op) : List Int := [a0.fKind, a0.fH.fSlot, a0.fH.fGen, a0.fR.fH.fSlot, a0.fR.fH.fGen, a0.fR.fEp, a0.fR.fNo, a0.fN, a0.fM, (a0.fB.length : Int)]
theorem putOp_loop {K : Nat} (hK : 7 ≤ K) (a : T_impl_Op) (ha : a.fB.length ≤ 140737488351232) : ∀ (n i : Nat) (v : List Int), i ≤ 10 → 10 - i < n → v.length ≤ 6 * i →
    ∃ r, l_spec_PutOp_5 K a n v (i : Int) = some r ∧ l_impl_PutOp_5 K a n v (i : Int) = some r ∧ r.length ≤ a.fB.length + 60 := by
  intro n
  induction n with
  | zero => intro i v _ h; omega
  | succ n ih =>
    intro i v hi hn hv
    rw [l_spec_PutOp_5, l_impl_PutOp_5]
    show ∃ r, (bif decide ((i : Int) < ((numsOf a).length : Int)) then (if (0 : Int) ≤ (i : Int) ∧ (i : Int) < ((numsOf a).length : Int) then ((m_spec_PutVar K v (gt (numsOf a) (i : Int))).bind fun r8 => (l_spec_PutOp_5 K a n r8 (iAdd .i64 (i : Int) 1))) else none) else (if (v ++ a.fB).length * 1 ≤ 140737488355328 ∧ (v ++ a.fB).length ≤ maxLen then some (v ++ a.fB) else none)) = some r ∧
      (bif decide ((i : Int) < ((numsOf a).length : Int)) then (if (0 : Int) ≤ (i : Int) ∧ (i : Int) < ((numsOf a).length : Int) then ((m_impl_PutVar K v (gt (numsOf a) (i : Int))).bind fun r8 => (l_impl_PutOp_5 K a n r8 (iAdd .i64 (i : Int) 1))) else none) else (if (v ++ a.fB).length * 1 ≤ 140737488355328 ∧ (v ++ a.fB).length ≤ maxLen then some (v ++ a.fB) else none)) = some r ∧ _
    have hlen : (numsOf a).length = 10 := rfl
    rw [hlen]
    rcases Nat.lt_or_ge i 10 with h | h
    · rw [dlt_t h]
      simp only [cond_true]
      obtain ⟨q, h1, h2, h3⟩ := putVar_same hK (b := v) (by omega) (gt (numsOf a) (i : Int))
      rw [if_pos ⟨by omega, by omega⟩, if_pos ⟨by omega, by omega⟩, h1, h2, iAdd1 (i := i) (by omega)]
      exact ih (i + 1) q h (by omega) (by omega)
    · rw [dlt_f h]
      simp only [cond_false]
      rw [if_pos ⟨by simp; omega, by simp [maxLen]; omega⟩]
      exact ⟨_, rfl, rfl, by simp; omega⟩
theorem putOp_same {K : Nat} (hK : 20 ≤ K) (a : T_impl_Op) (ha : a.fB.length ≤ 140737488351232) : ∃ r, m_spec_PutOp K a = some r ∧ m_impl_PutOp K a = some r ∧ r.length ≤ a.fB.length + 60 := by
  unfold m_spec_PutOp m_impl_PutOp
  obtain ⟨t, h1, h2⟩ := opOk_same K (by omega) a
  rw [h1, h2]
  simp only [Option.bind_some]
  cases t with
  | true => exact putOp_loop (by omega) a ha K 0 [] (by omega) (by omega) (by simp)
  | false => exact ⟨[], rfl, rfl, by simp⟩

theorem pure_FnExactPutOp (a : T_laws_Op) (w : Wf_laws_Op a) : ∃ K, m_laws_FnExactPutOp K a = some true := by
  refine ⟨K0, ?_⟩
  have hK : 281474976710656 ≤ K0 := Nat.le_refl _
  have hl : a.fB.length ≤ 140737488351232 := by simp only [Wf_laws_Op, Wf_Lu8, reachBytes] at w; omega
  obtain ⟨z, hz⟩ := szOp_l K0 a 1048576
  unfold m_laws_FnExactPutOp m_laws_markOpW
  rw [hz]
  obtain ⟨r, h1, h2, h3⟩ := putOp_same (K := K0) (by decide) (cvOp a) hl
  have h3' : r.length ≤ a.fB.length + 60 := h3
  have hl2 : (cvOp a).fB.length ≤ 140737488351232 := hl
  have m1 := mark_ok hK (a := (cvOp a).fB) (by omega) 1 (by decide)
  have m2 := mark_ok hK (a := r) (by omega) 1 (by decide)
  have m3 := held_ok hK r.length 1 (by decide) (by omega)
  have c1 : (1 : Int) = ((1 : Nat) : Int) := rfl
  rw [← c1] at m1 m2 m3
  have d1 : decide (((1 + (cvOp a).fB.length : Nat) : Int) < 0) = false := decide_eq_false (by omega)
  have d2 : decide (((1 + r.length : Nat) : Int) < 0) = false := decide_eq_false (by omega)
  simp only [Option.bind_some]
  cases decide (z < 0) with
  | true => rfl
  | false => simp only [cond_false, toOp_l hK (a := a) (by omega), Option.bind_some, h1, h2, eqByteS_l hK (a := r) (by omega), eqOp_l hK (a := cvOp a) (by omega), cond_true, m1, m2, m3, markB_len, if_true, d1, d2, bne_self_eq_false]

end Go.Proofs.Ytlenlhlggknelaa
