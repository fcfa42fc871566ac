/- Plain laws for FnExactGetOp. -/
import Derived.Test.YtlenlhlggknelaaGFnExactGetOpb
set_option linter.unusedVariables false
set_option linter.unusedSimpArgs false
namespace Go.Proofs.Ytlenlhlggknelaa
open Go.Eng Go.ChangeShapes Go.WideShapes Go.ChangeAt Go.RowKit
/-! ### Loops over lists -/
theorem iAdd1 {i : Nat} (h : i ≤ 140737488355328) : iAdd .i64 (i : Int) 1 = ((i + 1 : Nat) : Int) := by
  unfold iAdd
  rw [IntKind.wrap_i64]
  omega
theorem gt_nat {α : Type} [Inhabited α] {l : List α} {i : Nat} (h : i < l.length) : gt l (i : Int) = l[i] := by
  unfold gt
  simp [h]
theorem gt_mem {α : Type} [Inhabited α] {l : List α} {i : Nat} (h : i < l.length) : gt l (i : Int) ∈ l := by
  rw [gt_nat h]; exact List.getElem_mem h
theorem gt_memI {α : Type} [Inhabited α] {l : List α} {i : Int} (h0 : 0 ≤ i) (h : i < l.length) : gt l i ∈ l := by
  obtain ⟨k, rfl⟩ : ∃ k : Nat, i = k := ⟨i.toNat, by omega⟩
  exact gt_mem (by omega)
theorem dlt_t {i k : Nat} (h : i < k) : decide ((i : Int) < (k : Int)) = true := by simp; omega
theorem dlt_f {i k : Nat} (h : k ≤ i) : decide ((i : Int) < (k : Int)) = false := by simp; omega

theorem conv_ok {α β : Type} [Inhabited α] (a : List α) (f : α → Option β) (g : α → β) (hf : ∀ x ∈ a, f x = some (g x)) (ha : a.length ≤ 140737488355328)
    (L : Nat → Int → List β → Option (List β)) (hL : ∀ n i v, L (n + 1) i v = bif decide (i < (a.length : Int)) then (if (0 : Int) ≤ i ∧ i < (a.length : Int) then (f (gt a i)).bind (fun r => (if (0 : Int) ≤ i ∧ i < (v.length : Int) then L n (iAdd .i64 i 1) (v.set i.toNat r) else none)) else none) else some v) :
    ∀ (n i : Nat) (v : List β), i ≤ a.length → v.length = a.length → (∀ j, j < i → v[j]? = (a.map g)[j]?) → a.length - i < n → L n (i : Int) v = some (a.map g) := by
  intro n
  induction n with
  | zero => intro i v _ _ _ h; omega
  | succ n ih =>
    intro i v hi hv hj hn
    rw [hL]
    rcases Nat.lt_or_ge i a.length with h | h
    · rw [dlt_t h]
      simp only [cond_true]
      rw [if_pos ⟨by omega, by omega⟩, hf _ (gt_mem h)]
      simp only [Option.bind_some]
      rw [if_pos ⟨by omega, by omega⟩, iAdd1 (by omega)]
      refine ih (i + 1) _ h (by simpa using hv) (fun j hj2 => ?_) (by omega)
      rw [Int.toNat_natCast, List.getElem?_set]
      by_cases e : i = j
      · subst e
        rw [if_pos rfl, if_pos (by omega), gt_nat h, List.getElem?_map, List.getElem?_eq_getElem h]; rfl
      · rw [if_neg e]; exact hj j (by omega)
    · rw [dlt_f h]
      simp only [cond_false, Option.some.injEq]
      have hia : i = a.length := by omega
      refine List.ext_getElem? fun j => ?_
      rcases Nat.lt_or_ge j a.length with hja | hja
      · exact hj j (by omega)
      · rw [List.getElem?_eq_none (by omega), List.getElem?_eq_none (by simpa using hja)]
theorem eq_ok {β : Type} [Inhabited β] (a : List β) (e : β → β → Option Bool) (he : ∀ x ∈ a, e x x = some true) (ha : a.length ≤ 140737488355328)
    (L : Nat → Int → Option Bool) (hL : ∀ n i, L (n + 1) i = bif decide (i < (a.length : Int)) then (if (0 : Int) ≤ i ∧ i < (a.length : Int) then (if (0 : Int) ≤ i ∧ i < (a.length : Int) then (e (gt a i) (gt a i)).bind (fun r => bif r then L n (iAdd .i64 i 1) else some false) else none) else none) else some true) :
    ∀ (n i : Nat), i ≤ a.length → a.length - i < n → L n (i : Int) = some true := by
  intro n
  induction n with
  | zero => intro i _ h; omega
  | succ n ih =>
    intro i hi hn
    rw [hL]
    rcases Nat.lt_or_ge i a.length with h | h
    · rw [dlt_t h]
      simp only [cond_true]
      rw [if_pos ⟨by omega, by omega⟩, if_pos ⟨by omega, by omega⟩, he _ (gt_mem h), iAdd1 (by omega)]
      simp only [Option.bind_some, cond_true]
      exact ih (i + 1) h (by omega)
    · rw [dlt_f h]; rfl
theorem eqv_ok (a : List Int) (ha : a.length ≤ 140737488355328)
    (L : Nat → Int → Option Bool) (hL : ∀ n i, L (n + 1) i = bif decide (i < (a.length : Int)) then (if (0 : Int) ≤ i ∧ i < (a.length : Int) then (if (0 : Int) ≤ i ∧ i < (a.length : Int) then (bif (gt a i != gt a i) then some false else L n (iAdd .i64 i 1)) else none) else none) else some true) :
    ∀ (n i : Nat), i ≤ a.length → a.length - i < n → L n (i : Int) = some true := by
  intro n
  induction n with
  | zero => intro i _ h; omega
  | succ n ih =>
    intro i hi hn
    rw [hL]
    rcases Nat.lt_or_ge i a.length with h | h
    · rw [dlt_t h]
      simp only [cond_true]
      rw [if_pos ⟨by omega, by omega⟩, if_pos ⟨by omega, by omega⟩, iAdd1 (by omega)]
      simp only [bne_self_eq_false, cond_false]
      exact ih (i + 1) h (by omega)
    · rw [dlt_f h]; rfl
theorem sz_ok {α : Type} [Inhabited α] (a : List α) (f : α → Int → Option Int) (hf : ∀ x ∈ a, ∀ y, ∃ r, f x y = some r) (ha : a.length ≤ 140737488355328)
    (L : Nat → Int → Int → Option Int) (hL : ∀ n y i, L (n + 1) y i = bif decide (i < (a.length : Int)) then (if (0 : Int) ≤ i ∧ i < (a.length : Int) then (f (gt a i) y).bind (fun r => bif decide (r < 0) then some (-1) else L n r (iAdd .i64 i 1)) else none) else some y) :
    ∀ (n i : Nat) (y : Int), i ≤ a.length → a.length - i < n → ∃ r, L n y (i : Int) = some r := by
  intro n
  induction n with
  | zero => intro i _ _ h; omega
  | succ n ih =>
    intro i y hi hn
    rw [hL]
    rcases Nat.lt_or_ge i a.length with h | h
    · rw [dlt_t h]
      simp only [cond_true]
      obtain ⟨r, hr⟩ := hf _ (gt_mem h) y
      rw [if_pos ⟨by omega, by omega⟩, hr, iAdd1 (by omega)]
      simp only [Option.bind_some]
      cases decide (r < 0) with
      | true => exact ⟨_, rfl⟩
      | false => exact ih (i + 1) r h (by omega)
    · rw [dlt_f h]; exact ⟨_, rfl⟩
theorem i64_id {n : Int} (h0 : -9223372036854775808 ≤ n) (h1 : n ≤ 9223372036854775807) : IntKind.i64.wrap n = n := by rw [IntKind.wrap_i64]; omega
theorem i64_in (n : Int) : -9223372036854775808 ≤ IntKind.i64.wrap n ∧ IntKind.i64.wrap n ≤ 9223372036854775807 := by rw [IntKind.wrap_i64]; omega
theorem cc {α : Type} (b : Bool) (x : α) : (bif b then x else x) = x := by cases b <;> rfl
theorem bne_t {a b : Int} (h : ¬ a = b) : (a != b) = true := by simpa using h
theorem beq_f {a b : Int} (h : ¬ a = b) : (a == b) = false := by simpa using h

/-! ### Byte slices: copied, compared, marked -/
section
variable {K : Nat} (hK : 281474976710656 ≤ K)
include hK
theorem toByteS_l {a : List Int} (hl : a.length ≤ 140737488355327) : m_laws_toByteS K a = some a := by
  unfold m_laws_toByteS
  rw [if_pos ⟨by omega, by omega, by omega, by omega⟩]
  have := conv_ok a some id (fun _ _ => rfl) (by omega) (l_laws_toByteS_4 K a) (fun n i v => rfl) K 0 (List.replicate (a.length : Int).toNat 0) (Nat.zero_le _) (by simp) (fun j hj => by omega) (by omega)
  simpa using this
theorem eqByteS_l {a : List Int} (hl : a.length ≤ 140737488355327) : m_laws_eqByteS K a a = some true := by
  unfold m_laws_eqByteS
  simp only [bne_self_eq_false, cond_false]
  exact eqv_ok a (by omega) (l_laws_eqByteS_3 K a a) (fun n i => rfl) K 0 (Nat.zero_le _) (by omega)
def markB (n : Nat) (k : Nat) : List Int := (List.range n).map fun i => IntKind.u8.wrap ((k + i : Nat) : Int)
omit hK in
theorem markB_len (n k : Nat) : (markB n k).length = n := by simp [markB]
omit hK in
theorem mark_loop (k : Nat) (hk : k ≤ 1152921504606846976) : ∀ (n i : Nat) (v : List Int), v.length ≤ 140737488355327 → i ≤ v.length → (∀ j, j < i → v[j]? = (markB v.length k)[j]?) → v.length - i < n →
    l_laws_markByteSW_4 K n ((k + i : Nat) : Int) (i : Int) v = some (((k + v.length : Nat) : Int), markB v.length k) := by
  intro n
  induction n with
  | zero => intro i v _ _ _ h; omega
  | succ n ih =>
    intro i v hl hi hj hn
    rw [l_laws_markByteSW_4]
    rcases Nat.lt_or_ge i v.length with h | h
    · rw [dlt_t h]
      simp only [cond_true]
      have e : iAdd .i64 ((k + i : Nat) : Int) 1 = ((k + (i + 1) : Nat) : Int) := by unfold iAdd; rw [i64_id (by omega) (by omega)]; omega
      rw [if_pos ⟨by omega, by omega⟩, e, iAdd1 (i := i) (by omega)]
      have := ih (i + 1) (v.set (i : Int).toNat (IntKind.u8.wrap ((k + i : Nat) : Int))) (by simpa using hl) (by simp only [List.length_set]; omega) (fun j hj2 => by
        rw [Int.toNat_natCast, List.getElem?_set, List.length_set]
        by_cases e : i = j
        · subst e
          rw [if_pos rfl, if_pos h]
          simp [markB, h]
        · rw [if_neg e]; exact hj j (by omega)) (by simp only [List.length_set]; omega)
      rw [this]
      simp
    · rw [dlt_f h]
      have hia : i = v.length := by omega
      subst hia
      have e : v = markB v.length k := by
        refine List.ext_getElem? fun j => ?_
        rcases Nat.lt_or_ge j v.length with hja | hja
        · exact hj j hja
        · rw [List.getElem?_eq_none (by omega), List.getElem?_eq_none (by rw [markB_len]; omega)]
      simp only [cond_false]
      rw [← e]
theorem mark_ok {a : List Int} (hl : a.length ≤ 140737488355327) (k : Nat) (hk : k ≤ 1152921504606846976) : m_laws_markByteSW K a (k : Int) = some (((k + a.length : Nat) : Int), markB a.length k) := by
  unfold m_laws_markByteSW
  exact mark_loop k hk K 0 a hl (Nat.zero_le _) (fun j hj => by omega) (by omega)
omit hK in
theorem held_loop (m k : Nat) (hk : k ≤ 1152921504606846976) (hl : m ≤ 140737488355327) : ∀ (n i : Nat), i ≤ m → m - i < n → l_laws_heldByteS_3 K (markB m k) n ((k + i : Nat) : Int) (i : Int) = some ((k + m : Nat) : Int) := by
  intro n
  induction n with
  | zero => intro i _ h; omega
  | succ n ih =>
    intro i hi hn
    rw [l_laws_heldByteS_3]
    rcases Nat.lt_or_ge i m with h | h
    · have hlt : i < (markB m k).length := by rw [markB_len]; exact h
      have e : iAdd .i64 ((k + i : Nat) : Int) 1 = ((k + (i + 1) : Nat) : Int) := by unfold iAdd; rw [i64_id (by omega) (by omega)]; omega
      rw [dlt_t hlt, if_pos ⟨by omega, by omega⟩, gt_nat hlt, e, iAdd1 (i := i) (by omega), ih (i + 1) h (by omega)]
      simp [markB]
    · have : i = m := by omega
      subst this
      rw [dlt_f (by rw [markB_len]; exact h)]
      rfl
theorem held_ok (m k : Nat) (hk : k ≤ 1152921504606846976) (hl : m ≤ 140737488355327) : m_laws_heldByteS K (markB m k) (k : Int) = some ((k + m : Nat) : Int) := by
  unfold m_laws_heldByteS
  exact held_loop m k hk hl K 0 (Nat.zero_le _) (by omega)
end
def K0 : Nat := 281474976710656

theorem eqHandle_self (K : Nat) (a : T_impl_Handle) : m_laws_eqHandle K a a = some true := by simp [m_laws_eqHandle]
theorem eqRef_self (K : Nat) (a : T_impl_Ref) : m_laws_eqRef K a a = some true := by simp [m_laws_eqRef, eqHandle_self]
section
variable {K : Nat} (hK : 281474976710656 ≤ K)
include hK
theorem eqOp_l {a : T_impl_Op} (ha : a.fB.length ≤ 140737488355327) : m_laws_eqOp K a a = some true := by simp [m_laws_eqOp, eqHandle_self, eqRef_self, eqByteS_l hK ha]
end

def num (x : Int) : Bool := decide (x ≥ 0) && decide (x ≤ 1000000000)
theorem spec_num (K : Nat) (x : Int) : m_spec_l21Num K x = some (num x) := by
  unfold m_spec_l21Num m_spec_l1In num
  cases decide (x ≥ 0) <;> rfl
theorem impl_num (K : Nat) (x : Int) : m_impl_isNum K x = some (num x) := by
  unfold m_impl_isNum m_impl_within num
  cases decide (x ≥ 0) <;> rfl
theorem impl_within (K : Nat) (x a b : Int) : m_impl_within K x a b = some (decide (x ≥ a) && decide (x ≤ b)) := by
  unfold m_impl_within
  cases decide (x ≥ a) <;> rfl
theorem spec_in (K : Nat) (x a b : Int) : m_spec_l1In K x a b = some (decide (x ≥ a) && decide (x ≤ b)) := by
  unfold m_spec_l1In
  cases decide (x ≥ a) <;> rfl
theorem add0 : iAdd .i64 0 1 = 1 := by decide +kernel
theorem add1 : iAdd .i64 1 1 = 2 := by decide +kernel
theorem add2 : iAdd .i64 2 1 = 3 := by decide +kernel
theorem add3 : iAdd .i64 3 1 = 4 := by decide +kernel
theorem add4 : iAdd .i64 4 1 = 5 := by decide +kernel
theorem add5 : iAdd .i64 5 1 = 6 := by decide +kernel
theorem add6 : iAdd .i64 6 1 = 7 := by decide +kernel
theorem add7 : iAdd .i64 7 1 = 8 := by decide +kernel

def opTail (K : Nat) (a : T_impl_Op) : Option Bool := (bif (a.fKind == 3) then j_impl_OpOk_10 K a true else j_impl_OpOk_10 K a (a.fKind == 4))
theorem impl_loop (K : Nat) (a : T_impl_Op) (n : Nat) : l_impl_OpOk_5 K a (n + 9) 0 =
    bif num a.fH.fSlot then bif num a.fH.fGen then bif num a.fR.fH.fSlot then bif num a.fR.fH.fGen then bif num a.fR.fEp then bif num a.fR.fNo then bif num a.fN then bif num a.fM then opTail K a else some false else some false else some false else some false else some false else some false else some false else some false := by
  simp [l_impl_OpOk_5, impl_num, add0, add1, add2, add3, add4, add5, add6, add7, gt, opTail]

theorem opOk_same (K : Nat) (hK : 10 ≤ K) (a : T_impl_Op) : ∃ t, m_spec_OpOk K a = some t ∧ m_impl_OpOk K a = some t := by
  obtain ⟨n, rfl⟩ : ∃ n, K = n + 9 := ⟨K - 9, by omega⟩
  unfold m_spec_OpOk m_impl_OpOk
  rw [impl_loop]
  simp only [spec_num, impl_within, Option.bind_some]
  generalize num a.fH.fSlot = p1
  generalize num a.fH.fGen = p2
  generalize num a.fR.fH.fSlot = p3
  generalize num a.fR.fH.fGen = p4
  generalize num a.fR.fEp = p5
  generalize num a.fR.fNo = p6
  generalize num a.fN = p7
  generalize num a.fM = p8
  have cf : ∀ (b : Bool), (bif b then some false else some false) = some false := by intro b; cases b <;> rfl
  have cf2 : ∀ (b c : Bool), (bif b then bif c then some false else some false else some false) = some false := by intro b c; cases b <;> cases c <;> rfl
  cases p1
  · exact ⟨false, rfl, cf2 _ _⟩
  cases p2
  · exact ⟨false, rfl, cf2 _ _⟩
  cases p3
  · exact ⟨false, rfl, cf2 _ _⟩
  cases p4
  · exact ⟨false, rfl, cf2 _ _⟩
  cases p5
  · exact ⟨false, rfl, cf2 _ _⟩
  cases p6
  · exact ⟨false, rfl, cf2 _ _⟩
  cases p7
  · exact ⟨false, rfl, cf2 _ _⟩
  cases p8
  · exact ⟨false, rfl, cf2 _ _⟩
  simp only [cond_true]
  cases decide ((a.fB.length : Int) > 200)
  · simp only [cond_false]
    unfold opTail j_spec_OpOk_18 j_impl_OpOk_10 j_impl_OpOk_112 j_impl_OpOk_214 j_impl_OpOk_316 j_impl_OpOk_419
    generalize ((a.fH.fSlot == 0) && ((a.fH.fGen == 0) && true)) = nH
    generalize (((a.fR.fH.fSlot == 0) && ((a.fR.fH.fGen == 0) && true)) && ((a.fR.fEp == 0) && ((a.fR.fNo == 0) && true))) = nR
    generalize (a.fN == 0) = n0
    generalize (a.fM == 0) = m0
    generalize ((a.fB.length : Int) == 0) = b0
    generalize a.fKind = k
    have hk : k = 1 ∨ k = 2 ∨ k = 3 ∨ k = 4 ∨ k = 5 ∨ k = 6 ∨ k = 7 ∨ k = 8 ∨ k = 9 ∨ (k < 1 ∨ 9 < k) := by omega
    rcases hk with rfl | rfl | rfl | rfl | rfl | rfl | rfl | rfl | rfl | hk
    all_goals first | (cases nH <;> cases nR <;> cases n0 <;> cases m0 <;> cases b0 <;> exact ⟨_, rfl, rfl⟩) | skip
    have e : (decide (k ≥ 1) && decide (k ≤ 9)) = false := by
      rcases hk with hk | hk
      · simp; omega
      · simp; omega
    have h1 : (k == 1) = false := by simp; omega
    have h2 : (k == 2) = false := by simp; omega
    have h3 : (k == 3) = false := by simp; omega
    have h4 : (k == 4) = false := by simp; omega
    have h5 : (k == 5) = false := by simp; omega
    have h6 : (k == 6) = false := by simp; omega
    have h7 : (k == 7) = false := by simp; omega
    have h8 : (k == 8) = false := by simp; omega
    have h9 : (k == 9) = false := by simp; omega
    simp only [e, h1, h2, h3, h4, h5, h6, h7, h8, h9]
    cases nH <;> cases nR <;> exact ⟨_, rfl, rfl⟩
  · exact ⟨false, rfl, cf _⟩


theorem shr7 {v : Int} (h0 : 0 ≤ v) (h1 : v ≤ 9223372036854775807) : iShr .i64 v 7 = v / 128 := by
  unfold iShr
  have e : ((2 : Int) ^ min (7 : Int).toNat IntKind.i64.bits) = 128 := by decide
  rw [e, Int.fdiv_eq_ediv_of_nonneg _ (by decide)]
theorem clone_ok (K : Nat) {b : List Int} (hl : b.length ≤ 140737488355328) : m_slices_Clone_byte_byte K b = some b := by
  unfold m_slices_Clone_byte_byte
  rw [if_pos ⟨by simp; omega, by simp [maxLen]; omega⟩]
  rfl

/-! ### Varints: what is written, what is read -/
theorem iAnd127 {v : Int} (h0 : 0 ≤ v) (h1 : v ≤ 9223372036854775807) : iAnd .i64 v 127 = v % 128 := by
  obtain ⟨n, rfl⟩ : ∃ n : Nat, v = n := ⟨v.toNat, by omega⟩
  unfold iAnd
  have e : (BitVec.ofInt IntKind.i64.bits (n : Int) &&& BitVec.ofInt IntKind.i64.bits 127).toNat = n % 128 := by
    show (BitVec.ofInt 64 (n : Int) &&& BitVec.ofInt 64 ((127 : Nat) : Int)).toNat = n % 128
    rw [BitVec.ofInt_natCast, BitVec.ofInt_natCast, BitVec.toNat_and, BitVec.toNat_ofNat, BitVec.toNat_ofNat]
    have := Nat.and_two_pow_sub_one_eq_mod (n % 2 ^ 64) 7
    have e2 : (127 : Nat) % 2 ^ 64 = 2 ^ 7 - 1 := by decide
    rw [e2, this]
    omega
  rw [e, i64_id (by omega) (by omega)]
  omega
theorem iOr_add {v w : Nat} (i : Nat) (hv : v < 2 ^ i) (hs : v + 2 ^ i * w ≤ 9223372036854775807) : iOr .i64 (v : Int) ((2 ^ i * w : Nat) : Int) = ((v + 2 ^ i * w : Nat) : Int) := by
  unfold iOr
  have e : (BitVec.ofInt IntKind.i64.bits (v : Int) ||| BitVec.ofInt IntKind.i64.bits ((2 ^ i * w : Nat) : Int)).toNat = v + 2 ^ i * w := by
    show (BitVec.ofInt 64 (v : Int) ||| BitVec.ofInt 64 ((2 ^ i * w : Nat) : Int)).toNat = _
    rw [BitVec.ofInt_natCast, BitVec.ofInt_natCast, BitVec.toNat_or, BitVec.toNat_ofNat, BitVec.toNat_ofNat, Nat.mod_eq_of_lt (by omega), Nat.mod_eq_of_lt (by omega), Nat.or_comm]
    have := Nat.two_pow_add_eq_or_of_lt hv w
    rw [← this]
    omega
  rw [e, i64_id (by omega) (by omega)]
def enc : Nat → Int → List Int
  | 0, v => [v]
  | f + 1, v => if v > 127 then (v % 128 + 128) :: enc f (v / 128) else [v]
theorem enc_len : ∀ (f : Nat) (v : Int), (enc f v).length ≤ f + 1 := by
  intro f
  induction f with
  | zero => intro v; exact Nat.le_refl _
  | succ f ih =>
    intro v
    unfold enc
    split
    · simp only [List.length_cons]; have := ih (v / 128); omega
    · simp
theorem low_byte {v : Int} (h0 : 0 ≤ v) (h1 : v ≤ 9223372036854775807) : IntKind.u8.wrap (iOr .i64 (iAnd .i64 v 127) 128) = v % 128 + 128 := by
  rw [iAnd127 h0 h1]
  obtain ⟨n, hn⟩ : ∃ n : Nat, v % 128 = n := ⟨(v % 128).toNat, by omega⟩
  rw [hn]
  have := iOr_add (v := n) (w := 1) 7 (by omega) (by omega)
  rw [show (128 : Int) = ((2 ^ 7 * 1 : Nat) : Int) from by decide, this, IntKind.wrap_u8]
  omega
theorem wrap_byte {v : Int} (h0 : 0 ≤ v) (h1 : v ≤ 255) : IntKind.u8.wrap v = v := by rw [IntKind.wrap_u8]; omega
theorem putLoop_enc (K : Nat) : ∀ (m n : Nat) (v : Int) (l : List Int), 0 ≤ v → v < 128 ^ m → v ≤ 9223372036854775807 → m ≤ n → l.length + m ≤ 140737488355320 → l_impl_PutVar_6 K (n + 1) v l = some (l ++ enc m v) := by
  intro m
  induction m with
  | zero =>
    intro n v l h0 h1 _ _ hl
    have : v = 0 := by simp at h1; omega
    subst this
    rw [l_impl_PutVar_6]
    have e : decide ((0 : Int) > 127) = false := by decide
    rw [e]
    simp only [cond_false]
    rw [if_pos ⟨by simp; omega, by simp [maxLen]; omega⟩]
    rfl
  | succ m ih =>
    intro n v l h0 h1 h2 hn hl
    obtain ⟨n, rfl⟩ : ∃ q, n = q + 1 := ⟨n - 1, by omega⟩
    rw [l_impl_PutVar_6, enc]
    by_cases h : v > 127
    · rw [decide_eq_true h, if_pos h]
      simp only [cond_true]
      have hp : (128 : Int) ^ (m + 1) = 128 ^ m * 128 := Int.pow_succ 128 m
      rw [low_byte h0 h2, if_pos ⟨by simp; omega, by simp [maxLen]; omega⟩, if_pos (by decide), shr7 h0 h2, ih n (v / 128) (l ++ [v % 128 + 128]) (by omega) (by rw [hp] at h1; omega) (by omega) (by omega) (by simp; omega)]
      simp
    · rw [decide_eq_false h, if_neg h]
      simp only [cond_false]
      rw [wrap_byte h0 (by omega), if_pos ⟨by simp; omega, by simp [maxLen]; omega⟩]
theorem in_eq (K : Nat) (n : Int) : m_impl_within K n 0 1000000000 = some (decide (0 ≤ n ∧ n ≤ 1000000000)) := by
  unfold m_impl_within
  by_cases h : n ≥ 0
  · rw [decide_eq_true h]
    simp only [cond_true, Option.some.injEq, decide_eq_decide]
    omega
  · rw [decide_eq_false h]
    simp only [cond_false, Option.some.injEq]
    exact (decide_eq_false (by omega)).symm
def putL1 (b : List Int) (n : Int) : List Int := if 0 ≤ n ∧ n ≤ 1000000000 then b ++ enc 5 n else b
theorem putVar_impl {K : Nat} (hK : 7 ≤ K) {b : List Int} (hl : b.length ≤ 140737488355000) (n : Int) : m_impl_PutVar K b n = some (putL1 b n) := by
  unfold m_impl_PutVar putL1
  rw [clone_ok K (by omega), in_eq]
  simp only [Option.bind_some]
  by_cases h : 0 ≤ n ∧ n ≤ 1000000000
  · rw [decide_eq_true h, if_pos h]
    obtain ⟨q, rfl⟩ : ∃ q, K = q + 1 := ⟨K - 1, by omega⟩
    have hp : (128 : Int) ^ 5 = 34359738368 := by decide
    exact putLoop_enc (q + 1) 5 q n b h.1 (by rw [hp]; omega) (by omega) (by omega) (by omega)
  · rw [decide_eq_false h, if_neg h]; rfl

def val : List Int → Int
  | [] => 0
  | x :: r => x % 128 + 128 * val r
theorem val_nonneg : ∀ l : List Int, 0 ≤ val l := by
  intro l
  induction l with
  | nil => exact Int.le_refl _
  | cons x r ih => unfold val; omega
theorem val_append (l : List Int) (x : Int) : val (l ++ [x]) = val l + 128 ^ l.length * (x % 128) := by
  induction l with
  | nil => simp [val]
  | cons y r ih =>
    simp only [List.cons_append, val, List.length_cons, ih, Int.pow_succ]
    rw [Int.mul_add]
    have : 128 * (128 ^ r.length * (x % 128)) = 128 ^ r.length * 128 * (x % 128) := by
      rw [← Int.mul_assoc, Int.mul_comm 128 (128 ^ r.length)]
    omega
theorem val_lt : ∀ l : List Int, val l < 128 ^ l.length := by
  intro l
  induction l with
  | nil => simp [val]
  | cons x r ih =>
    simp only [val, List.length_cons, Int.pow_succ]
    omega
/-- A number's bytes, the last of them not 0. -/
def canS : List Int → Prop
  | [] => False
  | [x] => 1 ≤ x ∧ x ≤ 127
  | x :: y :: r => (128 ≤ x ∧ x ≤ 255) ∧ canS (y :: r)
def can (l : List Int) : Prop := (∃ x, l = [x] ∧ 0 ≤ x ∧ x ≤ 127) ∨ canS l
theorem canS_pos : ∀ l : List Int, canS l → 1 ≤ val l := by
  intro l
  induction l with
  | nil => intro h; cases h
  | cons x r ih =>
    intro h
    cases r with
    | nil => simp only [canS] at h; simp only [val]; omega
    | cons y r => have := ih h.2; have h2 := h.1; unfold val; omega
theorem enc_canS : ∀ (f : Nat) (l : List Int), canS l → l.length ≤ f + 1 → enc f (val l) = l := by
  intro f
  induction f with
  | zero =>
    intro l h hl
    cases l with
    | nil => cases h
    | cons x r =>
      cases r with
      | nil =>
        simp only [canS] at h
        have e : val [x] = x := by simp only [val]; omega
        rw [e, enc]
      | cons y r => simp at hl
  | succ f ih =>
    intro l h hl
    cases l with
    | nil => cases h
    | cons x r =>
      cases r with
      | nil =>
        simp only [canS] at h
        have e : val [x] = x := by simp only [val]; omega
        rw [e, enc, if_neg (by omega)]
      | cons y r =>
        have hp := canS_pos _ h.2
        have h2 := h.1
        have e : val (x :: y :: r) = x % 128 + 128 * val (y :: r) := rfl
        rw [e, enc, if_pos (by omega)]
        rw [show (x % 128 + 128 * val (y :: r)) % 128 + 128 = x from by omega, show (x % 128 + 128 * val (y :: r)) / 128 = val (y :: r) from by omega, ih _ h.2 (by simp at hl ⊢; omega)]
theorem enc_can {l : List Int} (h : can l) (hl : l.length ≤ 6) : enc 5 (val l) = l := by
  rcases h with ⟨x, rfl, h0, h1⟩ | h
  · have e : val [x] = x := by simp only [val]; omega
    rw [e, enc, if_neg (by omega)]
  · exact enc_canS 5 l h hl
theorem canS_append : ∀ (l : List Int) (x : Int), (∀ y ∈ l, 128 ≤ y ∧ y ≤ 255) → 1 ≤ x → x ≤ 127 → canS (l ++ [x]) := by
  intro l
  induction l with
  | nil => intro x _ h0 h1; exact ⟨h0, h1⟩
  | cons y r ih =>
    intro x hy h0 h1
    have h2 := ih x (fun z hz => hy z (by simp [hz])) h0 h1
    cases r with
    | nil => exact ⟨hy y (by simp), h2⟩
    | cons z r => exact ⟨hy y (by simp), h2⟩
theorem and127 {b : Int} (h0 : 0 ≤ b) (h1 : b ≤ 255) : IntKind.i64.wrap (iAnd .u8 b 127) = b % 128 := by
  have key : ∀ n : Fin 256, IntKind.i64.wrap (iAnd .u8 (n.val : Int) 127) = (n.val : Int) % 128 := by decide +kernel
  have := key ⟨b.toNat, by omega⟩
  have e : ((b.toNat : Nat) : Int) = b := by omega
  simpa [e] using this
theorem join_val {v : Int} {pre : List Int} (hv : v = val pre) {k : Nat} (hk : pre.length = k) (h4 : k ≤ 4) (x : Int) : iOr .i64 v (iShl .i64 (x % 128) (7 * (k : Int))) = val (pre ++ [x]) := by
  subst hk
  obtain ⟨m, hm⟩ : ∃ m : Nat, x % 128 = m := ⟨(x % 128).toNat, by omega⟩
  obtain ⟨n, hn⟩ : ∃ n : Nat, val pre = n := ⟨(val pre).toNat, by have := val_nonneg pre; omega⟩
  have hlt := val_lt pre
  have e7 : (128 : Nat) ^ pre.length = 2 ^ (7 * pre.length) := by rw [Nat.pow_mul]
  have hb : 2 ^ (7 * pre.length) ≤ 268435456 := by
    have : 2 ^ (7 * pre.length) ≤ 2 ^ 28 := Nat.pow_le_pow_right (by decide) (by omega)
    simpa using this
  have hlt2 : n < 2 ^ (7 * pre.length) := by
    rw [← e7]
    have : ((n : Nat) : Int) < ((128 ^ pre.length : Nat) : Int) := by rw [← hn]; push_cast; exact hlt
    exact Int.ofNat_lt.1 this
  have hmm : m ≤ 127 := by omega
  have hprod : 2 ^ (7 * pre.length) * m ≤ 268435456 * 127 := Nat.mul_le_mul hb hmm
  have es : iShl .i64 (x % 128) (7 * (pre.length : Int)) = ((2 ^ (7 * pre.length) * m : Nat) : Int) := by
    unfold iShl
    have e1 : min (7 * (pre.length : Int)).toNat IntKind.i64.bits = 7 * pre.length := by
      have : (7 * (pre.length : Int)).toNat = 7 * pre.length := by omega
      rw [this]
      exact Nat.min_eq_left (by show 7 * pre.length ≤ 64; omega)
    rw [e1, hm]
    have e2 : ((m : Nat) : Int) * 2 ^ (7 * pre.length) = ((2 ^ (7 * pre.length) * m : Nat) : Int) := by push_cast; rw [Int.mul_comm]
    rw [e2, i64_id (by omega) (by omega)]
  rw [es, hv, hn, iOr_add (7 * pre.length) hlt2 (by omega), val_append, hn, hm]
  push_cast
  rw [show (128 : Int) ^ pre.length = 2 ^ (7 * pre.length) from by have := congrArg (fun q : Nat => (q : Int)) e7; push_cast at this; exact this]
theorem gt_byte {a : List Int} (h : ∀ x ∈ a, 0 ≤ x ∧ x ≤ 255) {i : Nat} (hi : i < a.length) : 0 ≤ gt a (i : Int) ∧ gt a (i : Int) ≤ 255 := h _ (gt_mem hi)
theorem take_next {a : List Int} {p k : Nat} (h : p + k < a.length) : (a.drop p).take (k + 1) = (a.drop p).take k ++ [gt a ((p + k : Nat) : Int)] := by
  rw [gt_nat h, List.take_succ_eq_append_getElem (by simp; omega)]
  simp
def readOk (a : List Int) (p : Nat) (r : Int × Int × Bool) : Prop :=
  r = (0, 0, false) ∨ ∃ l, can l ∧ l.length ≤ 5 ∧ p + l.length ≤ a.length ∧ (a.drop p).take l.length = l ∧ r = (val l, ((p + l.length : Nat) : Int), true) ∧ val l ≤ 1000000000
theorem getVar_loop (K : Nat) (a : List Int) (hb : ∀ x ∈ a, 0 ≤ x ∧ x ≤ 255) (ha : a.length ≤ 140737488355000) (p : Nat) (hp : p < a.length) : ∀ (n i : Nat) (v : Int), i ≤ 5 → 5 - i < n → p + i ≤ a.length → v = val ((a.drop p).take i) → (∀ x ∈ (a.drop p).take i, 128 ≤ x ∧ x ≤ 255) →
    ∃ r, l_spec_GetVar_3 K a (p : Int) n v (i : Int) = some r ∧ l_impl_GetVar_5 K a (p : Int) n v (i : Int) = some r ∧ readOk a p r := by
  intro n
  induction n with
  | zero => intro i v _ h; omega
  | succ n ih =>
    intro i v hi hn hpi hv hall
    rw [l_spec_GetVar_3, l_impl_GetVar_5]
    unfold j_spec_GetVar_10 j_impl_GetVar_10
    have e1 : iAdd .i64 (p : Int) (i : Int) = ((p + i : Nat) : Int) := by unfold iAdd; rw [i64_id (by omega) (by omega)]; omega
    have e2 : iSub .i64 (a.length : Int) (i : Int) = (a.length : Int) - i := by unfold iSub; rw [i64_id (by omega) (by omega)]
    have e3 : iSub .i64 (a.length : Int) (p : Int) = (a.length : Int) - p := by unfold iSub; rw [i64_id (by omega) (by omega)]
    have e4 : iMul .i64 7 (i : Int) = 7 * i := by unfold iMul; rw [i64_id (by omega) (by omega)]
    have e5 : IntKind.u64.wrap (7 * (i : Int)) = 7 * i := by rw [IntKind.wrap_u64]; omega
    have e6 : iAdd .i64 (i : Int) 1 = ((i + 1 : Nat) : Int) := iAdd1 (by omega)
    have e7 : iAdd .i64 ((p + i : Nat) : Int) 1 = ((p + (i + 1) : Nat) : Int) := by unfold iAdd; rw [i64_id (by omega) (by omega)]; omega
    rw [e1, e2, e3, e4, e5, e6, e7]
    have d1 : decide ((p : Int) < 0) = false := by simp
    rw [d1]
    simp only [cond_false]
    have hlen : ((a.drop p).take i).length = i := by simp; omega
    rcases Nat.lt_or_ge i 5 with h5 | h5
    · have d2 : decide ((i : Int) < 5) = true := by simp; omega
      rw [d2]
      simp only [cond_true]
      rcases Nat.lt_or_ge (p + i) a.length with hl | hl
      · have d3 : decide ((p : Int) ≥ (a.length : Int) - i) = false := by simp; omega
        have d4 : decide ((i : Int) < iMin 5 ((a.length : Int) - p)) = true := by unfold iMin; split <;> simp <;> omega
        rw [d3, d4]
        simp only [cond_true, cond_false]
        obtain ⟨g0, g1⟩ := gt_byte hb hl
        have ht := take_next hl
        rw [if_pos ⟨by omega, by omega⟩, if_pos (by omega), if_pos ⟨by omega, by omega⟩, if_pos (by omega)]
        generalize hx : gt a ((p + i : Nat) : Int) = b at g0 g1 ht
        rw [i64_id (by omega) (by omega), and127 g0 g1, iAnd127 g0 (by omega), join_val hv hlen (by omega) b, ← ht]
        by_cases c1 : b < 128
        · rw [decide_eq_true c1]
          simp only [cond_true]
          have hlen1 : ((a.drop p).take (i + 1)).length = i + 1 := by simp; omega
          have good : (i = 0 ∨ b ≠ 0) → val ((a.drop p).take (i + 1)) ≤ 1000000000 → readOk a p (val ((a.drop p).take (i + 1)), ((p + (i + 1) : Nat) : Int), true) := by
            intro h0 hle
            refine .inr ⟨(a.drop p).take (i + 1), ?_, by omega, by omega, by rw [hlen1], by rw [hlen1], hle⟩
            rw [ht]
            rcases h0 with h0 | h0
            · subst h0; exact .inl ⟨b, by simp, g0, by omega⟩
            · exact .inr (canS_append _ b hall (by omega) (by omega))
          by_cases c2 : (i : Int) > 0
          · rw [decide_eq_true c2]
            by_cases c3 : b = 0
            · rw [c3]; exact ⟨_, rfl, rfl, .inl rfl⟩
            · rw [beq_f c3]
              by_cases c4 : val ((a.drop p).take (i + 1)) > 1000000000
              · rw [decide_eq_true c4]; exact ⟨_, rfl, rfl, .inl rfl⟩
              · rw [decide_eq_false c4]; exact ⟨_, rfl, rfl, good (.inr c3) (by omega)⟩
          · rw [decide_eq_false c2]
            by_cases c4 : val ((a.drop p).take (i + 1)) > 1000000000
            · rw [decide_eq_true c4]
              cases b == 0 <;> exact ⟨_, rfl, rfl, .inl rfl⟩
            · rw [decide_eq_false c4]
              cases b == 0 <;> exact ⟨_, rfl, rfl, good (.inl (by omega)) (by omega)⟩
        · rw [decide_eq_false c1]
          simp only [cond_false]
          refine ih (i + 1) _ (by omega) (by omega) (by omega) rfl ?_
          rw [ht]
          intro x hx2
          rcases List.mem_append.1 hx2 with h | h
          · exact hall x h
          · simp only [List.mem_singleton] at h; subst h; exact ⟨by omega, g1⟩
      · have d3 : decide ((p : Int) ≥ (a.length : Int) - i) = true := by simp; omega
        have d4 : decide ((i : Int) < iMin 5 ((a.length : Int) - p)) = false := by unfold iMin; split <;> simp <;> omega
        rw [d3, d4]
        exact ⟨_, rfl, rfl, .inl rfl⟩
    · have d2 : decide ((i : Int) < 5) = false := by simp; omega
      have d4 : decide ((i : Int) < iMin 5 ((a.length : Int) - p)) = false := by unfold iMin; split <;> simp <;> omega
      rw [d2, d4]
      exact ⟨_, rfl, rfl, .inl rfl⟩
theorem getVar_same {K : Nat} (hK : 6 ≤ K) (a : List Int) (hb : ∀ x ∈ a, 0 ≤ x ∧ x ≤ 255) (ha : a.length ≤ 140737488355000) (p : Int) : ∃ r, m_spec_GetVar K a p = some r ∧ m_impl_GetVar K a p = some r ∧ (r = (0, 0, false) ∨ (0 ≤ p ∧ readOk a p.toNat r)) := by
  unfold m_spec_GetVar m_impl_GetVar m_impl_within
  have e3 : iSub .i64 (a.length : Int) 1 = (a.length : Int) - 1 := by unfold iSub; rw [i64_id (by omega) (by omega)]
  have e2 : iSub .i64 (a.length : Int) 0 = (a.length : Int) := by unfold iSub; rw [i64_id (by omega) (by omega)]; omega
  rw [e3]
  by_cases h : 0 ≤ p ∧ p < a.length
  · obtain ⟨q, rfl⟩ : ∃ q : Nat, p = q := ⟨p.toNat, by omega⟩
    have d1 : decide ((q : Int) ≥ 0) = true := by simp
    have d2 : decide ((q : Int) ≤ (a.length : Int) - 1) = true := by simp; omega
    rw [d1, d2]
    simp only [cond_true, Option.bind_some]
    obtain ⟨r, h1, h2, h3⟩ := getVar_loop K a hb ha q (by omega) K 0 0 (by omega) (by omega) (by omega) (by simp [val]) (by simp)
    exact ⟨r, h1, h2, .inr ⟨by omega, by simpa using h3⟩⟩
  · obtain ⟨n, rfl⟩ : ∃ n, K = n + 1 := ⟨K - 1, by omega⟩
    refine ⟨(0, 0, false), ?_, ?_, .inl rfl⟩
    · rw [l_spec_GetVar_3, e2]
      have d2 : decide ((0 : Int) < 5) = true := by decide
      rw [d2]
      simp only [cond_true]
      by_cases c : p < 0
      · rw [decide_eq_true c]; rfl
      · rw [decide_eq_false c, decide_eq_true (show p ≥ (a.length : Int) by omega)]; rfl
    · by_cases c : p ≥ 0
      · rw [decide_eq_true c]
        simp only [cond_true]
        rw [decide_eq_false (show ¬ p ≤ (a.length : Int) - 1 by omega)]; rfl
      · rw [decide_eq_false c]; rfl

/-! ### A call is read from its bytes -/
def e1 (n : Int) : List Int := if 0 ≤ n ∧ n ≤ 1000000000 then enc 5 n else []
def encs : List Int → List Int
  | [] => []
  | n :: r => e1 n ++ encs r
theorem encs_append : ∀ l m : List Int, encs (l ++ m) = encs l ++ encs m := by
  intro l m
  induction l with
  | nil => rfl
  | cons x r ih => simp [encs, ih]
theorem e1_len (n : Int) : (e1 n).length ≤ 6 := by
  unfold e1
  split
  · exact enc_len 5 n
  · exact Nat.zero_le _
theorem putL1_e1 (b : List Int) (n : Int) : putL1 b n = b ++ e1 n := by
  unfold putL1 e1
  split <;> simp
def numsOf (a0 : T_impl_Op) : List Int := [a0.fKind, a0.fH.fSlot, a0.fH.fGen, a0.fR.fH.fSlot, a0.fR.fH.fGen, a0.fR.fEp, a0.fR.fNo, a0.fN, a0.fM, (a0.fB.length : Int)]
theorem putOp_iloop {K : Nat} (hK : 7 ≤ K) (a : T_impl_Op) (ha : a.fB.length ≤ 140737488351232) : ∀ (n i : Nat) (v : List Int), i ≤ 10 → 10 - i < n → v.length ≤ 6 * i →
    l_impl_PutOp_5 K a n v (i : Int) = some (v ++ encs ((numsOf a).drop i) ++ a.fB) := by
  intro n
  induction n with
  | zero => intro i v _ h; omega
  | succ n ih =>
    intro i v hi hn hv
    rw [l_impl_PutOp_5]
    show (bif decide ((i : Int) < ((numsOf a).length : Int)) then (if (0 : Int) ≤ (i : Int) ∧ (i : Int) < ((numsOf a).length : Int) then ((m_impl_PutVar K v (gt (numsOf a) (i : Int))).bind fun r8 => (l_impl_PutOp_5 K a n r8 (iAdd .i64 (i : Int) 1))) else none) else (if (v ++ a.fB).length * 1 ≤ 140737488355328 ∧ (v ++ a.fB).length ≤ maxLen then some (v ++ a.fB) else none)) = _
    have hlen : (numsOf a).length = 10 := rfl
    rcases Nat.lt_or_ge i 10 with h | h
    · have hi2 : i < (numsOf a).length := by rw [hlen]; exact h
      have hd : (numsOf a).drop i = gt (numsOf a) (i : Int) :: (numsOf a).drop (i + 1) := by rw [List.drop_eq_getElem_cons hi2, gt_nat hi2]
      rw [dlt_t hi2]
      simp only [cond_true]
      have hel := e1_len (gt (numsOf a) (i : Int))
      rw [if_pos ⟨by omega, by omega⟩, putVar_impl hK (by omega), iAdd1 (i := i) (by omega), putL1_e1]
      simp only [Option.bind_some]
      rw [ih (i + 1) _ h (by omega) (by simp; omega), hd]
      simp [encs]
    · have hd : (numsOf a).drop i = [] := List.drop_eq_nil_of_le (by rw [hlen]; exact h)
      rw [dlt_f (show (numsOf a).length ≤ i by rw [hlen]; exact h), hd]
      simp only [cond_false]
      rw [if_pos ⟨by simp; omega, by simp [maxLen]; omega⟩]
      simp [encs]
theorem val_enc : ∀ (f : Nat) (v : Int), 0 ≤ v → v < 128 ^ (f + 1) → val (enc f v) = v := by
  intro f
  induction f with
  | zero => intro v h0 h1; simp at h1; simp only [enc, val]; omega
  | succ f ih =>
    intro v h0 h1
    have hp : (128 : Int) ^ (f + 1 + 1) = 128 ^ (f + 1) * 128 := Int.pow_succ 128 (f + 1)
    rw [hp] at h1
    unfold enc
    split
    · have := ih (v / 128) (by omega) (by omega)
      simp only [val, this]; omega
    · simp only [val]; omega
theorem enc_byte : ∀ (f : Nat) (v : Int), 0 ≤ v → v < 128 ^ (f + 1) → ∀ x ∈ enc f v, 0 ≤ x ∧ x ≤ 255 := by
  intro f
  induction f with
  | zero => intro v h0 h1 x hx; simp at h1; simp only [enc, List.mem_singleton] at hx; omega
  | succ f ih =>
    intro v h0 h1 x hx
    have hp : (128 : Int) ^ (f + 1 + 1) = 128 ^ (f + 1) * 128 := Int.pow_succ 128 (f + 1)
    rw [hp] at h1
    unfold enc at hx
    split at hx
    · rcases List.mem_cons.1 hx with rfl | hx
      · omega
      · exact ih (v / 128) (by omega) (by omega) x hx
    · simp only [List.mem_singleton] at hx; omega
theorem e1_byte (n : Int) : ∀ x ∈ e1 n, 0 ≤ x ∧ x ≤ 255 := by
  unfold e1
  split
  · exact enc_byte 5 n (by omega) (by have : (128 : Int) ^ (5 + 1) = 4398046511104 := by decide
                                      omega)
  · intro x hx; cases hx
theorem encs_byte : ∀ l : List Int, ∀ x ∈ encs l, 0 ≤ x ∧ x ≤ 255 := by
  intro l
  induction l with
  | nil => intro x hx; cases hx
  | cons n r ih =>
    intro x hx
    rcases List.mem_append.1 hx with h | h
    · exact e1_byte n x h
    · exact ih x h
theorem e1_inj {n m : Int} (hn : 0 ≤ n ∧ n ≤ 1000000000) (hm : 0 ≤ m ∧ m ≤ 1000000000) (h : e1 n = e1 m) : n = m := by
  unfold e1 at h
  rw [if_pos hn, if_pos hm] at h
  have hp : (128 : Int) ^ (5 + 1) = 4398046511104 := by decide
  have h1 := val_enc 5 n hn.1 (by rw [hp]; omega)
  have h2 := val_enc 5 m hm.1 (by rw [hp]; omega)
  rw [← h1, ← h2, h]
theorem str_eq {x y : List Int} (hx : ∀ a ∈ x, 0 ≤ a ∧ a ≤ 255) (hy : ∀ a ∈ y, 0 ≤ a ∧ a ≤ 255) : ((strOfNums x).toList == (strOfNums y).toList) = decide (x = y) := by
  rw [ByteArray.toList_eq, ByteArray.toList_eq, strOfNums_data, strOfNums_data]
  by_cases h : x = y
  · subst h; simp
  · rw [decide_eq_false h]
    have : ¬ (x.map fun n => UInt8.ofNat n.toNat) = (y.map fun n => UInt8.ofNat n.toNat) := by
      intro he
      apply h
      refine List.ext_getElem? fun i => ?_
      have hi := congrArg (fun l => l[i]?) he
      simp only [List.getElem?_map] at hi
      cases e1 : x[i]? with
      | none => rw [e1] at hi; cases e2 : y[i]? with
        | none => rfl
        | some b => rw [e2] at hi; simp at hi
      | some a =>
        rw [e1] at hi
        cases e2 : y[i]? with
        | none => rw [e2] at hi; simp at hi
        | some b =>
          rw [e2] at hi
          simp only [Option.map_some, Option.some.injEq] at hi
          have ha := hx a (List.mem_of_getElem? e1)
          have hb := hy b (List.mem_of_getElem? e2)
          have h3 := congrArg UInt8.toNat hi
          simp only [UInt8.toNat_ofNat'] at h3
          rw [Nat.mod_eq_of_lt (by omega), Nat.mod_eq_of_lt (by omega)] at h3
          have : a = b := by omega
          rw [this]
    simpa using this
def op0 : T_impl_Op := T_impl_Op.mk 0 (T_impl_Handle.mk 0 0) (T_impl_Ref.mk (T_impl_Handle.mk 0 0) 0 0) 0 0 []
theorem set_next {v : List Int} {i : Nat} (hv : v.length = i) (h : i < 10) (x : Int) : (v ++ List.replicate (10 - i) 0).set i x = (v ++ [x]) ++ List.replicate (10 - (i + 1)) 0 := by
  subst hv
  obtain ⟨m, hm⟩ : ∃ m, 10 - v.length = m + 1 := ⟨10 - v.length - 1, by omega⟩
  rw [hm, show 10 - (v.length + 1) = m from by omega, List.set_append_right _ _ (Nat.le_refl _), Nat.sub_self, List.replicate_succ, List.set_cons_zero]
  simp
theorem getOp_loop {K : Nat} (hK : 20 ≤ K) {a : List Int} (hb : ∀ x ∈ a, 0 ≤ x ∧ x ≤ 255) (ha : a.length ≤ 1048576) : ∀ (n i p : Nat) (v : List Int), i ≤ 10 → 10 - i < n → v.length = i → (∀ x ∈ v, 0 ≤ x ∧ x ≤ 1000000000) → p ≤ a.length → a.take p = encs v →
    ∃ r, l_spec_GetOp_4 K a n v (p : Int) (i : Int) = some r ∧ l_impl_GetOp_4 K a n (p : Int) (i : Int) (v ++ List.replicate (10 - i) 0) = some r ∧ r.1.fB.length ≤ a.length := by
  intro n
  induction n with
  | zero => intro i p v _ h; omega
  | succ n ih =>
    intro i p v hi hn hv hval hp htake
    rcases Nat.lt_or_ge i 10 with h | h
    · rw [l_spec_GetOp_4, l_impl_GetOp_4]
      obtain ⟨r, h1, h2, h3⟩ := getVar_same (K := K) (by omega) a hb (by omega) (p : Int)
      have d : decide ((i : Int) < 10) = true := decide_eq_true (by omega)
      rw [d, h1, h2]
      simp only [cond_true, Option.bind_some]
      have bad : r = (0, 0, false) → r.2.2 = false := by rintro rfl; rfl
      rcases h3 with h3 | ⟨_, h3⟩
      · rw [bad h3]; exact ⟨(op0, false), rfl, rfl, Nat.zero_le _⟩
      · rw [Int.toNat_natCast] at h3
        rcases h3 with h3 | ⟨l, hc, hl5, hpl, htk, rfl, hle⟩
        · rw [bad h3]; exact ⟨(op0, false), rfl, rfl, Nat.zero_le _⟩
        · simp only [cond_true]
          have hvl := val_nonneg l
          rw [if_pos ⟨by simp; omega, by simp [maxLen]; omega⟩, if_pos ⟨by omega, by omega⟩, if_pos ⟨by omega, by simp only [List.length_append, List.length_replicate]; omega⟩, Int.toNat_natCast, set_next hv h, iAdd1 (i := i) (by omega)]
          refine ih (i + 1) (p + l.length) (v ++ [val l]) h (by omega) (by simp [hv]) ?_ hpl ?_
          · intro x hx
            rcases List.mem_append.1 hx with hx | hx
            · exact hval x hx
            · simp only [List.mem_singleton] at hx; subst hx; exact ⟨hvl, hle⟩
          · rw [encs_append, ← htake, List.take_add, htk]
            simp only [encs, List.append_nil]
            unfold e1
            rw [if_pos ⟨hvl, hle⟩, enc_can hc (by omega)]
    · have hi10 : i = 10 := by omega
      subst hi10
      match v, hv, hval, htake with
      | [n0, n1, n2, n3, n4, n5, n6, n7, n8, n9], _, hval, htake =>
        have hB : (a.drop p).take ((a.length : Int) - (p : Int)).toNat = a.drop p := List.take_of_length_le (by rw [List.length_drop]; omega)
        have hBl : (a.drop p).length ≤ a.length := by simp
        have he : a = encs [n0, n1, n2, n3, n4, n5, n6, n7, n8, n9] ++ a.drop p := by rw [← htake]; exact (List.take_append_drop p a).symm
        let o : T_impl_Op := T_impl_Op.mk n0 (T_impl_Handle.mk n1 n2) (T_impl_Ref.mk (T_impl_Handle.mk n3 n4) n5 n6) n7 n8 (a.drop p)
        obtain ⟨t, q1, q2⟩ := opOk_same K (by omega) o
        have q3 : m_impl_PutOp K o = some (bif t then encs (numsOf o) ++ a.drop p else []) := by
          unfold m_impl_PutOp
          rw [q2]
          cases t with
          | false => rfl
          | true =>
            have := putOp_iloop (K := K) (by omega) o (by show (a.drop p).length ≤ _; omega) K 0 [] (by omega) (by omega) (by simp)
            simpa using this
        have hs : l_spec_GetOp_4 K a (n + 1) [n0, n1, n2, n3, n4, n5, n6, n7, n8, n9] (p : Int) ((10 : Nat) : Int) = (bif (((a.drop p).length : Int) != n9) then some (op0, false) else ((m_spec_OpOk K o).bind fun r22 => (bif r22 then some (o, true) else some (op0, false)))) := by
          rw [l_spec_GetOp_4]
          rw [show decide ((((10 : Nat) : Int)) < 10) = false from by decide]
          simp only [cond_false]
          rw [if_pos (by simp), if_pos (by simp), if_pos (by simp), if_pos (by simp), if_pos (by simp), if_pos (by simp), if_pos (by simp), if_pos (by simp), if_pos (by simp), if_pos ⟨by omega, by omega, by omega⟩, Int.toNat_natCast, hB, List.nil_append, if_pos ⟨by omega, by unfold maxLen; omega⟩, if_pos (by simp)]
          rfl
        have hi : l_impl_GetOp_4 K a (n + 1) (p : Int) ((10 : Nat) : Int) [n0, n1, n2, n3, n4, n5, n6, n7, n8, n9] = ((m_impl_OpOk K o).bind fun r30 => (bif r30 then ((m_impl_PutOp K o).bind fun r32 => ((m_bytes_Equal K r32 a).bind fun r33 => (bif r33 then some (o, true) else some (op0, false)))) else some (op0, false))) := by
          rw [l_impl_GetOp_4]
          rw [show decide ((((10 : Nat) : Int)) < 10) = false from by decide]
          simp only [cond_false]
          rw [if_pos (by decide), if_pos (by simp), if_pos (by decide), if_pos (by simp), if_pos (by decide), if_pos (by simp), if_pos (by decide), if_pos (by simp), if_pos (by decide), if_pos (by simp), if_pos (by decide), if_pos (by simp), if_pos (by decide), if_pos (by simp), if_pos (by decide), if_pos (by simp), if_pos (by decide), if_pos (by simp), if_pos ⟨by omega, by omega, by omega⟩, Int.toNat_natCast, hB, clone_ok K (by omega)]
          rfl
        show ∃ r, l_spec_GetOp_4 K a (n + 1) [n0, n1, n2, n3, n4, n5, n6, n7, n8, n9] (p : Int) ((10 : Nat) : Int) = some r ∧ l_impl_GetOp_4 K a (n + 1) (p : Int) ((10 : Nat) : Int) [n0, n1, n2, n3, n4, n5, n6, n7, n8, n9] = some r ∧ _
        rw [hs, hi, q1, q2, q3]
        simp only [Option.bind_some]
        cases t with
        | false =>
          refine ⟨(op0, false), ?_, rfl, Nat.zero_le _⟩
          cases (((a.drop p).length : Int) != n9) <;> rfl
        | true =>
          simp only [cond_true]
          have hnums : numsOf o = [n0, n1, n2, n3, n4, n5, n6, n7, n8] ++ [((a.drop p).length : Int)] := rfl
          have hvals : ([n0, n1, n2, n3, n4, n5, n6, n7, n8, n9] : List Int) = [n0, n1, n2, n3, n4, n5, n6, n7, n8] ++ [n9] := rfl
          have hby : ∀ x ∈ encs (numsOf o) ++ a.drop p, 0 ≤ x ∧ x ≤ 255 := by
            intro x hx
            rcases List.mem_append.1 hx with hx | hx
            · exact encs_byte _ x hx
            · exact hb x (List.mem_of_mem_drop hx)
          unfold m_bytes_Equal
          rw [str_eq hby hb]
          simp only [Option.bind_some]
          by_cases hl : ((a.drop p).length : Int) = n9
          · have e : encs (numsOf o) ++ a.drop p = a := by rw [hnums, hl, ← hvals]; exact he.symm
            rw [decide_eq_true e, show ((((a.drop p).length : Int)) != n9) = false from by rw [hl]; exact bne_self_eq_false n9]
            exact ⟨(o, true), rfl, rfl, hBl⟩
          · have e : ¬ encs (numsOf o) ++ a.drop p = a := by
              intro h2
              have h3 := List.append_cancel_right (h2.trans he)
              rw [hnums, hvals, encs_append, encs_append] at h3
              have h4 := List.append_cancel_left h3
              simp only [encs, List.append_nil] at h4
              exact hl (e1_inj ⟨by omega, by omega⟩ (hval n9 (by simp)) h4)
            rw [decide_eq_false e, bne_t hl]
            exact ⟨(op0, false), rfl, rfl, Nat.zero_le _⟩
theorem getOp_same {K : Nat} (hK : 20 ≤ K) {a : List Int} (hb : ∀ x ∈ a, 0 ≤ x ∧ x ≤ 255) (ha : a.length ≤ 1048576) : ∃ r, m_spec_GetOp K a = some r ∧ m_impl_GetOp K a = some r ∧ r.1.fB.length ≤ a.length := by
  unfold m_spec_GetOp m_impl_GetOp
  exact getOp_loop hK hb ha K 0 0 [] (by omega) (by omega) rfl (by simp) (Nat.zero_le _) rfl

theorem wf_u8 {x : Int} : Wf_u8 x ↔ 0 ≤ x ∧ x ≤ 255 := by
  simp [Wf_u8, Lit.wf, IntKind.min, IntKind.max, IntKind.signed, IntKind.bits]
theorem pure_FnExactGetOp (a : List Int) (w : Wf_Lu8 a) : ∃ K, m_laws_FnExactGetOp K a = some true := by
  refine ⟨K0, ?_⟩
  have hK : 281474976710656 ≤ K0 := Nat.le_refl _
  unfold m_laws_FnExactGetOp m_laws_markOpW m_laws_heldOp
  by_cases hb : (a.length : Int) > 1048576
  · rw [decide_eq_true hb]; rfl
  · rw [decide_eq_false hb]
    have hl : a.length ≤ 1048576 := by omega
    obtain ⟨r, h1, h2, h3⟩ := getOp_same (K := K0) (by decide) (a := a) (fun x hx => wf_u8.1 (w.1 x hx)) hl
    have m1 := mark_ok hK (a := a) (by omega) 1 (by decide)
    have m2 := mark_ok hK (a := r.1.fB) (by omega) 1 (by decide)
    have m3 := held_ok hK r.1.fB.length 1 (by decide) (by omega)
    have c1 : (1 : Int) = ((1 : Nat) : Int) := rfl
    rw [← c1] at m1 m2 m3
    have d1 : decide (((1 + a.length : Nat) : Int) < 0) = false := decide_eq_false (by omega)
    have d2 : decide (((1 + r.1.fB.length : Nat) : Int) < 0) = false := decide_eq_false (by omega)
    simp only [cond_false, toByteS_l hK (a := a) (by omega), Option.bind_some, h1, h2, eqByteS_l hK (a := a) (by omega), eqOp_l hK (a := r.1) (by omega), cond_true, BEq.rfl, Bool.not_true, m1, m2, m3, markB_len, if_true, d1, d2, bne_self_eq_false]

end Go.Proofs.Ytlenlhlggknelaa
