/- Plain laws for FnOps. -/
import Derived.Test.YtlenlhlggknelaaGFnOpsb
set_option linter.unusedVariables false
set_option linter.unusedSimpArgs false
namespace Go.Proofs.Ytlenlhlggknelaa
open Go.Eng Go.ChangeShapes Go.WideShapes Go.ChangeAt Go.RowKit
/-! ### Loops over lists -/
theorem iAdd1 {i : Nat} (h : i ≤ 140737488355328) : iAdd .i64 (i : Int) 1 = ((i + 1 : Nat) : Int) := by
  unfold iAdd
  rw [IntKind.wrap_i64]
  omega
theorem gt_nat {α : Type} [Inhabited α] {l : List α} {i : Nat} (h : i < l.length) : gt l (i : Int) = l[i] := by
  unfold gt
  simp [h]
theorem gt_mem {α : Type} [Inhabited α] {l : List α} {i : Nat} (h : i < l.length) : gt l (i : Int) ∈ l := by
  rw [gt_nat h]; exact List.getElem_mem h
theorem gt_memI {α : Type} [Inhabited α] {l : List α} {i : Int} (h0 : 0 ≤ i) (h : i < l.length) : gt l i ∈ l := by
  obtain ⟨k, rfl⟩ : ∃ k : Nat, i = k := ⟨i.toNat, by omega⟩
  exact gt_mem (by omega)
theorem dlt_t {i k : Nat} (h : i < k) : decide ((i : Int) < (k : Int)) = true := by simp; omega
theorem dlt_f {i k : Nat} (h : k ≤ i) : decide ((i : Int) < (k : Int)) = false := by simp; omega

theorem conv_ok {α β : Type} [Inhabited α] (a : List α) (f : α → Option β) (g : α → β) (hf : ∀ x ∈ a, f x = some (g x)) (ha : a.length ≤ 140737488355328)
    (L : Nat → Int → List β → Option (List β)) (hL : ∀ n i v, L (n + 1) i v = bif decide (i < (a.length : Int)) then (if (0 : Int) ≤ i ∧ i < (a.length : Int) then (f (gt a i)).bind (fun r => (if (0 : Int) ≤ i ∧ i < (v.length : Int) then L n (iAdd .i64 i 1) (v.set i.toNat r) else none)) else none) else some v) :
    ∀ (n i : Nat) (v : List β), i ≤ a.length → v.length = a.length → (∀ j, j < i → v[j]? = (a.map g)[j]?) → a.length - i < n → L n (i : Int) v = some (a.map g) := by
  intro n
  induction n with
  | zero => intro i v _ _ _ h; omega
  | succ n ih =>
    intro i v hi hv hj hn
    rw [hL]
    rcases Nat.lt_or_ge i a.length with h | h
    · rw [dlt_t h]
      simp only [cond_true]
      rw [if_pos ⟨by omega, by omega⟩, hf _ (gt_mem h)]
      simp only [Option.bind_some]
      rw [if_pos ⟨by omega, by omega⟩, iAdd1 (by omega)]
      refine ih (i + 1) _ h (by simpa using hv) (fun j hj2 => ?_) (by omega)
      rw [Int.toNat_natCast, List.getElem?_set]
      by_cases e : i = j
      · subst e
        rw [if_pos rfl, if_pos (by omega), gt_nat h, List.getElem?_map, List.getElem?_eq_getElem h]; rfl
      · rw [if_neg e]; exact hj j (by omega)
    · rw [dlt_f h]
      simp only [cond_false, Option.some.injEq]
      have hia : i = a.length := by omega
      refine List.ext_getElem? fun j => ?_
      rcases Nat.lt_or_ge j a.length with hja | hja
      · exact hj j (by omega)
      · rw [List.getElem?_eq_none (by omega), List.getElem?_eq_none (by simpa using hja)]
theorem eq_ok {β : Type} [Inhabited β] (a : List β) (e : β → β → Option Bool) (he : ∀ x ∈ a, e x x = some true) (ha : a.length ≤ 140737488355328)
    (L : Nat → Int → Option Bool) (hL : ∀ n i, L (n + 1) i = bif decide (i < (a.length : Int)) then (if (0 : Int) ≤ i ∧ i < (a.length : Int) then (if (0 : Int) ≤ i ∧ i < (a.length : Int) then (e (gt a i) (gt a i)).bind (fun r => bif r then L n (iAdd .i64 i 1) else some false) else none) else none) else some true) :
    ∀ (n i : Nat), i ≤ a.length → a.length - i < n → L n (i : Int) = some true := by
  intro n
  induction n with
  | zero => intro i _ h; omega
  | succ n ih =>
    intro i hi hn
    rw [hL]
    rcases Nat.lt_or_ge i a.length with h | h
    · rw [dlt_t h]
      simp only [cond_true]
      rw [if_pos ⟨by omega, by omega⟩, if_pos ⟨by omega, by omega⟩, he _ (gt_mem h), iAdd1 (by omega)]
      simp only [Option.bind_some, cond_true]
      exact ih (i + 1) h (by omega)
    · rw [dlt_f h]; rfl
theorem eqv_ok (a : List Int) (ha : a.length ≤ 140737488355328)
    (L : Nat → Int → Option Bool) (hL : ∀ n i, L (n + 1) i = bif decide (i < (a.length : Int)) then (if (0 : Int) ≤ i ∧ i < (a.length : Int) then (if (0 : Int) ≤ i ∧ i < (a.length : Int) then (bif (gt a i != gt a i) then some false else L n (iAdd .i64 i 1)) else none) else none) else some true) :
    ∀ (n i : Nat), i ≤ a.length → a.length - i < n → L n (i : Int) = some true := by
  intro n
  induction n with
  | zero => intro i _ h; omega
  | succ n ih =>
    intro i hi hn
    rw [hL]
    rcases Nat.lt_or_ge i a.length with h | h
    · rw [dlt_t h]
      simp only [cond_true]
      rw [if_pos ⟨by omega, by omega⟩, if_pos ⟨by omega, by omega⟩, iAdd1 (by omega)]
      simp only [bne_self_eq_false, cond_false]
      exact ih (i + 1) h (by omega)
    · rw [dlt_f h]; rfl
theorem sz_ok {α : Type} [Inhabited α] (a : List α) (f : α → Int → Option Int) (hf : ∀ x ∈ a, ∀ y, ∃ r, f x y = some r) (ha : a.length ≤ 140737488355328)
    (L : Nat → Int → Int → Option Int) (hL : ∀ n y i, L (n + 1) y i = bif decide (i < (a.length : Int)) then (if (0 : Int) ≤ i ∧ i < (a.length : Int) then (f (gt a i) y).bind (fun r => bif decide (r < 0) then some (-1) else L n r (iAdd .i64 i 1)) else none) else some y) :
    ∀ (n i : Nat) (y : Int), i ≤ a.length → a.length - i < n → ∃ r, L n y (i : Int) = some r := by
  intro n
  induction n with
  | zero => intro i _ _ h; omega
  | succ n ih =>
    intro i y hi hn
    rw [hL]
    rcases Nat.lt_or_ge i a.length with h | h
    · rw [dlt_t h]
      simp only [cond_true]
      obtain ⟨r, hr⟩ := hf _ (gt_mem h) y
      rw [if_pos ⟨by omega, by omega⟩, hr, iAdd1 (by omega)]
      simp only [Option.bind_some]
      cases decide (r < 0) with
      | true => exact ⟨_, rfl⟩
      | false => exact ih (i + 1) r h (by omega)
    · rw [dlt_f h]; exact ⟨_, rfl⟩
theorem i64_id {n : Int} (h0 : -9223372036854775808 ≤ n) (h1 : n ≤ 9223372036854775807) : IntKind.i64.wrap n = n := by rw [IntKind.wrap_i64]; omega
theorem i64_in (n : Int) : -9223372036854775808 ≤ IntKind.i64.wrap n ∧ IntKind.i64.wrap n ≤ 9223372036854775807 := by rw [IntKind.wrap_i64]; omega
theorem cc {α : Type} (b : Bool) (x : α) : (bif b then x else x) = x := by cases b <;> rfl
theorem bne_t {a b : Int} (h : ¬ a = b) : (a != b) = true := by simpa using h
theorem beq_f {a b : Int} (h : ¬ a = b) : (a == b) = false := by simpa using h

def num (x : Int) : Bool := decide (x ≥ 0) && decide (x ≤ 1000000000)
theorem spec_num (K : Nat) (x : Int) : m_spec_l21Num K x = some (num x) := by
  unfold m_spec_l21Num m_spec_l1In num
  cases decide (x ≥ 0) <;> rfl
theorem impl_num (K : Nat) (x : Int) : m_impl_isNum K x = some (num x) := by
  unfold m_impl_isNum m_impl_within num
  cases decide (x ≥ 0) <;> rfl
theorem impl_within (K : Nat) (x a b : Int) : m_impl_within K x a b = some (decide (x ≥ a) && decide (x ≤ b)) := by
  unfold m_impl_within
  cases decide (x ≥ a) <;> rfl
theorem spec_in (K : Nat) (x a b : Int) : m_spec_l1In K x a b = some (decide (x ≥ a) && decide (x ≤ b)) := by
  unfold m_spec_l1In
  cases decide (x ≥ a) <;> rfl
theorem add0 : iAdd .i64 0 1 = 1 := by decide +kernel
theorem add1 : iAdd .i64 1 1 = 2 := by decide +kernel
theorem add2 : iAdd .i64 2 1 = 3 := by decide +kernel
theorem add3 : iAdd .i64 3 1 = 4 := by decide +kernel
theorem add4 : iAdd .i64 4 1 = 5 := by decide +kernel
theorem add5 : iAdd .i64 5 1 = 6 := by decide +kernel
theorem add6 : iAdd .i64 6 1 = 7 := by decide +kernel
theorem add7 : iAdd .i64 7 1 = 8 := by decide +kernel

def opTail (K : Nat) (a : T_impl_Op) : Option Bool := (bif (a.fKind == 3) then j_impl_OpOk_10 K a true else j_impl_OpOk_10 K a (a.fKind == 4))
theorem impl_loop (K : Nat) (a : T_impl_Op) (n : Nat) : l_impl_OpOk_5 K a (n + 9) 0 =
    bif num a.fH.fSlot then bif num a.fH.fGen then bif num a.fR.fH.fSlot then bif num a.fR.fH.fGen then bif num a.fR.fEp then bif num a.fR.fNo then bif num a.fN then bif num a.fM then opTail K a else some false else some false else some false else some false else some false else some false else some false else some false := by
  simp [l_impl_OpOk_5, impl_num, add0, add1, add2, add3, add4, add5, add6, add7, gt, opTail]

theorem opOk_same (K : Nat) (hK : 10 ≤ K) (a : T_impl_Op) : ∃ t, m_spec_OpOk K a = some t ∧ m_impl_OpOk K a = some t := by
  obtain ⟨n, rfl⟩ : ∃ n, K = n + 9 := ⟨K - 9, by omega⟩
  unfold m_spec_OpOk m_impl_OpOk
  rw [impl_loop]
  simp only [spec_num, impl_within, Option.bind_some]
  generalize num a.fH.fSlot = p1
  generalize num a.fH.fGen = p2
  generalize num a.fR.fH.fSlot = p3
  generalize num a.fR.fH.fGen = p4
  generalize num a.fR.fEp = p5
  generalize num a.fR.fNo = p6
  generalize num a.fN = p7
  generalize num a.fM = p8
  have cf : ∀ (b : Bool), (bif b then some false else some false) = some false := by intro b; cases b <;> rfl
  have cf2 : ∀ (b c : Bool), (bif b then bif c then some false else some false else some false) = some false := by intro b c; cases b <;> cases c <;> rfl
  cases p1
  · exact ⟨false, rfl, cf2 _ _⟩
  cases p2
  · exact ⟨false, rfl, cf2 _ _⟩
  cases p3
  · exact ⟨false, rfl, cf2 _ _⟩
  cases p4
  · exact ⟨false, rfl, cf2 _ _⟩
  cases p5
  · exact ⟨false, rfl, cf2 _ _⟩
  cases p6
  · exact ⟨false, rfl, cf2 _ _⟩
  cases p7
  · exact ⟨false, rfl, cf2 _ _⟩
  cases p8
  · exact ⟨false, rfl, cf2 _ _⟩
  simp only [cond_true]
  cases decide ((a.fB.length : Int) > 200)
  · simp only [cond_false]
    unfold opTail j_spec_OpOk_18 j_impl_OpOk_10 j_impl_OpOk_112 j_impl_OpOk_214 j_impl_OpOk_316 j_impl_OpOk_419
    generalize ((a.fH.fSlot == 0) && ((a.fH.fGen == 0) && true)) = nH
    generalize (((a.fR.fH.fSlot == 0) && ((a.fR.fH.fGen == 0) && true)) && ((a.fR.fEp == 0) && ((a.fR.fNo == 0) && true))) = nR
    generalize (a.fN == 0) = n0
    generalize (a.fM == 0) = m0
    generalize ((a.fB.length : Int) == 0) = b0
    generalize a.fKind = k
    have hk : k = 1 ∨ k = 2 ∨ k = 3 ∨ k = 4 ∨ k = 5 ∨ k = 6 ∨ k = 7 ∨ k = 8 ∨ k = 9 ∨ (k < 1 ∨ 9 < k) := by omega
    rcases hk with rfl | rfl | rfl | rfl | rfl | rfl | rfl | rfl | rfl | hk
    all_goals first | (cases nH <;> cases nR <;> cases n0 <;> cases m0 <;> cases b0 <;> exact ⟨_, rfl, rfl⟩) | skip
    have e : (decide (k ≥ 1) && decide (k ≤ 9)) = false := by
      rcases hk with hk | hk
      · simp; omega
      · simp; omega
    have h1 : (k == 1) = false := by simp; omega
    have h2 : (k == 2) = false := by simp; omega
    have h3 : (k == 3) = false := by simp; omega
    have h4 : (k == 4) = false := by simp; omega
    have h5 : (k == 5) = false := by simp; omega
    have h6 : (k == 6) = false := by simp; omega
    have h7 : (k == 7) = false := by simp; omega
    have h8 : (k == 8) = false := by simp; omega
    have h9 : (k == 9) = false := by simp; omega
    simp only [e, h1, h2, h3, h4, h5, h6, h7, h8, h9]
    cases nH <;> cases nR <;> exact ⟨_, rfl, rfl⟩
  · exact ⟨false, rfl, cf _⟩


/-! ### An integer's bytes are appended -/
theorem putLoop_same (K : Nat) : ∀ (n : Nat) (v : Int) (l : List Int), l_spec_PutVar_6 K n v l = l_impl_PutVar_6 K n v l := by
  intro n
  induction n with
  | zero => intro v l; rfl
  | succ n ih => intro v l; rw [l_spec_PutVar_6, l_impl_PutVar_6, ih]
theorem shr7 {v : Int} (h0 : 0 ≤ v) (h1 : v ≤ 9223372036854775807) : iShr .i64 v 7 = v / 128 := by
  unfold iShr
  have e : ((2 : Int) ^ min (7 : Int).toNat IntKind.i64.bits) = 128 := by decide
  rw [e, Int.fdiv_eq_ediv_of_nonneg _ (by decide)]
theorem putLoop_ok (K : Nat) : ∀ (m n : Nat) (v : Int) (l : List Int), 0 ≤ v → v < 128 ^ m → v ≤ 9223372036854775807 → m ≤ n → l.length + m ≤ 140737488355320 → ∃ r, l_impl_PutVar_6 K (n + 1) v l = some r ∧ r.length ≤ l.length + m + 1 := by
  intro m
  induction m with
  | zero =>
    intro n v l h0 h1 _ _ hl
    have : v = 0 := by simp at h1; omega
    subst this
    refine ⟨l ++ [IntKind.u8.wrap 0], ?_, by simp⟩
    rw [l_impl_PutVar_6]
    have e : decide ((0 : Int) > 127) = false := by decide
    rw [e]
    simp only [cond_false]
    rw [if_pos ⟨by simp; omega, by simp [maxLen]; omega⟩]
  | succ m ih =>
    intro n v l h0 h1 h2 hn hl
    obtain ⟨n, rfl⟩ : ∃ q, n = q + 1 := ⟨n - 1, by omega⟩
    rw [l_impl_PutVar_6]
    by_cases h : v > 127
    · rw [decide_eq_true h]
      simp only [cond_true]
      have hp : (128 : Int) ^ (m + 1) = 128 ^ m * 128 := Int.pow_succ 128 m
      obtain ⟨r, q1, q2⟩ := ih n (v / 128) (l ++ [IntKind.u8.wrap (iOr .i64 (iAnd .i64 v 127) 128)]) (by omega) (by rw [hp] at h1; omega) (by omega) (by omega) (by simp; omega)
      rw [if_pos ⟨by simp; omega, by simp [maxLen]; omega⟩, if_pos (by decide), shr7 h0 h2]
      exact ⟨r, q1, by simp at q2; omega⟩
    · rw [decide_eq_false h]
      simp only [cond_false]
      rw [if_pos ⟨by simp; omega, by simp [maxLen]; omega⟩]
      exact ⟨_, rfl, by simp⟩
theorem clone_ok (K : Nat) {b : List Int} (hl : b.length ≤ 140737488355328) : m_slices_Clone_byte_byte K b = some b := by
  unfold m_slices_Clone_byte_byte
  rw [if_pos ⟨by simp; omega, by simp [maxLen]; omega⟩]
  rfl
theorem putVar_same {K : Nat} (hK : 7 ≤ K) {b : List Int} (hl : b.length ≤ 140737488355000) (n : Int) : ∃ r, m_spec_PutVar K b n = some r ∧ m_impl_PutVar K b n = some r ∧ r.length ≤ b.length + 6 := by
  unfold m_spec_PutVar m_impl_PutVar
  rw [if_pos ⟨by simp; omega, by simp [maxLen]; omega⟩, clone_ok K (by omega)]
  have hw : m_spec_l1In K n 0 1000000000 = m_impl_within K n 0 1000000000 := rfl
  have hr : m_impl_within K n 0 1000000000 = some (decide (0 ≤ n ∧ n ≤ 1000000000)) := by
    unfold m_impl_within
    by_cases h : n ≥ 0
    · rw [decide_eq_true h]
      simp only [cond_true, Option.some.injEq, decide_eq_decide]
      omega
    · rw [decide_eq_false h]
      simp only [cond_false, Option.some.injEq]
      exact (decide_eq_false (by omega)).symm
  rw [hw, hr]
  simp only [Option.bind_some, putLoop_same, List.nil_append]
  by_cases h : 0 ≤ n ∧ n ≤ 1000000000
  · rw [decide_eq_true h]
    obtain ⟨q, rfl⟩ : ∃ q, K = q + 1 := ⟨K - 1, by omega⟩
    have hp : (128 : Int) ^ 5 = 34359738368 := by decide
    obtain ⟨r, h1, h2⟩ := putLoop_ok (q + 1) 5 q n b h.1 (by rw [hp]; omega) (by omega) (by omega) (by omega)
    exact ⟨r, h1, h1, h2⟩
  · rw [decide_eq_false h]
    simp only [cond_false]
    exact ⟨b, rfl, rfl, by omega⟩

/-! ### Varints: what is written, what is read -/
theorem iAnd127 {v : Int} (h0 : 0 ≤ v) (h1 : v ≤ 9223372036854775807) : iAnd .i64 v 127 = v % 128 := by
  obtain ⟨n, rfl⟩ : ∃ n : Nat, v = n := ⟨v.toNat, by omega⟩
  unfold iAnd
  have e : (BitVec.ofInt IntKind.i64.bits (n : Int) &&& BitVec.ofInt IntKind.i64.bits 127).toNat = n % 128 := by
    show (BitVec.ofInt 64 (n : Int) &&& BitVec.ofInt 64 ((127 : Nat) : Int)).toNat = n % 128
    rw [BitVec.ofInt_natCast, BitVec.ofInt_natCast, BitVec.toNat_and, BitVec.toNat_ofNat, BitVec.toNat_ofNat]
    have := Nat.and_two_pow_sub_one_eq_mod (n % 2 ^ 64) 7
    have e2 : (127 : Nat) % 2 ^ 64 = 2 ^ 7 - 1 := by decide
    rw [e2, this]
    omega
  rw [e, i64_id (by omega) (by omega)]
  omega
theorem iOr_add {v w : Nat} (i : Nat) (hv : v < 2 ^ i) (hs : v + 2 ^ i * w ≤ 9223372036854775807) : iOr .i64 (v : Int) ((2 ^ i * w : Nat) : Int) = ((v + 2 ^ i * w : Nat) : Int) := by
  unfold iOr
  have e : (BitVec.ofInt IntKind.i64.bits (v : Int) ||| BitVec.ofInt IntKind.i64.bits ((2 ^ i * w : Nat) : Int)).toNat = v + 2 ^ i * w := by
    show (BitVec.ofInt 64 (v : Int) ||| BitVec.ofInt 64 ((2 ^ i * w : Nat) : Int)).toNat = _
    rw [BitVec.ofInt_natCast, BitVec.ofInt_natCast, BitVec.toNat_or, BitVec.toNat_ofNat, BitVec.toNat_ofNat, Nat.mod_eq_of_lt (by omega), Nat.mod_eq_of_lt (by omega), Nat.or_comm]
    have := Nat.two_pow_add_eq_or_of_lt hv w
    rw [← this]
    omega
  rw [e, i64_id (by omega) (by omega)]
def enc : Nat → Int → List Int
  | 0, v => [v]
  | f + 1, v => if v > 127 then (v % 128 + 128) :: enc f (v / 128) else [v]
theorem enc_len : ∀ (f : Nat) (v : Int), (enc f v).length ≤ f + 1 := by
  intro f
  induction f with
  | zero => intro v; exact Nat.le_refl _
  | succ f ih =>
    intro v
    unfold enc
    split
    · simp only [List.length_cons]; have := ih (v / 128); omega
    · simp
theorem low_byte {v : Int} (h0 : 0 ≤ v) (h1 : v ≤ 9223372036854775807) : IntKind.u8.wrap (iOr .i64 (iAnd .i64 v 127) 128) = v % 128 + 128 := by
  rw [iAnd127 h0 h1]
  obtain ⟨n, hn⟩ : ∃ n : Nat, v % 128 = n := ⟨(v % 128).toNat, by omega⟩
  rw [hn]
  have := iOr_add (v := n) (w := 1) 7 (by omega) (by omega)
  rw [show (128 : Int) = ((2 ^ 7 * 1 : Nat) : Int) from by decide, this, IntKind.wrap_u8]
  omega
theorem wrap_byte {v : Int} (h0 : 0 ≤ v) (h1 : v ≤ 255) : IntKind.u8.wrap v = v := by rw [IntKind.wrap_u8]; omega
theorem putLoop_enc (K : Nat) : ∀ (m n : Nat) (v : Int) (l : List Int), 0 ≤ v → v < 128 ^ m → v ≤ 9223372036854775807 → m ≤ n → l.length + m ≤ 140737488355320 → l_impl_PutVar_6 K (n + 1) v l = some (l ++ enc m v) := by
  intro m
  induction m with
  | zero =>
    intro n v l h0 h1 _ _ hl
    have : v = 0 := by simp at h1; omega
    subst this
    rw [l_impl_PutVar_6]
    have e : decide ((0 : Int) > 127) = false := by decide
    rw [e]
    simp only [cond_false]
    rw [if_pos ⟨by simp; omega, by simp [maxLen]; omega⟩]
    rfl
  | succ m ih =>
    intro n v l h0 h1 h2 hn hl
    obtain ⟨n, rfl⟩ : ∃ q, n = q + 1 := ⟨n - 1, by omega⟩
    rw [l_impl_PutVar_6, enc]
    by_cases h : v > 127
    · rw [decide_eq_true h, if_pos h]
      simp only [cond_true]
      have hp : (128 : Int) ^ (m + 1) = 128 ^ m * 128 := Int.pow_succ 128 m
      rw [low_byte h0 h2, if_pos ⟨by simp; omega, by simp [maxLen]; omega⟩, if_pos (by decide), shr7 h0 h2, ih n (v / 128) (l ++ [v % 128 + 128]) (by omega) (by rw [hp] at h1; omega) (by omega) (by omega) (by simp; omega)]
      simp
    · rw [decide_eq_false h, if_neg h]
      simp only [cond_false]
      rw [wrap_byte h0 (by omega), if_pos ⟨by simp; omega, by simp [maxLen]; omega⟩]
theorem in_eq (K : Nat) (n : Int) : m_impl_within K n 0 1000000000 = some (decide (0 ≤ n ∧ n ≤ 1000000000)) := by
  unfold m_impl_within
  by_cases h : n ≥ 0
  · rw [decide_eq_true h]
    simp only [cond_true, Option.some.injEq, decide_eq_decide]
    omega
  · rw [decide_eq_false h]
    simp only [cond_false, Option.some.injEq]
    exact (decide_eq_false (by omega)).symm
def putL1 (b : List Int) (n : Int) : List Int := if 0 ≤ n ∧ n ≤ 1000000000 then b ++ enc 5 n else b
theorem putVar_impl {K : Nat} (hK : 7 ≤ K) {b : List Int} (hl : b.length ≤ 140737488355000) (n : Int) : m_impl_PutVar K b n = some (putL1 b n) := by
  unfold m_impl_PutVar putL1
  rw [clone_ok K (by omega), in_eq]
  simp only [Option.bind_some]
  by_cases h : 0 ≤ n ∧ n ≤ 1000000000
  · rw [decide_eq_true h, if_pos h]
    obtain ⟨q, rfl⟩ : ∃ q, K = q + 1 := ⟨K - 1, by omega⟩
    have hp : (128 : Int) ^ 5 = 34359738368 := by decide
    exact putLoop_enc (q + 1) 5 q n b h.1 (by rw [hp]; omega) (by omega) (by omega) (by omega)
  · rw [decide_eq_false h, if_neg h]; rfl

def val : List Int → Int
  | [] => 0
  | x :: r => x % 128 + 128 * val r
theorem val_nonneg : ∀ l : List Int, 0 ≤ val l := by
  intro l
  induction l with
  | nil => exact Int.le_refl _
  | cons x r ih => unfold val; omega
theorem val_append (l : List Int) (x : Int) : val (l ++ [x]) = val l + 128 ^ l.length * (x % 128) := by
  induction l with
  | nil => simp [val]
  | cons y r ih =>
    simp only [List.cons_append, val, List.length_cons, ih, Int.pow_succ]
    rw [Int.mul_add]
    have : 128 * (128 ^ r.length * (x % 128)) = 128 ^ r.length * 128 * (x % 128) := by
      rw [← Int.mul_assoc, Int.mul_comm 128 (128 ^ r.length)]
    omega
theorem val_lt : ∀ l : List Int, val l < 128 ^ l.length := by
  intro l
  induction l with
  | nil => simp [val]
  | cons x r ih =>
    simp only [val, List.length_cons, Int.pow_succ]
    omega
/-- A number's bytes, the last of them not 0. -/
def canS : List Int → Prop
  | [] => False
  | [x] => 1 ≤ x ∧ x ≤ 127
  | x :: y :: r => (128 ≤ x ∧ x ≤ 255) ∧ canS (y :: r)
def can (l : List Int) : Prop := (∃ x, l = [x] ∧ 0 ≤ x ∧ x ≤ 127) ∨ canS l
theorem canS_pos : ∀ l : List Int, canS l → 1 ≤ val l := by
  intro l
  induction l with
  | nil => intro h; cases h
  | cons x r ih =>
    intro h
    cases r with
    | nil => simp only [canS] at h; simp only [val]; omega
    | cons y r => have := ih h.2; have h2 := h.1; unfold val; omega
theorem enc_canS : ∀ (f : Nat) (l : List Int), canS l → l.length ≤ f + 1 → enc f (val l) = l := by
  intro f
  induction f with
  | zero =>
    intro l h hl
    cases l with
    | nil => cases h
    | cons x r =>
      cases r with
      | nil =>
        simp only [canS] at h
        have e : val [x] = x := by simp only [val]; omega
        rw [e, enc]
      | cons y r => simp at hl
  | succ f ih =>
    intro l h hl
    cases l with
    | nil => cases h
    | cons x r =>
      cases r with
      | nil =>
        simp only [canS] at h
        have e : val [x] = x := by simp only [val]; omega
        rw [e, enc, if_neg (by omega)]
      | cons y r =>
        have hp := canS_pos _ h.2
        have h2 := h.1
        have e : val (x :: y :: r) = x % 128 + 128 * val (y :: r) := rfl
        rw [e, enc, if_pos (by omega)]
        rw [show (x % 128 + 128 * val (y :: r)) % 128 + 128 = x from by omega, show (x % 128 + 128 * val (y :: r)) / 128 = val (y :: r) from by omega, ih _ h.2 (by simp at hl ⊢; omega)]
theorem enc_can {l : List Int} (h : can l) (hl : l.length ≤ 6) : enc 5 (val l) = l := by
  rcases h with ⟨x, rfl, h0, h1⟩ | h
  · have e : val [x] = x := by simp only [val]; omega
    rw [e, enc, if_neg (by omega)]
  · exact enc_canS 5 l h hl
theorem canS_append : ∀ (l : List Int) (x : Int), (∀ y ∈ l, 128 ≤ y ∧ y ≤ 255) → 1 ≤ x → x ≤ 127 → canS (l ++ [x]) := by
  intro l
  induction l with
  | nil => intro x _ h0 h1; exact ⟨h0, h1⟩
  | cons y r ih =>
    intro x hy h0 h1
    have h2 := ih x (fun z hz => hy z (by simp [hz])) h0 h1
    cases r with
    | nil => exact ⟨hy y (by simp), h2⟩
    | cons z r => exact ⟨hy y (by simp), h2⟩
theorem and127 {b : Int} (h0 : 0 ≤ b) (h1 : b ≤ 255) : IntKind.i64.wrap (iAnd .u8 b 127) = b % 128 := by
  have key : ∀ n : Fin 256, IntKind.i64.wrap (iAnd .u8 (n.val : Int) 127) = (n.val : Int) % 128 := by decide +kernel
  have := key ⟨b.toNat, by omega⟩
  have e : ((b.toNat : Nat) : Int) = b := by omega
  simpa [e] using this
theorem join_val {v : Int} {pre : List Int} (hv : v = val pre) {k : Nat} (hk : pre.length = k) (h4 : k ≤ 4) (x : Int) : iOr .i64 v (iShl .i64 (x % 128) (7 * (k : Int))) = val (pre ++ [x]) := by
  subst hk
  obtain ⟨m, hm⟩ : ∃ m : Nat, x % 128 = m := ⟨(x % 128).toNat, by omega⟩
  obtain ⟨n, hn⟩ : ∃ n : Nat, val pre = n := ⟨(val pre).toNat, by have := val_nonneg pre; omega⟩
  have hlt := val_lt pre
  have e7 : (128 : Nat) ^ pre.length = 2 ^ (7 * pre.length) := by rw [Nat.pow_mul]
  have hb : 2 ^ (7 * pre.length) ≤ 268435456 := by
    have : 2 ^ (7 * pre.length) ≤ 2 ^ 28 := Nat.pow_le_pow_right (by decide) (by omega)
    simpa using this
  have hlt2 : n < 2 ^ (7 * pre.length) := by
    rw [← e7]
    have : ((n : Nat) : Int) < ((128 ^ pre.length : Nat) : Int) := by rw [← hn]; push_cast; exact hlt
    exact Int.ofNat_lt.1 this
  have hmm : m ≤ 127 := by omega
  have hprod : 2 ^ (7 * pre.length) * m ≤ 268435456 * 127 := Nat.mul_le_mul hb hmm
  have es : iShl .i64 (x % 128) (7 * (pre.length : Int)) = ((2 ^ (7 * pre.length) * m : Nat) : Int) := by
    unfold iShl
    have e1 : min (7 * (pre.length : Int)).toNat IntKind.i64.bits = 7 * pre.length := by
      have : (7 * (pre.length : Int)).toNat = 7 * pre.length := by omega
      rw [this]
      exact Nat.min_eq_left (by show 7 * pre.length ≤ 64; omega)
    rw [e1, hm]
    have e2 : ((m : Nat) : Int) * 2 ^ (7 * pre.length) = ((2 ^ (7 * pre.length) * m : Nat) : Int) := by push_cast; rw [Int.mul_comm]
    rw [e2, i64_id (by omega) (by omega)]
  rw [es, hv, hn, iOr_add (7 * pre.length) hlt2 (by omega), val_append, hn, hm]
  push_cast
  rw [show (128 : Int) ^ pre.length = 2 ^ (7 * pre.length) from by have := congrArg (fun q : Nat => (q : Int)) e7; push_cast at this; exact this]
theorem gt_byte {a : List Int} (h : ∀ x ∈ a, 0 ≤ x ∧ x ≤ 255) {i : Nat} (hi : i < a.length) : 0 ≤ gt a (i : Int) ∧ gt a (i : Int) ≤ 255 := h _ (gt_mem hi)
theorem take_next {a : List Int} {p k : Nat} (h : p + k < a.length) : (a.drop p).take (k + 1) = (a.drop p).take k ++ [gt a ((p + k : Nat) : Int)] := by
  rw [gt_nat h, List.take_succ_eq_append_getElem (by simp; omega)]
  simp
def readOk (a : List Int) (p : Nat) (r : Int × Int × Bool) : Prop :=
  r = (0, 0, false) ∨ ∃ l, can l ∧ l.length ≤ 5 ∧ p + l.length ≤ a.length ∧ (a.drop p).take l.length = l ∧ r = (val l, ((p + l.length : Nat) : Int), true) ∧ val l ≤ 1000000000
theorem getVar_loop (K : Nat) (a : List Int) (hb : ∀ x ∈ a, 0 ≤ x ∧ x ≤ 255) (ha : a.length ≤ 140737488355000) (p : Nat) (hp : p < a.length) : ∀ (n i : Nat) (v : Int), i ≤ 5 → 5 - i < n → p + i ≤ a.length → v = val ((a.drop p).take i) → (∀ x ∈ (a.drop p).take i, 128 ≤ x ∧ x ≤ 255) →
    ∃ r, l_spec_GetVar_3 K a (p : Int) n v (i : Int) = some r ∧ l_impl_GetVar_5 K a (p : Int) n v (i : Int) = some r ∧ readOk a p r := by
  intro n
  induction n with
  | zero => intro i v _ h; omega
  | succ n ih =>
    intro i v hi hn hpi hv hall
    rw [l_spec_GetVar_3, l_impl_GetVar_5]
    unfold j_spec_GetVar_10 j_impl_GetVar_10
    have e1 : iAdd .i64 (p : Int) (i : Int) = ((p + i : Nat) : Int) := by unfold iAdd; rw [i64_id (by omega) (by omega)]; omega
    have e2 : iSub .i64 (a.length : Int) (i : Int) = (a.length : Int) - i := by unfold iSub; rw [i64_id (by omega) (by omega)]
    have e3 : iSub .i64 (a.length : Int) (p : Int) = (a.length : Int) - p := by unfold iSub; rw [i64_id (by omega) (by omega)]
    have e4 : iMul .i64 7 (i : Int) = 7 * i := by unfold iMul; rw [i64_id (by omega) (by omega)]
    have e5 : IntKind.u64.wrap (7 * (i : Int)) = 7 * i := by rw [IntKind.wrap_u64]; omega
    have e6 : iAdd .i64 (i : Int) 1 = ((i + 1 : Nat) : Int) := iAdd1 (by omega)
    have e7 : iAdd .i64 ((p + i : Nat) : Int) 1 = ((p + (i + 1) : Nat) : Int) := by unfold iAdd; rw [i64_id (by omega) (by omega)]; omega
    rw [e1, e2, e3, e4, e5, e6, e7]
    have d1 : decide ((p : Int) < 0) = false := by simp
    rw [d1]
    simp only [cond_false]
    have hlen : ((a.drop p).take i).length = i := by simp; omega
    rcases Nat.lt_or_ge i 5 with h5 | h5
    · have d2 : decide ((i : Int) < 5) = true := by simp; omega
      rw [d2]
      simp only [cond_true]
      rcases Nat.lt_or_ge (p + i) a.length with hl | hl
      · have d3 : decide ((p : Int) ≥ (a.length : Int) - i) = false := by simp; omega
        have d4 : decide ((i : Int) < iMin 5 ((a.length : Int) - p)) = true := by unfold iMin; split <;> simp <;> omega
        rw [d3, d4]
        simp only [cond_true, cond_false]
        obtain ⟨g0, g1⟩ := gt_byte hb hl
        have ht := take_next hl
        rw [if_pos ⟨by omega, by omega⟩, if_pos (by omega), if_pos ⟨by omega, by omega⟩, if_pos (by omega)]
        generalize hx : gt a ((p + i : Nat) : Int) = b at g0 g1 ht
        rw [i64_id (by omega) (by omega), and127 g0 g1, iAnd127 g0 (by omega), join_val hv hlen (by omega) b, ← ht]
        by_cases c1 : b < 128
        · rw [decide_eq_true c1]
          simp only [cond_true]
          have hlen1 : ((a.drop p).take (i + 1)).length = i + 1 := by simp; omega
          have good : (i = 0 ∨ b ≠ 0) → val ((a.drop p).take (i + 1)) ≤ 1000000000 → readOk a p (val ((a.drop p).take (i + 1)), ((p + (i + 1) : Nat) : Int), true) := by
            intro h0 hle
            refine .inr ⟨(a.drop p).take (i + 1), ?_, by omega, by omega, by rw [hlen1], by rw [hlen1], hle⟩
            rw [ht]
            rcases h0 with h0 | h0
            · subst h0; exact .inl ⟨b, by simp, g0, by omega⟩
            · exact .inr (canS_append _ b hall (by omega) (by omega))
          by_cases c2 : (i : Int) > 0
          · rw [decide_eq_true c2]
            by_cases c3 : b = 0
            · rw [c3]; exact ⟨_, rfl, rfl, .inl rfl⟩
            · rw [beq_f c3]
              by_cases c4 : val ((a.drop p).take (i + 1)) > 1000000000
              · rw [decide_eq_true c4]; exact ⟨_, rfl, rfl, .inl rfl⟩
              · rw [decide_eq_false c4]; exact ⟨_, rfl, rfl, good (.inr c3) (by omega)⟩
          · rw [decide_eq_false c2]
            by_cases c4 : val ((a.drop p).take (i + 1)) > 1000000000
            · rw [decide_eq_true c4]
              cases b == 0 <;> exact ⟨_, rfl, rfl, .inl rfl⟩
            · rw [decide_eq_false c4]
              cases b == 0 <;> exact ⟨_, rfl, rfl, good (.inl (by omega)) (by omega)⟩
        · rw [decide_eq_false c1]
          simp only [cond_false]
          refine ih (i + 1) _ (by omega) (by omega) (by omega) rfl ?_
          rw [ht]
          intro x hx2
          rcases List.mem_append.1 hx2 with h | h
          · exact hall x h
          · simp only [List.mem_singleton] at h; subst h; exact ⟨by omega, g1⟩
      · have d3 : decide ((p : Int) ≥ (a.length : Int) - i) = true := by simp; omega
        have d4 : decide ((i : Int) < iMin 5 ((a.length : Int) - p)) = false := by unfold iMin; split <;> simp <;> omega
        rw [d3, d4]
        exact ⟨_, rfl, rfl, .inl rfl⟩
    · have d2 : decide ((i : Int) < 5) = false := by simp; omega
      have d4 : decide ((i : Int) < iMin 5 ((a.length : Int) - p)) = false := by unfold iMin; split <;> simp <;> omega
      rw [d2, d4]
      exact ⟨_, rfl, rfl, .inl rfl⟩
theorem getVar_same {K : Nat} (hK : 6 ≤ K) (a : List Int) (hb : ∀ x ∈ a, 0 ≤ x ∧ x ≤ 255) (ha : a.length ≤ 140737488355000) (p : Int) : ∃ r, m_spec_GetVar K a p = some r ∧ m_impl_GetVar K a p = some r ∧ (r = (0, 0, false) ∨ (0 ≤ p ∧ readOk a p.toNat r)) := by
  unfold m_spec_GetVar m_impl_GetVar m_impl_within
  have e3 : iSub .i64 (a.length : Int) 1 = (a.length : Int) - 1 := by unfold iSub; rw [i64_id (by omega) (by omega)]
  have e2 : iSub .i64 (a.length : Int) 0 = (a.length : Int) := by unfold iSub; rw [i64_id (by omega) (by omega)]; omega
  rw [e3]
  by_cases h : 0 ≤ p ∧ p < a.length
  · obtain ⟨q, rfl⟩ : ∃ q : Nat, p = q := ⟨p.toNat, by omega⟩
    have d1 : decide ((q : Int) ≥ 0) = true := by simp
    have d2 : decide ((q : Int) ≤ (a.length : Int) - 1) = true := by simp; omega
    rw [d1, d2]
    simp only [cond_true, Option.bind_some]
    obtain ⟨r, h1, h2, h3⟩ := getVar_loop K a hb ha q (by omega) K 0 0 (by omega) (by omega) (by omega) (by simp [val]) (by simp)
    exact ⟨r, h1, h2, .inr ⟨by omega, by simpa using h3⟩⟩
  · obtain ⟨n, rfl⟩ : ∃ n, K = n + 1 := ⟨K - 1, by omega⟩
    refine ⟨(0, 0, false), ?_, ?_, .inl rfl⟩
    · rw [l_spec_GetVar_3, e2]
      have d2 : decide ((0 : Int) < 5) = true := by decide
      rw [d2]
      simp only [cond_true]
      by_cases c : p < 0
      · rw [decide_eq_true c]; rfl
      · rw [decide_eq_false c, decide_eq_true (show p ≥ (a.length : Int) by omega)]; rfl
    · by_cases c : p ≥ 0
      · rw [decide_eq_true c]
        simp only [cond_true]
        rw [decide_eq_false (show ¬ p ≤ (a.length : Int) - 1 by omega)]; rfl
      · rw [decide_eq_false c]; rfl

/-! ### A call's bytes -/
def numsOf (a0 : T_impl_Op) : List Int := [a0.fKind, a0.fH.fSlot, a0.fH.fGen, a0.fR.fH.fSlot, a0.fR.fH.fGen, a0.fR.fEp, a0.fR.fNo, a0.fN, a0.fM, (a0.fB.length : Int)]
theorem putOp_loop {K : Nat} (hK : 7 ≤ K) (a : T_impl_Op) (ha : a.fB.length ≤ 140737488351232) : ∀ (n i : Nat) (v : List Int), i ≤ 10 → 10 - i < n → v.length ≤ 6 * i →
    ∃ r, l_spec_PutOp_5 K a n v (i : Int) = some r ∧ l_impl_PutOp_5 K a n v (i : Int) = some r ∧ r.length ≤ a.fB.length + 60 := by
  intro n
  induction n with
  | zero => intro i v _ h; omega
  | succ n ih =>
    intro i v hi hn hv
    rw [l_spec_PutOp_5, l_impl_PutOp_5]
    show ∃ r, (bif decide ((i : Int) < ((numsOf a).length : Int)) then (if (0 : Int) ≤ (i : Int) ∧ (i : Int) < ((numsOf a).length : Int) then ((m_spec_PutVar K v (gt (numsOf a) (i : Int))).bind fun r8 => (l_spec_PutOp_5 K a n r8 (iAdd .i64 (i : Int) 1))) else none) else (if (v ++ a.fB).length * 1 ≤ 140737488355328 ∧ (v ++ a.fB).length ≤ maxLen then some (v ++ a.fB) else none)) = some r ∧
      (bif decide ((i : Int) < ((numsOf a).length : Int)) then (if (0 : Int) ≤ (i : Int) ∧ (i : Int) < ((numsOf a).length : Int) then ((m_impl_PutVar K v (gt (numsOf a) (i : Int))).bind fun r8 => (l_impl_PutOp_5 K a n r8 (iAdd .i64 (i : Int) 1))) else none) else (if (v ++ a.fB).length * 1 ≤ 140737488355328 ∧ (v ++ a.fB).length ≤ maxLen then some (v ++ a.fB) else none)) = some r ∧ _
    have hlen : (numsOf a).length = 10 := rfl
    rw [hlen]
    rcases Nat.lt_or_ge i 10 with h | h
    · rw [dlt_t h]
      simp only [cond_true]
      obtain ⟨q, h1, h2, h3⟩ := putVar_same hK (b := v) (by omega) (gt (numsOf a) (i : Int))
      rw [if_pos ⟨by omega, by omega⟩, if_pos ⟨by omega, by omega⟩, h1, h2, iAdd1 (i := i) (by omega)]
      exact ih (i + 1) q h (by omega) (by omega)
    · rw [dlt_f h]
      simp only [cond_false]
      rw [if_pos ⟨by simp; omega, by simp [maxLen]; omega⟩]
      exact ⟨_, rfl, rfl, by simp; omega⟩
theorem putOp_same {K : Nat} (hK : 20 ≤ K) (a : T_impl_Op) (ha : a.fB.length ≤ 140737488351232) : ∃ r, m_spec_PutOp K a = some r ∧ m_impl_PutOp K a = some r ∧ r.length ≤ a.fB.length + 60 := by
  unfold m_spec_PutOp m_impl_PutOp
  obtain ⟨t, h1, h2⟩ := opOk_same K (by omega) a
  rw [h1, h2]
  simp only [Option.bind_some]
  cases t with
  | true => exact putOp_loop (by omega) a ha K 0 [] (by omega) (by omega) (by simp)
  | false => exact ⟨[], rfl, rfl, by simp⟩

/-! ### A call is read from its bytes -/
def e1 (n : Int) : List Int := if 0 ≤ n ∧ n ≤ 1000000000 then enc 5 n else []
def encs : List Int → List Int
  | [] => []
  | n :: r => e1 n ++ encs r
theorem encs_append : ∀ l m : List Int, encs (l ++ m) = encs l ++ encs m := by
  intro l m
  induction l with
  | nil => rfl
  | cons x r ih => simp [encs, ih]
theorem e1_len (n : Int) : (e1 n).length ≤ 6 := by
  unfold e1
  split
  · exact enc_len 5 n
  · exact Nat.zero_le _
theorem putL1_e1 (b : List Int) (n : Int) : putL1 b n = b ++ e1 n := by
  unfold putL1 e1
  split <;> simp
theorem putOp_iloop {K : Nat} (hK : 7 ≤ K) (a : T_impl_Op) (ha : a.fB.length ≤ 140737488351232) : ∀ (n i : Nat) (v : List Int), i ≤ 10 → 10 - i < n → v.length ≤ 6 * i →
    l_impl_PutOp_5 K a n v (i : Int) = some (v ++ encs ((numsOf a).drop i) ++ a.fB) := by
  intro n
  induction n with
  | zero => intro i v _ h; omega
  | succ n ih =>
    intro i v hi hn hv
    rw [l_impl_PutOp_5]
    show (bif decide ((i : Int) < ((numsOf a).length : Int)) then (if (0 : Int) ≤ (i : Int) ∧ (i : Int) < ((numsOf a).length : Int) then ((m_impl_PutVar K v (gt (numsOf a) (i : Int))).bind fun r8 => (l_impl_PutOp_5 K a n r8 (iAdd .i64 (i : Int) 1))) else none) else (if (v ++ a.fB).length * 1 ≤ 140737488355328 ∧ (v ++ a.fB).length ≤ maxLen then some (v ++ a.fB) else none)) = _
    have hlen : (numsOf a).length = 10 := rfl
    rcases Nat.lt_or_ge i 10 with h | h
    · have hi2 : i < (numsOf a).length := by rw [hlen]; exact h
      have hd : (numsOf a).drop i = gt (numsOf a) (i : Int) :: (numsOf a).drop (i + 1) := by rw [List.drop_eq_getElem_cons hi2, gt_nat hi2]
      rw [dlt_t hi2]
      simp only [cond_true]
      have hel := e1_len (gt (numsOf a) (i : Int))
      rw [if_pos ⟨by omega, by omega⟩, putVar_impl hK (by omega), iAdd1 (i := i) (by omega), putL1_e1]
      simp only [Option.bind_some]
      rw [ih (i + 1) _ h (by omega) (by simp; omega), hd]
      simp [encs]
    · have hd : (numsOf a).drop i = [] := List.drop_eq_nil_of_le (by rw [hlen]; exact h)
      rw [dlt_f (show (numsOf a).length ≤ i by rw [hlen]; exact h), hd]
      simp only [cond_false]
      rw [if_pos ⟨by simp; omega, by simp [maxLen]; omega⟩]
      simp [encs]
theorem val_enc : ∀ (f : Nat) (v : Int), 0 ≤ v → v < 128 ^ (f + 1) → val (enc f v) = v := by
  intro f
  induction f with
  | zero => intro v h0 h1; simp at h1; simp only [enc, val]; omega
  | succ f ih =>
    intro v h0 h1
    have hp : (128 : Int) ^ (f + 1 + 1) = 128 ^ (f + 1) * 128 := Int.pow_succ 128 (f + 1)
    rw [hp] at h1
    unfold enc
    split
    · have := ih (v / 128) (by omega) (by omega)
      simp only [val, this]; omega
    · simp only [val]; omega
theorem enc_byte : ∀ (f : Nat) (v : Int), 0 ≤ v → v < 128 ^ (f + 1) → ∀ x ∈ enc f v, 0 ≤ x ∧ x ≤ 255 := by
  intro f
  induction f with
  | zero => intro v h0 h1 x hx; simp at h1; simp only [enc, List.mem_singleton] at hx; omega
  | succ f ih =>
    intro v h0 h1 x hx
    have hp : (128 : Int) ^ (f + 1 + 1) = 128 ^ (f + 1) * 128 := Int.pow_succ 128 (f + 1)
    rw [hp] at h1
    unfold enc at hx
    split at hx
    · rcases List.mem_cons.1 hx with rfl | hx
      · omega
      · exact ih (v / 128) (by omega) (by omega) x hx
    · simp only [List.mem_singleton] at hx; omega
theorem e1_byte (n : Int) : ∀ x ∈ e1 n, 0 ≤ x ∧ x ≤ 255 := by
  unfold e1
  split
  · exact enc_byte 5 n (by omega) (by have : (128 : Int) ^ (5 + 1) = 4398046511104 := by decide
                                      omega)
  · intro x hx; cases hx
theorem encs_byte : ∀ l : List Int, ∀ x ∈ encs l, 0 ≤ x ∧ x ≤ 255 := by
  intro l
  induction l with
  | nil => intro x hx; cases hx
  | cons n r ih =>
    intro x hx
    rcases List.mem_append.1 hx with h | h
    · exact e1_byte n x h
    · exact ih x h
theorem e1_inj {n m : Int} (hn : 0 ≤ n ∧ n ≤ 1000000000) (hm : 0 ≤ m ∧ m ≤ 1000000000) (h : e1 n = e1 m) : n = m := by
  unfold e1 at h
  rw [if_pos hn, if_pos hm] at h
  have hp : (128 : Int) ^ (5 + 1) = 4398046511104 := by decide
  have h1 := val_enc 5 n hn.1 (by rw [hp]; omega)
  have h2 := val_enc 5 m hm.1 (by rw [hp]; omega)
  rw [← h1, ← h2, h]
theorem str_eq {x y : List Int} (hx : ∀ a ∈ x, 0 ≤ a ∧ a ≤ 255) (hy : ∀ a ∈ y, 0 ≤ a ∧ a ≤ 255) : ((strOfNums x).toList == (strOfNums y).toList) = decide (x = y) := by
  rw [ByteArray.toList_eq, ByteArray.toList_eq, strOfNums_data, strOfNums_data]
  by_cases h : x = y
  · subst h; simp
  · rw [decide_eq_false h]
    have : ¬ (x.map fun n => UInt8.ofNat n.toNat) = (y.map fun n => UInt8.ofNat n.toNat) := by
      intro he
      apply h
      refine List.ext_getElem? fun i => ?_
      have hi := congrArg (fun l => l[i]?) he
      simp only [List.getElem?_map] at hi
      cases e1 : x[i]? with
      | none => rw [e1] at hi; cases e2 : y[i]? with
        | none => rfl
        | some b => rw [e2] at hi; simp at hi
      | some a =>
        rw [e1] at hi
        cases e2 : y[i]? with
        | none => rw [e2] at hi; simp at hi
        | some b =>
          rw [e2] at hi
          simp only [Option.map_some, Option.some.injEq] at hi
          have ha := hx a (List.mem_of_getElem? e1)
          have hb := hy b (List.mem_of_getElem? e2)
          have h3 := congrArg UInt8.toNat hi
          simp only [UInt8.toNat_ofNat'] at h3
          rw [Nat.mod_eq_of_lt (by omega), Nat.mod_eq_of_lt (by omega)] at h3
          have : a = b := by omega
          rw [this]
    simpa using this
def op0 : T_impl_Op := T_impl_Op.mk 0 (T_impl_Handle.mk 0 0) (T_impl_Ref.mk (T_impl_Handle.mk 0 0) 0 0) 0 0 []
theorem set_next {v : List Int} {i : Nat} (hv : v.length = i) (h : i < 10) (x : Int) : (v ++ List.replicate (10 - i) 0).set i x = (v ++ [x]) ++ List.replicate (10 - (i + 1)) 0 := by
  subst hv
  obtain ⟨m, hm⟩ : ∃ m, 10 - v.length = m + 1 := ⟨10 - v.length - 1, by omega⟩
  rw [hm, show 10 - (v.length + 1) = m from by omega, List.set_append_right _ _ (Nat.le_refl _), Nat.sub_self, List.replicate_succ, List.set_cons_zero]
  simp
theorem getOp_fin {K : Nat} {a : List Int} (ha : a.length ≤ 1048576) {p : Nat} (hp : p ≤ a.length) (n : Nat) (n0 n1 n2 n3 n4 n5 n6 n7 n8 n9 : Int) :
    l_spec_GetOp_4 K a (n + 1) [n0, n1, n2, n3, n4, n5, n6, n7, n8, n9] (p : Int) ((10 : Nat) : Int) = (bif (((a.drop p).length : Int) != n9) then some (op0, false) else ((m_spec_OpOk K (T_impl_Op.mk n0 (T_impl_Handle.mk n1 n2) (T_impl_Ref.mk (T_impl_Handle.mk n3 n4) n5 n6) n7 n8 (a.drop p))).bind fun r22 => (bif r22 then some (T_impl_Op.mk n0 (T_impl_Handle.mk n1 n2) (T_impl_Ref.mk (T_impl_Handle.mk n3 n4) n5 n6) n7 n8 (a.drop p), true) else some (op0, false)))) := by
  have hB : (a.drop p).take ((a.length : Int) - (p : Int)).toNat = a.drop p := List.take_of_length_le (by rw [List.length_drop]; omega)
  have hBl : (a.drop p).length ≤ a.length := by simp
  rw [l_spec_GetOp_4]
  rw [show decide ((((10 : Nat) : Int)) < 10) = false from by decide]
  simp only [cond_false]
  rw [if_pos (by simp), if_pos (by simp), if_pos (by simp), if_pos (by simp), if_pos (by simp), if_pos (by simp), if_pos (by simp), if_pos (by simp), if_pos (by simp), if_pos ⟨by omega, by omega, by omega⟩, Int.toNat_natCast, hB, List.nil_append, if_pos ⟨by omega, by unfold maxLen; omega⟩, if_pos (by simp)]
  rfl
theorem getOp_loop {K : Nat} (hK : 20 ≤ K) {a : List Int} (hb : ∀ x ∈ a, 0 ≤ x ∧ x ≤ 255) (ha : a.length ≤ 1048576) : ∀ (n i p : Nat) (v : List Int), i ≤ 10 → 10 - i < n → v.length = i → (∀ x ∈ v, 0 ≤ x ∧ x ≤ 1000000000) → p ≤ a.length → a.take p = encs v →
    ∃ r, l_spec_GetOp_4 K a n v (p : Int) (i : Int) = some r ∧ l_impl_GetOp_4 K a n (p : Int) (i : Int) (v ++ List.replicate (10 - i) 0) = some r ∧ r.1.fB.length ≤ a.length ∧ (r.2 = true → m_impl_OpOk K r.1 = some true ∧ m_impl_PutOp K r.1 = some a) := by
  intro n
  induction n with
  | zero => intro i p v _ h; omega
  | succ n ih =>
    intro i p v hi hn hv hval hp htake
    rcases Nat.lt_or_ge i 10 with h | h
    · rw [l_spec_GetOp_4, l_impl_GetOp_4]
      obtain ⟨r, h1, h2, h3⟩ := getVar_same (K := K) (by omega) a hb (by omega) (p : Int)
      have d : decide ((i : Int) < 10) = true := decide_eq_true (by omega)
      rw [d, h1, h2]
      simp only [cond_true, Option.bind_some]
      have bad : r = (0, 0, false) → r.2.2 = false := by rintro rfl; rfl
      rcases h3 with h3 | ⟨_, h3⟩
      · rw [bad h3]; exact ⟨(op0, false), rfl, rfl, Nat.zero_le _, fun h => by cases h⟩
      · rw [Int.toNat_natCast] at h3
        rcases h3 with h3 | ⟨l, hc, hl5, hpl, htk, rfl, hle⟩
        · rw [bad h3]; exact ⟨(op0, false), rfl, rfl, Nat.zero_le _, fun h => by cases h⟩
        · simp only [cond_true]
          have hvl := val_nonneg l
          rw [if_pos ⟨by simp; omega, by simp [maxLen]; omega⟩, if_pos ⟨by omega, by omega⟩, if_pos ⟨by omega, by simp only [List.length_append, List.length_replicate]; omega⟩, Int.toNat_natCast, set_next hv h, iAdd1 (i := i) (by omega)]
          refine ih (i + 1) (p + l.length) (v ++ [val l]) h (by omega) (by simp [hv]) ?_ hpl ?_
          · intro x hx
            rcases List.mem_append.1 hx with hx | hx
            · exact hval x hx
            · simp only [List.mem_singleton] at hx; subst hx; exact ⟨hvl, hle⟩
          · rw [encs_append, ← htake, List.take_add, htk]
            simp only [encs, List.append_nil]
            unfold e1
            rw [if_pos ⟨hvl, hle⟩, enc_can hc (by omega)]
    · have hi10 : i = 10 := by omega
      subst hi10
      match v, hv, hval, htake with
      | [n0, n1, n2, n3, n4, n5, n6, n7, n8, n9], _, hval, htake =>
        have hB : (a.drop p).take ((a.length : Int) - (p : Int)).toNat = a.drop p := List.take_of_length_le (by rw [List.length_drop]; omega)
        have hBl : (a.drop p).length ≤ a.length := by simp
        have he : a = encs [n0, n1, n2, n3, n4, n5, n6, n7, n8, n9] ++ a.drop p := by rw [← htake]; exact (List.take_append_drop p a).symm
        let o : T_impl_Op := T_impl_Op.mk n0 (T_impl_Handle.mk n1 n2) (T_impl_Ref.mk (T_impl_Handle.mk n3 n4) n5 n6) n7 n8 (a.drop p)
        obtain ⟨t, q1, q2⟩ := opOk_same K (by omega) o
        have q3 : m_impl_PutOp K o = some (bif t then encs (numsOf o) ++ a.drop p else []) := by
          unfold m_impl_PutOp
          rw [q2]
          cases t with
          | false => rfl
          | true =>
            have := putOp_iloop (K := K) (by omega) o (by show (a.drop p).length ≤ _; omega) K 0 [] (by omega) (by omega) (by simp)
            simpa using this
        have hs : l_spec_GetOp_4 K a (n + 1) [n0, n1, n2, n3, n4, n5, n6, n7, n8, n9] (p : Int) ((10 : Nat) : Int) = (bif (((a.drop p).length : Int) != n9) then some (op0, false) else ((m_spec_OpOk K o).bind fun r22 => (bif r22 then some (o, true) else some (op0, false)))) := by
          rw [l_spec_GetOp_4]
          rw [show decide ((((10 : Nat) : Int)) < 10) = false from by decide]
          simp only [cond_false]
          rw [if_pos (by simp), if_pos (by simp), if_pos (by simp), if_pos (by simp), if_pos (by simp), if_pos (by simp), if_pos (by simp), if_pos (by simp), if_pos (by simp), if_pos ⟨by omega, by omega, by omega⟩, Int.toNat_natCast, hB, List.nil_append, if_pos ⟨by omega, by unfold maxLen; omega⟩, if_pos (by simp)]
          rfl
        have hi : l_impl_GetOp_4 K a (n + 1) (p : Int) ((10 : Nat) : Int) [n0, n1, n2, n3, n4, n5, n6, n7, n8, n9] = ((m_impl_OpOk K o).bind fun r30 => (bif r30 then ((m_impl_PutOp K o).bind fun r32 => ((m_bytes_Equal K r32 a).bind fun r33 => (bif r33 then some (o, true) else some (op0, false)))) else some (op0, false))) := by
          rw [l_impl_GetOp_4]
          rw [show decide ((((10 : Nat) : Int)) < 10) = false from by decide]
          simp only [cond_false]
          rw [if_pos (by decide), if_pos (by simp), if_pos (by decide), if_pos (by simp), if_pos (by decide), if_pos (by simp), if_pos (by decide), if_pos (by simp), if_pos (by decide), if_pos (by simp), if_pos (by decide), if_pos (by simp), if_pos (by decide), if_pos (by simp), if_pos (by decide), if_pos (by simp), if_pos (by decide), if_pos (by simp), if_pos ⟨by omega, by omega, by omega⟩, Int.toNat_natCast, hB, clone_ok K (by omega)]
          rfl
        show ∃ r, l_spec_GetOp_4 K a (n + 1) [n0, n1, n2, n3, n4, n5, n6, n7, n8, n9] (p : Int) ((10 : Nat) : Int) = some r ∧ l_impl_GetOp_4 K a (n + 1) (p : Int) ((10 : Nat) : Int) [n0, n1, n2, n3, n4, n5, n6, n7, n8, n9] = some r ∧ _
        rw [hs, hi, q1, q2, q3]
        simp only [Option.bind_some]
        cases t with
        | false =>
          refine ⟨(op0, false), ?_, rfl, Nat.zero_le _, fun h => by cases h⟩
          cases (((a.drop p).length : Int) != n9) <;> rfl
        | true =>
          simp only [cond_true]
          have hnums : numsOf o = [n0, n1, n2, n3, n4, n5, n6, n7, n8] ++ [((a.drop p).length : Int)] := rfl
          have hvals : ([n0, n1, n2, n3, n4, n5, n6, n7, n8, n9] : List Int) = [n0, n1, n2, n3, n4, n5, n6, n7, n8] ++ [n9] := rfl
          have hby : ∀ x ∈ encs (numsOf o) ++ a.drop p, 0 ≤ x ∧ x ≤ 255 := by
            intro x hx
            rcases List.mem_append.1 hx with hx | hx
            · exact encs_byte _ x hx
            · exact hb x (List.mem_of_mem_drop hx)
          unfold m_bytes_Equal
          rw [str_eq hby hb]
          simp only [Option.bind_some]
          by_cases hl : ((a.drop p).length : Int) = n9
          · have e : encs (numsOf o) ++ a.drop p = a := by rw [hnums, hl, ← hvals]; exact he.symm
            rw [decide_eq_true e, show ((((a.drop p).length : Int)) != n9) = false from by rw [hl]; exact bne_self_eq_false n9]
            exact ⟨(o, true), rfl, rfl, hBl, fun _ => ⟨q2, by rw [q3]; exact congrArg some e⟩⟩
          · have e : ¬ encs (numsOf o) ++ a.drop p = a := by
              intro h2
              have h3 := List.append_cancel_right (h2.trans he)
              rw [hnums, hvals, encs_append, encs_append] at h3
              have h4 := List.append_cancel_left h3
              simp only [encs, List.append_nil] at h4
              exact hl (e1_inj ⟨by omega, by omega⟩ (hval n9 (by simp)) h4)
            rw [decide_eq_false e, bne_t hl]
            exact ⟨(op0, false), rfl, rfl, Nat.zero_le _, fun h => by cases h⟩
theorem getOp_same {K : Nat} (hK : 20 ≤ K) {a : List Int} (hb : ∀ x ∈ a, 0 ≤ x ∧ x ≤ 255) (ha : a.length ≤ 1048576) : ∃ r, m_spec_GetOp K a = some r ∧ m_impl_GetOp K a = some r ∧ r.1.fB.length ≤ a.length ∧ (r.2 = true → m_impl_OpOk K r.1 = some true ∧ m_impl_PutOp K r.1 = some a) := by
  unfold m_spec_GetOp m_impl_GetOp
  exact getOp_loop hK hb ha K 0 0 [] (by omega) (by omega) rfl (by simp) (Nat.zero_le _) rfl

/-! ### Draws -/
def bytesP (a : List Int) : Prop := ∀ x ∈ a, 0 ≤ x ∧ x ≤ 255
theorem bytesP_app {a b : List Int} (h : bytesP a) (g : bytesP b) : bytesP (a ++ b) := by
  intro x hx
  rcases List.mem_append.1 hx with h1 | h1
  · exact h x h1
  · exact g x h1
def curOk (c : T_spec_l1Cur) : Prop := bytesP c.fb ∧ c.fb.length ≤ 1048576 ∧ 0 ≤ c.fi ∧ c.fi ≤ (c.fb.length : Int)
theorem iAnd255 (x : Int) : 0 ≤ iAnd .i64 x 255 ∧ iAnd .i64 x 255 ≤ 255 := by
  unfold iAnd
  have e : (BitVec.ofInt IntKind.i64.bits x &&& BitVec.ofInt IntKind.i64.bits 255).toNat ≤ 255 := by
    rw [BitVec.toNat_and]
    exact Nat.le_trans Nat.and_le_right (by decide)
  rw [i64_id (by omega) (by omega)]
  omega
theorem l1New_loop (K : Nat) {a : List Int} (hb : bytesP a) (ha : a.length ≤ 1048576) : ∀ (n i : Nat) (v : Int), i ≤ a.length → a.length - i < n → ∃ c, l_spec_l1New_3 K a n v (i : Int) = some c ∧ curOk c := by
  intro n
  induction n with
  | zero => intro i _ _ h; omega
  | succ n ih =>
    intro i v hi hn
    rw [l_spec_l1New_3]
    have done : ∀ v, curOk (T_spec_l1Cur.mk a 0 v) := fun v => ⟨hb, ha, by show (0 : Int) ≤ 0; omega, by show (0 : Int) ≤ _; omega⟩
    rcases Nat.lt_or_ge i a.length with h | h
    · rw [dlt_t h]
      simp only [cond_true]
      cases decide ((i : Int) < 4000) with
      | false => exact ⟨_, rfl, done _⟩
      | true =>
        simp only [cond_true]
        rw [if_pos ⟨by omega, by omega⟩, iAdd1 (i := i) (by omega)]
        exact ih (i + 1) _ h (by omega)
    · rw [dlt_f h]; exact ⟨_, rfl, done _⟩
theorem l1New_ok {K : Nat} (hK : 281474976710656 ≤ K) {a : List Int} (hb : bytesP a) (ha : a.length ≤ 1048576) : ∃ c, m_spec_l1New K a = some c ∧ curOk c := by
  unfold m_spec_l1New
  exact l1New_loop K hb ha K 0 _ (Nat.zero_le _) (by omega)
theorem l1Byte_ok (K : Nat) {c : T_spec_l1Cur} (hc : curOk c) : ∃ r, m_spec_l1ByteW K c = some r ∧ (0 ≤ r.1 ∧ r.1 ≤ 255) ∧ curOk r.2 := by
  obtain ⟨h1, h2, h3, h4⟩ := hc
  unfold m_spec_l1ByteW j_spec_l1ByteW_3
  rw [if_pos (by decide), if_pos (by decide)]
  by_cases h : c.fi < (c.fb.length : Int)
  · rw [decide_eq_true h]
    simp only [cond_true]
    rw [if_pos ⟨h3, h⟩]
    have e : iAdd .i64 c.fi 1 = c.fi + 1 := by unfold iAdd; rw [i64_id (by omega) (by omega)]
    exact ⟨_, rfl, iAnd255 _, h1, h2, by show (0 : Int) ≤ iAdd .i64 c.fi 1; omega, by show iAdd .i64 c.fi 1 ≤ (c.fb.length : Int); omega⟩
  · rw [decide_eq_false h]
    exact ⟨_, rfl, iAnd255 _, h1, h2, h3, h4⟩
theorem l1Below_ok (K : Nat) {c : T_spec_l1Cur} (hc : curOk c) {n : Int} (hn : 0 < n) : ∃ r, m_spec_l1BelowW K c n = some r ∧ (0 ≤ r.1 ∧ r.1 < n) ∧ curOk r.2 := by
  unfold m_spec_l1BelowW
  rw [decide_eq_false (show ¬ n ≤ 0 by omega)]
  simp only [cond_false]
  obtain ⟨r1, e1, b1, w1⟩ := l1Byte_ok K hc
  by_cases h : n ≤ 256
  · rw [decide_eq_true h, e1]
    simp only [cond_true, Option.bind_some]
    rw [if_pos (by omega)]
    exact ⟨_, rfl, ⟨Int.tmod_nonneg _ b1.1, Int.tmod_lt_of_pos _ hn⟩, w1⟩
  · rw [decide_eq_false h, e1]
    simp only [cond_false, Option.bind_some]
    obtain ⟨r2, e2, b2, w2⟩ := l1Byte_ok K w1
    rw [e2]
    simp only [Option.bind_some]
    obtain ⟨r3, e3, b3, w3⟩ := l1Byte_ok K w2
    rw [e3]
    simp only [Option.bind_some]
    rw [if_pos (by omega)]
    refine ⟨_, rfl, ⟨Int.tmod_nonneg _ ?_, Int.tmod_lt_of_pos _ hn⟩, w3⟩
    unfold iAdd iMul
    rw [i64_id (n := r1.1 * 65536) (by omega) (by omega), i64_id (n := r2.1 * 256) (by omega) (by omega), i64_id (n := r1.1 * 65536 + r2.1 * 256) (by omega) (by omega), i64_id (by omega) (by omega)]
    omega
theorem l1Once_ok (K : Nat) {c : T_spec_l1Cur} (hc : curOk c) {n : Int} (hn : 0 < n) : ∃ r, m_spec_l1OnceW K c n = some r ∧ curOk r.2 := by
  obtain ⟨r, e, _, w⟩ := l1Below_ok K hc hn
  unfold m_spec_l1OnceW
  rw [e]
  exact ⟨_, rfl, w⟩
theorem l1Int_ok (K : Nat) {c : T_spec_l1Cur} (hc : curOk c) {l : List Int} (hl : 0 < l.length) : ∃ r, m_spec_l1IntW K c l = some r ∧ r.1 ∈ l ∧ curOk r.2 := by
  obtain ⟨r, e, b, w⟩ := l1Below_ok K hc (n := (l.length : Int)) (by omega)
  unfold m_spec_l1IntW
  rw [e]
  simp only [Option.bind_some]
  rw [if_pos b]
  exact ⟨_, rfl, gt_memI b.1 b.2, w⟩
theorem l1Odd_ok (K : Nat) {c : T_spec_l1Cur} (hc : curOk c) : ∃ r, m_spec_l1OddW K c = some r ∧ curOk r.2 := by
  unfold m_spec_l1OddW
  obtain ⟨r, e, _, w⟩ := l1Int_ok K hc (l := [(-1), 0, 1, 2, 255, 256, 65535, 2147483647, 2147483648, 4294967295, 4294967296, (-2147483648), 9223372036854775807, (-9223372036854775808)]) (by simp)
  rw [e]
  exact ⟨_, rfl, w⟩
theorem l1Raw_ok (K : Nat) {c : T_spec_l1Cur} (hc : curOk c) : ∃ r, m_spec_l1RawW K c = some r ∧ curOk r.2 := by
  unfold m_spec_l1RawW
  obtain ⟨r, e, w⟩ := l1Once_ok K hc (n := 2) (by omega)
  rw [e]
  simp only [Option.bind_some]
  cases r.1 with
  | true =>
    obtain ⟨q, e2, w2⟩ := l1Odd_ok K w
    rw [e2]
    exact ⟨_, rfl, w2⟩
  | false =>
    obtain ⟨q, e2, _, w2⟩ := l1Int_ok K w (l := [(-1), 1000000000, 1000000001]) (by simp)
    rw [e2]
    exact ⟨_, rfl, w2⟩
theorem l1Bytes_loop (K : Nat) {m : Nat} (hm : m ≤ 1000) : ∀ (n i : Nat) (l : List Int) (c : T_spec_l1Cur), curOk c → bytesP l → l.length = i → i ≤ m → m - i < n → ∃ r, l_spec_l1BytesW_6 K (m : Int) n l (i : Int) c.fb c.fi c.fh = some r ∧ bytesP r.1 ∧ r.1.length = m ∧ curOk r.2 := by
  intro n
  induction n with
  | zero => intro i l c _ _ _ _ h; omega
  | succ n ih =>
    intro i l c hc hb hl hi hn
    rw [l_spec_l1BytesW_6]
    rcases Nat.lt_or_ge i m with h | h
    · rw [dlt_t h]
      simp only [cond_true]
      obtain ⟨r, e, b, w⟩ := l1Byte_ok K hc
      rw [show T_spec_l1Cur.mk c.fb c.fi c.fh = c from rfl, e]
      simp only [Option.bind_some]
      rw [if_pos ⟨by simp; omega, by simp [maxLen]; omega⟩, iAdd1 (i := i) (by omega)]
      refine ih (i + 1) _ r.2 w (bytesP_app hb ?_) (by simp [hl]) h (by omega)
      intro x hx
      simp only [List.mem_singleton] at hx
      subst hx
      rw [wrap_byte b.1 b.2]; exact b
    · rw [dlt_f h]
      exact ⟨_, rfl, hb, by show l.length = m; omega, hc⟩
theorem l1Bytes_ok {K : Nat} (hK : 281474976710656 ≤ K) {c : T_spec_l1Cur} (hc : curOk c) {n : Int} (h0 : 0 ≤ n) (h1 : n ≤ 1000) : ∃ r, m_spec_l1BytesW K c n = some r ∧ bytesP r.1 ∧ (r.1.length : Int) = n ∧ curOk r.2 := by
  obtain ⟨m, rfl⟩ : ∃ m : Nat, n = m := ⟨n.toNat, by omega⟩
  obtain ⟨r, e, b, l, w⟩ := l1Bytes_loop K (m := m) (by omega) K 0 [] c hc (fun x hx => by cases hx) rfl (Nat.zero_le _) (by omega)
  exact ⟨r, e, b, by omega, w⟩

theorem enc_canS2 : ∀ (f : Nat) (v : Int), 1 ≤ v → v < 128 ^ (f + 1) → canS (enc f v) := by
  intro f
  induction f with
  | zero => intro v h0 h1; simp at h1; exact ⟨h0, by omega⟩
  | succ f ih =>
    intro v h0 h1
    have hp : (128 : Int) ^ (f + 1 + 1) = 128 ^ (f + 1) * 128 := Int.pow_succ 128 (f + 1)
    rw [hp] at h1
    unfold enc
    split
    · have h2 := ih (v / 128) (by omega) (by omega)
      cases e : enc f (v / 128) with
      | nil => rw [e] at h2; cases h2
      | cons y r => rw [e] at h2; exact ⟨⟨by omega, by omega⟩, h2⟩
    · exact ⟨h0, by omega⟩
theorem enc_can2 {v : Int} (h0 : 0 ≤ v) (h1 : v ≤ 1000000000) : can (enc 5 v) := by
  have hp : (128 : Int) ^ (5 + 1) = 4398046511104 := by decide
  by_cases h : v = 0
  · subst h; exact .inl ⟨0, rfl, by omega, by omega⟩
  · exact .inr (enc_canS2 5 v (by omega) (by rw [hp]; omega))
theorem enc_len2 : ∀ (m f : Nat) (v : Int), 0 ≤ v → v < 128 ^ (m + 1) → (enc f v).length ≤ m + 1 := by
  intro m
  induction m with
  | zero =>
    intro f v h0 h1
    simp at h1
    cases f with
    | zero => simp [enc]
    | succ f => unfold enc; rw [if_neg (by omega)]; simp
  | succ m ih =>
    intro f v h0 h1
    have hp : (128 : Int) ^ (m + 1 + 1) = 128 ^ (m + 1) * 128 := Int.pow_succ 128 (m + 1)
    rw [hp] at h1
    cases f with
    | zero => simp [enc]
    | succ f =>
      unfold enc
      split
      · have := ih f (v / 128) (by omega) (by omega)
        simp only [List.length_cons]; omega
      · simp
theorem canS_mid : ∀ (l : List Int), canS l → ∀ i, i + 1 < l.length → 128 ≤ gt l (i : Int) := by
  intro l
  induction l with
  | nil => intro h; cases h
  | cons x r ih =>
    intro h i hi
    cases r with
    | nil => simp at hi
    | cons y r =>
      cases i with
      | zero => rw [gt_nat (by simp)]; exact h.1.1
      | succ i =>
        have := ih h.2 i (by simp at hi ⊢; omega)
        rw [gt_nat (by simp at hi ⊢; omega)] at this ⊢
        simpa using this
theorem canS_last : ∀ (l : List Int), canS l → 1 ≤ gt l ((l.length - 1 : Nat) : Int) ∧ gt l ((l.length - 1 : Nat) : Int) ≤ 127 := by
  intro l
  induction l with
  | nil => intro h; cases h
  | cons x r ih =>
    intro h
    cases r with
    | nil => rw [gt_nat (by simp)]; exact h
    | cons y r =>
      have := ih h.2
      rw [gt_nat (by simp)] at this ⊢
      simpa using this
/-- A number that is written is read. -/
theorem getVar_hit (K : Nat) {a l : List Int} (hb : ∀ x ∈ a, 0 ≤ x ∧ x ≤ 255) (ha : a.length ≤ 140737488355000) {p : Nat} (hc : can l) (hl5 : l.length ≤ 5) (hpl : p + l.length ≤ a.length) (htk : (a.drop p).take l.length = l) (hle : val l ≤ 1000000000) :
    ∀ (n i : Nat) (v : Int), i < l.length → l.length - i < n → v = val (l.take i) → l_impl_GetVar_5 K a (p : Int) n v (i : Int) = some (val l, ((p + l.length : Nat) : Int), true) := by
  have hat : ∀ i, i < l.length → gt a ((p + i : Nat) : Int) = gt l (i : Int) := by
    intro i hi
    rw [gt_nat (by omega), gt_nat hi]
    have : l[i] = ((a.drop p).take l.length)[i]'(by simp; omega) := by simp only [htk]
    rw [this]
    simp
  intro n
  induction n with
  | zero => intro i v _ h; omega
  | succ n ih =>
    intro i v hi hn hv
    rw [l_impl_GetVar_5]
    unfold j_impl_GetVar_10
    have e1 : iAdd .i64 (p : Int) (i : Int) = ((p + i : Nat) : Int) := by unfold iAdd; rw [i64_id (by omega) (by omega)]; omega
    have e3 : iSub .i64 (a.length : Int) (p : Int) = (a.length : Int) - p := by unfold iSub; rw [i64_id (by omega) (by omega)]
    have e4 : iMul .i64 7 (i : Int) = 7 * i := by unfold iMul; rw [i64_id (by omega) (by omega)]
    have e5 : IntKind.u64.wrap (7 * (i : Int)) = 7 * i := by rw [IntKind.wrap_u64]; omega
    have e6 : iAdd .i64 (i : Int) 1 = ((i + 1 : Nat) : Int) := iAdd1 (by omega)
    have e7 : iAdd .i64 ((p + i : Nat) : Int) 1 = ((p + (i + 1) : Nat) : Int) := by unfold iAdd; rw [i64_id (by omega) (by omega)]; omega
    have d4 : decide ((i : Int) < iMin 5 ((a.length : Int) - p)) = true := by unfold iMin; split <;> simp <;> omega
    rw [e1, e3, e4, e5, e6, e7, d4, hat i hi]
    simp only [cond_true]
    rw [if_pos ⟨by omega, by omega⟩, if_pos (by omega)]
    have hbyte : 0 ≤ gt l (i : Int) ∧ gt l (i : Int) ≤ 255 := by rw [← hat i hi]; exact gt_byte hb (by omega)
    have ht : l.take (i + 1) = l.take i ++ [gt l (i : Int)] := by rw [gt_nat hi, List.take_succ_eq_append_getElem hi]
    rw [and127 hbyte.1 hbyte.2, join_val hv (by rw [List.length_take]; omega) (by omega) (gt l (i : Int)), ← ht]
    by_cases hlast : i + 1 = l.length
    · have hall : l.take (i + 1) = l := List.take_of_length_le (by omega)
      have hsm : gt l (i : Int) < 128 := by
        rcases hc with ⟨x, rfl, h0, h1⟩ | hc
        · have : i = 0 := by simp at hlast; omega
          subst this; rw [gt_nat (by simp)]; show x < 128; omega
        · have := (canS_last l hc).2
          rw [show l.length - 1 = i from by omega] at this
          omega
      rw [decide_eq_true hsm, hall, decide_eq_false (show ¬ val l > 1000000000 by omega), hlast]
      simp only [cond_true, cond_false]
      by_cases h0 : (i : Int) > 0
      · have hne : ¬ gt l (i : Int) = 0 := by
          rcases hc with ⟨x, rfl, _, _⟩ | hc
          · simp at hlast; omega
          · have := (canS_last l hc).1
            rw [show l.length - 1 = i from by omega] at this
            omega
        rw [decide_eq_true h0, beq_f hne]; rfl
      · rw [decide_eq_false h0]; rfl
    · have hbig : ¬ gt l (i : Int) < 128 := by
        rcases hc with ⟨x, rfl, _, _⟩ | hc
        · simp at hi hlast; omega
        · have := canS_mid l hc i (by omega)
          omega
      rw [decide_eq_false hbig]
      simp only [cond_false]
      exact ih (i + 1) _ (by omega) (by omega) rfl
theorem getVar_enc {K : Nat} (hK : 7 ≤ K) {b r : List Int} {n : Int} (hb : ∀ x ∈ b ++ enc 5 n ++ r, 0 ≤ x ∧ x ≤ 255) (hl : (b ++ enc 5 n ++ r).length ≤ 140737488355000) (h0 : 0 ≤ n) (h1 : n ≤ 1000000000) : m_impl_GetVar K (b ++ enc 5 n ++ r) (b.length : Int) = some (n, ((b ++ enc 5 n).length : Int), true) := by
  have hp : (128 : Int) ^ (4 + 1) = 34359738368 := by decide
  have hp6 : (128 : Int) ^ (5 + 1) = 4398046511104 := by decide
  have hlen := enc_len2 4 5 n h0 (by rw [hp]; omega)
  have hval := val_enc 5 n h0 (by rw [hp6]; omega)
  have hc := enc_can2 h0 h1
  have hpos : 0 < (enc 5 n).length := by
    rcases hc with ⟨x, e, _⟩ | hc
    · rw [e]; simp
    · cases e : enc 5 n with
      | nil => rw [e] at hc; cases hc
      | cons x r => simp
  have hll : (b ++ enc 5 n ++ r).length = b.length + (enc 5 n).length + r.length := by simp; omega
  unfold m_impl_GetVar m_impl_within
  have e3 : iSub .i64 ((b ++ enc 5 n ++ r).length : Int) 1 = ((b ++ enc 5 n ++ r).length : Int) - 1 := by unfold iSub; rw [i64_id (by omega) (by omega)]
  rw [e3, decide_eq_true (show (b.length : Int) ≥ 0 by omega), decide_eq_true (show (b.length : Int) ≤ ((b ++ enc 5 n ++ r).length : Int) - 1 by omega)]
  simp only [cond_true, Option.bind_some]
  have := getVar_hit K (a := b ++ enc 5 n ++ r) (l := enc 5 n) hb hl (p := b.length) hc (by omega) (by omega) (by rw [List.append_assoc, List.drop_left, List.take_left]) (by rw [hval]; omega) K 0 0 hpos (by omega) (by simp [val])
  rw [hval] at this
  rw [show ((b ++ enc 5 n).length : Int) = ((b.length + (enc 5 n).length : Nat) : Int) from by simp]
  exact this

/-! ### Drawn calls -/
def opB (m : Nat) (o : T_impl_Op) : Prop := bytesP o.fB ∧ o.fB.length ≤ m
theorem bytes_nil : bytesP [] := fun x hx => by cases hx
theorem l6Handle_ok (K : Nat) {c : T_spec_l1Cur} (hc : curOk c) : ∃ r, m_spec_l6HandleW K c = some r ∧ curOk r.2 := by
  unfold m_spec_l6HandleW
  obtain ⟨r1, e1, _, w1⟩ := l1Below_ok K hc (n := 5) (by omega)
  obtain ⟨r2, e2, _, w2⟩ := l1Below_ok K w1 (n := 3) (by omega)
  simp only [e1, Option.bind_some, e2]
  exact ⟨_, rfl, w2⟩
theorem j5_ok (K : Nat) {c : T_spec_l1Cur} (hc : curOk c) {B : List Int} (hB : bytesP B) (hl : B.length ≤ 3) (a b d e f g h i j : Int) : ∃ r, j_spec_l21DrawW_5 K c.fb c.fi c.fh a b d e f g h i j B = some r ∧ opB 3 r.1 ∧ curOk r.2 :=
  ⟨_, rfl, ⟨hB, hl⟩, hc⟩
theorem l21Draw_ok {K : Nat} (hK : 281474976710656 ≤ K) {c : T_spec_l1Cur} (hc : curOk c) : ∃ r, m_spec_l21DrawW K c = some r ∧ opB 3 r.1 ∧ curOk r.2 := by
  unfold m_spec_l21DrawW
  obtain ⟨r1, e1, _, w1⟩ := l1Below_ok K hc (n := 9) (by omega)
  obtain ⟨r2, e2, w2⟩ := l6Handle_ok K w1
  obtain ⟨r3, e3, _, w3⟩ := l1Below_ok K w2 (n := 2) (by omega)
  obtain ⟨r4, e4, _, w4⟩ := l1Below_ok K w3 (n := 3) (by omega)
  simp only [e1, Option.bind_some, e2, e3, e4]
  have hj : ∀ v : Bool, ∃ r, j_spec_l21DrawW_122 K r1 r2 r3 r4 v = some r ∧ opB 3 r.1 ∧ curOk r.2 := by
    intro v
    unfold j_spec_l21DrawW_122
    cases v with
    | true => exact j5_ok K w4 bytes_nil (Nat.zero_le _) _ _ _ _ _ _ _ _ _
    | false =>
      simp only [cond_false]
      cases (iAdd .i64 1 r1.1) == 2 with
      | true =>
        obtain ⟨q, f1, _, x1⟩ := l1Int_ok K w4 (l := [1, 2, 3, 5, 8, 9, 17, 20, 0, 201]) (by simp)
        obtain ⟨q2, f2, _, x2⟩ := l1Int_ok K x1 (l := [1, 1, 2, 4, 3]) (by simp)
        simp only [cond_true, f1, Option.bind_some, f2]
        exact j5_ok K x2 bytes_nil (Nat.zero_le _) _ _ _ _ _ _ _ _ _
      | false =>
        simp only [cond_false]
        cases (iAdd .i64 1 r1.1) == 3 with
        | true =>
          obtain ⟨q, f1, _, x1⟩ := l1Below_ok K w4 (n := 4) (by omega)
          obtain ⟨q2, f2, _, x2⟩ := l1Below_ok K x1 (n := 5) (by omega)
          simp only [cond_true, f1, Option.bind_some, f2]
          exact j5_ok K x2 bytes_nil (Nat.zero_le _) _ _ _ _ _ _ _ _ _
        | false =>
          simp only [cond_false]
          cases (iAdd .i64 1 r1.1) == 4 with
          | true =>
            obtain ⟨q, f1, _, x1⟩ := l1Below_ok K w4 (n := 4) (by omega)
            obtain ⟨q2, f2, g2, x2⟩ := l1Below_ok K x1 (n := 4) (by omega)
            obtain ⟨q3, f3, b3, l3, x3⟩ := l1Bytes_ok hK x2 (n := q2.1) g2.1 (by omega)
            simp only [cond_true, f1, Option.bind_some, f2, f3]
            exact j5_ok K x3 b3 (by omega) _ _ _ _ _ _ _ _ _
          | false =>
            simp only [cond_false]
            cases (iAdd .i64 1 r1.1) == 5 with
            | true =>
              obtain ⟨q, f1, _, x1⟩ := l1Int_ok K w4 (l := [1, 7, 255, 256]) (by simp)
              simp only [cond_true, f1, Option.bind_some]
              exact j5_ok K x1 bytes_nil (Nat.zero_le _) _ _ _ _ _ _ _ _ _
            | false => exact j5_ok K w4 bytes_nil (Nat.zero_le _) _ _ _ _ _ _ _ _ _
  cases (iAdd .i64 1 r1.1) == 1 with
  | true =>
    obtain ⟨q, f1, x1⟩ := l1Once_ok K w4 (n := 2) (by omega)
    simp only [cond_true, f1, Option.bind_some]
    cases q.1 <;> exact j5_ok K x1 bytes_nil (Nat.zero_le _) _ _ _ _ _ _ _ _ _
  | false =>
    simp only [cond_false]
    cases (iAdd .i64 1 r1.1) == 6 with
    | true => simp only [cond_true]; exact hj _
    | false =>
      simp only [cond_false]
      cases (iAdd .i64 1 r1.1) == 7 with
      | true => simp only [cond_true]; exact hj _
      | false => simp only [cond_false]; exact hj _
theorem l6Any_ok (K : Nat) {c : T_spec_l1Cur} (hc : curOk c) : ∃ r, m_spec_l6AnyW K c = some r ∧ curOk r.2 := by
  unfold m_spec_l6AnyW j_spec_l6AnyW_2
  obtain ⟨r1, e1, w1⟩ := l6Handle_ok K hc
  obtain ⟨r2, e2, _, w2⟩ := l1Below_ok K w1 (n := 8) (by omega)
  simp only [e1, Option.bind_some, e2]
  cases r2.1 == 0 with
  | true =>
    obtain ⟨q, f1, _, x1⟩ := l1Int_ok K w2 (l := [(-1), 1000000000, 9]) (by simp)
    simp only [cond_true, f1, Option.bind_some]
    exact ⟨_, rfl, x1⟩
  | false =>
    simp only [cond_false]
    cases r2.1 == 1 with
    | true =>
      obtain ⟨q, f1, _, x1⟩ := l1Int_ok K w2 (l := [0, (-1), 5]) (by simp)
      simp only [cond_true, f1, Option.bind_some]
      exact ⟨_, rfl, x1⟩
    | false => exact ⟨_, rfl, w2⟩
theorem l6Ref_ok (K : Nat) {c : T_spec_l1Cur} (hc : curOk c) : ∃ r, m_spec_l6RefW K c = some r ∧ curOk r.2 := by
  unfold m_spec_l6RefW
  obtain ⟨r1, e1, w1⟩ := l6Any_ok K hc
  obtain ⟨r2, e2, _, w2⟩ := l1Int_ok K w1 (l := [0, 0, 0, 1, 2, (-1)]) (by simp)
  obtain ⟨r3, e3, _, w3⟩ := l1Int_ok K w2 (l := [0, 0, 1, 2, 5, (-1)]) (by simp)
  simp only [e1, Option.bind_some, e2, e3]
  exact ⟨_, rfl, w3⟩
theorem l21Any_ok {K : Nat} (hK : 281474976710656 ≤ K) {c : T_spec_l1Cur} (hc : curOk c) : ∃ r, m_spec_l21AnyW K c = some r ∧ opB 4 r.1 := by
  unfold m_spec_l21AnyW j_spec_l21AnyW_2
  obtain ⟨r1, e1, ⟨b1, l1⟩, w1⟩ := l21Draw_ok hK hc
  obtain ⟨r2, e2, _, w2⟩ := l1Below_ok K w1 (n := 12) (by omega)
  have hb : opB 4 (T_impl_Op.mk 0 (T_impl_Handle.mk 0 0) (T_impl_Ref.mk (T_impl_Handle.mk 0 0) 0 0) 0 0 r1.1.fB) := ⟨b1, by show r1.1.fB.length ≤ 4; omega⟩
  simp only [e1, Option.bind_some, e2]
  cases r2.1 == 0 with
  | true =>
    obtain ⟨q, f1, _, x1⟩ := l1Int_ok K w2 (l := [0, 9, 10, (-1)]) (by simp)
    simp only [cond_true, f1, Option.bind_some]
    exact ⟨_, rfl, hb⟩
  | false =>
    simp only [cond_false]
    cases r2.1 == 1 with
    | true =>
      obtain ⟨q, f1, x1⟩ := l6Any_ok K w2
      simp only [cond_true, f1, Option.bind_some]
      exact ⟨_, rfl, hb⟩
    | false =>
      simp only [cond_false]
      cases r2.1 == 2 with
      | true =>
        obtain ⟨q, f1, x1⟩ := l6Ref_ok K w2
        simp only [cond_true, f1, Option.bind_some]
        exact ⟨_, rfl, hb⟩
      | false =>
        simp only [cond_false]
        cases r2.1 == 3 with
        | true =>
          obtain ⟨q, f1, x1⟩ := l1Raw_ok K w2
          simp only [cond_true, f1, Option.bind_some]
          exact ⟨_, rfl, hb⟩
        | false =>
          simp only [cond_false]
          cases r2.1 == 4 with
          | true =>
            simp only [cond_true]
            rw [if_pos ⟨by simp; omega, by simp [maxLen]; omega⟩]
            refine ⟨_, rfl, bytesP_app b1 ?_, by show (r1.1.fB ++ [1]).length ≤ 4; simp; omega⟩
            intro x hx
            simp only [List.mem_singleton] at hx
            omega
          | false => exact ⟨_, rfl, hb⟩
theorem drawPutOp_ok {K : Nat} (hK : 281474976710656 ≤ K) {a : List Int} (hb : bytesP a) (ha : a.length ≤ 1048576) : ∃ o, m_spec_DrawPutOp K a = some o ∧ opB 4 o := by
  unfold m_spec_DrawPutOp
  obtain ⟨c, e0, w0⟩ := l1New_ok hK hb ha
  obtain ⟨r, e1, b1⟩ := l21Any_ok hK w0
  simp only [e0, Option.bind_some, e1]
  exact ⟨_, rfl, b1⟩
theorem drawOpName_ok {K : Nat} (hK : 281474976710656 ≤ K) {a : List Int} (hb : bytesP a) (ha : a.length ≤ 1048576) : ∃ n, m_spec_DrawOpName K a = some n := by
  unfold m_spec_DrawOpName
  obtain ⟨c, e0, w0⟩ := l1New_ok hK hb ha
  obtain ⟨r, e1, _⟩ := l1Below_ok K w0 (n := 12) (by omega)
  simp only [e0, Option.bind_some, e1]
  exact ⟨_, rfl⟩

theorem opName_same (K : Nat) (n : Int) : ∃ s, m_spec_OpName K n = some s ∧ m_impl_OpName K n = some s := by
  have h : n < 0 ∨ n = 0 ∨ n = 1 ∨ n = 2 ∨ n = 3 ∨ n = 4 ∨ n = 5 ∨ n = 6 ∨ n = 7 ∨ n = 8 ∨ n = 9 ∨ 9 < n := by omega
  rcases h with h | rfl | rfl | rfl | rfl | rfl | rfl | rfl | rfl | rfl | rfl | h
  · unfold m_spec_OpName m_impl_OpName m_spec_l1In m_impl_within
    rw [decide_eq_false (show ¬ n ≥ 0 by omega), decide_eq_false (show ¬ n ≥ 1 by omega)]
    exact ⟨_, rfl, rfl⟩
  · exact ⟨⟨#[]⟩, by with_unfolding_all rfl, by with_unfolding_all rfl⟩
  · exact ⟨⟨#[109, 97, 107, 101]⟩, by with_unfolding_all rfl, by with_unfolding_all rfl⟩
  · exact ⟨_, by with_unfolding_all rfl, by with_unfolding_all rfl⟩
  · exact ⟨_, by with_unfolding_all rfl, by with_unfolding_all rfl⟩
  · exact ⟨_, by with_unfolding_all rfl, by with_unfolding_all rfl⟩
  · exact ⟨_, by with_unfolding_all rfl, by with_unfolding_all rfl⟩
  · exact ⟨_, by with_unfolding_all rfl, by with_unfolding_all rfl⟩
  · exact ⟨_, by with_unfolding_all rfl, by with_unfolding_all rfl⟩
  · exact ⟨_, by with_unfolding_all rfl, by with_unfolding_all rfl⟩
  · exact ⟨_, by with_unfolding_all rfl, by with_unfolding_all rfl⟩
  · unfold m_spec_OpName m_impl_OpName m_spec_l1In m_impl_within
    have e : ∀ m : Int, m = 9 → decide (n ≤ m) = false := fun m hm => decide_eq_false (by omega)
    rw [decide_eq_true (show n ≥ 0 by omega), decide_eq_true (show n ≥ 1 by omega), decide_eq_false (show ¬ n ≤ 9 by omega), e _ (by with_unfolding_all rfl)]
    exact ⟨_, rfl, rfl⟩

theorem wf_u8 {x : Int} : Wf_u8 x ↔ 0 ≤ x ∧ x ≤ 255 := by
  simp [Wf_u8, Lit.wf, IntKind.min, IntKind.max, IntKind.signed, IntKind.bits]
def K0 : Nat := 281474976710656
theorem same_l {K : Nat} (hK : 281474976710656 ≤ K) {a : List Int} (hl : a.length ≤ 140737488355327) : m_laws_same K a a = some true := by
  unfold m_laws_same
  simp only [bne_self_eq_false, cond_false]
  exact eqv_ok a (by omega) (l_laws_same_3 K a a) (fun n i => rfl) K 0 (Nat.zero_le _) (by omega)
theorem sameOp_l {K : Nat} (hK : 281474976710656 ≤ K) {a : T_impl_Op} (hl : a.fB.length ≤ 140737488355327) : m_laws_sameOp K a a = some true := by
  unfold m_laws_sameOp
  simp [same_l hK hl]
theorem opOk_nums {K : Nat} (hK : 10 ≤ K) {a : T_impl_Op} (h : m_impl_OpOk K a = some true) : ∀ x ∈ numsOf a, 0 ≤ x ∧ x ≤ 1000000000 := by
  obtain ⟨n, rfl⟩ : ∃ n, K = n + 9 := ⟨K - 9, by omega⟩
  unfold m_impl_OpOk at h
  rw [impl_loop, impl_within] at h
  simp only [Option.bind_some] at h
  have hnum : ∀ x, num x = true → 0 ≤ x ∧ x ≤ 1000000000 := by
    intro x hx
    unfold num at hx
    simp only [Bool.and_eq_true, decide_eq_true_eq] at hx
    omega
  cases c0 : (decide (a.fKind ≥ 1) && decide (a.fKind ≤ 9)) with
  | false => rw [c0] at h; simp at h
  | true =>
    rw [c0] at h
    simp only [cond_true] at h
    simp only [Bool.and_eq_true, decide_eq_true_eq] at c0
    cases c1 : decide ((a.fB.length : Int) > 200) with
    | true => rw [c1] at h; simp at h
    | false =>
      rw [c1] at h
      simp only [cond_false] at h
      have c1' := of_decide_eq_false c1
      cases g1 : num a.fH.fSlot with
      | false => rw [g1] at h; simp at h
      | true =>
      rw [g1] at h; simp only [cond_true] at h
      cases g2 : num a.fH.fGen with
      | false => rw [g2] at h; simp at h
      | true =>
      rw [g2] at h; simp only [cond_true] at h
      cases g3 : num a.fR.fH.fSlot with
      | false => rw [g3] at h; simp at h
      | true =>
      rw [g3] at h; simp only [cond_true] at h
      cases g4 : num a.fR.fH.fGen with
      | false => rw [g4] at h; simp at h
      | true =>
      rw [g4] at h; simp only [cond_true] at h
      cases g5 : num a.fR.fEp with
      | false => rw [g5] at h; simp at h
      | true =>
      rw [g5] at h; simp only [cond_true] at h
      cases g6 : num a.fR.fNo with
      | false => rw [g6] at h; simp at h
      | true =>
      rw [g6] at h; simp only [cond_true] at h
      cases g7 : num a.fN with
      | false => rw [g7] at h; simp at h
      | true =>
      rw [g7] at h; simp only [cond_true] at h
      cases g8 : num a.fM with
      | false => rw [g8] at h; simp at h
      | true =>
      intro x hx
      simp only [numsOf, List.mem_cons, List.not_mem_nil, or_false] at hx
      rcases hx with rfl | rfl | rfl | rfl | rfl | rfl | rfl | rfl | rfl | rfl
      · omega
      · exact hnum _ g1
      · exact hnum _ g2
      · exact hnum _ g3
      · exact hnum _ g4
      · exact hnum _ g5
      · exact hnum _ g6
      · exact hnum _ g7
      · exact hnum _ g8
      · omega
theorem putOp_eq {K : Nat} (hK : 20 ≤ K) {a : T_impl_Op} (ha : a.fB.length ≤ 1048576) {t : Bool} (h : m_impl_OpOk K a = some t) : m_impl_PutOp K a = some (bif t then encs (numsOf a) ++ a.fB else []) := by
  unfold m_impl_PutOp
  rw [h]
  cases t with
  | false => rfl
  | true =>
    have := putOp_iloop (K := K) (by omega) a (by omega) K 0 [] (by omega) (by omega) (by simp)
    simpa using this
theorem e1_val {x : Int} (h : 0 ≤ x ∧ x ≤ 1000000000) : e1 x = enc 5 x := by unfold e1; rw [if_pos h]
/-- A call that is written is read. -/
theorem getOp_hit {K : Nat} (hK : 20 ≤ K) {a B : List Int} (hb : ∀ x ∈ a, 0 ≤ x ∧ x ≤ 255) (ha : a.length ≤ 1048576) : ∀ (w v : List Int) (n : Nat), (∀ x ∈ v ++ w, 0 ≤ x ∧ x ≤ 1000000000) → (v ++ w).length = 10 → a = encs v ++ encs w ++ B → w.length < n →
    l_spec_GetOp_4 K a n v ((encs v).length : Int) (v.length : Int) = l_spec_GetOp_4 K a (n - w.length) (v ++ w) ((encs (v ++ w)).length : Int) ((10 : Nat) : Int) := by
  intro w
  induction w with
  | nil => intro v n _ hl _ _; simp only [List.append_nil] at hl ⊢; rw [hl]; simp
  | cons x w ih =>
    intro v n hval hl hae hn
    obtain ⟨n, rfl⟩ : ∃ q, n = q + 1 := ⟨n - 1, by omega⟩
    have hx := hval x (by simp)
    have hlen : v.length < 10 := by simp at hl; omega
    have hae2 : a = encs v ++ enc 5 x ++ (encs w ++ B) := by rw [hae]; simp [encs, e1_val hx]
    have hit := getVar_enc (K := K) (by omega) (b := encs v) (r := encs w ++ B) (n := x) (by rw [← hae2]; exact hb) (by rw [← hae2]; omega) hx.1 hx.2
    rw [← hae2] at hit
    obtain ⟨r, h1, h2, _⟩ := getVar_same (K := K) (by omega) a hb (by omega) ((encs v).length : Int)
    rw [hit] at h2
    cases h2
    rw [l_spec_GetOp_4, decide_eq_true (show (v.length : Int) < 10 by omega), h1]
    simp only [cond_true, Option.bind_some]
    rw [if_pos ⟨by simp; omega, by simp [maxLen]; omega⟩, iAdd1 (i := v.length) (by omega)]
    have e2 : (encs (v ++ [x])) = encs v ++ enc 5 x := by rw [encs_append]; simp [encs, e1_val hx]
    have := ih (v ++ [x]) n (by intro y hy; exact hval y (by simpa using hy)) (by simpa using hl) (by rw [e2, hae2]; simp) (by simp at hn; omega)
    rw [e2] at this
    rw [show ((v ++ [x]).length : Int) = ((v.length + 1 : Nat) : Int) from by simp] at this
    rw [this]
    have e3 : v ++ [x] ++ w = v ++ x :: w := by simp
    rw [e3]
    have e4 : n - w.length = n + 1 - (x :: w).length := by simp
    rw [e4]
theorem getOp_put {K : Nat} (hK : 20 ≤ K) {o : T_impl_Op} (hB : bytesP o.fB) (hl : o.fB.length ≤ 1000) (h : m_impl_OpOk K o = some true) : m_spec_GetOp K (encs (numsOf o) ++ o.fB) = some (o, true) := by
  have hn := opOk_nums (by omega) h
  have hby : ∀ x ∈ encs (numsOf o) ++ o.fB, 0 ≤ x ∧ x ≤ 255 := bytesP_app (encs_byte _) hB
  have hlen : (encs (numsOf o)).length ≤ 60 := by
    have := e1_len
    simp only [numsOf, encs, List.length_append, List.length_nil]
    have a1 := e1_len o.fKind
    have a2 := e1_len o.fH.fSlot
    have a3 := e1_len o.fH.fGen
    have a4 := e1_len o.fR.fH.fSlot
    have a5 := e1_len o.fR.fH.fGen
    have a6 := e1_len o.fR.fEp
    have a7 := e1_len o.fR.fNo
    have a8 := e1_len o.fN
    have a9 := e1_len o.fM
    have a10 := e1_len (o.fB.length : Int)
    omega
  have hal : (encs (numsOf o) ++ o.fB).length ≤ 1048576 := by rw [List.length_append]; omega
  unfold m_spec_GetOp
  have := getOp_hit hK (a := encs (numsOf o) ++ o.fB) (B := o.fB) hby hal (numsOf o) [] K (by simpa using hn) rfl (by simp [encs]) (by show 10 < K; omega)
  simp only [List.nil_append, encs, List.length_nil] at this
  have hz : l_spec_GetOp_4 K (encs (numsOf o) ++ o.fB) K [] 0 0 = _ := this
  rw [hz]
  obtain ⟨q, hq⟩ : ∃ q, K - (numsOf o).length = q + 1 := ⟨K - 11, by show K - 10 = _; omega⟩
  rw [hq]
  have hf := getOp_fin (K := K) hal (p := (encs (numsOf o)).length) (by rw [List.length_append]; omega) q o.fKind o.fH.fSlot o.fH.fGen o.fR.fH.fSlot o.fR.fH.fGen o.fR.fEp o.fR.fNo o.fN o.fM (o.fB.length : Int)
  rw [show numsOf o = [o.fKind, o.fH.fSlot, o.fH.fGen, o.fR.fH.fSlot, o.fR.fH.fGen, o.fR.fEp, o.fR.fNo, o.fN, o.fM, (o.fB.length : Int)] from rfl] at hf ⊢
  rw [hf, List.drop_left, bne_self_eq_false]
  simp only [cond_false]
  obtain ⟨t, s1, s2⟩ := opOk_same K (by omega) o
  rw [h] at s2
  cases s2
  rw [show (T_impl_Op.mk o.fKind (T_impl_Handle.mk o.fH.fSlot o.fH.fGen) (T_impl_Ref.mk (T_impl_Handle.mk o.fR.fH.fSlot o.fR.fH.fGen) o.fR.fEp o.fR.fNo) o.fN o.fM o.fB) = o from rfl, s1]
  rfl
theorem putOp_spec {K : Nat} (hK : 20 ≤ K) {a : T_impl_Op} (ha : a.fB.length ≤ 1048576) {t : Bool} (h : m_impl_OpOk K a = some t) : m_spec_PutOp K a = some (bif t then encs (numsOf a) ++ a.fB else []) := by
  obtain ⟨r, h1, h2, _⟩ := putOp_same hK a (by omega)
  rw [putOp_eq hK ha h] at h2
  cases h2
  exact h1
theorem encs10 (o : T_impl_Op) : (encs (numsOf o)).length ≤ 60 := by
  simp only [numsOf, encs, List.length_append, List.length_nil]
  have a1 := e1_len o.fKind
  have a2 := e1_len o.fH.fSlot
  have a3 := e1_len o.fH.fGen
  have a4 := e1_len o.fR.fH.fSlot
  have a5 := e1_len o.fR.fH.fGen
  have a6 := e1_len o.fR.fEp
  have a7 := e1_len o.fR.fNo
  have a8 := e1_len o.fN
  have a9 := e1_len o.fM
  have a10 := e1_len (o.fB.length : Int)
  omega
theorem drawGetOp_ok {K : Nat} (hK : 281474976710656 ≤ K) {a : List Int} (hb : bytesP a) (ha : a.length ≤ 1048576) : ∃ c, m_spec_DrawGetOp K a = some c ∧ bytesP c ∧ c.length ≤ 1000 := by
  unfold m_spec_DrawGetOp j_spec_DrawGetOp_4
  obtain ⟨c, e0, w0⟩ := l1New_ok hK hb ha
  obtain ⟨r1, f1, ⟨b1, l1⟩, w1⟩ := l21Draw_ok hK w0
  obtain ⟨t, _, ht⟩ := opOk_same K (by omega) r1.1
  have hp := putOp_spec (K := K) (by omega) (by omega) ht
  have hpb : bytesP (bif t then encs (numsOf r1.1) ++ r1.1.fB else []) := by
    cases t with
    | true => exact bytesP_app (encs_byte _) b1
    | false => exact bytes_nil
  have hpl : (bif t then encs (numsOf r1.1) ++ r1.1.fB else []).length ≤ 70 := by
    cases t with
    | true => have := encs10 r1.1; simp only [cond_true, List.length_append]; omega
    | false => exact Nat.zero_le _
  obtain ⟨r2, f2, _, w2⟩ := l1Below_ok K w1 (n := 5) (by omega)
  simp only [e0, Option.bind_some, f1, hp, f2]
  generalize (bif t then encs (numsOf r1.1) ++ r1.1.fB else []) = l at hpb hpl
  cases r2.1 == 0 with
  | true =>
    simp only [cond_true]
    by_cases hl : (l.length : Int) > 0
    · rw [decide_eq_true hl]
      obtain ⟨r3, f3, g3, w3⟩ := l1Below_ok K w2 (n := (l.length : Int)) (by omega)
      obtain ⟨r4, f4, g4, w4⟩ := l1Below_ok K w3 (n := 256) (by omega)
      simp only [cond_true, f3, Option.bind_some, f4]
      rw [if_pos g3]
      refine ⟨_, rfl, ?_, by simp; omega⟩
      intro x hx
      rcases List.mem_or_eq_of_mem_set hx with h | rfl
      · exact hpb x h
      · rw [wrap_byte g4.1 (by omega)]; omega
    · rw [decide_eq_false hl]
      exact ⟨_, rfl, hpb, by omega⟩
  | false =>
    simp only [cond_false]
    cases r2.1 == 1 with
    | true =>
      have e : iAdd .i64 (l.length : Int) 1 = (l.length : Int) + 1 := by unfold iAdd; rw [i64_id (by omega) (by omega)]
      obtain ⟨r3, f3, g3, w3⟩ := l1Below_ok K w2 (n := iAdd .i64 (l.length : Int) 1) (by omega)
      simp only [cond_true, f3, Option.bind_some]
      rw [if_pos ⟨g3.1, by omega⟩]
      exact ⟨_, rfl, fun x hx => hpb x (List.mem_of_mem_take hx), by simp; omega⟩
    | false =>
      simp only [cond_false]
      cases r2.1 == 2 with
      | true =>
        simp only [cond_true]
        rw [if_pos ⟨by simp; omega, by simp [maxLen]; omega⟩]
        refine ⟨_, rfl, bytesP_app hpb ?_, by simp; omega⟩
        intro x hx
        simp only [List.mem_singleton] at hx
        omega
      | false => exact ⟨_, rfl, hpb, by omega⟩
theorem getOp_nil {K : Nat} (hK : 20 ≤ K) : m_impl_GetOp K [] = some (op0, false) := by
  obtain ⟨n, rfl⟩ : ∃ n, K = n + 1 := ⟨K - 1, by omega⟩
  unfold m_impl_GetOp
  rw [l_impl_GetOp_4]
  obtain ⟨r, h1, h2, h3⟩ := getVar_same (K := n + 1) (by omega) [] (fun x hx => by cases hx) (by simp) 0
  have hr : r = (0, 0, false) := by
    rcases h3 with h3 | ⟨_, h3⟩
    · exact h3
    · rcases h3 with h3 | ⟨l, hc, _, hl, _, _, _⟩
      · exact h3
      · exfalso
        have : l = [] := List.length_eq_zero_iff.1 (by have h9 : (0 : Int).toNat + l.length ≤ ([] : List Int).length := hl; simp only [List.length_nil] at h9; omega)
        subst this
        rcases hc with ⟨x, e, _⟩ | hc
        · cases e
        · cases hc
  subst hr
  rw [decide_eq_true (show (0 : Int) < 10 by omega), h2]
  rfl
theorem pure_FnOps (a : List Int) (w : Wf_Lu8 a) : ∃ K, m_laws_FnOps K a = some true := by
  refine ⟨K0, ?_⟩
  have hK : 281474976710656 ≤ K0 := Nat.le_refl _
  have hK20 : 20 ≤ K0 := by decide
  unfold m_laws_FnOps m_laws_big
  simp only [Option.bind_some]
  by_cases hbig : (a.length : Int) > 1048576
  · rw [decide_eq_true hbig]; rfl
  · rw [decide_eq_false hbig]
    have hl : a.length ≤ 1048576 := by omega
    have hb : bytesP a := fun x hx => wf_u8.1 (w.1 x hx)
    obtain ⟨o, e1, b1, l1⟩ := drawPutOp_ok hK hb hl
    obtain ⟨c, e2, b2, l2⟩ := drawGetOp_ok hK hb hl
    obtain ⟨nm, e3⟩ := drawOpName_ok hK hb hl
    obtain ⟨t, s1, s2⟩ := opOk_same K0 (by decide) o
    have p1 := putOp_eq hK20 (by omega) s2
    have p2 := putOp_spec hK20 (by omega) s2
    obtain ⟨r, g1, g2, g3, g4⟩ := getOp_same (K := K0) (by decide) b2 (by omega)
    obtain ⟨s, m1, m2⟩ := opName_same K0 nm
    have hpl : (bif t then encs (numsOf o) ++ o.fB else []).length ≤ 100 := by
      cases t with
      | true => have := encs10 o; simp only [cond_true, List.length_append]; omega
      | false => exact Nat.zero_le _
    have hj : j_laws_FnOps_21 K0 o (bif t then encs (numsOf o) ++ o.fB else []) = some true := by
      unfold j_laws_FnOps_21
      cases t with
      | false =>
        simp only [cond_false]
        rw [getOp_nil hK20, s2]
        rfl
      | true =>
        simp only [cond_true]
        have h1 := getOp_put hK20 b1 (by omega) s2
        obtain ⟨r', q1, q2, _, _⟩ := getOp_same (K := K0) (by decide) (a := encs (numsOf o) ++ o.fB) (bytesP_app (encs_byte _) b1) (by have := encs10 o; rw [List.length_append]; omega)
        rw [h1] at q1
        cases q1
        rw [q2, s2]
        simp only [Option.bind_some, BEq.rfl, cond_true, sameOp_l hK (a := o) (by omega)]
    simp only [cond_false, e1, Option.bind_some, p1, e2, g1, g2, e3, p2, same_l hK (a := (bif t then encs (numsOf o) ++ o.fB else [])) (by omega), cond_true, sameOp_l hK (a := r.1) (by omega), BEq.rfl, Bool.not_true, s1, s2, m1, m2, hj]
    cases hr : r.2 with
    | false => rfl
    | true =>
      obtain ⟨y1, y2⟩ := g4 hr
      simp only [cond_true, y1, Option.bind_some, y2, same_l hK (a := c) (by omega)]

end Go.Proofs.Ytlenlhlggknelaa
