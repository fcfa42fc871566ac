/- Plain laws for FnVars. -/
import Derived.Test.YtlenlhlggknelaaGFnVars
set_option linter.unusedVariables false
set_option linter.unusedSimpArgs false
namespace Go.Proofs.Ytlenlhlggknelaa
open Go.Eng Go.ChangeShapes Go.WideShapes Go.ChangeAt Go.RowKit
/-! ### Loops over lists -/
theorem iAdd1 {i : Nat} (h : i ≤ 140737488355328) : iAdd .i64 (i : Int) 1 = ((i + 1 : Nat) : Int) := by
  unfold iAdd
  rw [IntKind.wrap_i64]
  omega
theorem gt_nat {α : Type} [Inhabited α] {l : List α} {i : Nat} (h : i < l.length) : gt l (i : Int) = l[i] := by
  unfold gt
  simp [h]
theorem gt_mem {α : Type} [Inhabited α] {l : List α} {i : Nat} (h : i < l.length) : gt l (i : Int) ∈ l := by
  rw [gt_nat h]; exact List.getElem_mem h
theorem gt_memI {α : Type} [Inhabited α] {l : List α} {i : Int} (h0 : 0 ≤ i) (h : i < l.length) : gt l i ∈ l := by
  obtain ⟨k, rfl⟩ : ∃ k : Nat, i = k := ⟨i.toNat, by omega⟩
  exact gt_mem (by omega)
theorem dlt_t {i k : Nat} (h : i < k) : decide ((i : Int) < (k : Int)) = true := by simp; omega
theorem dlt_f {i k : Nat} (h : k ≤ i) : decide ((i : Int) < (k : Int)) = false := by simp; omega

theorem conv_ok {α β : Type} [Inhabited α] (a : List α) (f : α → Option β) (g : α → β) (hf : ∀ x ∈ a, f x = some (g x)) (ha : a.length ≤ 140737488355328)
    (L : Nat → Int → List β → Option (List β)) (hL : ∀ n i v, L (n + 1) i v = bif decide (i < (a.length : Int)) then (if (0 : Int) ≤ i ∧ i < (a.length : Int) then (f (gt a i)).bind (fun r => (if (0 : Int) ≤ i ∧ i < (v.length : Int) then L n (iAdd .i64 i 1) (v.set i.toNat r) else none)) else none) else some v) :
    ∀ (n i : Nat) (v : List β), i ≤ a.length → v.length = a.length → (∀ j, j < i → v[j]? = (a.map g)[j]?) → a.length - i < n → L n (i : Int) v = some (a.map g) := by
  intro n
  induction n with
  | zero => intro i v _ _ _ h; omega
  | succ n ih =>
    intro i v hi hv hj hn
    rw [hL]
    rcases Nat.lt_or_ge i a.length with h | h
    · rw [dlt_t h]
      simp only [cond_true]
      rw [if_pos ⟨by omega, by omega⟩, hf _ (gt_mem h)]
      simp only [Option.bind_some]
      rw [if_pos ⟨by omega, by omega⟩, iAdd1 (by omega)]
      refine ih (i + 1) _ h (by simpa using hv) (fun j hj2 => ?_) (by omega)
      rw [Int.toNat_natCast, List.getElem?_set]
      by_cases e : i = j
      · subst e
        rw [if_pos rfl, if_pos (by omega), gt_nat h, List.getElem?_map, List.getElem?_eq_getElem h]; rfl
      · rw [if_neg e]; exact hj j (by omega)
    · rw [dlt_f h]
      simp only [cond_false, Option.some.injEq]
      have hia : i = a.length := by omega
      refine List.ext_getElem? fun j => ?_
      rcases Nat.lt_or_ge j a.length with hja | hja
      · exact hj j (by omega)
      · rw [List.getElem?_eq_none (by omega), List.getElem?_eq_none (by simpa using hja)]
theorem eq_ok {β : Type} [Inhabited β] (a : List β) (e : β → β → Option Bool) (he : ∀ x ∈ a, e x x = some true) (ha : a.length ≤ 140737488355328)
    (L : Nat → Int → Option Bool) (hL : ∀ n i, L (n + 1) i = bif decide (i < (a.length : Int)) then (if (0 : Int) ≤ i ∧ i < (a.length : Int) then (if (0 : Int) ≤ i ∧ i < (a.length : Int) then (e (gt a i) (gt a i)).bind (fun r => bif r then L n (iAdd .i64 i 1) else some false) else none) else none) else some true) :
    ∀ (n i : Nat), i ≤ a.length → a.length - i < n → L n (i : Int) = some true := by
  intro n
  induction n with
  | zero => intro i _ h; omega
  | succ n ih =>
    intro i hi hn
    rw [hL]
    rcases Nat.lt_or_ge i a.length with h | h
    · rw [dlt_t h]
      simp only [cond_true]
      rw [if_pos ⟨by omega, by omega⟩, if_pos ⟨by omega, by omega⟩, he _ (gt_mem h), iAdd1 (by omega)]
      simp only [Option.bind_some, cond_true]
      exact ih (i + 1) h (by omega)
    · rw [dlt_f h]; rfl
theorem eqv_ok (a : List Int) (ha : a.length ≤ 140737488355328)
    (L : Nat → Int → Option Bool) (hL : ∀ n i, L (n + 1) i = bif decide (i < (a.length : Int)) then (if (0 : Int) ≤ i ∧ i < (a.length : Int) then (if (0 : Int) ≤ i ∧ i < (a.length : Int) then (bif (gt a i != gt a i) then some false else L n (iAdd .i64 i 1)) else none) else none) else some true) :
    ∀ (n i : Nat), i ≤ a.length → a.length - i < n → L n (i : Int) = some true := by
  intro n
  induction n with
  | zero => intro i _ h; omega
  | succ n ih =>
    intro i hi hn
    rw [hL]
    rcases Nat.lt_or_ge i a.length with h | h
    · rw [dlt_t h]
      simp only [cond_true]
      rw [if_pos ⟨by omega, by omega⟩, if_pos ⟨by omega, by omega⟩, iAdd1 (by omega)]
      simp only [bne_self_eq_false, cond_false]
      exact ih (i + 1) h (by omega)
    · rw [dlt_f h]; rfl
theorem sz_ok {α : Type} [Inhabited α] (a : List α) (f : α → Int → Option Int) (hf : ∀ x ∈ a, ∀ y, ∃ r, f x y = some r) (ha : a.length ≤ 140737488355328)
    (L : Nat → Int → Int → Option Int) (hL : ∀ n y i, L (n + 1) y i = bif decide (i < (a.length : Int)) then (if (0 : Int) ≤ i ∧ i < (a.length : Int) then (f (gt a i) y).bind (fun r => bif decide (r < 0) then some (-1) else L n r (iAdd .i64 i 1)) else none) else some y) :
    ∀ (n i : Nat) (y : Int), i ≤ a.length → a.length - i < n → ∃ r, L n y (i : Int) = some r := by
  intro n
  induction n with
  | zero => intro i _ _ h; omega
  | succ n ih =>
    intro i y hi hn
    rw [hL]
    rcases Nat.lt_or_ge i a.length with h | h
    · rw [dlt_t h]
      simp only [cond_true]
      obtain ⟨r, hr⟩ := hf _ (gt_mem h) y
      rw [if_pos ⟨by omega, by omega⟩, hr, iAdd1 (by omega)]
      simp only [Option.bind_some]
      cases decide (r < 0) with
      | true => exact ⟨_, rfl⟩
      | false => exact ih (i + 1) r h (by omega)
    · rw [dlt_f h]; exact ⟨_, rfl⟩
theorem i64_id {n : Int} (h0 : -9223372036854775808 ≤ n) (h1 : n ≤ 9223372036854775807) : IntKind.i64.wrap n = n := by rw [IntKind.wrap_i64]; omega
theorem i64_in (n : Int) : -9223372036854775808 ≤ IntKind.i64.wrap n ∧ IntKind.i64.wrap n ≤ 9223372036854775807 := by rw [IntKind.wrap_i64]; omega
theorem cc {α : Type} (b : Bool) (x : α) : (bif b then x else x) = x := by cases b <;> rfl
theorem bne_t {a b : Int} (h : ¬ a = b) : (a != b) = true := by simpa using h
theorem beq_f {a b : Int} (h : ¬ a = b) : (a == b) = false := by simpa using h

/-! ### An integer's bytes are appended -/
theorem putLoop_same (K : Nat) : ∀ (n : Nat) (v : Int) (l : List Int), l_spec_PutVar_6 K n v l = l_impl_PutVar_6 K n v l := by
  intro n
  induction n with
  | zero => intro v l; rfl
  | succ n ih => intro v l; rw [l_spec_PutVar_6, l_impl_PutVar_6, ih]
theorem shr7 {v : Int} (h0 : 0 ≤ v) (h1 : v ≤ 9223372036854775807) : iShr .i64 v 7 = v / 128 := by
  unfold iShr
  have e : ((2 : Int) ^ min (7 : Int).toNat IntKind.i64.bits) = 128 := by decide
  rw [e, Int.fdiv_eq_ediv_of_nonneg _ (by decide)]
theorem putLoop_ok (K : Nat) : ∀ (m n : Nat) (v : Int) (l : List Int), 0 ≤ v → v < 128 ^ m → v ≤ 9223372036854775807 → m ≤ n → l.length + m ≤ 140737488355320 → ∃ r, l_impl_PutVar_6 K (n + 1) v l = some r ∧ r.length ≤ l.length + m + 1 := by
  intro m
  induction m with
  | zero =>
    intro n v l h0 h1 _ _ hl
    have : v = 0 := by simp at h1; omega
    subst this
    refine ⟨l ++ [IntKind.u8.wrap 0], ?_, by simp⟩
    rw [l_impl_PutVar_6]
    have e : decide ((0 : Int) > 127) = false := by decide
    rw [e]
    simp only [cond_false]
    rw [if_pos ⟨by simp; omega, by simp [maxLen]; omega⟩]
  | succ m ih =>
    intro n v l h0 h1 h2 hn hl
    obtain ⟨n, rfl⟩ : ∃ q, n = q + 1 := ⟨n - 1, by omega⟩
    rw [l_impl_PutVar_6]
    by_cases h : v > 127
    · rw [decide_eq_true h]
      simp only [cond_true]
      have hp : (128 : Int) ^ (m + 1) = 128 ^ m * 128 := Int.pow_succ 128 m
      obtain ⟨r, q1, q2⟩ := ih n (v / 128) (l ++ [IntKind.u8.wrap (iOr .i64 (iAnd .i64 v 127) 128)]) (by omega) (by rw [hp] at h1; omega) (by omega) (by omega) (by simp; omega)
      rw [if_pos ⟨by simp; omega, by simp [maxLen]; omega⟩, if_pos (by decide), shr7 h0 h2]
      exact ⟨r, q1, by simp at q2; omega⟩
    · rw [decide_eq_false h]
      simp only [cond_false]
      rw [if_pos ⟨by simp; omega, by simp [maxLen]; omega⟩]
      exact ⟨_, rfl, by simp⟩
theorem clone_ok (K : Nat) {b : List Int} (hl : b.length ≤ 140737488355328) : m_slices_Clone_byte_byte K b = some b := by
  unfold m_slices_Clone_byte_byte
  rw [if_pos ⟨by simp; omega, by simp [maxLen]; omega⟩]
  rfl
theorem putVar_same {K : Nat} (hK : 7 ≤ K) {b : List Int} (hl : b.length ≤ 140737488355000) (n : Int) : ∃ r, m_spec_PutVar K b n = some r ∧ m_impl_PutVar K b n = some r ∧ r.length ≤ b.length + 6 := by
  unfold m_spec_PutVar m_impl_PutVar
  rw [if_pos ⟨by simp; omega, by simp [maxLen]; omega⟩, clone_ok K (by omega)]
  have hw : m_spec_l1In K n 0 1000000000 = m_impl_within K n 0 1000000000 := rfl
  have hr : m_impl_within K n 0 1000000000 = some (decide (0 ≤ n ∧ n ≤ 1000000000)) := by
    unfold m_impl_within
    by_cases h : n ≥ 0
    · rw [decide_eq_true h]
      simp only [cond_true, Option.some.injEq, decide_eq_decide]
      omega
    · rw [decide_eq_false h]
      simp only [cond_false, Option.some.injEq]
      exact (decide_eq_false (by omega)).symm
  rw [hw, hr]
  simp only [Option.bind_some, putLoop_same, List.nil_append]
  by_cases h : 0 ≤ n ∧ n ≤ 1000000000
  · rw [decide_eq_true h]
    obtain ⟨q, rfl⟩ : ∃ q, K = q + 1 := ⟨K - 1, by omega⟩
    have hp : (128 : Int) ^ 5 = 34359738368 := by decide
    obtain ⟨r, h1, h2⟩ := putLoop_ok (q + 1) 5 q n b h.1 (by rw [hp]; omega) (by omega) (by omega) (by omega)
    exact ⟨r, h1, h1, h2⟩
  · rw [decide_eq_false h]
    simp only [cond_false]
    exact ⟨b, rfl, rfl, by omega⟩

/-! ### Varints: what is written, what is read -/
theorem iAnd127 {v : Int} (h0 : 0 ≤ v) (h1 : v ≤ 9223372036854775807) : iAnd .i64 v 127 = v % 128 := by
  obtain ⟨n, rfl⟩ : ∃ n : Nat, v = n := ⟨v.toNat, by omega⟩
  unfold iAnd
  have e : (BitVec.ofInt IntKind.i64.bits (n : Int) &&& BitVec.ofInt IntKind.i64.bits 127).toNat = n % 128 := by
    show (BitVec.ofInt 64 (n : Int) &&& BitVec.ofInt 64 ((127 : Nat) : Int)).toNat = n % 128
    rw [BitVec.ofInt_natCast, BitVec.ofInt_natCast, BitVec.toNat_and, BitVec.toNat_ofNat, BitVec.toNat_ofNat]
    have := Nat.and_two_pow_sub_one_eq_mod (n % 2 ^ 64) 7
    have e2 : (127 : Nat) % 2 ^ 64 = 2 ^ 7 - 1 := by decide
    rw [e2, this]
    omega
  rw [e, i64_id (by omega) (by omega)]
  omega
theorem iOr_add {v w : Nat} (i : Nat) (hv : v < 2 ^ i) (hs : v + 2 ^ i * w ≤ 9223372036854775807) : iOr .i64 (v : Int) ((2 ^ i * w : Nat) : Int) = ((v + 2 ^ i * w : Nat) : Int) := by
  unfold iOr
  have e : (BitVec.ofInt IntKind.i64.bits (v : Int) ||| BitVec.ofInt IntKind.i64.bits ((2 ^ i * w : Nat) : Int)).toNat = v + 2 ^ i * w := by
    show (BitVec.ofInt 64 (v : Int) ||| BitVec.ofInt 64 ((2 ^ i * w : Nat) : Int)).toNat = _
    rw [BitVec.ofInt_natCast, BitVec.ofInt_natCast, BitVec.toNat_or, BitVec.toNat_ofNat, BitVec.toNat_ofNat, Nat.mod_eq_of_lt (by omega), Nat.mod_eq_of_lt (by omega), Nat.or_comm]
    have := Nat.two_pow_add_eq_or_of_lt hv w
    rw [← this]
    omega
  rw [e, i64_id (by omega) (by omega)]
def enc : Nat → Int → List Int
  | 0, v => [v]
  | f + 1, v => if v > 127 then (v % 128 + 128) :: enc f (v / 128) else [v]
theorem enc_len : ∀ (f : Nat) (v : Int), (enc f v).length ≤ f + 1 := by
  intro f
  induction f with
  | zero => intro v; exact Nat.le_refl _
  | succ f ih =>
    intro v
    unfold enc
    split
    · simp only [List.length_cons]; have := ih (v / 128); omega
    · simp
theorem low_byte {v : Int} (h0 : 0 ≤ v) (h1 : v ≤ 9223372036854775807) : IntKind.u8.wrap (iOr .i64 (iAnd .i64 v 127) 128) = v % 128 + 128 := by
  rw [iAnd127 h0 h1]
  obtain ⟨n, hn⟩ : ∃ n : Nat, v % 128 = n := ⟨(v % 128).toNat, by omega⟩
  rw [hn]
  have := iOr_add (v := n) (w := 1) 7 (by omega) (by omega)
  rw [show (128 : Int) = ((2 ^ 7 * 1 : Nat) : Int) from by decide, this, IntKind.wrap_u8]
  omega
theorem wrap_byte {v : Int} (h0 : 0 ≤ v) (h1 : v ≤ 255) : IntKind.u8.wrap v = v := by rw [IntKind.wrap_u8]; omega
theorem putLoop_enc (K : Nat) : ∀ (m n : Nat) (v : Int) (l : List Int), 0 ≤ v → v < 128 ^ m → v ≤ 9223372036854775807 → m ≤ n → l.length + m ≤ 140737488355320 → l_impl_PutVar_6 K (n + 1) v l = some (l ++ enc m v) := by
  intro m
  induction m with
  | zero =>
    intro n v l h0 h1 _ _ hl
    have : v = 0 := by simp at h1; omega
    subst this
    rw [l_impl_PutVar_6]
    have e : decide ((0 : Int) > 127) = false := by decide
    rw [e]
    simp only [cond_false]
    rw [if_pos ⟨by simp; omega, by simp [maxLen]; omega⟩]
    rfl
  | succ m ih =>
    intro n v l h0 h1 h2 hn hl
    obtain ⟨n, rfl⟩ : ∃ q, n = q + 1 := ⟨n - 1, by omega⟩
    rw [l_impl_PutVar_6, enc]
    by_cases h : v > 127
    · rw [decide_eq_true h, if_pos h]
      simp only [cond_true]
      have hp : (128 : Int) ^ (m + 1) = 128 ^ m * 128 := Int.pow_succ 128 m
      rw [low_byte h0 h2, if_pos ⟨by simp; omega, by simp [maxLen]; omega⟩, if_pos (by decide), shr7 h0 h2, ih n (v / 128) (l ++ [v % 128 + 128]) (by omega) (by rw [hp] at h1; omega) (by omega) (by omega) (by simp; omega)]
      simp
    · rw [decide_eq_false h, if_neg h]
      simp only [cond_false]
      rw [wrap_byte h0 (by omega), if_pos ⟨by simp; omega, by simp [maxLen]; omega⟩]
theorem in_eq (K : Nat) (n : Int) : m_impl_within K n 0 1000000000 = some (decide (0 ≤ n ∧ n ≤ 1000000000)) := by
  unfold m_impl_within
  by_cases h : n ≥ 0
  · rw [decide_eq_true h]
    simp only [cond_true, Option.some.injEq, decide_eq_decide]
    omega
  · rw [decide_eq_false h]
    simp only [cond_false, Option.some.injEq]
    exact (decide_eq_false (by omega)).symm
def putL1 (b : List Int) (n : Int) : List Int := if 0 ≤ n ∧ n ≤ 1000000000 then b ++ enc 5 n else b
theorem putVar_impl {K : Nat} (hK : 7 ≤ K) {b : List Int} (hl : b.length ≤ 140737488355000) (n : Int) : m_impl_PutVar K b n = some (putL1 b n) := by
  unfold m_impl_PutVar putL1
  rw [clone_ok K (by omega), in_eq]
  simp only [Option.bind_some]
  by_cases h : 0 ≤ n ∧ n ≤ 1000000000
  · rw [decide_eq_true h, if_pos h]
    obtain ⟨q, rfl⟩ : ∃ q, K = q + 1 := ⟨K - 1, by omega⟩
    have hp : (128 : Int) ^ 5 = 34359738368 := by decide
    exact putLoop_enc (q + 1) 5 q n b h.1 (by rw [hp]; omega) (by omega) (by omega) (by omega)
  · rw [decide_eq_false h, if_neg h]; rfl

def val : List Int → Int
  | [] => 0
  | x :: r => x % 128 + 128 * val r
theorem val_nonneg : ∀ l : List Int, 0 ≤ val l := by
  intro l
  induction l with
  | nil => exact Int.le_refl _
  | cons x r ih => unfold val; omega
theorem val_append (l : List Int) (x : Int) : val (l ++ [x]) = val l + 128 ^ l.length * (x % 128) := by
  induction l with
  | nil => simp [val]
  | cons y r ih =>
    simp only [List.cons_append, val, List.length_cons, ih, Int.pow_succ]
    rw [Int.mul_add]
    have : 128 * (128 ^ r.length * (x % 128)) = 128 ^ r.length * 128 * (x % 128) := by
      rw [← Int.mul_assoc, Int.mul_comm 128 (128 ^ r.length)]
    omega
theorem val_lt : ∀ l : List Int, val l < 128 ^ l.length := by
  intro l
  induction l with
  | nil => simp [val]
  | cons x r ih =>
    simp only [val, List.length_cons, Int.pow_succ]
    omega
/-- A number's bytes, the last of them not 0. -/
def canS : List Int → Prop
  | [] => False
  | [x] => 1 ≤ x ∧ x ≤ 127
  | x :: y :: r => (128 ≤ x ∧ x ≤ 255) ∧ canS (y :: r)
def can (l : List Int) : Prop := (∃ x, l = [x] ∧ 0 ≤ x ∧ x ≤ 127) ∨ canS l
theorem canS_pos : ∀ l : List Int, canS l → 1 ≤ val l := by
  intro l
  induction l with
  | nil => intro h; cases h
  | cons x r ih =>
    intro h
    cases r with
    | nil => simp only [canS] at h; simp only [val]; omega
    | cons y r => have := ih h.2; have h2 := h.1; unfold val; omega
theorem enc_canS : ∀ (f : Nat) (l : List Int), canS l → l.length ≤ f + 1 → enc f (val l) = l := by
  intro f
  induction f with
  | zero =>
    intro l h hl
    cases l with
    | nil => cases h
    | cons x r =>
      cases r with
      | nil =>
        simp only [canS] at h
        have e : val [x] = x := by simp only [val]; omega
        rw [e, enc]
      | cons y r => simp at hl
  | succ f ih =>
    intro l h hl
    cases l with
    | nil => cases h
    | cons x r =>
      cases r with
      | nil =>
        simp only [canS] at h
        have e : val [x] = x := by simp only [val]; omega
        rw [e, enc, if_neg (by omega)]
      | cons y r =>
        have hp := canS_pos _ h.2
        have h2 := h.1
        have e : val (x :: y :: r) = x % 128 + 128 * val (y :: r) := rfl
        rw [e, enc, if_pos (by omega)]
        rw [show (x % 128 + 128 * val (y :: r)) % 128 + 128 = x from by omega, show (x % 128 + 128 * val (y :: r)) / 128 = val (y :: r) from by omega, ih _ h.2 (by simp at hl ⊢; omega)]
theorem enc_can {l : List Int} (h : can l) (hl : l.length ≤ 6) : enc 5 (val l) = l := by
  rcases h with ⟨x, rfl, h0, h1⟩ | h
  · have e : val [x] = x := by simp only [val]; omega
    rw [e, enc, if_neg (by omega)]
  · exact enc_canS 5 l h hl
theorem canS_append : ∀ (l : List Int) (x : Int), (∀ y ∈ l, 128 ≤ y ∧ y ≤ 255) → 1 ≤ x → x ≤ 127 → canS (l ++ [x]) := by
  intro l
  induction l with
  | nil => intro x _ h0 h1; exact ⟨h0, h1⟩
  | cons y r ih =>
    intro x hy h0 h1
    have h2 := ih x (fun z hz => hy z (by simp [hz])) h0 h1
    cases r with
    | nil => exact ⟨hy y (by simp), h2⟩
    | cons z r => exact ⟨hy y (by simp), h2⟩
theorem and127 {b : Int} (h0 : 0 ≤ b) (h1 : b ≤ 255) : IntKind.i64.wrap (iAnd .u8 b 127) = b % 128 := by
  have key : ∀ n : Fin 256, IntKind.i64.wrap (iAnd .u8 (n.val : Int) 127) = (n.val : Int) % 128 := by decide +kernel
  have := key ⟨b.toNat, by omega⟩
  have e : ((b.toNat : Nat) : Int) = b := by omega
  simpa [e] using this
theorem join_val {v : Int} {pre : List Int} (hv : v = val pre) {k : Nat} (hk : pre.length = k) (h4 : k ≤ 4) (x : Int) : iOr .i64 v (iShl .i64 (x % 128) (7 * (k : Int))) = val (pre ++ [x]) := by
  subst hk
  obtain ⟨m, hm⟩ : ∃ m : Nat, x % 128 = m := ⟨(x % 128).toNat, by omega⟩
  obtain ⟨n, hn⟩ : ∃ n : Nat, val pre = n := ⟨(val pre).toNat, by have := val_nonneg pre; omega⟩
  have hlt := val_lt pre
  have e7 : (128 : Nat) ^ pre.length = 2 ^ (7 * pre.length) := by rw [Nat.pow_mul]
  have hb : 2 ^ (7 * pre.length) ≤ 268435456 := by
    have : 2 ^ (7 * pre.length) ≤ 2 ^ 28 := Nat.pow_le_pow_right (by decide) (by omega)
    simpa using this
  have hlt2 : n < 2 ^ (7 * pre.length) := by
    rw [← e7]
    have : ((n : Nat) : Int) < ((128 ^ pre.length : Nat) : Int) := by rw [← hn]; push_cast; exact hlt
    exact Int.ofNat_lt.1 this
  have hmm : m ≤ 127 := by omega
  have hprod : 2 ^ (7 * pre.length) * m ≤ 268435456 * 127 := Nat.mul_le_mul hb hmm
  have es : iShl .i64 (x % 128) (7 * (pre.length : Int)) = ((2 ^ (7 * pre.length) * m : Nat) : Int) := by
    unfold iShl
    have e1 : min (7 * (pre.length : Int)).toNat IntKind.i64.bits = 7 * pre.length := by
      have : (7 * (pre.length : Int)).toNat = 7 * pre.length := by omega
      rw [this]
      exact Nat.min_eq_left (by show 7 * pre.length ≤ 64; omega)
    rw [e1, hm]
    have e2 : ((m : Nat) : Int) * 2 ^ (7 * pre.length) = ((2 ^ (7 * pre.length) * m : Nat) : Int) := by push_cast; rw [Int.mul_comm]
    rw [e2, i64_id (by omega) (by omega)]
  rw [es, hv, hn, iOr_add (7 * pre.length) hlt2 (by omega), val_append, hn, hm]
  push_cast
  rw [show (128 : Int) ^ pre.length = 2 ^ (7 * pre.length) from by have := congrArg (fun q : Nat => (q : Int)) e7; push_cast at this; exact this]
theorem gt_byte {a : List Int} (h : ∀ x ∈ a, 0 ≤ x ∧ x ≤ 255) {i : Nat} (hi : i < a.length) : 0 ≤ gt a (i : Int) ∧ gt a (i : Int) ≤ 255 := h _ (gt_mem hi)
theorem take_next {a : List Int} {p k : Nat} (h : p + k < a.length) : (a.drop p).take (k + 1) = (a.drop p).take k ++ [gt a ((p + k : Nat) : Int)] := by
  rw [gt_nat h, List.take_succ_eq_append_getElem (by simp; omega)]
  simp
def readOk (a : List Int) (p : Nat) (r : Int × Int × Bool) : Prop :=
  r = (0, 0, false) ∨ ∃ l, can l ∧ l.length ≤ 5 ∧ p + l.length ≤ a.length ∧ (a.drop p).take l.length = l ∧ r = (val l, ((p + l.length : Nat) : Int), true) ∧ val l ≤ 1000000000
theorem getVar_loop (K : Nat) (a : List Int) (hb : ∀ x ∈ a, 0 ≤ x ∧ x ≤ 255) (ha : a.length ≤ 140737488355000) (p : Nat) (hp : p < a.length) : ∀ (n i : Nat) (v : Int), i ≤ 5 → 5 - i < n → p + i ≤ a.length → v = val ((a.drop p).take i) → (∀ x ∈ (a.drop p).take i, 128 ≤ x ∧ x ≤ 255) →
    ∃ r, l_spec_GetVar_3 K a (p : Int) n v (i : Int) = some r ∧ l_impl_GetVar_5 K a (p : Int) n v (i : Int) = some r ∧ readOk a p r := by
  intro n
  induction n with
  | zero => intro i v _ h; omega
  | succ n ih =>
    intro i v hi hn hpi hv hall
    rw [l_spec_GetVar_3, l_impl_GetVar_5]
    unfold j_spec_GetVar_10 j_impl_GetVar_10
    have e1 : iAdd .i64 (p : Int) (i : Int) = ((p + i : Nat) : Int) := by unfold iAdd; rw [i64_id (by omega) (by omega)]; omega
    have e2 : iSub .i64 (a.length : Int) (i : Int) = (a.length : Int) - i := by unfold iSub; rw [i64_id (by omega) (by omega)]
    have e3 : iSub .i64 (a.length : Int) (p : Int) = (a.length : Int) - p := by unfold iSub; rw [i64_id (by omega) (by omega)]
    have e4 : iMul .i64 7 (i : Int) = 7 * i := by unfold iMul; rw [i64_id (by omega) (by omega)]
    have e5 : IntKind.u64.wrap (7 * (i : Int)) = 7 * i := by rw [IntKind.wrap_u64]; omega
    have e6 : iAdd .i64 (i : Int) 1 = ((i + 1 : Nat) : Int) := iAdd1 (by omega)
    have e7 : iAdd .i64 ((p + i : Nat) : Int) 1 = ((p + (i + 1) : Nat) : Int) := by unfold iAdd; rw [i64_id (by omega) (by omega)]; omega
    rw [e1, e2, e3, e4, e5, e6, e7]
    have d1 : decide ((p : Int) < 0) = false := by simp
    rw [d1]
    simp only [cond_false]
    have hlen : ((a.drop p).take i).length = i := by simp; omega
    rcases Nat.lt_or_ge i 5 with h5 | h5
    · have d2 : decide ((i : Int) < 5) = true := by simp; omega
      rw [d2]
      simp only [cond_true]
      rcases Nat.lt_or_ge (p + i) a.length with hl | hl
      · have d3 : decide ((p : Int) ≥ (a.length : Int) - i) = false := by simp; omega
        have d4 : decide ((i : Int) < iMin 5 ((a.length : Int) - p)) = true := by unfold iMin; split <;> simp <;> omega
        rw [d3, d4]
        simp only [cond_true, cond_false]
        obtain ⟨g0, g1⟩ := gt_byte hb hl
        have ht := take_next hl
        rw [if_pos ⟨by omega, by omega⟩, if_pos (by omega), if_pos ⟨by omega, by omega⟩, if_pos (by omega)]
        generalize hx : gt a ((p + i : Nat) : Int) = b at g0 g1 ht
        rw [i64_id (by omega) (by omega), and127 g0 g1, iAnd127 g0 (by omega), join_val hv hlen (by omega) b, ← ht]
        by_cases c1 : b < 128
        · rw [decide_eq_true c1]
          simp only [cond_true]
          have hlen1 : ((a.drop p).take (i + 1)).length = i + 1 := by simp; omega
          have good : (i = 0 ∨ b ≠ 0) → val ((a.drop p).take (i + 1)) ≤ 1000000000 → readOk a p (val ((a.drop p).take (i + 1)), ((p + (i + 1) : Nat) : Int), true) := by
            intro h0 hle
            refine .inr ⟨(a.drop p).take (i + 1), ?_, by omega, by omega, by rw [hlen1], by rw [hlen1], hle⟩
            rw [ht]
            rcases h0 with h0 | h0
            · subst h0; exact .inl ⟨b, by simp, g0, by omega⟩
            · exact .inr (canS_append _ b hall (by omega) (by omega))
          by_cases c2 : (i : Int) > 0
          · rw [decide_eq_true c2]
            by_cases c3 : b = 0
            · rw [c3]; exact ⟨_, rfl, rfl, .inl rfl⟩
            · rw [beq_f c3]
              by_cases c4 : val ((a.drop p).take (i + 1)) > 1000000000
              · rw [decide_eq_true c4]; exact ⟨_, rfl, rfl, .inl rfl⟩
              · rw [decide_eq_false c4]; exact ⟨_, rfl, rfl, good (.inr c3) (by omega)⟩
          · rw [decide_eq_false c2]
            by_cases c4 : val ((a.drop p).take (i + 1)) > 1000000000
            · rw [decide_eq_true c4]
              cases b == 0 <;> exact ⟨_, rfl, rfl, .inl rfl⟩
            · rw [decide_eq_false c4]
              cases b == 0 <;> exact ⟨_, rfl, rfl, good (.inl (by omega)) (by omega)⟩
        · rw [decide_eq_false c1]
          simp only [cond_false]
          refine ih (i + 1) _ (by omega) (by omega) (by omega) rfl ?_
          rw [ht]
          intro x hx2
          rcases List.mem_append.1 hx2 with h | h
          · exact hall x h
          · simp only [List.mem_singleton] at h; subst h; exact ⟨by omega, g1⟩
      · have d3 : decide ((p : Int) ≥ (a.length : Int) - i) = true := by simp; omega
        have d4 : decide ((i : Int) < iMin 5 ((a.length : Int) - p)) = false := by unfold iMin; split <;> simp <;> omega
        rw [d3, d4]
        exact ⟨_, rfl, rfl, .inl rfl⟩
    · have d2 : decide ((i : Int) < 5) = false := by simp; omega
      have d4 : decide ((i : Int) < iMin 5 ((a.length : Int) - p)) = false := by unfold iMin; split <;> simp <;> omega
      rw [d2, d4]
      exact ⟨_, rfl, rfl, .inl rfl⟩
theorem getVar_same {K : Nat} (hK : 6 ≤ K) (a : List Int) (hb : ∀ x ∈ a, 0 ≤ x ∧ x ≤ 255) (ha : a.length ≤ 140737488355000) (p : Int) : ∃ r, m_spec_GetVar K a p = some r ∧ m_impl_GetVar K a p = some r ∧ (r = (0, 0, false) ∨ (0 ≤ p ∧ readOk a p.toNat r)) := by
  unfold m_spec_GetVar m_impl_GetVar m_impl_within
  have e3 : iSub .i64 (a.length : Int) 1 = (a.length : Int) - 1 := by unfold iSub; rw [i64_id (by omega) (by omega)]
  have e2 : iSub .i64 (a.length : Int) 0 = (a.length : Int) := by unfold iSub; rw [i64_id (by omega) (by omega)]; omega
  rw [e3]
  by_cases h : 0 ≤ p ∧ p < a.length
  · obtain ⟨q, rfl⟩ : ∃ q : Nat, p = q := ⟨p.toNat, by omega⟩
    have d1 : decide ((q : Int) ≥ 0) = true := by simp
    have d2 : decide ((q : Int) ≤ (a.length : Int) - 1) = true := by simp; omega
    rw [d1, d2]
    simp only [cond_true, Option.bind_some]
    obtain ⟨r, h1, h2, h3⟩ := getVar_loop K a hb ha q (by omega) K 0 0 (by omega) (by omega) (by omega) (by simp [val]) (by simp)
    exact ⟨r, h1, h2, .inr ⟨by omega, by simpa using h3⟩⟩
  · obtain ⟨n, rfl⟩ : ∃ n, K = n + 1 := ⟨K - 1, by omega⟩
    refine ⟨(0, 0, false), ?_, ?_, .inl rfl⟩
    · rw [l_spec_GetVar_3, e2]
      have d2 : decide ((0 : Int) < 5) = true := by decide
      rw [d2]
      simp only [cond_true]
      by_cases c : p < 0
      · rw [decide_eq_true c]; rfl
      · rw [decide_eq_false c, decide_eq_true (show p ≥ (a.length : Int) by omega)]; rfl
    · by_cases c : p ≥ 0
      · rw [decide_eq_true c]
        simp only [cond_true]
        rw [decide_eq_false (show ¬ p ≤ (a.length : Int) - 1 by omega)]; rfl
      · rw [decide_eq_false c]; rfl

def e1 (n : Int) : List Int := if 0 ≤ n ∧ n ≤ 1000000000 then enc 5 n else []
theorem e1_len (n : Int) : (e1 n).length ≤ 6 := by
  unfold e1
  split
  · exact enc_len 5 n
  · exact Nat.zero_le _
theorem putL1_e1 (b : List Int) (n : Int) : putL1 b n = b ++ e1 n := by
  unfold putL1 e1
  split <;> simp
theorem val_enc : ∀ (f : Nat) (v : Int), 0 ≤ v → v < 128 ^ (f + 1) → val (enc f v) = v := by
  intro f
  induction f with
  | zero => intro v h0 h1; simp at h1; simp only [enc, val]; omega
  | succ f ih =>
    intro v h0 h1
    have hp : (128 : Int) ^ (f + 1 + 1) = 128 ^ (f + 1) * 128 := Int.pow_succ 128 (f + 1)
    rw [hp] at h1
    unfold enc
    split
    · have := ih (v / 128) (by omega) (by omega)
      simp only [val, this]; omega
    · simp only [val]; omega
theorem enc_byte : ∀ (f : Nat) (v : Int), 0 ≤ v → v < 128 ^ (f + 1) → ∀ x ∈ enc f v, 0 ≤ x ∧ x ≤ 255 := by
  intro f
  induction f with
  | zero => intro v h0 h1 x hx; simp at h1; simp only [enc, List.mem_singleton] at hx; omega
  | succ f ih =>
    intro v h0 h1 x hx
    have hp : (128 : Int) ^ (f + 1 + 1) = 128 ^ (f + 1) * 128 := Int.pow_succ 128 (f + 1)
    rw [hp] at h1
    unfold enc at hx
    split at hx
    · rcases List.mem_cons.1 hx with rfl | hx
      · omega
      · exact ih (v / 128) (by omega) (by omega) x hx
    · simp only [List.mem_singleton] at hx; omega
theorem e1_byte (n : Int) : ∀ x ∈ e1 n, 0 ≤ x ∧ x ≤ 255 := by
  unfold e1
  split
  · exact enc_byte 5 n (by omega) (by have : (128 : Int) ^ (5 + 1) = 4398046511104 := by decide
                                      omega)
  · intro x hx; cases hx

/-! ### Draws -/
def bytesP (a : List Int) : Prop := ∀ x ∈ a, 0 ≤ x ∧ x ≤ 255
theorem bytesP_app {a b : List Int} (h : bytesP a) (g : bytesP b) : bytesP (a ++ b) := by
  intro x hx
  rcases List.mem_append.1 hx with h1 | h1
  · exact h x h1
  · exact g x h1
def curOk (c : T_spec_l1Cur) : Prop := bytesP c.fb ∧ c.fb.length ≤ 1048576 ∧ 0 ≤ c.fi ∧ c.fi ≤ (c.fb.length : Int)
theorem iAnd255 (x : Int) : 0 ≤ iAnd .i64 x 255 ∧ iAnd .i64 x 255 ≤ 255 := by
  unfold iAnd
  have e : (BitVec.ofInt IntKind.i64.bits x &&& BitVec.ofInt IntKind.i64.bits 255).toNat ≤ 255 := by
    rw [BitVec.toNat_and]
    exact Nat.le_trans Nat.and_le_right (by decide)
  rw [i64_id (by omega) (by omega)]
  omega
theorem l1New_loop (K : Nat) {a : List Int} (hb : bytesP a) (ha : a.length ≤ 1048576) : ∀ (n i : Nat) (v : Int), i ≤ a.length → a.length - i < n → ∃ c, l_spec_l1New_3 K a n v (i : Int) = some c ∧ curOk c := by
  intro n
  induction n with
  | zero => intro i _ _ h; omega
  | succ n ih =>
    intro i v hi hn
    rw [l_spec_l1New_3]
    have done : ∀ v, curOk (T_spec_l1Cur.mk a 0 v) := fun v => ⟨hb, ha, by show (0 : Int) ≤ 0; omega, by show (0 : Int) ≤ _; omega⟩
    rcases Nat.lt_or_ge i a.length with h | h
    · rw [dlt_t h]
      simp only [cond_true]
      cases decide ((i : Int) < 4000) with
      | false => exact ⟨_, rfl, done _⟩
      | true =>
        simp only [cond_true]
        rw [if_pos ⟨by omega, by omega⟩, iAdd1 (i := i) (by omega)]
        exact ih (i + 1) _ h (by omega)
    · rw [dlt_f h]; exact ⟨_, rfl, done _⟩
theorem l1New_ok {K : Nat} (hK : 281474976710656 ≤ K) {a : List Int} (hb : bytesP a) (ha : a.length ≤ 1048576) : ∃ c, m_spec_l1New K a = some c ∧ curOk c := by
  unfold m_spec_l1New
  exact l1New_loop K hb ha K 0 _ (Nat.zero_le _) (by omega)
theorem l1Byte_ok (K : Nat) {c : T_spec_l1Cur} (hc : curOk c) : ∃ r, m_spec_l1ByteW K c = some r ∧ (0 ≤ r.1 ∧ r.1 ≤ 255) ∧ curOk r.2 := by
  obtain ⟨h1, h2, h3, h4⟩ := hc
  unfold m_spec_l1ByteW j_spec_l1ByteW_3
  rw [if_pos (by decide), if_pos (by decide)]
  by_cases h : c.fi < (c.fb.length : Int)
  · rw [decide_eq_true h]
    simp only [cond_true]
    rw [if_pos ⟨h3, h⟩]
    have e : iAdd .i64 c.fi 1 = c.fi + 1 := by unfold iAdd; rw [i64_id (by omega) (by omega)]
    exact ⟨_, rfl, iAnd255 _, h1, h2, by show (0 : Int) ≤ iAdd .i64 c.fi 1; omega, by show iAdd .i64 c.fi 1 ≤ (c.fb.length : Int); omega⟩
  · rw [decide_eq_false h]
    exact ⟨_, rfl, iAnd255 _, h1, h2, h3, h4⟩
theorem l1Below_ok (K : Nat) {c : T_spec_l1Cur} (hc : curOk c) {n : Int} (hn : 0 < n) : ∃ r, m_spec_l1BelowW K c n = some r ∧ (0 ≤ r.1 ∧ r.1 < n) ∧ curOk r.2 := by
  unfold m_spec_l1BelowW
  rw [decide_eq_false (show ¬ n ≤ 0 by omega)]
  simp only [cond_false]
  obtain ⟨r1, e1, b1, w1⟩ := l1Byte_ok K hc
  by_cases h : n ≤ 256
  · rw [decide_eq_true h, e1]
    simp only [cond_true, Option.bind_some]
    rw [if_pos (by omega)]
    exact ⟨_, rfl, ⟨Int.tmod_nonneg _ b1.1, Int.tmod_lt_of_pos _ hn⟩, w1⟩
  · rw [decide_eq_false h, e1]
    simp only [cond_false, Option.bind_some]
    obtain ⟨r2, e2, b2, w2⟩ := l1Byte_ok K w1
    rw [e2]
    simp only [Option.bind_some]
    obtain ⟨r3, e3, b3, w3⟩ := l1Byte_ok K w2
    rw [e3]
    simp only [Option.bind_some]
    rw [if_pos (by omega)]
    refine ⟨_, rfl, ⟨Int.tmod_nonneg _ ?_, Int.tmod_lt_of_pos _ hn⟩, w3⟩
    unfold iAdd iMul
    rw [i64_id (n := r1.1 * 65536) (by omega) (by omega), i64_id (n := r2.1 * 256) (by omega) (by omega), i64_id (n := r1.1 * 65536 + r2.1 * 256) (by omega) (by omega), i64_id (by omega) (by omega)]
    omega
theorem l1Once_ok (K : Nat) {c : T_spec_l1Cur} (hc : curOk c) {n : Int} (hn : 0 < n) : ∃ r, m_spec_l1OnceW K c n = some r ∧ curOk r.2 := by
  obtain ⟨r, e, _, w⟩ := l1Below_ok K hc hn
  unfold m_spec_l1OnceW
  rw [e]
  exact ⟨_, rfl, w⟩
theorem l1Int_ok (K : Nat) {c : T_spec_l1Cur} (hc : curOk c) {l : List Int} (hl : 0 < l.length) : ∃ r, m_spec_l1IntW K c l = some r ∧ r.1 ∈ l ∧ curOk r.2 := by
  obtain ⟨r, e, b, w⟩ := l1Below_ok K hc (n := (l.length : Int)) (by omega)
  unfold m_spec_l1IntW
  rw [e]
  simp only [Option.bind_some]
  rw [if_pos b]
  exact ⟨_, rfl, gt_memI b.1 b.2, w⟩
theorem l1Odd_ok (K : Nat) {c : T_spec_l1Cur} (hc : curOk c) : ∃ r, m_spec_l1OddW K c = some r ∧ curOk r.2 := by
  unfold m_spec_l1OddW
  obtain ⟨r, e, _, w⟩ := l1Int_ok K hc (l := [(-1), 0, 1, 2, 255, 256, 65535, 2147483647, 2147483648, 4294967295, 4294967296, (-2147483648), 9223372036854775807, (-9223372036854775808)]) (by simp)
  rw [e]
  exact ⟨_, rfl, w⟩
theorem l1Raw_ok (K : Nat) {c : T_spec_l1Cur} (hc : curOk c) : ∃ r, m_spec_l1RawW K c = some r ∧ curOk r.2 := by
  unfold m_spec_l1RawW
  obtain ⟨r, e, w⟩ := l1Once_ok K hc (n := 2) (by omega)
  rw [e]
  simp only [Option.bind_some]
  cases r.1 with
  | true =>
    obtain ⟨q, e2, w2⟩ := l1Odd_ok K w
    rw [e2]
    exact ⟨_, rfl, w2⟩
  | false =>
    obtain ⟨q, e2, _, w2⟩ := l1Int_ok K w (l := [(-1), 1000000000, 1000000001]) (by simp)
    rw [e2]
    exact ⟨_, rfl, w2⟩
theorem l1Num_ok (K : Nat) {c : T_spec_l1Cur} (hc : curOk c) : ∃ r, m_spec_l1NumW K c = some r ∧ curOk r.2 := by
  unfold m_spec_l1NumW
  obtain ⟨r, e, _, w⟩ := l1Below_ok K hc (n := 4) (by omega)
  rw [e]
  simp only [Option.bind_some]
  cases r.1 == 0 with
  | true =>
    obtain ⟨q, e2, _, w2⟩ := l1Below_ok K w (n := 2000) (by omega)
    rw [e2]; exact ⟨_, rfl, w2⟩
  | false =>
    cases r.1 == 1 with
    | true =>
      obtain ⟨q, e2, _, w2⟩ := l1Int_ok K w (l := [0, 1, 7, 8, 9, 1000000000]) (by simp)
      rw [e2]; exact ⟨_, rfl, w2⟩
    | false =>
      cases r.1 == 2 with
      | true =>
        obtain ⟨q, e2, _, w2⟩ := l1Below_ok K w (n := 40000) (by omega)
        obtain ⟨q3, e3, _, w3⟩ := l1Below_ok K w2 (n := 25000) (by omega)
        simp only [cond_true, cond_false, e2, Option.bind_some, e3]
        exact ⟨_, rfl, w3⟩
      | false =>
        obtain ⟨q, e2, _, w2⟩ := l1Below_ok K w (n := 20) (by omega)
        rw [e2]; exact ⟨_, rfl, w2⟩
theorem l1One_ok (K : Nat) {c : T_spec_l1Cur} (hc : curOk c) : ∃ r, m_spec_l1OneW K c = some r ∧ curOk r.2 := by
  unfold m_spec_l1OneW
  obtain ⟨r, e, w⟩ := l1Once_ok K hc (n := 6) (by omega)
  rw [e]
  simp only [Option.bind_some]
  cases r.1 with
  | true =>
    obtain ⟨q, e2, w2⟩ := l1Raw_ok K w
    rw [e2]; exact ⟨_, rfl, w2⟩
  | false =>
    obtain ⟨q, e2, w2⟩ := l1Num_ok K w
    rw [e2]; exact ⟨_, rfl, w2⟩
theorem l1Bytes_loop (K : Nat) {m : Nat} (hm : m ≤ 1000) : ∀ (n i : Nat) (l : List Int) (c : T_spec_l1Cur), curOk c → bytesP l → l.length = i → i ≤ m → m - i < n → ∃ r, l_spec_l1BytesW_6 K (m : Int) n l (i : Int) c.fb c.fi c.fh = some r ∧ bytesP r.1 ∧ r.1.length = m ∧ curOk r.2 := by
  intro n
  induction n with
  | zero => intro i l c _ _ _ _ h; omega
  | succ n ih =>
    intro i l c hc hb hl hi hn
    rw [l_spec_l1BytesW_6]
    rcases Nat.lt_or_ge i m with h | h
    · rw [dlt_t h]
      simp only [cond_true]
      obtain ⟨r, e, b, w⟩ := l1Byte_ok K hc
      rw [show T_spec_l1Cur.mk c.fb c.fi c.fh = c from rfl, e]
      simp only [Option.bind_some]
      rw [if_pos ⟨by simp; omega, by simp [maxLen]; omega⟩, iAdd1 (i := i) (by omega)]
      refine ih (i + 1) _ r.2 w (bytesP_app hb ?_) (by simp [hl]) h (by omega)
      intro x hx
      simp only [List.mem_singleton] at hx
      subst hx
      rw [wrap_byte b.1 b.2]; exact b
    · rw [dlt_f h]
      exact ⟨_, rfl, hb, by show l.length = m; omega, hc⟩
theorem l1Bytes_ok {K : Nat} (hK : 281474976710656 ≤ K) {c : T_spec_l1Cur} (hc : curOk c) {n : Int} (h0 : 0 ≤ n) (h1 : n ≤ 1000) : ∃ r, m_spec_l1BytesW K c n = some r ∧ bytesP r.1 ∧ (r.1.length : Int) = n ∧ curOk r.2 := by
  obtain ⟨m, rfl⟩ : ∃ m : Nat, n = m := ⟨n.toNat, by omega⟩
  obtain ⟨r, e, b, l, w⟩ := l1Bytes_loop K (m := m) (by omega) K 0 [] c hc (fun x hx => by cases hx) rfl (Nat.zero_le _) (by omega)
  exact ⟨r, e, b, by omega, w⟩

theorem enc_canS2 : ∀ (f : Nat) (v : Int), 1 ≤ v → v < 128 ^ (f + 1) → canS (enc f v) := by
  intro f
  induction f with
  | zero => intro v h0 h1; simp at h1; exact ⟨h0, by omega⟩
  | succ f ih =>
    intro v h0 h1
    have hp : (128 : Int) ^ (f + 1 + 1) = 128 ^ (f + 1) * 128 := Int.pow_succ 128 (f + 1)
    rw [hp] at h1
    unfold enc
    split
    · have h2 := ih (v / 128) (by omega) (by omega)
      cases e : enc f (v / 128) with
      | nil => rw [e] at h2; cases h2
      | cons y r => rw [e] at h2; exact ⟨⟨by omega, by omega⟩, h2⟩
    · exact ⟨h0, by omega⟩
theorem enc_can2 {v : Int} (h0 : 0 ≤ v) (h1 : v ≤ 1000000000) : can (enc 5 v) := by
  have hp : (128 : Int) ^ (5 + 1) = 4398046511104 := by decide
  by_cases h : v = 0
  · subst h; exact .inl ⟨0, rfl, by omega, by omega⟩
  · exact .inr (enc_canS2 5 v (by omega) (by rw [hp]; omega))
theorem enc_len2 : ∀ (m f : Nat) (v : Int), 0 ≤ v → v < 128 ^ (m + 1) → (enc f v).length ≤ m + 1 := by
  intro m
  induction m with
  | zero =>
    intro f v h0 h1
    simp at h1
    cases f with
    | zero => simp [enc]
    | succ f => unfold enc; rw [if_neg (by omega)]; simp
  | succ m ih =>
    intro f v h0 h1
    have hp : (128 : Int) ^ (m + 1 + 1) = 128 ^ (m + 1) * 128 := Int.pow_succ 128 (m + 1)
    rw [hp] at h1
    cases f with
    | zero => simp [enc]
    | succ f =>
      unfold enc
      split
      · have := ih f (v / 128) (by omega) (by omega)
        simp only [List.length_cons]; omega
      · simp
theorem canS_mid : ∀ (l : List Int), canS l → ∀ i, i + 1 < l.length → 128 ≤ gt l (i : Int) := by
  intro l
  induction l with
  | nil => intro h; cases h
  | cons x r ih =>
    intro h i hi
    cases r with
    | nil => simp at hi
    | cons y r =>
      cases i with
      | zero => rw [gt_nat (by simp)]; exact h.1.1
      | succ i =>
        have := ih h.2 i (by simp at hi ⊢; omega)
        rw [gt_nat (by simp at hi ⊢; omega)] at this ⊢
        simpa using this
theorem canS_last : ∀ (l : List Int), canS l → 1 ≤ gt l ((l.length - 1 : Nat) : Int) ∧ gt l ((l.length - 1 : Nat) : Int) ≤ 127 := by
  intro l
  induction l with
  | nil => intro h; cases h
  | cons x r ih =>
    intro h
    cases r with
    | nil => rw [gt_nat (by simp)]; exact h
    | cons y r =>
      have := ih h.2
      rw [gt_nat (by simp)] at this ⊢
      simpa using this
/-- A number that is written is read. -/
theorem getVar_hit (K : Nat) {a l : List Int} (hb : ∀ x ∈ a, 0 ≤ x ∧ x ≤ 255) (ha : a.length ≤ 140737488355000) {p : Nat} (hc : can l) (hl5 : l.length ≤ 5) (hpl : p + l.length ≤ a.length) (htk : (a.drop p).take l.length = l) (hle : val l ≤ 1000000000) :
    ∀ (n i : Nat) (v : Int), i < l.length → l.length - i < n → v = val (l.take i) → l_impl_GetVar_5 K a (p : Int) n v (i : Int) = some (val l, ((p + l.length : Nat) : Int), true) := by
  have hat : ∀ i, i < l.length → gt a ((p + i : Nat) : Int) = gt l (i : Int) := by
    intro i hi
    rw [gt_nat (by omega), gt_nat hi]
    have : l[i] = ((a.drop p).take l.length)[i]'(by simp; omega) := by simp only [htk]
    rw [this]
    simp
  intro n
  induction n with
  | zero => intro i v _ h; omega
  | succ n ih =>
    intro i v hi hn hv
    rw [l_impl_GetVar_5]
    unfold j_impl_GetVar_10
    have e1 : iAdd .i64 (p : Int) (i : Int) = ((p + i : Nat) : Int) := by unfold iAdd; rw [i64_id (by omega) (by omega)]; omega
    have e3 : iSub .i64 (a.length : Int) (p : Int) = (a.length : Int) - p := by unfold iSub; rw [i64_id (by omega) (by omega)]
    have e4 : iMul .i64 7 (i : Int) = 7 * i := by unfold iMul; rw [i64_id (by omega) (by omega)]
    have e5 : IntKind.u64.wrap (7 * (i : Int)) = 7 * i := by rw [IntKind.wrap_u64]; omega
    have e6 : iAdd .i64 (i : Int) 1 = ((i + 1 : Nat) : Int) := iAdd1 (by omega)
    have e7 : iAdd .i64 ((p + i : Nat) : Int) 1 = ((p + (i + 1) : Nat) : Int) := by unfold iAdd; rw [i64_id (by omega) (by omega)]; omega
    have d4 : decide ((i : Int) < iMin 5 ((a.length : Int) - p)) = true := by unfold iMin; split <;> simp <;> omega
    rw [e1, e3, e4, e5, e6, e7, d4, hat i hi]
    simp only [cond_true]
    rw [if_pos ⟨by omega, by omega⟩, if_pos (by omega)]
    have hbyte : 0 ≤ gt l (i : Int) ∧ gt l (i : Int) ≤ 255 := by rw [← hat i hi]; exact gt_byte hb (by omega)
    have ht : l.take (i + 1) = l.take i ++ [gt l (i : Int)] := by rw [gt_nat hi, List.take_succ_eq_append_getElem hi]
    rw [and127 hbyte.1 hbyte.2, join_val hv (by rw [List.length_take]; omega) (by omega) (gt l (i : Int)), ← ht]
    by_cases hlast : i + 1 = l.length
    · have hall : l.take (i + 1) = l := List.take_of_length_le (by omega)
      have hsm : gt l (i : Int) < 128 := by
        rcases hc with ⟨x, rfl, h0, h1⟩ | hc
        · have : i = 0 := by simp at hlast; omega
          subst this; rw [gt_nat (by simp)]; show x < 128; omega
        · have := (canS_last l hc).2
          rw [show l.length - 1 = i from by omega] at this
          omega
      rw [decide_eq_true hsm, hall, decide_eq_false (show ¬ val l > 1000000000 by omega), hlast]
      simp only [cond_true, cond_false]
      by_cases h0 : (i : Int) > 0
      · have hne : ¬ gt l (i : Int) = 0 := by
          rcases hc with ⟨x, rfl, _, _⟩ | hc
          · simp at hlast; omega
          · have := (canS_last l hc).1
            rw [show l.length - 1 = i from by omega] at this
            omega
        rw [decide_eq_true h0, beq_f hne]; rfl
      · rw [decide_eq_false h0]; rfl
    · have hbig : ¬ gt l (i : Int) < 128 := by
        rcases hc with ⟨x, rfl, _, _⟩ | hc
        · simp at hi hlast; omega
        · have := canS_mid l hc i (by omega)
          omega
      rw [decide_eq_false hbig]
      simp only [cond_false]
      exact ih (i + 1) _ (by omega) (by omega) rfl
theorem getVar_enc {K : Nat} (hK : 7 ≤ K) {b r : List Int} {n : Int} (hb : ∀ x ∈ b ++ enc 5 n ++ r, 0 ≤ x ∧ x ≤ 255) (hl : (b ++ enc 5 n ++ r).length ≤ 140737488355000) (h0 : 0 ≤ n) (h1 : n ≤ 1000000000) : m_impl_GetVar K (b ++ enc 5 n ++ r) (b.length : Int) = some (n, ((b ++ enc 5 n).length : Int), true) := by
  have hp : (128 : Int) ^ (4 + 1) = 34359738368 := by decide
  have hp6 : (128 : Int) ^ (5 + 1) = 4398046511104 := by decide
  have hlen := enc_len2 4 5 n h0 (by rw [hp]; omega)
  have hval := val_enc 5 n h0 (by rw [hp6]; omega)
  have hc := enc_can2 h0 h1
  have hpos : 0 < (enc 5 n).length := by
    rcases hc with ⟨x, e, _⟩ | hc
    · rw [e]; simp
    · cases e : enc 5 n with
      | nil => rw [e] at hc; cases hc
      | cons x r => simp
  have hll : (b ++ enc 5 n ++ r).length = b.length + (enc 5 n).length + r.length := by simp; omega
  unfold m_impl_GetVar m_impl_within
  have e3 : iSub .i64 ((b ++ enc 5 n ++ r).length : Int) 1 = ((b ++ enc 5 n ++ r).length : Int) - 1 := by unfold iSub; rw [i64_id (by omega) (by omega)]
  rw [e3, decide_eq_true (show (b.length : Int) ≥ 0 by omega), decide_eq_true (show (b.length : Int) ≤ ((b ++ enc 5 n ++ r).length : Int) - 1 by omega)]
  simp only [cond_true, Option.bind_some]
  have := getVar_hit K (a := b ++ enc 5 n ++ r) (l := enc 5 n) hb hl (p := b.length) hc (by omega) (by omega) (by rw [List.append_assoc, List.drop_left, List.take_left]) (by rw [hval]; omega) K 0 0 hpos (by omega) (by simp [val])
  rw [hval] at this
  rw [show ((b ++ enc 5 n).length : Int) = ((b.length + (enc 5 n).length : Nat) : Int) from by simp]
  exact this

def K0 : Nat := 281474976710656
theorem wf_u8 {x : Int} : Wf_u8 x ↔ 0 ≤ x ∧ x ≤ 255 := by
  simp [Wf_u8, Lit.wf, IntKind.min, IntKind.max, IntKind.signed, IntKind.bits]
theorem same_l {K : Nat} (hK : 281474976710656 ≤ K) {a : List Int} (hl : a.length ≤ 140737488355327) : m_laws_same K a a = some true := by
  unfold m_laws_same
  simp only [bne_self_eq_false, cond_false]
  exact eqv_ok a (by omega) (l_laws_same_3 K a a) (fun n i => rfl) K 0 (Nat.zero_le _) (by omega)
theorem putL1_bytes {b : List Int} (h : bytesP b) (n : Int) : bytesP (putL1 b n) := by
  rw [putL1_e1]
  exact bytesP_app h (e1_byte n)
theorem putL1_len (b : List Int) (n : Int) : (putL1 b n).length ≤ b.length + 6 := by
  rw [putL1_e1, List.length_append]
  have := e1_len n
  omega
theorem putVar_spec {K : Nat} (hK : 7 ≤ K) {b : List Int} (hl : b.length ≤ 140737488355000) (n : Int) : m_spec_PutVar K b n = some (putL1 b n) := by
  obtain ⟨r, h1, h2, _⟩ := putVar_same hK hl n
  rw [putVar_impl hK hl n] at h2
  cases h2
  exact h1
theorem drawPut_ok {K : Nat} (hK : 281474976710656 ≤ K) {a : List Int} (hb : bytesP a) (ha : a.length ≤ 1048576) : ∃ r, m_spec_DrawPutVar K a = some r ∧ bytesP r.1 ∧ r.1.length ≤ 3 := by
  unfold m_spec_DrawPutVar
  obtain ⟨c, e0, w0⟩ := l1New_ok hK hb ha
  obtain ⟨r1, e1, b1, w1⟩ := l1Below_ok K w0 (n := 3) (by omega)
  obtain ⟨r2, e2, b2, l2, w2⟩ := l1Bytes_ok hK w1 (n := r1.1) b1.1 (by omega)
  obtain ⟨r3, e3, w3⟩ := l1One_ok K w2
  simp only [e0, Option.bind_some, e1, e2, e3]
  exact ⟨_, rfl, b2, by show r2.1.length ≤ 3; omega⟩
theorem drawGet_loop {K : Nat} : ∀ (n i : Nat) (l : List Int) (c : T_spec_l1Cur), curOk c → bytesP l → i ≤ 5 → l.length + i ≤ 5 → i < n → ∃ r, l_spec_DrawGetVar_13 K n l (i : Int) c.fb c.fi c.fh = some r ∧ bytesP r.1 ∧ r.1.length ≤ 20 := by
  intro n
  induction n with
  | zero => intro i l c _ _ _ _ h; omega
  | succ n ih =>
    intro i l c hc hb hi hl hn
    rw [l_spec_DrawGetVar_13]
    cases i with
    | zero =>
      rw [decide_eq_false (show ¬ ((0 : Nat) : Int) > 0 by omega)]
      obtain ⟨r, e, _, _⟩ := l1Below_ok K hc (n := 4) (by omega)
      rw [show T_spec_l1Cur.mk c.fb c.fi c.fh = c from rfl, e]
      exact ⟨_, rfl, hb, by show l.length ≤ 20; omega⟩
    | succ i =>
      rw [decide_eq_true (show ((i + 1 : Nat) : Int) > 0 by omega)]
      obtain ⟨r, e, b, w⟩ := l1Int_ok K hc (l := [128, 255, 0, 1, 127]) (by simp)
      rw [show T_spec_l1Cur.mk c.fb c.fi c.fh = c from rfl, e]
      simp only [cond_true, Option.bind_some]
      have e2 : iSub .i64 ((i + 1 : Nat) : Int) 1 = (i : Int) := by unfold iSub; rw [i64_id (by omega) (by omega)]; omega
      have hr : 0 ≤ r.1 ∧ r.1 ≤ 255 := by simp only [List.mem_cons, List.not_mem_nil, or_false] at b; omega
      rw [if_pos ⟨by simp; omega, by simp [maxLen]; omega⟩, e2, wrap_byte hr.1 hr.2]
      refine ih i _ r.2 w (bytesP_app hb ?_) (by omega) (by simp; omega) (by omega)
      intro x hx
      simp only [List.mem_singleton] at hx
      subst hx
      exact hr
theorem drawGet_ok {K : Nat} (hK : 281474976710656 ≤ K) {a : List Int} (hb : bytesP a) (ha : a.length ≤ 1048576) : ∃ r, m_spec_DrawGetVar K a = some r ∧ bytesP r.1 ∧ r.1.length ≤ 20 := by
  unfold m_spec_DrawGetVar
  obtain ⟨c, e0, w0⟩ := l1New_ok hK hb ha
  obtain ⟨r1, e1, w1⟩ := l1Once_ok K w0 (n := 2) (by omega)
  simp only [e0, Option.bind_some, e1]
  cases r1.1 with
  | true =>
    obtain ⟨r2, e2, b2, l2, w2⟩ := l1Bytes_ok hK w1 (n := 1) (by omega) (by omega)
    obtain ⟨r3, e3, w3⟩ := l1Num_ok K w2
    have h4 := putVar_spec (K := K) (by omega) (b := r2.1) (by omega) r3.1
    have h5 := putL1_len r2.1 r3.1
    simp only [cond_true, e2, Option.bind_some, e3, h4]
    exact ⟨_, rfl, putL1_bytes b2 _, by show (putL1 r2.1 r3.1).length ≤ 20; omega⟩
  | false =>
    obtain ⟨r2, e2, b2, w2⟩ := l1Below_ok K w1 (n := 6) (by omega)
    simp only [cond_false, e2, Option.bind_some]
    obtain ⟨m, hm⟩ : ∃ m : Nat, r2.1 = m := ⟨r2.1.toNat, by omega⟩
    rw [hm]
    exact drawGet_loop K m [] r2.2 w2 (fun x hx => by cases hx) (by omega) (by simp; omega) (by omega)
theorem pure_FnVars (a : List Int) (w : Wf_Lu8 a) : ∃ K, m_laws_FnVars K a = some true := by
  refine ⟨K0, ?_⟩
  have hK : 281474976710656 ≤ K0 := Nat.le_refl _
  unfold m_laws_FnVars m_laws_big
  simp only [Option.bind_some]
  by_cases hbig : (a.length : Int) > 1048576
  · rw [decide_eq_true hbig]; rfl
  · rw [decide_eq_false hbig]
    have hl : a.length ≤ 1048576 := by omega
    have hb : bytesP a := fun x hx => wf_u8.1 (w.1 x hx)
    obtain ⟨d, e1, b1, l1⟩ := drawPut_ok hK hb hl
    obtain ⟨g, e2, b2, l2⟩ := drawGet_ok hK hb hl
    have p1 := putVar_impl (K := K0) (by decide) (b := d.1) (by omega) d.2
    have p2 := putVar_spec (K := K0) (by decide) (b := d.1) (by omega) d.2
    obtain ⟨r, v1, v2, v3⟩ := getVar_same (K := K0) (by decide) g.1 b2 (by omega) g.2
    have hx := putL1_len d.1 d.2
    have hs := same_l hK (a := putL1 d.1 d.2) (by omega)
    simp only [cond_false, e1, Option.bind_some, p1, e2, v1, v2, p2, hs, cond_true, bne_self_eq_false, BEq.rfl, Bool.not_true]
    by_cases h0 : d.2 < 0
    · rw [decide_eq_true h0]
      have e : putL1 d.1 d.2 = d.1 := by unfold putL1; rw [if_neg (by omega)]
      rw [e] at hs ⊢
      simp only [cond_true, hs, Option.bind_some]
    · rw [decide_eq_false h0]
      by_cases h1 : d.2 > 1000000000
      · rw [decide_eq_true h1]
        have e : putL1 d.1 d.2 = d.1 := by unfold putL1; rw [if_neg (by omega)]
        rw [e] at hs ⊢
        simp only [cond_true, cond_false, hs, Option.bind_some]
      · rw [decide_eq_false h1]
        have e : putL1 d.1 d.2 = d.1 ++ enc 5 d.2 := by unfold putL1; rw [if_pos (by omega)]
        have hby : bytesP (d.1 ++ enc 5 d.2 ++ [200]) := by
          rw [← e]
          refine bytesP_app (putL1_bytes b1 _) ?_
          intro x hx
          simp only [List.mem_singleton] at hx
          omega
        have hlen : (d.1 ++ enc 5 d.2 ++ [200]).length ≤ 20 := by rw [← e]; simp; omega
        have hit := getVar_enc (K := K0) (by decide) (b := d.1) (r := [200]) (n := d.2) hby (by omega) (by omega) (by omega)
        rw [e]
        rw [e] at hx
        simp only [cond_false, List.nil_append]
        rw [if_pos ⟨by omega, by unfold maxLen; omega⟩, if_pos ⟨by omega, by unfold maxLen; omega⟩, hit]
        simp only [Option.bind_some, cond_true, BEq.rfl]
        rcases v3 with rfl | ⟨hg0, v3⟩
        · rfl
        · rcases v3 with rfl | ⟨l, hc, hl5, hpl, htk, rfl, hle⟩
          · rfl
          · simp only [cond_true]
            have hp2 : ((g.2.toNat : Nat) : Int) = g.2 := by omega
            rw [if_pos ⟨by omega, hg0, by omega⟩]
            have ht1 : ((g.1.drop (0 : Int).toNat).take (g.2 - 0).toNat) = g.1.take g.2.toNat := by
              rw [show (0 : Int).toNat = 0 from rfl, List.drop_zero, Int.sub_zero]
            have ht2 : ((g.1.drop (0 : Int).toNat).take (((g.2.toNat + l.length : Nat) : Int) - 0).toNat) = g.1.take (g.2.toNat + l.length) := by
              rw [show (0 : Int).toNat = 0 from rfl, List.drop_zero, Int.sub_zero, Int.toNat_natCast]
            have hvl := val_nonneg l
            have htl : (g.1.take g.2.toNat).length ≤ g.1.length := by rw [List.length_take]; omega
            have e3 : putL1 (g.1.take g.2.toNat) (val l) = g.1.take (g.2.toNat + l.length) := by
              unfold putL1
              rw [if_pos ⟨hvl, hle⟩, enc_can hc (by omega), List.take_add, htk]
            rw [ht1, ht2, putVar_impl (K := K0) (by decide) (by omega), e3]
            simp only [Option.bind_some]
            rw [if_pos ⟨by omega, by omega, by omega⟩, same_l hK (by rw [List.length_take]; omega)]
            rfl

end Go.Proofs.Ytlenlhlggknelaa
