/- The plain law for FnExactStats; no condition. -/
import Derived.Test.YtjdblamhaljjbaaGreatFStatsTb
import Derived.Test.YtjdblamhaljjbaaGreatFStatsW
set_option linter.all false
namespace Go.Proofs.YtjdblamhaljjbaaGreat
open Go.Eng Go.ChangeShapes Go.WideShapes Go.ChangeAt Go.RowKit
theorem iAdd1 {i : Nat} (h : i ≤ 140737488355328) : iAdd .i64 (i : Int) 1 = ((i + 1 : Nat) : Int) := by
 unfold iAdd
 rw [IntKind.wrap_i64]
 omega
theorem gt_nat {α : Type} [Inhabited α] {l : List α} {i : Nat} (h : i < l.length) : gt l (i : Int) = l[i] := by
 unfold gt
 simp [h]
theorem gt_mem {α : Type} [Inhabited α] {l : List α} {i : Nat} (h : i < l.length) : gt l (i : Int) ∈ l := by
 rw [gt_nat h]; exact List.getElem_mem h
theorem gt_memI {α : Type} [Inhabited α] {l : List α} {i : Int} (h0 : 0 ≤ i) (h : i < l.length) : gt l i ∈ l := by
 obtain ⟨k, rfl⟩ : ∃ k : Nat, i = k := ⟨i.toNat, by omega⟩
 exact gt_mem (by omega)
theorem dlt_t {i k : Nat} (h : i < k) : decide ((i : Int) < (k : Int)) = true := by simp; omega
theorem dlt_f {i k : Nat} (h : k ≤ i) : decide ((i : Int) < (k : Int)) = false := by simp; omega
theorem conv_ok {α β : Type} [Inhabited α] (a : List α) (f : α -> Option β) (g : α -> β) (hf : ∀ x ∈ a, f x = some (g x)) (ha : a.length ≤ 140737488355328)
  (L : Nat -> Int -> List β -> Option (List β)) (hL : ∀ n i v, L (n + 1) i v = bif decide (i < (a.length : Int)) then (if (0 : Int) ≤ i ∧ i < (a.length : Int) then (f (gt a i)).bind (fun r => (if (0 : Int) ≤ i ∧ i < (v.length : Int) then L n (iAdd .i64 i 1) (v.set i.toNat r) else none)) else none) else some v) :
  ∀ (n i : Nat) (v : List β), i ≤ a.length -> v.length = a.length -> (∀ j, j < i -> v[j]? = (a.map g)[j]?) -> a.length - i < n -> L n (i : Int) v = some (a.map g) := by
 intro n
 induction n with
 | zero => intro i v _ _ _ h; omega
 | succ n ih =>
  intro i v hi hv hj hn
  rw [hL]
  rcases Z18 i a.length with h | h
  ·rw [dlt_t h]
   simp only [cond_true]
   rw [if_pos ⟨by omega, by omega⟩, hf _ (gt_mem h)]
   simp only [Z0]
   rw [if_pos ⟨by omega, by omega⟩, iAdd1 (by omega)]
   refine ih (i + 1) _ h (by simpa using hv) (fun j hj2 => ?_) (by omega)
   rw [Int.toNat_natCast, Z41]
   by_cases e : i = j
   ·subst e
    rw [if_pos rfl, if_pos (by omega), gt_nat h, Z10, Z12 h]; rfl
   ·rw [if_neg e]; exact hj j (by omega)
  ·rw [dlt_f h]
   simp only [cond_false, Z7]
   have hia : i = a.length := by omega
   refine List.ext_getElem? fun j => ?_
   rcases Z18 j a.length with hja | hja
   ·exact hj j (by omega)
   ·rw [Z58 (by omega), Z58 (by simpa using hja)]
theorem eq_ok {β : Type} [Inhabited β] (a : List β) (e : β -> β -> Option Bool) (he : ∀ x ∈ a, e x x = some true) (ha : a.length ≤ 140737488355328)
  (L : Nat -> Int -> Option Bool) (hL : ∀ n i, L (n + 1) i = bif decide (i < (a.length : Int)) then (if (0 : Int) ≤ i ∧ i < (a.length : Int) then (if (0 : Int) ≤ i ∧ i < (a.length : Int) then (e (gt a i) (gt a i)).bind (fun r => bif r then L n (iAdd .i64 i 1) else some false) else none) else none) else some true) :
  ∀ (n i : Nat), i ≤ a.length -> a.length - i < n -> L n (i : Int) = some true := by
 intro n
 induction n with
 | zero => intro i _ h; omega
 | succ n ih =>
  intro i hi hn
  rw [hL]
  rcases Z18 i a.length with h | h
  ·rw [dlt_t h]
   simp only [cond_true]
   rw [if_pos ⟨by omega, by omega⟩, if_pos ⟨by omega, by omega⟩, he _ (gt_mem h), iAdd1 (by omega)]
   simp only [Z0, cond_true]
   exact ih (i + 1) h (by omega)
  ·rw [dlt_f h]; rfl
theorem eqv_ok (a : List Int) (ha : a.length ≤ 140737488355328)
  (L : Nat -> Int -> Option Bool) (hL : ∀ n i, L (n + 1) i = bif decide (i < (a.length : Int)) then (if (0 : Int) ≤ i ∧ i < (a.length : Int) then (if (0 : Int) ≤ i ∧ i < (a.length : Int) then (bif (gt a i != gt a i) then some false else L n (iAdd .i64 i 1)) else none) else none) else some true) :
  ∀ (n i : Nat), i ≤ a.length -> a.length - i < n -> L n (i : Int) = some true := by
 intro n
 induction n with
 | zero => intro i _ h; omega
 | succ n ih =>
  intro i hi hn
  rw [hL]
  rcases Z18 i a.length with h | h
  ·rw [dlt_t h]
   simp only [cond_true]
   rw [if_pos ⟨by omega, by omega⟩, if_pos ⟨by omega, by omega⟩, iAdd1 (by omega)]
   simp only [bne_self_eq_false, cond_false]
   exact ih (i + 1) h (by omega)
  ·rw [dlt_f h]; rfl
theorem sz_ok {α : Type} [Inhabited α] (a : List α) (f : α -> Int -> Option Int) (hf : ∀ x ∈ a, ∀ y, ∃ r, f x y = some r) (ha : a.length ≤ 140737488355328)
  (L : Nat -> Int -> Int -> Option Int) (hL : ∀ n y i, L (n + 1) y i = bif decide (i < (a.length : Int)) then (if (0 : Int) ≤ i ∧ i < (a.length : Int) then (f (gt a i) y).bind (fun r => bif decide (r < 0) then some (-1) else L n r (iAdd .i64 i 1)) else none) else some y) :
  ∀ (n i : Nat) (y : Int), i ≤ a.length -> a.length - i < n -> ∃ r, L n y (i : Int) = some r := by
 intro n
 induction n with
 | zero => intro i _ _ h; omega
 | succ n ih =>
  intro i y hi hn
  rw [hL]
  rcases Z18 i a.length with h | h
  ·rw [dlt_t h]
   simp only [cond_true]
   obtain ⟨r, hr⟩ := hf _ (gt_mem h) y
   rw [if_pos ⟨by omega, by omega⟩, hr, iAdd1 (by omega)]
   simp only [Z0]
   cases decide (r < 0) with
   | true => exact ⟨_, rfl⟩
   | false => exact ih (i + 1) r h (by omega)
  ·rw [dlt_f h]; exact ⟨_, rfl⟩
theorem i64_id {n : Int} (h0 : -9223372036854775808 ≤ n) (h1 : n ≤ 9223372036854775807) : IntKind.i64.wrap n = n := by rw [IntKind.wrap_i64]; omega
theorem i64_in (n : Int) : -9223372036854775808 ≤ IntKind.i64.wrap n ∧ IntKind.i64.wrap n ≤ 9223372036854775807 := by rw [IntKind.wrap_i64]; omega
theorem cc {α : Type} (b : Bool) (x : α) : (bif b then x else x) = x := by cases b <;> rfl
theorem bne_t {a b : Int} (h : ¬ a = b) : (a != b) = true := by simpa using h
theorem beq_f {a b : Int} (h : ¬ a = b) : (a == b) = false := by simpa using h
def inB (x a b : Int) : Bool := decide (a ≤ x ∧ x ≤ b)
theorem inB_iff {x a b : Int} : inB x a b = true ↔ a ≤ x ∧ x ≤ b := by unfold inB; exact decide_eq_true_iff
theorem bif_sf (b : Bool) (x : Bool) : (bif b then some x else some false) = some (b && x) := by cases b <;> rfl
theorem bif_fs (b : Bool) (x : Bool) : (bif b then some false else some x) = some (!b && x) := by cases b <;> rfl
theorem bif_ts (b : Bool) (x : Bool) : (bif b then some true else some x) = some (b || x) := by cases b <;> rfl
theorem bif_not {α : Type} (b : Bool) (x y : α) : (bif !b then x else y) = (bif b then y else x) := by cases b <;> rfl
theorem chkT {i n : Nat} (h : i < n) : ((0 : Int) ≤ (i : Int) ∧ (i : Int) < (n : Int)) := ⟨by omega, by omega⟩
theorem all_ok {α : Type} (l : List α) (q : α -> Bool) (fin : Option Bool) (L : Nat -> Int -> Option Bool)
  (hs : ∀ n (i : Nat) (h : i < l.length), L (n + 1) (i : Int) = bif q l[i] then L n ((i + 1 : Nat) : Int) else some false)
  (he : ∀ n, L (n + 1) (l.length : Int) = fin) :
  ∀ (n i : Nat), i ≤ l.length -> l.length - i < n -> L n (i : Int) = bif (l.drop i).all q then fin else some false := by
 intro n
 induction n with
 | zero => intro i _ h; omega
 | succ n ih =>
  intro i hi hn
  rcases Z18 i l.length with h | h
  ·rw [hs n i h, Z47 h, Z51]
   cases q l[i] with
   | false => rfl
   | true => rw [cond_true, ih (i + 1) h (by omega)]; rfl
  ·obtain rfl : i = l.length := by omega
   rw [he, List.drop_length]; rfl
theorem all_ok0 {α : Type} {K : Nat} (hK : 281474976710656 ≤ K) (l : List α) (hl : l.length ≤ 140737488355328) (q : α -> Bool) (fin : Option Bool) (L : Nat -> Int -> Option Bool)
  (hs : ∀ n (i : Nat) (h : i < l.length), L (n + 1) (i : Int) = bif q l[i] then L n ((i + 1 : Nat) : Int) else some false)
  (he : ∀ n, L (n + 1) (l.length : Int) = fin) : L K 0 = bif l.all q then fin else some false := by
 have := all_ok l q fin L hs he K 0 (Z21 _) (by omega)
 simpa using this
theorem alln_ok0 {K : Nat} (hK : 281474976710656 ≤ K) (N : Nat) (hl : N ≤ 140737488355328) (q : Nat -> Bool) (fin : Option Bool) (L : Nat -> Int -> Option Bool)
  (hs : ∀ n (i : Nat) (h : i < N), L (n + 1) (i : Int) = bif q i then L n ((i + 1 : Nat) : Int) else some false)
  (he : ∀ n, L (n + 1) (N : Int) = fin) : L K 0 = bif (List.range N).all q then fin else some false := by
 refine all_ok0 hK (List.range N) (by simpa using hl) q fin L (fun n i h => ?_) (fun n => ?_)
 ·rw [List.getElem_range]; exact hs n i (by simpa using h)
 ·rw [List.length_range]; exact he n
theorem idx_ok {α : Type} (l : List α) (q : α -> Bool) (L : Nat -> Int -> Int -> Option Int)
  (hs : ∀ n (i : Nat) (h : i < l.length), L (n + 1) (l.length : Int) (i : Int) = bif q l[i] then some (i : Int) else L n (l.length : Int) ((i + 1 : Nat) : Int))
  (he : ∀ n, L (n + 1) (l.length : Int) (l.length : Int) = some (-1)) :
  ∀ (n i : Nat), i ≤ l.length -> l.length - i < n -> ∃ r, L n (l.length : Int) (i : Int) = some r ∧ decide (r ≥ 0) = (l.drop i).any q := by
 intro n
 induction n with
 | zero => intro i _ h; omega
 | succ n ih =>
  intro i hi hn
  rcases Z18 i l.length with h | h
  ·rw [hs n i h, Z47 h, List.any_cons]
   cases q l[i] with
   | true => exact ⟨_, rfl, by simp⟩
   | false => rw [cond_false, Z52]; exact ih (i + 1) h (by omega)
  ·obtain rfl : i = l.length := by omega
   exact ⟨_, he n, by simp⟩
theorem cont_ok {α : Type} [Inhabited α] {K : Nat} (hK : 281474976710656 ≤ K) (l : List α) (hl : l.length ≤ 140737488355328) (f : α -> Option Bool) (q : α -> Bool) (hf : ∀ x ∈ l, f x = some (q x)) (L : Nat -> Int -> Int -> Option Int)
  (hL : ∀ n N i, L (n + 1) N i = bif decide (i < N) then (if (0 : Int) ≤ i ∧ i < (l.length : Int) then (f (gt l i)).bind (fun r => bif r then some i else L n N (iAdd .i64 i 1)) else none) else some (-1)) :
  ((L K (l.length : Int) 0).bind fun r => some (decide (r ≥ 0))) = some (l.any q) := by
 obtain ⟨r, h1, h2⟩ := idx_ok l q L (fun n i h => by
  rw [hL, dlt_t h, cond_true, if_pos (chkT h), hf _ (gt_mem h), gt_nat h, Z0, iAdd1 (by omega)]) (fun n => by rw [hL, dlt_f (Z9 _), cond_false]) K 0 (Z21 _) (by omega)
 rw [show ((0 : Nat) : Int) = 0 from rfl] at h1
 rw [h1, Z0, h2, Z55]
theorem contains_ok {K : Nat} (hK : 281474976710656 ≤ K) (l : List Int) (x : Int) (hl : l.length ≤ 140737488355328) : m_slices_Contains_int K l x = some (l.contains x) := by
 unfold m_slices_Contains_int m_slices_Index_int
 obtain ⟨r, h1, h2⟩ := idx_ok l (fun y => x == y) (l_slices_Index_int_1 K l x) (fun n i h => by
  rw [l_slices_Index_int_1, dlt_t h, cond_true, if_pos (chkT h), gt_nat h, iAdd1 (by omega)]) (fun n => by rw [l_slices_Index_int_1, dlt_f (Z9 _), cond_false]) K 0 (Z21 _) (by omega)
 rw [show ((0 : Nat) : Int) = 0 from rfl] at h1
 rw [h1, Z0, h2, Z55, List.contains_eq_any_beq]
theorem l7Has_ok {K : Nat} (hK : 281474976710656 ≤ K) (l : List Int) (x : Int) (hl : l.length ≤ 140737488355328) : m_spec_l7Has K l x = some (l.contains x) := by
 unfold m_spec_l7Has
 have h : ∀ (n i : Nat), i ≤ l.length -> l.length - i < n -> l_spec_l7Has_1 K l x n (i : Int) = some ((l.drop i).contains x) := by
  intro n
  induction n with
  | zero => intro i _ h; omega
  | succ n ih =>
   intro i hi hn
   rw [l_spec_l7Has_1]
   rcases Z18 i l.length with h | h
   ·rw [dlt_t h, cond_true, if_pos (chkT h), gt_nat h, iAdd1 (by omega), ih (i + 1) h (by omega), Z47 h, List.contains_cons, bif_ts, Bool.beq_comm]
   ·rw [dlt_f h, cond_false, Z48 h]; rfl
 have := h K 0 (Z21 _) (by omega)
 simpa using this
theorem l1In_eq (K : Nat) (x a b : Int) : m_spec_l1In K x a b = some (inB x a b) := by
 unfold m_spec_l1In inB
 by_cases h : a ≤ x
 ·rw [decide_eq_true (show x ≥ a from h)]; simp [h]
 ·rw [decide_eq_false (show ¬ x ≥ a from h)]; simp [h]
theorem within_eq (K : Nat) (x a b : Int) : m_impl_within K x a b = some (inB x a b) := l1In_eq K x a b
def confB (c : T_impl_Conf) : Bool := inB c.fChunks 2 12 && (inB c.fSize 8 16 && (inB c.fSlots 2 8 && (inB c.fTax 1 8 && (inB c.fSlice 1 16 && inB c.fGens 1 4))))
theorem confOk_spec (K : Nat) (c) : m_spec_ConfOk K c = some (confB c) := by
 simp only [m_spec_ConfOk, l1In_eq, Z0, bif_sf, confB]
theorem confOk_impl (K : Nat) (c) : m_impl_ConfOk K c = some (confB c) := confOk_spec K c
theorem confB_bounds {c : T_impl_Conf} (h : confB c = true) : (2 ≤ c.fChunks ∧ c.fChunks ≤ 12) ∧ (8 ≤ c.fSize ∧ c.fSize ≤ 16) ∧ (2 ≤ c.fSlots ∧ c.fSlots ≤ 8) ∧ (1 ≤ c.fTax ∧ c.fTax ≤ 8) ∧ (1 ≤ c.fSlice ∧ c.fSlice ≤ 16) ∧ (1 ≤ c.fGens ∧ c.fGens ≤ 4) := by
 simpa only [confB, Z4, inB_iff] using h
def bytesI (c : T_impl_Conf) : Int := bif confB c then c.fChunks * c.fSize else 0
theorem mul_bnd {a b m n : Int} (h1 : 0 ≤ a) (h2 : a ≤ m) (h3 : 0 ≤ b) (h4 : b ≤ n) : 0 ≤ a * b ∧ a * b ≤ m * n :=
 ⟨Int.mul_nonneg h1 h3, Int.mul_le_mul h2 h4 h3 (by omega)⟩
theorem bytesOf_spec (K : Nat) (c) : m_spec_BytesOf K c = some (bytesI c) := by
 unfold m_spec_BytesOf bytesI
 rw [confOk_spec, Z0, bif_not]
 cases h : confB c with
 | false => rfl
 | true =>
  obtain ⟨h1, h2, _⟩ := confB_bounds h
  have := mul_bnd (a := c.fChunks) (b := c.fSize) (m := 12) (n := 16) (by omega) h1.2 (by omega) h2.2
  simp only [cond_true, iMul]
  rw [i64_id (by omega) (by omega)]
theorem bytesOf_impl (K : Nat) (c) : m_impl_BytesOf K c = some (bytesI c) := bytesOf_spec K c
theorem bytesI_bnd (c : T_impl_Conf) : 0 ≤ bytesI c ∧ bytesI c ≤ 192 := by
 unfold bytesI
 cases h : confB c with
 | false => simp
 | true =>
  obtain ⟨h1, h2, _⟩ := confB_bounds h
  have := mul_bnd (a := c.fChunks) (b := c.fSize) (m := 12) (n := 16) (by omega) h1.2 (by omega) h2.2
  simp only [cond_true]; omega
section
variable {K : Nat} (hK : 281474976710656 ≤ K)
include hK
def zeroB (l : List Int) : Bool := l.all (fun x => x == 0)
theorem isZero_spec (l : List Int) (hl : l.length ≤ 140737488355328) : m_spec_IsZero K l = some (zeroB l) := by
 unfold m_spec_IsZero
 rw [all_ok0 hK l hl (fun x => x == 0) (some true) (l_spec_IsZero_1 K l) (fun n i h => by
  rw [l_spec_IsZero_1, dlt_t h, cond_true, if_pos (chkT h), gt_nat h, iAdd1 (by omega)]
  cases e : l[i] == 0 <;> simp [bne, e]) (fun n => by rw [l_spec_IsZero_1, dlt_f (Z9 _), cond_false])]
 unfold zeroB
 cases l.all (fun x => x == 0) <;> rfl
theorem isZero_impl (l : List Int) (hl : l.length ≤ 140737488355328) : m_impl_IsZero K l = some (zeroB l) := by
 unfold m_impl_IsZero m_slices_ContainsFunc_byte_impl_IsZero_1 m_slices_IndexFunc_byte_impl_IsZero_1
 rw [cont_ok hK l hl (m_impl_IsZero_1 K) (fun x => x != 0) (fun x _ => rfl) (l_slices_IndexFunc_byte_impl_IsZero_1_1 K l) (fun n N i => rfl)]
 simp only [Z0, zeroB, List.not_any_eq_all_not, Z7]
 congr 1
 funext x
 simp [bne]
end
def ceilI (a b : Int) : Int := bif inB a 0 1000000000 && inB b 1 1000000000 then (a + b - 1) / b else 0
theorem ceilDiv_spec (K : Nat) (a b : Int) : m_spec_CeilDiv K a b = some (ceilI a b) := by
 unfold m_spec_CeilDiv ceilI
 rw [l1In_eq, l1In_eq, Z0]
 cases h1 : inB a 0 1000000000 with
 | false => rfl
 | true =>
  cases h2 : inB b 1 1000000000 with
  | false => rfl
  | true =>
   rw [inB_iff] at h1 h2
   simp only [Z0, cond_true, Bool.not_true, cond_false, Bool.and_self]
   rw [if_pos (by omega)]
   unfold iQuo iSub iAdd
   rw [i64_id (n := a + b) (by omega) (by omega), i64_id (n := a + b - 1) (by omega) (by omega)]
   rw [Int.tdiv_eq_ediv_of_nonneg (by omega)]
   have h3 : (a + b - 1) / b ≤ a + b - 1 := Int.ediv_le_self _ (by omega)
   have h4 : 0 ≤ (a + b - 1) / b := Int.ediv_nonneg (by omega) (by omega)
   rw [i64_id (by omega) (by omega)]
def chunkL (c : T_impl_Conf) (mem : List Int) (k : Int) : List Int := (mem.drop (k * c.fSize).toNat).take c.fSize.toNat
def poolOne (c : T_impl_Conf) (p : T_impl_Pool) (k : Nat) : Bool :=
 inB (gt p.fSt k) 0 2 && ((bif gt p.fSt k == 1 then inB (gt p.fOwn k) 0 (c.fSlots - 1) else gt p.fOwn k == -1) && (bif gt p.fSt k == 0 then zeroB (chunkL c p.fMem k) else true))
def poolB (c : T_impl_Conf) (p : T_impl_Pool) : Bool :=
 confB c && ((p.fMem.length : Int) == bytesI c && ((p.fSt.length : Int) == c.fChunks && ((p.fOwn.length : Int) == c.fChunks && (List.range c.fChunks.toNat).all (poolOne c p))))
theorem poolB_len {c : T_impl_Conf} {p : T_impl_Pool} (h : poolB c p = true) : confB c = true ∧ (p.fMem.length : Int) = c.fChunks * c.fSize ∧ (p.fSt.length : Int) = c.fChunks ∧ (p.fOwn.length : Int) = c.fChunks ∧ ∀ k, k < c.fChunks.toNat -> poolOne c p k = true := by
 simp only [poolB, Z4, beq_iff_eq, Z1, List.mem_range] at h
 obtain ⟨h1, h2, h3, h4, h5⟩ := h
 refine ⟨h1, ?_, h3, h4, h5⟩
 rw [h2, bytesI, h1]; rfl
theorem chunk_at {c : T_impl_Conf} (hc : confB c = true) {mem : List Int} (hm : (mem.length : Int) = c.fChunks * c.fSize) {k : Int} (h0 : 0 ≤ k) (h1 : k < c.fChunks) :
  iMul .i64 k c.fSize = k * c.fSize ∧ iMul .i64 (iAdd .i64 k 1) c.fSize = k * c.fSize + c.fSize ∧ 0 ≤ k * c.fSize ∧ k * c.fSize + c.fSize ≤ (mem.length : Int) := by
 obtain ⟨b1, b2, _⟩ := confB_bounds hc
 have m1 := mul_bnd (a := k) (b := c.fSize) (m := 12) (n := 16) h0 (by omega) (by omega) b2.2
 have e2 : (k + 1) * c.fSize = k * c.fSize + c.fSize := by rw [Int.add_mul, Int.one_mul]
 have m2 : (k + 1) * c.fSize ≤ c.fChunks * c.fSize := Int.mul_le_mul_of_nonneg_right (by omega) (by omega)
 rw [e2] at m2
 refine ⟨?_, ?_, m1.1, by omega⟩
 ·unfold iMul; exact i64_id (by omega) (by omega)
 ·unfold iMul iAdd
  rw [i64_id (n := k + 1) (by omega) (by omega), e2, i64_id (by omega) (by omega)]
section
variable {K : Nat} (hK : 281474976710656 ≤ K)
include hK
theorem chunk_impl {c : T_impl_Conf} (hc : confB c = true) {p : T_impl_Pool} (hm : (p.fMem.length : Int) = c.fChunks * c.fSize) {k : Int} (h0 : 0 ≤ k) (h1 : k < c.fChunks) : m_impl_Pool_chunk K p c k = some (chunkL c p.fMem k) := by
 obtain ⟨e1, e2, e3, e4⟩ := chunk_at hc hm h0 h1
 obtain ⟨b1, b2, _⟩ := confB_bounds hc
 unfold m_impl_Pool_chunk
 rw [e1, e2, if_pos ⟨e3, by omega, e4⟩]
 unfold chunkL
 rw [show k * c.fSize + c.fSize - k * c.fSize = c.fSize by omega]
theorem poolOk_spec (c : T_impl_Conf) (p : T_impl_Pool) : m_spec_PoolOk K c p = some (poolB c p) := by
 unfold m_spec_PoolOk
 rw [confOk_spec, bytesOf_spec]
 simp only [Z0]
 cases hc : confB c with
 | false => simp [poolB, hc]
 | true =>
 obtain ⟨b1, b2, b3, _⟩ := confB_bounds hc
 have hby : bytesI c = c.fChunks * c.fSize := by rw [bytesI, hc]; rfl
 simp only [cond_true, poolB, hc, Z30, bne]
 cases h1 : (p.fMem.length : Int) == bytesI c with
 | false => rfl
 | true =>
 cases h2 : (p.fSt.length : Int) == c.fChunks with
 | false => rfl
 | true =>
 cases h3 : (p.fOwn.length : Int) == c.fChunks with
 | false => rfl
 | true =>
 rw [beq_iff_eq] at h1 h2 h3
 have hN : ((c.fChunks.toNat : Nat) : Int) = c.fChunks := by omega
 simp only [Bool.not_true, cond_false, Z30]
 rw [alln_ok0 hK c.fChunks.toNat (by omega) (poolOne c p) (some true) (fun n i => l_spec_PoolOk_1 K c n i p.fMem p.fSt p.fOwn) (fun n i h => ?_) (fun n => ?_)]
 ·cases (List.range c.fChunks.toNat).all (poolOne c p) <;> rfl
 ·obtain ⟨e1, e2, e3, e4⟩ := chunk_at hc (h1.trans hby) (k := (i : Int)) (by omega) (by omega)
  have hl : (List.take (i * c.fSize + c.fSize - i * c.fSize).toNat (List.drop (i * c.fSize).toNat p.fMem)).length ≤ 140737488355327 := by simp; omega
  have hs : iSub .i64 c.fSlots 1 = c.fSlots - 1 := by unfold iSub; rw [i64_id (by omega) (by omega)]
  have hck : List.take (i * c.fSize + c.fSize - i * c.fSize).toNat (List.drop (i * c.fSize).toNat p.fMem) = chunkL c p.fMem i := by
   unfold chunkL; rw [show (i : Int) * c.fSize + c.fSize - i * c.fSize = c.fSize by omega]
  simp only [l_spec_PoolOk_1, j_spec_PoolOk_2, j_spec_PoolOk_3]
  rw [e1, e2, iAdd1 (by omega), decide_eq_true (show (i : Int) < c.fChunks by omega), cond_true, if_pos ⟨by omega, by omega⟩, l1In_eq, l1In_eq, hs, isZero_spec hK _ (by omega), hck]
  simp only [Z0, bne, show ((0 : Int) ≤ (i : Int) ∧ (i : Int) < (p.fSt.length : Int)) = True from eq_true ⟨by omega, by omega⟩, show ((0 : Int) ≤ (i : Int) ∧ (i : Int) < (p.fOwn.length : Int)) = True from eq_true ⟨by omega, by omega⟩, if_true, if_pos (show (0 : Int) ≤ i * c.fSize ∧ (i : Int) * c.fSize ≤ i * c.fSize + c.fSize ∧ (i : Int) * c.fSize + c.fSize ≤ (p.fMem.length : Int) from ⟨e3, by omega, e4⟩)]
  unfold poolOne
  cases inB (gt p.fSt i) 0 2 <;> cases (gt p.fSt (i : Int) == 1) <;> cases inB (gt p.fOwn i) 0 (c.fSlots - 1) <;> cases (gt p.fOwn (i : Int) == -1) <;> cases (gt p.fSt (i : Int) == 0) <;> cases zeroB (chunkL c p.fMem i) <;> rfl
 ·show l_spec_PoolOk_1 K c (n + 1) _ _ _ _ = _
  rw [l_spec_PoolOk_1, hN, decide_eq_false (by omega), cond_false]
theorem poolOk_impl (c : T_impl_Conf) (p : T_impl_Pool) : m_impl_PoolOk K c p = some (poolB c p) := by
 unfold m_impl_PoolOk
 rw [confOk_impl, bytesOf_impl]
 simp only [Z0]
 cases hc : confB c with
 | false => simp [poolB, hc]
 | true =>
 obtain ⟨b1, b2, b3, _⟩ := confB_bounds hc
 have hby : bytesI c = c.fChunks * c.fSize := by rw [bytesI, hc]; rfl
 simp only [cond_true, poolB, hc, Z30, bne]
 cases h1 : (p.fMem.length : Int) == bytesI c with
 | false => rfl
 | true =>
 cases h2 : (p.fSt.length : Int) == c.fChunks with
 | false => rfl
 | true =>
 cases h3 : (p.fOwn.length : Int) == c.fChunks with
 | false => rfl
 | true =>
 rw [beq_iff_eq] at h1 h2 h3
 have hN : ((c.fChunks.toNat : Nat) : Int) = c.fChunks := by omega
 simp only [Bool.not_true, cond_false, Z30]
 rw [alln_ok0 hK c.fChunks.toNat (by omega) (poolOne c p) (some true) (fun n i => l_impl_PoolOk_1 K c n p.fSt (p.fSt.length : Int) i p.fMem p.fSt p.fOwn) (fun n i h => ?_) (fun n => ?_)]
 ·cases (List.range c.fChunks.toNat).all (poolOne c p) <;> rfl
 ·have hs : iSub .i64 c.fSlots 1 = c.fSlots - 1 := by unfold iSub; rw [i64_id (by omega) (by omega)]
  have hl : (chunkL c p.fMem i).length ≤ 140737488355327 := by unfold chunkL; simp; omega
  simp only [l_impl_PoolOk_1, j_impl_PoolOk_2, j_impl_PoolOk_3]
  rw [chunk_impl hK hc (h1.trans hby) (by omega) (by omega), iAdd1 (by omega), decide_eq_true (show (i : Int) < (p.fSt.length : Int) by omega), cond_true, if_pos ⟨by omega, by omega⟩, within_eq, within_eq, hs]
  simp only [Z0, isZero_impl hK _ (show (chunkL c p.fMem i).length ≤ 140737488355328 by omega), bne, show ((0 : Int) ≤ (i : Int) ∧ (i : Int) < (p.fOwn.length : Int)) = True from eq_true ⟨by omega, by omega⟩, if_true]
  unfold poolOne
  cases inB (gt p.fSt i) 0 2 <;> cases (gt p.fSt (i : Int) == 1) <;> cases inB (gt p.fOwn i) 0 (c.fSlots - 1) <;> cases (gt p.fOwn (i : Int) == -1) <;> cases (gt p.fSt (i : Int) == 0) <;> cases zeroB (chunkL c p.fMem i) <;> rfl
 ·show l_impl_PoolOk_1 K c (n + 1) _ _ _ _ _ _ = _
  rw [l_impl_PoolOk_1, hN, decide_eq_false (by omega), cond_false]
end
def thingIn (c : T_impl_Conf) (t : T_impl_Thing) : Prop := confB c = true ∧ 1 ≤ t.fLen ∧ 0 ≤ t.fAt ∧ t.fAt + t.fLen ≤ bytesI c
instance (c t) : Decidable (thingIn c t) := by unfold thingIn; infer_instance
def thingB (c : T_impl_Conf) (t : T_impl_Thing) : Bool :=
 decide (thingIn c t) && (bif t.fRun == 0 then decide (t.fLen ≤ c.fSize) && (t.fAt / c.fSize == (t.fAt + t.fLen - 1) / c.fSize) else decide (t.fLen > c.fSize) && (t.fRun == ceilI t.fLen c.fSize && t.fAt % c.fSize == 0))
theorem thing_tail (K : Nat) {c : T_impl_Conf} {t : T_impl_Thing} (h : thingIn c t) :
  (bif (t.fRun == 0) then (bif (decide (t.fLen ≤ c.fSize)) then (if c.fSize ≠ (0 : Int) then (if c.fSize ≠ (0 : Int) then some ((iQuo .i64 t.fAt c.fSize) == (iQuo .i64 (iSub .i64 (iAdd .i64 t.fAt t.fLen) 1) c.fSize)) else none) else none) else some false) else ((m_spec_IsLarge K c t.fLen).bind fun r2 => (bif r2 then ((m_spec_ChunksFor K c t.fLen).bind fun r3 => (bif (t.fRun == r3) then (if c.fSize ≠ (0 : Int) then some ((Int.tmod t.fAt c.fSize) == 0) else none) else some false)) else some false))) = some (thingB c t) := by
 have hd : decide (thingIn c t) = true := decide_eq_true h
 obtain ⟨hc, h1, h2, h3⟩ := h
 have hb := bytesI_bnd c
 obtain ⟨b1, b2, _⟩ := confB_bounds hc
 unfold thingB m_spec_IsLarge m_spec_ChunksFor
 rw [hd, if_pos (by omega), if_pos (by omega), ceilDiv_spec]
 have e1 : iSub .i64 (iAdd .i64 t.fAt t.fLen) 1 = t.fAt + t.fLen - 1 := by
  unfold iSub iAdd; rw [i64_id (n := t.fAt + t.fLen) (by omega) (by omega), i64_id (by omega) (by omega)]
 have e2 : ∀ x : Int, 0 ≤ x -> x ≤ 192 -> iQuo .i64 x c.fSize = x / c.fSize := by
  intro x h0 hx
  unfold iQuo
  rw [Int.tdiv_eq_ediv_of_nonneg h0]
  have h3 : x / c.fSize ≤ x := Int.ediv_le_self _ h0
  have h4 : 0 ≤ x / c.fSize := Int.ediv_nonneg h0 (by omega)
  rw [i64_id (by omega) (by omega)]
 rw [e1, e2 _ h2 (by omega), e2 _ (by omega) (by omega), Int.tmod_eq_emod_of_nonneg h2]
 simp only [Z0, if_pos (show c.fSize ≠ 0 by omega)]
 cases t.fRun == 0 <;> cases decide (t.fLen ≤ c.fSize) <;> cases decide (t.fLen > c.fSize) <;> cases t.fRun == ceilI t.fLen c.fSize <;> rfl
theorem thing_no {c : T_impl_Conf} {t : T_impl_Thing} (h : ¬ thingIn c t) : thingB c t = false := by
 unfold thingB; rw [decide_eq_false h]; rfl
theorem thingOk_spec (K : Nat) (c : T_impl_Conf) (t : T_impl_Thing) : m_spec_ThingOk K c t = some (thingB c t) := by
 have hb := bytesI_bnd c
 by_cases h : thingIn c t
 ·rw [←thing_tail K h]
  obtain ⟨hc, h1, h2, h3⟩ := h
  unfold m_spec_ThingOk
  rw [bytesOf_spec, Z0, beq_f (by omega), decide_eq_false (by omega), decide_eq_false (by omega), decide_eq_false (by omega)]
  unfold iSub
  rw [i64_id (by omega) (by omega), decide_eq_false (show ¬ t.fLen > bytesI c - t.fAt by omega)]
  simp only [cond_false]
  try rfl
 ·rw [thing_no h]
  unfold m_spec_ThingOk
  rw [bytesOf_spec, Z0]
  by_cases g0 : bytesI c = 0
  ·rw [g0]; rfl
  ·have hc : confB c = true := by
    cases hc : confB c with
    | true => rfl
    | false => exact absurd (by unfold bytesI; rw [hc]; rfl) g0
   rw [beq_f g0, cond_false]
   by_cases g1 : t.fLen < 1
   ·rw [decide_eq_true g1]; rfl
   ·by_cases g2 : t.fAt < 0
    ·rw [decide_eq_false g1, decide_eq_true g2]; rfl
    ·by_cases g3 : t.fAt > bytesI c
     ·rw [decide_eq_false g1, decide_eq_false g2, decide_eq_true g3]; rfl
     ·rw [decide_eq_false g1, decide_eq_false g2, decide_eq_false g3]
      unfold iSub
      rw [i64_id (by omega) (by omega), decide_eq_true (show t.fLen > bytesI c - t.fAt from ?_)]
      ·rfl
      ·refine Classical.byContradiction fun g4 => h ⟨hc, by omega, by omega, by omega⟩
theorem thingOk_impl (K : Nat) (c : T_impl_Conf) (t : T_impl_Thing) : m_impl_ThingOk K c t = some (thingB c t) := by
 have hb := bytesI_bnd c
 by_cases h : thingIn c t
 ·rw [←thing_tail K h]
  obtain ⟨hc, h1, h2, h3⟩ := h
  unfold m_impl_ThingOk
  rw [bytesOf_impl, Z0, decide_eq_false (by omega), decide_eq_false (by omega), decide_eq_false (by omega)]
  unfold iSub
  rw [i64_id (by omega) (by omega), decide_eq_false (show ¬ t.fAt > bytesI c - t.fLen by omega)]
  simp only [cond_false]
  try rfl
 ·rw [thing_no h]
  unfold m_impl_ThingOk
  rw [bytesOf_impl, Z0]
  by_cases g1 : t.fLen ≤ 0
  ·rw [decide_eq_true g1]; rfl
  ·by_cases g2 : t.fAt < 0
   ·rw [decide_eq_false g1, decide_eq_true g2]; rfl
   ·by_cases g3 : t.fLen > bytesI c
    ·rw [decide_eq_false g1, decide_eq_false g2, decide_eq_true g3]; rfl
    ·rw [decide_eq_false g1, decide_eq_false g2, decide_eq_false g3]
     have hc : confB c = true := by
      cases hc : confB c with
      | true => rfl
      | false => exfalso; unfold bytesI at g3; rw [hc] at g3; simp only [cond_false] at g3; omega
     unfold iSub
     rw [i64_id (by omega) (by omega), decide_eq_true (show t.fAt > bytesI c - t.fLen from ?_)]
     ·rfl
     ·refine Classical.byContradiction fun g4 => h ⟨hc, by omega, by omega, by omega⟩
theorem pre_eq {α : Type} (l : List α) (i : Nat) : (l.drop (0 : Int).toNat).take ((i : Int) - 0).toNat = l.take i := by simp
theorem preOk {i n : Nat} (h : i ≤ n) : ((0 : Int) ≤ 0 ∧ (0 : Int) ≤ (i : Int) ∧ (i : Int) ≤ (n : Int)) := ⟨by omega, by omega, by omega⟩
def distB (c : T_impl_Conf) (l : List Int) : Bool := (List.range l.length).all (fun i => inB (gt l i) 0 (c.fChunks - 1) && !(l.take i).contains (gt l i))
def bareB (n : T_impl_Node) : Bool :=
 n.fEp == 0 && (n.fUp == 0 && (n.fUpEp == 0 && (n.fFirst == 0 && (n.fNext == 0 && (n.fPrev == 0 && ((n.fChunks.length : Int) == 0 && (n.fCur == 0 && (n.fBump == 0 && ((n.fThings.length : Int) == 0 && (n.fTags.length : Int) == 0)))))))))
theorem bare_spec (K : Nat) (n) : m_spec_Bare K n = some (bareB n) := by
 simp only [m_spec_Bare, bif_sf, bareB]
theorem equal_nil {K : Nat} (hK : 1 ≤ K) (l : List Int) : m_slices_Equal_int K l [] = some ((l.length : Int) == 0) := by
 obtain ⟨k, rfl⟩ : ∃ k, K = k + 1 := ⟨K - 1, by omega⟩
 cases l with
 | nil => unfold m_slices_Equal_int; rw [l_slices_Equal_int_1]; rfl
 | cons x l => unfold m_slices_Equal_int; rw [bne_t (by simp only [Z28, List.length_nil]; omega), cond_true, beq_f (by simp only [Z28]; omega)]
theorem equal_nilT {K : Nat} (hK : 1 ≤ K) (l : List T_impl_Thing) : m_slices_Equal_impl_Thing K l [] = some ((l.length : Int) == 0) := by
 obtain ⟨k, rfl⟩ : ∃ k, K = k + 1 := ⟨K - 1, by omega⟩
 cases l with
 | nil => unfold m_slices_Equal_impl_Thing; rw [l_slices_Equal_impl_Thing_1]; rfl
 | cons x l => unfold m_slices_Equal_impl_Thing; rw [bne_t (by simp only [Z28, List.length_nil]; omega), cond_true, beq_f (by simp only [Z28]; omega)]
theorem bare_impl {K : Nat} (hK : 1 ≤ K) (n) : m_impl_Bare K n = some (bareB n) := by
 unfold m_impl_Bare m_impl_SameNode
 simp only [beq_self_eq_true, cond_true, equal_nil hK, equal_nilT hK, Z0, bif_sf, bareB]
def curB (c : T_impl_Conf) (n : T_impl_Node) : Bool := bif n.fCur == 0 then n.fBump == 0 else n.fChunks.contains (iSub .i64 n.fCur 1) && inB n.fBump 0 c.fSize
def liveB (c : T_impl_Conf) (n : T_impl_Node) : Bool :=
 (inB n.fUp 0 c.fSlots && (inB n.fFirst 0 c.fSlots && (inB n.fNext 0 c.fSlots && inB n.fPrev 0 c.fSlots))) && ((!decide (n.fEp < 0) && !decide (n.fUpEp < 0)) && ((distB c n.fChunks && curB c n) && ((decide ((n.fThings.length : Int) ≤ 12) && decide ((n.fTags.length : Int) ≤ 6)) && (n.fTags.all (fun x => inB x 0 255) && n.fThings.all (thingB c)))))
def nodeB (c : T_impl_Conf) (n : T_impl_Node) : Bool := confB c && (inB n.fSt 0 3 && (inB n.fGen 1 c.fGens && (bif n.fSt != 1 then bareB n else liveB c n)))
section
variable {K : Nat} (hK : 281474976710656 ≤ K)
include hK
theorem dist_step {c : T_impl_Conf} (hc : confB c = true) : iSub .i64 c.fChunks 1 = c.fChunks - 1 := by
 obtain ⟨b1, _⟩ := confB_bounds hc
 unfold iSub; rw [i64_id (by omega) (by omega)]
theorem distinct_impl {c : T_impl_Conf} (hc : confB c = true) (l : List Int) (hl : l.length ≤ 140737488355327) : m_impl_distinct K c l = some (distB c l) := by
 unfold m_impl_distinct
 rw [alln_ok0 hK l.length (by omega) (fun i => inB (gt l i) 0 (c.fChunks - 1) && !(l.take i).contains (gt l i)) (some true) (fun n i => l_impl_distinct_1 K c l n l (l.length : Int) i) (fun n i h => ?_) (fun n => ?_)]
 ·unfold distB; cases (List.range l.length).all _ <;> rfl
 ·have hp : (l.take i).length ≤ 140737488355328 := by simp; omega
  simp only [l_impl_distinct_1]
  rw [dlt_t h, cond_true, if_pos (chkT h), within_eq, if_pos (preOk (by omega)), pre_eq, contains_ok hK _ _ hp, iAdd1 (by omega), dist_step hK hc]
  simp only [Z0]
  cases inB (gt l i) 0 (c.fChunks - 1) <;> cases (l.take i).contains (gt l i) <;> rfl
 ·show l_impl_distinct_1 K c l (n + 1) _ _ _ = _
  rw [l_impl_distinct_1, dlt_f (Z9 _), cond_false]
theorem l7Chunks_spec {c : T_impl_Conf} (hc : confB c = true) (n : T_impl_Node) (hl : n.fChunks.length ≤ 140737488355327) : m_spec_l7Chunks K c n = some (distB c n.fChunks && curB c n) := by
 unfold m_spec_l7Chunks
 rw [alln_ok0 hK n.fChunks.length (by omega) (fun i => inB (gt n.fChunks i) 0 (c.fChunks - 1) && !(n.fChunks.take i).contains (gt n.fChunks i)) (some (curB c n)) (fun k i => l_spec_l7Chunks_1 K c k i n.fSt n.fGen n.fEp n.fUp n.fUpEp n.fFirst n.fNext n.fPrev n.fChunks n.fCur n.fBump n.fThings n.fTags) (fun k i h => ?_) (fun k => ?_)]
 ·rw [bif_sf]; rfl
 ·have hp : (n.fChunks.take i).length ≤ 140737488355328 := by simp; omega
  simp only [l_spec_l7Chunks_1]
  rw [dlt_t h, cond_true, if_pos (chkT h), l1In_eq, if_pos (preOk (by omega)), pre_eq, l7Has_ok hK _ _ hp, iAdd1 (by omega), dist_step hK hc]
  simp only [Z0, if_pos (chkT h)]
  cases inB (gt n.fChunks i) 0 (c.fChunks - 1) <;> cases (n.fChunks.take i).contains (gt n.fChunks i) <;> rfl
 ·show l_spec_l7Chunks_1 K c (k + 1) _ _ _ _ _ _ _ _ _ _ _ _ _ _ = _
  rw [l_spec_l7Chunks_1, dlt_f (Z9 _), cond_false, l7Has_ok hK _ _ (by omega), l1In_eq]
  unfold curB
  simp only [Z0, bif_sf]
  cases n.fCur == 0 <;> rfl
theorem areBytes_impl (l : List Int) (hl : l.length ≤ 140737488355328) : m_impl_areBytes K l = some (l.all (fun x => inB x 0 255)) := by
 unfold m_impl_areBytes m_slices_ContainsFunc_int_impl_areBytes_1 m_slices_IndexFunc_int_impl_areBytes_1
 rw [cont_ok hK l hl (m_impl_areBytes_1 K) (fun x => !inB x 0 255) (fun x _ => by simp [m_impl_areBytes_1, within_eq]) (l_slices_IndexFunc_int_impl_areBytes_1_1 K l) (fun n N i => rfl)]
 simp only [Z0, List.not_any_eq_all_not, Bool.not_not]
theorem nodeOk_spec (c : T_impl_Conf) (n : T_impl_Node) (h1 : n.fChunks.length ≤ 140737488355327) (h2 : n.fThings.length ≤ 140737488355327) (h3 : n.fTags.length ≤ 140737488355327) : m_spec_NodeOk K c n = some (nodeB c n) := by
 unfold m_spec_NodeOk
 rw [confOk_spec, bare_spec]
 simp only [Z0, l1In_eq]
 cases hc : confB c with
 | false => simp [nodeB, hc]
 | true =>
 rw [l7Chunks_spec hK hc n h1]
 have hA : l_spec_NodeOk_2 K n.fTags K 0 = some (n.fTags.all (fun x => inB x 0 255)) := by
  rw [all_ok0 hK n.fTags (by omega) (fun x => inB x 0 255) (some true) (l_spec_NodeOk_2 K n.fTags) (fun k i h => ?_) (fun k => ?_)]
  ·cases n.fTags.all (fun x => inB x 0 255) <;> rfl
  ·rw [l_spec_NodeOk_2, dlt_t h, cond_true, if_pos (chkT h), gt_nat h, l1In_eq, iAdd1 (by omega), Z0, bif_not]
  ·rw [l_spec_NodeOk_2, dlt_f (Z9 _), cond_false]
 have hB : l_spec_NodeOk_1 K c K 0 n.fSt n.fGen n.fEp n.fUp n.fUpEp n.fFirst n.fNext n.fPrev n.fChunks n.fCur n.fBump n.fThings n.fTags = some (n.fTags.all (fun x => inB x 0 255) && n.fThings.all (thingB c)) := by
  rw [all_ok0 hK n.fThings (by omega) (thingB c) (some (n.fTags.all (fun x => inB x 0 255))) (fun k i => l_spec_NodeOk_1 K c k i n.fSt n.fGen n.fEp n.fUp n.fUpEp n.fFirst n.fNext n.fPrev n.fChunks n.fCur n.fBump n.fThings n.fTags) (fun k i h => ?_) (fun k => ?_)]
  ·rw [bif_sf, Bool.and_comm]
  ·simp only [l_spec_NodeOk_1]
   rw [dlt_t h, cond_true, if_pos (chkT h), gt_nat h, thingOk_spec, iAdd1 (by omega), Z0, bif_not]
  ·show l_spec_NodeOk_1 K c (k + 1) _ _ _ _ _ _ _ _ _ _ _ _ _ _ = _
   rw [l_spec_NodeOk_1, dlt_f (Z9 _), cond_false, hA]
 rw [hB]
 have e12 : decide ((n.fThings.length : Int) > 12) = !decide ((n.fThings.length : Int) ≤ 12) := by rw [←decide_not]; congr 1; simp
 have e6 : decide ((n.fTags.length : Int) > 6) = !decide ((n.fTags.length : Int) ≤ 6) := by rw [←decide_not]; congr 1; simp
 simp only [Z0, cond_true, e12, e6, bif_not, bif_sf, bif_fs]
 unfold nodeB liveB
 rw [hc]
 cases n.fSt != 1 with
 | true => simp only [cond_true, bif_sf, Z30]
 | false =>
  simp only [cond_false, bif_sf, Z30, Z7]
  ac_rfl
theorem nodeOk_impl (c : T_impl_Conf) (n : T_impl_Node) (h1 : n.fChunks.length ≤ 140737488355327) (h2 : n.fThings.length ≤ 140737488355327) (h3 : n.fTags.length ≤ 140737488355327) : m_impl_NodeOk K c n = some (nodeB c n) := by
 unfold m_impl_NodeOk
 rw [confOk_impl, bare_impl (by omega)]
 simp only [Z0, within_eq]
 cases hc : confB c with
 | false => simp [nodeB, hc]
 | true =>
 have hT : m_slices_ContainsFunc_impl_Thing_impl_NodeOk_1 K n.fThings c = some (n.fThings.any (fun t => !thingB c t)) :=
  cont_ok hK n.fThings (by omega) (fun t => m_impl_NodeOk_1 K t c) (fun t => !thingB c t) (fun x _ => by simp [m_impl_NodeOk_1, thingOk_impl]) (l_slices_IndexFunc_impl_Thing_impl_NodeOk_1_1 K n.fThings c) (fun n N i => rfl)
 have hJ : j_impl_NodeOk_2 K c n.fThings n.fTags = some ((decide ((n.fThings.length : Int) ≤ 12) && decide ((n.fTags.length : Int) ≤ 6)) && (n.fTags.all (fun x => inB x 0 255) && n.fThings.all (thingB c))) := by
  unfold j_impl_NodeOk_2
  rw [hT, areBytes_impl hK _ (by omega)]
  simp only [Z0, bif_sf, List.not_any_eq_all_not, Bool.not_not, Z7]
  ac_rfl
 obtain ⟨_, b2, _⟩ := confB_bounds hc
 have hB : l_impl_NodeOk_1 K c K ([n.fUp, n.fFirst, n.fNext, n.fPrev] : List Int) (([n.fUp, n.fFirst, n.fNext, n.fPrev] : List Int).length : Int) 0 n.fSt n.fGen n.fEp n.fUp n.fUpEp n.fFirst n.fNext n.fPrev n.fChunks n.fCur n.fBump n.fThings n.fTags = some (liveB c n) := by
  rw [all_ok0 hK ([n.fUp, n.fFirst, n.fNext, n.fPrev] : List Int) (by simp) (fun x => inB x 0 c.fSlots) (some ((!decide (n.fEp < 0) && !decide (n.fUpEp < 0)) && ((distB c n.fChunks && curB c n) && ((decide ((n.fThings.length : Int) ≤ 12) && decide ((n.fTags.length : Int) ≤ 6)) && (n.fTags.all (fun x => inB x 0 255) && n.fThings.all (thingB c)))))) (fun k i => l_impl_NodeOk_1 K c k ([n.fUp, n.fFirst, n.fNext, n.fPrev] : List Int) (([n.fUp, n.fFirst, n.fNext, n.fPrev] : List Int).length : Int) i n.fSt n.fGen n.fEp n.fUp n.fUpEp n.fFirst n.fNext n.fPrev n.fChunks n.fCur n.fBump n.fThings n.fTags) (fun k i h => ?_) (fun k => ?_)]
  ·unfold liveB
   rw [bif_sf]
   simp only [Z51, List.all_nil, Bool.and_true]
  ·simp only [l_impl_NodeOk_1]
   rw [dlt_t h, cond_true, if_pos (chkT h), gt_nat h, within_eq, iAdd1 (by simp at h ⊢; omega), Z0, bif_not]
  ·show l_impl_NodeOk_1 K c (k + 1) _ _ _ _ _ _ _ _ _ _ _ _ _ _ _ _ = _
   rw [l_impl_NodeOk_1, dlt_f (Z9 _), cond_false, hJ, distinct_impl hK hc _ h1, contains_ok hK _ _ (by omega), within_eq]
   simp only [Z0, bne, bif_not, bif_sf, bif_fs]
   unfold curB
   have hz : (n.fBump == 0) = true -> inB n.fBump 0 c.fSize = true := by
    intro h; rw [beq_iff_eq] at h; rw [inB_iff]; omega
   cases e0 : n.fCur == 0 with
   | true =>
    simp only [cond_true, bif_sf, bif_fs, Bool.not_not, bif_not, cond_false]
    cases e1 : n.fBump == 0 with
    | true => rw [hz e1]; simp only [Z30, Bool.and_true]; simp only [Z7]; ac_rfl
    | false => cases inB n.fBump 0 c.fSize <;> cases decide (n.fEp < 0) <;> cases decide (n.fUpEp < 0) <;> cases distB c n.fChunks <;> rfl
   | false =>
    simp only [cond_false, bif_sf, bif_fs, Z7]
    ac_rfl
 rw [hB]
 simp only [cond_true, bif_not, bif_sf]
 unfold nodeB
 rw [hc]
 cases n.fSt != 1 <;> simp only [cond_true, cond_false, bif_sf, Z30]
end
theorem allG_ok {α β : Type} (l : List α) (q : α -> Bool) (fin bad : Option β) (L : Nat -> Int -> Option β)
  (hs : ∀ n (i : Nat) (h : i < l.length), L (n + 1) (i : Int) = bif q l[i] then L n ((i + 1 : Nat) : Int) else bad)
  (he : ∀ n, L (n + 1) (l.length : Int) = fin) :
  ∀ (n i : Nat), i ≤ l.length -> l.length - i < n -> L n (i : Int) = bif (l.drop i).all q then fin else bad := by
 intro n
 induction n with
 | zero => intro i _ h; omega
 | succ n ih =>
  intro i hi hn
  rcases Z18 i l.length with h | h
  ·rw [hs n i h, Z47 h, Z51]
   cases q l[i] with
   | false => rfl
   | true => rw [cond_true, ih (i + 1) h (by omega)]; rfl
  ·obtain rfl : i = l.length := by omega
   rw [he, List.drop_length]; rfl
theorem allGn_ok0 {β : Type} {K : Nat} (hK : 281474976710656 ≤ K) (N : Nat) (hl : N ≤ 140737488355328) (q : Nat -> Bool) (fin bad : Option β) (L : Nat -> Int -> Option β)
  (hs : ∀ n (i : Nat) (h : i < N), L (n + 1) (i : Int) = bif q i then L n ((i + 1 : Nat) : Int) else bad)
  (he : ∀ n, L (n + 1) (N : Int) = fin) : L K 0 = bif (List.range N).all q then fin else bad := by
 have := allG_ok (List.range N) q fin bad L (fun n i h => by rw [List.getElem_range]; exact hs n i (by simpa using h)) (fun n => by rw [List.length_range]; exact he n) K 0 (Z21 _) (by simp; omega)
 simpa using this
def smallT (t : T_impl_Thing) : Prop := 0 ≤ t.fAt ∧ t.fAt ≤ 200 ∧ 0 ≤ t.fLen ∧ t.fLen ≤ 200
theorem small_of {c : T_impl_Conf} {t : T_impl_Thing} (h : thingB c t = true) : smallT t ∧ thingIn c t := by
 have h1 : thingIn c t := by
  unfold thingB at h
  rw [Z4] at h
  exact of_decide_eq_true h.1
 have hb := bytesI_bnd c
 obtain ⟨h2, h3, h4, h5⟩ := h1
 exact ⟨⟨h4, by omega, by omega, by omega⟩, h2, h3, h4, h5⟩
def apartB (a b : T_impl_Thing) : Bool := decide (a.fLen ≤ 0 ∨ b.fLen ≤ 0 ∨ a.fAt + a.fLen ≤ b.fAt ∨ b.fAt + b.fLen ≤ a.fAt)
theorem apartB_comm (a b : T_impl_Thing) : apartB a b = apartB b a := by
 unfold apartB
 rw [decide_eq_decide]
 omega
theorem apart_spec (K : Nat) {a b : T_impl_Thing} (ha : smallT a) (hb : smallT b) : m_spec_Apart K a b = some (apartB a b) := by
 obtain ⟨a1, a2, a3, a4⟩ := ha
 obtain ⟨b1, b2, b3, b4⟩ := hb
 unfold m_spec_Apart iSub
 rw [i64_id (n := b.fAt - a.fAt) (by omega) (by omega), i64_id (n := a.fAt - b.fAt) (by omega) (by omega)]
 simp only [bif_ts]
 have : ∀ x : Bool, x = apartB a b -> some x = some (apartB a b) := fun x h => by rw [h]
 by_cases h : a.fAt ≤ b.fAt
 ·rw [decide_eq_true h, cond_true, bif_ts, bif_ts]
  refine this _ ?_
  rw [Bool.eq_iff_iff]
  simp only [apartB, Bool.or_eq_true, decide_eq_true_eq]
  omega
 ·rw [decide_eq_false h, cond_false, bif_ts, bif_ts]
  refine this _ ?_
  rw [Bool.eq_iff_iff]
  simp only [apartB, Bool.or_eq_true, decide_eq_true_eq]
  omega
theorem apart_impl (K : Nat) {a b : T_impl_Thing} (ha : smallT a) (hb : smallT b) : m_impl_Apart K a b = some (apartB a b) := by
 obtain ⟨a1, a2, a3, a4⟩ := ha
 obtain ⟨b1, b2, b3, b4⟩ := hb
 unfold m_impl_Apart j_impl_Apart_1 iSub
 simp only [IntKind.wrap_u64]
 have : ∀ x : Bool, x = apartB a b -> some x = some (apartB a b) := fun x h => by rw [h]
 by_cases h : a.fAt > b.fAt
 ·rw [decide_eq_true h, cond_true, bif_ts, bif_ts]
  refine this _ ?_
  rw [Bool.eq_iff_iff]
  simp only [apartB, Bool.or_eq_true, decide_eq_true_eq]
  omega
 ·rw [decide_eq_false h, cond_false, bif_ts, bif_ts]
  refine this _ ?_
  rw [Bool.eq_iff_iff]
  simp only [apartB, Bool.or_eq_true, decide_eq_true_eq]
  omega
def allApartB (l : List T_impl_Thing) : Bool := (List.range l.length).all (fun i => (l.take i).all (fun o => apartB o (gt l i)))
def inChB (c : T_impl_Conf) (chunks : List Int) (t : T_impl_Thing) : Bool :=
 thingB c t && (List.range ((t.fAt + t.fLen - 1) / c.fSize - t.fAt / c.fSize + 1).toNat).all (fun j => chunks.contains (t.fAt / c.fSize + (j : Int)))
theorem thing_div {c : T_impl_Conf} {t : T_impl_Thing} (h : thingB c t = true) :
  c.fSize ≠ 0 ∧ iQuo .i64 t.fAt c.fSize = t.fAt / c.fSize ∧ iQuo .i64 (iSub .i64 (iAdd .i64 t.fAt t.fLen) 1) c.fSize = (t.fAt + t.fLen - 1) / c.fSize ∧ 0 ≤ t.fAt / c.fSize ∧ t.fAt / c.fSize ≤ (t.fAt + t.fLen - 1) / c.fSize ∧ (t.fAt + t.fLen - 1) / c.fSize ≤ 192 := by
 obtain ⟨hs, hc, h1, h2, h3⟩ := small_of h
 have hb := bytesI_bnd c
 obtain ⟨b1, b2, _⟩ := confB_bounds hc
 have e1 : iSub .i64 (iAdd .i64 t.fAt t.fLen) 1 = t.fAt + t.fLen - 1 := by
  unfold iSub iAdd; rw [i64_id (n := t.fAt + t.fLen) (by omega) (by omega), i64_id (by omega) (by omega)]
 have e2 : ∀ x : Int, 0 ≤ x -> x ≤ 192 -> iQuo .i64 x c.fSize = x / c.fSize ∧ 0 ≤ x / c.fSize ∧ x / c.fSize ≤ 192 := by
  intro x h0 hx
  have h3 : x / c.fSize ≤ x := Int.ediv_le_self _ h0
  have h4 : 0 ≤ x / c.fSize := Int.ediv_nonneg h0 (by omega)
  refine ⟨?_, h4, by omega⟩
  unfold iQuo
  rw [Int.tdiv_eq_ediv_of_nonneg h0, i64_id (by omega) (by omega)]
 obtain ⟨x1, x2, x3⟩ := e2 t.fAt h2 (by omega)
 obtain ⟨y1, y2, y3⟩ := e2 (t.fAt + t.fLen - 1) (by omega) (by omega)
 refine ⟨by omega, x1, by rw [e1, y1], x2, Int.ediv_le_ediv (by omega) (by omega), y3⟩
theorem iAddS {a : Int} {j : Nat} (h0 : 0 ≤ a) (h : a + j ≤ 140737488355328) : iAdd .i64 (a + (j : Int)) 1 = a + ((j + 1 : Nat) : Int) := by
 unfold iAdd; rw [i64_id (by omega) (by omega)]; omega
section
variable {K : Nat} (hK : 281474976710656 ≤ K)
include hK
theorem allApart_spec (l : List T_impl_Thing) (hl : l.length ≤ 140737488355327) (hs : ∀ t ∈ l, smallT t) : m_spec_AllApart K l = some (allApartB l) := by
 unfold m_spec_AllApart allApartB
 rw [alln_ok0 hK l.length (by omega) (fun i => (l.take i).all (fun o => apartB o (gt l i))) (some true) (fun n i => l_spec_AllApart_1 K l n i) (fun n i h => ?_) (fun n => ?_)]
 ·cases (List.range l.length).all _ <;> rfl
 ·simp only [l_spec_AllApart_1]
  rw [dlt_t h, cond_true]
  have hlen : (l.take i).length = i := by simp; omega
  rw [all_ok0 hK (l.take i) (by omega) (fun o => apartB o (gt l i)) (l_spec_AllApart_1 K l n (iAdd .i64 i 1)) (fun m j => l_spec_AllApart_2 K l i (l_spec_AllApart_1 K l n) m j) (fun m j hj => ?_) (fun m => ?_)]
  ·rw [iAdd1 (by omega)]
  ·have hj' : j < i := by omega
   simp only [l_spec_AllApart_2]
   rw [dlt_t hj', cond_true, if_pos (chkT h), if_pos (chkT (show j < l.length by omega)), apart_spec K (hs _ (gt_mem h)) (hs _ (gt_mem (show j < l.length by omega))), Z0, bif_not, iAdd1 (by omega), apartB_comm, List.getElem_take, gt_nat (show j < l.length by omega)]
  ·show l_spec_AllApart_2 K l i _ (m + 1) _ = _
   rw [l_spec_AllApart_2, hlen, dlt_f (Z9 _), cond_false]
 ·show l_spec_AllApart_1 K l (n + 1) _ = _
  rw [l_spec_AllApart_1, dlt_f (Z9 _), cond_false]
theorem allApart_impl (l : List T_impl_Thing) (hl : l.length ≤ 140737488355327) (hs : ∀ t ∈ l, smallT t) : m_impl_AllApart K l = some (allApartB l) := by
 unfold m_impl_AllApart allApartB
 rw [alln_ok0 hK l.length (by omega) (fun i => (l.take i).all (fun o => apartB o (gt l i))) (some true) (fun n i => l_impl_AllApart_1 K l n l (l.length : Int) i) (fun n i h => ?_) (fun n => ?_)]
 ·cases (List.range l.length).all _ <;> rfl
 ·simp only [l_impl_AllApart_1]
  have hlen : (l.take i).length = i := by simp; omega
  have hC : m_slices_ContainsFunc_impl_Thing_impl_AllApart_1 K (l.take i) (gt l i) = some ((l.take i).any (fun o => !apartB o (gt l i))) :=
   cont_ok hK (l.take i) (by omega) (fun t => m_impl_AllApart_1 K t (gt l i)) (fun o => !apartB o (gt l i)) (fun x hx => by
    unfold m_impl_AllApart_1
    rw [apart_impl K (hs _ (Z42 hx)) (hs _ (gt_mem h))]; rfl) (l_slices_IndexFunc_impl_Thing_impl_AllApart_1_1 K (l.take i) (gt l i)) (fun n N i => rfl)
  rw [dlt_t h, cond_true, if_pos (chkT h), if_pos (preOk (by omega)), pre_eq, hC, iAdd1 (by omega), Z0, List.any_eq_not_all_not, bif_not]
  simp only [Bool.not_not]
 ·show l_impl_AllApart_1 K l (n + 1) _ _ _ = _
  rw [l_impl_AllApart_1, dlt_f (Z9 _), cond_false]
theorem inChunks_impl (c : T_impl_Conf) (n : T_impl_Node) (h1 : n.fChunks.length ≤ 140737488355327) (h2 : n.fThings.length ≤ 140737488355327) : m_impl_InChunks K c n = some (n.fThings.all (inChB c n.fChunks)) := by
 unfold m_impl_InChunks
 have h1t : ∀ t, m_impl_InChunks_1 K t c n = some (!inChB c n.fChunks t) := by
  intro t
  unfold m_impl_InChunks_1 inChB
  rw [thingOk_impl, Z0, bif_not]
  cases ht : thingB c t with
  | false => rfl
  | true =>
   obtain ⟨d0, d1, d2, d3, d4, d5⟩ := thing_div ht
   rw [cond_true, if_pos d0, d1]
   have := allGn_ok0 hK ((t.fAt + t.fLen - 1) / c.fSize - t.fAt / c.fSize + 1).toNat (by omega) (fun j => n.fChunks.contains (t.fAt / c.fSize + (j : Int))) (some false) (some true) (fun m j => l_impl_InChunks_1_1 K t c n m (t.fAt / c.fSize + j)) (fun m j hj => ?_) (fun m => ?_)
   ·simp only [Int.add_zero] at this
    rw [this]
    cases (List.range _).all _ <;> rfl
   ·simp only [l_impl_InChunks_1_1]
    rw [if_pos d0, d2, decide_eq_true (by omega), cond_true, contains_ok hK _ _ (by omega), Z0, bif_not, iAddS d3 (by omega)]
   ·show l_impl_InChunks_1_1 K t c n (m + 1) _ = _
    rw [l_impl_InChunks_1_1, if_pos d0, d2, decide_eq_false (by omega), cond_false]
 have hC : m_slices_ContainsFunc_impl_Thing_impl_InChunks_1 K n.fThings c n = some (n.fThings.any (fun t => !inChB c n.fChunks t)) :=
  cont_ok hK n.fThings (by omega) (fun t => m_impl_InChunks_1 K t c n) (fun t => !inChB c n.fChunks t) (fun x _ => h1t x) (l_slices_IndexFunc_impl_Thing_impl_InChunks_1_1 K n.fThings c n) (fun n N i => rfl)
 rw [hC]
 simp only [Z0, List.not_any_eq_all_not, Bool.not_not]
theorem inChunks_spec (c : T_impl_Conf) (n : T_impl_Node) (h1 : n.fChunks.length ≤ 140737488355327) (h2 : n.fThings.length ≤ 140737488355327) : m_spec_InChunks K c n = some (n.fThings.all (inChB c n.fChunks)) := by
 unfold m_spec_InChunks
 rw [all_ok0 hK n.fThings (by omega) (inChB c n.fChunks) (some true) (fun k i => l_spec_InChunks_1 K c k i n.fSt n.fGen n.fEp n.fUp n.fUpEp n.fFirst n.fNext n.fPrev n.fChunks n.fCur n.fBump n.fThings n.fTags) (fun k i h => ?_) (fun k => ?_)]
 ·cases n.fThings.all _ <;> rfl
 ·simp only [l_spec_InChunks_1]
  rw [dlt_t h, cond_true, if_pos (chkT h), gt_nat h, thingOk_spec, Z0, bif_not]
  unfold inChB
  generalize n.fThings[i] = t
  cases ht : thingB c t with
  | false => rfl
  | true =>
   obtain ⟨d0, d1, d2, d3, d4, d5⟩ := thing_div ht
   rw [cond_true, if_pos d0, d1, Z30]
   have := alln_ok0 hK ((t.fAt + t.fLen - 1) / c.fSize - t.fAt / c.fSize + 1).toNat (by omega) (fun j => n.fChunks.contains (t.fAt / c.fSize + (j : Int))) (l_spec_InChunks_1 K c k ((i + 1 : Nat) : Int) n.fSt n.fGen n.fEp n.fUp n.fUpEp n.fFirst n.fNext n.fPrev n.fChunks n.fCur n.fBump n.fThings n.fTags)
    (fun m j => l_spec_InChunks_2 K c i n.fSt n.fGen n.fEp n.fUp n.fUpEp n.fFirst n.fNext n.fPrev n.fChunks n.fCur n.fBump n.fThings n.fTags (l_spec_InChunks_1 K c k) m (t.fAt / c.fSize + j) t) (fun m j hj => ?_) (fun m => ?_)
   ·simp only [Int.add_zero] at this
    exact this
   ·simp only [l_spec_InChunks_2]
    rw [if_pos d0, d2, decide_eq_true (by omega), cond_true, l7Has_ok hK _ _ (by omega), Z0, bif_not, iAddS d3 (by omega)]
   ·show l_spec_InChunks_2 K c i _ _ _ _ _ _ _ _ _ _ _ _ _ _ (m + 1) _ _ = _
    rw [l_spec_InChunks_2, if_pos d0, d2, decide_eq_false (by omega), cond_false, iAdd1 (by omega)]
 ·show l_spec_InChunks_1 K c (k + 1) _ _ _ _ _ _ _ _ _ _ _ _ _ _ = _
  rw [l_spec_InChunks_1, dlt_f (Z9 _), cond_false]
end
def wfi (x : Int) : Prop := -9223372036854775808 ≤ x ∧ x ≤ 9223372036854775807
def IntsW (l : List Int) : Prop := (∀ x ∈ l, wfi x) ∧ l.length * 8 ≤ 140737488355327
def BytesW (l : List Int) : Prop := (∀ x ∈ l, 0 ≤ x ∧ x ≤ 255) ∧ l.length ≤ 140737488355327
def ThingW (t : T_impl_Thing) : Prop := wfi t.fAt ∧ wfi t.fLen ∧ wfi t.fRun
def ThingsW (l : List T_impl_Thing) : Prop := (∀ x ∈ l, ThingW x) ∧ l.length * 24 ≤ 140737488355327
structure NodeW (n : T_impl_Node) : Prop where
 st : wfi n.fSt
 gen : wfi n.fGen
 ep : wfi n.fEp
 up : wfi n.fUp
 upEp : wfi n.fUpEp
 first : wfi n.fFirst
 next : wfi n.fNext
 prev : wfi n.fPrev
 chunks : IntsW n.fChunks
 cur : wfi n.fCur
 bump : wfi n.fBump
 things : ThingsW n.fThings
 tags : IntsW n.fTags
def NodesW (l : List T_impl_Node) : Prop := (∀ x ∈ l, NodeW x) ∧ l.length * 152 ≤ 140737488355327
structure WasteW (x : T_impl_Waste) : Prop where
 slot : wfi x.fSlot
 first : wfi x.fFirst
 tags : IntsW x.fTags
 chunks : IntsW x.fChunks
 done : wfi x.fDone
def WastesW (l : List T_impl_Waste) : Prop := (∀ x ∈ l, WasteW x) ∧ l.length * 72 ≤ 140737488355327
structure ConfW (c : T_impl_Conf) : Prop where
 chunks : wfi c.fChunks
 size : wfi c.fSize
 slots : wfi c.fSlots
 tax : wfi c.fTax
 slice : wfi c.fSlice
 gens : wfi c.fGens
structure PoolW (p : T_impl_Pool) : Prop where
 mem : BytesW p.fMem
 st : IntsW p.fSt
 own : IntsW p.fOwn
structure WorldW (w : T_impl_World) : Prop where
 c : ConfW w.fC
 p : PoolW w.fP
 l : NodesW w.fL
 q : WastesW w.fQ
 log : IntsW w.fLog
theorem maxLen_ge : 140737488355328 ≤ maxLen := by unfold maxLen; omega
theorem both_self {α : Type} (x : Option α) : both x x = x := by simp [both]
theorem clone_int (K : Nat) {l : List Int} (h : l.length * 8 ≤ 140737488355327) : m_slices_Clone_int K l = some l := by
 have hm := maxLen_ge
 unfold m_slices_Clone_int
 rw [Z38, if_pos ⟨by omega, by omega⟩]
 cases l with
 | nil => exact both_self _
 | cons x l => rfl
theorem clone_byte (K : Nat) {l : List Int} (h : l.length ≤ 140737488355327) : m_slices_Clone_byte K l = some l := by
 have hm := maxLen_ge
 unfold m_slices_Clone_byte
 rw [Z38, if_pos ⟨by omega, by omega⟩]
 cases l with
 | nil => exact both_self _
 | cons x l => rfl
theorem clone_thing (K : Nat) {l : List T_impl_Thing} (h : l.length * 24 ≤ 140737488355327) : m_slices_Clone_impl_Thing K l = some l := by
 have hm := maxLen_ge
 unfold m_slices_Clone_impl_Thing
 rw [Z38, if_pos ⟨by omega, by omega⟩]
 cases l with
 | nil => exact both_self _
 | cons x l => rfl
theorem filt_ok {α : Type} (N : Nat) (q : Nat -> Bool) (g : Nat -> α) (L : Nat -> List α -> Int -> Option (List α))
  (hs : ∀ n v (i : Nat), i < N -> v.length ≤ i -> L (n + 1) v (i : Int) = bif q i then L n (v ++ [g i]) ((i + 1 : Nat) : Int) else L n v ((i + 1 : Nat) : Int))
  (he : ∀ n v, L (n + 1) v (N : Int) = some v) :
  ∀ (n i : Nat) (v : List α), i ≤ N -> v.length ≤ i -> N - i < n -> L n v (i : Int) = some (v ++ (((List.range N).drop i).filter q).map g) := by
 intro n
 induction n with
 | zero => intro i v _ _ h; omega
 | succ n ih =>
  intro i v hi hv hn
  rcases Z18 i N with h | h
  ·rw [hs n v i h hv, Z47 (by simpa using h), List.getElem_range, List.filter_cons]
   cases hq : q i with
   | true =>
    rw [cond_true, ih (i + 1) _ h (by simp; omega) (by omega)]
    simp
   | false =>
    rw [cond_false, ih (i + 1) _ h (by omega) (by omega)]
    simp
  ·obtain rfl : i = N := by omega
   rw [he, Z48 (by simp)]; simp
def ownedL (p : T_impl_Pool) (k : Int) : List Int := ((List.range (min p.fSt.length p.fOwn.length)).filter (fun i : Nat => gt p.fSt i == 1 && gt p.fOwn i == k)).map (fun i : Nat => (i : Int))
theorem ownedL_len (p : T_impl_Pool) (k : Int) : (ownedL p k).length ≤ min p.fSt.length p.fOwn.length := by
 unfold ownedL
 rw [Z11]
 exact Z57 (List.length_filter_le _ _) (by simp)
theorem ownedL_sorted (p : T_impl_Pool) (k : Int) : (ownedL p k).Pairwise (fun a b => a < b) := by
 unfold ownedL
 rw [List.pairwise_map]
 exact (List.Pairwise.filter _ List.pairwise_lt_range).imp fun h => by omega
theorem perm_of_sub {l : List Int} : ∀ {o : List Int}, o.Nodup -> (∀ x ∈ o, x ∈ l) -> o.length = l.length -> o.Perm l := by
 intro o
 induction o generalizing l with
 | nil => intro _ _ h; cases l with
  | nil => exact .nil
  | cons _ _ => simp at h
 | cons x o ih =>
  intro hn hs hl
  have hx : x ∈ l := hs x (by simp)
  rw [List.nodup_cons] at hn
  have h2 : o.Perm (l.erase x) := ih hn.2 (fun y hy => by
   have hne : y ≠ x := fun e => hn.1 (e ▸ hy)
   exact (List.mem_erase_of_ne hne).2 (hs y (by simp [hy]))) (by rw [List.length_erase_of_mem hx]; simp at hl; omega)
  exact (List.Perm.cons x h2).trans (List.perm_cons_erase hx).symm
def chunksB (p : T_impl_Pool) (k : Int) (l : List Int) : Bool := (ownedL p k).all (fun x => l.contains x) && ((ownedL p k).length : Int) == (l.length : Int)
theorem sort_eq (p : T_impl_Pool) (k : Int) (l : List Int) : decide (l.mergeSort (fun x y => decide (x ≤ y)) = ownedL p k) = chunksB p k l := by
 rw [Bool.eq_iff_iff]
 unfold chunksB
 simp only [decide_eq_true_eq, Z4, Z1, List.contains_iff_mem, beq_iff_eq]
 have hp := List.mergeSort_perm l (fun x y => decide (x ≤ y))
 constructor
 ·intro e
  rw [e] at hp
  exact ⟨fun x hx => hp.mem_iff.1 hx, by have := hp.length_eq; omega⟩
 ·rintro ⟨h1, h2⟩
  have hn : (ownedL p k).Nodup := (ownedL_sorted p k).imp fun h => by omega
  have h3 := perm_of_sub hn h1 (by omega)
  refine List.Perm.eq_of_pairwise (le := fun a b => a ≤ b) (fun a b _ _ h1 h2 => by omega) ?_ ((ownedL_sorted p k).imp fun h => by omega) (hp.trans h3.symm)
  have := List.pairwise_mergeSort (le := fun x y : Int => decide (x ≤ y)) (fun a b c h1 h2 => by simp at *; omega) (fun a b => by simp; omega) l
  exact this.imp fun h => by simpa using h
theorem all_gt_eq {a b : List Int} (h : a.length = b.length) : (List.range a.length).all (fun i => gt a i == gt b i) = decide (a = b) := by
 rw [Bool.eq_iff_iff]
 simp only [Z1, List.mem_range, beq_iff_eq, decide_eq_true_eq]
 constructor
 ·intro h1
  refine List.ext_getElem h fun i h2 h3 => ?_
  have := h1 i h2
  rwa [gt_nat h2, gt_nat h3] at this
 ·rintro rfl _ _; rfl
section
variable {K : Nat} (hK : 281474976710656 ≤ K)
include hK
theorem equal_int (a b : List Int) (ha : a.length ≤ 140737488355327) : m_slices_Equal_int K a b = some (decide (a = b)) := by
 unfold m_slices_Equal_int
 by_cases h : a.length = b.length
 ·rw [show ((a.length : Int) != (b.length : Int)) = false by simp [h], cond_false, ←all_gt_eq h]
  rw [alln_ok0 hK a.length (by omega) (fun i => gt a i == gt b i) (some true) (fun n i => l_slices_Equal_int_1 K a b n (a.length : Int) i) (fun n i hi => ?_) (fun n => ?_)]
  ·cases (List.range a.length).all _ <;> rfl
  ·simp only [l_slices_Equal_int_1]
   rw [dlt_t hi, cond_true, if_pos (chkT hi), if_pos (chkT (show i < b.length by omega)), iAdd1 (by omega), bne, bif_not]
  ·show l_slices_Equal_int_1 K a b (n + 1) _ _ = _
   rw [l_slices_Equal_int_1, dlt_f (Z9 _), cond_false]
 ·rw [bne_t (by omega), cond_true, decide_eq_false (fun e => h (by rw [e]))]
theorem ownedBy_spec (p : T_impl_Pool) (k : Int) (h1 : p.fSt.length * 8 ≤ 140737488355327) : m_spec_OwnedBy K p k = some (ownedL p k) := by
 have hm := maxLen_ge
 unfold m_spec_OwnedBy
 have := filt_ok (min p.fSt.length p.fOwn.length) (fun i : Nat => gt p.fSt i == 1 && gt p.fOwn i == k) (fun i : Nat => (i : Int)) (fun n v i => l_spec_OwnedBy_1 K k n v i p.fMem p.fSt p.fOwn) (fun n v i hi hv => ?_) (fun n v => ?_) K 0 [] (Z21 _) (Z9 _) (by omega)
 ·simpa [ownedL] using this
 ·have h2 : (v ++ ([(i : Int)] : List Int)).length = v.length + 1 := by simp
  simp only [l_spec_OwnedBy_1, j_spec_OwnedBy_2]
  rw [dlt_t (by omega), dlt_t (by omega), cond_true, cond_true, if_pos (chkT (by omega)), if_pos (chkT (by omega)), iAdd1 (by omega), if_pos ⟨by rw [h2]; omega, by rw [h2]; omega⟩]
  cases gt p.fSt (i : Int) == 1 <;> cases gt p.fOwn (i : Int) == k <;> rfl
 ·show l_spec_OwnedBy_1 K k (n + 1) v _ _ _ _ = _
  rw [l_spec_OwnedBy_1]
  rcases Nat.le_total p.fSt.length p.fOwn.length with h | h
  ·rw [Nat.min_eq_left h, dlt_f (Z9 _), cond_false]
  ·rw [Nat.min_eq_right h, dlt_f (Z9 p.fOwn.length), cond_false, cc]
theorem ownedBy_impl (p : T_impl_Pool) (k : Int) (h1 : p.fSt.length * 8 ≤ 140737488355327) : m_impl_OwnedBy K p k = some (ownedL p k) := by
 have hm := maxLen_ge
 unfold m_impl_OwnedBy
 have e : iMin (p.fSt.length : Int) (p.fOwn.length : Int) = ((min p.fSt.length p.fOwn.length : Nat) : Int) := by unfold iMin; split <;> omega
 rw [e]
 have := filt_ok (min p.fSt.length p.fOwn.length) (fun i : Nat => gt p.fSt i == 1 && gt p.fOwn i == k) (fun i : Nat => (i : Int)) (fun n v i => l_impl_OwnedBy_1 K k n v ((min p.fSt.length p.fOwn.length : Nat) : Int) i p.fMem p.fSt p.fOwn) (fun n v i hi hv => ?_) (fun n v => ?_) K 0 [] (Z21 _) (Z9 _) (by omega)
 ·simpa [ownedL] using this
 ·have h2 : (v ++ ([(i : Int)] : List Int)).length = v.length + 1 := by simp
  simp only [l_impl_OwnedBy_1, j_impl_OwnedBy_2]
  rw [dlt_t hi, cond_true, if_pos (chkT (by omega)), if_pos (chkT (by omega)), iAdd1 (by omega), if_pos ⟨by rw [h2]; omega, by rw [h2]; omega⟩]
  cases gt p.fSt (i : Int) == 1 <;> cases gt p.fOwn (i : Int) == k <;> rfl
 ·show l_impl_OwnedBy_1 K k (n + 1) v _ _ _ _ _ = _
  rw [l_impl_OwnedBy_1, dlt_f (Z9 _), cond_false]
theorem l13Chunks_spec (w : T_impl_World) (k : Nat) (hk : k < w.fL.length) (h1 : w.fP.fSt.length * 8 ≤ 140737488355327) (h2 : (gt w.fL k).fChunks.length ≤ 140737488355327) : m_spec_l13Chunks K w k = some (chunksB w.fP k (gt w.fL k).fChunks) := by
 unfold m_spec_l13Chunks
 rw [ownedBy_spec hK _ _ h1, Z0]
 have hl := ownedL_len w.fP k
 rw [all_ok0 hK (ownedL w.fP k) (by omega) (fun x => (gt w.fL k).fChunks.contains x) (some (((ownedL w.fP k).length : Int) == ((gt w.fL k).fChunks.length : Int))) (fun n i => l_spec_l13Chunks_1 K k (ownedL w.fP k) n i w.fC.fChunks w.fC.fSize w.fC.fSlots w.fC.fTax w.fC.fSlice w.fC.fGens w.fP.fMem w.fP.fSt w.fP.fOwn w.fL w.fQ w.fLog) (fun n i hi => ?_) (fun n => ?_)]
 ·rw [bif_sf]; rfl
 ·simp only [l_spec_l13Chunks_1]
  rw [dlt_t hi, cond_true, if_pos (chkT hk), if_pos (chkT hi), l7Has_ok hK _ _ (by omega), Z0, bif_not, iAdd1 (by omega), gt_nat hi]
 ·show l_spec_l13Chunks_1 K k (ownedL w.fP k) (n + 1) _ _ _ _ _ _ _ _ _ _ _ _ _ = _
  rw [l_spec_l13Chunks_1, dlt_f (Z9 _), cond_false, if_pos (chkT hk)]
end
def restT (c : T_impl_Conf) (n : T_impl_Node) : T_impl_Thing := T_impl_Thing.mk ((n.fCur - 1) * c.fSize + n.fBump) (c.fSize - n.fBump) 0
def looseB (c : T_impl_Conf) (mem : List Int) (n : T_impl_Node) : Bool :=
 n.fCur == 0 || (zeroB ((mem.drop (restT c n).fAt.toNat).take (restT c n).fLen.toNat) && n.fThings.all (fun t => apartB t (restT c n)))
theorem node_live {c : T_impl_Conf} {n : T_impl_Node} (h : nodeB c n = true) (h1 : n.fSt = 1) : confB c = true ∧ liveB c n = true := by
 unfold nodeB at h
 simp only [Z4] at h
 refine ⟨h.1, ?_⟩
 have := h.2.2.2
 rw [h1] at this
 exact this
theorem node_bare {c : T_impl_Conf} {n : T_impl_Node} (h : nodeB c n = true) (h1 : n.fSt ≠ 1) : bareB n = true := by
 unfold nodeB at h
 simp only [Z4] at h
 have := h.2.2.2
 rw [bne_t h1] at this
 exact this
theorem cur_in {c : T_impl_Conf} {n : T_impl_Node} (hw : NodeW n) (h : nodeB c n = true) (h1 : n.fCur ≠ 0) : n.fSt = 1 ∧ 1 ≤ n.fCur ∧ n.fCur ≤ c.fChunks ∧ 0 ≤ n.fBump ∧ n.fBump ≤ c.fSize := by
 by_cases h2 : n.fSt = 1
 ·refine ⟨h2, ?_⟩
  obtain ⟨hc, hl⟩ := node_live h h2
  obtain ⟨b1, _⟩ := confB_bounds hc
  unfold liveB at hl
  simp only [Z4] at hl
  have hd := hl.2.2.1.1
  have hcu := hl.2.2.1.2
  unfold curB at hcu
  rw [beq_f h1, cond_false, Z4, List.contains_iff_mem, inB_iff] at hcu
  obtain ⟨i, hi, e⟩ := List.mem_iff_getElem.1 hcu.1
  unfold distB at hd
  rw [Z1] at hd
  have := hd i (by simpa using hi)
  rw [Z4, gt_nat hi, e, inB_iff] at this
  have h3 := this.1
  obtain ⟨w1, w2⟩ := hw.cur
  unfold iSub at h3
  rw [IntKind.wrap_i64] at h3
  refine ⟨by omega, by omega, hcu.2.1, hcu.2.2⟩
 ·have := node_bare h h2
  unfold bareB at this
  simp only [Z4, beq_iff_eq] at this
  exact absurd this.2.2.2.2.2.2.2.1 h1
theorem rest_at {c : T_impl_Conf} {p : T_impl_Pool} {n : T_impl_Node} (hp : poolB c p = true) (hw : NodeW n) (h : nodeB c n = true) (h1 : n.fCur ≠ 0) :
  iAdd .i64 (iMul .i64 (iSub .i64 n.fCur 1) c.fSize) n.fBump = (restT c n).fAt ∧ iSub .i64 c.fSize n.fBump = (restT c n).fLen ∧ iMul .i64 n.fCur c.fSize = (restT c n).fAt + (restT c n).fLen ∧ smallT (restT c n) ∧ (restT c n).fAt + (restT c n).fLen ≤ (p.fMem.length : Int) := by
 obtain ⟨h2, c1, c2, c3, c4⟩ := cur_in hw h h1
 obtain ⟨hc, hm, _⟩ := poolB_len hp
 obtain ⟨b1, b2, _⟩ := confB_bounds hc
 have m1 := mul_bnd (a := n.fCur - 1) (b := c.fSize) (m := 11) (n := 16) (by omega) (by omega) (by omega) b2.2
 have e2 : n.fCur * c.fSize = (n.fCur - 1) * c.fSize + c.fSize := by rw [Int.sub_mul, Int.one_mul]; omega
 have m2 : n.fCur * c.fSize ≤ c.fChunks * c.fSize := Int.mul_le_mul_of_nonneg_right (by omega) (by omega)
 unfold restT smallT iAdd iSub iMul
 simp only
 rw [i64_id (n := n.fCur - 1) (by omega) (by omega), i64_id (n := (n.fCur - 1) * c.fSize) (by omega) (by omega), i64_id (n := (n.fCur - 1) * c.fSize + n.fBump) (by omega) (by omega), i64_id (n := c.fSize - n.fBump) (by omega) (by omega), i64_id (n := n.fCur * c.fSize) (by omega) (by omega)]
 refine ⟨rfl, rfl, by omega, ⟨by omega, by omega, by omega, by omega⟩, by omega⟩
theorem all_smallT {c : T_impl_Conf} {l : List T_impl_Thing} {ch : List Int} (h : l.all (inChB c ch) = true) : ∀ t ∈ l, smallT t ∧ 1 ≤ t.fLen := by
 intro t ht
 rw [Z1] at h
 have := h t ht
 unfold inChB at this
 rw [Z4] at this
 obtain ⟨h1, h2⟩ := small_of this.1
 exact ⟨h1, h2.2.1⟩
def slotB (w : T_impl_World) (k : Nat) : Bool :=
 nodeB w.fC (gt w.fL k) && (chunksB w.fP k (gt w.fL k).fChunks && ((gt w.fL k).fThings.all (inChB w.fC (gt w.fL k).fChunks) && (allApartB (gt w.fL k).fThings && looseB w.fC w.fP.fMem (gt w.fL k))))
section
variable {K : Nat} (hK : 281474976710656 ≤ K)
include hK
theorem len8 {l : List Int} (h : IntsW l) : l.length ≤ 140737488355327 := by have := h.2; omega
theorem len24 {l : List T_impl_Thing} (h : ThingsW l) : l.length ≤ 140737488355327 := by have := h.2; omega
theorem loose_spec (w : T_impl_World) (k : Nat) (hk : k < w.fL.length) (hp : poolB w.fC w.fP = true) (hw : NodeW (gt w.fL k)) (hn : nodeB w.fC (gt w.fL k) = true) (hs : ∀ t ∈ (gt w.fL k).fThings, smallT t ∧ 1 ≤ t.fLen) : m_spec_l13Loose K w k = some (looseB w.fC w.fP.fMem (gt w.fL k)) := by
 unfold m_spec_l13Loose
 rw [if_pos (chkT hk)]
 unfold looseB
 by_cases h1 : (gt w.fL k).fCur = 0
 ·rw [h1]; rfl
 ·rw [beq_f h1, cond_false]
  obtain ⟨e1, e2, e3, ⟨s1, s2, s3, s4⟩, s5⟩ := rest_at hp hw hn h1
  rw [e1, e3]
  generalize hr : restT w.fC (gt w.fL k) = r at *
  rcases (show r.fLen = 0 ∨ 1 ≤ r.fLen by omega) with h2 | h2
  ·rw [decide_eq_true (show r.fAt ≥ r.fAt + r.fLen by omega), cond_true, h2]
   have : (gt w.fL k).fThings.all (fun t => apartB t r) = true := by
    rw [Z1]; intro t _
    exact decide_eq_true (.inr (.inl (by omega)))
   rw [this]; simp [zeroB]
  ·rw [decide_eq_false (show ¬ r.fAt ≥ r.fAt + r.fLen by omega), cond_false]
   have hlt := len24 hK hw.things
   have hz : List.take (r.fAt + r.fLen - r.fAt).toNat (List.drop r.fAt.toNat w.fP.fMem) = List.take r.fLen.toNat (List.drop r.fAt.toNat w.fP.fMem) := by rw [show r.fAt + r.fLen - r.fAt = r.fLen by omega]
   rw [all_ok0 hK (gt w.fL k).fThings (by omega) (fun t => apartB t r) (some (zeroB (List.take r.fLen.toNat (List.drop r.fAt.toNat w.fP.fMem)))) (fun m i => l_spec_l13Loose_1 K m r.fAt (r.fAt + r.fLen) i (gt w.fL k).fSt (gt w.fL k).fGen (gt w.fL k).fEp (gt w.fL k).fUp (gt w.fL k).fUpEp (gt w.fL k).fFirst (gt w.fL k).fNext (gt w.fL k).fPrev (gt w.fL k).fChunks (gt w.fL k).fCur (gt w.fL k).fBump (gt w.fL k).fThings (gt w.fL k).fTags w.fC.fChunks w.fC.fSize w.fC.fSlots w.fC.fTax w.fC.fSlice w.fC.fGens w.fP.fMem w.fP.fSt w.fP.fOwn w.fL w.fQ w.fLog) (fun m i hi => ?_) (fun m => ?_)]
   ·rw [bif_sf, Bool.and_comm]; rfl
   ·simp only [l_spec_l13Loose_1, j_spec_l13Loose_2]
    obtain ⟨⟨t1, t2, t3, t4⟩, t5⟩ := hs _ (gt_mem hi)
    rw [dlt_t hi, cond_true, if_pos (chkT hi), iAdd1 (by omega), ←gt_nat hi]
    generalize gt (gt w.fL k).fThings i = t at *
    unfold iAdd
    rw [i64_id (n := t.fAt + t.fLen) (by omega) (by omega)]
    unfold apartB
    by_cases g1 : t.fAt < r.fAt + r.fLen
    ·by_cases g2 : t.fAt + t.fLen > r.fAt
     ·rw [decide_eq_true g1, decide_eq_true g2, decide_eq_false (by omega)]; rfl
     ·rw [decide_eq_true g1, decide_eq_false g2, decide_eq_true (by omega)]; rfl
    ·rw [decide_eq_false g1, decide_eq_true (show t.fLen ≤ 0 ∨ r.fLen ≤ 0 ∨ t.fAt + t.fLen ≤ r.fAt ∨ r.fAt + r.fLen ≤ t.fAt by omega)]; rfl
   ·show l_spec_l13Loose_1 K (m + 1) _ _ _ _ _ _ _ _ _ _ _ _ _ _ _ _ _ _ _ _ _ _ _ _ _ _ _ _ = _
    rw [l_spec_l13Loose_1, dlt_f (Z9 _), cond_false, if_pos ⟨s1, by omega, s5⟩, isZero_spec hK _ (by simp; omega), hz, Z0]
theorem sort_int (l : List Int) (h : IntsW l) : m_slices_Sort_int K l = some (l.mergeSort fun x y => decide (x ≤ y)) := by
 have := h.2
 unfold m_slices_Sort_int
 rw [if_pos (by omega)]
theorem slotsOk_impl (w : T_impl_World) (hw : WorldW w) (hp : poolB w.fC w.fP = true) : m_impl_World_slotsOk K w = some ((List.range w.fL.length).all (slotB w)) := by
 unfold m_impl_World_slotsOk
 have hlL := hw.l.2
 rw [alln_ok0 hK w.fL.length (by omega) (slotB w) (some true) (fun m i => l_impl_World_slotsOk_1 K m w.fL (w.fL.length : Int) i w.fC.fChunks w.fC.fSize w.fC.fSlots w.fC.fTax w.fC.fSlice w.fC.fGens w.fP.fMem w.fP.fSt w.fP.fOwn w.fL w.fQ w.fLog) (fun m k hk => ?_) (fun m => ?_)]
 ·cases (List.range w.fL.length).all _ <;> rfl
 ·simp only [l_impl_World_slotsOk_1, j_impl_World_slotsOk_2]
  rw [show T_impl_Conf.mk w.fC.fChunks w.fC.fSize w.fC.fSlots w.fC.fTax w.fC.fSlice w.fC.fGens = w.fC from rfl, show T_impl_Pool.mk w.fP.fMem w.fP.fSt w.fP.fOwn = w.fP from rfl]
  have hn := hw.l.1 _ (gt_mem hk)
  unfold slotB
  generalize hN : gt w.fL k = n at *
  have l1 := len8 hK hn.chunks
  have l2 := len24 hK hn.things
  have l3 := len8 hK hn.tags
  rw [dlt_t hk, cond_true, if_pos (chkT hk), clone_int K hn.chunks.2, Z0, sort_int hK _ hn.chunks, Z0, if_pos (List.length_mergeSort _), nodeOk_impl hK _ _ l1 l2 l3, Z0, ownedBy_impl hK _ _ hw.p.st.2, iAdd1 (by omega)]
  simp only [Z0]
  rw [equal_int hK _ _ (by rw [List.length_mergeSort]; exact l1), sort_eq, inChunks_impl hK _ _ l1 l2]
  simp only [Z0]
  cases hb : nodeB w.fC n with
  | false => rfl
  | true =>
  cases chunksB w.fP k n.fChunks with
  | false => rfl
  | true =>
  cases hi : n.fThings.all (inChB w.fC n.fChunks) with
  | false => rfl
  | true =>
  have hs := all_smallT hi
  rw [allApart_impl hK _ l2 (fun t ht => (hs t ht).1)]
  simp only [Z0, cond_true, bif_not, Z30]
  cases allApartB n.fThings with
  | false => rfl
  | true =>
  simp only [cond_true, Z30]
  unfold looseB
  by_cases h1 : n.fCur = 0
  ·rw [h1]; rfl
  ·rw [beq_f h1, cond_false, Z52]
   obtain ⟨e1, e2, e3, s, s5⟩ := rest_at hp hn hb h1
   have hmk : T_impl_Thing.mk (restT w.fC n).fAt (restT w.fC n).fLen 0 = restT w.fC n := rfl
   rw [e1, e2]
   simp only [hmk]
   generalize hr : restT w.fC n = r at *
   obtain ⟨s1, s2, s3, s4⟩ := s
   have e4 : iAdd .i64 r.fAt r.fLen = r.fAt + r.fLen := by unfold iAdd; rw [i64_id (by omega) (by omega)]
   have hC : m_slices_ContainsFunc_impl_Thing_impl_World_slotsOk_1 K n.fThings r = some (n.fThings.any (fun t => !apartB t r)) :=
    cont_ok hK n.fThings (by omega) (fun t => m_impl_World_slotsOk_1 K t r) (fun t => !apartB t r) (fun x hx => by
     unfold m_impl_World_slotsOk_1
     rw [apart_impl K (hs _ hx).1 ⟨s1, s2, s3, s4⟩]; rfl) (l_slices_IndexFunc_impl_Thing_impl_World_slotsOk_1_1 K n.fThings r) (fun n N i => rfl)
   rw [e4, if_pos ⟨s1, by omega, s5⟩, show r.fAt + r.fLen - r.fAt = r.fLen by omega, isZero_impl hK _ (by simp; omega), hC, List.any_eq_not_all_not]
   simp only [Z0, Bool.not_not]
   cases zeroB (List.take r.fLen.toNat (List.drop r.fAt.toNat w.fP.fMem)) <;> cases n.fThings.all (fun t => apartB t r) <;> rfl
 ·show l_impl_World_slotsOk_1 K (m + 1) _ _ _ _ _ _ _ _ _ _ _ _ _ _ _ = _
  rw [l_impl_World_slotsOk_1, dlt_f (Z9 _), cond_false]
end
section
variable {K : Nat} (hK : 281474976710656 ≤ K)
theorem nodes_len {l : List T_impl_Node} (w : NodesW l) : l.length ≤ 140737488355327 := by have := w.2; omega
theorem place_in (K : Nat) {α : Type} {l : List α} (hl : l.length ≤ 140737488355327) (k : Int) : m_spec_l1In K k 0 (iSub .i64 (l.length : Int) 1) = some (decide (0 ≤ k ∧ k < (l.length : Int))) := by
 unfold m_spec_l1In iSub
 rw [i64_id (by omega) (by omega)]
 by_cases h : (0 : Int) ≤ k
 ·rw [decide_eq_true (show k ≥ 0 from h)]
  simp only [cond_true, Z7, decide_eq_decide]
  omega
 ·rw [decide_eq_false (show ¬ k ≥ 0 from h)]
  simp only [cond_false, Z7]
  exact (decide_eq_false (by omega)).symm
theorem within_in (K : Nat) {α : Type} {l : List α} (hl : l.length ≤ 140737488355327) (k : Int) : m_impl_within K k 0 (iSub .i64 (l.length : Int) 1) = some (decide (0 ≤ k ∧ k < (l.length : Int))) := place_in K hl k
theorem isSlot_eq (K : Nat) {l : List T_impl_Node} (hl : l.length ≤ 140737488355327) (k : Int) : m_impl_isSlot K l k = some (decide (0 ≤ k ∧ k < (l.length : Int))) := by
 unfold m_impl_isSlot
 rw [within_in K hl]; rfl
theorem l9Place_eq (K : Nat) (l : List T_impl_Node) (k : Int) : m_spec_l9Place K l k = some (decide (1 ≤ k ∧ k ≤ (l.length : Int))) := by
 unfold m_spec_l9Place
 by_cases h : (1 : Int) ≤ k
 ·rw [decide_eq_true (show k ≥ 1 from h)]
  simp only [cond_true, Z7, decide_eq_decide]
  omega
 ·rw [decide_eq_false (show ¬ k ≥ 1 from h)]
  simp only [cond_false, Z7]
  exact (decide_eq_false (by omega)).symm
def placeL (l : List T_impl_Node) (h : T_impl_Handle) : Int := if (0 ≤ h.fSlot ∧ h.fSlot < (l.length : Int)) ∧ (gt l h.fSlot).fSt = 1 ∧ (gt l h.fSlot).fGen = h.fGen then h.fSlot else -1
theorem placeOf_spec (K : Nat) {l : List T_impl_Node} (hl : l.length ≤ 140737488355327) (h : T_impl_Handle) : m_spec_PlaceOf K l h = some (placeL l h) := by
 unfold m_spec_PlaceOf placeL
 rw [place_in K hl]
 simp only [Z0]
 by_cases hs : 0 ≤ h.fSlot ∧ h.fSlot < (l.length : Int)
 ·rw [decide_eq_true hs]
  simp only [cond_true, if_pos hs]
  by_cases h1 : (gt l h.fSlot).fSt = 1
  ·by_cases h2 : (gt l h.fSlot).fGen = h.fGen
   ·rw [if_pos ⟨hs, h1, h2⟩]; simp [h1, h2]
   ·rw [if_neg (fun h => h2 h.2.2), bne_t h2]; simp [h1]
  ·rw [if_neg (fun h => h1 h.2.1), bne_t h1]; rfl
 ·rw [decide_eq_false hs]
  simp only [cond_false]
  rw [if_neg (fun h => hs h.1)]
theorem placeOf_impl (K : Nat) {l : List T_impl_Node} (hl : l.length ≤ 140737488355327) (h : T_impl_Handle) : m_impl_PlaceOf K l h = some (placeL l h) := by
 rw [←placeOf_spec K hl]
 unfold m_spec_PlaceOf m_impl_PlaceOf
 rw [place_in K hl, isSlot_eq K hl]
theorem placeL_in {l : List T_impl_Node} {h : T_impl_Handle} (h0 : ¬ placeL l h < 0) : 0 ≤ placeL l h ∧ placeL l h < (l.length : Int) := by
 unfold placeL at *
 split at h0
 ·rename_i h1; rw [if_pos h1]; exact h1.1
 ·omega
def riseL (l : List T_impl_Node) : Nat -> Int -> List Int
 | 0, _ => []
 | n + 1, k => if 0 ≤ k ∧ k < (l.length : Int) then k :: riseL l n (iSub .i64 (gt l k).fUp 1) else []
theorem rise_in {l : List T_impl_Node} : ∀ (n : Nat) (k : Int), ∀ x ∈ riseL l n k, 0 ≤ x ∧ x < (l.length : Int) := by
 intro n
 induction n with
 | zero => intro k x hx; cases hx
 | succ n ih =>
  intro k x hx
  unfold riseL at hx
  split at hx
  ·rename_i h
   rcases Z20.1 hx with rfl | hx
   ·exact h
   ·exact ih _ x hx
  ·cases hx
theorem rise_len {l : List T_impl_Node} : ∀ (n : Nat) (k : Int), (riseL l n k).length ≤ n := by
 intro n
 induction n with
 | zero => intro k; exact Z9 _
 | succ n ih =>
  intro k
  unfold riseL
  split
  ·simp only [Z28]; have := ih (iSub .i64 (gt l k).fUp 1); omega
  ·exact Z21 _
def chainL (l : List T_impl_Node) : List Int -> Prop
 | x :: y :: r => iSub .i64 (gt l x).fUp 1 = y ∧ chainL l (y :: r)
 | _ => True
theorem rise_chain {l : List T_impl_Node} : ∀ (n : Nat) (k : Int), chainL l (riseL l n k) := by
 intro n
 induction n with
 | zero => intro k; trivial
 | succ n ih =>
  intro k
  unfold riseL
  split
  ·have h1 := ih (iSub .i64 (gt l k).fUp 1)
   cases n with
   | zero => trivial
   | succ n =>
    rw [riseL] at h1 ⊢
    split at h1
    ·rename_i h2; rw [if_pos h2]; exact ⟨rfl, h1⟩
    ·rename_i h2; rw [if_neg h2]; trivial
  ·trivial
theorem rise_spec {l : List T_impl_Node} (w : NodesW l) : ∀ (n : Nat) (k : Int) (v : List Int), -9223372036854775808 ≤ k ∧ k ≤ 9223372036854775807 -> v.length ≤ l.length -> l.length - v.length < n -> l_spec_Rise_1 K l n k v = some (v ++ riseL l (l.length - v.length) k) := by
 have hb : l.length * 152 ≤ 140737488355327 := w.2
 intro n
 induction n with
 | zero => intro k v _ _ h; omega
 | succ n ih =>
  intro k v hk hv hn
  rw [l_spec_Rise_1, l9Place_eq]
  simp only [Z0]
  have e : decide (1 ≤ iAdd .i64 k 1 ∧ iAdd .i64 k 1 ≤ (l.length : Int)) = decide (0 ≤ k ∧ k < (l.length : Int)) := by
   rw [decide_eq_decide]
   unfold iAdd
   rw [IntKind.wrap_i64]
   omega
  rw [e]
  by_cases hs : 0 ≤ k ∧ k < (l.length : Int)
  ·rw [decide_eq_true hs]
   simp only [cond_true]
   rcases Z18 v.length l.length with h | h
   ·rw [dlt_t h]
    simp only [cond_true]
    have hl2 : (v ++ [k]).length = v.length + 1 := by simp
    rw [if_pos ⟨by rw [hl2]; omega, by rw [hl2]; unfold maxLen; omega⟩, if_pos hs, ih (iSub .i64 (gt l k).fUp 1) _ (i64_in _) (by rw [hl2]; omega) (by rw [hl2]; omega), hl2]
    obtain ⟨m, hm⟩ : ∃ m, l.length - v.length = m + 1 := ⟨l.length - v.length - 1, by omega⟩
    rw [hm, riseL, if_pos hs, show l.length - (v.length + 1) = m from by omega]
    simp
   ·rw [dlt_f h]
    rw [show l.length - v.length = 0 from by omega]
    simp [riseL]
  ·rw [decide_eq_false hs]
   have : riseL l (l.length - v.length) k = [] := by
    cases l.length - v.length with
    | zero => rfl
    | succ m => rw [riseL, if_neg hs]
   rw [this]
   simp
theorem rise_impl {l : List T_impl_Node} (w : NodesW l) : ∀ (n : Nat) (k : Int) (v : List Int), v.length ≤ l.length -> l.length - v.length < n -> l_impl_Rise_1 K l n k v = some (v ++ riseL l (l.length - v.length) k) := by
 have hb : l.length * 152 ≤ 140737488355327 := w.2
 intro n
 induction n with
 | zero => intro k v _ h; omega
 | succ n ih =>
  intro k v hv hn
  rw [l_impl_Rise_1, isSlot_eq K (by omega)]
  simp only [Z0]
  by_cases hs : 0 ≤ k ∧ k < (l.length : Int)
  ·rw [decide_eq_true hs]
   simp only [cond_true]
   rcases Z18 v.length l.length with h | h
   ·rw [dlt_t h]
    simp only [cond_true]
    have hl2 : (v ++ [k]).length = v.length + 1 := by simp
    rw [if_pos ⟨by rw [hl2]; omega, by rw [hl2]; unfold maxLen; omega⟩, if_pos hs, ih _ _ (by rw [hl2]; omega) (by rw [hl2]; omega), hl2]
    obtain ⟨m, hm⟩ : ∃ m, l.length - v.length = m + 1 := ⟨l.length - v.length - 1, by omega⟩
    rw [hm, riseL, if_pos hs, show l.length - (v.length + 1) = m from by omega]
    simp
   ·rw [dlt_f h]
    rw [show l.length - v.length = 0 from by omega]
    simp [riseL]
  ·rw [decide_eq_false hs]
   have : riseL l (l.length - v.length) k = [] := by
    cases l.length - v.length with
    | zero => rfl
    | succ m => rw [riseL, if_neg hs]
   rw [this]
   simp
include hK in
theorem rise_spec0 {l : List T_impl_Node} (w : NodesW l) (k : Int) (hk : -9223372036854775808 ≤ k ∧ k ≤ 9223372036854775807) : m_spec_Rise K l k = some (riseL l l.length k) := by
 have hb := nodes_len w
 unfold m_spec_Rise
 have := rise_spec (K := K) w K k [] hk (Z21 _) (by simp; omega)
 simpa using this
include hK in
theorem rise_impl0 {l : List T_impl_Node} (w : NodesW l) (k : Int) : m_impl_Rise K l k = some (riseL l l.length k) := by
 have hb := nodes_len w
 unfold m_impl_Rise
 have := rise_impl (K := K) w K k [] (Z21 _) (by simp; omega)
 simpa using this
def aliveW (l : List T_impl_Node) : List Int -> Bool
 | [] => true
 | [x] => (gt l x).fSt == 1
 | x :: y :: r => ((gt l x).fSt == 1) && ((gt l x).fUpEp == (gt l y).fEp) && aliveW l (y :: r)
def lastUp (l : List T_impl_Node) (way : List Int) : Bool := if 0 < way.length then (gt l (gt way ((way.length - 1 : Nat) : Int))).fUp == 0 else false
theorem final_ok {l : List T_impl_Node} {way : List Int} (hin : ∀ x ∈ way, 0 ≤ x ∧ x < (l.length : Int)) (hlen : way.length ≤ 140737488355327) :
  (bif (decide ((way.length : Int) > 0)) then (if (0 : Int) ≤ (iSub .i64 (way.length : Int) 1) ∧ (iSub .i64 (way.length : Int) 1) < (way.length : Int) then (if (0 : Int) ≤ (gt way (iSub .i64 (way.length : Int) 1)) ∧ (gt way (iSub .i64 (way.length : Int) 1)) < (l.length : Int) then some (((gt l (gt way (iSub .i64 (way.length : Int) 1))).fUp) == 0) else none) else none) else some false) = some (lastUp l way) := by
 unfold lastUp
 rcases Z36 way.length with h | h
 ·rw [decide_eq_false (show ¬ (way.length : Int) > 0 by omega)]
  simp only [cond_false]
  rw [if_neg (show ¬ 0 < way.length by omega)]
 ·rw [if_pos h, decide_eq_true (by omega)]
  simp only [cond_true]
  have e : iSub .i64 (way.length : Int) 1 = ((way.length - 1 : Nat) : Int) := by unfold iSub; rw [i64_id (by omega) (by omega)]; omega
  rw [e, if_pos ⟨by omega, by omega⟩, if_pos (hin _ (gt_mem (by omega)))]
theorem drop_two {way : List Int} {i : Nat} (h : i < way.length) : way.drop i = way[i] :: way.drop (i + 1) := by
 rw [Z47 h]
theorem alive_impl {l : List T_impl_Node} {way : List Int} (hin : ∀ x ∈ way, 0 ≤ x ∧ x < (l.length : Int)) (hlen : way.length ≤ 140737488355327) : ∀ (n i : Nat), i ≤ way.length -> way.length - i < n -> l_impl_Alive_1 K l way n way (way.length : Int) (i : Int) = some (aliveW l (way.drop i) && lastUp l way) := by
 intro n
 induction n with
 | zero => intro i _ h; omega
 | succ n ih =>
  intro i hi hn
  rw [l_impl_Alive_1]
  unfold j_impl_Alive_2
  rcases Z18 i way.length with h | h
  ·rw [dlt_t h]
   simp only [cond_true]
   rw [if_pos ⟨by omega, by omega⟩, if_pos (hin _ (gt_mem h)), drop_two h, iAdd1 (by omega), ←gt_nat h]
   rcases Z18 (i + 1) way.length with h2 | h2
   ·rw [dlt_t h2, drop_two h2, ←gt_nat h2]
    simp only [cond_true]
    rw [if_pos (hin _ (gt_mem h)), if_pos ⟨by omega, by omega⟩, if_pos (hin _ (gt_mem h2)), ih (i + 1) h (by omega), drop_two h2, ←gt_nat h2, aliveW]
    generalize gt way ((i + 1 : Nat) : Int) = y
    generalize gt way (i : Int) = x
    by_cases c1 : (gt l x).fSt = 1
    ·by_cases c2 : (gt l x).fUpEp = (gt l y).fEp
     ·simp [c1, c2]
     ·rw [bne_t c2, beq_f c2]; simp [c1]
    ·rw [bne_t c1, beq_f c1]; simp
   ·rw [dlt_f h2, ih (i + 1) h (by omega), show way.drop (i + 1) = [] from Z48 h2]
    simp only [cond_false, aliveW]
    by_cases c1 : (gt l (gt way (i : Int))).fSt = 1
    ·simp [c1]
    ·rw [bne_t c1, beq_f c1]; simp
  ·rw [dlt_f h, show way.drop i = [] from Z48 h]
   simp only [cond_false, aliveW, Z30]
   exact final_ok hin hlen
theorem l9In_eq {l : List T_impl_Node} (w : NodesW l) {x y : Int} (hx : 0 ≤ x ∧ x < (l.length : Int)) (hy : 0 ≤ y ∧ y < (l.length : Int)) (h : iSub .i64 (gt l x).fUp 1 = y) : m_spec_l9In K l x = some (((gt l y).fSt == 1) && ((gt l y).fEp == (gt l x).fUpEp)) := by
 have hl := nodes_len w
 unfold m_spec_l9In
 rw [if_pos hx, l9Place_eq]
 simp only [Z0]
 obtain ⟨hr1, hr2⟩ := (w.1 _ (gt_memI hx.1 hx.2)).up
 have hp : 1 ≤ (gt l x).fUp ∧ (gt l x).fUp ≤ (l.length : Int) := by
  unfold iSub at h
  rw [IntKind.wrap_i64] at h
  omega
 rw [decide_eq_true hp, h]
 simp only [cond_true]
 rw [if_pos hy, if_pos hy, if_pos hx]
 cases (gt l y).fSt == 1 <;> rfl
theorem aliveW_head {l : List T_impl_Node} {y : Int} {r : List Int} (h : (gt l y).fSt ≠ 1) : aliveW l (y :: r) = false := by
 cases r with
 | nil => simp [aliveW, h]
 | cons z r => simp [aliveW, h]
theorem alive_spec {l : List T_impl_Node} (w : NodesW l) {way : List Int} (hin : ∀ x ∈ way, 0 ≤ x ∧ x < (l.length : Int)) (hlen : way.length ≤ 140737488355327) : ∀ (n i : Nat), chainL l (way.drop i) -> i ≤ way.length -> way.length - i < n -> l_spec_Alive_1 K l way n (i : Int) = some (aliveW l (way.drop i) && lastUp l way) := by
 intro n
 induction n with
 | zero => intro i _ _ h; omega
 | succ n ih =>
  intro i hch hi hn
  rw [l_spec_Alive_1]
  unfold j_spec_Alive_2
  rcases Z18 i way.length with h | h
  ·rw [dlt_t h]
   simp only [cond_true]
   rw [drop_two h] at hch
   rw [if_pos ⟨by omega, by omega⟩, if_pos (hin _ (gt_mem h)), drop_two h, iAdd1 (by omega), ←gt_nat h]
   rcases Z18 (i + 1) way.length with h2 | h2
   ·rw [drop_two h2] at hch
    have hc1 := hch.1
    rw [←gt_nat h, ←gt_nat h2] at hc1
    rw [dlt_t h2, drop_two h2, ←gt_nat h2]
    simp only [cond_true]
    rw [if_pos ⟨by omega, by omega⟩, l9In_eq w (hin _ (gt_mem h)) (hin _ (gt_mem h2)) hc1, ih (i + 1) (by rw [drop_two h2]; exact hch.2) h (by omega), drop_two h2, ←gt_nat h2, aliveW]
    generalize gt way ((i + 1 : Nat) : Int) = y
    generalize gt way (i : Int) = x
    by_cases c1 : (gt l x).fSt = 1
    ·by_cases c3 : (gt l y).fSt = 1
     ·by_cases c2 : (gt l x).fUpEp = (gt l y).fEp
      ·simp [c1, c2, c3]
      ·have c2' : ¬ (gt l y).fEp = (gt l x).fUpEp := fun e => c2 e.symm
       rw [beq_f c2, beq_f c2']; simp [c1]
     ·rw [aliveW_head c3, beq_f c3]
      simp [c1]
    ·rw [bne_t c1, beq_f c1]; simp
   ·rw [dlt_f h2, ih (i + 1) (by rw [Z48 h2]; trivial) h (by omega), show way.drop (i + 1) = [] from Z48 h2]
    simp only [cond_false, aliveW]
    by_cases c1 : (gt l (gt way (i : Int))).fSt = 1
    ·simp [c1]
    ·rw [bne_t c1, beq_f c1]; simp
  ·rw [dlt_f h, show way.drop i = [] from Z48 h]
   simp only [cond_false, aliveW, Z30]
   exact final_ok hin hlen
def aliveL (l : List T_impl_Node) (k : Int) : Bool := aliveW l (riseL l l.length k) && lastUp l (riseL l l.length k)
include hK in
theorem alive_spec0 {l : List T_impl_Node} (w : NodesW l) (k : Int) (hk : -9223372036854775808 ≤ k ∧ k ≤ 9223372036854775807) : m_spec_Alive K l k = some (aliveL l k) := by
 have hb := nodes_len w
 have hr := rise_len (l := l) l.length k
 unfold m_spec_Alive
 rw [rise_spec0 hK w k hk]
 exact alive_spec w (rise_in _ _) (by omega) K 0 (rise_chain _ _) (Z21 _) (by omega)
include hK in
theorem alive_impl0 {l : List T_impl_Node} (w : NodesW l) (k : Int) : m_impl_Alive K l k = some (aliveL l k) := by
 have hb := nodes_len w
 have hr := rise_len (l := l) l.length k
 unfold m_impl_Alive
 rw [rise_impl0 hK w k]
 exact alive_impl (rise_in _ _) (by omega) K 0 (Z21 _) (by omega)
def okHandle (h : T_impl_Handle) : Bool := bif decide (h.fSlot ≥ 0) then decide (h.fGen ≥ 1) else false
theorem handleOk_spec (K : Nat) (h : T_impl_Handle) : m_spec_HandleOk K h = some (okHandle h) := by
 unfold m_spec_HandleOk okHandle; cases decide (h.fSlot ≥ 0) <;> rfl
theorem handleOk_impl (K : Nat) (h : T_impl_Handle) : m_impl_HandleOk K h = some (okHandle h) := by
 unfold m_impl_HandleOk okHandle; cases decide (h.fSlot ≥ 0) <;> rfl
def findL (l : List T_impl_Node) (h : T_impl_Handle) : Int × Int := bif okHandle h then (bif decide (placeL l h < 0) then (-1, 2) else (bif aliveL l (placeL l h) then (placeL l h, 0) else (-1, 2))) else (-1, 1)
include hK in
theorem findRoom_spec {w : T_impl_World} (hw : NodesW w.fL) (h : T_impl_Handle) : m_spec_FindRoom K w h = some (findL w.fL h) := by
 have hb := nodes_len hw
 unfold m_spec_FindRoom findL
 rw [handleOk_spec, placeOf_spec K hb]
 simp only [Z0]
 cases okHandle h with
 | false => rfl
 | true =>
  simp only [cond_true]
  cases e : decide (placeL w.fL h < 0) with
  | true => rfl
  | false =>
   have h1 := placeL_in (of_decide_eq_false e)
   simp only [cond_false]
   rw [alive_spec0 hK hw _ ⟨by omega, by omega⟩]
   simp only [Z0]
   cases aliveL w.fL (placeL w.fL h) <;> rfl
include hK in
theorem findRoom_impl {w : T_impl_World} (hw : NodesW w.fL) (h : T_impl_Handle) : m_impl_FindRoom K w h = some (findL w.fL h) := by
 have hb := nodes_len hw
 unfold m_impl_FindRoom findL
 rw [handleOk_impl, placeOf_impl K hb]
 simp only [Z0]
 cases okHandle h with
 | false => rfl
 | true =>
  simp only [cond_true]
  cases e : decide (placeL w.fL h < 0) with
  | true => rfl
  | false =>
   simp only [cond_false]
   rw [alive_impl0 hK hw]
   simp only [Z0]
   cases aliveL w.fL (placeL w.fL h) <;> rfl
theorem findL_in {l : List T_impl_Node} {h : T_impl_Handle} (h0 : (findL l h).2 = 0) : 0 ≤ (findL l h).1 ∧ (findL l h).1 < (l.length : Int) := by
 unfold findL at *
 cases e1 : okHandle h with
 | false => rw [e1] at h0; simp at h0
 | true =>
  rw [e1] at h0
  simp only [cond_true] at *
  cases e : decide (placeL l h < 0) with
  | true => rw [e] at h0; simp at h0
  | false =>
   rw [e] at h0
   simp only [cond_false] at *
   cases e2 : aliveL l (placeL l h) with
   | false => rw [e2] at h0; simp at h0
   | true => exact placeL_in (of_decide_eq_false e)
end
def plB (l : List T_impl_Node) (n : Int) : Bool := decide (0 ≤ iSub .i64 n 1 ∧ iSub .i64 n 1 < (l.length : Int))
theorem plB_in {l : List T_impl_Node} {n : Int} (h : plB l n = true) : 0 ≤ iSub .i64 n 1 ∧ iSub .i64 n 1 < (l.length : Int) := of_decide_eq_true h
theorem place_impl (K : Nat) {l : List T_impl_Node} (hl : l.length ≤ 140737488355327) (n : Int) : m_impl_isSlot K l (iSub .i64 n 1) = some (plB l n) := isSlot_eq K hl _
theorem place_spec (K : Nat) {l : List T_impl_Node} (hl : l.length ≤ 140737488355327) {n : Int} (hn : wfi n) : m_spec_l9Place K l n = some (plB l n) := by
 rw [l9Place_eq]
 unfold plB
 obtain ⟨h1, h2⟩ := hn
 congr 1
 rw [decide_eq_decide]
 unfold iSub
 rw [IntKind.wrap_i64]
 omega
def curIn (l : List T_impl_Node) (k : Int) : Bool := plB l (gt l k).fUp && ((gt l (iSub .i64 (gt l k).fUp 1)).fSt == 1 && (gt l (iSub .i64 (gt l k).fUp 1)).fEp == (gt l k).fUpEp)
theorem l9In_spec (K : Nat) {l : List T_impl_Node} (w : NodesW l) {k : Int} (h : 0 ≤ k ∧ k < (l.length : Int)) : m_spec_l9In K l k = some (curIn l k) := by
 unfold m_spec_l9In curIn
 rw [if_pos h, place_spec K (nodes_len w) (w.1 _ (gt_memI h.1 h.2)).up, Z0, if_pos h]
 cases hp : plB l (gt l k).fUp with
 | false => rfl
 | true =>
  have := plB_in hp
  rw [cond_true, if_pos this, if_pos this]
  cases (gt l (iSub .i64 (gt l k).fUp 1)).fSt == 1 <;> rfl
theorem isCurrent_impl (K : Nat) {l : List T_impl_Node} (w : NodesW l) {k : Int} (h : 0 ≤ k ∧ k < (l.length : Int)) : m_impl_isCurrent K l k = some (curIn l k) := by
 unfold m_impl_isCurrent curIn
 rw [if_pos h, place_impl K (nodes_len w), Z0, if_pos h]
 cases hp : plB l (gt l k).fUp with
 | false => rfl
 | true =>
  have := plB_in hp
  rw [cond_true, if_pos this, if_pos this]
  cases (gt l (iSub .i64 (gt l k).fUp 1)).fSt == 1 <;> rfl
def linkB (l : List T_impl_Node) (n : Int) : Bool := n == 0 || (plB l n && (gt l (iSub .i64 n 1)).fSt == 1)
theorem linkB_in {l : List T_impl_Node} {n : Int} (h : linkB l n = true) (h0 : n ≠ 0) : 0 ≤ iSub .i64 n 1 ∧ iSub .i64 n 1 < (l.length : Int) := by
 unfold linkB at h
 rw [beq_f h0, Z52, Z4] at h
 exact plB_in h.1
theorem l9Live_spec (K : Nat) {l : List T_impl_Node} (w : NodesW l) {n : Int} (hn : wfi n) : m_spec_l9Live K l n = some (linkB l n) := by
 unfold m_spec_l9Live linkB
 rw [place_spec K (nodes_len w) hn, Z0]
 cases n == 0 with
 | true => rfl
 | false =>
  cases hp : plB l n with
  | false => rfl
  | true => rw [if_pos (plB_in hp)]; rfl
theorem isLive_impl (K : Nat) {l : List T_impl_Node} (w : NodesW l) (n : Int) : m_impl_isLive K l n = some (linkB l n) := by
 unfold m_impl_isLive linkB
 rw [place_impl K (nodes_len w), Z0]
 cases n == 0 with
 | true => rfl
 | false =>
  cases hp : plB l n with
  | false => rfl
  | true => rw [if_pos (plB_in hp)]; rfl
def lastI (r : List Int) : Int := gt r ((r.length - 1 : Nat) : Int)
def riseB (l : List T_impl_Node) (k : Int) : Bool := decide (((riseL l l.length k).length : Int) ≤ 4) && !curIn l (lastI (riseL l l.length k))
def topB (l : List T_impl_Node) (k : Int) : Bool := !((gt l k).fPrev == 0 && curIn l k) || (gt l (iSub .i64 (gt l k).fUp 1)).fFirst == iAdd .i64 k 1
def prvB (l : List T_impl_Node) (k : Int) : Bool := (gt l k).fPrev == 0 || (gt l (iSub .i64 (gt l k).fPrev 1)).fNext == iAdd .i64 k 1
def nxtB (l : List T_impl_Node) (k : Int) : Bool := (gt l k).fNext == 0 || ((gt l (iSub .i64 (gt l k).fNext 1)).fPrev == iAdd .i64 k 1 && ((gt l (iSub .i64 (gt l k).fNext 1)).fUp == (gt l k).fUp && (gt l (iSub .i64 (gt l k).fNext 1)).fUpEp == (gt l k).fUpEp))
def kidB (l : List T_impl_Node) (k : Int) : Bool := (gt l k).fFirst == 0 || ((gt l (iSub .i64 (gt l k).fFirst 1)).fPrev == 0 && ((gt l (iSub .i64 (gt l k).fFirst 1)).fUp == iAdd .i64 k 1 && (gt l (iSub .i64 (gt l k).fFirst 1)).fUpEp == (gt l k).fEp))
def liveLinks (l : List T_impl_Node) (k : Int) : Bool := linkB l (gt l k).fFirst && (linkB l (gt l k).fNext && (linkB l (gt l k).fPrev && ((gt l k).fUp == 0 || plB l (gt l k).fUp)))
def linksB (l : List T_impl_Node) (k : Int) : Bool := liveLinks l k && (kidB l k && (nxtB l k && (prvB l k && topB l k)))
def treeB (l : List T_impl_Node) : Bool := (List.range l.length).all (fun k => (gt l (k : Int)).fSt != 1 || (linksB l k && riseB l k))
theorem rise_pos {l : List T_impl_Node} {k : Int} (h : 0 ≤ k ∧ k < (l.length : Int)) : 0 < (riseL l l.length k).length := by
 obtain ⟨m, hm⟩ : ∃ m, l.length = m + 1 := ⟨l.length - 1, by omega⟩
 rw [hm, riseL, if_pos h]
 simp
theorem last_in {l : List T_impl_Node} {k : Int} (h : 0 ≤ k ∧ k < (l.length : Int)) : 0 ≤ lastI (riseL l l.length k) ∧ lastI (riseL l l.length k) < (l.length : Int) := by
 have := rise_pos h
 exact rise_in _ _ _ (gt_mem (by omega))
theorem last_ix {l : List T_impl_Node} (w : NodesW l) {k : Int} (h : 0 ≤ k ∧ k < (l.length : Int)) : iSub .i64 ((riseL l l.length k).length : Int) 1 = (((riseL l l.length k).length - 1 : Nat) : Int) ∧ (0 : Int) ≤ (((riseL l l.length k).length - 1 : Nat) : Int) ∧ (((riseL l l.length k).length - 1 : Nat) : Int) < ((riseL l l.length k).length : Int) := by
 have h1 := rise_pos h
 have h2 := rise_len (l := l) l.length k
 have h3 := nodes_len w
 unfold iSub
 rw [i64_id (by omega) (by omega)]
 omega
section
variable {K : Nat} (hK : 281474976710656 ≤ K)
include hK
theorem j5_spec {l : List T_impl_Node} (w : NodesW l) {k : Int} (h : 0 ≤ k ∧ k < (l.length : Int)) : j_spec_l9One_5 K l k = some (riseB l k) := by
 have h3 := nodes_len w
 obtain ⟨e1, e2, e3⟩ := last_ix w h
 unfold j_spec_l9One_5
 rw [rise_spec0 hK w k ⟨by omega, by omega⟩, Z0, e1, if_pos ⟨e2, e3⟩]
 have := l9In_spec K w (last_in h)
 unfold lastI at this
 rw [this, Z0, bif_sf]
 rfl
theorem j4_spec {l : List T_impl_Node} (w : NodesW l) {k : Int} (h : 0 ≤ k ∧ k < (l.length : Int)) : j_spec_l9One_4 K l k (gt l k).fUp (gt l k).fPrev = some (topB l k && riseB l k) := by
 unfold j_spec_l9One_4 topB
 rw [l9In_spec K w h, j5_spec hK w h, Z0]
 cases (gt l k).fPrev == 0 with
 | false => rfl
 | true =>
  cases hc : curIn l k with
  | false => rfl
  | true =>
   have : plB l (gt l k).fUp = true := by unfold curIn at hc; rw [Z4] at hc; exact hc.1
   rw [cond_true, cond_true, if_pos (plB_in this), bne, bif_not]
   cases (gt l (iSub .i64 (gt l k).fUp 1)).fFirst == iAdd .i64 k 1 <;> rfl
theorem j3_spec {l : List T_impl_Node} (w : NodesW l) {k : Int} (h : 0 ≤ k ∧ k < (l.length : Int)) (hp : linkB l (gt l k).fPrev = true) : j_spec_l9One_3 K l k (gt l k).fUp (gt l k).fPrev = some (prvB l k && (topB l k && riseB l k)) := by
 unfold j_spec_l9One_3 prvB
 rw [j4_spec hK w h]
 by_cases h0 : (gt l k).fPrev = 0
 ·rw [h0]; rfl
 ·rw [bne_t h0, beq_f h0, cond_true, if_pos (linkB_in hp h0), bne, bif_not]
  cases (gt l (iSub .i64 (gt l k).fPrev 1)).fNext == iAdd .i64 k 1 <;> rfl
theorem j2_spec {l : List T_impl_Node} (w : NodesW l) {k : Int} (h : 0 ≤ k ∧ k < (l.length : Int)) (hp : linkB l (gt l k).fPrev = true) (hn : linkB l (gt l k).fNext = true) : j_spec_l9One_2 K l k (gt l k).fUp (gt l k).fUpEp (gt l k).fNext (gt l k).fPrev = some (nxtB l k && (prvB l k && (topB l k && riseB l k))) := by
 unfold j_spec_l9One_2 nxtB
 rw [j3_spec hK w h hp]
 by_cases h0 : (gt l k).fNext = 0
 ·rw [h0]; rfl
 ·have hi := linkB_in hn h0
  rw [bne_t h0, beq_f h0, cond_true, if_pos hi]
  simp only [bne, bif_not, Z52]
  cases (gt l (iSub .i64 (gt l k).fNext 1)).fPrev == iAdd .i64 k 1 <;> cases (gt l (iSub .i64 (gt l k).fNext 1)).fUp == (gt l k).fUp <;> cases (gt l (iSub .i64 (gt l k).fNext 1)).fUpEp == (gt l k).fUpEp <;> rfl
theorem j1_spec {l : List T_impl_Node} (w : NodesW l) {k : Int} (h : 0 ≤ k ∧ k < (l.length : Int)) (hf : linkB l (gt l k).fFirst = true) (hp : linkB l (gt l k).fPrev = true) (hn : linkB l (gt l k).fNext = true) : j_spec_l9One_1 K l k (gt l k).fSt (gt l k).fGen (gt l k).fEp (gt l k).fUp (gt l k).fUpEp (gt l k).fFirst (gt l k).fNext (gt l k).fPrev (gt l k).fChunks (gt l k).fCur (gt l k).fBump (gt l k).fThings (gt l k).fTags = some (kidB l k && (nxtB l k && (prvB l k && (topB l k && riseB l k)))) := by
 unfold j_spec_l9One_1 kidB
 rw [j2_spec hK w h hp hn]
 by_cases h0 : (gt l k).fFirst = 0
 ·rw [h0]; rfl
 ·have hi := linkB_in hf h0
  rw [bne_t h0, beq_f h0, cond_true, if_pos hi]
  simp only [bne, bif_not, Z52]
  cases (gt l (iSub .i64 (gt l k).fFirst 1)).fPrev == 0 <;> cases (gt l (iSub .i64 (gt l k).fFirst 1)).fUp == iAdd .i64 k 1 <;> cases (gt l (iSub .i64 (gt l k).fFirst 1)).fUpEp == (gt l k).fEp <;> rfl
theorem l9One_spec {l : List T_impl_Node} (w : NodesW l) {k : Int} (h : 0 ≤ k ∧ k < (l.length : Int)) : m_spec_l9One K l k = some (linksB l k && riseB l k) := by
 have hn := w.1 _ (gt_memI h.1 h.2)
 unfold m_spec_l9One linksB liveLinks
 rw [if_pos h, place_spec K (nodes_len w) hn.up, l9Live_spec K w hn.first, l9Live_spec K w hn.next, l9Live_spec K w hn.prev]
 simp only [Z0, bif_not]
 cases hf : linkB l (gt l k).fFirst with
 | false => cases (gt l k).fUp != 0 <;> cases plB l (gt l k).fUp <;> rfl
 | true =>
 cases hx : linkB l (gt l k).fNext with
 | false => cases (gt l k).fUp != 0 <;> cases plB l (gt l k).fUp <;> rfl
 | true =>
 cases hp : linkB l (gt l k).fPrev with
 | false => cases (gt l k).fUp != 0 <;> cases plB l (gt l k).fUp <;> rfl
 | true =>
 rw [j1_spec hK w h hf hp hx]
 simp only [bne]
 cases (gt l k).fUp == 0 <;> cases plB l (gt l k).fUp <;> simp only [Bool.not_true, Bool.not_false, cond_true, cond_false, Z30, Bool.false_and, Bool.true_or, Z52, Bool.and_assoc]
theorem treeOk_spec {l : List T_impl_Node} (w : NodesW l) : m_spec_TreeOk K l = some (treeB l) := by
 have hl := nodes_len w
 unfold m_spec_TreeOk treeB
 rw [alln_ok0 hK l.length (by omega) (fun k => (gt l (k : Int)).fSt != 1 || (linksB l k && riseB l k)) (some true) (fun n i => l_spec_TreeOk_1 K l n i) (fun n i h => ?_) (fun n => ?_)]
 ·cases (List.range l.length).all _ <;> rfl
 ·simp only [l_spec_TreeOk_1, j_spec_TreeOk_2]
  rw [dlt_t h, cond_true, if_pos (chkT h), l9One_spec hK w (chkT h), iAdd1 (by omega), Z0, bif_not, bne]
  cases (gt l (i : Int)).fSt == 1 <;> rfl
 ·show l_spec_TreeOk_1 K l (n + 1) _ = _
  rw [l_spec_TreeOk_1, dlt_f (Z9 _), cond_false]
theorem j4_impl {l : List T_impl_Node} (w : NodesW l) {k : Int} (h : 0 ≤ k ∧ k < (l.length : Int)) : j_impl_linksOk_4 K l k (gt l k).fUp (gt l k).fPrev = some (topB l k) := by
 unfold j_impl_linksOk_4 topB
 rw [isCurrent_impl K w h, Z0, bne]
 cases (gt l k).fPrev == 0 with
 | false => rfl
 | true =>
  cases hc : curIn l k with
  | false => rfl
  | true =>
   have : plB l (gt l k).fUp = true := by unfold curIn at hc; rw [Z4] at hc; exact hc.1
   rw [if_pos (plB_in this)]
   rfl
theorem j3_impl {l : List T_impl_Node} (w : NodesW l) {k : Int} (h : 0 ≤ k ∧ k < (l.length : Int)) (hp : linkB l (gt l k).fPrev = true) : j_impl_linksOk_3 K l k (gt l k).fUp (gt l k).fPrev = some (prvB l k && topB l k) := by
 unfold j_impl_linksOk_3 prvB
 rw [j4_impl hK w h]
 by_cases h0 : (gt l k).fPrev = 0
 ·rw [h0]; rfl
 ·rw [bne_t h0, beq_f h0, cond_true, if_pos (linkB_in hp h0), bne, bif_not]
  cases (gt l (iSub .i64 (gt l k).fPrev 1)).fNext == iAdd .i64 k 1 <;> rfl
theorem j2_impl {l : List T_impl_Node} (w : NodesW l) {k : Int} (h : 0 ≤ k ∧ k < (l.length : Int)) (hp : linkB l (gt l k).fPrev = true) (hn : linkB l (gt l k).fNext = true) : j_impl_linksOk_2 K l k (gt l k).fUp (gt l k).fUpEp (gt l k).fNext (gt l k).fPrev = some (nxtB l k && (prvB l k && topB l k)) := by
 unfold j_impl_linksOk_2 nxtB
 rw [j3_impl hK w h hp]
 by_cases h0 : (gt l k).fNext = 0
 ·rw [h0]; rfl
 ·have hi := linkB_in hn h0
  rw [bne_t h0, beq_f h0, cond_true, if_pos hi]
  simp only [bne, bif_not, Z52]
  cases (gt l (iSub .i64 (gt l k).fNext 1)).fPrev == iAdd .i64 k 1 <;> cases (gt l (iSub .i64 (gt l k).fNext 1)).fUp == (gt l k).fUp <;> cases (gt l (iSub .i64 (gt l k).fNext 1)).fUpEp == (gt l k).fUpEp <;> rfl
theorem j1_impl {l : List T_impl_Node} (w : NodesW l) {k : Int} (h : 0 ≤ k ∧ k < (l.length : Int)) (hf : linkB l (gt l k).fFirst = true) (hp : linkB l (gt l k).fPrev = true) (hn : linkB l (gt l k).fNext = true) : j_impl_linksOk_1 K l k (gt l k).fSt (gt l k).fGen (gt l k).fEp (gt l k).fUp (gt l k).fUpEp (gt l k).fFirst (gt l k).fNext (gt l k).fPrev (gt l k).fChunks (gt l k).fCur (gt l k).fBump (gt l k).fThings (gt l k).fTags = some (kidB l k && (nxtB l k && (prvB l k && topB l k))) := by
 unfold j_impl_linksOk_1 kidB
 rw [j2_impl hK w h hp hn]
 by_cases h0 : (gt l k).fFirst = 0
 ·rw [h0]; rfl
 ·have hi := linkB_in hf h0
  rw [bne_t h0, beq_f h0, cond_true, if_pos hi]
  simp only [bne, bif_not, Z52]
  cases (gt l (iSub .i64 (gt l k).fFirst 1)).fPrev == 0 <;> cases (gt l (iSub .i64 (gt l k).fFirst 1)).fUp == iAdd .i64 k 1 <;> cases (gt l (iSub .i64 (gt l k).fFirst 1)).fUpEp == (gt l k).fEp <;> rfl
theorem linksOk_impl {l : List T_impl_Node} (w : NodesW l) {k : Int} (h : 0 ≤ k ∧ k < (l.length : Int)) : m_impl_linksOk K l k = some (linksB l k) := by
 unfold m_impl_linksOk linksB liveLinks
 rw [if_pos h, place_impl K (nodes_len w), isLive_impl K w, isLive_impl K w, isLive_impl K w]
 simp only [Z0, bif_not]
 cases hf : linkB l (gt l k).fFirst with
 | false => rfl
 | true =>
 cases hx : linkB l (gt l k).fNext with
 | false => rfl
 | true =>
 cases hp : linkB l (gt l k).fPrev with
 | false => rfl
 | true =>
 rw [j1_impl hK w h hf hp hx]
 simp only [bne]
 cases (gt l k).fUp == 0 <;> cases plB l (gt l k).fUp <;> simp only [Bool.not_true, Bool.not_false, cond_true, cond_false, Z30, Bool.false_and, Bool.true_or, Z52, Bool.and_assoc]
theorem treeOk_impl {l : List T_impl_Node} (w : NodesW l) : m_impl_TreeOk K l = some (treeB l) := by
 have hl := nodes_len w
 unfold m_impl_TreeOk treeB
 rw [alln_ok0 hK l.length (by omega) (fun k => (gt l (k : Int)).fSt != 1 || (linksB l k && riseB l k)) (some true) (fun n i => l_impl_TreeOk_1 K l n l (l.length : Int) i) (fun n i h => ?_) (fun n => ?_)]
 ·cases (List.range l.length).all _ <;> rfl
 ·have hc := chkT h
  obtain ⟨e1, e2, e3⟩ := last_ix w hc
  have e4 := isCurrent_impl K w (last_in hc)
  unfold lastI at e4
  have e5 : decide (((riseL l l.length i).length : Int) > 4) = !decide (((riseL l l.length i).length : Int) ≤ 4) := by rw [←decide_not]; congr 1; simp
  simp only [l_impl_TreeOk_1, j_impl_TreeOk_2]
  rw [dlt_t h, cond_true, if_pos hc, linksOk_impl hK w hc, iAdd1 (by omega), Z0, rise_impl0 hK w, Z0, e1, if_pos ⟨e2, e3⟩, e4, Z0, e5]
  unfold riseB lastI
  simp only [bif_not, bne]
  cases (gt l (i : Int)).fSt == 1 <;> cases linksB l i <;> cases decide (((riseL l l.length i).length : Int) ≤ 4) <;> cases curIn l (gt (riseL l l.length i) (((riseL l l.length i).length - 1 : Nat) : Int)) <;> rfl
 ·show l_impl_TreeOk_1 K l (n + 1) _ _ _ = _
  rw [l_impl_TreeOk_1, dlt_f (Z9 _), cond_false]
end
theorem size_step {c : T_impl_Conf} (hc : confB c = true) : iSub .i64 c.fSize 1 = c.fSize - 1 := by
 obtain ⟨_, b2, _⟩ := confB_bounds hc
 unfold iSub; rw [i64_id (by omega) (by omega)]
def wasteRec (c : T_impl_Conf) (x : T_impl_Waste) : Bool :=
 confB c && (inB x.fSlot 0 c.fSlots && (inB x.fFirst 0 c.fSlots && (decide ((x.fTags.length : Int) ≤ 6) && (x.fTags.all (fun y => inB y 0 255) && (distB c x.fChunks && (inB x.fDone 0 (c.fSize - 1) && (decide ((x.fChunks.length : Int) > 0) || x.fDone == 0)))))))
section
variable {K : Nat} (hK : 281474976710656 ≤ K)
include hK
theorem wasteRec_spec (c : T_impl_Conf) (x : T_impl_Waste) (hw : WasteW x) : m_spec_WasteOk K c x = some (wasteRec c x) := by
 have h1 := len8 hK hw.tags
 have h2 := len8 hK hw.chunks
 unfold m_spec_WasteOk j_spec_WasteOk_1
 rw [confOk_spec]
 simp only [Z0, l1In_eq]
 cases hc : confB c with
 | false => simp [wasteRec, hc]
 | true =>
 have hA : l_spec_WasteOk_3 K c x.fChunks K 0 = some (distB c x.fChunks) := by
  rw [alln_ok0 hK x.fChunks.length (by omega) (fun i => inB (gt x.fChunks i) 0 (c.fChunks - 1) && !(x.fChunks.take i).contains (gt x.fChunks i)) (some true) (fun k i => l_spec_WasteOk_3 K c x.fChunks k i) (fun k i h => ?_) (fun k => ?_)]
  ·unfold distB; cases (List.range x.fChunks.length).all _ <;> rfl
  ·have hp : (x.fChunks.take i).length ≤ 140737488355328 := by simp; omega
   simp only [l_spec_WasteOk_3]
   rw [dlt_t h, cond_true, if_pos (chkT h), l1In_eq, if_pos (preOk (by omega)), pre_eq, l7Has_ok hK _ _ hp, iAdd1 (by omega), dist_step hK hc]
   simp only [Z0, if_pos (chkT h)]
   cases inB (gt x.fChunks i) 0 (c.fChunks - 1) <;> cases (x.fChunks.take i).contains (gt x.fChunks i) <;> rfl
  ·show l_spec_WasteOk_3 K c x.fChunks (k + 1) _ = _
   rw [l_spec_WasteOk_3, dlt_f (Z9 _), cond_false]
 have hB : l_spec_WasteOk_2 K c x.fTags x.fChunks K 0 = some (x.fTags.all (fun y => inB y 0 255) && distB c x.fChunks) := by
  rw [all_ok0 hK x.fTags (by omega) (fun y => inB y 0 255) (some (distB c x.fChunks)) (l_spec_WasteOk_2 K c x.fTags x.fChunks) (fun k i h => ?_) (fun k => ?_)]
  ·rw [bif_sf]
  ·rw [l_spec_WasteOk_2, dlt_t h, cond_true, if_pos (chkT h), gt_nat h, l1In_eq, iAdd1 (by omega), Z0, bif_not]
  ·rw [l_spec_WasteOk_2, dlt_f (Z9 _), cond_false, hA]
 rw [hB, size_step hc]
 have e6 : decide ((x.fTags.length : Int) > 6) = !decide ((x.fTags.length : Int) ≤ 6) := by rw [←decide_not]; congr 1; simp
 have e0 : decide ((x.fChunks.length : Int) > 0) = !((x.fChunks.length : Int) == 0) := by
  rw [Bool.eq_iff_iff]; simp only [decide_eq_true_eq, Z44, beq_eq_false_iff_ne]; omega
 unfold wasteRec
 simp only [cond_true, e6, e0, bif_not, bne, hc, Z30]
 cases (x.fChunks.length : Int) == 0 with
 | true =>
  simp only [cond_true, Bool.not_true, Z52, bif_sf, Z7]
  ac_rfl
 | false =>
  simp only [cond_false, Bool.not_false, Bool.true_or, bif_sf, Z7, Bool.and_true]
  ac_rfl
theorem wasteRec_impl (c : T_impl_Conf) (x : T_impl_Waste) (hw : WasteW x) : m_impl_WasteOk K c x = some (wasteRec c x) := by
 have h1 := len8 hK hw.tags
 have h2 := len8 hK hw.chunks
 unfold m_impl_WasteOk
 rw [confOk_impl]
 simp only [Z0, within_eq]
 cases hc : confB c with
 | false => simp [wasteRec, hc]
 | true =>
 rw [areBytes_impl hK _ (by omega), distinct_impl hK hc _ h2, size_step hc]
 unfold wasteRec
 simp only [Z0, cond_true, hc, Z30, bif_ts, bif_sf]
end
theorem wasteRec_bnd {c : T_impl_Conf} {x : T_impl_Waste} (h : wasteRec c x = true) : confB c = true ∧ (0 ≤ x.fSlot ∧ x.fSlot ≤ c.fSlots) ∧ (0 ≤ x.fFirst ∧ x.fFirst ≤ c.fSlots) ∧ distB c x.fChunks = true ∧ (0 ≤ x.fDone ∧ x.fDone ≤ c.fSize - 1) := by
 unfold wasteRec at h
 simp only [Z4, inB_iff] at h
 exact ⟨h.1, h.2.1, h.2.2.1, h.2.2.2.2.2.1, h.2.2.2.2.2.2.1⟩
theorem dist_in {c : T_impl_Conf} {l : List Int} (h : distB c l = true) : ∀ x ∈ l, 0 ≤ x ∧ x < c.fChunks := by
 intro x hx
 obtain ⟨i, hi, e⟩ := List.mem_iff_getElem.1 hx
 unfold distB at h
 rw [Z1] at h
 have := h i (by simpa using hi)
 rw [Z4, gt_nat hi, e, inB_iff] at this
 omega
theorem nodup_take {l : List Int} : l.Nodup ↔ ∀ i, (h : i < l.length) -> l[i] ∉ l.take i := by
 unfold List.Nodup
 rw [List.pairwise_iff_getElem]
 constructor
 ·intro h i hi hm
  obtain ⟨j, hj, e⟩ := List.mem_iff_getElem.1 hm
  rw [List.getElem_take] at e
  simp only [List.length_take] at hj
  exact h j i (by omega) hi (by omega) e
 ·intro h i j hi hj hij e
  exact h j hj (List.mem_iff_getElem.2 ⟨i, by simp; omega, by rw [List.getElem_take]; exact e⟩)
theorem dist_nodup {c : T_impl_Conf} {l : List Int} (h : distB c l = true) : l.Nodup := by
 rw [nodup_take]
 intro i hi hm
 unfold distB at h
 rw [Z1] at h
 have := h i (by simpa using hi)
 rw [Z4, gt_nat hi, Z44, List.contains_eq_mem] at this
 exact absurd hm (of_decide_eq_false this.2)
theorem len_of_sub {l : List Int} : ∀ {o : List Int}, o.Nodup -> (∀ x ∈ o, x ∈ l) -> o.length ≤ l.length := by
 intro o
 induction o generalizing l with
 | nil => intro _ _; exact Z21 _
 | cons x o ih =>
  intro hn hs
  have hx : x ∈ l := hs x (by simp)
  rw [List.nodup_cons] at hn
  have h2 := ih (l := l.erase x) hn.2 (fun y hy => by
   have hne : y ≠ x := fun e => hn.1 (e ▸ hy)
   exact (List.mem_erase_of_ne hne).2 (hs y (by simp [hy])))
  rw [List.length_erase_of_mem hx] at h2
  have : 0 < l.length := List.length_pos_of_mem hx
  simp only [Z28]
  omega
theorem dist_len {c : T_impl_Conf} (hc : confB c = true) {l : List Int} (h : distB c l = true) : l.length ≤ 12 := by
 obtain ⟨b1, _⟩ := confB_bounds hc
 have := len_of_sub (l := (List.range 12).map (fun i : Nat => (i : Int))) (dist_nodup h) (fun x hx => by
  have := dist_in h x hx
  rw [Z22]
  exact ⟨x.toNat, by simp; omega, by omega⟩)
 simpa using this
def kidsL (l : List T_impl_Node) : Nat -> Int -> List Int
 | 0, _ => []
 | n + 1, k => if 0 ≤ k ∧ k < (l.length : Int) then k :: kidsL l n (iSub .i64 (gt l k).fNext 1) else []
theorem kidsL_in {l : List T_impl_Node} : ∀ (n : Nat) (k : Int), ∀ x ∈ kidsL l n k, 0 ≤ x ∧ x < (l.length : Int) := by
 intro n
 induction n with
 | zero => intro k x hx; cases hx
 | succ n ih =>
  intro k x hx
  unfold kidsL at hx
  split at hx
  ·rename_i h
   rcases Z20.1 hx with rfl | hx
   ·exact h
   ·exact ih _ x hx
  ·cases hx
theorem kidsL_len {l : List T_impl_Node} : ∀ (n : Nat) (k : Int), (kidsL l n k).length ≤ n := by
 intro n
 induction n with
 | zero => intro k; exact Z9 _
 | succ n ih =>
  intro k
  unfold kidsL
  split
  ·simp only [Z28]; have := ih (iSub .i64 (gt l k).fNext 1); omega
  ·exact Z21 _
def kidsOfL (l : List T_impl_Node) (first : Int) : List Int := kidsL l l.length (iSub .i64 first 1)
def orphB (l : List T_impl_Node) (k : Int) : Bool := (gt l k).fSt == 1 && ((gt l k).fUp != 0 && !curIn l k)
theorem orphan_spec (K : Nat) {l : List T_impl_Node} (w : NodesW l) {k : Int} (h : 0 ≤ k ∧ k < (l.length : Int)) : m_spec_l13Orphan K l k = some (orphB l k) := by
 unfold m_spec_l13Orphan orphB
 rw [if_pos h, if_pos h, l9In_spec K w h, Z0, bif_sf, bif_sf]
theorem orphan_impl (K : Nat) {l : List T_impl_Node} (w : NodesW l) {k : Int} (h : 0 ≤ k ∧ k < (l.length : Int)) : m_impl_isOrphan K l k = some (orphB l k) := by
 unfold m_impl_isOrphan orphB
 rw [if_pos h, if_pos h, isCurrent_impl K w h, Z0, bif_sf, bif_sf]
section
variable {K : Nat} (hK : 281474976710656 ≤ K)
theorem kids_spec {l : List T_impl_Node} (w : NodesW l) : ∀ (n : Nat) (k : Int) (v : List Int), wfi k -> v.length ≤ l.length -> l.length - v.length < n -> l_spec_KidsOf_1 K l n k v = some (v ++ kidsL l (l.length - v.length) (iSub .i64 k 1)) := by
 have hm := maxLen_ge
 have hb : l.length * 152 ≤ 140737488355327 := w.2
 intro n
 induction n with
 | zero => intro k v _ _ h; omega
 | succ n ih =>
  intro k v hk hv hn
  rw [l_spec_KidsOf_1, place_spec K (nodes_len w) hk]
  simp only [Z0]
  by_cases hs : 0 ≤ iSub .i64 k 1 ∧ iSub .i64 k 1 < (l.length : Int)
  ·rw [show plB l k = true from decide_eq_true hs]
   simp only [cond_true]
   rcases Z18 v.length l.length with h | h
   ·rw [dlt_t h]
    simp only [cond_true]
    have hl2 : (v ++ [iSub .i64 k 1]).length = v.length + 1 := by simp
    rw [if_pos ⟨by rw [hl2]; omega, by rw [hl2]; omega⟩, if_pos hs, ih (gt l (iSub .i64 k 1)).fNext _ (w.1 _ (gt_memI hs.1 hs.2)).next (by rw [hl2]; omega) (by rw [hl2]; omega), hl2]
    obtain ⟨m, hm⟩ : ∃ m, l.length - v.length = m + 1 := ⟨l.length - v.length - 1, by omega⟩
    rw [hm, kidsL, if_pos hs, show l.length - (v.length + 1) = m from by omega]
    simp
   ·rw [dlt_f h]
    rw [show l.length - v.length = 0 from by omega]
    simp [kidsL]
  ·rw [show plB l k = false from decide_eq_false hs]
   have : kidsL l (l.length - v.length) (iSub .i64 k 1) = [] := by
    cases l.length - v.length with
    | zero => rfl
    | succ m => rw [kidsL, if_neg hs]
   rw [this]
   simp
theorem kids_impl {l : List T_impl_Node} (w : NodesW l) : ∀ (n : Nat) (k : Int) (v : List Int), v.length ≤ l.length -> l.length - v.length < n -> l_impl_KidsOf_1 K l n v k = some (v ++ kidsL l (l.length - v.length) k) := by
 have hm := maxLen_ge
 have hb : l.length * 152 ≤ 140737488355327 := w.2
 intro n
 induction n with
 | zero => intro k v _ h; omega
 | succ n ih =>
  intro k v hv hn
  rw [l_impl_KidsOf_1, isSlot_eq K (by omega)]
  simp only [Z0]
  by_cases hs : 0 ≤ k ∧ k < (l.length : Int)
  ·rw [decide_eq_true hs]
   simp only [cond_true]
   rcases Z18 v.length l.length with h | h
   ·rw [dlt_t h]
    simp only [cond_true]
    have hl2 : (v ++ [k]).length = v.length + 1 := by simp
    rw [if_pos ⟨by rw [hl2]; omega, by rw [hl2]; omega⟩, if_pos hs, ih _ _ (by rw [hl2]; omega) (by rw [hl2]; omega), hl2]
    obtain ⟨m, hm⟩ : ∃ m, l.length - v.length = m + 1 := ⟨l.length - v.length - 1, by omega⟩
    rw [hm, kidsL, if_pos hs, show l.length - (v.length + 1) = m from by omega]
    simp
   ·rw [dlt_f h]
    rw [show l.length - v.length = 0 from by omega]
    simp [kidsL]
  ·rw [decide_eq_false hs]
   have : kidsL l (l.length - v.length) k = [] := by
    cases l.length - v.length with
    | zero => rfl
    | succ m => rw [kidsL, if_neg hs]
   rw [this]
   simp
include hK
theorem kidsOf_spec {l : List T_impl_Node} (w : NodesW l) {k : Int} (hk : wfi k) : m_spec_KidsOf K l k = some (kidsOfL l k) := by
 have hb := nodes_len w
 unfold m_spec_KidsOf kidsOfL
 have := kids_spec (K := K) w K k [] hk (Z21 _) (by simp; omega)
 simpa using this
theorem kidsOf_impl {l : List T_impl_Node} (w : NodesW l) (k : Int) : m_impl_KidsOf K l k = some (kidsOfL l k) := by
 have hb := nodes_len w
 unfold m_impl_KidsOf kidsOfL
 have := kids_impl (K := K) w K (iSub .i64 k 1) [] (Z21 _) (by simp; omega)
 simpa using this
def zeroDone (w : T_impl_World) (x : T_impl_Waste) : Bool := !decide ((x.fChunks.length : Int) > 0) || zeroB ((w.fP.fMem.drop (gt x.fChunks 0 * w.fC.fSize).toNat).take x.fDone.toNat)
def slotGone (w : T_impl_World) (x : T_impl_Waste) : Bool := x.fSlot == 0 || (gt w.fL (iSub .i64 x.fSlot 1)).fSt == 2
def firstTop (w : T_impl_World) (x : T_impl_Waste) : Bool := x.fFirst == 0 || (gt w.fL (iSub .i64 x.fFirst 1)).fPrev == 0
def allWait (w : T_impl_World) (x : T_impl_Waste) : Bool := x.fChunks.all (fun k => gt w.fP.fSt k == 2)
def allOrph (w : T_impl_World) (x : T_impl_Waste) : Bool := (kidsOfL w.fL x.fFirst).all (orphB w.fL)
def wasteOne (w : T_impl_World) (x : T_impl_Waste) : Bool := wasteRec w.fC x && (allWait w x && (zeroDone w x && (slotGone w x && (firstTop w x && allOrph w x))))
theorem link_in {w : T_impl_World} (hL : (w.fL.length : Int) = w.fC.fSlots) (hc : confB w.fC = true) {n : Int} (h0 : n ≠ 0) (h1 : 0 ≤ n) (h2 : n ≤ w.fC.fSlots) : 0 ≤ iSub .i64 n 1 ∧ iSub .i64 n 1 < (w.fL.length : Int) := by
 obtain ⟨_, _, b3, _⟩ := confB_bounds hc
 unfold iSub
 rw [i64_id (by omega) (by omega)]
 omega
theorem l13Waste_spec (w : T_impl_World) (hw : WorldW w) (hp : poolB w.fC w.fP = true) (hL : (w.fL.length : Int) = w.fC.fSlots) (i : Nat) (hi : i < w.fQ.length) : m_spec_l13Waste K w i = some (wasteOne w (gt w.fQ i)) := by
 have hx := hw.q.1 _ (gt_mem hi)
 unfold m_spec_l13Waste
 rw [if_pos (chkT hi)]
 generalize gt w.fQ i = x at *
 rw [wasteRec_spec hK _ _ hx, Z0, bif_not]
 unfold wasteOne
 cases hr : wasteRec w.fC x with
 | false => rfl
 | true =>
 rw [cond_true, Z30]
 obtain ⟨hc, ⟨s1, s2⟩, ⟨f1, f2⟩, hd, d1, d2⟩ := wasteRec_bnd hr
 obtain ⟨_, hm, hst, _⟩ := poolB_len hp
 obtain ⟨b1, b2, b3, _⟩ := confB_bounds hc
 have hch := dist_in hd
 have hl := len8 hK hx.chunks
 have h3 : j_spec_l13Waste_3 K x.fFirst w.fL = some (allOrph w x) := by
  unfold j_spec_l13Waste_3 allOrph
  have hk := kidsL_len (l := w.fL) w.fL.length (iSub .i64 x.fFirst 1)
  have hin := kidsL_in (l := w.fL) w.fL.length (iSub .i64 x.fFirst 1)
  rw [kidsOf_spec hK hw.l hx.first, Z0]
  change (kidsOfL w.fL x.fFirst).length ≤ _ at hk
  change ∀ y ∈ kidsOfL w.fL x.fFirst, _ at hin
  generalize kidsOfL w.fL x.fFirst = r at *
  rw [all_ok0 hK r (by omega) (orphB w.fL) (some true) (l_spec_l13Waste_4 K w.fL r) (fun n i h => ?_) (fun n => ?_)]
  ·cases r.all _ <;> rfl
  ·rw [l_spec_l13Waste_4, dlt_t h, cond_true, if_pos (chkT h), orphan_spec K hw.l (hin _ (gt_mem h)), iAdd1 (by omega), Z0, bif_not, gt_nat h]
  ·rw [l_spec_l13Waste_4, dlt_f (Z9 _), cond_false]
 have h2 : j_spec_l13Waste_2 K x.fSlot x.fFirst w.fL = some (slotGone w x && (firstTop w x && allOrph w x)) := by
  unfold j_spec_l13Waste_2 slotGone firstTop
  rw [h3]
  by_cases g1 : x.fFirst = 0
  ·rw [g1]
   by_cases g2 : x.fSlot = 0
   ·rw [g2]; rfl
   ·rw [bne_t g2, beq_f g2, cond_true, if_pos (link_in hK hL hc g2 s1 s2)]
    simp only [bne, bif_not, Z52]
    cases (gt w.fL (iSub .i64 x.fSlot 1)).fSt == 2 <;> rfl
  ·have hF : (bif (x.fFirst != 0) then (if (0 : Int) ≤ (iSub .i64 x.fFirst 1) ∧ (iSub .i64 x.fFirst 1) < (w.fL.length : Int) then (bif (((gt w.fL (iSub .i64 x.fFirst 1)).fPrev) != 0) then some false else some (allOrph w x)) else none) else some (allOrph w x)) = some ((x.fFirst == 0 || (gt w.fL (iSub .i64 x.fFirst 1)).fPrev == 0) && allOrph w x) := by
    rw [bne_t g1, beq_f g1, cond_true, if_pos (link_in hK hL hc g1 f1 f2)]
    simp only [bne, bif_not, Z52, bif_sf]
   rw [hF]
   by_cases g2 : x.fSlot = 0
   ·rw [g2]; rfl
   ·rw [bne_t g2, beq_f g2, cond_true, if_pos (link_in hK hL hc g2 s1 s2)]
    simp only [bne, bif_not, Z52, bif_sf]
 rw [all_ok0 hK x.fChunks (by omega) (fun k => gt w.fP.fSt k == 2) (some (zeroDone w x && (slotGone w x && (firstTop w x && allOrph w x)))) (fun n i => l_spec_l13Waste_1 K n i x.fSlot x.fFirst x.fTags x.fChunks x.fDone w.fC.fChunks w.fC.fSize w.fC.fSlots w.fC.fTax w.fC.fSlice w.fC.fGens w.fP.fMem w.fP.fSt w.fP.fOwn w.fL w.fQ w.fLog) (fun n i h => ?_) (fun n => ?_)]
 ·rw [bif_sf]; rfl
 ·simp only [l_spec_l13Waste_1]
  have h5 := hch _ (gt_mem h)
  rw [dlt_t h, cond_true, if_pos (chkT h), if_pos ⟨h5.1, by omega⟩, iAdd1 (by omega), bne, bif_not, gt_nat h]
 ·show l_spec_l13Waste_1 K (n + 1) _ _ _ _ _ _ _ _ _ _ _ _ _ _ _ _ _ _ = _
  rw [l_spec_l13Waste_1, dlt_f (Z9 _), cond_false, h2]
  unfold zeroDone
  by_cases g : (x.fChunks.length : Int) > 0
  ·have h5 := hch _ (gt_memI (l := x.fChunks) (Int.le_refl 0) (by omega))
   obtain ⟨e1, e2, e3, e4⟩ := chunk_at hc hm h5.1 h5.2
   have e5 : iAdd .i64 (gt x.fChunks 0 * w.fC.fSize) x.fDone = gt x.fChunks 0 * w.fC.fSize + x.fDone := by
    have := mul_bnd (a := gt x.fChunks 0) (b := w.fC.fSize) (m := 12) (n := 16) h5.1 (by omega) (by omega) b2.2
    unfold iAdd; rw [i64_id (by omega) (by omega)]
   rw [decide_eq_true g, cond_true, if_pos ⟨by omega, by omega⟩, if_pos ⟨by omega, by omega⟩, e1, e5, if_pos ⟨e3, by omega, by omega⟩, isZero_spec hK _ (by simp; omega), show gt x.fChunks 0 * w.fC.fSize + x.fDone - gt x.fChunks 0 * w.fC.fSize = x.fDone by omega]
   simp only [Z0, bif_not, bif_sf, Bool.not_true, Z52]
  ·rw [decide_eq_false g]; rfl
end
def cntL (N : Nat) (l : List Int) : List Int := (List.range N).map (fun k : Nat => ((l.count (k : Int) : Nat) : Int))
theorem cntL_len (N : Nat) (l : List Int) : (cntL N l).length = N := by simp [cntL]
theorem cntL_gt {N : Nat} {l : List Int} {x : Int} (h0 : 0 ≤ x) (h1 : x < N) : gt (cntL N l) x = ((l.count x : Nat) : Int) := by
 obtain ⟨k, rfl⟩ : ∃ k : Nat, x = k := ⟨x.toNat, by omega⟩
 rw [gt_nat (by rw [cntL_len]; omega)]
 simp [cntL]
theorem cntL_nil (N : Nat) : cntL N [] = List.replicate N 0 := by
 refine List.ext_getElem (by simp [cntL]) fun i h1 h2 => ?_
 simp [cntL]
theorem cntL_add {N : Nat} {l : List Int} {x : Int} (h0 : 0 ≤ x) (h1 : x < N) (hl : l.length ≤ 140737488355327) : (cntL N l).set x.toNat (iAdd .i64 (gt (cntL N l) x) 1) = cntL N (l ++ [x]) := by
 have hc : l.count x ≤ l.length := List.count_le_length
 have e : iAdd .i64 (gt (cntL N l) x) 1 = ((l.count x + 1 : Nat) : Int) := by
  rw [cntL_gt h0 h1, iAdd1 (by omega)]
 rw [e]
 refine List.ext_getElem (by simp [cntL]) fun i h2 h3 => ?_
 rw [List.getElem_set]
 simp only [cntL, List.getElem_map, List.getElem_range, List.count_append, List.count_singleton]
 by_cases hi : x.toNat = i
 ·rw [if_pos hi]
  have : x = (i : Int) := by omega
  simp [this]
 ·rw [if_neg hi]
  have : ¬ x = (i : Int) := by omega
  simp [this]
theorem good_iff {C P : List Int} (hs : ∀ x ∈ C, x ∈ P) (hP : P.Nodup) : (∀ x ∈ P, C.count x = 1) ↔ (C.Nodup ∧ C.length = P.length) := by
 constructor
 ·intro h
  have hn : C.Nodup := by
   rw [List.nodup_iff_count]
   intro a
   by_cases ha : a ∈ C
   ·rw [h a (hs a ha)]; omega
   ·rw [List.count_eq_zero_of_not_mem ha]; omega
  refine ⟨hn, ?_⟩
  have h1 := len_of_sub hn hs
  have h2 := len_of_sub hP (l := C) (fun x hx => List.count_pos_iff.1 (by rw [h x hx]; omega))
  omega
 ·rintro ⟨hn, hl⟩ x hx
  have hp := perm_of_sub hn hs hl
  have := hn.count (a := x)
  rw [this, if_pos (hp.mem_iff.2 hx)]
def chL (q : List T_impl_Waste) : List Int := q.flatMap (fun x => x.fChunks)
def slL (q : List T_impl_Waste) : List Int := q.flatMap (fun x => if x.fSlot = 0 then [] else [iSub .i64 x.fSlot 1])
def kdL (l : List T_impl_Node) (q : List T_impl_Waste) : List Int := q.flatMap (fun x => kidsOfL l x.fFirst)
theorem take_flat {α β : Type} (q : List α) (f : α -> List β) (i : Nat) (h : i < q.length) : (q.take (i + 1)).flatMap f = (q.take i).flatMap f ++ f q[i] := by
 rw [←List.take_append_getElem h, List.flatMap_append]; simp
theorem flat_len {α β : Type} (q : List α) (f : α -> List β) (m : Nat) (h : ∀ x ∈ q, (f x).length ≤ m) : (q.flatMap f).length ≤ q.length * m := by
 induction q with
 | nil => simp
 | cons x q ih =>
  have h1 := h x (by simp)
  have h2 := ih fun y hy => h y (by simp [hy])
  simp only [List.flatMap_cons, Z23, Z28, Z46, Nat.one_mul]
  omega
def waitL (w : T_impl_World) : List Int := ((List.range w.fP.fSt.length).filter (fun k : Nat => gt w.fP.fSt k == 2)).map (fun k : Nat => (k : Int))
def goneL (w : T_impl_World) : List Int := ((List.range w.fL.length).filter (fun k : Nat => (gt w.fL k).fSt == 2)).map (fun k : Nat => (k : Int))
def orphL (w : T_impl_World) : List Int := ((List.range w.fL.length).filter (fun k : Nat => orphB w.fL k)).map (fun k : Nat => (k : Int))
theorem filt_nodup (N : Nat) (p : Nat -> Bool) : (((List.range N).filter p).map (fun k : Nat => (k : Int))).Nodup := by
 unfold List.Nodup
 rw [List.pairwise_map]
 exact (List.Pairwise.filter _ List.pairwise_lt_range).imp fun h => by omega
theorem filt_mem {N : Nat} {p : Nat -> Bool} {x : Int} : x ∈ ((List.range N).filter p).map (fun k : Nat => (k : Int)) ↔ (0 ≤ x ∧ x < (N : Int)) ∧ p x.toNat = true := by
 simp only [Z22, List.mem_filter, List.mem_range]
 constructor
 ·rintro ⟨k, ⟨h1, h2⟩, rfl⟩
  exact ⟨⟨by omega, by omega⟩, by simpa using h2⟩
 ·rintro ⟨⟨h1, h2⟩, h3⟩
  exact ⟨x.toNat, ⟨by omega, h3⟩, by omega⟩
def implFin (w : T_impl_World) (N : Nat) : Bool :=
 (List.range w.fP.fSt.length).all (fun k => !(gt w.fP.fSt k == 2) || gt (cntL N (chL w.fQ)) k == 1) &&
 (List.range w.fL.length).all (fun k => (!((gt w.fL k).fSt == 2) || gt (cntL w.fL.length (slL w.fQ)) k == 1) && (!orphB w.fL k || gt (cntL w.fL.length (kdL w.fL w.fQ)) k == 1))
def pairOk (q : List T_impl_Waste) (i k : Nat) : Bool := !((gt q i).fSlot != 0 && (gt q k).fSlot == (gt q i).fSlot) && (gt q i).fChunks.all (fun y => !(gt q k).fChunks.contains y)
def pairsOk (q : List T_impl_Waste) : Bool := (List.range q.length).all (fun i => (List.range i).all (fun k => pairOk q i k))
def nodupB (l : List Int) : Bool := (List.range l.length).all (fun i => !(l.take i).contains (gt l i))
def specFin (w : T_impl_World) : Bool :=
 pairsOk w.fQ && (nodupB (kdL w.fL w.fQ) && ((((chL w.fQ).length : Int) == ((waitL w).length : Int)) && ((((slL w.fQ).length : Int) == ((goneL w).length : Int)) && (((kdL w.fL w.fQ).length : Int) == ((orphL w).length : Int)))))
theorem nodupB_iff (l : List Int) : nodupB l = true ↔ l.Nodup := by
 rw [nodup_take]
 unfold nodupB
 simp only [Z1, List.mem_range, Z44, List.contains_eq_mem, decide_eq_false_iff_not]
 exact ⟨fun h i hi => by have := h i hi; rwa [gt_nat hi] at this, fun h i hi => by rw [gt_nat hi]; exact h i hi⟩
theorem pairsOk_iff {w : T_impl_World} {q : List T_impl_Waste} (h1 : ∀ x ∈ q, x.fChunks.Nodup) (h2 : ∀ x ∈ q, 0 ≤ x.fSlot ∧ x.fSlot ≤ 8) : pairsOk q = true ↔ (chL q).Nodup ∧ (slL q).Nodup := by
 unfold chL slL List.Nodup
 rw [List.pairwise_flatMap, List.pairwise_flatMap, List.pairwise_iff_getElem, List.pairwise_iff_getElem]
 have hs : ∀ x ∈ q, List.Pairwise (fun a b : Int => a ≠ b) (if x.fSlot = 0 then [] else [iSub .i64 x.fSlot 1]) := by
  intro x _; split <;> simp
 have hsub : ∀ x ∈ q, iSub .i64 x.fSlot 1 = x.fSlot - 1 := by
  intro x hx; have := h2 x hx; unfold iSub; rw [i64_id (by omega) (by omega)]
 unfold pairsOk pairOk
 simp only [Z1, List.mem_range, Z4, Z44, List.contains_eq_mem, decide_eq_false_iff_not]
 constructor
 ·intro h
  refine ⟨⟨h1, fun i j hi hj hij x hx y hy e => ?_⟩, hs, fun i j hi hj hij x hx y hy e => ?_⟩
  ·have := (h j hj i hij).2
   rw [gt_nat hi, gt_nat hj] at this
   subst e
   exact this x hy hx
  ·have := (h j hj i hij).1
   rw [gt_nat hi, gt_nat hj] at this
   split at hx
   ·cases hx
   ·split at hy
    ·cases hy
    ·rename_i g1 g2
     simp only [Z29] at hx hy
     subst hx; subst hy
     rw [hsub _ (List.getElem_mem hi), hsub _ (List.getElem_mem hj)] at e
     rw [bne_t g2, Z30, beq_eq_false_iff_ne] at this
     exact this (by omega)
 ·rintro ⟨⟨_, h3⟩, _, h4⟩ i hi k hk
  have hk' : k < q.length := by omega
  rw [gt_nat hi, gt_nat hk']
  refine ⟨?_, fun x hx hy => h3 k i hk' hi hk x hy x hx rfl⟩
  rw [Bool.and_eq_false_iff]
  by_cases g : q[i].fSlot = 0
  ·left; simp [g]
  ·right
   rw [beq_eq_false_iff_ne]
   intro e
   refine h4 k i hk' hi hk (iSub .i64 q[k].fSlot 1) ?_ (iSub .i64 q[i].fSlot 1) ?_ (by rw [e])
   ·rw [if_neg (by rw [e]; exact g)]; simp
   ·rw [if_neg g]; simp
theorem fin_eq {w : T_impl_World} (hp : poolB w.fC w.fP = true) (hL : (w.fL.length : Int) = w.fC.fSlots) (hq : ∀ x ∈ w.fQ, wasteOne w x = true) : implFin w w.fC.fChunks.toNat = specFin w := by
 obtain ⟨hc, hm, hst, _⟩ := poolB_len hp
 obtain ⟨b1, b2, b3, _⟩ := confB_bounds hc
 have hone : ∀ x ∈ w.fQ, (0 ≤ x.fSlot ∧ x.fSlot ≤ w.fC.fSlots) ∧ distB w.fC x.fChunks = true ∧ allWait w x = true ∧ slotGone w x = true ∧ allOrph w x = true := by
  intro x hx
  have := hq x hx
  unfold wasteOne at this
  simp only [Z4] at this
  obtain ⟨h1, h2, h3, h4, h5, h6⟩ := this
  obtain ⟨_, g1, _, g3, _⟩ := wasteRec_bnd h1
  exact ⟨g1, g3, h2, h4, h6⟩
 have hC : ∀ x ∈ chL w.fQ, x ∈ waitL w := by
  intro y hy
  unfold chL at hy
  rw [List.mem_flatMap] at hy
  obtain ⟨x, hx, hy⟩ := hy
  obtain ⟨_, g2, g3, _⟩ := hone x hx
  have := dist_in g2 y hy
  unfold allWait at g3
  rw [Z1] at g3
  have g4 := g3 y hy
  refine filt_mem.2 ⟨⟨this.1, by omega⟩, ?_⟩
  rw [show ((y.toNat : Nat) : Int) = y by omega]; exact g4
 have hS : ∀ x ∈ slL w.fQ, x ∈ goneL w := by
  intro y hy
  unfold slL at hy
  rw [List.mem_flatMap] at hy
  obtain ⟨x, hx, hy⟩ := hy
  obtain ⟨g1, g2, g3, g4, _⟩ := hone x hx
  split at hy
  ·cases hy
  ·rename_i g
   simp only [Z29] at hy
   unfold slotGone at g4
   rw [beq_f g, Z52, ←hy] at g4
   have : y = x.fSlot - 1 := by rw [hy]; unfold iSub; rw [i64_id (by omega) (by omega)]
   refine filt_mem.2 ⟨⟨by omega, by omega⟩, ?_⟩
   rw [show ((y.toNat : Nat) : Int) = y by omega]; exact g4
 have hK2 : ∀ x ∈ kdL w.fL w.fQ, x ∈ orphL w := by
  intro y hy
  unfold kdL at hy
  rw [List.mem_flatMap] at hy
  obtain ⟨x, hx, hy⟩ := hy
  obtain ⟨g1, g2, g3, g4, g5⟩ := hone x hx
  unfold allOrph at g5
  rw [Z1] at g5
  have := kidsL_in _ _ y hy
  refine filt_mem.2 ⟨this, ?_⟩
  rw [show ((y.toNat : Nat) : Int) = y by omega]; exact g5 y hy
 have e1 := good_iff hC (filt_nodup _ _)
 have e2 := good_iff hS (filt_nodup _ _)
 have e3 := good_iff hK2 (filt_nodup _ _)
 have hp2 := pairsOk_iff (w := w) (q := w.fQ) (fun x hx => dist_nodup (hone x hx).2.1) (fun x hx => by have := (hone x hx).1; omega)
 rw [Bool.eq_iff_iff]
 unfold implFin specFin
 simp only [Z4, Z1, List.mem_range, Bool.or_eq_true, Z44, beq_iff_eq, nodupB_iff, hp2, beq_eq_false_iff_ne]
 have c1 : (∀ x ∈ waitL w, (chL w.fQ).count x = 1) ↔ ∀ k, k < w.fP.fSt.length -> gt w.fP.fSt (k : Int) ≠ 2 ∨ gt (cntL w.fC.fChunks.toNat (chL w.fQ)) (k : Int) = 1 := by
  constructor
  ·intro h k hk
   by_cases g : gt w.fP.fSt (k : Int) = 2
   ·right
    rw [cntL_gt (by omega) (by omega), h k (filt_mem.2 ⟨⟨by omega, by omega⟩, by simpa using g⟩)]; rfl
   ·left; exact g
  ·intro h x hx
   obtain ⟨⟨h1, h2⟩, h3⟩ := filt_mem.1 hx
   rw [beq_iff_eq, show ((x.toNat : Nat) : Int) = x by omega] at h3
   rcases h x.toNat (by omega) with h4 | h4
   ·rw [show ((x.toNat : Nat) : Int) = x by omega] at h4; exact absurd h3 h4
   ·rw [show ((x.toNat : Nat) : Int) = x by omega, cntL_gt h1 (by omega)] at h4; omega
 have c2 : (∀ x ∈ goneL w, (slL w.fQ).count x = 1) ↔ ∀ k, k < w.fL.length -> (gt w.fL (k : Int)).fSt ≠ 2 ∨ gt (cntL w.fL.length (slL w.fQ)) (k : Int) = 1 := by
  constructor
  ·intro h k hk
   by_cases g : (gt w.fL (k : Int)).fSt = 2
   ·right
    rw [cntL_gt (by omega) (by omega), h k (filt_mem.2 ⟨⟨by omega, by omega⟩, by simpa using g⟩)]; rfl
   ·left; exact g
  ·intro h x hx
   obtain ⟨⟨h1, h2⟩, h3⟩ := filt_mem.1 hx
   rw [beq_iff_eq, show ((x.toNat : Nat) : Int) = x by omega] at h3
   rcases h x.toNat (by omega) with h4 | h4
   ·rw [show ((x.toNat : Nat) : Int) = x by omega] at h4; exact absurd h3 h4
   ·rw [show ((x.toNat : Nat) : Int) = x by omega, cntL_gt h1 (by omega)] at h4; omega
 have c3 : (∀ x ∈ orphL w, (kdL w.fL w.fQ).count x = 1) ↔ ∀ k, k < w.fL.length -> orphB w.fL (k : Int) = false ∨ gt (cntL w.fL.length (kdL w.fL w.fQ)) (k : Int) = 1 := by
  constructor
  ·intro h k hk
   cases g : orphB w.fL (k : Int) with
   | true =>
    right
    rw [cntL_gt (by omega) (by omega), h k (filt_mem.2 ⟨⟨by omega, by omega⟩, by simpa using g⟩)]; rfl
   | false => left; rfl
  ·intro h x hx
   obtain ⟨⟨h1, h2⟩, h3⟩ := filt_mem.1 hx
   rw [show ((x.toNat : Nat) : Int) = x by omega] at h3
   rcases h x.toNat (by omega) with h4 | h4
   ·rw [show ((x.toNat : Nat) : Int) = x by omega, h3] at h4; cases h4
   ·rw [show ((x.toNat : Nat) : Int) = x by omega, cntL_gt h1 (by omega)] at h4; omega
 rw [←c1, e1]
 have hsplit : (∀ k, k < w.fL.length -> ((gt w.fL (k : Int)).fSt ≠ 2 ∨ gt (cntL w.fL.length (slL w.fQ)) (k : Int) = 1) ∧ (orphB w.fL (k : Int) = false ∨ gt (cntL w.fL.length (kdL w.fL w.fQ)) (k : Int) = 1)) ↔ (((slL w.fQ).Nodup ∧ (slL w.fQ).length = (goneL w).length) ∧ ((kdL w.fL w.fQ).Nodup ∧ (kdL w.fL w.fQ).length = (orphL w).length)) := by
  rw [←show _ ↔ ((slL w.fQ).Nodup ∧ (slL w.fQ).length = (goneL w).length) from c2.symm.trans e2, ←show _ ↔ ((kdL w.fL w.fQ).Nodup ∧ (kdL w.fL w.fQ).length = (orphL w).length) from c3.symm.trans e3]
  exact ⟨fun h => ⟨fun k hk => (h k hk).1, fun k hk => (h k hk).2⟩, fun h k hk => ⟨h.1 k hk, h.2 k hk⟩⟩
 rw [hsplit]
 constructor
 ·rintro ⟨⟨a1, a2⟩, ⟨a3, a4⟩, a5, a6⟩
  exact ⟨⟨a1, a3⟩, a5, by omega, by omega, by omega⟩
 ·rintro ⟨⟨a1, a3⟩, a5, a2, a4, a6⟩
  exact ⟨⟨a1, by omega⟩, ⟨a3, by omega⟩, a5, by omega⟩
theorem allS_ok {α β : Type} {K : Nat} (hK : 281474976710656 ≤ K) (l : List α) (hl : l.length ≤ 140737488355328) (q : α -> Bool) (fin bad : Option β) (L : Nat -> Nat -> Option β)
  (hs : ∀ n (i : Nat) (h : i < l.length), L (n + 1) i = bif q l[i] then L n (i + 1) else bad)
  (he : ∀ n, L (n + 1) l.length = fin) : L K 0 = bif l.all q then fin else bad := by
 have := allG_ok l q fin bad (fun n i => L n i.toNat) (fun n i h => by simpa using hs n i h) (fun n => by simpa using he n) K 0 (Z21 _) (by omega)
 simpa using this
section
variable {K : Nat} (hK : 281474976710656 ≤ K)
include hK
theorem fin9_impl (w : T_impl_World) (hw : WorldW w) : l_impl_World_wasteOk_9 K (cntL w.fL.length (slL w.fQ)) (cntL w.fL.length (kdL w.fL w.fQ)) w.fL K (w.fL.length : Int) 0 w.fL = some ((List.range w.fL.length).all (fun k => (!((gt w.fL (k : Int)).fSt == 2) || gt (cntL w.fL.length (slL w.fQ)) k == 1) && (!orphB w.fL k || gt (cntL w.fL.length (kdL w.fL w.fQ)) k == 1))) := by
 have hl := nodes_len hw.l
 rw [alln_ok0 hK w.fL.length (by omega) (fun k => (!((gt w.fL (k : Int)).fSt == 2) || gt (cntL w.fL.length (slL w.fQ)) k == 1) && (!orphB w.fL k || gt (cntL w.fL.length (kdL w.fL w.fQ)) k == 1)) (some true) (fun n i => l_impl_World_wasteOk_9 K (cntL w.fL.length (slL w.fQ)) (cntL w.fL.length (kdL w.fL w.fQ)) w.fL n (w.fL.length : Int) i w.fL) (fun n i h => ?_) (fun n => ?_)]
 ·cases (List.range w.fL.length).all _ <;> rfl
 ·simp only [l_impl_World_wasteOk_9, j_impl_World_wasteOk_10]
  rw [dlt_t h, cond_true, if_pos (chkT h), orphan_impl K hw.l (chkT h), iAdd1 (by omega)]
  simp only [Z0, cntL_len, if_pos (chkT h), bne, bif_not]
  cases (gt w.fL (i : Int)).fSt == 2 <;> cases gt (cntL w.fL.length (slL w.fQ)) (i : Int) == 1 <;> cases orphB w.fL i <;> cases gt (cntL w.fL.length (kdL w.fL w.fQ)) (i : Int) == 1 <;> rfl
 ·show l_impl_World_wasteOk_9 K _ _ _ (n + 1) _ _ _ = _
  rw [l_impl_World_wasteOk_9, dlt_f (Z9 _), cond_false]
theorem fin7_impl (w : T_impl_World) (hw : WorldW w) (hp : poolB w.fC w.fP = true) : l_impl_World_wasteOk_7 K (cntL w.fC.fChunks.toNat (chL w.fQ)) (cntL w.fL.length (slL w.fQ)) (cntL w.fL.length (kdL w.fL w.fQ)) w.fP.fSt w.fL K (w.fP.fSt.length : Int) 0 w.fP.fSt = some (implFin w w.fC.fChunks.toNat) := by
 obtain ⟨hc, hm, hst, _⟩ := poolB_len hp
 obtain ⟨b1, _⟩ := confB_bounds hc
 rw [alln_ok0 hK w.fP.fSt.length (by omega) (fun k => !(gt w.fP.fSt k == 2) || gt (cntL w.fC.fChunks.toNat (chL w.fQ)) k == 1) (some ((List.range w.fL.length).all (fun k => (!((gt w.fL (k : Int)).fSt == 2) || gt (cntL w.fL.length (slL w.fQ)) k == 1) && (!orphB w.fL k || gt (cntL w.fL.length (kdL w.fL w.fQ)) k == 1)))) (fun n i => l_impl_World_wasteOk_7 K (cntL w.fC.fChunks.toNat (chL w.fQ)) (cntL w.fL.length (slL w.fQ)) (cntL w.fL.length (kdL w.fL w.fQ)) w.fP.fSt w.fL n (w.fP.fSt.length : Int) i w.fP.fSt) (fun n i h => ?_) (fun n => ?_)]
 ·rw [bif_sf]; rfl
 ·simp only [l_impl_World_wasteOk_7, j_impl_World_wasteOk_8]
  rw [dlt_t h, cond_true, if_pos (chkT h), iAdd1 (by omega)]
  simp only [cntL_len, if_pos (show (0 : Int) ≤ (i : Int) ∧ (i : Int) < ((w.fC.fChunks.toNat : Nat) : Int) from ⟨by omega, by omega⟩), bne, bif_not]
  cases gt w.fP.fSt (i : Int) == 2 <;> cases gt (cntL w.fC.fChunks.toNat (chL w.fQ)) (i : Int) == 1 <;> rfl
 ·show l_impl_World_wasteOk_7 K _ _ _ _ _ (n + 1) _ _ _ = _
  rw [l_impl_World_wasteOk_7, dlt_f (Z9 _), cond_false, fin9_impl hK w hw]
theorem count_ok {β : Type} (N : Nat) (base l : List Int) (hin : ∀ x ∈ l, 0 ≤ x ∧ x < (N : Int)) (hl : base.length + l.length ≤ 140737488355327) (q : Int -> Bool) (fin bad : Option β) (L : Nat -> List Int -> Int -> Option β)
  (hs : ∀ n v (i : Nat) (h : i < l.length), v.length = N -> L (n + 1) v (i : Int) = bif q l[i] then L n (v.set (l[i]).toNat (iAdd .i64 (gt v l[i]) 1)) ((i + 1 : Nat) : Int) else bad)
  (he : ∀ n, L (n + 1) (cntL N (base ++ l)) (l.length : Int) = fin) : L K (cntL N base) 0 = bif l.all q then fin else bad := by
 have := allS_ok hK l (by omega) q fin bad (fun n i => L n (cntL N (base ++ l.take i)) (i : Int)) (fun n i h => ?_) (fun n => ?_)
 ·simpa using this
 ·have hb : (base ++ l.take i).length ≤ 140737488355327 := by simp; omega
  have h1 := hin _ (List.getElem_mem h)
  rw [hs n _ i h (cntL_len _ _), cntL_add h1.1 h1.2 hb, Z31, List.take_append_getElem]
 ·simp only [List.take_length]; exact he n
theorem waste_step (w : T_impl_World) (hw : WorldW w) (hp : poolB w.fC w.fP = true) (hL : (w.fL.length : Int) = w.fC.fSlots) (x : T_impl_Waste) (hx : WasteW x) (c s d : List Int) (i : Nat) (n : Nat) (hi : i < w.fQ.length) (he : gt w.fQ i = x)
  (hb1 : c.length + 12 ≤ 140737488355327) (hb2 : s.length ≤ 140737488355326) (hb3 : d.length + 8 ≤ 140737488355327) :
  l_impl_World_wasteOk_1 K (n + 1) (cntL w.fC.fChunks.toNat c) (cntL w.fL.length s) (cntL w.fL.length d) w.fQ (w.fQ.length : Int) i w.fC.fChunks w.fC.fSize w.fC.fSlots w.fC.fTax w.fC.fSlice w.fC.fGens w.fP.fMem w.fP.fSt w.fP.fOwn w.fL w.fQ w.fLog
   = bif wasteOne w x then l_impl_World_wasteOk_1 K n (cntL w.fC.fChunks.toNat (c ++ x.fChunks)) (cntL w.fL.length (s ++ if x.fSlot = 0 then [] else [iSub .i64 x.fSlot 1])) (cntL w.fL.length (d ++ kidsOfL w.fL x.fFirst)) w.fQ (w.fQ.length : Int) ((i + 1 : Nat) : Int) w.fC.fChunks w.fC.fSize w.fC.fSlots w.fC.fTax w.fC.fSlice w.fC.fGens w.fP.fMem w.fP.fSt w.fP.fOwn w.fL w.fQ w.fLog else some false := by
 have hq := hw.q.2
 rw [l_impl_World_wasteOk_1]
 rw [show T_impl_Conf.mk w.fC.fChunks w.fC.fSize w.fC.fSlots w.fC.fTax w.fC.fSlice w.fC.fGens = w.fC from rfl, show T_impl_Pool.mk w.fP.fMem w.fP.fSt w.fP.fOwn = w.fP from rfl]
 rw [dlt_t hi, cond_true, if_pos (chkT hi), he, wasteRec_impl hK _ _ hx, Z0]
 unfold wasteOne
 cases hr : wasteRec w.fC x with
 | false => rfl
 | true =>
 rw [cond_true, Z30]
 obtain ⟨hc, ⟨s1, s2⟩, ⟨f1, f2⟩, hd, d1, d2⟩ := wasteRec_bnd hr
 obtain ⟨_, hm, hst, _⟩ := poolB_len hp
 obtain ⟨b1, b2, b3, _⟩ := confB_bounds hc
 have hch := dist_in hd
 have hcl := dist_len hc hd
 have h5 : ∀ s', j_impl_World_wasteOk_5 K (cntL w.fL.length d) w.fQ (w.fQ.length : Int) i w.fC.fChunks w.fC.fSize w.fC.fSlots w.fC.fTax w.fC.fSlice w.fC.fGens w.fP.fMem w.fP.fSt w.fP.fOwn w.fL w.fQ w.fLog x.fFirst (cntL w.fC.fChunks.toNat (c ++ x.fChunks)) s' (l_impl_World_wasteOk_1 K n)
   = bif allOrph w x then l_impl_World_wasteOk_1 K n (cntL w.fC.fChunks.toNat (c ++ x.fChunks)) s' (cntL w.fL.length (d ++ kidsOfL w.fL x.fFirst)) w.fQ (w.fQ.length : Int) ((i + 1 : Nat) : Int) w.fC.fChunks w.fC.fSize w.fC.fSlots w.fC.fTax w.fC.fSlice w.fC.fGens w.fP.fMem w.fP.fSt w.fP.fOwn w.fL w.fQ w.fLog else some false := by
  intro s'
  have hk := kidsL_len (l := w.fL) w.fL.length (iSub .i64 x.fFirst 1)
  have hin := kidsL_in (l := w.fL) w.fL.length (iSub .i64 x.fFirst 1)
  unfold j_impl_World_wasteOk_5 allOrph
  rw [kidsOf_impl hK hw.l, Z0]
  change (kidsOfL w.fL x.fFirst).length ≤ _ at hk
  change ∀ y ∈ kidsOfL w.fL x.fFirst, _ at hin
  generalize kidsOfL w.fL x.fFirst = r at *
  refine count_ok hK w.fL.length d r hin (by omega) (orphB w.fL) _ _ (fun m v j => l_impl_World_wasteOk_6 K w.fQ (w.fQ.length : Int) i w.fC.fChunks w.fC.fSize w.fC.fSlots w.fC.fTax w.fC.fSlice w.fC.fGens w.fP.fMem w.fP.fSt w.fP.fOwn w.fL w.fQ w.fLog (cntL w.fC.fChunks.toNat (c ++ x.fChunks)) s' r (l_impl_World_wasteOk_1 K n) m v (r.length : Int) j) (fun m v j hj hv => ?_) (fun m => ?_)
  ·have hr1 := hin _ (gt_mem hj)
   simp only [l_impl_World_wasteOk_6]
   rw [dlt_t hj, cond_true, if_pos (chkT hj), if_pos (by rw [hv]; exact hr1), if_pos (by rw [hv]; exact hr1), orphan_impl K hw.l hr1, iAdd1 (by omega), Z0, bif_not, gt_nat hj]
  ·show l_impl_World_wasteOk_6 K _ _ _ _ _ _ _ _ _ _ _ _ _ _ _ _ _ _ _ (m + 1) _ _ _ = _
   rw [l_impl_World_wasteOk_6, dlt_f (Z9 _), cond_false, iAdd1 (by omega)]
 have h4 : ∀ s', j_impl_World_wasteOk_4 K (cntL w.fL.length d) w.fQ (w.fQ.length : Int) i w.fC.fChunks w.fC.fSize w.fC.fSlots w.fC.fTax w.fC.fSlice w.fC.fGens w.fP.fMem w.fP.fSt w.fP.fOwn w.fL w.fQ w.fLog x.fFirst (cntL w.fC.fChunks.toNat (c ++ x.fChunks)) (l_impl_World_wasteOk_1 K n) s'
   = bif firstTop w x && allOrph w x then l_impl_World_wasteOk_1 K n (cntL w.fC.fChunks.toNat (c ++ x.fChunks)) s' (cntL w.fL.length (d ++ kidsOfL w.fL x.fFirst)) w.fQ (w.fQ.length : Int) ((i + 1 : Nat) : Int) w.fC.fChunks w.fC.fSize w.fC.fSlots w.fC.fTax w.fC.fSlice w.fC.fGens w.fP.fMem w.fP.fSt w.fP.fOwn w.fL w.fQ w.fLog else some false := by
  intro s'
  unfold j_impl_World_wasteOk_4 firstTop
  rw [h5]
  by_cases g : x.fFirst = 0
  ·rw [g]; rfl
  ·rw [decide_eq_true (by omega), cond_true, if_pos (link_in hK hL hc g f1 f2), beq_f g]
   simp only [bne, bif_not, Z52]
   cases (gt w.fL (iSub .i64 x.fFirst 1)).fPrev == 0 <;> rfl
 have h2 : j_impl_World_wasteOk_2 K (cntL w.fC.fChunks.toNat c) (cntL w.fL.length s) (cntL w.fL.length d) w.fQ (w.fQ.length : Int) i w.fC.fChunks w.fC.fSize w.fC.fSlots w.fC.fTax w.fC.fSlice w.fC.fGens w.fP.fMem w.fP.fSt w.fP.fOwn w.fL w.fQ w.fLog (l_impl_World_wasteOk_1 K n) x.fSlot x.fFirst x.fTags x.fChunks x.fDone
   = bif allWait w x && (slotGone w x && (firstTop w x && allOrph w x)) then l_impl_World_wasteOk_1 K n (cntL w.fC.fChunks.toNat (c ++ x.fChunks)) (cntL w.fL.length (s ++ if x.fSlot = 0 then [] else [iSub .i64 x.fSlot 1])) (cntL w.fL.length (d ++ kidsOfL w.fL x.fFirst)) w.fQ (w.fQ.length : Int) ((i + 1 : Nat) : Int) w.fC.fChunks w.fC.fSize w.fC.fSlots w.fC.fTax w.fC.fSlice w.fC.fGens w.fP.fMem w.fP.fSt w.fP.fOwn w.fL w.fQ w.fLog else some false := by
  unfold j_impl_World_wasteOk_2
  rw [count_ok hK w.fC.fChunks.toNat c x.fChunks (fun y hy => by have := hch y hy; omega) (by omega) (fun k => gt w.fP.fSt k == 2)
   (bif slotGone w x && (firstTop w x && allOrph w x) then l_impl_World_wasteOk_1 K n (cntL w.fC.fChunks.toNat (c ++ x.fChunks)) (cntL w.fL.length (s ++ if x.fSlot = 0 then [] else [iSub .i64 x.fSlot 1])) (cntL w.fL.length (d ++ kidsOfL w.fL x.fFirst)) w.fQ (w.fQ.length : Int) ((i + 1 : Nat) : Int) w.fC.fChunks w.fC.fSize w.fC.fSlots w.fC.fTax w.fC.fSlice w.fC.fGens w.fP.fMem w.fP.fSt w.fP.fOwn w.fL w.fQ w.fLog else some false) (some false)
   (fun m v j => l_impl_World_wasteOk_3 K (cntL w.fL.length s) (cntL w.fL.length d) w.fQ (w.fQ.length : Int) i w.fC.fChunks w.fC.fSize w.fC.fSlots w.fC.fTax w.fC.fSlice w.fC.fGens w.fP.fMem w.fP.fSt w.fP.fOwn w.fL w.fQ w.fLog x.fSlot x.fFirst x.fChunks (l_impl_World_wasteOk_1 K n) m v (x.fChunks.length : Int) j x.fChunks) (fun m v j hj hv => ?_) (fun m => ?_)]
  ·unfold allWait
   cases x.fChunks.all _ <;> rfl
  ·have hr1 := hch _ (gt_mem hj)
   simp only [l_impl_World_wasteOk_3]
   rw [dlt_t hj, cond_true, if_pos (chkT hj), if_pos (by rw [hv]; omega), if_pos (by rw [hv]; omega), if_pos ⟨hr1.1, by omega⟩, iAdd1 (by omega), bne, bif_not, gt_nat hj]
  ·show l_impl_World_wasteOk_3 K _ _ _ _ _ _ _ _ _ _ _ _ _ _ _ _ _ _ _ _ _ (m + 1) _ _ _ _ = _
   rw [l_impl_World_wasteOk_3, dlt_f (Z9 _), cond_false, h4, h4, cntL_len]
   unfold slotGone
   by_cases g : x.fSlot = 0
   ·rw [g, if_pos rfl, List.append_nil]; rfl
   ·have hlk := link_in hK hL hc g s1 s2
    rw [decide_eq_true (by omega), cond_true, if_pos hlk, if_pos hlk, if_neg g, cntL_add hlk.1 hlk.2 (by omega), beq_f g]
    simp only [bne, bif_not, Z52, if_pos hlk]
    cases (gt w.fL (iSub .i64 x.fSlot 1)).fSt == 2 <;> rfl
 rw [h2]
 unfold zeroDone
 by_cases g : (x.fChunks.length : Int) > 0
 ·have h5 := hch _ (gt_memI (l := x.fChunks) (Int.le_refl 0) (by omega))
  obtain ⟨e1, e2, e3, e4⟩ := chunk_at hc hm h5.1 h5.2
  have hlc : (chunkL w.fC w.fP.fMem (gt x.fChunks 0)).length = w.fC.fSize.toNat := by unfold chunkL; simp; omega
  have htk : List.take (x.fDone - 0).toNat (List.drop (0 : Int).toNat (chunkL w.fC w.fP.fMem (gt x.fChunks 0))) = List.take x.fDone.toNat (List.drop (gt x.fChunks 0 * w.fC.fSize).toNat w.fP.fMem) := by
   unfold chunkL
   simp only [Int.sub_zero, Int.toNat_zero, Z55, List.take_take]
   rw [Nat.min_eq_left (by omega)]
  rw [decide_eq_true g, cond_true, if_pos ⟨by omega, by omega⟩, chunk_impl hK hc hm h5.1 h5.2, Z0, if_pos ⟨by omega, by omega, by rw [hlc]; omega⟩, htk, isZero_impl hK _ (by simp; omega)]
  simp only [Z0, bif_not, Bool.not_true, Z52]
  cases zeroB (List.take x.fDone.toNat (List.drop (gt x.fChunks 0 * w.fC.fSize).toNat w.fP.fMem)) <;> cases allWait w x <;> rfl
 ·rw [decide_eq_false g]
  simp only [cond_false, Bool.not_false, Bool.true_or, Z30]
theorem slL_len (q : List T_impl_Waste) : (slL q).length ≤ q.length := by
 have := flat_len q (fun x => if x.fSlot = 0 then [] else [iSub .i64 x.fSlot 1]) 1 (fun x _ => by split <;> simp)
 simpa [slL] using this
theorem kdL_len (l : List T_impl_Node) (hl : l.length ≤ 8) (q : List T_impl_Waste) : (kdL l q).length ≤ q.length * 8 :=
 flat_len _ _ 8 fun x _ => Z57 (kidsL_len _ _) hl
end
theorem cnt_ok {β : Type} (N : Nat) (hN : N ≤ 140737488355327) (q : Nat -> Bool) (fin : Int -> Option β) (L : Nat -> Int -> Int -> Option β)
  (hs : ∀ n (v : Int) (i : Nat), i < N -> 0 ≤ v -> v ≤ i -> L (n + 1) v (i : Int) = bif q i then L n (v + 1) ((i + 1 : Nat) : Int) else L n v ((i + 1 : Nat) : Int))
  (he : ∀ n v, L (n + 1) v (N : Int) = fin v) :
  ∀ (n i : Nat) (v : Int), 0 ≤ v -> v ≤ i -> i ≤ N -> N - i < n -> L n v (i : Int) = fin (v + ((((List.range N).drop i).filter q).length : Int)) := by
 intro n
 induction n with
 | zero => intro i v _ _ _ h; omega
 | succ n ih =>
  intro i v h0 hv hi hn
  rcases Z18 i N with h | h
  ·rw [hs n v i h h0 hv, Z47 (by simpa using h), List.getElem_range, List.filter_cons]
   cases hq : q i with
   | true =>
    rw [cond_true, ih (i + 1) _ (by omega) (by omega) (by omega) (by omega)]
    simp only [if_true, Z28]
    congr 1
    omega
   | false =>
    rw [cond_false, ih (i + 1) _ (by omega) (by omega) (by omega) (by omega)]
    simp
  ·obtain rfl : i = N := by omega
   rw [he, Z48 (by simp)]; simp
theorem iAdd1i {v : Int} (h0 : 0 ≤ v) (h : v ≤ 140737488355328) : iAdd .i64 v 1 = v + 1 := by unfold iAdd; rw [i64_id (by omega) (by omega)]
section
variable {K : Nat} (hK : 281474976710656 ≤ K)
include hK
theorem wasteOk_impl (w : T_impl_World) (hw : WorldW w) (hp : poolB w.fC w.fP = true) (hL : (w.fL.length : Int) = w.fC.fSlots) : m_impl_World_wasteOk K w = some (w.fQ.all (wasteOne w) && implFin w w.fC.fChunks.toNat) := by
 obtain ⟨hc, hm, hst, _⟩ := poolB_len hp
 obtain ⟨b1, b2, b3, _⟩ := confB_bounds hc
 have hq := hw.q.2
 have key : ∀ (n i : Nat), (∀ x ∈ w.fQ.take i, wasteOne w x = true) -> i ≤ w.fQ.length -> w.fQ.length - i < n →
   l_impl_World_wasteOk_1 K n (cntL w.fC.fChunks.toNat (chL (w.fQ.take i))) (cntL w.fL.length (slL (w.fQ.take i))) (cntL w.fL.length (kdL w.fL (w.fQ.take i))) w.fQ (w.fQ.length : Int) i w.fC.fChunks w.fC.fSize w.fC.fSlots w.fC.fTax w.fC.fSlice w.fC.fGens w.fP.fMem w.fP.fSt w.fP.fOwn w.fL w.fQ w.fLog = some ((w.fQ.drop i).all (wasteOne w) && implFin w w.fC.fChunks.toNat) := by
  intro n
  induction n with
  | zero => intro i _ _ h; omega
  | succ n ih =>
   intro i hpre hi hn
   rcases Z18 i w.fQ.length with h | h
   ·have hb1 : (chL (w.fQ.take i)).length ≤ (w.fQ.take i).length * 12 := flat_len _ _ 12 fun x hx => by
     have := hpre x hx
     unfold wasteOne at this
     simp only [Z4] at this
     obtain ⟨hc, _, _, hd, _⟩ := wasteRec_bnd this.1
     exact dist_len hc hd
    have hb2 := slL_len hK (w.fQ.take i)
    have hb3 := kdL_len hK w.fL (by omega) (w.fQ.take i)
    rw [List.length_take] at hb1 hb2 hb3
    rw [waste_step hK w hw hp hL w.fQ[i] (hw.q.1 _ (List.getElem_mem h)) _ _ _ i n h (gt_nat h) (by omega) (by omega) (by omega), Z47 h, Z51]
    cases hx : wasteOne w w.fQ[i] with
    | false => rfl
    | true =>
     rw [cond_true, Z30, ←ih (i + 1) (fun x hx2 => by
      rw [←List.take_append_getElem h, Z26] at hx2
      rcases hx2 with hx2 | hx2
      ·exact hpre x hx2
      ·simp only [Z29] at hx2; rw [hx2]; exact hx) h (by omega)]
     unfold chL slL kdL
     rw [take_flat _ _ _ h, take_flat _ _ _ h, take_flat _ _ _ h]
   ·obtain rfl : i = w.fQ.length := by omega
    rw [l_impl_World_wasteOk_1, dlt_f (Z9 _), cond_false, List.take_length, fin7_impl hK w hw hp, List.drop_length]; rfl
 unfold m_impl_World_wasteOk
 rw [if_pos ⟨by omega, by omega, by omega, by omega⟩, if_pos ⟨by omega, by omega, by omega, by omega⟩, if_pos ⟨by omega, by omega, by omega, by omega⟩]
 have := key K 0 (fun x hx => by simp at hx) (Z21 _) (by omega)
 rw [List.take_zero, Z55, show chL [] = [] from rfl, show slL [] = [] from rfl, show kdL w.fL [] = [] from rfl, cntL_nil, cntL_nil] at this
 rw [←this, show w.fL.length = w.fC.fSlots.toNat by omega]
 rfl
theorem countOf_spec (p : T_impl_Pool) (st : Int) (hl : p.fSt.length ≤ 140737488355327) : m_spec_CountOf K p st = some ((((List.range p.fSt.length).filter (fun k : Nat => gt p.fSt k == st)).length : Nat) : Int) := by
 unfold m_spec_CountOf
 have := cnt_ok p.fSt.length hl (fun k : Nat => gt p.fSt k == st) some (fun n v i => l_spec_CountOf_1 K st n v i p.fMem p.fSt p.fOwn) (fun n v i hi h0 hv => ?_) (fun n v => ?_) K 0 0 (Int.le_refl _) (Int.le_refl _) (Z21 _) (by omega)
 ·simpa using this
 ·simp only [l_spec_CountOf_1, j_spec_CountOf_2]
  rw [dlt_t hi, cond_true, if_pos (chkT hi), iAdd1 (by omega), iAdd1i h0 (by omega)]
 ·show l_spec_CountOf_1 K st (n + 1) v _ _ _ _ = _
  rw [l_spec_CountOf_1, dlt_f (Z9 _), cond_false]
theorem countNodes_spec (l : List T_impl_Node) (st : Int) (hl : l.length ≤ 140737488355327) : m_spec_CountNodes K l st = some ((((List.range l.length).filter (fun k : Nat => (gt l k).fSt == st)).length : Nat) : Int) := by
 unfold m_spec_CountNodes
 have := cnt_ok l.length hl (fun k : Nat => (gt l k).fSt == st) some (fun n v i => l_spec_CountNodes_1 K l st n v i) (fun n v i hi h0 hv => ?_) (fun n v => ?_) K 0 0 (Int.le_refl _) (Int.le_refl _) (Z21 _) (by omega)
 ·simpa using this
 ·simp only [l_spec_CountNodes_1, j_spec_CountNodes_2]
  rw [dlt_t hi, cond_true, if_pos (chkT hi), iAdd1 (by omega), iAdd1i h0 (by omega)]
 ·show l_spec_CountNodes_1 K l st (n + 1) v _ = _
  rw [l_spec_CountNodes_1, dlt_f (Z9 _), cond_false]
theorem counts_end (w : T_impl_World) (hw : WorldW w) (v1 v2 : Int) (v3 : List Int) (h3 : v3.length ≤ 140737488355327) :
  l_spec_l13Counts_6 K v1 v2 v3 w.fP.fMem w.fP.fSt w.fP.fOwn w.fL K 0 0 = some (nodupB v3 && ((v1 == ((waitL w).length : Int)) && ((v2 == ((goneL w).length : Int)) && ((v3.length : Int) == ((orphL w).length : Int))))) := by
 have hl := nodes_len hw.l
 have hs := len8 hK hw.p.st
 have h8 : ∀ v24, l_spec_l13Counts_8 K v1 v2 v3 w.fP.fMem w.fP.fSt w.fP.fOwn w.fL v24 K 0 = some (nodupB v3 && ((v1 == ((waitL w).length : Int)) && ((v2 == ((goneL w).length : Int)) && ((v3.length : Int) == v24)))) := by
  intro v24
  rw [alln_ok0 hK v3.length (by omega) (fun i => !(v3.take i).contains (gt v3 i)) (some ((v1 == ((waitL w).length : Int)) && ((v2 == ((goneL w).length : Int)) && ((v3.length : Int) == v24)))) (fun n i => l_spec_l13Counts_8 K v1 v2 v3 w.fP.fMem w.fP.fSt w.fP.fOwn w.fL v24 n i) (fun n i h => ?_) (fun n => ?_)]
  ·rw [bif_sf]; rfl
  ·have hp : (v3.take i).length ≤ 140737488355328 := by simp; omega
   simp only [l_spec_l13Counts_8]
   rw [dlt_t h, cond_true, if_pos (preOk (by omega)), if_pos (chkT h), pre_eq, l7Has_ok hK _ _ hp, iAdd1 (by omega), Z0, bif_not]
  ·show l_spec_l13Counts_8 K v1 v2 v3 _ _ _ _ v24 (n + 1) _ = _
   rw [l_spec_l13Counts_8, dlt_f (Z9 _), cond_false, countOf_spec hK _ _ hs, countNodes_spec hK _ _ hl]
   simp only [Z0, bif_sf]
   unfold waitL goneL
   simp only [Z11]
 have := cnt_ok w.fL.length hl (fun k : Nat => orphB w.fL k) (fun v => some (nodupB v3 && ((v1 == ((waitL w).length : Int)) && ((v2 == ((goneL w).length : Int)) && ((v3.length : Int) == v))))) (fun n v i => l_spec_l13Counts_6 K v1 v2 v3 w.fP.fMem w.fP.fSt w.fP.fOwn w.fL n v i) (fun n v i hi h0 hv => ?_) (fun n v => ?_) K 0 0 (Int.le_refl _) (Int.le_refl _) (Z21 _) (by omega)
 ·rw [show ((0 : Nat) : Int) = 0 from rfl] at this
  rw [this]
  unfold orphL
  simp only [Z11, Z55, Int.zero_add]
 ·simp only [l_spec_l13Counts_6, j_spec_l13Counts_7]
  rw [dlt_t hi, cond_true, orphan_spec K hw.l (chkT hi), Z0, iAdd1 (by omega), iAdd1i h0 (by omega)]
 ·show l_spec_l13Counts_6 K v1 v2 v3 _ _ _ _ (n + 1) v _ = _
  rw [l_spec_l13Counts_6, dlt_f (Z9 _), cond_false, h8]
theorem counts_step (w : T_impl_World) (hw : WorldW w) (i n : Nat) (hi : i < w.fQ.length) (v1 v2 : Int) (v3 : List Int) (h1 : 0 ≤ v1 ∧ v1 ≤ 70368744177664) (h2 : 0 ≤ v2 ∧ v2 ≤ 70368744177664) (h3 : (v3.length + w.fL.length) * 8 ≤ 140737488355327) (hcl : (gt w.fQ i).fChunks.length ≤ 12) :
  l_spec_l13Counts_1 K (n + 1) v1 v2 v3 i w.fC.fChunks w.fC.fSize w.fC.fSlots w.fC.fTax w.fC.fSlice w.fC.fGens w.fP.fMem w.fP.fSt w.fP.fOwn w.fL w.fQ w.fLog
   = bif (List.range i).all (fun k => pairOk w.fQ i k) then l_spec_l13Counts_1 K n (v1 + ((gt w.fQ i).fChunks.length : Int)) (v2 + ((if (gt w.fQ i).fSlot = 0 then ([] : List Int) else [iSub .i64 (gt w.fQ i).fSlot 1]).length : Int)) (v3 ++ kidsOfL w.fL (gt w.fQ i).fFirst) ((i + 1 : Nat) : Int) w.fC.fChunks w.fC.fSize w.fC.fSlots w.fC.fTax w.fC.fSlice w.fC.fGens w.fP.fMem w.fP.fSt w.fP.fOwn w.fL w.fQ w.fLog else some false := by
 have hq := hw.q.2
 have hm := maxLen_ge
 have hx := hw.q.1 _ (gt_mem hi)
 have hkl := kidsL_len (l := w.fL) w.fL.length (iSub .i64 (gt w.fQ i).fFirst 1)
 change (kidsOfL w.fL (gt w.fQ i).fFirst).length ≤ _ at hkl
 have hJ : ∀ v17 v18, j_spec_l13Counts_2 K v3 i w.fC.fChunks w.fC.fSize w.fC.fSlots w.fC.fTax w.fC.fSlice w.fC.fGens w.fP.fMem w.fP.fSt w.fP.fOwn w.fL w.fQ w.fLog (l_spec_l13Counts_1 K n) v17 v18
   = bif (List.range i).all (fun k => pairOk w.fQ i k) then l_spec_l13Counts_1 K n v17 v18 (v3 ++ kidsOfL w.fL (gt w.fQ i).fFirst) ((i + 1 : Nat) : Int) w.fC.fChunks w.fC.fSize w.fC.fSlots w.fC.fTax w.fC.fSlice w.fC.fGens w.fP.fMem w.fP.fSt w.fP.fOwn w.fL w.fQ w.fLog else some false := by
  intro v17 v18
  unfold j_spec_l13Counts_2
  have hlen : (v3 ++ kidsOfL w.fL (gt w.fQ i).fFirst).length = v3.length + (kidsOfL w.fL (gt w.fQ i).fFirst).length := by simp
  rw [if_pos (chkT hi), kidsOf_spec hK hw.l hx.first, Z0, if_pos ⟨by rw [hlen]; omega, by rw [hlen]; omega⟩]
  rw [alln_ok0 hK i (by omega) (fun k => pairOk w.fQ i k) _ (fun m k => l_spec_l13Counts_3 K i w.fC.fChunks w.fC.fSize w.fC.fSlots w.fC.fTax w.fC.fSlice w.fC.fGens w.fP.fMem w.fP.fSt w.fP.fOwn w.fL w.fQ w.fLog v17 v18 (l_spec_l13Counts_1 K n) m (v3 ++ kidsOfL w.fL (gt w.fQ i).fFirst) k) (fun m k hk => ?_) (fun m => ?_)]
  ·have hk2 : k < w.fQ.length := by omega
   have hlk := len8 hK (hw.q.1 _ (gt_mem hk2)).chunks
   have h4 : ∀ C : List Int -> Int -> Option Bool, j_spec_l13Counts_4 K i w.fQ (v3 ++ kidsOfL w.fL (gt w.fQ i).fFirst) k C = bif (gt w.fQ i).fChunks.all (fun y => !(gt w.fQ k).fChunks.contains y) then C (v3 ++ kidsOfL w.fL (gt w.fQ i).fFirst) ((k + 1 : Nat) : Int) else some false := by
    intro C
    unfold j_spec_l13Counts_4
    rw [all_ok0 hK (gt w.fQ i).fChunks (by omega) (fun y => !(gt w.fQ k).fChunks.contains y) _ (fun m j => l_spec_l13Counts_5 K i w.fQ (v3 ++ kidsOfL w.fL (gt w.fQ i).fFirst) k C m j) (fun m j hj => ?_) (fun m => ?_)]
    ·simp only [l_spec_l13Counts_5]
     rw [if_pos (chkT hi), dlt_t hj, cond_true, if_pos (chkT hk2), if_pos (chkT hj), l7Has_ok hK _ _ (by omega), Z0, iAdd1 (by omega), bif_not, gt_nat hj, if_pos (chkT hi)]
    ·show l_spec_l13Counts_5 K i w.fQ _ k C (m + 1) _ = _
     rw [l_spec_l13Counts_5, if_pos (chkT hi), dlt_f (Z9 _), cond_false, iAdd1 (by omega)]
   simp only [l_spec_l13Counts_3]
   rw [dlt_t hk, cond_true, if_pos (chkT hi), if_pos (chkT hk2), if_pos (chkT hi), h4]
   unfold pairOk
   cases (gt w.fQ (i : Int)).fSlot != 0 <;> cases (gt w.fQ (k : Int)).fSlot == (gt w.fQ (i : Int)).fSlot <;> cases (gt w.fQ i).fChunks.all _ <;> rfl
  ·show l_spec_l13Counts_3 K i _ _ _ _ _ _ _ _ _ _ _ _ v17 v18 _ (m + 1) _ _ = _
   rw [l_spec_l13Counts_3, dlt_f (Z9 _), cond_false, iAdd1 (by omega)]
 rw [l_spec_l13Counts_1, dlt_t hi, cond_true, if_pos (chkT hi), if_pos (chkT hi), hJ, hJ]
 have e1 : iAdd .i64 v1 ((gt w.fQ i).fChunks.length : Int) = v1 + ((gt w.fQ i).fChunks.length : Int) := by unfold iAdd; rw [i64_id (by omega) (by omega)]
 rw [e1, iAdd1i h2.1 (by omega)]
 by_cases g : (gt w.fQ i).fSlot = 0
 ·rw [if_pos g, g]; simp
 ·rw [if_neg g, bne_t g]; simp
theorem counts_spec (w : T_impl_World) (hw : WorldW w) (hp : poolB w.fC w.fP = true) (hL : (w.fL.length : Int) = w.fC.fSlots) (hall : ∀ x ∈ w.fQ, wasteOne w x = true) : m_spec_l13Counts K w = some (specFin w) := by
 obtain ⟨hc, hm, hst, _⟩ := poolB_len hp
 obtain ⟨b1, b2, b3, _⟩ := confB_bounds hc
 have hq := hw.q.2
 have hc12 : ∀ x ∈ w.fQ, x.fChunks.length ≤ 12 := fun x hx => by
  have := hall x hx
  unfold wasteOne at this
  simp only [Z4] at this
  obtain ⟨hc, _, _, hd, _⟩ := wasteRec_bnd this.1
  exact dist_len hc hd
 have h3 := kdL_len hK w.fL (by omega) w.fQ
 unfold m_spec_l13Counts
 have := allS_ok hK (List.range w.fQ.length) (by simp; omega) (fun i => (List.range i).all (fun k => pairOk w.fQ i k)) (l_spec_l13Counts_6 K ((chL w.fQ).length : Int) ((slL w.fQ).length : Int) (kdL w.fL w.fQ) w.fP.fMem w.fP.fSt w.fP.fOwn w.fL K 0 0) (some false)
  (fun n i => l_spec_l13Counts_1 K n ((chL (w.fQ.take i)).length : Int) ((slL (w.fQ.take i)).length : Int) (kdL w.fL (w.fQ.take i)) (i : Int) w.fC.fChunks w.fC.fSize w.fC.fSlots w.fC.fTax w.fC.fSlice w.fC.fGens w.fP.fMem w.fP.fSt w.fP.fOwn w.fL w.fQ w.fLog) (fun n i h => ?_) (fun n => ?_)
 ·rw [List.take_zero, show chL [] = [] from rfl, show slL [] = [] from rfl, show kdL w.fL [] = [] from rfl] at this
  refine Eq.trans this ?_
  rw [counts_end hK w hw _ _ _ (by omega), bif_sf]
  rfl
 ·have hi : i < w.fQ.length := by simpa using h
  have hb1 : (chL (w.fQ.take i)).length ≤ (w.fQ.take i).length * 12 := flat_len _ _ 12 fun x hx => hc12 x (Z42 hx)
  have hb2 := slL_len hK (w.fQ.take i)
  have hb3 := kdL_len hK w.fL (by omega) (w.fQ.take i)
  rw [List.length_take] at hb1 hb2 hb3
  simp only [List.getElem_range]
  rw [counts_step hK w hw i n hi _ _ _ ⟨by omega, by omega⟩ ⟨by omega, by omega⟩ (by omega) (hc12 _ (gt_mem hi))]
  unfold chL slL kdL
  rw [take_flat _ _ _ hi, take_flat _ _ _ hi, take_flat _ _ _ hi, gt_nat hi, Z23, Z23]
  rfl
 ·rw [List.length_range, List.take_length, l_spec_l13Counts_1, dlt_f (Z9 _), cond_false]
end
def worldB (w : T_impl_World) : Bool :=
 poolB w.fC w.fP && (((w.fL.length : Int) == w.fC.fSlots) && ((List.range w.fL.length).all (slotB w) && (treeB w.fL && ((w.fQ.all (wasteOne w) && implFin w w.fC.fChunks.toNat) && w.fLog.all (fun x => inB x 0 255)))))
section
variable {K : Nat} (hK : 281474976710656 ≤ K)
include hK
theorem worldOk_impl (w : T_impl_World) (hw : WorldW w) : m_impl_WorldOk K w = some (worldB w) := by
 have hl := len8 hK hw.log
 unfold m_impl_WorldOk worldB
 rw [poolOk_impl hK, Z0]
 cases hp : poolB w.fC w.fP with
 | false => rfl
 | true =>
 rw [cond_true, Z30]
 cases hL : (w.fL.length : Int) == w.fC.fSlots with
 | false => rfl
 | true =>
 rw [beq_iff_eq] at hL
 rw [cond_true, Z30, slotsOk_impl hK w hw hp, treeOk_impl hK hw.l, wasteOk_impl hK w hw hp hL, areBytes_impl hK _ (by omega)]
 simp only [Z0, bif_sf]
theorem worldOk_spec (w : T_impl_World) (hw : WorldW w) : m_spec_WorldOk K w = some (worldB w) := by
 have hl := len8 hK hw.log
 have hl2 := nodes_len hw.l
 have hq := hw.q.2
 unfold m_spec_WorldOk worldB
 rw [poolOk_spec hK, Z0]
 cases hp : poolB w.fC w.fP with
 | false => rfl
 | true =>
 rw [cond_true, Z30]
 cases hL : (w.fL.length : Int) == w.fC.fSlots with
 | false => rw [bne, hL]; rfl
 | true =>
 rw [bne, hL, Bool.not_true, cond_false, Z30, treeOk_spec hK hw.l, Z0, bif_not]
 rw [beq_iff_eq] at hL
 have e1 : T_impl_Conf.mk w.fC.fChunks w.fC.fSize w.fC.fSlots w.fC.fTax w.fC.fSlice w.fC.fGens = w.fC := rfl
 have e2 : T_impl_World.mk (T_impl_Conf.mk w.fC.fChunks w.fC.fSize w.fC.fSlots w.fC.fTax w.fC.fSlice w.fC.fGens) (T_impl_Pool.mk w.fP.fMem w.fP.fSt w.fP.fOwn) w.fL w.fQ w.fLog = w := rfl
 have h3 : w.fQ.all (wasteOne w) = true -> l_spec_WorldOk_3 K w.fC.fChunks w.fC.fSize w.fC.fSlots w.fC.fTax w.fC.fSlice w.fC.fGens w.fP.fMem w.fP.fSt w.fP.fOwn w.fL w.fQ w.fLog K 0 = some (w.fLog.all (fun x => inB x 0 255) && implFin w w.fC.fChunks.toNat) := by
  intro hall
  rw [Z1] at hall
  rw [fin_eq hp hL hall]
  rw [all_ok0 hK w.fLog (by omega) (fun x => inB x 0 255) (some (specFin w)) (l_spec_WorldOk_3 K w.fC.fChunks w.fC.fSize w.fC.fSlots w.fC.fTax w.fC.fSlice w.fC.fGens w.fP.fMem w.fP.fSt w.fP.fOwn w.fL w.fQ w.fLog) (fun n i h => ?_) (fun n => ?_)]
  ·rw [bif_sf]
  ·rw [l_spec_WorldOk_3, dlt_t h, cond_true, if_pos (chkT h), l1In_eq, iAdd1 (by omega), Z0, bif_not, gt_nat h]
  ·rw [l_spec_WorldOk_3, dlt_f (Z9 _), cond_false, e2, counts_spec hK w hw hp hL hall, Z0]
 have h2 : l_spec_WorldOk_2 K w.fC.fChunks w.fC.fSize w.fC.fSlots w.fC.fTax w.fC.fSlice w.fC.fGens w.fP.fMem w.fP.fSt w.fP.fOwn w.fL w.fQ w.fLog K 0 = some (w.fQ.all (wasteOne w) && (w.fLog.all (fun x => inB x 0 255) && implFin w w.fC.fChunks.toNat)) := by
  rw [all_ok0 hK w.fQ (by omega) (wasteOne w) (l_spec_WorldOk_3 K w.fC.fChunks w.fC.fSize w.fC.fSlots w.fC.fTax w.fC.fSlice w.fC.fGens w.fP.fMem w.fP.fSt w.fP.fOwn w.fL w.fQ w.fLog K 0) (l_spec_WorldOk_2 K w.fC.fChunks w.fC.fSize w.fC.fSlots w.fC.fTax w.fC.fSlice w.fC.fGens w.fP.fMem w.fP.fSt w.fP.fOwn w.fL w.fQ w.fLog) (fun n i h => ?_) (fun n => ?_)]
  ·cases hall : w.fQ.all (wasteOne w) with
   | false => rfl
   | true => rw [cond_true, h3 hall]; rfl
  ·rw [l_spec_WorldOk_2, dlt_t h, cond_true, e2, l13Waste_spec hK w hw hp hL i h, iAdd1 (by omega), Z0, bif_not, gt_nat h]
  ·rw [l_spec_WorldOk_2, dlt_f (Z9 _), cond_false]
 have h1 : l_spec_WorldOk_1 K K 0 w.fC.fChunks w.fC.fSize w.fC.fSlots w.fC.fTax w.fC.fSlice w.fC.fGens w.fP.fMem w.fP.fSt w.fP.fOwn w.fL w.fQ w.fLog = some ((List.range w.fL.length).all (slotB w) && (w.fQ.all (wasteOne w) && (w.fLog.all (fun x => inB x 0 255) && implFin w w.fC.fChunks.toNat))) := by
  rw [alln_ok0 hK w.fL.length (by omega) (slotB w) (some (w.fQ.all (wasteOne w) && (w.fLog.all (fun x => inB x 0 255) && implFin w w.fC.fChunks.toNat))) (fun n i => l_spec_WorldOk_1 K n i w.fC.fChunks w.fC.fSize w.fC.fSlots w.fC.fTax w.fC.fSlice w.fC.fGens w.fP.fMem w.fP.fSt w.fP.fOwn w.fL w.fQ w.fLog) (fun n k hk => ?_) (fun n => ?_)]
  ·rw [bif_sf]
  ·simp only [l_spec_WorldOk_1]
   rw [e2, e1]
   have hn := hw.l.1 _ (gt_mem hk)
   have l1 := len8 hK hn.chunks
   have l2 := len24 hK hn.things
   have l3 := len8 hK hn.tags
   rw [dlt_t hk, cond_true, if_pos (chkT hk), nodeOk_spec hK _ _ l1 l2 l3, Z0, l13Chunks_spec hK w k hk hw.p.st.2 l1, iAdd1 (by omega), inChunks_spec hK _ _ l1 l2]
   simp only [Z0]
   unfold slotB
   cases hb : nodeB w.fC (gt w.fL k) with
   | false => rfl
   | true =>
   cases chunksB w.fP k (gt w.fL k).fChunks with
   | false => rfl
   | true =>
   cases hi : (gt w.fL k).fThings.all (inChB w.fC (gt w.fL k).fChunks) with
   | false => simp only [cond_true, Z30, Bool.false_and, cond_false, if_pos (chkT hk)]
   | true =>
   have hs := all_smallT hi
   rw [allApart_spec hK _ l2 (fun t ht => (hs t ht).1), loose_spec hK w k hk hp hn hb hs]
   simp only [Z0, cond_true, bif_not, Z30, if_pos (chkT hk)]
   cases allApartB (gt w.fL k).fThings <;> cases looseB w.fC w.fP.fMem (gt w.fL k) <;> rfl
  ·show l_spec_WorldOk_1 K (n + 1) _ _ _ _ _ _ _ _ _ _ _ _ _ = _
   rw [l_spec_WorldOk_1, dlt_f (Z9 _), cond_false, h2]
 rw [h1]
 cases treeB w.fL with
 | false => rw [cond_false]; simp
 | true =>
  simp only [cond_true, Z30, Z7]
  ac_rfl
end
theorem wf_i64 {x : Int} : Wf_i64 x ↔ -9223372036854775808 ≤ x ∧ x ≤ 9223372036854775807 := by
 simp [Wf_i64, Lit.wf, IntKind.min, IntKind.max, IntKind.signed, IntKind.bits]
theorem wf_bytes {n : Nat} (h : n ≤ reachBytes) : n ≤ 140737488355327 := by simp only [reachBytes] at h; omega
theorem wf_len {n m : Nat} (h : n * m ≤ reachBytes) (hm : 0 < m) : n ≤ 140737488355327 := by
 have : n * 1 ≤ n * m := Nat.mul_le_mul_left n hm
 simp only [reachBytes] at h
 omega
def cvConf (a : T_laws_Conf) : T_impl_Conf := T_impl_Conf.mk a.fChunks a.fSize a.fSlots a.fTax a.fSlice a.fGens
def cvPool (a : T_laws_Pool) : T_impl_Pool := T_impl_Pool.mk a.fMem a.fSt a.fOwn
def cvThing (a : T_laws_Thing) : T_impl_Thing := T_impl_Thing.mk a.fAt a.fLen a.fRun
def cvNode (a : T_laws_Node) : T_impl_Node := T_impl_Node.mk a.fSt a.fGen a.fEp a.fUp a.fUpEp a.fFirst a.fNext a.fPrev a.fChunks a.fCur a.fBump (a.fThings.map cvThing) a.fTags
def cvWaste (a : T_laws_Waste) : T_impl_Waste := T_impl_Waste.mk a.fSlot a.fFirst a.fTags a.fChunks a.fDone
def cvWorld (a : T_laws_World) : T_impl_World := T_impl_World.mk (cvConf a.fC) (cvPool a.fP) (a.fL.map cvNode) (a.fQ.map cvWaste) a.fLog
section
variable {K : Nat} (hK : 281474976710656 ≤ K)
include hK
theorem toByteS_w {a : List Int} (w : Wf_Lu8 a) : m_laws_toByteS K a = some a := by
 have hl := wf_len w.2.1 (by decide)
 unfold m_laws_toByteS
 rw [if_pos ⟨by omega, by omega, by omega, by omega⟩]
 have := conv_ok a some id (fun _ _ => rfl) (by omega) (fun n i v => l_laws_toByteS_1 K a n v i) (fun n i v => rfl) K 0 (List.replicate (a.length : Int).toNat 0) (Z21 _) (by simp) (fun j hj => by omega) (by omega)
 simpa using this
theorem toIntS_w {a : List Int} (w : Wf_Li64 a) : m_laws_toIntS K a = some a := by
 have hl := wf_len w.2.1 (by decide)
 have hr : a.length * 8 ≤ 140737488355327 := wf_bytes w.2.1
 unfold m_laws_toIntS
 rw [if_pos ⟨by omega, by omega, by omega, by omega⟩]
 have := conv_ok a some id (fun _ _ => rfl) (by omega) (fun n i v => l_laws_toIntS_1 K a n v i) (fun n i v => rfl) K 0 (List.replicate (a.length : Int).toNat 0) (Z21 _) (by simp) (fun j hj => by omega) (by omega)
 simpa using this
theorem toThingS_w {a : List T_laws_Thing} (w : Wf_Llaws_Thing a) : m_laws_toThingS K a = some (a.map cvThing) := by
 have hl := wf_len w.2.1 (by decide)
 have hr : a.length * 24 ≤ 140737488355327 := wf_bytes w.2.1
 unfold m_laws_toThingS
 rw [if_pos ⟨by omega, by omega, by omega, by omega⟩]
 exact conv_ok a (m_laws_toThing K) cvThing (fun _ _ => rfl) (by omega) (fun n i v => l_laws_toThingS_1 K a n v i) (fun n i v => rfl) K 0 _ (Z21 _) (by simp) (fun j hj => by omega) (by omega)
theorem toNode_w {a : T_laws_Node} (w : Wf_laws_Node a) : m_laws_toNode K a = some (cvNode a) := by
 unfold m_laws_toNode
 obtain ⟨_, _, _, _, _, _, _, _, h1, _, _, h2, h3⟩ := w
 rw [toIntS_w hK h1, toThingS_w hK h2, toIntS_w hK h3]
 rfl
theorem toNodeS_w {a : List T_laws_Node} (w : Wf_Llaws_Node a) : m_laws_toNodeS K a = some (a.map cvNode) := by
 have hl := wf_len w.2.1 (by decide)
 have hr : a.length * 152 ≤ 140737488355327 := wf_bytes w.2.1
 unfold m_laws_toNodeS
 rw [if_pos ⟨by omega, by omega, by omega, by omega⟩]
 exact conv_ok a (m_laws_toNode K) cvNode (fun x hx => toNode_w hK (w.1 x hx)) (by omega) (fun n i v => l_laws_toNodeS_1 K a n v i) (fun n i v => rfl) K 0 _ (Z21 _) (by simp) (fun j hj => by omega) (by omega)
theorem toWaste_w {a : T_laws_Waste} (w : Wf_laws_Waste a) : m_laws_toWaste K a = some (cvWaste a) := by
 unfold m_laws_toWaste
 obtain ⟨_, _, h1, h2, _⟩ := w
 rw [toIntS_w hK h1, toIntS_w hK h2]
 rfl
theorem toWasteS_w {a : List T_laws_Waste} (w : Wf_Llaws_Waste a) : m_laws_toWasteS K a = some (a.map cvWaste) := by
 have hl := wf_len w.2.1 (by decide)
 have hr : a.length * 72 ≤ 140737488355327 := wf_bytes w.2.1
 unfold m_laws_toWasteS
 rw [if_pos ⟨by omega, by omega, by omega, by omega⟩]
 exact conv_ok a (m_laws_toWaste K) cvWaste (fun x hx => toWaste_w hK (w.1 x hx)) (by omega) (fun n i v => l_laws_toWasteS_1 K a n v i) (fun n i v => rfl) K 0 _ (Z21 _) (by simp) (fun j hj => by omega) (by omega)
theorem toWorld_w {a : T_laws_World} (w : Wf_laws_World a) : m_laws_toWorld K a = some (cvWorld a) := by
 unfold m_laws_toWorld m_laws_toConf m_laws_toPool
 obtain ⟨_, ⟨h1, h2, h3⟩, h4, h5, h6⟩ := w
 rw [toByteS_w hK h1, toIntS_w hK h2, toIntS_w hK h3, toNodeS_w hK h4, toWasteS_w hK h5, toIntS_w hK h6]
 rfl
theorem eqByteS_w {a : List Int} (hl : a.length ≤ 140737488355327) : m_laws_eqByteS K a a = some true := by
 unfold m_laws_eqByteS
 simp only [bne_self_eq_false, cond_false]
 exact eqv_ok a (by omega) (l_laws_eqByteS_1 K a a) (fun n i => rfl) K 0 (Z21 _) (by omega)
theorem eqIntS_w {a : List Int} (w : a.length * 8 ≤ 140737488355327) : m_laws_eqIntS K a a = some true := by
 have hl : a.length ≤ 140737488355327 := by omega
 unfold m_laws_eqIntS
 simp only [bne_self_eq_false, cond_false]
 exact eqv_ok a (by omega) (l_laws_eqIntS_1 K a a) (fun n i => rfl) K 0 (Z21 _) (by omega)
omit hK in
theorem eqThing_w (a : T_impl_Thing) : m_laws_eqThing K a a = some true := by simp [m_laws_eqThing]
theorem eqThingS_w {a : List T_impl_Thing} (w : ThingsW a) : m_laws_eqThingS K a a = some true := by
 have hl : a.length ≤ 140737488355327 := by have := w.2; omega
 unfold m_laws_eqThingS
 simp only [bne_self_eq_false, cond_false]
 exact eq_ok a (m_laws_eqThing K) (fun x _ => eqThing_w x) (by omega) (l_laws_eqThingS_1 K a a) (fun n i => by rw [l_laws_eqThingS_1]; simp only [bif_not]) K 0 (Z21 _) (by omega)
theorem eqNode_w {a : T_impl_Node} (w : NodeW a) : m_laws_eqNode K a a = some true := by
 simp [m_laws_eqNode, eqIntS_w hK w.chunks.2, eqThingS_w hK w.things, eqIntS_w hK w.tags.2]
theorem eqNodeS_w {a : List T_impl_Node} (w : NodesW a) : m_laws_eqNodeS K a a = some true := by
 have hl := nodes_len w
 unfold m_laws_eqNodeS
 simp only [bne_self_eq_false, cond_false]
 exact eq_ok a (m_laws_eqNode K) (fun x hx => eqNode_w hK (w.1 x hx)) (by omega) (l_laws_eqNodeS_1 K a a) (fun n i => by rw [l_laws_eqNodeS_1]; simp only [bif_not]) K 0 (Z21 _) (by omega)
theorem eqWaste_w {a : T_impl_Waste} (w : WasteW a) : m_laws_eqWaste K a a = some true := by
 simp [m_laws_eqWaste, eqIntS_w hK w.tags.2, eqIntS_w hK w.chunks.2]
theorem eqWasteS_w {a : List T_impl_Waste} (w : WastesW a) : m_laws_eqWasteS K a a = some true := by
 have hl : a.length ≤ 140737488355327 := by have := w.2; omega
 unfold m_laws_eqWasteS
 simp only [bne_self_eq_false, cond_false]
 exact eq_ok a (m_laws_eqWaste K) (fun x hx => eqWaste_w hK (w.1 x hx)) (by omega) (l_laws_eqWasteS_1 K a a) (fun n i => by rw [l_laws_eqWasteS_1]; simp only [bif_not]) K 0 (Z21 _) (by omega)
theorem eqWorld_w {a : T_impl_World} (w : WorldW a) : m_laws_eqWorld K a a = some true := by
 simp [m_laws_eqWorld, m_laws_eqConf, m_laws_eqPool, eqByteS_w hK w.p.mem.2, eqIntS_w hK w.p.st.2, eqIntS_w hK w.p.own.2, eqNodeS_w hK w.l, eqWasteS_w hK w.q, eqIntS_w hK w.log.2]
omit hK in
theorem szByteS_w (a : List Int) (y : Int) : ∃ r, m_laws_szByteS K a y = some r := by
 unfold m_laws_szByteS; cases decide (iSub .i64 y (a.length : Int) < 0) <;> exact ⟨_, rfl⟩
omit hK in
theorem szIntS_w (a : List Int) (y : Int) : ∃ r, m_laws_szIntS K a y = some r := by
 unfold m_laws_szIntS; cases decide (iSub .i64 y (a.length : Int) < 0) <;> exact ⟨_, rfl⟩
omit hK in
theorem szThingS_w (a : List T_laws_Thing) (y : Int) : ∃ r, m_laws_szThingS K a y = some r := by
 unfold m_laws_szThingS; cases decide (iSub .i64 y (a.length : Int) < 0) <;> exact ⟨_, rfl⟩
omit hK in
theorem szNode_w (a : T_laws_Node) (y : Int) : ∃ r, m_laws_szNode K a y = some r := by
 unfold m_laws_szNode
 obtain ⟨r1, h1⟩ := szIntS_w (K := K) a.fChunks y
 rw [h1]; simp only [Z0]
 cases decide (r1 < 0)
 ·obtain ⟨r2, h2⟩ := szThingS_w (K := K) a.fThings r1
  simp only [h2, Z0, cond_false]
  cases decide (r2 < 0)
  ·obtain ⟨r3, h3⟩ := szIntS_w (K := K) a.fTags r2
   simp only [h3, Z0, cond_false]
   cases decide (r3 < 0) <;> exact ⟨_, rfl⟩
  ·exact ⟨_, rfl⟩
 ·exact ⟨_, rfl⟩
theorem szNodeS_w {a : List T_laws_Node} (w : Wf_Llaws_Node a) (y : Int) : ∃ r, m_laws_szNodeS K a y = some r := by
 have hl := wf_len w.2.1 (by decide)
 unfold m_laws_szNodeS
 cases decide (iSub .i64 y (a.length : Int) < 0)
 ·exact sz_ok a (m_laws_szNode K) (fun x _ y => szNode_w x y) (by omega) (l_laws_szNodeS_1 K a) (fun n y i => rfl) K 0 _ (Z21 _) (by omega)
 ·exact ⟨_, rfl⟩
omit hK in
theorem szWaste_w (a : T_laws_Waste) (y : Int) : ∃ r, m_laws_szWaste K a y = some r := by
 unfold m_laws_szWaste
 obtain ⟨r1, h1⟩ := szIntS_w (K := K) a.fTags y
 rw [h1]; simp only [Z0]
 cases decide (r1 < 0)
 ·obtain ⟨r2, h2⟩ := szIntS_w (K := K) a.fChunks r1
  simp only [h2, Z0, cond_false]
  cases decide (r2 < 0) <;> exact ⟨_, rfl⟩
 ·exact ⟨_, rfl⟩
theorem szWasteS_w {a : List T_laws_Waste} (w : Wf_Llaws_Waste a) (y : Int) : ∃ r, m_laws_szWasteS K a y = some r := by
 have hl := wf_len w.2.1 (by decide)
 unfold m_laws_szWasteS
 cases decide (iSub .i64 y (a.length : Int) < 0)
 ·exact sz_ok a (m_laws_szWaste K) (fun x _ y => szWaste_w x y) (by omega) (l_laws_szWasteS_1 K a) (fun n y i => rfl) K 0 _ (Z21 _) (by omega)
 ·exact ⟨_, rfl⟩
omit hK in
theorem szPool_w (a : T_laws_Pool) (y : Int) : ∃ r, m_laws_szPool K a y = some r := by
 unfold m_laws_szPool
 obtain ⟨r1, h1⟩ := szByteS_w (K := K) a.fMem y
 rw [h1]; simp only [Z0]
 cases decide (r1 < 0)
 ·obtain ⟨r2, h2⟩ := szIntS_w (K := K) a.fSt r1
  simp only [h2, Z0, cond_false]
  cases decide (r2 < 0)
  ·obtain ⟨r3, h3⟩ := szIntS_w (K := K) a.fOwn r2
   simp only [h3, Z0, cond_false]
   cases decide (r3 < 0) <;> exact ⟨_, rfl⟩
  ·exact ⟨_, rfl⟩
 ·exact ⟨_, rfl⟩
theorem szWorld_w {a : T_laws_World} (w : Wf_laws_World a) (y : Int) : ∃ r, m_laws_szWorld K a y = some r := by
 obtain ⟨_, _, h4, h5, _⟩ := w
 unfold m_laws_szWorld
 obtain ⟨r1, h1⟩ := szPool_w (K := K) a.fP y
 rw [h1]; simp only [Z0]
 cases decide (r1 < 0)
 ·obtain ⟨r2, h2⟩ := szNodeS_w hK h4 r1
  simp only [h2, Z0, cond_false]
  cases decide (r2 < 0)
  ·obtain ⟨r3, h3⟩ := szWasteS_w hK h5 r2
   simp only [h3, Z0, cond_false]
   cases decide (r3 < 0)
   ·obtain ⟨r4, h4⟩ := szIntS_w (K := K) a.fLog r3
    simp only [h4, Z0, cond_false]
    cases decide (r4 < 0) <;> exact ⟨_, rfl⟩
   ·exact ⟨_, rfl⟩
  ·exact ⟨_, rfl⟩
 ·exact ⟨_, rfl⟩
end
theorem wfi_of {x : Int} (h : Wf_i64 x) : wfi x := wf_i64.1 h
theorem intsW_of {l : List Int} (h : Wf_Li64 l) : IntsW l := ⟨fun x hx => wfi_of (h.1 x hx), wf_bytes h.2.1⟩
theorem wf_u8 {x : Int} (h : Wf_u8 x) : 0 ≤ x ∧ x ≤ 255 := by
 simpa [Wf_u8, Lit.wf, IntKind.min, IntKind.max, IntKind.signed, IntKind.bits] using h
theorem bytesW_of {l : List Int} (h : Wf_Lu8 l) : BytesW l := ⟨fun x hx => wf_u8 (h.1 x hx), by have := wf_bytes h.2.1; omega⟩
theorem thingsW_cv {l : List T_laws_Thing} (h : Wf_Llaws_Thing l) : ThingsW (l.map cvThing) := by
 refine ⟨fun x hx => ?_, by rw [Z11]; exact wf_bytes h.2.1⟩
 obtain ⟨y, hy, rfl⟩ := Z22.1 hx
 obtain ⟨h1, h2, h3⟩ := h.1 y hy
 exact ⟨wfi_of h1, wfi_of h2, wfi_of h3⟩
theorem nodeW_cv {a : T_laws_Node} (w : Wf_laws_Node a) : NodeW (cvNode a) := by
 obtain ⟨h1, h2, h3, h4, h5, h6, h7, h8, h9, h10, h11, h12, h13⟩ := w
 exact ⟨wfi_of h1, wfi_of h2, wfi_of h3, wfi_of h4, wfi_of h5, wfi_of h6, wfi_of h7, wfi_of h8, intsW_of h9, wfi_of h10, wfi_of h11, thingsW_cv h12, intsW_of h13⟩
theorem wasteW_cv {a : T_laws_Waste} (w : Wf_laws_Waste a) : WasteW (cvWaste a) := by
 obtain ⟨h1, h2, h3, h4, h5⟩ := w
 exact ⟨wfi_of h1, wfi_of h2, intsW_of h3, intsW_of h4, wfi_of h5⟩
theorem worldW_cv {a : T_laws_World} (w : Wf_laws_World a) : WorldW (cvWorld a) := by
 obtain ⟨⟨c1, c2, c3, c4, c5, c6⟩, ⟨p1, p2, p3⟩, h3, h4, h5⟩ := w
 refine ⟨⟨wfi_of c1, wfi_of c2, wfi_of c3, wfi_of c4, wfi_of c5, wfi_of c6⟩, ⟨bytesW_of p1, intsW_of p2, intsW_of p3⟩, ⟨fun x hx => ?_, ?_⟩, ⟨fun x hx => ?_, ?_⟩, intsW_of h5⟩
 ·obtain ⟨y, hy, rfl⟩ := Z22.1 hx
  exact nodeW_cv (h3.1 y hy)
 ·show (a.fL.map cvNode).length * 152 ≤ _
  rw [Z11]; exact wf_bytes h3.2.1
 ·obtain ⟨y, hy, rfl⟩ := Z22.1 hx
  exact wasteW_cv (h4.1 y hy)
 ·show (a.fQ.map cvWaste).length * 72 ≤ _
  rw [Z11]; exact wf_bytes h4.2.1
def K0 : Nat := 281474976710656
theorem gt_set {α : Type} [Inhabited α] {l : List α} {i : Nat} (h : i < l.length) (x : α) : gt (l.set (i : Int).toNat x) (i : Int) = x := by
 rw [gt_nat (by simpa using h)]; simp
theorem set2 {α : Type} (l : List α) (i : Nat) (x y : α) : (l.set i x).set i y = l.set i y := List.set_set ..
theorem iAddN {k : Nat} (h : k ≤ 140737488355328) : iAdd .i64 (k : Int) 1 = ((k + 1 : Nat) : Int) := iAdd1 h
theorem drop_gt {α : Type} [Inhabited α] {l : List α} {i : Nat} (h : i < l.length) : l.drop i = gt l (i : Int) :: l.drop (i + 1) := by
 rw [gt_nat h, Z47 h]
section
variable {K : Nat} (hK : 281474976710656 ≤ K)
include hK
def markI (n : Nat) (k : Nat) : List Int := (List.range n).map fun i => ((k + i : Nat) : Int)
omit hK in
theorem markI_len (n k : Nat) : (markI n k).length = n := by simp [markI]
omit hK in
theorem markI_loop (k : Nat) : ∀ (n i : Nat) (v : List Int), k + v.length ≤ 140737488355327 -> i ≤ v.length -> (∀ j, j < i -> v[j]? = (markI v.length k)[j]?) -> v.length - i < n →
  l_laws_markIntS_1 K n v ((k + i : Nat) : Int) (i : Int) = some (((k + v.length : Nat) : Int), markI v.length k) := by
 intro n
 induction n with
 | zero => intro i v _ _ _ h; omega
 | succ n ih =>
  intro i v hl hi hj hn
  rw [l_laws_markIntS_1]
  rcases Z18 i v.length with h | h
  ·rw [dlt_t h]
   simp only [cond_true]
   have e : iAdd .i64 ((k + i : Nat) : Int) 1 = ((k + (i + 1) : Nat) : Int) := by unfold iAdd; rw [i64_id (by omega) (by omega)]; omega
   rw [if_pos ⟨by omega, by omega⟩, e, iAdd1 (i := i) (by omega)]
   have := ih (i + 1) (v.set (i : Int).toNat ((k + i : Nat) : Int)) (by simpa using hl) (by simp only [Z49]; omega) (fun j hj2 => by
    rw [Int.toNat_natCast, Z41, Z49]
    by_cases e : i = j
    ·subst e
     rw [if_pos rfl, if_pos h]
     simp [markI, h]
    ·rw [if_neg e]; exact hj j (by omega)) (by simp only [Z49]; omega)
   rw [this]
   simp
  ·rw [dlt_f h]
   have hia : i = v.length := by omega
   subst hia
   have e : v = markI v.length k := by
    refine List.ext_getElem? fun j => ?_
    rcases Z18 j v.length with hja | hja
    ·exact hj j hja
    ·rw [Z58 (by omega), Z58 (by rw [markI_len]; omega)]
   simp only [cond_false]
   rw [←e]
theorem markI_ok (a : List Int) (k : Nat) (hk : k + a.length ≤ 140737488355327) : m_laws_markIntS K a (k : Int) = some (((k + a.length : Nat) : Int), markI a.length k) := by
 unfold m_laws_markIntS
 exact markI_loop k K 0 a hk (Z21 _) (fun j hj => by omega) (by omega)
def three {α : Type} (_ : α) : Nat := 3
omit hK in
theorem sum_three {α : Type} (l : List α) : (l.map three).sum = 3 * l.length := by
 induction l with
 | nil => rfl
 | cons a l ih => simp only [Z8, List.sum_cons, Z28, ih, three]; omega
def cellsN (x : T_impl_Node) : Nat := 10 + x.fChunks.length + 3 * x.fThings.length + x.fTags.length
def cellsW (x : T_impl_Waste) : Nat := 3 + x.fTags.length + x.fChunks.length
def cellsP (p : T_impl_Pool) : Nat := p.fMem.length + p.fSt.length + p.fOwn.length
def cells (w : T_impl_World) : Nat := cellsP w.fP + (w.fL.map cellsN).sum + (w.fQ.map cellsW).sum + w.fLog.length
end
theorem iSubN {y : Int} {n : Nat} (h0 : 0 ≤ y) (h1 : y ≤ 1048576) (hn : n ≤ 140737488355327) : iSub .i64 y (n : Int) = y - n := by
 unfold iSub; exact i64_id (by omega) (by omega)
theorem sz1_b {n : Nat} {y r : Int} (hn : n ≤ 140737488355327) (h0 : 0 ≤ y) (h1 : y ≤ 1048576) (h : (bif (decide ((iSub .i64 y (n : Int)) < 0)) then some (-1) else some (iSub .i64 y (n : Int))) = some r) (hr : 0 ≤ r) : r + n = y := by
 rw [iSubN h0 h1 hn] at h
 cases e : decide (y - (n : Int) < 0) with
 | true => rw [e] at h; simp at h; omega
 | false => rw [e] at h; simp at h; omega
theorem bnd_c {f : Option Int} {g : Int -> Option Int} {r : Int} (h : f.bind (fun q => bif decide (q < 0) then some (-1) else g q) = some r) (hr : 0 ≤ r) : ∃ q, f = some q ∧ 0 ≤ q ∧ g q = some r := by
 cases f with
 | none => cases h
 | some q =>
  simp only [Z0] at h
  cases e : decide (q < 0) with
  | true => rw [e] at h; simp at h; omega
  | false => rw [e] at h; exact ⟨q, rfl, by simpa using e, h⟩
theorem sz_b {α : Type} [Inhabited α] (a : List α) (f : α -> Int -> Option Int) (c : α -> Nat) (hf : ∀ x ∈ a, ∀ y r, 0 ≤ y -> y ≤ 1048576 -> f x y = some r -> 0 ≤ r -> r + c x = y) (ha : a.length ≤ 140737488355327)
  (L : Nat -> Int -> Int -> Option Int) (h00 : ∀ y i, L 0 y i = none) (hL : ∀ n y i, L (n + 1) y i = bif decide (i < (a.length : Int)) then (if (0 : Int) ≤ i ∧ i < (a.length : Int) then (f (gt a i) y).bind (fun r => bif decide (r < 0) then some (-1) else L n r (iAdd .i64 i 1)) else none) else some y) :
  ∀ (n i : Nat) (y r : Int), i ≤ a.length -> 0 ≤ y -> y ≤ 1048576 -> L n y (i : Int) = some r -> 0 ≤ r -> r + (((a.drop i).map c).sum : Nat) = y := by
 intro n
 induction n with
 | zero => intro i y r _ _ _ h; rw [h00] at h; cases h
 | succ n ih =>
  intro i y r hi h0 h1 h hr
  rw [hL] at h
  rcases Z18 i a.length with hl | hl
  ·rw [dlt_t hl] at h
   simp only [cond_true] at h
   rw [if_pos ⟨by omega, by omega⟩, iAdd1 (by omega)] at h
   obtain ⟨q, q1, q2, q3⟩ := bnd_c h hr
   have e1 := hf _ (gt_mem hl) _ _ h0 h1 q1 q2
   have e2 := ih (i + 1) q r hl q2 (by omega) q3 hr
   rw [drop_gt hl, Z8, List.sum_cons]
   omega
  ·rw [dlt_f hl] at h
   simp only [cond_false, Z7] at h
   rw [Z48 hl]
   simp
   omega
def szN (x : T_laws_Node) : Nat := x.fChunks.length + x.fThings.length + x.fTags.length
def szW (x : T_laws_Waste) : Nat := x.fTags.length + x.fChunks.length
theorem szNode_b {K : Nat} {a : T_laws_Node} (w : Wf_laws_Node a) {y r : Int} (h0 : 0 ≤ y) (h1 : y ≤ 1048576) (h : m_laws_szNode K a y = some r) (hr : 0 ≤ r) : r + szN a = y := by
 obtain ⟨_, _, _, _, _, _, _, _, w1, _, _, w2, w3⟩ := w
 unfold m_laws_szNode at h
 obtain ⟨q, q1, q2, h⟩ := bnd_c h hr
 obtain ⟨p, p1, p2, h⟩ := bnd_c h hr
 obtain ⟨s, s1, s2, h⟩ := bnd_c h hr
 have e1 := sz1_b (wf_len w1.2.1 (by decide)) h0 h1 q1 q2
 have e2 := sz1_b (wf_len w2.2.1 (by decide)) q2 (by omega) p1 p2
 have e3 := sz1_b (wf_len w3.2.1 (by decide)) p2 (by omega) s1 s2
 injection h with h
 unfold szN
 omega
theorem szWaste_b {K : Nat} {a : T_laws_Waste} (w : Wf_laws_Waste a) {y r : Int} (h0 : 0 ≤ y) (h1 : y ≤ 1048576) (h : m_laws_szWaste K a y = some r) (hr : 0 ≤ r) : r + szW a = y := by
 obtain ⟨_, _, w1, w2, _⟩ := w
 unfold m_laws_szWaste at h
 obtain ⟨q, q1, q2, h⟩ := bnd_c h hr
 obtain ⟨p, p1, p2, h⟩ := bnd_c h hr
 have e1 := sz1_b (wf_len w1.2.1 (by decide)) h0 h1 q1 q2
 have e2 := sz1_b (wf_len w2.2.1 (by decide)) q2 (by omega) p1 p2
 injection h with h
 unfold szW
 omega
theorem sz2_b {n : Nat} {y r : Int} {o : Int -> Option Int} (hn : n ≤ 140737488355327) (h0 : 0 ≤ y) (h1 : y ≤ 1048576) (h : (bif (decide ((iSub .i64 y (n : Int)) < 0)) then some (-1) else o (iSub .i64 y (n : Int))) = some r) (hr : 0 ≤ r) : 0 ≤ y - n ∧ o (y - n) = some r := by
 rw [iSubN h0 h1 hn] at h
 cases e : decide (y - (n : Int) < 0) with
 | true => rw [e] at h; simp at h; omega
 | false => rw [e] at h; exact ⟨by simpa using e, h⟩
theorem szWorld_b {K : Nat} {a : T_laws_World} (w : Wf_laws_World a) {r : Int} (h : m_laws_szWorld K a 1048576 = some r) (hr : 0 ≤ r) : a.fP.fMem.length + a.fP.fSt.length + a.fP.fOwn.length + (a.fL.length + (a.fL.map szN).sum) + (a.fQ.length + (a.fQ.map szW).sum) + a.fLog.length ≤ 1048576 := by
 obtain ⟨_, ⟨w1, w2, w3⟩, w4, w5, w6⟩ := w
 unfold m_laws_szWorld at h
 obtain ⟨q, q1, q2, h⟩ := bnd_c h hr
 unfold m_laws_szPool at q1
 obtain ⟨p1, a1, b1, q1⟩ := bnd_c q1 q2
 obtain ⟨p2, a2, b2, q1⟩ := bnd_c q1 q2
 obtain ⟨p3, a3, b3, q1⟩ := bnd_c q1 q2
 have e1 := sz1_b (wf_len w1.2.1 (by decide)) (by omega) (by omega) a1 b1
 have e2 := sz1_b (wf_len w2.2.1 (by decide)) b1 (by omega) a2 b2
 have e3 := sz1_b (wf_len w3.2.1 (by decide)) b2 (by omega) a3 b3
 injection q1 with q1
 obtain ⟨s, s1, s2, h⟩ := bnd_c h hr
 obtain ⟨t, t1, t2, h⟩ := bnd_c h hr
 obtain ⟨u, u1, u2, h⟩ := bnd_c h hr
 injection h with h
 unfold m_laws_szNodeS at s1
 obtain ⟨z1, s1⟩ := sz2_b (o := fun z => l_laws_szNodeS_1 K a.fL K z 0) (wf_len w4.2.1 (by decide)) q2 (by omega) s1 s2
 have e4 := sz_b a.fL (m_laws_szNode K) szN (fun x hx y r h0 h1 h hr => szNode_b (w4.1 x hx) h0 h1 h hr) (wf_len w4.2.1 (by decide)) (l_laws_szNodeS_1 K a.fL) (fun _ _ => rfl) (fun _ _ _ => rfl) K 0 _ _ (Z21 _) z1 (by omega) s1 s2
 rw [Z55] at e4
 unfold m_laws_szWasteS at t1
 obtain ⟨z2, t1⟩ := sz2_b (o := fun z => l_laws_szWasteS_1 K a.fQ K z 0) (wf_len w5.2.1 (by decide)) s2 (by omega) t1 t2
 have e5 := sz_b a.fQ (m_laws_szWaste K) szW (fun x hx y r h0 h1 h hr => szWaste_b (w5.1 x hx) h0 h1 h hr) (wf_len w5.2.1 (by decide)) (l_laws_szWasteS_1 K a.fQ) (fun _ _ => rfl) (fun _ _ _ => rfl) K 0 _ _ (Z21 _) z2 (by omega) t1 t2
 rw [Z55] at e5
 have e6 := sz1_b (wf_len w6.2.1 (by decide)) t2 (by omega) u1 u2
 omega
theorem cellsN_cv (l : List T_laws_Node) : ((l.map cvNode).map cellsN).sum ≤ 13 * (l.length + (l.map szN).sum) := by
 induction l with
 | nil => exact Z9 _
 | cons x l ih =>
  simp only [Z8, List.sum_cons, Z28]
  have : cellsN (cvNode x) ≤ 13 * (1 + szN x) := by simp only [cellsN, cvNode, szN, Z11]; omega
  omega
theorem cellsW_cv (l : List T_laws_Waste) : ((l.map cvWaste).map cellsW).sum ≤ 13 * (l.length + (l.map szW).sum) := by
 induction l with
 | nil => exact Z9 _
 | cons x l ih =>
  simp only [Z8, List.sum_cons, Z28]
  have : cellsW (cvWaste x) ≤ 13 * (1 + szW x) := by simp only [cellsW, cvWaste, szW]; omega
  omega
theorem cells_b {K : Nat} {a : T_laws_World} (w : Wf_laws_World a) {r : Int} (h : m_laws_szWorld K a 1048576 = some r) (hr : 0 ≤ r) : cells (cvWorld a) ≤ 13631488 := by
 have h1 := szWorld_b w h hr
 have h2 := cellsN_cv a.fL
 have h3 := cellsW_cv a.fQ
 show a.fP.fMem.length + a.fP.fSt.length + a.fP.fOwn.length + ((a.fL.map cvNode).map cellsN).sum + ((a.fQ.map cvWaste).map cellsW).sum + a.fLog.length ≤ _
 omega
section
variable {K : Nat} (hK : 281474976710656 ≤ K)
include hK
theorem copy_ok {α β : Type} (l : List α) (hl : l.length ≤ 140737488355327) (fin : Option β) (L : Nat -> List α -> Int -> Option β)
  (hs : ∀ n v (i : Nat) (h : i < l.length), v.length = i -> L (n + 1) v (i : Int) = L n (v ++ [l[i]]) ((i + 1 : Nat) : Int))
  (he : ∀ n, L (n + 1) l (l.length : Int) = fin) : L K [] 0 = fin := by
 have := allS_ok hK l (by omega) (fun _ => true) fin none (fun n i => L n (l.take i) (i : Int)) (fun n i h => by
  rw [hs n _ i h (by simp; omega), List.take_append_getElem]; rfl) (fun n => by rw [List.take_length]; exact he n)
 rw [Z1.2 (fun _ _ => rfl)] at this
 simpa using this
omit hK in
theorem l4Copy_spec (K : Nat) {p : T_impl_Pool} (w : PoolW p) : m_spec_l4Copy K p = some p := by
 have hm := maxLen_ge
 have h1 := w.mem.2
 have h2 := w.st.2
 have h3 := w.own.2
 unfold m_spec_l4Copy
 simp only [Z38]
 rw [if_pos ⟨by omega, by omega⟩, if_pos ⟨by omega, by omega⟩, if_pos ⟨by omega, by omega⟩]
omit hK in
theorem l7Copy_spec (K : Nat) {n : T_impl_Node} (w : NodeW n) : m_spec_l7Copy K n = some n := by
 have hm := maxLen_ge
 have h1 := w.chunks.2
 have h2 := w.things.2
 have h3 := w.tags.2
 unfold m_spec_l7Copy
 simp only [Z38]
 rw [if_pos ⟨by omega, by omega⟩, if_pos ⟨by omega, by omega⟩, if_pos ⟨by omega, by omega⟩]
theorem l7All_spec {l : List T_impl_Node} (w : NodesW l) : m_spec_l7All K l = some l := by
 have hm := maxLen_ge
 have h2 := w.2
 unfold m_spec_l7All
 refine copy_ok hK l (nodes_len w) (some l) (fun n v i => l_spec_l7All_1 K l n v i) (fun n v i h hv => ?_) (fun n => ?_)
 ·have hl : (v ++ [l[i]]).length = i + 1 := by simp [hv]
  simp only [l_spec_l7All_1]
  rw [dlt_t h, cond_true, if_pos (chkT h), gt_nat h, l7Copy_spec K (w.1 _ (List.getElem_mem h)), Z0, if_pos ⟨by rw [hl]; omega, by rw [hl]; omega⟩, iAdd1 (by omega)]
 ·show l_spec_l7All_1 K l (n + 1) _ _ = _
  rw [l_spec_l7All_1, dlt_f (Z9 _), cond_false]
omit hK in
theorem l12Copy_spec (K : Nat) {x : T_impl_Waste} (w : WasteW x) : m_spec_l12Copy K x = some x := by
 have hm := maxLen_ge
 have h1 := w.tags.2
 have h2 := w.chunks.2
 unfold m_spec_l12Copy
 simp only [Z38]
 rw [if_pos ⟨by omega, by omega⟩, if_pos ⟨by omega, by omega⟩]
theorem l13Copy_spec {w : T_impl_World} (hw : WorldW w) : m_spec_l13Copy K w = some w := by
 have hm := maxLen_ge
 have h2 := hw.q.2
 have h3 := hw.log.2
 unfold m_spec_l13Copy
 rw [l4Copy_spec K hw.p, Z0, l7All_spec hK hw.l, Z0]
 refine copy_ok hK w.fQ (by omega) (some w) (fun n v i => l_spec_l13Copy_1 K n i w.fC.fChunks w.fC.fSize w.fC.fSlots w.fC.fTax w.fC.fSlice w.fC.fGens w.fP.fMem w.fP.fSt w.fP.fOwn w.fL v w.fLog (T_impl_World.mk (T_impl_Conf.mk 0 0 0 0 0 0) (T_impl_Pool.mk [] [] []) [] [] []) w.fC.fChunks w.fC.fSize w.fC.fSlots w.fC.fTax w.fC.fSlice w.fC.fGens w.fP.fMem w.fP.fSt w.fP.fOwn w.fL w.fQ w.fLog) (fun n v i h hv => ?_) (fun n => ?_)
 ·have hl : (v ++ [w.fQ[i]]).length = i + 1 := by simp [hv]
  simp only [l_spec_l13Copy_1]
  rw [dlt_t h, cond_true, if_pos (chkT h), gt_nat h, l12Copy_spec K (hw.q.1 _ (List.getElem_mem h)), Z0, if_pos ⟨by rw [hl]; omega, by rw [hl]; omega⟩, iAdd1 (by omega)]
 ·show l_spec_l13Copy_1 K (n + 1) _ _ _ _ _ _ _ _ _ _ _ _ _ _ _ _ _ _ _ _ _ _ _ _ _ _ = _
  rw [l_spec_l13Copy_1, dlt_f (Z9 _), cond_false]
  simp only [Z38]
  rw [if_pos ⟨by omega, by omega⟩]
omit hK in
theorem copyPool_impl (K : Nat) {p : T_impl_Pool} (w : PoolW p) : m_impl_copyPool K p = some p := by
 unfold m_impl_copyPool
 rw [clone_byte K w.mem.2, clone_int K w.st.2, clone_int K w.own.2]; rfl
omit hK in
theorem copyNode_impl (K : Nat) {n : T_impl_Node} (w : NodeW n) : m_impl_copyNode K n = some n := by
 unfold m_impl_copyNode
 rw [clone_int K w.chunks.2, clone_thing K w.things.2, clone_int K w.tags.2]; rfl
theorem copyTable_impl {l : List T_impl_Node} (w : NodesW l) : m_impl_copyTable K l = some l := by
 have hm := maxLen_ge
 have h2 := w.2
 unfold m_impl_copyTable
 refine copy_ok hK l (nodes_len w) (some l) (fun n v i => l_impl_copyTable_1 K l n v (l.length : Int) i) (fun n v i h hv => ?_) (fun n => ?_)
 ·have hl : (v ++ [l[i]]).length = i + 1 := by simp [hv]
  simp only [l_impl_copyTable_1]
  rw [dlt_t h, cond_true, if_pos (chkT h), gt_nat h, copyNode_impl K (w.1 _ (List.getElem_mem h)), Z0, if_pos ⟨by rw [hl]; omega, by rw [hl]; omega⟩, iAdd1 (by omega)]
 ·show l_impl_copyTable_1 K l (n + 1) _ _ _ = _
  rw [l_impl_copyTable_1, dlt_f (Z9 _), cond_false]
omit hK in
theorem copyWaste_impl (K : Nat) {x : T_impl_Waste} (w : WasteW x) : m_impl_copyWaste K x = some x := by
 unfold m_impl_copyWaste
 rw [clone_int K w.tags.2, clone_int K w.chunks.2]; rfl
theorem set_last {α : Type} (v : List α) (d x : α) : (v ++ [d]).set (v.length : Int).toNat x = v ++ [x] := by
 rw [Int.toNat_natCast, List.set_append_right _ _ (Z9 _)]; simp
theorem copyWorld_impl {w : T_impl_World} (hw : WorldW w) : m_impl_copyWorld K w = some w := by
 have hm := maxLen_ge
 have h2 := hw.q.2
 unfold m_impl_copyWorld
 rw [copyPool_impl K hw.p, Z0, copyTable_impl hK hw.l, Z0, clone_int K hw.log.2, Z0]
 refine copy_ok hK w.fQ (by omega) (some w) (fun n v i => l_impl_copyWorld_1 K n w.fQ (w.fQ.length : Int) i (T_impl_World.mk w.fC w.fP w.fL v w.fLog) (T_impl_World.mk (T_impl_Conf.mk 0 0 0 0 0 0) (T_impl_Pool.mk [] [] []) [] [] [])) (fun n v i h hv => ?_) (fun n => ?_)
 ·simp only [l_impl_copyWorld_1]
  rw [dlt_t h, cond_true, if_pos (chkT h), gt_nat h, copyWaste_impl K (hw.q.1 _ (List.getElem_mem h)), Z0, if_pos ⟨by omega, by omega⟩, iAdd1 (by omega), set_last hK]
 ·show l_impl_copyWorld_1 K (n + 1) _ _ _ _ _ = _
  rw [l_impl_copyWorld_1, dlt_f (Z9 _), cond_false]
end
def markBL (n : Nat) (k : Nat) : List Int := (List.range n).map fun i => IntKind.u8.wrap ((k + i : Nat) : Int)
theorem markBL_len (n k : Nat) : (markBL n k).length = n := by simp [markBL]
theorem markBL_loop {K : Nat} (k : Nat) : ∀ (n i : Nat) (v : List Int), k + v.length ≤ 140737488355327 -> i ≤ v.length -> (∀ j, j < i -> v[j]? = (markBL v.length k)[j]?) -> v.length - i < n →
  l_laws_markByteS_1 K n v ((k + i : Nat) : Int) (i : Int) = some (((k + v.length : Nat) : Int), markBL v.length k) := by
 intro n
 induction n with
 | zero => intro i v _ _ _ h; omega
 | succ n ih =>
  intro i v hl hi hj hn
  rw [l_laws_markByteS_1]
  rcases Z18 i v.length with h | h
  ·rw [dlt_t h]
   simp only [cond_true]
   have e : iAdd .i64 ((k + i : Nat) : Int) 1 = ((k + (i + 1) : Nat) : Int) := by unfold iAdd; rw [i64_id (by omega) (by omega)]; omega
   rw [if_pos ⟨by omega, by omega⟩, e, iAdd1 (i := i) (by omega)]
   have := ih (i + 1) (v.set (i : Int).toNat (IntKind.u8.wrap ((k + i : Nat) : Int))) (by simpa using hl) (by simp only [Z49]; omega) (fun j hj2 => by
    rw [Int.toNat_natCast, Z41, Z49]
    by_cases e : i = j
    ·subst e
     rw [if_pos rfl, if_pos h]
     simp [markBL, h]
    ·rw [if_neg e]; exact hj j (by omega)) (by simp only [Z49]; omega)
   rw [this]
   simp
  ·rw [dlt_f h]
   have hia : i = v.length := by omega
   subst hia
   have e : v = markBL v.length k := by
    refine List.ext_getElem? fun j => ?_
    rcases Z18 j v.length with hja | hja
    ·exact hj j hja
    ·rw [Z58 (by omega), Z58 (by rw [markBL_len]; omega)]
   simp only [cond_false]
   rw [←e]
theorem heldBL_loop {K : Nat} (m k : Nat) (hl : k + m ≤ 140737488355327) : ∀ (n i : Nat), i ≤ m -> m - i < n -> l_laws_heldByteS_1 K (markBL m k) n ((k + i : Nat) : Int) (i : Int) = some ((k + m : Nat) : Int) := by
 intro n
 induction n with
 | zero => intro i _ h; omega
 | succ n ih =>
  intro i hi hn
  rw [l_laws_heldByteS_1]
  rcases Z18 i m with h | h
  ·have hlt : i < (markBL m k).length := by rw [markBL_len]; exact h
   have e : iAdd .i64 ((k + i : Nat) : Int) 1 = ((k + (i + 1) : Nat) : Int) := by unfold iAdd; rw [i64_id (by omega) (by omega)]; omega
   rw [dlt_t hlt, if_pos ⟨by omega, by omega⟩, gt_nat hlt, e, iAdd1 (i := i) (by omega), ih (i + 1) h (by omega)]
   simp [markBL]
  ·have : i = m := by omega
   subst this
   rw [dlt_f (by rw [markBL_len]; exact h)]
   rfl
def walkI (w : T_impl_World) (h : T_impl_Handle) : Int := ((riseL w.fL w.fL.length (placeL w.fL h)).length : Int)
theorem placeL_wfi {l : List T_impl_Node} (hl : l.length ≤ 140737488355327) (h : T_impl_Handle) : wfi (placeL l h) := by
 by_cases h0 : placeL l h < 0
 ·unfold placeL at *
  split at h0
  ·rename_i h1; rw [if_pos h1] at *; obtain ⟨⟨a, b⟩, _⟩ := h1; exact ⟨by omega, by omega⟩
  ·rename_i h1; rw [if_neg h1]; exact ⟨by omega, by omega⟩
 ·have := placeL_in h0
  exact ⟨by omega, by omega⟩
section
variable {K : Nat} (hK : 281474976710656 ≤ K)
include hK
theorem markBL_ok (a : List Int) (k : Nat) (hk : k + a.length ≤ 140737488355327) : m_laws_markByteS K a (k : Int) = some (((k + a.length : Nat) : Int), markBL a.length k) := by
 unfold m_laws_markByteS
 exact markBL_loop k K 0 a hk (Z21 _) (fun j hj => by omega) (by omega)
theorem heldBL_ok (m k : Nat) (hl : k + m ≤ 140737488355327) : m_laws_heldByteS K (markBL m k) (k : Int) = some ((k + m : Nat) : Int) := by
 unfold m_laws_heldByteS
 exact heldBL_loop m k hl K 0 (Z21 _) (by omega)
theorem walk_spec (w : T_impl_World) (hw : NodesW w.fL) (h : T_impl_Handle) : m_spec_WalkOf K w h = some (walkI w h) := by
 have hl := nodes_len hw
 unfold m_spec_WalkOf m_spec_DeepOf
 rw [placeOf_spec K hl, Z0, rise_spec0 hK hw _ (placeL_wfi hl h)]
 rfl
theorem walk_impl (w : T_impl_World) (hw : NodesW w.fL) (h : T_impl_Handle) : m_impl_WalkOf K w h = some (walkI w h) := by
 have hl := nodes_len hw
 unfold m_impl_WalkOf m_impl_DeepOf
 rw [placeOf_impl K hl, Z0, rise_impl0 hK hw]
 rfl
def noAns (code walk : Int) (b : List Int) : T_impl_Ans := T_impl_Ans.mk code (T_impl_Handle.mk 0 0) (T_impl_Ref.mk (T_impl_Handle.mk 0 0) 0 0) b walk 0 0
end
section
variable {β : Type} [Inhabited β]
def markL (c : β -> Nat) (m : β -> Nat -> β) : List β -> Nat -> List β
 | [], _ => []
 | x :: l, k => m x k :: markL c m l (k + c x)
theorem markL_len (c : β -> Nat) (m : β -> Nat -> β) : ∀ (l : List β) (k : Nat), (markL c m l k).length = l.length
 | [], _ => rfl
 | x :: l, k => by simp [markL, markL_len c m l]
theorem markL_loop (c : β -> Nat) (m : β -> Nat -> β) (L : Nat -> Int -> Int -> List β -> Option (Int × List β))
  (h0 : ∀ n k (v : List β), L (n + 1) k (v.length : Int) v = some (k, v))
  (hL : ∀ n (k i : Nat) (v : List β), i < v.length -> v.length ≤ 140737488355327 -> k + c (gt v (i : Int)) ≤ 140737488355327 -> L (n + 1) (k : Int) (i : Int) v = L n ((k + c (gt v (i : Int)) : Nat) : Int) ((i + 1 : Nat) : Int) (v.set (i : Int).toNat (m (gt v (i : Int)) k))) :
  ∀ (l pre : List β) (n k : Nat), (pre ++ l).length ≤ 140737488355327 -> l.length < n -> k + (l.map c).sum ≤ 140737488355327 →
   L n (k : Int) (pre.length : Int) (pre ++ l) = some (((k + (l.map c).sum : Nat) : Int), pre ++ markL c m l k) := by
 intro l
 induction l with
 | nil =>
  intro pre n k _ hn _
  obtain ⟨n, rfl⟩ : ∃ n', n = n' + 1 := ⟨n - 1, by simp at hn; omega⟩
  simp only [List.append_nil, Z37, List.sum_nil, Nat.add_zero, markL]
  exact h0 _ _ _
 | cons x l ih =>
  intro pre n k hl hn hk
  obtain ⟨n, rfl⟩ : ∃ n', n = n' + 1 := ⟨n - 1, by omega⟩
  have hlt : pre.length < (pre ++ x :: l).length := by simp
  have hg : gt (pre ++ x :: l) (pre.length : Int) = x := by rw [gt_nat hlt]; simp
  simp only [Z8, List.sum_cons] at hk ⊢
  rw [hL n k pre.length _ hlt hl (by rw [hg]; omega), hg]
  have e : (pre ++ x :: l).set (pre.length : Int).toNat (m x k) = (pre ++ [m x k]) ++ l := by
   rw [Int.toNat_natCast, List.set_append_right _ _ (Z9 _)]; simp
  rw [e]
  have := ih (pre ++ [m x k]) n (k + c x) (by simp at hl ⊢; omega) (by simp at hn; omega) (by omega)
  rw [show (pre ++ [m x k]).length = pre.length + 1 by simp] at this
  rw [this, Z53]
  simp [markL]
theorem heldL_loop (c : β -> Nat) (m : β -> Nat -> β) (l0 : List β) (a : List β) (H : Nat -> Int -> Int -> Option Int)
  (h0 : ∀ n k, H (n + 1) k (a.length : Int) = some k)
  (hH : ∀ n (k i : Nat) x, x ∈ l0 -> i < a.length -> a.length ≤ 140737488355327 -> k + c x ≤ 140737488355327 -> gt a (i : Int) = m x k -> H (n + 1) (k : Int) (i : Int) = H n ((k + c x : Nat) : Int) ((i + 1 : Nat) : Int)) :
  ∀ (l pre : List β) (n k : Nat), (∀ x ∈ l, x ∈ l0) -> a = pre ++ markL c m l k -> a.length ≤ 140737488355327 -> l.length < n -> k + (l.map c).sum ≤ 140737488355327 →
   H n (k : Int) (pre.length : Int) = some ((k + (l.map c).sum : Nat) : Int) := by
 intro l
 induction l with
 | nil =>
  intro pre n k _ ha _ hn _
  obtain ⟨n, rfl⟩ : ∃ n', n = n' + 1 := ⟨n - 1, by simp at hn; omega⟩
  simp only [markL, List.append_nil] at ha
  simp only [Z37, List.sum_nil, Nat.add_zero]
  rw [←ha]
  exact h0 _ _
 | cons x l ih =>
  intro pre n k hm ha hl hn hk
  obtain ⟨n, rfl⟩ : ∃ n', n = n' + 1 := ⟨n - 1, by omega⟩
  simp only [markL] at ha
  have hlt : pre.length < a.length := by rw [ha]; simp
  have hg : gt a (pre.length : Int) = m x k := by rw [gt_nat hlt]; simp [ha]
  simp only [Z8, List.sum_cons] at hk ⊢
  rw [hH n k pre.length x (hm x (by simp)) hlt hl (by omega) hg]
  have := ih (pre ++ [m x k]) n (k + c x) (fun y hy => hm y (by simp [hy])) (by rw [ha]; simp) hl (by simp at hn; omega) (by omega)
  rw [show (pre ++ [m x k]).length = pre.length + 1 by simp] at this
  rw [this, Z53]
end
def markT1 (_ : T_impl_Thing) (k : Nat) : T_impl_Thing := T_impl_Thing.mk (k : Nat) ((k + 1 : Nat) : Int) ((k + 2 : Nat) : Int)
def markTL (l : List T_impl_Thing) (k : Nat) : List T_impl_Thing := markL three markT1 l k
def markN1 (x : T_impl_Node) (k : Nat) : T_impl_Node := T_impl_Node.mk (k : Nat) ((k + 1 : Nat) : Int) ((k + 2 : Nat) : Int) ((k + 3 : Nat) : Int) ((k + 4 : Nat) : Int) ((k + 5 : Nat) : Int) ((k + 6 : Nat) : Int) ((k + 7 : Nat) : Int)
 (markI x.fChunks.length (k + 8)) ((k + 8 + x.fChunks.length : Nat) : Int) ((k + 8 + x.fChunks.length + 1 : Nat) : Int) (markTL x.fThings (k + 8 + x.fChunks.length + 1 + 1)) (markI x.fTags.length (k + 8 + x.fChunks.length + 1 + 1 + 3 * x.fThings.length))
def markW1 (x : T_impl_Waste) (k : Nat) : T_impl_Waste := T_impl_Waste.mk (k : Nat) ((k + 1 : Nat) : Int) (markI x.fTags.length (k + 2)) (markI x.fChunks.length (k + 2 + x.fTags.length)) ((k + 2 + x.fTags.length + x.fChunks.length : Nat) : Int)
section
variable {K : Nat} (hK : 281474976710656 ≤ K)
include hK
theorem markTL_ok (a : List T_impl_Thing) (k : Nat) (hk : k + 3 * a.length ≤ 140737488355327) : m_laws_markThingS K a (k : Int) = some (((k + 3 * a.length : Nat) : Int), markTL a k) := by
 unfold m_laws_markThingS
 have := markL_loop three markT1 (fun n k i v => l_laws_markThingS_1 K n v k i) (fun n k v => by show l_laws_markThingS_1 K (n + 1) v k _ = _; rw [l_laws_markThingS_1, dlt_f (Z9 _)]; rfl)
  (fun n k i v h hv hk => by
   have hk2 : k + 3 ≤ 140737488355327 := hk
   simp only [l_laws_markThingS_1]
   rw [dlt_t h, cond_true, if_pos (chkT h)]
   simp only [letM, Z49, gt_set h, set2, if_pos (chkT h)]
   simp (disch := omega) only [iAddN]
   rfl) a [] K k (by simp; omega) (by omega) (by rw [sum_three]; exact hk)
 rw [sum_three] at this
 exact this
theorem markNL_ok (a : List T_impl_Node) (k : Nat) (ha : a.length ≤ 140737488355327) (hk : k + (a.map cellsN).sum ≤ 140737488355327) : m_laws_markNodeS K a (k : Int) = some (((k + (a.map cellsN).sum : Nat) : Int), markL cellsN markN1 a k) := by
 unfold m_laws_markNodeS
 exact markL_loop cellsN markN1 (fun n k i v => l_laws_markNodeS_1 K n v k i) (fun n k v => by show l_laws_markNodeS_1 K (n + 1) v k _ = _; rw [l_laws_markNodeS_1, dlt_f (Z9 _)]; rfl)
  (fun n k i v h hv hk => by
   have hk2 : k + (10 + (gt v (i : Int)).fChunks.length + 3 * (gt v (i : Int)).fThings.length + (gt v (i : Int)).fTags.length) ≤ 140737488355327 := hk
   have e8 : (iAdd .i64 (iAdd .i64 (iAdd .i64 (iAdd .i64 (iAdd .i64 (iAdd .i64 (iAdd .i64 (iAdd .i64 (k : Int) 1) 1) 1) 1) 1) 1) 1) 1) = ((k + 8 : Nat) : Int) := by
    simp (disch := omega) only [iAddN]
   simp only [l_laws_markNodeS_1]
   rw [dlt_t h, cond_true, if_pos (chkT h)]
   simp only [letM, Z49, gt_set h, set2, if_pos (chkT h)]
   rw [e8, markI_ok hK _ _ (by omega)]
   simp only [Z0, markI_len, if_true]
   rw [iAddN (k := k + 8 + (gt v (i : Int)).fChunks.length) (by omega), iAddN (k := k + 8 + (gt v (i : Int)).fChunks.length + 1) (by omega), markTL_ok hK _ _ (by omega)]
   simp only [Z0, markTL, markL_len, if_true]
   rw [markI_ok hK _ _ (by omega)]
   simp only [Z0, markI_len, if_true]
   simp (disch := omega) only [iAddN]
   have e : k + 8 + (gt v (i : Int)).fChunks.length + 1 + 1 + 3 * (gt v (i : Int)).fThings.length + (gt v (i : Int)).fTags.length = k + cellsN (gt v (i : Int)) := by unfold cellsN; omega
   rw [e]
   rfl) a [] K k (by simpa using ha) (by omega) hk
theorem markWL_ok (a : List T_impl_Waste) (k : Nat) (ha : a.length ≤ 140737488355327) (hk : k + (a.map cellsW).sum ≤ 140737488355327) : m_laws_markWasteS K a (k : Int) = some (((k + (a.map cellsW).sum : Nat) : Int), markL cellsW markW1 a k) := by
 unfold m_laws_markWasteS
 exact markL_loop cellsW markW1 (fun n k i v => l_laws_markWasteS_1 K n v k i) (fun n k v => by show l_laws_markWasteS_1 K (n + 1) v k _ = _; rw [l_laws_markWasteS_1, dlt_f (Z9 _)]; rfl)
  (fun n k i v h hv hk => by
   have hk2 : k + (3 + (gt v (i : Int)).fTags.length + (gt v (i : Int)).fChunks.length) ≤ 140737488355327 := hk
   have e8 : iAdd .i64 (iAdd .i64 (k : Int) 1) 1 = ((k + 2 : Nat) : Int) := by simp (disch := omega) only [iAddN]
   simp only [l_laws_markWasteS_1]
   rw [dlt_t h, cond_true, if_pos (chkT h)]
   simp only [letM, Z49, gt_set h, set2, if_pos (chkT h)]
   rw [e8, markI_ok hK _ _ (by omega)]
   simp only [Z0, markI_len, if_true]
   rw [markI_ok hK _ _ (by omega)]
   simp only [Z0, markI_len, if_true]
   simp (disch := omega) only [iAddN]
   have e : k + 2 + (gt v (i : Int)).fTags.length + (gt v (i : Int)).fChunks.length + 1 = k + cellsW (gt v (i : Int)) := by unfold cellsW; omega
   rw [e]
   rfl) a [] K k (by simpa using ha) (by omega) hk
theorem heldI_loop (m k : Nat) (hl : k + m ≤ 140737488355327) : ∀ (n i : Nat), i ≤ m -> m - i < n -> l_laws_heldIntS_1 K (markI m k) n ((k + i : Nat) : Int) (i : Int) = some ((k + m : Nat) : Int) := by
 intro n
 induction n with
 | zero => intro i _ h; omega
 | succ n ih =>
  intro i hi hn
  rw [l_laws_heldIntS_1]
  rcases Z18 i m with h | h
  ·have hlt : i < (markI m k).length := by rw [markI_len]; exact h
   have e : iAdd .i64 ((k + i : Nat) : Int) 1 = ((k + (i + 1) : Nat) : Int) := by unfold iAdd; rw [i64_id (by omega) (by omega)]; omega
   rw [dlt_t hlt, if_pos ⟨by omega, by omega⟩, gt_nat hlt, e, iAdd1 (i := i) (by omega), ih (i + 1) h (by omega)]
   simp [markI]
  ·have : i = m := by omega
   subst this
   rw [dlt_f (by rw [markI_len]; exact h)]
   rfl
theorem heldI_ok (m k : Nat) (hl : k + m ≤ 140737488355327) : m_laws_heldIntS K (markI m k) (k : Int) = some ((k + m : Nat) : Int) := by
 unfold m_laws_heldIntS
 exact heldI_loop hK m k hl K 0 (Z21 _) (by omega)
omit hK in
theorem nat_not_neg (k : Nat) : decide ((k : Int) < 0) = false := decide_eq_false (by omega)
theorem heldT_ok (a : List T_impl_Thing) (k : Nat) (hk : k + 3 * a.length ≤ 140737488355327) : m_laws_heldThingS K (markTL a k) (k : Int) = some ((k + 3 * a.length : Nat) : Int) := by
 unfold m_laws_heldThingS
 have := heldL_loop three markT1 a (markTL a k) (fun n q i => l_laws_heldThingS_1 K (markTL a k) n q i) (fun n q => by show l_laws_heldThingS_1 K _ (n + 1) q _ = _; rw [l_laws_heldThingS_1, dlt_f (Z9 _)]; rfl)
  (fun n q i x _ h hv hq hg => by
   have hk2 : q + 3 ≤ 140737488355327 := hq
   simp only [l_laws_heldThingS_1]
   rw [dlt_t h, cond_true]
   simp only [if_pos (chkT h), hg, markT1]
   simp (disch := omega) only [iAddN]
   simp only [bne_self_eq_false, cond_false]
   rfl) a [] K k (fun x hx => hx) rfl (by unfold markTL; rw [markL_len]; omega) (by omega) (by rw [sum_three]; exact hk)
 rw [sum_three] at this
 exact this
theorem heldN_ok (a : List T_impl_Node) (k : Nat) (ha : a.length ≤ 140737488355327) (hk : k + (a.map cellsN).sum ≤ 140737488355327) : m_laws_heldNodeS K (markL cellsN markN1 a k) (k : Int) = some ((k + (a.map cellsN).sum : Nat) : Int) := by
 unfold m_laws_heldNodeS
 exact heldL_loop cellsN markN1 a (markL cellsN markN1 a k) (fun n q i => l_laws_heldNodeS_1 K (markL cellsN markN1 a k) n q i) (fun n q => by show l_laws_heldNodeS_1 K _ (n + 1) q _ = _; rw [l_laws_heldNodeS_1, dlt_f (Z9 _)]; rfl)
  (fun n q i x _ h hv hq hg => by
   have hk2 : q + (10 + x.fChunks.length + 3 * x.fThings.length + x.fTags.length) ≤ 140737488355327 := hq
   simp only [l_laws_heldNodeS_1]
   rw [dlt_t h, cond_true]
   simp only [if_pos (chkT h), hg, markN1]
   simp (disch := omega) only [iAddN]
   simp only [bne_self_eq_false, cond_false]
   rw [heldI_ok hK _ _ (by omega)]
   simp only [Z0, nat_not_neg, cond_false, bne_self_eq_false]
   rw [iAddN (k := q + 8 + x.fChunks.length) (by omega), iAddN (k := q + 8 + x.fChunks.length + 1) (by omega)]
   simp only [bne_self_eq_false, cond_false]
   rw [heldT_ok hK _ _ (by omega)]
   simp only [Z0, nat_not_neg, cond_false]
   rw [heldI_ok hK _ _ (by omega)]
   simp only [Z0, nat_not_neg, cond_false]
   rw [show q + 8 + x.fChunks.length + 1 + 1 + 3 * x.fThings.length + x.fTags.length = q + cellsN x by unfold cellsN; omega]) a [] K k (fun x hx => hx) rfl (by rw [markL_len]; exact ha) (by omega) hk
theorem heldW_ok (a : List T_impl_Waste) (k : Nat) (ha : a.length ≤ 140737488355327) (hk : k + (a.map cellsW).sum ≤ 140737488355327) : m_laws_heldWasteS K (markL cellsW markW1 a k) (k : Int) = some ((k + (a.map cellsW).sum : Nat) : Int) := by
 unfold m_laws_heldWasteS
 exact heldL_loop cellsW markW1 a (markL cellsW markW1 a k) (fun n q i => l_laws_heldWasteS_1 K (markL cellsW markW1 a k) n q i) (fun n q => by show l_laws_heldWasteS_1 K _ (n + 1) q _ = _; rw [l_laws_heldWasteS_1, dlt_f (Z9 _)]; rfl)
  (fun n q i x _ h hv hq hg => by
   have hk2 : q + (3 + x.fTags.length + x.fChunks.length) ≤ 140737488355327 := hq
   simp only [l_laws_heldWasteS_1]
   rw [dlt_t h, cond_true]
   simp only [if_pos (chkT h), hg, markW1]
   simp (disch := omega) only [iAddN]
   simp only [bne_self_eq_false, cond_false]
   rw [heldI_ok hK _ _ (by omega)]
   simp only [Z0, nat_not_neg, cond_false, bne_self_eq_false]
   rw [heldI_ok hK _ _ (by omega)]
   simp only [Z0, nat_not_neg, cond_false, bne_self_eq_false]
   rw [iAddN (k := q + 2 + x.fTags.length + x.fChunks.length) (by omega)]
   rw [show q + 2 + x.fTags.length + x.fChunks.length + 1 = q + cellsW x by unfold cellsW; omega]) a [] K k (fun x hx => hx) rfl (by rw [markL_len]; exact ha) (by omega) hk
end
def mkMem (w : T_impl_World) (k : Nat) : List Int := markBL w.fP.fMem.length k
def mkSt (w : T_impl_World) (k : Nat) : List Int := markI w.fP.fSt.length (k + w.fP.fMem.length)
def mkOwn (w : T_impl_World) (k : Nat) : List Int := markI w.fP.fOwn.length (k + w.fP.fMem.length + w.fP.fSt.length)
def mkL (w : T_impl_World) (k : Nat) : List T_impl_Node := markL cellsN markN1 w.fL (k + cellsP w.fP)
def mkQ (w : T_impl_World) (k : Nat) : List T_impl_Waste := markL cellsW markW1 w.fQ (k + cellsP w.fP + (w.fL.map cellsN).sum)
def mkLog (w : T_impl_World) (k : Nat) : List Int := markI w.fLog.length (k + cellsP w.fP + (w.fL.map cellsN).sum + (w.fQ.map cellsW).sum)
theorem mk_lens (w : T_impl_World) (k : Nat) : (mkMem w k).length = w.fP.fMem.length ∧ (mkSt w k).length = w.fP.fSt.length ∧ (mkOwn w k).length = w.fP.fOwn.length ∧ (mkL w k).length = w.fL.length ∧ (mkQ w k).length = w.fQ.length ∧ (mkLog w k).length = w.fLog.length :=
 ⟨markBL_len _ _, markI_len _ _, markI_len _ _, markL_len _ _ _ _, markL_len _ _ _ _, markI_len _ _⟩
section
variable {K : Nat} (hK : 281474976710656 ≤ K)
include hK
theorem markPL_ok (w : T_impl_World) (k : Nat) (hk : k + cellsP w.fP ≤ 140737488355327) : m_laws_markPool K w.fP (k : Int) = some (((k + cellsP w.fP : Nat) : Int), mkMem w k, mkSt w k, mkOwn w k) := by
 unfold cellsP at hk ⊢
 unfold m_laws_markPool
 rw [markBL_ok hK _ _ (by omega)]
 simp only [Z0]
 rw [if_pos (markBL_len _ _), markI_ok hK _ _ (by omega)]
 simp only [Z0]
 rw [if_pos (markI_len _ _), markI_ok hK _ _ (by omega)]
 simp only [Z0]
 rw [if_pos (markI_len _ _)]
 simp only [Z53, mkMem, mkSt, mkOwn]
theorem markWL_full (w : T_impl_World) (hL : w.fL.length ≤ 140737488355327) (hQ : w.fQ.length ≤ 140737488355327) (k : Nat) (hk : k + cells w ≤ 140737488355327) : m_laws_markWorld K w (k : Int) = some (((k + cells w : Nat) : Int), mkMem w k, mkSt w k, mkOwn w k, mkL w k, mkQ w k, mkLog w k) := by
 obtain ⟨l1, l2, l3, l4, l5, l6⟩ := mk_lens w k
 unfold cells at hk ⊢
 unfold m_laws_markWorld
 rw [markPL_ok hK w k (by omega)]
 simp only [Z0]
 rw [if_pos ⟨l1, l2, l3⟩, markNL_ok hK _ _ hL (by omega)]
 simp only [Z0]
 rw [if_pos (show (markL cellsN markN1 w.fL (k + cellsP w.fP)).length = w.fL.length from l4), markWL_ok hK _ _ hQ (by omega)]
 simp only [Z0]
 rw [if_pos (show (markL cellsW markW1 w.fQ (k + cellsP w.fP + (w.fL.map cellsN).sum)).length = w.fQ.length from l5), markI_ok hK _ _ (by omega)]
 simp only [Z0]
 rw [if_pos (markI_len _ _)]
 simp only [Z53, mkL, mkQ, mkLog]
theorem heldWL_full (w : T_impl_World) (hL : w.fL.length ≤ 140737488355327) (hQ : w.fQ.length ≤ 140737488355327) (k : Nat) (hk : k + cells w ≤ 140737488355327) (c : T_impl_Conf) : m_laws_heldWorld K (T_impl_World.mk c (T_impl_Pool.mk (mkMem w k) (mkSt w k) (mkOwn w k)) (mkL w k) (mkQ w k) (mkLog w k)) (k : Int) = some ((k + cells w : Nat) : Int) := by
 unfold cells at hk ⊢
 unfold m_laws_heldWorld m_laws_heldPool
 simp only [mkMem, mkSt, mkOwn, mkL, mkQ, mkLog]
 have hP : cellsP w.fP = w.fP.fMem.length + w.fP.fSt.length + w.fP.fOwn.length := rfl
 rw [heldBL_ok hK _ _ (by omega)]
 simp only [Z0, nat_not_neg, cond_false]
 rw [heldI_ok hK _ _ (by omega)]
 simp only [Z0, nat_not_neg, cond_false]
 rw [heldI_ok hK _ _ (by omega)]
 simp only [Z0, nat_not_neg, cond_false]
 rw [show k + w.fP.fMem.length + w.fP.fSt.length + w.fP.fOwn.length = k + cellsP w.fP by omega, heldN_ok hK _ _ hL (by omega)]
 simp only [Z0, nat_not_neg, cond_false]
 rw [heldW_ok hK _ _ hQ (by omega)]
 simp only [Z0, nat_not_neg, cond_false]
 rw [heldI_ok hK _ _ (by omega)]
 simp only [Z0, nat_not_neg, cond_false, Z53]
theorem eqAns_w {a : T_impl_Ans} (h : a.fB.length ≤ 140737488355327) : m_laws_eqAns K a a = some true := by
 simp [m_laws_eqAns, m_laws_eqRef, m_laws_eqHandle, eqByteS_w hK h]
theorem markAns_w (a : T_impl_Ans) (k : Nat) (h : k + a.fB.length ≤ 140737488355327) : m_laws_markAns K a (k : Int) = some (((k + a.fB.length : Nat) : Int), markBL a.fB.length k) := by
 unfold m_laws_markAns
 rw [markBL_ok hK _ _ h]
 simp only [Z0]
 rw [if_pos (markBL_len _ _)]
theorem heldAns_w (a : T_impl_Ans) (m k : Nat) (h : k + m ≤ 140737488355327) : m_laws_heldAns K (T_impl_Ans.mk a.fCode a.fH a.fR (markBL m k) a.fWalk a.fTax a.fDrain) (k : Int) = some ((k + m : Nat) : Int) := by
 unfold m_laws_heldAns
 rw [heldBL_ok hK _ _ h]
 simp only [Z0, nat_not_neg, cond_false]
end
def looseI (c : T_impl_Conf) (n : T_impl_Node) : Int := bif !nodeB c n || n.fCur == 0 then 0 else iSub .i64 c.fSize n.fBump
theorem loose_same {K : Nat} (hK : 281474976710656 ≤ K) (c : T_impl_Conf) (n : T_impl_Node) (hn : NodeW n) : m_spec_LooseIn K c n = some (looseI c n) ∧ m_impl_LooseIn K c n = some (looseI c n) := by
 unfold m_spec_LooseIn m_impl_LooseIn looseI
 rw [nodeOk_spec hK _ _ (len8 hK hn.chunks) (len24 hK hn.things) (len8 hK hn.tags), nodeOk_impl hK _ _ (len8 hK hn.chunks) (len24 hK hn.things) (len8 hK hn.tags)]
 simp only [Z0]
 cases nodeB c n <;> cases n.fCur == 0 <;> exact ⟨rfl, rfl⟩
theorem stats_same {K : Nat} (hK : 281474976710656 ≤ K) (w : T_impl_World) (hw : WorldW w) (h : T_impl_Handle) : ∃ code walk b, m_spec_Stats K w h = some (w, noAns code walk b) ∧ m_impl_Stats K w h = some (w, noAns code walk b) ∧ b.length ≤ 4 := by
 unfold m_spec_Stats m_impl_Stats m_impl_refused j_spec_Stats_1 j_impl_Stats_1
 have e2 : T_impl_World.mk (T_impl_Conf.mk w.fC.fChunks w.fC.fSize w.fC.fSlots w.fC.fTax w.fC.fSlice w.fC.fGens) (T_impl_Pool.mk w.fP.fMem w.fP.fSt w.fP.fOwn) w.fL w.fQ w.fLog = w := rfl
 rw [l13Copy_spec hK hw, worldOk_spec hK w hw, worldOk_impl hK w hw, copyWorld_impl hK hw, walk_spec hK w hw.l, walk_impl hK w hw.l, findRoom_spec hK hw.l, findRoom_impl hK hw.l]
 simp only [Z0, bif_not, e2, copyWorld_impl hK hw]
 cases worldB w with
 | false => exact ⟨1, 0, [], rfl, rfl, by simp⟩
 | true =>
 simp only [cond_true]
 by_cases h0 : (findL w.fL h).2 = 0
 ·have hi := findL_in h0
  obtain ⟨l1, l2⟩ := loose_same hK w.fC (gt w.fL (findL w.fL h).1) (hw.l.1 _ (gt_memI hi.1 hi.2))
  rw [h0]
  simp only [beq_self_eq_true, cond_true, if_pos hi, l1, l2, Z0]
  exact ⟨0, walkI w h, _, rfl, rfl, by simp⟩
 ·rw [beq_f h0]
  exact ⟨(findL w.fL h).2, walkI w h, [], rfl, rfl, by simp⟩
theorem pure_FnExactStats (a : T_laws_World) (h : T_laws_Handle) (u : Wf_laws_World a) (_ : Wf_laws_Handle h) : ∃ K, m_laws_FnExactStats K a h = some true := by
 refine ⟨K0, ?_⟩
 have hK := Z9 K0
 have hw := worldW_cv u
 obtain ⟨q, hq⟩ := szWorld_w hK u 1048576
 obtain ⟨code, walk, b, h1, h2, h3⟩ := stats_same hK (cvWorld a) hw (T_impl_Handle.mk h.fSlot h.fGen)
 have hQ : (cvWorld a).fQ.length ≤ 140737488355327 := by have := hw.q.2; omega
 unfold m_laws_FnExactStats m_laws_toHandle
 rw [hq]
 simp only [Z0]
 cases e : decide (q < 0) with
 | true => rfl
 | false =>
  have hc := cells_b u hq (by simpa using e)
  have hb : (noAns code walk b).fB.length ≤ 13631488 := by show b.length ≤ _; omega
  have hmk := markWL_full hK (cvWorld a) (nodes_len hw.l) hQ 1 (by omega)
  have hhl := heldWL_full hK (cvWorld a) (nodes_len hw.l) hQ 1 (by omega) (cvWorld a).fC
  have hma := markAns_w hK (noAns code walk b) (1 + cells (cvWorld a)) (by omega)
  have hha := heldAns_w hK (noAns code walk b) (noAns code walk b).fB.length (1 + cells (cvWorld a)) (by omega)
  simp only [show ((1 : Nat) : Int) = 1 from rfl] at hmk hhl
  simp only [cond_false, cond_true, Z0, toWorld_w hK u, h1, h2, eqAns_w hK (show (noAns code walk b).fB.length ≤ 140737488355327 by omega), eqWorld_w hK hw, hmk, if_pos (mk_lens (cvWorld a) 1), nat_not_neg, hma, markBL_len, if_true, hhl, hha, bne_self_eq_false, Bool.not_true]
end Go.Proofs.YtjdblamhaljjbaaGreat
