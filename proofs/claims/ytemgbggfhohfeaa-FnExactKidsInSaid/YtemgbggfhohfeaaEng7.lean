/- Cuts of slices and strings; struct literals; equality of structs of whole numbers. -/
import Derived.Test.YtemgbggfhohfeaaEng6
import Derived.Laws.StructEq
import Derived.Laws.Slices
set_option linter.unusedVariables false
set_option linter.unusedSimpArgs false
namespace Go.Eng
section
variable {F : Fr} {S : St} {o : Oper} {T : Tab}

/-! ### x[lo:hi] -/
/-- An optional bound of a cut. -/
def bnd (S : St) (d : Int) : Option Operand → Option Int
  | none => some d
  | some x => match S.val [] x with | .c (.int _ n) => some n | _ => none
theorem bnd_eval {a : Act} {w : World} {σ : Nat → List Nat} {β : Nat → Option (Nat × Nat × Nat)} (hs : RSx F S a w σ β) {x : Operand} {d n : Int} (h : bnd S d (some x) = some n) : ∃ k, a.eval x = .int k n := by
  have g := val_ok hs [] x
  simp only [bnd] at h
  cases e : S.val [] x with
  | c v =>
    rw [e] at h g
    cases v with
    | int k m =>
      simp only [Option.some.injEq] at h
      subst h
      exact ⟨k, inv_int g⟩
    | _ => simp at h
  | g cs => rw [e] at h; simp at h
  | t xs => rw [e] at h; simp at h

theorem cut_run {P : Program} {T : Tab} (hT : TabOk P T) {t es : Nat} (hes : eSize T t = some es) (A : Option Addr) (len cap : Nat) (lo hi : Option Value) (l h : Nat)
    (hlo : (lo = none ∧ l = 0) ∨ ∃ k, lo = some (.int k l)) (hhi : (hi = none ∧ h = len) ∨ ∃ k, hi = some (.int k h)) (hlh : l ≤ h) (hh : h ≤ cap) (w : World) :
    (Instr.sliceAt t (.slice A len cap) lo hi none).run P w = .ok (.slice (if cap = l then A else A.map (·.add (l * es))) (h - l) (cap - l)) w := by
  obtain ⟨e, j, u1, u2, u3⟩ := eSize_run hT hes
  have hsz := (hT.ty u2).sizeOf w
  have b1 : ∀ (k : IntKind) (c : BoundsCode) (n m : Nat), n ≤ m → (Instr.sliceBound (.int k (n : Int)) m c).run P w = .ok n w := by
    intro k c n m hnm
    have h1 : (0 : Int) ≤ n ∧ (n : Int) ≤ m := by omega
    simp [Instr.sliceBound, asIntOf, h1]
  have hb : (Instr.sliceBounds true len cap lo hi none).run P w = .ok (l, h, cap) w := by
    unfold Instr.sliceBounds
    rcases hlo with ⟨rfl, rfl⟩ | ⟨k, rfl⟩ <;> rcases hhi with ⟨rfl, rfl⟩ | ⟨k', rfl⟩
    · simp
    · simp [b1 _ _ _ _ hh]
    · simp [b1 _ _ _ _ hlh]
    · simp [b1 _ _ _ _ hh, b1 _ _ _ _ hlh]
  simp [Instr.sliceAt, run_underlying u1, Instr.slice, hb, hsz, u3]

theorem bounds_of {a : Act} {w : World} {σ : Nat → List Nat} {β : Nat → Option (Nat × Nat × Nat)} (hs : RSx F S a w σ β) {lo : Option Operand} {d l : Int} (h : bnd S d lo = some l) : (lo.map a.eval = none ∧ l = d) ∨ ∃ k, lo.map a.eval = some (.int k l) := by
  cases lo with
  | none => exact .inl ⟨rfl, by simp only [bnd, Option.some.injEq] at h; exact h.symm⟩
  | some x =>
    obtain ⟨k, hk⟩ := bnd_eval hs h
    exact .inr ⟨k, by simp [hk]⟩

theorem ok_cutO (hT : TabOk F.P T) {t : Nat} {x : Operand} {lo hi : Option Operand} (h : o.op = .slice t x lo hi none) {id ver off len : Nat} (hx : S.val [] x = .c (.own id ver off len)) {B : Blk} (hB : S.H id = some B) (hver : B.ver = ver) (hes : eSize T t = some B.es)
    {l hh : Int} (hl : bnd S 0 lo = some l) (hr : bnd S len hi = some hh) (h0 : 0 ≤ l) (h1 : l ≤ hh) (h2 : hh ≤ len) : PureOk F o S (.c (.own id ver (off + l.toNat) (hh - l).toNat)) := by
  intro ac w σ β hs
  have g1 := val_ok hs [] x
  rw [hx] at g1
  obtain ⟨A, cap, e1, hv, hcap, hmax, hb⟩ := inv_own g1
  obtain ⟨ln, rfl⟩ := Int.eq_ofNat_of_zero_le h0
  obtain ⟨hn, rfl⟩ := Int.eq_ofNat_of_zero_le (Int.le_trans h0 h1)
  have r := cut_run hT hes A len cap (lo.map ac.eval) (hi.map ac.eval) ln hn
    ((bounds_of hs hl).imp (fun ⟨a, b⟩ => ⟨a, by omega⟩) (fun h => h)) ((bounds_of hs hr).imp (fun ⟨a, b⟩ => ⟨a, by omega⟩) (fun h => h)) (by omega) (by omega) w
  refine ⟨_, by simp only [execOp, h, e1, Option.map_none, Sem.run_bind, r, Result.andThen_ok, Sem.run_pure]; rfl, .c ?_⟩
  have e2 : (hn : Int) - (ln : Int) = ((hn - ln : Nat) : Int) := by omega
  rw [e2, Int.toNat_natCast, Int.toNat_natCast]
  refine .own _ _ _ _ _ _ _ _ rfl hv (by omega) (by omega) fun B' hB' hver' => ?_
  have hBB : B' = B := by
    have h3 : S.H id = some B' := hB'
    rw [hB] at h3
    exact (Option.some.inj h3).symm
  subst hBB
  obtain ⟨f1, f2⟩ := hb B' hB' hver'
  refine ⟨by omega, ?_⟩
  rcases f2 with f2 | ⟨b, o', n, f3, rfl, f4⟩
  · exact .inl (by omega)
  · by_cases hc : cap = ln
    · exact .inl (by omega)
    · refine .inr ⟨b, o', n, f3, ?_, by omega⟩
      rw [if_neg hc]
      simp [add_plain, Nat.add_mul, Nat.add_assoc]

theorem RC.cut {w : World} {σ : Nat → List Nat} {es : Nat} {xs : List (List V)} {A : Option Addr} {n cap : Nat} (h : RC w σ [] (.row false es xs) (.slice A n cap)) {l hh : Nat} (h1 : l ≤ hh) (h2 : hh ≤ xs.length) :
    RC w σ [] (.row false es ((xs.drop l).take (hh - l))) (.slice (if cap = l then A else A.map (·.add (l * es))) (hh - l) (cap - l)) := by
  cases h with
  | row p o es xs A n cap b off cs hn hcap hmax hA hT hx hc hr =>
    have hget : ∀ (k : Nat) (x : List V), ((xs.drop l).take (hh - l))[k]? = some x → xs[l + k]? = some x ∧ k < hh - l := by
      intro k x hk
      rw [List.getElem?_take] at hk
      split at hk
      · rw [List.getElem?_drop] at hk
        exact ⟨hk, by assumption⟩
      · cases hk
    refine .row [] false es _ _ _ _ b (off + l * es) (fun k j => cs (l + k) j) (by simp; omega) (by omega) (by omega) (fun h0 => ?_) (fun h => by simp at h) ?_ ?_ ?_
    · rw [if_neg (by omega), hA (by omega)]
      simp [add_plain]
    · intro x hm
      exact hx x (List.mem_of_mem_drop (List.mem_of_mem_take hm))
    · intro k j x v hk hj
      obtain ⟨hk', _⟩ := hget k x hk
      obtain ⟨f1, f2⟩ := hc (l + k) j x v hk' hj
      refine ⟨?_, f2⟩
      rw [← f1]
      congr 1
      simp [Nat.add_mul, Nat.add_assoc]
    · intro k j x v hk hj
      obtain ⟨hk', _⟩ := hget k x hk
      exact hr (l + k) j x v hk' hj

theorem ok_cutR (hT : TabOk F.P T) {t : Nat} {x : Operand} {lo hi : Option Operand} (h : o.op = .slice t x lo hi none) {es : Nat} {xs : List (List V)} (hx : S.val [] x = .c (.row false es xs)) (hes : eSize T t = some es)
    {l hh : Int} (hl : bnd S 0 lo = some l) (hr : bnd S xs.length hi = some hh) (h0 : 0 ≤ l) (h1 : l ≤ hh) (h2 : hh ≤ xs.length) : PureOk F o S (.c (.row false es ((xs.drop l.toNat).take (hh - l).toNat))) := by
  intro ac w σ β hs
  have g1 := val_ok hs [] x
  rw [hx] at g1
  obtain ⟨A, cap, e1, hR⟩ := inv_row g1
  have hcap : xs.length ≤ cap := by cases hR with | row => assumption
  obtain ⟨ln, rfl⟩ := Int.eq_ofNat_of_zero_le h0
  obtain ⟨hn, rfl⟩ := Int.eq_ofNat_of_zero_le (Int.le_trans h0 h1)
  have r := cut_run hT hes A xs.length cap (lo.map ac.eval) (hi.map ac.eval) ln hn
    ((bounds_of hs hl).imp (fun ⟨a, b⟩ => ⟨a, by omega⟩) (fun h => h)) ((bounds_of hs hr).imp (fun ⟨a, b⟩ => ⟨a, by omega⟩) (fun h => h)) (by omega) (by omega) w
  refine ⟨_, by simp only [execOp, h, e1, Option.map_none, Sem.run_bind, r, Result.andThen_ok, Sem.run_pure]; rfl, .c (.c ?_)⟩
  have e2 : (hn : Int) - (ln : Int) = ((hn - ln : Nat) : Int) := by omega
  rw [e2, Int.toNat_natCast, Int.toNat_natCast]
  exact hR.cut (by omega) (by omega)

/-- x[:0:0]: nothing, and no room. -/
theorem ok_cut0 (hT : TabOk F.P T) {t : Nat} {x : Operand} {k k' : IntKind} (h : o.op = .slice t x none (some (.const (.int k 0))) (some (.const (.int k' 0)))) {es : Nat} (hes : eSize T t = some es)
    (hx : (∃ ob es xs, S.val [] x = .c (.row ob es xs)) ∨ ∃ id ver off len, S.val [] x = .c (.own id ver off len)) : PureOk F o S (.c (.row true es [])) := by
  intro ac w σ β hs
  have g1 := val_ok hs [] x
  obtain ⟨e, j, u1, u2, u3⟩ := eSize_run hT hes
  have hsz := (hT.ty u2).sizeOf w
  have hv : ∃ A n cap, ac.eval x = .slice A n cap := by
    rcases hx with ⟨ob, es, xs, hx⟩ | ⟨id, ver, off, len, hx⟩
    · rw [hx] at g1
      obtain ⟨A, cap, e1, _⟩ := inv_row g1
      exact ⟨_, _, _, e1⟩
    · rw [hx] at g1
      obtain ⟨A, cap, e1, _⟩ := inv_own g1
      exact ⟨_, _, _, e1⟩
  obtain ⟨A, n, cap, e1⟩ := hv
  refine ⟨.slice A 0 0, ?_, .c (.c (RC.none _ _ _ _ _ _))⟩
  have z : ((0 : Int) ≤ 0 ∧ (0 : Int) ≤ (cap : Int)) := by omega
  have evc : ∀ v, ac.eval (.const v) = v := fun _ => rfl
  simp [execOp, h, e1, evc, Instr.sliceAt, run_underlying u1, Instr.slice, Instr.sliceBounds, Instr.sliceBound, asIntOf, hsz]

theorem ok_cutS (hT : TabOk F.P T) {t : Nat} {x : Operand} {lo hi : Option Operand} (h : o.op = .slice t x lo hi none) {s : ByteArray} (hx : S.val [] x = .c (.str s)) {ti : TI} (ht : tg T t = some ti) (hk : ti.k = .str)
    {l hh : Int} (hl : bnd S 0 lo = some l) (hr : bnd S s.size hi = some hh) (h0 : 0 ≤ l) (h1 : l ≤ hh) (h2 : hh ≤ s.size) : PureOk F o S (.c (.str (s.extract l.toNat hh.toNat))) := by
  intro ac w σ β hs
  have g1 := val_ok hs [] x
  rw [hx] at g1
  have e1 := inv_str g1
  have u1 := (hT.ty ht).str hk
  obtain ⟨ln, rfl⟩ := Int.eq_ofNat_of_zero_le h0
  obtain ⟨hn, rfl⟩ := Int.eq_ofNat_of_zero_le (Int.le_trans h0 h1)
  have b1 : ∀ (k : IntKind) (c : BoundsCode) (n m : Nat), n ≤ m → (Instr.sliceBound (.int k (n : Int)) m c).run F.P w = .ok n w := by
    intro k c n m hnm
    have h1 : (0 : Int) ≤ n ∧ (n : Int) ≤ m := by omega
    simp [Instr.sliceBound, asIntOf, h1]
  have hb : (Instr.sliceBounds false s.size s.size (lo.map ac.eval) (hi.map ac.eval) none).run F.P w = .ok (ln, hn, s.size) w := by
    unfold Instr.sliceBounds
    rcases bounds_of hs hl with ⟨q1, q2⟩ | ⟨k, q1⟩ <;> rcases bounds_of hs hr with ⟨q3, q4⟩ | ⟨k', q3⟩ <;> rw [q1, q3]
    · have : ln = 0 := by omega
      have : hn = s.size := by omega
      simp [*]
    · have : ln = 0 := by omega
      simp [b1 _ _ hn s.size (by omega), *]
    · have : hn = s.size := by omega
      subst this
      simp [b1 _ _ ln s.size (by omega)]
    · simp [b1 _ _ hn s.size (by omega), b1 _ _ ln hn (by omega)]
  refine ⟨.string (s.extract ln hn), ?_, by simpa using str_ok _⟩
  simp [execOp, h, e1, Instr.sliceAt, run_underlying u1, Instr.slice, hb]

/-! ### Struct literals -/
def A.cells : A → List V
  | .c v => [v]
  | .g cs => cs
  | .t _ => []
def putL (x : List V) (j : Nat) (cs : List V) : List V := x.take j ++ cs ++ x.drop (j + cs.length)
theorem putL_len {x cs : List V} {j : Nat} (h : j + cs.length ≤ x.length) : (putL x j cs).length = x.length := by
  simp [putL]; omega
theorem putL_at {x cs : List V} {j : Nat} (h : j + cs.length ≤ x.length) (i : Nat) : (putL x j cs)[i]? = if j ≤ i ∧ i < j + cs.length then cs[i - j]? else x[i]? := by
  unfold putL
  have hl : (x.take j).length = j := by simp; omega
  rcases Nat.lt_or_ge i j with h1 | h1
  · rw [if_neg (by omega), List.append_assoc, List.getElem?_append_left (by omega), List.getElem?_take, if_pos h1]
  · rw [List.append_assoc, List.getElem?_append_right (by omega), hl]
    rcases Nat.lt_or_ge i (j + cs.length) with h2 | h2
    · rw [if_pos ⟨h1, h2⟩, List.getElem?_append_left (by omega)]
    · rw [if_neg (by omega), List.getElem?_append_right (by omega), List.getElem?_drop]
      congr 1; omega

/-- The cells of v lie in the array: cell by cell. -/
def Cells (E : Cx) (cs : List V) (arr : Array Value) : Prop := arr.size = cs.length ∧ ∀ (i : Nat) v, cs[i]? = some v → ∃ c, arr[i]? = some c ∧ RV E [] v c
theorem RA.cells {E : Cx} {x : A} {c : Value} (h : RA E x c) (hg : ∀ v, x = .c v → v ≠ .undef ∧ v ≠ .skip) (ht : ∀ xs, x ≠ .t xs) : Cells E x.cells c.cells := by
  cases h with
  | @c v c h =>
    obtain ⟨h1, h2⟩ := hg v rfl
    have : c.cells = #[c] := by
      cases h with
      | c h => cases h <;> rfl
      | own => rfl
      | ptr => rfl
      | ip => rfl
      | fn => rfl
      | skip => exact absurd rfl h2
      | undef => exact absurd rfl h1
    rw [this]
    refine ⟨rfl, fun i v' hi => ?_⟩
    cases i with
    | zero => simp only [A.cells, List.getElem?_cons_zero, Option.some.injEq] at hi; subst hi; exact ⟨c, rfl, h⟩
    | succ i => simp [A.cells] at hi
  | g cs arr hs h => exact ⟨hs, h⟩
  | t xs => exact absurd rfl (ht xs)

def fillV (pl : Nat → Option (Nat × Nat)) (cs : List V) : List (Nat × A) → Option (List V)
  | [] => some cs
  | (i, x) :: r => match pl i with
    | none => none
    | some (off, n) => if x.cells.length = n ∧ off + n ≤ cs.length then fillV pl (putL cs off x.cells) r else none
def okPart : A → Bool
  | .c .undef => false
  | .c .skip => false
  | .t _ => false
  | _ => true
theorem okPart.cells {E : Cx} {x : A} {c : Value} (h : RA E x c) (hp : okPart x = true) : Cells E x.cells c.cells :=
  h.cells (fun v e => by subst e; exact ⟨fun e => by subst e; simp [okPart] at hp, fun e => by subst e; simp [okPart] at hp⟩) (fun xs e => by subst e; simp [okPart] at hp)

theorem foldl_set_at (off : Nat) : ∀ (l : List (Value × Nat)) (arr : Array Value), (∀ (p q : Nat) x y, l[p]? = some x → l[q]? = some y → x.2 = y.2 → p = q) →
    (l.foldl (fun cs (c, j) => cs.setIfInBounds (off + j) c) arr).size = arr.size ∧
    ∀ i, i < arr.size → (l.foldl (fun cs (c, j) => cs.setIfInBounds (off + j) c) arr)[i]? = match l.find? (fun x => off + x.2 == i) with | some x => some x.1 | none => arr[i]? := by
  intro l
  induction l with
  | nil => intro arr _; exact ⟨rfl, fun i _ => rfl⟩
  | cons x r ih =>
    obtain ⟨c, j⟩ := x
    intro arr hd
    obtain ⟨h1, h2⟩ := ih (arr.setIfInBounds (off + j) c) (fun p q x y hp hq e => by have := hd (p + 1) (q + 1) x y hp hq e; omega)
    refine ⟨by rw [List.foldl_cons, h1]; simp, fun i hi => ?_⟩
    rw [List.foldl_cons, h2 i (by simpa using hi), List.find?_cons]
    by_cases e : off + j = i
    · simp only [e, beq_self_eq_true]
      have hn : r.find? (fun x => off + x.2 == i) = none := by
        rw [List.find?_eq_none]
        intro y hy
        obtain ⟨q, hq⟩ := List.mem_iff_getElem?.1 hy
        intro hyi
        simp only [beq_iff_eq] at hyi
        have := hd 0 (q + 1) (c, j) y rfl hq (by show j = y.2; omega)
        omega
      rw [hn, ← e]
      have : off + j < arr.size := by omega
      simp [this]
    · have e' : (off + j == i) = false := by simp [e]
      rw [e']
      simp only
      split
      · rfl
      · rw [Array.getElem?_setIfInBounds_ne e]

theorem fold_cells {E : Cx} {cs ds : List V} {arr brr : Array Value} (h : Cells E cs arr) (h2 : Cells E ds brr) {off : Nat} (hl : off + ds.length ≤ cs.length) :
    Cells E (putL cs off ds) (brr.zipIdx.foldl (fun cs (c, j) => cs.setIfInBounds (off + j) c) arr) := by
  have hz : brr.zipIdx.foldl (fun cs (c, j) => cs.setIfInBounds (off + j) c) arr = brr.toList.zipIdx.foldl (fun cs (c, j) => cs.setIfInBounds (off + j) c) arr := by
    rw [← Array.foldl_toList, Array.toList_zipIdx]
  obtain ⟨f1, f2⟩ := foldl_set_at off brr.toList.zipIdx arr (fun p q x y hp hq e => by
    rw [List.getElem?_zipIdx] at hp hq
    obtain ⟨a, ha, rfl⟩ := Option.map_eq_some_iff.1 hp
    obtain ⟨b, hb, rfl⟩ := Option.map_eq_some_iff.1 hq
    simpa using e)
  rw [hz]
  refine ⟨by rw [f1, h.1, putL_len hl], fun i v hi => ?_⟩
  have hilt : i < cs.length := by rw [← putL_len hl]; exact (List.getElem?_eq_some_iff.1 hi).1
  rw [f2 i (by rw [h.1]; exact hilt)]
  rw [putL_at hl] at hi
  split at hi
  · rename_i hr
    obtain ⟨c, hc, hv⟩ := h2.2 (i - off) v hi
    refine ⟨c, ?_, hv⟩
    have hget : brr.toList.zipIdx[i - off]? = some (c, i - off) := by
      rw [List.getElem?_zipIdx]
      have : brr.toList[i - off]? = some c := by simpa using hc
      rw [this]; simp
    have hf : brr.toList.zipIdx.find? (fun x => off + x.2 == i) = some (c, i - off) := by
      rw [List.find?_eq_some_iff_getElem]
      refine ⟨by simp; omega, i - off, (List.getElem?_eq_some_iff.1 hget).1, (List.getElem?_eq_some_iff.1 hget).2, fun j hj => ?_⟩
      simp only [List.getElem_zipIdx, Nat.zero_add]
      simp
      omega
    rw [hf]
  · rename_i hr
    have hf : brr.toList.zipIdx.find? (fun x => off + x.2 == i) = none := by
      rw [List.find?_eq_none]
      intro y hy
      obtain ⟨q, hq⟩ := List.mem_iff_getElem?.1 hy
      rw [List.getElem?_zipIdx] at hq
      obtain ⟨a, ha, rfl⟩ := Option.map_eq_some_iff.1 hq
      have hql : q < brr.size := by simpa using (List.getElem?_eq_some_iff.1 ha).1
      have := h2.1
      simp only [Nat.zero_add]
      intro e
      simp only [beq_iff_eq] at e
      omega
    rw [hf]
    exact h.2 i v hi

theorem fill_cells {E : Cx} (pl : Nat → Option (Nat × Nat)) : ∀ (l : List (Nat × A)) (ps : List (Nat × Value)) (cs : List V) (arr : Array Value) (out : List V), ps.length = l.length →
    (∀ (q i : Nat) (x : A), l[q]? = some (i, x) → okPart x = true ∧ ∃ c, ps[q]? = some (i, c) ∧ RA E x c) → Cells E cs arr → fillV pl cs l = some out →
    ∃ brr, Instr.fill pl arr ps = some brr ∧ Cells E out brr := by
  intro l
  induction l with
  | nil =>
    intro ps cs arr out hl _ hc hf
    simp only [fillV, Option.some.injEq] at hf
    subst hf
    have : ps = [] := List.eq_nil_of_length_eq_zero (by simpa using hl)
    subst this
    exact ⟨arr, rfl, hc⟩
  | cons y r ih =>
    obtain ⟨i, x⟩ := y
    intro ps cs arr out hl hp hc hf
    obtain ⟨hok, c, hps, hx⟩ := hp 0 i x rfl
    obtain ⟨ps', rfl⟩ : ∃ ps', ps = (i, c) :: ps' := by
      cases ps with
      | nil => simp at hps
      | cons z ps' =>
        simp only [List.getElem?_cons_zero, Option.some.injEq] at hps
        exact ⟨ps', by rw [hps]⟩
    rw [fillV] at hf
    cases e : pl i with
    | none => rw [e] at hf; simp at hf
    | some q =>
      obtain ⟨off, n⟩ := q
      rw [e] at hf
      simp only at hf
      split at hf
      · rename_i hcond
        have hxc := okPart.cells hx hok
        have hsz : c.cells.size = n := by rw [hxc.1, hcond.1]
        obtain ⟨brr, g1, g2⟩ := ih ps' _ (c.cells.zipIdx.foldl (fun cs (c, j) => cs.setIfInBounds (off + j) c) arr) out (by simpa using hl) (fun q i x hq => by
          obtain ⟨a1, c', a2, a3⟩ := hp (q + 1) i x hq
          exact ⟨a1, c', a2, a3⟩) (fold_cells hc hxc (by rw [hcond.1]; exact hcond.2)) hf
        refine ⟨brr, ?_, g2⟩
        rw [Instr.fill, e]
        have : ¬ (c.cells.size ≠ n ∨ off + c.cells.size > arr.size) := by
          rw [hsz, hc.1]
          omega
        simp only [hsz, ne_eq, not_true_eq_false, decide_false, Bool.false_or, decide_eq_true_eq]
        rw [if_neg (by rw [hc.1]; omega)]
        exact g1
      · cases hf

/-- The places of a struct type's fields. -/
def places (T : Tab) (t : Nat) : Option (List (Nat × Nat)) :=
  match tg T t with
  | some i => match i.k with
    | .struct gs => gs.mapM fun (off, ft) => (tg T ft).map fun j => (off, j.size)
    | _ => none
  | none => none

theorem zero_cells {E : Cx} {zs : List V} {cs : List Value} (h : okCs zs cs = true) : zs.length = cs.length ∧ ∀ (i : Nat) v, zs[i]? = some v → ∃ c, cs[i]? = some c ∧ RV E [] v c := by
  induction zs generalizing cs with
  | nil =>
    cases cs with
    | nil => exact ⟨rfl, fun i v h => by simp at h⟩
    | cons c r => simp [okCs] at h
  | cons z r ih =>
    cases cs with
    | nil => simp [okCs] at h
    | cons c s =>
      simp only [okCs, Bool.and_eq_true] at h
      obtain ⟨h1, h2⟩ := ih h.2
      refine ⟨by simp [h1], fun i v hi => ?_⟩
      cases i with
      | zero =>
        simp only [List.getElem?_cons_zero, Option.some.injEq] at hi
        subst hi
        refine ⟨c, rfl, ?_⟩
        have h3 := h.1
        cases z with
        | int k n => cases c <;> simp_all [okC]; exact .c (.int _ _ _)
        | bool b => cases c <;> simp_all [okC]; exact .c (.bool _ _)
        | str s => cases c <;> simp_all [okC]; exact .c (.str _ _)
        | row ob es xs =>
          cases ob with
          | false => cases c <;> simp [okC] at h3
          | true =>
            cases xs with
            | cons => cases c <;> simp [okC] at h3
            | nil =>
              cases c with
              | slice A n cap =>
                cases A with
                | none => simp [okC] at h3; obtain ⟨rfl, rfl⟩ := h3; exact .c (RC.none _ _ _ _ _ _)
                | some a => simp [okC] at h3
              | _ => simp [okC] at h3
        | nilp =>
          cases c with
          | pointer a => cases a with
            | none => exact .c (.nilp _)
            | some a => simp [okC] at h3
          | _ => simp [okC] at h3
        | undef => exact .undef _ _
        | _ => cases c <;> simp [okC] at h3
      | succ i => simpa using h2 i v (by simpa using hi)

theorem mapM_sizes {P : Program} {T : Tab} (hT : TabOk P T) (w : World) : ∀ (fs : List Field) (pl : List (Nat × Nat)), (fs.map (fun f => (f.offset, f.type))).mapM (fun (x : Nat × Nat) => (tg T x.2).map fun j => (x.1, j.size)) = some pl →
    (fs.mapM (fun f => do pure (f.offset, ← Go.sizeOf f.type)) : Sem (List (Nat × Nat))).run P w = .ok pl w := by
  intro fs
  induction fs with
  | nil => intro pl h; simp at h; subst h; rfl
  | cons f r ih =>
    intro pl h
    simp only [List.map_cons, List.mapM_cons] at h
    cases e1 : tg T f.type with
    | none => rw [e1] at h; simp at h
    | some j =>
      rw [e1] at h
      simp only [Option.map_some, Option.bind_eq_bind, Option.bind_some] at h
      cases e2 : (r.map (fun f => (f.offset, f.type))).mapM (fun (x : Nat × Nat) => (tg T x.2).map fun j => (x.1, j.size)) with
      | none => rw [e2] at h; simp at h
      | some pl' =>
        rw [e2] at h
        simp only [Option.bind_some, Option.pure_def, Option.some.injEq] at h
        subst h
        have hsz := (hT.ty e1).sizeOf w
        simp only [List.mapM_cons, Sem.run_bind, hsz, Result.andThen_ok, Sem.run_pure, ih pl' e2]

theorem ok_build (hT : TabOk F.P T) {t : Nat} {parts : Array (Nat × Operand)} (h : o.op = .build t parts) {ti : TI} (ht : tg T t = some ti) {pl : List (Nat × Nat)} (hpl : places T t = some pl)
    {l : List (Nat × A)} (hl : l.length = parts.size) (hp : ∀ (q i : Nat) (x : A), l[q]? = some (i, x) → okPart x = true ∧ ∃ y sh, parts[q]? = some (i, y) ∧ S.val sh y = x) {out : List V} (hf : fillV (pl[·]?) ti.zero l = some out) :
    PureOk F o S (.g out) := by
  intro ac w σ β hs
  obtain ⟨z, hz, hzc, hz1⟩ := (hT.ty ht).zero w
  unfold places at hpl
  rw [ht] at hpl
  cases ek : ti.k with
  | struct gs =>
    simp only [ek] at hpl
    obtain ⟨fs, u1, u2⟩ := (hT.ty ht).struct ek
    have hm := mapM_sizes hT w fs.toList pl (by rw [u2]; exact hpl)
    obtain ⟨c1, c2⟩ := zero_cells (E := S.cx w σ β) hzc
    have hcz : Cells (S.cx w σ β) ti.zero z.cells := ⟨by simpa using c1.symm, fun i v hi => by simpa using c2 i v hi⟩
    obtain ⟨brr, g1, g2⟩ := fill_cells (E := S.cx w σ β) (pl[·]?) l ((parts.map fun (i, x) => (i, ac.eval x)).toList) ti.zero z.cells out (by simp [hl]) (fun q i x hq => by
      obtain ⟨a1, y, sh, a2, a3⟩ := hp q i x hq
      refine ⟨a1, ac.eval y, by simp [a2], ?_⟩
      rw [← a3]
      exact val_ok hs sh y) hcz hf
    have hmm : (fs.mapM (fun f => do pure (f.offset, ← Go.sizeOf f.type)) : Sem (Array (Nat × Nat))).run F.P w = .ok pl.toArray w := by
      rw [Array.mapM_eq_mapM_toList]
      simp only [Sem.run_map, hm, Result.andThen_ok]
    refine ⟨.agg brr, ?_, .g out brr g2.1 g2.2⟩
    have g1' : Instr.fill (fun x => pl.toArray[x]?) z.cells (parts.map fun (i, x) => (i, ac.eval x)).toList = some brr := by
      rw [← g1]; congr 1; funext x; simp
    simp only [execOp, h, Instr.build, Sem.run_bind, hz, Result.andThen_ok, run_underlying u1, hmm, g1', Sem.run_pure]
  | _ => simp [ek] at hpl
end
end Go.Eng
