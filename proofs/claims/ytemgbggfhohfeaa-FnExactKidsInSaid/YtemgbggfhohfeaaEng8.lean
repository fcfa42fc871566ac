/- Blocks: new ones, loads, stores. -/
import Derived.Test.YtemgbggfhohfeaaEng7
import Derived.Laws.CopyRow
set_option linter.unusedVariables false
set_option linter.unusedSimpArgs false
namespace Go.Eng

def World.push (w : World) (arr : Array Value) (T : TypeId) : World := { w with heap := w.heap.push (.cells arr T) }
theorem push_old (w : World) (arr : Array Value) (T : TypeId) {b : Nat} (h : b < w.heap.size) : (World.push w arr T).heap[b]? = w.heap[b]? := by
  simp only [World.push, Array.getElem?_push]
  rw [if_neg (by omega)]
theorem push_new (w : World) (arr : Array Value) (T : TypeId) : (World.push w arr T).heap[w.heap.size]? = some (.cells arr T (0, 0)) := by
  simp only [World.push]
  exact Array.getElem?_push_size
theorem push_size (w : World) (arr : Array Value) (T : TypeId) : (World.push w arr T).heap.size = w.heap.size + 1 := by simp [World.push]

/-- The rows of xs lie in the array from cell o on. -/
def Laid (E : Cx) (es : Nat) (xs : List (List V)) (arr : Array Value) : Prop :=
  (∀ x ∈ xs, x.length = es) ∧ ∀ (k j : Nat) x v, xs[k]? = some x → x[j]? = some v → ∃ c, arr[k * es + j]? = some c ∧ RV E [] v c

section
variable {F : Fr} {S : St} {a : Act} {w : World} {σ : Nat → List Nat} {β : Nat → Option (Nat × Nat × Nat)}

def St.set (S : St) (id : Nat) (B : Blk) : St := ⟨S.env, updE S.H id (some B), updE S.nv id (S.nv id + 1)⟩

theorem updE_same {α : Type} (f : Nat → α) (k : Nat) (v : α) : updE f k v k = v := by simp [updE]
theorem updE_other {α : Type} (f : Nat → α) {k i : Nat} (v : α) (h : i ≠ k) : updE f k v i = f i := by simp [updE, h]

theorem ext_set (id : Nat) (es : Nat) (xs : List (List V)) (w' : World) (σ' : Nat → List Nat) {β' : Nat → Option (Nat × Nat × Nat)} (hβ : ∀ i, i ≠ id → β' i = β i) :
    Ext (S.cx w σ β) ((S.set id ⟨S.nv id, es, xs⟩).cx w' σ' β') := by
  refine ⟨fun i => ?_, fun i B' h hv => ?_⟩
  · show S.nv i ≤ updE S.nv id (S.nv id + 1) i
    by_cases e : i = id
    · subst e; rw [updE_same]; omega
    · rw [updE_other _ _ e]; exact Nat.le_refl _
  · have h' : updE S.H id (some ⟨S.nv id, es, xs⟩) i = some B' := h
    by_cases e : i = id
    · subst e
      rw [updE_same] at h'
      cases h'
      exact absurd hv (Nat.lt_irrefl _)
    · rw [updE_other _ _ e] at h'
      exact ⟨B', h', rfl, rfl, rfl, hβ i e⟩

/-- A new block, known as id. -/
theorem RSx.alloc (hs : RSx F S a w σ β) {id : Nat} (hid : F.m ≤ id) {es n : Nat} {xs : List (List V)} {arr : Array Value} (T : TypeId) (hl : Laid (S.cx w σ β) es xs arr) (hn : xs.length ≤ n) (hsz : n * es ≤ arr.size) :
    RSx F (S.set id ⟨S.nv id, es, xs⟩) a (World.push w arr T) (updE σ w.heap.size [id]) (updE β id (some (w.heap.size, 0, n))) := by
  have hold : ∀ b, b < w.heap.size → (World.push w arr T).heap[b]? = w.heap[b]? ∧ updE σ w.heap.size [id] b = σ b := fun b hb => ⟨push_old w arr T hb, updE_other _ _ (by omega)⟩
  have hnear : ∀ p, Near w σ (World.push w arr T) (updE σ w.heap.size [id]) p := fun p b hb _ => hold b hb
  have hext := ext_set (S := S) (w := w) (σ := σ) (β := β) id es xs (World.push w arr T) (updE σ w.heap.size [id]) (β' := updE β id (some (w.heap.size, 0, n))) (fun i hi => updE_other _ _ hi)
  have hid0 : id ≠ 0 := by have := hs.mpos; omega
  refine ⟨⟨(updE_other _ _ (fun h => hid0 h.symm)).trans hs.hr.far, fun i B hB => ?_, fun b hb => ?_⟩, hs.mpos, ⟨hs.kp.os, hs.kp.tape, hs.kp.output, ?_, fun b hb h0 => ?_, fun b hb h0 => ?_⟩, fun i hi => ?_, fun t => (hs.env t).mono hext (hnear [])⟩
  · have h' : updE S.H id (some ⟨S.nv id, es, xs⟩) i = some B := hB
    by_cases e : i = id
    · subst e
      rw [updE_same] at h'
      cases h'
      refine ⟨by show S.nv i < updE S.nv i (S.nv i + 1) i; rw [updE_same]; omega, ?_⟩
      refine BR.mk (b := w.heap.size) (o := 0) (n := n) (updE_same _ _ _) ⟨updE_same _ _ _, hl.1, hn, arr, T, push_new w arr T, by simpa using hsz, fun k j x v hk hj => ?_⟩
      obtain ⟨c, h1, h2⟩ := hl.2 k j x v hk hj
      exact ⟨c, by simpa using h1, (h2.mono hext (hnear [])).any _⟩
    · rw [updE_other _ _ e] at h'
      obtain ⟨h1, h2⟩ := hs.hr.blk i B h'
      refine ⟨by show B.ver < updE S.nv id (S.nv id + 1) i; rw [updE_other _ _ e]; exact h1, h2.mono hext (updE_other _ _ e) (hnear [i])⟩
  · have hb' : w.heap.size + 1 ≤ b := by rw [← push_size w arr T]; exact hb
    show updE σ w.heap.size [id] b = []
    rw [updE_other _ _ (by omega)]
    exact hs.hr.new b (by show w.heap.size ≤ b; omega)
  · rw [push_size]; exact Nat.le_succ_of_le hs.kp.size
  · rw [push_old w arr T (Nat.lt_of_lt_of_le hb hs.kp.size)]; exact hs.kp.heap b hb h0
  · rw [updE_other _ _ (by have := hs.kp.size; omega)]; exact hs.kp.free b hb h0
  · rw [updE_other _ _ (by omega)]; exact hs.inn i hi

theorem own_new (id es n : Nat) (xs : List (List V)) (w' : World) (σ' : Nat → List Nat) (β : Nat → Option (Nat × Nat × Nat)) (b : Nat) (hn : xs.length ≤ n) (hm : n ≤ maxLen) :
    RV ((S.set id ⟨S.nv id, es, xs⟩).cx w' σ' (updE β id (some (b, 0, n)))) [] (.own id (S.nv id) 0 xs.length) (.slice (some ⟨b, 0, none⟩) xs.length n) := by
  refine .own _ _ _ _ _ _ _ _ rfl ?_ hn hm fun B hB hver => ?_
  · show S.nv id < updE S.nv id (S.nv id + 1) id; rw [updE_same]; omega
  · have h' : updE S.H id (some ⟨S.nv id, es, xs⟩) id = some B := hB
    rw [updE_same] at h'
    cases h'
    exact ⟨by simp, .inr ⟨b, 0, n, updE_same _ _ _, by simp, by omega⟩⟩
theorem ptr_new (id es n : Nat) (xs : List (List V)) (w' : World) (σ' : Nat → List Nat) (β : Nat → Option (Nat × Nat × Nat)) (b : Nat) :
    RV ((S.set id ⟨S.nv id, es, xs⟩).cx w' σ' (updE β id (some (b, 0, n)))) [] (.ptr id (S.nv id) 0 0) (.pointer (some ⟨b, 0, none⟩)) := by
  refine .ptr _ _ _ _ _ _ ?_ fun B hB hver => ⟨b, 0, n, updE_same _ _ _, by simp⟩
  show S.nv id < updE S.nv id (S.nv id + 1) id; rw [updE_same]; omega

theorem Laid.one {E : Cx} {cs : List V} {arr : Array Value} (h : Cells E cs arr) : Laid E cs.length [cs] arr := by
  refine ⟨by simp, fun k j x v hk hj => ?_⟩
  cases k with
  | zero =>
    simp only [List.getElem?_cons_zero, Option.some.injEq] at hk
    subst hk
    obtain ⟨c, h1, h2⟩ := h.2 j v hj
    exact ⟨c, by simpa using h1, h2⟩
  | succ k => simp at hk
end

section
variable {F : Fr} {S : St} {o : Oper} {T : Tab}

/-- How a step's record sets one new block. -/
theorem app_set (dst : Option Tmp) (id : Nat) (B : Blk) (v : A) (use : List Tmp) (ids : List Nat) : S.app dst { v, upd := [(id, some B)], bump := [id], use, ids } = (S.set id B).put dst v := rfl

theorem RSx.putT {S : St} {a : Act} {w : World} {σ β} (hs : RSx F S a w σ β) (hsz : a.tmps.size = F.N) {dst : Option Tmp} (hd : ∀ d, dst = some d → d < F.N) {x : A} {v : Value} (hx : RA (S.cx w σ β) x v) : RSx F (S.put dst x) (a.put dst v) w σ β :=
  ⟨hs.hr, hs.mpos, hs.kp, hs.inn, put_env hsz hs.env hd hx⟩

theorem okPart_val {x : A} (h : okPart x = true) : True := trivial

/-- box: a struct, or one cell, into memory of its own. -/
theorem step_box {t : TypeId} {x : Operand} (h : o.op = .box t x) (hd : ∀ d, o.dst = some d → d < F.N) (sh : List Nat) {u : A} (hx : S.val sh x = u) (hu : okPart u = true) (id : Nat) (hid : F.m ≤ id) :
    StepL F o S { v := .c (.ptr id (S.nv id) 0 0), upd := [(id, some ⟨S.nv id, u.cells.length, [u.cells]⟩)], bump := [id], use := opTmps [x], ids := [id] } := by
  intro S' h1 h2 a w hs
  obtain ⟨hdf, hsz, σ, β, hs⟩ := hs
  have hnv : S'.nv id = S.nv id := (h2 id (by simp)).2
  have hu' : S'.val sh x = u := by rw [val_congr (l := [x]) (by simp) (fun t ht => h1 t ht), hx]
  have g1 := val_ok hs sh x
  rw [hu'] at g1
  have hc := okPart.cells g1 hu
  have hl := Laid.one hc
  have := hs.alloc hid (es := u.cells.length) (n := 1) (xs := [u.cells]) t hl (by simp) (by rw [hc.1]; simp)
  refine .inl ⟨.pointer (some ⟨w.heap.size, 0, none⟩), World.push w (a.eval x).cells t, ?_, by rw [put_defers]; exact hdf, by rw [put_tmps_size]; exact hsz, updE σ w.heap.size [id], updE β id (some (w.heap.size, 0, 1)), ?_⟩
  · simp [execOp, h, Instr.box, newVar, newRow, World.push]
  · rw [app_set, ← hnv]
    exact this.putT hsz hd (.c (ptr_new id _ 1 _ _ _ β w.heap.size))

/-- alloc: the zero value. -/
theorem step_alloc (hT : TabOk F.P T) {t : TypeId} (h : o.op = .alloc t) (hd : ∀ d, o.dst = some d → d < F.N) {ti : TI} (ht : tg T t = some ti) (id : Nat) (hid : F.m ≤ id) :
    StepL F o S { v := .c (.ptr id (S.nv id) 0 0), upd := [(id, some ⟨S.nv id, ti.zero.length, [ti.zero]⟩)], bump := [id], use := [], ids := [id] } := by
  intro S' h1 h2 a w hs
  obtain ⟨hdf, hsz, σ, β, hs⟩ := hs
  have hnv : S'.nv id = S.nv id := (h2 id (by simp)).2
  obtain ⟨z, hz, hzc, hz1⟩ := (hT.ty ht).zero w
  obtain ⟨c1, c2⟩ := zero_cells (E := S'.cx w σ β) hzc
  have hcz : Cells (S'.cx w σ β) ti.zero z.cells := ⟨by simpa using c1.symm, fun i v hi => by simpa using c2 i v hi⟩
  have := hs.alloc hid (es := ti.zero.length) (n := 1) (xs := [ti.zero]) t (Laid.one hcz) (by simp) (by rw [hcz.1]; simp)
  refine .inl ⟨.pointer (some ⟨w.heap.size, 0, none⟩), World.push w z.cells t, ?_, by rw [put_defers]; exact hdf, by rw [put_tmps_size]; exact hsz, updE σ w.heap.size [id], updE β id (some (w.heap.size, 0, 1)), ?_⟩
  · simp [execOp, h, Instr.alloc, hz, newVar, newRow, World.push]
  · rw [app_set, ← hnv]
    exact this.putT hsz hd (.c (ptr_new id _ 1 _ _ _ β w.heap.size))

/-! ### Loads -/
def isRowT : V → Bool
  | .row true _ _ => true
  | _ => false
/-- One cell, or a struct's. -/
def wrapA (agg : Bool) (cs : List V) : Option A :=
  if agg then some (.g cs) else match cs with | [v] => some (.c v) | _ => none

theorem load_run {P : Program} {T : Tab} (hT : TabOk P T) {t : Nat} {ti : TI} (ht : tg T t = some ti) {w : World} {b off : Nat} {cs : List Value} (hl : cs.length = ti.size) (hagg : ti.k.agg = false → ti.size = 1) (h : ∀ (j : Nat) v, cs[j]? = some v → w.cell? ⟨b, off + j, none⟩ = some v) :
    (Instr.loadAt t (.pointer (some ⟨b, off, none⟩))).run P w = .ok (if ti.k.agg then .agg cs.toArray else cs.headD undef) w := by
  have h1 := (hT.ty ht).isAgg w
  have h2 := (hT.ty ht).sizeOf w
  have h3 := run_loadCells_list (P := P) w ⟨b, off, none⟩ cs (fun j v hj => by rw [add_plain]; exact h j v hj)
  rw [hl] at h3
  simp only [Instr.loadAt, Instr.sureAddr, loadVar, Sem.run_bind, Sem.run_pure, Result.andThen_ok, h1]
  cases hk : ti.k.agg with
  | true => simp [h2, h3]
  | false =>
    have hsz := hagg hk
    cases cs with
    | nil => simp at hl; omega
    | cons c r =>
      have h0 := h 0 c rfl
      simp only [Nat.add_zero] at h0
      simp [h0]

theorem wrapA_ok {E : Cx} {agg : Bool} {cs : List V} {vs : List Value} {u : A} (h : wrapA agg cs = some u) (hl : vs.length = cs.length) (hv : ∀ (j : Nat) v, cs[j]? = some v → ∃ c, vs[j]? = some c ∧ RV E [] v c) : RA E u (if agg then .agg vs.toArray else vs.headD undef) := by
  unfold wrapA at h
  cases agg with
  | true =>
    simp only [if_true, Option.some.injEq] at h
    subst h
    exact .g cs vs.toArray (by simpa using hl) (fun i v hi => by simpa using hv i v hi)
  | false =>
    simp only [Bool.false_eq_true, if_false] at h
    match cs, h with
    | [v], h =>
      simp only [Option.some.injEq] at h
      subst h
      obtain ⟨c, h1, h2⟩ := hv 0 v rfl
      cases vs with
      | nil => simp at hl
      | cons c' r =>
        simp only [List.getElem?_cons_zero, Option.some.injEq] at h1
        subst h1
        exact .c h2

/-- A list of values that are read, and what they are. -/
theorem pick_cells {cs : List V} {n : Nat} (hl : cs.length = n) {R : V → Value → Prop} {Q : Nat → Value → Prop} (h : ∀ (j : Nat) v, cs[j]? = some v → ∃ c, Q j c ∧ R v c) :
    ∃ vs : List Value, vs.length = n ∧ (∀ (j : Nat) c, vs[j]? = some c → Q j c) ∧ ∀ (j : Nat) v, cs[j]? = some v → ∃ c, vs[j]? = some c ∧ R v c := by
  induction cs generalizing n Q with
  | nil => exact ⟨[], by simpa using hl, by simp, by simp⟩
  | cons v r ih =>
    obtain ⟨c, q, hr⟩ := h 0 v rfl
    obtain ⟨vs, h1, h2, h3⟩ := ih rfl (Q := fun j => Q (j + 1)) (fun j v hj => h (j + 1) v hj)
    refine ⟨c :: vs, by simp at hl ⊢; omega, fun j x hj => ?_, fun j x hj => ?_⟩
    · cases j with
      | zero => simp only [List.getElem?_cons_zero, Option.some.injEq] at hj; subst hj; exact q
      | succ j => exact h2 j x (by simpa using hj)
    · cases j with
      | zero => simp only [List.getElem?_cons_zero, Option.some.injEq] at hj; subst hj; exact ⟨c, rfl, hr⟩
      | succ j => simpa using h3 j x (by simpa using hj)

theorem noRowT {E : Cx} {p : List Nat} {v : V} {c : Value} (h : RV E p v c) (hvT : isRowT v = false) : RV E [] v c := by
  cases h with
  | c h =>
    refine .c ?_
    cases h with
    | int p k n => exact .int _ _ _
    | bool p b => exact .bool _ _
    | str p s => exact .str _ _
    | nilp p => exact .nilp _
    | row p o es xs A n cap b off cs hn hcap hmax hA hT hx hc hr =>
      cases o with
      | true => simp [isRowT] at hvT
      | false => exact .row _ false es xs A n cap b off cs hn hcap hmax hA (fun h => by simp at h) hx hc (by simpa using hr)
  | own p id ver off len A n cap hn hv hcap hmax h => exact .own _ _ _ _ _ _ _ _ hn hv hcap hmax h
  | ptr p id ver k j a hv h => exact .ptr _ _ _ _ _ _ hv h
  | ip p es xs k j b off n cap h => exact .ip _ _ _ _ _ _ _ _ _ h
  | fn p f caps cs cv hs h1 h2 => exact .fn _ _ _ _ cv hs h1 h2
  | skip p => exact .skip _
  | undef p v => exact .undef _ _

theorem step_load (hT : TabOk F.P T) {t : TypeId} {x : Operand} (h : o.op = .load t x) (hd : ∀ d, o.dst = some d → d < F.N) {ti : TI} (ht : tg T t = some ti) {id ver k j : Nat} (hx : S.val [] x = .c (.ptr id ver k j)) {B : Blk} (hB : S.H id = some B) (hver : B.ver = ver)
    {y : List V} (hy : B.xs[k]? = some y) (hj : j + ti.size ≤ y.length) {u : A} (hw : wrapA ti.k.agg ((y.drop j).take ti.size) = some u) (hn : ((y.drop j).take ti.size).all (fun v => !isRowT v) = true) :
    StepL F o S { v := u, use := opTmps [x], ids := [id] } := by
  refine PureOk.step hd _ _ fun S' h1 h2 => ?_
  intro ac w σ β hs
  have hx' : S'.val [] x = .c (.ptr id ver k j) := by rw [val_congr (l := [x]) (by simp) (fun t ht => h1 t ht), hx]
  have hB' : S'.H id = some B := by rw [(h2 id (by simp)).1, hB]
  have g1 := val_ok hs [] x
  rw [hx'] at g1
  obtain ⟨a, e, hv, ha⟩ := inv_ptr g1
  obtain ⟨b, o', n, e1, rfl⟩ := ha B hB' hver
  obtain ⟨_, hes, hl, arr, T', hh, hsz, hc⟩ := (hs.hr.blk id B hB').2.some e1
  have hylen : y.length = B.es := hes y (List.mem_of_getElem? hy)
  have hcl : ((y.drop j).take ti.size).length = ti.size := by simp; omega
  have hagg : ti.k.agg = false → ti.size = 1 := by
    intro hk
    rw [hk] at hw
    unfold wrapA at hw
    simp only [Bool.false_eq_true, if_false] at hw
    match e : (y.drop j).take ti.size, hw with
    | [v], _ => rw [e] at hcl; simpa using hcl.symm
  obtain ⟨vs, v1, v2, v3⟩ := pick_cells hcl (R := RV (S'.cx w σ β) []) (Q := fun i c => w.cell? ⟨b, o' + k * B.es + j + i, none⟩ = some c) (fun i v hi => by
    have hvi : y[j + i]? = some v := by
      rw [List.getElem?_take] at hi
      split at hi
      · rwa [List.getElem?_drop] at hi
      · cases hi
    obtain ⟨c, c1, c2⟩ := hc k (j + i) y v hy hvi
    refine ⟨c, ?_, noRowT c2 ?_⟩
    · refine (cell_of_heap (w := w) hh).trans ?_
      rw [← c1]; congr 1; omega
    · have := List.all_eq_true.1 hn v (List.mem_of_getElem? hi)
      simpa using this)
  exact ⟨_, by simp [execOp, h, e, load_run hT ht v1 hagg (fun i v hi => v2 i v hi)], wrapA_ok hw (by rw [v1, hcl]) v3⟩

theorem step_loadI (hT : TabOk F.P T) {t : TypeId} {x : Operand} (h : o.op = .load t x) (hd : ∀ d, o.dst = some d → d < F.N) {ti : TI} (ht : tg T t = some ti) {es k j : Nat} {xs : List (List V)} (hx : S.val [] x = .c (.ip es xs k j))
    {y : List V} (hy : xs[k]? = some y) (hj : j + ti.size ≤ y.length) {u : A} (hw : wrapA ti.k.agg ((y.drop j).take ti.size) = some u) :
    StepL F o S { v := u, use := opTmps [x] } := by
  refine PureOk.step hd _ _ fun S' h1 h2 => ?_
  intro ac w σ β hs
  have hx' : S'.val [] x = .c (.ip es xs k j) := by rw [val_congr (l := [x]) (by simp) (fun t ht => h1 t ht), hx]
  have g1 := val_ok hs [] x
  rw [hx'] at g1
  obtain ⟨b, off, n, cap, e, hR⟩ := inv_ip g1
  cases hR with
  | row p ob es xs A n cap b' off' cs hn hcap hmax hA hT' hx hc hr =>
    have hkl := (List.getElem?_eq_some_iff.1 hy).1
    have e2 := hA (by omega)
    simp only [Option.some.injEq, Addr.mk.injEq, and_true] at e2
    obtain ⟨rfl, rfl⟩ := e2
    have hcl : ((y.drop j).take ti.size).length = ti.size := by simp; omega
    have hagg : ti.k.agg = false → ti.size = 1 := by
      intro hk
      rw [hk] at hw
      unfold wrapA at hw
      simp only [Bool.false_eq_true, if_false] at hw
      match e : (y.drop j).take ti.size, hw with
      | [v], _ => rw [e] at hcl; simpa using hcl.symm
    obtain ⟨vs, v1, v2, v3⟩ := pick_cells hcl (R := RV (S'.cx w σ β) []) (Q := fun i c => w.cell? ⟨b, off + k * es + j + i, none⟩ = some c) (fun i v hi => by
      have hvi : y[j + i]? = some v := by
        rw [List.getElem?_take] at hi
        split at hi
        · rwa [List.getElem?_drop] at hi
        · cases hi
      refine ⟨cs k (j + i), ?_, .c (by simpa using hr k (j + i) y v hy hvi)⟩
      rw [Nat.add_assoc]; exact (hc k (j + i) y v hy hvi).1)
    exact ⟨_, by simp [execOp, h, e, load_run hT ht v1 hagg (fun i v hi => v2 i v hi)], wrapA_ok hw (by rw [v1, hcl]) v3⟩
end
end Go.Eng
