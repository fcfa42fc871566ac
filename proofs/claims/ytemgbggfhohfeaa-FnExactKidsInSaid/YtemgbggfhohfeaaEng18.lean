/- append. -/
import Derived.Test.YtemgbggfhohfeaaEng17
set_option linter.unusedVariables false
set_option linter.unusedSimpArgs false
namespace Go.Eng

/-- The rows that a slice holds. -/
def rowsOf (S : St) : V → Option (List (List V))
  | .row _ _ xs => some xs
  | .own id ver off len => match S.H id with
    | some B => match Nat.decEq B.ver ver with
      | .isTrue _ => some ((B.xs.drop off).take len)
      | _ => none
    | none => none
  | _ => none
def idOf : V → List Nat
  | .own id _ _ _ => [id]
  | _ => []
/-- Rows of this many cells. -/
def esIs (S : St) (es : Nat) : V → Prop
  | .row _ e _ => e = es
  | .own id _ _ _ => ∀ B, S.H id = some B → B.es = es
  | _ => True
def cleanV : V → Bool
  | .row true _ _ => false
  | .undef => false
  | .skip => false
  | _ => true
/-- Every cell holds something; no cell holds what belongs to its place. -/
def noT (xs : List (List V)) : Bool := xs.all fun x => x.all cleanV
theorem clean_one {xs : List (List V)} (h : noT xs = true) {k j : Nat} {x : List V} {v : V} (hk : xs[k]? = some x) (hj : x[j]? = some v) : v ≠ .undef ∧ v ≠ .skip := by
  have := List.all_eq_true.1 (List.all_eq_true.1 h x (List.mem_of_getElem? hk)) v (List.mem_of_getElem? hj)
  constructor <;> rintro rfl <;> cases this
theorem noT_at {xs : List (List V)} (h : noT xs = true) {k j : Nat} {x : List V} {v : V} (hk : xs[k]? = some x) (hj : x[j]? = some v) : isRowT v = false := by
  have := List.all_eq_true.1 (List.all_eq_true.1 h x (List.mem_of_getElem? hk)) v (List.mem_of_getElem? hj)
  cases v with
  | row o es ys => cases o with
    | true => cases this
    | false => rfl
  | _ => rfl

section
variable {F : Fr} {S : St} {a : Act} {w : World} {σ : Nat → List Nat} {β : Nat → Option (Nat × Nat × Nat)}

/-- A slice's elements, as the model holds them. -/
theorem slice_cells (hs : RSx F S a w σ β) {v : V} {c : Value} (h : RV (S.cx w σ β) [] v c) {es : Nat} {xs : List (List V)} (hr : rowsOf S v = some xs) (hes : esIs S es v) (hn : noT xs = true) (hpos : 0 < es) :
    ∃ A cap, c = .slice A xs.length cap ∧ xs.length ≤ cap ∧ cap ≤ maxLen ∧ (∀ x ∈ xs, x.length = es) ∧ (0 < xs.length → ∃ b o, A = some ⟨b, o, none⟩ ∧ ∀ (k j : Nat) x v, xs[k]? = some x → x[j]? = some v → ∃ u, w.cell? ⟨b, o + k * es + j, none⟩ = some u ∧ RV (S.cx w σ β) [] v u) := by
  cases h with
  | c h =>
    cases h with
    | row p o es' xs' A n cap b off cs hn' hcap hmax hA hT hx hc hrr =>
      simp only [rowsOf, Option.some.injEq] at hr
      subst hr
      have hes : es' = es := hes
      subst hes
      subst hn'
      refine ⟨A, cap, rfl, hcap, hmax, hx, fun h0 => ⟨b, off, hA h0, fun k j x v hk hj => ⟨cs k j, (hc k j x v hk hj).1, ?_⟩⟩⟩
      have := hrr k j x v hk hj
      cases o with
      | false => exact .c (by simpa using this)
      | true => exact noRowT (.c (E := S.cx w σ β) (by simpa using this)) (noT_at hn hk hj)
    | _ => simp [rowsOf] at hr
  | own p id ver off len A n cap hn' hver hcap hmax h =>
    simp only [rowsOf] at hr
    cases eB : S.H id with
    | none => rw [eB] at hr; simp at hr
    | some B =>
      rw [eB] at hr
      simp only at hr
      split at hr
      · rename_i hv _
        simp only [Option.some.injEq] at hr
        obtain ⟨h1, h2⟩ := h B eB hv
        have hbe : B.es = es := hes B eB
        have hxl : xs.length = len := by rw [← hr]; simp; omega
        rw [hn']
        have hbr := (hs.hr.blk id B eB).2
        have hxes : ∀ x ∈ xs, x.length = es := by
          intro x hx
          rw [← hr] at hx
          have hm := List.mem_of_mem_drop (List.mem_of_mem_take hx)
          cases e : β id with
          | none =>
            have := hbr.void e
            rw [this] at hm; cases hm
          | some q =>
            obtain ⟨b, o, m⟩ := q
            rw [← hbe]
            exact (hbr.some e).2.1 x hm
        refine ⟨A, cap, by rw [hxl], by omega, hmax, hxes, fun h0 => ?_⟩
        obtain ⟨b, o, m, h3, rfl, h5⟩ := h2.at_ (by omega)
        obtain ⟨q1, q2, q3, arr, T, q4, q5, q6⟩ := hbr.some h3
        refine ⟨b, o + off * B.es, rfl, fun k j x v hk hj => ?_⟩
        have hk' : B.xs[off + k]? = some x := by
          rw [← hr, List.getElem?_take] at hk
          split at hk
          · rwa [List.getElem?_drop] at hk
          · cases hk
        obtain ⟨u, g1, g2⟩ := q6 (off + k) j x v hk' hj
        refine ⟨u, ?_, noRowT g2 (noT_at hn hk hj)⟩
        refine (cell_of_heap (w := w) q4).trans ?_
        rw [← g1, ← hbe, Nat.add_mul]
        congr 1; omega
      · cases hr
  | _ => simp [rowsOf] at hr

/-- The cells of rows, one behind the other. -/
theorem flat_cells {E : Cx} {w : World} {es b o : Nat} (hpos : 0 < es) : ∀ (xs : List (List V)), (∀ x ∈ xs, x.length = es) → (∀ (k j : Nat) x v, xs[k]? = some x → x[j]? = some v → ∃ u, w.cell? ⟨b, o + k * es + j, none⟩ = some u ∧ RV E [] v u) →
    ∃ us : List Value, us.length = xs.length * es ∧ (∀ (j : Nat) u, us[j]? = some u → w.cell? ⟨b, o + j, none⟩ = some u) ∧ ∀ (k j : Nat) x v, xs[k]? = some x → x[j]? = some v → ∃ u, us[k * es + j]? = some u ∧ RV E [] v u := by
  intro xs hes h
  let us : List Value := (List.range (xs.length * es)).map fun i => (w.cell? ⟨b, o + i, none⟩).getD undef
  refine ⟨us, by simp [us], fun j u hj => ?_, fun k j x v hk hj => ?_⟩
  · simp only [us, List.getElem?_map] at hj
    obtain ⟨i, hi, rfl⟩ := Option.map_eq_some_iff.1 hj
    have hlt : j < xs.length * es := by
      have := (List.getElem?_eq_some_iff.1 hi).1
      simpa using this
    rw [List.getElem?_range hlt] at hi
    cases hi
    have hq : j / es < xs.length := Nat.div_lt_of_lt_mul (by rw [Nat.mul_comm]; exact hlt)
    have hk : xs[j / es]? = some xs[j / es] := List.getElem?_eq_getElem hq
    have hm : j % es < es := Nat.mod_lt _ hpos
    have hxl : xs[j / es].length = es := hes _ (List.mem_of_getElem? hk)
    obtain ⟨u, hu, _⟩ := h (j / es) (j % es) _ _ hk (List.getElem?_eq_getElem (by omega))
    have e : o + j / es * es + j % es = o + j := by have := Nat.div_add_mod j es; rw [Nat.mul_comm] at this; omega
    rw [e] at hu
    rw [hu]; rfl
  · obtain ⟨u, hu, hr⟩ := h k j x v hk hj
    have hxl : x.length = es := hes x (List.mem_of_getElem? hk)
    have hj' : j < es := by rw [← hxl]; exact (List.getElem?_eq_some_iff.1 hj).1
    have hk' : k < xs.length := (List.getElem?_eq_some_iff.1 hk).1
    have hlt : k * es + j < xs.length * es := by
      have : (k + 1) * es ≤ xs.length * es := Nat.mul_le_mul_right _ hk'
      rw [Nat.add_mul, Nat.one_mul] at this
      omega
    refine ⟨u, ?_, hr⟩
    simp only [us, List.getElem?_map, List.getElem?_range hlt, Option.map_some]
    rw [← Nat.add_assoc, hu]; rfl
end

/-- append(x, y..), said of the model: in place, or into new memory. -/
theorem app_run {P : Program} {T : Tab} (hT : TabOk P T) {t ty e : Nat} {ti te : TI} (ht : tg T t = some ti) (hk : ti.k = .slice e) (he : tg T e = some te) (w : World) (A : Option Addr) (n cap : Nat) (A2 : Option Addr) (m cap2 : Nat) (news : List Value) (hl : news.length = m * te.size) (hnews : 0 < m → ∃ x, A2 = some x ∧ ∀ (j : Nat) u, news[j]? = some u → w.cell? (x.add j) = some u) :
    (n + m ≤ cap → (Builtin.append_ #[t, t] ty #[.slice A n cap, .slice A2 m cap2]).run P w = match A with
      | none => .ok (.slice none (n + m) cap) w
      | some b => ((storeCells (b.add (n * te.size)) news) >>= fun _ => (pure (.slice (some b) (n + m) cap) : Sem Value)).run P w) := by
  intro hroom
  have hu := (hT.ty ht).slice hk
  have hsz := (hT.ty he).sizeOf w
  have hfc : (Builtin.firstCells te.size m (.slice A2 m cap2)).run P w = .ok news.toArray w := by
    rcases Nat.eq_zero_or_pos m with h0 | h0
    · subst h0
      have : news = [] := by simpa using hl
      subst this
      cases A2 with
      | none => simp [Builtin.firstCells]
      | some x =>
        have := run_firstCells_some (P := P) w te.size 0 x 0 cap2 [] (by simp) (by simp)
        exact this
    · obtain ⟨x, rfl, hx⟩ := hnews h0
      exact run_firstCells_some (P := P) w te.size m x m cap2 news hl hx
  cases A with
  | none => simp [Builtin.append_, run_underlying hu, hsz, Builtin.lenOf, hroom, hfc]
  | some b => simp [Builtin.append_, run_underlying hu, hsz, Builtin.lenOf, hroom, hfc]

theorem first_run {P : Program} (w : World) (size n : Nat) (A : Option Addr) (c1 c2 : Nat) (l : List Value) (hl : l.length = n * size) (h : 0 < n → ∃ x, A = some x ∧ ∀ (j : Nat) u, l[j]? = some u → w.cell? (x.add j) = some u) :
    (Builtin.firstCells size n (.slice A c1 c2)).run P w = .ok l.toArray w := by
  rcases Nat.eq_zero_or_pos n with h0 | h0
  · subst h0
    have : l = [] := by simpa using hl
    subst this
    cases A with
    | none => simp [Builtin.firstCells]
    | some x => exact run_firstCells_some (P := P) w size 0 x c1 c2 [] (by simp) (by simp)
  · obtain ⟨x, rfl, hx⟩ := h h0
    exact run_firstCells_some (P := P) w size n x c1 c2 l hl hx

theorem app_grow {P : Program} {T : Tab} (hT : TabOk P T) {t ty e : Nat} {ti te : TI} (ht : tg T t = some ti) (hk : ti.k = .slice e) (he : tg T e = some te) (hzl : te.zero.length = te.size) (w : World) (A : Option Addr) (n cap : Nat) (A2 : Option Addr) (m cap2 : Nat) (olds news : List Value) (hlo : olds.length = n * te.size) (holds : 0 < n → ∃ x, A = some x ∧ ∀ (j : Nat) u, olds[j]? = some u → w.cell? (x.add j) = some u)
    (hl : news.length = m * te.size) (hnews : 0 < m → ∃ x, A2 = some x ∧ ∀ (j : Nat) u, news[j]? = some u → w.cell? (x.add j) = some u) (hg : cap < n + m) (h63 : n + m ≤ maxLen) (hb : (n + m) * te.bytes ≤ 140737488355328) :
    ∃ arr, (Builtin.append_ #[t, t] ty #[.slice A n cap, .slice A2 m cap2]).run P w = .ok (.slice (some ⟨w.heap.size, 0, none⟩) (n + m) (grownCap w (n + m) cap e)) (w.drew.alloc (.cells arr e)) ∧
      arr.size = grownCap w (n + m) cap e * te.size ∧ (∀ (j : Nat) u, (olds ++ news)[j]? = some u → arr[j]? = some u) ∧ n + m ≤ grownCap w (n + m) cap e ∧ grownCap w (n + m) cap e ≤ maxLen := by
  have hu := (hT.ty ht).slice hk
  have hsz := (hT.ty he).sizeOf
  obtain ⟨inf, hi1, hi2, hi3⟩ := (hT.ty he).info w.drew
  obtain ⟨inf', hj1, hj2, hj3⟩ := (hT.ty he).info w
  obtain ⟨z, hz, hzc, _⟩ := (hT.ty he).zero w.drew
  have hzs : z.cells.size = te.size := by
    obtain ⟨q1, _⟩ := zero_cells (E := ⟨w, fun _ => [], fun _ => none, fun _ => none, fun _ => 0⟩) hzc
    rw [← hzl, q1]; simp
  have hge := grownCap_ge w (n + m) cap e
  have hcm := grownCap_le_maxLen w (n + m) cap e h63
  have hn : ¬ (n + m ≤ cap) := by omega
  have hsmall : n + m ≤ 9223372036854775807 := by simp only [maxLen] at h63; omega
  have h63' : ¬ (9223372036854775807 < ((n : Int) + (m : Int))) := by omega
  have hfit := growslice_fits hg hb
  have h48' : ¬ (281474976710656 < Builtin.nextslicecap (n + m) cap * inf'.bytes) := by rw [hj3]; omega
  have hfo := first_run (P := P) w.drew te.size n A n cap olds hlo (by simpa using holds)
  have hfn := first_run (P := P) w.drew te.size m A2 m cap2 news hl (by simpa using hnews)
  refine ⟨olds.toArray ++ news.toArray ++ Builtin.zeroCells z.cells (grownCap w (n + m) cap e - (n + m)), ?_, ?_, ?_, hge, hcm⟩
  · simp [Builtin.append_, run_underlying hu, hsz, Builtin.lenOf, hn, hj1, hi1, h63', h48', Question.forced, hfo, hfn, hz, newRow, grownCap]
    rw [← Array.append_assoc]
    simp
  · simp only [Array.size_append, List.size_toArray, size_zeroCells, hzs, hlo, hl, ← Nat.add_mul]
    congr 1; omega
  · intro j u hj
    have hlt : j < (olds.toArray ++ news.toArray).size := by have := (List.getElem?_eq_some_iff.1 hj).1; simpa using this
    rw [Array.getElem?_append_left hlt]
    simpa using hj

section
variable {F : Fr} {S : St} {a : Act} {w : World} {σ : Nat → List Nat} {β : Nat → Option (Nat × Nat × Nat)}
/-- A block that holds nothing, nowhere. -/
theorem RSx.void (hs : RSx F S a w σ β) {nid : Nat} (hnid : F.m ≤ nid) (es : Nat) : RSx F (S.set nid ⟨S.nv nid, es, []⟩) a w σ (updE β nid none) := by
  have hext := ext_set (S := S) (w := w) (σ := σ) (β := β) nid es [] w σ (β' := updE β nid none) (fun i hi => updE_other _ _ hi)
  have hn0 : nid ≠ 0 := by have := hs.mpos; omega
  refine ⟨⟨(updE_other _ _ (fun h => hn0 h.symm)).trans hs.hr.far, fun i B hB => ?_, hs.hr.new⟩, hs.mpos, hs.kp, fun i hi => ?_, fun t => (hs.env t).mono hext (fun b _ _ => ⟨rfl, rfl⟩)⟩
  · have h' : updE S.H nid (some ⟨S.nv nid, es, []⟩) i = some B := hB
    by_cases e : i = nid
    · subst e
      rw [updE_same] at h'
      cases h'
      exact ⟨by show S.nv i < updE S.nv i (S.nv i + 1) i; rw [updE_same]; omega, .mk_void (updE_same _ _ _) rfl⟩
    · rw [updE_other _ _ e] at h'
      obtain ⟨h1, h2⟩ := hs.hr.blk i B h'
      exact ⟨by show B.ver < updE S.nv nid (S.nv nid + 1) i; rw [updE_other _ _ e]; exact h1, h2.mono hext (updE_other _ _ e) (fun b _ _ => ⟨rfl, rfl⟩)⟩
  · rw [updE_other _ _ (by omega)]; exact hs.inn i hi
end

theorem flat_at {xs : List (List V)} {es : Nat} (h : ∀ x ∈ xs, x.length = es) {k j : Nat} {x : List V} {v : V} (hk : xs[k]? = some x) (hj : x[j]? = some v) : k < xs.length ∧ j < es := by
  refine ⟨(List.getElem?_eq_some_iff.1 hk).1, ?_⟩
  rw [← h x (List.mem_of_getElem? hk)]
  exact (List.getElem?_eq_some_iff.1 hj).1

theorem drew_eq (w : World) : w.drew = { w with drawn := w.drawn + 1 } := rfl

/-- append may go on in its memory. -/
def isBase : V → Bool
  | .own _ _ _ _ => true
  | .row true _ [] => true
  | _ => false
section
variable {F : Fr} {S : St} {o : Oper} {T : Tab}
theorem RSx.drawn' {a : Act} {w : World} {σ : Nat → List Nat} {β : Nat → Option (Nat × Nat × Nat)} (hx : RSx F S a w σ β) : RSx F S a w.drew σ β := by
  have hext : Ext (S.cx w σ β) (S.cx w.drew σ β) := ⟨fun _ => Nat.le_refl _, fun id B h _ => ⟨B, h, rfl, rfl, rfl, rfl⟩⟩
  have hn : ∀ p, Near w σ w.drew σ p := fun p b _ _ => ⟨rfl, rfl⟩
  refine ⟨⟨hx.hr.far, fun id B hB => ?_, hx.hr.new⟩, hx.mpos, ⟨hx.kp.os, hx.kp.tape, hx.kp.output, hx.kp.size, hx.kp.heap, hx.kp.free⟩, hx.inn, fun t => (hx.env t).mono hext (hn [])⟩
  obtain ⟨e1, e2⟩ := hx.hr.blk id B hB
  exact ⟨e1, e2.mono hext rfl (hn [id])⟩
/-- What an append tells: base u (of block id, or nothing), more v. -/
theorem app_main (hT : TabOk F.P T) {a : Act} {w : World} (hdf : a.defers = []) (hszt : a.tmps.size = F.N) {σ : Nat → List Nat} {β : Nat → Option (Nat × Nat × Nat)} (hs : RSx F S a w σ β) {t ty e : Nat} {ti te : TI} (ht : tg T t = some ti) (hk : ti.k = .slice e) (he : tg T e = some te) (hpos : 0 < te.size) (hzl : te.zero.length = te.size)
    {u v : V} {cu cv : Value} (hu : RV (S.cx w σ β) [] u cu) (hv : RV (S.cx w σ β) [] v cv) {xs ys : List (List V)} (hxr : rowsOf S u = some xs) (hyr : rowsOf S v = some ys)
    (hbase : isBase u = true)
    (hxe : esIs S te.size u) (hye : esIs S te.size v)
    (hxt : noT xs = true) (hyt : noT ys = true) (hb : (xs.length + ys.length) * te.bytes ≤ 140737488355328) (hm : xs.length + ys.length ≤ maxLen) (nid : Nat) (hnid : F.m ≤ nid) :
    ∃ c w' σ' β', (Builtin.append_ #[t, t] ty #[cu, cv]).run F.P w = .ok c w' ∧
      RSx F ⟨S.env, updE (setH S.H ((idOf u).map fun i => (i, none))) nid (some ⟨S.nv nid, te.size, xs ++ ys⟩), updE S.nv nid (S.nv nid + 1)⟩ a w' σ' β' ∧
      RV ((⟨S.env, updE (setH S.H ((idOf u).map fun i => (i, none))) nid (some ⟨S.nv nid, te.size, xs ++ ys⟩), updE S.nv nid (S.nv nid + 1)⟩ : St).cx w' σ' β') [] (.own nid (S.nv nid) 0 (xs.length + ys.length)) c := by
  obtain ⟨A, cap, rfl, hc1, hc2, hxes, hxc⟩ := slice_cells hs hu hxr hxe hxt hpos
  obtain ⟨A2, cap2, rfl, hd1, hd2, hyes, hyc⟩ := slice_cells hs hv hyr hye hyt hpos
  -- the cells to come
  obtain ⟨news, hnl, hnc, hnv⟩ : ∃ news : List Value, news.length = ys.length * te.size ∧ (0 < ys.length → ∃ x, A2 = some x ∧ ∀ (j : Nat) u, news[j]? = some u → w.cell? (x.add j) = some u) ∧ ∀ (k j : Nat) x v, ys[k]? = some x → x[j]? = some v → ∃ u, news[k * te.size + j]? = some u ∧ RV (S.cx w σ β) [] v u := by
    rcases Nat.eq_zero_or_pos ys.length with h0 | h0
    · have : ys = [] := List.length_eq_zero_iff.1 h0
      subst this
      exact ⟨[], by simp, fun h => absurd h (by simp), by simp⟩
    · obtain ⟨b, o2, rfl, h⟩ := hyc h0
      obtain ⟨us, g1, g2, g3⟩ := flat_cells (w := w) hpos ys hyes h
      exact ⟨us, g1, fun _ => ⟨_, rfl, fun j u hj => by rw [add_plain]; exact g2 j u hj⟩, g3⟩
  obtain ⟨olds, hol, hoc, hov⟩ : ∃ olds : List Value, olds.length = xs.length * te.size ∧ (0 < xs.length → ∃ x, A = some x ∧ ∀ (j : Nat) u, olds[j]? = some u → w.cell? (x.add j) = some u) ∧ ∀ (k j : Nat) x v, xs[k]? = some x → x[j]? = some v → ∃ u, olds[k * te.size + j]? = some u ∧ RV (S.cx w σ β) [] v u := by
    rcases Nat.eq_zero_or_pos xs.length with h0 | h0
    · have : xs = [] := List.length_eq_zero_iff.1 h0
      subst this
      exact ⟨[], by simp, fun h => absurd h (by simp), by simp⟩
    · obtain ⟨b, o2, rfl, h⟩ := hxc h0
      obtain ⟨us, g1, g2, g3⟩ := flat_cells (w := w) hpos xs hxes h
      exact ⟨us, g1, fun _ => ⟨_, rfl, fun j u hj => by rw [add_plain]; exact g2 j u hj⟩, g3⟩
  have hall : ∀ x ∈ xs ++ ys, x.length = te.size := fun x hx => (List.mem_append.1 hx).elim (hxes x) (hyes x)
  -- the old block let go
  have hdrop : RSx F ⟨S.env, setH S.H ((idOf u).map fun i => (i, none)), S.nv⟩ a w σ β := by
    cases u with
    | own id ver off len => exact hs.dropH id
    | _ => exact hs
  rcases Nat.lt_or_ge cap (xs.length + ys.length) with hg | hroom
  · -- new memory
    obtain ⟨arr, hrun, hasz, hac, hge, hcm⟩ := app_grow (ty := ty) hT ht hk he hzl w A xs.length cap A2 ys.length cap2 olds news hol hoc hnl hnc hg hm hb
    have hs2 := RSx.drawn' hdrop
    have hl : Laid ((⟨S.env, setH S.H ((idOf u).map fun i => (i, none)), S.nv⟩ : St).cx w.drew σ β) te.size (xs ++ ys) arr := by
      refine ⟨hall, fun k j x v hk hj => ?_⟩
      have hext : Ext (S.cx w σ β) ((⟨S.env, setH S.H ((idOf u).map fun i => (i, none)), S.nv⟩ : St).cx w.drew σ β) := by
        refine ⟨fun _ => Nat.le_refl _, fun i B' h _ => ?_⟩
        have h' : setH S.H ((idOf u).map fun i => (i, none)) i = some B' := h
        cases u with
        | own id ver off len =>
          have h2 : updE S.H id none i = some B' := h'
          by_cases e : i = id
          · subst e; rw [updE_same] at h2; cases h2
          · rw [updE_other _ _ e] at h2; exact ⟨B', h2, rfl, rfl, rfl, rfl⟩
        | _ => exact ⟨B', h', rfl, rfl, rfl, rfl⟩
      rcases Nat.lt_or_ge k xs.length with hk2 | hk2
      · rw [List.getElem?_append_left hk2] at hk
        obtain ⟨uu, q1, q2⟩ := hov k j x v hk hj
        obtain ⟨_, hj2⟩ := flat_at hxes hk hj
        refine ⟨uu, hac _ _ ?_, q2.mono hext (fun b _ _ => ⟨rfl, rfl⟩)⟩
        rw [List.getElem?_append_left (List.getElem?_eq_some_iff.1 q1).1]; exact q1
      · rw [List.getElem?_append_right hk2] at hk
        obtain ⟨uu, q1, q2⟩ := hnv (k - xs.length) j x v hk hj
        refine ⟨uu, hac _ _ ?_, q2.mono hext (fun b _ _ => ⟨rfl, rfl⟩)⟩
        have e : k * te.size + j = olds.length + ((k - xs.length) * te.size + j) := by
          rw [hol, Nat.sub_mul]
          have : xs.length * te.size ≤ k * te.size := Nat.mul_le_mul_right _ hk2
          omega
        rw [e, List.getElem?_append_right (by omega), Nat.add_sub_cancel_left]; exact q1
    have hal := hs2.alloc hnid (es := te.size) (n := grownCap w (xs.length + ys.length) cap e) (xs := xs ++ ys) (arr := arr) e hl (by simpa using hge) (by rw [hasz]; exact Nat.le_refl _)
    refine ⟨_, World.push w.drew arr e, _, _, hrun, hal, ?_⟩
    have := own_new (S := ⟨S.env, setH S.H ((idOf u).map fun i => (i, none)), S.nv⟩) nid te.size (grownCap w (xs.length + ys.length) cap e) (xs ++ ys) (World.push w.drew arr e) (updE σ w.drew.heap.size [nid]) β w.drew.heap.size (by simpa using hge) hcm
    rw [List.length_append] at this
    exact this
  · -- in place
    have hrun := app_run (ty := ty) hT ht hk he w A xs.length cap A2 ys.length cap2 news hnl hnc hroom
    have hnews1 : ∀ x ∈ news, x.oneCell' = true := by
      intro x hx
      obtain ⟨j, hj⟩ := List.mem_iff_getElem?.1 hx
      have hjl : j < ys.length * te.size := by rw [← hnl]; exact (List.getElem?_eq_some_iff.1 hj).1
      have hq : j / te.size < ys.length := Nat.div_lt_of_lt_mul (by rw [Nat.mul_comm]; exact hjl)
      have hyk : ys[j / te.size]? = some ys[j / te.size] := List.getElem?_eq_getElem hq
      have hyl : ys[j / te.size].length = te.size := hyes _ (List.mem_of_getElem? hyk)
      have hmod : j % te.size < ys[j / te.size].length := by rw [hyl]; exact Nat.mod_lt _ hpos
      obtain ⟨uu, q1, q2⟩ := hnv (j / te.size) (j % te.size) _ _ hyk (List.getElem?_eq_getElem hmod)
      have e : j / te.size * te.size + j % te.size = j := by rw [Nat.mul_comm]; exact Nat.div_add_mod j te.size
      rw [e, hj] at q1
      cases q1
      obtain ⟨p1, p2⟩ := clean_one hyt hyk (List.getElem?_eq_getElem hmod)
      exact q2.one p1 p2
    rcases Nat.eq_zero_or_pos cap with h0 | h0
    · -- no memory at all
      have hx0 : xs = [] := List.length_eq_zero_iff.1 (by omega)
      have hy0 : ys = [] := List.length_eq_zero_iff.1 (by omega)
      subst hx0; subst hy0
      have hn0 : news = [] := by simpa using hnl
      subst hn0
      have hfin : RSx F ⟨S.env, updE (setH S.H ((idOf u).map fun i => (i, none))) nid (some ⟨S.nv nid, te.size, []⟩), updE S.nv nid (S.nv nid + 1)⟩ a w σ (updE β nid none) := hdrop.void hnid te.size
      refine ⟨.slice A 0 cap, w, σ, updE β nid none, ?_, hfin, ?_⟩
      · rw [hrun]
        cases A with
        | none => simp
        | some b => simp [storeCells]
      · refine .own _ _ _ _ _ _ _ _ rfl (by show S.nv nid < updE S.nv nid (S.nv nid + 1) nid; rw [updE_same]; omega) (Nat.zero_le _) hc2 fun B hB _ => ?_
        have h' : updE (setH S.H ((idOf u).map fun i => (i, none))) nid (some ⟨S.nv nid, te.size, []⟩) nid = some B := hB
        rw [updE_same] at h'
        cases h'
        exact ⟨by simp, .inl h0⟩
    · -- in the block's own room
      cases u with
      | own id ver off len =>
        cases hu with
        | c hu => cases hu
        | own _ _ _ _ _ _ _ _ hn' hver _ hmax h =>
          simp only [rowsOf] at hxr
          cases eB : S.H id with
          | none => rw [eB] at hxr; simp at hxr
          | some B =>
            rw [eB] at hxr
            simp only at hxr
            split at hxr
            · rename_i hvv _
              simp only [Option.some.injEq] at hxr
              obtain ⟨h1, h2⟩ := h B eB hvv
              have hbe : B.es = te.size := hxe B eB
              obtain ⟨b, o', n', h3, rfl, h5⟩ := h2.at_ h0
              obtain ⟨q1, q2, q3, arr, T', q4, q5, q6⟩ := (hs.hr.blk id B eB).2.some h3
              have hq5 : o' + off * te.size + (n' - off) * te.size ≤ arr.size := by
                rw [hbe] at q5
                have : off * te.size + (n' - off) * te.size = n' * te.size := by rw [← Nat.add_mul]; congr 1; omega
                omega
              have hroom2 : xs.length * te.size + ys.length * te.size ≤ (n' - off) * te.size := by
                rw [← Nat.add_mul]; exact Nat.mul_le_mul_right _ (by omega)
              have hfit : (o' + off * te.size + xs.length * te.size) + 0 + news.length ≤ arr.size := by rw [hnl]; omega
              have hst := run_storeCells_at F.P b (o' + off * te.size + xs.length * te.size) T' news 0 arr w q4 hfit hnews1
              simp only [Nat.add_zero] at hst
              have hov2 : ∀ i, (over arr (o' + off * te.size + xs.length * te.size) news)[i]? = if o' + off * te.size + xs.length * te.size ≤ i ∧ i < o' + off * te.size + xs.length * te.size + news.length then news[i - (o' + off * te.size + xs.length * te.size)]? else arr[i]? := over_at (by omega)
              have hfin := hs.retake eB h3 hnid (arr' := over arr (o' + off * te.size + xs.length * te.size) news) q4 (over_size (by omega)) (o' := o' + off * te.size) (n' := n' - off) (es := te.size) (xs' := xs ++ ys) hq5 (by rw [List.length_append]; omega) hall (fun k j x v hk hj => by
                obtain ⟨hkl, hjl⟩ := flat_at hall hk hj
                rcases Nat.lt_or_ge k xs.length with hk2 | hk2
                · rw [List.getElem?_append_left hk2] at hk
                  have hk3 : B.xs[off + k]? = some x := by
                    rw [← hxr, List.getElem?_take] at hk
                    split at hk
                    · rwa [List.getElem?_drop] at hk
                    · cases hk
                  obtain ⟨c, g1, g2⟩ := q6 (off + k) j x v hk3 hj
                  rw [hbe] at g1
                  have hlt : k * te.size + j < xs.length * te.size := by
                    have : (k + 1) * te.size ≤ xs.length * te.size := Nat.mul_le_mul_right _ hk2
                    rw [Nat.add_mul, Nat.one_mul] at this
                    omega
                  refine ⟨c, ?_, noRowT g2 (noT_at hxt hk hj)⟩
                  rw [hov2, if_neg (by omega), ← g1, Nat.add_mul]
                  congr 1; omega
                · rw [List.getElem?_append_right hk2] at hk
                  obtain ⟨c, g1, g2⟩ := hnv (k - xs.length) j x v hk hj
                  have e : o' + off * te.size + k * te.size + j = o' + off * te.size + xs.length * te.size + ((k - xs.length) * te.size + j) := by
                    rw [Nat.sub_mul]
                    have : xs.length * te.size ≤ k * te.size := Nat.mul_le_mul_right _ hk2
                    omega
                  have hgl := (List.getElem?_eq_some_iff.1 g1).1
                  refine ⟨c, ?_, g2⟩
                  rw [e, hov2, if_pos ⟨by omega, by omega⟩, Nat.add_sub_cancel_left]
                  exact g1)
              refine ⟨.slice (some ⟨b, o' + off * B.es, none⟩) (xs.length + ys.length) cap, _, _, _, ?_, hfin, ?_⟩
              · rw [hrun]
                simp only
                rw [add_plain, hbe]
                simp only [Sem.run_bind, hst, Result.andThen_ok, Sem.run_pure]
                rfl
              · refine .own _ _ _ _ _ _ _ _ rfl (by show S.nv nid < updE S.nv nid (S.nv nid + 1) nid; rw [updE_same]; omega) hroom hc2 fun B2 hB2 _ => ?_
                have h' : updE (updE S.H id none) nid (some ⟨S.nv nid, te.size, xs ++ ys⟩) nid = some B2 := hB2
                rw [updE_same] at h'
                cases h'
                refine ⟨by simp, .inr ⟨b, o' + off * te.size, n' - off, updE_same _ _ _, by rw [hbe]; simp, by omega⟩⟩
            · cases hxr
      | row ob es zs =>
        cases hu with
        | c hu =>
          cases hu with
          | row p o es xs0 A0 n0 cap0 b off cs hn hcap hmax hA hT0 hx0 hcc hrr =>
            cases ob with
            | true =>
              obtain ⟨_, hp, _⟩ := hT0 rfl h0
              exact absurd rfl hp
            | false => cases zs <;> cases hbase
      | _ => cases hbase
end

def esB (S : St) (es : Nat) : V → Bool
  | .row _ e _ => Nat.beq e es
  | .own id _ _ _ => match S.H id with | some B => Nat.beq B.es es | none => false
  | _ => false
theorem esB_is {S : St} {es : Nat} {v : V} (h : esB S es v = true) : esIs S es v := by
  cases v with
  | row o e xs => exact Nat.eq_of_beq_eq_true h
  | own id ver off len =>
    intro B hB
    simp only [esB, hB] at h
    exact Nat.eq_of_beq_eq_true h
  | _ => trivial
theorem setH_append (H : Nat → Option Blk) (l r : List (Nat × Option Blk)) : setH H (l ++ r) = setH (setH H l) r := by
  induction l generalizing H with
  | nil => rfl
  | cons p l ih => exact ih _

theorem sAp {F : Fr} {S : St} {o : Oper} {T : Tab} {x y : Operand} {t e : Nat} (h : o.op = .call { callee := .builtin .append, args := #[x, y], argTypes := #[t, t] }) (nid : Nat) (shx shy : List Nat) {ti te : TI} {u v : V} {xs ys : List (List V)} (hx : S.val shx x = .c u) (hy : S.val shy y = .c v) (ht : tg T t = some ti) (hk : ti.k = .slice e) (he : tg T e = some te)
    (hxr : rowsOf S u = some xs) (hyr : rowsOf S v = some ys) (hn : Nat.ble 100 nid = true) (hbase : isBase u = true) (hpos : Nat.blt 0 te.size = true) (hzl : te.zero.length = te.size) (hxe : esB S te.size u = true) (hye : esB S te.size v = true) (hxt : noT xs = true) (hyt : noT ys = true) (hb : (xs.length + ys.length) * te.bytes ≤ 140737488355328 ∧ xs.length + ys.length ≤ maxLen) :
    St1 F T o S { v := .c (.own nid (S.nv nid) 0 (xs.length + ys.length)), upd := (idOf u).map (fun i => (i, none)) ++ [(nid, some ⟨S.nv nid, te.size, xs ++ ys⟩)], bump := [nid], use := opTmps [x, y], ids := nid :: (idOf u ++ idOf v) } := by
  intro henv hd S' h1 h2 a w hs
  obtain ⟨hdf, hsz, σ, β, hs⟩ := hs
  have hnv : S'.nv nid = S.nv nid := (h2 nid (by simp)).2
  have hH : ∀ i, i ∈ idOf u ++ idOf v → S'.H i = S.H i := fun i hi => (h2 i (List.mem_cons_of_mem _ hi)).1
  have hx' : S'.val shx x = .c u := by rw [val_congr (l := [x, y]) (by simp) (fun t ht => h1 t ht), hx]
  have hy' : S'.val shy y = .c v := by rw [val_congr (l := [x, y]) (by simp) (fun t ht => h1 t ht), hy]
  have g1 := val_ok hs shx x
  have g2 := val_ok hs shy y
  rw [hx'] at g1
  rw [hy'] at g2
  have hr : ∀ z, (∀ i ∈ idOf z, S'.H i = S.H i) → rowsOf S' z = rowsOf S z ∧ esB S' te.size z = esB S te.size z := by
    intro z hz
    cases z with
    | own id ver off len =>
      have := hz id (by simp [idOf])
      simp only [rowsOf, esB, this]
      exact ⟨trivial, trivial⟩
    | _ => exact ⟨rfl, rfl⟩
  obtain ⟨r1, r2⟩ := hr u (fun i hi => hH i (List.mem_append_left _ hi))
  obtain ⟨r3, r4⟩ := hr v (fun i hi => hH i (List.mem_append_right _ hi))
  obtain ⟨c, w', σ', β', hrun, hfin, hres⟩ := app_main (ty := o.type) henv.tab hdf hsz hs ht hk he (Nat.le_of_ble_eq_true hpos) hzl (inv_c g1) (inv_c g2) (r1.trans hxr) (r3.trans hyr) hbase (esB_is (r2.trans hxe)) (esB_is (r4.trans hye)) hxt hyt hb.1 hb.2 nid (Nat.le_trans henv.m (Nat.le_of_ble_eq_true hn))
  refine .inl ⟨c, w', ?_, by rw [put_defers]; exact hdf, by rw [put_tmps_size]; exact hsz, σ', β', ?_⟩
  · have hop : (execOp a.eval o) = (do let d ← resolve a.eval ⟨.builtin .append, #[x, y], #[t, t]⟩ o.type; invoke d.target d.args) := by simp only [execOp, h]
    rw [hop]
    simp only [resolve, Sem.run_bind, Sem.run_pure, Result.andThen_ok, invoke, builtin]
    have e2 : (Array.map a.eval #[x, y]) = #[a.eval x, a.eval y] := by simp
    rw [e2, hrun]
    rfl
  · have := hfin.putT hsz hd (.c hres)
    have e : S'.app o.dst { v := .c (.own nid (S.nv nid) 0 (xs.length + ys.length)), upd := (idOf u).map (fun i => (i, none)) ++ [(nid, some ⟨S.nv nid, te.size, xs ++ ys⟩)], bump := [nid], use := opTmps [x, y], ids := nid :: (idOf u ++ idOf v) } =
        (⟨S'.env, updE (setH S'.H ((idOf u).map fun i => (i, none))) nid (some ⟨S'.nv nid, te.size, xs ++ ys⟩), updE S'.nv nid (S'.nv nid + 1)⟩ : St).put o.dst (.c (.own nid (S'.nv nid) 0 (xs.length + ys.length))) := by
      unfold St.app St.put
      simp only [setH_append, ← hnv]
      rfl
    rw [e]
    exact this
end Go.Eng
