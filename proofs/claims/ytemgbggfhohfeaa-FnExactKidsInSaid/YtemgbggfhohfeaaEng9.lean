/- Stores; slices that are made: literals, make, append; copy, clear. -/
import Derived.Test.YtemgbggfhohfeaaEng8
import Derived.ArgAppend
import Derived.Laws.MakeOwn
set_option linter.unusedVariables false
set_option linter.unusedSimpArgs false
namespace Go.Eng
section
variable {F : Fr} {S : St} {a : Act} {w : World} {σ : Nat → List Nat} {β : Nat → Option (Nat × Nat × Nat)}

def St.upd (S : St) (id : Nat) (B : Blk) : St := ⟨S.env, updE S.H id (some B), S.nv⟩

/-- A block's content is another one, in place. -/
theorem RSx.write (hs : RSx F S a w σ β) {id : Nat} {B : Blk} (hB : S.H id = some B) {b o n : Nat} (hb : β id = some (b, o, n)) {arr arr' : Array Value} {T : TypeId} (hh : w.heap[b]? = some (.cells arr T (0, 0))) (hsz : arr'.size = arr.size)
    {xs' : List (List V)} (hlen : xs'.length = B.xs.length) (hes : ∀ x ∈ xs', x.length = B.es) (hl : ∀ (k j : Nat) x v, xs'[k]? = some x → x[j]? = some v → ∃ c, arr'[o + k * B.es + j]? = some c ∧ RV (S.cx w σ β) [id, k, j] v c) :
    RSx F (S.upd id ⟨B.ver, B.es, xs'⟩) a (w.setRow b arr') σ β := by
  obtain ⟨hver, hBR⟩ := hs.hr.blk id B hB
  obtain ⟨hσ, hes0, hn, arr0, T0, hh0, hsz0, hc0⟩ := hBR.some hb
  have e0 : arr0 = arr ∧ T0 = T := by
    have h1 : w.heap[b]? = some (.cells arr0 T0 (0, 0)) := hh0
    rw [hh] at h1
    simp only [Option.some.injEq, Obj.cells.injEq, and_true] at h1
    exact ⟨h1.1.symm, h1.2.symm⟩
  obtain ⟨rfl, rfl⟩ := e0
  have hother : ∀ b', b' ≠ b → (w.setRow b arr').heap[b']? = w.heap[b']? := fun b' h => setRow_other w b b' arr' h
  have hnear : ∀ p, ¬ (p ≠ [] ∧ p <+: [id]) → Near w σ (w.setRow b arr') σ p := by
    intro p hp b' _ hc
    refine ⟨hother b' (fun e => ?_), rfl⟩
    subst e
    have h1 : σ b' = [id] := hσ
    rw [h1] at hc
    rcases hc with hc | hc
    · cases hc
    · exact hp hc
  have hext : Ext (S.cx w σ β) ((S.upd id ⟨B.ver, B.es, xs'⟩).cx (w.setRow b arr') σ β) := by
    refine ⟨fun i => Nat.le_refl _, fun i B' h _ => ?_⟩
    have h' : updE S.H id (some ⟨B.ver, B.es, xs'⟩) i = some B' := h
    by_cases e : i = id
    · subst e
      rw [updE_same] at h'
      cases h'
      exact ⟨B, hB, rfl, rfl, hlen.symm, rfl⟩
    · rw [updE_other _ _ e] at h'
      exact ⟨B', h', rfl, rfl, rfl, rfl⟩
  have hid0 : id ≠ 0 := by rintro rfl; have h0 : S.H 0 = none := hs.hr.far; rw [h0] at hB; cases hB
  refine ⟨⟨(updE_other _ _ (fun h => hid0 h.symm)).trans hs.hr.far, fun i B' h => ?_, fun b' hb' => ?_⟩, hs.mpos, ⟨hs.kp.os, hs.kp.tape, hs.kp.output, ?_, fun b' hb' h0 => ?_, hs.kp.free⟩, hs.inn, fun t => (hs.env t).mono hext (hnear [] (by simp))⟩
  · have h' : updE S.H id (some ⟨B.ver, B.es, xs'⟩) i = some B' := h
    by_cases e : i = id
    · subst e
      rw [updE_same] at h'
      cases h'
      refine ⟨hver, BR.mk hb ⟨hσ, hes, by rw [hlen]; exact hn, arr', T0, setRow_heap w b arr0 arr' T0 (0, 0) hh, by rw [hsz]; exact hsz0, fun k j x v hk hj => ?_⟩⟩
      obtain ⟨c, h1, h2⟩ := hl k j x v hk hj
      exact ⟨c, h1, h2.mono hext (hnear _ (fun hp => by have := hp.2.length_le; simp at this))⟩
    · rw [updE_other _ _ e] at h'
      obtain ⟨h1, h2⟩ := hs.hr.blk i B' h'
      refine ⟨h1, h2.mono hext rfl (hnear [i] (fun hp => ?_))⟩
      have := hp.2
      simp at this
      exact e this
  · exact hs.hr.new b' (by have : (w.setRow b arr').heap.size ≤ b' := hb'; rw [setRow_size] at this; exact this)
  · rw [setRow_size]; exact hs.kp.size
  · rw [hother b' (fun e => ?_)]
    · exact hs.kp.heap b' hb' h0
    · subst e
      have := hs.kp.free b' hb' h0
      have h1 : σ b' = [id] := hσ
      rw [h1] at this
      rw [← this] at h0
      rcases h0 with h0 | h0
      · cases h0
      · exact hid0 (by simpa using h0)

theorem RV.one {E : Cx} {p : List Nat} {v : V} {c : Value} (h : RV E p v c) (h1 : v ≠ .undef) (h2 : v ≠ .skip) : c.oneCell' = true := by
  cases h with
  | c h => cases h <;> rfl
  | own => rfl
  | ptr => rfl
  | ip => rfl
  | fn => rfl
  | skip => exact absurd rfl h2
  | undef => exact absurd rfl h1

/-- Every cell holds something. -/
def okCells (cs : List V) : Bool := cs.all fun v => match v with | .undef => false | .skip => false | _ => true
theorem okCells.at_ {cs : List V} (h : okCells cs = true) {i : Nat} {v : V} (hi : cs[i]? = some v) : v ≠ .undef ∧ v ≠ .skip := by
  have := List.all_eq_true.1 h v (List.mem_of_getElem? hi)
  constructor <;> rintro rfl <;> simp at this

theorem Cells.vals {E : Cx} {cs : List V} {arr : Array Value} (h : Cells E cs arr) (hok : okCells cs = true) : ∀ v ∈ arr.toList, v.oneCell' = true := by
  intro v hv
  obtain ⟨i, hi⟩ := List.mem_iff_getElem?.1 hv
  have hlt : i < cs.length := by rw [← h.1]; simpa using (List.getElem?_eq_some_iff.1 hi).1
  obtain ⟨c, h1, h2⟩ := h.2 i cs[i] (List.getElem?_eq_getElem hlt)
  have : c = v := by
    have h3 : arr[i]? = some v := by simpa using hi
    rw [h1] at h3
    exact Option.some.inj h3
  subst this
  obtain ⟨q1, q2⟩ := okCells.at_ hok (List.getElem?_eq_getElem hlt)
  exact h2.one q1 q2

/-- vs over the cells from i on. -/
def over (arr : Array Value) (i : Nat) (vs : List Value) : Array Value := (arr.toList.take i ++ vs ++ arr.toList.drop (i + vs.length)).toArray
theorem over_size {arr : Array Value} {i : Nat} {vs : List Value} (h : i + vs.length ≤ arr.size) : (over arr i vs).size = arr.size := by
  simp [over]; omega
theorem over_at {arr : Array Value} {i : Nat} {vs : List Value} (h : i + vs.length ≤ arr.size) (k : Nat) : (over arr i vs)[k]? = if i ≤ k ∧ k < i + vs.length then vs[k - i]? else arr[k]? := by
  unfold over
  rw [List.getElem?_toArray]
  have hl : (arr.toList.take i).length = i := by simp; omega
  rcases Nat.lt_or_ge k i with h1 | h1
  · rw [if_neg (by omega), List.append_assoc, List.getElem?_append_left (by omega), List.getElem?_take, if_pos h1, Array.getElem?_toList]
  · rw [List.append_assoc, List.getElem?_append_right (by omega), hl]
    rcases Nat.lt_or_ge k (i + vs.length) with h2 | h2
    · rw [if_pos ⟨h1, h2⟩, List.getElem?_append_left (by omega)]
    · rw [if_neg (by omega), List.getElem?_append_right (by omega), List.getElem?_drop, Array.getElem?_toList]
      congr 1; omega
end

section
variable {F : Fr} {S : St} {o : Oper} {T : Tab}

theorem setL_at (xs : List (List V)) (k : Nat) (y : List V) (i : Nat) : (xs.set k y)[i]? = if i = k then (if k < xs.length then some y else none) else xs[i]? := by
  rw [List.getElem?_set]
  by_cases e : k = i
  · subst e; simp
  · rw [if_neg e, if_neg (fun h => e h.symm)]

theorem step_store (hT : TabOk F.P T) {t : TypeId} {x y : Operand} (h : o.op = .store t x y) (hd : o.dst = none) {ti : TI} (ht : tg T t = some ti) {id ver k j : Nat} (hx : S.val [] x = .c (.ptr id ver k j)) (sh : List Nat) {u : A} (hy : S.val sh y = u) (hu : okPart u = true) (huc : okCells u.cells = true) (hul : u.cells.length = ti.size)
    {B : Blk} (hB : S.H id = some B) (hver : B.ver = ver) {row : List V} (hr : B.xs[k]? = some row) (hj : j + ti.size ≤ row.length) :
    StepL F o S { v := .c .undef, upd := [(id, some ⟨B.ver, B.es, B.xs.set k (putL row j u.cells)⟩)], use := opTmps [x, y], ids := [id] } := by
  intro S' h1 h2 a w hs
  obtain ⟨hdf, hsz, σ, β, hs⟩ := hs
  have hx' : S'.val [] x = .c (.ptr id ver k j) := by rw [val_congr (l := [x, y]) (by simp) (fun t ht => h1 t ht), hx]
  have hy' : S'.val sh y = u := by rw [val_congr (l := [x, y]) (by simp) (fun t ht => h1 t ht), hy]
  have hB' : S'.H id = some B := by rw [(h2 id (by simp)).1, hB]
  have g1 := val_ok hs [] x
  have g2 := val_ok hs sh y
  rw [hx'] at g1
  rw [hy'] at g2
  obtain ⟨ad, e, hv, ha⟩ := inv_ptr g1
  obtain ⟨b, o', n, e1, rfl⟩ := ha B hB' hver
  obtain ⟨hσ, hes, hl, arr, T', hh, hsza, hc⟩ := (hs.hr.blk id B hB').2.some e1
  have hcs := okPart.cells g2 hu
  have hrl : row.length = B.es := hes row (List.mem_of_getElem? hr)
  have hkl : k < B.xs.length := (List.getElem?_eq_some_iff.1 hr).1
  have hbound : o' + k * B.es + j + (a.eval y).cells.toList.length ≤ arr.size := by
    have h3 : (k + 1) * B.es ≤ n * B.es := Nat.mul_le_mul_right _ (by omega)
    rw [Nat.add_mul, Nat.one_mul] at h3
    have h4 : (a.eval y).cells.toList.length = u.cells.length := by simpa using hcs.1
    omega
  have hrun := run_storeCells_at F.P b (o' + k * B.es + j) T' (a.eval y).cells.toList 0 arr w hh (by simpa using hbound) (hcs.vals huc)
  have hsize := (hT.ty ht).sizeOf w
  have hover : (arr.toList.take (o' + k * B.es + j + 0) ++ (a.eval y).cells.toList ++ arr.toList.drop (o' + k * B.es + j + 0 + (a.eval y).cells.toList.length)).toArray = over arr (o' + k * B.es + j) (a.eval y).cells.toList := by simp [over]
  rw [hover] at hrun
  have hcl : (a.eval y).cells.toList.length = u.cells.length := by simpa using hcs.1
  have hw := hs.write hB' e1 hh (over_size hbound) (xs' := B.xs.set k (putL row j u.cells)) (by simp) (fun x hx => by
      rcases List.mem_or_eq_of_mem_set hx with hx | hx
      · exact hes x hx
      · rw [hx, putL_len (by omega)]; exact hrl) (fun k' j' x v hk' hj' => by
      rw [setL_at] at hk'
      by_cases ek : k' = k
      · subst ek
        rw [if_pos rfl, if_pos hkl] at hk'
        cases hk'
        have hj'l : j' < row.length := by
          have := (List.getElem?_eq_some_iff.1 hj').1
          rwa [putL_len (by omega)] at this
        rw [putL_at (by omega)] at hj'
        rw [over_at hbound]
        split at hj'
        · rename_i hin
          obtain ⟨c, c1, c2⟩ := hcs.2 (j' - j) v hj'
          refine ⟨c, ?_, c2.any _⟩
          rw [if_pos (by omega), Array.getElem?_toList, ← c1]
          congr 1; omega
        · rename_i hin
          obtain ⟨c, c1, c2⟩ := hc k' j' row v hr hj'
          refine ⟨c, ?_, c2⟩
          rw [if_neg (by omega)]; exact c1
      · rw [if_neg ek] at hk'
        obtain ⟨c, c1, c2⟩ := hc k' j' x v hk' hj'
        refine ⟨c, ?_, c2⟩
        rw [over_at hbound, if_neg]
        · exact c1
        · have hj'l : j' < B.es := by rw [← hes x (List.mem_of_getElem? hk')]; exact (List.getElem?_eq_some_iff.1 hj').1
          intro hin
          rcases Nat.lt_or_ge k' k with hlt | hge
          · have h3 : (k' + 1) * B.es ≤ k * B.es := Nat.mul_le_mul_right _ hlt
            rw [Nat.add_mul, Nat.one_mul] at h3
            omega
          · have h3 : (k + 1) * B.es ≤ k' * B.es := Nat.mul_le_mul_right _ (by omega)
            rw [Nat.add_mul, Nat.one_mul] at h3
            omega)
  refine .inr (.inl ⟨w.setRow b (over arr (o' + k * B.es + j) (a.eval y).cells.toList), ?_, by rw [put_defers]; exact hdf, by rw [put_tmps_size]; exact hsz, σ, β, ?_⟩)
  · have hsz' : (a.eval y).cells.size = ti.size := by rw [hcs.1, hul]
    simp [execOp, h, e, Instr.storeAt, Instr.sureAddr, storeVar, hsize, hsz', hrun]
  · rw [hd]
    exact hw

/-! ### Slice literals -/
def chop (es : Nat) : Nat → List V → List (List V)
  | 0, _ => []
  | n + 1, l => l.take es :: chop es n (l.drop es)
theorem chop_len (es n : Nat) (l : List V) : (chop es n l).length = n := by
  induction n generalizing l with
  | zero => rfl
  | succ n ih => simp [chop, ih]
theorem chop_at (es : Nat) : ∀ (n : Nat) (l : List V) (k : Nat) (x : List V), l.length = n * es → (chop es n l)[k]? = some x → x.length = es ∧ ∀ (j : Nat) v, x[j]? = some v → l[k * es + j]? = some v := by
  intro n
  induction n with
  | zero => intro l k x _ h; simp [chop] at h
  | succ n ih =>
    intro l k x hl h
    rw [Nat.add_mul, Nat.one_mul] at hl
    cases k with
    | zero =>
      simp only [chop, List.getElem?_cons_zero, Option.some.injEq] at h
      subst h
      refine ⟨by simp; omega, fun j v hj => ?_⟩
      rw [List.getElem?_take] at hj
      split at hj
      · simpa using hj
      · cases hj
    | succ k =>
      simp only [chop, List.getElem?_cons_succ] at h
      obtain ⟨h1, h2⟩ := ih (l.drop es) k x (by simp; omega) h
      refine ⟨h1, fun j v hj => ?_⟩
      have := h2 j v hj
      rw [List.getElem?_drop] at this
      rw [← this]; congr 1
      rw [Nat.add_mul, Nat.one_mul]; omega
theorem chop_laid {E : Cx} {es n : Nat} {cs : List V} {arr : Array Value} (h : Cells E cs arr) (hl : cs.length = n * es) : Laid E es (chop es n cs) arr := by
  refine ⟨fun x hx => ?_, fun k j x v hk hj => ?_⟩
  · obtain ⟨k, hk⟩ := List.mem_iff_getElem?.1 hx
    exact (chop_at es n cs k x hl hk).1
  · exact h.2 _ v ((chop_at es n cs k x hl hk).2 j v hj)

def repV (n : Nat) (z : List V) : List V := (List.replicate n z).flatten
theorem repV_len (n : Nat) (z : List V) : (repV n z).length = n * z.length := by simp [repV]
theorem rep_at {α : Type} (z : List α) (hz : 0 < z.length) : ∀ (n i : Nat), i < n * z.length → ((List.replicate n z).flatten)[i]? = z[i % z.length]? := by
  intro n
  induction n with
  | zero => intro i h; omega
  | succ n ih =>
    intro i h
    rw [List.replicate_succ, List.flatten_cons]
    rcases Nat.lt_or_ge i z.length with h1 | h1
    · rw [List.getElem?_append_left h1, Nat.mod_eq_of_lt h1]
    · rw [List.getElem?_append_right h1, ih (i - z.length) (by rw [Nat.add_mul, Nat.one_mul] at h; omega), Nat.mod_eq_sub_mod h1]

theorem rep_cells {E : Cx} {z : List V} {cs : Array Value} (hz : Cells E z cs) (hpos : 0 < cs.size) (n m : Nat) (hm : m = n * cs.size) : Cells E (repV n z) ((Array.range m).map (cs[· % cs.size]!)) := by
  have hzl : z.length = cs.size := hz.1.symm
  refine ⟨by simp [repV_len, hzl, hm], fun i v hi => ?_⟩
  have hlt : i < n * z.length := by
    have := (List.getElem?_eq_some_iff.1 hi).1
    rwa [repV_len] at this
  unfold repV at hi
  rw [rep_at z (by omega) n i hlt] at hi
  obtain ⟨c, c1, c2⟩ := hz.2 _ v hi
  refine ⟨c, ?_, c2⟩
  have hml : i < m := by rw [hm, ← hzl]; exact hlt
  simp only [Array.getElem?_map, Array.getElem?_range, hml, if_true, Option.map_some]
  rw [hzl] at c1
  rw [getElem!_def, c1]

theorem step_buildSlice (hT : TabOk F.P T) {t : TypeId} {n : Nat} {parts : Array (Nat × Operand)} (h : o.op = .buildSlice t n parts) (hd : ∀ d, o.dst = some d → d < F.N) {ti te : TI} {e : Nat} (ht : tg T t = some ti) (hk : ti.k = .slice e) (he : tg T e = some te) (hpos : 0 < te.size) (hzl : te.zero.length = te.size) (hsmall : n * te.size ≤ 16777216)
    {l : List (Nat × A)} (hl : l.length = parts.size) (hp : ∀ (q i : Nat) (x : A), l[q]? = some (i, x) → okPart x = true ∧ ∃ y sh, parts[q]? = some (i, y) ∧ S.val sh y = x) {out : List V} (hf : fillV (fun i => some (i * te.size, te.size)) (repV n te.zero) l = some out) (id : Nat) (hid : F.m ≤ id) :
    StepL F o S { v := .c (.own id (S.nv id) 0 n), upd := [(id, some ⟨S.nv id, te.size, chop te.size n out⟩)], bump := [id], use := opTmps (parts.toList.map (·.2)), ids := [id] } := by
  intro S' h1 h2 a w hs
  obtain ⟨hdf, hsz, σ, β, hs⟩ := hs
  have hnv : S'.nv id = S.nv id := (h2 id (by simp)).2
  obtain ⟨z, hz, hzc, hz1⟩ := (hT.ty he).zero w
  obtain ⟨c1, c2⟩ := zero_cells (E := S'.cx w σ β) hzc
  have hcz : Cells (S'.cx w σ β) te.zero z.cells := ⟨by simpa using c1.symm, fun i v hi => by simpa using c2 i v hi⟩
  have hzs : z.cells.size = te.size := by rw [hcz.1, hzl]
  have u1 := (hT.ty ht).slice hk
  have hsize := (hT.ty he).sizeOf w
  obtain ⟨brr, g1, g2⟩ := fill_cells (E := S'.cx w σ β) (fun i => some (i * te.size, te.size)) l ((parts.map fun (i, x) => (i, a.eval x)).toList) (repV n te.zero) ((Array.range (n * te.size)).map (z.cells[· % z.cells.size]!)) out (by simp [hl]) (fun q i x hq => by
    obtain ⟨a1, y, sh, a2, a3⟩ := hp q i x hq
    refine ⟨a1, a.eval y, by simp [a2], ?_⟩
    rw [← a3, ← val_congr (S := S) (S' := S') (l := parts.toList.map (·.2)) (List.mem_map.2 ⟨(i, y), List.mem_of_getElem? (by simpa using a2), rfl⟩) (fun t ht => h1 t ht)]
    exact val_ok hs sh y) (rep_cells hcz (by omega) n _ (by rw [hzs])) hf
  have hol : out.length = n * te.size := by
    have hfl : ∀ (l : List (Nat × A)) (cs out : List V), fillV (fun i => some (i * te.size, te.size)) cs l = some out → out.length = cs.length := by
      intro l
      induction l with
      | nil => intro cs out h; simp only [fillV, Option.some.injEq] at h; rw [h]
      | cons y r ih =>
        obtain ⟨i, x⟩ := y
        intro cs out h
        rw [fillV] at h
        simp only at h
        split at h
        · rename_i hcond
          rw [ih _ _ h, putL_len (by rw [hcond.1]; exact hcond.2)]
        · cases h
    rw [hfl _ _ _ hf, repV_len, hzl]
  have hlaid := chop_laid g2 hol
  have := hs.alloc hid (es := te.size) (n := n) (xs := chop te.size n out) e hlaid (by rw [chop_len]; exact Nat.le_refl _) (by rw [g2.1, hol]; exact Nat.le_refl _)
  have hmax : n ≤ maxLen := by
    have : n ≤ n * te.size := Nat.le_mul_of_pos_right _ hpos
    simp only [maxLen]; omega
  refine .inl ⟨.slice (some ⟨w.heap.size, 0, none⟩) n n, World.push w brr e, ?_, by rw [put_defers]; exact hdf, by rw [put_tmps_size]; exact hsz, updE σ w.heap.size [id], updE β id (some (w.heap.size, 0, n)), ?_⟩
  · have hns : ¬ n * te.size > 16777216 := by omega
    have g1' : Instr.fill (fun i => some (i * te.size, te.size)) ((Array.range (n * te.size)).map (z.cells[· % z.cells.size]!)) (parts.map fun (i, x) => (i, a.eval x)).toList = some brr := g1
    by_cases h0 : n * te.size = 0
    · have hn0 : n = 0 := by
        rcases Nat.mul_eq_zero.1 h0 with h | h
        · exact h
        · omega
      subst hn0
      have r0 : ∀ (f : Nat → Value), (Array.range 0).map f = #[] := fun f => by apply Array.ext <;> simp
      have g0 : Instr.fill (fun i => some (i * te.size, te.size)) #[] (parts.map fun (i, x) => (i, a.eval x)).toList = some brr := by
        rw [← g1', Nat.zero_mul, r0]
      simp only [execOp, h, Instr.buildSlice, Sem.run_bind, run_underlying u1, Result.andThen_ok, hsize, h0, Nat.not_lt_zero, gt_iff_lt, if_false, if_true, Sem.run_pure, r0, g0]
      simp [newRow, World.push]
    · simp only [execOp, h, Instr.buildSlice, Sem.run_bind, run_underlying u1, Result.andThen_ok, hsize]
      rw [if_neg hns]
      simp only [h0, if_false, Sem.run_bind, Sem.run_pure, Result.andThen_ok, hz, g1']
      simp [newRow, World.push]
  · rw [app_set, ← hnv]
    have hov := own_new (S := S') id te.size n (chop te.size n out) (World.push w brr e) (updE σ w.heap.size [id]) β w.heap.size (by rw [chop_len]; exact Nat.le_refl _) hmax
    rw [chop_len] at hov
    exact this.putT hsz hd (.c hov)
end
end Go.Eng
