/- Own slices whose elements hold slices: fd tells an element with what it owns, f with what is read alone. -/
import Derived.Test.YtemgbggfhohfeaaEng29
set_option linter.unusedVariables false
set_option linter.unusedSimpArgs false
namespace Go.Eng

structure EnD {α : Type} (fd f : α → List V) (es : Nat) : Prop where
  len : ∀ a, (fd a).length = es
  closed : ∀ a, (fd a).all V.closed = true
  share : ∀ a, shareL (fd a) = f a
section
variable {α : Type} {fd f : α → List V} {es : Nat}
theorem EnD.allClosed (h : EnD fd f es) (ver e : Nat) (l : List α) : Go.Eng.allClosed ⟨ver, e, l.map fd⟩ = true := by
  simp only [Go.Eng.allClosed, List.all_map, List.all_eq_true]
  intro a _
  exact h.closed a
theorem EnD.shareLL (h : EnD fd f es) (l : List α) : Go.Eng.shareLL (l.map fd) = l.map f := by
  rw [shareLL_map, List.map_map]
  refine List.map_congr_left fun a _ => ?_
  show List.map V.share (fd a) = f a
  rw [← shareL_map]; exact h.share a
theorem closed_low {l : List V} (h : l.all V.closed = true) (lent : Bool) (io : List Nat) (H : Nat → Option Blk) : l.map (V.low lent io H) = l := by
  refine map_same fun v hv => ?_
  have h2 := List.all_eq_true.1 h v hv
  cases v <;> first | rfl | (simp [V.closed] at h2)
theorem closed_back {l : List V} (h : l.all V.closed = true) (outs : List Nat) (ν : Nat → Nat) : l.map (V.back false outs ν) = l := by
  refine map_same fun v hv => ?_
  have h2 := List.all_eq_true.1 h v hv
  cases v <;> first | rfl | (simp [V.closed] at h2)
theorem EnD.lowB_at (h : EnD fd f es) (lent : Bool) (io : List Nat) (H : Nat → Option Blk) (ver : Nat) (l : List α) : lowB lent io H ⟨ver, es, l.map fd⟩ = ⟨0, es, l.map fd⟩ := by
  unfold lowB
  congr 1
  rw [List.map_map]
  exact List.map_congr_left fun a _ => closed_low (h.closed a) _ _ _
theorem EnD.back (h : EnD fd f es) (outs : List Nat) (ν : Nat → Nat) (l : List α) : (l.map fd).map (fun x => x.map (V.back false outs ν)) = l.map fd := by
  rw [List.map_map]
  exact List.map_congr_left fun a _ => closed_back (h.closed a) _ _
theorem low_lentVD {H : Nat → Option Blk} {io : List Nat} {l : List α} {id ver n : Nat} (h : EnD fd f es) (hn : n = l.length) (hB : H id = some ⟨ver, es, l.map fd⟩) (hp : posOf io id = none) : V.low true io H (.own id ver 0 n) = .row false es (l.map f) := by
  subst hn
  show V.low1 true io H (.own id ver 0 l.length) = _
  simp only [V.low1, hB, if_true, hp, h.allClosed _ _ l, Bool.and_self, rowOf, List.drop_zero]
  have : (l.map fd).take l.length = l.map fd := by rw [← List.length_map (as := l) (f := fd), List.take_length]
  rw [this, h.shareLL]
theorem low_lentD {H : Nat → Option Blk} {io : List Nat} {l : List α} {id ver n : Nat} (h : EnD fd f es) (hn : n = l.length) (hB : H id = some ⟨ver, es, l.map fd⟩) (hp : posOf io id = none) : A.low true io H (.c (.own id ver 0 n)) = .c (.row false es (l.map f)) := congrArg (fun v : V => A.c v.cold) (low_lentVD h hn hB hp)
theorem low_lentCD {H : Nat → Option Blk} {io : List Nat} {l : List α} {id ver n : Nat} (h : EnD fd f es) (hn : n = l.length) (hB : H id = some ⟨ver, es, l.map fd⟩) (hp : posOf io id = none) : (V.low true io H (.own id ver 0 n)).cold = .row false es (l.map f) := congrArg V.cold (low_lentVD h hn hB hp)
end

section
variable {F : Fr} {T : Tab} {S : St} {o : Oper}
/-- make, of elements that hold slices. -/
theorem sMkD {t : Nat} {x y : Operand} (h : o.op = .makeSlice t x y) (id : Nat) {ti te : TI} {e : Nat} {kl kc : IntKind} {l c : Int} (hx : S.val [] x = .c (.int kl l)) (hy : S.val [] y = .c (.int kc c)) (ht : tg T t = some ti) (hk : ti.k = .slice e) (he : tg T e = some te) (hid : Nat.ble 100 id = true) (hpos : Nat.blt 0 te.size = true) (hzl : te.zero.length = te.size)
    (hb : 0 ≤ l ∧ l ≤ c ∧ (te.bytes : Int) * c ≤ 281474976710656 ∧ c ≤ 9223372036854775807) :
    St1 F T o S { v := .c (.own id (S.nv id) 0 l.toNat), upd := [(id, some ⟨S.nv id, te.size, List.replicate l.toNat te.zero⟩)], bump := [id], use := opTmps [x, y], ids := [id] } := by
  intro henv hd S' h1 h2 a w hs
  obtain ⟨hdf, hsz, σ, β, hs⟩ := hs
  obtain ⟨b1, b2, b3, b4⟩ := hb
  have hpos' : 0 < te.size := Nat.le_of_ble_eq_true hpos
  have hnv : S'.nv id = S.nv id := (h2 id (by simp)).2
  have g1 := val_ok hs [] x
  have g2 := val_ok hs [] y
  rw [vc h1 (by simp) hx] at g1
  rw [vc h1 (by simp) hy] at g2
  have e1 := inv_int g1
  have e2 := inv_int g2
  have hT := henv.tab
  obtain ⟨inf, i1, i2, i3, z, i4, i5, _⟩ := (hT.ty he).inf
  obtain ⟨c1, c2⟩ := zero_cells (E := S'.cx w σ β) i5
  have hcz : Cells (S'.cx w σ β) te.zero z.cells := ⟨by simpa using c1.symm, fun i v hi => by simpa using c2 i v hi⟩
  have hzs : z.cells.size = te.size := by rw [hcz.1, hzl]
  have u1 := (hT.ty ht).slice hk
  have hrun := run_make (P := F.P) w t e inf z u1 i1 i4 kl kc l c b1 b2 (by rw [i3]; exact b3) b4
  have hlaid : Laid (S'.cx w σ β) te.size (List.replicate l.toNat te.zero) (madeCells z.cells (c.toNat * inf.size)) := by
    refine ⟨fun x hx => by rw [(List.mem_replicate.1 hx).2, hzl], fun k j x v hk hj => ?_⟩
    have hkl : k < l.toNat := by have := (List.getElem?_eq_some_iff.1 hk).1; simpa using this
    have hxz : x = te.zero := by
      have := List.mem_of_getElem? hk
      exact (List.mem_replicate.1 this).2
    subst hxz
    have hjl : j < te.size := by rw [← hzl]; exact (List.getElem?_eq_some_iff.1 hj).1
    obtain ⟨cc, q1, q2⟩ := hcz.2 j v hj
    refine ⟨cc, ?_, q2⟩
    have hlt : k * te.size + j < c.toNat * inf.size := by
      rw [i2]
      have h3 : (k + 1) * te.size ≤ c.toNat * te.size := Nat.mul_le_mul_right _ (by omega)
      rw [Nat.add_mul, Nat.one_mul] at h3
      omega
    have hmod : (k * te.size + j) % te.size = j := by rw [Nat.add_comm, Nat.add_mul_mod_self_right, Nat.mod_eq_of_lt hjl]
    simp only [madeCells]
    rw [Array.getElem?_map, Array.getElem?_range, if_pos hlt]
    simp only [Option.map_some]
    rw [hzs, hmod, getElem!_def, q1]
  have hmax : c.toNat ≤ maxLen := by simp only [maxLen]; omega
  have := hs.alloc (Nat.le_trans henv.m (Nat.le_of_ble_eq_true hid)) (es := te.size) (n := c.toNat) (xs := List.replicate l.toNat te.zero) e hlaid (by simp; omega) (by simp [madeCells, i2])
  refine .inl ⟨.slice (some ⟨w.heap.size, 0, none⟩) l.toNat c.toNat, World.push w (madeCells z.cells (c.toNat * inf.size)) e, ?_, by rw [put_defers]; exact hdf, by rw [put_tmps_size]; exact hsz, updE σ w.heap.size [id], updE β id (some (w.heap.size, 0, c.toNat)), ?_⟩
  · simp only [execOp, h, e1, e2, Sem.run_bind, hrun, Result.andThen_ok, Sem.run_pure]
    rfl
  · rw [app_set, ← hnv]
    have hov := own_new (S := S') id te.size c.toNat (List.replicate l.toNat te.zero) (World.push w (madeCells z.cells (c.toNat * inf.size)) e) (updE σ w.heap.size [id]) β w.heap.size (by simp; omega) hmax
    rw [List.length_replicate] at hov
    exact this.putT hsz hd (.c hov)
theorem sMkmD {α : Type} {t : Nat} {x y : Operand} (h : o.op = .makeSlice t x y) (id : Nat) {f : α → List V} (z : α) {ti te : TI} {e : Nat} {kl kc : IntKind} {l c : Int} (hx : S.val [] x = .c (.int kl l)) (hy : S.val [] y = .c (.int kc c)) (ht : tg T t = some ti) (hk : ti.k = .slice e) (he : tg T e = some te) (hz : te.zero = f z) (hid : Nat.ble 100 id = true) (hpos : Nat.blt 0 te.size = true) (hzl : te.zero.length = te.size)
    (hb : 0 ≤ l ∧ l ≤ c ∧ (te.bytes : Int) * c ≤ 281474976710656 ∧ c ≤ 9223372036854775807) :
    St1 F T o S { v := .c (.own id (S.nv id) 0 (List.replicate l.toNat z).length), upd := [(id, some ⟨S.nv id, te.size, (List.replicate l.toNat z).map f⟩)], bump := [id], use := opTmps [x, y], ids := [id] } := by
  have := sMkD (F := F) h id hx hy ht hk he hid hpos hzl hb
  rw [hz] at this
  rw [List.length_replicate, List.map_replicate]
  exact this
/-- A field of element i of an own slice is set. -/
theorem sSkf {α : Type} [Inhabited α] {t : TypeId} {x y : Operand} (h : o.op = .store t x y) (hd0 : o.dst = none) (sh : List Nat) {f : α → List V} (l : List α) (a : α) {ti : TI} {id ver j : Nat} {i : Int} (hi : 0 ≤ i ∧ i < l.length) {es : Nat} {u : A} (hy : S.val sh y = u) (hx : S.val [] x = .c (.ptr id ver i.toNat j)) (hB : S.H id = some ⟨ver, es, l.map f⟩) (ht : tg T t = some ti) (hu : okPart u = true) (huc : okCells u.cells = true) (hul : u.cells.length = ti.size)
    (hfl : Nat.ble (j + ti.size) (f (gt l i)).length = true) (hv : putL (f (gt l i)) j u.cells = f a) : St1 F T o S { v := .c .undef, upd := [(id, some ⟨ver, es, (l.set i.toNat a).map f⟩)], use := opTmps [x, y], ids := [id] } := by
  have := sSk (F := F) h hd0 sh hy hx (f (gt l i)) hB (gt_at f hi) rfl ht hu huc hul hfl
  rw [hv] at this
  rw [List.map_set]
  exact this
/-- A whole element that holds own slices is set: it is told as it is, till they are put in place. -/
theorem sSkn {α : Type} [Inhabited α] {t : TypeId} {x y : Operand} (h : o.op = .store t x y) (hd0 : o.dst = none) (sh : List Nat) {f : α → List V} (l : List α) {ti : TI} {id ver : Nat} {i : Int} (hi : 0 ≤ i ∧ i < l.length) {es : Nat} {u : A} (hy : S.val sh y = u) (hx : S.val [] x = .c (.ptr id ver i.toNat 0)) (hB : S.H id = some ⟨ver, es, l.map f⟩) (ht : tg T t = some ti) (hu : okPart u = true) (huc : okCells u.cells = true) (hul : u.cells.length = ti.size) (hfl : (f (gt l i)).length = ti.size) :
    St1 F T o S { v := .c .undef, upd := [(id, some ⟨ver, es, (l.map f).set i.toNat u.cells⟩)], use := opTmps [x, y], ids := [id] } := by
  have := sSk (F := F) h hd0 sh hy hx (f (gt l i)) hB (gt_at f hi) rfl ht hu huc hul (by rw [hfl, Nat.zero_add]; exact Nat.ble_self_eq_true ti.size)
  have e : putL (f (gt l i)) 0 u.cells = u.cells := by
    unfold putL
    simp only [List.take_zero, List.nil_append, Nat.zero_add]
    rw [List.drop_eq_nil_of_le (by rw [hul, hfl]; exact Nat.le_refl _), List.append_nil]
  rw [e] at this
  exact this
/-- A load from an element that is told as it is. -/
theorem sLnE {α : Type} [Inhabited α] {t : TypeId} {x : Operand} (h : o.op = .load t x) {f : α → List V} (l : List α) {ti : TI} {id ver : Nat} {i : Int} (hi : 0 ≤ i ∧ i < l.length) {j es : Nat} {y : List V} {u : A} (hx : S.val [] x = .c (.ptr id ver i.toNat j)) (hB : S.H id = some ⟨ver, es, (l.map f).set i.toNat y⟩) (ht : tg T t = some ti)
    (hj : Nat.ble (j + ti.size) y.length = true) (hw : wrapA ti.k.agg ((y.drop j).take ti.size) = some u) (hn : ((y.drop j).take ti.size).all (fun v => !isRowT v) = true) : St1 F T o S { v := u, use := opTmps [x], ids := [id] } :=
  sLk h hx ht hB rfl (by
    show ((l.map f).set i.toNat y)[i.toNat]? = some y
    rw [List.getElem?_set, if_pos rfl, if_pos (by rw [List.length_map]; omega)]) hj hw hn
end

section
variable {F : Fr} {T : Tab} {ops : Array Oper} {q : Nat} {S : St} {lo : List Oper} {Q : Exit → St → Prop}
/-- Field j of element i, a slice, is taken out as block nid. -/
theorem vTake {α β : Type} [Inhabited α] (he : Env F T) {fd : α → List V} {g : β → List V} (l : List α) (m : List β) (id nid j : Nat) {ver es e : Nat} {i : Int} (hi : 0 ≤ i ∧ i < (l.length : Int)) (hnid : Nat.ble 100 nid = true) (hne : Nat.beq id nid = false) (hB : S.H id = some ⟨ver, es, l.map fd⟩) (hj : (fd (gt l i))[j]? = some (.row true e (m.map g)))
    (k : VW F T ops q ⟨S.env, updE (updE S.H nid (some ⟨S.nv nid, e, m.map g⟩)) id (some ⟨ver, es, (l.map fd).set i.toNat ((fd (gt l i)).set j (.own nid (S.nv nid) 0 m.length))⟩), updE S.nv nid (S.nv nid + 1)⟩ lo Q) : VW F T ops q S lo Q := by
  intro he' hf hl a w
  rintro ⟨hd, hsz, σ, β, hs⟩
  have hne' : id ≠ nid := fun e => by subst e; simp at hne
  obtain ⟨σ', β', h⟩ := hs.takeN hB (gt_at fd hi) hj (by have := Nat.le_of_ble_eq_true hnid; have := he.m; omega) hne'
  rw [List.length_map] at h
  exact k he' hf hl a w ⟨hd, hsz, σ', β', h⟩
/-- Block nid is put back as field j of element i. -/
theorem vPut {α β : Type} [Inhabited α] (he : Env F T) {fd : α → List V} {g : β → List V} (l : List α) (m : List β) (id nid j : Nat) {ver es e nver n : Nat} {i : Int} {y z : List V} (hi : 0 ≤ i ∧ i < (l.length : Int)) (hnid : Nat.ble 100 nid = true) (hne : Nat.beq id nid = false) (hB : S.H id = some ⟨ver, es, (l.map fd).set i.toNat y⟩) (hN : S.H nid = some ⟨nver, e, m.map g⟩) (hj : y[j]? = some (.own nid nver 0 n)) (hn : n = m.length) (hcl : allClosed ⟨nver, e, m.map g⟩ = true) (hz : y.set j (.row true e (m.map g)) = z)
    (k : VW F T ops q ⟨S.env, updE (updE S.H nid none) id (some ⟨ver, es, (l.map fd).set i.toNat z⟩), S.nv⟩ lo Q) : VW F T ops q S lo Q := by
  intro he' hf hl a w
  rintro ⟨hd, hsz, σ, β, hs⟩
  subst hn
  have hne' : id ≠ nid := fun e => by subst e; simp at hne
  obtain ⟨σ', h⟩ := hs.putN (k := i.toNat) (j := j) (x := y) hB (by rw [List.getElem?_set, if_pos rfl, if_pos (by rw [List.length_map]; omega)]) (by rw [List.length_map]; exact hj) hN hcl hne' (by have := Nat.le_of_ble_eq_true hnid; have := he.m; omega)
  rw [List.set_set, hz] at h
  exact k he' hf hl a w ⟨hd, hsz, σ', β, h⟩
/-- An element that holds all of its slices again. -/
theorem vFold {α : Type} {fd : α → List V} (l : List α) (b : α) (id : Nat) {ver es k : Nat} {y : List V} (hB : S.H id = some ⟨ver, es, (l.map fd).set k y⟩) (hy : y = fd b) (c : VW F T ops q ⟨S.env, updE S.H id (some ⟨ver, es, (l.set k b).map fd⟩), S.nv⟩ lo Q) : VW F T ops q S lo Q := by
  have e : updE S.H id (some ⟨ver, es, (l.set k b).map fd⟩) = S.H := by
    funext i
    by_cases h : i = id
    · subst h; rw [updE_same, hB, hy, List.map_set]
    · rw [updE_other _ _ h]
  rw [e] at c
  exact c
end
end Go.Eng
