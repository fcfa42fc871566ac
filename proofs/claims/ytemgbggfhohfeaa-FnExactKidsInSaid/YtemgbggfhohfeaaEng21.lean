/- Slices as lists: f tells an element's cells. -/
import Derived.Test.YtemgbggfhohfeaaEng20
set_option linter.unusedVariables false
set_option linter.unusedSimpArgs false
namespace Go.Eng

def gt {α : Type} [Inhabited α] (l : List α) (i : Int) : α := l.getD i.toNat default
theorem gt_at {α : Type} [Inhabited α] {l : List α} (f : α → List V) {i : Int} (h : 0 ≤ i ∧ i < l.length) : (l.map f)[i.toNat]? = some (f (gt l i)) := by
  have hlt : i.toNat < l.length := by omega
  unfold gt
  rw [List.getElem?_map, List.getElem?_eq_getElem hlt, List.getD_eq_getElem?_getD, List.getElem?_eq_getElem hlt]
  rfl

/-- An element's cells: they are closed, they lie nowhere of their own, there are es of them. -/
structure En {α : Type} (f : α → List V) (es : Nat) : Prop where
  len : ∀ a, (f a).length = es
  clean : ∀ a, (f a).all cleanV = true
  closed : ∀ a, (f a).all V.closed = true
  share : ∀ a, shareL (f a) = f a

section
variable {α : Type} {f : α → List V} {es : Nat}
theorem En.shareLL (h : En f es) (l : List α) : Go.Eng.shareLL (l.map f) = l.map f := by
  rw [shareLL_map, List.map_map]
  refine List.map_congr_left fun a _ => ?_
  show List.map V.share (f a) = f a
  rw [← shareL_map]; exact h.share a
theorem En.noT (h : En f es) (l : List α) : Go.Eng.noT (l.map f) = true := by
  refine List.all_eq_true.2 fun x hx => ?_
  obtain ⟨a, _, rfl⟩ := List.mem_map.1 hx
  exact h.clean a
theorem En.allClosed (h : En f es) (v e : Nat) (l : List α) : Go.Eng.allClosed ⟨v, e, l.map f⟩ = true := by
  refine List.all_eq_true.2 fun x hx => ?_
  obtain ⟨a, _, rfl⟩ := List.mem_map.1 hx
  exact h.closed a
theorem En.int (k : IntKind) : En (fun n : Int => [V.int k n]) 1 := ⟨fun _ => rfl, fun _ => rfl, fun _ => rfl, fun _ => rfl⟩
theorem En.bool : En (fun b : Bool => [V.bool b]) 1 := ⟨fun _ => rfl, fun _ => rfl, fun _ => rfl, fun _ => rfl⟩
theorem En.str : En (fun s : ByteArray => [V.str s]) 1 := ⟨fun _ => rfl, fun _ => rfl, fun _ => rfl, fun _ => rfl⟩
theorem En.row (h : En f es) : En (fun l : List α => [V.row false es (l.map f)]) 1 := ⟨fun _ => rfl, fun _ => rfl, fun _ => rfl, fun l => by
  show [V.share (.row false es (l.map f))] = _
  rw [V.share, h.shareLL]⟩
theorem En.append {β γ : Type} {g : β → List V} {m : Nat} (h : En f es) (h' : En g m) (p : γ → α) (q : γ → β) : En (fun c => f (p c) ++ g (q c)) (es + m) :=
  ⟨fun c => by simp [h.len, h'.len], fun c => by rw [List.all_append, h.clean, h'.clean]; rfl, fun c => by rw [List.all_append, h.closed, h'.closed]; rfl, fun c => by
    rw [shareL_map, List.map_append, ← shareL_map, ← shareL_map, h.share, h'.share]⟩
end

section
variable {F : Fr} {S : St} {o : Oper} {T : Tab} {α : Type}
theorem sLm {t : Nat} {x : Operand} (h : o.op = .call { callee := .builtin .len, args := #[x], argTypes := #[t] }) {ti : TI} (ht : tg T t = some ti) {e : Nat} (hk : ti.k = .slice e) {ob : Bool} {es : Nat} {f : α → List V} {l : List α} (hx : S.val [] x = .c (.row ob es (l.map f))) : St1 F T o S { v := .c (.int .i64 l.length), use := opTmps [x] } := by
  have := sLn (F := F) h ht hk hx
  rwa [List.length_map] at this
theorem sIRm {t : Nat} {x ix : Operand} (h : o.op = .indexAddr t x ix) {es : Nat} {f : α → List V} {l : List α} {k : IntKind} {i : Int} (hx : S.val [] x = .c (.row false es (l.map f))) (hi : S.val [] ix = .c (.int k i)) (hes : eSize T t = some es) (hb : 0 ≤ i ∧ i < l.length) : St1 F T o S { v := .c (.ip es (l.map f) i.toNat 0), use := opTmps [x, ix] } :=
  sIR h hx hi hes (by simpa using hb)
def ixO (T : Tab) (S : St) (t : Nat) (x : Operand) : Option (Nat × Nat × Nat) :=
  match S.val [] x with
  | .c (.own id ver 0 n) => match S.H id, eSize T t with
    | some B, some e => match Nat.decEq B.ver ver, Nat.decEq e B.es with
      | .isTrue _, .isTrue _ => some (id, ver, n)
      | _, _ => none
    | _, _ => none
  | _ => none
theorem sIOm {t : Nat} {x ix : Operand} (h : o.op = .indexAddr t x ix) {id ver n : Nat} {k : IntKind} {i : Int} (hi : S.val [] ix = .c (.int k i)) (hf : ixO T S t x = some (id, ver, n)) (hb : 0 ≤ i ∧ i < n) : St1 F T o S { v := .c (.ptr id ver i.toNat 0), use := opTmps [x, ix], ids := [id] } := by
  unfold ixO at hf
  split at hf
  · rename_i id' ver' n' hx
    split at hf
    · rename_i B e hB hes
      split at hf
      · rename_i _ _ hver he _ _
        simp only [Option.some.injEq, Prod.mk.injEq] at hf
        obtain ⟨rfl, rfl, rfl⟩ := hf
        have := sIO (F := F) h hx hi hB hver (by rw [hes, he]) hb
        rwa [Nat.zero_add] at this
      · cases hf
    · cases hf
  · cases hf
/-- Element i of an own slice is read. -/
theorem sLkm [Inhabited α] {t : TypeId} {x : Operand} (h : o.op = .load t x) {f : α → List V} (l : List α) {ti : TI} {id ver : Nat} {i : Int} (hi : 0 ≤ i ∧ i < l.length) {j es : Nat} {u : A} (hx : S.val [] x = .c (.ptr id ver i.toNat j)) (hB : S.H id = some ⟨ver, es, l.map f⟩) (ht : tg T t = some ti)
    (hj : Nat.ble (j + ti.size) (f (gt l i)).length = true) (hw : wrapA ti.k.agg (((f (gt l i)).drop j).take ti.size) = some u) (hn : (((f (gt l i)).drop j).take ti.size).all (fun v => !isRowT v) = true) : St1 F T o S { v := u, use := opTmps [x], ids := [id] } :=
  sLk h hx ht hB rfl (gt_at f hi) hj hw hn
/-- Element i of an own slice is set. -/
theorem sSkm [Inhabited α] {t : TypeId} {x y : Operand} (h : o.op = .store t x y) (hd0 : o.dst = none) (sh : List Nat) {f : α → List V} (l : List α) (v : α) {ti : TI} {id ver : Nat} {i : Int} (hi : 0 ≤ i ∧ i < l.length) {es : Nat} {u : A} (hy : S.val sh y = u) (hx : S.val [] x = .c (.ptr id ver i.toNat 0)) (hB : S.H id = some ⟨ver, es, l.map f⟩) (ht : tg T t = some ti) (hu : okPart u = true) (huc : okCells u.cells = true) (hul : u.cells.length = ti.size)
    (hfl : (f (gt l i)).length = ti.size) (hv : u.cells = f v) : St1 F T o S { v := .c .undef, upd := [(id, some ⟨ver, es, (l.set i.toNat v).map f⟩)], use := opTmps [x, y], ids := [id] } := by
  have := sSk (F := F) h hd0 sh hy hx (f (gt l i)) hB (gt_at f hi) rfl ht hu huc hul (by rw [hfl, Nat.zero_add]; exact Nat.ble_self_eq_true ti.size)
  have e : (l.map f).set i.toNat (putL (f (gt l i)) 0 u.cells) = (l.set i.toNat v).map f := by
    rw [List.map_set]
    congr 1
    unfold putL
    simp only [List.take_zero, List.nil_append, Nat.zero_add]
    rw [List.drop_eq_nil_of_le (by rw [hul, hfl]; exact Nat.le_refl _), List.append_nil, hv]
  rw [e] at this
  exact this
theorem sMkm {t : Nat} {x y : Operand} (h : o.op = .makeSlice t x y) (id : Nat) {f : α → List V} (z : α) {ti te : TI} {e : Nat} {kl kc : IntKind} {l c : Int} (hx : S.val [] x = .c (.int kl l)) (hy : S.val [] y = .c (.int kc c)) (ht : tg T t = some ti) (hk : ti.k = .slice e) (he : tg T e = some te) (hz : te.zero.map V.cold = f z) (hid : Nat.ble 100 id = true) (hpos : Nat.blt 0 te.size = true) (hzl : te.zero.length = te.size)
    (hb : 0 ≤ l ∧ l ≤ c ∧ (te.bytes : Int) * c ≤ 281474976710656 ∧ c ≤ 9223372036854775807) :
    St1 F T o S { v := .c (.own id (S.nv id) 0 (List.replicate l.toNat z).length), upd := [(id, some ⟨S.nv id, te.size, (List.replicate l.toNat z).map f⟩)], bump := [id], use := opTmps [x, y], ids := [id] } := by
  have := sMk (F := F) h id hx hy ht hk he hid hpos hzl hb
  rw [hz] at this
  rw [List.length_replicate, List.map_replicate]
  exact this
/-- append to an own slice. -/
theorem sAo {x y : Operand} {t e : Nat} (h : o.op = .call { callee := .builtin .append, args := #[x, y], argTypes := #[t, t] }) (nid : Nat) {f : α → List V} (l l2 : List α) {ti te : TI} {v : V} {id ver : Nat} (hf : En f te.size) (hx : S.val [te.size] x = .c (.own id ver 0 l.length)) (hB : S.H id = some ⟨ver, te.size, l.map f⟩) (hy : S.val [te.size] y = .c v) (hyr : rowsOf S v = some (l2.map f)) (hye : esB S te.size v = true)
    (ht : tg T t = some ti) (hk : ti.k = .slice e) (he : tg T e = some te) (hn : Nat.ble 100 nid = true) (hpos : Nat.blt 0 te.size = true) (hzl : te.zero.length = te.size) (hb : (l ++ l2).length * te.bytes ≤ 140737488355328 ∧ (l ++ l2).length ≤ maxLen) :
    St1 F T o S { v := .c (.own nid (S.nv nid) 0 (l ++ l2).length), upd := [(id, none), (nid, some ⟨S.nv nid, te.size, (l ++ l2).map f⟩)], bump := [nid], use := opTmps [x, y], ids := nid :: ([id] ++ idOf v) } := by
  have hxr : rowsOf S (.own id ver 0 l.length) = some (l.map f) := by
    simp only [rowsOf, hB]
    have : Nat.decEq ver ver = .isTrue rfl := by
      cases h : Nat.decEq ver ver with
      | isTrue _ => rfl
      | isFalse h' => exact absurd rfl h'
    rw [this]
    simp only [List.drop_zero, Option.some.injEq]
    rw [← List.length_map (as := l) (f := f), List.take_length]
  have hb1 : ((l.map f).length + (l2.map f).length) * te.bytes ≤ 140737488355328 ∧ (l.map f).length + (l2.map f).length ≤ maxLen := by
    rw [List.length_map, List.length_map, ← List.length_append]
    exact hb
  have hxe : esB S te.size (.own id ver 0 l.length) = true := by
    simp only [esB, hB]; exact Nat.beq_refl _
  have := sAp (F := F) h nid [te.size] [te.size] hx hy ht hk he hxr hyr hn rfl hpos hzl hxe hye (hf.noT l) (hf.noT l2) hb1
  rw [List.length_map, List.length_map, ← List.length_append, ← List.map_append] at this
  exact this
/-- append to an empty slice without memory. -/
theorem sAn {x y : Operand} {t e : Nat} (h : o.op = .call { callee := .builtin .append, args := #[x, y], argTypes := #[t, t] }) (nid : Nat) {f : α → List V} (l2 : List α) {ti te : TI} {v : V} {es0 : Nat} (hf : En f te.size) (hx : S.val [te.size] x = .c (.row true es0 [])) (hes : Nat.beq es0 te.size = true) (hy : S.val [te.size] y = .c v) (hyr : rowsOf S v = some (l2.map f)) (hye : esB S te.size v = true)
    (ht : tg T t = some ti) (hk : ti.k = .slice e) (he : tg T e = some te) (hn : Nat.ble 100 nid = true) (hpos : Nat.blt 0 te.size = true) (hzl : te.zero.length = te.size) (hb : l2.length * te.bytes ≤ 140737488355328 ∧ l2.length ≤ maxLen) :
    St1 F T o S { v := .c (.own nid (S.nv nid) 0 l2.length), upd := [(nid, some ⟨S.nv nid, te.size, l2.map f⟩)], bump := [nid], use := opTmps [x, y], ids := nid :: idOf v } := by
  have hb1 : (([] : List (List V)).length + (l2.map f).length) * te.bytes ≤ 140737488355328 ∧ ([] : List (List V)).length + (l2.map f).length ≤ maxLen := by
    rw [List.length_map, List.length_nil, Nat.zero_add]
    exact hb
  have := sAp (F := F) h nid [te.size] [te.size] hx hy ht hk he (xs := []) rfl hyr hn rfl hpos hzl hes hye rfl (hf.noT l2) hb1
  simp only [List.length_nil, Nat.zero_add, List.length_map, List.nil_append] at this
  exact this
/-- A part of a slice that is read alone. -/
theorem sSlM {t : Nat} {x : Operand} {lo hi : Option Operand} (h : o.op = .slice t x lo hi none) {es : Nat} {f : α → List V} {ls : List α} {l hh : Int} (hx : S.val [] x = .c (.row false es (ls.map f))) (hes : eSize T t = some es)
    (hl : bnd S 0 lo = some l) (hr : bnd S ls.length hi = some hh) (hb : 0 ≤ l ∧ l ≤ hh ∧ hh ≤ ls.length) : St1 F T o S { v := .c (.row false es (((ls.drop l.toNat).take (hh - l).toNat).map f)), use := opTmps ([x] ++ lo.toList ++ hi.toList) } := by
  have := sSlR (F := F) h hx hes hl (by rw [List.length_map]; exact hr) (by rw [List.length_map]; exact hb)
  rw [← List.map_drop, ← List.map_take] at this
  exact this
end

/-- A slice of the call's own is written no more: variable t. -/
theorem wk_row {S : St} {α : Type} {f : α → List V} {l : List α} {es id ver : Nat} (t : Nat) (hf : En f es) (ht : S.env t = .c (.own id ver 0 l.length)) (hB : S.H id = some ⟨ver, es, l.map f⟩) : Wk S ⟨updE S.env t (.c (.row false es (l.map f))), updE S.H id none, S.nv⟩ := by
  rintro F a w ⟨hd, hsz, σ, β, hs⟩
  have h1 := hs.frz hB (hf.allClosed _ _ l)
  have h2 := h1.env t
  have e : (S.frz id ⟨ver, es, l.map f⟩).env t = .c (.row false es (l.map f)) := by
    show (S.env t).frz id ⟨ver, es, l.map f⟩ = _
    rw [ht]
    simp only [A.frz, V.frz, V.frz1, if_true, rowOf, List.drop_zero]
    have : (l.map f).take l.length = l.map f := by rw [← List.length_map (as := l) (f := f), List.take_length]
    rw [this, hf.shareLL]
  rw [e] at h2
  have hid0 : id ≠ 0 := by rintro rfl; have h0 : S.H 0 = none := hs.hr.far; rw [h0] at hB; cases hB
  have hext : Ext (S.cx w σ β) ((⟨updE S.env t (.c (.row false es (l.map f))), updE S.H id none, S.nv⟩ : St).cx w (fun b => dropσ id (σ b)) β) := ⟨fun _ => Nat.le_refl _, fun i B' h _ => by
    have h' : updE S.H id none i = some B' := h
    by_cases e : i = id
    · subst e; rw [updE_same] at h'; cases h'
    · rw [updE_other _ _ e] at h'; exact ⟨B', h', rfl, rfl, rfl, rfl⟩⟩
  have hnear : ∀ p, (p = [] ∨ ∃ i r, p = i :: r ∧ i ≠ id) → Near w σ w (fun b => dropσ id (σ b)) p := by
    intro p hp b _ hc
    refine ⟨rfl, ?_⟩
    show dropσ id (σ b) = σ b
    rcases hc with hc | ⟨hne, hc⟩
    · rw [hc]; rfl
    · rcases hp with rfl | ⟨i, r, rfl, hi⟩
      · exact absurd rfl hne
      · obtain ⟨r', hr'⟩ := hc
        rw [← hr']
        simp [dropσ, hi]
  refine ⟨hd, hsz, fun b => dropσ id (σ b), β, ⟨⟨?_, fun i B' h => ?_, h1.hr.new⟩, hs.mpos, h1.kp, hs.inn, fun t' => ?_⟩⟩
  · show updE S.H id none 0 = none
    rw [updE_other _ _ (fun h => hid0 h.symm)]; exact hs.hr.far
  · have h' : updE S.H id none i = some B' := h
    by_cases e : i = id
    · subst e; rw [updE_same] at h'; cases h'
    · rw [updE_other _ _ e] at h'
      obtain ⟨g1, g2⟩ := hs.hr.blk i B' h'
      exact ⟨g1, g2.mono hext rfl (hnear [i] (.inr ⟨i, [], rfl, e⟩))⟩
  · show RA _ (updE S.env t (.c (.row false es (l.map f))) t') _
    by_cases e : t' = t
    · subst e
      rw [updE_same]
      cases inv_c h2 with
      | c h => exact .c (.c h)
    · rw [updE_other _ _ e]
      exact (hs.env t').mono hext (hnear [] (.inl rfl))
end Go.Eng
