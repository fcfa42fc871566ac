/- make; literals; parts of slices. -/
import Derived.Test.YtemgbggfhohfeaaEng18
import Derived.Laws.MakeOwn
set_option linter.unusedVariables false
set_option linter.unusedSimpArgs false
namespace Go.Eng

def coldL (xs : List (List V)) : List (List V) := xs.map fun x => x.map V.cold
theorem Laid.cold {E : Cx} {es : Nat} {xs : List (List V)} {arr : Array Value} (h : Laid E es xs arr) : Laid E es (coldL xs) arr := by
  refine ⟨fun x hx => ?_, fun k j x v hk hj => ?_⟩
  · obtain ⟨x0, h1, rfl⟩ := List.mem_map.1 hx
    simpa using h.1 x0 h1
  · unfold coldL at hk
    rw [List.getElem?_map] at hk
    obtain ⟨x0, h1, rfl⟩ := Option.map_eq_some_iff.1 hk
    rw [List.getElem?_map] at hj
    obtain ⟨v0, h2, rfl⟩ := Option.map_eq_some_iff.1 hj
    obtain ⟨c, h3, h4⟩ := h.2 k j x0 v0 h1 h2
    exact ⟨c, h3, h4.cold⟩

section
variable {F : Fr} {S : St} {o : Oper} {T : Tab}
theorem sMk {t : Nat} {x y : Operand} (h : o.op = .makeSlice t x y) (id : Nat) {ti te : TI} {e : Nat} {kl kc : IntKind} {l c : Int} (hx : S.val [] x = .c (.int kl l)) (hy : S.val [] y = .c (.int kc c)) (ht : tg T t = some ti) (hk : ti.k = .slice e) (he : tg T e = some te) (hid : Nat.ble 100 id = true) (hpos : Nat.blt 0 te.size = true) (hzl : te.zero.length = te.size)
    (hb : 0 ≤ l ∧ l ≤ c ∧ (te.bytes : Int) * c ≤ 281474976710656 ∧ c ≤ 9223372036854775807) :
    St1 F T o S { v := .c (.own id (S.nv id) 0 l.toNat), upd := [(id, some ⟨S.nv id, te.size, List.replicate l.toNat (te.zero.map V.cold)⟩)], bump := [id], use := opTmps [x, y], ids := [id] } := by
  intro henv hd S' h1 h2 a w hs
  obtain ⟨hdf, hsz, σ, β, hs⟩ := hs
  obtain ⟨b1, b2, b3, b4⟩ := hb
  have hpos' : 0 < te.size := Nat.le_of_ble_eq_true hpos
  have hnv : S'.nv id = S.nv id := (h2 id (by simp)).2
  have g1 := val_ok hs [] x
  have g2 := val_ok hs [] y
  rw [vc h1 (by simp) hx] at g1
  rw [vc h1 (by simp) hy] at g2
  have e1 := inv_int g1
  have e2 := inv_int g2
  have hT := henv.tab
  obtain ⟨inf, i1, i2, i3, z, i4, i5, _⟩ := (hT.ty he).inf
  obtain ⟨c1, c2⟩ := zero_cells (E := S'.cx w σ β) i5
  have hcz : Cells (S'.cx w σ β) te.zero z.cells := ⟨by simpa using c1.symm, fun i v hi => by simpa using c2 i v hi⟩
  have hzs : z.cells.size = te.size := by rw [hcz.1, hzl]
  have u1 := (hT.ty ht).slice hk
  have hrun := run_make (P := F.P) w t e inf z u1 i1 i4 kl kc l c b1 b2 (by rw [i3]; exact b3) b4
  have hlaid : Laid (S'.cx w σ β) te.size (coldL (List.replicate l.toNat te.zero)) (madeCells z.cells (c.toNat * inf.size)) := by
    refine Laid.cold ⟨fun x hx => by rw [(List.mem_replicate.1 hx).2, hzl], fun k j x v hk hj => ?_⟩
    have hkl : k < l.toNat := by have := (List.getElem?_eq_some_iff.1 hk).1; simpa using this
    have hxz : x = te.zero := by
      have := List.mem_of_getElem? hk
      exact (List.mem_replicate.1 this).2
    subst hxz
    have hjl : j < te.size := by rw [← hzl]; exact (List.getElem?_eq_some_iff.1 hj).1
    obtain ⟨cc, q1, q2⟩ := hcz.2 j v hj
    refine ⟨cc, ?_, q2⟩
    have hlt : k * te.size + j < c.toNat * inf.size := by
      rw [i2]
      have h3 : (k + 1) * te.size ≤ c.toNat * te.size := Nat.mul_le_mul_right _ (by omega)
      rw [Nat.add_mul, Nat.one_mul] at h3
      omega
    have hmod : (k * te.size + j) % te.size = j := by rw [Nat.add_comm, Nat.add_mul_mod_self_right, Nat.mod_eq_of_lt hjl]
    simp only [madeCells]
    rw [Array.getElem?_map, Array.getElem?_range, if_pos hlt]
    simp only [Option.map_some]
    rw [hzs, hmod, getElem!_def, q1]
  have hcl : coldL (List.replicate l.toNat te.zero) = List.replicate l.toNat (te.zero.map V.cold) := by simp [coldL]
  rw [hcl] at hlaid
  have hmax : c.toNat ≤ maxLen := by simp only [maxLen]; omega
  have := hs.alloc (Nat.le_trans henv.m (Nat.le_of_ble_eq_true hid)) (es := te.size) (n := c.toNat) (xs := List.replicate l.toNat (te.zero.map V.cold)) e hlaid (by simp; omega) (by simp [madeCells, i2])
  refine .inl ⟨.slice (some ⟨w.heap.size, 0, none⟩) l.toNat c.toNat, World.push w (madeCells z.cells (c.toNat * inf.size)) e, ?_, by rw [put_defers]; exact hdf, by rw [put_tmps_size]; exact hsz, updE σ w.heap.size [id], updE β id (some (w.heap.size, 0, c.toNat)), ?_⟩
  · simp only [execOp, h, e1, e2, Sem.run_bind, hrun, Result.andThen_ok, Sem.run_pure]
    rfl
  · rw [app_set, ← hnv]
    have hov := own_new (S := S') id te.size c.toNat (List.replicate l.toNat (te.zero.map V.cold)) (World.push w (madeCells z.cells (c.toNat * inf.size)) e) (updE σ w.heap.size [id]) β w.heap.size (by simp; omega) hmax
    rw [List.length_replicate] at hov
    exact this.putT hsz hd (.c hov)

theorem RSx.coldH {a : Act} {w : World} {σ : Nat → List Nat} {β : Nat → Option (Nat × Nat × Nat)} (hs : RSx F S a w σ β) {id : Nat} {B : Blk} (hB : S.H id = some B) : RSx F ⟨S.env, updE S.H id (some ⟨B.ver, B.es, coldL B.xs⟩), S.nv⟩ a w σ β := by
  have hid0 : id ≠ 0 := by rintro rfl; have h0 : S.H 0 = none := hs.hr.far; rw [h0] at hB; cases hB
  have hext : Ext (S.cx w σ β) ((⟨S.env, updE S.H id (some ⟨B.ver, B.es, coldL B.xs⟩), S.nv⟩ : St).cx w σ β) := ⟨fun _ => Nat.le_refl _, fun i B' h _ => by
    have h' : updE S.H id (some ⟨B.ver, B.es, coldL B.xs⟩) i = some B' := h
    by_cases e : i = id
    · subst e; rw [updE_same] at h'; cases h'; exact ⟨B, hB, rfl, rfl, by simp [coldL], rfl⟩
    · rw [updE_other _ _ e] at h'; exact ⟨B', h', rfl, rfl, rfl, rfl⟩⟩
  have hn : ∀ p, Near w σ w σ p := fun p b _ _ => ⟨rfl, rfl⟩
  refine ⟨⟨(updE_other _ _ (fun h => hid0 h.symm)).trans hs.hr.far, fun i B' h => ?_, hs.hr.new⟩, hs.mpos, hs.kp, hs.inn, fun t => (hs.env t).mono hext (hn [])⟩
  have h' : updE S.H id (some ⟨B.ver, B.es, coldL B.xs⟩) i = some B' := h
  by_cases e : i = id
  · subst e
    rw [updE_same] at h'
    cases h'
    obtain ⟨h1, h2⟩ := hs.hr.blk i B hB
    refine ⟨h1, ?_⟩
    cases eb : β i with
    | none => exact .mk_void eb (by simp [coldL, h2.void eb])
    | some q =>
      obtain ⟨b, o', n⟩ := q
      obtain ⟨q1, q2, q3, arr, T', q4, q5, q6⟩ := h2.some eb
      refine .mk eb ⟨q1, ?_, by simpa [coldL] using q3, arr, T', q4, q5, fun k j x v hk hj => ?_⟩
      · intro x hx
        obtain ⟨x0, g1, rfl⟩ := List.mem_map.1 hx
        simpa using q2 x0 g1
      · simp only [coldL, List.getElem?_map] at hk
        obtain ⟨x0, g1, rfl⟩ := Option.map_eq_some_iff.1 hk
        rw [List.getElem?_map] at hj
        obtain ⟨v0, g2, rfl⟩ := Option.map_eq_some_iff.1 hj
        obtain ⟨c, g3, g4⟩ := q6 k j x0 v0 g1 g2
        exact ⟨c, g3, (g4.mono hext (hn _)).cold⟩
  · rw [updE_other _ _ e] at h'
    obtain ⟨h1, h2⟩ := hs.hr.blk i B' h'
    exact ⟨h1, h2.mono hext rfl (hn [i])⟩

/-- What a slice literal holds. -/
def bsF (S : St) (te : TI) (n : Nat) (parts : Array (Nat × Operand)) : Option (List (List V)) :=
  match parts.toList.all (fun p => okPart (S.val te.sh p.2)) with
  | true => match fillV (fun i => some (i * te.size, te.size)) (repV n te.zero) (parts.toList.map fun p => (p.1, S.val te.sh p.2)) with
    | some out => some (coldL (chop te.size n out))
    | none => none
  | false => none
theorem sBS {t : TypeId} {n : Nat} {parts : Array (Nat × Operand)} (h : o.op = .buildSlice t n parts) (id : Nat) {ti te : TI} {e : Nat} {rows : List (List V)} (ht : tg T t = some ti) (hk : ti.k = .slice e) (he : tg T e = some te) (hf : bsF S te n parts = some rows) (hid : Nat.ble 100 id = true) (hpos : Nat.blt 0 te.size = true) (hzl : te.zero.length = te.size) (hsmall : Nat.ble (n * te.size) 16777216 = true) :
    St1 F T o S { v := .c (.own id (S.nv id) 0 n), upd := [(id, some ⟨S.nv id, te.size, rows⟩)], bump := [id], use := opTmps (parts.toList.map (·.2)), ids := [id] } := by
  intro henv hd
  unfold bsF at hf
  split at hf
  · rename_i hall
    split at hf
    · rename_i out hout
      simp only [Option.some.injEq] at hf
      subst hf
      have hst := step_buildSlice henv.tab h hd ht hk he (Nat.le_of_ble_eq_true hpos) hzl (Nat.le_of_ble_eq_true hsmall) (l := parts.toList.map fun p => (p.1, S.val te.sh p.2)) (by simp) (fun q i x hq => by
        rw [List.getElem?_map] at hq
        obtain ⟨p, hp, e2⟩ := Option.map_eq_some_iff.1 hq
        simp only [Prod.mk.injEq] at e2
        obtain ⟨rfl, rfl⟩ := e2
        refine ⟨?_, p.2, te.sh, by simpa using hp, rfl⟩
        exact List.all_eq_true.1 hall p (List.mem_of_getElem? hp)) hout id (Nat.le_trans henv.m (Nat.le_of_ble_eq_true hid))
      intro S' h1 h2 a w hs
      have hweak : ∀ a' w', RS F (S'.app o.dst { v := .c (.own id (S.nv id) 0 n), upd := [(id, some ⟨S.nv id, te.size, chop te.size n out⟩)], bump := [id], use := opTmps (parts.toList.map (·.2)), ids := [id] }) a' w' →
          RS F (S'.app o.dst { v := .c (.own id (S.nv id) 0 n), upd := [(id, some ⟨S.nv id, te.size, coldL (chop te.size n out)⟩)], bump := [id], use := opTmps (parts.toList.map (·.2)), ids := [id] }) a' w' := by
        rintro a' w' ⟨q1, q2, σ, β, q3⟩
        refine ⟨q1, q2, σ, β, ?_⟩
        have := q3.coldH (id := id) (B := ⟨S.nv id, te.size, chop te.size n out⟩) (updE_same _ _ _)
        have e : updE (updE S'.H id (some ⟨S.nv id, te.size, chop te.size n out⟩)) id (some ⟨S.nv id, te.size, coldL (chop te.size n out)⟩) = updE S'.H id (some ⟨S.nv id, te.size, coldL (chop te.size n out)⟩) := by
          funext i
          by_cases ei : i = id
          · subst ei; rw [updE_same, updE_same]
          · rw [updE_other _ _ ei, updE_other _ _ ei, updE_other _ _ ei]
        have e2 : (S'.app o.dst { v := .c (.own id (S.nv id) 0 n), upd := [(id, some ⟨S.nv id, te.size, coldL (chop te.size n out)⟩)], bump := [id], use := opTmps (parts.toList.map (·.2)), ids := [id] }) =
            ⟨(S'.app o.dst { v := .c (.own id (S.nv id) 0 n), upd := [(id, some ⟨S.nv id, te.size, chop te.size n out⟩)], bump := [id], use := opTmps (parts.toList.map (·.2)), ids := [id] }).env, updE (updE S'.H id (some ⟨S.nv id, te.size, chop te.size n out⟩)) id (some ⟨S.nv id, te.size, coldL (chop te.size n out)⟩), bumpN S'.nv [id]⟩ := by
          rw [e]; rfl
        rw [e2]
        exact this
      rcases hst S' h1 h2 a w hs with ⟨v, w', r1, r2⟩ | ⟨w', r1, r2⟩ | ⟨f, args, w', r1, r2⟩
      · exact .inl ⟨v, w', r1, hweak _ _ r2⟩
      · exact .inr (.inl ⟨w', r1, hweak _ _ r2⟩)
      · refine .inr (.inr ⟨f, args, w', r1, r2.mono ?_⟩)
        rintro e w'' ⟨v, e1, e2⟩
        exact ⟨v, e1, hweak _ _ e2⟩
    · cases hf
  · cases hf

/-- What a struct literal holds. -/
def bdF (T : Tab) (S : St) (t : Nat) (ti : TI) (parts : Array (Nat × Operand)) (shs : List (List Nat)) : Option (List V) :=
  match places T t, parts.toList.zip shs |>.all (fun p => okPart (S.val p.2 p.1.2)), Nat.decEq shs.length parts.size with
  | some pl, true, .isTrue _ => fillV (pl[·]?) ti.zero ((parts.toList.zip shs).map fun p => (p.1.1, S.val p.2 p.1.2))
  | _, _, _ => none
theorem sBd {t : TypeId} {parts : Array (Nat × Operand)} (h : o.op = .build t parts) (shs : List (List Nat)) {ti : TI} {out : List V} (ht : tg T t = some ti) (hf : bdF T S t ti parts shs = some out) : St1 F T o S { v := .g out, use := opTmps (parts.toList.map (·.2)) } := sPure _ _ fun he S' h1 h2 => by
  unfold bdF at hf
  split at hf
  · rename_i _ _ _ pl hlen hpl hall _
    refine ok_build he.tab h ht hpl (l := (parts.toList.zip shs).map fun p => (p.1.1, S.val p.2 p.1.2)) (by simp [hlen]) (fun q i x hq => ?_) hf
    rw [List.getElem?_map] at hq
    obtain ⟨p, hp, e2⟩ := Option.map_eq_some_iff.1 hq
    simp only [Prod.mk.injEq] at e2
    obtain ⟨rfl, rfl⟩ := e2
    have hz := List.getElem?_zip_eq_some.1 hp
    refine ⟨List.all_eq_true.1 hall p (List.mem_of_getElem? hp), p.1.2, p.2, by simpa using hz.1, ?_⟩
    exact val_congr (l := parts.toList.map (·.2)) (List.mem_map.2 ⟨p.1, List.mem_of_getElem? hz.1, rfl⟩) (fun t ht => h1 t ht) p.2
  · cases hf
end
end Go.Eng
