/- A slice that lies in an element of a block is taken out, as a block of its own; and put back. -/
import Derived.Test.YtemgbggfhohfeaaEng28
set_option linter.unusedVariables false
set_option linter.unusedSimpArgs false
namespace Go.Eng

def isPre : List Nat → List Nat → Bool
  | [], _ => true
  | _ :: _, [] => false
  | a :: r, b :: s => Nat.beq a b && isPre r s
theorem isPre_iff {p q : List Nat} : isPre p q = true ↔ ∃ r, q = p ++ r := by
  induction p generalizing q with
  | nil => simp [isPre]
  | cons a r ih =>
    cases q with
    | nil => simp [isPre]
    | cons b s =>
      simp only [isPre, Bool.and_eq_true, ih, List.cons_append, List.cons.injEq]
      constructor
      · rintro ⟨h, t, rfl⟩; exact ⟨t, (Nat.eq_of_beq_eq_true h).symm, rfl⟩
      · rintro ⟨t, rfl, rfl⟩; exact ⟨by simp, t, rfl⟩
/-- Positions that begin with p begin with q instead. -/
def moveσ (p q : List Nat) (s : List Nat) : List Nat := if isPre p s = true then q ++ s.drop p.length else s
theorem moveσ_in {p q r : List Nat} : moveσ p q (p ++ r) = q ++ r := by
  unfold moveσ
  rw [if_pos (isPre_iff.2 ⟨r, rfl⟩), List.drop_left]
theorem moveσ_out {p q s : List Nat} (h : ∀ r, s ≠ p ++ r) : moveσ p q s = s := by
  unfold moveσ
  rw [if_neg]
  intro h2
  obtain ⟨r, hr⟩ := isPre_iff.1 h2
  exact h r hr
theorem moveσ_nil {p q : List Nat} (hp : p ≠ []) : moveσ p q [] = [] := moveσ_out fun r h => by
  cases p with
  | nil => exact hp rfl
  | cons a s => cases h
theorem moveσ_zero {p q : List Nat} (hp : p ≠ []) (hp0 : p.head? ≠ some 0) : moveσ p q [0] = [0] := moveσ_out fun r h => by
  cases p with
  | nil => exact hp rfl
  | cons a s => simp only [List.cons_append, List.cons.injEq] at h; exact hp0 (by simp [← h.1])

section
variable {F : Fr} {S : St} {a : Act} {w : World} {σ : Nat → List Nat} {β : Nat → Option (Nat × Nat × Nat)}
theorem RSx.takeN (hs : RSx F S a w σ β) {id nid ver es k j e : Nat} {xs : List (List V)} {x : List V} {ys : List (List V)} (hB : S.H id = some ⟨ver, es, xs⟩) (hk : xs[k]? = some x) (hj : x[j]? = some (.row true e ys)) (hnid : F.m ≤ nid) (hne : id ≠ nid) :
    ∃ σ' β', RSx F ⟨S.env, updE (updE S.H nid (some ⟨S.nv nid, e, ys⟩)) id (some ⟨ver, es, xs.set k (x.set j (.own nid (S.nv nid) 0 ys.length))⟩), updE S.nv nid (S.nv nid + 1)⟩ a w σ' β' := by
  have hid0 : id ≠ 0 := by rintro rfl; have h0 : S.H 0 = none := hs.hr.far; rw [h0] at hB; cases hB
  have hnid0 : nid ≠ 0 := by have := hs.mpos; omega
  obtain ⟨hver, hbr⟩ := hs.hr.blk id _ hB
  have hcell : ∃ c, RV (S.cx w σ β) [id, k, j] (.row true e ys) c ∧ ∀ b o n, β id = some (b, o, n) → ∃ arr T, w.heap[b]? = some (.cells arr T (0, 0)) ∧ arr[o + k * es + j]? = some c := by
    cases eb : β id with
    | none => have := hbr.void eb; rw [show xs = [] from this] at hk; simp at hk
    | some q =>
      obtain ⟨b, o, n⟩ := q
      obtain ⟨q1, q2, q3, arr, T, q4, q5, q6⟩ := hbr.some eb
      obtain ⟨c, g1, g2⟩ := q6 k j x _ hk hj
      exact ⟨c, g2, fun b' o' n' h => by cases h; exact ⟨arr, T, q4, g1⟩⟩
  obtain ⟨c, hc, hcm⟩ := hcell
  cases hc with
  | c hc =>
  cases hc with
  | row p o' es' xs' A n cap b off cs hn hcap hmax hA hT hx hcc hr =>
  let p : List Nat := [id, k, j]
  let σ' : Nat → List Nat := fun b => moveσ p [nid] (σ b)
  let β' : Nat → Option (Nat × Nat × Nat) := updE β nid (if cap = 0 then none else some (b, off, cap))
  let S' : St := ⟨S.env, updE (updE S.H nid (some ⟨S.nv nid, e, ys⟩)) id (some ⟨ver, es, xs.set k (x.set j (.own nid (S.nv nid) 0 ys.length))⟩), updE S.nv nid (S.nv nid + 1)⟩
  have hHid : S'.H id = some ⟨ver, es, xs.set k (x.set j (.own nid (S.nv nid) 0 ys.length))⟩ := updE_same _ _ _
  have hHn : S'.H nid = some ⟨S.nv nid, e, ys⟩ := (updE_other _ _ (Ne.symm hne)).trans (updE_same _ _ _)
  have hHo : ∀ i, i ≠ id → i ≠ nid → S'.H i = S.H i := fun i h1 h2 => (updE_other _ _ h1).trans (updE_other _ _ h2)
  have hβo : ∀ i, i ≠ nid → β' i = β i := fun i h => updE_other _ _ h
  have hσnil : ∀ b, σ b = [] → σ' b = [] := fun b h => by show moveσ p [nid] (σ b) = []; rw [h]; exact moveσ_nil (by simp [p])
  have hnear : ∀ q, (∀ r s, q ≠ [] → q ++ r ≠ p ++ s) → Near w σ w σ' q := by
    intro q hq b' _ hc'
    refine ⟨rfl, ?_⟩
    show moveσ p [nid] (σ b') = σ b'
    rcases hc' with h | ⟨hq0, r, hr'⟩
    · rw [h]; exact moveσ_nil (by simp [p])
    · refine moveσ_out fun s h => hq r s hq0 ?_
      rw [hr']; exact h
  have hext : Ext (S.cx w σ β) (S'.cx w σ' β') := by
    refine ⟨fun i => ?_, fun i B' h hv => ?_⟩
    · show S.nv i ≤ updE S.nv nid (S.nv nid + 1) i
      by_cases e2 : i = nid
      · subst e2; rw [updE_same]; omega
      · rw [updE_other _ _ e2]; exact Nat.le_refl _
    · have h' : S'.H i = some B' := h
      by_cases e2 : i = id
      · subst e2; rw [hHid] at h'; cases h'; exact ⟨_, hB, rfl, rfl, by simp, hβo _ hne⟩
      · by_cases e3 : i = nid
        · subst e3; rw [hHn] at h'; cases h'; exact absurd hv (Nat.lt_irrefl _)
        · rw [hHo i e2 e3] at h'; exact ⟨B', h', rfl, rfl, rfl, hβo i e3⟩
  refine ⟨σ', β', ⟨⟨?_, fun i B' h => ?_, fun b' hb' => hσnil b' (hs.hr.new b' hb')⟩, hs.mpos, ⟨hs.kp.os, hs.kp.tape, hs.kp.output, hs.kp.size, hs.kp.heap, fun b' hb' h0 => ?_⟩, fun i hi => ?_, fun t => (hs.env t).mono hext (hnear [] (fun r s h => absurd rfl h))⟩⟩
  · show S'.H 0 = none
    rw [hHo 0 (Ne.symm hid0) (Ne.symm hnid0)]; exact hs.hr.far
  · have h' : S'.H i = some B' := h
    by_cases e2 : i = id
    · subst e2
      rw [hHid] at h'
      cases h'
      refine ⟨by show ver < updE S.nv nid (S.nv nid + 1) i; rw [updE_other _ _ hne]; exact hver, ?_⟩
      cases eb : β i with
      | none => have := hbr.void eb; rw [show xs = [] from this] at hk; simp at hk
      | some q =>
        obtain ⟨b1, o1, n1⟩ := q
        obtain ⟨q1, q2, q3, arr, T, q4, q5, q6⟩ := hbr.some eb
        refine .mk ((hβo i hne).trans eb) ⟨?_, ?_, by simpa using q3, arr, T, q4, q5, fun k' j' x' v hk' hj' => ?_⟩
        · show moveσ p [nid] (σ b1) = [i]
          rw [show σ b1 = [i] from q1]
          exact moveσ_out fun r h => by simp [p] at h
        · intro y hy
          rcases List.mem_or_eq_of_mem_set hy with h | rfl
          · exact q2 y h
          · simpa using q2 x (List.mem_of_getElem? hk)
        · have hk2 : (xs.set k (x.set j (.own nid (S.nv nid) 0 ys.length)))[k']? = some x' := hk'
          have near2 : ∀ (k2 j2 : Nat), (k2 ≠ k ∨ j2 ≠ j) → Near w σ w σ' [i, k2, j2] := fun k2 j2 hne2 => hnear _ fun r s _ h => by
            simp only [p, List.cons_append, List.nil_append, List.cons.injEq] at h
            rcases hne2 with h2 | h2
            · exact h2 h.2.1
            · exact h2 h.2.2.1
          rw [List.getElem?_set] at hk2
          by_cases ek : k = k'
          · subst ek
            rw [if_pos rfl, if_pos (List.getElem?_eq_some_iff.1 hk).1] at hk2
            cases hk2
            rw [List.getElem?_set] at hj'
            by_cases ej : j = j'
            · subst ej
              rw [if_pos rfl, if_pos (List.getElem?_eq_some_iff.1 hj).1] at hj'
              cases hj'
              obtain ⟨arr2, T2, g1, g2⟩ := hcm b1 o1 n1 eb
              have : w.heap[b1]? = some (.cells arr T (0, 0)) := q4
              rw [this] at g1
              cases g1
              refine ⟨_, g2, .own _ _ _ _ _ _ _ _ hn (by show S.nv nid < updE S.nv nid (S.nv nid + 1) nid; rw [updE_same]; omega) (by omega) hmax fun B hB' hv' => ?_⟩
              have h3 : S'.H nid = some B := hB'
              rw [hHn] at h3
              cases h3
              refine ⟨by simp, ?_⟩
              by_cases h0 : cap = 0
              · exact .inl h0
              · obtain ⟨hA1, _⟩ := hT rfl (by omega)
                refine .inr ⟨b, off, cap, ?_, by rw [hA1]; simp, by omega⟩
                show updE β nid _ nid = _
                rw [updE_same, if_neg h0]
            · rw [if_neg ej] at hj'
              obtain ⟨c2, g3, g4⟩ := q6 k j' x v hk hj'
              exact ⟨c2, g3, g4.mono hext (near2 k j' (.inr (Ne.symm ej)))⟩
          · rw [if_neg ek] at hk2
            obtain ⟨c2, g3, g4⟩ := q6 k' j' x' v hk2 hj'
            exact ⟨c2, g3, g4.mono hext (near2 k' j' (.inl (Ne.symm ek)))⟩
    · by_cases e3 : i = nid
      · subst e3
        rw [hHn] at h'
        cases h'
        refine ⟨by show S.nv i < updE S.nv i (S.nv i + 1) i; rw [updE_same]; omega, ?_⟩
        by_cases h0 : cap = 0
        · have hy : ys = [] := List.length_eq_zero_iff.1 (by omega)
          exact .mk_void (by show updE β i _ i = none; rw [updE_same, if_pos h0]) hy
        · obtain ⟨hA1, hp, hσb, arr, T, hh, hsz⟩ := hT rfl (by omega)
          refine .mk (by show updE β i _ i = some (b, off, cap); rw [updE_same, if_neg h0]) ⟨?_, hx, by show ys.length ≤ cap; omega, arr, T, hh, hsz, fun k' j' x' v hk' hj' => ?_⟩
          · show moveσ p [i] (σ b) = [i]
            rw [show σ b = p ++ [] from by have h9 : σ b = [id, k, j] := hσb; simpa [p] using h9, moveσ_in]; rfl
          · obtain ⟨h1, _⟩ := hcc k' j' x' v hk' hj'
            have h2 := hr k' j' x' v hk' hj'
            rw [if_pos rfl] at h2
            refine ⟨cs k' j', by rw [← cell_of_heap hh]; exact h1, .c (h2.move hσnil (fun b2 r hp2 hσ2 => ?_) (fun _ => by simp))⟩
            show moveσ p [i] (σ b2) = [i, k', j'] ++ r
            rw [show σ b2 = p ++ ([k', j'] ++ r) from by rw [show σ b2 = _ from hσ2]; simp [p], moveσ_in]
            rfl
      · rw [hHo i e2 e3] at h'
        obtain ⟨h1, h2⟩ := hs.hr.blk i B' h'
        exact ⟨by show B'.ver < updE S.nv nid (S.nv nid + 1) i; rw [updE_other _ _ e3]; exact h1, h2.mono hext (hβo i e3) (hnear [i] fun r s _ h => by
          simp only [p, List.cons_append, List.nil_append, List.cons.injEq] at h
          exact e2 h.1)⟩
  · show moveσ p [nid] (σ b') = F.σ0 b'
    rw [hs.kp.free b' hb' h0]
    rcases h0 with h0 | h0
    · rw [h0]; exact moveσ_nil (by simp [p])
    · rw [h0]; exact moveσ_zero (by simp [p]) (by simp [p]; exact hid0)
  · show β' i = F.β0 i
    rw [hβo i (by omega)]; exact hs.inn i hi
theorem RSx.putN (hs : RSx F S a w σ β) {id nid ver es k j e nver : Nat} {xs : List (List V)} {x : List V} {ys : List (List V)} (hB : S.H id = some ⟨ver, es, xs⟩) (hk : xs[k]? = some x) (hj : x[j]? = some (.own nid nver 0 ys.length)) (hN : S.H nid = some ⟨nver, e, ys⟩) (hcl : allClosed ⟨nver, e, ys⟩ = true) (hne : id ≠ nid) (hnm : F.m ≤ nid) :
    ∃ σ', RSx F ⟨S.env, updE (updE S.H nid none) id (some ⟨ver, es, xs.set k (x.set j (.row true e ys))⟩), S.nv⟩ a w σ' β := by
  have hid0 : id ≠ 0 := by rintro rfl; have h0 : S.H 0 = none := hs.hr.far; rw [h0] at hB; cases hB
  have hnid0 : nid ≠ 0 := by rintro rfl; have h0 : S.H 0 = none := hs.hr.far; rw [h0] at hN; cases hN
  obtain ⟨hver, hbr⟩ := hs.hr.blk id _ hB
  obtain ⟨hnver, hnbr⟩ := hs.hr.blk nid _ hN
  let p : List Nat := [id, k, j]
  let σ' : Nat → List Nat := fun b => moveσ [nid] p (σ b)
  let S' : St := ⟨S.env, updE (updE S.H nid none) id (some ⟨ver, es, xs.set k (x.set j (.row true e ys))⟩), S.nv⟩
  have hHid : S'.H id = some ⟨ver, es, xs.set k (x.set j (.row true e ys))⟩ := updE_same _ _ _
  have hHn : S'.H nid = none := (updE_other _ _ (Ne.symm hne)).trans (updE_same _ _ _)
  have hHo : ∀ i, i ≠ id → i ≠ nid → S'.H i = S.H i := fun i h1 h2 => (updE_other _ _ h1).trans (updE_other _ _ h2)
  have hσnil : ∀ b, σ b = [] → σ' b = [] := fun b h => by show moveσ [nid] p (σ b) = []; rw [h]; exact moveσ_nil (by simp)
  have hnear : ∀ q, (∀ r s, q ≠ [] → q ++ r ≠ nid :: s) → Near w σ w σ' q := by
    intro q hq b' _ hc'
    refine ⟨rfl, ?_⟩
    show moveσ [nid] p (σ b') = σ b'
    rcases hc' with h | ⟨hq0, r, hr'⟩
    · rw [h]; exact moveσ_nil (by simp)
    · refine moveσ_out fun s h => hq r s hq0 ?_
      rw [hr']; exact h
  have hext : Ext (S.cx w σ β) (S'.cx w σ' β) := by
    refine ⟨fun i => Nat.le_refl _, fun i B' h hv => ?_⟩
    have h' : S'.H i = some B' := h
    by_cases e2 : i = id
    · subst e2; rw [hHid] at h'; cases h'; exact ⟨_, hB, rfl, rfl, by simp, rfl⟩
    · by_cases e3 : i = nid
      · subst e3; rw [hHn] at h'; cases h'
      · rw [hHo i e2 e3] at h'; exact ⟨B', h', rfl, rfl, rfl, rfl⟩
  refine ⟨σ', ⟨⟨?_, fun i B' h => ?_, fun b' hb' => hσnil b' (hs.hr.new b' hb')⟩, hs.mpos, ⟨hs.kp.os, hs.kp.tape, hs.kp.output, hs.kp.size, hs.kp.heap, fun b' hb' h0 => ?_⟩, hs.inn, fun t => (hs.env t).mono hext (hnear [] (fun r s h => absurd rfl h))⟩⟩
  · show S'.H 0 = none
    rw [hHo 0 (Ne.symm hid0) (Ne.symm hnid0)]; exact hs.hr.far
  · have h' : S'.H i = some B' := h
    by_cases e2 : i = id
    · subst e2
      rw [hHid] at h'
      cases h'
      refine ⟨hver, ?_⟩
      cases eb : β i with
      | none => have := hbr.void eb; rw [show xs = [] from this] at hk; simp at hk
      | some q =>
        obtain ⟨b1, o1, n1⟩ := q
        obtain ⟨q1, q2, q3, arr, T, q4, q5, q6⟩ := hbr.some eb
        have near2 : ∀ r : List Nat, Near w σ w σ' (i :: r) := fun r => hnear _ fun r' s _ h => by
          simp only [List.cons_append, List.cons.injEq] at h
          exact hne h.1
        refine .mk eb ⟨?_, ?_, by simpa using q3, arr, T, q4, q5, fun k' j' x' v hk' hj' => ?_⟩
        · show moveσ [nid] p (σ b1) = [i]
          rw [show σ b1 = [i] from q1]
          exact moveσ_out fun r h => by simp at h; exact hne h.1
        · intro y hy
          rcases List.mem_or_eq_of_mem_set hy with h | rfl
          · exact q2 y h
          · simpa using q2 x (List.mem_of_getElem? hk)
        · have hk2 : (xs.set k (x.set j (.row true e ys)))[k']? = some x' := hk'
          rw [List.getElem?_set] at hk2
          by_cases ek : k = k'
          · subst ek
            rw [if_pos rfl, if_pos (List.getElem?_eq_some_iff.1 hk).1] at hk2
            cases hk2
            rw [List.getElem?_set] at hj'
            by_cases ej : j = j'
            · subst ej
              rw [if_pos rfl, if_pos (List.getElem?_eq_some_iff.1 hj).1] at hj'
              cases hj'
              obtain ⟨c, g3, g4⟩ := q6 k j x _ hk hj
              refine ⟨c, g3, .c ?_⟩
              cases g4 with
              | c h => cases h
              | own _ _ _ _ _ A n cap hn hv hcap hmax hb =>
                obtain ⟨f1, f2⟩ := hb _ hN rfl
                have f2 : OwnAt (S.cx w σ β) nid 0 cap e A := f2
                rcases f2 with h0 | ⟨b, o, m, hb1, hb2, hb3⟩
                · have hy : ys = [] := List.length_eq_zero_iff.1 (by omega)
                  subst hy
                  exact .row _ true e [] A n cap 0 0 (fun _ _ => default) hn (by omega) hmax (by intro h; simp at hn; omega) (fun _ h => by omega) (by simp) (by simp) (by simp)
                · obtain ⟨m1, m2, m3, arr2, T2, m4, m5, m6⟩ := hnbr.some hb1
                  have hmul : o + cap * e ≤ arr2.size := Nat.le_trans (Nat.add_le_add_left (Nat.mul_le_mul_right e (by omega)) o) m5
                  have hA : A = some ⟨b, o, none⟩ := by rw [hb2]; simp
                  have hcl2 : ∀ (k' j' : Nat) (x' : List V) (v : V), ys[k']? = some x' → x'[j']? = some v → v.closed = true := fun k' j' x' v hk' hj' =>
                    List.all_eq_true.1 (List.all_eq_true.1 hcl x' (List.mem_of_getElem? hk')) v (List.mem_of_getElem? hj')
                  refine .row _ true e ys A n cap b o (fun k' j' => (arr2[o + k' * e + j']?).getD default) hn (by omega) hmax (fun _ => hA) (fun _ _ => ⟨hA, by simp, ?_, arr2, T2, m4, hmul⟩) m2 (fun k' j' x' v hk' hj' => ?_) (fun k' j' x' v hk' hj' => ?_)
                  · show moveσ [nid] p (σ b) = [i, k, j]
                    rw [show σ b = [nid] ++ [] from m1, moveσ_in]; rfl
                  · obtain ⟨c2, g5, g6⟩ := m6 k' j' x' v hk' hj'
                    refine ⟨?_, fun h => by cases h⟩
                    show w.cell? ⟨b, o + k' * e + j', none⟩ = _
                    have m4' : w.heap[b]? = some (.cells arr2 T2 (0, 0)) := m4
                    rw [cell_of_heap m4', g5]; rfl
                  · obtain ⟨c2, g5, g6⟩ := m6 k' j' x' v hk' hj'
                    rw [if_pos rfl]
                    show RC w σ' ([i, k, j] ++ [k', j']) v ((arr2[o + k' * e + j']?).getD default)
                    rw [g5]
                    have g7 : RC w σ [nid, k', j'] v c2 := g6.rc (hcl2 k' j' x' v hk' hj')
                    refine g7.move hσnil (fun b2 r _ hσ2 => ?_) (fun _ => by simp)
                    show moveσ [nid] p (σ b2) = [i, k, j] ++ [k', j'] ++ r
                    rw [show σ b2 = [nid] ++ ([k', j'] ++ r) from hσ2, moveσ_in]
                    rfl
            · rw [if_neg ej] at hj'
              obtain ⟨c2, g3, g4⟩ := q6 k j' x v hk hj'
              exact ⟨c2, g3, g4.mono hext (near2 _)⟩
          · rw [if_neg ek] at hk2
            obtain ⟨c2, g3, g4⟩ := q6 k' j' x' v hk2 hj'
            exact ⟨c2, g3, g4.mono hext (near2 _)⟩
    · by_cases e3 : i = nid
      · subst e3; rw [hHn] at h'; cases h'
      · rw [hHo i e2 e3] at h'
        obtain ⟨h1, h2⟩ := hs.hr.blk i B' h'
        exact ⟨h1, h2.mono hext rfl (hnear [i] fun r s _ h => by
          simp only [List.cons_append, List.nil_append, List.cons.injEq] at h
          exact e3 h.1)⟩
  · show moveσ [nid] p (σ b') = F.σ0 b'
    rw [hs.kp.free b' hb' h0]
    rcases h0 with h0 | h0
    · rw [h0]; exact moveσ_nil (by simp)
    · rw [h0]; exact moveσ_zero (by simp) (by simp; exact hnid0)
end
end Go.Eng
