/- What a row of a claim hands to its function: trees, typed by the table. -/
import Derived.Test.YtemgbggfhohfeaaEng14
import Derived.WalkKit
import Derived.ProofKit
import Derived.OpenShut
import Derived.ShutString
import Derived.ChangeOld
import Derived.SizedLaws
set_option linter.unusedVariables false
set_option linter.unusedSimpArgs false
namespace Go.Eng
open Go.ChangeShapes Go.WideShapes Go.ChangeAt Go.RowKit

def leafFs (f : Nat → Option (List Nat)) (T : Tab) : List (Nat × Nat) → Nat → Option (List Nat)
  | [], _ => some []
  | (off, t) :: r, pos => match f t, tg T t with
    | some l, some j => if off = pos ∧ l.length = j.size then (leafFs f T r (pos + l.length)).map (l ++ ·) else none
    | _, _ => none
/-- A type's cells: their types. -/
def leafs (T : Tab) : Nat → Nat → Option (List Nat)
  | 0, _ => none
  | k + 1, t => match tg T t with
    | none => none
    | some ti => match ti.k with
      | .int _ => some [t]
      | .bool => some [t]
      | .str => some [t]
      | .slice e => match leafs T k e, tg T e with
        | some le, some te => if le.length = te.size ∧ 0 < te.size then some [t] else none
        | _, _ => none
      | .struct gs => match leafFs (leafs T k) T gs 0 with
        | some l => if l.length = ti.size then some l else none
        | none => none
      | .array n e => match leafs T k e, tg T e with
        | some le, some te => if le.length = te.size ∧ n * te.size = ti.size then some (List.replicate n le).flatten else none
        | _, _ => none
      | _ => none

/-- A cell of type t may hold v. -/
inductive Lf (T : Tab) : Nat → V → Prop
  | int {t ti k n} (ht : tg T t = some ti) (hk : ti.k = .int k) (hw : (Lit.int k n).wf = true) : Lf T t (.int k n)
  | bool {t ti b} (ht : tg T t = some ti) (hk : ti.k = .bool) : Lf T t (.bool b)
  | str {t ti s} (ht : tg T t = some ti) (hk : ti.k = .str) (hs : s.size ≤ reachBytes) : Lf T t (.str s)
  | row {t ti e te f ls xs} (ht : tg T t = some ti) (hk : ti.k = .slice e) (he : tg T e = some te) (hl : leafs T f e = some ls)
      (hxl : ∀ x ∈ xs, x.length = ls.length) (hx : ∀ x, x ∈ xs → ∀ (i : Nat) l v, ls[i]? = some l → x[i]? = some v → Lf T l v) (hb : xs.length * te.bytes ≤ reachBytes) (hm : xs.length ≤ maxLen) : Lf T t (.row false te.size xs)

def Good (T : Tab) (w : World) (ls : List Nat) (cs : List Value) : Prop :=
  ∃ vs : List V, vs.length = cs.length ∧ ls.length = cs.length ∧ ∀ (i : Nat) c l, cs[i]? = some c → ls[i]? = some l → ∃ v, vs[i]? = some v ∧ RC w (fun _ => []) [] v c ∧ Lf T l v

section
variable {T : Tab} {w : World}
theorem Good.append {l l' : List Nat} {a b : List Value} (h : Good T w l a) (h' : Good T w l' b) : Good T w (l ++ l') (a ++ b) := by
  obtain ⟨vs, h1, h2, h3⟩ := h
  obtain ⟨vs', h1', h2', h3'⟩ := h'
  refine ⟨vs ++ vs', by simp [h1, h1'], by simp [h2, h2'], fun i c x hc hx => ?_⟩
  rcases Nat.lt_or_ge i a.length with hi | hi
  · rw [List.getElem?_append_left hi] at hc
    rw [List.getElem?_append_left (by omega)] at hx
    rw [List.getElem?_append_left (by omega)]
    exact h3 i c x hc hx
  · rw [List.getElem?_append_right hi] at hc
    rw [List.getElem?_append_right (by omega)] at hx
    rw [List.getElem?_append_right (by omega)]
    rw [h1]
    rw [h2] at hx
    exact h3' _ c x hc hx
theorem Good.nil : Good T w [] [] := ⟨[], rfl, rfl, by simp⟩
theorem take_add {α : Type} (l : List α) (p a b : Nat) : (l.drop p).take (a + b) = (l.drop p).take a ++ (l.drop (p + a)).take b := by
  rw [List.take_add, List.drop_drop]

theorem glueFs {f : Nat → Option (List Nat)} {cs : List Value} : ∀ (gs : List (Nat × Nat)) (pos : Nat) (ls : List Nat), leafFs f T gs pos = some ls →
    (∀ (i : Nat) off t l j, gs[i]? = some (off, t) → f t = some l → tg T t = some j → Good T w l ((cs.drop off).take j.size)) → Good T w ls ((cs.drop pos).take ls.length) := by
  intro gs
  induction gs with
  | nil =>
    intro pos ls h _
    simp only [leafFs, Option.some.injEq] at h
    subst h
    simpa using Good.nil
  | cons g r ih =>
    intro pos ls h hg
    obtain ⟨off, t⟩ := g
    simp only [leafFs] at h
    cases e1 : f t with
    | none => simp [e1] at h
    | some l =>
      cases e2 : tg T t with
      | none => simp [e1, e2] at h
      | some j =>
        simp only [e1, e2] at h
        split at h
        · rename_i hc
          obtain ⟨rfl, hl⟩ := hc
          obtain ⟨ls', h1, rfl⟩ := Option.map_eq_some_iff.1 h
          have g0 := hg 0 off t l j rfl e1 e2
          have g1 := ih _ _ h1 (fun i off t l j hi => hg (i + 1) off t l j (by simpa using hi))
          rw [List.length_append, take_add]
          rw [← hl] at g0
          exact g0.append g1
        · cases h
theorem glueArr {le : List Nat} {cs : List Value} {c : Nat} (hl : le.length = c) : ∀ (n pos : Nat), (∀ i, i < n → Good T w le ((cs.drop (pos + i * c)).take c)) → Good T w (List.replicate n le).flatten ((cs.drop pos).take (n * c)) := by
  intro n
  induction n with
  | zero => intro pos _; simpa using Good.nil
  | succ n ih =>
    intro pos h
    have g0 := h 0 (Nat.succ_pos _)
    have g1 := ih (pos + c) (fun i hi => by
      have := h (i + 1) (by omega)
      rwa [Nat.add_mul, Nat.one_mul, Nat.add_comm (i * c) c, ← Nat.add_assoc] at this)
    rw [List.replicate_succ, List.flatten_cons, Nat.add_mul, Nat.one_mul, Nat.add_comm (n * c) c, take_add]
    simp only [Nat.zero_mul, Nat.add_zero] at g0
    exact g0.append g1
end

theorem weights_all {H : Type} {P : Program} {e : TypeId} : ∀ {ds : List (DataW H)} {j : Nat} {d : DataW H}, ds[j]? = some d → ∀ n ∈ d.weights P e, n ∈ DataW.weightsAll P e ds
  | d0 :: ds, 0, d, hd, n, hn => by
    simp only [List.getElem?_cons_zero, Option.some.injEq] at hd
    subst hd
    simp only [DataW.weightsAll, List.mem_append]
    exact Or.inl hn
  | d0 :: ds, j + 1, d, hd, n, hn => by
    simp only [List.getElem?_cons_succ] at hd
    simp only [DataW.weightsAll, List.mem_append]
    exact Or.inr (weights_all hd n hn)
  | [], _, _, hd, _, _ => by simp at hd

theorem Ty.cellsOf {P : Program} {t : Nat} {i : TI} (h : Ty P t i) : P.cellsOf t = i.size := by
  obtain ⟨inf, h1, h2, _⟩ := h.inf
  simp [Program.cellsOf, h1, h2]
theorem Ty.bytesOf {P : Program} {t : Nat} {i : TI} (h : Ty P t i) : P.bytesOf t = i.bytes := by
  obtain ⟨inf, h1, h2, h3, _⟩ := h.inf
  simp [Program.bytesOf, h1, h3]
theorem Ty.bool {P : Program} {t : Nat} {i : TI} (h : Ty P t i) (hk : i.k = .bool) : P.underlying t = some .bool := by
  obtain ⟨d, h1, h2⟩ := h.und
  rw [hk] at h2
  cases d <;> simp_all [okK]

theorem Good.one {T : Tab} {w : World} {t : Nat} {v : V} {c : Value} (h : RC w (fun _ => []) [] v c) (h2 : Lf T t v) : Good T w [t] [c] := by
  refine ⟨[v], rfl, rfl, fun i c' l hc hl => ?_⟩
  cases i with
  | zero =>
    simp only [List.getElem?_cons_zero, Option.some.injEq] at hc hl
    subst hc; subst hl
    exact ⟨v, rfl, h, h2⟩
  | succ i => simp at hc

theorem cells_some {w : World} {base : Nat} {a : Addr} {n : Nat} {cs : List Value} (h : w.cells? base a n = some cs) : cs.length = n ∧ ∀ (i : Nat) c, cs[i]? = some c → w.cell? (a.add i) = some c := by
  unfold World.cells? at h
  split at h
  · have h1 := mapM_some_length h
    simp at h1
    refine ⟨h1, fun i c hi => ?_⟩
    have hlt : i < n := by rw [← h1]; exact (List.getElem?_eq_some_iff.1 hi).1
    have := mapM_some_get h i i (by simp [hlt])
    rw [this, hi]
  · cases h

theorem open_trod {H : Type} {enc : TypeId × Value → H} {P : Program} {T : Tab} (hT : TabOk P T) {w : World} {spare : Nat → Bool} : ∀ (m k : Nat) (t : TypeId) (cs : List Value) (x : DataW H × List MemPlace) (ls : List Nat),
    DataW.trod enc P w 0 spare true m t cs = some x → leafs T k t = some ls → (∀ n ∈ x.1.weights P t, n ≤ reachBytes) → Good T w ls cs := by
  intro m
  induction m with
  | zero => intro k t cs x ls h _ _; simp [DataW.trod] at h
  | succ m ih =>
    intro k t cs x ls h hl hw
    cases k with
    | zero => simp [leafs] at hl
    | succ k =>
      simp only [leafs] at hl
      cases et : tg T t with
      | none => simp [et] at hl
      | some ti =>
        simp only [et] at hl
        have hty := hT.ty et
        cases ek : ti.k with
        | int kd =>
          simp only [ek, Option.some.injEq] at hl
          subst hl
          obtain ⟨n, rfl, _, hwf⟩ := DataW.trod_int (hty.int ek) h
          exact Good.one (.int _ _ _) (.int et ek hwf)
        | bool =>
          simp only [ek, Option.some.injEq] at hl
          subst hl
          obtain ⟨b, rfl, _⟩ := DataW.trod_bool (hty.bool ek) h
          exact Good.one (.bool _ _) (.bool et ek)
        | str =>
          simp only [ek, Option.some.injEq] at hl
          subst hl
          obtain ⟨s, rfl, rfl, _⟩ := DataW.trod_string (hty.str ek) h
          refine Good.one (.str _ _) (.str et ek ?_)
          have := hw s.data.toList.length (by simp [DataW.weights])
          simpa using this
        | slice e =>
          simp only [ek] at hl
          cases e1 : leafs T k e with
          | none => simp [e1] at hl
          | some le =>
            cases e2 : tg T e with
            | none => simp [e1, e2] at hl
            | some te =>
              simp only [e1, e2] at hl
              split at hl
              · rename_i hc
                obtain ⟨hlen, hpos⟩ := hc
                simp only [Option.some.injEq] at hl
                subst hl
                have hu := hty.slice ek
                have hce : P.cellsOf e = te.size := (hT.ty e2).cellsOf
                have hbe : P.bytesOf e = te.bytes := (hT.ty e2).bytesOf
                rcases DataW.trod_slice hu h with ⟨rfl, rfl⟩ | ⟨a, len, cap, elems, rest, n, hn, rfl, rfl, hb, hlc, hm, hel, hat, _, _⟩
                · refine Good.one (.row [] false te.size [] none 0 0 0 0 (fun _ _ => default) rfl (Nat.le_refl _) (by simp [maxLen]) (fun h => absurd h (by omega)) (fun h => by cases h) (by simp) (by simp) (by simp)) (.row et ek e2 e1 (by simp) (by simp) (by simp) (by simp [maxLen]))
                · cases hn
                  -- each element
                  have elem : ∀ i, i < len → ∃ cs y, w.cells? 0 (a.add (i * P.cellsOf e)) (P.cellsOf e) = some cs ∧ DataW.trod enc P w 0 spare true m e cs = some y ∧ elems[i]? = some y := by
                    intro i hi
                    have h1 := hat i hi
                    have h2 : elems[i]? = some elems[i] := List.getElem?_eq_getElem (by omega)
                    rw [h2] at h1
                    obtain ⟨cs, h3, h4⟩ := Option.bind_eq_some_iff.1 h1
                    exact ⟨cs, _, h3, h4, h2⟩
                  have good : ∀ i, i < len → ∃ (cs : List Value) (vs : List V), w.cells? 0 (a.add (i * te.size)) te.size = some cs ∧ vs.length = te.size ∧ ∀ (j : Nat) c l, cs[j]? = some c → le[j]? = some l → ∃ v, vs[j]? = some v ∧ RC w (fun _ => []) [] v c ∧ Lf T l v := by
                    intro i hi
                    obtain ⟨cs, y, h1, h2, h3⟩ := elem i hi
                    have hwy : ∀ n ∈ y.1.weights P e, n ≤ reachBytes := by
                      intro n hn
                      refine hw n ?_
                      simp only [DataW.weights, hu]
                      refine List.mem_cons_of_mem _ (List.mem_append_left _ (weights_all (j := i) (d := y.1) ?_ n hn))
                      rw [List.getElem?_map, h3]; rfl
                    obtain ⟨vs, g1, g2, g3⟩ := ih k e cs y le h2 e1 hwy
                    rw [hce] at h1
                    exact ⟨cs, vs, h1, by rw [g1, (cells_some h1).1], g3⟩
                  have hspot : 0 < len → a.spot = none := by
                    intro h0
                    obtain ⟨cs, vs, h1, h2, h3⟩ := good 0 h0
                    obtain ⟨q1, q2⟩ := cells_some h1
                    have h5 : cs[0]? = some cs[0] := List.getElem?_eq_getElem (by omega)
                    have := q2 0 _ h5
                    simp only [Nat.zero_mul] at this
                    unfold World.cell? at this
                    split at this
                    · split at this
                      · cases this
                      · rename_i hns
                        simp [Addr.add] at hns
                        exact hns
                    · cases this
                  -- the rows, chosen
                  have hch : ∃ xs : List (List V), xs.length = len ∧ ∀ (i : Nat) x, xs[i]? = some x → ∃ cs, w.cells? 0 (a.add (i * te.size)) te.size = some cs ∧ x.length = te.size ∧ ∀ (j : Nat) c l, cs[j]? = some c → le[j]? = some l → ∃ v, x[j]? = some v ∧ RC w (fun _ => []) [] v c ∧ Lf T l v := by
                    have : ∀ n, n ≤ len → ∃ xs : List (List V), xs.length = n ∧ ∀ (i : Nat) x, xs[i]? = some x → ∃ cs, w.cells? 0 (a.add (i * te.size)) te.size = some cs ∧ x.length = te.size ∧ ∀ (j : Nat) c l, cs[j]? = some c → le[j]? = some l → ∃ v, x[j]? = some v ∧ RC w (fun _ => []) [] v c ∧ Lf T l v := by
                      intro n
                      induction n with
                      | zero => intro _; exact ⟨[], rfl, by simp⟩
                      | succ n ihn =>
                        intro hn
                        obtain ⟨xs, h1, h2⟩ := ihn (by omega)
                        obtain ⟨cs, vs, g1, g2, g3⟩ := good n (by omega)
                        refine ⟨xs ++ [vs], by simp [h1], fun i x hi => ?_⟩
                        rcases Nat.lt_or_ge i n with hlt | hge
                        · rw [List.getElem?_append_left (by omega)] at hi
                          exact h2 i x hi
                        · rw [List.getElem?_append_right (by omega)] at hi
                          have : i = n := by
                            have := (List.getElem?_eq_some_iff.1 hi).1
                            simp at this
                            omega
                          subst this
                          simp [h1] at hi
                          subst hi
                          exact ⟨cs, g1, g2, g3⟩
                    exact this len (Nat.le_refl _)
                  obtain ⟨xs, hxl, hxs⟩ := hch
                  have cell : ∀ (k' j : Nat) x v, xs[k']? = some x → x[j]? = some v → w.cell? ⟨a.block, a.off + k' * te.size + j, none⟩ = some ((w.cell? ⟨a.block, a.off + k' * te.size + j, none⟩).getD undef) ∧ RC w (fun _ => []) [] v ((w.cell? ⟨a.block, a.off + k' * te.size + j, none⟩).getD undef) ∧ ∀ l, le[j]? = some l → Lf T l v := by
                    intro k' j x v hk hj
                    obtain ⟨cs, g1, g2, g3⟩ := hxs k' x hk
                    obtain ⟨q1, q2⟩ := cells_some g1
                    have hjl : j < te.size := by rw [← g2]; exact (List.getElem?_eq_some_iff.1 hj).1
                    have hcj : cs[j]? = some cs[j] := List.getElem?_eq_getElem (by omega)
                    have hlj : le[j]? = some le[j] := List.getElem?_eq_getElem (by omega)
                    obtain ⟨v', g4, g5, g6⟩ := g3 j _ _ hcj hlj
                    rw [hj] at g4
                    cases g4
                    have hk0 : k' < len := by rw [← hxl]; exact (List.getElem?_eq_some_iff.1 hk).1
                    have hns := hspot (by omega)
                    have hc := q2 j _ hcj
                    have ea : (a.add (k' * te.size)).add j = ⟨a.block, a.off + k' * te.size + j, none⟩ := by
                      obtain ⟨ab, ao, as⟩ := a
                      simp only at hns
                      subst hns
                      rw [add_plain, add_plain]
                    rw [ea] at hc
                    rw [hc]
                    exact ⟨rfl, g5, fun l hl => by rw [hlj] at hl; cases hl; exact g6⟩
                  refine Good.one (.row [] false te.size xs (some a) len cap a.block a.off (fun k j => (w.cell? ⟨a.block, a.off + k * te.size + j, none⟩).getD undef) hxl.symm hlc hm ?_ (fun h => by cases h) ?_ ?_ ?_) (.row et ek e2 e1 ?_ ?_ ?_ ?_)
                  · intro h0
                    have := hspot h0
                    obtain ⟨ab, ao, as⟩ := a
                    simp only at this
                    subst this
                    rfl
                  · intro x hx
                    obtain ⟨i, hi⟩ := List.mem_iff_getElem?.1 hx
                    obtain ⟨_, _, g2, _⟩ := hxs i x hi
                    exact g2
                  · intro k' j x v hk hj
                    exact ⟨(cell k' j x v hk hj).1, fun _ => rfl⟩
                  · intro k' j x v hk hj
                    exact (cell k' j x v hk hj).2.1
                  · intro x hx
                    obtain ⟨i, hi⟩ := List.mem_iff_getElem?.1 hx
                    obtain ⟨_, _, g2, _⟩ := hxs i x hi
                    rw [g2, hlen]
                  · intro x hx j l v hl hj
                    obtain ⟨i, hi⟩ := List.mem_iff_getElem?.1 hx
                    exact (cell i j x v hi hj).2.2 l hl
                  · have := hw ((elems.length + rest.length) * P.bytesOf e) (by simp [DataW.weights, hu])
                    rw [hbe] at this
                    rw [hxl, ← hel]
                    exact Nat.le_trans (Nat.mul_le_mul_right _ (Nat.le_add_right _ _)) this
                  · omega
              · cases hl
        | struct gs =>
          simp only [ek] at hl
          cases e1 : leafFs (leafs T k) T gs 0 with
          | none => simp [e1] at hl
          | some l =>
            simp only [e1] at hl
            split at hl
            · rename_i hlen
              simp only [Option.some.injEq] at hl
              subst hl
              obtain ⟨fs, hu, hfs⟩ := hty.struct ek
              obtain ⟨xs, n, hn, rfl, hcl, hxl, hat⟩ := DataW.trod_struct hu h
              cases hn
              have := glueFs (w := w) (cs := cs) gs 0 l e1 (fun i off ft l' j hi hf hj => by
                rw [← hfs, List.getElem?_map] at hi
                obtain ⟨fd, h1, h2⟩ := Option.map_eq_some_iff.1 hi
                simp only [Prod.mk.injEq] at h2
                obtain ⟨rfl, rfl⟩ := h2
                have hfd : fs[i]? = some fd := by simpa using h1
                have h3 := hat i fd hfd
                have hix : i < xs.length := by rw [hxl]; exact (Array.getElem?_eq_some_iff.1 hfd).1
                rw [List.getElem?_eq_getElem hix, (hT.ty hj).cellsOf] at h3
                refine ih k _ _ _ _ h3 hf (fun n hn => hw n ?_)
                simp only [DataW.weights, hu]
                refine DataW.weights_mem_each (j := i) (t := fd.type) ?_ ?_ n hn
                · rw [List.getElem?_map, h1]; rfl
                · rw [List.getElem?_map, List.getElem?_eq_getElem hix]; rfl)
              have hcl' : cs.length = l.length := by rw [hcl, hty.cellsOf, hlen]
              rw [← hcl'] at this
              simpa using this
            · cases hl
        | array n e =>
          simp only [ek] at hl
          cases e1 : leafs T k e with
          | none => simp [e1] at hl
          | some le =>
            cases e2 : tg T e with
            | none => simp [e1, e2] at hl
            | some te =>
              simp only [e1, e2] at hl
              split at hl
              · rename_i hc
                obtain ⟨hlen, hsz⟩ := hc
                simp only [Option.some.injEq] at hl
                subst hl
                have hu := hty.array ek
                have hce : P.cellsOf e = te.size := (hT.ty e2).cellsOf
                obtain ⟨xs, m', hm, rfl, hcl, hxl, hat⟩ := DataW.trod_array hu h
                cases hm
                have := glueArr (w := w) (T := T) (cs := cs) hlen n 0 (fun i hi => by
                  have h3 := hat i hi
                  have hix : i < xs.length := by omega
                  rw [List.getElem?_eq_getElem hix, hce] at h3
                  rw [Nat.zero_add]
                  refine ih k _ _ _ _ h3 e1 (fun n hn => hw n ?_)
                  simp only [DataW.weights, hu]
                  refine weights_all (j := i) ?_ n hn
                  rw [List.getElem?_map, List.getElem?_eq_getElem hix]; rfl)
                have hcl' : n * te.size = cs.length := by rw [hcl, hty.cellsOf, hsz]
                rw [hcl'] at this
                simpa using this
              · cases hl
        | ptr e => simp [ek] at hl
        | other => simp [ek] at hl
end Go.Eng
