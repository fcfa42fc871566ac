/- A row of a claim, from the contract of its function. -/
import Derived.Test.YtemgbggfhohfeaaEng15
set_option linter.unusedVariables false
set_option linter.unusedSimpArgs false
namespace Go.Eng
open Go.ChangeShapes Go.WideShapes Go.ChangeAt Go.RowKit

/-- x may be handed where type t is asked. -/
def TA (T : Tab) (t : Nat) (x : A) : Prop :=
  ∃ ti ls, tg T t = some ti ∧ leafs T 50 t = some ls ∧
    ((ti.k.agg = true ∧ ∃ vs, x = .g vs ∧ vs.length = ls.length ∧ ∀ (i : Nat) l v, ls[i]? = some l → vs[i]? = some v → Lf T l v) ∨ (ti.k.agg = false ∧ ∃ v, x = .c v ∧ Lf T t v))
def TAs (T : Tab) : List Nat → List A → Prop
  | [], [] => True
  | t :: ts, x :: xs => TA T t x ∧ TAs T ts xs
  | _, _ => False

theorem not_agg {P : Program} {T : Tab} (hT : TabOk P T) {w : World} {base t : Nat} {ti : TI} {v : Value} (ht : tg T t = some ti) (hk : match ti.k with | .int _ => True | .bool => True | .str => True | .slice _ => True | _ => False) (h : Value.okWide P w .any base t v) : v.cells = #[v] := by
  have hty := hT.ty ht
  cases ek : ti.k with
  | int k =>
    have hu := hty.int ek
    cases v <;> simp [Value.okWide, hu, Cell.okWide, Cell.ok] at h ⊢ <;> rfl
  | bool =>
    have hu := hty.bool ek
    cases v <;> simp [Value.okWide, hu, Cell.okWide, Cell.ok] at h ⊢ <;> rfl
  | str =>
    have hu := hty.str ek
    cases v <;> simp [Value.okWide, hu, Cell.okWide, Cell.ok] at h ⊢ <;> rfl
  | slice e =>
    have hu := hty.slice ek
    cases v <;> simp [Value.okWide, hu, Cell.okWide, Cell.ok] at h ⊢ <;> rfl
  | _ => rw [ek] at hk; exact hk.elim

theorem Good.ra {T : Tab} {w : World} {ls : List Nat} {cs : Array Value} (h : Good T w ls cs.toList) (β : Nat → Option (Nat × Nat × Nat)) :
    ∃ vs : List V, vs.length = ls.length ∧ (∀ (i : Nat) l v, ls[i]? = some l → vs[i]? = some v → Lf T l v) ∧ ∀ (i : Nat) v, vs[i]? = some v → ∃ c, cs[i]? = some c ∧ RV ⟨w, fun _ => [], β, getH [], fun _ => 1⟩ [] v c := by
  obtain ⟨vs, h1, h2, h3⟩ := h
  refine ⟨vs, by omega, fun i l v hl hv => ?_, fun i v hv => ?_⟩
  · have hlt : i < cs.toList.length := by rw [← h2]; exact (List.getElem?_eq_some_iff.1 hl).1
    obtain ⟨v', g1, g2, g3⟩ := h3 i _ l (List.getElem?_eq_getElem hlt) hl
    rw [hv] at g1
    cases g1
    exact g3
  · have hlt : i < cs.toList.length := by rw [← h1]; exact (List.getElem?_eq_some_iff.1 hv).1
    have hl : ls[i]? = some ls[i] := List.getElem?_eq_getElem (by omega)
    obtain ⟨v', g1, g2, g3⟩ := h3 i _ _ (List.getElem?_eq_getElem hlt) hl
    rw [hv] at g1
    cases g1
    exact ⟨_, by simp, .c g2⟩

theorem open_arg {H : Type} {enc : TypeId × Value → H} {P : Program} {T : Tab} (hT : TabOk P T) {w : World} {spare : Nat → Bool} {base t : Nat} {v : Value} {d : DataW H} {ps : List MemPlace} (h : DataW.Trod enc P w 0 spare true t v d ps) (hok : Value.okWide P w .any base t v)
    (hl : (leafs T 50 t).isSome = true) (hw : ∀ n ∈ d.weights P t, n ≤ reachBytes) (β : Nat → Option (Nat × Nat × Nat)) : ∃ x, TA T t x ∧ RA ⟨w, fun _ => [], β, getH [], fun _ => 1⟩ x v := by
  obtain ⟨fuel, hf⟩ := h
  cases el : leafs T 50 t with
  | none => rw [el] at hl; cases hl
  | some ls =>
    have hg := open_trod hT fuel 50 t v.cells.toList (d, ps) ls hf el hw
    obtain ⟨vs, g1, g2, g3⟩ := hg.ra β
    have el0 := el
    unfold leafs at el
    cases et : tg T t with
    | none => simp [et] at el
    | some ti =>
      simp only [et] at el
      have hty := hT.ty et
      have scal : ls = [t] → ti.k.agg = false → v.cells = #[v] → ∃ x, TA T t x ∧ RA ⟨w, fun _ => [], β, getH [], fun _ => 1⟩ x v := by
        intro e1 e2 e3
        subst e1
        match vs, g1 with
        | [u], _ =>
          obtain ⟨c, q1, q2⟩ := g3 0 u rfl
          rw [e3] at q1
          simp at q1
          subst q1
          exact ⟨.c u, ⟨ti, [t], et, el0, .inr ⟨e2, u, rfl, g2 0 t u rfl rfl⟩⟩, .c q2⟩
      have aggr : ti.k.agg = true → (∃ cs, v = .agg cs) → ∃ x, TA T t x ∧ RA ⟨w, fun _ => [], β, getH [], fun _ => 1⟩ x v := by
        rintro e2 ⟨cs, rfl⟩
        refine ⟨.g vs, ⟨ti, ls, et, el0, .inl ⟨e2, vs, rfl, g1, g2⟩⟩, .g vs cs ?_ g3⟩
        obtain ⟨vs', k1, k2, _⟩ := hg
        have : cs.toList.length = ls.length := k2.symm
        simpa [g1] using this
      cases ek : ti.k with
      | int k => simp only [ek, Option.some.injEq] at el; exact scal el.symm (by rw [ek]; rfl) (not_agg hT et (by rw [ek]; trivial) hok)
      | bool => simp only [ek, Option.some.injEq] at el; exact scal el.symm (by rw [ek]; rfl) (not_agg hT et (by rw [ek]; trivial) hok)
      | str => simp only [ek, Option.some.injEq] at el; exact scal el.symm (by rw [ek]; rfl) (not_agg hT et (by rw [ek]; trivial) hok)
      | slice e =>
        refine scal ?_ (by rw [ek]; rfl) (not_agg hT et (by rw [ek]; trivial) hok)
        simp only [ek] at el
        cases e1 : leafs T 49 e with
        | none => simp [e1] at el
        | some le =>
          cases e2 : tg T e with
          | none => simp [e1, e2] at el
          | some te =>
            simp only [e1, e2] at el
            split at el
            · exact (Option.some.inj el).symm
            · cases el
      | struct gs =>
        obtain ⟨fs, hu, _⟩ := hty.struct ek
        simp only [Value.okWide, hu] at hok
        obtain ⟨cs, h1, _⟩ := hok
        exact aggr (by rw [ek]; rfl) ⟨cs, h1⟩
      | array n e =>
        have hu := hty.array ek
        simp only [Value.okWide, hu] at hok
        obtain ⟨cs, h1, _⟩ := hok
        exact aggr (by rw [ek]; rfl) ⟨cs, h1⟩
      | ptr e => simp [ek] at el
      | other => simp [ek] at el

theorem open_args {H : Type} {enc : TypeId × Value → H} {P : Program} {T : Tab} (hT : TabOk P T) {w : World} {spare : Nat → Bool} {base : Nat} (β : Nat → Option (Nat × Nat × Nat)) : ∀ (ts : List TypeId) (vs : List Value) (ds : List (DataW H)) (ps : List MemPlace), DataW.TrodAll enc P w 0 spare true ts vs ds ps →
    (∀ (j : Nat) t v, ts[j]? = some t → vs[j]? = some v → Value.okWide P w .any base t v) → (∀ t ∈ ts, (leafs T 50 t).isSome = true) → (∀ n ∈ DataW.weightsEach P ts ds, n ≤ reachBytes) →
    ds.length = ts.length ∧ ∃ xs, xs.length = vs.length ∧ TAs T ts xs ∧ ∀ (i : Nat) x, xs[i]? = some x → ∃ v, vs[i]? = some v ∧ RA ⟨w, fun _ => [], β, getH [], fun _ => 1⟩ x v
  | [], [], [], ps, h, _, _, _ => ⟨rfl, [], rfl, trivial, by simp⟩
  | t :: ts, v :: vs, d :: ds, ps, h, hok, hl, hw => by
    obtain ⟨p, q, h1, h2, rfl⟩ := h
    simp only [DataW.weightsEach, List.mem_append] at hw
    obtain ⟨x, hx1, hx2⟩ := open_arg hT h1 (hok 0 t v rfl rfl) (hl t (by simp)) (fun n hn => hw n (.inl hn)) β
    obtain ⟨hdl, xs, hxl, hxs, hxr⟩ := open_args hT β ts vs ds q h2 (fun j t v ht hv => hok (j + 1) t v (by simpa using ht) (by simpa using hv)) (fun t ht => hl t (by simp [ht])) (fun n hn => hw n (.inr hn))
    refine ⟨by simp [hdl], x :: xs, by simp [hxl], ⟨hx1, hxs⟩, fun i y hy => ?_⟩
    cases i with
    | zero => simp only [List.getElem?_cons_zero, Option.some.injEq] at hy; subst hy; exact ⟨v, rfl, hx2⟩
    | succ i => simpa using hxr i y (by simpa using hy)
  | [], [], _ :: _, _, h, _, _, _ => h.elim
  | [], _ :: _, _, _, h, _, _, _ => by cases ‹List (DataW H)› <;> exact h.elim
  | _ :: _, [], _, _, h, _, _, _ => by cases ‹List (DataW H)› <;> exact h.elim
  | _ :: _, _ :: _, [], _, h, _, _, _ => h.elim

theorem back_args {H : Type} {enc : TypeId × Value → H} {P : Program} (hlo : laidOutB P = true) {W W' : World} (hb : Below W.heap.size W W') : ∀ (ts : List TypeId) (vs : List Value) (ds : List (DataW H)) (ps : List MemPlace), DataW.TrodAll enc P W 0 (fun _ => true) true ts vs ds ps →
    (∀ t ∈ ts, (P.readableRec t && decide (t < P.types.size)) = true) → DataW.TrodAll enc P W' 0 (fun b => decide (b < W.heap.size)) true ts vs ds ps
  | [], [], [], ps, h, _ => h
  | t :: ts, v :: vs, d :: ds, ps, h, hr => by
    obtain ⟨p, q, h1, h2, rfl⟩ := h
    have := hr t (by simp)
    simp only [Bool.and_eq_true, decide_eq_true_eq] at this
    have hlt : ∀ x ∈ p, x.block < W.heap.size := by
      obtain ⟨n, hn⟩ := h1
      exact DataW.trod_lt n _ _ _ hn
    exact ⟨p, q, Below.trod hlo this.1 this.2 h1 hb hlt, back_args hlo hb ts vs ds q h2 (fun t ht => hr t (by simp [ht])), rfl⟩
  | [], [], _ :: _, _, h, _ => h.elim
  | [], _ :: _, _, _, h, _ => by cases ‹List (DataW H)› <;> exact h.elim
  | _ :: _, [], _, _, h, _ => by cases ‹List (DataW H)› <;> exact h.elim
  | _ :: _, _ :: _, [], _, h, _ => h.elim

/-- The row, from the contract. -/
theorem row_of_sp {H : Type} {enc : TypeId × Value → H} {C : Checked} {os : Os} {f : FuncId} {fn : Func} {s : ChangeSpec} {conds : List PathCond} {T : Tab} {b : TypeId}
    (own : ownKnob C.prog.godebug = none) (started : os.Started) (hlo : laidOutB C.prog = true) (noInit : C.prog.inits.idxOf? f = none) (hfn : C.prog.funcs[f]? = some fn)
    (witness : ∃ (w : World) (tape : Tape) (i : Input), w.os = os ∧ (w.forCall tape i).Shaped C.prog ∧ i.vars = [] ∧ Input.okWide C.prog (w.forCall tape i) .any w.heap.size f i ∧
      s.pre6 enc C.prog fn conds false (w.forCall tape i).memory i.args ∧ ({} : Assume).holds C.prog (lone (Frame.enter C.prog f i.args .normal) [] (w.forCall tape i)))
    (hT : TabOk C.prog T) (hvars : s.vars = []) (hfn1 : ∀ ds : List (DataW H), ds.length = fn.params.toList.length → s.fn H (ds ++ []) = { results := [.lit (.bool true)], args := ds, vars := [] })
    (hres : fn.resultTypes = #[b]) (hbool : C.prog.underlying b = some .bool) (hleaf : fn.params.toList.all (fun t => (leafs T 50 t).isSome) = true) (hread : fn.params.toList.all (fun t => C.prog.readableRec t && decide (t < C.prog.types.size)) = true)
    (hsp : ∀ xs, TAs T fn.params.toList xs → Sp C.prog f xs [] (.c (.bool true)) []) :
    ReturnsInHanded {} C os f .any (s.pre6 enc C.prog fn conds false) (s.post enc C.prog fn false true false false) := by
  refine returnsInHanded_of_change_sized own started noInit hfn witness ?_
  intro W base args ds gs before hval hW hcnd hsz _
  have hW' := hW
  obtain ⟨p, q, hA, hV, rfl, hfz, hnd⟩ := hW
  have hV' : DataW.TrodVars enc C.prog W (fun _ => true) [] gs q := by rw [← hvars]; exact hV
  obtain ⟨rfl, rfl⟩ := trodVars_none hV'
  have hvt : s.plain.varTypes C.prog = [] := by simp [ChangeSpec.plain, DataSpec.varTypes, hvars]
  have hsz' : ∀ n ∈ DataW.weightsEach C.prog fn.params.toList ds, n ≤ reachBytes := by
    rw [hvt] at hsz
    simp only [List.append_nil] at hsz
    intro n hn
    have := List.all_eq_true.1 hsz n hn
    simpa using this
  obtain ⟨hdl, xs, hxl, hxs, hxr⟩ := open_args hT (fun _ => none) fn.params.toList args.toList ds p hA (fun j t v ht hv => hval j t v (by simpa using ht) (by simpa using hv)) (fun t ht => List.all_eq_true.1 hleaf t ht) hsz'
  have hr0 : HR ⟨W, fun _ => [], fun _ => none, getH [], fun _ => 1⟩ := ⟨rfl, fun id B hB => (by cases id <;> cases hB), fun _ _ => rfl⟩
  refine (hsp xs hxs args W (fun _ => []) (fun _ => none) hr0 (by simpa using hxl.symm) (fun i x hi => by simpa using hxr i x hi)).mono ?_
  rintro e W' ⟨v, σ', β', rfl, kp, _, _, _, hv⟩
  have hv2 := inv_bool hv
  subst hv2
  have hb : Below W.heap.size W W' := ⟨kp.os, kp.tape, kp.output, kp.size, fun k hk => kp.heap k hk (.inl rfl)⟩
  refine ⟨_, rfl, ds, [], p ++ [], [], p, [], hW', ?_, ?_, ?_, hb.frame _, fun h => by cases h⟩
  · rw [hfn1 ds hdl, hres]
    exact trodAll_mk1 (shut_bool hbool _)
  · rw [hfn1 ds hdl]
    exact back_args hlo hb _ _ _ _ hA (fun t ht => List.all_eq_true.1 hread t ht)
  · rw [hfn1 ds hdl, hvars]
    rfl
end Go.Eng
