/- What a function answers, said of trees (Sp): from a proof of its body; and used at a call. -/
import Derived.Test.YtemgbggfhohfeaaEng10
import Derived.BigCall
set_option linter.unusedVariables false
set_option linter.unusedSimpArgs false
namespace Go.Eng

/-- From arguments args, with blocks H0 (1, 2, ..) that it may write, function f comes to res and the blocks H1: of these the first are those of H0. Whatever else the world holds stays. -/
def Sp (P : Program) (f : FuncId) (args : List A) (H0 : List Blk) (res : A) (H1 : List Blk) : Prop :=
  ∀ (vals : Array Value) (w : World) (σ : Nat → List Nat) (β : Nat → Option (Nat × Nat × Nat)),
    HR ⟨w, σ, β, getH H0, fun _ => 1⟩ → vals.size = args.length → (∀ (i : Nat) x, args[i]? = some x → ∃ v, vals[i]? = some v ∧ RA ⟨w, σ, β, getH H0, fun _ => 1⟩ x v) →
    Calls P f vals w fun e w' => ∃ v σ' β', e = .returned v ∧ Kp w σ w' σ' ∧ (∀ i, i ≤ H0.length → β' i = β i) ∧ H0.length ≤ H1.length ∧ HR ⟨w', σ', β', getH H1, fun _ => 1⟩ ∧ RA ⟨w', σ', β', getH H1, fun _ => 1⟩ res v

/-! ### From the body -/
def A.lowT (lent : Bool) (io : List Nat) (H : Nat → Option Blk) : A → A
  | .t xs => .t (xs.map (A.low lent io H))
  | x => x.low lent io H
theorem View.lowT {E E' : Cx} {lent : Bool} {io : List Nat} {H : Nat → Option Blk} (hv : View E E' lent io H) {x : A} {c : Value} (h : RA E x c) : RA E' (x.lowT lent io H) c := by
  cases h with
  | t xs arr cv hs h1 h2 =>
    refine .t _ _ cv (by simpa using hs) (fun i v hi => ?_) (fun i v hi => ?_)
    · rw [List.getElem?_map] at hi
      obtain ⟨v0, h3, rfl⟩ := Option.map_eq_some_iff.1 hi
      exact h1 i v0 h3
    · rw [List.getElem?_map] at hi
      obtain ⟨v0, h3, rfl⟩ := Option.map_eq_some_iff.1 hi
      exact hv.lowA (h2 i v0 h3)
  | c h => exact hv.lowA (.c h)
  | g cs arr hs h => exact hv.lowA (.g cs arr hs h)

/-- One result variable. -/
def resOne (T : Tab) (S : St) : ResultVar → Option A
  | .tmp t => some (S.env t)
  | .cell a t => match tg T t, S.env a with
    | some ti, .c (.ptr id ver k j) => match S.H id with
      | some B => match B.xs[k]? with
        | some y => if B.ver = ver ∧ j + ti.size ≤ y.length ∧ ((y.drop j).take ti.size).all (fun v => !isRowT v) = true then wrapA ti.k.agg ((y.drop j).take ti.size) else none
        | none => none
      | none => none
    | _, _ => none

def resGet (tmps : Array Value) : ResultVar → Sem Value
  | .tmp t => pure (tmps.getD t undef)
  | .cell a t => do loadVar t (← asAddr (tmps.getD a undef))

def resWrap (vs : Array Value) : Value := if h : vs.size = 1 then vs[0] else .tuple vs
theorem results_eq (fn : Func) (tmps : Array Value) : results fn tmps = (fn.results.mapM (resGet tmps) >>= fun vs => pure (resWrap vs)) := by
  unfold results
  congr 1

theorem resOne_ok {F : Fr} {T : Tab} (hT : TabOk F.P T) {S : St} {a : Act} {w : World} {σ : Nat → List Nat} {β : Nat → Option (Nat × Nat × Nat)} (hs : RSx F S a w σ β) {r : ResultVar} {u : A} (h : resOne T S r = some u) :
    ∃ v, (resGet a.tmps r).run F.P w = .ok v w ∧ RA (S.cx w σ β) u v := by
  cases r with
  | tmp t =>
    simp only [resOne, Option.some.injEq] at h
    subst h
    exact ⟨_, by simp [resGet], hs.env t⟩
  | cell x t =>
    simp only [resOne] at h
    cases et : tg T t with
    | none => rw [et] at h; simp at h
    | some ti =>
      rw [et] at h
      have g1 := hs.env x
      match ev : S.env x, h with
      | .c (.ptr id ver k j), h =>
        simp only at h
        rw [ev] at g1
        cases eB : S.H id with
        | none => rw [eB] at h; simp at h
        | some B =>
          rw [eB] at h
          simp only at h
          cases ey : B.xs[k]? with
          | none => rw [ey] at h; simp at h
          | some y =>
            rw [ey] at h
            simp only at h
            by_cases hc : B.ver = ver ∧ j + ti.size ≤ y.length ∧ ((y.drop j).take ti.size).all (fun v => !isRowT v) = true
            · rw [if_pos hc] at h
              obtain ⟨hver, hj, hn⟩ := hc
              obtain ⟨ad, e, hv, ha⟩ := inv_ptr g1
              obtain ⟨b, o', n, e1, rfl⟩ := ha B eB hver
              obtain ⟨_, hes, hl, arr, T', hh, hsz, hcc⟩ := (hs.hr.blk id B eB).2.some e1
              have hcl : ((y.drop j).take ti.size).length = ti.size := by simp; omega
              have hagg : ti.k.agg = false → ti.size = 1 := by
                intro hk
                rw [hk] at h
                unfold wrapA at h
                simp only [Bool.false_eq_true, if_false] at h
                match e : (y.drop j).take ti.size, h with
                | [v], _ => rw [e] at hcl; simpa using hcl.symm
              obtain ⟨vs, v1, v2, v3⟩ := pick_cells hcl (R := RV (S.cx w σ β) []) (Q := fun i c => w.cell? ⟨b, o' + k * B.es + j + i, none⟩ = some c) (fun i v hi => by
                have hvi : y[j + i]? = some v := by
                  rw [List.getElem?_take] at hi
                  split at hi
                  · rwa [List.getElem?_drop] at hi
                  · cases hi
                obtain ⟨c, c1, c2⟩ := hcc k (j + i) y v ey hvi
                refine ⟨c, ?_, noRowT c2 ?_⟩
                · refine (cell_of_heap (w := w) hh).trans ?_
                  rw [← c1]; congr 1; omega
                · have := List.all_eq_true.1 hn v (List.mem_of_getElem? hi)
                  simpa using this)
              have hl2 := load_run hT et v1 hagg (fun i v hi => v2 i v hi)
              refine ⟨_, ?_, wrapA_ok h (by rw [v1, hcl]) v3⟩
              rw [← hl2]
              simp only [resGet]
              rw [show a.tmps.getD x undef = .pointer (some ⟨b, o' + k * B.es + j, none⟩) from e]
              rfl
            · rw [if_neg hc] at h; cases h

def resAll (T : Tab) (S : St) (l : List ResultVar) : Option A :=
  match l with
  | [r] => resOne T S r
  | l => (l.mapM (resOne T S)).map A.t

theorem results_ok {F : Fr} {T : Tab} (hT : TabOk F.P T) {S : St} {a : Act} {w : World} {σ : Nat → List Nat} {β : Nat → Option (Nat × Nat × Nat)} (hs : RSx F S a w σ β) {fn : Func} {l : List ResultVar} (hl : fn.results = l.toArray) (hlen : l.length ≤ 4) {u : A} (h : resAll T S l = some u) :
    ∃ v, (results fn a.tmps).run F.P w = .ok v w ∧ RA (S.cx w σ β) u v := by
  rw [results_eq]
  match l, hl, hlen, h with
  | [], hl, _, h =>
    simp only [resAll, List.mapM_nil] at h
    cases h
    exact ⟨.tuple #[], by simp [hl, resWrap], .t [] #[] (fun _ => default) rfl (fun i v hi => by simp at hi) (fun i v hi => by simp at hi)⟩
  | [r], hl, _, h =>
    obtain ⟨v, h1, h2⟩ := resOne_ok hT hs h
    exact ⟨v, by simp [hl, resWrap, h1], h2⟩
  | [r, s], hl, _, h =>
    simp only [resAll, List.mapM_cons, List.mapM_nil] at h
    cases e1 : resOne T S r with
    | none => rw [e1] at h; simp at h
    | some x1 =>
    cases e2 : resOne T S s with
    | none => rw [e1, e2] at h; simp at h
    | some x2 =>
    rw [e1, e2] at h
    simp at h
    subst h
    obtain ⟨v1, h1, g1⟩ := resOne_ok hT hs e1
    obtain ⟨v2, h2, g2⟩ := resOne_ok hT hs e2
    refine ⟨.tuple #[v1, v2], by simp [hl, resWrap, h1, h2], .t _ _ (fun i => match i with | 0 => v1 | _ => v2) rfl (fun i v hi => ?_) (fun i v hi => ?_)⟩
    · match i, hi with
      | 0, _ => rfl
      | 1, _ => rfl
    · match i, hi with
      | 0, hi => simp at hi; subst hi; exact g1
      | 1, hi => simp at hi; subst hi; exact g2
  | [r, s, t], hl, _, h =>
    simp only [resAll, List.mapM_cons, List.mapM_nil] at h
    cases e1 : resOne T S r with
    | none => rw [e1] at h; simp at h
    | some x1 =>
    cases e2 : resOne T S s with
    | none => rw [e1, e2] at h; simp at h
    | some x2 =>
    cases e3 : resOne T S t with
    | none => rw [e1, e2, e3] at h; simp at h
    | some x3 =>
    rw [e1, e2, e3] at h
    simp at h
    subst h
    obtain ⟨v1, h1, g1⟩ := resOne_ok hT hs e1
    obtain ⟨v2, h2, g2⟩ := resOne_ok hT hs e2
    obtain ⟨v3, h3, g3⟩ := resOne_ok hT hs e3
    refine ⟨.tuple #[v1, v2, v3], by simp [hl, resWrap, h1, h2, h3], .t _ _ (fun i => match i with | 0 => v1 | 1 => v2 | _ => v3) rfl (fun i v hi => ?_) (fun i v hi => ?_)⟩
    · match i, hi with
      | 0, _ => rfl
      | 1, _ => rfl
      | 2, _ => rfl
    · match i, hi with
      | 0, hi => simp at hi; subst hi; exact g1
      | 1, hi => simp at hi; subst hi; exact g2
      | 2, hi => simp at hi; subst hi; exact g3
  | [r, s, t, q], hl, _, h =>
    simp only [resAll, List.mapM_cons, List.mapM_nil] at h
    cases e1 : resOne T S r with
    | none => rw [e1] at h; simp at h
    | some x1 =>
    cases e2 : resOne T S s with
    | none => rw [e1, e2] at h; simp at h
    | some x2 =>
    cases e3 : resOne T S t with
    | none => rw [e1, e2, e3] at h; simp at h
    | some x3 =>
    cases e4 : resOne T S q with
    | none => rw [e1, e2, e3, e4] at h; simp at h
    | some x4 =>
    rw [e1, e2, e3, e4] at h
    simp at h
    subst h
    obtain ⟨v1, h1, g1⟩ := resOne_ok hT hs e1
    obtain ⟨v2, h2, g2⟩ := resOne_ok hT hs e2
    obtain ⟨v3, h3, g3⟩ := resOne_ok hT hs e3
    obtain ⟨v4, h4, g4⟩ := resOne_ok hT hs e4
    refine ⟨.tuple #[v1, v2, v3, v4], by simp [hl, resWrap, h1, h2, h3, h4], .t _ _ (fun i => match i with | 0 => v1 | 1 => v2 | 2 => v3 | _ => v4) rfl (fun i v hi => ?_) (fun i v hi => ?_)⟩
    · match i, hi with
      | 0, _ => rfl
      | 1, _ => rfl
      | 2, _ => rfl
      | 3, _ => rfl
    · match i, hi with
      | 0, hi => simp at hi; subst hi; exact g1
      | 1, hi => simp at hi; subst hi; exact g2
      | 2, hi => simp at hi; subst hi; exact g3
      | 3, hi => simp at hi; subst hi; exact g4

/-- The blocks named outs, numbered 1, 2, .. -/
def outB (outs : List Nat) (H : Nat → Option Blk) : List Blk := outs.map fun id => match H id with | some B => lowB false outs H B | none => default

/-- The frame's first state. -/
def entry (args : List A) (H0 : List Blk) : St := ⟨fun t => (args[t]?).getD (.c .undef), getH H0, fun _ => 1⟩

/-- What a body must come to. -/
def Ret (T : Tab) (l : List ResultVar) (n0 : Nat) (res : A) (H1 : List Blk) (e : Exit) (S : St) : Prop :=
  (e = .normal ∨ e = .ret) ∧ ∃ outs u, outs.Nodup ∧ (∀ i, i < n0 → outs[i]? = some (i + 1)) ∧ (∀ id ∈ outs, (S.H id).isSome = true) ∧ resAll T S l = some u ∧ u.lowT false outs S.H = res ∧ outB outs S.H = H1

theorem posOf_zero {outs : List Nat} {H : Nat → Option Blk} (h0 : H 0 = none) (h : ∀ id ∈ outs, (H id).isSome = true) : posOf outs 0 = none := by
  cases e : posOf outs 0 with
  | none => rfl
  | some i =>
    have := h 0 (List.mem_of_getElem? (posOf_some e))
    rw [h0] at this
    cases this

theorem Sp.of_W {P : Program} {T : Tab} (hT : TabOk P T) {f : FuncId} {fn : Func} {c : Code} {args : List A} {H0 : List Blk} {res : A} {H1 : List Blk} {l : List ResultVar} (hf : P.funcs[f]? = some fn) (hb : fn.body = some c) (hl : fn.results = l.toArray) (hlen : l.length ≤ 4) (hN : args.length ≤ fn.ntmps)
    (h : ∀ F : Fr, F.P = P → F.N = fn.ntmps → F.m = H0.length + 1 → W F c (entry args H0) (Ret T l H0.length res H1)) : Sp P f args H0 res H1 := by
  intro vals w σ β hr hsz hv
  refine calls_of_wp hf hb ?_
  let F : Fr := ⟨P, fn.ntmps, w, σ, β, H0.length + 1⟩
  have hs : RS F (entry args H0) { tmps := vals ++ Array.replicate (fn.ntmps - vals.size) undef, defers := [] } w := by
    refine ⟨rfl, by show (vals ++ Array.replicate (fn.ntmps - vals.size) undef).size = fn.ntmps; simp; omega, σ, β, ⟨hr, Nat.succ_pos _, Kp.refl _ _, fun i _ => rfl, fun t => ?_⟩⟩
    show RA _ ((args[t]?).getD (.c .undef)) _
    rcases Nat.lt_or_ge t args.length with ht | ht
    · obtain ⟨v, h1, h2⟩ := hv t args[t] (List.getElem?_eq_getElem ht)
      rw [List.getElem?_eq_getElem ht]
      have : (vals ++ Array.replicate (fn.ntmps - vals.size) undef).getD t undef = v := by
        rw [Array.getD_eq_getD_getElem?, Array.getElem?_append_left (by omega), h1]; rfl
      rw [this]
      exact h2
    · rw [List.getElem?_eq_none ht]
      exact .c (.undef _ _)
  refine wp_mono (h F rfl rfl rfl _ _ hs) ?_
  rintro e a' w' ⟨S, ⟨he, outs, u, hnd, hio, hlive, hres, hu, hH1⟩, hd, hsz', σ', β', hx⟩
  obtain ⟨v, hv1, hv2⟩ := results_ok (F := F) hT hx hl hlen hres
  have h0 : S.H 0 = none := hx.hr.far
  have hp0 := posOf_zero h0 hlive
  have hview : View (S.cx w' σ' β') ⟨w', fun b => downσ false outs (σ' b), downβ outs β', getH H1, fun _ => 1⟩ false outs S.H := by
    refine ⟨rfl, fun _ => rfl, fun _ => rfl, fun _ _ h => h, fun i id B hi hB => ?_, fun _ => rfl, hnd, hx.hr⟩
    show H1[i]? = _
    rw [← hH1]
    unfold outB
    rw [List.getElem?_map, hi]
    simp [hB]
  have hfin : ∃ σ'' β'', Kp w σ w' σ'' ∧ (∀ i, i ≤ H0.length → β'' i = β i) ∧ H0.length ≤ H1.length ∧ HR ⟨w', σ'', β'', getH H1, fun _ => 1⟩ ∧ RA ⟨w', σ'', β'', getH H1, fun _ => 1⟩ res v := by
    refine ⟨fun b => downσ false outs (σ' b), fun i => if i = 0 then β 0 else downβ outs β' i, ?_, ?_, ?_, ?_, ?_⟩
    · refine ⟨hx.kp.os, hx.kp.tape, hx.kp.output, hx.kp.size, hx.kp.heap, fun b hb hc => ?_⟩
      have : σ' b = σ b := hx.kp.free b hb hc
      show downσ false outs (σ' b) = σ b
      rw [this]
      have hc : σ b = [] ∨ σ b = [0] := hc
      rcases hc with hc | hc
      · rw [hc]; rfl
      · rw [hc]; simp [downσ, hp0]
    · intro i hi
      cases i with
      | zero => rfl
      | succ i =>
        show downβ outs β' (i + 1) = β (i + 1)
        simp only [downβ, hio i (by omega), Option.bind_some]
        exact hx.inn (i + 1) (by show i + 1 < H0.length + 1; omega)
    · rw [← hH1]
      unfold outB
      rw [List.length_map]
      rcases Nat.lt_or_ge outs.length H0.length with hlt | hge
      · have := hio outs.length hlt
        rw [List.getElem?_eq_none (Nat.le_refl _)] at this
        cases this
      · exact hge
    · refine ⟨rfl, fun i B hB => ?_, fun b hb => ?_⟩
      · cases i with
        | zero => cases hB
        | succ i =>
          have hB' : H1[i]? = some B := hB
          rw [← hH1] at hB'
          unfold outB at hB'
          rw [List.getElem?_map] at hB'
          obtain ⟨id, hid, hB2⟩ := Option.map_eq_some_iff.1 hB'
          have := hlive id (List.mem_of_getElem? hid)
          cases eB : S.H id with
          | none => rw [eB] at this; cases this
          | some B0 =>
            rw [eB] at hB2
            simp only at hB2
            subst hB2
            refine ⟨Nat.zero_lt_one, ?_⟩
            have := hview.br hid (hx.hr.blk id B0 eB).2
            exact this.mono (⟨fun _ => Nat.le_refl _, fun id B' hB' _ => ⟨B', hB', rfl, rfl, rfl, by
              show (if id = 0 then β 0 else downβ outs β' id) = downβ outs β' id
              rw [if_neg]
              rintro rfl
              cases hB'⟩⟩) (by show (if i + 1 = 0 then β 0 else downβ outs β' (i + 1)) = downβ outs β' (i + 1); rw [if_neg (by omega)]) (fun b _ _ => ⟨rfl, rfl⟩)
      · show downσ false outs (σ' b) = []
        rw [show σ' b = [] from hx.hr.new b hb]
        rfl
    · rw [← hu]
      refine (hview.lowT hv2).mono ⟨fun _ => Nat.le_refl _, fun id B' hB' _ => ⟨B', hB', rfl, rfl, rfl, ?_⟩⟩ (fun b _ _ => ⟨rfl, rfl⟩)
      show (if id = 0 then β 0 else downβ outs β' id) = downβ outs β' id
      rw [if_neg]
      rintro rfl
      cases hB'
  obtain ⟨σ'', β'', r⟩ := hfin
  rcases he with rfl | rfl
  · exact ⟨hd, v, hv1, v, σ'', β'', rfl, r⟩
  · exact ⟨hd, v, hv1, v, σ'', β'', rfl, r⟩
end Go.Eng
