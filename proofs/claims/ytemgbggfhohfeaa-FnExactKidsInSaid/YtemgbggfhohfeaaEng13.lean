/- The call as an operation. -/
import Derived.Test.YtemgbggfhohfeaaEng12
set_option linter.unusedVariables false
set_option linter.unusedSimpArgs false
namespace Go.Eng

def FnOk (P : Program) (f : FuncId) : Prop := ∃ fn, P.funcs[f]? = some fn ∧ (fn.name == "runtime.NumGoroutine") = false ∧ fn.body.isNone = false

theorem run_enter {P : Program} {f : FuncId} (h : FnOk P f) (args : Array Value) (w : World) : (callFunc f args).run P w = .ok (.enter f args) w := by
  obtain ⟨fn, h1, h2, h3⟩ := h
  have e : (callFunc f args) = (program >>= fun p => match p.funcs[f]? with
    | none => stuck "call: no such function"
    | some fn =>
      if fn.name == "runtime.NumGoroutine" then pure .numGoroutine
      else if fn.body.isNone then do
        mark (.extern f)
        if let some e := Extern.findNext fn then return ← e args
        match Extern.find fn with
        | some e => pure (.value (← e args))
        | none =>
          if fn.name.endsWith ".init" && !fn.name.startsWith "(" && !fn.name.startsWith "gosem." then pure (.value (.tuple #[]))
          else unsupported (.extern fn.name)
      else pure (.enter f args)) := rfl
  rw [e]
  have h2' : fn.name ≠ "runtime.NumGoroutine" := by simpa using h2
  have h3' : fn.body ≠ none := by intro h; rw [h] at h3; cases h3
  simp [h1, h2', h3', Sem.run_bind]

def onlyIn (L : List Nat) (H : Nat → Option Blk) : Nat → Option Blk := fun id => if id ∈ L then H id else none
def argsOf (S : St) (xs : Array Operand) (caps : List V) : List A := xs.toList.map (S.val []) ++ caps.map A.c
def inB (lent : Bool) (io : List Nat) (H : Nat → Option Blk) : List Blk := io.map fun id => match H id with | some B => lowB lent io H B | none => default

/-- A call of a function with a contract. -/
theorem step_call {F : Fr} {S : St} {o : Oper} {x : Operand} {xs : Array Operand} {ats : Array TypeId} (h : o.op = .call ⟨.value x, xs, ats⟩) (hd : ∀ d, o.dst = some d → d < F.N)
    {f : FuncId} {caps : List V} (hx : S.val [] x = .c (.fn f caps)) (hf : FnOk F.P f)
    (lent : Bool) (io news L : List Nat) (keep : List Bool) {args : List A} {H0 : List Blk} {res : A} {H1 : List Blk} (hsp : Sp F.P f args H0 res H1)
    (hargs : (argsOf S xs caps).map (A.low lent io (onlyIn L S.H)) = args) (hH0 : inB lent io (onlyIn L S.H) = H0)
    (hnd : (io ++ news).Nodup) (hlive : ∀ id ∈ io, (onlyIn L S.H id).isSome = true) (hL : ∀ id ∈ io ++ news, id ∈ L)
    (hnew : ∀ id ∈ news, F.m ≤ id) (hlen : (io ++ news).length = H1.length) (hkl : keep.length = (io ++ news).length)
    (hkeep : ∀ i, keep[i]? = some true → i < io.length ∧ ∀ id B B', (io ++ news)[i]? = some id → S.H id = some B → H1[i]? = some B' → B.es = B'.es ∧ B.xs.length = B'.xs.length) :
    StepL F o S { v := res.backT lent (io ++ news) (verL S (io ++ news) keep), upd := updL lent (io ++ news) (verL S (io ++ news) keep) (io ++ news) H1, bump := bumpL (io ++ news) keep, use := opTmps (x :: xs.toList), ids := L } := by
  intro S' h1 h2 a w hs
  obtain ⟨hdf, hsz, σ, β, hs⟩ := hs
  have hval : ∀ y ∈ x :: xs.toList, S'.val [] y = S.val [] y := fun y hy => val_congr hy (fun t ht => h1 t ht) []
  have hHL : ∀ id ∈ L, S'.H id = S.H id := fun id hi => (h2 id hi).1
  have honly : onlyIn L S'.H = onlyIn L S.H := by
    funext id
    unfold onlyIn
    by_cases hi : id ∈ L
    · rw [if_pos hi, if_pos hi, hHL id hi]
    · rw [if_neg hi, if_neg hi]
  have g1 := val_ok hs [] x
  rw [hval x (by simp), hx] at g1
  obtain ⟨cs, cv, ecs, hcs, hcap1, hcap2⟩ : ∃ (cs : Array Value) (cv : Nat → Value), a.eval x = .func (.func f) #[] cs ∧ cs.size = caps.length ∧ (∀ (i : Nat) v, caps[i]? = some v → cs[i]? = some (cv i)) ∧ ∀ (i : Nat) v, caps[i]? = some v → RV (S'.cx w σ β) [] v (cv i) := by
    generalize a.eval x = c at g1
    cases inv_c g1 with
    | c h => cases h
    | fn _ _ _ cs cv q1 q2 q3 => exact ⟨cs, cv, rfl, q1, q2, q3⟩
  have hargv : argsOf S' xs caps = argsOf S xs caps := by
    unfold argsOf
    congr 1
    exact List.map_congr_left (fun y hy => hval y (by simp [hy]))
  let vals : Array Value := xs.map a.eval ++ cs
  have hrun : (execOp a.eval o).run F.P w = .ok (.enter f vals) w := by
    have e1 : execOp a.eval o = (do let d ← resolve a.eval ⟨.value x, xs, ats⟩ o.type; invoke d.target d.args) := by simp only [execOp, h]
    rw [e1]
    simp only [resolve, ecs, Deferred.ofValue, Sem.run_bind, Sem.run_pure, Result.andThen_ok, invoke]
    rw [run_enter hf]
    simp [vals]
  let E' : Cx := ⟨w, fun b => downσ lent io (σ b), downβ io β, getH H0, fun _ => 1⟩
  have hview : View (S'.cx w σ β) E' lent io (onlyIn L S.H) := by
    refine ⟨rfl, fun _ => rfl, fun _ => rfl, fun id B hB => ?_, fun i id B hi hB => ?_, fun _ => rfl, (List.nodup_append.1 hnd).1, hs.hr⟩
    · rw [← honly] at hB
      unfold onlyIn at hB
      split at hB
      · exact hB
      · cases hB
    · show H0[i]? = _
      rw [← hH0]
      unfold inB
      rw [List.getElem?_map, hi]
      simp [hB]
  have hargs2 : ∀ (i : Nat) y, args[i]? = some y → ∃ v, vals[i]? = some v ∧ RA E' y v := by
    intro i y hy
    rw [← hargs, List.getElem?_map] at hy
    obtain ⟨u, hu, rfl⟩ := Option.map_eq_some_iff.1 hy
    rw [← hargv] at hu
    unfold argsOf at hu
    rcases Nat.lt_or_ge i xs.size with hi | hi
    · rw [List.getElem?_append_left (by simpa using hi), List.getElem?_map] at hu
      obtain ⟨z, hz, rfl⟩ := Option.map_eq_some_iff.1 hu
      refine ⟨a.eval z, ?_, hview.lowA (val_ok hs [] z)⟩
      have hz' : xs[i]? = some z := by simpa using hz
      simp only [vals]
      rw [Array.getElem?_append_left (by simpa using hi), Array.getElem?_map, hz']
      rfl
    · rw [List.getElem?_append_right (by simpa using hi), List.getElem?_map] at hu
      obtain ⟨z, hz, rfl⟩ := Option.map_eq_some_iff.1 hu
      simp only [List.length_map, Array.length_toList] at hz
      refine ⟨cv (i - xs.size), ?_, hview.lowA (.c (hcap2 _ z hz))⟩
      simp only [vals]
      rw [Array.getElem?_append_right (by simpa using hi), Array.size_map]
      exact hcap1 _ z hz
  have hvsz : vals.size = args.length := by
    rw [← hargs]
    simp [vals, argsOf, hcs]
  have hlive' : ∀ id ∈ io, (S'.H id).isSome = true := fun id hi => by
    have := hlive id hi
    unfold onlyIn at this
    rw [if_pos (hL id (by simp [hi]))] at this
    rw [hHL id (hL id (by simp [hi]))]
    exact this
  have hHR : HR E' := by
    refine ⟨rfl, fun i B hB => ?_, fun b hb => ?_⟩
    · cases i with
      | zero => cases hB
      | succ i =>
        have hB' : H0[i]? = some B := hB
        rw [← hH0] at hB'
        unfold inB at hB'
        rw [List.getElem?_map] at hB'
        obtain ⟨id, hid, hB2⟩ := Option.map_eq_some_iff.1 hB'
        have := hlive id (List.mem_of_getElem? hid)
        cases eB : onlyIn L S.H id with
        | none => rw [eB] at this; cases this
        | some B0 =>
          rw [eB] at hB2
          simp only at hB2
          subst hB2
          exact ⟨Nat.zero_lt_one, hview.br hid (hs.hr.blk id B0 (hview.look id B0 eB)).2⟩
    · show downσ lent io (σ b) = []
      rw [show σ b = [] from hs.hr.new b hb]
      rfl
  refine .inr (.inr ⟨f, vals, w, hrun, ?_⟩)
  refine Calls.mono (hsp vals w _ _ hHR hvsz hargs2) ?_
  rintro e w' ⟨v, σ', β', rfl, kp, hβ', hlen01, hr', hres⟩
  refine ⟨v, rfl, ?_⟩
  have hlio : H0.length = io.length := by rw [← hH0]; simp [inB]
  have hver : verL S' (io ++ news) keep = verL S (io ++ news) keep := by
    funext id
    have : ∀ (l : List Nat) (ks : List Bool), (∀ y ∈ l, y ∈ L) → verL S' l ks id = verL S l ks id := by
      intro l
      induction l with
      | nil => intro ks _; cases ks <;> rfl
      | cons y r ih =>
        intro ks hl
        cases ks with
        | nil => rfl
        | cons k ks =>
          simp only [verL]
          have hy := h2 y (hl y (by simp))
          by_cases e : id = y
          · subst e
            rw [if_pos rfl, if_pos rfl, hy.1, hy.2]
          · rw [if_neg e, if_neg e, ih ks (fun z hz => hl z (by simp [hz]))]
    exact this _ _ hL
  obtain ⟨σn, βn, hfin, hback⟩ := hs.called (w' := w') (σ1 := σ') (β1 := β') (lent := lent) (io := io) (outs := io ++ news) (keep := keep) (H1 := H1) hnd
    (fun i hi => List.getElem?_append_left hi) hlive' (fun j id hj ho => hnew id (by
      rw [List.getElem?_append_right hj] at ho
      exact List.mem_of_getElem? ho)) hlen hkl (fun i hk => by
      obtain ⟨q1, q2⟩ := hkeep i hk
      refine ⟨q1, fun id B B' hi hB => q2 id B B' hi ?_⟩
      rw [← hHL id (hL id (List.mem_of_getElem? hi))]; exact hB) kp (fun i hi => hβ' i (by omega)) hr'
  have hfin2 := hfin.putT hsz hd (hback _ _ hres)
  refine ⟨by rw [put_defers]; exact hdf, by rw [put_tmps_size]; exact hsz, σn, βn, ?_⟩
  rw [hver] at hfin2
  unfold St.called at hfin2
  rw [hver] at hfin2
  exact hfin2
end Go.Eng
