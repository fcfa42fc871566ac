/- Calls that lend, that hand in what may be written, and that give what is new: slices of the call's own. -/
import Derived.Test.YtemgbggfhohfeaaEng25
set_option linter.unusedVariables false
set_option linter.unusedSimpArgs false
namespace Go.Eng

def flatV : V → Bool
  | .int .. | .bool .. | .str .. => true
  | _ => false
theorem map_same {g : V → V} {l : List V} (h : ∀ v ∈ l, g v = v) : l.map g = l := by
  induction l with
  | nil => rfl
  | cons v r ih => rw [List.map_cons, h v (by simp), ih (fun u hu => h u (by simp [hu]))]
section
variable {α : Type} {f : α → List V} {es : Nat}
theorem En.low (h : En f es) (lent : Bool) (io : List Nat) (H : Nat → Option Blk) (a : α) : (f a).map (V.low lent io H) = f a := by
  refine map_same fun v hv => ?_
  have h1 := List.all_eq_true.1 (h.clean a) v hv
  have h2 := List.all_eq_true.1 (h.closed a) v hv
  cases v with
  | row o e xs => rfl
  | int => rfl
  | bool => rfl
  | str => rfl
  | nilp => rfl
  | own => simp [V.closed] at h2
  | ptr => simp [V.closed] at h2
  | ip => simp [V.closed] at h2
  | fn => simp [V.closed] at h2
  | skip => simp [V.closed] at h2
  | undef => simp [V.closed] at h2
theorem En.lows (h : En f es) (lent : Bool) (io : List Nat) (H : Nat → Option Blk) (l : List α) : (l.map f).map (fun x => x.map (V.low lent io H)) = l.map f := by
  rw [List.map_map]
  exact List.map_congr_left fun a _ => h.low lent io H a
theorem flat_back (hfl : ∀ a, (f a).all flatV = true) (lent : Bool) (outs : List Nat) (ν : Nat → Nat) (l : List α) : (l.map f).map (fun x => x.map (V.back lent outs ν)) = l.map f := by
  rw [List.map_map]
  refine List.map_congr_left fun a _ => ?_
  refine map_same fun v hv => ?_
  have h2 := List.all_eq_true.1 (hfl a) v hv
  cases v <;> first | rfl | (simp [flatV] at h2)
theorem En.back (h : En f es) (outs : List Nat) (ν : Nat → Nat) (l : List α) : (l.map f).map (fun x => x.map (V.back false outs ν)) = l.map f := by
  rw [List.map_map]
  refine List.map_congr_left fun a _ => ?_
  refine map_same fun v hv => ?_
  have h2 := List.all_eq_true.1 (h.closed a) v hv
  cases v <;> first | rfl | (simp [V.closed] at h2)

theorem low_nil {g : A → A} : ([] : List A).map g = [] := rfl
theorem low_cons {g : A → A} {x y : A} {l l' : List A} (h1 : g x = y) (h2 : l.map g = l') : (x :: l).map g = y :: l' := by rw [List.map_cons, h1, h2]
theorem lowc_nil {g : V → V} : ([] : List V).map g = [] := rfl
theorem lowc_cons {g : V → V} {x y : V} {l l' : List V} (h1 : g x = y) (h2 : l.map g = l') : (x :: l).map g = y :: l' := by rw [List.map_cons, h1, h2]
/-- What the caller owns is lent. -/
theorem low_lentV {H : Nat → Option Blk} {io : List Nat} {l : List α} {id ver n : Nat} (h : En f es) (hn : n = l.length) (hB : H id = some ⟨ver, es, l.map f⟩) (hp : posOf io id = none) : V.low true io H (.own id ver 0 n) = .row false es (l.map f) := by
  subst hn
  show V.low1 true io H (.own id ver 0 l.length) = _
  simp only [V.low1, hB, if_true, hp, h.allClosed _ _ l, Bool.and_self, rowOf, List.drop_zero]
  have : (l.map f).take l.length = l.map f := by rw [← List.length_map (as := l) (f := f), List.take_length]
  rw [this, h.shareLL]
theorem low_lent {H : Nat → Option Blk} {io : List Nat} {l : List α} {id ver n : Nat} (h : En f es) (hn : n = l.length) (hB : H id = some ⟨ver, es, l.map f⟩) (hp : posOf io id = none) : A.low true io H (.c (.own id ver 0 n)) = .c (.row false es (l.map f)) := congrArg (fun v : V => A.c v.cold) (low_lentV h hn hB hp)
theorem low_lentC {H : Nat → Option Blk} {io : List Nat} {l : List α} {id ver n : Nat} (h : En f es) (hn : n = l.length) (hB : H id = some ⟨ver, es, l.map f⟩) (hp : posOf io id = none) : (V.low true io H (.own id ver 0 n)).cold = .row false es (l.map f) := congrArg V.cold (low_lentV h hn hB hp)
theorem low_g {lent : Bool} {io : List Nat} {H : Nat → Option Blk} {cs ds : List V} (h : cs.map (fun v => (V.low lent io H v).cold) = ds) : A.low lent io H (.g cs) = .g ds := congrArg A.g h
theorem lowB_at (h : En f es) (lent : Bool) (io : List Nat) (H : Nat → Option Blk) (ver : Nat) (l : List α) : lowB lent io H ⟨ver, es, l.map f⟩ = ⟨0, es, l.map f⟩ := by
  unfold lowB
  rw [h.lows]
theorem inB_nil {lent : Bool} {H : Nat → Option Blk} : inB lent [] H = [] := rfl
theorem inB_one (h : En f es) {H : Nat → Option Blk} {lent : Bool} {id ver : Nat} {l : List α} (hB : H id = some ⟨ver, es, l.map f⟩) : inB lent [id] H = [⟨0, es, l.map f⟩] := by
  unfold inB
  simp only [List.map_cons, List.map_nil, hB, lowB_at h]
theorem outB_one (h : En f es) {H : Nat → Option Blk} {id ver : Nat} {l : List α} (hB : H id = some ⟨ver, es, l.map f⟩) : outB [id] H = [⟨0, es, l.map f⟩] := by
  unfold outB
  simp only [List.map_cons, List.map_nil, hB, lowB_at h]
theorem updL_one (hfl : ∀ a, (f a).all flatV = true) (lent : Bool) (id : Nat) (ν : Nat → Nat) (l : List α) : updL lent [id] ν [id] [⟨0, es, l.map f⟩] = [(id, some ⟨ν id, es, l.map f⟩)] := by
  unfold updL
  rw [flat_back hfl]; rfl
theorem updL_oneC (h : En f es) (id : Nat) (ν : Nat → Nat) (l : List α) : updL false [id] ν [id] [⟨0, es, l.map f⟩] = [(id, some ⟨ν id, es, l.map f⟩)] := by
  unfold updL
  rw [h.back]; rfl
end

section
variable {F : Fr} {T : Tab} {S : St} {o : Oper}
/-- What an array's literal holds; the elements have sz cells. -/
def bdA (S : St) (sz : Nat) (zero : List V) (parts : Array (Nat × Operand)) (shs : List (List Nat)) : Option (List V) :=
  match parts.toList.zip shs |>.all (fun p => okPart (S.val p.2 p.1.2)), Nat.decEq shs.length parts.size with
  | true, .isTrue _ => fillV (fun i => some (i * sz, sz)) zero ((parts.toList.zip shs).map fun p => (p.1.1, S.val p.2 p.1.2))
  | _, _ => none
theorem sBdA {t : TypeId} {parts : Array (Nat × Operand)} (h : o.op = .build t parts) (shs : List (List Nat)) {ti te : TI} {n e : Nat} {out : List V} (ht : tg T t = some ti) (hk : ti.k = .array n e) (he : tg T e = some te) (hf : bdA S te.size ti.zero parts shs = some out) : St1 F T o S { v := .g out, use := opTmps (parts.toList.map (·.2)) } := sPure _ _ fun henv S' h1 h2 => by
  unfold bdA at hf
  split at hf
  · rename_i _ _ hlen hall _
    intro ac w σ β hs
    obtain ⟨z, hz, hzc, hz1⟩ := (henv.tab.ty ht).zero w
    have u1 := (henv.tab.ty ht).array hk
    have hsz := (henv.tab.ty he).sizeOf w
    obtain ⟨c1, c2⟩ := zero_cells (E := S'.cx w σ β) hzc
    have hcz : Cells (S'.cx w σ β) ti.zero z.cells := ⟨by simpa using c1.symm, fun i v hi => by simpa using c2 i v hi⟩
    obtain ⟨brr, g1, g2⟩ := fill_cells (E := S'.cx w σ β) (fun i => some (i * te.size, te.size)) ((parts.toList.zip shs).map fun p => (p.1.1, S.val p.2 p.1.2)) ((parts.map fun (i, x) => (i, ac.eval x)).toList) ti.zero z.cells out (by simp [hlen]) (fun q i x hq => by
      rw [List.getElem?_map] at hq
      obtain ⟨p, hp, e2⟩ := Option.map_eq_some_iff.1 hq
      simp only [Prod.mk.injEq] at e2
      obtain ⟨rfl, rfl⟩ := e2
      have hzp := List.getElem?_zip_eq_some.1 hp
      refine ⟨List.all_eq_true.1 hall p (List.mem_of_getElem? hp), ac.eval p.1.2, ?_, ?_⟩
      · have : parts[q]? = some p.1 := by simpa using hzp.1
        simp [this]
      · rw [← val_congr (S := S) (S' := S') (l := parts.toList.map (·.2)) (List.mem_map.2 ⟨p.1, List.mem_of_getElem? hzp.1, rfl⟩) (fun t ht => h1 t ht) p.2]
        exact val_ok hs p.2 p.1.2) hcz hf
    refine ⟨.agg brr, ?_, .g out brr g2.1 g2.2⟩
    simp only [execOp, h, Instr.build, Sem.run_bind, hz, Result.andThen_ok, run_underlying u1, hsz, g1, Sem.run_pure]
  · cases hf
/-- A call that lends (L) and gives nothing new. -/
theorem sCle {x : Operand} {xs : Array Operand} {ats : Array TypeId} {f : FuncId} {args : List A} {res : A} (hsp : Sp F.P f args [] res []) (hf : FnOk F.P f) (L : List Nat) {caps : List V} {v : A} (h : o.op = .call ⟨.value x, xs, ats⟩) (hx : S.val [] x = .c (.fn f caps)) (hargs : (argsOf S xs caps).map (A.low true [] (onlyIn L S.H)) = args) (hv : res.backT true [] (fun _ => 0) = v) :
    St1 F T o S { v, use := opTmps (x :: xs.toList), ids := L } := sC1 h hx L hargs hf hsp hv
/-- A call that gives one new block, and may lend. -/
theorem sCo {α : Type} {g : α → List V} {es : Nat} {x : Operand} {xs : Array Operand} {ats : Array TypeId} {f : FuncId} {args : List A} {res : A} {l : List α} (hsp : Sp F.P f args [] res [⟨0, es, l.map g⟩]) (hf : FnOk F.P f) (hfl : ∀ a, (g a).all flatV = true) (L : List Nat) (id : Nat) (hid : Nat.ble 100 id = true) {caps : List V} {v : A} (h : o.op = .call ⟨.value x, xs, ats⟩) (hx : S.val [] x = .c (.fn f caps)) (hargs : (argsOf S xs caps).map (A.low true [] (onlyIn (id :: L) S.H)) = args) (hv : res.backT true [id] (fun _ => S.nv id) = v) :
    St1 F T o S { v, upd := [(id, some ⟨S.nv id, es, l.map g⟩)], bump := [id], use := opTmps (x :: xs.toList), ids := id :: L } := fun he hd => by
  have hle : 100 ≤ id := Nat.le_of_ble_eq_true hid
  have hF := he.m
  have := step_call h hd hx hf true [] [id] (id :: L) [false] (args := args) (H0 := []) (res := res) (H1 := [⟨0, es, l.map g⟩]) hsp hargs rfl (by simp) (by simp) (by simp) (by intro i hi; simp at hi; omega) rfl rfl (fun i hi => by
    cases i with
    | zero => simp at hi
    | succ i => simp at hi)
  have e : verL S ([] ++ [id]) [false] = fun x => if x = id then S.nv id else 0 := by funext x; rfl
  have e2 : updL true ([] ++ [id]) (verL S ([] ++ [id]) [false]) ([] ++ [id]) [⟨0, es, l.map g⟩] = [(id, some ⟨S.nv id, es, l.map g⟩)] := by
    show updL true [id] _ [id] _ = _
    rw [updL_one hfl, e]; simp
  have e3 : res.backT true ([] ++ [id]) (verL S ([] ++ [id]) [false]) = v := by
    rw [← hv, e]
    have hb : ∀ u : V, u.back true [id] (fun x => if x = id then S.nv id else 0) = u.back true [id] (fun _ => S.nv id) := by
      intro u
      cases u with
      | own i ver off len =>
        cases i with
        | zero => rfl
        | succ i =>
          cases i with
          | zero => show V.own id (if id = id then S.nv id else 0) off len = _; rw [if_pos rfl]; rfl
          | succ i => rfl
      | ptr i ver k j =>
        cases i with
        | zero => rfl
        | succ i =>
          cases i with
          | zero => show V.ptr id (if id = id then S.nv id else 0) k j = _; rw [if_pos rfl]; rfl
          | succ i => rfl
      | fn f caps => cases caps <;> rfl
      | _ => rfl
    have ha : ∀ y : A, y.back true [id] (fun x => if x = id then S.nv id else 0) = y.back true [id] (fun _ => S.nv id) := by
      intro y
      cases y with
      | c u => exact congrArg A.c (hb u)
      | g cs => exact congrArg A.g (List.map_congr_left fun u _ => hb u)
      | t ys => rfl
    cases res with
    | t ys => exact congrArg A.t (List.map_congr_left fun y _ => ha y)
    | c u => exact ha (.c u)
    | g cs => exact ha (.g cs)
  have e4 : bumpL ([] ++ [id]) [false] = [id] := rfl
  rw [e2, e3, e4] at this
  exact this
/-- A call that writes one block, whose length stays. -/
theorem sCw {α : Type} {g : α → List V} {es : Nat} {x : Operand} {xs : Array Operand} {ats : Array TypeId} {f : FuncId} {args : List A} {res : A} {l l' : List α} (hsp : Sp F.P f args [⟨0, es, l.map g⟩] res [⟨0, es, l'.map g⟩]) (hf : FnOk F.P f) (hg : En g es) (hlen : l'.length = l.length) (id : Nat) {ver : Nat} (hB : S.H id = some ⟨ver, es, l.map g⟩) {caps : List V} {v : A} (h : o.op = .call ⟨.value x, xs, ats⟩) (hx : S.val [] x = .c (.fn f caps)) (hargs : (argsOf S xs caps).map (A.low false [id] (onlyIn [id] S.H)) = args) (hv : res.backT false [] (fun _ => 0) = v) (hv2 : res.backT false [id] (fun _ => ver) = v) :
    St1 F T o S { v, upd := [(id, some ⟨ver, es, l'.map g⟩)], use := opTmps (x :: xs.toList), ids := [id] } := fun he hd => by
  have ho : onlyIn [id] S.H id = some ⟨ver, es, l.map g⟩ := by unfold onlyIn; rw [if_pos (by simp), hB]
  have := step_call h hd hx hf false [id] [] [id] [true] (args := args) (H0 := [⟨0, es, l.map g⟩]) (res := res) (H1 := [⟨0, es, l'.map g⟩]) hsp hargs (inB_one hg ho) (by simp) (by intro i hi; simp at hi; subst hi; rw [ho]; rfl) (by simp) (by simp) rfl rfl (fun i hi => by
    cases i with
    | zero =>
      refine ⟨by simp, fun id' B B' h1 h2 h3 => ?_⟩
      simp at h1 h3
      subst h1; subst h3
      rw [hB] at h2
      cases h2
      exact ⟨rfl, by simp [hlen]⟩
    | succ i => simp at hi)
  have e : verL S ([id] ++ []) [true] = fun x => if x = id then ver else 0 := by
    funext x
    show (if x = id then (if true = true then (match S.H id with | some B => B.ver | none => 0) else S.nv id) else verL S [] [] x) = _
    rw [hB]; rfl
  have e2 : updL false ([id] ++ []) (verL S ([id] ++ []) [true]) ([id] ++ []) [⟨0, es, l'.map g⟩] = [(id, some ⟨ver, es, l'.map g⟩)] := by
    show updL false [id] _ [id] _ = _
    rw [updL_oneC hg, e]; simp
  have e3 : res.backT false ([id] ++ []) (verL S ([id] ++ []) [true]) = v := by
    rw [← hv2, e]
    have hb : ∀ u : V, u.back false [id] (fun x => if x = id then ver else 0) = u.back false [id] (fun _ => ver) := by
      intro u
      cases u with
      | own i ve off len =>
        cases i with
        | zero => rfl
        | succ i =>
          cases i with
          | zero => show V.own id (if id = id then ver else 0) off len = _; rw [if_pos rfl]; rfl
          | succ i => rfl
      | ptr i ve k j =>
        cases i with
        | zero => rfl
        | succ i =>
          cases i with
          | zero => show V.ptr id (if id = id then ver else 0) k j = _; rw [if_pos rfl]; rfl
          | succ i => rfl
      | fn f caps => cases caps <;> rfl
      | _ => rfl
    have ha : ∀ y : A, y.back false [id] (fun x => if x = id then ver else 0) = y.back false [id] (fun _ => ver) := by
      intro y
      cases y with
      | c u => exact congrArg A.c (hb u)
      | g cs => exact congrArg A.g (List.map_congr_left fun u _ => hb u)
      | t ys => rfl
    cases res with
    | t ys => exact congrArg A.t (List.map_congr_left fun y _ => ha y)
    | c u => exact ha (.c u)
    | g cs => exact ha (.g cs)
  have e4 : bumpL ([id] ++ []) [true] = [] := rfl
  rw [e2, e3, e4] at this
  exact this
end

/-- The end of a function that gives one block, or that wrote the one that it was handed. -/
theorem retOne {α : Type} {f : α → List V} {es : Nat} {S : St} {T : Tab} {rl : List ResultVar} {u res : A} {l : List α} (n0 id : Nat) {ver : Nat} (hn : n0 = 0 ∨ n0 = 1 ∧ id = 1) (hf : En f es) (hB : S.H id = some ⟨ver, es, l.map f⟩) (h : resAll T S rl = some u) (hu : u.lowT false [id] S.H = res) : Ret T rl n0 res [⟨0, es, l.map f⟩] .ret S := by
  refine ⟨.inr rfl, [id], u, by simp, fun i hi => ?_, fun i hi => ?_, h, hu, outB_one hf hB⟩
  · rcases hn with rfl | ⟨rfl, rfl⟩
    · exact absurd hi (Nat.not_lt_zero _)
    · have : i = 0 := by omega
      subst this; rfl
  · simp at hi; subst hi; rw [hB]; rfl
/-- An empty slice becomes a block of the call's own. -/
theorem W_ownNil {F : Fr} {T : Tab} {S : St} {c : Code} {Q : Exit → St → Prop} (he : Env F T) (t id : Nat) {es : Nat} (hid : Nat.ble 100 id = true) (ht : S.env t = .c (.row true es [])) (k : W F c ⟨updE S.env t (.c (.own id (S.nv id) 0 0)), updE S.H id (some ⟨S.nv id, es, []⟩), updE S.nv id (S.nv id + 1)⟩ Q) : W F c S Q := by
  rintro a w ⟨hd, hsz, σ, β, hs⟩
  exact k a w ⟨hd, hsz, σ, _, hs.ownNil ht (by have := Nat.le_of_ble_eq_true hid; have := he.m; omega)⟩
end Go.Eng
