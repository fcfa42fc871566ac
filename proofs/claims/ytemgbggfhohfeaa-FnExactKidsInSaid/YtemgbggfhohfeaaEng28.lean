/- Calls that write a box that they are handed and give one new block. -/
import Derived.Test.YtemgbggfhohfeaaEng27
set_option linter.unusedVariables false
set_option linter.unusedSimpArgs false
namespace Go.Eng

section
variable {F : Fr} {T : Tab} {S : St} {o : Oper}
theorem outB_two {α β : Type} {f : α → List V} {g : β → List V} {es et : Nat} (hf : En f es) (hg : En g et) {H : Nat → Option Blk} {i j v u : Nat} {l : List α} {m : List β} (hi : H i = some ⟨v, es, l.map f⟩) (hj : H j = some ⟨u, et, m.map g⟩) : outB [i, j] H = [⟨0, es, l.map f⟩, ⟨0, et, m.map g⟩] := by
  unfold outB
  simp only [List.map_cons, List.map_nil, hi, hj, lowB_at hf, lowB_at hg]
/-- A call that writes a block, whose length stays, and gives a new one. -/
theorem sCx {α β : Type} {g : α → List V} {q : β → List V} {es et : Nat} {x : Operand} {xs : Array Operand} {ats : Array TypeId} {f : FuncId} {args : List A} {res : A} {l l' : List α} {m : List β} (hsp : Sp F.P f args [⟨0, es, l.map g⟩] res [⟨0, es, l'.map g⟩, ⟨0, et, m.map q⟩]) (hf : FnOk F.P f) (hg : En g es) (hq : En q et) (hlen : l'.length = l.length) (id nid : Nat) (hnid : Nat.ble 100 nid = true) (hne : Nat.beq id nid = false) {ver : Nat} (hB : S.H id = some ⟨ver, es, l.map g⟩) {caps : List V} {v : A} (h : o.op = .call ⟨.value x, xs, ats⟩) (hx : S.val [] x = .c (.fn f caps)) (hargs : (argsOf S xs caps).map (A.low false [id] (onlyIn [id, nid] S.H)) = args) (hv : res.backT false [id, nid] (fun y => if y = id then ver else S.nv nid) = v) :
    St1 F T o S { v, upd := [(id, some ⟨ver, es, l'.map g⟩), (nid, some ⟨S.nv nid, et, m.map q⟩)], bump := [nid], use := opTmps (x :: xs.toList), ids := [id, nid] } := fun he hd => by
  have hne' : id ≠ nid := fun e => by subst e; simp at hne
  have hle : 100 ≤ nid := Nat.le_of_ble_eq_true hnid
  have hF := he.m
  have ho : onlyIn [id, nid] S.H id = some ⟨ver, es, l.map g⟩ := by unfold onlyIn; rw [if_pos (by simp), hB]
  have := step_call h hd hx hf false [id] [nid] [id, nid] [true, false] (args := args) (H0 := [⟨0, es, l.map g⟩]) (res := res) (H1 := [⟨0, es, l'.map g⟩, ⟨0, et, m.map q⟩]) hsp hargs (inB_one hg ho) (by simp [hne']) (by intro i hi; simp at hi; subst hi; rw [ho]; rfl) (by simp) (by intro i hi; simp at hi; omega) rfl rfl (fun i hi => by
    cases i with
    | zero =>
      refine ⟨by simp, fun id' B B' h1 h2 h3 => ?_⟩
      simp at h1 h3
      subst h1; subst h3
      rw [hB] at h2
      cases h2
      exact ⟨rfl, by simp [hlen]⟩
    | succ i =>
      cases i with
      | zero => simp at hi
      | succ i => simp at hi)
  have e : verL S ([id] ++ [nid]) [true, false] = fun y => if y = id then ver else if y = nid then S.nv nid else 0 := by
    funext y
    show (if y = id then (if true = true then (match S.H id with | some B => B.ver | none => 0) else S.nv id) else if y = nid then (if false = true then _ else S.nv nid) else verL S [] [] y) = _
    rw [hB]; rfl
  have e2 : updL false ([id] ++ [nid]) (verL S ([id] ++ [nid]) [true, false]) ([id] ++ [nid]) [⟨0, es, l'.map g⟩, ⟨0, et, m.map q⟩] = [(id, some ⟨ver, es, l'.map g⟩), (nid, some ⟨S.nv nid, et, m.map q⟩)] := by
    show updL false [id, nid] _ [id, nid] _ = _
    simp only [updL, hg.back, hq.back, e, if_true, if_neg hne'.symm]
  have e3 : res.backT false ([id] ++ [nid]) (verL S ([id] ++ [nid]) [true, false]) = v := by
    rw [← hv, e]
    have hk : ∀ y : Nat, y = id ∨ y = nid → (if y = id then ver else if y = nid then S.nv nid else 0) = (if y = id then ver else S.nv nid) := by
      rintro y (rfl | rfl)
      · simp
      · rw [if_neg hne'.symm, if_neg hne'.symm, if_pos rfl]
    have hb : ∀ u : V, u.back false ([id] ++ [nid]) (fun y => if y = id then ver else if y = nid then S.nv nid else 0) = u.back false [id, nid] (fun y => if y = id then ver else S.nv nid) := by
      intro u
      cases u with
      | own i ve off len =>
        match i with
        | 0 => rfl
        | 1 => show V.own id (if id = id then ver else if id = nid then S.nv nid else 0) off len = V.own id (if id = id then ver else S.nv nid) off len; rw [hk id (.inl rfl)]
        | 2 => show V.own nid (if nid = id then ver else if nid = nid then S.nv nid else 0) off len = V.own nid (if nid = id then ver else S.nv nid) off len; rw [hk nid (.inr rfl)]
        | _ + 3 => rfl
      | ptr i ve k j =>
        match i with
        | 0 => rfl
        | 1 => show V.ptr id (if id = id then ver else if id = nid then S.nv nid else 0) k j = V.ptr id (if id = id then ver else S.nv nid) k j; rw [hk id (.inl rfl)]
        | 2 => show V.ptr nid (if nid = id then ver else if nid = nid then S.nv nid else 0) k j = V.ptr nid (if nid = id then ver else S.nv nid) k j; rw [hk nid (.inr rfl)]
        | _ + 3 => rfl
      | fn f caps => cases caps <;> rfl
      | _ => rfl
    have ha : ∀ y : A, y.back false ([id] ++ [nid]) (fun y => if y = id then ver else if y = nid then S.nv nid else 0) = y.back false [id, nid] (fun y => if y = id then ver else S.nv nid) := by
      intro y
      cases y with
      | c u => exact congrArg A.c (hb u)
      | g cs => exact congrArg A.g (List.map_congr_left fun u _ => hb u)
      | t ys => rfl
    cases res with
    | t ys => exact congrArg A.t (List.map_congr_left fun y _ => ha y)
    | c u => exact ha (.c u)
    | g cs => exact ha (.g cs)
  have e4 : bumpL ([id] ++ [nid]) [true, false] = [nid] := rfl
  rw [e2, e3, e4] at this
  exact this
end
/-- The end of a function that wrote the block that it was handed and gives a new one. -/
theorem retTwo {α β : Type} {f : α → List V} {g : β → List V} {es et : Nat} {S : St} {T : Tab} {rl : List ResultVar} {u res : A} {l : List α} {m : List β} (id : Nat) (hid : Nat.beq 1 id = false) {ver v2 : Nat} (hf : En f es) (hg : En g et) (hB : S.H 1 = some ⟨ver, es, l.map f⟩) (hC : S.H id = some ⟨v2, et, m.map g⟩) (h : resAll T S rl = some u) (hu : u.lowT false [1, id] S.H = res) : Ret T rl 1 res [⟨0, es, l.map f⟩, ⟨0, et, m.map g⟩] .ret S := by
  have hne : 1 ≠ id := fun e => by subst e; simp at hid
  refine ⟨.inr rfl, [1, id], u, by simp [hne], fun i hi => ?_, fun i hi => ?_, h, hu, outB_two hf hg hB hC⟩
  · have : i = 0 := by omega
    subst this; rfl
  · simp at hi
    rcases hi with rfl | rfl
    · rw [hB]; rfl
    · rw [hC]; rfl

/-! ### The first part of a slice of the call's own -/
theorem sSlO {F : Fr} {T : Tab} {S : St} {o : Oper} {t : Nat} {x : Operand} {hi : Option Operand} (h : o.op = .slice t x none hi none) {id ver n : Nat} (hx : S.val [] x = .c (.own id ver 0 n)) {es : Nat} {xs : List (List V)} (hes : eSize T t = some es) (hB : S.H id = some ⟨ver, es, xs⟩) {hh : Int} (hr : bnd S n hi = some hh) (hb : 0 ≤ hh ∧ hh ≤ (n : Int)) :
    St1 F T o S { v := .c (.own id ver 0 hh.toNat), use := opTmps ([x] ++ hi.toList), ids := [id] } := sPure _ _ fun he S' h1 h2 => by
  have hB' : S'.H id = some ⟨ver, es, xs⟩ := by rw [(h2 id (by simp)).1, hB]
  have hr' : bnd S' n hi = some hh := by
    cases hi with
    | none => exact hr
    | some z =>
      unfold bnd at hr ⊢
      simp only at hr ⊢
      rw [val_congr (l := [x] ++ (some z).toList) (by simp) h1]
      exact hr
  have := ok_cutO (F := F) (S := S') he.tab h (vc h1 (by simp) hx) hB' rfl hes (l := 0) (hh := hh) rfl hr' (Int.le_refl _) hb.1 hb.2
  simpa using this
theorem RSx.cut {F : Fr} {S : St} {a : Act} {w : World} {σ : Nat → List Nat} {β : Nat → Option (Nat × Nat × Nat)} (hs : RSx F S a w σ β) {t id ver es k : Nat} {xs : List (List V)} (ht : S.env t = .c (.own id ver 0 k)) (hB : S.H id = some ⟨ver, es, xs⟩) (hk : k ≤ xs.length) :
    RSx F ⟨updE S.env t (.c (.own id (S.nv id) 0 k)), updE S.H id (some ⟨S.nv id, es, xs.take k⟩), updE S.nv id (S.nv id + 1)⟩ a w σ β := by
  have hid0 : id ≠ 0 := by rintro rfl; have h0 : S.H 0 = none := hs.hr.far; rw [h0] at hB; cases hB
  let S' : St := ⟨S.env, updE S.H id (some ⟨S.nv id, es, xs.take k⟩), updE S.nv id (S.nv id + 1)⟩
  have hext : Ext (S.cx w σ β) (S'.cx w σ β) := ⟨fun i => by
    show S.nv i ≤ updE S.nv id (S.nv id + 1) i
    by_cases e : i = id
    · subst e; rw [updE_same]; omega
    · rw [updE_other _ _ e]; exact Nat.le_refl _, fun i B' h hv => by
    have h' : updE S.H id (some ⟨S.nv id, es, xs.take k⟩) i = some B' := h
    by_cases e : i = id
    · subst e; rw [updE_same] at h'; cases h'; exact absurd hv (Nat.lt_irrefl _)
    · rw [updE_other _ _ e] at h'; exact ⟨B', h', rfl, rfl, rfl, rfl⟩⟩
  have hn : ∀ p, Near w σ w σ p := fun p b _ _ => ⟨rfl, rfl⟩
  refine ⟨⟨(updE_other _ _ (fun h => hid0 h.symm)).trans hs.hr.far, fun i B' h => ?_, hs.hr.new⟩, hs.mpos, hs.kp, hs.inn, fun t' => ?_⟩
  · have h' : updE S.H id (some ⟨S.nv id, es, xs.take k⟩) i = some B' := h
    by_cases e : i = id
    · subst e
      rw [updE_same] at h'
      cases h'
      obtain ⟨h1, h2⟩ := hs.hr.blk i _ hB
      refine ⟨by show S.nv i < updE S.nv i (S.nv i + 1) i; rw [updE_same]; omega, ?_⟩
      cases eb : β i with
      | none => exact .mk_void eb (by have := h2.void eb; show xs.take k = []; rw [show xs = [] from this]; simp)
      | some q =>
        obtain ⟨b, o', n⟩ := q
        obtain ⟨q1, q2, q3, arr, T', q4, q5, q6⟩ := h2.some eb
        refine .mk eb ⟨q1, fun x hx => q2 x (List.mem_of_mem_take hx), by show (xs.take k).length ≤ n; have : xs.length ≤ n := q3; simp; omega, arr, T', q4, q5, fun k' j x v hk' hj => ?_⟩
        have hk2 : (xs.take k)[k']? = some x := hk'
        rw [List.getElem?_take] at hk2
        split at hk2
        · obtain ⟨c, g3, g4⟩ := q6 k' j x v hk2 hj
          exact ⟨c, g3, g4.mono hext (hn _)⟩
        · cases hk2
    · rw [updE_other _ _ e] at h'
      obtain ⟨h1, h2⟩ := hs.hr.blk i B' h'
      exact ⟨by show B'.ver < updE S.nv id (S.nv id + 1) i; rw [updE_other _ _ e]; exact h1, h2.mono hext rfl (hn [i])⟩
  · show RA _ (updE S.env t (.c (.own id (S.nv id) 0 k)) t') _
    by_cases e : t' = t
    · subst e
      rw [updE_same]
      have h1 := hs.env t'
      rw [ht] at h1
      obtain ⟨A, cap, e1, hv, hcap, hmax, hb⟩ := inv_own h1
      rw [e1]
      refine .c (.own _ _ _ _ _ _ _ _ rfl (by show S.nv id < updE S.nv id (S.nv id + 1) id; rw [updE_same]; omega) hcap hmax fun B hB' hver => ?_)
      have h' : updE S.H id (some ⟨S.nv id, es, xs.take k⟩) id = some B := hB'
      rw [updE_same] at h'
      cases h'
      obtain ⟨g1, g2⟩ := hb _ hB rfl
      exact ⟨by show 0 + k ≤ (xs.take k).length; simp; omega, g2⟩
    · rw [updE_other _ _ e]
      exact (hs.env t').mono hext (hn [])
theorem wk_cut {S : St} {α : Type} {f : α → List V} {l : List α} (t : Nat) {id ver es : Nat} {h : Int} (hh : 0 ≤ h ∧ h ≤ (l.length : Int)) (ht : S.env t = .c (.own id ver 0 h.toNat)) (hB : S.H id = some ⟨ver, es, l.map f⟩) :
    Wk S ⟨updE S.env t (.c (.own id (S.nv id) 0 (l.take h.toNat).length)), updE S.H id (some ⟨S.nv id, es, (l.take h.toNat).map f⟩), updE S.nv id (S.nv id + 1)⟩ := by
  rintro F a w ⟨hd, hsz, σ, β, hs⟩
  have := hs.cut ht hB (by rw [List.length_map]; omega)
  have e : (l.take h.toNat).length = h.toNat := by rw [List.length_take]; omega
  rw [e, List.map_take]
  exact ⟨hd, hsz, σ, β, this⟩
end Go.Eng
