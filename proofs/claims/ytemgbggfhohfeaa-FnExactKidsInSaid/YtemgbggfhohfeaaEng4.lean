/- A region that draws its order: if steps that no edge puts in order do not touch what the other one looks at, each order comes to the state of the text's order. -/
import Derived.Test.YtemgbggfhohfeaaEng3
set_option linter.unusedVariables false
set_option linter.unusedSimpArgs false
namespace Go.Eng

/-- Same lookups. -/
structure St.Sim (S S' : St) : Prop where
  env : ∀ t, S.env t = S'.env t
  H : ∀ i, S.H i = S'.H i
  nv : ∀ i, S.nv i = S'.nv i
theorem St.Sim.eq {S S' : St} (h : S.Sim S') : S = S' := by
  obtain ⟨e, H, n⟩ := S
  obtain ⟨e', H', n'⟩ := S'
  have h1 : e = e' := funext h.env
  have h2 : H = H' := funext h.H
  have h3 : n = n' := funext h.nv
  subst h1; subst h2; subst h3; rfl

def keysOf (r : Rec) : List Nat := r.upd.map (·.1) ++ r.bump

/-- Two steps of which neither touches what the other one looks at or sets. -/
def indep (d1 : Option Tmp) (r1 : Rec) (d2 : Option Tmp) (r2 : Rec) : Bool :=
  (match d1 with | some d => !(r2.use.contains d) && d2 != some d | none => true) &&
  (match d2 with | some d => !(r1.use.contains d) | none => true) &&
  (keysOf r1).all (fun i => !(r2.ids.contains i) && !((keysOf r2).contains i)) &&
  (keysOf r2).all (fun i => !(r1.ids.contains i))

theorem setH_other {H : Nat → Option Blk} {l : List (Nat × Option Blk)} {i : Nat} (h : i ∉ l.map (·.1)) : setH H l i = H i := by
  induction l generalizing H with
  | nil => rfl
  | cons x r ih =>
    obtain ⟨k, B⟩ := x
    simp only [List.map_cons, List.mem_cons, not_or] at h
    rw [setH, ih h.2]
    simp [updE, h.1]
theorem setH_congr {H H' : Nat → Option Blk} {l : List (Nat × Option Blk)} {i : Nat} (h : i ∈ l.map (·.1)) : setH H l i = setH H' l i := by
  induction l generalizing H H' with
  | nil => simp at h
  | cons x r ih =>
    obtain ⟨k, B⟩ := x
    rw [setH, setH]
    by_cases hr : i ∈ r.map (·.1)
    · exact ih hr
    · rw [setH_other hr, setH_other hr]
      simp only [List.map_cons, List.mem_cons] at h
      rcases h with h | h
      · simp [updE, h]
      · exact absurd h hr
theorem bumpN_other {nv : Nat → Nat} {l : List Nat} {i : Nat} (h : i ∉ l) : bumpN nv l i = nv i := by
  induction l generalizing nv with
  | nil => rfl
  | cons x r ih =>
    simp only [List.mem_cons, not_or] at h
    rw [bumpN, ih h.2]
    simp [updE, h.1]
theorem bumpN_congr {nv nv' : Nat → Nat} {l : List Nat} {i : Nat} (h : nv i = nv' i) : bumpN nv l i = bumpN nv' l i := by
  induction l generalizing nv nv' with
  | nil => exact h
  | cons x r ih =>
    rw [bumpN, bumpN]
    refine ih ?_
    simp only [updE]
    split
    · rename_i e; subst e; rw [h]
    · exact h

theorem updO_same {α : Type} (f : Nat → α) (d : Nat) (v : α) : updO f (some d) v d = v := by simp [updO, updE]
theorem updO_other {α : Type} (f : Nat → α) (o : Option Nat) (v : α) (t : Nat) (h : o ≠ some t) : updO f o v t = f t := by
  cases o with
  | none => rfl
  | some d => simp only [updO, updE]; rw [if_neg (fun e => h (by rw [e]))]

theorem not_contains {l : List Nat} {i : Nat} (h : (!(l.contains i)) = true) : i ∉ l := by simpa using h

theorem app_comm {S : St} {d1 d2 : Option Tmp} {r1 r2 : Rec} (h : indep d1 r1 d2 r2 = true) : (S.app d1 r1).app d2 r2 = (S.app d2 r2).app d1 r1 := by
  simp only [indep, Bool.and_eq_true, List.all_eq_true] at h
  obtain ⟨⟨⟨hd1, hd2⟩, hk1⟩, hk2⟩ := h
  have hne : ∀ d, d1 = some d → d2 ≠ some d := by
    rintro d rfl
    have : d2 != some d := (by simpa using hd1 : _ ∧ _).2
    simpa using this
  refine St.Sim.eq ⟨fun t => ?_, fun i => ?_, fun i => ?_⟩
  · simp only [St.app]
    by_cases e1 : d1 = some t
    · have e2 : d2 ≠ some t := hne t e1
      rw [updO_other _ _ _ _ e2, e1, updO_same, updO_same]
    · by_cases e2 : d2 = some t
      · rw [e2, updO_same, updO_other _ _ _ _ e1, updO_same]
      · rw [updO_other _ _ _ _ e2, updO_other _ _ _ _ e1, updO_other _ _ _ _ e1, updO_other _ _ _ _ e2]
  · simp only [St.app]
    by_cases e1 : i ∈ r1.upd.map (·.1)
    · have e2 : i ∉ r2.upd.map (·.1) := fun hm => by
        have := hk1 i (List.mem_append_left _ e1)
        have h2 := not_contains this.2
        exact h2 (List.mem_append_left _ hm)
      rw [setH_other e2]
      exact setH_congr e1
    · rw [setH_other e1 (H := setH S.H r2.upd)]
      by_cases e2 : i ∈ r2.upd.map (·.1)
      · exact setH_congr e2
      · rw [setH_other e2, setH_other e2, setH_other e1]
  · simp only [St.app]
    by_cases e1 : i ∈ r1.bump
    · have e2 : i ∉ r2.bump := fun hm => by
        have := hk1 i (List.mem_append_right _ e1)
        exact not_contains this.2 (List.mem_append_right _ hm)
      rw [bumpN_other e2]
      exact bumpN_congr (bumpN_other e2).symm
    · rw [bumpN_other e1 (nv := bumpN S.nv r2.bump)]
      exact bumpN_congr (bumpN_other e1)

/-- i's edges and theirs: what must lie behind us before i. -/
def needs (o : Oper) : List Nat := (o.after.toList.filter (fun e => Region.binds .any e)).map (·.on)
def reach (ops : Array Oper) : Nat → Nat → Nat → Bool
  | 0, _, _ => false
  | n + 1, j, i => match ops[j]? with
    | none => false
    | some o => (needs o).any fun k => k == i || reach ops n k i

/-- For every two steps: the later one waits for the earlier one, or they do not touch each other. -/
def calm (ops : Array Oper) (rs : List Rec) : Bool :=
  (List.range ops.size).all fun j => (List.range j).all fun i =>
    match rs[i]?, rs[j]? with
    | some r1, some r2 => indep (dstOf ops i) r1 (dstOf ops j) r2 || reach ops ops.size j i
    | _, _ => false

def downOk (ops : Array Oper) : Bool := (List.range ops.size).all fun i => match ops[i]? with | some o => (needs o).all (· < i) | none => false

/-- The state when those of the first n operations that L names have been. -/
def stAt (ops : Array Oper) (rs : List Rec) (L : Nat → Bool) (S : St) : Nat → St
  | 0 => S
  | n + 1 => if L n then (match rs[n]? with | some r => (stAt ops rs L S n).app (dstOf ops n) r | none => stAt ops rs L S n) else stAt ops rs L S n

/-- What is done is closed under what must be ahead of it. -/
def Done (ops : Array Oper) (L : Nat → Bool) : Prop := ∀ j o, ops[j]? = some o → L j = true → ∀ k ∈ needs o, L k = true

theorem Done.reach {ops : Array Oper} {L : Nat → Bool} (h : Done ops L) : ∀ (n j i : Nat), reach ops n j i = true → L j = true → L i = true := by
  intro n
  induction n with
  | zero => intro j i hr; simp [Eng.reach] at hr
  | succ n ih =>
    intro j i hr hj
    rw [Eng.reach] at hr
    cases ho : ops[j]? with
    | none => rw [ho] at hr; simp at hr
    | some o =>
      rw [ho] at hr
      simp only [List.any_eq_true, Bool.or_eq_true, beq_iff_eq] at hr
      obtain ⟨k, hk, e | e⟩ := hr
      · subst e; exact h j o ho hj k hk
      · exact ih k i e (h j o ho hj k hk)

theorem stAt_congr {ops : Array Oper} {rs : List Rec} {L L' : Nat → Bool} {S : St} (n : Nat) (h : ∀ i, i < n → L i = L' i) : stAt ops rs L S n = stAt ops rs L' S n := by
  induction n with
  | zero => rfl
  | succ n ih =>
    rw [stAt, stAt, ih (fun i hi => h i (by omega)), h n (by omega)]

section
variable {ops : Array Oper} {rs : List Rec} {S : St} {L : Nat → Bool}

theorem calm_pair (hc : calm ops rs = true) {i j : Nat} (hij : i < j) (hj : j < ops.size) : ∃ r1 r2, rs[i]? = some r1 ∧ rs[j]? = some r2 ∧ (indep (dstOf ops i) r1 (dstOf ops j) r2 = true ∨ reach ops ops.size j i = true) := by
  simp only [calm, List.all_eq_true, List.mem_range] at hc
  have := hc j hj i hij
  cases e1 : rs[i]? with
  | none => rw [e1] at this; simp at this
  | some r1 =>
    cases e2 : rs[j]? with
    | none => rw [e1, e2] at this; simp at this
    | some r2 =>
      rw [e1, e2] at this
      simp only [Bool.or_eq_true] at this
      exact ⟨r1, r2, rfl, rfl, this⟩

/-- Putting i in behind those that are done already. -/
theorem stAt_add (hc : calm ops rs = true) (hd : Done ops L) {i : Nat} (hi : L i = false) {r : Rec} (hr : rs[i]? = some r) :
    ∀ n, n ≤ ops.size → i < n → stAt ops rs (updE L i true) S n = (stAt ops rs L S n).app (dstOf ops i) r := by
  intro n
  induction n with
  | zero => intro _ h; omega
  | succ n ih =>
    intro hn hin
    rcases Nat.lt_or_ge i n with h | h
    · have hne : n ≠ i := by omega
      rw [stAt, stAt, ih (by omega) h]
      simp only [updE, if_neg hne]
      cases hL : L n with
      | false => rfl
      | true =>
        obtain ⟨r1, r2, e1, e2, e3⟩ := calm_pair hc h (by omega)
        have e4 := e3.resolve_right (fun hrch => by have := hd.reach _ _ _ hrch hL; rw [hi] at this; cases this)
        rw [hr] at e1
        cases e1
        rw [e2]
        simp only [if_true]
        exact app_comm e4
    · have e : i = n := by omega
      subst e
      rw [stAt, stAt, hi, stAt_congr i (L := updE L i true) (L' := L) (fun j hj => by simp [updE]; intro e; omega)]
      simp [updE, hr]
end

/-- What the text's order had before it at step i, a set that is done has too, as far as i looks. -/
theorem stAt_looks {ops : Array Oper} {rs : List Rec} {S : St} {L : Nat → Bool} (hc : calm ops rs = true) (hd : Done ops L) {i : Nat} (hi : L i = false) {r : Rec} (hr : rs[i]? = some r) (hisz : i < ops.size)
    (hneed : ∀ j, j < i → L j = false → ∃ r1, rs[j]? = some r1 ∧ indep (dstOf ops j) r1 (dstOf ops i) r = true) :
    ∀ n, n ≤ ops.size → (∀ t ∈ r.use, (stAt ops rs L S n).env t = (stAt ops rs (fun _ => true) S (min n i)).env t) ∧
      (∀ k ∈ r.ids, (stAt ops rs L S n).H k = (stAt ops rs (fun _ => true) S (min n i)).H k ∧ (stAt ops rs L S n).nv k = (stAt ops rs (fun _ => true) S (min n i)).nv k) := by
  have away : ∀ (j : Nat) (r1 : Rec) (X : St), indep (dstOf ops j) r1 (dstOf ops i) r = true → (∀ t ∈ r.use, (X.app (dstOf ops j) r1).env t = X.env t) ∧ (∀ k ∈ r.ids, (X.app (dstOf ops j) r1).H k = X.H k ∧ (X.app (dstOf ops j) r1).nv k = X.nv k) := by
    intro j r1 X h
    simp only [indep, Bool.and_eq_true, List.all_eq_true] at h
    obtain ⟨⟨⟨hd1, hd2⟩, hk1⟩, hk2⟩ := h
    refine ⟨fun t ht => ?_, fun k hk => ⟨?_, ?_⟩⟩
    · refine updO_other _ _ _ _ (fun e => ?_)
      rw [e] at hd1
      have h1 : (!(r.use.contains t)) = true := (by simpa using hd1 : _ ∧ _).1 |> (by simpa using ·)
      exact not_contains h1 ht
    · refine setH_other (fun hm => ?_)
      exact not_contains (hk1 k (List.mem_append_left _ hm)).1 hk
    · refine bumpN_other (fun hm => ?_)
      exact not_contains (hk1 k (List.mem_append_right _ hm)).1 hk
  have away' : ∀ (j : Nat) (r1 : Rec) (X : St), indep (dstOf ops i) r (dstOf ops j) r1 = true → (∀ t ∈ r.use, (X.app (dstOf ops j) r1).env t = X.env t) ∧ (∀ k ∈ r.ids, (X.app (dstOf ops j) r1).H k = X.H k ∧ (X.app (dstOf ops j) r1).nv k = X.nv k) := by
    intro j r1 X h
    simp only [indep, Bool.and_eq_true, List.all_eq_true] at h
    obtain ⟨⟨⟨hd1, hd2⟩, hk1⟩, hk2⟩ := h
    refine ⟨fun t ht => ?_, fun k hk => ⟨?_, ?_⟩⟩
    · refine updO_other _ _ _ _ (fun e => ?_)
      rw [e] at hd2
      exact not_contains hd2 ht
    · refine setH_other (fun hm => ?_)
      exact not_contains (hk2 k (List.mem_append_left _ hm)) hk
    · refine bumpN_other (fun hm => ?_)
      exact not_contains (hk2 k (List.mem_append_right _ hm)) hk
  intro n
  induction n with
  | zero => intro _; simp [stAt]
  | succ n ih =>
    intro hn
    obtain ⟨ih1, ih2⟩ := ih (by omega)
    rcases Nat.lt_or_ge n i with h | h
    · have e1 : min (n + 1) i = n + 1 := by omega
      have e2 : min n i = n := by omega
      rw [e1]
      rw [e2] at ih1 ih2
      rw [stAt, stAt]
      simp only [if_true]
      obtain ⟨r1, r2, f1, f2, f3⟩ := calm_pair hc h hisz
      rw [f1]
      rw [hr] at f2
      cases f2
      cases hL : L n with
      | true =>
        simp only [if_true]
        have same : ∀ {α : Type} (f g : Nat → α) (d : Option Nat) (v : α) (t : Nat), f t = g t → updO f d v t = updO g d v t := by
          intro α f g d v t h
          cases d with
          | none => exact h
          | some d => simp only [updO, updE]; split <;> simp [*]
        refine ⟨fun t ht => same _ _ _ _ _ (ih1 t ht), fun k hk => ⟨?_, bumpN_congr (ih2 k hk).2⟩⟩
        simp only [St.app]
        by_cases hm : k ∈ r1.upd.map (·.1)
        · exact setH_congr hm
        · rw [setH_other hm, setH_other hm]
          exact (ih2 k hk).1
      | false =>
        simp only [Bool.false_eq_true, if_false]
        obtain ⟨r1', g1, g2⟩ := hneed n h hL
        rw [f1] at g1
        cases g1
        obtain ⟨a1, a2⟩ := away n r1 (stAt ops rs (fun _ => true) S n) g2
        exact ⟨fun t ht => (ih1 t ht).trans (a1 t ht).symm, fun k hk => ⟨(ih2 k hk).1.trans (a2 k hk).1.symm, (ih2 k hk).2.trans (a2 k hk).2.symm⟩⟩
    · have e1 : min (n + 1) i = i := by omega
      have e2 : min n i = i := by omega
      rw [e1]
      rw [e2] at ih1 ih2
      rw [stAt]
      cases hL : L n with
      | false => exact ⟨ih1, ih2⟩
      | true =>
        have hne : i < n := by
          rcases Nat.lt_or_ge i n with h' | h'
          · exact h'
          · have : i = n := by omega
            subst this
            rw [hi] at hL; cases hL
        obtain ⟨r1, r2, f1, f2, f3⟩ := calm_pair hc hne (by omega)
        rw [hr] at f1
        cases f1
        have f4 := f3.resolve_right (fun hrch => by have := hd.reach _ _ _ hrch hL; rw [hi] at this; cases this)
        rw [f2]
        simp only [if_true]
        obtain ⟨a1, a2⟩ := away' n r2 (stAt ops rs L S n) f4
        exact ⟨fun t ht => (a1 t ht).trans (ih1 t ht), fun k hk => ⟨(a2 k hk).1.trans (ih2 k hk).1, (a2 k hk).2.trans (ih2 k hk).2⟩⟩

theorem Trc.at_ {F : Fr} {ops : Array Oper} {S0 : St} {l : List Nat} {S S' : St} {rs : List Rec} (h : Trc F ops l S rs S') :
    ∀ (pre : List Rec) (k : Nat), k + l.length = ops.size → l = (List.range' k l.length) → pre.length = k → S = stAt ops (pre ++ rs) (fun _ => true) S0 k →
      rs.length = l.length ∧ S' = stAt ops (pre ++ rs) (fun _ => true) S0 ops.size ∧ ∀ j, j < l.length → ∃ r, (pre ++ rs)[k + j]? = some r ∧ Stp F ops (k + j) (stAt ops (pre ++ rs) (fun _ => true) S0 (k + j)) r := by
  induction h with
  | nil S =>
    intro pre k hk _ _ hS
    refine ⟨rfl, ?_, fun j hj => absurd hj (by simp)⟩
    have : k = ops.size := by simpa using hk
    rw [← this]; exact hS
  | @cons i l S r rs S' h t ih =>
    intro pre k hk hl hp hS
    have hi : i = k := by
      have := congrArg List.head? hl
      simpa [List.range'] using this
    subst hi
    have hl' : l = List.range' (i + 1) l.length := by
      have := congrArg List.tail hl
      simpa [List.range'] using this
    have hget : (pre ++ r :: rs)[i]? = some r := by
      rw [List.getElem?_append_right (by omega)]
      simp [hp]
    have hpre : pre ++ r :: rs = (pre ++ [r]) ++ rs := by simp
    have hS1 : S.app (dstOf ops i) r = stAt ops ((pre ++ [r]) ++ rs) (fun _ => true) S0 (i + 1) := by
      rw [← hpre, stAt]
      simp only [if_true]
      rw [hget, ← hS]
    obtain ⟨h1, h2, h3⟩ := ih (pre ++ [r]) (i + 1) (by simp at hk; omega) hl' (by simp [hp]) hS1
    rw [← hpre] at h2 h3
    refine ⟨by simp [h1], h2, fun j hj => ?_⟩
    cases j with
    | zero => exact ⟨r, hget, by rw [Nat.add_zero, ← hS]; exact h⟩
    | succ j =>
      obtain ⟨r', e1, e2⟩ := h3 j (by simpa using hj)
      have e : i + 1 + j = i + (j + 1) := by omega
      rw [e] at e1 e2
      exact ⟨r', e1, e2⟩

theorem RS.drawn {F : Fr} {S : St} {a : Act} {w : World} (h : RS F S a w) : RS F S a { w with drawn := w.drawn + 1 } := by
  obtain ⟨h1, h2, σ, β, hx⟩ := h
  have hext : Ext (S.cx w σ β) (S.cx { w with drawn := w.drawn + 1 } σ β) := ⟨fun _ => Nat.le_refl _, fun id B h _ => ⟨B, h, rfl, rfl, rfl, rfl⟩⟩
  have hn : ∀ p, Near w σ { w with drawn := w.drawn + 1 } σ p := fun p b _ _ => ⟨rfl, rfl⟩
  refine ⟨h1, h2, σ, β, ⟨⟨hx.hr.far, fun id B hB => ?_, hx.hr.new⟩, hx.mpos, ⟨hx.kp.os, hx.kp.tape, hx.kp.output, hx.kp.size, hx.kp.heap, hx.kp.free⟩, hx.inn, fun t => (hx.env t).mono hext (hn [])⟩⟩
  obtain ⟨e1, e2⟩ := hx.hr.blk id B hB
  exact ⟨e1, e2.mono hext rfl (hn [id])⟩

def listedOf (listed : Array Bool) : Nat → Bool := fun i => listed.getD i true

theorem ready_mem {ops : Array Oper} {listed : Array Bool} {i : Nat} : i ∈ Region.ready .any ops listed ↔ i < ops.size ∧ listed.getD i true = false ∧ ∃ o, ops[i]? = some o ∧ ∀ k ∈ needs o, listed.getD k false = true := by
  unfold Region.ready
  rw [List.mem_filter, List.mem_range]
  constructor
  · rintro ⟨h1, h2⟩
    simp only [Bool.and_eq_true, Bool.not_eq_true'] at h2
    obtain ⟨h3, h4⟩ := h2
    refine ⟨h1, h3, ?_⟩
    cases ho : ops[i]? with
    | none => rw [ho] at h4; simp at h4
    | some o =>
      refine ⟨o, rfl, fun k hk => ?_⟩
      rw [ho] at h4
      simp only [Option.map_some, Option.getD_some, Array.all_eq_true'] at h4
      simp only [needs, List.mem_map, List.mem_filter] at hk
      obtain ⟨e, ⟨he, hb⟩, rfl⟩ := hk
      have := h4 e (by simpa using he)
      simpa [hb] using this
  · rintro ⟨h1, h3, o, ho, h4⟩
    refine ⟨h1, ?_⟩
    simp only [Bool.and_eq_true, Bool.not_eq_true']
    refine ⟨h3, ?_⟩
    rw [ho]
    simp only [Option.map_some, Option.getD_some, Array.all_eq_true']
    intro e he
    cases hb : Region.binds .any e with
    | false => simp
    | true =>
      have := h4 e.on (by simp only [needs, List.mem_map, List.mem_filter]; exact ⟨e, ⟨by simpa using he, hb⟩, rfl⟩)
      simpa using this

/-- A region that draws its order. -/
theorem W_draw {F : Fr} {id : Nat} {ops : Array Oper} {S S' : St} {rs : List Rec} {Q : Exit → St → Prop} (hm : F.P.follows .mixedOrders = true) (hf : Fits F ops) (h : Trc F ops (List.range ops.size) S rs S') (hc : calm ops rs = true) (hdn : downOk ops = true) (hq : Q .normal S') : W F (.region id ops true) S Q := by
  obtain ⟨hlen, hfin, hst⟩ := h.at_ (S0 := S) [] 0 (by simp) (by simp [List.range_eq_range']) rfl rfl
  simp only [List.nil_append, Nat.zero_add, List.length_range] at hlen hfin hst
  intro a w hs
  refine wp_region_any hm ?_
  have hdown : ∀ (i : Nat) o, ops[i]? = some o → ∀ k ∈ needs o, k < i := by
    intro i o ho k hk
    simp only [downOk, List.all_eq_true, List.mem_range] at hdn
    have := hdn i (Array.getElem?_eq_some_iff.1 ho).1
    rw [ho] at this
    simp only [List.all_eq_true, decide_eq_true_eq] at this
    exact this k hk
  have key : ∀ (fuel : Nat) (listed : Array Bool), listed.size = ops.size → Done ops (listedOf listed) → (∀ i, ops.size ≤ i → True) →
      (List.range ops.size).countP (fun i => !(listedOf listed i)) ≤ fuel →
      ∀ a w, RS F (stAt ops rs (listedOf listed) S ops.size) a w → wpAny F.P .any ops (lift F Q) fuel listed a w := by
    intro fuel
    have over : ∀ (listed : Array Bool), listed.size = ops.size → Done ops (listedOf listed) → Region.ready .any ops listed = [] → ∀ i, i < ops.size → listedOf listed i = true := by
      intro listed hsz hD hr i
      induction i using Nat.strongRecOn with
      | _ i ih =>
        intro hi
        cases hl : listedOf listed i with
        | true => rfl
        | false =>
          exfalso
          have hmem : i ∈ Region.ready .any ops listed := by
            refine ready_mem.2 ⟨hi, hl, ops[i], by simp [hi], fun k hk => ?_⟩
            have hlt := hdown i ops[i] (by simp [hi]) k hk
            have h1 := ih k hlt (by omega)
            unfold listedOf at h1
            rw [Array.getD_eq_getD_getElem?] at h1 ⊢
            have : listed[k]? = some (listed[k]'(by omega)) := Array.getElem?_eq_getElem (by omega)
            rw [this] at h1 ⊢
            simpa using h1
          rw [hr] at hmem
          cases hmem
    have fin : ∀ (listed : Array Bool), listed.size = ops.size → Done ops (listedOf listed) → Region.ready .any ops listed = [] → ∀ a w, RS F (stAt ops rs (listedOf listed) S ops.size) a w → lift F Q .normal a w := by
      intro listed hsz hD hr a w hs
      have hall := over listed hsz hD hr
      refine ⟨S', hq, ?_⟩
      rw [hfin, ← stAt_congr ops.size (L := listedOf listed) (fun i hi => hall i hi)]
      exact hs
    induction fuel with
    | zero =>
      intro listed hsz hD _ hcnt a w hs
      have hall : ∀ i, i < ops.size → listedOf listed i = true := by
        intro i hi
        have h0 : (List.range ops.size).countP (fun i => !(listedOf listed i)) = 0 := by omega
        rw [List.countP_eq_zero] at h0
        have := h0 i (List.mem_range.2 hi)
        simpa using this
      have hr : Region.ready .any ops listed = [] := by
        cases e : Region.ready .any ops listed with
        | nil => rfl
        | cons x l =>
          have hx : x ∈ Region.ready .any ops listed := by rw [e]; exact List.mem_cons_self
          obtain ⟨h1, h2, _⟩ := ready_mem.1 hx
          have := hall x h1
          unfold listedOf at this
          rw [h2] at this; cases this
      exact ⟨hr, fin listed hsz hD hr a w hs⟩
    | succ fuel ih =>
      intro listed hsz hD _ hcnt a w hs
      refine ⟨fun hr => fin listed hsz hD hr a w hs, fun i hi => ?_⟩
      obtain ⟨hisz, hil, o, ho, hneed⟩ := ready_mem.1 hi
      obtain ⟨r, hr, hstp⟩ := hst i hisz
      have hL : listedOf listed i = false := hil
      have hDset : listedOf (listed.setIfInBounds i true) = updE (listedOf listed) i true := by
        funext j
        simp only [listedOf, updE, Array.getD_eq_getD_getElem?]
        by_cases e : j = i
        · subst e
          rw [if_pos rfl]
          simp [hsz, hisz]
        · rw [if_neg e, Array.getElem?_setIfInBounds_ne (fun h => e h.symm)]
      have hD' : Done ops (updE (listedOf listed) i true) := by
        intro j oj hj hjl k hk
        by_cases e : k = i
        · subst e; simp [updE]
        · simp only [updE, if_neg e]
          by_cases ej : j = i
          · subst ej
            rw [ho] at hj
            cases hj
            have := hneed k hk
            unfold listedOf
            rw [Array.getD_eq_getD_getElem?] at this ⊢
            cases hk2 : listed[k]? with
            | none => rfl
            | some b => rw [hk2] at this; simpa using this
          · simp only [updE, if_neg ej] at hjl
            exact hD j oj hj hjl k hk
      have looks := stAt_looks (S := S) hc hD hL hr hisz (fun j hji hjl => by
        obtain ⟨r1, r2, f1, f2, f3⟩ := calm_pair hc hji hisz
        rw [hr] at f2
        cases f2
        refine ⟨r1, f1, f3.resolve_right (fun hrch => ?_)⟩
        have hi2 := hD'.reach _ _ _ hrch (by simp [updE])
        simp only [updE, if_neg (show j ≠ i by omega)] at hi2
        rw [hjl] at hi2; cases hi2) ops.size (Nat.le_refl _)
      rw [Nat.min_eq_right (Nat.le_of_lt hisz)] at looks
      refine hstp.wp hf looks.1 looks.2 ?_ hs
      intro a' w' hs'
      refine ih (listed.setIfInBounds i true) (by simpa using hsz) (by rw [hDset]; exact hD') (fun _ _ => trivial) ?_ a' w' ?_
      · rw [hDset]
        have : (List.range ops.size).countP (fun j => !(updE (listedOf listed) i true j)) < (List.range ops.size).countP (fun j => !(listedOf listed j)) := by
          have hgen : ∀ (l : List Nat), i ∈ l → l.countP (fun j => !(updE (listedOf listed) i true j)) < l.countP (fun j => !(listedOf listed j)) := by
            have hle : ∀ (l : List Nat), l.countP (fun j => !(updE (listedOf listed) i true j)) ≤ l.countP (fun j => !(listedOf listed j)) := fun l =>
              List.countP_mono_left (fun j _ hj => by
                simp only [updE] at hj
                by_cases e : j = i
                · simp [e] at hj
                · simpa [e] using hj)
            intro l hl
            induction l with
            | nil => cases hl
            | cons x t iht =>
              rw [List.countP_cons, List.countP_cons]
              by_cases e : x = i
              · subst e
                have := hle t
                have h1 : (!(updE (listedOf listed) x true x)) = false := by simp [updE]
                have h2 : (!(listedOf listed x)) = true := by rw [hL]; rfl
                rw [h1, h2]
                simp only [if_true, Bool.false_eq_true, if_false]
                omega
              · have hm : i ∈ t := by
                  rcases List.mem_cons.1 hl with h | h
                  · exact absurd h.symm e
                  · exact h
                have := iht hm
                have h1 : updE (listedOf listed) i true x = listedOf listed x := by simp only [updE]; rw [if_neg e]
                rw [h1]
                omega
          exact hgen _ (List.mem_range.2 hisz)
        omega
      · rw [hDset, stAt_add hc hD hL hr ops.size (Nat.le_refl _) hisz]
        exact hs'
  refine key ops.size (Array.replicate ops.size false) (by simp) ?_ (fun _ _ => trivial) ?_ a { w with drawn := w.drawn + 1 } ?_
  · intro j o ho hl
    have hj := (Array.getElem?_eq_some_iff.1 ho).1
    simp [listedOf, Array.getD_eq_getD_getElem?, hj] at hl
  · exact Nat.le_trans (List.countP_le_length) (by simp)
  · have : ∀ n, n ≤ ops.size → stAt ops rs (listedOf (Array.replicate ops.size false)) S n = S := by
      intro n
      induction n with
      | zero => intro _; rfl
      | succ n ih =>
        intro hn
        rw [stAt, ih (by omega)]
        have : listedOf (Array.replicate ops.size false) n = false := by simp [listedOf, Array.getD_eq_getD_getElem?, show n < ops.size by omega]
        rw [this]; rfl
    rw [this ops.size (Nat.le_refl _)]
    exact hs.drawn
end Go.Eng
