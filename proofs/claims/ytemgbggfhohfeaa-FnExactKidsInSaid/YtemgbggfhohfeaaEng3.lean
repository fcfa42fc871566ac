/- Operations by local steps: a step tells what it reads and what it sets; regions, also those that draw their order. -/
import Derived.Test.YtemgbggfhohfeaaEng2
import Derived.Orders
set_option linter.unusedVariables false
set_option linter.unusedSimpArgs false
namespace Go.Eng

/-- What one operation does: the temporary that it sets (dst) and its value; the blocks that it sets; whether a block is a new one (its version counts on); what it looked at. -/
structure Rec where
  v : A
  upd : List (Nat × Option Blk) := []
  bump : List Nat := []
  use : List Tmp := []
  ids : List Nat := []

def updE {α : Type} (f : Nat → α) (k : Nat) (v : α) : Nat → α := fun i => if i = k then v else f i
def updO {α : Type} (f : Nat → α) (k : Option Nat) (v : α) : Nat → α := match k with | none => f | some k => updE f k v
def setH (H : Nat → Option Blk) : List (Nat × Option Blk) → Nat → Option Blk
  | [] => H
  | (i, B) :: r => setH (updE H i B) r
def bumpN (nv : Nat → Nat) : List Nat → Nat → Nat
  | [] => nv
  | i :: r => bumpN (updE nv i (nv i + 1)) r

def St.app (S : St) (dst : Option Tmp) (r : Rec) : St := ⟨updO S.env dst r.v, setH S.H r.upd, bumpN S.nv r.bump⟩
def St.put (S : St) (dst : Option Tmp) (v : A) : St := ⟨updO S.env dst v, S.H, S.nv⟩

/-- The operation runs, from state S to state S'. -/
def OpOk (F : Fr) (o : Oper) (S S' : St) : Prop := ∀ (a : Act) (w : World), RS F S a w →
  (∃ v w', (execOp a.eval o).run F.P w = .ok (.value v) w' ∧ RS F S' (a.put o.dst v) w') ∨
  (∃ w', (execOp a.eval o).run F.P w = .ok .skip w' ∧ RS F S' (a.put o.dst undef) w') ∨
  (∃ f args w', (execOp a.eval o).run F.P w = .ok (.enter f args) w' ∧ Calls F.P f args w' fun e w'' => ∃ v, e = .returned v ∧ RS F S' (a.put o.dst v) w'')

/-- A step that leans on no more of S than it tells. -/
def StepL (F : Fr) (o : Oper) (S : St) (r : Rec) : Prop :=
  ∀ S' : St, (∀ t ∈ r.use, S'.env t = S.env t) → (∀ i ∈ r.ids, S'.H i = S.H i ∧ S'.nv i = S.nv i) → OpOk F o S' (S'.app o.dst r)

def guardTmp (ops : Array Oper) (j : Nat) : Option Tmp := (ops[j]?).bind (·.dst)

/-- One operation of a region: it is run, or passed over by its guard. -/
inductive Stp (F : Fr) (ops : Array Oper) (i : Nat) (S : St) : Rec → Prop
  | run (o : Oper) (r : Rec) (ho : ops[i]? = some o) (hg : o.guard = none) (h : StepL F o S r) : Stp F ops i S r
  | runG (o : Oper) (r : Rec) (j : Nat) (d : Tmp) (b : Bool) (ho : ops[i]? = some o) (hg : o.guard = some (j, b)) (hd : guardTmp ops j = some d) (hv : S.env d = .c (.bool b)) (h : StepL F o S r) (hu : d ∈ r.use) : Stp F ops i S r
  | pass (o : Oper) (j : Nat) (d : Tmp) (b c : Bool) (ho : ops[i]? = some o) (hg : o.guard = some (j, b)) (hd : guardTmp ops j = some d) (hv : S.env d = .c (.bool c)) (hne : c ≠ b) : Stp F ops i S { v := .c .skip, use := [d] }
  | passS (o : Oper) (j : Nat) (d : Tmp) (b : Bool) (ho : ops[i]? = some o) (hg : o.guard = some (j, b)) (hd : guardTmp ops j = some d) (hv : S.env d = .c .skip) : Stp F ops i S { v := .c .skip, use := [d] }

def dstOf (ops : Array Oper) (i : Nat) : Option Tmp := (ops[i]?).bind (·.dst)

theorem guard_bool {b : Bool} {c : Value} (h : ∃ E : Cx, RA E (.c (.bool b)) c) : c = .bool b := by
  obtain ⟨E, h⟩ := h
  cases h with
  | c h =>
    cases h with
    | c h => cases h; rfl
theorem guard_skip {c : Value} (h : ∃ E : Cx, RA E (.c .skip) c) : c = undef := by
  obtain ⟨E, h⟩ := h
  cases h with
  | c h =>
    cases h with
    | c h => cases h
    | skip => rfl

theorem yielded_at {ops : Array Oper} {tmps : Array Value} {j : Nat} {d : Tmp} (hd : guardTmp ops j = some d) {b : Bool} (h : tmps.getD d undef = .bool b) : yielded ops tmps j = some b := by
  unfold guardTmp at hd
  have h' : tmps[d]? = some (.bool b) := by
    rw [Array.getD_eq_getD_getElem?] at h
    cases e : tmps[d]? with
    | none => rw [e] at h; simp [undef] at h
    | some v => rw [e] at h; simpa using h
  cases ho : ops[j]? with
  | none => rw [ho] at hd; simp at hd
  | some o =>
    rw [ho] at hd
    simp only [Option.bind_some] at hd
    simp [yielded, ho, hd, h']
theorem yielded_undef {ops : Array Oper} {tmps : Array Value} {j : Nat} {d : Tmp} (hd : guardTmp ops j = some d) (h : tmps.getD d undef = undef) : yielded ops tmps j = none := by
  unfold guardTmp at hd
  cases ho : ops[j]? with
  | none => rw [ho] at hd; simp at hd
  | some o =>
    rw [ho] at hd
    simp only [Option.bind_some] at hd
    rw [Array.getD_eq_getD_getElem?] at h
    cases e : tmps[d]? with
    | none => simp [yielded, ho, hd, e]
    | some v =>
      rw [e] at h
      simp only [Option.getD_some] at h
      subst h
      simp [yielded, ho, hd, e, undef]

theorem put_tmps_size (a : Act) (d : Option Tmp) (v : Value) : (a.put d v).tmps.size = a.tmps.size := by
  cases d <;> simp [Act.put]
theorem put_defers (a : Act) (d : Option Tmp) (v : Value) : (a.put d v).defers = a.defers := by
  cases d <;> simp [Act.put]

/-- A value is put into a temporary. -/
theorem put_env {E : Cx} {env : Nat → A} {a : Act} {N : Nat} (hs : a.tmps.size = N) (h : ∀ t, RA E (env t) (a.tmps.getD t undef)) {dst : Option Tmp} (hd : ∀ d, dst = some d → d < N) {x : A} {v : Value} (hx : RA E x v) :
    ∀ t, RA E (updO env dst x t) ((a.put dst v).tmps.getD t undef) := by
  intro t
  cases dst with
  | none => exact h t
  | some d =>
    have hlt := hd d rfl
    simp only [updO, updE, Act.put]
    by_cases e : t = d
    · subst e
      simp [hs, hlt, hx]
    · rw [if_neg e]
      have := h t
      rw [Array.getD_eq_getD_getElem?] at this ⊢
      rw [Array.getElem?_setIfInBounds_ne (fun h => e h.symm)]
      exact this

/-- Every temporary that the code sets lies in the frame. -/
def Fits (F : Fr) (ops : Array Oper) : Prop := ∀ (i : Nat) o, ops[i]? = some o → ∀ d, o.dst = some d → d < F.N

theorem Stp.wp {F : Fr} {ops : Array Oper} {i : Nat} {S S0 : St} {r : Rec} {Qf : Exit → Act → World → Prop} {K : Act → World → Prop} (hf : Fits F ops) (h : Stp F ops i S0 r) (h1 : ∀ t ∈ r.use, S.env t = S0.env t) (h2 : ∀ j ∈ r.ids, S.H j = S0.H j ∧ S.nv j = S0.nv j)
    (hK : ∀ a w, RS F (S.app (dstOf ops i) r) a w → K a w) {a : Act} {w : World} (hs : RS F S a w) : wpOp F.P ops Qf i K a w := by
  have runs : ∀ o, ops[i]? = some o → StepL F o S0 r → o.wp F.P a w K Qf := by
    intro o ho hst
    have hK' : ∀ a w, RS F (S.app o.dst r) a w → K a w := by
      intro a w h
      refine hK a w ?_
      simpa [dstOf, ho] using h
    rcases hst S h1 h2 a w hs with ⟨v, w', hr, hs'⟩ | ⟨w', hr, hs'⟩ | ⟨f, args, w', hr, hc⟩
    · unfold Oper.wp; rw [hr]; exact hK' _ _ hs'
    · unfold Oper.wp; rw [hr]; exact hK' _ _ hs'
    · unfold Oper.wp; rw [hr]
      refine Calls.mono hc ?_
      rintro e w'' ⟨v, rfl, hs'⟩
      exact hK' _ _ hs'
  have passes : ∀ (o : Oper), ops[i]? = some o → r = { v := .c .skip, use := r.use } → K (a.put o.dst undef) w := by
    intro o ho hr
    refine hK _ _ ?_
    obtain ⟨hd, hsz, σ, β, hx⟩ := hs
    have hdst : dstOf ops i = o.dst := by simp [dstOf, ho]
    refine ⟨by rw [put_defers]; exact hd, by rw [put_tmps_size]; exact hsz, σ, β, ?_⟩
    rw [hr, hdst]
    exact ⟨hx.hr, hx.mpos, hx.kp, hx.inn, put_env hsz hx.env (hf i o ho) (.c (.skip _))⟩
  unfold wpOp
  cases h with
  | run o r ho hg h =>
    simp only [ho, Region.wanted, hg, if_true]
    exact .inl (runs o ho h)
  | runG o r j d b ho hg hd hv h hu =>
    have hb := guard_bool (by have := hs.2.2; obtain ⟨σ, β, hx⟩ := this; have := hx.env d; rw [h1 d hu, hv] at this; exact ⟨_, this⟩)
    have hy := yielded_at hd hb
    simp only [ho, Region.wanted, hg, hy, beq_self_eq_true, if_true]
    exact .inl (runs o ho h)
  | pass o j d b c ho hg hd hv hne =>
    have hb := guard_bool (by have := hs.2.2; obtain ⟨σ, β, hx⟩ := this; have := hx.env d; rw [h1 d (by simp), hv] at this; exact ⟨_, this⟩)
    have hy := yielded_at hd hb
    have hf : (some c == some b) = false := by simp [hne]
    simp only [ho, Region.wanted, hg, hy, hf]
    exact passes o ho rfl
  | passS o j d b ho hg hd hv =>
    have hb := guard_skip (by have := hs.2.2; obtain ⟨σ, β, hx⟩ := this; have := hx.env d; rw [h1 d (by simp), hv] at this; exact ⟨_, this⟩)
    have hy := yielded_undef hd hb
    have hf : ((none : Option Bool) == some b) = false := rfl
    simp only [ho, Region.wanted, hg, hy, hf]
    exact passes o ho rfl

/-- The operations of a list, one behind the other; rs: what each did. -/
inductive Trc (F : Fr) (ops : Array Oper) : List Nat → St → List Rec → St → Prop
  | nil (S) : Trc F ops [] S [] S
  | cons {i l S r rs S'} (h : Stp F ops i S r) (t : Trc F ops l (S.app (dstOf ops i) r) rs S') : Trc F ops (i :: l) S (r :: rs) S'

theorem Trc.wp {F : Fr} {ops : Array Oper} {Q : Exit → St → Prop} (hf : Fits F ops) {l : List Nat} {S S' : St} {rs : List Rec} (h : Trc F ops l S rs S') (hq : Q .normal S') : WOps F ops l S Q := by
  induction h with
  | nil S => exact WOps_nil hq
  | @cons i l S r rs S' h t ih =>
    intro a w hs
    rw [wpOps_cons]
    exact h.wp hf (fun _ _ => rfl) (fun _ _ => ⟨rfl, rfl⟩) (fun a w hs => ih hq a w hs) hs

/-- A region in the order of the text. -/
theorem W_ops {F : Fr} {id : Nat} {ops : Array Oper} {S S' : St} {rs : List Rec} {Q : Exit → St → Prop} (hf : Fits F ops) (h : Trc F ops (List.range ops.size) S rs S') (hq : Q .normal S') : W F (.region id ops false) S Q :=
  W_region (h.wp hf hq)
end Go.Eng
