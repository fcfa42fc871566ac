/- States of the engine: temporaries as trees, blocks of the call's own by number; what it means that a frame and a world are in such a state. -/
import Derived.Test.YtemgbggfhohfeaaEng1
set_option linter.unusedVariables false
set_option linter.unusedSimpArgs false
namespace Go.Eng

structure Blk where
  ver : Nat
  es : Nat
  xs : List (List V)
  deriving Inhabited

/-- w: the world; σ: to whom a block belongs; β: where block id lies (block, offset, room in elements; none: nowhere, it is empty); H: the blocks; nv: a block's next version. -/
structure Cx where
  w : World
  σ : Nat → List Nat
  β : Nat → Option (Nat × Nat × Nat)
  H : Nat → Option Blk
  nv : Nat → Nat

def OwnAt (E : Cx) (id off cap es : Nat) (A : Option Addr) : Prop :=
  cap = 0 ∨ ∃ b o n, E.β id = some (b, o, n) ∧ A = some ⟨b, o + off * es, none⟩ ∧ off + cap ≤ n

inductive RV (E : Cx) : List Nat → V → Value → Prop
  | c {p v c} (h : RC E.w E.σ p v c) : RV E p v c
  | own (p id ver off len A n cap) (hn : n = len) (hv : ver < E.nv id) (hcap : len ≤ cap) (hmax : cap ≤ maxLen)
      (h : ∀ B, E.H id = some B → B.ver = ver → off + len ≤ B.xs.length ∧ OwnAt E id off cap B.es A) : RV E p (.own id ver off len) (.slice A n cap)
  | ptr (p id ver k j a) (hv : ver < E.nv id) (h : ∀ B, E.H id = some B → B.ver = ver → ∃ b o n, E.β id = some (b, o, n) ∧ a = ⟨b, o + k * B.es + j, none⟩) : RV E p (.ptr id ver k j) (.pointer (some a))
  | ip (p es xs k j b off n cap) (h : RC E.w E.σ [] (.row false es xs) (.slice (some ⟨b, off, none⟩) n cap)) : RV E p (.ip es xs k j) (.pointer (some ⟨b, off + k * es + j, none⟩))
  | fn (p f caps) (cs : Array Value) (cv : Nat → Value) (hs : cs.size = caps.length) (h1 : ∀ (i : Nat) v, caps[i]? = some v → cs[i]? = some (cv i)) (h2 : ∀ (i : Nat) v, caps[i]? = some v → RV E [] v (cv i)) : RV E p (.fn f caps) (.func (.func f) #[] cs)
  | skip (p) : RV E p .skip undef
  | undef (p v) : RV E p .undef v

/-- E' knows no more of elder blocks than E. -/
structure Ext (E E' : Cx) : Prop where
  nv : ∀ id, E.nv id ≤ E'.nv id
  old : ∀ id B', E'.H id = some B' → B'.ver < E.nv id → ∃ B, E.H id = some B ∧ B.ver = B'.ver ∧ B.es = B'.es ∧ B.xs.length = B'.xs.length ∧ E'.β id = E.β id

theorem Ext.refl (E : Cx) : Ext E E := ⟨fun _ => Nat.le_refl _, fun id B h _ => ⟨B, h, rfl, rfl, rfl, rfl⟩⟩

theorem RV.mono {E E' : Cx} {p : List Nat} {v : V} {c : Value} (h : RV E p v c) (hx : Ext E E') : Near E.w E.σ E'.w E'.σ p → RV E' p v c := by
  induction h with
  | c h => exact fun hn => .c (h.mono hn)
  | own p id ver off len A n cap hn hv hcap hmax h =>
    intro _
    refine .own p id ver off len A n cap hn (Nat.lt_of_lt_of_le hv (hx.nv id)) hcap hmax fun B' hB hver => ?_
    obtain ⟨B, h1, h2, h3, h4, h5⟩ := hx.old id B' hB (by omega)
    have := h B h1 (by omega)
    rw [← h4, ← h3]
    refine ⟨this.1, ?_⟩
    have h6 := this.2
    unfold OwnAt at h6 ⊢
    rw [h5]
    exact h6
  | ptr p id ver k j a hv h =>
    intro _
    refine .ptr p id ver k j a (Nat.lt_of_lt_of_le hv (hx.nv id)) fun B' hB hver => ?_
    obtain ⟨B, h1, h2, h3, h4, h5⟩ := hx.old id B' hB (by omega)
    rw [← h3, h5]
    exact h B h1 (by omega)
  | ip p es xs k j b off n cap h => exact fun hn => .ip p es xs k j b off n cap (h.mono hn.nil)
  | fn p f caps cs cv hs h1 h2 ih => exact fun hn => .fn p f caps cs cv hs h1 fun i v hi => ih i v hi hn.nil
  | skip p => exact fun _ => .skip p
  | undef p v => exact fun _ => .undef p v

/-- What a temporary holds may stand anywhere. -/
theorem RV.any {E : Cx} {v : V} {c : Value} (h : RV E [] v c) (q : List Nat) : RV E q v c := by
  cases h with
  | c h => exact .c (h.move (p' := q) (fun _ h => h) (fun _ _ hp => absurd rfl hp) (fun hp => absurd rfl hp))
  | own p id ver off len A n cap hn hv hcap hmax h => exact .own _ _ _ _ _ _ _ _ hn hv hcap hmax h
  | ptr p id ver k j a hv h => exact .ptr _ _ _ _ _ _ hv h
  | ip p es xs k j b off n cap h => exact .ip _ _ _ _ _ _ _ _ _ h
  | fn p f caps cs cv hs h1 h2 => exact .fn _ _ _ _ cv hs h1 h2
  | skip p => exact .skip _
  | undef p v => exact .undef _ _

inductive A where
  | c (v : V)
  | g (cs : List V)
  | t (xs : List A)
  deriving Inhabited

inductive RA (E : Cx) : A → Value → Prop
  | c {v x} (h : RV E [] v x) : RA E (.c v) x
  | g (cs : List V) (arr : Array Value) (hs : arr.size = cs.length) (h : ∀ (i : Nat) v, cs[i]? = some v → ∃ c, arr[i]? = some c ∧ RV E [] v c) : RA E (.g cs) (.agg arr)
  | t (xs : List A) (arr : Array Value) (cv : Nat → Value) (hs : arr.size = xs.length) (h1 : ∀ (i : Nat) v, xs[i]? = some v → arr[i]? = some (cv i)) (h2 : ∀ (i : Nat) v, xs[i]? = some v → RA E v (cv i)) : RA E (.t xs) (.tuple arr)

theorem RA.mono {E E' : Cx} {x : A} {c : Value} (h : RA E x c) (hx : Ext E E') (hn : Near E.w E.σ E'.w E'.σ []) : RA E' x c := by
  induction h with
  | c h => exact .c (h.mono hx hn)
  | g cs arr hs h => exact .g cs arr hs fun i v hi => let ⟨c, h1, h2⟩ := h i v hi; ⟨c, h1, h2.mono hx hn⟩
  | t xs arr cv hs h1 h2 ih => exact .t xs arr cv hs h1 fun i v hi => ih i v hi

/-- Block id holds B. -/
def BR (E : Cx) (id : Nat) (B : Blk) : Prop :=
  match E.β id with
  | none => B.xs = []
  | some (b, o, n) => E.σ b = [id] ∧ (∀ x ∈ B.xs, x.length = B.es) ∧ B.xs.length ≤ n ∧ ∃ arr T, E.w.heap[b]? = some (.cells arr T (0, 0)) ∧ o + n * B.es ≤ arr.size ∧
      ∀ (k j : Nat) x v, B.xs[k]? = some x → x[j]? = some v → ∃ c, arr[o + k * B.es + j]? = some c ∧ RV E [id, k, j] v c

theorem BR.some {E : Cx} {id : Nat} {B : Blk} {b o n : Nat} (h : BR E id B) (hb : E.β id = .some (b, o, n)) : E.σ b = [id] ∧ (∀ x ∈ B.xs, x.length = B.es) ∧ B.xs.length ≤ n ∧ ∃ arr T, E.w.heap[b]? = .some (.cells arr T (0, 0)) ∧ o + n * B.es ≤ arr.size ∧
      ∀ (k j : Nat) x v, B.xs[k]? = .some x → x[j]? = .some v → ∃ c, arr[o + k * B.es + j]? = .some c ∧ RV E [id, k, j] v c := by
  unfold BR at h
  rw [hb] at h
  exact h
theorem BR.void {E : Cx} {id : Nat} {B : Blk} (h : BR E id B) (hb : E.β id = .none) : B.xs = [] := by
  unfold BR at h
  rw [hb] at h
  exact h
theorem BR.mk {E : Cx} {id : Nat} {B : Blk} {b o n : Nat} (hb : E.β id = .some (b, o, n)) (h : E.σ b = [id] ∧ (∀ x ∈ B.xs, x.length = B.es) ∧ B.xs.length ≤ n ∧ ∃ arr T, E.w.heap[b]? = .some (.cells arr T (0, 0)) ∧ o + n * B.es ≤ arr.size ∧
      ∀ (k j : Nat) x v, B.xs[k]? = .some x → x[j]? = .some v → ∃ c, arr[o + k * B.es + j]? = .some c ∧ RV E [id, k, j] v c) : BR E id B := by
  unfold BR
  rw [hb]
  exact h
theorem BR.mk_void {E : Cx} {id : Nat} {B : Blk} (hb : E.β id = .none) (h : B.xs = []) : BR E id B := by
  unfold BR
  rw [hb]
  exact h

/-- A block that nobody has touched. -/
theorem BR.mono {E E' : Cx} {id : Nat} {B : Blk} (h : BR E id B) (hx : Ext E E') (hb : E'.β id = E.β id) (hn : Near E.w E.σ E'.w E'.σ [id]) : BR E' id B := by
  cases e : E.β id with
  | none => exact .mk_void (hb.trans e) (h.void e)
  | some q =>
    obtain ⟨b, o, n⟩ := q
    obtain ⟨hs, hes, hl, arr, T, hh, hsz, hc⟩ := h.some e
    obtain ⟨e1, e2⟩ := hn b (heap_lt hh) (.inr ⟨by simp, by rw [hs]; exact List.prefix_refl _⟩)
    refine .mk (hb.trans e) ⟨by rw [e2, hs], hes, hl, arr, T, by rw [e1, hh], hsz, fun k j x v hk hj => ?_⟩
    obtain ⟨c, h1, h2⟩ := hc k j x v hk hj
    exact ⟨c, h1, h2.mono hx (hn.down (by simp) (q := [k, j]))⟩

structure HR (E : Cx) : Prop where
  far : E.H 0 = none
  blk : ∀ id B, E.H id = some B → B.ver < E.nv id ∧ BR E id B
  new : ∀ b, E.w.heap.size ≤ b → E.σ b = []

/-- Where a call began: w0; σ0: which of its blocks the call may write (not [], which nobody writes, nor [0], which others may own); m: the numbered blocks that came in are 1 .. m - 1 (they stay where they were, β0). -/
structure Fr where
  P : Program
  N : Nat
  w0 : World
  σ0 : Nat → List Nat
  β0 : Nat → Option (Nat × Nat × Nat)
  m : Nat

structure Kp (w0 : World) (σ0 : Nat → List Nat) (w : World) (σ : Nat → List Nat) : Prop where
  os : w.os = w0.os
  tape : w.tape = w0.tape
  output : w.output = w0.output
  size : w0.heap.size ≤ w.heap.size
  heap : ∀ b, b < w0.heap.size → (σ0 b = [] ∨ σ0 b = [0]) → w.heap[b]? = w0.heap[b]?
  free : ∀ b, b < w0.heap.size → (σ0 b = [] ∨ σ0 b = [0]) → σ b = σ0 b

theorem Kp.refl (w : World) (σ : Nat → List Nat) : Kp w σ w σ := ⟨rfl, rfl, rfl, Nat.le_refl _, fun _ _ _ => rfl, fun _ _ _ => rfl⟩

/-- A state: what the temporaries hold, the blocks, each block's next version. -/
structure St where
  env : Nat → A
  H : Nat → Option Blk
  nv : Nat → Nat

def St.cx (S : St) (w : World) (σ : Nat → List Nat) (β : Nat → Option (Nat × Nat × Nat)) : Cx := ⟨w, σ, β, S.H, S.nv⟩

structure RSx (F : Fr) (S : St) (a : Act) (w : World) (σ : Nat → List Nat) (β : Nat → Option (Nat × Nat × Nat)) : Prop where
  hr : HR (S.cx w σ β)
  mpos : 0 < F.m
  kp : Kp F.w0 F.σ0 w σ
  inn : ∀ i, i < F.m → β i = F.β0 i
  env : ∀ t, RA (S.cx w σ β) (S.env t) (a.tmps.getD t undef)

def RS (F : Fr) (S : St) (a : Act) (w : World) : Prop := a.defers = [] ∧ a.tmps.size = F.N ∧ ∃ σ β, RSx F S a w σ β

def lift (F : Fr) (Q : Exit → St → Prop) : Exit → Act → World → Prop := fun e a w => ∃ S, Q e S ∧ RS F S a w
/-- From a frame and a world in state S the code comes to Q. -/
def W (F : Fr) (c : Code) (S : St) (Q : Exit → St → Prop) : Prop := ∀ a w, RS F S a w → c.wp F.P (lift F Q) a w
def WOps (F : Fr) (ops : Array Oper) (l : List Nat) (S : St) (Q : Exit → St → Prop) : Prop := ∀ a w, RS F S a w → wpOps F.P ops (lift F Q) l a w

section rules
variable {F : Fr} {S : St} {Q Q' : Exit → St → Prop}
theorem lift_mono (h : ∀ e S, Q e S → Q' e S) {e : Exit} {a : Act} {w : World} : lift F Q e a w → lift F Q' e a w := fun ⟨S, h1, h2⟩ => ⟨S, h _ _ h1, h2⟩
theorem W.mono {c : Code} (h : W F c S Q) (hq : ∀ e S, Q e S → Q' e S) : W F c S Q' := fun a w hs => wp_mono (h a w hs) fun _ _ _ => lift_mono hq
theorem W_skip (h : Q .normal S) : W F .skip S Q := fun a w hs => wp_skip ⟨S, h, hs⟩
theorem W_label {l : Nat} (h : Q .normal S) : W F (.label l) S Q := fun a w hs => wp_label ⟨S, h, hs⟩
theorem W_exit {id : Nat} (h : Q (.exit id) S) : W F (.exit id) S Q := fun a w hs => wp_exit ⟨S, h, hs⟩
theorem W_ret (h : Q .ret S) : W F .ret S Q := fun a w hs => wp_ret ⟨S, h, hs⟩

def Exit.andThen (next : St → Prop) (Q : Exit → St → Prop) : Exit → St → Prop
  | .normal, S => next S
  | e, S => Q e S
theorem W_seq {x y : Code} (h : W F x S (Exit.andThen (fun S => W F y S Q) Q)) : W F (.seq x y) S Q := by
  intro a w hs
  refine wp_seq (wp_mono (h a w hs) ?_)
  rintro e a' w' ⟨S', hq, hs'⟩
  cases e with
  | normal => exact hq a' w' hs'
  | exit id => exact ⟨S', hq, hs'⟩
  | goto l => exact ⟨S', hq, hs'⟩
  | ret => exact ⟨S', hq, hs'⟩
  | panic c => exact ⟨S', hq, hs'⟩
  | outgrown => exact ⟨S', hq, hs'⟩
def Exit.shutBlock (id : Nat) (Q : Exit → St → Prop) : Exit → St → Prop
  | .exit id', S => if id' = id then Q .normal S else Q (.exit id') S
  | e, S => Q e S
theorem W_block {id : Nat} {c : Code} (h : W F c S (Exit.shutBlock id Q)) : W F (.block id c) S Q := by
  intro a w hs
  refine wp_block (wp_mono (h a w hs) ?_)
  rintro e a' w' ⟨S', hq, hs'⟩
  cases e with
  | normal => exact ⟨S', hq, hs'⟩
  | exit id' =>
    show Exit.inBlock id (lift F Q) (.exit id') a' w'
    simp only [Exit.shutBlock] at hq
    simp only [Exit.inBlock]
    split
    · rename_i h1
      rw [if_pos h1] at hq
      exact ⟨S', hq, hs'⟩
    · rename_i h1
      rw [if_neg h1] at hq
      exact ⟨S', hq, hs'⟩
  | goto l => exact ⟨S', hq, hs'⟩
  | ret => exact ⟨S', hq, hs'⟩
  | panic c => exact ⟨S', hq, hs'⟩
  | outgrown => exact ⟨S', hq, hs'⟩

/-- A loop: the states at its head by a number that gets less. -/
theorem W_loop {c : Code} (I : Nat → St → Prop) (n : Nat) (h0 : I n S)
    (h : ∀ n S, I n S → W F c S (Exit.andThen (fun S' => ∃ m, m < n ∧ I m S') Q)) : W F (.loop c) S Q := by
  have key : ∀ n (S : St), I n S → W F (.loop c) S Q := by
    intro n
    induction n using Nat.strongRecOn with
    | _ n ih =>
      intro S hI a w hs
      intro b k cs
      have step : ∀ (n : Nat) (S : St), I n S → (∀ m, m < n → ∀ S', I m S' → ∀ a w, RS F S' a w → ∃ e a' w', lift F Q e a' w' ∧ Arrives F.P (lone (b.at a (.code c :: .inLoop c :: k)) cs w) b k cs e a' w') →
          ∀ a w, RS F S a w → ∃ e a' w', lift F Q e a' w' ∧ Arrives F.P (lone (b.at a (.code c :: .inLoop c :: k)) cs w) b k cs e a' w' := by
        intro n S hI rec a w hs
        obtain ⟨e, a₁, w₁, ⟨S₁, hq, hs₁⟩, harr⟩ := h n S hI a w hs b (.inLoop c :: k) cs
        cases e with
        | normal =>
          obtain ⟨m, hm, hI₁⟩ := hq
          obtain ⟨e₂, a₂, w₂, hq₂, harr₂⟩ := rec m hm S₁ hI₁ a₁ w₁ hs₁
          exact ⟨e₂, a₂, w₂, hq₂, .of_steps (Steps.trans harr (.one step_inLoop)) harr₂⟩
        | exit id => exact ⟨_, a₁, w₁, ⟨S₁, hq, hs₁⟩, .pass (x := .inLoop c) rfl (fun _ _ => .inl (by simp)) harr⟩
        | goto l => exact ⟨_, a₁, w₁, ⟨S₁, hq, hs₁⟩, .pass (x := .inLoop c) rfl (fun _ _ => .inl (by simp)) harr⟩
        | ret => exact ⟨_, a₁, w₁, ⟨S₁, hq, hs₁⟩, .pass (x := .inLoop c) rfl (fun _ _ => .inl (by simp)) harr⟩
        | panic ch => exact ⟨_, a₁, w₁, ⟨S₁, hq, hs₁⟩, .pass (x := .inLoop c) rfl (fun _ _ => .inl (by simp)) harr⟩
        | outgrown => exact ⟨_, a₁, w₁, ⟨S₁, hq, hs₁⟩, .pass (x := .inLoop c) rfl (fun _ _ => .inl (by simp)) harr⟩
      have all : ∀ n (S : St), I n S → ∀ a w, RS F S a w → ∃ e a' w', lift F Q e a' w' ∧ Arrives F.P (lone (b.at a (.code c :: .inLoop c :: k)) cs w) b k cs e a' w' := by
        intro n
        induction n using Nat.strongRecOn with
        | _ n ih => exact fun S hI => step n S hI fun m hm S' hI' => ih m hm S' hI'
      obtain ⟨e, a', w', hq, harr⟩ := all n S hI a w hs
      exact ⟨e, a', w', hq, .of_steps (.one step_loop) harr⟩
  exact key n S h0

theorem W_region {id : Nat} {ops : Array Oper} (h : WOps F ops (List.range ops.size) S Q) : W F (.region id ops false) S Q := fun a w hs => wp_region (h a w hs)
theorem WOps_nil {ops : Array Oper} (h : Q .normal S) : WOps F ops [] S Q := fun a w hs => by
  simp only [wpOps]
  exact ⟨S, h, hs⟩
end rules
end Go.Eng
