/- Abstract values (trees) of the engine, and what it means that a model's value in a world is such a tree. -/
import Derived.ArgAppend
import Derived.Below
import Derived.Carry
import Derived.KernelRfl
set_option linter.unusedVariables false
set_option linter.unusedSimpArgs false
namespace Go.Eng

/-- Abstract values of one cell. row o es xs: a slice's elements (es cells each); o: in memory of its own. own: a slice of block id (from element off on). ptr: an address in block id. ip: an address in a row that is read alone. -/
inductive V where
  | int (k : IntKind) (n : Int)
  | bool (b : Bool)
  | str (s : ByteArray)
  | row (o : Bool) (es : Nat) (xs : List (List V))
  | own (id ver off len : Nat)
  | ptr (id ver k j : Nat)
  | ip (es : Nat) (xs : List (List V)) (k j : Nat)
  | nilp
  | fn (f : FuncId) (caps : List V)
  | skip
  | undef
  deriving Inhabited

mutual
def V.share : V → V
  | .row _ es xs => .row false es (shareLL xs)
  | v => v
def shareLL : List (List V) → List (List V)
  | [] => []
  | x :: r => shareL x :: shareLL r
def shareL : List V → List V
  | [] => []
  | v :: r => v.share :: shareL r
end
theorem shareL_map (l : List V) : shareL l = l.map V.share := by
  induction l with
  | nil => rfl
  | cons v r ih => simp [shareL, ih]
theorem shareLL_map (l : List (List V)) : shareLL l = l.map (fun x => x.map V.share) := by
  induction l with
  | nil => rfl
  | cons v r ih => simp [shareLL, ih, shareL_map]

/-- A closed tree: v reads as c in the world w. σ: to whom a block belongs (a position; [] to nobody who writes). p: the position of v itself. -/
inductive RC (w : World) (σ : Nat → List Nat) : List Nat → V → Value → Prop
  | int (p k n) : RC w σ p (.int k n) (.int k n)
  | bool (p b) : RC w σ p (.bool b) (.bool b)
  | str (p s) : RC w σ p (.str s) (.string s)
  | nilp (p) : RC w σ p .nilp (.pointer none)
  | row (p : List Nat) (o : Bool) (es : Nat) (xs : List (List V)) (A : Option Addr) (n cap b off : Nat) (cs : Nat → Nat → Value)
      (hn : n = xs.length) (hcap : n ≤ cap) (hmax : cap ≤ maxLen)
      (hA : 0 < n → A = some ⟨b, off, none⟩)
      (hT : o = true → 0 < cap → A = some ⟨b, off, none⟩ ∧ p ≠ [] ∧ σ b = p ∧ ∃ arr T, w.heap[b]? = some (.cells arr T (0, 0)) ∧ off + cap * es ≤ arr.size)
      (hx : ∀ x ∈ xs, x.length = es)
      (hc : ∀ k j x v, xs[k]? = some x → x[j]? = some v → w.cell? ⟨b, off + k * es + j, none⟩ = some (cs k j) ∧ (o = false → σ b = []))
      (hr : ∀ k j x v, xs[k]? = some x → x[j]? = some v → RC w σ (if o = true then p ++ [k, j] else []) v (cs k j)) :
      RC w σ p (.row o es xs) (.slice A n cap)

theorem cell_lt {w : World} {b off : Nat} {c : Value} (h : w.cell? ⟨b, off, none⟩ = some c) : b < w.heap.size := by
  unfold World.cell? at h
  rcases Nat.lt_or_ge b w.heap.size with h1 | h1
  · exact h1
  · simp [Array.getElem?_eq_none h1] at h

theorem cell_same {w w' : World} {b : Nat} (h : w'.heap[b]? = w.heap[b]?) (off : Nat) : w'.cell? ⟨b, off, none⟩ = w.cell? ⟨b, off, none⟩ := by
  simp [World.cell?, h]

theorem heap_lt {w : World} {b : Nat} {o : Obj} (h : w.heap[b]? = some o) : b < w.heap.size := (Array.getElem?_eq_some_iff.1 h).1

theorem cell_of_heap {w : World} {b off : Nat} {arr : Array Value} {T : TypeId} {fr : Nat × Nat} (h : w.heap[b]? = some (.cells arr T fr)) : w.cell? ⟨b, off, none⟩ = arr[off]? := by
  simp [World.cell?, h]

/-- What may have changed around a tree at position p without its being another one. -/
def Near (w : World) (σ : Nat → List Nat) (w' : World) (σ' : Nat → List Nat) (p : List Nat) : Prop :=
  ∀ b, b < w.heap.size → (σ b = [] ∨ (p ≠ [] ∧ p <+: σ b)) → w'.heap[b]? = w.heap[b]? ∧ σ' b = σ b

theorem Near.nil {w w' : World} {σ σ' : Nat → List Nat} {p : List Nat} (h : Near w σ w' σ' p) : Near w σ w' σ' [] :=
  fun b hb hc => h b hb (.inl (hc.resolve_right (by simp)))
theorem Near.down {w w' : World} {σ σ' : Nat → List Nat} {p q : List Nat} (h : Near w σ w' σ' p) (hp : p ≠ []) : Near w σ w' σ' (p ++ q) :=
  fun b hb hc => h b hb (hc.imp id fun ⟨_, h2⟩ => ⟨hp, (List.prefix_append p q).trans h2⟩)

theorem RC.mono {w w' : World} {σ σ' : Nat → List Nat} {p : List Nat} {v : V} {c : Value} (h : RC w σ p v c) : Near w σ w' σ' p → RC w' σ' p v c := by
  induction h with
  | int p k n => exact fun _ => .int p k n
  | bool p b => exact fun _ => .bool p b
  | str p s => exact fun _ => .str p s
  | nilp p => exact fun _ => .nilp p
  | row p o es xs A n cap b off cs hn hcap hmax hA hT hx hc hr ih =>
    intro hw
    have hnx : ∀ (k : Nat) (x : List V), xs[k]? = some x → 0 < cap := by
      intro k x hk
      have := (List.getElem?_eq_some_iff.1 hk).1
      omega
    have hcell : ∀ (k j : Nat) (x : List V) (v : V), xs[k]? = some x → x[j]? = some v → w'.heap[b]? = w.heap[b]? ∧ σ' b = σ b := by
      intro k j x v hk hj
      obtain ⟨h1, h2⟩ := hc k j x v hk hj
      cases o with
      | false => exact hw b (cell_lt h1) (.inl (h2 rfl))
      | true =>
        obtain ⟨_, hp, hs, _⟩ := hT rfl (hnx k x hk)
        exact hw b (cell_lt h1) (.inr ⟨hp, by rw [hs]; exact List.prefix_refl _⟩)
    refine .row p o es xs A n cap b off cs hn hcap hmax hA ?_ hx ?_ ?_
    · intro ho h0
      obtain ⟨h1, hp, hs, arr, T, hh, hsz⟩ := hT ho h0
      obtain ⟨e1, e2⟩ := hw b (heap_lt hh) (.inr ⟨hp, by rw [hs]; exact List.prefix_refl _⟩)
      exact ⟨h1, hp, by rw [e2, hs], arr, T, by rw [e1, hh], hsz⟩
    · intro k j x v hk hj
      obtain ⟨e1, e2⟩ := hcell k j x v hk hj
      obtain ⟨h1, h2⟩ := hc k j x v hk hj
      exact ⟨by rw [cell_same e1, h1], fun ho => by rw [e2, h2 ho]⟩
    · intro k j x v hk hj
      refine ih k j x v hk hj ?_
      cases o with
      | false => exact hw.nil
      | true => exact hw.down (hT rfl (hnx k x hk)).2.1

theorem RC.move {w : World} {σ σ' : Nat → List Nat} {p : List Nat} {v : V} {c : Value} (h : RC w σ p v c) :
    ∀ {p' : List Nat}, (∀ b, σ b = [] → σ' b = []) → (∀ b r, p ≠ [] → σ b = p ++ r → σ' b = p' ++ r) → (p ≠ [] → p' ≠ []) → RC w σ' p' v c := by
  induction h with
  | int p k n => exact fun _ _ _ => .int _ k n
  | bool p b => exact fun _ _ _ => .bool _ b
  | str p s => exact fun _ _ _ => .str _ s
  | nilp p => exact fun _ _ _ => .nilp _
  | row p o es xs A n cap b off cs hn hcap hmax hA hT hx hc hr ih =>
    intro p' h0 h1 h2
    refine .row p' o es xs A n cap b off cs hn hcap hmax hA ?_ hx ?_ ?_
    · intro ho hcp
      obtain ⟨e1, hp, hs, rest⟩ := hT ho hcp
      refine ⟨e1, h2 hp, ?_, rest⟩
      have := h1 b [] hp (by simpa using hs)
      simpa using this
    · intro k j x v hk hj
      obtain ⟨e1, e2⟩ := hc k j x v hk hj
      exact ⟨e1, fun ho => h0 b (e2 ho)⟩
    · intro k j x v hk hj
      have h3 := @ih k j x v hk hj
      cases o with
      | false =>
        refine h3 (p' := []) h0 (fun b r hp => absurd rfl hp) (fun hp => absurd rfl hp)
      | true =>
        have hp : p ≠ [] := by
          have := (List.getElem?_eq_some_iff.1 hk).1
          exact (hT rfl (by omega)).2.1
        refine h3 (p' := p' ++ [k, j]) h0 (fun b r _ hb => ?_) (fun _ => by simp)
        have := h1 b ([k, j] ++ r) hp (by simpa using hb)
        simpa using this

/-- Seen by another to whom nothing of it belongs. -/
theorem RC.share {w : World} {σ σ' : Nat → List Nat} {p : List Nat} {v : V} {c : Value} (h : RC w σ p v c) :
    (∀ b, b < w.heap.size → (σ b = [] ∨ (p ≠ [] ∧ p <+: σ b)) → σ' b = []) → ∀ q, RC w σ' q v.share c := by
  induction h with
  | int p k n => exact fun _ q => .int _ k n
  | bool p b => exact fun _ q => .bool _ b
  | str p s => exact fun _ q => .str _ s
  | nilp p => exact fun _ q => .nilp _
  | row p o es xs A n cap b off cs hn hcap hmax hA hT hx hc hr ih =>
    intro h0 q
    have hp : ∀ (k : Nat) (x : List V), xs[k]? = some x → o = true → p ≠ [] := by
      intro k x hk ho
      have := (List.getElem?_eq_some_iff.1 hk).1
      exact (hT ho (by omega)).2.1
    rw [V.share, shareLL_map]
    have hget : ∀ (k j : Nat) (x : List V) (v : V), (xs.map fun x => x.map V.share)[k]? = some x → x[j]? = some v → ∃ x0 v0, xs[k]? = some x0 ∧ x0[j]? = some v0 ∧ v = v0.share := by
      intro k j x v hk hj
      rw [List.getElem?_map] at hk
      obtain ⟨x0, h1, rfl⟩ := Option.map_eq_some_iff.1 hk
      rw [List.getElem?_map] at hj
      obtain ⟨v0, h2, rfl⟩ := Option.map_eq_some_iff.1 hj
      exact ⟨x0, v0, h1, h2, rfl⟩
    refine .row q false es _ A n cap b off cs (by simpa using hn) hcap hmax hA (fun h => by simp at h) ?_ ?_ ?_
    · intro x hm
      obtain ⟨x0, h1, rfl⟩ := List.mem_map.1 hm
      simpa using hx x0 h1
    · intro k j x v hk hj
      obtain ⟨x0, v0, h1, h2, rfl⟩ := hget k j x v hk hj
      obtain ⟨e1, e2⟩ := hc k j x0 v0 h1 h2
      refine ⟨e1, fun _ => h0 b (cell_lt e1) ?_⟩
      cases o with
      | false => exact .inl (e2 rfl)
      | true =>
        obtain ⟨_, hp, hs, _⟩ := hT rfl (by have := (List.getElem?_eq_some_iff.1 h1).1; omega)
        exact .inr ⟨hp, by rw [hs]; exact List.prefix_refl _⟩
    · intro k j x v hk hj
      obtain ⟨x0, v0, h1, h2, rfl⟩ := hget k j x v hk hj
      simp only [Bool.false_eq_true, if_false]
      refine ih k j x0 v0 h1 h2 ?_ []
      intro b hb hc
      refine h0 b hb ?_
      cases o with
      | false => exact .inl (hc.resolve_right (by simp))
      | true => exact hc.imp id fun ⟨_, h2⟩ => ⟨hp k x0 h1 rfl, (List.prefix_append p _).trans h2⟩

/-- A slice without memory. -/
theorem RC.none (w : World) (σ : Nat → List Nat) (p : List Nat) (o : Bool) (es : Nat) (A : Option Addr) : RC w σ p (.row o es []) (.slice A 0 0) :=
  .row p o es [] A 0 0 0 0 (fun _ _ => default) rfl (Nat.le_refl _) (by simp [maxLen]) (fun h => absurd h (by omega)) (fun _ h => absurd h (by omega)) (by simp) (by simp) (by simp)
end Go.Eng
