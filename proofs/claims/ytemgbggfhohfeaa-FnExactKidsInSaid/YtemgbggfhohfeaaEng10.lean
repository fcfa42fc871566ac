/- Calls: what a function answers (Sp), said of trees and numbered blocks; how a caller sees it. -/
import Derived.Test.YtemgbggfhohfeaaEng9
set_option linter.unusedVariables false
set_option linter.unusedSimpArgs false
namespace Go.Eng

/-! ### Branches -/
theorem W_cond {F : Fr} {S : St} {Q : Exit → St → Prop} {x : Operand} {c d : Code} {b : Bool} (hx : S.val [] x = .c (.bool b)) (h : W F (if b then c else d) S Q) : W F (.cond x c d) S Q := by
  intro a w hs
  have hs0 := hs
  obtain ⟨_, _, σ, β, h1⟩ := hs
  have g1 := val_ok h1 [] x
  rw [hx] at g1
  have e : a.eval x = .bool b := guard_bool ⟨_, g1⟩
  cases b with
  | true => exact wp_cond_true e (h a w hs0)
  | false => exact wp_cond_false e (h a w hs0)

/-! ### Positions in lists -/
def posOf : List Nat → Nat → Option Nat
  | [], _ => none
  | y :: r, x => if x = y then some 0 else (posOf r x).map (· + 1)
theorem posOf_some {l : List Nat} {x i : Nat} (h : posOf l x = some i) : l[i]? = some x := by
  induction l generalizing i with
  | nil => simp [posOf] at h
  | cons y r ih =>
    simp only [posOf] at h
    by_cases e : x = y
    · rw [if_pos e] at h; cases h; subst e; rfl
    · rw [if_neg e] at h
      obtain ⟨j, hj, rfl⟩ := Option.map_eq_some_iff.1 h
      simpa using ih hj
theorem posOf_at {l : List Nat} (hd : l.Nodup) {x i : Nat} (h : l[i]? = some x) : posOf l x = some i := by
  induction l generalizing i with
  | nil => simp at h
  | cons y r ih =>
    have hd' := List.nodup_cons.1 hd
    cases i with
    | zero => simp only [List.getElem?_cons_zero, Option.some.injEq] at h; subst h; simp [posOf]
    | succ i =>
      have h' : r[i]? = some x := by simpa using h
      have hne : x ≠ y := by rintro rfl; exact hd'.1 (List.mem_of_getElem? h')
      simp [posOf, hne, ih hd'.2 h']
theorem posOf_none {l : List Nat} {x : Nat} (h : posOf l x = none) : x ∉ l := by
  induction l with
  | nil => simp
  | cons y r ih =>
    simp only [posOf] at h
    by_cases e : x = y
    · rw [if_pos e] at h; cases h
    · rw [if_neg e] at h
      simp only [Option.map_eq_none_iff] at h
      simp [e, ih h]

/-! ### Trees that share nothing -/
mutual
def V.fresh : V → Bool
  | .row o _ xs => (o || xs.isEmpty) && freshLL xs
  | _ => true
def freshLL : List (List V) → Bool
  | [] => true
  | x :: r => freshL x && freshLL r
def freshL : List V → Bool
  | [] => true
  | v :: r => v.fresh && freshL r
end
theorem freshL_at {l : List V} (h : freshL l = true) {i : Nat} {v : V} (hi : l[i]? = some v) : v.fresh = true := by
  induction l generalizing i with
  | nil => simp at hi
  | cons x r ih =>
    simp only [freshL, Bool.and_eq_true] at h
    cases i with
    | zero => simp only [List.getElem?_cons_zero, Option.some.injEq] at hi; subst hi; exact h.1
    | succ i => exact ih h.2 (by simpa using hi)
theorem freshLL_at {l : List (List V)} (h : freshLL l = true) {i : Nat} {v : List V} (hi : l[i]? = some v) : freshL v = true := by
  induction l generalizing i with
  | nil => simp at hi
  | cons x r ih =>
    simp only [freshLL, Bool.and_eq_true] at h
    cases i with
    | zero => simp only [List.getElem?_cons_zero, Option.some.injEq] at hi; subst hi; exact h.1
    | succ i => exact ih h.2 (by simpa using hi)

theorem RC.moveF {w : World} {σ σ' : Nat → List Nat} {p : List Nat} {v : V} {c : Value} (h : RC w σ p v c) :
    ∀ {p' : List Nat}, v.fresh = true → (∀ b r, p ≠ [] → σ b = p ++ r → σ' b = p' ++ r) → (p ≠ [] → p' ≠ []) → RC w σ' p' v c := by
  induction h with
  | int p k n => exact fun _ _ _ => .int _ k n
  | bool p b => exact fun _ _ _ => .bool _ b
  | str p s => exact fun _ _ _ => .str _ s
  | nilp p => exact fun _ _ _ => .nilp _
  | row p o es xs A n cap b off cs hn hcap hmax hA hT hx hc hr ih =>
    intro p' hf h1 h2
    simp only [V.fresh, Bool.and_eq_true, Bool.or_eq_true] at hf
    have ho : ∀ (k : Nat) (x : List V), xs[k]? = some x → o = true := by
      intro k x hk
      rcases hf.1 with h | h
      · exact h
      · simp only [List.isEmpty_iff] at h; subst h; simp at hk
    refine .row p' o es xs A n cap b off cs hn hcap hmax hA ?_ hx ?_ ?_
    · intro ho hcp
      obtain ⟨e1, hp, hs, rest⟩ := hT ho hcp
      refine ⟨e1, h2 hp, ?_, rest⟩
      have := h1 b [] hp (by simpa using hs)
      simpa using this
    · intro k j x v hk hj
      obtain ⟨e1, e2⟩ := hc k j x v hk hj
      have := ho k x hk
      exact ⟨e1, fun h => by rw [h] at this; cases this⟩
    · intro k j x v hk hj
      have h3 := @ih k j x v hk hj
      have hot := ho k x hk
      subst hot
      have hp : p ≠ [] := by
        have := (List.getElem?_eq_some_iff.1 hk).1
        exact (hT rfl (by omega)).2.1
      simp only [if_true] at h3 ⊢
      refine h3 (p' := p' ++ [k, j]) (freshL_at (freshLL_at hf.2 hk) hj) (fun b r _ hb => ?_) (fun _ => by simp)
      have := h1 b ([k, j] ++ r) hp (by simpa using hb)
      simpa using this

def V.closed : V → Bool
  | .int .. | .bool .. | .str .. | .row .. | .nilp => true
  | _ => false
theorem RV.rc {E : Cx} {p : List Nat} {v : V} {c : Value} (h : RV E p v c) (hc : v.closed = true) : RC E.w E.σ p v c := by
  cases h with
  | c h => exact h
  | _ => cases hc

/-! ### How a called function sees its arguments: blocks io are its own (1, 2, ..), the others' contents are read alone -/
def rowOf (B : Blk) (off len : Nat) : V := .row false B.es (shareLL ((B.xs.drop off).take len))
def allClosed (B : Blk) : Bool := B.xs.all fun x => x.all V.closed

/-- A slice without memory may stand anywhere. -/
def V.cold : V → V
  | .row true es [] => .row false es []
  | v => v
theorem RV.cold {E : Cx} {p : List Nat} {v : V} {c : Value} (h : RV E p v c) : RV E p v.cold c := by
  unfold V.cold
  split
  · rename_i es
    cases h with
    | c h =>
      cases h with
      | row p o es' xs A n cap b off cs hn hcap hmax hA hT hx hc hr =>
        exact .c (.row _ false _ [] A n cap b off cs hn hcap hmax hA (fun h => by cases h) (by simp) (by simp) (by simp))
  · exact h

def V.low1 (lent : Bool) (io : List Nat) (H : Nat → Option Blk) : V → V
  | .own id ver off len => match H id with
    | none => .undef
    | some B => if B.ver = ver then (match posOf io id with
        | some i => .own (i + 1) 0 off len
        | none => if lent && allClosed B then rowOf B off len else .undef) else .undef
  | .ptr id ver k j => match H id with
    | none => .undef
    | some B => if B.ver = ver then (match posOf io id with
        | some i => .ptr (i + 1) 0 k j
        | none => if lent && allClosed B && decide (B.xs.length ≤ maxLen) then .ip B.es (shareLL B.xs) k j else .undef) else .undef
  | .fn f caps => .undef
  | v => v
def V.low (lent : Bool) (io : List Nat) (H : Nat → Option Blk) : V → V
  | .fn f caps => .fn f (caps.map (V.low1 lent io H))
  | v => v.low1 lent io H
def A.low (lent : Bool) (io : List Nat) (H : Nat → Option Blk) : A → A
  | .c v => .c (v.low lent io H).cold
  | .g cs => .g (cs.map fun v => (V.low lent io H v).cold)
  | .t _ => .c .undef

def downσ (lent : Bool) (io : List Nat) : List Nat → List Nat
  | [] => []
  | id :: r => match posOf io id with
    | some i => (i + 1) :: r
    | none => if lent then [] else [0]

def getH (H : List Blk) : Nat → Option Blk
  | 0 => none
  | i + 1 => H[i]?
def downβ (io : List Nat) (β : Nat → Option (Nat × Nat × Nat)) : Nat → Option (Nat × Nat × Nat)
  | 0 => none
  | i + 1 => (io[i]?).bind β
def lowB (lent : Bool) (io : List Nat) (H : Nat → Option Blk) (B : Blk) : Blk := ⟨0, B.es, B.xs.map fun x => x.map (V.low lent io H)⟩

/-- The called function's view. -/
structure View (E E' : Cx) (lent : Bool) (io : List Nat) (H : Nat → Option Blk) : Prop where
  w : E'.w = E.w
  σ : ∀ b, E'.σ b = downσ lent io (E.σ b)
  β : ∀ i, E'.β i = downβ io E.β i
  look : ∀ id B, H id = some B → E.H id = some B
  blk : ∀ (i id : Nat) B, io[i]? = some id → H id = some B → E'.H (i + 1) = some (lowB lent io H B)
  nv : ∀ i, E'.nv i = 1
  nodup : io.Nodup
  hr : HR E

section
variable {E E' : Cx} {lent : Bool} {io : List Nat} {H : Nat → Option Blk}

/-- At a position of the caller's: at [] , or in a block that the called function has too. -/
def downP (io : List Nat) (p q : List Nat) : Prop := (p = [] ∧ q = []) ∨ ∃ id r i, p = id :: r ∧ posOf io id = some i ∧ q = (i + 1) :: r

theorem View.rc (hv : View E E' lent io H) {p q : List Nat} (hp : downP io p q) {v : V} {c : Value} (h : RC E.w E.σ p v c) : RC E'.w E'.σ q v c := by
  rw [hv.w]
  refine h.move (fun b hb => by rw [hv.σ, hb]; rfl) (fun b r hne hb => ?_) (fun hne => ?_)
  · rcases hp with ⟨rfl, _⟩ | ⟨id, r', i, rfl, hi, rfl⟩
    · exact absurd rfl hne
    · rw [hv.σ, hb]
      simp [downσ, hi]
  · rcases hp with ⟨rfl, _⟩ | ⟨id, r', i, rfl, hi, rfl⟩
    · exact absurd rfl hne
    · simp

theorem br_row {B : Blk} {id b o n : Nat} (h : BR E id B) (hb : E.β id = some (b, o, n)) (hcl : allClosed B = true) {σ' : Nat → List Nat} (hσ : ∀ b, b < E.w.heap.size → (E.σ b = [] ∨ [id] <+: E.σ b) → σ' b = []) {off len cap : Nat} (hl : off + len ≤ B.xs.length) (hcap : len ≤ cap) (hmax : cap ≤ maxLen) :
    ∀ q, RC E.w σ' q (rowOf B off len) (.slice (some ⟨b, o + off * B.es, none⟩) len cap) := by
  obtain ⟨hs, hes, hln, arr, T, hh, hsz, hc⟩ := h.some hb
  have hcv : ∀ (k j : Nat) x v, B.xs[k]? = some x → x[j]? = some v → v.closed = true := fun k j x v hk hj =>
    List.all_eq_true.1 (List.all_eq_true.1 hcl x (List.mem_of_getElem? hk)) v (List.mem_of_getElem? hj)
  intro q
  have hget : ∀ (k j : Nat) x v, (shareLL ((B.xs.drop off).take len))[k]? = some x → x[j]? = some v → ∃ x0 v0, B.xs[off + k]? = some x0 ∧ x0[j]? = some v0 ∧ v = v0.share := by
    intro k j x v hk hj
    rw [shareLL_map, List.getElem?_map] at hk
    obtain ⟨x0, h1, rfl⟩ := Option.map_eq_some_iff.1 hk
    rw [List.getElem?_take] at h1
    split at h1
    · rw [List.getElem?_drop] at h1
      rw [List.getElem?_map] at hj
      obtain ⟨v0, h2, rfl⟩ := Option.map_eq_some_iff.1 hj
      exact ⟨x0, v0, h1, h2, rfl⟩
    · cases h1
  refine .row q false B.es _ (some ⟨b, o + off * B.es, none⟩) len cap b (o + off * B.es) (fun k j => (arr[o + (off + k) * B.es + j]?).getD undef) ?_ hcap hmax (fun _ => rfl) (fun h => by cases h) ?_ ?_ ?_
  · rw [shareLL_map]; simp; omega
  · intro x hx
    rw [shareLL_map] at hx
    obtain ⟨x0, h1, rfl⟩ := List.mem_map.1 hx
    simpa using hes x0 (List.mem_of_mem_drop (List.mem_of_mem_take h1))
  · intro k j x v hk hj
    obtain ⟨x0, v0, h1, h2, rfl⟩ := hget k j x v hk hj
    obtain ⟨c, h3, h4⟩ := hc (off + k) j x0 v0 h1 h2
    refine ⟨?_, fun _ => hσ b (heap_lt hh) (.inr (by rw [hs]; exact List.prefix_refl _))⟩
    rw [cell_of_heap hh, show o + off * B.es + k * B.es + j = o + (off + k) * B.es + j by rw [Nat.add_mul]; omega, h3]
    rfl
  · intro k j x v hk hj
    obtain ⟨x0, v0, h1, h2, rfl⟩ := hget k j x v hk hj
    obtain ⟨c, h3, h4⟩ := hc (off + k) j x0 v0 h1 h2
    rw [h3]
    refine (h4.rc (hcv _ _ _ _ h1 h2)).share (fun b' hb' hor => hσ b' hb' ?_) _
    exact hor.imp (fun h => h) fun ⟨_, h⟩ => List.IsPrefix.trans ⟨[off + k, j], rfl⟩ h

theorem View.lentσ (hv : View E E' true io H) {id : Nat} (hid : posOf io id = none) : ∀ b, b < E.w.heap.size → (E.σ b = [] ∨ [id] <+: E.σ b) → E'.σ b = [] := by
  intro b _ h
  rw [hv.σ]
  rcases h with h | ⟨r, h⟩
  · rw [h]; rfl
  · rw [← h]; simp [downσ, hid]

theorem OwnAt.at_ {id off cap es : Nat} {A : Option Addr} (h : OwnAt E id off cap es A) (h0 : 0 < cap) : ∃ b o n, E.β id = some (b, o, n) ∧ A = some ⟨b, o + off * es, none⟩ ∧ off + cap ≤ n := h.resolve_left (by omega)

theorem View.low1 (hv : View E E' lent io H) {p q : List Nat} (hp : downP io p q) {v : V} {c : Value} (h : RV E p v c) : RV E' q (v.low1 lent io H) c := by
  have hβ : ∀ {id i : Nat}, posOf io id = some i → E'.β (i + 1) = E.β id := by
    intro id i hi
    rw [hv.β]
    simp [downβ, posOf_some hi]
  cases h with
  | c h =>
    have : V.low1 lent io H v = v := by cases h <;> rfl
    rw [this]
    exact RV.c (hv.rc hp h)
  | own p id ver off len A n cap hn hver hcap hmax h =>
    simp only [V.low1]
    cases e : H id with
    | none => exact .undef _ _
    | some B =>
      simp only
      by_cases ev : B.ver = ver
      · rw [if_pos ev]
        obtain ⟨h1, h2⟩ := h B (hv.look id B e) ev
        cases ei : posOf io id with
        | some i =>
          simp only
          refine .own _ _ _ _ _ _ _ _ hn (by rw [hv.nv]; omega) hcap hmax fun B' hB' _ => ?_
          rw [hv.blk i id B (posOf_some ei) e] at hB'
          cases hB'
          refine ⟨by simpa [lowB] using h1, ?_⟩
          rcases h2 with h2 | ⟨b, o, m, h3, h4, h5⟩
          · exact .inl h2
          · exact .inr ⟨b, o, m, by rw [hβ ei, h3], h4, h5⟩
        | none =>
          simp only
          cases el : (lent && allClosed B) with
          | false => exact .undef _ _
          | true =>
            rw [if_pos rfl]
            simp only [Bool.and_eq_true] at el
            obtain ⟨rfl, el⟩ := el
            refine .c ?_
            have hBR := (hv.hr.blk id B (hv.look id B e)).2
            rw [hv.w]
            rcases Nat.eq_zero_or_pos cap with h0 | h0
            · have hl0 : len = 0 := by omega
              subst hl0; subst h0; subst hn
              have := RC.none E.w E'.σ q false B.es A
              simpa [rowOf, shareLL] using this
            · obtain ⟨b, o, m, h3, rfl, h5⟩ := h2.at_ h0
              rw [hn]
              exact br_row hBR h3 el (hv.lentσ ei) h1 hcap hmax q
      · rw [if_neg ev]; exact .undef _ _
  | ptr p id ver k j a hver h =>
    simp only [V.low1]
    cases e : H id with
    | none => exact .undef _ _
    | some B =>
      simp only
      by_cases ev : B.ver = ver
      · rw [if_pos ev]
        obtain ⟨b, o, m, h3, h4⟩ := h B (hv.look id B e) ev
        cases ei : posOf io id with
        | some i =>
          simp only
          refine .ptr _ _ _ _ _ _ (by rw [hv.nv]; omega) fun B' hB' _ => ?_
          rw [hv.blk i id B (posOf_some ei) e] at hB'
          cases hB'
          exact ⟨b, o, m, by rw [hβ ei, h3], h4⟩
        | none =>
          simp only
          cases el : (lent && allClosed B && decide (B.xs.length ≤ maxLen)) with
          | false => exact .undef _ _
          | true =>
            rw [if_pos rfl]
            simp only [Bool.and_eq_true, decide_eq_true_eq] at el
            obtain ⟨⟨rfl, el⟩, hm⟩ := el
            have hBR := (hv.hr.blk id B (hv.look id B e)).2
            have := br_row hBR h3 el (hv.lentσ ei) (off := 0) (len := B.xs.length) (cap := B.xs.length) (by omega) (Nat.le_refl _) hm []
            rw [h4]
            refine .ip _ _ _ _ _ _ _ B.xs.length B.xs.length ?_
            rw [hv.w]
            simpa [rowOf] using this
      · rw [if_neg ev]; exact .undef _ _
  | ip p es xs k j b off n cap h =>
    exact .ip _ _ _ _ _ _ _ _ _ (hv.rc (.inl ⟨rfl, rfl⟩) h)
  | fn p f caps cs cv hs h1 h2 => exact .undef _ _
  | skip p => exact .skip _
  | undef p v => exact .undef _ _

theorem View.low (hv : View E E' lent io H) {p q : List Nat} (hp : downP io p q) {v : V} {c : Value} (h : RV E p v c) : RV E' q (v.low lent io H) c := by
  cases h with
  | fn p f caps cs cv hs h1 h2 =>
    refine .fn _ _ _ _ cv (by simpa using hs) (fun i v hi => ?_) (fun i v hi => ?_)
    · rw [List.getElem?_map] at hi
      obtain ⟨v0, h3, rfl⟩ := Option.map_eq_some_iff.1 hi
      exact h1 i v0 h3
    · rw [List.getElem?_map] at hi
      obtain ⟨v0, h3, rfl⟩ := Option.map_eq_some_iff.1 hi
      exact hv.low1 (.inl ⟨rfl, rfl⟩) (h2 i v0 h3)
  | c h =>
    have := hv.low1 hp (.c h)
    cases h <;> exact this
  | own p id ver off len A n cap hn hver hcap hmax h => exact hv.low1 hp (.own _ _ _ _ _ _ _ _ hn hver hcap hmax h)
  | ptr p id ver k j a hver h => exact hv.low1 hp (.ptr _ _ _ _ _ _ hver h)
  | ip p es xs k j b off n cap h => exact hv.low1 hp (.ip _ _ _ _ _ _ _ _ _ h)
  | skip p => exact .skip _
  | undef p v => exact .undef _ _

theorem View.lowA (hv : View E E' lent io H) {x : A} {c : Value} (h : RA E x c) : RA E' (x.low lent io H) c := by
  cases h with
  | c h => exact .c (hv.low (.inl ⟨rfl, rfl⟩) h).cold
  | g cs arr hs h =>
    refine .g _ _ (by simpa using hs) fun i v hi => ?_
    rw [List.getElem?_map] at hi
    obtain ⟨v0, h3, rfl⟩ := Option.map_eq_some_iff.1 hi
    obtain ⟨c, h1, h2⟩ := h i v0 h3
    exact ⟨c, h1, (hv.low (.inl ⟨rfl, rfl⟩) h2).cold⟩
  | t xs arr cv hs h1 h2 => exact .c (.undef _ _)

/-- A block of both. -/
theorem View.br (hv : View E E' lent io H) {i id : Nat} {B : Blk} (hi : io[i]? = some id) (h : BR E id B) : BR E' (i + 1) (lowB lent io H B) := by
  have hp := posOf_at hv.nodup hi
  have hβ : E'.β (i + 1) = E.β id := by rw [hv.β]; simp [downβ, hi]
  cases e : E.β id with
  | none =>
    refine .mk_void (hβ.trans e) ?_
    have := h.void e
    simp [lowB, this]
  | some q =>
    obtain ⟨b, o, n⟩ := q
    obtain ⟨hs, hes, hln, arr, T, hh, hsz, hc⟩ := h.some e
    refine .mk (hβ.trans e) ⟨by rw [hv.σ, hs]; simp [downσ, hp], ?_, by simpa [lowB] using hln, arr, T, by rw [hv.w]; exact hh, hsz, ?_⟩
    · intro x hx
      obtain ⟨x0, h1, rfl⟩ := List.mem_map.1 hx
      simpa [lowB] using hes x0 h1
    · intro k j x v hk hj
      simp only [lowB, List.getElem?_map] at hk
      obtain ⟨x0, h1, rfl⟩ := Option.map_eq_some_iff.1 hk
      rw [List.getElem?_map] at hj
      obtain ⟨v0, h2, rfl⟩ := Option.map_eq_some_iff.1 hj
      obtain ⟨c, h3, h4⟩ := hc k j x0 v0 h1 h2
      exact ⟨c, h3, hv.low (.inr ⟨id, [k, j], i, rfl, hp, rfl⟩) h4⟩
end
end Go.Eng
