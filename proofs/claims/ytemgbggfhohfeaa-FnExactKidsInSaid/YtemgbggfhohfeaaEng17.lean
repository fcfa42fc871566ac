/- append; blocks that are let go, and blocks that nobody writes any more. -/
import Derived.Test.YtemgbggfhohfeaaEng14
set_option linter.unusedVariables false
set_option linter.unusedSimpArgs false
namespace Go.Eng

/-! ### Nobody writes block id any more -/
def V.frz1 (id : Nat) (B : Blk) : V → V
  | .own i ver off len => if i = id then (if B.ver = ver then rowOf B off len else .undef) else .own i ver off len
  | .ptr i ver k j => if i = id then (if B.ver = ver ∧ B.xs.length ≤ maxLen then .ip B.es (shareLL B.xs) k j else .undef) else .ptr i ver k j
  | .fn _ _ => .undef
  | v => v
def V.frz (id : Nat) (B : Blk) : V → V
  | .fn f caps => .fn f (caps.map (V.frz1 id B))
  | v => v.frz1 id B
def A.frz (id : Nat) (B : Blk) : A → A
  | .c v => .c (v.frz id B)
  | .g cs => .g (cs.map (V.frz id B))
  | .t _ => .c .undef
def St.frz (S : St) (id : Nat) (B : Blk) : St :=
  ⟨fun t => (S.env t).frz id B, fun i => if i = id then none else (S.H i).map fun B' => ⟨B'.ver, B'.es, B'.xs.map fun x => x.map (V.frz id B)⟩, S.nv⟩

section
variable {F : Fr} {S : St} {a : Act} {w : World} {σ : Nat → List Nat} {β : Nat → Option (Nat × Nat × Nat)} {id : Nat} {B : Blk}
def dropσ (id : Nat) (p : List Nat) : List Nat := match p with | [] => [] | i :: r => if i = id then [] else i :: r

theorem frz1_ok (hs : RSx F S a w σ β) (hB : S.H id = some B) (hcl : allClosed B = true) {p : List Nat} (hp : p = [] ∨ ∃ i r, p = i :: r ∧ i ≠ id) {v : V} {c : Value} (h : RV (S.cx w σ β) p v c) :
    RV ((S.frz id B).cx w (fun b => dropσ id (σ b)) β) p (v.frz1 id B) c := by
  have hbr := (hs.hr.blk id B hB).2
  have hσ : ∀ b, b < w.heap.size → (σ b = [] ∨ [id] <+: σ b) → dropσ id (σ b) = [] := by
    intro b _ h
    rcases h with h | ⟨r, h⟩
    · rw [h]; rfl
    · rw [← h]; simp [dropσ]
  have hold : ∀ i B', i ≠ id → (S.frz id B).H i = some B' → ∃ B0, S.H i = some B0 ∧ B'.ver = B0.ver ∧ B'.es = B0.es ∧ B'.xs.length = B0.xs.length := by
    intro i B' hi h
    have h' : (S.H i).map (fun B' => (⟨B'.ver, B'.es, B'.xs.map fun x => x.map (V.frz id B)⟩ : Blk)) = some B' := by
      have : (S.frz id B).H i = (if i = id then none else (S.H i).map fun B' => (⟨B'.ver, B'.es, B'.xs.map fun x => x.map (V.frz id B)⟩ : Blk)) := rfl
      rw [this, if_neg hi] at h
      exact h
    obtain ⟨B0, h1, rfl⟩ := Option.map_eq_some_iff.1 h'
    exact ⟨B0, h1, rfl, rfl, by simp⟩
  cases h with
  | c h =>
    have e : V.frz1 id B v = v := by cases h <;> rfl
    rw [e]
    refine .c (h.mono fun b hb hc => ⟨rfl, ?_⟩)
    show dropσ id (σ b) = σ b
    rcases hc with hc | ⟨hne, hc⟩
    · rw [show σ b = [] from hc]; rfl
    · rcases hp with rfl | ⟨i, r, rfl, hi⟩
      · exact absurd rfl hne
      · obtain ⟨r', hr'⟩ := hc
        rw [show σ b = i :: (r ++ r') from hr'.symm]
        simp [dropσ, hi]
  | own p i ver off len A n cap hn hver hcap hmax h =>
    simp only [V.frz1]
    by_cases hi : i = id
    · subst hi
      rw [if_pos rfl]
      by_cases ev : B.ver = ver
      · rw [if_pos ev]
        obtain ⟨h1, h2⟩ := h B hB ev
        refine .c ?_
        rcases Nat.eq_zero_or_pos cap with h0 | h0
        · have hl0 : len = 0 := by omega
          subst hl0; subst h0; subst hn
          have := RC.none w (fun b => dropσ i (σ b)) p false B.es A
          show RC w (fun b => dropσ i (σ b)) p (rowOf B off 0) (.slice A 0 0)
          simpa [rowOf, shareLL] using this
        · obtain ⟨b, o, m, h3, rfl, h5⟩ := h2.at_ h0
          rw [hn]
          exact br_row hbr h3 hcl hσ h1 hcap hmax p
      · rw [if_neg ev]; exact .undef _ _
    · rw [if_neg hi]
      refine .own _ _ _ _ _ _ _ _ hn hver hcap hmax fun B' hB' ev => ?_
      obtain ⟨B0, h1, h2, h3, h4⟩ := hold i B' hi hB'
      rw [h4, h3]
      exact h B0 h1 (by omega)
  | ptr p i ver k j ad hver h =>
    simp only [V.frz1]
    by_cases hi : i = id
    · subst hi
      rw [if_pos rfl]
      by_cases ev : B.ver = ver ∧ B.xs.length ≤ maxLen
      · rw [if_pos ev]
        obtain ⟨b, o, m, h3, h4⟩ := h B hB ev.1
        have := br_row hbr h3 hcl hσ (off := 0) (len := B.xs.length) (cap := B.xs.length) (by omega) (Nat.le_refl _) ev.2 []
        rw [h4]
        refine .ip _ _ _ _ _ _ _ B.xs.length B.xs.length ?_
        have this2 : RC w (fun b => dropσ i (σ b)) [] (rowOf B 0 B.xs.length) (.slice (some ⟨b, o + 0 * B.es, none⟩) B.xs.length B.xs.length) := this
        show RC w (fun b => dropσ i (σ b)) [] (.row false B.es (shareLL B.xs)) _
        simpa [rowOf] using this2
      · rw [if_neg ev]; exact .undef _ _
    · rw [if_neg hi]
      refine .ptr _ _ _ _ _ _ hver fun B' hB' ev => ?_
      obtain ⟨B0, h1, h2, h3, h4⟩ := hold i B' hi hB'
      rw [h3]
      exact h B0 h1 (by omega)
  | ip p es xs k j b off n cap h =>
    refine .ip _ _ _ _ _ _ _ _ _ (h.mono fun b hb hc => ⟨rfl, ?_⟩)
    have hc' : σ b = [] := hc.resolve_right (by simp)
    show dropσ id (σ b) = σ b
    rw [hc']; rfl
  | fn p f caps cs cv hs h1 h2 => exact .undef _ _
  | skip p => exact .skip _
  | undef p v => exact .undef _ _
theorem frz_ok (hs : RSx F S a w σ β) (hB : S.H id = some B) (hcl : allClosed B = true) {p : List Nat} (hp : p = [] ∨ ∃ i r, p = i :: r ∧ i ≠ id) {v : V} {c : Value} (h : RV (S.cx w σ β) p v c) :
    RV ((S.frz id B).cx w (fun b => dropσ id (σ b)) β) p (v.frz id B) c := by
  cases h with
  | fn p f caps cs cv hsz h1 h2 =>
    refine .fn _ _ _ _ cv (by simpa using hsz) (fun i v hi => ?_) (fun i v hi => ?_)
    · rw [List.getElem?_map] at hi
      obtain ⟨v0, h3, rfl⟩ := Option.map_eq_some_iff.1 hi
      exact h1 i v0 h3
    · rw [List.getElem?_map] at hi
      obtain ⟨v0, h3, rfl⟩ := Option.map_eq_some_iff.1 hi
      exact frz1_ok hs hB hcl (.inl rfl) (h2 i v0 h3)
  | c h =>
    have := frz1_ok hs hB hcl hp (.c h)
    cases h <;> exact this
  | own p i ver off len A n cap hn hver hcap hmax h => exact frz1_ok hs hB hcl hp (.own _ _ _ _ _ _ _ _ hn hver hcap hmax h)
  | ptr p i ver k j ad hver h => exact frz1_ok hs hB hcl hp (.ptr _ _ _ _ _ _ hver h)
  | ip p es xs k j b off n cap h => exact frz1_ok hs hB hcl hp (.ip _ _ _ _ _ _ _ _ _ h)
  | skip p => exact .skip _
  | undef p v => exact .undef _ _

theorem RSx.frz (hs : RSx F S a w σ β) (hB : S.H id = some B) (hcl : allClosed B = true) : RSx F (S.frz id B) a w (fun b => dropσ id (σ b)) β := by
  have hid0 : id ≠ 0 := by rintro rfl; have h0 : S.H 0 = none := hs.hr.far; rw [h0] at hB; cases hB
  have hH : ∀ i, i ≠ id → (S.frz id B).H i = (S.H i).map fun B' => (⟨B'.ver, B'.es, B'.xs.map fun x => x.map (V.frz id B)⟩ : Blk) := fun i hi => if_neg hi
  refine ⟨⟨?_, fun i B' hB' => ?_, fun b hb => ?_⟩, hs.mpos, ⟨hs.kp.os, hs.kp.tape, hs.kp.output, hs.kp.size, hs.kp.heap, fun b hb hc => ?_⟩, hs.inn, fun t => ?_⟩
  · show (S.frz id B).H 0 = none
    rw [hH 0 (fun h => hid0 h.symm), show S.H 0 = none from hs.hr.far]; rfl
  · by_cases hi : i = id
    · have : (S.frz id B).H i = none := if_pos hi
      rw [show (S.frz id B).H i = some B' from hB'] at this
      cases this
    · have h1 : (S.frz id B).H i = some B' := hB'
      rw [hH i hi] at h1
      obtain ⟨B0, h2, rfl⟩ := Option.map_eq_some_iff.1 h1
      obtain ⟨h3, h4⟩ := hs.hr.blk i B0 h2
      refine ⟨h3, ?_⟩
      cases e : β i with
      | none => exact .mk_void e (by simp [h4.void e])
      | some q =>
        obtain ⟨b, o, n⟩ := q
        obtain ⟨q1, q2, q3, arr, T, q4, q5, q6⟩ := h4.some e
        refine .mk e ⟨by show dropσ id (σ b) = [i]; rw [show σ b = [i] from q1]; simp [dropσ, hi], ?_, by simpa using q3, arr, T, q4, q5, fun k j x v hk hj => ?_⟩
        · intro x hx
          obtain ⟨x0, g1, rfl⟩ := List.mem_map.1 hx
          simpa using q2 x0 g1
        · simp only [List.getElem?_map] at hk
          obtain ⟨x0, g1, rfl⟩ := Option.map_eq_some_iff.1 hk
          rw [List.getElem?_map] at hj
          obtain ⟨v0, g2, rfl⟩ := Option.map_eq_some_iff.1 hj
          obtain ⟨c, g3, g4⟩ := q6 k j x0 v0 g1 g2
          exact ⟨c, g3, frz_ok hs hB hcl (.inr ⟨i, [k, j], rfl, hi⟩) g4⟩
  · show dropσ id (σ b) = []
    rw [show σ b = [] from hs.hr.new b hb]; rfl
  · show dropσ id (σ b) = F.σ0 b
    rw [hs.kp.free b hb hc]
    rcases hc with hc | hc
    · rw [hc]; rfl
    · rw [hc]
      show (if 0 = id then [] else [0]) = [0]
      rw [if_neg (fun h => hid0 h.symm)]
  · have := hs.env t
    show RA _ ((S.env t).frz id B) _
    cases hx : S.env t with
    | c v => rw [hx] at this; cases this with | c h => exact .c (frz_ok hs hB hcl (.inl rfl) h)
    | g cs =>
      rw [hx] at this
      generalize a.tmps.getD t undef = c0 at this
      cases this with
      | g _ arr hsz h =>
        refine .g _ _ (by simpa using hsz) fun i v hi => ?_
        rw [List.getElem?_map] at hi
        obtain ⟨v0, h3, rfl⟩ := Option.map_eq_some_iff.1 hi
        obtain ⟨c, h1, h2⟩ := h i v0 h3
        exact ⟨c, h1, frz_ok hs hB hcl (.inl rfl) h2⟩
    | t xs => exact .c (.undef _ _)

/-- Block id is let go. -/
theorem RSx.dropH (hs : RSx F S a w σ β) (id : Nat) : RSx F ⟨S.env, updE S.H id none, S.nv⟩ a w σ β := by
  have hext : Ext (S.cx w σ β) ((⟨S.env, updE S.H id none, S.nv⟩ : St).cx w σ β) := ⟨fun _ => Nat.le_refl _, fun i B' h _ => by
    have h' : updE S.H id none i = some B' := h
    by_cases e : i = id
    · subst e; rw [updE_same] at h'; cases h'
    · rw [updE_other _ _ e] at h'; exact ⟨B', h', rfl, rfl, rfl, rfl⟩⟩
  refine ⟨⟨?_, fun i B' h => ?_, hs.hr.new⟩, hs.mpos, hs.kp, hs.inn, fun t => (hs.env t).mono hext (fun b _ _ => ⟨rfl, rfl⟩)⟩
  · show updE S.H id none 0 = none
    by_cases e : 0 = id
    · subst e; exact updE_same _ _ _
    · rw [updE_other _ _ e]; exact hs.hr.far
  · have h' : updE S.H id none i = some B' := h
    by_cases e : i = id
    · subst e; rw [updE_same] at h'; cases h'
    · rw [updE_other _ _ e] at h'
      obtain ⟨h1, h2⟩ := hs.hr.blk i B' h'
      exact ⟨h1, h2.mono hext rfl (fun b _ _ => ⟨rfl, rfl⟩)⟩

/-- Memory of block id goes on as block nid. -/
theorem RSx.retake (hs : RSx F S a w σ β) (hB : S.H id = some B) {b o n : Nat} (hb : β id = some (b, o, n)) {nid : Nat} (hnid : F.m ≤ nid) {arr arr' : Array Value} {T : TypeId} (hh : w.heap[b]? = some (.cells arr T (0, 0))) (hsz : arr'.size = arr.size)
    {o' n' es : Nat} {xs' : List (List V)} (hfit : o' + n' * es ≤ arr.size) (hlen : xs'.length ≤ n') (hes : ∀ x ∈ xs', x.length = es) (hl : ∀ (k j : Nat) x v, xs'[k]? = some x → x[j]? = some v → ∃ c, arr'[o' + k * es + j]? = some c ∧ RV (S.cx w σ β) [] v c) :
    RSx F ⟨S.env, updE (updE S.H id none) nid (some ⟨S.nv nid, es, xs'⟩), updE S.nv nid (S.nv nid + 1)⟩ a (w.setRow b arr') (updE σ b [nid]) (updE β nid (some (b, o', n'))) := by
  have hid0 : id ≠ 0 := by rintro rfl; have h0 : S.H 0 = none := hs.hr.far; rw [h0] at hB; cases hB
  have hn0 : nid ≠ 0 := by have := hs.mpos; omega
  obtain ⟨hσ, _⟩ := (hs.hr.blk id B hB).2.some hb
  have hσ : σ b = [id] := hσ
  have hother : ∀ b', b' ≠ b → (w.setRow b arr').heap[b']? = w.heap[b']? ∧ updE σ b [nid] b' = σ b' := fun b' h => ⟨setRow_other w b b' arr' h, updE_other _ _ h⟩
  have hnear : ∀ p, ¬ (p ≠ [] ∧ p <+: [id]) → Near w σ (w.setRow b arr') (updE σ b [nid]) p := by
    intro p hp b' _ hc
    refine hother b' (fun e => ?_)
    subst e
    rw [hσ] at hc
    rcases hc with hc | hc
    · cases hc
    · exact hp hc
  let S' : St := ⟨S.env, updE (updE S.H id none) nid (some ⟨S.nv nid, es, xs'⟩), updE S.nv nid (S.nv nid + 1)⟩
  have hext : Ext (S.cx w σ β) (S'.cx (w.setRow b arr') (updE σ b [nid]) (updE β nid (some (b, o', n')))) := by
    refine ⟨fun i => ?_, fun i B' h hv => ?_⟩
    · show S.nv i ≤ updE S.nv nid (S.nv nid + 1) i
      by_cases e : i = nid
      · subst e; rw [updE_same]; omega
      · rw [updE_other _ _ e]; exact Nat.le_refl _
    · have h' : updE (updE S.H id none) nid (some ⟨S.nv nid, es, xs'⟩) i = some B' := h
      by_cases e : i = nid
      · subst e
        rw [updE_same] at h'
        cases h'
        exact absurd hv (Nat.lt_irrefl _)
      · rw [updE_other _ _ e] at h'
        by_cases e2 : i = id
        · subst e2; rw [updE_same] at h'; cases h'
        · rw [updE_other _ _ e2] at h'
          exact ⟨B', h', rfl, rfl, rfl, updE_other _ _ e⟩
  refine ⟨⟨?_, fun i B' h => ?_, fun b' hb' => ?_⟩, hs.mpos, ⟨hs.kp.os, hs.kp.tape, hs.kp.output, ?_, fun b' hb' h0 => ?_, fun b' hb' h0 => ?_⟩, fun i hi => ?_, fun t => (hs.env t).mono hext (hnear [] (by simp))⟩
  · show updE (updE S.H id none) nid _ 0 = none
    rw [updE_other _ _ (fun h => hn0 h.symm), updE_other _ _ (fun h => hid0 h.symm)]
    exact hs.hr.far
  · have h' : updE (updE S.H id none) nid (some ⟨S.nv nid, es, xs'⟩) i = some B' := h
    by_cases e : i = nid
    · subst e
      rw [updE_same] at h'
      cases h'
      refine ⟨by show S.nv i < updE S.nv i (S.nv i + 1) i; rw [updE_same]; omega, BR.mk (updE_same _ _ _) ⟨updE_same _ _ _, hes, hlen, arr', T, setRow_heap w b arr arr' T (0, 0) hh, by rw [hsz]; exact hfit, fun k j x v hk hj => ?_⟩⟩
      obtain ⟨c, h1, h2⟩ := hl k j x v hk hj
      exact ⟨c, h1, (h2.mono hext (hnear [] (by simp))).any _⟩
    · rw [updE_other _ _ e] at h'
      by_cases e2 : i = id
      · subst e2; rw [updE_same] at h'; cases h'
      · rw [updE_other _ _ e2] at h'
        obtain ⟨h1, h2⟩ := hs.hr.blk i B' h'
        refine ⟨by show B'.ver < updE S.nv nid (S.nv nid + 1) i; rw [updE_other _ _ e]; exact h1, h2.mono hext (updE_other _ _ e) (hnear [i] (fun hp => ?_))⟩
        have := hp.2
        simp at this
        exact e2 this
  · have hb2 : w.heap.size ≤ b' := by have : (w.setRow b arr').heap.size ≤ b' := hb'; rw [setRow_size] at this; exact this
    show updE σ b [nid] b' = []
    rw [updE_other _ _ (by have := heap_lt hh; omega)]
    exact hs.hr.new b' hb2
  · rw [setRow_size]; exact hs.kp.size
  · rw [(hother b' (fun e => ?_)).1]
    · exact hs.kp.heap b' hb' h0
    · subst e
      have := hs.kp.free b' hb' h0
      rw [hσ] at this
      rw [← this] at h0
      rcases h0 with h0 | h0
      · cases h0
      · exact hid0 (by simpa using h0)
  · rw [(hother b' (fun e => ?_)).2]
    · exact hs.kp.free b' hb' h0
    · subst e
      have := hs.kp.free b' hb' h0
      rw [hσ] at this
      rw [← this] at h0
      rcases h0 with h0 | h0
      · cases h0
      · exact hid0 (by simpa using h0)
  · rw [updE_other _ _ (by omega)]; exact hs.inn i hi
end

theorem W_frz {F : Fr} {c : Code} {S : St} {Q : Exit → St → Prop} (id : Nat) {B : Blk} (hB : S.H id = some B) (hcl : allClosed B = true) (k : W F c (S.frz id B) Q) : W F c S Q := by
  rintro a w ⟨hd, hsz, σ, β, hs⟩
  exact k a w ⟨hd, hsz, _, β, hs.frz hB hcl⟩
end Go.Eng
