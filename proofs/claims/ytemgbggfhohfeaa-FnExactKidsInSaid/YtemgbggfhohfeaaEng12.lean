/- Calls, seen by the caller. -/
import Derived.Test.YtemgbggfhohfeaaEng11
set_option linter.unusedVariables false
set_option linter.unusedSimpArgs false
namespace Go.Eng

def V.back (lent : Bool) (outs : List Nat) (ν : Nat → Nat) : V → V
  | .own 0 _ _ _ => .undef
  | .own (i + 1) _ off len => match outs[i]? with
    | some id => .own id (ν id) off len
    | none => .undef
  | .ptr 0 _ _ _ => .undef
  | .ptr (i + 1) _ k j => match outs[i]? with
    | some id => .ptr id (ν id) k j
    | none => .undef
  | .row o es xs => if lent && !(V.row o es xs).fresh then .undef else .row o es xs
  | .ip es xs k j => if lent then .undef else .ip es xs k j
  | .fn f [] => .fn f []
  | .fn _ (_ :: _) => .undef
  | v => v
def A.back (lent : Bool) (outs : List Nat) (ν : Nat → Nat) : A → A
  | .c v => .c (v.back lent outs ν)
  | .g cs => .g (cs.map (V.back lent outs ν))
  | .t _ => .c .undef
def A.backT (lent : Bool) (outs : List Nat) (ν : Nat → Nat) : A → A
  | .t xs => .t (xs.map (A.back lent outs ν))
  | x => x.back lent outs ν

/-- A block's version behind the call. -/
def verL (S : St) : List Nat → List Bool → Nat → Nat
  | id :: r, k :: ks, x => if x = id then (if k then (match S.H id with | some B => B.ver | none => 0) else S.nv id) else verL S r ks x
  | _, _, _ => 0
def updL (lent : Bool) (outs : List Nat) (ν : Nat → Nat) : List Nat → List Blk → List (Nat × Option Blk)
  | id :: r, B :: Bs => (id, some ⟨ν id, B.es, B.xs.map fun x => x.map (V.back lent outs ν)⟩) :: updL lent outs ν r Bs
  | _, _ => []
def bumpL : List Nat → List Bool → List Nat
  | id :: r, k :: ks => if k then bumpL r ks else id :: bumpL r ks
  | _, _ => []

theorem setH_off {H : Nat → Option Blk} {l : List (Nat × Option Blk)} {id : Nat} (h : ∀ p ∈ l, p.1 ≠ id) : setH H l id = H id := by
  induction l generalizing H with
  | nil => rfl
  | cons p r ih =>
    obtain ⟨i, B⟩ := p
    show setH (updE H i B) r id = H id
    rw [ih (fun p hp => h p (by simp [hp]))]
    exact updE_other _ _ (fun e => h (i, B) (by simp) e.symm)
theorem updL_fst (lent : Bool) (outs : List Nat) (ν : Nat → Nat) (l : List Nat) (Bs : List Blk) : ∀ p ∈ updL lent outs ν l Bs, p.1 ∈ l := by
  induction l generalizing Bs with
  | nil => intro p hp; cases Bs <;> simp [updL] at hp
  | cons id r ih =>
    intro p hp
    cases Bs with
    | nil => simp [updL] at hp
    | cons B Bs =>
      simp only [updL, List.mem_cons] at hp
      rcases hp with rfl | hp
      · simp
      · exact List.mem_cons_of_mem _ (ih Bs p hp)
theorem setH_updL (H : Nat → Option Blk) (lent : Bool) (outs : List Nat) (ν : Nat → Nat) {l : List Nat} (hd : l.Nodup) {Bs : List Blk} {i id : Nat} {B : Blk} (hi : l[i]? = some id) (hB : Bs[i]? = some B) :
    setH H (updL lent outs ν l Bs) id = some ⟨ν id, B.es, B.xs.map fun x => x.map (V.back lent outs ν)⟩ := by
  induction l generalizing H Bs i with
  | nil => simp at hi
  | cons x r ih =>
    have hd' := List.nodup_cons.1 hd
    cases Bs with
    | nil => simp at hB
    | cons B0 Bs =>
      cases i with
      | zero =>
        simp only [List.getElem?_cons_zero, Option.some.injEq] at hi hB
        subst hi; subst hB
        show setH (updE H x _) (updL lent outs ν r Bs) x = _
        rw [setH_off (fun p hp e => hd'.1 (by rw [← e]; exact updL_fst _ _ _ _ _ p hp))]
        exact updE_same _ _ _
      | succ i =>
        exact ih _ hd'.2 (by simpa using hi) (by simpa using hB)
theorem bumpN_le (nv : Nat → Nat) (l : List Nat) (id : Nat) : nv id ≤ bumpN nv l id := by
  induction l generalizing nv with
  | nil => exact Nat.le_refl _
  | cons x r ih =>
    refine Nat.le_trans ?_ (ih (updE nv x (nv x + 1)))
    by_cases e : id = x
    · subst e; rw [updE_same]; omega
    · rw [updE_other _ _ e]; exact Nat.le_refl _
theorem bumpN_lt (nv : Nat → Nat) {l : List Nat} {id : Nat} (h : id ∈ l) : nv id < bumpN nv l id := by
  induction l generalizing nv with
  | nil => cases h
  | cons x r ih =>
    show nv id < bumpN (updE nv x (nv x + 1)) r id
    by_cases e : id = x
    · subst e
      refine Nat.lt_of_lt_of_le ?_ (bumpN_le _ _ _)
      rw [updE_same]; omega
    · have := ih (updE nv x (nv x + 1)) (by simpa [e] using h)
      rwa [updE_other _ _ e] at this
theorem verL_at {S : St} {l : List Nat} (hd : l.Nodup) {ks : List Bool} {i id : Nat} {k : Bool} (hi : l[i]? = some id) (hk : ks[i]? = some k) :
    verL S l ks id = (if k then (match S.H id with | some B => B.ver | none => 0) else S.nv id) ∧ (k = false → id ∈ bumpL l ks) := by
  induction l generalizing ks i with
  | nil => simp at hi
  | cons x r ih =>
    have hd' := List.nodup_cons.1 hd
    cases ks with
    | nil => simp at hk
    | cons k0 ks =>
      cases i with
      | zero =>
        simp only [List.getElem?_cons_zero, Option.some.injEq] at hi hk
        subst hi; subst hk
        refine ⟨by simp [verL], fun h => ?_⟩
        subst h
        simp [bumpL]
      | succ i =>
        have h1 : r[i]? = some id := by simpa using hi
        have hne : id ≠ x := by rintro rfl; exact hd'.1 (List.mem_of_getElem? h1)
        obtain ⟨h2, h3⟩ := ih hd'.2 h1 (by simpa using hk)
        refine ⟨by simp only [verL, if_neg hne]; exact h2, fun h => ?_⟩
        cases k0
        · exact List.mem_cons_of_mem _ (h3 h)
        · exact h3 h
theorem bumpL_mem {l : List Nat} {ks : List Bool} {id : Nat} (h : id ∈ bumpL l ks) : id ∈ l := by
  induction l generalizing ks with
  | nil => cases ks <;> simp [bumpL] at h
  | cons x r ih =>
    cases ks with
    | nil => simp [bumpL] at h
    | cons k ks =>
      cases k
      · rcases List.mem_cons.1 h with rfl | h
        · simp
        · exact List.mem_cons_of_mem _ (ih h)
      · exact List.mem_cons_of_mem _ (ih h)

/-- What a call leaves. -/
def St.called (S : St) (lent : Bool) (outs : List Nat) (keep : List Bool) (H1 : List Blk) : St :=
  ⟨S.env, setH S.H (updL lent outs (verL S outs keep) outs H1), bumpN S.nv (bumpL outs keep)⟩

def upσ (outs : List Nat) : List Nat → List Nat
  | [] => []
  | 0 :: _ => []
  | (i + 1) :: r => match outs[i]? with
    | some id => id :: r
    | none => []
def notIo (io : List Nat) : List Nat → Bool
  | [] => true
  | id :: _ => (posOf io id).isNone

theorem downσ_not {lent : Bool} {io : List Nat} {p : List Nat} (h : notIo io p = true) : downσ lent io p = [] ∨ downσ lent io p = [0] := by
  cases p with
  | nil => exact .inl rfl
  | cons id r =>
    simp only [notIo, Option.isNone_iff_eq_none] at h
    simp only [downσ, h]
    cases lent <;> simp

structure Back (E1 E' : Cx) (lent : Bool) (outs : List Nat) (H1 : List Blk) (ν : Nat → Nat) : Prop where
  w : E'.w = E1.w
  look : E1.H = getH H1
  nv1 : ∀ i, E1.nv i = 1
  s0 : lent = false → ∀ b, E1.σ b = [] → E'.σ b = []
  s1 : ∀ (b i : Nat) (r : List Nat) (id : Nat), E1.σ b = (i + 1) :: r → outs[i]? = some id → E'.σ b = id :: r
  len : outs.length = H1.length
  ver : ∀ (i : Nat) (B : Blk), H1[i]? = some B → B.ver = 0
  blk : ∀ (i id : Nat) (B : Blk), outs[i]? = some id → H1[i]? = some B → E'.H id = some ⟨ν id, B.es, B.xs.map fun x => x.map (V.back lent outs ν)⟩
  β : ∀ (i id : Nat), outs[i]? = some id → E'.β id = E1.β (i + 1)
  nv : ∀ (i id : Nat), outs[i]? = some id → ν id < E'.nv id

def upP (outs : List Nat) (p q : List Nat) : Prop := (p = [] ∧ q = []) ∨ ∃ i r id, p = (i + 1) :: r ∧ outs[i]? = some id ∧ q = id :: r

section
variable {E1 E' : Cx} {lent : Bool} {outs : List Nat} {H1 : List Blk} {ν : Nat → Nat}
theorem Back.rc (h : Back E1 E' lent outs H1 ν) {p q : List Nat} (hp : upP outs p q) {v : V} {c : Value} (hl : lent = false ∨ v.fresh = true) (hr : RC E1.w E1.σ p v c) : RC E'.w E'.σ q v c := by
  rw [h.w]
  have h1 : ∀ b r, p ≠ [] → E1.σ b = p ++ r → E'.σ b = q ++ r := by
    intro b r hne hb
    rcases hp with ⟨rfl, _⟩ | ⟨i, r', id, rfl, hi, rfl⟩
    · exact absurd rfl hne
    · exact h.s1 b i (r' ++ r) id hb hi
  have h2 : p ≠ [] → q ≠ [] := by
    intro hne
    rcases hp with ⟨rfl, _⟩ | ⟨i, r', id, rfl, hi, rfl⟩
    · exact absurd rfl hne
    · simp
  rcases hl with hl | hl
  · exact hr.move (h.s0 hl) h1 h2
  · exact hr.moveF hl h1 h2

theorem Back.rv (h : Back E1 E' lent outs H1 ν) {p q : List Nat} (hp : upP outs p q) {v : V} {c : Value} (hr : RV E1 p v c) : RV E' q (v.back lent outs ν) c := by
  have hH : ∀ {i id : Nat}, outs[i]? = some id → ∃ B, H1[i]? = some B := by
    intro i id hi
    have := (List.getElem?_eq_some_iff.1 hi).1
    rw [h.len] at this
    exact ⟨_, List.getElem?_eq_getElem this⟩
  cases hr with
  | c hr =>
    have key : ∀ v, (lent = false ∨ v.fresh = true) → RC E1.w E1.σ p v c → RV E' q v c := fun v hl hr => .c (h.rc hp hl hr)
    cases hr with
    | int p k n => exact .c (.int _ _ _)
    | bool p b => exact .c (.bool _ _)
    | str p s => exact .c (.str _ _)
    | nilp p => exact .c (.nilp _)
    | row p o es xs A n cap b off cs hn hcap hmax hA hT hx hc hr =>
      simp only [V.back]
      cases e : (lent && !(V.row o es xs).fresh) with
      | true => exact .undef _ _
      | false =>
        simp only [Bool.false_eq_true, if_false]
        refine key _ ?_ (.row p o es xs A n cap b off cs hn hcap hmax hA hT hx hc hr)
        cases lent
        · exact .inl rfl
        · right; simpa using e
  | own p id ver off len A n cap hn hver hcap hmax hb =>
    cases id with
    | zero => exact .undef _ _
    | succ i =>
      simp only [V.back]
      cases e : outs[i]? with
      | none => exact .undef _ _
      | some id =>
        obtain ⟨B, hB⟩ := hH e
        rw [h.nv1] at hver
        have hv0 : ver = 0 := by omega
        obtain ⟨h3, h4⟩ := hb B (by rw [h.look]; exact hB) (by rw [h.ver i B hB, hv0])
        refine .own _ _ _ _ _ _ _ _ hn (h.nv i id e) hcap hmax fun B' hB' _ => ?_
        rw [h.blk i id B e hB] at hB'
        cases hB'
        refine ⟨by simpa using h3, ?_⟩
        rcases h4 with h4 | ⟨b, o, m, h5, h6, h7⟩
        · exact .inl h4
        · exact .inr ⟨b, o, m, by rw [h.β i id e, h5], h6, h7⟩
  | ptr p id ver k j a hver hb =>
    cases id with
    | zero => exact .undef _ _
    | succ i =>
      simp only [V.back]
      cases e : outs[i]? with
      | none => exact .undef _ _
      | some id =>
        obtain ⟨B, hB⟩ := hH e
        rw [h.nv1] at hver
        have hv0 : ver = 0 := by omega
        obtain ⟨b, o, m, h5, h6⟩ := hb B (by rw [h.look]; exact hB) (by rw [h.ver i B hB, hv0])
        refine .ptr _ _ _ _ _ _ (h.nv i id e) fun B' hB' _ => ?_
        rw [h.blk i id B e hB] at hB'
        cases hB'
        exact ⟨b, o, m, by rw [h.β i id e, h5], h6⟩
  | ip p es xs k j b off n cap hb =>
    simp only [V.back]
    cases e : lent with
    | true => exact .undef _ _
    | false =>
      simp only [Bool.false_eq_true, if_false]
      exact .ip _ _ _ _ _ _ _ _ _ (h.rc (.inl ⟨rfl, rfl⟩) (.inl e) hb)
  | fn p f caps cs cv hs h1 h2 =>
    cases caps with
    | nil => exact .fn _ _ _ _ cv hs h1 (fun i v hi => by simp at hi)
    | cons x r => exact .undef _ _
  | skip p => exact .skip _
  | undef p v => exact .undef _ _

theorem Back.ra (h : Back E1 E' lent outs H1 ν) {x : A} {c : Value} (hr : RA E1 x c) : RA E' (x.back lent outs ν) c := by
  cases hr with
  | c hr => exact .c (h.rv (.inl ⟨rfl, rfl⟩) hr)
  | g cs arr hs hc =>
    refine .g _ _ (by simpa using hs) fun i v hi => ?_
    rw [List.getElem?_map] at hi
    obtain ⟨v0, h3, rfl⟩ := Option.map_eq_some_iff.1 hi
    obtain ⟨c, h1, h2⟩ := hc i v0 h3
    exact ⟨c, h1, h.rv (.inl ⟨rfl, rfl⟩) h2⟩
  | t xs arr cv hs h1 h2 => exact .c (.undef _ _)
theorem Back.raT (h : Back E1 E' lent outs H1 ν) {x : A} {c : Value} (hr : RA E1 x c) : RA E' (x.backT lent outs ν) c := by
  cases hr with
  | c hr => exact h.ra (.c hr)
  | g cs arr hs hc => exact h.ra (.g cs arr hs hc)
  | t xs arr cv hs h1 h2 =>
    refine .t _ _ cv (by simpa using hs) (fun i v hi => ?_) (fun i v hi => ?_)
    · rw [List.getElem?_map] at hi
      obtain ⟨v0, h3, rfl⟩ := Option.map_eq_some_iff.1 hi
      exact h1 i v0 h3
    · rw [List.getElem?_map] at hi
      obtain ⟨v0, h3, rfl⟩ := Option.map_eq_some_iff.1 hi
      exact h.ra (h2 i v0 h3)
end

theorem RSx.called {F : Fr} {S : St} {a : Act} {w w' : World} {σ σ1 : Nat → List Nat} {β β1 : Nat → Option (Nat × Nat × Nat)} (hs : RSx F S a w σ β)
    {lent : Bool} {io outs : List Nat} {keep : List Bool} {H1 : List Blk} (hnd : outs.Nodup) (hio : ∀ i, i < io.length → outs[i]? = io[i]?) (hlive : ∀ id ∈ io, (S.H id).isSome = true)
    (hnew : ∀ j id, io.length ≤ j → outs[j]? = some id → F.m ≤ id) (hlen : outs.length = H1.length) (hkl : keep.length = outs.length)
    (hkeep : ∀ i, keep[i]? = some true → i < io.length ∧ ∀ id B B', outs[i]? = some id → S.H id = some B → H1[i]? = some B' → B.es = B'.es ∧ B.xs.length = B'.xs.length)
    (kp : Kp w (fun b => downσ lent io (σ b)) w' σ1) (hβ : ∀ i, i ≤ io.length → β1 i = downβ io β i) (hr : HR ⟨w', σ1, β1, getH H1, fun _ => 1⟩) :
    ∃ σn βn, RSx F (S.called lent outs keep H1) a w' σn βn ∧ ∀ x c, RA ⟨w', σ1, β1, getH H1, fun _ => 1⟩ x c → RA ((S.called lent outs keep H1).cx w' σn βn) (x.backT lent outs (verL S outs keep)) c := by
  let σn : Nat → List Nat := fun b => if b < w.heap.size ∧ notIo io (σ b) = true then σ b else upσ outs (σ1 b)
  let βn : Nat → Option (Nat × Nat × Nat) := fun id => match posOf outs id with | some i => β1 (i + 1) | none => β id
  have hold : ∀ b, b < w.heap.size → notIo io (σ b) = true → w'.heap[b]? = w.heap[b]? ∧ σ1 b = downσ lent io (σ b) ∧ σn b = σ b := fun b hb hn =>
    ⟨kp.heap b hb (downσ_not hn), kp.free b hb (downσ_not hn), if_pos ⟨hb, hn⟩⟩
  have hcases : ∀ b, (b < w.heap.size ∧ notIo io (σ b) = true) ∨ σn b = upσ outs (σ1 b) := fun b => by
    by_cases h : b < w.heap.size ∧ notIo io (σ b) = true
    · exact .inl h
    · exact .inr (if_neg h)
  have hβn : ∀ i id, outs[i]? = some id → βn id = β1 (i + 1) := fun i id hi => by
    show (match posOf outs id with | some i => β1 (i + 1) | none => β id) = _
    rw [posOf_at hnd hi]
  have hβo : ∀ id, id ∉ outs → βn id = β id := fun id hi => by
    show (match posOf outs id with | some i => β1 (i + 1) | none => β id) = _
    cases e : posOf outs id with
    | none => rfl
    | some i => exact absurd (List.mem_of_getElem? (posOf_some e)) hi
  have hβio : ∀ i id, i < io.length → outs[i]? = some id → βn id = β id := fun i id hi ho => by
    rw [hβn i id ho, hβ (i + 1) (by omega)]
    rw [hio i hi] at ho
    simp [downβ, ho]
  have hHo : ∀ id, id ∉ outs → (S.called lent outs keep H1).H id = S.H id := fun id hi => by
    exact setH_off (fun p hp e => hi (by rw [← e]; exact updL_fst _ _ _ _ _ p hp))
  have hkat : ∀ i id, outs[i]? = some id → ∃ k, keep[i]? = some k := fun i id hi => by
    have := (List.getElem?_eq_some_iff.1 hi).1
    rw [← hkl] at this
    exact ⟨_, List.getElem?_eq_getElem this⟩
  have hH0 : S.H 0 = none := hs.hr.far
  have hni : ∀ (id : Nat) b, id ∉ io → (σ b = [] ∨ [id] <+: σ b) → notIo io (σ b) = true := by
    intro id b hid h
    rcases h with h | ⟨r, h⟩
    · rw [h]; rfl
    · rw [← h]
      show (posOf io id).isNone = true
      cases e : posOf io id with
      | none => rfl
      | some i => exact absurd (List.mem_of_getElem? (posOf_some e)) hid
  have hiosub : ∀ id, id ∈ io → id ∈ outs := fun id h => by
    obtain ⟨i, hi⟩ := List.mem_iff_getElem?.1 h
    exact List.mem_of_getElem? (by rw [hio i (List.getElem?_eq_some_iff.1 hi).1, hi])
  have hnear0 : Near w σ w' σn [] := fun b hb hc => by
    have hc := hc.resolve_right (by simp)
    obtain ⟨h1, _, h3⟩ := hold b hb (by rw [hc]; rfl)
    exact ⟨h1, h3⟩
  have hnear1 : ∀ id, id ∉ outs → Near w σ w' σn [id] := fun id hid b hb hc => by
    obtain ⟨h1, _, h3⟩ := hold b hb (hni id b (fun h => hid (hiosub id h)) (hc.imp (fun h => h) (·.2)))
    exact ⟨h1, h3⟩
  have hext : Ext (S.cx w σ β) ((S.called lent outs keep H1).cx w' σn βn) := by
    refine ⟨fun id => bumpN_le _ _ _, fun id B' hB' hver => ?_⟩
    have hB2 : (S.called lent outs keep H1).H id = some B' := hB'
    by_cases hid : id ∈ outs
    · obtain ⟨i, hi⟩ := List.mem_iff_getElem?.1 hid
      have hil := (List.getElem?_eq_some_iff.1 hi).1
      obtain ⟨k, hk⟩ := hkat i id hi
      have hB1 : H1[i]? = some H1[i] := List.getElem?_eq_getElem (by omega)
      have := setH_updL S.H lent outs (verL S outs keep) hnd hi hB1
      have e2 : B' = ⟨verL S outs keep id, H1[i].es, H1[i].xs.map fun x => x.map (V.back lent outs (verL S outs keep))⟩ := by
        have h3 : (S.called lent outs keep H1).H id = _ := this
        rw [hB2] at h3
        exact Option.some.inj h3
      obtain ⟨hv1, hv2⟩ := verL_at (S := S) hnd hi hk
      cases k with
      | false =>
        rw [e2] at hver
        have hver' : verL S outs keep id < S.nv id := hver
        rw [hv1] at hver'
        simp at hver'
      | true =>
        obtain ⟨h4, h5⟩ := hkeep i hk
        have hin : id ∈ io := List.mem_of_getElem? (by rw [← hio i h4, hi])
        have := hlive id hin
        cases eB : S.H id with
        | none => rw [eB] at this; cases this
        | some B =>
          obtain ⟨h6, h7⟩ := h5 id B _ hi eB hB1
          refine ⟨B, eB, ?_, ?_, ?_, hβio i id h4 hi⟩
          · rw [e2, hv1, eB]; rfl
          · rw [e2]; exact h6
          · rw [e2]; simpa using h7
    · rw [hHo id hid] at hB2
      exact ⟨B', hB2, rfl, rfl, rfl, hβo id hid⟩
  have hback : Back ⟨w', σ1, β1, getH H1, fun _ => 1⟩ ((S.called lent outs keep H1).cx w' σn βn) lent outs H1 (verL S outs keep) := by
    refine ⟨rfl, rfl, fun _ => rfl, fun hl b hb => ?_, fun b i r id hb hi => ?_, hlen, fun i B hB => ?_, fun i id B hi hB => setH_updL _ _ _ _ hnd hi hB, hβn, fun i id hi => ?_⟩
    · show σn b = []
      have hb' : σ1 b = [] := hb
      rcases hcases b with ⟨h1, h2⟩ | h
      · obtain ⟨_, h4, h5⟩ := hold b h1 h2
        rw [h5]
        rw [hb'] at h4
        cases e : σ b with
        | nil => rfl
        | cons id r =>
          rw [e] at h4 h2
          simp only [notIo, Option.isNone_iff_eq_none] at h2
          simp [downσ, h2, hl] at h4
      · rw [h, hb']; rfl
    · show σn b = id :: r
      have hb' : σ1 b = (i + 1) :: r := hb
      rcases hcases b with ⟨h1, h2⟩ | h
      · obtain ⟨_, h4, h5⟩ := hold b h1 h2
        rw [hb'] at h4
        rcases downσ_not (lent := lent) h2 with h6 | h6
        · rw [h6] at h4; cases h4
        · rw [h6] at h4; simp at h4
      · rw [h, hb']; simp [upσ, hi]
    · have := (hr.blk (i + 1) B hB).1
      have : B.ver < 1 := this
      omega
    · obtain ⟨k, hk⟩ := hkat i id hi
      obtain ⟨hv1, hv2⟩ := verL_at (S := S) hnd hi hk
      show verL S outs keep id < bumpN S.nv (bumpL outs keep) id
      cases k with
      | false =>
        rw [hv1]
        exact bumpN_lt _ (hv2 rfl)
      | true =>
        obtain ⟨h4, _⟩ := hkeep i hk
        have hin : id ∈ io := List.mem_of_getElem? (by rw [← hio i h4, hi])
        have := hlive id hin
        cases eB : S.H id with
        | none => rw [eB] at this; cases this
        | some B =>
          rw [hv1, eB]
          exact Nat.lt_of_lt_of_le (hs.hr.blk id B eB).1 (bumpN_le _ _ _)
  have h0out : 0 ∉ outs := by
    intro h
    obtain ⟨j, hj⟩ := List.mem_iff_getElem?.1 h
    rcases Nat.lt_or_ge j io.length with h1 | h1
    · have := hlive 0 (List.mem_of_getElem? (by rw [← hio j h1, hj]))
      rw [hH0] at this; cases this
    · have := hnew j 0 h1 hj
      have := hs.mpos
      omega
  refine ⟨σn, βn, ⟨⟨(hHo 0 h0out).trans hH0, fun id B hB => ?_, fun b hb => ?_⟩, hs.mpos, ?_, fun i hi => ?_, fun t => (hs.env t).mono hext hnear0⟩, fun x c h => hback.raT h⟩
  · have hB2 : (S.called lent outs keep H1).H id = some B := hB
    by_cases hid : id ∈ outs
    · obtain ⟨i, hi⟩ := List.mem_iff_getElem?.1 hid
      have hil := (List.getElem?_eq_some_iff.1 hi).1
      have hB1 : H1[i]? = some H1[i] := List.getElem?_eq_getElem (by omega)
      have := hback.blk i id _ hi hB1
      have e2 : B = ⟨verL S outs keep id, H1[i].es, H1[i].xs.map fun x => x.map (V.back lent outs (verL S outs keep))⟩ := by
        have h3 : (S.called lent outs keep H1).H id = _ := this
        rw [hB2] at h3
        exact Option.some.inj h3
      rw [e2]
      refine ⟨hback.nv i id hi, ?_⟩
      have hbr := (hr.blk (i + 1) H1[i] hB1).2
      cases eβ : β1 (i + 1) with
      | none =>
        have h4 := hbr.void eβ
        exact .mk_void ((hβn i id hi).trans eβ) (by simp [h4])
      | some q =>
        obtain ⟨b, o, n⟩ := q
        obtain ⟨q1, q2, q3, arr, T, q4, q5, q6⟩ := hbr.some eβ
        refine .mk ((hβn i id hi).trans eβ) ⟨hback.s1 b i [] id q1 hi, ?_, by simpa using q3, arr, T, q4, q5, fun k j x v hk hj => ?_⟩
        · intro x hx
          obtain ⟨x0, h1, rfl⟩ := List.mem_map.1 hx
          simpa using q2 x0 h1
        · simp only [List.getElem?_map] at hk
          obtain ⟨x0, h1, rfl⟩ := Option.map_eq_some_iff.1 hk
          rw [List.getElem?_map] at hj
          obtain ⟨v0, h2, rfl⟩ := Option.map_eq_some_iff.1 hj
          obtain ⟨c, h3, h4⟩ := q6 k j x0 v0 h1 h2
          exact ⟨c, h3, hback.rv (.inr ⟨i, [k, j], id, rfl, hi, rfl⟩) h4⟩
    · rw [hHo id hid] at hB2
      obtain ⟨h1, h2⟩ := hs.hr.blk id B hB2
      exact ⟨Nat.lt_of_lt_of_le h1 (bumpN_le _ _ _), h2.mono hext (hβo id hid) (hnear1 id hid)⟩
  · have hb' : w'.heap.size ≤ b := hb
    have hsz := kp.size
    show σn b = []
    rcases hcases b with ⟨h1, h2⟩ | h
    · omega
    · rw [h, show σ1 b = [] from hr.new b hb']; rfl
  · have hk := hs.kp
    have hni2 : ∀ b, b < F.w0.heap.size → (F.σ0 b = [] ∨ F.σ0 b = [0]) → notIo io (σ b) = true := by
      intro b hb hc
      rw [hk.free b hb hc]
      rcases hc with hc | hc
      · rw [hc]; rfl
      · rw [hc]
        show (posOf io 0).isNone = true
        cases e : posOf io 0 with
        | none => rfl
        | some i => exact absurd (hiosub 0 (List.mem_of_getElem? (posOf_some e))) h0out
    refine ⟨kp.os.trans hk.os, kp.tape.trans hk.tape, kp.output.trans hk.output, Nat.le_trans hk.size kp.size, fun b hb hc => ?_, fun b hb hc => ?_⟩
    · exact (hold b (Nat.lt_of_lt_of_le hb hk.size) (hni2 b hb hc)).1.trans (hk.heap b hb hc)
    · exact (hold b (Nat.lt_of_lt_of_le hb hk.size) (hni2 b hb hc)).2.2.trans (hk.free b hb hc)
  · by_cases hid : i ∈ outs
    · obtain ⟨j, hj⟩ := List.mem_iff_getElem?.1 hid
      rcases Nat.lt_or_ge j io.length with h1 | h1
      · rw [hβio j i h1 hj]; exact hs.inn i hi
      · have := hnew j i h1 hj
        omega
    · rw [hβo i hid]; exact hs.inn i hi
end Go.Eng
