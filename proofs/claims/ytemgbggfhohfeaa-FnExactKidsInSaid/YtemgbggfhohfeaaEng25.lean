/- Regions in their order, told by what is in the machine: they may be weakened on the way, and compare with nil; an element of an array's value. -/
import Derived.Test.YtemgbggfhohfeaaEng23
import Derived.Test.YtemgbggfhohfeaaEng24
set_option linter.unusedVariables false
set_option linter.unusedSimpArgs false
namespace Go.Eng

/-- From operation i on, l being those that are left, the operations come to Q. -/
def VW (F : Fr) (T : Tab) (ops : Array Oper) (i : Nat) (S : St) (l : List Oper) (Q : Exit → St → Prop) : Prop :=
  Env F T → Fits F ops → ops.toList.drop i = l → WOps F ops (List.range' i l.length) S Q

section
variable {F : Fr} {T : Tab} {ops : Array Oper} {i : Nat} {S : St} {o : Oper} {l : List Oper} {Q : Exit → St → Prop} {r : Rec}
theorem VW.cons (hs : ops[i]? = some o → Env F T → DstOk F o → Stp F ops i S r) (k : VW F T ops (i + 1) (S.app o.dst r) l Q) : VW F T ops i S (o :: l) Q := by
  intro he hf hl
  obtain ⟨h1, h2⟩ := drop_at hl
  have hk := k he hf h2
  intro a w ha
  rw [List.length_cons, List.range'_succ, wpOps_cons]
  refine Stp.wp hf (hs h1 he (hf i o h1)) (fun _ _ => rfl) (fun _ _ => ⟨rfl, rfl⟩) (fun a' w' hs' => ?_) ha
  have hdst : dstOf ops i = o.dst := by simp [dstOf, h1]
  rw [hdst] at hs'
  exact hk a' w' hs'
theorem ve (h : Q .normal S) : VW F T ops i S [] Q := fun _ _ _ => WOps_nil h
theorem vWk {S' : St} (h : Wk S S') (k : VW F T ops i S' l Q) : VW F T ops i S l Q := fun he hf hl a w hs => k he hf hl a w (h F a w hs)
theorem v0 (h : St1 F T o S r) (hg : o.guard = none) (k : VW F T ops (i + 1) (S.app o.dst r) l Q) : VW F T ops i S (o :: l) Q :=
  VW.cons (fun ho he hd => .run o r ho hg (h he hd)) k
theorem vB {e : Bool} (h : St1 F T o S r) (hv : r.v = .c (.bool e)) (hg : o.guard = none) (k : ∀ n, e = n → VW F T ops (i + 1) (S.app o.dst { r with v := .c (.bool n) }) l Q) : VW F T ops i S (o :: l) Q := by
  have : r = { r with v := .c (.bool e) } := by cases r; simp only at hv; subst hv; rfl
  refine VW.cons (r := { r with v := .c (.bool e) }) (fun ho he hd => .run o _ ho hg ?_) (k e rfl)
  rw [← this]
  exact h he hd
theorem u0 {j : Nat} {d : Tmp} {b : Bool} (h : St1 F T o S r) (hg : o.guard = some (j, b)) (hd : guardTmp ops j = some d) (hv : S.env d = .c (.bool b)) (k : VW F T ops (i + 1) (S.app o.dst { r with use := [d] ++ r.use }) l Q) : VW F T ops i S (o :: l) Q :=
  VW.cons (fun ho he hdo => .runG o _ j d b ho hg hd hv ((h he hdo).more [d]) (by simp)) k
theorem uB {j : Nat} {d : Tmp} {b : Bool} {e : Bool} (h : St1 F T o S r) (hw : r.v = .c (.bool e)) (hg : o.guard = some (j, b)) (hd : guardTmp ops j = some d) (hv : S.env d = .c (.bool b)) (k : ∀ n, e = n → VW F T ops (i + 1) (S.app o.dst { r with v := .c (.bool n), use := [d] ++ r.use }) l Q) : VW F T ops i S (o :: l) Q := by
  have : { r with use := [d] ++ r.use } = { r with v := .c (.bool e), use := [d] ++ r.use } := by cases r; simp only at hw; subst hw; rfl
  refine VW.cons (r := { r with v := .c (.bool e), use := [d] ++ r.use }) (fun ho he hdo => .runG o _ j d b ho hg hd hv ?_ (by simp)) (k e rfl)
  rw [← this]
  exact (h he hdo).more [d]
theorem uP {j : Nat} {d : Tmp} {b c : Bool} (hg : o.guard = some (j, b)) (hd : guardTmp ops j = some d) (hv : S.env d = .c (.bool c)) (hne : (c == b) = false) (k : VW F T ops (i + 1) (S.app o.dst { v := .c .skip, use := [d] }) l Q) : VW F T ops i S (o :: l) Q :=
  VW.cons (fun ho _ _ => .pass o j d b c ho hg hd hv (by simpa using hne)) k
theorem uS {j : Nat} {d : Tmp} {b : Bool} (hg : o.guard = some (j, b)) (hd : guardTmp ops j = some d) (hv : S.env d = .c .skip) (k : VW F T ops (i + 1) (S.app o.dst { v := .c .skip, use := [d] }) l Q) : VW F T ops i S (o :: l) Q :=
  VW.cons (fun ho _ _ => .passS o j d b ho hg hd hv) k
theorem W_regV {id : Nat} {ops : List Oper} (he : Env F T) (hf : fitsB F.N ops = true) (h : VW F T ops.toArray 0 S ops Q) : W F (.region id ops.toArray false) S Q := by
  have := h he (fits_of (by simpa using hf)) (by simp)
  refine W_region ?_
  have e : List.range ops.toArray.size = List.range' 0 ops.length := by rw [List.range_eq_range']; simp
  rw [e]
  exact this

theorem eq_nil_in {P : Program} (d : Nat) {t e : TypeId} (hu : P.underlying t = some (.slice e)) (A : Option Addr) (n cap : Nat) (w : World) : (Op.equalIn (d + 1) t (.slice A n cap) (.slice none 0 0)).run P w = .ok A.isNone w := by
  cases A with
  | none => simp [Op.equalIn, run_underlying hu]
  | some q => simp [Op.equalIn, run_underlying hu]
theorem eq_nil {P : Program} {t e : TypeId} (hu : P.underlying t = some (.slice e)) (A : Option Addr) (n cap : Nat) (w : World) : (Op.equal t (.slice A n cap) (.slice none 0 0)).run P w = .ok A.isNone w := eq_nil_in 9999 hu A n cap w
/-- A slice is compared with nil: if it is nil, it has no elements. -/
theorem vN {t ty : TypeId} {x : Operand} (h : o.op = .binOp .eql t x (.const (.slice none 0 0)) ty) {ob : Bool} {es : Nat} {xs : List (List V)} (hx : S.val [] x = .c (.row ob es xs)) {ti : TI} {e : Nat} (ht : tg T t = some ti) (hk : ti.k = .slice e) (hg : o.guard = none)
    (k : ∀ b : Bool, (b = true → xs = []) → VW F T ops (i + 1) (S.app o.dst { v := .c (.bool b) }) l Q) : VW F T ops i S (o :: l) Q := by
  intro he hf hl
  obtain ⟨h1, h2⟩ := drop_at hl
  intro a w ha
  rw [List.length_cons, List.range'_succ, wpOps_cons]
  have ha0 := ha
  obtain ⟨hd, hsz, σ, β, hs⟩ := ha
  have g := val_ok hs [] x
  rw [hx] at g
  have hrun : ∃ b : Bool, (b = true → xs = []) ∧ (execOp a.eval o).run F.P w = .ok (.value (.bool b)) w := by
    have u1 := (he.tab.ty ht).slice hk
    cases inv_c g with
    | c hc =>
      generalize ec : a.eval x = c at hc
      cases hc with
      | row p o' es xs A n cap b off cs hn hcap hmax hA hT hx hc hr =>
        refine ⟨A.isNone, fun hb => ?_, ?_⟩
        · cases xs with
          | nil => rfl
          | cons y ys => have := hA (by rw [hn]; simp); rw [this] at hb; cases hb
        · have ev : a.eval (.const (.slice none 0 0)) = .slice none 0 0 := rfl
          simp [execOp, h, ec, ev, binOp, eqGuard, eq_nil u1]
  obtain ⟨b, hb, hr⟩ := hrun
  have hk' := k b hb he hf h2
  unfold wpOp
  simp only [h1, Region.wanted, hg, if_true]
  refine .inl ?_
  unfold Oper.wp
  rw [hr]
  refine hk' _ _ ⟨by rw [put_defers]; exact hd, by rw [put_tmps_size]; exact hsz, σ, β, ?_⟩
  exact ⟨hs.hr, hs.mpos, hs.kp, hs.inn, put_env hsz hs.env (hf i o h1) (.c (.c (.bool _ _)))⟩

/-- An element of an array's value; the elements have one cell. -/
theorem sIdx {α : Type} [Inhabited α] {t : Nat} {x ix : Operand} (h : o.op = .index t x ix) {f : α → V} {ls : List α} {kd : IntKind} {j : Int} (hx : S.val [] x = .g (ls.map f)) (hi : S.val [] ix = .c (.int kd j)) {ti te : TI} {n e : Nat} (ht : tg T t = some ti) (hk : ti.k = .array n e) (he : tg T e = some te) (hs : te.size = 1) (ha : te.k.agg = false) (hn : ls.length = n) (hb : 0 ≤ j ∧ j < (ls.length : Int)) :
    St1 F T o S { v := .c (f (gt ls j)), use := opTmps [x, ix] } := sPure _ _ fun henv S' h1 h2 => by
  intro ac w σ β hs'
  have g1 := val_ok hs' [] x
  have g2 := val_ok hs' [] ix
  rw [vc h1 (by simp) hx] at g1
  rw [vc h1 (by simp) hi] at g2
  have e2 := inv_int g2
  have u1 := (henv.tab.ty ht).array hk
  have hsz := (henv.tab.ty he).sizeOf w
  have hag := (henv.tab.ty he).isAgg w
  generalize ec : ac.eval x = c at g1
  cases g1 with
  | g _ arr hsz' hcs =>
    obtain ⟨k, rfl⟩ : ∃ k : Nat, j = k := ⟨j.toNat, by omega⟩
    have hlt : k < ls.length := by omega
    have hv : (ls.map f)[k]? = some (f (gt ls (k : Int))) := by
      rw [List.getElem?_map, List.getElem?_eq_getElem hlt]
      simp [gt, hlt]
    obtain ⟨c, q1, q2⟩ := hcs k _ hv
    refine ⟨c, ?_, .c q2⟩
    have hlt2 : k < arr.size := (Array.getElem?_eq_some_iff.1 q1).1
    have hp : (part e arr k).run F.P w = .ok c w := by
      unfold part
      have q3 : arr[k] = c := by have := (Array.getElem?_eq_some_iff.1 q1).2; exact this
      simp [Sem.run_bind, hag, ha, hlt2, q3]
    simp [execOp, h, ec, e2, Instr.index, asIntOf, run_underlying u1, hsz, hs]
    rw [if_pos (by omega)]
    simp [hp]
end
end Go.Eng
