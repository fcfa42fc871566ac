/- Regions, operation by operation; states brought into a plain form between them. -/
import Derived.Test.YtemgbggfhohfeaaEng13
set_option linter.unusedVariables false
set_option linter.unusedSimpArgs false
namespace Go.Eng

structure Env (F : Fr) (T : Tab) : Prop where
  m : F.m ≤ 100
  tab : TabOk F.P T
def DstOk (F : Fr) (o : Oper) : Prop := ∀ d, o.dst = some d → d < F.N

/-- What one operation does in this frame. -/
def St1 (F : Fr) (T : Tab) (o : Oper) (S : St) (r : Rec) : Prop := Env F T → DstOk F o → StepL F o S r

/-- From operation i on, l being those that are left, the operations come, told by their records, to K. -/
def VT (F : Fr) (T : Tab) (ops : Array Oper) (i : Nat) (S : St) (l : List Oper) (K : List Rec → St → Prop) : Prop :=
  Env F T → Fits F ops → ops.toList.drop i = l → ∃ rs S', Trc F ops (List.range' i l.length) S rs S' ∧ K rs S'

theorem StepL.more {F : Fr} {o : Oper} {S : St} {r : Rec} (h : StepL F o S r) (us : List Tmp) : StepL F o S { r with use := us ++ r.use } :=
  fun S' h1 h2 => h S' (fun t ht => h1 t (List.mem_append_right _ ht)) h2

section
variable {F : Fr} {T : Tab} {ops : Array Oper} {i : Nat} {S : St} {o : Oper} {l : List Oper} {K : List Rec → St → Prop} {r : Rec}

theorem drop_at (h : ops.toList.drop i = o :: l) : ops[i]? = some o ∧ ops.toList.drop (i + 1) = l := by
  constructor
  · have : (ops.toList.drop i)[0]? = some o := by rw [h]; rfl
    rw [List.getElem?_drop] at this
    simpa using this
  · have := congrArg (List.drop 1) h
    simpa [List.drop_drop] using this

theorem VT.cons (hs : ops[i]? = some o → Env F T → DstOk F o → Stp F ops i S r) (k : VT F T ops (i + 1) (S.app o.dst r) l (fun rs S' => K (r :: rs) S')) : VT F T ops i S (o :: l) K := by
  intro he hf hl
  obtain ⟨h1, h2⟩ := drop_at hl
  obtain ⟨rs, S', t, hk⟩ := k he hf h2
  refine ⟨r :: rs, S', ?_, hk⟩
  have hdst : dstOf ops i = o.dst := by simp [dstOf, h1]
  exact .cons (hs h1 he (hf i o h1)) (by rw [hdst]; exact t)

theorem ge (h : K [] S) : VT F T ops i S [] K := fun _ _ _ => ⟨[], S, .nil S, h⟩
theorem g0 (h : St1 F T o S r) (hg : o.guard = none) (k : VT F T ops (i + 1) (S.app o.dst r) l (fun rs S' => K (r :: rs) S')) : VT F T ops i S (o :: l) K :=
  VT.cons (fun ho he hd => .run o r ho hg (h he hd)) k
/-- Its result, a whole number or a truth value, gets a name. -/
theorem gI {kd : IntKind} {e : Int} (h : St1 F T o S r) (hv : r.v = .c (.int kd e)) (hg : o.guard = none) (k : ∀ n, e = n → VT F T ops (i + 1) (S.app o.dst { r with v := .c (.int kd n) }) l (fun rs S' => K ({ r with v := .c (.int kd n) } :: rs) S')) : VT F T ops i S (o :: l) K := by
  have : r = { r with v := .c (.int kd e) } := by cases r; simp only at hv; subst hv; rfl
  refine VT.cons (r := { r with v := .c (.int kd e) }) (fun ho he hd => .run o _ ho hg ?_) (k e rfl)
  rw [← this]
  exact h he hd
theorem gB {e : Bool} (h : St1 F T o S r) (hv : r.v = .c (.bool e)) (hg : o.guard = none) (k : ∀ n, e = n → VT F T ops (i + 1) (S.app o.dst { r with v := .c (.bool n) }) l (fun rs S' => K ({ r with v := .c (.bool n) } :: rs) S')) : VT F T ops i S (o :: l) K := by
  have : r = { r with v := .c (.bool e) } := by cases r; simp only at hv; subst hv; rfl
  refine VT.cons (r := { r with v := .c (.bool e) }) (fun ho he hd => .run o _ ho hg ?_) (k e rfl)
  rw [← this]
  exact h he hd
/-- With a guard that holds. -/
theorem q0 {j : Nat} {d : Tmp} {b : Bool} (h : St1 F T o S r) (hg : o.guard = some (j, b)) (hd : guardTmp ops j = some d) (hv : S.env d = .c (.bool b)) (k : VT F T ops (i + 1) (S.app o.dst { r with use := [d] ++ r.use }) l (fun rs S' => K ({ r with use := [d] ++ r.use } :: rs) S')) : VT F T ops i S (o :: l) K :=
  VT.cons (fun ho he hdo => .runG o _ j d b ho hg hd hv ((h he hdo).more [d]) (by simp)) k
theorem qI {j : Nat} {d : Tmp} {b : Bool} {kd : IntKind} {e : Int} (h : St1 F T o S r) (hw : r.v = .c (.int kd e)) (hg : o.guard = some (j, b)) (hd : guardTmp ops j = some d) (hv : S.env d = .c (.bool b)) (k : ∀ n, e = n → VT F T ops (i + 1) (S.app o.dst { r with v := .c (.int kd n), use := [d] ++ r.use }) l (fun rs S' => K ({ r with v := .c (.int kd n), use := [d] ++ r.use } :: rs) S')) : VT F T ops i S (o :: l) K := by
  have : { r with use := [d] ++ r.use } = { r with v := .c (.int kd e), use := [d] ++ r.use } := by cases r; simp only at hw; subst hw; rfl
  refine VT.cons (r := { r with v := .c (.int kd e), use := [d] ++ r.use }) (fun ho he hdo => .runG o _ j d b ho hg hd hv ?_ (by simp)) (k e rfl)
  rw [← this]
  exact (h he hdo).more [d]
theorem qB {j : Nat} {d : Tmp} {b : Bool} {e : Bool} (h : St1 F T o S r) (hw : r.v = .c (.bool e)) (hg : o.guard = some (j, b)) (hd : guardTmp ops j = some d) (hv : S.env d = .c (.bool b)) (k : ∀ n, e = n → VT F T ops (i + 1) (S.app o.dst { r with v := .c (.bool n), use := [d] ++ r.use }) l (fun rs S' => K ({ r with v := .c (.bool n), use := [d] ++ r.use } :: rs) S')) : VT F T ops i S (o :: l) K := by
  have : { r with use := [d] ++ r.use } = { r with v := .c (.bool e), use := [d] ++ r.use } := by cases r; simp only at hw; subst hw; rfl
  refine VT.cons (r := { r with v := .c (.bool e), use := [d] ++ r.use }) (fun ho he hdo => .runG o _ j d b ho hg hd hv ?_ (by simp)) (k e rfl)
  rw [← this]
  exact (h he hdo).more [d]
/-- With a guard that does not hold; or that was not come to. -/
theorem qP {j : Nat} {d : Tmp} {b c : Bool} (hg : o.guard = some (j, b)) (hd : guardTmp ops j = some d) (hv : S.env d = .c (.bool c)) (hne : (c == b) = false) (k : VT F T ops (i + 1) (S.app o.dst { v := .c .skip, use := [d] }) l (fun rs S' => K ({ v := .c .skip, use := [d] } :: rs) S')) : VT F T ops i S (o :: l) K :=
  VT.cons (fun ho _ _ => .pass o j d b c ho hg hd hv (by simpa using hne)) k
theorem qS {j : Nat} {d : Tmp} {b : Bool} (hg : o.guard = some (j, b)) (hd : guardTmp ops j = some d) (hv : S.env d = .c .skip) (k : VT F T ops (i + 1) (S.app o.dst { v := .c .skip, use := [d] }) l (fun rs S' => K ({ v := .c .skip, use := [d] } :: rs) S')) : VT F T ops i S (o :: l) K :=
  VT.cons (fun ho _ _ => .passS o j d b ho hg hd hv) k
end

/-! ### The steps -/
section
variable {F : Fr} {T : Tab} {S : St} {o : Oper}
theorem sPure {v : A} (use : List Tmp) (ids : List Nat) (h : Env F T → ∀ S' : St, (∀ t ∈ use, S'.env t = S.env t) → (∀ i ∈ ids, S'.H i = S.H i ∧ S'.nv i = S.nv i) → PureOk F o S' v) : St1 F T o S { v, use, ids } :=
  fun he hd => PureOk.step hd use ids (h he)
theorem vc {S S' : St} {l : List Operand} (h : ∀ t ∈ opTmps l, S'.env t = S.env t) {x : Operand} (hx : x ∈ l) {sh : List Nat} {v : A} (hv : S.val sh x = v) : S'.val sh x = v := by rw [val_congr hx h sh, hv]

theorem sM {x : Operand} (h : o.op = .move x) (sh : List Nat) {v : A} (hv : S.val sh x = v) : St1 F T o S { v, use := opTmps [x] } := sPure _ _ fun _ S' h1 h2 => by
  have := ok_move (F := F) (S := S') h sh
  rwa [vc h1 (by simp) hv] at this
theorem sA {x : Operand} (h : o.op = .assign x) (sh : List Nat) {v : A} (hv : S.val sh x = v) : St1 F T o S { v, use := opTmps [x] } := sPure _ _ fun _ S' h1 h2 => by
  have := ok_assign (F := F) (S := S') h sh
  rwa [vc h1 (by simp) hv] at this
theorem sPk {c x y : Operand} (h : o.op = .pick c x y) (sh : List Nat) {b : Bool} (hc : S.val [] c = .c (.bool b)) {v : A} (hv : S.val sh (if b then x else y) = v) : St1 F T o S { v, use := opTmps [c, x, y] } := sPure _ _ fun _ S' h1 h2 => by
  have := ok_pick (F := F) (S := S') h sh (vc h1 (by simp) hc)
  rwa [vc h1 (by cases b <;> simp) hv] at this
theorem sBi {op : BinOp} {t ty : TypeId} {x y : Operand} (h : o.op = .binOp op t x y ty) {k : IntKind} {a b : Int} {v : V} (hx : S.val [] x = .c (.int k a)) (hy : S.val [] y = .c (.int k b)) (hv : binI op k a b = some v) : St1 F T o S { v := .c v, use := opTmps [x, y] } := sPure _ _ fun _ S' h1 h2 =>
  ok_binI h (vc h1 (by simp) hx) (vc h1 (by simp) hy) hv
theorem sSh {t ty : TypeId} {x y : Operand} (h : o.op = .binOp .shl t x y ty) {k k' : IntKind} {a b : Int} (hx : S.val [] x = .c (.int k a)) (hy : S.val [] y = .c (.int k' b)) (hb : 0 ≤ b) : St1 F T o S { v := .c (.int k (k.wrap (a * 2 ^ min b.toNat k.bits))), use := opTmps [x, y] } := sPure _ _ fun _ S' h1 h2 =>
  ok_shl h (vc h1 (by simp) hx) (vc h1 (by simp) hy) hb
theorem sSr {t ty : TypeId} {x y : Operand} (h : o.op = .binOp .shr t x y ty) {k k' : IntKind} {a b : Int} (hx : S.val [] x = .c (.int k a)) (hy : S.val [] y = .c (.int k' b)) (hb : 0 ≤ b) : St1 F T o S { v := .c (.int k (a.fdiv (2 ^ min b.toNat k.bits))), use := opTmps [x, y] } := sPure _ _ fun _ S' h1 h2 =>
  ok_shr h (vc h1 (by simp) hx) (vc h1 (by simp) hy) hb
theorem sQu {t ty : TypeId} {x y : Operand} (h : o.op = .binOp .quo t x y ty) {k : IntKind} {a b : Int} (hx : S.val [] x = .c (.int k a)) (hy : S.val [] y = .c (.int k b)) (hb : b ≠ 0) : St1 F T o S { v := .c (.int k (k.wrap (a.tdiv b))), use := opTmps [x, y] } := sPure _ _ fun _ S' h1 h2 =>
  ok_quo (op := .quo) h (vc h1 (by simp) hx) (vc h1 (by simp) hy) hb
theorem sRe {t ty : TypeId} {x y : Operand} (h : o.op = .binOp .rem t x y ty) {k : IntKind} {a b : Int} (hx : S.val [] x = .c (.int k a)) (hy : S.val [] y = .c (.int k b)) (hb : b ≠ 0) : St1 F T o S { v := .c (.int k (a.tmod b)), use := opTmps [x, y] } := sPure _ _ fun _ S' h1 h2 =>
  ok_rem h (vc h1 (by simp) hx) (vc h1 (by simp) hy) hb
theorem sNt {t : TypeId} {x : Operand} (h : o.op = .unOp .not t x) {b : Bool} (hx : S.val [] x = .c (.bool b)) : St1 F T o S { v := .c (.bool !b), use := opTmps [x] } := sPure _ _ fun _ S' h1 h2 =>
  ok_not h (vc h1 (by simp) hx)
theorem sNg {t : TypeId} {x : Operand} (h : o.op = .unOp .neg t x) {k : IntKind} {n : Int} (hx : S.val [] x = .c (.int k n)) : St1 F T o S { v := .c (.int k (k.wrap (0 - n))), use := opTmps [x] } := sPure _ _ fun _ S' h1 h2 =>
  ok_neg h (vc h1 (by simp) hx)
theorem sCv {s t : TypeId} {x : Operand} (h : o.op = .convert s t x) {i j : TI} (hi : tg T s = some i) (hj : tg T t = some j) {k k' : IntKind} (hik : i.k = .int k') (hjk : j.k = .int k) {n : Int} (hx : S.val [] x = .c (.int k' n)) : St1 F T o S { v := .c (.int k (k.wrap n)), use := opTmps [x] } := sPure _ _ fun he S' h1 h2 =>
  ok_convI h he.tab hi hj hik hjk (vc h1 (by simp) hx)
theorem sStrE {op : BinOp} {t ty : TypeId} {x y : Operand} (h : o.op = .binOp op t x y ty) (hop : op = .eql ∨ op = .neq) {a b : ByteArray} (hx : S.val [] x = .c (.str a)) (hy : S.val [] y = .c (.str b)) : St1 F T o S { v := .c (.bool (if op = .eql then a.toList == b.toList else !(a.toList == b.toList))), use := opTmps [x, y] } := sPure _ _ fun _ S' h1 h2 =>
  ok_strEq h hop (vc h1 (by simp) hx) (vc h1 (by simp) hy)
theorem sFP {s f : Nat} {x : Operand} (h : o.op = .fieldAddr s x f) {id ver k j off : Nat} (hx : S.val [] x = .c (.ptr id ver k j)) (hf : fOff T s f = some off) : St1 F T o S { v := .c (.ptr id ver k (j + off)), use := opTmps [x] } := sPure _ _ fun he S' h1 h2 =>
  ok_fieldP he.tab h (vc h1 (by simp) hx) hf
theorem sFI {s f : Nat} {x : Operand} (h : o.op = .fieldAddr s x f) {es k j off : Nat} {xs : List (List V)} (hx : S.val [] x = .c (.ip es xs k j)) (hf : fOff T s f = some off) : St1 F T o S { v := .c (.ip es xs k (j + off)), use := opTmps [x] } := sPure _ _ fun he S' h1 h2 =>
  ok_fieldI he.tab h (vc h1 (by simp) hx) hf
theorem sIO {t : Nat} {x ix : Operand} (h : o.op = .indexAddr t x ix) {id ver off len : Nat} {k : IntKind} {i : Int} (hx : S.val [] x = .c (.own id ver off len)) (hi : S.val [] ix = .c (.int k i)) {B : Blk} (hB : S.H id = some B) (hver : B.ver = ver) (hes : eSize T t = some B.es) (hb : 0 ≤ i ∧ i < len) : St1 F T o S { v := .c (.ptr id ver (off + i.toNat) 0), use := opTmps [x, ix], ids := [id] } := sPure _ _ fun he S' h1 h2 =>
  ok_indexO he.tab h (vc h1 (by simp) hx) (vc h1 (by simp) hi) (by rw [(h2 id (by simp)).1]; exact hB) hver hes hb.1 hb.2
theorem sIR {t : Nat} {x ix : Operand} (h : o.op = .indexAddr t x ix) {es : Nat} {xs : List (List V)} {k : IntKind} {i : Int} (hx : S.val [] x = .c (.row false es xs)) (hi : S.val [] ix = .c (.int k i)) (hes : eSize T t = some es) (hb : 0 ≤ i ∧ i < xs.length) : St1 F T o S { v := .c (.ip es xs i.toNat 0), use := opTmps [x, ix] } := sPure _ _ fun he S' h1 h2 =>
  ok_indexR he.tab h (vc h1 (by simp) hx) (vc h1 (by simp) hi) hes hb.1 hb.2 rfl
theorem sLn {t : Nat} {x : Operand} (h : o.op = .call { callee := .builtin .len, args := #[x], argTypes := #[t] }) {ti : TI} (ht : tg T t = some ti) {e : Nat} (hk : ti.k = .slice e) {ob : Bool} {es : Nat} {xs : List (List V)} (hx : S.val [] x = .c (.row ob es xs)) : St1 F T o S { v := .c (.int .i64 xs.length), use := opTmps [x] } := sPure _ _ fun he S' h1 h2 =>
  ok_len he.tab h ht [] (.inl ⟨e, hk, .inr ⟨ob, es, xs, vc h1 (by simp) hx, rfl⟩⟩)
theorem sLo {t : Nat} {x : Operand} (h : o.op = .call { callee := .builtin .len, args := #[x], argTypes := #[t] }) {ti : TI} (ht : tg T t = some ti) {e : Nat} (hk : ti.k = .slice e) {id ver off n : Nat} (hx : S.val [] x = .c (.own id ver off n)) : St1 F T o S { v := .c (.int .i64 n), use := opTmps [x] } := sPure _ _ fun he S' h1 h2 =>
  ok_len he.tab h ht [] (.inl ⟨e, hk, .inl ⟨id, ver, off, vc h1 (by simp) hx⟩⟩)
theorem sLs {t : Nat} {x : Operand} (h : o.op = .call { callee := .builtin .len, args := #[x], argTypes := #[t] }) {ti : TI} (ht : tg T t = some ti) (hk : ti.k = .str) {s : ByteArray} (hx : S.val [] x = .c (.str s)) : St1 F T o S { v := .c (.int .i64 s.size), use := opTmps [x] } := sPure _ _ fun he S' h1 h2 =>
  ok_len he.tab h ht [] (.inr ⟨hk, s, vc h1 (by simp) hx, rfl⟩)
theorem sEx {x : Operand} {n : Nat} (h : o.op = .extract x n) {xs : List A} {v : A} (hx : S.val [] x = .t xs) (hv : xs[n]? = some v) : St1 F T o S { v, use := opTmps [x] } := sPure _ _ fun he S' h1 h2 =>
  ok_extract h (vc h1 (by simp) hx) hv
theorem sSlR {t : Nat} {x : Operand} {lo hi : Option Operand} (h : o.op = .slice t x lo hi none) {es : Nat} {xs : List (List V)} {l hh : Int} (hx : S.val [] x = .c (.row false es xs)) (hes : eSize T t = some es)
    (hl : bnd S 0 lo = some l) (hr : bnd S xs.length hi = some hh) (hb : 0 ≤ l ∧ l ≤ hh ∧ hh ≤ xs.length) : St1 F T o S { v := .c (.row false es ((xs.drop l.toNat).take (hh - l).toNat)), use := opTmps ([x] ++ lo.toList ++ hi.toList) } := sPure _ _ fun he S' h1 h2 => by
  have key : ∀ (d : Int) (y : Option Operand) (n : Int), (∀ z ∈ y.toList, z ∈ [x] ++ lo.toList ++ hi.toList) → bnd S d y = some n → bnd S' d y = some n := by
    intro d y n hy hn
    cases y with
    | none => exact hn
    | some z =>
      unfold bnd at hn ⊢
      simp only at hn ⊢
      rw [val_congr (hy z (by simp)) h1]
      exact hn
  exact ok_cutR he.tab h (vc h1 (by simp) hx) hes (key _ _ _ (fun z hz => by simp at hz ⊢; simp [hz]) hl) (key _ _ _ (fun z hz => by simp at hz ⊢; simp [hz]) hr) hb.1 hb.2.1 hb.2.2
/-- A load from a block, at a place that is known. -/
def ldF (T : Tab) (S : St) (t : Nat) (x : Operand) : Option (A × Nat) :=
  match S.val [] x with
  | .c (.ptr id ver k j) => match tg T t, S.H id with
    | some ti, some B => match B.xs[k]? with
      | some y => match Nat.decEq B.ver ver, Nat.ble (j + ti.size) y.length, ((y.drop j).take ti.size).all (fun v => !isRowT v) with
        | .isTrue _, true, true => match wrapA ti.k.agg ((y.drop j).take ti.size) with
          | some u => some (u, id)
          | none => none
        | _, _, _ => none
      | none => none
    | _, _ => none
  | _ => none
theorem sLd {t : TypeId} {x : Operand} (h : o.op = .load t x) {u : A} {id : Nat} (hf : ldF T S t x = some (u, id)) : St1 F T o S { v := u, use := opTmps [x], ids := [id] } := fun he hd => by
  unfold ldF at hf
  split at hf
  · rename_i id' ver k j hx
    split at hf
    · rename_i ti B ht hB
      split at hf
      · rename_i y hy
        split at hf
        · rename_i _ _ _ hver _ hj hn
          split at hf
          · rename_i u' hw
            simp only [Option.some.injEq, Prod.mk.injEq] at hf
            obtain ⟨rfl, rfl⟩ := hf
            exact step_load he.tab h hd ht hx hB hver hy (Nat.le_of_ble_eq_true hj) hw hn
          · cases hf
        · cases hf
      · cases hf
    · cases hf
  · cases hf
/-- .. from an element of a block, y. -/
theorem sLk {t : TypeId} {x : Operand} (h : o.op = .load t x) {ti : TI} {id ver k j : Nat} {B : Blk} {y : List V} {u : A} (hx : S.val [] x = .c (.ptr id ver k j)) (ht : tg T t = some ti) (hB : S.H id = some B) (hver : B.ver = ver)
    (hy : B.xs[k]? = some y) (hj : Nat.ble (j + ti.size) y.length = true) (hw : wrapA ti.k.agg ((y.drop j).take ti.size) = some u) (hn : ((y.drop j).take ti.size).all (fun v => !isRowT v) = true) : St1 F T o S { v := u, use := opTmps [x], ids := [id] } := fun he hd =>
  step_load he.tab h hd ht hx hB hver hy (Nat.le_of_ble_eq_true hj) hw hn
/-- .. from an element, y, of a row that is read alone. -/
theorem sLI {t : TypeId} {x : Operand} (h : o.op = .load t x) {es k j : Nat} {xs : List (List V)} (hx : S.val [] x = .c (.ip es xs k j)) (y : List V) (hy : xs[k]? = some y) {ti : TI} {u : A} (ht : tg T t = some ti)
    (hj : Nat.ble (j + ti.size) y.length = true) (hw : wrapA ti.k.agg ((y.drop j).take ti.size) = some u) : St1 F T o S { v := u, use := opTmps [x] } := fun he hd =>
  step_loadI he.tab h hd ht hx hy (Nat.le_of_ble_eq_true hj) hw
/-- A store into a block, at a place that is known. -/
def stF (T : Tab) (S : St) (t : Nat) (x : Operand) (u : A) : Option (Nat × Blk) :=
  match S.val [] x with
  | .c (.ptr id ver k j) => match tg T t, S.H id with
    | some ti, some B => match B.xs[k]? with
      | some row => match Nat.decEq B.ver ver, Nat.ble (j + ti.size) row.length, okPart u, okCells u.cells, Nat.decEq u.cells.length ti.size with
        | .isTrue _, true, true, true, .isTrue _ => some (id, ⟨B.ver, B.es, B.xs.set k (putL row j u.cells)⟩)
        | _, _, _, _, _ => none
      | none => none
    | _, _ => none
  | _ => none
theorem sSt {t : TypeId} {x y : Operand} (h : o.op = .store t x y) (hd0 : o.dst = none) (sh : List Nat) {u : A} (hy : S.val sh y = u) {id : Nat} {B' : Blk} (hf : stF T S t x u = some (id, B')) : St1 F T o S { v := .c .undef, upd := [(id, some B')], use := opTmps [x, y], ids := [id] } := fun he _ => by
  unfold stF at hf
  split at hf
  · rename_i id' ver k j hx
    split at hf
    · rename_i ti B ht hB
      split at hf
      · rename_i row hr
        split at hf
        · rename_i _ _ _ _ _ hver hul _ hj hu huc _
          simp only [Option.some.injEq, Prod.mk.injEq] at hf
          obtain ⟨rfl, rfl⟩ := hf
          exact step_store he.tab h hd0 ht hx sh hy hu huc hul hB hver hr (Nat.le_of_ble_eq_true hj)
        · cases hf
      · cases hf
    · cases hf
  · cases hf
/-- .. into an element of a block, row. -/
theorem sSk {t : TypeId} {x y : Operand} (h : o.op = .store t x y) (hd0 : o.dst = none) (sh : List Nat) {u : A} (hy : S.val sh y = u) {id ver k j : Nat} (hx : S.val [] x = .c (.ptr id ver k j)) (row : List V) {B : Blk} {ti : TI} (hB : S.H id = some B) (hr : B.xs[k]? = some row) (hver : B.ver = ver) (ht : tg T t = some ti) (hu : okPart u = true) (huc : okCells u.cells = true) (hul : u.cells.length = ti.size)
    (hj : Nat.ble (j + ti.size) row.length = true) : St1 F T o S { v := .c .undef, upd := [(id, some ⟨B.ver, B.es, B.xs.set k (putL row j u.cells)⟩)], use := opTmps [x, y], ids := [id] } := fun he _ =>
  step_store he.tab h hd0 ht hx sh hy hu huc hul hB hver hr (Nat.le_of_ble_eq_true hj)
theorem sBx {t : TypeId} {x : Operand} (h : o.op = .box t x) (sh : List Nat) {u : A} (hx : S.val sh x = u) (hu : okPart u = true) (id : Nat) (hid : Nat.ble 100 id = true) :
    St1 F T o S { v := .c (.ptr id (S.nv id) 0 0), upd := [(id, some ⟨S.nv id, u.cells.length, [u.cells]⟩)], bump := [id], use := opTmps [x], ids := [id] } := fun he hd =>
  step_box h hd sh hx hu id (Nat.le_trans he.m (Nat.le_of_ble_eq_true hid))
theorem sAl {t : TypeId} (h : o.op = .alloc t) {ti : TI} (ht : tg T t = some ti) (id : Nat) (hid : Nat.ble 100 id = true) :
    St1 F T o S { v := .c (.ptr id (S.nv id) 0 0), upd := [(id, some ⟨S.nv id, ti.zero.length, [ti.zero]⟩)], bump := [id], use := [], ids := [id] } := fun he hd =>
  step_alloc he.tab h hd ht id (Nat.le_trans he.m (Nat.le_of_ble_eq_true hid))
theorem sCl {x : Operand} {xs : Array Operand} {ats : Array TypeId} (h : o.op = .call ⟨.value x, xs, ats⟩) {f : FuncId} {caps : List V} (hx : S.val [] x = .c (.fn f caps))
    (lent : Bool) (io news L : List Nat) (keep : List Bool) {args : List A} {H0 : List Blk} {res : A} {H1 : List Blk} (hf : FnOk F.P f) (hsp : Sp F.P f args H0 res H1)
    (hargs : (argsOf S xs caps).map (A.low lent io (onlyIn L S.H)) = args) (hH0 : inB lent io (onlyIn L S.H) = H0)
    (hnd : (io ++ news).Nodup) (hlive : ∀ id ∈ io, (onlyIn L S.H id).isSome = true) (hL : ∀ id ∈ io ++ news, id ∈ L)
    (hnew : ∀ id ∈ news, 100 ≤ id) (hlen : (io ++ news).length = H1.length) (hkl : keep.length = (io ++ news).length)
    (hkeep : ∀ i, keep[i]? = some true → i < io.length ∧ ∀ id B B', (io ++ news)[i]? = some id → S.H id = some B → H1[i]? = some B' → B.es = B'.es ∧ B.xs.length = B'.xs.length) :
    St1 F T o S { v := res.backT lent (io ++ news) (verL S (io ++ news) keep), upd := updL lent (io ++ news) (verL S (io ++ news) keep) (io ++ news) H1, bump := bumpL (io ++ news) keep, use := opTmps (x :: xs.toList), ids := L } := fun he hd =>
  step_call h hd hx hf lent io news L keep hsp hargs hH0 hnd hlive hL (fun id hi => Nat.le_trans he.m (hnew id hi)) hlen hkl hkeep
/-- A call that is handed no block and makes none that outlives it. -/
theorem sC0 {x : Operand} {xs : Array Operand} {ats : Array TypeId} (h : o.op = .call ⟨.value x, xs, ats⟩) {f : FuncId} {caps : List V} (hx : S.val [] x = .c (.fn f caps)) {args : List A} {res v : A} (hargs : (argsOf S xs caps).map (A.low false [] (fun _ => none)) = args) (hf : FnOk F.P f) (hsp : Sp F.P f args [] res []) (hv : res.backT false [] (fun _ => 0) = v) :
    St1 F T o S { v, use := opTmps (x :: xs.toList) } := fun he hd => by
  have ho : onlyIn [] S.H = fun _ => none := by funext id; simp [onlyIn]
  have := step_call h hd hx hf false [] [] [] [] (args := args) (H0 := []) (res := res) (H1 := []) hsp (by rw [ho]; exact hargs) rfl (by simp) (by simp) (by simp) (by simp) rfl rfl (fun i hi => by simp at hi)
  have e : verL S ([] ++ []) [] = fun _ => 0 := rfl
  rw [e] at this
  rw [← hv]
  exact this
/-- .. whose arguments hold what the caller owns; what it gives shares nothing with them. -/
theorem sC1 {x : Operand} {xs : Array Operand} {ats : Array TypeId} (h : o.op = .call ⟨.value x, xs, ats⟩) {f : FuncId} {caps : List V} (hx : S.val [] x = .c (.fn f caps)) (L : List Nat) {args : List A} {res v : A} (hargs : (argsOf S xs caps).map (A.low true [] (onlyIn L S.H)) = args) (hf : FnOk F.P f) (hsp : Sp F.P f args [] res []) (hv : res.backT true [] (fun _ => 0) = v) :
    St1 F T o S { v, use := opTmps (x :: xs.toList), ids := L } := fun he hd => by
  have := step_call h hd hx hf true [] [] L [] (args := args) (H0 := []) (res := res) (H1 := []) hsp hargs rfl (by simp) (by simp) (by simp) (by simp) rfl rfl (fun i hi => by simp at hi)
  have e : verL S ([] ++ []) [] = fun _ => 0 := rfl
  rw [e] at this
  rw [← hv]
  exact this
end

/-! ### Regions -/
def fitsB (N : Nat) (ops : List Oper) : Bool := ops.all fun o => match o.dst with | some d => decide (d < N) | none => true
theorem fits_of {F : Fr} {ops : Array Oper} (h : fitsB F.N ops.toList = true) : Fits F ops := by
  intro i o ho d hd
  have := List.all_eq_true.1 h o (by simpa using Array.mem_of_getElem? ho)
  rw [hd] at this
  simpa using this

theorem W_reg {F : Fr} {T : Tab} {S : St} {Q : Exit → St → Prop} {id : Nat} {ops : List Oper} (he : Env F T) (hf : fitsB F.N ops = true) (h : VT F T ops.toArray 0 S ops (fun _ S' => Q .normal S')) : W F (.region id ops.toArray false) S Q := by
  obtain ⟨rs, S', t, hq⟩ := h he (fits_of (by simpa using hf)) (by simp)
  have e : List.range ops.toArray.size = List.range' 0 ops.length := by rw [List.range_eq_range']; simp
  exact W_ops (fits_of (by simpa using hf)) (by rw [e]; exact t) hq
theorem W_regD {F : Fr} {T : Tab} {S : St} {Q : Exit → St → Prop} {id : Nat} {ops : List Oper} (he : Env F T) (hf : fitsB F.N ops = true) (hm : F.P.follows .mixedOrders = true) (hdn : downOk ops.toArray = true) (h : VT F T ops.toArray 0 S ops (fun rs S' => calm ops.toArray rs = true ∧ Q .normal S')) : W F (.region id ops.toArray true) S Q := by
  obtain ⟨rs, S', t, hc, hq⟩ := h he (fits_of (by simpa using hf)) (by simp)
  have e : List.range ops.toArray.size = List.range' 0 ops.length := by rw [List.range_eq_range']; simp
  exact W_draw hm (fits_of (by simpa using hf)) (by rw [e]; exact t) hc hdn hq

/-! ### A plain form -/
def envL : List (Nat × A) → Nat → A
  | [], _ => .c .undef
  | (t, v) :: r, x => if x = t then v else envL r x
def memL : List (Nat × Blk) → Nat → Option Blk
  | [], _ => none
  | (t, B) :: r, x => if x = t then some B else memL r x
def StL (l : List (Nat × A)) (h : List (Nat × Blk)) : St := ⟨envL l, memL h, fun _ => 1⟩

/-- References with versions from 0 on. -/
def V.can1 (H : Nat → Option Blk) : V → V
  | .own id ver off len => match H id with | some B => if B.ver = ver then .own id 0 off len else .undef | none => .undef
  | .ptr id ver k j => match H id with | some B => if B.ver = ver then .ptr id 0 k j else .undef | none => .undef
  | .fn _ _ => .undef
  | v => v
def V.can (H : Nat → Option Blk) : V → V
  | .fn f caps => .fn f (caps.map (V.can1 H))
  | v => v.can1 H
def A.can (H : Nat → Option Blk) : A → A
  | .c v => .c (v.can H)
  | .g cs => .g (cs.map (V.can H))
  | .t _ => .c .undef
def keepE (S : St) : List Nat → List (Nat × A)
  | [] => []
  | t :: r => (t, (S.env t).can S.H) :: keepE S r
def keepH (S : St) : List Nat → List (Nat × Blk)
  | [] => []
  | t :: r => match S.H t with
    | some B => (t, ⟨0, B.es, B.xs.map fun x => x.map (V.can S.H)⟩) :: keepH S r
    | none => keepH S r

theorem memL_keepH {S : St} {l : List Nat} {id : Nat} {B : Blk} (h : memL (keepH S l) id = some B) : ∃ B0, S.H id = some B0 ∧ B = ⟨0, B0.es, B0.xs.map fun x => x.map (V.can S.H)⟩ := by
  induction l with
  | nil => cases h
  | cons t r ih =>
    unfold keepH at h
    cases e : S.H t with
    | none => rw [e] at h; exact ih h
    | some B0 =>
      rw [e] at h
      simp only [memL] at h
      by_cases et : id = t
      · subst et
        rw [if_pos rfl] at h
        exact ⟨B0, e, (Option.some.inj h).symm⟩
      · rw [if_neg et] at h
        exact ih h

section
variable {w : World} {σ : Nat → List Nat} {β : Nat → Option (Nat × Nat × Nat)} {S : St} {lh : List Nat} {env' : Nat → A}
theorem can1_ok {p : List Nat} {v : V} {c : Value} (h : RV (S.cx w σ β) p v c) : RV ((⟨env', memL (keepH S lh), fun _ => 1⟩ : St).cx w σ β) p (v.can1 S.H) c := by
  cases h with
  | c h =>
    have : V.can1 S.H v = v := by cases h <;> rfl
    rw [this]
    exact .c h
  | own p id ver off len A n cap hn hver hcap hmax h =>
    simp only [V.can1]
    cases e : S.H id with
    | none => exact .undef _ _
    | some B0 =>
      simp only
      by_cases ev : B0.ver = ver
      · rw [if_pos ev]
        refine .own _ _ _ _ _ _ _ _ hn Nat.zero_lt_one hcap hmax fun B hB _ => ?_
        obtain ⟨B1, h1, rfl⟩ := memL_keepH hB
        rw [e] at h1
        cases h1
        obtain ⟨h2, h3⟩ := h B0 e ev
        exact ⟨by simpa using h2, h3⟩
      · rw [if_neg ev]; exact .undef _ _
  | ptr p id ver k j a hver h =>
    simp only [V.can1]
    cases e : S.H id with
    | none => exact .undef _ _
    | some B0 =>
      simp only
      by_cases ev : B0.ver = ver
      · rw [if_pos ev]
        refine .ptr _ _ _ _ _ _ Nat.zero_lt_one fun B hB _ => ?_
        obtain ⟨B1, h1, rfl⟩ := memL_keepH hB
        rw [e] at h1
        cases h1
        exact h B0 e ev
      · rw [if_neg ev]; exact .undef _ _
  | ip p es xs k j b off n cap h => exact .ip _ _ _ _ _ _ _ _ _ h
  | fn p f caps cs cv hs h1 h2 => exact .undef _ _
  | skip p => exact .skip _
  | undef p v => exact .undef _ _
theorem can_ok {p : List Nat} {v : V} {c : Value} (h : RV (S.cx w σ β) p v c) : RV ((⟨env', memL (keepH S lh), fun _ => 1⟩ : St).cx w σ β) p (v.can S.H) c := by
  cases h with
  | fn p f caps cs cv hs h1 h2 =>
    refine .fn _ _ _ _ cv (by simpa using hs) (fun i v hi => ?_) (fun i v hi => ?_)
    · rw [List.getElem?_map] at hi
      obtain ⟨v0, h3, rfl⟩ := Option.map_eq_some_iff.1 hi
      exact h1 i v0 h3
    · rw [List.getElem?_map] at hi
      obtain ⟨v0, h3, rfl⟩ := Option.map_eq_some_iff.1 hi
      exact can1_ok (h2 i v0 h3)
  | c h =>
    have := can1_ok (lh := lh) (env' := env') (S := S) (β := β) (.c (E := S.cx w σ β) h)
    cases h <;> exact this
  | own p id ver off len A n cap hn hver hcap hmax h => exact can1_ok (.own _ _ _ _ _ _ _ _ hn hver hcap hmax h)
  | ptr p id ver k j a hver h => exact can1_ok (.ptr _ _ _ _ _ _ hver h)
  | ip p es xs k j b off n cap h => exact can1_ok (.ip _ _ _ _ _ _ _ _ _ h)
  | skip p => exact .skip _
  | undef p v => exact .undef _ _
theorem canA_ok {x : A} {c : Value} (h : RA (S.cx w σ β) x c) : RA ((⟨env', memL (keepH S lh), fun _ => 1⟩ : St).cx w σ β) (x.can S.H) c := by
  cases h with
  | c h => exact .c (can_ok h)
  | g cs arr hs h =>
    refine .g _ _ (by simpa using hs) fun i v hi => ?_
    rw [List.getElem?_map] at hi
    obtain ⟨v0, h3, rfl⟩ := Option.map_eq_some_iff.1 hi
    obtain ⟨c, h1, h2⟩ := h i v0 h3
    exact ⟨c, h1, can_ok h2⟩
  | t xs arr cv hs h1 h2 => exact .c (.undef _ _)
theorem envL_keepE (lt : List Nat) (t : Nat) : (∃ x, envL (keepE S lt) t = x ∧ x = (S.env t).can S.H) ∨ envL (keepE S lt) t = .c .undef := by
  induction lt with
  | nil => exact .inr rfl
  | cons y r ih =>
    simp only [keepE, envL]
    by_cases e : t = y
    · subst e; rw [if_pos rfl]; exact .inl ⟨_, rfl, rfl⟩
    · rw [if_neg e]; exact ih
end

theorem RSx.can {F : Fr} {S : St} {a : Act} {w : World} {σ : Nat → List Nat} {β : Nat → Option (Nat × Nat × Nat)} (hs : RSx F S a w σ β) (lt lh : List Nat) : RSx F (StL (keepE S lt) (keepH S lh)) a w σ β := by
  refine ⟨⟨?_, fun id B hB => ?_, hs.hr.new⟩, hs.mpos, hs.kp, hs.inn, fun t => ?_⟩
  · cases e : memL (keepH S lh) 0 with
    | none => exact e
    | some B =>
      obtain ⟨B0, h, _⟩ := memL_keepH e
      have h0 : S.H 0 = none := hs.hr.far
      rw [h0] at h; cases h
  · obtain ⟨B0, h, rfl⟩ := memL_keepH hB
    refine ⟨Nat.zero_lt_one, ?_⟩
    have hbr := (hs.hr.blk id B0 h).2
    cases e : β id with
    | none => exact .mk_void e (by simp [hbr.void e])
    | some q =>
      obtain ⟨b, o, n⟩ := q
      obtain ⟨h1, h2, h3, arr, T, h4, h5, h6⟩ := hbr.some e
      refine .mk e ⟨h1, ?_, by simpa using h3, arr, T, h4, h5, fun k j x v hk hj => ?_⟩
      · intro x hx
        obtain ⟨x0, q1, rfl⟩ := List.mem_map.1 hx
        simpa using h2 x0 q1
      · simp only [List.getElem?_map] at hk
        obtain ⟨x0, q1, rfl⟩ := Option.map_eq_some_iff.1 hk
        rw [List.getElem?_map] at hj
        obtain ⟨v0, q2, rfl⟩ := Option.map_eq_some_iff.1 hj
        obtain ⟨c, q3, q4⟩ := h6 k j x0 v0 q1 q2
        exact ⟨c, q3, can_ok q4⟩
  · rcases envL_keepE (S := S) lt t with ⟨x, h1, h2⟩ | h1
    · show RA _ (envL (keepE S lt) t) _
      rw [h1, h2]
      exact canA_ok (hs.env t)
    · show RA _ (envL (keepE S lt) t) _
      rw [h1]
      exact .c (.undef _ _)
theorem W_can {F : Fr} {c : Code} {S : St} {Q : Exit → St → Prop} (lt lh : List Nat) {l : List (Nat × A)} {h : List (Nat × Blk)} (h1 : keepE S lt = l) (h2 : keepH S lh = h) (k : W F c (StL l h) Q) : W F c S Q := by
  subst h1; subst h2
  rintro a w ⟨hd, hsz, σ, β, hs⟩
  exact k a w ⟨hd, hsz, σ, β, hs.can lt lh⟩
/-- The end of a call that leaves no block. -/
theorem R0 {F : Fr} {S : St} {T : Tab} {l : List ResultVar} {u res : A} (h : resAll T S l = some u) (hu : u.lowT false [] S.H = res) : W F .ret S (Ret T l 0 res []) :=
  W_ret ⟨.inr rfl, [], u, .nil, fun i hi => absurd hi (Nat.not_lt_zero _), fun id hi => absurd hi (by simp), h, hu, rfl⟩
/-- .. that leaves the blocks outs. -/
theorem R1 {F : Fr} {S : St} {T : Tab} {l : List ResultVar} {n0 : Nat} (outs : List Nat) {u res : A} {H1 : List Blk} (h : resAll T S l = some u) (hu : u.lowT false outs S.H = res) (hH : outB outs S.H = H1) (hd : outs.Nodup) (hio : ∀ i, i < n0 → outs[i]? = some (i + 1)) (hlive : outs.all (fun id => (S.H id).isSome) = true) : W F .ret S (Ret T l n0 res H1) :=
  W_ret ⟨.inr rfl, outs, u, hd, hio, fun id hi => List.all_eq_true.1 hlive id hi, h, hu, hH⟩
end Go.Eng
