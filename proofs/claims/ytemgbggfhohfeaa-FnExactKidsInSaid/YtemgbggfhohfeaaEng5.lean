/- Types by a table; operands; operations that neither read nor set a block. -/
import Derived.Test.YtemgbggfhohfeaaEng4
import Derived.Laws.Entries
set_option linter.unusedVariables false
set_option linter.unusedSimpArgs false
namespace Go.Eng

/-! ### Types -/
inductive TK where
  | int (k : IntKind) | bool | str
  | slice (e : Nat) | ptr (e : Nat)
  | struct (fs : List (Nat × Nat))
  | array (n e : Nat)
  | other
/-- size: cells; sh: of each cell, if it is a slice, the cells of its element; zero: its zero value. -/
structure TI where
  size : Nat
  bytes : Nat
  k : TK
  sh : List Nat
  zero : List V

def okC : V → Value → Bool
  | .int k n, .int k' n' => decide (k = k') && decide (n = n')
  | .bool b, .bool b' => b == b'
  | .str s, .string s' => decide (s = s')
  | .row true _ [], .slice none n c => decide (n = 0) && decide (c = 0)
  | .nilp, .pointer none => true
  | .undef, _ => true
  | _, _ => false
def okCs : List V → List Value → Bool
  | [], [] => true
  | v :: r, c :: s => okC v c && okCs r s
  | _, _ => false
def okK : TypeDesc → TK → Bool
  | .int k, .int k' => decide (k = k')
  | .bool, .bool => true
  | .string, .str => true
  | .slice e, .slice e' => decide (e = e')
  | .pointer e, .ptr e' => decide (e = e')
  | .struct fs, .struct gs => decide (fs.toList.map (fun f => (f.offset, f.type)) = gs)
  | .array n e, .array n' e' => decide (n = n') && decide (e = e')
  | .array .., .other => false
  | .struct .., .other => false
  | _, .other => true
  | _, _ => false
def TK.agg : TK → Bool
  | .struct _ | .array _ _ => true
  | _ => false
def okTI (P : Program) (t : Nat) (i : TI) : Bool :=
  match P.info? t, P.underlying t with
  | some inf, some d => decide (inf.size = i.size) && decide (inf.bytes = i.bytes) && okK d i.k &&
      (match inf.zero with
       | some z => okCs i.zero z.cells.toList && (match z with | .agg _ => i.k.agg | .tuple _ => false | _ => !i.k.agg)
       | none => false)
  | _, _ => false

abbrev Tab := List (Nat × TI)
def tg : Tab → Nat → Option TI
  | [], _ => none
  | (t, i) :: r, n => if t = n then some i else tg r n
def TabOk (P : Program) (T : Tab) : Prop := ∀ p ∈ T, okTI P p.1 p.2 = true
theorem tg_mem {T : Tab} {t : Nat} {i : TI} (h : tg T t = some i) : (t, i) ∈ T := by
  induction T with
  | nil => simp [tg] at h
  | cons p r ih =>
    obtain ⟨t', i'⟩ := p
    rw [tg] at h
    split at h
    · rename_i e; subst e; cases h; exact List.mem_cons_self
    · exact List.mem_cons_of_mem _ (ih h)
theorem TabOk.of_all {P : Program} {T : Tab} (h : T.all (fun p => okTI P p.1 p.2) = true) : TabOk P T := fun p hp => List.all_eq_true.1 h p hp

/-- What the table's row says of the program's type. -/
structure Ty (P : Program) (t : Nat) (i : TI) : Prop where
  inf : ∃ inf, P.info? t = some inf ∧ inf.size = i.size ∧ inf.bytes = i.bytes ∧ ∃ z, inf.zero = some z ∧ okCs i.zero z.cells.toList = true ∧ (z.oneCell' = !i.k.agg)
  und : ∃ d, P.underlying t = some d ∧ okK d i.k = true
theorem TabOk.ty {P : Program} {T : Tab} (h : TabOk P T) {t : Nat} {i : TI} (ht : tg T t = some i) : Ty P t i := by
  have := h _ (tg_mem ht)
  simp only [okTI] at this
  cases e1 : P.info? t with
  | none => rw [e1] at this; simp at this
  | some inf =>
    cases e2 : P.underlying t with
    | none => rw [e1, e2] at this; simp at this
    | some d =>
      rw [e1, e2] at this
      simp only [Bool.and_eq_true, decide_eq_true_eq] at this
      obtain ⟨⟨⟨h1, h2⟩, h3⟩, h4⟩ := this
      cases e3 : inf.zero with
      | none => rw [e3] at h4; simp at h4
      | some z =>
        rw [e3] at h4
        simp only [Bool.and_eq_true] at h4
        refine ⟨⟨inf, e1, h1, h2, z, e3, h4.1, ?_⟩, d, e2, h3⟩
        have h5 := h4.2
        cases z <;> simp_all [Value.oneCell']

theorem Ty.sizeOf {P : Program} {t : Nat} {i : TI} (h : Ty P t i) (w : World) : (Go.sizeOf t).run P w = .ok i.size w := by
  obtain ⟨inf, h1, h2, _⟩ := h.inf
  simp [Go.sizeOf, typeInfo, h1, h2]
theorem Ty.info {P : Program} {t : Nat} {i : TI} (h : Ty P t i) (w : World) : ∃ inf, (typeInfo t).run P w = .ok inf w ∧ inf.size = i.size ∧ inf.bytes = i.bytes := by
  obtain ⟨inf, h1, h2, h3, _⟩ := h.inf
  exact ⟨inf, by simp [typeInfo, h1], h2, h3⟩
theorem Ty.zero {P : Program} {t : Nat} {i : TI} (h : Ty P t i) (w : World) : ∃ z, (zeroValue t).run P w = .ok z w ∧ okCs i.zero z.cells.toList = true ∧ z.oneCell' = !i.k.agg := by
  obtain ⟨inf, h1, h2, h3, z, h4, h5, h6⟩ := h.inf
  exact ⟨z, by simp [zeroValue, typeInfo, h1, h4], h5, h6⟩
theorem Ty.slice {P : Program} {t e : Nat} {i : TI} (h : Ty P t i) (hk : i.k = .slice e) : P.underlying t = some (.slice e) := by
  obtain ⟨d, h1, h2⟩ := h.und
  rw [hk] at h2
  cases d <;> simp_all [okK]
theorem Ty.ptr {P : Program} {t e : Nat} {i : TI} (h : Ty P t i) (hk : i.k = .ptr e) : P.underlying t = some (.pointer e) := by
  obtain ⟨d, h1, h2⟩ := h.und
  rw [hk] at h2
  cases d <;> simp_all [okK]
theorem Ty.str {P : Program} {t : Nat} {i : TI} (h : Ty P t i) (hk : i.k = .str) : P.underlying t = some .string := by
  obtain ⟨d, h1, h2⟩ := h.und
  rw [hk] at h2
  cases d <;> simp_all [okK]
theorem Ty.int {P : Program} {t : Nat} {i : TI} {k : IntKind} (h : Ty P t i) (hk : i.k = .int k) : P.underlying t = some (.int k) := by
  obtain ⟨d, h1, h2⟩ := h.und
  rw [hk] at h2
  cases d <;> simp_all [okK]
theorem Ty.array {P : Program} {t n e : Nat} {i : TI} (h : Ty P t i) (hk : i.k = .array n e) : P.underlying t = some (.array n e) := by
  obtain ⟨d, h1, h2⟩ := h.und
  rw [hk] at h2
  cases d <;> simp_all [okK]
theorem Ty.struct {P : Program} {t : Nat} {i : TI} {gs : List (Nat × Nat)} (h : Ty P t i) (hk : i.k = .struct gs) : ∃ fs, P.underlying t = some (.struct fs) ∧ fs.toList.map (fun f => (f.offset, f.type)) = gs := by
  obtain ⟨d, h1, h2⟩ := h.und
  rw [hk] at h2
  cases d with
  | struct fs => exact ⟨fs, h1, by simpa [okK] using h2⟩
  | _ => simp_all [okK]
theorem Ty.isAgg {P : Program} {t : Nat} {i : TI} (h : Ty P t i) (w : World) : (Go.isAgg t).run P w = .ok i.k.agg w := by
  obtain ⟨d, h1, h2⟩ := h.und
  unfold Go.isAgg
  simp only [Sem.run_bind, run_underlying h1, Result.andThen_ok]
  cases d <;> cases hk : i.k <;> simp_all [okK, TK.agg]

/-! ### Operands -/
def constC (es : Nat) : Value → V
  | .bool b => .bool b
  | .int k n => .int k n
  | .string s => .str s
  | .pointer none => .nilp
  | .slice none n c => if n = 0 ∧ c = 0 then .row true es [] else .undef
  | _ => .undef
def constCs (sh : List Nat) : List Value → List V
  | [] => []
  | c :: r => constC (sh.headD 0) c :: constCs sh.tail r
def constA (sh : List Nat) : Value → A
  | .agg cs => .g (constCs sh cs.toList)
  | v => .c (constC (sh.headD 0) v)
def St.val (S : St) (sh : List Nat) : Operand → A
  | .tmp t => S.env t
  | .const v => constA sh v
  | .func f => .c (.fn f [])
  | .global _ => .c .undef
def shOf (T : Tab) (t : Nat) : List Nat := match tg T t with | some i => i.sh | none => []

theorem constC_ok {E : Cx} (es : Nat) (c : Value) : RV E [] (constC es c) c := by
  cases c with
  | bool b => exact .c (.bool _ b)
  | int k n => exact .c (.int _ k n)
  | string s => exact .c (.str _ s)
  | pointer a => cases a with
    | none => exact .c (.nilp _)
    | some a => exact .undef _ _
  | slice a n c => cases a with
    | none =>
      simp only [constC]
      split
      · rename_i h
        obtain ⟨rfl, rfl⟩ := h
        exact .c (RC.none _ _ _ _ _ _)
      · exact .undef _ _
    | some a => exact .undef _ _
  | _ => exact .undef _ _
theorem constCs_len (sh : List Nat) (l : List Value) : (constCs sh l).length = l.length := by
  induction l generalizing sh with
  | nil => rfl
  | cons c r ih => simp [constCs, ih]
theorem constCs_at {E : Cx} (sh : List Nat) (l : List Value) (i : Nat) (v : V) (h : (constCs sh l)[i]? = some v) : ∃ c, l[i]? = some c ∧ RV E [] v c := by
  induction l generalizing sh i with
  | nil => simp [constCs] at h
  | cons c r ih =>
    cases i with
    | zero =>
      simp only [constCs, List.getElem?_cons_zero, Option.some.injEq] at h
      subst h
      exact ⟨c, rfl, constC_ok _ _⟩
    | succ i => simpa using ih sh.tail i (by simpa [constCs] using h)
theorem constA_ok {E : Cx} (sh : List Nat) (c : Value) : RA E (constA sh c) c := by
  cases c with
  | agg cs =>
    refine .g _ cs (by rw [constCs_len]; rfl) fun i v h => ?_
    obtain ⟨c, h1, h2⟩ := constCs_at sh cs.toList i v h
    exact ⟨c, by simpa using h1, h2⟩
  | _ => exact .c (constC_ok _ _)
theorem val_ok {F : Fr} {S : St} {a : Act} {w : World} {σ : Nat → List Nat} {β : Nat → Option (Nat × Nat × Nat)} (h : RSx F S a w σ β) (sh : List Nat) (x : Operand) : RA (S.cx w σ β) (S.val sh x) (a.eval x) := by
  cases x with
  | tmp t => exact h.env t
  | const v => exact constA_ok sh v
  | func f => exact .c (.fn _ f [] #[] (fun _ => default) rfl (fun i v h => by simp at h) (fun i v h => by simp at h))
  | global g => exact .c (.undef _ _)

def opTmps (l : List Operand) : List Tmp := l.filterMap fun | .tmp t => some t | _ => none
theorem val_congr {S S' : St} {x : Operand} {l : List Operand} (hx : x ∈ l) (h : ∀ t ∈ opTmps l, S'.env t = S.env t) (sh : List Nat) : S'.val sh x = S.val sh x := by
  cases x with
  | tmp t => exact h t (List.mem_filterMap.2 ⟨.tmp t, hx, rfl⟩)
  | _ => rfl

/-! ### Operations that leave the world as it is -/
/-- Whatever else the state holds, the operation comes to v. -/
def PureOk (F : Fr) (o : Oper) (S : St) (v : A) : Prop := ∀ (a : Act) (w : World) σ β, RSx F S a w σ β → ∃ val, (execOp a.eval o).run F.P w = .ok (.value val) w ∧ RA (S.cx w σ β) v val

theorem PureOk.step {F : Fr} {o : Oper} {S : St} {v : A} (hd : ∀ d, o.dst = some d → d < F.N) (use : List Tmp) (ids : List Nat)
    (h : ∀ S' : St, (∀ t ∈ use, S'.env t = S.env t) → (∀ i ∈ ids, S'.H i = S.H i ∧ S'.nv i = S.nv i) → PureOk F o S' v) : StepL F o S { v, use, ids } := by
  intro S' h1 h2 a w hs
  obtain ⟨hdf, hsz, σ, β, hx⟩ := hs
  obtain ⟨val, hr, hv⟩ := h S' h1 h2 a w σ β hx
  exact .inl ⟨val, w, hr, by rw [put_defers]; exact hdf, by rw [put_tmps_size]; exact hsz, σ, β, hx.hr, hx.mpos, hx.kp, hx.inn, put_env hsz hx.env hd hv⟩

section
variable {F : Fr} {S : St} {o : Oper}
theorem inv_c {E : Cx} {v : V} {c : Value} (h : RA E (.c v) c) : RV E [] v c := by cases h with | c h => exact h
theorem inv_int {E : Cx} {k : IntKind} {n : Int} {c : Value} (h : RA E (.c (.int k n)) c) : c = .int k n := by
  cases inv_c h with | c h => cases h; rfl
theorem inv_bool {E : Cx} {b : Bool} {c : Value} (h : RA E (.c (.bool b)) c) : c = .bool b := by
  cases inv_c h with | c h => cases h; rfl
theorem inv_str {E : Cx} {s : ByteArray} {c : Value} (h : RA E (.c (.str s)) c) : c = .string s := by
  cases inv_c h with | c h => cases h; rfl
theorem int_ok {E : Cx} (k : IntKind) (n : Int) : RA E (.c (.int k n)) (.int k n) := .c (.c (.int _ k n))
theorem bool_ok {E : Cx} (b : Bool) : RA E (.c (.bool b)) (.bool b) := .c (.c (.bool _ b))
theorem str_ok {E : Cx} (s : ByteArray) : RA E (.c (.str s)) (.string s) := .c (.c (.str _ s))

theorem ok_move {x : Operand} (h : o.op = .move x) (sh : List Nat) : PureOk F o S (S.val sh x) := fun a w σ β hx =>
  ⟨a.eval x, by simp [execOp, h], val_ok hx sh x⟩
theorem ok_assign {x : Operand} (h : o.op = .assign x) (sh : List Nat) : PureOk F o S (S.val sh x) := fun a w σ β hx =>
  ⟨a.eval x, by simp [execOp, h], val_ok hx sh x⟩
theorem ok_pick {c x y : Operand} (h : o.op = .pick c x y) (sh : List Nat) {b : Bool} (hc : S.val [] c = .c (.bool b)) : PureOk F o S (S.val sh (if b then x else y)) := by
  intro a w σ β hx
  have h1 := val_ok hx [] c
  rw [hc] at h1
  have h2 := inv_bool h1
  refine ⟨a.eval (if b then x else y), ?_, val_ok hx sh _⟩
  cases b <;> simp [execOp, h, h2, asBool]

/-- Whole numbers: what the operator gives. -/
def binI (op : BinOp) (k : IntKind) (a b : Int) : Option V :=
  match op with
  | .add => some (.int k (k.wrap (a + b)))
  | .sub => some (.int k (k.wrap (a - b)))
  | .mul => some (.int k (k.wrap (a * b)))
  | .and => some (.int k (k.wrap (BitVec.ofInt k.bits a &&& BitVec.ofInt k.bits b).toNat))
  | .or => some (.int k (k.wrap (BitVec.ofInt k.bits a ||| BitVec.ofInt k.bits b).toNat))
  | .xor => some (.int k (k.wrap (BitVec.ofInt k.bits a ^^^ BitVec.ofInt k.bits b).toNat))
  | .eql => some (.bool (a == b))
  | .neq => some (.bool (a != b))
  | .lss => some (.bool (a < b))
  | .leq => some (.bool (a ≤ b))
  | .gtr => some (.bool (a > b))
  | .geq => some (.bool (a ≥ b))
  | _ => none
theorem ok_binI {op : BinOp} {t ty : TypeId} {x y : Operand} (h : o.op = .binOp op t x y ty) {k : IntKind} {a b : Int} {v : V} (hx : S.val [] x = .c (.int k a)) (hy : S.val [] y = .c (.int k b)) (hv : binI op k a b = some v) : PureOk F o S (.c v) := by
  intro ac w σ β hs
  have h1 := val_ok hs [] x
  have h2 := val_ok hs [] y
  rw [hx] at h1
  rw [hy] at h2
  have e1 := inv_int h1
  have e2 := inv_int h2
  cases op <;> simp only [binI, Option.some.injEq, reduceCtorEq] at hv <;> subst hv <;>
    exact ⟨_, by simp [execOp, h, e1, e2, eqGuard, binOp, Op.intArith, Op.intCmp, Op.intBits]; rfl, by first | exact int_ok _ _ | exact bool_ok _⟩
theorem ok_quo {op : BinOp} {t ty : TypeId} {x y : Operand} (h : o.op = .binOp .quo t x y ty) {k : IntKind} {a b : Int} (hx : S.val [] x = .c (.int k a)) (hy : S.val [] y = .c (.int k b)) (hb : b ≠ 0) : PureOk F o S (.c (.int k (k.wrap (a.tdiv b)))) := by
  intro ac w σ β hs
  have h1 := val_ok hs [] x
  have h2 := val_ok hs [] y
  rw [hx] at h1
  rw [hy] at h2
  have e1 := inv_int h1
  have e2 := inv_int h2
  exact ⟨_, by simp [execOp, h, e1, e2, eqGuard, binOp, Op.intDiv, hb], int_ok _ _⟩
theorem ok_rem {t ty : TypeId} {x y : Operand} (h : o.op = .binOp .rem t x y ty) {k : IntKind} {a b : Int} (hx : S.val [] x = .c (.int k a)) (hy : S.val [] y = .c (.int k b)) (hb : b ≠ 0) : PureOk F o S (.c (.int k (a.tmod b))) := by
  intro ac w σ β hs
  have h1 := val_ok hs [] x
  have h2 := val_ok hs [] y
  rw [hx] at h1
  rw [hy] at h2
  have e1 := inv_int h1
  have e2 := inv_int h2
  exact ⟨_, by simp [execOp, h, e1, e2, eqGuard, binOp, Op.intDiv, hb], int_ok _ _⟩
theorem ok_shl {t ty : TypeId} {x y : Operand} (h : o.op = .binOp .shl t x y ty) {k k' : IntKind} {a b : Int} (hx : S.val [] x = .c (.int k a)) (hy : S.val [] y = .c (.int k' b)) (hb : 0 ≤ b) : PureOk F o S (.c (.int k (k.wrap (a * 2 ^ min b.toNat k.bits)))) := by
  intro ac w σ β hs
  have h1 := val_ok hs [] x
  have h2 := val_ok hs [] y
  rw [hx] at h1
  rw [hy] at h2
  have e1 := inv_int h1
  have e2 := inv_int h2
  exact ⟨_, by simp [execOp, h, e1, e2, eqGuard, binOp, Op.shift, Int.not_lt.2 hb], int_ok _ _⟩
theorem ok_shr {t ty : TypeId} {x y : Operand} (h : o.op = .binOp .shr t x y ty) {k k' : IntKind} {a b : Int} (hx : S.val [] x = .c (.int k a)) (hy : S.val [] y = .c (.int k' b)) (hb : 0 ≤ b) : PureOk F o S (.c (.int k (a.fdiv (2 ^ min b.toNat k.bits)))) := by
  intro ac w σ β hs
  have h1 := val_ok hs [] x
  have h2 := val_ok hs [] y
  rw [hx] at h1
  rw [hy] at h2
  have e1 := inv_int h1
  have e2 := inv_int h2
  exact ⟨_, by simp [execOp, h, e1, e2, eqGuard, binOp, Op.shift, Int.not_lt.2 hb], int_ok _ _⟩
theorem ok_not {t : TypeId} {x : Operand} (h : o.op = .unOp .not t x) {b : Bool} (hx : S.val [] x = .c (.bool b)) : PureOk F o S (.c (.bool !b)) := by
  intro ac w σ β hs
  have h1 := val_ok hs [] x
  rw [hx] at h1
  have e1 := inv_bool h1
  exact ⟨_, by simp [execOp, h, e1, Op.unary], bool_ok _⟩
theorem ok_neg {t : TypeId} {x : Operand} (h : o.op = .unOp .neg t x) {k : IntKind} {n : Int} (hx : S.val [] x = .c (.int k n)) : PureOk F o S (.c (.int k (k.wrap (0 - n)))) := by
  intro ac w σ β hs
  have h1 := val_ok hs [] x
  rw [hx] at h1
  have e1 := inv_int h1
  exact ⟨_, by simp [execOp, h, e1, Op.unary, Op.intArith], int_ok _ _⟩
theorem ok_convI {s t : TypeId} {x : Operand} (h : o.op = .convert s t x) {T : Tab} (hT : TabOk F.P T) {i j : TI} (hi : tg T s = some i) (hj : tg T t = some j) {k k' : IntKind} (hik : i.k = .int k') (hjk : j.k = .int k) {n : Int} (hx : S.val [] x = .c (.int k' n)) : PureOk F o S (.c (.int k (k.wrap n))) := by
  intro ac w σ β hs
  have h1 := val_ok hs [] x
  rw [hx] at h1
  have e1 := inv_int h1
  have u1 := (hT.ty hi).int hik
  have u2 := (hT.ty hj).int hjk
  exact ⟨_, by simp [execOp, h, e1, convert, run_underlying u1, run_underlying u2, Conv.intToInt], int_ok _ _⟩
theorem ok_strAdd {t ty : TypeId} {x y : Operand} (h : o.op = .binOp .add t x y ty) {a b : ByteArray} (hx : S.val [] x = .c (.str a)) (hy : S.val [] y = .c (.str b)) (hb : a.size + b.size ≤ 9223372036854775807) : PureOk F o S (.c (.str (a ++ b))) := by
  intro ac w σ β hs
  have h1 := val_ok hs [] x
  have h2 := val_ok hs [] y
  rw [hx] at h1
  rw [hy] at h2
  have e1 := inv_str h1
  have e2 := inv_str h2
  have hm : ¬ (((a.size + b.size : Nat) : Int) > IntKind.i64.max) := by
    have : IntKind.i64.max = 9223372036854775807 := by decide
    omega
  exact ⟨_, by simp [execOp, h, e1, e2, eqGuard, binOp, Op.stringOp]; omega, str_ok _⟩
theorem ok_strEq {op : BinOp} {t ty : TypeId} {x y : Operand} (h : o.op = .binOp op t x y ty) (hop : op = .eql ∨ op = .neq) {a b : ByteArray} (hx : S.val [] x = .c (.str a)) (hy : S.val [] y = .c (.str b)) : PureOk F o S (.c (.bool (if op = .eql then a.toList == b.toList else !(a.toList == b.toList)))) := by
  intro ac w σ β hs
  have h1 := val_ok hs [] x
  have h2 := val_ok hs [] y
  rw [hx] at h1
  rw [hy] at h2
  have e1 := inv_str h1
  have e2 := inv_str h2
  rcases hop with rfl | rfl
  · exact ⟨_, by simp [execOp, h, e1, e2, eqGuard, binOp, Op.stringOp], bool_ok _⟩
  · exact ⟨_, by simp [execOp, h, e1, e2, eqGuard, binOp, Op.stringOp], bool_ok _⟩
end
end Go.Eng
