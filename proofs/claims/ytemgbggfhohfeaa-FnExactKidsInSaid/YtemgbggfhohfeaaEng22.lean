/- Words of the printed proofs. -/
import Derived.Test.YtemgbggfhohfeaaEng21
import Derived.Laws.Small
set_option linter.unusedVariables false
set_option linter.unusedSimpArgs false
namespace Go.Eng

def iAdd (k : IntKind) (a b : Int) : Int := k.wrap (a + b)
def iSub (k : IntKind) (a b : Int) : Int := k.wrap (a - b)
def iMul (k : IntKind) (a b : Int) : Int := k.wrap (a * b)
def iAnd (k : IntKind) (a b : Int) : Int := k.wrap (BitVec.ofInt k.bits a &&& BitVec.ofInt k.bits b).toNat
def iOr (k : IntKind) (a b : Int) : Int := k.wrap (BitVec.ofInt k.bits a ||| BitVec.ofInt k.bits b).toNat
def iXor (k : IntKind) (a b : Int) : Int := k.wrap (BitVec.ofInt k.bits a ^^^ BitVec.ofInt k.bits b).toNat
def iShl (k : IntKind) (a b : Int) : Int := k.wrap (a * 2 ^ min b.toNat k.bits)
def iShr (k : IntKind) (a b : Int) : Int := a.fdiv (2 ^ min b.toNat k.bits)
def iQuo (k : IntKind) (a b : Int) : Int := k.wrap (a.tdiv b)
def iNeg (k : IntKind) (a : Int) : Int := k.wrap (0 - a)

theorem can_closed {H : Nat → Option Blk} {v : V} (h : v.closed = true) : v.can H = v := by
  cases v <;> first | rfl | cases h
def keepR (S : St) : List Nat → List (Nat × Blk)
  | [] => []
  | t :: r => match S.H t with
    | some B => (t, ⟨0, B.es, B.xs⟩) :: keepR S r
    | none => keepR S r
def clR (S : St) : List Nat → Prop
  | [] => True
  | id :: r => (∃ B, S.H id = some B ∧ allClosed B = true) ∧ clR S r
theorem keepR_eq {S : St} : ∀ {lr : List Nat}, clR S lr → keepH S lr = keepR S lr := by
  intro lr
  induction lr with
  | nil => intro _; rfl
  | cons id r ih =>
    rintro ⟨⟨B, h1, h2⟩, h3⟩
    simp only [keepH, keepR, h1, ih h3]
    have : (B.xs.map fun x => x.map (V.can S.H)) = B.xs := by
      have h4 : ∀ x ∈ B.xs, x.map (V.can S.H) = x := by
        intro x hx
        have h5 := List.all_eq_true.1 h2 x hx
        have : x.map (V.can S.H) = x.map (fun v => v) := List.map_congr_left fun v hv => can_closed (List.all_eq_true.1 h5 v hv)
        rw [this, List.map_id']
      have : (B.xs.map fun x => x.map (V.can S.H)) = B.xs.map (fun x => x) := List.map_congr_left h4
      rw [this, List.map_id']
    rw [this]
theorem keepH_append {S : St} (a b : List Nat) : keepH S (a ++ b) = keepH S a ++ keepH S b := by
  induction a with
  | nil => rfl
  | cons x r ih =>
    simp only [List.cons_append, keepH]
    split
    · rw [ih]; rfl
    · exact ih
theorem wk2 {S : St} (lt lb lr : List Nat) {l : List (Nat × A)} {h h' : List (Nat × Blk)} (hc : clR S lr) (h1 : keepE S lt = l) (h2 : keepH S lb = h) (h3 : keepR S lr = h') : Wk S (StL l (h ++ h')) := by
  subst h1; subst h2; subst h3
  rw [← keepR_eq hc, ← keepH_append]
  exact wk_can lt (lb ++ lr) rfl rfl
theorem W2 {F : Fr} {c : Code} {Q : Exit → St → Prop} {S : St} (lt lb lr : List Nat) {l : List (Nat × A)} {h h' : List (Nat × Blk)} (hc : clR S lr) (h1 : keepE S lt = l) (h2 : keepH S lb = h) (h3 : keepR S lr = h') (k : W F c (StL l (h ++ h')) Q) : W F c S Q := W.weak (wk2 lt lb lr hc h1 h2 h3) k

theorem wk_len {S : St} (t : Nat) {id ver off n n' : Nat} (h : n = n') (ht : S.env t = .c (.own id ver off n)) : Wk S ⟨updE S.env t (.c (.own id ver off n')), S.H, S.nv⟩ := by
  subst h
  have : updE S.env t (.c (.own id ver off n)) = S.env := by
    funext i
    by_cases e : i = t
    · subst e; rw [updE_same, ht]
    · rw [updE_other _ _ e]
  rw [this]
  exact Wk.refl S
section
variable {F : Fr} {T : Tab} {S : St} {o : Oper}
/-- A call by its contract. -/
theorem sCm {x : Operand} {xs : Array Operand} {ats : Array TypeId} {f : FuncId} {args : List A} {res : A} (hsp : Sp F.P f args [] res []) (hf : FnOk F.P f) {caps : List V} {v : A} (h : o.op = .call ⟨.value x, xs, ats⟩) (hx : S.val [] x = .c (.fn f caps)) (hargs : (argsOf S xs caps).map (A.low false [] (fun _ => none)) = args) (hv : res.backT false [] (fun _ => 0) = v) :
    St1 F T o S { v, use := opTmps (x :: xs.toList) } := sC0 h hx hargs hf hsp hv

theorem eq_bool_in {P : Program} (d : Nat) {t : TypeId} (hu : P.underlying t = some .bool) (a b : Bool) (w : World) : (Op.equalIn (d + 1) t (.bool a) (.bool b)).run P w = .ok (a == b) w := by
  simp [Op.equalIn, run_underlying hu]
theorem eq_bool {P : Program} {t : TypeId} (hu : P.underlying t = some .bool) (a b : Bool) (w : World) : (Op.equal t (.bool a) (.bool b)).run P w = .ok (a == b) w := eq_bool_in 9999 hu a b w
/-- '==' of truth values. -/
theorem sBe {op : BinOp} {t ty : TypeId} {x y : Operand} (h : o.op = .binOp op t x y ty) (hop : op = .eql ∨ op = .neq) {a b : Bool} (hx : S.val [] x = .c (.bool a)) (hy : S.val [] y = .c (.bool b)) {ti : TI} (ht : tg T t = some ti) (hk : ti.k = .bool) : St1 F T o S { v := .c (.bool (if op = .eql then a == b else !(a == b))), use := opTmps [x, y] } := sPure _ _ fun he S' h1 h2 => by
  intro ac w σ β hs
  have g1 := val_ok hs [] x
  have g2 := val_ok hs [] y
  rw [vc h1 (by simp) hx] at g1
  rw [vc h1 (by simp) hy] at g2
  have e1 := inv_bool g1
  have e2 := inv_bool g2
  have hu : F.P.underlying t = some .bool := by
    obtain ⟨d, h1, h2⟩ := (he.tab.ty ht).und
    rw [hk] at h2
    cases d <;> simp_all [okK]
  rcases hop with rfl | rfl
  · exact ⟨_, by simp [execOp, h, e1, e2, eqGuard, binOp, eq_bool hu], bool_ok _⟩
  · exact ⟨_, by simp [execOp, h, e1, e2, eqGuard, binOp, eq_bool hu], bool_ok _⟩

theorem min_any {P : Program} {o : Oper} {b : Builtin} {x y : Operand} {ats : Array TypeId} (h : o.op = .call { callee := .builtin b, args := #[x, y], argTypes := ats }) (a : Act) (w : World) {c : Value} (hr : (builtin b ats o.type (#[x, y].map fun | .const _ => true | _ => false) #[a.eval x, a.eval y]).run P w = .ok (.value c) w) :
    (execOp a.eval o).run P w = .ok (.value c) w := by
  have hop : (execOp a.eval o) = (do let d ← resolve a.eval ⟨.builtin b, #[x, y], ats⟩ o.type; invoke d.target d.args) := by simp only [execOp, h]
  rw [hop]
  simp only [resolve, Sem.run_bind, Sem.run_pure, Result.andThen_ok, invoke]
  have e2 : (Array.map a.eval #[x, y]) = #[a.eval x, a.eval y] := by simp
  rw [e2]
  exact hr
def iMin (x y : Int) : Int := if y < x then y else x
def iMax (x y : Int) : Int := if y > x then y else x
theorem sMn {x y : Operand} {ats : Array TypeId} (h : o.op = .call { callee := .builtin .min, args := #[x, y], argTypes := ats }) {k k' : IntKind} {a b : Int} (hx : S.val [] x = .c (.int k a)) (hy : S.val [] y = .c (.int k' b)) : St1 F T o S { v := .c (.int k (iMin a b)), use := opTmps [x, y] } := sPure _ _ fun he S' h1 h2 => by
  intro ac w σ β hs
  have g1 := val_ok hs [] x
  have g2 := val_ok hs [] y
  rw [vc h1 (by simp) hx] at g1
  rw [vc h1 (by simp) hy] at g2
  have e1 := inv_int g1
  have e2 := inv_int g2
  refine ⟨.int k (iMin a b), min_any h ac w ?_, int_ok _ _⟩
  rw [e1, e2]
  simp [builtin, run_min_int2, iMin]
theorem sMx {x y : Operand} {ats : Array TypeId} (h : o.op = .call { callee := .builtin .max, args := #[x, y], argTypes := ats }) {k k' : IntKind} {a b : Int} (hx : S.val [] x = .c (.int k a)) (hy : S.val [] y = .c (.int k' b)) : St1 F T o S { v := .c (.int k (iMax a b)), use := opTmps [x, y] } := sPure _ _ fun he S' h1 h2 => by
  intro ac w σ β hs
  have g1 := val_ok hs [] x
  have g2 := val_ok hs [] y
  rw [vc h1 (by simp) hx] at g1
  rw [vc h1 (by simp) hy] at g2
  have e1 := inv_int g1
  have e2 := inv_int g2
  refine ⟨.int k (iMax a b), min_any h ac w ?_, int_ok _ _⟩
  rw [e1, e2]
  simp [builtin, run_max_int2, iMax]
end
end Go.Eng
