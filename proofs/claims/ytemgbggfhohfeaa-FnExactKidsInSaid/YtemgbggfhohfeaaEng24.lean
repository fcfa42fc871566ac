/- '==' of structs whose cells are numbers, truth values, strings. -/
import Derived.Test.YtemgbggfhohfeaaEng22
import Derived.Laws.StructEq
set_option linter.unusedVariables false
set_option linter.unusedSimpArgs false
namespace Go.Eng

/-- The comparison of the fields, on trees. -/
def eqFs (T : Tab) (f : Nat → List V → List V → Option Bool) (xs ys : List V) : List (Nat × Nat) → Option Bool
  | [] => some true
  | (off, t) :: r => match tg T t with
    | none => none
    | some j => match f t ((xs.drop off).take j.size) ((ys.drop off).take j.size), eqFs T f xs ys r with
      | some a, some b => some (a && b)
      | _, _ => none
/-- The comparison, on trees. -/
def eqV (T : Tab) : Nat → Nat → List V → List V → Option Bool
  | 0, _, _, _ => none
  | k + 1, t, xs, ys => match tg T t with
    | none => none
    | some ti => match ti.k with
      | .struct gs => eqFs T (eqV T k) xs ys gs
      | .int kd => match xs, ys with
        | [.int k1 a], [.int k2 b] => if k1 = k2 then some (a == b) else none
        | _, _ => none
      | .bool => match xs, ys with
        | [.bool a], [.bool b] => some (a == b)
        | _, _ => none
      | .str => match xs, ys with
        | [.str a], [.str b] => some (a.toList == b.toList)
        | _, _ => none
      | _ => none
def fitB (T : Tab) (n : Nat) (g : Nat × Nat) : Bool := match tg T g.2 with | some j => decide (g.1 + j.size ≤ n) | none => false
def eqOkB (P : Program) (T : Tab) : Nat → Nat → Bool
  | 0, _ => false
  | k + 1, t => match tg T t with
    | none => false
    | some ti => match ti.k with
      | .struct gs => !P.stoodInHeld t && (P.fieldsOf t).toList.all (fun f => decide (f.name ≠ "_")) && gs.all (fun g => eqOkB P T k g.2 && fitB T ti.size g)
      | .int _ => decide (ti.size = 1)
      | .bool => decide (ti.size = 1)
      | .str => decide (ti.size = 1)
      | _ => false

/-- A value, from its cells. -/
def ofCells (agg : Bool) (c : Array Value) : Value := if agg then .agg c else c.getD 0 undef

theorem cells_part {E : Cx} {xs : List V} {cx : Array Value} (h : Cells E xs cx) {off n : Nat} (hl : ((xs.drop off).take n).length = n) : Cells E ((xs.drop off).take n) (cx.extract off (off + n)) := by
  have hle : off + n ≤ xs.length ∨ n = 0 := by simp at hl; omega
  refine ⟨?_, fun i v hi => ?_⟩
  · rw [hl]
    simp only [Array.size_extract, h.1]
    rcases hle with hle | hle <;> omega
  · rw [List.getElem?_take] at hi
    split at hi
    · rename_i hin
      rw [List.getElem?_drop] at hi
      obtain ⟨c, h1, h2⟩ := h.2 _ v hi
      refine ⟨c, ?_, h2⟩
      rw [Array.getElem?_extract]
      have hlt := (Array.getElem?_eq_some_iff.1 h1).1
      rw [if_pos (by omega)]
      exact h1
    · cases hi
theorem run_part1 {P : Program} {T : Tab} (hT : TabOk P T) {E : Cx} {t : Nat} {j : TI} (ht : tg T t = some j) {xs : List V} {cx : Array Value} (h : Cells E xs cx) {off : Nat} (hl : ((xs.drop off).take j.size).length = j.size) (hs : j.k.agg = false → j.size = 1) (w : World) :
    (part t cx off).run P w = .ok (ofCells j.k.agg (cx.extract off (off + j.size))) w := by
  have h1 := (hT.ty ht).isAgg w
  have h2 := (hT.ty ht).sizeOf w
  unfold part
  simp only [Sem.run_bind, h1, Result.andThen_ok]
  cases hk : j.k.agg with
  | true => simp [h2, ofCells]
  | false =>
    have hs1 := hs hk
    have hlt : off < cx.size := by
      rw [h.1]
      rw [hs1] at hl
      simp at hl
      omega
    have he : (cx.extract off (off + 1))[0]? = some cx[off] := by
      rw [Array.getElem?_extract, if_pos (by omega)]
      simp [hlt]
    simp [ofCells, hlt, hs1, Array.getD_eq_getD_getElem?, he]

theorem eqV_run {P : Program} {T : Tab} (hT : TabOk P T) {E : Cx} {w : World} : ∀ (k t : Nat) (ti : TI) (xs ys : List V) (b : Bool) (cx cy : Array Value), tg T t = some ti → eqOkB P T k t = true → eqV T k t xs ys = some b → xs.length = ti.size → ys.length = ti.size → Cells E xs cx → Cells E ys cy → ∀ d, (Op.equalIn (d + k) t (ofCells ti.k.agg cx) (ofCells ti.k.agg cy)).run P w = .ok b w := by
  intro k
  induction k with
  | zero => intro t ti xs ys b cx cy _ h; cases h
  | succ k ih =>
    intro t ti xs ys b cx cy ht hok hv hxl hyl hx hy d
    have hty := hT.ty ht
    simp only [eqOkB, ht] at hok
    simp only [eqV, ht] at hv
    have one : ∀ (u : V) (us : List V) (c : Array Value) (p : Value → Prop), us = [u] → Cells E us c → (∀ v, RV E [] u v → p v) → p (ofCells false c) := by
      intro u us c p e hc hp
      subst e
      obtain ⟨v, h1, h2⟩ := hc.2 0 u rfl
      have : ofCells false c = v := by simp [ofCells, Array.getD_eq_getD_getElem?, h1]
      rw [this]
      exact hp v h2
    cases ek : ti.k with
    | int kd =>
      simp only [ek] at hv
      match xs, ys, hv, hx, hy with
      | [.int k1 a], [.int k2 c], hv, hx, hy =>
        have ea : ofCells false cx = .int k1 a := one _ _ cx (fun v => v = .int k1 a) rfl hx (fun v h => inv_int (.c h))
        have eb : ofCells false cy = .int k2 c := one _ _ cy (fun v => v = .int k2 c) rfl hy (fun v h => inv_int (.c h))
        simp only [TK.agg, ea, eb]
        simp only at hv
        split at hv
        · rename_i hkk
          subst hkk
          cases hv
          exact run_equalIn_int w (d + k) t k1 kd a c (hty.int ek)
        · cases hv
    | bool =>
      simp only [ek] at hv
      match xs, ys, hv, hx, hy with
      | [.bool a], [.bool c], hv, hx, hy =>
        have ea : ofCells false cx = .bool a := one _ _ cx (fun v => v = .bool a) rfl hx (fun v h => inv_bool (.c h))
        have eb : ofCells false cy = .bool c := one _ _ cy (fun v => v = .bool c) rfl hy (fun v h => inv_bool (.c h))
        simp only [TK.agg, ea, eb]
        cases hv
        have hu : P.underlying t = some .bool := by
          obtain ⟨dd, h1, h2⟩ := hty.und
          rw [ek] at h2
          cases dd <;> simp_all [okK]
        exact eq_bool_in (d + k) hu a c w
    | str =>
      simp only [ek] at hv
      match xs, ys, hv, hx, hy with
      | [.str a], [.str c], hv, hx, hy =>
        have ea : ofCells false cx = .string a := one _ _ cx (fun v => v = .string a) rfl hx (fun v h => inv_str (.c h))
        have eb : ofCells false cy = .string c := one _ _ cy (fun v => v = .string c) rfl hy (fun v h => inv_str (.c h))
        simp only [TK.agg, ea, eb]
        cases hv
        exact run_equalIn_string w (d + k) t a c (hty.str ek)
    | struct gs =>
      simp only [ek, Bool.and_eq_true, Bool.not_eq_true'] at hok
      simp only [ek] at hv
      obtain ⟨fs, hu, hfs⟩ := hty.struct ek
      have hfo : P.fieldsOf t = fs := by simp [Program.fieldsOf, hu]
      obtain ⟨⟨ho1, ho2⟩, ho3⟩ := hok
      rw [hfo] at ho2
      simp only [TK.agg, ofCells, if_true]
      have hrun := run_equalIn_struct (P := P) w (d + k) t cx cy (by rw [hfo]; exact hu) ho1
      rw [← Nat.add_assoc, hrun, hfo]
      have key : ∀ (fl : List Field) (b : Bool), fl.all (fun f => decide (f.name ≠ "_")) = true → (fl.map fun f => (f.offset, f.type)).all (fun g => eqOkB P T k g.2 && fitB T ti.size g) = true → eqFs T (eqV T k) xs ys (fl.map fun f => (f.offset, f.type)) = some b → (Op.eqFields (d + k) cx cy fl).run P w = .ok b w := by
        intro fl
        induction fl with
        | nil => intro b _ _ h; cases h; simp [Op.eqFields]
        | cons f r ihf =>
          intro b h1 h2 h3
          simp only [List.all_cons, Bool.and_eq_true, decide_eq_true_eq, List.map_cons] at h1 h2
          simp only [List.map_cons, eqFs] at h3
          cases ej : tg T f.type with
          | none => simp [ej] at h3
          | some j =>
            simp only [ej] at h3
            cases e1 : eqV T k f.type ((xs.drop f.offset).take j.size) ((ys.drop f.offset).take j.size) with
            | none => simp [e1] at h3
            | some b1 =>
              cases e2 : eqFs T (eqV T k) xs ys (r.map fun f => (f.offset, f.type)) with
              | none => simp [e1, e2] at h3
              | some b2 =>
                simp only [e1, e2, Option.some.injEq] at h3
                subst h3
                have hsz1 : j.k.agg = false → j.size = 1 := fun hk => by
                  cases k with
                  | zero => simp [eqOkB] at h2
                  | succ k =>
                    have := h2.1.1
                    simp only [eqOkB, ej] at this
                    cases ejk : j.k <;> simp_all [TK.agg]
                have hfit : f.offset + j.size ≤ ti.size := by
                  have := h2.1.2
                  simp only [fitB, ej, decide_eq_true_eq] at this
                  exact this
                have lx : ((xs.drop f.offset).take j.size).length = j.size := by simp; omega
                have ly : ((ys.drop f.offset).take j.size).length = j.size := by simp; omega
                have p1 := run_part1 (P := P) hT ej hx lx hsz1 w
                have p2 := run_part1 (P := P) hT ej hy ly hsz1 w
                have p3 := ih f.type j _ _ b1 _ _ ej h2.1.1 e1 lx ly (cells_part hx lx) (cells_part hy ly) d
                have p4 := ihf b2 h1.2 h2.2 e2
                simp only [Op.eqFields]
                rw [if_pos h1.1]
                simp only [Sem.run_bind, p1, p2, p3, Result.andThen_ok]
                cases b1 with
                | false => simp
                | true => simpa using p4
      refine key fs.toList b ho2 ?_ ?_
      · rw [hfs]; exact ho3
      · rw [hfs]; exact hv
    | slice e => simp [ek] at hv
    | ptr e => simp [ek] at hv
    | array n e => simp [ek] at hv
    | other => simp [ek] at hv

/-- '==' and '!=' of structs. -/
theorem sEs {F : Fr} {T : Tab} {S : St} {o : Oper} {op : BinOp} {t ty : TypeId} {x y : Operand} (h : o.op = .binOp op t x y ty) (hop : op = .eql ∨ op = .neq) {us vs : List V} {ti : TI} {b : Bool} (hx : S.val [] x = .g us) (hy : S.val [] y = .g vs) (ht : tg T t = some ti) (hk : ti.k.agg = true) (hg : F.P.eqGuardType F.P.depth t = false) (hok : eqOkB F.P T 20 t = true) (hl1 : us.length = ti.size) (hl2 : vs.length = ti.size) (he : eqV T 20 t us vs = some b) :
    St1 F T o S { v := .c (.bool (if op = .eql then b else !b)), use := opTmps [x, y] } := sPure _ _ fun henv S' h1 h2 => by
  intro ac w σ β hs
  have g1 := val_ok hs [] x
  have g2 := val_ok hs [] y
  rw [vc h1 (by simp) hx] at g1
  rw [vc h1 (by simp) hy] at g2
  obtain ⟨cx, e1, c1⟩ : ∃ cx, ac.eval x = .agg cx ∧ Cells (S'.cx w σ β) us cx := by
    generalize ac.eval x = c at g1
    cases g1 with | g _ arr hsz hc => exact ⟨arr, rfl, hsz, hc⟩
  obtain ⟨cy, e2, c2⟩ : ∃ cy, ac.eval y = .agg cy ∧ Cells (S'.cx w σ β) vs cy := by
    generalize ac.eval y = c at g2
    cases g2 with | g _ arr hsz hc => exact ⟨arr, rfl, hsz, hc⟩
  have hr := eqV_run henv.tab (E := S'.cx w σ β) (w := w) 20 t ti us vs b cx cy ht hok he hl1 hl2 c1 c2 9980
  simp only [hk, ofCells, if_true] at hr
  have hgd := run_eqGuard_agg (P := F.P) w op t x y cx cy hg
  rcases hop with rfl | rfl
  · have hq := run_eql_struct (P := F.P) w t cx cy
    rw [hr] at hq
    exact ⟨.bool b, by simp [execOp, h, e1, e2, hgd, hq], bool_ok _⟩
  · have hq := run_neq_struct (P := F.P) w t cx cy
    rw [hr] at hq
    exact ⟨.bool (!b), by simp [execOp, h, e1, e2, hgd, hq], bool_ok _⟩
theorem W_condB {F : Fr} {S : St} {Q : Exit → St → Prop} {x : Operand} {c d : Code} {e : Bool} (hx : S.val [] x = .c (.bool e)) (ht : e = true → W F c S Q) (hf : e = false → W F d S Q) : W F (.cond x c d) S Q := by
  cases e with
  | true => exact W_true hx (ht rfl)
  | false => exact W_false hx (hf rfl)
end Go.Eng
