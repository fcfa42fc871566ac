/- Calls and ends with several blocks. -/
import Derived.Test.YtemgbggfhohfeaaEng30
set_option linter.unusedVariables false
set_option linter.unusedSimpArgs false
namespace Go.Eng

theorem bl_nil {α β : Type} {g : α → β} : ([] : List α).map g = [] := rfl
theorem bl_cons {α β : Type} {g : α → β} {x : α} {y : β} {r : List α} {s : List β} (h1 : g x = y) (h2 : r.map g = s) : (x :: r).map g = y :: s := by rw [List.map_cons, h1, h2]
/-- How a block is seen by a called function. -/
def seeB (lent : Bool) (io : List Nat) (H : Nat → Option Blk) (id : Nat) : Blk := match H id with | some B => lowB lent io H B | none => default
theorem see_En {α : Type} {f : α → List V} {es : Nat} (hf : En f es) {lent : Bool} {io : List Nat} {H : Nat → Option Blk} {id ver : Nat} {l : List α} (hB : H id = some ⟨ver, es, l.map f⟩) : seeB lent io H id = ⟨0, es, l.map f⟩ := by
  unfold seeB; rw [hB]; exact lowB_at hf _ _ _ _ _
theorem see_EnD {α : Type} {fd f : α → List V} {es : Nat} (hf : EnD fd f es) {lent : Bool} {io : List Nat} {H : Nat → Option Blk} {id ver : Nat} {l : List α} (hB : H id = some ⟨ver, es, l.map fd⟩) : seeB lent io H id = ⟨0, es, l.map fd⟩ := by
  unfold seeB; rw [hB]; exact hf.lowB_at _ _ _ _ _
theorem ul_nil {lent : Bool} {outs : List Nat} {ν : Nat → Nat} : updL lent outs ν [] [] = [] := rfl
theorem ul_cons {lent : Bool} {outs : List Nat} {ν : Nat → Nat} {id v es : Nat} {rows : List (List V)} {r : List Nat} {Bs : List Blk} {U : List (Nat × Option Blk)} (hν : ν id = v) (hb : rows.map (fun x => x.map (V.back lent outs ν)) = rows) (h : updL lent outs ν r Bs = U) : updL lent outs ν (id :: r) (⟨0, es, rows⟩ :: Bs) = (id, some ⟨v, es, rows⟩) :: U := by
  unfold updL
  rw [hν, hb, h]
/-- The blocks that are written keep their lengths. -/
def sameLens (S : St) : List Nat → List Blk → Prop
  | id :: r, B' :: Bs => (∀ B, S.H id = some B → B.es = B'.es ∧ B.xs.length = B'.xs.length) ∧ sameLens S r Bs
  | [], _ => True
  | _ :: _, [] => False
theorem sl_cons {S : St} {id ver es : Nat} {xs ys : List (List V)} {r : List Nat} {Bs : List Blk} (hB : S.H id = some ⟨ver, es, xs⟩) (hl : xs.length = ys.length) (h : sameLens S r Bs) : sameLens S (id :: r) (⟨0, es, ys⟩ :: Bs) :=
  ⟨fun B hB' => by rw [hB] at hB'; cases hB'; exact ⟨rfl, hl⟩, h⟩
theorem sl_nil {S : St} {Bs : List Blk} : sameLens S [] Bs := by cases Bs <;> trivial
theorem sameLens.at_ {S : St} {io : List Nat} {Bs : List Blk} (h : sameLens S io Bs) : ∀ (i id : Nat) B B', io[i]? = some id → S.H id = some B → Bs[i]? = some B' → B.es = B'.es ∧ B.xs.length = B'.xs.length := by
  induction io generalizing Bs with
  | nil => intro i id B B' h1; simp at h1
  | cons x r ih =>
    cases Bs with
    | nil => cases h
    | cons C Cs =>
      intro i id B B' h1 h2 h3
      cases i with
      | zero => simp at h1 h3; subst h1; subst h3; exact h.1 B h2
      | succ i => exact ih h.2 i id B B' (by simpa using h1) h2 (by simpa using h3)
def keepsB (io news : List Nat) : List Bool := io.map (fun _ => true) ++ news.map (fun _ => false)

/-- A call with any blocks: io are written, news are new. -/
theorem sCg {F : Fr} {T : Tab} {S : St} {o : Oper} {x : Operand} {xs : Array Operand} {ats : Array TypeId} {f : FuncId} {args : List A} {res : A} {H0 H1 : List Blk} (hsp : Sp F.P f args H0 res H1) (hf : FnOk F.P f) (lent : Bool) (io news L : List Nat) {U : List (Nat × Option Blk)} {bm : List Nat} {caps : List V} {v : A} (h : o.op = .call ⟨.value x, xs, ats⟩) (hx : S.val [] x = .c (.fn f caps)) (hargs : (argsOf S xs caps).map (A.low lent io (onlyIn L S.H)) = args) (hH0 : io.map (seeB lent io (onlyIn L S.H)) = H0)
    (hnd : (io ++ news).Nodup) (hlive : io.all (fun id => (onlyIn L S.H id).isSome) = true) (hL : (io ++ news).all (fun id => L.contains id) = true) (hnew : news.all (fun id => Nat.ble 100 id) = true) (hlen : (io ++ news).length = H1.length) (hsl : sameLens S io H1)
    (hu : updL lent (io ++ news) (verL S (io ++ news) (keepsB io news)) (io ++ news) H1 = U) (hb : bumpL (io ++ news) (keepsB io news) = bm) (hv : res.backT lent (io ++ news) (verL S (io ++ news) (keepsB io news)) = v) :
    St1 F T o S { v, upd := U, bump := bm, use := opTmps (x :: xs.toList), ids := L } := fun he hd => by
  have := step_call h hd hx hf lent io news L (keepsB io news) hsp hargs hH0 hnd (fun id hi => List.all_eq_true.1 hlive id hi) (fun id hi => by simpa using List.all_eq_true.1 hL id hi) (fun id hi => by have := Nat.le_of_ble_eq_true (List.all_eq_true.1 hnew id hi); have := he.m; omega) hlen (by simp [keepsB]) (fun i hi => by
    have hlt : i < io.length := by
      rcases Nat.lt_or_ge i io.length with h | h
      · exact h
      · unfold keepsB at hi
        rw [List.getElem?_append_right (by simpa using h)] at hi
        simp at hi
    refine ⟨hlt, fun id B B' h1 h2 h3 => ?_⟩
    rw [List.getElem?_append_left hlt] at h1
    exact hsl.at_ i id B B' h1 h2 h3)
  rw [hu, hb, hv] at this
  exact this
/-- The end of a function with several blocks. -/
theorem retG {S : St} {T : Tab} {rl : List ResultVar} {u res : A} {H1 : List Blk} (n0 : Nat) (outs : List Nat) (hnd : outs.Nodup) (hpre : (List.range n0).all (fun i => outs[i]? == some (i + 1)) = true) (hsome : outs.all (fun id => (S.H id).isSome) = true) (h : resAll T S rl = some u) (hu : u.lowT false outs S.H = res) (hB : outs.map (seeB false outs S.H) = H1) : Ret T rl n0 res H1 .ret S :=
  ⟨.inr rfl, outs, u, hnd, fun i hi => by simpa using List.all_eq_true.1 hpre i (List.mem_range.2 hi), fun id hi => List.all_eq_true.1 hsome id hi, h, hu, hB⟩
/-- A value of a model that gets a name. -/
def letM {α β : Type} (x : α) (k : α → Option β) : Option β := k x
theorem letc {α β : Type} {x : α} {k : α → Option β} {r : β} {P : Prop} (h : letM x k = some r) (c : ∀ v, v = x → k v = some r → P) : P := c x rfl h
end Go.Eng
