/- Bytes as a string; arrays in a box; an empty slice in a box becomes a block; boxes that are handed in. -/
import Derived.Test.YtemgbggfhohfeaaEng26
import Derived.Laws.BytesArg
set_option linter.unusedVariables false
set_option linter.unusedSimpArgs false
namespace Go.Eng

section
variable {F : Fr} {T : Tab} {S : St} {o : Oper}
theorem sNc {x : Operand} (h : o.op = .nilCheck x) {id ver k j : Nat} (hx : S.val [] x = .c (.ptr id ver k j)) : St1 F T o S { v := .c (.ptr id ver k j), use := opTmps [x] } := sPure _ _ fun he S' h1 h2 =>
  ok_nilCheck h [] (vc h1 (by simp) hx) rfl

/-- Bytes as a string. -/
theorem sCvS {s t : TypeId} {x : Operand} (h : o.op = .convert s t x) {f : Int → List V} {ls : List Int} (hf : ∀ n, f n = [.int .u8 n]) {ob : Bool} (hx : S.val [] x = .c (.row ob 1 (ls.map f))) {ti te tj : TI} {e : Nat} (hs : tg T s = some ti) (hk : ti.k = .slice e) (he : tg T e = some te) (hk2 : te.k = .int .u8) (ht : tg T t = some tj) (hk3 : tj.k = .str) :
    St1 F T o S { v := .c (.str (strOfNums ls)), use := opTmps [x] } := sPure _ _ fun henv S' h1 h2 => by
  intro ac w σ β hs'
  have g := val_ok hs' [] x
  rw [vc h1 (by simp) hx] at g
  have u1 := (henv.tab.ty hs).slice hk
  have u2 : F.P.underlying e = some (.int .u8) := (henv.tab.ty he).int hk2
  have u3 : F.P.underlying t = some .string := (henv.tab.ty ht).str hk3
  refine ⟨.string (strOfNums ls), ?_, .c (.c (.str _ _))⟩
  generalize ec : ac.eval x = c at g
  cases inv_c g with
  | c hc =>
    cases hc with
    | row p o' es xs A n cap b off cs hn hcap hmax hA hT hx2 hc2 hr =>
      have hlen : ls.length = n := by rw [hn]; simp
      have key : (convert s t (.slice A n cap)).run F.P w = .ok (.string (strOfNums ls)) w := by
        rcases Nat.eq_zero_or_pos n with h0 | h0
        · have hl0 : ls = [] := List.length_eq_zero_iff.1 (by omega)
          subst hl0
          have hn0 : n = 0 := h0
          subst hn0
          cases A with
          | none => rw [run_convert_bytes_nil w s e u1 u2 0 cap t u3]; rfl
          | some a =>
            rw [run_convert_bytes_string w s t e _ 0 cap u1 u2 u3, run_bytesToString w a 0 cap [] (by have := run_loadCells_list (P := F.P) w a [] (fun j v h => by simp at h); simpa using this)]
            rfl
        · rw [hA h0]
          refine run_convert_bytes_arg w s e u1 u2 b off n cap ls hlen (fun i hi => ?_) t u3
          have q1 : (ls.map f)[i]? = some (f (ls.getD i 0)) := by
            rw [List.getElem?_map, List.getElem?_eq_getElem (by omega)]
            simp [List.getD, List.getElem?_eq_getElem (show i < ls.length by omega)]
          have q2 : (f (ls.getD i 0))[0]? = some (V.int .u8 (ls.getD i 0)) := by rw [hf]; rfl
          have q3 := (hc2 i 0 _ _ q1 q2).1
          have q4 := hr i 0 _ _ q1 q2
          generalize cs i 0 = c at q3 q4
          cases q4
          have q5 : w.cell? ⟨b, off + i * 1 + 0, none⟩ = some (.int .u8 (ls.getD i 0)) := q3
          simpa using q5
      simp [execOp, h, ec, key]

/-- An index into an array in a box. -/
theorem sIA {t : Nat} {x ix : Operand} (h : o.op = .indexAddr t x ix) {id ver : Nat} {k : IntKind} {i : Int} {ti te : TI} {n e : Nat} (hx : S.val [] x = .c (.ptr id ver 0 0)) (hi : S.val [] ix = .c (.int k i)) (ht : tg T t = some ti) (hk : ti.k = .array n e) (he : tg T e = some te) (hs : te.size = 1) (hb : 0 ≤ i ∧ i < (n : Int)) :
    St1 F T o S { v := .c (.ptr id ver 0 i.toNat), use := opTmps [x, ix] } := sPure _ _ fun henv S' h1 h2 => by
  have := ok_indexA (F := F) (S := S') henv.tab h (vc h1 (by simp) hx) (vc h1 (by simp) hi) ht hk he hb.1 hb.2
  rw [hs, Nat.mul_one, Nat.zero_add] at this
  exact this
theorem cut1 {α : Type} [Inhabited α] {f : α → V} {L : List α} {i : Int} (hb : 0 ≤ i ∧ i < (L.length : Int)) : ((L.map f).drop i.toNat).take 1 = [f (gt L i)] := by
  obtain ⟨k, rfl⟩ : ∃ k : Nat, i = k := ⟨i.toNat, by omega⟩
  have hlt : k < L.length := by omega
  rw [Int.toNat_natCast, List.drop_eq_getElem_cons (by simpa using hlt)]
  simp [gt, hlt]
theorem sLdA {α : Type} [Inhabited α] {t : TypeId} {x : Operand} (h : o.op = .load t x) {f : α → V} {L : List α} {id ver es : Nat} {i : Int} (hx : S.val [] x = .c (.ptr id ver 0 i.toNat)) (hB : S.H id = some ⟨ver, es, [L.map f]⟩) {ti : TI} (ht : tg T t = some ti) (hs : ti.size = 1) (ha : ti.k.agg = false) (hf : ∀ a, isRowT (f a) = false) (hb : 0 ≤ i ∧ i < (L.length : Int)) :
    St1 F T o S { v := .c (f (gt L i)), use := opTmps [x], ids := [id] } := fun he hd =>
  step_load he.tab h hd ht hx hB rfl (y := L.map f) rfl (by rw [hs, List.length_map]; omega) (by rw [hs, cut1 hb, ha]; rfl) (by rw [hs, cut1 hb]; simp [hf])
theorem sStA {α : Type} {t : TypeId} {x y : Operand} (h : o.op = .store t x y) (hd0 : o.dst = none) {f : α → V} {L : List α} {id ver es : Nat} {i : Int} {a : α} (sh : List Nat) (hx : S.val [] x = .c (.ptr id ver 0 i.toNat)) (hy : S.val sh y = .c (f a)) (hB : S.H id = some ⟨ver, es, [L.map f]⟩) {ti : TI} (ht : tg T t = some ti) (hs : ti.size = 1) (hu : okPart (.c (f a)) = true) (huc : okCells (A.c (f a)).cells = true) (hb : 0 ≤ i ∧ i < (L.length : Int)) :
    St1 F T o S { v := .c .undef, upd := [(id, some ⟨ver, es, [(L.set i.toNat a).map f]⟩)], use := opTmps [x, y], ids := [id] } := fun he hd => by
  have := step_store he.tab h hd0 ht hx sh hy hu huc (by rw [hs]; rfl) hB rfl (row := L.map f) rfl (by rw [hs, List.length_map]; omega)
  have e : ([L.map f] : List (List V)).set 0 (putL (L.map f) i.toNat (A.c (f a)).cells) = [(L.set i.toNat a).map f] := by
    show [putL (L.map f) i.toNat [f a]] = _
    rw [show putL (L.map f) i.toNat [f a] = (L.map f).set i.toNat (f a) from ?_, List.map_set]
    unfold putL
    have hlt : i.toNat < (L.map f).length := by rw [List.length_map]; omega
    rw [List.set_eq_take_append_cons_drop, if_pos hlt]
    simp
  rw [e] at this
  exact this
end

/-! ### An empty slice in a struct becomes a block of the call's own -/
theorem RSx.ownNilG {F : Fr} {S : St} {a : Act} {w : World} {σ : Nat → List Nat} {β : Nat → Option (Nat × Nat × Nat)} (hs : RSx F S a w σ β) {t j es id : Nat} {cs : List V} (ht : S.env t = .g cs) (hj : cs[j]? = some (.row true es [])) (hid : F.m ≤ id) :
    RSx F ⟨updE S.env t (.g (cs.set j (.own id (S.nv id) 0 0))), updE S.H id (some ⟨S.nv id, es, []⟩), updE S.nv id (S.nv id + 1)⟩ a w σ (updE β id none) := by
  have h1 := hs.void hid es
  refine ⟨h1.hr, h1.mpos, h1.kp, h1.inn, fun t' => ?_⟩
  show RA _ (updE S.env t (.g (cs.set j (.own id (S.nv id) 0 0))) t') _
  by_cases e : t' = t
  · subst e
    rw [updE_same]
    have h2 := h1.env t'
    rw [show (S.set id ⟨S.nv id, es, []⟩).env t' = .g cs from ht] at h2
    generalize a.tmps.getD t' undef = c at h2
    cases h2 with
    | g _ arr hsz hcs =>
      refine .g _ _ (by simpa using hsz) fun i v hi => ?_
      rw [List.getElem?_set] at hi
      by_cases ej : j = i
      · subst ej
        have hlt : j < cs.length := (List.getElem?_eq_some_iff.1 hj).1
        rw [if_pos rfl, if_pos hlt] at hi
        cases hi
        obtain ⟨c, g1, g2⟩ := hcs j _ hj
        refine ⟨c, g1, ?_⟩
        cases g2 with
        | c h =>
          cases h with
          | row p o es' xs A n cap b off cs' hn hcap hmax hA hT hx hc hr =>
            have h0 : cap = 0 := by
              rcases Nat.eq_zero_or_pos cap with h | h
              · exact h
              · obtain ⟨_, hp, _⟩ := hT rfl h
                exact absurd rfl hp
            refine .own _ _ _ _ _ _ _ _ hn (by show S.nv id < updE S.nv id (S.nv id + 1) id; rw [updE_same]; omega) (Nat.zero_le _) hmax fun B hB _ => ?_
            have h' : updE S.H id (some ⟨S.nv id, es, []⟩) id = some B := hB
            rw [updE_same] at h'
            cases h'
            exact ⟨by simp, .inl h0⟩
      · rw [if_neg ej] at hi
        exact hcs i v hi
  · rw [updE_other _ _ e]
    exact h1.env t'
theorem vOwnNilG {F : Fr} {T : Tab} {ops : Array Oper} {i : Nat} {S : St} {l : List Oper} {Q : Exit → St → Prop} (he : Env F T) (t j id : Nat) {es : Nat} {cs : List V} (hid : Nat.ble 100 id = true) (ht : S.env t = .g cs) (hj : cs[j]? = some (.row true es []))
    (k : VW F T ops i ⟨updE S.env t (.g (cs.set j (.own id (S.nv id) 0 0))), updE S.H id (some ⟨S.nv id, es, []⟩), updE S.nv id (S.nv id + 1)⟩ l Q) : VW F T ops i S l Q := by
  intro he' hf hl a w
  rintro ⟨hd, hsz, σ, β, hs⟩
  exact k he' hf hl a w ⟨hd, hsz, σ, _, hs.ownNilG ht hj (by have := Nat.le_of_ble_eq_true hid; have := he.m; omega)⟩
theorem closed_arr {α : Type} {f : α → V} (hf : ∀ a, (f a).closed = true) (ver es : Nat) (L : List α) : allClosed ⟨ver, es, [L.map f]⟩ = true := by
  simp [allClosed, hf]
theorem wk_cold {S : St} (id : Nat) {ver es : Nat} {xs : List (List V)} (hB : S.H id = some ⟨ver, es, xs⟩) : Wk S ⟨S.env, updE S.H id (some ⟨ver, es, coldL xs⟩), S.nv⟩ := by
  rintro F a w ⟨hd, hsz, σ, β, hs⟩
  exact ⟨hd, hsz, σ, β, hs.coldH hB⟩
/-- A call that gives one new block, and lends nothing. -/
theorem sCoC {F : Fr} {T : Tab} {S : St} {o : Oper} {α : Type} {g : α → List V} {es : Nat} {x : Operand} {xs : Array Operand} {ats : Array TypeId} {f : FuncId} {args : List A} {res : A} {l : List α} (hsp : Sp F.P f args [] res [⟨0, es, l.map g⟩]) (hf : FnOk F.P f) (hg : En g es) (id : Nat) (hid : Nat.ble 100 id = true) {caps : List V} {v : A} (h : o.op = .call ⟨.value x, xs, ats⟩) (hx : S.val [] x = .c (.fn f caps)) (hargs : (argsOf S xs caps).map (A.low false [] (onlyIn [id] S.H)) = args) (hv : res.backT false [id] (fun _ => S.nv id) = v) :
    St1 F T o S { v, upd := [(id, some ⟨S.nv id, es, l.map g⟩)], bump := [id], use := opTmps (x :: xs.toList), ids := [id] } := fun he hd => by
  have hle : 100 ≤ id := Nat.le_of_ble_eq_true hid
  have hF := he.m
  have := step_call h hd hx hf false [] [id] [id] [false] (args := args) (H0 := []) (res := res) (H1 := [⟨0, es, l.map g⟩]) hsp hargs rfl (by simp) (by simp) (by simp) (by intro i hi; simp at hi; omega) rfl rfl (fun i hi => by
    cases i with
    | zero => simp at hi
    | succ i => simp at hi)
  have e : verL S ([] ++ [id]) [false] = fun x => if x = id then S.nv id else 0 := by funext x; rfl
  have e2 : updL false ([] ++ [id]) (verL S ([] ++ [id]) [false]) ([] ++ [id]) [⟨0, es, l.map g⟩] = [(id, some ⟨S.nv id, es, l.map g⟩)] := by
    show updL false [id] _ [id] _ = _
    rw [updL_oneC hg, e]; simp
  have e3 : res.backT false ([] ++ [id]) (verL S ([] ++ [id]) [false]) = v := by
    rw [← hv, e]
    have hb : ∀ u : V, u.back false [id] (fun x => if x = id then S.nv id else 0) = u.back false [id] (fun _ => S.nv id) := by
      intro u
      cases u with
      | own i ver off len =>
        cases i with
        | zero => rfl
        | succ i =>
          cases i with
          | zero => show V.own id (if id = id then S.nv id else 0) off len = _; rw [if_pos rfl]; rfl
          | succ i => rfl
      | ptr i ver k j =>
        cases i with
        | zero => rfl
        | succ i =>
          cases i with
          | zero => show V.ptr id (if id = id then S.nv id else 0) k j = _; rw [if_pos rfl]; rfl
          | succ i => rfl
      | fn f caps => cases caps <;> rfl
      | _ => rfl
    have ha : ∀ y : A, y.back false [id] (fun x => if x = id then S.nv id else 0) = y.back false [id] (fun _ => S.nv id) := by
      intro y
      cases y with
      | c u => exact congrArg A.c (hb u)
      | g cs => exact congrArg A.g (List.map_congr_left fun u _ => hb u)
      | t ys => rfl
    cases res with
    | t ys => exact congrArg A.t (List.map_congr_left fun y _ => ha y)
    | c u => exact ha (.c u)
    | g cs => exact ha (.g cs)
  have e4 : bumpL ([] ++ [id]) [false] = [id] := rfl
  rw [e2, e3, e4] at this
  exact this
theorem chkc {α : Type} {c : Prop} [Decidable c] {x : Option α} {r : α} {P : Prop} (h : (if c then x else none) = some r) (k : c → x = some r → P) : P := k (chk h).1 (chk h).2
theorem bndc {α β : Type} {x : Option α} {f : α → Option β} {r : β} {P : Prop} (h : x.bind f = some r) (k : ∀ y, x = some y → f y = some r → P) : P :=
  let ⟨y, h1, h2⟩ := bnd2 h
  k y h1 h2
end Go.Eng
