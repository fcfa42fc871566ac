/- Addresses, fields, indices, cuts: operations that leave the world as it is, over rows and blocks. -/
import Derived.Test.YtemgbggfhohfeaaEng5
set_option linter.unusedVariables false
set_option linter.unusedSimpArgs false
namespace Go.Eng
section
variable {F : Fr} {S : St} {o : Oper} {T : Tab}

theorem inv_ptr {E : Cx} {id ver k j : Nat} {c : Value} (h : RA E (.c (.ptr id ver k j)) c) : ∃ a, c = .pointer (some a) ∧ ver < E.nv id ∧ ∀ B, E.H id = some B → B.ver = ver → ∃ b o n, E.β id = some (b, o, n) ∧ a = ⟨b, o + k * B.es + j, none⟩ := by
  cases inv_c h with
  | c h => cases h
  | ptr p id ver k j a hv h' => exact ⟨a, rfl, hv, h'⟩
theorem inv_ip {E : Cx} {es k j : Nat} {xs : List (List V)} {c : Value} (h : RA E (.c (.ip es xs k j)) c) : ∃ b off n cap, c = .pointer (some ⟨b, off + k * es + j, none⟩) ∧ RC E.w E.σ [] (.row false es xs) (.slice (some ⟨b, off, none⟩) n cap) := by
  cases inv_c h with
  | c h => cases h
  | ip p es xs k j b off n cap h' => exact ⟨b, off, n, cap, rfl, h'⟩
theorem inv_own {E : Cx} {id ver off len : Nat} {c : Value} (h : RA E (.c (.own id ver off len)) c) : ∃ A cap, c = .slice A len cap ∧ ver < E.nv id ∧ len ≤ cap ∧ cap ≤ maxLen ∧ ∀ B, E.H id = some B → B.ver = ver → off + len ≤ B.xs.length ∧ OwnAt E id off cap B.es A := by
  cases inv_c h with
  | c h => cases h
  | own p id ver off len A n cap hn hv hcap hmax h' => subst hn; exact ⟨A, cap, rfl, hv, hcap, hmax, h'⟩
theorem inv_row {E : Cx} {o : Bool} {es : Nat} {xs : List (List V)} {c : Value} (h : RA E (.c (.row o es xs)) c) : ∃ A cap, c = .slice A xs.length cap ∧ RC E.w E.σ [] (.row o es xs) (.slice A xs.length cap) := by
  cases inv_c h with
  | c h =>
    have h0 := h
    cases h with
    | row p o es xs A n cap b off cs hn hcap hmax hA hT hx hc hr => subst hn; exact ⟨A, cap, rfl, h0⟩

theorem add_plain (b off n : Nat) : (⟨b, off, none⟩ : Addr).add n = ⟨b, off + n, none⟩ := by
  unfold Addr.add; split <;> simp_all

theorem ok_nilCheck {x : Operand} (h : o.op = .nilCheck x) (sh : List Nat) {v : V} (hx : S.val sh x = .c v) (hv : (match v with | .ptr .. => true | .ip .. => true | _ => false) = true) : PureOk F o S (.c v) := by
  intro ac w σ β hs
  have h1 := val_ok hs sh x
  rw [hx] at h1
  refine ⟨ac.eval x, ?_, h1⟩
  cases v with
  | ptr id ver k j => obtain ⟨a, e, _⟩ := inv_ptr h1; simp [execOp, h, e]
  | ip es xs k j => obtain ⟨b, off, n, cap, e, _⟩ := inv_ip h1; simp [execOp, h, e]
  | _ => simp at hv

/-- The offset of field f in type s. -/
def fOff (T : Tab) (s f : Nat) : Option Nat :=
  match tg T s with
  | some i => match i.k with
    | .struct gs => match gs[f]? with
      | some (off, ft) => match tg T ft with
        | some j => if j.size = 0 then none else some off
        | none => none
      | none => none
    | _ => none
  | none => none
theorem fOff_run {P : Program} {T : Tab} (hT : TabOk P T) {s f off : Nat} (h : fOff T s f = some off) (a : Addr) (w : World) : (Instr.fieldAt s (.pointer (some a)) f).run P w = .ok (.pointer (some (a.add off))) w := by
  unfold fOff at h
  cases e1 : tg T s with
  | none => rw [e1] at h; simp at h
  | some i =>
    rw [e1] at h
    cases e2 : i.k with
    | struct gs =>
      simp only [e2] at h
      cases e3 : gs[f]? with
      | none => rw [e3] at h; simp at h
      | some q =>
        obtain ⟨off', ft⟩ := q
        rw [e3] at h
        cases e4 : tg T ft with
        | none => simp [e4] at h
        | some j =>
          simp only [e4] at h
          split at h
          · cases h
          · rename_i hj
            cases h
            obtain ⟨fs, u1, u2⟩ := (hT.ty e1).struct e2
            have hf : ∃ fd, fs[f]? = some fd ∧ fd.offset = off ∧ fd.type = ft := by
              rw [← u2] at e3
              rw [List.getElem?_map] at e3
              obtain ⟨fd, h1, h2⟩ := Option.map_eq_some_iff.1 e3
              simp only [Prod.mk.injEq] at h2
              exact ⟨fd, by simpa using h1, h2.1, h2.2⟩
            obtain ⟨fd, h1, h2, h3⟩ := hf
            have hsz := (hT.ty e4).sizeOf w
            rw [← h3] at hsz
            simp [Instr.fieldAt, run_underlying u1, h1, Instr.sureAddr, fieldPlace, hsz, hj, h2]
    | _ => simp [e2] at h

theorem ok_fieldP (hT : TabOk F.P T) {s f : Nat} {x : Operand} (h : o.op = .fieldAddr s x f) {id ver k j off : Nat} (hx : S.val [] x = .c (.ptr id ver k j)) (hf : fOff T s f = some off) : PureOk F o S (.c (.ptr id ver k (j + off))) := by
  intro ac w σ β hs
  have h1 := val_ok hs [] x
  rw [hx] at h1
  obtain ⟨a, e, hv, hB⟩ := inv_ptr h1
  refine ⟨.pointer (some (a.add off)), by simp [execOp, h, e, fOff_run hT hf], .c (.ptr _ _ _ _ _ _ hv fun B hB' hver => ?_)⟩
  obtain ⟨b, o', n, e1, e2⟩ := hB B hB' hver
  exact ⟨b, o', n, e1, by rw [e2, add_plain, Nat.add_assoc]⟩
theorem ok_fieldI (hT : TabOk F.P T) {s f : Nat} {x : Operand} (h : o.op = .fieldAddr s x f) {es k j off : Nat} {xs : List (List V)} (hx : S.val [] x = .c (.ip es xs k j)) (hf : fOff T s f = some off) : PureOk F o S (.c (.ip es xs k (j + off))) := by
  intro ac w σ β hs
  have h1 := val_ok hs [] x
  rw [hx] at h1
  obtain ⟨b, o', n, cap, e, hB⟩ := inv_ip h1
  refine ⟨.pointer (some ⟨b, o' + k * es + (j + off), none⟩), by simp [execOp, h, e, fOff_run hT hf, add_plain, Nat.add_assoc], .c (.ip _ _ _ _ _ _ _ _ _ hB)⟩

/-! ### indexAddr -/
def eSize (T : Tab) (t : Nat) : Option Nat :=
  match tg T t with
  | some i => match i.k with
    | .slice e => match tg T e with | some j => some j.size | none => none
    | _ => none
  | none => none
theorem eSize_run {P : Program} {T : Tab} (hT : TabOk P T) {t n : Nat} (h : eSize T t = some n) : ∃ e j, P.underlying t = some (.slice e) ∧ tg T e = some j ∧ j.size = n := by
  unfold eSize at h
  cases e1 : tg T t with
  | none => rw [e1] at h; simp at h
  | some i =>
    rw [e1] at h
    cases e2 : i.k with
    | slice e =>
      simp only [e2] at h
      cases e3 : tg T e with
      | none => simp [e3] at h
      | some j =>
        simp only [e3, Option.some.injEq] at h
        exact ⟨e, j, (hT.ty e1).slice e2, e3, h⟩
    | _ => simp [e2] at h

theorem index_run {P : Program} {T : Tab} (hT : TabOk P T) {t n : Nat} (h : eSize T t = some n) (a : Addr) (len cap : Nat) (k : IntKind) (i : Int) (h0 : 0 ≤ i) (h1 : i < len) (w : World) :
    (Instr.indexAt t (.slice (some a) len cap) (.int k i)).run P w = .ok (.pointer (some (a.add (i.toNat * n)))) w := by
  obtain ⟨e, j, u1, u2, u3⟩ := eSize_run hT h
  have hsz := (hT.ty u2).sizeOf w
  simp [Instr.indexAt, asIntOf, run_underlying u1, h0, h1, hsz, u3]

theorem ok_indexO (hT : TabOk F.P T) {t : Nat} {x ix : Operand} (h : o.op = .indexAddr t x ix) {id ver off len : Nat} {k : IntKind} {i : Int} (hx : S.val [] x = .c (.own id ver off len)) (hi : S.val [] ix = .c (.int k i)) {B : Blk} (hB : S.H id = some B) (hver : B.ver = ver) (hes : eSize T t = some B.es) (h0 : 0 ≤ i) (h1 : i < len) :
    PureOk F o S (.c (.ptr id ver (off + i.toNat) 0)) := by
  intro ac w σ β hs
  have g1 := val_ok hs [] x
  have g2 := val_ok hs [] ix
  rw [hx] at g1
  rw [hi] at g2
  have e2 := inv_int g2
  obtain ⟨A, cap, e1, hv, hcap, hmax, hb⟩ := inv_own g1
  obtain ⟨hlen, hat⟩ := hb B hB hver
  have hlt : i.toNat < len := by omega
  rcases hat with hat | ⟨b, o', n, e3, rfl, hn⟩
  · omega
  · refine ⟨.pointer (some ⟨b, o' + (off + i.toNat) * B.es, none⟩), ?_, .c (.ptr _ _ _ _ _ _ hv fun B' hB' hver' => ?_)⟩
    · simp [execOp, h, e1, e2, index_run hT hes _ _ _ _ _ h0 h1, add_plain, Nat.add_mul, Nat.add_assoc]
    · have : B' = B := by
        have h3 : S.H id = some B' := hB'
        rw [hB] at h3
        exact (Option.some.inj h3).symm
      subst this
      exact ⟨b, o', n, e3, by simp⟩
theorem ok_indexR (hT : TabOk F.P T) {t : Nat} {x ix : Operand} (h : o.op = .indexAddr t x ix) {ob : Bool} {es : Nat} {xs : List (List V)} {k : IntKind} {i : Int} (hx : S.val [] x = .c (.row ob es xs)) (hi : S.val [] ix = .c (.int k i)) (hes : eSize T t = some es) (h0 : 0 ≤ i) (h1 : i < xs.length) (hob : ob = false) :
    PureOk F o S (.c (.ip es xs i.toNat 0)) := by
  subst hob
  intro ac w σ β hs
  have g1 := val_ok hs [] x
  have g2 := val_ok hs [] ix
  rw [hx] at g1
  rw [hi] at g2
  have e2 := inv_int g2
  obtain ⟨A, cap, e1, hR⟩ := inv_row g1
  have hlt : 0 < xs.length := by omega
  have hA : ∃ b off, A = some ⟨b, off, none⟩ := by
    cases hR with
    | row p o es xs A n cap b off cs hn hcap hmax hA hT hx hc hr => exact ⟨b, off, hA hlt⟩
  obtain ⟨b, off, rfl⟩ := hA
  refine ⟨.pointer (some ⟨b, off + i.toNat * es + 0, none⟩), ?_, .c (.ip _ _ _ _ _ _ _ _ _ hR)⟩
  simp [execOp, h, e1, e2, index_run hT hes _ _ _ _ _ h0 h1, add_plain]

/-- An index into an array behind an address. -/
theorem ok_indexA (hT : TabOk F.P T) {t : Nat} {x ix : Operand} (h : o.op = .indexAddr t x ix) {id ver k0 j0 n e : Nat} {k : IntKind} {i : Int} {ti te : TI} (hx : S.val [] x = .c (.ptr id ver k0 j0)) (hi : S.val [] ix = .c (.int k i)) (ht : tg T t = some ti) (hk : ti.k = .array n e) (he : tg T e = some te) (h0 : 0 ≤ i) (h1 : i < n) :
    PureOk F o S (.c (.ptr id ver k0 (j0 + i.toNat * te.size))) := by
  intro ac w σ β hs
  have g1 := val_ok hs [] x
  have g2 := val_ok hs [] ix
  rw [hx] at g1
  rw [hi] at g2
  have e2 := inv_int g2
  obtain ⟨a, e1, hv, hB⟩ := inv_ptr g1
  have u1 := (hT.ty ht).array hk
  have hsz := (hT.ty he).sizeOf w
  refine ⟨.pointer (some (a.add (i.toNat * te.size))), ?_, .c (.ptr _ _ _ _ _ _ hv fun B hB' hver => ?_)⟩
  · simp [execOp, h, e1, e2, Instr.indexAt, asIntOf, run_underlying u1, Instr.sureAddr, hsz, h0, h1]
  · obtain ⟨b, o', m, f1, f2⟩ := hB B hB' hver
    exact ⟨b, o', m, f1, by rw [f2, add_plain, Nat.add_assoc]⟩

/-! ### A byte of a string -/
theorem ok_indexS (hT : TabOk F.P T) {t : Nat} {x ix : Operand} (h : o.op = .index t x ix) {s : ByteArray} {k : IntKind} {i : Int} {ti : TI} (ht : tg T t = some ti) (hk : ti.k = .str) (hx : S.val [] x = .c (.str s)) (hi : S.val [] ix = .c (.int k i)) (h0 : 0 ≤ i) (h1 : i < s.size) :
    PureOk F o S (.c (.int .u8 ((s.data.toList.getD i.toNat 0).toNat : Nat))) := by
  intro ac w σ β hs
  have g1 := val_ok hs [] x
  have g2 := val_ok hs [] ix
  rw [hx] at g1
  rw [hi] at g2
  have e1 := inv_str g1
  have e2 := inv_int g2
  have u1 := (hT.ty ht).str hk
  have hlt : i.toNat < s.size := by omega
  have hg : s[i.toNat]? = some (s[i.toNat]'hlt) := getElem?_pos s i.toNat hlt
  have hd : s.data.toList.getD i.toNat 0 = s[i.toNat]'hlt := by
    have : i.toNat < s.data.toList.length := by simpa using hlt
    rw [List.getD_eq_getElem?_getD, List.getElem?_eq_getElem this]
    rfl
  refine ⟨.int .u8 ((s[i.toNat]'hlt).toNat : Nat), ?_, by rw [hd]; exact int_ok _ _⟩
  simp [execOp, h, e1, e2, Instr.index, asIntOf, run_underlying u1, h0, hg]

/-! ### len -/
theorem ok_len (hT : TabOk F.P T) {t : Nat} {x : Operand} (h : o.op = .call { callee := .builtin .len, args := #[x], argTypes := #[t] }) {ti : TI} (ht : tg T t = some ti) {n : Nat} (sh : List Nat)
    (hx : (∃ e, ti.k = .slice e ∧ ((∃ id ver off, S.val sh x = .c (.own id ver off n)) ∨ ∃ ob es xs, S.val sh x = .c (.row ob es xs) ∧ xs.length = n)) ∨ (ti.k = .str ∧ ∃ s, S.val sh x = .c (.str s) ∧ s.size = n)) : PureOk F o S (.c (.int .i64 n)) := by
  intro ac w σ β hs
  have g1 := val_ok hs sh x
  refine ⟨.int .i64 n, ?_, int_ok _ _⟩
  rcases hx with ⟨e, hk, hx⟩ | ⟨hk, s, hx, rfl⟩
  · have u1 := (hT.ty ht).slice hk
    have hv : ∃ A cap, ac.eval x = .slice A n cap := by
      rcases hx with ⟨id, ver, off, hx⟩ | ⟨ob, es, xs, hx, rfl⟩
      · rw [hx] at g1
        obtain ⟨A, cap, e1, _⟩ := inv_own g1
        exact ⟨A, cap, e1⟩
      · rw [hx] at g1
        obtain ⟨A, cap, e1, _⟩ := inv_row g1
        exact ⟨A, cap, e1⟩
    obtain ⟨A, cap, e1⟩ := hv
    simp [execOp, h, resolve, invoke, builtin, e1, Builtin.len_, run_underlying u1, goInt]
  · have u1 := (hT.ty ht).str hk
    rw [hx] at g1
    have e1 := inv_str g1
    simp [execOp, h, resolve, invoke, builtin, e1, Builtin.len_, run_underlying u1, goInt]

/-! ### extract, makeFunc -/
theorem ok_extract {x : Operand} {n : Nat} (h : o.op = .extract x n) {xs : List A} {v : A} (hx : S.val [] x = .t xs) (hv : xs[n]? = some v) : PureOk F o S v := by
  intro ac w σ β hs
  have g1 := val_ok hs [] x
  rw [hx] at g1
  generalize hc : ac.eval x = c at g1
  cases g1 with
  | t xs arr cv hsz h1 h2 =>
    exact ⟨cv n, by simp [execOp, h, hc, Instr.extract, h1 n v hv], h2 n v hv⟩

theorem ok_makeFunc {f : FuncId} {caps : Array Operand} (h : o.op = .makeFunc (.func f) #[] caps) {vs : List V} (hl : vs.length = caps.size) (hv : ∀ (i : Nat) x v, caps[i]? = some x → vs[i]? = some v → S.val [] x = .c v) : PureOk F o S (.c (.fn f vs)) := by
  intro ac w σ β hs
  refine ⟨.func (.func f) #[] (caps.map ac.eval), by simp [execOp, h, Instr.makeFunc], .c (.fn _ f vs _ (fun i => (caps.map ac.eval).getD i undef) (by simp [hl]) (fun i v hi => ?_) (fun i v hi => ?_))⟩
  · have hlt : i < caps.size := by rw [← hl]; exact (List.getElem?_eq_some_iff.1 hi).1
    simp [Array.getD_eq_getD_getElem?, hlt]
  · have hlt : i < caps.size := by rw [← hl]; exact (List.getElem?_eq_some_iff.1 hi).1
    have h1 := val_ok hs [] caps[i]
    rw [hv i caps[i] v (Array.getElem?_eq_getElem hlt) hi] at h1
    have h2 := inv_c h1
    simpa [Array.getD_eq_getD_getElem?, hlt] using h2
end
end Go.Eng
