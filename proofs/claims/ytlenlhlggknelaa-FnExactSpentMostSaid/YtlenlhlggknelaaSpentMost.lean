/- The program's SpentMost returns what the reference's returns, for all arguments: no condition. -/
import Derived.Test.YtlenlhlggknelaaTab
set_option linter.unusedVariables false
namespace Go.Proofs.Ytlenlhlggknelaa
open Go.Eng
def I (n : Int) : V := .int .i64 n
theorem sp15 (a b c d e f : Int) : Sp Try.prog 15 [.g [I a, I b, I c, I d, I e, I f]] [] (.c (I (IntKind.i64.wrap (4 + d)))) [] := by
  refine Sp.of_W tabOk Try.func15 rfl rfl (by decide) (Nat.le_of_ble_eq_true rfl) fun F hP hN hm => ?_
  have he : Env F tab := ⟨by rw [hm]; decide, by rw [hP]; exact tabOk⟩
  have hf : ∀ l, fitsB 6 l = true → fitsB F.N l = true := fun l h => by rw [hN]; exact h
  refine W_seq (W_reg he (hf _ rfl) ?_)
  refine g0 (sBx rfl [] rfl rfl 101 rfl) rfl ?_
  refine g0 (sA rfl [] rfl) rfl (ge ?_)
  refine W_seq (W_reg he (hf _ rfl) ?_)
  refine g0 (sFP rfl rfl rfl) rfl ?_
  refine g0 (sLd rfl rfl) rfl ?_
  refine g0 (sBi rfl rfl rfl rfl) rfl ?_
  refine g0 (sA rfl [] rfl) rfl (ge ?_)
  exact R0 rfl rfl

theorem sp17 (a b c d e f : Int) : Sp Try.prog 17 [.g [I a, I b, I c, I d, I e, I f]] [] (.c (I (IntKind.i64.wrap (4 + d)))) [] := by
  refine Sp.of_W tabOk Try.func17 rfl rfl (by decide) (Nat.le_of_ble_eq_true rfl) fun F hP hN hm => ?_
  have he : Env F tab := ⟨by rw [hm]; decide, by rw [hP]; exact tabOk⟩
  have hf : ∀ l, fitsB 6 l = true → fitsB F.N l = true := fun l h => by rw [hN]; exact h
  refine W_seq (W_reg he (hf _ rfl) ?_)
  refine g0 (sBx rfl [] rfl rfl 101 rfl) rfl ?_
  refine g0 (sA rfl [] rfl) rfl (ge ?_)
  refine W_seq (W_reg he (hf _ rfl) ?_)
  refine g0 (sFP rfl rfl rfl) rfl ?_
  refine g0 (sLd rfl rfl) rfl ?_
  refine g0 (sBi rfl rfl rfl rfl) rfl ?_
  refine g0 (sA rfl [] rfl) rfl (ge ?_)
  exact R0 rfl rfl

theorem sp16 (a b c d e f : Int) : Sp Try.prog 16 [.g [I a, I b, I c, I d, I e, I f]] [] (.g [I a, I b, I c, I d, I e, I f]) [] := by
  refine Sp.of_W tabOk Try.func16 rfl rfl (by decide) (Nat.le_of_ble_eq_true rfl) fun F hP hN hm => ?_
  have he : Env F tab := ⟨by rw [hm]; decide, by rw [hP]; exact tabOk⟩
  have hf : ∀ l, fitsB 23 l = true → fitsB F.N l = true := fun l h => by rw [hN]; exact h
  refine W_seq (W_reg he (hf _ rfl) ?_)
  refine g0 (sBx rfl [] rfl rfl 101 rfl) rfl (g0 (sAl rfl rfl 102 rfl) rfl (ge ?_))
  refine W_seq (W_reg he (hf _ rfl) ?_)
  refine g0 (sAl rfl rfl 103 rfl) rfl (ge ?_)
  refine W_can [1,2,3] [101,102,103] (l := [(1,.c (.ptr _ _ _ _)),(2,.c (.ptr _ _ _ _)),(3,.c (.ptr _ _ _ _))]) (h := [(101,⟨_,_,[[.int _ _,.int _ _,.int _ _,.int _ _,.int _ _,.int _ _]]⟩),(102,⟨_,_,[[.int _ _,.int _ _,.int _ _,.int _ _,.int _ _,.int _ _]]⟩),(103,⟨_,_,[[.int _ _,.int _ _,.int _ _,.int _ _,.int _ _,.int _ _]]⟩)]) rfl rfl ?_
  refine W_seq (W_reg he (hf _ rfl) ?_)
  refine g0 (sFP rfl rfl rfl) rfl (g0 (sLd rfl rfl) rfl (g0 (sFP rfl rfl rfl) rfl (g0 (sSt rfl rfl [] rfl rfl) rfl (ge ?_))))
  refine W_can [1,2,3] [101,102,103] (l := [(1,.c (.ptr _ _ _ _)),(2,.c (.ptr _ _ _ _)),(3,.c (.ptr _ _ _ _))]) (h := [(101,⟨_,_,[[.int _ _,.int _ _,.int _ _,.int _ _,.int _ _,.int _ _]]⟩),(102,⟨_,_,[[.int _ _,.int _ _,.int _ _,.int _ _,.int _ _,.int _ _]]⟩),(103,⟨_,_,[[.int _ _,.int _ _,.int _ _,.int _ _,.int _ _,.int _ _]]⟩)]) rfl rfl ?_
  refine W_seq (W_reg he (hf _ rfl) ?_)
  refine g0 (sFP rfl rfl rfl) rfl (g0 (sLd rfl rfl) rfl (g0 (sFP rfl rfl rfl) rfl (g0 (sSt rfl rfl [] rfl rfl) rfl (ge ?_))))
  refine W_can [1,2,3] [101,102,103] (l := [(1,.c (.ptr _ _ _ _)),(2,.c (.ptr _ _ _ _)),(3,.c (.ptr _ _ _ _))]) (h := [(101,⟨_,_,[[.int _ _,.int _ _,.int _ _,.int _ _,.int _ _,.int _ _]]⟩),(102,⟨_,_,[[.int _ _,.int _ _,.int _ _,.int _ _,.int _ _,.int _ _]]⟩),(103,⟨_,_,[[.int _ _,.int _ _,.int _ _,.int _ _,.int _ _,.int _ _]]⟩)]) rfl rfl ?_
  refine W_seq (W_reg he (hf _ rfl) ?_)
  refine g0 (sFP rfl rfl rfl) rfl (g0 (sLd rfl rfl) rfl (g0 (sFP rfl rfl rfl) rfl (g0 (sSt rfl rfl [] rfl rfl) rfl (ge ?_))))
  refine W_can [1,2,3] [101,102,103] (l := [(1,.c (.ptr _ _ _ _)),(2,.c (.ptr _ _ _ _)),(3,.c (.ptr _ _ _ _))]) (h := [(101,⟨_,_,[[.int _ _,.int _ _,.int _ _,.int _ _,.int _ _,.int _ _]]⟩),(102,⟨_,_,[[.int _ _,.int _ _,.int _ _,.int _ _,.int _ _,.int _ _]]⟩),(103,⟨_,_,[[.int _ _,.int _ _,.int _ _,.int _ _,.int _ _,.int _ _]]⟩)]) rfl rfl ?_
  refine W_seq (W_reg he (hf _ rfl) ?_)
  refine g0 (sFP rfl rfl rfl) rfl (g0 (sLd rfl rfl) rfl (g0 (sFP rfl rfl rfl) rfl (g0 (sSt rfl rfl [] rfl rfl) rfl (ge ?_))))
  refine W_can [1,2,3] [101,102,103] (l := [(1,.c (.ptr _ _ _ _)),(2,.c (.ptr _ _ _ _)),(3,.c (.ptr _ _ _ _))]) (h := [(101,⟨_,_,[[.int _ _,.int _ _,.int _ _,.int _ _,.int _ _,.int _ _]]⟩),(102,⟨_,_,[[.int _ _,.int _ _,.int _ _,.int _ _,.int _ _,.int _ _]]⟩),(103,⟨_,_,[[.int _ _,.int _ _,.int _ _,.int _ _,.int _ _,.int _ _]]⟩)]) rfl rfl ?_
  refine W_seq (W_reg he (hf _ rfl) ?_)
  refine g0 (sFP rfl rfl rfl) rfl (g0 (sLd rfl rfl) rfl (g0 (sFP rfl rfl rfl) rfl (g0 (sSt rfl rfl [] rfl rfl) rfl (ge ?_))))
  refine W_can [1,2,3] [101,102,103] (l := [(1,.c (.ptr _ _ _ _)),(2,.c (.ptr _ _ _ _)),(3,.c (.ptr _ _ _ _))]) (h := [(101,⟨_,_,[[.int _ _,.int _ _,.int _ _,.int _ _,.int _ _,.int _ _]]⟩),(102,⟨_,_,[[.int _ _,.int _ _,.int _ _,.int _ _,.int _ _,.int _ _]]⟩),(103,⟨_,_,[[.int _ _,.int _ _,.int _ _,.int _ _,.int _ _,.int _ _]]⟩)]) rfl rfl ?_
  refine W_seq (W_reg he (hf _ rfl) ?_)
  refine g0 (sFP rfl rfl rfl) rfl (g0 (sLd rfl rfl) rfl (g0 (sFP rfl rfl rfl) rfl (g0 (sSt rfl rfl [] rfl rfl) rfl (ge ?_))))
  refine W_can [1,2,3] [101,102,103] (l := [(1,.c (.ptr _ _ _ _)),(2,.c (.ptr _ _ _ _)),(3,.c (.ptr _ _ _ _))]) (h := [(101,⟨_,_,[[.int _ _,.int _ _,.int _ _,.int _ _,.int _ _,.int _ _]]⟩),(102,⟨_,_,[[.int _ _,.int _ _,.int _ _,.int _ _,.int _ _,.int _ _]]⟩),(103,⟨_,_,[[.int _ _,.int _ _,.int _ _,.int _ _,.int _ _,.int _ _]]⟩)]) rfl rfl ?_
  refine W_seq (W_reg he (hf _ rfl) ?_)
  refine g0 (sLd rfl rfl) rfl (g0 (sSt rfl rfl [] rfl rfl) rfl (ge ?_))
  exact R0 rfl rfl

theorem ok15 : FnOk Try.prog 15 := ⟨_, Try.func15, rfl, rfl⟩
theorem ok16 : FnOk Try.prog 16 := ⟨_, Try.func16, rfl, rfl⟩
theorem ok17 : FnOk Try.prog 17 := ⟨_, Try.func17, rfl, rfl⟩
theorem sp3 (a b c d e f : Int) : Sp Try.prog 3 [.g [I a, I b, I c, I d, I e, I f]] [] (.c (.bool true)) [] := by
  refine Sp.of_W tabOk Try.func3 rfl rfl (by decide) (Nat.le_of_ble_eq_true rfl) fun F hP hN hm => ?_
  have he : Env F tab := ⟨by rw [hm]; decide, by rw [hP]; exact tabOk⟩
  have hf : ∀ l, fitsB 14 l = true → fitsB F.N l = true := fun l h => by rw [hN]; exact h
  refine W_seq (W_reg he (hf _ rfl) ?_)
  refine g0 (sBx rfl [] rfl rfl 101 rfl) rfl (g0 (sA rfl [] rfl) rfl (ge ?_))
  refine W_seq (W_reg he (hf _ rfl) ?_)
  refine g0 (sLd rfl rfl) rfl ?_
  refine g0 (sC0 rfl rfl rfl (hP ▸ ok16) (hP ▸ sp16 _ _ _ _ _ _) rfl) rfl ?_
  refine g0 (sC0 rfl rfl rfl (hP ▸ ok15) (hP ▸ sp15 _ _ _ _ _ _) rfl) rfl ?_
  refine g0 (sA rfl [] rfl) rfl (ge ?_)
  refine W_seq (W_reg he (hf _ rfl) ?_)
  refine g0 (sLd rfl rfl) rfl ?_
  refine g0 (sC0 rfl rfl rfl (hP ▸ ok16) (hP ▸ sp16 _ _ _ _ _ _) rfl) rfl ?_
  refine g0 (sC0 rfl rfl rfl (hP ▸ ok17) (hP ▸ sp17 _ _ _ _ _ _) rfl) rfl ?_
  refine g0 (sA rfl [] rfl) rfl (ge ?_)
  refine W_seq (W_seq (W_reg he (hf _ rfl) ?_))
  refine g0 (sM rfl [] rfl) rfl (g0 (sM rfl [] rfl) rfl ?_)
  refine gB (sBi rfl rfl rfl rfl) rfl rfl fun t ht => ?_
  have : t = false := by rw [← ht]; simp
  subst this
  refine ge ?_
  refine W_cond rfl ?_
  refine W_skip ?_
  refine W_seq (W_reg he (hf _ rfl) ?_)
  refine g0 (sA rfl [] rfl) rfl (ge ?_)
  exact R0 rfl rfl

theorem conf_of {x : A} (h : TA tab 23 x) : ∃ a b c d e f, x = .g [I a, I b, I c, I d, I e, I f] := by
  obtain ⟨ti, ls, h1, h2, h3⟩ := h
  cases h1
  cases h2
  rcases h3 with ⟨_, vs, rfl, hl, hv⟩ | ⟨h, _⟩
  · match vs, hl with
    | [a, b, c, d, e, f], _ =>
      have key : ∀ v, Lf tab 3 v → ∃ n, v = I n := by
        intro v h
        cases h with
        | int ht hk _ => cases ht; cases hk; exact ⟨_, rfl⟩
        | bool ht hk => cases ht; cases hk
        | str ht hk _ => cases ht; cases hk
        | row ht hk => cases ht; cases hk
      obtain ⟨a, rfl⟩ := key a (hv 0 _ _ rfl rfl)
      obtain ⟨b, rfl⟩ := key b (hv 1 _ _ rfl rfl)
      obtain ⟨c, rfl⟩ := key c (hv 2 _ _ rfl rfl)
      obtain ⟨d, rfl⟩ := key d (hv 3 _ _ rfl rfl)
      obtain ⟨e, rfl⟩ := key e (hv 4 _ _ rfl rfl)
      obtain ⟨f, rfl⟩ := key f (hv 5 _ _ rfl rfl)
      exact ⟨a, b, c, d, e, f, rfl⟩
  · cases h

theorem own : ownKnob Try.prog.godebug = none := by kernel_rfl
theorem laidOut : laidOutB Try.prog = true := by kernel_rfl
set_option maxRecDepth 100000 in
theorem spentMost_lifted (os : Os) (started : os.Started) (H : Type) (enc : TypeId × Value → H) :
    ReturnsInHanded {} Try.checked os 3 .any (Rows.fnExactSpentMostSpec.pre6 enc Try.prog Try.f3 Rows.fnExactSpentMostRow.domain false) (Rows.fnExactSpentMostSpec.post enc Try.prog Try.f3 false true false false) := by
  refine row_of_sp (C := Try.checked) (b := 4) own started laidOut (by kernel_rfl) Try.func3
    (ChangeSpec.witness6 (enc := enc) (C := Try.checked) false ⟨#[], #[.agg #[.int .i64 0, .int .i64 0, .int .i64 0, .int .i64 0, .int .i64 0, .int .i64 0]], []⟩ 8 (by kernel_rfl) (by kernel_rfl) (by kernel_rfl) (by kernel_rfl))
    tabOk rfl (fun ds h => ?_) rfl Try.underlying4 (by kernel_rfl) (by kernel_rfl) (fun xs h => ?_)
  · match ds, h with
    | [d], _ => rfl
  · match xs, h with
    | [x], h =>
      obtain ⟨a, b, c, d, e, f, rfl⟩ := conf_of h.1
      exact sp3 a b c d e f

theorem spentMost_holds : Rows.FnExactSpentMostSaid :=
  OpenClaim.holds_of_wide 3 Try.f3 rfl rfl rfl rfl rfl rfl rfl ⟨rfl, rfl, rfl, rfl, rfl⟩ rfl rfl rfl rfl rfl (by kernel_rfl) Try.func3 (by kernel_rfl)
    (of_decide_eq_true (by kernel_rfl)) (by unfold Func.isWrapper; first | (rw [if_pos (by decide +kernel)]; kernel_rfl) | (rw [if_neg (by decide +kernel)]; exact ⟨rfl, rfl⟩))
    (fun os started H enc _ => spentMost_lifted os started H enc)
#print axioms spentMost_holds
end Go.Proofs.Ytlenlhlggknelaa
