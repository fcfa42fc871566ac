/- What the functions compute that FnExactReadAll reaches, and that they do; no condition. Printed by gen3.py. -/
import Derived.Test.YtjdblamhaljjbaaGreatFReadAllTa
set_option linter.all false
set_option maxRecDepth 20000
namespace Go.Proofs.YtjdblamhaljjbaaGreat
open Go.Eng
noncomputable section
theorem sp_161 (K : Nat) : OkF 134 (c_161 K) :=
 ctrF (x := x_161 K) (L := []) (c0 := bd Tryz.f134) (xkF (gam_cons (sp_157 K) (gam_cons (sp_160 K) gam_nil)) ov_nil) (by intro a0 a1; show @Eq _ _ _; kernel_rfl) cuts_nil Tryz.func134 trivial
def l_laws_eqNodeS_1 (K : Nat) (a0 : List T_impl_Node) (a1 : List T_impl_Node) : Nat -> Int -> Option (Bool)
 | 0, _ => none
 | n1 + 1, v1 => (bif (decide (v1 < (a0.length : Int))) then (if (0 : Int) ≤ v1 ∧ v1 < (a0.length : Int) then (if (0 : Int) ≤ v1 ∧ v1 < (a1.length : Int) then ((m_laws_eqNode K (gt a0 v1) (gt a1 v1)).bind fun r2 => (bif (!r2) then some false else (l_laws_eqNodeS_1 K a0 a1 n1 (iAdd .i64 v1 1)))) else none) else none) else some true)
def m_laws_eqNodeS (K : Nat) (a0 : List T_impl_Node) (a1 : List T_impl_Node) : Option (Bool) := (bif ((a0.length : Int) != (a1.length : Int)) then some false else (l_laws_eqNodeS_1 K a0 a1 K 0))
def s_162 : Sig := ⟨[.v 29, .v 29], [.v 4], true⟩
def c_162 (K : Nat) : Ctr tyU := ⟨s_162, m_laws_eqNodeS K⟩
def x_162 (K : Nat) := xF s_162 [(134, c_161 K)] [] 27 [] [] [] [] [.tmp 4]
def h_162_58 : Shape := ⟨[(0, .v 29), (1, .v 29), (5, .v 2)], []⟩
def M_162_58 (K : Nat) (n : Nat) (q : PT h_162_58) : Rt s_162 := l_laws_eqNodeS_1 K q.1 q.2.1 n q.2.2.1
theorem e_162_58 (K : Nat) : AtL (x_162 K) (fun n => []) [] (bd Tryz.f73) 58 (M_162_58 K) := fun n q => by kernel_rfl
theorem xk_162 (K : Nat) : XF [.tmp 4] s_162 27 [] (x_162 K) := xkF (gam_cons (sp_161 K) gam_nil) ov_nil
theorem k_162_58 (K : Nat) (n : Nat) : CF [.tmp 4] s_162 27 [] (bd Tryz.f73) [] 58 (ar h_162_58 (M_162_58 K n)) :=
 loopF (xk_162 K) (e_162_58 K) (fun n => cuts_nil) n
theorem sp_162 (K : Nat) : OkF 73 (c_162 K) :=
 ctrF (x := x_162 K) (L := [(58, ar h_162_58 (M_162_58 K K))]) (c0 := bd Tryz.f73) (xk_162 K) (by intro a0 a1; show @Eq _ _ _; kernel_rfl) (cuts_cons (k_162_58 K K) cuts_nil) Tryz.func73 trivial
def m_laws_eqWaste (K : Nat) (a0 : T_impl_Waste) (a1 : T_impl_Waste) : Option (Bool) := (bif (a0.fSlot != a1.fSlot) then some false else (bif (a0.fFirst != a1.fFirst) then some false else ((m_laws_eqIntS K a0.fTags a1.fTags).bind fun r1 => (bif (!r1) then some false else ((m_laws_eqIntS K a0.fChunks a1.fChunks).bind fun r2 => (bif (!r2) then some false else (bif (a0.fDone != a1.fDone) then some false else some true)))))))
def s_163 : Sig := ⟨[.v 159, .v 159], [.v 4], true⟩
def c_163 (K : Nat) : Ctr tyU := ⟨s_163, m_laws_eqWaste K⟩
def x_163 (K : Nat) := xF s_163 [(75, c_157 K)] [] 32 [] [] [] [] [.tmp 4]
theorem sp_163 (K : Nat) : OkF 135 (c_163 K) :=
 ctrF (x := x_163 K) (L := []) (c0 := bd Tryz.f135) (xkF (gam_cons (sp_157 K) gam_nil) ov_nil) (by intro a0 a1; show @Eq _ _ _; kernel_rfl) cuts_nil Tryz.func135 trivial
def l_laws_eqWasteS_1 (K : Nat) (a0 : List T_impl_Waste) (a1 : List T_impl_Waste) : Nat -> Int -> Option (Bool)
 | 0, _ => none
 | n1 + 1, v1 => (bif (decide (v1 < (a0.length : Int))) then (if (0 : Int) ≤ v1 ∧ v1 < (a0.length : Int) then (if (0 : Int) ≤ v1 ∧ v1 < (a1.length : Int) then ((m_laws_eqWaste K (gt a0 v1) (gt a1 v1)).bind fun r2 => (bif (!r2) then some false else (l_laws_eqWasteS_1 K a0 a1 n1 (iAdd .i64 v1 1)))) else none) else none) else some true)
def m_laws_eqWasteS (K : Nat) (a0 : List T_impl_Waste) (a1 : List T_impl_Waste) : Option (Bool) := (bif ((a0.length : Int) != (a1.length : Int)) then some false else (l_laws_eqWasteS_1 K a0 a1 K 0))
def s_164 : Sig := ⟨[.v 30, .v 30], [.v 4], true⟩
def c_164 (K : Nat) : Ctr tyU := ⟨s_164, m_laws_eqWasteS K⟩
def x_164 (K : Nat) := xF s_164 [(135, c_163 K)] [] 27 [] [] [] [] [.tmp 4]
def h_164_58 : Shape := ⟨[(0, .v 30), (1, .v 30), (5, .v 2)], []⟩
def M_164_58 (K : Nat) (n : Nat) (q : PT h_164_58) : Rt s_164 := l_laws_eqWasteS_1 K q.1 q.2.1 n q.2.2.1
theorem e_164_58 (K : Nat) : AtL (x_164 K) (fun n => []) [] (bd Tryz.f74) 58 (M_164_58 K) := fun n q => by kernel_rfl
theorem xk_164 (K : Nat) : XF [.tmp 4] s_164 27 [] (x_164 K) := xkF (gam_cons (sp_163 K) gam_nil) ov_nil
theorem k_164_58 (K : Nat) (n : Nat) : CF [.tmp 4] s_164 27 [] (bd Tryz.f74) [] 58 (ar h_164_58 (M_164_58 K n)) :=
 loopF (xk_164 K) (e_164_58 K) (fun n => cuts_nil) n
theorem sp_164 (K : Nat) : OkF 74 (c_164 K) :=
 ctrF (x := x_164 K) (L := [(58, ar h_164_58 (M_164_58 K K))]) (c0 := bd Tryz.f74) (xk_164 K) (by intro a0 a1; show @Eq _ _ _; kernel_rfl) (cuts_cons (k_164_58 K K) cuts_nil) Tryz.func74 trivial
def m_laws_eqWorld (K : Nat) (a0 : T_impl_World) (a1 : T_impl_World) : Option (Bool) := ((m_laws_eqConf K a0.fC a1.fC).bind fun r1 => (bif (!r1) then some false else ((m_laws_eqPool K a0.fP a1.fP).bind fun r2 => (bif (!r2) then some false else ((m_laws_eqNodeS K a0.fL a1.fL).bind fun r3 => (bif (!r3) then some false else ((m_laws_eqWasteS K a0.fQ a1.fQ).bind fun r4 => (bif (!r4) then some false else ((m_laws_eqIntS K a0.fLog a1.fLog).bind fun r5 => (bif (!r5) then some false else some true))))))))))
def s_165 : Sig := ⟨[.v 32, .v 32], [.v 4], true⟩
def c_165 (K : Nat) : Ctr tyU := ⟨s_165, m_laws_eqWorld K⟩
def x_165 (K : Nat) := xF s_165 [(71, c_156 K), (72, c_158 K), (73, c_162 K), (74, c_164 K), (75, c_157 K)] [] 35 [] [] [] [] [.tmp 4]
theorem sp_165 (K : Nat) : OkF 23 (c_165 K) :=
 ctrF (x := x_165 K) (L := []) (c0 := bd Tryz.f23) (xkF (gam_cons (sp_156 K) (gam_cons (sp_158 K) (gam_cons (sp_162 K) (gam_cons (sp_164 K) (gam_cons (sp_157 K) gam_nil))))) ov_nil) (by intro a0 a1; show @Eq _ _ _; kernel_rfl) cuts_nil Tryz.func23 trivial
def l_laws_markByteS_1 (K : Nat) : Nat -> (List Int) -> Int -> Int -> Option (Int × (List Int))
 | 0, _, _, _ => none
 | n1 + 1, v1, v2, v3 => (bif (decide (v3 < (v1.length : Int))) then (if (0 : Int) ≤ v3 ∧ v3 < (v1.length : Int) then (l_laws_markByteS_1 K n1 (v1.set v3.toNat (IntKind.u8.wrap v2)) (iAdd .i64 v2 1) (iAdd .i64 v3 1)) else none) else some (v2, v1))
def m_laws_markByteS (K : Nat) (a0 : List Int) (a1 : Int) : Option (Int × (List Int)) := (l_laws_markByteS_1 K K a0 a1 0)
def s_166 : Sig := ⟨[.w 22 true [(5, true)], .v 3], [.v 3], true⟩
def c_166 (K : Nat) : Ctr tyU := ⟨s_166, m_laws_markByteS K⟩
def x_166 (K : Nat) := xF s_166 [] [] 20 [] [] [] [] [.tmp 4]
def h_166_26 : Shape := ⟨[(0, .o 1 5 true), (1, .v 2), (5, .v 2)], []⟩
def M_166_26 (K : Nat) (n : Nat) (q : PT h_166_26) : Rt s_166 := l_laws_markByteS_1 K n q.1 q.2.1 q.2.2.1
theorem e_166_26 (K : Nat) : AtL (x_166 K) (fun n => []) [] (bd Tryz.f29) 26 (M_166_26 K) := fun n q => by kernel_rfl
theorem xk_166 (K : Nat) : XF [.tmp 4] s_166 20 [] (x_166 K) := xkF gam_nil ov_nil
theorem k_166_26 (K : Nat) (n : Nat) : CF [.tmp 4] s_166 20 [] (bd Tryz.f29) [] 26 (ar h_166_26 (M_166_26 K n)) :=
 loopF (xk_166 K) (e_166_26 K) (fun n => cuts_nil) n
theorem sp_166 (K : Nat) : OkF 29 (c_166 K) :=
 ctrF (x := x_166 K) (L := [(26, ar h_166_26 (M_166_26 K K))]) (c0 := bd Tryz.f29) (xk_166 K) (by intro a0 a1; show @Eq _ _ _; kernel_rfl) (cuts_cons (k_166_26 K K) cuts_nil) Tryz.func29 ⟨fun _ => rfl, trivial⟩
def l_laws_markIntS_1 (K : Nat) : Nat -> (List Int) -> Int -> Int -> Option (Int × (List Int))
 | 0, _, _, _ => none
 | n1 + 1, v1, v2, v3 => (bif (decide (v3 < (v1.length : Int))) then (if (0 : Int) ≤ v3 ∧ v3 < (v1.length : Int) then (l_laws_markIntS_1 K n1 (v1.set v3.toNat v2) (iAdd .i64 v2 1) (iAdd .i64 v3 1)) else none) else some (v2, v1))
def m_laws_markIntS (K : Nat) (a0 : List Int) (a1 : Int) : Option (Int × (List Int)) := (l_laws_markIntS_1 K K a0 a1 0)
def s_167 : Sig := ⟨[.w 26 true [(3, true)], .v 3], [.v 3], true⟩
def c_167 (K : Nat) : Ctr tyU := ⟨s_167, m_laws_markIntS K⟩
def x_167 (K : Nat) := xF s_167 [] [] 19 [] [] [] [] [.tmp 4]
def h_167_26 : Shape := ⟨[(0, .o 1 3 true), (1, .v 2), (5, .v 2)], []⟩
def M_167_26 (K : Nat) (n : Nat) (q : PT h_167_26) : Rt s_167 := l_laws_markIntS_1 K n q.1 q.2.1 q.2.2.1
theorem e_167_26 (K : Nat) : AtL (x_167 K) (fun n => []) [] (bd Tryz.f81) 26 (M_167_26 K) := fun n q => by kernel_rfl
theorem xk_167 (K : Nat) : XF [.tmp 4] s_167 19 [] (x_167 K) := xkF gam_nil ov_nil
theorem k_167_26 (K : Nat) (n : Nat) : CF [.tmp 4] s_167 19 [] (bd Tryz.f81) [] 26 (ar h_167_26 (M_167_26 K n)) :=
 loopF (xk_167 K) (e_167_26 K) (fun n => cuts_nil) n
theorem sp_167 (K : Nat) : OkF 81 (c_167 K) :=
 ctrF (x := x_167 K) (L := [(26, ar h_167_26 (M_167_26 K K))]) (c0 := bd Tryz.f81) (xk_167 K) (by intro a0 a1; show @Eq _ _ _; kernel_rfl) (cuts_cons (k_167_26 K K) cuts_nil) Tryz.func81 ⟨fun _ => rfl, trivial⟩
def m_laws_markPool (K : Nat) (a0 : T_impl_Pool) (a1 : Int) : Option (Int × (List Int) × (List Int) × (List Int)) := ((m_laws_markByteS K a0.fMem a1).bind fun r1 => (if r1.2.length = a0.fMem.length then ((m_laws_markIntS K a0.fSt r1.1).bind fun r2 => (if r2.2.length = a0.fSt.length then ((m_laws_markIntS K a0.fOwn r2.1).bind fun r3 => (if r3.2.length = a0.fOwn.length then some (r3.1, r1.2, r2.2, r3.2) else none)) else none)) else none))
def s_168 : Sig := ⟨[.w 28 true [(5, true), (3, true), (3, true)], .v 3], [.v 3], true⟩
def c_168 (K : Nat) : Ctr tyU := ⟨s_168, m_laws_markPool K⟩
def x_168 (K : Nat) := xF s_168 [(29, c_166 K), (81, c_167 K)] [] 18 [] [] [] [] [.tmp 4]
theorem sp_168 (K : Nat) : OkF 78 (c_168 K) :=
 ctrF (x := x_168 K) (L := []) (c0 := bd Tryz.f78) (xkF (gam_cons (sp_166 K) (gam_cons (sp_167 K) gam_nil)) ov_nil) (by intro a0 a1; show @Eq _ _ _; kernel_rfl) cuts_nil Tryz.func78 ⟨fun _ => rfl, trivial⟩
def l_laws_markThingS_1 (K : Nat) : Nat -> (List T_impl_Thing) -> Int -> Int -> Option (Int × (List T_impl_Thing))
 | 0, _, _, _ => none
 | n1 + 1, v1, v2, v3 => (bif (decide (v3 < (v1.length : Int))) then (if (0 : Int) ≤ v3 ∧ v3 < (v1.length : Int) then (if (0 : Int) ≤ v3 ∧ v3 < ((v1.set v3.toNat (T_impl_Thing.mk v2 ((gt v1 v3).fLen) ((gt v1 v3).fRun))).length : Int) then (letM ((v1.set v3.toNat (T_impl_Thing.mk v2 ((gt v1 v3).fLen) ((gt v1 v3).fRun))).set v3.toNat (T_impl_Thing.mk ((gt (v1.set v3.toNat (T_impl_Thing.mk v2 ((gt v1 v3).fLen) ((gt v1 v3).fRun))) v3).fAt) (iAdd .i64 v2 1) ((gt (v1.set v3.toNat (T_impl_Thing.mk v2 ((gt v1 v3).fLen) ((gt v1 v3).fRun))) v3).fRun))) fun v4 => (if (0 : Int) ≤ v3 ∧ v3 < (v4.length : Int) then (l_laws_markThingS_1 K n1 (v4.set v3.toNat (T_impl_Thing.mk ((gt v4 v3).fAt) ((gt v4 v3).fLen) (iAdd .i64 (iAdd .i64 v2 1) 1))) (iAdd .i64 (iAdd .i64 (iAdd .i64 v2 1) 1) 1) (iAdd .i64 v3 1)) else none)) else none) else none) else some (v2, v1))
def m_laws_markThingS (K : Nat) (a0 : List T_impl_Thing) (a1 : Int) : Option (Int × (List T_impl_Thing)) := (l_laws_markThingS_1 K K a0 a1 0)
def s_169 : Sig := ⟨[.w 41 true [(89, true)], .v 3], [.v 3], true⟩
def c_169 (K : Nat) : Ctr tyU := ⟨s_169, m_laws_markThingS K⟩
def x_169 (K : Nat) := xF s_169 [] [] 34 [] [] [] [] [.tmp 4]
def h_169_26 : Shape := ⟨[(0, .o 1 89 true), (1, .v 2), (5, .v 2)], []⟩
def M_169_26 (K : Nat) (n : Nat) (q : PT h_169_26) : Rt s_169 := l_laws_markThingS_1 K n q.1 q.2.1 q.2.2.1
theorem e_169_26 (K : Nat) : AtL (x_169 K) (fun n => []) [] (bd Tryz.f136) 26 (M_169_26 K) := fun n q => by kernel_rfl
theorem xk_169 (K : Nat) : XF [.tmp 4] s_169 34 [] (x_169 K) := xkF gam_nil ov_nil
theorem k_169_26 (K : Nat) (n : Nat) : CF [.tmp 4] s_169 34 [] (bd Tryz.f136) [] 26 (ar h_169_26 (M_169_26 K n)) :=
 loopF (xk_169 K) (e_169_26 K) (fun n => cuts_nil) n
theorem sp_169 (K : Nat) : OkF 136 (c_169 K) :=
 ctrF (x := x_169 K) (L := [(26, ar h_169_26 (M_169_26 K K))]) (c0 := bd Tryz.f136) (xk_169 K) (by intro a0 a1; show @Eq _ _ _; kernel_rfl) (cuts_cons (k_169_26 K K) cuts_nil) Tryz.func136 ⟨fun _ => rfl, trivial⟩
def l_laws_markNodeS_1 (K : Nat) : Nat -> (List T_impl_Node) -> Int -> Int -> Option (Int × (List T_impl_Node))
 | 0, _, _, _ => none
 | n1 + 1, v1, v2, v3 => (bif (decide (v3 < (v1.length : Int))) then (if (0 : Int) ≤ v3 ∧ v3 < (v1.length : Int) then (letM (v1.set v3.toNat (T_impl_Node.mk v2 ((gt v1 v3).fGen) ((gt v1 v3).fEp) ((gt v1 v3).fUp) ((gt v1 v3).fUpEp) ((gt v1 v3).fFirst) ((gt v1 v3).fNext) ((gt v1 v3).fPrev) ((gt v1 v3).fChunks) ((gt v1 v3).fCur) ((gt v1 v3).fBump) ((gt v1 v3).fThings) ((gt v1 v3).fTags))) fun v4 => (if (0 : Int) ≤ v3 ∧ v3 < (v4.length : Int) then (letM (v4.set v3.toNat (T_impl_Node.mk ((gt v4 v3).fSt) (iAdd .i64 v2 1) ((gt v4 v3).fEp) ((gt v4 v3).fUp) ((gt v4 v3).fUpEp) ((gt v4 v3).fFirst) ((gt v4 v3).fNext) ((gt v4 v3).fPrev) ((gt v4 v3).fChunks) ((gt v4 v3).fCur) ((gt v4 v3).fBump) ((gt v4 v3).fThings) ((gt v4 v3).fTags))) fun v5 => (if (0 : Int) ≤ v3 ∧ v3 < (v5.length : Int) then (letM (v5.set v3.toNat (T_impl_Node.mk ((gt v5 v3).fSt) ((gt v5 v3).fGen) (iAdd .i64 (iAdd .i64 v2 1) 1) ((gt v5 v3).fUp) ((gt v5 v3).fUpEp) ((gt v5 v3).fFirst) ((gt v5 v3).fNext) ((gt v5 v3).fPrev) ((gt v5 v3).fChunks) ((gt v5 v3).fCur) ((gt v5 v3).fBump) ((gt v5 v3).fThings) ((gt v5 v3).fTags))) fun v6 => (if (0 : Int) ≤ v3 ∧ v3 < (v6.length : Int) then (letM (v6.set v3.toNat (T_impl_Node.mk ((gt v6 v3).fSt) ((gt v6 v3).fGen) ((gt v6 v3).fEp) (iAdd .i64 (iAdd .i64 (iAdd .i64 v2 1) 1) 1) ((gt v6 v3).fUpEp) ((gt v6 v3).fFirst) ((gt v6 v3).fNext) ((gt v6 v3).fPrev) ((gt v6 v3).fChunks) ((gt v6 v3).fCur) ((gt v6 v3).fBump) ((gt v6 v3).fThings) ((gt v6 v3).fTags))) fun v7 => (if (0 : Int) ≤ v3 ∧ v3 < (v7.length : Int) then (letM (v7.set v3.toNat (T_impl_Node.mk ((gt v7 v3).fSt) ((gt v7 v3).fGen) ((gt v7 v3).fEp) ((gt v7 v3).fUp) (iAdd .i64 (iAdd .i64 (iAdd .i64 (iAdd .i64 v2 1) 1) 1) 1) ((gt v7 v3).fFirst) ((gt v7 v3).fNext) ((gt v7 v3).fPrev) ((gt v7 v3).fChunks) ((gt v7 v3).fCur) ((gt v7 v3).fBump) ((gt v7 v3).fThings) ((gt v7 v3).fTags))) fun v8 => (if (0 : Int) ≤ v3 ∧ v3 < (v8.length : Int) then (letM (v8.set v3.toNat (T_impl_Node.mk ((gt v8 v3).fSt) ((gt v8 v3).fGen) ((gt v8 v3).fEp) ((gt v8 v3).fUp) ((gt v8 v3).fUpEp) (iAdd .i64 (iAdd .i64 (iAdd .i64 (iAdd .i64 (iAdd .i64 v2 1) 1) 1) 1) 1) ((gt v8 v3).fNext) ((gt v8 v3).fPrev) ((gt v8 v3).fChunks) ((gt v8 v3).fCur) ((gt v8 v3).fBump) ((gt v8 v3).fThings) ((gt v8 v3).fTags))) fun v9 => (if (0 : Int) ≤ v3 ∧ v3 < (v9.length : Int) then (letM (v9.set v3.toNat (T_impl_Node.mk ((gt v9 v3).fSt) ((gt v9 v3).fGen) ((gt v9 v3).fEp) ((gt v9 v3).fUp) ((gt v9 v3).fUpEp) ((gt v9 v3).fFirst) (iAdd .i64 (iAdd .i64 (iAdd .i64 (iAdd .i64 (iAdd .i64 (iAdd .i64 v2 1) 1) 1) 1) 1) 1) ((gt v9 v3).fPrev) ((gt v9 v3).fChunks) ((gt v9 v3).fCur) ((gt v9 v3).fBump) ((gt v9 v3).fThings) ((gt v9 v3).fTags))) fun v10 => (if (0 : Int) ≤ v3 ∧ v3 < (v10.length : Int) then (letM (v10.set v3.toNat (T_impl_Node.mk ((gt v10 v3).fSt) ((gt v10 v3).fGen) ((gt v10 v3).fEp) ((gt v10 v3).fUp) ((gt v10 v3).fUpEp) ((gt v10 v3).fFirst) ((gt v10 v3).fNext) (iAdd .i64 (iAdd .i64 (iAdd .i64 (iAdd .i64 (iAdd .i64 (iAdd .i64 (iAdd .i64 v2 1) 1) 1) 1) 1) 1) 1) ((gt v10 v3).fChunks) ((gt v10 v3).fCur) ((gt v10 v3).fBump) ((gt v10 v3).fThings) ((gt v10 v3).fTags))) fun v11 => (if (0 : Int) ≤ v3 ∧ v3 < (v11.length : Int) then (if (0 : Int) ≤ v3 ∧ v3 < (v11.length : Int) then ((m_laws_markIntS K ((gt v11 v3).fChunks) (iAdd .i64 (iAdd .i64 (iAdd .i64 (iAdd .i64 (iAdd .i64 (iAdd .i64 (iAdd .i64 (iAdd .i64 v2 1) 1) 1) 1) 1) 1) 1) 1)).bind fun r12 => (if r12.2.length = ((gt v11 v3).fChunks).length then (if (0 : Int) ≤ v3 ∧ v3 < (v11.length : Int) then (if (0 : Int) ≤ v3 ∧ v3 < (v11.length : Int) then (if (0 : Int) ≤ v3 ∧ v3 < (v11.length : Int) then ((m_laws_markThingS K ((gt v11 v3).fThings) (iAdd .i64 (iAdd .i64 r12.1 1) 1)).bind fun r13 => (if r13.2.length = ((gt v11 v3).fThings).length then (if (0 : Int) ≤ v3 ∧ v3 < (v11.length : Int) then ((m_laws_markIntS K ((gt v11 v3).fTags) r13.1).bind fun r14 => (if r14.2.length = ((gt v11 v3).fTags).length then (l_laws_markNodeS_1 K n1 (v11.set v3.toNat (T_impl_Node.mk ((gt v11 v3).fSt) ((gt v11 v3).fGen) ((gt v11 v3).fEp) ((gt v11 v3).fUp) ((gt v11 v3).fUpEp) ((gt v11 v3).fFirst) ((gt v11 v3).fNext) ((gt v11 v3).fPrev) r12.2 r12.1 (iAdd .i64 r12.1 1) r13.2 r14.2)) r14.1 (iAdd .i64 v3 1)) else none)) else none) else none)) else none) else none) else none) else none)) else none) else none)) else none)) else none)) else none)) else none)) else none)) else none)) else none)) else none) else some (v2, v1))
def m_laws_markNodeS (K : Nat) (a0 : List T_impl_Node) (a1 : Int) : Option (Int × (List T_impl_Node)) := (l_laws_markNodeS_1 K K a0 a1 0)
def s_170 : Sig := ⟨[.w 29 true [(44, true)], .v 3], [.v 3], true⟩
def c_170 (K : Nat) : Ctr tyU := ⟨s_170, m_laws_markNodeS K⟩
def x_170 (K : Nat) := xF s_170 [(81, c_167 K), (136, c_169 K)] [] 104 [] [(20, [.opn 1 (.tmp 5), .takeE 1 8 40072]), (25, [.takeE 1 11 40075]), (26, [.takeE 1 12 40076])] [] [] [.tmp 4]
def h_170_26 : Shape := ⟨[(0, .o 1 44 true), (1, .v 2), (5, .v 2)], []⟩
def M_170_26 (K : Nat) (n : Nat) (q : PT h_170_26) : Rt s_170 := l_laws_markNodeS_1 K n q.1 q.2.1 q.2.2.1
theorem e_170_26 (K : Nat) : AtL (x_170 K) (fun n => []) [] (bd Tryz.f79) 26 (M_170_26 K) := fun n q => by kernel_rfl
theorem xk_170 (K : Nat) : XF [.tmp 4] s_170 104 [] (x_170 K) := xkF (gam_cons (sp_167 K) (gam_cons (sp_169 K) gam_nil)) ov_nil
theorem k_170_26 (K : Nat) (n : Nat) : CF [.tmp 4] s_170 104 [] (bd Tryz.f79) [] 26 (ar h_170_26 (M_170_26 K n)) :=
 loopF (xk_170 K) (e_170_26 K) (fun n => cuts_nil) n
theorem sp_170 (K : Nat) : OkF 79 (c_170 K) :=
 ctrF (x := x_170 K) (L := [(26, ar h_170_26 (M_170_26 K K))]) (c0 := bd Tryz.f79) (xk_170 K) (by intro a0 a1; show @Eq _ _ _; kernel_rfl) (cuts_cons (k_170_26 K K) cuts_nil) Tryz.func79 ⟨fun _ => rfl, trivial⟩
def l_laws_markWasteS_1 (K : Nat) : Nat -> (List T_impl_Waste) -> Int -> Int -> Option (Int × (List T_impl_Waste))
 | 0, _, _, _ => none
 | n1 + 1, v1, v2, v3 => (bif (decide (v3 < (v1.length : Int))) then (if (0 : Int) ≤ v3 ∧ v3 < (v1.length : Int) then (if (0 : Int) ≤ v3 ∧ v3 < ((v1.set v3.toNat (T_impl_Waste.mk v2 ((gt v1 v3).fFirst) ((gt v1 v3).fTags) ((gt v1 v3).fChunks) ((gt v1 v3).fDone))).length : Int) then (letM ((v1.set v3.toNat (T_impl_Waste.mk v2 ((gt v1 v3).fFirst) ((gt v1 v3).fTags) ((gt v1 v3).fChunks) ((gt v1 v3).fDone))).set v3.toNat (T_impl_Waste.mk ((gt (v1.set v3.toNat (T_impl_Waste.mk v2 ((gt v1 v3).fFirst) ((gt v1 v3).fTags) ((gt v1 v3).fChunks) ((gt v1 v3).fDone))) v3).fSlot) (iAdd .i64 v2 1) ((gt (v1.set v3.toNat (T_impl_Waste.mk v2 ((gt v1 v3).fFirst) ((gt v1 v3).fTags) ((gt v1 v3).fChunks) ((gt v1 v3).fDone))) v3).fTags) ((gt (v1.set v3.toNat (T_impl_Waste.mk v2 ((gt v1 v3).fFirst) ((gt v1 v3).fTags) ((gt v1 v3).fChunks) ((gt v1 v3).fDone))) v3).fChunks) ((gt (v1.set v3.toNat (T_impl_Waste.mk v2 ((gt v1 v3).fFirst) ((gt v1 v3).fTags) ((gt v1 v3).fChunks) ((gt v1 v3).fDone))) v3).fDone))) fun v4 => (if (0 : Int) ≤ v3 ∧ v3 < (v4.length : Int) then (if (0 : Int) ≤ v3 ∧ v3 < (v4.length : Int) then ((m_laws_markIntS K ((gt v4 v3).fTags) (iAdd .i64 (iAdd .i64 v2 1) 1)).bind fun r5 => (if r5.2.length = ((gt v4 v3).fTags).length then (if (0 : Int) ≤ v3 ∧ v3 < (v4.length : Int) then ((m_laws_markIntS K ((gt v4 v3).fChunks) r5.1).bind fun r6 => (if r6.2.length = ((gt v4 v3).fChunks).length then (if (0 : Int) ≤ v3 ∧ v3 < (v4.length : Int) then (l_laws_markWasteS_1 K n1 (v4.set v3.toNat (T_impl_Waste.mk ((gt v4 v3).fSlot) ((gt v4 v3).fFirst) r5.2 r6.2 r6.1)) (iAdd .i64 r6.1 1) (iAdd .i64 v3 1)) else none) else none)) else none) else none)) else none) else none)) else none) else none) else some (v2, v1))
def m_laws_markWasteS (K : Nat) (a0 : List T_impl_Waste) (a1 : Int) : Option (Int × (List T_impl_Waste)) := (l_laws_markWasteS_1 K K a0 a1 0)
def s_171 : Sig := ⟨[.w 30 true [(159, true)], .v 3], [.v 3], true⟩
def c_171 (K : Nat) : Ctr tyU := ⟨s_171, m_laws_markWasteS K⟩
def x_171 (K : Nat) := xF s_171 [(81, c_167 K)] [] 48 [] [(8, [.opn 1 (.tmp 5), .takeE 1 2 40066]), (9, [.takeE 1 3 40067])] [] [] [.tmp 4]
def h_171_26 : Shape := ⟨[(0, .o 1 159 true), (1, .v 2), (5, .v 2)], []⟩
def M_171_26 (K : Nat) (n : Nat) (q : PT h_171_26) : Rt s_171 := l_laws_markWasteS_1 K n q.1 q.2.1 q.2.2.1
theorem e_171_26 (K : Nat) : AtL (x_171 K) (fun n => []) [] (bd Tryz.f80) 26 (M_171_26 K) := fun n q => by kernel_rfl
theorem xk_171 (K : Nat) : XF [.tmp 4] s_171 48 [] (x_171 K) := xkF (gam_cons (sp_167 K) gam_nil) ov_nil
theorem k_171_26 (K : Nat) (n : Nat) : CF [.tmp 4] s_171 48 [] (bd Tryz.f80) [] 26 (ar h_171_26 (M_171_26 K n)) :=
 loopF (xk_171 K) (e_171_26 K) (fun n => cuts_nil) n
theorem sp_171 (K : Nat) : OkF 80 (c_171 K) :=
 ctrF (x := x_171 K) (L := [(26, ar h_171_26 (M_171_26 K K))]) (c0 := bd Tryz.f80) (xk_171 K) (by intro a0 a1; show @Eq _ _ _; kernel_rfl) (cuts_cons (k_171_26 K K) cuts_nil) Tryz.func80 ⟨fun _ => rfl, trivial⟩
def m_laws_markWorld (K : Nat) (a0 : T_impl_World) (a1 : Int) : Option (Int × (List Int) × (List Int) × (List Int) × (List T_impl_Node) × (List T_impl_Waste) × (List Int)) := ((m_laws_markPool K a0.fP a1).bind fun r1 => (if r1.2.1.length = a0.fP.fMem.length ∧ r1.2.2.1.length = a0.fP.fSt.length ∧ r1.2.2.2.length = a0.fP.fOwn.length then ((m_laws_markNodeS K a0.fL r1.1).bind fun r2 => (if r2.2.length = a0.fL.length then ((m_laws_markWasteS K a0.fQ r2.1).bind fun r3 => (if r3.2.length = a0.fQ.length then ((m_laws_markIntS K a0.fLog r3.1).bind fun r4 => (if r4.2.length = a0.fLog.length then some (r4.1, r1.2.1, r1.2.2.1, r1.2.2.2, r2.2, r3.2, r4.2) else none)) else none)) else none)) else none))
def s_172 : Sig := ⟨[.w 32 true [(5, true), (3, true), (3, true), (44, true), (159, true), (3, true)], .v 3], [.v 3], true⟩
def c_172 (K : Nat) : Ctr tyU := ⟨s_172, m_laws_markWorld K⟩
def x_172 (K : Nat) := xF s_172 [(78, c_168 K), (79, c_170 K), (80, c_171 K), (81, c_167 K)] [] 22 [] [] [] [] [.tmp 4]
theorem sp_172 (K : Nat) : OkF 28 (c_172 K) :=
 ctrF (x := x_172 K) (L := []) (c0 := bd Tryz.f28) (xkF (gam_cons (sp_168 K) (gam_cons (sp_170 K) (gam_cons (sp_171 K) (gam_cons (sp_167 K) gam_nil)))) ov_nil) (by intro a0 a1; show @Eq _ _ _; kernel_rfl) cuts_nil Tryz.func28 ⟨fun _ => rfl, trivial⟩
def l_laws_heldByteS_1 (K : Nat) (a0 : List Int) : Nat -> Int -> Int -> Option (Int)
 | 0, _, _ => none
 | n1 + 1, v1, v2 => (bif (decide (v2 < (a0.length : Int))) then (if (0 : Int) ≤ v2 ∧ v2 < (a0.length : Int) then (bif ((gt a0 v2) != (IntKind.u8.wrap v1)) then some (-1) else (l_laws_heldByteS_1 K a0 n1 (iAdd .i64 v1 1) (iAdd .i64 v2 1))) else none) else some v1)
def m_laws_heldByteS (K : Nat) (a0 : List Int) (a1 : Int) : Option (Int) := (l_laws_heldByteS_1 K a0 K a1 0)
def s_173 : Sig := ⟨[.v 22, .v 3], [.v 3], true⟩
def c_173 (K : Nat) : Ctr tyU := ⟨s_173, m_laws_heldByteS K⟩
def x_173 (K : Nat) := xF s_173 [] [] 22 [] [] [] [] [.tmp 4]
def h_173_26 : Shape := ⟨[(0, .v 22), (1, .v 2), (5, .v 2)], []⟩
def M_173_26 (K : Nat) (n : Nat) (q : PT h_173_26) : Rt s_173 := l_laws_heldByteS_1 K q.1 n q.2.1 q.2.2.1
theorem e_173_26 (K : Nat) : AtL (x_173 K) (fun n => []) [] (bd Tryz.f30) 26 (M_173_26 K) := fun n q => by kernel_rfl
theorem xk_173 (K : Nat) : XF [.tmp 4] s_173 22 [] (x_173 K) := xkF gam_nil ov_nil
theorem k_173_26 (K : Nat) (n : Nat) : CF [.tmp 4] s_173 22 [] (bd Tryz.f30) [] 26 (ar h_173_26 (M_173_26 K n)) :=
 loopF (xk_173 K) (e_173_26 K) (fun n => cuts_nil) n
theorem sp_173 (K : Nat) : OkF 30 (c_173 K) :=
 ctrF (x := x_173 K) (L := [(26, ar h_173_26 (M_173_26 K K))]) (c0 := bd Tryz.f30) (xk_173 K) (by intro a0 a1; show @Eq _ _ _; kernel_rfl) (cuts_cons (k_173_26 K K) cuts_nil) Tryz.func30 trivial
def m_laws_FnExactReadAll (K : Nat) (a0 : T_laws_World) (a1 : T_laws_Ref) : Option (Bool) := ((m_laws_szWorld K a0 1048576).bind fun r1 => (bif (decide (r1 < 0)) then some true else ((m_laws_toWorld K a0).bind fun r2 => ((m_laws_toRef K a1).bind fun r3 => ((m_spec_ReadAll K r2 r3).bind fun r4 => ((m_laws_toWorld K a0).bind fun r5 => ((m_laws_toRef K a1).bind fun r6 => ((m_impl_ReadAll K r5 r6).bind fun r7 => ((m_laws_eqByteS K r7 r4).bind fun r8 => (bif (!r8) then some false else ((m_laws_toWorld K a0).bind fun r9 => ((m_laws_eqWorld K r5 r9).bind fun r10 => (bif (!r10) then some false else ((m_laws_markWorld K r5 1).bind fun r11 => (if r11.2.1.length = r5.fP.fMem.length ∧ r11.2.2.1.length = r5.fP.fSt.length ∧ r11.2.2.2.1.length = r5.fP.fOwn.length ∧ r11.2.2.2.2.1.length = r5.fL.length ∧ r11.2.2.2.2.2.1.length = r5.fQ.length ∧ r11.2.2.2.2.2.2.length = r5.fLog.length then (bif (decide (r11.1 < 0)) then some false else ((m_laws_eqByteS K r7 r4).bind fun r12 => (bif (!r12) then some false else ((m_laws_markByteS K r7 1).bind fun r13 => (if r13.2.length = r7.length then ((m_laws_heldByteS K r13.2 1).bind fun r14 => (bif (decide (r14 < 0)) then some false else (bif (r14 != r13.1) then some false else ((m_laws_toWorld K a0).bind fun r15 => ((m_laws_toRef K a1).bind fun r16 => ((m_impl_ReadAll K r15 r16).bind fun r17 => ((m_laws_eqByteS K r17 r4).bind fun r18 => (bif (!r18) then some false else ((m_laws_heldByteS K r13.2 1).bind fun r19 => (bif (decide (r19 < 0)) then some false else (bif (r19 != r13.1) then some false else some true))))))))))) else none))))) else none)))))))))))))))
def s_174 : Sig := ⟨[.v 52, .v 61], [.v 4], true⟩
def c_174 (K : Nat) : Ctr tyU := ⟨s_174, m_laws_FnExactReadAll K⟩
def x_174 (K : Nat) := xF s_174 [(18, c_8 K), (20, c_19 K), (23, c_165 K), (24, c_75 K), (25, c_21 K), (26, c_154 K), (27, c_155 K), (28, c_172 K), (29, c_166 K), (30, c_173 K)] [] 77 [42, 43] [] [] [] [.tmp 4]
theorem sp_174 (K : Nat) : OkF 5 (c_174 K) :=
 ctrF (x := x_174 K) (L := []) (c0 := bd Tryz.f5) (xkF (gam_cons (sp_8 K) (gam_cons (sp_19 K) (gam_cons (sp_165 K) (gam_cons (sp_75 K) (gam_cons (sp_21 K) (gam_cons (sp_154 K) (gam_cons (sp_155 K) (gam_cons (sp_172 K) (gam_cons (sp_166 K) (gam_cons (sp_173 K) gam_nil)))))))))) ov_nil) (by intro a0 a1; show @Eq _ _ _; kernel_rfl) cuts_nil Tryz.func5 trivial
end
end Go.Proofs.YtjdblamhaljjbaaGreat
