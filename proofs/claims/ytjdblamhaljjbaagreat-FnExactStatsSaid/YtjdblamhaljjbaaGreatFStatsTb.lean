/- What the functions compute that FnExactStats reaches, and that they do; no condition. Printed by gen3.py. -/
import Derived.Test.YtjdblamhaljjbaaGreatFStatsTa
set_option linter.all false
set_option maxRecDepth 20000
namespace Go.Proofs.YtjdblamhaljjbaaGreat
open Go.Eng
noncomputable section
def s_155 : Sig := ⟨[.w 41 true [(89, true)], .v 3], [.v 3], true⟩
def c_155 (K : Nat) : Ctr tyU := ⟨s_155, m_laws_markThingS K⟩
def x_155 (K : Nat) := xF s_155 [] [] 34 [] [] [] [] [.tmp 4]
def h_155_26 : Shape := ⟨[(0, .o 1 89 true), (1, .v 2), (5, .v 2)], []⟩
def M_155_26 (K : Nat) (n : Nat) (q : PT h_155_26) : Rt s_155 := l_laws_markThingS_1 K n q.1 q.2.1 q.2.2.1
theorem e_155_26 (K : Nat) : AtL (x_155 K) (fun n => []) [] (bd Tryz.f136) 26 (M_155_26 K) := fun n q => by kernel_rfl
theorem xk_155 (K : Nat) : XF [.tmp 4] s_155 34 [] (x_155 K) := xkF gam_nil ov_nil
theorem k_155_26 (K : Nat) (n : Nat) : CF [.tmp 4] s_155 34 [] (bd Tryz.f136) [] 26 (ar h_155_26 (M_155_26 K n)) :=
 loopF (xk_155 K) (e_155_26 K) (fun n => cuts_nil) n
theorem sp_155 (K : Nat) : OkF 136 (c_155 K) :=
 ctrF (x := x_155 K) (L := [(26, ar h_155_26 (M_155_26 K K))]) (c0 := bd Tryz.f136) (xk_155 K) (by intro a0 a1; show @Eq _ _ _; kernel_rfl) (cuts_cons (k_155_26 K K) cuts_nil) Tryz.func136 ⟨fun _ => rfl, trivial⟩
def l_laws_markNodeS_1 (K : Nat) : Nat -> (List T_impl_Node) -> Int -> Int -> Option (Int × (List T_impl_Node))
 | 0, _, _, _ => none
 | n1 + 1, v1, v2, v3 => (bif (decide (v3 < (v1.length : Int))) then (if (0 : Int) ≤ v3 ∧ v3 < (v1.length : Int) then (letM (v1.set v3.toNat (T_impl_Node.mk v2 ((gt v1 v3).fGen) ((gt v1 v3).fEp) ((gt v1 v3).fUp) ((gt v1 v3).fUpEp) ((gt v1 v3).fFirst) ((gt v1 v3).fNext) ((gt v1 v3).fPrev) ((gt v1 v3).fChunks) ((gt v1 v3).fCur) ((gt v1 v3).fBump) ((gt v1 v3).fThings) ((gt v1 v3).fTags))) fun v4 => (if (0 : Int) ≤ v3 ∧ v3 < (v4.length : Int) then (letM (v4.set v3.toNat (T_impl_Node.mk ((gt v4 v3).fSt) (iAdd .i64 v2 1) ((gt v4 v3).fEp) ((gt v4 v3).fUp) ((gt v4 v3).fUpEp) ((gt v4 v3).fFirst) ((gt v4 v3).fNext) ((gt v4 v3).fPrev) ((gt v4 v3).fChunks) ((gt v4 v3).fCur) ((gt v4 v3).fBump) ((gt v4 v3).fThings) ((gt v4 v3).fTags))) fun v5 => (if (0 : Int) ≤ v3 ∧ v3 < (v5.length : Int) then (letM (v5.set v3.toNat (T_impl_Node.mk ((gt v5 v3).fSt) ((gt v5 v3).fGen) (iAdd .i64 (iAdd .i64 v2 1) 1) ((gt v5 v3).fUp) ((gt v5 v3).fUpEp) ((gt v5 v3).fFirst) ((gt v5 v3).fNext) ((gt v5 v3).fPrev) ((gt v5 v3).fChunks) ((gt v5 v3).fCur) ((gt v5 v3).fBump) ((gt v5 v3).fThings) ((gt v5 v3).fTags))) fun v6 => (if (0 : Int) ≤ v3 ∧ v3 < (v6.length : Int) then (letM (v6.set v3.toNat (T_impl_Node.mk ((gt v6 v3).fSt) ((gt v6 v3).fGen) ((gt v6 v3).fEp) (iAdd .i64 (iAdd .i64 (iAdd .i64 v2 1) 1) 1) ((gt v6 v3).fUpEp) ((gt v6 v3).fFirst) ((gt v6 v3).fNext) ((gt v6 v3).fPrev) ((gt v6 v3).fChunks) ((gt v6 v3).fCur) ((gt v6 v3).fBump) ((gt v6 v3).fThings) ((gt v6 v3).fTags))) fun v7 => (if (0 : Int) ≤ v3 ∧ v3 < (v7.length : Int) then (letM (v7.set v3.toNat (T_impl_Node.mk ((gt v7 v3).fSt) ((gt v7 v3).fGen) ((gt v7 v3).fEp) ((gt v7 v3).fUp) (iAdd .i64 (iAdd .i64 (iAdd .i64 (iAdd .i64 v2 1) 1) 1) 1) ((gt v7 v3).fFirst) ((gt v7 v3).fNext) ((gt v7 v3).fPrev) ((gt v7 v3).fChunks) ((gt v7 v3).fCur) ((gt v7 v3).fBump) ((gt v7 v3).fThings) ((gt v7 v3).fTags))) fun v8 => (if (0 : Int) ≤ v3 ∧ v3 < (v8.length : Int) then (letM (v8.set v3.toNat (T_impl_Node.mk ((gt v8 v3).fSt) ((gt v8 v3).fGen) ((gt v8 v3).fEp) ((gt v8 v3).fUp) ((gt v8 v3).fUpEp) (iAdd .i64 (iAdd .i64 (iAdd .i64 (iAdd .i64 (iAdd .i64 v2 1) 1) 1) 1) 1) ((gt v8 v3).fNext) ((gt v8 v3).fPrev) ((gt v8 v3).fChunks) ((gt v8 v3).fCur) ((gt v8 v3).fBump) ((gt v8 v3).fThings) ((gt v8 v3).fTags))) fun v9 => (if (0 : Int) ≤ v3 ∧ v3 < (v9.length : Int) then (letM (v9.set v3.toNat (T_impl_Node.mk ((gt v9 v3).fSt) ((gt v9 v3).fGen) ((gt v9 v3).fEp) ((gt v9 v3).fUp) ((gt v9 v3).fUpEp) ((gt v9 v3).fFirst) (iAdd .i64 (iAdd .i64 (iAdd .i64 (iAdd .i64 (iAdd .i64 (iAdd .i64 v2 1) 1) 1) 1) 1) 1) ((gt v9 v3).fPrev) ((gt v9 v3).fChunks) ((gt v9 v3).fCur) ((gt v9 v3).fBump) ((gt v9 v3).fThings) ((gt v9 v3).fTags))) fun v10 => (if (0 : Int) ≤ v3 ∧ v3 < (v10.length : Int) then (letM (v10.set v3.toNat (T_impl_Node.mk ((gt v10 v3).fSt) ((gt v10 v3).fGen) ((gt v10 v3).fEp) ((gt v10 v3).fUp) ((gt v10 v3).fUpEp) ((gt v10 v3).fFirst) ((gt v10 v3).fNext) (iAdd .i64 (iAdd .i64 (iAdd .i64 (iAdd .i64 (iAdd .i64 (iAdd .i64 (iAdd .i64 v2 1) 1) 1) 1) 1) 1) 1) ((gt v10 v3).fChunks) ((gt v10 v3).fCur) ((gt v10 v3).fBump) ((gt v10 v3).fThings) ((gt v10 v3).fTags))) fun v11 => (if (0 : Int) ≤ v3 ∧ v3 < (v11.length : Int) then (if (0 : Int) ≤ v3 ∧ v3 < (v11.length : Int) then ((m_laws_markIntS K ((gt v11 v3).fChunks) (iAdd .i64 (iAdd .i64 (iAdd .i64 (iAdd .i64 (iAdd .i64 (iAdd .i64 (iAdd .i64 (iAdd .i64 v2 1) 1) 1) 1) 1) 1) 1) 1)).bind fun r12 => (if r12.2.length = ((gt v11 v3).fChunks).length then (if (0 : Int) ≤ v3 ∧ v3 < (v11.length : Int) then (if (0 : Int) ≤ v3 ∧ v3 < (v11.length : Int) then (if (0 : Int) ≤ v3 ∧ v3 < (v11.length : Int) then ((m_laws_markThingS K ((gt v11 v3).fThings) (iAdd .i64 (iAdd .i64 r12.1 1) 1)).bind fun r13 => (if r13.2.length = ((gt v11 v3).fThings).length then (if (0 : Int) ≤ v3 ∧ v3 < (v11.length : Int) then ((m_laws_markIntS K ((gt v11 v3).fTags) r13.1).bind fun r14 => (if r14.2.length = ((gt v11 v3).fTags).length then (l_laws_markNodeS_1 K n1 (v11.set v3.toNat (T_impl_Node.mk ((gt v11 v3).fSt) ((gt v11 v3).fGen) ((gt v11 v3).fEp) ((gt v11 v3).fUp) ((gt v11 v3).fUpEp) ((gt v11 v3).fFirst) ((gt v11 v3).fNext) ((gt v11 v3).fPrev) r12.2 r12.1 (iAdd .i64 r12.1 1) r13.2 r14.2)) r14.1 (iAdd .i64 v3 1)) else none)) else none) else none)) else none) else none) else none) else none)) else none) else none)) else none)) else none)) else none)) else none)) else none)) else none)) else none)) else none) else some (v2, v1))
def m_laws_markNodeS (K : Nat) (a0 : List T_impl_Node) (a1 : Int) : Option (Int × (List T_impl_Node)) := (l_laws_markNodeS_1 K K a0 a1 0)
def s_156 : Sig := ⟨[.w 29 true [(44, true)], .v 3], [.v 3], true⟩
def c_156 (K : Nat) : Ctr tyU := ⟨s_156, m_laws_markNodeS K⟩
def x_156 (K : Nat) := xF s_156 [(81, c_153 K), (136, c_155 K)] [] 104 [] [(20, [.opn 1 (.tmp 5), .takeE 1 8 40072]), (25, [.takeE 1 11 40075]), (26, [.takeE 1 12 40076])] [] [] [.tmp 4]
def h_156_26 : Shape := ⟨[(0, .o 1 44 true), (1, .v 2), (5, .v 2)], []⟩
def M_156_26 (K : Nat) (n : Nat) (q : PT h_156_26) : Rt s_156 := l_laws_markNodeS_1 K n q.1 q.2.1 q.2.2.1
theorem e_156_26 (K : Nat) : AtL (x_156 K) (fun n => []) [] (bd Tryz.f79) 26 (M_156_26 K) := fun n q => by kernel_rfl
theorem xk_156 (K : Nat) : XF [.tmp 4] s_156 104 [] (x_156 K) := xkF (gam_cons (sp_153 K) (gam_cons (sp_155 K) gam_nil)) ov_nil
theorem k_156_26 (K : Nat) (n : Nat) : CF [.tmp 4] s_156 104 [] (bd Tryz.f79) [] 26 (ar h_156_26 (M_156_26 K n)) :=
 loopF (xk_156 K) (e_156_26 K) (fun n => cuts_nil) n
theorem sp_156 (K : Nat) : OkF 79 (c_156 K) :=
 ctrF (x := x_156 K) (L := [(26, ar h_156_26 (M_156_26 K K))]) (c0 := bd Tryz.f79) (xk_156 K) (by intro a0 a1; show @Eq _ _ _; kernel_rfl) (cuts_cons (k_156_26 K K) cuts_nil) Tryz.func79 ⟨fun _ => rfl, trivial⟩
def l_laws_markWasteS_1 (K : Nat) : Nat -> (List T_impl_Waste) -> Int -> Int -> Option (Int × (List T_impl_Waste))
 | 0, _, _, _ => none
 | n1 + 1, v1, v2, v3 => (bif (decide (v3 < (v1.length : Int))) then (if (0 : Int) ≤ v3 ∧ v3 < (v1.length : Int) then (if (0 : Int) ≤ v3 ∧ v3 < ((v1.set v3.toNat (T_impl_Waste.mk v2 ((gt v1 v3).fFirst) ((gt v1 v3).fTags) ((gt v1 v3).fChunks) ((gt v1 v3).fDone))).length : Int) then (letM ((v1.set v3.toNat (T_impl_Waste.mk v2 ((gt v1 v3).fFirst) ((gt v1 v3).fTags) ((gt v1 v3).fChunks) ((gt v1 v3).fDone))).set v3.toNat (T_impl_Waste.mk ((gt (v1.set v3.toNat (T_impl_Waste.mk v2 ((gt v1 v3).fFirst) ((gt v1 v3).fTags) ((gt v1 v3).fChunks) ((gt v1 v3).fDone))) v3).fSlot) (iAdd .i64 v2 1) ((gt (v1.set v3.toNat (T_impl_Waste.mk v2 ((gt v1 v3).fFirst) ((gt v1 v3).fTags) ((gt v1 v3).fChunks) ((gt v1 v3).fDone))) v3).fTags) ((gt (v1.set v3.toNat (T_impl_Waste.mk v2 ((gt v1 v3).fFirst) ((gt v1 v3).fTags) ((gt v1 v3).fChunks) ((gt v1 v3).fDone))) v3).fChunks) ((gt (v1.set v3.toNat (T_impl_Waste.mk v2 ((gt v1 v3).fFirst) ((gt v1 v3).fTags) ((gt v1 v3).fChunks) ((gt v1 v3).fDone))) v3).fDone))) fun v4 => (if (0 : Int) ≤ v3 ∧ v3 < (v4.length : Int) then (if (0 : Int) ≤ v3 ∧ v3 < (v4.length : Int) then ((m_laws_markIntS K ((gt v4 v3).fTags) (iAdd .i64 (iAdd .i64 v2 1) 1)).bind fun r5 => (if r5.2.length = ((gt v4 v3).fTags).length then (if (0 : Int) ≤ v3 ∧ v3 < (v4.length : Int) then ((m_laws_markIntS K ((gt v4 v3).fChunks) r5.1).bind fun r6 => (if r6.2.length = ((gt v4 v3).fChunks).length then (if (0 : Int) ≤ v3 ∧ v3 < (v4.length : Int) then (l_laws_markWasteS_1 K n1 (v4.set v3.toNat (T_impl_Waste.mk ((gt v4 v3).fSlot) ((gt v4 v3).fFirst) r5.2 r6.2 r6.1)) (iAdd .i64 r6.1 1) (iAdd .i64 v3 1)) else none) else none)) else none) else none)) else none) else none)) else none) else none) else some (v2, v1))
def m_laws_markWasteS (K : Nat) (a0 : List T_impl_Waste) (a1 : Int) : Option (Int × (List T_impl_Waste)) := (l_laws_markWasteS_1 K K a0 a1 0)
def s_157 : Sig := ⟨[.w 30 true [(159, true)], .v 3], [.v 3], true⟩
def c_157 (K : Nat) : Ctr tyU := ⟨s_157, m_laws_markWasteS K⟩
def x_157 (K : Nat) := xF s_157 [(81, c_153 K)] [] 48 [] [(8, [.opn 1 (.tmp 5), .takeE 1 2 40066]), (9, [.takeE 1 3 40067])] [] [] [.tmp 4]
def h_157_26 : Shape := ⟨[(0, .o 1 159 true), (1, .v 2), (5, .v 2)], []⟩
def M_157_26 (K : Nat) (n : Nat) (q : PT h_157_26) : Rt s_157 := l_laws_markWasteS_1 K n q.1 q.2.1 q.2.2.1
theorem e_157_26 (K : Nat) : AtL (x_157 K) (fun n => []) [] (bd Tryz.f80) 26 (M_157_26 K) := fun n q => by kernel_rfl
theorem xk_157 (K : Nat) : XF [.tmp 4] s_157 48 [] (x_157 K) := xkF (gam_cons (sp_153 K) gam_nil) ov_nil
theorem k_157_26 (K : Nat) (n : Nat) : CF [.tmp 4] s_157 48 [] (bd Tryz.f80) [] 26 (ar h_157_26 (M_157_26 K n)) :=
 loopF (xk_157 K) (e_157_26 K) (fun n => cuts_nil) n
theorem sp_157 (K : Nat) : OkF 80 (c_157 K) :=
 ctrF (x := x_157 K) (L := [(26, ar h_157_26 (M_157_26 K K))]) (c0 := bd Tryz.f80) (xk_157 K) (by intro a0 a1; show @Eq _ _ _; kernel_rfl) (cuts_cons (k_157_26 K K) cuts_nil) Tryz.func80 ⟨fun _ => rfl, trivial⟩
def m_laws_markWorld (K : Nat) (a0 : T_impl_World) (a1 : Int) : Option (Int × (List Int) × (List Int) × (List Int) × (List T_impl_Node) × (List T_impl_Waste) × (List Int)) := ((m_laws_markPool K a0.fP a1).bind fun r1 => (if r1.2.1.length = a0.fP.fMem.length ∧ r1.2.2.1.length = a0.fP.fSt.length ∧ r1.2.2.2.length = a0.fP.fOwn.length then ((m_laws_markNodeS K a0.fL r1.1).bind fun r2 => (if r2.2.length = a0.fL.length then ((m_laws_markWasteS K a0.fQ r2.1).bind fun r3 => (if r3.2.length = a0.fQ.length then ((m_laws_markIntS K a0.fLog r3.1).bind fun r4 => (if r4.2.length = a0.fLog.length then some (r4.1, r1.2.1, r1.2.2.1, r1.2.2.2, r2.2, r3.2, r4.2) else none)) else none)) else none)) else none))
def s_158 : Sig := ⟨[.w 32 true [(5, true), (3, true), (3, true), (44, true), (159, true), (3, true)], .v 3], [.v 3], true⟩
def c_158 (K : Nat) : Ctr tyU := ⟨s_158, m_laws_markWorld K⟩
def x_158 (K : Nat) := xF s_158 [(78, c_154 K), (79, c_156 K), (80, c_157 K), (81, c_153 K)] [] 22 [] [] [] [] [.tmp 4]
theorem sp_158 (K : Nat) : OkF 28 (c_158 K) :=
 ctrF (x := x_158 K) (L := []) (c0 := bd Tryz.f28) (xkF (gam_cons (sp_154 K) (gam_cons (sp_156 K) (gam_cons (sp_157 K) (gam_cons (sp_153 K) gam_nil)))) ov_nil) (by intro a0 a1; show @Eq _ _ _; kernel_rfl) cuts_nil Tryz.func28 ⟨fun _ => rfl, trivial⟩
def m_laws_markAns (K : Nat) (a0 : T_impl_Ans) (a1 : Int) : Option (Int × (List Int)) := ((m_laws_markByteS K a0.fB a1).bind fun r1 => (if r1.2.length = a0.fB.length then some (r1.1, r1.2) else none))
def s_159 : Sig := ⟨[.w 69 true [(5, true)], .v 3], [.v 3], true⟩
def c_159 (K : Nat) : Ctr tyU := ⟨s_159, m_laws_markAns K⟩
def x_159 (K : Nat) := xF s_159 [(29, c_152 K)] [] 10 [] [] [] [] [.tmp 4]
theorem sp_159 (K : Nat) : OkF 34 (c_159 K) :=
 ctrF (x := x_159 K) (L := []) (c0 := bd Tryz.f34) (xkF (gam_cons (sp_152 K) gam_nil) ov_nil) (by intro a0 a1; show @Eq _ _ _; kernel_rfl) cuts_nil Tryz.func34 ⟨fun _ => rfl, trivial⟩
def l_laws_heldByteS_1 (K : Nat) (a0 : List Int) : Nat -> Int -> Int -> Option (Int)
 | 0, _, _ => none
 | n1 + 1, v1, v2 => (bif (decide (v2 < (a0.length : Int))) then (if (0 : Int) ≤ v2 ∧ v2 < (a0.length : Int) then (bif ((gt a0 v2) != (IntKind.u8.wrap v1)) then some (-1) else (l_laws_heldByteS_1 K a0 n1 (iAdd .i64 v1 1) (iAdd .i64 v2 1))) else none) else some v1)
def m_laws_heldByteS (K : Nat) (a0 : List Int) (a1 : Int) : Option (Int) := (l_laws_heldByteS_1 K a0 K a1 0)
def s_160 : Sig := ⟨[.v 22, .v 3], [.v 3], true⟩
def c_160 (K : Nat) : Ctr tyU := ⟨s_160, m_laws_heldByteS K⟩
def x_160 (K : Nat) := xF s_160 [] [] 22 [] [] [] [] [.tmp 4]
def h_160_26 : Shape := ⟨[(0, .v 22), (1, .v 2), (5, .v 2)], []⟩
def M_160_26 (K : Nat) (n : Nat) (q : PT h_160_26) : Rt s_160 := l_laws_heldByteS_1 K q.1 n q.2.1 q.2.2.1
theorem e_160_26 (K : Nat) : AtL (x_160 K) (fun n => []) [] (bd Tryz.f30) 26 (M_160_26 K) := fun n q => by kernel_rfl
theorem xk_160 (K : Nat) : XF [.tmp 4] s_160 22 [] (x_160 K) := xkF gam_nil ov_nil
theorem k_160_26 (K : Nat) (n : Nat) : CF [.tmp 4] s_160 22 [] (bd Tryz.f30) [] 26 (ar h_160_26 (M_160_26 K n)) :=
 loopF (xk_160 K) (e_160_26 K) (fun n => cuts_nil) n
theorem sp_160 (K : Nat) : OkF 30 (c_160 K) :=
 ctrF (x := x_160 K) (L := [(26, ar h_160_26 (M_160_26 K K))]) (c0 := bd Tryz.f30) (xk_160 K) (by intro a0 a1; show @Eq _ _ _; kernel_rfl) (cuts_cons (k_160_26 K K) cuts_nil) Tryz.func30 trivial
def l_laws_heldIntS_1 (K : Nat) (a0 : List Int) : Nat -> Int -> Int -> Option (Int)
 | 0, _, _ => none
 | n1 + 1, v1, v2 => (bif (decide (v2 < (a0.length : Int))) then (if (0 : Int) ≤ v2 ∧ v2 < (a0.length : Int) then (bif ((gt a0 v2) != v1) then some (-1) else (l_laws_heldIntS_1 K a0 n1 (iAdd .i64 v1 1) (iAdd .i64 v2 1))) else none) else some v1)
def m_laws_heldIntS (K : Nat) (a0 : List Int) (a1 : Int) : Option (Int) := (l_laws_heldIntS_1 K a0 K a1 0)
def s_161 : Sig := ⟨[.v 26, .v 3], [.v 3], true⟩
def c_161 (K : Nat) : Ctr tyU := ⟨s_161, m_laws_heldIntS K⟩
def x_161 (K : Nat) := xF s_161 [] [] 21 [] [] [] [] [.tmp 4]
def h_161_26 : Shape := ⟨[(0, .v 26), (1, .v 2), (5, .v 2)], []⟩
def M_161_26 (K : Nat) (n : Nat) (q : PT h_161_26) : Rt s_161 := l_laws_heldIntS_1 K q.1 n q.2.1 q.2.2.1
theorem e_161_26 (K : Nat) : AtL (x_161 K) (fun n => []) [] (bd Tryz.f98) 26 (M_161_26 K) := fun n q => by kernel_rfl
theorem xk_161 (K : Nat) : XF [.tmp 4] s_161 21 [] (x_161 K) := xkF gam_nil ov_nil
theorem k_161_26 (K : Nat) (n : Nat) : CF [.tmp 4] s_161 21 [] (bd Tryz.f98) [] 26 (ar h_161_26 (M_161_26 K n)) :=
 loopF (xk_161 K) (e_161_26 K) (fun n => cuts_nil) n
theorem sp_161 (K : Nat) : OkF 98 (c_161 K) :=
 ctrF (x := x_161 K) (L := [(26, ar h_161_26 (M_161_26 K K))]) (c0 := bd Tryz.f98) (xk_161 K) (by intro a0 a1; show @Eq _ _ _; kernel_rfl) (cuts_cons (k_161_26 K K) cuts_nil) Tryz.func98 trivial
def m_laws_heldPool (K : Nat) (a0 : T_impl_Pool) (a1 : Int) : Option (Int) := ((m_laws_heldByteS K a0.fMem a1).bind fun r1 => (bif (decide (r1 < 0)) then some (-1) else ((m_laws_heldIntS K a0.fSt r1).bind fun r2 => (bif (decide (r2 < 0)) then some (-1) else ((m_laws_heldIntS K a0.fOwn r2).bind fun r3 => (bif (decide (r3 < 0)) then some (-1) else some r3))))))
def s_162 : Sig := ⟨[.v 28, .v 3], [.v 3], true⟩
def c_162 (K : Nat) : Ctr tyU := ⟨s_162, m_laws_heldPool K⟩
def x_162 (K : Nat) := xF s_162 [(30, c_160 K), (98, c_161 K)] [] 24 [] [] [] [] [.tmp 4]
theorem sp_162 (K : Nat) : OkF 95 (c_162 K) :=
 ctrF (x := x_162 K) (L := []) (c0 := bd Tryz.f95) (xkF (gam_cons (sp_160 K) (gam_cons (sp_161 K) gam_nil)) ov_nil) (by intro a0 a1; show @Eq _ _ _; kernel_rfl) cuts_nil Tryz.func95 trivial
def l_laws_heldThingS_1 (K : Nat) (a0 : List T_impl_Thing) : Nat -> Int -> Int -> Option (Int)
 | 0, _, _ => none
 | n1 + 1, v1, v2 => (bif (decide (v2 < (a0.length : Int))) then (if (0 : Int) ≤ v2 ∧ v2 < (a0.length : Int) then (bif (((gt a0 v2).fAt) != v1) then some (-1) else (if (0 : Int) ≤ v2 ∧ v2 < (a0.length : Int) then (bif (((gt a0 v2).fLen) != (iAdd .i64 v1 1)) then some (-1) else (if (0 : Int) ≤ v2 ∧ v2 < (a0.length : Int) then (bif (((gt a0 v2).fRun) != (iAdd .i64 (iAdd .i64 v1 1) 1)) then some (-1) else (l_laws_heldThingS_1 K a0 n1 (iAdd .i64 (iAdd .i64 (iAdd .i64 v1 1) 1) 1) (iAdd .i64 v2 1))) else none)) else none)) else none) else some v1)
def m_laws_heldThingS (K : Nat) (a0 : List T_impl_Thing) (a1 : Int) : Option (Int) := (l_laws_heldThingS_1 K a0 K a1 0)
def s_163 : Sig := ⟨[.v 41, .v 3], [.v 3], true⟩
def c_163 (K : Nat) : Ctr tyU := ⟨s_163, m_laws_heldThingS K⟩
def x_163 (K : Nat) := xF s_163 [] [] 40 [] [] [] [] [.tmp 4]
def h_163_26 : Shape := ⟨[(0, .v 41), (1, .v 2), (5, .v 2)], []⟩
def M_163_26 (K : Nat) (n : Nat) (q : PT h_163_26) : Rt s_163 := l_laws_heldThingS_1 K q.1 n q.2.1 q.2.2.1
theorem e_163_26 (K : Nat) : AtL (x_163 K) (fun n => []) [] (bd Tryz.f166) 26 (M_163_26 K) := fun n q => by kernel_rfl
theorem xk_163 (K : Nat) : XF [.tmp 4] s_163 40 [] (x_163 K) := xkF gam_nil ov_nil
theorem k_163_26 (K : Nat) (n : Nat) : CF [.tmp 4] s_163 40 [] (bd Tryz.f166) [] 26 (ar h_163_26 (M_163_26 K n)) :=
 loopF (xk_163 K) (e_163_26 K) (fun n => cuts_nil) n
theorem sp_163 (K : Nat) : OkF 166 (c_163 K) :=
 ctrF (x := x_163 K) (L := [(26, ar h_163_26 (M_163_26 K K))]) (c0 := bd Tryz.f166) (xk_163 K) (by intro a0 a1; show @Eq _ _ _; kernel_rfl) (cuts_cons (k_163_26 K K) cuts_nil) Tryz.func166 trivial
def l_laws_heldNodeS_1 (K : Nat) (a0 : List T_impl_Node) : Nat -> Int -> Int -> Option (Int)
 | 0, _, _ => none
 | n1 + 1, v1, v2 => (bif (decide (v2 < (a0.length : Int))) then (if (0 : Int) ≤ v2 ∧ v2 < (a0.length : Int) then (bif (((gt a0 v2).fSt) != v1) then some (-1) else (if (0 : Int) ≤ v2 ∧ v2 < (a0.length : Int) then (bif (((gt a0 v2).fGen) != (iAdd .i64 v1 1)) then some (-1) else (if (0 : Int) ≤ v2 ∧ v2 < (a0.length : Int) then (bif (((gt a0 v2).fEp) != (iAdd .i64 (iAdd .i64 v1 1) 1)) then some (-1) else (if (0 : Int) ≤ v2 ∧ v2 < (a0.length : Int) then (bif (((gt a0 v2).fUp) != (iAdd .i64 (iAdd .i64 (iAdd .i64 v1 1) 1) 1)) then some (-1) else (if (0 : Int) ≤ v2 ∧ v2 < (a0.length : Int) then (bif (((gt a0 v2).fUpEp) != (iAdd .i64 (iAdd .i64 (iAdd .i64 (iAdd .i64 v1 1) 1) 1) 1)) then some (-1) else (if (0 : Int) ≤ v2 ∧ v2 < (a0.length : Int) then (bif (((gt a0 v2).fFirst) != (iAdd .i64 (iAdd .i64 (iAdd .i64 (iAdd .i64 (iAdd .i64 v1 1) 1) 1) 1) 1)) then some (-1) else (if (0 : Int) ≤ v2 ∧ v2 < (a0.length : Int) then (bif (((gt a0 v2).fNext) != (iAdd .i64 (iAdd .i64 (iAdd .i64 (iAdd .i64 (iAdd .i64 (iAdd .i64 v1 1) 1) 1) 1) 1) 1)) then some (-1) else (if (0 : Int) ≤ v2 ∧ v2 < (a0.length : Int) then (bif (((gt a0 v2).fPrev) != (iAdd .i64 (iAdd .i64 (iAdd .i64 (iAdd .i64 (iAdd .i64 (iAdd .i64 (iAdd .i64 v1 1) 1) 1) 1) 1) 1) 1)) then some (-1) else (if (0 : Int) ≤ v2 ∧ v2 < (a0.length : Int) then ((m_laws_heldIntS K ((gt a0 v2).fChunks) (iAdd .i64 (iAdd .i64 (iAdd .i64 (iAdd .i64 (iAdd .i64 (iAdd .i64 (iAdd .i64 (iAdd .i64 v1 1) 1) 1) 1) 1) 1) 1) 1)).bind fun r3 => (bif (decide (r3 < 0)) then some (-1) else (if (0 : Int) ≤ v2 ∧ v2 < (a0.length : Int) then (bif (((gt a0 v2).fCur) != r3) then some (-1) else (if (0 : Int) ≤ v2 ∧ v2 < (a0.length : Int) then (bif (((gt a0 v2).fBump) != (iAdd .i64 r3 1)) then some (-1) else (if (0 : Int) ≤ v2 ∧ v2 < (a0.length : Int) then ((m_laws_heldThingS K ((gt a0 v2).fThings) (iAdd .i64 (iAdd .i64 r3 1) 1)).bind fun r4 => (bif (decide (r4 < 0)) then some (-1) else (if (0 : Int) ≤ v2 ∧ v2 < (a0.length : Int) then ((m_laws_heldIntS K ((gt a0 v2).fTags) r4).bind fun r5 => (bif (decide (r5 < 0)) then some (-1) else (l_laws_heldNodeS_1 K a0 n1 r5 (iAdd .i64 v2 1)))) else none))) else none)) else none)) else none))) else none)) else none)) else none)) else none)) else none)) else none)) else none)) else none)) else none) else some v1)
def m_laws_heldNodeS (K : Nat) (a0 : List T_impl_Node) (a1 : Int) : Option (Int) := (l_laws_heldNodeS_1 K a0 K a1 0)
def s_164 : Sig := ⟨[.v 29, .v 3], [.v 3], true⟩
def c_164 (K : Nat) : Ctr tyU := ⟨s_164, m_laws_heldNodeS K⟩
def x_164 (K : Nat) := xF s_164 [(98, c_161 K), (166, c_163 K)] [] 130 [] [] [] [] [.tmp 4]
def h_164_26 : Shape := ⟨[(0, .v 29), (1, .v 2), (5, .v 2)], []⟩
def M_164_26 (K : Nat) (n : Nat) (q : PT h_164_26) : Rt s_164 := l_laws_heldNodeS_1 K q.1 n q.2.1 q.2.2.1
theorem e_164_26 (K : Nat) : AtL (x_164 K) (fun n => []) [] (bd Tryz.f96) 26 (M_164_26 K) := fun n q => by kernel_rfl
theorem xk_164 (K : Nat) : XF [.tmp 4] s_164 130 [] (x_164 K) := xkF (gam_cons (sp_161 K) (gam_cons (sp_163 K) gam_nil)) ov_nil
theorem k_164_26 (K : Nat) (n : Nat) : CF [.tmp 4] s_164 130 [] (bd Tryz.f96) [] 26 (ar h_164_26 (M_164_26 K n)) :=
 loopF (xk_164 K) (e_164_26 K) (fun n => cuts_nil) n
theorem sp_164 (K : Nat) : OkF 96 (c_164 K) :=
 ctrF (x := x_164 K) (L := [(26, ar h_164_26 (M_164_26 K K))]) (c0 := bd Tryz.f96) (xk_164 K) (by intro a0 a1; show @Eq _ _ _; kernel_rfl) (cuts_cons (k_164_26 K K) cuts_nil) Tryz.func96 trivial
def l_laws_heldWasteS_1 (K : Nat) (a0 : List T_impl_Waste) : Nat -> Int -> Int -> Option (Int)
 | 0, _, _ => none
 | n1 + 1, v1, v2 => (bif (decide (v2 < (a0.length : Int))) then (if (0 : Int) ≤ v2 ∧ v2 < (a0.length : Int) then (bif (((gt a0 v2).fSlot) != v1) then some (-1) else (if (0 : Int) ≤ v2 ∧ v2 < (a0.length : Int) then (bif (((gt a0 v2).fFirst) != (iAdd .i64 v1 1)) then some (-1) else (if (0 : Int) ≤ v2 ∧ v2 < (a0.length : Int) then ((m_laws_heldIntS K ((gt a0 v2).fTags) (iAdd .i64 (iAdd .i64 v1 1) 1)).bind fun r3 => (bif (decide (r3 < 0)) then some (-1) else (if (0 : Int) ≤ v2 ∧ v2 < (a0.length : Int) then ((m_laws_heldIntS K ((gt a0 v2).fChunks) r3).bind fun r4 => (bif (decide (r4 < 0)) then some (-1) else (if (0 : Int) ≤ v2 ∧ v2 < (a0.length : Int) then (bif (((gt a0 v2).fDone) != r4) then some (-1) else (l_laws_heldWasteS_1 K a0 n1 (iAdd .i64 r4 1) (iAdd .i64 v2 1))) else none))) else none))) else none)) else none)) else none) else some v1)
def m_laws_heldWasteS (K : Nat) (a0 : List T_impl_Waste) (a1 : Int) : Option (Int) := (l_laws_heldWasteS_1 K a0 K a1 0)
def s_165 : Sig := ⟨[.v 30, .v 3], [.v 3], true⟩
def c_165 (K : Nat) : Ctr tyU := ⟨s_165, m_laws_heldWasteS K⟩
def x_165 (K : Nat) := xF s_165 [(98, c_161 K)] [] 58 [] [] [] [] [.tmp 4]
def h_165_26 : Shape := ⟨[(0, .v 30), (1, .v 2), (5, .v 2)], []⟩
def M_165_26 (K : Nat) (n : Nat) (q : PT h_165_26) : Rt s_165 := l_laws_heldWasteS_1 K q.1 n q.2.1 q.2.2.1
theorem e_165_26 (K : Nat) : AtL (x_165 K) (fun n => []) [] (bd Tryz.f97) 26 (M_165_26 K) := fun n q => by kernel_rfl
theorem xk_165 (K : Nat) : XF [.tmp 4] s_165 58 [] (x_165 K) := xkF (gam_cons (sp_161 K) gam_nil) ov_nil
theorem k_165_26 (K : Nat) (n : Nat) : CF [.tmp 4] s_165 58 [] (bd Tryz.f97) [] 26 (ar h_165_26 (M_165_26 K n)) :=
 loopF (xk_165 K) (e_165_26 K) (fun n => cuts_nil) n
theorem sp_165 (K : Nat) : OkF 97 (c_165 K) :=
 ctrF (x := x_165 K) (L := [(26, ar h_165_26 (M_165_26 K K))]) (c0 := bd Tryz.f97) (xk_165 K) (by intro a0 a1; show @Eq _ _ _; kernel_rfl) (cuts_cons (k_165_26 K K) cuts_nil) Tryz.func97 trivial
def m_laws_heldWorld (K : Nat) (a0 : T_impl_World) (a1 : Int) : Option (Int) := ((m_laws_heldPool K a0.fP a1).bind fun r1 => (bif (decide (r1 < 0)) then some (-1) else ((m_laws_heldNodeS K a0.fL r1).bind fun r2 => (bif (decide (r2 < 0)) then some (-1) else ((m_laws_heldWasteS K a0.fQ r2).bind fun r3 => (bif (decide (r3 < 0)) then some (-1) else ((m_laws_heldIntS K a0.fLog r3).bind fun r4 => (bif (decide (r4 < 0)) then some (-1) else some r4))))))))
def s_166 : Sig := ⟨[.v 32, .v 3], [.v 3], true⟩
def c_166 (K : Nat) : Ctr tyU := ⟨s_166, m_laws_heldWorld K⟩
def x_166 (K : Nat) := xF s_166 [(95, c_162 K), (96, c_164 K), (97, c_165 K), (98, c_161 K)] [] 30 [] [] [] [] [.tmp 4]
theorem sp_166 (K : Nat) : OkF 35 (c_166 K) :=
 ctrF (x := x_166 K) (L := []) (c0 := bd Tryz.f35) (xkF (gam_cons (sp_162 K) (gam_cons (sp_164 K) (gam_cons (sp_165 K) (gam_cons (sp_161 K) gam_nil)))) ov_nil) (by intro a0 a1; show @Eq _ _ _; kernel_rfl) cuts_nil Tryz.func35 trivial
def m_laws_heldAns (K : Nat) (a0 : T_impl_Ans) (a1 : Int) : Option (Int) := ((m_laws_heldByteS K a0.fB a1).bind fun r1 => (bif (decide (r1 < 0)) then some (-1) else some r1))
def s_167 : Sig := ⟨[.v 69, .v 3], [.v 3], true⟩
def c_167 (K : Nat) : Ctr tyU := ⟨s_167, m_laws_heldAns K⟩
def x_167 (K : Nat) := xF s_167 [(30, c_160 K)] [] 12 [] [] [] [] [.tmp 4]
theorem sp_167 (K : Nat) : OkF 36 (c_167 K) :=
 ctrF (x := x_167 K) (L := []) (c0 := bd Tryz.f36) (xkF (gam_cons (sp_160 K) gam_nil) ov_nil) (by intro a0 a1; show @Eq _ _ _; kernel_rfl) cuts_nil Tryz.func36 trivial
def m_laws_FnExactStats (K : Nat) (a0 : T_laws_World) (a1 : T_laws_Handle) : Option (Bool) := ((m_laws_szWorld K a0 1048576).bind fun r1 => (bif (decide (r1 < 0)) then some true else ((m_laws_toWorld K a0).bind fun r2 => ((m_laws_toHandle K a1).bind fun r3 => ((m_spec_Stats K r2 r3).bind fun r4 => ((m_laws_toWorld K a0).bind fun r5 => ((m_laws_toHandle K a1).bind fun r6 => ((m_impl_Stats K r5 r6).bind fun r7 => ((m_laws_eqWorld K r7.1 r4.1).bind fun r8 => (bif r8 then ((m_laws_eqAns K r7.2 r4.2).bind fun r9 => (bif (!r9) then some false else ((m_laws_toWorld K a0).bind fun r10 => ((m_laws_eqWorld K r5 r10).bind fun r11 => (bif (!r11) then some false else ((m_laws_markWorld K r5 1).bind fun r12 => (if r12.2.1.length = r5.fP.fMem.length ∧ r12.2.2.1.length = r5.fP.fSt.length ∧ r12.2.2.2.1.length = r5.fP.fOwn.length ∧ r12.2.2.2.2.1.length = r5.fL.length ∧ r12.2.2.2.2.2.1.length = r5.fQ.length ∧ r12.2.2.2.2.2.2.length = r5.fLog.length then (bif (decide (r12.1 < 0)) then some false else ((m_laws_eqWorld K r7.1 r4.1).bind fun r13 => (bif r13 then ((m_laws_eqAns K r7.2 r4.2).bind fun r14 => (bif (!r14) then some false else ((m_laws_markWorld K r7.1 1).bind fun r15 => (if r15.2.1.length = r7.1.fP.fMem.length ∧ r15.2.2.1.length = r7.1.fP.fSt.length ∧ r15.2.2.2.1.length = r7.1.fP.fOwn.length ∧ r15.2.2.2.2.1.length = r7.1.fL.length ∧ r15.2.2.2.2.2.1.length = r7.1.fQ.length ∧ r15.2.2.2.2.2.2.length = r7.1.fLog.length then ((m_laws_markAns K r7.2 r15.1).bind fun r16 => (if r16.2.length = r7.2.fB.length then ((m_laws_heldWorld K (T_impl_World.mk r7.1.fC (T_impl_Pool.mk r15.2.1 r15.2.2.1 r15.2.2.2.1) r15.2.2.2.2.1 r15.2.2.2.2.2.1 r15.2.2.2.2.2.2) 1).bind fun r17 => (bif (decide (r17 < 0)) then some false else ((m_laws_heldAns K (T_impl_Ans.mk r7.2.fCode r7.2.fH r7.2.fR r16.2 r7.2.fWalk r7.2.fTax r7.2.fDrain) r17).bind fun r18 => (bif (decide (r18 < 0)) then some false else (bif (r18 != r16.1) then some false else ((m_laws_toWorld K a0).bind fun r19 => ((m_laws_toHandle K a1).bind fun r20 => ((m_impl_Stats K r19 r20).bind fun r21 => ((m_laws_eqWorld K r21.1 r4.1).bind fun r22 => (bif r22 then ((m_laws_eqAns K r21.2 r4.2).bind fun r23 => (bif (!r23) then some false else ((m_laws_heldWorld K (T_impl_World.mk r7.1.fC (T_impl_Pool.mk r15.2.1 r15.2.2.1 r15.2.2.2.1) r15.2.2.2.2.1 r15.2.2.2.2.2.1 r15.2.2.2.2.2.2) 1).bind fun r24 => (bif (decide (r24 < 0)) then some false else ((m_laws_heldAns K (T_impl_Ans.mk r7.2.fCode r7.2.fH r7.2.fR r16.2 r7.2.fWalk r7.2.fTax r7.2.fDrain) r24).bind fun r25 => (bif (decide (r25 < 0)) then some false else (bif (r25 != r16.1) then some false else some true))))))) else some false)))))))))) else none)) else none)))) else some false))) else none))))))) else some false))))))))))
def s_168 : Sig := ⟨[.v 52, .v 53], [.v 4], true⟩
def c_168 (K : Nat) : Ctr tyU := ⟨s_168, m_laws_FnExactStats K⟩
def x_168 (K : Nat) := xF s_168 [(18, c_8 K), (20, c_19 K), (21, c_20 K), (23, c_148 K), (28, c_158 K), (33, c_151 K), (34, c_159 K), (35, c_166 K), (36, c_167 K), (37, c_66 K), (38, c_137 K)] [] 120 [40, 41, 42, 57, 58, 61, 62, 63, 64, 99, 100, 101] [] [] [] [.tmp 4]
theorem sp_168 (K : Nat) : OkF 7 (c_168 K) :=
 ctrF (x := x_168 K) (L := []) (c0 := bd Tryz.f7) (xkF (gam_cons (sp_8 K) (gam_cons (sp_19 K) (gam_cons (sp_20 K) (gam_cons (sp_148 K) (gam_cons (sp_158 K) (gam_cons (sp_151 K) (gam_cons (sp_159 K) (gam_cons (sp_166 K) (gam_cons (sp_167 K) (gam_cons (sp_66 K) (gam_cons (sp_137 K) gam_nil))))))))))) ov_nil) (by intro a0 a1; show @Eq _ _ _; kernel_rfl) cuts_nil Tryz.func7 trivial
end
end Go.Proofs.YtjdblamhaljjbaaGreat
