/- What the arguments are; no condition. -/
import Derived.Test.YtjdblamhaljjbaaGreatFUni
set_option linter.all false
namespace Go.Proofs.YtjdblamhaljjbaaGreat
open Go.Eng Go.ChangeShapes Go.WideShapes Go.ChangeAt Go.RowKit
def Alb (x:Int):Prop:=(Lit.int .i64 x).wf=true
def A84 (x:Es):Prop:=Alb x.Ae∧Alb x.Eg∧Alb x.C0∧Alb x.E9∧Alb x.C1∧Alb x.Eh
def Baa (x:Int):Prop:=(Lit.int .u8 x).wf=true
def A85 (x:List Int):Prop:=(∀a∈x,Baa a)∧x.length*1≤reachBytes∧x.length≤maxLen
def Awc (x:List Int):Prop:=(∀a∈x,Alb a)∧x.length*8≤reachBytes∧x.length≤maxLen
def A86 (x:Dx):Prop:=A85 x.Fy∧Awc x.Hh∧Awc x.Fz
def Az1 (x:Bb):Prop:=Alb x.fAt∧Alb x.Vu∧Alb x.Vv
def Avk (x:List Bb):Prop:=(∀a∈x,Az1 a)∧x.length*24≤reachBytes∧x.length≤maxLen
def Avl (x:Bc):Prop:=Alb x.Hh∧Alb x.C2∧Alb x.Ly∧Alb x.fUp∧Alb x.Gq∧Alb x.Bt∧Alb x.Gr∧Alb x.Gs∧Awc x.Ae∧Alb x.Pq∧Alb x.Gt∧Avk x.Ea∧Awc x.Dg
def Awd (x:List Bc):Prop:=(∀a∈x,Avl a)∧x.length*152≤reachBytes∧x.length≤maxLen
def Ats (x:Ay):Prop:=Alb x.A5∧Alb x.Bt∧Awc x.Dg∧Awc x.Ae∧Alb x.Gu
def Avm (x:List Ay):Prop:=(∀a∈x,Ats a)∧x.length*72≤reachBytes∧x.length≤maxLen
def Ap9 (x:Ec):Prop:=A84 x.fC∧A86 x.fP∧Awd x.fL∧Avm x.fQ∧Awc x.Pr
def A5i (x:Dn):Prop:=Alb x.A5∧Alb x.C2
def Azi (x:Ge):Prop:=A5i x.fH∧Alb x.Ly∧Alb x.fNo
theorem Aph{v:V}(h:Lf tab 3 v): ∃a,v= .int .i64 a∧Alb a:=Aof h rfl rfl
theorem Bvo (x:List V)(hl:x.length=1)(h: ∀(i:Nat) l v,([3]:List Nat)[i]? =some l->x[i]? =some v->Lf tab l v): ∃a,x=Ab a∧Alb a:=by
 match x,hl with
 |[v0],_=>
  obtain⟨x0,rfl,w0⟩:=Aph (h 0 _ _ rfl rfl);exact⟨x0,rfl,w0⟩
theorem Bk4{x:A}(h:TA tab 3 x): ∃a,x= .c (.int .i64 a)∧Alb a:=let ⟨v,e,h1⟩:=Aoh h rfl rfl;let ⟨a,e2,w⟩:=Aph h1;⟨a,by rw[e,e2],w⟩
theorem B2i{v:V}(h:Lf tab 5 v): ∃a,v= .int .u8 a∧Baa a:=Aof h rfl rfl
theorem B2j (x:List V)(hl:x.length=1)(h: ∀(i:Nat) l v,([5]:List Nat)[i]? =some l->x[i]? =some v->Lf tab l v): ∃a,x=B7 a∧Baa a:=by
 match x,hl with
 |[v0],_=>
  obtain⟨x0,rfl,w0⟩:=B2i (h 0 _ _ rfl rfl);exact⟨x0,rfl,w0⟩
theorem Bvp{v:V}(h:Lf tab 22 v): ∃a,v= .row false 1 (a.map B7)∧A85 a:=let ⟨l,e,h1,h2,h3⟩:=Aog h rfl rfl rfl rfl B2j;⟨l,e,h1,h2,h3⟩
theorem Ayq{v:V}(h:Lf tab 26 v): ∃a,v= .row false 1 (a.map Ab)∧Awc a:=let ⟨l,e,h1,h2,h3⟩:=Aog h rfl rfl rfl rfl Bvo;⟨l,e,h1,h2,h3⟩
theorem A6f (x:List V)(hl:x.length=3)(h: ∀(i:Nat) l v,([3,3,3]:List Nat)[i]? =some l->x[i]? =some v->Lf tab l v): ∃a,x=Ak a∧Az1 a:=by
 match x,hl with
 |[v0,v1,v2],_=>
  obtain⟨x0,rfl,w0⟩:=Aph (h 0 _ _ rfl rfl);obtain⟨x1,rfl,w1⟩:=Aph (h 1 _ _ rfl rfl);obtain⟨x2,rfl,w2⟩:=Aph (h 2 _ _ rfl rfl);exact⟨(Bb.mk x0 x1 x2),rfl,⟨w0,w1,w2⟩⟩
theorem A5j{v:V}(h:Lf tab 152 v): ∃a,v= .row false 3 (a.map Ak)∧Avk a:=let ⟨l,e,h1,h2,h3⟩:=Aog h rfl rfl rfl rfl A6f;⟨l,e,h1,h2,h3⟩
theorem A87 (x:List V)(hl:x.length=13)(h: ∀(i:Nat) l v,([3,3,3,3,3,3,3,3,26,3,3,152,26]:List Nat)[i]? =some l->x[i]? =some v->Lf tab l v): ∃a,x=Be a∧Avl a:=by
 match x,hl with
 |[v0,v1,v2,v3,v4,v5,v6,v7,v8,v9,v10,v11,v12],_=>
  obtain⟨x0,rfl,w0⟩:=Aph (h 0 _ _ rfl rfl);obtain⟨x1,rfl,w1⟩:=Aph (h 1 _ _ rfl rfl);obtain⟨x2,rfl,w2⟩:=Aph (h 2 _ _ rfl rfl);obtain⟨x3,rfl,w3⟩:=Aph (h 3 _ _ rfl rfl);obtain⟨x4,rfl,w4⟩:=Aph (h 4 _ _ rfl rfl);obtain⟨x5,rfl,w5⟩:=Aph (h 5 _ _ rfl rfl);obtain⟨x6,rfl,w6⟩:=Aph (h 6 _ _ rfl rfl);obtain⟨x7,rfl,w7⟩:=Aph (h 7 _ _ rfl rfl)
  obtain⟨x8,rfl,w8⟩:=Ayq (h 8 _ _ rfl rfl);obtain⟨x9,rfl,w9⟩:=Aph (h 9 _ _ rfl rfl);obtain⟨x10,rfl,w10⟩:=Aph (h 10 _ _ rfl rfl);obtain⟨x11,rfl,w11⟩:=A5j (h 11 _ _ rfl rfl);obtain⟨x12,rfl,w12⟩:=Ayq (h 12 _ _ rfl rfl);exact⟨(Bc.mk x0 x1 x2 x3 x4 x5 x6 x7 x8 x9 x10 x11 x12),rfl,⟨w0,w1,w2,w3,w4,w5,w6,w7,w8,w9,w10,w11,w12⟩⟩
theorem A6g{v:V}(h:Lf tab 49 v): ∃a,v= .row false 13 (a.map Be)∧Awd a:=let ⟨l,e,h1,h2,h3⟩:=Aog h rfl rfl rfl rfl A87;⟨l,e,h1,h2,h3⟩
theorem A6h (x:List V)(hl:x.length=5)(h: ∀(i:Nat) l v,([3,3,26,26,3]:List Nat)[i]? =some l->x[i]? =some v->Lf tab l v): ∃a,x=A3 a∧Ats a:=by
 match x,hl with
 |[v0,v1,v2,v3,v4],_=>
  obtain⟨x0,rfl,w0⟩:=Aph (h 0 _ _ rfl rfl);obtain⟨x1,rfl,w1⟩:=Aph (h 1 _ _ rfl rfl);obtain⟨x2,rfl,w2⟩:=Ayq (h 2 _ _ rfl rfl);obtain⟨x3,rfl,w3⟩:=Ayq (h 3 _ _ rfl rfl);obtain⟨x4,rfl,w4⟩:=Aph (h 4 _ _ rfl rfl);exact⟨(Ay.mk x0 x1 x2 x3 x4),rfl,⟨w0,w1,w2,w3,w4⟩⟩
theorem A5k{v:V}(h:Lf tab 50 v): ∃a,v= .row false 5 (a.map A3)∧Avm a:=let ⟨l,e,h1,h2,h3⟩:=Aog h rfl rfl rfl rfl A6h;⟨l,e,h1,h2,h3⟩
theorem A6i (x:List V)(hl:x.length=12)(h: ∀(i:Nat) l v,([3,3,3,3,3,3,22,26,26,49,50,26]:List Nat)[i]? =some l->x[i]? =some v->Lf tab l v): ∃a,x=B5 a∧Ap9 a:=by
 match x,hl with
 |[v0,v1,v2,v3,v4,v5,v6,v7,v8,v9,v10,v11],_=>
  obtain⟨x0,rfl,w0⟩:=Aph (h 0 _ _ rfl rfl);obtain⟨x1,rfl,w1⟩:=Aph (h 1 _ _ rfl rfl);obtain⟨x2,rfl,w2⟩:=Aph (h 2 _ _ rfl rfl);obtain⟨x3,rfl,w3⟩:=Aph (h 3 _ _ rfl rfl);obtain⟨x4,rfl,w4⟩:=Aph (h 4 _ _ rfl rfl);obtain⟨x5,rfl,w5⟩:=Aph (h 5 _ _ rfl rfl);obtain⟨x6,rfl,w6⟩:=Bvp (h 6 _ _ rfl rfl);obtain⟨x7,rfl,w7⟩:=Ayq (h 7 _ _ rfl rfl)
  obtain⟨x8,rfl,w8⟩:=Ayq (h 8 _ _ rfl rfl);obtain⟨x9,rfl,w9⟩:=A6g (h 9 _ _ rfl rfl);obtain⟨x10,rfl,w10⟩:=A5k (h 10 _ _ rfl rfl);obtain⟨x11,rfl,w11⟩:=Ayq (h 11 _ _ rfl rfl);exact⟨(Ec.mk (Es.mk x0 x1 x2 x3 x4 x5) (Dx.mk x6 x7 x8) x9 x10 x11),rfl,⟨⟨w0,w1,w2,w3,w4,w5⟩,⟨w6,w7,w8⟩,w9,w10,w11⟩⟩
theorem A6j{x:A}(h:TA tab 52 x): ∃a,x= .g (B5 a)∧Ap9 a:=let ⟨vs,e,h1,h2⟩:=Aoi h rfl rfl rfl;let ⟨a,e2,w⟩:=A6i vs h1 h2;⟨a,by rw[e,e2]<;>rfl,w⟩
theorem Bab (x:List V)(hl:x.length=4)(h: ∀(i:Nat) l v,([3,3,3,3]:List Nat)[i]? =some l->x[i]? =some v->Lf tab l v): ∃a,x=C5 a∧Azi a:=by
 match x,hl with
 |[v0,v1,v2,v3],_=>
  obtain⟨x0,rfl,w0⟩:=Aph (h 0 _ _ rfl rfl);obtain⟨x1,rfl,w1⟩:=Aph (h 1 _ _ rfl rfl);obtain⟨x2,rfl,w2⟩:=Aph (h 2 _ _ rfl rfl);obtain⟨x3,rfl,w3⟩:=Aph (h 3 _ _ rfl rfl);exact⟨(Ge.mk (Dn.mk x0 x1) x2 x3),rfl,⟨⟨w0,w1⟩,w2,w3⟩⟩
theorem Bac{x:A}(h:TA tab 61 x): ∃a,x= .g (C5 a)∧Azi a:=let ⟨vs,e,h1,h2⟩:=Aoi h rfl rfl rfl;let ⟨a,e2,w⟩:=Bab vs h1 h2;⟨a,by rw[e,e2]<;>rfl,w⟩
theorem Bk5:ownKnob Tryz.prog.godebug=none:=by kernel_rfl
theorem Bk6:laidOutB Tryz.prog=true:=by kernel_rfl
end Go.Proofs.YtjdblamhaljjbaaGreat
