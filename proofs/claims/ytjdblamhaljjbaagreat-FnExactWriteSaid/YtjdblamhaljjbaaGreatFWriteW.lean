/- What the arguments are; no condition. -/
import Derived.Test.YtjdblamhaljjbaaGreatFUni
set_option linter.all false
namespace Go.Proofs.YtjdblamhaljjbaaGreat
open Go.Eng Go.ChangeShapes Go.WideShapes Go.ChangeAt Go.RowKit
def Alh (x:Int):Prop:=(Lit.int .i64 x).wf=true
def Bai (x:Int):Prop:=(Lit.int .u8 x).wf=true
def A2g (x:List Int):Prop:=(∀a∈x,Bai a)∧x.length*1≤reachBytes∧x.length≤maxLen
def A9d (x:Es):Prop:=Alh x.Ae∧Alh x.Eg∧Alh x.C0∧Alh x.E9∧Alh x.C1∧Alh x.Eh
def Awe (x:List Int):Prop:=(∀a∈x,Alh a)∧x.length*8≤reachBytes∧x.length≤maxLen
def A9e (x:Dx):Prop:=A2g x.Fy∧Awe x.Hh∧Awe x.Fz
def Az5 (x:Bb):Prop:=Alh x.fAt∧Alh x.Vu∧Alh x.Vv
def Avm (x:List Bb):Prop:=(∀a∈x,Az5 a)∧x.length*24≤reachBytes∧x.length≤maxLen
def Avn (x:Bc):Prop:=Alh x.Hh∧Alh x.C2∧Alh x.Ly∧Alh x.fUp∧Alh x.Gq∧Alh x.Bt∧Alh x.Gr∧Alh x.Gs∧Awe x.Ae∧Alh x.Pq∧Alh x.Gt∧Avm x.Ea∧Awe x.Dg
def Awf (x:List Bc):Prop:=(∀a∈x,Avn a)∧x.length*152≤reachBytes∧x.length≤maxLen
def Att (x:Ay):Prop:=Alh x.A5∧Alh x.Bt∧Awe x.Dg∧Awe x.Ae∧Alh x.Gu
def Avo (x:List Ay):Prop:=(∀a∈x,Att a)∧x.length*72≤reachBytes∧x.length≤maxLen
def Aqb (x:Ec):Prop:=A9d x.fC∧A9e x.fP∧Awf x.fL∧Avo x.fQ∧Awe x.Pr
def A5t (x:Dn):Prop:=Alh x.A5∧Alh x.C2
def Azl (x:Ge):Prop:=A5t x.fH∧Alh x.Ly∧Alh x.fNo
theorem Apj{v:V}(h:Lf tab 3 v): ∃a,v= .int .i64 a∧Alh a:=Aof h rfl rfl
theorem Bvv (x:List V)(hl:x.length=1)(h: ∀(i:Nat) l v,([3]:List Nat)[i]? =some l->x[i]? =some v->Lf tab l v): ∃a,x=Ab a∧Alh a:=by
 match x,hl with
 |[v0],_=>
  obtain⟨x0,rfl,w0⟩:=Apj (h 0 _ _ rfl rfl);exact⟨x0,rfl,w0⟩
theorem Bvw{x:A}(h:TA tab 3 x): ∃a,x= .c (.int .i64 a)∧Alh a:=let ⟨v,e,h1⟩:=Aoh h rfl rfl;let ⟨a,e2,w⟩:=Apj h1;⟨a,by rw[e,e2],w⟩
theorem B2n{v:V}(h:Lf tab 5 v): ∃a,v= .int .u8 a∧Bai a:=Aof h rfl rfl
theorem B2o (x:List V)(hl:x.length=1)(h: ∀(i:Nat) l v,([5]:List Nat)[i]? =some l->x[i]? =some v->Lf tab l v): ∃a,x=B7 a∧Bai a:=by
 match x,hl with
 |[v0],_=>
  obtain⟨x0,rfl,w0⟩:=B2n (h 0 _ _ rfl rfl);exact⟨x0,rfl,w0⟩
theorem Bk7{v:V}(h:Lf tab 22 v): ∃a,v= .row false 1 (a.map B7)∧A2g a:=let ⟨l,e,h1,h2,h3⟩:=Aog h rfl rfl rfl rfl B2o;⟨l,e,h1,h2,h3⟩
theorem Bvx{x:A}(h:TA tab 22 x): ∃a,x= .c (.row false 1 (a.map B7))∧A2g a:=let ⟨v,e,h1⟩:=Aoh h rfl rfl;let ⟨a,e2,w⟩:=Bk7 h1;⟨a,by rw[e,e2],w⟩
theorem Ays{v:V}(h:Lf tab 26 v): ∃a,v= .row false 1 (a.map Ab)∧Awe a:=let ⟨l,e,h1,h2,h3⟩:=Aog h rfl rfl rfl rfl Bvv;⟨l,e,h1,h2,h3⟩
theorem A6o (x:List V)(hl:x.length=3)(h: ∀(i:Nat) l v,([3,3,3]:List Nat)[i]? =some l->x[i]? =some v->Lf tab l v): ∃a,x=Ak a∧Az5 a:=by
 match x,hl with
 |[v0,v1,v2],_=>
  obtain⟨x0,rfl,w0⟩:=Apj (h 0 _ _ rfl rfl);obtain⟨x1,rfl,w1⟩:=Apj (h 1 _ _ rfl rfl);obtain⟨x2,rfl,w2⟩:=Apj (h 2 _ _ rfl rfl);exact⟨(Bb.mk x0 x1 x2),rfl,⟨w0,w1,w2⟩⟩
theorem A5u{v:V}(h:Lf tab 152 v): ∃a,v= .row false 3 (a.map Ak)∧Avm a:=let ⟨l,e,h1,h2,h3⟩:=Aog h rfl rfl rfl rfl A6o;⟨l,e,h1,h2,h3⟩
theorem A9f (x:List V)(hl:x.length=13)(h: ∀(i:Nat) l v,([3,3,3,3,3,3,3,3,26,3,3,152,26]:List Nat)[i]? =some l->x[i]? =some v->Lf tab l v): ∃a,x=Be a∧Avn a:=by
 match x,hl with
 |[v0,v1,v2,v3,v4,v5,v6,v7,v8,v9,v10,v11,v12],_=>
  obtain⟨x0,rfl,w0⟩:=Apj (h 0 _ _ rfl rfl);obtain⟨x1,rfl,w1⟩:=Apj (h 1 _ _ rfl rfl);obtain⟨x2,rfl,w2⟩:=Apj (h 2 _ _ rfl rfl);obtain⟨x3,rfl,w3⟩:=Apj (h 3 _ _ rfl rfl);obtain⟨x4,rfl,w4⟩:=Apj (h 4 _ _ rfl rfl);obtain⟨x5,rfl,w5⟩:=Apj (h 5 _ _ rfl rfl);obtain⟨x6,rfl,w6⟩:=Apj (h 6 _ _ rfl rfl);obtain⟨x7,rfl,w7⟩:=Apj (h 7 _ _ rfl rfl)
  obtain⟨x8,rfl,w8⟩:=Ays (h 8 _ _ rfl rfl);obtain⟨x9,rfl,w9⟩:=Apj (h 9 _ _ rfl rfl);obtain⟨x10,rfl,w10⟩:=Apj (h 10 _ _ rfl rfl);obtain⟨x11,rfl,w11⟩:=A5u (h 11 _ _ rfl rfl);obtain⟨x12,rfl,w12⟩:=Ays (h 12 _ _ rfl rfl);exact⟨(Bc.mk x0 x1 x2 x3 x4 x5 x6 x7 x8 x9 x10 x11 x12),rfl,⟨w0,w1,w2,w3,w4,w5,w6,w7,w8,w9,w10,w11,w12⟩⟩
theorem A6p{v:V}(h:Lf tab 49 v): ∃a,v= .row false 13 (a.map Be)∧Awf a:=let ⟨l,e,h1,h2,h3⟩:=Aog h rfl rfl rfl rfl A9f;⟨l,e,h1,h2,h3⟩
theorem A6q (x:List V)(hl:x.length=5)(h: ∀(i:Nat) l v,([3,3,26,26,3]:List Nat)[i]? =some l->x[i]? =some v->Lf tab l v): ∃a,x=A3 a∧Att a:=by
 match x,hl with
 |[v0,v1,v2,v3,v4],_=>
  obtain⟨x0,rfl,w0⟩:=Apj (h 0 _ _ rfl rfl);obtain⟨x1,rfl,w1⟩:=Apj (h 1 _ _ rfl rfl);obtain⟨x2,rfl,w2⟩:=Ays (h 2 _ _ rfl rfl);obtain⟨x3,rfl,w3⟩:=Ays (h 3 _ _ rfl rfl);obtain⟨x4,rfl,w4⟩:=Apj (h 4 _ _ rfl rfl);exact⟨(Ay.mk x0 x1 x2 x3 x4),rfl,⟨w0,w1,w2,w3,w4⟩⟩
theorem A5v{v:V}(h:Lf tab 50 v): ∃a,v= .row false 5 (a.map A3)∧Avo a:=let ⟨l,e,h1,h2,h3⟩:=Aog h rfl rfl rfl rfl A6q;⟨l,e,h1,h2,h3⟩
theorem A6r (x:List V)(hl:x.length=12)(h: ∀(i:Nat) l v,([3,3,3,3,3,3,22,26,26,49,50,26]:List Nat)[i]? =some l->x[i]? =some v->Lf tab l v): ∃a,x=B5 a∧Aqb a:=by
 match x,hl with
 |[v0,v1,v2,v3,v4,v5,v6,v7,v8,v9,v10,v11],_=>
  obtain⟨x0,rfl,w0⟩:=Apj (h 0 _ _ rfl rfl);obtain⟨x1,rfl,w1⟩:=Apj (h 1 _ _ rfl rfl);obtain⟨x2,rfl,w2⟩:=Apj (h 2 _ _ rfl rfl);obtain⟨x3,rfl,w3⟩:=Apj (h 3 _ _ rfl rfl);obtain⟨x4,rfl,w4⟩:=Apj (h 4 _ _ rfl rfl);obtain⟨x5,rfl,w5⟩:=Apj (h 5 _ _ rfl rfl);obtain⟨x6,rfl,w6⟩:=Bk7 (h 6 _ _ rfl rfl);obtain⟨x7,rfl,w7⟩:=Ays (h 7 _ _ rfl rfl)
  obtain⟨x8,rfl,w8⟩:=Ays (h 8 _ _ rfl rfl);obtain⟨x9,rfl,w9⟩:=A6p (h 9 _ _ rfl rfl);obtain⟨x10,rfl,w10⟩:=A5v (h 10 _ _ rfl rfl);obtain⟨x11,rfl,w11⟩:=Ays (h 11 _ _ rfl rfl);exact⟨(Ec.mk (Es.mk x0 x1 x2 x3 x4 x5) (Dx.mk x6 x7 x8) x9 x10 x11),rfl,⟨⟨w0,w1,w2,w3,w4,w5⟩,⟨w6,w7,w8⟩,w9,w10,w11⟩⟩
theorem A6s{x:A}(h:TA tab 52 x): ∃a,x= .g (B5 a)∧Aqb a:=let ⟨vs,e,h1,h2⟩:=Aoi h rfl rfl rfl;let ⟨a,e2,w⟩:=A6r vs h1 h2;⟨a,by rw[e,e2]<;>rfl,w⟩
theorem Baj (x:List V)(hl:x.length=4)(h: ∀(i:Nat) l v,([3,3,3,3]:List Nat)[i]? =some l->x[i]? =some v->Lf tab l v): ∃a,x=C5 a∧Azl a:=by
 match x,hl with
 |[v0,v1,v2,v3],_=>
  obtain⟨x0,rfl,w0⟩:=Apj (h 0 _ _ rfl rfl);obtain⟨x1,rfl,w1⟩:=Apj (h 1 _ _ rfl rfl);obtain⟨x2,rfl,w2⟩:=Apj (h 2 _ _ rfl rfl);obtain⟨x3,rfl,w3⟩:=Apj (h 3 _ _ rfl rfl);exact⟨(Ge.mk (Dn.mk x0 x1) x2 x3),rfl,⟨⟨w0,w1⟩,w2,w3⟩⟩
theorem Bak{x:A}(h:TA tab 61 x): ∃a,x= .g (C5 a)∧Azl a:=let ⟨vs,e,h1,h2⟩:=Aoi h rfl rfl rfl;let ⟨a,e2,w⟩:=Baj vs h1 h2;⟨a,by rw[e,e2]<;>rfl,w⟩
theorem Bk8:ownKnob Tryz.prog.godebug=none:=by kernel_rfl
theorem Bk9:laidOutB Tryz.prog=true:=by kernel_rfl
end Go.Proofs.YtjdblamhaljjbaaGreat
