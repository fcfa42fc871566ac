/- What the arguments are; no condition. -/
import Derived.Test.YtjdblamhaljjbaaGreatFUni
set_option linter.all false
namespace Go.Proofs.YtjdblamhaljjbaaGreat
open Go.Eng Go.ChangeShapes Go.WideShapes Go.ChangeAt Go.RowKit
def An4 (x:Int):Prop:=(Lit.int .i64 x).wf=true
def A9d (x:Es):Prop:=An4 x.Ae∧An4 x.Eg∧An4 x.C0∧An4 x.E9∧An4 x.C1∧An4 x.Eh
def Bao (x:Int):Prop:=(Lit.int .u8 x).wf=true
def A9e (x:List Int):Prop:=(∀a∈x,Bao a)∧x.length*1≤reachBytes∧x.length≤maxLen
def Awi (x:List Int):Prop:=(∀a∈x,An4 a)∧x.length*8≤reachBytes∧x.length≤maxLen
def A9f (x:Dx):Prop:=A9e x.Fy∧Awi x.Hh∧Awi x.Fz
def Az7 (x:Bb):Prop:=An4 x.fAt∧An4 x.Vu∧An4 x.Vv
def Avq (x:List Bb):Prop:=(∀a∈x,Az7 a)∧x.length*24≤reachBytes∧x.length≤maxLen
def Avr (x:Bc):Prop:=An4 x.Hh∧An4 x.C2∧An4 x.Ly∧An4 x.fUp∧An4 x.Gq∧An4 x.Bt∧An4 x.Gr∧An4 x.Gs∧Awi x.Ae∧An4 x.Pq∧An4 x.Gt∧Avq x.Ea∧Awi x.Dg
def Awj (x:List Bc):Prop:=(∀a∈x,Avr a)∧x.length*152≤reachBytes∧x.length≤maxLen
def At1 (x:Ay):Prop:=An4 x.A5∧An4 x.Bt∧Awi x.Dg∧Awi x.Ae∧An4 x.Gu
def Avs (x:List Ay):Prop:=(∀a∈x,At1 a)∧x.length*72≤reachBytes∧x.length≤maxLen
def Aqb (x:Ec):Prop:=A9d x.fC∧A9f x.fP∧Awj x.fL∧Avs x.fQ∧Awi x.Pr
def Axi (x:Dn):Prop:=An4 x.A5∧An4 x.C2
theorem Ap4{v:V}(h:Lf tab 3 v): ∃a,v= .int .i64 a∧An4 a:=Aof h rfl rfl
theorem Bwe (x:List V)(hl:x.length=1)(h: ∀(i:Nat) l v,([3]:List Nat)[i]? =some l->x[i]? =some v->Lf tab l v): ∃a,x=Ab a∧An4 a:=by
 match x,hl with
 |[v0],_=>
  obtain⟨x0,rfl,w0⟩:=Ap4 (h 0 _ _ rfl rfl);exact⟨x0,rfl,w0⟩
theorem B2v{v:V}(h:Lf tab 5 v): ∃a,v= .int .u8 a∧Bao a:=Aof h rfl rfl
theorem B2w (x:List V)(hl:x.length=1)(h: ∀(i:Nat) l v,([5]:List Nat)[i]? =some l->x[i]? =some v->Lf tab l v): ∃a,x=B7 a∧Bao a:=by
 match x,hl with
 |[v0],_=>
  obtain⟨x0,rfl,w0⟩:=B2v (h 0 _ _ rfl rfl);exact⟨x0,rfl,w0⟩
theorem Bwf{v:V}(h:Lf tab 22 v): ∃a,v= .row false 1 (a.map B7)∧A9e a:=let ⟨l,e,h1,h2,h3⟩:=Aog h rfl rfl rfl rfl B2w;⟨l,e,h1,h2,h3⟩
theorem Ayy{v:V}(h:Lf tab 26 v): ∃a,v= .row false 1 (a.map Ab)∧Awi a:=let ⟨l,e,h1,h2,h3⟩:=Aog h rfl rfl rfl rfl Bwe;⟨l,e,h1,h2,h3⟩
theorem A6c (x:List V)(hl:x.length=3)(h: ∀(i:Nat) l v,([3,3,3]:List Nat)[i]? =some l->x[i]? =some v->Lf tab l v): ∃a,x=Ak a∧Az7 a:=by
 match x,hl with
 |[v0,v1,v2],_=>
  obtain⟨x0,rfl,w0⟩:=Ap4 (h 0 _ _ rfl rfl);obtain⟨x1,rfl,w1⟩:=Ap4 (h 1 _ _ rfl rfl);obtain⟨x2,rfl,w2⟩:=Ap4 (h 2 _ _ rfl rfl);exact⟨(Bb.mk x0 x1 x2),rfl,⟨w0,w1,w2⟩⟩
theorem A5h{v:V}(h:Lf tab 152 v): ∃a,v= .row false 3 (a.map Ak)∧Avq a:=let ⟨l,e,h1,h2,h3⟩:=Aog h rfl rfl rfl rfl A6c;⟨l,e,h1,h2,h3⟩
theorem A9g (x:List V)(hl:x.length=13)(h: ∀(i:Nat) l v,([3,3,3,3,3,3,3,3,26,3,3,152,26]:List Nat)[i]? =some l->x[i]? =some v->Lf tab l v): ∃a,x=Be a∧Avr a:=by
 match x,hl with
 |[v0,v1,v2,v3,v4,v5,v6,v7,v8,v9,v10,v11,v12],_=>
  obtain⟨x0,rfl,w0⟩:=Ap4 (h 0 _ _ rfl rfl);obtain⟨x1,rfl,w1⟩:=Ap4 (h 1 _ _ rfl rfl);obtain⟨x2,rfl,w2⟩:=Ap4 (h 2 _ _ rfl rfl);obtain⟨x3,rfl,w3⟩:=Ap4 (h 3 _ _ rfl rfl);obtain⟨x4,rfl,w4⟩:=Ap4 (h 4 _ _ rfl rfl);obtain⟨x5,rfl,w5⟩:=Ap4 (h 5 _ _ rfl rfl);obtain⟨x6,rfl,w6⟩:=Ap4 (h 6 _ _ rfl rfl);obtain⟨x7,rfl,w7⟩:=Ap4 (h 7 _ _ rfl rfl)
  obtain⟨x8,rfl,w8⟩:=Ayy (h 8 _ _ rfl rfl);obtain⟨x9,rfl,w9⟩:=Ap4 (h 9 _ _ rfl rfl);obtain⟨x10,rfl,w10⟩:=Ap4 (h 10 _ _ rfl rfl);obtain⟨x11,rfl,w11⟩:=A5h (h 11 _ _ rfl rfl);obtain⟨x12,rfl,w12⟩:=Ayy (h 12 _ _ rfl rfl);exact⟨(Bc.mk x0 x1 x2 x3 x4 x5 x6 x7 x8 x9 x10 x11 x12),rfl,⟨w0,w1,w2,w3,w4,w5,w6,w7,w8,w9,w10,w11,w12⟩⟩
theorem A6d{v:V}(h:Lf tab 49 v): ∃a,v= .row false 13 (a.map Be)∧Awj a:=let ⟨l,e,h1,h2,h3⟩:=Aog h rfl rfl rfl rfl A9g;⟨l,e,h1,h2,h3⟩
theorem A6e (x:List V)(hl:x.length=5)(h: ∀(i:Nat) l v,([3,3,26,26,3]:List Nat)[i]? =some l->x[i]? =some v->Lf tab l v): ∃a,x=A3 a∧At1 a:=by
 match x,hl with
 |[v0,v1,v2,v3,v4],_=>
  obtain⟨x0,rfl,w0⟩:=Ap4 (h 0 _ _ rfl rfl);obtain⟨x1,rfl,w1⟩:=Ap4 (h 1 _ _ rfl rfl);obtain⟨x2,rfl,w2⟩:=Ayy (h 2 _ _ rfl rfl);obtain⟨x3,rfl,w3⟩:=Ayy (h 3 _ _ rfl rfl);obtain⟨x4,rfl,w4⟩:=Ap4 (h 4 _ _ rfl rfl);exact⟨(Ay.mk x0 x1 x2 x3 x4),rfl,⟨w0,w1,w2,w3,w4⟩⟩
theorem A5i{v:V}(h:Lf tab 50 v): ∃a,v= .row false 5 (a.map A3)∧Avs a:=let ⟨l,e,h1,h2,h3⟩:=Aog h rfl rfl rfl rfl A6e;⟨l,e,h1,h2,h3⟩
theorem A6f (x:List V)(hl:x.length=12)(h: ∀(i:Nat) l v,([3,3,3,3,3,3,22,26,26,49,50,26]:List Nat)[i]? =some l->x[i]? =some v->Lf tab l v): ∃a,x=B5 a∧Aqb a:=by
 match x,hl with
 |[v0,v1,v2,v3,v4,v5,v6,v7,v8,v9,v10,v11],_=>
  obtain⟨x0,rfl,w0⟩:=Ap4 (h 0 _ _ rfl rfl);obtain⟨x1,rfl,w1⟩:=Ap4 (h 1 _ _ rfl rfl);obtain⟨x2,rfl,w2⟩:=Ap4 (h 2 _ _ rfl rfl);obtain⟨x3,rfl,w3⟩:=Ap4 (h 3 _ _ rfl rfl);obtain⟨x4,rfl,w4⟩:=Ap4 (h 4 _ _ rfl rfl);obtain⟨x5,rfl,w5⟩:=Ap4 (h 5 _ _ rfl rfl);obtain⟨x6,rfl,w6⟩:=Bwf (h 6 _ _ rfl rfl);obtain⟨x7,rfl,w7⟩:=Ayy (h 7 _ _ rfl rfl)
  obtain⟨x8,rfl,w8⟩:=Ayy (h 8 _ _ rfl rfl);obtain⟨x9,rfl,w9⟩:=A6d (h 9 _ _ rfl rfl);obtain⟨x10,rfl,w10⟩:=A5i (h 10 _ _ rfl rfl);obtain⟨x11,rfl,w11⟩:=Ayy (h 11 _ _ rfl rfl);exact⟨(Ec.mk (Es.mk x0 x1 x2 x3 x4 x5) (Dx.mk x6 x7 x8) x9 x10 x11),rfl,⟨⟨w0,w1,w2,w3,w4,w5⟩,⟨w6,w7,w8⟩,w9,w10,w11⟩⟩
theorem A6g{x:A}(h:TA tab 52 x): ∃a,x= .g (B5 a)∧Aqb a:=let ⟨vs,e,h1,h2⟩:=Aoi h rfl rfl rfl;let ⟨a,e2,w⟩:=A6f vs h1 h2;⟨a,by rw[e,e2]<;>rfl,w⟩
theorem A5j (x:List V)(hl:x.length=2)(h: ∀(i:Nat) l v,([3,3]:List Nat)[i]? =some l->x[i]? =some v->Lf tab l v): ∃a,x=Bp a∧Axi a:=by
 match x,hl with
 |[v0,v1],_=>
  obtain⟨x0,rfl,w0⟩:=Ap4 (h 0 _ _ rfl rfl);obtain⟨x1,rfl,w1⟩:=Ap4 (h 1 _ _ rfl rfl);exact⟨(Dn.mk x0 x1),rfl,⟨w0,w1⟩⟩
theorem A5k{x:A}(h:TA tab 53 x): ∃a,x= .g (Bp a)∧Axi a:=let ⟨vs,e,h1,h2⟩:=Aoi h rfl rfl rfl;let ⟨a,e2,w⟩:=A5j vs h1 h2;⟨a,by rw[e,e2]<;>rfl,w⟩
theorem Bld:ownKnob Tryz.prog.godebug=none:=by kernel_rfl
theorem Ble:laidOutB Tryz.prog=true:=by kernel_rfl
end Go.Proofs.YtjdblamhaljjbaaGreat
