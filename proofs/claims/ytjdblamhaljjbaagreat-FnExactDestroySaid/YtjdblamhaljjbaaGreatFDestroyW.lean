/- What the arguments are; no condition. -/
import Derived.Test.YtjdblamhaljjbaaGreatFUni
set_option linter.all false
namespace Go.Proofs.YtjdblamhaljjbaaGreat
open Go.Eng Go.ChangeShapes Go.WideShapes Go.ChangeAt Go.RowKit
def Aok (x:Int):Prop:=(Lit.int .i64 x).wf=true
def Bac (x:Es):Prop:=Aok x.Ae∧Aok x.Eg∧Aok x.C0∧Aok x.E9∧Aok x.C1∧Aok x.Eh
def Bbo (x:Int):Prop:=(Lit.int .u8 x).wf=true
def Bad (x:List Int):Prop:=(∀a∈x,Bbo a)∧x.length*1≤reachBytes∧x.length≤maxLen
def Awy (x:List Int):Prop:=(∀a∈x,Aok a)∧x.length*8≤reachBytes∧x.length≤maxLen
def Bae (x:Dx):Prop:=Bad x.Fy∧Awy x.Hh∧Awy x.Fz
def A0r (x:Bb):Prop:=Aok x.fAt∧Aok x.Vu∧Aok x.Vv
def Av0 (x:List Bb):Prop:=(∀a∈x,A0r a)∧x.length*24≤reachBytes∧x.length≤maxLen
def Av1 (x:Bc):Prop:=Aok x.Hh∧Aok x.C2∧Aok x.Ly∧Aok x.fUp∧Aok x.Gq∧Aok x.Bt∧Aok x.Gr∧Aok x.Gs∧Awy x.Ae∧Aok x.Pq∧Aok x.Gt∧Av0 x.Ea∧Awy x.Dg
def Awz (x:List Bc):Prop:=(∀a∈x,Av1 a)∧x.length*152≤reachBytes∧x.length≤maxLen
def Aua (x:Ay):Prop:=Aok x.A5∧Aok x.Bt∧Awy x.Dg∧Awy x.Ae∧Aok x.Gu
def Av2 (x:List Ay):Prop:=(∀a∈x,Aua a)∧x.length*72≤reachBytes∧x.length≤maxLen
def Aqd (x:Ec):Prop:=Bac x.fC∧Bae x.fP∧Awz x.fL∧Av2 x.fQ∧Awy x.Pr
def Axw (x:Dn):Prop:=Aok x.A5∧Aok x.C2
theorem Ap6{v:V}(h:Lf tab 3 v): ∃a,v= .int .i64 a∧Aok a:=Aof h rfl rfl
theorem Bx6 (x:List V)(hl:x.length=1)(h: ∀(i:Nat) l v,([3]:List Nat)[i]? =some l->x[i]? =some v->Lf tab l v): ∃a,x=Ab a∧Aok a:=by
 match x,hl with
 |[v0],_=>
  obtain⟨x0,rfl,w0⟩:=Ap6 (h 0 _ _ rfl rfl);exact⟨x0,rfl,w0⟩
theorem B4q{v:V}(h:Lf tab 5 v): ∃a,v= .int .u8 a∧Bbo a:=Aof h rfl rfl
theorem B4r (x:List V)(hl:x.length=1)(h: ∀(i:Nat) l v,([5]:List Nat)[i]? =some l->x[i]? =some v->Lf tab l v): ∃a,x=B7 a∧Bbo a:=by
 match x,hl with
 |[v0],_=>
  obtain⟨x0,rfl,w0⟩:=B4q (h 0 _ _ rfl rfl);exact⟨x0,rfl,w0⟩
theorem Bx7{v:V}(h:Lf tab 22 v): ∃a,v= .row false 1 (a.map B7)∧Bad a:=let ⟨l,e,h1,h2,h3⟩:=Aog h rfl rfl rfl rfl B4r;⟨l,e,h1,h2,h3⟩
theorem Aza{v:V}(h:Lf tab 26 v): ∃a,v= .row false 1 (a.map Ab)∧Awy a:=let ⟨l,e,h1,h2,h3⟩:=Aog h rfl rfl rfl rfl Bx6;⟨l,e,h1,h2,h3⟩
theorem A69 (x:List V)(hl:x.length=3)(h: ∀(i:Nat) l v,([3,3,3]:List Nat)[i]? =some l->x[i]? =some v->Lf tab l v): ∃a,x=Ak a∧A0r a:=by
 match x,hl with
 |[v0,v1,v2],_=>
  obtain⟨x0,rfl,w0⟩:=Ap6 (h 0 _ _ rfl rfl);obtain⟨x1,rfl,w1⟩:=Ap6 (h 1 _ _ rfl rfl);obtain⟨x2,rfl,w2⟩:=Ap6 (h 2 _ _ rfl rfl);exact⟨(Bb.mk x0 x1 x2),rfl,⟨w0,w1,w2⟩⟩
theorem A6c{v:V}(h:Lf tab 152 v): ∃a,v= .row false 3 (a.map Ak)∧Av0 a:=let ⟨l,e,h1,h2,h3⟩:=Aog h rfl rfl rfl rfl A69;⟨l,e,h1,h2,h3⟩
theorem Baf (x:List V)(hl:x.length=13)(h: ∀(i:Nat) l v,([3,3,3,3,3,3,3,3,26,3,3,152,26]:List Nat)[i]? =some l->x[i]? =some v->Lf tab l v): ∃a,x=Be a∧Av1 a:=by
 match x,hl with
 |[v0,v1,v2,v3,v4,v5,v6,v7,v8,v9,v10,v11,v12],_=>
  obtain⟨x0,rfl,w0⟩:=Ap6 (h 0 _ _ rfl rfl);obtain⟨x1,rfl,w1⟩:=Ap6 (h 1 _ _ rfl rfl);obtain⟨x2,rfl,w2⟩:=Ap6 (h 2 _ _ rfl rfl);obtain⟨x3,rfl,w3⟩:=Ap6 (h 3 _ _ rfl rfl);obtain⟨x4,rfl,w4⟩:=Ap6 (h 4 _ _ rfl rfl);obtain⟨x5,rfl,w5⟩:=Ap6 (h 5 _ _ rfl rfl);obtain⟨x6,rfl,w6⟩:=Ap6 (h 6 _ _ rfl rfl);obtain⟨x7,rfl,w7⟩:=Ap6 (h 7 _ _ rfl rfl)
  obtain⟨x8,rfl,w8⟩:=Aza (h 8 _ _ rfl rfl);obtain⟨x9,rfl,w9⟩:=Ap6 (h 9 _ _ rfl rfl);obtain⟨x10,rfl,w10⟩:=Ap6 (h 10 _ _ rfl rfl);obtain⟨x11,rfl,w11⟩:=A6c (h 11 _ _ rfl rfl);obtain⟨x12,rfl,w12⟩:=Aza (h 12 _ _ rfl rfl);exact⟨(Bc.mk x0 x1 x2 x3 x4 x5 x6 x7 x8 x9 x10 x11 x12),rfl,⟨w0,w1,w2,w3,w4,w5,w6,w7,w8,w9,w10,w11,w12⟩⟩
theorem A7a{v:V}(h:Lf tab 49 v): ∃a,v= .row false 13 (a.map Be)∧Awz a:=let ⟨l,e,h1,h2,h3⟩:=Aog h rfl rfl rfl rfl Baf;⟨l,e,h1,h2,h3⟩
theorem A7b (x:List V)(hl:x.length=5)(h: ∀(i:Nat) l v,([3,3,26,26,3]:List Nat)[i]? =some l->x[i]? =some v->Lf tab l v): ∃a,x=A3 a∧Aua a:=by
 match x,hl with
 |[v0,v1,v2,v3,v4],_=>
  obtain⟨x0,rfl,w0⟩:=Ap6 (h 0 _ _ rfl rfl);obtain⟨x1,rfl,w1⟩:=Ap6 (h 1 _ _ rfl rfl);obtain⟨x2,rfl,w2⟩:=Aza (h 2 _ _ rfl rfl);obtain⟨x3,rfl,w3⟩:=Aza (h 3 _ _ rfl rfl);obtain⟨x4,rfl,w4⟩:=Ap6 (h 4 _ _ rfl rfl);exact⟨(Ay.mk x0 x1 x2 x3 x4),rfl,⟨w0,w1,w2,w3,w4⟩⟩
theorem A6d{v:V}(h:Lf tab 50 v): ∃a,v= .row false 5 (a.map A3)∧Av2 a:=let ⟨l,e,h1,h2,h3⟩:=Aog h rfl rfl rfl rfl A7b;⟨l,e,h1,h2,h3⟩
theorem A7c (x:List V)(hl:x.length=12)(h: ∀(i:Nat) l v,([3,3,3,3,3,3,22,26,26,49,50,26]:List Nat)[i]? =some l->x[i]? =some v->Lf tab l v): ∃a,x=B5 a∧Aqd a:=by
 match x,hl with
 |[v0,v1,v2,v3,v4,v5,v6,v7,v8,v9,v10,v11],_=>
  obtain⟨x0,rfl,w0⟩:=Ap6 (h 0 _ _ rfl rfl);obtain⟨x1,rfl,w1⟩:=Ap6 (h 1 _ _ rfl rfl);obtain⟨x2,rfl,w2⟩:=Ap6 (h 2 _ _ rfl rfl);obtain⟨x3,rfl,w3⟩:=Ap6 (h 3 _ _ rfl rfl);obtain⟨x4,rfl,w4⟩:=Ap6 (h 4 _ _ rfl rfl);obtain⟨x5,rfl,w5⟩:=Ap6 (h 5 _ _ rfl rfl);obtain⟨x6,rfl,w6⟩:=Bx7 (h 6 _ _ rfl rfl);obtain⟨x7,rfl,w7⟩:=Aza (h 7 _ _ rfl rfl)
  obtain⟨x8,rfl,w8⟩:=Aza (h 8 _ _ rfl rfl);obtain⟨x9,rfl,w9⟩:=A7a (h 9 _ _ rfl rfl);obtain⟨x10,rfl,w10⟩:=A6d (h 10 _ _ rfl rfl);obtain⟨x11,rfl,w11⟩:=Aza (h 11 _ _ rfl rfl);exact⟨(Ec.mk (Es.mk x0 x1 x2 x3 x4 x5) (Dx.mk x6 x7 x8) x9 x10 x11),rfl,⟨⟨w0,w1,w2,w3,w4,w5⟩,⟨w6,w7,w8⟩,w9,w10,w11⟩⟩
theorem A7d{x:A}(h:TA tab 52 x): ∃a,x= .g (B5 a)∧Aqd a:=let ⟨vs,e,h1,h2⟩:=Aoi h rfl rfl rfl;let ⟨a,e2,w⟩:=A7c vs h1 h2;⟨a,by rw[e,e2]<;>rfl,w⟩
theorem A6e (x:List V)(hl:x.length=2)(h: ∀(i:Nat) l v,([3,3]:List Nat)[i]? =some l->x[i]? =some v->Lf tab l v): ∃a,x=Bp a∧Axw a:=by
 match x,hl with
 |[v0,v1],_=>
  obtain⟨x0,rfl,w0⟩:=Ap6 (h 0 _ _ rfl rfl);obtain⟨x1,rfl,w1⟩:=Ap6 (h 1 _ _ rfl rfl);exact⟨(Dn.mk x0 x1),rfl,⟨w0,w1⟩⟩
theorem A6f{x:A}(h:TA tab 53 x): ∃a,x= .g (Bp a)∧Axw a:=let ⟨vs,e,h1,h2⟩:=Aoi h rfl rfl rfl;let ⟨a,e2,w⟩:=A6e vs h1 h2;⟨a,by rw[e,e2]<;>rfl,w⟩
theorem Bmx:ownKnob Tryz.prog.godebug=none:=by kernel_rfl
theorem Bmy:laidOutB Tryz.prog=true:=by kernel_rfl
end Go.Proofs.YtjdblamhaljjbaaGreat
