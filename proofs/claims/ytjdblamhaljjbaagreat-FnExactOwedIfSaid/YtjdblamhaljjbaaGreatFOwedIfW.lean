/- What the arguments are; no condition. -/
import Derived.Test.YtjdblamhaljjbaaGreatFUni
set_option linter.all false
namespace Go.Proofs.YtjdblamhaljjbaaGreat
open Go.Eng Go.ChangeShapes Go.WideShapes Go.ChangeAt Go.RowKit
def Anz (x:Int):Prop:=(Lit.int .i64 x).wf=true
def Baa (x:Es):Prop:=Anz x.Ae∧Anz x.Eg∧Anz x.C0∧Anz x.E9∧Anz x.C1∧Anz x.Eh
def Bbe (x:Int):Prop:=(Lit.int .u8 x).wf=true
def Bab (x:List Int):Prop:=(∀a∈x,Bbe a)∧x.length*1≤reachBytes∧x.length≤maxLen
def Awm (x:List Int):Prop:=(∀a∈x,Anz a)∧x.length*8≤reachBytes∧x.length≤maxLen
def Bac (x:Dx):Prop:=Bab x.Fy∧Awm x.Hh∧Awm x.Fz
def A0t (x:Bb):Prop:=Anz x.fAt∧Anz x.Vu∧Anz x.Vv
def Avp (x:List Bb):Prop:=(∀a∈x,A0t a)∧x.length*24≤reachBytes∧x.length≤maxLen
def Avq (x:Bc):Prop:=Anz x.Hh∧Anz x.C2∧Anz x.Ly∧Anz x.fUp∧Anz x.Gq∧Anz x.Bt∧Anz x.Gr∧Anz x.Gs∧Awm x.Ae∧Anz x.Pq∧Anz x.Gt∧Avp x.Ea∧Awm x.Dg
def Awn (x:List Bc):Prop:=(∀a∈x,Avq a)∧x.length*152≤reachBytes∧x.length≤maxLen
def Atv (x:Ay):Prop:=Anz x.A5∧Anz x.Bt∧Awm x.Dg∧Awm x.Ae∧Anz x.Gu
def Avr (x:List Ay):Prop:=(∀a∈x,Atv a)∧x.length*72≤reachBytes∧x.length≤maxLen
def Aqa (x:Ec):Prop:=Baa x.fC∧Bac x.fP∧Awn x.fL∧Avr x.fQ∧Awm x.Pr
def Axn (x:Dn):Prop:=Anz x.A5∧Anz x.C2
theorem Ap3{v:V}(h:Lf tab 3 v): ∃a,v= .int .i64 a∧Anz a:=Aof h rfl rfl
theorem Bxn (x:List V)(hl:x.length=1)(h: ∀(i:Nat) l v,([3]:List Nat)[i]? =some l->x[i]? =some v->Lf tab l v): ∃a,x=Ab a∧Anz a:=by
 match x,hl with
 |[v0],_=>
  obtain⟨x0,rfl,w0⟩:=Ap3 (h 0 _ _ rfl rfl);exact⟨x0,rfl,w0⟩
theorem B39{v:V}(h:Lf tab 5 v): ∃a,v= .int .u8 a∧Bbe a:=Aof h rfl rfl
theorem B4a (x:List V)(hl:x.length=1)(h: ∀(i:Nat) l v,([5]:List Nat)[i]? =some l->x[i]? =some v->Lf tab l v): ∃a,x=B7 a∧Bbe a:=by
 match x,hl with
 |[v0],_=>
  obtain⟨x0,rfl,w0⟩:=B39 (h 0 _ _ rfl rfl);exact⟨x0,rfl,w0⟩
theorem Bxo{v:V}(h:Lf tab 22 v): ∃a,v= .row false 1 (a.map B7)∧Bab a:=let ⟨l,e,h1,h2,h3⟩:=Aog h rfl rfl rfl rfl B4a;⟨l,e,h1,h2,h3⟩
theorem Ay8{v:V}(h:Lf tab 26 v): ∃a,v= .row false 1 (a.map Ab)∧Awm a:=let ⟨l,e,h1,h2,h3⟩:=Aog h rfl rfl rfl rfl Bxn;⟨l,e,h1,h2,h3⟩
theorem A7a (x:List V)(hl:x.length=3)(h: ∀(i:Nat) l v,([3,3,3]:List Nat)[i]? =some l->x[i]? =some v->Lf tab l v): ∃a,x=Ak a∧A0t a:=by
 match x,hl with
 |[v0,v1,v2],_=>
  obtain⟨x0,rfl,w0⟩:=Ap3 (h 0 _ _ rfl rfl);obtain⟨x1,rfl,w1⟩:=Ap3 (h 1 _ _ rfl rfl);obtain⟨x2,rfl,w2⟩:=Ap3 (h 2 _ _ rfl rfl);exact⟨(Bb.mk x0 x1 x2),rfl,⟨w0,w1,w2⟩⟩
theorem A6d{v:V}(h:Lf tab 152 v): ∃a,v= .row false 3 (a.map Ak)∧Avp a:=let ⟨l,e,h1,h2,h3⟩:=Aog h rfl rfl rfl rfl A7a;⟨l,e,h1,h2,h3⟩
theorem Bad (x:List V)(hl:x.length=13)(h: ∀(i:Nat) l v,([3,3,3,3,3,3,3,3,26,3,3,152,26]:List Nat)[i]? =some l->x[i]? =some v->Lf tab l v): ∃a,x=Be a∧Avq a:=by
 match x,hl with
 |[v0,v1,v2,v3,v4,v5,v6,v7,v8,v9,v10,v11,v12],_=>
  obtain⟨x0,rfl,w0⟩:=Ap3 (h 0 _ _ rfl rfl);obtain⟨x1,rfl,w1⟩:=Ap3 (h 1 _ _ rfl rfl);obtain⟨x2,rfl,w2⟩:=Ap3 (h 2 _ _ rfl rfl);obtain⟨x3,rfl,w3⟩:=Ap3 (h 3 _ _ rfl rfl);obtain⟨x4,rfl,w4⟩:=Ap3 (h 4 _ _ rfl rfl);obtain⟨x5,rfl,w5⟩:=Ap3 (h 5 _ _ rfl rfl);obtain⟨x6,rfl,w6⟩:=Ap3 (h 6 _ _ rfl rfl);obtain⟨x7,rfl,w7⟩:=Ap3 (h 7 _ _ rfl rfl)
  obtain⟨x8,rfl,w8⟩:=Ay8 (h 8 _ _ rfl rfl);obtain⟨x9,rfl,w9⟩:=Ap3 (h 9 _ _ rfl rfl);obtain⟨x10,rfl,w10⟩:=Ap3 (h 10 _ _ rfl rfl);obtain⟨x11,rfl,w11⟩:=A6d (h 11 _ _ rfl rfl);obtain⟨x12,rfl,w12⟩:=Ay8 (h 12 _ _ rfl rfl);exact⟨(Bc.mk x0 x1 x2 x3 x4 x5 x6 x7 x8 x9 x10 x11 x12),rfl,⟨w0,w1,w2,w3,w4,w5,w6,w7,w8,w9,w10,w11,w12⟩⟩
theorem A7b{v:V}(h:Lf tab 49 v): ∃a,v= .row false 13 (a.map Be)∧Awn a:=let ⟨l,e,h1,h2,h3⟩:=Aog h rfl rfl rfl rfl Bad;⟨l,e,h1,h2,h3⟩
theorem A7c (x:List V)(hl:x.length=5)(h: ∀(i:Nat) l v,([3,3,26,26,3]:List Nat)[i]? =some l->x[i]? =some v->Lf tab l v): ∃a,x=A3 a∧Atv a:=by
 match x,hl with
 |[v0,v1,v2,v3,v4],_=>
  obtain⟨x0,rfl,w0⟩:=Ap3 (h 0 _ _ rfl rfl);obtain⟨x1,rfl,w1⟩:=Ap3 (h 1 _ _ rfl rfl);obtain⟨x2,rfl,w2⟩:=Ay8 (h 2 _ _ rfl rfl);obtain⟨x3,rfl,w3⟩:=Ay8 (h 3 _ _ rfl rfl);obtain⟨x4,rfl,w4⟩:=Ap3 (h 4 _ _ rfl rfl);exact⟨(Ay.mk x0 x1 x2 x3 x4),rfl,⟨w0,w1,w2,w3,w4⟩⟩
theorem A6e{v:V}(h:Lf tab 50 v): ∃a,v= .row false 5 (a.map A3)∧Avr a:=let ⟨l,e,h1,h2,h3⟩:=Aog h rfl rfl rfl rfl A7c;⟨l,e,h1,h2,h3⟩
theorem A7d (x:List V)(hl:x.length=12)(h: ∀(i:Nat) l v,([3,3,3,3,3,3,22,26,26,49,50,26]:List Nat)[i]? =some l->x[i]? =some v->Lf tab l v): ∃a,x=B5 a∧Aqa a:=by
 match x,hl with
 |[v0,v1,v2,v3,v4,v5,v6,v7,v8,v9,v10,v11],_=>
  obtain⟨x0,rfl,w0⟩:=Ap3 (h 0 _ _ rfl rfl);obtain⟨x1,rfl,w1⟩:=Ap3 (h 1 _ _ rfl rfl);obtain⟨x2,rfl,w2⟩:=Ap3 (h 2 _ _ rfl rfl);obtain⟨x3,rfl,w3⟩:=Ap3 (h 3 _ _ rfl rfl);obtain⟨x4,rfl,w4⟩:=Ap3 (h 4 _ _ rfl rfl);obtain⟨x5,rfl,w5⟩:=Ap3 (h 5 _ _ rfl rfl);obtain⟨x6,rfl,w6⟩:=Bxo (h 6 _ _ rfl rfl);obtain⟨x7,rfl,w7⟩:=Ay8 (h 7 _ _ rfl rfl)
  obtain⟨x8,rfl,w8⟩:=Ay8 (h 8 _ _ rfl rfl);obtain⟨x9,rfl,w9⟩:=A7b (h 9 _ _ rfl rfl);obtain⟨x10,rfl,w10⟩:=A6e (h 10 _ _ rfl rfl);obtain⟨x11,rfl,w11⟩:=Ay8 (h 11 _ _ rfl rfl);exact⟨(Ec.mk (Es.mk x0 x1 x2 x3 x4 x5) (Dx.mk x6 x7 x8) x9 x10 x11),rfl,⟨⟨w0,w1,w2,w3,w4,w5⟩,⟨w6,w7,w8⟩,w9,w10,w11⟩⟩
theorem A7e{x:A}(h:TA tab 52 x): ∃a,x= .g (B5 a)∧Aqa a:=let ⟨vs,e,h1,h2⟩:=Aoi h rfl rfl rfl;let ⟨a,e2,w⟩:=A7d vs h1 h2;⟨a,by rw[e,e2]<;>rfl,w⟩
theorem A6f (x:List V)(hl:x.length=2)(h: ∀(i:Nat) l v,([3,3]:List Nat)[i]? =some l->x[i]? =some v->Lf tab l v): ∃a,x=Bp a∧Axn a:=by
 match x,hl with
 |[v0,v1],_=>
  obtain⟨x0,rfl,w0⟩:=Ap3 (h 0 _ _ rfl rfl);obtain⟨x1,rfl,w1⟩:=Ap3 (h 1 _ _ rfl rfl);exact⟨(Dn.mk x0 x1),rfl,⟨w0,w1⟩⟩
theorem A6g{x:A}(h:TA tab 53 x): ∃a,x= .g (Bp a)∧Axn a:=let ⟨vs,e,h1,h2⟩:=Aoi h rfl rfl rfl;let ⟨a,e2,w⟩:=A6f vs h1 h2;⟨a,by rw[e,e2]<;>rfl,w⟩
theorem Bmj:ownKnob Tryz.prog.godebug=none:=by kernel_rfl
theorem Bmk:laidOutB Tryz.prog=true:=by kernel_rfl
end Go.Proofs.YtjdblamhaljjbaaGreat
