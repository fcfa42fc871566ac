/- What the arguments are; no condition. -/
import Derived.Test.YtjdblamhaljjbaaGreatFUni
set_option linter.all false
namespace Go.Proofs.YtjdblamhaljjbaaGreat
open Go.Eng Go.ChangeShapes Go.WideShapes Go.ChangeAt Go.RowKit
def Bcy (x:Int):Prop:=(Lit.int .u8 x).wf=true
def Bbh (x:List Int):Prop:=(∀a∈x,Bcy a)∧x.length*1≤reachBytes∧x.length≤maxLen
theorem B3n{v:V}(h:Lf tab 5 v): ∃a,v= .int .u8 a∧Bcy a:=Aqh h rfl rfl
theorem B3o (x:List V)(hl:x.length=1)(h: ∀(i:Nat) l v,([5]:List Nat)[i]? =some l->x[i]? =some v->Lf tab l v): ∃a,x=Bb a∧Bcy a:=by
 match x,hl with
 |[v0],_=>
  obtain⟨x0,rfl,w0⟩:=B3n (h 0 _ _ rfl rfl);exact⟨x0,rfl,w0⟩
theorem Byb{v:V}(h:Lf tab 22 v): ∃a,v= .row false 1 (a.map Bb)∧Bbh a:=let ⟨l,e,h1,h2,h3⟩:=Aqi h rfl rfl rfl rfl B3o;⟨l,e,h1,h2,h3⟩
theorem Byc{x:A}(h:TA tab 22 x): ∃a,x= .c (.row false 1 (a.map Bb))∧Bbh a:=let ⟨v,e,h1⟩:=Aqj h rfl rfl;let ⟨a,e2,w⟩:=Byb h1;⟨a,by rw[e,e2],w⟩
theorem Bmq:ownKnob Tryz.prog.godebug=none:=by kernel_rfl
theorem Bmr:laidOutB Tryz.prog=true:=by kernel_rfl
end Go.Proofs.YtjdblamhaljjbaaGreat
