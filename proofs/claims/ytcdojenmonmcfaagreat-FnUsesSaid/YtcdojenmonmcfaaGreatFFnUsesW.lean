/- What the arguments are; no condition. -/
import Derived.Test.YtcdojenmonmcfaaGreatFUni
set_option linter.all false
namespace Go.Proofs.YtcdojenmonmcfaaGreat
open Go.Eng Go.ChangeShapes Go.WideShapes Go.ChangeAt Go.RowKit
def Bb3 (x:Int):Prop:=(Lit.int .u8 x).wf=true
def Baa (x:List Int):Prop:=(∀a∈x,Bb3 a)∧x.length*1≤reachBytes∧x.length≤maxLen
theorem Byy{v:V}(h:Lf tab 5 v): ∃a,v= .int .u8 a∧Bb3 a:=An8 h rfl rfl
theorem Byz (x:List V)(hl:x.length=1)(h: ∀(i:Nat) l v,([5]:List Nat)[i]? =some l->x[i]? =some v->Lf tab l v): ∃a,x=B5 a∧Bb3 a:=by
 match x,hl with
 |[v0],_=>
  obtain⟨x0,rfl,w0⟩:=Byy (h 0 _ _ rfl rfl);exact⟨x0,rfl,w0⟩
theorem Bvc{v:V}(h:Lf tab 22 v): ∃a,v= .row false 1 (a.map B5)∧Baa a:=let ⟨l,e,h1,h2,h3⟩:=An9 h rfl rfl rfl rfl Byz;⟨l,e,h1,h2,h3⟩
theorem Bvd{x:A}(h:TA tab 22 x): ∃a,x= .c (.row false 1 (a.map B5))∧Baa a:=let ⟨v,e,h1⟩:=Aoa h rfl rfl;let ⟨a,e2,w⟩:=Bvc h1;⟨a,by rw[e,e2],w⟩
theorem Bmh:ownKnob Tryz.prog.godebug=none:=by kernel_rfl
theorem Bmi:laidOutB Tryz.prog=true:=by kernel_rfl
end Go.Proofs.YtcdojenmonmcfaaGreat
