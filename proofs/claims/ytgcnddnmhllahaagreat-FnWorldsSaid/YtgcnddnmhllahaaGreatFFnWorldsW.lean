/- What the arguments are; no condition. -/
import Derived.Test.YtgcnddnmhllahaaGreatFUni
set_option linter.all false
namespace Go.Proofs.YtgcnddnmhllahaaGreat
open Go.Eng Go.ChangeShapes Go.WideShapes Go.ChangeAt Go.RowKit
def Bel (x:Int):Prop:=(Lit.int .u8 x).wf=true
def Bco (x:List Int):Prop:=(∀a∈x,Bel a)∧x.length*1≤reachBytes∧x.length≤maxLen
theorem B1l{v:V}(h:Lf tab 5 v): ∃a,v= .int .u8 a∧Bel a:=Aro h rfl rfl
theorem B1m (x:List V)(hl:x.length=1)(h: ∀(i:Nat) l v,([5]:List Nat)[i]? =some l->x[i]? =some v->Lf tab l v): ∃a,x=Bn a∧Bel a:=by
 match x,hl with
 |[v0],_=>
  obtain⟨x0,rfl,w0⟩:=B1l (h 0 _ _ rfl rfl);exact⟨x0,rfl,w0⟩
theorem Bx3{v:V}(h:Lf tab 24 v): ∃a,v= .row false 1 (a.map Bn)∧Bco a:=let ⟨l,e,h1,h2,h3⟩:=Arp h rfl rfl rfl rfl B1m;⟨l,e,h1,h2,h3⟩
theorem Bx4{x:A}(h:TA tab 24 x): ∃a,x= .c (.row false 1 (a.map Bn))∧Bco a:=let ⟨v,e,h1⟩:=Arq h rfl rfl;let ⟨a,e2,w⟩:=Bx3 h1;⟨a,by rw[e,e2],w⟩
theorem Bo5:ownKnob Tryz.prog.godebug=none:=by kernel_rfl
theorem Bo6:laidOutB Tryz.prog=true:=by kernel_rfl
end Go.Proofs.YtgcnddnmhllahaaGreat
