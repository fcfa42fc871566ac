/- What the arguments are; no condition. -/
import Derived.Test.YtcdojenmonmcfaaGreatFUni
set_option linter.all false
namespace Go.Proofs.YtcdojenmonmcfaaGreat
open Go.Eng Go.ChangeShapes Go.WideShapes Go.ChangeAt Go.RowKit
def Ba1 (x:Int):Prop:=(Lit.int .u8 x).wf=true
def A89 (x:List Int):Prop:=(∀a∈x,Ba1 a)∧x.length*1≤reachBytes∧x.length≤maxLen
theorem Bw5{v:V}(h:Lf tab 5 v): ∃a,v= .int .u8 a∧Ba1 a:=An8 h rfl rfl
theorem Bw6 (x:List V)(hl:x.length=1)(h: ∀(i:Nat) l v,([5]:List Nat)[i]? =some l->x[i]? =some v->Lf tab l v): ∃a,x=B5 a∧Ba1 a:=by
 match x,hl with
 |[v0],_=>
  obtain⟨x0,rfl,w0⟩:=Bw5 (h 0 _ _ rfl rfl);exact⟨x0,rfl,w0⟩
theorem Bti{v:V}(h:Lf tab 22 v): ∃a,v= .row false 1 (a.map B5)∧A89 a:=let ⟨l,e,h1,h2,h3⟩:=An9 h rfl rfl rfl rfl Bw6;⟨l,e,h1,h2,h3⟩
theorem Btj{x:A}(h:TA tab 22 x): ∃a,x= .c (.row false 1 (a.map B5))∧A89 a:=let ⟨v,e,h1⟩:=Aoa h rfl rfl;let ⟨a,e2,w⟩:=Bti h1;⟨a,by rw[e,e2],w⟩
theorem Bkd:ownKnob Tryz.prog.godebug=none:=by kernel_rfl
theorem Bke:laidOutB Tryz.prog=true:=by kernel_rfl
end Go.Proofs.YtcdojenmonmcfaaGreat
