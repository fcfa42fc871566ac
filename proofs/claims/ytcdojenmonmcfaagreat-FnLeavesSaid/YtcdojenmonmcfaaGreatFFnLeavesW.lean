/- What the arguments are; no condition. -/
import Derived.Test.YtcdojenmonmcfaaGreatFUni
set_option linter.all false
namespace Go.Proofs.YtcdojenmonmcfaaGreat
open Go.Eng Go.ChangeShapes Go.WideShapes Go.ChangeAt Go.RowKit
def Bbh (x:Int):Prop:=(Lit.int .u8 x).wf=true
def A9p (x:List Int):Prop:=(∀a∈x,Bbh a)∧x.length*1≤reachBytes∧x.length≤maxLen
theorem Bxl{v:V}(h:Lf tab 5 v): ∃a,v= .int .u8 a∧Bbh a:=Aoc h rfl rfl
theorem Bxm (x:List V)(hl:x.length=1)(h: ∀(i:Nat) l v,([5]:List Nat)[i]? =some l->x[i]? =some v->Lf tab l v): ∃a,x=B7 a∧Bbh a:=by
 match x,hl with
 |[v0],_=>
  obtain⟨x0,rfl,w0⟩:=Bxl (h 0 _ _ rfl rfl);exact⟨x0,rfl,w0⟩
theorem Bty{v:V}(h:Lf tab 22 v): ∃a,v= .row false 1 (a.map B7)∧A9p a:=let ⟨l,e,h1,h2,h3⟩:=Aod h rfl rfl rfl rfl Bxm;⟨l,e,h1,h2,h3⟩
theorem Btz{x:A}(h:TA tab 22 x): ∃a,x= .c (.row false 1 (a.map B7))∧A9p a:=let ⟨v,e,h1⟩:=Aoe h rfl rfl;let ⟨a,e2,w⟩:=Bty h1;⟨a,by rw[e,e2],w⟩
theorem Bkt:ownKnob Tryz.prog.godebug=none:=by kernel_rfl
theorem Bku:laidOutB Tryz.prog=true:=by kernel_rfl
end Go.Proofs.YtcdojenmonmcfaaGreat
