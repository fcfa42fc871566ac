/- What the arguments are; no condition. -/
import Derived.Test.YtcdojenmonmcfaaGreatFUni
set_option linter.all false
namespace Go.Proofs.YtcdojenmonmcfaaGreat
open Go.Eng Go.ChangeShapes Go.WideShapes Go.ChangeAt Go.RowKit
def Bck (x:Int):Prop:=(Lit.int .u8 x).wf=true
def Baq (x:List Int):Prop:=(∀a∈x,Bck a)∧x.length*1≤reachBytes∧x.length≤maxLen
theorem B0h{v:V}(h:Lf tab 5 v): ∃a,v= .int .u8 a∧Bck a:=Aob h rfl rfl
theorem B0i (x:List V)(hl:x.length=1)(h: ∀(i:Nat) l v,([5]:List Nat)[i]? =some l->x[i]? =some v->Lf tab l v): ∃a,x=B7 a∧Bck a:=by
 match x,hl with
 |[v0],_=>
  obtain⟨x0,rfl,w0⟩:=B0h (h 0 _ _ rfl rfl);exact⟨x0,rfl,w0⟩
theorem Bwr{v:V}(h:Lf tab 22 v): ∃a,v= .row false 1 (a.map B7)∧Baq a:=let ⟨l,e,h1,h2,h3⟩:=Aoc h rfl rfl rfl rfl B0i;⟨l,e,h1,h2,h3⟩
theorem Bws{x:A}(h:TA tab 22 x): ∃a,x= .c (.row false 1 (a.map B7))∧Baq a:=let ⟨v,e,h1⟩:=Aod h rfl rfl;let ⟨a,e2,w⟩:=Bwr h1;⟨a,by rw[e,e2],w⟩
theorem Bm7:ownKnob Tryz.prog.godebug=none:=by kernel_rfl
theorem Bm8:laidOutB Tryz.prog=true:=by kernel_rfl
end Go.Proofs.YtcdojenmonmcfaaGreat
