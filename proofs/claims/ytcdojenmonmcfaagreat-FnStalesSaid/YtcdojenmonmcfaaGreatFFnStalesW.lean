/- What the arguments are; no condition. -/
import Derived.Test.YtcdojenmonmcfaaGreatFUni
set_option linter.all false
namespace Go.Proofs.YtcdojenmonmcfaaGreat
open Go.Eng Go.ChangeShapes Go.WideShapes Go.ChangeAt Go.RowKit
def Bbn (x:Int):Prop:=(Lit.int .u8 x).wf=true
def A9t (x:List Int):Prop:=(∀a∈x,Bbn a)∧x.length*1≤reachBytes∧x.length≤maxLen
theorem Byb{v:V}(h:Lf tab 5 v): ∃a,v= .int .u8 a∧Bbn a:=Aob h rfl rfl
theorem Byc (x:List V)(hl:x.length=1)(h: ∀(i:Nat) l v,([5]:List Nat)[i]? =some l->x[i]? =some v->Lf tab l v): ∃a,x=B7 a∧Bbn a:=by
 match x,hl with
 |[v0],_=>
  obtain⟨x0,rfl,w0⟩:=Byb (h 0 _ _ rfl rfl);exact⟨x0,rfl,w0⟩
theorem Bup{v:V}(h:Lf tab 22 v): ∃a,v= .row false 1 (a.map B7)∧A9t a:=let ⟨l,e,h1,h2,h3⟩:=Aoc h rfl rfl rfl rfl Byc;⟨l,e,h1,h2,h3⟩
theorem Buq{x:A}(h:TA tab 22 x): ∃a,x= .c (.row false 1 (a.map B7))∧A9t a:=let ⟨v,e,h1⟩:=Aod h rfl rfl;let ⟨a,e2,w⟩:=Bup h1;⟨a,by rw[e,e2],w⟩
theorem Blb:ownKnob Tryz.prog.godebug=none:=by kernel_rfl
theorem Blc:laidOutB Tryz.prog=true:=by kernel_rfl
end Go.Proofs.YtcdojenmonmcfaaGreat
