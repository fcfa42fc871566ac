/- What the arguments are; no condition. -/
import Derived.Test.YtgcnddnmhllahaaGreatJUni
set_option linter.all false
namespace Go.Proofs.YtgcnddnmhllahaaGreat
open Go.Eng Go.ChangeShapes Go.WideShapes Go.ChangeAt Go.RowKit
def zj (x:Int):Prop:=(Lit.int .u8 x).wf=true
def A18 (x:List Int):Prop:=(∀a∈x,zj a)/\x.length*1<=reachBytes/\x.length<=maxLen
theorem Bqj{v:V}(h:Lf tab 5 v): ∃a,v= .int .u8 a/\zj a:=Ax1 h rfl rfl
theorem Bqk (x:List V)(hl:x.length=1)(h: ∀(i:Nat) l v,([5]:List Nat)[i]? =some l->x[i]? =some v->Lf tab l v): ∃a,x=Bu a/\zj a:=by
 match x,hl with
 |[v0],_=>
  obtain⟨x0,rfl,w0⟩:=Bqj (h 0 _ _ rfl rfl);exact⟨x0,rfl,w0⟩
theorem Bql{v:V}(h:Lf tab 24 v): ∃a,v= .row false 1 (a.map Bu)/\A18 a:=let ⟨l,e,h1,h2,h3⟩:=Ax2 h rfl rfl rfl rfl Bqk;⟨l,e,h1,h2,h3⟩
theorem Bqm{x:A}(h:TA tab 24 x): ∃a,x= .c (.row false 1 (a.map Bu))/\A18 a:=let ⟨v,e,h1⟩:=Ax3 h rfl rfl;let ⟨a,e2,w⟩:=Bql h1;⟨a,by rw[e,e2],w⟩
theorem Bqn:ownKnob Tryz.prog.godebug=none:=by kernel_rfl
theorem Bqo:laidOutB Tryz.prog=true:=by kernel_rfl
end Go.Proofs.YtgcnddnmhllahaaGreat
