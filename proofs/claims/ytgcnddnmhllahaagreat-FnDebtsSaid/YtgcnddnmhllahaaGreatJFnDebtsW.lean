/- What the arguments are; no condition. -/
import Derived.Test.YtgcnddnmhllahaaGreatJUni
set_option linter.all false
namespace Go.Proofs.YtgcnddnmhllahaaGreat
open Go.Eng Go.ChangeShapes Go.WideShapes Go.ChangeAt Go.RowKit
def Aaf (x:Int):Prop:=(Lit.int .u8 x).wf=true
def A2x (x:List Int):Prop:=(∀a∈x,Aaf a)/\x.length*1<=reachBytes/\x.length<=maxLen
theorem Br1{v:V}(h:Lf tab 5 v): ∃a,v= .int .u8 a/\Aaf a:=Ax1 h rfl rfl
theorem Br2 (x:List V)(hl:x.length=1)(h: ∀(i:Nat) l v,([5]:List Nat)[i]? =some l->x[i]? =some v->Lf tab l v): ∃a,x=Bu a/\Aaf a:=by
 match x,hl with
 |[v0],_=>
  obtain⟨x0,rfl,w0⟩:=Br1 (h 0 _ _ rfl rfl);exact⟨x0,rfl,w0⟩
theorem Br3{v:V}(h:Lf tab 24 v): ∃a,v= .row false 1 (a.map Bu)/\A2x a:=let ⟨l,e,h1,h2,h3⟩:=Ax2 h rfl rfl rfl rfl Br2;⟨l,e,h1,h2,h3⟩
theorem Br4{x:A}(h:TA tab 24 x): ∃a,x= .c (.row false 1 (a.map Bu))/\A2x a:=let ⟨v,e,h1⟩:=Ax3 h rfl rfl;let ⟨a,e2,w⟩:=Br3 h1;⟨a,by rw[e,e2],w⟩
theorem Br5:ownKnob Tryz.prog.godebug=none:=by kernel_rfl
theorem Br6:laidOutB Tryz.prog=true:=by kernel_rfl
end Go.Proofs.YtgcnddnmhllahaaGreat
