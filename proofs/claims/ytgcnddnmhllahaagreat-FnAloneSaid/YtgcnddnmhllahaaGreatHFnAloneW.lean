/- What the arguments are; no condition. -/
import Derived.Test.YtgcnddnmhllahaaGreatHUni
set_option linter.all false
namespace Go.Proofs.YtgcnddnmhllahaaGreat
open Go.Eng Go.ChangeShapes Go.WideShapes Go.ChangeAt Go.RowKit
def Be0 (x:Int):Prop:=(Lit.int .u8 x).wf=true
def Bdi (x:List Int):Prop:=(∀a∈x,Be0 a)/\x.length*1<=reachBytes/\x.length<=maxLen
theorem B0u{v:V}(h:Lf tab 5 v): ∃a,v= .int .u8 a/\Be0 a:=Asx h rfl rfl
theorem B0v (x:List V)(hl:x.length=1)(h: ∀(i:Nat) l v,([5]:List Nat)[i]? =some l->x[i]? =some v->Lf tab l v): ∃a,x=Bp a/\Be0 a:=by
 match x,hl with
 |[v0],_=>
  obtain⟨x0,rfl,w0⟩:=B0u (h 0 _ _ rfl rfl);exact⟨x0,rfl,w0⟩
theorem Bxj{v:V}(h:Lf tab 24 v): ∃a,v= .row false 1 (a.map Bp)/\Bdi a:=let ⟨l,e,h1,h2,h3⟩:=Asy h rfl rfl rfl rfl B0v;⟨l,e,h1,h2,h3⟩
theorem Bxk{x:A}(h:TA tab 24 x): ∃a,x= .c (.row false 1 (a.map Bp))/\Bdi a:=let ⟨v,e,h1⟩:=Asz h rfl rfl;let ⟨a,e2,w⟩:=Bxj h1;⟨a,by rw[e,e2],w⟩
theorem Boi:ownKnob Tryz.prog.godebug=none:=by kernel_rfl
theorem Boj:laidOutB Tryz.prog=true:=by kernel_rfl
end Go.Proofs.YtgcnddnmhllahaaGreat
