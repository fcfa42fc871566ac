/- What the arguments are; no condition. -/
import Derived.Test.YtgcnddnmhllahaaGreatHUni
set_option linter.all false
namespace Go.Proofs.YtgcnddnmhllahaaGreat
open Go.Eng Go.ChangeShapes Go.WideShapes Go.ChangeAt Go.RowKit
def Bfg (x:Int):Prop:=(Lit.int .u8 x).wf=true
def Bdp (x:List Int):Prop:=(∀a∈x,Bfg a)/\x.length*1<=reachBytes/\x.length<=maxLen
theorem B1v{v:V}(h:Lf tab 5 v): ∃a,v= .int .u8 a/\Bfg a:=Asx h rfl rfl
theorem B1w (x:List V)(hl:x.length=1)(h: ∀(i:Nat) l v,([5]:List Nat)[i]? =some l->x[i]? =some v->Lf tab l v): ∃a,x=Bp a/\Bfg a:=by
 match x,hl with
 |[v0],_=>
  obtain⟨x0,rfl,w0⟩:=B1v (h 0 _ _ rfl rfl);exact⟨x0,rfl,w0⟩
theorem Byc{v:V}(h:Lf tab 24 v): ∃a,v= .row false 1 (a.map Bp)/\Bdp a:=let ⟨l,e,h1,h2,h3⟩:=Asy h rfl rfl rfl rfl B1w;⟨l,e,h1,h2,h3⟩
theorem Byd{x:A}(h:TA tab 24 x): ∃a,x= .c (.row false 1 (a.map Bp))/\Bdp a:=let ⟨v,e,h1⟩:=Asz h rfl rfl;let ⟨a,e2,w⟩:=Byc h1;⟨a,by rw[e,e2],w⟩
theorem Bo3:ownKnob Tryz.prog.godebug=none:=by kernel_rfl
theorem Bo4:laidOutB Tryz.prog=true:=by kernel_rfl
end Go.Proofs.YtgcnddnmhllahaaGreat
