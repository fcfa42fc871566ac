/- What the arguments are; no condition. -/
import Derived.Test.YtplfjgdlpbdojaaGreatFUni
set_option linter.all false
namespace Go.Proofs.YtplfjgdlpbdojaaGreat
open Go.Eng Go.ChangeShapes Go.WideShapes Go.ChangeAt Go.RowKit
def Bay (x:Int):Prop:=(Lit.int .u8 x).wf=true
def A89 (x:List Int):Prop:=(∀a∈x,Bay a)∧x.length*1≤reachBytes∧x.length≤maxLen
theorem Bxf{v:V}(h:Lf tab 5 v): ∃a,v= .int .u8 a∧Bay a:=Anf h rfl rfl
theorem Bxg (x:List V)(hl:x.length=1)(h: ∀(i:Nat) l v,([5]:List Nat)[i]? =some l->x[i]? =some v->Lf tab l v): ∃a,x=Bu a∧Bay a:=by
 match x,hl with
 |[v0],_=>
  obtain⟨x0,rfl,w0⟩:=Bxf (h 0 _ _ rfl rfl);exact⟨x0,rfl,w0⟩
theorem Bt3{v:V}(h:Lf tab 22 v): ∃a,v= .row false 1 (a.map Bu)∧A89 a:=let ⟨l,e,h1,h2,h3⟩:=Ang h rfl rfl rfl rfl Bxg;⟨l,e,h1,h2,h3⟩
theorem Bt4{x:A}(h:TA tab 22 x): ∃a,x= .c (.row false 1 (a.map Bu))∧A89 a:=let ⟨v,e,h1⟩:=Anh h rfl rfl;let ⟨a,e2,w⟩:=Bt3 h1;⟨a,by rw[e,e2],w⟩
theorem Bku:ownKnob Tryz.prog.godebug=none:=by kernel_rfl
theorem Bkv:laidOutB Tryz.prog=true:=by kernel_rfl
end Go.Proofs.YtplfjgdlpbdojaaGreat
