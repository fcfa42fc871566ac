/- What the arguments are; no condition. -/
import Derived.Test.YtplfjgdlpbdojaaGreatFUni
set_option linter.all false
namespace Go.Proofs.YtplfjgdlpbdojaaGreat
open Go.Eng Go.ChangeShapes Go.WideShapes Go.ChangeAt Go.RowKit
def Bai (x:Int):Prop:=(Lit.int .u8 x).wf=true
def A8p (x:List Int):Prop:=(∀a∈x,Bai a)∧x.length*1≤reachBytes∧x.length≤maxLen
theorem Bv0{v:V}(h:Lf tab 5 v): ∃a,v= .int .u8 a∧Bai a:=Anf h rfl rfl
theorem Bv1 (x:List V)(hl:x.length=1)(h: ∀(i:Nat) l v,([5]:List Nat)[i]? =some l->x[i]? =some v->Lf tab l v): ∃a,x=Bu a∧Bai a:=by
 match x,hl with
 |[v0],_=>
  obtain⟨x0,rfl,w0⟩:=Bv0 (h 0 _ _ rfl rfl);exact⟨x0,rfl,w0⟩
theorem Bsr{v:V}(h:Lf tab 22 v): ∃a,v= .row false 1 (a.map Bu)∧A8p a:=let ⟨l,e,h1,h2,h3⟩:=Ang h rfl rfl rfl rfl Bv1;⟨l,e,h1,h2,h3⟩
theorem Bss{x:A}(h:TA tab 22 x): ∃a,x= .c (.row false 1 (a.map Bu))∧A8p a:=let ⟨v,e,h1⟩:=Anh h rfl rfl;let ⟨a,e2,w⟩:=Bsr h1;⟨a,by rw[e,e2],w⟩
theorem Bjo:ownKnob Tryz.prog.godebug=none:=by kernel_rfl
theorem Bjp:laidOutB Tryz.prog=true:=by kernel_rfl
end Go.Proofs.YtplfjgdlpbdojaaGreat
