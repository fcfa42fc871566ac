/- The engine, part 1: what is proved of the model, for any program; no condition. -/
import Derived.ArgAppend
import Derived.Below
import Derived.BigCall
import Derived.Carry
import Derived.ChangeOld
import Derived.KernelRfl
import Derived.Laws.BytesArg
import Derived.Laws.CopyRow
import Derived.Laws.Entries
import Derived.Laws.MakeOwn
import Derived.Laws.Slices
import Derived.Laws.Small
import Derived.Laws.StructEq
import Derived.OpenShut
import Derived.Orders
import Derived.ProofKit
import Derived.ShutString
import Derived.SizedLaws
import Derived.Sort.Grow
import Derived.WalkKit
set_option linter.all false
namespace Go.Eng
abbrev Z0:= @Option.bind_some
abbrev Z1:= @List.all_eq_true
abbrev Z2:= @Nat.eq_of_beq_eq_true
abbrev Z3:= @List.getElem?_eq_some_iff
abbrev Z4:= @Bool.and_eq_true
abbrev Z5:= @Option.map_eq_some_iff
abbrev Z6:= @List.mem_of_getElem?
abbrev Z7:= @Option.some.injEq
abbrev Z8:= @List.map_cons
abbrev Z9:= @Nat.le_refl
abbrev As:= @List.getElem?_map
abbrev Bi:= @List.length_map
abbrev A3:= @List.getElem?_eq_getElem
abbrev C4:= @List.getElem?_append_right
abbrev Az:= @Nat.le_of_ble_eq_true
abbrev D5:= @List.getElem?_append_left
abbrev Bf:= @List.map_congr_left
abbrev Ar:= @List.map_map
abbrev Bj:= @Nat.lt_or_ge
abbrev E9:= @List.getElem?_cons_zero
abbrev Ax:= @List.mem_cons
abbrev Hc:= @Nat.zero_le
abbrev A8:= @List.mem_map
abbrev Jd:= @List.length_append
abbrev Ec:= @List.length_eq_zero_iff
abbrev Er:= @List.map_append
abbrev C5:= @List.mem_append
abbrev Bx:= @Nat.mul_le_mul_right
abbrev Z28:= @List.length_cons
abbrev Dt:= @List.mem_singleton
abbrev Z30:= @Bool.true_and
abbrev Je:= @List.append_assoc
abbrev F0:= @Option.some.inj
abbrev Mt:= @Array.getD_eq_getD_getElem?
abbrev Du:= @Option.map_some
abbrev C6:= @List.mem_iff_getElem?
abbrev Cz:= @Nat.eq_zero_or_pos
abbrev De:= @List.map_nil
abbrev Hd:= @List.nil_append
abbrev Ed:= @List.cons.injEq
abbrev Jf:= @List.getElem?_take
abbrev He:= @List.getElem?_set
abbrev Kk:= @List.mem_of_mem_take
abbrev Ee:= @Nat.lt_of_lt_of_le
abbrev Gg:= @Bool.not_eq_true'
abbrev Gh:= @List.cons_append
abbrev D6:= @Nat.add_mul
abbrev Z47:= @List.drop_eq_getElem_cons
abbrev Z48:= @List.drop_eq_nil_of_le
abbrev Tb:= @List.length_set
abbrev Mu:= @List.getElem?_drop
abbrev Bb:= @List.all_cons
abbrev Z52:= @Bool.false_or
abbrev Gi:= @Nat.add_assoc
abbrev Mv:= @List.mem_or_eq_of_mem_set
abbrev Hf:= @List.drop_zero
abbrev Pv:= @List.mem_cons_of_mem
abbrev Dn:= @Nat.le_trans
abbrev Pw:= @List.getElem?_eq_none
inductive V where
 |int (k:IntKind) (n:Int)
 |bool (b:Bool)
 |str (s:ByteArray)
 |row (o:Bool) (es:Nat) (xs:List (List V))
 |own (id ver off len:Nat)
 |ptr (id ver k j:Nat)
 |ip (es:Nat) (xs:List (List V)) (k j:Nat)
 |nilp
 |fn (f:FuncId) (caps:List V)
 |skip
 |undef
 deriving Inhabited
mutual
def V.share:V->V
 | .row _ es xs=> .row false es (shareLL xs)
 |v=>v
def shareLL:List (List V)->List (List V)
 |[]=>[]
 |x::r=>Au x::shareLL r
def Au:List V->List V
 |[]=>[]
 |v::r=>v.share::Au r
end
theorem Tc (l:List V):Au l=l.map V.share:=by
 induction l with
 |nil=>rfl
 |cons v r ih=>simp[Au,ih]
theorem F3 (l:List (List V)):shareLL l=l.map (fun x=>x.map V.share):=by
 induction l with
 |nil=>rfl
 |cons v r ih=>simp[shareLL,ih,Tc]
inductive RC (w:World)(σ:Nat->List Nat):List Nat->V->Value->Prop
 |int (p k n):RC w σ p (.int k n) (.int k n)
 |bool (p b):RC w σ p (.bool b) (.bool b)
 |str (p s):RC w σ p (.str s) (.string s)
 |nilp (p):RC w σ p .nilp (.pointer none)
 |row (p:List Nat) (o:Bool) (es:Nat) (xs:List (List V)) (A:Option Addr) (n cap b off:Nat) (cs:Nat->Nat->Value)
   (hn:n=xs.length) (hcap:n<=cap) (hmax:cap<=maxLen)
   (hA:0<n->A=some ⟨b,off,none⟩)
   (hT:o=true->0<cap->A=some ⟨b,off,none⟩/\p≠[]/\σ b=p/\ ∃arr T,w.heap[b]? =some (.cells arr T (0,0))/\off+cap*es<=arr.size)
   (hx: ∀x∈xs,x.length=es)
   (hc: ∀k j x v,xs[k]? =some x->x[j]? =some v->w.cell? ⟨b,off+k*es+j,none⟩=some (cs k j)/\(o=false->σ b=[]))
   (hr: ∀k j x v,xs[k]? =some x->x[j]? =some v->RC w σ (if o=true then p++[k,j]else []) v (cs k j)):
   RC w σ p (.row o es xs) (.slice A n cap)
theorem Td{w:World}{b off:Nat}{c:Value}(h:w.cell? ⟨b,off,none⟩=some c):b<w.heap.size:=by
 unfold World.cell? at h;rcases Bj b w.heap.size with h1|h1
 ·exact h1
 ·simp[Array.getElem?_eq_none h1]at h
theorem Ai4{w w':World}{b:Nat}(h:w'.heap[b]? =w.heap[b]?)(off:Nat):w'.cell? ⟨b,off,none⟩=w.cell? ⟨b,off,none⟩:=by
 simp[World.cell?,h]
theorem Kl{w:World}{b:Nat}{o:Obj}(h:w.heap[b]? =some o):b<w.heap.size:=(Array.getElem?_eq_some_iff.1 h).1
theorem Cb{w:World}{b off:Nat}{arr:Array Value}{T:TypeId}{fr:Nat×Nat}(h:w.heap[b]? =some (.cells arr T fr)):w.cell? ⟨b,off,none⟩=arr[off]? :=by
 simp[World.cell?,h]
def Bg (w:World)(σ:Nat->List Nat)(w':World)(σ':Nat->List Nat)(p:List Nat):Prop:=
 ∀b,b<w.heap.size->(σ b=[]\/(p≠[]/\p <+: σ b))->w'.heap[b]? =w.heap[b]? /\σ' b=σ b
theorem Bg.nil{w w':World}{σ σ':Nat->List Nat}{p:List Nat}(h:Bg w σ w' σ' p):Bg w σ w' σ' []:=
 fun b hb hc=>h b hb (.inl (hc.resolve_right (by simp)))
theorem Bg.down{w w':World}{σ σ':Nat->List Nat}{p q:List Nat}(h:Bg w σ w' σ' p)(hp:p≠[]):Bg w σ w' σ' (p++q):=
 fun b hb hc=>h b hb (hc.imp id fun⟨_,h2⟩=>⟨hp,(List.prefix_append p q).trans h2⟩)
theorem RC.mono{w w':World}{σ σ':Nat->List Nat}{p:List Nat}{v:V}{c:Value}(h:RC w σ p v c):Bg w σ w' σ' p->RC w' σ' p v c:=by
 induction h with
 |int p k n=>exact fun _=> .int p k n
 |bool p b=>exact fun _=> .bool p b
 |str p s=>exact fun _=> .str p s
 |nilp p=>exact fun _=> .nilp p
 |row p o es xs A n cap b off cs hn hcap hmax hA hT hx hc hr ih=>
  intro hw;have hnx: ∀(k:Nat) (x:List V),xs[k]? =some x->0<cap:=by
   intro k x hk;have:=(Z3.1 hk).1;omega
  have hcell: ∀(k j:Nat) (x:List V) (v:V),xs[k]? =some x->x[j]? =some v->w'.heap[b]? =w.heap[b]? /\σ' b=σ b:=by
   intro k j x v hk hj;obtain⟨h1,h2⟩:=hc k j x v hk hj;cases o with
   |false=>exact hw b (Td h1) (.inl (h2 rfl))
   |true=>
    obtain⟨_,hp,hs,_⟩:=hT rfl (hnx k x hk);exact hw b (Td h1) (.inr ⟨hp,by rw[hs];exact List.prefix_refl _⟩)
  refine .row p o es xs A n cap b off cs hn hcap hmax hA ?_ hx ?_ ?_
  ·intro ho h0;obtain⟨h1,hp,hs,arr,T,hh,hsz⟩:=hT ho h0;obtain⟨e1,e2⟩:=hw b (Kl hh) (.inr ⟨hp,by rw[hs];exact List.prefix_refl _⟩);exact⟨h1,hp,by rw[e2,hs],arr,T,by rw[e1,hh],hsz⟩
  ·intro k j x v hk hj;obtain⟨e1,e2⟩:=hcell k j x v hk hj;obtain⟨h1,h2⟩:=hc k j x v hk hj;exact⟨by rw[Ai4 e1,h1],fun ho=>by rw[e2,h2 ho]⟩
  ·intro k j x v hk hj;refine ih k j x v hk hj ?_;cases o with
   |false=>exact hw.nil
   |true=>exact hw.down (hT rfl (hnx k x hk)).2.1
theorem RC.move{w:World}{σ σ':Nat->List Nat}{p:List Nat}{v:V}{c:Value}(h:RC w σ p v c):
  ∀ {p':List Nat},(∀b,σ b=[]->σ' b=[])->(∀b r,p≠[]->σ b=p++r->σ' b=p'++r)->(p≠[]->p'≠[])->RC w σ' p' v c:=by
 induction h with
 |int p k n=>exact fun _ _ _=> .int _ k n
 |bool p b=>exact fun _ _ _=> .bool _ b
 |str p s=>exact fun _ _ _=> .str _ s
 |nilp p=>exact fun _ _ _=> .nilp _
 |row p o es xs A n cap b off cs hn hcap hmax hA hT hx hc hr ih=>
  intro p' h0 h1 h2;refine .row p' o es xs A n cap b off cs hn hcap hmax hA ?_ hx ?_ ?_
  ·intro ho hcp;obtain⟨e1,hp,hs,rest⟩:=hT ho hcp;refine⟨e1,h2 hp,?_,rest⟩;have:=h1 b [] hp (by simpa using hs);simpa using this
  ·intro k j x v hk hj;obtain⟨e1,e2⟩:=hc k j x v hk hj;exact⟨e1,fun ho=>h0 b (e2 ho)⟩
  ·intro k j x v hk hj;have h3:= @ih k j x v hk hj;cases o with
   |false=>
    refine h3 (p':=[]) h0 (fun b r hp=>absurd rfl hp) (fun hp=>absurd rfl hp)
   |true=>
    have hp:p≠[]:=by
     have:=(Z3.1 hk).1;exact(hT rfl (by omega)).2.1
    refine h3 (p':=p'++[k,j]) h0 (fun b r _ hb=> ?_) (fun _=>by simp);have:=h1 b ([k,j]++r) hp (by simpa using hb);simpa using this
theorem RC.share{w:World}{σ σ':Nat->List Nat}{p:List Nat}{v:V}{c:Value}(h:RC w σ p v c):
  (∀b,b<w.heap.size->(σ b=[]\/(p≠[]/\p <+: σ b))->σ' b=[])-> ∀q,RC w σ' q v.share c:=by
 induction h with
 |int p k n=>exact fun _ q=> .int _ k n
 |bool p b=>exact fun _ q=> .bool _ b
 |str p s=>exact fun _ q=> .str _ s
 |nilp p=>exact fun _ q=> .nilp _
 |row p o es xs A n cap b off cs hn hcap hmax hA hT hx hc hr ih=>
  intro h0 q;have hp: ∀(k:Nat) (x:List V),xs[k]? =some x->o=true->p≠[]:=by
   intro k x hk ho;have:=(Z3.1 hk).1;exact(hT ho (by omega)).2.1
  rw[V.share,F3];have hget: ∀(k j:Nat) (x:List V) (v:V),(xs.map fun x=>x.map V.share)[k]? =some x->x[j]? =some v-> ∃x0 v0,xs[k]? =some x0/\x0[j]? =some v0/\v=v0.share:=by
   intro k j x v hk hj;rw[As]at hk;obtain⟨x0,h1,rfl⟩:=Z5.1 hk;rw[As]at hj;obtain⟨v0,h2,rfl⟩:=Z5.1 hj;exact⟨x0,v0,h1,h2,rfl⟩
  refine .row q false es _ A n cap b off cs (by simpa using hn) hcap hmax hA (fun h=>by simp at h) ?_ ?_ ?_
  ·intro x hm;obtain⟨x0,h1,rfl⟩:=A8.1 hm;simpa using hx x0 h1
  ·intro k j x v hk hj;obtain⟨x0,v0,h1,h2,rfl⟩:=hget k j x v hk hj;obtain⟨e1,e2⟩:=hc k j x0 v0 h1 h2;refine⟨e1,fun _=>h0 b (Td e1) ?_⟩;cases o with
   |false=>exact .inl (e2 rfl)
   |true=>
    obtain⟨_,hp,hs,_⟩:=hT rfl (by have:=(Z3.1 h1).1;omega);exact .inr ⟨hp,by rw[hs];exact List.prefix_refl _⟩
  ·intro k j x v hk hj;obtain⟨x0,v0,h1,h2,rfl⟩:=hget k j x v hk hj;simp only[Bool.false_eq_true,if_false];refine ih k j x0 v0 h1 h2 ?_ [];intro b hb hc;refine h0 b hb ?_;cases o with
   |false=>exact .inl (hc.resolve_right (by simp))
   |true=>exact hc.imp id fun⟨_,h2⟩=>⟨hp k x0 h1 rfl,(List.prefix_append p _).trans h2⟩
theorem RC.none (w:World)(σ:Nat->List Nat)(p:List Nat)(o:Bool)(es:Nat)(A:Option Addr):RC w σ p (.row o es []) (.slice A 0 0):=
 .row p o es [] A 0 0 0 0 (fun _ _=>default) rfl (Z9 _) (by simp[maxLen]) (fun h=>absurd h (by omega)) (fun _ h=>absurd h (by omega)) (by simp) (by simp) (by simp)
structure Blk where
 ver:Nat
 es:Nat
 xs:List (List V)
 deriving Inhabited
structure Cx where
 w:World
 σ:Nat->List Nat
 β:Nat->Option (Nat×Nat×Nat)
 H:Nat->Option Blk
 nv:Nat->Nat
def Jg (E:Cx)(id off cap es:Nat)(A:Option Addr):Prop:=
 cap=0\/ ∃b o n,E.β id=some (b,o,n)/\A=some ⟨b,o+off*es,none⟩/\off+cap<=n
inductive RV (E:Cx):List Nat->V->Value->Prop
 |c {p v c} (h:RC E.w E.σ p v c):RV E p v c
 |own (p id ver off len A n cap) (hn:n=len) (hv:ver<E.nv id) (hcap:len<=cap) (hmax:cap<=maxLen)
   (h: ∀B,E.H id=some B->B.ver=ver->off+len<=B.xs.length/\Jg E id off cap B.es A):RV E p (.own id ver off len) (.slice A n cap)
 |ptr (p id ver k j a) (hv:ver<E.nv id) (h: ∀B,E.H id=some B->B.ver=ver-> ∃b o n,E.β id=some (b,o,n)/\a=⟨b,o+k*B.es+j,none⟩):RV E p (.ptr id ver k j) (.pointer (some a))
 |ip (p es xs k j b off n cap) (h:RC E.w E.σ [] (.row false es xs) (.slice (some ⟨b,off,none⟩) n cap)):RV E p (.ip es xs k j) (.pointer (some ⟨b,off+k*es+j,none⟩))
 |fn (p f caps) (cs:Array Value) (cv:Nat->Value) (hs:cs.size=caps.length) (h1: ∀(i:Nat) v,caps[i]? =some v->cs[i]? =some (cv i)) (h2: ∀(i:Nat) v,caps[i]? =some v->RV E [] v (cv i)):RV E p (.fn f caps) (.func (.func f) #[] cs)
 |skip (p):RV E p .skip undef
 |undef (p v):RV E p .undef v
structure Cq (E E':Cx):Prop where
 nv: ∀id,E.nv id<=E'.nv id
 old: ∀id B',E'.H id=some B'->B'.ver<E.nv id-> ∃B,E.H id=some B/\B.ver=B'.ver/\B.es=B'.es/\B.xs.length=B'.xs.length/\E'.β id=E.β id
theorem RV.mono{E E':Cx}{p:List Nat}{v:V}{c:Value}(h:RV E p v c)(hx:Cq E E'):Bg E.w E.σ E'.w E'.σ p->RV E' p v c:=by
 induction h with
 |c h=>exact fun hn=> .c (h.mono hn)
 |own p id ver off len A n cap hn hv hcap hmax h=>
  intro _;refine .own p id ver off len A n cap hn (Ee hv (hx.nv id)) hcap hmax fun B' hB hver=> ?_;obtain⟨B,h1,h2,h3,h4,h5⟩:=hx.old id B' hB (by omega)
  have:=h B h1 (by omega);rw[<-h4,<-h3];refine⟨this.1,?_⟩;simp_all[Jg]
 |ptr p id ver k j a hv h=>
  intro _;refine .ptr p id ver k j a (Ee hv (hx.nv id)) fun B' hB hver=> ?_
  grind [Cq.old]
 |ip p es xs k j b off n cap h=>exact fun hn=> .ip p es xs k j b off n cap (h.mono hn.nil)
 |fn p f caps cs cv hs h1 h2 ih=>exact fun hn=> .fn p f caps cs cv hs h1 fun i v hi=>ih i v hi hn.nil
 |skip p=>exact fun _=> .skip p
 |undef p v=>exact fun _=> .undef p v
theorem RV.any{E:Cx}{v:V}{c:Value}(h:RV E [] v c)(q:List Nat):RV E q v c:=by
 cases h with
 |c h=>exact .c (h.move (p':=q) (fun _ h=>h) (fun _ _ hp=>absurd rfl hp) (fun hp=>absurd rfl hp))
 |own p id ver off len A n cap hn hv hcap hmax h=>exact .own _ _ _ _ _ _ _ _ hn hv hcap hmax h
 |ptr p id ver k j a hv h=>exact .ptr _ _ _ _ _ _ hv h
 |ip p es xs k j b off n cap h=>exact .ip _ _ _ _ _ _ _ _ _ h
 |fn p f caps cs cv hs h1 h2=>exact .fn _ _ _ _ cv hs h1 h2
 |skip p=>exact .skip _
 |undef p v=>exact .undef _ _
inductive A where
 |c (v:V)
 |g (cs:List V)
 |t (xs:List A)
 deriving Inhabited
inductive RA (E:Cx):A->Value->Prop
 |c {v x} (h:RV E [] v x):RA E (.c v) x
 |g (cs:List V) (arr:Array Value) (hs:arr.size=cs.length) (h: ∀(i:Nat) v,cs[i]? =some v-> ∃c,arr[i]? =some c/\RV E [] v c):RA E (.g cs) (.agg arr)
 |t (xs:List A) (arr:Array Value) (cv:Nat->Value) (hs:arr.size=xs.length) (h1: ∀(i:Nat) v,xs[i]? =some v->arr[i]? =some (cv i)) (h2: ∀(i:Nat) v,xs[i]? =some v->RA E v (cv i)):RA E (.t xs) (.tuple arr)
theorem RA.mono{E E':Cx}{x:A}{c:Value}(h:RA E x c)(hx:Cq E E')(hn:Bg E.w E.σ E'.w E'.σ []):RA E' x c:=by
 induction h with
 |c h=>exact .c (h.mono hx hn)
 |g cs arr hs h=>exact .g cs arr hs fun i v hi=>let ⟨c,h1,h2⟩:=h i v hi;⟨c,h1,h2.mono hx hn⟩
 |t xs arr cv hs h1 h2 ih=>exact .t xs arr cv hs h1 fun i v hi=>ih i v hi
def BR (E:Cx)(id:Nat)(B:Blk):Prop:=
 match E.β id with
 |none=>B.xs=[]
 |some (b,o,n)=>E.σ b=[id]/\(∀x∈B.xs,x.length=B.es)/\B.xs.length<=n/\ ∃arr T,E.w.heap[b]? =some (.cells arr T (0,0))/\o+n*B.es<=arr.size/\
   ∀(k j:Nat) x v,B.xs[k]? =some x->x[j]? =some v-> ∃c,arr[o+k*B.es+j]? =some c/\RV E [id,k,j] v c
theorem BR.some{E:Cx}{id:Nat}{B:Blk}{b o n:Nat}(h:BR E id B)(hb:E.β id= .some (b,o,n)):E.σ b=[id]/\(∀x∈B.xs,x.length=B.es)/\B.xs.length<=n/\ ∃arr T,E.w.heap[b]? = .some (.cells arr T (0,0))/\o+n*B.es<=arr.size/\
   ∀(k j:Nat) x v,B.xs[k]? = .some x->x[j]? = .some v-> ∃c,arr[o+k*B.es+j]? = .some c/\RV E [id,k,j] v c:=by
 grind [BR]
theorem BR.void{E:Cx}{id:Nat}{B:Blk}(h:BR E id B)(hb:E.β id= .none):B.xs=[]:=by
 grind [BR]
theorem BR.mk{E:Cx}{id:Nat}{B:Blk}{b o n:Nat}(hb:E.β id= .some (b,o,n))(h:E.σ b=[id]/\(∀x∈B.xs,x.length=B.es)/\B.xs.length<=n/\ ∃arr T,E.w.heap[b]? = .some (.cells arr T (0,0))/\o+n*B.es<=arr.size/\
   ∀(k j:Nat) x v,B.xs[k]? = .some x->x[j]? = .some v-> ∃c,arr[o+k*B.es+j]? = .some c/\RV E [id,k,j] v c):BR E id B:=by
 grind [BR]
theorem BR.mk_void{E:Cx}{id:Nat}{B:Blk}(hb:E.β id= .none)(h:B.xs=[]):BR E id B:=by
 grind [BR]
theorem BR.mono{E E':Cx}{id:Nat}{B:Blk}(h:BR E id B)(hx:Cq E E')(hb:E'.β id=E.β id)(hn:Bg E.w E.σ E'.w E'.σ [id]):BR E' id B:=by
 cases e:E.β id with
 |none=>exact .mk_void (hb.trans e) (h.void e)
 |some q=>
  obtain⟨b,o,n⟩:=q;obtain⟨hs,hes,hl,arr,T,hh,hsz,hc⟩:=h.some e;obtain⟨e1,e2⟩:=hn b (Kl hh) (.inr ⟨by simp,by grind⟩);refine .mk (hb.trans e) ⟨by grind,hes,hl,arr,T,by grind,hsz,fun k j x v hk hj=> ?_⟩;obtain⟨c,h1,h2⟩:=hc k j x v hk hj;exact⟨c,h1,h2.mono hx (hn.down (by simp) (q:=[k,j]))⟩
structure HR (E:Cx):Prop where
 far:E.H 0=none
 blk: ∀id B,E.H id=some B->B.ver<E.nv id/\BR E id B
 new: ∀b,E.w.heap.size<=b->E.σ b=[]
structure Fr where
 P:Program
 N:Nat
 w0:World
 σ0:Nat->List Nat
 β0:Nat->Option (Nat×Nat×Nat)
 m:Nat
structure Kp (w0:World)(σ0:Nat->List Nat)(w:World)(σ:Nat->List Nat):Prop where
 os:w.os=w0.os
 tape:w.tape=w0.tape
 output:w.output=w0.output
 size:w0.heap.size<=w.heap.size
 heap: ∀b,b<w0.heap.size->(σ0 b=[]\/σ0 b=[0])->w.heap[b]? =w0.heap[b]?
 free: ∀b,b<w0.heap.size->(σ0 b=[]\/σ0 b=[0])->σ b=σ0 b
theorem Kp.refl (w:World)(σ:Nat->List Nat):Kp w σ w σ:=⟨rfl,rfl,rfl,Z9 _,fun _ _ _=>rfl,fun _ _ _=>rfl⟩
structure St where
 env:Nat->A
 H:Nat->Option Blk
 nv:Nat->Nat
def St.cx (S:St)(w:World)(σ:Nat->List Nat)(β:Nat->Option (Nat×Nat×Nat)):Cx:=⟨w,σ,β,S.H,S.nv⟩
structure Ac (F:Fr)(S:St)(a:Act)(w:World)(σ:Nat->List Nat)(β:Nat->Option (Nat×Nat×Nat)):Prop where
 hr:HR (S.cx w σ β)
 mpos:0<F.m
 kp:Kp F.w0 F.σ0 w σ
 inn: ∀i,i<F.m->β i=F.β0 i
 env: ∀t,RA (S.cx w σ β) (S.env t) (a.tmps.getD t undef)
def RS (F:Fr)(S:St)(a:Act)(w:World):Prop:=a.defers=[]/\a.tmps.size=F.N/\ ∃σ β,Ac F S a w σ β
def F4 (F:Fr)(Q:Exit->St->Prop):Exit->Act->World->Prop:=fun e a w=> ∃S,Q e S/\RS F S a w
def W (F:Fr)(c:Code)(S:St)(Q:Exit->St->Prop):Prop:= ∀a w,RS F S a w->c.wp F.P (F4 F Q) a w
def Te (F:Fr)(ops:Array Oper)(l:List Nat)(S:St)(Q:Exit->St->Prop):Prop:= ∀a w,RS F S a w->wpOps F.P ops (F4 F Q) l a w
section rules
variable {F:Fr} {S:St} {Q Q':Exit->St->Prop}
theorem Ai5 (h: ∀e S,Q e S->Q' e S){e:Exit}{a:Act}{w:World}:F4 F Q e a w->F4 F Q' e a w:=fun⟨S,h1,h2⟩=>⟨S,h _ _ h1,h2⟩
theorem W.mono{c:Code}(h:W F c S Q)(hq: ∀e S,Q e S->Q' e S):W F c S Q':=fun a w hs=>wp_mono (h a w hs) fun _ _ _=>Ai5 hq
theorem Ai6 (h:Q .normal S):W F .skip S Q:=fun a w hs=>wp_skip ⟨S,h,hs⟩
theorem Ai7{l:Nat}(h:Q .normal S):W F (.label l) S Q:=fun a w hs=>wp_label ⟨S,h,hs⟩
theorem Ai8{id:Nat}(h:Q (.exit id) S):W F (.exit id) S Q:=fun a w hs=>wp_exit ⟨S,h,hs⟩
theorem Ai9 (h:Q .ret S):W F .ret S Q:=fun a w hs=>wp_ret ⟨S,h,hs⟩
def Exit.andThen (next:St->Prop)(Q:Exit->St->Prop):Exit->St->Prop
 | .normal,S=>next S
 |e,S=>Q e S
theorem Aja{x y:Code}(h:W F x S (Exit.andThen (fun S=>W F y S Q) Q)):W F (.seq x y) S Q:=by
 intro a w hs;refine wp_seq (wp_mono (h a w hs) ?_);rintro e a' w' ⟨S',hq,hs'⟩;cases e with
 |normal=>exact hq a' w' hs'
 |exit id=>exact⟨S',hq,hs'⟩
 |goto l=>exact⟨S',hq,hs'⟩
 |ret=>exact⟨S',hq,hs'⟩
 |panic c=>exact⟨S',hq,hs'⟩
 |outgrown=>exact⟨S',hq,hs'⟩
def Exit.shutBlock (id:Nat)(Q:Exit->St->Prop):Exit->St->Prop
 | .exit id',S=>if id'=id then Q .normal S else Q (.exit id') S
 |e,S=>Q e S
theorem Ajb{id:Nat}{c:Code}(h:W F c S (Exit.shutBlock id Q)):W F (.block id c) S Q:=by
 intro a w hs;refine wp_block (wp_mono (h a w hs) ?_);rintro e a' w' ⟨S',hq,hs'⟩;cases e with
 |normal=>exact⟨S',hq,hs'⟩
 |exit id'=>
  show Exit.inBlock id (F4 F Q) (.exit id') a' w';simp only[Exit.shutBlock]at hq;simp only[Exit.inBlock];split
  ·rename_i h1;rw[if_pos h1]at hq;exact⟨S',hq,hs'⟩
  ·rename_i h1;rw[if_neg h1]at hq;exact⟨S',hq,hs'⟩
 |goto l=>exact⟨S',hq,hs'⟩
 |ret=>exact⟨S',hq,hs'⟩
 |panic c=>exact⟨S',hq,hs'⟩
 |outgrown=>exact⟨S',hq,hs'⟩
theorem Ajc{c:Code}(I:Nat->St->Prop)(n:Nat)(h0:I n S)
  (h: ∀n S,I n S->W F c S (Exit.andThen (fun S'=> ∃m,m<n/\I m S') Q)):W F (.loop c) S Q:=by
 have key: ∀n (S:St),I n S->W F (.loop c) S Q:=by
  intro n;induction n using Nat.strongRecOn with
  |_ n ih=>
   intro S hI a w hs;intro b k cs;have step: ∀(n:Nat) (S:St),I n S->(∀m,m<n-> ∀S',I m S'-> ∀a w,RS F S' a w-> ∃e a' w',F4 F Q e a' w'/\Arrives F.P (lone (b.at a (.code c:: .inLoop c::k)) cs w) b k cs e a' w')->
     ∀a w,RS F S a w-> ∃e a' w',F4 F Q e a' w'/\Arrives F.P (lone (b.at a (.code c:: .inLoop c::k)) cs w) b k cs e a' w':=by
    intro n S hI rec a w hs;obtain⟨e,a₁,w₁,⟨S₁,hq,hs₁⟩,harr⟩:=h n S hI a w hs b (.inLoop c::k) cs;cases e with
    |normal=>
     obtain⟨m,hm,hI₁⟩:=hq;obtain⟨e₂,a₂,w₂,hq₂,harr₂⟩:=rec m hm S₁ hI₁ a₁ w₁ hs₁;exact⟨e₂,a₂,w₂,hq₂,.of_steps (Steps.trans harr (.one step_inLoop)) harr₂⟩
    |exit id=>exact⟨_,a₁,w₁,⟨S₁,hq,hs₁⟩,.pass (x:= .inLoop c) rfl (fun _ _=> .inl (by simp)) harr⟩
    |goto l=>exact⟨_,a₁,w₁,⟨S₁,hq,hs₁⟩,.pass (x:= .inLoop c) rfl (fun _ _=> .inl (by simp)) harr⟩
    |ret=>exact⟨_,a₁,w₁,⟨S₁,hq,hs₁⟩,.pass (x:= .inLoop c) rfl (fun _ _=> .inl (by simp)) harr⟩
    |panic ch=>exact⟨_,a₁,w₁,⟨S₁,hq,hs₁⟩,.pass (x:= .inLoop c) rfl (fun _ _=> .inl (by simp)) harr⟩
    |outgrown=>exact⟨_,a₁,w₁,⟨S₁,hq,hs₁⟩,.pass (x:= .inLoop c) rfl (fun _ _=> .inl (by simp)) harr⟩
   have all: ∀n (S:St),I n S-> ∀a w,RS F S a w-> ∃e a' w',F4 F Q e a' w'/\Arrives F.P (lone (b.at a (.code c:: .inLoop c::k)) cs w) b k cs e a' w':=by
    intro n;induction n using Nat.strongRecOn with
    |_ n ih=>grind
   obtain⟨e,a',w',hq,harr⟩:=all n S hI a w hs;exact⟨e,a',w',hq,.of_steps (.one step_loop) harr⟩
 grind
theorem Ajd{id:Nat}{ops:Array Oper}(h:Te F ops (List.range ops.size) S Q):W F (.region id ops false) S Q:=fun a w hs=>wp_region (h a w hs)
theorem Aje{ops:Array Oper}(h:Q .normal S):Te F ops [] S Q:=fun a w hs=>by
 simp only[wpOps];exact⟨S,h,hs⟩
end rules
structure Rec where
 v:A
 upd:List (Nat×Option Blk):=[]
 bump:List Nat:=[]
 use:List Tmp:=[]
 ids:List Nat:=[]
def Aa{α:Type}(f:Nat->α)(k:Nat)(v:α):Nat->α:=fun i=>if i=k then v else f i
def E2{α:Type}(f:Nat->α)(k:Option Nat)(v:α):Nat->α:=match k with|none=>f|some k=>Aa f k v
def Bn (H:Nat->Option Blk):List (Nat×Option Blk)->Nat->Option Blk
 |[]=>H
 |(i,B)::r=>Bn (Aa H i B) r
def Do (nv:Nat->Nat):List Nat->Nat->Nat
 |[]=>nv
 |i::r=>Do (Aa nv i (nv i+1)) r
def St.app (S:St)(dst:Option Tmp)(r:Rec):St:=⟨E2 S.env dst r.v,Bn S.H r.upd,Do S.nv r.bump⟩
def St.put (S:St)(dst:Option Tmp)(v:A):St:=⟨E2 S.env dst v,S.H,S.nv⟩
def Ajf (F:Fr)(o:Oper)(S S':St):Prop:= ∀(a:Act) (w:World),RS F S a w->
 (∃v w',(execOp a.eval o).run F.P w= .ok (.value v) w'/\RS F S' (a.put o.dst v) w')\/
 (∃w',(execOp a.eval o).run F.P w= .ok .skip w'/\RS F S' (a.put o.dst undef) w')\/
 (∃f args w',(execOp a.eval o).run F.P w= .ok (.enter f args) w'/\Calls F.P f args w' fun e w''=> ∃v,e= .returned v/\RS F S' (a.put o.dst v) w'')
def Ef (F:Fr)(o:Oper)(S:St)(r:Rec):Prop:=
 ∀S':St,(∀t∈r.use,S'.env t=S.env t)->(∀i∈r.ids,S'.H i=S.H i/\S'.nv i=S.nv i)->Ajf F o S' (S'.app o.dst r)
def Eg (ops:Array Oper)(j:Nat):Option Tmp:=(ops[j]?).bind (·.dst)
inductive Fk (F:Fr)(ops:Array Oper)(i:Nat)(S:St):Rec->Prop
 |run (o:Oper) (r:Rec) (ho:ops[i]? =some o) (hg:o.guard=none) (h:Ef F o S r):Fk F ops i S r
 |runG (o:Oper) (r:Rec) (j:Nat) (d:Tmp) (b:Bool) (ho:ops[i]? =some o) (hg:o.guard=some (j,b)) (hd:Eg ops j=some d) (hv:S.env d= .c (.bool b)) (h:Ef F o S r) (hu:d∈r.use):Fk F ops i S r
 |pass (o:Oper) (j:Nat) (d:Tmp) (b c:Bool) (ho:ops[i]? =some o) (hg:o.guard=some (j,b)) (hd:Eg ops j=some d) (hv:S.env d= .c (.bool c)) (hne:c≠b):Fk F ops i S {v:= .c .skip,use:=[d]}
 |passS (o:Oper) (j:Nat) (d:Tmp) (b:Bool) (ho:ops[i]? =some o) (hg:o.guard=some (j,b)) (hd:Eg ops j=some d) (hv:S.env d= .c .skip):Fk F ops i S {v:= .c .skip,use:=[d]}
def Bk (ops:Array Oper)(i:Nat):Option Tmp:=(ops[i]?).bind (·.dst)
theorem Tf{b:Bool}{c:Value}(h: ∃E:Cx,RA E (.c (.bool b)) c):c= .bool b:=by
 obtain⟨E,h⟩:=h;cases h with
 |c h=>
  cases h with
  |c h=>cases h;rfl
theorem Ajg{c:Value}(h: ∃E:Cx,RA E (.c .skip) c):c=undef:=by
 obtain⟨E,h⟩:=h;cases h with
 |c h=>
  cases h with
  |c h=>cases h
  |skip=>rfl
theorem Aeh{ops:Array Oper}{tmps:Array Value}{j:Nat}{d:Tmp}(hd:Eg ops j=some d){b:Bool}(h:tmps.getD d undef= .bool b):yielded ops tmps j=some b:=by
 unfold Eg at hd;have h':tmps[d]? =some (.bool b):=by
  rw[Mt]at h
  grind [undef]
 grind [yielded]
theorem Ajh{ops:Array Oper}{tmps:Array Value}{j:Nat}{d:Tmp}(hd:Eg ops j=some d)(h:tmps.getD d undef=undef):yielded ops tmps j=none:=by
 unfold Eg at hd;cases ho:ops[j]? with
 |none=>grind
 |some o=>
  rw[ho]at hd;simp only[Z0]at hd;rw[Mt]at h
  grind [yielded,undef]
theorem Q7 (a:Act)(d:Option Tmp)(v:Value):(a.put d v).tmps.size=a.tmps.size:=by
 cases d<;>simp[Act.put]
theorem Df (a:Act)(d:Option Tmp)(v:Value):(a.put d v).defers=a.defers:=by
 cases d<;>simp[Act.put]
theorem Px{E:Cx}{env:Nat->A}{a:Act}{N:Nat}(hs:a.tmps.size=N)(h: ∀t,RA E (env t) (a.tmps.getD t undef)){dst:Option Tmp}(hd: ∀d,dst=some d->d<N){x:A}{v:Value}(hx:RA E x v):
  ∀t,RA E (E2 env dst x t) ((a.put dst v).tmps.getD t undef):=by
 intro t;cases dst with
 |none=>exact h t
 |some d=>
  have hlt:=hd d rfl;simp only[E2,Aa,Act.put];by_cases e:t=d
  ·simp_all
  ·rw[if_neg e];have:=h t;rw[Mt]at this ⊢
   grind
def Mw (F:Fr)(ops:Array Oper):Prop:= ∀(i:Nat) o,ops[i]? =some o-> ∀d,o.dst=some d->d<F.N
theorem Fk.wp{F:Fr}{ops:Array Oper}{i:Nat}{S S0:St}{r:Rec}{Qf:Exit->Act->World->Prop}{K:Act->World->Prop}(hf:Mw F ops)(h:Fk F ops i S0 r)(h1: ∀t∈r.use,S.env t=S0.env t)(h2: ∀j∈r.ids,S.H j=S0.H j/\S.nv j=S0.nv j)
  (hK: ∀a w,RS F (S.app (Bk ops i) r) a w->K a w) {a:Act} {w:World} (hs:RS F S a w):wpOp F.P ops Qf i K a w:=by
 have runs: ∀o,ops[i]? =some o->Ef F o S0 r->o.wp F.P a w K Qf:=by
  intro o ho hst;have hK': ∀a w,RS F (S.app o.dst r) a w->K a w:=by
   grind [Bk]
  rcases hst S h1 h2 a w hs with ⟨v,w',hr,hs'⟩|⟨w',hr,hs'⟩|⟨f,args,w',hr,hc⟩
  ·unfold Oper.wp;rw[hr];exact hK' _ _ hs'
  ·unfold Oper.wp;rw[hr];exact hK' _ _ hs'
  ·unfold Oper.wp;rw[hr];refine Calls.mono hc ?_
   grind
 have passes: ∀(o:Oper),ops[i]? =some o->r={v:= .c .skip,use:=r.use}->K (a.put o.dst undef) w:=by
  intro o ho hr;refine hK _ _ ?_;obtain⟨hd,hsz,σ,β,hx⟩:=hs;have hdst:Bk ops i=o.dst:=by simp[Bk,ho]
  refine⟨by grind [Df],by grind [Q7],σ,β,?_⟩;rw[hr,hdst];exact⟨hx.hr,hx.mpos,hx.kp,hx.inn,Px hsz hx.env (hf i o ho) (.c (.skip _))⟩
 unfold wpOp;cases h with
 |run o r ho hg h=>
  simp only[ho,Region.wanted,hg,if_true]
  grind
 |runG o r j d b ho hg hd hv h hu=>
  have hb:=Tf (by have:=hs.2.2;obtain⟨σ,β,hx⟩:=this;have:=hx.env d;rw[h1 d hu,hv]at this;exact⟨_,this⟩);have hy:=Aeh hd hb;simp only[ho,Region.wanted,hg,hy,beq_self_eq_true,if_true]
  grind
 |pass o j d b c ho hg hd hv hne=>
  have hb:=Tf (by have:=hs.2.2;obtain⟨σ,β,hx⟩:=this;have:=hx.env d;rw[h1 d (by simp),hv]at this;exact⟨_,this⟩);have hy:=Aeh hd hb;have hf:(some c==some b)=false:=by simp[hne]
  simp_all[Region.wanted]
 |passS o j d b ho hg hd hv=>
  have hb:=Ajg (by have:=hs.2.2;obtain⟨σ,β,hx⟩:=this;have:=hx.env d;rw[h1 d (by simp),hv]at this;exact⟨_,this⟩);have hy:=Ajh hd hb;have hf:((none:Option Bool)==some b)=false:=rfl;simp_all[Region.wanted]
inductive Jh (F:Fr)(ops:Array Oper):List Nat->St->List Rec->St->Prop
 |nil (S):Jh F ops [] S [] S
 |cons {i l S r rs S'} (h:Fk F ops i S r) (t:Jh F ops l (S.app (Bk ops i) r) rs S'):Jh F ops (i::l) S (r::rs) S'
structure St.Sim (S S':St):Prop where
 env: ∀t,S.env t=S'.env t
 H: ∀i,S.H i=S'.H i
 nv: ∀i,S.nv i=S'.nv i
theorem St.Sim.eq{S S':St}(h:S.Sim S'):S=S':=by
 obtain⟨e,H,n⟩:=S;obtain⟨e',H',n'⟩:=S';have h1:e=e':=funext h.env;have h2:H=H':=funext h.H;have h3:n=n':=funext h.nv;subst h1;subst h2;subst h3;rfl
def Km (r:Rec):List Nat:=r.upd.map (·.1)++r.bump
def Gj (d1:Option Tmp)(r1:Rec)(d2:Option Tmp)(r2:Rec):Bool:=
 (match d1 with|some d=> !(r2.use.contains d)&&d2 != some d|none=>true)&&
 (match d2 with|some d=> !(r1.use.contains d)|none=>true)&&
 (Km r1).all (fun i=> !(r2.ids.contains i)&& !((Km r2).contains i))&&
 (Km r2).all (fun i=> !(r1.ids.contains i))
theorem Ji{H:Nat->Option Blk}{l:List (Nat×Option Blk)}{i:Nat}(h:i ∉ l.map (·.1)):Bn H l i=H i:=by
 induction l generalizing H with
 |nil=>rfl
 |cons x r ih=>
  simp_all[Bn,Aa]
theorem Tg{H H':Nat->Option Blk}{l:List (Nat×Option Blk)}{i:Nat}(h:i∈l.map (·.1)):Bn H l i=Bn H' l i:=by
 induction l generalizing H H' with
 |nil=>simp at h
 |cons x r ih=>
  obtain⟨k,B⟩:=x;rw[Bn,Bn];by_cases hr:i∈r.map (·.1)
  all_goals grind [Ji,Aa]
theorem Py{nv:Nat->Nat}{l:List Nat}{i:Nat}(h:i ∉ l):Do nv l i=nv i:=by
 induction l generalizing nv with
 |nil=>rfl
 |cons x r ih=>
  simp_all[Do,Aa]
theorem Th{nv nv':Nat->Nat}{l:List Nat}{i:Nat}(h:nv i=nv' i):Do nv l i=Do nv' l i:=by
 induction l generalizing nv nv' with
 |nil=>exact h
 |cons x r ih=>
  rw[Do,Do]
  grind [Aa]
theorem Q96{α:Type}(f:Nat->α)(d:Nat)(v:α):E2 f (some d) v d=v:=by simp[E2,Aa]
theorem P0{α:Type}(f:Nat->α)(o:Option Nat)(v:α)(t:Nat)(h:o≠some t):E2 f o v t=f t:=by
 cases o with
 |none=>rfl
 |some d=>simp only[E2,Aa];grind
theorem Kn{l:List Nat}{i:Nat}(h:(!(l.contains i))=true):i ∉ l:=by grind
theorem Aji{S:St}{d1 d2:Option Tmp}{r1 r2:Rec}(h:Gj d1 r1 d2 r2=true):(S.app d1 r1).app d2 r2=(S.app d2 r2).app d1 r1:=by
 simp only[Gj,Z4,Z1]at h;obtain⟨⟨⟨hd1,hd2⟩,hk1⟩,hk2⟩:=h;have hne: ∀d,d1=some d->d2≠some d:=by
  grind
 refine St.Sim.eq ⟨fun t=> ?_,fun i=> ?_,fun i=> ?_⟩
 ·simp only[St.app];by_cases e1:d1=some t
  ·simp_all[P0,Q96]
  ·by_cases e2:d2=some t
   all_goals grind [Q96,P0]
 ·simp only[St.app];by_cases e1:i∈r1.upd.map (·.1)
  ·have e2:i ∉ r2.upd.map (·.1):=fun hm=>by
    have:=hk1 i (List.mem_append_left _ e1);have h2:=Kn this.2;exact h2 (List.mem_append_left _ hm)
   grind [Ji,Tg]
  ·rw[Ji e1 (H:=Bn S.H r2.upd)];by_cases e2:i∈r2.upd.map (·.1)
   all_goals grind [Tg,Ji]
 ·simp only[St.app];by_cases e1:i∈r1.bump
  ·have e2:i ∉ r2.bump:=fun hm=>by
    have:=hk1 i (List.mem_append_right _ e1);exact Kn this.2 (List.mem_append_right _ hm)
   simp_all[Py,Th]
  simp_all[Py,Th]
def Jj (o:Oper):List Nat:=(o.after.toList.filter (fun e=>Region.binds .any e)).map (·.on)
def reach (ops:Array Oper):Nat->Nat->Nat->Bool
 |0,_,_=>false
 |n+1,j,i=>match ops[j]? with
  |none=>false
  |some o=>(Jj o).any fun k=>k==i||reach ops n k i
def Hg (ops:Array Oper)(rs:List Rec):Bool:=
 (List.range ops.size).all fun j=>(List.range j).all fun i=>
  match rs[i]?,rs[j]? with
  |some r1,some r2=>Gj (Bk ops i) r1 (Bk ops j) r2||reach ops ops.size j i
  |_,_=>false
def Ko (ops:Array Oper):Bool:=(List.range ops.size).all fun i=>match ops[i]? with|some o=>(Jj o).all (· <i)|none=>false
def Bl (ops:Array Oper)(rs:List Rec)(L:Nat->Bool)(S:St):Nat->St
 |0=>S
 |n+1=>if L n then(match rs[n]? with|some r=>(Bl ops rs L S n).app (Bk ops n) r|none=>Bl ops rs L S n)else Bl ops rs L S n
def F5 (ops:Array Oper)(L:Nat->Bool):Prop:= ∀j o,ops[j]? =some o->L j=true-> ∀k∈Jj o,L k=true
theorem F5.reach{ops:Array Oper}{L:Nat->Bool}(h:F5 ops L): ∀(n j i:Nat),reach ops n j i=true->L j=true->L i=true:=by
 intro n;induction n with
 |zero=>grind [reach]
 |succ n ih=>
  intro j i hr hj;rw[Eng.reach]at hr;cases ho:ops[j]? with
  |none=>grind
  |some o=>
   rw[ho]at hr;simp only[List.any_eq_true,Bool.or_eq_true,beq_iff_eq]at hr;obtain⟨k,hk,e|e⟩:=hr
   ·subst e;exact h j o ho hj k hk
   ·exact ih k i e (h j o ho hj k hk)
theorem Aej{ops:Array Oper}{rs:List Rec}{L L':Nat->Bool}{S:St}(n:Nat)(h: ∀i,i<n->L i=L' i):Bl ops rs L S n=Bl ops rs L' S n:=by
 induction n with
 |zero=>rfl
 |succ n ih=>
  grind [Bl]
section
variable {ops:Array Oper} {rs:List Rec} {S:St} {L:Nat->Bool}
theorem P3 (hc:Hg ops rs=true){i j:Nat}(hij:i<j)(hj:j<ops.size): ∃r1 r2,rs[i]? =some r1/\rs[j]? =some r2/\(Gj (Bk ops i) r1 (Bk ops j) r2=true\/reach ops ops.size j i=true):=by
 simp only[Hg,Z1,List.mem_range]at hc
 grind
theorem Ajj (hc:Hg ops rs=true)(hd:F5 ops L){i:Nat}(hi:L i=false){r:Rec}(hr:rs[i]? =some r):
  ∀n,n<=ops.size->i<n->Bl ops rs (Aa L i true) S n=(Bl ops rs L S n).app (Bk ops i) r:=by
 intro n;induction n with
 |zero=>omega
 |succ n ih=>
  intro hn hin;rcases Bj i n with h|h
  ·have hne:n≠i:=by omega
   rw[Bl,Bl,ih (by omega) h];simp only[Aa,if_neg hne];cases hL:L n with
   |false=>rfl
   |true=>
    obtain⟨r1,r2,e1,e2,e3⟩:=P3 hc h (by omega);have e4:=e3.resolve_right (fun hrch=>by grind [F5.reach]);rw[hr]at e1;cases e1;rw[e2];simp only[if_true];exact Aji e4
  grind [Bl.eq_2,Aej,Aa]
end
theorem Ajk{ops:Array Oper}{rs:List Rec}{S:St}{L:Nat->Bool}(hc:Hg ops rs=true)(hd:F5 ops L){i:Nat}(hi:L i=false){r:Rec}(hr:rs[i]? =some r)(hisz:i<ops.size)
  (hneed: ∀j,j<i->L j=false-> ∃r1,rs[j]? =some r1/\Gj (Bk ops j) r1 (Bk ops i) r=true):
  ∀n,n<=ops.size->(∀t∈r.use,(Bl ops rs L S n).env t=(Bl ops rs (fun _=>true) S (min n i)).env t)/\
   (∀k∈r.ids,(Bl ops rs L S n).H k=(Bl ops rs (fun _=>true) S (min n i)).H k/\(Bl ops rs L S n).nv k=(Bl ops rs (fun _=>true) S (min n i)).nv k):=by
 have away: ∀(j:Nat) (r1:Rec) (X:St),Gj (Bk ops j) r1 (Bk ops i) r=true->(∀t∈r.use,(X.app (Bk ops j) r1).env t=X.env t)/\(∀k∈r.ids,(X.app (Bk ops j) r1).H k=X.H k/\(X.app (Bk ops j) r1).nv k=X.nv k):=by
  intro j r1 X h;simp only[Gj,Z4,Z1]at h;obtain⟨⟨⟨hd1,hd2⟩,hk1⟩,hk2⟩:=h;refine⟨fun t ht=> ?_,fun k hk=>⟨?_,?_⟩⟩
  ·refine P0 _ _ _ _ (fun e=> ?_)
   grind
  ·refine Ji (fun hm=> ?_);exact Kn (hk1 k (List.mem_append_left _ hm)).1 hk
  ·refine Py (fun hm=> ?_);exact Kn (hk1 k (List.mem_append_right _ hm)).1 hk
 have away': ∀(j:Nat) (r1:Rec) (X:St),Gj (Bk ops i) r (Bk ops j) r1=true->(∀t∈r.use,(X.app (Bk ops j) r1).env t=X.env t)/\(∀k∈r.ids,(X.app (Bk ops j) r1).H k=X.H k/\(X.app (Bk ops j) r1).nv k=X.nv k):=by
  intro j r1 X h;simp only[Gj,Z4,Z1]at h;obtain⟨⟨⟨hd1,hd2⟩,hk1⟩,hk2⟩:=h;refine⟨fun t ht=> ?_,fun k hk=>⟨?_,?_⟩⟩
  ·refine P0 _ _ _ _ (fun e=> ?_)
   grind
  ·refine Ji (fun hm=> ?_);exact Kn (hk2 k (List.mem_append_left _ hm)) hk
  ·refine Py (fun hm=> ?_);exact Kn (hk2 k (List.mem_append_right _ hm)) hk
 intro n;induction n with
 |zero=>grind [Bl]
 |succ n ih=>
  intro hn;obtain⟨ih1,ih2⟩:=ih (by omega);rcases Bj n i with h|h
  ·have e1:min (n+1) i=n+1:=by omega
   have e2:min n i=n:=by omega
   rw[e1];rw[e2]at ih1 ih2;rw[Bl,Bl];simp only[if_true];obtain⟨r1,r2,f1,f2,f3⟩:=P3 hc h hisz;rw[f1];rw[hr]at f2;cases f2;cases hL:L n with
   |true=>
    simp only[if_true];have same: ∀ {α:Type} (f g:Nat->α) (d:Option Nat) (v:α) (t:Nat),f t=g t->E2 f d v t=E2 g d v t:=by
     intro α f g d v t h;cases d with
     |none=>exact h
     |some d=>simp_all[E2,Aa]
    refine⟨fun t ht=>same _ _ _ _ _ (ih1 t ht),fun k hk=>⟨?_,Th (ih2 k hk).2⟩⟩;simp only[St.app];by_cases hm:k∈r1.upd.map (·.1)
    ·exact Tg hm
    simp_all[Ji]
   |false=>
    grind
  ·have e1:min (n+1) i=i:=by omega
   have e2:min n i=i:=by omega
   rw[e1];rw[e2]at ih1 ih2;rw[Bl];cases hL:L n with
   |false=>grind
   |true=>
    have hne:i<n:=by
     grind
    obtain⟨r1,r2,f1,f2,f3⟩:=P3 hc hne (by omega);rw[hr]at f1;cases f1;have f4:=f3.resolve_right (fun hrch=>by grind [F5.reach])
    grind
theorem Jh.at_{F:Fr}{ops:Array Oper}{S0:St}{l:List Nat}{S S':St}{rs:List Rec}(h:Jh F ops l S rs S'):
  ∀(pre:List Rec) (k:Nat),k+l.length=ops.size->l=(List.range' k l.length)->pre.length=k->S=Bl ops (pre++rs) (fun _=>true) S0 k->
   rs.length=l.length/\S'=Bl ops (pre++rs) (fun _=>true) S0 ops.size/\ ∀j,j<l.length-> ∃r,(pre++rs)[k+j]? =some r/\Fk F ops (k+j) (Bl ops (pre++rs) (fun _=>true) S0 (k+j)) r:=by
 induction h with
 |nil S=>
  grind
 | @cons i l S r rs S' h t ih=>
  intro pre k hk hl hp hS;have hi:i=k:=by
   have:=congrArg List.head? hl
   grind [List.range']
  subst hi;have hl':l=List.range' (i+1) l.length:=by
   have:=congrArg List.tail hl
   grind
  have hget:(pre++r::rs)[i]? =some r:=by
   grind
  have hpre:pre++r::rs=(pre++[r])++rs:=by simp
  have hS1:S.app (Bk ops i) r=Bl ops ((pre++[r])++rs) (fun _=>true) S0 (i+1):=by
   rw[<-hpre,Bl]
   grind
  obtain⟨h1,h2,h3⟩:=ih (pre++[r]) (i+1) (by grind) hl' (by simp[hp]) hS1;rw[<-hpre]at h2 h3;refine⟨by simp[h1],h2,fun j hj=> ?_⟩;cases j with
  |zero=>grind
  |succ j=>
   obtain⟨r',e1,e2⟩:=h3 j (by grind)
   grind
theorem RS.drawn{F:Fr}{S:St}{a:Act}{w:World}(h:RS F S a w):RS F S a {w with drawn:=w.drawn+1}:=by
 obtain⟨h1,h2,σ,β,hx⟩:=h;have hext:Cq (S.cx w σ β) (S.cx {w with drawn:=w.drawn+1} σ β):=⟨fun _=>Z9 _,fun id B h _=>⟨B,h,rfl,rfl,rfl,rfl⟩⟩;have hn: ∀p,Bg w σ {w with drawn:=w.drawn+1} σ p:=fun p b _ _=>⟨rfl,rfl⟩
 refine⟨h1,h2,σ,β,⟨⟨hx.hr.far,fun id B hB=> ?_,hx.hr.new⟩,hx.mpos,⟨hx.kp.os,hx.kp.tape,hx.kp.output,hx.kp.size,hx.kp.heap,hx.kp.free⟩,hx.inn,fun t=>(hx.env t).mono hext (hn [])⟩⟩;obtain⟨e1,e2⟩:=hx.hr.blk id B hB;exact⟨e1,e2.mono hext rfl (hn [id])⟩
def Q5 (listed:Array Bool):Nat->Bool:=fun i=>listed.getD i true
theorem Ti{ops:Array Oper}{listed:Array Bool}{i:Nat}:i∈Region.ready .any ops listed ↔ i<ops.size/\listed.getD i true=false/\ ∃o,ops[i]? =some o/\ ∀k∈Jj o,listed.getD k false=true:=by
 unfold Region.ready;rw[List.mem_filter,List.mem_range];constructor
 ·rintro⟨h1,h2⟩;simp only[Z4,Gg]at h2;obtain⟨h3,h4⟩:=h2;refine⟨h1,h3,?_⟩;cases ho:ops[i]? with
  |none=>grind
  |some o=>
   refine⟨o,rfl,fun k hk=> ?_⟩
   grind [Array.all_eq_true',Jj]
 ·rintro⟨h1,h3,o,ho,h4⟩;refine⟨h1,?_⟩;simp only[Z4,Gg];refine⟨h3,?_⟩;rw[ho];simp only[Du,Option.getD_some,Array.all_eq_true'];intro e he;cases hb:Region.binds .any e with
  |false=>simp
  |true=>
   have:=h4 e.on (by simp only[Jj,A8,List.mem_filter];grind)
   grind
theorem Ajl{F:Fr}{id:Nat}{ops:Array Oper}{S S':St}{rs:List Rec}{Q:Exit->St->Prop}(hm:F.P.follows .mixedOrders=true)(hf:Mw F ops)(h:Jh F ops (List.range ops.size) S rs S')(hc:Hg ops rs=true)(hdn:Ko ops=true)(hq:Q .normal S'):W F (.region id ops true) S Q:=by
 obtain⟨hlen,hfin,hst⟩:=h.at_ (S0:=S) [] 0 (by simp) (by simp[List.range_eq_range']) rfl rfl;simp only[Hd,Nat.zero_add,List.length_range]at hlen hfin hst;intro a w hs;refine wp_region_any hm ?_;have hdown: ∀(i:Nat) o,ops[i]? =some o-> ∀k∈Jj o,k<i:=by
  simp_all[Ko,Array.getElem?_eq_some_iff]
 have key: ∀(fuel:Nat) (listed:Array Bool),listed.size=ops.size->F5 ops (Q5 listed)->(∀i,ops.size<=i->True)->
   (List.range ops.size).countP (fun i=> !(Q5 listed i))<=fuel->
   ∀a w,RS F (Bl ops rs (Q5 listed) S ops.size) a w->wpAny F.P .any ops (F4 F Q) fuel listed a w:=by
  intro fuel;have An: ∀(listed:Array Bool),listed.size=ops.size->F5 ops (Q5 listed)->Region.ready .any ops listed=[]-> ∀i,i<ops.size->Q5 listed i=true:=by
   intro listed hsz hD hr i;induction i using Nat.strongRecOn with
   |_ i ih=>
    intro hi;cases hl:Q5 listed i with
    |true=>rfl
    |false=>
     exfalso;have hmem:i∈Region.ready .any ops listed:=by
      refine Ti.2 ⟨hi,hl,ops[i],by simp[hi],fun k hk=> ?_⟩
      grind [Q5]
     grind
  have fin: ∀(listed:Array Bool),listed.size=ops.size->F5 ops (Q5 listed)->Region.ready .any ops listed=[]-> ∀a w,RS F (Bl ops rs (Q5 listed) S ops.size) a w->F4 F Q .normal a w:=by
   intro listed hsz hD hr a w hs;have hall:=An listed hsz hD hr;refine⟨S',hq,?_⟩
   grind [Aej]
  induction fuel with
  |zero=>
   intro listed hsz hD _ hcnt a w hs;have hall: ∀i,i<ops.size->Q5 listed i=true:=by
    simp_all
   have hr:Region.ready .any ops listed=[]:=by
    cases e:Region.ready .any ops listed with
    |nil=>rfl
    |cons x l=>
     have hx:x∈Region.ready .any ops listed:=by grind
     obtain⟨h1,h2,_⟩:=Ti.1 hx
     grind [Q5]
   exact⟨hr,fin listed hsz hD hr a w hs⟩
  |succ fuel ih=>
   intro listed hsz hD _ hcnt a w hs;refine⟨fun hr=>fin listed hsz hD hr a w hs,fun i hi=> ?_⟩;obtain⟨hisz,hil,o,ho,hneed⟩:=Ti.1 hi;obtain⟨r,hr,hstp⟩:=hst i hisz;have hL:Q5 listed i=false:=hil;have hDset:Q5 (listed.setIfInBounds i true)=Aa (Q5 listed) i true:=by
    funext j;simp only[Q5,Aa,Mt]
    grind
   have hD':F5 ops (Aa (Q5 listed) i true):=by
    intro j oj hj hjl k hk;by_cases e:k=i
    ·grind [Aa]
    ·simp only[Aa,if_neg e];by_cases ej:j=i
     ·grind [Q5]
     ·simp only[Aa,if_neg ej]at hjl;exact hD j oj hj hjl k hk
   have looks:=Ajk (S:=S) hc hD hL hr hisz (fun j hji hjl=>by
    obtain⟨r1,r2,f1,f2,f3⟩:=P3 hc hji hisz;rw[hr]at f2;cases f2;refine⟨r1,f1,f3.resolve_right (fun hrch=> ?_)⟩;have hi2:=hD'.reach _ _ _ hrch (by simp[Aa]);simp_all[Aa]) ops.size (Z9 _)
   rw[Nat.min_eq_right (Nat.le_of_lt hisz)]at looks;refine hstp.wp hf looks.1 looks.2 ?_ hs;intro a' w' hs';refine ih (listed.setIfInBounds i true) (by grind) (by grind) (fun _ _=>trivial) ?_ a' w' ?_
   ·rw[hDset];have:(List.range ops.size).countP (fun j=> !(Aa (Q5 listed) i true j))<(List.range ops.size).countP (fun j=> !(Q5 listed j)):=by
     have hgen: ∀(l:List Nat),i∈l->l.countP (fun j=> !(Aa (Q5 listed) i true j))<l.countP (fun j=> !(Q5 listed j)):=by
      have hle: ∀(l:List Nat),l.countP (fun j=> !(Aa (Q5 listed) i true j))<=l.countP (fun j=> !(Q5 listed j)):=fun l=>
       List.countP_mono_left (fun j _ hj=>by
        simp_all[Aa])
      intro l hl;induction l with
      |nil=>cases hl
      |cons x t iht=>
       rw[List.countP_cons,List.countP_cons];by_cases e:x=i
       ·subst e;have:=hle t;have h1:(!(Aa (Q5 listed) x true x))=false:=by simp[Aa]
        grind
       ·have hm:i∈t:=by
         grind
        simp_all[Aa]
     grind
    omega
   ·rw[hDset,Ajj hc hD hL hr ops.size (Z9 _) hisz];exact hs'
 refine key ops.size (Array.replicate ops.size false) (by simp) ?_ (fun _ _=>trivial) ?_ a {w with drawn:=w.drawn+1} ?_
 ·intro j o ho hl;have hj:=(Array.getElem?_eq_some_iff.1 ho).1;simp_all[Q5]
 ·grind [List.countP_le_length]
 ·have: ∀n,n<=ops.size->Bl ops rs (Q5 (Array.replicate ops.size false)) S n=S:=by
   intro n;induction n with
   |zero=>intro _;rfl
   |succ n ih=>
    intro hn;rw[Bl,ih (by omega)];have:Q5 (Array.replicate ops.size false) n=false:=by simp[Q5,Mt,show n<ops.size by omega]
    grind
  rw[this ops.size (Z9 _)];exact hs.drawn
inductive TK where
 |int (k:IntKind)|bool|str
 |slice (e:Nat)|ptr (e:Nat)
 |struct (fs:List (Nat×Nat))
 |array (n e:Nat)
 |other
structure TI where
 size:Nat
 bytes:Nat
 k:TK
 sh:List Nat
 zero:List V
def E3:V->Value->Bool
 | .int k n,.int k' n'=>decide (k=k')&&decide (n=n')
 | .bool b,.bool b'=>b==b'
 | .str s,.string s'=>decide (s=s')
 | .row true _ [],.slice none n c=>decide (n=0)&&decide (c=0)
 | .nilp,.pointer none=>true
 | .undef,_=>true
 |_,_=>false
def F6:List V->List Value->Bool
 |[],[]=>true
 |v::r,c::s=>E3 v c&&F6 r s
 |_,_=>false
def Fa:TypeDesc->TK->Bool
 | .int k,.int k'=>decide (k=k')
 | .bool,.bool=>true
 | .string,.str=>true
 | .slice e,.slice e'=>decide (e=e')
 | .pointer e,.ptr e'=>decide (e=e')
 | .struct fs,.struct gs=>decide (fs.toList.map (fun f=>(f.offset,f.type))=gs)
 | .array n e,.array n' e'=>decide (n=n')&&decide (e=e')
 | .array ..,.other=>false
 | .struct ..,.other=>false
 |_,.other=>true
 |_,_=>false
def TK.agg:TK->Bool
 | .struct _| .array _ _=>true
 |_=>false
def Tj (P:Program)(t:Nat)(i:TI):Bool:=
 match P.info? t,P.underlying t with
 |some inf,some d=>decide (inf.size=i.size)&&decide (inf.bytes=i.bytes)&&Fa d i.k&&
   (match inf.zero with
    |some z=>F6 i.zero z.cells.toList&&(match z with| .agg _=>i.k.agg| .tuple _=>false|_=> !i.k.agg)
    |none=>false)
 |_,_=>false
abbrev Tab:=List (Nat×TI)
def tg:Tab->Nat->Option TI
 |[],_=>none
 |(t,i)::r,n=>if t=n then some i else tg r n
def Av (P:Program)(T:Tab):Prop:= ∀p∈T,Tj P p.1 p.2=true
theorem Ajm{T:Tab}{t:Nat}{i:TI}(h:tg T t=some i):(t,i)∈T:=by
 induction T with
 |nil=>simp[tg]at h
 |cons p r ih=>
  grind [tg]
theorem Av.of_all{P:Program}{T:Tab}(h:T.all (fun p=>Tj P p.1 p.2)=true):Av P T:=fun p hp=>Z1.1 h p hp
structure Ty (P:Program)(t:Nat)(i:TI):Prop where
 inf: ∃inf,P.info? t=some inf/\inf.size=i.size/\inf.bytes=i.bytes/\ ∃z,inf.zero=some z/\F6 i.zero z.cells.toList=true/\(z.oneCell'= !i.k.agg)
 und: ∃d,P.underlying t=some d/\Fa d i.k=true
theorem Av.ty{P:Program}{T:Tab}(h:Av P T){t:Nat}{i:TI}(ht:tg T t=some i):Ty P t i:=by
 have:=h _ (Ajm ht);simp only[Tj]at this;cases e1:P.info? t with
 |none=>grind
 |some inf=>
  cases e2:P.underlying t with
  |none=>grind
  |some d=>
   rw[e1,e2]at this;simp only[Z4,decide_eq_true_eq]at this;obtain⟨⟨⟨h1,h2⟩,h3⟩,h4⟩:=this;cases e3:inf.zero with
   |none=>grind
   |some z=>
    rw[e3]at h4;simp only[Z4]at h4;refine⟨⟨inf,e1,h1,h2,z,e3,h4.1,?_⟩,d,e2,h3⟩;have h5:=h4.2
    grind [Value.oneCell']
theorem Ty.sizeOf{P:Program}{t:Nat}{i:TI}(h:Ty P t i)(w:World):(Go.sizeOf t).run P w= .ok i.size w:=by
 obtain⟨inf,h1,h2,_⟩:=h.inf;simp[Go.sizeOf,typeInfo,h1,h2]
theorem Ty.info{P:Program}{t:Nat}{i:TI}(h:Ty P t i)(w:World): ∃inf,(typeInfo t).run P w= .ok inf w/\inf.size=i.size/\inf.bytes=i.bytes:=by
 obtain⟨inf,h1,h2,h3,_⟩:=h.inf;simp_all[typeInfo]
theorem Ty.zero{P:Program}{t:Nat}{i:TI}(h:Ty P t i)(w:World): ∃z,(zeroValue t).run P w= .ok z w/\F6 i.zero z.cells.toList=true/\z.oneCell'= !i.k.agg:=by
 obtain⟨inf,h1,h2,h3,z,h4,h5,h6⟩:=h.inf;simp_all[zeroValue,typeInfo]
theorem Ty.slice{P:Program}{t e:Nat}{i:TI}(h:Ty P t i)(hk:i.k= .slice e):P.underlying t=some (.slice e):=by
 obtain⟨d,h1,h2⟩:=h.und;rw[hk]at h2;cases d<;>simp_all[Fa]
theorem Ty.str{P:Program}{t:Nat}{i:TI}(h:Ty P t i)(hk:i.k= .str):P.underlying t=some .string:=by
 grind [und,Fa]
theorem Ty.int{P:Program}{t:Nat}{i:TI}{k:IntKind}(h:Ty P t i)(hk:i.k= .int k):P.underlying t=some (.int k):=by
 obtain⟨d,h1,h2⟩:=h.und;rw[hk]at h2;cases d<;>simp_all[Fa]
theorem Ty.array{P:Program}{t n e:Nat}{i:TI}(h:Ty P t i)(hk:i.k= .array n e):P.underlying t=some (.array n e):=by
 obtain⟨d,h1,h2⟩:=h.und;rw[hk]at h2;cases d<;>simp_all[Fa]
theorem Ty.struct{P:Program}{t:Nat}{i:TI}{gs:List (Nat×Nat)}(h:Ty P t i)(hk:i.k= .struct gs): ∃fs,P.underlying t=some (.struct fs)/\fs.toList.map (fun f=>(f.offset,f.type))=gs:=by
 obtain⟨d,h1,h2⟩:=h.und;rw[hk]at h2;cases d with
 |struct fs=>grind [Fa]
 |_=>simp_all[Fa]
theorem Ty.isAgg{P:Program}{t:Nat}{i:TI}(h:Ty P t i)(w:World):(Go.isAgg t).run P w= .ok i.k.agg w:=by
 obtain⟨d,h1,h2⟩:=h.und;unfold Go.isAgg;simp only[Sem.run_bind,run_underlying h1,Result.andThen_ok];cases d<;>cases hk:i.k<;>simp_all[Fa,TK.agg]
def Kq (es:Nat):Value->V
 | .bool b=> .bool b
 | .int k n=> .int k n
 | .string s=> .str s
 | .pointer none=> .nilp
 | .slice none n c=>if n=0/\c=0 then .row true es []else .undef
 |_=> .undef
def Cd (sh:List Nat):List Value->List V
 |[]=>[]
 |c::r=>Kq (sh.headD 0) c::Cd sh.tail r
def Gk (sh:List Nat):Value->A
 | .agg cs=> .g (Cd sh cs.toList)
 |v=> .c (Kq (sh.headD 0) v)
def St.val (S:St)(sh:List Nat):Operand->A
 | .tmp t=>S.env t
 | .const v=>Gk sh v
 | .func f=> .c (.fn f [])
 | .global _=> .c .undef
theorem Aek{E:Cx}(es:Nat)(c:Value):RV E [] (Kq es c) c:=by
 cases c with
 |bool b=>exact .c (.bool _ b)
 |int k n=>exact .c (.int _ k n)
 |string s=>exact .c (.str _ s)
 |pointer a=>cases a with
  |none=>exact .c (.nilp _)
  |some a=>exact .undef _ _
 |slice a n c=>cases a with
  |none=>
   simp only[Kq];split
   ·rename_i h;obtain⟨rfl,rfl⟩:=h;exact .c (RC.none _ _ _ _ _ _)
   ·exact .undef _ _
  |some a=>exact .undef _ _
 |_=>exact .undef _ _
theorem Ajn (sh:List Nat)(l:List Value):(Cd sh l).length=l.length:=by
 induction l generalizing sh with
 |nil=>rfl
 |cons c r ih=>simp[Cd,ih]
theorem Ajo{E:Cx}(sh:List Nat)(l:List Value)(i:Nat)(v:V)(h:(Cd sh l)[i]? =some v): ∃c,l[i]? =some c/\RV E [] v c:=by
 induction l generalizing sh i with
 |nil=>simp[Cd]at h
 |cons c r ih=>
  cases i with
  |zero=>
   simp only[Cd,E9,Z7]at h;subst h;simp_all[Aek]
  |succ i=>grind [Cd]
theorem Ajp{E:Cx}(sh:List Nat)(c:Value):RA E (Gk sh c) c:=by
 cases c with
 |agg cs=>
  refine .g _ cs (by rw[Ajn];rfl) fun i v h=> ?_
  obtain⟨c,h1,h2⟩:=Ajo sh cs.toList i v h;exact⟨c,by grind,h2⟩
 |_=>exact .c (Aek _ _)
theorem Q4{F:Fr}{S:St}{a:Act}{w:World}{σ:Nat->List Nat}{β:Nat->Option (Nat×Nat×Nat)}(h:Ac F S a w σ β)(sh:List Nat)(x:Operand):RA (S.cx w σ β) (S.val sh x) (a.eval x):=by
 cases x with
 |tmp t=>exact h.env t
 |const v=>exact Ajp sh v
 |func f=>exact .c (.fn _ f [] #[] (fun _=>default) rfl (fun i v h=>by simp at h) (fun i v h=>by simp at h))
 |global g=>exact .c (.undef _ _)
def Q2 (l:List Operand):List Tmp:=l.filterMap fun| .tmp t=>some t|_=>none
theorem By{S S':St}{x:Operand}{l:List Operand}(hx:x∈l)(h: ∀t∈Q2 l,S'.env t=S.env t)(sh:List Nat):S'.val sh x=S.val sh x:=by
 cases x with
 |tmp t=>exact h t (List.mem_filterMap.2 ⟨.tmp t,hx,rfl⟩)
 |_=>rfl
def Bm (F:Fr)(o:Oper)(S:St)(v:A):Prop:= ∀(a:Act) (w:World) σ β,Ac F S a w σ β-> ∃val,(execOp a.eval o).run F.P w= .ok (.value val) w/\RA (S.cx w σ β) v val
theorem Bm.step{F:Fr}{o:Oper}{S:St}{v:A}(hd: ∀d,o.dst=some d->d<F.N)(use:List Tmp)(ids:List Nat)
  (h: ∀S':St,(∀t∈use,S'.env t=S.env t)->(∀i∈ids,S'.H i=S.H i/\S'.nv i=S.nv i)->Bm F o S' v):Ef F o S {v,use,ids}:=by
 intro S' h1 h2 a w hs;obtain⟨hdf,hsz,σ,β,hx⟩:=hs;obtain⟨val,hr,hv⟩:=h S' h1 h2 a w σ β hx;exact .inl ⟨val,w,hr,by grind [Df],by grind [Q7],σ,β,hx.hr,hx.mpos,hx.kp,hx.inn,Px hsz hx.env hd hv⟩
section
variable {F:Fr} {S:St} {o:Oper}
theorem B7{E:Cx}{v:V}{c:Value}(h:RA E (.c v) c):RV E [] v c:=by cases h with|c h=>exact h
theorem Bo{E:Cx}{k:IntKind}{n:Int}{c:Value}(h:RA E (.c (.int k n)) c):c= .int k n:=by
 cases B7 h with|c h=>cases h;rfl
theorem Jk{E:Cx}{b:Bool}{c:Value}(h:RA E (.c (.bool b)) c):c= .bool b:=by
 cases B7 h with|c h=>cases h;rfl
theorem Mx{E:Cx}{s:ByteArray}{c:Value}(h:RA E (.c (.str s)) c):c= .string s:=by
 cases B7 h with|c h=>cases h;rfl
theorem F7{E:Cx}(k:IntKind)(n:Int):RA E (.c (.int k n)) (.int k n):= .c (.c (.int _ k n))
theorem My{E:Cx}(b:Bool):RA E (.c (.bool b)) (.bool b):= .c (.c (.bool _ b))
theorem Ajq{x:Operand}(h:o.op= .move x)(sh:List Nat):Bm F o S (S.val sh x):=fun a w σ β hx=>
 ⟨a.eval x,by simp[execOp,h],Q4 hx sh x⟩
theorem Ajr{x:Operand}(h:o.op= .assign x)(sh:List Nat):Bm F o S (S.val sh x):=fun a w σ β hx=>
 ⟨a.eval x,by simp[execOp,h],Q4 hx sh x⟩
theorem Ajs{c x y:Operand}(h:o.op= .pick c x y)(sh:List Nat){b:Bool}(hc:S.val [] c= .c (.bool b)):Bm F o S (S.val sh (if b then x else y)):=by
 intro a w σ β hx;have h1:=Q4 hx [] c;rw[hc]at h1;have h2:=Jk h1;refine⟨a.eval (if b then x else y),?_,Q4 hx sh _⟩;cases b<;>simp[execOp,h,h2,asBool]
def P4 (op:BinOp)(k:IntKind)(a b:Int):Option V:=
 match op with
 | .add=>some (.int k (k.wrap (a+b)))
 | .sub=>some (.int k (k.wrap (a - b)))
 | .mul=>some (.int k (k.wrap (a*b)))
 | .and=>some (.int k (k.wrap (BitVec.ofInt k.bits a &&& BitVec.ofInt k.bits b).toNat))
 | .or=>some (.int k (k.wrap (BitVec.ofInt k.bits a ||| BitVec.ofInt k.bits b).toNat))
 | .xor=>some (.int k (k.wrap (BitVec.ofInt k.bits a ^^^ BitVec.ofInt k.bits b).toNat))
 | .eql=>some (.bool (a==b))
 | .neq=>some (.bool (a != b))
 | .lss=>some (.bool (a<b))
 | .leq=>some (.bool (a<=b))
 | .gtr=>some (.bool (a>b))
 | .geq=>some (.bool (a>=b))
 |_=>none
theorem Ajt{op:BinOp}{t ty:TypeId}{x y:Operand}(h:o.op= .binOp op t x y ty){k:IntKind}{a b:Int}{v:V}(hx:S.val [] x= .c (.int k a))(hy:S.val [] y= .c (.int k b))(hv:P4 op k a b=some v):Bm F o S (.c v):=by
 intro ac w σ β hs;have h1:=Q4 hs [] x;have h2:=Q4 hs [] y;rw[hx]at h1;rw[hy]at h2;have e1:=Bo h1;have e2:=Bo h2;cases op<;>simp only[P4,Z7,reduceCtorEq]at hv<;>subst hv<;>
  exact⟨_,by simp[execOp,h,e1,e2,eqGuard,binOp,Op.intArith,Op.intCmp,Op.intBits];rfl,by first|exact F7 _ _|exact My _⟩
theorem Aju{op:BinOp}{t ty:TypeId}{x y:Operand}(h:o.op= .binOp .quo t x y ty){k:IntKind}{a b:Int}(hx:S.val [] x= .c (.int k a))(hy:S.val [] y= .c (.int k b))(hb:b≠0):Bm F o S (.c (.int k (k.wrap (a.tdiv b)))):=by
 intro ac w σ β hs;have h1:=Q4 hs [] x;have h2:=Q4 hs [] y;rw[hx]at h1;rw[hy]at h2;have e1:=Bo h1;have e2:=Bo h2;simp_all[execOp,eqGuard,binOp,Op.intDiv,F7]
theorem Ajv{t ty:TypeId}{x y:Operand}(h:o.op= .binOp .rem t x y ty){k:IntKind}{a b:Int}(hx:S.val [] x= .c (.int k a))(hy:S.val [] y= .c (.int k b))(hb:b≠0):Bm F o S (.c (.int k (a.tmod b))):=by
 intro ac w σ β hs;have h1:=Q4 hs [] x;have h2:=Q4 hs [] y;rw[hx]at h1;rw[hy]at h2;have e1:=Bo h1;have e2:=Bo h2;simp_all[execOp,eqGuard,binOp,Op.intDiv,F7]
theorem Ajw{t ty:TypeId}{x y:Operand}(h:o.op= .binOp .shl t x y ty){k k':IntKind}{a b:Int}(hx:S.val [] x= .c (.int k a))(hy:S.val [] y= .c (.int k' b))(hb:0<=b):Bm F o S (.c (.int k (k.wrap (a*2 ^ min b.toNat k.bits)))):=by
 intro ac w σ β hs;have h1:=Q4 hs [] x;have h2:=Q4 hs [] y;rw[hx]at h1;rw[hy]at h2;have e1:=Bo h1;have e2:=Bo h2;exact⟨_,by simp[execOp,h,e1,e2,eqGuard,binOp,Op.shift,Int.not_lt.2 hb],F7 _ _⟩
theorem Ajx{t ty:TypeId}{x y:Operand}(h:o.op= .binOp .shr t x y ty){k k':IntKind}{a b:Int}(hx:S.val [] x= .c (.int k a))(hy:S.val [] y= .c (.int k' b))(hb:0<=b):Bm F o S (.c (.int k (a.fdiv (2 ^ min b.toNat k.bits)))):=by
 intro ac w σ β hs;have h1:=Q4 hs [] x;have h2:=Q4 hs [] y;rw[hx]at h1;rw[hy]at h2;have e1:=Bo h1;have e2:=Bo h2;exact⟨_,by simp[execOp,h,e1,e2,eqGuard,binOp,Op.shift,Int.not_lt.2 hb],F7 _ _⟩
theorem Ajy{t:TypeId}{x:Operand}(h:o.op= .unOp .not t x){b:Bool}(hx:S.val [] x= .c (.bool b)):Bm F o S (.c (.bool !b)):=by
 intro ac w σ β hs;have h1:=Q4 hs [] x;rw[hx]at h1;have e1:=Jk h1;simp_all[execOp,Op.unary,My]
theorem Ajz{t:TypeId}{x:Operand}(h:o.op= .unOp .neg t x){k:IntKind}{n:Int}(hx:S.val [] x= .c (.int k n)):Bm F o S (.c (.int k (k.wrap (0 - n)))):=by
 intro ac w σ β hs;have h1:=Q4 hs [] x;rw[hx]at h1;have e1:=Bo h1;simp_all[execOp,Op.unary,Op.intArith,F7]
theorem Aj0{s t:TypeId}{x:Operand}(h:o.op= .convert s t x){T:Tab}(hT:Av F.P T){i j:TI}(hi:tg T s=some i)(hj:tg T t=some j){k k':IntKind}(hik:i.k= .int k')(hjk:j.k= .int k){n:Int}(hx:S.val [] x= .c (.int k' n)):Bm F o S (.c (.int k (k.wrap n))):=by
 intro ac w σ β hs;have h1:=Q4 hs [] x;rw[hx]at h1;have e1:=Bo h1;have u1:=(hT.ty hi).int hik;have u2:=(hT.ty hj).int hjk;simp_all[execOp,convert,Conv.intToInt,run_underlying,F7]
theorem Aj1{op:BinOp}{t ty:TypeId}{x y:Operand}(h:o.op= .binOp op t x y ty)(hop:op= .eql\/op= .neq){a b:ByteArray}(hx:S.val [] x= .c (.str a))(hy:S.val [] y= .c (.str b)):Bm F o S (.c (.bool (if op= .eql then a.toList==b.toList else !(a.toList==b.toList)))):=by
 intro ac w σ β hs;have h1:=Q4 hs [] x;have h2:=Q4 hs [] y;rw[hx]at h1;rw[hy]at h2;have e1:=Mx h1;have e2:=Mx h2;rcases hop with rfl|rfl
 all_goals simp_all[execOp,eqGuard,binOp,Op.stringOp,My]
end
section
variable {F:Fr} {S:St} {o:Oper} {T:Tab}
theorem Kr{E:Cx}{id ver k j:Nat}{c:Value}(h:RA E (.c (.ptr id ver k j)) c): ∃a,c= .pointer (some a)/\ver<E.nv id/\ ∀B,E.H id=some B->B.ver=ver-> ∃b o n,E.β id=some (b,o,n)/\a=⟨b,o+k*B.es+j,none⟩:=by
 cases B7 h with
 |c h=>cases h
 |ptr p id ver k j a hv h'=>grind
theorem Tk{E:Cx}{es k j:Nat}{xs:List (List V)}{c:Value}(h:RA E (.c (.ip es xs k j)) c): ∃b off n cap,c= .pointer (some ⟨b,off+k*es+j,none⟩)/\RC E.w E.σ [] (.row false es xs) (.slice (some ⟨b,off,none⟩) n cap):=by
 cases B7 h with
 |c h=>cases h
 |ip p es xs k j b off n cap h'=>grind
theorem Mz{E:Cx}{id ver off len:Nat}{c:Value}(h:RA E (.c (.own id ver off len)) c): ∃A cap,c= .slice A len cap/\ver<E.nv id/\len<=cap/\cap<=maxLen/\ ∀B,E.H id=some B->B.ver=ver->off+len<=B.xs.length/\Jg E id off cap B.es A:=by
 cases B7 h with
 |c h=>cases h
 |own p id ver off len A n cap hn hv hcap hmax h'=>grind
theorem Tl{E:Cx}{o:Bool}{es:Nat}{xs:List (List V)}{c:Value}(h:RA E (.c (.row o es xs)) c): ∃A cap,c= .slice A xs.length cap/\RC E.w E.σ [] (.row o es xs) (.slice A xs.length cap):=by
 cases B7 h with
 |c h=>
  have h0:=h;cases h with
  |row p o es xs A n cap b off cs hn hcap hmax hA hT hx hc hr=>grind
theorem Cv (b off n:Nat):(⟨b,off,none⟩:Addr).add n=⟨b,off+n,none⟩:=by
 grind [Addr.add]
theorem Ael{x:Operand}(h:o.op= .nilCheck x)(sh:List Nat){v:V}(hx:S.val sh x= .c v)(hv:(match v with| .ptr .. =>true| .ip .. =>true|_=>false)=true):Bm F o S (.c v):=by
 intro ac w σ β hs;have h1:=Q4 hs sh x;rw[hx]at h1;refine⟨ac.eval x,?_,h1⟩;cases v with
 |ptr id ver k j=>obtain⟨a,e,_⟩:=Kr h1;simp[execOp,h,e]
 |ip es xs k j=>obtain⟨b,off,n,cap,e,_⟩:=Tk h1;simp[execOp,h,e]
 |_=>simp at hv
def Jl (T:Tab)(s f:Nat):Option Nat:=
 match tg T s with
 |some i=>match i.k with
  | .struct gs=>match gs[f]? with
   |some (off,ft)=>match tg T ft with
    |some j=>if j.size=0 then none else some off
    |none=>none
   |none=>none
  |_=>none
 |none=>none
theorem Aem{P:Program}{T:Tab}(hT:Av P T){s f off:Nat}(h:Jl T s f=some off)(a:Addr)(w:World):(Instr.fieldAt s (.pointer (some a)) f).run P w= .ok (.pointer (some (a.add off))) w:=by
 unfold Jl at h;cases e1:tg T s with
 |none=>grind
 |some i=>
  rw[e1]at h;cases e2:i.k with
  |struct gs=>
   simp only[e2]at h;cases e3:gs[f]? with
   |none=>grind
   |some q=>
    obtain⟨off',ft⟩:=q;rw[e3]at h;cases e4:tg T ft with
    |none=>grind
    |some j=>
     simp only[e4]at h;split at h
     ·cases h
     ·rename_i hj;cases h;obtain⟨fs,u1,u2⟩:=(hT.ty e1).struct e2;have hf: ∃fd,fs[f]? =some fd/\fd.offset=off/\fd.type=ft:=by
       grind
      obtain⟨fd,h1,h2,h3⟩:=hf;have hsz:=(hT.ty e4).sizeOf w;simp_all[Instr.fieldAt,Instr.sureAddr,fieldPlace,run_underlying]
  |_=>grind
theorem Aj2 (hT:Av F.P T){s f:Nat}{x:Operand}(h:o.op= .fieldAddr s x f){id ver k j off:Nat}(hx:S.val [] x= .c (.ptr id ver k j))(hf:Jl T s f=some off):Bm F o S (.c (.ptr id ver k (j+off))):=by
 intro ac w σ β hs;have h1:=Q4 hs [] x;rw[hx]at h1;obtain⟨a,e,hv,hB⟩:=Kr h1;refine⟨.pointer (some (a.add off)),by simp[execOp,h,e,Aem hT hf],.c (.ptr _ _ _ _ _ _ hv fun B hB' hver=> ?_)⟩
 grind [Cv]
theorem Aj3 (hT:Av F.P T){s f:Nat}{x:Operand}(h:o.op= .fieldAddr s x f){es k j off:Nat}{xs:List (List V)}(hx:S.val [] x= .c (.ip es xs k j))(hf:Jl T s f=some off):Bm F o S (.c (.ip es xs k (j+off))):=by
 intro ac w σ β hs;have h1:=Q4 hs [] x;rw[hx]at h1;obtain⟨b,o',n,cap,e,hB⟩:=Tk h1;refine⟨.pointer (some ⟨b,o'+k*es+(j+off),none⟩),by simp[execOp,h,e,Aem hT hf,Cv,Gi],.c (.ip _ _ _ _ _ _ _ _ _ hB)⟩
def C0 (T:Tab)(t:Nat):Option Nat:=
 match tg T t with
 |some i=>match i.k with
  | .slice e=>match tg T e with|some j=>some j.size|none=>none
  |_=>none
 |none=>none
theorem Aen{P:Program}{T:Tab}(hT:Av P T){t n:Nat}(h:C0 T t=some n): ∃e j,P.underlying t=some (.slice e)/\tg T e=some j/\j.size=n:=by
 unfold C0 at h;cases e1:tg T t with
 |none=>grind
 |some i=>
  rw[e1]at h;cases e2:i.k with
  |slice e=>
   simp only[e2]at h;cases e3:tg T e with
   |none=>grind
   |some j=>
    simp only[e3,Z7]at h;exact⟨e,j,(hT.ty e1).slice e2,e3,h⟩
  |_=>grind
theorem Aeo{P:Program}{T:Tab}(hT:Av P T){t n:Nat}(h:C0 T t=some n)(a:Addr)(len cap:Nat)(k:IntKind)(i:Int)(h0:0<=i)(h1:i<len)(w:World):
  (Instr.indexAt t (.slice (some a) len cap) (.int k i)).run P w= .ok (.pointer (some (a.add (i.toNat*n)))) w:=by
 obtain⟨e,j,u1,u2,u3⟩:=Aen hT h;have hsz:=(hT.ty u2).sizeOf w;simp_all[Instr.indexAt,asIntOf,run_underlying]
theorem Aj4 (hT:Av F.P T){t:Nat}{x ix:Operand}(h:o.op= .indexAddr t x ix){id ver off len:Nat}{k:IntKind}{i:Int}(hx:S.val [] x= .c (.own id ver off len))(hi:S.val [] ix= .c (.int k i)){B:Blk}(hB:S.H id=some B)(hver:B.ver=ver)(hes:C0 T t=some B.es)(h0:0<=i)(h1:i<len):
  Bm F o S (.c (.ptr id ver (off+i.toNat) 0)):=by
 intro ac w σ β hs;have g1:=Q4 hs [] x;have g2:=Q4 hs [] ix;rw[hx]at g1;rw[hi]at g2;have e2:=Bo g2;obtain⟨A,cap,e1,hv,hcap,hmax,hb⟩:=Mz g1;obtain⟨hlen,hat⟩:=hb B hB hver;have hlt:i.toNat<len:=by omega
 rcases hat with hat|⟨b,o',n,e3,rfl,hn⟩
 ·omega
 ·refine⟨.pointer (some ⟨b,o'+(off+i.toNat)*B.es,none⟩),?_,.c (.ptr _ _ _ _ _ _ hv fun B' hB' hver'=> ?_)⟩
  ·simp[execOp,h,e1,e2,Aeo hT hes _ _ _ _ _ h0 h1,Cv,D6,Gi]
  ·have:B'=B:=by
    have h3:S.H id=some B':=hB'
    grind
   grind
theorem Aj5 (hT:Av F.P T){t:Nat}{x ix:Operand}(h:o.op= .indexAddr t x ix){ob:Bool}{es:Nat}{xs:List (List V)}{k:IntKind}{i:Int}(hx:S.val [] x= .c (.row ob es xs))(hi:S.val [] ix= .c (.int k i))(hes:C0 T t=some es)(h0:0<=i)(h1:i<xs.length)(hob:ob=false):
  Bm F o S (.c (.ip es xs i.toNat 0)):=by
 subst hob;intro ac w σ β hs;have g1:=Q4 hs [] x;have g2:=Q4 hs [] ix;rw[hx]at g1;rw[hi]at g2;have e2:=Bo g2;obtain⟨A,cap,e1,hR⟩:=Tl g1;have hlt:0<xs.length:=by omega
 have hA: ∃b off,A=some ⟨b,off,none⟩:=by
  cases hR with
  |row p o es xs A n cap b off cs hn hcap hmax hA hT hx hc hr=>grind
 obtain⟨b,off,rfl⟩:=hA;refine⟨.pointer (some ⟨b,off+i.toNat*es+0,none⟩),?_,.c (.ip _ _ _ _ _ _ _ _ _ hR)⟩;simp[execOp,h,e1,e2,Aeo hT hes _ _ _ _ _ h0 h1,Cv]
theorem Aj6 (hT:Av F.P T){t:Nat}{x ix:Operand}(h:o.op= .indexAddr t x ix){id ver k0 j0 n e:Nat}{k:IntKind}{i:Int}{ti te:TI}(hx:S.val [] x= .c (.ptr id ver k0 j0))(hi:S.val [] ix= .c (.int k i))(ht:tg T t=some ti)(hk:ti.k= .array n e)(he:tg T e=some te)(h0:0<=i)(h1:i<n):
  Bm F o S (.c (.ptr id ver k0 (j0+i.toNat*te.size))):=by
 intro ac w σ β hs;have g1:=Q4 hs [] x;have g2:=Q4 hs [] ix;rw[hx]at g1;rw[hi]at g2;have e2:=Bo g2;obtain⟨a,e1,hv,hB⟩:=Kr g1;have u1:=(hT.ty ht).array hk;have hsz:=(hT.ty he).sizeOf w;refine⟨.pointer (some (a.add (i.toNat*te.size))),?_,.c (.ptr _ _ _ _ _ _ hv fun B hB' hver=> ?_)⟩
 ·simp_all[execOp,Instr.indexAt,asIntOf,Instr.sureAddr,run_underlying]
 grind [Cv]
theorem Tm (hT:Av F.P T){t:Nat}{x:Operand}(h:o.op= .call {callee:= .builtin .len,args:= #[x],argTypes:= #[t]}){ti:TI}(ht:tg T t=some ti){n:Nat}(sh:List Nat)
  (hx:(∃e,ti.k= .slice e/\((∃id ver off,S.val sh x= .c (.own id ver off n))\/ ∃ob es xs,S.val sh x= .c (.row ob es xs)/\xs.length=n))\/(ti.k= .str/\ ∃s,S.val sh x= .c (.str s)/\s.size=n)):Bm F o S (.c (.int .i64 n)):=by
 intro ac w σ β hs;have g1:=Q4 hs sh x;refine⟨.int .i64 n,?_,F7 _ _⟩;rcases hx with ⟨e,hk,hx⟩|⟨hk,s,hx,rfl⟩
 ·have u1:=(hT.ty ht).slice hk;have hv: ∃A cap,ac.eval x= .slice A n cap:=by
   grind [Mz,Tl]
  obtain⟨A,cap,e1⟩:=hv;simp_all[execOp,resolve,invoke,builtin,Builtin.len_,goInt,run_underlying]
 ·have u1:=(hT.ty ht).str hk;rw[hx]at g1;have e1:=Mx g1;simp_all[execOp,resolve,invoke,builtin,Builtin.len_,goInt,run_underlying]
theorem Aj7{x:Operand}{n:Nat}(h:o.op= .extract x n){xs:List A}{v:A}(hx:S.val [] x= .t xs)(hv:xs[n]? =some v):Bm F o S v:=by
 intro ac w σ β hs;have g1:=Q4 hs [] x;rw[hx]at g1;generalize hc:ac.eval x=c at g1;cases g1 with
 |t xs arr cv hsz h1 h2=>
  simp_all[execOp,Instr.extract]
theorem Aj8{f:FuncId}{caps:Array Operand}(h:o.op= .makeFunc (.func f) #[] caps){vs:List V}(hl:vs.length=caps.size)(hv: ∀(i:Nat) x v,caps[i]? =some x->vs[i]? =some v->S.val [] x= .c v):Bm F o S (.c (.fn f vs)):=by
 intro ac w σ β hs;refine⟨.func (.func f) #[] (caps.map ac.eval),by simp[execOp,h,Instr.makeFunc],.c (.fn _ f vs _ (fun i=>(caps.map ac.eval).getD i undef) (by simp[hl]) (fun i v hi=> ?_) (fun i v hi=> ?_))⟩
 ·have hlt:i<caps.size:=by grind
  simp_all
 ·have hlt:i<caps.size:=by grind
  have h1:=Q4 hs [] caps[i];rw[hv i caps[i] v (Array.getElem?_eq_getElem hlt) hi]at h1;simp_all[B7]
end
section
variable {F:Fr} {S:St} {o:Oper} {T:Tab}
def Bp (S:St)(d:Int):Option Operand->Option Int
 |none=>some d
 |some x=>match S.val [] x with| .c (.int _ n)=>some n|_=>none
theorem Aj9{a:Act}{w:World}{σ:Nat->List Nat}{β:Nat->Option (Nat×Nat×Nat)}(hs:Ac F S a w σ β){x:Operand}{d n:Int}(h:Bp S d (some x)=some n): ∃k,a.eval x= .int k n:=by
 have g:=Q4 hs [] x;simp only[Bp]at h;cases e:S.val [] x with
 |c v=>
  rw[e]at h g;cases v with
  |int k m=>
   simp only[Z7]at h;subst h;exact⟨k,Bo g⟩
  |_=>simp at h
 |g cs=>grind
 |t xs=>grind
theorem Aep{P:Program}{T:Tab}(hT:Av P T){t es:Nat}(hes:C0 T t=some es)(A:Option Addr)(len cap:Nat)(lo hi:Option Value)(l h:Nat)
  (hlo:(lo=none/\l=0)\/ ∃k,lo=some (.int k l)) (hhi:(hi=none/\h=len)\/ ∃k,hi=some (.int k h)) (hlh:l<=h) (hh:h<=cap) (w:World):
  (Instr.sliceAt t (.slice A len cap) lo hi none).run P w= .ok (.slice (if cap=l then A else A.map (·.add (l*es))) (h - l) (cap - l)) w:=by
 obtain⟨e,j,u1,u2,u3⟩:=Aen hT hes;have hsz:=(hT.ty u2).sizeOf w;have b1: ∀(k:IntKind) (c:BoundsCode) (n m:Nat),n<=m->(Instr.sliceBound (.int k (n:Int)) m c).run P w= .ok n w:=by
  intro k c n m hnm;have h1:(0:Int)<=n/\(n:Int)<=m:=by omega
  simp[Instr.sliceBound,asIntOf,h1]
 have hb:(Instr.sliceBounds true len cap lo hi none).run P w= .ok (l,h,cap) w:=by
  unfold Instr.sliceBounds;rcases hlo with ⟨rfl,rfl⟩|⟨k,rfl⟩<;>rcases hhi with ⟨rfl,rfl⟩|⟨k',rfl⟩
  all_goals simp_all
 simp_all[Instr.sliceAt,Instr.slice,run_underlying]
theorem P5{a:Act}{w:World}{σ:Nat->List Nat}{β:Nat->Option (Nat×Nat×Nat)}(hs:Ac F S a w σ β){lo:Option Operand}{d l:Int}(h:Bp S d lo=some l):(lo.map a.eval=none/\l=d)\/ ∃k,lo.map a.eval=some (.int k l):=by
 cases lo with
 |none=>simp_all[Bp]
 |some x=>
  grind [Aj9]
theorem Aeq (hT:Av F.P T){t:Nat}{x:Operand}{lo hi:Option Operand}(h:o.op= .slice t x lo hi none){id ver off len:Nat}(hx:S.val [] x= .c (.own id ver off len)){B:Blk}(hB:S.H id=some B)(hver:B.ver=ver)(hes:C0 T t=some B.es)
  {l hh:Int} (hl:Bp S 0 lo=some l) (hr:Bp S len hi=some hh) (h0:0<=l) (h1:l<=hh) (h2:hh<=len):Bm F o S (.c (.own id ver (off+l.toNat) (hh - l).toNat)):=by
 intro ac w σ β hs;have g1:=Q4 hs [] x;rw[hx]at g1;obtain⟨A,cap,e1,hv,hcap,hmax,hb⟩:=Mz g1;obtain⟨ln,rfl⟩:=Int.eq_ofNat_of_zero_le h0;obtain⟨hn,rfl⟩:=Int.eq_ofNat_of_zero_le (Int.le_trans h0 h1);have r:=Aep hT hes A len cap (lo.map ac.eval) (hi.map ac.eval) ln hn
  ((P5 hs hl).imp (fun⟨a,b⟩=>⟨a,by omega⟩) (fun h=>h)) ((P5 hs hr).imp (fun⟨a,b⟩=>⟨a,by omega⟩) (fun h=>h)) (by omega) (by omega) w
 refine⟨_,by simp only[execOp,h,e1,Option.map_none,Sem.run_bind,r,Result.andThen_ok,Sem.run_pure];rfl,.c ?_⟩;have e2:(hn:Int) - (ln:Int)=((hn - ln:Nat):Int):=by omega
 rw[e2,Int.toNat_natCast,Int.toNat_natCast];refine .own _ _ _ _ _ _ _ _ rfl hv (by omega) (by omega) fun B' hB' hver'=> ?_
 have hBB:B'=B:=by
  have h3:S.H id=some B':=hB'
  grind
 subst hBB;obtain⟨f1,f2⟩:=hb B' hB' hver';refine⟨by omega,?_⟩;rcases f2 with f2|⟨b,o',n,f3,rfl,f4⟩
 ·grind
 ·by_cases hc:cap=ln
  ·exact .inl (by omega)
  ·refine .inr ⟨b,o',n,f3,?_,by omega⟩;simp_all[Cv,D6,Gi]
theorem RC.cut{w:World}{σ:Nat->List Nat}{es:Nat}{xs:List (List V)}{A:Option Addr}{n cap:Nat}(h:RC w σ [] (.row false es xs) (.slice A n cap)){l hh:Nat}(h1:l<=hh)(h2:hh<=xs.length):
  RC w σ [] (.row false es ((xs.drop l).take (hh - l))) (.slice (if cap=l then A else A.map (·.add (l*es))) (hh - l) (cap - l)):=by
 cases h with
 |row p o es xs A n cap b off cs hn hcap hmax hA hT hx hc hr=>
  have hget: ∀(k:Nat) (x:List V),((xs.drop l).take (hh - l))[k]? =some x->xs[l+k]? =some x/\k<hh - l:=by
   grind
  refine .row [] false es _ _ _ _ b (off+l*es) (fun k j=>cs (l+k) j) (by grind) (by omega) (by omega) (fun h0=> ?_) (fun h=>by simp at h) ?_ ?_ ?_
  ·rw[if_neg (by omega),hA (by omega)];simp[Cv]
  all_goals grind
theorem Aka (hT:Av F.P T){t:Nat}{x:Operand}{lo hi:Option Operand}(h:o.op= .slice t x lo hi none){es:Nat}{xs:List (List V)}(hx:S.val [] x= .c (.row false es xs))(hes:C0 T t=some es)
  {l hh:Int} (hl:Bp S 0 lo=some l) (hr:Bp S xs.length hi=some hh) (h0:0<=l) (h1:l<=hh) (h2:hh<=xs.length):Bm F o S (.c (.row false es ((xs.drop l.toNat).take (hh - l).toNat))):=by
 intro ac w σ β hs;have g1:=Q4 hs [] x;rw[hx]at g1;obtain⟨A,cap,e1,hR⟩:=Tl g1;have hcap:xs.length<=cap:=by cases hR with|row=>assumption
 obtain⟨ln,rfl⟩:=Int.eq_ofNat_of_zero_le h0;obtain⟨hn,rfl⟩:=Int.eq_ofNat_of_zero_le (Int.le_trans h0 h1);have r:=Aep hT hes A xs.length cap (lo.map ac.eval) (hi.map ac.eval) ln hn
  ((P5 hs hl).imp (fun⟨a,b⟩=>⟨a,by omega⟩) (fun h=>h)) ((P5 hs hr).imp (fun⟨a,b⟩=>⟨a,by omega⟩) (fun h=>h)) (by omega) (by omega) w
 refine⟨_,by simp only[execOp,h,e1,Option.map_none,Sem.run_bind,r,Result.andThen_ok,Sem.run_pure];rfl,.c (.c ?_)⟩;have e2:(hn:Int) - (ln:Int)=((hn - ln:Nat):Int):=by omega
 grind [Int.toNat_natCast,RC.cut]
def A.cells:A->List V
 | .c v=>[v]
 | .g cs=>cs
 | .t _=>[]
def Dg (x:List V)(j:Nat)(cs:List V):List V:=x.take j++cs++x.drop (j+cs.length)
theorem M0{x cs:List V}{j:Nat}(h:j+cs.length<=x.length):(Dg x j cs).length=x.length:=by
 grind [Dg]
theorem Aer{x cs:List V}{j:Nat}(h:j+cs.length<=x.length)(i:Nat):(Dg x j cs)[i]? =if j<=i/\i<j+cs.length then cs[i - j]? else x[i]? :=by
 unfold Dg;have hl:(x.take j).length=j:=by grind
 grind
def B8 (E:Cx)(cs:List V)(arr:Array Value):Prop:=arr.size=cs.length/\ ∀(i:Nat) v,cs[i]? =some v-> ∃c,arr[i]? =some c/\RV E [] v c
theorem RA.cells{E:Cx}{x:A}{c:Value}(h:RA E x c)(hg: ∀v,x= .c v->v≠ .undef/\v≠ .skip)(ht: ∀xs,x≠ .t xs):B8 E x.cells c.cells:=by
 cases h with
 | @c v c h=>
  obtain⟨h1,h2⟩:=hg v rfl;have:c.cells= #[c]:=by
   cases h with
   |c h=>cases h<;>rfl
   |own=>rfl
   |ptr=>rfl
   |ip=>rfl
   |fn=>rfl
   |skip=>rfl
   |undef=>grind
  rw[this];refine⟨rfl,fun i v' hi=> ?_⟩;cases i with
  |zero=>simp_all[A.cells]
  |succ i=>simp[A.cells]at hi
 |g cs arr hs h=>exact⟨hs,h⟩
 |t xs=>grind
def Dv (pl:Nat->Option (Nat×Nat))(cs:List V):List (Nat×A)->Option (List V)
 |[]=>some cs
 |(i,x)::r=>match pl i with
  |none=>none
  |some (off,n)=>if x.cells.length=n/\off+n<=cs.length then Dv pl (Dg cs off x.cells) r else none
def Cr:A->Bool
 | .c .undef=>false
 | .c .skip=>false
 | .t _=>false
 |_=>true
theorem Cr.cells{E:Cx}{x:A}{c:Value}(h:RA E x c)(hp:Cr x=true):B8 E x.cells c.cells:=
 h.cells (fun v e=>by grind [Cr]) (fun xs e=>by grind [Cr])
theorem Akb (off:Nat): ∀(l:List (Value×Nat)) (arr:Array Value),(∀(p q:Nat) x y,l[p]? =some x->l[q]? =some y->x.2=y.2->p=q)->
  (l.foldl (fun cs (c,j)=>cs.setIfInBounds (off+j) c) arr).size=arr.size/\
  ∀i,i<arr.size->(l.foldl (fun cs (c,j)=>cs.setIfInBounds (off+j) c) arr)[i]? =match l.find? (fun x=>off+x.2==i)with|some x=>some x.1|none=>arr[i]? :=by
 intro l;induction l with
 |nil=>grind
 |cons x r ih=>
  obtain⟨c,j⟩:=x;intro arr hd;obtain⟨h1,h2⟩:=ih (arr.setIfInBounds (off+j) c) (fun p q x y hp hq e=>by have:=hd (p+1) (q+1) x y hp hq e;omega);refine⟨by grind,fun i hi=> ?_⟩;rw[List.foldl_cons,h2 i (by grind),List.find?_cons];by_cases e:off+j=i
  ·simp only[e,beq_self_eq_true];have hn:r.find? (fun x=>off+x.2==i)=none:=by
    rw[List.find?_eq_none];intro y hy;obtain⟨q,hq⟩:=C6.1 hy;intro hyi;simp only[beq_iff_eq]at hyi;have:=hd 0 (q+1) (c,j) y rfl hq (by omega);omega
   grind
  grind
theorem Akc{E:Cx}{cs ds:List V}{arr brr:Array Value}(h:B8 E cs arr)(h2:B8 E ds brr){off:Nat}(hl:off+ds.length<=cs.length):
  B8 E (Dg cs off ds) (brr.zipIdx.foldl (fun cs (c,j)=>cs.setIfInBounds (off+j) c) arr):=by
 have hz:brr.zipIdx.foldl (fun cs (c,j)=>cs.setIfInBounds (off+j) c) arr=brr.toList.zipIdx.foldl (fun cs (c,j)=>cs.setIfInBounds (off+j) c) arr:=by
  grind [Array.toList_zipIdx]
 obtain⟨f1,f2⟩:=Akb off brr.toList.zipIdx arr (fun p q x y hp hq e=>by
  grind)
 rw[hz];refine⟨by rw[f1,h.1,M0 hl],fun i v hi=> ?_⟩;have hilt:i<cs.length:=by rw[<-M0 hl];grind
 rw[f2 i (by rw[h.1];exact hilt)];rw[Aer hl]at hi;split at hi
 ·rename_i hr;obtain⟨c,hc,hv⟩:=h2.2 (i - off) v hi;refine⟨c,?_,hv⟩;have hget:brr.toList.zipIdx[i - off]? =some (c,i - off):=by
   grind
  grind
 ·rename_i hr;have hf:brr.toList.zipIdx.find? (fun x=>off+x.2==i)=none:=by
   rw[List.find?_eq_none];intro y hy;obtain⟨q,hq⟩:=C6.1 hy;rw[List.getElem?_zipIdx]at hq;obtain⟨a,ha,rfl⟩:=Z5.1 hq;have hql:q<brr.size:=by grind
   have:=h2.1
   grind
  rw[hf];exact h.2 i v hi
theorem Tn{E:Cx}(pl:Nat->Option (Nat×Nat)): ∀(l:List (Nat×A)) (ps:List (Nat×Value)) (cs:List V) (arr:Array Value) (out:List V),ps.length=l.length->
  (∀(q i:Nat) (x:A),l[q]? =some (i,x)->Cr x=true/\ ∃c,ps[q]? =some (i,c)/\RA E x c)->B8 E cs arr->Dv pl cs l=some out->
  ∃brr,Instr.fill pl arr ps=some brr/\B8 E out brr:=by
 intro l;induction l with
 |nil=>
  intro ps cs arr out hl _ hc hf;simp only[Dv,Z7]at hf;subst hf;have:ps=[]:=List.eq_nil_of_length_eq_zero (by omega);subst this;exact⟨arr,rfl,hc⟩
 |cons y r ih=>
  obtain⟨i,x⟩:=y;intro ps cs arr out hl hp hc hf;obtain⟨hok,c,hps,hx⟩:=hp 0 i x rfl;obtain⟨ps',rfl⟩: ∃ps',ps=(i,c)::ps':=by
   cases ps with
   |nil=>grind
   |cons z ps'=>
    grind
  rw[Dv]at hf;cases e:pl i with
  |none=>grind
  |some q=>
   obtain⟨off,n⟩:=q;rw[e]at hf;simp only at hf;split at hf
   ·rename_i hcond;have hxc:=Cr.cells hx hok;have hsz:c.cells.size=n:=by rw[hxc.1,hcond.1]
    obtain⟨brr,g1,g2⟩:=ih ps' _ (c.cells.zipIdx.foldl (fun cs (c,j)=>cs.setIfInBounds (off+j) c) arr) out (by grind) (fun q i x hq=>by
     obtain⟨a1,c',a2,a3⟩:=hp (q+1) i x hq
     grind) (Akc hc hxc (by omega)) hf
    refine⟨brr,?_,g2⟩;rw[Instr.fill,e];have: ¬(c.cells.size≠n\/off+c.cells.size>arr.size):=by
     rw[hsz,hc.1];omega
    grind
   grind
def P6 (T:Tab)(t:Nat):Option (List (Nat×Nat)):=
 match tg T t with
 |some i=>match i.k with
  | .struct gs=>gs.mapM fun(off,ft)=>(tg T ft).map fun j=>(off,j.size)
  |_=>none
 |none=>none
theorem Ks{E:Cx}{zs:List V}{cs:List Value}(h:F6 zs cs=true):zs.length=cs.length/\ ∀(i:Nat) v,zs[i]? =some v-> ∃c,cs[i]? =some c/\RV E [] v c:=by
 induction zs generalizing cs with
 |nil=>
  cases cs with
  |nil=>grind
  |cons c r=>simp[F6]at h
 |cons z r ih=>
  cases cs with
  |nil=>simp[F6]at h
  |cons c s=>
   simp only[F6,Z4]at h;obtain⟨h1,h2⟩:=ih h.2;refine⟨by simp[h1],fun i v hi=> ?_⟩;cases i with
   |zero=>
    simp only[E9,Z7]at hi;subst hi;refine⟨c,rfl,?_⟩;have h3:=h.1;cases z with
    |int k n=>cases c<;>simp_all[E3];exact .c (.int _ _ _)
    |bool b=>cases c<;>simp_all[E3];exact .c (.bool _ _)
    |str s=>cases c<;>simp_all[E3];exact .c (.str _ _)
    |row ob es xs=>
     cases ob with
     |false=>grind [E3]
     |true=>
      cases xs with
      |cons=>grind [E3]
      |nil=>
       cases c with
       |slice A n cap=>
        cases A with
        |none=>simp[E3]at h3;obtain⟨rfl,rfl⟩:=h3;exact .c (RC.none _ _ _ _ _ _)
        |some a=>simp[E3]at h3
       |_=>simp[E3]at h3
    |nilp=>
     cases c with
     |pointer a=>cases a with
      |none=>exact .c (.nilp _)
      |some a=>simp[E3]at h3
     |_=>simp[E3]at h3
    |undef=>exact .undef _ _
    |_=>grind [E3]
   |succ i=>grind
theorem Akd{P:Program}{T:Tab}(hT:Av P T)(w:World): ∀(fs:List Field) (pl:List (Nat×Nat)),(fs.map (fun f=>(f.offset,f.type))).mapM (fun(x:Nat×Nat)=>(tg T x.2).map fun j=>(x.1,j.size))=some pl->
  (fs.mapM (fun f=>do pure (f.offset,<-Go.sizeOf f.type)):Sem (List (Nat×Nat))).run P w= .ok pl w:=by
 intro fs;induction fs with
 |nil=>simp_all
 |cons f r ih=>
  intro pl h;simp only[Z8,List.mapM_cons]at h;cases e1:tg T f.type with
  |none=>grind
  |some j=>
   rw[e1]at h;simp only[Du,Option.bind_eq_bind,Z0]at h;cases e2:(r.map (fun f=>(f.offset,f.type))).mapM (fun(x:Nat×Nat)=>(tg T x.2).map fun j=>(x.1,j.size))with
   |none=>grind
   |some pl'=>
    rw[e2]at h;simp only[Z0,Option.pure_def,Z7]at h;subst h;have hsz:=(hT.ty e1).sizeOf w;simp_all
theorem Ake (hT:Av F.P T){t:Nat}{parts:Array (Nat×Operand)}(h:o.op= .build t parts){ti:TI}(ht:tg T t=some ti){pl:List (Nat×Nat)}(hpl:P6 T t=some pl)
  {l:List (Nat×A)} (hl:l.length=parts.size) (hp: ∀(q i:Nat) (x:A),l[q]? =some (i,x)->Cr x=true/\ ∃y sh,parts[q]? =some (i,y)/\S.val sh y=x) {out:List V} (hf:Dv (pl[·]?) ti.zero l=some out):
  Bm F o S (.g out):=by
 intro ac w σ β hs;obtain⟨z,hz,hzc,hz1⟩:=(hT.ty ht).zero w;unfold P6 at hpl;rw[ht]at hpl;cases ek:ti.k with
 |struct gs=>
  simp only[ek]at hpl;obtain⟨fs,u1,u2⟩:=(hT.ty ht).struct ek;have hm:=Akd hT w fs.toList pl (by grind);obtain⟨c1,c2⟩:=Ks (E:=S.cx w σ β) hzc;have hcz:B8 (S.cx w σ β) ti.zero z.cells:=⟨by grind,fun i v hi=>by grind⟩;obtain⟨brr,g1,g2⟩:=Tn (E:=S.cx w σ β) (pl[·]?) l ((parts.map fun(i,x)=>(i,ac.eval x)).toList) ti.zero z.cells out (by simp[hl]) (fun q i x hq=>by
   obtain⟨a1,y,sh,a2,a3⟩:=hp q i x hq;refine⟨a1,ac.eval y,by simp[a2],?_⟩
   grind [Q4]) hcz hf
  have hmm:(fs.mapM (fun f=>do pure (f.offset,<-Go.sizeOf f.type)):Sem (Array (Nat×Nat))).run F.P w= .ok pl.toArray w:=by
   grind [Array.mapM_eq_mapM_toList,Sem.run_map,Result.andThen_ok]
  refine⟨.agg brr,?_,.g out brr g2.1 g2.2⟩;have g1':Instr.fill (fun x=>pl.toArray[x]?) z.cells (parts.map fun(i,x)=>(i,ac.eval x)).toList=some brr:=by
   simp_all
  simp_all[execOp,Instr.build,run_underlying]
 |_=>grind
end
def World.push (w:World)(arr:Array Value)(T:TypeId):World:={w with heap:=w.heap.push (.cells arr T)}
theorem P7 (w:World)(arr:Array Value)(T:TypeId){b:Nat}(h:b<w.heap.size):(World.push w arr T).heap[b]? =w.heap[b]? :=by
 simp only[World.push,Array.getElem?_push]
 grind
theorem Aes (w:World)(arr:Array Value)(T:TypeId):(World.push w arr T).heap[w.heap.size]? =some (.cells arr T (0,0)):=by
 grind [World.push]
theorem P8 (w:World)(arr:Array Value)(T:TypeId):(World.push w arr T).heap.size=w.heap.size+1:=by simp[World.push]
def Hh (E:Cx)(es:Nat)(xs:List (List V))(arr:Array Value):Prop:=
 (∀x∈xs,x.length=es)/\ ∀(k j:Nat) x v,xs[k]? =some x->x[j]? =some v-> ∃c,arr[k*es+j]? =some c/\RV E [] v c
section
variable {F:Fr} {S:St} {a:Act} {w:World} {σ:Nat->List Nat} {β:Nat->Option (Nat×Nat×Nat)}
def St.set (S:St)(id:Nat)(B:Blk):St:=⟨S.env,Aa S.H id (some B),Aa S.nv id (S.nv id+1)⟩
theorem Q1{α:Type}(f:Nat->α)(k:Nat)(v:α):Aa f k v k=v:=by simp[Aa]
theorem Q0{α:Type}(f:Nat->α){k i:Nat}(v:α)(h:i≠k):Aa f k v i=f i:=by simp[Aa,h]
theorem To (id:Nat)(es:Nat)(xs:List (List V))(w':World)(σ':Nat->List Nat){β':Nat->Option (Nat×Nat×Nat)}(hβ: ∀i,i≠id->β' i=β i):
  Cq (S.cx w σ β) ((S.set id ⟨S.nv id,es,xs⟩).cx w' σ' β'):=by
 refine⟨fun i=> ?_,fun i B' h hv=> ?_⟩
 ·show S.nv i<=Aa S.nv id (S.nv id+1) i;by_cases e:i=id
  all_goals simp_all[Q1,Q0]
 ·have h':Aa S.H id (some ⟨S.nv id,es,xs⟩) i=some B':=h;by_cases e:i=id
  ·subst e;rw[Q1]at h';cases h';exact absurd hv (Nat.lt_irrefl _)
  ·rw[Q0 _ _ e]at h';exact⟨B',h',rfl,rfl,rfl,hβ i e⟩
theorem Ac.alloc (hs:Ac F S a w σ β){id:Nat}(hid:F.m<=id){es n:Nat}{xs:List (List V)}{arr:Array Value}(T:TypeId)(hl:Hh (S.cx w σ β) es xs arr)(hn:xs.length<=n)(hsz:n*es<=arr.size):
  Ac F (S.set id ⟨S.nv id,es,xs⟩) a (World.push w arr T) (Aa σ w.heap.size [id]) (Aa β id (some (w.heap.size,0,n))):=by
 have hold: ∀b,b<w.heap.size->(World.push w arr T).heap[b]? =w.heap[b]? /\Aa σ w.heap.size [id] b=σ b:=fun b hb=>⟨P7 w arr T hb,Q0 _ _ (by omega)⟩
 have hnear: ∀p,Bg w σ (World.push w arr T) (Aa σ w.heap.size [id]) p:=fun p b hb _=>hold b hb
 have hext:=To (S:=S) (w:=w) (σ:=σ) (β:=β) id es xs (World.push w arr T) (Aa σ w.heap.size [id]) (β':=Aa β id (some (w.heap.size,0,n))) (fun i hi=>Q0 _ _ hi);have hid0:id≠0:=by grind [mpos]
 refine⟨⟨(Q0 _ _ (fun h=>hid0 h.symm)).trans hs.hr.far,fun i B hB=> ?_,fun b hb=> ?_⟩,hs.mpos,⟨hs.kp.os,hs.kp.tape,hs.kp.output,?_,fun b hb h0=> ?_,fun b hb h0=> ?_⟩,fun i hi=> ?_,fun t=>(hs.env t).mono hext (hnear [])⟩
 ·have h':Aa S.H id (some ⟨S.nv id,es,xs⟩) i=some B:=hB;by_cases e:i=id
  ·subst e;rw[Q1]at h';cases h';refine⟨by show S.nv i<Aa S.nv i (S.nv i+1) i;rw[Q1];omega,?_⟩;refine BR.mk (b:=w.heap.size) (o:=0) (n:=n) (Q1 _ _ _) ⟨Q1 _ _ _,hl.1,hn,arr,T,Aes w arr T,by grind,fun k j x v hk hj=> ?_⟩;obtain⟨c,h1,h2⟩:=hl.2 k j x v hk hj;exact⟨c,by grind,(h2.mono hext (hnear [])).any _⟩
  ·rw[Q0 _ _ e]at h';obtain⟨h1,h2⟩:=hs.hr.blk i B h';refine⟨by show B.ver<Aa S.nv id (S.nv id+1) i;rw[Q0 _ _ e];exact h1,h2.mono hext (Q0 _ _ e) (hnear [i])⟩
 ·have hb':w.heap.size+1<=b:=by rw[<-P8 w arr T];exact hb
  show Aa σ w.heap.size [id] b=[];rw[Q0 _ _ (by omega)];exact hs.hr.new b (by show w.heap.size<=b;omega)
 ·rw[P8];exact Nat.le_succ_of_le hs.kp.size
 ·rw[P7 w arr T (Ee hb hs.kp.size)];exact hs.kp.heap b hb h0
 ·rw[Q0 _ _ (by have:=hs.kp.size;omega)];exact hs.kp.free b hb h0
 grind [Q0,inn]
theorem Jm (id es n:Nat)(xs:List (List V))(w':World)(σ':Nat->List Nat)(β:Nat->Option (Nat×Nat×Nat))(b:Nat)(hn:xs.length<=n)(hm:n<=maxLen):
  RV ((S.set id ⟨S.nv id,es,xs⟩).cx w' σ' (Aa β id (some (b,0,n)))) [] (.own id (S.nv id) 0 xs.length) (.slice (some ⟨b,0,none⟩) xs.length n):=by
 refine .own _ _ _ _ _ _ _ _ rfl ?_ hn hm fun B hB hver=> ?_
 ·show S.nv id<Aa S.nv id (S.nv id+1) id;rw[Q1];omega
 ·have h':Aa S.H id (some ⟨S.nv id,es,xs⟩) id=some B:=hB;rw[Q1]at h';cases h';exact⟨by simp,.inr ⟨b,0,n,Q1 _ _ _,by simp,by omega⟩⟩
theorem Aet (id es n:Nat)(xs:List (List V))(w':World)(σ':Nat->List Nat)(β:Nat->Option (Nat×Nat×Nat))(b:Nat):
  RV ((S.set id ⟨S.nv id,es,xs⟩).cx w' σ' (Aa β id (some (b,0,n)))) [] (.ptr id (S.nv id) 0 0) (.pointer (some ⟨b,0,none⟩)):=by
 refine .ptr _ _ _ _ _ _ ?_ fun B hB hver=>⟨b,0,n,Q1 _ _ _,by simp⟩
 show S.nv id<Aa S.nv id (S.nv id+1) id;rw[Q1];omega
theorem Hh.one{E:Cx}{cs:List V}{arr:Array Value}(h:B8 E cs arr):Hh E cs.length [cs] arr:=by
 refine⟨by simp,fun k j x v hk hj=> ?_⟩;cases k with
 |zero=>
  simp only[E9,Z7]at hk;subst hk;obtain⟨c,h1,h2⟩:=h.2 j v hj
  grind
 |succ k=>simp at hk
end
section
variable {F:Fr} {S:St} {o:Oper} {T:Tab}
theorem P9 (dst:Option Tmp)(id:Nat)(B:Blk)(v:A)(use:List Tmp)(ids:List Nat):S.app dst {v,upd:=[(id,some B)],bump:=[id],use,ids}=(S.set id B).put dst v:=rfl
theorem Ac.putT{S:St}{a:Act}{w:World}{σ β}(hs:Ac F S a w σ β)(hsz:a.tmps.size=F.N){dst:Option Tmp}(hd: ∀d,dst=some d->d<F.N){x:A}{v:Value}(hx:RA (S.cx w σ β) x v):Ac F (S.put dst x) (a.put dst v) w σ β:=
 ⟨hs.hr,hs.mpos,hs.kp,hs.inn,Px hsz hs.env hd hx⟩
theorem Akf{t:TypeId}{x:Operand}(h:o.op= .box t x)(hd: ∀d,o.dst=some d->d<F.N)(sh:List Nat){u:A}(hx:S.val sh x=u)(hu:Cr u=true)(id:Nat)(hid:F.m<=id):
  Ef F o S {v:= .c (.ptr id (S.nv id) 0 0),upd:=[(id,some ⟨S.nv id,u.cells.length,[u.cells]⟩)],bump:=[id],use:=Q2 [x],ids:=[id]}:=by
 intro S' h1 h2 a w hs;obtain⟨hdf,hsz,σ,β,hs⟩:=hs;have hnv:S'.nv id=S.nv id:=(h2 id (by simp)).2;have hu':S'.val sh x=u:=by rw[By (l:=[x]) (by simp) (fun t ht=>h1 t ht),hx]
 have g1:=Q4 hs sh x;rw[hu']at g1;have hc:=Cr.cells g1 hu;have hl:=Hh.one hc;have:=hs.alloc hid (es:=u.cells.length) (n:=1) (xs:=[u.cells]) t hl (by simp) (by rw[hc.1];simp);refine .inl ⟨.pointer (some ⟨w.heap.size,0,none⟩),World.push w (a.eval x).cells t,?_,by grind [Df],by grind [Q7],Aa σ w.heap.size [id],Aa β id (some (w.heap.size,0,1)),?_⟩
 ·simp[execOp,h,Instr.box,newVar,newRow,World.push]
 ·rw[P9,<-hnv];exact this.putT hsz hd (.c (Aet id _ 1 _ _ _ β w.heap.size))
theorem Akg (hT:Av F.P T){t:TypeId}(h:o.op= .alloc t)(hd: ∀d,o.dst=some d->d<F.N){ti:TI}(ht:tg T t=some ti)(id:Nat)(hid:F.m<=id):
  Ef F o S {v:= .c (.ptr id (S.nv id) 0 0),upd:=[(id,some ⟨S.nv id,ti.zero.length,[ti.zero]⟩)],bump:=[id],use:=[],ids:=[id]}:=by
 intro S' h1 h2 a w hs;obtain⟨hdf,hsz,σ,β,hs⟩:=hs;have hnv:S'.nv id=S.nv id:=(h2 id (by simp)).2;obtain⟨z,hz,hzc,hz1⟩:=(hT.ty ht).zero w;obtain⟨c1,c2⟩:=Ks (E:=S'.cx w σ β) hzc;have hcz:B8 (S'.cx w σ β) ti.zero z.cells:=⟨by grind,fun i v hi=>by grind⟩;have:=hs.alloc hid (es:=ti.zero.length) (n:=1) (xs:=[ti.zero]) t (Hh.one hcz) (by simp) (by grind);refine .inl ⟨.pointer (some ⟨w.heap.size,0,none⟩),World.push w z.cells t,?_,by grind [Df],by grind [Q7],Aa σ w.heap.size [id],Aa β id (some (w.heap.size,0,1)),?_⟩
 ·simp[execOp,h,Instr.alloc,hz,newVar,newRow,World.push]
 ·rw[P9,<-hnv];exact this.putT hsz hd (.c (Aet id _ 1 _ _ _ β w.heap.size))
def D7:V->Bool
 | .row true _ _=>true
 |_=>false
def Dw (agg:Bool)(cs:List V):Option A:=
 if agg then some (.g cs)else match cs with|[v]=>some (.c v)|_=>none
theorem Tp{P:Program}{T:Tab}(hT:Av P T){t:Nat}{ti:TI}(ht:tg T t=some ti){w:World}{b off:Nat}{cs:List Value}(hl:cs.length=ti.size)(hagg:ti.k.agg=false->ti.size=1)(h: ∀(j:Nat) v,cs[j]? =some v->w.cell? ⟨b,off+j,none⟩=some v):
  (Instr.loadAt t (.pointer (some ⟨b,off,none⟩))).run P w= .ok (if ti.k.agg then .agg cs.toArray else cs.headD undef) w:=by
 have h1:=(hT.ty ht).isAgg w;have h2:=(hT.ty ht).sizeOf w;have h3:=run_loadCells_list (P:=P) w ⟨b,off,none⟩ cs (fun j v hj=>by grind [Cv]);rw[hl]at h3;simp only[Instr.loadAt,Instr.sureAddr,loadVar,Sem.run_bind,Sem.run_pure,Result.andThen_ok,h1];cases hk:ti.k.agg with
 |true=>simp[h2,h3]
 |false=>
  have hsz:=hagg hk;cases cs with
  |nil=>grind
  |cons c r=>
   have h0:=h 0 c rfl;simp_all
theorem Tq{E:Cx}{agg:Bool}{cs:List V}{vs:List Value}{u:A}(h:Dw agg cs=some u)(hl:vs.length=cs.length)(hv: ∀(j:Nat) v,cs[j]? =some v-> ∃c,vs[j]? =some c/\RV E [] v c):RA E u (if agg then .agg vs.toArray else vs.headD undef):=by
 unfold Dw at h;cases agg with
 |true=>
  simp only[if_true,Z7]at h;subst h;exact .g cs vs.toArray (by omega) (fun i v hi=>by grind)
 |false=>
  simp only[Bool.false_eq_true,if_false]at h
  match cs,h with
  |[v],h=>
   simp only[Z7]at h;subst h;obtain⟨c,h1,h2⟩:=hv 0 v rfl;cases vs with
   |nil=>simp at hl
   |cons c' r=>
    simp only[E9,Z7]at h1;subst h1;exact .c h2
theorem Tr{cs:List V}{n:Nat}(hl:cs.length=n){R:V->Value->Prop}{Q:Nat->Value->Prop}(h: ∀(j:Nat) v,cs[j]? =some v-> ∃c,Q j c/\R v c):
  ∃vs:List Value,vs.length=n/\(∀(j:Nat) c,vs[j]? =some c->Q j c)/\ ∀(j:Nat) v,cs[j]? =some v-> ∃c,vs[j]? =some c/\R v c:=by
 induction cs generalizing n Q with
 |nil=>exact⟨[],by omega,by simp,by simp⟩
 |cons v r ih=>
  obtain⟨c,q,hr⟩:=h 0 v rfl;obtain⟨vs,h1,h2,h3⟩:=ih rfl (Q:=fun j=>Q (j+1)) (fun j v hj=>h (j+1) v hj);refine⟨c::vs,by grind,fun j x hj=> ?_,fun j x hj=> ?_⟩
  all_goals grind
theorem M1{E:Cx}{p:List Nat}{v:V}{c:Value}(h:RV E p v c)(hvT:D7 v=false):RV E [] v c:=by
 cases h with
 |c h=>
  refine .c ?_;cases h with
  |int p k n=>exact .int _ _ _
  |bool p b=>exact .bool _ _
  |str p s=>exact .str _ _
  |nilp p=>exact .nilp _
  |row p o es xs A n cap b off cs hn hcap hmax hA hT hx hc hr=>
   cases o with
   |true=>grind [D7]
   |false=>exact .row _ false es xs A n cap b off cs hn hcap hmax hA (fun h=>by simp at h) hx hc (by grind)
 |own p id ver off len A n cap hn hv hcap hmax h=>exact .own _ _ _ _ _ _ _ _ hn hv hcap hmax h
 |ptr p id ver k j a hv h=>exact .ptr _ _ _ _ _ _ hv h
 |ip p es xs k j b off n cap h=>exact .ip _ _ _ _ _ _ _ _ _ h
 |fn p f caps cs cv hs h1 h2=>exact .fn _ _ _ _ cv hs h1 h2
 |skip p=>exact .skip _
 |undef p v=>exact .undef _ _
theorem Ts (hT:Av F.P T){t:TypeId}{x:Operand}(h:o.op= .load t x)(hd: ∀d,o.dst=some d->d<F.N){ti:TI}(ht:tg T t=some ti){id ver k j:Nat}(hx:S.val [] x= .c (.ptr id ver k j)){B:Blk}(hB:S.H id=some B)(hver:B.ver=ver)
  {y:List V} (hy:B.xs[k]? =some y) (hj:j+ti.size<=y.length) {u:A} (hw:Dw ti.k.agg ((y.drop j).take ti.size)=some u) (hn:((y.drop j).take ti.size).all (fun v=> !D7 v)=true):
  Ef F o S {v:=u,use:=Q2 [x],ids:=[id]}:=by
 refine Bm.step hd _ _ fun S' h1 h2=> ?_;intro ac w σ β hs
 have hx':S'.val [] x= .c (.ptr id ver k j):=by rw[By (l:=[x]) (by simp) (fun t ht=>h1 t ht),hx]
 have hB':S'.H id=some B:=by grind
 have g1:=Q4 hs [] x;rw[hx']at g1;obtain⟨a,e,hv,ha⟩:=Kr g1;obtain⟨b,o',n,e1,rfl⟩:=ha B hB' hver;obtain⟨_,hes,hl,arr,T',hh,hsz,hc⟩:=(hs.hr.blk id B hB').2.some e1;have hylen:y.length=B.es:=hes y (Z6 hy);have hcl:((y.drop j).take ti.size).length=ti.size:=by grind
 have hagg:ti.k.agg=false->ti.size=1:=by
  intro hk;rw[hk]at hw;unfold Dw at hw
  grind
 obtain⟨vs,v1,v2,v3⟩:=Tr hcl (R:=RV (S'.cx w σ β) []) (Q:=fun i c=>w.cell? ⟨b,o'+k*B.es+j+i,none⟩=some c) (fun i v hi=>by
  have hvi:y[j+i]? =some v:=by
   grind
  obtain⟨c,c1,c2⟩:=hc k (j+i) y v hy hvi;refine⟨c,?_,M1 c2 ?_⟩
  ·refine(Cb (w:=w) hh).trans ?_
   grind
  grind)
 exact⟨_,by simp[execOp,h,e,Tp hT ht v1 hagg (fun i v hi=>v2 i v hi)],Tq hw (by omega) v3⟩
theorem Akh (hT:Av F.P T){t:TypeId}{x:Operand}(h:o.op= .load t x)(hd: ∀d,o.dst=some d->d<F.N){ti:TI}(ht:tg T t=some ti){es k j:Nat}{xs:List (List V)}(hx:S.val [] x= .c (.ip es xs k j))
  {y:List V} (hy:xs[k]? =some y) (hj:j+ti.size<=y.length) {u:A} (hw:Dw ti.k.agg ((y.drop j).take ti.size)=some u):
  Ef F o S {v:=u,use:=Q2 [x]}:=by
 refine Bm.step hd _ _ fun S' h1 h2=> ?_;intro ac w σ β hs
 have hx':S'.val [] x= .c (.ip es xs k j):=by rw[By (l:=[x]) (by simp) (fun t ht=>h1 t ht),hx]
 have g1:=Q4 hs [] x;rw[hx']at g1;obtain⟨b,off,n,cap,e,hR⟩:=Tk g1;cases hR with
 |row p ob es xs A n cap b' off' cs hn hcap hmax hA hT' hx hc hr=>
  have hkl:=(Z3.1 hy).1;have e2:=hA (by omega);simp only[Z7,Addr.mk.injEq,and_true]at e2;obtain⟨rfl,rfl⟩:=e2;have hcl:((y.drop j).take ti.size).length=ti.size:=by grind
  have hagg:ti.k.agg=false->ti.size=1:=by
   intro hk;rw[hk]at hw;unfold Dw at hw
   grind
  obtain⟨vs,v1,v2,v3⟩:=Tr hcl (R:=RV (S'.cx w σ β) []) (Q:=fun i c=>w.cell? ⟨b,off+k*es+j+i,none⟩=some c) (fun i v hi=>by
   have hvi:y[j+i]? =some v:=by
    grind
   refine⟨cs k (j+i),?_,.c (by grind)⟩;rw[Gi];exact(hc k (j+i) y v hy hvi).1)
  exact⟨_,by simp[execOp,h,e,Tp hT ht v1 hagg (fun i v hi=>v2 i v hi)],Tq hw (by omega) v3⟩
end
section
variable {F:Fr} {S:St} {a:Act} {w:World} {σ:Nat->List Nat} {β:Nat->Option (Nat×Nat×Nat)}
def St.upd (S:St)(id:Nat)(B:Blk):St:=⟨S.env,Aa S.H id (some B),S.nv⟩
theorem Ac.write (hs:Ac F S a w σ β){id:Nat}{B:Blk}(hB:S.H id=some B){b o n:Nat}(hb:β id=some (b,o,n)){arr arr':Array Value}{T:TypeId}(hh:w.heap[b]? =some (.cells arr T (0,0)))(hsz:arr'.size=arr.size)
  {xs':List (List V)} (hlen:xs'.length=B.xs.length) (hes: ∀x∈xs',x.length=B.es) (hl: ∀(k j:Nat) x v,xs'[k]? =some x->x[j]? =some v-> ∃c,arr'[o+k*B.es+j]? =some c/\RV (S.cx w σ β) [id,k,j] v c):
  Ac F (S.upd id ⟨B.ver,B.es,xs'⟩) a (w.setRow b arr') σ β:=by
 obtain⟨hver,hBR⟩:=hs.hr.blk id B hB;obtain⟨hσ,hes0,hn,arr0,T0,hh0,hsz0,hc0⟩:=hBR.some hb;have e0:arr0=arr/\T0=T:=by
  have h1:w.heap[b]? =some (.cells arr0 T0 (0,0)):=hh0
  grind
 obtain⟨rfl,rfl⟩:=e0;have hother: ∀b',b'≠b->(w.setRow b arr').heap[b']? =w.heap[b']? :=fun b' h=>setRow_other w b b' arr' h
 have hnear: ∀p,¬(p≠[]/\p <+: [id])->Bg w σ (w.setRow b arr') σ p:=by
  intro p hp b' _ hc;refine⟨hother b' (fun e=> ?_),rfl⟩;subst e;have h1:σ b'=[id]:=hσ
  grind
 have hext:Cq (S.cx w σ β) ((S.upd id ⟨B.ver,B.es,xs'⟩).cx (w.setRow b arr') σ β):=by
  refine⟨fun i=>Z9 _,fun i B' h _=> ?_⟩;have h':Aa S.H id (some ⟨B.ver,B.es,xs'⟩) i=some B':=h;by_cases e:i=id
  ·subst e;rw[Q1]at h';cases h';exact⟨B,hB,rfl,rfl,hlen.symm,rfl⟩
  ·rw[Q0 _ _ e]at h';exact⟨B',h',rfl,rfl,rfl,rfl⟩
 have hid0:id≠0:=by rintro rfl;have h0:S.H 0=none:=hs.hr.far;grind
 refine⟨⟨(Q0 _ _ (fun h=>hid0 h.symm)).trans hs.hr.far,fun i B' h=> ?_,fun b' hb'=> ?_⟩,hs.mpos,⟨hs.kp.os,hs.kp.tape,hs.kp.output,?_,fun b' hb' h0=> ?_,hs.kp.free⟩,hs.inn,fun t=>(hs.env t).mono hext (hnear [] (by simp))⟩
 ·have h':Aa S.H id (some ⟨B.ver,B.es,xs'⟩) i=some B':=h;by_cases e:i=id
  ·subst e;rw[Q1]at h';cases h';refine⟨hver,BR.mk hb ⟨hσ,hes,by grind,arr',T0,setRow_heap w b arr0 arr' T0 (0,0) hh,by grind,fun k j x v hk hj=> ?_⟩⟩;obtain⟨c,h1,h2⟩:=hl k j x v hk hj;exact⟨c,h1,h2.mono hext (hnear _ (fun hp=>by grind))⟩
  ·rw[Q0 _ _ e]at h';obtain⟨h1,h2⟩:=hs.hr.blk i B' h';refine⟨h1,h2.mono hext rfl (hnear [i] (fun hp=> ?_))⟩
   grind
 ·exact hs.hr.new b' (by have:(w.setRow b arr').heap.size<=b':=hb';rw[setRow_size]at this;exact this)
 ·rw[setRow_size];exact hs.kp.size
 ·rw[hother b' (fun e=> ?_)]
  ·exact hs.kp.heap b' hb' h0
  ·subst e;have:=hs.kp.free b' hb' h0;have h1:σ b'=[id]:=hσ
   grind
theorem RV.one{E:Cx}{p:List Nat}{v:V}{c:Value}(h:RV E p v c)(h1:v≠ .undef)(h2:v≠ .skip):c.oneCell'=true:=by
 cases h with
 |c h=>cases h<;>rfl
 |own=>rfl
 |ptr=>rfl
 |ip=>rfl
 |fn=>rfl
 |skip=>grind
 |undef=>grind
def Fl (cs:List V):Bool:=cs.all fun v=>match v with| .undef=>false| .skip=>false|_=>true
theorem Fl.at_{cs:List V}(h:Fl cs=true){i:Nat}{v:V}(hi:cs[i]? =some v):v≠ .undef/\v≠ .skip:=by
 have:=Z1.1 h v (Z6 hi)
 grind
theorem B8.vals{E:Cx}{cs:List V}{arr:Array Value}(h:B8 E cs arr)(hok:Fl cs=true): ∀v∈arr.toList,v.oneCell'=true:=by
 intro v hv;obtain⟨i,hi⟩:=C6.1 hv;have hlt:i<cs.length:=by rw[<-h.1];grind
 obtain⟨c,h1,h2⟩:=h.2 i cs[i] (A3 hlt);have:c=v:=by
  grind
 subst this;obtain⟨q1,q2⟩:=Fl.at_ hok (A3 hlt);exact h2.one q1 q2
def An (arr:Array Value)(i:Nat)(vs:List Value):Array Value:=(arr.toList.take i++vs++arr.toList.drop (i+vs.length)).toArray
theorem Dx{arr:Array Value}{i:Nat}{vs:List Value}(h:i+vs.length<=arr.size):(An arr i vs).size=arr.size:=by
 grind [An]
theorem Eh{arr:Array Value}{i:Nat}{vs:List Value}(h:i+vs.length<=arr.size)(k:Nat):(An arr i vs)[k]? =if i<=k/\k<i+vs.length then vs[k - i]? else arr[k]? :=by
 unfold An
 grind
end
section
variable {F:Fr} {S:St} {o:Oper} {T:Tab}
theorem Aki (xs:List (List V))(k:Nat)(y:List V)(i:Nat):(xs.set k y)[i]? =if i=k then(if k<xs.length then some y else none)else xs[i]? :=by
 grind
theorem Tt (hT:Av F.P T){t:TypeId}{x y:Operand}(h:o.op= .store t x y)(hd:o.dst=none){ti:TI}(ht:tg T t=some ti){id ver k j:Nat}(hx:S.val [] x= .c (.ptr id ver k j))(sh:List Nat){u:A}(hy:S.val sh y=u)(hu:Cr u=true)(huc:Fl u.cells=true)(hul:u.cells.length=ti.size)
  {B:Blk} (hB:S.H id=some B) (hver:B.ver=ver) {row:List V} (hr:B.xs[k]? =some row) (hj:j+ti.size<=row.length):
  Ef F o S {v:= .c .undef,upd:=[(id,some ⟨B.ver,B.es,B.xs.set k (Dg row j u.cells)⟩)],use:=Q2 [x,y],ids:=[id]}:=by
 intro S' h1 h2 a w hs;obtain⟨hdf,hsz,σ,β,hs⟩:=hs;have hx':S'.val [] x= .c (.ptr id ver k j):=by rw[By (l:=[x,y]) (by simp) (fun t ht=>h1 t ht),hx]
 have hy':S'.val sh y=u:=by rw[By (l:=[x,y]) (by simp) (fun t ht=>h1 t ht),hy]
 have hB':S'.H id=some B:=by grind
 have g1:=Q4 hs [] x;have g2:=Q4 hs sh y;rw[hx']at g1;rw[hy']at g2;obtain⟨ad,e,hv,ha⟩:=Kr g1;obtain⟨b,o',n,e1,rfl⟩:=ha B hB' hver;obtain⟨hσ,hes,hl,arr,T',hh,hsza,hc⟩:=(hs.hr.blk id B hB').2.some e1;have hcs:=Cr.cells g2 hu;have hrl:row.length=B.es:=hes row (Z6 hr);have hkl:k<B.xs.length:=(Z3.1 hr).1;have hbound:o'+k*B.es+j+(a.eval y).cells.toList.length<=arr.size:=by
  have h3:(k+1)*B.es<=n*B.es:=Bx _ (by omega);rw[D6,Nat.one_mul]at h3;have h4:(a.eval y).cells.toList.length=u.cells.length:=by simpa using hcs.1
  omega
 have hrun:=run_storeCells_at F.P b (o'+k*B.es+j) T' (a.eval y).cells.toList 0 arr w hh (by omega) (hcs.vals huc);have hsize:=(hT.ty ht).sizeOf w;have hover:(arr.toList.take (o'+k*B.es+j+0)++(a.eval y).cells.toList++arr.toList.drop (o'+k*B.es+j+0+(a.eval y).cells.toList.length)).toArray=An arr (o'+k*B.es+j) (a.eval y).cells.toList:=by rfl
 rw[hover]at hrun;have hcl:(a.eval y).cells.toList.length=u.cells.length:=by simpa using hcs.1
 have hw:=hs.write hB' e1 hh (Dx hbound) (xs':=B.xs.set k (Dg row j u.cells)) (by simp) (fun x hx=>by
   grind [M0]) (fun k' j' x v hk' hj'=>by
   rw[Aki]at hk';by_cases ek:k'=k
   ·subst ek;rw[if_pos rfl,if_pos hkl]at hk';cases hk';have hj'l:j'<row.length:=by
     have:=(Z3.1 hj').1
     grind [M0]
    rw[Aer (by omega)]at hj';rw[Eh hbound];split at hj'
    ·rename_i hin;obtain⟨c,c1,c2⟩:=hcs.2 (j' - j) v hj';refine⟨c,?_,c2.any _⟩
     grind
    grind
   ·rw[if_neg ek]at hk';obtain⟨c,c1,c2⟩:=hc k' j' x v hk' hj';refine⟨c,?_,c2⟩;rw[Eh hbound,if_neg]
    ·exact c1
    ·have hj'l:j'<B.es:=by grind
     intro hin;rcases Bj k' k with hlt|hge
     ·have h3:(k'+1)*B.es<=k*B.es:=Bx _ hlt
      grind
     ·have h3:(k+1)*B.es<=k'*B.es:=Bx _ (by omega)
      grind)
 refine .inr (.inl ⟨w.setRow b (An arr (o'+k*B.es+j) (a.eval y).cells.toList),?_,by grind [Df],by grind [Q7],σ,β,?_⟩)
 ·have hsz':(a.eval y).cells.size=ti.size:=by grind
  simp_all[execOp,Instr.storeAt,Instr.sureAddr,storeVar]
 ·rw[hd];exact hw
def Ce (es:Nat):Nat->List V->List (List V)
 |0,_=>[]
 |n+1,l=>l.take es::Ce es n (l.drop es)
theorem Tu (es n:Nat)(l:List V):(Ce es n l).length=n:=by
 induction n generalizing l with
 |zero=>rfl
 |succ n ih=>simp[Ce,ih]
theorem Aeu (es:Nat): ∀(n:Nat) (l:List V) (k:Nat) (x:List V),l.length=n*es->(Ce es n l)[k]? =some x->x.length=es/\ ∀(j:Nat) v,x[j]? =some v->l[k*es+j]? =some v:=by
 intro n;induction n with
 |zero=>grind [Ce]
 |succ n ih=>
  intro l k x hl h;rw[D6,Nat.one_mul]at hl;cases k with
  |zero=>
   grind [Ce]
  |succ k=>
   simp only[Ce,List.getElem?_cons_succ]at h
   grind
theorem Akj{E:Cx}{es n:Nat}{cs:List V}{arr:Array Value}(h:B8 E cs arr)(hl:cs.length=n*es):Hh E es (Ce es n cs) arr:=by
 refine⟨fun x hx=> ?_,fun k j x v hk hj=> ?_⟩
 ·obtain⟨k,hk⟩:=C6.1 hx;exact(Aeu es n cs k x hl hk).1
 ·exact h.2 _ v ((Aeu es n cs k x hl hk).2 j v hj)
def Hi (n:Nat)(z:List V):List V:=(List.replicate n z).flatten
theorem Qa (n:Nat)(z:List V):(Hi n z).length=n*z.length:=by simp[Hi]
theorem Akk{α:Type}(z:List α)(hz:0<z.length): ∀(n i:Nat),i<n*z.length->((List.replicate n z).flatten)[i]? =z[i % z.length]? :=by
 intro n;induction n with
 |zero=>omega
 |succ n ih=>
  intro i h;rw[List.replicate_succ,List.flatten_cons];rcases Bj i z.length with h1|h1
  ·grind [Nat.mod_eq_of_lt]
  ·rw[C4 h1,ih (i - z.length) (by grind),Nat.mod_eq_sub_mod h1]
theorem Akl{E:Cx}{z:List V}{cs:Array Value}(hz:B8 E z cs)(hpos:0<cs.size)(n m:Nat)(hm:m=n*cs.size):B8 E (Hi n z) ((Array.range m).map (cs[· % cs.size]!)):=by
 have hzl:z.length=cs.size:=hz.1.symm;refine⟨by grind [Qa],fun i v hi=> ?_⟩;have hlt:i<n*z.length:=by
  have:=(Z3.1 hi).1
  grind [Qa]
 unfold Hi at hi;rw[Akk z (by omega) n i hlt]at hi;obtain⟨c,c1,c2⟩:=hz.2 _ v hi
 grind
theorem Akm (hT:Av F.P T){t:TypeId}{n:Nat}{parts:Array (Nat×Operand)}(h:o.op= .buildSlice t n parts)(hd: ∀d,o.dst=some d->d<F.N){ti te:TI}{e:Nat}(ht:tg T t=some ti)(hk:ti.k= .slice e)(he:tg T e=some te)(hpos:0<te.size)(hzl:te.zero.length=te.size)(hsmall:n*te.size<=16777216)
  {l:List (Nat×A)} (hl:l.length=parts.size) (hp: ∀(q i:Nat) (x:A),l[q]? =some (i,x)->Cr x=true/\ ∃y sh,parts[q]? =some (i,y)/\S.val sh y=x) {out:List V} (hf:Dv (fun i=>some (i*te.size,te.size)) (Hi n te.zero) l=some out) (id:Nat) (hid:F.m<=id):
  Ef F o S {v:= .c (.own id (S.nv id) 0 n),upd:=[(id,some ⟨S.nv id,te.size,Ce te.size n out⟩)],bump:=[id],use:=Q2 (parts.toList.map (·.2)),ids:=[id]}:=by
 intro S' h1 h2 a w hs;obtain⟨hdf,hsz,σ,β,hs⟩:=hs;have hnv:S'.nv id=S.nv id:=(h2 id (by simp)).2;obtain⟨z,hz,hzc,hz1⟩:=(hT.ty he).zero w;obtain⟨c1,c2⟩:=Ks (E:=S'.cx w σ β) hzc;have hcz:B8 (S'.cx w σ β) te.zero z.cells:=⟨by grind,fun i v hi=>by grind⟩;have hzs:z.cells.size=te.size:=by grind
 have u1:=(hT.ty ht).slice hk;have hsize:=(hT.ty he).sizeOf w;obtain⟨brr,g1,g2⟩:=Tn (E:=S'.cx w σ β) (fun i=>some (i*te.size,te.size)) l ((parts.map fun(i,x)=>(i,a.eval x)).toList) (Hi n te.zero) ((Array.range (n*te.size)).map (z.cells[· % z.cells.size]!)) out (by simp[hl]) (fun q i x hq=>by
  obtain⟨a1,y,sh,a2,a3⟩:=hp q i x hq;refine⟨a1,a.eval y,by simp[a2],?_⟩;rw[<-a3,<-By (S:=S) (S':=S') (l:=parts.toList.map (·.2)) (A8.2 ⟨(i,y),Z6 (by simpa using a2),rfl⟩) (fun t ht=>h1 t ht)]
  grind [Q4]) (Akl hcz (by omega) n _ (by rw[hzs])) hf
 have hol:out.length=n*te.size:=by
  have hfl: ∀(l:List (Nat×A)) (cs out:List V),Dv (fun i=>some (i*te.size,te.size)) cs l=some out->out.length=cs.length:=by
   intro l;induction l with
   |nil=>grind [Dv]
   |cons y r ih=>
    obtain⟨i,x⟩:=y;intro cs out h;rw[Dv]at h;simp only at h;split at h
    ·rename_i hcond;rw[ih _ _ h,M0 (by omega)]
    ·cases h
  grind [Qa]
 have hlaid:=Akj g2 hol;have:=hs.alloc hid (es:=te.size) (n:=n) (xs:=Ce te.size n out) e hlaid (by simp_all[Tu]) (by rw[g2.1,hol];omega);have hmax:n<=maxLen:=by
  have:n<=n*te.size:=Nat.le_mul_of_pos_right _ hpos
  grind [maxLen]
 refine .inl ⟨.slice (some ⟨w.heap.size,0,none⟩) n n,World.push w brr e,?_,by grind [Df],by grind [Q7],Aa σ w.heap.size [id],Aa β id (some (w.heap.size,0,n)),?_⟩
 ·have hns: ¬n*te.size>16777216:=by omega
  have g1':Instr.fill (fun i=>some (i*te.size,te.size)) ((Array.range (n*te.size)).map (z.cells[· % z.cells.size]!)) (parts.map fun(i,x)=>(i,a.eval x)).toList=some brr:=g1;by_cases h0:n*te.size=0
  ·have hn0:n=0:=by
    rcases Nat.mul_eq_zero.1 h0 with h|h
    all_goals omega
   subst hn0;have r0: ∀(f:Nat->Value),(Array.range 0).map f= #[]:=fun f=>by grind
   have g0:Instr.fill (fun i=>some (i*te.size,te.size)) #[] (parts.map fun(i,x)=>(i,a.eval x)).toList=some brr:=by
    grind
   simp only[execOp,h,Instr.buildSlice,Sem.run_bind,run_underlying u1,Result.andThen_ok,hsize,h0,Nat.not_lt_zero,gt_iff_lt,if_false,if_true,Sem.run_pure,r0,g0];rfl
  simp_all[execOp,Instr.buildSlice,run_underlying,newRow,World.push]
 ·rw[P9,<-hnv];have hov:=Jm (S:=S') id te.size n (Ce te.size n out) (World.push w brr e) (Aa σ w.heap.size [id]) β w.heap.size (by simp_all[Tu]) hmax;rw[Tu]at hov;exact this.putT hsz hd (.c hov)
end
theorem Akn{F:Fr}{S:St}{Q:Exit->St->Prop}{x:Operand}{c d:Code}{b:Bool}(hx:S.val [] x= .c (.bool b))(h:W F (if b then c else d) S Q):W F (.cond x c d) S Q:=by
 intro a w hs;have hs0:=hs;obtain⟨_,_,σ,β,h1⟩:=hs;have g1:=Q4 h1 [] x;rw[hx]at g1;have e:a.eval x= .bool b:=Tf ⟨_,g1⟩;cases b with
 |true=>exact wp_cond_true e (h a w hs0)
 |false=>exact wp_cond_false e (h a w hs0)
def A7:List Nat->Nat->Option Nat
 |[],_=>none
 |y::r,x=>if x=y then some 0 else(A7 r x).map (· +1)
theorem Hj{l:List Nat}{x i:Nat}(h:A7 l x=some i):l[i]? =some x:=by
 induction l generalizing i with
 |nil=>simp[A7]at h
 |cons y r ih=>
  simp only[A7]at h;by_cases e:x=y
  ·grind
  ·rw[if_neg e]at h;obtain⟨j,hj,rfl⟩:=Z5.1 h
   grind
theorem Qb{l:List Nat}(hd:l.Nodup){x i:Nat}(h:l[i]? =some x):A7 l x=some i:=by
 induction l generalizing i with
 |nil=>simp at h
 |cons y r ih=>
  have hd':=List.nodup_cons.1 hd;cases i with
  |zero=>grind [A7]
  |succ i=>
   have h':r[i]? =some x:=by grind
   have hne:x≠y:=by grind
   simp[A7,hne,ih hd'.2 h']
mutual
def V.fresh:V->Bool
 | .row o _ xs=>(o||xs.isEmpty)&&Hk xs
 |_=>true
def Hk:List (List V)->Bool
 |[]=>true
 |x::r=>Hl x&&Hk r
def Hl:List V->Bool
 |[]=>true
 |v::r=>v.fresh&&Hl r
end
theorem Ako{l:List V}(h:Hl l=true){i:Nat}{v:V}(hi:l[i]? =some v):v.fresh=true:=by
 induction l generalizing i with
 |nil=>simp at hi
 |cons x r ih=>
  simp only[Hl,Z4]at h
  grind
theorem Akp{l:List (List V)}(h:Hk l=true){i:Nat}{v:List V}(hi:l[i]? =some v):Hl v=true:=by
 induction l generalizing i with
 |nil=>simp at hi
 |cons x r ih=>
  simp only[Hk,Z4]at h
  grind
theorem RC.moveF{w:World}{σ σ':Nat->List Nat}{p:List Nat}{v:V}{c:Value}(h:RC w σ p v c):
  ∀ {p':List Nat},v.fresh=true->(∀b r,p≠[]->σ b=p++r->σ' b=p'++r)->(p≠[]->p'≠[])->RC w σ' p' v c:=by
 induction h with
 |int p k n=>exact fun _ _ _=> .int _ k n
 |bool p b=>exact fun _ _ _=> .bool _ b
 |str p s=>exact fun _ _ _=> .str _ s
 |nilp p=>exact fun _ _ _=> .nilp _
 |row p o es xs A n cap b off cs hn hcap hmax hA hT hx hc hr ih=>
  intro p' hf h1 h2;simp only[V.fresh,Z4,Bool.or_eq_true]at hf;have ho: ∀(k:Nat) (x:List V),xs[k]? =some x->o=true:=by
   grind
  refine .row p' o es xs A n cap b off cs hn hcap hmax hA ?_ hx ?_ ?_
  ·simp_all
  ·grind
  ·intro k j x v hk hj;have h3:= @ih k j x v hk hj;have hot:=ho k x hk;subst hot;have hp:p≠[]:=by
    grind
   simp only[if_true]at h3 ⊢;refine h3 (p':=p'++[k,j]) (Ako (Akp hf.2 hk) hj) (fun b r _ hb=> ?_) (fun _=>by simp)
   grind
def V.closed:V->Bool
 | .int .. | .bool .. | .str .. | .row .. | .nilp=>true
 |_=>false
theorem RV.rc{E:Cx}{p:List Nat}{v:V}{c:Value}(h:RV E p v c)(hc:v.closed=true):RC E.w E.σ p v c:=by
 cases h with
 |c h=>exact h
 |_=>cases hc
def C1 (B:Blk)(off len:Nat):V:= .row false B.es (shareLL ((B.xs.drop off).take len))
def allClosed (B:Blk):Bool:=B.xs.all fun x=>x.all V.closed
def V.cold:V->V
 | .row true es []=> .row false es []
 |v=>v
theorem RV.cold{E:Cx}{p:List Nat}{v:V}{c:Value}(h:RV E p v c):RV E p v.cold c:=by
 unfold V.cold;split
 ·rename_i es;cases h with
  |c h=>
   cases h with
   |row p o es' xs A n cap b off cs hn hcap hmax hA hT hx hc hr=>
    exact .c (.row _ false _ [] A n cap b off cs hn hcap hmax hA (fun h=>by cases h) (by simp) (by simp) (by simp))
 ·exact h
def V.low1 (lent:Bool)(io:List Nat)(H:Nat->Option Blk):V->V
 | .own id ver off len=>match H id with
  |none=> .undef
  |some B=>if B.ver=ver then(match A7 io id with
    |some i=> .own (i+1) 0 off len
    |none=>if lent&&allClosed B then C1 B off len else .undef)else .undef
 | .ptr id ver k j=>match H id with
  |none=> .undef
  |some B=>if B.ver=ver then(match A7 io id with
    |some i=> .ptr (i+1) 0 k j
    |none=>if lent&&allClosed B&&decide (B.xs.length<=maxLen)then .ip B.es (shareLL B.xs) k j else .undef)else .undef
 | .fn f caps=> .undef
 |v=>v
def V.low (lent:Bool)(io:List Nat)(H:Nat->Option Blk):V->V
 | .fn f caps=> .fn f (caps.map (V.low1 lent io H))
 |v=>v.low1 lent io H
def A.low (lent:Bool)(io:List Nat)(H:Nat->Option Blk):A->A
 | .c v=> .c (v.low lent io H).cold
 | .g cs=> .g (cs.map fun v=>(V.low lent io H v).cold)
 | .t _=> .c .undef
def D8 (lent:Bool)(io:List Nat):List Nat->List Nat
 |[]=>[]
 |id::r=>match A7 io id with
  |some i=>(i+1)::r
  |none=>if lent then []else [0]
def C7 (H:List Blk):Nat->Option Blk
 |0=>none
 |i+1=>H[i]?
def Es (io:List Nat)(β:Nat->Option (Nat×Nat×Nat)):Nat->Option (Nat×Nat×Nat)
 |0=>none
 |i+1=>(io[i]?).bind β
def Et (lent:Bool)(io:List Nat)(H:Nat->Option Blk)(B:Blk):Blk:=⟨0,B.es,B.xs.map fun x=>x.map (V.low lent io H)⟩
structure D9 (E E':Cx)(lent:Bool)(io:List Nat)(H:Nat->Option Blk):Prop where
 w:E'.w=E.w
 σ: ∀b,E'.σ b=D8 lent io (E.σ b)
 β: ∀i,E'.β i=Es io E.β i
 look: ∀id B,H id=some B->E.H id=some B
 blk: ∀(i id:Nat) B,io[i]? =some id->H id=some B->E'.H (i+1)=some (Et lent io H B)
 nv: ∀i,E'.nv i=1
 nodup:io.Nodup
 hr:HR E
section
variable {E E':Cx} {lent:Bool} {io:List Nat} {H:Nat->Option Blk}
def Tv (io:List Nat)(p q:List Nat):Prop:=(p=[]/\q=[])\/ ∃id r i,p=id::r/\A7 io id=some i/\q=(i+1)::r
theorem D9.rc (hv:D9 E E' lent io H){p q:List Nat}(hp:Tv io p q){v:V}{c:Value}(h:RC E.w E.σ p v c):RC E'.w E'.σ q v c:=by
 rw[hv.w];refine h.move (fun b hb=>by rw[hv.σ,hb];rfl) (fun b r hne hb=> ?_) (fun hne=> ?_)
 ·rcases hp with ⟨rfl,_⟩|⟨id,r',i,rfl,hi,rfl⟩
  ·grind
  ·rw[hv.σ,hb];simp[D8,hi]
 ·rcases hp with ⟨rfl,_⟩|⟨id,r',i,rfl,hi,rfl⟩
  all_goals grind
theorem Qc{B:Blk}{id b o n:Nat}(h:BR E id B)(hb:E.β id=some (b,o,n))(hcl:allClosed B=true){σ':Nat->List Nat}(hσ: ∀b,b<E.w.heap.size->(E.σ b=[]\/[id] <+: E.σ b)->σ' b=[]){off len cap:Nat}(hl:off+len<=B.xs.length)(hcap:len<=cap)(hmax:cap<=maxLen):
  ∀q,RC E.w σ' q (C1 B off len) (.slice (some ⟨b,o+off*B.es,none⟩) len cap):=by
 obtain⟨hs,hes,hln,arr,T,hh,hsz,hc⟩:=h.some hb;have hcv: ∀(k j:Nat) x v,B.xs[k]? =some x->x[j]? =some v->v.closed=true:=fun k j x v hk hj=>
  Z1.1 (Z1.1 hcl x (Z6 hk)) v (Z6 hj)
 intro q;have hget: ∀(k j:Nat) x v,(shareLL ((B.xs.drop off).take len))[k]? =some x->x[j]? =some v-> ∃x0 v0,B.xs[off+k]? =some x0/\x0[j]? =some v0/\v=v0.share:=by
  intro k j x v hk hj;rw[F3,As]at hk
  grind
 refine .row q false B.es _ (some ⟨b,o+off*B.es,none⟩) len cap b (o+off*B.es) (fun k j=>(arr[o+(off+k)*B.es+j]?).getD undef) ?_ hcap hmax (fun _=>rfl) (fun h=>by cases h) ?_ ?_ ?_
 ·grind [F3]
 ·intro x hx;rw[F3]at hx
  grind
 ·intro k j x v hk hj;obtain⟨x0,v0,h1,h2,rfl⟩:=hget k j x v hk hj;obtain⟨c,h3,h4⟩:=hc (off+k) j x0 v0 h1 h2;refine⟨?_,fun _=>hσ b (Kl hh) (.inr (by grind))⟩;rw[Cb hh,show o+off*B.es+k*B.es+j=o+(off+k)*B.es+j by grind,h3];rfl
 ·intro k j x v hk hj;obtain⟨x0,v0,h1,h2,rfl⟩:=hget k j x v hk hj;obtain⟨c,h3,h4⟩:=hc (off+k) j x0 v0 h1 h2;rw[h3];refine(h4.rc (hcv _ _ _ _ h1 h2)).share (fun b' hb' hor=>hσ b' hb' ?_) _;exact hor.imp (fun h=>h) fun⟨_,h⟩=>List.IsPrefix.trans ⟨[off+k,j],rfl⟩ h
theorem D9.lentσ (hv:D9 E E' true io H){id:Nat}(hid:A7 io id=none): ∀b,b<E.w.heap.size->(E.σ b=[]\/[id] <+: E.σ b)->E'.σ b=[]:=by
 intro b _ h;rw[hv.σ];rcases h with h|⟨r,h⟩
 all_goals grind [D8]
theorem Jg.at_{id off cap es:Nat}{A:Option Addr}(h:Jg E id off cap es A)(h0:0<cap): ∃b o n,E.β id=some (b,o,n)/\A=some ⟨b,o+off*es,none⟩/\off+cap<=n:=h.resolve_left (by omega)
theorem D9.low1 (hv:D9 E E' lent io H){p q:List Nat}(hp:Tv io p q){v:V}{c:Value}(h:RV E p v c):RV E' q (v.low1 lent io H) c:=by
 have hβ: ∀ {id i:Nat},A7 io id=some i->E'.β (i+1)=E.β id:=by
  intro id i hi;rw[hv.β];simp[Es,Hj hi]
 cases h with
 |c h=>
  have:V.low1 lent io H v=v:=by cases h<;>rfl
  rw[this];exact RV.c (hv.rc hp h)
 |own p id ver off len A n cap hn hver hcap hmax h=>
  simp only[V.low1];cases e:H id with
  |none=>exact .undef _ _
  |some B=>
   simp only;by_cases ev:B.ver=ver
   ·rw[if_pos ev];obtain⟨h1,h2⟩:=h B (hv.look id B e) ev;cases ei:A7 io id with
    |some i=>
     simp only;refine .own _ _ _ _ _ _ _ _ hn (by grind [nv]) hcap hmax fun B' hB' _=> ?_
     rw[hv.blk i id B (Hj ei) e]at hB';cases hB';refine⟨by grind [Et],?_⟩;rcases h2 with h2|⟨b,o,m,h3,h4,h5⟩
     ·exact .inl h2
     ·exact .inr ⟨b,o,m,by grind,h4,h5⟩
    |none=>
     simp only;cases el:(lent&&allClosed B)with
     |false=>exact .undef _ _
     |true=>
      rw[if_pos rfl];simp only[Z4]at el;obtain⟨rfl,el⟩:=el;refine .c ?_;have hBR:=(hv.hr.blk id B (hv.look id B e)).2;rw[hv.w];rcases Cz cap with h0|h0
      ·simp_all[RC.none,C1,shareLL]
      grind [Jg.at_,Qc,lentσ]
   ·rw[if_neg ev];exact .undef _ _
 |ptr p id ver k j a hver h=>
  simp only[V.low1];cases e:H id with
  |none=>exact .undef _ _
  |some B=>
   simp only;by_cases ev:B.ver=ver
   ·rw[if_pos ev];obtain⟨b,o,m,h3,h4⟩:=h B (hv.look id B e) ev;cases ei:A7 io id with
    |some i=>
     simp only;refine .ptr _ _ _ _ _ _ (by grind [nv]) fun B' hB' _=> ?_
     rw[hv.blk i id B (Hj ei) e]at hB';cases hB';exact⟨b,o,m,by grind,h4⟩
    |none=>
     simp only;cases el:(lent&&allClosed B&&decide (B.xs.length<=maxLen))with
     |false=>exact .undef _ _
     |true=>
      rw[if_pos rfl];simp only[Z4,decide_eq_true_eq]at el;obtain⟨⟨rfl,el⟩,hm⟩:=el;have hBR:=(hv.hr.blk id B (hv.look id B e)).2;have:=Qc hBR h3 el (hv.lentσ ei) (off:=0) (len:=B.xs.length) (cap:=B.xs.length) (by omega) (Z9 _) hm [];rw[h4];refine .ip _ _ _ _ _ _ _ B.xs.length B.xs.length ?_
      grind [w,C1]
   ·rw[if_neg ev];exact .undef _ _
 |ip p es xs k j b off n cap h=>
  exact .ip _ _ _ _ _ _ _ _ _ (hv.rc (.inl ⟨rfl,rfl⟩) h)
 |fn p f caps cs cv hs h1 h2=>exact .undef _ _
 |skip p=>exact .skip _
 |undef p v=>exact .undef _ _
theorem D9.low (hv:D9 E E' lent io H){p q:List Nat}(hp:Tv io p q){v:V}{c:Value}(h:RV E p v c):RV E' q (v.low lent io H) c:=by
 cases h with
 |fn p f caps cs cv hs h1 h2=>
  refine .fn _ _ _ _ cv (by grind) (fun i v hi=> ?_) (fun i v hi=> ?_)
  ·grind
  ·rw[As]at hi;obtain⟨v0,h3,rfl⟩:=Z5.1 hi;exact hv.low1 (.inl ⟨rfl,rfl⟩) (h2 i v0 h3)
 |c h=>
  have:=hv.low1 hp (.c h);cases h<;>exact this
 |own p id ver off len A n cap hn hver hcap hmax h=>exact hv.low1 hp (.own _ _ _ _ _ _ _ _ hn hver hcap hmax h)
 |ptr p id ver k j a hver h=>exact hv.low1 hp (.ptr _ _ _ _ _ _ hver h)
 |ip p es xs k j b off n cap h=>exact hv.low1 hp (.ip _ _ _ _ _ _ _ _ _ h)
 |skip p=>exact .skip _
 |undef p v=>exact .undef _ _
theorem D9.lowA (hv:D9 E E' lent io H){x:A}{c:Value}(h:RA E x c):RA E' (x.low lent io H) c:=by
 cases h with
 |c h=>exact .c (hv.low (.inl ⟨rfl,rfl⟩) h).cold
 |g cs arr hs h=>
  refine .g _ _ (by grind) fun i v hi=> ?_
  rw[As]at hi;obtain⟨v0,h3,rfl⟩:=Z5.1 hi;obtain⟨c,h1,h2⟩:=h i v0 h3;exact⟨c,h1,(hv.low (.inl ⟨rfl,rfl⟩) h2).cold⟩
 |t xs arr cv hs h1 h2=>exact .c (.undef _ _)
theorem D9.br (hv:D9 E E' lent io H){i id:Nat}{B:Blk}(hi:io[i]? =some id)(h:BR E id B):BR E' (i+1) (Et lent io H B):=by
 have hp:=Qb hv.nodup hi;have hβ:E'.β (i+1)=E.β id:=by rw[hv.β];simp[Es,hi]
 cases e:E.β id with
 |none=>
  refine .mk_void (hβ.trans e) ?_
  grind [BR.void,Et]
 |some q=>
  obtain⟨b,o,n⟩:=q;obtain⟨hs,hes,hln,arr,T,hh,hsz,hc⟩:=h.some e;refine .mk (hβ.trans e) ⟨by rw[hv.σ,hs];simp[D8,hp],?_,by grind [Et],arr,T,by grind [w],hsz,?_⟩
  ·simp_all[Et]
  ·intro k j x v hk hj;simp only[Et,As]at hk;obtain⟨x0,h1,rfl⟩:=Z5.1 hk;rw[As]at hj;obtain⟨v0,h2,rfl⟩:=Z5.1 hj;obtain⟨c,h3,h4⟩:=hc k j x0 v0 h1 h2;exact⟨c,h3,hv.low (.inr ⟨id,[k,j],i,rfl,hp,rfl⟩) h4⟩
end
def Sp (P:Program)(f:FuncId)(args:List A)(H0:List Blk)(res:A)(H1:List Blk):Prop:=
 ∀(vals:Array Value) (w:World) (σ:Nat->List Nat) (β:Nat->Option (Nat×Nat×Nat)),
  HR ⟨w,σ,β,C7 H0,fun _=>1⟩->vals.size=args.length->(∀(i:Nat) x,args[i]? =some x-> ∃v,vals[i]? =some v/\RA ⟨w,σ,β,C7 H0,fun _=>1⟩ x v)->
  Calls P f vals w fun e w'=> ∃v σ' β',e= .returned v/\Kp w σ w' σ'/\(∀i,i<=H0.length->β' i=β i)/\H0.length<=H1.length/\HR ⟨w',σ',β',C7 H1,fun _=>1⟩/\RA ⟨w',σ',β',C7 H1,fun _=>1⟩ res v
def A.lowT (lent:Bool)(io:List Nat)(H:Nat->Option Blk):A->A
 | .t xs=> .t (xs.map (A.low lent io H))
 |x=>x.low lent io H
theorem D9.lowT{E E':Cx}{lent:Bool}{io:List Nat}{H:Nat->Option Blk}(hv:D9 E E' lent io H){x:A}{c:Value}(h:RA E x c):RA E' (x.lowT lent io H) c:=by
 cases h with
 |t xs arr cv hs h1 h2=>
  refine .t _ _ cv (by grind) (fun i v hi=> ?_) (fun i v hi=> ?_)
  ·grind
  ·rw[As]at hi;obtain⟨v0,h3,rfl⟩:=Z5.1 hi
   grind [lowA]
 |c h=>exact hv.lowA (.c h)
 |g cs arr hs h=>exact hv.lowA (.g cs arr hs h)
def C8 (T:Tab)(S:St):ResultVar->Option A
 | .tmp t=>some (S.env t)
 | .cell a t=>match tg T t,S.env a with
  |some ti,.c (.ptr id ver k j)=>match S.H id with
   |some B=>match B.xs[k]? with
    |some y=>if B.ver=ver/\j+ti.size<=y.length/\((y.drop j).take ti.size).all (fun v=> !D7 v)=true then Dw ti.k.agg ((y.drop j).take ti.size)else none
    |none=>none
   |none=>none
  |_,_=>none
def Tw (tmps:Array Value):ResultVar->Sem Value
 | .tmp t=>pure (tmps.getD t undef)
 | .cell a t=>do loadVar t (<-asAddr (tmps.getD a undef))
def Kt (vs:Array Value):Value:=if h:vs.size=1 then vs[0]else .tuple vs
theorem Akq (fn:Func)(tmps:Array Value):results fn tmps=(fn.results.mapM (Tw tmps)>>=fun vs=>pure (Kt vs)):=by
 rfl
theorem F8{F:Fr}{T:Tab}(hT:Av F.P T){S:St}{a:Act}{w:World}{σ:Nat->List Nat}{β:Nat->Option (Nat×Nat×Nat)}(hs:Ac F S a w σ β){r:ResultVar}{u:A}(h:C8 T S r=some u):
  ∃v,(Tw a.tmps r).run F.P w= .ok v w/\RA (S.cx w σ β) u v:=by
 cases r with
 |tmp t=>
  simp only[C8,Z7]at h;subst h;exact⟨_,by rfl,hs.env t⟩
 |cell x t=>
  simp only[C8]at h;cases et:tg T t with
  |none=>grind
  |some ti=>
   rw[et]at h;have g1:=hs.env x
   match ev:S.env x,h with
   | .c (.ptr id ver k j),h=>
    simp only at h;rw[ev]at g1;cases eB:S.H id with
    |none=>grind
    |some B=>
     rw[eB]at h;simp only at h;cases ey:B.xs[k]? with
     |none=>grind
     |some y=>
      rw[ey]at h;simp only at h;by_cases hc:B.ver=ver/\j+ti.size<=y.length/\((y.drop j).take ti.size).all (fun v=> !D7 v)=true
      ·rw[if_pos hc]at h;obtain⟨hver,hj,hn⟩:=hc;obtain⟨ad,e,hv,ha⟩:=Kr g1;obtain⟨b,o',n,e1,rfl⟩:=ha B eB hver;obtain⟨_,hes,hl,arr,T',hh,hsz,hcc⟩:=(hs.hr.blk id B eB).2.some e1;have hcl:((y.drop j).take ti.size).length=ti.size:=by grind
       have hagg:ti.k.agg=false->ti.size=1:=by
        intro hk;rw[hk]at h;unfold Dw at h
        grind
       obtain⟨vs,v1,v2,v3⟩:=Tr hcl (R:=RV (S.cx w σ β) []) (Q:=fun i c=>w.cell? ⟨b,o'+k*B.es+j+i,none⟩=some c) (fun i v hi=>by
        have hvi:y[j+i]? =some v:=by
         grind
        obtain⟨c,c1,c2⟩:=hcc k (j+i) y v ey hvi;refine⟨c,?_,M1 c2 ?_⟩
        ·refine(Cb (w:=w) hh).trans ?_
         grind
        grind)
       have hl2:=Tp hT et v1 hagg (fun i v hi=>v2 i v hi);refine⟨_,?_,Tq h (by omega) v3⟩;rw[<-hl2];simp only[Tw];rw[show a.tmps.getD x undef= .pointer (some ⟨b,o'+k*B.es+j,none⟩) from e];rfl
      grind
def Hm (T:Tab)(S:St)(l:List ResultVar):Option A:=
 match l with
 |[r]=>C8 T S r
 |l=>(l.mapM (C8 T S)).map A.t
theorem Akr{F:Fr}{T:Tab}(hT:Av F.P T){S:St}{a:Act}{w:World}{σ:Nat->List Nat}{β:Nat->Option (Nat×Nat×Nat)}(hs:Ac F S a w σ β){fn:Func}{l:List ResultVar}(hl:fn.results=l.toArray)(hlen:l.length<=4){u:A}(h:Hm T S l=some u):
  ∃v,(results fn a.tmps).run F.P w= .ok v w/\RA (S.cx w σ β) u v:=by
 rw[Akq]
 match l,hl,hlen,h with
 |[],hl,_,h=>
  simp only[Hm,List.mapM_nil]at h;cases h;exact⟨.tuple #[],by simp[hl,Kt],.t [] #[] (fun _=>default) rfl (fun i v hi=>by simp at hi) (fun i v hi=>by simp at hi)⟩
 |[r],hl,_,h=>
  obtain⟨v,h1,h2⟩:=F8 hT hs h;exact⟨v,by simp[hl,Kt,h1],h2⟩
 |[r,s],hl,_,h=>
  simp only[Hm,List.mapM_cons,List.mapM_nil]at h;cases e1:C8 T S r with
  |none=>grind
  |some x1=>
  cases e2:C8 T S s with
  |none=>grind
  |some x2=>
  rw[e1,e2]at h;simp at h;subst h;obtain⟨v1,h1,g1⟩:=F8 hT hs e1;obtain⟨v2,h2,g2⟩:=F8 hT hs e2;refine⟨.tuple #[v1,v2],by simp[hl,Kt,h1,h2],.t _ _ (fun i=>match i with|0=>v1|_=>v2) rfl (fun i v hi=> ?_) (fun i v hi=> ?_)⟩
  all_goals grind
 |[r,s,t],hl,_,h=>
  simp only[Hm,List.mapM_cons,List.mapM_nil]at h;cases e1:C8 T S r with
  |none=>grind
  |some x1=>
  cases e2:C8 T S s with
  |none=>grind
  |some x2=>
  cases e3:C8 T S t with
  |none=>grind
  |some x3=>
  rw[e1,e2,e3]at h;simp at h;subst h;obtain⟨v1,h1,g1⟩:=F8 hT hs e1;obtain⟨v2,h2,g2⟩:=F8 hT hs e2;obtain⟨v3,h3,g3⟩:=F8 hT hs e3;refine⟨.tuple #[v1,v2,v3],by simp[hl,Kt,h1,h2,h3],.t _ _ (fun i=>match i with|0=>v1|1=>v2|_=>v3) rfl (fun i v hi=> ?_) (fun i v hi=> ?_)⟩
  all_goals grind
 |[r,s,t,q],hl,_,h=>
  simp only[Hm,List.mapM_cons,List.mapM_nil]at h;cases e1:C8 T S r with
  |none=>grind
  |some x1=>
  cases e2:C8 T S s with
  |none=>grind
  |some x2=>
  cases e3:C8 T S t with
  |none=>grind
  |some x3=>
  cases e4:C8 T S q with
  |none=>simp_all
  |some x4=>
  rw[e1,e2,e3,e4]at h;simp at h;subst h;obtain⟨v1,h1,g1⟩:=F8 hT hs e1;obtain⟨v2,h2,g2⟩:=F8 hT hs e2;obtain⟨v3,h3,g3⟩:=F8 hT hs e3;obtain⟨v4,h4,g4⟩:=F8 hT hs e4;refine⟨.tuple #[v1,v2,v3,v4],by simp[hl,Kt,h1,h2,h3,h4],.t _ _ (fun i=>match i with|0=>v1|1=>v2|2=>v3|_=>v4) rfl (fun i v hi=> ?_) (fun i v hi=> ?_)⟩
  all_goals grind
def Qd (outs:List Nat)(H:Nat->Option Blk):List Blk:=outs.map fun id=>match H id with|some B=>Et false outs H B|none=>default
def Qe (args:List A)(H0:List Blk):St:=⟨fun t=>(args[t]?).getD (.c .undef),C7 H0,fun _=>1⟩
def Qg (T:Tab)(l:List ResultVar)(n0:Nat)(res:A)(H1:List Blk)(e:Exit)(S:St):Prop:=
 (e= .normal\/e= .ret)/\ ∃outs u,outs.Nodup/\(∀i,i<n0->outs[i]? =some (i+1))/\(∀id∈outs,(S.H id).isSome=true)/\Hm T S l=some u/\u.lowT false outs S.H=res/\Qd outs S.H=H1
theorem Aks{outs:List Nat}{H:Nat->Option Blk}(h0:H 0=none)(h: ∀id∈outs,(H id).isSome=true):A7 outs 0=none:=by
 cases e:A7 outs 0 with
 |none=>rfl
 |some i=>
  have:=h 0 (Z6 (Hj e))
  grind
theorem Sp.of_W{P:Program}{T:Tab}(hT:Av P T){f:FuncId}{fn:Func}{c:Code}{args:List A}{H0:List Blk}{res:A}{H1:List Blk}{l:List ResultVar}(hf:P.funcs[f]? =some fn)(hb:fn.body=some c)(hl:fn.results=l.toArray)(hlen:l.length<=4)(hN:args.length<=fn.ntmps)
  (h: ∀F:Fr,F.P=P->F.N=fn.ntmps->F.m=H0.length+1->W F c (Qe args H0) (Qg T l H0.length res H1)):Sp P f args H0 res H1:=by
 intro vals w σ β hr hsz hv;refine calls_of_wp hf hb ?_
 let F:Fr:=⟨P,fn.ntmps,w,σ,β,H0.length+1⟩
 have hs:RS F (Qe args H0) {tmps:=vals++Array.replicate (fn.ntmps - vals.size) undef,defers:=[]} w:=by
  refine⟨rfl,by grind,σ,β,⟨hr,Nat.succ_pos _,Kp.refl _ _,fun i _=>rfl,fun t=> ?_⟩⟩;show RA _ ((args[t]?).getD (.c .undef)) _;rcases Bj t args.length with ht|ht
  ·obtain⟨v,h1,h2⟩:=hv t args[t] (A3 ht);rw[A3 ht];have:(vals++Array.replicate (fn.ntmps - vals.size) undef).getD t undef=v:=by
    simp_all[Array.getElem?_append_left]
   rw[this];exact h2
  ·rw[Pw ht];exact .c (.undef _ _)
 refine wp_mono (h F rfl rfl rfl _ _ hs) ?_;rintro e a' w' ⟨S,⟨he,outs,u,hnd,hio,hlive,hres,hu,hH1⟩,hd,hsz',σ',β',hx⟩;obtain⟨v,hv1,hv2⟩:=Akr (F:=F) hT hx hl hlen hres;have h0:S.H 0=none:=hx.hr.far;have hp0:=Aks h0 hlive;have hview:D9 (S.cx w' σ' β') ⟨w',fun b=>D8 false outs (σ' b),Es outs β',C7 H1,fun _=>1⟩ false outs S.H:=by
  refine⟨rfl,fun _=>rfl,fun _=>rfl,fun _ _ h=>h,fun i id B hi hB=> ?_,fun _=>rfl,hnd,hx.hr⟩;show H1[i]? =_
  grind [Qd]
 have hfin: ∃σ'' β'',Kp w σ w' σ''/\(∀i,i<=H0.length->β'' i=β i)/\H0.length<=H1.length/\HR ⟨w',σ'',β'',C7 H1,fun _=>1⟩/\RA ⟨w',σ'',β'',C7 H1,fun _=>1⟩ res v:=by
  refine⟨fun b=>D8 false outs (σ' b),fun i=>if i=0 then β 0 else Es outs β' i,?_,?_,?_,?_,?_⟩
  ·refine⟨hx.kp.os,hx.kp.tape,hx.kp.output,hx.kp.size,hx.kp.heap,fun b hb hc=> ?_⟩;have:σ' b=σ b:=hx.kp.free b hb hc
   grind [D8]
  ·intro i hi;cases i with
   |zero=>rfl
   |succ i=>
    show Es outs β' (i+1)=β (i+1);simp only[Es,hio i (by omega),Z0];exact hx.inn (i+1) (by grind)
  ·rw[<-hH1];unfold Qd
   grind
  ·refine⟨rfl,fun i B hB=> ?_,fun b hb=> ?_⟩
   ·cases i with
    |zero=>cases hB
    |succ i=>
     have hB':H1[i]? =some B:=hB;rw[<-hH1]at hB';unfold Qd at hB';rw[As]at hB';obtain⟨id,hid,hB2⟩:=Z5.1 hB';have:=hlive id (Z6 hid);cases eB:S.H id with
     |none=>grind
     |some B0=>
      rw[eB]at hB2;simp only at hB2;subst hB2;refine⟨Nat.zero_lt_one,?_⟩;have:=hview.br hid (hx.hr.blk id B0 eB).2;exact this.mono (⟨fun _=>Z9 _,fun id B' hB' _=>⟨B',hB',rfl,rfl,rfl,by
       show(if id=0 then β 0 else Es outs β' id)=Es outs β' id;rw[if_neg];rintro rfl;cases hB'⟩⟩) (by rfl) (fun b _ _=>⟨rfl,rfl⟩)
   ·show D8 false outs (σ' b)=[];rw[show σ' b=[] from hx.hr.new b hb];rfl
  ·rw[<-hu];refine(hview.lowT hv2).mono ⟨fun _=>Z9 _,fun id B' hB' _=>⟨B',hB',rfl,rfl,rfl,?_⟩⟩ (fun b _ _=>⟨rfl,rfl⟩);show(if id=0 then β 0 else Es outs β' id)=Es outs β' id;rw[if_neg];rintro rfl;cases hB'
 obtain⟨σ'',β'',r⟩:=hfin;rcases he with rfl|rfl
 ·exact⟨hd,v,hv1,v,σ'',β'',rfl,r⟩
 ·exact⟨hd,v,hv1,v,σ'',β'',rfl,r⟩
def V.back (lent:Bool)(outs:List Nat)(ν:Nat->Nat):V->V
 | .own 0 _ _ _=> .undef
 | .own (i+1) _ off len=>match outs[i]? with
  |some id=> .own id (ν id) off len
  |none=> .undef
 | .ptr 0 _ _ _=> .undef
 | .ptr (i+1) _ k j=>match outs[i]? with
  |some id=> .ptr id (ν id) k j
  |none=> .undef
 | .row o es xs=>if lent&& !(V.row o es xs).fresh then .undef else .row o es xs
 | .ip es xs k j=>if lent then .undef else .ip es xs k j
 | .fn f []=> .fn f []
 | .fn _ (_::_)=> .undef
 |v=>v
def A.back (lent:Bool)(outs:List Nat)(ν:Nat->Nat):A->A
 | .c v=> .c (v.back lent outs ν)
 | .g cs=> .g (cs.map (V.back lent outs ν))
 | .t _=> .c .undef
def A.backT (lent:Bool)(outs:List Nat)(ν:Nat->Nat):A->A
 | .t xs=> .t (xs.map (A.back lent outs ν))
 |x=>x.back lent outs ν
def Cf (S:St):List Nat->List Bool->Nat->Nat
 |id::r,k::ks,x=>if x=id then(if k then(match S.H id with|some B=>B.ver|none=>0)else S.nv id)else Cf S r ks x
 |_,_,_=>0
def Fb (lent:Bool)(outs:List Nat)(ν:Nat->Nat):List Nat->List Blk->List (Nat×Option Blk)
 |id::r,B::Bs=>(id,some ⟨ν id,B.es,B.xs.map fun x=>x.map (V.back lent outs ν)⟩)::Fb lent outs ν r Bs
 |_,_=>[]
def F9:List Nat->List Bool->List Nat
 |id::r,k::ks=>if k then F9 r ks else id::F9 r ks
 |_,_=>[]
theorem Aev{H:Nat->Option Blk}{l:List (Nat×Option Blk)}{id:Nat}(h: ∀p∈l,p.1≠id):Bn H l id=H id:=by
 induction l generalizing H with
 |nil=>rfl
 |cons p r ih=>
  obtain⟨i,B⟩:=p;show Bn (Aa H i B) r id=H id;rw[ih (fun p hp=>h p (by simp[hp]))];exact Q0 _ _ (fun e=>h (i,B) (by simp) e.symm)
theorem Aew (lent:Bool)(outs:List Nat)(ν:Nat->Nat)(l:List Nat)(Bs:List Blk): ∀p∈Fb lent outs ν l Bs,p.1∈l:=by
 induction l generalizing Bs with
 |nil=>grind [Fb]
 |cons id r ih=>
  intro p hp;cases Bs with
  |nil=>simp[Fb]at hp
  |cons B Bs=>
   grind [Fb]
theorem Aex (H:Nat->Option Blk)(lent:Bool)(outs:List Nat)(ν:Nat->Nat){l:List Nat}(hd:l.Nodup){Bs:List Blk}{i id:Nat}{B:Blk}(hi:l[i]? =some id)(hB:Bs[i]? =some B):
  Bn H (Fb lent outs ν l Bs) id=some ⟨ν id,B.es,B.xs.map fun x=>x.map (V.back lent outs ν)⟩:=by
 induction l generalizing H Bs i with
 |nil=>simp at hi
 |cons x r ih=>
  have hd':=List.nodup_cons.1 hd;cases Bs with
  |nil=>simp at hB
  |cons B0 Bs=>
   cases i with
   |zero=>
    simp only[E9,Z7]at hi hB;subst hi;subst hB;show Bn (Aa H x _) (Fb lent outs ν r Bs) x=_;rw[Aev (fun p hp e=>hd'.1 (by grind [Aew]))];exact Q1 _ _ _
   |succ i=>
    exact ih _ hd'.2 (by simpa using hi) (by grind)
theorem Ku (nv:Nat->Nat)(l:List Nat)(id:Nat):nv id<=Do nv l id:=by
 induction l generalizing nv with
 |nil=>exact Z9 _
 |cons x r ih=>
  refine Dn ?_ (ih (Aa nv x (nv x+1)));by_cases e:id=x
  all_goals simp_all[Q1,Q0]
theorem Aey (nv:Nat->Nat){l:List Nat}{id:Nat}(h:id∈l):nv id<Do nv l id:=by
 induction l generalizing nv with
 |nil=>cases h
 |cons x r ih=>
  show nv id<Do (Aa nv x (nv x+1)) r id;by_cases e:id=x
  all_goals grind [Ku,Aa]
theorem Qh{S:St}{l:List Nat}(hd:l.Nodup){ks:List Bool}{i id:Nat}{k:Bool}(hi:l[i]? =some id)(hk:ks[i]? =some k):
  Cf S l ks id=(if k then(match S.H id with|some B=>B.ver|none=>0)else S.nv id)/\(k=false->id∈F9 l ks):=by
 induction l generalizing ks i with
 |nil=>simp at hi
 |cons x r ih=>
  have hd':=List.nodup_cons.1 hd;cases ks with
  |nil=>simp at hk
  |cons k0 ks=>
   cases i with
   |zero=>
    grind [Cf,F9]
   |succ i=>
    have h1:r[i]? =some id:=by grind
    have hne:id≠x:=by grind
    obtain⟨h2,h3⟩:=ih hd'.2 h1 (by simpa using hk);refine⟨by simp_all[Cf],fun h=> ?_⟩;cases k0
    ·exact Pv _ (h3 h)
    ·exact h3 h
def St.called (S:St)(lent:Bool)(outs:List Nat)(keep:List Bool)(H1:List Blk):St:=
 ⟨S.env,Bn S.H (Fb lent outs (Cf S outs keep) outs H1),Do S.nv (F9 outs keep)⟩
def Tx (outs:List Nat):List Nat->List Nat
 |[]=>[]
 |0::_=>[]
 |(i+1)::r=>match outs[i]? with
  |some id=>id::r
  |none=>[]
def Jn (io:List Nat):List Nat->Bool
 |[]=>true
 |id::_=>(A7 io id).isNone
theorem Tz{lent:Bool}{io:List Nat}{p:List Nat}(h:Jn io p=true):D8 lent io p=[]\/D8 lent io p=[0]:=by
 cases p with
 |nil=>exact .inl rfl
 |cons id r=>
  grind [Jn,D8]
structure Gl (E1 E':Cx)(lent:Bool)(outs:List Nat)(H1:List Blk)(ν:Nat->Nat):Prop where
 w:E'.w=E1.w
 look:E1.H=C7 H1
 nv1: ∀i,E1.nv i=1
 s0:lent=false-> ∀b,E1.σ b=[]->E'.σ b=[]
 s1: ∀(b i:Nat) (r:List Nat) (id:Nat),E1.σ b=(i+1)::r->outs[i]? =some id->E'.σ b=id::r
 len:outs.length=H1.length
 ver: ∀(i:Nat) (B:Blk),H1[i]? =some B->B.ver=0
 blk: ∀(i id:Nat) (B:Blk),outs[i]? =some id->H1[i]? =some B->E'.H id=some ⟨ν id,B.es,B.xs.map fun x=>x.map (V.back lent outs ν)⟩
 β: ∀(i id:Nat),outs[i]? =some id->E'.β id=E1.β (i+1)
 nv: ∀(i id:Nat),outs[i]? =some id->ν id<E'.nv id
def upP (outs:List Nat)(p q:List Nat):Prop:=(p=[]/\q=[])\/ ∃i r id,p=(i+1)::r/\outs[i]? =some id/\q=id::r
section
variable {E1 E':Cx} {lent:Bool} {outs:List Nat} {H1:List Blk} {ν:Nat->Nat}
theorem Gl.rc (h:Gl E1 E' lent outs H1 ν){p q:List Nat}(hp:upP outs p q){v:V}{c:Value}(hl:lent=false\/v.fresh=true)(hr:RC E1.w E1.σ p v c):RC E'.w E'.σ q v c:=by
 rw[h.w];have h1: ∀b r,p≠[]->E1.σ b=p++r->E'.σ b=q++r:=by
  intro b r hne hb;rcases hp with ⟨rfl,_⟩|⟨i,r',id,rfl,hi,rfl⟩
  ·grind
  grind [s1]
 have h2:p≠[]->q≠[]:=by
  intro hne;rcases hp with ⟨rfl,_⟩|⟨i,r',id,rfl,hi,rfl⟩
  all_goals grind
 grind [RC.move,s0,RC.moveF]
theorem Gl.rv (h:Gl E1 E' lent outs H1 ν){p q:List Nat}(hp:upP outs p q){v:V}{c:Value}(hr:RV E1 p v c):RV E' q (v.back lent outs ν) c:=by
 have hH: ∀ {i id:Nat},outs[i]? =some id-> ∃B,H1[i]? =some B:=by
  intro i id hi;have:=(Z3.1 hi).1;rw[h.len]at this;simp_all
 cases hr with
 |c hr=>
  have key: ∀v,(lent=false\/v.fresh=true)->RC E1.w E1.σ p v c->RV E' q v c:=fun v hl hr=> .c (h.rc hp hl hr);cases hr with
  |int p k n=>exact .c (.int _ _ _)
  |bool p b=>exact .c (.bool _ _)
  |str p s=>exact .c (.str _ _)
  |nilp p=>exact .c (.nilp _)
  |row p o es xs A n cap b off cs hn hcap hmax hA hT hx hc hr=>
   simp only[V.back];cases e:(lent&& !(V.row o es xs).fresh)with
   |true=>exact .undef _ _
   |false=>
    simp only[Bool.false_eq_true,if_false];refine key _ ?_ (.row p o es xs A n cap b off cs hn hcap hmax hA hT hx hc hr)
    grind
 |own p id ver off len A n cap hn hver hcap hmax hb=>
  cases id with
  |zero=>exact .undef _ _
  |succ i=>
   simp only[V.back];cases e:outs[i]? with
   |none=>exact .undef _ _
   |some id=>
    obtain⟨B,hB⟩:=hH e;rw[h.nv1]at hver;have hv0:ver=0:=by omega
    obtain⟨h3,h4⟩:=hb B (by rw[h.look];exact hB) (by grind [ver]);refine .own _ _ _ _ _ _ _ _ hn (h.nv i id e) hcap hmax fun B' hB' _=> ?_;rw[h.blk i id B e hB]at hB';cases hB';refine⟨by grind,?_⟩
    rcases h4 with h4|⟨b,o,m,h5,h6,h7⟩
    ·exact .inl h4
    ·exact .inr ⟨b,o,m,by grind [β],h6,h7⟩
 |ptr p id ver k j a hver hb=>
  cases id with
  |zero=>exact .undef _ _
  |succ i=>
   simp only[V.back];cases e:outs[i]? with
   |none=>exact .undef _ _
   |some id=>
    obtain⟨B,hB⟩:=hH e;rw[h.nv1]at hver;have hv0:ver=0:=by omega
    obtain⟨b,o,m,h5,h6⟩:=hb B (by rw[h.look];exact hB) (by grind [ver]);refine .ptr _ _ _ _ _ _ (h.nv i id e) fun B' hB' _=> ?_;rw[h.blk i id B e hB]at hB'
    grind [β]
 |ip p es xs k j b off n cap hb=>
  simp only[V.back];cases e:lent with
  |true=>exact .undef _ _
  |false=>
   simp only[Bool.false_eq_true,if_false];exact .ip _ _ _ _ _ _ _ _ _ (h.rc (.inl ⟨rfl,rfl⟩) (.inl e) hb)
 |fn p f caps cs cv hs h1 h2=>
  cases caps with
  |nil=>exact .fn _ _ _ _ cv hs h1 (fun i v hi=>by simp at hi)
  |cons x r=>exact .undef _ _
 |skip p=>exact .skip _
 |undef p v=>exact .undef _ _
theorem Gl.ra (h:Gl E1 E' lent outs H1 ν){x:A}{c:Value}(hr:RA E1 x c):RA E' (x.back lent outs ν) c:=by
 cases hr with
 |c hr=>exact .c (h.rv (.inl ⟨rfl,rfl⟩) hr)
 |g cs arr hs hc=>
  refine .g _ _ (by grind) fun i v hi=> ?_
  rw[As]at hi;obtain⟨v0,h3,rfl⟩:=Z5.1 hi;obtain⟨c,h1,h2⟩:=hc i v0 h3;exact⟨c,h1,h.rv (.inl ⟨rfl,rfl⟩) h2⟩
 |t xs arr cv hs h1 h2=>exact .c (.undef _ _)
theorem Gl.raT (h:Gl E1 E' lent outs H1 ν){x:A}{c:Value}(hr:RA E1 x c):RA E' (x.backT lent outs ν) c:=by
 cases hr with
 |c hr=>exact h.ra (.c hr)
 |g cs arr hs hc=>exact h.ra (.g cs arr hs hc)
 |t xs arr cv hs h1 h2=>
  refine .t _ _ cv (by grind) (fun i v hi=> ?_) (fun i v hi=> ?_)
  ·grind
  ·rw[As]at hi;obtain⟨v0,h3,rfl⟩:=Z5.1 hi
   grind [ra]
end
theorem Ac.called{F:Fr}{S:St}{a:Act}{w w':World}{σ σ1:Nat->List Nat}{β β1:Nat->Option (Nat×Nat×Nat)}(hs:Ac F S a w σ β)
  {lent:Bool} {io outs:List Nat} {keep:List Bool} {H1:List Blk} (hnd:outs.Nodup) (hio: ∀i,i<io.length->outs[i]? =io[i]?) (hlive: ∀id∈io,(S.H id).isSome=true)
  (hnew: ∀j id,io.length<=j->outs[j]? =some id->F.m<=id) (hlen:outs.length=H1.length) (hkl:keep.length=outs.length)
  (hkeep: ∀i,keep[i]? =some true->i<io.length/\ ∀id B B',outs[i]? =some id->S.H id=some B->H1[i]? =some B'->B.es=B'.es/\B.xs.length=B'.xs.length)
  (kp:Kp w (fun b=>D8 lent io (σ b)) w' σ1) (hβ: ∀i,i<=io.length->β1 i=Es io β i) (hr:HR ⟨w',σ1,β1,C7 H1,fun _=>1⟩):
  ∃σn βn,Ac F (S.called lent outs keep H1) a w' σn βn/\ ∀x c,RA ⟨w',σ1,β1,C7 H1,fun _=>1⟩ x c->RA ((S.called lent outs keep H1).cx w' σn βn) (x.backT lent outs (Cf S outs keep)) c:=by
 let σn:Nat->List Nat:=fun b=>if b<w.heap.size/\Jn io (σ b)=true then σ b else Tx outs (σ1 b)
 let βn:Nat->Option (Nat×Nat×Nat):=fun id=>match A7 outs id with|some i=>β1 (i+1)|none=>β id
 have hold: ∀b,b<w.heap.size->Jn io (σ b)=true->w'.heap[b]? =w.heap[b]? /\σ1 b=D8 lent io (σ b)/\σn b=σ b:=fun b hb hn=>
  ⟨kp.heap b hb (Tz hn),kp.free b hb (Tz hn),if_pos ⟨hb,hn⟩⟩
 have hcases: ∀b,(b<w.heap.size/\Jn io (σ b)=true)\/σn b=Tx outs (σ1 b):=fun b=>by
  grind
 have hβn: ∀i id,outs[i]? =some id->βn id=β1 (i+1):=fun i id hi=>by
  show(match A7 outs id with|some i=>β1 (i+1)|none=>β id)=_
  rw[Qb hnd hi]
 have hβo: ∀id,id ∉ outs->βn id=β id:=fun id hi=>by
  grind [Hj]
 have hβio: ∀i id,i<io.length->outs[i]? =some id->βn id=β id:=fun i id hi ho=>by
  grind [Es]
 have hHo: ∀id,id ∉ outs->(S.called lent outs keep H1).H id=S.H id:=fun id hi=>by
  exact Aev (fun p hp e=>hi (by grind [Aew]))
 have hkat: ∀i id,outs[i]? =some id-> ∃k,keep[i]? =some k:=fun i id hi=>by
  have:=(Z3.1 hi).1;rw[<-hkl]at this;exact⟨_,A3 this⟩
 have hH0:S.H 0=none:=hs.hr.far;have hni: ∀(id:Nat) b,id ∉ io->(σ b=[]\/[id] <+: σ b)->Jn io (σ b)=true:=by
  intro id b hid h;rcases h with h|⟨r,h⟩
  ·rw[h];rfl
  ·rw[<-h];show(A7 io id).isNone=true;cases e:A7 io id with
   |none=>rfl
   |some i=>exact absurd (Z6 (Hj e)) hid
 have hiosub: ∀id,id∈io->id∈outs:=fun id h=>by
  obtain⟨i,hi⟩:=C6.1 h
  grind
 have hnear0:Bg w σ w' σn []:=fun b hb hc=>by
  grind
 have hnear1: ∀id,id ∉ outs->Bg w σ w' σn [id]:=fun id hid b hb hc=>by
  grind
 have hext:Cq (S.cx w σ β) ((S.called lent outs keep H1).cx w' σn βn):=by
  refine⟨fun id=>Ku _ _ _,fun id B' hB' hver=> ?_⟩;have hB2:(S.called lent outs keep H1).H id=some B':=hB';by_cases hid:id∈outs
  ·obtain⟨i,hi⟩:=C6.1 hid;have hil:=(Z3.1 hi).1;obtain⟨k,hk⟩:=hkat i id hi;have hB1:H1[i]? =some H1[i]:=A3 (by omega);have:=Aex S.H lent outs (Cf S outs keep) hnd hi hB1;have e2:B'=⟨Cf S outs keep id,H1[i].es,H1[i].xs.map fun x=>x.map (V.back lent outs (Cf S outs keep))⟩:=by
    have h3:(S.called lent outs keep H1).H id=_:=this
    grind
   obtain⟨hv1,hv2⟩:=Qh (S:=S) hnd hi hk;cases k with
   |false=>
    rw[e2]at hver;have hver':Cf S outs keep id<S.nv id:=hver
    grind
   |true=>
    obtain⟨h4,h5⟩:=hkeep i hk;have hin:id∈io:=Z6 (by rw[<-hio i h4,hi]);have:=hlive id hin;cases eB:S.H id with
    |none=>grind
    |some B=>
     obtain⟨h6,h7⟩:=h5 id B _ hi eB hB1;refine⟨B,eB,?_,?_,?_,hβio i id h4 hi⟩
     all_goals grind
  ·rw[hHo id hid]at hB2;exact⟨B',hB2,rfl,rfl,rfl,hβo id hid⟩
 have hback:Gl ⟨w',σ1,β1,C7 H1,fun _=>1⟩ ((S.called lent outs keep H1).cx w' σn βn) lent outs H1 (Cf S outs keep):=by
  refine⟨rfl,rfl,fun _=>rfl,fun hl b hb=> ?_,fun b i r id hb hi=> ?_,hlen,fun i B hB=> ?_,fun i id B hi hB=>Aex _ _ _ _ hnd hi hB,hβn,fun i id hi=> ?_⟩
  ·show σn b=[];have hb':σ1 b=[]:=hb;rcases hcases b with ⟨h1,h2⟩|h
   ·obtain⟨_,h4,h5⟩:=hold b h1 h2;rw[h5];rw[hb']at h4;cases e:σ b with
    |nil=>rfl
    |cons id r=>
     grind [D8]
   ·rw[h,hb'];rfl
  ·show σn b=id::r
   grind [Tz,Tx]
  ·have:=(hr.blk (i+1) B hB).1
   grind
  ·obtain⟨k,hk⟩:=hkat i id hi;obtain⟨hv1,hv2⟩:=Qh (S:=S) hnd hi hk;show Cf S outs keep id<Do S.nv (F9 outs keep) id;cases k with
   |false=>
    simp_all[Aey]
   |true=>
    obtain⟨h4,_⟩:=hkeep i hk;have hin:id∈io:=Z6 (by rw[<-hio i h4,hi]);have:=hlive id hin;cases eB:S.H id with
    |none=>grind
    |some B=>
     rw[hv1,eB];exact Ee (hs.hr.blk id B eB).1 (Ku _ _ _)
 have h0out:0 ∉ outs:=by
  intro h;obtain⟨j,hj⟩:=C6.1 h;rcases Bj j io.length with h1|h1
  all_goals grind [mpos]
 refine⟨σn,βn,⟨⟨(hHo 0 h0out).trans hH0,fun id B hB=> ?_,fun b hb=> ?_⟩,hs.mpos,?_,fun i hi=> ?_,fun t=>(hs.env t).mono hext hnear0⟩,fun x c h=>hback.raT h⟩
 ·have hB2:(S.called lent outs keep H1).H id=some B:=hB;by_cases hid:id∈outs
  ·obtain⟨i,hi⟩:=C6.1 hid;have hil:=(Z3.1 hi).1;have hB1:H1[i]? =some H1[i]:=A3 (by omega);have:=hback.blk i id _ hi hB1;have e2:B=⟨Cf S outs keep id,H1[i].es,H1[i].xs.map fun x=>x.map (V.back lent outs (Cf S outs keep))⟩:=by
    grind
   rw[e2];refine⟨hback.nv i id hi,?_⟩;have hbr:=(hr.blk (i+1) H1[i] hB1).2;cases eβ:β1 (i+1)with
   |none=>
    have h4:=hbr.void eβ;exact .mk_void ((hβn i id hi).trans eβ) (by simp[h4])
   |some q=>
    obtain⟨b,o,n⟩:=q;obtain⟨q1,q2,q3,arr,T,q4,q5,q6⟩:=hbr.some eβ;refine .mk ((hβn i id hi).trans eβ) ⟨hback.s1 b i [] id q1 hi,?_,by grind,arr,T,q4,q5,fun k j x v hk hj=> ?_⟩
    ·grind
    ·simp only[As]at hk;obtain⟨x0,h1,rfl⟩:=Z5.1 hk;rw[As]at hj;obtain⟨v0,h2,rfl⟩:=Z5.1 hj;obtain⟨c,h3,h4⟩:=q6 k j x0 v0 h1 h2;exact⟨c,h3,hback.rv (.inr ⟨i,[k,j],id,rfl,hi,rfl⟩) h4⟩
  ·rw[hHo id hid]at hB2;obtain⟨h1,h2⟩:=hs.hr.blk id B hB2;exact⟨Ee h1 (Ku _ _ _),h2.mono hext (hβo id hid) (hnear1 id hid)⟩
 ·have hb':w'.heap.size<=b:=hb;have hsz:=kp.size;show σn b=[];rcases hcases b with ⟨h1,h2⟩|h
  ·omega
  ·rw[h,show σ1 b=[] from hr.new b hb'];rfl
 ·have hk:=hs.kp;have hni2: ∀b,b<F.w0.heap.size->(F.σ0 b=[]\/F.σ0 b=[0])->Jn io (σ b)=true:=by
   grind [Kp.free]
  refine⟨kp.os.trans hk.os,kp.tape.trans hk.tape,kp.output.trans hk.output,Dn hk.size kp.size,fun b hb hc=> ?_,fun b hb hc=> ?_⟩
  ·exact(hold b (Ee hb hk.size) (hni2 b hb hc)).1.trans (hk.heap b hb hc)
  ·exact(hold b (Ee hb hk.size) (hni2 b hb hc)).2.2.trans (hk.free b hb hc)
 ·by_cases hid:i∈outs
  ·obtain⟨j,hj⟩:=C6.1 hid
   grind [inn]
  grind [inn]
def Cg (P:Program)(f:FuncId):Prop:= ∃fn,P.funcs[f]? =some fn/\(fn.name== "runtime.NumGoroutine")=false/\fn.body.isNone=false
theorem Ae0{P:Program}{f:FuncId}(h:Cg P f)(args:Array Value)(w:World):(callFunc f args).run P w= .ok (.enter f args) w:=by
 obtain⟨fn,h1,h2,h3⟩:=h;have e:(callFunc f args)=(program>>=fun p=>match p.funcs[f]? with
  |none=>stuck "call: no such function"
  |some fn=>
   if fn.name== "runtime.NumGoroutine" then pure .numGoroutine
   else if fn.body.isNone then do
    mark (.extern f)
    if let some e:=Extern.findNext fn then return <-e args
    match Extern.find fn with
    |some e=>pure (.value (<-e args))
    |none=>
     if fn.name.endsWith ".init" && !fn.name.startsWith "(" && !fn.name.startsWith "gosem." then pure (.value (.tuple #[]))
     else unsupported (.extern fn.name)
   else pure (.enter f args)):=rfl
 rw[e];have h2':fn.name≠ "runtime.NumGoroutine" :=by grind
 have h3':fn.body≠none:=by grind
 simp_all
def Cw (L:List Nat)(H:Nat->Option Blk):Nat->Option Blk:=fun id=>if id∈L then H id else none
def Ga (S:St)(xs:Array Operand)(caps:List V):List A:=xs.toList.map (S.val [])++caps.map A.c
def Qi (lent:Bool)(io:List Nat)(H:Nat->Option Blk):List Blk:=io.map fun id=>match H id with|some B=>Et lent io H B|none=>default
theorem Akt{F:Fr}{S:St}{o:Oper}{x:Operand}{xs:Array Operand}{ats:Array TypeId}(h:o.op= .call ⟨.value x,xs,ats⟩)(hd: ∀d,o.dst=some d->d<F.N)
  {f:FuncId} {caps:List V} (hx:S.val [] x= .c (.fn f caps)) (hf:Cg F.P f)
  (lent:Bool) (io news L:List Nat) (keep:List Bool) {args:List A} {H0:List Blk} {res:A} {H1:List Blk} (hsp:Sp F.P f args H0 res H1)
  (hargs:(Ga S xs caps).map (A.low lent io (Cw L S.H))=args) (hH0:Qi lent io (Cw L S.H)=H0)
  (hnd:(io++news).Nodup) (hlive: ∀id∈io,(Cw L S.H id).isSome=true) (hL: ∀id∈io++news,id∈L)
  (hnew: ∀id∈news,F.m<=id) (hlen:(io++news).length=H1.length) (hkl:keep.length=(io++news).length)
  (hkeep: ∀i,keep[i]? =some true->i<io.length/\ ∀id B B',(io++news)[i]? =some id->S.H id=some B->H1[i]? =some B'->B.es=B'.es/\B.xs.length=B'.xs.length):
  Ef F o S {v:=res.backT lent (io++news) (Cf S (io++news) keep),upd:=Fb lent (io++news) (Cf S (io++news) keep) (io++news) H1,bump:=F9 (io++news) keep,use:=Q2 (x::xs.toList),ids:=L}:=by
 intro S' h1 h2 a w hs;obtain⟨hdf,hsz,σ,β,hs⟩:=hs;have hval: ∀y∈x::xs.toList,S'.val [] y=S.val [] y:=fun y hy=>By hy (fun t ht=>h1 t ht) []
 have hHL: ∀id∈L,S'.H id=S.H id:=fun id hi=>(h2 id hi).1
 have honly:Cw L S'.H=Cw L S.H:=by
  funext id;unfold Cw
  grind
 have g1:=Q4 hs [] x;rw[hval x (by simp),hx]at g1;obtain⟨cs,cv,ecs,hcs,hcap1,hcap2⟩: ∃(cs:Array Value) (cv:Nat->Value),a.eval x= .func (.func f) #[] cs/\cs.size=caps.length/\(∀(i:Nat) v,caps[i]? =some v->cs[i]? =some (cv i))/\ ∀(i:Nat) v,caps[i]? =some v->RV (S'.cx w σ β) [] v (cv i):=by
  generalize a.eval x=c at g1;cases B7 g1 with
  |c h=>cases h
  |fn _ _ _ cs cv q1 q2 q3=>exact⟨cs,cv,rfl,q1,q2,q3⟩
 have hargv:Ga S' xs caps=Ga S xs caps:=by
  grind [Ga,List.map_congr_left]
 let vals:Array Value:=xs.map a.eval++cs
 have hrun:(execOp a.eval o).run F.P w= .ok (.enter f vals) w:=by
  have e1:execOp a.eval o=(do let d <-resolve a.eval ⟨.value x,xs,ats⟩ o.type;invoke d.target d.args):=by grind [execOp]
  grind [resolve,Deferred.ofValue,invoke,Ae0]
 let E':Cx:=⟨w,fun b=>D8 lent io (σ b),Es io β,C7 H0,fun _=>1⟩
 have hview:D9 (S'.cx w σ β) E' lent io (Cw L S.H):=by
  refine⟨rfl,fun _=>rfl,fun _=>rfl,fun id B hB=> ?_,fun i id B hi hB=> ?_,fun _=>rfl,(List.nodup_append.1 hnd).1,hs.hr⟩
  ·rw[<-honly]at hB;unfold Cw at hB;split at hB
   ·exact hB
   grind
  ·show H0[i]? =_
   grind [Qi]
 have hargs2: ∀(i:Nat) y,args[i]? =some y-> ∃v,vals[i]? =some v/\RA E' y v:=by
  intro i y hy;rw[<-hargs,As]at hy;obtain⟨u,hu,rfl⟩:=Z5.1 hy;rw[<-hargv]at hu;unfold Ga at hu;rcases Bj i xs.size with hi|hi
  ·rw[D5 (by grind),As]at hu;obtain⟨z,hz,rfl⟩:=Z5.1 hu;refine⟨a.eval z,?_,hview.lowA (Q4 hs [] z)⟩
   grind
  ·rw[C4 (by grind),As]at hu;obtain⟨z,hz,rfl⟩:=Z5.1 hu;simp only[Bi,Array.length_toList]at hz;refine⟨cv (i - xs.size),?_,hview.lowA (.c (hcap2 _ z hz))⟩
   grind
 have hvsz:vals.size=args.length:=by
  grind [Ga]
 have hlive': ∀id∈io,(S'.H id).isSome=true:=fun id hi=>by
  simp_all[Cw]
 have hHR:HR E':=by
  refine⟨rfl,fun i B hB=> ?_,fun b hb=> ?_⟩
  ·cases i with
   |zero=>cases hB
   |succ i=>
    have hB':H0[i]? =some B:=hB;rw[<-hH0]at hB';unfold Qi at hB';rw[As]at hB';obtain⟨id,hid,hB2⟩:=Z5.1 hB';have:=hlive id (Z6 hid);cases eB:Cw L S.H id with
    |none=>grind
    |some B0=>
     rw[eB]at hB2;simp only at hB2;subst hB2;exact⟨Nat.zero_lt_one,hview.br hid (hs.hr.blk id B0 (hview.look id B0 eB)).2⟩
  ·show D8 lent io (σ b)=[];rw[show σ b=[] from hs.hr.new b hb];rfl
 refine .inr (.inr ⟨f,vals,w,hrun,?_⟩);refine Calls.mono (hsp vals w _ _ hHR hvsz hargs2) ?_;rintro e w' ⟨v,σ',β',rfl,kp,hβ',hlen01,hr',hres⟩;refine⟨v,rfl,?_⟩;have hlio:H0.length=io.length:=by grind [Qi]
 have hver:Cf S' (io++news) keep=Cf S (io++news) keep:=by
  funext id;have: ∀(l:List Nat) (ks:List Bool),(∀y∈l,y∈L)->Cf S' l ks id=Cf S l ks id:=by
   intro l;induction l with
   |nil=>intro ks _;rfl
   |cons y r ih=>
    intro ks hl;cases ks with
    |nil=>rfl
    |cons k ks=>
     simp only[Cf]
     grind
  grind
 obtain⟨σn,βn,hfin,hback⟩:=hs.called (w':=w') (σ1:=σ') (β1:=β') (lent:=lent) (io:=io) (outs:=io++news) (keep:=keep) (H1:=H1) hnd
  (fun i hi=>D5 hi) hlive' (fun j id hj ho=>hnew id (by
   grind)) hlen hkl (fun i hk=>by
   grind) kp (fun i hi=>hβ' i (by omega)) hr'
 have hfin2:=hfin.putT hsz hd (hback _ _ hres);refine⟨by grind [Df],by grind [Q7],σn,βn,?_⟩;rw[hver]at hfin2;unfold St.called at hfin2;rw[hver]at hfin2;exact hfin2
structure Bh (F:Fr)(T:Tab):Prop where
 m:F.m<=100
 tab:Av F.P T
def T3 (F:Fr)(o:Oper):Prop:= ∀d,o.dst=some d->d<F.N
def Ai (F:Fr)(T:Tab)(o:Oper)(S:St)(r:Rec):Prop:=Bh F T->T3 F o->Ef F o S r
def VT (F:Fr)(T:Tab)(ops:Array Oper)(i:Nat)(S:St)(l:List Oper)(K:List Rec->St->Prop):Prop:=
 Bh F T->Mw F ops->ops.toList.drop i=l-> ∃rs S',Jh F ops (List.range' i l.length) S rs S'/\K rs S'
theorem Ef.more{F:Fr}{o:Oper}{S:St}{r:Rec}(h:Ef F o S r)(us:List Tmp):Ef F o S {r with use:=us++r.use}:=
 fun S' h1 h2=>h S' (fun t ht=>h1 t (List.mem_append_right _ ht)) h2
section
variable {F:Fr} {T:Tab} {ops:Array Oper} {i:Nat} {S:St} {o:Oper} {l:List Oper} {K:List Rec->St->Prop} {r:Rec}
theorem T4 (h:ops.toList.drop i=o::l):ops[i]? =some o/\ops.toList.drop (i+1)=l:=by
 constructor
 ·have:(ops.toList.drop i)[0]? =some o:=by grind
  grind
 ·have:=congrArg (List.drop 1) h
  grind [List.drop_drop]
theorem VT.cons (hs:ops[i]? =some o->Bh F T->T3 F o->Fk F ops i S r)(k:VT F T ops (i+1) (S.app o.dst r) l (fun rs S'=>K (r::rs) S')):VT F T ops i S (o::l) K:=by
 intro he hf hl;obtain⟨h1,h2⟩:=T4 hl;obtain⟨rs,S',t,hk⟩:=k he hf h2;refine⟨r::rs,S',?_,hk⟩;have hdst:Bk ops i=o.dst:=by simp[Bk,h1]
 exact .cons (hs h1 he (hf i o h1)) (by grind)
theorem ge (h:K [] S):VT F T ops i S [] K:=fun _ _ _=>⟨[],S,.nil S,h⟩
theorem g0 (h:Ai F T o S r)(hg:o.guard=none)(k:VT F T ops (i+1) (S.app o.dst r) l (fun rs S'=>K (r::rs) S')):VT F T ops i S (o::l) K:=
 VT.cons (fun ho he hd=> .run o r ho hg (h he hd)) k
theorem q0{j:Nat}{d:Tmp}{b:Bool}(h:Ai F T o S r)(hg:o.guard=some (j,b))(hd:Eg ops j=some d)(hv:S.env d= .c (.bool b))(k:VT F T ops (i+1) (S.app o.dst {r with use:=[d]++r.use}) l (fun rs S'=>K ({r with use:=[d]++r.use}::rs) S')):VT F T ops i S (o::l) K:=
 VT.cons (fun ho he hdo=> .runG o _ j d b ho hg hd hv ((h he hdo).more [d]) (by simp)) k
theorem qP{j:Nat}{d:Tmp}{b c:Bool}(hg:o.guard=some (j,b))(hd:Eg ops j=some d)(hv:S.env d= .c (.bool c))(hne:(c==b)=false)(k:VT F T ops (i+1) (S.app o.dst {v:= .c .skip,use:=[d]}) l (fun rs S'=>K ({v:= .c .skip,use:=[d]}::rs) S')):VT F T ops i S (o::l) K:=
 VT.cons (fun ho _ _=> .pass o j d b c ho hg hd hv (by grind)) k
theorem qS{j:Nat}{d:Tmp}{b:Bool}(hg:o.guard=some (j,b))(hd:Eg ops j=some d)(hv:S.env d= .c .skip)(k:VT F T ops (i+1) (S.app o.dst {v:= .c .skip,use:=[d]}) l (fun rs S'=>K ({v:= .c .skip,use:=[d]}::rs) S')):VT F T ops i S (o::l) K:=
 VT.cons (fun ho _ _=> .passS o j d b ho hg hd hv) k
end
section
variable {F:Fr} {T:Tab} {S:St} {o:Oper}
theorem A9{v:A}(use:List Tmp)(ids:List Nat)(h:Bh F T-> ∀S':St,(∀t∈use,S'.env t=S.env t)->(∀i∈ids,S'.H i=S.H i/\S'.nv i=S.nv i)->Bm F o S' v):Ai F T o S {v,use,ids}:=
 fun he hd=>Bm.step hd use ids (h he)
theorem vc{S S':St}{l:List Operand}(h: ∀t∈Q2 l,S'.env t=S.env t){x:Operand}(hx:x∈l){sh:List Nat}{v:A}(hv:S.val sh x=v):S'.val sh x=v:=by grind [By]
theorem sM{x:Operand}(h:o.op= .move x)(sh:List Nat){v:A}(hv:S.val sh x=v):Ai F T o S {v,use:=Q2 [x]}:=A9 _ _ fun _ S' h1 h2=>by
 have:=Ajq (F:=F) (S:=S') h sh;rwa[vc h1 (by simp) hv]at this
theorem sA{x:Operand}(h:o.op= .assign x)(sh:List Nat){v:A}(hv:S.val sh x=v):Ai F T o S {v,use:=Q2 [x]}:=A9 _ _ fun _ S' h1 h2=>by
 have:=Ajr (F:=F) (S:=S') h sh;rwa[vc h1 (by simp) hv]at this
theorem sPk{c x y:Operand}(h:o.op= .pick c x y)(sh:List Nat){b:Bool}(hc:S.val [] c= .c (.bool b)){v:A}(hv:S.val sh (if b then x else y)=v):Ai F T o S {v,use:=Q2 [c,x,y]}:=A9 _ _ fun _ S' h1 h2=>by
 have:=Ajs (F:=F) (S:=S') h sh (vc h1 (by simp) hc);rwa[vc h1 (by grind) hv]at this
theorem sBi{op:BinOp}{t ty:TypeId}{x y:Operand}(h:o.op= .binOp op t x y ty){k:IntKind}{a b:Int}{v:V}(hx:S.val [] x= .c (.int k a))(hy:S.val [] y= .c (.int k b))(hv:P4 op k a b=some v):Ai F T o S {v:= .c v,use:=Q2 [x,y]}:=A9 _ _ fun _ S' h1 h2=>
 Ajt h (vc h1 (by simp) hx) (vc h1 (by simp) hy) hv
theorem sSh{t ty:TypeId}{x y:Operand}(h:o.op= .binOp .shl t x y ty){k k':IntKind}{a b:Int}(hx:S.val [] x= .c (.int k a))(hy:S.val [] y= .c (.int k' b))(hb:0<=b):Ai F T o S {v:= .c (.int k (k.wrap (a*2 ^ min b.toNat k.bits))),use:=Q2 [x,y]}:=A9 _ _ fun _ S' h1 h2=>
 Ajw h (vc h1 (by simp) hx) (vc h1 (by simp) hy) hb
theorem sSr{t ty:TypeId}{x y:Operand}(h:o.op= .binOp .shr t x y ty){k k':IntKind}{a b:Int}(hx:S.val [] x= .c (.int k a))(hy:S.val [] y= .c (.int k' b))(hb:0<=b):Ai F T o S {v:= .c (.int k (a.fdiv (2 ^ min b.toNat k.bits))),use:=Q2 [x,y]}:=A9 _ _ fun _ S' h1 h2=>
 Ajx h (vc h1 (by simp) hx) (vc h1 (by simp) hy) hb
theorem sQu{t ty:TypeId}{x y:Operand}(h:o.op= .binOp .quo t x y ty){k:IntKind}{a b:Int}(hx:S.val [] x= .c (.int k a))(hy:S.val [] y= .c (.int k b))(hb:b≠0):Ai F T o S {v:= .c (.int k (k.wrap (a.tdiv b))),use:=Q2 [x,y]}:=A9 _ _ fun _ S' h1 h2=>
 Aju (op:= .quo) h (vc h1 (by simp) hx) (vc h1 (by simp) hy) hb
theorem sRe{t ty:TypeId}{x y:Operand}(h:o.op= .binOp .rem t x y ty){k:IntKind}{a b:Int}(hx:S.val [] x= .c (.int k a))(hy:S.val [] y= .c (.int k b))(hb:b≠0):Ai F T o S {v:= .c (.int k (a.tmod b)),use:=Q2 [x,y]}:=A9 _ _ fun _ S' h1 h2=>
 Ajv h (vc h1 (by simp) hx) (vc h1 (by simp) hy) hb
theorem sNt{t:TypeId}{x:Operand}(h:o.op= .unOp .not t x){b:Bool}(hx:S.val [] x= .c (.bool b)):Ai F T o S {v:= .c (.bool !b),use:=Q2 [x]}:=A9 _ _ fun _ S' h1 h2=>
 Ajy h (vc h1 (by simp) hx)
theorem sNg{t:TypeId}{x:Operand}(h:o.op= .unOp .neg t x){k:IntKind}{n:Int}(hx:S.val [] x= .c (.int k n)):Ai F T o S {v:= .c (.int k (k.wrap (0 - n))),use:=Q2 [x]}:=A9 _ _ fun _ S' h1 h2=>
 Ajz h (vc h1 (by simp) hx)
theorem sCv{s t:TypeId}{x:Operand}(h:o.op= .convert s t x){i j:TI}(hi:tg T s=some i)(hj:tg T t=some j){k k':IntKind}(hik:i.k= .int k')(hjk:j.k= .int k){n:Int}(hx:S.val [] x= .c (.int k' n)):Ai F T o S {v:= .c (.int k (k.wrap n)),use:=Q2 [x]}:=A9 _ _ fun he S' h1 h2=>
 Aj0 h he.tab hi hj hik hjk (vc h1 (by simp) hx)
theorem Ae1{op:BinOp}{t ty:TypeId}{x y:Operand}(h:o.op= .binOp op t x y ty)(hop:op= .eql\/op= .neq){a b:ByteArray}(hx:S.val [] x= .c (.str a))(hy:S.val [] y= .c (.str b)):Ai F T o S {v:= .c (.bool (if op= .eql then a.toList==b.toList else !(a.toList==b.toList))),use:=Q2 [x,y]}:=A9 _ _ fun _ S' h1 h2=>
 Aj1 h hop (vc h1 (by simp) hx) (vc h1 (by simp) hy)
theorem sFP{s f:Nat}{x:Operand}(h:o.op= .fieldAddr s x f){id ver k j off:Nat}(hx:S.val [] x= .c (.ptr id ver k j))(hf:Jl T s f=some off):Ai F T o S {v:= .c (.ptr id ver k (j+off)),use:=Q2 [x]}:=A9 _ _ fun he S' h1 h2=>
 Aj2 he.tab h (vc h1 (by simp) hx) hf
theorem sFI{s f:Nat}{x:Operand}(h:o.op= .fieldAddr s x f){es k j off:Nat}{xs:List (List V)}(hx:S.val [] x= .c (.ip es xs k j))(hf:Jl T s f=some off):Ai F T o S {v:= .c (.ip es xs k (j+off)),use:=Q2 [x]}:=A9 _ _ fun he S' h1 h2=>
 Aj3 he.tab h (vc h1 (by simp) hx) hf
theorem sIO{t:Nat}{x ix:Operand}(h:o.op= .indexAddr t x ix){id ver off len:Nat}{k:IntKind}{i:Int}(hx:S.val [] x= .c (.own id ver off len))(hi:S.val [] ix= .c (.int k i)){B:Blk}(hB:S.H id=some B)(hver:B.ver=ver)(hes:C0 T t=some B.es)(hb:0<=i/\i<len):Ai F T o S {v:= .c (.ptr id ver (off+i.toNat) 0),use:=Q2 [x,ix],ids:=[id]}:=A9 _ _ fun he S' h1 h2=>
 Aj4 he.tab h (vc h1 (by simp) hx) (vc h1 (by simp) hi) (by grind) hver hes hb.1 hb.2
theorem sIR{t:Nat}{x ix:Operand}(h:o.op= .indexAddr t x ix){es:Nat}{xs:List (List V)}{k:IntKind}{i:Int}(hx:S.val [] x= .c (.row false es xs))(hi:S.val [] ix= .c (.int k i))(hes:C0 T t=some es)(hb:0<=i/\i<xs.length):Ai F T o S {v:= .c (.ip es xs i.toNat 0),use:=Q2 [x,ix]}:=A9 _ _ fun he S' h1 h2=>
 Aj5 he.tab h (vc h1 (by simp) hx) (vc h1 (by simp) hi) hes hb.1 hb.2 rfl
theorem sLn{t:Nat}{x:Operand}(h:o.op= .call {callee:= .builtin .len,args:= #[x],argTypes:= #[t]}){ti:TI}(ht:tg T t=some ti){e:Nat}(hk:ti.k= .slice e){ob:Bool}{es:Nat}{xs:List (List V)}(hx:S.val [] x= .c (.row ob es xs)):Ai F T o S {v:= .c (.int .i64 xs.length),use:=Q2 [x]}:=A9 _ _ fun he S' h1 h2=>
 Tm he.tab h ht [] (.inl ⟨e,hk,.inr ⟨ob,es,xs,vc h1 (by simp) hx,rfl⟩⟩)
theorem sLo{t:Nat}{x:Operand}(h:o.op= .call {callee:= .builtin .len,args:= #[x],argTypes:= #[t]}){ti:TI}(ht:tg T t=some ti){e:Nat}(hk:ti.k= .slice e){id ver off n:Nat}(hx:S.val [] x= .c (.own id ver off n)):Ai F T o S {v:= .c (.int .i64 n),use:=Q2 [x]}:=A9 _ _ fun he S' h1 h2=>
 Tm he.tab h ht [] (.inl ⟨e,hk,.inl ⟨id,ver,off,vc h1 (by simp) hx⟩⟩)
theorem sLs{t:Nat}{x:Operand}(h:o.op= .call {callee:= .builtin .len,args:= #[x],argTypes:= #[t]}){ti:TI}(ht:tg T t=some ti)(hk:ti.k= .str){s:ByteArray}(hx:S.val [] x= .c (.str s)):Ai F T o S {v:= .c (.int .i64 s.size),use:=Q2 [x]}:=A9 _ _ fun he S' h1 h2=>
 Tm he.tab h ht [] (.inr ⟨hk,s,vc h1 (by simp) hx,rfl⟩)
theorem sEx{x:Operand}{n:Nat}(h:o.op= .extract x n){xs:List A}{v:A}(hx:S.val [] x= .t xs)(hv:xs[n]? =some v):Ai F T o S {v,use:=Q2 [x]}:=A9 _ _ fun he S' h1 h2=>
 Aj7 h (vc h1 (by simp) hx) hv
theorem Ak8{t:Nat}{x:Operand}{lo hi:Option Operand}(h:o.op= .slice t x lo hi none){es:Nat}{xs:List (List V)}{l hh:Int}(hx:S.val [] x= .c (.row false es xs))(hes:C0 T t=some es)
  (hl:Bp S 0 lo=some l) (hr:Bp S xs.length hi=some hh) (hb:0<=l/\l<=hh/\hh<=xs.length):Ai F T o S {v:= .c (.row false es ((xs.drop l.toNat).take (hh - l).toNat)),use:=Q2 ([x]++lo.toList++hi.toList)}:=A9 _ _ fun he S' h1 h2=>by
 have key: ∀(d:Int) (y:Option Operand) (n:Int),(∀z∈y.toList,z∈[x]++lo.toList++hi.toList)->Bp S d y=some n->Bp S' d y=some n:=by
  intro d y n hy hn;cases y with
  |none=>exact hn
  |some z=>
   unfold Bp at hn ⊢;simp only at hn ⊢;rw[By (hy z (by simp)) h1];exact hn
 exact Aka he.tab h (vc h1 (by simp) hx) hes (key _ _ _ (fun z hz=>by grind) hl) (key _ _ _ (fun z hz=>by grind) hr) hb.1 hb.2.1 hb.2.2
def T5 (T:Tab)(S:St)(t:Nat)(x:Operand):Option (A×Nat):=
 match S.val [] x with
 | .c (.ptr id ver k j)=>match tg T t,S.H id with
  |some ti,some B=>match B.xs[k]? with
   |some y=>match Nat.decEq B.ver ver,Nat.ble (j+ti.size) y.length,((y.drop j).take ti.size).all (fun v=> !D7 v)with
    | .isTrue _,true,true=>match Dw ti.k.agg ((y.drop j).take ti.size)with
     |some u=>some (u,id)
     |none=>none
    |_,_,_=>none
   |none=>none
  |_,_=>none
 |_=>none
theorem sLd{t:TypeId}{x:Operand}(h:o.op= .load t x){u:A}{id:Nat}(hf:T5 T S t x=some (u,id)):Ai F T o S {v:=u,use:=Q2 [x],ids:=[id]}:=fun he hd=>by
 unfold T5 at hf;split at hf
 ·rename_i id' ver k j hx;split at hf
  ·rename_i ti B ht hB;split at hf
   ·rename_i y hy;split at hf
    ·rename_i _ _ _ hver _ hj hn;split at hf
     ·rename_i u' hw;simp only[Z7,Prod.mk.injEq]at hf;obtain⟨rfl,rfl⟩:=hf;exact Ts he.tab h hd ht hx hB hver hy (Az hj) hw hn
     grind
    grind
   grind
  grind
 grind
theorem sLk{t:TypeId}{x:Operand}(h:o.op= .load t x){ti:TI}{id ver k j:Nat}{B:Blk}{y:List V}{u:A}(hx:S.val [] x= .c (.ptr id ver k j))(ht:tg T t=some ti)(hB:S.H id=some B)(hver:B.ver=ver)
  (hy:B.xs[k]? =some y) (hj:Nat.ble (j+ti.size) y.length=true) (hw:Dw ti.k.agg ((y.drop j).take ti.size)=some u) (hn:((y.drop j).take ti.size).all (fun v=> !D7 v)=true):Ai F T o S {v:=u,use:=Q2 [x],ids:=[id]}:=fun he hd=>
 Ts he.tab h hd ht hx hB hver hy (Az hj) hw hn
theorem sLI{t:TypeId}{x:Operand}(h:o.op= .load t x){es k j:Nat}{xs:List (List V)}(hx:S.val [] x= .c (.ip es xs k j))(y:List V)(hy:xs[k]? =some y){ti:TI}{u:A}(ht:tg T t=some ti)
  (hj:Nat.ble (j+ti.size) y.length=true) (hw:Dw ti.k.agg ((y.drop j).take ti.size)=some u):Ai F T o S {v:=u,use:=Q2 [x]}:=fun he hd=>
 Akh he.tab h hd ht hx hy (Az hj) hw
def T6 (T:Tab)(S:St)(t:Nat)(x:Operand)(u:A):Option (Nat×Blk):=
 match S.val [] x with
 | .c (.ptr id ver k j)=>match tg T t,S.H id with
  |some ti,some B=>match B.xs[k]? with
   |some row=>match Nat.decEq B.ver ver,Nat.ble (j+ti.size) row.length,Cr u,Fl u.cells,Nat.decEq u.cells.length ti.size with
    | .isTrue _,true,true,true,.isTrue _=>some (id,⟨B.ver,B.es,B.xs.set k (Dg row j u.cells)⟩)
    |_,_,_,_,_=>none
   |none=>none
  |_,_=>none
 |_=>none
theorem sSt{t:TypeId}{x y:Operand}(h:o.op= .store t x y)(hd0:o.dst=none)(sh:List Nat){u:A}(hy:S.val sh y=u){id:Nat}{B':Blk}(hf:T6 T S t x u=some (id,B')):Ai F T o S {v:= .c .undef,upd:=[(id,some B')],use:=Q2 [x,y],ids:=[id]}:=fun he _=>by
 unfold T6 at hf;split at hf
 ·rename_i id' ver k j hx;split at hf
  ·rename_i ti B ht hB;split at hf
   ·rename_i row hr;split at hf
    ·rename_i _ _ _ _ _ hver hul _ hj hu huc _;simp only[Z7,Prod.mk.injEq]at hf;obtain⟨rfl,rfl⟩:=hf;exact Tt he.tab h hd0 ht hx sh hy hu huc hul hB hver hr (Az hj)
    grind
   grind
  grind
 grind
theorem T7{t:TypeId}{x y:Operand}(h:o.op= .store t x y)(hd0:o.dst=none)(sh:List Nat){u:A}(hy:S.val sh y=u){id ver k j:Nat}(hx:S.val [] x= .c (.ptr id ver k j))(row:List V){B:Blk}{ti:TI}(hB:S.H id=some B)(hr:B.xs[k]? =some row)(hver:B.ver=ver)(ht:tg T t=some ti)(hu:Cr u=true)(huc:Fl u.cells=true)(hul:u.cells.length=ti.size)
  (hj:Nat.ble (j+ti.size) row.length=true):Ai F T o S {v:= .c .undef,upd:=[(id,some ⟨B.ver,B.es,B.xs.set k (Dg row j u.cells)⟩)],use:=Q2 [x,y],ids:=[id]}:=fun he _=>
 Tt he.tab h hd0 ht hx sh hy hu huc hul hB hver hr (Az hj)
theorem sBx{t:TypeId}{x:Operand}(h:o.op= .box t x)(sh:List Nat){u:A}(hx:S.val sh x=u)(hu:Cr u=true)(id:Nat)(hid:Nat.ble 100 id=true):
  Ai F T o S {v:= .c (.ptr id (S.nv id) 0 0),upd:=[(id,some ⟨S.nv id,u.cells.length,[u.cells]⟩)],bump:=[id],use:=Q2 [x],ids:=[id]}:=fun he hd=>
 Akf h hd sh hx hu id (Dn he.m (Az hid))
theorem sAl{t:TypeId}(h:o.op= .alloc t){ti:TI}(ht:tg T t=some ti)(id:Nat)(hid:Nat.ble 100 id=true):
  Ai F T o S {v:= .c (.ptr id (S.nv id) 0 0),upd:=[(id,some ⟨S.nv id,ti.zero.length,[ti.zero]⟩)],bump:=[id],use:=[],ids:=[id]}:=fun he hd=>
 Akg he.tab h hd ht id (Dn he.m (Az hid))
end
def Qj (N:Nat)(ops:List Oper):Bool:=ops.all fun o=>match o.dst with|some d=>decide (d<N)|none=>true
theorem T8{F:Fr}{ops:Array Oper}(h:Qj F.N ops.toList=true):Mw F ops:=by
 intro i o ho d hd;have:=Z1.1 h o (by grind)
 grind
theorem Ald{F:Fr}{T:Tab}{S:St}{Q:Exit->St->Prop}{id:Nat}{ops:List Oper}(he:Bh F T)(hf:Qj F.N ops=true)(hm:F.P.follows .mixedOrders=true)(hdn:Ko ops.toArray=true)(h:VT F T ops.toArray 0 S ops (fun rs S'=>Hg ops.toArray rs=true/\Q .normal S')):W F (.region id ops.toArray true) S Q:=by
 obtain⟨rs,S',t,hc,hq⟩:=h he (T8 (by omega)) (by simp);have e:List.range ops.toArray.size=List.range' 0 ops.length:=by rw[List.range_eq_range'];simp
 grind [Ajl,T8]
def Gb:List (Nat×A)->Nat->A
 |[],_=> .c .undef
 |(t,v)::r,x=>if x=t then v else Gb r x
def Fo:List (Nat×Blk)->Nat->Option Blk
 |[],_=>none
 |(t,B)::r,x=>if x=t then some B else Fo r x
def StL (l:List (Nat×A))(h:List (Nat×Blk)):St:=⟨Gb l,Fo h,fun _=>1⟩
def V.can1 (H:Nat->Option Blk):V->V
 | .own id ver off len=>match H id with|some B=>if B.ver=ver then .own id 0 off len else .undef|none=> .undef
 | .ptr id ver k j=>match H id with|some B=>if B.ver=ver then .ptr id 0 k j else .undef|none=> .undef
 | .fn _ _=> .undef
 |v=>v
def V.can (H:Nat->Option Blk):V->V
 | .fn f caps=> .fn f (caps.map (V.can1 H))
 |v=>v.can1 H
def A.can (H:Nat->Option Blk):A->A
 | .c v=> .c (v.can H)
 | .g cs=> .g (cs.map (V.can H))
 | .t _=> .c .undef
def Gm (S:St):List Nat->List (Nat×A)
 |[]=>[]
 |t::r=>(t,(S.env t).can S.H)::Gm S r
def C9 (S:St):List Nat->List (Nat×Blk)
 |[]=>[]
 |t::r=>match S.H t with
  |some B=>(t,⟨0,B.es,B.xs.map fun x=>x.map (V.can S.H)⟩)::C9 S r
  |none=>C9 S r
theorem Qk{S:St}{l:List Nat}{id:Nat}{B:Blk}(h:Fo (C9 S l) id=some B): ∃B0,S.H id=some B0/\B=⟨0,B0.es,B0.xs.map fun x=>x.map (V.can S.H)⟩:=by
 induction l with
 |nil=>cases h
 |cons t r ih=>
  unfold C9 at h;cases e:S.H t with
  |none=>grind
  |some B0=>
   rw[e]at h;simp only[Fo]at h
   grind
section
variable {w:World} {σ:Nat->List Nat} {β:Nat->Option (Nat×Nat×Nat)} {S:St} {lh:List Nat} {env':Nat->A}
theorem M2{p:List Nat}{v:V}{c:Value}(h:RV (S.cx w σ β) p v c):RV ((⟨env',Fo (C9 S lh),fun _=>1⟩:St).cx w σ β) p (v.can1 S.H) c:=by
 cases h with
 |c h=>
  have:V.can1 S.H v=v:=by cases h<;>rfl
  rw[this];exact .c h
 |own p id ver off len A n cap hn hver hcap hmax h=>
  simp only[V.can1];cases e:S.H id with
  |none=>exact .undef _ _
  |some B0=>
   simp only;by_cases ev:B0.ver=ver
   ·rw[if_pos ev];refine .own _ _ _ _ _ _ _ _ hn Nat.zero_lt_one hcap hmax fun B hB _=> ?_;obtain⟨B1,h1,rfl⟩:=Qk hB;rw[e]at h1;cases h1;obtain⟨h2,h3⟩:=h B0 e ev;exact⟨by grind,h3⟩
   ·rw[if_neg ev];exact .undef _ _
 |ptr p id ver k j a hver h=>
  simp only[V.can1];cases e:S.H id with
  |none=>exact .undef _ _
  |some B0=>
   simp only;by_cases ev:B0.ver=ver
   ·rw[if_pos ev];refine .ptr _ _ _ _ _ _ Nat.zero_lt_one fun B hB _=> ?_;obtain⟨B1,h1,rfl⟩:=Qk hB;rw[e]at h1;cases h1;exact h B0 e ev
   ·rw[if_neg ev];exact .undef _ _
 |ip p es xs k j b off n cap h=>exact .ip _ _ _ _ _ _ _ _ _ h
 |fn p f caps cs cv hs h1 h2=>exact .undef _ _
 |skip p=>exact .skip _
 |undef p v=>exact .undef _ _
theorem T9{p:List Nat}{v:V}{c:Value}(h:RV (S.cx w σ β) p v c):RV ((⟨env',Fo (C9 S lh),fun _=>1⟩:St).cx w σ β) p (v.can S.H) c:=by
 cases h with
 |fn p f caps cs cv hs h1 h2=>
  refine .fn _ _ _ _ cv (by grind) (fun i v hi=> ?_) (fun i v hi=> ?_)
  ·grind
  ·rw[As]at hi;obtain⟨v0,h3,rfl⟩:=Z5.1 hi
   grind [M2]
 |c h=>
  have:=M2 (lh:=lh) (env':=env') (S:=S) (β:=β) (.c (E:=S.cx w σ β) h);cases h<;>exact this
 |own p id ver off len A n cap hn hver hcap hmax h=>exact M2 (.own _ _ _ _ _ _ _ _ hn hver hcap hmax h)
 |ptr p id ver k j a hver h=>exact M2 (.ptr _ _ _ _ _ _ hver h)
 |ip p es xs k j b off n cap h=>exact M2 (.ip _ _ _ _ _ _ _ _ _ h)
 |skip p=>exact .skip _
 |undef p v=>exact .undef _ _
theorem Ale{x:A}{c:Value}(h:RA (S.cx w σ β) x c):RA ((⟨env',Fo (C9 S lh),fun _=>1⟩:St).cx w σ β) (x.can S.H) c:=by
 cases h with
 |c h=>exact .c (T9 h)
 |g cs arr hs h=>
  refine .g _ _ (by grind) fun i v hi=> ?_
  rw[As]at hi;obtain⟨v0,h3,rfl⟩:=Z5.1 hi
  grind [T9]
 |t xs arr cv hs h1 h2=>exact .c (.undef _ _)
theorem Alf (lt:List Nat)(t:Nat):(∃x,Gb (Gm S lt) t=x/\x=(S.env t).can S.H)\/Gb (Gm S lt) t= .c .undef:=by
 induction lt with
 |nil=>exact .inr rfl
 |cons y r ih=>
  simp only[Gm,Gb];by_cases e:t=y
  ·subst e;rw[if_pos rfl];exact .inl ⟨_,rfl,rfl⟩
  ·rw[if_neg e];exact ih
end
theorem Ac.can{F:Fr}{S:St}{a:Act}{w:World}{σ:Nat->List Nat}{β:Nat->Option (Nat×Nat×Nat)}(hs:Ac F S a w σ β)(lt lh:List Nat):Ac F (StL (Gm S lt) (C9 S lh)) a w σ β:=by
 refine⟨⟨?_,fun id B hB=> ?_,hs.hr.new⟩,hs.mpos,hs.kp,hs.inn,fun t=> ?_⟩
 ·cases e:Fo (C9 S lh) 0 with
  |none=>exact e
  |some B=>
   obtain⟨B0,h,_⟩:=Qk e;have h0:S.H 0=none:=hs.hr.far
   grind
 ·obtain⟨B0,h,rfl⟩:=Qk hB;refine⟨Nat.zero_lt_one,?_⟩;have hbr:=(hs.hr.blk id B0 h).2;cases e:β id with
  |none=>exact .mk_void e (by simp[hbr.void e])
  |some q=>
   obtain⟨b,o,n⟩:=q;obtain⟨h1,h2,h3,arr,T,h4,h5,h6⟩:=hbr.some e;refine .mk e ⟨h1,?_,by grind,arr,T,h4,h5,fun k j x v hk hj=> ?_⟩
   ·grind
   ·simp only[As]at hk;obtain⟨x0,q1,rfl⟩:=Z5.1 hk;rw[As]at hj;obtain⟨v0,q2,rfl⟩:=Z5.1 hj;obtain⟨c,q3,q4⟩:=h6 k j x0 v0 q1 q2;exact⟨c,q3,T9 q4⟩
 ·rcases Alf (S:=S) lt t with ⟨x,h1,h2⟩|h1
  ·show RA _ (Gb (Gm S lt) t) _;rw[h1,h2];exact Ale (hs.env t)
  ·show RA _ (Gb (Gm S lt) t) _;rw[h1];exact .c (.undef _ _)
open Go.ChangeShapes Go.WideShapes Go.ChangeAt Go.RowKit
def Gn (f:Nat->Option (List Nat))(T:Tab):List (Nat×Nat)->Nat->Option (List Nat)
 |[],_=>some []
 |(off,t)::r,pos=>match f t,tg T t with
  |some l,some j=>if off=pos/\l.length=j.size then(Gn f T r (pos+l.length)).map (l++ ·)else none
  |_,_=>none
def Bv (T:Tab):Nat->Nat->Option (List Nat)
 |0,_=>none
 |k+1,t=>match tg T t with
  |none=>none
  |some ti=>match ti.k with
   | .int _=>some [t]
   | .bool=>some [t]
   | .str=>some [t]
   | .slice e=>match Bv T k e,tg T e with
    |some le,some te=>if le.length=te.size/\0<te.size then some [t]else none
    |_,_=>none
   | .struct gs=>match Gn (Bv T k) T gs 0 with
    |some l=>if l.length=ti.size then some l else none
    |none=>none
   | .array n e=>match Bv T k e,tg T e with
    |some le,some te=>if le.length=te.size/\n*te.size=ti.size then some (List.replicate n le).flatten else none
    |_,_=>none
   |_=>none
inductive Lf (T:Tab):Nat->V->Prop
 |int {t ti k n} (ht:tg T t=some ti) (hk:ti.k= .int k) (hw:(Lit.int k n).wf=true):Lf T t (.int k n)
 |bool {t ti b} (ht:tg T t=some ti) (hk:ti.k= .bool):Lf T t (.bool b)
 |str {t ti s} (ht:tg T t=some ti) (hk:ti.k= .str) (hs:s.size<=reachBytes):Lf T t (.str s)
 |row {t ti e te f ls xs} (ht:tg T t=some ti) (hk:ti.k= .slice e) (he:tg T e=some te) (hl:Bv T f e=some ls)
   (hxl: ∀x∈xs,x.length=ls.length) (hx: ∀x,x∈xs-> ∀(i:Nat) l v,ls[i]? =some l->x[i]? =some v->Lf T l v) (hb:xs.length*te.bytes<=reachBytes) (hm:xs.length<=maxLen):Lf T t (.row false te.size xs)
def Ch (T:Tab)(w:World)(ls:List Nat)(cs:List Value):Prop:=
 ∃vs:List V,vs.length=cs.length/\ls.length=cs.length/\ ∀(i:Nat) c l,cs[i]? =some c->ls[i]? =some l-> ∃v,vs[i]? =some v/\RC w (fun _=>[]) [] v c/\Lf T l v
section
variable {T:Tab} {w:World}
theorem Ch.append{l l':List Nat}{a b:List Value}(h:Ch T w l a)(h':Ch T w l' b):Ch T w (l++l') (a++b):=by
 obtain⟨vs,h1,h2,h3⟩:=h;obtain⟨vs',h1',h2',h3'⟩:=h';refine⟨vs++vs',by grind,by grind,fun i c x hc hx=> ?_⟩
 grind
theorem Ch.nil:Ch T w [] []:=⟨[],rfl,rfl,by simp⟩
theorem Ae8{α:Type}(l:List α)(p a b:Nat):(l.drop p).take (a+b)=(l.drop p).take a++(l.drop (p+a)).take b:=by
 grind [List.drop_drop]
theorem Alg{f:Nat->Option (List Nat)}{cs:List Value}: ∀(gs:List (Nat×Nat)) (pos:Nat) (ls:List Nat),Gn f T gs pos=some ls->
  (∀(i:Nat) off t l j,gs[i]? =some (off,t)->f t=some l->tg T t=some j->Ch T w l ((cs.drop off).take j.size))->Ch T w ls ((cs.drop pos).take ls.length):=by
 intro gs;induction gs with
 |nil=>
  grind [Gn,Ch.nil]
 |cons g r ih=>
  intro pos ls h hg;obtain⟨off,t⟩:=g;simp only[Gn]at h;cases e1:f t with
  |none=>grind
  |some l=>
   cases e2:tg T t with
   |none=>grind
   |some j=>
    simp only[e1,e2]at h;split at h
    ·rename_i hc;obtain⟨rfl,hl⟩:=hc;obtain⟨ls',h1,rfl⟩:=Z5.1 h;have g0:=hg 0 off t l j rfl e1 e2;have g1:=ih _ _ h1 (fun i off t l j hi=>hg (i+1) off t l j (by grind))
     grind [Ae8,Ch.append]
    ·cases h
theorem Alh{le:List Nat}{cs:List Value}{c:Nat}(hl:le.length=c): ∀(n pos:Nat),(∀i,i<n->Ch T w le ((cs.drop (pos+i*c)).take c))->Ch T w (List.replicate n le).flatten ((cs.drop pos).take (n*c)):=by
 intro n;induction n with
 |zero=>grind [Ch.nil]
 |succ n ih=>
  intro pos h;have g0:=h 0 (Nat.succ_pos _);have g1:=ih (pos+c) (fun i hi=>by
   grind)
  rw[List.replicate_succ,List.flatten_cons,D6,Nat.one_mul,Nat.add_comm (n*c) c,Ae8];simp_all[Ch.append]
end
theorem Ua{H:Type}{P:Program}{e:TypeId}: ∀ {ds:List (DataW H)} {j:Nat} {d:DataW H},ds[j]? =some d-> ∀n∈d.weights P e,n∈DataW.weightsAll P e ds
 |d0::ds,0,d,hd,n,hn=>by
  grind [DataW.weightsAll]
 |d0::ds,j+1,d,hd,n,hn=>by
  simp only[List.getElem?_cons_succ]at hd;simp only[DataW.weightsAll,C5];exact Or.inr (Ua hd n hn)
 |[],_,_,hd,_,_=>by simp at hd
theorem Ty.cellsOf{P:Program}{t:Nat}{i:TI}(h:Ty P t i):P.cellsOf t=i.size:=by
 grind [inf,Program.cellsOf]
theorem Ty.bytesOf{P:Program}{t:Nat}{i:TI}(h:Ty P t i):P.bytesOf t=i.bytes:=by
 grind [inf,Program.bytesOf]
theorem Ty.bool{P:Program}{t:Nat}{i:TI}(h:Ty P t i)(hk:i.k= .bool):P.underlying t=some .bool:=by
 grind [und,Fa]
theorem Ch.one{T:Tab}{w:World}{t:Nat}{v:V}{c:Value}(h:RC w (fun _=>[]) [] v c)(h2:Lf T t v):Ch T w [t] [c]:=by
 refine⟨[v],rfl,rfl,fun i c' l hc hl=> ?_⟩
 grind
theorem Ae9{w:World}{base:Nat}{a:Addr}{n:Nat}{cs:List Value}(h:w.cells? base a n=some cs):cs.length=n/\ ∀(i:Nat) c,cs[i]? =some c->w.cell? (a.add i)=some c:=by
 unfold World.cells? at h;split at h
 ·have h1:=mapM_some_length h;simp at h1;refine⟨h1,fun i c hi=> ?_⟩;have hlt:i<n:=by grind
  have:=mapM_some_get h i i (by simp[hlt])
  grind
 ·cases h
theorem Ali{H:Type}{enc:TypeId×Value->H}{P:Program}{T:Tab}(hT:Av P T){w:World}{spare:Nat->Bool}: ∀(m k:Nat) (t:TypeId) (cs:List Value) (x:DataW H×List MemPlace) (ls:List Nat),
  DataW.trod enc P w 0 spare true m t cs=some x->Bv T k t=some ls->(∀n∈x.1.weights P t,n<=reachBytes)->Ch T w ls cs:=by
 intro m;induction m with
 |zero=>simp_all[DataW.trod]
 |succ m ih=>
  intro k t cs x ls h hl hw;cases k with
  |zero=>simp[Bv]at hl
  |succ k=>
   simp only[Bv]at hl;cases et:tg T t with
   |none=>grind
   |some ti=>
    simp only[et]at hl;have hty:=hT.ty et;cases ek:ti.k with
    |int kd=>
     simp only[ek,Z7]at hl;subst hl;obtain⟨n,rfl,_,hwf⟩:=DataW.trod_int (hty.int ek) h;exact Ch.one (.int _ _ _) (.int et ek hwf)
    |bool=>
     simp only[ek,Z7]at hl;subst hl;obtain⟨b,rfl,_⟩:=DataW.trod_bool (hty.bool ek) h;exact Ch.one (.bool _ _) (.bool et ek)
    |str=>
     simp only[ek,Z7]at hl;subst hl;obtain⟨s,rfl,rfl,_⟩:=DataW.trod_string (hty.str ek) h;refine Ch.one (.str _ _) (.str et ek ?_);simp_all[DataW.weights]
    |slice e=>
     simp only[ek]at hl;cases e1:Bv T k e with
     |none=>grind
     |some le=>
      cases e2:tg T e with
      |none=>grind
      |some te=>
       simp only[e1,e2]at hl;split at hl
       ·rename_i hc;obtain⟨hlen,hpos⟩:=hc;simp only[Z7]at hl;subst hl;have hu:=hty.slice ek;have hce:P.cellsOf e=te.size:=(hT.ty e2).cellsOf;have hbe:P.bytesOf e=te.bytes:=(hT.ty e2).bytesOf;rcases DataW.trod_slice hu h with ⟨rfl,rfl⟩|⟨a,len,cap,elems,rest,n,hn,rfl,rfl,hb,hlc,hm,hel,hat,_,_⟩
        ·refine Ch.one (.row [] false te.size [] none 0 0 0 0 (fun _ _=>default) rfl (Z9 _) (by omega) (fun h=>absurd h (by omega)) (fun h=>by cases h) (by simp) (by simp) (by simp)) (.row et ek e2 e1 (by simp) (by simp) (by simp) (by grind))
        ·cases hn;have elem: ∀i,i<len-> ∃cs y,w.cells? 0 (a.add (i*P.cellsOf e)) (P.cellsOf e)=some cs/\DataW.trod enc P w 0 spare true m e cs=some y/\elems[i]? =some y:=by
          intro i hi;have h1:=hat i hi;have h2:elems[i]? =some elems[i]:=A3 (by omega);simp_all[Option.bind_eq_some_iff]
         have good: ∀i,i<len-> ∃(cs:List Value) (vs:List V),w.cells? 0 (a.add (i*te.size)) te.size=some cs/\vs.length=te.size/\ ∀(j:Nat) c l,cs[j]? =some c->le[j]? =some l-> ∃v,vs[j]? =some v/\RC w (fun _=>[]) [] v c/\Lf T l v:=by
          intro i hi;obtain⟨cs,y,h1,h2,h3⟩:=elem i hi;have hwy: ∀n∈y.1.weights P e,n<=reachBytes:=by
           intro n hn;refine hw n ?_;simp only[DataW.weights,hu];refine Pv _ (List.mem_append_left _ (Ua (j:=i) (d:=y.1) ?_ n hn))
           grind
          obtain⟨vs,g1,g2,g3⟩:=ih k e cs y le h2 e1 hwy
          grind
         have hspot:0<len->a.spot=none:=by
          intro h0;obtain⟨cs,vs,h1,h2,h3⟩:=good 0 h0;obtain⟨q1,q2⟩:=Ae9 h1;have h5:cs[0]? =some cs[0]:=A3 (by omega);have:=q2 0 _ h5;simp only[Nat.zero_mul]at this;unfold World.cell? at this;split at this
          all_goals simp_all[Addr.add]
         have hch: ∃xs:List (List V),xs.length=len/\ ∀(i:Nat) x,xs[i]? =some x-> ∃cs,w.cells? 0 (a.add (i*te.size)) te.size=some cs/\x.length=te.size/\ ∀(j:Nat) c l,cs[j]? =some c->le[j]? =some l-> ∃v,x[j]? =some v/\RC w (fun _=>[]) [] v c/\Lf T l v:=by
          have: ∀n,n<=len-> ∃xs:List (List V),xs.length=n/\ ∀(i:Nat) x,xs[i]? =some x-> ∃cs,w.cells? 0 (a.add (i*te.size)) te.size=some cs/\x.length=te.size/\ ∀(j:Nat) c l,cs[j]? =some c->le[j]? =some l-> ∃v,x[j]? =some v/\RC w (fun _=>[]) [] v c/\Lf T l v:=by
           intro n;induction n with
           |zero=>simp_all
           |succ n ihn=>
            intro hn;obtain⟨xs,h1,h2⟩:=ihn (by omega);obtain⟨cs,vs,g1,g2,g3⟩:=good n (by omega);refine⟨xs++[vs],by simp[h1],fun i x hi=> ?_⟩;rcases Bj i n with hlt|hge
            ·grind
            ·rw[C4 (by omega)]at hi;have:i=n:=by
              grind
             grind
          simp_all
         obtain⟨xs,hxl,hxs⟩:=hch;have cell: ∀(k' j:Nat) x v,xs[k']? =some x->x[j]? =some v->w.cell? ⟨a.block,a.off+k'*te.size+j,none⟩=some ((w.cell? ⟨a.block,a.off+k'*te.size+j,none⟩).getD undef)/\RC w (fun _=>[]) [] v ((w.cell? ⟨a.block,a.off+k'*te.size+j,none⟩).getD undef)/\ ∀l,le[j]? =some l->Lf T l v:=by
          intro k' j x v hk hj;obtain⟨cs,g1,g2,g3⟩:=hxs k' x hk;obtain⟨q1,q2⟩:=Ae9 g1;have hjl:j<te.size:=by grind
          have hcj:cs[j]? =some cs[j]:=A3 (by omega);have hlj:le[j]? =some le[j]:=A3 (by omega);obtain⟨v',g4,g5,g6⟩:=g3 j _ _ hcj hlj;rw[hj]at g4;cases g4;have hk0:k'<len:=by grind
          have hns:=hspot (by omega);have hc:=q2 j _ hcj;have ea:(a.add (k'*te.size)).add j=⟨a.block,a.off+k'*te.size+j,none⟩:=by
           obtain⟨ab,ao,as⟩:=a
           grind [Cv]
          grind
         refine Ch.one (.row [] false te.size xs (some a) len cap a.block a.off (fun k j=>(w.cell? ⟨a.block,a.off+k*te.size+j,none⟩).getD undef) hxl.symm hlc hm ?_ (fun h=>by cases h) ?_ ?_ ?_) (.row et ek e2 e1 ?_ ?_ ?_ ?_)
         ·intro h0;have:=hspot h0;obtain⟨ab,ao,as⟩:=a
          grind
         ·intro x hx;obtain⟨i,hi⟩:=C6.1 hx
          grind
         ·grind
         ·grind
         ·intro x hx;obtain⟨i,hi⟩:=C6.1 hx
          grind
         ·intro x hx j l v hl hj;obtain⟨i,hi⟩:=C6.1 hx
          grind
         ·have:=hw ((elems.length+rest.length)*P.bytesOf e) (by simp[DataW.weights,hu])
          grind
         ·omega
       grind
    |struct gs=>
     simp only[ek]at hl;cases e1:Gn (Bv T k) T gs 0 with
     |none=>grind
     |some l=>
      simp only[e1]at hl;split at hl
      ·rename_i hlen;simp only[Z7]at hl;subst hl;obtain⟨fs,hu,hfs⟩:=hty.struct ek;obtain⟨xs,n,hn,rfl,hcl,hxl,hat⟩:=DataW.trod_struct hu h;cases hn;have:=Alg (w:=w) (cs:=cs) gs 0 l e1 (fun i off ft l' j hi hf hj=>by
        rw[<-hfs,As]at hi;obtain⟨fd,h1,h2⟩:=Z5.1 hi;simp only[Prod.mk.injEq]at h2;obtain⟨rfl,rfl⟩:=h2;have hfd:fs[i]? =some fd:=by grind
        have h3:=hat i fd hfd;have hix:i<xs.length:=by grind
        rw[A3 hix,(hT.ty hj).cellsOf]at h3;refine ih k _ _ _ _ h3 hf (fun n hn=>hw n ?_);simp only[DataW.weights,hu];refine DataW.weights_mem_each (j:=i) (t:=fd.type) ?_ ?_ n hn
        all_goals grind)
       grind [Ty.cellsOf]
      grind
    |array n e=>
     simp only[ek]at hl;cases e1:Bv T k e with
     |none=>grind
     |some le=>
      cases e2:tg T e with
      |none=>grind
      |some te=>
       simp only[e1,e2]at hl;split at hl
       ·rename_i hc;obtain⟨hlen,hsz⟩:=hc;simp only[Z7]at hl;subst hl;have hu:=hty.array ek;have hce:P.cellsOf e=te.size:=(hT.ty e2).cellsOf;obtain⟨xs,m',hm,rfl,hcl,hxl,hat⟩:=DataW.trod_array hu h;cases hm;have:=Alh (w:=w) (T:=T) (cs:=cs) hlen n 0 (fun i hi=>by
         have h3:=hat i hi;have hix:i<xs.length:=by omega
         rw[A3 hix,hce]at h3;rw[Nat.zero_add];refine ih k _ _ _ _ h3 e1 (fun n hn=>hw n ?_);simp only[DataW.weights,hu];refine Ua (j:=i) ?_ n hn
         grind)
        have hcl':n*te.size=cs.length:=by grind [Ty.cellsOf]
        grind
       grind
    |ptr e=>grind
    |other=>grind
open Go.ChangeShapes Go.WideShapes Go.ChangeAt Go.RowKit
def TA (T:Tab)(t:Nat)(x:A):Prop:=
 ∃ti ls,tg T t=some ti/\Bv T 50 t=some ls/\
  ((ti.k.agg=true/\ ∃vs,x= .g vs/\vs.length=ls.length/\ ∀(i:Nat) l v,ls[i]? =some l->vs[i]? =some v->Lf T l v)\/(ti.k.agg=false/\ ∃v,x= .c v/\Lf T t v))
def Ub (T:Tab):List Nat->List A->Prop
 |[],[]=>True
 |t::ts,x::xs=>TA T t x/\Ub T ts xs
 |_,_=>False
theorem Ql{P:Program}{T:Tab}(hT:Av P T){w:World}{base t:Nat}{ti:TI}{v:Value}(ht:tg T t=some ti)(hk:match ti.k with| .int _=>True| .bool=>True| .str=>True| .slice _=>True|_=>False)(h:Value.okWide P w .any base t v):v.cells= #[v]:=by
 have hty:=hT.ty ht;cases ek:ti.k with
 |int k=>
  have hu:=hty.int ek;cases v<;>simp[Value.okWide,hu,Cell.okWide,Cell.ok]at h ⊢ <;>rfl
 |bool=>
  have hu:=hty.bool ek;cases v<;>simp[Value.okWide,hu,Cell.okWide,Cell.ok]at h ⊢ <;>rfl
 |str=>
  have hu:=hty.str ek;cases v<;>simp[Value.okWide,hu,Cell.okWide,Cell.ok]at h ⊢ <;>rfl
 |slice e=>
  have hu:=hty.slice ek;cases v<;>simp[Value.okWide,hu,Cell.okWide,Cell.ok]at h ⊢ <;>rfl
 |_=>grind
theorem Ch.ra{T:Tab}{w:World}{ls:List Nat}{cs:Array Value}(h:Ch T w ls cs.toList)(β:Nat->Option (Nat×Nat×Nat)):
  ∃vs:List V,vs.length=ls.length/\(∀(i:Nat) l v,ls[i]? =some l->vs[i]? =some v->Lf T l v)/\ ∀(i:Nat) v,vs[i]? =some v-> ∃c,cs[i]? =some c/\RV ⟨w,fun _=>[],β,C7 [],fun _=>1⟩ [] v c:=by
 obtain⟨vs,h1,h2,h3⟩:=h;refine⟨vs,by omega,fun i l v hl hv=> ?_,fun i v hv=> ?_⟩
 ·have hlt:i<cs.toList.length:=by grind
  obtain⟨v',g1,g2,g3⟩:=h3 i _ l (A3 hlt) hl
  grind
 ·have hlt:i<cs.toList.length:=by grind
  have hl:ls[i]? =some ls[i]:=A3 (by omega);obtain⟨v',g1,g2,g3⟩:=h3 i _ _ (A3 hlt) hl;rw[hv]at g1;cases g1;exact⟨_,by simp,.c g2⟩
theorem Alj{H:Type}{enc:TypeId×Value->H}{P:Program}{T:Tab}(hT:Av P T){w:World}{spare:Nat->Bool}{base t:Nat}{v:Value}{d:DataW H}{ps:List MemPlace}(h:DataW.Trod enc P w 0 spare true t v d ps)(hok:Value.okWide P w .any base t v)
  (hl:(Bv T 50 t).isSome=true) (hw: ∀n∈d.weights P t,n<=reachBytes) (β:Nat->Option (Nat×Nat×Nat)): ∃x,TA T t x/\RA ⟨w,fun _=>[],β,C7 [],fun _=>1⟩ x v:=by
 obtain⟨fuel,hf⟩:=h;cases el:Bv T 50 t with
 |none=>grind
 |some ls=>
  have hg:=Ali hT fuel 50 t v.cells.toList (d,ps) ls hf el hw;obtain⟨vs,g1,g2,g3⟩:=hg.ra β;have el0:=el;unfold Bv at el;cases et:tg T t with
  |none=>grind
  |some ti=>
   simp only[et]at el;have hty:=hT.ty et;have scal:ls=[t]->ti.k.agg=false->v.cells= #[v]-> ∃x,TA T t x/\RA ⟨w,fun _=>[],β,C7 [],fun _=>1⟩ x v:=by
    intro e1 e2 e3;subst e1
    match vs,g1 with
    |[u],_=>
     obtain⟨c,q1,q2⟩:=g3 0 u rfl;rw[e3]at q1;simp at q1;subst q1;exact⟨.c u,⟨ti,[t],et,el0,.inr ⟨e2,u,rfl,g2 0 t u rfl rfl⟩⟩,.c q2⟩
   have aggr:ti.k.agg=true->(∃cs,v= .agg cs)-> ∃x,TA T t x/\RA ⟨w,fun _=>[],β,C7 [],fun _=>1⟩ x v:=by
    rintro e2 ⟨cs,rfl⟩;refine⟨.g vs,⟨ti,ls,et,el0,.inl ⟨e2,vs,rfl,g1,g2⟩⟩,.g vs cs ?_ g3⟩;obtain⟨vs',k1,k2,_⟩:=hg
    have:cs.toList.length=ls.length:=k2.symm
    grind
   cases ek:ti.k with
   |int k=>simp only[ek,Z7]at el;exact scal el.symm (by rw[ek];rfl) (Ql hT et (by grind) hok)
   |bool=>simp only[ek,Z7]at el;exact scal el.symm (by rw[ek];rfl) (Ql hT et (by grind) hok)
   |str=>simp only[ek,Z7]at el;exact scal el.symm (by rw[ek];rfl) (Ql hT et (by grind) hok)
   |slice e=>
    refine scal ?_ (by rw[ek];rfl) (Ql hT et (by grind) hok)
    grind
   |struct gs=>
    obtain⟨fs,hu,_⟩:=hty.struct ek;simp only[Value.okWide,hu]at hok;obtain⟨cs,h1,_⟩:=hok;exact aggr (by rw[ek];rfl) ⟨cs,h1⟩
   |array n e=>
    have hu:=hty.array ek;simp only[Value.okWide,hu]at hok;obtain⟨cs,h1,_⟩:=hok;exact aggr (by rw[ek];rfl) ⟨cs,h1⟩
   |ptr e=>grind
   |other=>grind
theorem Afa{H:Type}{enc:TypeId×Value->H}{P:Program}{T:Tab}(hT:Av P T){w:World}{spare:Nat->Bool}{base:Nat}(β:Nat->Option (Nat×Nat×Nat)): ∀(ts:List TypeId) (vs:List Value) (ds:List (DataW H)) (ps:List MemPlace),DataW.TrodAll enc P w 0 spare true ts vs ds ps->
  (∀(j:Nat) t v,ts[j]? =some t->vs[j]? =some v->Value.okWide P w .any base t v)->(∀t∈ts,(Bv T 50 t).isSome=true)->(∀n∈DataW.weightsEach P ts ds,n<=reachBytes)->
  ds.length=ts.length/\ ∃xs,xs.length=vs.length/\Ub T ts xs/\ ∀(i:Nat) x,xs[i]? =some x-> ∃v,vs[i]? =some v/\RA ⟨w,fun _=>[],β,C7 [],fun _=>1⟩ x v
 |[],[],[],ps,h,_,_,_=>⟨rfl,[],rfl,trivial,by simp⟩
 |t::ts,v::vs,d::ds,ps,h,hok,hl,hw=>by
  obtain⟨p,q,h1,h2,rfl⟩:=h;simp only[DataW.weightsEach,C5]at hw;obtain⟨x,hx1,hx2⟩:=Alj hT h1 (hok 0 t v rfl rfl) (hl t (by simp)) (fun n hn=>hw n (.inl hn)) β;obtain⟨hdl,xs,hxl,hxs,hxr⟩:=Afa hT β ts vs ds q h2 (fun j t v ht hv=>hok (j+1) t v (by grind) (by grind)) (fun t ht=>hl t (by simp[ht])) (fun n hn=>hw n (.inr hn));refine⟨by simp[hdl],x::xs,by simp[hxl],⟨hx1,hxs⟩,fun i y hy=> ?_⟩
  grind
 |[],[],_::_,_,h,_,_,_=>h.elim
 |[],_::_,_,_,h,_,_,_=>by cases ‹List (DataW H)› <;>exact h.elim
 |_::_,[],_,_,h,_,_,_=>by cases ‹List (DataW H)› <;>exact h.elim
 |_::_,_::_,[],_,h,_,_,_=>h.elim
theorem Afb{H:Type}{enc:TypeId×Value->H}{P:Program}(hlo:laidOutB P=true){W W':World}(hb:Below W.heap.size W W'): ∀(ts:List TypeId) (vs:List Value) (ds:List (DataW H)) (ps:List MemPlace),DataW.TrodAll enc P W 0 (fun _=>true) true ts vs ds ps->
  (∀t∈ts,(P.readableRec t&&decide (t<P.types.size))=true)->DataW.TrodAll enc P W' 0 (fun b=>decide (b<W.heap.size)) true ts vs ds ps
 |[],[],[],ps,h,_=>h
 |t::ts,v::vs,d::ds,ps,h,hr=>by
  obtain⟨p,q,h1,h2,rfl⟩:=h;have:=hr t (by simp);simp only[Z4,decide_eq_true_eq]at this;have hlt: ∀x∈p,x.block<W.heap.size:=by
   obtain⟨n,hn⟩:=h1;exact DataW.trod_lt n _ _ _ hn
  exact⟨p,q,Below.trod hlo this.1 this.2 h1 hb hlt,Afb hlo hb ts vs ds q h2 (fun t ht=>hr t (by simp[ht])),rfl⟩
 |[],[],_::_,_,h,_=>h.elim
 |[],_::_,_,_,h,_=>by assumption
 |_::_,[],_,_,h,_=>by assumption
 |_::_,_::_,[],_,h,_=>h.elim
theorem Ax0{H:Type}{enc:TypeId×Value->H}{C:Checked}{os:Os}{f:FuncId}{fn:Func}{s:ChangeSpec}{conds:List PathCond}{T:Tab}{b:TypeId}
  (own:ownKnob C.prog.godebug=none) (started:os.Started) (hlo:laidOutB C.prog=true) (noInit:C.prog.inits.idxOf? f=none) (hfn:C.prog.funcs[f]? =some fn)
  (witness: ∃(w:World) (tape:Tape) (i:Input),w.os=os/\(w.forCall tape i).Shaped C.prog/\i.vars=[]/\Input.okWide C.prog (w.forCall tape i) .any w.heap.size f i/\
   s.pre6 enc C.prog fn conds false (w.forCall tape i).memory i.args/\({}:Assume).holds C.prog (lone (Frame.enter C.prog f i.args .normal) [] (w.forCall tape i)))
  (hT:Av C.prog T) (hvars:s.vars=[]) (hfn1: ∀ds:List (DataW H),ds.length=fn.params.toList.length->s.fn H (ds++[])={results:=[.lit (.bool true)],args:=ds,vars:=[]})
  (hres:fn.resultTypes= #[b]) (hbool:C.prog.underlying b=some .bool) (hleaf:fn.params.toList.all (fun t=>(Bv T 50 t).isSome)=true) (hread:fn.params.toList.all (fun t=>C.prog.readableRec t&&decide (t<C.prog.types.size))=true)
  (hsp: ∀xs,Ub T fn.params.toList xs->Sp C.prog f xs [] (.c (.bool true)) []):
  ReturnsInHanded {} C os f .any (s.pre6 enc C.prog fn conds false) (s.post enc C.prog fn false true false false):=by
 refine returnsInHanded_of_change_sized own started noInit hfn witness ?_;intro W base args ds gs before hval hW hcnd hsz _;have hW':=hW;obtain⟨p,q,hA,hV,rfl,hfz,hnd⟩:=hW;have hV':DataW.TrodVars enc C.prog W (fun _=>true) [] gs q:=by grind
 obtain⟨rfl,rfl⟩:=trodVars_none hV';have hvt:s.plain.varTypes C.prog=[]:=by grind [ChangeSpec.plain,DataSpec.varTypes]
 have hsz': ∀n∈DataW.weightsEach C.prog fn.params.toList ds,n<=reachBytes:=by
  grind
 obtain⟨hdl,xs,hxl,hxs,hxr⟩:=Afa hT (fun _=>none) fn.params.toList args.toList ds p hA (fun j t v ht hv=>hval j t v (by grind) (by grind)) (fun t ht=>Z1.1 hleaf t ht) hsz';have hr0:HR ⟨W,fun _=>[],fun _=>none,C7 [],fun _=>1⟩:=⟨rfl,fun id B hB=>(by cases id<;>cases hB),fun _ _=>rfl⟩
 refine(hsp xs hxs args W (fun _=>[]) (fun _=>none) hr0 (by grind) (fun i x hi=>by grind)).mono ?_
 rintro e W' ⟨v,σ',β',rfl,kp,_,_,_,hv⟩
 have hv2:=Jk hv;subst hv2;have hb:Below W.heap.size W W':=⟨kp.os,kp.tape,kp.output,kp.size,fun k hk=>kp.heap k hk (.inl rfl)⟩;refine⟨_,rfl,ds,[],p++[],[],p,[],hW',?_,?_,?_,hb.frame _,fun h=>by cases h⟩
 ·rw[hfn1 ds hdl,hres];exact trodAll_mk1 (shut_bool hbool _)
 ·rw[hfn1 ds hdl];exact Afb hlo hb _ _ _ _ hA (fun t ht=>Z1.1 hread t ht)
 ·rw[hfn1 ds hdl,hvars];rfl
def V.frz1 (id:Nat)(B:Blk):V->V
 | .own i ver off len=>if i=id then(if B.ver=ver then C1 B off len else .undef)else .own i ver off len
 | .ptr i ver k j=>if i=id then(if B.ver=ver/\B.xs.length<=maxLen then .ip B.es (shareLL B.xs) k j else .undef)else .ptr i ver k j
 | .fn _ _=> .undef
 |v=>v
def V.frz (id:Nat)(B:Blk):V->V
 | .fn f caps=> .fn f (caps.map (V.frz1 id B))
 |v=>v.frz1 id B
def A.frz (id:Nat)(B:Blk):A->A
 | .c v=> .c (v.frz id B)
 | .g cs=> .g (cs.map (V.frz id B))
 | .t _=> .c .undef
def St.frz (S:St)(id:Nat)(B:Blk):St:=
 ⟨fun t=>(S.env t).frz id B,fun i=>if i=id then none else(S.H i).map fun B'=>⟨B'.ver,B'.es,B'.xs.map fun x=>x.map (V.frz id B)⟩,S.nv⟩
section
variable {F:Fr} {S:St} {a:Act} {w:World} {σ:Nat->List Nat} {β:Nat->Option (Nat×Nat×Nat)} {id:Nat} {B:Blk}
def Bw (id:Nat)(p:List Nat):List Nat:=match p with|[]=>[]|i::r=>if i=id then []else i::r
theorem Kv (hs:Ac F S a w σ β)(hB:S.H id=some B)(hcl:allClosed B=true){p:List Nat}(hp:p=[]\/ ∃i r,p=i::r/\i≠id){v:V}{c:Value}(h:RV (S.cx w σ β) p v c):
  RV ((S.frz id B).cx w (fun b=>Bw id (σ b)) β) p (v.frz1 id B) c:=by
 have hbr:=(hs.hr.blk id B hB).2;have hσ: ∀b,b<w.heap.size->(σ b=[]\/[id] <+: σ b)->Bw id (σ b)=[]:=by
  intro b _ h;rcases h with h|⟨r,h⟩
  all_goals grind [Bw]
 have hold: ∀i B',i≠id->(S.frz id B).H i=some B'-> ∃B0,S.H i=some B0/\B'.ver=B0.ver/\B'.es=B0.es/\B'.xs.length=B0.xs.length:=by
  intro i B' hi h;have h':(S.H i).map (fun B'=>(⟨B'.ver,B'.es,B'.xs.map fun x=>x.map (V.frz id B)⟩:Blk))=some B':=by
   simp_all[St.frz]
  obtain⟨B0,h1,rfl⟩:=Z5.1 h'
  grind
 cases h with
 |c h=>
  have e:V.frz1 id B v=v:=by cases h<;>rfl
  rw[e];refine .c (h.mono fun b hb hc=>⟨rfl,?_⟩);show Bw id (σ b)=σ b;rcases hc with hc|⟨hne,hc⟩
  ·rw[show σ b=[] from hc];rfl
  ·rcases hp with rfl|⟨i,r,rfl,hi⟩
   ·grind
   ·obtain⟨r',hr'⟩:=hc;rw[show σ b=i::(r++r') from hr'.symm];simp[Bw,hi]
 |own p i ver off len A n cap hn hver hcap hmax h=>
  simp only[V.frz1];by_cases hi:i=id
  ·subst hi;rw[if_pos rfl];by_cases ev:B.ver=ver
   ·rw[if_pos ev];obtain⟨h1,h2⟩:=h B hB ev;refine .c ?_;rcases Cz cap with h0|h0
    ·simp_all[RC.none,C1,shareLL]
    ·obtain⟨b,o,m,h3,rfl,h5⟩:=h2.at_ h0;rw[hn];exact Qc hbr h3 hcl hσ h1 hcap hmax p
   ·rw[if_neg ev];exact .undef _ _
  ·rw[if_neg hi];refine .own _ _ _ _ _ _ _ _ hn hver hcap hmax fun B' hB' ev=> ?_;obtain⟨B0,h1,h2,h3,h4⟩:=hold i B' hi hB';rw[h4,h3];exact h B0 h1 (by omega)
 |ptr p i ver k j ad hver h=>
  simp only[V.frz1];by_cases hi:i=id
  ·subst hi;rw[if_pos rfl];by_cases ev:B.ver=ver/\B.xs.length<=maxLen
   ·rw[if_pos ev];obtain⟨b,o,m,h3,h4⟩:=h B hB ev.1;have:=Qc hbr h3 hcl hσ (off:=0) (len:=B.xs.length) (cap:=B.xs.length) (by omega) (Z9 _) ev.2 [];rw[h4];refine .ip _ _ _ _ _ _ _ B.xs.length B.xs.length ?_;have this2:RC w (fun b=>Bw i (σ b)) [] (C1 B 0 B.xs.length) (.slice (some ⟨b,o+0*B.es,none⟩) B.xs.length B.xs.length):=this;show RC w (fun b=>Bw i (σ b)) [] (.row false B.es (shareLL B.xs)) _
    grind [C1]
   ·rw[if_neg ev];exact .undef _ _
  ·rw[if_neg hi];refine .ptr _ _ _ _ _ _ hver fun B' hB' ev=> ?_;obtain⟨B0,h1,h2,h3,h4⟩:=hold i B' hi hB';rw[h3];exact h B0 h1 (by omega)
 |ip p es xs k j b off n cap h=>
  refine .ip _ _ _ _ _ _ _ _ _ (h.mono fun b hb hc=>⟨rfl,?_⟩);have hc':σ b=[]:=hc.resolve_right (by simp);show Bw id (σ b)=σ b;rw[hc'];rfl
 |fn p f caps cs cv hs h1 h2=>exact .undef _ _
 |skip p=>exact .skip _
 |undef p v=>exact .undef _ _
theorem Uc (hs:Ac F S a w σ β)(hB:S.H id=some B)(hcl:allClosed B=true){p:List Nat}(hp:p=[]\/ ∃i r,p=i::r/\i≠id){v:V}{c:Value}(h:RV (S.cx w σ β) p v c):
  RV ((S.frz id B).cx w (fun b=>Bw id (σ b)) β) p (v.frz id B) c:=by
 cases h with
 |fn p f caps cs cv hsz h1 h2=>
  refine .fn _ _ _ _ cv (by grind) (fun i v hi=> ?_) (fun i v hi=> ?_)
  ·grind
  ·rw[As]at hi;obtain⟨v0,h3,rfl⟩:=Z5.1 hi;exact Kv hs hB hcl (.inl rfl) (h2 i v0 h3)
 |c h=>
  have:=Kv hs hB hcl hp (.c h);cases h<;>exact this
 |own p i ver off len A n cap hn hver hcap hmax h=>exact Kv hs hB hcl hp (.own _ _ _ _ _ _ _ _ hn hver hcap hmax h)
 |ptr p i ver k j ad hver h=>exact Kv hs hB hcl hp (.ptr _ _ _ _ _ _ hver h)
 |ip p es xs k j b off n cap h=>exact Kv hs hB hcl hp (.ip _ _ _ _ _ _ _ _ _ h)
 |skip p=>exact .skip _
 |undef p v=>exact .undef _ _
theorem Ac.frz (hs:Ac F S a w σ β)(hB:S.H id=some B)(hcl:allClosed B=true):Ac F (S.frz id B) a w (fun b=>Bw id (σ b)) β:=by
 have hid0:id≠0:=by rintro rfl;have h0:S.H 0=none:=hs.hr.far;grind
 have hH: ∀i,i≠id->(S.frz id B).H i=(S.H i).map fun B'=>(⟨B'.ver,B'.es,B'.xs.map fun x=>x.map (V.frz id B)⟩:Blk):=fun i hi=>if_neg hi;refine⟨⟨?_,fun i B' hB'=> ?_,fun b hb=> ?_⟩,hs.mpos,⟨hs.kp.os,hs.kp.tape,hs.kp.output,hs.kp.size,hs.kp.heap,fun b hb hc=> ?_⟩,hs.inn,fun t=> ?_⟩
 ·show(S.frz id B).H 0=none;rw[hH 0 (fun h=>hid0 h.symm),show S.H 0=none from hs.hr.far];rfl
 ·by_cases hi:i=id
  ·have:(S.frz id B).H i=none:=if_pos hi;rw[show(S.frz id B).H i=some B' from hB']at this;cases this
  ·have h1:(S.frz id B).H i=some B':=hB';rw[hH i hi]at h1;obtain⟨B0,h2,rfl⟩:=Z5.1 h1;obtain⟨h3,h4⟩:=hs.hr.blk i B0 h2;refine⟨h3,?_⟩;cases e:β i with
   |none=>exact .mk_void e (by simp[h4.void e])
   |some q=>
    obtain⟨b,o,n⟩:=q;obtain⟨q1,q2,q3,arr,T,q4,q5,q6⟩:=h4.some e;refine .mk e ⟨by show Bw id (σ b)=[i];rw[show σ b=[i] from q1];simp[Bw,hi],?_,by grind,arr,T,q4,q5,fun k j x v hk hj=> ?_⟩
    ·grind
    ·simp only[As]at hk;obtain⟨x0,g1,rfl⟩:=Z5.1 hk;rw[As]at hj;obtain⟨v0,g2,rfl⟩:=Z5.1 hj;obtain⟨c,g3,g4⟩:=q6 k j x0 v0 g1 g2;exact⟨c,g3,Uc hs hB hcl (.inr ⟨i,[k,j],rfl,hi⟩) g4⟩
 ·show Bw id (σ b)=[];rw[show σ b=[] from hs.hr.new b hb];rfl
 ·show Bw id (σ b)=F.σ0 b;rw[hs.kp.free b hb hc];rcases hc with hc|hc
  ·rw[hc];rfl
  ·rw[hc];show(if 0=id then []else [0])=[0]
   grind
 ·have:=hs.env t;show RA _ ((S.env t).frz id B) _;cases hx:S.env t with
  |c v=>rw[hx]at this;cases this with|c h=>exact .c (Uc hs hB hcl (.inl rfl) h)
  |g cs=>
   rw[hx]at this;generalize a.tmps.getD t undef=c0 at this;cases this with
   |g _ arr hsz h=>
    refine .g _ _ (by grind) fun i v hi=> ?_
    rw[As]at hi;obtain⟨v0,h3,rfl⟩:=Z5.1 hi;obtain⟨c,h1,h2⟩:=h i v0 h3;exact⟨c,h1,Uc hs hB hcl (.inl rfl) h2⟩
  |t xs=>exact .c (.undef _ _)
theorem Ac.dropH (hs:Ac F S a w σ β)(id:Nat):Ac F ⟨S.env,Aa S.H id none,S.nv⟩ a w σ β:=by
 have hext:Cq (S.cx w σ β) ((⟨S.env,Aa S.H id none,S.nv⟩:St).cx w σ β):=⟨fun _=>Z9 _,fun i B' h _=>by
  have h':Aa S.H id none i=some B':=h;by_cases e:i=id
  ·grind [Q1]
  ·rw[Q0 _ _ e]at h';exact⟨B',h',rfl,rfl,rfl,rfl⟩⟩
 refine⟨⟨?_,fun i B' h=> ?_,hs.hr.new⟩,hs.mpos,hs.kp,hs.inn,fun t=>(hs.env t).mono hext (fun b _ _=>⟨rfl,rfl⟩)⟩
 ·show Aa S.H id none 0=none;by_cases e:0=id
  ·grind [Q1]
  ·rw[Q0 _ _ e];exact hs.hr.far
 ·have h':Aa S.H id none i=some B':=h;by_cases e:i=id
  ·grind [Q1]
  ·rw[Q0 _ _ e]at h';obtain⟨h1,h2⟩:=hs.hr.blk i B' h';exact⟨h1,h2.mono hext rfl (fun b _ _=>⟨rfl,rfl⟩)⟩
theorem Ac.retake (hs:Ac F S a w σ β)(hB:S.H id=some B){b o n:Nat}(hb:β id=some (b,o,n)){nid:Nat}(hnid:F.m<=nid){arr arr':Array Value}{T:TypeId}(hh:w.heap[b]? =some (.cells arr T (0,0)))(hsz:arr'.size=arr.size)
  {o' n' es:Nat} {xs':List (List V)} (hfit:o'+n'*es<=arr.size) (hlen:xs'.length<=n') (hes: ∀x∈xs',x.length=es) (hl: ∀(k j:Nat) x v,xs'[k]? =some x->x[j]? =some v-> ∃c,arr'[o'+k*es+j]? =some c/\RV (S.cx w σ β) [] v c):
  Ac F ⟨S.env,Aa (Aa S.H id none) nid (some ⟨S.nv nid,es,xs'⟩),Aa S.nv nid (S.nv nid+1)⟩ a (w.setRow b arr') (Aa σ b [nid]) (Aa β nid (some (b,o',n'))):=by
 have hid0:id≠0:=by rintro rfl;have h0:S.H 0=none:=hs.hr.far;grind
 have hn0:nid≠0:=by grind [mpos]
 obtain⟨hσ,_⟩:=(hs.hr.blk id B hB).2.some hb;have hσ:σ b=[id]:=hσ;have hother: ∀b',b'≠b->(w.setRow b arr').heap[b']? =w.heap[b']? /\Aa σ b [nid] b'=σ b':=fun b' h=>⟨setRow_other w b b' arr' h,Q0 _ _ h⟩
 have hnear: ∀p,¬(p≠[]/\p <+: [id])->Bg w σ (w.setRow b arr') (Aa σ b [nid]) p:=by
  intro p hp b' _ hc
  grind
 let S':St:=⟨S.env,Aa (Aa S.H id none) nid (some ⟨S.nv nid,es,xs'⟩),Aa S.nv nid (S.nv nid+1)⟩
 have hext:Cq (S.cx w σ β) (S'.cx (w.setRow b arr') (Aa σ b [nid]) (Aa β nid (some (b,o',n')))):=by
  refine⟨fun i=> ?_,fun i B' h hv=> ?_⟩
  ·show S.nv i<=Aa S.nv nid (S.nv nid+1) i;by_cases e:i=nid
   all_goals simp_all[Q1,Q0]
  ·have h':Aa (Aa S.H id none) nid (some ⟨S.nv nid,es,xs'⟩) i=some B':=h;by_cases e:i=nid
   ·subst e;rw[Q1]at h';cases h';exact absurd hv (Nat.lt_irrefl _)
   ·rw[Q0 _ _ e]at h';by_cases e2:i=id
    ·grind [Q1]
    ·rw[Q0 _ _ e2]at h';exact⟨B',h',rfl,rfl,rfl,Q0 _ _ e⟩
 refine⟨⟨?_,fun i B' h=> ?_,fun b' hb'=> ?_⟩,hs.mpos,⟨hs.kp.os,hs.kp.tape,hs.kp.output,?_,fun b' hb' h0=> ?_,fun b' hb' h0=> ?_⟩,fun i hi=> ?_,fun t=>(hs.env t).mono hext (hnear [] (by simp))⟩
 ·show Aa (Aa S.H id none) nid _ 0=none;rw[Q0 _ _ (fun h=>hn0 h.symm),Q0 _ _ (fun h=>hid0 h.symm)];exact hs.hr.far
 ·have h':Aa (Aa S.H id none) nid (some ⟨S.nv nid,es,xs'⟩) i=some B':=h;by_cases e:i=nid
  ·subst e;rw[Q1]at h';cases h';refine⟨by show S.nv i<Aa S.nv i (S.nv i+1) i;rw[Q1];omega,BR.mk (Q1 _ _ _) ⟨Q1 _ _ _,hes,hlen,arr',T,setRow_heap w b arr arr' T (0,0) hh,by grind,fun k j x v hk hj=> ?_⟩⟩;obtain⟨c,h1,h2⟩:=hl k j x v hk hj;exact⟨c,h1,(h2.mono hext (hnear [] (by simp))).any _⟩
  ·rw[Q0 _ _ e]at h';by_cases e2:i=id
   ·grind [Q1]
   ·rw[Q0 _ _ e2]at h';obtain⟨h1,h2⟩:=hs.hr.blk i B' h';refine⟨by show B'.ver<Aa S.nv nid (S.nv nid+1) i;rw[Q0 _ _ e];exact h1,h2.mono hext (Q0 _ _ e) (hnear [i] (fun hp=> ?_))⟩
    grind
 ·have hb2:w.heap.size<=b':=by have:(w.setRow b arr').heap.size<=b':=hb';simp_all
  show Aa σ b [nid] b'=[];rw[Q0 _ _ (by grind)];exact hs.hr.new b' hb2
 ·rw[setRow_size];exact hs.kp.size
 ·rw[(hother b' (fun e=> ?_)).1]
  ·exact hs.kp.heap b' hb' h0
  ·subst e;have:=hs.kp.free b' hb' h0
   grind
 ·rw[(hother b' (fun e=> ?_)).2]
  ·exact hs.kp.free b' hb' h0
  ·subst e;have:=hs.kp.free b' hb' h0
   grind
 grind [Q0,inn]
end
def Cc (S:St):V->Option (List (List V))
 | .row _ _ xs=>some xs
 | .own id ver off len=>match S.H id with
  |some B=>match Nat.decEq B.ver ver with
   | .isTrue _=>some ((B.xs.drop off).take len)
   |_=>none
  |none=>none
 |_=>none
def B9:V->List Nat
 | .own id _ _ _=>[id]
 |_=>[]
def Qm (S:St)(es:Nat):V->Prop
 | .row _ e _=>e=es
 | .own id _ _ _=> ∀B,S.H id=some B->B.es=es
 |_=>True
def Ud:V->Bool
 | .row true _ _=>false
 | .undef=>false
 | .skip=>false
 |_=>true
def noT (xs:List (List V)):Bool:=xs.all fun x=>x.all Ud
theorem Qn{xs:List (List V)}(h:noT xs=true){k j:Nat}{x:List V}{v:V}(hk:xs[k]? =some x)(hj:x[j]? =some v):v≠ .undef/\v≠ .skip:=by
 have:=Z1.1 (Z1.1 h x (Z6 hk)) v (Z6 hj);constructor<;>rintro rfl<;>cases this
theorem Ue{xs:List (List V)}(h:noT xs=true){k j:Nat}{x:List V}{v:V}(hk:xs[k]? =some x)(hj:x[j]? =some v):D7 v=false:=by
 have:=Z1.1 (Z1.1 h x (Z6 hk)) v (Z6 hj);cases v with
 |row o es ys=>cases o with
  |true=>cases this
  |false=>rfl
 |_=>rfl
section
variable {F:Fr} {S:St} {a:Act} {w:World} {σ:Nat->List Nat} {β:Nat->Option (Nat×Nat×Nat)}
theorem Qo (hs:Ac F S a w σ β){v:V}{c:Value}(h:RV (S.cx w σ β) [] v c){es:Nat}{xs:List (List V)}(hr:Cc S v=some xs)(hes:Qm S es v)(hn:noT xs=true)(hpos:0<es):
  ∃A cap,c= .slice A xs.length cap/\xs.length<=cap/\cap<=maxLen/\(∀x∈xs,x.length=es)/\(0<xs.length-> ∃b o,A=some ⟨b,o,none⟩/\ ∀(k j:Nat) x v,xs[k]? =some x->x[j]? =some v-> ∃u,w.cell? ⟨b,o+k*es+j,none⟩=some u/\RV (S.cx w σ β) [] v u):=by
 cases h with
 |c h=>
  cases h with
  |row p o es' xs' A n cap b off cs hn' hcap hmax hA hT hx hc hrr=>
   simp only[Cc,Z7]at hr;subst hr;have hes:es'=es:=hes;subst hes;subst hn';refine⟨A,cap,rfl,hcap,hmax,hx,fun h0=>⟨b,off,hA h0,fun k j x v hk hj=>⟨cs k j,(hc k j x v hk hj).1,?_⟩⟩⟩;have:=hrr k j x v hk hj;cases o with
   |false=>exact .c (by grind)
   |true=>grind
  |_=>simp[Cc]at hr
 |own p id ver off len A n cap hn' hver hcap hmax h=>
  simp only[Cc]at hr;cases eB:S.H id with
  |none=>grind
  |some B=>
   rw[eB]at hr;simp only at hr;split at hr
   ·rename_i hv _;simp only[Z7]at hr;obtain⟨h1,h2⟩:=h B eB hv;have hbe:B.es=es:=hes B eB;have hxl:xs.length=len:=by grind
    rw[hn'];have hbr:=(hs.hr.blk id B eB).2;have hxes: ∀x∈xs,x.length=es:=by
     intro x hx;rw[<-hr]at hx;have hm:=List.mem_of_mem_drop (Kk hx);cases e:β id with
     |none=>
      have:=hbr.void e
      grind
     |some q=>
      obtain⟨b,o,m⟩:=q;rw[<-hbe];exact(hbr.some e).2.1 x hm
    refine⟨A,cap,by rw[hxl],by omega,hmax,hxes,fun h0=> ?_⟩;obtain⟨b,o,m,h3,rfl,h5⟩:=h2.at_ (by omega);obtain⟨q1,q2,q3,arr,T,q4,q5,q6⟩:=hbr.some h3;refine⟨b,o+off*B.es,rfl,fun k j x v hk hj=> ?_⟩;have hk':B.xs[off+k]? =some x:=by
     grind
    obtain⟨u,g1,g2⟩:=q6 (off+k) j x v hk' hj;refine⟨u,?_,M1 g2 (Ue hn hk hj)⟩;refine(Cb (w:=w) q4).trans ?_
    grind
   grind
 |_=>simp[Cc]at hr
theorem Qp{E:Cx}{w:World}{es b o:Nat}(hpos:0<es): ∀(xs:List (List V)),(∀x∈xs,x.length=es)->(∀(k j:Nat) x v,xs[k]? =some x->x[j]? =some v-> ∃u,w.cell? ⟨b,o+k*es+j,none⟩=some u/\RV E [] v u)->
  ∃us:List Value,us.length=xs.length*es/\(∀(j:Nat) u,us[j]? =some u->w.cell? ⟨b,o+j,none⟩=some u)/\ ∀(k j:Nat) x v,xs[k]? =some x->x[j]? =some v-> ∃u,us[k*es+j]? =some u/\RV E [] v u:=by
 intro xs hes h
 let us:List Value:=(List.range (xs.length*es)).map fun i=>(w.cell? ⟨b,o+i,none⟩).getD undef
 refine⟨us,by simp[us],fun j u hj=> ?_,fun k j x v hk hj=> ?_⟩
 ·simp only[us,As]at hj;obtain⟨i,hi,rfl⟩:=Z5.1 hj;have hlt:j<xs.length*es:=by
   grind
  rw[List.getElem?_range hlt]at hi;cases hi;have hq:j / es<xs.length:=Nat.div_lt_of_lt_mul (by grind);have hk:xs[j / es]? =some xs[j / es]:=A3 hq;have hm:j % es<es:=Nat.mod_lt _ hpos;have hxl:xs[j / es].length=es:=hes _ (Z6 hk);obtain⟨u,hu,_⟩:=h (j / es) (j % es) _ _ hk (A3 (by omega))
  grind [Nat.div_add_mod]
 ·obtain⟨u,hu,hr⟩:=h k j x v hk hj;have hxl:x.length=es:=hes x (Z6 hk);have hj':j<es:=by grind
  have hk':k<xs.length:=(Z3.1 hk).1;have hlt:k*es+j<xs.length*es:=by
   have:(k+1)*es<=xs.length*es:=Bx _ hk'
   grind
  grind
end
theorem M3{P:Program}{T:Tab}(hT:Av P T){t ty e:Nat}{ti te:TI}(ht:tg T t=some ti)(hk:ti.k= .slice e)(he:tg T e=some te)(w:World)(A:Option Addr)(n cap:Nat)(A2:Option Addr)(m cap2:Nat)(news:List Value)(hl:news.length=m*te.size)(hnews:0<m-> ∃x,A2=some x/\ ∀(j:Nat) u,news[j]? =some u->w.cell? (x.add j)=some u):
  (n+m<=cap->(Builtin.append_ #[t,t] ty #[.slice A n cap,.slice A2 m cap2]).run P w=match A with
   |none=> .ok (.slice none (n+m) cap) w
   |some b=>((storeCells (b.add (n*te.size)) news)>>=fun _=>(pure (.slice (some b) (n+m) cap):Sem Value)).run P w):=by
 intro hroom;have hu:=(hT.ty ht).slice hk;have hsz:=(hT.ty he).sizeOf w;have hfc:(Builtin.firstCells te.size m (.slice A2 m cap2)).run P w= .ok news.toArray w:=by
  rcases Cz m with h0|h0
  ·subst h0;have:news=[]:=by grind
   subst this;cases A2 with
   |none=>rfl
   |some x=>
    simp_all[run_firstCells_some]
  ·obtain⟨x,rfl,hx⟩:=hnews h0;exact run_firstCells_some (P:=P) w te.size m x m cap2 news hl hx
 cases A with
 |none=>simp[Builtin.append_,run_underlying hu,hsz,Builtin.lenOf,hroom,hfc]
 |some b=>simp[Builtin.append_,run_underlying hu,hsz,Builtin.lenOf,hroom,hfc]
theorem Uf{P:Program}(w:World)(size n:Nat)(A:Option Addr)(c1 c2:Nat)(l:List Value)(hl:l.length=n*size)(h:0<n-> ∃x,A=some x/\ ∀(j:Nat) u,l[j]? =some u->w.cell? (x.add j)=some u):
  (Builtin.firstCells size n (.slice A c1 c2)).run P w= .ok l.toArray w:=by
 rcases Cz n with h0|h0
 ·subst h0;have:l=[]:=by grind
  subst this;cases A with
  |none=>rfl
  |some x=>grind [run_firstCells_some]
 grind [run_firstCells_some]
theorem M4{P:Program}{T:Tab}(hT:Av P T){t ty e:Nat}{ti te:TI}(ht:tg T t=some ti)(hk:ti.k= .slice e)(he:tg T e=some te)(hzl:te.zero.length=te.size)(w:World)(A:Option Addr)(n cap:Nat)(A2:Option Addr)(m cap2:Nat)(olds news:List Value)(hlo:olds.length=n*te.size)(holds:0<n-> ∃x,A=some x/\ ∀(j:Nat) u,olds[j]? =some u->w.cell? (x.add j)=some u)
  (hl:news.length=m*te.size) (hnews:0<m-> ∃x,A2=some x/\ ∀(j:Nat) u,news[j]? =some u->w.cell? (x.add j)=some u) (hg:cap<n+m) (h63:n+m<=maxLen) (hb:(n+m)*te.bytes<=140737488355328):
  ∃arr,(Builtin.append_ #[t,t] ty #[.slice A n cap,.slice A2 m cap2]).run P w= .ok (.slice (some ⟨w.heap.size,0,none⟩) (n+m) (grownCap w (n+m) cap e)) (w.drew.alloc (.cells arr e))/\
   arr.size=grownCap w (n+m) cap e*te.size/\(∀(j:Nat) u,(olds++news)[j]? =some u->arr[j]? =some u)/\n+m<=grownCap w (n+m) cap e/\grownCap w (n+m) cap e<=maxLen:=by
 have hu:=(hT.ty ht).slice hk;have hsz:=(hT.ty he).sizeOf;obtain⟨inf,hi1,hi2,hi3⟩:=(hT.ty he).info w.drew;obtain⟨inf',hj1,hj2,hj3⟩:=(hT.ty he).info w;obtain⟨z,hz,hzc,_⟩:=(hT.ty he).zero w.drew;have hzs:z.cells.size=te.size:=by
  obtain⟨q1,_⟩:=Ks (E:=⟨w,fun _=>[],fun _=>none,fun _=>none,fun _=>0⟩) hzc
  grind
 have hge:=grownCap_ge w (n+m) cap e;have hcm:=grownCap_le_maxLen w (n+m) cap e h63;have hn: ¬(n+m<=cap):=by omega
 have hsmall:n+m<=9223372036854775807:=by assumption
 have h63': ¬(9223372036854775807<((n:Int)+(m:Int))):=by omega
 have hfit:=growslice_fits hg hb;have h48': ¬(281474976710656<Builtin.nextslicecap (n+m) cap*inf'.bytes):=by grind
 have hfo:=Uf (P:=P) w.drew te.size n A n cap olds hlo (by simp_all);have hfn:=Uf (P:=P) w.drew te.size m A2 m cap2 news hl (by simp_all);refine⟨olds.toArray++news.toArray++Builtin.zeroCells z.cells (grownCap w (n+m) cap e - (n+m)),?_,?_,?_,hge,hcm⟩
 ·simp[Builtin.append_,run_underlying hu,hsz,Builtin.lenOf,hn,hj1,hi1,h63',h48',Question.forced,hfo,hfn,hz,newRow,grownCap]
  grind
 ·simp only[Array.size_append,List.size_toArray,size_zeroCells,hzs,hlo,hl,<-D6]
  grind
 grind
section
variable {F:Fr} {S:St} {a:Act} {w:World} {σ:Nat->List Nat} {β:Nat->Option (Nat×Nat×Nat)}
theorem Ac.void (hs:Ac F S a w σ β){nid:Nat}(hnid:F.m<=nid)(es:Nat):Ac F (S.set nid ⟨S.nv nid,es,[]⟩) a w σ (Aa β nid none):=by
 have hext:=To (S:=S) (w:=w) (σ:=σ) (β:=β) nid es [] w σ (β':=Aa β nid none) (fun i hi=>Q0 _ _ hi);have hn0:nid≠0:=by have:=hs.mpos;omega
 refine⟨⟨(Q0 _ _ (fun h=>hn0 h.symm)).trans hs.hr.far,fun i B hB=> ?_,hs.hr.new⟩,hs.mpos,hs.kp,fun i hi=> ?_,fun t=>(hs.env t).mono hext (fun b _ _=>⟨rfl,rfl⟩)⟩
 ·have h':Aa S.H nid (some ⟨S.nv nid,es,[]⟩) i=some B:=hB;by_cases e:i=nid
  ·subst e;rw[Q1]at h';cases h';exact⟨by show S.nv i<Aa S.nv i (S.nv i+1) i;rw[Q1];omega,.mk_void (Q1 _ _ _) rfl⟩
  ·rw[Q0 _ _ e]at h';obtain⟨h1,h2⟩:=hs.hr.blk i B h';exact⟨by show B.ver<Aa S.nv nid (S.nv nid+1) i;rw[Q0 _ _ e];exact h1,h2.mono hext (Q0 _ _ e) (fun b _ _=>⟨rfl,rfl⟩)⟩
 ·rw[Q0 _ _ (by omega)];exact hs.inn i hi
end
theorem Jo{xs:List (List V)}{es:Nat}(h: ∀x∈xs,x.length=es){k j:Nat}{x:List V}{v:V}(hk:xs[k]? =some x)(hj:x[j]? =some v):k<xs.length/\j<es:=by
 grind
def Afc:V->Bool
 | .own _ _ _ _=>true
 | .row true _ []=>true
 |_=>false
section
variable {F:Fr} {S:St} {o:Oper} {T:Tab}
theorem Ac.drawn'{a:Act}{w:World}{σ:Nat->List Nat}{β:Nat->Option (Nat×Nat×Nat)}(hx:Ac F S a w σ β):Ac F S a w.drew σ β:=by
 have hext:Cq (S.cx w σ β) (S.cx w.drew σ β):=⟨fun _=>Z9 _,fun id B h _=>⟨B,h,rfl,rfl,rfl,rfl⟩⟩;have hn: ∀p,Bg w σ w.drew σ p:=fun p b _ _=>⟨rfl,rfl⟩;refine⟨⟨hx.hr.far,fun id B hB=> ?_,hx.hr.new⟩,hx.mpos,⟨hx.kp.os,hx.kp.tape,hx.kp.output,hx.kp.size,hx.kp.heap,hx.kp.free⟩,hx.inn,fun t=>(hx.env t).mono hext (hn [])⟩;obtain⟨e1,e2⟩:=hx.hr.blk id B hB;exact⟨e1,e2.mono hext rfl (hn [id])⟩
theorem Alk (hT:Av F.P T){a:Act}{w:World}(hdf:a.defers=[])(hszt:a.tmps.size=F.N){σ:Nat->List Nat}{β:Nat->Option (Nat×Nat×Nat)}(hs:Ac F S a w σ β){t ty e:Nat}{ti te:TI}(ht:tg T t=some ti)(hk:ti.k= .slice e)(he:tg T e=some te)(hpos:0<te.size)(hzl:te.zero.length=te.size)
  {u v:V} {cu cv:Value} (hu:RV (S.cx w σ β) [] u cu) (hv:RV (S.cx w σ β) [] v cv) {xs ys:List (List V)} (hxr:Cc S u=some xs) (hyr:Cc S v=some ys)
  (hbase:Afc u=true)
  (hxe:Qm S te.size u) (hye:Qm S te.size v)
  (hxt:noT xs=true) (hyt:noT ys=true) (hb:(xs.length+ys.length)*te.bytes<=140737488355328) (hm:xs.length+ys.length<=maxLen) (nid:Nat) (hnid:F.m<=nid):
  ∃c w' σ' β',(Builtin.append_ #[t,t] ty #[cu,cv]).run F.P w= .ok c w'/\
   Ac F ⟨S.env,Aa (Bn S.H ((B9 u).map fun i=>(i,none))) nid (some ⟨S.nv nid,te.size,xs++ys⟩),Aa S.nv nid (S.nv nid+1)⟩ a w' σ' β'/\
   RV ((⟨S.env,Aa (Bn S.H ((B9 u).map fun i=>(i,none))) nid (some ⟨S.nv nid,te.size,xs++ys⟩),Aa S.nv nid (S.nv nid+1)⟩:St).cx w' σ' β') [] (.own nid (S.nv nid) 0 (xs.length+ys.length)) c:=by
 obtain⟨A,cap,rfl,hc1,hc2,hxes,hxc⟩:=Qo hs hu hxr hxe hxt hpos;obtain⟨A2,cap2,rfl,hd1,hd2,hyes,hyc⟩:=Qo hs hv hyr hye hyt hpos;obtain⟨news,hnl,hnc,hnv⟩: ∃news:List Value,news.length=ys.length*te.size/\(0<ys.length-> ∃x,A2=some x/\ ∀(j:Nat) u,news[j]? =some u->w.cell? (x.add j)=some u)/\ ∀(k j:Nat) x v,ys[k]? =some x->x[j]? =some v-> ∃u,news[k*te.size+j]? =some u/\RV (S.cx w σ β) [] v u:=by
  rcases Cz ys.length with h0|h0
  ·simp_all
  ·obtain⟨b,o2,rfl,h⟩:=hyc h0;simp_all[Qp,Cv]
 obtain⟨olds,hol,hoc,hov⟩: ∃olds:List Value,olds.length=xs.length*te.size/\(0<xs.length-> ∃x,A=some x/\ ∀(j:Nat) u,olds[j]? =some u->w.cell? (x.add j)=some u)/\ ∀(k j:Nat) x v,xs[k]? =some x->x[j]? =some v-> ∃u,olds[k*te.size+j]? =some u/\RV (S.cx w σ β) [] v u:=by
  rcases Cz xs.length with h0|h0
  ·simp_all
  ·obtain⟨b,o2,rfl,h⟩:=hxc h0;simp_all[Qp,Cv]
 have hall: ∀x∈xs++ys,x.length=te.size:=fun x hx=>(C5.1 hx).elim (hxes x) (hyes x)
 have hdrop:Ac F ⟨S.env,Bn S.H ((B9 u).map fun i=>(i,none)),S.nv⟩ a w σ β:=by
  cases u with
  |own id ver off len=>exact hs.dropH id
  |_=>exact hs
 rcases Bj cap (xs.length+ys.length)with hg|hroom
 ·
  obtain⟨arr,hrun,hasz,hac,hge,hcm⟩:=M4 (ty:=ty) hT ht hk he hzl w A xs.length cap A2 ys.length cap2 olds news hol hoc hnl hnc hg hm hb;have hs2:=Ac.drawn' hdrop;have hl:Hh ((⟨S.env,Bn S.H ((B9 u).map fun i=>(i,none)),S.nv⟩:St).cx w.drew σ β) te.size (xs++ys) arr:=by
   refine⟨hall,fun k j x v hk hj=> ?_⟩;have hext:Cq (S.cx w σ β) ((⟨S.env,Bn S.H ((B9 u).map fun i=>(i,none)),S.nv⟩:St).cx w.drew σ β):=by
    refine⟨fun _=>Z9 _,fun i B' h _=> ?_⟩;have h':Bn S.H ((B9 u).map fun i=>(i,none)) i=some B':=h;cases u with
    |own id ver off len=>
     have h2:Aa S.H id none i=some B':=h';by_cases e:i=id
     ·grind [Q1]
     ·rw[Q0 _ _ e]at h2;exact⟨B',h2,rfl,rfl,rfl,rfl⟩
    |_=>exact⟨B',h',rfl,rfl,rfl,rfl⟩
   rcases Bj k xs.length with hk2|hk2
   ·rw[D5 hk2]at hk;obtain⟨uu,q1,q2⟩:=hov k j x v hk hj;obtain⟨_,hj2⟩:=Jo hxes hk hj;refine⟨uu,hac _ _ ?_,q2.mono hext (fun b _ _=>⟨rfl,rfl⟩)⟩
    grind
   ·rw[C4 hk2]at hk;obtain⟨uu,q1,q2⟩:=hnv (k - xs.length) j x v hk hj;refine⟨uu,hac _ _ ?_,q2.mono hext (fun b _ _=>⟨rfl,rfl⟩)⟩;have e:k*te.size+j=olds.length+((k - xs.length)*te.size+j):=by
     rw[hol,Nat.sub_mul];have:xs.length*te.size<=k*te.size:=Bx _ hk2;omega
    grind
  have hal:=hs2.alloc hnid (es:=te.size) (n:=grownCap w (xs.length+ys.length) cap e) (xs:=xs++ys) (arr:=arr) e hl (by grind) (by omega);refine⟨_,World.push w.drew arr e,_,_,hrun,hal,?_⟩;have:=Jm (S:=⟨S.env,Bn S.H ((B9 u).map fun i=>(i,none)),S.nv⟩) nid te.size (grownCap w (xs.length+ys.length) cap e) (xs++ys) (World.push w.drew arr e) (Aa σ w.drew.heap.size [nid]) β w.drew.heap.size (by grind) hcm;rw[Jd]at this;exact this
 ·
  have hrun:=M3 (ty:=ty) hT ht hk he w A xs.length cap A2 ys.length cap2 news hnl hnc hroom;have hnews1: ∀x∈news,x.oneCell'=true:=by
   intro x hx;obtain⟨j,hj⟩:=C6.1 hx;have hjl:j<ys.length*te.size:=by grind
   have hq:j / te.size<ys.length:=Nat.div_lt_of_lt_mul (by grind);have hyk:ys[j / te.size]? =some ys[j / te.size]:=A3 hq;have hyl:ys[j / te.size].length=te.size:=hyes _ (Z6 hyk);have hmod:j % te.size<ys[j / te.size].length:=by simp_all[Nat.mod_lt]
   obtain⟨uu,q1,q2⟩:=hnv (j / te.size) (j % te.size) _ _ hyk (A3 hmod);have e:j / te.size*te.size+j % te.size=j:=by simp_all[Nat.mul_comm,Nat.div_add_mod]
   rw[e,hj]at q1;cases q1;obtain⟨p1,p2⟩:=Qn hyt hyk (A3 hmod);exact q2.one p1 p2
  rcases Cz cap with h0|h0
  ·
   have hx0:xs=[]:=Ec.1 (by omega);have hy0:ys=[]:=Ec.1 (by omega);subst hx0;subst hy0;have hn0:news=[]:=by simp_all
   subst hn0;have hfin:Ac F ⟨S.env,Aa (Bn S.H ((B9 u).map fun i=>(i,none))) nid (some ⟨S.nv nid,te.size,[]⟩),Aa S.nv nid (S.nv nid+1)⟩ a w σ (Aa β nid none):=hdrop.void hnid te.size;refine⟨.slice A 0 cap,w,σ,Aa β nid none,?_,hfin,?_⟩
   ·rw[hrun];cases A with
    |none=>simp
    |some b=>rfl
   ·refine .own _ _ _ _ _ _ _ _ rfl (by show S.nv nid<Aa S.nv nid (S.nv nid+1) nid;rw[Q1];omega) (Hc _) hc2 fun B hB _=> ?_
    have h':Aa (Bn S.H ((B9 u).map fun i=>(i,none))) nid (some ⟨S.nv nid,te.size,[]⟩) nid=some B:=hB;rw[Q1]at h';cases h';exact⟨by simp,.inl h0⟩
  ·
   cases u with
   |own id ver off len=>
    cases hu with
    |c hu=>cases hu
    |own _ _ _ _ _ _ _ _ hn' hver _ hmax h=>
     simp only[Cc]at hxr;cases eB:S.H id with
     |none=>grind
     |some B=>
      rw[eB]at hxr;simp only at hxr;split at hxr
      ·rename_i hvv _;simp only[Z7]at hxr;obtain⟨h1,h2⟩:=h B eB hvv;have hbe:B.es=te.size:=hxe B eB;obtain⟨b,o',n',h3,rfl,h5⟩:=h2.at_ h0;obtain⟨q1,q2,q3,arr,T',q4,q5,q6⟩:=(hs.hr.blk id B eB).2.some h3;have hq5:o'+off*te.size+(n' - off)*te.size<=arr.size:=by
        rw[hbe]at q5;have:off*te.size+(n' - off)*te.size=n'*te.size:=by rw[<-D6];grind
        omega
       have hroom2:xs.length*te.size+ys.length*te.size<=(n' - off)*te.size:=by
        rw[<-D6];exact Bx _ (by omega)
       have hfit:(o'+off*te.size+xs.length*te.size)+0+news.length<=arr.size:=by omega
       have hst:=run_storeCells_at F.P b (o'+off*te.size+xs.length*te.size) T' news 0 arr w q4 hfit hnews1;simp only[Nat.add_zero]at hst;have hov2: ∀i,(An arr (o'+off*te.size+xs.length*te.size) news)[i]? =if o'+off*te.size+xs.length*te.size<=i/\i<o'+off*te.size+xs.length*te.size+news.length then news[i - (o'+off*te.size+xs.length*te.size)]? else arr[i]? :=Eh (by omega)
       have hfin:=hs.retake eB h3 hnid (arr':=An arr (o'+off*te.size+xs.length*te.size) news) q4 (Dx (by omega)) (o':=o'+off*te.size) (n':=n' - off) (es:=te.size) (xs':=xs++ys) hq5 (by grind) hall (fun k j x v hk hj=>by
        obtain⟨hkl,hjl⟩:=Jo hall hk hj;rcases Bj k xs.length with hk2|hk2
        ·rw[D5 hk2]at hk;have hk3:B.xs[off+k]? =some x:=by
          grind
         obtain⟨c,g1,g2⟩:=q6 (off+k) j x v hk3 hj;rw[hbe]at g1;have hlt:k*te.size+j<xs.length*te.size:=by
          grind
         refine⟨c,?_,M1 g2 (Ue hxt hk hj)⟩
         grind
        ·rw[C4 hk2]at hk;obtain⟨c,g1,g2⟩:=hnv (k - xs.length) j x v hk hj;have e:o'+off*te.size+k*te.size+j=o'+off*te.size+xs.length*te.size+((k - xs.length)*te.size+j):=by
          rw[Nat.sub_mul];have:xs.length*te.size<=k*te.size:=Bx _ hk2;omega
         have hgl:=(Z3.1 g1).1;simp_all)
       refine⟨.slice (some ⟨b,o'+off*B.es,none⟩) (xs.length+ys.length) cap,_,_,_,?_,hfin,?_⟩
       ·rw[hrun];simp only;rw[Cv,hbe];simp only[Sem.run_bind,hst,Result.andThen_ok,Sem.run_pure];rfl
       ·refine .own _ _ _ _ _ _ _ _ rfl (by show S.nv nid<Aa S.nv nid (S.nv nid+1) nid;rw[Q1];omega) hroom hc2 fun B2 hB2 _=> ?_
        have h':Aa (Aa S.H id none) nid (some ⟨S.nv nid,te.size,xs++ys⟩) nid=some B2:=hB2;rw[Q1]at h';cases h';refine⟨by simp,.inr ⟨b,o'+off*te.size,n' - off,Q1 _ _ _,by grind,by omega⟩⟩
      grind
   |row ob es zs=>
    cases hu with
    |c hu=>
     cases hu with
     |row p o es xs0 A0 n0 cap0 b off cs hn hcap hmax hA hT0 hx0 hcc hrr=>
      cases ob with
      |true=>
       grind
      |false=>cases zs<;>cases hbase
   |_=>cases hbase
end
def Da (S:St)(es:Nat):V->Bool
 | .row _ e _=>Nat.beq e es
 | .own id _ _ _=>match S.H id with|some B=>Nat.beq B.es es|none=>false
 |_=>false
theorem Ug{S:St}{es:Nat}{v:V}(h:Da S es v=true):Qm S es v:=by
 cases v with
 |row o e xs=>exact Z2 h
 |own id ver off len=>
  intro B hB
  grind [Da,Nat.eq_of_beq_eq_true]
 |_=>trivial
theorem Alm (H:Nat->Option Blk)(l r:List (Nat×Option Blk)):Bn H (l++r)=Bn (Bn H l) r:=by
 induction l generalizing H with
 |nil=>rfl
 |cons p l ih=>exact ih _
theorem sAp{F:Fr}{S:St}{o:Oper}{T:Tab}{x y:Operand}{t e:Nat}(h:o.op= .call {callee:= .builtin .append,args:= #[x,y],argTypes:= #[t,t]})(nid:Nat)(shx shy:List Nat){ti te:TI}{u v:V}{xs ys:List (List V)}(hx:S.val shx x= .c u)(hy:S.val shy y= .c v)(ht:tg T t=some ti)(hk:ti.k= .slice e)(he:tg T e=some te)
  (hxr:Cc S u=some xs) (hyr:Cc S v=some ys) (hn:Nat.ble 100 nid=true) (hbase:Afc u=true) (hpos:Nat.blt 0 te.size=true) (hzl:te.zero.length=te.size) (hxe:Da S te.size u=true) (hye:Da S te.size v=true) (hxt:noT xs=true) (hyt:noT ys=true) (hb:(xs.length+ys.length)*te.bytes<=140737488355328/\xs.length+ys.length<=maxLen):
  Ai F T o S {v:= .c (.own nid (S.nv nid) 0 (xs.length+ys.length)),upd:=(B9 u).map (fun i=>(i,none))++[(nid,some ⟨S.nv nid,te.size,xs++ys⟩)],bump:=[nid],use:=Q2 [x,y],ids:=nid::(B9 u++B9 v)}:=by
 intro henv hd S' h1 h2 a w hs;obtain⟨hdf,hsz,σ,β,hs⟩:=hs;have hnv:S'.nv nid=S.nv nid:=(h2 nid (by simp)).2;have hH: ∀i,i∈B9 u++B9 v->S'.H i=S.H i:=fun i hi=>(h2 i (Pv _ hi)).1
 have hx':S'.val shx x= .c u:=by rw[By (l:=[x,y]) (by simp) (fun t ht=>h1 t ht),hx]
 have hy':S'.val shy y= .c v:=by rw[By (l:=[x,y]) (by simp) (fun t ht=>h1 t ht),hy]
 have g1:=Q4 hs shx x;have g2:=Q4 hs shy y;rw[hx']at g1;rw[hy']at g2;have hr: ∀z,(∀i∈B9 z,S'.H i=S.H i)->Cc S' z=Cc S z/\Da S' te.size z=Da S te.size z:=by
  intro z hz;cases z with
  |own id ver off len=>
   simp_all[B9,Cc,Da]
  |_=>exact⟨rfl,rfl⟩
 obtain⟨r1,r2⟩:=hr u (fun i hi=>hH i (List.mem_append_left _ hi));obtain⟨r3,r4⟩:=hr v (fun i hi=>hH i (List.mem_append_right _ hi));obtain⟨c,w',σ',β',hrun,hfin,hres⟩:=Alk (ty:=o.type) henv.tab hdf hsz hs ht hk he (Az hpos) hzl (B7 g1) (B7 g2) (r1.trans hxr) (r3.trans hyr) hbase (Ug (r2.trans hxe)) (Ug (r4.trans hye)) hxt hyt hb.1 hb.2 nid (Dn henv.m (Az hn));refine .inl ⟨c,w',?_,by grind [Df],by grind [Q7],σ',β',?_⟩
 ·simp_all[execOp,resolve,invoke,builtin]
 ·have:=hfin.putT hsz hd (.c hres);have e:S'.app o.dst {v:= .c (.own nid (S.nv nid) 0 (xs.length+ys.length)),upd:=(B9 u).map (fun i=>(i,none))++[(nid,some ⟨S.nv nid,te.size,xs++ys⟩)],bump:=[nid],use:=Q2 [x,y],ids:=nid::(B9 u++B9 v)}=
    (⟨S'.env,Aa (Bn S'.H ((B9 u).map fun i=>(i,none))) nid (some ⟨S'.nv nid,te.size,xs++ys⟩),Aa S'.nv nid (S'.nv nid+1)⟩:St).put o.dst (.c (.own nid (S'.nv nid) 0 (xs.length+ys.length))):=by
   unfold St.app St.put;simp only[Alm,<-hnv];rfl
  grind
def Ei (xs:List (List V)):List (List V):=xs.map fun x=>x.map V.cold
section
variable {F:Fr} {S:St} {o:Oper} {T:Tab}
theorem Ac.coldH{a:Act}{w:World}{σ:Nat->List Nat}{β:Nat->Option (Nat×Nat×Nat)}(hs:Ac F S a w σ β){id:Nat}{B:Blk}(hB:S.H id=some B):Ac F ⟨S.env,Aa S.H id (some ⟨B.ver,B.es,Ei B.xs⟩),S.nv⟩ a w σ β:=by
 have hid0:id≠0:=by rintro rfl;have h0:S.H 0=none:=hs.hr.far;grind
 have hext:Cq (S.cx w σ β) ((⟨S.env,Aa S.H id (some ⟨B.ver,B.es,Ei B.xs⟩),S.nv⟩:St).cx w σ β):=⟨fun _=>Z9 _,fun i B' h _=>by
  have h':Aa S.H id (some ⟨B.ver,B.es,Ei B.xs⟩) i=some B':=h;by_cases e:i=id
  ·subst e;rw[Q1]at h';cases h';exact⟨B,hB,rfl,rfl,by simp[Ei],rfl⟩
  ·rw[Q0 _ _ e]at h';exact⟨B',h',rfl,rfl,rfl,rfl⟩⟩
 have hn: ∀p,Bg w σ w σ p:=fun p b _ _=>⟨rfl,rfl⟩;refine⟨⟨(Q0 _ _ (fun h=>hid0 h.symm)).trans hs.hr.far,fun i B' h=> ?_,hs.hr.new⟩,hs.mpos,hs.kp,hs.inn,fun t=>(hs.env t).mono hext (hn [])⟩
 have h':Aa S.H id (some ⟨B.ver,B.es,Ei B.xs⟩) i=some B':=h;by_cases e:i=id
 ·subst e;rw[Q1]at h';cases h';obtain⟨h1,h2⟩:=hs.hr.blk i B hB;refine⟨h1,?_⟩;cases eb:β i with
  |none=>exact .mk_void eb (by simp[Ei,h2.void eb])
  |some q=>
   obtain⟨b,o',n⟩:=q;obtain⟨q1,q2,q3,arr,T',q4,q5,q6⟩:=h2.some eb;refine .mk eb ⟨q1,?_,by grind [Ei],arr,T',q4,q5,fun k j x v hk hj=> ?_⟩
   ·intro x hx;obtain⟨x0,g1,rfl⟩:=A8.1 hx
    grind
   ·simp only[Ei,As]at hk;obtain⟨x0,g1,rfl⟩:=Z5.1 hk;rw[As]at hj;obtain⟨v0,g2,rfl⟩:=Z5.1 hj;obtain⟨c,g3,g4⟩:=q6 k j x0 v0 g1 g2;exact⟨c,g3,(g4.mono hext (hn _)).cold⟩
 ·rw[Q0 _ _ e]at h';obtain⟨h1,h2⟩:=hs.hr.blk i B' h';exact⟨h1,h2.mono hext rfl (hn [i])⟩
def Qq (S:St)(te:TI)(n:Nat)(parts:Array (Nat×Operand)):Option (List (List V)):=
 match parts.toList.all (fun p=>Cr (S.val te.sh p.2))with
 |true=>match Dv (fun i=>some (i*te.size,te.size)) (Hi n te.zero) (parts.toList.map fun p=>(p.1,S.val te.sh p.2))with
  |some out=>some (Ei (Ce te.size n out))
  |none=>none
 |false=>none
theorem sBS{t:TypeId}{n:Nat}{parts:Array (Nat×Operand)}(h:o.op= .buildSlice t n parts)(id:Nat){ti te:TI}{e:Nat}{rows:List (List V)}(ht:tg T t=some ti)(hk:ti.k= .slice e)(he:tg T e=some te)(hf:Qq S te n parts=some rows)(hid:Nat.ble 100 id=true)(hpos:Nat.blt 0 te.size=true)(hzl:te.zero.length=te.size)(hsmall:Nat.ble (n*te.size) 16777216=true):
  Ai F T o S {v:= .c (.own id (S.nv id) 0 n),upd:=[(id,some ⟨S.nv id,te.size,rows⟩)],bump:=[id],use:=Q2 (parts.toList.map (·.2)),ids:=[id]}:=by
 intro henv hd;unfold Qq at hf;split at hf
 ·rename_i hall;split at hf
  ·rename_i out hout;simp only[Z7]at hf;subst hf;have hst:=Akm henv.tab h hd ht hk he (Az hpos) hzl (Az hsmall) (l:=parts.toList.map fun p=>(p.1,S.val te.sh p.2)) (by simp) (fun q i x hq=>by
    rw[As]at hq;obtain⟨p,hp,e2⟩:=Z5.1 hq;simp only[Prod.mk.injEq]at e2;obtain⟨rfl,rfl⟩:=e2;refine⟨?_,p.2,te.sh,by grind,rfl⟩
    grind) hout id (Dn henv.m (Az hid))
   intro S' h1 h2 a w hs;have hweak: ∀a' w',RS F (S'.app o.dst {v:= .c (.own id (S.nv id) 0 n),upd:=[(id,some ⟨S.nv id,te.size,Ce te.size n out⟩)],bump:=[id],use:=Q2 (parts.toList.map (·.2)),ids:=[id]}) a' w'->
     RS F (S'.app o.dst {v:= .c (.own id (S.nv id) 0 n),upd:=[(id,some ⟨S.nv id,te.size,Ei (Ce te.size n out)⟩)],bump:=[id],use:=Q2 (parts.toList.map (·.2)),ids:=[id]}) a' w':=by
    rintro a' w' ⟨q1,q2,σ,β,q3⟩;refine⟨q1,q2,σ,β,?_⟩
    have:=q3.coldH (id:=id) (B:=⟨S.nv id,te.size,Ce te.size n out⟩) (Q1 _ _ _);have e:Aa (Aa S'.H id (some ⟨S.nv id,te.size,Ce te.size n out⟩)) id (some ⟨S.nv id,te.size,Ei (Ce te.size n out)⟩)=Aa S'.H id (some ⟨S.nv id,te.size,Ei (Ce te.size n out)⟩):=by
     funext i;by_cases ei:i=id
     all_goals grind [Q1,Q0]
    have e2:(S'.app o.dst {v:= .c (.own id (S.nv id) 0 n),upd:=[(id,some ⟨S.nv id,te.size,Ei (Ce te.size n out)⟩)],bump:=[id],use:=Q2 (parts.toList.map (·.2)),ids:=[id]})=
      ⟨(S'.app o.dst {v:= .c (.own id (S.nv id) 0 n),upd:=[(id,some ⟨S.nv id,te.size,Ce te.size n out⟩)],bump:=[id],use:=Q2 (parts.toList.map (·.2)),ids:=[id]}).env,Aa (Aa S'.H id (some ⟨S.nv id,te.size,Ce te.size n out⟩)) id (some ⟨S.nv id,te.size,Ei (Ce te.size n out)⟩),Do S'.nv [id]⟩:=by
     rw[e];rfl
    rw[e2];exact this
   rcases hst S' h1 h2 a w hs with ⟨v,w',r1,r2⟩|⟨w',r1,r2⟩|⟨f,args,w',r1,r2⟩
   all_goals grind [Calls.mono]
  grind
 grind
def Uh (T:Tab)(S:St)(t:Nat)(ti:TI)(parts:Array (Nat×Operand))(shs:List (List Nat)):Option (List V):=
 match P6 T t,parts.toList.zip shs |>.all (fun p=>Cr (S.val p.2 p.1.2)),Nat.decEq shs.length parts.size with
 |some pl,true,.isTrue _=>Dv (pl[·]?) ti.zero ((parts.toList.zip shs).map fun p=>(p.1.1,S.val p.2 p.1.2))
 |_,_,_=>none
theorem sBd{t:TypeId}{parts:Array (Nat×Operand)}(h:o.op= .build t parts)(shs:List (List Nat)){ti:TI}{out:List V}(ht:tg T t=some ti)(hf:Uh T S t ti parts shs=some out):Ai F T o S {v:= .g out,use:=Q2 (parts.toList.map (·.2))}:=A9 _ _ fun he S' h1 h2=>by
 unfold Uh at hf;split at hf
 ·rename_i _ _ _ pl hlen hpl hall _;refine Ake he.tab h ht hpl (l:=(parts.toList.zip shs).map fun p=>(p.1.1,S.val p.2 p.1.2)) (by grind) (fun q i x hq=> ?_) hf;rw[As]at hq;obtain⟨p,hp,e2⟩:=Z5.1 hq;simp only[Prod.mk.injEq]at e2;obtain⟨rfl,rfl⟩:=e2;have hz:=List.getElem?_zip_eq_some.1 hp;refine⟨Z1.1 hall p (Z6 hp),p.1.2,p.2,by grind,?_⟩;exact By (l:=parts.toList.map (·.2)) (A8.2 ⟨p.1,Z6 hz.1,rfl⟩) (fun t ht=>h1 t ht) p.2
 grind
end
section
variable {next:St->Prop} {Q:Exit->St->Prop} {S:St} {i j:Nat}
theorem Alp (h:Q .normal S):Exit.shutBlock i Q (.exit i) S:=by
 show(if i=i then Q .normal S else Q (.exit i) S)
 grind
theorem Alq (hne:Nat.beq i j=false)(h:Q (.exit i) S):Exit.shutBlock j Q (.exit i) S:=by
 show(if i=j then Q .normal S else Q (.exit i) S);rw[if_neg (fun e=>by simp_all)];exact h
end
theorem Ac.ownNil{F:Fr}{S:St}{a:Act}{w:World}{σ:Nat->List Nat}{β:Nat->Option (Nat×Nat×Nat)}(hs:Ac F S a w σ β){t es id:Nat}(ht:S.env t= .c (.row true es []))(hid:F.m<=id):
  Ac F ⟨Aa S.env t (.c (.own id (S.nv id) 0 0)),Aa S.H id (some ⟨S.nv id,es,[]⟩),Aa S.nv id (S.nv id+1)⟩ a w σ (Aa β id none):=by
 have h1:=hs.void hid es;refine⟨h1.hr,h1.mpos,h1.kp,h1.inn,fun t'=> ?_⟩;show RA _ (Aa S.env t (.c (.own id (S.nv id) 0 0)) t') _;by_cases e:t'=t
 ·subst e;rw[Q1];have:=hs.env t';rw[ht]at this;generalize a.tmps.getD t' undef=c at this;cases B7 this with
  |c h=>
   cases h with
   |row p o es' xs A n cap b off cs hn hcap hmax hA hT hx hc hr=>
    have h0:cap=0:=by
     grind
    refine .c (.own _ _ _ _ _ _ _ _ hn (by show S.nv id<Aa S.nv id (S.nv id+1) id;rw[Q1];omega) (Hc _) hmax fun B hB _=> ?_);have h':Aa S.H id (some ⟨S.nv id,es,[]⟩) id=some B:=hB;rw[Q1]at h';cases h';exact⟨by simp,.inl h0⟩
 ·rw[Q0 _ _ e];exact h1.env t'
def gt{α:Type}[Inhabited α](l:List α)(i:Int):α:=l.getD i.toNat default
theorem M5{α:Type}[Inhabited α]{l:List α}(f:α->List V){i:Int}(h:0<=i/\i<l.length):(l.map f)[i.toNat]? =some (f (gt l i)):=by
 grind [gt]
structure En{α:Type}(f:α->List V)(es:Nat):Prop where
 len: ∀a,(f a).length=es
 clean: ∀a,(f a).all Ud=true
 closed: ∀a,(f a).all V.closed=true
 share: ∀a,Au (f a)=f a
section
variable {α:Type} {f:α->List V} {es:Nat}
theorem En.shareLL (h:En f es)(l:List α):Go.Eng.shareLL (l.map f)=l.map f:=by
 rw[F3,Ar];refine Bf fun a _=> ?_
 show List.map V.share (f a)=f a;rw[<-Tc];exact h.share a
theorem En.noT (h:En f es)(l:List α):Go.Eng.noT (l.map f)=true:=by
 refine Z1.2 fun x hx=> ?_;obtain⟨a,_,rfl⟩:=A8.1 hx;exact h.clean a
theorem En.allClosed (h:En f es)(v e:Nat)(l:List α):Go.Eng.allClosed ⟨v,e,l.map f⟩=true:=by
 refine Z1.2 fun x hx=> ?_;obtain⟨a,_,rfl⟩:=A8.1 hx;exact h.closed a
end
section
variable {F:Fr} {S:St} {o:Oper} {T:Tab} {α:Type}
theorem sLm{t:Nat}{x:Operand}(h:o.op= .call {callee:= .builtin .len,args:= #[x],argTypes:= #[t]}){ti:TI}(ht:tg T t=some ti){e:Nat}(hk:ti.k= .slice e){ob:Bool}{es:Nat}{f:α->List V}{l:List α}(hx:S.val [] x= .c (.row ob es (l.map f))):Ai F T o S {v:= .c (.int .i64 l.length),use:=Q2 [x]}:=by
 grind [sLn,List.length_map]
theorem Als{t:Nat}{x ix:Operand}(h:o.op= .indexAddr t x ix){es:Nat}{f:α->List V}{l:List α}{k:IntKind}{i:Int}(hx:S.val [] x= .c (.row false es (l.map f)))(hi:S.val [] ix= .c (.int k i))(hes:C0 T t=some es)(hb:0<=i/\i<l.length):Ai F T o S {v:= .c (.ip es (l.map f) i.toNat 0),use:=Q2 [x,ix]}:=
 by grind [sIR]
def Ui (T:Tab)(S:St)(t:Nat)(x:Operand):Option (Nat×Nat×Nat):=
 match S.val [] x with
 | .c (.own id ver 0 n)=>match S.H id,C0 T t with
  |some B,some e=>match Nat.decEq B.ver ver,Nat.decEq e B.es with
   | .isTrue _,.isTrue _=>some (id,ver,n)
   |_,_=>none
  |_,_=>none
 |_=>none
theorem Alt{t:Nat}{x ix:Operand}(h:o.op= .indexAddr t x ix){id ver n:Nat}{k:IntKind}{i:Int}(hi:S.val [] ix= .c (.int k i))(hf:Ui T S t x=some (id,ver,n))(hb:0<=i/\i<n):Ai F T o S {v:= .c (.ptr id ver i.toNat 0),use:=Q2 [x,ix],ids:=[id]}:=by
 unfold Ui at hf;split at hf
 ·rename_i id' ver' n' hx;split at hf
  ·rename_i B e hB hes;split at hf
   ·rename_i _ _ hver he _ _;simp only[Z7,Prod.mk.injEq]at hf;obtain⟨rfl,rfl,rfl⟩:=hf;have:=sIO (F:=F) h hx hi hB hver (by rw[hes,he]) hb
    grind
   grind
  grind
 grind
theorem Alu [Inhabited α]{t:TypeId}{x:Operand}(h:o.op= .load t x){f:α->List V}(l:List α){ti:TI}{id ver:Nat}{i:Int}(hi:0<=i/\i<l.length){j es:Nat}{u:A}(hx:S.val [] x= .c (.ptr id ver i.toNat j))(hB:S.H id=some ⟨ver,es,l.map f⟩)(ht:tg T t=some ti)
  (hj:Nat.ble (j+ti.size) (f (gt l i)).length=true) (hw:Dw ti.k.agg (((f (gt l i)).drop j).take ti.size)=some u) (hn:(((f (gt l i)).drop j).take ti.size).all (fun v=> !D7 v)=true):Ai F T o S {v:=u,use:=Q2 [x],ids:=[id]}:=
 sLk h hx ht hB rfl (M5 f hi) hj hw hn
theorem sAo{x y:Operand}{t e:Nat}(h:o.op= .call {callee:= .builtin .append,args:= #[x,y],argTypes:= #[t,t]})(nid:Nat){f:α->List V}(l l2:List α){ti te:TI}{v:V}{id ver:Nat}(hf:En f te.size)(hx:S.val [te.size] x= .c (.own id ver 0 l.length))(hB:S.H id=some ⟨ver,te.size,l.map f⟩)(hy:S.val [te.size] y= .c v)(hyr:Cc S v=some (l2.map f))(hye:Da S te.size v=true)
  (ht:tg T t=some ti) (hk:ti.k= .slice e) (he:tg T e=some te) (hn:Nat.ble 100 nid=true) (hpos:Nat.blt 0 te.size=true) (hzl:te.zero.length=te.size) (hb:(l++l2).length*te.bytes<=140737488355328/\(l++l2).length<=maxLen):
  Ai F T o S {v:= .c (.own nid (S.nv nid) 0 (l++l2).length),upd:=[(id,none),(nid,some ⟨S.nv nid,te.size,(l++l2).map f⟩)],bump:=[nid],use:=Q2 [x,y],ids:=nid::([id]++B9 v)}:=by
 have hxr:Cc S (.own id ver 0 l.length)=some (l.map f):=by
  simp only[Cc,hB];have:Nat.decEq ver ver= .isTrue rfl:=by
   grind
  rw[this]
  grind [List.take_length]
 have hb1:((l.map f).length+(l2.map f).length)*te.bytes<=140737488355328/\(l.map f).length+(l2.map f).length<=maxLen:=by
  grind
 have hxe:Da S te.size (.own id ver 0 l.length)=true:=by
  grind [Da,Nat.beq_refl]
 have:=sAp (F:=F) h nid [te.size] [te.size] hx hy ht hk he hxr hyr hn rfl hpos hzl hxe hye (hf.noT l) (hf.noT l2) hb1;rw[Bi,Bi,<-Jd,<-Er]at this;exact this
theorem sAn{x y:Operand}{t e:Nat}(h:o.op= .call {callee:= .builtin .append,args:= #[x,y],argTypes:= #[t,t]})(nid:Nat){f:α->List V}(l2:List α){ti te:TI}{v:V}{es0:Nat}(hf:En f te.size)(hx:S.val [te.size] x= .c (.row true es0 []))(hes:Nat.beq es0 te.size=true)(hy:S.val [te.size] y= .c v)(hyr:Cc S v=some (l2.map f))(hye:Da S te.size v=true)
  (ht:tg T t=some ti) (hk:ti.k= .slice e) (he:tg T e=some te) (hn:Nat.ble 100 nid=true) (hpos:Nat.blt 0 te.size=true) (hzl:te.zero.length=te.size) (hb:l2.length*te.bytes<=140737488355328/\l2.length<=maxLen):
  Ai F T o S {v:= .c (.own nid (S.nv nid) 0 l2.length),upd:=[(nid,some ⟨S.nv nid,te.size,l2.map f⟩)],bump:=[nid],use:=Q2 [x,y],ids:=nid::B9 v}:=by
 have hb1:(([]:List (List V)).length+(l2.map f).length)*te.bytes<=140737488355328/\([]:List (List V)).length+(l2.map f).length<=maxLen:=by
  grind
 have:=sAp (F:=F) h nid [te.size] [te.size] hx hy ht hk he (xs:=[]) rfl hyr hn rfl hpos hzl hes hye rfl (hf.noT l2) hb1;simp only[List.length_nil,Nat.zero_add,Bi,Hd]at this;exact this
theorem Alx{t:Nat}{x:Operand}{lo hi:Option Operand}(h:o.op= .slice t x lo hi none){es:Nat}{f:α->List V}{ls:List α}{l hh:Int}(hx:S.val [] x= .c (.row false es (ls.map f)))(hes:C0 T t=some es)
  (hl:Bp S 0 lo=some l) (hr:Bp S ls.length hi=some hh) (hb:0<=l/\l<=hh/\hh<=ls.length):Ai F T o S {v:= .c (.row false es (((ls.drop l.toNat).take (hh - l).toNat).map f)),use:=Q2 ([x]++lo.toList++hi.toList)}:=by
 grind [Ak8,List.map_drop,List.map_take]
end
def Fp (k:IntKind)(a b:Int):Int:=k.wrap (a+b)
def Aly (k:IntKind)(a b:Int):Int:=k.wrap (a - b)
def Ci (k:IntKind)(a b:Int):Int:=k.wrap (a*b)
def Alz (k:IntKind)(a b:Int):Int:=k.wrap (BitVec.ofInt k.bits a &&& BitVec.ofInt k.bits b).toNat
def iOr (k:IntKind)(a b:Int):Int:=k.wrap (BitVec.ofInt k.bits a ||| BitVec.ofInt k.bits b).toNat
def Al1 (k:IntKind)(a b:Int):Int:=k.wrap (BitVec.ofInt k.bits a ^^^ BitVec.ofInt k.bits b).toNat
def Afe (k:IntKind)(a b:Int):Int:=k.wrap (a*2 ^ min b.toNat k.bits)
def Aff (k:IntKind)(a b:Int):Int:=a.fdiv (2 ^ min b.toNat k.bits)
def Afg (k:IntKind)(a b:Int):Int:=k.wrap (a.tdiv b)
def Afh (k:IntKind)(a:Int):Int:=k.wrap (0 - a)
theorem Uj{H:Nat->Option Blk}{v:V}(h:v.closed=true):v.can H=v:=by
 cases v<;>first|rfl|cases h
theorem Al2{S:St}(a b:List Nat):C9 S (a++b)=C9 S a++C9 S b:=by
 induction a with
 |nil=>rfl
 |cons x r ih=>
  grind [C9]
section
variable {F:Fr} {T:Tab} {S:St} {o:Oper}
theorem Afi{P:Program}(d:Nat){t:TypeId}(hu:P.underlying t=some .bool)(a b:Bool)(w:World):(Op.equalIn (d+1) t (.bool a) (.bool b)).run P w= .ok (a==b) w:=by
 simp[Op.equalIn,run_underlying hu]
theorem Al3{P:Program}{t:TypeId}(hu:P.underlying t=some .bool)(a b:Bool)(w:World):(Op.equal t (.bool a) (.bool b)).run P w= .ok (a==b) w:=Afi 9999 hu a b w
theorem sBe{op:BinOp}{t ty:TypeId}{x y:Operand}(h:o.op= .binOp op t x y ty)(hop:op= .eql\/op= .neq){a b:Bool}(hx:S.val [] x= .c (.bool a))(hy:S.val [] y= .c (.bool b)){ti:TI}(ht:tg T t=some ti)(hk:ti.k= .bool):Ai F T o S {v:= .c (.bool (if op= .eql then a==b else !(a==b))),use:=Q2 [x,y]}:=A9 _ _ fun he S' h1 h2=>by
 intro ac w σ β hs;have g1:=Q4 hs [] x;have g2:=Q4 hs [] y;rw[vc h1 (by simp) hx]at g1;rw[vc h1 (by simp) hy]at g2;have e1:=Jk g1;have e2:=Jk g2;have hu:F.P.underlying t=some .bool:=by
  obtain⟨d,h1,h2⟩:=(he.tab.ty ht).und
  grind [Fa]
 rcases hop with rfl|rfl
 all_goals simp_all[execOp,eqGuard,binOp,Al3,My]
theorem Afk{P:Program}{o:Oper}{b:Builtin}{x y:Operand}{ats:Array TypeId}(h:o.op= .call {callee:= .builtin b,args:= #[x,y],argTypes:=ats})(a:Act)(w:World){c:Value}(hr:(builtin b ats o.type (#[x,y].map fun| .const _=>true|_=>false) #[a.eval x,a.eval y]).run P w= .ok (.value c) w):
  (execOp a.eval o).run P w= .ok (.value c) w:=by
 have hop:(execOp a.eval o)=(do let d <-resolve a.eval ⟨.builtin b,#[x,y],ats⟩ o.type;invoke d.target d.args):=by grind [execOp]
 rw[hop];simp only[resolve,Sem.run_bind,Sem.run_pure,Result.andThen_ok,invoke]
 grind
def M6 (x y:Int):Int:=if y<x then y else x
def M7 (x y:Int):Int:=if y>x then y else x
theorem sMn{x y:Operand}{ats:Array TypeId}(h:o.op= .call {callee:= .builtin .min,args:= #[x,y],argTypes:=ats}){k k':IntKind}{a b:Int}(hx:S.val [] x= .c (.int k a))(hy:S.val [] y= .c (.int k' b)):Ai F T o S {v:= .c (.int k (M6 a b)),use:=Q2 [x,y]}:=A9 _ _ fun he S' h1 h2=>by
 intro ac w σ β hs;have g1:=Q4 hs [] x;have g2:=Q4 hs [] y;rw[vc h1 (by simp) hx]at g1;rw[vc h1 (by simp) hy]at g2;have e1:=Bo g1;have e2:=Bo g2;refine⟨.int k (M6 a b),Afk h ac w ?_,F7 _ _⟩;simp_all[builtin,run_min_int2,M6]
theorem sMx{x y:Operand}{ats:Array TypeId}(h:o.op= .call {callee:= .builtin .max,args:= #[x,y],argTypes:=ats}){k k':IntKind}{a b:Int}(hx:S.val [] x= .c (.int k a))(hy:S.val [] y= .c (.int k' b)):Ai F T o S {v:= .c (.int k (M7 a b)),use:=Q2 [x,y]}:=A9 _ _ fun he S' h1 h2=>by
 intro ac w σ β hs;have g1:=Q4 hs [] x;have g2:=Q4 hs [] y;rw[vc h1 (by simp) hx]at g1;rw[vc h1 (by simp) hy]at g2;have e1:=Bo g1;have e2:=Bo g2;refine⟨.int k (M7 a b),Afk h ac w ?_,F7 _ _⟩;simp_all[builtin,run_max_int2,M7]
end
theorem Al6{T:Tab}{f g:Nat->Option (List Nat)}(h: ∀t l,f t=some l->g t=some l): ∀(gs:List (Nat×Nat)) (pos:Nat) (ls:List Nat),Gn f T gs pos=some ls->Gn g T gs pos=some ls:=by
 intro gs;induction gs with
 |nil=>intro pos ls hl;exact hl
 |cons q r ih=>
  obtain⟨off,t⟩:=q;intro pos ls hl;simp only[Gn]at hl ⊢;cases e1:f t with
  |none=>grind
  |some l=>
   cases e2:tg T t with
   |none=>grind
   |some j=>
    simp only[e1,e2]at hl;simp only[h t l e1];split at hl
    ·rename_i hc;rw[if_pos hc];obtain⟨ls',h1,rfl⟩:=Z5.1 hl
     grind
    grind
theorem Al7{T:Tab}: ∀(k t:Nat) (ls:List Nat),Bv T k t=some ls->Bv T (k+1) t=some ls:=by
 intro k;induction k with
 |zero=>intro t ls h;cases h
 |succ k ih=>
  intro t ls h;unfold Bv at h ⊢;cases et:tg T t with
  |none=>grind
  |some ti=>
   simp only[et]at h ⊢;cases ek:ti.k with
   |int _=>grind
   |bool=>grind
   |str=>grind
   |slice e=>
    grind
   |struct gs=>
    grind [Al6]
   |array n e=>
    grind
   |ptr _=>grind
   |other=>grind
theorem Afl{T:Tab}{k t:Nat}{ls:List Nat}(h:Bv T k t=some ls): ∀n,Bv T (k+n) t=some ls:=by
 intro n;induction n with
 |zero=>exact h
 |succ n ih=>grind [Al7]
theorem Al8{T:Tab}{a b t:Nat}{l l':List Nat}(h:Bv T a t=some l)(h':Bv T b t=some l'):l=l':=by
 have h1:=Afl h b;have h2:=Afl h' a
 grind
theorem Ax1{T:Tab}{t:Nat}{v:V}{ti:TI}{k:IntKind}(h:Lf T t v)(ht:tg T t=some ti)(hk:ti.k= .int k): ∃n,v= .int k n/\(Lit.int k n).wf=true:=by
 cases h with
 |int ht' hk' hw=>grind
 |bool ht' hk'=>grind
 |str ht' hk'=>grind
 |row ht' hk'=>grind
theorem Ax2{T:Tab}{t e:Nat}{v:V}{ti te:TI}{ls:List Nat}{α:Type}{f:α->List V}{R:α->Prop}(h:Lf T t v)(ht:tg T t=some ti)(hk:ti.k= .slice e)(he:tg T e=some te)(hl:Bv T 50 e=some ls)
  (hr: ∀x:List V,x.length=ls.length->(∀(i:Nat) l v,ls[i]? =some l->x[i]? =some v->Lf T l v)-> ∃a,x=f a/\R a):
  ∃l:List α,v= .row false te.size (l.map f)/\(∀a∈l,R a)/\l.length*te.bytes<=reachBytes/\l.length<=maxLen:=by
 cases h with
 |int ht' hk' hw=>grind
 |bool ht' hk'=>grind
 |str ht' hk'=>grind
 | @row _ _ e' te' fu ls' xs ht' hk' he' hl' hxl hx hb hm=>
  rw[ht]at ht';cases ht';rw[hk]at hk';cases hk';rw[he]at he';cases he';have hls:=Al8 hl' hl;subst hls;have: ∀ys:List (List V),(∀x∈ys,x∈xs)-> ∃l:List α,ys=l.map f/\ ∀a∈l,R a:=by
   intro ys;induction ys with
   |nil=>simp_all
   |cons y r ih=>
    intro hy;obtain⟨l,h1,h2⟩:=ih (fun x hx=>hy x (by simp[hx]));obtain⟨a,h3,h4⟩:=hr y (hxl y (hy y (by simp))) (hx y (hy y (by simp)));exact⟨a::l,by grind,fun b hb=>(Ax.1 hb).elim (fun h=>h ▸ h4) (h2 b)⟩
  obtain⟨l,h1,h2⟩:=this xs (fun x hx=>hx)
  grind
theorem Ax3{T:Tab}{t:Nat}{x:A}{ti:TI}(h:TA T t x)(ht:tg T t=some ti)(hk:ti.k.agg=false): ∃v,x= .c v/\Lf T t v:=by
 obtain⟨ti',ls,h1,h2,h3⟩:=h
 grind
theorem Ax4{T:Tab}{t:Nat}{x:A}{ti:TI}{ls:List Nat}(h:TA T t x)(ht:tg T t=some ti)(hk:ti.k.agg=true)(hl:Bv T 50 t=some ls): ∃vs,x= .g vs/\vs.length=ls.length/\ ∀(i:Nat) l v,ls[i]? =some l->vs[i]? =some v->Lf T l v:=by
 obtain⟨ti',ls',h1,h2,h3⟩:=h
 grind
def M8 (T:Tab)(f:Nat->List V->List V->Option Bool)(xs ys:List V):List (Nat×Nat)->Option Bool
 |[]=>some true
 |(off,t)::r=>match tg T t with
  |none=>none
  |some j=>match f t ((xs.drop off).take j.size) ((ys.drop off).take j.size),M8 T f xs ys r with
   |some a,some b=>some (a&&b)
   |_,_=>none
def Hn (T:Tab):Nat->Nat->List V->List V->Option Bool
 |0,_,_,_=>none
 |k+1,t,xs,ys=>match tg T t with
  |none=>none
  |some ti=>match ti.k with
   | .struct gs=>M8 T (Hn T k) xs ys gs
   | .int kd=>match xs,ys with
    |[.int k1 a],[.int k2 b]=>if k1=k2 then some (a==b)else none
    |_,_=>none
   | .bool=>match xs,ys with
    |[.bool a],[.bool b]=>some (a==b)
    |_,_=>none
   | .str=>match xs,ys with
    |[.str a],[.str b]=>some (a.toList==b.toList)
    |_,_=>none
   |_=>none
def Uk (T:Tab)(n:Nat)(g:Nat×Nat):Bool:=match tg T g.2 with|some j=>decide (g.1+j.size<=n)|none=>false
def Gq (P:Program)(T:Tab):Nat->Nat->Bool
 |0,_=>false
 |k+1,t=>match tg T t with
  |none=>false
  |some ti=>match ti.k with
   | .struct gs=> !P.stoodInHeld t&&(P.fieldsOf t).toList.all (fun f=>decide (f.name≠ "_"))&&gs.all (fun g=>Gq P T k g.2&&Uk T ti.size g)
   | .int _=>decide (ti.size=1)
   | .bool=>decide (ti.size=1)
   | .str=>decide (ti.size=1)
   |_=>false
def Ej (agg:Bool)(c:Array Value):Value:=if agg then .agg c else c.getD 0 undef
theorem Afm{E:Cx}{xs:List V}{cx:Array Value}(h:B8 E xs cx){off n:Nat}(hl:((xs.drop off).take n).length=n):B8 E ((xs.drop off).take n) (cx.extract off (off+n)):=by
 have hle:off+n<=xs.length\/n=0:=by grind
 refine⟨?_,fun i v hi=> ?_⟩
 ·rw[hl];simp only[Array.size_extract,h.1];omega
 ·rw[Jf]at hi;split at hi
  ·rename_i hin;rw[Mu]at hi;obtain⟨c,h1,h2⟩:=h.2 _ v hi
   grind
  grind
theorem Afn{P:Program}{T:Tab}(hT:Av P T){E:Cx}{t:Nat}{j:TI}(ht:tg T t=some j){xs:List V}{cx:Array Value}(h:B8 E xs cx){off:Nat}(hl:((xs.drop off).take j.size).length=j.size)(hs:j.k.agg=false->j.size=1)(w:World):
  (part t cx off).run P w= .ok (Ej j.k.agg (cx.extract off (off+j.size))) w:=by
 have h1:=(hT.ty ht).isAgg w;have h2:=(hT.ty ht).sizeOf w;unfold part;simp only[Sem.run_bind,h1,Result.andThen_ok];cases hk:j.k.agg with
 |true=>simp[h2,Ej]
 |false=>
  have hs1:=hs hk;have hlt:off<cx.size:=by
   rw[h.1]
   grind
  have he:(cx.extract off (off+1))[0]? =some cx[off]:=by
   grind
  simp_all[Ej]
theorem Al9{P:Program}{T:Tab}(hT:Av P T){E:Cx}{w:World}: ∀(k t:Nat) (ti:TI) (xs ys:List V) (b:Bool) (cx cy:Array Value),tg T t=some ti->Gq P T k t=true->Hn T k t xs ys=some b->xs.length=ti.size->ys.length=ti.size->B8 E xs cx->B8 E ys cy-> ∀d,(Op.equalIn (d+k) t (Ej ti.k.agg cx) (Ej ti.k.agg cy)).run P w= .ok b w:=by
 intro k;induction k with
 |zero=>intro t ti xs ys b cx cy _ h;cases h
 |succ k ih=>
  intro t ti xs ys b cx cy ht hok hv hxl hyl hx hy d;have hty:=hT.ty ht;simp only[Gq,ht]at hok;simp only[Hn,ht]at hv;have one: ∀(u:V) (us:List V) (c:Array Value) (p:Value->Prop),us=[u]->B8 E us c->(∀v,RV E [] u v->p v)->p (Ej false c):=by
   intro u us c p e hc hp;subst e;obtain⟨v,h1,h2⟩:=hc.2 0 u rfl;simp_all[Ej]
  cases ek:ti.k with
  |int kd=>
   simp only[ek]at hv
   match xs,ys,hv,hx,hy with
   |[.int k1 a],[.int k2 c],hv,hx,hy=>
    have ea:Ej false cx= .int k1 a:=one _ _ cx (fun v=>v= .int k1 a) rfl hx (fun v h=>Bo (.c h));have eb:Ej false cy= .int k2 c:=one _ _ cy (fun v=>v= .int k2 c) rfl hy (fun v h=>Bo (.c h));simp only[TK.agg,ea,eb];simp only at hv;split at hv
    ·rename_i hkk;subst hkk;cases hv;exact run_equalIn_int w (d+k) t k1 kd a c (hty.int ek)
    grind
  |bool=>
   simp only[ek]at hv
   match xs,ys,hv,hx,hy with
   |[.bool a],[.bool c],hv,hx,hy=>
    have ea:Ej false cx= .bool a:=one _ _ cx (fun v=>v= .bool a) rfl hx (fun v h=>Jk (.c h));have eb:Ej false cy= .bool c:=one _ _ cy (fun v=>v= .bool c) rfl hy (fun v h=>Jk (.c h))
    grind [TK.agg,Ty.und,Fa,Afi]
  |str=>
   simp only[ek]at hv
   match xs,ys,hv,hx,hy with
   |[.str a],[.str c],hv,hx,hy=>
    have ea:Ej false cx= .string a:=one _ _ cx (fun v=>v= .string a) rfl hx (fun v h=>Mx (.c h));have eb:Ej false cy= .string c:=one _ _ cy (fun v=>v= .string c) rfl hy (fun v h=>Mx (.c h))
    grind [TK.agg,run_equalIn_string,Ty.str]
  |struct gs=>
   simp only[ek,Z4,Gg]at hok;simp only[ek]at hv;obtain⟨fs,hu,hfs⟩:=hty.struct ek;have hfo:P.fieldsOf t=fs:=by simp[Program.fieldsOf,hu]
   obtain⟨⟨ho1,ho2⟩,ho3⟩:=hok;rw[hfo]at ho2;simp only[TK.agg,Ej,if_true];have hrun:=run_equalIn_struct (P:=P) w (d+k) t cx cy (by grind) ho1;rw[<-Gi,hrun,hfo];have key: ∀(fl:List Field) (b:Bool),fl.all (fun f=>decide (f.name≠ "_"))=true->(fl.map fun f=>(f.offset,f.type)).all (fun g=>Gq P T k g.2&&Uk T ti.size g)=true->M8 T (Hn T k) xs ys (fl.map fun f=>(f.offset,f.type))=some b->(Op.eqFields (d+k) cx cy fl).run P w= .ok b w:=by
    intro fl;induction fl with
    |nil=>intro b _ _ h;cases h;rfl
    |cons f r ihf=>
     intro b h1 h2 h3;simp only[Bb,Z4,decide_eq_true_eq,Z8]at h1 h2;simp only[Z8,M8]at h3;cases ej:tg T f.type with
     |none=>grind
     |some j=>
      simp only[ej]at h3;cases e1:Hn T k f.type ((xs.drop f.offset).take j.size) ((ys.drop f.offset).take j.size)with
      |none=>grind
      |some b1=>
       cases e2:M8 T (Hn T k) xs ys (r.map fun f=>(f.offset,f.type))with
       |none=>grind
       |some b2=>
        simp only[e1,e2,Z7]at h3;subst h3;have hsz1:j.k.agg=false->j.size=1:=fun hk=>by
         cases k with
         |zero=>simp[Gq]at h2
         |succ k=>
          have:=h2.1.1;simp only[Gq,ej]at this;cases ejk:j.k<;>simp_all[TK.agg]
        have hfit:f.offset+j.size<=ti.size:=by
         have:=h2.1.2;simp_all[Uk]
        have lx:((xs.drop f.offset).take j.size).length=j.size:=by grind
        have ly:((ys.drop f.offset).take j.size).length=j.size:=by grind
        have p1:=Afn (P:=P) hT ej hx lx hsz1 w;have p2:=Afn (P:=P) hT ej hy ly hsz1 w;have p3:=ih f.type j _ _ b1 _ _ ej h2.1.1 e1 lx ly (Afm hx lx) (Afm hy ly) d;have p4:=ihf b2 h1.2 h2.2 e2;simp only[Op.eqFields];rw[if_pos h1.1];simp only[Sem.run_bind,p1,p2,p3,Result.andThen_ok];cases b1 with
        |false=>simp
        |true=>grind
   grind
  |slice e=>grind
  |ptr e=>grind
  |array n e=>grind
  |other=>grind
theorem sEs{F:Fr}{T:Tab}{S:St}{o:Oper}{op:BinOp}{t ty:TypeId}{x y:Operand}(h:o.op= .binOp op t x y ty)(hop:op= .eql\/op= .neq){us vs:List V}{ti:TI}{b:Bool}(hx:S.val [] x= .g us)(hy:S.val [] y= .g vs)(ht:tg T t=some ti)(hk:ti.k.agg=true)(hg:F.P.eqGuardType F.P.depth t=false)(hok:Gq F.P T 20 t=true)(hl1:us.length=ti.size)(hl2:vs.length=ti.size)(he:Hn T 20 t us vs=some b):
  Ai F T o S {v:= .c (.bool (if op= .eql then b else !b)),use:=Q2 [x,y]}:=A9 _ _ fun henv S' h1 h2=>by
 intro ac w σ β hs;have g1:=Q4 hs [] x;have g2:=Q4 hs [] y;rw[vc h1 (by simp) hx]at g1;rw[vc h1 (by simp) hy]at g2;obtain⟨cx,e1,c1⟩: ∃cx,ac.eval x= .agg cx/\B8 (S'.cx w σ β) us cx:=by
  generalize ac.eval x=c at g1;cases g1 with|g _ arr hsz hc=>exact⟨arr,rfl,hsz,hc⟩
 obtain⟨cy,e2,c2⟩: ∃cy,ac.eval y= .agg cy/\B8 (S'.cx w σ β) vs cy:=by
  generalize ac.eval y=c at g2;cases g2 with|g _ arr hsz hc=>exact⟨arr,rfl,hsz,hc⟩
 have hr:=Al9 henv.tab (E:=S'.cx w σ β) (w:=w) 20 t ti us vs b cx cy ht hok he hl1 hl2 c1 c2 9980;simp only[hk,Ej,if_true]at hr;have hgd:=run_eqGuard_agg (P:=F.P) w op t x y cx cy hg;rcases hop with rfl|rfl
 all_goals simp_all[run_eql_struct,execOp,My,run_neq_struct]
def VW (F:Fr)(T:Tab)(ops:Array Oper)(i:Nat)(S:St)(l:List Oper)(Q:Exit->St->Prop):Prop:=
 Bh F T->Mw F ops->ops.toList.drop i=l->Te F ops (List.range' i l.length) S Q
section
variable {F:Fr} {T:Tab} {ops:Array Oper} {i:Nat} {S:St} {o:Oper} {l:List Oper} {Q:Exit->St->Prop} {r:Rec}
theorem VW.cons (hs:ops[i]? =some o->Bh F T->T3 F o->Fk F ops i S r)(k:VW F T ops (i+1) (S.app o.dst r) l Q):VW F T ops i S (o::l) Q:=by
 intro he hf hl;obtain⟨h1,h2⟩:=T4 hl;have hk:=k he hf h2;intro a w ha;rw[Z28,List.range'_succ,wpOps_cons];refine Fk.wp hf (hs h1 he (hf i o h1)) (fun _ _=>rfl) (fun _ _=>⟨rfl,rfl⟩) (fun a' w' hs'=> ?_) ha;have hdst:Bk ops i=o.dst:=by simp[Bk,h1]
 rw[hdst]at hs';exact hk a' w' hs'
theorem ve (h:Q .normal S):VW F T ops i S [] Q:=fun _ _ _=>Aje h
theorem v0 (h:Ai F T o S r)(hg:o.guard=none)(k:VW F T ops (i+1) (S.app o.dst r) l Q):VW F T ops i S (o::l) Q:=
 VW.cons (fun ho he hd=> .run o r ho hg (h he hd)) k
theorem u0{j:Nat}{d:Tmp}{b:Bool}(h:Ai F T o S r)(hg:o.guard=some (j,b))(hd:Eg ops j=some d)(hv:S.env d= .c (.bool b))(k:VW F T ops (i+1) (S.app o.dst {r with use:=[d]++r.use}) l Q):VW F T ops i S (o::l) Q:=
 VW.cons (fun ho he hdo=> .runG o _ j d b ho hg hd hv ((h he hdo).more [d]) (by simp)) k
theorem uP{j:Nat}{d:Tmp}{b c:Bool}(hg:o.guard=some (j,b))(hd:Eg ops j=some d)(hv:S.env d= .c (.bool c))(hne:(c==b)=false)(k:VW F T ops (i+1) (S.app o.dst {v:= .c .skip,use:=[d]}) l Q):VW F T ops i S (o::l) Q:=
 VW.cons (fun ho _ _=> .pass o j d b c ho hg hd hv (by grind)) k
theorem uS{j:Nat}{d:Tmp}{b:Bool}(hg:o.guard=some (j,b))(hd:Eg ops j=some d)(hv:S.env d= .c .skip)(k:VW F T ops (i+1) (S.app o.dst {v:= .c .skip,use:=[d]}) l Q):VW F T ops i S (o::l) Q:=
 VW.cons (fun ho _ _=> .passS o j d b ho hg hd hv) k
theorem Amb{id:Nat}{ops:List Oper}(he:Bh F T)(hf:Qj F.N ops=true)(h:VW F T ops.toArray 0 S ops Q):W F (.region id ops.toArray false) S Q:=by
 have:=h he (T8 (by omega)) (by simp);refine Ajd ?_;have e:List.range ops.toArray.size=List.range' 0 ops.length:=by rw[List.range_eq_range'];simp
 grind
theorem Amc{P:Program}(d:Nat){t e:TypeId}(hu:P.underlying t=some (.slice e))(A:Option Addr)(n cap:Nat)(w:World):(Op.equalIn (d+1) t (.slice A n cap) (.slice none 0 0)).run P w= .ok A.isNone w:=by
 cases A with
 |none=>simp[Op.equalIn,run_underlying hu]
 |some q=>simp[Op.equalIn,run_underlying hu]
theorem Amd{P:Program}{t e:TypeId}(hu:P.underlying t=some (.slice e))(A:Option Addr)(n cap:Nat)(w:World):(Op.equal t (.slice A n cap) (.slice none 0 0)).run P w= .ok A.isNone w:=Amc 9999 hu A n cap w
theorem vN{t ty:TypeId}{x:Operand}(h:o.op= .binOp .eql t x (.const (.slice none 0 0)) ty){ob:Bool}{es:Nat}{xs:List (List V)}(hx:S.val [] x= .c (.row ob es xs)){ti:TI}{e:Nat}(ht:tg T t=some ti)(hk:ti.k= .slice e)(hg:o.guard=none)
  (k: ∀b:Bool,(b=true->xs=[])->VW F T ops (i+1) (S.app o.dst {v:= .c (.bool b)}) l Q):VW F T ops i S (o::l) Q:=by
 intro he hf hl;obtain⟨h1,h2⟩:=T4 hl;intro a w ha;rw[Z28,List.range'_succ,wpOps_cons];have ha0:=ha;obtain⟨hd,hsz,σ,β,hs⟩:=ha;have g:=Q4 hs [] x;rw[hx]at g;have hrun: ∃b:Bool,(b=true->xs=[])/\(execOp a.eval o).run F.P w= .ok (.value (.bool b)) w:=by
  have u1:=(he.tab.ty ht).slice hk;cases B7 g with
  |c hc=>
   generalize ec:a.eval x=c at hc;cases hc with
   |row p o' es xs A n cap b off cs hn hcap hmax hA hT hx hc hr=>
    refine⟨A.isNone,fun hb=> ?_,?_⟩
    all_goals simp_all[Act.eval,execOp,binOp,eqGuard,Amd]
 obtain⟨b,hb,hr⟩:=hrun;have hk':=k b hb he hf h2;unfold wpOp;simp only[h1,Region.wanted,hg,if_true];refine .inl ?_;unfold Oper.wp;rw[hr];refine hk' _ _ ⟨by grind [Df],by grind [Q7],σ,β,?_⟩;exact⟨hs.hr,hs.mpos,hs.kp,hs.inn,Px hsz hs.env (hf i o h1) (.c (.c (.bool _ _)))⟩
theorem Ame{α:Type}[Inhabited α]{t:Nat}{x ix:Operand}(h:o.op= .index t x ix){f:α->V}{ls:List α}{kd:IntKind}{j:Int}(hx:S.val [] x= .g (ls.map f))(hi:S.val [] ix= .c (.int kd j)){ti te:TI}{n e:Nat}(ht:tg T t=some ti)(hk:ti.k= .array n e)(he:tg T e=some te)(hs:te.size=1)(ha:te.k.agg=false)(hn:ls.length=n)(hb:0<=j/\j<(ls.length:Int)):
  Ai F T o S {v:= .c (f (gt ls j)),use:=Q2 [x,ix]}:=A9 _ _ fun henv S' h1 h2=>by
 intro ac w σ β hs';have g1:=Q4 hs' [] x;have g2:=Q4 hs' [] ix;rw[vc h1 (by simp) hx]at g1;rw[vc h1 (by simp) hi]at g2;have e2:=Bo g2;have u1:=(henv.tab.ty ht).array hk;have hsz:=(henv.tab.ty he).sizeOf w;have hag:=(henv.tab.ty he).isAgg w;generalize ec:ac.eval x=c at g1;cases g1 with
 |g _ arr hsz' hcs=>
  obtain⟨k,rfl⟩: ∃k:Nat,j=k:=⟨j.toNat,by omega⟩;have hlt:k<ls.length:=by omega
  have hv:(ls.map f)[k]? =some (f (gt ls (k:Int))):=by
   grind [gt]
  obtain⟨c,q1,q2⟩:=hcs k _ hv;refine⟨c,?_,.c q2⟩;have hlt2:k<arr.size:=(Array.getElem?_eq_some_iff.1 q1).1;have hp:(part e arr k).run F.P w= .ok c w:=by
   unfold part;simp_all
  simp_all[execOp,Instr.index,asIntOf,run_underlying]
end
theorem Afo{g:V->V}{l:List V}(h: ∀v∈l,g v=v):l.map g=l:=by
 induction l with
 |nil=>rfl
 |cons v r ih=>grind
section
variable {α:Type} {f:α->List V} {es:Nat}
theorem En.low (h:En f es)(lent:Bool)(io:List Nat)(H:Nat->Option Blk)(a:α):(f a).map (V.low lent io H)=f a:=by
 refine Afo fun v hv=> ?_
 have h1:=Z1.1 (h.clean a) v hv;have h2:=Z1.1 (h.closed a) v hv;cases v with
 |row o e xs=>rfl
 |int=>rfl
 |bool=>rfl
 |str=>rfl
 |nilp=>rfl
 |own=>simp[V.closed]at h2
 |ptr=>simp[V.closed]at h2
 |ip=>rfl
 |fn=>simp[V.closed]at h2
 |skip=>rfl
 |undef=>rfl
theorem En.lows (h:En f es)(lent:Bool)(io:List Nat)(H:Nat->Option Blk)(l:List α):(l.map f).map (fun x=>x.map (V.low lent io H))=l.map f:=by
 rw[Ar];exact Bf fun a _=>h.low lent io H a
theorem lowB_at (h:En f es)(lent:Bool)(io:List Nat)(H:Nat->Option Blk)(ver:Nat)(l:List α):Et lent io H ⟨ver,es,l.map f⟩=⟨0,es,l.map f⟩:=by
 unfold Et;rw[h.lows]
end
section
variable {F:Fr} {T:Tab} {S:St} {o:Oper}
def Ul (S:St)(sz:Nat)(zero:List V)(parts:Array (Nat×Operand))(shs:List (List Nat)):Option (List V):=
 match parts.toList.zip shs |>.all (fun p=>Cr (S.val p.2 p.1.2)),Nat.decEq shs.length parts.size with
 |true,.isTrue _=>Dv (fun i=>some (i*sz,sz)) zero ((parts.toList.zip shs).map fun p=>(p.1.1,S.val p.2 p.1.2))
 |_,_=>none
theorem Amf{t:TypeId}{parts:Array (Nat×Operand)}(h:o.op= .build t parts)(shs:List (List Nat)){ti te:TI}{n e:Nat}{out:List V}(ht:tg T t=some ti)(hk:ti.k= .array n e)(he:tg T e=some te)(hf:Ul S te.size ti.zero parts shs=some out):Ai F T o S {v:= .g out,use:=Q2 (parts.toList.map (·.2))}:=A9 _ _ fun henv S' h1 h2=>by
 unfold Ul at hf;split at hf
 ·rename_i _ _ hlen hall _;intro ac w σ β hs;obtain⟨z,hz,hzc,hz1⟩:=(henv.tab.ty ht).zero w;have u1:=(henv.tab.ty ht).array hk;have hsz:=(henv.tab.ty he).sizeOf w;obtain⟨c1,c2⟩:=Ks (E:=S'.cx w σ β) hzc;have hcz:B8 (S'.cx w σ β) ti.zero z.cells:=⟨by grind,fun i v hi=>by grind⟩;obtain⟨brr,g1,g2⟩:=Tn (E:=S'.cx w σ β) (fun i=>some (i*te.size,te.size)) ((parts.toList.zip shs).map fun p=>(p.1.1,S.val p.2 p.1.2)) ((parts.map fun(i,x)=>(i,ac.eval x)).toList) ti.zero z.cells out (by grind) (fun q i x hq=>by
   rw[As]at hq;obtain⟨p,hp,e2⟩:=Z5.1 hq;simp only[Prod.mk.injEq]at e2;obtain⟨rfl,rfl⟩:=e2;have hzp:=List.getElem?_zip_eq_some.1 hp;refine⟨Z1.1 hall p (Z6 hp),ac.eval p.1.2,?_,?_⟩
   ·grind
   ·rw[<-By (S:=S) (S':=S') (l:=parts.toList.map (·.2)) (A8.2 ⟨p.1,Z6 hzp.1,rfl⟩) (fun t ht=>h1 t ht) p.2];exact Q4 hs p.2 p.1.2) hcz hf
  refine⟨.agg brr,?_,.g out brr g2.1 g2.2⟩;simp_all[execOp,Instr.build,run_underlying]
 grind
end
section
variable {F:Fr} {T:Tab} {S:St} {o:Oper}
theorem sNc{x:Operand}(h:o.op= .nilCheck x){id ver k j:Nat}(hx:S.val [] x= .c (.ptr id ver k j)):Ai F T o S {v:= .c (.ptr id ver k j),use:=Q2 [x]}:=A9 _ _ fun he S' h1 h2=>
 Ael h [] (vc h1 (by simp) hx) rfl
theorem sIA{t:Nat}{x ix:Operand}(h:o.op= .indexAddr t x ix){id ver:Nat}{k:IntKind}{i:Int}{ti te:TI}{n e:Nat}(hx:S.val [] x= .c (.ptr id ver 0 0))(hi:S.val [] ix= .c (.int k i))(ht:tg T t=some ti)(hk:ti.k= .array n e)(he:tg T e=some te)(hs:te.size=1)(hb:0<=i/\i<(n:Int)):
  Ai F T o S {v:= .c (.ptr id ver 0 i.toNat),use:=Q2 [x,ix]}:=A9 _ _ fun henv S' h1 h2=>by
 have:=Aj6 (F:=F) (S:=S') henv.tab h (vc h1 (by simp) hx) (vc h1 (by simp) hi) ht hk he hb.1 hb.2
 grind
theorem Amh{α:Type}[Inhabited α]{f:α->V}{L:List α}{i:Int}(hb:0<=i/\i<(L.length:Int)):((L.map f).drop i.toNat).take 1=[f (gt L i)]:=by
 grind [List.drop_eq_getElem_cons,gt]
theorem Ami{α:Type}[Inhabited α]{t:TypeId}{x:Operand}(h:o.op= .load t x){f:α->V}{L:List α}{id ver es:Nat}{i:Int}(hx:S.val [] x= .c (.ptr id ver 0 i.toNat))(hB:S.H id=some ⟨ver,es,[L.map f]⟩){ti:TI}(ht:tg T t=some ti)(hs:ti.size=1)(ha:ti.k.agg=false)(hf: ∀a,D7 (f a)=false)(hb:0<=i/\i<(L.length:Int)):
  Ai F T o S {v:= .c (f (gt L i)),use:=Q2 [x],ids:=[id]}:=fun he hd=>
 Ts he.tab h hd ht hx hB rfl (y:=L.map f) rfl (by grind) (by rw[hs,Amh hb,ha];rfl) (by grind)
theorem Amj{α:Type}{t:TypeId}{x y:Operand}(h:o.op= .store t x y)(hd0:o.dst=none){f:α->V}{L:List α}{id ver es:Nat}{i:Int}{a:α}(sh:List Nat)(hx:S.val [] x= .c (.ptr id ver 0 i.toNat))(hy:S.val sh y= .c (f a))(hB:S.H id=some ⟨ver,es,[L.map f]⟩){ti:TI}(ht:tg T t=some ti)(hs:ti.size=1)(hu:Cr (.c (f a))=true)(huc:Fl (A.c (f a)).cells=true)(hb:0<=i/\i<(L.length:Int)):
  Ai F T o S {v:= .c .undef,upd:=[(id,some ⟨ver,es,[(L.set i.toNat a).map f]⟩)],use:=Q2 [x,y],ids:=[id]}:=fun he hd=>by
 have:=Tt he.tab h hd0 ht hx sh hy hu huc (by rw[hs];rfl) hB rfl (row:=L.map f) rfl (by grind);have e:([L.map f]:List (List V)).set 0 (Dg (L.map f) i.toNat (A.c (f a)).cells)=[(L.set i.toNat a).map f]:=by
  show [Dg (L.map f) i.toNat [f a]]=_;rw[show Dg (L.map f) i.toNat [f a]=(L.map f).set i.toNat (f a) from ?_,List.map_set];unfold Dg;have hlt:i.toNat<(L.map f).length:=by grind
  simp_all[List.set_eq_take_append_cons_drop]
 grind
end
theorem Ac.ownNilG{F:Fr}{S:St}{a:Act}{w:World}{σ:Nat->List Nat}{β:Nat->Option (Nat×Nat×Nat)}(hs:Ac F S a w σ β){t j es id:Nat}{cs:List V}(ht:S.env t= .g cs)(hj:cs[j]? =some (.row true es []))(hid:F.m<=id):
  Ac F ⟨Aa S.env t (.g (cs.set j (.own id (S.nv id) 0 0))),Aa S.H id (some ⟨S.nv id,es,[]⟩),Aa S.nv id (S.nv id+1)⟩ a w σ (Aa β id none):=by
 have h1:=hs.void hid es;refine⟨h1.hr,h1.mpos,h1.kp,h1.inn,fun t'=> ?_⟩;show RA _ (Aa S.env t (.g (cs.set j (.own id (S.nv id) 0 0))) t') _;by_cases e:t'=t
 ·subst e;rw[Q1];have h2:=h1.env t';rw[show(S.set id ⟨S.nv id,es,[]⟩).env t'= .g cs from ht]at h2;generalize a.tmps.getD t' undef=c at h2;cases h2 with
  |g _ arr hsz hcs=>
   refine .g _ _ (by grind) fun i v hi=> ?_
   rw[He]at hi;by_cases ej:j=i
   ·subst ej;have hlt:j<cs.length:=(Z3.1 hj).1;rw[if_pos rfl,if_pos hlt]at hi;cases hi;obtain⟨c,g1,g2⟩:=hcs j _ hj;refine⟨c,g1,?_⟩;cases g2 with
    |c h=>
     cases h with
     |row p o es' xs A n cap b off cs' hn hcap hmax hA hT hx hc hr=>
      have h0:cap=0:=by
       grind
      refine .own _ _ _ _ _ _ _ _ hn (by show S.nv id<Aa S.nv id (S.nv id+1) id;rw[Q1];omega) (Hc _) hmax fun B hB _=> ?_
      have h':Aa S.H id (some ⟨S.nv id,es,[]⟩) id=some B:=hB;rw[Q1]at h';cases h';exact⟨by simp,.inl h0⟩
   ·rw[if_neg ej]at hi;exact hcs i v hi
 ·rw[Q0 _ _ e];exact h1.env t'
end Go.Eng
