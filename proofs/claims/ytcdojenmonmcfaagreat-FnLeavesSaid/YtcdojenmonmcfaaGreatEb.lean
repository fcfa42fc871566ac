/- The engine, part 2: what is proved of the model, for any program; no condition. -/
import Derived.Test.YtcdojenmonmcfaaGreatEa
set_option linter.all false
namespace Go.Eng
def An7 (k:IntKind)(a b:Int):Int:=k.wrap (a+b)
def An8 (k:IntKind)(a b:Int):Int:=k.wrap (a - b)
def An9 (k:IntKind)(a b:Int):Int:=k.wrap (a*b)
def Aoa (k:IntKind)(a b:Int):Int:=k.wrap (BitVec.ofInt k.bits a &&& BitVec.ofInt k.bits b).toNat
def iOr (k:IntKind)(a b:Int):Int:=k.wrap (BitVec.ofInt k.bits a ||| BitVec.ofInt k.bits b).toNat
def Aob (k:IntKind)(a b:Int):Int:=k.wrap (BitVec.ofInt k.bits a ^^^ BitVec.ofInt k.bits b).toNat
def Aln (k:IntKind)(a b:Int):Int:=k.wrap (a*2 ^ min b.toNat k.bits)
def Alo (k:IntKind)(a b:Int):Int:=a.fdiv (2 ^ min b.toNat k.bits)
def Alp (k:IntKind)(a b:Int):Int:=k.wrap (a.tdiv b)
def Alq (k:IntKind)(a:Int):Int:=k.wrap (0 - a)
theorem Ail{H:Nat->Option Blk}{v:V}(h:v.closed=true):v.can H=v:=by
 cases v<;>first|rfl|cases h
theorem Na{S:St}(a b:List Nat):Cr S (a++b)=Cr S a++Cr S b:=by
 induction a with
 |nil=>rfl
 |cons x r ih=>
  simp only[Qe,Cr];split
  ·rw[ih];rfl
  ·exact ih
section
variable {F:Fr} {T:Tab} {S:St} {o:Oper}
theorem Jr{P:Program}(d:Nat){t:TypeId}(hu:P.underlying t=some .bool)(a b:Bool)(w:World):(Op.equalIn (d+1) t (.bool a) (.bool b)).run P w= .ok (a==b) w:=by
 simp[Op.equalIn,run_underlying hu]
theorem Wd{P:Program}{t:TypeId}(hu:P.underlying t=some .bool)(a b:Bool)(w:World):(Op.equal t (.bool a) (.bool b)).run P w= .ok (a==b) w:=Jr 9999 hu a b w
theorem sBe{op:BinOp}{t ty:TypeId}{x y:Operand}(h:o.op= .binOp op t x y ty)(hop:op= .eql∨op= .neq){a b:Bool}(hx:S.val [] x= .c (.bool a))(hy:S.val [] y= .c (.bool b)){ti:TI}(ht:tg T t=some ti)(hk:ti.k= .bool):Ca F T o S {v:= .c (.bool (if op= .eql then a==b else !(a==b))),use:=Q2 [x,y]}:=Aw _ _ fun he S' h1 h2=>by
 intro ac w σ β hs
 have g1:=Q4 hs [] x
 have g2:=Q4 hs [] y;rw[vc h1 (by simp) hx]at g1
 rw[vc h1 (by simp) hy]at g2
 have e1:=Q69 g1
 have e2:=Q69 g2
 have hu:F.P.underlying t=some .bool:=by
  obtain⟨d,h1,h2⟩:=(he.tab.ty ht).und;rw[hk]at h2;cases d<;>simp_all[Zq]
 rcases hop with rfl|rfl
 ·exact⟨_,by simp[execOp,h,e1,e2,eqGuard,binOp,Wd hu],Q79 _⟩
 ·exact⟨_,by simp[execOp,h,e1,e2,eqGuard,binOp,Wd hu],Q79 _⟩
theorem We{P:Program}{o:Oper}{b:Builtin}{x y:Operand}{ats:Array TypeId}(h:o.op= .call {callee:= .builtin b,args:= #[x,y],argTypes:=ats})(a:Act)(w:World){c:Value}(hr:(builtin b ats o.type (#[x,y].map fun| .const _=>true|_=>false) #[a.eval x,a.eval y]).run P w= .ok (.value c) w):
  (execOp a.eval o).run P w= .ok (.value c) w:=by
 have hop:(execOp a.eval o)=(do let d ←resolve a.eval ⟨.builtin b,#[x,y],ats⟩ o.type;invoke d.target d.args):=by simp only[execOp,h]
 rw[hop];simp only[resolve,Sem.run_bind,Sem.run_pure,Result.andThen_ok,invoke]
 have e2:(Array.map a.eval #[x,y])= #[a.eval x,a.eval y]:=by simp
 rw[e2];exact hr
def Aaq (x y:Int):Int:=if y<x then y else x
def Aar (x y:Int):Int:=if y>x then y else x
theorem sMn{x y:Operand}{ats:Array TypeId}(h:o.op= .call {callee:= .builtin .min,args:= #[x,y],argTypes:=ats}){k k':IntKind}{a b:Int}(hx:S.val [] x= .c (.int k a))(hy:S.val [] y= .c (.int k' b)):Ca F T o S {v:= .c (.int k (Aaq a b)),use:=Q2 [x,y]}:=Aw _ _ fun he S' h1 h2=>by
 intro ac w σ β hs
 have g1:=Q4 hs [] x
 have g2:=Q4 hs [] y;rw[vc h1 (by simp) hx]at g1
 rw[vc h1 (by simp) hy]at g2
 have e1:=Hk g1
 have e2:=Hk g2;refine⟨.int k (Aaq a b),We h ac w ?_,Q89 _ _⟩;rw[e1,e2];simp[builtin,run_min_int2,Aaq]
theorem sMx{x y:Operand}{ats:Array TypeId}(h:o.op= .call {callee:= .builtin .max,args:= #[x,y],argTypes:=ats}){k k':IntKind}{a b:Int}(hx:S.val [] x= .c (.int k a))(hy:S.val [] y= .c (.int k' b)):Ca F T o S {v:= .c (.int k (Aar a b)),use:=Q2 [x,y]}:=Aw _ _ fun he S' h1 h2=>by
 intro ac w σ β hs
 have g1:=Q4 hs [] x
 have g2:=Q4 hs [] y;rw[vc h1 (by simp) hx]at g1
 rw[vc h1 (by simp) hy]at g2
 have e1:=Hk g1
 have e2:=Hk g2;refine⟨.int k (Aar a b),We h ac w ?_,Q89 _ _⟩;rw[e1,e2];simp[builtin,run_max_int2,Aar]
end
end Go.Eng
namespace Go.Eng
theorem Qx{T:Tab}{f g:Nat->Option (List Nat)}(h: ∀t l,f t=some l->g t=some l): ∀(gs:List (Nat×Nat)) (pos:Nat) (ls:List Nat),Q88 f T gs pos=some ls->Q88 g T gs pos=some ls:=by
 intro gs
 induction gs with
 |nil=>intro pos ls hl;exact hl
 |cons q r ih=>
  obtain⟨off,t⟩:=q;intro pos ls hl;simp only[Q88]at hl ⊢;cases e1:f t with
  |none=>simp[e1]at hl
  |some l=>
   cases e2:tg T t with
   |none=>simp[e1,e2]at hl
   |some j=>
    simp only[e1,e2]at hl;simp only[h t l e1];split at hl
    ·rename_i hc;rw[if_pos hc];obtain⟨ls',h1,rfl⟩:=Z5.1 hl;rw[ih _ _ h1];rfl
    ·cases hl
theorem Uc{T:Tab}: ∀(k t:Nat) (ls:List Nat),A3 T k t=some ls->A3 T (k+1) t=some ls:=by
 intro k
 induction k with
 |zero=>intro t ls h;cases h
 |succ k ih=>
  intro t ls h;unfold A3 at h ⊢;cases et:tg T t with
  |none=>simp[et]at h
  |some ti=>
   simp only[et]at h ⊢;cases ek:ti.k with
   |int _=>simp only[ek]at h ⊢;exact h
   |bool=>simp only[ek]at h ⊢;exact h
   |str=>simp only[ek]at h ⊢;exact h
   |slice e=>
    simp only[ek]at h ⊢;cases e1:A3 T k e with
    |none=>simp[e1]at h
    |some le=>rw[ih _ _ e1];rw[e1]at h;exact h
   |struct gs=>
    simp only[ek]at h ⊢;cases e1:Q88 (A3 T k) T gs 0 with
    |none=>simp[e1]at h
    |some l=>rw[Qx ih gs 0 l e1];rw[e1]at h;exact h
   |array n e=>
    simp only[ek]at h ⊢;cases e1:A3 T k e with
    |none=>simp[e1]at h
    |some le=>rw[ih _ _ e1];rw[e1]at h;exact h
   |ptr _=>simp[ek]at h
   |other=>simp[ek]at h
theorem Qy{T:Tab}{k t:Nat}{ls:List Nat}(h:A3 T k t=some ls): ∀n,A3 T (k+n) t=some ls:=by
 intro n
 induction n with
 |zero=>exact h
 |succ n ih=>exact Uc _ _ _ ih
theorem X2{T:Tab}{a b t:Nat}{l l':List Nat}(h:A3 T a t=some l)(h':A3 T b t=some l'):l=l':=by
 have h1:=Qy h b
 have h2:=Qy h' a;rw[Nat.add_comm]at h2;rw[h1]at h2;exact Gi h2
theorem Aoc{T:Tab}{t:Nat}{v:V}{ti:TI}{k:IntKind}(h:Lf T t v)(ht:tg T t=some ti)(hk:ti.k= .int k): ∃n,v= .int k n∧(Lit.int k n).wf=true:=by
 cases h with
 |int ht' hk' hw=>rw[ht]at ht';cases ht';rw[hk]at hk';cases hk';exact⟨_,rfl,hw⟩
 |bool ht' hk'=>rw[ht]at ht';cases ht';rw[hk]at hk';cases hk'
 |str ht' hk'=>rw[ht]at ht';cases ht';rw[hk]at hk';cases hk'
 |row ht' hk'=>rw[ht]at ht';cases ht';rw[hk]at hk';cases hk'
theorem Aod{T:Tab}{t e:Nat}{v:V}{ti te:TI}{ls:List Nat}{α:Type}{f:α->List V}{R:α->Prop}(h:Lf T t v)(ht:tg T t=some ti)(hk:ti.k= .slice e)(he:tg T e=some te)(hl:A3 T 50 e=some ls)
  (hr: ∀x:List V,x.length=ls.length->(∀(i:Nat) l v,ls[i]? =some l->x[i]? =some v->Lf T l v)-> ∃a,x=f a∧R a):
  ∃l:List α,v= .row false te.size (l.map f)∧(∀a∈l,R a)∧l.length*te.bytes≤reachBytes∧l.length≤maxLen:=by
 cases h with
 |int ht' hk' hw=>rw[ht]at ht';cases ht';rw[hk]at hk';cases hk'
 |bool ht' hk'=>rw[ht]at ht';cases ht';rw[hk]at hk';cases hk'
 |str ht' hk'=>rw[ht]at ht';cases ht';rw[hk]at hk';cases hk'
 | @row _ _ e' te' fu ls' xs ht' hk' he' hl' hxl hx hb hm=>
  rw[ht]at ht';cases ht';rw[hk]at hk';cases hk';rw[he]at he';cases he'
  have hls:=X2 hl' hl;subst hls
  have: ∀ys:List (List V),(∀x∈ys,x∈xs)-> ∃l:List α,ys=l.map f∧ ∀a∈l,R a:=by
   intro ys
   induction ys with
   |nil=>intro _;exact⟨[],rfl,by simp⟩
   |cons y r ih=>
    intro hy;obtain⟨l,h1,h2⟩:=ih (fun x hx=>hy x (by simp[hx]))
    obtain⟨a,h3,h4⟩:=hr y (hxl y (hy y (by simp))) (hx y (hy y (by simp)))
    exact⟨a::l,by simp[h1,h3],fun b hb=>(Di.1 hb).elim (fun h=>h ▸ h4) (h2 b)⟩
  obtain⟨l,h1,h2⟩:=this xs (fun x hx=>hx);subst h1;rw[Bu]at hb hm;exact⟨l,rfl,h2,hb,hm⟩
theorem Aoe{T:Tab}{t:Nat}{x:A}{ti:TI}(h:TA T t x)(ht:tg T t=some ti)(hk:ti.k.agg=false): ∃v,x= .c v∧Lf T t v:=by
 obtain⟨ti',ls,h1,h2,h3⟩:=h;rw[ht]at h1;cases h1;rcases h3 with ⟨h,_⟩|⟨_,v,rfl,h⟩
 ·rw[hk]at h;cases h
 ·exact⟨v,rfl,h⟩
theorem Aof{T:Tab}{t:Nat}{x:A}{ti:TI}{ls:List Nat}(h:TA T t x)(ht:tg T t=some ti)(hk:ti.k.agg=true)(hl:A3 T 50 t=some ls): ∃vs,x= .g vs∧vs.length=ls.length∧ ∀(i:Nat) l v,ls[i]? =some l->vs[i]? =some v->Lf T l v:=by
 obtain⟨ti',ls',h1,h2,h3⟩:=h;rw[ht]at h1;cases h1;rw[hl]at h2;cases h2;rcases h3 with ⟨_,vs,rfl,h4,h5⟩|⟨h,_⟩
 ·exact⟨vs,rfl,h4,h5⟩
 ·rw[hk]at h;cases h
end Go.Eng
namespace Go.Eng
def Aas (T:Tab)(f:Nat->List V->List V->Option Bool)(xs ys:List V):List (Nat×Nat)->Option Bool
 |[]=>some true
 |(off,t)::r=>match tg T t with
  |none=>none
  |some j=>match f t ((xs.drop off).take j.size) ((ys.drop off).take j.size),Aas T f xs ys r with
   |some a,some b=>some (a&&b)
   |_,_=>none
def eqV (T:Tab):Nat->Nat->List V->List V->Option Bool
 |0,_,_,_=>none
 |k+1,t,xs,ys=>match tg T t with
  |none=>none
  |some ti=>match ti.k with
   | .struct gs=>Aas T (eqV T k) xs ys gs
   | .int kd=>match xs,ys with
    |[.int k1 a],[.int k2 b]=>if k1=k2 then some (a==b)else none
    |_,_=>none
   | .bool=>match xs,ys with
    |[.bool a],[.bool b]=>some (a==b)
    |_,_=>none
   | .str=>match xs,ys with
    |[.str a],[.str b]=>some (a.toList==b.toList)
    |_,_=>none
   |_=>none
def Aim (T:Tab)(n:Nat)(g:Nat×Nat):Bool:=match tg T g.2 with|some j=>decide (g.1+j.size≤n)|none=>false
def F5 (P:Program)(T:Tab):Nat->Nat->Bool
 |0,_=>false
 |k+1,t=>match tg T t with
  |none=>false
  |some ti=>match ti.k with
   | .struct gs=> !P.stoodInHeld t&&(P.fieldsOf t).toList.all (fun f=>decide (f.name≠ "_"))&&gs.all (fun g=>F5 P T k g.2&&Aim T ti.size g)
   | .int _=>decide (ti.size=1)
   | .bool=>decide (ti.size=1)
   | .str=>decide (ti.size=1)
   |_=>false
def Ti (agg:Bool)(c:Array Value):Value:=if agg then .agg c else c.getD 0 undef
theorem Js{E:Cx}{xs:List V}{cx:Array Value}(h:Bo E xs cx){off n:Nat}(hl:((xs.drop off).take n).length=n):Bo E ((xs.drop off).take n) (cx.extract off (off+n)):=by
 have hle:off+n≤xs.length∨n=0:=by simp at hl;omega
 refine⟨?_,fun i v hi=> ?_⟩
 ·rw[hl];simp only[Array.size_extract,h.1];rcases hle with hle|hle<;>omega
 ·rw[Tf]at hi;split at hi
  ·rename_i hin;rw[Xh]at hi;obtain⟨c,h1,h2⟩:=h.2 _ v hi;refine⟨c,?_,h2⟩;rw[Array.getElem?_extract]
   have hlt:=(Array.getElem?_eq_some_iff.1 h1).1;rw[if_pos (by omega)]
   exact h1
  ·cases hi
theorem Md{P:Program}{T:Tab}(hT:Ae P T){E:Cx}{t:Nat}{j:TI}(ht:tg T t=some j){xs:List V}{cx:Array Value}(h:Bo E xs cx){off:Nat}(hl:((xs.drop off).take j.size).length=j.size)(hs:j.k.agg=false->j.size=1)(w:World):
  (part t cx off).run P w= .ok (Ti j.k.agg (cx.extract off (off+j.size))) w:=by
 have h1:=(hT.ty ht).isAgg w
 have h2:=(hT.ty ht).sizeOf w;unfold part;simp only[Sem.run_bind,h1,Result.andThen_ok];cases hk:j.k.agg with
 |true=>simp[h2,Ti]
 |false=>
  have hs1:=hs hk
  have hlt:off<cx.size:=by
   rw[h.1];rw[hs1]at hl;simp at hl;omega
  have he:(cx.extract off (off+1))[0]? =some cx[off]:=by
   rw[Array.getElem?_extract,if_pos (by omega)]
   simp[hlt]
  simp[Ti,hlt,hs1,Xg,he]
theorem Afa{P:Program}{T:Tab}(hT:Ae P T){E:Cx}{w:World}: ∀(k t:Nat) (ti:TI) (xs ys:List V) (b:Bool) (cx cy:Array Value),tg T t=some ti->F5 P T k t=true->eqV T k t xs ys=some b->xs.length=ti.size->ys.length=ti.size->Bo E xs cx->Bo E ys cy-> ∀d,(Op.equalIn (d+k) t (Ti ti.k.agg cx) (Ti ti.k.agg cy)).run P w= .ok b w:=by
 intro k
 induction k with
 |zero=>intro t ti xs ys b cx cy _ h;cases h
 |succ k ih=>
  intro t ti xs ys b cx cy ht hok hv hxl hyl hx hy d
  have hty:=hT.ty ht;simp only[F5,ht]at hok;simp only[eqV,ht]at hv
  have one: ∀(u:V) (us:List V) (c:Array Value) (p:Value->Prop),us=[u]->Bo E us c->(∀v,RV E [] u v->p v)->p (Ti false c):=by
   intro u us c p e hc hp;subst e;obtain⟨v,h1,h2⟩:=hc.2 0 u rfl
   have:Ti false c=v:=by simp[Ti,Xg,h1]
   rw[this];exact hp v h2
  cases ek:ti.k with
  |int kd=>
   simp only[ek]at hv
   match xs,ys,hv,hx,hy with
   |[.int k1 a],[.int k2 c],hv,hx,hy=>
    have ea:Ti false cx= .int k1 a:=one _ _ cx (fun v=>v= .int k1 a) rfl hx (fun v h=>Hk (.c h))
    have eb:Ti false cy= .int k2 c:=one _ _ cy (fun v=>v= .int k2 c) rfl hy (fun v h=>Hk (.c h));simp only[TK.agg,ea,eb];simp only at hv;split at hv
    ·rename_i hkk;subst hkk;cases hv;exact run_equalIn_int w (d+k) t k1 kd a c (hty.int ek)
    ·cases hv
  |bool=>
   simp only[ek]at hv
   match xs,ys,hv,hx,hy with
   |[.bool a],[.bool c],hv,hx,hy=>
    have ea:Ti false cx= .bool a:=one _ _ cx (fun v=>v= .bool a) rfl hx (fun v h=>Q69 (.c h))
    have eb:Ti false cy= .bool c:=one _ _ cy (fun v=>v= .bool c) rfl hy (fun v h=>Q69 (.c h));simp only[TK.agg,ea,eb];cases hv
    have hu:P.underlying t=some .bool:=by
     obtain⟨dd,h1,h2⟩:=hty.und;rw[ek]at h2;cases dd<;>simp_all[Zq]
    exact Jr (d+k) hu a c w
  |str=>
   simp only[ek]at hv
   match xs,ys,hv,hx,hy with
   |[.str a],[.str c],hv,hx,hy=>
    have ea:Ti false cx= .string a:=one _ _ cx (fun v=>v= .string a) rfl hx (fun v h=>Aac (.c h))
    have eb:Ti false cy= .string c:=one _ _ cy (fun v=>v= .string c) rfl hy (fun v h=>Aac (.c h));simp only[TK.agg,ea,eb];cases hv;exact run_equalIn_string w (d+k) t a c (hty.str ek)
  |struct gs=>
   simp only[ek,Z4,Zu]at hok;simp only[ek]at hv;obtain⟨fs,hu,hfs⟩:=hty.struct ek
   have hfo:P.fieldsOf t=fs:=by simp[Program.fieldsOf,hu]
   obtain⟨⟨ho1,ho2⟩,ho3⟩:=hok;rw[hfo]at ho2;simp only[TK.agg,Ti,if_true]
   have hrun:=run_equalIn_struct (P:=P) w (d+k) t cx cy (by rw[hfo];exact hu) ho1
   rw[←Zn,hrun,hfo]
   have key: ∀(fl:List Field) (b:Bool),fl.all (fun f=>decide (f.name≠ "_"))=true->(fl.map fun f=>(f.offset,f.type)).all (fun g=>F5 P T k g.2&&Aim T ti.size g)=true->Aas T (eqV T k) xs ys (fl.map fun f=>(f.offset,f.type))=some b->(Op.eqFields (d+k) cx cy fl).run P w= .ok b w:=by
    intro fl
    induction fl with
    |nil=>intro b _ _ h;cases h;simp[Op.eqFields]
    |cons f r ihf=>
     intro b h1 h2 h3;simp only[Fw,Z4,decide_eq_true_eq,Z8]at h1 h2;simp only[Z8,Aas]at h3;cases ej:tg T f.type with
     |none=>simp[ej]at h3
     |some j=>
      simp only[ej]at h3;cases e1:eqV T k f.type ((xs.drop f.offset).take j.size) ((ys.drop f.offset).take j.size)with
      |none=>simp[e1]at h3
      |some b1=>
       cases e2:Aas T (eqV T k) xs ys (r.map fun f=>(f.offset,f.type))with
       |none=>simp[e1,e2]at h3
       |some b2=>
        simp only[e1,e2,Z7]at h3;subst h3
        have hsz1:j.k.agg=false->j.size=1:=fun hk=>by
         cases k with
         |zero=>simp[F5]at h2
         |succ k=>
          have:=h2.1.1;simp only[F5,ej]at this;cases ejk:j.k<;>simp_all[TK.agg]
        have hfit:f.offset+j.size≤ti.size:=by
         have:=h2.1.2;simp only[Aim,ej,decide_eq_true_eq]at this;exact this
        have lx:((xs.drop f.offset).take j.size).length=j.size:=by simp;omega
        have ly:((ys.drop f.offset).take j.size).length=j.size:=by simp;omega
        have p1:=Md (P:=P) hT ej hx lx hsz1 w
        have p2:=Md (P:=P) hT ej hy ly hsz1 w
        have p3:=ih f.type j _ _ b1 _ _ ej h2.1.1 e1 lx ly (Js hx lx) (Js hy ly) d
        have p4:=ihf b2 h1.2 h2.2 e2;simp only[Op.eqFields];rw[if_pos h1.1];simp only[Sem.run_bind,p1,p2,p3,Result.andThen_ok];cases b1 with
        |false=>simp
        |true=>simpa using p4
   refine key fs.toList b ho2 ?_ ?_
   ·rw[hfs];exact ho3
   ·rw[hfs];exact hv
  |slice e=>simp[ek]at hv
  |ptr e=>simp[ek]at hv
  |array n e=>simp[ek]at hv
  |other=>simp[ek]at hv
theorem sEs{F:Fr}{T:Tab}{S:St}{o:Oper}{op:BinOp}{t ty:TypeId}{x y:Operand}(h:o.op= .binOp op t x y ty)(hop:op= .eql∨op= .neq){us vs:List V}{ti:TI}{b:Bool}(hx:S.val [] x= .g us)(hy:S.val [] y= .g vs)(ht:tg T t=some ti)(hk:ti.k.agg=true)(hg:F.P.eqGuardType F.P.depth t=false)(hok:F5 F.P T 20 t=true)(hl1:us.length=ti.size)(hl2:vs.length=ti.size)(he:eqV T 20 t us vs=some b):
  Ca F T o S {v:= .c (.bool (if op= .eql then b else !b)),use:=Q2 [x,y]}:=Aw _ _ fun henv S' h1 h2=>by
 intro ac w σ β hs
 have g1:=Q4 hs [] x
 have g2:=Q4 hs [] y;rw[vc h1 (by simp) hx]at g1
 rw[vc h1 (by simp) hy]at g2
 obtain⟨cx,e1,c1⟩: ∃cx,ac.eval x= .agg cx∧Bo (S'.cx w σ β) us cx:=by
  generalize ac.eval x=c at g1;cases g1 with|g _ arr hsz hc=>exact⟨arr,rfl,hsz,hc⟩
 obtain⟨cy,e2,c2⟩: ∃cy,ac.eval y= .agg cy∧Bo (S'.cx w σ β) vs cy:=by
  generalize ac.eval y=c at g2;cases g2 with|g _ arr hsz hc=>exact⟨arr,rfl,hsz,hc⟩
 have hr:=Afa henv.tab (E:=S'.cx w σ β) (w:=w) 20 t ti us vs b cx cy ht hok he hl1 hl2 c1 c2 9980;simp only[hk,Ti,if_true]at hr
 have hgd:=run_eqGuard_agg (P:=F.P) w op t x y cx cy hg;rcases hop with rfl|rfl
 ·have hq:=run_eql_struct (P:=F.P) w t cx cy;rw[hr]at hq;exact⟨.bool b,by simp[execOp,h,e1,e2,hgd,hq],Q79 _⟩
 ·have hq:=run_neq_struct (P:=F.P) w t cx cy;rw[hr]at hq;exact⟨.bool (!b),by simp[execOp,h,e1,e2,hgd,hq],Q79 _⟩
end Go.Eng
namespace Go.Eng
def VW (F:Fr)(T:Tab)(ops:Array Oper)(i:Nat)(S:St)(l:List Oper)(Q:Exit->St->Prop):Prop:=
 F2 F T->Zy F ops->ops.toList.drop i=l->Ahp F ops (List.range' i l.length) S Q
section
variable {F:Fr} {T:Tab} {ops:Array Oper} {i:Nat} {S:St} {o:Oper} {l:List Oper} {Q:Exit->St->Prop} {r:Rec}
theorem VW.cons (hs:ops[i]? =some o->F2 F T->Aak F o->Zx F ops i S r)(k:VW F T ops (i+1) (S.app o.dst r) l Q):VW F T ops i S (o::l) Q:=by
 intro he hf hl;obtain⟨h1,h2⟩:=M7 hl
 have hk:=k he hf h2;intro a w ha;rw[Xf,List.range'_succ,wpOps_cons];refine Zx.wp hf (hs h1 he (hf i o h1)) (fun _ _=>rfl) (fun _ _=>⟨rfl,rfl⟩) (fun a' w' hs'=> ?_) ha
 have hdst:A8 ops i=o.dst:=by simp[A8,h1]
 rw[hdst]at hs';exact hk a' w' hs'
theorem ve (h:Q .normal S):VW F T ops i S [] Q:=fun _ _ _=>Zw h
theorem v0 (h:Ca F T o S r)(hg:o.guard=none)(k:VW F T ops (i+1) (S.app o.dst r) l Q):VW F T ops i S (o::l) Q:=
 VW.cons (fun ho he hd=> .run o r ho hg (h he hd)) k
theorem u0{j:Nat}{d:Tmp}{b:Bool}(h:Ca F T o S r)(hg:o.guard=some (j,b))(hd:Tl ops j=some d)(hv:S.env d= .c (.bool b))(k:VW F T ops (i+1) (S.app o.dst {r with use:=[d]++r.use}) l Q):VW F T ops i S (o::l) Q:=
 VW.cons (fun ho he hdo=> .runG o _ j d b ho hg hd hv ((h he hdo).more [d]) (by simp)) k
theorem uP{j:Nat}{d:Tmp}{b c:Bool}(hg:o.guard=some (j,b))(hd:Tl ops j=some d)(hv:S.env d= .c (.bool c))(hne:(c==b)=false)(k:VW F T ops (i+1) (S.app o.dst {v:= .c .skip,use:=[d]}) l Q):VW F T ops i S (o::l) Q:=
 VW.cons (fun ho _ _=> .pass o j d b c ho hg hd hv (by simpa using hne)) k
theorem uS{j:Nat}{d:Tmp}{b:Bool}(hg:o.guard=some (j,b))(hd:Tl ops j=some d)(hv:S.env d= .c .skip)(k:VW F T ops (i+1) (S.app o.dst {v:= .c .skip,use:=[d]}) l Q):VW F T ops i S (o::l) Q:=
 VW.cons (fun ho _ _=> .passS o j d b ho hg hd hv) k
theorem Ain{id:Nat}{ops:List Oper}(he:F2 F T)(hf:Wc F.N ops=true)(h:VW F T ops.toArray 0 S ops Q):W F (.region id ops.toArray false) S Q:=by
 have:=h he (M8 (by simpa using hf)) (by simp)
 refine Zv ?_
 have e:List.range ops.toArray.size=List.range' 0 ops.length:=by rw[List.range_eq_range'];simp
 rw[e];exact this
theorem X3{P:Program}(d:Nat){t e:TypeId}(hu:P.underlying t=some (.slice e))(A:Option Addr)(n cap:Nat)(w:World):(Op.equalIn (d+1) t (.slice A n cap) (.slice none 0 0)).run P w= .ok A.isNone w:=by
 cases A with
 |none=>simp[Op.equalIn,run_underlying hu]
 |some q=>simp[Op.equalIn,run_underlying hu]
theorem Aio{P:Program}{t e:TypeId}(hu:P.underlying t=some (.slice e))(A:Option Addr)(n cap:Nat)(w:World):(Op.equal t (.slice A n cap) (.slice none 0 0)).run P w= .ok A.isNone w:=X3 9999 hu A n cap w
theorem vN{t ty:TypeId}{x:Operand}(h:o.op= .binOp .eql t x (.const (.slice none 0 0)) ty){ob:Bool}{es:Nat}{xs:List (List V)}(hx:S.val [] x= .c (.row ob es xs)){ti:TI}{e:Nat}(ht:tg T t=some ti)(hk:ti.k= .slice e)(hg:o.guard=none)
  (k: ∀b:Bool,(b=true->xs=[])->VW F T ops (i+1) (S.app o.dst {v:= .c (.bool b)}) l Q):VW F T ops i S (o::l) Q:=by
 intro he hf hl;obtain⟨h1,h2⟩:=M7 hl;intro a w ha;rw[Xf,List.range'_succ,wpOps_cons]
 have ha0:=ha;obtain⟨hd,hsz,σ,β,hs⟩:=ha
 have g:=Q4 hs [] x;rw[hx]at g
 have hrun: ∃b:Bool,(b=true->xs=[])∧(execOp a.eval o).run F.P w= .ok (.value (.bool b)) w:=by
  have u1:=(he.tab.ty ht).slice hk;cases Cm g with
  |c hc=>
   generalize ec:a.eval x=c at hc;cases hc with
   |row p o' es xs A n cap b off cs hn hcap hmax hA hT hx hc hr=>
    refine⟨A.isNone,fun hb=> ?_,?_⟩
    ·cases xs with
     |nil=>rfl
     |cons y ys=>have:=hA (by rw[hn];simp);rw[this]at hb;cases hb
    ·have ev:a.eval (.const (.slice none 0 0))= .slice none 0 0:=rfl;simp[execOp,h,ec,ev,binOp,eqGuard,Aio u1]
 obtain⟨b,hb,hr⟩:=hrun
 have hk':=k b hb he hf h2;unfold wpOp;simp only[h1,Region.wanted,hg,if_true];refine .inl ?_;unfold Oper.wp;rw[hr];refine hk' _ _ ⟨by rw[Tn];exact hd,by rw[Q7];exact hsz,σ,β,?_⟩
 exact⟨hs.hr,hs.mpos,hs.kp,hs.inn,Hy hsz hs.env (hf i o h1) (.c (.c (.bool _ _)))⟩
theorem Aog{α:Type}[Inhabited α]{t:Nat}{x ix:Operand}(h:o.op= .index t x ix){f:α->V}{ls:List α}{kd:IntKind}{j:Int}(hx:S.val [] x= .g (ls.map f))(hi:S.val [] ix= .c (.int kd j)){ti te:TI}{n e:Nat}(ht:tg T t=some ti)(hk:ti.k= .array n e)(he:tg T e=some te)(hs:te.size=1)(ha:te.k.agg=false)(hn:ls.length=n)(hb:0≤j∧j<(ls.length:Int)):
  Ca F T o S {v:= .c (f (gt ls j)),use:=Q2 [x,ix]}:=Aw _ _ fun henv S' h1 h2=>by
 intro ac w σ β hs'
 have g1:=Q4 hs' [] x
 have g2:=Q4 hs' [] ix;rw[vc h1 (by simp) hx]at g1
 rw[vc h1 (by simp) hi]at g2
 have e2:=Hk g2
 have u1:=(henv.tab.ty ht).array hk
 have hsz:=(henv.tab.ty he).sizeOf w
 have hag:=(henv.tab.ty he).isAgg w;generalize ec:ac.eval x=c at g1;cases g1 with
 |g _ arr hsz' hcs=>
  obtain⟨k,rfl⟩: ∃k:Nat,j=k:=⟨j.toNat,by omega⟩
  have hlt:k<ls.length:=by omega
  have hv:(ls.map f)[k]? =some (f (gt ls (k:Int))):=by
   rw[B5,Eh hlt];simp[gt,hlt]
  obtain⟨c,q1,q2⟩:=hcs k _ hv;refine⟨c,?_,.c q2⟩
  have hlt2:k<arr.size:=(Array.getElem?_eq_some_iff.1 q1).1
  have hp:(part e arr k).run F.P w= .ok c w:=by
   unfold part
   have q3:arr[k]=c:=by have:=(Array.getElem?_eq_some_iff.1 q1).2;exact this
   simp[Sem.run_bind,hag,ha,hlt2,q3]
  simp[execOp,h,ec,e2,Instr.index,asIntOf,run_underlying u1,hsz,hs];rw[if_pos (by omega)]
  simp[hp]
end
end Go.Eng
namespace Go.Eng
theorem Qz{g:V->V}{l:List V}(h: ∀v∈l,g v=v):l.map g=l:=by
 induction l with
 |nil=>rfl
 |cons v r ih=>rw[Z8,h v (by simp),ih (fun u hu=>h u (by simp[hu]))]
section
variable {α:Type} {f:α->List V} {es:Nat}
theorem En.low (h:En f es)(lent:Bool)(io:List Nat)(H:Nat->Option Blk)(a:α):(f a).map (V.low lent io H)=f a:=by
 refine Qz fun v hv=> ?_
 have h1:=Z1.1 (h.clean a) v hv
 have h2:=Z1.1 (h.closed a) v hv;cases v with
 |row o e xs=>rfl
 |int=>rfl
 |bool=>rfl
 |str=>rfl
 |nilp=>rfl
 |own=>simp[V.closed]at h2
 |ptr=>simp[V.closed]at h2
 |ip=>simp[V.closed]at h2
 |fn=>simp[V.closed]at h2
 |skip=>simp[V.closed]at h2
 |undef=>simp[V.closed]at h2
theorem En.lows (h:En f es)(lent:Bool)(io:List Nat)(H:Nat->Option Blk)(l:List α):(l.map f).map (fun x=>x.map (V.low lent io H))=l.map f:=by
 rw[Cq];exact Er fun a _=>h.low lent io H a
theorem lowB_at (h:En f es)(lent:Bool)(io:List Nat)(H:Nat->Option Blk)(ver:Nat)(l:List α):Fz lent io H ⟨ver,es,l.map f⟩=⟨0,es,l.map f⟩:=by
 unfold Fz;rw[h.lows]
end
section
variable {F:Fr} {T:Tab} {S:St} {o:Oper}
def bdA (S:St)(sz:Nat)(zero:List V)(parts:Array (Nat×Operand))(shs:List (List Nat)):Option (List V):=
 match parts.toList.zip shs |>.all (fun p=>Ay (S.val p.2 p.1.2)),Nat.decEq shs.length parts.size with
 |true,.isTrue _=>Dj (fun i=>some (i*sz,sz)) zero ((parts.toList.zip shs).map fun p=>(p.1.1,S.val p.2 p.1.2))
 |_,_=>none
theorem Aoi{t:TypeId}{parts:Array (Nat×Operand)}(h:o.op= .build t parts)(shs:List (List Nat)){ti te:TI}{n e:Nat}{out:List V}(ht:tg T t=some ti)(hk:ti.k= .array n e)(he:tg T e=some te)(hf:bdA S te.size ti.zero parts shs=some out):Ca F T o S {v:= .g out,use:=Q2 (parts.toList.map (·.2))}:=Aw _ _ fun henv S' h1 h2=>by
 unfold bdA at hf;split at hf
 ·rename_i _ _ hlen hall _;intro ac w σ β hs;obtain⟨z,hz,hzc,hz1⟩:=(henv.tab.ty ht).zero w
  have u1:=(henv.tab.ty ht).array hk
  have hsz:=(henv.tab.ty he).sizeOf w;obtain⟨c1,c2⟩:=Q46 (E:=S'.cx w σ β) hzc
  have hcz:Bo (S'.cx w σ β) ti.zero z.cells:=⟨by simpa using c1.symm,fun i v hi=>by simpa using c2 i v hi⟩
  obtain⟨brr,g1,g2⟩:=Ah7 (E:=S'.cx w σ β) (fun i=>some (i*te.size,te.size)) ((parts.toList.zip shs).map fun p=>(p.1.1,S.val p.2 p.1.2)) ((parts.map fun(i,x)=>(i,ac.eval x)).toList) ti.zero z.cells out (by simp[hlen]) (fun q i x hq=>by
   rw[B5]at hq;obtain⟨p,hp,e2⟩:=Z5.1 hq;simp only[Prod.mk.injEq]at e2;obtain⟨rfl,rfl⟩:=e2
   have hzp:=List.getElem?_zip_eq_some.1 hp;refine⟨Z1.1 hall p (Z6 hp),ac.eval p.1.2,?_,?_⟩
   ·have:parts[q]? =some p.1:=by simpa using hzp.1
    simp[this]
   ·rw[←La (S:=S) (S':=S') (l:=parts.toList.map (·.2)) (D9.2 ⟨p.1,Z6 hzp.1,rfl⟩) (fun t ht=>h1 t ht) p.2];exact Q4 hs p.2 p.1.2) hcz hf
  refine⟨.agg brr,?_,.g out brr g2.1 g2.2⟩;simp only[execOp,h,Instr.build,Sem.run_bind,hz,Result.andThen_ok,run_underlying u1,hsz,g1,Sem.run_pure]
 ·cases hf
end
end Go.Eng
namespace Go.Eng
section
variable {F:Fr} {T:Tab} {S:St} {o:Oper}
theorem sNc{x:Operand}(h:o.op= .nilCheck x){id ver k j:Nat}(hx:S.val [] x= .c (.ptr id ver k j)):Ca F T o S {v:= .c (.ptr id ver k j),use:=Q2 [x]}:=Aw _ _ fun he S' h1 h2=>
 Alm h [] (vc h1 (by simp) hx) rfl
theorem sIA{t:Nat}{x ix:Operand}(h:o.op= .indexAddr t x ix){id ver:Nat}{k:IntKind}{i:Int}{ti te:TI}{n e:Nat}(hx:S.val [] x= .c (.ptr id ver 0 0))(hi:S.val [] ix= .c (.int k i))(ht:tg T t=some ti)(hk:ti.k= .array n e)(he:tg T e=some te)(hs:te.size=1)(hb:0≤i∧i<(n:Int)):
  Ca F T o S {v:= .c (.ptr id ver 0 i.toNat),use:=Q2 [x,ix]}:=Aw _ _ fun henv S' h1 h2=>by
 have:=Xs (F:=F) (S:=S') henv.tab h (vc h1 (by simp) hx) (vc h1 (by simp) hi) ht hk he hb.1 hb.2
 rw[hs,Nat.mul_one,Nat.zero_add]at this;exact this
theorem Alr{α:Type}[Inhabited α]{f:α->V}{L:List α}{i:Int}(hb:0≤i∧i<(L.length:Int)):((L.map f).drop i.toNat).take 1=[f (gt L i)]:=by
 obtain⟨k,rfl⟩: ∃k:Nat,i=k:=⟨i.toNat,by omega⟩
 have hlt:k<L.length:=by omega
 rw[Int.toNat_natCast,Z47 (by simpa using hlt)]
 simp[gt,hlt]
theorem Aoj{α:Type}[Inhabited α]{t:TypeId}{x:Operand}(h:o.op= .load t x){f:α->V}{L:List α}{id ver es:Nat}{i:Int}(hx:S.val [] x= .c (.ptr id ver 0 i.toNat))(hB:S.H id=some ⟨ver,es,[L.map f]⟩){ti:TI}(ht:tg T t=some ti)(hs:ti.size=1)(ha:ti.k.agg=false)(hf: ∀a,Th (f a)=false)(hb:0≤i∧i<(L.length:Int)):
  Ca F T o S {v:= .c (f (gt L i)),use:=Q2 [x],ids:=[id]}:=fun he hd=>
 Ah9 he.tab h hd ht hx hB rfl (y:=L.map f) rfl (by rw[hs,Bu];omega) (by rw[hs,Alr hb,ha];rfl) (by rw[hs,Alr hb];simp[hf])
theorem Aok{α:Type}{t:TypeId}{x y:Operand}(h:o.op= .store t x y)(hd0:o.dst=none){f:α->V}{L:List α}{id ver es:Nat}{i:Int}{a:α}(sh:List Nat)(hx:S.val [] x= .c (.ptr id ver 0 i.toNat))(hy:S.val sh y= .c (f a))(hB:S.H id=some ⟨ver,es,[L.map f]⟩){ti:TI}(ht:tg T t=some ti)(hs:ti.size=1)(hu:Ay (.c (f a))=true)(huc:C4 (A.c (f a)).cells=true)(hb:0≤i∧i<(L.length:Int)):
  Ca F T o S {v:= .c .undef,upd:=[(id,some ⟨ver,es,[(L.set i.toNat a).map f]⟩)],use:=Q2 [x,y],ids:=[id]}:=fun he hd=>by
 have:=Aia he.tab h hd0 ht hx sh hy hu huc (by rw[hs];rfl) hB rfl (row:=L.map f) rfl (by rw[hs,Bu];omega)
 have e:([L.map f]:List (List V)).set 0 (Es (L.map f) i.toNat (A.c (f a)).cells)=[(L.set i.toNat a).map f]:=by
  show [Es (L.map f) i.toNat [f a]]=_;rw[show Es (L.map f) i.toNat [f a]=(L.map f).set i.toNat (f a) from ?_,List.map_set]
  unfold Es
  have hlt:i.toNat<(L.map f).length:=by rw[Bu];omega
  rw[List.set_eq_take_append_cons_drop,if_pos hlt];simp
 rw[e]at this;exact this
end
theorem Aq.ownNilG{F:Fr}{S:St}{a:Act}{w:World}{σ:Nat->List Nat}{β:Nat->Option (Nat×Nat×Nat)}(hs:Aq F S a w σ β){t j es id:Nat}{cs:List V}(ht:S.env t= .g cs)(hj:cs[j]? =some (.row true es []))(hid:F.m≤id):
  Aq F ⟨Aa S.env t (.g (cs.set j (.own id (S.nv id) 0 0))),Aa S.H id (some ⟨S.nv id,es,[]⟩),Aa S.nv id (S.nv id+1)⟩ a w σ (Aa β id none):=by
 have h1:=hs.void hid es;refine⟨h1.hr,h1.mpos,h1.kp,h1.inn,fun t'=> ?_⟩
 show RA _ (Aa S.env t (.g (cs.set j (.own id (S.nv id) 0 0))) t') _
 by_cases e:t'=t
 ·subst e;rw[Q1]
  have h2:=h1.env t';rw[show(S.set id ⟨S.nv id,es,[]⟩).env t'= .g cs from ht]at h2
  generalize a.tmps.getD t' undef=c at h2;cases h2 with
  |g _ arr hsz hcs=>
   refine .g _ _ (by simpa using hsz) fun i v hi=> ?_
   rw[V6]at hi
   by_cases ej:j=i
   ·subst ej
    have hlt:j<cs.length:=(Z3.1 hj).1;rw[if_pos rfl,if_pos hlt]at hi;cases hi;obtain⟨c,g1,g2⟩:=hcs j _ hj;refine⟨c,g1,?_⟩;cases g2 with
    |c h=>
     cases h with
     |row p o es' xs A n cap b off cs' hn hcap hmax hA hT hx hc hr=>
      have h0:cap=0:=by
       rcases Ly cap with h|h
       ·exact h
       ·obtain⟨_,hp,_⟩:=hT rfl h;exact absurd rfl hp
      refine .own _ _ _ _ _ _ _ _ hn (by show S.nv id<Aa S.nv id (S.nv id+1) id;rw[Q1];omega) (Z21 _) hmax fun B hB _=> ?_
      have h':Aa S.H id (some ⟨S.nv id,es,[]⟩) id=some B:=hB;rw[Q1]at h';cases h';exact⟨by simp,.inl h0⟩
   ·rw[if_neg ej]at hi;exact hcs i v hi
 ·rw[Q0 _ _ e];exact h1.env t'
end Go.Eng
namespace Go.Eng
section
variable {F:Fr} {T:Tab} {S:St} {o:Oper}
end
theorem Aq.cut{F:Fr}{S:St}{a:Act}{w:World}{σ:Nat->List Nat}{β:Nat->Option (Nat×Nat×Nat)}(hs:Aq F S a w σ β){t id ver es k:Nat}{xs:List (List V)}(ht:S.env t= .c (.own id ver 0 k))(hB:S.H id=some ⟨ver,es,xs⟩)(hk:k≤xs.length):
  Aq F ⟨Aa S.env t (.c (.own id (S.nv id) 0 k)),Aa S.H id (some ⟨S.nv id,es,xs.take k⟩),Aa S.nv id (S.nv id+1)⟩ a w σ β:=by
 have hid0:id≠0:=by rintro rfl;have h0:S.H 0=none:=hs.hr.far;rw[h0]at hB;cases hB
 let S':St:=⟨S.env,Aa S.H id (some ⟨S.nv id,es,xs.take k⟩),Aa S.nv id (S.nv id+1)⟩
 have hext:L4 (S.cx w σ β) (S'.cx w σ β):=⟨fun i=>by
  show S.nv i≤Aa S.nv id (S.nv id+1) i
  by_cases e:i=id
  ·subst e;rw[Q1];omega
  ·rw[Q0 _ _ e];exact Z9 _,fun i B' h hv=>by
  have h':Aa S.H id (some ⟨S.nv id,es,xs.take k⟩) i=some B':=h
  by_cases e:i=id
  ·subst e;rw[Q1]at h';cases h';exact absurd hv (Nat.lt_irrefl _)
  ·rw[Q0 _ _ e]at h';exact⟨B',h',rfl,rfl,rfl,rfl⟩⟩
 have hn: ∀p,C0 w σ w σ p:=fun p b _ _=>⟨rfl,rfl⟩;refine⟨⟨(Q0 _ _ (fun h=>hid0 h.symm)).trans hs.hr.far,fun i B' h=> ?_,hs.hr.new⟩,hs.mpos,hs.kp,hs.inn,fun t'=> ?_⟩
 ·have h':Aa S.H id (some ⟨S.nv id,es,xs.take k⟩) i=some B':=h
  by_cases e:i=id
  ·subst e;rw[Q1]at h';cases h';obtain⟨h1,h2⟩:=hs.hr.blk i _ hB;refine⟨by show S.nv i<Aa S.nv i (S.nv i+1) i;rw[Q1];omega,?_⟩
   cases eb:β i with
   |none=>exact .mk_void eb (by have:=h2.void eb;show xs.take k=[];rw[show xs=[] from this];simp)
   |some q=>
    obtain⟨b,o',n⟩:=q;obtain⟨q1,q2,q3,arr,T',q4,q5,q6⟩:=h2.some eb;refine .mk eb ⟨q1,fun x hx=>q2 x (Zm hx),by show(xs.take k).length≤n;have:xs.length≤n:=q3;simp;omega,arr,T',q4,q5,fun k' j x v hk' hj=> ?_⟩
    have hk2:(xs.take k)[k']? =some x:=hk';rw[Tf]at hk2;split at hk2
    ·obtain⟨c,g3,g4⟩:=q6 k' j x v hk2 hj;exact⟨c,g3,g4.mono hext (hn _)⟩
    ·cases hk2
  ·rw[Q0 _ _ e]at h';obtain⟨h1,h2⟩:=hs.hr.blk i B' h';exact⟨by show B'.ver<Aa S.nv id (S.nv id+1) i;rw[Q0 _ _ e];exact h1,h2.mono hext rfl (hn [i])⟩
 ·show RA _ (Aa S.env t (.c (.own id (S.nv id) 0 k)) t') _
  by_cases e:t'=t
  ·subst e;rw[Q1]
   have h1:=hs.env t';rw[ht]at h1;obtain⟨A,cap,e1,hv,hcap,hmax,hb⟩:=Aaf h1;rw[e1];refine .c (.own _ _ _ _ _ _ _ _ rfl (by show S.nv id<Aa S.nv id (S.nv id+1) id;rw[Q1];omega) hcap hmax fun B hB' hver=> ?_)
   have h':Aa S.H id (some ⟨S.nv id,es,xs.take k⟩) id=some B:=hB';rw[Q1]at h';cases h';obtain⟨g1,g2⟩:=hb _ hB rfl;exact⟨by show 0+k≤(xs.take k).length;simp;omega,g2⟩
  ·rw[Q0 _ _ e];exact(hs.env t').mono hext (hn [])
end Go.Eng
namespace Go.Eng
def Me:List Nat->List Nat->Bool
 |[],_=>true
 |_::_,[]=>false
 |a::r,b::s=>Nat.beq a b&&Me r s
theorem Mf{p q:List Nat}:Me p q=true ↔ ∃r,q=p++r:=by
 induction p generalizing q with
 |nil=>simp[Me]
 |cons a r ih=>
  cases q with
  |nil=>simp[Me]
  |cons b s=>
   simp only[Me,Z4,ih,Qe,Ld];constructor
   ·rintro⟨h,t,rfl⟩;exact⟨t,(Z2 h).symm,rfl⟩
   ·rintro⟨t,rfl,rfl⟩;exact⟨by simp,t,rfl⟩
def Bi (p q:List Nat)(s:List Nat):List Nat:=if Me p s=true then q++s.drop p.length else s
theorem Afb{p q r:List Nat}:Bi p q (p++r)=q++r:=by
 unfold Bi;rw[if_pos (Mf.2 ⟨r,rfl⟩),List.drop_left]
theorem Q56{p q s:List Nat}(h: ∀r,s≠p++r):Bi p q s=s:=by
 unfold Bi;rw[if_neg];intro h2;obtain⟨r,hr⟩:=Mf.1 h2;exact h r hr
theorem Q57{p q:List Nat}(hp:p≠[]):Bi p q []=[]:=Q56 fun r h=>by
 cases p with
 |nil=>exact hp rfl
 |cons a s=>cases h
theorem Hg{p q:List Nat}(hp:p≠[])(hp0:p.head? ≠some 0):Bi p q [0]=[0]:=Q56 fun r h=>by
 cases p with
 |nil=>exact hp rfl
 |cons a s=>simp only[Qe,Ld]at h;exact hp0 (by simp[←h.1])
section
variable {F:Fr} {S:St} {a:Act} {w:World} {σ:Nat->List Nat} {β:Nat->Option (Nat×Nat×Nat)}
theorem Aq.takeN (hs:Aq F S a w σ β){id nid ver es k j e:Nat}{xs:List (List V)}{x:List V}{ys:List (List V)}(hB:S.H id=some ⟨ver,es,xs⟩)(hk:xs[k]? =some x)(hj:x[j]? =some (.row true e ys))(hnid:F.m≤nid)(hne:id≠nid):
  ∃σ' β',Aq F ⟨S.env,Aa (Aa S.H nid (some ⟨S.nv nid,e,ys⟩)) id (some ⟨ver,es,xs.set k (x.set j (.own nid (S.nv nid) 0 ys.length))⟩),Aa S.nv nid (S.nv nid+1)⟩ a w σ' β':=by
 have hid0:id≠0:=by rintro rfl;have h0:S.H 0=none:=hs.hr.far;rw[h0]at hB;cases hB
 have hnid0:nid≠0:=by have:=hs.mpos;omega
 obtain⟨hver,hbr⟩:=hs.hr.blk id _ hB
 have hcell: ∃c,RV (S.cx w σ β) [id,k,j] (.row true e ys) c∧ ∀b o n,β id=some (b,o,n)-> ∃arr T,w.heap[b]? =some (.cells arr T (0,0))∧arr[o+k*es+j]? =some c:=by
  cases eb:β id with
  |none=>have:=hbr.void eb;rw[show xs=[] from this]at hk;simp at hk
  |some q=>
   obtain⟨b,o,n⟩:=q;obtain⟨q1,q2,q3,arr,T,q4,q5,q6⟩:=hbr.some eb;obtain⟨c,g1,g2⟩:=q6 k j x _ hk hj;exact⟨c,g2,fun b' o' n' h=>by cases h;exact⟨arr,T,q4,g1⟩⟩
 obtain⟨c,hc,hcm⟩:=hcell;cases hc with
 |c hc=>
 cases hc with
 |row p o' es' xs' A n cap b off cs hn hcap hmax hA hT hx hcc hr=>
 let p:List Nat:=[id,k,j]
 let σ':Nat->List Nat:=fun b=>Bi p [nid] (σ b)
 let β':Nat->Option (Nat×Nat×Nat):=Aa β nid (if cap=0 then none else some (b,off,cap))
 let S':St:=⟨S.env,Aa (Aa S.H nid (some ⟨S.nv nid,e,ys⟩)) id (some ⟨ver,es,xs.set k (x.set j (.own nid (S.nv nid) 0 ys.length))⟩),Aa S.nv nid (S.nv nid+1)⟩
 have hHid:S'.H id=some ⟨ver,es,xs.set k (x.set j (.own nid (S.nv nid) 0 ys.length))⟩:=Q1 _ _ _
 have hHn:S'.H nid=some ⟨S.nv nid,e,ys⟩:=(Q0 _ _ (Ne.symm hne)).trans (Q1 _ _ _)
 have hHo: ∀i,i≠id->i≠nid->S'.H i=S.H i:=fun i h1 h2=>(Q0 _ _ h1).trans (Q0 _ _ h2)
 have hβo: ∀i,i≠nid->β' i=β i:=fun i h=>Q0 _ _ h
 have hσnil: ∀b,σ b=[]->σ' b=[]:=fun b h=>by show Bi p [nid] (σ b)=[];rw[h];exact Q57 (by simp[p])
 have hnear: ∀q,(∀r s,q≠[]->q++r≠p++s)->C0 w σ w σ' q:=by
  intro q hq b' _ hc';refine⟨rfl,?_⟩
  show Bi p [nid] (σ b')=σ b';rcases hc' with h|⟨hq0,r,hr'⟩
  ·rw[h];exact Q57 (by simp[p])
  ·refine Q56 fun s h=>hq r s hq0 ?_;rw[hr'];exact h
 have hext:L4 (S.cx w σ β) (S'.cx w σ' β'):=by
  refine⟨fun i=> ?_,fun i B' h hv=> ?_⟩
  ·show S.nv i≤Aa S.nv nid (S.nv nid+1) i
   by_cases e2:i=nid
   ·subst e2;rw[Q1];omega
   ·rw[Q0 _ _ e2];exact Z9 _
  ·have h':S'.H i=some B':=h
   by_cases e2:i=id
   ·subst e2;rw[hHid]at h';cases h';exact⟨_,hB,rfl,rfl,by simp,hβo _ hne⟩
   ·by_cases e3:i=nid
    ·subst e3;rw[hHn]at h';cases h';exact absurd hv (Nat.lt_irrefl _)
    ·rw[hHo i e2 e3]at h';exact⟨B',h',rfl,rfl,rfl,hβo i e3⟩
 refine⟨σ',β',⟨⟨?_,fun i B' h=> ?_,fun b' hb'=>hσnil b' (hs.hr.new b' hb')⟩,hs.mpos,⟨hs.kp.os,hs.kp.tape,hs.kp.output,hs.kp.size,hs.kp.heap,fun b' hb' h0=> ?_⟩,fun i hi=> ?_,fun t=>(hs.env t).mono hext (hnear [] (fun r s h=>absurd rfl h))⟩⟩
 ·show S'.H 0=none;rw[hHo 0 (Ne.symm hid0) (Ne.symm hnid0)];exact hs.hr.far
 ·have h':S'.H i=some B':=h
  by_cases e2:i=id
  ·subst e2;rw[hHid]at h';cases h';refine⟨by show ver<Aa S.nv nid (S.nv nid+1) i;rw[Q0 _ _ hne];exact hver,?_⟩
   cases eb:β i with
   |none=>have:=hbr.void eb;rw[show xs=[] from this]at hk;simp at hk
   |some q=>
    obtain⟨b1,o1,n1⟩:=q;obtain⟨q1,q2,q3,arr,T,q4,q5,q6⟩:=hbr.some eb;refine .mk ((hβo i hne).trans eb) ⟨?_,?_,by simpa using q3,arr,T,q4,q5,fun k' j' x' v hk' hj'=> ?_⟩
    ·show Bi p [nid] (σ b1)=[i];rw[show σ b1=[i] from q1]
     exact Q56 fun r h=>by simp[p]at h
    ·intro y hy;rcases Z54 hy with h|rfl
     ·exact q2 y h
     ·simpa using q2 x (Z6 hk)
    ·have hk2:(xs.set k (x.set j (.own nid (S.nv nid) 0 ys.length)))[k']? =some x':=hk'
     have near2: ∀(k2 j2:Nat),(k2≠k∨j2≠j)->C0 w σ w σ' [i,k2,j2]:=fun k2 j2 hne2=>hnear _ fun r s _ h=>by
      simp only[p,Qe,Zl,Ld]at h;rcases hne2 with h2|h2
      ·exact h2 h.2.1
      ·exact h2 h.2.2.1
     rw[V6]at hk2
     by_cases ek:k=k'
     ·subst ek;rw[if_pos rfl,if_pos (Z3.1 hk).1]at hk2;cases hk2;rw[V6]at hj'
      by_cases ej:j=j'
      ·subst ej;rw[if_pos rfl,if_pos (Z3.1 hj).1]at hj';cases hj';obtain⟨arr2,T2,g1,g2⟩:=hcm b1 o1 n1 eb
       have:w.heap[b1]? =some (.cells arr T (0,0)):=q4;rw[this]at g1;cases g1;refine⟨_,g2,.own _ _ _ _ _ _ _ _ hn (by show S.nv nid<Aa S.nv nid (S.nv nid+1) nid;rw[Q1];omega) (by omega) hmax fun B hB' hv'=> ?_⟩
       have h3:S'.H nid=some B:=hB';rw[hHn]at h3;cases h3;refine⟨by simp,?_⟩
       by_cases h0:cap=0
       ·exact .inl h0
       ·obtain⟨hA1,_⟩:=hT rfl (by omega)
        refine .inr ⟨b,off,cap,?_,by rw[hA1];simp,by omega⟩
        show Aa β nid _ nid=_;rw[Q1,if_neg h0]
      ·rw[if_neg ej]at hj';obtain⟨c2,g3,g4⟩:=q6 k j' x v hk hj';exact⟨c2,g3,g4.mono hext (near2 k j' (.inr (Ne.symm ej)))⟩
     ·rw[if_neg ek]at hk2;obtain⟨c2,g3,g4⟩:=q6 k' j' x' v hk2 hj';exact⟨c2,g3,g4.mono hext (near2 k' j' (.inl (Ne.symm ek)))⟩
  ·by_cases e3:i=nid
   ·subst e3;rw[hHn]at h';cases h';refine⟨by show S.nv i<Aa S.nv i (S.nv i+1) i;rw[Q1];omega,?_⟩
    by_cases h0:cap=0
    ·have hy:ys=[]:=K9.1 (by omega)
     exact .mk_void (by show Aa β i _ i=none;rw[Q1,if_pos h0]) hy
    ·obtain⟨hA1,hp,hσb,arr,T,hh,hsz⟩:=hT rfl (by omega)
     refine .mk (by show Aa β i _ i=some (b,off,cap);rw[Q1,if_neg h0]) ⟨?_,hx,by show ys.length≤cap;omega,arr,T,hh,hsz,fun k' j' x' v hk' hj'=> ?_⟩
     ·show Bi p [i] (σ b)=[i];rw[show σ b=p++[] from by have h9:σ b=[id,k,j]:=hσb;simpa[p]using h9,Afb];rfl
     ·obtain⟨h1,_⟩:=hcc k' j' x' v hk' hj'
      have h2:=hr k' j' x' v hk' hj';rw[if_pos rfl]at h2;refine⟨cs k' j',by rw[←Zo hh];exact h1,.c (h2.move hσnil (fun b2 r hp2 hσ2=> ?_) (fun _=>by simp))⟩
      show Bi p [i] (σ b2)=[i,k',j']++r;rw[show σ b2=p++([k',j']++r) from by rw[show σ b2=_ from hσ2];simp[p],Afb]
      rfl
   ·rw[hHo i e2 e3]at h';obtain⟨h1,h2⟩:=hs.hr.blk i B' h';exact⟨by show B'.ver<Aa S.nv nid (S.nv nid+1) i;rw[Q0 _ _ e3];exact h1,h2.mono hext (hβo i e3) (hnear [i] fun r s _ h=>by
     simp only[p,Qe,Zl,Ld]at h;exact e2 h.1)⟩
 ·show Bi p [nid] (σ b')=F.σ0 b';rw[hs.kp.free b' hb' h0];rcases h0 with h0|h0
  ·rw[h0];exact Q57 (by simp[p])
  ·rw[h0];exact Hg (by simp[p]) (by simp[p];exact hid0)
 ·show β' i=F.β0 i;rw[hβo i (by omega)];exact hs.inn i hi
theorem Aq.putN (hs:Aq F S a w σ β){id nid ver es k j e nver:Nat}{xs:List (List V)}{x:List V}{ys:List (List V)}(hB:S.H id=some ⟨ver,es,xs⟩)(hk:xs[k]? =some x)(hj:x[j]? =some (.own nid nver 0 ys.length))(hN:S.H nid=some ⟨nver,e,ys⟩)(hcl:allClosed ⟨nver,e,ys⟩=true)(hne:id≠nid)(hnm:F.m≤nid):
  ∃σ',Aq F ⟨S.env,Aa (Aa S.H nid none) id (some ⟨ver,es,xs.set k (x.set j (.row true e ys))⟩),S.nv⟩ a w σ' β:=by
 have hid0:id≠0:=by rintro rfl;have h0:S.H 0=none:=hs.hr.far;rw[h0]at hB;cases hB
 have hnid0:nid≠0:=by rintro rfl;have h0:S.H 0=none:=hs.hr.far;rw[h0]at hN;cases hN
 obtain⟨hver,hbr⟩:=hs.hr.blk id _ hB;obtain⟨hnver,hnbr⟩:=hs.hr.blk nid _ hN
 let p:List Nat:=[id,k,j]
 let σ':Nat->List Nat:=fun b=>Bi [nid] p (σ b)
 let S':St:=⟨S.env,Aa (Aa S.H nid none) id (some ⟨ver,es,xs.set k (x.set j (.row true e ys))⟩),S.nv⟩
 have hHid:S'.H id=some ⟨ver,es,xs.set k (x.set j (.row true e ys))⟩:=Q1 _ _ _
 have hHn:S'.H nid=none:=(Q0 _ _ (Ne.symm hne)).trans (Q1 _ _ _)
 have hHo: ∀i,i≠id->i≠nid->S'.H i=S.H i:=fun i h1 h2=>(Q0 _ _ h1).trans (Q0 _ _ h2)
 have hσnil: ∀b,σ b=[]->σ' b=[]:=fun b h=>by show Bi [nid] p (σ b)=[];rw[h];exact Q57 (by simp)
 have hnear: ∀q,(∀r s,q≠[]->q++r≠nid::s)->C0 w σ w σ' q:=by
  intro q hq b' _ hc';refine⟨rfl,?_⟩
  show Bi [nid] p (σ b')=σ b';rcases hc' with h|⟨hq0,r,hr'⟩
  ·rw[h];exact Q57 (by simp)
  ·refine Q56 fun s h=>hq r s hq0 ?_;rw[hr'];exact h
 have hext:L4 (S.cx w σ β) (S'.cx w σ' β):=by
  refine⟨fun i=>Z9 _,fun i B' h hv=> ?_⟩
  have h':S'.H i=some B':=h
  by_cases e2:i=id
  ·subst e2;rw[hHid]at h';cases h';exact⟨_,hB,rfl,rfl,by simp,rfl⟩
  ·by_cases e3:i=nid
   ·subst e3;rw[hHn]at h';cases h'
   ·rw[hHo i e2 e3]at h';exact⟨B',h',rfl,rfl,rfl,rfl⟩
 refine⟨σ',⟨⟨?_,fun i B' h=> ?_,fun b' hb'=>hσnil b' (hs.hr.new b' hb')⟩,hs.mpos,⟨hs.kp.os,hs.kp.tape,hs.kp.output,hs.kp.size,hs.kp.heap,fun b' hb' h0=> ?_⟩,hs.inn,fun t=>(hs.env t).mono hext (hnear [] (fun r s h=>absurd rfl h))⟩⟩
 ·show S'.H 0=none;rw[hHo 0 (Ne.symm hid0) (Ne.symm hnid0)];exact hs.hr.far
 ·have h':S'.H i=some B':=h
  by_cases e2:i=id
  ·subst e2;rw[hHid]at h';cases h';refine⟨hver,?_⟩;cases eb:β i with
   |none=>have:=hbr.void eb;rw[show xs=[] from this]at hk;simp at hk
   |some q=>
    obtain⟨b1,o1,n1⟩:=q;obtain⟨q1,q2,q3,arr,T,q4,q5,q6⟩:=hbr.some eb
    have near2: ∀r:List Nat,C0 w σ w σ' (i::r):=fun r=>hnear _ fun r' s _ h=>by
     simp only[Qe,Ld]at h;exact hne h.1
    refine .mk eb ⟨?_,?_,by simpa using q3,arr,T,q4,q5,fun k' j' x' v hk' hj'=> ?_⟩
    ·show Bi [nid] p (σ b1)=[i];rw[show σ b1=[i] from q1]
     exact Q56 fun r h=>by simp at h;exact hne h.1
    ·intro y hy;rcases Z54 hy with h|rfl
     ·exact q2 y h
     ·simpa using q2 x (Z6 hk)
    ·have hk2:(xs.set k (x.set j (.row true e ys)))[k']? =some x':=hk';rw[V6]at hk2
     by_cases ek:k=k'
     ·subst ek;rw[if_pos rfl,if_pos (Z3.1 hk).1]at hk2;cases hk2;rw[V6]at hj'
      by_cases ej:j=j'
      ·subst ej;rw[if_pos rfl,if_pos (Z3.1 hj).1]at hj';cases hj';obtain⟨c,g3,g4⟩:=q6 k j x _ hk hj;refine⟨c,g3,.c ?_⟩;cases g4 with
       |c h=>cases h
       |own _ _ _ _ _ A n cap hn hv hcap hmax hb=>
        obtain⟨f1,f2⟩:=hb _ hN rfl
        have f2:Lz (S.cx w σ β) nid 0 cap e A:=f2;rcases f2 with h0|⟨b,o,m,hb1,hb2,hb3⟩
        ·have hy:ys=[]:=K9.1 (by omega)
         subst hy;exact .row _ true e [] A n cap 0 0 (fun _ _=>default) hn (by omega) hmax (by intro h;simp at hn;omega) (fun _ h=>by omega) (by simp) (by simp) (by simp)
        ·obtain⟨m1,m2,m3,arr2,T2,m4,m5,m6⟩:=hnbr.some hb1
         have hmul:o+cap*e≤arr2.size:=Tg (Nat.add_le_add_left (Hx e (by omega)) o) m5
         have hA:A=some ⟨b,o,none⟩:=by rw[hb2];simp
         have hcl2: ∀(k' j':Nat) (x':List V) (v:V),ys[k']? =some x'->x'[j']? =some v->v.closed=true:=fun k' j' x' v hk' hj'=>
          Z1.1 (Z1.1 hcl x' (Z6 hk')) v (Z6 hj')
         refine .row _ true e ys A n cap b o (fun k' j'=>(arr2[o+k'*e+j']?).getD default) hn (by omega) hmax (fun _=>hA) (fun _ _=>⟨hA,by simp,?_,arr2,T2,m4,hmul⟩) m2 (fun k' j' x' v hk' hj'=> ?_) (fun k' j' x' v hk' hj'=> ?_)
         ·show Bi [nid] p (σ b)=[i,k,j];rw[show σ b=[nid]++[] from m1,Afb];rfl
         ·obtain⟨c2,g5,g6⟩:=m6 k' j' x' v hk' hj';refine⟨?_,fun h=>by cases h⟩
          show w.cell? ⟨b,o+k'*e+j',none⟩=_
          have m4':w.heap[b]? =some (.cells arr2 T2 (0,0)):=m4;rw[Zo m4',g5];rfl
         ·obtain⟨c2,g5,g6⟩:=m6 k' j' x' v hk' hj';rw[if_pos rfl]
          show RC w σ' ([i,k,j]++[k',j']) v ((arr2[o+k'*e+j']?).getD default);rw[g5]
          have g7:RC w σ [nid,k',j'] v c2:=g6.rc (hcl2 k' j' x' v hk' hj');refine g7.move hσnil (fun b2 r _ hσ2=> ?_) (fun _=>by simp)
          show Bi [nid] p (σ b2)=[i,k,j]++[k',j']++r;rw[show σ b2=[nid]++([k',j']++r) from hσ2,Afb]
          rfl
      ·rw[if_neg ej]at hj';obtain⟨c2,g3,g4⟩:=q6 k j' x v hk hj';exact⟨c2,g3,g4.mono hext (near2 _)⟩
     ·rw[if_neg ek]at hk2;obtain⟨c2,g3,g4⟩:=q6 k' j' x' v hk2 hj';exact⟨c2,g3,g4.mono hext (near2 _)⟩
  ·by_cases e3:i=nid
   ·subst e3;rw[hHn]at h';cases h'
   ·rw[hHo i e2 e3]at h';obtain⟨h1,h2⟩:=hs.hr.blk i B' h';exact⟨h1,h2.mono hext rfl (hnear [i] fun r s _ h=>by
     simp only[Qe,Zl,Ld]at h;exact e3 h.1)⟩
 ·show Bi [nid] p (σ b')=F.σ0 b';rw[hs.kp.free b' hb' h0];rcases h0 with h0|h0
  ·rw[h0];exact Q57 (by simp)
  ·rw[h0];exact Hg (by simp) (by simp;exact hnid0)
end
end Go.Eng
namespace Go.Eng
structure Fj{α:Type}(fd f:α->List V)(es:Nat):Prop where
 len: ∀a,(fd a).length=es
 closed: ∀a,(fd a).all V.closed=true
 share: ∀a,Ad (fd a)=f a
section
variable {α:Type} {fd f:α->List V} {es:Nat}
theorem Fj.allClosed (h:Fj fd f es)(ver e:Nat)(l:List α):Go.Eng.allClosed ⟨ver,e,l.map fd⟩=true:=by
 simp only[Go.Eng.allClosed,List.all_map,Z1];intro a _;exact h.closed a
theorem Fj.shareLL (h:Fj fd f es)(l:List α):Go.Eng.shareLL (l.map fd)=l.map f:=by
 rw[Q13,Cq];refine Er fun a _=> ?_
 show List.map V.share (fd a)=f a;rw[←Aho];exact h.share a
theorem Jt{l:List V}(h:l.all V.closed=true)(lent:Bool)(io:List Nat)(H:Nat->Option Blk):l.map (V.low lent io H)=l:=by
 refine Qz fun v hv=> ?_
 have h2:=Z1.1 h v hv;cases v<;>first|rfl|(simp[V.closed]at h2)
theorem Fj.lowB_at (h:Fj fd f es)(lent:Bool)(io:List Nat)(H:Nat->Option Blk)(ver:Nat)(l:List α):Fz lent io H ⟨ver,es,l.map fd⟩=⟨0,es,l.map fd⟩:=by
 unfold Fz
 congr 1
 rw[Cq];exact Er fun a _=>Jt (h.closed a) _ _ _
end
section
variable {F:Fr} {T:Tab} {S:St} {o:Oper}
theorem Aol{t:Nat}{x y:Operand}(h:o.op= .makeSlice t x y)(id:Nat){ti te:TI}{e:Nat}{kl kc:IntKind}{l c:Int}(hx:S.val [] x= .c (.int kl l))(hy:S.val [] y= .c (.int kc c))(ht:tg T t=some ti)(hk:ti.k= .slice e)(he:tg T e=some te)(hid:Nat.ble 100 id=true)(hpos:Nat.blt 0 te.size=true)(hzl:te.zero.length=te.size)
  (hb:0≤l∧l≤c∧(te.bytes:Int)*c≤281474976710656∧c≤9223372036854775807):
  Ca F T o S {v:= .c (.own id (S.nv id) 0 l.toNat),upd:=[(id,some ⟨S.nv id,te.size,List.replicate l.toNat te.zero⟩)],bump:=[id],use:=Q2 [x,y],ids:=[id]}:=by
 intro henv hd S' h1 h2 a w hs;obtain⟨hdf,hsz,σ,β,hs⟩:=hs;obtain⟨b1,b2,b3,b4⟩:=hb
 have hpos':0<te.size:=Ep hpos
 have hnv:S'.nv id=S.nv id:=(h2 id (by simp)).2
 have g1:=Q4 hs [] x
 have g2:=Q4 hs [] y;rw[vc h1 (by simp) hx]at g1
 rw[vc h1 (by simp) hy]at g2
 have e1:=Hk g1
 have e2:=Hk g2
 have hT:=henv.tab;obtain⟨inf,i1,i2,i3,z,i4,i5,_⟩:=(hT.ty he).inf;obtain⟨c1,c2⟩:=Q46 (E:=S'.cx w σ β) i5
 have hcz:Bo (S'.cx w σ β) te.zero z.cells:=⟨by simpa using c1.symm,fun i v hi=>by simpa using c2 i v hi⟩
 have hzs:z.cells.size=te.size:=by rw[hcz.1,hzl]
 have u1:=(hT.ty ht).slice hk
 have hrun:=run_make (P:=F.P) w t e inf z u1 i1 i4 kl kc l c b1 b2 (by rw[i3];exact b3) b4
 have hlaid:Qo (S'.cx w σ β) te.size (List.replicate l.toNat te.zero) (madeCells z.cells (c.toNat*inf.size)):=by
  refine⟨fun x hx=>by rw[(List.mem_replicate.1 hx).2,hzl],fun k j x v hk hj=> ?_⟩
  have hkl:k<l.toNat:=by have:=(Z3.1 hk).1;simpa using this
  have hxz:x=te.zero:=by
   have:=Z6 hk;exact(List.mem_replicate.1 this).2
  subst hxz
  have hjl:j<te.size:=by rw[←hzl];exact(Z3.1 hj).1
  obtain⟨cc,q1,q2⟩:=hcz.2 j v hj;refine⟨cc,?_,q2⟩
  have hlt:k*te.size+j<c.toNat*inf.size:=by
   rw[i2]
   have h3:(k+1)*te.size≤c.toNat*te.size:=Hx _ (by omega)
   rw[Gl,Nat.one_mul]at h3;omega
  have hmod:(k*te.size+j) % te.size=j:=by rw[Nat.add_comm,Nat.add_mul_mod_self_right,Nat.mod_eq_of_lt hjl]
  simp only[madeCells];rw[Array.getElem?_map,Array.getElem?_range,if_pos hlt];simp only[Hf];rw[hzs,hmod,getElem!_def,q1]
 have hmax:c.toNat≤maxLen:=by simp only[maxLen];omega
 have:=hs.alloc (Tg henv.m (Ep hid)) (es:=te.size) (n:=c.toNat) (xs:=List.replicate l.toNat te.zero) e hlaid (by simp;omega) (by simp[madeCells,i2])
 refine .inl ⟨.slice (some ⟨w.heap.size,0,none⟩) l.toNat c.toNat,World.push w (madeCells z.cells (c.toNat*inf.size)) e,?_,by rw[Tn];exact hdf,by rw[Q7];exact hsz,Aa σ w.heap.size [id],Aa β id (some (w.heap.size,0,c.toNat)),?_⟩
 ·simp only[execOp,h,e1,e2,Sem.run_bind,hrun,Result.andThen_ok,Sem.run_pure];rfl
 ·rw[H2,←hnv]
  have hov:=Xt (S:=S') id te.size c.toNat (List.replicate l.toNat te.zero) (World.push w (madeCells z.cells (c.toNat*inf.size)) e) (Aa σ w.heap.size [id]) β w.heap.size (by simp;omega) hmax
  rw[List.length_replicate]at hov;exact this.putT hsz hd (.c hov)
theorem Als{α:Type}{t:Nat}{x y:Operand}(h:o.op= .makeSlice t x y)(id:Nat){f:α->List V}(z:α){ti te:TI}{e:Nat}{kl kc:IntKind}{l c:Int}(hx:S.val [] x= .c (.int kl l))(hy:S.val [] y= .c (.int kc c))(ht:tg T t=some ti)(hk:ti.k= .slice e)(he:tg T e=some te)(hz:te.zero=f z)(hid:Nat.ble 100 id=true)(hpos:Nat.blt 0 te.size=true)(hzl:te.zero.length=te.size)
  (hb:0≤l∧l≤c∧(te.bytes:Int)*c≤281474976710656∧c≤9223372036854775807):
  Ca F T o S {v:= .c (.own id (S.nv id) 0 (List.replicate l.toNat z).length),upd:=[(id,some ⟨S.nv id,te.size,(List.replicate l.toNat z).map f⟩)],bump:=[id],use:=Q2 [x,y],ids:=[id]}:=by
 have:=Aol (F:=F) h id hx hy ht hk he hid hpos hzl hb;rw[hz]at this;rw[List.length_replicate,List.map_replicate];exact this
theorem Aom{α:Type}[Inhabited α]{t:TypeId}{x y:Operand}(h:o.op= .store t x y)(hd0:o.dst=none)(sh:List Nat){f:α->List V}(l:List α)(a:α){ti:TI}{id ver j:Nat}{i:Int}(hi:0≤i∧i<l.length){es:Nat}{u:A}(hy:S.val sh y=u)(hx:S.val [] x= .c (.ptr id ver i.toNat j))(hB:S.H id=some ⟨ver,es,l.map f⟩)(ht:tg T t=some ti)(hu:Ay u=true)(huc:C4 u.cells=true)(hul:u.cells.length=ti.size)
  (hfl:Nat.ble (j+ti.size) (f (gt l i)).length=true) (hv:Es (f (gt l i)) j u.cells=f a):Ca F T o S {v:= .c .undef,upd:=[(id,some ⟨ver,es,(l.set i.toNat a).map f⟩)],use:=Q2 [x,y],ids:=[id]}:=by
 have:=sSk (F:=F) h hd0 sh hy hx (f (gt l i)) hB (Qw f hi) rfl ht hu huc hul hfl;rw[hv]at this;rw[List.map_set];exact this
theorem Aon{α:Type}[Inhabited α]{t:TypeId}{x:Operand}(h:o.op= .load t x){f:α->List V}(l:List α){ti:TI}{id ver:Nat}{i:Int}(hi:0≤i∧i<l.length){j es:Nat}{y:List V}{u:A}(hx:S.val [] x= .c (.ptr id ver i.toNat j))(hB:S.H id=some ⟨ver,es,(l.map f).set i.toNat y⟩)(ht:tg T t=some ti)
  (hj:Nat.ble (j+ti.size) y.length=true) (hw:Dk ti.k.agg ((y.drop j).take ti.size)=some u) (hn:((y.drop j).take ti.size).all (fun v=> !Th v)=true):Ca F T o S {v:=u,use:=Q2 [x],ids:=[id]}:=
 sLk h hx ht hB rfl (by
  show((l.map f).set i.toNat y)[i.toNat]? =some y;rw[V6,if_pos rfl,if_pos (by rw[Bu];omega)]) hj hw hn
end
section
variable {F:Fr} {T:Tab} {ops:Array Oper} {q:Nat} {S:St} {lo:List Oper} {Q:Exit->St->Prop}
end
end Go.Eng
namespace Go.Eng
def F6 (lent:Bool)(io:List Nat)(H:Nat->Option Blk)(id:Nat):Blk:=match H id with|some B=>Fz lent io H B|none=>default
def Ek (S:St):List Nat->List Blk->Prop
 |id::r,B'::Bs=>(∀B,S.H id=some B->B.es=B'.es∧B.xs.length=B'.xs.length)∧Ek S r Bs
 |[],_=>True
 |_::_,[]=>False
theorem Aip{S:St}{Bs:List Blk}:Ek S [] Bs:=by cases Bs<;>trivial
theorem Ek.at_{S:St}{io:List Nat}{Bs:List Blk}(h:Ek S io Bs): ∀(i id:Nat) B B',io[i]? =some id->S.H id=some B->Bs[i]? =some B'->B.es=B'.es∧B.xs.length=B'.xs.length:=by
 induction io generalizing Bs with
 |nil=>intro i id B B' h1;simp at h1
 |cons x r ih=>
  cases Bs with
  |nil=>cases h
  |cons C Cs=>
   intro i id B B' h1 h2 h3;cases i with
   |zero=>simp at h1 h3;subst h1;subst h3;exact h.1 B h2
   |succ i=>exact ih h.2 i id B B' (by simpa using h1) h2 (by simpa using h3)
def X4 (io news:List Nat):List Bool:=io.map (fun _=>true)++news.map (fun _=>false)
theorem sCg{F:Fr}{T:Tab}{S:St}{o:Oper}{x:Operand}{xs:Array Operand}{ats:Array TypeId}{f:FuncId}{args:List A}{res:A}{H0 H1:List Blk}(hsp:Sp F.P f args H0 res H1)(hf:Ej F.P f)(lent:Bool)(io news L:List Nat){U:List (Nat×Option Blk)}{bm:List Nat}{caps:List V}{v:A}(h:o.op= .call ⟨.value x,xs,ats⟩)(hx:S.val [] x= .c (.fn f caps))(hargs:(Q90 S xs caps).map (A.low lent io (Lb L S.H))=args)(hH0:io.map (F6 lent io (Lb L S.H))=H0)
  (hnd:(io++news).Nodup) (hlive:io.all (fun id=>(Lb L S.H id).isSome)=true) (hL:(io++news).all (fun id=>L.contains id)=true) (hnew:news.all (fun id=>Nat.ble 100 id)=true) (hlen:(io++news).length=H1.length) (hsl:Ek S io H1)
  (hu:Hl lent (io++news) (D0 S (io++news) (X4 io news)) (io++news) H1=U) (hb:E6 (io++news) (X4 io news)=bm) (hv:res.backT lent (io++news) (D0 S (io++news) (X4 io news))=v):
  Ca F T o S {v,upd:=U,bump:=bm,use:=Q2 (x::xs.toList),ids:=L}:=fun he hd=>by
 have:=Xz h hd hx hf lent io news L (X4 io news) hsp hargs hH0 hnd (fun id hi=>Z1.1 hlive id hi) (fun id hi=>by simpa using Z1.1 hL id hi) (fun id hi=>by have:=Ep (Z1.1 hnew id hi);have:=he.m;omega) hlen (by simp[X4]) (fun i hi=>by
  have hlt:i<io.length:=by
   rcases E4 i io.length with h|h
   ·exact h
   ·unfold X4 at hi;rw[E0 (by simpa using h)]at hi
    simp at hi
  refine⟨hlt,fun id B B' h1 h2 h3=> ?_⟩;rw[Fi hlt]at h1;exact hsl.at_ i id B B' h1 h2 h3)
 rw[hu,hb,hv]at this;exact this
theorem Aoo{S:St}{T:Tab}{rl:List ResultVar}{u res:A}{H1:List Blk}(n0:Nat)(outs:List Nat)(hnd:outs.Nodup)(hpre:(List.range n0).all (fun i=>outs[i]? ==some (i+1))=true)(hsome:outs.all (fun id=>(S.H id).isSome)=true)(h:Qr T S rl=some u)(hu:u.lowT false outs S.H=res)(hB:outs.map (F6 false outs S.H)=H1):Ret T rl n0 res H1 .ret S:=
 ⟨.inr rfl,outs,u,hnd,fun i hi=>by simpa using Z1.1 hpre i (List.mem_range.2 hi),fun id hi=>Z1.1 hsome id hi,h,hu,hB⟩
def Aqi{α β:Type}(x:α)(k:α->Option β):Option β:=k x
end Go.Eng
namespace Go.Eng
section
variable {F:Fr} {S:St} {Q:Exit->St->Prop} {c:Code}
end
section
variable {F:Fr} {T:Tab} {ops:Array Oper} {i:Nat} {S:St} {o:Oper} {r:Rec} {l:List Oper} {Q:Exit->St->Prop} {K:List Rec->St->Prop} {α:Type} {x y z:α}
end
theorem SpW{P:Program}{T:Tab}(hT:Ae P T){f:FuncId}{fn:Func}{c:Code}{args:List A}{H0:List Blk}{res:A}{H1:List Blk}{l:List ResultVar}(hf:P.funcs[f]? =some fn)(hb:fn.body=some c)(hl:fn.results=l.toArray)(N m:Nat)(hlen:Nat.ble l.length 4=true)(hn:fn.ntmps=N)(hN:Nat.ble args.length N=true)(hm:H0.length+1=m)(hm2:Nat.ble m 100=true)
  (h: ∀w0 σ0 β0,F2 ⟨P,N,w0,σ0,β0,m⟩ T->W ⟨P,N,w0,σ0,β0,m⟩ c (Wb args H0) (Ret T l H0.length res H1)):Sp P f args H0 res H1:=by
 refine Sp.of_W hT hf hb hl (Ep hlen) (by rw[hn];exact Ep hN) fun F hP hN' hm'=> ?_
 obtain⟨P',N',w0,σ0,β0,m'⟩:=F;obtain rfl:P'=P:=hP;obtain rfl:N'=N:=hN'.trans hn;obtain rfl:m'=m:=hm'.trans hm;exact h w0 σ0 β0 ⟨Ep hm2,hT⟩
end Go.Eng
namespace Go.Eng
section
variable {T:Tab} {F:Fr} {S:St} {a:Act} {w:World} {σ:Nat->List Nat} {β:Nat->Option (Nat×Nat×Nat)}
theorem Aq.reσ (hs:Aq F S a w σ β)(f:List Nat->List Nat)(h0:f []=[])(h00:f [0]=[0])(hi: ∀i B,S.H i=some B-> ∀r,f (i::r)=i::r):Aq F S a w (fun b=>f (σ b)) β:=by
 have hext:L4 (S.cx w σ β) (S.cx w (fun b=>f (σ b)) β):=⟨fun _=>Z9 _,fun id B h _=>⟨B,h,rfl,rfl,rfl,rfl⟩⟩;refine⟨⟨hs.hr.far,fun i B hB=> ?_,fun b hb=> ?_⟩,hs.mpos,⟨hs.kp.os,hs.kp.tape,hs.kp.output,hs.kp.size,hs.kp.heap,fun b hb h=> ?_⟩,hs.inn,fun t=>(hs.env t).mono hext fun b _ hc=>⟨rfl,?_⟩⟩
 ·obtain⟨h1,h2⟩:=hs.hr.blk i B hB;refine⟨h1,h2.mono hext rfl fun b _ hc=>⟨rfl,?_⟩⟩
  show f (σ b)=σ b;rcases hc with hc|⟨_,hc⟩
  ·rw[show σ b=[] from hc,h0]
  ·obtain⟨r,hr⟩:=hc;rw[show σ b=i::r from hr.symm,hi i B hB]
 ·show f (σ b)=[];rw[show σ b=[] from hs.hr.new b hb,h0]
 ·show f (σ b)=F.σ0 b
  have e:=hs.kp.free b hb h;rw[e];rcases h with h|h<;>rw[h]<;>assumption
 ·show f (σ b)=σ b
  have hc:σ b=[]:=hc.resolve_right (by simp)
  rw[hc,h0]
theorem Aq.allocP (hs:Aq F S a w σ β){id:Nat}(hid:F.m≤id){es n:Nat}{xs:List (List V)}{arr:Array Value}(T:TypeId)(hx: ∀x∈xs,x.length=es)(hl: ∀(k j:Nat) x v,xs[k]? =some x->x[j]? =some v-> ∃c,arr[k*es+j]? =some c∧RV (S.cx w σ β) [id,k,j] v c)(hn:xs.length≤n)(hsz:n*es≤arr.size):
  Aq F (S.set id ⟨S.nv id,es,xs⟩) a (World.push w arr T) (Aa σ w.heap.size [id]) (Aa β id (some (w.heap.size,0,n))):=by
 have hold: ∀b,b<w.heap.size->(World.push w arr T).heap[b]? =w.heap[b]? ∧Aa σ w.heap.size [id] b=σ b:=fun b hb=>⟨Ae1 w arr T hb,Q0 _ _ (by omega)⟩
 have hnear: ∀p,C0 w σ (World.push w arr T) (Aa σ w.heap.size [id]) p:=fun p b hb _=>hold b hb
 have hext:=M3 (S:=S) (w:=w) (σ:=σ) (β:=β) id es xs (World.push w arr T) (Aa σ w.heap.size [id]) (β':=Aa β id (some (w.heap.size,0,n))) (fun i hi=>Q0 _ _ hi)
 have hid0:id≠0:=by have:=hs.mpos;omega
 refine⟨⟨(Q0 _ _ (fun h=>hid0 h.symm)).trans hs.hr.far,fun i B hB=> ?_,fun b hb=> ?_⟩,hs.mpos,⟨hs.kp.os,hs.kp.tape,hs.kp.output,?_,fun b hb h0=> ?_,fun b hb h0=> ?_⟩,fun i hi=> ?_,fun t=>(hs.env t).mono hext (hnear [])⟩
 ·have h':Aa S.H id (some ⟨S.nv id,es,xs⟩) i=some B:=hB
  by_cases e:i=id
  ·subst e;rw[Q1]at h';cases h';refine⟨by show S.nv i<Aa S.nv i (S.nv i+1) i;rw[Q1];omega,?_⟩
   refine BR.mk (b:=w.heap.size) (o:=0) (n:=n) (Q1 _ _ _) ⟨Q1 _ _ _,hx,hn,arr,T,Qn w arr T,by simpa using hsz,fun k j x v hk hj=> ?_⟩
   obtain⟨c,h1,h2⟩:=hl k j x v hk hj;exact⟨c,by simpa using h1,h2.mono hext (hnear _)⟩
  ·rw[Q0 _ _ e]at h';obtain⟨h1,h2⟩:=hs.hr.blk i B h';refine⟨by show B.ver<Aa S.nv id (S.nv id+1) i;rw[Q0 _ _ e];exact h1,h2.mono hext (Q0 _ _ e) (hnear [i])⟩
 ·have hb':w.heap.size+1≤b:=by rw[←Q97 w arr T];exact hb
  show Aa σ w.heap.size [id] b=[];rw[Q0 _ _ (by omega)]
  exact hs.hr.new b (by show w.heap.size≤b;omega)
 ·rw[Q97];exact Nat.le_succ_of_le hs.kp.size
 ·rw[Ae1 w arr T (Tk hb hs.kp.size)];exact hs.kp.heap b hb h0
 ·rw[Q0 _ _ (by have:=hs.kp.size;omega)];exact hs.kp.free b hb h0
 ·rw[Q0 _ _ (by omega)];exact hs.inn i hi
theorem Aq.retakeP (hs:Aq F S a w σ β){id:Nat}(hdead:S.H id=none)(hid0:id≠0){b:Nat}(hσ:σ b=[id]){nid:Nat}(hnid:F.m≤nid){arr arr':Array Value}{T:TypeId}(hh:w.heap[b]? =some (.cells arr T (0,0)))(hsz:arr'.size=arr.size)
  {o' n' es:Nat} {xs':List (List V)} (hfit:o'+n'*es≤arr.size) (hlen:xs'.length≤n') (hes: ∀x∈xs',x.length=es) (hl: ∀(k j:Nat) x v,xs'[k]? =some x->x[j]? =some v-> ∃c,arr'[o'+k*es+j]? =some c∧RV (S.cx w σ β) [nid,k,j] v c):
  Aq F ⟨S.env,Aa S.H nid (some ⟨S.nv nid,es,xs'⟩),Aa S.nv nid (S.nv nid+1)⟩ a (w.setRow b arr') (Aa σ b [nid]) (Aa β nid (some (b,o',n'))):=by
 have hn0:nid≠0:=by have:=hs.mpos;omega
 have hother: ∀b',b'≠b->(w.setRow b arr').heap[b']? =w.heap[b']? ∧Aa σ b [nid] b'=σ b':=fun b' h=>⟨setRow_other w b b' arr' h,Q0 _ _ h⟩
 have hnear: ∀p,¬(p≠[]∧p <+: [id])->C0 w σ (w.setRow b arr') (Aa σ b [nid]) p:=by
  intro p hp b' _ hc;refine hother b' (fun e=> ?_);subst e;rw[hσ]at hc;rcases hc with hc|hc
  ·cases hc
  ·exact hp hc
 have hext:L4 (S.cx w σ β) ((⟨S.env,Aa S.H nid (some ⟨S.nv nid,es,xs'⟩),Aa S.nv nid (S.nv nid+1)⟩:St).cx (w.setRow b arr') (Aa σ b [nid]) (Aa β nid (some (b,o',n')))):=by
  refine⟨fun i=> ?_,fun i B' h hv=> ?_⟩
  ·show S.nv i≤Aa S.nv nid (S.nv nid+1) i
   by_cases e:i=nid
   ·subst e;rw[Q1];omega
   ·rw[Q0 _ _ e];exact Z9 _
  ·have h':Aa S.H nid (some ⟨S.nv nid,es,xs'⟩) i=some B':=h
   by_cases e:i=nid
   ·subst e;rw[Q1]at h';cases h';exact absurd hv (Nat.lt_irrefl _)
   ·rw[Q0 _ _ e]at h';exact⟨B',h',rfl,rfl,rfl,Q0 _ _ e⟩
 refine⟨⟨?_,fun i B' h=> ?_,fun b' hb'=> ?_⟩,hs.mpos,⟨hs.kp.os,hs.kp.tape,hs.kp.output,?_,fun b' hb' h0=> ?_,fun b' hb' h0=> ?_⟩,fun i hi=> ?_,fun t=>(hs.env t).mono hext (hnear [] (by simp))⟩
 ·show Aa S.H nid _ 0=none;rw[Q0 _ _ (fun h=>hn0 h.symm)];exact hs.hr.far
 ·have h':Aa S.H nid (some ⟨S.nv nid,es,xs'⟩) i=some B':=h
  by_cases e:i=nid
  ·subst e;rw[Q1]at h';cases h';refine⟨by show S.nv i<Aa S.nv i (S.nv i+1) i;rw[Q1];omega,BR.mk (Q1 _ _ _) ⟨Q1 _ _ _,hes,hlen,arr',T,setRow_heap w b arr arr' T (0,0) hh,by rw[hsz];exact hfit,fun k j x v hk hj=> ?_⟩⟩
   obtain⟨c,h1,h2⟩:=hl k j x v hk hj;exact⟨c,h1,h2.mono hext (hnear _ (fun hp=>by have:=hp.2.length_le;simp at this))⟩
  ·rw[Q0 _ _ e]at h';obtain⟨h1,h2⟩:=hs.hr.blk i B' h';refine⟨by show B'.ver<Aa S.nv nid (S.nv nid+1) i;rw[Q0 _ _ e];exact h1,h2.mono hext (Q0 _ _ e) (hnear [i] (fun hp=> ?_))⟩
   have:=hp.2;simp at this;subst this
   have hd:S.H i=none:=hdead;rw[hd]at h';cases h'
 ·have hb2:w.heap.size≤b':=by have:(w.setRow b arr').heap.size≤b':=hb';rw[setRow_size]at this;exact this
  show Aa σ b [nid] b'=[];rw[Q0 _ _ (by have:=Xj hh;omega)]
  exact hs.hr.new b' hb2
 ·rw[setRow_size];exact hs.kp.size
 ·rw[(hother b' (fun e=> ?_)).1]
  ·exact hs.kp.heap b' hb' h0
  ·subst e
   have:=hs.kp.free b' hb' h0;rw[hσ]at this;rw[←this]at h0;rcases h0 with h0|h0
   ·cases h0
   ·exact hid0 (by simpa using h0)
 ·rw[(hother b' (fun e=> ?_)).2]
  ·exact hs.kp.free b' hb' h0
  ·subst e
   have:=hs.kp.free b' hb' h0;rw[hσ]at this;rw[←this]at h0;rcases h0 with h0|h0
   ·cases h0
   ·exact hid0 (by simpa using h0)
 ·rw[Q0 _ _ (by omega)];exact hs.inn i hi
theorem Ra{w:World}{es b o:Nat}(hpos:0<es)(xs:List (List V))(Q:Nat->Nat->V->Value->Prop)(hx: ∀x∈xs,x.length=es)(h: ∀(k j:Nat) x v,xs[k]? =some x->x[j]? =some v-> ∃u,w.cell? ⟨b,o+k*es+j,none⟩=some u∧Q k j v u):
  ∃us:List Value,us.length=xs.length*es∧(∀(j:Nat) u,us[j]? =some u->w.cell? ⟨b,o+j,none⟩=some u)∧ ∀(k j:Nat) x v,xs[k]? =some x->x[j]? =some v-> ∃u,us[k*es+j]? =some u∧Q k j v u:=by
 refine⟨(List.range (xs.length*es)).map fun i=>(w.cell? ⟨b,o+i,none⟩).getD undef,by simp,fun i u hi=> ?_,fun k j x v hk hj=> ?_⟩
 ·rw[B5]at hi
  have hlt:i<xs.length*es:=by
   rcases E4 i (xs.length*es)with h|h
   ·exact h
   ·rw[Z58 (by simpa using h)]at hi;cases hi
  rw[List.getElem?_range hlt]at hi
  have hk:i / es<xs.length:=Nat.div_lt_of_lt_mul (by rw[Nat.mul_comm];exact hlt)
  have hj:i % es<(xs[i / es]).length:=by rw[hx _ (List.getElem_mem hk)];exact Nat.mod_lt _ hpos
  obtain⟨u0,h1,_⟩:=h (i / es) (i % es) _ _ (Eh hk) (Eh hj)
  have e:o+i / es*es+i % es=o+i:=by have:=Nat.div_add_mod i es;rw[Nat.mul_comm]at this;omega
  rw[e]at h1;simp only[Hf,h1,Option.getD_some,Z7]at hi;rw[h1,hi]
 ·obtain⟨u,h1,h2⟩:=h k j x v hk hj;refine⟨u,?_,h2⟩;obtain⟨hkl,hjl⟩:=X1 hx hk hj
  have hlt:k*es+j<xs.length*es:=by
   have:(k+1)*es≤xs.length*es:=Hx _ hkl;rw[Gl,Nat.one_mul]at this;omega
  rw[B5,List.getElem?_range hlt];simp only[Hf];rw[←Zn,h1];rfl
theorem Afc (hs:Aq F S a w σ β){id ver es:Nat}{xs:List (List V)}{c:Value}(h:RV (S.cx w σ β) [] (.own id ver 0 xs.length) c)(hB:S.H id=some ⟨ver,es,xs⟩)(hcl:allClosed ⟨ver,es,xs⟩=true):
  ∃A cap,c= .slice A xs.length cap∧xs.length≤cap∧cap≤maxLen∧(∀x∈xs,x.length=es)∧
   (0<cap-> ∃b o n arr T,β id=some (b,o,n)∧A=some ⟨b,o,none⟩∧cap≤n∧σ b=[id]∧w.heap[b]? =some (.cells arr T (0,0))∧o+n*es≤arr.size∧ ∀(k j:Nat) x v,xs[k]? =some x->x[j]? =some v-> ∃u,arr[o+k*es+j]? =some u∧RC w σ [id,k,j] v u):=by
 cases h with
 |c h=>cases h
 |own _ _ _ _ _ A n cap hn hv hcap hmax h=>
  subst hn;obtain⟨_,h2⟩:=h _ hB rfl
  have hbr:=(hs.hr.blk id _ hB).2
  have hes: ∀x∈xs,x.length=es:=by
   intro x hx;cases e:β id with
   |none=>have:xs=[]:=hbr.void e;rw[this]at hx;cases hx
   |some q=>obtain⟨b,o,n⟩:=q;exact(hbr.some e).2.1 x hx
  refine⟨A,cap,rfl,hcap,hmax,hes,fun h0=> ?_⟩;obtain⟨b,o,n,h3,rfl,h5⟩:=h2.at_ h0;obtain⟨q1,q2,q3,arr,T,q4,q5,q6⟩:=hbr.some h3;refine⟨b,o,n,arr,T,h3,by simp,by omega,q1,q4,q5,fun k j x v hk hj=> ?_⟩
  obtain⟨u,g1,g2⟩:=q6 k j x v hk hj;exact⟨u,g1,g2.rc (Z1.1 (Z1.1 hcl x (Z6 hk)) v (Z6 hj))⟩
theorem Ud (hs:Aq F S a w σ β){id ver es:Nat}{xs:List (List V)}{c:Value}(h:RV (S.cx w σ β) [] (.own id ver 0 xs.length) c)(hB:S.H id=some ⟨ver,es,xs⟩)(hcl:noT xs=true):
  ∃A cap,c= .slice A xs.length cap∧xs.length≤cap∧cap≤maxLen∧(∀x∈xs,x.length=es)∧
   (0<cap-> ∃b o n arr T,β id=some (b,o,n)∧A=some ⟨b,o,none⟩∧cap≤n∧σ b=[id]∧w.heap[b]? =some (.cells arr T (0,0))∧o+n*es≤arr.size∧ ∀(k j:Nat) x v,xs[k]? =some x->x[j]? =some v-> ∃u,arr[o+k*es+j]? =some u∧RV (S.cx w σ β) [] v u):=by
 cases h with
 |c h=>cases h
 |own _ _ _ _ _ A n cap hn hv hcap hmax h=>
  subst hn;obtain⟨_,h2⟩:=h _ hB rfl
  have hbr:=(hs.hr.blk id _ hB).2
  have hes: ∀x∈xs,x.length=es:=by
   intro x hx;cases e:β id with
   |none=>have:xs=[]:=hbr.void e;rw[this]at hx;cases hx
   |some q=>obtain⟨b,o,n⟩:=q;exact(hbr.some e).2.1 x hx
  refine⟨A,cap,rfl,hcap,hmax,hes,fun h0=> ?_⟩;obtain⟨b,o,n,h3,rfl,h5⟩:=h2.at_ h0;obtain⟨q1,q2,q3,arr,T,q4,q5,q6⟩:=hbr.some h3;refine⟨b,o,n,arr,T,h3,by simp,by omega,q1,q4,q5,fun k j x v hk hj=> ?_⟩
  obtain⟨u,g1,g2⟩:=q6 k j x v hk hj;exact⟨u,g1,Gr g2 (M9 hcl hk hj)⟩
def Bb (idx idy nid n:Nat):List Nat->List Nat
 |i::k::r=>if i=idx then nid::k::r else if i=idy then nid::(n+k)::r else i::k::r
 |s=>s
theorem Aat (hT:Ae F.P T)(hs:Aq F S a w σ β){t ty e:Nat}{ti te:TI}(ht:tg T t=some ti)(hk:ti.k= .slice e)(he:tg T e=some te)(hpos:0<te.size)(hzl:te.zero.length=te.size)
  {u:V} {cu cv:Value} {idx vx idy vy:Nat} {xs ys:List (List V)} (hu:RV (S.cx w σ β) [] u cu) (hv:RV (S.cx w σ β) [] (.own idy vy 0 ys.length) cv)
  (hY:S.H idy=some ⟨vy,te.size,ys⟩) (hcy:allClosed ⟨vy,te.size,ys⟩=true)
  (hbase:(u= .own idx vx 0 xs.length∧S.H idx=some ⟨vx,te.size,xs⟩∧allClosed ⟨vx,te.size,xs⟩=true∧idx≠idy)∨(u= .row true te.size []∧xs=[]∧S.H idx=none))
  (hb:(xs.length+ys.length)*te.bytes≤140737488355328) (hm:xs.length+ys.length≤maxLen) (nid:Nat) (hnid:F.m≤nid):
  ∃c w' σ' β',(Builtin.append_ #[t,t] ty #[cu,cv]).run F.P w= .ok c w'∧
   Aq F ⟨S.env,Aa (Aa (Aa S.H idy none) idx none) nid (some ⟨S.nv nid,te.size,xs++ys⟩),Aa S.nv nid (S.nv nid+1)⟩ a w' σ' β'∧
   RV ((⟨S.env,Aa (Aa (Aa S.H idy none) idx none) nid (some ⟨S.nv nid,te.size,xs++ys⟩),Aa S.nv nid (S.nv nid+1)⟩:St).cx w' σ' β') [] (.own nid (S.nv nid) 0 (xs.length+ys.length)) c:=by
 have hidy0:idy≠0:=by rintro rfl;have h0:S.H 0=none:=hs.hr.far;rw[h0]at hY;cases hY
 obtain⟨A,cap,rfl,hc1,hc2,hxes,hxc,hidx0⟩: ∃A cap,cu= .slice A xs.length cap∧xs.length≤cap∧cap≤maxLen∧(∀x∈xs,x.length=te.size)∧
   (0<cap-> ∃b o n arr T',β idx=some (b,o,n)∧A=some ⟨b,o,none⟩∧cap≤n∧σ b=[idx]∧w.heap[b]? =some (.cells arr T' (0,0))∧o+n*te.size≤arr.size∧ ∀(k j:Nat) x v,xs[k]? =some x->x[j]? =some v-> ∃u,arr[o+k*te.size+j]? =some u∧RC w σ [idx,k,j] v u)∧(0<cap->idx≠0∧idx≠idy):=by
  rcases hbase with ⟨rfl,hX,hcx,hne⟩|⟨rfl,rfl,hX⟩
  ·obtain⟨A,cap,q1,q2,q3,q4,q5⟩:=Afc hs hu hX hcx;exact⟨A,cap,q1,q2,q3,q4,q5,fun _=>⟨(by rintro rfl;have h0:S.H 0=none:=hs.hr.far;rw[h0]at hX;cases hX),hne⟩⟩
  ·cases hu with
   |c hu=>
    cases hu with
    |row p o es xs0 A0 n0 cap0 b off cs hn hcap hmax hA hT0 hx0 hcc hrr=>
     have h0: ¬0<cap0:=fun h=>by
      obtain⟨_,hp,_⟩:=hT0 rfl h;exact hp rfl
     refine⟨A0,cap0,by rw[hn],by simp,hmax,by simp,fun h=>absurd h h0,fun h=>absurd h h0⟩
 obtain⟨A2,cap2,rfl,hd1,hd2,hyes,hyc⟩:=Afc hs hv hY hcy;obtain⟨news,hnl,hnc,hnv⟩: ∃news:List Value,news.length=ys.length*te.size∧(0<ys.length-> ∃x,A2=some x∧ ∀(j:Nat) u,news[j]? =some u->w.cell? (x.add j)=some u)∧ ∀(k j:Nat) x v,ys[k]? =some x->x[j]? =some v-> ∃u,news[k*te.size+j]? =some u∧RC w σ [idy,k,j] v u:=by
  rcases Ly ys.length with h0|h0
  ·have:ys=[]:=K9.1 h0;subst this;exact⟨[],by simp,fun h=>absurd h (by simp),by simp⟩
  ·obtain⟨b,o2,n,arr,T',g0,rfl,_,_,g1,_,g2⟩:=hyc (by omega)
   obtain⟨us,p1,p2,p3⟩:=Ra (w:=w) (b:=b) (o:=o2) hpos ys (fun k j v u=>RC w σ [idy,k,j] v u) hyes (fun k j x v hk hj=>by
    obtain⟨u,q1,q2⟩:=g2 k j x v hk hj;exact⟨u,(Zo g1).trans q1,q2⟩)
   exact⟨us,p1,fun _=>⟨_,rfl,fun j u hj=>by rw[Jl];exact p2 j u hj⟩,p3⟩
 obtain⟨olds,hol,hoc,hov⟩: ∃olds:List Value,olds.length=xs.length*te.size∧(0<xs.length-> ∃x,A=some x∧ ∀(j:Nat) u,olds[j]? =some u->w.cell? (x.add j)=some u)∧ ∀(k j:Nat) x v,xs[k]? =some x->x[j]? =some v-> ∃u,olds[k*te.size+j]? =some u∧RC w σ [idx,k,j] v u:=by
  rcases Ly xs.length with h0|h0
  ·have:xs=[]:=K9.1 h0;subst this;exact⟨[],by simp,fun h=>absurd h (by simp),by simp⟩
  ·obtain⟨b,o2,n,arr,T',g0,rfl,_,_,g1,_,g2⟩:=hxc (by omega)
   obtain⟨us,p1,p2,p3⟩:=Ra (w:=w) (b:=b) (o:=o2) hpos xs (fun k j v u=>RC w σ [idx,k,j] v u) hxes (fun k j x v hk hj=>by
    obtain⟨u,q1,q2⟩:=g2 k j x v hk hj;exact⟨u,(Zo g1).trans q1,q2⟩)
   exact⟨us,p1,fun _=>⟨_,rfl,fun j u hj=>by rw[Jl];exact p2 j u hj⟩,p3⟩
 have hall: ∀x∈xs++ys,x.length=te.size:=fun x hx=>(Gh.1 hx).elim (hxes x) (hyes x)
 have hd0:Aq F ⟨S.env,Aa (Aa S.H idy none) idx none,S.nv⟩ a w σ β:=(hs.dropH idy).dropH idx
 have hd3:=hd0.reσ (Bb idx idy nid xs.length) rfl rfl (fun i B hB r=>by
  have hB:Aa (Aa S.H idy none) idx none i=some B:=hB
  have h1:i≠idx:=by rintro rfl;rw[Q1]at hB;cases hB
  rw[Q0 _ _ h1]at hB
  have h2:i≠idy:=by rintro rfl;rw[Q1]at hB;cases hB
  cases r with
  |nil=>rfl
  |cons k r=>simp only[Bb,if_neg h1,if_neg h2])
 have hmx: ∀(k j:Nat) (v:V) (u:Value),0<cap->RC w σ [idx,k,j] v u->RC w (fun b=>Bb idx idy nid xs.length (σ b)) [nid,k,j] v u:=fun k j v u _ h=>h.move (fun b hb=>by simp only[hb];rfl) (fun b r _ hb=>by simp only[hb,Qe,Zl,Bb,if_true]) (fun _=>by simp)
 have hmy: ∀(k j:Nat) (v:V) (u:Value),(idx≠idy∨xs=[])->RC w σ [idy,k,j] v u->RC w (fun b=>Bb idx idy nid xs.length (σ b)) [nid,xs.length+k,j] v u:=fun k j v u hne h=>h.move (fun b hb=>by simp only[hb];rfl) (fun b r _ hb=>by
  simp only[hb,Qe,Zl,Bb]
  by_cases e:idy=idx
  ·rw[if_pos e];rcases hne with hne|hne
   ·exact absurd e.symm hne
   ·subst hne;simp
  ·simp only[if_neg e,if_true]) (fun _=>by simp)
 have hnexy:idx≠idy∨xs=[]:=by
  rcases hbase with ⟨_,_,_,h⟩|⟨_,h,_⟩
  ·exact .inl h
  ·exact .inr h
 have hcapx: ∀ {k:Nat} {x:List V},xs[k]? =some x->0<cap:=fun h=>by have:=(Z3.1 h).1;omega
 rcases E4 cap (xs.length+ys.length)with hg|hroom
 ·
  obtain⟨arr,hrun,hasz,hac,hge,hcm⟩:=F4 (ty:=ty) hT ht hk he hzl w A xs.length cap A2 ys.length cap2 olds news hol hoc hnl hnc hg hm hb
  have hs2:=Aq.drawn' hd3
  have hcell: ∀(k j:Nat) x v,(xs++ys)[k]? =some x->x[j]? =some v-> ∃c,arr[k*te.size+j]? =some c∧RV ((⟨S.env,Aa (Aa S.H idy none) idx none,S.nv⟩:St).cx w.drew (fun b=>Bb idx idy nid xs.length (σ b)) β) [nid,k,j] v c:=by
   intro k j x v hk hj;rcases E4 k xs.length with hk2|hk2
   ·rw[Fi hk2]at hk;obtain⟨uu,q1,q2⟩:=hov k j x v hk hj;refine⟨uu,hac _ _ ?_,.c ((hmx k j v uu (hcapx hk) q2).mono fun b _ _=>⟨rfl,rfl⟩)⟩;rw[Fi (Z3.1 q1).1];exact q1
   ·rw[E0 hk2]at hk;obtain⟨uu,q1,q2⟩:=hnv (k - xs.length) j x v hk hj
    have e0:xs.length+(k - xs.length)=k:=by omega
    have:=hmy (k - xs.length) j v uu hnexy q2;rw[e0]at this;refine⟨uu,hac _ _ ?_,.c (this.mono fun b _ _=>⟨rfl,rfl⟩)⟩
    have e:k*te.size+j=olds.length+((k - xs.length)*te.size+j):=by
     rw[hol,Nat.sub_mul]
     have:xs.length*te.size≤k*te.size:=Hx _ hk2;omega
    rw[e,E0 (by omega),Nat.add_sub_cancel_left];exact q1
  have hal:=hs2.allocP hnid (es:=te.size) (n:=grownCap w (xs.length+ys.length) cap e) (xs:=xs++ys) (arr:=arr) e hall hcell (by simpa using hge) (by rw[hasz];exact Z9 _)
  refine⟨_,World.push w.drew arr e,_,_,hrun,hal,?_⟩
  have:=Xt (S:=⟨S.env,Aa (Aa S.H idy none) idx none,S.nv⟩) nid te.size (grownCap w (xs.length+ys.length) cap e) (xs++ys) (World.push w.drew arr e) (Aa (fun b=>Bb idx idy nid xs.length (σ b)) w.drew.heap.size [nid]) β w.drew.heap.size (by simpa using hge) hcm
  rw[Jh]at this;exact this
 ·
  have hrun:=H5 (ty:=ty) hT ht hk he w A xs.length cap A2 ys.length cap2 news hnl hnc hroom
  have hnews1: ∀x∈news,x.oneCell'=true:=by
   intro x hx;obtain⟨j,hj⟩:=Qg.1 hx
   have hjl:j<ys.length*te.size:=by rw[←hnl];exact(Z3.1 hj).1
   have hq:j / te.size<ys.length:=Nat.div_lt_of_lt_mul (by rw[Nat.mul_comm];exact hjl)
   have hyk:ys[j / te.size]? =some ys[j / te.size]:=Eh hq
   have hyl:ys[j / te.size].length=te.size:=hyes _ (Z6 hyk)
   have hmod:j % te.size<ys[j / te.size].length:=by rw[hyl];exact Nat.mod_lt _ hpos
   obtain⟨uu,q1,q2⟩:=hnv (j / te.size) (j % te.size) _ _ hyk (Eh hmod)
   have e:j / te.size*te.size+j % te.size=j:=by rw[Nat.mul_comm];exact Nat.div_add_mod j te.size
   rw[e,hj]at q1;cases q1;generalize ys[j / te.size][j % te.size]=v0 at q2;cases q2<;>rfl
  rcases Ly cap with h0|h0
  ·
   have hx0:xs=[]:=K9.1 (by omega)
   have hy0:ys=[]:=K9.1 (by omega)
   subst hx0;subst hy0
   have hn0:news=[]:=by simpa using hnl
   subst hn0
   have hfin:Aq F ⟨S.env,Aa (Aa (Aa S.H idy none) idx none) nid (some ⟨S.nv nid,te.size,[]⟩),Aa S.nv nid (S.nv nid+1)⟩ a w σ (Aa β nid none):=hd0.void hnid te.size;refine⟨.slice A 0 cap,w,σ,Aa β nid none,?_,hfin,?_⟩
   ·rw[hrun];cases A with
    |none=>simp
    |some b=>simp[storeCells]
   ·refine .own _ _ _ _ _ _ _ _ rfl (by show S.nv nid<Aa S.nv nid (S.nv nid+1) nid;rw[Q1];omega) (Z21 _) hc2 fun B hB _=> ?_
    have h':Aa (Aa (Aa S.H idy none) idx none) nid (some ⟨S.nv nid,te.size,[]⟩) nid=some B:=hB;rw[Q1]at h';cases h';exact⟨by simp,.inl h0⟩
  ·
   obtain⟨b,o',n',arr,T',h3,rfl,h5,q1,q4,q5,q6⟩:=hxc h0;obtain⟨hi0,hne⟩:=hidx0 h0
   have hroom2:xs.length*te.size+ys.length*te.size≤n'*te.size:=by
    rw[←Gl];exact Hx _ (by omega)
   have hfit:(o'+xs.length*te.size)+0+news.length≤arr.size:=by rw[hnl];omega
   have hst:=run_storeCells_at F.P b (o'+xs.length*te.size) T' news 0 arr w q4 hfit hnews1;simp only[Nat.add_zero]at hst
   have hov2: ∀i,(E2 arr (o'+xs.length*te.size) news)[i]? =if o'+xs.length*te.size≤i∧i<o'+xs.length*te.size+news.length then news[i - (o'+xs.length*te.size)]? else arr[i]? :=Tz (by omega)
   have hfin:=hd3.retakeP (id:=idx) (Q1 _ _ _) hi0 (b:=b) (by show Bb idx idy nid xs.length (σ b)=[idx];rw[q1];rfl) hnid (arr':=E2 arr (o'+xs.length*te.size) news) q4 (Q75 (by omega)) (o':=o') (n':=n') (es:=te.size) (xs':=xs++ys) q5 (by rw[Jh];omega) hall (fun k j x v hk hj=>by
    obtain⟨hkl,hjl⟩:=X1 hall hk hj;rcases E4 k xs.length with hk2|hk2
    ·rw[Fi hk2]at hk;obtain⟨c,g1,g2⟩:=q6 k j x v hk hj
     have hlt:k*te.size+j<xs.length*te.size:=by
      have:(k+1)*te.size≤xs.length*te.size:=Hx _ hk2;rw[Gl,Nat.one_mul]at this;omega
     refine⟨c,?_,.c (hmx k j v c h0 g2)⟩;rw[hov2,if_neg (by omega),←g1]
    ·rw[E0 hk2]at hk;obtain⟨c,g1,g2⟩:=hnv (k - xs.length) j x v hk hj
     have e0:xs.length+(k - xs.length)=k:=by omega
     have:=hmy (k - xs.length) j v c hnexy g2;rw[e0]at this
     have e:o'+k*te.size+j=o'+xs.length*te.size+((k - xs.length)*te.size+j):=by
      rw[Nat.sub_mul]
      have:xs.length*te.size≤k*te.size:=Hx _ hk2;omega
     have hgl:=(Z3.1 g1).1;refine⟨c,?_,.c this⟩;rw[e,hov2,if_pos ⟨by omega,by omega⟩,Nat.add_sub_cancel_left]
     exact g1)
   refine⟨.slice (some ⟨b,o',none⟩) (xs.length+ys.length) cap,_,_,_,?_,hfin,?_⟩
   ·rw[hrun];simp only;rw[Jl];simp only[Sem.run_bind,hst,Result.andThen_ok,Sem.run_pure];rfl
   ·refine .own _ _ _ _ _ _ _ _ rfl (by show S.nv nid<Aa S.nv nid (S.nv nid+1) nid;rw[Q1];omega) hroom hc2 fun B2 hB2 _=> ?_
    have h':Aa (Aa (Aa S.H idy none) idx none) nid (some ⟨S.nv nid,te.size,xs++ys⟩) nid=some B2:=hB2;rw[Q1]at h';cases h';exact⟨by simp,.inr ⟨b,o',n',Q1 _ _ _,by simp,by omega⟩⟩
theorem X5 (hT:Ae F.P T)(hs:Aq F S a w σ β){t ty e:Nat}{ti te:TI}(ht:tg T t=some ti)(hk:ti.k= .slice e)(he:tg T e=some te)(hpos:0<te.size)(hzl:te.zero.length=te.size)
  {cu cv:Value} {idx vx idy vy:Nat} {xs ys:List (List V)} (hu:RV (S.cx w σ β) [] (.own idx vx 0 xs.length) cu) (hv:RV (S.cx w σ β) [] (.own idy vy 0 ys.length) cv)
  (hY:S.H idy=some ⟨vy,te.size,ys⟩) (hcy:allClosed ⟨vy,te.size,ys⟩=true)
  (hX:S.H idx=some ⟨vx,te.size,xs⟩) (hxt:noT xs=true) (hne:idx≠idy)
  (hb:(xs.length+ys.length)*te.bytes≤140737488355328) (hm:xs.length+ys.length≤maxLen) (nid:Nat) (hnid:F.m≤nid):
  ∃c w' σ' β',(Builtin.append_ #[t,t] ty #[cu,cv]).run F.P w= .ok c w'∧
   Aq F ⟨S.env,Aa (Aa (Aa S.H idy none) idx none) nid (some ⟨S.nv nid,te.size,xs++ys⟩),Aa S.nv nid (S.nv nid+1)⟩ a w' σ' β'∧
   RV ((⟨S.env,Aa (Aa (Aa S.H idy none) idx none) nid (some ⟨S.nv nid,te.size,xs++ys⟩),Aa S.nv nid (S.nv nid+1)⟩:St).cx w' σ' β') [] (.own nid (S.nv nid) 0 (xs.length+ys.length)) c:=by
 have hidy0:idy≠0:=by rintro rfl;have h0:S.H 0=none:=hs.hr.far;rw[h0]at hY;cases hY
 have hidx1:idx≠0:=by rintro rfl;have h0:S.H 0=none:=hs.hr.far;rw[h0]at hX;cases hX
 obtain⟨A,cap,rfl,hc1,hc2,hxes,hxc⟩:=Ud hs hu hX hxt;obtain⟨A2,cap2,rfl,hd1,hd2,hyes,hyc⟩:=Afc hs hv hY hcy
 obtain⟨news,hnl,hnc,hnv⟩: ∃news:List Value,news.length=ys.length*te.size∧(0<ys.length-> ∃x,A2=some x∧ ∀(j:Nat) u,news[j]? =some u->w.cell? (x.add j)=some u)∧ ∀(k j:Nat) x v,ys[k]? =some x->x[j]? =some v-> ∃u,news[k*te.size+j]? =some u∧RC w σ [idy,k,j] v u:=by
  rcases Ly ys.length with h0|h0
  ·have:ys=[]:=K9.1 h0;subst this;exact⟨[],by simp,fun h=>absurd h (by simp),by simp⟩
  ·obtain⟨b,o2,n,arr,T',g0,rfl,_,_,g1,_,g2⟩:=hyc (by omega)
   obtain⟨us,p1,p2,p3⟩:=Ra (w:=w) (b:=b) (o:=o2) hpos ys (fun k j v u=>RC w σ [idy,k,j] v u) hyes (fun k j x v hk hj=>by
    obtain⟨u,q1,q2⟩:=g2 k j x v hk hj;exact⟨u,(Zo g1).trans q1,q2⟩)
   exact⟨us,p1,fun _=>⟨_,rfl,fun j u hj=>by rw[Jl];exact p2 j u hj⟩,p3⟩
 obtain⟨olds,hol,hoc,hov⟩: ∃olds:List Value,olds.length=xs.length*te.size∧(0<xs.length-> ∃x,A=some x∧ ∀(j:Nat) u,olds[j]? =some u->w.cell? (x.add j)=some u)∧ ∀(k j:Nat) x v,xs[k]? =some x->x[j]? =some v-> ∃u,olds[k*te.size+j]? =some u∧RV (S.cx w σ β) [] v u:=by
  rcases Ly xs.length with h0|h0
  ·have:xs=[]:=K9.1 h0;subst this;exact⟨[],by simp,fun h=>absurd h (by simp),by simp⟩
  ·obtain⟨b,o2,n,arr,T',g0,rfl,_,_,g1,_,g2⟩:=hxc (by omega)
   obtain⟨us,p1,p2,p3⟩:=Ra (w:=w) (b:=b) (o:=o2) hpos xs (fun _ _ v u=>RV (S.cx w σ β) [] v u) hxes (fun k j x v hk hj=>by
    obtain⟨u,q1,q2⟩:=g2 k j x v hk hj;exact⟨u,(Zo g1).trans q1,q2⟩)
   exact⟨us,p1,fun _=>⟨_,rfl,fun j u hj=>by rw[Jl];exact p2 j u hj⟩,p3⟩
 have hall: ∀x∈xs++ys,x.length=te.size:=fun x hx=>(Gh.1 hx).elim (hxes x) (hyes x)
 have hd0:Aq F ⟨S.env,Aa (Aa S.H idy none) idx none,S.nv⟩ a w σ β:=(hs.dropH idy).dropH idx
 have hd3:=hd0.reσ (Bb idx idy nid xs.length) rfl rfl (fun i B hB r=>by
  have hB:Aa (Aa S.H idy none) idx none i=some B:=hB
  have h1:i≠idx:=by rintro rfl;rw[Q1]at hB;cases hB
  rw[Q0 _ _ h1]at hB
  have h2:i≠idy:=by rintro rfl;rw[Q1]at hB;cases hB
  cases r with
  |nil=>rfl
  |cons k r=>simp only[Bb,if_neg h1,if_neg h2])
 have hmx: ∀(w':World) (v:V) (u:Value),w'.heap=w.heap->RV (S.cx w σ β) [] v u-> ∀q,RV ((⟨S.env,Aa (Aa S.H idy none) idx none,S.nv⟩:St).cx w' (fun b=>Bb idx idy nid xs.length (σ b)) β) q v u:=fun w' v u hw h q=>by
  refine(h.mono (E':=((⟨S.env,Aa (Aa S.H idy none) idx none,S.nv⟩:St).cx w' (fun b=>Bb idx idy nid xs.length (σ b)) β)) ⟨fun _=>Z9 _,fun i B' hB _=> ?_⟩ fun b _ hc=>⟨by show w'.heap[b]? =w.heap[b]?;rw[hw],?_⟩).any q
  ·have hB:Aa (Aa S.H idy none) idx none i=some B':=hB
   have h1:i≠idx:=by rintro rfl;rw[Q1]at hB;cases hB
   rw[Q0 _ _ h1]at hB
   have h2:i≠idy:=by rintro rfl;rw[Q1]at hB;cases hB
   rw[Q0 _ _ h2]at hB;exact⟨B',hB,rfl,rfl,rfl,rfl⟩
  ·show Bb idx idy nid xs.length (σ b)=σ b
   have hc:σ b=[]:=hc.resolve_right (by simp)
   rw[hc];rfl
 have hmy: ∀(k j:Nat) (v:V) (u:Value),(idx≠idy∨xs=[])->RC w σ [idy,k,j] v u->RC w (fun b=>Bb idx idy nid xs.length (σ b)) [nid,xs.length+k,j] v u:=fun k j v u hne h=>h.move (fun b hb=>by simp only[hb];rfl) (fun b r _ hb=>by
  simp only[hb,Qe,Zl,Bb]
  by_cases e:idy=idx
  ·rw[if_pos e];rcases hne with hne|hne
   ·exact absurd e.symm hne
   ·subst hne;simp
  ·simp only[if_neg e,if_true]) (fun _=>by simp)
 have hnexy:idx≠idy∨xs=[]:= .inl hne
 have hcapx: ∀ {k:Nat} {x:List V},xs[k]? =some x->0<cap:=fun h=>by have:=(Z3.1 h).1;omega
 rcases E4 cap (xs.length+ys.length)with hg|hroom
 ·
  obtain⟨arr,hrun,hasz,hac,hge,hcm⟩:=F4 (ty:=ty) hT ht hk he hzl w A xs.length cap A2 ys.length cap2 olds news hol hoc hnl hnc hg hm hb
  have hs2:=Aq.drawn' hd3
  have hcell: ∀(k j:Nat) x v,(xs++ys)[k]? =some x->x[j]? =some v-> ∃c,arr[k*te.size+j]? =some c∧RV ((⟨S.env,Aa (Aa S.H idy none) idx none,S.nv⟩:St).cx w.drew (fun b=>Bb idx idy nid xs.length (σ b)) β) [nid,k,j] v c:=by
   intro k j x v hk hj;rcases E4 k xs.length with hk2|hk2
   ·rw[Fi hk2]at hk;obtain⟨uu,q1,q2⟩:=hov k j x v hk hj;refine⟨uu,hac _ _ ?_,hmx w.drew v uu rfl q2 _⟩;rw[Fi (Z3.1 q1).1];exact q1
   ·rw[E0 hk2]at hk;obtain⟨uu,q1,q2⟩:=hnv (k - xs.length) j x v hk hj
    have e0:xs.length+(k - xs.length)=k:=by omega
    have:=hmy (k - xs.length) j v uu hnexy q2;rw[e0]at this;refine⟨uu,hac _ _ ?_,.c (this.mono fun b _ _=>⟨rfl,rfl⟩)⟩
    have e:k*te.size+j=olds.length+((k - xs.length)*te.size+j):=by
     rw[hol,Nat.sub_mul]
     have:xs.length*te.size≤k*te.size:=Hx _ hk2;omega
    rw[e,E0 (by omega),Nat.add_sub_cancel_left];exact q1
  have hal:=hs2.allocP hnid (es:=te.size) (n:=grownCap w (xs.length+ys.length) cap e) (xs:=xs++ys) (arr:=arr) e hall hcell (by simpa using hge) (by rw[hasz];exact Z9 _)
  refine⟨_,World.push w.drew arr e,_,_,hrun,hal,?_⟩
  have:=Xt (S:=⟨S.env,Aa (Aa S.H idy none) idx none,S.nv⟩) nid te.size (grownCap w (xs.length+ys.length) cap e) (xs++ys) (World.push w.drew arr e) (Aa (fun b=>Bb idx idy nid xs.length (σ b)) w.drew.heap.size [nid]) β w.drew.heap.size (by simpa using hge) hcm
  rw[Jh]at this;exact this
 ·
  have hrun:=H5 (ty:=ty) hT ht hk he w A xs.length cap A2 ys.length cap2 news hnl hnc hroom
  have hnews1: ∀x∈news,x.oneCell'=true:=by
   intro x hx;obtain⟨j,hj⟩:=Qg.1 hx
   have hjl:j<ys.length*te.size:=by rw[←hnl];exact(Z3.1 hj).1
   have hq:j / te.size<ys.length:=Nat.div_lt_of_lt_mul (by rw[Nat.mul_comm];exact hjl)
   have hyk:ys[j / te.size]? =some ys[j / te.size]:=Eh hq
   have hyl:ys[j / te.size].length=te.size:=hyes _ (Z6 hyk)
   have hmod:j % te.size<ys[j / te.size].length:=by rw[hyl];exact Nat.mod_lt _ hpos
   obtain⟨uu,q1,q2⟩:=hnv (j / te.size) (j % te.size) _ _ hyk (Eh hmod)
   have e:j / te.size*te.size+j % te.size=j:=by rw[Nat.mul_comm];exact Nat.div_add_mod j te.size
   rw[e,hj]at q1;cases q1;generalize ys[j / te.size][j % te.size]=v0 at q2;cases q2<;>rfl
  rcases Ly cap with h0|h0
  ·
   have hx0:xs=[]:=K9.1 (by omega)
   have hy0:ys=[]:=K9.1 (by omega)
   subst hx0;subst hy0
   have hn0:news=[]:=by simpa using hnl
   subst hn0
   have hfin:Aq F ⟨S.env,Aa (Aa (Aa S.H idy none) idx none) nid (some ⟨S.nv nid,te.size,[]⟩),Aa S.nv nid (S.nv nid+1)⟩ a w σ (Aa β nid none):=hd0.void hnid te.size;refine⟨.slice A 0 cap,w,σ,Aa β nid none,?_,hfin,?_⟩
   ·rw[hrun];cases A with
    |none=>simp
    |some b=>simp[storeCells]
   ·refine .own _ _ _ _ _ _ _ _ rfl (by show S.nv nid<Aa S.nv nid (S.nv nid+1) nid;rw[Q1];omega) (Z21 _) hc2 fun B hB _=> ?_
    have h':Aa (Aa (Aa S.H idy none) idx none) nid (some ⟨S.nv nid,te.size,[]⟩) nid=some B:=hB;rw[Q1]at h';cases h';exact⟨by simp,.inl h0⟩
  ·
   obtain⟨b,o',n',arr,T',h3,rfl,h5,q1,q4,q5,q6⟩:=hxc h0
   have hi0:=hidx1
   have hroom2:xs.length*te.size+ys.length*te.size≤n'*te.size:=by
    rw[←Gl];exact Hx _ (by omega)
   have hfit:(o'+xs.length*te.size)+0+news.length≤arr.size:=by rw[hnl];omega
   have hst:=run_storeCells_at F.P b (o'+xs.length*te.size) T' news 0 arr w q4 hfit hnews1;simp only[Nat.add_zero]at hst
   have hov2: ∀i,(E2 arr (o'+xs.length*te.size) news)[i]? =if o'+xs.length*te.size≤i∧i<o'+xs.length*te.size+news.length then news[i - (o'+xs.length*te.size)]? else arr[i]? :=Tz (by omega)
   have hfin:=hd3.retakeP (id:=idx) (Q1 _ _ _) hi0 (b:=b) (by show Bb idx idy nid xs.length (σ b)=[idx];rw[q1];rfl) hnid (arr':=E2 arr (o'+xs.length*te.size) news) q4 (Q75 (by omega)) (o':=o') (n':=n') (es:=te.size) (xs':=xs++ys) q5 (by rw[Jh];omega) hall (fun k j x v hk hj=>by
    obtain⟨hkl,hjl⟩:=X1 hall hk hj;rcases E4 k xs.length with hk2|hk2
    ·rw[Fi hk2]at hk;obtain⟨c,g1,g2⟩:=q6 k j x v hk hj
     have hlt:k*te.size+j<xs.length*te.size:=by
      have:(k+1)*te.size≤xs.length*te.size:=Hx _ hk2;rw[Gl,Nat.one_mul]at this;omega
     refine⟨c,?_,hmx w v c rfl g2 _⟩;rw[hov2,if_neg (by omega),←g1]
    ·rw[E0 hk2]at hk;obtain⟨c,g1,g2⟩:=hnv (k - xs.length) j x v hk hj
     have e0:xs.length+(k - xs.length)=k:=by omega
     have:=hmy (k - xs.length) j v c hnexy g2;rw[e0]at this
     have e:o'+k*te.size+j=o'+xs.length*te.size+((k - xs.length)*te.size+j):=by
      rw[Nat.sub_mul]
      have:xs.length*te.size≤k*te.size:=Hx _ hk2;omega
     have hgl:=(Z3.1 g1).1;refine⟨c,?_,.c this⟩;rw[e,hov2,if_pos ⟨by omega,by omega⟩,Nat.add_sub_cancel_left]
     exact g1)
   refine⟨.slice (some ⟨b,o',none⟩) (xs.length+ys.length) cap,_,_,_,?_,hfin,?_⟩
   ·rw[hrun];simp only;rw[Jl];simp only[Sem.run_bind,hst,Result.andThen_ok,Sem.run_pure];rfl
   ·refine .own _ _ _ _ _ _ _ _ rfl (by show S.nv nid<Aa S.nv nid (S.nv nid+1) nid;rw[Q1];omega) hroom hc2 fun B2 hB2 _=> ?_
    have h':Aa (Aa (Aa S.H idy none) idx none) nid (some ⟨S.nv nid,te.size,xs++ys⟩) nid=some B2:=hB2;rw[Q1]at h';cases h';exact⟨by simp,.inr ⟨b,o',n',Q1 _ _ _,by simp,by omega⟩⟩
theorem Aau (hT:Ae F.P T)(hs:Aq F S a w σ β){t ty e:Nat}{ti te:TI}(ht:tg T t=some ti)(hk:ti.k= .slice e)(he:tg T e=some te)(hpos:0<te.size)(hzl:te.zero.length=te.size)
  {u:V} {cu cv:Value} {idx vx idy vy:Nat} {xs ys:List (List V)} (hu:RV (S.cx w σ β) [] u cu) (hv:RV (S.cx w σ β) [] (.own idy vy 0 ys.length) cv)
  (hY:S.H idy=some ⟨vy,te.size,ys⟩) (hyt:noT ys=true)
  (hbase:(u= .own idx vx 0 xs.length∧S.H idx=some ⟨vx,te.size,xs⟩∧allClosed ⟨vx,te.size,xs⟩=true∧idx≠idy)∨(u= .row true te.size []∧xs=[]∧S.H idx=none))
  (hb:(xs.length+ys.length)*te.bytes≤140737488355328) (hm:xs.length+ys.length≤maxLen) (nid:Nat) (hnid:F.m≤nid):
  ∃c w' σ' β',(Builtin.append_ #[t,t] ty #[cu,cv]).run F.P w= .ok c w'∧
   Aq F ⟨S.env,Aa (Aa (Aa S.H idy none) idx none) nid (some ⟨S.nv nid,te.size,xs++ys⟩),Aa S.nv nid (S.nv nid+1)⟩ a w' σ' β'∧
   RV ((⟨S.env,Aa (Aa (Aa S.H idy none) idx none) nid (some ⟨S.nv nid,te.size,xs++ys⟩),Aa S.nv nid (S.nv nid+1)⟩:St).cx w' σ' β') [] (.own nid (S.nv nid) 0 (xs.length+ys.length)) c:=by
 have hidy0:idy≠0:=by rintro rfl;have h0:S.H 0=none:=hs.hr.far;rw[h0]at hY;cases hY
 obtain⟨A,cap,rfl,hc1,hc2,hxes,hxc,hidx0⟩: ∃A cap,cu= .slice A xs.length cap∧xs.length≤cap∧cap≤maxLen∧(∀x∈xs,x.length=te.size)∧
   (0<cap-> ∃b o n arr T',β idx=some (b,o,n)∧A=some ⟨b,o,none⟩∧cap≤n∧σ b=[idx]∧w.heap[b]? =some (.cells arr T' (0,0))∧o+n*te.size≤arr.size∧ ∀(k j:Nat) x v,xs[k]? =some x->x[j]? =some v-> ∃u,arr[o+k*te.size+j]? =some u∧RC w σ [idx,k,j] v u)∧(0<cap->idx≠0∧idx≠idy):=by
  rcases hbase with ⟨rfl,hX,hcx,hne⟩|⟨rfl,rfl,hX⟩
  ·obtain⟨A,cap,q1,q2,q3,q4,q5⟩:=Afc hs hu hX hcx;exact⟨A,cap,q1,q2,q3,q4,q5,fun _=>⟨(by rintro rfl;have h0:S.H 0=none:=hs.hr.far;rw[h0]at hX;cases hX),hne⟩⟩
  ·cases hu with
   |c hu=>
    cases hu with
    |row p o es xs0 A0 n0 cap0 b off cs hn hcap hmax hA hT0 hx0 hcc hrr=>
     have h0: ¬0<cap0:=fun h=>by
      obtain⟨_,hp,_⟩:=hT0 rfl h;exact hp rfl
     refine⟨A0,cap0,by rw[hn],by simp,hmax,by simp,fun h=>absurd h h0,fun h=>absurd h h0⟩
 obtain⟨A2,cap2,rfl,hd1,hd2,hyes,hyc⟩:=Q63 hs hv (xs:=ys) (by simp only[Hm,hY,Z55,List.take_length];cases e:Nat.decEq vy vy with|isTrue _=>rfl|isFalse h=>exact absurd rfl h) (fun B hB=>by rw[hY]at hB;cases hB;rfl) hyt hpos
 obtain⟨news,hnl,hnc,hnv⟩: ∃news:List Value,news.length=ys.length*te.size∧(0<ys.length-> ∃x,A2=some x∧ ∀(j:Nat) u,news[j]? =some u->w.cell? (x.add j)=some u)∧ ∀(k j:Nat) x v,ys[k]? =some x->x[j]? =some v-> ∃u,news[k*te.size+j]? =some u∧RV (S.cx w σ β) [] v u:=by
  rcases Ly ys.length with h0|h0
  ·have:ys=[]:=K9.1 h0;subst this;exact⟨[],by simp,fun h=>absurd h (by simp),by simp⟩
  ·obtain⟨b,o2,rfl,h⟩:=hyc h0;obtain⟨us,g1,g2,g3⟩:=Q85 (w:=w) hpos ys hyes h;exact⟨us,g1,fun _=>⟨_,rfl,fun j u hj=>by rw[Jl];exact g2 j u hj⟩,g3⟩
 obtain⟨olds,hol,hoc,hov⟩: ∃olds:List Value,olds.length=xs.length*te.size∧(0<xs.length-> ∃x,A=some x∧ ∀(j:Nat) u,olds[j]? =some u->w.cell? (x.add j)=some u)∧ ∀(k j:Nat) x v,xs[k]? =some x->x[j]? =some v-> ∃u,olds[k*te.size+j]? =some u∧RC w σ [idx,k,j] v u:=by
  rcases Ly xs.length with h0|h0
  ·have:xs=[]:=K9.1 h0;subst this;exact⟨[],by simp,fun h=>absurd h (by simp),by simp⟩
  ·obtain⟨b,o2,n,arr,T',g0,rfl,_,_,g1,_,g2⟩:=hxc (by omega)
   obtain⟨us,p1,p2,p3⟩:=Ra (w:=w) (b:=b) (o:=o2) hpos xs (fun k j v u=>RC w σ [idx,k,j] v u) hxes (fun k j x v hk hj=>by
    obtain⟨u,q1,q2⟩:=g2 k j x v hk hj;exact⟨u,(Zo g1).trans q1,q2⟩)
   exact⟨us,p1,fun _=>⟨_,rfl,fun j u hj=>by rw[Jl];exact p2 j u hj⟩,p3⟩
 have hall: ∀x∈xs++ys,x.length=te.size:=fun x hx=>(Gh.1 hx).elim (hxes x) (hyes x)
 have hd0:Aq F ⟨S.env,Aa (Aa S.H idy none) idx none,S.nv⟩ a w σ β:=(hs.dropH idy).dropH idx
 have hd3:=hd0.reσ (Bb idx idy nid xs.length) rfl rfl (fun i B hB r=>by
  have hB:Aa (Aa S.H idy none) idx none i=some B:=hB
  have h1:i≠idx:=by rintro rfl;rw[Q1]at hB;cases hB
  rw[Q0 _ _ h1]at hB
  have h2:i≠idy:=by rintro rfl;rw[Q1]at hB;cases hB
  cases r with
  |nil=>rfl
  |cons k r=>simp only[Bb,if_neg h1,if_neg h2])
 have hmx: ∀(k j:Nat) (v:V) (u:Value),0<cap->RC w σ [idx,k,j] v u->RC w (fun b=>Bb idx idy nid xs.length (σ b)) [nid,k,j] v u:=fun k j v u _ h=>h.move (fun b hb=>by simp only[hb];rfl) (fun b r _ hb=>by simp only[hb,Qe,Zl,Bb,if_true]) (fun _=>by simp)
 have hmy: ∀(w':World) (v:V) (u:Value),w'.heap=w.heap->RV (S.cx w σ β) [] v u-> ∀q,RV ((⟨S.env,Aa (Aa S.H idy none) idx none,S.nv⟩:St).cx w' (fun b=>Bb idx idy nid xs.length (σ b)) β) q v u:=fun w' v u hw h q=>by
  refine(h.mono (E':=((⟨S.env,Aa (Aa S.H idy none) idx none,S.nv⟩:St).cx w' (fun b=>Bb idx idy nid xs.length (σ b)) β)) ⟨fun _=>Z9 _,fun i B' hB _=> ?_⟩ fun b _ hc=>⟨by show w'.heap[b]? =w.heap[b]?;rw[hw],?_⟩).any q
  ·have hB:Aa (Aa S.H idy none) idx none i=some B':=hB
   have h1:i≠idx:=by rintro rfl;rw[Q1]at hB;cases hB
   rw[Q0 _ _ h1]at hB
   have h2:i≠idy:=by rintro rfl;rw[Q1]at hB;cases hB
   rw[Q0 _ _ h2]at hB;exact⟨B',hB,rfl,rfl,rfl,rfl⟩
  ·show Bb idx idy nid xs.length (σ b)=σ b
   have hc:σ b=[]:=hc.resolve_right (by simp)
   rw[hc];rfl
 have hcapx: ∀ {k:Nat} {x:List V},xs[k]? =some x->0<cap:=fun h=>by have:=(Z3.1 h).1;omega
 rcases E4 cap (xs.length+ys.length)with hg|hroom
 ·
  obtain⟨arr,hrun,hasz,hac,hge,hcm⟩:=F4 (ty:=ty) hT ht hk he hzl w A xs.length cap A2 ys.length cap2 olds news hol hoc hnl hnc hg hm hb
  have hs2:=Aq.drawn' hd3
  have hcell: ∀(k j:Nat) x v,(xs++ys)[k]? =some x->x[j]? =some v-> ∃c,arr[k*te.size+j]? =some c∧RV ((⟨S.env,Aa (Aa S.H idy none) idx none,S.nv⟩:St).cx w.drew (fun b=>Bb idx idy nid xs.length (σ b)) β) [nid,k,j] v c:=by
   intro k j x v hk hj;rcases E4 k xs.length with hk2|hk2
   ·rw[Fi hk2]at hk;obtain⟨uu,q1,q2⟩:=hov k j x v hk hj;refine⟨uu,hac _ _ ?_,.c ((hmx k j v uu (hcapx hk) q2).mono fun b _ _=>⟨rfl,rfl⟩)⟩;rw[Fi (Z3.1 q1).1];exact q1
   ·rw[E0 hk2]at hk;obtain⟨uu,q1,q2⟩:=hnv (k - xs.length) j x v hk hj;refine⟨uu,hac _ _ ?_,hmy w.drew v uu rfl q2 _⟩
    have e:k*te.size+j=olds.length+((k - xs.length)*te.size+j):=by
     rw[hol,Nat.sub_mul]
     have:xs.length*te.size≤k*te.size:=Hx _ hk2;omega
    rw[e,E0 (by omega),Nat.add_sub_cancel_left];exact q1
  have hal:=hs2.allocP hnid (es:=te.size) (n:=grownCap w (xs.length+ys.length) cap e) (xs:=xs++ys) (arr:=arr) e hall hcell (by simpa using hge) (by rw[hasz];exact Z9 _)
  refine⟨_,World.push w.drew arr e,_,_,hrun,hal,?_⟩
  have:=Xt (S:=⟨S.env,Aa (Aa S.H idy none) idx none,S.nv⟩) nid te.size (grownCap w (xs.length+ys.length) cap e) (xs++ys) (World.push w.drew arr e) (Aa (fun b=>Bb idx idy nid xs.length (σ b)) w.drew.heap.size [nid]) β w.drew.heap.size (by simpa using hge) hcm
  rw[Jh]at this;exact this
 ·
  have hrun:=H5 (ty:=ty) hT ht hk he w A xs.length cap A2 ys.length cap2 news hnl hnc hroom
  have hnews1: ∀x∈news,x.oneCell'=true:=by
   intro x hx;obtain⟨j,hj⟩:=Qg.1 hx
   have hjl:j<ys.length*te.size:=by rw[←hnl];exact(Z3.1 hj).1
   have hq:j / te.size<ys.length:=Nat.div_lt_of_lt_mul (by rw[Nat.mul_comm];exact hjl)
   have hyk:ys[j / te.size]? =some ys[j / te.size]:=Eh hq
   have hyl:ys[j / te.size].length=te.size:=hyes _ (Z6 hyk)
   have hmod:j % te.size<ys[j / te.size].length:=by rw[hyl];exact Nat.mod_lt _ hpos
   obtain⟨uu,q1,q2⟩:=hnv (j / te.size) (j % te.size) _ _ hyk (Eh hmod)
   have e:j / te.size*te.size+j % te.size=j:=by rw[Nat.mul_comm];exact Nat.div_add_mod j te.size
   rw[e,hj]at q1;cases q1;obtain⟨p1,p2⟩:=Aii hyt hyk (Eh hmod);exact q2.one p1 p2
  rcases Ly cap with h0|h0
  ·
   have hx0:xs=[]:=K9.1 (by omega)
   have hy0:ys=[]:=K9.1 (by omega)
   subst hx0;subst hy0
   have hn0:news=[]:=by simpa using hnl
   subst hn0
   have hfin:Aq F ⟨S.env,Aa (Aa (Aa S.H idy none) idx none) nid (some ⟨S.nv nid,te.size,[]⟩),Aa S.nv nid (S.nv nid+1)⟩ a w σ (Aa β nid none):=hd0.void hnid te.size;refine⟨.slice A 0 cap,w,σ,Aa β nid none,?_,hfin,?_⟩
   ·rw[hrun];cases A with
    |none=>simp
    |some b=>simp[storeCells]
   ·refine .own _ _ _ _ _ _ _ _ rfl (by show S.nv nid<Aa S.nv nid (S.nv nid+1) nid;rw[Q1];omega) (Z21 _) hc2 fun B hB _=> ?_
    have h':Aa (Aa (Aa S.H idy none) idx none) nid (some ⟨S.nv nid,te.size,[]⟩) nid=some B:=hB;rw[Q1]at h';cases h';exact⟨by simp,.inl h0⟩
  ·
   obtain⟨b,o',n',arr,T',h3,rfl,h5,q1,q4,q5,q6⟩:=hxc h0;obtain⟨hi0,hne⟩:=hidx0 h0
   have hroom2:xs.length*te.size+ys.length*te.size≤n'*te.size:=by
    rw[←Gl];exact Hx _ (by omega)
   have hfit:(o'+xs.length*te.size)+0+news.length≤arr.size:=by rw[hnl];omega
   have hst:=run_storeCells_at F.P b (o'+xs.length*te.size) T' news 0 arr w q4 hfit hnews1;simp only[Nat.add_zero]at hst
   have hov2: ∀i,(E2 arr (o'+xs.length*te.size) news)[i]? =if o'+xs.length*te.size≤i∧i<o'+xs.length*te.size+news.length then news[i - (o'+xs.length*te.size)]? else arr[i]? :=Tz (by omega)
   have hfin:=hd3.retakeP (id:=idx) (Q1 _ _ _) hi0 (b:=b) (by show Bb idx idy nid xs.length (σ b)=[idx];rw[q1];rfl) hnid (arr':=E2 arr (o'+xs.length*te.size) news) q4 (Q75 (by omega)) (o':=o') (n':=n') (es:=te.size) (xs':=xs++ys) q5 (by rw[Jh];omega) hall (fun k j x v hk hj=>by
    obtain⟨hkl,hjl⟩:=X1 hall hk hj;rcases E4 k xs.length with hk2|hk2
    ·rw[Fi hk2]at hk;obtain⟨c,g1,g2⟩:=q6 k j x v hk hj
     have hlt:k*te.size+j<xs.length*te.size:=by
      have:(k+1)*te.size≤xs.length*te.size:=Hx _ hk2;rw[Gl,Nat.one_mul]at this;omega
     refine⟨c,?_,.c (hmx k j v c h0 g2)⟩;rw[hov2,if_neg (by omega),←g1]
    ·rw[E0 hk2]at hk;obtain⟨c,g1,g2⟩:=hnv (k - xs.length) j x v hk hj
     have e:o'+k*te.size+j=o'+xs.length*te.size+((k - xs.length)*te.size+j):=by
      rw[Nat.sub_mul]
      have:xs.length*te.size≤k*te.size:=Hx _ hk2;omega
     have hgl:=(Z3.1 g1).1;refine⟨c,?_,hmy w v c rfl g2 _⟩;rw[e,hov2,if_pos ⟨by omega,by omega⟩,Nat.add_sub_cancel_left]
     exact g1)
   refine⟨.slice (some ⟨b,o',none⟩) (xs.length+ys.length) cap,_,_,_,?_,hfin,?_⟩
   ·rw[hrun];simp only;rw[Jl];simp only[Sem.run_bind,hst,Result.andThen_ok,Sem.run_pure];rfl
   ·refine .own _ _ _ _ _ _ _ _ rfl (by show S.nv nid<Aa S.nv nid (S.nv nid+1) nid;rw[Q1];omega) hroom hc2 fun B2 hB2 _=> ?_
    have h':Aa (Aa (Aa S.H idy none) idx none) nid (some ⟨S.nv nid,te.size,xs++ys⟩) nid=some B2:=hB2;rw[Q1]at h';cases h';exact⟨by simp,.inr ⟨b,o',n',Q1 _ _ _,by simp,by omega⟩⟩
theorem Aop{o:Oper}{x y:Operand}{t e:Nat}(h:o.op= .call {callee:= .builtin .append,args:= #[x,y],argTypes:= #[t,t]})(nid:Nat)(shx:List Nat){ti te:TI}{u:V}{idx vx idy vy:Nat}{xs ys:List (List V)}(hx:S.val shx x= .c u)(hy:S.val [] y= .c (.own idy vy 0 ys.length))(ht:tg T t=some ti)(hk:ti.k= .slice e)(he:tg T e=some te)
  (hY:S.H idy=some ⟨vy,te.size,ys⟩) (hcy:allClosed ⟨vy,te.size,ys⟩=true)
  (hbase:(u= .own idx vx 0 xs.length∧S.H idx=some ⟨vx,te.size,xs⟩∧allClosed ⟨vx,te.size,xs⟩=true∧idx≠idy)∨(u= .row true te.size []∧xs=[]∧idx=0))
  (hn:Nat.ble 100 nid=true) (hpos:Nat.blt 0 te.size=true) (hzl:te.zero.length=te.size) (hb:(xs.length+ys.length)*te.bytes≤140737488355328∧xs.length+ys.length≤maxLen):
  Ca F T o S {v:= .c (.own nid (S.nv nid) 0 (xs.length+ys.length)),upd:=[(idy,none),(idx,none),(nid,some ⟨S.nv nid,te.size,xs++ys⟩)],bump:=[nid],use:=Q2 [x,y],ids:=[nid,idx,idy]}:=by
 intro henv hd S' h1 h2 a w hs;obtain⟨hdf,hsz,σ,β,hs⟩:=hs
 have hnv:S'.nv nid=S.nv nid:=(h2 nid (by simp)).2
 have hHx:S'.H idx=S.H idx:=(h2 idx (by simp)).1
 have hHy:S'.H idy=S.H idy:=(h2 idy (by simp)).1
 have hx':S'.val shx x= .c u:=by rw[La (l:=[x,y]) (by simp) (fun t ht=>h1 t ht),hx]
 have hy':S'.val [] y= .c (.own idy vy 0 ys.length):=by rw[La (l:=[x,y]) (by simp) (fun t ht=>h1 t ht),hy]
 have g1:=Q4 hs shx x
 have g2:=Q4 hs [] y;rw[hx']at g1;rw[hy']at g2
 have h00:S'.H 0=none:=hs.hr.far;obtain⟨c,w',σ',β',hrun,hfin,hres⟩:=Aat (ty:=o.type) henv.tab hs ht hk he (Ep hpos) hzl (Cm g1) (Cm g2) (hHy.trans hY) hcy (by
  rcases hbase with ⟨k1,k2,k3,k4⟩|⟨k1,k2,k3⟩
  ·exact .inl ⟨k1,hHx.trans k2,k3,k4⟩
  ·exact .inr ⟨k1,k2,by rw[k3];exact h00⟩) hb.1 hb.2 nid (Tg henv.m (Ep hn))
 refine .inl ⟨c,w',?_,by rw[Tn];exact hdf,by rw[Q7];exact hsz,σ',β',?_⟩
 ·have hop:(execOp a.eval o)=(do let d ←resolve a.eval ⟨.builtin .append,#[x,y],#[t,t]⟩ o.type;invoke d.target d.args):=by simp only[execOp,h]
  rw[hop];simp only[resolve,Sem.run_bind,Sem.run_pure,Result.andThen_ok,invoke,builtin]
  have e2:(Array.map a.eval #[x,y])= #[a.eval x,a.eval y]:=by simp
  rw[e2,hrun];rfl
 ·have:=hfin.putT hsz hd (.c hres)
  have e:S'.app o.dst {v:= .c (.own nid (S.nv nid) 0 (xs.length+ys.length)),upd:=[(idy,none),(idx,none),(nid,some ⟨S.nv nid,te.size,xs++ys⟩)],bump:=[nid],use:=Q2 [x,y],ids:=[nid,idx,idy]}=
    (⟨S'.env,Aa (Aa (Aa S'.H idy none) idx none) nid (some ⟨S'.nv nid,te.size,xs++ys⟩),Aa S'.nv nid (S'.nv nid+1)⟩:St).put o.dst (.c (.own nid (S'.nv nid) 0 (xs.length+ys.length))):=by
   unfold St.app St.put;simp only[←hnv];rfl
  rw[e];exact this
theorem Aoq{o:Oper}{x y:Operand}{t e:Nat}(h:o.op= .call {callee:= .builtin .append,args:= #[x,y],argTypes:= #[t,t]})(nid:Nat)(shx:List Nat){ti te:TI}{u:V}{idx vx idy vy:Nat}{xs ys:List (List V)}(hx:S.val shx x= .c u)(hy:S.val [] y= .c (.own idy vy 0 ys.length))(ht:tg T t=some ti)(hk:ti.k= .slice e)(he:tg T e=some te)
  (hY:S.H idy=some ⟨vy,te.size,ys⟩) (hyt:noT ys=true)
  (hbase:(u= .own idx vx 0 xs.length∧S.H idx=some ⟨vx,te.size,xs⟩∧allClosed ⟨vx,te.size,xs⟩=true∧idx≠idy)∨(u= .row true te.size []∧xs=[]∧idx=0))
  (hn:Nat.ble 100 nid=true) (hpos:Nat.blt 0 te.size=true) (hzl:te.zero.length=te.size) (hb:(xs.length+ys.length)*te.bytes≤140737488355328∧xs.length+ys.length≤maxLen):
  Ca F T o S {v:= .c (.own nid (S.nv nid) 0 (xs.length+ys.length)),upd:=[(idy,none),(idx,none),(nid,some ⟨S.nv nid,te.size,xs++ys⟩)],bump:=[nid],use:=Q2 [x,y],ids:=[nid,idx,idy]}:=by
 intro henv hd S' h1 h2 a w hs;obtain⟨hdf,hsz,σ,β,hs⟩:=hs
 have hnv:S'.nv nid=S.nv nid:=(h2 nid (by simp)).2
 have hHx:S'.H idx=S.H idx:=(h2 idx (by simp)).1
 have hHy:S'.H idy=S.H idy:=(h2 idy (by simp)).1
 have hx':S'.val shx x= .c u:=by rw[La (l:=[x,y]) (by simp) (fun t ht=>h1 t ht),hx]
 have hy':S'.val [] y= .c (.own idy vy 0 ys.length):=by rw[La (l:=[x,y]) (by simp) (fun t ht=>h1 t ht),hy]
 have g1:=Q4 hs shx x
 have g2:=Q4 hs [] y;rw[hx']at g1;rw[hy']at g2
 have h00:S'.H 0=none:=hs.hr.far;obtain⟨c,w',σ',β',hrun,hfin,hres⟩:=Aau (ty:=o.type) henv.tab hs ht hk he (Ep hpos) hzl (Cm g1) (Cm g2) (hHy.trans hY) hyt (by
  rcases hbase with ⟨k1,k2,k3,k4⟩|⟨k1,k2,k3⟩
  ·exact .inl ⟨k1,hHx.trans k2,k3,k4⟩
  ·exact .inr ⟨k1,k2,by rw[k3];exact h00⟩) hb.1 hb.2 nid (Tg henv.m (Ep hn))
 refine .inl ⟨c,w',?_,by rw[Tn];exact hdf,by rw[Q7];exact hsz,σ',β',?_⟩
 ·have hop:(execOp a.eval o)=(do let d ←resolve a.eval ⟨.builtin .append,#[x,y],#[t,t]⟩ o.type;invoke d.target d.args):=by simp only[execOp,h]
  rw[hop];simp only[resolve,Sem.run_bind,Sem.run_pure,Result.andThen_ok,invoke,builtin]
  have e2:(Array.map a.eval #[x,y])= #[a.eval x,a.eval y]:=by simp
  rw[e2,hrun];rfl
 ·have:=hfin.putT hsz hd (.c hres)
  have e:S'.app o.dst {v:= .c (.own nid (S.nv nid) 0 (xs.length+ys.length)),upd:=[(idy,none),(idx,none),(nid,some ⟨S.nv nid,te.size,xs++ys⟩)],bump:=[nid],use:=Q2 [x,y],ids:=[nid,idx,idy]}=
    (⟨S'.env,Aa (Aa (Aa S'.H idy none) idx none) nid (some ⟨S'.nv nid,te.size,xs++ys⟩),Aa S'.nv nid (S'.nv nid+1)⟩:St).put o.dst (.c (.own nid (S'.nv nid) 0 (xs.length+ys.length))):=by
   unfold St.app St.put;simp only[←hnv];rfl
  rw[e];exact this
theorem Aor{o:Oper}{x y:Operand}{t e:Nat}(h:o.op= .call {callee:= .builtin .append,args:= #[x,y],argTypes:= #[t,t]})(nid:Nat){ti te:TI}{idx vx idy vy:Nat}{xs ys:List (List V)}(hx:S.val [] x= .c (.own idx vx 0 xs.length))(hy:S.val [] y= .c (.own idy vy 0 ys.length))(ht:tg T t=some ti)(hk:ti.k= .slice e)(he:tg T e=some te)
  (hY:S.H idy=some ⟨vy,te.size,ys⟩) (hcy:allClosed ⟨vy,te.size,ys⟩=true) (hX:S.H idx=some ⟨vx,te.size,xs⟩) (hxt:noT xs=true) (hne:idx≠idy)
  (hn:Nat.ble 100 nid=true) (hpos:Nat.blt 0 te.size=true) (hzl:te.zero.length=te.size) (hb:(xs.length+ys.length)*te.bytes≤140737488355328∧xs.length+ys.length≤maxLen):
  Ca F T o S {v:= .c (.own nid (S.nv nid) 0 (xs.length+ys.length)),upd:=[(idy,none),(idx,none),(nid,some ⟨S.nv nid,te.size,xs++ys⟩)],bump:=[nid],use:=Q2 [x,y],ids:=[nid,idx,idy]}:=by
 intro henv hd S' h1 h2 a w hs;obtain⟨hdf,hsz,σ,β,hs⟩:=hs
 have hnv:S'.nv nid=S.nv nid:=(h2 nid (by simp)).2
 have hHx:S'.H idx=S.H idx:=(h2 idx (by simp)).1
 have hHy:S'.H idy=S.H idy:=(h2 idy (by simp)).1
 have hx':S'.val [] x= .c (.own idx vx 0 xs.length):=by rw[La (l:=[x,y]) (by simp) (fun t ht=>h1 t ht),hx]
 have hy':S'.val [] y= .c (.own idy vy 0 ys.length):=by rw[La (l:=[x,y]) (by simp) (fun t ht=>h1 t ht),hy]
 have g1:=Q4 hs [] x
 have g2:=Q4 hs [] y;rw[hx']at g1;rw[hy']at g2;obtain⟨c,w',σ',β',hrun,hfin,hres⟩:=X5 (ty:=o.type) henv.tab hs ht hk he (Ep hpos) hzl (Cm g1) (Cm g2) (hHy.trans hY) hcy (hHx.trans hX) hxt hne hb.1 hb.2 nid (Tg henv.m (Ep hn));refine .inl ⟨c,w',?_,by rw[Tn];exact hdf,by rw[Q7];exact hsz,σ',β',?_⟩
 ·have hop:(execOp a.eval o)=(do let d ←resolve a.eval ⟨.builtin .append,#[x,y],#[t,t]⟩ o.type;invoke d.target d.args):=by simp only[execOp,h]
  rw[hop];simp only[resolve,Sem.run_bind,Sem.run_pure,Result.andThen_ok,invoke,builtin]
  have e2:(Array.map a.eval #[x,y])= #[a.eval x,a.eval y]:=by simp
  rw[e2,hrun];rfl
 ·have:=hfin.putT hsz hd (.c hres)
  have e:S'.app o.dst {v:= .c (.own nid (S.nv nid) 0 (xs.length+ys.length)),upd:=[(idy,none),(idx,none),(nid,some ⟨S.nv nid,te.size,xs++ys⟩)],bump:=[nid],use:=Q2 [x,y],ids:=[nid,idx,idy]}=
    (⟨S'.env,Aa (Aa (Aa S'.H idy none) idx none) nid (some ⟨S'.nv nid,te.size,xs++ys⟩),Aa S'.nv nid (S'.nv nid+1)⟩:St).put o.dst (.c (.own nid (S'.nv nid) 0 (xs.length+ys.length))):=by
   unfold St.app St.put;simp only[←hnv];rfl
  rw[e];exact this
theorem Aav{P:Program}{T:Tab}(hT:Ae P T){t t' ty e:Nat}{ti te:TI}(ht:tg T t=some ti)(hk:ti.k= .slice e)(he:tg T e=some te)(w:World)(A:Option Addr)(n cap:Nat)(A2:Option Addr)(m cap2:Nat)(news:List Value)(hl:news.length=Nat.min m n*te.size)(hnews:0<Nat.min m n-> ∃x,A2=some x∧ ∀(j:Nat) u,news[j]? =some u->w.cell? (x.add j)=some u):
  (Builtin.copy_ #[t,t'] ty #[.slice A n cap,.slice A2 m cap2]).run P w=match A with
   |none=> .ok (goInt (Nat.min m n)) w
   |some b=>((storeCells b news)>>=fun _=>(pure (goInt (Nat.min m n)):Sem Value)).run P w:=by
 have hu:=(hT.ty ht).slice hk
 have hsz:=(hT.ty he).sizeOf w
 have hfc:=Aij (P:=P) w te.size (Nat.min m n) A2 m cap2 news hl hnews;cases A with
 |none=>simp[Builtin.copy_,run_underlying hu,hsz,Builtin.lenOf,hfc]
 |some b=>simp[Builtin.copy_,run_underlying hu,hsz,Builtin.lenOf,hfc]
theorem sCp{o:Oper}{x y:Operand}{t t' e:Nat}(h:o.op= .call {callee:= .builtin .copy,args:= #[x,y],argTypes:= #[t,t']}){ti te:TI}{id ver off len:Nat}{v:V}{xs ys:List (List V)}(hx:S.val [] x= .c (.own id ver off len))(hy:S.val [] y= .c v)(ht:tg T t=some ti)(hk:ti.k= .slice e)(he:tg T e=some te)(hs1:te.size=1)
  (hB:S.H id=some ⟨ver,1,xs⟩) (hyr:Hm S v=some ys) (hye:Mc S 1 v=true) (hyt:noT ys=true):
  Ca F T o S {v:= .c (.int .i64 ((Nat.min ys.length len:Nat):Int)),upd:=[(id,some ⟨ver,1,xs.take off++ys.take (Nat.min ys.length len)++xs.drop (off+Nat.min ys.length len)⟩)],use:=Q2 [x,y],ids:=id::Dl v}:=by
 intro henv hd S' h1 h2 a w hs;obtain⟨hdf,hsz,σ,β,hs⟩:=hs
 have hB':S'.H id=some ⟨ver,1,xs⟩:=by rw[(h2 id (by simp)).1,hB]
 have hx':S'.val [] x= .c (.own id ver off len):=by rw[La (l:=[x,y]) (by simp) (fun t ht=>h1 t ht),hx]
 have hy':S'.val [] y= .c v:=by rw[La (l:=[x,y]) (by simp) (fun t ht=>h1 t ht),hy]
 have g1:=Q4 hs [] x
 have g2:=Q4 hs [] y;rw[hx']at g1;rw[hy']at g2
 have hr:Hm S' v=Hm S v∧Mc S' 1 v=Mc S 1 v:=by
  cases v with
  |own i vv o' l'=>
   have:=(h2 i (by simp[Dl])).1
   simp only[Hm,Mc,this];exact⟨trivial,trivial⟩
  |_=>exact⟨rfl,rfl⟩
 obtain⟨A2,cap2,ey,hd1,hd2,hyes,hyc⟩:=Q63 hs (Cm g2) (hr.1.trans hyr) (Ub (hr.2.trans hye)) hyt Nat.one_pos
 obtain⟨news,hnl,hnc,hnv⟩: ∃news:List Value,news.length=ys.length∧(0<ys.length-> ∃x,A2=some x∧ ∀(j:Nat) u,news[j]? =some u->w.cell? (x.add j)=some u)∧ ∀(k:Nat) x v,ys[k]? =some x->x[0]? =some v-> ∃u,news[k]? =some u∧RV (S'.cx w σ β) [] v u:=by
  rcases Ly ys.length with h0|h0
  ·have:ys=[]:=K9.1 h0;subst this;exact⟨[],by simp,fun h=>absurd h (by simp),by simp⟩
  ·obtain⟨b,o2,rfl,h⟩:=hyc h0;obtain⟨us,q1,q2,q3⟩:=Q85 (w:=w) Nat.one_pos ys hyes h;refine⟨us,by simpa using q1,fun _=>⟨_,rfl,fun j u hj=>by rw[Jl];exact q2 j u hj⟩,fun k x v hk hv=> ?_⟩
   obtain⟨u,r1,r2⟩:=q3 k 0 x v hk hv;exact⟨u,by simpa using r1,r2⟩
 have g1':=Cm g1;generalize ec:a.eval x=cx at g1';cases g1' with
 |c h=>cases h
 |own _ _ _ _ _ A n cap hn hver hcap hmax hh=>
  subst hn;obtain⟨q1,q2⟩:=hh _ hB' rfl
  have q1:off+n≤xs.length:=q1;generalize hm:Nat.min ys.length n=m
  have hm1:m≤ys.length:=by rw[←hm];exact Nat.min_le_left _ _
  have hm2:m≤n:=by rw[←hm];exact Nat.min_le_right _ _
  have htl:(news.take m).length=m:=by rw[List.length_take];omega
  have hrun:=Aav (ty:=o.type) (t':=t') henv.tab ht hk he w A n cap A2 ys.length cap2 (news.take m) (by rw[htl,hm,hs1,Nat.mul_one]) (fun h0=>by
   rw[hm]at h0;obtain⟨z,e,q⟩:=hnc (by omega)
   exact⟨z,e,fun j u hj=>q j u (by rw[Tf]at hj;split at hj<;>first|exact hj|cases hj)⟩)
  rw[hm]at hrun
  have hop:(execOp a.eval o)=(do let d ←resolve a.eval ⟨.builtin .copy,#[x,y],#[t,t']⟩ o.type;invoke d.target d.args):=by simp only[execOp,h]
  have e2:(Array.map a.eval #[x,y])= #[.slice A n cap,.slice A2 ys.length cap2]:=by simp[ec,ey]
  have hexec: ∀(c:Value) (w':World),(Builtin.copy_ #[t,t'] o.type #[.slice A n cap,.slice A2 ys.length cap2]).run F.P w= .ok c w'->(execOp a.eval o).run F.P w= .ok (.value c) w':=by
   intro c w' hc;rw[hop];simp only[resolve,Sem.run_bind,Sem.run_pure,Result.andThen_ok,invoke,builtin];rw[e2,hc];rfl
  have hfinal: ∀(w':World) (σ':Nat->List Nat) (β':Nat->Option (Nat×Nat×Nat)),Aq F (S'.upd id ⟨ver,1,xs.take off++ys.take m++xs.drop (off+m)⟩) a w' σ' β'→
    Aq F (S'.app o.dst {v:= .c (.int .i64 (m:Int)),upd:=[(id,some ⟨ver,1,xs.take off++ys.take m++xs.drop (off+m)⟩)],use:=Q2 [x,y],ids:=id::Dl v}) (a.put o.dst (goInt m)) w' σ' β':=by
   intro w' σ' β' hf
   have:=hf.putT (dst:=o.dst) (x:= .c (.int .i64 (m:Int))) (v:=goInt m) hsz hd (.c (.c (.int _ _ _)));exact this
  rcases Ly m with h0|h0
  ·subst h0
   have hsame:xs.take off++ys.take 0++xs.drop (off+0)=xs:=by simp
   have hu:S'.upd id ⟨ver,1,xs⟩=S':=by
    unfold St.upd
    have:Aa S'.H id (some ⟨ver,1,xs⟩)=S'.H:=by
     funext i
     by_cases e:i=id
     ·subst e;rw[Q1,hB']
     ·rw[Q0 _ _ e]
    rw[this]
   refine .inl ⟨goInt 0,w,hexec _ _ ?_,by rw[Tn];exact hdf,by rw[Q7];exact hsz,σ,β,hfinal _ _ _ (by rw[hsame,hu];exact hs)⟩
   rw[hrun];cases A with
   |none=>rfl
   |some b=>simp[storeCells]
  ·obtain⟨b,o',n',h3,rfl,h5⟩:=q2.at_ (by omega)
   obtain⟨r1,r2,r3,arr,T',r4,r5,r6⟩:=(hs.hr.blk id _ hB').2.some h3
   have r5:o'+n'*1≤arr.size:=r5
   have r3:xs.length≤n':=r3
   have hfit:(o'+off)+0+(news.take m).length≤arr.size:=by rw[htl];omega
   have hone: ∀z∈news.take m,z.oneCell'=true:=by
    intro z hz;obtain⟨j,hj⟩:=Qg.1 (Zm hz)
    have hjl:j<ys.length:=by rw[←hnl];exact(Z3.1 hj).1
    have hyk:ys[j]? =some ys[j]:=Eh hjl
    have hyl:ys[j].length=1:=hyes _ (Z6 hyk)
    have hz0:ys[j][0]? =some ys[j][0]:=Eh (by omega)
    obtain⟨uu,k1,k2⟩:=hnv j _ _ hyk hz0;rw[hj]at k1;cases k1;obtain⟨p1,p2⟩:=Aii hyt hyk hz0;exact k2.one p1 p2
   have hst:=run_storeCells_at F.P b (o'+off) T' (news.take m) 0 arr w r4 hfit hone;simp only[Nat.add_zero]at hst
   have hov: ∀i,(E2 arr (o'+off) (news.take m))[i]? =if o'+off≤i∧i<o'+off+(news.take m).length then(news.take m)[i - (o'+off)]? else arr[i]? :=Tz (by omega)
   have hlen:(xs.take off++ys.take m++xs.drop (off+m)).length=xs.length:=by simp;omega
   have hxes: ∀z∈xs,z.length=1:=r2
   have hw:=hs.write hB' h3 r4 (Q75 (by omega)) (xs':=xs.take off++ys.take m++xs.drop (off+m)) hlen (fun z hz=>by
    rcases Gh.1 hz with hz|hz
    ·rcases Gh.1 hz with hz|hz
     ·exact hxes z (Zm hz)
     ·exact hyes z (Zm hz)
    ·exact hxes z (List.mem_of_mem_drop hz)) (fun k j z vv hk hj=>by
    have hkl:=(Z3.1 hk).1;rw[hlen]at hkl
    have hzl:z.length=1:=by
     have hz:=Z6 hk;rcases Gh.1 hz with hz|hz
     ·rcases Gh.1 hz with hz|hz
      ·exact hxes z (Zm hz)
      ·exact hyes z (Zm hz)
     ·exact hxes z (List.mem_of_mem_drop hz)
    have hj0:j=0:=by have:=(Z3.1 hj).1;omega
    subst hj0;simp only[Nat.mul_one,Nat.add_zero];rw[hov,htl]
    by_cases hin:off≤k∧k<off+m
    ·rw[if_pos ⟨by omega,by omega⟩]
     have hk2:ys[k - off]? =some z:=by
      rw[Lc,E0 (by simp;omega),Fi (by simp;omega)]at hk
      rw[List.length_take,Nat.min_eq_left (by omega),Tf,if_pos (by omega)]at hk
      exact hk
     obtain⟨uu,k1,k2⟩:=hnv (k - off) z vv hk2 hj;refine⟨uu,?_,k2.any _⟩;rw[Tf,if_pos (by omega),show o'+k - (o'+off)=k - off by omega]
     exact k1
    ·rw[if_neg (by omega)]
     have hk2:xs[k]? =some z:=by
      rcases E4 k off with hlt|hge
      ·rw[Lc,Fi (by simp;omega),Tf,if_pos hlt]at hk
       exact hk
      ·rw[E0 (by simp;omega)]at hk
       simp only[Jh,List.length_take]at hk;rw[Xh]at hk;rw[←hk]
       congr 1
       omega
     obtain⟨c,k1,k2⟩:=r6 k 0 z vv hk2 hj;exact⟨c,by simpa using k1,k2⟩)
   refine .inl ⟨goInt m,_,hexec _ _ ?_,by rw[Tn];exact hdf,by rw[Q7];exact hsz,σ,β,hfinal _ _ _ hw⟩
   rw[hrun];simp only[Nat.mul_one];simp only[Sem.run_bind,hst,Result.andThen_ok,Sem.run_pure];rfl
end
end Go.Eng
namespace Go.Eng
inductive SV (D:Nat->Type) where
 |int (k:IntKind) (n:Int) (g:Nat)
 |bool (b:Bool)
 |str (s:ByteArray)
 |row (t:Nat) (l:List (D t))
 |rowT (t:Nat) (d:Bool) (l:List (D t))
 |own (id ver n:Nat)
 |part (id ver:Nat) (lo hi:Int)
 |ptr (id ver j:Nat)
 |ptrE (id ver g:Nat) (i:Int) (j:Nat)
 |ptrA (id ver:Nat) (i:Int)
 |ptrR (t:Nat) (l:List (D t)) (i:Int) (j:Nat)
 |ptrB (t:Nat) (x:D t) (j:Nat)
 |fn (f:FuncId) (caps:List (Nat×Nat)) (rs:List (Σ t,D t))
 |nilp
 |skip
 |undef
inductive SA (D:Nat->Type) where
 |c (v:SV D)
 |g (cs:List (SV D))
 |t (xs:List (Bool×List (SV D)))
inductive SB (D:Nat->Type) where
 |rows (ver t:Nat) (d cl:Bool) (l:List (D t))
 |box (ver:Nat) (cs:List (SV D))
 |arr (ver n t:Nat) (l:List (D t))
 |opn (ver t:Nat) (d dirty:Bool) (l:List (D t)) (g:Nat) (i:Int) (cs:List (SV D))
structure Un where
 D:Nat->Type
 inh: ∀t,Inhabited (D t)
 sz:Nat->Nat
 flat:Nat->Bool
 ag:Nat->Bool
 en:(t:Nat)->D t->List V
 eF:(t:Nat)->D t->List V
 cs:(t:Nat)->D t->List (SV D)
 cO:(t:Nat)->Bool->D t->List (SV D)
 fS:(t:Nat)->List (SV D)->Option (D t)
 fO:(t:Nat)->Bool->List (SV D)->Option (D t)
 far:Nat->Nat->Bool
structure SS (D:Nat->Type) where
 env:List (Nat×SA D)
 H:List (Nat×Option (SB D))
 nv:List (Nat×Nat)
 ctr:Nat
structure Aj (D:Nat->Type) where
 v:SA D
 upd:List (Nat×Option (SB D)):=[]
 bump:List Nat:=[]
 use:List Tmp:=[]
 ids:List Nat:=[]
def lk{α:Type}:List (Nat×α)->Nat->Option α
 |[],_=>none
 |(k,v)::r,n=>match Nat.beq k n with
  |true=>some v
  |false=>lk r n
section
variable {D:Nat->Type}
def SS.get (S:SS D)(t:Nat):SA D:=match lk S.env t with|some v=>v|none=> .c .undef
def SS.blk (S:SS D)(id:Nat):Option (SB D):=match lk S.H id with|some b=>b|none=>none
def SS.ver (S:SS D)(id:Nat):Nat:=match lk S.nv id with|some n=>n|none=>1
def Ju (nv:List (Nat×Nat))(id:Nat):Nat:=match lk nv id with|some n=>n|none=>1
def Nb (nv:List (Nat×Nat)):List Nat->List (Nat×Nat)
 |[]=>nv
 |i::r=>Nb ((i,Ju nv i+1)::nv) r
def SS.bumps (S:SS D)(l:List Nat):List (Nat×Nat):=Nb S.nv l
def Aiq (e:List (Nat×SA D))(d:Option Tmp)(v:SA D):List (Nat×SA D):=match d with|some d=>(d,v)::e|none=>e
def SS.app (S:SS D)(dst:Option Tmp)(r:Aj D):SS D:=⟨Aiq S.env dst r.v,r.upd.reverse++S.H,S.bumps r.bump,S.ctr⟩
def Gs:Int->Nat
 | .ofNat n=>2*n+2
 | .negSucc _=>0
def Bj (T:Tab)(t:Nat):Value->SV D
 | .bool b=> .bool b
 | .int k n=> .int k n (Gs n)
 | .string s=> .str s
 | .pointer none=> .nilp
 | .slice none 0 0=>match tg T t with
  |some ti=>match ti.k with
   | .slice e=> .rowT e true []
   |_=> .undef
  |none=> .undef
 |_=> .undef
def Rb (T:Tab):List Nat->List Value->List (SV D)
 |t::ts,v::vs=>Bj T t v::Rb T ts vs
 |_,_=>[]
def Tj (T:Tab)(t:Nat):Value->SA D
 | .agg cs=>match A3 T 50 t with
  |some ls=>match Nat.beq ls.length cs.toList.length with
   |true=> .g (Rb T ls cs.toList)
   |false=> .c .undef
  |none=> .c .undef
 |v=> .c (Bj T t v)
def SS.val (T:Tab)(S:SS D)(t:Nat):Operand->SA D
 | .tmp x=>S.get x
 | .const v=>Tj T t v
 | .func f=> .c (.fn f [] [])
 | .global _=> .c .undef
def SA.cells:SA D->List (SV D)
 | .c v=>[v]
 | .g cs=>cs
 | .t _=>[]
def Aaw (agg:Bool)(cs:List (SV D)):Option (SA D):=
 match agg with
 |true=>some (.g cs)
 |false=>match cs with|[v]=>some (.c v)|_=>none
def Ez:SV D->Bool
 | .int _ _ g=>Nat.beq g 0
 |_=>true
def isT:SV D->Bool
 | .rowT .. =>true
 |_=>false
def SV.solid:SV D->Bool
 | .undef| .skip=>false
 | .ptrE .. | .ptrA .. | .ptrR .. | .ptrB .. | .fn .. | .part .. =>false
 |_=>true
def Q6 (l:List (SV D)):Bool:=l.all SV.solid
def slc{α:Type}(l:List α)(j n:Nat):List α:=(l.drop j).take n
def Hn{α:Type}(x:List α)(j:Nat)(cs:List α):List α:=x.take j++cs++x.drop (j+cs.length)
def Ef (l:List (SV D)):Bool:=l.all fun v=> !isT v
def szT (T:Tab)(t:Nat):Option (Nat×Bool):=match tg T t with|some ti=>some (ti.size,ti.k.agg)|none=>none
def Alt (op:BinOp)(k:IntKind)(a b:Int):Option (SV D):=
 match op with
 | .add=>some (.int k (An7 k a b) 0)
 | .sub=>some (.int k (An8 k a b) 0)
 | .mul=>some (.int k (An9 k a b) 0)
 | .and=>some (.int k (Aoa k a b) 0)
 | .or=>some (.int k (iOr k a b) 0)
 | .xor=>some (.int k (Aob k a b) 0)
 | .eql=>some (.bool (a==b))
 | .neq=>some (.bool (a != b))
 | .lss=>some (.bool (decide (a<b)))
 | .leq=>some (.bool (decide (a≤b)))
 | .gtr=>some (.bool (decide (a>b)))
 | .geq=>some (.bool (decide (a≥b)))
 |_=>none
end
section
variable (U:Un)
def Un.eT (d:Bool)(t:Nat):U.D t->List V:=match d with|true=>U.eF t|false=>U.en t
def SV.toV:SV U.D->V
 | .int k n _=> .int k n
 | .bool b=> .bool b
 | .str s=> .str s
 | .row t l=> .row false (U.sz t) (l.map (U.en t))
 | .rowT t d l=> .row true (U.sz t) (l.map (U.eT d t))
 | .own id ver n=> .own id ver 0 n
 | .part id ver lo hi=> .own id ver lo.toNat (hi - lo).toNat
 | .ptr id ver j=> .ptr id ver 0 j
 | .ptrE id ver _ i j=> .ptr id ver i.toNat j
 | .ptrA id ver i=> .ptr id ver 0 i.toNat
 | .ptrR t l i j=> .ip (U.sz t) (l.map (U.en t)) i.toNat j
 | .ptrB t x j=> .ip (U.sz t) [U.en t x] 0 j
 | .fn f caps rs=> .fn f ((caps.map fun c=> .ptr c.1 c.2 0 0)++rs.map fun q=> .ip (U.sz q.1) [U.en q.1 q.2] 0 0)
 | .nilp=> .nilp
 | .skip=> .skip
 | .undef=> .undef
def SA.toA:SA U.D->A
 | .c v=> .c (v.toV U)
 | .g cs=> .g (cs.map (SV.toV U))
 | .t xs=> .t (xs.map fun x=>match x.1 with|true=> .g (x.2.map (SV.toV U))|false=> .c ((x.2.map (SV.toV U)).headD .undef))
def SB.toB:SB U.D->Blk
 | .rows ver t d _ l=>⟨ver,U.sz t,l.map (U.eT d t)⟩
 | .box ver cs=>⟨ver,cs.length,[cs.map (SV.toV U)]⟩
 | .arr ver n t l=>⟨ver,n,[(l.map (U.en t)).flatten]⟩
 | .opn ver t d _ l _ i cs=>⟨ver,U.sz t,(l.map (U.eT d t)).set i.toNat (cs.map (SV.toV U))⟩
def SS.toSt (S:SS U.D):St:=⟨fun t=>(S.get t).toA U,fun i=>(S.blk i).map (SB.toB U),fun i=>S.ver i⟩
def Aj.toRec (r:Aj U.D):Rec:={v:=r.v.toA U,upd:=r.upd.map fun p=>(p.1,p.2.map (SB.toB U)),bump:=r.bump,use:=r.use,ids:=r.ids}
end
end Go.Eng
namespace Go.Eng
section
variable (U:Un) (T:Tab) {α:Type}
def F7 (x:Operand)(u:SA U.D):Bool:=match x with
 | .const _=>Q6 u.cells
 |_=>true
def Wg (S:SS U.D)(ty:Nat)(x:Operand)(k:Aj U.D->Option α):Option α:=match F7 U x (S.val T ty x)with
 |true=>k {v:=S.val T ty x,use:=Q2 [x]}
 |false=>none
def Aax (S:SS U.D)(ty:Nat)(c x y:Operand)(k:Aj U.D->Option α):Option α:=
 match S.val T 0 c with
 | .c (.bool b)=>match F7 U (bif b then x else y) (S.val T ty (bif b then x else y))with
  |true=>k {v:=S.val T ty (bif b then x else y),use:=Q2 [c,x,y]}
  |false=>none
 |_=>none
def Ahb (op:BinOp)(k1 k2:IntKind)(a b:Int)(k:SV U.D->Option α):Option α:=
 match op with
 | .shl=>if(0:Int)≤b then k (.int k1 (Aln k1 a b) 0)else none
 | .shr=>if(0:Int)≤b then k (.int k1 (Alo k1 a b) 0)else none
 | .quo=>match decide (k1=k2)with
  |true=>if b≠(0:Int)then k (.int k1 (Alp k1 a b) 0)else none
  |false=>none
 | .rem=>match decide (k1=k2)with
  |true=>if b≠(0:Int)then k (.int k1 (Int.tmod a b) 0)else none
  |false=>none
 |_=>none
def Aay:BinOp->Option Bool
 | .eql=>some true
 | .neq=>some false
 |_=>none
def Ais (S:SS U.D)(op:BinOp)(t:Nat)(x y:Operand)(ty:Nat)(k:Aj U.D->Option α):Option α:=
 match S.val T t x,S.val T ty y with
 | .c (.int k1 a _),.c (.int k2 b _)=>match (Alt op k1 a b:Option (SV U.D))with
  |some v=>match decide (k1=k2)with
   |true=>k {v:= .c v,use:=Q2 [x,y]}
   |false=>none
  |none=>Ahb U op k1 k2 a b fun v=>k {v:= .c v,use:=Q2 [x,y]}
 | .c (.str a),.c (.str b)=>match Aay op with
  |some true=>k {v:= .c (.bool (a.toList==b.toList)),use:=Q2 [x,y]}
  |some false=>k {v:= .c (.bool (!(a.toList==b.toList))),use:=Q2 [x,y]}
  |none=>none
 | .c (.bool a),.c (.bool b)=>match tg T t with
  |some ti=>match ti.k with
   | .bool=>match Aay op with
    |some true=>k {v:= .c (.bool (a==b)),use:=Q2 [x,y]}
    |some false=>k {v:= .c (.bool (!(a==b))),use:=Q2 [x,y]}
    |none=>none
   |_=>none
  |none=>none
 |_,_=>none
def Aaz (ok:Nat->Bool)(S:SS U.D)(op:BinOp)(t:Nat)(x y:Operand)(ty:Nat)(k:Aj U.D->Option α):Option α:=
 match S.val T t x,S.val T ty y with
 | .g us,.g vs=>match tg T t,eqV T 20 t (us.map (SV.toV U)) (vs.map (SV.toV U)),Aay op with
  |some ti,some b,some e=>match ti.k.agg&&ok t&&Nat.beq us.length ti.size&&Nat.beq vs.length ti.size&&(F7 U x (.g us)&&Ef us)&&(F7 U y (.g vs)&&Ef vs)with
   |true=>k {v:= .c (.bool (match e with|true=>b|false=> !b)),use:=Q2 [x,y]}
   |false=>none
  |_,_,_=>none
 |_,_=>none
def sUn (S:SS U.D)(op:UnOp)(t:Nat)(x:Operand)(k:Aj U.D->Option α):Option α:=
 match op,S.val T t x with
 | .not,.c (.bool b)=>k {v:= .c (.bool (!b)),use:=Q2 [x]}
 | .neg,.c (.int k1 n _)=>k {v:= .c (.int k1 (Alq k1 n) 0),use:=Q2 [x]}
 |_,_=>none
def Aa0 (S:SS U.D)(s t:Nat)(x:Operand)(k:Aj U.D->Option α):Option α:=
 match S.val T s x,tg T s,tg T t with
 | .c (.int k1 n _),some i,some j=>match i.k,j.k with
  | .int k2,.int k3=>match decide (k1=k2)with
   |true=>k {v:= .c (.int k3 (k3.wrap n) 0),use:=Q2 [x]}
   |false=>none
  |_,_=>none
 |_,_,_=>none
def Ue (S:SS U.D)(s:Nat)(x:Operand)(f:Nat)(k:Aj U.D->Option α):Option α:=
 match Tr T s f,S.val T 0 x with
 |some off,.c (.ptr id ver j)=>k {v:= .c (.ptr id ver (j+off)),use:=Q2 [x]}
 |some off,.c (.ptrE id ver g i j)=>k {v:= .c (.ptrE id ver g i (j+off)),use:=Q2 [x]}
 |some off,.c (.ptrR t l i j)=>k {v:= .c (.ptrR t l i (j+off)),use:=Q2 [x]}
 |some off,.c (.ptrB t y j)=>k {v:= .c (.ptrB t y (j+off)),use:=Q2 [x]}
 |_,_=>none
def Aa1 (S:SS U.D)(x:Operand)(k:Aj U.D->Option α):Option α:=
 match S.val T 0 x with
 | .c (.ptr id ver j)=>k {v:= .c (.ptr id ver j),use:=Q2 [x]}
 | .c (.ptrE id ver g i j)=>k {v:= .c (.ptrE id ver g i j),use:=Q2 [x]}
 | .c (.ptrB t y j)=>k {v:= .c (.ptrB t y j),use:=Q2 [x]}
 |_=>none
def SB.list{D:Nat->Type}:SB D->Option (Nat×Nat×Σ t,List (D t))
 | .rows ver t _ _ l=>some (ver,t,⟨t,l⟩)
 | .opn ver t _ _ l _ _ _=>some (ver,t,⟨t,l⟩)
 |_=>none
def Nc (S:SS U.D)(t:Nat)(x ix:Operand)(k:Aj U.D->Option α):Option α:=
 match S.val T t x,S.val T 0 ix with
 | .c (.row e l),.c (.int _ i _)=>match C3 T t with
  |some es=>match Nat.beq es (U.sz e)with
   |true=>if(0:Int)≤i∧i<(l.length:Int)then k {v:= .c (.ptrR e l i 0),use:=Q2 [x,ix]}else none
   |false=>none
  |none=>none
 | .c (.own id ver n),.c (.int _ i g)=>match S.blk id,C3 T t with
  |some B,some es=>match B.list with
   |some (ver',e,⟨_,l⟩)=>match Nat.beq ver' ver&&Nat.beq es (U.sz e)with
    |true=>if(0:Int)≤i∧i<(l.length:Int)then k {v:= .c (.ptrE id ver g i 0),use:=Q2 [x,ix],ids:=[id]}else none
    |false=>none
   |none=>none
  |_,_=>none
 | .c (.ptr id ver 0),.c (.int _ i _)=>match tg T t with
  |some ti=>match ti.k with
   | .array n e=>match tg T e with
    |some te=>match Nat.beq te.size 1 with
     |true=>if(0:Int)≤i∧i<(n:Int)then k {v:= .c (.ptrA id ver i),use:=Q2 [x,ix]}else none
     |false=>none
    |none=>none
   |_=>none
  |none=>none
 |_,_=>none
def Un.cells (d:Bool)(t:Nat)(x:U.D t):List (SV U.D):=match d with|true=>U.cO t true x|false=>U.cs t x
def Un.gt{t:Nat}(l:List (U.D t))(i:Int):U.D t:= @Go.Eng.gt (U.D t) (U.inh t) l i
def Q65 (S:SS U.D)(use:List Tmp)(ids:List Nat)(agg:Bool)(sz j:Nat)(cs:List (SV U.D))(k:Aj U.D->Option α):Option α:=
 match Nat.ble (j+sz) cs.length&&Ef (slc cs j sz),Aaw agg (slc cs j sz)with
 |true,some v=>k {v,use,ids}
 |_,_=>none
def Aa2 (S:SS U.D)(t:Nat)(x:Operand)(k:Aj U.D->Option α):Option α:=
 match S.val T 0 x,szT T t with
 | .c (.ptr id ver j),some (sz,agg)=>match S.blk id with
  |some (.box ver' cs)=>match Nat.beq ver' ver with
   |true=>Q65 U S (Q2 [x]) [id] agg sz j cs k
   |false=>none
  |_=>none
 | .c (.ptrE id ver g i j),some (sz,agg)=>match S.blk id with
  |some (.rows ver' e d _ l)=>match Nat.beq ver' ver with
   |true=>Q65 U S (Q2 [x]) [id] agg sz j (U.cells d e (U.gt l i)) k
   |false=>none
  |some (.opn ver' e d _ l g' i' cs)=>match Nat.beq ver' ver&&Nat.beq g g'&&Nat.blt 0 g with
   |true=>Q65 U S (Q2 [x]) [id] agg sz j cs k
   |false=>none
  |_=>none
 | .c (.ptrA id ver i),some (1,false)=>match S.blk id with
  |some (.arr ver' n e l)=>match Nat.beq ver' ver&&Nat.beq (U.sz e) 1 with
   |true=>if(0:Int)≤i∧i<(l.length:Int)then Q65 U S (Q2 [x]) [id] false 1 0 (U.cs e (U.gt l i)) k else none
   |false=>none
  |_=>none
 | .c (.ptrR e l i j),some (sz,agg)=>Q65 U S (Q2 [x]) [] agg sz j (U.cs e (U.gt l i)) k
 | .c (.ptrB e y j),some (sz,agg)=>Q65 U S (Q2 [x]) [] agg sz j (U.cs e y) k
 |_,_=>none
def SV.shut{D:Nat->Type}:SV D->Bool
 | .int .. | .bool .. | .str .. | .row .. | .rowT .. | .nilp=>true
 |_=>false
def Un.fold (d:Bool)(t:Nat)(cs:List (SV U.D)):Option (U.D t):=match d with|true=>U.fO t true cs|false=>U.fS t cs
def Aa3 (id ver e:Nat)(d:Bool)(l:List (U.D e))(g:Nat)(i:Int)(cs:List (SV U.D))(use:List Tmp)(k:Aj U.D->Option α):Option α:=
 match cs.all SV.shut with
 |true=>match U.fold d e cs with
  |some a=>k {v:= .c .undef,upd:=[(id,some (.rows ver e d false (l.set i.toNat a)))],use,ids:=[id]}
  |none=>none
 |false=>k {v:= .c .undef,upd:=[(id,some (.opn ver e d true l g i cs))],use,ids:=[id]}
def Uf (S:SS U.D)(dst:Option Tmp)(t:Nat)(x y:Operand)(k:Aj U.D->Option α):Option α:=
 match dst,szT T t,S.val T t y with
 |none,some (sz,agg),u=>match Q6 u.cells&&Nat.beq u.cells.length sz&&Nat.blt 0 sz,S.val T 0 x with
  |true,.c (.ptr id ver j)=>match S.blk id with
   |some (.box ver' cs)=>match Nat.beq ver' ver&&Nat.ble (j+sz) cs.length with
    |true=>k {v:= .c .undef,upd:=[(id,some (.box ver' (Hn cs j u.cells)))],use:=Q2 [x,y],ids:=[id]}
    |false=>none
   |_=>none
  |true,.c (.ptrE id ver g i j)=>match S.blk id with
   |some (.rows ver' e d _ l)=>match Nat.beq ver' ver&&Nat.ble (j+sz) (U.cells d e (U.gt l i)).length with
    |true=>Aa3 U id ver e d l g i (Hn (U.cells d e (U.gt l i)) j u.cells) (Q2 [x,y]) k
    |false=>none
   |some (.opn ver' e d _ l g' i' cs)=>match Nat.beq ver' ver&&Nat.beq g g'&&Nat.blt 0 g&&Nat.ble (j+sz) cs.length with
    |true=>k {v:= .c .undef,upd:=[(id,some (.opn ver e d true l g i' (Hn cs j u.cells)))],use:=Q2 [x,y],ids:=[id]}
    |false=>none
   |_=>none
  |true,.c (.ptrA id ver i)=>match S.blk id,u with
   |some (.arr ver' n e l),.c w=>match Nat.beq ver' ver&&Nat.beq sz 1&&Nat.beq (U.sz e) 1,U.fS e [w]with
    |true,some a=>if(0:Int)≤i∧i<(l.length:Int)then k {v:= .c .undef,upd:=[(id,some (.arr ver n e (l.set i.toNat a)))],use:=Q2 [x,y],ids:=[id]}else none
    |_,_=>none
   |_,_=>none
  |_,_=>none
 |_,_,_=>none
def Mg (t:Nat):V->SV U.D
 | .int k n=> .int k n (Gs n)
 | .bool b=> .bool b
 | .str s=> .str s
 | .nilp=> .nilp
 | .row true es []=>match tg T t with
  |some ti=>match ti.k with
   | .slice e=>match Nat.beq es (U.sz e)with
    |true=> .rowT e true []
    |false=> .undef
   |_=> .undef
  |none=> .undef
 |_=> .undef
def Hh:List Nat->List V->List (SV U.D)
 |t::ts,v::vs=>Mg U T t v::Hh ts vs
 |_,_=>[]
def Rc (t:Nat)(ti:TI):Option (List (SV U.D)):=
 match A3 T 50 t with
 |some ls=>match Nat.beq ls.length ti.zero.length&&(Hh U T ls ti.zero).all SV.shut with
  |true=>some (Hh U T ls ti.zero)
  |false=>none
 |none=>none
def Rd (e:Nat):List (SV U.D)->Option (List (U.D e))
 |[]=>some []
 |c::r=>match U.fS e [c],Rd e r with
  |some a,some l=>some (a::l)
  |_,_=>none
def Bz (d:Nat):Nat:=100+d
def Ug (S:SS U.D)(dst:Option Tmp)(t:Nat)(k:Aj U.D->Option α):Option α:=
 match dst,tg T t with
 |some d,some ti=>match Rc U T t ti with
  |some z=>match ti.k with
   | .array n e=>match Nat.beq (U.sz e) 1,Rd U e z with
    |true,some l=>k {v:= .c (.ptr (Bz d) (S.ver (Bz d)) 0),upd:=[(Bz d,some (.arr (S.ver (Bz d)) z.length e l))],bump:=[Bz d],use:=[],ids:=[Bz d]}
    |_,_=>none
   |_=>k {v:= .c (.ptr (Bz d) (S.ver (Bz d)) 0),upd:=[(Bz d,some (.box (S.ver (Bz d)) z))],bump:=[Bz d],use:=[],ids:=[Bz d]}
  |none=>none
 |_,_=>none
def Ait (S:SS U.D)(dst:Option Tmp)(t:Nat)(x:Operand)(k:Aj U.D->Option α):Option α:=
 match dst,S.val T t x with
 |some d,u=>match Q6 u.cells&&Nat.blt 0 u.cells.length with
  |true=>k {v:= .c (.ptr (Bz d) (S.ver (Bz d)) 0),upd:=[(Bz d,some (.box (S.ver (Bz d)) u.cells))],bump:=[Bz d],use:=Q2 [x],ids:=[Bz d]}
  |false=>none
 |_,_=>none
def Aiu (S:SS U.D)(x:Operand)(n:Nat)(k:Aj U.D->Option α):Option α:=
 match S.val T 0 x with
 | .t xs=>match xs[n]? with
  |some (true,cs)=>k {v:= .g cs,use:=Q2 [x]}
  |some (false,[v])=>k {v:= .c v,use:=Q2 [x]}
  |_=>none
 |_=>none
def Re (pl:Nat->Option (Nat×Nat))(cs:List (SV U.D)):List (Nat×List (SV U.D))->Option (List (SV U.D))
 |[]=>some cs
 |(i,x)::r=>match pl i with
  |none=>none
  |some (off,n)=>match Nat.beq x.length n&&Nat.ble (off+n) cs.length&&Q6 x&&Nat.blt 0 n with
   |true=>Re pl (Hn cs off x) r
   |false=>none
def Nd (S:SS U.D)(ft:Nat->Nat)(parts:List (Nat×Operand)):List (Nat×List (SV U.D)):=parts.map fun p=>(p.1,(S.val T (ft p.1) p.2).cells)
def Jv (gs:List (Nat×Nat))(i:Nat):Nat:=match gs[i]? with|some g=>g.2|none=>0
def Uh (S:SS U.D)(t:Nat)(parts:Array (Nat×Operand))(k:Aj U.D->Option α):Option α:=
 match tg T t with
 |some ti=>match Rc U T t ti,ti.k with
  |some z,.struct gs=>match M2 T t with
   |some pl=>match Re U (pl[·]?) z (Nd U T S (Jv gs) parts.toList)with
    |some out=>k {v:= .g out,use:=Q2 (parts.toList.map (·.2))}
    |none=>none
   |none=>none
  |some z,.array n e=>match tg T e with
   |some te=>match Re U (fun i=>some (i*te.size,te.size)) z (Nd U T S (fun _=>e) parts.toList)with
    |some out=>k {v:= .g out,use:=Q2 (parts.toList.map (·.2))}
    |none=>none
   |none=>none
  |_,_=>none
 |none=>none
def Nf (S:SS U.D)(t:Nat)(x ix:Operand)(k:Aj U.D->Option α):Option α:=
 match S.val T t x,S.val T 0 ix,tg T t with
 | .g cs,.c (.int _ j _),some ti=>match ti.k with
  | .array n e=>match tg T e,Rd U e cs with
   |some te,some l=>match Nat.beq te.size 1&&Nat.beq cs.length n&& !te.k.agg&&F7 U x (.g cs)&&Ef cs&&Nat.beq (U.sz e) 1 with
    |true=>if(0:Int)≤j∧j<(n:Int)then Q65 U S (Q2 [x,ix]) [] false 1 0 (U.cs e (U.gt l j)) k else none
    |false=>none
   |_,_=>none
  |_=>none
 |_,_,_=>none
def Bn (d:Nat):List Oper->Nat
 |[]=>3000+d
 |o::r=>match o.op,o.dst with
  | .assign (.tmp d'),some t=>match Nat.beq d d' with
   |true=>1000+t
   |false=>Bn d r
  |_,_=>Bn d r
def Ng (e:Nat):List (List (SV U.D))->Option (List (U.D e))
 |[]=>some []
 |c::r=>match U.fS e c,Ng e r with
  |some a,some l=>some (a::l)
  |_,_=>none
def Rf (x:Operand)(u:SA U.D):Bool:=match x with
 | .const _=>Ef u.cells
 |_=>true
def Aa4 (n:Nat):List (Nat×Operand)->Bool
 |[]=>true
 |p::r=>Nat.beq p.1 n&&Aa4 (n+1) r
def Dy:SV U.D->SV U.D
 | .rowT t _ []=> .row t []
 |v=>v
def Nh (S:SS U.D)(dst:Option Tmp)(rest:List Oper)(t n:Nat)(parts:Array (Nat×Operand))(k:Aj U.D->Option α):Option α:=
 match dst,tg T t with
 |some d,some ti=>match ti.k with
  | .slice e=>match tg T e with
   |some te=>match Aa4 0 parts.toList&&Nat.beq parts.toList.length n&&Nat.ble (n*te.size) 16777216&&Nat.beq te.size (U.sz e)&&Nat.beq te.zero.length te.size&&Nat.blt 0 te.size&&
      parts.toList.all (fun p=>Q6 (S.val T e p.2).cells&&Nat.beq (S.val T e p.2).cells.length te.size&&Rf U p.2 (S.val T e p.2))with
    |true=>match (parts.toList.map fun p=>(S.val T e p.2).cells.map (Dy U)).all (fun c=>c.all SV.shut)with
     |true=>match Ng U e (parts.toList.map fun p=>(S.val T e p.2).cells.map (Dy U))with
      |some l=>k {v:= .c (.own (Bn d rest) (S.ver (Bn d rest)) l.length),upd:=[(Bn d rest,some (.rows (S.ver (Bn d rest)) e (U.flat e||l.isEmpty) false l))],bump:=[Bn d rest],use:=Q2 (parts.toList.map (·.2)),ids:=[Bn d rest]}
      |none=>none
     |false=>match parts.toList with
      |[p]=>k {v:= .c (.own (Bn d rest) (S.ver (Bn d rest)) 1),upd:=[(Bn d rest,some (.opn (S.ver (Bn d rest)) e true true [@default _ (U.inh e)] 2 0 ((S.val T e p.2).cells.map (Dy U))))],bump:=[Bn d rest],use:=Q2 (parts.toList.map (·.2)),ids:=[Bn d rest]}
      |_=>none
    |false=>none
   |none=>none
  |_=>none
 |_,_=>none
def Ui (S:SS U.D)(dst:Option Tmp)(rest:List Oper)(t:Nat)(x y:Operand)(k:Aj U.D->Option α):Option α:=
 match dst,tg T t,S.val T 0 x,S.val T 0 y with
 |some d,some ti,.c (.int _ l _),.c (.int _ c _)=>match ti.k with
  | .slice e=>match tg T e with
   |some te=>match Rc U T e te with
    |some z=>match (match Nat.beq te.zero.length te.size&&Nat.blt 0 te.size&&Nat.beq te.size (U.sz e)with|true=>U.fO e true z|false=>none)with
     |some a=>if(0:Int)≤l∧l≤c∧(te.bytes:Int)*c≤281474976710656∧c≤9223372036854775807 then
       k {v:= .c (.own (Bn d rest) (S.ver (Bn d rest)) (List.replicate l.toNat a).length),upd:=[(Bn d rest,some (.rows (S.ver (Bn d rest)) e true false (List.replicate l.toNat a)))],bump:=[Bn d rest],use:=Q2 [x,y],ids:=[Bn d rest]}else none
     |none=>none
    |none=>none
   |none=>none
  |_=>none
 |_,_,_,_=>none
def X6 (S:SS U.D)(d:Int):Option Operand->Option Int
 |none=>some d
 |some x=>match S.val T 0 x with| .c (.int _ n _)=>some n|_=>none
def Uj (S:SS U.D)(t:Nat)(x:Operand)(lo hi:Option Operand)(k:Aj U.D->Option α):Option α:=
 match S.val T t x with
 | .c (.row e l)=>match C3 T t,X6 U T S 0 lo,X6 U T S (l.length:Int) hi with
  |some es,some a,some b=>match Nat.beq es (U.sz e)with
   |true=>if(0:Int)≤a∧a≤b∧b≤(l.length:Int)then k {v:= .c (.row e ((l.drop a.toNat).take (b - a).toNat)),use:=Q2 ([x]++lo.toList++hi.toList)}else none
   |false=>none
  |_,_,_=>none
 | .c (.own id ver n)=>match S.blk id,C3 T t with
  |some B,some es=>match B.list with
   |some (ver',e,⟨_,l⟩)=>match Nat.beq ver' ver&&Nat.beq es (U.sz e),X6 U T S 0 lo,X6 U T S (l.length:Int) hi with
    |true,some a,some b=>if(0:Int)≤a∧a≤b∧b≤(l.length:Int)then k {v:= .c (.part id ver a b),use:=Q2 ([x]++lo.toList++hi.toList),ids:=[id]}else none
    |_,_,_=>none
   |none=>none
  |_,_=>none
 |_=>none
def E7 (S:SS U.D):SV U.D->Option (List Nat×Bool×Σ t,List (U.D t))
 | .row t l=>some ([],false,⟨t,l⟩)
 | .rowT t d []=>some ([],d,⟨t,[]⟩)
 | .own id ver n=>match S.blk id with
  |some (.rows ver' t d _ l)=>match Nat.beq ver' ver with
   |true=>some ([id],d,⟨t,l⟩)
   |false=>none
  |_=>none
 | .part id ver lo hi=>match S.blk id with
  |some (.rows ver' t d _ l)=>match Nat.beq ver' ver with
   |true=>some ([id],d,⟨t,(l.drop lo.toNat).take (hi - lo).toNat⟩)
   |false=>none
  |_=>none
 |_=>none
def Afe (t:Nat):Bool:=match tg T t with|some ti=>(match ti.k with| .slice _=>true|_=>false)|none=>false
def Aa5 (t:Nat):Bool:=match tg T t with|some ti=>(match ti.k with| .str=>true|_=>false)|none=>false
def Aiv (S:SS U.D)(t:Nat)(x:Operand)(k:Aj U.D->Option α):Option α:=
 match S.val T t x with
 | .c (.row e l)=>match Afe T t with
  |true=>k {v:= .c (.int .i64 (l.length:Int) 0),use:=Q2 [x]}
  |false=>none
 | .c (.own id ver n)=>match S.blk id,Afe T t with
  |some B,true=>match B.list with
   |some (ver',e,⟨_,l⟩)=>match Nat.beq ver' ver with
    |true=>k {v:= .c (.int .i64 (l.length:Int) 0),use:=Q2 [x]}
    |false=>none
   |none=>none
  |_,_=>none
 | .c (.str s)=>match Aa5 T t with
  |true=>k {v:= .c (.int .i64 (s.size:Int) 0),use:=Q2 [x]}
  |false=>none
 |_=>none
def H6 (S:SS U.D)(mx:Bool)(x y:Operand)(k:Aj U.D->Option α):Option α:=
 match S.val T 0 x,S.val T 0 y with
 | .c (.int k1 a _),.c (.int k2 b _)=>match decide (k1=k2)with
  |true=>k {v:= .c (.int k1 (match mx with|true=>Aar a b|false=>Aaq a b) 0),use:=Q2 [x,y]}
  |false=>none
 |_,_=>none
def Rh (S:SS U.D)(d:Nat)(rest:List Oper)(e:Nat)(te:TI)(id:Nat)(ok:Bool)(w:SV U.D)(l l2:List (U.D e))(use:List Tmp)(k:Aj U.D->Option α):Option α:=
 match ok,w with
 |true,.own idw _ _=>match Nat.beq id idw with
  |false=>if(l++l2).length*te.bytes≤140737488355328∧(l++l2).length≤maxLen then
    k {v:= .c (.own (Bn d rest) (S.ver (Bn d rest)) (l++l2).length),upd:=[(idw,none),(id,none),(Bn d rest,some (.rows (S.ver (Bn d rest)) e true false (l++l2)))],bump:=[Bn d rest],use,ids:=[Bn d rest,id,idw]}else none
  |true=>none
 |_,_=>none
def Ni (S:SS U.D)(d:Nat)(rest:List Oper)(e:Nat)(te:TI)(id idw:Nat)(l:List (U.D e))(cs:List (SV U.D))(use:List Tmp)(k:Aj U.D->Option α):Option α:=
 if(l.length+1)*te.bytes≤140737488355328∧l.length+1≤maxLen then
  k {v:= .c (.own (Bn d rest) (S.ver (Bn d rest)) (l.length+1)),upd:=[(idw,none),(id,none),(Bn d rest,some (.opn (S.ver (Bn d rest)) e true true (l++[@default _ (U.inh e)]) 0 (l.length:Int) cs))],bump:=[Bn d rest],use,ids:=[Bn d rest,id,idw]}else none
def Jw:SV U.D->Bool
 | .rowT .. | .undef| .skip=>false
 |_=>true
def Aa6 (S:SS U.D)(d:Nat)(rest:List Oper)(e:Nat)(te:TI)(u w:SV U.D)(use:List Tmp)(k:Aj U.D->Option α):Option α:=
 match w with
 | .own idw vw _=>match S.blk idw with
  |some (.opn vw' ew _ _ [_] _ _ cs)=>match Nat.beq vw' vw&&cs.all (Jw U),decEq ew e with
   |true,.isTrue _=>match u with
    | .own id ver _=>match S.blk id with
     |some (.rows ver' eu du _ l)=>match Nat.beq ver' ver&&du&& !Nat.beq id idw,decEq eu e with
      |true,.isTrue h=>Ni U S d rest e te id idw (h ▸ l) cs use k
      |_,_=>none
     |_=>none
    | .rowT eu _ []=>match decEq eu e with
     | .isTrue _=>Ni U S d rest e te 0 idw [] cs use k
     |_=>none
    |_=>none
   |_,_=>none
  |_=>none
 |_=>none
def Aa7 (S:SS U.D)(d:Nat)(rest:List Oper)(e:Nat)(te:TI)(id idw:Nat)(l2:List (U.D e))(cs:List (SV U.D))(use:List Tmp)(k:Aj U.D->Option α):Option α:=
 match Nat.beq id idw with
 |false=>if(l2.length+1)*te.bytes≤140737488355328∧l2.length+1≤maxLen then
   k {v:= .c (.own (Bn d rest) (S.ver (Bn d rest)) (l2.length+1)),upd:=[(idw,none),(id,none),(Bn d rest,some (.opn (S.ver (Bn d rest)) e true true (@default _ (U.inh e)::l2) 0 0 cs))],bump:=[Bn d rest],use,ids:=[Bn d rest,id,idw]}else none
 |true=>none
def Nj (S:SS U.D)(dst:Option Tmp)(rest:List Oper)(t:Nat)(x y:Operand)(k:Aj U.D->Option α):Option α:=
 match dst,tg T t,S.val T t x,S.val T t y with
 |some d,some ti,.c u,.c w=>match ti.k,E7 U S w with
  | .slice e,some (idw,dw,⟨ew,l2⟩)=>match tg T e,decEq ew e with
   |some te,.isTrue h2=>match Nat.blt 0 te.size&&Nat.beq te.size (U.sz e)&&Nat.beq te.zero.length te.size with
    |true=>match u with
     | .own id ver n=>match S.blk id with
      |some (.rows ver' eu du _ l)=>match Nat.beq ver' ver,decEq eu e with
       |true,.isTrue h1=>match U.flat e||(!du&& !dw)with
        |true=>if((h1 ▸ l)++(h2 ▸ l2:List (U.D e))).length*te.bytes≤140737488355328∧((h1 ▸ l)++(h2 ▸ l2:List (U.D e))).length≤maxLen then
          k {v:= .c (.own (Bn d rest) (S.ver (Bn d rest)) ((h1 ▸ l)++(h2 ▸ l2:List (U.D e))).length),upd:=[(id,none),(Bn d rest,some (.rows (S.ver (Bn d rest)) e (U.flat e) false ((h1 ▸ l)++(h2 ▸ l2:List (U.D e)))))],bump:=[Bn d rest],use:=Q2 [x,y],ids:=Bn d rest::([id]++idw)}else none
        |false=>Rh U S d rest e te id (du&&dw) w (h1 ▸ l) (h2 ▸ l2) (Q2 [x,y]) k
       |_,_=>none
      |some (.opn ver' eu _ _ [_] _ _ cs)=>match Nat.beq ver' ver&&cs.all (Jw U)&&dw,decEq eu e,w with
       |true,.isTrue _,.own idw' _ _=>Aa7 U S d rest e te id idw' (h2 ▸ l2) cs (Q2 [x,y]) k
       |_,_,_=>none
      |_=>none
     | .rowT eu du []=>match U.flat e|| !dw,decEq eu e with
      |true,.isTrue _=>if(h2 ▸ l2:List (U.D e)).length*te.bytes≤140737488355328∧(h2 ▸ l2:List (U.D e)).length≤maxLen then
        k {v:= .c (.own (Bn d rest) (S.ver (Bn d rest)) (h2 ▸ l2:List (U.D e)).length),upd:=[(Bn d rest,some (.rows (S.ver (Bn d rest)) e (U.flat e) false (h2 ▸ l2:List (U.D e))))],bump:=[Bn d rest],use:=Q2 [x,y],ids:=Bn d rest::idw}else none
      |false,.isTrue _=>Rh U S d rest e te 0 dw w [] (h2 ▸ l2) (Q2 [x,y]) k
      |_,_=>none
     |_=>none
    |false=>none
   |_,_=>none
  | .slice e,none=>match tg T e with
   |some te=>match Nat.blt 0 te.size&&Nat.beq te.size (U.sz e)&&Nat.beq te.zero.length te.size with
    |true=>Aa6 U S d rest e te u w (Q2 [x,y]) k
    |false=>none
   |none=>none
  |_,_=>none
 |_,_,_,_=>none
def Aff (S:SS U.D):SV U.D->Option (Nat×Nat×Nat×Nat×Bool×Σ t,List (U.D t))
 | .own id ver _=>match S.blk id with
  |some (.rows ver' t d _ l)=>match Nat.beq ver' ver with
   |true=>some (id,ver,0,l.length,d,⟨t,l⟩)
   |false=>none
  |_=>none
 | .part id ver lo hi=>match S.blk id with
  |some (.rows ver' t d _ l)=>match Nat.beq ver' ver with
   |true=>some (id,ver,lo.toNat,(hi - lo).toNat,d,⟨t,l⟩)
   |false=>none
  |_=>none
 |_=>none
def Aa8 (S:SS U.D)(t:Nat)(x y:Operand)(k:Aj U.D->Option α):Option α:=
 match tg T t,S.val T t x,S.val T t y with
 |some ti,.c u,.c w=>match ti.k,Aff U S u,E7 U S w with
  | .slice e,some (id,ver,off,len,d,⟨e',l⟩),some (idw,dw,⟨ew,l2⟩)=>match tg T e,decEq e' e,decEq ew e with
   |some te,.isTrue h1,.isTrue h2=>match Nat.beq te.size 1&&Nat.beq (U.sz e) 1&&U.flat e&&Rf U y (.c w)with
    |true=>k {v:= .c (.int .i64 ((Nat.min (h2 ▸ l2:List (U.D e)).length len:Nat):Int) 0),upd:=[(id,some (.rows ver e d false ((h1 ▸ l:List (U.D e)).take off++(h2 ▸ l2:List (U.D e)).take (Nat.min (h2 ▸ l2:List (U.D e)).length len)++(h1 ▸ l:List (U.D e)).drop (off+Nat.min (h2 ▸ l2:List (U.D e)).length len))))],use:=Q2 [x,y],ids:=id::idw}
    |false=>none
   |_,_,_=>none
  |_,_,_=>none
 |_,_,_=>none
def Afg:List (SA U.D)->Option (List (Σ t,U.D t))
 |[]=>some []
 | .c (.ptrB t x 0)::r=>match Afg r with
  |some l=>some (⟨t,x⟩::l)
  |none=>none
 |_=>none
def Nk:List (SA U.D)->Option (List (Nat×Nat)×List (Σ t,U.D t))
 | .c (.ptr id ver 0)::r=>match Nk r with
  |some (l,q)=>some ((id,ver)::l,q)
  |none=>none
 |l=>match Afg U l with
  |some q=>some ([],q)
  |none=>none
def Aa9 (S:SS U.D)(fn:Fn)(first caps:Array Operand)(k:Aj U.D->Option α):Option α:=
 match fn,first.toList,Nk U (caps.toList.map (S.val T 0))with
 | .func f,[],some (l,q)=>k {v:= .c (.fn f l q),use:=Q2 caps.toList}
 |_,_,_=>none
end
end Go.Eng
namespace Go.Eng
inductive PM where
 |v (t:Nat)
 |b (t:Nat) (m:Bool)
 |w (t:Nat) (m:Bool) (es:List (Nat×Bool))
 |r (t:Nat)
 |f (fid:FuncId) (caps:List Nat) (ts:List Nat)
inductive RM where
 |v (t:Nat)
 |n (t:Nat) (m:Bool)
 |p (t:Nat) (m:Bool)
inductive TC where
 |d (t:Nat)
 |l (e:Nat)
 |n
def RM.code:RM->TC
 | .v t=> .d t
 | .n t _=> .d t
 | .p t _=> .d t
def At:List PM->List TC
 |[]=>[]
 | .v _::r=>At r
 | .b t _::r=> .d t::At r
 | .w _ _ es::r=>es.map (fun e=>TC.l e.1)++At r
 | .r _::r=>At r
 | .f _ _ _::r=>At r
structure Sig where
 ps:List PM
 rs:List RM
 lend:Bool
def Sig.codes (s:Sig):List TC:=s.rs.map RM.code++At s.ps
section
variable (U:Un)
def TC.T:TC->Type
 | .d t=>U.D t
 | .l e=>List (U.D e)
 | .n=>Nat
def As:List TC->Type
 |[]=>Unit
 |[c]=>c.T U
 |c::c'::r=>c.T U×As (c'::r)
def As.hd:{c:TC}->{r:List TC}->As U (c::r)->c.T U
 |_,[],x=>x
 |_,_::_,x=>x.1
def As.tl:{c:TC}->{r:List TC}->As U (c::r)->As U r
 |_,[],_=>()
 |_,_::_,x=>x.2
def As.mk:{c:TC}->{r:List TC}->c.T U->As U r->As U (c::r)
 |_,[],x,_=>x
 |_,_::_,x,y=>(x,y)
def FnC:List Nat->Type->Type
 |[],R=>R
 |t::r,R=>U.D t->FnC r R
def Wh:List PM->Type->Type
 |[],R=>R
 | .v t::r,R=>U.D t->Wh r R
 | .b t _::r,R=>U.D t->Wh r R
 | .w t _ _::r,R=>U.D t->Wh r R
 | .r t::r,R=>U.D t->Wh r R
 | .f _ _ ts::r,R=>FnC U ts (Wh r R)
def Fq (t:Nat)(x:U.D t):SA U.D:=match U.ag t with
 |true=> .g (U.cs t x)
 |false=>match U.cs t x with
  |[v]=> .c v
  |_=> .c .undef
def X7 (t:Nat):SA U.D->Option (U.D t)
 | .c v=>match U.ag t with
  |false=>U.fS t [v]
  |true=>none
 | .g cs=>match U.ag t with
  |true=>U.fS t cs
  |false=>none
 | .t _=>none
def SA.isG{D:Nat->Type}(ag:Bool):SA D->Bool
 | .c _=> !ag
 | .g _=>ag
 | .t _=>false
def Fk (H:List (SB U.D)):Nat->List (SV U.D)->Option (Nat×List (SV U.D))
 |n,[]=>some (n,[])
 |n,.own id 0 len::r=>match Nat.beq id (n+1),H[n]? with
  |true,some (.rows 0 t d _ l)=>match Fk H (n+1) r with
   |some (n',cs)=>some (n',.rowT t d l::cs)
   |none=>none
  |_,_=>none
 |n,v::r=>match v.shut&& !isT v with
  |true=>match Fk H n r with
   |some (n',cs)=>some (n',v::cs)
   |none=>none
  |false=>none
def Q9:Nat->List (SV U.D)->List (SV U.D)×List (SB U.D)
 |n,[]=>([],[])
 |n,.rowT t d l::r=>(.own (n+1) 0 l.length::(Q9 (n+1) r).1,.rows 0 t d false l::(Q9 (n+1) r).2)
 |n,v::r=>(v::(Q9 n r).1,(Q9 n r).2)
def Wi{X:Type}:(ts:List Nat)->List (Σ t,U.D t)->FnC U ts X->Option X
 |[],[],m=>some m
 |t::ts,⟨t',x⟩::r,m=>match decEq t' t with
  | .isTrue h=>Wi ts r (m (h ▸ x))
  |_=>none
 |_,_,_=>none
def Gt{R α:Type}:(ps:List PM)->List (SA U.D)->List (SB U.D)->Nat->Wh U ps (Option R)->(Option R->Option α)->Option α
 |[],[],H,n,m,k=>match Nat.beq H.length n with
  |true=>k m
  |false=>none
 | .v t::ps,a::as,H,n,m,k=>match X7 U t a with
  |some x=>Gt ps as H n (m x) k
  |none=>none
 | .b t md::ps,.c (.ptr i 0 0)::as,H,n,m,k=>match Nat.beq i (n+1),H[n]? with
  |true,some (.box 0 cs)=>match U.fO t md cs with
   |some x=>Gt ps as H (n+1) (m x) k
   |none=>none
  |_,_=>none
 | .w t md es::ps,a::as,H,n,m,k=>match Fk U H n a.cells with
  |some (n',cs)=>match U.fO t md cs,Nat.beq n' (n+es.length)&&a.isG (U.ag t)with
   |some x,true=>Gt ps as H n' (m x) k
   |_,_=>none
  |none=>none
 | .r t::ps,.c (.ptrB t' x 0)::as,H,n,m,k=>match decEq t' t with
  | .isTrue h=>Gt ps as H n (m (h ▸ x)) k
  |_=>none
 | .f fid caps ts::ps,.c (.fn fid' caps' rs)::as,H,n,m,k=>match Nat.beq fid fid'&&decide (caps'=caps.map fun i=>(i,0)),Wi U ts rs m with
  |true,some m'=>Gt ps as H n m' k
  |_,_=>none
 |_,_,_,_,_,_=>none
def E8:(es:List (Nat×Bool))->(W:List TC)->As U (es.map (fun e=>TC.l e.1)++W)->List (SB U.D)×As U W
 |[],_,r=>([],r)
 |(e,d)::es,W,r=>
  let l:List (U.D e):=As.hd U r
  let q:=E8 es W (As.tl U r)
  (.rows 0 e d false l::q.1,q.2)
def Gu:(ps:List PM)->As U (At ps)->List (SB U.D)
 |[],_=>[]
 | .v _::ps,r=>Gu ps r
 | .b t m::ps,r=> .box 0 (U.cO t m (As.hd U r))::Gu ps (As.tl U r)
 | .w _ _ es::ps,r=>(E8 U es (At ps) r).1++Gu ps (E8 U es (At ps) r).2
 | .r _::ps,r=>Gu ps r
 | .f _ _ _::ps,r=>Gu ps r
def Dt (W:List TC):(rs:List RM)->Nat->As U (rs.map RM.code++W)->List (Bool×List (SV U.D))×List (SB U.D)×As U W
 |[],_,r=>([],[],r)
 | .v t::rs,n,r=>
  let q:=Dt W rs n (As.tl U r)
  ((U.ag t,U.cs t (As.hd U r))::q.1,q.2.1,q.2.2)
 | .n t m::rs,n,r=>
  let p:=Q9 U n (U.cO t m (As.hd U r))
  let q:=Dt W rs (n+p.2.length) (As.tl U r)
  ((U.ag t,p.1)::q.1,p.2++q.2.1,q.2.2)
 | .p t m::rs,n,r=>
  let q:=Dt W rs (n+1) (As.tl U r)
  ((false,[.ptr (n+1) 0 0])::q.1,.box 0 (U.cO t m (As.hd U r))::q.2.1,q.2.2)
def Wj:List (Bool×List (SV U.D))->SA U.D
 |[(true,cs)]=> .g cs
 |[(false,[v])]=> .c v
 |l=> .t l
def Bc:List PM->Nat
 |[]=>0
 | .v _::r=>Bc r
 | .b _ _::r=>Bc r+1
 | .w _ _ es::r=>Bc r+es.length
 | .r _::r=>Bc r
 | .f _ _ _::r=>Bc r
def Sig.res (s:Sig)(r:As U s.codes):SA U.D:=Wj U (Dt U (At s.ps) s.rs (Bc s.ps) r).1
def Sig.blks (s:Sig)(r:As U s.codes):List (SB U.D):=
 Gu U s.ps (Dt U (At s.ps) s.rs (Bc s.ps) r).2.2++(Dt U (At s.ps) s.rs (Bc s.ps) r).2.1
structure Fl where
 sg:Sig
 m:Wh U sg.ps (Option (As U sg.codes))
def SB.ver{D:Nat->Type}:SB D->Nat
 | .rows v _ _ _ _=>v
 | .box v _=>v
 | .arr v _ _ _=>v
 | .opn v _ _ _ _ _ _ _=>v
def SB.upV{D:Nat->Type}(v:Nat):SB D->SB D
 | .rows _ t d _ l=> .rows v t d false l
 | .box _ cs=> .box v cs
 | .arr _ n t l=> .arr v n t l
 | .opn _ t d _ l g i cs=> .opn v t d true l g i cs
def H7 (io:List Nat)(S:SS U.D):List (Nat×Nat)->Option (List (Nat×Nat))
 |[]=>some []
 |c::r=>match S.blk c.1,Ai io c.1,H7 io S r with
  |some B,some i,some cs=>match Nat.beq B.ver c.2 with
   |true=>some ((i+1,0)::cs)
   |false=>none
  |_,_,_=>none
def Nl (lent:Bool):SB U.D->SV U.D
 | .rows _ t _ _ l=>match lent with
  |true=> .row t l
  |false=> .undef
 |_=> .undef
def Nm (lent:Bool)(lo hi:Int):SB U.D->SV U.D
 | .rows _ t _ _ l=>match lent with
  |true=> .row t ((l.drop lo.toNat).take (hi - lo).toNat)
  |false=> .undef
 |_=> .undef
def SV.low (lent:Bool)(io:List Nat)(S:SS U.D):SV U.D->SV U.D
 | .own id ver n=>match S.blk id with
  |some B=>match Nat.beq B.ver ver with
   |true=>match Ai io id with
    |some i=> .own (i+1) 0 n
    |none=>Nl U lent B
   |false=> .undef
  |none=> .undef
 | .part id ver lo hi=>match S.blk id with
  |some B=>match Nat.beq B.ver ver with
   |true=>match Ai io id with
    |some _=> .undef
    |none=>Nm U lent lo hi B
   |false=> .undef
  |none=> .undef
 | .ptr id ver j=>match S.blk id with
  |some B=>match Nat.beq B.ver ver with
   |true=>match Ai io id with
    |some i=> .ptr (i+1) 0 j
    |none=> .undef
   |false=> .undef
  |none=> .undef
 | .rowT t d []=> .row t []
 | .ptrB t x j=> .ptrB t x j
 | .fn f caps rs=>match H7 U io S caps with
  |some cs=> .fn f cs rs
  |none=> .undef
 | .int k n _=> .int k n 0
 | .bool b=> .bool b
 | .str s=> .str s
 | .row t l=> .row t l
 | .nilp=> .nilp
 |_=> .undef
def SA.low (lent:Bool)(io:List Nat)(S:SS U.D):SA U.D->SA U.D
 | .c v=> .c (v.low U lent io S)
 | .g cs=> .g (cs.map (SV.low U lent io S))
 | .t _=> .c .undef
def SV.isU{D:Nat->Type}:SV D->Bool
 | .undef=>true
 |_=>false
def Wk (a:SA U.D):Bool:=a.cells.all fun v=> !v.isU
def Uk (S:SS U.D)(id:Nat):Option (SB U.D):=
 match S.blk id with
 |some (.rows _ t d _ l)=>some (.rows 0 t d false l)
 |some (.box _ cs)=>match cs.all SV.shut with
  |true=>some (.box 0 cs)
  |false=>none
 |_=>none
def Aba (S:SS U.D):List Nat->Option (List (SB U.D))
 |[]=>some []
 |id::r=>match Uk U S id,Aba S r with
  |some b,some l=>some (b::l)
  |_,_=>none
def Gv:List (SV U.D)->List Nat
 |[]=>[]
 | .own id _ _::r=>id::Gv r
 |_::r=>Gv r
def Wl:List Nat->List Nat->List Nat
 |acc,[]=>acc
 |acc,x::r=>match acc.contains x with
  |true=>Wl acc r
  |false=>Wl (acc++[x]) r
def X8:List PM->List (SA U.D)->List Nat
 | .b _ _::ps,.c (.ptr id _ _)::as=>id::X8 ps as
 | .w _ _ _::ps,a::as=>Gv U a.cells++X8 ps as
 | .f _ _ _::ps,.c (.fn _ caps _)::as=>caps.map (·.1)++X8 ps as
 |_::ps,_::as=>X8 ps as
 |_,_=>[]
def Q54 (io:List Nat):List (SA U.D)->List Nat
 |[]=>[]
 |a::as=>(a.cells.flatMap fun v=>match v with
  | .own id _ _=>if io.contains id then []else [id]
  | .part id _ _ _=>if io.contains id then []else [id]
  |_=>[])++Q54 io as
def Ul (d:Nat)(rest:List Oper):Nat->List Nat
 |0=>[]
 |1=>[Bn d rest]
 |n=>(List.range n).map fun i=>20000+32*d+i
def SV.up (outs:List Nat)(ver:Nat->Nat):SV U.D->SV U.D
 | .own (i+1) _ n=>match outs[i]? with
  |some id=> .own id (ver id) n
  |none=> .undef
 | .ptr (i+1) _ j=>match outs[i]? with
  |some id=> .ptr id (ver id) j
  |none=> .undef
 | .int k n _=> .int k n 0
 | .ptr .. | .ptrE .. | .ptrA .. | .ptrR .. | .ptrB .. | .part .. | .own .. | .fn .. => .undef
 |v=>v
def Abb (outs:List Nat)(ver:Nat->Nat)(cs:List (SV U.D)):List (SV U.D):=cs.map (SV.up U outs ver)
def SA.up (outs:List Nat)(ver:Nat->Nat):SA U.D->SA U.D
 | .c v=> .c (v.up U outs ver)
 | .g cs=> .g (Abb U outs ver cs)
 | .t xs=> .t (xs.map fun x=>(x.1,Abb U outs ver x.2))
def Q72 (ver:Nat->Nat):List Nat->List (SB U.D)->List (Nat×Option (SB U.D))
 |id::r,B::Bs=>(id,some (B.upV (ver id)))::Q72 ver r Bs
 |_,_=>[]
def Um (S:SS U.D):List Nat->List (SB U.D)->List (Nat×Nat)
 |id::r,.rows _ _ _ _ l'::Bs=>match S.blk id with
  |some (.rows _ _ _ _ l)=>(l'.length,l.length)::Um S r Bs
  |_=>Um S r Bs
 |_::r,_::Bs=>Um S r Bs
 |_,_=>[]
def H8 (S:SS U.D):List Nat->List (SB U.D)->Bool
 |id::r,B::Bs=>(match B,S.blk id with
  | .rows _ t _ _ _,some (.rows _ t' _ _ _)=>Nat.beq t t'
  | .box _ cs,some (.box _ cs')=>Nat.beq cs.length cs'.length
  |_,_=>false)&&H8 S r Bs
 |[],_=>true
 |_,[]=>false
def Abd{α:Type}(x:Option α):List (Nat×Nat)->Option α
 |[]=>x
 |[(a,b)]=>if a=b then x else none
 |[(a,b),(c,d)]=>if a=b∧c=d then x else none
 |[(a,b),(c,d),(e,f)]=>if a=b∧c=d∧e=f then x else none
 |[(a,b),(c,d),(e,f),(g,h),(i,j),(k,l)]=>if a=b∧c=d∧e=f∧g=h∧i=j∧k=l then x else none
 |(a,b)::r=>if a=b then Abd x r else none
def Dm (S:SS U.D)(io:List Nat)(id:Nat):Nat:=match io.contains id,S.blk id with
 |true,some B=>B.ver
 |_,_=>S.ver id
def Uo (lent:Bool):SV U.D->Bool
 | .own _ _ _=>true
 | .ptr _ _ _=>true
 | .row _ l=> !lent||l.isEmpty
 | .rowT t d _=> !lent||(d&& !U.far t 1000||U.flat t)
 | .int .. | .bool .. | .str .. | .nilp=>true
 |_=>false
def Wm (lent:Bool):SA U.D->Bool
 | .c v=>Uo U lent v
 | .g cs=>cs.all (Uo U lent)
 | .t xs=>xs.all fun x=>x.2.all (Uo U lent)
def Nn (lent:Bool):SB U.D->Bool
 | .rows _ t d _ _=> !lent||(d&& !U.far t 1000||U.flat t)
 | .box _ cs=>cs.all fun c=>c.shut&&Ez c&&Uo U lent c
 |_=>false
def Aiw (x:Operand)(a:SA U.D):Bool:=match x with
 | .const _=>Q6 a.cells&&Ef a.cells
 |_=>true
def No{α:Type}(S:SS U.D)(lent:Bool)(io lids news:List Nat)(use:List Tmp)(k:Aj U.D->Option α)(H1:List (SB U.D))(res:SA U.D):Option α:=
 match H8 U S io H1&&Wm U lent res&&H1.all (Nn U lent)&&Nat.ble io.length H1.length&&decide (io++news).Nodup&&news.all (Nat.ble 100)with
 |true=>Abd (k {v:=res.up U (io++news) (Dm U S io),upd:=Q72 U (Dm U S io) (io++news) H1,bump:=news,use,ids:=io++news++lids}) (Um U S io H1)
 |false=>none
variable (T:Tab)
def callArgs (S:SS U.D)(caps:List (Nat×Nat))(rs:List (Σ t,U.D t))(l:List (Operand×TypeId)):List (SA U.D):=(l.map fun p=>S.val T p.2 p.1)++((caps.map fun c=>SA.c (.ptr c.1 c.2 0))++rs.map fun q=>SA.c (.ptrB q.1 q.2 0))
def Abe{α:Type}(S:SS U.D)(dst:Option Tmp)(rest:List Oper)(sg:Sig)(m:Wh U sg.ps (Option (As U sg.codes)))(args:List (SA U.D))(io:List Nat)(use:List Tmp)(k:Aj U.D->Option α):Option α:=
 match Aba U S io,(args.map (SA.low U sg.lend io S)).all (Wk U)with
 |some H0,true=>Gt U sg.ps (args.map (SA.low U sg.lend io S)) H0 0 m fun o=>o.bind fun r=>
   No U S sg.lend io (Q54 U io args) (Ul (match dst with|some d=>d|none=>9000) rest ((sg.blks U r).length - io.length)) use k (sg.blks U r) (sg.res U r)
 |_,_=>none
def Abf{α:Type}(Γ:List (Nat×Fl U))(S:SS U.D)(dst:Option Tmp)(rest:List Oper)(x:Operand)(xs:Array Operand)(ats:Array TypeId)(k:Aj U.D->Option α):Option α:=
 match S.val T 0 x with
 | .c (.fn f caps rs)=>match lk Γ f with
  |some ⟨sg,m⟩=>match Nat.beq xs.size ats.size&&(xs.toList.zip ats.toList).all (fun p=>Aiw U p.1 (S.val T p.2 p.1))with
   |true=>Abe U S dst rest sg m (callArgs U T S caps rs (xs.toList.zip ats.toList)) (Wl [] (X8 U sg.ps (callArgs U T S caps rs (xs.toList.zip ats.toList)))) (Q2 (x::xs.toList)) k
   |false=>none
  |none=>none
 |_=>none
end
end Go.Eng
namespace Go.Eng
inductive Cmd where
 |take (id j nid:Nat)
 |opn (id:Nat) (ix:Operand)
 |opp (id t:Nat)
 |takeE (id j nid:Nat)
 |put (id:Nat)
 |frz (id:Nat)
 |shal (id:Nat)
 |nilO (t nid:Nat)
 |cold (t:Nat)
 |cut (t:Nat)
 |len (t:Nat)
 |share (id:Nat)
 |nilG (t j nid:Nat)
 |frzT (t:Nat)
 |frzB (id t:Nat)
 |putc (id j:Nat)
section
variable (U:Un) (T:Tab) {α:Type}
def Gw (S:SS U.D)(l:List (Nat×Option (SB U.D))):SS U.D:=⟨S.env,l++S.H,S.nv,S.ctr⟩
def upE (S:SS U.D)(t:Nat)(v:SA U.D):SS U.D:=⟨(t,v)::S.env,S.H,S.nv,S.ctr⟩
def H9 (S:SS U.D)(v:SV U.D):Option (SV U.D×List Nat×Bool):=
 match v with
 | .own nid ver n=>match S.blk nid with
  |some (.rows ver' t d cl l)=>match Nat.beq ver' ver with
   |true=>some (.rowT t d l,[nid],!cl)
   |false=>none
  |_=>none
 |v=>some (v,[],false)
def putCells (S:SS U.D):List (SV U.D)->Option (List (SV U.D)×List Nat×Bool)
 |[]=>some ([],[],false)
 |v::r=>match H9 U S v,putCells S r with
  |some (w,i,b),some (ws,is,c)=>some (w::ws,i++is,b||c)
  |_,_=>none
def Mh (id:Nat)(ids:List Nat):Bool:=decide ids.Nodup&&ids.all (Nat.ble 100)&& !(ids.contains id)
def Uq:SV U.D->SV U.D
 | .rowT t _ l=> .row t l
 |v=>v
def Un.farP (d:Bool)(t j:Nat):Bool:=match d with
 |true=>U.far t j
 |false=>true
def F8 (d:Bool)(t:Nat):Nat->List (SV U.D)->List (SV U.D)
 |_,[]=>[]
 |j,c::r=>(bif U.farP d t j then Uq U c else c)::F8 d t (j+1) r
def Np (S:SS U.D)(id:Nat):Option (SS U.D):=
 match S.blk id with
 |some (.opn ver t d dirty l g i cs)=>match putCells U S cs with
  |some (cs',ids,ch)=>match cs'.all SV.shut&&Mh id ids,dirty||ch with
   |true,false=>some (Gw U S (ids.map (fun i=>(i,none))++[(id,some (.rows ver t d false l))]))
   |true,true=>match U.fold d t (F8 U d t 0 cs')with
    |some a=>some (Gw U S (ids.map (fun i=>(i,none))++[(id,some (.rows ver t d false (l.set i.toNat a)))]))
    |none=>none
   |_,_=>none
  |none=>none
 |some _=>some S
 |none=>none
def Abg (S:SS U.D):List (SV U.D)->Option (SS U.D)
 |[]=>some S
 | .own nid _ _::r=>match Np U S nid with
  |some S'=>Abg S' r
  |none=>none
 |_::r=>Abg S r
def Ur (S:SS U.D)(id:Nat):Option (SS U.D):=
 match S.blk id with
 |some (.box ver cs)=>match Abg U S cs with
  |some S'=>match putCells U S' cs with
   |some (cs',ids,_)=>match Mh id ids with
    |true=>some (Gw U S' (ids.map (fun i=>(i,none))++[(id,some (.box ver cs'))]))
    |false=>none
   |none=>none
  |none=>none
 |some (.opn ..)=>Np U S id
 |some _=>some S
 |none=>some S
def Et (id ver t:Nat)(l:List (U.D t)):SV U.D->SV U.D
 | .own i v n=>match Nat.beq i id with
  |true=>match Nat.beq v ver with
   |true=> .row t l
   |false=> .undef
  |false=> .own i v n
 | .part i v lo hi=>match Nat.beq i id with
  |true=>match Nat.beq v ver with
   |true=> .row t ((l.drop lo.toNat).take (hi - lo).toNat)
   |false=> .undef
  |false=> .part i v lo hi
 | .ptrE i v g k j=>match Nat.beq i id with
  |true=> .undef
  |false=> .ptrE i v g k j
 | .ptr i v j=>match Nat.beq i id with
  |true=> .undef
  |false=> .ptr i v j
 | .ptrA i v k=>match Nat.beq i id with
  |true=> .undef
  |false=> .ptrA i v k
 | .fn f caps rs=>match caps.any fun c=>Nat.beq c.1 id with
  |true=> .undef
  |false=> .fn f caps rs
 |v=>v
def X9 (id ver t:Nat)(l:List (U.D t)):SA U.D->SA U.D
 | .c v=> .c (Et U id ver t l v)
 | .g cs=> .g (cs.map (Et U id ver t l))
 | .t _=> .c .undef
def frzB (id ver t:Nat)(l:List (U.D t)):SB U.D->SB U.D
 | .box v cs=> .box v (cs.map (Et U id ver t l))
 | .opn v t' d q l' g i cs=> .opn v t' d true l' g i (cs.map (Et U id ver t l))
 |b=>b
def Nq (S:SS U.D)(id:Nat):Option (SS U.D):=
 match S.blk id with
 |some (.rows ver t d _ l)=>some ⟨S.env.map fun p=>(p.1,X9 U id ver t l p.2),(id,none)::S.H.map fun p=>(p.1,p.2.map (frzB U id ver t l)),S.nv,S.ctr⟩
 |some _=>none
 |none=>some S
def Nr (S:SS U.D):List Nat->Option (SS U.D)
 |[]=>some S
 |id::r=>match Nq U S id with
  |some S'=>Nr S' r
  |none=>none
def Ns:List (SV U.D)->List Nat
 |[]=>[]
 | .part id _ _ _::r=>id::Ns r
 |_::r=>Ns r
def E3 (id ver t:Nat)(x:U.D t):SV U.D->SV U.D
 | .ptr i v j=>match Nat.beq i id with
  |true=>match Nat.beq v ver with
   |true=> .ptrB t x j
   |false=> .undef
  |false=> .ptr i v j
 | .own i v n=>match Nat.beq i id with
  |true=>match Nat.beq v ver with
   |true=> .row t []
   |false=> .undef
  |false=> .own i v n
 | .part i v lo hi=>match Nat.beq i id with
  |true=>match Nat.beq v ver with
   |true=> .row t []
   |false=> .undef
  |false=> .part i v lo hi
 | .ptrE i v g k j=>match Nat.beq i id with
  |true=> .undef
  |false=> .ptrE i v g k j
 | .ptrA i v k=>match Nat.beq i id with
  |true=>match Nat.beq v ver with
   |true=> .ptrB t x k.toNat
   |false=> .undef
  |false=> .ptrA i v k
 |v=>v
def Ri (id:Nat):SV U.D->Bool
 | .fn _ caps _=> !caps.any fun c=>Nat.beq c.1 id
 |_=>true
def Us (id:Nat)(a:SA U.D):Bool:=a.cells.all (Ri U id)
def Ut (id:Nat):Option (SB U.D)->Bool
 |some (.box _ cs)=>cs.all (Ri U id)
 |some (.opn _ _ _ _ _ _ _ cs)=>cs.all (Ri U id)
 |_=>true
def Ya (id ver t:Nat)(x:U.D t):SA U.D->SA U.D
 | .c v=> .c (E3 U id ver t x v)
 | .g cs=> .g (cs.map (E3 U id ver t x))
 | .t _=> .c .undef
def F9 (id ver t:Nat)(x:U.D t):SB U.D->SB U.D
 | .box v cs=> .box v (cs.map (E3 U id ver t x))
 | .opn v t' d q l' g i cs=> .opn v t' d true l' g i (cs.map (E3 U id ver t x))
 |b=>b
def Uu (S:SS U.D)(id t:Nat):Option (SS U.D):=
 match S.blk id with
 |some (.box ver cs)=>match cs.all SV.shut&&S.env.all (fun p=>Us U id p.2)&&S.H.all (fun p=>Ut U id p.2),U.fS t (cs.map (Uq U))with
  |true,some x=>some ⟨S.env.map fun p=>(p.1,Ya U id ver t x p.2),(id,none)::S.H.map fun p=>(p.1,p.2.map (F9 U id ver t x)),S.nv,S.ctr⟩
  |_,_=>none
 |_=>none
def Cmd.run (S:SS U.D)(k:SS U.D->Option α):Cmd->Option α
 | .take id j nid=>match S.blk id with
  |some (.box ver cs)=>match cs[j]? with
   |some (.rowT t d l)=>match Nat.ble 100 nid&& !Nat.beq id nid with
    |true=>k ⟨S.env,(id,some (.box ver (cs.set j (.own nid (S.ver nid) l.length))))::(nid,some (.rows (S.ver nid) t d true l))::S.H,S.bumps [nid],S.ctr⟩
    |false=>none
   |some (.own ..)=>k S
   |_=>none
  |_=>none
 | .opn id ix=>match S.blk id,S.val T 0 ix with
  |some (.rows ver t d _ l),.c (.int kd i g)=>if(0:Int)≤i∧i<(l.length:Int)then
    (match g,ix with
    |0,.tmp x=>k ⟨(x,.c (.int kd i (2*S.ctr+1)))::S.env,(id,some (.opn ver t d false l (2*S.ctr+1) i (U.cells d t (U.gt l i))))::S.H,S.nv,S.ctr+1⟩
    |0,_=>none
    |g+1,_=>k (Gw U S [(id,some (.opn ver t d false l (g+1) i (U.cells d t (U.gt l i))))]))
   else none
  |some (.opn ..),_=>k S
  |_,_=>none
 | .opp id x=>match S.get x with
  | .c (.ptrE id' ver g i j)=>match S.blk id with
   |some (.rows ver' t d _ l)=>match Nat.beq id id'&&Nat.beq ver ver' with
    |true=>match g with
     |0=>k ⟨(x,.c (.ptrE id ver (2*S.ctr+1) i j))::S.env,(id,some (.opn ver t d false l (2*S.ctr+1) i (U.cells d t (U.gt l i))))::S.H,S.nv,S.ctr+1⟩
     |g+1=>k (Gw U S [(id,some (.opn ver t d false l (g+1) i (U.cells d t (U.gt l i))))])
    |false=>none
   |some (.opn ..)=>k S
   |_=>none
  |_=>none
 | .takeE id j nid=>match S.blk id with
  |some (.opn ver t d dirty l g i cs)=>match cs[j]? with
   |some (.rowT t' d' l')=>match Nat.ble 100 nid&& !Nat.beq id nid with
    |true=>k ⟨S.env,(id,some (.opn ver t d dirty l g i (cs.set j (.own nid (S.ver nid) l'.length))))::(nid,some (.rows (S.ver nid) t' d' true l'))::S.H,S.bumps [nid],S.ctr⟩
    |false=>none
   |some (.own ..)=>k S
   |_=>none
  |_=>none
 | .put id=>match Ur U S id with
  |some S'=>k S'
  |none=>none
 | .frz id=>match Nq U S id with
  |some S'=>k S'
  |none=>none
 | .frzT x=>match Nr U S (Gv U (S.get x).cells++Ns U (S.get x).cells)with
  |some S'=>k S'
  |none=>none
 | .putc id j=>match S.blk id with
  |some (.box ver cs)=>match cs[j]? with
   |some (.own nid nver _)=>match S.blk nid with
    |some (.rows nver' t d _ l)=>match Nat.beq nver' nver&&Nat.ble 100 nid&& !Nat.beq id nid with
     |true=>k (Gw U S (([nid].map fun i=>(i,none))++[(id,some (.box ver (cs.set j (.rowT t d l))))]))
     |false=>none
    |_=>none
   |some _=>k S
   |none=>none
  |_=>none
 | .frzB id t=>match Uu U S id t with
  |some S'=>k S'
  |none=>none
 | .shal id=>match S.blk id with
  |some (.rows ver t true _ l)=>match U.flat t with
   |true=>k S
   |false=>k (Gw U S [(id,some (.rows ver t false false l))])
  |some (.rows _ _ false _ _)=>k S
  |_=>none
 | .nilO x nid=>match S.get x with
  | .c (.rowT t d [])=>match Nat.ble 100 nid with
   |true=>k ⟨(x,.c (.own nid (S.ver nid) 0))::S.env,(nid,some (.rows (S.ver nid) t d false []))::S.H,S.bumps [nid],S.ctr⟩
   |false=>none
  | .c (.own ..)=>k S
  |_=>none
 | .cold x=>match S.get x with
  | .c v=>k (upE U S x (.c (Dy U v)))
  | .g cs=>k (upE U S x (.g (cs.map (Dy U))))
  |_=>k S
 | .cut x=>match S.get x with
  | .c (.part id ver lo hi)=>match S.blk id,lo with
   |some (.rows ver' t d _ l),0=>match Nat.beq ver ver' with
    |true=>k ⟨(x,.c (.own id (S.ver id) (l.take hi.toNat).length))::S.env,(id,some (.rows (S.ver id) t d false (l.take hi.toNat)))::S.H,S.bumps [id],S.ctr⟩
    |false=>none
   |_,_=>none
  | .c (.own ..)=>k S
  |_=>none
 | .len x=>match S.get x with
  | .c (.own id ver n)=>match S.blk id with
   |some (.rows ver' t d _ l)=>match Nat.beq ver ver' with
    |true=>k (upE U S x (.c (.own id ver l.length)))
    |false=>none
   |_=>none
  |_=>k S
 | .share id=>match S.blk id with
  |some (.box ver cs)=>match cs.all SV.shut with
   |true=>k (Gw U S [(id,some (.box ver (cs.map (Uq U))))])
   |false=>none
  |_=>none
 | .nilG x j nid=>match S.get x with
  | .g cs=>match cs[j]? with
   |some (.rowT t d [])=>match Nat.ble 100 nid with
    |true=>k ⟨(x,.g (cs.set j (.own nid (S.ver nid) 0)))::S.env,(nid,some (.rows (S.ver nid) t d false []))::S.H,S.bumps [nid],S.ctr⟩
    |false=>none
   |_=>none
  |_=>none
def Q74 (S:SS U.D)(k:SS U.D->Option α):List Cmd->Option α
 |[]=>k S
 |c::r=>c.run U T S fun S'=>Q74 S' k r
abbrev FP:=List Nat×List Nat×List Nat
def Aj.fp{D:Nat->Type}(r:Aj D):FP:=(r.use,r.ids,r.upd.map (·.1)++r.bump)
def Aix (d1:Option Tmp)(r1:FP)(d2:Option Tmp)(r2:FP):Bool:=
 (match d1 with|some d=> !(r2.1.contains d)&&d2 != some d|none=>true)&&
 (match d2 with|some d=> !(r1.1.contains d)|none=>true)&&
 r1.2.2.all (fun i=> !(r2.2.1.contains i)&& !(r2.2.2.contains i))&&
 r2.2.2.all (fun i=> !(r1.2.1.contains i))
def Jx (ops:Array Oper)(rs:List FP):Bool:=
 (List.range ops.size).all fun j=>(List.range j).all fun i=>
  match rs[i]?,rs[j]? with
  |some r1,some r2=>Aix (A8 ops i) r1 (A8 ops j) r2||reach ops ops.size j i
  |_,_=>false
structure Ox (α:Type) where
 Γ:List (Nat×Fl U)
 ov:List (Nat×List (Nat×Fl U))
 eqOk:Nat->Bool
 N:Nat
 spl:List Nat
 pre:List (Nat×List Cmd)
 post:List (Nat×List Cmd)
 js:List Nat
 Λ:List (Nat×(SS U.D->Option α))
 Λb:List (Nat×(SS U.D->Option α))
 fin:SS U.D->Option α
def ovG (X:Ox U α)(dst:Option Tmp):List (Nat×Fl U):=match dst with
 |some d=>match lk X.ov d with
  |some l=>l++X.Γ
  |none=>X.Γ
 |none=>X.Γ
def stp (X:Ox U α)(S:SS U.D)(rest:List Oper)(o:Oper)(k:Aj U.D->Option α):Option α:=
 match o.op with
 | .move x=>Wg U T S o.type x k
 | .assign x=>Wg U T S o.type x k
 | .pick c x y=>Aax U T S o.type c x y k
 | .binOp op t x y ty=>match S.val T t x with
  | .g _=>Aaz U T X.eqOk S op t x y ty k
  |_=>Ais U T S op t x y ty k
 | .unOp op t x=>sUn U T S op t x k
 | .convert s t x=>Aa0 U T S s t x k
 | .fieldAddr s x f=>Ue U T S s x f k
 | .nilCheck x=>Aa1 U T S x k
 | .indexAddr t x ix=>Nc U T S t x ix k
 | .load t x=>Aa2 U T S t x k
 | .store t x y=>Uf U T S o.dst t x y k
 | .alloc t=>Ug U T S o.dst t k
 | .box t x=>Ait U T S o.dst t x k
 | .extract x n=>Aiu U T S x n k
 | .build t parts=>Uh U T S t parts k
 | .index t x ix=>Nf U T S t x ix k
 | .buildSlice t n parts=>Nh U T S o.dst rest t n parts k
 | .makeSlice t x y=>Ui U T S o.dst rest t x y k
 | .slice t x lo hi none=>Uj U T S t x lo hi k
 | .makeFunc f first caps=>Aa9 U T S f first caps k
 | .call c=>match c.callee,c.args.toList,c.argTypes.toList with
  | .builtin .len,[x],[t]=>Aiv U T S t x k
  | .builtin .append,[x,y],[t,t']=>match Nat.beq t t' with
   |true=>Nj U T S o.dst rest t x y k
   |false=>none
  | .builtin .copy,[x,y],[t,t']=>Aa8 U T S t x y k
  | .builtin .min,[x,y],_=>H6 U T S false x y k
  | .builtin .max,[x,y],_=>H6 U T S true x y k
  | .value x,_,_=>Abf U T (ovG U X o.dst) S o.dst rest x c.args c.argTypes k
  |_,_,_=>none
 |_=>none
def Nt (spl:List Nat)(dst:Option Tmp)(r:Aj U.D)(k:Aj U.D->Option α):Option α:=
 match dst,r.v with
 |some d,.c (.bool e)=>match spl.contains d with
  |true=>bif e then k {r with v:= .c (.bool true)}else k {r with v:= .c (.bool false)}
  |false=>k r
 |_,_=>k r
def lkD{β:Type}(l:List (Nat×List β))(n:Nat):List β:=match lk l n with|some x=>x|none=>[]
def Nu (X:Ox U α)(draw:Bool)(dst:Option Tmp)(S:SS U.D)(k:SS U.D->Option α):Option α:=
 match draw,dst with
 |false,some d=>Q74 U T S k (lkD X.post d)
 |_,_=>k S
noncomputable def Afh (a b:Option α):Option α:= @ite _ (a=b) (Classical.propDecidable _) a none
def Jy (draw:Bool)(S:SS U.D)(o:Oper):Option Bool:=
 match draw,o.guard,o.op with
 |false,none,.binOp .eql t x (.const (.slice none 0 0)) _=>match S.val T 0 x,tg T t with
  | .c (.row _ l),some ti=>match ti.k with
   | .slice _=>some l.isEmpty
   |_=>none
  |_,_=>none
 |_,_,_=>none
noncomputable def Eu (X:Ox U α)(draw:Bool)(ops:Array Oper):List Oper->SS U.D->List FP->(SS U.D->Option α)->Option α
 |[],S,fps,k=>match draw with
  |true=>match Jx ops fps.reverse with
   |true=>k S
   |false=>none
  |false=>k S
 |o::rest,S,fps,k=>match (match o.dst with|some d=>Nat.blt d X.N|none=>true)with
  |true=>match Jy U T draw S o with
   |some e=>bif e then Afh (Eu X draw ops rest (S.app o.dst {v:= .c (.bool true)}) (([],[],[])::fps) k) (Eu X draw ops rest (S.app o.dst {v:= .c (.bool false)}) (([],[],[])::fps) k)
    else Eu X draw ops rest (S.app o.dst {v:= .c (.bool false)}) (([],[],[])::fps) k
   |none=>match o.guard with
   |none=>stp U T X S rest o fun r=>Nt U X.spl o.dst r fun r=>Nu U T X draw o.dst (S.app o.dst r) fun S'=>Eu X draw ops rest S' (r.fp::fps) k
   |some (j,b)=>match Tl ops j with
    |some d=>match S.get d with
     | .c (.bool c)=>match c==b with
      |true=>stp U T X S rest o fun r=>Nt U X.spl o.dst r fun r=>Nu U T X draw o.dst (S.app o.dst r) fun S'=>Eu X draw ops rest S' ((d::r.use,r.fp.2)::fps) k
      |false=>Eu X draw ops rest (S.app o.dst {v:= .c .skip,use:=[d]}) (([d],[],[])::fps) k
     | .c .skip=>Eu X draw ops rest (S.app o.dst {v:= .c .skip,use:=[d]}) (([d],[],[])::fps) k
     |_=>none
    |none=>none
  |false=>none
inductive Ctl where
 |code (c:Code) (p:Nat)
 |nrm
 |ex (id:Nat)
inductive Fm where
 |th (c:Code) (p:Nat)
 |bl (id:Nat)
 |lp (p:Nat)
 |jn (p:Nat)
def lkF (l:List (Nat×(SS U.D->Option α)))(p:Nat)(S:SS U.D):Option α:=match lk l p with
 |some f=>f S
 |none=>none
noncomputable def go (X:Ox U α):Nat->Ctl->SS U.D->List Fm->Option α
 |0,_,_,_=>none
 |n+1,.code c p,S,fr=>match c with
  | .skip=>go X n .nrm S fr
  | .label _=>go X n .nrm S fr
  | .region id ops draw=>match !draw||Gp ops with
   |true=>Q74 U T S (fun S=>Eu U T X draw ops ops.toList S [] fun S'=>go X n .nrm S' fr) (lkD X.pre id)
   |false=>none
  | .seq a b=>match X.js.contains p with
   |true=>go X n (.code a (2*p)) S (.jn p::fr)
   |false=>go X n (.code a (2*p)) S (.th b (2*p+1)::fr)
  | .cond x a b=>match S.val T 0 x with
   | .c (.bool e)=>bif e then go X n (.code a (2*p)) S fr else go X n (.code b (2*p+1)) S fr
   |_=>none
  | .block id c=>go X n (.code c (2*p)) S (.bl id::fr)
  | .loop _=>lkF U X.Λ p S
  | .exit id=>go X n (.ex id) S fr
  | .ret=>X.fin S
  |_=>none
 |n+1,.nrm,S,fr=>match fr with
  |[]=>X.fin S
  | .th c p::r=>go X n (.code c p) S r
  | .bl _::r=>go X n .nrm S r
  | .lp p::_=>lkF U X.Λb p S
  | .jn p::_=>lkF U X.Λ p S
 |n+1,.ex id,S,fr=>match fr with
  |[]=>none
  | .bl id'::r=>match Nat.beq id id' with
   |true=>go X n .nrm S r
   |false=>go X n (.ex id) S r
  |_::r=>go X n (.ex id) S r
def Ev (js:List Nat):List Bool->Nat->Code->List Fm->Option (Code×List Fm)
 |[],_,c,fr=>some (c,fr)
 |b::r,p,c,fr=>match c,b with
  | .seq x y,false=>match js.contains p with
   |true=>Ev js r (2*p) x (.jn p::fr)
   |false=>Ev js r (2*p) x (.th y (2*p+1)::fr)
  | .seq x y,true=>Ev js r (2*p+1) y fr
  | .cond _ x y,false=>Ev js r (2*p) x fr
  | .cond _ x y,true=>Ev js r (2*p+1) y fr
  | .block id x,false=>Ev js r (2*p) x (.bl id::fr)
  | .loop x,false=>Ev js r (2*p) x (.lp p::fr)
  |_,_=>none
def Uv:Nat->Nat->List Bool->List Bool
 |0,_,acc=>acc
 |n+1,p,acc=>match Nat.ble p 1 with
  |true=>acc
  |false=>Uv n (p / 2) (Nat.beq (p % 2) 1::acc)
def Li (js:List Nat)(c:Code)(p:Nat):Option (Code×List Fm):=Ev js (Uv p p []) 1 c []
noncomputable def Afj (X:Ox U α)(c:Code)(p:Nat)(S:SS U.D):Option α:=match Li X.js c p with
 |some (c',fr)=>go U T X 1000 (.code c' p) S fr
 |none=>none
inductive Sh where
 |v (t:Nat)
 |o (id e:Nat) (d:Bool)
 |p (id:Nat)
 |r (t:Nat)
 |f (fid:FuncId) (caps:List Nat) (ts:List Nat)
 |b (x:Bool)
inductive Rj where
 |v (t:Nat)
 |T (e:Nat) (d:Bool)
 |O (id:Nat)
inductive Zr where
 |box (l:List Rj)
 |st (t:Nat) (m:Bool)
 |arr (n e:Nat)
 |ob (l:List Rj)
 |opn (e:Nat) (d:Bool) (l:List Rj)
 |rws (e:Nat) (d:Bool)
def Af:List TC->Type
 |[]=>Unit
 |c::r=>c.T U×Af r
def Jz:List Nat->List TC->List TC
 |[],W=>W
 |t::ts,W=> .d t::Jz ts W
def Q8 (W:List TC):List (Nat×Sh)->List TC
 |[]=>W
 |(_,.v t)::r=> .d t::Q8 W r
 |(_,.o _ e _)::r=> .l e::Q8 W r
 |(_,.r t)::r=> .d t::Q8 W r
 |(_,.f _ _ ts)::r=>Jz ts (Q8 W r)
 |_::r=>Q8 W r
def Nv:List Rj->List TC
 |[]=>[]
 | .v t::r=> .d t::Nv r
 | .T e _::r=> .l e::Nv r
 | .O _::r=> .n::Nv r
def Q3:List (Nat×Zr)->List TC
 |[]=>[]
 |(_,.box l)::r=>Nv l++Q3 r
 |(_,.st t _)::r=> .d t::Q3 r
 |(_,.arr _ e)::r=> .l e::Q3 r
 |(_,.rws e _)::r=> .l e::Q3 r
 |(_,.ob l)::r=>Nv l++Q3 r
 |(_,.opn e _ l)::r=> .l e:: .n::(Nv l++Q3 r)
structure El where
 e:List (Nat×Sh)
 b:List (Nat×Zr)
def El.codes (s:El):List TC:=Q8 (Q3 s.b) s.e
def Abh{W:List TC}(w:Option (Af U W)):(ts:List Nat)->List (Σ t,U.D t)->Option (Af U (Jz ts W))
 |[],[]=>w
 |t::ts,⟨t',x⟩::r=>match decEq t' t,Abh w ts r with
  | .isTrue h,some q=>some ((h ▸ x:U.D t),q)
  |_,_=>none
 |_,_=>none
def De (S:SS U.D){W:List TC}(w:Option (Af U W)):(l:List (Nat×Sh))->Option (Af U (Q8 W l))
 |[]=>w
 |(x,.v t)::r=>match X7 U t (S.get x),De S w r with
  |some a,some q=>some (a,q)
  |_,_=>none
 |(x,.o id0 e d)::r=>match S.get x with
  | .c (.own id ver n)=>match S.blk id with
   |some (.rows ver' e' d' _ l)=>match Nat.beq ver ver'&&Nat.beq id id0&&(d'==d),decEq e' e,De S w r with
    |true,.isTrue h,some q=>some ((h ▸ l:List (U.D e)),q)
    |_,_,_=>none
   |_=>none
  |_=>none
 |(x,.p id)::r=>match S.get x with
  | .c (.ptr id' ver 0)=>match S.blk id with
   |some B=>match Nat.beq id id'&&Nat.beq ver B.ver,De S w r with
    |true,some q=>some q
    |_,_=>none
   |none=>none
  |_=>none
 |(x,.r t)::r=>match S.get x with
  | .c (.ptrB t' a 0)=>match decEq t' t,De S w r with
   | .isTrue h,some q=>some ((h ▸ a:U.D t),q)
   |_,_=>none
  |_=>none
 |(x,.f fid caps ts)::r=>match S.get x with
  | .c (.fn f cs rs)=>match Nat.beq f fid&&decide (cs=caps.map fun i=>(i,match S.blk i with|some B=>B.ver|none=>0))&&caps.all (fun i=>(S.blk i).isSome)with
   |true=>Abh U (De S w r) ts rs
   |false=>none
  |_=>none
 |(x,.b v)::r=>match S.get x with
  | .c (.bool v')=>match v==v',De S w r with
   |true,some q=>some q
   |_,_=>none
  |_=>none
def Du (S:SS U.D){W:List TC}(w:Option (Af U W)):(l:List Rj)->List (SV U.D)->Option (Af U (Nv l++W))
 |[],[]=>w
 | .v t::r,c::cs=>match U.fS t [c],Du S w r cs with
  |some a,some q=>some (a,q)
  |_,_=>none
 | .T e d::r,.rowT e' d' l::cs=>match d'==d,decEq e' e,Du S w r cs with
  |true,.isTrue h,some q=>some ((h ▸ l:List (U.D e)),q)
  |_,_,_=>none
 | .O id::r,.own id' ver n::cs=>match S.blk id' with
  |some B=>match Nat.beq id id'&&Nat.beq ver B.ver,Du S w r cs with
   |true,some q=>some (n,q)
   |_,_=>none
  |none=>none
 |_,_=>none
def C5 (S:SS U.D):(l:List (Nat×Zr))->Option (Af U (Q3 l))
 |[]=>some ()
 |(id,.box l)::r=>match S.blk id with
  |some (.box _ cs)=>Du U S (C5 S r) l cs
  |_=>none
 |(id,.st t m)::r=>match S.blk id with
  |some (.box _ cs)=>match U.fO t m cs,C5 S r with
   |some a,some q=>some (a,q)
   |_,_=>none
  |_=>none
 |(id,.arr n e)::r=>match S.blk id with
  |some (.arr _ n' e' l)=>match Nat.beq n n',decEq e' e,C5 S r with
   |true,.isTrue h,some q=>some ((h ▸ l:List (U.D e)),q)
   |_,_,_=>none
  |_=>none
 |(id,.ob l)::r=>match S.blk id with
  |some (.box _ cs)=>Du U S (C5 S r) l cs
  |_=>none
 |(id,.rws e d)::r=>match S.blk id with
  |some (.rows _ e' d' _ l)=>match d'==d,decEq e' e,C5 S r with
   |true,.isTrue h,some q=>some ((h ▸ l:List (U.D e)),q)
   |_,_,_=>none
  |_=>none
 |(id,.opn e d l)::r=>match S.blk id with
  |some (.opn _ e' d' _ l0 _ i cs)=>match d'==d,decEq e' e,Du U S (C5 S r) l cs with
   |true,.isTrue h,some q=>some ((h ▸ l0:List (U.D e)),(i.toNat,q))
   |_,_,_=>none
  |_=>none
def Abi:List (Nat×Sh)->List Cmd
 |[]=>[]
 |(x,.v _)::r=> .frzT x:: .cold x::Abi r
 |(x,.o id _ d)::r=> .put id:: .nilO x id::(match d with|true=>Abi r|false=> .shal id::Abi r)
 |_::r=>Abi r
def Abj (id:Nat):Nat->List Rj->List Cmd
 |_,[]=>[]
 |j,.T _ _::r=> .putc id j::Abj id (j+1) r
 |j,_::r=>Abj id (j+1) r
def Rj.isT:Rj->Bool
 | .T _ _=>true
 |_=>false
def Fe:List (Nat×Zr)->List Cmd
 |[]=>[]
 |(id,.box l)::r=>match l.any Rj.isT with
  |true=> .put id::Fe r
  |false=> .put id:: .share id::Fe r
 |(id,.ob l)::r=>Abj id 0 l++Fe r
 |(_,.opn _ _ _)::r=>Fe r
 |(id,_)::r=> .put id::Fe r
def El.cmds (s:El):List Cmd:=Fe s.b++Abi s.e
def El.ext (s:El)(S:SS U.D):Option (Af U s.codes):=De U S (C5 U S s.b) s.e
def Fh (W:List TC):(ts:List Nat)->Af U (Jz ts W)->List (Σ t,U.D t)×Af U W
 |[],q=>([],q)
 |t::ts,q=>let p:=Fh W ts q.2;(⟨t,q.1⟩::p.1,p.2)
def Cc (W:List TC):(l:List (Nat×Sh))->Af U (Q8 W l)->List (Nat×SA U.D)×List (Nat×Option (SB U.D))×Af U W
 |[],q=>([],[],q)
 |(x,.v t)::r,q=>let p:=Cc W r q.2;((x,Fq U t q.1)::p.1,p.2.1,p.2.2)
 |(x,.o id e d)::r,q=>
  let l:List (U.D e):=q.1
  let p:=Cc W r q.2;((x,.c (.own id 0 l.length))::p.1,(id,some (.rows 0 e d false l))::p.2.1,p.2.2)
 |(x,.p id)::r,q=>let p:=Cc W r q;((x,.c (.ptr id 0 0))::p.1,p.2.1,p.2.2)
 |(x,.r t)::r,q=>
  let a:U.D t:=q.1
  let p:=Cc W r q.2;((x,.c (.ptrB t a 0))::p.1,p.2.1,p.2.2)
 |(x,.f fid caps ts)::r,q=>
  let c:=Fh U (Q8 W r) ts q
  let p:=Cc W r c.2;((x,.c (.fn fid (caps.map fun i=>(i,0)) c.1))::p.1,p.2.1,p.2.2)
 |(x,.b v)::r,q=>let p:=Cc W r q;((x,.c (.bool v))::p.1,p.2.1,p.2.2)
def Uw (t:Nat)(x:U.D t):SV U.D:=match U.cs t x with|[v]=>v|_=> .undef
def Cz (W:List TC):(l:List Rj)->Af U (Nv l++W)->List (SV U.D)×Af U W
 |[],q=>([],q)
 | .v t::r,q=>let p:=Cz W r q.2;(Uw U t q.1::p.1,p.2)
 | .T e d::r,q=>
  let l:List (U.D e):=q.1
  let p:=Cz W r q.2;(.rowT e d l::p.1,p.2)
 | .O id::r,q=>
  let n:Nat:=q.1
  let p:=Cz W r q.2;(.own id 0 n::p.1,p.2)
def D5:(l:List (Nat×Zr))->Af U (Q3 l)->List (Nat×Option (SB U.D))
 |[],_=>[]
 |(id,.box l)::r,q=>let p:=Cz U (Q3 r) l q;(id,some (.box 0 p.1))::D5 r p.2
 |(id,.st t m)::r,q=>(id,some (.box 0 (U.cO t m q.1)))::D5 r q.2
 |(id,.arr n e)::r,q=>
  let l:List (U.D e):=q.1
  (id,some (.arr 0 n e l))::D5 r q.2
 |(id,.rws e d)::r,q=>
  let l:List (U.D e):=q.1
  (id,some (.rows 0 e d false l))::D5 r q.2
 |(id,.ob l)::r,q=>let p:=Cz U (Q3 r) l q;(id,some (.box 0 p.1))::D5 r p.2
 |(id,.opn e d l)::r,q=>
  let l0:List (U.D e):=q.1
  let i:Nat:=q.2.1
  let p:=Cz U (Q3 r) l q.2.2;(id,some (.opn 0 e d true l0 0 (i:Int) p.1))::D5 r p.2
def El.emb (s:El)(q:Af U s.codes):SS U.D:=
 let p:=Cc U (Q3 s.b) s.e q
 ⟨p.1,p.2.1++D5 U s.b p.2.2,[],200⟩
def arr (s:El)(f:Af U s.codes->Option α)(S:SS U.D):Option α:=Q74 U T S (fun S'=>(s.ext U S').bind f) s.cmds
end
end Go.Eng
namespace Go.Eng
section
variable (U:Un) (T:Tab) {α:Type}
def Gz (n:Nat):List (SA U.D)->List (Nat×SA U.D)
 |[]=>[]
 |a::r=>(n,a)::Gz (n+1) r
def J0 (n:Nat):List (SB U.D)->List (Nat×Option (SB U.D))
 |[]=>[]
 |b::r=>(n,some b)::J0 (n+1) r
def Wn (as:List (SA U.D))(H:List (SB U.D)):SS U.D:=⟨Gz U 0 as,J0 U 1 H,[],200⟩
def G3 (m:Bool)(id:Nat):List Cmd:=match m with|true=>[]|false=>[.shal id]
def J1 (t:Nat)(m:Bool)(j:Nat):Bool:=match (U.cO t m (@default _ (U.inh t)))[j]? with
 |some (.rowT _ d _)=>d
 |_=>true
def Nw (t:Nat)(m:Bool)(id nid:Nat)(j:Nat):List (SV U.D)->List Cmd
 |[]=>[]
 | .rowT .. ::r=> .take id j nid::(G3 (J1 U t m j) nid++Nw t m id (nid+1) (j+1) r)
 | .own .. ::r=> .take id j nid::(G3 (J1 U t m j) nid++Nw t m id (nid+1) (j+1) r)
 |_::r=>Nw t m id (nid+1) (j+1) r
def Nx (t:Nat)(m:Bool)(x nid:Nat)(j:Nat):List (SV U.D)->List Cmd
 |[]=>[]
 | .rowT _ _ []::r=> .nilG x j nid::(G3 (J1 U t m j) nid++Nx t m x (nid+1) (j+1) r)
 | .own i _ _::r=> .put i::(G3 (J1 U t m j) i++Nx t m x (nid+1) (j+1) r)
 |_::r=>Nx t m x (nid+1) (j+1) r
def Afk (S:SS U.D)(b:Nat):ResultVar->RM->List Cmd
 | .tmp x,.v _=>(Gv U (S.get x).cells).map Cmd.frz
 | .tmp x,.n t m=>match S.get x with
  | .c (.rowT _ _ [])=> .nilO x b::G3 m b
  | .c (.own i _ _)=> .put i::G3 m i
  | .g cs=>Nx U t m x b 0 cs
  |_=>[]
 | .tmp x,.p _ _=>match S.get x with
  | .c (.ptr id _ _)=>[.put id]
  |_=>[]
 | .cell _ _,.p _ _=>[]
 | .cell a _,.v _=>match S.get a with
  | .c (.ptr id _ _)=>match S.blk id with
   |some (.box _ cs)=>(Gv U cs).map Cmd.frz++[.share id]
   |_=>[]
  |_=>[]
 | .cell a _,.n t m=>match S.get a with
  | .c (.ptr id _ _)=>match S.blk id with
   |some (.box _ cs)=> .put id::Nw U t m id b 0 cs
   |_=>[]
  |_=>[]
def Rk (S:SS U.D):Nat->List ResultVar->List RM->List Cmd
 |b,x::xs,r::rs=>Afk U S b x r++Rk S (b+100) xs rs
 |_,_,_=>[]
def Wo (t:Nat)(id nid j:Nat):List (SV U.D)->List Cmd
 |[]=>[]
 | .own .. ::r| .rowT .. ::r=>match J1 U t false j with
  |true=>Wo t id (nid+1) (j+1) r
  |false=> .take id j nid:: .shal nid::Wo t id (nid+1) (j+1) r
 |_::r=>Wo t id (nid+1) (j+1) r
def Alu (S:SS U.D)(t id:Nat):List Cmd:=match S.blk id with
 |some (.box _ cs)=>Wo U t id (60000+64*id) 0 cs++[.put id]
 |_=>[]
def Alv:Nat->List (Nat×Bool)->List Cmd
 |_,[]=>[]
 |n,_::r=> .put (n+1)::Alv (n+1) r
def Q55 (S:SS U.D):Nat->List PM->List Cmd
 |_,[]=>[]
 |n,.v _::r=>Q55 S n r
 |n,.b t m::r=> .put (n+1)::((match m with|true=>[]|false=>Alu U S t (n+1))++Q55 S (n+1) r)
 |n,.w _ _ es::r=>Alv n es++Q55 S (n+es.length) r
 |n,.r _::r=>Q55 S n r
 |n,.f _ _ _::r=>Q55 S n r
def Q64 (S:SS U.D):ResultVar->Option (Bool×List (SV U.D))
 | .tmp x=>match S.get x with
  | .c v=>some (false,[v])
  | .g cs=>some (true,cs)
  | .t _=>none
 | .cell a t=>match S.get a,szT T t with
  | .c (.ptr id ver j),some (sz,agg)=>match S.blk id with
   |some (.box ver' cs)=>match Nat.beq ver ver'&&Nat.ble (j+sz) cs.length&&Ef (slc cs j sz)&&(agg||Nat.beq sz 1)with
    |true=>some (agg,slc cs j sz)
    |false=>none
   |_=>none
  |_,_=>none
def E9 (S:SS U.D):List (SV U.D)->Option (List (SV U.D)×List Nat)
 |[]=>some ([],[])
 | .own id ver n::r=>match S.blk id,E9 S r with
  |some (.rows ver' t d _ l),some (cs,ids)=>match Nat.beq ver ver' with
   |true=>some (.rowT t d l::cs,id::ids)
   |false=>none
  |_,_=>none
 |v::r=>match v.shut&& !isT v,E9 S r with
  |true,some (cs,ids)=>some (v::cs,ids)
  |_,_=>none
def Alw{e' e:Nat}(h:e'=e)(l:List (U.D e')):List (U.D e):=h ▸ l
def Abk (S:SS U.D):(es:List (Nat×Bool))->(W:List TC)->Nat->Option (As U W)->Option (As U (es.map (fun e=>TC.l e.1)++W))
 |[],_,_,w=>w
 |(e,d)::es,W,n,w=>match S.blk (n+1),Abk S es W (n+1) w with
  |some (.rows _ e' d' _ l),some q=>match d'==d,decEq e' e with
   |true,.isTrue h=>some (As.mk U (c:= .l e) (Alw U h l) q)
   |_,_=>none
  |_,_=>none
def Ny (S:SS U.D):(ps:List PM)->Nat->Option (As U (At ps))
 |[],_=>some ()
 | .v _::ps,n=>Ny S ps n
 | .b t m::ps,n=>match S.blk (n+1),Ny S ps (n+1)with
  |some (.box _ cs),some q=>match U.fO t m cs with
   |some x=>some (As.mk U (c:= .d t) x q)
   |none=>none
  |_,_=>none
 | .w _ _ es::ps,n=>Abk U S es (At ps) n (Ny S ps (n+es.length))
 | .r _::ps,n=>Ny S ps n
 | .f _ _ _::ps,n=>Ny S ps n
def Wp (S:SS U.D):ResultVar->Option (Nat×List (SV U.D))
 | .tmp x=>match S.get x with
  | .c (.ptr id ver 0)=>match S.blk id with
   |some (.box ver' cs)=>match Nat.beq ver ver' with
    |true=>some (id,cs)
    |false=>none
   |_=>none
  |_=>none
 | .cell _ _=>none
def Nz (S:SS U.D){W:List TC}(w:Option (As U W)):(xs:List ResultVar)->(rs:List RM)->Option (As U (rs.map RM.code++W)×List Nat)
 |[],[]=>match w with
  |some q=>some (q,[])
  |none=>none
 |x::xs,.v t::rs=>match Q64 U T S x,Nz S w xs rs with
  |some (agg,cs),some (q,ids)=>match agg==U.ag t,U.fS t (cs.map (Dy U))with
   |true,some a=>some (As.mk U (c:= .d t) a q,ids)
   |_,_=>none
  |_,_=>none
 |x::xs,.n t m::rs=>match Q64 U T S x,Nz S w xs rs with
  |some (agg,cs),some (q,ids)=>match E9 U S cs with
   |some (cs',is)=>match agg==U.ag t,U.fO t m cs' with
    |true,some a=>some (As.mk U (c:= .d t) a q,is++ids)
    |_,_=>none
   |none=>none
  |_,_=>none
 |x::xs,.p t m::rs=>match Wp U S x,Nz S w xs rs with
  |some (id,cs),some (q,ids)=>match U.fO t m cs with
   |some a=>some (As.mk U (c:= .d t) a q,id::ids)
   |none=>none
  |_,_=>none
 |_,_=>none
def Alx (sg:Sig)(rl:List ResultVar)(S:SS U.D):Option (As U sg.codes):=
 match Nz U T S (Ny U S sg.ps 0) rl sg.rs with
 |some (r,ids)=>match decide ids.Nodup&&ids.all (fun i=>Nat.ble 100 i)&&Nat.ble rl.length 4 with
  |true=>some r
  |false=>none
 |none=>none
def Afl (sg:Sig)(rl:List ResultVar)(S:SS U.D):Option (As U sg.codes):=
 Q74 U T S (Alx U T sg rl) (Q55 U S 0 sg.ps++Rk U S 30000 rl sg.rs)
def Rl (ag:Bool)(cs:List (SV U.D)):SA U.D:=match ag with
 |true=> .g cs
 |false=> .c (cs.headD .undef)
def Yb{X:Type}:(ts:List Nat)->(List (Σ t,U.D t)->X->Prop)->FnC U ts X->Prop
 |[],p,m=>p [] m
 |t::ts,p,m=> ∀x:U.D t,Yb ts (fun l=>p (⟨t,x⟩::l)) (m x)
def Ux{R:Type}(X:Ox U R)(c:Code):(ps:List PM)->Nat->List (SA U.D)->List (SB U.D)->Wh U ps (Option R)->Prop
 |[],_,as,H,m=>m=go U T X 1000 (.code c 1) (Wn U as H) []
 | .v t::ps,n,as,H,m=> ∀x:U.D t,Ux X c ps n (as++[Fq U t x]) H (m x)
 | .b t md::ps,n,as,H,m=> ∀x:U.D t,Ux X c ps (n+1) (as++[.c (.ptr (n+1) 0 0)]) (H++[.box 0 (U.cO t md x)]) (m x)
 | .w t md es::ps,n,as,H,m=> ∀x:U.D t,Ux X c ps (n+es.length) (as++[Rl U (U.ag t) (Q9 U n (U.cO t md x)).1]) (H++(Q9 U n (U.cO t md x)).2) (m x)
 | .r t::ps,n,as,H,m=> ∀x:U.D t,Ux X c ps n (as++[.c (.ptrB t x 0)]) H (m x)
 | .f fid caps ts::ps,n,as,H,m=>Yb U ts (fun rs m=>Ux X c ps n (as++[.c (.fn fid (caps.map fun i=>(i,0)) rs)]) H m) m
def Rm (P:Program)(f:FuncId)(sg:Sig):(ps:List PM)->Nat->List (SA U.D)->List (SB U.D)->Wh U ps (Option (As U sg.codes))->Prop
 |[],_,as,H,m=> ∀r,m=some r->Sp P f (as.map (SA.toA U)) (H.map (SB.toB U)) ((sg.res U r).toA U) ((sg.blks U r).map (SB.toB U))
 | .v t::ps,n,as,H,m=> ∀x:U.D t,Rm P f sg ps n (as++[Fq U t x]) H (m x)
 | .b t md::ps,n,as,H,m=> ∀x:U.D t,Rm P f sg ps (n+1) (as++[.c (.ptr (n+1) 0 0)]) (H++[.box 0 (U.cO t md x)]) (m x)
 | .w t md es::ps,n,as,H,m=> ∀x:U.D t,Rm P f sg ps (n+es.length) (as++[Rl U (U.ag t) (Q9 U n (U.cO t md x)).1]) (H++(Q9 U n (U.cO t md x)).2) (m x)
 | .r t::ps,n,as,H,m=> ∀x:U.D t,Rm P f sg ps n (as++[.c (.ptrB t x 0)]) H (m x)
 | .f fid caps ts::ps,n,as,H,m=>Yb U ts (fun rs m=>Rm P f sg ps n (as++[.c (.fn fid (caps.map fun i=>(i,0)) rs)]) H m) m
def Fl.Ok (P:Program)(f:FuncId)(c:Fl U):Prop:=Rm U P f c.sg c.sg.ps 0 [] [] c.m
end
end Go.Eng
namespace Go.Eng
structure Ab (U:Un):Prop where
 en: ∀t,En (U.en t) (U.sz t)
 eF: ∀t,Fj (U.eF t) (U.en t) (U.sz t)
 cs: ∀t x,(U.cs t x).map (SV.toV U)=U.en t x
 cO: ∀t x,(U.cO t true x).map (SV.toV U)=U.eF t x
 shut: ∀t m x,(U.cO t m x).all SV.shut=true
 fS: ∀t c x,U.fS t c=some x->c.map (SV.toV U)=U.en t x
 fO: ∀t m c x,U.fO t m c=some x->c.map (SV.toV U)=(U.cO t m x).map (SV.toV U)
 flat: ∀t,U.flat t=true->U.eF t=U.en t
 csSh: ∀t x,(U.cs t x).all SV.shut=true
 tagO: ∀t m x,(U.cO t m x).all Ez=true
 fresh: ∀t x,(!U.far t 1000||U.flat t)=true->(U.eF t x).all V.fresh=true
 cellsTag: ∀d t x,∀c∈U.cells d t x,Ez c=true
 far: ∀t x j v,(U.eF t x)[j]? =some v->U.far t j=true->v.share=v
section
variable {U:Un}
theorem Aly{α:Type}(k:Nat)(v:α)(r:List (Nat×α)):lk ((k,v)::r) k=some v:=by
 simp only[lk,Nat.beq_refl]
theorem Q68{α:Type}{k n:Nat}(v:α)(r:List (Nat×α))(h:n≠k):lk ((k,v)::r) n=lk r n:=by
 have:Nat.beq k n=false:=by
  cases e:Nat.beq k n with
  |false=>rfl
  |true=>exact absurd (Z2 e).symm h
 simp only[lk,this]
theorem Rn{α:Type}(k n:Nat)(v:α)(r:List (Nat×α)):lk ((k,v)::r) n=if n=k then some v else lk r n:=by
 by_cases h:n=k
 ·subst h;rw[Aly,if_pos rfl]
 ·rw[Q68 v r h,if_neg h]
theorem Abl (e:List (Nat×SA U.D))(H:List (Nat×Option (SB U.D)))(nv:List (Nat×Nat))(c:Nat)(dst:Option Tmp)(v:SA U.D)(t:Nat):
  (SS.get ⟨Aiq e dst v,H,nv,c⟩ t).toA U=Gm (fun t=>(SS.get (⟨e,H,nv,c⟩:SS U.D) t).toA U) dst (v.toA U) t:=by
 cases dst with
 |none=>rfl
 |some d=>
  simp only[Aiq,Gm,Aa,SS.get,Rn]
  by_cases h:t=d
  ·rw[if_pos h,if_pos h]
  ·rw[if_neg h,if_neg h]
theorem Ro (e:List (Nat×SA U.D))(H:List (Nat×Option (SB U.D)))(nv:List (Nat×Nat))(c k:Nat)(b:Option (SB U.D))(i:Nat):
  (⟨e,(k,b)::H,nv,c⟩:SS U.D).blk i=if i=k then b else(⟨e,H,nv,c⟩:SS U.D).blk i:=by
 simp only[SS.blk,Rn]
 by_cases h:i=k
 ·rw[if_pos h,if_pos h]
 ·rw[if_neg h,if_neg h]
theorem Afm (e:List (Nat×SA U.D))(nv:List (Nat×Nat))(c:Nat): ∀(l:List (Nat×Option (SB U.D))) (H:List (Nat×Option (SB U.D))) (i:Nat),
  ((⟨e,l.reverse++H,nv,c⟩:SS U.D).blk i).map (SB.toB U)=C1 (fun i=>((⟨e,H,nv,c⟩:SS U.D).blk i).map (SB.toB U)) (l.map fun p=>(p.1,p.2.map (SB.toB U))) i:=by
 intro l
 induction l with
 |nil=>intro H i;rfl
 |cons x r ih=>
  intro H i;obtain⟨k,b⟩:=x;rw[List.reverse_cons,Lc,ih];simp only[Z8,C1,List.singleton_append]
  congr 1
  funext j
  rw[Ro];simp only[Aa]
  by_cases h:j=k
  ·rw[if_pos h,if_pos h]
  ·rw[if_neg h,if_neg h]
theorem Rp: ∀(l:List Nat) (nv:List (Nat×Nat)) (i:Nat),Ju (Nb nv l) i=C2 (Ju nv) l i:=by
 intro l
 induction l with
 |nil=>intro nv i;rfl
 |cons x r ih=>
  intro nv i;rw[Nb,ih,C2]
  congr 1
  funext j
  simp only[Ju,Rn,Aa]
  by_cases h:j=x
  ·rw[if_pos h,if_pos h]
  ·rw[if_neg h,if_neg h]
theorem Q81 (S:SS U.D)(dst:Option Tmp)(r:Aj U.D):(S.app dst r).toSt U=(S.toSt U).app dst (r.toRec U):=by
 refine St.Sim.eq ⟨fun t=> ?_,fun i=> ?_,fun i=> ?_⟩
 ·exact Abl _ _ _ _ dst r.v t
 ·exact Afm _ _ _ r.upd S.H i
 ·exact Rp r.bump S.nv i
def SB.len:SB U.D->Nat
 | .rows _ _ _ _ l=>l.length
 | .opn _ _ _ _ l _ _ _=>l.length
 |_=>0
def SB.clean:SB U.D->Bool
 | .rows _ _ _ cl _=>cl
 |_=>false
def Dn (ctr:Nat)(τ:Nat->Int)(g:Nat)(n:Int):Prop:=g≠0->n=τ g∧(g % 2=0∨g<2*ctr+1)
def SV.ok (S:SS U.D)(τ:Nat->Int):SV U.D->Prop
 | .int _ n g=>Dn S.ctr τ g n
 | .own id ver n=>ver<S.ver id∧ ∀B,S.blk id=some B->B.ver=ver->n=B.len
 | .part id ver lo hi=>ver<S.ver id∧ ∀B,S.blk id=some B->B.ver=ver->0≤lo∧lo≤hi∧hi≤B.len
 | .ptrE id ver g i j=>Dn S.ctr τ g i∧ver<S.ver id∧ ∀B,S.blk id=some B->B.ver=ver->0≤i∧i<B.len
 | .ptrR t l i j=>0≤i∧i<l.length
 |_=>True
def Un.orig (S:SS U.D)(o:Option (SV U.D))(c:SV U.D):Prop:=
 o=some c∨ ∃nid ver n,c= .own nid ver n∧ ∀t' d' l',S.blk nid=some (.rows ver t' d' true l')->o=some (.rowT t' d' l')
def SB.ok (S:SS U.D)(τ:Nat->Int):SB U.D->Prop
 | .box _ cs=> ∀c∈cs,c.ok S τ
 | .opn _ t d dirty l g i cs=>(0≤i∧i<l.length)∧Dn S.ctr τ g i∧(∀c∈cs,c.ok S τ)∧cs.length=U.sz t∧
   (dirty=false-> ∀(j:Nat) c,cs[j]? =some c->Un.orig S ((U.cells d t (U.gt l i))[j]?) c)
 |_=>True
def SA.ok (S:SS U.D)(τ:Nat->Int):SA U.D->Prop
 | .c v=>v.ok S τ
 | .g cs=> ∀c∈cs,c.ok S τ
 | .t xs=> ∀x∈xs,∀c∈x.2,c.ok S τ
def A5 (S:SS U.D)(τ:Nat->Int):Prop:=
 (∀n:Nat,τ (2*n+2)=n)∧(∀t v,lk S.env t=some v->v.ok S τ)∧ ∀id B,S.blk id=some B->B.ver<S.ver id∧B.ok S τ
def WF (S:SS U.D):Prop:= ∃τ,A5 S τ
structure G4 (S S':SS U.D):Prop where
 ctr:S.ctr≤S'.ctr
 ver: ∀id,S.ver id≤S'.ver id
 old: ∀id B',S'.blk id=some B'->B'.ver<S.ver id-> ∃B,S.blk id=some B∧B.ver=B'.ver∧B.len=B'.len∧(B'.clean=true->B=B')
theorem G4.refl (S:SS U.D):G4 S S:=⟨Z9 _,fun _=>Z9 _,fun _ B h _=>⟨B,h,rfl,rfl,fun _=>rfl⟩⟩
theorem Dn.mono{a b:Nat}{τ:Nat->Int}{g:Nat}{n:Int}(h:Dn a τ g n)(hab:a≤b):Dn b τ g n:=fun hg=>⟨(h hg).1,(h hg).2.imp id fun h=>by omega⟩
theorem SV.ok.mono{S S':SS U.D}{τ:Nat->Int}{v:SV U.D}(h:v.ok S τ)(e:G4 S S'):v.ok S' τ:=by
 cases v with
 |int k n g=>exact Dn.mono h e.ctr
 |own id ver n=>
  refine⟨Tk h.1 (e.ver id),fun B hB hv=> ?_⟩;obtain⟨B0,h1,h2,h3,_⟩:=e.old id B hB (by have:=h.1;omega)
  rw[←h3];exact h.2 B0 h1 (by omega)
 |part id ver lo hi=>
  refine⟨Tk h.1 (e.ver id),fun B hB hv=> ?_⟩;obtain⟨B0,h1,h2,h3,_⟩:=e.old id B hB (by have:=h.1;omega)
  rw[←h3];exact h.2 B0 h1 (by omega)
 |ptrE id ver g i j=>
  refine⟨h.1.mono e.ctr,Tk h.2.1 (e.ver id),fun B hB hv=> ?_⟩;obtain⟨B0,h1,h2,h3,_⟩:=e.old id B hB (by have:=h.2.1;omega)
  rw[←h3];exact h.2.2 B0 h1 (by omega)
 |ptrR=>exact h
 |_=>trivial
theorem Un.orig.mono{S S':SS U.D}{τ:Nat->Int}{o:Option (SV U.D)}{c:SV U.D}(h:Un.orig S o c)(hc:c.ok S τ)(e:G4 S S'):Un.orig S' o c:=by
 rcases h with h|⟨nid,ver,n,rfl,h⟩
 ·exact .inl h
 ·refine .inr ⟨nid,ver,n,rfl,fun t' d' l' hB=> ?_⟩;obtain⟨B0,h1,h2,h3,h4⟩:=e.old nid _ hB (by have:=hc.1;simpa[SB.ver]using this)
  have:=h4 rfl;subst this;exact h t' d' l' h1
theorem SB.ok.mono{S S':SS U.D}{τ:Nat->Int}{B:SB U.D}(h:B.ok S τ)(e:G4 S S'):B.ok S' τ:=by
 cases B with
 |box v cs=>exact fun c hc=>(h c hc).mono e
 |opn v t d q l g i cs=>exact⟨h.1,h.2.1.mono e.ctr,fun c hc=>(h.2.2.1 c hc).mono e,h.2.2.2.1,fun hq j c hj=>(h.2.2.2.2 hq j c hj).mono (h.2.2.1 c (Z6 hj)) e⟩
 |_=>trivial
theorem SA.ok.mono{S S':SS U.D}{τ:Nat->Int}{x:SA U.D}(h:x.ok S τ)(e:G4 S S'):x.ok S' τ:=by
 cases x with
 |c v=>exact SV.ok.mono h e
 |g cs=>exact fun c hc=>(h c hc).mono e
 |t xs=>exact fun x hx c hc=>(h x hx c hc).mono e
theorem A5.get{S:SS U.D}{τ:Nat->Int}(h:A5 S τ)(t:Nat):(S.get t).ok S τ:=by
 unfold SS.get;cases e:lk S.env t with
 |none=>exact trivial
 |some v=>exact h.2.1 t v e
theorem A5.app{S:SS U.D}{τ:Nat->Int}(h:A5 S τ){dst:Option Tmp}{r:Aj U.D}(e:G4 S (S.app dst r))(hv:r.v.ok (S.app dst r) τ)
  (hb: ∀id B,(S.app dst r).blk id=some B->S.blk id=some B∨(B.ver<(S.app dst r).ver id∧B.ok (S.app dst r) τ)):A5 (S.app dst r) τ:=by
 refine⟨h.1,fun t v ht=> ?_,fun id B hB=> ?_⟩
 ·cases dst with
  |none=>exact(h.2.1 t v ht).mono e
  |some d=>
   have ht:lk ((d,r.v)::S.env) t=some v:=ht;rw[Rn]at ht;split at ht
   ·cases ht;exact hv
   ·exact(h.2.1 t v ht).mono e
 ·rcases hb id B hB with h1|h1
  ·exact⟨Tk (h.2.2 id B h1).1 (e.ver id),(h.2.2 id B h1).2.mono e⟩
  ·exact h1
theorem Rq{S:SS U.D}{dst:Option Tmp}{v:SA U.D}{use ids:List Nat}:G4 S (S.app dst {v,use,ids}):=⟨Z9 _,fun _=>Z9 _,fun _ B h _=>⟨B,h,rfl,rfl,fun _=>rfl⟩⟩
theorem A5.pure{S:SS U.D}{τ:Nat->Int}(h:A5 S τ){dst:Option Tmp}{v:SA U.D}{use ids:List Nat}(hv:v.ok S τ):A5 (S.app dst {v,use,ids}) τ:=
 h.app Rq (hv.mono Rq) fun id B hB=> .inl hB
end
end Go.Eng
namespace Go.Eng
section
variable {U:Un} {T:Tab} {F:Fr} {S:SS U.D} {τ:Nat->Int}
def C6 (U:Un):SV U.D->Nat
 | .rowT e _ _=>U.sz e
 |_=>0
theorem Mi (t:Nat)(v:Value)(h:(Bj (D:=U.D) T t v).solid=true):(Bj (D:=U.D) T t v).toV U=Gq (C6 U (Bj (D:=U.D) T t v)) v:=by
 unfold Bj at h ⊢;split
 ·rfl
 ·rfl
 ·rfl
 ·rfl
 ·split
  ·rename_i ti h1;split
   ·rfl
   ·rename_i h2;simp only[h1,h2]at h;cases h
  ·rename_i h1;simp only[h1]at h;cases h
 ·rename_i h1 h2 h3 h4 h5;simp only[h1,h2,h3,h4,h5]at h;cases h
theorem Q71 (t:Nat)(v:Value)(hτ: ∀n:Nat,τ (2*n+2)=n):(Bj (D:=U.D) T t v).ok S τ:=by
 unfold Bj;split
 ·trivial
 ·rename_i k n
  show Dn S.ctr τ (Gs n) n;intro hg;cases n with
  |ofNat n=>exact⟨(hτ n).symm,.inl (by simp[Gs])⟩
  |negSucc n=>exact absurd rfl hg
 ·trivial
 ·trivial
 ·split
  ·split<;>trivial
  ·trivial
 ·trivial
theorem Yc: ∀(ls:List Nat) (vs:List Value),ls.length=vs.length->Q6 (Rb (D:=U.D) T ls vs)=true->(Rb (D:=U.D) T ls vs).map (SV.toV U)=Hz ((Rb (D:=U.D) T ls vs).map (C6 U)) vs:=by
 intro ls
 induction ls with
 |nil=>intro vs hl h;cases vs with|nil=>rfl|cons v r=>cases hl
 |cons t r ih=>
  intro vs hl h;cases vs with
  |nil=>cases hl
  |cons v s=>
   simp only[Rb,Q6,Fw,Z4]at h;simp only[Rb,Z8,Hz,List.headD_cons,List.tail_cons];rw[Mi t v h.1,ih s (by simpa using hl) h.2]
theorem Rr (hτ: ∀n:Nat,τ (2*n+2)=n): ∀(ls:List Nat) (vs:List Value),∀c∈Rb (D:=U.D) T ls vs,c.ok S τ:=by
 intro ls
 induction ls with
 |nil=>intro vs c hc;cases vs<;>cases hc
 |cons t r ih=>
  intro vs c hc;cases vs with
  |nil=>cases hc
  |cons v s=>
   rcases Di.1 hc with rfl|h
   ·exact Q71 t v hτ
   ·exact ih s c h
theorem Q40 (t:Nat)(v:Value)(h: ∀cs,v≠ .agg cs):Tj (D:=U.D) T t v= .c (Bj T t v):=by
 cases v<;>first|rfl|exact absurd rfl (h _)
theorem Q48 (sh:List Nat)(v:Value)(h: ∀cs,v≠ .agg cs):Mz sh v= .c (Gq (sh.headD 0) v):=by
 cases v<;>first|rfl|exact absurd rfl (h _)
theorem Mj (t:Nat)(v:Value)(h:Q6 (Tj (D:=U.D) T t v).cells=true):(Tj (D:=U.D) T t v).toA U=Mz ((Tj (D:=U.D) T t v).cells.map (C6 U)) v:=by
 by_cases hv: ∃cs,v= .agg cs
 ·obtain⟨cs,rfl⟩:=hv;unfold Tj at h ⊢;simp only at h ⊢;cases e:A3 T 50 t with
  |none=>rw[e]at h;cases h
  |some ls=>
   simp only[e]at h ⊢;cases e2:Nat.beq ls.length cs.toList.length with
   |false=>rw[e2]at h;cases h
   |true=>
    simp only[e2]at h ⊢
    show A.g _=A.g _;rw[Yc ls cs.toList (Z2 e2) h];rfl
 ·have hv': ∀cs,v≠ .agg cs:=fun cs e=>hv ⟨cs,e⟩;rw[Q40 t v hv']at h ⊢;rw[Q48 _ v hv']
  show A.c _=A.c _
  have h:(Bj (D:=U.D) T t v).solid=true:=by simpa[Q6,SA.cells]using h
  rw[Mi t v h];rfl
theorem Rs (hτ: ∀n:Nat,τ (2*n+2)=n)(t:Nat)(v:Value):(Tj (D:=U.D) T t v).ok S τ:=by
 by_cases hv: ∃cs,v= .agg cs
 ·obtain⟨cs,rfl⟩:=hv;unfold Tj;simp only;split
  ·split
   ·exact Rr hτ _ _
   ·trivial
  ·trivial
 ·rw[Q40 t v fun cs e=>hv ⟨cs,e⟩];exact Q71 t v hτ
theorem Zs{ty:Nat}{x:Operand}(h:F7 U x (S.val T ty x)=true):(S.toSt U).val ((S.val T ty x).cells.map (C6 U)) x=(S.val T ty x).toA U:=by
 cases x with
 |tmp t=>rfl
 |const v=>exact(Mj ty v h).symm
 |func f=>rfl
 |global g=>rfl
theorem A5.val (h:A5 S τ)(ty:Nat)(x:Operand):(S.val T ty x).ok S τ:=by
 cases x with
 |tmp t=>exact h.get t
 |const v=>exact Rs h.1 ty v
 |func f=>trivial
 |global g=>trivial
theorem Yd (sh sh':List Nat)(v:Value)(h: ∀n c,v≠ .slice none n c)(h2: ∀cs,v≠ .agg cs):Mz sh v=Mz sh' v:=by
 rw[Q48 sh v h2,Q48 sh' v h2];cases v with
 |slice a n c=>cases a with|none=>exact absurd rfl (h n c)|some a=>rfl
 |pointer a=>cases a<;>rfl
 |_=>rfl
theorem N0 (t n c:Nat):Bj (D:=U.D) T t (.slice none n c)= .undef∨ ∃e,Bj (D:=U.D) T t (.slice none n c)= .rowT e true []:=by
 generalize hv:Value.slice none n c=v;unfold Bj;split
 ·cases hv
 ·cases hv
 ·cases hv
 ·cases hv
 ·split
  ·split
   ·exact .inr ⟨_,rfl⟩
   ·exact .inl rfl
  ·exact .inl rfl
 ·exact .inl rfl
theorem Ahd{ty:Nat}{x:Operand}{v:SV U.D}(h:S.val T ty x= .c v)(hs:v.solid=true)(ht:isT v=false):(S.toSt U).val [] x= .c (v.toV U):=by
 cases x with
 |tmp t=>show(S.get t).toA U=_;have h:S.get t= .c v:=h;rw[h];rfl
 |const w=>
  have h:Tj T ty w= .c v:=h
  have hw: ∀cs,w≠ .agg cs:=by
   rintro cs rfl;unfold Tj at h;simp only at h;split at h
   ·split at h
    ·cases h
    ·cases h;cases hs
   ·cases h;cases hs
  have hk:(S.toSt U).val (([v]:List (SV U.D)).map (C6 U)) (.const w)= .c (v.toV U):=by
   have:=Mj (U:=U) (T:=T) ty w (by rw[h];simpa[Q6,SA.cells]using hs)
   rw[h]at this;exact this.symm
  refine Eq.trans ?_ hk;refine Yd _ _ w (fun n c e=> ?_) hw;subst e;rw[Q40 ty _ hw]at h;cases h;rcases N0 (U:=U) (T:=T) ty n c with e|⟨e',e⟩
  ·rw[e]at hs;cases hs
  ·rw[e]at ht;cases ht
 |func f=>cases h;rfl
 |global g=>cases h;rfl
theorem Alz (t:Nat)(v:Value):(Bj (D:=U.D) T t v)= .undef∨(Bj (D:=U.D) T t v).solid=true:=by
 unfold Bj;split
 ·exact .inr rfl
 ·exact .inr rfl
 ·exact .inr rfl
 ·exact .inr rfl
 ·split
  ·split
   ·exact .inr rfl
   ·exact .inl rfl
  ·exact .inl rfl
 ·exact .inl rfl
theorem Em{ty:Nat}{x:Operand}{v:SV U.D}(h:S.val T ty x= .c v)(hs:v≠ .undef)(ht:isT v=false):(S.toSt U).val [] x= .c (v.toV U):=by
 cases x with
 |tmp t=>show(S.get t).toA U=_;have h:S.get t= .c v:=h;rw[h];rfl
 |const w=>
  refine Ahd h ?_ ht
  have h:Tj T ty w= .c v:=h
  by_cases hw: ∃cs,w= .agg cs
  ·obtain⟨cs,rfl⟩:=hw;unfold Tj at h;simp only at h;split at h
   ·split at h
    ·cases h
    ·cases h;exact absurd rfl hs
   ·cases h;exact absurd rfl hs
  ·rw[Q40 ty w fun cs e=>hw ⟨cs,e⟩]at h;cases h;exact(Alz ty w).resolve_left hs
 |func f=>cases h;rfl
 |global g=>cases h;exact absurd rfl hs
theorem J2{ty:Nat}{x:Operand}{k:IntKind}{n:Int}{g:Nat}(h:S.val T ty x= .c (.int k n g)):(S.toSt U).val [] x= .c (.int k n):=Em h (by simp) rfl
theorem Q62{ty:Nat}{x:Operand}{b:Bool}(h:S.val T ty x= .c (.bool b)):(S.toSt U).val [] x= .c (.bool b):=Em h (by simp) rfl
theorem Abm{ty:Nat}{x:Operand}{b:ByteArray}(h:S.val T ty x= .c (.str b)):(S.toSt U).val [] x= .c (.str b):=Em h (by simp) rfl
theorem Ja{ty:Nat}{x:Operand}{t:Nat}{l:List (U.D t)}(h:S.val T ty x= .c (.row t l)):(S.toSt U).val [] x= .c (.row false (U.sz t) (l.map (U.en t))):=Em h (by simp) rfl
theorem Q92{ty:Nat}{x:Operand}{id ver n:Nat}(h:S.val T ty x= .c (.own id ver n)):(S.toSt U).val [] x= .c (.own id ver 0 n):=Em h (by simp) rfl
theorem Ye{ty:Nat}{x:Operand}{id ver j:Nat}(h:S.val T ty x= .c (.ptr id ver j)):(S.toSt U).val [] x= .c (.ptr id ver 0 j):=Em h (by simp) rfl
theorem Q61{ty:Nat}{x:Operand}{id ver g j:Nat}{i:Int}(h:S.val T ty x= .c (.ptrE id ver g i j)):(S.toSt U).val [] x= .c (.ptr id ver i.toNat j):=Em h (by simp) rfl
theorem Ru{ty:Nat}{x:Operand}{id ver:Nat}{i:Int}(h:S.val T ty x= .c (.ptrA id ver i)):(S.toSt U).val [] x= .c (.ptr id ver 0 i.toNat):=Em h (by simp) rfl
theorem Afo{ty:Nat}{x:Operand}{t:Nat}{y:U.D t}{j:Nat}(h:S.val T ty x= .c (.ptrB t y j)):(S.toSt U).val [] x= .c (.ip (U.sz t) [U.en t y] 0 j):=Em h (by simp) rfl
theorem Rv{ty:Nat}{x:Operand}{t:Nat}{l:List (U.D t)}{i:Int}{j:Nat}(h:S.val T ty x= .c (.ptrR t l i j)):(S.toSt U).val [] x= .c (.ip (U.sz t) (l.map (U.en t)) i.toNat j):=Em h (by simp) rfl
theorem Al0{ty:Nat}{x:Operand}{cs:List (SV U.D)}(h:S.val T ty x= .g cs)(hc:F7 U x (.g cs)=true):(S.toSt U).val (cs.map (C6 U)) x= .g (cs.map (SV.toV U)):=by
 have:=Zs (U:=U) (T:=T) (S:=S) (ty:=ty) (x:=x) (by rw[h];exact hc)
 rwa[h]at this
theorem Rw (cs:List (SV U.D)): ∀(vs:List Value),cs.map (SV.toV U)=Hz (cs.map (C6 U)) vs->Ef cs=true->cs.map (SV.toV U)=Hz [] vs:=by
 induction cs with
 |nil=>intro vs h _;cases vs with|nil=>rfl|cons v r=>cases h
 |cons c r ih=>
  intro vs h hn;cases vs with
  |nil=>cases h
  |cons v s=>
   simp only[Ef,Fw,Z4]at hn;simp only[Z8,Hz,List.headD_cons,List.tail_cons,Ld]at h;simp only[Z8,Hz,List.headD_nil,List.tail_nil];rw[←ih s h.2 hn.2]
   congr 1
   have:C6 U c=0:=by cases c<;>first|rfl|(simp[isT]at hn)
   rw[this]at h;exact h.1
theorem N1{ty:Nat}{x:Operand}{cs:List (SV U.D)}(h:S.val T ty x= .g cs)(hc:F7 U x (.g cs)=true)(hn:Ef cs=true):(S.toSt U).val [] x= .g (cs.map (SV.toV U)):=by
 have:=Al0 h hc;cases x with
 |const v=>
  have this:Mz (cs.map (C6 U)) v= .g (cs.map (SV.toV U)):=this
  by_cases hv: ∃vs,v= .agg vs
  ·obtain⟨vs,rfl⟩:=hv
   show A.g (Hz [] vs.toList)=_
   have this:A.g (Hz (cs.map (C6 U)) vs.toList)= .g (cs.map (SV.toV U)):=this;rw[←Rw cs vs.toList (by injection this with e;exact e.symm) hn]
  ·rw[Q48 _ v fun vs e=>hv ⟨vs,e⟩]at this;cases this
 |tmp t=>exact this
 |func f=>exact this
 |global g=>exact this
theorem Abn{ty:Nat}{x:Operand}{xs:List (Bool×List (SV U.D))}(h:S.val T ty x= .t xs):(S.toSt U).val [] x=(SA.t xs).toA U:=by
 cases x with
 |tmp t=>show(S.get t).toA U=_;have h:S.get t= .t xs:=h;rw[h]
 |const w=>
  have h:Tj T ty w= .t xs:=h
  by_cases hw: ∃cs,w= .agg cs
  ·obtain⟨cs,rfl⟩:=hw;unfold Tj at h;simp only at h;split at h
   ·split at h<;>cases h
   ·cases h
  ·rw[Q40 ty w fun cs e=>hw ⟨cs,e⟩]at h;cases h
 |func f=>cases h
 |global g=>cases h
def Bp (U:Un)(F:Fr)(T:Tab)(S:SS U.D)(τ:Nat->Int)(o:Oper){α:Type}(k:Aj U.D->Option α)(r:α):Prop:=
 ∃rec:Aj U.D,k rec=some r∧Ca F T o (S.toSt U) (rec.toRec U)∧A5 (S.app o.dst rec) τ
theorem Bp.pure{o:Oper}{α:Type}{k:Aj U.D->Option α}{r:α}{v:SA U.D}{use ids:List Nat}(h:A5 S τ)(hv:v.ok S τ)(hs:Ca F T o (S.toSt U) {v:=v.toA U,use,ids})(hk:k {v,use,ids}=some r):Bp U F T S τ o k r:=
 ⟨_,hk,hs,h.pure hv⟩
end
end Go.Eng
namespace Go.Eng
section
variable {U:Un} {T:Tab} {F:Fr} {S:SS U.D} {τ:Nat->Int} {o:Oper} {α:Type} {k:Aj U.D->Option α} {r:α}
theorem Fs{ctr:Nat}{n:Int}:Dn ctr τ 0 n:=fun h=>absurd rfl h
theorem Rx (hw:A5 S τ){ty:Nat}{x:Operand}(ho:o.op= .move x∨o.op= .assign x)(h:Wg U T S ty x k=some r):Bp U F T S τ o k r:=by
 unfold Wg at h;split at h
 ·rename_i hc;refine Bp.pure hw (hw.val ty x) ?_ h;rcases ho with ho|ho
  ·exact sM ho _ (Zs hc)
  ·exact sA ho _ (Zs hc)
 ·cases h
theorem Abo (hw:A5 S τ){ty:Nat}{c x y:Operand}(ho:o.op= .pick c x y)(h:Aax U T S ty c x y k=some r):Bp U F T S τ o k r:=by
 unfold Aax at h;split at h
 ·rename_i b hb;split at h
  ·rename_i hc;refine Bp.pure hw (hw.val ty _) ?_ h;refine sPk ho ((S.val T ty (bif b then x else y)).cells.map (C6 U)) (Q62 hb) ?_
   have:=Zs hc;cases b<;>exact this
  ·cases h
 ·cases h
theorem Afp{op:BinOp}{k:IntKind}{a b:Int}{v:SV U.D}(h:Alt op k a b=some v):Aew op k a b=some (v.toV U)∧v.ok S τ:=by
 cases op<;>first|(cases h;exact⟨rfl,Fs⟩)|(cases h;exact⟨rfl,trivial⟩)|cases h
theorem Q76{op:BinOp}{e:Bool}(h:Aay op=some e):(op= .eql∧e=true)∨(op= .neq∧e=false):=by
 cases op<;>simp_all[Aay]
theorem Afq (hw:A5 S τ){op:BinOp}{t ty:Nat}{x y:Operand}(ho:o.op= .binOp op t x y ty)(h:Ais U T S op t x y ty k=some r):Bp U F T S τ o k r:=by
 unfold Ais at h;split at h
 ·rename_i k1 a g1 k2 b g2 hx hy;split at h
  ·rename_i v hv;split at h
   ·rename_i hk
    have hk:k1=k2:=of_decide_eq_true hk;subst hk;obtain⟨e,hok⟩:=Afp (S:=S) (τ:=τ) hv;exact Bp.pure hw (v:= .c v) hok (sBi ho (J2 hx) (J2 hy) e) h
   ·cases h
  ·unfold Ahb at h;split at h
   ·split at h
    ·rename_i hb;exact Bp.pure hw (v:= .c (.int k1 (Aln k1 a b) 0)) Fs (sSh ho (J2 hx) (J2 hy) hb) h
    ·cases h
   ·split at h
    ·rename_i hb;exact Bp.pure hw (v:= .c (.int k1 (Alo k1 a b) 0)) Fs (sSr ho (J2 hx) (J2 hy) hb) h
    ·cases h
   ·split at h
    ·rename_i hk
     have hk:k1=k2:=of_decide_eq_true hk;subst hk;split at h
     ·rename_i hb;exact Bp.pure hw (v:= .c (.int k1 (Alp k1 a b) 0)) Fs (sQu ho (J2 hx) (J2 hy) hb) h
     ·cases h
    ·cases h
   ·split at h
    ·rename_i hk
     have hk:k1=k2:=of_decide_eq_true hk;subst hk;split at h
     ·rename_i hb;exact Bp.pure hw (v:= .c (.int k1 (Int.tmod a b) 0)) Fs (sRe ho (J2 hx) (J2 hy) hb) h
     ·cases h
    ·cases h
   ·cases h
 ·rename_i a b hx hy;split at h
  ·rename_i he;rcases Q76 he with ⟨rfl,_⟩|⟨_,h2⟩
   ·exact Bp.pure hw (v:= .c (.bool (a.toList==b.toList))) trivial (by have:=Ag9 (F:=F) (T:=T) ho (.inl rfl) (Abm hx) (Abm hy);simp at this;exact this) h
   ·cases h2
  ·rename_i he;rcases Q76 he with ⟨_,h2⟩|⟨rfl,_⟩
   ·cases h2
   ·exact Bp.pure hw (v:= .c (.bool (!(a.toList==b.toList)))) trivial (by have:=Ag9 (F:=F) (T:=T) ho (.inr rfl) (Abm hx) (Abm hy);simp at this;exact this) h
  ·cases h
 ·rename_i a b hx hy;split at h
  ·rename_i ti ht;split at h
   ·rename_i hk;split at h
    ·rename_i he;rcases Q76 he with ⟨rfl,_⟩|⟨_,h2⟩
     ·exact Bp.pure hw (v:= .c (.bool (a==b))) trivial (by have:=sBe (F:=F) (T:=T) ho (.inl rfl) (Q62 hx) (Q62 hy) ht hk;simp at this;exact this) h
     ·cases h2
    ·rename_i he;rcases Q76 he with ⟨_,h2⟩|⟨rfl,_⟩
     ·cases h2
     ·exact Bp.pure hw (v:= .c (.bool (!(a==b)))) trivial (by have:=sBe (F:=F) (T:=T) ho (.inr rfl) (Q62 hx) (Q62 hy) ht hk;simp at this;exact this) h
    ·cases h
   ·cases h
  ·cases h
 ·cases h
def Abp (P:Program)(T:Tab)(ok:Nat->Bool):Prop:= ∀t,ok t=true->P.eqGuardType P.depth t=false∧F5 P T 20 t=true
theorem Abq (hw:A5 S τ){ok:Nat->Bool}(he:Abp F.P T ok){op:BinOp}{t ty:Nat}{x y:Operand}(ho:o.op= .binOp op t x y ty)(h:Aaz U T ok S op t x y ty k=some r):Bp U F T S τ o k r:=by
 unfold Aaz at h;split at h
 ·rename_i us vs hx hy;split at h
  ·rename_i ti b e ht hv hop;split at h
   ·rename_i hc;simp only[Z4]at hc;obtain⟨⟨⟨⟨⟨hag,hok⟩,h1⟩,h2⟩,hcx⟩,hcy⟩:=hc;obtain⟨hg,hok2⟩:=he t hok
    have vx:=N1 hx hcx.1 hcx.2
    have vy:=N1 hy hcy.1 hcy.2
    have key: ∀q:op= .eql∨op= .neq,Ca F T o (S.toSt U) {v:= .c (.bool (if op= .eql then b else !b)),use:=Q2 [x,y]}:=fun q=>by
     have:=sEs (F:=F) ho q vx vy ht hag hg hok2 (by simpa using Z2 h1) (by simpa using Z2 h2) hv
     exact this
    rcases Q76 hop with ⟨rfl,rfl⟩|⟨rfl,rfl⟩
    ·exact Bp.pure hw (v:= .c (.bool b)) trivial (by have:=key (.inl rfl);simp at this;exact this) h
    ·exact Bp.pure hw (v:= .c (.bool (!b))) trivial (by have:=key (.inr rfl);simp at this;exact this) h
   ·cases h
  ·cases h
 ·cases h
theorem Ai2 (hw:A5 S τ){op:UnOp}{t:Nat}{x:Operand}(ho:o.op= .unOp op t x)(h:sUn U T S op t x k=some r):Bp U F T S τ o k r:=by
 unfold sUn at h;split at h
 ·rename_i b hx;exact Bp.pure hw (v:= .c (.bool (!b))) trivial (sNt ho (Q62 hx)) h
 ·rename_i k1 n g hx;exact Bp.pure hw (v:= .c (.int k1 (Alq k1 n) 0)) Fs (sNg ho (J2 hx)) h
 ·cases h
theorem Abr (hw:A5 S τ){s t:Nat}{x:Operand}(ho:o.op= .convert s t x)(h:Aa0 U T S s t x k=some r):Bp U F T S τ o k r:=by
 unfold Aa0 at h;split at h
 ·rename_i k1 n g i j hx hi hj;split at h
  ·rename_i k2 k3 h2 h3;split at h
   ·rename_i hk
    have hk:k1=k2:=of_decide_eq_true hk;subst hk;exact Bp.pure hw (v:= .c (.int k3 (k3.wrap n) 0)) Fs (sCv ho hi hj h2 h3 (J2 hx)) h
   ·cases h
  ·cases h
 ·cases h
theorem Yf (hw:A5 S τ){s f:Nat}{x:Operand}(ho:o.op= .fieldAddr s x f)(h:Ue U T S s x f k=some r):Bp U F T S τ o k r:=by
 unfold Ue at h
 have hx0:=hw.val (T:=T) 0 x;split at h
 ·rename_i off id ver j hf hx;exact Bp.pure hw (v:= .c (.ptr id ver (j+off))) trivial (sFP ho (Ye hx) hf) h
 ·rename_i off id ver g i j hf hx;rw[hx]at hx0;exact Bp.pure hw (v:= .c (.ptrE id ver g i (j+off))) hx0 (sFP ho (Q61 hx) hf) h
 ·rename_i off t l i j hf hx;rw[hx]at hx0;exact Bp.pure hw (v:= .c (.ptrR t l i (j+off))) hx0 (sFI ho (Rv hx) hf) h
 ·rename_i off t y j hf hx;exact Bp.pure hw (v:= .c (.ptrB t y (j+off))) trivial (sFI ho (Afo hx) hf) h
 ·cases h
theorem Abs (hw:A5 S τ){x:Operand}(ho:o.op= .nilCheck x)(h:Aa1 U T S x k=some r):Bp U F T S τ o k r:=by
 unfold Aa1 at h
 have hx0:=hw.val (T:=T) 0 x;split at h
 ·rename_i id ver j hx;exact Bp.pure hw (v:= .c (.ptr id ver j)) trivial (sNc ho (Ye hx)) h
 ·rename_i id ver g i j hx;rw[hx]at hx0;exact Bp.pure hw (v:= .c (.ptrE id ver g i j)) hx0 (sNc ho (Q61 hx)) h
 ·rename_i t y j hx;exact Bp.pure hw (v:= .c (.ptrB t y j)) trivial (Aw _ _ fun he S' h1 h2=>Alm ho [] (vc h1 (by simp) (Afo hx)) rfl) h
 ·cases h
theorem Afr (hw:A5 S τ){x:Operand}{n:Nat}(ho:o.op= .extract x n)(h:Aiu U T S x n k=some r):Bp U F T S τ o k r:=by
 unfold Aiu at h
 have hx0:=hw.val (T:=T) 0 x;split at h
 ·rename_i xs hx;rw[hx]at hx0;split at h
  ·rename_i cs hn;refine Bp.pure hw (v:= .g cs) (fun c hc=>hx0 _ (Z6 hn) c hc) (sEx ho (Abn hx) ?_) h;rw[B5,hn];rfl
  ·rename_i v hn;refine Bp.pure hw (v:= .c v) (hx0 _ (Z6 hn) v (by simp)) (sEx ho (Abn hx) ?_) h
   rw[B5,hn];rfl
  ·cases h
 ·cases h
theorem J3 (hw:A5 S τ){mx:Bool}{x y:Operand}{ats:Array TypeId}(ho:o.op= .call {callee:= .builtin (match mx with|true=> .max|false=> .min),args:= #[x,y],argTypes:=ats})(h:H6 U T S mx x y k=some r):Bp U F T S τ o k r:=by
 unfold H6 at h;split at h
 ·rename_i k1 a g1 k2 b g2 hx hy;split at h
  ·rename_i hk;cases mx with
   |true=>exact Bp.pure hw (v:= .c (.int k1 (Aar a b) 0)) Fs (sMx ho (J2 hx) (J2 hy)) h
   |false=>exact Bp.pure hw (v:= .c (.int k1 (Aaq a b) 0)) Fs (sMn ho (J2 hx) (J2 hy)) h
  ·cases h
 ·cases h
end
end Go.Eng
namespace Go.Eng
section
variable {U:Un} {T:Tab} {F:Fr} {S:SS U.D} {τ:Nat->Int} {o:Oper} {α:Type} {k:Aj U.D->Option α} {r:α}
theorem Ab.eT (hU:Ab U)(d:Bool)(t:Nat):(∀a,(U.eT d t a).length=U.sz t)∧ ∀a,(U.eT d t a).all V.closed=true:=by
 cases d with
 |true=>exact⟨(hU.eF t).len,(hU.eF t).closed⟩
 |false=>exact⟨(hU.en t).len,(hU.en t).closed⟩
theorem Ab.cells (hU:Ab U)(d:Bool)(t:Nat)(a:U.D t):(U.cells d t a).map (SV.toV U)=U.eT d t a:=by
 cases d with
 |true=>exact hU.cO t a
 |false=>exact hU.cs t a
theorem Ab.cellsShut (hU:Ab U)(d:Bool)(t:Nat)(a:U.D t):(U.cells d t a).all SV.shut=true:=by
 cases d with
 |true=>exact hU.shut t true a
 |false=>exact hU.csSh t a
theorem Ab.cellsLen (hU:Ab U)(d:Bool)(t:Nat)(a:U.D t):(U.cells d t a).length=U.sz t:=by
 have:=congrArg List.length (hU.cells d t a);rw[Bu,(hU.eT d t).1]at this;exact this
theorem Q49{c:SV U.D}(h:c.shut=true)(ht:Ez c=true):c.ok S τ:=by
 cases c<;>first|trivial|(cases h)|skip
 rename_i k n g
 have:g=0:=Z2 ht;subst this;exact Fs
theorem Jb{α β:Type}(f:α->β)(l:List α)(j n:Nat):(slc l j n).map f=((l.map f).drop j).take n:=by
 simp only[slc,List.map_take,List.map_drop]
theorem Q59 (c:SV U.D):Th (c.toV U)=isT c:=by cases c<;>rfl
theorem Ry{l:List (SV U.D)}(h:Ef l=true):(l.map (SV.toV U)).all (fun v=> !Th v)=true:=by
 rw[List.all_map];rw[Ef]at h;refine Z1.2 fun c hc=> ?_
 have:=Z1.1 h c hc;simpa[Q59]using this
theorem Abu{agg:Bool}{cs:List (SV U.D)}{v:SA U.D}(h:Aaw agg cs=some v):Dk agg (cs.map (SV.toV U))=some (v.toA U)∧v.cells=cs:=by
 cases agg with
 |true=>cases h;exact⟨rfl,rfl⟩
 |false=>
  cases cs with
  |nil=>cases h
  |cons c r=>cases r with
   |nil=>cases h;exact⟨rfl,rfl⟩
   |cons d r=>cases h
theorem Yg{agg:Bool}{cs:List (SV U.D)}{v:SA U.D}(h:Aaw agg cs=some v)(xs:List (Bool×List (SV U.D))):v≠ .t xs:=by
 rintro rfl;cases agg with
 |true=>cases h
 |false=>cases cs with
  |nil=>cases h
  |cons c r=>cases r<;>cases h
theorem Abv{v:SA U.D}(h: ∀c∈v.cells,c.ok S τ)(hn: ∀xs,v≠ .t xs):v.ok S τ:=by
 cases v with
 |c v=>exact h v (by simp[SA.cells])
 |g cs=>exact h
 |t xs=>exact absurd rfl (hn xs)
theorem J4{use:List Tmp}{ids:List Nat}{agg:Bool}{sz j:Nat}{cs:List (SV U.D)}(h:Q65 U S use ids agg sz j cs k=some r)(hc: ∀c∈cs,c.ok S τ):
  ∃v:SA U.D,k {v,use,ids}=some r∧Nat.ble (j+sz) (cs.map (SV.toV U)).length=true∧Dk agg (((cs.map (SV.toV U)).drop j).take sz)=some (v.toA U)∧(((cs.map (SV.toV U)).drop j).take sz).all (fun v=> !Th v)=true∧v.ok S τ:=by
 unfold Q65 at h;split at h
 ·rename_i v hb hv;simp only[Z4]at hb;obtain⟨h1,h2⟩:=Abu hv;refine⟨v,h,by rw[Bu];exact hb.1,by rw[←Jb];exact h1,by rw[←Jb];exact Ry hb.2,Abv (fun c hcm=> ?_) ?_⟩
  ·rw[h2]at hcm;exact hc c (List.mem_of_mem_drop (Zm hcm))
  ·exact Yg hv
 ·cases h
theorem Ac{id:Nat}{B:SB U.D}(h:S.blk id=some B):(S.toSt U).H id=some (B.toB U):=by
 show(S.blk id).map _=_;rw[h];rfl
theorem N2{B:SB U.D}{ver e t:Nat}{l:List (U.D t)}(h:B.list=some (ver,e,⟨t,l⟩)):B.ver=ver∧t=e∧(B.toB U).ver=ver∧(B.toB U).es=U.sz e∧B.len=l.length:=by
 cases B with
 |rows v t d c l=>cases h;exact⟨rfl,rfl,rfl,rfl,rfl⟩
 |opn v t d q l g i cs=>cases h;exact⟨rfl,rfl,rfl,rfl,rfl⟩
 |box=>cases h
 |arr=>cases h
theorem Q60{a:Nat}:Nat.decEq a a= .isTrue rfl:=by
 cases h:Nat.decEq a a with
 |isTrue _=>rfl
 |isFalse h'=>exact absurd rfl h'
theorem Uy (hU:Ab U)(hw:A5 S τ){t:Nat}{x ix:Operand}(ho:o.op= .indexAddr t x ix)(h:Nc U T S t x ix k=some r):Bp U F T S τ o k r:=by
 unfold Nc at h
 have hx0:=hw.val (T:=T) t x
 have hi0:=hw.val (T:=T) 0 ix;split at h
 ·rename_i e l kd i g hx hi;split at h
  ·rename_i es hes;split at h
   ·rename_i hse
    have hse:=Z2 hse;subst hse;split at h
    ·rename_i hb;exact Bp.pure hw (v:= .c (.ptrR e l i 0)) hb (An2 ho (Ja hx) (J2 hi) hes hb) h
    ·cases h
   ·cases h
  ·cases h
 ·rename_i id ver n kd i g hx hi;rw[hx]at hx0;rw[hi]at hi0;split at h
  ·rename_i B es hB hes;split at h
   ·rename_i ver' e t' l hl;split at h
    ·rename_i hc;simp only[Z4]at hc
     have h1:=Z2 hc.1
     have h2:=Z2 hc.2;subst h1;subst h2;obtain⟨e1,e2,e3,e4,e5⟩:=N2 hl;split at h
     ·rename_i hb
      have hn:n=l.length:=by rw[←e5];exact hx0.2 B hB e1
      refine Bp.pure hw (v:= .c (.ptrE id ver' g i 0)) ⟨hi0,hx0.1,fun B' hB' _=> ?_⟩ (An4 ho (n:=n) (J2 hi) ?_ (by rw[hn];exact hb)) h
      ·rw[hB]at hB';cases hB';rw[e5];exact hb
      ·unfold ixO;simp only[Q92 hx,Ac hB,hes];generalize SB.toB U B=B' at e3 e4;obtain⟨bv,be,bx⟩:=B'
       have e3:bv=ver':=e3
       have e4:be=U.sz e:=e4;subst e3;subst e4;simp only[Q60]
     ·cases h
    ·cases h
   ·cases h
  ·cases h
 ·rename_i id ver kd i g hx hi;split at h
  ·rename_i ti ht;split at h
   ·rename_i n e hk;split at h
    ·rename_i te he;split at h
     ·rename_i hs;split at h
      ·rename_i hb;exact Bp.pure hw (v:= .c (.ptrA id ver i)) trivial (sIA ho (Ye hx) (J2 hi) ht hk he (Z2 hs) hb) h
      ·cases h
     ·cases h
    ·cases h
   ·cases h
  ·cases h
 ·cases h
theorem Q82{t sz:Nat}{agg:Bool}(h:szT T t=some (sz,agg)): ∃ti,tg T t=some ti∧ti.size=sz∧ti.k.agg=agg:=by
 unfold szT at h;split at h
 ·rename_i ti ht;cases h;exact⟨ti,ht,rfl,rfl⟩
 ·cases h
theorem Rz{ctr g:Nat}{a b:Int}(h1:Dn ctr τ g a)(h2:Dn ctr τ g b)(hg:0<g):a=b:=by
 rw[(h1 (by omega)).1,(h2 (by omega)).1]
theorem R1 (hU:Ab U){e:Nat}(d:Bool)(l:List (U.D e))(i:Int):(U.cells d e (U.gt l i)).map (SV.toV U)=U.eT d e (@Go.Eng.gt _ (U.inh e) l i):=hU.cells d e _
theorem Q99 (hU:Ab U){e:Nat}(h:U.sz e=1)(l:List (U.D e)):(l.map (U.en e)).flatten=l.map fun a=>(U.en e a).headD .undef:=by
 induction l with
 |nil=>rfl
 |cons a r ih=>
  simp only[Z8,List.flatten_cons,ih]
  have:=(hU.en e).len a;rw[h]at this
  match e2:U.en e a,this with
  |[v],_=>rfl
theorem Abw (hU:Ab U)(hw:A5 S τ){t:Nat}{x:Operand}(ho:o.op= .load t x)(h:Aa2 U T S t x k=some r):Bp U F T S τ o k r:=by
 unfold Aa2 at h
 have hx0:=hw.val (T:=T) 0 x;split at h
 ·rename_i id ver j sz agg hx hsz;obtain⟨ti,ht,rfl,rfl⟩:=Q82 hsz;split at h
  ·rename_i ver' cs hB;split at h
   ·rename_i hv
    have hv:=Z2 hv;subst hv;obtain⟨v,hk,h1,h2,h3,h4⟩:=J4 h (hw.2.2 id _ hB).2;refine Bp.pure hw h4 (sLd ho ?_) hk;unfold ldF;simp only[Ye hx,ht,Ac hB,SB.toB,Gj,Q60,h1,h2,h3]
   ·cases h
  ·cases h
 ·rename_i id ver g i j sz agg hx hsz;rw[hx]at hx0;obtain⟨ti,ht,rfl,rfl⟩:=Q82 hsz;split at h
  ·rename_i ver' e d cl l hB;split at h
   ·rename_i hv
    have hv:=Z2 hv;subst hv
    have hb:=hx0.2.2 _ hB rfl;obtain⟨v,hk,h1,h2,h3,h4⟩:=J4 (τ:=τ) h (fun c hc=>Q49 (Z1.1 (hU.cellsShut d e _) c hc) (hU.cellsTag d e _ c hc));rw[R1 hU]at h1 h2 h3
    letI:=U.inh e
    exact Bp.pure hw h4 (An5 ho l hb (Q61 hx) (Ac hB) ht h1 h2 h3) hk
   ·cases h
  ·rename_i ver' e d q l g' i' cs hB;split at h
   ·rename_i hc;simp only[Z4]at hc
    have hv:=Z2 hc.1.1
    have hg:=Z2 hc.1.2;subst hv;subst hg;obtain⟨hbi,hti,hcs,hlen,_⟩:=(hw.2.2 id _ hB).2
    have hi:i=i':=Rz hx0.1 hti (by simpa using hc.2)
    subst hi;obtain⟨v,hk,h1,h2,h3,h4⟩:=J4 (τ:=τ) h hcs
    letI:=U.inh e
    exact Bp.pure hw h4 (Aon ho l hbi (Q61 hx) (Ac hB) ht h1 h2 h3) hk
   ·cases h
  ·cases h
 ·rename_i id ver i hx hsz;obtain⟨ti,ht,hs1,ha⟩:=Q82 hsz;split at h
  ·rename_i ver' n e l hB;split at h
   ·rename_i hc;simp only[Z4]at hc
    have hv:=Z2 hc.1
    have hse:=Z2 hc.2;subst hv;split at h
    ·rename_i hb;obtain⟨v,hk,h1,h2,h3,h4⟩:=J4 (τ:=τ) h (fun c hc=>Q49 (Z1.1 (hU.csSh e _) c hc) (hU.cellsTag false e _ c hc))
     letI:=U.inh e
     refine Bp.pure hw h4 ?_ hk
     have key:=Aoj (F:=F) ho (f:=fun a=>(U.en e a).headD .undef) (L:=l) (Ru hx) (by rw[Ac hB];simp only[SB.toB];rw[Q99 hU hse]) ht hs1 ha (fun a=> ?_) hb
     ·have e1:=hU.cs e (U.gt l i);rw[e1]at h2
      have e2:=(hU.en e).len (U.gt l i);rw[hse]at e2
      have:v.toA U=A.c ((U.en e (@gt _ (U.inh e) l i)).headD .undef):=by
       have e3:U.gt l i= @gt _ (U.inh e) l i:=rfl;rw[e3]at h2 e2
       match hh:U.en e (@gt _ (U.inh e) l i),e2 with
       |[w],_=>rw[hh]at h2;simp only[Z55,List.take_succ_cons,List.take_zero]at h2;exact(Gi h2).symm
      rw[this];exact key
     ·have:=(hU.en e).clean a
      have e2:=(hU.en e).len a;rw[hse]at e2
      match hh:U.en e a,e2 with
      |[w],_=>
       rw[hh]at this;simp only[Fw,List.all_nil,Bool.and_true]at this
       show Th w=false;cases w with
       |row o es xs=>cases o with|true=>cases this|false=>rfl
       |_=>rfl
    ·cases h
   ·cases h
  ·cases h
 ·rename_i e l i j sz agg hx hsz;rw[hx]at hx0;obtain⟨ti,ht,rfl,rfl⟩:=Q82 hsz;obtain⟨v,hk,h1,h2,h3,h4⟩:=J4 (τ:=τ) h (fun c hc=>Q49 (Z1.1 (hU.csSh e _) c hc) (hU.cellsTag false e _ c hc));rw[hU.cs]at h1 h2 h3
  letI:=U.inh e
  exact Bp.pure hw h4 (sLI ho (Rv hx) (U.en e (U.gt l i)) (Qw _ hx0) ht h1 h2) hk
 ·rename_i e y j sz agg hx hsz;obtain⟨ti,ht,rfl,rfl⟩:=Q82 hsz;obtain⟨v,hk,h1,h2,h3,h4⟩:=J4 (τ:=τ) h (fun c hc=>Q49 (Z1.1 (hU.csSh e _) c hc) (hU.cellsTag false e _ c hc));rw[hU.cs]at h1 h2 h3;exact Bp.pure hw h4 (sLI ho (Afo hx) (U.en e y) rfl ht h1 h2) hk
 ·cases h
end
end Go.Eng
namespace Go.Eng
section
variable {U:Un} {T:Tab} {F:Fr} {S:SS U.D} {τ:Nat->Int} {o:Oper} {α:Type} {k:Aj U.D->Option α} {r:α}
theorem Abx{dst:Option Tmp}{v:SA U.D}{id:Nat}{b:Option (SB U.D)}{bump:List Nat}{use ids:List Nat}(i:Nat):(S.app dst {v,upd:=[(id,b)],bump,use,ids}).blk i=if i=id then b else S.blk i:=Ro _ _ _ _ id b i
theorem Aby{dst:Option Tmp}{v:SA U.D}{upd:List (Nat×Option (SB U.D))}{use ids:List Nat}(i:Nat):(S.app dst {v,upd,use,ids}).ver i=S.ver i:=rfl
theorem Yh{dst:Option Tmp}{v:SA U.D}{upd:List (Nat×Option (SB U.D))}{id:Nat}{use ids:List Nat}(i:Nat):(S.app dst {v,upd,bump:=[id],use,ids}).ver i=if i=id then S.ver id+1 else S.ver i:=by
 show Ju ((id,Ju S.nv id+1)::S.nv) i=_;simp only[Ju,Rn]
 by_cases h:i=id
 ·rw[if_pos h,if_pos h];rfl
 ·rw[if_neg h,if_neg h];rfl
theorem Afs{dst:Option Tmp}{v:SA U.D}{id:Nat}{B B':SB U.D}{use ids:List Nat}(hB:S.blk id=some B)(h1:B'.ver=B.ver)(h2:B'.len=B.len)(h3:B'.clean=false):G4 S (S.app dst {v,upd:=[(id,some B')],use,ids}):=by
 refine⟨Z9 _,fun _=>Z9 _,fun i C hC _=> ?_⟩;rw[Abx]at hC;split at hC
 ·rename_i e;cases hC;exact⟨B,by rw[e];exact hB,h1.symm,h2.symm,fun h=>by rw[h3]at h;cases h⟩
 ·exact⟨C,hC,rfl,rfl,fun _=>rfl⟩
theorem A5.chg (hw:A5 S τ){dst:Option Tmp}{v:SA U.D}{id:Nat}{B B':SB U.D}{use ids:List Nat}(hB:S.blk id=some B)(h1:B'.ver=B.ver)(h2:B'.len=B.len)(h3:B'.clean=false)(hv:v.ok S τ)(hB':B'.ok S τ):A5 (S.app dst {v,upd:=[(id,some B')],use,ids}) τ:=by
 have e:=Afs (dst:=dst) (v:=v) (use:=use) (ids:=ids) hB h1 h2 h3;refine hw.app e (hv.mono e) fun i C hC=> ?_;rw[Abx]at hC;split at hC
 ·rename_i e2;cases hC;subst e2;refine .inr ⟨?_,hB'.mono e⟩;rw[Aby,h1];exact(hw.2.2 _ B hB).1
 ·exact .inl hC
theorem Wq{dst:Option Tmp}{v:SA U.D}{id:Nat}{B:SB U.D}{use ids:List Nat}(h1:B.ver=S.ver id):G4 S (S.app dst {v,upd:=[(id,some B)],bump:=[id],use,ids}):=by
 refine⟨Z9 _,fun i=> ?_,fun i C hC hlt=> ?_⟩
 ·rw[Yh];split
  ·rename_i e;subst e;exact Nat.le_succ _
  ·exact Z9 _
 ·rw[Abx]at hC;split at hC
  ·rename_i e;cases hC;subst e;omega
  ·exact⟨C,hC,rfl,rfl,fun _=>rfl⟩
theorem A5.new (hw:A5 S τ){dst:Option Tmp}{v:SA U.D}{id:Nat}{B:SB U.D}{use ids:List Nat}(h1:B.ver=S.ver id)(hv:v.ok (S.app dst {v,upd:=[(id,some B)],bump:=[id],use,ids}) τ)(hB:B.ok S τ):A5 (S.app dst {v,upd:=[(id,some B)],bump:=[id],use,ids}) τ:=by
 have e:=Wq (dst:=dst) (v:=v) (use:=use) (ids:=ids) h1;refine hw.app e hv fun i C hC=> ?_;rw[Abx]at hC;split at hC
 ·rename_i e2;cases hC;subst e2;refine .inr ⟨?_,hB.mono e⟩;rw[Yh,if_pos rfl,h1];exact Nat.lt_succ_self _
 ·exact .inl hC
theorem Q39{dst:Option Tmp}{v:SA U.D}{id n:Nat}{B:SB U.D}{use ids:List Nat}(hn:n=B.len):(SA.c (.own id (S.ver id) n):SA U.D).ok (S.app dst {v,upd:=[(id,some B)],bump:=[id],use,ids}) τ:=by
 refine⟨by rw[Yh,if_pos rfl];exact Nat.lt_succ_self _,fun C hC _=> ?_⟩
 rw[Abx,if_pos rfl]at hC;cases hC;exact hn
theorem Abz{β γ:Type}(f:β->γ)(x cs:List β)(j:Nat):(Hn x j cs).map f=(x.map f).take j++cs.map f++(x.map f).drop (j+cs.length):=by
 simp only[Hn,Fv,List.map_take,List.map_drop]
theorem J5 (x cs:List (SV U.D))(j:Nat):(Hn x j cs).map (SV.toV U)=Es (x.map (SV.toV U)) j (cs.map (SV.toV U)):=by
 rw[Abz,Es,Bu]
theorem J6{β:Type}{x cs:List β}{j:Nat}(h:j+cs.length≤x.length):(Hn x j cs).length=x.length:=by
 simp only[Hn,Jh,List.length_take,List.length_drop];omega
theorem Aft{β:Type}{x cs:List β}{j:Nat}{c:β}(h:c∈Hn x j cs):c∈x∨c∈cs:=by
 simp only[Hn,Gh]at h;rcases h with (h|h)|h
 ·exact .inl (Zm h)
 ·exact .inr h
 ·exact .inl (List.mem_of_mem_drop h)
theorem Zt (u:SA U.D):(u.toA U).cells=u.cells.map (SV.toV U):=by
 cases u<;>rfl
theorem Afu{c:SV U.D}(h:c.solid=true):(match c.toV U with| .undef=>false| .skip=>false|_=>true)=true:=by
 cases c<;>first|rfl|cases h
theorem Q50{u:SA U.D}(h:Q6 u.cells=true):C4 (u.toA U).cells=true:=by
 rw[Zt,C4,List.all_map];exact Z1.2 fun c hc=>Afu (Z1.1 h c hc)
theorem Q37{u:SA U.D}(h:Q6 u.cells=true)(hne:0<u.cells.length):Ay (u.toA U)=true:=by
 cases u with
 |c v=>
  have:v.solid=true:=by simpa[Q6,SA.cells]using h
  cases v<;>first|rfl|cases this
 |g cs=>rfl
 |t xs=>simp[SA.cells]at hne
theorem Q34{x:Operand}{u:SA U.D}(h:Q6 u.cells=true):F7 U x u=true:=by
 cases x<;>first|rfl|exact h
theorem Ab0 (hU:Ab U){d:Bool}{t:Nat}{cs:List (SV U.D)}{a:U.D t}(h:U.fold d t cs=some a):cs.map (SV.toV U)=U.eT d t a:=by
 cases d with
 |true=>exact(hU.fO t true cs a h).trans (hU.cO t a)
 |false=>exact hU.fS t cs a h
theorem Q51{u:SA U.D}(h:u.ok S τ): ∀c∈u.cells,c.ok S τ:=by
 cases u with
 |c v=>intro c hc;simp only[SA.cells,Mx]at hc;subst hc;exact h
 |g cs=>exact h
 |t xs=>intro c hc;cases hc
theorem Ab1 (hU:Ab U){d:Bool}{e:Nat}{a:U.D e}: ∀c∈U.cells d e a,c.ok S τ:=fun c hc=>Q49 (Z1.1 (hU.cellsShut d e a) c hc) (hU.cellsTag d e a c hc)
theorem Ab2 (hU:Ab U)(hw:A5 S τ){t:Nat}{x y:Operand}(ho:o.op= .store t x y)(hd:o.dst=none){ti:TI}(ht:tg T t=some ti){u:SA U.D}(hy:S.val T t y=u)(hs:Q6 u.cells=true)(hlen:u.cells.length=ti.size)(hpos:0<ti.size)
  {id ver e g j:Nat} {d cl:Bool} {l:List (U.D e)} {i:Int} (hx:S.val T 0 x= .c (.ptrE id ver g i j)) (hB:S.blk id=some (.rows ver e d cl l)) (hj:j+ti.size≤(U.cells d e (U.gt l i)).length)
  (h:Aa3 U id ver e d l g i (Hn (U.cells d e (U.gt l i)) j u.cells) (Q2 [x,y]) k=some r):Bp U F T S τ o k r:=by
 have hx0:=hw.val (T:=T) 0 x;rw[hx]at hx0
 have hu0:=hw.val (T:=T) t y;rw[hy]at hu0
 have hb:0≤i∧i<(l.length:Int):=hx0.2.2 _ hB rfl
 have hval:=Zs (U:=U) (T:=T) (S:=S) (ty:=t) (x:=y) (Q34 (by rw[hy];exact hs))
 rw[hy]at hval
 letI:=U.inh e
 have hbl:Nat.ble (j+ti.size) (U.eT d e (gt l i)).length=true:=by
  rw[←R1 hU d l i,Bu];rw[Nat.ble_eq];exact hj
 have hcl:(u.toA U).cells.length=ti.size:=by rw[Zt,Bu,hlen]
 unfold Aa3 at h;split at h
 ·split at h
  ·rename_i a ha
   have hf:=Ab0 hU ha;rw[J5,R1 hU d l i]at hf;refine⟨_,h,?_,hw.chg hB rfl (by simp[SB.len]) rfl trivial trivial⟩
   have:=Aom (F:=F) ho hd _ l a hb hval (Q61 hx) (Ac hB) ht (Q37 hs (by omega)) (Q50 hs) hcl hbl (by rw[Zt];exact hf)
   exact this
  ·cases h
 ·refine⟨_,h,?_,hw.chg hB rfl rfl rfl trivial ?_⟩
  ·have:=sSk (F:=F) ho hd _ hval (Q61 hx) (U.eT d e (gt l i)) (Ac hB) (Qw _ hb) rfl ht (Q37 hs (by omega)) (Q50 hs) hcl hbl
   rw[Zt,←R1 hU d l i,←J5]at this;exact this
  ·refine⟨hb,hx0.1,fun c hc=> ?_,?_,fun h=>by cases h⟩
   ·rcases Aft hc with h1|h1
    ·exact Ab1 hU c h1
    ·exact Q51 hu0 c h1
   ·rw[J6 (by rw[hlen];exact hj),hU.cellsLen]
theorem Yi (hU:Ab U)(hw:A5 S τ){t:Nat}{x y:Operand}(ho:o.op= .store t x y)(h:Uf U T S o.dst t x y k=some r):Bp U F T S τ o k r:=by
 unfold Uf at h
 have hx0:=hw.val (T:=T) 0 x
 have hy0:=hw.val (T:=T) t y;split at h
 ·rename_i sz agg u hd hsz;obtain⟨ti,ht,hsz1,hag⟩:=Q82 hsz;subst hsz1;subst hag;split at h
  ·rename_i id ver j hc hx;simp only[Z4]at hc;obtain⟨⟨hs,hl⟩,hp⟩:=hc
   have hl:=Z2 hl
   have hp:0<ti.size:=by simpa using hp
   split at h
   ·rename_i ver' cs hB;split at h
    ·rename_i hc2;simp only[Z4]at hc2
     have hv:=Z2 hc2.1;subst hv
     have hj:=Ep hc2.2
     have hval:=Zs (U:=U) (T:=T) (S:=S) (ty:=t) (x:=y) (Q34 hs);refine⟨_,h,?_,hw.chg hB rfl rfl rfl trivial fun c hc=> ?_⟩
     ·refine sSt ho hd _ hval ?_
      have e1:Nat.ble (j+ti.size) (cs.map (SV.toV U)).length=true:=by rw[Bu];exact hc2.2
      have e2:((S.val T t y).toA U).cells.length=ti.size:=by rw[Zt,Bu,hl]
      have e3:Nat.decEq ((S.val T t y).toA U).cells.length ti.size= .isTrue e2:=by
       cases hh:Nat.decEq ((S.val T t y).toA U).cells.length ti.size with
       |isTrue _=>rfl
       |isFalse h'=>exact absurd e2 h'
      unfold stF;simp only[Ye hx,ht,Ac hB,SB.toB,Gj,Q60,e1,Q37 hs (by omega),Q50 hs,e3]
      simp only[Hf,SB.toB,J5,List.set_cons_zero,Zt,J6 (show j+(S.val T t y).cells.length≤cs.length by rw[hl];exact hj)]
     ·rcases Aft hc with h1|h1
      ·exact(hw.2.2 _ _ hB).2 c h1
      ·exact Q51 hy0 c h1
    ·cases h
   ·cases h
  ·rename_i id ver g i j hc hx;simp only[Z4]at hc;obtain⟨⟨hs,hl⟩,hp⟩:=hc
   have hl:=Z2 hl
   have hp:0<ti.size:=by simpa using hp
   rw[hx]at hx0;split at h
   ·rename_i ver' e d cl l hB;split at h
    ·rename_i hc2;simp only[Z4]at hc2
     have hv:=Z2 hc2.1;subst hv;exact Ab2 hU hw ho hd ht rfl hs hl hp hx hB (Ep hc2.2) h
    ·cases h
   ·rename_i ver' e d q l g' i' cs hB;split at h
    ·rename_i hc2;simp only[Z4]at hc2
     have hv:=Z2 hc2.1.1.1
     have hg:=Z2 hc2.1.1.2;subst hv;subst hg
     have hj:=Ep hc2.2;obtain⟨hbi,hti,hcs,hlen,_⟩:=(hw.2.2 id _ hB).2
     have hi:i=i':=Rz hx0.1 hti (by simpa using hc2.1.2)
     subst hi
     have hval:=Zs (U:=U) (T:=T) (S:=S) (ty:=t) (x:=y) (Q34 hs)
     letI:=U.inh e
     refine⟨_,h,?_,hw.chg hB rfl rfl rfl trivial ⟨hbi,hti,fun c hc=> ?_,?_,fun h=>by cases h⟩⟩
     ·have hlt:i.toNat<((l.map (U.eT d e)).set i.toNat (cs.map (SV.toV U))).length:=by rw[Z49,Bu];omega
      have:=sSk (F:=F) ho hd _ hval (Q61 hx) (cs.map (SV.toV U)) (Ac hB) (by simp only[SB.toB];rw[List.getElem?_set_self (by rw[Bu];omega)]) rfl ht (Q37 hs (by omega)) (Q50 hs) (by rw[Zt,Bu,hl]) (by rw[Bu];exact hc2.2)
      simp only[SB.toB,List.set_set,Zt,←J5]at this;exact this
     ·rcases Aft hc with h1|h1
      ·exact hcs c h1
      ·exact Q51 hy0 c h1
     ·rw[J6 (by rw[hl];exact hj),hlen]
    ·cases h
   ·cases h
  ·rename_i id ver i hc hx;simp only[Z4]at hc;obtain⟨⟨hs,hl⟩,hp⟩:=hc;split at h
   ·rename_i ver' n e l w hB hu;split at h
    ·rename_i a hc2 ha;simp only[Z4]at hc2
     have hv:=Z2 hc2.1.1
     have hs1:=Z2 hc2.1.2
     have hse:=Z2 hc2.2;subst hv;split at h
     ·rename_i hb
      have hf:=hU.fS e [w] a ha
      have hval:=Zs (U:=U) (T:=T) (S:=S) (ty:=t) (x:=y) (Q34 hs);rw[hu]at hval
      have hw1:(U.en e a).headD .undef=w.toV U:=by rw[←hf];rfl
      have hsol:(SV.solid w)=true:=by rw[hu]at hs;simpa[Q6,SA.cells]using hs
      refine⟨_,h,?_,hw.chg hB rfl rfl rfl trivial trivial⟩
      have:=Aok (F:=F) ho hd (f:=fun a=>(U.en e a).headD .undef) (L:=l) (a:=a) _ (Ru hx) (by rw[hw1];exact hval) (by rw[Ac hB];simp only[SB.toB];rw[Q99 hU hse]) ht hs1
       (by rw[hw1];exact Q37 (u:= .c w) (by simpa[Q6,SA.cells]using hsol) (by simp[SA.cells])) (by rw[hw1];exact Q50 (u:= .c w) (by simpa[Q6,SA.cells]using hsol)) hb
      rw[←Q99 hU hse]at this;exact this
     ·cases h
    ·cases h
   ·cases h
  ·cases h
 ·cases h
end
end Go.Eng
namespace Go.Eng
section
variable {U:Un} {T:Tab} {F:Fr} {S:SS U.D} {τ:Nat->Int} {o:Oper} {α:Type} {k:Aj U.D->Option α} {r:α}
theorem Ab3{t:Nat}{v:V}(h:(Mg U T t v).shut=true):(Mg U T t v).toV U=v:=by
 unfold Mg at h ⊢;split
 ·rfl
 ·rfl
 ·rfl
 ·rfl
 ·split
  ·rename_i ti h1;split
   ·rename_i e h2;split
    ·rename_i h3
     have:=Z2 h3;subst this;rfl
    ·rename_i h3;simp only[h1,h2,h3]at h;cases h
   ·simp only[h1]at h;first|(cases h;done)|(split at h<;>first|cases h|(rename_i hk _;simp_all))
  ·rename_i h1;simp only[h1]at h;cases h
 ·rename_i h1 h2 h3 h4 h5;exfalso;revert h;cases v<;>first|(intro h;simp_all;done)|skip
  all_goals (intro h;simp_all[SV.shut])
theorem Yj (hτ: ∀n:Nat,τ (2*n+2)=n){t:Nat}{v:V}:(Mg U T t v).ok S τ:=by
 unfold Mg;split
 ·rename_i k n
  show Dn S.ctr τ (Gs n) n;intro hg;cases n with
  |ofNat n=>exact⟨(hτ n).symm,.inl (by simp[Gs])⟩
  |negSucc n=>exact absurd rfl hg
 ·trivial
 ·trivial
 ·trivial
 ·split
  ·split
   ·split<;>trivial
   ·trivial
  ·trivial
 ·trivial
theorem Ab4: ∀(ts:List Nat) (vs:List V),ts.length=vs.length->(Hh U T ts vs).all SV.shut=true->(Hh U T ts vs).map (SV.toV U)=vs:=by
 intro ts
 induction ts with
 |nil=>intro vs hl h;cases vs with|nil=>rfl|cons v r=>cases hl
 |cons t r ih=>
  intro vs hl h;cases vs with
  |nil=>cases hl
  |cons v s=>
   simp only[Hh,Fw,Z4]at h;simp only[Hh,Z8,Ab3 h.1,ih s (by simpa using hl) h.2]
theorem Yk (hτ: ∀n:Nat,τ (2*n+2)=n): ∀(ts:List Nat) (vs:List V),∀c∈Hh U T ts vs,c.ok S τ:=by
 intro ts
 induction ts with
 |nil=>intro vs c hc;cases vs<;>cases hc
 |cons t r ih=>
  intro vs c hc;cases vs with
  |nil=>cases hc
  |cons v s=>
   rcases Di.1 hc with rfl|h
   ·exact Yj hτ
   ·exact ih s c h
theorem Afv (hτ: ∀n:Nat,τ (2*n+2)=n){t:Nat}{ti:TI}{z:List (SV U.D)}(h:Rc U T t ti=some z):z.map (SV.toV U)=ti.zero∧(∀c∈z,c.ok S τ)∧z.all SV.shut=true:=by
 unfold Rc at h;split at h
 ·rename_i ls hl;split at h
  ·rename_i hc;simp only[Z4]at hc;cases h;exact⟨Ab4 ls ti.zero (Z2 hc.1) hc.2,Yk hτ ls ti.zero,hc.2⟩
  ·cases h
 ·cases h
theorem J7 (hU:Ab U){e:Nat}: ∀(cs:List (SV U.D)) (l:List (U.D e)),Rd U e cs=some l->cs.map (SV.toV U)=(l.map (U.en e)).flatten:=by
 intro cs
 induction cs with
 |nil=>intro l h;cases h;rfl
 |cons c r ih=>
  intro l h;unfold Rd at h;split at h
  ·rename_i a l' ha hl';cases h
   have:=hU.fS e [c] a ha;simp only[Z8,Gk]at this;simp only[Z8,List.flatten_cons,←ih l' hl',←this,List.singleton_append]
  ·cases h
theorem R2 (d:Nat):Nat.ble 100 (Bz d)=true:=by rw[Nat.ble_eq];exact Nat.le_add_right _ _
theorem Yl (hU:Ab U)(hw:A5 S τ){t:Nat}(ho:o.op= .alloc t)(h:Ug U T S o.dst t k=some r):Bp U F T S τ o k r:=by
 unfold Ug at h;split at h
 ·rename_i d ti hd ht;split at h
  ·rename_i z hz;obtain⟨h1,h2,h3⟩:=Afv (S:=S) (τ:=τ) hw.1 hz
   have hl:ti.zero.length=z.length:=by rw[←h1,Bu]
   have key:=sAl (F:=F) (S:=S.toSt U) ho ht (Bz d) (R2 d);split at h
   ·rename_i n e hk;split at h
    ·rename_i l hse hl';refine⟨_,h,?_,hw.new (B:= .arr (S.ver (Bz d)) z.length e l) rfl trivial trivial⟩
     have e1:=J7 hU z l hl';rw[hl,←h1,e1]at key;exact key
    ·cases h
   ·refine⟨_,h,?_,hw.new (B:= .box (S.ver (Bz d)) z) rfl trivial h2⟩;rw[hl,←h1]at key;exact key
  ·cases h
 ·cases h
theorem Afw (hw:A5 S τ){t:Nat}{x:Operand}(ho:o.op= .box t x)(h:Ait U T S o.dst t x k=some r):Bp U F T S τ o k r:=by
 unfold Ait at h
 have hx0:=hw.val (T:=T) t x;split at h
 ·rename_i d hd;split at h
  ·rename_i hc;simp only[Z4]at hc
   have hp:0<(S.val T t x).cells.length:=by simpa using hc.2
   refine⟨_,h,?_,hw.new (B:= .box (S.ver (Bz d)) (S.val T t x).cells) rfl trivial (Q51 hx0)⟩
   have:=sBx (F:=F) (T:=T) (S:=S.toSt U) ho _ (Zs (Q34 hc.1)) (Q37 hc.1 hp) (Bz d) (R2 d);rw[Zt,Bu]at this;exact this
  ·cases h
 ·cases h
def Ea (U:Un)(T:Tab)(S:SS U.D)(ft:Nat->Nat)(parts:List (Nat×Operand)):List (List Nat):=parts.map fun p=>(S.val T (ft p.1) p.2).cells.map (C6 U)
theorem R3{ft:Nat->Nat}{pl:Nat->Option (Nat×Nat)}: ∀(parts:List (Nat×Operand)) (z out:List (SV U.D)),Re U pl z (Nd U T S ft parts)=some out→
  ((parts.zip (Ea U T S ft parts)).all (fun p=>Ay ((S.toSt U).val p.2 p.1.2))=true)∧
  Dj pl (z.map (SV.toV U)) ((parts.zip (Ea U T S ft parts)).map fun p=>(p.1.1,(S.toSt U).val p.2 p.1.2))=some (out.map (SV.toV U))∧(∀τ,A5 S τ->(∀c∈z,c.ok S τ)-> ∀c∈out,c.ok S τ):=by
 intro parts
 induction parts with
 |nil=>intro z out h;cases h;exact⟨rfl,rfl,fun _ _ h=>h⟩
 |cons p ps ih=>
  intro z out h;simp only[Nd,Z8]at h;unfold Re at h;split at h
  ·cases h
  ·rename_i off n hp;split at h
   ·rename_i hc;simp only[Z4]at hc;obtain⟨⟨⟨h1,h2⟩,h3⟩,h4⟩:=hc
    have h1:=Z2 h1
    have h2:=Ep h2
    have h4:0<n:=by simpa using h4
    have hv:=Zs (U:=U) (T:=T) (S:=S) (ty:=ft p.1) (x:=p.2) (Q34 h3);obtain⟨g1,g2,g3⟩:=ih _ out h;refine⟨?_,?_,fun τ hw hz=>g3 τ hw fun c hc=> ?_⟩
    ·simp only[Ea,Z8,List.zip_cons_cons,Fw,Z4];refine⟨?_,g1⟩;rw[hv];exact Q37 h3 (by omega)
    ·simp only[Ea,Z8,List.zip_cons_cons,Dj,hp];rw[hv,if_pos ⟨by rw[Zt,Bu,h1],by rw[Bu];exact h2⟩,Zt,←J5]
     exact g2
    ·rcases Aft hc with h5|h5
     ·exact hz c h5
     ·exact Q51 (hw.val _ _) c h5
   ·cases h
theorem Ym (hU:Ab U)(hw:A5 S τ){t:Nat}{parts:Array (Nat×Operand)}(ho:o.op= .build t parts)(h:Uh U T S t parts k=some r):Bp U F T S τ o k r:=by
 unfold Uh at h;split at h
 ·rename_i ti ht;split at h
  ·rename_i z gs hz hk;obtain⟨h1,h2,h3⟩:=Afv (S:=S) (τ:=τ) hw.1 hz;split at h
   ·rename_i pl hpl;split at h
    ·rename_i out hf;obtain⟨g1,g2,g3⟩:=R3 (T:=T) parts.toList z out hf;refine Bp.pure hw (v:= .g out) (g3 τ hw h2) ?_ h
     have hlen:(Ea U T S (Jv gs) parts.toList).length=parts.size:=by simp[Ea]
     refine sBd ho (Ea U T S (Jv gs) parts.toList) ht ?_
     have e3:Nat.decEq (Ea U T S (Jv gs) parts.toList).length parts.size= .isTrue hlen:=by
      cases hh:Nat.decEq (Ea U T S (Jv gs) parts.toList).length parts.size with
      |isTrue _=>rfl
      |isFalse h'=>exact absurd hlen h'
     unfold bdF;simp only[hpl,g1,e3];rw[←h1];exact g2
    ·cases h
   ·cases h
  ·rename_i z n e hz hk;obtain⟨h1,h2,h3⟩:=Afv (S:=S) (τ:=τ) hw.1 hz;split at h
   ·rename_i te he;split at h
    ·rename_i out hf;obtain⟨g1,g2,g3⟩:=R3 (T:=T) parts.toList z out hf;refine Bp.pure hw (v:= .g out) (g3 τ hw h2) ?_ h
     have hlen:(Ea U T S (fun _=>e) parts.toList).length=parts.size:=by simp[Ea]
     refine Aoi ho (Ea U T S (fun _=>e) parts.toList) ht hk he ?_
     have e3:Nat.decEq (Ea U T S (fun _=>e) parts.toList).length parts.size= .isTrue hlen:=by
      cases hh:Nat.decEq (Ea U T S (fun _=>e) parts.toList).length parts.size with
      |isTrue _=>rfl
      |isFalse h'=>exact absurd hlen h'
     unfold bdA;simp only[g1,e3];rw[←h1];exact g2
    ·cases h
   ·cases h
  ·cases h
 ·cases h
theorem Ab5{e:Nat}(hU:Ab U)(hse:U.sz e=1){x:U.D e}{v:SA U.D}(h:Dk false (((U.en e x).drop 0).take 1)=some (v.toA U)):v.toA U= .c ((U.en e x).headD .undef):=by
 have e2:=(hU.en e).len x;rw[hse]at e2
 match hh:U.en e x,e2 with
 |[w],_=>
  rw[hh]at h;simp only[Z55,List.take_succ_cons,List.take_zero]at h;exact(Gi h).symm
theorem Uz (hU:Ab U)(hw:A5 S τ){t:Nat}{x ix:Operand}(ho:o.op= .index t x ix)(h:Nf U T S t x ix k=some r):Bp U F T S τ o k r:=by
 unfold Nf at h;split at h
 ·rename_i cs kd j g ti hx hi ht;split at h
  ·rename_i n e hk;split at h
   ·rename_i te l he hl;split at h
    ·rename_i hc;simp only[Z4]at hc;obtain⟨⟨⟨⟨⟨c1,c2⟩,c3⟩,c4⟩,c5⟩,c6⟩:=hc
     have c1:=Z2 c1
     have c2:=Z2 c2
     have hse:=Z2 c6;split at h
     ·rename_i hb
      have hv:=N1 hx c4 c5;rw[J7 hU cs l hl,Q99 hU hse]at hv
      have hln:l.length=n:=by
       have:=congrArg List.length (J7 hU cs l hl);rw[Q99 hU hse,Bu,Bu]at this;omega
      letI:=U.inh e
      obtain⟨v,hk2,h1,h2,h3,h4⟩:=J4 (τ:=τ) h (Ab1 (d:=false) hU);refine Bp.pure hw h4 ?_ hk2
      have key:=Aog (F:=F) ho (f:=fun a=>(U.en e a).headD .undef) hv (J2 hi) ht hk he c1 (by simpa using c3) hln (by rw[hln];exact hb)
      rw[hU.cs]at h2;rw[Ab5 hU hse h2];exact key
     ·cases h
    ·cases h
   ·cases h
  ·cases h
 ·cases h
theorem Jc{d n:Int}{x:Option Operand}(h:X6 U T S d x=some n):Jm (S.toSt U) d x=some n:=by
 unfold X6 at h;split at h
 ·exact h
 ·rename_i y;split at h
  ·rename_i k n' g hy;simp only[Jm,J2 hy];exact h
  ·cases h
theorem Al6{S:St}{t:Nat}{x:Operand}{lo hi:Option Operand}(h:o.op= .slice t x lo hi none){id ver n:Nat}(hx:S.val [] x= .c (.own id ver 0 n)){B:Blk}(hB:S.H id=some B)(hver:B.ver=ver)(hes:C3 T t=some B.es)
  {l hh:Int} (hl:Jm S 0 lo=some l) (hr:Jm S n hi=some hh) (hb:0≤l∧l≤hh∧hh≤n):Ca F T o S {v:= .c (.own id ver l.toNat (hh - l).toNat),use:=Q2 ([x]++lo.toList++hi.toList),ids:=[id]}:=Aw _ _ fun he S' h1 h2=>by
 have key: ∀(d:Int) (y:Option Operand) (m:Int),(∀z∈y.toList,z∈[x]++lo.toList++hi.toList)->Jm S d y=some m->Jm S' d y=some m:=by
  intro d y m hy hn;cases y with
  |none=>exact hn
  |some z=>
   unfold Jm at hn ⊢;simp only at hn ⊢;rw[La (hy z (by simp)) h1]
   exact hn
 have:=Aez he.tab h (vc h1 (by simp) hx) (by rw[(h2 id (by simp)).1];exact hB) hver hes (key _ _ _ (fun z hz=>by simp at hz ⊢;simp[hz]) hl) (key _ _ _ (fun z hz=>by simp at hz ⊢;simp[hz]) hr) hb.1 hb.2.1 hb.2.2
 rwa[Nat.zero_add]at this
theorem Yn (hU:Ab U)(hw:A5 S τ){t:Nat}{x:Operand}{lo hi:Option Operand}(ho:o.op= .slice t x lo hi none)(h:Uj U T S t x lo hi k=some r):Bp U F T S τ o k r:=by
 unfold Uj at h
 have hx0:=hw.val (T:=T) t x;split at h
 ·rename_i e l hx;split at h
  ·rename_i es a b hes ha hb;split at h
   ·rename_i hse
    have hse:=Z2 hse;subst hse;split at h
    ·rename_i hc;exact Bp.pure hw (v:= .c (.row e ((l.drop a.toNat).take (b - a).toNat))) trivial (An6 ho (Ja hx) hes (Jc ha) (Jc hb) hc) h
    ·cases h
   ·cases h
  ·cases h
 ·rename_i id ver n hx;rw[hx]at hx0;split at h
  ·rename_i B es hB hes;split at h
   ·rename_i ver' e t' l hl;split at h
    ·rename_i a b hc ha hb;simp only[Z4]at hc
     have h1:=Z2 hc.1
     have h2:=Z2 hc.2;subst h1;subst h2;obtain⟨e1,e2,e3,e4,e5⟩:=N2 hl;split at h
     ·rename_i hr
      have hn:n=l.length:=by rw[←e5];exact hx0.2 B hB e1
      refine Bp.pure hw (v:= .c (.part id ver' a b)) ⟨hx0.1,fun B' hB' _=> ?_⟩ ?_ h
      ·rw[hB]at hB';cases hB';rw[e5];exact hr
      ·have hb':Jm (S.toSt U) (n:Int) hi=some b:=by rw[hn];exact Jc hb
       exact Al6 ho (Q92 hx) (Ac hB) e3 (by rw[e4];exact hes) (Jc ha) hb' (by rw[hn];exact hr)
     ·cases h
    ·cases h
   ·cases h
  ·cases h
 ·cases h
theorem Al7{t:Nat}(h:Afe T t=true): ∃ti e,tg T t=some ti∧ti.k= .slice e:=by
 unfold Afe at h;split at h
 ·rename_i ti ht;split at h
  ·rename_i e hk;exact⟨ti,e,ht,hk⟩
  ·cases h
 ·cases h
theorem Afx (hw:A5 S τ){t:Nat}{x:Operand}(ho:o.op= .call {callee:= .builtin .len,args:= #[x],argTypes:= #[t]})(h:Aiv U T S t x k=some r):Bp U F T S τ o k r:=by
 unfold Aiv at h
 have hx0:=hw.val (T:=T) t x;split at h
 ·rename_i e l hx;split at h
  ·rename_i hs;obtain⟨ti,e',ht,hk⟩:=Al7 hs;exact Bp.pure hw (v:= .c (.int .i64 (l.length:Int) 0)) Fs (sLm ho ht hk (Ja hx)) h
  ·cases h
 ·rename_i id ver n hx;rw[hx]at hx0;split at h
  ·rename_i B hB hs;obtain⟨ti,e',ht,hk⟩:=Al7 hs;split at h
   ·rename_i ver' e t' l hl;split at h
    ·rename_i hv
     have hv:=Z2 hv;subst hv;obtain⟨e1,e2,e3,e4,e5⟩:=N2 hl
     have hn:n=l.length:=by rw[←e5];exact hx0.2 B hB e1
     refine Bp.pure hw (v:= .c (.int .i64 (l.length:Int) 0)) Fs ?_ h
     have:=sLo (F:=F) ho ht hk (Q92 hx);rw[hn]at this;exact this
    ·cases h
   ·cases h
  ·cases h
 ·rename_i s hx;split at h
  ·rename_i hs;unfold Aa5 at hs;split at hs
   ·rename_i ti ht;split at hs
    ·rename_i hk;exact Bp.pure hw (v:= .c (.int .i64 (s.size:Int) 0)) Fs (sLs ho ht hk (Abm hx)) h
    ·cases hs
   ·cases hs
  ·cases h
 ·cases h
theorem Afy: ∀(as:List (SA U.D)) (l:List (Σ t,U.D t)),Afg U as=some l->as=l.map fun q=>SA.c (.ptrB q.1 q.2 0):=by
 intro as
 induction as with
 |nil=>intro l h;cases h;rfl
 |cons a r ih=>
  intro l h;unfold Afg at h;split at h
  ·rename_i heq;cases heq
  ·rename_i heq;cases heq;split at h
   ·rename_i l' hl';cases h;rw[Z8,←ih l' hl']
   ·cases h
  ·cases h
def Mk (l:List (Nat×Nat))(q:List (Σ t,U.D t)):List (SV U.D):=(l.map fun c=> .ptr c.1 c.2 0)++q.map fun z=> .ptrB z.1 z.2 0
theorem Yo: ∀(as:List (SA U.D)) (l:List (Nat×Nat)) (q:List (Σ t,U.D t)),Nk U as=some (l,q)->as=(Mk l q).map SA.c:=by
 intro as
 induction as with
 |nil=>intro l q h;cases h;rfl
 |cons a r ih=>
  intro l q h;unfold Nk at h;split at h
  ·rename_i heq;cases heq;split at h
   ·rename_i l' q' hl';cases h;rw[Mk,Z8,Qe,Z8,ih _ _ hl'];rfl
   ·cases h
  ·split at h
   ·rename_i q' hq;cases h;rw[Afy _ _ hq];simp[Mk]
   ·cases h
theorem Ab6 (hw:A5 S τ){fn:Fn}{first caps:Array Operand}(ho:o.op= .makeFunc fn first caps)(h:Aa9 U T S fn first caps k=some r):Bp U F T S τ o k r:=by
 unfold Aa9 at h;split at h
 ·rename_i f l q hf hl
  have hfirst:first= #[]:=by
   apply Array.ext';simpa using hf
  subst hfirst
  have hc:=Yo _ l q hl;refine Bp.pure hw (v:= .c (.fn f l q)) trivial ?_ h
  have hm:(l.map fun c=>V.ptr c.1 c.2 0 0)++(q.map fun z=>V.ip (U.sz z.1) [U.en z.1 z.2] 0 0)=(Mk l q).map (SV.toV U):=by
   rw[Mk,Fv,Cq,Cq];rfl
  refine Aw _ _ fun he S' h1 h2=>Qm ho ?_ fun i x v hi hv=> ?_
  ·have:=congrArg List.length hc;rw[hm];simpa using this.symm
  ·have e1:(caps.toList.map (S.val T 0))[i]? =some (S.val T 0 x):=by
    rw[B5,Array.getElem?_toList,hi];rfl
   rw[hc]at e1;rw[hm]at hv;rw[B5]at e1 hv;cases hli:(Mk l q)[i]? with
   |none=>rw[hli]at e1;cases e1
   |some c=>
    rw[hli]at e1 hv;simp only[Hf,Z7]at e1 hv;subst hv;refine vc h1 (Z6 (by rw[Array.getElem?_toList];exact hi)) ?_
    rcases Gh.1 (Z6 hli)with hm|hm
    ·obtain⟨z,_,rfl⟩:=D9.1 hm;exact Ye e1.symm
    ·obtain⟨z,_,rfl⟩:=D9.1 hm;exact Afo e1.symm
 ·cases h
end
end Go.Eng
