/- The engine, part 3: what is proved of the model, for any program; no condition. -/
import Derived.Test.YtcdojenmonmcfaaGreatEb
set_option linter.all false
namespace Go.Eng
section
variable {U:Un} {T:Tab} {F:Fr} {S:SS U.D} {τ:Nat->Int} {o:Oper} {α:Type} {k:Aj U.D->Option α} {r:α}
theorem Al8 (cs:List (SV U.D)): ∀(vs:List Value) (sh:List Nat),cs.map (SV.toV U)=Hz (cs.map (C6 U)) vs->Ef cs=true->Q6 cs=true->Hz sh vs=cs.map (SV.toV U):=by
 induction cs with
 |nil=>intro vs sh h _ _;cases vs with|nil=>rfl|cons v r=>cases h
 |cons c r ih=>
  intro vs sh h hn hs;cases vs with
  |nil=>cases h
  |cons v s=>
   simp only[Ef,Fw,Z4]at hn;simp only[Q6,Fw,Z4]at hs;simp only[Z8,Hz,List.headD_cons,List.tail_cons,Ld]at h;simp only[Z8,Hz];rw[ih s sh.tail h.2 hn.2 hs.2]
   congr 1
   have h1:=h.1;cases v with
   |slice a n cp=>
    cases a with
    |some a=>rw[h1];rfl
    |none=>
     exfalso
     have h1:c.toV U=(if n=0∧cp=0 then V.row true (C6 U c) []else V.undef):=h1
     split at h1
     ·cases c<;>first|(cases h1;done)|(simp[isT]at hn;done)|skip
     ·cases c<;>first|(cases h1;done)|(simp[SV.solid]at hs;done)|skip
   |pointer a=>cases a<;>(rw[h1];rfl)
   |_=>rw[h1];rfl
theorem Wr{ty:Nat}{x:Operand}(hs:Q6 (S.val T ty x).cells=true)(hp:0<(S.val T ty x).cells.length)(hn:Rf U x (S.val T ty x)=true)(sh:List Nat):(S.toSt U).val sh x=(S.val T ty x).toA U:=by
 cases x with
 |tmp t=>rfl
 |func f=>rfl
 |global g=>rfl
 |const v=>
  have hn:Ef (S.val T ty (.const v)).cells=true:=hn
  have h:=Zs (U:=U) (T:=T) (S:=S) (ty:=ty) (x:= .const v) hs
  by_cases hv: ∃vs,v= .agg vs
  ·obtain⟨vs,rfl⟩:=hv
   have hc: ∃cs,S.val T ty (.const (.agg vs))= .g cs:=by
    have h:A.g _=_:=h;cases hh:S.val T ty (.const (.agg vs))with
    |g cs=>exact⟨cs,rfl⟩
    |c v=>rw[hh]at h;cases h
    |t xs=>rw[hh]at h;cases h
   obtain⟨cs,hc⟩:=hc;rw[hc]at h hn hs ⊢
   have h:A.g (Hz (cs.map (C6 U)) vs.toList)=A.g (cs.map (SV.toV U)):=h
   show A.g (Hz sh vs.toList)=A.g (cs.map (SV.toV U));rw[Al8 cs vs.toList sh (by injection h with e;exact e.symm) hn hs]
  ·have hv': ∀cs,v≠ .agg cs:=fun cs e=>hv ⟨cs,e⟩
   have hc:S.val T ty (.const v)= .c (Bj T ty v):=Q40 ty v hv';rw[hc]at h hn hs ⊢
   have h:Mz (([Bj T ty v]:List (SV U.D)).map (C6 U)) v= .c ((Bj T ty v).toV U):=h;rw[Q48 _ v hv']at h
   show Mz sh v=_;rw[Q48 sh v hv']
   have:=Al8 [Bj T ty v] [v] [sh.headD 0] (by simp only[Z8,Gk,Hz,List.headD_cons];injection h with e;rw[←e];rfl) hn hs
   simp only[Hz,Z8,Gk,List.headD_cons,Ld,and_true]at this
   show A.c _=A.c _;rw[this]
theorem Ab7 (c:SV U.D):(Dy U c).toV U=(c.toV U).cold:=by
 cases c with
 |rowT t d l=>cases l<;>rfl
 |_=>rfl
theorem Ab8{A B c:List V}(hc:c.length≤B.length):Es (A++B) A.length c=A++c++B.drop c.length:=by
 simp only[Es,List.take_left,List.drop_append,Z48 (Nat.le_add_right A.length c.length)];simp
theorem Ab9{sz:Nat}: ∀(xs:List (List V×A)) (q:Nat) (L B:List V) (ps:List (Nat×A)),L.length=q*sz->B.length=xs.length*sz→
  (∀p∈xs,p.2.cells=p.1∧p.1.length=sz)->ps=(xs.mapIdx fun i p=>(q+i,p.2))→
  Dj (fun i=>some (i*sz,sz)) (L++B) ps=some (L++(xs.map (·.1)).flatten):=by
 intro xs
 induction xs with
 |nil=>intro q L B ps hL hB _ hp;subst hp;simp only[List.length_nil,Nat.zero_mul]at hB;have:B=[]:=K9.1 hB;subst this;simp[Dj]
 |cons p r ih=>
  intro q L B ps hL hB hx hp;subst hp;obtain⟨h1,h2⟩:=hx p (by simp)
  have hlB:p.1.length≤B.length:=by rw[hB,h2,Xf,Nat.succ_mul];exact Nat.le_add_left _ _
  simp only[List.mapIdx_cons,Dj,Nat.add_zero];rw[if_pos ⟨by rw[h1,h2],by rw[Jh,hL];omega⟩,h1,←hL,Ab8 hlB]
  have:=ih (q+1) (L++p.1) (B.drop p.1.length) (r.mapIdx fun i p=>(q+1+i,p.2)) (by rw[Jh,hL,h2,Nat.succ_mul]) (by rw[List.length_drop,hB,h2,Xf,Nat.succ_mul];omega) (fun p hp=>hx p (Z56 _ hp)) rfl
  rw[Z8,List.flatten_cons,←Lc,←this]
  congr 1
  refine List.mapIdx_eq_mapIdx_iff.2 fun i hi=> ?_;simp only[Prod.mk.injEq,and_true];omega
theorem Yp{sz:Nat}: ∀(xs:List (List V)),(∀x∈xs,x.length=sz)->Dz sz xs.length xs.flatten=xs:=by
 intro xs
 induction xs with
 |nil=>intro _;rfl
 |cons x r ih=>
  intro h
  have hx:=h x (by simp)
  simp only[Xf,Dz,List.flatten_cons];rw[←hx,List.take_left,List.drop_left,hx,ih fun y hy=>h y (Z56 _ hy)]
theorem U0: ∀(ps:List (Nat×Operand)) (n:Nat),Aa4 n ps=true-> ∀(f:Operand->A),ps.map (fun p=>(p.1,f p.2))=ps.mapIdx fun i p=>(n+i,f p.2):=by
 intro ps
 induction ps with
 |nil=>intro n _ f;rfl
 |cons p r ih=>
  intro n h f;simp only[Aa4,Z4]at h
  have h1:=Z2 h.1;rw[Z8,ih (n+1) h.2 f,List.mapIdx_cons,h1,Nat.add_zero]
  congr 1
  refine List.mapIdx_eq_mapIdx_iff.2 fun i hi=> ?_;simp only[Prod.mk.injEq,and_true];omega
theorem Lj{β γ δ:Type}(g:β->γ): ∀(l:List β) (f:Nat->γ->δ),(l.map g).mapIdx f=l.mapIdx fun i a=>f i (g a):=by
 intro l
 induction l with
 |nil=>intro f;rfl
 |cons a r ih=>intro f;rw[Z8,List.mapIdx_cons,List.mapIdx_cons,ih]
theorem Ai6{e n:Nat}{te:TI}{parts:Array (Nat×Operand)}(hseq:Aa4 0 parts.toList=true)(hn:parts.toList.length=n)(hz:te.zero.length=te.size)(hpos:0<te.size)
  (h: ∀p∈parts.toList,Q6 (S.val T e p.2).cells=true∧(S.val T e p.2).cells.length=te.size∧Rf U p.2 (S.val T e p.2)=true):
  bsF (S.toSt U) te n parts=some ((parts.toList.map fun p=>(S.val T e p.2).cells.map (Dy U)).map fun c=>c.map (SV.toV U)):=by
 have hv: ∀p∈parts.toList,(S.toSt U).val te.sh p.2=(S.val T e p.2).toA U:=fun p hp=>Wr (h p hp).1 (by rw[(h p hp).2.1];exact hpos) (h p hp).2.2 te.sh
 have h1:parts.toList.all (fun p=>Ay ((S.toSt U).val te.sh p.2))=true:=Z1.2 fun p hp=>by
  rw[hv p hp];exact Q37 (h p hp).1 (by rw[(h p hp).2.1];exact hpos)
 unfold bsF;simp only[h1]
 have h2:=Ab9 (sz:=te.size) (parts.toList.map fun p=>(((S.val T e p.2).cells.map (SV.toV U)),(S.toSt U).val te.sh p.2)) 0 [] (Qp n te.zero) (parts.toList.map fun p=>(p.1,(S.toSt U).val te.sh p.2)) (by simp) (by rw[Ae3,hz,Bu,hn])
  (fun q hq=>by
   obtain⟨p,hp,rfl⟩:=D9.1 hq;exact⟨by rw[hv p hp,Zt],by rw[Bu,(h p hp).2.1]⟩)
  (by rw[U0 _ 0 hseq (fun q=>(S.toSt U).val te.sh q),Lj])
 simp only[Zl,Cq]at h2;rw[h2];simp only[Z7]
 have h3:=Yp (sz:=te.size) (parts.toList.map fun p=>(S.val T e p.2).cells.map (SV.toV U)) (fun x hx=>by
  obtain⟨p,hp,rfl⟩:=D9.1 hx;rw[Bu,(h p hp).2.1])
 rw[Bu,hn]at h3
 have e1:(Prod.fst ∘ fun(p:Nat×Operand)=>(((S.val T e p.2).cells.map (SV.toV U)),(S.toSt U).val te.sh p.2))=fun p=>(S.val T e p.2).cells.map (SV.toV U):=rfl;rw[e1,h3,D4,Cq,Cq];refine Er fun p hp=> ?_;simp only[Function.comp,Cq];refine Er fun c hc=>(Ab7 c).symm
theorem Aca (hU:Ab U){e:Nat}: ∀(css:List (List (SV U.D))) (l:List (U.D e)),Ng U e css=some l->css.map (fun c=>c.map (SV.toV U))=l.map (U.en e)∧l.length=css.length:=by
 intro css
 induction css with
 |nil=>intro l h;cases h;exact⟨rfl,rfl⟩
 |cons c r ih=>
  intro l h;unfold Ng at h;split at h
  ·rename_i a l' ha hl';cases h;obtain⟨h1,h2⟩:=ih l' hl';exact⟨by rw[Z8,Z8,h1,hU.fS e c a ha],by rw[Xf,Xf,h2]⟩
  ·cases h
theorem N3 (hU:Ab U)(e:Nat):U.eT (U.flat e) e=U.en e:=by
 cases h:U.flat e with
 |true=>exact hU.flat e h
 |false=>rfl
theorem Ft (d:Nat): ∀(l:List Oper),Nat.ble 100 (Bn d l)=true:=by
 intro l
 induction l with
 |nil=>rw[Nat.ble_eq,Bn];omega
 |cons o r ih=>
  unfold Bn;split
  ·split
   ·rw[Nat.ble_eq];omega
   ·exact ih
  ·exact ih
theorem U1 (hU:Ab U)(hw:A5 S τ){rest:List Oper}{t n:Nat}{parts:Array (Nat×Operand)}(ho:o.op= .buildSlice t n parts)(h:Nh U T S o.dst rest t n parts k=some r):Bp U F T S τ o k r:=by
 unfold Nh at h;split at h
 ·rename_i d ti hd ht;split at h
  ·rename_i e hk;split at h
   ·rename_i te he;split at h
    ·rename_i hc;simp only[Z4]at hc;obtain⟨⟨⟨⟨⟨⟨c1,c2⟩,c3⟩,c4⟩,c5⟩,c6⟩,c7⟩:=hc
     have c2:=Z2 c2
     have c4:=Z2 c4
     have c5:=Z2 c5
     have hp:0<te.size:=by simpa using c6
     have hparts: ∀p∈parts.toList,Q6 (S.val T e p.2).cells=true∧(S.val T e p.2).cells.length=te.size∧Rf U p.2 (S.val T e p.2)=true:=fun p hpm=>by
      have:=Z1.1 c7 p hpm;simp only[Z4]at this;exact⟨this.1.1,Z2 this.1.2,this.2⟩
     have key:=sBS (F:=F) (T:=T) ho (Bn d rest) ht hk he (Ai6 c1 c2 c5 hp hparts) (Ft d rest) c6 c5 c3;split at h
     ·split at h
      ·rename_i l hl;obtain⟨e1,e2⟩:=Aca hU _ l hl
       have hln:l.length=n:=by rw[e2,Bu,c2]
       refine⟨_,h,?_,hw.new (B:= .rows (S.ver (Bn d rest)) e (U.flat e||l.isEmpty) false l) rfl (Q39 rfl) trivial⟩
       have hm:l.map (U.eT (U.flat e||l.isEmpty) e)=l.map (U.en e):=by
        cases l with
        |nil=>rfl
        |cons a r=>rw[List.isEmpty_cons,Bool.or_false,N3 hU]
       rw[e1,c4,←hln,←hm]at key;exact key
      ·cases h
     ·split at h
      ·rename_i p hps
       have hn1:n=1:=by rw[←c2,hps];rfl
       refine⟨_,h,?_,hw.new (B:= .opn (S.ver (Bn d rest)) e true true [@default _ (U.inh e)] 2 0 ((S.val T e p.2).cells.map (Dy U))) rfl (Q39 rfl) ⟨⟨by decide,by simp⟩,fun _=>⟨(hw.1 0).symm,.inl rfl⟩,fun c hc=> ?_,?_,fun h=>by cases h⟩⟩
       ·rw[hn1,c4]at key;rw[hps]at key ⊢;exact key
       ·obtain⟨c',hc',rfl⟩:=D9.1 hc
        have:=Q51 (hw.val (T:=T) e p.2) c' hc';cases c' with
        |rowT t d l=>cases l<;>trivial
        |_=>exact this
       ·rw[Bu,(hparts p (by rw[hps];simp)).2.1,c4]
      ·cases h
    ·cases h
   ·cases h
  ·cases h
 ·cases h
theorem Yq (hU:Ab U)(hw:A5 S τ){rest:List Oper}{t:Nat}{x y:Operand}(ho:o.op= .makeSlice t x y)(h:Ui U T S o.dst rest t x y k=some r):Bp U F T S τ o k r:=by
 unfold Ui at h;split at h
 ·rename_i d ti kl l gl kc c gc hd ht hx hy;split at h
  ·rename_i e hk;split at h
   ·rename_i te he;split at h
    ·rename_i z hz;obtain⟨z1,z2,z3⟩:=Afv (S:=S) (τ:=τ) hw.1 hz;split at h
     ·rename_i a ha;split at ha
      ·rename_i hc;simp only[Z4]at hc;obtain⟨⟨c1,c2⟩,c3⟩:=hc
       have c1:=Z2 c1
       have c3:=Z2 c3
       have hza:te.zero=U.eF e a:=by rw[←z1,hU.fO e true z a ha,hU.cO]
       split at h
       ·rename_i hb;refine⟨_,h,?_,hw.new (B:= .rows (S.ver (Bn d rest)) e true false (List.replicate l.toNat a)) rfl (Q39 rfl) trivial⟩
        have:=Als (F:=F) ho (Bn d rest) (f:=U.eF e) a (J2 hx) (J2 hy) ht hk he hza (Ft d rest) c2 c1 hb;rw[c3]at this;exact this
       ·cases h
      ·cases ha
     ·cases h
    ·cases h
   ·cases h
  ·cases h
 ·cases h
theorem Ai7 (hU:Ab U){w:SV U.D}{ids:List Nat}{d:Bool}{t:Nat}{l:List (U.D t)}(h:E7 U S w=some (ids,d,⟨t,l⟩))(hw:w.ok S τ)(hf:(U.flat t|| !d)=true):
  Hm (S.toSt U) (w.toV U)=some (l.map (U.en t))∧Dl (w.toV U)=ids∧Mc (S.toSt U) (U.sz t) (w.toV U)=true:=by
 have hen:U.eT d t=U.en t:=by
  cases d with
  |false=>rfl
  |true=>exact hU.flat t (by simpa using hf)
 cases w with
 |row t' l'=>cases h;exact⟨rfl,rfl,by simp[SV.toV,Mc]⟩
 |rowT t' d' l'=>
  cases l' with
  |nil=>cases h;exact⟨rfl,rfl,by simp[SV.toV,Mc]⟩
  |cons a b=>cases h
 |own id ver n=>
  simp only[E7]at h;split at h
  ·rename_i ver' t' d' cl l' hB;split at h
   ·rename_i hv
    have hv:=Z2 hv;subst hv;cases h
    have hn:n=l.length:=hw.2 _ hB rfl;refine⟨?_,rfl,?_⟩
    ·simp only[SV.toV,Hm,Ac hB,SB.toB,Q60,Z55];rw[hn,←Bu (f:=U.eT d t),List.take_length,hen]
    ·simp only[SV.toV,Mc,Ac hB,SB.toB,Nat.beq_refl]
   ·cases h
  ·cases h
 |part id ver lo hi=>
  simp only[E7]at h;split at h
  ·rename_i ver' t' d' cl l' hB;split at h
   ·rename_i hv
    have hv:=Z2 hv;subst hv;cases h;refine⟨?_,rfl,?_⟩
    ·simp only[SV.toV,Hm,Ac hB,SB.toB,Q60];rw[←List.map_drop,←List.map_take,hen]
    ·simp only[SV.toV,Mc,Ac hB,SB.toB,Nat.beq_refl]
   ·cases h
  ·cases h
 |_=>cases h
theorem J8{dst:Option Tmp}{v:SA U.D}{id nid:Nat}{b:Option (SB U.D)}{bump:List Nat}{use ids:List Nat}(i:Nat):(S.app dst {v,upd:=[(id,none),(nid,b)],bump,use,ids}).blk i=if i=nid then b else if i=id then none else S.blk i:=by
 show(⟨_,(nid,b)::(id,none)::S.H,_,_⟩:SS U.D).blk i=_;rw[Ro,Ro];rfl
theorem A5.app2 (hw:A5 S τ){dst:Option Tmp}{v:SA U.D}{id nid:Nat}{B:SB U.D}{use ids:List Nat}(h1:B.ver=S.ver nid)(hv:v.ok (S.app dst {v,upd:=[(id,none),(nid,some B)],bump:=[nid],use,ids}) τ)(hB:B.ok S τ):A5 (S.app dst {v,upd:=[(id,none),(nid,some B)],bump:=[nid],use,ids}) τ:=by
 have e:G4 S (S.app dst {v,upd:=[(id,none),(nid,some B)],bump:=[nid],use,ids}):=by
  refine⟨Z9 _,fun i=> ?_,fun i C hC hlt=> ?_⟩
  ·rw[Yh];split
   ·rename_i e;subst e;exact Nat.le_succ _
   ·exact Z9 _
  ·rw[J8]at hC;split at hC
   ·rename_i e;cases hC;subst e;omega
   ·split at hC
    ·cases hC
    ·exact⟨C,hC,rfl,rfl,fun _=>rfl⟩
 refine hw.app e hv fun i C hC=> ?_;rw[J8]at hC;split at hC
 ·rename_i e2;cases hC;subst e2;refine .inr ⟨?_,hB.mono e⟩;rw[Yh,if_pos rfl,h1];exact Nat.lt_succ_self _
 ·split at hC
  ·cases hC
  ·exact .inl hC
theorem Afz{dst:Option Tmp}{v:SA U.D}{id nid n:Nat}{B:SB U.D}{use ids:List Nat}(hn:n=B.len):(SA.c (.own nid (S.ver nid) n):SA U.D).ok (S.app dst {v,upd:=[(id,none),(nid,some B)],bump:=[nid],use,ids}) τ:=by
 refine⟨by rw[Yh,if_pos rfl];exact Nat.lt_succ_self _,fun C hC _=> ?_⟩
 rw[J8,if_pos rfl]at hC;cases hC;exact hn
theorem J9{ty:Nat}{x:Operand}{v:SV U.D}{e n:Nat}(h:S.val T ty x= .c v)(hs:v≠ .undef)(hk:isT v=true->C6 U v=n):(S.toSt U).val [n] x= .c (v.toV U):=by
 cases x with
 |tmp t=>show(S.get t).toA U=_;have h:S.get t= .c v:=h;rw[h];rfl
 |const w=>
  by_cases ht:isT v=true
  ·have hsol:v.solid=true:=by cases v<;>first|rfl|cases ht
   have:=Zs (U:=U) (T:=T) (S:=S) (ty:=ty) (x:= .const w) (by rw[h];show Q6 [v]=true;simpa[Q6]using hsol)
   rw[h]at this
   have this:(S.toSt U).val [C6 U v] (.const w)= .c (v.toV U):=this;rw[hk ht]at this;exact this
  ·have hsol:v.solid=true:=by
    have h':Tj T ty w= .c v:=h
    by_cases hw: ∃cs,w= .agg cs
    ·obtain⟨cs,rfl⟩:=hw;unfold Tj at h';simp only at h';split at h'
     ·split at h'
      ·cases h'
      ·cases h';exact absurd rfl hs
     ·cases h';exact absurd rfl hs
    ·rw[Q40 ty w fun cs e=>hw ⟨cs,e⟩]at h';cases h';exact(Alz ty w).resolve_left hs
   have:=Wr (U:=U) (T:=T) (S:=S) (ty:=ty) (x:= .const w) (by rw[h];show Q6 [v]=true;simpa[Q6]using hsol) (by rw[h];exact Nat.one_pos) (by rw[h];show Ef [v]=true;simpa[Ef]using ht) [n]
   rw[h]at this;exact this
 |func f=>cases h;rfl
 |global g=>cases h;exact absurd rfl hs
theorem Ka{dst:Option Tmp}{v:SA U.D}{id id2 nid:Nat}{b:Option (SB U.D)}{bump:List Nat}{use ids:List Nat}(i:Nat):(S.app dst {v,upd:=[(id,none),(id2,none),(nid,b)],bump,use,ids}).blk i=if i=nid then b else if i=id2 then none else if i=id then none else S.blk i:=by
 show(⟨_,(nid,b)::(id2,none)::(id,none)::S.H,_,_⟩:SS U.D).blk i=_;rw[Ro,Ro,Ro];rfl
theorem A5.app3 (hw:A5 S τ){dst:Option Tmp}{v:SA U.D}{id id2 nid:Nat}{B:SB U.D}{use ids:List Nat}(h1:B.ver=S.ver nid)(hv:v.ok (S.app dst {v,upd:=[(id,none),(id2,none),(nid,some B)],bump:=[nid],use,ids}) τ)(hB:B.ok S τ):A5 (S.app dst {v,upd:=[(id,none),(id2,none),(nid,some B)],bump:=[nid],use,ids}) τ:=by
 have e:G4 S (S.app dst {v,upd:=[(id,none),(id2,none),(nid,some B)],bump:=[nid],use,ids}):=by
  refine⟨Z9 _,fun i=> ?_,fun i C hC hlt=> ?_⟩
  ·rw[Yh];split
   ·rename_i e;subst e;exact Nat.le_succ _
   ·exact Z9 _
  ·rw[Ka]at hC;split at hC
   ·rename_i e;cases hC;subst e;omega
   ·split at hC
    ·cases hC
    ·split at hC
     ·cases hC
     ·exact⟨C,hC,rfl,rfl,fun _=>rfl⟩
 refine hw.app e hv fun i C hC=> ?_;rw[Ka]at hC;split at hC
 ·rename_i e2;cases hC;subst e2;refine .inr ⟨?_,hB.mono e⟩;rw[Yh,if_pos rfl,h1];exact Nat.lt_succ_self _
 ·split at hC
  ·cases hC
  ·split at hC
   ·cases hC
   ·exact .inl hC
theorem N4{dst:Option Tmp}{v:SA U.D}{id id2 nid n:Nat}{B:SB U.D}{use ids:List Nat}(hn:n=B.len):(SA.c (.own nid (S.ver nid) n):SA U.D).ok (S.app dst {v,upd:=[(id,none),(id2,none),(nid,some B)],bump:=[nid],use,ids}) τ:=by
 refine⟨by rw[Yh,if_pos rfl];exact Nat.lt_succ_self _,fun C hC _=> ?_⟩
 rw[Ka,if_pos rfl]at hC;cases hC;exact hn
theorem Kb{idw vw n:Nat}{ids:List Nat}{d:Bool}{t:Nat}{l:List (U.D t)}(h:E7 U S (.own idw vw n)=some (ids,d,⟨t,l⟩)): ∃c,S.blk idw=some (.rows vw t d c l):=by
 simp only[E7]at h;split at h
 ·rename_i ver' t' d' cl l' hB;split at h
  ·rename_i hv
   have hv:=Z2 hv;subst hv;cases h;exact⟨cl,hB⟩
  ·cases h
 ·cases h
theorem Q95 (hU:Ab U)(t ver:Nat)(l:List (U.D t)):allClosed ⟨ver,U.sz t,l.map (U.eT true t)⟩=true:=by
 refine Z1.2 fun x hx=> ?_;obtain⟨a,_,rfl⟩:=D9.1 hx;exact(hU.eF t).closed a
theorem R4 (hU:Ab U)(hw:A5 S τ){rest:List Oper}{d t e:Nat}{x y:Operand}{ti te:TI}{u w:SV U.D}{id:Nat}{idw:List Nat}{ok dw:Bool}{l l2:List (U.D e)}(ho:o.op= .call {callee:= .builtin .append,args:= #[x,y],argTypes:= #[t,t]})
  (hx:S.val T t x= .c u) (hbase:(∃ver n c,u= .own id ver n∧S.blk id=some (.rows ver e true c l))∨(∃d',u= .rowT e d' []∧l=[]∧id=0)) (hy:S.val T t y= .c w) (hl:E7 U S w=some (idw,dw,⟨e,l2⟩)) (hok:ok=true->dw=true)
  (ht:tg T t=some ti) (hk:ti.k= .slice e) (he:tg T e=some te) (c1:Nat.blt 0 te.size=true) (c2:te.size=U.sz e) (c3:te.zero.length=te.size)
  (h:Rh U S d rest e te id ok w l l2 (Q2 [x,y]) k=some r):Bp U F T S τ o k r:=by
 have hx0:=hw.val (T:=T) t x
 have hy0:=hw.val (T:=T) t y;rw[hx]at hx0;rw[hy]at hy0;unfold Rh at h;split at h
 ·rename_i idw' vw nw
  have hdw:=hok rfl;subst hdw;obtain⟨cw,hBw⟩:=Kb hl
  have hnw:nw=l2.length:=hy0.2 _ hBw rfl;split at h
  ·rename_i hne
   have hne:id≠idw':=fun e=>by subst e;rw[Nat.beq_refl]at hne;cases hne
   split at h
   ·rename_i hb
    have hvy:=Q92 hy;rw[hnw]at hvy;refine⟨_,h,?_,hw.app3 (B:= .rows (S.ver (Bn d rest)) e true false (l++l2)) rfl (N4 rfl) trivial⟩
    have key: ∀(uu:V) (vx:Nat) (shx:List Nat),(S.toSt U).val shx x= .c uu->((uu= .own id vx 0 (l.map (U.eT true e)).length∧(S.toSt U).H id=some ⟨vx,te.size,l.map (U.eT true e)⟩∧allClosed ⟨vx,te.size,l.map (U.eT true e)⟩=true∧id≠idw')∨(uu= .row true te.size []∧l.map (U.eT true e)=[]∧id=0))→
      Ca F T o (S.toSt U) (Aj.toRec U {v:= .c (.own (Bn d rest) (S.ver (Bn d rest)) (l++l2).length),upd:=[(idw',none),(id,none),(Bn d rest,some (.rows (S.ver (Bn d rest)) e true false (l++l2)))],bump:=[Bn d rest],use:=Q2 [x,y],ids:=[Bn d rest,id,idw']}):=fun uu vx shx q1 q2=>by
     have:=Aop (F:=F) ho (Bn d rest) shx (vx:=vx) (vy:=vw) (xs:=l.map (U.eT true e)) (ys:=l2.map (U.eT true e)) q1 (by rw[Bu];exact hvy) ht hk he (by rw[c2];exact Ac hBw) (by rw[c2];exact Q95 hU e vw l2) q2 (Ft d rest) c1 c3 (by rw[Bu,Bu];rw[Jh]at hb;exact hb)
     rw[Bu,Bu,←Jh,c2,←Fv]at this;exact this
    rcases hbase with ⟨ver,n,c,rfl,hB⟩|⟨d',rfl,rfl,rfl⟩
    ·have hn:n=l.length:=hx0.2 _ hB rfl;refine key _ ver [] (Q92 hx) (.inl ⟨by rw[Bu,hn],by rw[c2];exact Ac hB,by rw[c2];exact Q95 hU e ver l,hne⟩)
    ·refine key _ 0 [te.size] (J9 (e:=e) hx (by simp) (fun _=>c2.symm)) (.inr ⟨by rw[c2];rfl,rfl,rfl⟩)
   ·cases h
  ·cases h
 ·cases h
theorem Ws{cs:List (SV U.D)}(h:cs.all (Jw U)=true):noT [cs.map (SV.toV U)]=true:=by
 simp only[noT,Fw,List.all_nil,Bool.and_true,List.all_map];refine Z1.2 fun c hc=> ?_
 have:=Z1.1 h c hc
 show Ua (c.toV U)=true;cases c<;>first|rfl|cases this
theorem Ml (hU:Ab U)(hw:A5 S τ){rest:List Oper}{d t e:Nat}{x y:Operand}{ti te:TI}{u:SV U.D}{id idw vw nw:Nat}{l:List (U.D e)}{cs:List (SV U.D)}{dw q:Bool}{a:U.D e}{gw:Nat}{iw:Int}(ho:o.op= .call {callee:= .builtin .append,args:= #[x,y],argTypes:= #[t,t]})
  (hx:S.val T t x= .c u) (hbase:(∃ver n c,u= .own id ver n∧S.blk id=some (.rows ver e true c l)∧id≠idw)∨(∃d',u= .rowT e d' []∧l=[]∧id=0)) (hy:S.val T t y= .c (.own idw vw nw)) (hB:S.blk idw=some (.opn vw e dw q [a] gw iw cs)) (hcl:cs.all (Jw U)=true)
  (ht:tg T t=some ti) (hk:ti.k= .slice e) (he:tg T e=some te) (c1:Nat.blt 0 te.size=true) (c2:te.size=U.sz e) (c3:te.zero.length=te.size)
  (h:Ni U S d rest e te id idw l cs (Q2 [x,y]) k=some r):Bp U F T S τ o k r:=by
 have hx0:=hw.val (T:=T) t x
 have hy0:=hw.val (T:=T) t y;rw[hx]at hx0;rw[hy]at hy0
 have hbo:=(hw.2.2 idw _ hB).2
 have hiw:iw=0:=by
  obtain⟨⟨g1,g2⟩,_⟩:=hbo;simp at g2;omega
 subst hiw
 have hnw:nw=1:=hy0.2 _ hB rfl;subst hnw;unfold Ni at h;split at h
 ·rename_i hb;refine⟨_,h,?_,hw.app3 (B:= .opn (S.ver (Bn d rest)) e true true (l++[@default _ (U.inh e)]) 0 (l.length:Int) cs) rfl (N4 (by simp[SB.len])) ⟨⟨by omega,by simp only[Jh,List.length_singleton];omega⟩,fun h=>absurd rfl h,hbo.2.2.1,hbo.2.2.2.1,fun h=>by cases h⟩⟩
  have hset:((l++[@default _ (U.inh e)]).map (U.eT true e)).set ((l.length:Int)).toNat (cs.map (SV.toV U))=l.map (U.eT true e)++[cs.map (SV.toV U)]:=by
   rw[Int.toNat_natCast,Fv,List.set_append_right _ _ (by simp)]
   simp
  have key: ∀(uu:V) (vx:Nat) (shx:List Nat),(S.toSt U).val shx x= .c uu->((uu= .own id vx 0 (l.map (U.eT true e)).length∧(S.toSt U).H id=some ⟨vx,te.size,l.map (U.eT true e)⟩∧allClosed ⟨vx,te.size,l.map (U.eT true e)⟩=true∧id≠idw)∨(uu= .row true te.size []∧l.map (U.eT true e)=[]∧id=0))→
    Ca F T o (S.toSt U) (Aj.toRec U {v:= .c (.own (Bn d rest) (S.ver (Bn d rest)) (l.length+1)),upd:=[(idw,none),(id,none),(Bn d rest,some (.opn (S.ver (Bn d rest)) e true true (l++[@default _ (U.inh e)]) 0 (l.length:Int) cs))],bump:=[Bn d rest],use:=Q2 [x,y],ids:=[Bn d rest,id,idw]}):=fun uu vx shx q1 q2=>by
   have:=Aoq (F:=F) ho (Bn d rest) shx (vx:=vx) (vy:=vw) (xs:=l.map (U.eT true e)) (ys:=[cs.map (SV.toV U)]) q1 (Q92 hy) ht hk he (by rw[c2];exact Ac hB) (Ws hcl) q2 (Ft d rest) c1 c3 (by rw[Bu];exact hb)
   rw[Bu,c2,←hset]at this;exact this
  rcases hbase with ⟨ver,n,c,rfl,hB,hne⟩|⟨d',rfl,rfl,rfl⟩
  ·have hn:n=l.length:=hx0.2 _ hB rfl;refine key _ ver [] (Q92 hx) (.inl ⟨by rw[Bu,hn],by rw[c2];exact Ac hB,by rw[c2];exact Q95 hU e ver l,hne⟩)
  ·refine key _ 0 [te.size] (J9 (e:=e) hx (by simp) (fun _=>c2.symm)) (.inr ⟨by rw[c2];rfl,rfl,rfl⟩)
 ·cases h
theorem Acb (hU:Ab U)(hw:A5 S τ){rest:List Oper}{d t e:Nat}{x y:Operand}{ti te:TI}{u w:SV U.D}(ho:o.op= .call {callee:= .builtin .append,args:= #[x,y],argTypes:= #[t,t]})
  (hx:S.val T t x= .c u) (hy:S.val T t y= .c w) (ht:tg T t=some ti) (hk:ti.k= .slice e) (he:tg T e=some te) (c1:Nat.blt 0 te.size=true) (c2:te.size=U.sz e) (c3:te.zero.length=te.size)
  (h:Aa6 U S d rest e te u w (Q2 [x,y]) k=some r):Bp U F T S τ o k r:=by
 unfold Aa6 at h;split at h
 ·rename_i idw vw nw;split at h
  ·rename_i vw' ew dw q a gw iw cs hB;split at h
   ·rename_i he2 hc _;subst he2;simp only[Z4]at hc
    have e1:=Z2 hc.1;subst e1;split at h
    ·rename_i id ver n;split at h
     ·rename_i ver' eu du c l hB2;split at h
      ·rename_i h1 hc2 _;subst h1;simp only[Z4,Zu]at hc2;obtain⟨⟨k1,k2⟩,k3⟩:=hc2
       have k1:=Z2 k1;subst k1;subst k2;exact Ml hU hw ho hx (.inl ⟨_,_,_,rfl,hB2,fun e=>by subst e;rw[Nat.beq_refl]at k3;cases k3⟩) hy hB hc.2 ht hk he c1 c2 c3 h
      ·cases h
     ·cases h
    ·split at h
     ·rename_i h1 _;subst h1;exact Ml hU hw ho hx (.inr ⟨_,rfl,rfl,rfl⟩) hy hB hc.2 ht hk he c1 c2 c3 h
     ·cases h
    ·cases h
   ·cases h
  ·cases h
 ·cases h
theorem Acd (hU:Ab U)(hw:A5 S τ){rest:List Oper}{d t e:Nat}{x y:Operand}{ti te:TI}{id ver n idw vw nw:Nat}{l2:List (U.D e)}{cs:List (SV U.D)}{dw q cw:Bool}{a:U.D e}{gw:Nat}{iw:Int}(ho:o.op= .call {callee:= .builtin .append,args:= #[x,y],argTypes:= #[t,t]})
  (hx:S.val T t x= .c (.own id ver n)) (hB:S.blk id=some (.opn ver e dw q [a] gw iw cs)) (hcl:cs.all (Jw U)=true) (hy:S.val T t y= .c (.own idw vw nw)) (hBw:S.blk idw=some (.rows vw e true cw l2))
  (ht:tg T t=some ti) (hk:ti.k= .slice e) (he:tg T e=some te) (c1:Nat.blt 0 te.size=true) (c2:te.size=U.sz e) (c3:te.zero.length=te.size)
  (h:Aa7 U S d rest e te id idw l2 cs (Q2 [x,y]) k=some r):Bp U F T S τ o k r:=by
 have hx0:=hw.val (T:=T) t x
 have hy0:=hw.val (T:=T) t y;rw[hx]at hx0;rw[hy]at hy0
 have hbo:=(hw.2.2 id _ hB).2
 have hiw:iw=0:=by
  obtain⟨⟨g1,g2⟩,_⟩:=hbo;simp at g2;omega
 subst hiw
 have hn:n=1:=hx0.2 _ hB rfl;subst hn
 have hnw:nw=l2.length:=hy0.2 _ hBw rfl;subst hnw;unfold Aa7 at h;split at h
 ·rename_i hne
  have hne:id≠idw:=fun e=>by subst e;rw[Nat.beq_refl]at hne;cases hne
  split at h
  ·rename_i hb;refine⟨_,h,?_,hw.app3 (B:= .opn (S.ver (Bn d rest)) e true true (@default _ (U.inh e)::l2) 0 0 cs) rfl (N4 (by simp[SB.len])) ⟨⟨by omega,by simp only[Xf];omega⟩,fun h=>absurd rfl h,hbo.2.2.1,hbo.2.2.2.1,fun h=>by cases h⟩⟩
   have hvy:=Q92 hy
   have:=Aor (F:=F) ho (Bn d rest) (vx:=ver) (vy:=vw) (xs:=[cs.map (SV.toV U)]) (ys:=l2.map (U.eT true e)) (Q92 hx) (by rw[Bu];exact hvy) ht hk he (by rw[c2];exact Ac hBw) (by rw[c2];exact Q95 hU e vw l2) (by rw[c2];exact Ac hB) (Ws hcl) hne (Ft d rest) c1 c3 (by rw[Bu,List.length_singleton,Nat.add_comm];exact hb)
   rw[Bu,List.length_singleton,Nat.add_comm,c2]at this;exact this
  ·cases h
 ·cases h
theorem U2 (hU:Ab U)(hw:A5 S τ){rest:List Oper}{t:Nat}{x y:Operand}(ho:o.op= .call {callee:= .builtin .append,args:= #[x,y],argTypes:= #[t,t]})(h:Nj U T S o.dst rest t x y k=some r):Bp U F T S τ o k r:=by
 unfold Nj at h
 have hx0:=hw.val (T:=T) t x
 have hy0:=hw.val (T:=T) t y;split at h
 ·rename_i d ti u w hd ht hx hy;rw[hx]at hx0;rw[hy]at hy0;split at h
  ·rename_i e idw dw ew l2 hk hl;split at h
   ·rename_i te h2 he _;subst h2;split at h
    ·rename_i hc;simp only[Z4]at hc;obtain⟨⟨c1,c2⟩,c3⟩:=hc
     have c2:=Z2 c2
     have c3:=Z2 c3
     have hne:w≠ .undef:=by rintro rfl;cases hl
     have hTw:isT w=true->C6 U w=te.size:=fun hT=>by
      cases w with
      |rowT t' d' l'=>cases l' with
       |nil=>cases hl;exact c2.symm
       |cons a b=>cases hl
      |_=>cases hT
     have hvy:=J9 (e:=ew) hy hne hTw;split at h
     ·rename_i id ver n
      have hvx:=J9 (e:=ew) (n:=te.size) hx (by simp) (by simp[isT])
      split at h
      ·rename_i ver' eu du cl l hB;split at h
       ·rename_i h1 hv _
        have hv:=Z2 hv;subst hv;subst h1;split at h
        ·rename_i hf
         have hf1:(U.flat eu|| !dw)=true:=by
          cases hfl:U.flat eu with
          |true=>rfl
          |false=>rw[hfl]at hf;simp at hf ⊢;exact hf.2
         have hf2:U.eT du eu=U.en eu:=by
          cases hfl:U.flat eu with
          |true=>cases du with
           |true=>exact hU.flat eu hfl
           |false=>rfl
          |false=>rw[hfl]at hf;simp at hf;rw[hf.1];rfl
         obtain⟨r1,r2,r3⟩:=Ai7 hU hl hy0 hf1
         have hn:n=l.length:=hx0.2 _ hB rfl;split at h
         ·rename_i hb;refine⟨_,h,?_,hw.app2 (B:= .rows (S.ver (Bn d rest)) eu (U.flat eu) false (l++l2)) rfl (Afz rfl) trivial⟩
          have:=sAo (F:=F) ho (Bn d rest) (f:=U.en eu) l l2 (by rw[c2];exact hU.en eu) (by rw[←hn];exact hvx) (by rw[Ac hB];simp only[SB.toB];rw[hf2,c2]) hvy r1 (by rw[c2];exact r3) ht hk he (Ft d rest) c1 c3 hb
          rw[r2,c2,←N3 hU eu]at this;exact this
         ·cases h
        ·rename_i hf;cases du with
         |true=>exact R4 hU hw ho hx (.inl ⟨_,_,_,rfl,hB⟩) hy hl (fun h=>by simpa using h) ht hk he c1 c2 c3 h
         |false=>unfold Rh at h;cases h
       ·cases h
      ·rename_i ver' eu d' q' a' g' i' cs' hB;split at h
       ·rename_i h1 idw' vw' nw' hv _;simp only[Z4]at hv;obtain⟨⟨hv,hcl⟩,hd⟩:=hv
        have hv:=Z2 hv;subst hv;subst h1;subst hd;obtain⟨cw,hBw⟩:=Kb hl;exact Acd hU hw ho hx hB hcl hy hBw ht hk he c1 c2 c3 h
       ·cases h
      ·cases h
     ·rename_i eu du;split at h
      ·rename_i h1 hf _;subst h1;obtain⟨r1,r2,r3⟩:=Ai7 hU hl hy0 hf
       have hvx:=J9 (e:=eu) (n:=te.size) hx (by simp) (fun _=>c2.symm)
       split at h
       ·rename_i hb;refine⟨_,h,?_,hw.new (B:= .rows (S.ver (Bn d rest)) eu (U.flat eu) false l2) rfl (Q39 rfl) trivial⟩
        have:=sAn (F:=F) ho (Bn d rest) (f:=U.en eu) l2 (es0:=U.sz eu) (by rw[c2];exact hU.en eu) hvx (by rw[c2];exact Nat.beq_refl _) hvy r1 (by rw[c2];exact r3) ht hk he (Ft d rest) c1 c3 hb
        rw[r2,c2,←N3 hU eu]at this;exact this
       ·cases h
      ·rename_i h1 hf _;subst h1;exact R4 hU hw ho hx (.inr ⟨_,rfl,rfl,rfl⟩) hy hl (fun h=>h) ht hk he c1 c2 c3 h
      ·cases h
     ·cases h
    ·cases h
   ·cases h
  ·rename_i e hk hl;split at h
   ·rename_i te he;split at h
    ·rename_i hc;simp only[Z4]at hc;obtain⟨⟨c1,c2⟩,c3⟩:=hc;exact Acb hU hw ho hx hy ht hk he c1 (Z2 c2) (Z2 c3) h
    ·cases h
   ·cases h
  ·cases h
 ·cases h
theorem Af0{u:SV U.D}{id ver off len t:Nat}{d:Bool}{l:List (U.D t)}(h:Aff U S u=some (id,ver,off,len,d,⟨t,l⟩))(hu:u.ok S τ):(∃c,S.blk id=some (.rows ver t d c l))∧u.toV U= .own id ver off len∧isT u=false∧u≠ .undef∧off+len≤l.length:=by
 cases u with
 |own i v n=>
  simp only[Aff]at h;split at h
  ·rename_i ver' t' d' cl l' hB;split at h
   ·rename_i hv
    have hv:=Z2 hv;subst hv;cases h
    have hn:n=l.length:=hu.2 _ hB rfl;exact⟨⟨cl,hB⟩,by rw[SV.toV,hn],rfl,by simp,by omega⟩
   ·cases h
  ·cases h
 |part i v lo hi=>
  simp only[Aff]at h;split at h
  ·rename_i ver' t' d' cl l' hB;split at h
   ·rename_i hv
    have hv:=Z2 hv;subst hv;cases h;obtain⟨q1,q2,q3⟩:=hu.2 _ hB rfl
    have q3:hi≤(l.length:Int):=q3;exact⟨⟨cl,hB⟩,rfl,rfl,by simp,by omega⟩
   ·cases h
  ·cases h
 |_=>cases h
theorem Ace (hU:Ab U)(hw:A5 S τ){t t':Nat}{x y:Operand}(ho:o.op= .call {callee:= .builtin .copy,args:= #[x,y],argTypes:= #[t,t']})(h:Aa8 U T S t x y k=some r):Bp U F T S τ o k r:=by
 unfold Aa8 at h
 have hx0:=hw.val (T:=T) t x
 have hy0:=hw.val (T:=T) t y;split at h
 ·rename_i ti u w ht hx hy;rw[hx]at hx0;rw[hy]at hy0;split at h
  ·rename_i e id ver off len d e' l idw dw ew l2 hk hd hl;split at h
   ·rename_i te h1 h2 he _ _;subst h1;subst h2;split at h
    ·rename_i hc;simp only[Z4]at hc;obtain⟨⟨⟨c1,c2⟩,c3⟩,c4⟩:=hc
     have c1:=Z2 c1
     have c2:=Z2 c2;obtain⟨⟨cl,hB⟩,hv,hnT,hnu,hle⟩:=Af0 hd hx0;obtain⟨r1,r2,r3⟩:=Ai7 hU hl hy0 (by rw[c3];rfl)
     have hen:U.eT d ew=U.en ew:=by
      cases d with
      |true=>exact hU.flat ew c3
      |false=>rfl
     have hvx:=Em hx hnu hnT;rw[hv]at hvx
     have hne:w≠ .undef:=by rintro rfl;cases hl
     have hnTw:isT w=false∨ ∃tt,y= .tmp tt:=by
      cases y with
      |tmp tt=>exact .inr ⟨tt,rfl⟩
      |const v=>left;have:Ef [w]=true:=c4;simpa[Ef]using this
      |func f=>left;cases hy;rfl
      |global g=>exact absurd (by cases hy;rfl) hne
     have hvy:(S.toSt U).val [] y= .c (w.toV U):=by
      rcases hnTw with h|⟨tt,rfl⟩
      ·exact Em hy hne h
      ·show(S.get tt).toA U=_;have hy:S.get tt= .c w:=hy;rw[hy];rfl
     have hm: ∀(z:List (U.D ew)),z.map (U.eT d ew)=z.map (U.en ew):=fun z=>by rw[hen]
     have hmin:(l2.map (U.en ew)).length=l2.length:=Bu _;refine⟨_,h,?_,hw.chg (B':= .rows ver ew d false (l.take off++l2.take (Nat.min l2.length len)++l.drop (off+Nat.min l2.length len))) hB rfl ?_ rfl Fs trivial⟩
     ·have:=sCp (F:=F) ho (id:=id) (ver:=ver) (off:=off) (len:=len) (xs:=l.map (U.en ew)) (ys:=l2.map (U.en ew)) hvx hvy ht hk he c1 (by rw[Ac hB];simp only[SB.toB,c2,hen]) r1 (by rw[c2]at r3;exact r3) ((hU.en ew).noT l2)
      rw[hmin,r2]at this
      have e1:(l.map (U.en ew)).take off++(l2.map (U.en ew)).take (Nat.min l2.length len)++(l.map (U.en ew)).drop (off+Nat.min l2.length len)=(l.take off++l2.take (Nat.min l2.length len)++l.drop (off+Nat.min l2.length len)).map (U.eT d ew):=by
       rw[hen,Fv,Fv,List.map_take,List.map_take,List.map_drop]
      rw[e1]at this;simp only[Aj.toRec,Z8,Gk,Hf,SB.toB,c2];exact this
     ·have h0:Nat.min l2.length len≤len:=Nat.min_le_right _ _
      have h00:Nat.min l2.length len≤l2.length:=Nat.min_le_left _ _;simp only[SB.len,Jh,List.length_take,List.length_drop];omega
    ·cases h
   ·cases h
  ·cases h
 ·cases h
end
end Go.Eng
namespace Go.Eng
section
variable {U:Un} {T:Tab} {F:Fr} {S:SS U.D} {τ:Nat->Int}
theorem R5 (hU:Ab U){t:Nat}{a:SA U.D}{x:U.D t}(h:X7 U t a=some x):a.toA U=(Fq U t x).toA U:=by
 unfold X7 at h;unfold Fq;split at h
 ·rename_i v;split at h
  ·rename_i hg
   have h1:=hU.fS t _ x h;rw[←hU.cs t x]at h1
   try simp only[hg]
   match e:U.cs t x,h1 with
   |[],h1=>cases h1
   |[w],h1=>
    simp only[Z8,Gk,Ld,and_true]at h1
    show A.c _=A.c _;rw[h1]
   |_::_::_,h1=>simp at h1
  ·cases h
 ·rename_i cs;split at h
  ·rename_i hg
   have h1:=hU.fS t _ x h;rw[←hU.cs t x]at h1
   try simp only[hg]
   show A.g _=A.g _;rw[h1]
  ·cases h
 ·cases h
def Wt (H:List (SB U.D))(c:SV U.D):Prop:= ∀i v len,c= .own (i+1) v len-> ∀B,H[i]? =some B->len=B.len
theorem Wu{v:SV U.D}{e:Nat}{xs:List (List V)}(h:v.toV U= .row true e xs): ∃t d l,v= .rowT t d l∧U.sz t=e∧l.map (U.eT d t)=xs:=by
 cases v with
 |rowT t d l=>simp only[SV.toV,V.row.injEq,true_and]at h;exact⟨t,d,l,rfl,h.1,h.2⟩
 |row t l=>simp[SV.toV]at h
 |_=>cases h
theorem Q26{n:Nat}{v:SV U.D}{r:List (SV U.D)}(h:isT v=false):Q9 U n (v::r)=(v::(Q9 U n r).1,(Q9 U n r).2):=by
 cases v<;>first|rfl|cases h
theorem U3{H:List (SB U.D)}{n n':Nat}{v:SV U.D}{r cs:List (SV U.D)}(h:Fk U H n (v::r)=some (n',cs)):
  (∃len t d c l cs2,v= .own (n+1) 0 len∧H[n]? =some (.rows 0 t d c l)∧Fk U H (n+1) r=some (n',cs2)∧cs= .rowT t d l::cs2)∨(isT v=false∧ ∃cs2,Fk U H n r=some (n',cs2)∧cs=v::cs2):=by
 have other:(match v.shut&& !isT v with
  |true=>match Fk U H n r with
   |some (n',cs)=>some (n',v::cs)
   |none=>none
  |false=>none)=some (n',cs)->(isT v=false∧ ∃cs2,Fk U H n r=some (n',cs2)∧cs=v::cs2):=by
  intro h;split at h
  ·rename_i e1;simp only[Z4,Zu]at e1;split at h
   ·rename_i n2 cs2 e3;cases h;exact⟨e1.2,cs2,e3,rfl⟩
   ·cases h
  ·cases h
 by_cases hv: ∃id len,v= .own id 0 len
 ·obtain⟨id,len,rfl⟩:=hv;left
  have h:(match Nat.beq id (n+1),H[n]? with
   |true,some (.rows 0 t d _ l)=>match Fk U H (n+1) r with
    |some (n',cs)=>some (n',SV.rowT t d l::cs)
    |none=>none
   |_,_=>none)=some (n',cs):=h
  split at h
  ·rename_i v' t d c' l e1 e2;split at h
   ·rename_i n2 cs2 e3;cases h;exact⟨len,_,_,_,_,cs2,by rw[Z2 e1],e2,e3,rfl⟩
   ·cases h
  ·cases h
 ·right;refine other ?_;cases v with
  |own id ver len=>
   cases ver with
   |zero=>exact absurd ⟨_,_,rfl⟩ hv
   |succ k=>exact h
  |_=>exact h
theorem N5{H:List (SB U.D)}: ∀(cs0:List (SV U.D)) (n:Nat) {n':Nat} {cs:List (SV U.D)},Fk U H n cs0=some (n',cs)->(∀c∈cs0,Wt H c)-> ∀cs1:List (SV U.D),cs.map (SV.toV U)=cs1.map (SV.toV U)→
  (Q9 U n cs1).1.map (SV.toV U)=cs0.map (SV.toV U)∧n≤n'∧(n'≤H.length∨n'=n)∧(H.take n).map (SB.toB U)++(Q9 U n cs1).2.map (SB.toB U)=(H.take n').map (SB.toB U):=by
 intro cs0
 induction cs0 with
 |nil=>
  intro n n' cs h _ cs1 h1;cases h;cases cs1 with
  |nil=>exact⟨rfl,Z9 _,.inr rfl,by simp[Q9]⟩
  |cons x r=>cases h1
 |cons v r ih=>
  intro n n' cs h hl cs1 h1;rcases U3 h with ⟨len,t,d,c,l,cs2,rfl,e2,e3,rfl⟩|⟨e1,cs2,e3,rfl⟩
  ·cases cs1 with
   |nil=>cases h1
   |cons x s=>
    simp only[Z8,Ld]at h1;obtain⟨t',d',l',rfl,hsz,hll⟩:=Wu (v:=x) h1.1.symm;obtain⟨g1,g2,g3,g4⟩:=ih (n+1) e3 (fun c hc=>hl c (by simp[hc])) s h1.2
    have hlt:n<H.length:=(Z3.1 e2).1
    have hlen:len=l.length:=hl _ (by simp) n 0 len rfl _ e2
    have hll2:l'.length=l.length:=by
     have:=congrArg List.length hll;simpa using this
    refine⟨?_,by omega,.inl (by rcases g3 with g3|g3<;>omega),?_⟩
    ·simp only[Q9,Z8,g1,SV.toV,hll2,hlen]
    ·rw[←g4]
     have htk:H.take (n+1)=H.take n++[.rows 0 t d c l]:=by
      rw[List.take_add_one,e2];rfl
     rw[htk];simp only[Q9,Z8,Fv,Gk,Lc,List.singleton_append]
     congr 2
     simp only[SB.toB,hsz,hll]
  ·cases cs1 with
   |nil=>cases h1
   |cons x s=>
    simp only[Z8,Ld]at h1;obtain⟨g1,g2,g3,g4⟩:=ih n e3 (fun c hc=>hl c (by simp[hc])) s h1.2
    have hx:isT x=false:=by
     cases hx:isT x with
     |false=>rfl
     |true=>
      have h2:=Q59 (U:=U) x;rw[←h1.1,Q59,e1,hx]at h2;cases h2
    rw[Q26 hx];refine⟨by simp only[Z8,g1,h1.1],g2,g3,g4⟩
theorem Ai9{ag:Bool}{a:SA U.D}{cs:List (SV U.D)}(hg:a.isG ag=true)(h:cs.map (SV.toV U)=a.cells.map (SV.toV U)):(Rl U ag cs).toA U=a.toA U:=by
 cases a with
 |c v=>
  cases ag with
  |true=>cases hg
  |false=>
   cases cs with
   |nil=>cases h
   |cons w s=>
    simp only[Z8,SA.cells,Gk,Ld]at h
    show A.c _=A.c _;exact congrArg _ h.1
 |g l=>
  cases ag with
  |false=>cases hg
  |true=>show A.g _=A.g _;exact congrArg _ h
 |t xs=>cases hg
theorem Yr{X:Type}: ∀(ts:List Nat) (rs:List (Σ t,U.D t)) (m:FnC U ts X) {m':X} {p:List (Σ t,U.D t)->X->Prop},Yb U ts p m->Wi U ts rs m=some m'->p rs m':=by
 intro ts
 induction ts with
 |nil=>
  intro rs m m' p hp h;cases rs with
  |nil=>cases h;exact hp
  |cons z r=>cases h
 |cons t ts ih=>
  intro rs m m' p hp h;cases rs with
  |nil=>cases h
  |cons z r=>
   obtain⟨t',x⟩:=z;unfold Wi at h;split at h
   ·rename_i e _;subst e;exact ih r (m x) (p:=fun l=>p (⟨t',x⟩::l)) (hp x) h
   ·cases h
theorem Af1 (hU:Ab U){P:Program}{f:FuncId}{sg:Sig}{α:Type}{K:Option (As U sg.codes)->Option α}{r:α}{H:List (SB U.D)}: ∀(ps:List PM) (as:List (SA U.D)) (n:Nat) (m:Wh U ps (Option (As U sg.codes))) (as0:List (SA U.D)) (H0:List (SB U.D)),
  H0.map (SB.toB U)=(H.take n).map (SB.toB U)->Rm U P f sg ps n as0 H0 m->(∀a∈as,∀c∈a.cells,Wt H c)->Gt U ps as H n m K=some r→
  ∃mm,K mm=some r∧ ∀q,mm=some q->Sp P f (as0.map (SA.toA U)++as.map (SA.toA U)) (H.map (SB.toB U)) ((sg.res U q).toA U) ((sg.blks U q).map (SB.toB U)):=by
 intro ps
 induction ps with
 |nil=>
  intro as n m as0 H0 hH hs hl h;cases as with
  |cons a r=>cases h
  |nil=>
   unfold Gt at h;split at h
   ·rename_i e;refine⟨m,h,fun q hq=> ?_⟩
    have:=hs q hq;rw[hH,←Z2 e,List.take_length]at this;simpa using this
   ·cases h
 |cons p ps ih=>
  intro as n m as0 H0 hH hs hl h;cases p with
  |v t=>
   cases as with
   |nil=>cases h
   |cons a as=>
    unfold Gt at h;split at h
    ·rename_i x hx;obtain⟨mm,g1,g2⟩:=ih as n (m x) (as0++[Fq U t x]) H0 hH (hs x) (fun b hb=>hl b (by simp[hb])) h
     refine⟨mm,g1,fun q hq=> ?_⟩
     have:=g2 q hq;rw[Fv,Z8,Gk,←R5 hU hx,Lc]at this;exact this
    ·cases h
  |b t md=>
   cases as with
   |nil=>cases h
   |cons a as=>
    by_cases hp: ∃i,a= .c (.ptr i 0 0)
    ·obtain⟨i,rfl⟩:=hp
     replace h:(match Nat.beq i (n+1),H[n]? with
      |true,some (.box 0 cs)=>match U.fO t md cs with
       |some x=>Gt U ps as H (n+1) (m x) K
       |none=>none
      |_,_=>none)=some r:=h
     split at h
     ·rename_i cs e1 e2;split at h
      ·rename_i x e3
       have hc:=hU.fO t md cs x e3
       have hi:=Z2 e1;subst hi;obtain⟨mm,k1,k2⟩:=ih as (n+1) (m x) _ _ (by
        rw[Fv,hH,List.take_add_one,e2,Fv];simp only[Z8,Gk,Option.toList,SB.toB,hc]
        have:=congrArg List.length hc;simp only[Bu]at this;rw[this]) (hs x) (fun b hb=>hl b (by simp[hb])) h
       refine⟨mm,k1,fun q hq=> ?_⟩
       have:=k2 q hq;rw[Fv,Lc]at this;exact this
      ·cases h
     ·cases h
    ·exfalso;cases a with
     |c v=>cases v with
      |ptr i ver j=>cases ver with
       |zero=>cases j with
        |zero=>exact hp ⟨_,rfl⟩
        |succ k=>cases h
       |succ k=>cases h
      |_=>cases h
     |_=>cases h
  |w t md es=>
   cases as with
   |nil=>cases h
   |cons a as=>
    unfold Gt at h;split at h
    ·rename_i n' cs e1;split at h
     ·rename_i x e2 e3;simp only[Z4]at e3
      have hn:=Z2 e3.1
      have hc:=hU.fO t md cs x e2;obtain⟨g1,g2,g3,g4⟩:=N5 a.cells n e1 (hl a (by simp)) (U.cO t md x) hc
      obtain⟨mm,k1,k2⟩:=ih as n' (m x) _ (H0++(Q9 U n (U.cO t md x)).2) (by rw[Fv,hH];exact g4) (by rw[hn];exact hs x) (fun b hb=>hl b (by simp[hb])) h
      refine⟨mm,k1,fun q hq=> ?_⟩
      have:=k2 q hq;rw[Fv,Z8,Gk,Ai9 e3.2 g1,Lc]at this;exact this
     ·cases h
    ·cases h
  |r t=>
   cases as with
   |nil=>cases h
   |cons a as=>
    by_cases hp: ∃t' x,a= .c (.ptrB t' x 0)
    ·obtain⟨t',x,rfl⟩:=hp
     replace h:(match decEq t' t with
      | .isTrue e=>Gt U ps as H n (m (e ▸ x)) K
      |_=>none)=some r:=h
     split at h
     ·rename_i e1 _;subst e1;obtain⟨mm,k1,k2⟩:=ih as n (m x) _ _ hH (hs x) (fun b hb=>hl b (by simp[hb])) h
      refine⟨mm,k1,fun q hq=> ?_⟩
      have:=k2 q hq;rw[Fv,Lc]at this;exact this
     ·cases h
    ·exfalso;cases a with
     |c v=>cases v with
      |ptrB t' x j=>cases j with
       |zero=>exact hp ⟨_,_,rfl⟩
       |succ j=>cases h
      |_=>cases h
     |_=>cases h
  |f fid caps ts=>
   cases as with
   |nil=>cases h
   |cons a as=>
    by_cases hp: ∃g caps' rs,a= .c (.fn g caps' rs)
    ·obtain⟨g,caps',rs,rfl⟩:=hp;unfold Gt at h;split at h
     ·rename_i m' e1 e2;simp only[Z4,decide_eq_true_eq]at e1
      have hi:=Z2 e1.1;subst hi;obtain⟨mm,k1,k2⟩:=ih as n m' _ _ hH (Yr (X:=Wh U ps (Option (As U sg.codes))) ts rs m hs e2) (fun b hb=>hl b (by simp[hb])) h
      refine⟨mm,k1,fun q hq=> ?_⟩
      have:=k2 q hq;rw[Fv,Lc,Z8,Gk,←e1.2]at this;exact this
     ·cases h
    ·exfalso;cases a with
     |c v=>cases v with
      |fn g caps' rs=>exact hp ⟨_,_,_,rfl⟩
      |_=>cases h
     |_=>cases h
end
end Go.Eng
namespace Go.Eng
section
variable {U:Un} {T:Tab} {F:Fr} {S:SS U.D} {τ:Nat->Int}
theorem Q42 (hU:Ab U)(d:Bool)(t ver:Nat)(l:List (U.D t)):allClosed ⟨ver,U.sz t,l.map (U.eT d t)⟩=true:=by
 cases d with
 |true=>exact(hU.eF t).allClosed _ _ l
 |false=>exact(hU.en t).allClosed _ _ l
theorem Aja (hU:Ab U)(d:Bool)(t:Nat)(l:List (U.D t)):shareLL (l.map (U.eT d t))=l.map (U.en t):=by
 cases d with
 |true=>exact(hU.eF t).shareLL l
 |false=>exact(hU.en t).shareLL l
theorem Kc (hU:Ab U)(d:Bool)(t ver off len:Nat)(l:List (U.D t)):Ey ⟨ver,U.sz t,l.map (U.eT d t)⟩ off len= .row false (U.sz t) (((l.drop off).take len).map (U.en t)):=by
 show V.row false (U.sz t) (shareLL (((l.map (U.eT d t)).drop off).take len))=_;rw[←List.map_drop,←List.map_take,Aja hU]
theorem Q93 (B:SB U.D):(B.toB U).ver=B.ver:=by cases B<;>rfl
theorem Q67{L:List Nat}{id:Nat}{B:SB U.D}(h:S.blk id=some B)(hi:id∈L):Lb L (S.toSt U).H id=some (B.toB U):=by
 unfold Lb;rw[if_pos hi];exact Ac h
def Acf:SV U.D->Option Nat
 | .own id _ _=>some id
 | .part id _ _ _=>some id
 |_=>none
theorem R6 (hU:Ab U){lent:Bool}{io L:List Nat}{id ver off len:Nat}{t:Nat}{d c:Bool}{l:List (U.D t)}(hB:S.blk id=some (.rows ver t d c l))(hi:id∈L)(hp:Ai io id=none):
  V.low true io (Lb L (S.toSt U).H) (.own id ver off len)= .row false (U.sz t) (((l.drop off).take len).map (U.en t)):=by
 show V.low1 true io _ (.own id ver off len)=_;simp only[V.low1,Q67 hB hi,SB.toB,if_true,hp,Q42 hU,Bool.and_self,Kc hU]
theorem Ys{io L:List Nat}(hio: ∀(id i:Nat),Ai io id=some i->id∈L){lent:Bool}: ∀(caps:List (Nat×Nat)) {cs:List (Nat×Nat)},H7 U io S caps=some cs→
  (caps.map fun c=>V.ptr c.1 c.2 0 0).map (V.low1 lent io (Lb L (S.toSt U).H))=cs.map fun c=>V.ptr c.1 c.2 0 0:=by
 intro caps
 induction caps with
 |nil=>intro cs h;cases h;rfl
 |cons c r ih=>
  intro cs h;unfold H7 at h;split at h
  ·rename_i B i cs2 e1 e2 e3;split at h
   ·rename_i e4;cases h;simp only[Z8,ih e3]
    congr 1
    simp only[V.low1,Q67 e1 (hio _ _ e2),Q93,Z2 e4,if_true,e2]
   ·cases h
  ·cases h
theorem Ahf (hU:Ab U){lent:Bool}{io L:List Nat}{v:SV U.D}(hv:v.ok S τ)(hio: ∀(id i:Nat),Ai io id=some i->id∈L)(hl: ∀id,Acf v=some id->Ai io id=none->id∈L)(h:(v.low U lent io S).isU=false):
  ((v.toV U).low lent io (Lb L (S.toSt U).H)).cold=(v.low U lent io S).toV U:=by
 cases v with
 |int k n g=>rfl
 |bool b=>rfl
 |str s=>rfl
 |row t l=>rfl
 |nilp=>rfl
 |rowT t d l=>
  cases l with
  |nil=>rfl
  |cons x r=>cases h
 |own id ver n=>
  simp only[SV.low]at h ⊢;split at h
  ·rename_i B e1;split at h
   ·rename_i e2
    have e2:=Z2 e2;split at h
    ·rename_i i e3
     show(V.low1 lent io _ (.own id ver 0 n)).cold=_;simp only[V.low1,Q67 e1 (hio _ _ e3),Q93,e2,if_true,e3];rfl
    ·rename_i e3;unfold Nl at h ⊢;split at h
     ·rename_i ver' t d c l e2b;split at h
      ·have hn:n=l.length:=hv.2 _ e1 e2
       have e2:ver'=ver:=e2;subst e2
       have:=R6 hU (lent:=true) (off:=0) (len:=n) e1 (hl id rfl e3) e3
       show(V.low true io _ (.own id ver' 0 n)).cold=_;rw[this,hn,Z55,List.take_length];rfl
      ·cases h
     ·cases h
   ·cases h
  ·cases h
 |part id ver lo hi=>
  simp only[SV.low]at h ⊢;split at h
  ·rename_i B e1;split at h
   ·rename_i e2
    have e2:=Z2 e2;split at h
    ·cases h
    ·rename_i e3;unfold Nm at h ⊢;split at h
     ·rename_i ver' t d c l e2b;split at h
      ·have e2:ver'=ver:=e2;subst e2
       have:=R6 hU (lent:=true) (off:=lo.toNat) (len:=(hi - lo).toNat) e1 (hl id rfl e3) e3
       show(V.low true io _ (.own id ver' lo.toNat (hi - lo).toNat)).cold=_;rw[this];rfl
      ·cases h
     ·cases h
   ·cases h
  ·cases h
 |ptr id ver j=>
  simp only[SV.low]at h ⊢;split at h
  ·rename_i B e1;split at h
   ·rename_i e2
    have e2:=Z2 e2;split at h
    ·rename_i i e3
     show(V.low1 lent io _ (.ptr id ver 0 j)).cold=_;simp only[V.low1,Q67 e1 (hio _ _ e3),Q93,e2,if_true,e3];rfl
    ·cases h
   ·cases h
  ·cases h
 |ptrB t x j=>rfl
 |fn f caps rs=>
  simp only[SV.low]at h ⊢;split at h
  ·rename_i cs e
   show(V.fn f (((caps.map fun c=>V.ptr c.1 c.2 0 0)++rs.map fun q=>V.ip (U.sz q.1) [U.en q.1 q.2] 0 0).map (V.low1 lent io (Lb L (S.toSt U).H)))).cold=V.fn f ((cs.map fun c=>V.ptr c.1 c.2 0 0)++rs.map fun q=>V.ip (U.sz q.1) [U.en q.1 q.2] 0 0);rw[Fv,Ys hio caps e,Cq];rfl
  ·cases h
 |ptrE id ver g i j=>cases h
 |ptrA id ver i=>cases h
 |ptrR t l i j=>cases h
 |skip=>cases h
 |undef=>cases h
theorem Ajd (hU:Ab U){lent:Bool}{io L:List Nat}{a:SA U.D}(hv:a.ok S τ)(hio: ∀(id i:Nat),Ai io id=some i->id∈L)(hl: ∀c∈a.cells,∀id,Acf c=some id->Ai io id=none->id∈L)(h:Wk U (a.low U lent io S)=true):
  (a.toA U).low lent io (Lb L (S.toSt U).H)=(a.low U lent io S).toA U:=by
 cases a with
 |c v=>
  show A.c _=A.c _;rw[Ahf hU hv hio (hl v (by simp[SA.cells])) (by simpa[Wk,SA.low,SA.cells]using h)]
 |g cs=>
  show A.g _=A.g _
  congr 1
  rw[Cq,Cq];refine Er fun c hc=> ?_;refine Ahf hU (hv c hc) hio (hl c hc) ?_
  have:=Z1.1 h (c.low U lent io S) (List.mem_map_of_mem hc);simpa using this
 |t xs=>cases h
theorem Acg{ty:Nat}{x:Operand}(h:Aiw U x (S.val T ty x)=true):(S.toSt U).val [] x=(S.val T ty x).toA U:=by
 cases x with
 |tmp t=>rfl
 |func f=>rfl
 |global g=>rfl
 |const v=>
  have h:(Q6 (S.val T ty (.const v)).cells&&Ef (S.val T ty (.const v)).cells)=true:=h;simp only[Z4]at h;cases e:S.val T ty (.const v)with
  |c w=>
   rw[e]at h;refine Ahd e (by simpa[Q6,SA.cells]using h.1) ?_
   have:=h.2;simpa[Ef,SA.cells]using this
  |g cs=>
   rw[e]at h;exact N1 e (Q34 h.1) h.2
  |t xs=>exact Abn e
theorem Af2{lent:Bool}{io:List Nat}{v:SV U.D}{i v' len:Nat}(h:v.low U lent io S= .own (i+1) v' len): ∃id ver B,v= .own id ver len∧Ai io id=some i∧S.blk id=some B∧B.ver=ver:=by
 cases v with
 |own id ver n=>
  simp only[SV.low]at h;split at h
  ·rename_i B e1;split at h
   ·rename_i e2;split at h
    ·rename_i j e3;simp only[SV.own.injEq,Nat.add_right_cancel_iff]at h;obtain⟨rfl,_,rfl⟩:=h;exact⟨id,ver,B,rfl,e3,e1,Z2 e2⟩
    ·unfold Nl at h;split at h
     ·split at h<;>cases h
     ·cases h
   ·cases h
  ·cases h
 |part id ver lo hi=>
  simp only[SV.low]at h;split at h
  ·split at h
   ·split at h
    ·cases h
    ·unfold Nm at h;split at h
     ·split at h<;>cases h
     ·cases h
   ·cases h
  ·cases h
 |ptr id ver j=>
  simp only[SV.low]at h;split at h
  ·split at h
   ·split at h<;>cases h
   ·cases h
  ·cases h
 |fn f caps rs=>
  simp only[SV.low]at h;split at h<;>cases h
 |rowT t d l=>cases l<;>cases h
 |_=>cases h
theorem Q33{c:SV U.D}(hU:Ab U)(h:c.shut=true):(c.toV U).closed=true:=by cases c<;>first|rfl|cases h
theorem Af3{v:V}(h:v.closed=true)(lent:Bool)(io:List Nat)(H:Nat->Option Blk):v.low lent io H=v:=by
 have:=Jt (l:=[v]) (by simpa using h) lent io H
 simpa using this
theorem Ach (hU:Ab U){lent:Bool}{io L:List Nat}{id:Nat}{b:SB U.D}(h:Uk U S id=some b)(hi:id∈L):F6 lent io (Lb L (S.toSt U).H) id=b.toB U∧ ∃B,S.blk id=some B∧B.len=b.len:=by
 unfold Uk at h;split at h
 ·rename_i ver t d c l e;cases h;refine⟨?_,_,e,rfl⟩;unfold F6;rw[Q67 e hi];cases d with
  |true=>exact(hU.eF t).lowB_at _ _ _ _ _
  |false=>exact Go.Eng.lowB_at (hU.en t) _ _ _ _ _
 ·rename_i ver cs e;split at h
  ·rename_i e2;cases h;refine⟨?_,_,e,rfl⟩;unfold F6;rw[Q67 e hi]
   show Blk.mk 0 _ _=Blk.mk 0 _ _
   congr 1
   simp only[SB.toB,Z8,Gk]
   congr 1
   rw[Cq];exact Er fun c hc=>Af3 (Q33 hU (Z1.1 e2 c hc)) _ _ _
  ·cases h
 ·cases h
theorem Mm (hU:Ab U){lent:Bool}{io0 L:List Nat}: ∀(io:List Nat) {H0:List (SB U.D)},Aba U S io=some H0->(∀id∈io,id∈L)→
  io.map (F6 lent io0 (Lb L (S.toSt U).H))=H0.map (SB.toB U)∧ ∀(i id:Nat),io[i]? =some id-> ∃(B b:SB U.D),S.blk id=some B∧H0[i]? =some b∧B.len=b.len:=by
 intro io
 induction io with
 |nil=>intro H0 h _;cases h;exact⟨rfl,fun i id h=>by simp at h⟩
 |cons x r ih=>
  intro H0 h hL;unfold Aba at h;split at h
  ·rename_i b l e1 e2;cases h;obtain⟨g1,g2⟩:=ih e2 fun id hi=>hL id (by simp[hi])
   obtain⟨g3,B,g4,g5⟩:=Ach hU (lent:=lent) (io:=io0) e1 (hL x (by simp))
   refine⟨by rw[Z8,Z8,g1,g3],fun i id hi=> ?_⟩
   cases i with
   |zero=>simp only[Gj,Z7]at hi;subst hi;exact⟨B,b,g4,by simp,g5⟩
   |succ i=>simpa using g2 i id (by simpa using hi)
  ·cases h
end
end Go.Eng
namespace Go.Eng
section
variable {U:Un} {T:Tab} {F:Fr} {S:SS U.D} {τ:Nat->Int}
theorem Kd: ∀ {l:List V},l.all V.fresh=true->Qq l=true:=by
 intro l
 induction l with
 |nil=>intro _;rfl
 |cons v r ih=>
  intro h;simp only[Fw,Z4]at h;simp only[Qq,h.1,ih h.2,Bool.and_self]
theorem Ama: ∀ {l:List (List V)},(∀x∈l,Qq x=true)->Q78 l=true:=by
 intro l
 induction l with
 |nil=>intro _;rfl
 |cons v r ih=>
  intro h;simp only[Q78,h v (by simp),ih fun x hx=>h x (by simp[hx]),Bool.and_self]
theorem R7 (hU:Ab U){d:Bool}{t:Nat}(h:(d&& !U.far t 1000||U.flat t)=true)(x:U.D t):(U.eT d t x).all V.fresh=true:=by
 cases d with
 |true=>exact hU.fresh t x (by simpa using h)
 |false=>
  have h:U.flat t=true:=by simpa using h
  show(U.en t x).all V.fresh=true;rw[←hU.flat t h];exact hU.fresh t x (by simp[h])
theorem Jd{v:V}(hc:v.closed=true){lent:Bool}(hf:lent=false∨v.fresh=true)(outs:List Nat)(ν:Nat->Nat):v.back lent outs ν=v:=by
 cases v with
 |row o es xs=>
  simp only[V.back];rcases hf with rfl|hf
  ·rfl
  ·rw[hf];cases lent<;>rfl
 |int=>rfl
 |bool=>rfl
 |str=>rfl
 |nilp=>rfl
 |_=>cases hc
theorem Yt (hU:Ab U){lent d:Bool}{t:Nat}(h:(!lent||(d&& !U.far t 1000||U.flat t))=true)(outs:List Nat)(ν:Nat->Nat)(l:List (U.D t)):(l.map (U.eT d t)).map (fun x=>x.map (V.back lent outs ν))=l.map (U.eT d t):=by
 rw[Cq];refine Er fun a _=> ?_
 show(U.eT d t a).map _=U.eT d t a;refine(Er fun v hv=> ?_).trans (List.map_id _);refine Jd (Z1.1 ((hU.eT d t).2 a) v hv) ?_ _ _;cases lent with
 |false=>exact .inl rfl
 |true=>
  right;refine Z1.1 (R7 hU (d:=d) (t:=t) ?_ a) v hv;simpa using h
theorem U4 (hU:Ab U){lent:Bool}{outs:List Nat}{ν ver:Nat->Nat}(hν: ∀id∈outs,ν id=ver id){v:SV U.D}(h:Uo U lent v=true):(v.toV U).back lent outs ν=(v.up U outs ver).toV U:=by
 cases v with
 |int k n g=>rfl
 |bool b=>rfl
 |str s=>rfl
 |nilp=>rfl
 |row t l=>
  cases l with
  |nil=>exact Jd (by rfl) (.inr rfl) _ _
  |cons x r=>
   have h:(!lent||false)=true:=h
   exact Jd (by rfl) (.inl (by simpa using h)) _ _
 |rowT t d l=>
  have h:(!lent||(d&& !U.far t 1000||U.flat t))=true:=h
  refine Jd (by rfl) ?_ _ _
  cases lent with
  |false=>exact .inl rfl
  |true=>
   right
   show(true&&Q78 (l.map (U.eT d t)))=true;rw[Z30];refine Ama fun x hx=> ?_;obtain⟨a,_,rfl⟩:=D9.1 hx;exact Kd (R7 hU (d:=d) (t:=t) (by simpa using h) a)
 |own id ve n=>
  cases id with
  |zero=>rfl
  |succ i=>
   show V.back lent outs ν (.own (i+1) ve 0 n)=_;simp only[V.back,SV.up];cases e:outs[i]? with
   |none=>rfl
   |some id=>simp only[SV.toV,hν id (Z6 e)]
 |ptr id ve j=>
  cases id with
  |zero=>rfl
  |succ i=>
   show V.back lent outs ν (.ptr (i+1) ve 0 j)=_;simp only[V.back,SV.up];cases e:outs[i]? with
   |none=>rfl
   |some id=>simp only[SV.toV,hν id (Z6 e)]
 |_=>cases h
theorem Wv (hU:Ab U){lent:Bool}{outs:List Nat}{ν ver:Nat->Nat}(hν: ∀id∈outs,ν id=ver id){cs:List (SV U.D)}(h:cs.all (Uo U lent)=true):(cs.map (SV.toV U)).map (V.back lent outs ν)=(Abb U outs ver cs).map (SV.toV U):=by
 rw[Abb,Cq,Cq];exact Er fun c hc=>U4 hU hν (Z1.1 h c hc)
theorem Mn{α β:Type}(f:α->β)(l:List α)(d:α)(d':β)(h:f d=d'):(l.map f).headD d'=f (l.headD d):=by
 cases l with
 |nil=>exact h.symm
 |cons x r=>rfl
theorem Af4 (hU:Ab U){lent:Bool}{outs:List Nat}{ν ver:Nat->Nat}(hν: ∀id∈outs,ν id=ver id){a:SA U.D}(h:Wm U lent a=true):(a.toA U).backT lent outs ν=(a.up U outs ver).toA U:=by
 cases a with
 |c v=>show A.c _=A.c _;rw[U4 hU hν h]
 |g cs=>show A.g _=A.g _;rw[Wv hU hν h]
 |t xs=>
  show A.t ((xs.map _).map _)=A.t ((xs.map _).map _)
  congr 1
  rw[Cq,Cq];refine Er fun x hx=> ?_
  have hx:x.2.all (Uo U lent)=true:=Z1.1 h x hx
  have hb:=Wv hU hν hx;obtain⟨ag,cs⟩:=x;cases ag with
  |true=>show A.g _=A.g _;rw[hb]
  |false=>
   show A.c ((((cs.map (SV.toV U)).headD .undef)).back lent outs ν)=A.c ((((Abb U outs ver cs).map (SV.toV U)).headD .undef));rw[←hb,Mn (V.back lent outs ν) _ V.undef V.undef rfl]
theorem Amb (v:Nat)(B:SB U.D):(B.upV v).toB U=⟨v,(B.toB U).es,(B.toB U).xs⟩:=by cases B<;>rfl
theorem Ww (v:Nat)(B:SB U.D):(B.upV v).ver=v:=by cases B<;>rfl
theorem Wz (v:Nat)(B:SB U.D):(B.upV v).len=B.len:=by cases B<;>rfl
theorem Yu (v:Nat)(B:SB U.D):(B.upV v).clean=false:=by cases B<;>rfl
theorem Aci (hU:Ab U){lent:Bool}{outs:List Nat}{ν:Nat->Nat}{B:SB U.D}(h:Nn U lent B=true):(B.toB U).xs.map (fun x=>x.map (V.back lent outs ν))=(B.toB U).xs:=by
 cases B with
 |rows v t d c l=>exact Yt hU h outs ν l
 |box v cs=>
  show [(cs.map (SV.toV U)).map (V.back lent outs ν)]=[cs.map (SV.toV U)]
  congr 1
  rw[Cq];refine Er fun c hc=> ?_
  have:=Z1.1 h c hc;simp only[Z4]at this
  have hb:=U4 (U:=U) hU (lent:=lent) (outs:=outs) (ν:=ν) (ver:=ν) (fun _ _=>rfl) this.2;refine hb.trans ?_;cases c<;>first|rfl|(cases this.1.1)
 |arr v n t l=>cases h
 |opn v t d q l g i cs=>cases h
theorem Ajf (hU:Ab U){lent:Bool}{outs:List Nat}{ν ver:Nat->Nat}: ∀(l:List Nat) (Bs:List (SB U.D)),(∀id∈l,ν id=ver id)->Bs.all (Nn U lent)=true→
  Hl lent outs ν l (Bs.map (SB.toB U))=(Q72 U ver l Bs).map fun p=>(p.1,p.2.map (SB.toB U)):=by
 intro l
 induction l with
 |nil=>intro Bs _ _;cases Bs<;>rfl
 |cons id r ih=>
  intro Bs hν hB;cases Bs with
  |nil=>rfl
  |cons B Bs=>
   simp only[Fw,Z4]at hB;simp only[Z8,Hl,Q72,Hf,Amb,ih Bs (fun i hi=>hν i (by simp[hi])) hB.2,hν id (by simp),Aci hU hB.1]
theorem N6{α:Type}{x:Option α}{r:α}: ∀ {l:List (Nat×Nat)},Abd x l=some r->x=some r∧ ∀p∈l,p.1=p.2:=by
 intro l
 induction l with
 |nil=>intro h;exact⟨h,by simp⟩
 |cons p s ih=>
  intro h
  have key:(∃h2:Abd x s=some r,p.1=p.2)->x=some r∧ ∀q∈p::s,q.1=q.2:=by
   rintro⟨h2,e⟩;obtain⟨h3,h4⟩:=ih h2;refine⟨h3,fun q hq=> ?_⟩;rcases Di.1 hq with rfl|hq
   ·exact e
   ·exact h4 q hq
  unfold Abd at h;split at h
  ·rename_i e;cases e
  ·rename_i a b e;cases e;split at h
   ·rename_i e1;exact⟨h,by simpa using e1⟩
   ·cases h
  ·rename_i a b c d e;cases e;split at h
   ·rename_i e1;exact⟨h,by simpa using e1⟩
   ·cases h
  ·rename_i a b c d a' b' e;cases e;split at h
   ·rename_i e1;exact⟨h,by simpa using e1⟩
   ·cases h
  ·rename_i e;cases e;split at h
   ·rename_i e1;exact⟨h,by simpa using e1⟩
   ·cases h
  ·rename_i a b r' _ _ _ _ e;cases e;split at h
   ·rename_i e1;exact key ⟨h,e1⟩
   ·cases h
theorem U5: ∀(io:List Nat) (H1:List (SB U.D)),H8 U S io H1=true->(∀p∈Um U S io H1,p.1=p.2)→
  Ek (S.toSt U) io (H1.map (SB.toB U))∧ ∀(i id:Nat) B1,io[i]? =some id->H1[i]? =some B1-> ∃B,S.blk id=some B∧B.len=B1.len:=by
 intro io
 induction io with
 |nil=>intro H1 _ _;exact⟨Aip,fun i id B1 h=>by simp at h⟩
 |cons x r ih=>
  intro H1 h hl;cases H1 with
  |nil=>cases h
  |cons B Bs=>
   simp only[H8,Z4]at h;obtain⟨h1,h2⟩:=h
   have key:(∃B0,S.blk x=some B0∧B0.len=B.len∧(B0.toB U).es=(B.toB U).es∧(B0.toB U).xs.length=(B.toB U).xs.length)∧ ∀p∈Um U S r Bs,p.1=p.2:=by
    split at h1
    ·rename_i v t d c l v' t' d' c' l' e
     have e3:=Z2 h1;simp only[Um,e,Di,forall_eq_or_imp]at hl;refine⟨⟨_,e,?_,?_,?_⟩,hl.2⟩
     ·simp only[SB.len];exact hl.1.symm
     ·simp only[SB.toB,e3]
     ·simp only[SB.toB,Bu];exact hl.1.symm
    ·rename_i v cs v' cs' e
     have e3:=Z2 h1;refine⟨⟨_,e,rfl,?_,rfl⟩,hl⟩;simp only[SB.toB];exact e3.symm
    ·cases h1
   obtain⟨⟨B0,k1,k2,k3,k4⟩,k5⟩:=key;obtain⟨g1,g2⟩:=ih Bs h2 k5;refine⟨⟨fun C hC=> ?_,g1⟩,fun i id B1 hi hB1=> ?_⟩
   ·rw[Ac k1]at hC;cases hC;exact⟨k3,k4⟩
   ·cases i with
    |zero=>simp only[Gj,Z7]at hi hB1;subst hi;subst hB1;exact⟨B0,k1,k2⟩
    |succ i=>exact g2 i id B1 (by simpa using hi) (by simpa using hB1)
theorem U6 (d:Nat)(rest:List Oper)(n:Nat):(Ul d rest n).length=n:=by
 unfold Ul;split
 ·rfl
 ·rfl
 ·simp
def Acj:SA U.D->List (SV U.D)
 | .c v=>[v]
 | .g cs=>cs
 | .t xs=>xs.flatMap (·.2)
def N7 (n:Nat)(H:List (SB U.D))(c:SV U.D):Prop:= ∀i v len,c= .own (i+1) v len->n≤i∧ ∀B,H[i - n]? =some B->len=B.len
theorem Mo{n:Nat}{H:List (SB U.D)}{c:SV U.D}(h:c.shut=true):N7 n H c:=by rintro i v len rfl;cases h
theorem U7: ∀(cs:List (SV U.D)) (n:Nat),cs.all SV.shut=true-> ∀H,∀c∈(Q9 U n cs).1,N7 n ((Q9 U n cs).2++H) c∧ ∀i v len,c= .own (i+1) v len->i<n+(Q9 U n cs).2.length:=by
 intro cs
 induction cs with
 |nil=>intro n _ H c hc;cases hc
 |cons x r ih=>
  intro n h H c hc;simp only[Fw,Z4]at h
  by_cases hx:isT x=true
  ·cases x with
   |rowT t d l=>
    simp only[Q9]at hc ⊢;rcases Di.1 hc with rfl|hc
    ·refine⟨fun i v len e=> ?_,fun i v len e=> ?_⟩
     ·simp only[SV.own.injEq,Nat.add_right_cancel_iff]at e;obtain⟨rfl,_,rfl⟩:=e;refine⟨Z9 _,fun B hB=> ?_⟩;rw[Nat.sub_self]at hB;simp only[Qe,Gj,Z7]at hB;subst hB;rfl
     ·simp only[SV.own.injEq,Nat.add_right_cancel_iff]at e;obtain⟨rfl,_,rfl⟩:=e;simp
    ·obtain⟨g1,g2⟩:=ih (n+1) h.2 H c hc;refine⟨fun i v len e=> ?_,fun i v len e=> ?_⟩
     ·obtain⟨k1,k2⟩:=g1 i v len e;refine⟨by omega,fun B hB=>k2 B ?_⟩
      rw[show i - n=(i - (n+1))+1 by omega]at hB
      simpa using hB
     ·have:=g2 i v len e;simp only[Xf];omega
   |_=>cases hx
  ·have hx:isT x=false:=by simpa using hx
   rw[Q26 hx]at hc ⊢;rcases Di.1 hc with rfl|hc
   ·exact⟨Mo h.1,fun i v len e=>by subst e;cases h.1⟩
   ·exact ih n h.2 H c hc
theorem Ack (hU:Ab U){W:List TC}: ∀(rs:List RM) (n:Nat) (r:As U (rs.map RM.code++W)),∀x∈(Dt U W rs n r).1,∀c∈x.2,N7 n (Dt U W rs n r).2.1 c:=by
 intro rs
 induction rs with
 |nil=>intro n r x hx;cases hx
 |cons m rs ih=>
  intro n r x hx c hc;cases m with
  |v t=>
   simp only[Dt]at hx ⊢;rcases Di.1 hx with rfl|hx
   ·exact Mo (Z1.1 (hU.csSh t _) c hc)
   ·exact ih n _ x hx c hc
  |n t m=>
   simp only[Dt]at hx ⊢;rcases Di.1 hx with rfl|hx
   ·exact(U7 _ n (hU.shut t m _) _ c hc).1
   ·intro i v len e;obtain⟨k1,k2⟩:=ih _ _ x hx c hc i v len e;refine⟨by omega,fun B hB=>k2 B ?_⟩
    rw[E0 (by omega)]at hB
    rw[show i - (n+_)=i - n - (Q9 U n (U.cO t m (As.hd U r))).2.length by omega]
    exact hB
  |p t m=>
   simp only[Dt]at hx ⊢;rcases Di.1 hx with rfl|hx
   ·intro i v len e
    have hc:=Mx.1 hc;rw[e]at hc;cases hc
   ·intro i v len e;obtain⟨k1,k2⟩:=ih _ _ x hx c hc i v len e;refine⟨by omega,fun B hB=>k2 B ?_⟩
    rw[show i - n=(i - (n+1))+1 by omega,List.getElem?_cons_succ]at hB
    exact hB
theorem Yv: ∀(es:List (Nat×Bool)) (W:List TC) (r:As U (es.map (fun e=>TC.l e.1)++W)),(E8 U es W r).1.length=es.length:=by
 intro es
 induction es with
 |nil=>intro W r;rfl
 |cons e es ih=>intro W r;simp only[E8,Xf,ih]
theorem R8: ∀(ps:List PM) (r:As U (At ps)),(Gu U ps r).length=Bc ps:=by
 intro ps
 induction ps with
 |nil=>intro r;rfl
 |cons p ps ih=>
  intro r;cases p with
  |v t=>exact ih r
  |b t m=>simp only[Gu,Bc,Xf,ih]
  |w t m es=>
   have:=Yv (U:=U) es (At ps) r;simp only[Gu,Bc,Jh,ih];omega
  |r t=>exact ih r
  |f fid caps ts=>exact ih r
theorem R9 (l:List (Bool×List (SV U.D))): ∀c∈Acj (Wj U l),∃x∈l,c∈x.2:=by
 unfold Wj;split
 ·intro c hc;exact⟨_,Mx.2 rfl,hc⟩
 ·intro c hc;exact⟨_,Mx.2 rfl,hc⟩
 ·intro c hc;obtain⟨x,h1,h2⟩:=List.mem_flatMap.1 hc;exact⟨x,h1,h2⟩
theorem Af5 (hU:Ab U)(sg:Sig)(r:As U sg.codes): ∀c∈Acj (sg.res U r),Wt (sg.blks U r) c:=by
 intro c hc i v len e B hB;obtain⟨x,h1,h2⟩:=R9 _ c hc;obtain⟨k1,k2⟩:=Ack hU sg.rs (Bc sg.ps) r x h1 c h2 i v len e;refine k2 B ?_;unfold Sig.blks at hB;rw[E0 (by rw[R8];exact k1),R8]at hB
 exact hB
end
end Go.Eng
namespace Go.Eng
section
variable {U:Un} {T:Tab} {F:Fr} {S:SS U.D} {τ:Nat->Int}
theorem W3{e:List (Nat×SA U.D)}{nv:List (Nat×Nat)}{c:Nat}: ∀(l H:List (Nat×Option (SB U.D))) (i:Nat),(∀p∈l,p.1≠i)->(⟨e,l.reverse++H,nv,c⟩:SS U.D).blk i=(⟨e,H,nv,c⟩:SS U.D).blk i:=by
 intro l
 induction l with
 |nil=>intro H i _;rfl
 |cons x r ih=>
  intro H i h;rw[List.reverse_cons,Lc,List.singleton_append,ih _ i fun p hp=>h p (by simp[hp])]
  obtain⟨k,b⟩:=x;rw[Ro,if_neg fun e=>h (k,b) (by simp) e.symm]
theorem Ke{ver:Nat->Nat}: ∀(l:List Nat) (Bs:List (SB U.D)),∀p∈Q72 U ver l Bs,p.1∈l:=by
 intro l
 induction l with
 |nil=>intro Bs p hp;cases Bs<;>cases hp
 |cons id r ih=>
  intro Bs p hp;cases Bs with
  |nil=>cases hp
  |cons B Bs=>
   rcases Di.1 hp with rfl|hp
   ·simp
   ·exact Z56 _ (ih Bs p hp)
theorem Ajg{e:List (Nat×SA U.D)}{nv:List (Nat×Nat)}{c:Nat}{ver:Nat->Nat}: ∀(l:List Nat) (Bs:List (SB U.D)) (H:List (Nat×Option (SB U.D))),l.Nodup-> ∀(i id:Nat) B,l[i]? =some id->Bs[i]? =some B→
  (⟨e,(Q72 U ver l Bs).reverse++H,nv,c⟩:SS U.D).blk id=some (B.upV (ver id)):=by
 intro l
 induction l with
 |nil=>intro Bs H _ i id B h;simp at h
 |cons x r ih=>
  intro Bs H hd i id B hi hB
  have hd':=List.nodup_cons.1 hd;cases Bs with
  |nil=>simp at hB
  |cons C Bs=>
   simp only[Q72];rw[List.reverse_cons,Lc,List.singleton_append];cases i with
   |zero=>
    simp only[Gj,Z7]at hi hB;subst hi;subst hB;rw[W3 _ _ _ fun p hp e=>hd'.1 (by rw[←e];exact Ke _ _ p hp),Ro,if_pos rfl]
   |succ i=>exact ih Bs _ hd'.2 i id B (by simpa using hi) (by simpa using hB)
theorem Sa (io news:List Nat):E6 (io++news) (X4 io news)=news:=by
 unfold X4
 induction io with
 |nil=>
  induction news with
  |nil=>rfl
  |cons x r ih=>simp only[Zl,Gk,Z8,E6]at ih ⊢;simpa using ih
 |cons x r ih=>simpa[E6]using ih
theorem Kf{io:List Nat}{id:Nat}{B:SB U.D}(h:id∈io)(hB:S.blk id=some B):Dm U S io id=B.ver:=by
 unfold Dm;rw[List.contains_iff_mem.2 h,hB]
theorem Ajh{io:List Nat}{id:Nat}(h:id ∉ io):Dm U S io id=S.ver id:=by
 unfold Dm
 have:io.contains id=false:=by
  cases e:io.contains id with
  |false=>rfl
  |true=>exact absurd (List.contains_iff_mem.1 e) h
 rw[this]
theorem U8{io news:List Nat}(hd:(io++news).Nodup)(hl: ∀id∈io,∃B,S.blk id=some B): ∀id∈io++news,D0 (S.toSt U) (io++news) (X4 io news) id=Dm U S io id:=by
 intro id hid;obtain⟨i,hi⟩:=List.getElem?_of_mem hid;rcases E4 i io.length with h|h
 ·have hk:(X4 io news)[i]? =some true:=by
   unfold X4;rw[Fi (by simpa using h),B5,Eh h];rfl
  have hio:id∈io:=by rw[Fi h]at hi;exact Z6 hi
  obtain⟨B,hB⟩:=hl id hio;rw[(H3 hd hi hk).1,if_pos rfl,Ac hB,Kf hio hB];exact Q93 B
 ·have hnew:id∈news:=by rw[E0 h]at hi;exact Z6 hi
  have hk:(X4 io news)[i]? =some false:=by
   unfold X4;rw[E0 (by simpa using h),B5]
   rw[E0 h]at hi;simp only[Bu,hi,Hf]
  have hno:id ∉ io:=fun h2=>(List.nodup_append.1 hd).2.2 id h2 id hnew rfl;rw[(H3 hd hi hk).1,if_neg (by simp),Ajh hno]
  rfl
theorem Yw{l:List Nat}{x:Nat}(h:Ai l x=none):x ∉ l:=by
 induction l with
 |nil=>simp
 |cons y r ih=>
  simp only[Ai]at h
  by_cases e:x=y
  ·rw[if_pos e]at h;cases h
  ·rw[if_neg e]at h
   have:=ih (by simpa using h)
   simp[e,this]
theorem Sb{io:List Nat}: ∀(args:List (SA U.D)),∀a∈args,∀c∈a.cells,∀id,Acf c=some id->id ∉ io->id∈Q54 U io args:=by
 intro args
 induction args with
 |nil=>intro a ha;cases ha
 |cons x r ih=>
  intro a ha c hc id hr hn
  have hcon:io.contains id=false:=by
   cases e:io.contains id with
   |false=>rfl
   |true=>exact absurd (List.contains_iff_mem.1 e) hn
  rcases Di.1 ha with rfl|ha
  ·refine List.mem_append_left _ (List.mem_flatMap.2 ⟨c,hc,?_⟩);cases c with
   |own id' v n=>cases hr;simp only[hcon];simp
   |part id' v lo hi=>cases hr;simp only[hcon];simp
   |_=>cases hr
  ·exact List.mem_append_right _ (ih a ha c hc id hr hn)
theorem A5.callArgs (h:A5 S τ)(caps:List (Nat×Nat))(rs:List (Σ t,U.D t))(l:List (Operand×TypeId)): ∀a∈callArgs U T S caps rs l,a.ok S τ:=by
 intro a ha;rcases Gh.1 ha with ha|ha
 ·obtain⟨p,_,rfl⟩:=D9.1 ha;exact h.val _ _
 ·rcases Gh.1 ha with ha|ha
  ·obtain⟨p,_,rfl⟩:=D9.1 ha
   trivial
  ·obtain⟨p,_,rfl⟩:=D9.1 ha
   trivial
theorem U9{caps:List (Nat×Nat)}{rs:List (Σ t,U.D t)}{xs:Array Operand}{ats:Array TypeId}(hs:xs.size=ats.size)(h:(xs.toList.zip ats.toList).all (fun p=>Aiw U p.1 (S.val T p.2 p.1))=true):
  (Go.Eng.callArgs U T S caps rs (xs.toList.zip ats.toList)).map (SA.toA U)=Q90 (S.toSt U) xs ((caps.map fun c=> .ptr c.1 c.2 0 0)++rs.map fun q=> .ip (U.sz q.1) [U.en q.1 q.2] 0 0):=by
 unfold Go.Eng.callArgs Q90;rw[Fv,Fv,Fv,Cq,Cq,Cq,Cq,Cq]
 congr 1
 have h1:xs.toList=(xs.toList.zip ats.toList).map Prod.fst:=(List.map_fst_zip (by simp[hs])).symm
 conv=>rhs;rw[h1,Cq]
 refine Er fun p hp=> ?_;exact(Acg (Z1.1 h p hp)).symm
theorem Amc{S':SS U.D}{outs:List Nat}{ver:Nat->Nat}{c:SV U.D}(h: ∀i v len id,c= .own (i+1) v len->outs[i]? =some id->(SV.own id (ver id) len:SV U.D).ok S' τ):(c.up U outs ver).ok S' τ:=by
 cases c with
 |own id v n=>
  cases id with
  |zero=>trivial
  |succ i=>
   simp only[SV.up];cases e:outs[i]? with
   |none=>trivial
   |some id=>exact h i v n id rfl e
 |ptr id v j=>
  cases id with
  |zero=>trivial
  |succ i=>
   simp only[SV.up];cases outs[i]? <;>trivial
 |int k n g=>exact Fs
 |_=>trivial
theorem Aji{S':SS U.D}{outs:List Nat}{ver:Nat->Nat}{a:SA U.D}(h: ∀c∈Acj a,(c.up U outs ver).ok S' τ):(a.up U outs ver).ok S' τ:=by
 cases a with
 |c v=>exact h v (by simp[Acj])
 |g cs=>
  intro c hc;obtain⟨c0,h1,rfl⟩:=D9.1 hc;exact h c0 h1
 |t xs=>
  intro x hx c hc;obtain⟨x0,h1,rfl⟩:=D9.1 hx;obtain⟨c0,h2,rfl⟩:=D9.1 hc;exact h c0 (List.mem_flatMap.2 ⟨x0,h1,h2⟩)
theorem Va (hU:Ab U)(hw:A5 S τ){f:FuncId}(hf:Ej F.P f){o:Oper}{x:Operand}{xs:Array Operand}{ats:Array TypeId}{lent:Bool}{caps:List (Nat×Nat)}{rs:List (Σ t,U.D t)}{args:List (SA U.D)}{io news:List Nat}{H0 H1:List (SB U.D)}{res:SA U.D}{α:Type}{k:Aj U.D->Option α}{r:α}
  (ho:o.op= .call ⟨.value x,xs,ats⟩) (hx:(S.toSt U).val [] x= .c (.fn f ((caps.map fun c=> .ptr c.1 c.2 0 0)++rs.map fun q=> .ip (U.sz q.1) [U.en q.1 q.2] 0 0))) (ha:args.map (SA.toA U)=Q90 (S.toSt U) xs ((caps.map fun c=> .ptr c.1 c.2 0 0)++rs.map fun q=> .ip (U.sz q.1) [U.en q.1 q.2] 0 0)) (hok: ∀a∈args,a.ok S τ)
  (hlow:(args.map (SA.low U lent io S)).all (Wk U)=true) (hH0:Aba U S io=some H0) (hn:news.length=H1.length - io.length)
  (hsp:Sp F.P f ((args.map (SA.low U lent io S)).map (SA.toA U)) (H0.map (SB.toB U)) (res.toA U) (H1.map (SB.toB U))) (hres: ∀c∈Acj res,Wt H1 c)
  (h:No U S lent io (Q54 U io args) news (Q2 (x::xs.toList)) k H1 res=some r):Bp U F T S τ o k r:=by
 unfold No at h;split at h
 ·rename_i hc;simp only[Z4,decide_eq_true_eq]at hc;obtain⟨⟨⟨⟨⟨hk,hA⟩,hB⟩,hlen⟩,hnd⟩,hnew⟩:=hc
  have hlen:=Ep hlen;obtain⟨hk1,hl⟩:=N6 h;obtain⟨hsl,hkl⟩:=U5 io H1 hk hl;obtain⟨hb1,hb2⟩:=Mm hU (lent:=lent) (io0:=io) (L:=io++news++Q54 U io args) io hH0 (fun id hi=>by simp[hi])
  have hlive: ∀id∈io,∃B,S.blk id=some B:=fun id hi=>by
   obtain⟨i,h1⟩:=List.getElem?_of_mem hi;obtain⟨B,b,h2,_⟩:=hb2 i id h1;exact⟨B,h2⟩
  have hνs:=U8 (U:=U) hnd hlive
  have houts:(io++news).length=H1.length:=by rw[Jh,hn];omega
  refine⟨_,hk1,?_,?_⟩
  ·refine sCg (H0:=H0.map (SB.toB U)) (H1:=H1.map (SB.toB U)) hsp hf lent io news (io++news++Q54 U io args) ho hx ?_ hb1 hnd ?_ ?_ hnew (by rw[Bu];exact houts) hsl ?_ (Sa io news) ?_
   ·rw[←ha,Cq,Cq];refine Er fun a hm=> ?_;refine Ajd hU (hok a hm) (fun id i hp=> ?_) (fun c hcc id hr hp=> ?_) (Z1.1 hlow _ (List.mem_map_of_mem hm))
    ·have:=Z6 (Q27 hp);simp[this]
    ·exact List.mem_append_right _ (Sb args a hm c hcc id hr (Yw hp))
   ·refine Z1.2 fun id hi=> ?_;obtain⟨B,hB⟩:=hlive id hi;rw[Q67 hB (by simp[hi])];rfl
   ·refine Z1.2 fun id hi=>List.contains_iff_mem.2 (List.mem_append_left _ hi)
   ·exact Ajf hU _ H1 hνs hB
   ·exact Af4 hU hνs hA
  ·have hblk: ∀(i id:Nat) B,(io++news)[i]? =some id->H1[i]? =some B->(S.app o.dst {v:=res.up U (io++news) (Dm U S io),upd:=Q72 U (Dm U S io) (io++news) H1,bump:=news,use:=Q2 (x::xs.toList),ids:=io++news++Q54 U io args}).blk id=some (B.upV (Dm U S io id)):=fun i id B hi hB=>Ajg _ _ _ hnd i id B hi hB
   have hblk0: ∀id,id ∉ io++news->(S.app o.dst {v:=res.up U (io++news) (Dm U S io),upd:=Q72 U (Dm U S io) (io++news) H1,bump:=news,use:=Q2 (x::xs.toList),ids:=io++news++Q54 U io args}).blk id=S.blk id:=fun id hi=>W3 _ _ _ fun p hp e=>hi (by rw[←e];exact Ke _ _ p hp)
   have hver: ∀id,(S.app o.dst {v:=res.up U (io++news) (Dm U S io),upd:=Q72 U (Dm U S io) (io++news) H1,bump:=news,use:=Q2 (x::xs.toList),ids:=io++news++Q54 U io args}).ver id=C2 S.ver news id:=fun id=>Rp news S.nv id
   have hH1: ∀(i id:Nat),(io++news)[i]? =some id-> ∃B,H1[i]? =some B:=fun i id hi=>by
    have:=(Z3.1 hi).1;exact⟨_,Eh (by omega)⟩
   have hlt: ∀id∈io++news,Dm U S io id<C2 S.ver news id:=fun id hi=>by
    by_cases h1:id∈io
    ·obtain⟨B,hB⟩:=hlive id h1;rw[Kf h1 hB];exact Tk (hw.2.2 id B hB).1 (Q86 _ _ _)
    ·rw[Ajh h1];exact Qu _ ((Gh.1 hi).resolve_left h1)
   generalize hS':(S.app o.dst {v:=res.up U (io++news) (Dm U S io),upd:=Q72 U (Dm U S io) (io++news) H1,bump:=news,use:=Q2 (x::xs.toList),ids:=io++news++Q54 U io args})=S' at hblk hblk0 hver ⊢
   have hctr:S'.ctr=S.ctr:=by rw[←hS'];rfl
   have hevo:G4 S S':=by
    refine⟨by rw[hctr];exact Z9 _,fun id=>by rw[hver];exact Q86 _ _ _,fun id B' hB' hv=> ?_⟩
    by_cases hi:id∈io++news
    ·obtain⟨i,hi2⟩:=List.getElem?_of_mem hi;obtain⟨B1,hB1⟩:=hH1 i id hi2;rw[hblk i id B1 hi2 hB1]at hB';cases hB';rw[Ww]at hv ⊢;rcases E4 i io.length with hlt|hge
     ·rw[Fi hlt]at hi2;obtain⟨B,k1,k2⟩:=hkl i id B1 hi2 hB1;refine⟨B,k1,?_,by rw[Wz];exact k2,fun h=> ?_⟩
      ·exact(Kf (Z6 hi2) k1).symm
      ·rw[Yu]at h;cases h
     ·exfalso;rw[E0 hge]at hi2
      have hno:id ∉ io:=fun h2=>(List.nodup_append.1 hnd).2.2 id h2 id (Z6 hi2) rfl;rw[Ajh hno]at hv;exact Nat.lt_irrefl _ hv
    ·rw[hblk0 id hi]at hB';exact⟨B',hB',rfl,rfl,fun _=>rfl⟩
   rw[←hS']at hevo hblk hblk0 hver ⊢;refine hw.app hevo (Aji fun c hc=>Amc fun i v len id e hi=>⟨?_,fun B hB hv=> ?_⟩) fun id B hB2=> ?_
   ·rw[hver];exact hlt id (Z6 hi)
   ·obtain⟨B1,hB1⟩:=hH1 i id hi;rw[hblk i id B1 hi hB1]at hB;cases hB;rw[Wz];exact hres c hc i v len e B1 hB1
   ·by_cases hi:id∈io++news
    ·right;obtain⟨i,hi2⟩:=List.getElem?_of_mem hi;obtain⟨B1,hB1⟩:=hH1 i id hi2;rw[hblk i id B1 hi2 hB1]at hB2;cases hB2;refine⟨by rw[Ww,hver];exact hlt id hi,?_⟩
     have hb:=Z1.1 hB B1 (Z6 hB1);cases B1 with
     |rows v t d c l=>trivial
     |box v cs=>
      intro c hc
      have:=Z1.1 hb c hc;simp only[Z4]at this;exact Q49 this.1.1 this.1.2
     |arr v n t l=>cases hb
     |opn v t d q l g i cs=>cases hb
    ·rw[hblk0 id hi]at hB2;exact .inl hB2
 ·cases h
theorem Acl (hU:Ab U)(hw:A5 S τ){Γ:List (Nat×Fl U)}(hΓ: ∀f c,lk Γ f=some c->Fl.Ok U F.P f c∧Ej F.P f){o:Oper}{rest:List Oper}{x:Operand}{xs:Array Operand}{ats:Array TypeId}{α:Type}{k:Aj U.D->Option α}{r:α}
  (ho:o.op= .call ⟨.value x,xs,ats⟩) (h:Abf U T Γ S o.dst rest x xs ats k=some r):Bp U F T S τ o k r:=by
 unfold Abf at h;split at h
 ·rename_i f caps rs ex;split at h
  ·rename_i sg m ef;obtain⟨hc,hf⟩:=hΓ f _ ef;split at h
   ·rename_i e1;simp only[Z4]at e1;generalize Wl [] (X8 U sg.ps (callArgs U T S caps rs (xs.toList.zip ats.toList)))=io at h;unfold Abe at h;split at h
    ·rename_i H0 e2 e3
     have hargs:=hw.callArgs (T:=T) caps rs (xs.toList.zip ats.toList);obtain⟨hb1,hb2⟩:=Mm hU (lent:=true) (io0:=[]) (L:=io) _ e2 (fun id hi=>hi);obtain⟨mm,g1,g2⟩:=Af1 hU sg.ps _ 0 m [] [] (by simp) hc (fun a ha c hcc i v len e B hB=>by
      obtain⟨a0,ha0,rfl⟩:=D9.1 ha
      have: ∃c0∈a0.cells,c0.low U sg.lend io S=c∨c= .undef:=by
       cases a0 with
       |c v0=>exact⟨v0,by simp[SA.cells],.inl (Mx.1 hcc).symm⟩
       |g cs=>
        obtain⟨c0,h1,h2⟩:=D9.1 hcc;exact⟨c0,h1,.inl h2⟩
       |t xs2=>
        have:=Z1.1 e3 _ (List.mem_map_of_mem ha0);cases this
      obtain⟨c0,h1,h2⟩:=this;rcases h2 with h2|h2
      ·subst e;obtain⟨id,ver,C,rfl,k2,k3,k4⟩:=Af2 h2;obtain⟨C',b,k5,k6,k7⟩:=hb2 i id (Q27 k2);rw[hB]at k6;cases k6;rw[k3]at k5;cases k5;rw[←k7];exact(Q51 (hargs a0 ha0) _ h1).2 C k3 k4
      ·rw[h2]at e;cases e) h
     cases mm with
     |none=>cases g1
     |some q=>
      exact Va hU hw hf ho (Em ex (by simp) rfl) (U9 (Z2 e1.1) e1.2) hargs e3 e2 (U6 _ _ _) (g2 q rfl) (Af5 hU sg q) g1
    ·cases h
   ·cases h
  ·cases h
 ·cases h
end
end Go.Eng
namespace Go.Eng
section
variable {U:Un} {T:Tab} {F:Fr} {S:SS U.D} {τ:Nat->Int} {o:Oper} {α β:Type} {k:Aj U.D->Option α} {r:α}
structure N8 (U:Un)(T:Tab)(P:Program){α:Type}(X:Ox U α):Prop where
 Γ: ∀f c,lk X.Γ f=some c->Fl.Ok U P f c∧Ej P f
 eq:Abp P T X.eqOk
 ov: ∀d l,lk X.ov d=some l-> ∀f c,lk l f=some c->Fl.Ok U P f c∧Ej P f
theorem Yx{α:Type}: ∀(a b:List (Nat×α)) (n:Nat) {v:α},lk (a++b) n=some v->lk a n=some v∨lk b n=some v:=by
 intro a
 induction a with
 |nil=>intro b n v h;exact .inr h
 |cons x r ih=>
  intro b n v h;obtain⟨k,u⟩:=x;rw[Qe,Rn]at h;rw[Rn];split at h
  ·rename_i e;rw[if_pos e];exact .inl h
  ·rename_i e;rw[if_neg e];exact ih b n h
theorem N8.all{P:Program}{X:Ox U α}(hX:N8 U T P X)(dst:Option Tmp): ∀f c,lk (ovG U X dst) f=some c->Fl.Ok U P f c∧Ej P f:=by
 intro f c h;unfold ovG at h;split at h
 ·split at h
  ·rename_i l hl;rcases Yx _ _ _ h with h|h
   ·exact hX.ov _ _ hl f c h
   ·exact hX.Γ f c h
  ·exact hX.Γ f c h
 ·exact hX.Γ f c h
theorem Acm (hU:Ab U)(hw:A5 S τ){X:Ox U α}(hX:N8 U T F.P X){rest:List Oper}(h:stp U T X S rest o k=some r):Bp U F T S τ o k r:=by
 unfold stp at h;split at h
 ·rename_i x ho;exact Rx hw (.inl ho) h
 ·rename_i x ho;exact Rx hw (.inr ho) h
 ·rename_i c x y ho;exact Abo hw ho h
 ·rename_i op t x y ty ho;split at h
  ·exact Abq hw hX.eq ho h
  ·exact Afq hw ho h
 ·rename_i op t x ho;exact Ai2 hw ho h
 ·rename_i s t x ho;exact Abr hw ho h
 ·rename_i s x f ho;exact Yf hw ho h
 ·rename_i x ho;exact Abs hw ho h
 ·rename_i t x ix ho;exact Uy hU hw ho h
 ·rename_i t x ho;exact Abw hU hw ho h
 ·rename_i t x y ho;exact Yi hU hw ho h
 ·rename_i t ho;exact Yl hU hw ho h
 ·rename_i t x ho;exact Afw hw ho h
 ·rename_i x n ho;exact Afr hw ho h
 ·rename_i t parts ho;exact Ym hU hw ho h
 ·rename_i t x ix ho;exact Uz hU hw ho h
 ·rename_i t n parts ho;exact U1 hU hw ho h
 ·rename_i t x y ho;exact Yq hU hw ho h
 ·rename_i t x lo hi ho;exact Yn hU hw ho h
 ·rename_i f first caps ho;exact Ab6 hw ho h
 ·rename_i c ho;obtain⟨callee,args,argTypes⟩:=c;simp only at h;split at h
  ·rename_i x t e2 e3
   have e2:args= #[x]:=Array.toList_inj.1 e2
   have e3:argTypes= #[t]:=Array.toList_inj.1 e3;subst e2;subst e3;exact Afx hw ho h
  ·rename_i x y t t' e2 e3
   have e2:args= #[x,y]:=Array.toList_inj.1 e2
   have e3:argTypes= #[t,t']:=Array.toList_inj.1 e3;subst e2;subst e3;split at h
   ·rename_i e4
    have:=Z2 e4;subst this;exact U2 hU hw ho h
   ·cases h
  ·rename_i x y t t' e2 e3
   have e2:args= #[x,y]:=Array.toList_inj.1 e2
   have e3:argTypes= #[t,t']:=Array.toList_inj.1 e3;subst e2;subst e3;exact Ace hU hw ho h
  ·rename_i x y e2
   have e2:args= #[x,y]:=Array.toList_inj.1 e2;subst e2;exact J3 (mx:=false) hw ho h
  ·rename_i x y e2
   have e2:args= #[x,y]:=Array.toList_inj.1 e2;subst e2;exact J3 (mx:=true) hw ho h
  ·exact Acl hU hw (hX.all o.dst) ho h
  ·cases h
 ·cases h
end
end Go.Eng
namespace Go.Eng
section
variable {F:Fr} {S:St} {a:Act} {w:World} {σ:Nat->List Nat} {β:Nat->Option (Nat×Nat×Nat)}
def C7 (P:Nat->Bool)(id:Nat):List Nat->List Nat
 |i::k::j::r=>if i=id∧P j=true then []else i::k::j::r
 |s=>s
theorem N9{P:Nat->Bool}{id:Nat}{p:List Nat}(h: ∀i r,p=i::r->i≠id):C7 P id p=p:=by
 unfold C7;split
 ·rename_i i k j r;rw[if_neg (fun e=>h i _ rfl e.1)]
 ·rfl
def Dv (P:Nat->Bool)(xs:List (List V)):List (List V):=xs.map fun x=>x.mapIdx fun j v=>bif P j then v.share else v
theorem Aq.shal (hs:Aq F S a w σ β)(P:Nat->Bool){id:Nat}{B:Blk}(hB:S.H id=some B)(hcl:allClosed B=true):Aq F ⟨S.env,Aa S.H id (some ⟨B.ver,B.es,Dv P B.xs⟩),S.nv⟩ a w (fun b=>C7 P id (σ b)) β:=by
 have hid0:id≠0:=by rintro rfl;have h0:S.H 0=none:=hs.hr.far;rw[h0]at hB;cases hB
 have hext:L4 (S.cx w σ β) ((⟨S.env,Aa S.H id (some ⟨B.ver,B.es,Dv P B.xs⟩),S.nv⟩:St).cx w (fun b=>C7 P id (σ b)) β):=by
  refine⟨fun i=>Z9 _,fun i B' h _=> ?_⟩
  have h':Aa S.H id (some ⟨B.ver,B.es,Dv P B.xs⟩) i=some B':=h
  by_cases e:i=id
  ·subst e;rw[Q1]at h';cases h';exact⟨B,hB,rfl,rfl,by simp[Dv],rfl⟩
  ·rw[Q0 _ _ e]at h';exact⟨B',h',rfl,rfl,rfl,rfl⟩
 have hnear: ∀p:List Nat,(∀r,p++r≠[]->p≠[]->C7 P id (p++r)=p++r)->C0 w σ w (fun b=>C7 P id (σ b)) p:=by
  intro p hp b _ hc;refine⟨rfl,?_⟩
  show C7 P id (σ b)=σ b;rcases hc with hc|⟨h1,r,h2⟩
  ·rw[hc];rfl
  ·rw[←h2];exact hp r (by simp[h1]) h1
 have hn1: ∀i,i≠id->C0 w σ w (fun b=>C7 P id (σ b)) [i]:=fun i hi=>hnear [i] fun r _ _=>N9 fun i' r' e=>by cases e;exact hi
 refine⟨⟨?_,fun i B' h=> ?_,fun b hb=> ?_⟩,hs.mpos,⟨hs.kp.os,hs.kp.tape,hs.kp.output,hs.kp.size,hs.kp.heap,fun b hb hc=> ?_⟩,hs.inn,fun t=>(hs.env t).mono hext (hnear [] fun r _ h=>absurd rfl h)⟩
 ·exact(Q0 _ _ (fun h=>hid0 h.symm)).trans hs.hr.far
 ·have h':Aa S.H id (some ⟨B.ver,B.es,Dv P B.xs⟩) i=some B':=h
  by_cases e:i=id
  ·subst e;rw[Q1]at h';cases h';obtain⟨hver,hBR⟩:=hs.hr.blk i B hB;refine⟨hver,?_⟩;cases eb:β i with
   |none=>
    have:=hBR.void eb;exact .mk_void eb (by rw[this];rfl)
   |some q=>
    obtain⟨b,o,n⟩:=q;obtain⟨q1,q2,q3,arr,T,q4,q5,q6⟩:=hBR.some eb
    have q1:σ b=[i]:=q1;refine .mk eb ⟨by show C7 P i (σ b)=[i];rw[q1];rfl,?_,by simpa[Dv]using q3,arr,T,q4,q5,fun k j x v hk hj=> ?_⟩
    ·intro x hx;obtain⟨x0,g1,rfl⟩:=D9.1 hx;simpa using q2 x0 g1
    ·simp only[Dv]at hk;rw[B5]at hk;obtain⟨x0,g1,rfl⟩:=Z5.1 hk;rw[List.getElem?_mapIdx]at hj;obtain⟨v0,g2,rfl⟩:=Z5.1 hj;obtain⟨c,g3,g4⟩:=q6 k j x0 v0 g1 g2;refine⟨c,g3,?_⟩;cases hP:P j with
     |false=>exact g4.mono hext (hnear [i,k,j] fun r _ _=>by simp[C7,hP])
     |true=>
      refine .c ?_
      have hc0:=Z1.1 (Z1.1 hcl x0 (Z6 g1)) v0 (Z6 g2);refine(g4.rc hc0).share (fun b' hb' hor=> ?_) _
      show C7 P i (σ b')=[];rcases hor with hor|⟨_,r,hr⟩
      ·have hor:σ b'=[]:=hor;rw[hor];rfl
      ·have hr:[i,k,j]++r=σ b':=hr;rw[←hr];simp[C7,hP]
  ·rw[Q0 _ _ e]at h';obtain⟨h1,h2⟩:=hs.hr.blk i B' h';exact⟨h1,h2.mono hext rfl (hn1 i e)⟩
 ·show C7 P id (σ b)=[];rw[show σ b=[] from hs.hr.new b hb];rfl
 ·show C7 P id (σ b)=F.σ0 b;rw[hs.kp.free b hb hc];rcases hc with hc|hc
  ·rw[hc];rfl
  ·rw[hc];rfl
theorem Kg (xs:List (List V)):Dv (fun _=>true) xs=shareLL xs:=by
 unfold Dv;rw[Q13];exact Er fun x _=>List.ext_getElem? fun i=>by simp
def Acn (id:Nat):V->Bool
 | .ptr i _ _ _=>Nat.beq i id
 |_=>false
def V.fgt (id:Nat):V->V
 | .ptr i ver k j=>bif Nat.beq i id then .undef else .ptr i ver k j
 | .fn f caps=>bif caps.any (Acn id)then .undef else .fn f caps
 |v=>v
def A.fgt (id:Nat):A->A
 | .c v=> .c (v.fgt id)
 | .g cs=> .g (cs.map (V.fgt id))
 | .t xs=> .t xs
def Blk.fgt (id:Nat)(B:Blk):Blk:=⟨B.ver,B.es,B.xs.map fun x=>x.map (V.fgt id)⟩
def St.fgt (S:St)(id:Nat):St:=⟨fun t=>(S.env t).fgt id,fun i=>(S.H i).map (Blk.fgt id),S.nv⟩
theorem Ajj (id:Nat)(v:V):v.fgt id=v∨v.fgt id= .undef:=by
 cases v with
 |ptr i ver k j=>simp only[V.fgt];cases Nat.beq i id<;>simp
 |fn f caps=>simp only[V.fgt];cases caps.any (Acn id)<;>simp
 |_=>exact .inl rfl
theorem RV.fgt{E E':Cx}{p:List Nat}{v:V}{c:Value}(h:RV E p v c)(id:Nat)(hx:L4 E E')(hn:C0 E.w E.σ E'.w E'.σ p):RV E' p (v.fgt id) c:=by
 rcases Ajj id v with e|e
 ·rw[e];exact h.mono hx hn
 ·rw[e];exact .undef _ _
theorem Aq.fgt (hs:Aq F S a w σ β)(id:Nat):Aq F (S.fgt id) a w σ β:=by
 have hext:L4 (S.cx w σ β) ((S.fgt id).cx w σ β):=by
  refine⟨fun i=>Z9 _,fun i B' h _=> ?_⟩
  have h':(S.H i).map (Blk.fgt id)=some B':=h;obtain⟨B,h1,rfl⟩:=Z5.1 h';exact⟨B,h1,rfl,rfl,by simp[Blk.fgt],rfl⟩
 have hnear: ∀p:List Nat,C0 w σ w σ p:=fun p b _ _=>⟨rfl,rfl⟩;refine⟨⟨?_,fun i B' h=> ?_,hs.hr.new⟩,hs.mpos,hs.kp,hs.inn,fun t=> ?_⟩
 ·show(S.H 0).map _=none;rw[show S.H 0=none from hs.hr.far];rfl
 ·have h':(S.H i).map (Blk.fgt id)=some B':=h;obtain⟨B,h1,rfl⟩:=Z5.1 h';obtain⟨hver,hBR⟩:=hs.hr.blk i B h1;refine⟨hver,?_⟩;cases eb:β i with
  |none=>
   have:=hBR.void eb;exact .mk_void eb (by simp[Blk.fgt,this])
  |some q=>
   obtain⟨b,o,n⟩:=q;obtain⟨q1,q2,q3,arr,T,q4,q5,q6⟩:=hBR.some eb;refine .mk eb ⟨q1,?_,by simpa[Blk.fgt]using q3,arr,T,q4,q5,fun k j x v hk hj=> ?_⟩
   ·intro x hx;obtain⟨x0,g1,rfl⟩:=D9.1 hx;simpa[Blk.fgt]using q2 x0 g1
   ·simp only[Blk.fgt,B5]at hk;obtain⟨x0,g1,rfl⟩:=Z5.1 hk;rw[B5]at hj;obtain⟨v0,g2,rfl⟩:=Z5.1 hj;obtain⟨c,g3,g4⟩:=q6 k j x0 v0 g1 g2;exact⟨c,g3,g4.fgt id hext (hnear _)⟩
 ·have:=hs.env t
  show RA _ ((S.env t).fgt id) _;cases hx:S.env t with
  |c v=>rw[hx]at this;cases this with|c h=>exact .c (h.fgt id hext (hnear _))
  |g cs=>
   rw[hx]at this;generalize a.tmps.getD t undef=c0 at this;cases this with
   |g _ arr hsz h=>
    refine .g _ _ (by simpa using hsz) fun i v hi=> ?_
    rw[B5]at hi;obtain⟨v0,h3,rfl⟩:=Z5.1 hi;obtain⟨c,h1,h2⟩:=h i v0 h3;exact⟨c,h1,h2.fgt id hext (hnear _)⟩
  |t xs=>
   rw[hx]at this;exact this.mono hext (hnear _)
def A.cold:A->A
 | .c v=> .c v.cold
 | .g cs=> .g (cs.map V.cold)
 |x=>x
theorem RA.cold{E:Cx}{x:A}{c:Value}(h:RA E x c):RA E x.cold c:=by
 cases h with
 |c h=>exact .c h.cold
 |g cs arr hsz h=>
  refine .g _ _ (by simpa using hsz) fun i v hi=> ?_
  rw[B5]at hi;obtain⟨v0,h3,rfl⟩:=Z5.1 hi;obtain⟨c,h1,h2⟩:=h i v0 h3;exact⟨c,h1,h2.cold⟩
 |t xs arr cv hs h1 h2=>exact .t _ _ _ hs h1 h2
theorem Aq.coldE (hs:Aq F S a w σ β)(t:Nat):Aq F ⟨Aa S.env t (S.env t).cold,S.H,S.nv⟩ a w σ β:=by
 refine⟨hs.hr,hs.mpos,hs.kp,hs.inn,fun t'=> ?_⟩
 show RA (S.cx w σ β) (Aa S.env t (S.env t).cold t') _
 by_cases e:t'=t
 ·subst e;rw[Q1];exact(hs.env t').cold
 ·rw[Q0 _ _ e];exact hs.env t'
end
def Do (F:Fr)(S S':St):Prop:= ∀(a:Act) (w:World),RS F S a w->RS F S' a w
theorem Do.refl{F:Fr}(S:St):Do F S S:=fun _ _ h=>h
theorem Do.trans{F:Fr}{S S' S'':St}(h:Do F S S')(h':Do F S' S''):Do F S S'':=fun a w hs=>h' a w (h a w hs)
end Go.Eng
namespace Go.Eng
section
variable {U:Un} {T:Tab} {F:Fr} {S S':SS U.D} {τ:Nat->Int} {α:Type} {k:SS U.D->Option α} {r:α}
def Go1 (F:Fr)(S S':SS U.D):Prop:=Do F (S.toSt U) (S'.toSt U)∧WF S'
theorem G5 (he:F2 F T){nid:Nat}(h:Nat.ble 100 nid=true):F.m≤nid:=by have:=Ep h;have:=he.m;omega
theorem Ll{a b:Nat}(h:Nat.beq a b=false):a≠b:=by rintro rfl;simp at h
theorem A5.upHs (h:A5 S τ){l:List (Nat×Option (SB U.D))}(e:G4 S (Gw U S l))(hb: ∀id B,(Gw U S l).blk id=some B->S.blk id=some B∨(B.ver<S.ver id∧B.ok (Gw U S l) τ)):A5 (Gw U S l) τ:=by
 refine⟨h.1,fun t v ht=>(h.2.1 t v ht).mono e,fun id B hB=> ?_⟩;rcases hb id B hB with h1|h1
 ·exact⟨(h.2.2 id B h1).1,(h.2.2 id B h1).2.mono e⟩
 ·exact h1
theorem Q87 (id:Nat)(b:Option (SB U.D))(i:Nat):(Gw U S [(id,b)]).blk i=if i=id then b else S.blk i:=Ro _ _ _ _ _ _ _
theorem Aco{id:Nat}{B B':SB U.D}(hB:S.blk id=some B)(h1:B'.ver=B.ver)(h2:B'.len=B.len)(h3:B'.clean=false):G4 S (Gw U S [(id,some B')]):=by
 refine⟨Z9 _,fun _=>Z9 _,fun i C hC _=> ?_⟩;rw[Q87]at hC;split at hC
 ·rename_i e;cases hC;exact⟨B,by rw[e];exact hB,h1.symm,h2.symm,fun h=>by rw[h3]at h;cases h⟩
 ·exact⟨C,hC,rfl,rfl,fun _=>rfl⟩
theorem A5.upH1 (h:A5 S τ){id:Nat}{B B':SB U.D}(hB:S.blk id=some B)(h1:B'.ver=B.ver)(h2:B'.len=B.len)(h3:B'.clean=false)(h4:B'.ok S τ):A5 (Gw U S [(id,some B')]) τ:=by
 have e:=Aco hB h1 h2 h3;refine h.upHs e fun i C hC=> ?_;rw[Q87]at hC;split at hC
 ·rename_i e2;cases hC;subst e2;exact .inr ⟨by rw[h1];exact(h.2.2 _ B hB).1,h4.mono e⟩
 ·exact .inl hC
theorem Sc (h1: ∀t,((S.get t).toA U)=((S'.get t).toA U))(h2: ∀i,(S.blk i).map (SB.toB U)=(S'.blk i).map (SB.toB U))(h3: ∀i,S.ver i=S'.ver i):S.toSt U=S'.toSt U:=St.Sim.eq ⟨h1,h2,h3⟩
theorem Kh (x:Nat)(v:SA U.D)(e:List (Nat×SA U.D))(H:List (Nat×Option (SB U.D)))(nv:List (Nat×Nat))(c t:Nat):(⟨(x,v)::e,H,nv,c⟩:SS U.D).get t=if t=x then v else(⟨e,H,nv,c⟩:SS U.D).get t:=by
 simp only[SS.get,Rn]
 by_cases h:t=x
 ·rw[if_pos h,if_pos h]
 ·rw[if_neg h,if_neg h]
theorem Af6{id nid:Nat}{B B' N:SB U.D}(hne:id≠nid)(hB:S.blk id=some B)(h1:B'.ver=B.ver)(h2:B'.len=B.len)(h3:B'.clean=false)(h4:N.ver=S.ver nid):
  G4 S (S.app none {v:= .c .undef,upd:=[(nid,some N),(id,some B')],bump:=[nid]})∧ ∀i,(S.app none {v:= .c .undef,upd:=[(nid,some N),(id,some B')],bump:=[nid]}).blk i=if i=id then some B' else if i=nid then some N else S.blk i:=by
 have hb: ∀i,(S.app none {v:= .c .undef,upd:=[(nid,some N),(id,some B')],bump:=[nid]}).blk i=if i=id then some B' else if i=nid then some N else S.blk i:=fun i=>by
  show(⟨S.env,(id,some B')::(nid,some N)::S.H,_,S.ctr⟩:SS U.D).blk i=_;rw[Ro,Ro];rfl
 refine⟨⟨Z9 _,fun i=> ?_,fun i C hC hlt=> ?_⟩,hb⟩
 ·rw[Yh];split
  ·rename_i e;subst e;exact Nat.le_succ _
  ·exact Z9 _
 ·rw[hb]at hC;split at hC
  ·rename_i e;cases hC;subst e;exact⟨B,hB,h1.symm,h2.symm,fun h=>by rw[h3]at h;cases h⟩
  ·split at hC
   ·rename_i e;cases hC;subst e;rw[h4]at hlt;exact absurd hlt (Nat.lt_irrefl _)
   ·exact⟨C,hC,rfl,rfl,fun _=>rfl⟩
theorem W4 (hw:A5 S τ){id nid:Nat}{B B' N:SB U.D}(hne:id≠nid)(hB:S.blk id=some B)(h1:B'.ver=B.ver)(h2:B'.len=B.len)(h3:B'.clean=false)(h4:N.ver=S.ver nid)(hN:N.ok S τ)
  (hok:B'.ok (S.app none {v:= .c .undef,upd:=[(nid,some N),(id,some B')],bump:=[nid]}) τ):A5 (S.app none {v:= .c .undef,upd:=[(nid,some N),(id,some B')],bump:=[nid]}) τ:=by
 obtain⟨e,hb⟩:=Af6 hne hB h1 h2 h3 h4;refine hw.app e trivial fun i C hC=> ?_;rw[hb]at hC;split at hC
 ·rename_i e2;cases hC;subst e2;refine .inr ⟨?_,hok⟩;rw[Yh,if_neg hne,h1];exact(hw.2.2 _ B hB).1
 ·split at hC
  ·rename_i e2;cases hC;subst e2;refine .inr ⟨?_,hN.mono e⟩;rw[Yh,if_pos rfl,h4];exact Nat.lt_succ_self _
  ·exact .inl hC
theorem Mp{id nid:Nat}{B B' N:SB U.D}(hne:id≠nid)(hB:S.blk id=some B)(h1:B'.ver=B.ver)(h2:B'.len=B.len)(h3:B'.clean=false)(h4:N.ver=S.ver nid):
  (SV.own nid (S.ver nid) N.len:SV U.D).ok (S.app none {v:= .c .undef,upd:=[(nid,some N),(id,some B')],bump:=[nid]}) τ:=by
 obtain⟨e,hb⟩:=Af6 hne hB h1 h2 h3 h4;refine⟨by rw[Yh,if_pos rfl];exact Nat.lt_succ_self _,fun C hC _=> ?_⟩
 rw[hb,if_neg (fun h=>hne h.symm),if_pos rfl]at hC;cases hC;rfl
theorem Af7 (he:F2 F T)(hw:A5 S τ){id j nid:Nat}(h:(Cmd.take id j nid).run U T S k=some r): ∃S',k S'=some r∧Go1 F S S':=by
 simp only[Cmd.run]at h;split at h
 ·rename_i ver cs e1;split at h
  ·rename_i t d l e2;split at h
   ·rename_i e3;simp only[Z4,Zu]at e3
    have hne:=Ll e3.2;refine⟨_,h,?_,τ,?_⟩
    ·rintro a w ⟨hd,hsz,σ,β,hs⟩;obtain⟨σ',β',hs'⟩:=hs.takeN (k:=0) (x:=cs.map (SV.toV U)) (j:=j) (e:=U.sz t) (ys:=l.map (U.eT d t)) (nid:=nid) (Ac e1) rfl (by rw[B5,e2];rfl) (G5 he e3.1) hne
     refine⟨hd,hsz,σ',β',?_⟩
     have:=Q81 S none {v:= .c .undef,upd:=[(nid,some (.rows (S.ver nid) t d true l)),(id,some (.box ver (cs.set j (.own nid (S.ver nid) l.length))))],bump:=[nid]};refine Eq.mp (congrArg (fun X=>Aq F X a w σ' β') (Eq.trans ?_ this.symm)) hs'
     show(⟨_,_,_⟩:St)=⟨_,_,_⟩;simp only[Bu,Aj.toRec,St.app,Z8,Gk,Hf,SB.toB,List.map_set,Z49,SV.toV];rfl
    ·refine W4 hw hne e1 rfl rfl rfl rfl trivial ?_;intro c hc;rcases Z54 hc with hc|rfl
     ·exact((hw.2.2 id _ e1).2 c hc).mono (Af6 (B':= .box ver (cs.set j (.own nid (S.ver nid) l.length))) (N:= .rows (S.ver nid) t d true l) hne e1 rfl rfl rfl rfl).1
     ·exact Mp (N:= .rows (S.ver nid) t d true l) hne e1 rfl rfl rfl rfl
   ·cases h
  ·exact⟨S,h,Do.refl _,τ,hw⟩
  ·cases h
 ·cases h
theorem Acp (he:F2 F T)(hw:A5 S τ){id j nid:Nat}(h:(Cmd.takeE id j nid).run U T S k=some r): ∃S',k S'=some r∧Go1 F S S':=by
 simp only[Cmd.run]at h;split at h
 ·rename_i ver t0 d0 dirty l0 g i cs e1;obtain⟨hi,htag,hcs,hlen,horig⟩:=(hw.2.2 id _ e1).2;split at h
  ·rename_i t d l e2;split at h
   ·rename_i e3;simp only[Z4,Zu]at e3
    have hne:=Ll e3.2;refine⟨_,h,?_,τ,?_⟩
    ·rintro a w ⟨hd,hsz,σ,β,hs⟩;obtain⟨σ',β',hs'⟩:=hs.takeN (k:=i.toNat) (x:=cs.map (SV.toV U)) (j:=j) (e:=U.sz t) (ys:=l.map (U.eT d t)) (nid:=nid) (Ac e1) (by rw[V6,if_pos rfl,if_pos (by rw[Bu];omega)]) (by rw[B5,e2];rfl) (G5 he e3.1) hne
     refine⟨hd,hsz,σ',β',?_⟩
     have:=Q81 S none {v:= .c .undef,upd:=[(nid,some (.rows (S.ver nid) t d true l)),(id,some (.opn ver t0 d0 dirty l0 g i (cs.set j (.own nid (S.ver nid) l.length))))],bump:=[nid]};refine Eq.mp (congrArg (fun X=>Aq F X a w σ' β') (Eq.trans ?_ this.symm)) hs'
     show(⟨_,_,_⟩:St)=⟨_,_,_⟩;simp only[Bu,Aj.toRec,St.app,Z8,Gk,Hf,SB.toB,List.map_set,Z49,SV.toV,List.set_set];rfl
    ·have hev:=(Af6 (B':= .opn ver t0 d0 dirty l0 g i (cs.set j (.own nid (S.ver nid) l.length))) (N:= .rows (S.ver nid) t d true l) hne e1 rfl rfl rfl rfl);refine W4 hw hne e1 rfl rfl rfl rfl trivial ⟨hi,htag.mono hev.1.ctr,fun c hc=> ?_,by rw[Z49];exact hlen,fun hq j' c hc=> ?_⟩
     ·rcases Z54 hc with hc|rfl
      ·exact(hcs c hc).mono hev.1
      ·exact Mp (N:= .rows (S.ver nid) t d true l) hne e1 rfl rfl rfl rfl
     ·rw[V6]at hc;split at hc
      ·rename_i ej;subst ej;split at hc
       ·cases hc;refine .inr ⟨nid,S.ver nid,l.length,rfl,fun t' d' l' hB=> ?_⟩;rw[hev.2,if_neg (fun h=>hne h.symm),if_pos rfl]at hB;cases hB;rcases horig hq j _ e2 with h1|⟨_,_,_,h1,_⟩
        ·exact h1
        ·cases h1
       ·cases hc
      ·exact(horig hq j' c hc).mono (hcs c (Z6 hc)) hev.1
   ·cases h
  ·exact⟨S,h,Do.refl _,τ,hw⟩
  ·cases h
 ·cases h
theorem A5.tick (hw:A5 S τ)(i:Int):A5 (⟨S.env,S.H,S.nv,S.ctr+1⟩:SS U.D) (fun g=>if g=2*S.ctr+1 then i else τ g):=by
 have key: ∀ {g:Nat} {n:Int},Dn S.ctr τ g n->Dn (S.ctr+1) (fun g=>if g=2*S.ctr+1 then i else τ g) g n:=by
  intro g n h hg;obtain⟨h1,h2⟩:=h hg
  have hne:g≠2*S.ctr+1:=by omega
  exact⟨by simp only[if_neg hne];exact h1,by omega⟩
 have kv: ∀ {v:SV U.D},v.ok S τ->v.ok (⟨S.env,S.H,S.nv,S.ctr+1⟩:SS U.D) (fun g=>if g=2*S.ctr+1 then i else τ g):=by
  intro v h;cases v with
  |int k n g=>exact key h
  |ptrE id ver g i j=>exact⟨key h.1,h.2⟩
  |_=>exact h
 refine⟨fun n=> ?_,fun t v ht=> ?_,fun id B hB=>⟨(hw.2.2 id B hB).1,?_⟩⟩
 ·have:2*n+2≠2*S.ctr+1:=by omega
  simp only[if_neg this];exact hw.1 n
 ·have:=hw.2.1 t v ht;cases v with
  |c v=>exact kv this
  |g cs=>exact fun c hc=>kv (this c hc)
  |t xs=>exact fun x hx c hc=>kv (this x hx c hc)
 ·have:=(hw.2.2 id B hB).2;cases B with
  |box v cs=>exact fun c hc=>kv (this c hc)
  |opn v t d q l g i cs=>exact⟨this.1,key this.2.1,fun c hc=>kv (this.2.2.1 c hc),this.2.2.2⟩
  |_=>trivial
theorem Sd (hU:Ab U){ver t g:Nat}{d q:Bool}{l:List (U.D t)}{i:Int}(hb:0≤i∧i<(l.length:Int)):(SB.opn ver t d q l g i (U.cells d t (U.gt l i)):SB U.D).toB U=⟨ver,U.sz t,l.map (U.eT d t)⟩:=by
 letI:=U.inh t
 simp only[SB.toB,R1 hU d l i]
 congr 1
 refine List.ext_getElem? fun n=> ?_;rw[V6];split
 ·rename_i e;subst e;rw[if_pos (by rw[Bu];omega)]
  exact(Qw _ hb).symm
 ·rfl
theorem Pa (hU:Ab U){ver t g:Nat}{d:Bool}{l:List (U.D t)}{i:Int}(hb:0≤i∧i<(l.length:Int))(ht:Dn S.ctr τ g i):(SB.opn ver t d false l g i (U.cells d t (U.gt l i)):SB U.D).ok S τ:=
 ⟨hb,ht,Ab1 hU,hU.cellsLen d t _,fun _ j c h=> .inl h⟩
theorem W5{x:Nat}{v:SA U.D}{id:Nat}{B B':SB U.D}{c:Nat}(hv:v.toA U=(S.get x).toA U)(hB:S.blk id=some B)(hBB:B'.toB U=B.toB U):(⟨(x,v)::S.env,(id,some B')::S.H,S.nv,c⟩:SS U.D).toSt U=S.toSt U:=by
 refine Sc (fun t=> ?_) (fun i=> ?_) (fun i=>rfl)
 ·rw[Kh];split
  ·rename_i e;rw[hv,e]
  ·rfl
 ·rw[Ro];split
  ·rename_i e;rw[e,hB];exact congrArg some hBB
  ·rfl
theorem Se{id:Nat}{B B':SB U.D}(hB:S.blk id=some B)(hBB:B'.toB U=B.toB U):(Gw U S [(id,some B')]).toSt U=S.toSt U:=by
 refine Sc (fun t=>rfl) (fun i=> ?_) (fun i=>rfl);rw[Q87];split
 ·rename_i e;rw[e,hB];exact congrArg some hBB
 ·rfl
theorem Af8 (hU:Ab U)(hw:A5 S τ){id:Nat}{ix:Operand}(h:(Cmd.opn id ix).run U T S k=some r): ∃S',k S'=some r∧Go1 F S S':=by
 simp only[Cmd.run]at h;split at h
 ·rename_i ver t d c l kd i g e1 e2;split at h
  ·rename_i hb;split at h
   ·rename_i x;refine⟨_,h,?_,fun g=>if g=2*S.ctr+1 then i else τ g,?_⟩
    ·rw[W5 (v:= .c (.int kd i (2*S.ctr+1))) (by have e2:S.get x=_:=e2;rw[e2];rfl) e1 (Sd hU hb)]
     exact Do.refl _
    ·have h1:=hw.tick i
     have htag:Dn (S.ctr+1) (fun g=>if g=2*S.ctr+1 then i else τ g) (2*S.ctr+1) i:=fun _=>⟨by simp,.inr (by omega)⟩
     exact h1.chg (dst:=some x) (v:= .c (.int kd i (2*S.ctr+1))) (use:=[]) (ids:=[]) (id:=id) (B:= .rows ver t d c l) e1 rfl rfl rfl htag (Pa hU hb htag)
   ·cases h
   ·rename_i g' _
    have hv:=hw.val (T:=T) 0 ix;rw[e2]at hv;refine⟨_,h,?_,τ,hw.upH1 e1 rfl rfl rfl (Pa hU hb hv)⟩;rw[Se e1 (Sd hU hb)];exact Do.refl _
  ·cases h
 ·exact⟨S,h,Do.refl _,τ,hw⟩
 ·cases h
theorem Af9 (hU:Ab U)(hw:A5 S τ){id x:Nat}(h:(Cmd.opp id x).run U T S k=some r): ∃S',k S'=some r∧Go1 F S S':=by
 simp only[Cmd.run]at h;split at h
 ·rename_i id' ver g i j e1
  have hv:=hw.get x;rw[e1]at hv;split at h
  ·rename_i ver' t d c l e2;split at h
   ·rename_i e3;simp only[Z4]at e3
    have h1:=Z2 e3.1
    have h2:=Z2 e3.2;subst h1;subst h2
    have hb:0≤i∧i<(l.length:Int):=hv.2.2 _ e2 rfl;split at h
    ·refine⟨_,h,?_,fun g=>if g=2*S.ctr+1 then i else τ g,?_⟩
     ·rw[W5 (v:= .c (.ptrE id ver (2*S.ctr+1) i j)) (by rw[e1];rfl) e2 (Sd hU hb)]
      exact Do.refl _
     ·have h1:=hw.tick i
      have htag:Dn (S.ctr+1) (fun g=>if g=2*S.ctr+1 then i else τ g) (2*S.ctr+1) i:=fun _=>⟨by simp,.inr (by omega)⟩
      exact h1.chg (dst:=some x) (v:= .c (.ptrE id ver (2*S.ctr+1) i j)) (use:=[]) (ids:=[]) (id:=id) (B:= .rows ver t d c l) e2 rfl rfl rfl ⟨htag,hv.2⟩ (Pa hU hb htag)
    ·refine⟨_,h,?_,τ,hw.upH1 e2 rfl rfl rfl (Pa hU hb hv.1)⟩;rw[Se e2 (Sd hU hb)];exact Do.refl _
   ·cases h
  ·exact⟨S,h,Do.refl _,τ,hw⟩
  ·cases h
 ·cases h
end
end Go.Eng
namespace Go.Eng
section
variable {U:Un} {T:Tab} {F:Fr} {S S':SS U.D} {τ:Nat->Int} {α:Type} {k:SS U.D->Option α} {r:α}
theorem Q66{v w:SV U.D}{is:List Nat}{b:Bool}(h:H9 U S v=some (w,is,b)):
  (∃nid ver n t d cl l,v= .own nid ver n∧S.blk nid=some (.rows ver t d cl l)∧w= .rowT t d l∧is=[nid]∧b= !cl)∨((∀nid ver n,v≠ .own nid ver n)∧w=v∧is=[]∧b=false):=by
 cases v with
 |own nid ver n=>
  left;simp only[H9]at h;split at h
  ·rename_i ver' t d cl l e1;split at h
   ·rename_i e2
    have:=Z2 e2;subst this;cases h;exact⟨_,_,_,_,_,_,_,rfl,e1,rfl,rfl,rfl⟩
   ·cases h
  ·cases h
 |_=>right;cases h;exact⟨(by intro _ _ _ h;cases h),rfl,rfl,rfl⟩
theorem Q38{v:SV U.D}{r cs':List (SV U.D)}{ids:List Nat}{ch:Bool}(h:putCells U S (v::r)=some (cs',ids,ch)):
  ∃w is b ws is' c,H9 U S v=some (w,is,b)∧putCells U S r=some (ws,is',c)∧cs'=w::ws∧ids=is++is'∧ch=(b||c):=by
 simp only[putCells]at h;split at h
 ·rename_i w is b ws is' c e1 e2;cases h;exact⟨w,is,b,ws,is',c,e1,e2,rfl,rfl,rfl⟩
 ·cases h
theorem Acq{β:Type}{l:List β}{n:Nat}{x:β}(h:l[n]? =some x):l.set n x=l:=by
 refine List.ext_getElem? fun m=> ?_;rw[V6];split
 ·rename_i e;subst e;rw[if_pos (Z3.1 h).1,h]
 ·rfl
theorem Aga{β:Type}(p r:List β)(x y:β):(p++x::r).set p.length y=(p++[y])++r:=by
 induction p with
 |nil=>rfl
 |cons a p ih=>simp only[Qe,Xf,List.set_cons_succ,ih]
theorem Ame (hU:Ab U){id kk ver es:Nat}{a:Act}{w:World}{β:Nat->Option (Nat×Nat×Nat)}: ∀(cs pre cs':List (SV U.D)) (ids:List Nat) (ch:Bool) (xs:List (List V)) (S0:St) (σ:Nat->List Nat),S0.H id=some ⟨ver,es,xs⟩->xs[kk]? =some ((pre++cs).map (SV.toV U))->putCells U S cs=some (cs',ids,ch)→
  ids.Nodup->(∀i∈ids,F.m≤i)->id ∉ ids->(∀i∈ids,S0.H i=(S.blk i).map (SB.toB U))->(∀c∈cs,c.ok S τ)->Aq F S0 a w σ β→
  ∃σ',Aq F ⟨S0.env,fun i=>if i∈ids then none else if i=id then some ⟨ver,es,xs.set kk ((pre++cs').map (SV.toV U))⟩else S0.H i,S0.nv⟩ a w σ' β:=by
 intro cs
 induction cs with
 |nil=>
  intro pre cs' ids ch xs S0 σ hB hk h _ _ _ _ _ hs;cases h;refine⟨σ,?_⟩
  have:(fun i=>if i∈([]:List Nat)then none else if i=id then some (⟨ver,es,xs.set kk ((pre++[]).map (SV.toV U))⟩:Blk)else S0.H i)=S0.H:=by
   funext i
   rw[if_neg (by simp)]
   split
   ·rename_i e;subst e;rw[Acq hk,hB]
   ·rfl
  rw[this];exact hs
 |cons v r ih=>
  intro pre cs' ids ch xs S0 σ hB hk h hnd hm hid hH hok hs;obtain⟨w',is,b,ws,is',c,h1,h2,rfl,rfl,_⟩:=Q38 h
  have hkl:kk<xs.length:=(Z3.1 hk).1;rcases Q66 h1 with ⟨nid,ver',n,t,d,cl,l,rfl,e1,rfl,rfl,_⟩|⟨_,rfl,rfl,_⟩
  ·have h7:=hok (.own nid ver' n) (by simp)
   have hn:n=l.length:=h7.2 _ e1 rfl
   have hne:id≠nid:=fun e=>hid (by simp[e])
   have hN:S0.H nid=some ⟨ver',U.sz t,l.map (U.eT d t)⟩:=by rw[hH nid (by simp),e1];rfl
   obtain⟨σ',hs'⟩:=hs.putN (k:=kk) (j:=pre.length) (x:=(pre++SV.own nid ver' n::r).map (SV.toV U)) hB hk (by
    rw[B5,E0 (Z9 _),Nat.sub_self];simp only[Gj,Hf,SV.toV,Bu,hn]) hN (Q42 hU d t ver' l) hne (hm nid (by simp))
   have hset:((pre++SV.own nid ver' n::r).map (SV.toV U)).set pre.length (.row true (U.sz t) (l.map (U.eT d t)))=((pre++[SV.rowT t d l])++r).map (SV.toV U):=by
    rw[←Aga pre r (.own nid ver' n) (.rowT t d l),List.map_set];rfl
   rw[hset]at hs'
   have hd:=List.nodup_append.1 hnd;obtain⟨σ2,g⟩:=ih (pre++[SV.rowT t d l]) ws is' c (xs.set kk (((pre++[SV.rowT t d l])++r).map (SV.toV U))) _ σ' (Q1 _ _ _) (by rw[V6,if_pos rfl,if_pos hkl]) h2 hd.2.1 (fun i hi=>hm i (by simp[hi])) (fun hi=>hid (by simp[hi]))
    (fun i hi=>by
     show Aa (Aa S0.H nid none) id _ i=_
     have q1:i≠id:=fun e=>hid (by subst e;simp[hi])
     have q2:i≠nid:=fun e=>hd.2.2 nid (by simp) i hi e.symm
     rw[Q0 _ _ q1,Q0 _ _ q2];exact hH i (by simp[hi])) (fun c hc=>hok c (by simp[hc])) hs'
   refine⟨σ2,?_⟩;refine Eq.mp (congrArg (fun X=>Aq F X a w σ2 β) ?_) g
   show(⟨S0.env,_,S0.nv⟩:St)=⟨S0.env,_,S0.nv⟩
   congr 1
   funext i
   rw[List.set_set];simp only[Lc,List.singleton_append,Qe,Zl,Di]
   by_cases q1:i∈is'
   ·rw[if_pos q1,if_pos (Or.inr q1)]
   ·by_cases q2:i=nid
    ·have q3:i≠id:=fun e=>hne (by rw[←e,q2])
     rw[if_neg q1,if_neg q3,if_pos (Or.inl q2),Q0 _ _ q3,q2,Q1]
    ·have q4: ¬(i=nid∨i∈is'):=fun h=>h.elim q2 q1
     by_cases q3:i=id
     ·rw[if_neg q1,if_pos q3,if_neg q4,if_pos q3]
     ·rw[if_neg q1,if_neg q3,if_neg q4,if_neg q3,Q0 _ _ q3,Q0 _ _ q2]
  ·obtain⟨σ2,g⟩:=ih (pre++[w']) ws is' c xs S0 σ hB (by rw[hk,Lc,List.singleton_append]) h2 (by simpa using hnd) (fun i hi=>hm i (by simpa using hi)) (by simpa using hid) (fun i hi=>hH i (by simpa using hi)) (fun c hc=>hok c (by simp[hc])) hs
   refine⟨σ2,?_⟩;rw[Lc,List.singleton_append]at g;exact g
theorem Q80 (id:Nat)(b:Option (SB U.D))(i:Nat): ∀ids:List Nat,(Gw U S (ids.map (fun i=>(i,none))++[(id,b)])).blk i=if i∈ids then none else if i=id then b else S.blk i:=by
 intro ids
 induction ids with
 |nil=>rw[if_neg (by simp)];exact Q87 id b i
 |cons x r ih=>
  show(⟨S.env,(x,none)::((r.map (fun i=>(i,none))++[(id,b)])++S.H),S.nv,S.ctr⟩:SS U.D).blk i=_;rw[Ro]
  by_cases h:i=x
  ·rw[if_pos h,if_pos (by simp[h])]
  ·rw[if_neg h]
   have:(⟨S.env,((r.map (fun i=>(i,none))++[(id,b)])++S.H),S.nv,S.ctr⟩:SS U.D).blk i=_:=ih;rw[this];simp only[Di,h,false_or]
theorem Pb{id:Nat}{ids:List Nat}{B B':SB U.D}(hB:S.blk id=some B)(h1:B'.ver=B.ver)(h2:B'.len=B.len)(h3:B'.clean=false):G4 S (Gw U S (ids.map (fun i=>(i,none))++[(id,some B')])):=by
 refine⟨Z9 _,fun _=>Z9 _,fun i C hC _=> ?_⟩;rw[Q80]at hC;split at hC
 ·cases hC
 ·split at hC
  ·rename_i e;cases hC;exact⟨B,by rw[e];exact hB,h1.symm,h2.symm,fun h=>by rw[h3]at h;cases h⟩
  ·exact⟨C,hC,rfl,rfl,fun _=>rfl⟩
theorem Pc (hw:A5 S τ){id:Nat}{ids:List Nat}{B B':SB U.D}(hB:S.blk id=some B)(h1:B'.ver=B.ver)(h2:B'.len=B.len)(h3:B'.clean=false)(h4:B'.ok S τ):A5 (Gw U S (ids.map (fun i=>(i,none))++[(id,some B')])) τ:=by
 have e:=Pb (ids:=ids) hB h1 h2 h3;refine hw.upHs e fun i C hC=> ?_;rw[Q80]at hC;split at hC
 ·cases hC
 ·split at hC
  ·rename_i e2;cases hC;subst e2;exact .inr ⟨by rw[h1];exact(hw.2.2 _ B hB).1,h4.mono e⟩
  ·exact .inl hC
theorem Mq{id:Nat}{ids:List Nat}(h:Mh id ids=true):ids.Nodup∧(∀i∈ids,Nat.ble 100 i=true)∧id ∉ ids:=by
 simp only[Mh,Z4,decide_eq_true_eq,Zu]at h;refine⟨h.1.1,fun i hi=>Z1.1 h.1.2 i hi,fun hi=> ?_⟩
 have:=List.contains_iff_mem.2 hi;rw[h.2]at this;cases this
theorem Vb (hU:Ab U)(he:F2 F T){id kk ver es:Nat}{ids:List Nat}{ch:Bool}{xs:List (List V)}{cs cs':List (SV U.D)}{B B':SB U.D}(hB:S.blk id=some B)(hBx:B.toB U=⟨ver,es,xs⟩)(hk:xs[kk]? =some (cs.map (SV.toV U)))(hput:putCells U S cs=some (cs',ids,ch))(hids:Mh id ids=true)(hok: ∀c∈cs,c.ok S τ)
  (hB':B'.toB U=⟨ver,es,xs.set kk (cs'.map (SV.toV U))⟩):Do F (S.toSt U) ((Gw U S (ids.map (fun i=>(i,none))++[(id,some B')])).toSt U):=by
 obtain⟨h1,h2,h3⟩:=Mq hids;rintro a w ⟨hd,hsz,σ,β,hs⟩;obtain⟨σ',g⟩:=Ame hU cs [] cs' ids ch xs (S.toSt U) σ (by rw[Ac hB,hBx]) hk hput h1 (fun i hi=>G5 he (h2 i hi)) h3 (fun i _=>rfl) hok hs
 refine⟨hd,hsz,σ',β,?_⟩;refine Eq.mp (congrArg (fun X=>Aq F X a w σ' β) ?_) g;refine St.Sim.eq ⟨fun t=>rfl,fun i=> ?_,fun i=>rfl⟩
 show(if i∈ids then none else if i=id then some _ else(S.blk i).map (SB.toB U))=Option.map (SB.toB U) ((Gw U S (ids.map (fun i=>(i,none))++[(id,some B')])).blk i)
 rw[Q80];split
 ·rfl
 ·split
  ·rw[Hf,hB'];rfl
  ·rfl
theorem Pd: ∀ {cs cs':List (SV U.D)} {ids:List Nat} {ch:Bool},putCells U S cs=some (cs',ids,ch)->cs'.length=cs.length:=by
 intro cs
 induction cs with
 |nil=>intro cs' ids ch h;cases h;rfl
 |cons v r ih=>
  intro cs' ids ch h;obtain⟨w',is,b,ws,is',c,h1,h2,rfl,rfl,_⟩:=Q38 h;simp only[Xf,ih h2]
theorem Sf: ∀ {cs cs':List (SV U.D)} {ids:List Nat} {ch:Bool},putCells U S cs=some (cs',ids,ch)->(∀c∈cs,c.ok S τ)-> ∀c∈cs',c.ok S τ:=by
 intro cs
 induction cs with
 |nil=>intro cs' ids ch h _;cases h;intro c hc;cases hc
 |cons v r ih=>
  intro cs' ids ch h hok;obtain⟨w',is,b,ws,is',c,h1,h2,rfl,rfl,_⟩:=Q38 h;intro c hc;rcases Di.1 hc with rfl|hc
  ·rcases Q66 h1 with ⟨nid,ver',n,t,d,cl,l,rfl,e1,rfl,rfl,_⟩|⟨_,rfl,rfl,_⟩
   ·trivial
   ·exact hok _ (by simp)
  ·exact ih h2 (fun c hc=>hok c (by simp[hc])) c hc
theorem Lm: ∀ {cs cs':List (SV U.D)} {ids:List Nat} {ch:Bool},putCells U S cs=some (cs',ids,ch)-> ∀i∈ids,∃v t d cl l,S.blk i=some (.rows v t d cl l):=by
 intro cs
 induction cs with
 |nil=>intro cs' ids ch h;cases h;intro i hi;cases hi
 |cons v r ih=>
  intro cs' ids ch h i hi;obtain⟨w',is,b,ws,is',c,h1,h2,rfl,rfl,_⟩:=Q38 h;rcases Gh.1 hi with hi|hi
  ·rcases Q66 h1 with ⟨nid,ver',n,t,d,cl,l,rfl,e1,rfl,rfl,_⟩|⟨_,rfl,rfl,_⟩
   ·simp only[Mx]at hi;subst hi;exact⟨_,_,_,_,_,e1⟩
   ·cases hi
  ·exact ih h2 i hi
theorem Ln: ∀(cs cells:List (SV U.D)) {cs':List (SV U.D)} {ids:List Nat},cs.length=cells.length->(∀(j:Nat) c,cs[j]? =some c->Un.orig S (cells[j]?) c)->cells.all SV.shut=true->putCells U S cs=some (cs',ids,false)->cs'=cells:=by
 intro cs
 induction cs with
 |nil=>
  intro cells cs' ids hl _ _ h;cases h;cases cells with
  |nil=>rfl
  |cons x s=>cases hl
 |cons v r ih=>
  intro cells cs' ids hl ho hsh h;obtain⟨w',is,b,ws,is',c,h1,h2,rfl,rfl,hbc⟩:=Q38 h
  have hb:b=false:=by
   cases b with
   |false=>rfl
   |true=>cases hbc
  have hc:c=false:=by
   cases c with
   |false=>rfl
   |true=>cases b<;>cases hbc
  subst hb;subst hc;cases cells with
  |nil=>cases hl
  |cons x s=>
   simp only[Fw,Z4]at hsh
   have h3:=ih s (by simpa using hl) (fun j c hj=>by simpa using ho (j+1) c (by simpa using hj)) hsh.2 h2
   have h4:Un.orig S (some x) v:=by simpa using ho 0 v (by simp)
   subst h3
   congr 1
   rcases Q66 h1 with ⟨nid,ver',n,t,d,cl,l,rfl,e1,rfl,rfl,hcl⟩|⟨hno,rfl,rfl,_⟩
   ·have hcl:cl=true:=by
     cases cl with
     |true=>rfl
     |false=>cases hcl
    subst hcl;rcases h4 with h4|⟨nid',ver2,n2,e2,h4⟩
    ·cases h4;cases hsh.1
    ·cases e2
     have:=h4 _ _ _ e1;exact(Gi this).symm
   ·rcases h4 with h4|⟨nid',ver2,n2,e2,h4⟩
    ·exact(Gi h4).symm
    ·exact absurd e2 (hno _ _ _)
theorem Aq.cast{S S':St}{a:Act}{w:World}{σ:Nat->List Nat}{β:Nat->Option (Nat×Nat×Nat)}(h:S=S')(hs:Aq F S a w σ β):Aq F S' a w σ β:=h ▸ hs
theorem Vc (P:Nat->Bool){id:Nat}{B B':SB U.D}(hB:S.blk id=some B)(hcl:allClosed (B.toB U)=true)(hB':B'.toB U=⟨(B.toB U).ver,(B.toB U).es,Dv P (B.toB U).xs⟩):Do F (S.toSt U) ((Gw U S [(id,some B')]).toSt U):=by
 rintro a w ⟨hd,hsz,σ,β,hs⟩
 have h2:=hs.shal P (Ac hB) hcl;refine⟨hd,hsz,_,_,Aq.cast ?_ h2⟩;refine St.Sim.eq ⟨fun x=>rfl,fun i=> ?_,fun i=>rfl⟩
 show Aa (S.toSt U).H id _ i=Option.map (SB.toB U) ((Gw U S [(id,some B')]).blk i);rw[Q87];split
 ·rename_i e;subst e;rw[Q1,Hf,hB']
 ·rename_i e;rw[Q0 _ _ e];rfl
theorem Ki (hU:Ab U){c:SV U.D}(h:c.shut=true):(Uq U c).toV U=(c.toV U).share:=by
 cases c with
 |rowT t d l=>show V.row false _ _=V.row false _ _;rw[Aja hU]
 |row t l=>show V.row false _ _=V.row false _ _;rw[(hU.en t).shareLL]
 |_=>first|rfl|cases h
theorem Yy (hU:Ab U)(d:Bool)(t:Nat): ∀(cs:List (SV U.D)) (n:Nat),cs.all SV.shut=true->(F8 U d t n cs).map (SV.toV U)=(cs.map (SV.toV U)).mapIdx fun j v=>bif U.farP d t (n+j)then v.share else v:=by
 intro cs
 induction cs with
 |nil=>intro n _;rfl
 |cons c r ih=>
  intro n h;simp only[Fw,Z4]at h;simp only[F8,Z8,ih (n+1) h.2,List.mapIdx_cons,Nat.add_zero]
  congr 1
  ·cases U.farP d t n with
   |true=>exact Ki hU h.1
   |false=>rfl
  ·congr 1
   funext j v
   rw[show n+1+j=n+(j+1)by omega]
theorem Ajk (hU:Ab U)(d:Bool)(t:Nat)(z:U.D t):((U.eT d t z).mapIdx fun j v=>bif U.farP d t j then v.share else v)=U.eT d t z:=by
 refine List.ext_getElem? fun j=> ?_;rw[List.getElem?_mapIdx];cases e:(U.eT d t z)[j]? with
 |none=>rfl
 |some v=>
  simp only[Hf,Z7];cases d with
  |true=>
   cases hf:U.farP true t j with
   |false=>rfl
   |true=>exact hU.far t z j v e hf
  |false=>
   show v.share=v
   have:=(hU.en t).shareLL [z];rw[Q13]at this
   have this:(U.en t z).map V.share=U.en t z:=by simpa using this
   have e:(U.en t z)[j]? =some v:=e
   have h2:=congrArg (fun l=>l[j]?) this;simp only[B5,e,Hf,Z7]at h2;exact h2
theorem Acr (hU:Ab U)(he:F2 F T){id ver t:Nat}{d q:Bool}{l:List (U.D t)}{g:Nat}{i:Int}{ids:List Nat}{ch:Bool}{cs cs':List (SV U.D)}{x:U.D t}(hB:S.blk id=some (.opn ver t d q l g i cs))(hi:0≤i∧i<(l.length:Int))(hput:putCells U S cs=some (cs',ids,ch))(hids:Mh id ids=true)(hsh:cs'.all SV.shut=true)(hok: ∀c∈cs,c.ok S τ)
  (hx:U.fold d t (F8 U d t 0 cs')=some x):Do F (S.toSt U) ((Gw U S (ids.map (fun i=>(i,none))++[(id,some (.rows ver t d false (l.set i.toNat x)))])).toSt U):=by
 have hxs:((l.map (U.eT d t)).set i.toNat (cs.map (SV.toV U)))[i.toNat]? =some (cs.map (SV.toV U)):=by rw[V6,if_pos rfl,if_pos (by rw[Bu];omega)]
 have h1:=Vb (F:=F) (T:=T) hU he (kk:=i.toNat) (B':= .opn ver t d true l g i cs') hB rfl hxs hput hids hok (by simp only[SB.toB,List.set_set])
 have hnot:id ∉ ids:=by
  obtain⟨_,_,h3⟩:=Mq hids;exact h3
 have hB1:(Gw U S (ids.map (fun i=>(i,none))++[(id,some (.opn ver t d true l g i cs'))])).blk id=some (.opn ver t d true l g i cs'):=by rw[Q80,if_neg hnot,if_pos rfl]
 have hcl:allClosed ((SB.opn ver t d true l g i cs').toB U)=true:=by
  refine Z1.2 fun y hy=> ?_;rcases Z54 hy with hy|rfl
  ·obtain⟨z,_,rfl⟩:=D9.1 hy;exact(hU.eT d t).2 z
  ·rw[List.all_map];exact Z1.2 fun c hc=>Q33 hU (Z1.1 hsh c hc)
 have h2:=Vc (F:=F) (U.farP d t) (B':= .rows ver t d false (l.set i.toNat x)) hB1 hcl (by
  simp only[SB.toB]
  show Blk.mk _ _ _=Blk.mk _ _ _
  congr 1
  simp only[Dv];rw[List.map_set,List.map_set,Cq]
  congr 1
  ·exact Er fun z _=>(Ajk hU d t z).symm
  ·rw[←Ab0 hU hx,Yy hU d t cs' 0 hsh];simp only[Nat.zero_add])
 have h3:=h1.trans h2;refine Eq.mp (congrArg (Do F (S.toSt U)) ?_) h3;refine St.Sim.eq ⟨fun t=>rfl,fun j=> ?_,fun j=>rfl⟩
 show Option.map (SB.toB U) (SS.blk _ j)=Option.map (SB.toB U) (SS.blk _ j);rw[Q87,Q80,Q80]
 by_cases e:j=id
 ·subst e;rw[if_pos rfl,if_neg hnot,if_pos rfl]
 ·rw[if_neg e,if_neg e,if_neg e]
theorem Mr (hU:Ab U)(he:F2 F T)(hw:A5 S τ){id:Nat}(h:Np U S id=some S'):Do F (S.toSt U) (S'.toSt U)∧A5 S' τ∧G4 S S'∧ ∀i v cs,S.blk i=some (.box v cs)->S'.blk i=some (.box v cs):=by
 unfold Np at h;split at h
 ·rename_i ver t d dirty l g i cs e1;obtain⟨hi,htag,hcs,hlen,horig⟩:=(hw.2.2 id _ e1).2;split at h
  ·rename_i cs' ids ch e2
   have hxs:((l.map (U.eT d t)).set i.toNat (cs.map (SV.toV U)))[i.toNat]? =some (cs.map (SV.toV U)):=by rw[V6,if_pos rfl,if_pos (by rw[Bu];omega)]
   have hbox: ∀(b:SB U.D) (j v:Nat) (cs0:List (SV U.D)),S.blk j=some (.box v cs0)->(Gw U S (ids.map (fun i=>(i,none))++[(id,some b)])).blk j=some (.box v cs0):=by
    intro b j v cs0 hj;rw[Q80,if_neg,if_neg,hj]
    ·rintro rfl;rw[e1]at hj;cases hj
    ·intro hm;obtain⟨_,_,_,_,_,e⟩:=Lm e2 j hm;rw[e]at hj;cases hj
   split at h
   ·rename_i e3 e4;cases h;simp only[Z4]at e3;simp only[Bool.or_eq_false_iff]at e4;rw[e4.2]at e2
    have hsame:=Ln cs (U.cells d t (U.gt l i)) (hlen.trans (hU.cellsLen d t _).symm) (horig e4.1) (hU.cellsShut d t _) e2;refine⟨Vb hU he (kk:=i.toNat) e1 rfl hxs e2 e3.2 hcs ?_,Pc hw e1 rfl rfl rfl trivial,Pb e1 rfl rfl rfl,hbox _⟩;rw[hsame,List.set_set];exact(Sd hU (q:=false) (g:=g) hi).symm
   ·rename_i e3 e4;simp only[Z4]at e3;split at h
    ·rename_i a ha;cases h;exact⟨Acr hU he e1 hi e2 e3.2 e3.1 hcs ha,Pc hw e1 rfl (by simp[SB.len]) rfl trivial,Pb e1 rfl (by simp[SB.len]) rfl,hbox _⟩
    ·cases h
   ·cases h
  ·cases h
 ·cases h;exact⟨Do.refl _,hw,G4.refl _,fun _ _ _ h=>h⟩
 ·cases h
theorem G4.trans{S1 S2 S3:SS U.D}(h:G4 S1 S2)(h':G4 S2 S3):G4 S1 S3:=by
 refine⟨Tg h.ctr h'.ctr,fun id=>Tg (h.ver id) (h'.ver id),fun id B' hB hv=> ?_⟩;obtain⟨B2,k1,k2,k3,k4⟩:=h'.old id B' hB (Tk hv (h.ver id));obtain⟨B1,m1,m2,m3,m4⟩:=h.old id B2 k1 (by rw[k2];exact hv)
 refine⟨B1,m1,m2.trans k2,m3.trans k3,fun hc=> ?_⟩
 have:=k4 hc;subst this;exact m4 hc
theorem Vd (hU:Ab U)(he:F2 F T): ∀(cs:List (SV U.D)) {S S':SS U.D},A5 S τ->Abg U S cs=some S'->Do F (S.toSt U) (S'.toSt U)∧A5 S' τ∧G4 S S'∧ ∀i v cs,S.blk i=some (.box v cs)->S'.blk i=some (.box v cs):=by
 intro cs
 induction cs with
 |nil=>intro S S' hw h;cases h;exact⟨Do.refl _,hw,G4.refl _,fun _ _ _ h=>h⟩
 |cons v r ih=>
  intro S S' hw h;cases v with
  |own nid ver n=>
   simp only[Abg]at h;split at h
   ·rename_i S1 e1;obtain⟨g1,g2,g3,g4⟩:=Mr hU he hw e1;obtain⟨k1,k2,k3,k4⟩:=ih g2 h;exact⟨g1.trans k1,k2,g3.trans k3,fun i v cs hi=>k4 i v cs (g4 i v cs hi)⟩
   ·cases h
  |_=>exact ih hw h
theorem Yz (hU:Ab U)(he:F2 F T)(hw:A5 S τ){id:Nat}(h:Ur U S id=some S'):Do F (S.toSt U) (S'.toSt U)∧A5 S' τ:=by
 unfold Ur at h;split at h
 ·rename_i ver cs e1;split at h
  ·rename_i S1 e2;obtain⟨g1,g2,g3,g4⟩:=Vd hU he cs hw e2;split at h
   ·rename_i cs' ids ch e3;split at h
    ·rename_i e4;cases h
     have hB:=g4 id ver cs e1
     have hcs:=(g2.2.2 id _ hB).2;refine⟨g1.trans (Vb hU he (kk:=0) hB rfl rfl e3 e4 hcs ?_),Pc g2 hB rfl rfl rfl (Sf e3 hcs)⟩;simp only[SB.toB,Pd e3];rfl
    ·cases h
   ·cases h
  ·cases h
 ·have:=Mr hU he hw h;exact⟨this.1,this.2.1⟩
 ·cases h;exact⟨Do.refl _,hw⟩
 ·cases h;exact⟨Do.refl _,hw⟩
end
end Go.Eng
namespace Go.Eng
section
variable {U:Un} {T:Tab} {F:Fr} {S S':SS U.D} {τ:Nat->Int} {α:Type} {k:SS U.D->Option α} {r:α}
theorem Kj{v:V}(h:v.closed=true)(id:Nat):v.fgt id=v:=by cases v<;>first|rfl|cases h
theorem Kk{v:V}(h:v.closed=true)(id:Nat)(B:Blk):v.frz id B=v:=by cases v<;>first|rfl|cases h
theorem A7{a b:Nat}(h:Nat.beq a b=true):a=b:=Z2 h
theorem Ahi (hU:Ab U){id ver t:Nat}{d c:Bool}{l:List (U.D t)}(hB:S.blk id=some (.rows ver t d c l)){v:SV U.D}(hv:v.ok S τ):(Et U id ver t l v).toV U=((v.toV U).fgt id).frz id ⟨ver,U.sz t,l.map (U.eT d t)⟩:=by
 cases v with
 |own i v n=>
  simp only[Et]
  show _=V.frz1 id ⟨ver,U.sz t,l.map (U.eT d t)⟩ (.own i v 0 n);split
  ·rename_i e1
   have e1:=A7 e1;subst e1;split
   ·rename_i e2
    have e2:=A7 e2;subst e2
    have hn:n=l.length:=hv.2 _ hB rfl;simp only[V.frz1,if_true,Kc hU,hn,Z55,List.take_length];rfl
   ·rename_i e2
    have:=Ll e2;simp only[V.frz1,if_true,if_neg (Ne.symm this)];rfl
  ·rename_i e1;simp only[V.frz1,if_neg (Ll e1)];rfl
 |part i v lo hi=>
  simp only[Et]
  show _=V.frz1 id ⟨ver,U.sz t,l.map (U.eT d t)⟩ (.own i v lo.toNat (hi - lo).toNat);split
  ·rename_i e1
   have e1:=A7 e1;subst e1;split
   ·rename_i e2
    have e2:=A7 e2;subst e2;simp only[V.frz1,if_true,Kc hU];rfl
   ·rename_i e2
    have:=Ll e2;simp only[V.frz1,if_true,if_neg (Ne.symm this)];rfl
  ·rename_i e1;simp only[V.frz1,if_neg (Ll e1)];rfl
 |ptr i v j=>
  simp only[Et,SV.toV,V.fgt];cases e1:Nat.beq i id with
  |true=>rfl
  |false=>show _=V.frz1 id _ (.ptr i v 0 j);simp only[V.frz1,if_neg (Ll e1)];try rfl
 |ptrE i v g x j=>
  simp only[Et,SV.toV,V.fgt];cases e1:Nat.beq i id with
  |true=>rfl
  |false=>show _=V.frz1 id _ (.ptr i v x.toNat j);simp only[V.frz1,if_neg (Ll e1)];try rfl
 |ptrA i v x=>
  simp only[Et,SV.toV,V.fgt];cases e1:Nat.beq i id with
  |true=>rfl
  |false=>show _=V.frz1 id _ (.ptr i v 0 x.toNat);simp only[V.frz1,if_neg (Ll e1)];try rfl
 |fn f caps rs=>
  simp only[Et,SV.toV,V.fgt]
  have hany:((caps.map fun c=>V.ptr c.1 c.2 0 0)++rs.map fun q=>V.ip (U.sz q.1) [U.en q.1 q.2] 0 0).any (Acn id)=caps.any fun c=>Nat.beq c.1 id:=by
   rw[List.any_append,List.any_map,List.any_map]
   have:(rs.any (Acn id ∘ fun q=>V.ip (U.sz q.1) [U.en q.1 q.2] 0 0))=false:=List.any_eq_false.2 fun q _=>by simp[Acn]
   rw[this,Bool.or_false];rfl
  rw[hany];cases e1:caps.any fun c=>Nat.beq c.1 id with
  |true=>rfl
  |false=>
   show V.fn f _=V.fn f _
   congr 1
   rw[Fv,Cq,Cq]
   congr 1
   refine Er fun c hc=> ?_
   have:Nat.beq c.1 id=false:=by
    cases e2:Nat.beq c.1 id with
    |false=>rfl
    |true=>
     have:=List.any_eq_true (p:=fun c:Nat×Nat=>Nat.beq c.1 id).2 ⟨c,hc,e2⟩;rw[e1]at this;cases this
   show _=V.frz1 id _ (.ptr c.1 c.2 0 0);simp only[V.frz1,if_neg (Ll this)]
 |_=>rfl
theorem Je{id ver t:Nat}{l:List (U.D t)}{v:SV U.D}(hv:v.ok S τ):(Et U id ver t l v).ok S τ:=by
 cases v with
 |own i v n=>
  simp only[Et];split
  ·split<;>trivial
  ·exact hv
 |part i v lo hi=>
  simp only[Et];split
  ·split<;>trivial
  ·exact hv
 |ptrE i v g x j=>
  simp only[Et];split
  ·trivial
  ·exact hv
 |ptr i v j=>simp only[Et];split<;>trivial
 |ptrA i v x=>simp only[Et];split<;>trivial
 |fn f caps rs=>simp only[Et];split<;>trivial
 |_=>exact hv
theorem G6{β γ:Type}(f:β->γ): ∀(l:List (Nat×β)) (n:Nat),lk (l.map fun p=>(p.1,f p.2)) n=(lk l n).map f:=by
 intro l
 induction l with
 |nil=>intro n;rfl
 |cons x r ih=>
  intro n;obtain⟨k,v⟩:=x;rw[Z8,Rn,Rn,ih];split<;>rfl
theorem Ajl (hU:Ab U){id ver t:Nat}{d c:Bool}{l:List (U.D t)}(hB:S.blk id=some (.rows ver t d c l)){cs:List (SV U.D)}(h: ∀x∈cs,x.ok S τ):(cs.map (Et U id ver t l)).map (SV.toV U)=((cs.map (SV.toV U)).map (V.fgt id)).map (V.frz id ⟨ver,U.sz t,l.map (U.eT d t)⟩):=by
 rw[Cq,Cq,Cq];exact Er fun x hx=>Ahi hU hB (h x hx)
theorem Kl{l:List V}(h:l.all V.closed=true)(id:Nat)(B:Blk):(l.map (V.fgt id)).map (V.frz id B)=l:=by
 rw[Cq];refine(Er fun v hv=> ?_).trans (List.map_id _)
 have:=Z1.1 h v hv
 show(v.fgt id).frz id B=v;rw[Kj this,Kk this]
theorem Ajm (hU:Ab U){id ver t:Nat}{d c:Bool}{l:List (U.D t)}(hB:S.blk id=some (.rows ver t d c l)){B:SB U.D}(h:B.ok S τ):
  (frzB U id ver t l B).toB U=⟨(B.toB U).ver,(B.toB U).es,((B.toB U).fgt id).xs.map fun x=>x.map (V.frz id ⟨ver,U.sz t,l.map (U.eT d t)⟩)⟩:=by
 have rows: ∀(t':Nat) (d':Bool) (l':List (U.D t')),((l'.map (U.eT d' t')).map fun x=>x.map (V.fgt id)).map (fun x=>x.map (V.frz id ⟨ver,U.sz t,l.map (U.eT d t)⟩))=l'.map (U.eT d' t'):=by
  intro t' d' l';rw[Cq,Cq];exact Er fun a _=>Kl ((hU.eT d' t').2 a) _ _
 cases B with
 |rows v t' d' c' l'=>simp only[frzB,SB.toB,Blk.fgt,rows]
 |box v cs=>
  simp only[frzB,SB.toB,Blk.fgt,Bu,Z8,Gk];rw[Ajl hU hB h]
 |arr v n t' l'=>
  simp only[frzB,SB.toB,Blk.fgt,Z8,Gk];rw[Kl];refine Z1.2 fun v hv=> ?_;obtain⟨x,h1,h2⟩:=List.mem_flatten.1 hv;obtain⟨a,_,rfl⟩:=D9.1 h1;exact Z1.1 ((hU.en t').closed a) v h2
 |opn v t' d' q l' g i cs=>
  simp only[frzB,SB.toB,Blk.fgt,List.map_set,rows];rw[Ajl hU hB h.2.2.1]
theorem Sg{id ver t:Nat}{l:List (U.D t)}(B:SB U.D):(frzB U id ver t l B).ver=B.ver∧(frzB U id ver t l B).len=B.len∧((frzB U id ver t l B).clean=true->B=frzB U id ver t l B):=by
 cases B with
 |rows=>exact⟨rfl,rfl,fun _=>rfl⟩
 |box=>exact⟨rfl,rfl,fun h=>by cases h⟩
 |arr=>exact⟨rfl,rfl,fun h=>by cases h⟩
 |opn=>exact⟨rfl,rfl,fun h=>by cases h⟩
theorem Ms (hU:Ab U)(hw:A5 S τ){id:Nat}(h:Nq U S id=some S'):Do F (S.toSt U) (S'.toSt U)∧A5 S' τ:=by
 unfold Nq at h;split at h
 ·rename_i ver t d c l hB;cases h
  have hblk: ∀i,(⟨S.env.map fun p=>(p.1,X9 U id ver t l p.2),(id,none)::S.H.map fun p=>(p.1,p.2.map (frzB U id ver t l)),S.nv,S.ctr⟩:SS U.D).blk i=if i=id then none else(S.blk i).map (frzB U id ver t l):=by
   intro i;rw[Ro];split
   ·rfl
   ·simp only[SS.blk,G6];cases lk S.H i with
    |none=>rfl
    |some b=>rfl
  refine⟨?_,?_⟩
  ·rintro a w ⟨hd,hsz,σ,β,hs⟩
   have h1:=hs.fgt id
   have hB1:((S.toSt U).fgt id).H id=some ⟨ver,U.sz t,l.map (U.eT d t)⟩:=by
    show((S.blk id).map (SB.toB U)).map (Blk.fgt id)=_;rw[hB];simp only[Hf,SB.toB,Blk.fgt]
    congr 2
    rw[Cq];refine Er fun a _=> ?_
    show(U.eT d t a).map (V.fgt id)=U.eT d t a;refine(Er fun v hv=> ?_).trans (List.map_id _);exact Kj (Z1.1 ((hU.eT d t).2 a) v hv) id
   have h2:=h1.frz hB1 (Q42 hU d t ver l);refine⟨hd,hsz,_,_,Aq.cast ?_ h2⟩;refine St.Sim.eq ⟨fun x=> ?_,fun i=> ?_,fun i=>rfl⟩
   ·have hx:=hw.get x
    have e0:(⟨S.env.map fun p=>(p.1,X9 U id ver t l p.2),(id,none)::S.H.map fun p=>(p.1,p.2.map (frzB U id ver t l)),S.nv,S.ctr⟩:SS U.D).get x=((lk S.env x).map (X9 U id ver t l)).getD (.c .undef):=by
     simp only[SS.get,G6];cases lk S.env x<;>rfl
    have e1:S.get x=(lk S.env x).getD (.c .undef):=by
     simp only[SS.get];cases lk S.env x<;>rfl
    refine Eq.trans ?_ (congrArg (SA.toA U) e0).symm
    show(((S.get x).toA U).fgt id).frz id _=_;rw[e1]at hx ⊢;cases e:lk S.env x with
    |none=>rfl
    |some v=>
     rw[e]at hx;cases v with
     |c v=>show A.c _=A.c _;rw[Ahi hU hB hx]
     |g cs=>show A.g _=A.g _;rw[Ajl hU hB hx]
     |t xs=>rfl
   ·show(if i=id then none else(((S.blk i).map (SB.toB U)).map (Blk.fgt id)).map _)=_
    refine Eq.trans ?_ (congrArg (Option.map (SB.toB U)) (hblk i)).symm;split
    ·rfl
    ·cases e:S.blk i with
     |none=>rfl
     |some B=>
      simp only[Hf,Ajm hU hB (hw.2.2 i B e).2];rfl
  ·have hev:G4 S (⟨S.env.map fun p=>(p.1,X9 U id ver t l p.2),(id,none)::S.H.map fun p=>(p.1,p.2.map (frzB U id ver t l)),S.nv,S.ctr⟩:SS U.D):=by
    refine⟨Z9 _,fun _=>Z9 _,fun i C hC _=> ?_⟩;rw[hblk]at hC;split at hC
    ·cases hC
    ·obtain⟨B,h1,rfl⟩:=Z5.1 hC;obtain⟨k1,k2,k3⟩:=Sg (U:=U) (id:=id) (ver:=ver) (t:=t) (l:=l) B;exact⟨B,h1,k1.symm,k2.symm,k3⟩
   refine⟨hw.1,fun x v hx=> ?_,fun i C hC=> ?_⟩
   ·have hx:lk (S.env.map fun p=>(p.1,X9 U id ver t l p.2)) x=some v:=hx;rw[G6]at hx;obtain⟨v0,h1,rfl⟩:=Z5.1 hx
    have h0:=hw.2.1 x v0 h1;refine SA.ok.mono (S:=S) ?_ hev;cases v0 with
    |c v=>exact Je h0
    |g cs=>
     intro c hc;obtain⟨c0,h1,rfl⟩:=D9.1 hc;exact Je (h0 c0 h1)
    |t xs=>trivial
   ·rw[hblk]at hC;split at hC
    ·cases hC
    ·obtain⟨B,h1,rfl⟩:=Z5.1 hC;obtain⟨h2,h3⟩:=hw.2.2 i B h1;refine⟨by rw[(Sg B).1];exact h2,SB.ok.mono (S:=S) ?_ hev⟩
     cases B with
     |box v cs=>
      intro c hc;obtain⟨c0,h1,rfl⟩:=D9.1 hc;exact Je (h3 c0 h1)
     |opn v t' d' q l' g i' cs=>
      refine⟨h3.1,h3.2.1,fun c hc=> ?_,by rw[Bu];exact h3.2.2.2.1,fun h=>by cases h⟩
      obtain⟨c0,h1,rfl⟩:=D9.1 hc;exact Je (h3.2.2.1 c0 h1)
     |_=>trivial
 ·cases h
 ·cases h;exact⟨Do.refl _,hw⟩
theorem Y0 (hU:Ab U): ∀(l:List Nat) {S S':SS U.D},A5 S τ->Nr U S l=some S'->Do F (S.toSt U) (S'.toSt U)∧A5 S' τ:=by
 intro l
 induction l with
 |nil=>intro S S' hw h;cases h;exact⟨Do.refl _,hw⟩
 |cons x r ih=>
  intro S S' hw h;unfold Nr at h;split at h
  ·rename_i S1 e1;obtain⟨g1,g2⟩:=Ms (F:=F) hU hw e1;obtain⟨k1,k2⟩:=ih g2 h;exact⟨g1.trans k1,k2⟩
  ·cases h
theorem Jf (c:SV U.D):(Dy U c).toV U=(c.toV U).cold:=by
 cases c with
 |rowT t d l=>cases l<;>rfl
 |_=>rfl
theorem Si{c:SV U.D}(h:c.ok S τ):(Dy U c).ok S τ:=by
 cases c with
 |rowT t d l=>cases l<;>trivial
 |_=>exact h
theorem Sj (x:Nat)(v:SA U.D):(upE U S x v).toSt U=⟨Aa (S.toSt U).env x (v.toA U),(S.toSt U).H,(S.toSt U).nv⟩:=by
 refine St.Sim.eq ⟨fun t=> ?_,fun i=>rfl,fun i=>rfl⟩
 show((upE U S x v).get t).toA U=Aa (S.toSt U).env x (v.toA U) t;unfold upE;rw[Kh];split
 ·rename_i e;subst e;rw[Q1]
 ·rename_i e;rw[Q0 _ _ e];rfl
theorem A5.upE (hw:A5 S τ)(x:Nat){v:SA U.D}(hv:v.ok S τ):A5 (upE U S x v) τ:=hw.pure (dst:=some x) (use:=[]) (ids:=[]) hv
theorem W6{x:Nat}{v:SA U.D}(hv:v.toA U=((S.get x).toA U).cold):Do F (S.toSt U) ((upE U S x v).toSt U):=by
 rintro a w ⟨hd,hsz,σ,β,hs⟩;refine⟨hd,hsz,σ,β,?_⟩;rw[Sj,hv];exact hs.coldE x
theorem Acs{x id:Nat}{v:SA U.D}{B:SB U.D}:(S.app (some x) {v,upd:=[(id,some B)],bump:=[id]}).toSt U=⟨Aa (S.toSt U).env x (v.toA U),Aa (S.toSt U).H id (some (B.toB U)),Aa (S.toSt U).nv id ((S.toSt U).nv id+1)⟩:=by
 rw[Q81];rfl
theorem Acu{β:Type}: ∀ {l:List (Nat×β)} {n:Nat} {v:β},lk l n=some v->(n,v)∈l:=by
 intro l
 induction l with
 |nil=>intro n v h;cases h
 |cons x r ih=>
  intro n v h;obtain⟨k,u⟩:=x;rw[Rn]at h;split at h
  ·rename_i e;subst e;cases h;simp
  ·exact Z56 _ (ih h)
theorem Ahj (hU:Ab U){id ver t:Nat}{cs:List (SV U.D)}{x:U.D t}(hB:S.blk id=some (.box ver cs))(hx:(cs.map (Uq U)).map (SV.toV U)=U.en t x)(hcs:cs.all SV.shut=true){v:SV U.D}(hv:v.ok S τ)(hf:Ri U id v=true):
  (E3 U id ver t x v).toV U=(v.toV U).frz id ⟨ver,cs.length,[cs.map (SV.toV U)]⟩:=by
 have hsh:shareLL [cs.map (SV.toV U)]=[U.en t x]:=by
  rw[Q13,Z8,Gk,←hx,Cq,Cq]
  congr 1
  exact Er fun c hc=>(Ki hU (Z1.1 hcs c hc)).symm
 have hlen:cs.length=U.sz t:=by
  have:=congrArg List.length hx;rw[(hU.en t).len]at this;simpa using this
 have h1:([cs.map (SV.toV U)]:List (List V)).length≤maxLen:=by show 1≤maxLen;unfold maxLen;omega
 cases v with
 |own i v n=>
  simp only[E3]
  show _=V.frz1 id ⟨ver,cs.length,[cs.map (SV.toV U)]⟩ (.own i v 0 n);split
  ·rename_i e1
   have e1:=A7 e1;subst e1;split
   ·rename_i e2
    have e2:=A7 e2;subst e2
    have hn:n=0:=hv.2 _ hB rfl;subst hn;simp only[V.frz1,if_true,Ey,Z55,List.take_zero,hlen];rfl
   ·rename_i e2
    have:=Ll e2;simp only[V.frz1,if_true,if_neg (Ne.symm this)];rfl
  ·rename_i e1;simp only[V.frz1,if_neg (Ll e1)];rfl
 |part i v lo hi=>
  simp only[E3]
  show _=V.frz1 id ⟨ver,cs.length,[cs.map (SV.toV U)]⟩ (.own i v lo.toNat (hi - lo).toNat);split
  ·rename_i e1
   have e1:=A7 e1;subst e1;split
   ·rename_i e2
    have e2:=A7 e2;subst e2;obtain⟨q1,q2,q3⟩:=hv.2 _ hB rfl
    have q3:hi≤((0:Nat):Int):=q3
    have:(hi - lo).toNat=0:=by omega
    rw[this];simp only[V.frz1,if_true,Ey,List.take_zero,hlen];rfl
   ·rename_i e2
    have:=Ll e2;simp only[V.frz1,if_true,if_neg (Ne.symm this)];rfl
  ·rename_i e1;simp only[V.frz1,if_neg (Ll e1)];rfl
 |ptr i v j=>
  simp only[E3]
  show _=V.frz1 id ⟨ver,cs.length,[cs.map (SV.toV U)]⟩ (.ptr i v 0 j);split
  ·rename_i e1
   have e1:=A7 e1;subst e1;split
   ·rename_i e2
    have e2:=A7 e2;subst e2;simp only[V.frz1,if_true,h1,and_self,hsh,hlen];rfl
   ·rename_i e2
    have:=Ll e2;simp only[V.frz1,if_true];rw[if_neg (fun h=>this h.1.symm)];rfl
  ·rename_i e1;simp only[V.frz1,if_neg (Ll e1)];rfl
 |ptrE i v g x' j=>
  simp only[E3]
  show _=V.frz1 id ⟨ver,cs.length,[cs.map (SV.toV U)]⟩ (.ptr i v x'.toNat j);split
  ·rename_i e1
   have e1:=A7 e1;subst e1;simp only[V.frz1,if_true]
   by_cases e2:ver=v
   ·obtain⟨q1,q2⟩:=hv.2.2 _ hB e2
    have q2:x'<((0:Nat):Int):=q2;omega
   ·rw[if_neg (fun h=>e2 h.1)];rfl
  ·rename_i e1;simp only[V.frz1,if_neg (Ll e1)];rfl
 |ptrA i v x'=>
  simp only[E3]
  show _=V.frz1 id ⟨ver,cs.length,[cs.map (SV.toV U)]⟩ (.ptr i v 0 x'.toNat);split
  ·rename_i e1
   have e1:=A7 e1;subst e1;split
   ·rename_i e2
    have e2:=A7 e2;subst e2;simp only[V.frz1,if_true,h1,and_self,hsh,hlen];rfl
   ·rename_i e2
    have:=Ll e2;simp only[V.frz1,if_true];rw[if_neg (fun h=>this h.1.symm)];rfl
  ·rename_i e1;simp only[V.frz1,if_neg (Ll e1)];rfl
 |fn f caps rs=>
  simp only[E3]
  show V.fn f _=V.fn f _
  congr 1
  rw[Fv,Cq,Cq]
  congr 1
  refine Er fun c hc=> ?_
  have:Nat.beq c.1 id=false:=by
   have h:(!caps.any fun c=>Nat.beq c.1 id)=true:=hf;simp only[Zu]at h;exact Bool.eq_false_iff.2 fun e2=>by
    have:=List.any_eq_true (p:=fun c:Nat×Nat=>Nat.beq c.1 id).2 ⟨c,hc,e2⟩;rw[h]at this;cases this
  show _=V.frz1 id _ (.ptr c.1 c.2 0 0);simp only[V.frz1,if_neg (Ll this)]
 |_=>rfl
theorem Jg{id ver t:Nat}{x:U.D t}{v:SV U.D}(hv:v.ok S τ):(E3 U id ver t x v).ok S τ:=by
 cases v with
 |own i v n=>
  simp only[E3];split
  ·split<;>trivial
  ·exact hv
 |part i v lo hi=>
  simp only[E3];split
  ·split<;>trivial
  ·exact hv
 |ptrE i v g x j=>
  simp only[E3];split
  ·trivial
  ·exact hv
 |ptr i v j=>
  simp only[E3];split
  ·split<;>trivial
  ·trivial
 |ptrA i v x=>
  simp only[E3];split
  ·split<;>trivial
  ·trivial
 |_=>exact hv
theorem Ajn (hU:Ab U){id ver t:Nat}{cs0:List (SV U.D)}{x:U.D t}(hB:S.blk id=some (.box ver cs0))(hx:(cs0.map (Uq U)).map (SV.toV U)=U.en t x)(hcs:cs0.all SV.shut=true){cs:List (SV U.D)}(h: ∀y∈cs,y.ok S τ)(hf:cs.all (Ri U id)=true):
  (cs.map (E3 U id ver t x)).map (SV.toV U)=(cs.map (SV.toV U)).map (V.frz id ⟨ver,cs0.length,[cs0.map (SV.toV U)]⟩):=by
 rw[Cq,Cq];exact Er fun y hy=>Ahj hU hB hx hcs (h y hy) (Z1.1 hf y hy)
theorem Amf{l:List V}(h:l.all V.closed=true)(id:Nat)(B:Blk):l.map (V.frz id B)=l:=by
 refine(Er fun v hv=> ?_).trans (List.map_id _);exact Kk (Z1.1 h v hv) id B
theorem Ajo (hU:Ab U){id ver t:Nat}{cs0:List (SV U.D)}{x:U.D t}(hB:S.blk id=some (.box ver cs0))(hx:(cs0.map (Uq U)).map (SV.toV U)=U.en t x)(hcs:cs0.all SV.shut=true){B:SB U.D}(h:B.ok S τ)(hf:Ut U id (some B)=true):
  (F9 U id ver t x B).toB U=⟨(B.toB U).ver,(B.toB U).es,(B.toB U).xs.map fun y=>y.map (V.frz id ⟨ver,cs0.length,[cs0.map (SV.toV U)]⟩)⟩:=by
 have rows: ∀(t':Nat) (d':Bool) (l':List (U.D t')),(l'.map (U.eT d' t')).map (fun y=>y.map (V.frz id ⟨ver,cs0.length,[cs0.map (SV.toV U)]⟩))=l'.map (U.eT d' t'):=by
  intro t' d' l';rw[Cq];exact Er fun a _=>Amf ((hU.eT d' t').2 a) _ _
 cases B with
 |rows v t' d' c' l'=>simp only[F9,SB.toB,rows]
 |box v cs=>
  simp only[F9,SB.toB,Bu,Z8,Gk];rw[Ajn hU hB hx hcs h hf]
 |arr v n t' l'=>
  simp only[F9,SB.toB,Z8,Gk];rw[Amf];refine Z1.2 fun v hv=> ?_;obtain⟨x,h1,h2⟩:=List.mem_flatten.1 hv;obtain⟨a,_,rfl⟩:=D9.1 h1;exact Z1.1 ((hU.en t').closed a) v h2
 |opn v t' d' q l' g i cs=>
  simp only[F9,SB.toB,List.map_set,rows];rw[Ajn hU hB hx hcs h.2.2.1 hf]
theorem Sk{id ver t:Nat}{x:U.D t}(B:SB U.D):(F9 U id ver t x B).ver=B.ver∧(F9 U id ver t x B).len=B.len∧((F9 U id ver t x B).clean=true->B=F9 U id ver t x B):=by
 cases B with
 |rows=>exact⟨rfl,rfl,fun _=>rfl⟩
 |box=>exact⟨rfl,rfl,fun h=>by cases h⟩
 |arr=>exact⟨rfl,rfl,fun h=>by cases h⟩
 |opn=>exact⟨rfl,rfl,fun h=>by cases h⟩
theorem Y1 (hU:Ab U)(hw:A5 S τ){id t:Nat}(h:Uu U S id t=some S'):Do F (S.toSt U) (S'.toSt U)∧A5 S' τ:=by
 unfold Uu at h;split at h
 ·rename_i ver cs0 hB;split at h
  ·rename_i x hc hfold;simp only[Z4]at hc;obtain⟨⟨hcs,hfe⟩,hfh⟩:=hc
   have hx:=hU.fS t _ x hfold;cases h
   have hblk: ∀i,(⟨S.env.map fun p=>(p.1,Ya U id ver t x p.2),(id,none)::S.H.map fun p=>(p.1,p.2.map (F9 U id ver t x)),S.nv,S.ctr⟩:SS U.D).blk i=if i=id then none else(S.blk i).map (F9 U id ver t x):=by
    intro i;rw[Ro];split
    ·rfl
    ·simp only[SS.blk,G6];cases lk S.H i with
     |none=>rfl
     |some b=>rfl
   have henv: ∀x v,lk S.env x=some v->Us U id v=true:=fun x v h=>Z1.1 hfe _ (Acu h)
   have hH: ∀i B,S.blk i=some B->Ut U id (some B)=true:=fun i B h=>by
    have h':=h;unfold SS.blk at h';split at h'
    ·rename_i b e;subst h';exact Z1.1 hfh _ (Acu e)
    ·cases h'
   refine⟨?_,?_⟩
   ·rintro a w ⟨hd,hsz,σ,β,hs⟩
    have hcl:allClosed ⟨ver,cs0.length,[cs0.map (SV.toV U)]⟩=true:=by
     simp only[allClosed,Fw,List.all_nil,Bool.and_true,List.all_map];exact Z1.2 fun c hc=>Q33 hU (Z1.1 hcs c hc)
    have h2:=hs.frz (B:=⟨ver,cs0.length,[cs0.map (SV.toV U)]⟩) (id:=id) (Ac hB) hcl;refine⟨hd,hsz,_,_,Aq.cast ?_ h2⟩;refine St.Sim.eq ⟨fun y=> ?_,fun i=> ?_,fun i=>rfl⟩
    ·have hy:=hw.get y
     have e0:(⟨S.env.map fun p=>(p.1,Ya U id ver t x p.2),(id,none)::S.H.map fun p=>(p.1,p.2.map (F9 U id ver t x)),S.nv,S.ctr⟩:SS U.D).get y=((lk S.env y).map (Ya U id ver t x)).getD (.c .undef):=by
      simp only[SS.get,G6];cases lk S.env y<;>rfl
     have e1:S.get y=(lk S.env y).getD (.c .undef):=by
      simp only[SS.get];cases lk S.env y<;>rfl
     refine Eq.trans ?_ (congrArg (SA.toA U) e0).symm
     show((S.get y).toA U).frz id _=_;rw[e1]at hy ⊢;cases e:lk S.env y with
     |none=>rfl
     |some v=>
      rw[e]at hy
      have hf:=henv y v e;cases v with
      |c v=>show A.c _=A.c _;rw[Ahj hU hB hx hcs hy (by simpa[Us,SA.cells]using hf)]
      |g cs=>show A.g _=A.g _;rw[Ajn hU hB hx hcs hy hf]
      |t xs=>rfl
    ·show(if i=id then none else((S.blk i).map (SB.toB U)).map _)=_
     refine Eq.trans ?_ (congrArg (Option.map (SB.toB U)) (hblk i)).symm;split
     ·rfl
     ·cases e:S.blk i with
      |none=>rfl
      |some B=>
       simp only[Hf,Ajo hU hB hx hcs (hw.2.2 i B e).2 (hH i B e)]
   ·have hev:G4 S (⟨S.env.map fun p=>(p.1,Ya U id ver t x p.2),(id,none)::S.H.map fun p=>(p.1,p.2.map (F9 U id ver t x)),S.nv,S.ctr⟩:SS U.D):=by
     refine⟨Z9 _,fun _=>Z9 _,fun i C hC _=> ?_⟩;rw[hblk]at hC;split at hC
     ·cases hC
     ·obtain⟨B,h1,rfl⟩:=Z5.1 hC;obtain⟨k1,k2,k3⟩:=Sk (U:=U) (id:=id) (ver:=ver) (x:=x) B;exact⟨B,h1,k1.symm,k2.symm,k3⟩
    refine⟨hw.1,fun y v hy=> ?_,fun i C hC=> ?_⟩
    ·have hy:lk (S.env.map fun p=>(p.1,Ya U id ver t x p.2)) y=some v:=hy;rw[G6]at hy;obtain⟨v0,h1,rfl⟩:=Z5.1 hy
     have h0:=hw.2.1 y v0 h1;refine SA.ok.mono (S:=S) ?_ hev;cases v0 with
     |c v=>exact Jg h0
     |g cs=>
      intro c hc;obtain⟨c0,h1,rfl⟩:=D9.1 hc;exact Jg (h0 c0 h1)
     |t xs=>trivial
    ·rw[hblk]at hC;split at hC
     ·cases hC
     ·obtain⟨B,h1,rfl⟩:=Z5.1 hC;obtain⟨h2,h3⟩:=hw.2.2 i B h1;refine⟨by rw[(Sk B).1];exact h2,SB.ok.mono (S:=S) ?_ hev⟩
      cases B with
      |box v cs=>
       intro c hc;obtain⟨c0,h1,rfl⟩:=D9.1 hc;exact Jg (h3 c0 h1)
      |opn v t' d' q l' g i' cs=>
       refine⟨h3.1,h3.2.1,fun c hc=> ?_,by rw[Bu];exact h3.2.2.2.1,fun h=>by cases h⟩
       obtain⟨c0,h1,rfl⟩:=D9.1 hc;exact Jg (h3.2.2.1 c0 h1)
      |_=>trivial
  ·cases h
 ·cases h
theorem Cmd.run_ok (hU:Ab U)(he:F2 F T)(hw:A5 S τ){c:Cmd}(h:c.run U T S k=some r): ∃S',k S'=some r∧Go1 F S S':=by
 cases c with
 |take id j nid=>exact Af7 he hw h
 |opn id ix=>exact Af8 hU hw h
 |opp id x=>exact Af9 hU hw h
 |takeE id j nid=>exact Acp he hw h
 |put id=>
  simp only[Cmd.run]at h;split at h
  ·rename_i S1 e1;obtain⟨g1,g2⟩:=Yz hU he hw e1;exact⟨S1,h,g1,τ,g2⟩
  ·cases h
 |frz id=>
  simp only[Cmd.run]at h;split at h
  ·rename_i S1 e1;obtain⟨g1,g2⟩:=Ms (F:=F) hU hw e1;exact⟨S1,h,g1,τ,g2⟩
  ·cases h
 |putc id j=>
  simp only[Cmd.run]at h;split at h
  ·rename_i ver cs e1
   have hok:=(hw.2.2 id _ e1).2;split at h
   ·rename_i nid nver n e2;split at h
    ·rename_i nver' t d cl l e3;split at h
     ·rename_i e4;simp only[Z4,Zu]at e4;obtain⟨⟨q1,q2⟩,q3⟩:=e4
      have q1:=A7 q1;subst q1
      have hne:=Ll q3
      have hn:n=l.length:=(hok _ (Z6 e2)).2 _ e3 rfl;refine⟨_,h,?_,τ,Pc hw e1 rfl rfl rfl (fun c hc=> ?_)⟩
      ·rintro a w ⟨hd,hsz,σ,β,hs⟩;obtain⟨σ',hs'⟩:=hs.putN (k:=0) (j:=j) (nid:=nid) (nver:=nver') (e:=U.sz t) (ys:=l.map (U.eT d t)) (x:=cs.map (SV.toV U)) (Ac e1) rfl (by rw[B5,e2];simp only[Hf,SV.toV,Bu,hn]) (Ac e3) (Q42 hU d t nver' l) hne (G5 he q2)
       refine⟨hd,hsz,σ',β,Aq.cast ?_ hs'⟩;refine St.Sim.eq ⟨fun t=>rfl,fun i=> ?_,fun i=>rfl⟩
       show Aa (Aa (S.toSt U).H nid none) id _ i=Option.map (SB.toB U) ((Gw U S (([nid].map fun i=>(i,none))++[(id,some (.box ver (cs.set j (.rowT t d l))))])).blk i);rw[Q80];simp only[Mx]
       by_cases g1:i=nid
       ·subst g1;rw[if_pos rfl,Q0 _ _ (Ne.symm hne),Q1];rfl
       ·rw[if_neg g1]
        by_cases g2:i=id
        ·subst g2;rw[if_pos rfl,Q1,Hf];simp only[SB.toB,Z49,List.map_set];rfl
        ·rw[if_neg g2,Q0 _ _ g2,Q0 _ _ g1];rfl
      ·rcases Z54 hc with hc|rfl
       ·exact hok c hc
       ·trivial
     ·cases h
    ·cases h
   ·exact⟨S,h,Do.refl _,τ,hw⟩
   ·cases h
  ·cases h
 |frzB id t=>
  simp only[Cmd.run]at h;split at h
  ·rename_i S1 e1;obtain⟨g1,g2⟩:=Y1 (F:=F) hU hw e1;exact⟨S1,h,g1,τ,g2⟩
  ·cases h
 |frzT x=>
  simp only[Cmd.run]at h;split at h
  ·rename_i S1 e1;obtain⟨g1,g2⟩:=Y0 (F:=F) hU _ hw e1;exact⟨S1,h,g1,τ,g2⟩
  ·cases h
 |shal id=>
  simp only[Cmd.run]at h;split at h
  ·rename_i ver t c l e1;split at h
   ·exact⟨S,h,Do.refl _,τ,hw⟩
   ·refine⟨_,h,Vc (fun _=>true) e1 (Q42 hU true t ver l) ?_,τ,hw.upH1 e1 rfl rfl rfl trivial⟩
    show Blk.mk _ _ (l.map (U.en t))=Blk.mk _ _ (Dv _ (l.map (U.eT true t)));rw[Kg,Aja hU];rfl
  ·exact⟨S,h,Do.refl _,τ,hw⟩
  ·cases h
 |nilO x nid=>
  simp only[Cmd.run]at h;split at h
  ·rename_i t d e1;split at h
   ·rename_i e2;refine⟨_,h,?_,τ,hw.new (dst:=some x) (use:=[]) (ids:=[]) (id:=nid) (B:= .rows (S.ver nid) t d false []) rfl (Q39 rfl) trivial⟩;rintro a w ⟨hd,hsz,σ,β,hs⟩
    have:=hs.ownNil (t:=x) (es:=U.sz t) (id:=nid) (by show(S.get x).toA U=_;rw[e1];rfl) (G5 he e2)
    refine⟨hd,hsz,_,_,Aq.cast ?_ this⟩;exact(Acs (S:=S) (x:=x) (id:=nid) (v:= .c (.own nid (S.ver nid) 0)) (B:= .rows (S.ver nid) t d false [])).symm
   ·cases h
  ·exact⟨S,h,Do.refl _,τ,hw⟩
  ·cases h
 |nilG x j nid=>
  simp only[Cmd.run]at h;split at h
  ·rename_i cs e1;split at h
   ·rename_i t d e0;split at h
    ·rename_i e2
     have hok:=hw.get x;rw[e1]at hok;refine⟨_,h,?_,τ,hw.new (dst:=some x) (use:=[]) (ids:=[]) (id:=nid) (v:= .g (cs.set j (.own nid (S.ver nid) 0))) (B:= .rows (S.ver nid) t d false []) rfl (fun c hc=> ?_) trivial⟩
     ·rintro a w ⟨hd,hsz,σ,β,hs⟩
      have:=hs.ownNilG (t:=x) (es:=U.sz t) (id:=nid) (cs:=cs.map (SV.toV U)) (j:=j) (by show(S.get x).toA U=_;rw[e1];rfl) (by rw[B5,e0];rfl) (G5 he e2)
      refine⟨hd,hsz,_,_,Aq.cast ?_ this⟩;refine Eq.trans ?_ (Acs (S:=S) (x:=x) (id:=nid) (v:= .g (cs.set j (.own nid (S.ver nid) 0))) (B:= .rows (S.ver nid) t d false [])).symm
      show(⟨Aa _ _ (A.g ((cs.map (SV.toV U)).set j _)),_,_⟩:St)=⟨Aa _ _ (A.g ((cs.set j _).map (SV.toV U))),_,_⟩;rw[List.map_set];rfl
     ·rcases Z54 hc with hc|rfl
      ·exact(hok c hc).mono (Wq rfl)
      ·exact Q39 (τ:=τ) (n:=0) rfl
    ·cases h
   ·cases h
  ·cases h
 |cold x=>
  simp only[Cmd.run]at h
  have hok:=hw.get x;split at h
  ·rename_i v e1;rw[e1]at hok;refine⟨_,h,W6 ?_,τ,hw.upE x (v:= .c (Dy U v)) (Si hok)⟩;rw[e1];show A.c _=A.c _;rw[Jf]
  ·rename_i cs e1;rw[e1]at hok;refine⟨_,h,W6 ?_,τ,hw.upE x (v:= .g (cs.map (Dy U))) (fun c hc=> ?_)⟩
   ·rw[e1];show A.g _=A.g _;rw[Cq,Cq]
    congr 1
    exact Er fun c _=>Jf c
   ·obtain⟨c0,h1,rfl⟩:=D9.1 hc;exact Si (hok c0 h1)
  ·exact⟨S,h,Do.refl _,τ,hw⟩
 |cut x=>
  simp only[Cmd.run]at h;split at h
  ·rename_i id ver lo hi e1
   have hok:=hw.get x;rw[e1]at hok;split at h
   ·rename_i ver' t d c l e2;split at h
    ·rename_i e3
     have e3:=A7 e3;subst e3;obtain⟨h1,h2,h3⟩:=hok.2 _ e2 rfl
     have h3:hi≤(l.length:Int):=h3;refine⟨_,h,?_,τ,hw.new (dst:=some x) (use:=[]) (ids:=[]) (id:=id) (B:= .rows (S.ver id) t d false (l.take hi.toNat)) rfl (Q39 rfl) trivial⟩;rintro a w ⟨hd,hsz,σ,β,hs⟩
     have:=hs.cut (t:=x) (id:=id) (ver:=ver) (k:=hi.toNat) (by show(S.get x).toA U=_;rw[e1];show A.c (.own id ver _ (hi - 0).toNat)=_;rw[Int.sub_zero];rfl) (Ac e2) (by rw[Bu];omega)
     refine⟨hd,hsz,_,_,Aq.cast ?_ this⟩;refine Eq.trans ?_ (Acs (S:=S) (x:=x) (id:=id) (v:= .c (.own id (S.ver id) (l.take hi.toNat).length)) (B:= .rows (S.ver id) t d false (l.take hi.toNat))).symm
     have hlen:(l.take hi.toNat).length=hi.toNat:=by rw[List.length_take];omega
     simp only[SB.toB,SA.toA,SV.toV,hlen,List.map_take];rfl
    ·cases h
   ·cases h
  ·exact⟨S,h,Do.refl _,τ,hw⟩
  ·cases h
 |len x=>
  simp only[Cmd.run]at h;split at h
  ·rename_i id ver n e1
   have hok:=hw.get x;rw[e1]at hok;split at h
   ·rename_i ver' t d c l e2;split at h
    ·rename_i e3
     have e3:=A7 e3;subst e3
     have hn:n=l.length:=hok.2 _ e2 rfl;subst hn;refine⟨_,h,?_,τ,hw.upE x hok⟩
     have:(upE U S x (.c (.own id ver l.length))).toSt U=S.toSt U:=by
      rw[Sj];refine St.Sim.eq ⟨fun t'=> ?_,fun i=>rfl,fun i=>rfl⟩
      show Aa (S.toSt U).env x _ t'=_
      by_cases e:t'=x
      ·subst e;rw[Q1];show _=(S.get t').toA U;rw[e1]
      ·rw[Q0 _ _ e]
     rw[this];exact Do.refl _
    ·cases h
   ·cases h
  ·exact⟨S,h,Do.refl _,τ,hw⟩
 |share id=>
  simp only[Cmd.run]at h;split at h
  ·rename_i ver cs e1;split at h
   ·rename_i e2
    have hcs:=(hw.2.2 id _ e1).2;refine⟨_,h,Vc (fun _=>true) e1 ?_ ?_,τ,hw.upH1 e1 rfl rfl rfl fun c hc=> ?_⟩
    ·simp only[allClosed,SB.toB,Fw,List.all_nil,Bool.and_true,List.all_map];exact Z1.2 fun c hc=>Q33 hU (Z1.1 e2 c hc)
    ·simp only[SB.toB,Bu]
     show Blk.mk _ _ _=Blk.mk _ _ _
     congr 1
     rw[Kg,Q13,Z8,Gk,Cq,Cq]
     congr 1
     exact Er fun c hc=>Ki hU (Z1.1 e2 c hc)
    ·obtain⟨c0,h1,rfl⟩:=D9.1 hc;cases c0 with
     |rowT t d l=>trivial
     |_=>exact hcs _ h1
   ·cases h
  ·cases h
theorem Q83 (hU:Ab U)(he:F2 F T): ∀(l:List Cmd) {S:SS U.D} {k:SS U.D->Option α},WF S->Q74 U T S k l=some r-> ∃S',k S'=some r∧Go1 F S S':=by
 intro l
 induction l with
 |nil=>intro S k hw h;exact⟨S,h,Do.refl _,hw⟩
 |cons c l ih=>
  intro S k hw h;obtain⟨τ,hw⟩:=hw;obtain⟨S1,h1,g1,g2⟩:=Cmd.run_ok hU he hw (k:=fun S'=>Q74 U T S' k l) h;obtain⟨S2,h2,k1,k2⟩:=ih g2 h1;exact⟨S2,h2,g1.trans k1,k2⟩
end
end Go.Eng
namespace Go.Eng
section
variable {U:Un} {T:Tab} {F:Fr} {S S':SS U.D} {α:Type} {r:α} {X:Ox U α}
theorem Km{spl:List Nat}{dst:Option Tmp}{rec:Aj U.D}{k:Aj U.D->Option α}(h:Nt U spl dst rec k=some r):k rec=some r:=by
 unfold Nt at h;split at h
 ·rename_i d e hv;split at h
  ·cases e with
   |true=>
    have:rec={rec with v:= .c (.bool true)}:=by cases rec;simp only at hv;subst hv;rfl
    rw[this];exact h
   |false=>
    have:rec={rec with v:= .c (.bool false)}:=by cases rec;simp only at hv;subst hv;rfl
    rw[this];exact h
  ·exact h
 ·exact h
theorem Mt (hU:Ab U)(he:F2 F T){draw:Bool}{dst:Option Tmp}{k:SS U.D->Option α}(hw:WF S)(h:Nu U T X draw dst S k=some r): ∃S',k S'=some r∧Go1 F S S'∧(draw=true->S'=S):=by
 unfold Nu at h;split at h
 ·obtain⟨S',h1,h2⟩:=Q83 hU he _ hw h;exact⟨S',h1,h2,fun h=>by cases h⟩
 ·exact⟨S,h,⟨Do.refl _,hw⟩,fun _=>rfl⟩
theorem Y2{a b:Option α}(h:Afh a b=some r):a=some r∧b=some r:=by
 by_cases e:a=b
 ·have:Afh a b=a:= @if_pos _ (Classical.propDecidable _) e _ a none;rw[this]at h;exact⟨h,e ▸ h⟩
 ·have:Afh a b=none:= @if_neg _ (Classical.propDecidable _) e _ a none;rw[this]at h;cases h
theorem Kn{draw:Bool}{o:Oper}{e:Bool}(h:Jy U T draw S o=some e):
  draw=false∧o.guard=none∧ ∃(t:Nat) (x:Operand) (ty q:Nat) (l:List (U.D q)) (ti:TI) (el:Nat),o.op= .binOp .eql t x (.const (.slice none 0 0)) ty∧S.val T 0 x= .c (.row q l)∧tg T t=some ti∧ti.k= .slice el∧e=l.isEmpty:=by
 unfold Jy at h;split at h
 ·rename_i t x ty hg ho;split at h
  ·rename_i q l ti hx ht;split at h
   ·rename_i el hk;cases h;exact⟨rfl,hg,t,x,ty,q,l,ti,el,ho,hx,ht,hk,rfl⟩
   ·cases h
  ·cases h
 ·cases h
theorem Acv{draw:Bool}{ops:Array Oper}{o:Oper}{l:List Oper}{fps:List FP}{k:SS U.D->Option α}{e:Bool}(hn:Jy U T draw S o=some e)(h:Eu U T X draw ops (o::l) S fps k=some r):
  (∀d,o.dst=some d->d<X.N)∧ ∀b:Bool,(b=true->e=true)->Eu U T X draw ops l (S.app o.dst {v:= .c (.bool b)}) (([],[],[])::fps) k=some r:=by
 unfold Eu at h;split at h
 ·rename_i hd;refine⟨fun d e=> ?_,?_⟩
  ·rw[e]at hd;exact Ep hd
  ·rw[hn]at h;simp only at h;cases e with
   |true=>
    obtain⟨h1,h2⟩:=Y2 h;intro b _;cases b with
    |true=>exact h1
    |false=>exact h2
   |false=>
    intro b hb;cases b with
    |true=>cases hb rfl
    |false=>exact h
 ·cases h
theorem Sl (hU:Ab U)(he:F2 F T)(hX:N8 U T F.P X)(hw:WF S){draw:Bool}{ops:Array Oper}{o:Oper}{l:List Oper}{fps:List FP}{k:SS U.D->Option α}(hn:Jy U T draw S o=none)(h:Eu U T X draw ops (o::l) S fps k=some r):
  (∀d,o.dst=some d->d<X.N)∧ ∃(rec:Aj U.D) (us:List Tmp) (S1:SS U.D),Eu U T X draw ops l S1 ((us++rec.use,rec.fp.2)::fps) k=some r∧Go1 F (S.app o.dst rec) S1∧(draw=true->S1=S.app o.dst rec)∧
   ((o.guard=none∧us=[]∧Ca F T o (S.toSt U) (rec.toRec U))∨
    (∃j b d,o.guard=some (j,b)∧Tl ops j=some d∧((us=[d]∧(S.toSt U).env d= .c (.bool b)∧Ca F T o (S.toSt U) (rec.toRec U))∨
     (us=[]∧rec={v:= .c .skip,use:=[d]}∧((∃c,(S.toSt U).env d= .c (.bool c)∧(c==b)=false)∨(S.toSt U).env d= .c .skip))))):=by
 obtain⟨τ,hw⟩:=hw;unfold Eu at h;split at h
 ·rename_i hd;refine⟨fun d e=> ?_,?_⟩
  ·rw[e]at hd;exact Ep hd
  ·rw[hn]at h;simp only at h;split at h
   ·rename_i hg;obtain⟨rec,h1,h2,h3⟩:=Acm hU hw hX h;obtain⟨S1,h4,h5,h6⟩:=Mt hU he ⟨τ,h3⟩ (Km h1);exact⟨rec,[],S1,h4,h5,h6,.inl ⟨hg,rfl,h2⟩⟩
   ·rename_i j b hg;split at h
    ·rename_i d hgt;split at h
     ·rename_i c hc
      have hcv:(S.toSt U).env d= .c (.bool c):=by show(S.get d).toA U=_;rw[hc];rfl
      split at h
      ·rename_i hcb;obtain⟨rec,h1,h2,h3⟩:=Acm hU hw hX h;obtain⟨S1,h4,h5,h6⟩:=Mt hU he ⟨τ,h3⟩ (Km h1);exact⟨rec,[d],S1,h4,h5,h6,.inr ⟨j,b,d,hg,hgt,.inl ⟨rfl,by rw[hcv,eq_of_beq hcb],h2⟩⟩⟩
      ·rename_i hcb;exact⟨{v:= .c .skip,use:=[d]},[],_,h,⟨Do.refl _,τ,hw.pure trivial⟩,fun _=>rfl,.inr ⟨j,b,d,hg,hgt,.inr ⟨rfl,rfl,.inl ⟨c,hcv,hcb⟩⟩⟩⟩
     ·rename_i hc;exact⟨{v:= .c .skip,use:=[d]},[],_,h,⟨Do.refl _,τ,hw.pure trivial⟩,fun _=>rfl,.inr ⟨j,b,d,hg,hgt,.inr ⟨rfl,rfl,.inr (by show(S.get d).toA U=_;rw[hc];rfl)⟩⟩⟩
     ·cases h
    ·cases h
 ·cases h
theorem Aow{ops:Array Oper}{i:Nat}{S S':St}{l:List Oper}{Q:Exit->St->Prop}(h:Do F S S')(k:VW F T ops i S' l Q):VW F T ops i S l Q:=fun he hf hl a w hs=>k he hf hl a w (h a w hs)
theorem Agb (hU:Ab U)(he:F2 F T)(hX:N8 U T F.P X){ops:Array Oper}{k:SS U.D->Option α}{Q:Exit->St->Prop}(hQ: ∀S',k S'=some r->WF S'->Q .normal (S'.toSt U)):
  ∀(l:List Oper) (S:SS U.D) (fps:List FP) (i:Nat),WF S->Eu U T X false ops l S fps k=some r->VW F T ops i (S.toSt U) l Q∧ ∀o∈l,∀d,o.dst=some d->d<X.N:=by
 intro l
 induction l with
 |nil=>intro S fps i hw h;exact⟨ve (hQ S h hw),fun o ho=>by cases ho⟩
 |cons o l ih=>
  intro S fps i hw h;cases hn:Jy U T false S o with
  |some e=>
   obtain⟨hd,hk⟩:=Acv hn h;obtain⟨_,hg,t,x,ty,q,lx,ti,el,ho,hx,ht,hkk,rfl⟩:=Kn hn
   have hwb: ∀b:Bool,WF (S.app o.dst {v:= .c (.bool b)}):=fun b=>by obtain⟨τ,hw⟩:=hw;exact⟨τ,hw.pure trivial⟩
   refine⟨vN ho (Ja hx) ht hkk hg fun b hb=> ?_,fun o' ho'=> ?_⟩
   ·have:=(ih _ _ (i+1) (hwb b) (hk b fun e=>by simpa using hb e)).1
    rw[Q81]at this;exact this
   ·rcases Di.1 ho' with rfl|ho'
    ·exact hd
    ·exact(ih _ _ (i+1) (hwb false) (hk false fun e=>by cases e)).2 o' ho'
  |none=>
  obtain⟨hd,rec,us,S1,h1,⟨hwk,hw1⟩,_,h3⟩:=Sl hU he hX hw hn h;obtain⟨g1,g2⟩:=ih S1 _ (i+1) hw1 h1
  have g1:=Aow hwk g1;rw[Q81]at g1;refine⟨?_,fun o' ho=> ?_⟩
  ·rcases h3 with ⟨hg,rfl,hst⟩|⟨j,b,d,hg,hgt,⟨rfl,hv,hst⟩|⟨rfl,rfl,⟨c,hv,hne⟩|hv⟩⟩
   ·exact v0 hst hg g1
   ·exact u0 hst hg hgt hv g1
   ·exact uP hg hgt hv hne g1
   ·exact uS hg hgt hv g1
  ·rcases Di.1 ho with rfl|ho
   ·exact hd
   ·exact g2 o' ho
def fpR (r:Rec):FP:=(r.use,r.ids,Gn r)
theorem Acw (ops:Array Oper)(rs:List Rec):Jx ops (rs.map fpR)=Qh ops rs:=by
 unfold Jx Qh
 congr 1
 funext j
 congr 1
 funext i
 rw[B5,B5];cases rs[i]? <;>cases rs[j]? <;>rfl
theorem VT.mono{ops:Array Oper}{i:Nat}{S:St}{l:List Oper}{K K':List Rec->St->Prop}(h:VT F T ops i S l K)(hk: ∀rs S',K rs S'->K' rs S'):VT F T ops i S l K':=fun he hf hl=>by
 obtain⟨rs,S',t,h2⟩:=h he hf hl;exact⟨rs,S',t,hk rs S' h2⟩
theorem Agc (hU:Ab U)(he:F2 F T)(hX:N8 U T F.P X){ops:Array Oper}{k:SS U.D->Option α}:
  ∀(l:List Oper) (S:SS U.D) (fps:List FP) (i:Nat),WF S->Eu U T X true ops l S fps k=some r→
   VT F T ops i (S.toSt U) l (fun rs S'=> ∃S1:SS U.D,S'=S1.toSt U∧WF S1∧k S1=some r∧Jx ops (fps.reverse++rs.map fpR)=true)∧ ∀o∈l,∀d,o.dst=some d->d<X.N:=by
 intro l
 induction l with
 |nil=>
  intro S fps i hw h;refine⟨ge ?_,fun o ho=>by cases ho⟩
  unfold Eu at h;simp only at h;split at h
  ·rename_i hc;exact⟨S,rfl,hw,h,by simpa using hc⟩
  ·cases h
 |cons o l ih=>
  intro S fps i hw h;obtain⟨hd,rec,us,S1,h1,⟨hwk,hw1⟩,hS1,h3⟩:=Sl hU he hX hw (by cases hn:Jy U T true S o with|none=>rfl|some e=>cases (Kn hn).1) h
  have hS1:=hS1 rfl;subst hS1;obtain⟨g1,g2⟩:=ih _ _ (i+1) hw1 h1;rw[Q81]at g1
  have hfp:fpR {rec.toRec U with use:=us++rec.use}=(us++rec.use,rec.fp.2):=by
   show(us++rec.use,rec.ids,Gn (rec.toRec U))=_
   have:Gn (rec.toRec U)=rec.upd.map (·.1)++rec.bump:=by
    show(rec.upd.map _).map _++rec.bump=_;rw[Cq];rfl
   rw[this];rfl
  have hK: ∀rs S',(∃S1:SS U.D,S'=S1.toSt U∧WF S1∧k S1=some r∧Jx ops (((us++rec.use,rec.fp.2)::fps).reverse++rs.map fpR)=true)→
    (∃S1:SS U.D,S'=S1.toSt U∧WF S1∧k S1=some r∧Jx ops (fps.reverse++({rec.toRec U with use:=us++rec.use}::rs).map fpR)=true):=by
   rintro rs S' ⟨S1,k1,k2,k3,k4⟩;refine⟨S1,k1,k2,k3,?_⟩;rw[List.reverse_cons,Lc]at k4;rw[Z8,hfp];exact k4
  have g1:=g1.mono hK;refine⟨?_,fun o' ho=> ?_⟩
  ·rcases h3 with ⟨hg,rfl,hst⟩|⟨j,b,d,hg,hgt,⟨rfl,hv,hst⟩|⟨rfl,rfl,⟨c,hv,hne⟩|hv⟩⟩
   ·exact g0 hst hg g1
   ·exact q0 hst hg hgt hv g1
   ·exact qP hg hgt hv hne g1
   ·exact qS hg hgt hv g1
  ·rcases Di.1 ho with rfl|ho
   ·exact hd
   ·exact g2 o' ho
theorem Sm{N:Nat}{l:List Oper}(h: ∀o∈l,∀d,o.dst=some d->d<N):Wc N l=true:=by
 refine Z1.2 fun o ho=> ?_;cases e:o.dst with
 |none=>rfl
 |some d=>simpa using h o ho d e
theorem W.weakF{c:Code}{S S':St}{Q:Exit->St->Prop}(h:Do F S S')(k:W F c S' Q):W F c S Q:=fun a w hs=>k a w (h a w hs)
theorem Y3 (hU:Ab U)(he:F2 F T)(hX:N8 U T F.P X)(hN:F.N=X.N)(hm:F.P.follows .mixedOrders=true){id:Nat}{ops:Array Oper}{draw:Bool}{k:SS U.D->Option α}{Q:Exit->St->Prop}(hQ: ∀S',k S'=some r->WF S'->Q .normal (S'.toSt U))(hw:WF S)(hdn:(!draw||Gp ops)=true)
  (h:Eu U T X draw ops ops.toList S [] k=some r):W F (.region id ops draw) (S.toSt U) Q:=by
 cases draw with
 |false=>
  obtain⟨g1,g2⟩:=Agb hU he hX hQ ops.toList S [] 0 hw h
  have:=Ain (id:=id) (ops:=ops.toList) he (by rw[hN];exact Sm g2) (by simpa using g1)
  simpa using this
 |true=>
  obtain⟨g1,g2⟩:=Agc hU he hX ops.toList S [] 0 hw h
  have:=Aif (id:=id) (ops:=ops.toList) (Q:=Q) he (by rw[hN];exact Sm g2) hm (by simpa using hdn) (by
   refine VT.mono (K:=fun rs S'=> ∃S1:SS U.D,S'=S1.toSt U∧WF S1∧k S1=some r∧Jx ops (([]:List FP).reverse++rs.map fpR)=true) (by simpa using g1) ?_
   rintro rs S' ⟨S1,rfl,k2,k3,k4⟩;refine⟨?_,hQ S1 k3 k2⟩;rw[←Acw];simpa using k4)
  simpa using this
end
end Go.Eng
namespace Go.Eng
section
variable {U:Un} {T:Tab} {F:Fr} {S S':SS U.D} {α:Type} {r:α}
def Pe (l:List (Nat×SA U.D)):List (Nat×A):=l.map fun p=>(p.1,p.2.toA U)
theorem Acx (H:List (Nat×Option (SB U.D)))(nv:List (Nat×Nat))(c:Nat): ∀(l:List (Nat×SA U.D)) (t:Nat),((⟨l,H,nv,c⟩:SS U.D).get t).toA U=Lh (Pe l) t:=by
 intro l
 induction l with
 |nil=>intro t;rfl
 |cons x r ih=>
  intro t;obtain⟨k,v⟩:=x;rw[Kh]
  show _=if t=k then v.toA U else Lh (Pe r) t
  split
  ·rfl
  ·exact ih t
def Fa:List (Nat×Option (SB U.D))->List (Nat×Blk)
 |[]=>[]
 |(k,some B)::r=>(k,B.toB U)::Fa r
 |(k,none)::r=>Fa r
def W7 (l:List (Nat×Option (SB U.D))):Prop:= ∀p∈l,p.2.isSome=true
theorem Acy (e:List (Nat×SA U.D))(nv:List (Nat×Nat))(c:Nat): ∀(l:List (Nat×Option (SB U.D))) (i:Nat),W7 l->((⟨e,l,nv,c⟩:SS U.D).blk i).map (SB.toB U)=Jq (Fa l) i:=by
 intro l
 induction l with
 |nil=>intro i _;rfl
 |cons x r ih=>
  intro i h;obtain⟨k,b⟩:=x;cases b with
  |none=>have:=h (k,none) (by simp);cases this
  |some B=>
   rw[Ro]
   show _=if i=k then some (B.toB U)else Jq (Fa r) i
   split
   ·rfl
   ·exact ih i fun p hp=>h p (by simp[hp])
theorem Sn: ∀a b:List (Nat×Option (SB U.D)),Fa (a++b)=Fa a++Fa b:=by
 intro a b
 induction a with
 |nil=>rfl
 |cons x r ih=>
  obtain⟨k,b'⟩:=x;cases b' with
  |none=>exact ih
  |some B=>simp only[Qe,Fa,ih]
theorem Q70{l:List V}(h:l.all V.closed=true)(H:Nat->Option Blk):l.map (V.can H)=l:=
 (Er fun v hv=>Ail (Z1.1 h v hv)).trans (List.map_id _)
theorem Ko (hU:Ab U)(d:Bool)(t:Nat)(l:List (U.D t))(H:Nat->Option Blk):(l.map (U.eT d t)).map (fun x=>x.map (V.can H))=l.map (U.eT d t):=by
 rw[Cq];exact Er fun a _=>Q70 ((hU.eT d t).2 a) H
theorem Q73 (hU:Ab U){cs:List (SV U.D)}(h:cs.all SV.shut=true):(cs.map (SV.toV U)).all V.closed=true:=by
 rw[List.all_map];exact Z1.2 fun c hc=>Q33 hU (Z1.1 h c hc)
theorem Acz (hU:Ab U)(t:Nat)(a:U.D t)(H:Nat->Option Blk):((Fq U t a).toA U).can H=(Fq U t a).toA U:=by
 have hc:=Q73 hU (hU.csSh t a);unfold Fq;split
 ·show A.g _=A.g _;rw[Q70 hc]
 ·split
  ·rename_i v e;rw[e]at hc
   show A.c _=A.c _;rw[Ail (v:=v.toV U) (by simpa using hc)]
  ·rfl
theorem Agd (hU:Ab U){τ:Nat->Int}(t:Nat)(a:U.D t):(Fq U t a).ok S τ:=by
 have hk: ∀c∈U.cs t a,c.ok S τ:=fun c hc=>Q49 (Z1.1 (hU.csSh t a) c hc) (hU.cellsTag false t a c hc);unfold Fq;split
 ·exact hk
 ·split
  ·rename_i v e;rw[e]at hk;exact hk v (by simp)
  ·trivial
theorem Ve{W:List TC}{w:Option (Af U W)}{t:Nat}{l:List Rj}{cs0:List (SV U.D)}{q:Af U (Nv (.v t::l)++W)}(h:Du U S w (.v t::l) cs0=some q):
  ∃c cs,cs0=c::cs∧ ∃a,U.fS t [c]=some a∧ ∃q',Du U S w l cs=some q'∧q=(a,q'):=by
 cases cs0 with
 |nil=>exact absurd h (fun h=>by cases (show(none:Option (Af U (Nv (.v t::l)++W)))=some q from h))
 |cons c cs=>
  refine⟨c,cs,rfl,?_⟩
  have h:(match U.fS t [c],Du U S w l cs with
   |some a,some q'=>some ((a,q'):U.D t×Af U (Nv l++W))
   |_,_=>none)=some q:=h
  cases e1:U.fS t [c]with
  |none=>rw[e1]at h;cases h
  |some a=>
   cases e2:Du U S w l cs with
   |none=>rw[e1,e2]at h;cases h
   |some q'=>rw[e1,e2]at h;exact⟨a,rfl,q',rfl,(Gi h).symm⟩
theorem Vf{W:List TC}{w:Option (Af U W)}{e:Nat}{d:Bool}{l:List Rj}{cs0:List (SV U.D)}{q:Af U (Nv (.T e d::l)++W)}(h:Du U S w (.T e d::l) cs0=some q):
  ∃(l':List (U.D e)) (cs:List (SV U.D)),cs0= .rowT e d l'::cs∧ ∃q',Du U S w l cs=some q'∧q=(l',q'):=by
 have no:(none:Option (Af U (Nv (.T e d::l)++W)))=some q->False:=fun h=>by cases h
 cases cs0 with
 |nil=>exact(no h).elim
 |cons c cs=>
  cases c with
  |rowT e' d' l'=>
   have h:(match d'==d,decEq e' e,Du U S w l cs with
    |true,.isTrue h,some q'=>some ((h ▸ l',q'):List (U.D e)×Af U (Nv l++W))
    |_,_,_=>none)=some q:=h
   cases e1:d'==d with
   |false=>rw[e1]at h;cases h
   |true=>
    have hd:=eq_of_beq e1;subst hd;cases e2:decEq e' e with
    |isFalse hne=>rw[e1,e2]at h;cases h
    |isTrue he=>
     subst he;cases e3:Du U S w l cs with
     |none=>rw[e1,e2,e3]at h;cases h
     |some q'=>rw[e1,e2,e3]at h;exact⟨l',cs,rfl,q',e3,(Gi h).symm⟩
  |_=>exact(no h).elim
theorem Vg{W:List TC}{w:Option (Af U W)}{id:Nat}{l:List Rj}{cs0:List (SV U.D)}{q:Af U (Nv (.O id::l)++W)}(h:Du U S w (.O id::l) cs0=some q):
  ∃(n:Nat) (cs:List (SV U.D)) (B:SB U.D),S.blk id=some B∧cs0= .own id B.ver n::cs∧ ∃q',Du U S w l cs=some q'∧q=(n,q'):=by
 have no:(none:Option (Af U (Nv (.O id::l)++W)))=some q->False:=fun h=>by cases h
 cases cs0 with
 |nil=>exact(no h).elim
 |cons c cs=>
  cases c with
  |own id' ver n=>
   have h:(match S.blk id' with
    |some B=>match Nat.beq id id'&&Nat.beq ver B.ver,Du U S w l cs with
     |true,some q'=>some ((n,q'):Nat×Af U (Nv l++W))
     |_,_=>none
    |none=>none)=some q:=h
   split at h
   ·rename_i B e0;split at h
    ·rename_i q' e1 e3;simp only[Z4]at e1
     have h1:=A7 e1.1
     have h2:=A7 e1.2
     have hq:=(Gi h).symm;subst h1;subst h2;exact⟨n,cs,B,e0,rfl,q',e3,hq⟩
    ·cases h
   ·cases h
  |_=>exact(no h).elim
theorem So{id:Nat}{cl:List Rj}{l:List (Nat×Zr)}{q:Af U (Q3 ((id,.ob cl)::l))}(h:C5 U S ((id,.ob cl)::l)=some q): ∃ver cs,S.blk id=some (.box ver cs)∧Du U S (C5 U S l) cl cs=some q:=by
 have h:(match S.blk id with
  |some (.box _ cs)=>Du U S (C5 U S l) cl cs
  |_=>none)=some q:=h
 cases e:S.blk id with
 |none=>rw[e]at h;cases h
 |some B=>
  rw[e]at h;cases B with
  |box ver cs=>exact⟨ver,cs,rfl,h⟩
  |_=>cases h
theorem Pf{id e:Nat}{d:Bool}{cl:List Rj}{l:List (Nat×Zr)}{q:Af U (Q3 ((id,.opn e d cl)::l))}(h:C5 U S ((id,.opn e d cl)::l)=some q): ∃ver q0 g i cs,∃l0:List (U.D e),∃q',S.blk id=some (.opn ver e d q0 l0 g i cs)∧Du U S (C5 U S l) cl cs=some q'∧q=(l0,(i.toNat,q')):=by
 have h:(match S.blk id with
  |some (.opn _ e' d' _ l0 _ i cs)=>match d'==d,decEq e' e,Du U S (C5 U S l) cl cs with
   |true,.isTrue h,some q=>some ((h ▸ l0,(i.toNat,q)):List (U.D e)×Nat×Af U (Nv cl++Q3 l))
   |_,_,_=>none
  |_=>none)=some q:=h
 split at h
 ·rename_i ver e' d' q0 l0 g i cs hB;cases e1:d'==d with
  |false=>rw[e1]at h;cases h
  |true=>
   have hd:=eq_of_beq e1;subst hd;cases e2:decEq e' e with
   |isFalse hne=>rw[e1,e2]at h;cases h
   |isTrue he=>
    subst he;cases e3:Du U S (C5 U S l) cl cs with
    |none=>rw[e1,e2,e3]at h;cases h
    |some q'=>rw[e1,e2,e3]at h;exact⟨ver,q0,g,i,cs,l0,q',hB,e3,(Gi h).symm⟩
 ·cases h
theorem Pg{id:Nat}{cl:List Rj}{l:List (Nat×Zr)}{q:Af U (Q3 ((id,.box cl)::l))}(h:C5 U S ((id,.box cl)::l)=some q): ∃ver cs,S.blk id=some (.box ver cs)∧Du U S (C5 U S l) cl cs=some q:=by
 have h:(match S.blk id with
  |some (.box _ cs)=>Du U S (C5 U S l) cl cs
  |_=>none)=some q:=h
 cases e:S.blk id with
 |none=>rw[e]at h;cases h
 |some B=>
  rw[e]at h;cases B with
  |box ver cs=>exact⟨ver,cs,rfl,h⟩
  |_=>cases h
theorem Sq{id t:Nat}{m:Bool}{l:List (Nat×Zr)}{q:Af U (Q3 ((id,.st t m)::l))}(h:C5 U S ((id,.st t m)::l)=some q): ∃ver cs a q',S.blk id=some (.box ver cs)∧U.fO t m cs=some a∧C5 U S l=some q'∧q=(a,q'):=by
 have h:(match S.blk id with
  |some (.box _ cs)=>match U.fO t m cs,C5 U S l with
   |some a,some q=>some ((a,q):U.D t×Af U (Q3 l))
   |_,_=>none
  |_=>none)=some q:=h
 split at h
 ·rename_i ver cs hB;split at h
  ·rename_i a q' e1 e2;exact⟨ver,cs,a,q',hB,e1,e2,(Gi h).symm⟩
  ·cases h
 ·cases h
theorem Ph{id n e:Nat}{l:List (Nat×Zr)}{q:Af U (Q3 ((id,.arr n e)::l))}(h:C5 U S ((id,.arr n e)::l)=some q): ∃ver,∃l':List (U.D e),∃q',S.blk id=some (.arr ver n e l')∧C5 U S l=some q'∧q=(l',q'):=by
 have h:(match S.blk id with
  |some (.arr _ n' e' l')=>match Nat.beq n n',decEq e' e,C5 U S l with
   |true,.isTrue h,some q=>some ((h ▸ l',q):List (U.D e)×Af U (Q3 l))
   |_,_,_=>none
  |_=>none)=some q:=h
 split at h
 ·rename_i ver n' e' l' hB;cases e1:Nat.beq n n' with
  |false=>rw[e1]at h;cases h
  |true=>
   have hn:=A7 e1;subst hn;cases e2:decEq e' e with
   |isFalse hne=>rw[e1,e2]at h;cases h
   |isTrue he=>
    subst he;cases e3:C5 U S l with
    |none=>rw[e1,e2,e3]at h;cases h
    |some q'=>rw[e1,e2,e3]at h;exact⟨ver,l',q',hB,rfl,(Gi h).symm⟩
 ·cases h
theorem Pj{id e:Nat}{d:Bool}{l:List (Nat×Zr)}{q:Af U (Q3 ((id,.rws e d)::l))}(h:C5 U S ((id,.rws e d)::l)=some q): ∃ver c,∃l':List (U.D e),∃q',S.blk id=some (.rows ver e d c l')∧C5 U S l=some q'∧q=(l',q'):=by
 have h:(match S.blk id with
  |some (.rows _ e' d' _ l')=>match d'==d,decEq e' e,C5 U S l with
   |true,.isTrue h,some q=>some ((h ▸ l',q):List (U.D e)×Af U (Q3 l))
   |_,_,_=>none
  |_=>none)=some q:=h
 split at h
 ·rename_i ver e' d' c l' hB;cases e1:d'==d with
  |false=>rw[e1]at h;cases h
  |true=>
   have hd:=eq_of_beq e1;subst hd;cases e2:decEq e' e with
   |isFalse hne=>rw[e1,e2]at h;cases h
   |isTrue he=>
    subst he;cases e3:C5 U S l with
    |none=>rw[e1,e2,e3]at h;cases h
    |some q'=>rw[e1,e2,e3]at h;exact⟨ver,c,l',q',hB,rfl,(Gi h).symm⟩
 ·cases h
theorem Vh{W:List TC}{w:Option (Af U W)}{x t:Nat}{l:List (Nat×Sh)}{q:Af U (Q8 W ((x,.v t)::l))}(h:De U S w ((x,.v t)::l)=some q): ∃a q',X7 U t (S.get x)=some a∧De U S w l=some q'∧q=(a,q'):=by
 have h:(match X7 U t (S.get x),De U S w l with
  |some a,some q=>some ((a,q):U.D t×Af U (Q8 W l))
  |_,_=>none)=some q:=h
 split at h
 ·rename_i a q' e1 e2;exact⟨a,q',e1,e2,(Gi h).symm⟩
 ·cases h
theorem Vi{W:List TC}{w:Option (Af U W)}{x id0 e:Nat}{d:Bool}{l:List (Nat×Sh)}{q:Af U (Q8 W ((x,.o id0 e d)::l))}(h:De U S w ((x,.o id0 e d)::l)=some q):
  ∃ver n c,∃l':List (U.D e),∃q',S.get x= .c (.own id0 ver n)∧S.blk id0=some (.rows ver e d c l')∧De U S w l=some q'∧q=(l',q'):=by
 have h:(match S.get x with
  | .c (.own id ver n)=>match S.blk id with
   |some (.rows ver' e' d' _ l')=>match Nat.beq ver ver'&&Nat.beq id id0&&(d'==d),decEq e' e,De U S w l with
    |true,.isTrue h,some q=>some ((h ▸ l',q):List (U.D e)×Af U (Q8 W l))
    |_,_,_=>none
   |_=>none
  |_=>none)=some q:=h
 split at h
 ·rename_i id ver n ev;split at h
  ·rename_i ver' e' d' c l' hB;cases e1:(Nat.beq ver ver'&&Nat.beq id id0&&(d'==d))with
   |false=>rw[e1]at h;cases h
   |true=>
    cases e2:decEq e' e with
    |isFalse hne=>rw[e1,e2]at h;cases h
    |isTrue he=>
     subst he;cases e3:De U S w l with
     |none=>rw[e1,e2,e3]at h;cases h
     |some q'=>
      rw[e1,e2,e3]at h;simp only[Z4]at e1
      have h1:=A7 e1.1.1
      have h2:=A7 e1.1.2
      have h3:=eq_of_beq e1.2;subst h1;subst h2;subst h3;exact⟨ver,n,c,l',q',ev,hB,rfl,(Gi h).symm⟩
  ·cases h
 ·cases h
theorem Vj{W:List TC}{w:Option (Af U W)}{x id:Nat}{l:List (Nat×Sh)}{q:Af U (Q8 W ((x,.p id)::l))}(h:De U S w ((x,.p id)::l)=some q):
  ∃B,S.get x= .c (.ptr id B.ver 0)∧S.blk id=some B∧De U S w l=some q:=by
 have h:(match S.get x with
  | .c (.ptr id' ver 0)=>match S.blk id with
   |some B=>match Nat.beq id id'&&Nat.beq ver B.ver,De U S w l with
    |true,some q=>some (q:Af U (Q8 W l))
    |_,_=>none
   |none=>none
  |_=>none)=some q:=h
 split at h
 ·rename_i id' ver ev;split at h
  ·rename_i B hB;split at h
   ·rename_i q' e1 e2;simp only[Z4]at e1
    have h1:=A7 e1.1
    have h2:=A7 e1.2;subst h1;subst h2;exact⟨B,ev,hB,e2.trans h⟩
   ·cases h
  ·cases h
 ·cases h
theorem Ac0{W:List TC}{w:Option (Af U W)}: ∀(ts:List Nat) (rs:List (Σ t,U.D t)) {q:Af U (Jz ts W)},Abh U w ts rs=some q->w=some (Fh U W ts q).2∧rs=(Fh U W ts q).1:=by
 intro ts
 induction ts with
 |nil=>
  intro rs q h;cases rs with
  |nil=>exact⟨h,rfl⟩
  |cons z r=>cases h
 |cons t ts ih=>
  intro rs q h;cases rs with
  |nil=>cases h
  |cons z r=>
   obtain⟨t',x⟩:=z
   have h:(match decEq t' t,Abh U w ts r with
    | .isTrue h,some q=>some ((h ▸ x,q):U.D t×Af U (Jz ts W))
    |_,_=>none)=some q:=h
   split at h
   ·rename_i e q' e1 e2;subst e;cases h;obtain⟨k1,k2⟩:=ih r e2;refine⟨k1,?_⟩
    show _=⟨t',x⟩::(Fh U W ts q').1;rw[←k2]
   ·cases h
theorem Vk{W:List TC}{w:Option (Af U W)}{x t:Nat}{l:List (Nat×Sh)}{q:Af U (Q8 W ((x,.r t)::l))}(h:De U S w ((x,.r t)::l)=some q): ∃(a:U.D t) (q':Af U (Q8 W l)),S.get x= .c (.ptrB t a 0)∧De U S w l=some q'∧q=(a,q'):=by
 have h:(match S.get x with
  | .c (.ptrB t' a 0)=>match decEq t' t,De U S w l with
   | .isTrue h,some q=>some ((h ▸ a,q):U.D t×Af U (Q8 W l))
   |_,_=>none
  |_=>none)=some q:=h
 split at h
 ·rename_i t' a ev;split at h
  ·rename_i e q' e1 e2;subst e;exact⟨a,q',ev,e2,(Gi h).symm⟩
  ·cases h
 ·cases h
theorem Vl{W:List TC}{w:Option (Af U W)}{x fid:Nat}{caps ts:List Nat}{l:List (Nat×Sh)}{q:Af U (Q8 W ((x,.f fid caps ts)::l))}(h:De U S w ((x,.f fid caps ts)::l)=some q):
  S.get x= .c (.fn fid (caps.map fun i=>(i,match S.blk i with|some B=>B.ver|none=>0)) (Fh U (Q8 W l) ts q).1)∧(∀i∈caps,∃B,S.blk i=some B)∧De U S w l=some (Fh U (Q8 W l) ts q).2:=by
 have h:(match S.get x with
  | .c (.fn f cs rs)=>match Nat.beq f fid&&decide (cs=caps.map fun i=>(i,match S.blk i with|some B=>B.ver|none=>0))&&caps.all (fun i=>(S.blk i).isSome)with
   |true=>Abh U (De U S w l) ts rs
   |false=>(none:Option (Af U (Jz ts (Q8 W l))))
  |_=>none)=some q:=h
 split at h
 ·rename_i f cs rs ev;split at h
  ·rename_i e1;simp only[Z4,decide_eq_true_eq]at e1
   have h1:=A7 e1.1.1;subst h1;obtain⟨k1,k2⟩:=Ac0 ts rs h;refine⟨by rw[ev,e1.1.2,←k2],fun i hi=> ?_,k1⟩
   have:=Z1.1 e1.2 i hi;cases hB:S.blk i with
   |none=>rw[hB]at this;cases this
   |some B=>exact⟨B,rfl⟩
  ·cases h
 ·cases h
theorem Vm{W:List TC}{w:Option (Af U W)}{x:Nat}{v:Bool}{l:List (Nat×Sh)}{q:Af U (Q8 W ((x,.b v)::l))}(h:De U S w ((x,.b v)::l)=some q):
  S.get x= .c (.bool v)∧De U S w l=some q:=by
 have h:(match S.get x with
  | .c (.bool v')=>match v==v',De U S w l with
   |true,some q=>some (q:Af U (Q8 W l))
   |_,_=>none
  |_=>none)=some q:=h
 split at h
 ·rename_i v' ev;split at h
  ·rename_i q' e1 e2
   have e1:=eq_of_beq e1;subst e1;exact⟨ev,e2.trans h⟩
  ·cases h
 ·cases h
def Ahk (S:SS U.D)(c:SV U.D):Prop:=(c.shut=true∧Ez c=true)∨ ∃id n B,c= .own id 0 n∧S.blk id=some B∧n=B.len
theorem Vn (hU:Ab U){τ:Nat->Int}{W:List TC}{w:Option (Af U W)}: ∀(l:List Rj) (cs:List (SV U.D)) {q:Af U (Nv l++W)},(∀c∈cs,c.ok S τ)->Du U S w l cs=some q→
  (Cz U W l q).1.map (SV.toV U)=(cs.map (SV.toV U)).map (V.can (S.toSt U).H)∧w=some (Cz U W l q).2∧(∀c∈(Cz U W l q).1,Ahk S c):=by
 intro l
 induction l with
 |nil=>
  intro cs q _ h;cases cs with
  |nil=>exact⟨rfl,h,by intro c hc;cases hc⟩
  |cons x r=>cases h
 |cons x l ih=>
  intro cs q hok h;cases x with
  |v t=>
   obtain⟨c,cs,rfl,a,e1,q',e2,rfl⟩:=Ve h;obtain⟨g1,g2,g3⟩:=ih cs (fun c hc=>hok c (by simp[hc])) e2
   have h1:=hU.fS t _ a e1
   have hsh:=hU.csSh t a
   have htg: ∀c∈U.cs t a,Ez c=true:=hU.cellsTag false t a
   have hone:(Uw U t a).toV U=c.toV U∧(Uw U t a).shut=true∧Ez (Uw U t a)=true:=by
    rw[←hU.cs t a]at h1;unfold Uw;generalize U.cs t a=l0 at h1 hsh htg ⊢;cases l0 with
    |nil=>cases h1
    |cons v l0=>
     cases l0 with
     |nil=>
      simp only[Z8,Gk,Ld,and_true]at h1;exact⟨h1.symm,by simpa using hsh,htg v (by simp)⟩
     |cons v2 l0=>simp at h1
   refine⟨?_,g2,fun c' hc'=> ?_⟩
   ·show((Uw U t a)::(Cz U W l q').1).map (SV.toV U)=_;rw[Z8,Z8,Z8,g1,←hone.1,Ail (Q33 hU hone.2.1)]
   ·have hc':c'=Uw U t a∨c'∈(Cz U W l q').1:=Di.1 hc';rcases hc' with rfl|hc'
    ·exact .inl hone.2
    ·exact g3 c' hc'
  |T e d=>
   obtain⟨l',cs',rfl,q',e3,rfl⟩:=Vf h;obtain⟨g1,g2,g3⟩:=ih cs' (fun c hc=>hok c (by simp[hc])) e3
   refine⟨?_,g2,fun c' hc'=> ?_⟩
   ·show((SV.rowT e d l')::(Cz U W l q').1).map (SV.toV U)=_;rw[Z8,Z8,Z8,g1];rfl
   ·have hc':c'= .rowT e d l'∨c'∈(Cz U W l q').1:=Di.1 hc';rcases hc' with rfl|hc'
    ·exact .inl ⟨rfl,rfl⟩
    ·exact g3 c' hc'
  |O id=>
   obtain⟨n,cs',B,hB,rfl,q',e3,rfl⟩:=Vg h;obtain⟨g1,g2,g3⟩:=ih cs' (fun c hc=>hok c (by simp[hc])) e3
   have hn:n=B.len:=(hok (.own id B.ver n) (by simp)).2 B hB rfl
   refine⟨?_,g2,fun c' hc'=> ?_⟩
   ·show((SV.own id 0 n)::(Cz U W l q').1).map (SV.toV U)=_;rw[Z8,Z8,Z8,g1]
    congr 1
    show V.own id 0 0 n=V.can1 (S.toSt U).H (.own id B.ver 0 n);simp only[V.can1,Ac hB,Q93,if_true]
   ·have hc':c'= .own id 0 n∨c'∈(Cz U W l q').1:=Di.1 hc';rcases hc' with rfl|hc'
    ·exact .inr ⟨id,n,B,rfl,hB,hn⟩
    ·exact g3 c' hc'
def Ac1 (S:SS U.D)(l:List (Nat×Option (SB U.D))):Prop:= ∀p∈l,∃B B',p.2=some B'∧S.blk p.1=some B∧B.len=B'.len∧B'.ver=0∧ ∀(S2:SS U.D) (τ:Nat->Int),(∀c,Ahk S c->c.ok S2 τ)->B'.ok S2 τ
theorem Q47{S:St}{id:Nat}{B:Blk}{l:List Nat}(h:S.H id=some B):Cr S (id::l)=(id,⟨0,B.es,B.xs.map fun x=>x.map (V.can S.H)⟩)::Cr S l:=by
 simp only[Cr,h]
theorem Ajq (hU:Ab U){τ:Nat->Int}(hw:A5 S τ): ∀(l:List (Nat×Zr)) {q:Af U (Q3 l)},C5 U S l=some q->Fa (D5 U l q)=Cr (S.toSt U) (l.map (·.1))∧Ac1 S (D5 U l q):=by
 intro l
 induction l with
 |nil=>intro q h;exact⟨rfl,by intro p hp;cases hp⟩
 |cons x l ih=>
  intro q h;obtain⟨id,b⟩:=x;cases b with
  |box cl=>
   obtain⟨ver,cs,hB,h⟩:=Pg h;obtain⟨g1,g2,g3⟩:=Vn hU cl cs (hw.2.2 id _ hB).2 h;obtain⟨k1,k2⟩:=ih g2
   have hlen:(Cz U (Q3 l) cl q).1.length=cs.length:=by
    have:=congrArg List.length g1;simpa using this
   refine⟨?_,fun p hp=> ?_⟩
   ·rw[Z8,Q47 (Ac hB)]
    show(id,(SB.box 0 (Cz U (Q3 l) cl q).1).toB U)::Fa (D5 U l (Cz U (Q3 l) cl q).2)=_;rw[k1];simp only[SB.toB,hlen]
    congr 3
    simp only[Z8,Gk];rw[←g1]
   ·have hp:p=(id,some (.box 0 (Cz U (Q3 l) cl q).1))∨p∈D5 U l (Cz U (Q3 l) cl q).2:=Di.1 hp;rcases hp with rfl|hp
    ·exact⟨_,_,rfl,hB,rfl,rfl,fun S2 τ hF c hc=>hF c (g3 c hc)⟩
    ·exact k2 p hp
  |st t m=>
   obtain⟨ver,cs,a,q',hB,e1,e2,rfl⟩:=Sq h;obtain⟨k1,k2⟩:=ih e2
   have h1:=hU.fO t m cs a e1
   have hlen:(U.cO t m a).length=cs.length:=by
    have:=congrArg List.length h1;simpa using this.symm
   have hsh:=hU.shut t m a;refine⟨?_,fun p hp=> ?_⟩
   ·rw[Z8,Q47 (Ac hB)]
    show(id,(SB.box 0 (U.cO t m a)).toB U)::Fa (D5 U l q')=_;rw[k1];simp only[SB.toB,hlen]
    congr 3
    simp only[Z8,Gk];rw[h1,Q70 (Q73 hU hsh)]
   ·have hp:p=(id,some (.box 0 (U.cO t m a)))∨p∈D5 U l q':=Di.1 hp;rcases hp with rfl|hp
    ·exact⟨_,_,rfl,hB,rfl,rfl,fun S2 τ _ c hc=>Q49 (Z1.1 hsh c hc) (Z1.1 (hU.tagO t m a) c hc)⟩
    ·exact k2 p hp
  |arr n e=>
   obtain⟨ver,l',q',hB,e3,rfl⟩:=Ph h;obtain⟨k1,k2⟩:=ih e3;refine⟨?_,fun p hp=> ?_⟩
   ·rw[Z8,Q47 (Ac hB)]
    show(id,(SB.arr 0 n e l').toB U)::Fa (D5 U l q')=_;rw[k1];simp only[SB.toB]
    congr 3
    simp only[Z8,Gk];rw[Q70];refine Z1.2 fun v hv=> ?_;obtain⟨x,h1,h2⟩:=List.mem_flatten.1 hv;obtain⟨a,_,rfl⟩:=D9.1 h1;exact Z1.1 ((hU.en e).closed a) v h2
   ·have hp:p=(id,some (.arr 0 n e l'))∨p∈D5 U l q':=Di.1 hp;rcases hp with rfl|hp
    ·exact⟨_,_,rfl,hB,rfl,rfl,fun S2 τ _=>trivial⟩
    ·exact k2 p hp
  |rws e d=>
   obtain⟨ver,c,l',q',hB,e3,rfl⟩:=Pj h;obtain⟨k1,k2⟩:=ih e3;refine⟨?_,fun p hp=> ?_⟩
   ·rw[Z8,Q47 (Ac hB)]
    show(id,(SB.rows 0 e d false l').toB U)::Fa (D5 U l q')=_;rw[k1];simp only[SB.toB,Ko hU]
   ·have hp:p=(id,some (.rows 0 e d false l'))∨p∈D5 U l q':=Di.1 hp;rcases hp with rfl|hp
    ·exact⟨_,_,rfl,hB,rfl,rfl,fun S2 τ _=>trivial⟩
    ·exact k2 p hp
  |ob cl=>
   obtain⟨ver,cs,hB,h⟩:=So h;obtain⟨g1,g2,g3⟩:=Vn hU cl cs (hw.2.2 id _ hB).2 h;obtain⟨k1,k2⟩:=ih g2
   have hlen:(Cz U (Q3 l) cl q).1.length=cs.length:=by
    have:=congrArg List.length g1;simpa using this
   refine⟨?_,fun p hp=> ?_⟩
   ·rw[Z8,Q47 (Ac hB)]
    show(id,(SB.box 0 (Cz U (Q3 l) cl q).1).toB U)::Fa (D5 U l (Cz U (Q3 l) cl q).2)=_;rw[k1];simp only[SB.toB,hlen]
    congr 3
    simp only[Z8,Gk];rw[←g1]
   ·have hp:p=(id,some (.box 0 (Cz U (Q3 l) cl q).1))∨p∈D5 U l (Cz U (Q3 l) cl q).2:=Di.1 hp;rcases hp with rfl|hp
    ·exact⟨_,_,rfl,hB,rfl,rfl,fun S2 τ hF c hc=>hF c (g3 c hc)⟩
    ·exact k2 p hp
  |opn e d cl=>
   obtain⟨ver,q0,g,i,cs,l0,q',hB,hx,rfl⟩:=Pf h;obtain⟨hi,_,hcs,hcl,_⟩:=(hw.2.2 id _ hB).2;obtain⟨g1,g2,g3⟩:=Vn hU cl cs hcs hx;obtain⟨k1,k2⟩:=ih g2
   have hlen:(Cz U (Q3 l) cl q').1.length=cs.length:=by
    have:=congrArg List.length g1;simpa using this
   have hii:((i.toNat:Nat):Int)=i:=Int.toNat_of_nonneg hi.1;refine⟨?_,fun p hp=> ?_⟩
   ·rw[Z8,Q47 (Ac hB)]
    show(id,(SB.opn 0 e d true l0 0 (i.toNat:Int) (Cz U (Q3 l) cl q').1).toB U)::Fa (D5 U l (Cz U (Q3 l) cl q').2)=_;rw[k1];simp only[SB.toB,hii,g1]
    congr 3
    rw[List.map_set,Ko hU]
   ·have hp:p=(id,some (.opn 0 e d true l0 0 (i.toNat:Int) (Cz U (Q3 l) cl q').1))∨p∈D5 U l (Cz U (Q3 l) cl q').2:=Di.1 hp;rcases hp with rfl|hp
    ·exact⟨_,_,rfl,hB,rfl,rfl,fun S2 τ hF=>⟨by rw[hii];exact hi,fun h=>absurd rfl h,fun c hc=>hF c (g3 c hc),by rw[hlen];exact hcl,fun h=>by cases h⟩⟩
    ·exact k2 p hp
def Ac2:List (Nat×Sh)->List Nat
 |[]=>[]
 |(x,.o id _ _)::r=>id::Ac2 r
 |_::r=>Ac2 r
def Amg (S:SS U.D)(l:List (Nat×SA U.D)):Prop:= ∀p∈l,(∀(S2:SS U.D) (τ:Nat->Int),p.2.ok S2 τ)∨ ∃id n B,p.2= .c (.own id 0 n)∧S.blk id=some B∧n=B.len
theorem Ajr (hU:Ab U){τ:Nat->Int}(hw:A5 S τ){W:List TC}{w:Option (Af U W)}: ∀(l:List (Nat×Sh)) {q:Af U (Q8 W l)},De U S w l=some q→
  Pe (Cc U W l q).1=F3 (S.toSt U) (l.map (·.1))∧Fa (Cc U W l q).2.1=Cr (S.toSt U) (Ac2 l)∧w=some (Cc U W l q).2.2∧Amg S (Cc U W l q).1∧Ac1 S (Cc U W l q).2.1:=by
 intro l
 induction l with
 |nil=>intro q h;exact⟨rfl,rfl,h,(by intro p hp;cases hp),(by intro p hp;cases hp)⟩
 |cons x l ih=>
  intro q h;obtain⟨x,sh⟩:=x;cases sh with
  |v t=>
   obtain⟨a,q',e1,e2,rfl⟩:=Vh h;obtain⟨g1,g2,g3,g4,g5⟩:=ih e2;refine⟨?_,g2,g3,fun p hp=> ?_,g5⟩
   ·show(x,(Fq U t a).toA U)::Pe (Cc U W l q').1=(x,((S.get x).toA U).can (S.toSt U).H)::_;rw[g1,R5 hU e1,Acz hU]
   ·have hp:p=(x,Fq U t a)∨p∈(Cc U W l q').1:=Di.1 hp;rcases hp with rfl|hp
    ·exact .inl fun S2 τ=>Agd hU t a
    ·exact g4 p hp
  |o id0 e d=>
   obtain⟨ver,n,c,l',q',ev,hB,e3,rfl⟩:=Vi h;obtain⟨g1,g2,g3,g4,g5⟩:=ih e3
   have hv:=hw.get x;rw[ev]at hv
   have hn:n=l'.length:=hv.2 _ hB rfl;refine⟨?_,?_,g3,fun p hp=> ?_,fun p hp=> ?_⟩
   ·show(x,A.c (.own id0 0 0 l'.length))::Pe (Cc U W l q').1=(x,((S.get x).toA U).can (S.toSt U).H)::_;rw[g1,ev]
    show _=(x,A.c (V.can1 (S.toSt U).H (.own id0 ver 0 n)))::_;simp only[V.can1,Ac hB,SB.toB,if_true,hn]
   ·show(id0,(SB.rows 0 e d false l').toB U)::Fa (Cc U W l q').2.1=Cr _ (id0::Ac2 l);rw[Q47 (Ac hB),g2];simp only[SB.toB,Ko hU]
   ·have hp:p=(x,.c (.own id0 0 l'.length))∨p∈(Cc U W l q').1:=Di.1 hp;rcases hp with rfl|hp
    ·exact .inr ⟨_,_,_,rfl,hB,rfl⟩
    ·exact g4 p hp
   ·have hp:p=(id0,some (.rows 0 e d false l'))∨p∈(Cc U W l q').2.1:=Di.1 hp;rcases hp with rfl|hp
    ·exact⟨_,_,rfl,hB,rfl,rfl,fun S2 τ _=>trivial⟩
    ·exact g5 p hp
  |p id=>
   obtain⟨B,ev,hB,e2⟩:=Vj h;obtain⟨g1,g2,g3,g4,g5⟩:=ih e2;refine⟨?_,g2,g3,fun p hp=> ?_,g5⟩
   ·show(x,A.c (.ptr id 0 0 0))::Pe (Cc U W l q).1=(x,((S.get x).toA U).can (S.toSt U).H)::_;rw[g1,ev]
    show _=(x,A.c (V.can1 (S.toSt U).H (.ptr id B.ver 0 0)))::_;simp only[V.can1,Ac hB,Q93,if_true]
   ·have hp:p=(x,.c (.ptr id 0 0))∨p∈(Cc U W l q).1:=Di.1 hp;rcases hp with rfl|hp
    ·exact .inl fun S2 τ=>trivial
    ·exact g4 p hp
  |r t=>
   obtain⟨a,q',ev,e2,rfl⟩:=Vk h;obtain⟨g1,g2,g3,g4,g5⟩:=ih e2;refine⟨?_,g2,g3,fun p hp=> ?_,g5⟩
   ·show(x,A.c (.ip (U.sz t) [U.en t a] 0 0))::Pe (Cc U W l q').1=(x,((S.get x).toA U).can (S.toSt U).H)::_;rw[g1,ev];rfl
   ·have hp:p=(x,.c (.ptrB t a 0))∨p∈(Cc U W l q').1:=Di.1 hp;rcases hp with rfl|hp
    ·exact .inl fun S2 τ=>trivial
    ·exact g4 p hp
  |f fid caps ts=>
   obtain⟨ev,hall,e2⟩:=Vl h;obtain⟨g1,g2,g3,g4,g5⟩:=ih e2
   have hq:Cc U W ((x,.f fid caps ts)::l) q=((x,.c (.fn fid (caps.map fun i=>(i,0)) (Fh U (Q8 W l) ts q).1))::(Cc U W l (Fh U (Q8 W l) ts q).2).1,(Cc U W l (Fh U (Q8 W l) ts q).2).2.1,(Cc U W l (Fh U (Q8 W l) ts q).2).2.2):=rfl;rw[hq];refine⟨?_,g2,g3,fun p hp=> ?_,g5⟩
   ·show(x,A.c (.fn fid (((caps.map fun i=>(i,0)).map fun c=>V.ptr c.1 c.2 0 0)++(Fh U (Q8 W l) ts q).1.map fun z=>V.ip (U.sz z.1) [U.en z.1 z.2] 0 0)))::Pe (Cc U W l (Fh U (Q8 W l) ts q).2).1=(x,((S.get x).toA U).can (S.toSt U).H)::_;rw[g1,ev]
    show _=(x,A.c (V.fn fid ((((caps.map fun i=>(i,match S.blk i with|some B=>B.ver|none=>0)).map fun c=>V.ptr c.1 c.2 0 0)++(Fh U (Q8 W l) ts q).1.map fun z=>V.ip (U.sz z.1) [U.en z.1 z.2] 0 0).map (V.can1 (S.toSt U).H))))::_
    rw[Fv,Cq,Cq,Cq,Cq]
    congr 4
    congr 1
    refine Er fun i hi=> ?_;obtain⟨B,hB⟩:=hall i hi
    show V.ptr i 0 0 0=V.can1 (S.toSt U).H (.ptr i _ 0 0);simp only[V.can1,Ac hB,Q93,if_true,hB]
   ·have hp:p=(x,.c (.fn fid (caps.map fun i=>(i,0)) (Fh U (Q8 W l) ts q).1))∨p∈(Cc U W l (Fh U (Q8 W l) ts q).2).1:=Di.1 hp;rcases hp with rfl|hp
    ·exact .inl fun S2 τ=>trivial
    ·exact g4 p hp
  |b v=>
   obtain⟨ev,e2⟩:=Vm h;obtain⟨g1,g2,g3,g4,g5⟩:=ih e2;refine⟨?_,g2,g3,fun p hp=> ?_,g5⟩
   ·show(x,A.c (.bool v))::Pe (Cc U W l q).1=(x,((S.get x).toA U).can (S.toSt U).H)::_;rw[g1,ev];rfl
   ·have hp:p=(x,.c (.bool v))∨p∈(Cc U W l q).1:=Di.1 hp;rcases hp with rfl|hp
    ·exact .inl fun S2 τ=>trivial
    ·exact g4 p hp
theorem Q98{β:Type}: ∀ {l:List (Nat×β)} {n:Nat} {v:β},lk l n=some v->(n,v)∈l:=by
 intro l
 induction l with
 |nil=>intro n v h;cases h
 |cons x r ih=>
  intro n v h;obtain⟨k,u⟩:=x;rw[Rn]at h;split at h
  ·rename_i e;subst e;cases h;simp
  ·exact Z56 _ (ih h)
theorem Ajs (hU:Ab U)(hw:WF S){s:El}{q:Af U s.codes}(h:s.ext U S=some q):Do F (S.toSt U) ((s.emb U q).toSt U)∧WF (s.emb U q):=by
 obtain⟨τ,hw⟩:=hw;obtain⟨g1,g2,g3,g4,g5⟩:=Ajr hU hw s.e h;obtain⟨k1,k2⟩:=Ajq hU hw s.b g3
 have hfrom:Ac1 S ((Cc U (Q3 s.b) s.e q).2.1++D5 U s.b (Cc U (Q3 s.b) s.e q).2.2):=by
  intro p hp;rcases Gh.1 hp with hp|hp
  ·exact g5 p hp
  ·exact k2 p hp
 have hsome:W7 ((Cc U (Q3 s.b) s.e q).2.1++D5 U s.b (Cc U (Q3 s.b) s.e q).2.2):=fun p hp=>by
  obtain⟨B,B',e,_⟩:=hfrom p hp;rw[e];rfl
 have hst:StL (F3 (S.toSt U) (s.e.map (·.1))) (Cr (S.toSt U) (Ac2 s.e++s.b.map (·.1)))=(s.emb U q).toSt U:=by
  refine St.Sim.eq ⟨fun t=> ?_,fun i=> ?_,fun i=>rfl⟩
  ·show Lh _ t=_;rw[←g1];exact(Acx _ _ _ _ t).symm
  ·show Jq _ i=_;rw[Na,←g2,←k1,←Sn];exact(Acy _ _ _ _ i hsome).symm
 refine⟨?_,fun g=>((g - 2) / 2:Nat),fun n=>by simp,fun t v ht=> ?_,fun id B hB=> ?_⟩
 ·rintro a w ⟨hd,hsz,σ,β,hs⟩;exact⟨hd,hsz,σ,β,Aq.cast hst (hs.can _ _)⟩
 ·have hm:=Q98 ht;rcases g4 _ hm with h1|⟨id,n,B,h1,h2,h3⟩
  ·exact h1 _ _
  ·have h1:v= .c (.own id 0 n):=h1;subst h1;refine⟨Nat.zero_lt_one,fun C hC _=> ?_⟩;simp only[SS.blk]at hC;split at hC
   ·rename_i b hb;subst hC;obtain⟨B2,B2',q1,q2,q3,_⟩:=hfrom _ (Q98 hb);cases q1
    have q2:S.blk id=some B2:=q2;rw[h2]at q2;cases q2;rw[h3,q3]
   ·cases hC
 ·simp only[SS.blk]at hB;split at hB
  ·rename_i b hb;subst hB;obtain⟨B2,B2',q1,q2,q3,q4,q5⟩:=hfrom _ (Q98 hb);cases q1;refine⟨by rw[q4];exact Nat.zero_lt_one,q5 _ _ fun c hc=> ?_⟩
   rcases hc with hc|⟨id',n,B',rfl,h2,h3⟩
   ·exact Q49 hc.1 hc.2
   ·refine⟨Nat.zero_lt_one,fun C hC _=> ?_⟩;simp only[SS.blk]at hC;split at hC
    ·rename_i b hb';subst hC;obtain⟨B3,B3',r1,r2,r3,_⟩:=hfrom _ (Q98 hb');cases r1
     have r2:S.blk id'=some B3:=r2;rw[h2]at r2;cases r2;rw[h3,r3]
    ·cases hC
  ·cases hB
theorem Ac3 (hU:Ab U)(he:F2 F T)(hw:WF S){s:El}{f:Af U s.codes->Option α}(h:arr U T s f S=some r): ∃q,f q=some r∧Do F (S.toSt U) ((s.emb U q).toSt U)∧WF (s.emb U q):=by
 unfold arr at h;obtain⟨S1,h1,h2,h3⟩:=Q83 hU he _ hw h;obtain⟨q,h4,h5⟩:=Option.bind_eq_some_iff.1 h1;obtain⟨k1,k2⟩:=Ajs (F:=F) hU h3 h4;exact⟨q,h5,h2.trans k1,k2⟩
end
end Go.Eng
namespace Go.Eng
def Sr:List Bool->Nat->Nat
 |[],p=>p
 |false::r,p=>Sr r (2*p)
 |true::r,p=>Sr r (2*p+1)
theorem Y4: ∀(n m p:Nat) (acc:List Bool),p≤n->p≤m->Uv n p acc=Uv m p acc:=by
 intro n
 induction n with
 |zero=>
  intro m p acc h1 _
  have:p=0:=by omega
  subst this;cases m<;>rfl
 |succ n ih=>
  intro m p acc h1 h2;cases m with
  |zero=>
   have:p=0:=by omega
   subst this;rfl
  |succ m=>
   simp only[Uv];split
   ·rfl
   ·rename_i e
    have: ¬p≤1:=fun h=>by rw[Nat.ble_eq_true_of_le h]at e;cases e
    exact ih m (p / 2) _ (by omega) (by omega)
theorem Ac4: ∀(n p:Nat) (acc:List Bool),Uv n p acc=Uv n p []++acc:=by
 intro n
 induction n with
 |zero=>intro p acc;rfl
 |succ n ih=>
  intro p acc;simp only[Uv];split
  ·rfl
  ·rw[ih,ih (p / 2) [Nat.beq (p % 2) 1],Lc];rfl
theorem Vo{p:Nat}(hp:1≤p)(b:Bool):Uv (2*p+b.toNat) (2*p+b.toNat) []=Uv p p []++[b]:=by
 have hb:b.toNat≤1:=by cases b<;>decide
 obtain⟨m,hm⟩: ∃m,2*p+b.toNat=m+1:=⟨2*p+b.toNat - 1,by omega⟩
 have h1:Nat.ble (2*p+b.toNat) 1=false:=by
  cases e:Nat.ble (2*p+b.toNat) 1 with
  |false=>rfl
  |true=>have:=Ep e;omega
 have h2:(2*p+b.toNat) / 2=p:=by omega
 have h3:Nat.beq ((2*p+b.toNat) % 2) 1=b:=by
  have:(2*p+b.toNat) % 2=b.toNat:=by omega
  rw[this];cases b<;>rfl
 have h4:Uv (2*p+b.toNat) (2*p+b.toNat) []=Uv m p [b]:=by
  conv=>lhs;rw[hm]
  simp only[Uv];rw[←hm,h1,h2,h3]
 rw[h4,Ac4,Y4 m p p [] (by omega) (Z9 _)]
theorem Ac5 (js:List Nat): ∀(l l2:List Bool) (p:Nat) (c:Code) (fr:List Fm),Ev js (l++l2) p c fr=(Ev js l p c fr).bind fun x=>Ev js l2 (Sr l p) x.1 x.2:=by
 intro l
 induction l with
 |nil=>intro l2 p c fr;rfl
 |cons b l ih=>
  intro l2 p c fr;rw[Qe];cases c with
  |seq x y=>
   cases b with
   |false=>
    simp only[Ev,Sr];cases js.contains p<;>exact ih _ _ _ _
   |true=>exact ih _ _ _ _
  |cond x a b'=>cases b<;>exact ih _ _ _ _
  |block id x=>
   cases b with
   |false=>exact ih _ _ _ _
   |true=>rfl
  |loop x=>
   cases b with
   |false=>exact ih _ _ _ _
   |true=>rfl
  |_=>rfl
theorem Y5: ∀(n p:Nat) (acc:List Bool),p≤n->1≤p->Sr (Uv n p acc) 1=Sr acc p:=by
 intro n
 induction n with
 |zero=>intro p acc h1 h2;omega
 |succ n ih=>
  intro p acc h1 h2;simp only[Uv];split
  ·rename_i e
   have:=Ep e
   have:p=1:=by omega
   subst this;rfl
  ·rename_i e
   have: ¬p≤1:=fun h=>by rw[Nat.ble_eq_true_of_le h]at e;cases e
   rw[ih (p / 2) _ (by omega) (by omega)]
   cases e2:Nat.beq (p % 2) 1 with
   |true=>have:=Z2 e2;simp only[Sr];congr 1;omega
   |false=>
    have:p % 2≠1:=by intro h;rw[h]at e2;cases e2
    simp only[Sr];congr 1;omega
variable {js:List Nat} {c0:Code}
theorem Ajt{p:Nat}(hp:1≤p)(b:Bool):Li js c0 (2*p+b.toNat)=(Li js c0 p).bind fun x=>Ev js [b] p x.1 x.2:=by
 unfold Li;rw[Vo hp b,Ac5,Y5 p p [] (Z9 _) hp];rfl
theorem W8{p:Nat}{c:Code}{fr:List Fm}(hp:1≤p)(h:Li js c0 p=some (c,fr)):Li js c0 (2*p)=Ev js [false] p c fr:=by
 have:=Ajt (js:=js) (c0:=c0) hp false;rw[h]at this;exact this
theorem Ac6{p:Nat}{c:Code}{fr:List Fm}(hp:1≤p)(h:Li js c0 p=some (c,fr)):Li js c0 (2*p+1)=Ev js [true] p c fr:=by
 have:=Ajt (js:=js) (c0:=c0) hp true;rw[h]at this;exact this
def Vp (js:List Nat)(c0:Code):List Fm->Prop
 |[]=>True
 | .th c p::r=>1≤p∧Li js c0 p=some (c,r)∧Vp js c0 r
 | .bl _::r=>Vp js c0 r
 | .lp _::r=>Vp js c0 r
 | .jn p::r=>(∃a b,Li js c0 p=some (.seq a b,r))∧Vp js c0 r
def Ahl (n:Nat)(fr:List Fm):Prop:= ∀p,Fm.lp p∈fr->p<n
theorem Ac7: ∀(p:Nat) {c:Code} {fr:List Fm},1≤p->Li js c0 p=some (c,fr)->Vp js c0 fr∧Ahl p fr:=by
 intro p
 induction p using Nat.strongRecOn with
 |ind p ih=>
  intro c fr hp h;rcases E4 p 2 with h2|h2
  ·have:p=1:=by omega
   subst this
   have:some (c0,([]:List Fm))=some (c,fr):=h;cases this;exact⟨trivial,by intro p hp;cases hp⟩
  ·obtain⟨q,b,rfl⟩: ∃q b,p=2*q+Bool.toNat b:=by
    refine⟨p / 2,Nat.beq (p % 2) 1,?_⟩;cases e:Nat.beq (p % 2) 1 with
    |true=>have:=Z2 e;show p=2*(p / 2)+1;omega
    |false=>
     have:p % 2≠1:=by intro h;rw[h]at e;cases e
     show p=2*(p / 2)+0;omega
   have hb:b.toNat≤1:=by cases b<;>decide
   have hq:1≤q:=by omega
   have h0:=h;rw[Ajt hq b]at h;obtain⟨⟨c1,fr1⟩,h3,h4⟩:=Option.bind_eq_some_iff.1 h;obtain⟨k1,k2⟩:=ih q (by omega) hq h3
   have mono:Ahl (2*q+b.toNat) fr1:=fun p' hp'=>by have:=k2 p' hp';omega
   have h4:Ev js [b] q c1 fr1=some (c,fr):=h4;cases c1 with
   |seq x y=>
    cases b with
    |false=>
     simp only[Ev]at h4;split at h4
     ·cases h4;exact⟨⟨⟨_,_,h3⟩,k1⟩,fun p' hp'=>by
       rcases Di.1 hp' with e|e
       ·cases e
       ·exact mono p' e⟩
     ·cases h4;refine⟨⟨by omega,?_,k1⟩,fun p' hp'=>by
       rcases Di.1 hp' with e|e
       ·cases e
       ·exact mono p' e⟩
      rw[Ac6 hq h3];rfl
    |true=>cases h4;exact⟨k1,mono⟩
   |cond x a b'=>cases b<;>(cases h4;exact⟨k1,mono⟩)
   |block id x=>
    cases b with
    |false=>
     cases h4;exact⟨k1,fun p' hp'=>by
      rcases Di.1 hp' with e|e
      ·cases e
      ·exact mono p' e⟩
    |true=>cases h4
   |loop x=>
    cases b with
    |false=>
     cases h4;exact⟨k1,fun p' hp'=>by
      rcases Di.1 hp' with e|e
      ·have e:p'=q:=by injection e
       rw[e];show q<2*q+0;omega
      ·exact mono p' e⟩
    |true=>cases h4
   |_=>cases h4
section
variable {U:Un} {T:Tab} {α:Type}
def BP (U:Un){α:Type}(F:Fr)(r:α)(B:List (Nat×(SS U.D->Option α)))(p:Nat)(S:St):Prop:= ∃f S1,lk B p=some f∧Do F S (S1.toSt U)∧WF S1∧f S1=some r
def QS (U:Un){α:Type}(F:Fr)(js:List Nat)(c0:Code)(r:α)(R0:St->Prop)(B:List (Nat×(SS U.D->Option α))):List Fm->Exit->St->Prop
 |[]=>fun e S=>(e= .normal∨e= .ret)∧R0 S
 | .th c _::fr=>Exit.andThen (fun S=>W F c S (QS U F js c0 r R0 B fr)) (QS U F js c0 r R0 B fr)
 | .bl id::fr=>Exit.shutBlock id (QS U F js c0 r R0 B fr)
 | .lp p::fr=>Exit.andThen (BP U F r B p) (QS U F js c0 r R0 B fr)
 | .jn p::fr=>Exit.andThen (fun S=> ∀a b fr',Li js c0 p=some (.seq a b,fr')->W F b S (QS U F js c0 r R0 B fr)) (QS U F js c0 r R0 B fr)
theorem Ss{F:Fr}{r:α}{R0:St->Prop}{B B':List (Nat×(SS U.D->Option α))}: ∀(fr:List Fm),(∀p,Fm.lp p∈fr->lk B p=lk B' p)->QS U F js c0 r R0 B fr=QS U F js c0 r R0 B' fr:=by
 intro fr
 induction fr with
 |nil=>intro _;rfl
 |cons x fr ih=>
  intro h
  have:=ih fun p hp=>h p (by simp[hp])
  cases x with
  |th c p=>simp only[QS,this]
  |bl id=>simp only[QS,this]
  |lp p=>
   have h1:BP U F r B p=BP U F r B' p:=by
    funext S
    simp only[BP,h p (by simp)]
   simp only[QS,this,h1]
  |jn p=>simp only[QS,this]
theorem Aju{F:Fr}{r:α}{R0:St->Prop}{B:List (Nat×(SS U.D->Option α))}{S:St}(h:R0 S): ∀(fr:List Fm),QS U F js c0 r R0 B fr .ret S:=by
 intro fr
 induction fr with
 |nil=>exact⟨.inr rfl,h⟩
 |cons x fr ih=>cases x<;>exact ih
def Ahm (U:Un)(F:Fr)(js:List Nat)(c0:Code)(r:α)(R0:St->Prop)(B:List (Nat×(SS U.D->Option α)))(p:Nat)(f:SS U.D->Option α):Prop:=
 1≤p∧ ∀c fr,Li js c0 p=some (c,fr)-> ∀S1:SS U.D,WF S1->f S1=some r→
  (∀x,c= .loop x->W F c (S1.toSt U) (QS U F js c0 r R0 B fr))∧(∀a b,c= .seq a b->W F b (S1.toSt U) (QS U F js c0 r R0 B fr))
theorem Amh (hU:Ab U){F:Fr}(he:F2 F T){X:Ox U α}(hX:N8 U T F.P X)(hN:F.N=X.N)(hm:F.P.follows .mixedOrders=true){r:α}{R0:St->Prop}(hfin: ∀S:SS U.D,WF S->X.fin S=some r->R0 (S.toSt U))
  (hcut: ∀p f,lk X.Λ p=some f->Ahm U F X.js c0 r R0 X.Λb p f): ∀n:Nat,
  (∀c p fr (S:SS U.D),1≤p->Li X.js c0 p=some (c,fr)->WF S->go U T X n (.code c p) S fr=some r->W F c (S.toSt U) (QS U F X.js c0 r R0 X.Λb fr))∧
  (∀fr (S:SS U.D),Vp X.js c0 fr->WF S->go U T X n .nrm S fr=some r->QS U F X.js c0 r R0 X.Λb fr .normal (S.toSt U))∧
  (∀id fr (S:SS U.D),Vp X.js c0 fr->WF S->go U T X n (.ex id) S fr=some r->QS U F X.js c0 r R0 X.Λb fr (.exit id) (S.toSt U)):=by
 intro n
 induction n with
 |zero=>exact⟨(by intro _ _ _ _ _ _ _ h;cases h),(by intro _ _ _ _ h;cases h),(by intro _ _ _ _ _ h;cases h)⟩
 |succ n ih=>
  obtain⟨ihc,ihn,ihe⟩:=ih;refine⟨fun c p fr S hp hat hw h=> ?_,fun fr S hfr hw h=> ?_,fun id fr S hfr hw h=> ?_⟩
  ·obtain⟨hfr,_⟩:=Ac7 p hp hat;cases c with
   |skip=>exact Ahq (ihn fr S hfr hw h)
   |label l=>exact Aer (ihn fr S hfr hw h)
   |region id ops draw=>
    have h:(match !draw||Gp ops with
     |true=>Q74 U T S (fun S=>Eu U T X draw ops ops.toList S [] fun S'=>go U T X n .nrm S' fr) (lkD X.pre id)
     |false=>none)=some r:=h
    split at h
    ·rename_i hdn;obtain⟨S1,h1,h2,h3⟩:=Q83 hU he _ hw h;exact W.weakF h2 (Y3 hU he hX hN hm (fun S' h4 h5=>ihn fr S' hfr h5 h4) h3 hdn h1)
    ·cases h
   |seq a b=>
    have h:(match X.js.contains p with
     |true=>go U T X n (.code a (2*p)) S (.jn p::fr)
     |false=>go U T X n (.code a (2*p)) S (.th b (2*p+1)::fr))=some r:=h
    have hl:=W8 hp hat;refine Alk ?_;split at h
    ·rename_i hj
     have hl:Li X.js c0 (2*p)=some (a,.jn p::fr):=by rw[hl];simp only[Ev,hj]
     have:=ihc a (2*p) _ S (by omega) hl hw h
     refine this.mono fun e S' hq=> ?_;cases e with
     |normal=>exact hq a b fr hat
     |_=>exact hq
    ·rename_i hj
     have hl:Li X.js c0 (2*p)=some (a,.th b (2*p+1)::fr):=by rw[hl];simp only[Ev,hj]
     exact ihc a (2*p) _ S (by omega) hl hw h
   |cond x a b=>
    have h:(match S.val T 0 x with
     | .c (.bool e)=>bif e then go U T X n (.code a (2*p)) S fr else go U T X n (.code b (2*p+1)) S fr
     |_=>none)=some r:=h
    split at h
    ·rename_i e ev;refine Aic (b:=e) (Q62 ev) ?_;cases e with
     |true=>exact ihc a (2*p) fr S (by omega) (by rw[W8 hp hat];rfl) hw h
     |false=>exact ihc b (2*p+1) fr S (by omega) (by rw[Ac6 hp hat];rfl) hw h
    ·cases h
   |block id c=>
    exact Aes (ihc c (2*p) _ S (by omega) (by rw[W8 hp hat];rfl) hw h)
   |loop x=>
    have h:lkF U X.Λ p S=some r:=h;unfold lkF at h;split at h
    ·rename_i f ef;exact((hcut p f ef).2 _ _ hat S hw h).1 x rfl
    ·cases h
   |exit id=>exact Ahr (ihe id fr S hfr hw h)
   |ret=>exact Alj (Aju (hfin S hw h) fr)
   |_=>cases h
  ·cases fr with
   |nil=>exact⟨.inl rfl,hfin S hw h⟩
   |cons x fr=>
    cases x with
    |th c p=>exact ihc c p fr S hfr.1 hfr.2.1 hw h
    |bl id=>exact ihn fr S hfr hw h
    |lp p=>
     have h:lkF U X.Λb p S=some r:=h;unfold lkF at h;split at h
     ·rename_i f ef;exact⟨f,S,ef,Do.refl _,hw,h⟩
     ·cases h
    |jn p=>
     have h:lkF U X.Λ p S=some r:=h;unfold lkF at h;split at h
     ·rename_i f ef;obtain⟨⟨a,b,hat⟩,hfr⟩:=hfr;intro a' b' fr' hat';rw[hat]at hat';cases hat';exact((hcut p f ef).2 _ _ hat S hw h).2 a b rfl
     ·cases h
  ·cases fr with
   |nil=>cases h
   |cons x fr=>
    cases x with
    |th c p=>exact ihe id fr S hfr.2.2 hw h
    |bl id'=>
     replace h:(match Nat.beq id id' with
      |true=>go U T X n .nrm S fr
      |false=>go U T X n (.ex id) S fr)=some r:=h
     split at h
     ·rename_i e
      have:=A7 e;subst this;exact Aik (ihn fr S hfr hw h)
     ·rename_i e;exact Ae9 e (ihe id fr S hfr hw h)
    |lp p=>exact ihe id fr S hfr hw h
    |jn p=>exact ihe id fr S hfr.2 hw h
end
end Go.Eng
namespace Go.Eng
section
variable {U:Un} {T:Tab} {S:SS U.D} {τ:Nat->Int}
theorem Su{c:TC}: ∀ {r:List TC} (x:c.T U) (y:As U r),As.hd U (As.mk U x y)=x:=by
 intro r;cases r<;>(intro x y;rfl)
theorem Sv{c:TC}: ∀ {r:List TC} (x:c.T U) (y:As U r),As.tl U (As.mk U x y)=y:=by
 intro r;cases r with
 |nil=>intro x y;rfl
 |cons=>intro x y;rfl
theorem Mu (hU:Ab U){outs:List Nat}{id ver t:Nat}{d c:Bool}{l:List (U.D t)}(h:S.blk id=some (.rows ver t d c l)):F6 false outs (S.toSt U).H id=(SB.rows 0 t d false l).toB U:=by
 unfold F6;rw[Ac h];cases d with
 |true=>exact(hU.eF t).lowB_at _ _ _ _ _
 |false=>exact Go.Eng.lowB_at (hU.en t) _ _ _ _ _
theorem Ajv (hU:Ab U){outs:List Nat}{W:List TC}: ∀(es:List (Nat×Bool)) (n:Nat) (w:Option (As U W)) (q:As U (es.map (fun e=>TC.l e.1)++W)),Abk U S es W n w=some q→
  w=some (E8 U es W q).2∧(List.range' (n+1) es.length).map (F6 false outs (S.toSt U).H)=(E8 U es W q).1.map (SB.toB U)∧ ∀i∈List.range' (n+1) es.length,((S.toSt U).H i).isSome=true:=by
 intro es
 induction es with
 |nil=>intro n w q h;exact⟨h,rfl,by intro i hi;simp at hi⟩
 |cons e es ih=>
  intro n w q h;obtain⟨e,d⟩:=e;unfold Abk at h;split at h
  ·rename_i ver e' d' c l q' hB hq;cases e1:d'==d with
   |false=>rw[e1]at h;cases h
   |true=>
    have hd:=eq_of_beq e1;subst hd;cases e2:decEq e' e with
    |isFalse hne=>rw[e1,e2]at h;cases h
    |isTrue he=>
     subst he;rw[e1,e2]at h
     have h:=Gi h;obtain⟨g1,g2,g3⟩:=ih (n+1) w q' hq
     have hh:As.hd U q=l:=by rw[←h];exact Su (c:= .l e') l q'
     have ht:As.tl U q=q':=by rw[←h];exact Sv (c:= .l e') l q'
     refine⟨?_,?_,fun i hi=> ?_⟩
     ·show w=some (E8 U es W (As.tl U q)).2;rw[ht];exact g1
     ·show _=List.map (SB.toB U) (SB.rows 0 e' d' false (As.hd U q)::(E8 U es W (As.tl U q)).1);rw[ht,hh,Z8,←g2,←Mu hU (outs:=outs) hB];rfl
     ·have hi:i∈(n+1)::List.range' (n+1+1) es.length:=hi;rcases Di.1 hi with rfl|hi
      ·rw[Ac hB];rfl
      ·exact g3 i hi
  ·cases h
theorem Ajw (hU:Ab U){outs:List Nat}: ∀(ps:List PM) (n:Nat) (q:As U (At ps)),Ny U S ps n=some q→
  (List.range' (n+1) (Bc ps)).map (F6 false outs (S.toSt U).H)=(Gu U ps q).map (SB.toB U)∧ ∀i∈List.range' (n+1) (Bc ps),((S.toSt U).H i).isSome=true:=by
 intro ps
 induction ps with
 |nil=>intro n q h;exact⟨rfl,by intro i hi;simp[Bc]at hi⟩
 |cons p ps ih=>
  intro n q h;cases p with
  |v t=>exact ih n q h
  |r t=>exact ih n q h
  |f fid caps ts=>exact ih n q h
  |b t m=>
   have h:(match S.blk (n+1),Ny U S ps (n+1)with
    |some (.box _ cs),some q=>match U.fO t m cs with
     |some x=>some (As.mk U (c:= .d t) x q)
     |none=>none
    |_,_=>none)=some q:=h
   split at h
   ·rename_i ver cs q' hB hq;split at h
    ·rename_i x hx
     have h:=Gi h;obtain⟨g1,g2⟩:=ih (n+1) q' hq
     have hh:As.hd U q=x:=by rw[←h];exact Su (c:= .d t) x q'
     have ht:As.tl U q=q':=by rw[←h];exact Sv (c:= .d t) x q'
     have hc:=hU.fO t m cs x hx
     have hlen:(U.cO t m x).length=cs.length:=by
      have:=congrArg List.length hc;simpa using this.symm
     have hr:List.range' (n+1) (Bc (.b t m::ps))=(n+1)::List.range' (n+1+1) (Bc ps):=by
      show List.range' (n+1) (Bc ps+1)=_;rw[List.range'_succ]
     rw[hr];refine⟨?_,fun i hi=> ?_⟩
     ·show _=List.map (SB.toB U) (SB.box 0 (U.cO t m (As.hd U q))::Gu U ps (As.tl U q));rw[ht,hh,Z8,Z8,←g1]
      congr 1
      unfold F6;rw[Ac hB]
      show Blk.mk 0 cs.length [(cs.map (SV.toV U)).map _]=Blk.mk 0 _ [_];rw[hlen,hc]
      congr 2
      refine(Er fun v hv=> ?_).trans (List.map_id _);exact Af3 (Z1.1 (Q73 hU (hU.shut t m x)) v hv) _ _ _
     ·rcases Di.1 hi with rfl|hi
      ·rw[Ac hB];rfl
      ·exact g2 i hi
    ·cases h
   ·cases h
  |w t m es=>
   have h:Abk U S es (At ps) n (Ny U S ps (n+es.length))=some q:=h;obtain⟨g1,g2,g3⟩:=Ajv hU (outs:=outs) es n _ q h;obtain⟨k1,k2⟩:=ih (n+es.length) _ g1
   have hr:List.range' (n+1) (Bc (.w t m es::ps))=List.range' (n+1) es.length++List.range' (n+es.length+1) (Bc ps):=by
    show List.range' (n+1) (Bc ps+es.length)=_;rw[Nat.add_comm (Bc ps),←List.range'_append_1,Nat.add_right_comm]
   rw[hr];refine⟨?_,fun i hi=> ?_⟩
   ·show _=List.map (SB.toB U) ((E8 U es (At ps) q).1++Gu U ps (E8 U es (At ps) q).2);rw[Fv,Fv,g2,k1]
   ·rcases Gh.1 hi with hi|hi
    ·exact g3 i hi
    ·exact k2 i hi
def Eo (agg:Bool)(cs:List V):A:=match agg with
 |true=> .g cs
 |false=> .c (cs.headD .undef)
theorem Age{t sz:Nat}{agg:Bool}(h:szT T t=some (sz,agg)): ∃ti,tg T t=some ti∧ti.size=sz∧ti.k.agg=agg:=by
 unfold szT at h;split at h
 ·rename_i ti e;cases h;exact⟨ti,e,rfl,rfl⟩
 ·cases h
theorem Kq (hw:A5 S τ){x:ResultVar}{agg:Bool}{cs:List (SV U.D)}(h:Q64 U T S x=some (agg,cs)):
  L8 T (S.toSt U) x=some (Eo agg (cs.map (SV.toV U)))∧(∀c∈cs,c.ok S τ)∧(agg=false-> ∃v,cs=[v]):=by
 cases x with
 |tmp t=>
  have hok:=hw.get t;simp only[Q64]at h;split at h
  ·rename_i v e;cases h;rw[e]at hok;refine⟨?_,fun c hc=> ?_,fun _=>⟨_,rfl⟩⟩
   ·show some ((S.get t).toA U)=_;rw[e];rfl
   ·simp only[Mx]at hc;subst hc;exact hok
  ·rename_i cs' e;cases h;rw[e]at hok;exact⟨by show some ((S.get t).toA U)=_;rw[e];rfl,hok,fun h=>by cases h⟩
  ·cases h
 |cell a t=>
  simp only[Q64]at h;split at h
  ·rename_i id ver j sz agg' ea es;obtain⟨ti,ht,rfl,rfl⟩:=Age es;split at h
   ·rename_i ver' cs' hB;split at h
    ·rename_i hc;cases h;simp only[Z4]at hc;obtain⟨⟨⟨h1,h2⟩,h3⟩,h4⟩:=hc
     have h1:=A7 h1;subst h1
     have h2:=Ep h2
     have hlen:(slc cs' j ti.size).length=ti.size:=by simp only[slc,List.length_take,List.length_drop];omega
     refine⟨?_,fun c hc=>(hw.2.2 id _ hB).2 c (List.mem_of_mem_drop (Zm hc)),fun ha=> ?_⟩
     ·have e1:(S.toSt U).env a= .c (.ptr id ver 0 j):=by show(S.get a).toA U=_;rw[ea];rfl
      have hno:(((cs'.map (SV.toV U)).drop j).take ti.size).all (fun v=> !Th v)=true:=by
       rw[←Jb];exact Ry h3
      simp only[L8,ht,e1,Ac hB,SB.toB,Gj];rw[if_pos ⟨trivial,by rw[Bu];exact h2,hno⟩,←Jb]
      unfold Dk Eo;cases hk:ti.k.agg with
      |true=>rfl
      |false=>
       rw[hk]at h4
       have h5:ti.size=1:=A7 (by simpa using h4)
       rw[h5]at hlen ⊢;generalize slc cs' j 1=l at hlen ⊢
       match l,hlen with
       |[v],_=>rfl
     ·rw[ha]at h4
      have h5:ti.size=1:=A7 (by simpa using h4)
      rw[h5]at hlen ⊢;generalize slc cs' j 1=l at hlen ⊢
      match l,hlen with
      |[v],_=>exact⟨v,rfl⟩
    ·cases h
   ·cases h
  ·cases h
theorem Ac8{v:SV U.D}(h:isT v=false):(v.toV U).cold=v.toV U:=by cases v<;>first|rfl|cases h
theorem Sw{v:V}(h:v.cold.closed=true):v.closed=true:=by
 cases v with
 |row o es xs=>rfl
 |int=>rfl
 |bool=>rfl
 |str=>rfl
 |nilp=>rfl
 |_=>cases h
def Fu (outs:List Nat)(H:Nat->Option Blk)(v:V):V:=(v.low false outs H).cold
theorem Ami{outs:List Nat}{H:Nat->Option Blk}{v:V}(h:v.closed=true):Fu outs H v=v.cold:=by unfold Fu;rw[Af3 h]
theorem Sx{outs:List Nat}{H:Nat->Option Blk}{agg:Bool}{l:List V}:A.low false outs H (Eo agg l)=Eo agg (l.map (Fu outs H)):=by
 cases agg with
 |true=>rfl
 |false=>show A.c (Fu outs H (l.headD .undef))=A.c ((l.map (Fu outs H)).headD .undef);rw[Mn (Fu outs H) l .undef .undef rfl]
theorem Vq{v:SV U.D}{r cs':List (SV U.D)}{is:List Nat}(h:E9 U S (v::r)=some (cs',is)):
  (∃id ver n t d c l cs2 is2,v= .own id ver n∧S.blk id=some (.rows ver t d c l)∧E9 U S r=some (cs2,is2)∧cs'= .rowT t d l::cs2∧is=id::is2)∨(v.shut=true∧isT v=false∧ ∃cs2,E9 U S r=some (cs2,is)∧cs'=v::cs2):=by
 have other:(match v.shut&& !isT v,E9 U S r with
  |true,some (cs,ids)=>some (v::cs,ids)
  |_,_=>none)=some (cs',is)->(v.shut=true∧isT v=false∧ ∃cs2,E9 U S r=some (cs2,is)∧cs'=v::cs2):=by
  intro h;split at h
  ·rename_i cs ids e1 e2;cases h;simp only[Z4,Zu]at e1;exact⟨e1.1,e1.2,cs,e2,rfl⟩
  ·cases h
 cases v with
 |own id ver n=>
  left
  have h:(match S.blk id,E9 U S r with
   |some (.rows ver' t d _ l),some (cs,ids)=>match Nat.beq ver ver' with
    |true=>some (.rowT t d l::cs,id::ids)
    |false=>none
   |_,_=>none)=some (cs',is):=h
  split at h
  ·rename_i ver' t d c l cs2 is2 hB e2;split at h
   ·rename_i e3
    have:=A7 e3;subst this;cases h;exact⟨id,ver,n,t,d,c,l,cs2,is2,rfl,hB,e2,rfl,rfl⟩
   ·cases h
  ·cases h
 |_=>exact .inr (other h)
theorem Agf (hU:Ab U){outs:List Nat}(hnd:outs.Nodup): ∀(cs:List (SV U.D)) {cs':List (SV U.D)} {is:List Nat} (n:Nat) (cs1:List (SV U.D)),E9 U S cs=some (cs',is)->(∀c∈cs,c.ok S τ)->cs'.map (SV.toV U)=cs1.map (SV.toV U)->(∀(k id:Nat),is[k]? =some id->outs[n+k]? =some id)→
  (cs.map (SV.toV U)).map (Fu outs (S.toSt U).H)=(Q9 U n cs1).1.map (SV.toV U)∧is.map (F6 false outs (S.toSt U).H)=(Q9 U n cs1).2.map (SB.toB U)∧ ∀id∈is,((S.toSt U).H id).isSome=true:=by
 intro cs
 induction cs with
 |nil=>
  intro cs' is n cs1 h _ h1 _;cases h;cases cs1 with
  |nil=>exact⟨rfl,rfl,by intro id hi;cases hi⟩
  |cons x r=>cases h1
 |cons v r ih=>
  intro cs' is n cs1 h hok h1 hat;rcases Vq h with ⟨id,ver,m,t,d,c,l,cs2,is2,rfl,hB,e2,rfl,rfl⟩|⟨hs,hT,cs2,e2,rfl⟩
  ·cases cs1 with
   |nil=>cases h1
   |cons x s=>
    simp only[Z8,Ld]at h1;obtain⟨t',d',l',rfl,hsz,hll⟩:=Wu (v:=x) h1.1.symm;obtain⟨g1,g2,g3⟩:=ih (n+1) s e2 (fun c hc=>hok c (by simp[hc])) h1.2 (fun k id' hk=>by
     have:=hat (k+1) id' (by simpa using hk)
     rwa[show n+(k+1)=n+1+k by omega]at this)
    have hv:=hok (.own id ver m) (by simp)
    have hm:m=l.length:=hv.2 _ hB rfl
    have hll2:l'.length=l.length:=by
     have:=congrArg List.length hll;simpa using this
    have hpos:Ai outs id=some n:=Fy hnd (hat 0 id (by simp))
    refine⟨?_,?_,fun i hi=> ?_⟩
    ·simp only[Q9,Z8,g1,Ld,and_true]
     show(V.low1 false outs (S.toSt U).H (.own id ver 0 m)).cold=_;simp only[V.low1,Ac hB,SB.toB,if_true,hpos,hm,hll2];rfl
    ·simp only[Q9,Z8,g2,Ld,and_true];rw[Mu hU hB];simp only[SB.toB,hsz,hll]
    ·rcases Di.1 hi with rfl|hi
     ·rw[Ac hB];rfl
     ·exact g3 i hi
  ·cases cs1 with
   |nil=>cases h1
   |cons x s=>
    simp only[Z8,Ld]at h1;obtain⟨g1,g2,g3⟩:=ih n s e2 (fun c hc=>hok c (by simp[hc])) h1.2 hat
    have hx:isT x=false:=by
     cases hx:isT x with
     |false=>rfl
     |true=>
      have h2:=Q59 (U:=U) x;rw[←h1.1,Q59,hT,hx]at h2;cases h2
    rw[Q26 hx];refine⟨?_,g2,g3⟩;simp only[Z8,g1,Ld,and_true];rw[Ami (Q33 hU hs),Ac8 hT,h1.1]
theorem Ac9 (cs:List (SV U.D)): ∀n m:Nat,(Q9 U n cs).2=(Q9 U m cs).2:=by
 induction cs with
 |nil=>intro n m;rfl
 |cons v r ih=>
  intro n m
  by_cases hx:isT v=true
  ·cases v with
   |rowT t d l=>simp only[Q9,ih (n+1) (m+1)]
   |_=>cases hx
  ·have hx:isT v=false:=by simpa using hx
   rw[Q26 hx,Q26 hx];exact ih n m
theorem Y6{x:ResultVar}{id:Nat}{cs:List (SV U.D)}(h:Wp U S x=some (id,cs)): ∃y ver,x= .tmp y∧S.get y= .c (.ptr id ver 0)∧S.blk id=some (.box ver cs):=by
 cases x with
 |cell a t=>cases h
 |tmp y=>
  simp only[Wp]at h;split at h
  ·rename_i id' ver e;split at h
   ·rename_i ver' cs' hB;split at h
    ·rename_i hv;cases h
     have:=A7 hv;subst this;exact⟨y,ver,rfl,e,hB⟩
    ·cases h
   ·cases h
  ·cases h
theorem Ajx (hU:Ab U)(hw:A5 S τ){W:List TC}{w:Option (As U W)}{outs:List Nat}(hnd:outs.Nodup): ∀(xs:List ResultVar) (rs:List RM) (n:Nat) {q:As U (rs.map RM.code++W)} {ids:List Nat},Nz U T S w xs rs=some (q,ids)->(∀(k id:Nat),ids[k]? =some id->outs[n+k]? =some id)→
  ∃Cs:List (Bool×List (SV U.D)),xs.map (L8 T (S.toSt U))=Cs.map (fun c=>some (Eo c.1 (c.2.map (SV.toV U))))∧
   Cs.map (fun c=>(c.1,(c.2.map (SV.toV U)).map (Fu outs (S.toSt U).H)))=(Dt U W rs n q).1.map (fun c=>(c.1,c.2.map (SV.toV U)))∧(∀c∈Cs,c.1=false-> ∃v,c.2=[v])∧
   ids.map (F6 false outs (S.toSt U).H)=(Dt U W rs n q).2.1.map (SB.toB U)∧w=some (Dt U W rs n q).2.2∧ ∀id∈ids,((S.toSt U).H id).isSome=true:=by
 intro xs
 induction xs with
 |nil=>
  intro rs n q ids h _;cases rs with
  |nil=>
   unfold Nz at h;cases hw':w with
   |none=>rw[hw']at h;cases h
   |some q'=>
    rw[hw']at h;cases h;exact⟨[],rfl,rfl,(by intro c hc;cases hc),rfl,rfl,(by intro id hi;cases hi)⟩
  |cons r rs=>cases r<;>cases h
 |cons x xs ih=>
  intro rs n q ids h hat;cases rs with
  |nil=>cases h
  |cons r rs=>
   cases r with
   |v t=>
    have h:(match Q64 U T S x,Nz U T S w xs rs with
     |some (agg,cs),some (q,ids)=>match agg==U.ag t,U.fS t (cs.map (Dy U))with
      |true,some a=>some (As.mk U (c:= .d t) a q,ids)
      |_,_=>none
     |_,_=>none)=some (q,ids):=h
    split at h
    ·rename_i agg cs q' ids' e1 e2;split at h
     ·rename_i a ha hf
      have h:=Gi h
      have hq:As.mk U (c:= .d t) a q'=q:=congrArg Prod.fst h
      have hi:ids'=ids:=congrArg Prod.snd h;subst hi
      have hh:As.hd U q=a:=by rw[←hq];exact Su (c:= .d t) a q'
      have ht:As.tl U q=q':=by rw[←hq];exact Sv (c:= .d t) a q'
      have hag:=eq_of_beq ha;obtain⟨k1,k2,k3⟩:=Kq hw e1;obtain⟨Cs,g1,g2,g3,g4,g5,g6⟩:=ih rs n e2 hat
      have hcs:=hU.fS t _ a hf
      have hout:(cs.map (SV.toV U)).map (Fu outs (S.toSt U).H)=(U.cs t a).map (SV.toV U):=by
       rw[hU.cs t a,←hcs,Cq,Cq];refine Er fun c hc=> ?_
       have hcl:((Dy U c).toV U).closed=true:=Z1.1 ((hU.en t).closed a) _ (by rw[←hcs,Cq];exact List.mem_map_of_mem hc)
       rw[Jf]at hcl
       show Fu outs _ (c.toV U)=(Dy U c).toV U;rw[Ami (Sw hcl),Jf]
      refine⟨(agg,cs)::Cs,?_,?_,?_,?_,?_,g6⟩
      ·rw[Z8,Z8,g1,k1]
      ·show _=List.map _ ((U.ag t,U.cs t (As.hd U q))::(Dt U W rs n (As.tl U q)).1);rw[ht,hh,Z8,Z8,g2,hag];simp only[hout]
      ·intro c hc;rcases Di.1 hc with rfl|hc
       ·exact k3
       ·exact g3 c hc
      ·show _=List.map _ (Dt U W rs n (As.tl U q)).2.1;rw[ht];exact g4
      ·show _=some (Dt U W rs n (As.tl U q)).2.2;rw[ht];exact g5
     ·cases h
    ·cases h
   |n t m=>
    have h:(match Q64 U T S x,Nz U T S w xs rs with
     |some (agg,cs),some (q,ids)=>match E9 U S cs with
      |some (cs',is)=>match agg==U.ag t,U.fO t m cs' with
       |true,some a=>some (As.mk U (c:= .d t) a q,is++ids)
       |_,_=>none
      |none=>none
     |_,_=>none)=some (q,ids):=h
    split at h
    ·rename_i agg cs q' ids' e1 e2;split at h
     ·rename_i cs' is e3;split at h
      ·rename_i a ha hf
       have h:=Gi h
       have hq:As.mk U (c:= .d t) a q'=q:=congrArg Prod.fst h
       have hi:is++ids'=ids:=congrArg Prod.snd h;subst hi
       have hh:As.hd U q=a:=by rw[←hq];exact Su (c:= .d t) a q'
       have ht:As.tl U q=q':=by rw[←hq];exact Sv (c:= .d t) a q'
       have hag:=eq_of_beq ha;obtain⟨k1,k2,k3⟩:=Kq hw e1
       have hc:=hU.fO t m cs' a hf;obtain⟨o1,o2,o3⟩:=Agf hU hnd cs n (U.cO t m a) e3 k2 hc (fun k id hk=>hat k id (by
        rw[Fi (Z3.1 hk).1];exact hk))
       have hlen:(Q9 U n (U.cO t m a)).2.length=is.length:=by
        have:=congrArg List.length o2;simpa using this.symm
       obtain⟨Cs,g1,g2,g3,g4,g5,g6⟩:=ih rs (n+is.length) e2 (fun k id hk=>by
        have:=hat (is.length+k) id (by rw[E0 (by omega),Nat.add_sub_cancel_left];exact hk)
        rwa[←Zn]at this)
       refine⟨(agg,cs)::Cs,?_,?_,?_,?_,?_,?_⟩
       ·rw[Z8,Z8,g1,k1]
       ·show _=List.map _ ((U.ag t,(Q9 U n (U.cO t m (As.hd U q))).1)::(Dt U W rs (n+(Q9 U n (U.cO t m (As.hd U q))).2.length) (As.tl U q)).1);rw[ht,hh,hlen,Z8,Z8,g2,hag];simp only[o1]
       ·intro c hc;rcases Di.1 hc with rfl|hc
        ·exact k3
        ·exact g3 c hc
       ·show _=List.map _ ((Q9 U n (U.cO t m (As.hd U q))).2++(Dt U W rs (n+(Q9 U n (U.cO t m (As.hd U q))).2.length) (As.tl U q)).2.1);rw[ht,hh,hlen,Fv,Fv,o2,g4]
       ·show _=some (Dt U W rs (n+(Q9 U n (U.cO t m (As.hd U q))).2.length) (As.tl U q)).2.2;rw[ht,hh,hlen];exact g5
       ·intro id hi;rcases Gh.1 hi with hi|hi
        ·exact o3 id hi
        ·exact g6 id hi
      ·cases h
     ·cases h
    ·cases h
   |p t m=>
    have h:(match Wp U S x,Nz U T S w xs rs with
     |some (id,cs),some (q,ids)=>match U.fO t m cs with
      |some a=>some (As.mk U (c:= .d t) a q,id::ids)
      |none=>none
     |_,_=>none)=some (q,ids):=h
    split at h
    ·rename_i id cs q' ids' e1 e2;split at h
     ·rename_i a hf
      have h:=Gi h
      have hq:As.mk U (c:= .d t) a q'=q:=congrArg Prod.fst h
      have hi:id::ids'=ids:=congrArg Prod.snd h;subst hi
      have hh:As.hd U q=a:=by rw[←hq];exact Su (c:= .d t) a q'
      have ht:As.tl U q=q':=by rw[←hq];exact Sv (c:= .d t) a q'
      obtain⟨y,ver,rfl,hy,hB⟩:=Y6 e1
      have hc:=hU.fO t m cs a hf
      have hlen:(U.cO t m a).length=cs.length:=by
       have:=congrArg List.length hc;simpa using this.symm
      have hpos:Ai outs id=some n:=Fy hnd (hat 0 id (by simp))
      obtain⟨Cs,g1,g2,g3,g4,g5,g6⟩:=ih rs (n+1) e2 (fun k id' hk=>by
       have:=hat (k+1) id' (by simpa using hk)
       rwa[show n+(k+1)=n+1+k by omega]at this)
      refine⟨(false,[.ptr id ver 0])::Cs,?_,?_,?_,?_,?_,?_⟩
      ·rw[Z8,Z8,g1]
       congr 1
       show some ((S.get y).toA U)=_;rw[hy];rfl
      ·show _=List.map _ ((false,[SV.ptr (n+1) 0 0])::(Dt U W rs (n+1) (As.tl U q)).1);rw[ht,Z8,Z8,g2]
       congr 2
       show [Fu outs (S.toSt U).H (.ptr id ver 0 0)]=[V.ptr (n+1) 0 0 0];unfold Fu;simp only[V.low,V.low1,Ac hB,SB.toB,if_true,hpos];rfl
      ·intro c hc;rcases Di.1 hc with rfl|hc
       ·exact fun _=>⟨_,rfl⟩
       ·exact g3 c hc
      ·show _=List.map _ (SB.box 0 (U.cO t m (As.hd U q))::(Dt U W rs (n+1) (As.tl U q)).2.1);rw[ht,hh,Z8,Z8,←g4]
       congr 1
       unfold F6;rw[Ac hB]
       show Blk.mk 0 cs.length [(cs.map (SV.toV U)).map _]=Blk.mk 0 _ [_];rw[hlen,hc]
       congr 2
       refine(Er fun v hv=> ?_).trans (List.map_id _);exact Af3 (Z1.1 (Q73 hU (hU.shut t m a)) v hv) _ _ _
      ·show _=some (Dt U W rs (n+1) (As.tl U q)).2.2;rw[ht];exact g5
      ·intro i hi;rcases Di.1 hi with rfl|hi
       ·rw[Ac hB];rfl
       ·exact g6 i hi
     ·cases h
    ·cases h
theorem Y7{β γ:Type}{f:β->Option γ}: ∀ {xs:List β} {l:List γ},xs.map f=l.map some->xs.mapM f=some l:=by
 intro xs
 induction xs with
 |nil=>intro l h;cases l with|nil=>rfl|cons=>cases h
 |cons x xs ih=>
  intro l h;cases l with
  |nil=>cases h
  |cons y l=>
   simp only[Z8,Ld]at h;rw[List.mapM_cons,h.1,ih h.2];rfl
theorem Amj{xs:List ResultVar}{S0:St}{outs:List Nat}{Cs L:List (Bool×List (SV U.D))}(h1:xs.map (L8 T S0)=Cs.map (fun c=>some (Eo c.1 (c.2.map (SV.toV U)))))(h2:Cs.map (fun c=>(c.1,(c.2.map (SV.toV U)).map (Fu outs S0.H)))=L.map (fun c=>(c.1,c.2.map (SV.toV U))))(h3: ∀c∈Cs,c.1=false-> ∃v,c.2=[v]):
  ∃u,Qr T S0 xs=some u∧u.lowT false outs S0.H=(Wj U L).toA U:=by
 have many: ∀(xs:List ResultVar),xs.map (L8 T S0)=Cs.map (fun c=>some (Eo c.1 (c.2.map (SV.toV U))))->(∃u,(xs.mapM (L8 T S0)).map A.t=some u∧u.lowT false outs S0.H=(SA.t L:SA U.D).toA U):=by
  intro xs h1;refine⟨.t (Cs.map fun c=>Eo c.1 (c.2.map (SV.toV U))),?_,?_⟩
  ·rw[Y7 (l:=Cs.map fun c=>Eo c.1 (c.2.map (SV.toV U))) (by rw[h1,Cq];rfl)];rfl
  ·show A.t _=A.t _
   congr 1
   rw[Cq]
   have e1:(Cs.map fun c=>A.low false outs S0.H (Eo c.1 (c.2.map (SV.toV U))))=(Cs.map (fun c=>(c.1,(c.2.map (SV.toV U)).map (Fu outs S0.H)))).map fun c=>Eo c.1 c.2:=by
    rw[Cq];exact Er fun c _=>Sx
   refine Eq.trans e1 ?_;rw[h2,Cq];refine Er fun c _=> ?_;obtain⟨ag,cs⟩:=c;cases ag<;>rfl
 have one: ∀ {l:List (Bool×List (SV U.D))} {m:List (Bool×List (SV U.D))},l.length=1-> ∃c,l=[c]:=by
  intro l m h;cases l with
  |nil=>cases h
  |cons c r=>cases r with
   |nil=>exact⟨c,rfl⟩
   |cons d r=>simp at h
 have hl1:=congrArg List.length h1
 have hl2:=congrArg List.length h2;simp only[Bu]at hl1 hl2;cases xs with
 |nil=>
  have hC:Cs=[]:=K9.1 hl1.symm;subst hC
  have hL:L=[]:=K9.1 hl2.symm;subst hL;exact⟨.t [],rfl,rfl⟩
 |cons x xs=>
  cases xs with
  |nil=>
   obtain⟨c,rfl⟩:=one (l:=Cs) (m:=[]) hl1.symm;obtain⟨c',rfl⟩:=one (l:=L) (m:=[]) hl2.symm;simp only[Z8,Gk,Ld,and_true,Prod.mk.injEq]at h1 h2;obtain⟨ag,cs⟩:=c;obtain⟨ag',cs'⟩:=c';obtain⟨e,h2⟩:=h2
   have e:ag=ag':=e;subst e;refine⟨_,h1,?_⟩
   have hl:A.lowT false outs S0.H (Eo ag (cs.map (SV.toV U)))=A.low false outs S0.H (Eo ag (cs.map (SV.toV U))):=by cases ag<;>rfl
   refine hl.trans (Sx.trans ?_)
   have h2:(cs.map (SV.toV U)).map (Fu outs S0.H)=cs'.map (SV.toV U):=h2;rw[h2];cases ag with
   |true=>rfl
   |false=>
    obtain⟨v,hv⟩:=h3 (false,cs) (by simp) rfl
    have hv:cs=[v]:=hv;subst hv
    have hl3:=congrArg List.length h2;cases cs' with
    |nil=>cases hl3
    |cons v' r=>cases r with
     |nil=>rfl
     |cons v2 r=>simp at hl3
  |cons y zs=>
   obtain⟨u,k1,k2⟩:=many (x::y::zs) h1;refine⟨u,k1,?_⟩
   have hlen:L.length=zs.length+2:=by rw[←hl2,←hl1];rfl
   cases L with
   |nil=>cases hlen
   |cons a L=>
    cases L with
    |nil=>simp at hlen
    |cons b L=>
     rw[k2];obtain⟨a1,a2⟩:=a;cases a1 with
     |true=>rfl
     |false=>
      cases a2 with
      |nil=>rfl
      |cons v r=>cases r<;>rfl
end
end Go.Eng
namespace Go.Eng
section
variable {U:Un} {T:Tab} {P:Program} {sg:Sig} {rl:List ResultVar} {N:Nat} {js:List Nat} {c0:Code}
def Pk (F:Fr)(U:Un)(T:Tab)(rl:List ResultVar)(sg:Sig)(r:As U sg.codes)(S:St):Prop:= ∃S1:St,Do F S S1∧Ret T rl (Bc sg.ps) ((sg.res U r).toA U) ((sg.blks U r).map (SB.toB U)) .ret S1
theorem Y8 (n k:Nat)(h:k<n):(List.range' 1 n)[k]? =some (k+1):=by
 rw[List.getElem?_range' h,Nat.one_mul,Nat.add_comm]
theorem Ajy (hU:Ab U){F:Fr}(he:F2 F T)(hm:F.m=Bc sg.ps+1){S:SS U.D}(hw:WF S){r:As U sg.codes}(h:Afl U T sg rl S=some r):Pk F U T rl sg r (S.toSt U)∧rl.length≤4:=by
 unfold Afl at h;obtain⟨S1,h1,h2,τ,h3⟩:=Q83 hU he _ hw h;unfold Alx at h1;split at h1
 ·rename_i q ids hq;split at h1
  ·rename_i hc;cases h1;simp only[Z4,decide_eq_true_eq]at hc;obtain⟨⟨hnd,h100⟩,hl4⟩:=hc;refine⟨⟨_,h2,?_⟩,Ep hl4⟩
   have hmm:=he.m
   have hlt: ∀i∈List.range' 1 (Bc sg.ps),i<100:=fun i hi=>by
    rw[List.mem_range'_1]at hi;omega
   have houts:(List.range' 1 (Bc sg.ps)++ids).Nodup:=by
    refine List.nodup_append.2 ⟨List.nodup_range',hnd,fun i hi j hj e=> ?_⟩
    have:=Ep (Z1.1 h100 j hj)
    have:=hlt i hi;omega
   obtain⟨Cs,g1,g2,g3,g4,g5,g6⟩:=Ajx hU h3 (outs:=List.range' 1 (Bc sg.ps)++ids) houts rl sg.rs (Bc sg.ps) hq (fun k id hk=>by
    rw[E0 (by simp)];simpa using hk)
   obtain⟨k1,k2⟩:=Ajw hU (outs:=List.range' 1 (Bc sg.ps)++ids) sg.ps 0 _ g5;obtain⟨u,u1,u2⟩:=Amj g1 g2 g3;refine Aoo (Bc sg.ps) (List.range' 1 (Bc sg.ps)++ids) houts ?_ ?_ u1 u2 ?_
   ·refine Z1.2 fun i hi=> ?_
    have hi:=List.mem_range.1 hi;rw[Fi (by simpa using hi),Y8 _ _ hi]
    exact beq_self_eq_true _
   ·refine Z1.2 fun i hi=> ?_;rcases Gh.1 hi with hi|hi
    ·exact k2 i hi
    ·exact g6 i hi
   ·rw[Fv,g4]
    show _=List.map (SB.toB U) (Gu U sg.ps (Dt U (At sg.ps) sg.rs (Bc sg.ps) r).2.2++(Dt U (At sg.ps) sg.rs (Bc sg.ps) r).2.1);rw[Fv,←k1]
  ·cases h1
 ·cases h1
abbrev Λt (U:Un)(sg:Sig):=List (Nat×(SS U.D->Option (As U sg.codes)))
def Cut (U:Un)(T:Tab)(P:Program)(rl:List ResultVar)(sg:Sig)(N:Nat)(js:List Nat)(c0:Code)(B:Λt U sg)(p:Nat)(f:SS U.D->Option (As U sg.codes)):Prop:=
 ∀(F:Fr) (r:As U sg.codes),F.P=P->F.N=N->F2 F T->F.m=Bc sg.ps+1->Ahm U F js c0 r (Pk F U T rl sg r) B p f
def Vr (U:Un)(T:Tab)(P:Program)(rl:List ResultVar)(sg:Sig)(N:Nat)(js:List Nat)(c0:Code)(B:Λt U sg)(l:Λt U sg):Prop:= ∀p f,lk l p=some f->Cut U T P rl sg N js c0 B p f
theorem kN{B:Λt U sg}:Vr U T P rl sg N js c0 B []:=fun p f h=>by cases h
theorem kC{B l:Λt U sg}{p:Nat}{f:SS U.D->Option (As U sg.codes)}(h:Cut U T P rl sg N js c0 B p f)(t:Vr U T P rl sg N js c0 B l):Vr U T P rl sg N js c0 B ((p,f)::l):=fun p' f' e=>by
 rw[Rn]at e;split at e
 ·rename_i e2;cases e;subst e2;exact h
 ·exact t p' f' e
structure XOk (U:Un)(T:Tab)(P:Program)(rl:List ResultVar)(sg:Sig)(N:Nat)(js:List Nat)(x:Λt U sg->Λt U sg->Ox U (As U sg.codes)):Prop where
 un:Ab U
 mix:P.follows .mixedOrders=true
 Λ: ∀a b,(x a b).Λ=a
 Λb: ∀a b,(x a b).Λb=b
 N: ∀a b,(x a b).N=N
 js: ∀a b,(x a b).js=js
 fin: ∀a b,(x a b).fin=Afl U T sg rl
 ok: ∀a b,N8 U T P (x a b)
variable {x:Λt U sg->Λt U sg->Ox U (As U sg.codes)}
theorem XOk.go (hx:XOk U T P rl sg N js x){Λ B:Λt U sg}(hc:Vr U T P rl sg N js c0 B Λ){F:Fr}{r:As U sg.codes}(hP:F.P=P)(hN:F.N=N)(he:F2 F T)(hm:F.m=Bc sg.ps+1){n p:Nat}{c:Code}{fr:List Fm}{S:SS U.D}
  (hp:1≤p) (hat:Li js c0 p=some (c,fr)) (hw:WF S) (h:go U T (x Λ B) n (.code c p) S fr=some r):W F c (S.toSt U) (QS U F js c0 r (Pk F U T rl sg r) B fr):=by
 subst hP
 have:=(Amh hx.un he (X:=x Λ B) (hx.ok Λ B) (by rw[hx.N,hN]) hx.mix (r:=r) (R0:=Pk F U T rl sg r) (c0:=c0) (fun S hw h=>by
  rw[hx.fin]at h;exact(Ajy hx.un he hm hw h).1) (fun p f hf=>by
  rw[hx.Λ]at hf;rw[hx.js,hx.Λb];exact hc p f hf F r rfl hN he hm) n).1 c p fr S hp (by rw[hx.js];exact hat) hw h
 rw[hx.js,hx.Λb]at this;exact this
theorem Sy{X:Ox U (As U sg.codes)}{p:Nat}{S:SS U.D}{r:As U sg.codes}(h:Afj U T X c0 p S=some r): ∃c fr,Li X.js c0 p=some (c,fr)∧go U T X 1000 (.code c p) S fr=some r:=by
 unfold Afj at h;split at h
 ·rename_i c fr e;exact⟨c,fr,e,h⟩
 ·cases h
theorem Amk (hx:XOk U T P rl sg N js x){Λ B:Λt U sg}{p:Nat}{h:El}{M:Af U h.codes->Option (As U sg.codes)}(hp:Nat.ble 1 p=true)(e: ∀q,M q=Afj U T (x Λ B) c0 (2*p+1) (h.emb U q))(hc:Vr U T P rl sg N js c0 B Λ):Cut U T P rl sg N js c0 B p (arr U T h M):=by
 intro F r hP hN he hm
 have hp:=Ep hp;refine⟨hp,fun c fr hat S1 hw hf=> ?_⟩;obtain⟨q,h1,h2,h3⟩:=Ac3 (F:=F) hx.un he hw hf;rw[e]at h1;obtain⟨c',fr',h4,h5⟩:=Sy h1;rw[hx.js]at h4
 have hg:=hx.go hc hP hN he hm (by omega) h4 h3 h5
 rw[Ac6 hp hat]at h4;refine⟨fun y hy=> ?_,fun a b hy=> ?_⟩
 ·subst hy;cases h4
 ·subst hy;cases h4;exact W.weakF h2 hg
def Sz (js:List Nat)(c0:Code)(p:Nat):Bool:=match Li js c0 p with
 |some (.loop _,_)=>true
 |_=>false
theorem Aml (hx:XOk U T P rl sg N js x){Λ:Nat->Λt U sg}{B:Λt U sg}{p:Nat}{h:El}{M:Nat->Af U h.codes->Option (As U sg.codes)}(hp:Nat.ble 1 p=true)(hk:Sz js c0 p=true)(e0: ∀q,M 0 q=none)(e: ∀n q,M (n+1) q=Afj U T (x (Λ n) ((p,arr U T h (M n))::B)) c0 (2*p) (h.emb U q))
  (hc: ∀n,Vr U T P rl sg N js c0 ((p,arr U T h (M n))::B) (Λ n)) (n:Nat):Cut U T P rl sg N js c0 B p (arr U T h (M n)):=by
 intro F r hP hN he hm
 have hp:=Ep hp;refine⟨hp,fun c fr hat S1 hw hf=>⟨fun y hy=> ?_,fun a b hy=> ?_⟩⟩
 ·subst hy;obtain⟨_,hlps⟩:=Ac7 p hp hat
  have hat2:=W8 hp hat
  have hat2:Li js c0 (2*p)=some (y,.lp p::fr):=hat2;refine Ahs (fun n S=> ∃S2:SS U.D,Do F S (S2.toSt U)∧WF S2∧arr U T h (M n) S2=some r) n ⟨S1,Do.refl _,hw,hf⟩ ?_;rintro n S ⟨S2,g1,g2,g3⟩;obtain⟨q,h1,h2,h3⟩:=Ac3 (F:=F) hx.un he g2 g3;cases n with
  |zero=>rw[e0]at h1;cases h1
  |succ n=>
   rw[e]at h1;obtain⟨c',fr',h4,h5⟩:=Sy h1;rw[hx.js,hat2]at h4;cases h4
   have hg:=hx.go (hc n) hP hN he hm (by omega) hat2 h3 h5
   refine W.weakF (g1.trans h2) (hg.mono fun e S' hq=> ?_)
   have hcong:QS U F js c0 r (Pk F U T rl sg r) ((p,arr U T h (M n))::B) fr=QS U F js c0 r (Pk F U T rl sg r) B fr:=Ss fr fun p' hp'=>Q68 _ _ (by have:=hlps p' hp';omega)
   have hq:Exit.andThen (BP U F r ((p,arr U T h (M n))::B) p) (QS U F js c0 r (Pk F U T rl sg r) ((p,arr U T h (M n))::B) fr) e S':=hq;rw[hcong]at hq;cases e with
   |normal=>
    obtain⟨f,S3,k1,k2,k3,k4⟩:=hq;rw[Aly]at k1;cases k1;exact⟨n,Nat.lt_succ_self n,S3,k2,k3,k4⟩
   |_=>exact hq
 ·subst hy;unfold Sz at hk;rw[hat]at hk;cases hk
def SV.isF{D:Nat->Type}:SV D->Bool
 | .fn .. | .ptrB .. =>true
 |_=>false
def Ew (H:List (SB U.D))(c:SV U.D):Prop:=(c.shut=true∧Ez c=true)∨(∃i j,c= .ptr i 0 j)∨c.isF=true∨c= .undef∨ ∃i n B,c= .own (i+1) 0 n∧H[i]? =some B∧n=B.len
def Ahn:SB U.D->Prop
 | .rows v _ _ _ _=>v=0
 | .box v cs=>v=0∧ ∀c∈cs,c.shut=true∧Ez c=true
 |_=>False
def Ada (as:List (SA U.D))(H:List (SB U.D)):Prop:=(∀a∈as,(∀xs,a≠ .t xs)∧ ∀c∈a.cells,Ew H c)∧ ∀B∈H,Ahn B
theorem Ew.app{H H':List (SB U.D)}{c:SV U.D}(h:Ew H c):Ew (H++H') c:=by
 rcases h with h|h|h|h|⟨i,n,B,h1,h2,h3⟩
 ·exact .inl h
 ·exact .inr (.inl h)
 ·exact .inr (.inr (.inl h))
 ·exact .inr (.inr (.inr (.inl h)))
 ·exact .inr (.inr (.inr (.inr ⟨i,n,B,h1,by rw[Fi (Z3.1 h2).1];exact h2,h3⟩)))
theorem Mv: ∀(as:List (SA U.D)) (n t:Nat),lk (Gz U n as) t=if n≤t then as[t - n]? else none:=by
 intro as
 induction as with
 |nil=>intro n t;simp[Gz,lk]
 |cons a r ih=>
  intro n t;simp only[Gz];rw[Rn,ih]
  by_cases h:t=n
  ·subst h;simp
  ·by_cases h2:n≤t
   ·rw[if_neg h,if_pos (by omega),if_pos h2,show t - n=(t - (n+1))+1 by omega];simp
   ·rw[if_neg h,if_neg (by omega),if_neg h2]
theorem Mw: ∀(H:List (SB U.D)) (n t:Nat),lk (J0 U n H) t=if n≤t then(H[t - n]?).map some else none:=by
 intro H
 induction H with
 |nil=>intro n t;simp[J0,lk]
 |cons a r ih=>
  intro n t;simp only[J0];rw[Rn,ih]
  by_cases h:t=n
  ·subst h;simp
  ·by_cases h2:n≤t
   ·rw[if_neg h,if_pos (by omega),if_pos h2,show t - n=(t - (n+1))+1 by omega];simp
   ·rw[if_neg h,if_neg (by omega),if_neg h2]
theorem Ajz (as:List (SA U.D))(H:List (SB U.D))(i:Nat):(Wn U as H).blk (i+1)=H[i]? :=by
 simp only[Wn,SS.blk,Mw];rw[if_pos (by omega),Nat.add_sub_cancel]
 cases H[i]? <;>rfl
theorem Kr (as:List (SA U.D))(H:List (SB U.D)):(Wn U as H).blk 0=none:=by
 simp only[Wn,SS.blk,Mw];rw[if_neg (by omega)]
theorem Agg (as:List (SA U.D))(H:List (SB U.D)):(Wn U as H).toSt U=Wb (as.map (SA.toA U)) (H.map (SB.toB U)):=by
 refine St.Sim.eq ⟨fun t=> ?_,fun i=> ?_,fun i=>rfl⟩
 ·show((Wn U as H).get t).toA U=((as.map (SA.toA U))[t]?).getD (.c .undef);simp only[Wn,SS.get,Mv];rw[if_pos (Z21 t),Nat.sub_zero,B5];cases as[t]? <;>rfl
 ·cases i with
  |zero=>show((Wn U as H).blk 0).map _=none;rw[Kr];rfl
  |succ i=>show((Wn U as H).blk (i+1)).map (SB.toB U)=(H.map (SB.toB U))[i]?;rw[Ajz,B5]
theorem Adb{as:List (SA U.D)}{H:List (SB U.D)}(h:Ada as H):WF (Wn U as H):=by
 have hcell: ∀c:SV U.D,Ew H c->c.ok (Wn U as H) (fun g=>((g - 2) / 2:Nat)):=by
  rintro c (h|⟨i,j,rfl⟩|hF|rfl|⟨i,n,B,rfl,h2,h3⟩)
  ·exact Q49 h.1 h.2
  ·trivial
  ·cases c<;>first|trivial|cases hF
  ·trivial
  ·refine⟨Nat.zero_lt_one,fun C hC _=> ?_⟩;rw[Ajz,h2]at hC;cases hC;exact h3
 refine⟨fun g=>((g - 2) / 2:Nat),fun n=>by simp,fun t v ht=> ?_,fun id B hB=> ?_⟩
 ·have ht:lk (Gz U 0 as) t=some v:=ht;rw[Mv,if_pos (Z21 t)]at ht;obtain⟨h1,h2⟩:=h.1 v (Z6 ht);cases v with
  |c v=>exact hcell v (h2 v (by simp[SA.cells]))
  |g cs=>exact fun c hc=>hcell c (h2 c hc)
  |t xs=>exact absurd rfl (h1 xs)
 ·cases id with
  |zero=>rw[Kr]at hB;cases hB
  |succ i=>
   rw[Ajz]at hB
   have:=h.2 B (Z6 hB);cases B with
   |rows v t d c l=>exact⟨by show v<1;rw[show v=0 from this];exact Nat.zero_lt_one,trivial⟩
   |box v cs=>exact⟨by show v<1;rw[this.1];exact Nat.zero_lt_one,fun c hc=>Q49 (this.2 c hc).1 (this.2 c hc).2⟩
   |_=>cases this
theorem Pl: ∀(cs:List (SV U.D)) (H:List (SB U.D)),(∀c∈cs,c.shut=true∧Ez c=true)-> ∀c∈(Q9 U H.length cs).1,Ew (H++(Q9 U H.length cs).2) c:=by
 intro cs
 induction cs with
 |nil=>intro H _ c hc;cases hc
 |cons v r ih=>
  intro H h c hc
  by_cases hx:isT v=true
  ·cases v with
   |rowT t d l=>
    simp only[Q9]at hc ⊢;rcases Di.1 hc with rfl|hc
    ·exact .inr (.inr (.inr (.inr ⟨H.length,l.length,.rows 0 t d false l,rfl,by rw[E0 (Z9 _),Nat.sub_self];rfl,rfl⟩)))
    ·have:=ih (H++[.rows 0 t d false l]) (fun c hc=>h c (by simp[hc])) c (by simpa using hc)
     simpa using this
   |_=>cases hx
  ·have hx:isT v=false:=by simpa using hx
   rw[Q26 hx]at hc ⊢;rcases Di.1 hc with rfl|hc
   ·exact .inl (h _ (by simp))
   ·exact ih H (fun c hc=>h c (by simp[hc])) c hc
theorem S4: ∀(cs:List (SV U.D)) (n:Nat),∀B∈(Q9 U n cs).2,Ahn B:=by
 intro cs
 induction cs with
 |nil=>intro n B hB;cases hB
 |cons v r ih=>
  intro n B hB
  by_cases hx:isT v=true
  ·cases v with
   |rowT t d l=>
    simp only[Q9]at hB;rcases Di.1 hB with rfl|hB
    ·rfl
    ·exact ih _ B hB
   |_=>cases hx
  ·have hx:isT v=false:=by simpa using hx
   rw[Q26 hx]at hB;exact ih n B hB
def W9 (U:Un):List PM->Prop
 |[]=>True
 | .w t md es::r=>(∀x,(Q9 U 0 (U.cO t md x)).2.length=es.length)∧W9 U r
 |_::r=>W9 U r
theorem Vs{ag:Bool}{cs:List (SV U.D)}{H:List (SB U.D)}(h: ∀c∈cs,Ew H c):(∀xs,Rl U ag cs≠ .t xs)∧ ∀c∈(Rl U ag cs).cells,Ew H c:=by
 cases ag with
 |true=>exact⟨(by intro xs e;cases e),h⟩
 |false=>
  refine⟨(by intro xs e;cases e),fun c hc=> ?_⟩
  have hc:c∈[cs.headD .undef]:=hc;simp only[Mx]at hc;subst hc;cases cs with
  |nil=>exact .inr (.inr (.inr (.inl rfl)))
  |cons v r=>exact h v (by simp)
theorem Y9{X:Type}: ∀(ts:List Nat) (m:FnC U ts X) {p q:List (Σ t,U.D t)->X->Prop},(∀rs m',p rs m'->q rs m')->Yb U ts p m->Yb U ts q m:=by
 intro ts
 induction ts with
 |nil=>intro m p q h hp;exact h _ _ hp
 |cons t ts ih=>intro m p q h hp x;exact ih (m x) (fun rs m' hr=>h _ m' hr) (hp x)
theorem Agh (hU:Ab U){f:FuncId}{X:Ox U (As U sg.codes)}(base: ∀as H r,Ada as H->as.length=sg.ps.length->H.length=Bc sg.ps->go U T X 1000 (.code c0 1) (Wn U as H) []=some r->Sp P f (as.map (SA.toA U)) (H.map (SB.toB U)) ((sg.res U r).toA U) ((sg.blks U r).map (SB.toB U))):
  ∀(ps:List PM) (n:Nat) (as:List (SA U.D)) (H:List (SB U.D)) (m:Wh U ps (Option (As U sg.codes))),W9 U ps->Ada as H->as.length+ps.length=sg.ps.length->H.length=n->H.length+Bc ps=Bc sg.ps->Ux U T X c0 ps n as H m->Rm U P f sg ps n as H m:=by
 intro ps
 induction ps with
 |nil=>
  intro n as H m _ he h1 _ h2 h r hr
  have h:m=go U T X 1000 (.code c0 1) (Wn U as H) []:=h;exact base as H r he (by simpa using h1) (by simpa[Bc]using h2) (by rw[←h];exact hr)
 |cons p ps ih=>
  intro n as H m hsig he h1 hn h2 h;cases p with
  |v t=>
   intro x;refine ih n (as++[Fq U t x]) H (m x) hsig ⟨fun a ha=> ?_,he.2⟩ (by simp at h1 ⊢;omega) hn h2 (h x)
   rcases Gh.1 ha with ha|ha
   ·exact he.1 a ha
   ·simp only[Mx]at ha;subst ha
    have hk: ∀c∈U.cs t x,Ew H c:=fun c hc=> .inl ⟨Z1.1 (hU.csSh t x) c hc,hU.cellsTag false t x c hc⟩;unfold Fq;split
    ·exact⟨(by intro xs e;cases e),hk⟩
    ·split
     ·rename_i v e;rw[e]at hk;exact⟨(by intro xs e;cases e),hk⟩
     ·refine⟨(by intro xs e;cases e),fun c hc=> ?_⟩
      have hc:c∈[SV.undef]:=hc;simp only[Mx]at hc;subst hc;exact .inr (.inr (.inr (.inl rfl)))
  |b t md=>
   intro x;refine ih (n+1) _ _ (m x) hsig ⟨fun a ha=> ?_,fun B hB=> ?_⟩ (by simp at h1 ⊢;omega) (by simp[hn]) (by simp[Bc]at h2 ⊢;omega) (h x)
   ·rcases Gh.1 ha with ha|ha
    ·exact⟨(he.1 a ha).1,fun c hc=>((he.1 a ha).2 c hc).app⟩
    ·simp only[Mx]at ha;subst ha;refine⟨(by intro xs e;cases e),fun c hc=> ?_⟩
     have hc:c∈[SV.ptr (n+1) 0 0]:=hc;simp only[Mx]at hc;exact .inr (.inl ⟨_,_,hc⟩)
   ·rcases Gh.1 hB with hB|hB
    ·exact he.2 B hB
    ·simp only[Mx]at hB;subst hB;exact⟨rfl,fun c hc=>⟨Z1.1 (hU.shut t md x) c hc,Z1.1 (hU.tagO t md x) c hc⟩⟩
  |w t md es=>
   intro x
   have hlen:(Q9 U n (U.cO t md x)).2.length=es.length:=by rw[Ac9 _ n 0];exact hsig.1 x
   subst hn;refine ih (H.length+es.length) _ _ (m x) hsig.2 ⟨fun a ha=> ?_,fun B hB=> ?_⟩ (by simp at h1 ⊢;omega) (by rw[Jh,hlen]) (by rw[Jh,hlen];simp[Bc]at h2;omega) (h x)
   ·rcases Gh.1 ha with ha|ha
    ·exact⟨(he.1 a ha).1,fun c hc=>((he.1 a ha).2 c hc).app⟩
    ·simp only[Mx]at ha;subst ha;exact Vs (Pl _ H fun c hc=>⟨Z1.1 (hU.shut t md x) c hc,Z1.1 (hU.tagO t md x) c hc⟩)
   ·rcases Gh.1 hB with hB|hB
    ·exact he.2 B hB
    ·exact S4 _ _ B hB
  |r t=>
   intro x;refine ih n _ H (m x) hsig ⟨fun a ha=> ?_,he.2⟩ (by simp at h1 ⊢;omega) hn h2 (h x)
   rcases Gh.1 ha with ha|ha
   ·exact he.1 a ha
   ·simp only[Mx]at ha;subst ha;refine⟨(by intro xs e;cases e),fun c hc=> ?_⟩
    have hc:c∈[SV.ptrB t x 0]:=hc;simp only[Mx]at hc;exact .inr (.inr (.inl (by rw[hc];rfl)))
  |f fid caps ts=>
   refine Y9 ts m (fun rs m' h=> ?_) h;refine ih n _ H m' hsig ⟨fun a ha=> ?_,he.2⟩ (by simp at h1 ⊢;omega) hn h2 h
   rcases Gh.1 ha with ha|ha
   ·exact he.1 a ha
   ·simp only[Mx]at ha;subst ha;refine⟨(by intro xs e;cases e),fun c hc=> ?_⟩
    have hc:c∈[SV.fn fid (caps.map fun i=>(i,0)) rs]:=hc;simp only[Mx]at hc;exact .inr (.inr (.inl (by rw[hc];rfl)))
theorem Aox (hx:XOk U T P rl sg N js x)(hT:Ae P T){Λ:Λt U sg}{f:FuncId}{fn:Func}{m:Wh U sg.ps (Option (As U sg.codes))}(e:Ux U T (x Λ []) c0 sg.ps 0 [] [] m)(hc:Vr U T P rl sg N js c0 [] Λ)(hf:P.funcs[f]? =some fn)(hname:(fn.name== "runtime.NumGoroutine")=false)(hb:fn.body=some c0)(hl:fn.results=rl.toArray)(hN:fn.ntmps=N)(hargs:Nat.ble sg.ps.length N=true)(hm:Nat.ble (Bc sg.ps+1) 100=true)(hl4:Nat.ble rl.length 4=true)(hs:W9 U sg.ps):
  Fl.Ok U P f ⟨sg,m⟩∧Ej P f:=by
 refine⟨?_,fn,hf,hname,by rw[hb];rfl⟩
 refine Agh hx.un (X:=x Λ []) (c0:=c0) (T:=T) (fun as H r hent has hH hg=> ?_) sg.ps 0 [] [] m hs ⟨by simp,by simp⟩ (by simp) rfl (by simp) e
 refine SpW hT hf hb hl N (Bc sg.ps+1) hl4 hN (by simpa[has]using hargs) (by simp[hH]) hm fun w0 σ0 β0 he=> ?_
 have hg:=hx.go (F:=⟨P,N,w0,σ0,β0,Bc sg.ps+1⟩) hc rfl rfl he rfl (Z9 1) rfl (Adb hent) hg;rw[Agg]at hg;intro a w hrs;refine wp_mono (hg a w hrs) ?_;rintro ex a' w' ⟨S,⟨hex,S1,h1,h2⟩,h3⟩;refine⟨S1,?_,h1 a' w' h3⟩;rw[Bu,hH];exact⟨hex,h2.2⟩
end
end Go.Eng
namespace Go.Eng
section
variable {U:Un} {T:Tab} {P:Program}
theorem gN: ∀f c,lk ([]:List (Nat×Fl U)) f=some c->Fl.Ok U P f c∧Ej P f:=fun f c h=>by cases h
theorem gC{f:Nat}{c:Fl U}{l:List (Nat×Fl U)}(h:Fl.Ok U P f c∧Ej P f)(t: ∀f c,lk l f=some c->Fl.Ok U P f c∧Ej P f): ∀f' c',lk ((f,c)::l) f'=some c'->Fl.Ok U P f' c'∧Ej P f':=fun f' c' e=>by
 rw[Rn]at e;split at e
 ·rename_i e2;cases e;subst e2;exact h
 ·exact t f' c' e
theorem oN: ∀d l,lk ([]:List (Nat×List (Nat×Fl U))) d=some l-> ∀f c,lk l f=some c->Fl.Ok U P f c∧Ej P f:=fun d l h=>by cases h
theorem oC{d:Nat}{l:List (Nat×Fl U)}{r:List (Nat×List (Nat×Fl U))}(h: ∀f c,lk l f=some c->Fl.Ok U P f c∧Ej P f)(t: ∀d l,lk r d=some l-> ∀f c,lk l f=some c->Fl.Ok U P f c∧Ej P f): ∀d' l',lk ((d,l)::r) d'=some l'-> ∀f c,lk l' f=some c->Fl.Ok U P f c∧Ej P f:=fun d' l' e=>by
 rw[Rn]at e;split at e
 ·cases e;exact h
 ·exact t d' l' e
def Amm (js:List Nat)(c0:Code)(p x:Nat):Bool:=match Li js c0 p with
 |some (_,fr)=>fr.all fun f=>match f with
  | .lp y=> !(Nat.beq y x)
  |_=>true
 |none=>true
theorem Aoy{rl:List ResultVar}{sg:Sig}{N:Nat}{js:List Nat}{c0:Code}{B:Λt U sg}{p x:Nat}{f g:SS U.D->Option (As U sg.codes)}(hn:Amm js c0 p x=true)(h:Cut U T P rl sg N js c0 B p f):Cut U T P rl sg N js c0 ((x,g)::B) p f:=by
 intro F r hP hN he hm;obtain⟨h1,h2⟩:=h F r hP hN he hm;refine⟨h1,fun c fr hat S1 hw hf=> ?_⟩
 have hq:QS U F js c0 r (Pk F U T rl sg r) ((x,g)::B) fr=QS U F js c0 r (Pk F U T rl sg r) B fr:=Ss fr fun p' hp'=>Q68 _ _ (by
  unfold Amm at hn;rw[hat]at hn
  have:=Z1.1 hn _ hp';intro e;subst e;simp at this)
 rw[hq];exact h2 c fr hat S1 hw hf
def eqT (l:List Nat)(t:Nat):Bool:=l.any (Nat.beq t)
theorem Agi{l:List Nat}(h:l.all (fun t=> !(P.eqGuardType P.depth t)&&F5 P T 20 t)=true):Abp P T (eqT l):=fun t ht=>by
 obtain⟨u,hu,e⟩:=List.any_eq_true.1 ht
 have:=A7 e;subst this
 have:=Z1.1 h _ hu;simpa using this
theorem xok (hU:Ab U)(hm:P.follows .mixedOrders=true){rl:List ResultVar}{sg:Sig}{N:Nat}{js:List Nat}{Γ:List (Nat×Fl U)}{ov:List (Nat×List (Nat×Fl U))}{eqOk:Nat->Bool}{spl:List Nat}{pre post:List (Nat×List Cmd)}(hΓ: ∀f c,lk Γ f=some c->Fl.Ok U P f c∧Ej P f)(hov: ∀d l,lk ov d=some l-> ∀f c,lk l f=some c->Fl.Ok U P f c∧Ej P f)(heq:Abp P T eqOk):
  XOk U T P rl sg N js (fun L B=>⟨Γ,ov,eqOk,N,spl,pre,post,js,L,B,Afl U T sg rl⟩):=
 ⟨hU,hm,fun _ _=>rfl,fun _ _=>rfl,fun _ _=>rfl,fun _ _=>rfl,fun _ _=>rfl,fun _ _=>⟨hΓ,heq,hov⟩⟩
theorem Av{α:Type}{f:α->List V}(h: ∀a,(f a).all V.fresh=true)(es:Nat)(l:List α):(V.row true es (l.map f)).fresh=true:=by
 show(true&&Q78 (l.map f))=true;rw[Z30];refine Ama fun x hx=> ?_;obtain⟨a,_,rfl⟩:=D9.1 hx;exact Kd (h a)
theorem Za (k:IntKind)(n:Int):(V.int k n).fresh=true:=rfl
theorem Zb (b:Bool):(V.bool b).fresh=true:=rfl
theorem Zc (s:ByteArray):(V.str s).fresh=true:=rfl
structure Dft (U:Un)(t:Nat):Prop where
 sz:U.sz t=0
 en: ∀x,U.en t x=[]
 eF: ∀x,U.eF t x=[]
 cs: ∀x,U.cs t x=[]
 cO: ∀m x,U.cO t m x=[]
 fS: ∀c,U.fS t c=none
 fO: ∀m c,U.fO t m c=none
theorem A9{U:Un}{t:Nat}(h: ∀j,U.far t j=false): ∀x j v,(U.eF t x)[j]? =some v->U.far t j=true->v.share=v:=fun x j v _ e=>by rw[h j]at e;cases e
structure G7 (U:Un)(t:Nat):Prop where
 en:En (U.en t) (U.sz t)
 eF:Fj (U.eF t) (U.en t) (U.sz t)
 cs: ∀x,(U.cs t x).map (SV.toV U)=U.en t x
 cO: ∀x,(U.cO t true x).map (SV.toV U)=U.eF t x
 shut: ∀m x,(U.cO t m x).all SV.shut=true
 fS: ∀c x,U.fS t c=some x->c.map (SV.toV U)=U.en t x
 fO: ∀m c x,U.fO t m c=some x->c.map (SV.toV U)=(U.cO t m x).map (SV.toV U)
 flat:U.flat t=true->U.eF t=U.en t
 csSh: ∀x,(U.cs t x).all SV.shut=true
 tagO: ∀m x,(U.cO t m x).all Ez=true
 fresh: ∀x,(!U.far t 1000||U.flat t)=true->(U.eF t x).all V.fresh=true
 csTag: ∀x,(U.cs t x).all Ez=true
 far: ∀x j v,(U.eF t x)[j]? =some v->U.far t j=true->v.share=v
theorem Dft.un1{t:Nat}(h:Dft U t):G7 U t:=by
 refine⟨⟨fun a=> ?_,fun a=> ?_,fun a=> ?_,fun a=> ?_⟩,⟨fun a=> ?_,fun a=> ?_,fun a=> ?_⟩,fun x=> ?_,fun x=> ?_,fun m x=> ?_,fun c x e=> ?_,fun m c x e=> ?_,fun _=> ?_,fun x=> ?_,fun m x=> ?_,fun x _=> ?_,fun x=> ?_,fun x j v hj _=> ?_⟩
 ·rw[h.en,h.sz];rfl
 ·rw[h.en];rfl
 ·rw[h.en];rfl
 ·rw[h.en];rfl
 ·rw[h.eF,h.sz];rfl
 ·rw[h.eF];rfl
 ·rw[h.eF,h.en];rfl
 ·rw[h.cs,h.en];rfl
 ·rw[h.cO,h.eF];rfl
 ·rw[h.cO];rfl
 ·rw[h.fS]at e;cases e
 ·rw[h.fO]at e;cases e
 ·funext x;rw[h.eF,h.en]
 ·rw[h.cs];rfl
 ·rw[h.cO];rfl
 ·rw[h.eF];rfl
 ·rw[h.cs];rfl
 ·rw[h.eF]at hj;simp at hj
theorem Ab.of (h: ∀t,G7 U t):Ab U:=⟨fun t=>(h t).en,fun t=>(h t).eF,fun t=>(h t).cs,fun t=>(h t).cO,fun t=>(h t).shut,fun t=>(h t).fS,fun t=>(h t).fO,fun t=>(h t).flat,fun t=>(h t).csSh,fun t=>(h t).tagO,fun t=>(h t).fresh,fun d t x c hc=>by
 cases d with
 |true=>exact Z1.1 ((h t).tagO true x) c hc
 |false=>exact Z1.1 ((h t).csTag x) c hc,fun t=>(h t).far⟩
end
end Go.Eng
namespace Go.Eng
open Go.Sort
def Q77 (l:List Int):Blk:=⟨0,1,l.map fun x=>[V.int .i64 x]⟩
theorem Agj{P:Program}{f:FuncId}
  (hs: ∀(blk off cap:Nat) (zs:List Int) (w:World),Holds (Value.int .i64) w blk off zs.toArray->blk<w.heap.size->zs.length<4611686018427387904→
   Calls P f #[.slice (some ⟨blk,off,none⟩) zs.length cap] w fun e w'=>e= .returned (.tuple #[])∧ ∃n os,w'=grow (putRow (Value.int .i64) (Sort.ahead w n) blk off (zs.mergeSort fun x y=>decide (x≤y)).toArray) os)
  (hn: ∀(p:Option Addr) (cap:Nat) (w:World),Calls P f #[.slice p 0 cap] w fun e w'=>e= .returned (.tuple #[])∧w'=w)
  (l:List Int) (hl:l.length<4611686018427387904):
  Sp P f [.c (.own 1 0 0 l.length)] [Q77 l] (.t []) [Q77 (l.mergeSort fun x y=>decide (x≤y))]:=by
 intro vals w σ β hr hsz hargs;obtain⟨v,e0,h0⟩:=hargs 0 _ rfl
 have hvals:vals= #[v]:=by
  apply Array.ext_getElem?;intro i
  match i with
  |0=>exact e0
  |i+1=>rw[Array.getElem?_eq_none (by simp at hsz;omega)];rfl
 subst hvals;obtain⟨A,cap,rfl,hv,hcap,hmax,hb⟩:=Aaf h0;obtain⟨hin,hat⟩:=hb (Q77 l) rfl rfl
 have hres: ∀E,RA E (.t []) (.tuple #[]):=fun E=> .t [] #[] (fun _=>default) rfl (fun i v hi=>by simp at hi) (fun i v hi=>by simp at hi)
 cases hl0:l with
 |nil=>
  subst hl0;refine(hn A cap w).mono ?_;rintro e w' ⟨rfl,rfl⟩;refine⟨_,σ,β,rfl,.refl _ _,fun _ _=>rfl,Z9 _,?_,hres _⟩;simpa using hr
 |cons y ys=>
  rw[←hl0]
  have hpos:0<l.length:=by rw[hl0];simp
  rcases hat with hat|⟨b,o,n,hβ,rfl,hcn⟩
  ·omega
  have hblk:=(hr.blk 1 (Q77 l) rfl).2;obtain⟨hσ,hes,hln,arr,T,hh,hasz,hc⟩:=hblk.some hβ;simp only[Q77,Bu,Nat.mul_one,Nat.zero_mul,Nat.add_zero]at hes hln hasz hc hcn ⊢
  have hcell: ∀j x,l[j]? =some x->arr[o+j]? =some (.int .i64 x):=by
   intro j x hj;obtain⟨c,c1,c2⟩:=hc j 0 [V.int .i64 x] (V.int .i64 x) (by simp[hj]) rfl
   cases c2 with
   |c h=>cases h;exact c1
  have hlt:b<w.heap.size:=Xj hh
  have hH:Holds (Value.int .i64) w b o l.toArray:=by
   intro j hj
   have hj':j<l.length:=by simpa using hj
   refine⟨?_,by simp[World.frozen?,hh]⟩
   rw[Zo hh,hcell j l[j] (Eh hj')];simp[hj']
  refine(hs b o cap l w hH hlt hl).mono ?_;rintro e w' ⟨rfl,m,os,rfl⟩
  have hb':(grow (putRow (Value.int .i64) (Sort.ahead w m) b o (l.mergeSort fun x y=>decide (x≤y)).toArray) os).heap[b]? =some (.cells (Go.Sort.putCells (Value.int .i64) o (l.mergeSort fun x y=>decide (x≤y)).toArray arr) T (0,0)):=by
   rw[heap_grow_old _ _ (by simpa using hlt)]
   simp[putRow,mapBlock,Sort.ahead,Array.getElem?_modify,hh,onCells]
  have ho': ∀k,k<w.heap.size->k≠b->(grow (putRow (Value.int .i64) (Sort.ahead w m) b o (l.mergeSort fun x y=>decide (x≤y)).toArray) os).heap[k]? =w.heap[k]? :=by
   intro k hk hne;rw[heap_grow_old _ _ (by simpa using hk)]
   have:b≠k:=fun e=>hne e.symm;simp[putRow,mapBlock,Sort.ahead,Array.getElem?_modify,this]
  have hlen:(l.mergeSort fun x y=>decide (x≤y)).length=l.length:=List.length_mergeSort _;refine⟨_,σ,β,rfl,⟨rfl,rfl,rfl,by simp,fun k hk hk2=> ?_,fun _ _ _=>rfl⟩,fun _ _=>rfl,Z9 _,⟨rfl,fun id B hB=> ?_,fun k hk=>hr.new k ?_⟩,hres _⟩
  ·refine ho' k hk fun e=> ?_;subst e;simp only at hσ;rw[hσ]at hk2;rcases hk2 with h|h<;>simp at h
  ·match id,hB with
   |1,hB=>
    simp only[Ei,Gj,Z7]at hB;subst hB;refine⟨by simp[Q77],?_⟩
    refine .mk hβ ⟨hσ,by simp[Q77],by simp[Q77,hlen];omega,_,T,hb',by simp[Q77,Go.Sort.putCells];omega,?_⟩
    intro k j x v hk hj;simp only[Q77,B5]at hk;obtain⟨z,h1,rfl⟩:=Z5.1 hk
    match j,hj with
    |0,hj=>
     simp only[Gj,Z7]at hj;subst hj
     have hk3:k<(l.mergeSort fun x y=>decide (x≤y)).length:=(Z3.1 h1).1;refine⟨.int .i64 z,?_,.c (.int _ _ _)⟩
     have h4:(l.mergeSort fun x y=>decide (x≤y))[k]=z:=(Z3.1 h1).2;simp only[Q77,Nat.mul_one,Nat.add_zero,Go.Sort.putCells,Array.getElem?_mapIdx];rw[Array.getElem?_eq_getElem (by omega)]
     simp only[Hf,List.size_toArray];rw[if_pos ⟨by omega,by omega⟩]
     simp[h1]
  ·have:w.heap.size≤(grow (putRow (Value.int .i64) (Sort.ahead w m) b o (l.mergeSort fun x y=>decide (x≤y)).toArray) os).heap.size:=by simp
   exact Tg this hk
end Go.Eng
